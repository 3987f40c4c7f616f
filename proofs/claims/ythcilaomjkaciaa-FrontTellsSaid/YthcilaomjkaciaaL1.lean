/- each function computes what its model says (1) -/
import Derived.Test.YthcilaomjkaciaaL0
namespace Go.Proofs.Ythcilaomjkaciaa.K
open Go.RowKit Go.Lib
set_option linter.unusedVariables false
set_option linter.unusedSimpArgs false

set_option maxRecDepth 20000 in
set_option maxHeartbeats 4000000 in
theorem ok_slices_symMergeCmpFunc_tally_Change__tally_order : ∀ (fuR : Nat) (p0 : (List GChange)) (p1 : Int) (p2 : Int) (p3 : Int) (r : (List GChange)) (h : m_slices_symMergeCmpFunc_tally_Change__tally_order fuR p0 p1 p2 p3 = some r), GCall Try.prog 33 [(.own 0), (.d (.lit (.int .i64 p1))), (.d (.lit (.int .i64 p2))), (.d (.lit (.int .i64 p3))), (.clo (.func 24) [] [])] [(.arr 43 3 (List.length p0) (flatD enc_GChange p0))] (.tup []) [(.arr 43 3 (List.length r) (flatD enc_GChange r))] := by
  intro fuR; induction fuR with
  | zero => intro p0 p1 p2 p3 r h; exact absurd h (by unfold m_slices_symMergeCmpFunc_tally_Change__tally_order; simp)
  | succ fuR ih =>
  intro p0 p1 p2 p3 r h
  refine GCall.of_body (n := 220) (rs := []) Try.func33 rfl rfl rfl ?_
  refine Ato ⟨((.own 0) :: ((.d (.lit (.int .i64 p1))) :: ((.d (.lit (.int .i64 p2))) :: ((.d (.lit (.int .i64 p3))) :: ((.clo (.func 24) [] []) :: (tu 215 [])))))), [(.arr 43 3 (List.length p0) (flatD enc_GChange p0))], 1⟩ ?_
  have hm := h
  unfold m_slices_symMergeCmpFunc_tally_Change__tally_order at hm
  refine AWP.seq ?_
  refine AWP.seq ?_
  refine AWP.text ?_
  refine Wy (.d (.lit (.int .i64 p2))) [] (Omv rfl) ?_
  refine Wy (.d (.lit (.int .i64 p1))) [] (Omv rfl) ?_
  refine Wy (.d (.lit (.int .i64 (IntKind.i64.wrap (p2 - p1))))) [] (Obn rfl (fun _ => hb_sub (k := .i64))) ?_
  refine Wy (.d (.lit (.bool (decide ((IntKind.i64.wrap (p2 - p1)) = 1))))) [] (Obn rfl (fun _ => hb_eql (k := .i64))) ?_
  refine Walk.nil ?_
  refine Then.normal ?_
  refine Amk 268435487 1 ⟨((.own 0) :: ((.d (.lit (.int .i64 p1))) :: ((.d (.lit (.int .i64 p2))) :: ((.d (.lit (.int .i64 p3))) :: ((.clo (.func 24) [] []) :: (tp 23 ((.d (.lit (.bool (decide ((IntKind.i64.wrap (p2 - p1)) = 1))))) :: (tp 191 [])))))))), [(.arr 43 3 (List.length p0) (flatD enc_GChange p0))], 1⟩ ?_
  rcases tf_ (decide ((IntKind.i64.wrap (p2 - p1)) = 1)) with hc28_27 | hc28_27
  · replace hm := cT hc28_27 hm
    refine AWP.if_ true (Eq.trans (by kernel_rfl) (lit_tf (b := decide ((IntKind.i64.wrap (p2 - p1)) = 1)) hc28_27)) ?_
    refine AWP.seq ?_
    refine AWP.text ?_
    refine Wy (.d (.lit (.int .i64 p2))) [] (Omv rfl) ?_
    refine Wy (.d (.lit (.int .i64 p2))) [] (Omv rfl) ?_
    refine Walk.nil ?_
    refine Then.normal ?_
    refine Amk 1051 1 ⟨((.own 0) :: ((.d (.lit (.int .i64 p1))) :: (tp 1 ((.d (.lit (.int .i64 p3))) :: ((.clo (.func 24) [] []) :: (tp 5 ((.d (.lit (.int .i64 p2))) :: (tp 209 [])))))))), [(.arr 43 3 (List.length p0) (flatD enc_GChange p0))], 1⟩ ?_
    refine AWP.seq ?_
    refine AWP.text ?_
    refine Wy (.d (.lit (.int .i64 p3))) [] (Omv rfl) ?_
    refine Wy (.d (.lit (.int .i64 p3))) [] (Omv rfl) ?_
    refine Walk.nil ?_
    refine Then.normal ?_
    refine Amk 3091 1 ⟨((.own 0) :: ((.d (.lit (.int .i64 p1))) :: (tp 2 ((.clo (.func 24) [] []) :: (tp 5 ((.d (.lit (.int .i64 p2))) :: ((.d (.lit (.int .i64 p3))) :: (tp 208 [])))))))), [(.arr 43 3 (List.length p0) (flatD enc_GChange p0))], 1⟩ ?_
    refine AWP.seq ?_
    refine AWP.block ?_
    refine AWP.loopI (α := Nat × Int × Int)
      (fun x => match x with | (fu_0, y10_0, y11_0) => (⟨((.own 0) :: ((.d (.lit (.int .i64 p1))) :: (tp 2 ((.clo (.func 24) [] []) :: (tp 5 ((.d (.lit (.int .i64 y10_0))) :: ((.d (.lit (.int .i64 y11_0))) :: (tp 208 [])))))))), [(.arr 43 3 (List.length p0) (flatD enc_GChange p0))], 1⟩ : St))
      (fun x => match x with | (fu_0, y10_0, y11_0) => m_slices_symMergeCmpFunc_tally_Change__tally_order_l0 p0 p1 fu_0 y10_0 y11_0 = some r)
      (fun x => match x with | (fu_0, y10_0, y11_0) => fu_0) (1152921504606846976, p2, p3)
      (Weak.toK 3091 0 0 [0]) hm ?_
    rintro ⟨fu_0, y10_0, y11_0⟩ n_0 hm ih_0
    try dsimp only at hm ih_0 ⊢
    cases fu_0 with
    | zero => exact absurd hm (by unfold m_slices_symMergeCmpFunc_tally_Change__tally_order_l0; simp)
    | succ fu_0 =>
      unfold m_slices_symMergeCmpFunc_tally_Change__tally_order_l0 at hm
      refine AWP.seq ?_
      refine AWP.seq ?_
      refine AWP.text ?_
      refine Wy (.d (.lit (.int .i64 y10_0))) [] (Omv rfl) ?_
      refine Wy (.d (.lit (.int .i64 y11_0))) [] (Omv rfl) ?_
      refine Wy (.d (.lit (.bool (decide (y10_0 < y11_0))))) [] (Obn rfl (fun _ => hb_lss (k := .i64))) ?_
      refine Walk.nil ?_
      refine Then.normal ?_
      refine Amk 8589937683 1 ⟨((.own 0) :: ((.d (.lit (.int .i64 p1))) :: (tp 2 ((.clo (.func 24) [] []) :: (tp 5 ((.d (.lit (.int .i64 y10_0))) :: ((.d (.lit (.int .i64 y11_0))) :: (tp 21 ((.d (.lit (.bool (decide (y10_0 < y11_0))))) :: (tp 186 [])))))))))), [(.arr 43 3 (List.length p0) (flatD enc_GChange p0))], 1⟩ ?_
      rcases tf_ (decide (y10_0 < y11_0)) with hc33_28 | hc33_28
      · replace hm := cT hc33_28 hm
        refine AWP.if_ true (Eq.trans (by kernel_rfl) (lit_tf (b := decide (y10_0 < y11_0)) hc33_28)) ?_
        refine AWP.skip ?_
        refine Then.normal ?_
        refine Amk 3091 1 ⟨((.own 0) :: ((.d (.lit (.int .i64 p1))) :: (tp 2 ((.clo (.func 24) [] []) :: (tp 5 ((.d (.lit (.int .i64 y10_0))) :: ((.d (.lit (.int .i64 y11_0))) :: (tp 208 [])))))))), [(.arr 43 3 (List.length p0) (flatD enc_GChange p0))], 1⟩ ?_
        refine AWP.block ?_
        refine AWP.seq ?_
        refine AWP.text ?_
        refine Wy (.d (.lit (.int .i64 y10_0))) [] (Omv rfl) ?_
        refine Wy (.d (.lit (.int .i64 y11_0))) [] (Omv rfl) ?_
        refine Wy (.d (.lit (.int .i64 (IntKind.i64.wrap (y10_0 + y11_0))))) [] (Obn rfl (fun _ => hb_add (k := .i64))) ?_
        refine Wy (.d (.lit (.int .u64 (IntKind.u64.wrap (IntKind.i64.wrap (y10_0 + y11_0)))))) [] (Ocs (by kernel_rfl) (op_convert rfl (a1 := .int .i64 (IntKind.i64.wrap (y10_0 + y11_0))) (by kernel_rfl) (run_conv (ds := .int .i64) (k' := .u64) (by kernel_rfl) (by kernel_rfl)))) ?_
        refine Wy (.d (.lit (.int .u64 (Int.fdiv (IntKind.u64.wrap (IntKind.i64.wrap (y10_0 + y11_0))) (2 ^ 1))))) [] (Ocs (by kernel_rfl) (op_bin rfl (a1 := .int .u64 (IntKind.u64.wrap (IntKind.i64.wrap (y10_0 + y11_0)))) (a2 := .int .u64 1) (by kernel_rfl) (by kernel_rfl) (fun _ => hb_shr (n := 1) (by decide) rfl))) ?_
        refine Wy (.d (.lit (.int .i64 (IntKind.i64.wrap (Int.fdiv (IntKind.u64.wrap (IntKind.i64.wrap (y10_0 + y11_0))) (2 ^ 1)))))) [] (Ocs (by kernel_rfl) (op_convert rfl (a1 := .int .u64 (Int.fdiv (IntKind.u64.wrap (IntKind.i64.wrap (y10_0 + y11_0))) (2 ^ 1))) (by kernel_rfl) (run_conv (ds := .int .u64) (k' := .i64) (by kernel_rfl) (by kernel_rfl)))) ?_
        refine Wy (.d (.lit (.int .i64 (IntKind.i64.wrap (Int.fdiv (IntKind.u64.wrap (IntKind.i64.wrap (y10_0 + y11_0))) (2 ^ 1)))))) [] (Omv rfl) ?_
        refine Walk.nil ?_
        refine Then.normal ?_
        refine Amk 7187 1 ⟨((.own 0) :: ((.d (.lit (.int .i64 p1))) :: (tp 2 ((.clo (.func 24) [] []) :: (tp 5 ((.d (.lit (.int .i64 y10_0))) :: ((.d (.lit (.int .i64 y11_0))) :: ((.d (.lit (.int .i64 (IntKind.i64.wrap (Int.fdiv (IntKind.u64.wrap (IntKind.i64.wrap (y10_0 + y11_0))) (2 ^ 1)))))) :: (tp 207 []))))))))), [(.arr 43 3 (List.length p0) (flatD enc_GChange p0))], 1⟩ ?_
        refine AWP.seq ?_
        refine Adr ?_
        refine Wy (.clo (.func 24) [] []) [] (Omv rfl) ?_
        refine Wy (.own 0) [] (Omv rfl) ?_
        refine Wy (.d (.lit (.int .i64 (IntKind.i64.wrap (Int.fdiv (IntKind.u64.wrap (IntKind.i64.wrap (y10_0 + y11_0))) (2 ^ 1)))))) [] (Omv rfl) ?_
        obtain ⟨x43_2, hx43_2, hm⟩ := bnd hm
        obtain ⟨hx43_2i, hx43_2g⟩ := geti_some hx43_2
        refine Wy (.loc 0 ((Int.toNat (IntKind.i64.wrap (Int.fdiv (IntKind.u64.wrap (IntKind.i64.wrap (y10_0 + y11_0))) (2 ^ 1)))) * 3)) [] (Oia rfl enc_GChange_len hx43_2i hx43_2g) ?_
        refine Wy (.agg [(.d (.lit (.int .i64 x43_2.Loc))), (.d (.lit (.int .i64 x43_2.Time))), (.d (.lit (.int .i64 x43_2.N)))]) [] (Lr rfl enc_GChange_len hx43_2g) ?_
        refine Wy (.own 0) [] (Omv rfl) ?_
        refine Wy (.d (.lit (.int .i64 p1))) [] (Omv rfl) ?_
        obtain ⟨x47_2, hx47_2, hm⟩ := bnd hm
        obtain ⟨hx47_2i, hx47_2g⟩ := geti_some hx47_2
        refine Wy (.loc 0 ((Int.toNat p1) * 3)) [] (Oia rfl enc_GChange_len hx47_2i hx47_2g) ?_
        refine Wy (.agg [(.d (.lit (.int .i64 x47_2.Loc))), (.d (.lit (.int .i64 x47_2.Time))), (.d (.lit (.int .i64 x47_2.N)))]) [] (Lr rfl enc_GChange_len hx47_2g) ?_
        obtain ⟨r49_2, hr49_2, hm⟩ := bnd hm
        refine Wy (.d (.lit (.int .i64 r49_2))) [] (Ocf [] [] [] 0 (ok_tally_order x43_2 x47_2 r49_2 hr49_2) (fun a w => Try.call24 a w) rfl trivial) ?_
        refine Wy (.d (.lit (.bool (decide (r49_2 < 0))))) [] (Obn rfl (fun _ => hb_lss (k := .i64))) ?_
        refine Wdr ?_
        refine Then.normal ?_
        refine Amk 1125899906849811 1 ⟨((.own 0) :: ((.d (.lit (.int .i64 p1))) :: (tp 2 ((.clo (.func 24) [] []) :: (tp 5 ((.d (.lit (.int .i64 y10_0))) :: ((.d (.lit (.int .i64 y11_0))) :: ((.d (.lit (.int .i64 (IntKind.i64.wrap (Int.fdiv (IntKind.u64.wrap (IntKind.i64.wrap (y10_0 + y11_0))) (2 ^ 1)))))) :: (tp 37 ((.d (.lit (.bool (decide (r49_2 < 0))))) :: (tp 169 []))))))))))), [(.arr 43 3 (List.length p0) (flatD enc_GChange p0))], 1⟩ ?_
        rcases tf_ (decide (r49_2 < 0)) with hc50_29 | hc50_29
        · replace hm := cT hc50_29 hm
          refine AWP.if_ true (Eq.trans (by kernel_rfl) (lit_tf (b := decide (r49_2 < 0)) hc50_29)) ?_
          refine AWP.text ?_
          refine Wy (.d (.lit (.int .i64 (IntKind.i64.wrap (Int.fdiv (IntKind.u64.wrap (IntKind.i64.wrap (y10_0 + y11_0))) (2 ^ 1)))))) [] (Omv rfl) ?_
          obtain ⟨v52_3, hv52_3, hm⟩ := bnd hm; replace hv52_3 := Option.some.inj hv52_3
          refine Wy (.d (.lit (.int .i64 v52_3))) [] (Ocs (congrArg (fun z => A.d (.lit (.int .i64 z))) hv52_3) (Obn rfl (fun _ => hb_add (k := .i64)))) ?_
          refine Wy (.d (.lit (.int .i64 v52_3))) [] (Omv rfl) ?_
          refine Walk.nil ?_
          refine InBlock.normal ?_
          refine RoundK.normal ?_
          exact Rounds.weak (Weak.toK 3091 0 0 [0]) (ih_0 (fu_0, v52_3, y11_0) hm (Nat.lt_succ_self _))
        · replace hm := cF hc50_29 hm
          refine AWP.if_ false (Eq.trans (by kernel_rfl) (lit_tf (b := decide (r49_2 < 0)) hc50_29)) ?_
          refine AWP.text ?_
          refine Wy (.d (.lit (.int .i64 (IntKind.i64.wrap (Int.fdiv (IntKind.u64.wrap (IntKind.i64.wrap (y10_0 + y11_0))) (2 ^ 1)))))) [] (Omv rfl) ?_
          refine Wy (.d (.lit (.int .i64 (IntKind.i64.wrap (Int.fdiv (IntKind.u64.wrap (IntKind.i64.wrap (y10_0 + y11_0))) (2 ^ 1)))))) [] (Omv rfl) ?_
          refine Walk.nil ?_
          refine InBlock.normal ?_
          refine RoundK.normal ?_
          exact Rounds.weak (Weak.toK 3091 0 0 [0]) (ih_0 (fu_0, y10_0, (IntKind.i64.wrap (Int.fdiv (IntKind.u64.wrap (IntKind.i64.wrap (y10_0 + y11_0))) (2 ^ 1)))) hm (Nat.lt_succ_self _))
      · replace hm := cF hc33_28 hm
        refine AWP.if_ false (Eq.trans (by kernel_rfl) (lit_tf (b := decide (y10_0 < y11_0)) hc33_28)) ?_
        refine AWP.exit ?_
        refine Then.exit ?_
        refine RoundK.exit ?_
        refine InBlock.same ?_
        refine Then.normal ?_
        refine Amk 1027 1 ⟨((.own 0) :: ((.d (.lit (.int .i64 p1))) :: (tp 8 ((.d (.lit (.int .i64 y10_0))) :: (tp 209 []))))), [(.arr 43 3 (List.length p0) (flatD enc_GChange p0))], 1⟩ ?_
        refine AWP.seq ?_
        refine AWP.seq ?_
        refine AWP.text ?_
        refine Wy (.d (.lit (.int .i64 p1))) [] (Omv rfl) ?_
        refine Wy (.d (.lit (.int .i64 p1))) [] (Omv rfl) ?_
        refine Walk.nil ?_
        refine Then.normal ?_
        refine Amk 9217 1 ⟨((.own 0) :: (tp 9 ((.d (.lit (.int .i64 y10_0))) :: (tp 2 ((.d (.lit (.int .i64 p1))) :: (tp 206 [])))))), [(.arr 43 3 (List.length p0) (flatD enc_GChange p0))], 1⟩ ?_
        refine AWP.block ?_
        refine AWP.loopI (α := Nat × (List GChange) × Int)
          (fun x => match x with | (fu_4, y0_4, y13_4) => (⟨((.own 0) :: (tp 9 ((.d (.lit (.int .i64 y10_0))) :: (tp 2 ((.d (.lit (.int .i64 y13_4))) :: (tp 206 [])))))), [(.arr 43 3 (List.length y0_4) (flatD enc_GChange y0_4))], 1⟩ : St))
          (fun x => match x with | (fu_4, y0_4, y13_4) => m_slices_symMergeCmpFunc_tally_Change__tally_order_l4 y10_0 fu_4 y0_4 y13_4 = some r)
          (fun x => match x with | (fu_4, y0_4, y13_4) => fu_4) (1152921504606846976, p0, p1)
          (Weak.toK 9217 0 0 [0]) hm ?_
        rintro ⟨fu_4, y0_4, y13_4⟩ n_4 hm ih_4
        try dsimp only at hm ih_4 ⊢
        cases fu_4 with
        | zero => exact absurd hm (by unfold m_slices_symMergeCmpFunc_tally_Change__tally_order_l4; simp)
        | succ fu_4 =>
          unfold m_slices_symMergeCmpFunc_tally_Change__tally_order_l4 at hm
          refine AWP.seq ?_
          refine AWP.seq ?_
          refine AWP.text ?_
          refine Wy (.d (.lit (.int .i64 y13_4))) [] (Omv rfl) ?_
          refine Wy (.d (.lit (.int .i64 y10_0))) [] (Omv rfl) ?_
          refine Wy (.d (.lit (.int .i64 (IntKind.i64.wrap (y10_0 - 1))))) [] (Obn rfl (fun _ => hb_sub (k := .i64))) ?_
          refine Wy (.d (.lit (.bool (decide (y13_4 < (IntKind.i64.wrap (y10_0 - 1))))))) [] (Obn rfl (fun _ => hb_lss (k := .i64))) ?_
          refine Walk.nil ?_
          refine Then.normal ?_
          refine Amk 288230376151720961 1 ⟨((.own 0) :: (tp 9 ((.d (.lit (.int .i64 y10_0))) :: (tp 2 ((.d (.lit (.int .i64 y13_4))) :: (tp 44 ((.d (.lit (.bool (decide (y13_4 < (IntKind.i64.wrap (y10_0 - 1))))))) :: (tp 161 [])))))))), [(.arr 43 3 (List.length y0_4) (flatD enc_GChange y0_4))], 1⟩ ?_
          rcases tf_ (decide (y13_4 < (IntKind.i64.wrap (y10_0 - 1)))) with hc58_30 | hc58_30
          · replace hm := cT hc58_30 hm
            refine AWP.if_ true (Eq.trans (by kernel_rfl) (lit_tf (b := decide (y13_4 < (IntKind.i64.wrap (y10_0 - 1)))) hc58_30)) ?_
            refine AWP.skip ?_
            refine Then.normal ?_
            refine Amk 9217 1 ⟨((.own 0) :: (tp 9 ((.d (.lit (.int .i64 y10_0))) :: (tp 2 ((.d (.lit (.int .i64 y13_4))) :: (tp 206 [])))))), [(.arr 43 3 (List.length y0_4) (flatD enc_GChange y0_4))], 1⟩ ?_
            refine AWP.seq ?_
            refine AWP.block ?_
            refine Adr ?_
            refine Wy (.own 0) [] (Omv rfl) ?_
            refine Wy (.d (.lit (.int .i64 y13_4))) [] (Omv rfl) ?_
            refine Wy (.own 0) [] (Omv rfl) ?_
            refine Wy (.d (.lit (.int .i64 y13_4))) [] (Omv rfl) ?_
            refine Wy (.d (.lit (.int .i64 (IntKind.i64.wrap (y13_4 + 1))))) [] (Obn rfl (fun _ => hb_add (k := .i64))) ?_
            refine Wy (.own 0) [] (Omv rfl) ?_
            refine Wy (.d (.lit (.int .i64 y13_4))) [] (Omv rfl) ?_
            refine Wy (.d (.lit (.int .i64 (IntKind.i64.wrap (y13_4 + 1))))) [] (Obn rfl (fun _ => hb_add (k := .i64))) ?_
            obtain ⟨x69_5, hx69_5, hm⟩ := bnd hm
            obtain ⟨hx69_5i, hx69_5g⟩ := geti_some hx69_5
            refine Wy (.loc 0 ((Int.toNat (IntKind.i64.wrap (y13_4 + 1))) * 3)) [] (Oia rfl enc_GChange_len hx69_5i hx69_5g) ?_
            refine Wy (.agg [(.d (.lit (.int .i64 x69_5.Loc))), (.d (.lit (.int .i64 x69_5.Time))), (.d (.lit (.int .i64 x69_5.N)))]) [] (Lr rfl enc_GChange_len hx69_5g) ?_
            refine Wy (.own 0) [] (Omv rfl) ?_
            refine Wy (.d (.lit (.int .i64 y13_4))) [] (Omv rfl) ?_
            obtain ⟨x73_5, hx73_5, hm⟩ := bnd hm
            obtain ⟨hx73_5i, hx73_5g⟩ := geti_some hx73_5
            refine Wy (.loc 0 ((Int.toNat y13_4) * 3)) [] (Oia rfl enc_GChange_len hx73_5i hx73_5g) ?_
            refine Wy (.agg [(.d (.lit (.int .i64 x73_5.Loc))), (.d (.lit (.int .i64 x73_5.Time))), (.d (.lit (.int .i64 x73_5.N)))]) [] (Lr rfl enc_GChange_len hx73_5g) ?_
            obtain ⟨x75_5, hx75_5, hm⟩ := bnd hm
            obtain ⟨hx75_5i, hx75_5g⟩ := geti_some hx75_5
            refine Wy (.loc 0 ((Int.toNat y13_4) * 3)) [] (Oia rfl enc_GChange_len hx75_5i hx75_5g) ?_
            refine Wy (.tup []) [(0, (.arr 43 3 (List.length (List.set y0_4 (Int.toNat y13_4) x69_5)) (flatD enc_GChange (List.set y0_4 (Int.toNat y13_4) x69_5))))] (Osr 0 rfl enc_GChange_len hx75_5g x69_5) ?_
            obtain ⟨x76_5, hx76_5, hm⟩ := bnd hm
            obtain ⟨hx76_5i, hx76_5g⟩ := geti_some hx76_5
            refine Wy (.loc 0 ((Int.toNat (IntKind.i64.wrap (y13_4 + 1))) * 3)) [] (Oia rfl enc_GChange_len hx76_5i hx76_5g) ?_
            refine Wy (.tup []) [(0, (.arr 43 3 (List.length (List.set (List.set y0_4 (Int.toNat y13_4) x69_5) (Int.toNat (IntKind.i64.wrap (y13_4 + 1))) x73_5)) (flatD enc_GChange (List.set (List.set y0_4 (Int.toNat y13_4) x69_5) (Int.toNat (IntKind.i64.wrap (y13_4 + 1))) x73_5))))] (Osr 0 rfl enc_GChange_len hx76_5g x73_5) ?_
            refine Wdr ?_
            refine InBlock.normal ?_
            refine Then.normal ?_
            refine Amk 9217 1 ⟨((.own 0) :: (tp 9 ((.d (.lit (.int .i64 y10_0))) :: (tp 2 ((.d (.lit (.int .i64 y13_4))) :: (tp 206 [])))))), [(.arr 43 3 (List.length (List.set (List.set y0_4 (Int.toNat y13_4) x69_5) (Int.toNat (IntKind.i64.wrap (y13_4 + 1))) x73_5)) (flatD enc_GChange (List.set (List.set y0_4 (Int.toNat y13_4) x69_5) (Int.toNat (IntKind.i64.wrap (y13_4 + 1))) x73_5)))], 1⟩ ?_
            refine AWP.text ?_
            refine Wy (.d (.lit (.int .i64 y13_4))) [] (Omv rfl) ?_
            refine Wy (.d (.lit (.int .i64 (IntKind.i64.wrap (y13_4 + 1))))) [] (Obn rfl (fun _ => hb_add (k := .i64))) ?_
            refine Wy (.d (.lit (.int .i64 (IntKind.i64.wrap (y13_4 + 1))))) [] (Omv rfl) ?_
            refine Walk.nil ?_
            refine RoundK.normal ?_
            exact Rounds.weak (Weak.toK 9217 0 0 [0]) (ih_4 (fu_4, (List.set (List.set y0_4 (Int.toNat y13_4) x69_5) (Int.toNat (IntKind.i64.wrap (y13_4 + 1))) x73_5), (IntKind.i64.wrap (y13_4 + 1))) hm (Nat.lt_succ_self _))
          · replace hm := cF hc58_30 hm
            refine AWP.if_ false (Eq.trans (by kernel_rfl) (lit_tf (b := decide (y13_4 < (IntKind.i64.wrap (y10_0 - 1)))) hc58_30)) ?_
            refine AWP.exit ?_
            refine Then.exit ?_
            refine RoundK.exit ?_
            refine InBlock.same ?_
            refine Then.normal ?_
            refine AWP.ret ?_
            refine Then.ret ?_
            obtain rfl := Option.some.inj hm
            exact ret_i [0]
  · replace hm := cF hc28_27 hm
    refine AWP.if_ false (Eq.trans (by kernel_rfl) (lit_tf (b := decide ((IntKind.i64.wrap (p2 - p1)) = 1)) hc28_27)) ?_
    refine AWP.skip ?_
    refine Then.normal ?_
    refine Amk 31 1 ⟨((.own 0) :: ((.d (.lit (.int .i64 p1))) :: ((.d (.lit (.int .i64 p2))) :: ((.d (.lit (.int .i64 p3))) :: ((.clo (.func 24) [] []) :: (tp 215 [])))))), [(.arr 43 3 (List.length p0) (flatD enc_GChange p0))], 1⟩ ?_
    refine AWP.seq ?_
    refine AWP.seq ?_
    refine AWP.text ?_
    refine Wy (.d (.lit (.int .i64 p3))) [] (Omv rfl) ?_
    refine Wy (.d (.lit (.int .i64 p2))) [] (Omv rfl) ?_
    refine Wy (.d (.lit (.int .i64 (IntKind.i64.wrap (p3 - p2))))) [] (Obn rfl (fun _ => hb_sub (k := .i64))) ?_
    refine Wy (.d (.lit (.bool (decide ((IntKind.i64.wrap (p3 - p2)) = 1))))) [] (Obn rfl (fun _ => hb_eql (k := .i64))) ?_
    refine Walk.nil ?_
    refine Then.normal ?_
    refine Amk 1208925819614629174706207 1 ⟨((.own 0) :: ((.d (.lit (.int .i64 p1))) :: ((.d (.lit (.int .i64 p2))) :: ((.d (.lit (.int .i64 p3))) :: ((.clo (.func 24) [] []) :: (tp 75 ((.d (.lit (.bool (decide ((IntKind.i64.wrap (p3 - p2)) = 1))))) :: (tp 139 [])))))))), [(.arr 43 3 (List.length p0) (flatD enc_GChange p0))], 1⟩ ?_
    rcases tf_ (decide ((IntKind.i64.wrap (p3 - p2)) = 1)) with hc80_31 | hc80_31
    · replace hm := cT hc80_31 hm
      refine AWP.if_ true (Eq.trans (by kernel_rfl) (lit_tf (b := decide ((IntKind.i64.wrap (p3 - p2)) = 1)) hc80_31)) ?_
      refine AWP.seq ?_
      refine AWP.text ?_
      refine Wy (.d (.lit (.int .i64 p1))) [] (Omv rfl) ?_
      refine Wy (.d (.lit (.int .i64 p1))) [] (Omv rfl) ?_
      refine Walk.nil ?_
      refine Then.normal ?_
      refine Amk 16405 1 ⟨((.own 0) :: (tp 1 ((.d (.lit (.int .i64 p2))) :: (tp 1 ((.clo (.func 24) [] []) :: (tp 9 ((.d (.lit (.int .i64 p1))) :: (tp 205 [])))))))), [(.arr 43 3 (List.length p0) (flatD enc_GChange p0))], 1⟩ ?_
      refine AWP.seq ?_
      refine AWP.text ?_
      refine Wy (.d (.lit (.int .i64 p2))) [] (Omv rfl) ?_
      refine Wy (.d (.lit (.int .i64 p2))) [] (Omv rfl) ?_
      refine Walk.nil ?_
      refine Then.normal ?_
      refine Amk 49173 1 ⟨((.own 0) :: (tp 1 ((.d (.lit (.int .i64 p2))) :: (tp 1 ((.clo (.func 24) [] []) :: (tp 9 ((.d (.lit (.int .i64 p1))) :: ((.d (.lit (.int .i64 p2))) :: (tp 204 []))))))))), [(.arr 43 3 (List.length p0) (flatD enc_GChange p0))], 1⟩ ?_
      refine AWP.seq ?_
      refine AWP.block ?_
      refine AWP.loopI (α := Nat × Int × Int)
        (fun x => match x with | (fu_6, y14_6, y15_6) => (⟨((.own 0) :: (tp 1 ((.d (.lit (.int .i64 p2))) :: (tp 1 ((.clo (.func 24) [] []) :: (tp 9 ((.d (.lit (.int .i64 y14_6))) :: ((.d (.lit (.int .i64 y15_6))) :: (tp 204 []))))))))), [(.arr 43 3 (List.length p0) (flatD enc_GChange p0))], 1⟩ : St))
        (fun x => match x with | (fu_6, y14_6, y15_6) => m_slices_symMergeCmpFunc_tally_Change__tally_order_l6 p0 p2 fu_6 y14_6 y15_6 = some r)
        (fun x => match x with | (fu_6, y14_6, y15_6) => fu_6) (1152921504606846976, p1, p2)
        (Weak.toK 49173 0 0 [0]) hm ?_
      rintro ⟨fu_6, y14_6, y15_6⟩ n_6 hm ih_6
      try dsimp only at hm ih_6 ⊢
      cases fu_6 with
      | zero => exact absurd hm (by unfold m_slices_symMergeCmpFunc_tally_Change__tally_order_l6; simp)
      | succ fu_6 =>
        unfold m_slices_symMergeCmpFunc_tally_Change__tally_order_l6 at hm
        refine AWP.seq ?_
        refine AWP.seq ?_
        refine AWP.text ?_
        refine Wy (.d (.lit (.int .i64 y14_6))) [] (Omv rfl) ?_
        refine Wy (.d (.lit (.int .i64 y15_6))) [] (Omv rfl) ?_
        refine Wy (.d (.lit (.bool (decide (y14_6 < y15_6))))) [] (Obn rfl (fun _ => hb_lss (k := .i64))) ?_
        refine Walk.nil ?_
        refine Then.normal ?_
        refine Amk 38685626227668133590646805 1 ⟨((.own 0) :: (tp 1 ((.d (.lit (.int .i64 p2))) :: (tp 1 ((.clo (.func 24) [] []) :: (tp 9 ((.d (.lit (.int .i64 y14_6))) :: ((.d (.lit (.int .i64 y15_6))) :: (tp 69 ((.d (.lit (.bool (decide (y14_6 < y15_6))))) :: (tp 134 []))))))))))), [(.arr 43 3 (List.length p0) (flatD enc_GChange p0))], 1⟩ ?_
        rcases tf_ (decide (y14_6 < y15_6)) with hc85_32 | hc85_32
        · replace hm := cT hc85_32 hm
          refine AWP.if_ true (Eq.trans (by kernel_rfl) (lit_tf (b := decide (y14_6 < y15_6)) hc85_32)) ?_
          refine AWP.skip ?_
          refine Then.normal ?_
          refine Amk 49173 1 ⟨((.own 0) :: (tp 1 ((.d (.lit (.int .i64 p2))) :: (tp 1 ((.clo (.func 24) [] []) :: (tp 9 ((.d (.lit (.int .i64 y14_6))) :: ((.d (.lit (.int .i64 y15_6))) :: (tp 204 []))))))))), [(.arr 43 3 (List.length p0) (flatD enc_GChange p0))], 1⟩ ?_
          refine AWP.block ?_
          refine AWP.seq ?_
          refine AWP.text ?_
          refine Wy (.d (.lit (.int .i64 y14_6))) [] (Omv rfl) ?_
          refine Wy (.d (.lit (.int .i64 y15_6))) [] (Omv rfl) ?_
          refine Wy (.d (.lit (.int .i64 (IntKind.i64.wrap (y14_6 + y15_6))))) [] (Obn rfl (fun _ => hb_add (k := .i64))) ?_
          refine Wy (.d (.lit (.int .u64 (IntKind.u64.wrap (IntKind.i64.wrap (y14_6 + y15_6)))))) [] (Ocs (by kernel_rfl) (op_convert rfl (a1 := .int .i64 (IntKind.i64.wrap (y14_6 + y15_6))) (by kernel_rfl) (run_conv (ds := .int .i64) (k' := .u64) (by kernel_rfl) (by kernel_rfl)))) ?_
          refine Wy (.d (.lit (.int .u64 (Int.fdiv (IntKind.u64.wrap (IntKind.i64.wrap (y14_6 + y15_6))) (2 ^ 1))))) [] (Ocs (by kernel_rfl) (op_bin rfl (a1 := .int .u64 (IntKind.u64.wrap (IntKind.i64.wrap (y14_6 + y15_6)))) (a2 := .int .u64 1) (by kernel_rfl) (by kernel_rfl) (fun _ => hb_shr (n := 1) (by decide) rfl))) ?_
          refine Wy (.d (.lit (.int .i64 (IntKind.i64.wrap (Int.fdiv (IntKind.u64.wrap (IntKind.i64.wrap (y14_6 + y15_6))) (2 ^ 1)))))) [] (Ocs (by kernel_rfl) (op_convert rfl (a1 := .int .u64 (Int.fdiv (IntKind.u64.wrap (IntKind.i64.wrap (y14_6 + y15_6))) (2 ^ 1))) (by kernel_rfl) (run_conv (ds := .int .u64) (k' := .i64) (by kernel_rfl) (by kernel_rfl)))) ?_
          refine Wy (.d (.lit (.int .i64 (IntKind.i64.wrap (Int.fdiv (IntKind.u64.wrap (IntKind.i64.wrap (y14_6 + y15_6))) (2 ^ 1)))))) [] (Omv rfl) ?_
          refine Walk.nil ?_
          refine Then.normal ?_
          refine Amk 114709 1 ⟨((.own 0) :: (tp 1 ((.d (.lit (.int .i64 p2))) :: (tp 1 ((.clo (.func 24) [] []) :: (tp 9 ((.d (.lit (.int .i64 y14_6))) :: ((.d (.lit (.int .i64 y15_6))) :: ((.d (.lit (.int .i64 (IntKind.i64.wrap (Int.fdiv (IntKind.u64.wrap (IntKind.i64.wrap (y14_6 + y15_6))) (2 ^ 1)))))) :: (tp 203 [])))))))))), [(.arr 43 3 (List.length p0) (flatD enc_GChange p0))], 1⟩ ?_
          refine AWP.seq ?_
          refine Adr ?_
          refine Wy (.clo (.func 24) [] []) [] (Omv rfl) ?_
          refine Wy (.own 0) [] (Omv rfl) ?_
          refine Wy (.d (.lit (.int .i64 p2))) [] (Omv rfl) ?_
          obtain ⟨x95_8, hx95_8, hm⟩ := bnd hm
          obtain ⟨hx95_8i, hx95_8g⟩ := geti_some hx95_8
          refine Wy (.loc 0 ((Int.toNat p2) * 3)) [] (Oia rfl enc_GChange_len hx95_8i hx95_8g) ?_
          refine Wy (.agg [(.d (.lit (.int .i64 x95_8.Loc))), (.d (.lit (.int .i64 x95_8.Time))), (.d (.lit (.int .i64 x95_8.N)))]) [] (Lr rfl enc_GChange_len hx95_8g) ?_
          refine Wy (.own 0) [] (Omv rfl) ?_
          refine Wy (.d (.lit (.int .i64 (IntKind.i64.wrap (Int.fdiv (IntKind.u64.wrap (IntKind.i64.wrap (y14_6 + y15_6))) (2 ^ 1)))))) [] (Omv rfl) ?_
          obtain ⟨x99_8, hx99_8, hm⟩ := bnd hm
          obtain ⟨hx99_8i, hx99_8g⟩ := geti_some hx99_8
          refine Wy (.loc 0 ((Int.toNat (IntKind.i64.wrap (Int.fdiv (IntKind.u64.wrap (IntKind.i64.wrap (y14_6 + y15_6))) (2 ^ 1)))) * 3)) [] (Oia rfl enc_GChange_len hx99_8i hx99_8g) ?_
          refine Wy (.agg [(.d (.lit (.int .i64 x99_8.Loc))), (.d (.lit (.int .i64 x99_8.Time))), (.d (.lit (.int .i64 x99_8.N)))]) [] (Lr rfl enc_GChange_len hx99_8g) ?_
          obtain ⟨r101_8, hr101_8, hm⟩ := bnd hm
          refine Wy (.d (.lit (.int .i64 r101_8))) [] (Ocf [] [] [] 0 (ok_tally_order x95_8 x99_8 r101_8 hr101_8) (fun a w => Try.call24 a w) rfl trivial) ?_
          refine Wy (.d (.lit (.bool (decide (r101_8 < 0))))) [] (Obn rfl (fun _ => hb_lss (k := .i64))) ?_
          refine Wy (.d (.lit (.bool (!decide (r101_8 < 0))))) [] (Ocs (by kernel_rfl) (op_un rfl (a1 := .bool (decide (r101_8 < 0))) (by kernel_rfl) (fun _ => hu_not))) ?_
          refine Wdr ?_
          refine Then.normal ?_
          refine Amk 10141204801825835211973625757717 1 ⟨((.own 0) :: (tp 1 ((.d (.lit (.int .i64 p2))) :: (tp 1 ((.clo (.func 24) [] []) :: (tp 9 ((.d (.lit (.int .i64 y14_6))) :: ((.d (.lit (.int .i64 y15_6))) :: ((.d (.lit (.int .i64 (IntKind.i64.wrap (Int.fdiv (IntKind.u64.wrap (IntKind.i64.wrap (y14_6 + y15_6))) (2 ^ 1)))))) :: (tp 86 ((.d (.lit (.bool (!decide (r101_8 < 0))))) :: (tp 116 [])))))))))))), [(.arr 43 3 (List.length p0) (flatD enc_GChange p0))], 1⟩ ?_
          rcases tf_ (!decide (r101_8 < 0)) with hc103_33 | hc103_33
          · replace hm := cT hc103_33 hm
            refine AWP.if_ true (Eq.trans (by kernel_rfl) (lit_tf (b := (!decide (r101_8 < 0))) hc103_33)) ?_
            refine AWP.text ?_
            refine Wy (.d (.lit (.int .i64 (IntKind.i64.wrap (Int.fdiv (IntKind.u64.wrap (IntKind.i64.wrap (y14_6 + y15_6))) (2 ^ 1)))))) [] (Omv rfl) ?_
            obtain ⟨v105_9, hv105_9, hm⟩ := bnd hm; replace hv105_9 := Option.some.inj hv105_9
            refine Wy (.d (.lit (.int .i64 v105_9))) [] (Ocs (congrArg (fun z => A.d (.lit (.int .i64 z))) hv105_9) (Obn rfl (fun _ => hb_add (k := .i64)))) ?_
            refine Wy (.d (.lit (.int .i64 v105_9))) [] (Omv rfl) ?_
            refine Walk.nil ?_
            refine InBlock.normal ?_
            refine RoundK.normal ?_
            exact Rounds.weak (Weak.toK 49173 0 0 [0]) (ih_6 (fu_6, v105_9, y15_6) hm (Nat.lt_succ_self _))
          · replace hm := cF hc103_33 hm
            refine AWP.if_ false (Eq.trans (by kernel_rfl) (lit_tf (b := (!decide (r101_8 < 0))) hc103_33)) ?_
            refine AWP.text ?_
            refine Wy (.d (.lit (.int .i64 (IntKind.i64.wrap (Int.fdiv (IntKind.u64.wrap (IntKind.i64.wrap (y14_6 + y15_6))) (2 ^ 1)))))) [] (Omv rfl) ?_
            refine Wy (.d (.lit (.int .i64 (IntKind.i64.wrap (Int.fdiv (IntKind.u64.wrap (IntKind.i64.wrap (y14_6 + y15_6))) (2 ^ 1)))))) [] (Omv rfl) ?_
            refine Walk.nil ?_
            refine InBlock.normal ?_
            refine RoundK.normal ?_
            exact Rounds.weak (Weak.toK 49173 0 0 [0]) (ih_6 (fu_6, y14_6, (IntKind.i64.wrap (Int.fdiv (IntKind.u64.wrap (IntKind.i64.wrap (y14_6 + y15_6))) (2 ^ 1)))) hm (Nat.lt_succ_self _))
        · replace hm := cF hc85_32 hm
          refine AWP.if_ false (Eq.trans (by kernel_rfl) (lit_tf (b := decide (y14_6 < y15_6)) hc85_32)) ?_
          refine AWP.exit ?_
          refine Then.exit ?_
          refine RoundK.exit ?_
          refine InBlock.same ?_
          refine Then.normal ?_
          refine Amk 16389 1 ⟨((.own 0) :: (tp 1 ((.d (.lit (.int .i64 p2))) :: (tp 11 ((.d (.lit (.int .i64 y14_6))) :: (tp 205 [])))))), [(.arr 43 3 (List.length p0) (flatD enc_GChange p0))], 1⟩ ?_
          refine AWP.seq ?_
          refine AWP.seq ?_
          refine AWP.text ?_
          refine Wy (.d (.lit (.int .i64 p2))) [] (Omv rfl) ?_
          refine Wy (.d (.lit (.int .i64 p2))) [] (Omv rfl) ?_
          refine Walk.nil ?_
          refine Then.normal ?_
          refine Amk 147457 1 ⟨((.own 0) :: (tp 13 ((.d (.lit (.int .i64 y14_6))) :: (tp 2 ((.d (.lit (.int .i64 p2))) :: (tp 202 [])))))), [(.arr 43 3 (List.length p0) (flatD enc_GChange p0))], 1⟩ ?_
          refine AWP.block ?_
          refine AWP.loopI (α := Nat × (List GChange) × Int)
            (fun x => match x with | (fu_10, y0_10, y17_10) => (⟨((.own 0) :: (tp 13 ((.d (.lit (.int .i64 y14_6))) :: (tp 2 ((.d (.lit (.int .i64 y17_10))) :: (tp 202 [])))))), [(.arr 43 3 (List.length y0_10) (flatD enc_GChange y0_10))], 1⟩ : St))
            (fun x => match x with | (fu_10, y0_10, y17_10) => m_slices_symMergeCmpFunc_tally_Change__tally_order_l10 y14_6 fu_10 y0_10 y17_10 = some r)
            (fun x => match x with | (fu_10, y0_10, y17_10) => fu_10) (1152921504606846976, p0, p2)
            (Weak.toK 147457 0 0 [0]) hm ?_
          rintro ⟨fu_10, y0_10, y17_10⟩ n_10 hm ih_10
          try dsimp only at hm ih_10 ⊢
          cases fu_10 with
          | zero => exact absurd hm (by unfold m_slices_symMergeCmpFunc_tally_Change__tally_order_l10; simp)
          | succ fu_10 =>
            unfold m_slices_symMergeCmpFunc_tally_Change__tally_order_l10 at hm
            refine AWP.seq ?_
            refine AWP.seq ?_
            refine AWP.text ?_
            refine Wy (.d (.lit (.int .i64 y17_10))) [] (Omv rfl) ?_
            refine Wy (.d (.lit (.int .i64 y14_6))) [] (Omv rfl) ?_
            refine Wy (.d (.lit (.bool (decide (y14_6 < y17_10))))) [] (Obn rfl (fun _ => hb_gtr (k := .i64))) ?_
            refine Walk.nil ?_
            refine Then.normal ?_
            refine Amk 1298074214633706907132624082452481 1 ⟨((.own 0) :: (tp 13 ((.d (.lit (.int .i64 y14_6))) :: (tp 2 ((.d (.lit (.int .i64 y17_10))) :: (tp 92 ((.d (.lit (.bool (decide (y14_6 < y17_10))))) :: (tp 109 [])))))))), [(.arr 43 3 (List.length y0_10) (flatD enc_GChange y0_10))], 1⟩ ?_
            rcases tf_ (decide (y14_6 < y17_10)) with hc110_34 | hc110_34
            · replace hm := cT hc110_34 hm
              refine AWP.if_ true (Eq.trans (by kernel_rfl) (lit_tf (b := decide (y14_6 < y17_10)) hc110_34)) ?_
              refine AWP.skip ?_
              refine Then.normal ?_
              refine Amk 147457 1 ⟨((.own 0) :: (tp 13 ((.d (.lit (.int .i64 y14_6))) :: (tp 2 ((.d (.lit (.int .i64 y17_10))) :: (tp 202 [])))))), [(.arr 43 3 (List.length y0_10) (flatD enc_GChange y0_10))], 1⟩ ?_
              refine AWP.seq ?_
              refine AWP.block ?_
              refine Adr ?_
              refine Wy (.own 0) [] (Omv rfl) ?_
              refine Wy (.d (.lit (.int .i64 y17_10))) [] (Omv rfl) ?_
              refine Wy (.own 0) [] (Omv rfl) ?_
              refine Wy (.d (.lit (.int .i64 y17_10))) [] (Omv rfl) ?_
              refine Wy (.d (.lit (.int .i64 (IntKind.i64.wrap (y17_10 - 1))))) [] (Obn rfl (fun _ => hb_sub (k := .i64))) ?_
              refine Wy (.own 0) [] (Omv rfl) ?_
              refine Wy (.d (.lit (.int .i64 y17_10))) [] (Omv rfl) ?_
              refine Wy (.d (.lit (.int .i64 (IntKind.i64.wrap (y17_10 - 1))))) [] (Obn rfl (fun _ => hb_sub (k := .i64))) ?_
              obtain ⟨x121_11, hx121_11, hm⟩ := bnd hm
              obtain ⟨hx121_11i, hx121_11g⟩ := geti_some hx121_11
              refine Wy (.loc 0 ((Int.toNat (IntKind.i64.wrap (y17_10 - 1))) * 3)) [] (Oia rfl enc_GChange_len hx121_11i hx121_11g) ?_
              refine Wy (.agg [(.d (.lit (.int .i64 x121_11.Loc))), (.d (.lit (.int .i64 x121_11.Time))), (.d (.lit (.int .i64 x121_11.N)))]) [] (Lr rfl enc_GChange_len hx121_11g) ?_
              refine Wy (.own 0) [] (Omv rfl) ?_
              refine Wy (.d (.lit (.int .i64 y17_10))) [] (Omv rfl) ?_
              obtain ⟨x125_11, hx125_11, hm⟩ := bnd hm
              obtain ⟨hx125_11i, hx125_11g⟩ := geti_some hx125_11
              refine Wy (.loc 0 ((Int.toNat y17_10) * 3)) [] (Oia rfl enc_GChange_len hx125_11i hx125_11g) ?_
              refine Wy (.agg [(.d (.lit (.int .i64 x125_11.Loc))), (.d (.lit (.int .i64 x125_11.Time))), (.d (.lit (.int .i64 x125_11.N)))]) [] (Lr rfl enc_GChange_len hx125_11g) ?_
              obtain ⟨x127_11, hx127_11, hm⟩ := bnd hm
              obtain ⟨hx127_11i, hx127_11g⟩ := geti_some hx127_11
              refine Wy (.loc 0 ((Int.toNat y17_10) * 3)) [] (Oia rfl enc_GChange_len hx127_11i hx127_11g) ?_
              refine Wy (.tup []) [(0, (.arr 43 3 (List.length (List.set y0_10 (Int.toNat y17_10) x121_11)) (flatD enc_GChange (List.set y0_10 (Int.toNat y17_10) x121_11))))] (Osr 0 rfl enc_GChange_len hx127_11g x121_11) ?_
              obtain ⟨x128_11, hx128_11, hm⟩ := bnd hm
              obtain ⟨hx128_11i, hx128_11g⟩ := geti_some hx128_11
              refine Wy (.loc 0 ((Int.toNat (IntKind.i64.wrap (y17_10 - 1))) * 3)) [] (Oia rfl enc_GChange_len hx128_11i hx128_11g) ?_
              refine Wy (.tup []) [(0, (.arr 43 3 (List.length (List.set (List.set y0_10 (Int.toNat y17_10) x121_11) (Int.toNat (IntKind.i64.wrap (y17_10 - 1))) x125_11)) (flatD enc_GChange (List.set (List.set y0_10 (Int.toNat y17_10) x121_11) (Int.toNat (IntKind.i64.wrap (y17_10 - 1))) x125_11))))] (Osr 0 rfl enc_GChange_len hx128_11g x125_11) ?_
              refine Wdr ?_
              refine InBlock.normal ?_
              refine Then.normal ?_
              refine Amk 147457 1 ⟨((.own 0) :: (tp 13 ((.d (.lit (.int .i64 y14_6))) :: (tp 2 ((.d (.lit (.int .i64 y17_10))) :: (tp 202 [])))))), [(.arr 43 3 (List.length (List.set (List.set y0_10 (Int.toNat y17_10) x121_11) (Int.toNat (IntKind.i64.wrap (y17_10 - 1))) x125_11)) (flatD enc_GChange (List.set (List.set y0_10 (Int.toNat y17_10) x121_11) (Int.toNat (IntKind.i64.wrap (y17_10 - 1))) x125_11)))], 1⟩ ?_
              refine AWP.text ?_
              refine Wy (.d (.lit (.int .i64 y17_10))) [] (Omv rfl) ?_
              refine Wy (.d (.lit (.int .i64 (IntKind.i64.wrap (y17_10 - 1))))) [] (Obn rfl (fun _ => hb_sub (k := .i64))) ?_
              refine Wy (.d (.lit (.int .i64 (IntKind.i64.wrap (y17_10 - 1))))) [] (Omv rfl) ?_
              refine Walk.nil ?_
              refine RoundK.normal ?_
              exact Rounds.weak (Weak.toK 147457 0 0 [0]) (ih_10 (fu_10, (List.set (List.set y0_10 (Int.toNat y17_10) x121_11) (Int.toNat (IntKind.i64.wrap (y17_10 - 1))) x125_11), (IntKind.i64.wrap (y17_10 - 1))) hm (Nat.lt_succ_self _))
            · replace hm := cF hc110_34 hm
              refine AWP.if_ false (Eq.trans (by kernel_rfl) (lit_tf (b := decide (y14_6 < y17_10)) hc110_34)) ?_
              refine AWP.exit ?_
              refine Then.exit ?_
              refine RoundK.exit ?_
              refine InBlock.same ?_
              refine Then.normal ?_
              refine AWP.ret ?_
              refine Then.ret ?_
              obtain rfl := Option.some.inj hm
              exact ret_i [0]
    · replace hm := cF hc80_31 hm
      refine AWP.if_ false (Eq.trans (by kernel_rfl) (lit_tf (b := decide ((IntKind.i64.wrap (p3 - p2)) = 1)) hc80_31)) ?_
      refine AWP.skip ?_
      refine Then.normal ?_
      refine Amk 31 1 ⟨((.own 0) :: ((.d (.lit (.int .i64 p1))) :: ((.d (.lit (.int .i64 p2))) :: ((.d (.lit (.int .i64 p3))) :: ((.clo (.func 24) [] []) :: (tp 215 [])))))), [(.arr 43 3 (List.length p0) (flatD enc_GChange p0))], 1⟩ ?_
      refine AWP.seq ?_
      refine AWP.text ?_
      refine Wy (.d (.lit (.int .i64 p1))) [] (Omv rfl) ?_
      refine Wy (.d (.lit (.int .i64 p3))) [] (Omv rfl) ?_
      refine Wy (.d (.lit (.int .i64 (IntKind.i64.wrap (p1 + p3))))) [] (Obn rfl (fun _ => hb_add (k := .i64))) ?_
      refine Wy (.d (.lit (.int .u64 (IntKind.u64.wrap (IntKind.i64.wrap (p1 + p3)))))) [] (Ocs (by kernel_rfl) (op_convert rfl (a1 := .int .i64 (IntKind.i64.wrap (p1 + p3))) (by kernel_rfl) (run_conv (ds := .int .i64) (k' := .u64) (by kernel_rfl) (by kernel_rfl)))) ?_
      refine Wy (.d (.lit (.int .u64 (Int.fdiv (IntKind.u64.wrap (IntKind.i64.wrap (p1 + p3))) (2 ^ 1))))) [] (Ocs (by kernel_rfl) (op_bin rfl (a1 := .int .u64 (IntKind.u64.wrap (IntKind.i64.wrap (p1 + p3)))) (a2 := .int .u64 1) (by kernel_rfl) (by kernel_rfl) (fun _ => hb_shr (n := 1) (by decide) rfl))) ?_
      refine Wy (.d (.lit (.int .i64 (IntKind.i64.wrap (Int.fdiv (IntKind.u64.wrap (IntKind.i64.wrap (p1 + p3))) (2 ^ 1)))))) [] (Ocs (by kernel_rfl) (op_convert rfl (a1 := .int .u64 (Int.fdiv (IntKind.u64.wrap (IntKind.i64.wrap (p1 + p3))) (2 ^ 1))) (by kernel_rfl) (run_conv (ds := .int .u64) (k' := .i64) (by kernel_rfl) (by kernel_rfl)))) ?_
      refine Wy (.d (.lit (.int .i64 (IntKind.i64.wrap (Int.fdiv (IntKind.u64.wrap (IntKind.i64.wrap (p1 + p3))) (2 ^ 1)))))) [] (Omv rfl) ?_
      refine Walk.nil ?_
      refine Then.normal ?_
      refine Amk 262175 1 ⟨((.own 0) :: ((.d (.lit (.int .i64 p1))) :: ((.d (.lit (.int .i64 p2))) :: ((.d (.lit (.int .i64 p3))) :: ((.clo (.func 24) [] []) :: (tp 13 ((.d (.lit (.int .i64 (IntKind.i64.wrap (Int.fdiv (IntKind.u64.wrap (IntKind.i64.wrap (p1 + p3))) (2 ^ 1)))))) :: (tp 201 [])))))))), [(.arr 43 3 (List.length p0) (flatD enc_GChange p0))], 1⟩ ?_
      refine AWP.seq ?_
      refine AWP.text ?_
      refine Wy (.d (.lit (.int .i64 (IntKind.i64.wrap (Int.fdiv (IntKind.u64.wrap (IntKind.i64.wrap (p1 + p3))) (2 ^ 1)))))) [] (Omv rfl) ?_
      refine Wy (.d (.lit (.int .i64 p2))) [] (Omv rfl) ?_
      obtain ⟨v137_13, hv137_13, hm⟩ := bnd hm; replace hv137_13 := Option.some.inj hv137_13
      refine Wy (.d (.lit (.int .i64 v137_13))) [] (Ocs (congrArg (fun z => A.d (.lit (.int .i64 z))) hv137_13) (Obn rfl (fun _ => hb_add (k := .i64)))) ?_
      refine Wy (.d (.lit (.int .i64 v137_13))) [] (Omv rfl) ?_
      refine Walk.nil ?_
      refine Then.normal ?_
      refine Amk 786463 1 ⟨((.own 0) :: ((.d (.lit (.int .i64 p1))) :: ((.d (.lit (.int .i64 p2))) :: ((.d (.lit (.int .i64 p3))) :: ((.clo (.func 24) [] []) :: (tp 13 ((.d (.lit (.int .i64 (IntKind.i64.wrap (Int.fdiv (IntKind.u64.wrap (IntKind.i64.wrap (p1 + p3))) (2 ^ 1)))))) :: ((.d (.lit (.int .i64 v137_13))) :: (tp 200 []))))))))), [(.arr 43 3 (List.length p0) (flatD enc_GChange p0))], 1⟩ ?_
      refine AWP.seq ?_
      refine AWP.text ?_
      refine Wy (.d (.lit (.int .i64 0))) [] (Omv rfl) ?_
      refine Wy (.d (.lit (.int .i64 0))) [] (Omv rfl) ?_
      refine Walk.nil ?_
      refine Then.normal ?_
      refine Amk 786463 1 ⟨((.own 0) :: ((.d (.lit (.int .i64 p1))) :: ((.d (.lit (.int .i64 p2))) :: ((.d (.lit (.int .i64 p3))) :: ((.clo (.func 24) [] []) :: (tp 13 ((.d (.lit (.int .i64 (IntKind.i64.wrap (Int.fdiv (IntKind.u64.wrap (IntKind.i64.wrap (p1 + p3))) (2 ^ 1)))))) :: ((.d (.lit (.int .i64 v137_13))) :: (tp 200 []))))))))), [(.arr 43 3 (List.length p0) (flatD enc_GChange p0))], 1⟩ ?_
      refine AWP.cutJ (α := Int × Int) (fun x => match x with | (y20_14, y21_14) => (⟨((.own 0) :: ((.d (.lit (.int .i64 p1))) :: ((.d (.lit (.int .i64 p2))) :: ((.d (.lit (.int .i64 p3))) :: ((.clo (.func 24) [] []) :: (tp 13 ((.d (.lit (.int .i64 (IntKind.i64.wrap (Int.fdiv (IntKind.u64.wrap (IntKind.i64.wrap (p1 + p3))) (2 ^ 1)))))) :: ((.d (.lit (.int .i64 v137_13))) :: ((.d (.lit (.int .i64 y20_14))) :: ((.d (.lit (.int .i64 y21_14))) :: (tp 198 []))))))))))), [(.arr 43 3 (List.length p0) (flatD enc_GChange p0))], 1⟩ : St)) (fun x => match x with | (y20_14, y21_14) => m_slices_symMergeCmpFunc_tally_Change__tally_order_j14 p0 p1 p2 p3 v137_13 (fun p0 p1 p2 p3 => m_slices_symMergeCmpFunc_tally_Change__tally_order fuR p0 p1 p2 p3) y20_14 y21_14 = some r) ?_ (fun J14 => ?_)
      · rintro ⟨y20_14, y21_14⟩ hm
        try dsimp only at hm ⊢
        unfold m_slices_symMergeCmpFunc_tally_Change__tally_order_j14 at hm
        refine AWP.seq ?_
        refine AWP.text ?_
        refine Wy (.d (.lit (.int .i64 v137_13))) [] (Omv rfl) ?_
        refine Wy (.d (.lit (.int .i64 (IntKind.i64.wrap (v137_13 - 1))))) [] (Obn rfl (fun _ => hb_sub (k := .i64))) ?_
        refine Wy (.d (.lit (.int .i64 (IntKind.i64.wrap (v137_13 - 1))))) [] (Omv rfl) ?_
        refine Walk.nil ?_
        refine Then.normal ?_
        refine Amk 8126495 1 ⟨((.own 0) :: ((.d (.lit (.int .i64 p1))) :: ((.d (.lit (.int .i64 p2))) :: ((.d (.lit (.int .i64 p3))) :: ((.clo (.func 24) [] []) :: (tp 13 ((.d (.lit (.int .i64 (IntKind.i64.wrap (Int.fdiv (IntKind.u64.wrap (IntKind.i64.wrap (p1 + p3))) (2 ^ 1)))))) :: ((.d (.lit (.int .i64 v137_13))) :: ((.d (.lit (.int .i64 y20_14))) :: ((.d (.lit (.int .i64 y21_14))) :: ((.d (.lit (.int .i64 (IntKind.i64.wrap (v137_13 - 1))))) :: (tp 197 [])))))))))))), [(.arr 43 3 (List.length p0) (flatD enc_GChange p0))], 1⟩ ?_
        refine AWP.seq ?_
        refine AWP.block ?_
        refine AWP.loopI (α := Nat × Int × Int)
          (fun x => match x with | (fu_15, y20_15, y21_15) => (⟨((.own 0) :: ((.d (.lit (.int .i64 p1))) :: ((.d (.lit (.int .i64 p2))) :: ((.d (.lit (.int .i64 p3))) :: ((.clo (.func 24) [] []) :: (tp 13 ((.d (.lit (.int .i64 (IntKind.i64.wrap (Int.fdiv (IntKind.u64.wrap (IntKind.i64.wrap (p1 + p3))) (2 ^ 1)))))) :: ((.d (.lit (.int .i64 v137_13))) :: ((.d (.lit (.int .i64 y20_15))) :: ((.d (.lit (.int .i64 y21_15))) :: ((.d (.lit (.int .i64 (IntKind.i64.wrap (v137_13 - 1))))) :: (tp 197 [])))))))))))), [(.arr 43 3 (List.length p0) (flatD enc_GChange p0))], 1⟩ : St))
          (fun x => match x with | (fu_15, y20_15, y21_15) => m_slices_symMergeCmpFunc_tally_Change__tally_order_l15 p0 p1 p2 p3 v137_13 (fun p0 p1 p2 p3 => m_slices_symMergeCmpFunc_tally_Change__tally_order fuR p0 p1 p2 p3) fu_15 y20_15 y21_15 = some r)
          (fun x => match x with | (fu_15, y20_15, y21_15) => fu_15) (1152921504606846976, y20_14, y21_14)
          (Weak.toK 8126495 0 0 [0]) hm ?_
        rintro ⟨fu_15, y20_15, y21_15⟩ n_15 hm ih_15
        try dsimp only at hm ih_15 ⊢
        cases fu_15 with
        | zero => exact absurd hm (by unfold m_slices_symMergeCmpFunc_tally_Change__tally_order_l15; simp)
        | succ fu_15 =>
          unfold m_slices_symMergeCmpFunc_tally_Change__tally_order_l15 at hm
          refine AWP.seq ?_
          refine AWP.seq ?_
          refine AWP.text ?_
          refine Wy (.d (.lit (.int .i64 y20_15))) [] (Omv rfl) ?_
          refine Wy (.d (.lit (.int .i64 y21_15))) [] (Omv rfl) ?_
          refine Wy (.d (.lit (.bool (decide (y20_15 < y21_15))))) [] (Obn rfl (fun _ => hb_lss (k := .i64))) ?_
          refine Walk.nil ?_
          refine Then.normal ?_
          refine Amk 2854495385411919762116571938898990272773619743 1 ⟨((.own 0) :: ((.d (.lit (.int .i64 p1))) :: ((.d (.lit (.int .i64 p2))) :: ((.d (.lit (.int .i64 p3))) :: ((.clo (.func 24) [] []) :: (tp 13 ((.d (.lit (.int .i64 (IntKind.i64.wrap (Int.fdiv (IntKind.u64.wrap (IntKind.i64.wrap (p1 + p3))) (2 ^ 1)))))) :: ((.d (.lit (.int .i64 v137_13))) :: ((.d (.lit (.int .i64 y20_15))) :: ((.d (.lit (.int .i64 y21_15))) :: ((.d (.lit (.int .i64 (IntKind.i64.wrap (v137_13 - 1))))) :: (tp 128 ((.d (.lit (.bool (decide (y20_15 < y21_15))))) :: (tp 68 [])))))))))))))), [(.arr 43 3 (List.length p0) (flatD enc_GChange p0))], 1⟩ ?_
          rcases tf_ (decide (y20_15 < y21_15)) with hc151_35 | hc151_35
          · replace hm := cT hc151_35 hm
            refine AWP.if_ true (Eq.trans (by kernel_rfl) (lit_tf (b := decide (y20_15 < y21_15)) hc151_35)) ?_
            refine AWP.skip ?_
            refine Then.normal ?_
            refine Amk 8126495 1 ⟨((.own 0) :: ((.d (.lit (.int .i64 p1))) :: ((.d (.lit (.int .i64 p2))) :: ((.d (.lit (.int .i64 p3))) :: ((.clo (.func 24) [] []) :: (tp 13 ((.d (.lit (.int .i64 (IntKind.i64.wrap (Int.fdiv (IntKind.u64.wrap (IntKind.i64.wrap (p1 + p3))) (2 ^ 1)))))) :: ((.d (.lit (.int .i64 v137_13))) :: ((.d (.lit (.int .i64 y20_15))) :: ((.d (.lit (.int .i64 y21_15))) :: ((.d (.lit (.int .i64 (IntKind.i64.wrap (v137_13 - 1))))) :: (tp 197 [])))))))))))), [(.arr 43 3 (List.length p0) (flatD enc_GChange p0))], 1⟩ ?_
            refine AWP.block ?_
            refine AWP.seq ?_
            refine AWP.text ?_
            refine Wy (.d (.lit (.int .i64 y20_15))) [] (Omv rfl) ?_
            refine Wy (.d (.lit (.int .i64 y21_15))) [] (Omv rfl) ?_
            refine Wy (.d (.lit (.int .i64 (IntKind.i64.wrap (y20_15 + y21_15))))) [] (Obn rfl (fun _ => hb_add (k := .i64))) ?_
            refine Wy (.d (.lit (.int .u64 (IntKind.u64.wrap (IntKind.i64.wrap (y20_15 + y21_15)))))) [] (Ocs (by kernel_rfl) (op_convert rfl (a1 := .int .i64 (IntKind.i64.wrap (y20_15 + y21_15))) (by kernel_rfl) (run_conv (ds := .int .i64) (k' := .u64) (by kernel_rfl) (by kernel_rfl)))) ?_
            refine Wy (.d (.lit (.int .u64 (Int.fdiv (IntKind.u64.wrap (IntKind.i64.wrap (y20_15 + y21_15))) (2 ^ 1))))) [] (Ocs (by kernel_rfl) (op_bin rfl (a1 := .int .u64 (IntKind.u64.wrap (IntKind.i64.wrap (y20_15 + y21_15)))) (a2 := .int .u64 1) (by kernel_rfl) (by kernel_rfl) (fun _ => hb_shr (n := 1) (by decide) rfl))) ?_
            refine Wy (.d (.lit (.int .i64 (IntKind.i64.wrap (Int.fdiv (IntKind.u64.wrap (IntKind.i64.wrap (y20_15 + y21_15))) (2 ^ 1)))))) [] (Ocs (by kernel_rfl) (op_convert rfl (a1 := .int .u64 (Int.fdiv (IntKind.u64.wrap (IntKind.i64.wrap (y20_15 + y21_15))) (2 ^ 1))) (by kernel_rfl) (run_conv (ds := .int .u64) (k' := .i64) (by kernel_rfl) (by kernel_rfl)))) ?_
            refine Wy (.d (.lit (.int .i64 (IntKind.i64.wrap (Int.fdiv (IntKind.u64.wrap (IntKind.i64.wrap (y20_15 + y21_15))) (2 ^ 1)))))) [] (Omv rfl) ?_
            refine Walk.nil ?_
            refine Then.normal ?_
            refine Amk 16515103 1 ⟨((.own 0) :: ((.d (.lit (.int .i64 p1))) :: ((.d (.lit (.int .i64 p2))) :: ((.d (.lit (.int .i64 p3))) :: ((.clo (.func 24) [] []) :: (tp 13 ((.d (.lit (.int .i64 (IntKind.i64.wrap (Int.fdiv (IntKind.u64.wrap (IntKind.i64.wrap (p1 + p3))) (2 ^ 1)))))) :: ((.d (.lit (.int .i64 v137_13))) :: ((.d (.lit (.int .i64 y20_15))) :: ((.d (.lit (.int .i64 y21_15))) :: ((.d (.lit (.int .i64 (IntKind.i64.wrap (v137_13 - 1))))) :: ((.d (.lit (.int .i64 (IntKind.i64.wrap (Int.fdiv (IntKind.u64.wrap (IntKind.i64.wrap (y20_15 + y21_15))) (2 ^ 1)))))) :: (tp 196 []))))))))))))), [(.arr 43 3 (List.length p0) (flatD enc_GChange p0))], 1⟩ ?_
            refine AWP.seq ?_
            refine Adr ?_
            refine Wy (.clo (.func 24) [] []) [] (Omv rfl) ?_
            refine Wy (.own 0) [] (Omv rfl) ?_
            refine Wy (.d (.lit (.int .i64 (IntKind.i64.wrap (v137_13 - 1))))) [] (Omv rfl) ?_
            refine Wy (.d (.lit (.int .i64 (IntKind.i64.wrap (Int.fdiv (IntKind.u64.wrap (IntKind.i64.wrap (y20_15 + y21_15))) (2 ^ 1)))))) [] (Omv rfl) ?_
            obtain ⟨v162_17, hv162_17, hm⟩ := bnd hm; replace hv162_17 := Option.some.inj hv162_17
            refine Wy (.d (.lit (.int .i64 v162_17))) [] (Ocs (congrArg (fun z => A.d (.lit (.int .i64 z))) hv162_17) (Obn rfl (fun _ => hb_sub (k := .i64)))) ?_
            obtain ⟨x163_17, hx163_17, hm⟩ := bnd hm
            obtain ⟨hx163_17i, hx163_17g⟩ := geti_some hx163_17
            refine Wy (.loc 0 ((Int.toNat v162_17) * 3)) [] (Oia rfl enc_GChange_len hx163_17i hx163_17g) ?_
            refine Wy (.agg [(.d (.lit (.int .i64 x163_17.Loc))), (.d (.lit (.int .i64 x163_17.Time))), (.d (.lit (.int .i64 x163_17.N)))]) [] (Lr rfl enc_GChange_len hx163_17g) ?_
            refine Wy (.own 0) [] (Omv rfl) ?_
            refine Wy (.d (.lit (.int .i64 (IntKind.i64.wrap (Int.fdiv (IntKind.u64.wrap (IntKind.i64.wrap (y20_15 + y21_15))) (2 ^ 1)))))) [] (Omv rfl) ?_
            obtain ⟨x167_17, hx167_17, hm⟩ := bnd hm
            obtain ⟨hx167_17i, hx167_17g⟩ := geti_some hx167_17
            refine Wy (.loc 0 ((Int.toNat (IntKind.i64.wrap (Int.fdiv (IntKind.u64.wrap (IntKind.i64.wrap (y20_15 + y21_15))) (2 ^ 1)))) * 3)) [] (Oia rfl enc_GChange_len hx167_17i hx167_17g) ?_
            refine Wy (.agg [(.d (.lit (.int .i64 x167_17.Loc))), (.d (.lit (.int .i64 x167_17.Time))), (.d (.lit (.int .i64 x167_17.N)))]) [] (Lr rfl enc_GChange_len hx167_17g) ?_
            obtain ⟨r169_17, hr169_17, hm⟩ := bnd hm
            refine Wy (.d (.lit (.int .i64 r169_17))) [] (Ocf [] [] [] 0 (ok_tally_order x163_17 x167_17 r169_17 hr169_17) (fun a w => Try.call24 a w) rfl trivial) ?_
            refine Wy (.d (.lit (.bool (decide (r169_17 < 0))))) [] (Obn rfl (fun _ => hb_lss (k := .i64))) ?_
            refine Wy (.d (.lit (.bool (!decide (r169_17 < 0))))) [] (Ocs (by kernel_rfl) (op_un rfl (a1 := .bool (decide (r169_17 < 0))) (by kernel_rfl) (fun _ => hu_not))) ?_
            refine Wdr ?_
            refine Then.normal ?_
            refine Amk 2993155353253689176481146537402947624255349864529951 1 ⟨((.own 0) :: ((.d (.lit (.int .i64 p1))) :: ((.d (.lit (.int .i64 p2))) :: ((.d (.lit (.int .i64 p3))) :: ((.clo (.func 24) [] []) :: (tp 13 ((.d (.lit (.int .i64 (IntKind.i64.wrap (Int.fdiv (IntKind.u64.wrap (IntKind.i64.wrap (p1 + p3))) (2 ^ 1)))))) :: ((.d (.lit (.int .i64 v137_13))) :: ((.d (.lit (.int .i64 y20_15))) :: ((.d (.lit (.int .i64 y21_15))) :: ((.d (.lit (.int .i64 (IntKind.i64.wrap (v137_13 - 1))))) :: ((.d (.lit (.int .i64 (IntKind.i64.wrap (Int.fdiv (IntKind.u64.wrap (IntKind.i64.wrap (y20_15 + y21_15))) (2 ^ 1)))))) :: (tp 147 ((.d (.lit (.bool (!decide (r169_17 < 0))))) :: (tp 48 []))))))))))))))), [(.arr 43 3 (List.length p0) (flatD enc_GChange p0))], 1⟩ ?_
            rcases tf_ (!decide (r169_17 < 0)) with hc171_36 | hc171_36
            · replace hm := cT hc171_36 hm
              refine AWP.if_ true (Eq.trans (by kernel_rfl) (lit_tf (b := (!decide (r169_17 < 0))) hc171_36)) ?_
              refine AWP.text ?_
              refine Wy (.d (.lit (.int .i64 (IntKind.i64.wrap (Int.fdiv (IntKind.u64.wrap (IntKind.i64.wrap (y20_15 + y21_15))) (2 ^ 1)))))) [] (Omv rfl) ?_
              obtain ⟨v173_18, hv173_18, hm⟩ := bnd hm; replace hv173_18 := Option.some.inj hv173_18
              refine Wy (.d (.lit (.int .i64 v173_18))) [] (Ocs (congrArg (fun z => A.d (.lit (.int .i64 z))) hv173_18) (Obn rfl (fun _ => hb_add (k := .i64)))) ?_
              refine Wy (.d (.lit (.int .i64 v173_18))) [] (Omv rfl) ?_
              refine Walk.nil ?_
              refine InBlock.normal ?_
              refine RoundK.normal ?_
              exact Rounds.weak (Weak.toK 8126495 0 0 [0]) (ih_15 (fu_15, v173_18, y21_15) hm (Nat.lt_succ_self _))
            · replace hm := cF hc171_36 hm
              refine AWP.if_ false (Eq.trans (by kernel_rfl) (lit_tf (b := (!decide (r169_17 < 0))) hc171_36)) ?_
              refine AWP.text ?_
              refine Wy (.d (.lit (.int .i64 (IntKind.i64.wrap (Int.fdiv (IntKind.u64.wrap (IntKind.i64.wrap (y20_15 + y21_15))) (2 ^ 1)))))) [] (Omv rfl) ?_
              refine Wy (.d (.lit (.int .i64 (IntKind.i64.wrap (Int.fdiv (IntKind.u64.wrap (IntKind.i64.wrap (y20_15 + y21_15))) (2 ^ 1)))))) [] (Omv rfl) ?_
              refine Walk.nil ?_
              refine InBlock.normal ?_
              refine RoundK.normal ?_
              exact Rounds.weak (Weak.toK 8126495 0 0 [0]) (ih_15 (fu_15, y20_15, (IntKind.i64.wrap (Int.fdiv (IntKind.u64.wrap (IntKind.i64.wrap (y20_15 + y21_15))) (2 ^ 1)))) hm (Nat.lt_succ_self _))
          · replace hm := cF hc151_35 hm
            refine AWP.if_ false (Eq.trans (by kernel_rfl) (lit_tf (b := decide (y20_15 < y21_15)) hc151_35)) ?_
            refine AWP.exit ?_
            refine Then.exit ?_
            refine RoundK.exit ?_
            refine InBlock.same ?_
            refine Then.normal ?_
            refine Amk 1835039 1 ⟨((.own 0) :: ((.d (.lit (.int .i64 p1))) :: ((.d (.lit (.int .i64 p2))) :: ((.d (.lit (.int .i64 p3))) :: ((.clo (.func 24) [] []) :: (tp 13 ((.d (.lit (.int .i64 (IntKind.i64.wrap (Int.fdiv (IntKind.u64.wrap (IntKind.i64.wrap (p1 + p3))) (2 ^ 1)))))) :: ((.d (.lit (.int .i64 v137_13))) :: ((.d (.lit (.int .i64 y20_15))) :: (tp 199 [])))))))))), [(.arr 43 3 (List.length p0) (flatD enc_GChange p0))], 1⟩ ?_
            refine AWP.seq ?_
            refine AWP.text ?_
            refine Wy (.d (.lit (.int .i64 v137_13))) [] (Omv rfl) ?_
            refine Wy (.d (.lit (.int .i64 y20_15))) [] (Omv rfl) ?_
            refine Wy (.d (.lit (.int .i64 (IntKind.i64.wrap (v137_13 - y20_15))))) [] (Obn rfl (fun _ => hb_sub (k := .i64))) ?_
            refine Wy (.d (.lit (.int .i64 (IntKind.i64.wrap (v137_13 - y20_15))))) [] (Omv rfl) ?_
            refine Walk.nil ?_
            refine Then.normal ?_
            refine Amk 18087967 1 ⟨((.own 0) :: ((.d (.lit (.int .i64 p1))) :: ((.d (.lit (.int .i64 p2))) :: ((.d (.lit (.int .i64 p3))) :: ((.clo (.func 24) [] []) :: (tp 13 ((.d (.lit (.int .i64 (IntKind.i64.wrap (Int.fdiv (IntKind.u64.wrap (IntKind.i64.wrap (p1 + p3))) (2 ^ 1)))))) :: (tp 1 ((.d (.lit (.int .i64 y20_15))) :: (tp 3 ((.d (.lit (.int .i64 (IntKind.i64.wrap (v137_13 - y20_15))))) :: (tp 195 [])))))))))))), [(.arr 43 3 (List.length p0) (flatD enc_GChange p0))], 1⟩ ?_
            refine AWP.cutJ (α := (List GChange)) (fun x => match x with | y0_21 => (⟨((.own 0) :: ((.d (.lit (.int .i64 p1))) :: (tp 1 ((.d (.lit (.int .i64 p3))) :: ((.clo (.func 24) [] []) :: (tp 13 ((.d (.lit (.int .i64 (IntKind.i64.wrap (Int.fdiv (IntKind.u64.wrap (IntKind.i64.wrap (p1 + p3))) (2 ^ 1)))))) :: (tp 1 ((.d (.lit (.int .i64 y20_15))) :: (tp 3 ((.d (.lit (.int .i64 (IntKind.i64.wrap (v137_13 - y20_15))))) :: (tp 195 [])))))))))))), [(.arr 43 3 (List.length y0_21) (flatD enc_GChange y0_21))], 1⟩ : St)) (fun x => match x with | y0_21 => m_slices_symMergeCmpFunc_tally_Change__tally_order_j21 p1 p3 v137_13 y20_15 (fun p0 p1 p2 p3 => m_slices_symMergeCmpFunc_tally_Change__tally_order fuR p0 p1 p2 p3) y0_21 = some r) ?_ (fun J21 => ?_)
            · rintro y0_21 hm
              try dsimp only at hm ⊢
              unfold m_slices_symMergeCmpFunc_tally_Change__tally_order_j21 at hm
              refine AWP.cutJ (α := (List GChange)) (fun x => match x with | y0_24 => (⟨((.own 0) :: (tp 2 ((.d (.lit (.int .i64 p3))) :: ((.clo (.func 24) [] []) :: (tp 13 ((.d (.lit (.int .i64 (IntKind.i64.wrap (Int.fdiv (IntKind.u64.wrap (IntKind.i64.wrap (p1 + p3))) (2 ^ 1)))))) :: (tp 5 ((.d (.lit (.int .i64 (IntKind.i64.wrap (v137_13 - y20_15))))) :: (tp 195 []))))))))), [(.arr 43 3 (List.length y0_24) (flatD enc_GChange y0_24))], 1⟩ : St)) (fun x => match x with | y0_24 => m_slices_symMergeCmpFunc_tally_Change__tally_order_j24 p1 p3 v137_13 y20_15 (fun p0 p1 p2 p3 => m_slices_symMergeCmpFunc_tally_Change__tally_order fuR p0 p1 p2 p3) y0_24 = some r) ?_ (fun J24 => ?_)
              · rintro y0_24 hm
                try dsimp only at hm ⊢
                unfold m_slices_symMergeCmpFunc_tally_Change__tally_order_j24 at hm
                refine AWP.seq ?_
                refine AWP.text ?_
                refine Wy (.d (.lit (.int .i64 (IntKind.i64.wrap (Int.fdiv (IntKind.u64.wrap (IntKind.i64.wrap (p1 + p3))) (2 ^ 1)))))) [] (Omv rfl) ?_
                refine Wy (.d (.lit (.int .i64 (IntKind.i64.wrap (v137_13 - y20_15))))) [] (Omv rfl) ?_
                obtain ⟨v208_25, hv208_25, hm⟩ := bnd hm; replace hv208_25 := Option.some.inj hv208_25
                refine Wy (.d (.lit (.bool v208_25))) [] (Ocs (congrArg (fun z => A.d (.lit (.bool z))) hv208_25) (Obn rfl (fun _ => hb_lss (k := .i64)))) ?_
                rcases tf_ v208_25 with hq209_25 | hq209_25
                · replace hm := cT hq209_25 hm
                  refine Wy (.d (.lit (.bool true))) [] (Ocs (lit_tf (b := v208_25) hq209_25) (Omv rfl)) ?_
                  refine Wy (.d (.lit (.int .i64 (IntKind.i64.wrap (v137_13 - y20_15))))) [] (Omv rfl) ?_
                  refine Wy (.d (.lit (.int .i64 p3))) [] (Omv rfl) ?_
                  refine Wy (.d (.lit (.bool (decide ((IntKind.i64.wrap (v137_13 - y20_15)) < p3))))) [] (Obn rfl (fun _ => hb_lss (k := .i64))) ?_
                  refine Wy (.d (.lit (.bool (decide ((IntKind.i64.wrap (v137_13 - y20_15)) < p3))))) [] (OpT rfl) ?_
                  refine Walk.nil ?_
                  refine Then.normal ?_
                  refine Amk 13164036458569648337239753460458804039861886925068638906805911577 1 ⟨((.own 0) :: (tp 2 ((.d (.lit (.int .i64 p3))) :: ((.clo (.func 24) [] []) :: (tp 13 ((.d (.lit (.int .i64 (IntKind.i64.wrap (Int.fdiv (IntKind.u64.wrap (IntKind.i64.wrap (p1 + p3))) (2 ^ 1)))))) :: (tp 5 ((.d (.lit (.int .i64 (IntKind.i64.wrap (v137_13 - y20_15))))) :: (tp 188 ((.d (.lit (.bool (decide ((IntKind.i64.wrap (v137_13 - y20_15)) < p3))))) :: (tp 6 []))))))))))), [(.arr 43 3 (List.length y0_24) (flatD enc_GChange y0_24))], 1⟩ ?_
                  rcases tf_ (decide ((IntKind.i64.wrap (v137_13 - y20_15)) < p3)) with hc213_37 | hc213_37
                  · replace hm := cT hc213_37 hm
                    refine AWP.if_ true (Eq.trans (by kernel_rfl) (lit_tf (b := decide ((IntKind.i64.wrap (v137_13 - y20_15)) < p3)) hc213_37)) ?_
                    refine AWP.text ?_
                    refine Wy (.own 0) [] (Omv rfl) ?_
                    refine Wy (.d (.lit (.int .i64 (IntKind.i64.wrap (Int.fdiv (IntKind.u64.wrap (IntKind.i64.wrap (p1 + p3))) (2 ^ 1)))))) [] (Omv rfl) ?_
                    refine Wy (.d (.lit (.int .i64 (IntKind.i64.wrap (v137_13 - y20_15))))) [] (Omv rfl) ?_
                    refine Wy (.d (.lit (.int .i64 p3))) [] (Omv rfl) ?_
                    refine Wy (.clo (.func 24) [] []) [] (Omv rfl) ?_
                    obtain ⟨r219_26, hr219_26, hm⟩ := bnd hm
                    refine Wy (.tup []) [(0, (.arr 43 3 (List.length r219_26) (flatD enc_GChange r219_26)))] (Ocf [0] [] [] 0 (ih y0_24 (IntKind.i64.wrap (Int.fdiv (IntKind.u64.wrap (IntKind.i64.wrap (p1 + p3))) (2 ^ 1))) (IntKind.i64.wrap (v137_13 - y20_15)) p3 r219_26 hr219_26) (fun a w => Try.call33 a w) rfl ⟨rfl, trivial⟩) ?_
                    refine Walk.nil ?_
                    obtain rfl := Option.some.inj hm
                    exact ret_n [0]
                  · replace hm := cF hc213_37 hm
                    refine AWP.if_ false (Eq.trans (by kernel_rfl) (lit_tf (b := decide ((IntKind.i64.wrap (v137_13 - y20_15)) < p3)) hc213_37)) ?_
                    refine AWP.skip ?_
                    obtain rfl := Option.some.inj hm
                    exact ret_n [0]
                · replace hm := cF hq209_25 hm
                  refine Wy (.d (.lit (.bool false))) [] (Ocs (lit_tf (b := v208_25) hq209_25) (Omv rfl)) ?_
                  refine Wn ?_
                  refine Wn ?_
                  refine Wn ?_
                  refine Wy (.d (.lit (.bool false))) [] (OpF rfl) ?_
                  refine Walk.nil ?_
                  refine Then.normal ?_
                  refine Amk 13164036458569648337239753460458804039861886925068638906805911577 1 ⟨((.own 0) :: (tp 2 ((.d (.lit (.int .i64 p3))) :: ((.clo (.func 24) [] []) :: (tp 13 ((.d (.lit (.int .i64 (IntKind.i64.wrap (Int.fdiv (IntKind.u64.wrap (IntKind.i64.wrap (p1 + p3))) (2 ^ 1)))))) :: (tp 5 ((.d (.lit (.int .i64 (IntKind.i64.wrap (v137_13 - y20_15))))) :: (tp 188 ((.d (.lit (.bool false))) :: (tp 6 []))))))))))), [(.arr 43 3 (List.length y0_24) (flatD enc_GChange y0_24))], 1⟩ ?_
                  refine AWP.if_ false (by kernel_rfl) ?_
                  refine AWP.skip ?_
                  obtain rfl := Option.some.inj hm
                  exact ret_n [0]
              refine AWP.seq ?_
              refine AWP.seq ?_
              refine AWP.text ?_
              refine Wy (.d (.lit (.int .i64 p1))) [] (Omv rfl) ?_
              refine Wy (.d (.lit (.int .i64 y20_15))) [] (Omv rfl) ?_
              refine Wy (.d (.lit (.bool (decide (p1 < y20_15))))) [] (Obn rfl (fun _ => hb_lss (k := .i64))) ?_
              rcases tf_ (decide (p1 < y20_15)) with hq195_22 | hq195_22
              · replace hm := cT hq195_22 hm
                refine Wy (.d (.lit (.bool true))) [] (Ocs (lit_tf (b := decide (p1 < y20_15)) hq195_22) (Omv rfl)) ?_
                refine Wy (.d (.lit (.int .i64 y20_15))) [] (Omv rfl) ?_
                refine Wy (.d (.lit (.int .i64 (IntKind.i64.wrap (Int.fdiv (IntKind.u64.wrap (IntKind.i64.wrap (p1 + p3))) (2 ^ 1)))))) [] (Omv rfl) ?_
                refine Wy (.d (.lit (.bool (decide (y20_15 < (IntKind.i64.wrap (Int.fdiv (IntKind.u64.wrap (IntKind.i64.wrap (p1 + p3))) (2 ^ 1)))))))) [] (Obn rfl (fun _ => hb_lss (k := .i64))) ?_
                refine Wy (.d (.lit (.bool (decide (y20_15 < (IntKind.i64.wrap (Int.fdiv (IntKind.u64.wrap (IntKind.i64.wrap (p1 + p3))) (2 ^ 1)))))))) [] (OpT rfl) ?_
                refine Walk.nil ?_
                refine Then.normal ?_
                refine Amk 803469022129495137770981046170581301261101496891396435738651 1 ⟨((.own 0) :: ((.d (.lit (.int .i64 p1))) :: (tp 1 ((.d (.lit (.int .i64 p3))) :: ((.clo (.func 24) [] []) :: (tp 13 ((.d (.lit (.int .i64 (IntKind.i64.wrap (Int.fdiv (IntKind.u64.wrap (IntKind.i64.wrap (p1 + p3))) (2 ^ 1)))))) :: (tp 1 ((.d (.lit (.int .i64 y20_15))) :: (tp 3 ((.d (.lit (.int .i64 (IntKind.i64.wrap (v137_13 - y20_15))))) :: (tp 174 ((.d (.lit (.bool (decide (y20_15 < (IntKind.i64.wrap (Int.fdiv (IntKind.u64.wrap (IntKind.i64.wrap (p1 + p3))) (2 ^ 1)))))))) :: (tp 20 [])))))))))))))), [(.arr 43 3 (List.length y0_21) (flatD enc_GChange y0_21))], 1⟩ ?_
                rcases tf_ (decide (y20_15 < (IntKind.i64.wrap (Int.fdiv (IntKind.u64.wrap (IntKind.i64.wrap (p1 + p3))) (2 ^ 1))))) with hc199_38 | hc199_38
                · replace hm := cT hc199_38 hm
                  refine AWP.if_ true (Eq.trans (by kernel_rfl) (lit_tf (b := decide (y20_15 < (IntKind.i64.wrap (Int.fdiv (IntKind.u64.wrap (IntKind.i64.wrap (p1 + p3))) (2 ^ 1))))) hc199_38)) ?_
                  refine AWP.text ?_
                  refine Wy (.own 0) [] (Omv rfl) ?_
                  refine Wy (.d (.lit (.int .i64 p1))) [] (Omv rfl) ?_
                  refine Wy (.d (.lit (.int .i64 y20_15))) [] (Omv rfl) ?_
                  refine Wy (.d (.lit (.int .i64 (IntKind.i64.wrap (Int.fdiv (IntKind.u64.wrap (IntKind.i64.wrap (p1 + p3))) (2 ^ 1)))))) [] (Omv rfl) ?_
                  refine Wy (.clo (.func 24) [] []) [] (Omv rfl) ?_
                  obtain ⟨r205_23, hr205_23, hm⟩ := bnd hm
                  refine Wy (.tup []) [(0, (.arr 43 3 (List.length r205_23) (flatD enc_GChange r205_23)))] (Ocf [0] [] [] 0 (ih y0_21 p1 y20_15 (IntKind.i64.wrap (Int.fdiv (IntKind.u64.wrap (IntKind.i64.wrap (p1 + p3))) (2 ^ 1))) r205_23 hr205_23) (fun a w => Try.call33 a w) rfl ⟨rfl, trivial⟩) ?_
                  refine Walk.nil ?_
                  refine Then.normal ?_
                  exact AWP.weak (Weak.toK 17039385 0 0 [0]) (J24 (r205_23) hm)
                · replace hm := cF hc199_38 hm
                  refine AWP.if_ false (Eq.trans (by kernel_rfl) (lit_tf (b := decide (y20_15 < (IntKind.i64.wrap (Int.fdiv (IntKind.u64.wrap (IntKind.i64.wrap (p1 + p3))) (2 ^ 1))))) hc199_38)) ?_
                  refine AWP.skip ?_
                  refine Then.normal ?_
                  exact AWP.weak (Weak.toK 17039385 0 0 [0]) (J24 (y0_21) hm)
              · replace hm := cF hq195_22 hm
                refine Wy (.d (.lit (.bool false))) [] (Ocs (lit_tf (b := decide (p1 < y20_15)) hq195_22) (Omv rfl)) ?_
                refine Wn ?_
                refine Wn ?_
                refine Wn ?_
                refine Wy (.d (.lit (.bool false))) [] (OpF rfl) ?_
                refine Walk.nil ?_
                refine Then.normal ?_
                refine Amk 803469022129495137770981046170581301261101496891396435738651 1 ⟨((.own 0) :: ((.d (.lit (.int .i64 p1))) :: (tp 1 ((.d (.lit (.int .i64 p3))) :: ((.clo (.func 24) [] []) :: (tp 13 ((.d (.lit (.int .i64 (IntKind.i64.wrap (Int.fdiv (IntKind.u64.wrap (IntKind.i64.wrap (p1 + p3))) (2 ^ 1)))))) :: (tp 1 ((.d (.lit (.int .i64 y20_15))) :: (tp 3 ((.d (.lit (.int .i64 (IntKind.i64.wrap (v137_13 - y20_15))))) :: (tp 174 ((.d (.lit (.bool false))) :: (tp 20 [])))))))))))))), [(.arr 43 3 (List.length y0_21) (flatD enc_GChange y0_21))], 1⟩ ?_
                refine AWP.if_ false (by kernel_rfl) ?_
                refine AWP.skip ?_
                refine Then.normal ?_
                exact AWP.weak (Weak.toK 17039385 0 0 [0]) (J24 (y0_21) hm)
            refine AWP.seq ?_
            refine AWP.seq ?_
            refine AWP.text ?_
            refine Wy (.d (.lit (.int .i64 y20_15))) [] (Omv rfl) ?_
            refine Wy (.d (.lit (.int .i64 p2))) [] (Omv rfl) ?_
            refine Wy (.d (.lit (.bool (decide (y20_15 < p2))))) [] (Obn rfl (fun _ => hb_lss (k := .i64))) ?_
            rcases tf_ (decide (y20_15 < p2)) with hq181_19 | hq181_19
            · replace hm := cT hq181_19 hm
              refine Wy (.d (.lit (.bool true))) [] (Ocs (lit_tf (b := decide (y20_15 < p2)) hq181_19) (Omv rfl)) ?_
              refine Wy (.d (.lit (.int .i64 p2))) [] (Omv rfl) ?_
              refine Wy (.d (.lit (.int .i64 (IntKind.i64.wrap (v137_13 - y20_15))))) [] (Omv rfl) ?_
              refine Wy (.d (.lit (.bool (decide (p2 < (IntKind.i64.wrap (v137_13 - y20_15))))))) [] (Obn rfl (fun _ => hb_lss (k := .i64))) ?_
              refine Wy (.d (.lit (.bool (decide (p2 < (IntKind.i64.wrap (v137_13 - y20_15))))))) [] (OpT rfl) ?_
              refine Walk.nil ?_
              refine Then.normal ?_
              refine Amk 49039857307708443467467104868809893875799651909893357599 1 ⟨((.own 0) :: ((.d (.lit (.int .i64 p1))) :: ((.d (.lit (.int .i64 p2))) :: ((.d (.lit (.int .i64 p3))) :: ((.clo (.func 24) [] []) :: (tp 13 ((.d (.lit (.int .i64 (IntKind.i64.wrap (Int.fdiv (IntKind.u64.wrap (IntKind.i64.wrap (p1 + p3))) (2 ^ 1)))))) :: (tp 1 ((.d (.lit (.int .i64 y20_15))) :: (tp 3 ((.d (.lit (.int .i64 (IntKind.i64.wrap (v137_13 - y20_15))))) :: (tp 160 ((.d (.lit (.bool (decide (p2 < (IntKind.i64.wrap (v137_13 - y20_15))))))) :: (tp 34 [])))))))))))))), [(.arr 43 3 (List.length p0) (flatD enc_GChange p0))], 1⟩ ?_
              rcases tf_ (decide (p2 < (IntKind.i64.wrap (v137_13 - y20_15)))) with hc185_39 | hc185_39
              · replace hm := cT hc185_39 hm
                refine AWP.if_ true (Eq.trans (by kernel_rfl) (lit_tf (b := decide (p2 < (IntKind.i64.wrap (v137_13 - y20_15)))) hc185_39)) ?_
                refine AWP.text ?_
                refine Wy (.own 0) [] (Omv rfl) ?_
                refine Wy (.d (.lit (.int .i64 y20_15))) [] (Omv rfl) ?_
                refine Wy (.d (.lit (.int .i64 p2))) [] (Omv rfl) ?_
                refine Wy (.d (.lit (.int .i64 (IntKind.i64.wrap (v137_13 - y20_15))))) [] (Omv rfl) ?_
                refine Wy (.clo (.func 24) [] []) [] (Omv rfl) ?_
                obtain ⟨r191_20, hr191_20, hm⟩ := bnd hm
                refine Wy (.tup []) [(0, (.arr 43 3 (List.length r191_20) (flatD enc_GChange r191_20)))] (Ocf [0] [] [] 0 (ok_slices_rotateCmpFunc_tally_Change__tally_order p0 y20_15 p2 (IntKind.i64.wrap (v137_13 - y20_15)) r191_20 hr191_20) (fun a w => Try.call35 a w) rfl ⟨rfl, trivial⟩) ?_
                refine Walk.nil ?_
                refine Then.normal ?_
                exact AWP.weak (Weak.toK 18087963 0 0 [0]) (J21 (r191_20) hm)
              · replace hm := cF hc185_39 hm
                refine AWP.if_ false (Eq.trans (by kernel_rfl) (lit_tf (b := decide (p2 < (IntKind.i64.wrap (v137_13 - y20_15)))) hc185_39)) ?_
                refine AWP.skip ?_
                refine Then.normal ?_
                exact AWP.weak (Weak.toK 18087963 0 0 [0]) (J21 (p0) hm)
            · replace hm := cF hq181_19 hm
              refine Wy (.d (.lit (.bool false))) [] (Ocs (lit_tf (b := decide (y20_15 < p2)) hq181_19) (Omv rfl)) ?_
              refine Wn ?_
              refine Wn ?_
              refine Wn ?_
              refine Wy (.d (.lit (.bool false))) [] (OpF rfl) ?_
              refine Walk.nil ?_
              refine Then.normal ?_
              refine Amk 49039857307708443467467104868809893875799651909893357599 1 ⟨((.own 0) :: ((.d (.lit (.int .i64 p1))) :: ((.d (.lit (.int .i64 p2))) :: ((.d (.lit (.int .i64 p3))) :: ((.clo (.func 24) [] []) :: (tp 13 ((.d (.lit (.int .i64 (IntKind.i64.wrap (Int.fdiv (IntKind.u64.wrap (IntKind.i64.wrap (p1 + p3))) (2 ^ 1)))))) :: (tp 1 ((.d (.lit (.int .i64 y20_15))) :: (tp 3 ((.d (.lit (.int .i64 (IntKind.i64.wrap (v137_13 - y20_15))))) :: (tp 160 ((.d (.lit (.bool false))) :: (tp 34 [])))))))))))))), [(.arr 43 3 (List.length p0) (flatD enc_GChange p0))], 1⟩ ?_
              refine AWP.if_ false (by kernel_rfl) ?_
              refine AWP.skip ?_
              refine Then.normal ?_
              exact AWP.weak (Weak.toK 18087963 0 0 [0]) (J21 (p0) hm)
      refine AWP.seq ?_
      refine AWP.seq ?_
      refine AWP.text ?_
      refine Wy (.d (.lit (.int .i64 p2))) [] (Omv rfl) ?_
      refine Wy (.d (.lit (.int .i64 (IntKind.i64.wrap (Int.fdiv (IntKind.u64.wrap (IntKind.i64.wrap (p1 + p3))) (2 ^ 1)))))) [] (Omv rfl) ?_
      refine Wy (.d (.lit (.bool (decide ((IntKind.i64.wrap (Int.fdiv (IntKind.u64.wrap (IntKind.i64.wrap (p1 + p3))) (2 ^ 1))) < p2))))) [] (Obn rfl (fun _ => hb_gtr (k := .i64))) ?_
      refine Walk.nil ?_
      refine Then.normal ?_
      refine Amk 1393796574908163946345982392040522594910239 1 ⟨((.own 0) :: ((.d (.lit (.int .i64 p1))) :: ((.d (.lit (.int .i64 p2))) :: ((.d (.lit (.int .i64 p3))) :: ((.clo (.func 24) [] []) :: (tp 13 ((.d (.lit (.int .i64 (IntKind.i64.wrap (Int.fdiv (IntKind.u64.wrap (IntKind.i64.wrap (p1 + p3))) (2 ^ 1)))))) :: ((.d (.lit (.int .i64 v137_13))) :: (tp 120 ((.d (.lit (.bool (decide ((IntKind.i64.wrap (Int.fdiv (IntKind.u64.wrap (IntKind.i64.wrap (p1 + p3))) (2 ^ 1))) < p2))))) :: (tp 79 []))))))))))), [(.arr 43 3 (List.length p0) (flatD enc_GChange p0))], 1⟩ ?_
      rcases tf_ (decide ((IntKind.i64.wrap (Int.fdiv (IntKind.u64.wrap (IntKind.i64.wrap (p1 + p3))) (2 ^ 1))) < p2)) with hc140_40 | hc140_40
      · replace hm := cT hc140_40 hm
        refine AWP.if_ true (Eq.trans (by kernel_rfl) (lit_tf (b := decide ((IntKind.i64.wrap (Int.fdiv (IntKind.u64.wrap (IntKind.i64.wrap (p1 + p3))) (2 ^ 1))) < p2)) hc140_40)) ?_
        refine AWP.seq ?_
        refine AWP.text ?_
        refine Wy (.d (.lit (.int .i64 v137_13))) [] (Omv rfl) ?_
        refine Wy (.d (.lit (.int .i64 p3))) [] (Omv rfl) ?_
        refine Wy (.d (.lit (.int .i64 (IntKind.i64.wrap (v137_13 - p3))))) [] (Obn rfl (fun _ => hb_sub (k := .i64))) ?_
        refine Wy (.d (.lit (.int .i64 (IntKind.i64.wrap (v137_13 - p3))))) [] (Omv rfl) ?_
        refine Walk.nil ?_
        refine Then.normal ?_
        refine Amk 1835039 1 ⟨((.own 0) :: ((.d (.lit (.int .i64 p1))) :: ((.d (.lit (.int .i64 p2))) :: ((.d (.lit (.int .i64 p3))) :: ((.clo (.func 24) [] []) :: (tp 13 ((.d (.lit (.int .i64 (IntKind.i64.wrap (Int.fdiv (IntKind.u64.wrap (IntKind.i64.wrap (p1 + p3))) (2 ^ 1)))))) :: ((.d (.lit (.int .i64 v137_13))) :: ((.d (.lit (.int .i64 (IntKind.i64.wrap (v137_13 - p3))))) :: (tp 199 [])))))))))), [(.arr 43 3 (List.length p0) (flatD enc_GChange p0))], 1⟩ ?_
        refine AWP.text ?_
        refine Wy (.d (.lit (.int .i64 (IntKind.i64.wrap (Int.fdiv (IntKind.u64.wrap (IntKind.i64.wrap (p1 + p3))) (2 ^ 1)))))) [] (Omv rfl) ?_
        refine Wy (.d (.lit (.int .i64 (IntKind.i64.wrap (Int.fdiv (IntKind.u64.wrap (IntKind.i64.wrap (p1 + p3))) (2 ^ 1)))))) [] (Omv rfl) ?_
        refine Walk.nil ?_
        refine Then.normal ?_
        exact AWP.weak (Weak.toK 3932191 0 0 [0]) (J14 ((IntKind.i64.wrap (v137_13 - p3)), (IntKind.i64.wrap (Int.fdiv (IntKind.u64.wrap (IntKind.i64.wrap (p1 + p3))) (2 ^ 1)))) hm)
      · replace hm := cF hc140_40 hm
        refine AWP.if_ false (Eq.trans (by kernel_rfl) (lit_tf (b := decide ((IntKind.i64.wrap (Int.fdiv (IntKind.u64.wrap (IntKind.i64.wrap (p1 + p3))) (2 ^ 1))) < p2)) hc140_40)) ?_
        refine AWP.seq ?_
        refine AWP.text ?_
        refine Wy (.d (.lit (.int .i64 p1))) [] (Omv rfl) ?_
        refine Wy (.d (.lit (.int .i64 p1))) [] (Omv rfl) ?_
        refine Walk.nil ?_
        refine Then.normal ?_
        refine Amk 1835039 1 ⟨((.own 0) :: ((.d (.lit (.int .i64 p1))) :: ((.d (.lit (.int .i64 p2))) :: ((.d (.lit (.int .i64 p3))) :: ((.clo (.func 24) [] []) :: (tp 13 ((.d (.lit (.int .i64 (IntKind.i64.wrap (Int.fdiv (IntKind.u64.wrap (IntKind.i64.wrap (p1 + p3))) (2 ^ 1)))))) :: ((.d (.lit (.int .i64 v137_13))) :: ((.d (.lit (.int .i64 p1))) :: (tp 199 [])))))))))), [(.arr 43 3 (List.length p0) (flatD enc_GChange p0))], 1⟩ ?_
        refine AWP.text ?_
        refine Wy (.d (.lit (.int .i64 p2))) [] (Omv rfl) ?_
        refine Wy (.d (.lit (.int .i64 p2))) [] (Omv rfl) ?_
        refine Walk.nil ?_
        refine Then.normal ?_
        exact AWP.weak (Weak.toK 3932191 0 0 [0]) (J14 (p1, p2) hm)
end Go.Proofs.Ythcilaomjkaciaa.K
