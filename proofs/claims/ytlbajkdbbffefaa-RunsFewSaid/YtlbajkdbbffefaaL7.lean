/- each function computes what its model says (7) -/
import Derived.Test.YtlbajkdbbffefaaL6
namespace Go.Proofs.Ytlbajkdbbffefaa.K
open Go.RowKit Go.Lib
set_option linter.unusedVariables false
set_option linter.unusedSimpArgs false

set_option maxRecDepth 20000 in
set_option maxHeartbeats 4000000 in
theorem ok_telltaleref21_Prune (p0 : GRuns) (p1 : Int) (p2 : Int) (r : GRuns) (h : m_telltaleref21_Prune p0 p1 p2 = some r) : GCall Try.prog 24 [(.agg [(.d (.lit (.int .i64 p0.Cap))), (.d (.sl (List.length p0.L) (flatD enc_GRun p0.L)))]), (.d (.lit (.int .i64 p1))), (.d (.lit (.int .i64 p2)))] [] (.agg [(.d (.lit (.int .i64 r.Cap))), (.own 0)]) [(.arr 29 3 (List.length r.L) (flatD enc_GRun r.L))] := by
  refine GCall.of_body (n := 40) (rs := [(.cell 6 24)]) Try.func24 rfl rfl rfl ?_
  refine Ato ⟨((.agg [(.d (.lit (.int .i64 p0.Cap))), (.d (.sl (List.length p0.L) (flatD enc_GRun p0.L)))]) :: ((.d (.lit (.int .i64 p1))) :: ((.d (.lit (.int .i64 p2))) :: (tu 37 [])))), [], 0⟩ ?_
  have hm := h
  unfold m_telltaleref21_Prune at hm
  refine AWP.seq ?_
  refine AWP.text ?_
  refine Wy (.loc 0 0) [(0, (.box [(.d (.lit (.int .i64 p0.Cap))), (.d (.sl (List.length p0.L) (flatD enc_GRun p0.L)))]))] (Obx rfl) ?_
  refine Wy (.loc 1 0) [(1, (.box [(.d (.lit (.int .i64 0))), (.d .nil)]))] (Oal rfl) ?_
  refine Walk.nil ?_
  refine Then.normal ?_
  refine Amk 78 3 ⟨(tp 1 ((.d (.lit (.int .i64 p1))) :: ((.d (.lit (.int .i64 p2))) :: ((.loc 0 0) :: (tp 2 ((.loc 1 0) :: (tp 33 []))))))), [(.box [(.d (.lit (.int .i64 p0.Cap))), (.d (.sl (List.length p0.L) (flatD enc_GRun p0.L)))]), (.box [(.d (.lit (.int .i64 0))), (.d .nil)])], 0⟩ ?_
  refine AWP.seq ?_
  refine AWP.text ?_
  refine Wy (.loc 0 0) [] (Ofa rfl) ?_
  refine Wy (.d (.lit (.int .i64 p0.Cap))) [] (Old rfl) ?_
  refine Wy (.agg [(.d (.lit (.int .i64 p0.Cap))), (.d .nil)]) [] (Obd rfl) ?_
  refine Wy (.loc 2 0) [(2, (.box [(.d (.lit (.int .i64 0))), (.d .nil)]))] (Oal rfl) ?_
  refine Wy (.tup []) [(2, (.box [(.d (.lit (.int .i64 p0.Cap))), (.d .nil)]))] (Ost rfl) ?_
  refine Walk.nil ?_
  refine Then.normal ?_
  refine Amk 206 7 ⟨(tp 1 ((.d (.lit (.int .i64 p1))) :: ((.d (.lit (.int .i64 p2))) :: ((.loc 0 0) :: (tp 2 ((.loc 1 0) :: ((.loc 2 0) :: (tp 32 [])))))))), [(.box [(.d (.lit (.int .i64 p0.Cap))), (.d (.sl (List.length p0.L) (flatD enc_GRun p0.L)))]), (.box [(.d (.lit (.int .i64 0))), (.d .nil)]), (.box [(.d (.lit (.int .i64 p0.Cap))), (.d .nil)])], 0⟩ ?_
  refine AWP.seq ?_
  refine AWP.seq ?_
  refine AWP.text ?_
  refine Wy (.d (.lit (.int .i64 0))) [] (Omv rfl) ?_
  refine Walk.nil ?_
  refine Then.normal ?_
  refine Amk 462 7 ⟨(tp 1 ((.d (.lit (.int .i64 p1))) :: ((.d (.lit (.int .i64 p2))) :: ((.loc 0 0) :: (tp 2 ((.loc 1 0) :: ((.loc 2 0) :: ((.d (.lit (.int .i64 0))) :: (tp 31 []))))))))), [(.box [(.d (.lit (.int .i64 p0.Cap))), (.d (.sl (List.length p0.L) (flatD enc_GRun p0.L)))]), (.box [(.d (.lit (.int .i64 0))), (.d .nil)]), (.box [(.d (.lit (.int .i64 p0.Cap))), (.d .nil)])], 0⟩ ?_
  refine AWP.block ?_
  refine Aob 2 1 29 3 ⟨(tp 1 ((.d (.lit (.int .i64 p1))) :: ((.d (.lit (.int .i64 p2))) :: ((.loc 0 0) :: (tp 2 ((.loc 1 0) :: ((.loc 2 0) :: ((.d (.lit (.int .i64 0))) :: (tp 31 []))))))))), [(.box [(.d (.lit (.int .i64 p0.Cap))), (.d (.sl (List.length p0.L) (flatD enc_GRun p0.L)))]), (.box [(.d (.lit (.int .i64 0))), (.d .nil)]), (.box [(.d (.lit (.int .i64 p0.Cap))), (.own 3)]), (.arr 29 3 (List.length ([] : List GRun)) (flatD enc_GRun ([] : List GRun)))], 0⟩ ?_
  refine AWP.loopI (α := Nat × (List GRun) × Int)
    (fun x => match x with | (fu_0, y7_d_1_0, y8_0) => (⟨(tp 1 ((.d (.lit (.int .i64 p1))) :: ((.d (.lit (.int .i64 p2))) :: ((.loc 0 0) :: (tp 2 ((.loc 1 0) :: ((.loc 2 0) :: ((.d (.lit (.int .i64 y8_0))) :: (tp 31 []))))))))), [(.box [(.d (.lit (.int .i64 p0.Cap))), (.d (.sl (List.length p0.L) (flatD enc_GRun p0.L)))]), (.box [(.d (.lit (.int .i64 0))), (.d .nil)]), (.box [(.d (.lit (.int .i64 p0.Cap))), (.own 3)]), (.arr 29 3 (List.length y7_d_1_0) (flatD enc_GRun y7_d_1_0))], 0⟩ : St))
    (fun x => match x with | (fu_0, y7_d_1_0, y8_0) => m_telltaleref21_Prune_l0 p0 p1 p2 fu_0 y7_d_1_0 y8_0 = some r)
    (fun x => match x with | (fu_0, y7_d_1_0, y8_0) => fu_0) (1152921504606846976, ([] : List GRun), 0)
    (Weak.toK 462 0 0 [0, 1, 2, 3]) hm ?_
  rintro ⟨fu_0, y7_d_1_0, y8_0⟩ n_0 hm ih_0
  try dsimp only at hm ih_0 ⊢
  cases fu_0 with
  | zero => exact absurd hm (by unfold m_telltaleref21_Prune_l0; simp)
  | succ fu_0 =>
    unfold m_telltaleref21_Prune_l0 at hm
    refine AWP.seq ?_
    refine AWP.seq ?_
    refine AWP.text ?_
    refine Wy (.d (.lit (.int .i64 y8_0))) [] (Omv rfl) ?_
    refine Wy (.loc 0 1) [] (Ofa rfl) ?_
    refine Wy (.d (.sl (List.length p0.L) (flatD enc_GRun p0.L))) [] (Old rfl) ?_
    refine Wy (.d (.lit (.int .i64 ((List.length p0.L : Nat) : Int)))) [] (Oln rfl) ?_
    refine Wy (.d (.lit (.bool (decide (y8_0 < ((List.length p0.L : Nat) : Int)))))) [] (Obn rfl (fun _ => hb_lss (k := .i64))) ?_
    refine Walk.nil ?_
    refine Then.normal ?_
    refine Amk 65998 15 ⟨(tp 1 ((.d (.lit (.int .i64 p1))) :: ((.d (.lit (.int .i64 p2))) :: ((.loc 0 0) :: (tp 2 ((.loc 1 0) :: ((.loc 2 0) :: ((.d (.lit (.int .i64 y8_0))) :: (tp 7 ((.d (.lit (.bool (decide (y8_0 < ((List.length p0.L : Nat) : Int)))))) :: (tp 23 []))))))))))), [(.box [(.d (.lit (.int .i64 p0.Cap))), (.d (.sl (List.length p0.L) (flatD enc_GRun p0.L)))]), (.box [(.d (.lit (.int .i64 0))), (.d .nil)]), (.box [(.d (.lit (.int .i64 p0.Cap))), (.own 3)]), (.arr 29 3 (List.length y7_d_1_0) (flatD enc_GRun y7_d_1_0))], 0⟩ ?_
    rcases tf_ (decide (y8_0 < ((List.length p0.L : Nat) : Int))) with hc16_4 | hc16_4
    · replace hm := cT hc16_4 hm
      refine AWP.if_ true (Eq.trans (by kernel_rfl) (lit_tf (b := decide (y8_0 < ((List.length p0.L : Nat) : Int))) hc16_4)) ?_
      refine AWP.skip ?_
      refine Then.normal ?_
      refine Amk 462 15 ⟨(tp 1 ((.d (.lit (.int .i64 p1))) :: ((.d (.lit (.int .i64 p2))) :: ((.loc 0 0) :: (tp 2 ((.loc 1 0) :: ((.loc 2 0) :: ((.d (.lit (.int .i64 y8_0))) :: (tp 31 []))))))))), [(.box [(.d (.lit (.int .i64 p0.Cap))), (.d (.sl (List.length p0.L) (flatD enc_GRun p0.L)))]), (.box [(.d (.lit (.int .i64 0))), (.d .nil)]), (.box [(.d (.lit (.int .i64 p0.Cap))), (.own 3)]), (.arr 29 3 (List.length y7_d_1_0) (flatD enc_GRun y7_d_1_0))], 0⟩ ?_
      refine AWP.seq ?_
      refine AWP.block ?_
      refine AWP.seq ?_
      refine AWP.text ?_
      refine Wy (.loc 0 1) [] (Ofa rfl) ?_
      refine Wy (.d (.sl (List.length p0.L) (flatD enc_GRun p0.L))) [] (Old rfl) ?_
      refine Wy (.d (.lit (.int .i64 y8_0))) [] (Omv rfl) ?_
      obtain ⟨x22_2, hx22_2, hm⟩ := bnd hm
      obtain ⟨hx22_2i, hx22_2g⟩ := geti_some hx22_2
      refine Wy (.d (.ref (List.drop ((Int.toNat y8_0) * 3) (flatD enc_GRun p0.L)))) [] (Oia rfl enc_GRun_len hx22_2i hx22_2g) ?_
      refine Wy (.d (.ref (List.drop 1 (List.drop ((Int.toNat y8_0) * 3) (flatD enc_GRun p0.L))))) [] (Ofa rfl) ?_
      refine Wy (.d (.sl (List.length x22_2.Bound) (flatD enc_GPair x22_2.Bound))) [] (Lfk1 1 rfl enc_GRun_len hx22_2g) ?_
      refine Wy (.d (.lit (.int .i64 p1))) [] (Omv rfl) ?_
      refine Wy (.d (.lit (.int .i64 p2))) [] (Omv rfl) ?_
      obtain ⟨r27_2, hr27_2, hm⟩ := bnd hm
      refine Wy (.d (.lit (.bool r27_2))) [] (Ocf [] [] [] 0 (ok_telltaleref21_Early x22_2.Bound p1 p2 r27_2 hr27_2) (fun a w => Try.call44 a w) rfl trivial) ?_
      refine Wy (.d (.lit (.bool (!r27_2)))) [] (Ocs (by kernel_rfl) (op_un rfl (a1 := .bool r27_2) (by kernel_rfl) (fun _ => hu_not))) ?_
      refine Walk.nil ?_
      refine Then.normal ?_
      refine Amk 268435918 15 ⟨(tp 1 ((.d (.lit (.int .i64 p1))) :: ((.d (.lit (.int .i64 p2))) :: ((.loc 0 0) :: (tp 2 ((.loc 1 0) :: ((.loc 2 0) :: ((.d (.lit (.int .i64 y8_0))) :: (tp 19 ((.d (.lit (.bool (!r27_2)))) :: (tp 11 []))))))))))), [(.box [(.d (.lit (.int .i64 p0.Cap))), (.d (.sl (List.length p0.L) (flatD enc_GRun p0.L)))]), (.box [(.d (.lit (.int .i64 0))), (.d .nil)]), (.box [(.d (.lit (.int .i64 p0.Cap))), (.own 3)]), (.arr 29 3 (List.length y7_d_1_0) (flatD enc_GRun y7_d_1_0))], 0⟩ ?_
      rcases tf_ (!r27_2) with hc28_5 | hc28_5
      · replace hm := cT hc28_5 hm
        refine AWP.if_ true (Eq.trans (by kernel_rfl) (lit_tf (b := (!r27_2)) hc28_5)) ?_
        refine Adr ?_
        refine Wy (.loc 2 1) [] (Ofa rfl) ?_
        refine Wy (.own 3) [] (Old rfl) ?_
        refine Wy (.loc 0 1) [] (Ofa rfl) ?_
        refine Wy (.d (.sl (List.length p0.L) (flatD enc_GRun p0.L))) [] (Old rfl) ?_
        refine Wy (.d (.lit (.int .i64 y8_0))) [] (Omv rfl) ?_
        obtain ⟨x34_3, hx34_3, hm⟩ := bnd hm
        obtain ⟨hx34_3i, hx34_3g⟩ := geti_some hx34_3
        refine Wy (.d (.ref (List.drop ((Int.toNat y8_0) * 3) (flatD enc_GRun p0.L)))) [] (Oia rfl enc_GRun_len hx34_3i hx34_3g) ?_
        refine Wy (.agg [(.d (.lit (.int .i64 x34_3.Place))), (.d (.sl (List.length x34_3.Bound) (flatD enc_GPair x34_3.Bound))), (.d (.lit (.int .u32 x34_3.Broken)))]) [] (Lf rfl enc_GRun_len hx34_3g) ?_
        refine Wy (.own 4) [(4, (.arr 29 3 (List.length ([x34_3] : List GRun)) (flatD enc_GRun ([x34_3] : List GRun))))] (Obs rfl) ?_
        obtain ⟨a37_3, ha37_3, hm⟩ := bnd hm; obtain ⟨ha37_3e, ha37_3l⟩ := app_some ha37_3
        refine Wy (.own 5) [(3, .gone), (5, (.arr 29 3 (List.length a37_3) (flatD enc_GRun a37_3)))] (Oap rfl elemOK_22 enc_GRun_len ha37_3e ha37_3l) ?_
        refine Wy (.loc 2 1) [] (Ofa rfl) ?_
        refine Wy (.tup []) [(2, (.box [(.d (.lit (.int .i64 p0.Cap))), (.own 5)]))] (Ost rfl) ?_
        refine Wdr ?_
        refine InBlock.normal ?_
        refine Then.normal ?_
        refine Amk 462 39 ⟨(tp 1 ((.d (.lit (.int .i64 p1))) :: ((.d (.lit (.int .i64 p2))) :: ((.loc 0 0) :: (tp 2 ((.loc 1 0) :: ((.loc 2 0) :: ((.d (.lit (.int .i64 y8_0))) :: (tp 31 []))))))))), [(.box [(.d (.lit (.int .i64 p0.Cap))), (.d (.sl (List.length p0.L) (flatD enc_GRun p0.L)))]), (.box [(.d (.lit (.int .i64 0))), (.d .nil)]), (.box [(.d (.lit (.int .i64 p0.Cap))), (.own 5)]), .gone, .gone, (.arr 29 3 (List.length a37_3) (flatD enc_GRun a37_3))], 0⟩ ?_
        refine AWP.text ?_
        refine Wy (.d (.lit (.int .i64 y8_0))) [] (Omv rfl) ?_
        refine Wy (.d (.lit (.int .i64 (IntKind.i64.wrap (y8_0 + 1))))) [] (Obn rfl (fun _ => hb_add (k := .i64))) ?_
        refine Wy (.d (.lit (.int .i64 (IntKind.i64.wrap (y8_0 + 1))))) [] (Omv rfl) ?_
        refine Walk.nil ?_
        refine RoundK.normal ?_
        exact Rounds.weak (Weak.toK 462 0 0 [0, 1, 2, 5]) (ih_0 (fu_0, a37_3, (IntKind.i64.wrap (y8_0 + 1))) hm (Nat.lt_succ_self _))
      · replace hm := cF hc28_5 hm
        refine AWP.if_ false (Eq.trans (by kernel_rfl) (lit_tf (b := (!r27_2)) hc28_5)) ?_
        refine AWP.skip ?_
        refine InBlock.normal ?_
        refine Then.normal ?_
        refine Amk 462 15 ⟨(tp 1 ((.d (.lit (.int .i64 p1))) :: ((.d (.lit (.int .i64 p2))) :: ((.loc 0 0) :: (tp 2 ((.loc 1 0) :: ((.loc 2 0) :: ((.d (.lit (.int .i64 y8_0))) :: (tp 31 []))))))))), [(.box [(.d (.lit (.int .i64 p0.Cap))), (.d (.sl (List.length p0.L) (flatD enc_GRun p0.L)))]), (.box [(.d (.lit (.int .i64 0))), (.d .nil)]), (.box [(.d (.lit (.int .i64 p0.Cap))), (.own 3)]), (.arr 29 3 (List.length y7_d_1_0) (flatD enc_GRun y7_d_1_0))], 0⟩ ?_
        refine AWP.text ?_
        refine Wy (.d (.lit (.int .i64 y8_0))) [] (Omv rfl) ?_
        refine Wy (.d (.lit (.int .i64 (IntKind.i64.wrap (y8_0 + 1))))) [] (Obn rfl (fun _ => hb_add (k := .i64))) ?_
        refine Wy (.d (.lit (.int .i64 (IntKind.i64.wrap (y8_0 + 1))))) [] (Omv rfl) ?_
        refine Walk.nil ?_
        refine RoundK.normal ?_
        exact Rounds.weak (Weak.toK 462 0 0 [0, 1, 2, 3]) (ih_0 (fu_0, y7_d_1_0, (IntKind.i64.wrap (y8_0 + 1))) hm (Nat.lt_succ_self _))
    · replace hm := cF hc16_4 hm
      refine AWP.if_ false (Eq.trans (by kernel_rfl) (lit_tf (b := decide (y8_0 < ((List.length p0.L : Nat) : Int))) hc16_4)) ?_
      refine AWP.exit ?_
      refine Then.exit ?_
      refine RoundK.exit ?_
      refine InBlock.same ?_
      refine Then.normal ?_
      refine Amk 192 14 ⟨(tp 6 ((.loc 1 0) :: ((.loc 2 0) :: (tp 32 [])))), [.gone, (.box [(.d (.lit (.int .i64 0))), (.d .nil)]), (.box [(.d (.lit (.int .i64 p0.Cap))), (.own 3)]), (.arr 29 3 (List.length y7_d_1_0) (flatD enc_GRun y7_d_1_0))], 0⟩ ?_
      refine AWP.seq ?_
      refine AWP.text ?_
      refine Wy (.agg [(.d (.lit (.int .i64 p0.Cap))), (.own 3)]) [] (Old rfl) ?_
      refine Wy (.tup []) [(1, (.box [(.d (.lit (.int .i64 p0.Cap))), (.own 3)]))] (Ost rfl) ?_
      refine Walk.nil ?_
      refine Then.normal ?_
      refine AWP.ret ?_
      obtain rfl := Option.some.inj hm
      exact ret_i [3]

set_option maxRecDepth 20000 in
set_option maxHeartbeats 4000000 in
theorem ok_telltalelaw21_RunsPrunes (p0 : GRuns) (p1 : Int) (p2 : Int) (r : Bool) (h : m_telltalelaw21_RunsPrunes p0 p1 p2 = some r) : GCall Try.prog 4 [(.agg [(.d (.lit (.int .i64 p0.Cap))), (.d (.sl (List.length p0.L) (flatD enc_GRun p0.L)))]), (.d (.lit (.int .i64 p1))), (.d (.lit (.int .i64 p2)))] [] (.d (.lit (.bool r))) [] := by
  refine GCall.of_body (n := 25) (rs := [(.tmp 6)]) Try.func4 rfl rfl rfl ?_
  refine Ato ⟨((.agg [(.d (.lit (.int .i64 p0.Cap))), (.d (.sl (List.length p0.L) (flatD enc_GRun p0.L)))]) :: ((.d (.lit (.int .i64 p1))) :: ((.d (.lit (.int .i64 p2))) :: (tu 22 [])))), [], 0⟩ ?_
  have hm := h
  unfold m_telltalelaw21_RunsPrunes at hm
  refine AWP.seq ?_
  refine AWP.text ?_
  refine Wy (.loc 0 0) [(0, (.box [(.d (.lit (.int .i64 p0.Cap))), (.d (.sl (List.length p0.L) (flatD enc_GRun p0.L)))]))] (Obx rfl) ?_
  refine Wy (.d (.lit (.bool false))) [] (Omv rfl) ?_
  refine Walk.nil ?_
  refine Then.normal ?_
  refine Amk 14 1 ⟨(tp 1 ((.d (.lit (.int .i64 p1))) :: ((.d (.lit (.int .i64 p2))) :: ((.loc 0 0) :: (tp 21 []))))), [(.box [(.d (.lit (.int .i64 p0.Cap))), (.d (.sl (List.length p0.L) (flatD enc_GRun p0.L)))])], 0⟩ ?_
  refine AWP.seq ?_
  refine AWP.seq ?_
  refine AWP.text ?_
  refine Wy (.agg [(.d (.lit (.int .i64 p0.Cap))), (.d (.sl (List.length p0.L) (flatD enc_GRun p0.L)))]) [] (Old rfl) ?_
  obtain ⟨r8_0, hr8_0, hm⟩ := bnd hm
  refine Wy (.d (.lit (.int .i64 r8_0))) [] (Ocf [] [] [] 0 (ok_telltalelaw21_Over p0 r8_0 hr8_0) (fun a w => Try.call6 a w) rfl trivial) ?_
  refine Wy (.d (.lit (.bool (decide ((0 : Int) < r8_0))))) [] (Obn rfl (fun _ => hb_gtr (k := .i64))) ?_
  refine Walk.nil ?_
  refine Then.normal ?_
  refine Amk 526 1 ⟨(tp 1 ((.d (.lit (.int .i64 p1))) :: ((.d (.lit (.int .i64 p2))) :: ((.loc 0 0) :: (tp 5 ((.d (.lit (.bool (decide ((0 : Int) < r8_0))))) :: (tp 15 []))))))), [(.box [(.d (.lit (.int .i64 p0.Cap))), (.d (.sl (List.length p0.L) (flatD enc_GRun p0.L)))])], 0⟩ ?_
  rcases tf_ (decide ((0 : Int) < r8_0)) with hc9_3 | hc9_3
  · replace hm := cT hc9_3 hm
    refine AWP.if_ true (Eq.trans (by kernel_rfl) (lit_tf (b := decide ((0 : Int) < r8_0)) hc9_3)) ?_
    refine AWP.seq ?_
    refine AWP.text ?_
    obtain ⟨r10_1, hr10_1, hm⟩ := bnd hm
    refine Wy (.d (.lit (.bool r10_1))) [] (Ocf [] [] [] 0 (ok_telltalelaw21_awake  r10_1 hr10_1) (fun a w => Try.call7 a w) rfl trivial) ?_
    refine Wy (.d (.lit (.bool r10_1))) [] (Omv rfl) ?_
    refine Walk.nil ?_
    refine Then.normal ?_
    refine AWP.ret ?_
    refine Then.ret ?_
    obtain rfl := Option.some.inj hm
    exact ret_i []
  · replace hm := cF hc9_3 hm
    refine AWP.if_ false (Eq.trans (by kernel_rfl) (lit_tf (b := decide ((0 : Int) < r8_0)) hc9_3)) ?_
    refine AWP.skip ?_
    refine Then.normal ?_
    refine Amk 14 1 ⟨(tp 1 ((.d (.lit (.int .i64 p1))) :: ((.d (.lit (.int .i64 p2))) :: ((.loc 0 0) :: (tp 21 []))))), [(.box [(.d (.lit (.int .i64 p0.Cap))), (.d (.sl (List.length p0.L) (flatD enc_GRun p0.L)))])], 0⟩ ?_
    refine AWP.seq ?_
    refine Adr ?_
    refine Wy (.agg [(.d (.lit (.int .i64 p0.Cap))), (.d (.sl (List.length p0.L) (flatD enc_GRun p0.L)))]) [] (Old rfl) ?_
    obtain ⟨r12_2, hr12_2, hm⟩ := bnd hm
    refine Wy (.agg [(.d (.lit (.int .i64 r12_2.Cap))), (.own 1)]) [(1, (.arr 42 3 (List.length r12_2.L) (flatD enc_GRun r12_2.L)))] (Ocf [] [1] [] 0 (ok_telltalelaw21_All p0 r12_2 hr12_2) (fun a w => Try.call8 a w) rfl trivial) ?_
    refine Wy (.d (.lit (.int .i64 p1))) [] (Omv rfl) ?_
    refine Wy (.d (.lit (.int .i64 p2))) [] (Omv rfl) ?_
    obtain ⟨r15_2, hr15_2, hm⟩ := bnd hm
    refine Wy (.agg [(.d (.lit (.int .i64 r15_2.Cap))), (.own 2)]) [(2, (.arr 42 3 (List.length r15_2.L) (flatD enc_GRun r15_2.L))), (1, (.fro 42 3 (List.length r12_2.L) (flatD enc_GRun r12_2.L)))] (Ocf [] [2] [1] 0 (ok_runs_Runs_Prune r12_2 p1 p2 r15_2 hr15_2) (fun a w => Try.call23 a w) rfl trivial) ?_
    obtain ⟨r16_2, hr16_2, hm⟩ := bnd hm
    refine Wy (.agg [(.d (.lit (.int .i64 r16_2.Cap))), (.own 3)]) [(3, (.arr 29 3 (List.length r16_2.L) (flatD enc_GRun r16_2.L))), (2, (.fro 42 3 (List.length r15_2.L) (flatD enc_GRun r15_2.L)))] (Ocf [] [3] [2] 0 (ok_telltalelaw21_Back r15_2 r16_2 hr16_2) (fun a w => Try.call15 a w) rfl trivial) ?_
    refine Wy (.agg [(.d (.lit (.int .i64 p0.Cap))), (.d (.sl (List.length p0.L) (flatD enc_GRun p0.L)))]) [] (Old rfl) ?_
    refine Wy (.d (.lit (.int .i64 p1))) [] (Omv rfl) ?_
    refine Wy (.d (.lit (.int .i64 p2))) [] (Omv rfl) ?_
    obtain ⟨r20_2, hr20_2, hm⟩ := bnd hm
    refine Wy (.agg [(.d (.lit (.int .i64 r20_2.Cap))), (.own 4)]) [(4, (.arr 29 3 (List.length r20_2.L) (flatD enc_GRun r20_2.L)))] (Ocf [] [4] [] 0 (ok_telltaleref21_Prune p0 p1 p2 r20_2 hr20_2) (fun a w => Try.call24 a w) rfl trivial) ?_
    obtain ⟨r21_2, hr21_2, hm⟩ := bnd hm
    refine Wy (.d (.lit (.bool r21_2))) [] (Ocp [] [] [3, 4] 0 (ok_telltaleref21_Same r16_2 r20_2 r21_2 hr21_2) (plain_triv (by simp [A.Plain, A.Plains, D.Plain, byteD])) (fun a w => Try.call14 a w) rfl trivial) ?_
    rcases tf_ r21_2 with hq22_2 | hq22_2
    · replace hm := cT hq22_2 hm
      refine Wy (.d (.lit (.bool true))) [] (Ocs (lit_tf (b := r21_2) hq22_2) (Omv rfl)) ?_
      obtain ⟨r23_2, hr23_2, hm⟩ := bnd hm
      refine Wy (.d (.lit (.bool r23_2))) [] (Ocf [] [] [] 0 (ok_telltalelaw21_awake  r23_2 hr23_2) (fun a w => Try.call7 a w) rfl trivial) ?_
      refine Wy (.d (.lit (.bool r23_2))) [] (OpT rfl) ?_
      refine Wy (.d (.lit (.bool r23_2))) [] (Omv rfl) ?_
      refine Wdr ?_
      refine Then.normal ?_
      refine AWP.ret ?_
      obtain rfl := Option.some.inj hm
      exact ret_i []
    · replace hm := cF hq22_2 hm
      refine Wy (.d (.lit (.bool false))) [] (Ocs (lit_tf (b := r21_2) hq22_2) (Omv rfl)) ?_
      refine Wn ?_
      refine Wy (.d (.lit (.bool false))) [] (OpF rfl) ?_
      refine Wy (.d (.lit (.bool false))) [] (Omv rfl) ?_
      refine Wdr ?_
      refine Then.normal ?_
      refine AWP.ret ?_
      obtain rfl := Option.some.inj hm
      exact ret_i []
end Go.Proofs.Ytlbajkdbbffefaa.K
