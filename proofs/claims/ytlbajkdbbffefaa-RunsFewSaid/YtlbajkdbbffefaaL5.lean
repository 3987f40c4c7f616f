/- each function computes what its model says (5) -/
import Derived.Test.YtlbajkdbbffefaaL4
namespace Go.Proofs.Ytlbajkdbbffefaa.K
open Go.RowKit Go.Lib
set_option linter.unusedVariables false
set_option linter.unusedSimpArgs false

set_option maxRecDepth 20000 in
set_option maxHeartbeats 4000000 in
theorem ok_telltalelaw21_Back (p0 : GRuns) (r : GRuns) (h : m_telltalelaw21_Back p0 = some r) : GCall Try.prog 15 [(.agg [(.d (.lit (.int .i64 p0.Cap))), (.d (.sl (List.length p0.L) (flatD enc_GRun p0.L)))])] [] (.agg [(.d (.lit (.int .i64 r.Cap))), (.own 0)]) [(.arr 29 3 (List.length r.L) (flatD enc_GRun r.L))] := by
  refine GCall.of_body (n := 35) (rs := [(.cell 2 24)]) Try.func15 rfl rfl rfl ?_
  refine Ato ⟨((.agg [(.d (.lit (.int .i64 p0.Cap))), (.d (.sl (List.length p0.L) (flatD enc_GRun p0.L)))]) :: (tu 34 [])), [], 0⟩ ?_
  have hm := h
  unfold m_telltalelaw21_Back at hm
  refine AWP.seq ?_
  refine AWP.text ?_
  refine Wy (.loc 0 0) [(0, (.box [(.d (.lit (.int .i64 p0.Cap))), (.d (.sl (List.length p0.L) (flatD enc_GRun p0.L)))]))] (Obx rfl) ?_
  refine Wy (.loc 1 0) [(1, (.box [(.d (.lit (.int .i64 0))), (.d .nil)]))] (Oal rfl) ?_
  refine Walk.nil ?_
  refine Then.normal ?_
  refine Amk 6 3 ⟨(tp 1 ((.loc 0 0) :: ((.loc 1 0) :: (tp 32 [])))), [(.box [(.d (.lit (.int .i64 p0.Cap))), (.d (.sl (List.length p0.L) (flatD enc_GRun p0.L)))]), (.box [(.d (.lit (.int .i64 0))), (.d .nil)])], 0⟩ ?_
  refine AWP.seq ?_
  refine AWP.text ?_
  refine Wy (.loc 0 0) [] (Ofa rfl) ?_
  refine Wy (.d (.lit (.int .i64 p0.Cap))) [] (Old rfl) ?_
  refine Wy (.agg [(.d (.lit (.int .i64 p0.Cap))), (.d .nil)]) [] (Obd rfl) ?_
  refine Wy (.loc 2 0) [(2, (.box [(.d (.lit (.int .i64 0))), (.d .nil)]))] (Oal rfl) ?_
  refine Wy (.tup []) [(2, (.box [(.d (.lit (.int .i64 p0.Cap))), (.d .nil)]))] (Ost rfl) ?_
  refine Walk.nil ?_
  refine Then.normal ?_
  refine Amk 14 7 ⟨(tp 1 ((.loc 0 0) :: ((.loc 1 0) :: ((.loc 2 0) :: (tp 31 []))))), [(.box [(.d (.lit (.int .i64 p0.Cap))), (.d (.sl (List.length p0.L) (flatD enc_GRun p0.L)))]), (.box [(.d (.lit (.int .i64 0))), (.d .nil)]), (.box [(.d (.lit (.int .i64 p0.Cap))), (.d .nil)])], 0⟩ ?_
  refine AWP.seq ?_
  refine AWP.seq ?_
  refine AWP.text ?_
  refine Wy (.d (.lit (.int .i64 0))) [] (Omv rfl) ?_
  refine Walk.nil ?_
  refine Then.normal ?_
  refine Amk 30 7 ⟨(tp 1 ((.loc 0 0) :: ((.loc 1 0) :: ((.loc 2 0) :: ((.d (.lit (.int .i64 0))) :: (tp 30 [])))))), [(.box [(.d (.lit (.int .i64 p0.Cap))), (.d (.sl (List.length p0.L) (flatD enc_GRun p0.L)))]), (.box [(.d (.lit (.int .i64 0))), (.d .nil)]), (.box [(.d (.lit (.int .i64 p0.Cap))), (.d .nil)])], 0⟩ ?_
  refine AWP.block ?_
  refine Aob 2 1 29 3 ⟨(tp 1 ((.loc 0 0) :: ((.loc 1 0) :: ((.loc 2 0) :: ((.d (.lit (.int .i64 0))) :: (tp 30 [])))))), [(.box [(.d (.lit (.int .i64 p0.Cap))), (.d (.sl (List.length p0.L) (flatD enc_GRun p0.L)))]), (.box [(.d (.lit (.int .i64 0))), (.d .nil)]), (.box [(.d (.lit (.int .i64 p0.Cap))), (.own 3)]), (.arr 29 3 (List.length ([] : List GRun)) (flatD enc_GRun ([] : List GRun)))], 0⟩ ?_
  refine AWP.loopI (α := Nat × (List GRun) × Int)
    (fun x => match x with | (fu_0, y3_d_1_0, y4_0) => (⟨(tp 1 ((.loc 0 0) :: ((.loc 1 0) :: ((.loc 2 0) :: ((.d (.lit (.int .i64 y4_0))) :: (tp 30 [])))))), [(.box [(.d (.lit (.int .i64 p0.Cap))), (.d (.sl (List.length p0.L) (flatD enc_GRun p0.L)))]), (.box [(.d (.lit (.int .i64 0))), (.d .nil)]), (.box [(.d (.lit (.int .i64 p0.Cap))), (.own 3)]), (.arr 29 3 (List.length y3_d_1_0) (flatD enc_GRun y3_d_1_0))], 0⟩ : St))
    (fun x => match x with | (fu_0, y3_d_1_0, y4_0) => m_telltalelaw21_Back_l0 p0 fu_0 y3_d_1_0 y4_0 = some r)
    (fun x => match x with | (fu_0, y3_d_1_0, y4_0) => fu_0) (1152921504606846976, ([] : List GRun), 0)
    (Weak.toK 30 0 0 [0, 1, 2, 3]) hm ?_
  rintro ⟨fu_0, y3_d_1_0, y4_0⟩ n_0 hm ih_0
  try dsimp only at hm ih_0 ⊢
  cases fu_0 with
  | zero => exact absurd hm (by unfold m_telltalelaw21_Back_l0; simp)
  | succ fu_0 =>
    unfold m_telltalelaw21_Back_l0 at hm
    refine AWP.seq ?_
    refine AWP.seq ?_
    refine AWP.text ?_
    refine Wy (.d (.lit (.int .i64 y4_0))) [] (Omv rfl) ?_
    refine Wy (.loc 0 1) [] (Ofa rfl) ?_
    refine Wy (.d (.sl (List.length p0.L) (flatD enc_GRun p0.L))) [] (Old rfl) ?_
    refine Wy (.d (.lit (.int .i64 ((List.length p0.L : Nat) : Int)))) [] (Oln rfl) ?_
    refine Wy (.d (.lit (.bool (decide (y4_0 < ((List.length p0.L : Nat) : Int)))))) [] (Obn rfl (fun _ => hb_lss (k := .i64))) ?_
    refine Walk.nil ?_
    refine Then.normal ?_
    refine Amk 8222 15 ⟨(tp 1 ((.loc 0 0) :: ((.loc 1 0) :: ((.loc 2 0) :: ((.d (.lit (.int .i64 y4_0))) :: (tp 8 ((.d (.lit (.bool (decide (y4_0 < ((List.length p0.L : Nat) : Int)))))) :: (tp 21 [])))))))), [(.box [(.d (.lit (.int .i64 p0.Cap))), (.d (.sl (List.length p0.L) (flatD enc_GRun p0.L)))]), (.box [(.d (.lit (.int .i64 0))), (.d .nil)]), (.box [(.d (.lit (.int .i64 p0.Cap))), (.own 3)]), (.arr 29 3 (List.length y3_d_1_0) (flatD enc_GRun y3_d_1_0))], 0⟩ ?_
    rcases tf_ (decide (y4_0 < ((List.length p0.L : Nat) : Int))) with hc13_4 | hc13_4
    · replace hm := cT hc13_4 hm
      refine AWP.if_ true (Eq.trans (by kernel_rfl) (lit_tf (b := decide (y4_0 < ((List.length p0.L : Nat) : Int))) hc13_4)) ?_
      refine AWP.skip ?_
      refine Then.normal ?_
      refine Amk 30 15 ⟨(tp 1 ((.loc 0 0) :: ((.loc 1 0) :: ((.loc 2 0) :: ((.d (.lit (.int .i64 y4_0))) :: (tp 30 [])))))), [(.box [(.d (.lit (.int .i64 p0.Cap))), (.d (.sl (List.length p0.L) (flatD enc_GRun p0.L)))]), (.box [(.d (.lit (.int .i64 0))), (.d .nil)]), (.box [(.d (.lit (.int .i64 p0.Cap))), (.own 3)]), (.arr 29 3 (List.length y3_d_1_0) (flatD enc_GRun y3_d_1_0))], 0⟩ ?_
      refine AWP.seq ?_
      refine AWP.block ?_
      refine AWP.seq ?_
      refine AWP.text ?_
      refine Wy (.loc 0 1) [] (Ofa rfl) ?_
      refine Wy (.d (.sl (List.length p0.L) (flatD enc_GRun p0.L))) [] (Old rfl) ?_
      refine Wy (.d (.lit (.int .i64 y4_0))) [] (Omv rfl) ?_
      obtain ⟨x19_2, hx19_2, hm⟩ := bnd hm
      obtain ⟨hx19_2i, hx19_2g⟩ := geti_some hx19_2
      refine Wy (.d (.ref (List.drop ((Int.toNat y4_0) * 3) (flatD enc_GRun p0.L)))) [] (Oia rfl enc_GRun_len hx19_2i hx19_2g) ?_
      refine Wy (.agg [(.d (.lit (.int .i64 x19_2.Place))), (.d (.sl (List.length x19_2.Bound) (flatD enc_GPair x19_2.Bound))), (.d (.lit (.int .u32 x19_2.Broken)))]) [] (Lf rfl enc_GRun_len hx19_2g) ?_
      refine Wy (.loc 4 0) [(4, (.box [(.d (.lit (.int .i64 0))), (.d .nil), (.d (.lit (.int .u32 0)))]))] (Oal rfl) ?_
      refine Wy (.tup []) [(4, (.box [(.d (.lit (.int .i64 x19_2.Place))), (.d (.sl (List.length x19_2.Bound) (flatD enc_GPair x19_2.Bound))), (.d (.lit (.int .u32 x19_2.Broken)))]))] (Ost rfl) ?_
      refine Walk.nil ?_
      refine Then.normal ?_
      refine Amk 62 31 ⟨(tp 1 ((.loc 0 0) :: ((.loc 1 0) :: ((.loc 2 0) :: ((.d (.lit (.int .i64 y4_0))) :: ((.loc 4 0) :: (tp 29 []))))))), [(.box [(.d (.lit (.int .i64 p0.Cap))), (.d (.sl (List.length p0.L) (flatD enc_GRun p0.L)))]), (.box [(.d (.lit (.int .i64 0))), (.d .nil)]), (.box [(.d (.lit (.int .i64 p0.Cap))), (.own 3)]), (.arr 29 3 (List.length y3_d_1_0) (flatD enc_GRun y3_d_1_0)), (.box [(.d (.lit (.int .i64 x19_2.Place))), (.d (.sl (List.length x19_2.Bound) (flatD enc_GPair x19_2.Bound))), (.d (.lit (.int .u32 x19_2.Broken)))])], 0⟩ ?_
      refine Adr ?_
      refine Wy (.loc 2 1) [] (Ofa rfl) ?_
      refine Wy (.own 3) [] (Old rfl) ?_
      refine Wy (.loc 4 0) [] (Ofa rfl) ?_
      refine Wy (.d (.lit (.int .i64 x19_2.Place))) [] (Old rfl) ?_
      refine Wy (.loc 4 1) [] (Ofa rfl) ?_
      refine Wy (.d (.sl (List.length x19_2.Bound) (flatD enc_GPair x19_2.Bound))) [] (Old rfl) ?_
      obtain ⟨r27_3, hr27_3, hm⟩ := bnd hm
      refine Wy (.d (.sl (List.length r27_3) (flatD enc_GPair r27_3))) [(5, (.arr 83 6 (List.length r27_3) (flatD enc_GPair r27_3))), (5, (.fro 83 6 (List.length r27_3) (flatD enc_GPair r27_3)))] (Ofz [5] (.own 5) [(5, (.arr 83 6 (List.length r27_3) (flatD enc_GPair r27_3)))] (Ocf [] [5] [] 0 (ok_telltalelaw19_BackPairs x19_2.Bound r27_3 hr27_3) (fun a w => Try.call36 a w) rfl trivial)) ?_
      refine Wy (.loc 4 2) [] (Ofa rfl) ?_
      refine Wy (.d (.lit (.int .u32 x19_2.Broken))) [] (Old rfl) ?_
      refine Wy (.agg [(.d (.lit (.int .i64 x19_2.Place))), (.d (.sl (List.length r27_3) (flatD enc_GPair r27_3))), (.d (.lit (.int .u32 x19_2.Broken)))]) [] (Obd rfl) ?_
      refine Wy (.own 6) [(6, (.arr 29 3 (List.length ([(GRun.mk x19_2.Place r27_3 x19_2.Broken)] : List GRun)) (flatD enc_GRun ([(GRun.mk x19_2.Place r27_3 x19_2.Broken)] : List GRun))))] (Obs rfl) ?_
      obtain ⟨a32_3, ha32_3, hm⟩ := bnd hm; obtain ⟨ha32_3e, ha32_3l⟩ := app_some ha32_3
      refine Wy (.own 7) [(3, .gone), (7, (.arr 29 3 (List.length a32_3) (flatD enc_GRun a32_3)))] (Oap rfl elemOK_22 enc_GRun_len ha32_3e ha32_3l) ?_
      refine Wy (.loc 2 1) [] (Ofa rfl) ?_
      refine Wy (.tup []) [(2, (.box [(.d (.lit (.int .i64 p0.Cap))), (.own 7)]))] (Ost rfl) ?_
      refine Wdr ?_
      refine InBlock.normal ?_
      refine Then.normal ?_
      refine Amk 30 135 ⟨(tp 1 ((.loc 0 0) :: ((.loc 1 0) :: ((.loc 2 0) :: ((.d (.lit (.int .i64 y4_0))) :: (tp 30 [])))))), [(.box [(.d (.lit (.int .i64 p0.Cap))), (.d (.sl (List.length p0.L) (flatD enc_GRun p0.L)))]), (.box [(.d (.lit (.int .i64 0))), (.d .nil)]), (.box [(.d (.lit (.int .i64 p0.Cap))), (.own 7)]), .gone, .gone, .gone, .gone, (.arr 29 3 (List.length a32_3) (flatD enc_GRun a32_3))], 0⟩ ?_
      refine AWP.text ?_
      refine Wy (.d (.lit (.int .i64 y4_0))) [] (Omv rfl) ?_
      refine Wy (.d (.lit (.int .i64 (IntKind.i64.wrap (y4_0 + 1))))) [] (Obn rfl (fun _ => hb_add (k := .i64))) ?_
      refine Wy (.d (.lit (.int .i64 (IntKind.i64.wrap (y4_0 + 1))))) [] (Omv rfl) ?_
      refine Walk.nil ?_
      refine RoundK.normal ?_
      exact Rounds.weak (Weak.toK 30 0 0 [0, 1, 2, 7]) (ih_0 (fu_0, a32_3, (IntKind.i64.wrap (y4_0 + 1))) hm (Nat.lt_succ_self _))
    · replace hm := cF hc13_4 hm
      refine AWP.if_ false (Eq.trans (by kernel_rfl) (lit_tf (b := decide (y4_0 < ((List.length p0.L : Nat) : Int))) hc13_4)) ?_
      refine AWP.exit ?_
      refine Then.exit ?_
      refine RoundK.exit ?_
      refine InBlock.same ?_
      refine Then.normal ?_
      refine Amk 12 14 ⟨(tp 2 ((.loc 1 0) :: ((.loc 2 0) :: (tp 31 [])))), [.gone, (.box [(.d (.lit (.int .i64 0))), (.d .nil)]), (.box [(.d (.lit (.int .i64 p0.Cap))), (.own 3)]), (.arr 29 3 (List.length y3_d_1_0) (flatD enc_GRun y3_d_1_0))], 0⟩ ?_
      refine AWP.seq ?_
      refine AWP.text ?_
      refine Wy (.agg [(.d (.lit (.int .i64 p0.Cap))), (.own 3)]) [] (Old rfl) ?_
      refine Wy (.tup []) [(1, (.box [(.d (.lit (.int .i64 p0.Cap))), (.own 3)]))] (Ost rfl) ?_
      refine Walk.nil ?_
      refine Then.normal ?_
      refine AWP.ret ?_
      obtain rfl := Option.some.inj hm
      exact ret_i [3]

set_option maxRecDepth 20000 in
set_option maxHeartbeats 4000000 in
theorem ok_telltaleref21_Same (p0 : GRuns) (p1 : GRuns) (r : Bool) (h : m_telltaleref21_Same p0 p1 = some r) : GCall Try.prog 14 [(.agg [(.d (.lit (.int .i64 p0.Cap))), (.d (.sl (List.length p0.L) (flatD enc_GRun p0.L)))]), (.agg [(.d (.lit (.int .i64 p1.Cap))), (.d (.sl (List.length p1.L) (flatD enc_GRun p1.L)))])] [] (.d (.lit (.bool r))) [] := by
  refine GCall.of_body (n := 59) (rs := [(.tmp 4)]) Try.func14 rfl rfl rfl ?_
  refine Ato ⟨((.agg [(.d (.lit (.int .i64 p0.Cap))), (.d (.sl (List.length p0.L) (flatD enc_GRun p0.L)))]) :: ((.agg [(.d (.lit (.int .i64 p1.Cap))), (.d (.sl (List.length p1.L) (flatD enc_GRun p1.L)))]) :: (tu 57 []))), [], 0⟩ ?_
  have hm := h
  unfold m_telltaleref21_Same at hm
  refine AWP.seq ?_
  refine AWP.text ?_
  refine Wy (.loc 0 0) [(0, (.box [(.d (.lit (.int .i64 p0.Cap))), (.d (.sl (List.length p0.L) (flatD enc_GRun p0.L)))]))] (Obx rfl) ?_
  refine Wy (.loc 1 0) [(1, (.box [(.d (.lit (.int .i64 p1.Cap))), (.d (.sl (List.length p1.L) (flatD enc_GRun p1.L)))]))] (Obx rfl) ?_
  refine Wy (.d (.lit (.bool false))) [] (Omv rfl) ?_
  refine Walk.nil ?_
  refine Then.normal ?_
  refine Amk 12 3 ⟨(tp 2 ((.loc 0 0) :: ((.loc 1 0) :: (tp 55 [])))), [(.box [(.d (.lit (.int .i64 p0.Cap))), (.d (.sl (List.length p0.L) (flatD enc_GRun p0.L)))]), (.box [(.d (.lit (.int .i64 p1.Cap))), (.d (.sl (List.length p1.L) (flatD enc_GRun p1.L)))])], 0⟩ ?_
  refine AWP.seq ?_
  refine AWP.seq ?_
  refine AWP.text ?_
  refine Wy (.loc 0 0) [] (Ofa rfl) ?_
  refine Wy (.d (.lit (.int .i64 p0.Cap))) [] (Old rfl) ?_
  refine Wy (.loc 1 0) [] (Ofa rfl) ?_
  refine Wy (.d (.lit (.int .i64 p1.Cap))) [] (Old rfl) ?_
  refine Wy (.d (.lit (.bool (decide (p0.Cap ≠ p1.Cap))))) [] (Obn rfl (fun _ => hb_neq (k := .i64))) ?_
  rcases tf_ (decide (p0.Cap ≠ p1.Cap)) with hq13_0 | hq13_0
  · replace hm := cT hq13_0 hm
    refine Wy (.d (.lit (.bool true))) [] (Ocs (lit_tf (b := decide (p0.Cap ≠ p1.Cap)) hq13_0) (Omv rfl)) ?_
    refine Wn ?_
    refine Wn ?_
    refine Wn ?_
    refine Wn ?_
    refine Wn ?_
    refine Wn ?_
    refine Wn ?_
    refine Wy (.d (.lit (.bool true))) [] (OpT rfl) ?_
    refine Walk.nil ?_
    refine Then.normal ?_
    refine Amk 2097164 3 ⟨(tp 2 ((.loc 0 0) :: ((.loc 1 0) :: (tp 17 ((.d (.lit (.bool true))) :: (tp 37 [])))))), [(.box [(.d (.lit (.int .i64 p0.Cap))), (.d (.sl (List.length p0.L) (flatD enc_GRun p0.L)))]), (.box [(.d (.lit (.int .i64 p1.Cap))), (.d (.sl (List.length p1.L) (flatD enc_GRun p1.L)))])], 0⟩ ?_
    refine AWP.if_ true (by kernel_rfl) ?_
    refine AWP.seq ?_
    refine AWP.text ?_
    refine Wy (.d (.lit (.bool false))) [] (Omv rfl) ?_
    refine Walk.nil ?_
    refine Then.normal ?_
    refine AWP.ret ?_
    refine Then.ret ?_
    obtain rfl := Option.some.inj hm
    exact ret_i []
  · replace hm := cF hq13_0 hm
    refine Wy (.d (.lit (.bool false))) [] (Ocs (lit_tf (b := decide (p0.Cap ≠ p1.Cap)) hq13_0) (Omv rfl)) ?_
    refine Wy (.loc 0 1) [] (Ofa rfl) ?_
    refine Wy (.d (.sl (List.length p0.L) (flatD enc_GRun p0.L))) [] (Old rfl) ?_
    refine Wy (.d (.lit (.int .i64 ((List.length p0.L : Nat) : Int)))) [] (Oln rfl) ?_
    refine Wy (.loc 1 1) [] (Ofa rfl) ?_
    refine Wy (.d (.sl (List.length p1.L) (flatD enc_GRun p1.L))) [] (Old rfl) ?_
    refine Wy (.d (.lit (.int .i64 ((List.length p1.L : Nat) : Int)))) [] (Oln rfl) ?_
    refine Wy (.d (.lit (.bool (decide (((List.length p0.L : Nat) : Int) ≠ ((List.length p1.L : Nat) : Int)))))) [] (Obn rfl (fun _ => hb_neq (k := .i64))) ?_
    refine Wy (.d (.lit (.bool (decide (((List.length p0.L : Nat) : Int) ≠ ((List.length p1.L : Nat) : Int)))))) [] (OpF rfl) ?_
    refine Walk.nil ?_
    refine Then.normal ?_
    refine Amk 2097164 3 ⟨(tp 2 ((.loc 0 0) :: ((.loc 1 0) :: (tp 17 ((.d (.lit (.bool (decide (((List.length p0.L : Nat) : Int) ≠ ((List.length p1.L : Nat) : Int)))))) :: (tp 37 [])))))), [(.box [(.d (.lit (.int .i64 p0.Cap))), (.d (.sl (List.length p0.L) (flatD enc_GRun p0.L)))]), (.box [(.d (.lit (.int .i64 p1.Cap))), (.d (.sl (List.length p1.L) (flatD enc_GRun p1.L)))])], 0⟩ ?_
    rcases tf_ (decide (((List.length p0.L : Nat) : Int) ≠ ((List.length p1.L : Nat) : Int))) with hc21_6 | hc21_6
    · replace hm := cT hc21_6 hm
      refine AWP.if_ true (Eq.trans (by kernel_rfl) (lit_tf (b := decide (((List.length p0.L : Nat) : Int) ≠ ((List.length p1.L : Nat) : Int))) hc21_6)) ?_
      refine AWP.seq ?_
      refine AWP.text ?_
      refine Wy (.d (.lit (.bool false))) [] (Omv rfl) ?_
      refine Walk.nil ?_
      refine Then.normal ?_
      refine AWP.ret ?_
      refine Then.ret ?_
      obtain rfl := Option.some.inj hm
      exact ret_i []
    · replace hm := cF hc21_6 hm
      refine AWP.if_ false (Eq.trans (by kernel_rfl) (lit_tf (b := decide (((List.length p0.L : Nat) : Int) ≠ ((List.length p1.L : Nat) : Int))) hc21_6)) ?_
      refine AWP.skip ?_
      refine Then.normal ?_
      refine Amk 12 3 ⟨(tp 2 ((.loc 0 0) :: ((.loc 1 0) :: (tp 55 [])))), [(.box [(.d (.lit (.int .i64 p0.Cap))), (.d (.sl (List.length p0.L) (flatD enc_GRun p0.L)))]), (.box [(.d (.lit (.int .i64 p1.Cap))), (.d (.sl (List.length p1.L) (flatD enc_GRun p1.L)))])], 0⟩ ?_
      refine AWP.seq ?_
      refine AWP.seq ?_
      refine AWP.text ?_
      refine Wy (.d (.lit (.int .i64 0))) [] (Omv rfl) ?_
      refine Walk.nil ?_
      refine Then.normal ?_
      refine Amk 44 3 ⟨(tp 2 ((.loc 0 0) :: ((.loc 1 0) :: (tp 1 ((.d (.lit (.int .i64 0))) :: (tp 53 [])))))), [(.box [(.d (.lit (.int .i64 p0.Cap))), (.d (.sl (List.length p0.L) (flatD enc_GRun p0.L)))]), (.box [(.d (.lit (.int .i64 p1.Cap))), (.d (.sl (List.length p1.L) (flatD enc_GRun p1.L)))])], 0⟩ ?_
      refine AWP.block ?_
      refine AWP.loopI (α := Nat × Int)
        (fun x => match x with | (fu_1, y5_1) => (⟨(tp 2 ((.loc 0 0) :: ((.loc 1 0) :: (tp 1 ((.d (.lit (.int .i64 y5_1))) :: (tp 53 [])))))), [(.box [(.d (.lit (.int .i64 p0.Cap))), (.d (.sl (List.length p0.L) (flatD enc_GRun p0.L)))]), (.box [(.d (.lit (.int .i64 p1.Cap))), (.d (.sl (List.length p1.L) (flatD enc_GRun p1.L)))])], 0⟩ : St))
        (fun x => match x with | (fu_1, y5_1) => m_telltaleref21_Same_l1 p0 p1 fu_1 y5_1 = some r)
        (fun x => match x with | (fu_1, y5_1) => fu_1) (1152921504606846976, 0)
        (Weak.toK 44 0 0 [0, 1]) hm ?_
      rintro ⟨fu_1, y5_1⟩ n_1 hm ih_1
      try dsimp only at hm ih_1 ⊢
      cases fu_1 with
      | zero => exact absurd hm (by unfold m_telltaleref21_Same_l1; simp)
      | succ fu_1 =>
        unfold m_telltaleref21_Same_l1 at hm
        refine AWP.seq ?_
        refine AWP.seq ?_
        refine AWP.text ?_
        refine Wy (.d (.lit (.int .i64 y5_1))) [] (Omv rfl) ?_
        refine Wy (.loc 0 1) [] (Ofa rfl) ?_
        refine Wy (.d (.sl (List.length p0.L) (flatD enc_GRun p0.L))) [] (Old rfl) ?_
        refine Wy (.d (.lit (.int .i64 ((List.length p0.L : Nat) : Int)))) [] (Oln rfl) ?_
        refine Wy (.d (.lit (.bool (decide (y5_1 < ((List.length p0.L : Nat) : Int)))))) [] (Obn rfl (fun _ => hb_lss (k := .i64))) ?_
        refine Walk.nil ?_
        refine Then.normal ?_
        refine Amk 67108908 3 ⟨(tp 2 ((.loc 0 0) :: ((.loc 1 0) :: (tp 1 ((.d (.lit (.int .i64 y5_1))) :: (tp 20 ((.d (.lit (.bool (decide (y5_1 < ((List.length p0.L : Nat) : Int)))))) :: (tp 32 [])))))))), [(.box [(.d (.lit (.int .i64 p0.Cap))), (.d (.sl (List.length p0.L) (flatD enc_GRun p0.L)))]), (.box [(.d (.lit (.int .i64 p1.Cap))), (.d (.sl (List.length p1.L) (flatD enc_GRun p1.L)))])], 0⟩ ?_
        rcases tf_ (decide (y5_1 < ((List.length p0.L : Nat) : Int))) with hc26_7 | hc26_7
        · replace hm := cT hc26_7 hm
          refine AWP.if_ true (Eq.trans (by kernel_rfl) (lit_tf (b := decide (y5_1 < ((List.length p0.L : Nat) : Int))) hc26_7)) ?_
          refine AWP.skip ?_
          refine Then.normal ?_
          refine Amk 44 3 ⟨(tp 2 ((.loc 0 0) :: ((.loc 1 0) :: (tp 1 ((.d (.lit (.int .i64 y5_1))) :: (tp 53 [])))))), [(.box [(.d (.lit (.int .i64 p0.Cap))), (.d (.sl (List.length p0.L) (flatD enc_GRun p0.L)))]), (.box [(.d (.lit (.int .i64 p1.Cap))), (.d (.sl (List.length p1.L) (flatD enc_GRun p1.L)))])], 0⟩ ?_
          refine AWP.seq ?_
          refine AWP.block ?_
          refine AWP.seq ?_
          refine Adr ?_
          refine Wy (.loc 0 1) [] (Ofa rfl) ?_
          refine Wy (.d (.sl (List.length p0.L) (flatD enc_GRun p0.L))) [] (Old rfl) ?_
          refine Wy (.d (.lit (.int .i64 y5_1))) [] (Omv rfl) ?_
          obtain ⟨x32_3, hx32_3, hm⟩ := bnd hm
          obtain ⟨hx32_3i, hx32_3g⟩ := geti_some hx32_3
          refine Wy (.d (.ref (List.drop ((Int.toNat y5_1) * 3) (flatD enc_GRun p0.L)))) [] (Oia rfl enc_GRun_len hx32_3i hx32_3g) ?_
          refine Wy (.agg [(.d (.lit (.int .i64 x32_3.Place))), (.d (.sl (List.length x32_3.Bound) (flatD enc_GPair x32_3.Bound))), (.d (.lit (.int .u32 x32_3.Broken)))]) [] (Lf rfl enc_GRun_len hx32_3g) ?_
          refine Wy (.loc 1 1) [] (Ofa rfl) ?_
          refine Wy (.d (.sl (List.length p1.L) (flatD enc_GRun p1.L))) [] (Old rfl) ?_
          refine Wy (.d (.lit (.int .i64 y5_1))) [] (Omv rfl) ?_
          obtain ⟨x37_3, hx37_3, hm⟩ := bnd hm
          obtain ⟨hx37_3i, hx37_3g⟩ := geti_some hx37_3
          refine Wy (.d (.ref (List.drop ((Int.toNat y5_1) * 3) (flatD enc_GRun p1.L)))) [] (Oia rfl enc_GRun_len hx37_3i hx37_3g) ?_
          refine Wy (.agg [(.d (.lit (.int .i64 x37_3.Place))), (.d (.sl (List.length x37_3.Bound) (flatD enc_GPair x37_3.Bound))), (.d (.lit (.int .u32 x37_3.Broken)))]) [] (Lf rfl enc_GRun_len hx37_3g) ?_
          refine Wy (.loc 2 0) [(2, (.box [(.d (.lit (.int .i64 0))), (.d .nil), (.d (.lit (.int .u32 0)))]))] (Oal rfl) ?_
          refine Wy (.loc 3 0) [(3, (.box [(.d (.lit (.int .i64 0))), (.d .nil), (.d (.lit (.int .u32 0)))]))] (Oal rfl) ?_
          refine Wy (.tup []) [(2, (.box [(.d (.lit (.int .i64 x32_3.Place))), (.d (.sl (List.length x32_3.Bound) (flatD enc_GPair x32_3.Bound))), (.d (.lit (.int .u32 x32_3.Broken)))]))] (Ost rfl) ?_
          refine Wy (.tup []) [(3, (.box [(.d (.lit (.int .i64 x37_3.Place))), (.d (.sl (List.length x37_3.Bound) (flatD enc_GPair x37_3.Bound))), (.d (.lit (.int .u32 x37_3.Broken)))]))] (Ost rfl) ?_
          refine Wdr ?_
          refine Then.normal ?_
          refine Amk 236 15 ⟨(tp 2 ((.loc 0 0) :: ((.loc 1 0) :: (tp 1 ((.d (.lit (.int .i64 y5_1))) :: ((.loc 2 0) :: ((.loc 3 0) :: (tp 51 [])))))))), [(.box [(.d (.lit (.int .i64 p0.Cap))), (.d (.sl (List.length p0.L) (flatD enc_GRun p0.L)))]), (.box [(.d (.lit (.int .i64 p1.Cap))), (.d (.sl (List.length p1.L) (flatD enc_GRun p1.L)))]), (.box [(.d (.lit (.int .i64 x32_3.Place))), (.d (.sl (List.length x32_3.Bound) (flatD enc_GPair x32_3.Bound))), (.d (.lit (.int .u32 x32_3.Broken)))]), (.box [(.d (.lit (.int .i64 x37_3.Place))), (.d (.sl (List.length x37_3.Bound) (flatD enc_GPair x37_3.Bound))), (.d (.lit (.int .u32 x37_3.Broken)))])], 0⟩ ?_
          refine AWP.cutJ (α := Unit) (fun x => match x with | () => (⟨(tp 2 ((.loc 0 0) :: ((.loc 1 0) :: (tp 1 ((.d (.lit (.int .i64 y5_1))) :: (tp 52 ((.d (.lit (.bool true))) :: []))))))), [(.box [(.d (.lit (.int .i64 p0.Cap))), (.d (.sl (List.length p0.L) (flatD enc_GRun p0.L)))]), (.box [(.d (.lit (.int .i64 p1.Cap))), (.d (.sl (List.length p1.L) (flatD enc_GRun p1.L)))])], 0⟩ : St)) (fun x => match x with | () => m_telltaleref21_Same_j5  = some r) ?_ (fun J5 => ?_)
          · rintro ⟨⟩ hm
            try dsimp only at hm ⊢
            unfold m_telltaleref21_Same_j5 at hm
            refine AWP.if_ true (by kernel_rfl) ?_
            refine AWP.seq ?_
            refine AWP.text ?_
            refine Wy (.d (.lit (.bool false))) [] (Omv rfl) ?_
            refine Walk.nil ?_
            refine Then.normal ?_
            refine AWP.ret ?_
            refine InBlock.ret ?_
            refine Then.ret ?_
            refine RoundK.ret ?_
            refine InBlock.ret ?_
            refine Then.ret ?_
            obtain rfl := Option.some.inj hm
            exact ret_i []
          refine AWP.seq ?_
          refine AWP.text ?_
          refine Wy (.loc 2 0) [] (Ofa rfl) ?_
          refine Wy (.d (.lit (.int .i64 x32_3.Place))) [] (Old rfl) ?_
          refine Wy (.loc 3 0) [] (Ofa rfl) ?_
          refine Wy (.d (.lit (.int .i64 x37_3.Place))) [] (Old rfl) ?_
          refine Wy (.d (.lit (.bool (decide (x32_3.Place ≠ x37_3.Place))))) [] (Obn rfl (fun _ => hb_neq (k := .i64))) ?_
          rcases tf_ (decide (x32_3.Place ≠ x37_3.Place)) with hq44_4 | hq44_4
          · replace hm := cT hq44_4 hm
            refine Wy (.d (.lit (.bool true))) [] (Ocs (lit_tf (b := decide (x32_3.Place ≠ x37_3.Place)) hq44_4) (Omv rfl)) ?_
            refine Wn ?_
            refine Wn ?_
            refine Wn ?_
            refine Wn ?_
            refine Wn ?_
            refine Wy (.d (.lit (.bool true))) [] (OpT rfl) ?_
            refine Wy (.d (.lit (.bool true))) [] (Omv rfl) ?_
            refine Wn ?_
            refine Wn ?_
            refine Wn ?_
            refine Wn ?_
            refine Wn ?_
            refine Wn ?_
            refine Wy (.d (.lit (.bool true))) [] (OpT rfl) ?_
            refine Walk.nil ?_
            refine Then.normal ?_
            exact AWP.weak (Weak.toK 288230376151711788 0 0 [0, 1]) (J5 () hm)
          · replace hm := cF hq44_4 hm
            refine Wy (.d (.lit (.bool false))) [] (Ocs (lit_tf (b := decide (x32_3.Place ≠ x37_3.Place)) hq44_4) (Omv rfl)) ?_
            refine Wy (.loc 2 2) [] (Ofa rfl) ?_
            refine Wy (.d (.lit (.int .u32 x32_3.Broken))) [] (Old rfl) ?_
            refine Wy (.loc 3 2) [] (Ofa rfl) ?_
            refine Wy (.d (.lit (.int .u32 x37_3.Broken))) [] (Old rfl) ?_
            refine Wy (.d (.lit (.bool (decide (x32_3.Broken ≠ x37_3.Broken))))) [] (Obn rfl (fun _ => hb_neq (k := .u32))) ?_
            refine Wy (.d (.lit (.bool (decide (x32_3.Broken ≠ x37_3.Broken))))) [] (OpF rfl) ?_
            rcases tf_ (decide (x32_3.Broken ≠ x37_3.Broken)) with hq51_4 | hq51_4
            · replace hm := cT hq51_4 hm
              refine Wy (.d (.lit (.bool true))) [] (Ocs (lit_tf (b := decide (x32_3.Broken ≠ x37_3.Broken)) hq51_4) (Omv rfl)) ?_
              refine Wn ?_
              refine Wn ?_
              refine Wn ?_
              refine Wn ?_
              refine Wn ?_
              refine Wn ?_
              refine Wy (.d (.lit (.bool true))) [] (OpT rfl) ?_
              refine Walk.nil ?_
              refine Then.normal ?_
              exact AWP.weak (Weak.toK 288230376151711788 0 0 [0, 1]) (J5 () hm)
            · replace hm := cF hq51_4 hm
              refine Wy (.d (.lit (.bool false))) [] (Ocs (lit_tf (b := decide (x32_3.Broken ≠ x37_3.Broken)) hq51_4) (Omv rfl)) ?_
              refine Wy (.loc 2 1) [] (Ofa rfl) ?_
              refine Wy (.d (.sl (List.length x32_3.Bound) (flatD enc_GPair x32_3.Bound))) [] (Old rfl) ?_
              refine Wy (.loc 3 1) [] (Ofa rfl) ?_
              refine Wy (.d (.sl (List.length x37_3.Bound) (flatD enc_GPair x37_3.Bound))) [] (Old rfl) ?_
              obtain ⟨r56_4, hr56_4, hm⟩ := bnd hm
              refine Wy (.d (.lit (.int .i64 r56_4))) [] (Ocf [] [] [] 0 (ok_telltaleref19_Rank x32_3.Bound x37_3.Bound r56_4 hr56_4) (fun a w => Try.call35 a w) rfl trivial) ?_
              refine Wy (.d (.lit (.bool (decide (r56_4 ≠ 0))))) [] (Obn rfl (fun _ => hb_neq (k := .i64))) ?_
              refine Wy (.d (.lit (.bool (decide (r56_4 ≠ 0))))) [] (OpF rfl) ?_
              refine Walk.nil ?_
              refine Then.normal ?_
              refine Amk 288230376151711788 3 ⟨(tp 2 ((.loc 0 0) :: ((.loc 1 0) :: (tp 1 ((.d (.lit (.int .i64 y5_1))) :: (tp 52 ((.d (.lit (.bool (decide (r56_4 ≠ 0))))) :: []))))))), [(.box [(.d (.lit (.int .i64 p0.Cap))), (.d (.sl (List.length p0.L) (flatD enc_GRun p0.L)))]), (.box [(.d (.lit (.int .i64 p1.Cap))), (.d (.sl (List.length p1.L) (flatD enc_GRun p1.L)))]), .gone, .gone], 0⟩ ?_
              rcases tf_ (decide (r56_4 ≠ 0)) with hc58_8 | hc58_8
              · replace hm := cT hc58_8 hm
                refine AWP.if_ true (Eq.trans (by kernel_rfl) (lit_tf (b := decide (r56_4 ≠ 0)) hc58_8)) ?_
                refine AWP.seq ?_
                refine AWP.text ?_
                refine Wy (.d (.lit (.bool false))) [] (Omv rfl) ?_
                refine Walk.nil ?_
                refine Then.normal ?_
                refine AWP.ret ?_
                refine InBlock.ret ?_
                refine Then.ret ?_
                refine RoundK.ret ?_
                refine InBlock.ret ?_
                refine Then.ret ?_
                obtain rfl := Option.some.inj hm
                exact ret_i []
              · replace hm := cF hc58_8 hm
                refine AWP.if_ false (Eq.trans (by kernel_rfl) (lit_tf (b := decide (r56_4 ≠ 0)) hc58_8)) ?_
                refine AWP.skip ?_
                refine InBlock.normal ?_
                refine Then.normal ?_
                refine Amk 44 3 ⟨(tp 2 ((.loc 0 0) :: ((.loc 1 0) :: (tp 1 ((.d (.lit (.int .i64 y5_1))) :: (tp 53 [])))))), [(.box [(.d (.lit (.int .i64 p0.Cap))), (.d (.sl (List.length p0.L) (flatD enc_GRun p0.L)))]), (.box [(.d (.lit (.int .i64 p1.Cap))), (.d (.sl (List.length p1.L) (flatD enc_GRun p1.L)))]), .gone, .gone], 0⟩ ?_
                refine AWP.text ?_
                refine Wy (.d (.lit (.int .i64 y5_1))) [] (Omv rfl) ?_
                refine Wy (.d (.lit (.int .i64 (IntKind.i64.wrap (y5_1 + 1))))) [] (Obn rfl (fun _ => hb_add (k := .i64))) ?_
                refine Wy (.d (.lit (.int .i64 (IntKind.i64.wrap (y5_1 + 1))))) [] (Omv rfl) ?_
                refine Walk.nil ?_
                refine RoundK.normal ?_
                exact Rounds.weak (Weak.toK 44 0 0 [0, 1]) (ih_1 (fu_1, (IntKind.i64.wrap (y5_1 + 1))) hm (Nat.lt_succ_self _))
        · replace hm := cF hc26_7 hm
          refine AWP.if_ false (Eq.trans (by kernel_rfl) (lit_tf (b := decide (y5_1 < ((List.length p0.L : Nat) : Int))) hc26_7)) ?_
          refine AWP.exit ?_
          refine Then.exit ?_
          refine RoundK.exit ?_
          refine InBlock.same ?_
          refine Then.normal ?_
          refine Amk 0 0 ⟨(tp 59 []), [.gone, .gone], 0⟩ ?_
          refine AWP.seq ?_
          refine AWP.text ?_
          refine Wy (.d (.lit (.bool true))) [] (Omv rfl) ?_
          refine Walk.nil ?_
          refine Then.normal ?_
          refine AWP.ret ?_
          obtain rfl := Option.some.inj hm
          exact ret_i []

set_option maxRecDepth 20000 in
set_option maxHeartbeats 4000000 in
theorem ok_telltaleref21_Keep (p0 : GRuns) (p1 : (List Bool)) (r : GRuns) (h : m_telltaleref21_Keep p0 p1 = some r) : GCall Try.prog 17 [(.agg [(.d (.lit (.int .i64 p0.Cap))), (.d (.sl (List.length p0.L) (flatD enc_GRun p0.L)))]), (.d (.sl (List.length p1) (flatD encB p1)))] [] (.agg [(.d (.lit (.int .i64 r.Cap))), (.own 0)]) [(.arr 29 3 (List.length r.L) (flatD enc_GRun r.L))] := by
  refine GCall.of_body (n := 38) (rs := [(.cell 4 24)]) Try.func17 rfl rfl rfl ?_
  refine Ato ⟨((.agg [(.d (.lit (.int .i64 p0.Cap))), (.d (.sl (List.length p0.L) (flatD enc_GRun p0.L)))]) :: ((.d (.sl (List.length p1) (flatD encB p1))) :: (tu 36 []))), [], 0⟩ ?_
  have hm := h
  unfold m_telltaleref21_Keep at hm
  refine AWP.seq ?_
  refine AWP.text ?_
  refine Wy (.loc 0 0) [(0, (.box [(.d (.lit (.int .i64 p0.Cap))), (.d (.sl (List.length p0.L) (flatD enc_GRun p0.L)))]))] (Obx rfl) ?_
  refine Wy (.loc 1 0) [(1, (.box [(.d (.lit (.int .i64 0))), (.d .nil)]))] (Oal rfl) ?_
  refine Walk.nil ?_
  refine Then.normal ?_
  refine Amk 22 3 ⟨(tp 1 ((.d (.sl (List.length p1) (flatD encB p1))) :: ((.loc 0 0) :: (tp 1 ((.loc 1 0) :: (tp 33 [])))))), [(.box [(.d (.lit (.int .i64 p0.Cap))), (.d (.sl (List.length p0.L) (flatD enc_GRun p0.L)))]), (.box [(.d (.lit (.int .i64 0))), (.d .nil)])], 0⟩ ?_
  refine AWP.seq ?_
  refine AWP.text ?_
  refine Wy (.loc 0 0) [] (Ofa rfl) ?_
  refine Wy (.d (.lit (.int .i64 p0.Cap))) [] (Old rfl) ?_
  refine Wy (.agg [(.d (.lit (.int .i64 p0.Cap))), (.d .nil)]) [] (Obd rfl) ?_
  refine Wy (.loc 2 0) [(2, (.box [(.d (.lit (.int .i64 0))), (.d .nil)]))] (Oal rfl) ?_
  refine Wy (.tup []) [(2, (.box [(.d (.lit (.int .i64 p0.Cap))), (.d .nil)]))] (Ost rfl) ?_
  refine Walk.nil ?_
  refine Then.normal ?_
  refine Amk 54 7 ⟨(tp 1 ((.d (.sl (List.length p1) (flatD encB p1))) :: ((.loc 0 0) :: (tp 1 ((.loc 1 0) :: ((.loc 2 0) :: (tp 32 []))))))), [(.box [(.d (.lit (.int .i64 p0.Cap))), (.d (.sl (List.length p0.L) (flatD enc_GRun p0.L)))]), (.box [(.d (.lit (.int .i64 0))), (.d .nil)]), (.box [(.d (.lit (.int .i64 p0.Cap))), (.d .nil)])], 0⟩ ?_
  refine AWP.seq ?_
  refine AWP.seq ?_
  refine AWP.text ?_
  refine Wy (.d (.lit (.int .i64 0))) [] (Omv rfl) ?_
  refine Walk.nil ?_
  refine Then.normal ?_
  refine Amk 118 7 ⟨(tp 1 ((.d (.sl (List.length p1) (flatD encB p1))) :: ((.loc 0 0) :: (tp 1 ((.loc 1 0) :: ((.loc 2 0) :: ((.d (.lit (.int .i64 0))) :: (tp 31 [])))))))), [(.box [(.d (.lit (.int .i64 p0.Cap))), (.d (.sl (List.length p0.L) (flatD enc_GRun p0.L)))]), (.box [(.d (.lit (.int .i64 0))), (.d .nil)]), (.box [(.d (.lit (.int .i64 p0.Cap))), (.d .nil)])], 0⟩ ?_
  refine AWP.block ?_
  refine Aob 2 1 29 3 ⟨(tp 1 ((.d (.sl (List.length p1) (flatD encB p1))) :: ((.loc 0 0) :: (tp 1 ((.loc 1 0) :: ((.loc 2 0) :: ((.d (.lit (.int .i64 0))) :: (tp 31 [])))))))), [(.box [(.d (.lit (.int .i64 p0.Cap))), (.d (.sl (List.length p0.L) (flatD enc_GRun p0.L)))]), (.box [(.d (.lit (.int .i64 0))), (.d .nil)]), (.box [(.d (.lit (.int .i64 p0.Cap))), (.own 3)]), (.arr 29 3 (List.length ([] : List GRun)) (flatD enc_GRun ([] : List GRun)))], 0⟩ ?_
  refine AWP.loopI (α := Nat × (List GRun) × Int)
    (fun x => match x with | (fu_0, y5_d_1_0, y6_0) => (⟨(tp 1 ((.d (.sl (List.length p1) (flatD encB p1))) :: ((.loc 0 0) :: (tp 1 ((.loc 1 0) :: ((.loc 2 0) :: ((.d (.lit (.int .i64 y6_0))) :: (tp 31 [])))))))), [(.box [(.d (.lit (.int .i64 p0.Cap))), (.d (.sl (List.length p0.L) (flatD enc_GRun p0.L)))]), (.box [(.d (.lit (.int .i64 0))), (.d .nil)]), (.box [(.d (.lit (.int .i64 p0.Cap))), (.own 3)]), (.arr 29 3 (List.length y5_d_1_0) (flatD enc_GRun y5_d_1_0))], 0⟩ : St))
    (fun x => match x with | (fu_0, y5_d_1_0, y6_0) => m_telltaleref21_Keep_l0 p0 p1 fu_0 y5_d_1_0 y6_0 = some r)
    (fun x => match x with | (fu_0, y5_d_1_0, y6_0) => fu_0) (1152921504606846976, ([] : List GRun), 0)
    (Weak.toK 118 0 0 [0, 1, 2, 3]) hm ?_
  rintro ⟨fu_0, y5_d_1_0, y6_0⟩ n_0 hm ih_0
  try dsimp only at hm ih_0 ⊢
  cases fu_0 with
  | zero => exact absurd hm (by unfold m_telltaleref21_Keep_l0; simp)
  | succ fu_0 =>
    unfold m_telltaleref21_Keep_l0 at hm
    refine AWP.seq ?_
    refine AWP.seq ?_
    refine AWP.text ?_
    refine Wy (.d (.lit (.int .i64 y6_0))) [] (Omv rfl) ?_
    refine Wy (.loc 0 1) [] (Ofa rfl) ?_
    refine Wy (.d (.sl (List.length p0.L) (flatD enc_GRun p0.L))) [] (Old rfl) ?_
    refine Wy (.d (.lit (.int .i64 ((List.length p0.L : Nat) : Int)))) [] (Oln rfl) ?_
    refine Wy (.d (.lit (.bool (decide (y6_0 < ((List.length p0.L : Nat) : Int)))))) [] (Obn rfl (fun _ => hb_lss (k := .i64))) ?_
    rcases tf_ (decide (y6_0 < ((List.length p0.L : Nat) : Int))) with hq15_1 | hq15_1
    · replace hm := cT hq15_1 hm
      refine Wy (.d (.lit (.bool true))) [] (Ocs (lit_tf (b := decide (y6_0 < ((List.length p0.L : Nat) : Int))) hq15_1) (Omv rfl)) ?_
      refine Wy (.d (.lit (.int .i64 y6_0))) [] (Omv rfl) ?_
      refine Wy (.d (.sl (List.length p1) (flatD encB p1))) [] (Omv rfl) ?_
      refine Wy (.d (.lit (.int .i64 ((List.length p1 : Nat) : Int)))) [] (Oln rfl) ?_
      refine Wy (.d (.lit (.bool (decide (y6_0 < ((List.length p1 : Nat) : Int)))))) [] (Obn rfl (fun _ => hb_lss (k := .i64))) ?_
      refine Wy (.d (.lit (.bool (decide (y6_0 < ((List.length p1 : Nat) : Int)))))) [] (OpT rfl) ?_
      refine Walk.nil ?_
      refine Then.normal ?_
      refine Amk 1048694 15 ⟨(tp 1 ((.d (.sl (List.length p1) (flatD encB p1))) :: ((.loc 0 0) :: (tp 1 ((.loc 1 0) :: ((.loc 2 0) :: ((.d (.lit (.int .i64 y6_0))) :: (tp 13 ((.d (.lit (.bool (decide (y6_0 < ((List.length p1 : Nat) : Int)))))) :: (tp 17 [])))))))))), [(.box [(.d (.lit (.int .i64 p0.Cap))), (.d (.sl (List.length p0.L) (flatD enc_GRun p0.L)))]), (.box [(.d (.lit (.int .i64 0))), (.d .nil)]), (.box [(.d (.lit (.int .i64 p0.Cap))), (.own 3)]), (.arr 29 3 (List.length y5_d_1_0) (flatD enc_GRun y5_d_1_0))], 0⟩ ?_
      rcases tf_ (decide (y6_0 < ((List.length p1 : Nat) : Int))) with hc20_4 | hc20_4
      · replace hm := cT hc20_4 hm
        refine AWP.if_ true (Eq.trans (by kernel_rfl) (lit_tf (b := decide (y6_0 < ((List.length p1 : Nat) : Int))) hc20_4)) ?_
        refine AWP.skip ?_
        refine Then.normal ?_
        refine Amk 118 15 ⟨(tp 1 ((.d (.sl (List.length p1) (flatD encB p1))) :: ((.loc 0 0) :: (tp 1 ((.loc 1 0) :: ((.loc 2 0) :: ((.d (.lit (.int .i64 y6_0))) :: (tp 31 [])))))))), [(.box [(.d (.lit (.int .i64 p0.Cap))), (.d (.sl (List.length p0.L) (flatD enc_GRun p0.L)))]), (.box [(.d (.lit (.int .i64 0))), (.d .nil)]), (.box [(.d (.lit (.int .i64 p0.Cap))), (.own 3)]), (.arr 29 3 (List.length y5_d_1_0) (flatD enc_GRun y5_d_1_0))], 0⟩ ?_
        refine AWP.seq ?_
        refine AWP.block ?_
        refine AWP.seq ?_
        refine AWP.text ?_
        refine Wy (.d (.sl (List.length p1) (flatD encB p1))) [] (Omv rfl) ?_
        refine Wy (.d (.lit (.int .i64 y6_0))) [] (Omv rfl) ?_
        obtain ⟨x25_2, hx25_2, hm⟩ := bnd hm
        obtain ⟨hx25_2i, hx25_2g⟩ := geti_some hx25_2
        refine Wy (.d (.ref (List.drop ((Int.toNat y6_0) * 1) (flatD encB p1)))) [] (Oia rfl encB_len hx25_2i hx25_2g) ?_
        refine Wy (.d (.lit (.bool x25_2))) [] (Lf1 rfl encB_len hx25_2g) ?_
        refine Walk.nil ?_
        refine Then.normal ?_
        refine Amk 67108982 15 ⟨(tp 1 ((.d (.sl (List.length p1) (flatD encB p1))) :: ((.loc 0 0) :: (tp 1 ((.loc 1 0) :: ((.loc 2 0) :: ((.d (.lit (.int .i64 y6_0))) :: (tp 19 ((.d (.lit (.bool x25_2))) :: (tp 11 [])))))))))), [(.box [(.d (.lit (.int .i64 p0.Cap))), (.d (.sl (List.length p0.L) (flatD enc_GRun p0.L)))]), (.box [(.d (.lit (.int .i64 0))), (.d .nil)]), (.box [(.d (.lit (.int .i64 p0.Cap))), (.own 3)]), (.arr 29 3 (List.length y5_d_1_0) (flatD enc_GRun y5_d_1_0))], 0⟩ ?_
        rcases tf_ x25_2 with hc26_5 | hc26_5
        · replace hm := cT hc26_5 hm
          refine AWP.if_ true (Eq.trans (by kernel_rfl) (lit_tf (b := x25_2) hc26_5)) ?_
          refine Adr ?_
          refine Wy (.loc 2 1) [] (Ofa rfl) ?_
          refine Wy (.own 3) [] (Old rfl) ?_
          refine Wy (.loc 0 1) [] (Ofa rfl) ?_
          refine Wy (.d (.sl (List.length p0.L) (flatD enc_GRun p0.L))) [] (Old rfl) ?_
          refine Wy (.d (.lit (.int .i64 y6_0))) [] (Omv rfl) ?_
          obtain ⟨x32_3, hx32_3, hm⟩ := bnd hm
          obtain ⟨hx32_3i, hx32_3g⟩ := geti_some hx32_3
          refine Wy (.d (.ref (List.drop ((Int.toNat y6_0) * 3) (flatD enc_GRun p0.L)))) [] (Oia rfl enc_GRun_len hx32_3i hx32_3g) ?_
          refine Wy (.agg [(.d (.lit (.int .i64 x32_3.Place))), (.d (.sl (List.length x32_3.Bound) (flatD enc_GPair x32_3.Bound))), (.d (.lit (.int .u32 x32_3.Broken)))]) [] (Lf rfl enc_GRun_len hx32_3g) ?_
          refine Wy (.own 4) [(4, (.arr 29 3 (List.length ([x32_3] : List GRun)) (flatD enc_GRun ([x32_3] : List GRun))))] (Obs rfl) ?_
          obtain ⟨a35_3, ha35_3, hm⟩ := bnd hm; obtain ⟨ha35_3e, ha35_3l⟩ := app_some ha35_3
          refine Wy (.own 5) [(3, .gone), (5, (.arr 29 3 (List.length a35_3) (flatD enc_GRun a35_3)))] (Oap rfl elemOK_22 enc_GRun_len ha35_3e ha35_3l) ?_
          refine Wy (.loc 2 1) [] (Ofa rfl) ?_
          refine Wy (.tup []) [(2, (.box [(.d (.lit (.int .i64 p0.Cap))), (.own 5)]))] (Ost rfl) ?_
          refine Wdr ?_
          refine InBlock.normal ?_
          refine Then.normal ?_
          refine Amk 118 39 ⟨(tp 1 ((.d (.sl (List.length p1) (flatD encB p1))) :: ((.loc 0 0) :: (tp 1 ((.loc 1 0) :: ((.loc 2 0) :: ((.d (.lit (.int .i64 y6_0))) :: (tp 31 [])))))))), [(.box [(.d (.lit (.int .i64 p0.Cap))), (.d (.sl (List.length p0.L) (flatD enc_GRun p0.L)))]), (.box [(.d (.lit (.int .i64 0))), (.d .nil)]), (.box [(.d (.lit (.int .i64 p0.Cap))), (.own 5)]), .gone, .gone, (.arr 29 3 (List.length a35_3) (flatD enc_GRun a35_3))], 0⟩ ?_
          refine AWP.text ?_
          refine Wy (.d (.lit (.int .i64 y6_0))) [] (Omv rfl) ?_
          refine Wy (.d (.lit (.int .i64 (IntKind.i64.wrap (y6_0 + 1))))) [] (Obn rfl (fun _ => hb_add (k := .i64))) ?_
          refine Wy (.d (.lit (.int .i64 (IntKind.i64.wrap (y6_0 + 1))))) [] (Omv rfl) ?_
          refine Walk.nil ?_
          refine RoundK.normal ?_
          exact Rounds.weak (Weak.toK 118 0 0 [0, 1, 2, 5]) (ih_0 (fu_0, a35_3, (IntKind.i64.wrap (y6_0 + 1))) hm (Nat.lt_succ_self _))
        · replace hm := cF hc26_5 hm
          refine AWP.if_ false (Eq.trans (by kernel_rfl) (lit_tf (b := x25_2) hc26_5)) ?_
          refine AWP.skip ?_
          refine InBlock.normal ?_
          refine Then.normal ?_
          refine Amk 118 15 ⟨(tp 1 ((.d (.sl (List.length p1) (flatD encB p1))) :: ((.loc 0 0) :: (tp 1 ((.loc 1 0) :: ((.loc 2 0) :: ((.d (.lit (.int .i64 y6_0))) :: (tp 31 [])))))))), [(.box [(.d (.lit (.int .i64 p0.Cap))), (.d (.sl (List.length p0.L) (flatD enc_GRun p0.L)))]), (.box [(.d (.lit (.int .i64 0))), (.d .nil)]), (.box [(.d (.lit (.int .i64 p0.Cap))), (.own 3)]), (.arr 29 3 (List.length y5_d_1_0) (flatD enc_GRun y5_d_1_0))], 0⟩ ?_
          refine AWP.text ?_
          refine Wy (.d (.lit (.int .i64 y6_0))) [] (Omv rfl) ?_
          refine Wy (.d (.lit (.int .i64 (IntKind.i64.wrap (y6_0 + 1))))) [] (Obn rfl (fun _ => hb_add (k := .i64))) ?_
          refine Wy (.d (.lit (.int .i64 (IntKind.i64.wrap (y6_0 + 1))))) [] (Omv rfl) ?_
          refine Walk.nil ?_
          refine RoundK.normal ?_
          exact Rounds.weak (Weak.toK 118 0 0 [0, 1, 2, 3]) (ih_0 (fu_0, y5_d_1_0, (IntKind.i64.wrap (y6_0 + 1))) hm (Nat.lt_succ_self _))
      · replace hm := cF hc20_4 hm
        refine AWP.if_ false (Eq.trans (by kernel_rfl) (lit_tf (b := decide (y6_0 < ((List.length p1 : Nat) : Int))) hc20_4)) ?_
        refine AWP.exit ?_
        refine Then.exit ?_
        refine RoundK.exit ?_
        refine InBlock.same ?_
        refine Then.normal ?_
        refine Amk 48 14 ⟨(tp 4 ((.loc 1 0) :: ((.loc 2 0) :: (tp 32 [])))), [.gone, (.box [(.d (.lit (.int .i64 0))), (.d .nil)]), (.box [(.d (.lit (.int .i64 p0.Cap))), (.own 3)]), (.arr 29 3 (List.length y5_d_1_0) (flatD enc_GRun y5_d_1_0))], 0⟩ ?_
        refine AWP.seq ?_
        refine AWP.text ?_
        refine Wy (.agg [(.d (.lit (.int .i64 p0.Cap))), (.own 3)]) [] (Old rfl) ?_
        refine Wy (.tup []) [(1, (.box [(.d (.lit (.int .i64 p0.Cap))), (.own 3)]))] (Ost rfl) ?_
        refine Walk.nil ?_
        refine Then.normal ?_
        refine AWP.ret ?_
        obtain rfl := Option.some.inj hm
        exact ret_i [3]
    · replace hm := cF hq15_1 hm
      refine Wy (.d (.lit (.bool false))) [] (Ocs (lit_tf (b := decide (y6_0 < ((List.length p0.L : Nat) : Int))) hq15_1) (Omv rfl)) ?_
      refine Wn ?_
      refine Wn ?_
      refine Wn ?_
      refine Wn ?_
      refine Wy (.d (.lit (.bool false))) [] (OpF rfl) ?_
      refine Walk.nil ?_
      refine Then.normal ?_
      refine Amk 1048694 15 ⟨(tp 1 ((.d (.sl (List.length p1) (flatD encB p1))) :: ((.loc 0 0) :: (tp 1 ((.loc 1 0) :: ((.loc 2 0) :: ((.d (.lit (.int .i64 y6_0))) :: (tp 13 ((.d (.lit (.bool false))) :: (tp 17 [])))))))))), [(.box [(.d (.lit (.int .i64 p0.Cap))), (.d (.sl (List.length p0.L) (flatD enc_GRun p0.L)))]), (.box [(.d (.lit (.int .i64 0))), (.d .nil)]), (.box [(.d (.lit (.int .i64 p0.Cap))), (.own 3)]), (.arr 29 3 (List.length y5_d_1_0) (flatD enc_GRun y5_d_1_0))], 0⟩ ?_
      refine AWP.if_ false (by kernel_rfl) ?_
      refine AWP.exit ?_
      refine Then.exit ?_
      refine RoundK.exit ?_
      refine InBlock.same ?_
      refine Then.normal ?_
      refine Amk 48 14 ⟨(tp 4 ((.loc 1 0) :: ((.loc 2 0) :: (tp 32 [])))), [.gone, (.box [(.d (.lit (.int .i64 0))), (.d .nil)]), (.box [(.d (.lit (.int .i64 p0.Cap))), (.own 3)]), (.arr 29 3 (List.length y5_d_1_0) (flatD enc_GRun y5_d_1_0))], 0⟩ ?_
      refine AWP.seq ?_
      refine AWP.text ?_
      refine Wy (.agg [(.d (.lit (.int .i64 p0.Cap))), (.own 3)]) [] (Old rfl) ?_
      refine Wy (.tup []) [(1, (.box [(.d (.lit (.int .i64 p0.Cap))), (.own 3)]))] (Ost rfl) ?_
      refine Walk.nil ?_
      refine Then.normal ?_
      refine AWP.ret ?_
      obtain rfl := Option.some.inj hm
      exact ret_i [3]

set_option maxRecDepth 20000 in
set_option maxHeartbeats 4000000 in
theorem ok_telltaleref18_Bit (p0 : Int) (r : Int) (h : m_telltaleref18_Bit p0 = some r) : GCall Try.prog 54 [(.d (.lit (.int .i64 p0)))] [] (.d (.lit (.int .u32 r))) [] := by
  refine GCall.of_body (n := 13) (rs := [(.tmp 2)]) Try.func54 rfl rfl rfl ?_
  refine Ato ⟨((.d (.lit (.int .i64 p0))) :: (tu 12 [])), [], 0⟩ ?_
  have hm := h
  unfold m_telltaleref18_Bit at hm
  refine AWP.seq ?_
  refine AWP.text ?_
  refine Wy (.d (.lit (.int .u32 0))) [] (Omv rfl) ?_
  refine Walk.nil ?_
  refine Then.normal ?_
  refine Amk 1 0 ⟨((.d (.lit (.int .i64 p0))) :: (tp 12 [])), [], 0⟩ ?_
  refine AWP.seq ?_
  refine AWP.text ?_
  refine Wy (.d (.lit (.int .u32 1))) [] (Omv rfl) ?_
  refine Walk.nil ?_
  refine Then.normal ?_
  refine Amk 9 0 ⟨((.d (.lit (.int .i64 p0))) :: (tp 2 ((.d (.lit (.int .u32 1))) :: (tp 9 [])))), [], 0⟩ ?_
  refine AWP.seq ?_
  refine AWP.seq ?_
  refine AWP.text ?_
  refine Wy (.d (.lit (.int .i64 0))) [] (Omv rfl) ?_
  refine Walk.nil ?_
  refine Then.normal ?_
  refine Amk 25 0 ⟨((.d (.lit (.int .i64 p0))) :: (tp 2 ((.d (.lit (.int .u32 1))) :: ((.d (.lit (.int .i64 0))) :: (tp 8 []))))), [], 0⟩ ?_
  refine AWP.block ?_
  refine AWP.loopI (α := Nat × Int × Int)
    (fun x => match x with | (fu_0, y3_0, y4_0) => (⟨((.d (.lit (.int .i64 p0))) :: (tp 2 ((.d (.lit (.int .u32 y3_0))) :: ((.d (.lit (.int .i64 y4_0))) :: (tp 8 []))))), [], 0⟩ : St))
    (fun x => match x with | (fu_0, y3_0, y4_0) => m_telltaleref18_Bit_l0 p0 fu_0 y3_0 y4_0 = some r)
    (fun x => match x with | (fu_0, y3_0, y4_0) => fu_0) (1152921504606846976, 1, 0)
    (Weak.toK 25 0 0 []) hm ?_
  rintro ⟨fu_0, y3_0, y4_0⟩ n_0 hm ih_0
  try dsimp only at hm ih_0 ⊢
  cases fu_0 with
  | zero => exact absurd hm (by unfold m_telltaleref18_Bit_l0; simp)
  | succ fu_0 =>
    unfold m_telltaleref18_Bit_l0 at hm
    refine AWP.seq ?_
    refine AWP.seq ?_
    refine AWP.text ?_
    refine Wy (.d (.lit (.int .i64 y4_0))) [] (Omv rfl) ?_
    refine Wy (.d (.lit (.int .i64 p0))) [] (Omv rfl) ?_
    refine Wy (.d (.lit (.bool (decide (y4_0 < p0))))) [] (Obn rfl (fun _ => hb_lss (k := .i64))) ?_
    refine Walk.nil ?_
    refine Then.normal ?_
    refine Amk 153 0 ⟨((.d (.lit (.int .i64 p0))) :: (tp 2 ((.d (.lit (.int .u32 y3_0))) :: ((.d (.lit (.int .i64 y4_0))) :: (tp 2 ((.d (.lit (.bool (decide (y4_0 < p0))))) :: (tp 5 []))))))), [], 0⟩ ?_
    rcases tf_ (decide (y4_0 < p0)) with hc7_1 | hc7_1
    · replace hm := cT hc7_1 hm
      refine AWP.if_ true (Eq.trans (by kernel_rfl) (lit_tf (b := decide (y4_0 < p0)) hc7_1)) ?_
      refine AWP.skip ?_
      refine Then.normal ?_
      refine Amk 25 0 ⟨((.d (.lit (.int .i64 p0))) :: (tp 2 ((.d (.lit (.int .u32 y3_0))) :: ((.d (.lit (.int .i64 y4_0))) :: (tp 8 []))))), [], 0⟩ ?_
      refine AWP.seq ?_
      refine AWP.block ?_
      refine AWP.text ?_
      refine Wy (.d (.lit (.int .u32 y3_0))) [] (Omv rfl) ?_
      refine Wy (.d (.lit (.int .u32 (IntKind.u32.wrap (2 * y3_0))))) [] (Obn rfl (fun _ => hb_mul (k := .u32))) ?_
      refine Wy (.d (.lit (.int .u32 (IntKind.u32.wrap (2 * y3_0))))) [] (Omv rfl) ?_
      refine Walk.nil ?_
      refine InBlock.normal ?_
      refine Then.normal ?_
      refine Amk 25 0 ⟨((.d (.lit (.int .i64 p0))) :: (tp 2 ((.d (.lit (.int .u32 (IntKind.u32.wrap (2 * y3_0))))) :: ((.d (.lit (.int .i64 y4_0))) :: (tp 8 []))))), [], 0⟩ ?_
      refine AWP.text ?_
      refine Wy (.d (.lit (.int .i64 y4_0))) [] (Omv rfl) ?_
      refine Wy (.d (.lit (.int .i64 (IntKind.i64.wrap (y4_0 + 1))))) [] (Obn rfl (fun _ => hb_add (k := .i64))) ?_
      refine Wy (.d (.lit (.int .i64 (IntKind.i64.wrap (y4_0 + 1))))) [] (Omv rfl) ?_
      refine Walk.nil ?_
      refine RoundK.normal ?_
      exact Rounds.weak (Weak.toK 25 0 0 []) (ih_0 (fu_0, (IntKind.u32.wrap (2 * y3_0)), (IntKind.i64.wrap (y4_0 + 1))) hm (Nat.lt_succ_self _))
    · replace hm := cF hc7_1 hm
      refine AWP.if_ false (Eq.trans (by kernel_rfl) (lit_tf (b := decide (y4_0 < p0)) hc7_1)) ?_
      refine AWP.exit ?_
      refine Then.exit ?_
      refine RoundK.exit ?_
      refine InBlock.same ?_
      refine Then.normal ?_
      refine Amk 8 0 ⟨(tp 3 ((.d (.lit (.int .u32 y3_0))) :: (tp 9 []))), [], 0⟩ ?_
      refine AWP.seq ?_
      refine AWP.text ?_
      refine Wy (.d (.lit (.int .u32 y3_0))) [] (Omv rfl) ?_
      refine Wy (.d (.lit (.int .u32 y3_0))) [] (Omv rfl) ?_
      refine Walk.nil ?_
      refine Then.normal ?_
      refine AWP.ret ?_
      obtain rfl := Option.some.inj hm
      exact ret_i []

set_option maxRecDepth 20000 in
set_option maxHeartbeats 4000000 in
theorem ok_telltaleref18_Has (p0 : Int) (p1 : Int) (r : Bool) (h : m_telltaleref18_Has p0 p1 = some r) : GCall Try.prog 53 [(.d (.lit (.int .u32 p0))), (.d (.lit (.int .i64 p1)))] [] (.d (.lit (.bool r))) [] := by
  refine GCall.of_body (n := 11) (rs := [(.tmp 4)]) Try.func53 rfl rfl rfl ?_
  refine Ato ⟨((.d (.lit (.int .u32 p0))) :: ((.d (.lit (.int .i64 p1))) :: (tu 9 []))), [], 0⟩ ?_
  have hm := h
  unfold m_telltaleref18_Has at hm
  refine AWP.seq ?_
  refine AWP.text ?_
  refine Wy (.d (.lit (.bool false))) [] (Omv rfl) ?_
  refine Walk.nil ?_
  refine Then.normal ?_
  refine Amk 3 0 ⟨((.d (.lit (.int .u32 p0))) :: ((.d (.lit (.int .i64 p1))) :: (tp 9 []))), [], 0⟩ ?_
  refine AWP.seq ?_
  refine AWP.text ?_
  refine Wy (.d (.lit (.int .u32 p0))) [] (Omv rfl) ?_
  refine Wy (.d (.lit (.int .i64 p1))) [] (Omv rfl) ?_
  obtain ⟨r7_0, hr7_0, hm⟩ := bnd hm
  refine Wy (.d (.lit (.int .u32 r7_0))) [] (Ocf [] [] [] 0 (ok_telltaleref18_Bit p1 r7_0 hr7_0) (fun a w => Try.call54 a w) rfl trivial) ?_
  obtain ⟨hd8_0, hm⟩ := chk_some hm
  refine Wy (.d (.lit (.int .u32 (IntKind.u32.wrap (Int.tdiv p0 r7_0))))) [] (Ocs (by kernel_rfl) (op_bin rfl (a1 := .int .u32 p0) (a2 := .int .u32 r7_0) (by kernel_rfl) (by kernel_rfl) (fun _ => hb_quo hd8_0))) ?_
  refine Wy (.d (.lit (.int .u32 (Int.tmod (IntKind.u32.wrap (Int.tdiv p0 r7_0)) 2)))) [] (Ocs (by kernel_rfl) (op_bin rfl (a1 := .int .u32 (IntKind.u32.wrap (Int.tdiv p0 r7_0))) (a2 := .int .u32 2) (by kernel_rfl) (by kernel_rfl) (fun _ => hb_rem (by decide)))) ?_
  refine Wy (.d (.lit (.bool (decide ((Int.tmod (IntKind.u32.wrap (Int.tdiv p0 r7_0)) 2) = 1))))) [] (Obn rfl (fun _ => hb_eql (k := .u32))) ?_
  refine Wy (.d (.lit (.bool (decide ((Int.tmod (IntKind.u32.wrap (Int.tdiv p0 r7_0)) 2) = 1))))) [] (Omv rfl) ?_
  refine Walk.nil ?_
  refine Then.normal ?_
  refine AWP.ret ?_
  obtain rfl := Option.some.inj hm
  exact ret_i []

set_option maxRecDepth 20000 in
set_option maxHeartbeats 4000000 in
theorem ok_telltaleref21_Union (p0 : Int) (p1 : Int) (r : Int) (h : m_telltaleref21_Union p0 p1 = some r) : GCall Try.prog 38 [(.d (.lit (.int .u32 p0))), (.d (.lit (.int .u32 p1)))] [] (.d (.lit (.int .u32 r))) [] := by
  refine GCall.of_body (n := 24) (rs := [(.tmp 4)]) Try.func38 rfl rfl rfl ?_
  refine Ato ⟨((.d (.lit (.int .u32 p0))) :: ((.d (.lit (.int .u32 p1))) :: (tu 22 []))), [], 0⟩ ?_
  have hm := h
  unfold m_telltaleref21_Union at hm
  refine AWP.seq ?_
  refine AWP.text ?_
  refine Wy (.d (.lit (.int .u32 0))) [] (Omv rfl) ?_
  refine Walk.nil ?_
  refine Then.normal ?_
  refine Amk 3 0 ⟨((.d (.lit (.int .u32 p0))) :: ((.d (.lit (.int .u32 p1))) :: (tp 22 []))), [], 0⟩ ?_
  refine AWP.seq ?_
  refine AWP.text ?_
  refine Wy (.d (.lit (.int .u32 0))) [] (Omv rfl) ?_
  refine Walk.nil ?_
  refine Then.normal ?_
  refine Amk 35 0 ⟨((.d (.lit (.int .u32 p0))) :: ((.d (.lit (.int .u32 p1))) :: (tp 3 ((.d (.lit (.int .u32 0))) :: (tp 18 []))))), [], 0⟩ ?_
  refine AWP.seq ?_
  refine AWP.seq ?_
  refine AWP.text ?_
  refine Wy (.d (.lit (.int .i64 0))) [] (Omv rfl) ?_
  refine Walk.nil ?_
  refine Then.normal ?_
  refine Amk 99 0 ⟨((.d (.lit (.int .u32 p0))) :: ((.d (.lit (.int .u32 p1))) :: (tp 3 ((.d (.lit (.int .u32 0))) :: ((.d (.lit (.int .i64 0))) :: (tp 17 [])))))), [], 0⟩ ?_
  refine AWP.block ?_
  refine AWP.loopI (α := Nat × Int × Int)
    (fun x => match x with | (fu_0, y5_0, y6_0) => (⟨((.d (.lit (.int .u32 p0))) :: ((.d (.lit (.int .u32 p1))) :: (tp 3 ((.d (.lit (.int .u32 y5_0))) :: ((.d (.lit (.int .i64 y6_0))) :: (tp 17 [])))))), [], 0⟩ : St))
    (fun x => match x with | (fu_0, y5_0, y6_0) => m_telltaleref21_Union_l0 p0 p1 fu_0 y5_0 y6_0 = some r)
    (fun x => match x with | (fu_0, y5_0, y6_0) => fu_0) (1152921504606846976, 0, 0)
    (Weak.toK 99 0 0 []) hm ?_
  rintro ⟨fu_0, y5_0, y6_0⟩ n_0 hm ih_0
  try dsimp only at hm ih_0 ⊢
  cases fu_0 with
  | zero => exact absurd hm (by unfold m_telltaleref21_Union_l0; simp)
  | succ fu_0 =>
    unfold m_telltaleref21_Union_l0 at hm
    refine AWP.seq ?_
    refine AWP.seq ?_
    refine AWP.text ?_
    refine Wy (.d (.lit (.int .i64 y6_0))) [] (Omv rfl) ?_
    refine Wy (.d (.lit (.bool (decide (y6_0 < 32))))) [] (Obn rfl (fun _ => hb_lss (k := .i64))) ?_
    refine Walk.nil ?_
    refine Then.normal ?_
    refine Amk 355 0 ⟨((.d (.lit (.int .u32 p0))) :: ((.d (.lit (.int .u32 p1))) :: (tp 3 ((.d (.lit (.int .u32 y5_0))) :: ((.d (.lit (.int .i64 y6_0))) :: (tp 1 ((.d (.lit (.bool (decide (y6_0 < 32))))) :: (tp 15 [])))))))), [], 0⟩ ?_
    rcases tf_ (decide (y6_0 < 32)) with hc8_4 | hc8_4
    · replace hm := cT hc8_4 hm
      refine AWP.if_ true (Eq.trans (by kernel_rfl) (lit_tf (b := decide (y6_0 < 32)) hc8_4)) ?_
      refine AWP.skip ?_
      refine Then.normal ?_
      refine Amk 99 0 ⟨((.d (.lit (.int .u32 p0))) :: ((.d (.lit (.int .u32 p1))) :: (tp 3 ((.d (.lit (.int .u32 y5_0))) :: ((.d (.lit (.int .i64 y6_0))) :: (tp 17 [])))))), [], 0⟩ ?_
      refine AWP.seq ?_
      refine AWP.block ?_
      refine AWP.seq ?_
      refine AWP.text ?_
      refine Wy (.d (.lit (.int .u32 p0))) [] (Omv rfl) ?_
      refine Wy (.d (.lit (.int .i64 y6_0))) [] (Omv rfl) ?_
      obtain ⟨r13_1, hr13_1, hm⟩ := bnd hm
      refine Wy (.d (.lit (.bool r13_1))) [] (Ocf [] [] [] 0 (ok_telltaleref18_Has p0 y6_0 r13_1 hr13_1) (fun a w => Try.call53 a w) rfl trivial) ?_
      rcases tf_ r13_1 with hq14_1 | hq14_1
      · replace hm := cT hq14_1 hm
        refine Wy (.d (.lit (.bool true))) [] (Ocs (lit_tf (b := r13_1) hq14_1) (Omv rfl)) ?_
        refine Wn ?_
        refine Wn ?_
        refine Wn ?_
        refine Wy (.d (.lit (.bool true))) [] (OpT rfl) ?_
        refine Walk.nil ?_
        refine Then.normal ?_
        refine Amk 262243 0 ⟨((.d (.lit (.int .u32 p0))) :: ((.d (.lit (.int .u32 p1))) :: (tp 3 ((.d (.lit (.int .u32 y5_0))) :: ((.d (.lit (.int .i64 y6_0))) :: (tp 11 ((.d (.lit (.bool true))) :: (tp 5 [])))))))), [], 0⟩ ?_
        refine AWP.if_ true (by kernel_rfl) ?_
        refine AWP.text ?_
        refine Wy (.d (.lit (.int .u32 y5_0))) [] (Omv rfl) ?_
        refine Wy (.d (.lit (.int .i64 y6_0))) [] (Omv rfl) ?_
        obtain ⟨r21_2, hr21_2, hm⟩ := bnd hm
        refine Wy (.d (.lit (.int .u32 r21_2))) [] (Ocf [] [] [] 0 (ok_telltaleref18_Bit y6_0 r21_2 hr21_2) (fun a w => Try.call54 a w) rfl trivial) ?_
        refine Wy (.d (.lit (.int .u32 (IntKind.u32.wrap (y5_0 + r21_2))))) [] (Obn rfl (fun _ => hb_add (k := .u32))) ?_
        refine Wy (.d (.lit (.int .u32 (IntKind.u32.wrap (y5_0 + r21_2))))) [] (Omv rfl) ?_
        refine Walk.nil ?_
        refine InBlock.normal ?_
        refine Then.normal ?_
        refine Amk 99 0 ⟨((.d (.lit (.int .u32 p0))) :: ((.d (.lit (.int .u32 p1))) :: (tp 3 ((.d (.lit (.int .u32 (IntKind.u32.wrap (y5_0 + r21_2))))) :: ((.d (.lit (.int .i64 y6_0))) :: (tp 17 [])))))), [], 0⟩ ?_
        refine AWP.text ?_
        refine Wy (.d (.lit (.int .i64 y6_0))) [] (Omv rfl) ?_
        refine Wy (.d (.lit (.int .i64 (IntKind.i64.wrap (y6_0 + 1))))) [] (Obn rfl (fun _ => hb_add (k := .i64))) ?_
        refine Wy (.d (.lit (.int .i64 (IntKind.i64.wrap (y6_0 + 1))))) [] (Omv rfl) ?_
        refine Walk.nil ?_
        refine RoundK.normal ?_
        exact Rounds.weak (Weak.toK 99 0 0 []) (ih_0 (fu_0, (IntKind.u32.wrap (y5_0 + r21_2)), (IntKind.i64.wrap (y6_0 + 1))) hm (Nat.lt_succ_self _))
      · replace hm := cF hq14_1 hm
        refine Wy (.d (.lit (.bool false))) [] (Ocs (lit_tf (b := r13_1) hq14_1) (Omv rfl)) ?_
        refine Wy (.d (.lit (.int .u32 p1))) [] (Omv rfl) ?_
        refine Wy (.d (.lit (.int .i64 y6_0))) [] (Omv rfl) ?_
        obtain ⟨r17_1, hr17_1, hm⟩ := bnd hm
        refine Wy (.d (.lit (.bool r17_1))) [] (Ocf [] [] [] 0 (ok_telltaleref18_Has p1 y6_0 r17_1 hr17_1) (fun a w => Try.call53 a w) rfl trivial) ?_
        refine Wy (.d (.lit (.bool r17_1))) [] (OpF rfl) ?_
        refine Walk.nil ?_
        refine Then.normal ?_
        refine Amk 262243 0 ⟨((.d (.lit (.int .u32 p0))) :: ((.d (.lit (.int .u32 p1))) :: (tp 3 ((.d (.lit (.int .u32 y5_0))) :: ((.d (.lit (.int .i64 y6_0))) :: (tp 11 ((.d (.lit (.bool r17_1))) :: (tp 5 [])))))))), [], 0⟩ ?_
        rcases tf_ r17_1 with hc18_5 | hc18_5
        · replace hm := cT hc18_5 hm
          refine AWP.if_ true (Eq.trans (by kernel_rfl) (lit_tf (b := r17_1) hc18_5)) ?_
          refine AWP.text ?_
          refine Wy (.d (.lit (.int .u32 y5_0))) [] (Omv rfl) ?_
          refine Wy (.d (.lit (.int .i64 y6_0))) [] (Omv rfl) ?_
          obtain ⟨r21_3, hr21_3, hm⟩ := bnd hm
          refine Wy (.d (.lit (.int .u32 r21_3))) [] (Ocf [] [] [] 0 (ok_telltaleref18_Bit y6_0 r21_3 hr21_3) (fun a w => Try.call54 a w) rfl trivial) ?_
          refine Wy (.d (.lit (.int .u32 (IntKind.u32.wrap (y5_0 + r21_3))))) [] (Obn rfl (fun _ => hb_add (k := .u32))) ?_
          refine Wy (.d (.lit (.int .u32 (IntKind.u32.wrap (y5_0 + r21_3))))) [] (Omv rfl) ?_
          refine Walk.nil ?_
          refine InBlock.normal ?_
          refine Then.normal ?_
          refine Amk 99 0 ⟨((.d (.lit (.int .u32 p0))) :: ((.d (.lit (.int .u32 p1))) :: (tp 3 ((.d (.lit (.int .u32 (IntKind.u32.wrap (y5_0 + r21_3))))) :: ((.d (.lit (.int .i64 y6_0))) :: (tp 17 [])))))), [], 0⟩ ?_
          refine AWP.text ?_
          refine Wy (.d (.lit (.int .i64 y6_0))) [] (Omv rfl) ?_
          refine Wy (.d (.lit (.int .i64 (IntKind.i64.wrap (y6_0 + 1))))) [] (Obn rfl (fun _ => hb_add (k := .i64))) ?_
          refine Wy (.d (.lit (.int .i64 (IntKind.i64.wrap (y6_0 + 1))))) [] (Omv rfl) ?_
          refine Walk.nil ?_
          refine RoundK.normal ?_
          exact Rounds.weak (Weak.toK 99 0 0 []) (ih_0 (fu_0, (IntKind.u32.wrap (y5_0 + r21_3)), (IntKind.i64.wrap (y6_0 + 1))) hm (Nat.lt_succ_self _))
        · replace hm := cF hc18_5 hm
          refine AWP.if_ false (Eq.trans (by kernel_rfl) (lit_tf (b := r17_1) hc18_5)) ?_
          refine AWP.skip ?_
          refine InBlock.normal ?_
          refine Then.normal ?_
          refine Amk 99 0 ⟨((.d (.lit (.int .u32 p0))) :: ((.d (.lit (.int .u32 p1))) :: (tp 3 ((.d (.lit (.int .u32 y5_0))) :: ((.d (.lit (.int .i64 y6_0))) :: (tp 17 [])))))), [], 0⟩ ?_
          refine AWP.text ?_
          refine Wy (.d (.lit (.int .i64 y6_0))) [] (Omv rfl) ?_
          refine Wy (.d (.lit (.int .i64 (IntKind.i64.wrap (y6_0 + 1))))) [] (Obn rfl (fun _ => hb_add (k := .i64))) ?_
          refine Wy (.d (.lit (.int .i64 (IntKind.i64.wrap (y6_0 + 1))))) [] (Omv rfl) ?_
          refine Walk.nil ?_
          refine RoundK.normal ?_
          exact Rounds.weak (Weak.toK 99 0 0 []) (ih_0 (fu_0, y5_0, (IntKind.i64.wrap (y6_0 + 1))) hm (Nat.lt_succ_self _))
    · replace hm := cF hc8_4 hm
      refine AWP.if_ false (Eq.trans (by kernel_rfl) (lit_tf (b := decide (y6_0 < 32)) hc8_4)) ?_
      refine AWP.exit ?_
      refine Then.exit ?_
      refine RoundK.exit ?_
      refine InBlock.same ?_
      refine Then.normal ?_
      refine Amk 32 0 ⟨(tp 5 ((.d (.lit (.int .u32 y5_0))) :: (tp 18 []))), [], 0⟩ ?_
      refine AWP.seq ?_
      refine AWP.text ?_
      refine Wy (.d (.lit (.int .u32 y5_0))) [] (Omv rfl) ?_
      refine Wy (.d (.lit (.int .u32 y5_0))) [] (Omv rfl) ?_
      refine Walk.nil ?_
      refine Then.normal ?_
      refine AWP.ret ?_
      obtain rfl := Option.some.inj hm
      exact ret_i []

set_option maxRecDepth 20000 in
set_option maxHeartbeats 4000000 in
theorem ok_telltaleref21_Break (p0 : GRuns) (p1 : Int) (p2 : Int) (r : GRuns) (h : m_telltaleref21_Break p0 p1 p2 = some r) : GCall Try.prog 19 [(.agg [(.d (.lit (.int .i64 p0.Cap))), (.d (.sl (List.length p0.L) (flatD enc_GRun p0.L)))]), (.d (.lit (.int .i64 p1))), (.d (.lit (.int .u32 p2)))] [] (.agg [(.d (.lit (.int .i64 r.Cap))), (.own 0)]) [(.arr 29 3 (List.length r.L) (flatD enc_GRun r.L))] := by
  refine GCall.of_body (n := 40) (rs := [(.cell 6 24)]) Try.func19 rfl rfl rfl ?_
  refine Ato ⟨((.agg [(.d (.lit (.int .i64 p0.Cap))), (.d (.sl (List.length p0.L) (flatD enc_GRun p0.L)))]) :: ((.d (.lit (.int .i64 p1))) :: ((.d (.lit (.int .u32 p2))) :: (tu 37 [])))), [], 0⟩ ?_
  have hm := h
  unfold m_telltaleref21_Break at hm
  refine AWP.seq ?_
  refine AWP.text ?_
  refine Wy (.loc 0 0) [(0, (.box [(.d (.lit (.int .i64 p0.Cap))), (.d (.sl (List.length p0.L) (flatD enc_GRun p0.L)))]))] (Obx rfl) ?_
  refine Wy (.loc 1 0) [(1, (.box [(.d (.lit (.int .i64 0))), (.d .nil)]))] (Oal rfl) ?_
  refine Walk.nil ?_
  refine Then.normal ?_
  refine Amk 78 3 ⟨(tp 1 ((.d (.lit (.int .i64 p1))) :: ((.d (.lit (.int .u32 p2))) :: ((.loc 0 0) :: (tp 2 ((.loc 1 0) :: (tp 33 []))))))), [(.box [(.d (.lit (.int .i64 p0.Cap))), (.d (.sl (List.length p0.L) (flatD enc_GRun p0.L)))]), (.box [(.d (.lit (.int .i64 0))), (.d .nil)])], 0⟩ ?_
  refine AWP.seq ?_
  refine AWP.text ?_
  refine Wy (.loc 0 0) [] (Ofa rfl) ?_
  refine Wy (.d (.lit (.int .i64 p0.Cap))) [] (Old rfl) ?_
  refine Wy (.agg [(.d (.lit (.int .i64 p0.Cap))), (.d .nil)]) [] (Obd rfl) ?_
  refine Wy (.loc 2 0) [(2, (.box [(.d (.lit (.int .i64 0))), (.d .nil)]))] (Oal rfl) ?_
  refine Wy (.tup []) [(2, (.box [(.d (.lit (.int .i64 p0.Cap))), (.d .nil)]))] (Ost rfl) ?_
  refine Walk.nil ?_
  refine Then.normal ?_
  refine Amk 206 7 ⟨(tp 1 ((.d (.lit (.int .i64 p1))) :: ((.d (.lit (.int .u32 p2))) :: ((.loc 0 0) :: (tp 2 ((.loc 1 0) :: ((.loc 2 0) :: (tp 32 [])))))))), [(.box [(.d (.lit (.int .i64 p0.Cap))), (.d (.sl (List.length p0.L) (flatD enc_GRun p0.L)))]), (.box [(.d (.lit (.int .i64 0))), (.d .nil)]), (.box [(.d (.lit (.int .i64 p0.Cap))), (.d .nil)])], 0⟩ ?_
  refine AWP.seq ?_
  refine AWP.seq ?_
  refine AWP.text ?_
  refine Wy (.d (.lit (.int .i64 0))) [] (Omv rfl) ?_
  refine Walk.nil ?_
  refine Then.normal ?_
  refine Amk 462 7 ⟨(tp 1 ((.d (.lit (.int .i64 p1))) :: ((.d (.lit (.int .u32 p2))) :: ((.loc 0 0) :: (tp 2 ((.loc 1 0) :: ((.loc 2 0) :: ((.d (.lit (.int .i64 0))) :: (tp 31 []))))))))), [(.box [(.d (.lit (.int .i64 p0.Cap))), (.d (.sl (List.length p0.L) (flatD enc_GRun p0.L)))]), (.box [(.d (.lit (.int .i64 0))), (.d .nil)]), (.box [(.d (.lit (.int .i64 p0.Cap))), (.d .nil)])], 0⟩ ?_
  refine AWP.block ?_
  refine Aob 2 1 29 3 ⟨(tp 1 ((.d (.lit (.int .i64 p1))) :: ((.d (.lit (.int .u32 p2))) :: ((.loc 0 0) :: (tp 2 ((.loc 1 0) :: ((.loc 2 0) :: ((.d (.lit (.int .i64 0))) :: (tp 31 []))))))))), [(.box [(.d (.lit (.int .i64 p0.Cap))), (.d (.sl (List.length p0.L) (flatD enc_GRun p0.L)))]), (.box [(.d (.lit (.int .i64 0))), (.d .nil)]), (.box [(.d (.lit (.int .i64 p0.Cap))), (.own 3)]), (.arr 29 3 (List.length ([] : List GRun)) (flatD enc_GRun ([] : List GRun)))], 0⟩ ?_
  refine AWP.loopI (α := Nat × (List GRun) × Int)
    (fun x => match x with | (fu_0, y7_d_1_0, y8_0) => (⟨(tp 1 ((.d (.lit (.int .i64 p1))) :: ((.d (.lit (.int .u32 p2))) :: ((.loc 0 0) :: (tp 2 ((.loc 1 0) :: ((.loc 2 0) :: ((.d (.lit (.int .i64 y8_0))) :: (tp 31 []))))))))), [(.box [(.d (.lit (.int .i64 p0.Cap))), (.d (.sl (List.length p0.L) (flatD enc_GRun p0.L)))]), (.box [(.d (.lit (.int .i64 0))), (.d .nil)]), (.box [(.d (.lit (.int .i64 p0.Cap))), (.own 3)]), (.arr 29 3 (List.length y7_d_1_0) (flatD enc_GRun y7_d_1_0))], 0⟩ : St))
    (fun x => match x with | (fu_0, y7_d_1_0, y8_0) => m_telltaleref21_Break_l0 p0 p1 p2 fu_0 y7_d_1_0 y8_0 = some r)
    (fun x => match x with | (fu_0, y7_d_1_0, y8_0) => fu_0) (1152921504606846976, ([] : List GRun), 0)
    (Weak.toK 462 0 0 [0, 1, 2, 3]) hm ?_
  rintro ⟨fu_0, y7_d_1_0, y8_0⟩ n_0 hm ih_0
  try dsimp only at hm ih_0 ⊢
  cases fu_0 with
  | zero => exact absurd hm (by unfold m_telltaleref21_Break_l0; simp)
  | succ fu_0 =>
    unfold m_telltaleref21_Break_l0 at hm
    refine AWP.seq ?_
    refine AWP.seq ?_
    refine AWP.text ?_
    refine Wy (.d (.lit (.int .i64 y8_0))) [] (Omv rfl) ?_
    refine Wy (.loc 0 1) [] (Ofa rfl) ?_
    refine Wy (.d (.sl (List.length p0.L) (flatD enc_GRun p0.L))) [] (Old rfl) ?_
    refine Wy (.d (.lit (.int .i64 ((List.length p0.L : Nat) : Int)))) [] (Oln rfl) ?_
    refine Wy (.d (.lit (.bool (decide (y8_0 < ((List.length p0.L : Nat) : Int)))))) [] (Obn rfl (fun _ => hb_lss (k := .i64))) ?_
    refine Walk.nil ?_
    refine Then.normal ?_
    refine Amk 131534 15 ⟨(tp 1 ((.d (.lit (.int .i64 p1))) :: ((.d (.lit (.int .u32 p2))) :: ((.loc 0 0) :: (tp 2 ((.loc 1 0) :: ((.loc 2 0) :: ((.d (.lit (.int .i64 y8_0))) :: (tp 8 ((.d (.lit (.bool (decide (y8_0 < ((List.length p0.L : Nat) : Int)))))) :: (tp 22 []))))))))))), [(.box [(.d (.lit (.int .i64 p0.Cap))), (.d (.sl (List.length p0.L) (flatD enc_GRun p0.L)))]), (.box [(.d (.lit (.int .i64 0))), (.d .nil)]), (.box [(.d (.lit (.int .i64 p0.Cap))), (.own 3)]), (.arr 29 3 (List.length y7_d_1_0) (flatD enc_GRun y7_d_1_0))], 0⟩ ?_
    rcases tf_ (decide (y8_0 < ((List.length p0.L : Nat) : Int))) with hc17_5 | hc17_5
    · replace hm := cT hc17_5 hm
      refine AWP.if_ true (Eq.trans (by kernel_rfl) (lit_tf (b := decide (y8_0 < ((List.length p0.L : Nat) : Int))) hc17_5)) ?_
      refine AWP.skip ?_
      refine Then.normal ?_
      refine Amk 462 15 ⟨(tp 1 ((.d (.lit (.int .i64 p1))) :: ((.d (.lit (.int .u32 p2))) :: ((.loc 0 0) :: (tp 2 ((.loc 1 0) :: ((.loc 2 0) :: ((.d (.lit (.int .i64 y8_0))) :: (tp 31 []))))))))), [(.box [(.d (.lit (.int .i64 p0.Cap))), (.d (.sl (List.length p0.L) (flatD enc_GRun p0.L)))]), (.box [(.d (.lit (.int .i64 0))), (.d .nil)]), (.box [(.d (.lit (.int .i64 p0.Cap))), (.own 3)]), (.arr 29 3 (List.length y7_d_1_0) (flatD enc_GRun y7_d_1_0))], 0⟩ ?_
      refine AWP.seq ?_
      refine AWP.block ?_
      refine AWP.seq ?_
      refine AWP.text ?_
      refine Wy (.loc 0 1) [] (Ofa rfl) ?_
      refine Wy (.d (.sl (List.length p0.L) (flatD enc_GRun p0.L))) [] (Old rfl) ?_
      refine Wy (.d (.lit (.int .i64 y8_0))) [] (Omv rfl) ?_
      obtain ⟨x23_2, hx23_2, hm⟩ := bnd hm
      obtain ⟨hx23_2i, hx23_2g⟩ := geti_some hx23_2
      refine Wy (.d (.ref (List.drop ((Int.toNat y8_0) * 3) (flatD enc_GRun p0.L)))) [] (Oia rfl enc_GRun_len hx23_2i hx23_2g) ?_
      refine Wy (.agg [(.d (.lit (.int .i64 x23_2.Place))), (.d (.sl (List.length x23_2.Bound) (flatD enc_GPair x23_2.Bound))), (.d (.lit (.int .u32 x23_2.Broken)))]) [] (Lf rfl enc_GRun_len hx23_2g) ?_
      refine Wy (.loc 4 0) [(4, (.box [(.d (.lit (.int .i64 0))), (.d .nil), (.d (.lit (.int .u32 0)))]))] (Oal rfl) ?_
      refine Wy (.tup []) [(4, (.box [(.d (.lit (.int .i64 x23_2.Place))), (.d (.sl (List.length x23_2.Bound) (flatD enc_GPair x23_2.Bound))), (.d (.lit (.int .u32 x23_2.Broken)))]))] (Ost rfl) ?_
      refine Walk.nil ?_
      refine Then.normal ?_
      refine Amk 974 31 ⟨(tp 1 ((.d (.lit (.int .i64 p1))) :: ((.d (.lit (.int .u32 p2))) :: ((.loc 0 0) :: (tp 2 ((.loc 1 0) :: ((.loc 2 0) :: ((.d (.lit (.int .i64 y8_0))) :: ((.loc 4 0) :: (tp 30 [])))))))))), [(.box [(.d (.lit (.int .i64 p0.Cap))), (.d (.sl (List.length p0.L) (flatD enc_GRun p0.L)))]), (.box [(.d (.lit (.int .i64 0))), (.d .nil)]), (.box [(.d (.lit (.int .i64 p0.Cap))), (.own 3)]), (.arr 29 3 (List.length y7_d_1_0) (flatD enc_GRun y7_d_1_0)), (.box [(.d (.lit (.int .i64 x23_2.Place))), (.d (.sl (List.length x23_2.Bound) (flatD enc_GPair x23_2.Bound))), (.d (.lit (.int .u32 x23_2.Broken)))])], 0⟩ ?_
      refine AWP.cutJ (α := GRun) (fun x => match x with | y9_d_4 => (⟨(tp 1 ((.d (.lit (.int .i64 p1))) :: ((.d (.lit (.int .u32 p2))) :: ((.loc 0 0) :: (tp 2 ((.loc 1 0) :: ((.loc 2 0) :: ((.d (.lit (.int .i64 y8_0))) :: ((.loc 4 0) :: (tp 30 [])))))))))), [(.box [(.d (.lit (.int .i64 p0.Cap))), (.d (.sl (List.length p0.L) (flatD enc_GRun p0.L)))]), (.box [(.d (.lit (.int .i64 0))), (.d .nil)]), (.box [(.d (.lit (.int .i64 p0.Cap))), (.own 3)]), (.arr 29 3 (List.length y7_d_1_0) (flatD enc_GRun y7_d_1_0)), (.box [(.d (.lit (.int .i64 y9_d_4.Place))), (.d (.sl (List.length y9_d_4.Bound) (flatD enc_GPair y9_d_4.Bound))), (.d (.lit (.int .u32 y9_d_4.Broken)))])], 0⟩ : St)) (fun x => match x with | y9_d_4 => m_telltaleref21_Break_j4 y7_d_1_0 y8_0 (fun y7_d_1_0 y8_0 => m_telltaleref21_Break_l0 p0 p1 p2 fu_0 y7_d_1_0 y8_0) y9_d_4 = some r) ?_ (fun J4 => ?_)
      · rintro y9_d_4 hm
        try dsimp only at hm ⊢
        unfold m_telltaleref21_Break_j4 at hm
        refine AWP.text ?_
        refine Wy (.loc 2 1) [] (Ofa rfl) ?_
        refine Wy (.own 3) [] (Old rfl) ?_
        refine Wy (.agg [(.d (.lit (.int .i64 y9_d_4.Place))), (.d (.sl (List.length y9_d_4.Bound) (flatD enc_GPair y9_d_4.Bound))), (.d (.lit (.int .u32 y9_d_4.Broken)))]) [] (Old rfl) ?_
        refine Wy (.own 5) [(5, (.arr 29 3 (List.length ([y9_d_4] : List GRun)) (flatD enc_GRun ([y9_d_4] : List GRun))))] (Obs rfl) ?_
        obtain ⟨a37_4, ha37_4, hm⟩ := bnd hm; obtain ⟨ha37_4e, ha37_4l⟩ := app_some ha37_4
        refine Wy (.own 6) [(3, .gone), (6, (.arr 29 3 (List.length a37_4) (flatD enc_GRun a37_4)))] (Oap rfl elemOK_22 enc_GRun_len ha37_4e ha37_4l) ?_
        refine Wy (.loc 2 1) [] (Ofa rfl) ?_
        refine Wy (.tup []) [(2, (.box [(.d (.lit (.int .i64 p0.Cap))), (.own 6)]))] (Ost rfl) ?_
        refine Walk.nil ?_
        refine InBlock.normal ?_
        refine Then.normal ?_
        refine Amk 462 71 ⟨(tp 1 ((.d (.lit (.int .i64 p1))) :: ((.d (.lit (.int .u32 p2))) :: ((.loc 0 0) :: (tp 2 ((.loc 1 0) :: ((.loc 2 0) :: ((.d (.lit (.int .i64 y8_0))) :: (tp 31 []))))))))), [(.box [(.d (.lit (.int .i64 p0.Cap))), (.d (.sl (List.length p0.L) (flatD enc_GRun p0.L)))]), (.box [(.d (.lit (.int .i64 0))), (.d .nil)]), (.box [(.d (.lit (.int .i64 p0.Cap))), (.own 6)]), .gone, .gone, .gone, (.arr 29 3 (List.length a37_4) (flatD enc_GRun a37_4))], 0⟩ ?_
        refine AWP.text ?_
        refine Wy (.d (.lit (.int .i64 y8_0))) [] (Omv rfl) ?_
        refine Wy (.d (.lit (.int .i64 (IntKind.i64.wrap (y8_0 + 1))))) [] (Obn rfl (fun _ => hb_add (k := .i64))) ?_
        refine Wy (.d (.lit (.int .i64 (IntKind.i64.wrap (y8_0 + 1))))) [] (Omv rfl) ?_
        refine Walk.nil ?_
        refine RoundK.normal ?_
        exact Rounds.weak (Weak.toK 462 0 0 [0, 1, 2, 6]) (ih_0 (fu_0, a37_4, (IntKind.i64.wrap (y8_0 + 1))) hm (Nat.lt_succ_self _))
      refine AWP.seq ?_
      refine AWP.seq ?_
      refine AWP.text ?_
      refine Wy (.d (.lit (.int .i64 y8_0))) [] (Omv rfl) ?_
      refine Wy (.d (.lit (.int .i64 p1))) [] (Omv rfl) ?_
      refine Wy (.d (.lit (.bool (decide (y8_0 = p1))))) [] (Obn rfl (fun _ => hb_eql (k := .i64))) ?_
      refine Walk.nil ?_
      refine Then.normal ?_
      refine Amk 134218702 31 ⟨(tp 1 ((.d (.lit (.int .i64 p1))) :: ((.d (.lit (.int .u32 p2))) :: ((.loc 0 0) :: (tp 2 ((.loc 1 0) :: ((.loc 2 0) :: ((.d (.lit (.int .i64 y8_0))) :: ((.loc 4 0) :: (tp 17 ((.d (.lit (.bool (decide (y8_0 = p1))))) :: (tp 12 [])))))))))))), [(.box [(.d (.lit (.int .i64 p0.Cap))), (.d (.sl (List.length p0.L) (flatD enc_GRun p0.L)))]), (.box [(.d (.lit (.int .i64 0))), (.d .nil)]), (.box [(.d (.lit (.int .i64 p0.Cap))), (.own 3)]), (.arr 29 3 (List.length y7_d_1_0) (flatD enc_GRun y7_d_1_0)), (.box [(.d (.lit (.int .i64 x23_2.Place))), (.d (.sl (List.length x23_2.Bound) (flatD enc_GPair x23_2.Bound))), (.d (.lit (.int .u32 x23_2.Broken)))])], 0⟩ ?_
      rcases tf_ (decide (y8_0 = p1)) with hc27_6 | hc27_6
      · replace hm := cT hc27_6 hm
        refine AWP.if_ true (Eq.trans (by kernel_rfl) (lit_tf (b := decide (y8_0 = p1)) hc27_6)) ?_
        refine AWP.text ?_
        refine Wy (.loc 4 2) [] (Ofa rfl) ?_
        refine Wy (.d (.lit (.int .u32 x23_2.Broken))) [] (Old rfl) ?_
        refine Wy (.d (.lit (.int .u32 p2))) [] (Omv rfl) ?_
        obtain ⟨r31_3, hr31_3, hm⟩ := bnd hm
        refine Wy (.d (.lit (.int .u32 r31_3))) [] (Ocf [] [] [] 0 (ok_telltaleref21_Union x23_2.Broken p2 r31_3 hr31_3) (fun a w => Try.call38 a w) rfl trivial) ?_
        refine Wy (.loc 4 2) [] (Ofa rfl) ?_
        refine Wy (.tup []) [(4, (.box [(.d (.lit (.int .i64 x23_2.Place))), (.d (.sl (List.length x23_2.Bound) (flatD enc_GPair x23_2.Bound))), (.d (.lit (.int .u32 r31_3)))]))] (Ost rfl) ?_
        refine Walk.nil ?_
        refine Then.normal ?_
        exact AWP.weak (Weak.toK 974 0 0 [0, 1, 2, 3, 4]) (J4 ((GRun.mk x23_2.Place x23_2.Bound r31_3)) hm)
      · replace hm := cF hc27_6 hm
        refine AWP.if_ false (Eq.trans (by kernel_rfl) (lit_tf (b := decide (y8_0 = p1)) hc27_6)) ?_
        refine AWP.skip ?_
        refine Then.normal ?_
        exact AWP.weak (Weak.toK 974 0 0 [0, 1, 2, 3, 4]) (J4 (x23_2) hm)
    · replace hm := cF hc17_5 hm
      refine AWP.if_ false (Eq.trans (by kernel_rfl) (lit_tf (b := decide (y8_0 < ((List.length p0.L : Nat) : Int))) hc17_5)) ?_
      refine AWP.exit ?_
      refine Then.exit ?_
      refine RoundK.exit ?_
      refine InBlock.same ?_
      refine Then.normal ?_
      refine Amk 192 14 ⟨(tp 6 ((.loc 1 0) :: ((.loc 2 0) :: (tp 32 [])))), [.gone, (.box [(.d (.lit (.int .i64 0))), (.d .nil)]), (.box [(.d (.lit (.int .i64 p0.Cap))), (.own 3)]), (.arr 29 3 (List.length y7_d_1_0) (flatD enc_GRun y7_d_1_0))], 0⟩ ?_
      refine AWP.seq ?_
      refine AWP.text ?_
      refine Wy (.agg [(.d (.lit (.int .i64 p0.Cap))), (.own 3)]) [] (Old rfl) ?_
      refine Wy (.tup []) [(1, (.box [(.d (.lit (.int .i64 p0.Cap))), (.own 3)]))] (Ost rfl) ?_
      refine Walk.nil ?_
      refine Then.normal ?_
      refine AWP.ret ?_
      obtain rfl := Option.some.inj hm
      exact ret_i [3]
end Go.Proofs.Ytlbajkdbbffefaa.K
