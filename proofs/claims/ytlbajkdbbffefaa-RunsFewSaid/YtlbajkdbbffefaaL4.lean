/- each function computes what its model says (4) -/
import Derived.Test.YtlbajkdbbffefaaL3
namespace Go.Proofs.Ytlbajkdbbffefaa.K
open Go.RowKit Go.Lib
set_option linter.unusedVariables false
set_option linter.unusedSimpArgs false

set_option maxRecDepth 20000 in
set_option maxHeartbeats 4000000 in
theorem ok_telltalelaw21_Own (p0 : GRun) (r : GRun) (h : m_telltalelaw21_Own p0 = some r) : GCall Try.prog 10 [(.agg [(.d (.lit (.int .i64 p0.Place))), (.d (.sl (List.length p0.Bound) (flatD enc_GPair p0.Bound))), (.d (.lit (.int .u32 p0.Broken)))])] [] (.agg [(.d (.lit (.int .i64 r.Place))), (.own 0), (.d (.lit (.int .u32 r.Broken)))]) [(.arr 93 6 (List.length r.Bound) (flatD enc_GPair r.Bound))] := by
  refine GCall.of_body (n := 11) (rs := [(.cell 2 42)]) Try.func10 rfl rfl rfl ?_
  refine Ato ⟨((.agg [(.d (.lit (.int .i64 p0.Place))), (.d (.sl (List.length p0.Bound) (flatD enc_GPair p0.Bound))), (.d (.lit (.int .u32 p0.Broken)))]) :: (tu 10 [])), [], 0⟩ ?_
  have hm := h
  unfold m_telltalelaw21_Own at hm
  refine AWP.seq ?_
  refine AWP.text ?_
  refine Wy (.loc 0 0) [(0, (.box [(.d (.lit (.int .i64 p0.Place))), (.d (.sl (List.length p0.Bound) (flatD enc_GPair p0.Bound))), (.d (.lit (.int .u32 p0.Broken)))]))] (Obx rfl) ?_
  refine Wy (.loc 1 0) [(1, (.box [(.d (.lit (.int .i64 0))), (.d .nil), (.d (.lit (.int .u32 0)))]))] (Oal rfl) ?_
  refine Walk.nil ?_
  refine Then.normal ?_
  refine Amk 6 3 ⟨(tp 1 ((.loc 0 0) :: ((.loc 1 0) :: (tp 8 [])))), [(.box [(.d (.lit (.int .i64 p0.Place))), (.d (.sl (List.length p0.Bound) (flatD enc_GPair p0.Bound))), (.d (.lit (.int .u32 p0.Broken)))]), (.box [(.d (.lit (.int .i64 0))), (.d .nil), (.d (.lit (.int .u32 0)))])], 0⟩ ?_
  refine AWP.seq ?_
  refine Adr ?_
  refine Wy (.loc 0 0) [] (Ofa rfl) ?_
  refine Wy (.d (.lit (.int .i64 p0.Place))) [] (Old rfl) ?_
  refine Wy (.loc 0 1) [] (Ofa rfl) ?_
  refine Wy (.d (.sl (List.length p0.Bound) (flatD enc_GPair p0.Bound))) [] (Old rfl) ?_
  obtain ⟨r7_0, hr7_0, hm⟩ := bnd hm
  refine Wy (.own 2) [(2, (.arr 93 6 (List.length r7_0) (flatD enc_GPair r7_0)))] (Ocf [] [2] [] 0 (ok_telltalelaw19_Pairs p0.Bound r7_0 hr7_0) (fun a w => Try.call33 a w) rfl trivial) ?_
  refine Wy (.loc 0 2) [] (Ofa rfl) ?_
  refine Wy (.d (.lit (.int .u32 p0.Broken))) [] (Old rfl) ?_
  refine Wy (.agg [(.d (.lit (.int .i64 p0.Place))), (.own 2), (.d (.lit (.int .u32 p0.Broken)))]) [] (Obd rfl) ?_
  refine Wy (.tup []) [(1, (.box [(.d (.lit (.int .i64 p0.Place))), (.own 2), (.d (.lit (.int .u32 p0.Broken)))]))] (Ost rfl) ?_
  refine Wdr ?_
  refine Then.normal ?_
  refine AWP.ret ?_
  obtain rfl := Option.some.inj hm
  exact ret_i [2]

set_option maxRecDepth 20000 in
set_option maxHeartbeats 4000000 in
theorem ok_telltalelaw21_All (p0 : GRuns) (r : GRuns) (h : m_telltalelaw21_All p0 = some r) : GCall Try.prog 8 [(.agg [(.d (.lit (.int .i64 p0.Cap))), (.d (.sl (List.length p0.L) (flatD enc_GRun p0.L)))])] [] (.agg [(.d (.lit (.int .i64 r.Cap))), (.own 0)]) [(.arr 42 3 (List.length r.L) (flatD enc_GRun r.L))] := by
  refine GCall.of_body (n := 27) (rs := [(.cell 2 35)]) Try.func8 rfl rfl rfl ?_
  refine Ato ⟨((.agg [(.d (.lit (.int .i64 p0.Cap))), (.d (.sl (List.length p0.L) (flatD enc_GRun p0.L)))]) :: (tu 26 [])), [], 0⟩ ?_
  have hm := h
  unfold m_telltalelaw21_All at hm
  refine AWP.seq ?_
  refine AWP.text ?_
  refine Wy (.loc 0 0) [(0, (.box [(.d (.lit (.int .i64 p0.Cap))), (.d (.sl (List.length p0.L) (flatD enc_GRun p0.L)))]))] (Obx rfl) ?_
  refine Wy (.loc 1 0) [(1, (.box [(.d (.lit (.int .i64 0))), (.d .nil)]))] (Oal rfl) ?_
  refine Walk.nil ?_
  refine Then.normal ?_
  refine Amk 6 3 ⟨(tp 1 ((.loc 0 0) :: ((.loc 1 0) :: (tp 24 [])))), [(.box [(.d (.lit (.int .i64 p0.Cap))), (.d (.sl (List.length p0.L) (flatD enc_GRun p0.L)))]), (.box [(.d (.lit (.int .i64 0))), (.d .nil)])], 0⟩ ?_
  refine AWP.seq ?_
  refine AWP.text ?_
  refine Wy (.loc 0 0) [] (Ofa rfl) ?_
  refine Wy (.d (.lit (.int .i64 p0.Cap))) [] (Old rfl) ?_
  refine Wy (.agg [(.d (.lit (.int .i64 p0.Cap))), (.d .nil)]) [] (Obd rfl) ?_
  refine Wy (.loc 2 0) [(2, (.box [(.d (.lit (.int .i64 0))), (.d .nil)]))] (Oal rfl) ?_
  refine Wy (.tup []) [(2, (.box [(.d (.lit (.int .i64 p0.Cap))), (.d .nil)]))] (Ost rfl) ?_
  refine Walk.nil ?_
  refine Then.normal ?_
  refine Amk 14 7 ⟨(tp 1 ((.loc 0 0) :: ((.loc 1 0) :: ((.loc 2 0) :: (tp 23 []))))), [(.box [(.d (.lit (.int .i64 p0.Cap))), (.d (.sl (List.length p0.L) (flatD enc_GRun p0.L)))]), (.box [(.d (.lit (.int .i64 0))), (.d .nil)]), (.box [(.d (.lit (.int .i64 p0.Cap))), (.d .nil)])], 0⟩ ?_
  refine AWP.seq ?_
  refine AWP.seq ?_
  refine AWP.text ?_
  refine Wy (.d (.lit (.int .i64 0))) [] (Omv rfl) ?_
  refine Walk.nil ?_
  refine Then.normal ?_
  refine Amk 30 7 ⟨(tp 1 ((.loc 0 0) :: ((.loc 1 0) :: ((.loc 2 0) :: ((.d (.lit (.int .i64 0))) :: (tp 22 [])))))), [(.box [(.d (.lit (.int .i64 p0.Cap))), (.d (.sl (List.length p0.L) (flatD enc_GRun p0.L)))]), (.box [(.d (.lit (.int .i64 0))), (.d .nil)]), (.box [(.d (.lit (.int .i64 p0.Cap))), (.d .nil)])], 0⟩ ?_
  refine AWP.block ?_
  refine Aob 2 1 42 3 ⟨(tp 1 ((.loc 0 0) :: ((.loc 1 0) :: ((.loc 2 0) :: ((.d (.lit (.int .i64 0))) :: (tp 22 [])))))), [(.box [(.d (.lit (.int .i64 p0.Cap))), (.d (.sl (List.length p0.L) (flatD enc_GRun p0.L)))]), (.box [(.d (.lit (.int .i64 0))), (.d .nil)]), (.box [(.d (.lit (.int .i64 p0.Cap))), (.own 3)]), (.arr 42 3 (List.length ([] : List GRun)) (flatD enc_GRun ([] : List GRun)))], 0⟩ ?_
  refine AWP.loopI (α := Nat × (List GRun) × Int)
    (fun x => match x with | (fu_0, y3_d_1_0, y4_0) => (⟨(tp 1 ((.loc 0 0) :: ((.loc 1 0) :: ((.loc 2 0) :: ((.d (.lit (.int .i64 y4_0))) :: (tp 22 [])))))), [(.box [(.d (.lit (.int .i64 p0.Cap))), (.d (.sl (List.length p0.L) (flatD enc_GRun p0.L)))]), (.box [(.d (.lit (.int .i64 0))), (.d .nil)]), (.box [(.d (.lit (.int .i64 p0.Cap))), (.own 3)]), (.arr 42 3 (List.length y3_d_1_0) (flatD enc_GRun y3_d_1_0))], 0⟩ : St))
    (fun x => match x with | (fu_0, y3_d_1_0, y4_0) => m_telltalelaw21_All_l0 p0 fu_0 y3_d_1_0 y4_0 = some r)
    (fun x => match x with | (fu_0, y3_d_1_0, y4_0) => fu_0) (1152921504606846976, ([] : List GRun), 0)
    (Weak.toK 30 0 0 [0, 1, 2, 3]) hm ?_
  rintro ⟨fu_0, y3_d_1_0, y4_0⟩ n_0 hm ih_0
  try dsimp only at hm ih_0 ⊢
  cases fu_0 with
  | zero => exact absurd hm (by unfold m_telltalelaw21_All_l0; simp)
  | succ fu_0 =>
    unfold m_telltalelaw21_All_l0 at hm
    refine AWP.seq ?_
    refine AWP.seq ?_
    refine AWP.text ?_
    refine Wy (.d (.lit (.int .i64 y4_0))) [] (Omv rfl) ?_
    refine Wy (.loc 0 1) [] (Ofa rfl) ?_
    refine Wy (.d (.sl (List.length p0.L) (flatD enc_GRun p0.L))) [] (Old rfl) ?_
    refine Wy (.d (.lit (.int .i64 ((List.length p0.L : Nat) : Int)))) [] (Oln rfl) ?_
    refine Wy (.d (.lit (.bool (decide (y4_0 < ((List.length p0.L : Nat) : Int)))))) [] (Obn rfl (fun _ => hb_lss (k := .i64))) ?_
    refine Walk.nil ?_
    refine Then.normal ?_
    refine Amk 4126 15 ⟨(tp 1 ((.loc 0 0) :: ((.loc 1 0) :: ((.loc 2 0) :: ((.d (.lit (.int .i64 y4_0))) :: (tp 7 ((.d (.lit (.bool (decide (y4_0 < ((List.length p0.L : Nat) : Int)))))) :: (tp 14 [])))))))), [(.box [(.d (.lit (.int .i64 p0.Cap))), (.d (.sl (List.length p0.L) (flatD enc_GRun p0.L)))]), (.box [(.d (.lit (.int .i64 0))), (.d .nil)]), (.box [(.d (.lit (.int .i64 p0.Cap))), (.own 3)]), (.arr 42 3 (List.length y3_d_1_0) (flatD enc_GRun y3_d_1_0))], 0⟩ ?_
    rcases tf_ (decide (y4_0 < ((List.length p0.L : Nat) : Int))) with hc12_3 | hc12_3
    · replace hm := cT hc12_3 hm
      refine AWP.if_ true (Eq.trans (by kernel_rfl) (lit_tf (b := decide (y4_0 < ((List.length p0.L : Nat) : Int))) hc12_3)) ?_
      refine AWP.skip ?_
      refine Then.normal ?_
      refine Amk 30 15 ⟨(tp 1 ((.loc 0 0) :: ((.loc 1 0) :: ((.loc 2 0) :: ((.d (.lit (.int .i64 y4_0))) :: (tp 22 [])))))), [(.box [(.d (.lit (.int .i64 p0.Cap))), (.d (.sl (List.length p0.L) (flatD enc_GRun p0.L)))]), (.box [(.d (.lit (.int .i64 0))), (.d .nil)]), (.box [(.d (.lit (.int .i64 p0.Cap))), (.own 3)]), (.arr 42 3 (List.length y3_d_1_0) (flatD enc_GRun y3_d_1_0))], 0⟩ ?_
      refine AWP.seq ?_
      refine AWP.block ?_
      refine Adr ?_
      refine Wy (.loc 2 1) [] (Ofa rfl) ?_
      refine Wy (.own 3) [] (Old rfl) ?_
      refine Wy (.loc 0 1) [] (Ofa rfl) ?_
      refine Wy (.d (.sl (List.length p0.L) (flatD enc_GRun p0.L))) [] (Old rfl) ?_
      refine Wy (.d (.lit (.int .i64 y4_0))) [] (Omv rfl) ?_
      obtain ⟨x20_2, hx20_2, hm⟩ := bnd hm
      obtain ⟨hx20_2i, hx20_2g⟩ := geti_some hx20_2
      refine Wy (.d (.ref (List.drop ((Int.toNat y4_0) * 3) (flatD enc_GRun p0.L)))) [] (Oia rfl enc_GRun_len hx20_2i hx20_2g) ?_
      refine Wy (.agg [(.d (.lit (.int .i64 x20_2.Place))), (.d (.sl (List.length x20_2.Bound) (flatD enc_GPair x20_2.Bound))), (.d (.lit (.int .u32 x20_2.Broken)))]) [] (Lf rfl enc_GRun_len hx20_2g) ?_
      obtain ⟨r22_2, hr22_2, hm⟩ := bnd hm
      refine Wy (.agg [(.d (.lit (.int .i64 r22_2.Place))), (.d (.sl (List.length r22_2.Bound) (flatD enc_GPair r22_2.Bound))), (.d (.lit (.int .u32 r22_2.Broken)))]) [(4, (.arr 93 6 (List.length r22_2.Bound) (flatD enc_GPair r22_2.Bound))), (4, (.fro 93 6 (List.length r22_2.Bound) (flatD enc_GPair r22_2.Bound)))] (Ofz [4] (.agg [(.d (.lit (.int .i64 r22_2.Place))), (.own 4), (.d (.lit (.int .u32 r22_2.Broken)))]) [(4, (.arr 93 6 (List.length r22_2.Bound) (flatD enc_GPair r22_2.Bound)))] (Ocf [] [4] [] 0 (ok_telltalelaw21_Own x20_2 r22_2 hr22_2) (fun a w => Try.call10 a w) rfl trivial)) ?_
      refine Wy (.own 5) [(5, (.arr 42 3 (List.length ([r22_2] : List GRun)) (flatD enc_GRun ([r22_2] : List GRun))))] (Obs rfl) ?_
      obtain ⟨a24_2, ha24_2, hm⟩ := bnd hm; obtain ⟨ha24_2e, ha24_2l⟩ := app_some ha24_2
      refine Wy (.own 6) [(3, .gone), (6, (.arr 42 3 (List.length a24_2) (flatD enc_GRun a24_2)))] (Oap rfl elemOK_33 enc_GRun_len ha24_2e ha24_2l) ?_
      refine Wy (.loc 2 1) [] (Ofa rfl) ?_
      refine Wy (.tup []) [(2, (.box [(.d (.lit (.int .i64 p0.Cap))), (.own 6)]))] (Ost rfl) ?_
      refine Wdr ?_
      refine InBlock.normal ?_
      refine Then.normal ?_
      refine Amk 30 71 ⟨(tp 1 ((.loc 0 0) :: ((.loc 1 0) :: ((.loc 2 0) :: ((.d (.lit (.int .i64 y4_0))) :: (tp 22 [])))))), [(.box [(.d (.lit (.int .i64 p0.Cap))), (.d (.sl (List.length p0.L) (flatD enc_GRun p0.L)))]), (.box [(.d (.lit (.int .i64 0))), (.d .nil)]), (.box [(.d (.lit (.int .i64 p0.Cap))), (.own 6)]), .gone, .gone, .gone, (.arr 42 3 (List.length a24_2) (flatD enc_GRun a24_2))], 0⟩ ?_
      refine AWP.text ?_
      refine Wy (.d (.lit (.int .i64 y4_0))) [] (Omv rfl) ?_
      refine Wy (.d (.lit (.int .i64 (IntKind.i64.wrap (y4_0 + 1))))) [] (Obn rfl (fun _ => hb_add (k := .i64))) ?_
      refine Wy (.d (.lit (.int .i64 (IntKind.i64.wrap (y4_0 + 1))))) [] (Omv rfl) ?_
      refine Walk.nil ?_
      refine RoundK.normal ?_
      exact Rounds.weak (Weak.toK 30 0 0 [0, 1, 2, 6]) (ih_0 (fu_0, a24_2, (IntKind.i64.wrap (y4_0 + 1))) hm (Nat.lt_succ_self _))
    · replace hm := cF hc12_3 hm
      refine AWP.if_ false (Eq.trans (by kernel_rfl) (lit_tf (b := decide (y4_0 < ((List.length p0.L : Nat) : Int))) hc12_3)) ?_
      refine AWP.exit ?_
      refine Then.exit ?_
      refine RoundK.exit ?_
      refine InBlock.same ?_
      refine Then.normal ?_
      refine Amk 12 14 ⟨(tp 2 ((.loc 1 0) :: ((.loc 2 0) :: (tp 23 [])))), [.gone, (.box [(.d (.lit (.int .i64 0))), (.d .nil)]), (.box [(.d (.lit (.int .i64 p0.Cap))), (.own 3)]), (.arr 42 3 (List.length y3_d_1_0) (flatD enc_GRun y3_d_1_0))], 0⟩ ?_
      refine AWP.seq ?_
      refine AWP.text ?_
      refine Wy (.agg [(.d (.lit (.int .i64 p0.Cap))), (.own 3)]) [] (Old rfl) ?_
      refine Wy (.tup []) [(1, (.box [(.d (.lit (.int .i64 p0.Cap))), (.own 3)]))] (Ost rfl) ?_
      refine Walk.nil ?_
      refine Then.normal ?_
      refine AWP.ret ?_
      obtain rfl := Option.some.inj hm
      exact ret_i [3]

set_option maxRecDepth 20000 in
set_option maxHeartbeats 4000000 in
theorem ok_telltaleref07_Less (p0 : GEvent) (p1 : GEvent) (r : Bool) (h : m_telltaleref07_Less p0 p1 = some r) : GCall Try.prog 62 [(.agg [(.d (.lit (.int .i64 p0.Time))), (.d (.lit (.int .i64 p0.Source))), (.d (.lit (.int .i64 p0.Seq))), (.d (.lit (.string (toS p0.Type_)))), (.d (.sl (List.length p0.Vals) (flatD enc_GValue p0.Vals)))]), (.agg [(.d (.lit (.int .i64 p1.Time))), (.d (.lit (.int .i64 p1.Source))), (.d (.lit (.int .i64 p1.Seq))), (.d (.lit (.string (toS p1.Type_)))), (.d (.sl (List.length p1.Vals) (flatD enc_GValue p1.Vals)))])] [] (.d (.lit (.bool r))) [] := by
  refine GCall.of_body (n := 30) (rs := [(.tmp 4)]) Try.func62 rfl rfl rfl ?_
  refine Ato ⟨((.agg [(.d (.lit (.int .i64 p0.Time))), (.d (.lit (.int .i64 p0.Source))), (.d (.lit (.int .i64 p0.Seq))), (.d (.lit (.string (toS p0.Type_)))), (.d (.sl (List.length p0.Vals) (flatD enc_GValue p0.Vals)))]) :: ((.agg [(.d (.lit (.int .i64 p1.Time))), (.d (.lit (.int .i64 p1.Source))), (.d (.lit (.int .i64 p1.Seq))), (.d (.lit (.string (toS p1.Type_)))), (.d (.sl (List.length p1.Vals) (flatD enc_GValue p1.Vals)))]) :: (tu 28 []))), [], 0⟩ ?_
  have hm := h
  unfold m_telltaleref07_Less at hm
  refine AWP.seq ?_
  refine AWP.text ?_
  refine Wy (.loc 0 0) [(0, (.box [(.d (.lit (.int .i64 p0.Time))), (.d (.lit (.int .i64 p0.Source))), (.d (.lit (.int .i64 p0.Seq))), (.d (.lit (.string (toS p0.Type_)))), (.d (.sl (List.length p0.Vals) (flatD enc_GValue p0.Vals)))]))] (Obx rfl) ?_
  refine Wy (.loc 1 0) [(1, (.box [(.d (.lit (.int .i64 p1.Time))), (.d (.lit (.int .i64 p1.Source))), (.d (.lit (.int .i64 p1.Seq))), (.d (.lit (.string (toS p1.Type_)))), (.d (.sl (List.length p1.Vals) (flatD enc_GValue p1.Vals)))]))] (Obx rfl) ?_
  refine Wy (.d (.lit (.bool false))) [] (Omv rfl) ?_
  refine Walk.nil ?_
  refine Then.normal ?_
  refine Amk 12 3 ⟨(tp 2 ((.loc 0 0) :: ((.loc 1 0) :: (tp 26 [])))), [(.box [(.d (.lit (.int .i64 p0.Time))), (.d (.lit (.int .i64 p0.Source))), (.d (.lit (.int .i64 p0.Seq))), (.d (.lit (.string (toS p0.Type_)))), (.d (.sl (List.length p0.Vals) (flatD enc_GValue p0.Vals)))]), (.box [(.d (.lit (.int .i64 p1.Time))), (.d (.lit (.int .i64 p1.Source))), (.d (.lit (.int .i64 p1.Seq))), (.d (.lit (.string (toS p1.Type_)))), (.d (.sl (List.length p1.Vals) (flatD enc_GValue p1.Vals)))])], 0⟩ ?_
  refine AWP.seq ?_
  refine AWP.seq ?_
  refine AWP.text ?_
  refine Wy (.loc 0 0) [] (Ofa rfl) ?_
  refine Wy (.d (.lit (.int .i64 p0.Time))) [] (Old rfl) ?_
  refine Wy (.loc 1 0) [] (Ofa rfl) ?_
  refine Wy (.d (.lit (.int .i64 p1.Time))) [] (Old rfl) ?_
  refine Wy (.d (.lit (.bool (decide (p0.Time ≠ p1.Time))))) [] (Obn rfl (fun _ => hb_neq (k := .i64))) ?_
  refine Walk.nil ?_
  refine Then.normal ?_
  refine Amk 524 3 ⟨(tp 2 ((.loc 0 0) :: ((.loc 1 0) :: (tp 5 ((.d (.lit (.bool (decide (p0.Time ≠ p1.Time))))) :: (tp 20 [])))))), [(.box [(.d (.lit (.int .i64 p0.Time))), (.d (.lit (.int .i64 p0.Source))), (.d (.lit (.int .i64 p0.Seq))), (.d (.lit (.string (toS p0.Type_)))), (.d (.sl (List.length p0.Vals) (flatD enc_GValue p0.Vals)))]), (.box [(.d (.lit (.int .i64 p1.Time))), (.d (.lit (.int .i64 p1.Source))), (.d (.lit (.int .i64 p1.Seq))), (.d (.lit (.string (toS p1.Type_)))), (.d (.sl (List.length p1.Vals) (flatD enc_GValue p1.Vals)))])], 0⟩ ?_
  rcases tf_ (decide (p0.Time ≠ p1.Time)) with hc9_0 | hc9_0
  · replace hm := cT hc9_0 hm
    refine AWP.if_ true (Eq.trans (by kernel_rfl) (lit_tf (b := decide (p0.Time ≠ p1.Time)) hc9_0)) ?_
    refine AWP.seq ?_
    refine AWP.text ?_
    refine Wy (.loc 0 0) [] (Ofa rfl) ?_
    refine Wy (.d (.lit (.int .i64 p0.Time))) [] (Old rfl) ?_
    refine Wy (.loc 1 0) [] (Ofa rfl) ?_
    refine Wy (.d (.lit (.int .i64 p1.Time))) [] (Old rfl) ?_
    refine Wy (.d (.lit (.bool (decide (p0.Time < p1.Time))))) [] (Obn rfl (fun _ => hb_lss (k := .i64))) ?_
    refine Wy (.d (.lit (.bool (decide (p0.Time < p1.Time))))) [] (Omv rfl) ?_
    refine Walk.nil ?_
    refine Then.normal ?_
    refine AWP.ret ?_
    refine Then.ret ?_
    obtain rfl := Option.some.inj hm
    exact ret_i []
  · replace hm := cF hc9_0 hm
    refine AWP.if_ false (Eq.trans (by kernel_rfl) (lit_tf (b := decide (p0.Time ≠ p1.Time)) hc9_0)) ?_
    refine AWP.skip ?_
    refine Then.normal ?_
    refine Amk 12 3 ⟨(tp 2 ((.loc 0 0) :: ((.loc 1 0) :: (tp 26 [])))), [(.box [(.d (.lit (.int .i64 p0.Time))), (.d (.lit (.int .i64 p0.Source))), (.d (.lit (.int .i64 p0.Seq))), (.d (.lit (.string (toS p0.Type_)))), (.d (.sl (List.length p0.Vals) (flatD enc_GValue p0.Vals)))]), (.box [(.d (.lit (.int .i64 p1.Time))), (.d (.lit (.int .i64 p1.Source))), (.d (.lit (.int .i64 p1.Seq))), (.d (.lit (.string (toS p1.Type_)))), (.d (.sl (List.length p1.Vals) (flatD enc_GValue p1.Vals)))])], 0⟩ ?_
    refine AWP.seq ?_
    refine AWP.seq ?_
    refine AWP.text ?_
    refine Wy (.loc 0 1) [] (Ofa rfl) ?_
    refine Wy (.d (.lit (.int .i64 p0.Source))) [] (Old rfl) ?_
    refine Wy (.loc 1 1) [] (Ofa rfl) ?_
    refine Wy (.d (.lit (.int .i64 p1.Source))) [] (Old rfl) ?_
    refine Wy (.d (.lit (.bool (decide (p0.Source ≠ p1.Source))))) [] (Obn rfl (fun _ => hb_neq (k := .i64))) ?_
    refine Walk.nil ?_
    refine Then.normal ?_
    refine Amk 524300 3 ⟨(tp 2 ((.loc 0 0) :: ((.loc 1 0) :: (tp 15 ((.d (.lit (.bool (decide (p0.Source ≠ p1.Source))))) :: (tp 10 [])))))), [(.box [(.d (.lit (.int .i64 p0.Time))), (.d (.lit (.int .i64 p0.Source))), (.d (.lit (.int .i64 p0.Seq))), (.d (.lit (.string (toS p0.Type_)))), (.d (.sl (List.length p0.Vals) (flatD enc_GValue p0.Vals)))]), (.box [(.d (.lit (.int .i64 p1.Time))), (.d (.lit (.int .i64 p1.Source))), (.d (.lit (.int .i64 p1.Seq))), (.d (.lit (.string (toS p1.Type_)))), (.d (.sl (List.length p1.Vals) (flatD enc_GValue p1.Vals)))])], 0⟩ ?_
    rcases tf_ (decide (p0.Source ≠ p1.Source)) with hc19_1 | hc19_1
    · replace hm := cT hc19_1 hm
      refine AWP.if_ true (Eq.trans (by kernel_rfl) (lit_tf (b := decide (p0.Source ≠ p1.Source)) hc19_1)) ?_
      refine AWP.seq ?_
      refine AWP.text ?_
      refine Wy (.loc 0 1) [] (Ofa rfl) ?_
      refine Wy (.d (.lit (.int .i64 p0.Source))) [] (Old rfl) ?_
      refine Wy (.loc 1 1) [] (Ofa rfl) ?_
      refine Wy (.d (.lit (.int .i64 p1.Source))) [] (Old rfl) ?_
      refine Wy (.d (.lit (.bool (decide (p0.Source < p1.Source))))) [] (Obn rfl (fun _ => hb_lss (k := .i64))) ?_
      refine Wy (.d (.lit (.bool (decide (p0.Source < p1.Source))))) [] (Omv rfl) ?_
      refine Walk.nil ?_
      refine Then.normal ?_
      refine AWP.ret ?_
      refine Then.ret ?_
      obtain rfl := Option.some.inj hm
      exact ret_i []
    · replace hm := cF hc19_1 hm
      refine AWP.if_ false (Eq.trans (by kernel_rfl) (lit_tf (b := decide (p0.Source ≠ p1.Source)) hc19_1)) ?_
      refine AWP.skip ?_
      refine Then.normal ?_
      refine Amk 12 3 ⟨(tp 2 ((.loc 0 0) :: ((.loc 1 0) :: (tp 26 [])))), [(.box [(.d (.lit (.int .i64 p0.Time))), (.d (.lit (.int .i64 p0.Source))), (.d (.lit (.int .i64 p0.Seq))), (.d (.lit (.string (toS p0.Type_)))), (.d (.sl (List.length p0.Vals) (flatD enc_GValue p0.Vals)))]), (.box [(.d (.lit (.int .i64 p1.Time))), (.d (.lit (.int .i64 p1.Source))), (.d (.lit (.int .i64 p1.Seq))), (.d (.lit (.string (toS p1.Type_)))), (.d (.sl (List.length p1.Vals) (flatD enc_GValue p1.Vals)))])], 0⟩ ?_
      refine AWP.seq ?_
      refine AWP.text ?_
      refine Wy (.loc 0 2) [] (Ofa rfl) ?_
      refine Wy (.d (.lit (.int .i64 p0.Seq))) [] (Old rfl) ?_
      refine Wy (.loc 1 2) [] (Ofa rfl) ?_
      refine Wy (.d (.lit (.int .i64 p1.Seq))) [] (Old rfl) ?_
      refine Wy (.d (.lit (.bool (decide (p0.Seq < p1.Seq))))) [] (Obn rfl (fun _ => hb_lss (k := .i64))) ?_
      refine Wy (.d (.lit (.bool (decide (p0.Seq < p1.Seq))))) [] (Omv rfl) ?_
      refine Walk.nil ?_
      refine Then.normal ?_
      refine AWP.ret ?_
      obtain rfl := Option.some.inj hm
      exact ret_i []

set_option maxRecDepth 20000 in
set_option maxHeartbeats 4000000 in
theorem ok_telltaleref19_ahead (p0 : GPair) (p1 : GPair) (r : Bool) (h : m_telltaleref19_ahead p0 p1 = some r) : GCall Try.prog 51 [(.agg [(.d (.lit (.string (toS p0.Var)))), (.d (.lit (.int .i64 p0.E.Time))), (.d (.lit (.int .i64 p0.E.Source))), (.d (.lit (.int .i64 p0.E.Seq))), (.d (.lit (.string (toS p0.E.Type_)))), (.d (.sl (List.length p0.E.Vals) (flatD enc_GValue p0.E.Vals)))]), (.agg [(.d (.lit (.string (toS p1.Var)))), (.d (.lit (.int .i64 p1.E.Time))), (.d (.lit (.int .i64 p1.E.Source))), (.d (.lit (.int .i64 p1.E.Seq))), (.d (.lit (.string (toS p1.E.Type_)))), (.d (.sl (List.length p1.E.Vals) (flatD enc_GValue p1.E.Vals)))])] [] (.d (.lit (.bool r))) [] := by
  refine GCall.of_body (n := 27) (rs := [(.tmp 4)]) Try.func51 rfl rfl rfl ?_
  refine Ato ⟨((.agg [(.d (.lit (.string (toS p0.Var)))), (.d (.lit (.int .i64 p0.E.Time))), (.d (.lit (.int .i64 p0.E.Source))), (.d (.lit (.int .i64 p0.E.Seq))), (.d (.lit (.string (toS p0.E.Type_)))), (.d (.sl (List.length p0.E.Vals) (flatD enc_GValue p0.E.Vals)))]) :: ((.agg [(.d (.lit (.string (toS p1.Var)))), (.d (.lit (.int .i64 p1.E.Time))), (.d (.lit (.int .i64 p1.E.Source))), (.d (.lit (.int .i64 p1.E.Seq))), (.d (.lit (.string (toS p1.E.Type_)))), (.d (.sl (List.length p1.E.Vals) (flatD enc_GValue p1.E.Vals)))]) :: (tu 25 []))), [], 0⟩ ?_
  have hm := h
  unfold m_telltaleref19_ahead at hm
  refine AWP.seq ?_
  refine AWP.text ?_
  refine Wy (.loc 0 0) [(0, (.box [(.d (.lit (.string (toS p0.Var)))), (.d (.lit (.int .i64 p0.E.Time))), (.d (.lit (.int .i64 p0.E.Source))), (.d (.lit (.int .i64 p0.E.Seq))), (.d (.lit (.string (toS p0.E.Type_)))), (.d (.sl (List.length p0.E.Vals) (flatD enc_GValue p0.E.Vals)))]))] (Obx rfl) ?_
  refine Wy (.loc 1 0) [(1, (.box [(.d (.lit (.string (toS p1.Var)))), (.d (.lit (.int .i64 p1.E.Time))), (.d (.lit (.int .i64 p1.E.Source))), (.d (.lit (.int .i64 p1.E.Seq))), (.d (.lit (.string (toS p1.E.Type_)))), (.d (.sl (List.length p1.E.Vals) (flatD enc_GValue p1.E.Vals)))]))] (Obx rfl) ?_
  refine Wy (.d (.lit (.bool false))) [] (Omv rfl) ?_
  refine Walk.nil ?_
  refine Then.normal ?_
  refine Amk 12 3 ⟨(tp 2 ((.loc 0 0) :: ((.loc 1 0) :: (tp 23 [])))), [(.box [(.d (.lit (.string (toS p0.Var)))), (.d (.lit (.int .i64 p0.E.Time))), (.d (.lit (.int .i64 p0.E.Source))), (.d (.lit (.int .i64 p0.E.Seq))), (.d (.lit (.string (toS p0.E.Type_)))), (.d (.sl (List.length p0.E.Vals) (flatD enc_GValue p0.E.Vals)))]), (.box [(.d (.lit (.string (toS p1.Var)))), (.d (.lit (.int .i64 p1.E.Time))), (.d (.lit (.int .i64 p1.E.Source))), (.d (.lit (.int .i64 p1.E.Seq))), (.d (.lit (.string (toS p1.E.Type_)))), (.d (.sl (List.length p1.E.Vals) (flatD enc_GValue p1.E.Vals)))])], 0⟩ ?_
  refine AWP.seq ?_
  refine AWP.seq ?_
  refine AWP.text ?_
  refine Wy (.loc 0 1) [] (Ofa rfl) ?_
  refine Wy (.agg [(.d (.lit (.int .i64 p0.E.Time))), (.d (.lit (.int .i64 p0.E.Source))), (.d (.lit (.int .i64 p0.E.Seq))), (.d (.lit (.string (toS p0.E.Type_)))), (.d (.sl (List.length p0.E.Vals) (flatD enc_GValue p0.E.Vals)))]) [] (Old rfl) ?_
  refine Wy (.loc 1 1) [] (Ofa rfl) ?_
  refine Wy (.agg [(.d (.lit (.int .i64 p1.E.Time))), (.d (.lit (.int .i64 p1.E.Source))), (.d (.lit (.int .i64 p1.E.Seq))), (.d (.lit (.string (toS p1.E.Type_)))), (.d (.sl (List.length p1.E.Vals) (flatD enc_GValue p1.E.Vals)))]) [] (Old rfl) ?_
  obtain ⟨r9_0, hr9_0, hm⟩ := bnd hm
  refine Wy (.d (.lit (.bool r9_0))) [] (Ocf [] [] [] 0 (ok_telltaleref07_Less p0.E p1.E r9_0 hr9_0) (fun a w => Try.call62 a w) rfl trivial) ?_
  rcases tf_ r9_0 with hq10_0 | hq10_0
  · replace hm := cT hq10_0 hm
    refine Wy (.d (.lit (.bool true))) [] (Ocs (lit_tf (b := r9_0) hq10_0) (Omv rfl)) ?_
    refine Wn ?_
    refine Wn ?_
    refine Wn ?_
    refine Wn ?_
    refine Wn ?_
    refine Wy (.d (.lit (.bool true))) [] (OpT rfl) ?_
    refine Walk.nil ?_
    refine Then.normal ?_
    refine Amk 65548 3 ⟨(tp 2 ((.loc 0 0) :: ((.loc 1 0) :: (tp 12 ((.d (.lit (.bool true))) :: (tp 10 [])))))), [(.box [(.d (.lit (.string (toS p0.Var)))), (.d (.lit (.int .i64 p0.E.Time))), (.d (.lit (.int .i64 p0.E.Source))), (.d (.lit (.int .i64 p0.E.Seq))), (.d (.lit (.string (toS p0.E.Type_)))), (.d (.sl (List.length p0.E.Vals) (flatD enc_GValue p0.E.Vals)))]), (.box [(.d (.lit (.string (toS p1.Var)))), (.d (.lit (.int .i64 p1.E.Time))), (.d (.lit (.int .i64 p1.E.Source))), (.d (.lit (.int .i64 p1.E.Seq))), (.d (.lit (.string (toS p1.E.Type_)))), (.d (.sl (List.length p1.E.Vals) (flatD enc_GValue p1.E.Vals)))])], 0⟩ ?_
    refine AWP.if_ true (by kernel_rfl) ?_
    refine AWP.seq ?_
    refine AWP.text ?_
    refine Wy (.loc 0 1) [] (Ofa rfl) ?_
    refine Wy (.agg [(.d (.lit (.int .i64 p0.E.Time))), (.d (.lit (.int .i64 p0.E.Source))), (.d (.lit (.int .i64 p0.E.Seq))), (.d (.lit (.string (toS p0.E.Type_)))), (.d (.sl (List.length p0.E.Vals) (flatD enc_GValue p0.E.Vals)))]) [] (Old rfl) ?_
    refine Wy (.loc 1 1) [] (Ofa rfl) ?_
    refine Wy (.agg [(.d (.lit (.int .i64 p1.E.Time))), (.d (.lit (.int .i64 p1.E.Source))), (.d (.lit (.int .i64 p1.E.Seq))), (.d (.lit (.string (toS p1.E.Type_)))), (.d (.sl (List.length p1.E.Vals) (flatD enc_GValue p1.E.Vals)))]) [] (Old rfl) ?_
    obtain ⟨r21_1, hr21_1, hm⟩ := bnd hm
    refine Wy (.d (.lit (.bool r21_1))) [] (Ocf [] [] [] 0 (ok_telltaleref07_Less p0.E p1.E r21_1 hr21_1) (fun a w => Try.call62 a w) rfl trivial) ?_
    refine Wy (.d (.lit (.bool r21_1))) [] (Omv rfl) ?_
    refine Walk.nil ?_
    refine Then.normal ?_
    refine AWP.ret ?_
    refine Then.ret ?_
    obtain rfl := Option.some.inj hm
    exact ret_i []
  · replace hm := cF hq10_0 hm
    refine Wy (.d (.lit (.bool false))) [] (Ocs (lit_tf (b := r9_0) hq10_0) (Omv rfl)) ?_
    refine Wy (.loc 1 1) [] (Ofa rfl) ?_
    refine Wy (.agg [(.d (.lit (.int .i64 p1.E.Time))), (.d (.lit (.int .i64 p1.E.Source))), (.d (.lit (.int .i64 p1.E.Seq))), (.d (.lit (.string (toS p1.E.Type_)))), (.d (.sl (List.length p1.E.Vals) (flatD enc_GValue p1.E.Vals)))]) [] (Old rfl) ?_
    refine Wy (.loc 0 1) [] (Ofa rfl) ?_
    refine Wy (.agg [(.d (.lit (.int .i64 p0.E.Time))), (.d (.lit (.int .i64 p0.E.Source))), (.d (.lit (.int .i64 p0.E.Seq))), (.d (.lit (.string (toS p0.E.Type_)))), (.d (.sl (List.length p0.E.Vals) (flatD enc_GValue p0.E.Vals)))]) [] (Old rfl) ?_
    obtain ⟨r15_0, hr15_0, hm⟩ := bnd hm
    refine Wy (.d (.lit (.bool r15_0))) [] (Ocf [] [] [] 0 (ok_telltaleref07_Less p1.E p0.E r15_0 hr15_0) (fun a w => Try.call62 a w) rfl trivial) ?_
    refine Wy (.d (.lit (.bool r15_0))) [] (OpF rfl) ?_
    refine Walk.nil ?_
    refine Then.normal ?_
    refine Amk 65548 3 ⟨(tp 2 ((.loc 0 0) :: ((.loc 1 0) :: (tp 12 ((.d (.lit (.bool r15_0))) :: (tp 10 [])))))), [(.box [(.d (.lit (.string (toS p0.Var)))), (.d (.lit (.int .i64 p0.E.Time))), (.d (.lit (.int .i64 p0.E.Source))), (.d (.lit (.int .i64 p0.E.Seq))), (.d (.lit (.string (toS p0.E.Type_)))), (.d (.sl (List.length p0.E.Vals) (flatD enc_GValue p0.E.Vals)))]), (.box [(.d (.lit (.string (toS p1.Var)))), (.d (.lit (.int .i64 p1.E.Time))), (.d (.lit (.int .i64 p1.E.Source))), (.d (.lit (.int .i64 p1.E.Seq))), (.d (.lit (.string (toS p1.E.Type_)))), (.d (.sl (List.length p1.E.Vals) (flatD enc_GValue p1.E.Vals)))])], 0⟩ ?_
    rcases tf_ r15_0 with hc16_3 | hc16_3
    · replace hm := cT hc16_3 hm
      refine AWP.if_ true (Eq.trans (by kernel_rfl) (lit_tf (b := r15_0) hc16_3)) ?_
      refine AWP.seq ?_
      refine AWP.text ?_
      refine Wy (.loc 0 1) [] (Ofa rfl) ?_
      refine Wy (.agg [(.d (.lit (.int .i64 p0.E.Time))), (.d (.lit (.int .i64 p0.E.Source))), (.d (.lit (.int .i64 p0.E.Seq))), (.d (.lit (.string (toS p0.E.Type_)))), (.d (.sl (List.length p0.E.Vals) (flatD enc_GValue p0.E.Vals)))]) [] (Old rfl) ?_
      refine Wy (.loc 1 1) [] (Ofa rfl) ?_
      refine Wy (.agg [(.d (.lit (.int .i64 p1.E.Time))), (.d (.lit (.int .i64 p1.E.Source))), (.d (.lit (.int .i64 p1.E.Seq))), (.d (.lit (.string (toS p1.E.Type_)))), (.d (.sl (List.length p1.E.Vals) (flatD enc_GValue p1.E.Vals)))]) [] (Old rfl) ?_
      obtain ⟨r21_2, hr21_2, hm⟩ := bnd hm
      refine Wy (.d (.lit (.bool r21_2))) [] (Ocf [] [] [] 0 (ok_telltaleref07_Less p0.E p1.E r21_2 hr21_2) (fun a w => Try.call62 a w) rfl trivial) ?_
      refine Wy (.d (.lit (.bool r21_2))) [] (Omv rfl) ?_
      refine Walk.nil ?_
      refine Then.normal ?_
      refine AWP.ret ?_
      refine Then.ret ?_
      obtain rfl := Option.some.inj hm
      exact ret_i []
    · replace hm := cF hc16_3 hm
      refine AWP.if_ false (Eq.trans (by kernel_rfl) (lit_tf (b := r15_0) hc16_3)) ?_
      refine AWP.skip ?_
      refine Then.normal ?_
      refine Amk 12 3 ⟨(tp 2 ((.loc 0 0) :: ((.loc 1 0) :: (tp 23 [])))), [(.box [(.d (.lit (.string (toS p0.Var)))), (.d (.lit (.int .i64 p0.E.Time))), (.d (.lit (.int .i64 p0.E.Source))), (.d (.lit (.int .i64 p0.E.Seq))), (.d (.lit (.string (toS p0.E.Type_)))), (.d (.sl (List.length p0.E.Vals) (flatD enc_GValue p0.E.Vals)))]), (.box [(.d (.lit (.string (toS p1.Var)))), (.d (.lit (.int .i64 p1.E.Time))), (.d (.lit (.int .i64 p1.E.Source))), (.d (.lit (.int .i64 p1.E.Seq))), (.d (.lit (.string (toS p1.E.Type_)))), (.d (.sl (List.length p1.E.Vals) (flatD enc_GValue p1.E.Vals)))])], 0⟩ ?_
      refine AWP.seq ?_
      refine AWP.text ?_
      refine Wy (.loc 0 0) [] (Ofa rfl) ?_
      refine Wy (.d (.lit (.string (toS p0.Var)))) [] (Old rfl) ?_
      refine Wy (.loc 1 0) [] (Ofa rfl) ?_
      refine Wy (.d (.lit (.string (toS p1.Var)))) [] (Old rfl) ?_
      refine Wy (.d (.lit (.bool (ltS p0.Var p1.Var)))) [] (op_bin rfl (a1 := .string (toS p0.Var)) (a2 := .string (toS p1.Var)) (by kernel_rfl) (by kernel_rfl) (fun _ => hb_tlss)) ?_
      refine Wy (.d (.lit (.bool (ltS p0.Var p1.Var)))) [] (Omv rfl) ?_
      refine Walk.nil ?_
      refine Then.normal ?_
      refine AWP.ret ?_
      obtain rfl := Option.some.inj hm
      exact ret_i []

set_option maxRecDepth 20000 in
set_option maxHeartbeats 4000000 in
theorem ok_telltaleref19_Rank (p0 : (List GPair)) (p1 : (List GPair)) (r : Int) (h : m_telltaleref19_Rank p0 p1 = some r) : GCall Try.prog 35 [(.d (.sl (List.length p0) (flatD enc_GPair p0))), (.d (.sl (List.length p1) (flatD enc_GPair p1)))] [] (.d (.lit (.int .i64 r))) [] := by
  refine GCall.of_body (n := 47) (rs := [(.tmp 4)]) Try.func35 rfl rfl rfl ?_
  refine Ato ⟨((.d (.sl (List.length p0) (flatD enc_GPair p0))) :: ((.d (.sl (List.length p1) (flatD enc_GPair p1))) :: (tu 45 []))), [], 0⟩ ?_
  have hm := h
  unfold m_telltaleref19_Rank at hm
  refine AWP.seq ?_
  refine AWP.text ?_
  refine Wy (.d (.lit (.int .i64 0))) [] (Omv rfl) ?_
  refine Walk.nil ?_
  refine Then.normal ?_
  refine Amk 3 0 ⟨((.d (.sl (List.length p0) (flatD enc_GPair p0))) :: ((.d (.sl (List.length p1) (flatD enc_GPair p1))) :: (tp 45 []))), [], 0⟩ ?_
  refine AWP.cutJ (α := Unit) (fun x => match x with | () => (⟨((.d (.sl (List.length p0) (flatD enc_GPair p0))) :: ((.d (.sl (List.length p1) (flatD enc_GPair p1))) :: (tp 45 []))), [], 0⟩ : St)) (fun x => match x with | () => m_telltaleref19_Rank_j4 p0 p1 = some r) ?_ (fun J4 => ?_)
  · rintro ⟨⟩ hm
    try dsimp only at hm ⊢
    unfold m_telltaleref19_Rank_j4 at hm
    refine AWP.seq ?_
    refine AWP.seq ?_
    refine AWP.text ?_
    refine Wy (.d (.sl (List.length p0) (flatD enc_GPair p0))) [] (Omv rfl) ?_
    refine Wy (.d (.lit (.int .i64 ((List.length p0 : Nat) : Int)))) [] (Oln rfl) ?_
    refine Wy (.d (.sl (List.length p1) (flatD enc_GPair p1))) [] (Omv rfl) ?_
    refine Wy (.d (.lit (.int .i64 ((List.length p1 : Nat) : Int)))) [] (Oln rfl) ?_
    refine Wy (.d (.lit (.bool (decide (((List.length p0 : Nat) : Int) < ((List.length p1 : Nat) : Int)))))) [] (Obn rfl (fun _ => hb_lss (k := .i64))) ?_
    refine Walk.nil ?_
    refine Then.normal ?_
    refine Amk 1099511627779 0 ⟨((.d (.sl (List.length p0) (flatD enc_GPair p0))) :: ((.d (.sl (List.length p1) (flatD enc_GPair p1))) :: (tp 38 ((.d (.lit (.bool (decide (((List.length p0 : Nat) : Int) < ((List.length p1 : Nat) : Int)))))) :: (tp 6 []))))), [], 0⟩ ?_
    rcases tf_ (decide (((List.length p0 : Nat) : Int) < ((List.length p1 : Nat) : Int))) with hc40_7 | hc40_7
    · replace hm := cT hc40_7 hm
      refine AWP.if_ true (Eq.trans (by kernel_rfl) (lit_tf (b := decide (((List.length p0 : Nat) : Int) < ((List.length p1 : Nat) : Int))) hc40_7)) ?_
      refine AWP.seq ?_
      refine AWP.text ?_
      refine Wy (.d (.lit (.int .i64 (-1)))) [] (Omv rfl) ?_
      refine Walk.nil ?_
      refine Then.normal ?_
      refine AWP.ret ?_
      refine Then.ret ?_
      obtain rfl := Option.some.inj hm
      exact ret_i []
    · replace hm := cF hc40_7 hm
      refine AWP.if_ false (Eq.trans (by kernel_rfl) (lit_tf (b := decide (((List.length p0 : Nat) : Int) < ((List.length p1 : Nat) : Int))) hc40_7)) ?_
      refine AWP.skip ?_
      refine Then.normal ?_
      refine Amk 3 0 ⟨((.d (.sl (List.length p0) (flatD enc_GPair p0))) :: ((.d (.sl (List.length p1) (flatD enc_GPair p1))) :: (tp 45 []))), [], 0⟩ ?_
      refine AWP.seq ?_
      refine AWP.text ?_
      refine Wy (.d (.sl (List.length p0) (flatD enc_GPair p0))) [] (Omv rfl) ?_
      refine Wy (.d (.lit (.int .i64 ((List.length p0 : Nat) : Int)))) [] (Oln rfl) ?_
      refine Wy (.d (.sl (List.length p1) (flatD enc_GPair p1))) [] (Omv rfl) ?_
      refine Wy (.d (.lit (.int .i64 ((List.length p1 : Nat) : Int)))) [] (Oln rfl) ?_
      refine Wy (.d (.lit (.int .i64 (IntKind.i64.wrap (((List.length p0 : Nat) : Int) - ((List.length p1 : Nat) : Int)))))) [] (Obn rfl (fun _ => hb_sub (k := .i64))) ?_
      refine Wy (.d (.lit (.int .i64 (min 1 (IntKind.i64.wrap (((List.length p0 : Nat) : Int) - ((List.length p1 : Nat) : Int))))))) [] (op_bi2 rfl (a1 := .int .i64 1) (a2 := .int .i64 (IntKind.i64.wrap (((List.length p0 : Nat) : Int) - ((List.length p1 : Nat) : Int)))) (by kernel_rfl) (by kernel_rfl) hb_min) ?_
      refine Wy (.d (.lit (.int .i64 (min 1 (IntKind.i64.wrap (((List.length p0 : Nat) : Int) - ((List.length p1 : Nat) : Int))))))) [] (Omv rfl) ?_
      refine Walk.nil ?_
      refine Then.normal ?_
      refine AWP.ret ?_
      obtain rfl := Option.some.inj hm
      exact ret_i []
  refine AWP.seq ?_
  refine AWP.seq ?_
  refine AWP.text ?_
  refine Wy (.d (.lit (.int .i64 0))) [] (Omv rfl) ?_
  refine Walk.nil ?_
  refine Then.normal ?_
  refine Amk 35 0 ⟨((.d (.sl (List.length p0) (flatD enc_GPair p0))) :: ((.d (.sl (List.length p1) (flatD enc_GPair p1))) :: (tp 3 ((.d (.lit (.int .i64 0))) :: (tp 41 []))))), [], 0⟩ ?_
  refine AWP.block ?_
  refine AWP.loopI (α := Nat × Int)
    (fun x => match x with | (fu_0, y5_0) => (⟨((.d (.sl (List.length p0) (flatD enc_GPair p0))) :: ((.d (.sl (List.length p1) (flatD enc_GPair p1))) :: (tp 3 ((.d (.lit (.int .i64 y5_0))) :: (tp 41 []))))), [], 0⟩ : St))
    (fun x => match x with | (fu_0, y5_0) => m_telltaleref19_Rank_l0 p0 p1 fu_0 y5_0 = some r)
    (fun x => match x with | (fu_0, y5_0) => fu_0) (1152921504606846976, 0)
    (Weak.toK 35 0 0 []) hm ?_
  rintro ⟨fu_0, y5_0⟩ n_0 hm ih_0
  try dsimp only at hm ih_0 ⊢
  cases fu_0 with
  | zero => exact absurd hm (by unfold m_telltaleref19_Rank_l0; simp)
  | succ fu_0 =>
    unfold m_telltaleref19_Rank_l0 at hm
    refine AWP.seq ?_
    refine AWP.seq ?_
    refine AWP.text ?_
    refine Wy (.d (.lit (.int .i64 y5_0))) [] (Omv rfl) ?_
    refine Wy (.d (.sl (List.length p0) (flatD enc_GPair p0))) [] (Omv rfl) ?_
    refine Wy (.d (.lit (.int .i64 ((List.length p0 : Nat) : Int)))) [] (Oln rfl) ?_
    refine Wy (.d (.lit (.bool (decide (y5_0 < ((List.length p0 : Nat) : Int)))))) [] (Obn rfl (fun _ => hb_lss (k := .i64))) ?_
    rcases tf_ (decide (y5_0 < ((List.length p0 : Nat) : Int))) with hq10_1 | hq10_1
    · replace hm := cT hq10_1 hm
      refine Wy (.d (.lit (.bool true))) [] (Ocs (lit_tf (b := decide (y5_0 < ((List.length p0 : Nat) : Int))) hq10_1) (Omv rfl)) ?_
      refine Wy (.d (.lit (.int .i64 y5_0))) [] (Omv rfl) ?_
      refine Wy (.d (.sl (List.length p1) (flatD enc_GPair p1))) [] (Omv rfl) ?_
      refine Wy (.d (.lit (.int .i64 ((List.length p1 : Nat) : Int)))) [] (Oln rfl) ?_
      refine Wy (.d (.lit (.bool (decide (y5_0 < ((List.length p1 : Nat) : Int)))))) [] (Obn rfl (fun _ => hb_lss (k := .i64))) ?_
      refine Wy (.d (.lit (.bool (decide (y5_0 < ((List.length p1 : Nat) : Int)))))) [] (OpT rfl) ?_
      refine Walk.nil ?_
      refine Then.normal ?_
      refine Amk 32803 0 ⟨((.d (.sl (List.length p0) (flatD enc_GPair p0))) :: ((.d (.sl (List.length p1) (flatD enc_GPair p1))) :: (tp 3 ((.d (.lit (.int .i64 y5_0))) :: (tp 9 ((.d (.lit (.bool (decide (y5_0 < ((List.length p1 : Nat) : Int)))))) :: (tp 31 []))))))), [], 0⟩ ?_
      rcases tf_ (decide (y5_0 < ((List.length p1 : Nat) : Int))) with hc15_8 | hc15_8
      · replace hm := cT hc15_8 hm
        refine AWP.if_ true (Eq.trans (by kernel_rfl) (lit_tf (b := decide (y5_0 < ((List.length p1 : Nat) : Int))) hc15_8)) ?_
        refine AWP.skip ?_
        refine Then.normal ?_
        refine Amk 35 0 ⟨((.d (.sl (List.length p0) (flatD enc_GPair p0))) :: ((.d (.sl (List.length p1) (flatD enc_GPair p1))) :: (tp 3 ((.d (.lit (.int .i64 y5_0))) :: (tp 41 []))))), [], 0⟩ ?_
        refine AWP.seq ?_
        refine AWP.block ?_
        refine AWP.seq ?_
        refine AWP.seq ?_
        refine Adr ?_
        refine Wy (.d (.sl (List.length p0) (flatD enc_GPair p0))) [] (Omv rfl) ?_
        refine Wy (.d (.lit (.int .i64 y5_0))) [] (Omv rfl) ?_
        obtain ⟨x20_2, hx20_2, hm⟩ := bnd hm
        obtain ⟨hx20_2i, hx20_2g⟩ := geti_some hx20_2
        refine Wy (.d (.ref (List.drop ((Int.toNat y5_0) * 6) (flatD enc_GPair p0)))) [] (Oia rfl enc_GPair_len hx20_2i hx20_2g) ?_
        refine Wy (.agg [(.d (.lit (.string (toS x20_2.Var)))), (.d (.lit (.int .i64 x20_2.E.Time))), (.d (.lit (.int .i64 x20_2.E.Source))), (.d (.lit (.int .i64 x20_2.E.Seq))), (.d (.lit (.string (toS x20_2.E.Type_)))), (.d (.sl (List.length x20_2.E.Vals) (flatD enc_GValue x20_2.E.Vals)))]) [] (Lf rfl enc_GPair_len hx20_2g) ?_
        refine Wy (.d (.sl (List.length p1) (flatD enc_GPair p1))) [] (Omv rfl) ?_
        refine Wy (.d (.lit (.int .i64 y5_0))) [] (Omv rfl) ?_
        obtain ⟨x24_2, hx24_2, hm⟩ := bnd hm
        obtain ⟨hx24_2i, hx24_2g⟩ := geti_some hx24_2
        refine Wy (.d (.ref (List.drop ((Int.toNat y5_0) * 6) (flatD enc_GPair p1)))) [] (Oia rfl enc_GPair_len hx24_2i hx24_2g) ?_
        refine Wy (.agg [(.d (.lit (.string (toS x24_2.Var)))), (.d (.lit (.int .i64 x24_2.E.Time))), (.d (.lit (.int .i64 x24_2.E.Source))), (.d (.lit (.int .i64 x24_2.E.Seq))), (.d (.lit (.string (toS x24_2.E.Type_)))), (.d (.sl (List.length x24_2.E.Vals) (flatD enc_GValue x24_2.E.Vals)))]) [] (Lf rfl enc_GPair_len hx24_2g) ?_
        obtain ⟨r26_2, hr26_2, hm⟩ := bnd hm
        refine Wy (.d (.lit (.bool r26_2))) [] (Ocf [] [] [] 0 (ok_telltaleref19_ahead x20_2 x24_2 r26_2 hr26_2) (fun a w => Try.call51 a w) rfl trivial) ?_
        refine Wdr ?_
        refine Then.normal ?_
        refine Amk 67108899 0 ⟨((.d (.sl (List.length p0) (flatD enc_GPair p0))) :: ((.d (.sl (List.length p1) (flatD enc_GPair p1))) :: (tp 3 ((.d (.lit (.int .i64 y5_0))) :: (tp 20 ((.d (.lit (.bool r26_2))) :: (tp 20 []))))))), [], 0⟩ ?_
        rcases tf_ r26_2 with hc26_9 | hc26_9
        · replace hm := cT hc26_9 hm
          refine AWP.if_ true (Eq.trans (by kernel_rfl) (lit_tf (b := r26_2) hc26_9)) ?_
          refine AWP.seq ?_
          refine AWP.text ?_
          refine Wy (.d (.lit (.int .i64 (-1)))) [] (Omv rfl) ?_
          refine Walk.nil ?_
          refine Then.normal ?_
          refine AWP.ret ?_
          refine Then.ret ?_
          refine InBlock.ret ?_
          refine Then.ret ?_
          refine RoundK.ret ?_
          refine InBlock.ret ?_
          refine Then.ret ?_
          obtain rfl := Option.some.inj hm
          exact ret_i []
        · replace hm := cF hc26_9 hm
          refine AWP.if_ false (Eq.trans (by kernel_rfl) (lit_tf (b := r26_2) hc26_9)) ?_
          refine AWP.skip ?_
          refine Then.normal ?_
          refine Amk 35 0 ⟨((.d (.sl (List.length p0) (flatD enc_GPair p0))) :: ((.d (.sl (List.length p1) (flatD enc_GPair p1))) :: (tp 3 ((.d (.lit (.int .i64 y5_0))) :: (tp 41 []))))), [], 0⟩ ?_
          refine AWP.seq ?_
          refine Adr ?_
          refine Wy (.d (.sl (List.length p1) (flatD enc_GPair p1))) [] (Omv rfl) ?_
          refine Wy (.d (.lit (.int .i64 y5_0))) [] (Omv rfl) ?_
          obtain ⟨x29_3, hx29_3, hm⟩ := bnd hm
          obtain ⟨hx29_3i, hx29_3g⟩ := geti_some hx29_3
          refine Wy (.d (.ref (List.drop ((Int.toNat y5_0) * 6) (flatD enc_GPair p1)))) [] (Oia rfl enc_GPair_len hx29_3i hx29_3g) ?_
          refine Wy (.agg [(.d (.lit (.string (toS x29_3.Var)))), (.d (.lit (.int .i64 x29_3.E.Time))), (.d (.lit (.int .i64 x29_3.E.Source))), (.d (.lit (.int .i64 x29_3.E.Seq))), (.d (.lit (.string (toS x29_3.E.Type_)))), (.d (.sl (List.length x29_3.E.Vals) (flatD enc_GValue x29_3.E.Vals)))]) [] (Lf rfl enc_GPair_len hx29_3g) ?_
          refine Wy (.d (.sl (List.length p0) (flatD enc_GPair p0))) [] (Omv rfl) ?_
          refine Wy (.d (.lit (.int .i64 y5_0))) [] (Omv rfl) ?_
          obtain ⟨x33_3, hx33_3, hm⟩ := bnd hm
          obtain ⟨hx33_3i, hx33_3g⟩ := geti_some hx33_3
          refine Wy (.d (.ref (List.drop ((Int.toNat y5_0) * 6) (flatD enc_GPair p0)))) [] (Oia rfl enc_GPair_len hx33_3i hx33_3g) ?_
          refine Wy (.agg [(.d (.lit (.string (toS x33_3.Var)))), (.d (.lit (.int .i64 x33_3.E.Time))), (.d (.lit (.int .i64 x33_3.E.Source))), (.d (.lit (.int .i64 x33_3.E.Seq))), (.d (.lit (.string (toS x33_3.E.Type_)))), (.d (.sl (List.length x33_3.E.Vals) (flatD enc_GValue x33_3.E.Vals)))]) [] (Lf rfl enc_GPair_len hx33_3g) ?_
          obtain ⟨r35_3, hr35_3, hm⟩ := bnd hm
          refine Wy (.d (.lit (.bool r35_3))) [] (Ocf [] [] [] 0 (ok_telltaleref19_ahead x29_3 x33_3 r35_3 hr35_3) (fun a w => Try.call51 a w) rfl trivial) ?_
          refine Wdr ?_
          refine Then.normal ?_
          refine Amk 34359738403 0 ⟨((.d (.sl (List.length p0) (flatD enc_GPair p0))) :: ((.d (.sl (List.length p1) (flatD enc_GPair p1))) :: (tp 3 ((.d (.lit (.int .i64 y5_0))) :: (tp 29 ((.d (.lit (.bool r35_3))) :: (tp 11 []))))))), [], 0⟩ ?_
          rcases tf_ r35_3 with hc35_10 | hc35_10
          · replace hm := cT hc35_10 hm
            refine AWP.if_ true (Eq.trans (by kernel_rfl) (lit_tf (b := r35_3) hc35_10)) ?_
            refine AWP.seq ?_
            refine AWP.text ?_
            refine Wy (.d (.lit (.int .i64 1))) [] (Omv rfl) ?_
            refine Walk.nil ?_
            refine Then.normal ?_
            refine AWP.ret ?_
            refine InBlock.ret ?_
            refine Then.ret ?_
            refine RoundK.ret ?_
            refine InBlock.ret ?_
            refine Then.ret ?_
            obtain rfl := Option.some.inj hm
            exact ret_i []
          · replace hm := cF hc35_10 hm
            refine AWP.if_ false (Eq.trans (by kernel_rfl) (lit_tf (b := r35_3) hc35_10)) ?_
            refine AWP.skip ?_
            refine InBlock.normal ?_
            refine Then.normal ?_
            refine Amk 35 0 ⟨((.d (.sl (List.length p0) (flatD enc_GPair p0))) :: ((.d (.sl (List.length p1) (flatD enc_GPair p1))) :: (tp 3 ((.d (.lit (.int .i64 y5_0))) :: (tp 41 []))))), [], 0⟩ ?_
            refine AWP.text ?_
            refine Wy (.d (.lit (.int .i64 y5_0))) [] (Omv rfl) ?_
            refine Wy (.d (.lit (.int .i64 (IntKind.i64.wrap (y5_0 + 1))))) [] (Obn rfl (fun _ => hb_add (k := .i64))) ?_
            refine Wy (.d (.lit (.int .i64 (IntKind.i64.wrap (y5_0 + 1))))) [] (Omv rfl) ?_
            refine Walk.nil ?_
            refine RoundK.normal ?_
            exact Rounds.weak (Weak.toK 35 0 0 []) (ih_0 (fu_0, (IntKind.i64.wrap (y5_0 + 1))) hm (Nat.lt_succ_self _))
      · replace hm := cF hc15_8 hm
        refine AWP.if_ false (Eq.trans (by kernel_rfl) (lit_tf (b := decide (y5_0 < ((List.length p1 : Nat) : Int))) hc15_8)) ?_
        refine AWP.exit ?_
        refine Then.exit ?_
        refine RoundK.exit ?_
        refine InBlock.same ?_
        refine Then.normal ?_
        exact AWP.weak (Weak.toK 3 0 0 []) (J4 () hm)
    · replace hm := cF hq10_1 hm
      refine Wy (.d (.lit (.bool false))) [] (Ocs (lit_tf (b := decide (y5_0 < ((List.length p0 : Nat) : Int))) hq10_1) (Omv rfl)) ?_
      refine Wn ?_
      refine Wn ?_
      refine Wn ?_
      refine Wn ?_
      refine Wy (.d (.lit (.bool false))) [] (OpF rfl) ?_
      refine Walk.nil ?_
      refine Then.normal ?_
      refine Amk 32803 0 ⟨((.d (.sl (List.length p0) (flatD enc_GPair p0))) :: ((.d (.sl (List.length p1) (flatD enc_GPair p1))) :: (tp 3 ((.d (.lit (.int .i64 y5_0))) :: (tp 9 ((.d (.lit (.bool false))) :: (tp 31 []))))))), [], 0⟩ ?_
      refine AWP.if_ false (by kernel_rfl) ?_
      refine AWP.exit ?_
      refine Then.exit ?_
      refine RoundK.exit ?_
      refine InBlock.same ?_
      refine Then.normal ?_
      exact AWP.weak (Weak.toK 3 0 0 []) (J4 () hm)

set_option maxRecDepth 20000 in
set_option maxHeartbeats 4000000 in
theorem ok_telltaleref21_Twin (p0 : (List GRun)) (p1 : GRun) (r : Bool) (h : m_telltaleref21_Twin p0 p1 = some r) : GCall Try.prog 34 [(.d (.sl (List.length p0) (flatD enc_GRun p0))), (.agg [(.d (.lit (.int .i64 p1.Place))), (.d (.sl (List.length p1.Bound) (flatD enc_GPair p1.Bound))), (.d (.lit (.int .u32 p1.Broken)))])] [] (.d (.lit (.bool r))) [] := by
  refine GCall.of_body (n := 31) (rs := [(.tmp 4)]) Try.func34 rfl rfl rfl ?_
  refine Ato ⟨((.d (.sl (List.length p0) (flatD enc_GRun p0))) :: ((.agg [(.d (.lit (.int .i64 p1.Place))), (.d (.sl (List.length p1.Bound) (flatD enc_GPair p1.Bound))), (.d (.lit (.int .u32 p1.Broken)))]) :: (tu 29 []))), [], 0⟩ ?_
  have hm := h
  unfold m_telltaleref21_Twin at hm
  refine AWP.seq ?_
  refine AWP.text ?_
  refine Wy (.loc 0 0) [(0, (.box [(.d (.lit (.int .i64 p1.Place))), (.d (.sl (List.length p1.Bound) (flatD enc_GPair p1.Bound))), (.d (.lit (.int .u32 p1.Broken)))]))] (Obx rfl) ?_
  refine Wy (.d (.lit (.bool false))) [] (Omv rfl) ?_
  refine Walk.nil ?_
  refine Then.normal ?_
  refine Amk 9 1 ⟨((.d (.sl (List.length p0) (flatD enc_GRun p0))) :: (tp 2 ((.loc 0 0) :: (tp 27 [])))), [(.box [(.d (.lit (.int .i64 p1.Place))), (.d (.sl (List.length p1.Bound) (flatD enc_GPair p1.Bound))), (.d (.lit (.int .u32 p1.Broken)))])], 0⟩ ?_
  refine AWP.seq ?_
  refine AWP.seq ?_
  refine AWP.text ?_
  refine Wy (.d (.lit (.int .i64 0))) [] (Omv rfl) ?_
  refine Walk.nil ?_
  refine Then.normal ?_
  refine Amk 41 1 ⟨((.d (.sl (List.length p0) (flatD enc_GRun p0))) :: (tp 2 ((.loc 0 0) :: (tp 1 ((.d (.lit (.int .i64 0))) :: (tp 25 [])))))), [(.box [(.d (.lit (.int .i64 p1.Place))), (.d (.sl (List.length p1.Bound) (flatD enc_GPair p1.Bound))), (.d (.lit (.int .u32 p1.Broken)))])], 0⟩ ?_
  refine AWP.block ?_
  refine AWP.loopI (α := Nat × Int)
    (fun x => match x with | (fu_0, y5_0) => (⟨((.d (.sl (List.length p0) (flatD enc_GRun p0))) :: (tp 2 ((.loc 0 0) :: (tp 1 ((.d (.lit (.int .i64 y5_0))) :: (tp 25 [])))))), [(.box [(.d (.lit (.int .i64 p1.Place))), (.d (.sl (List.length p1.Bound) (flatD enc_GPair p1.Bound))), (.d (.lit (.int .u32 p1.Broken)))])], 0⟩ : St))
    (fun x => match x with | (fu_0, y5_0) => m_telltaleref21_Twin_l0 p0 p1 fu_0 y5_0 = some r)
    (fun x => match x with | (fu_0, y5_0) => fu_0) (1152921504606846976, 0)
    (Weak.toK 41 0 0 [0]) hm ?_
  rintro ⟨fu_0, y5_0⟩ n_0 hm ih_0
  try dsimp only at hm ih_0 ⊢
  cases fu_0 with
  | zero => exact absurd hm (by unfold m_telltaleref21_Twin_l0; simp)
  | succ fu_0 =>
    unfold m_telltaleref21_Twin_l0 at hm
    refine AWP.seq ?_
    refine AWP.seq ?_
    refine AWP.text ?_
    refine Wy (.d (.lit (.int .i64 y5_0))) [] (Omv rfl) ?_
    refine Wy (.d (.sl (List.length p0) (flatD enc_GRun p0))) [] (Omv rfl) ?_
    refine Wy (.d (.lit (.int .i64 ((List.length p0 : Nat) : Int)))) [] (Oln rfl) ?_
    refine Wy (.d (.lit (.bool (decide (y5_0 < ((List.length p0 : Nat) : Int)))))) [] (Obn rfl (fun _ => hb_lss (k := .i64))) ?_
    refine Walk.nil ?_
    refine Then.normal ?_
    refine Amk 553 1 ⟨((.d (.sl (List.length p0) (flatD enc_GRun p0))) :: (tp 2 ((.loc 0 0) :: (tp 1 ((.d (.lit (.int .i64 y5_0))) :: (tp 3 ((.d (.lit (.bool (decide (y5_0 < ((List.length p0 : Nat) : Int)))))) :: (tp 21 [])))))))), [(.box [(.d (.lit (.int .i64 p1.Place))), (.d (.sl (List.length p1.Bound) (flatD enc_GPair p1.Bound))), (.d (.lit (.int .u32 p1.Broken)))])], 0⟩ ?_
    rcases tf_ (decide (y5_0 < ((List.length p0 : Nat) : Int))) with hc9_3 | hc9_3
    · replace hm := cT hc9_3 hm
      refine AWP.if_ true (Eq.trans (by kernel_rfl) (lit_tf (b := decide (y5_0 < ((List.length p0 : Nat) : Int))) hc9_3)) ?_
      refine AWP.skip ?_
      refine Then.normal ?_
      refine Amk 41 1 ⟨((.d (.sl (List.length p0) (flatD enc_GRun p0))) :: (tp 2 ((.loc 0 0) :: (tp 1 ((.d (.lit (.int .i64 y5_0))) :: (tp 25 [])))))), [(.box [(.d (.lit (.int .i64 p1.Place))), (.d (.sl (List.length p1.Bound) (flatD enc_GPair p1.Bound))), (.d (.lit (.int .u32 p1.Broken)))])], 0⟩ ?_
      refine AWP.seq ?_
      refine AWP.block ?_
      refine AWP.seq ?_
      refine Adr ?_
      refine Wy (.d (.sl (List.length p0) (flatD enc_GRun p0))) [] (Omv rfl) ?_
      refine Wy (.d (.lit (.int .i64 y5_0))) [] (Omv rfl) ?_
      obtain ⟨x14_2, hx14_2, hm⟩ := bnd hm
      obtain ⟨hx14_2i, hx14_2g⟩ := geti_some hx14_2
      refine Wy (.d (.ref (List.drop ((Int.toNat y5_0) * 3) (flatD enc_GRun p0)))) [] (Oia rfl enc_GRun_len hx14_2i hx14_2g) ?_
      refine Wy (.d (.ref (List.drop ((Int.toNat y5_0) * 3) (flatD enc_GRun p0)))) [] (Ofa rfl) ?_
      refine Wy (.d (.lit (.int .i64 x14_2.Place))) [] (Lf1 rfl enc_GRun_len hx14_2g) ?_
      refine Wy (.loc 0 0) [] (Ofa rfl) ?_
      refine Wy (.d (.lit (.int .i64 p1.Place))) [] (Old rfl) ?_
      refine Wy (.d (.lit (.bool (decide (x14_2.Place = p1.Place))))) [] (Obn rfl (fun _ => hb_eql (k := .i64))) ?_
      rcases tf_ (decide (x14_2.Place = p1.Place)) with hq20_2 | hq20_2
      · replace hm := cT hq20_2 hm
        refine Wy (.d (.lit (.bool true))) [] (Ocs (lit_tf (b := decide (x14_2.Place = p1.Place)) hq20_2) (Omv rfl)) ?_
        refine Wy (.d (.sl (List.length p0) (flatD enc_GRun p0))) [] (Omv rfl) ?_
        refine Wy (.d (.lit (.int .i64 y5_0))) [] (Omv rfl) ?_
        obtain ⟨x23_2, hx23_2, hm⟩ := bnd hm
        obtain ⟨hx23_2i, hx23_2g⟩ := geti_some hx23_2
        refine Wy (.d (.ref (List.drop ((Int.toNat y5_0) * 3) (flatD enc_GRun p0)))) [] (Oia rfl enc_GRun_len hx23_2i hx23_2g) ?_
        refine Wy (.d (.ref (List.drop 1 (List.drop ((Int.toNat y5_0) * 3) (flatD enc_GRun p0))))) [] (Ofa rfl) ?_
        refine Wy (.d (.sl (List.length x23_2.Bound) (flatD enc_GPair x23_2.Bound))) [] (Lfk1 1 rfl enc_GRun_len hx23_2g) ?_
        refine Wy (.loc 0 1) [] (Ofa rfl) ?_
        refine Wy (.d (.sl (List.length p1.Bound) (flatD enc_GPair p1.Bound))) [] (Old rfl) ?_
        obtain ⟨r28_2, hr28_2, hm⟩ := bnd hm
        refine Wy (.d (.lit (.int .i64 r28_2))) [] (Ocf [] [] [] 0 (ok_telltaleref19_Rank x23_2.Bound p1.Bound r28_2 hr28_2) (fun a w => Try.call35 a w) rfl trivial) ?_
        refine Wy (.d (.lit (.bool (decide (r28_2 = 0))))) [] (Obn rfl (fun _ => hb_eql (k := .i64))) ?_
        refine Wy (.d (.lit (.bool (decide (r28_2 = 0))))) [] (OpT rfl) ?_
        refine Wdr ?_
        refine Then.normal ?_
        refine Amk 1073741865 1 ⟨((.d (.sl (List.length p0) (flatD enc_GRun p0))) :: (tp 2 ((.loc 0 0) :: (tp 1 ((.d (.lit (.int .i64 y5_0))) :: (tp 24 ((.d (.lit (.bool (decide (r28_2 = 0))))) :: []))))))), [(.box [(.d (.lit (.int .i64 p1.Place))), (.d (.sl (List.length p1.Bound) (flatD enc_GPair p1.Bound))), (.d (.lit (.int .u32 p1.Broken)))])], 0⟩ ?_
        rcases tf_ (decide (r28_2 = 0)) with hc30_4 | hc30_4
        · replace hm := cT hc30_4 hm
          refine AWP.if_ true (Eq.trans (by kernel_rfl) (lit_tf (b := decide (r28_2 = 0)) hc30_4)) ?_
          refine AWP.seq ?_
          refine AWP.text ?_
          refine Wy (.d (.lit (.bool true))) [] (Omv rfl) ?_
          refine Walk.nil ?_
          refine Then.normal ?_
          refine AWP.ret ?_
          refine InBlock.ret ?_
          refine Then.ret ?_
          refine RoundK.ret ?_
          refine InBlock.ret ?_
          refine Then.ret ?_
          obtain rfl := Option.some.inj hm
          exact ret_i []
        · replace hm := cF hc30_4 hm
          refine AWP.if_ false (Eq.trans (by kernel_rfl) (lit_tf (b := decide (r28_2 = 0)) hc30_4)) ?_
          refine AWP.skip ?_
          refine InBlock.normal ?_
          refine Then.normal ?_
          refine Amk 41 1 ⟨((.d (.sl (List.length p0) (flatD enc_GRun p0))) :: (tp 2 ((.loc 0 0) :: (tp 1 ((.d (.lit (.int .i64 y5_0))) :: (tp 25 [])))))), [(.box [(.d (.lit (.int .i64 p1.Place))), (.d (.sl (List.length p1.Bound) (flatD enc_GPair p1.Bound))), (.d (.lit (.int .u32 p1.Broken)))])], 0⟩ ?_
          refine AWP.text ?_
          refine Wy (.d (.lit (.int .i64 y5_0))) [] (Omv rfl) ?_
          refine Wy (.d (.lit (.int .i64 (IntKind.i64.wrap (y5_0 + 1))))) [] (Obn rfl (fun _ => hb_add (k := .i64))) ?_
          refine Wy (.d (.lit (.int .i64 (IntKind.i64.wrap (y5_0 + 1))))) [] (Omv rfl) ?_
          refine Walk.nil ?_
          refine RoundK.normal ?_
          exact Rounds.weak (Weak.toK 41 0 0 [0]) (ih_0 (fu_0, (IntKind.i64.wrap (y5_0 + 1))) hm (Nat.lt_succ_self _))
      · replace hm := cF hq20_2 hm
        refine Wy (.d (.lit (.bool false))) [] (Ocs (lit_tf (b := decide (x14_2.Place = p1.Place)) hq20_2) (Omv rfl)) ?_
        refine Wn ?_
        refine Wn ?_
        refine Wn ?_
        refine Wn ?_
        refine Wn ?_
        refine Wn ?_
        refine Wn ?_
        refine Wn ?_
        refine Wn ?_
        refine Wy (.d (.lit (.bool false))) [] (OpF rfl) ?_
        refine Wdr ?_
        refine Then.normal ?_
        refine Amk 1073741865 1 ⟨((.d (.sl (List.length p0) (flatD enc_GRun p0))) :: (tp 2 ((.loc 0 0) :: (tp 1 ((.d (.lit (.int .i64 y5_0))) :: (tp 24 ((.d (.lit (.bool false))) :: []))))))), [(.box [(.d (.lit (.int .i64 p1.Place))), (.d (.sl (List.length p1.Bound) (flatD enc_GPair p1.Bound))), (.d (.lit (.int .u32 p1.Broken)))])], 0⟩ ?_
        refine AWP.if_ false (by kernel_rfl) ?_
        refine AWP.skip ?_
        refine InBlock.normal ?_
        refine Then.normal ?_
        refine Amk 41 1 ⟨((.d (.sl (List.length p0) (flatD enc_GRun p0))) :: (tp 2 ((.loc 0 0) :: (tp 1 ((.d (.lit (.int .i64 y5_0))) :: (tp 25 [])))))), [(.box [(.d (.lit (.int .i64 p1.Place))), (.d (.sl (List.length p1.Bound) (flatD enc_GPair p1.Bound))), (.d (.lit (.int .u32 p1.Broken)))])], 0⟩ ?_
        refine AWP.text ?_
        refine Wy (.d (.lit (.int .i64 y5_0))) [] (Omv rfl) ?_
        refine Wy (.d (.lit (.int .i64 (IntKind.i64.wrap (y5_0 + 1))))) [] (Obn rfl (fun _ => hb_add (k := .i64))) ?_
        refine Wy (.d (.lit (.int .i64 (IntKind.i64.wrap (y5_0 + 1))))) [] (Omv rfl) ?_
        refine Walk.nil ?_
        refine RoundK.normal ?_
        exact Rounds.weak (Weak.toK 41 0 0 [0]) (ih_0 (fu_0, (IntKind.i64.wrap (y5_0 + 1))) hm (Nat.lt_succ_self _))
    · replace hm := cF hc9_3 hm
      refine AWP.if_ false (Eq.trans (by kernel_rfl) (lit_tf (b := decide (y5_0 < ((List.length p0 : Nat) : Int))) hc9_3)) ?_
      refine AWP.exit ?_
      refine Then.exit ?_
      refine RoundK.exit ?_
      refine InBlock.same ?_
      refine Then.normal ?_
      refine Amk 0 0 ⟨(tp 31 []), [.gone], 0⟩ ?_
      refine AWP.seq ?_
      refine AWP.text ?_
      refine Wy (.d (.lit (.bool false))) [] (Omv rfl) ?_
      refine Walk.nil ?_
      refine Then.normal ?_
      refine AWP.ret ?_
      obtain rfl := Option.some.inj hm
      exact ret_i []

set_option maxRecDepth 20000 in
set_option maxHeartbeats 4000000 in
theorem ok_telltaleref21_Add (p0 : GRuns) (p1 : GRun) (r : (GRuns × Int)) (h : m_telltaleref21_Add p0 p1 = some r) : GCall Try.prog 11 [(.agg [(.d (.lit (.int .i64 p0.Cap))), (.d (.sl (List.length p0.L) (flatD enc_GRun p0.L)))]), (.agg [(.d (.lit (.int .i64 p1.Place))), (.d (.sl (List.length p1.Bound) (flatD enc_GPair p1.Bound))), (.d (.lit (.int .u32 p1.Broken)))])] [] (.tup [(.agg [(.d (.lit (.int .i64 r.1.Cap))), (.d (.sl (List.length r.1.L) (flatD enc_GRun r.1.L)))]), (.d (.lit (.int .i64 r.2)))]) [] := by
  refine GCall.of_body (n := 28) (rs := [(.cell 4 24), (.tmp 5)]) Try.func11 rfl rfl rfl ?_
  refine Ato ⟨((.agg [(.d (.lit (.int .i64 p0.Cap))), (.d (.sl (List.length p0.L) (flatD enc_GRun p0.L)))]) :: ((.agg [(.d (.lit (.int .i64 p1.Place))), (.d (.sl (List.length p1.Bound) (flatD enc_GPair p1.Bound))), (.d (.lit (.int .u32 p1.Broken)))]) :: (tu 26 []))), [], 0⟩ ?_
  have hm := h
  unfold m_telltaleref21_Add at hm
  refine AWP.seq ?_
  refine AWP.text ?_
  refine Wy (.loc 0 0) [(0, (.box [(.d (.lit (.int .i64 p0.Cap))), (.d (.sl (List.length p0.L) (flatD enc_GRun p0.L)))]))] (Obx rfl) ?_
  refine Wy (.loc 1 0) [(1, (.box [(.d (.lit (.int .i64 p1.Place))), (.d (.sl (List.length p1.Bound) (flatD enc_GPair p1.Bound))), (.d (.lit (.int .u32 p1.Broken)))]))] (Obx rfl) ?_
  refine Wy (.loc 2 0) [(2, (.box [(.d (.lit (.int .i64 0))), (.d .nil)]))] (Oal rfl) ?_
  refine Wy (.d (.lit (.int .i64 0))) [] (Omv rfl) ?_
  refine Walk.nil ?_
  refine Then.normal ?_
  refine Amk 28 7 ⟨(tp 2 ((.loc 0 0) :: ((.loc 1 0) :: ((.loc 2 0) :: (tp 23 []))))), [(.box [(.d (.lit (.int .i64 p0.Cap))), (.d (.sl (List.length p0.L) (flatD enc_GRun p0.L)))]), (.box [(.d (.lit (.int .i64 p1.Place))), (.d (.sl (List.length p1.Bound) (flatD enc_GPair p1.Bound))), (.d (.lit (.int .u32 p1.Broken)))]), (.box [(.d (.lit (.int .i64 0))), (.d .nil)])], 0⟩ ?_
  refine AWP.seq ?_
  refine AWP.seq ?_
  refine AWP.text ?_
  refine Wy (.loc 0 1) [] (Ofa rfl) ?_
  refine Wy (.d (.sl (List.length p0.L) (flatD enc_GRun p0.L))) [] (Old rfl) ?_
  refine Wy (.agg [(.d (.lit (.int .i64 p1.Place))), (.d (.sl (List.length p1.Bound) (flatD enc_GPair p1.Bound))), (.d (.lit (.int .u32 p1.Broken)))]) [] (Old rfl) ?_
  obtain ⟨r9_0, hr9_0, hm⟩ := bnd hm
  refine Wy (.d (.lit (.bool r9_0))) [] (Ocf [] [] [] 0 (ok_telltaleref21_Twin p0.L p1 r9_0 hr9_0) (fun a w => Try.call34 a w) rfl trivial) ?_
  refine Walk.nil ?_
  refine Then.normal ?_
  refine Amk 540 7 ⟨(tp 2 ((.loc 0 0) :: ((.loc 1 0) :: ((.loc 2 0) :: (tp 4 ((.d (.lit (.bool r9_0))) :: (tp 18 []))))))), [(.box [(.d (.lit (.int .i64 p0.Cap))), (.d (.sl (List.length p0.L) (flatD enc_GRun p0.L)))]), (.box [(.d (.lit (.int .i64 p1.Place))), (.d (.sl (List.length p1.Bound) (flatD enc_GPair p1.Bound))), (.d (.lit (.int .u32 p1.Broken)))]), (.box [(.d (.lit (.int .i64 0))), (.d .nil)])], 0⟩ ?_
  rcases tf_ r9_0 with hc9_3 | hc9_3
  · replace hm := cT hc9_3 hm
    refine AWP.if_ true (Eq.trans (by kernel_rfl) (lit_tf (b := r9_0) hc9_3)) ?_
    refine AWP.seq ?_
    refine AWP.text ?_
    refine Wy (.agg [(.d (.lit (.int .i64 p0.Cap))), (.d (.sl (List.length p0.L) (flatD enc_GRun p0.L)))]) [] (Old rfl) ?_
    refine Wy (.tup []) [(2, (.box [(.d (.lit (.int .i64 p0.Cap))), (.d (.sl (List.length p0.L) (flatD enc_GRun p0.L)))]))] (Ost rfl) ?_
    refine Wy (.d (.lit (.int .i64 0))) [] (Omv rfl) ?_
    refine Walk.nil ?_
    refine Then.normal ?_
    refine AWP.ret ?_
    refine Then.ret ?_
    obtain rfl := Option.some.inj hm
    exact ret_i []
  · replace hm := cF hc9_3 hm
    refine AWP.if_ false (Eq.trans (by kernel_rfl) (lit_tf (b := r9_0) hc9_3)) ?_
    refine AWP.skip ?_
    refine Then.normal ?_
    refine Amk 28 7 ⟨(tp 2 ((.loc 0 0) :: ((.loc 1 0) :: ((.loc 2 0) :: (tp 23 []))))), [(.box [(.d (.lit (.int .i64 p0.Cap))), (.d (.sl (List.length p0.L) (flatD enc_GRun p0.L)))]), (.box [(.d (.lit (.int .i64 p1.Place))), (.d (.sl (List.length p1.Bound) (flatD enc_GPair p1.Bound))), (.d (.lit (.int .u32 p1.Broken)))]), (.box [(.d (.lit (.int .i64 0))), (.d .nil)])], 0⟩ ?_
    refine AWP.seq ?_
    refine AWP.seq ?_
    refine AWP.text ?_
    refine Wy (.loc 0 1) [] (Ofa rfl) ?_
    refine Wy (.d (.sl (List.length p0.L) (flatD enc_GRun p0.L))) [] (Old rfl) ?_
    refine Wy (.d (.lit (.int .i64 ((List.length p0.L : Nat) : Int)))) [] (Oln rfl) ?_
    refine Wy (.loc 0 0) [] (Ofa rfl) ?_
    refine Wy (.d (.lit (.int .i64 p0.Cap))) [] (Old rfl) ?_
    refine Wy (.d (.lit (.bool (decide (p0.Cap ≤ ((List.length p0.L : Nat) : Int)))))) [] (Obn rfl (fun _ => hb_geq (k := .i64))) ?_
    refine Walk.nil ?_
    refine Then.normal ?_
    refine Amk 65564 7 ⟨(tp 2 ((.loc 0 0) :: ((.loc 1 0) :: ((.loc 2 0) :: (tp 11 ((.d (.lit (.bool (decide (p0.Cap ≤ ((List.length p0.L : Nat) : Int)))))) :: (tp 11 []))))))), [(.box [(.d (.lit (.int .i64 p0.Cap))), (.d (.sl (List.length p0.L) (flatD enc_GRun p0.L)))]), (.box [(.d (.lit (.int .i64 p1.Place))), (.d (.sl (List.length p1.Bound) (flatD enc_GPair p1.Bound))), (.d (.lit (.int .u32 p1.Broken)))]), (.box [(.d (.lit (.int .i64 0))), (.d .nil)])], 0⟩ ?_
    rcases tf_ (decide (p0.Cap ≤ ((List.length p0.L : Nat) : Int))) with hc16_4 | hc16_4
    · replace hm := cT hc16_4 hm
      refine AWP.if_ true (Eq.trans (by kernel_rfl) (lit_tf (b := decide (p0.Cap ≤ ((List.length p0.L : Nat) : Int))) hc16_4)) ?_
      refine AWP.seq ?_
      refine AWP.text ?_
      refine Wy (.agg [(.d (.lit (.int .i64 p0.Cap))), (.d (.sl (List.length p0.L) (flatD enc_GRun p0.L)))]) [] (Old rfl) ?_
      refine Wy (.tup []) [(2, (.box [(.d (.lit (.int .i64 p0.Cap))), (.d (.sl (List.length p0.L) (flatD enc_GRun p0.L)))]))] (Ost rfl) ?_
      refine Wy (.d (.lit (.int .i64 7))) [] (Omv rfl) ?_
      refine Walk.nil ?_
      refine Then.normal ?_
      refine AWP.ret ?_
      refine Then.ret ?_
      obtain rfl := Option.some.inj hm
      exact ret_i []
    · replace hm := cF hc16_4 hm
      refine AWP.if_ false (Eq.trans (by kernel_rfl) (lit_tf (b := decide (p0.Cap ≤ ((List.length p0.L : Nat) : Int))) hc16_4)) ?_
      refine AWP.skip ?_
      refine Then.normal ?_
      refine Amk 28 7 ⟨(tp 2 ((.loc 0 0) :: ((.loc 1 0) :: ((.loc 2 0) :: (tp 23 []))))), [(.box [(.d (.lit (.int .i64 p0.Cap))), (.d (.sl (List.length p0.L) (flatD enc_GRun p0.L)))]), (.box [(.d (.lit (.int .i64 p1.Place))), (.d (.sl (List.length p1.Bound) (flatD enc_GPair p1.Bound))), (.d (.lit (.int .u32 p1.Broken)))]), (.box [(.d (.lit (.int .i64 0))), (.d .nil)])], 0⟩ ?_
      refine AWP.seq ?_
      refine Adr ?_
      refine Wy (.loc 0 0) [] (Ofa rfl) ?_
      refine Wy (.d (.lit (.int .i64 p0.Cap))) [] (Old rfl) ?_
      refine Wy (.own 3) [(3, (.arr 29 3 (List.length ([] : List GRun)) (flatD enc_GRun ([] : List GRun))))] (Obs rfl) ?_
      refine Wy (.loc 0 1) [] (Ofa rfl) ?_
      refine Wy (.d (.sl (List.length p0.L) (flatD enc_GRun p0.L))) [] (Old rfl) ?_
      obtain ⟨a23_2, ha23_2, hm⟩ := bnd hm; obtain ⟨ha23_2e, ha23_2l⟩ := app_some ha23_2
      refine Wy (.own 4) [(3, .gone), (4, (.arr 29 3 (List.length a23_2) (flatD enc_GRun a23_2)))] (Oap rfl elemOK_22 enc_GRun_len ha23_2e ha23_2l) ?_
      refine Wy (.agg [(.d (.lit (.int .i64 p1.Place))), (.d (.sl (List.length p1.Bound) (flatD enc_GPair p1.Bound))), (.d (.lit (.int .u32 p1.Broken)))]) [] (Old rfl) ?_
      refine Wy (.own 5) [(5, (.arr 29 3 (List.length ([p1] : List GRun)) (flatD enc_GRun ([p1] : List GRun))))] (Obs rfl) ?_
      obtain ⟨a26_2, ha26_2, hm⟩ := bnd hm; obtain ⟨ha26_2e, ha26_2l⟩ := app_some ha26_2
      refine Wy (.own 6) [(4, .gone), (6, (.arr 29 3 (List.length a26_2) (flatD enc_GRun a26_2)))] (Oap rfl elemOK_22 enc_GRun_len ha26_2e ha26_2l) ?_
      refine Wy (.agg [(.d (.lit (.int .i64 p0.Cap))), (.own 6)]) [] (Obd rfl) ?_
      refine Wy (.tup []) [(2, (.box [(.d (.lit (.int .i64 p0.Cap))), (.own 6)]))] (Ost rfl) ?_
      refine Wy (.d (.lit (.int .i64 0))) [] (Omv rfl) ?_
      refine Wdr ?_
      refine Then.normal ?_
      refine Afz [6] ⟨(tp 2 ((.loc 0 0) :: ((.loc 1 0) :: ((.loc 2 0) :: ((.d (.lit (.int .i64 0))) :: (tp 12 ((.loc 0 0) :: ((.d (.lit (.int .i64 p0.Cap))) :: ((.own 3) :: ((.loc 0 1) :: ((.d (.sl (List.length p0.L) (flatD enc_GRun p0.L))) :: ((.own 4) :: ((.agg [(.d (.lit (.int .i64 p1.Place))), (.d (.sl (List.length p1.Bound) (flatD enc_GPair p1.Bound))), (.d (.lit (.int .u32 p1.Broken)))]) :: ((.own 5) :: ((.d (.sl (List.length a26_2) (flatD enc_GRun a26_2))) :: ((.agg [(.d (.lit (.int .i64 p0.Cap))), (.d (.sl (List.length a26_2) (flatD enc_GRun a26_2)))]) :: [])))))))))))))))), [(.box [(.d (.lit (.int .i64 p0.Cap))), (.d (.sl (List.length p0.L) (flatD enc_GRun p0.L)))]), (.box [(.d (.lit (.int .i64 p1.Place))), (.d (.sl (List.length p1.Bound) (flatD enc_GPair p1.Bound))), (.d (.lit (.int .u32 p1.Broken)))]), (.box [(.d (.lit (.int .i64 p0.Cap))), (.d (.sl (List.length a26_2) (flatD enc_GRun a26_2)))]), .gone, .gone, (.arr 29 3 (List.length ([p1] : List GRun)) (flatD enc_GRun ([p1] : List GRun))), (.fro 29 3 (List.length a26_2) (flatD enc_GRun a26_2))], 0⟩ ?_
      refine AWP.ret ?_
      obtain rfl := Option.some.inj hm
      exact ret_i []

set_option maxRecDepth 20000 in
set_option maxHeartbeats 4000000 in
theorem ok_telltaleref21_New (p0 : Int) (r : (GRuns × Int)) (h : m_telltaleref21_New p0 = some r) : GCall Try.prog 13 [(.d (.lit (.int .i64 p0)))] [] (.tup [(.agg [(.d (.lit (.int .i64 r.1.Cap))), (.d (.sl (List.length r.1.L) (flatD enc_GRun r.1.L)))]), (.d (.lit (.int .i64 r.2)))]) [] := by
  refine GCall.of_body (n := 13) (rs := [(.cell 2 24), (.tmp 3)]) Try.func13 rfl rfl rfl ?_
  refine Ato ⟨((.d (.lit (.int .i64 p0))) :: (tu 12 [])), [], 0⟩ ?_
  have hm := h
  unfold m_telltaleref21_New at hm
  refine AWP.seq ?_
  refine AWP.text ?_
  refine Wy (.loc 0 0) [(0, (.box [(.d (.lit (.int .i64 0))), (.d .nil)]))] (Oal rfl) ?_
  refine Wy (.d (.lit (.int .i64 0))) [] (Omv rfl) ?_
  refine Walk.nil ?_
  refine Then.normal ?_
  refine Amk 5 1 ⟨((.d (.lit (.int .i64 p0))) :: (tp 1 ((.loc 0 0) :: (tp 10 [])))), [(.box [(.d (.lit (.int .i64 0))), (.d .nil)])], 0⟩ ?_
  refine AWP.seq ?_
  refine AWP.seq ?_
  refine AWP.text ?_
  refine Wy (.d (.lit (.int .i64 p0))) [] (Omv rfl) ?_
  refine Wy (.d (.lit (.bool (decide (p0 < 1))))) [] (Obn rfl (fun _ => hb_lss (k := .i64))) ?_
  rcases tf_ (decide (p0 < 1)) with hq6_0 | hq6_0
  · replace hm := cT hq6_0 hm
    refine Wy (.d (.lit (.bool true))) [] (Ocs (lit_tf (b := decide (p0 < 1)) hq6_0) (Omv rfl)) ?_
    refine Wn ?_
    refine Wn ?_
    refine Wy (.d (.lit (.bool true))) [] (OpT rfl) ?_
    refine Walk.nil ?_
    refine Then.normal ?_
    refine Amk 517 1 ⟨((.d (.lit (.int .i64 p0))) :: (tp 1 ((.loc 0 0) :: (tp 6 ((.d (.lit (.bool true))) :: (tp 3 [])))))), [(.box [(.d (.lit (.int .i64 0))), (.d .nil)])], 0⟩ ?_
    refine AWP.if_ true (by kernel_rfl) ?_
    refine AWP.seq ?_
    refine AWP.text ?_
    refine Wy (.agg [(.d (.lit (.int .i64 0))), (.d .nil)]) [] (Obd rfl) ?_
    refine Wy (.tup []) [(0, (.box [(.d (.lit (.int .i64 0))), (.d .nil)]))] (Ost rfl) ?_
    refine Wy (.d (.lit (.int .i64 2))) [] (Omv rfl) ?_
    refine Walk.nil ?_
    refine Then.normal ?_
    refine AWP.ret ?_
    refine Then.ret ?_
    obtain rfl := Option.some.inj hm
    exact ret_i []
  · replace hm := cF hq6_0 hm
    refine Wy (.d (.lit (.bool false))) [] (Ocs (lit_tf (b := decide (p0 < 1)) hq6_0) (Omv rfl)) ?_
    refine Wy (.d (.lit (.int .i64 p0))) [] (Omv rfl) ?_
    refine Wy (.d (.lit (.bool (decide ((4096 : Int) < p0))))) [] (Obn rfl (fun _ => hb_gtr (k := .i64))) ?_
    refine Wy (.d (.lit (.bool (decide ((4096 : Int) < p0))))) [] (OpF rfl) ?_
    refine Walk.nil ?_
    refine Then.normal ?_
    refine Amk 517 1 ⟨((.d (.lit (.int .i64 p0))) :: (tp 1 ((.loc 0 0) :: (tp 6 ((.d (.lit (.bool (decide ((4096 : Int) < p0))))) :: (tp 3 [])))))), [(.box [(.d (.lit (.int .i64 0))), (.d .nil)])], 0⟩ ?_
    rcases tf_ (decide ((4096 : Int) < p0)) with hc9_1 | hc9_1
    · replace hm := cT hc9_1 hm
      refine AWP.if_ true (Eq.trans (by kernel_rfl) (lit_tf (b := decide ((4096 : Int) < p0)) hc9_1)) ?_
      refine AWP.seq ?_
      refine AWP.text ?_
      refine Wy (.agg [(.d (.lit (.int .i64 0))), (.d .nil)]) [] (Obd rfl) ?_
      refine Wy (.tup []) [(0, (.box [(.d (.lit (.int .i64 0))), (.d .nil)]))] (Ost rfl) ?_
      refine Wy (.d (.lit (.int .i64 2))) [] (Omv rfl) ?_
      refine Walk.nil ?_
      refine Then.normal ?_
      refine AWP.ret ?_
      refine Then.ret ?_
      obtain rfl := Option.some.inj hm
      exact ret_i []
    · replace hm := cF hc9_1 hm
      refine AWP.if_ false (Eq.trans (by kernel_rfl) (lit_tf (b := decide ((4096 : Int) < p0)) hc9_1)) ?_
      refine AWP.skip ?_
      refine Then.normal ?_
      refine Amk 5 1 ⟨((.d (.lit (.int .i64 p0))) :: (tp 1 ((.loc 0 0) :: (tp 10 [])))), [(.box [(.d (.lit (.int .i64 0))), (.d .nil)])], 0⟩ ?_
      refine AWP.seq ?_
      refine AWP.text ?_
      refine Wy (.d (.lit (.int .i64 p0))) [] (Omv rfl) ?_
      refine Wy (.agg [(.d (.lit (.int .i64 p0))), (.d .nil)]) [] (Obd rfl) ?_
      refine Wy (.tup []) [(0, (.box [(.d (.lit (.int .i64 p0))), (.d .nil)]))] (Ost rfl) ?_
      refine Wy (.d (.lit (.int .i64 0))) [] (Omv rfl) ?_
      refine Walk.nil ?_
      refine Then.normal ?_
      refine AWP.ret ?_
      obtain rfl := Option.some.inj hm
      exact ret_i []

set_option maxRecDepth 20000 in
set_option maxHeartbeats 4000000 in
theorem ok_telltalelaw07_Back (p0 : GEvent) (r : GEvent) (h : m_telltalelaw07_Back p0 = some r) : GCall Try.prog 52 [(.agg [(.d (.lit (.int .i64 p0.Time))), (.d (.lit (.int .i64 p0.Source))), (.d (.lit (.int .i64 p0.Seq))), (.d (.lit (.string (toS p0.Type_)))), (.d (.sl (List.length p0.Vals) (flatD enc_GValue p0.Vals)))])] [] (.agg [(.d (.lit (.int .i64 r.Time))), (.d (.lit (.int .i64 r.Source))), (.d (.lit (.int .i64 r.Seq))), (.d (.lit (.string (toS r.Type_)))), (.own 0)]) [(.arr 113 4 (List.length r.Vals) (flatD enc_GValue r.Vals))] := by
  refine GCall.of_body (n := 32) (rs := [(.cell 2 81)]) Try.func52 rfl rfl rfl ?_
  refine Ato ⟨((.agg [(.d (.lit (.int .i64 p0.Time))), (.d (.lit (.int .i64 p0.Source))), (.d (.lit (.int .i64 p0.Seq))), (.d (.lit (.string (toS p0.Type_)))), (.d (.sl (List.length p0.Vals) (flatD enc_GValue p0.Vals)))]) :: (tu 31 [])), [], 0⟩ ?_
  have hm := h
  unfold m_telltalelaw07_Back at hm
  refine AWP.seq ?_
  refine AWP.text ?_
  refine Wy (.loc 0 0) [(0, (.box [(.d (.lit (.int .i64 p0.Time))), (.d (.lit (.int .i64 p0.Source))), (.d (.lit (.int .i64 p0.Seq))), (.d (.lit (.string (toS p0.Type_)))), (.d (.sl (List.length p0.Vals) (flatD enc_GValue p0.Vals)))]))] (Obx rfl) ?_
  refine Wy (.loc 1 0) [(1, (.box [(.d (.lit (.int .i64 0))), (.d (.lit (.int .i64 0))), (.d (.lit (.int .i64 0))), (.d (.lit (.string (toS ([] : List UInt8))))), (.d .nil)]))] (Oal rfl) ?_
  refine Walk.nil ?_
  refine Then.normal ?_
  refine Amk 6 3 ⟨(tp 1 ((.loc 0 0) :: ((.loc 1 0) :: (tp 29 [])))), [(.box [(.d (.lit (.int .i64 p0.Time))), (.d (.lit (.int .i64 p0.Source))), (.d (.lit (.int .i64 p0.Seq))), (.d (.lit (.string (toS p0.Type_)))), (.d (.sl (List.length p0.Vals) (flatD enc_GValue p0.Vals)))]), (.box [(.d (.lit (.int .i64 0))), (.d (.lit (.int .i64 0))), (.d (.lit (.int .i64 0))), (.d (.lit (.string (toS ([] : List UInt8))))), (.d .nil)])], 0⟩ ?_
  refine AWP.seq ?_
  refine AWP.text ?_
  refine Wy (.loc 0 0) [] (Ofa rfl) ?_
  refine Wy (.d (.lit (.int .i64 p0.Time))) [] (Old rfl) ?_
  refine Wy (.loc 0 1) [] (Ofa rfl) ?_
  refine Wy (.d (.lit (.int .i64 p0.Source))) [] (Old rfl) ?_
  refine Wy (.loc 0 2) [] (Ofa rfl) ?_
  refine Wy (.d (.lit (.int .i64 p0.Seq))) [] (Old rfl) ?_
  refine Wy (.loc 0 3) [] (Ofa rfl) ?_
  refine Wy (.d (.lit (.string (toS p0.Type_)))) [] (Old rfl) ?_
  refine Wy (.agg [(.d (.lit (.int .i64 p0.Time))), (.d (.lit (.int .i64 p0.Source))), (.d (.lit (.int .i64 p0.Seq))), (.d (.lit (.string (toS p0.Type_)))), (.d .nil)]) [] (Obd rfl) ?_
  refine Wy (.loc 2 0) [(2, (.box [(.d (.lit (.int .i64 0))), (.d (.lit (.int .i64 0))), (.d (.lit (.int .i64 0))), (.d (.lit (.string (toS ([] : List UInt8))))), (.d .nil)]))] (Oal rfl) ?_
  refine Wy (.tup []) [(2, (.box [(.d (.lit (.int .i64 p0.Time))), (.d (.lit (.int .i64 p0.Source))), (.d (.lit (.int .i64 p0.Seq))), (.d (.lit (.string (toS p0.Type_)))), (.d .nil)]))] (Ost rfl) ?_
  refine Walk.nil ?_
  refine Then.normal ?_
  refine Amk 14 7 ⟨(tp 1 ((.loc 0 0) :: ((.loc 1 0) :: ((.loc 2 0) :: (tp 28 []))))), [(.box [(.d (.lit (.int .i64 p0.Time))), (.d (.lit (.int .i64 p0.Source))), (.d (.lit (.int .i64 p0.Seq))), (.d (.lit (.string (toS p0.Type_)))), (.d (.sl (List.length p0.Vals) (flatD enc_GValue p0.Vals)))]), (.box [(.d (.lit (.int .i64 0))), (.d (.lit (.int .i64 0))), (.d (.lit (.int .i64 0))), (.d (.lit (.string (toS ([] : List UInt8))))), (.d .nil)]), (.box [(.d (.lit (.int .i64 p0.Time))), (.d (.lit (.int .i64 p0.Source))), (.d (.lit (.int .i64 p0.Seq))), (.d (.lit (.string (toS p0.Type_)))), (.d .nil)])], 0⟩ ?_
  refine AWP.seq ?_
  refine AWP.seq ?_
  refine AWP.text ?_
  refine Wy (.d (.lit (.int .i64 0))) [] (Omv rfl) ?_
  refine Walk.nil ?_
  refine Then.normal ?_
  refine Amk 30 7 ⟨(tp 1 ((.loc 0 0) :: ((.loc 1 0) :: ((.loc 2 0) :: ((.d (.lit (.int .i64 0))) :: (tp 27 [])))))), [(.box [(.d (.lit (.int .i64 p0.Time))), (.d (.lit (.int .i64 p0.Source))), (.d (.lit (.int .i64 p0.Seq))), (.d (.lit (.string (toS p0.Type_)))), (.d (.sl (List.length p0.Vals) (flatD enc_GValue p0.Vals)))]), (.box [(.d (.lit (.int .i64 0))), (.d (.lit (.int .i64 0))), (.d (.lit (.int .i64 0))), (.d (.lit (.string (toS ([] : List UInt8))))), (.d .nil)]), (.box [(.d (.lit (.int .i64 p0.Time))), (.d (.lit (.int .i64 p0.Source))), (.d (.lit (.int .i64 p0.Seq))), (.d (.lit (.string (toS p0.Type_)))), (.d .nil)])], 0⟩ ?_
  refine AWP.block ?_
  refine Aob 2 4 113 4 ⟨(tp 1 ((.loc 0 0) :: ((.loc 1 0) :: ((.loc 2 0) :: ((.d (.lit (.int .i64 0))) :: (tp 27 [])))))), [(.box [(.d (.lit (.int .i64 p0.Time))), (.d (.lit (.int .i64 p0.Source))), (.d (.lit (.int .i64 p0.Seq))), (.d (.lit (.string (toS p0.Type_)))), (.d (.sl (List.length p0.Vals) (flatD enc_GValue p0.Vals)))]), (.box [(.d (.lit (.int .i64 0))), (.d (.lit (.int .i64 0))), (.d (.lit (.int .i64 0))), (.d (.lit (.string (toS ([] : List UInt8))))), (.d .nil)]), (.box [(.d (.lit (.int .i64 p0.Time))), (.d (.lit (.int .i64 p0.Source))), (.d (.lit (.int .i64 p0.Seq))), (.d (.lit (.string (toS p0.Type_)))), (.own 3)]), (.arr 113 4 (List.length ([] : List GValue)) (flatD enc_GValue ([] : List GValue)))], 0⟩ ?_
  refine AWP.loopI (α := Nat × (List GValue) × Int)
    (fun x => match x with | (fu_0, y3_d_4_0, y4_0) => (⟨(tp 1 ((.loc 0 0) :: ((.loc 1 0) :: ((.loc 2 0) :: ((.d (.lit (.int .i64 y4_0))) :: (tp 27 [])))))), [(.box [(.d (.lit (.int .i64 p0.Time))), (.d (.lit (.int .i64 p0.Source))), (.d (.lit (.int .i64 p0.Seq))), (.d (.lit (.string (toS p0.Type_)))), (.d (.sl (List.length p0.Vals) (flatD enc_GValue p0.Vals)))]), (.box [(.d (.lit (.int .i64 0))), (.d (.lit (.int .i64 0))), (.d (.lit (.int .i64 0))), (.d (.lit (.string (toS ([] : List UInt8))))), (.d .nil)]), (.box [(.d (.lit (.int .i64 p0.Time))), (.d (.lit (.int .i64 p0.Source))), (.d (.lit (.int .i64 p0.Seq))), (.d (.lit (.string (toS p0.Type_)))), (.own 3)]), (.arr 113 4 (List.length y3_d_4_0) (flatD enc_GValue y3_d_4_0))], 0⟩ : St))
    (fun x => match x with | (fu_0, y3_d_4_0, y4_0) => m_telltalelaw07_Back_l0 p0 fu_0 y3_d_4_0 y4_0 = some r)
    (fun x => match x with | (fu_0, y3_d_4_0, y4_0) => fu_0) (1152921504606846976, ([] : List GValue), 0)
    (Weak.toK 30 0 0 [0, 1, 2, 3]) hm ?_
  rintro ⟨fu_0, y3_d_4_0, y4_0⟩ n_0 hm ih_0
  try dsimp only at hm ih_0 ⊢
  cases fu_0 with
  | zero => exact absurd hm (by unfold m_telltalelaw07_Back_l0; simp)
  | succ fu_0 =>
    unfold m_telltalelaw07_Back_l0 at hm
    refine AWP.seq ?_
    refine AWP.seq ?_
    refine AWP.text ?_
    refine Wy (.d (.lit (.int .i64 y4_0))) [] (Omv rfl) ?_
    refine Wy (.loc 0 4) [] (Ofa rfl) ?_
    refine Wy (.d (.sl (List.length p0.Vals) (flatD enc_GValue p0.Vals))) [] (Old rfl) ?_
    refine Wy (.d (.lit (.int .i64 ((List.length p0.Vals : Nat) : Int)))) [] (Oln rfl) ?_
    refine Wy (.d (.lit (.bool (decide (y4_0 < ((List.length p0.Vals : Nat) : Int)))))) [] (Obn rfl (fun _ => hb_lss (k := .i64))) ?_
    refine Walk.nil ?_
    refine Then.normal ?_
    refine Amk 262174 15 ⟨(tp 1 ((.loc 0 0) :: ((.loc 1 0) :: ((.loc 2 0) :: ((.d (.lit (.int .i64 y4_0))) :: (tp 13 ((.d (.lit (.bool (decide (y4_0 < ((List.length p0.Vals : Nat) : Int)))))) :: (tp 13 [])))))))), [(.box [(.d (.lit (.int .i64 p0.Time))), (.d (.lit (.int .i64 p0.Source))), (.d (.lit (.int .i64 p0.Seq))), (.d (.lit (.string (toS p0.Type_)))), (.d (.sl (List.length p0.Vals) (flatD enc_GValue p0.Vals)))]), (.box [(.d (.lit (.int .i64 0))), (.d (.lit (.int .i64 0))), (.d (.lit (.int .i64 0))), (.d (.lit (.string (toS ([] : List UInt8))))), (.d .nil)]), (.box [(.d (.lit (.int .i64 p0.Time))), (.d (.lit (.int .i64 p0.Source))), (.d (.lit (.int .i64 p0.Seq))), (.d (.lit (.string (toS p0.Type_)))), (.own 3)]), (.arr 113 4 (List.length y3_d_4_0) (flatD enc_GValue y3_d_4_0))], 0⟩ ?_
    rcases tf_ (decide (y4_0 < ((List.length p0.Vals : Nat) : Int))) with hc18_3 | hc18_3
    · replace hm := cT hc18_3 hm
      refine AWP.if_ true (Eq.trans (by kernel_rfl) (lit_tf (b := decide (y4_0 < ((List.length p0.Vals : Nat) : Int))) hc18_3)) ?_
      refine AWP.skip ?_
      refine Then.normal ?_
      refine Amk 30 15 ⟨(tp 1 ((.loc 0 0) :: ((.loc 1 0) :: ((.loc 2 0) :: ((.d (.lit (.int .i64 y4_0))) :: (tp 27 [])))))), [(.box [(.d (.lit (.int .i64 p0.Time))), (.d (.lit (.int .i64 p0.Source))), (.d (.lit (.int .i64 p0.Seq))), (.d (.lit (.string (toS p0.Type_)))), (.d (.sl (List.length p0.Vals) (flatD enc_GValue p0.Vals)))]), (.box [(.d (.lit (.int .i64 0))), (.d (.lit (.int .i64 0))), (.d (.lit (.int .i64 0))), (.d (.lit (.string (toS ([] : List UInt8))))), (.d .nil)]), (.box [(.d (.lit (.int .i64 p0.Time))), (.d (.lit (.int .i64 p0.Source))), (.d (.lit (.int .i64 p0.Seq))), (.d (.lit (.string (toS p0.Type_)))), (.own 3)]), (.arr 113 4 (List.length y3_d_4_0) (flatD enc_GValue y3_d_4_0))], 0⟩ ?_
      refine AWP.seq ?_
      refine AWP.block ?_
      refine Adr ?_
      refine Wy (.loc 2 4) [] (Ofa rfl) ?_
      refine Wy (.own 3) [] (Old rfl) ?_
      refine Wy (.loc 0 4) [] (Ofa rfl) ?_
      refine Wy (.d (.sl (List.length p0.Vals) (flatD enc_GValue p0.Vals))) [] (Old rfl) ?_
      refine Wy (.d (.lit (.int .i64 y4_0))) [] (Omv rfl) ?_
      obtain ⟨x26_2, hx26_2, hm⟩ := bnd hm
      obtain ⟨hx26_2i, hx26_2g⟩ := geti_some hx26_2
      refine Wy (.d (.ref (List.drop ((Int.toNat y4_0) * 4) (flatD enc_GValue p0.Vals)))) [] (Oia rfl enc_GValue_len hx26_2i hx26_2g) ?_
      refine Wy (.agg [(.d (byteD x26_2.Kind)), (.d (.lit (.int .i64 x26_2.N))), (.d (.lit (.int .u64 x26_2.Bits))), (.d (.lit (.string (toS x26_2.Text))))]) [] (Lf rfl enc_GValue_len hx26_2g) ?_
      refine Wy (.own 4) [(4, (.arr 113 4 (List.length ([x26_2] : List GValue)) (flatD enc_GValue ([x26_2] : List GValue))))] (Obs rfl) ?_
      obtain ⟨a29_2, ha29_2, hm⟩ := bnd hm; obtain ⟨ha29_2e, ha29_2l⟩ := app_some ha29_2
      refine Wy (.own 5) [(3, .gone), (5, (.arr 113 4 (List.length a29_2) (flatD enc_GValue a29_2)))] (Oap rfl elemOK_79 enc_GValue_len ha29_2e ha29_2l) ?_
      refine Wy (.loc 2 4) [] (Ofa rfl) ?_
      refine Wy (.tup []) [(2, (.box [(.d (.lit (.int .i64 p0.Time))), (.d (.lit (.int .i64 p0.Source))), (.d (.lit (.int .i64 p0.Seq))), (.d (.lit (.string (toS p0.Type_)))), (.own 5)]))] (Ost rfl) ?_
      refine Wdr ?_
      refine InBlock.normal ?_
      refine Then.normal ?_
      refine Amk 30 39 ⟨(tp 1 ((.loc 0 0) :: ((.loc 1 0) :: ((.loc 2 0) :: ((.d (.lit (.int .i64 y4_0))) :: (tp 27 [])))))), [(.box [(.d (.lit (.int .i64 p0.Time))), (.d (.lit (.int .i64 p0.Source))), (.d (.lit (.int .i64 p0.Seq))), (.d (.lit (.string (toS p0.Type_)))), (.d (.sl (List.length p0.Vals) (flatD enc_GValue p0.Vals)))]), (.box [(.d (.lit (.int .i64 0))), (.d (.lit (.int .i64 0))), (.d (.lit (.int .i64 0))), (.d (.lit (.string (toS ([] : List UInt8))))), (.d .nil)]), (.box [(.d (.lit (.int .i64 p0.Time))), (.d (.lit (.int .i64 p0.Source))), (.d (.lit (.int .i64 p0.Seq))), (.d (.lit (.string (toS p0.Type_)))), (.own 5)]), .gone, .gone, (.arr 113 4 (List.length a29_2) (flatD enc_GValue a29_2))], 0⟩ ?_
      refine AWP.text ?_
      refine Wy (.d (.lit (.int .i64 y4_0))) [] (Omv rfl) ?_
      refine Wy (.d (.lit (.int .i64 (IntKind.i64.wrap (y4_0 + 1))))) [] (Obn rfl (fun _ => hb_add (k := .i64))) ?_
      refine Wy (.d (.lit (.int .i64 (IntKind.i64.wrap (y4_0 + 1))))) [] (Omv rfl) ?_
      refine Walk.nil ?_
      refine RoundK.normal ?_
      exact Rounds.weak (Weak.toK 30 0 0 [0, 1, 2, 5]) (ih_0 (fu_0, a29_2, (IntKind.i64.wrap (y4_0 + 1))) hm (Nat.lt_succ_self _))
    · replace hm := cF hc18_3 hm
      refine AWP.if_ false (Eq.trans (by kernel_rfl) (lit_tf (b := decide (y4_0 < ((List.length p0.Vals : Nat) : Int))) hc18_3)) ?_
      refine AWP.exit ?_
      refine Then.exit ?_
      refine RoundK.exit ?_
      refine InBlock.same ?_
      refine Then.normal ?_
      refine Amk 12 14 ⟨(tp 2 ((.loc 1 0) :: ((.loc 2 0) :: (tp 28 [])))), [.gone, (.box [(.d (.lit (.int .i64 0))), (.d (.lit (.int .i64 0))), (.d (.lit (.int .i64 0))), (.d (.lit (.string (toS ([] : List UInt8))))), (.d .nil)]), (.box [(.d (.lit (.int .i64 p0.Time))), (.d (.lit (.int .i64 p0.Source))), (.d (.lit (.int .i64 p0.Seq))), (.d (.lit (.string (toS p0.Type_)))), (.own 3)]), (.arr 113 4 (List.length y3_d_4_0) (flatD enc_GValue y3_d_4_0))], 0⟩ ?_
      refine AWP.seq ?_
      refine AWP.text ?_
      refine Wy (.agg [(.d (.lit (.int .i64 p0.Time))), (.d (.lit (.int .i64 p0.Source))), (.d (.lit (.int .i64 p0.Seq))), (.d (.lit (.string (toS p0.Type_)))), (.own 3)]) [] (Old rfl) ?_
      refine Wy (.tup []) [(1, (.box [(.d (.lit (.int .i64 p0.Time))), (.d (.lit (.int .i64 p0.Source))), (.d (.lit (.int .i64 p0.Seq))), (.d (.lit (.string (toS p0.Type_)))), (.own 3)]))] (Ost rfl) ?_
      refine Walk.nil ?_
      refine Then.normal ?_
      refine AWP.ret ?_
      obtain rfl := Option.some.inj hm
      exact ret_i [3]

set_option maxRecDepth 20000 in
set_option maxHeartbeats 4000000 in
theorem ok_telltalelaw19_BackPairs (p0 : (List GPair)) (r : (List GPair)) (h : m_telltalelaw19_BackPairs p0 = some r) : GCall Try.prog 36 [(.d (.sl (List.length p0) (flatD enc_GPair p0)))] [] (.own 0) [(.arr 83 6 (List.length r) (flatD enc_GPair r))] := by
  refine GCall.of_body (n := 27) (rs := [(.tmp 2)]) Try.func36 rfl rfl rfl ?_
  refine Ato ⟨((.d (.sl (List.length p0) (flatD enc_GPair p0))) :: (tu 26 [])), [], 0⟩ ?_
  have hm := h
  unfold m_telltalelaw19_BackPairs at hm
  refine AWP.seq ?_
  refine AWP.text ?_
  refine Wy (.d .nil) [] (Omv rfl) ?_
  refine Walk.nil ?_
  refine Then.normal ?_
  refine Amk 1 0 ⟨((.d (.sl (List.length p0) (flatD enc_GPair p0))) :: (tp 26 [])), [], 0⟩ ?_
  refine AWP.seq ?_
  refine AWP.text ?_
  refine Wy (.d .nil) [] (Omv rfl) ?_
  refine Walk.nil ?_
  refine Then.normal ?_
  refine Amk 9 0 ⟨((.d (.sl (List.length p0) (flatD enc_GPair p0))) :: (tp 2 ((.d .nil) :: (tp 23 [])))), [], 0⟩ ?_
  refine AWP.seq ?_
  refine AWP.seq ?_
  refine AWP.text ?_
  refine Wy (.d (.lit (.int .i64 0))) [] (Omv rfl) ?_
  refine Walk.nil ?_
  refine Then.normal ?_
  refine Amk 25 0 ⟨((.d (.sl (List.length p0) (flatD enc_GPair p0))) :: (tp 2 ((.d .nil) :: ((.d (.lit (.int .i64 0))) :: (tp 22 []))))), [], 0⟩ ?_
  refine AWP.block ?_
  refine Aow 3 83 6 ⟨((.d (.sl (List.length p0) (flatD enc_GPair p0))) :: (tp 2 ((.own 0) :: ((.d (.lit (.int .i64 0))) :: (tp 22 []))))), [(.arr 83 6 (List.length ([] : List GPair)) (flatD enc_GPair ([] : List GPair)))], 0⟩ ?_
  refine AWP.loopI (α := Nat × (List GPair) × Int)
    (fun x => match x with | (fu_0, y3_0, y4_0) => (⟨((.d (.sl (List.length p0) (flatD enc_GPair p0))) :: (tp 2 ((.own 0) :: ((.d (.lit (.int .i64 y4_0))) :: (tp 22 []))))), [(.arr 83 6 (List.length y3_0) (flatD enc_GPair y3_0))], 0⟩ : St))
    (fun x => match x with | (fu_0, y3_0, y4_0) => m_telltalelaw19_BackPairs_l0 p0 fu_0 y3_0 y4_0 = some r)
    (fun x => match x with | (fu_0, y3_0, y4_0) => fu_0) (1152921504606846976, ([] : List GPair), 0)
    (Weak.toK 25 0 0 [0]) hm ?_
  rintro ⟨fu_0, y3_0, y4_0⟩ n_0 hm ih_0
  try dsimp only at hm ih_0 ⊢
  cases fu_0 with
  | zero => exact absurd hm (by unfold m_telltalelaw19_BackPairs_l0; simp)
  | succ fu_0 =>
    unfold m_telltalelaw19_BackPairs_l0 at hm
    refine AWP.seq ?_
    refine AWP.seq ?_
    refine AWP.text ?_
    refine Wy (.d (.lit (.int .i64 y4_0))) [] (Omv rfl) ?_
    refine Wy (.d (.sl (List.length p0) (flatD enc_GPair p0))) [] (Omv rfl) ?_
    refine Wy (.d (.lit (.int .i64 ((List.length p0 : Nat) : Int)))) [] (Oln rfl) ?_
    refine Wy (.d (.lit (.bool (decide (y4_0 < ((List.length p0 : Nat) : Int)))))) [] (Obn rfl (fun _ => hb_lss (k := .i64))) ?_
    refine Walk.nil ?_
    refine Then.normal ?_
    refine Amk 281 1 ⟨((.d (.sl (List.length p0) (flatD enc_GPair p0))) :: (tp 2 ((.own 0) :: ((.d (.lit (.int .i64 y4_0))) :: (tp 3 ((.d (.lit (.bool (decide (y4_0 < ((List.length p0 : Nat) : Int)))))) :: (tp 18 []))))))), [(.arr 83 6 (List.length y3_0) (flatD enc_GPair y3_0))], 0⟩ ?_
    rcases tf_ (decide (y4_0 < ((List.length p0 : Nat) : Int))) with hc8_3 | hc8_3
    · replace hm := cT hc8_3 hm
      refine AWP.if_ true (Eq.trans (by kernel_rfl) (lit_tf (b := decide (y4_0 < ((List.length p0 : Nat) : Int))) hc8_3)) ?_
      refine AWP.skip ?_
      refine Then.normal ?_
      refine Amk 25 1 ⟨((.d (.sl (List.length p0) (flatD enc_GPair p0))) :: (tp 2 ((.own 0) :: ((.d (.lit (.int .i64 y4_0))) :: (tp 22 []))))), [(.arr 83 6 (List.length y3_0) (flatD enc_GPair y3_0))], 0⟩ ?_
      refine AWP.seq ?_
      refine AWP.block ?_
      refine Adr ?_
      refine Wy (.own 0) [] (Omv rfl) ?_
      refine Wy (.d (.sl (List.length p0) (flatD enc_GPair p0))) [] (Omv rfl) ?_
      refine Wy (.d (.lit (.int .i64 y4_0))) [] (Omv rfl) ?_
      obtain ⟨x14_2, hx14_2, hm⟩ := bnd hm
      obtain ⟨hx14_2i, hx14_2g⟩ := geti_some hx14_2
      refine Wy (.d (.ref (List.drop ((Int.toNat y4_0) * 6) (flatD enc_GPair p0)))) [] (Oia rfl enc_GPair_len hx14_2i hx14_2g) ?_
      refine Wy (.d (.ref (List.drop ((Int.toNat y4_0) * 6) (flatD enc_GPair p0)))) [] (Ofa rfl) ?_
      refine Wy (.d (.lit (.string (toS x14_2.Var)))) [] (Lf1 rfl enc_GPair_len hx14_2g) ?_
      refine Wy (.d (.sl (List.length p0) (flatD enc_GPair p0))) [] (Omv rfl) ?_
      refine Wy (.d (.lit (.int .i64 y4_0))) [] (Omv rfl) ?_
      obtain ⟨x19_2, hx19_2, hm⟩ := bnd hm
      obtain ⟨hx19_2i, hx19_2g⟩ := geti_some hx19_2
      refine Wy (.d (.ref (List.drop ((Int.toNat y4_0) * 6) (flatD enc_GPair p0)))) [] (Oia rfl enc_GPair_len hx19_2i hx19_2g) ?_
      refine Wy (.d (.ref (List.drop 1 (List.drop ((Int.toNat y4_0) * 6) (flatD enc_GPair p0))))) [] (Ofa rfl) ?_
      refine Wy (.agg [(.d (.lit (.int .i64 x19_2.E.Time))), (.d (.lit (.int .i64 x19_2.E.Source))), (.d (.lit (.int .i64 x19_2.E.Seq))), (.d (.lit (.string (toS x19_2.E.Type_)))), (.d (.sl (List.length x19_2.E.Vals) (flatD enc_GValue x19_2.E.Vals)))]) [] (Lfk 1 rfl enc_GPair_len hx19_2g) ?_
      obtain ⟨r22_2, hr22_2, hm⟩ := bnd hm
      refine Wy (.agg [(.d (.lit (.int .i64 r22_2.Time))), (.d (.lit (.int .i64 r22_2.Source))), (.d (.lit (.int .i64 r22_2.Seq))), (.d (.lit (.string (toS r22_2.Type_)))), (.d (.sl (List.length r22_2.Vals) (flatD enc_GValue r22_2.Vals)))]) [(1, (.arr 113 4 (List.length r22_2.Vals) (flatD enc_GValue r22_2.Vals))), (1, (.fro 113 4 (List.length r22_2.Vals) (flatD enc_GValue r22_2.Vals)))] (Ofz [1] (.agg [(.d (.lit (.int .i64 r22_2.Time))), (.d (.lit (.int .i64 r22_2.Source))), (.d (.lit (.int .i64 r22_2.Seq))), (.d (.lit (.string (toS r22_2.Type_)))), (.own 1)]) [(1, (.arr 113 4 (List.length r22_2.Vals) (flatD enc_GValue r22_2.Vals)))] (Ocf [] [1] [] 0 (ok_telltalelaw07_Back x19_2.E r22_2 hr22_2) (fun a w => Try.call52 a w) rfl trivial)) ?_
      refine Wy (.agg [(.d (.lit (.string (toS x14_2.Var)))), (.d (.lit (.int .i64 r22_2.Time))), (.d (.lit (.int .i64 r22_2.Source))), (.d (.lit (.int .i64 r22_2.Seq))), (.d (.lit (.string (toS r22_2.Type_)))), (.d (.sl (List.length r22_2.Vals) (flatD enc_GValue r22_2.Vals)))]) [] (Obd rfl) ?_
      refine Wy (.own 2) [(2, (.arr 83 6 (List.length ([(GPair.mk x14_2.Var r22_2)] : List GPair)) (flatD enc_GPair ([(GPair.mk x14_2.Var r22_2)] : List GPair))))] (Obs rfl) ?_
      obtain ⟨a25_2, ha25_2, hm⟩ := bnd hm; obtain ⟨ha25_2e, ha25_2l⟩ := app_some ha25_2
      refine Wy (.own 3) [(0, .gone), (3, (.arr 83 6 (List.length a25_2) (flatD enc_GPair a25_2)))] (Oap rfl elemOK_26 enc_GPair_len ha25_2e ha25_2l) ?_
      refine Wy (.own 3) [] (Omv rfl) ?_
      refine Wdr ?_
      refine InBlock.normal ?_
      refine Then.normal ?_
      refine Amk 25 8 ⟨((.d (.sl (List.length p0) (flatD enc_GPair p0))) :: (tp 2 ((.own 3) :: ((.d (.lit (.int .i64 y4_0))) :: (tp 22 []))))), [.gone, .gone, .gone, (.arr 83 6 (List.length a25_2) (flatD enc_GPair a25_2))], 0⟩ ?_
      refine AWP.text ?_
      refine Wy (.d (.lit (.int .i64 y4_0))) [] (Omv rfl) ?_
      refine Wy (.d (.lit (.int .i64 (IntKind.i64.wrap (y4_0 + 1))))) [] (Obn rfl (fun _ => hb_add (k := .i64))) ?_
      refine Wy (.d (.lit (.int .i64 (IntKind.i64.wrap (y4_0 + 1))))) [] (Omv rfl) ?_
      refine Walk.nil ?_
      refine RoundK.normal ?_
      exact Rounds.weak (Weak.toK 25 0 0 [3]) (ih_0 (fu_0, a25_2, (IntKind.i64.wrap (y4_0 + 1))) hm (Nat.lt_succ_self _))
    · replace hm := cF hc8_3 hm
      refine AWP.if_ false (Eq.trans (by kernel_rfl) (lit_tf (b := decide (y4_0 < ((List.length p0 : Nat) : Int))) hc8_3)) ?_
      refine AWP.exit ?_
      refine Then.exit ?_
      refine RoundK.exit ?_
      refine InBlock.same ?_
      refine Then.normal ?_
      refine Amk 8 1 ⟨(tp 3 ((.own 0) :: (tp 23 []))), [(.arr 83 6 (List.length y3_0) (flatD enc_GPair y3_0))], 0⟩ ?_
      refine AWP.seq ?_
      refine AWP.text ?_
      refine Wy (.own 0) [] (Omv rfl) ?_
      refine Wy (.own 0) [] (Omv rfl) ?_
      refine Walk.nil ?_
      refine Then.normal ?_
      refine AWP.ret ?_
      obtain rfl := Option.some.inj hm
      exact ret_i [0]
end Go.Proofs.Ytlbajkdbbffefaa.K
