/- each function computes what its model says (2) -/
import Derived.Test.YtlbajkdbbffefaaL1
namespace Go.Proofs.Ytlbajkdbbffefaa.K
open Go.RowKit Go.Lib
set_option linter.unusedVariables false
set_option linter.unusedSimpArgs false

set_option maxRecDepth 20000 in
set_option maxHeartbeats 4000000 in
theorem ok_runs_Runs_Least (p0 : GRuns) (r : (Int × Bool)) (h : m_runs_Runs_Least p0 = some r) : GCall Try.prog 20 [(.agg [(.d (.lit (.int .i64 p0.Cap))), (.d (.sl (List.length p0.L) (flatD enc_GRun p0.L)))])] [] (.tup [(.d (.lit (.int .i64 r.1))), (.d (.lit (.bool r.2)))]) [] := by
  refine GCall.of_body (n := 39) (rs := [(.tmp 2), (.tmp 3)]) Try.func20 rfl rfl rfl ?_
  refine Ato ⟨((.agg [(.d (.lit (.int .i64 p0.Cap))), (.d (.sl (List.length p0.L) (flatD enc_GRun p0.L)))]) :: (tu 38 [])), [], 0⟩ ?_
  have hm := h
  unfold m_runs_Runs_Least at hm
  refine AWP.seq ?_
  refine AWP.text ?_
  refine Wy (.loc 0 0) [(0, (.box [(.d (.lit (.int .i64 p0.Cap))), (.d (.sl (List.length p0.L) (flatD enc_GRun p0.L)))]))] (Obx rfl) ?_
  refine Wy (.d (.lit (.int .i64 0))) [] (Omv rfl) ?_
  refine Wy (.d (.lit (.bool false))) [] (Omv rfl) ?_
  refine Walk.nil ?_
  refine Then.normal ?_
  refine Amk 2 1 ⟨(tp 1 ((.loc 0 0) :: (tp 37 []))), [(.box [(.d (.lit (.int .i64 p0.Cap))), (.d (.sl (List.length p0.L) (flatD enc_GRun p0.L)))])], 0⟩ ?_
  refine AWP.seq ?_
  refine AWP.text ?_
  refine Wy (.d (.lit (.int .i64 0))) [] (Omv rfl) ?_
  refine Wy (.d (.lit (.bool false))) [] (Omv rfl) ?_
  refine Walk.nil ?_
  refine Then.normal ?_
  refine Amk 50 1 ⟨(tp 1 ((.loc 0 0) :: (tp 2 ((.d (.lit (.int .i64 0))) :: ((.d (.lit (.bool false))) :: (tp 33 [])))))), [(.box [(.d (.lit (.int .i64 p0.Cap))), (.d (.sl (List.length p0.L) (flatD enc_GRun p0.L)))])], 0⟩ ?_
  refine AWP.seq ?_
  refine AWP.seq ?_
  refine AWP.text ?_
  refine Wy (.loc 0 1) [] (Ofa rfl) ?_
  refine Wy (.d (.sl (List.length p0.L) (flatD enc_GRun p0.L))) [] (Old rfl) ?_
  refine Wy (.d (.lit (.int .i64 ((List.length p0.L : Nat) : Int)))) [] (Oln rfl) ?_
  refine Wy (.d (.lit (.int .i64 0))) [] (Omv rfl) ?_
  refine Walk.nil ?_
  refine Then.normal ?_
  refine Amk 28720 0 ⟨(tp 4 ((.d (.lit (.int .i64 0))) :: ((.d (.lit (.bool false))) :: (tp 6 ((.d (.sl (List.length p0.L) (flatD enc_GRun p0.L))) :: ((.d (.lit (.int .i64 ((List.length p0.L : Nat) : Int)))) :: ((.d (.lit (.int .i64 0))) :: (tp 24 [])))))))), [.gone], 0⟩ ?_
  refine AWP.block ?_
  refine AWP.loopI (α := Nat × Int × Bool × Int)
    (fun x => match x with | (fu_1, y4_1, y5_1, y14_1) => (⟨(tp 4 ((.d (.lit (.int .i64 y4_1))) :: ((.d (.lit (.bool y5_1))) :: (tp 6 ((.d (.sl (List.length p0.L) (flatD enc_GRun p0.L))) :: ((.d (.lit (.int .i64 ((List.length p0.L : Nat) : Int)))) :: ((.d (.lit (.int .i64 y14_1))) :: (tp 24 [])))))))), [], 0⟩ : St))
    (fun x => match x with | (fu_1, y4_1, y5_1, y14_1) => m_runs_Runs_Least_l1 p0 fu_1 y4_1 y5_1 y14_1 = some r)
    (fun x => match x with | (fu_1, y4_1, y5_1, y14_1) => fu_1) (1152921504606846976, 0, false, 0)
    (Weak.toK 28720 0 0 []) hm ?_
  rintro ⟨fu_1, y4_1, y5_1, y14_1⟩ n_1 hm ih_1
  try dsimp only at hm ih_1 ⊢
  cases fu_1 with
  | zero => exact absurd hm (by unfold m_runs_Runs_Least_l1; simp)
  | succ fu_1 =>
    unfold m_runs_Runs_Least_l1 at hm
    refine AWP.seq ?_
    refine AWP.text ?_
    refine Wy (.d (.lit (.bool (decide (y14_1 < ((List.length p0.L : Nat) : Int)))))) [] (Obn rfl (fun _ => hb_lss (k := .i64))) ?_
    refine Walk.nil ?_
    refine Then.normal ?_
    refine Amk 61488 0 ⟨(tp 4 ((.d (.lit (.int .i64 y4_1))) :: ((.d (.lit (.bool y5_1))) :: (tp 6 ((.d (.sl (List.length p0.L) (flatD enc_GRun p0.L))) :: ((.d (.lit (.int .i64 ((List.length p0.L : Nat) : Int)))) :: ((.d (.lit (.int .i64 y14_1))) :: ((.d (.lit (.bool (decide (y14_1 < ((List.length p0.L : Nat) : Int)))))) :: (tp 23 []))))))))), [], 0⟩ ?_
    refine AWP.seq ?_
    rcases tf_ (decide (y14_1 < ((List.length p0.L : Nat) : Int))) with hc15_5 | hc15_5
    · replace hm := cT hc15_5 hm
      refine AWP.if_ true (Eq.trans (by kernel_rfl) (lit_tf (b := decide (y14_1 < ((List.length p0.L : Nat) : Int))) hc15_5)) ?_
      refine AWP.skip ?_
      refine Then.normal ?_
      refine Amk 28720 0 ⟨(tp 4 ((.d (.lit (.int .i64 y4_1))) :: ((.d (.lit (.bool y5_1))) :: (tp 6 ((.d (.sl (List.length p0.L) (flatD enc_GRun p0.L))) :: ((.d (.lit (.int .i64 ((List.length p0.L : Nat) : Int)))) :: ((.d (.lit (.int .i64 y14_1))) :: (tp 24 [])))))))), [], 0⟩ ?_
      refine AWP.seq ?_
      refine AWP.block ?_
      refine AWP.seq ?_
      refine AWP.text ?_
      obtain ⟨x16_2, hx16_2, hm⟩ := bnd hm
      obtain ⟨hx16_2i, hx16_2g⟩ := geti_some hx16_2
      refine Wy (.d (.ref (List.drop ((Int.toNat y14_1) * 3) (flatD enc_GRun p0.L)))) [] (Oia rfl enc_GRun_len hx16_2i hx16_2g) ?_
      refine Wy (.agg [(.d (.lit (.int .i64 x16_2.Place))), (.d (.sl (List.length x16_2.Bound) (flatD enc_GPair x16_2.Bound))), (.d (.lit (.int .u32 x16_2.Broken)))]) [] (Lf rfl enc_GRun_len hx16_2g) ?_
      refine Wy (.loc 0 0) [(0, (.box [(.d (.lit (.int .i64 0))), (.d .nil), (.d (.lit (.int .u32 0)))]))] (Oal rfl) ?_
      refine Wy (.tup []) [(0, (.box [(.d (.lit (.int .i64 x16_2.Place))), (.d (.sl (List.length x16_2.Bound) (flatD enc_GPair x16_2.Bound))), (.d (.lit (.int .u32 x16_2.Broken)))]))] (Ost rfl) ?_
      refine Walk.nil ?_
      refine Then.normal ?_
      refine Amk 28848 1 ⟨(tp 4 ((.d (.lit (.int .i64 y4_1))) :: ((.d (.lit (.bool y5_1))) :: (tp 1 ((.loc 0 0) :: (tp 4 ((.d (.sl (List.length p0.L) (flatD enc_GRun p0.L))) :: ((.d (.lit (.int .i64 ((List.length p0.L : Nat) : Int)))) :: ((.d (.lit (.int .i64 y14_1))) :: (tp 24 [])))))))))), [(.box [(.d (.lit (.int .i64 x16_2.Place))), (.d (.sl (List.length x16_2.Bound) (flatD enc_GPair x16_2.Bound))), (.d (.lit (.int .u32 x16_2.Broken)))])], 0⟩ ?_
      refine AWP.seq ?_
      refine AWP.text ?_
      refine Wy (.loc 0 1) [] (Ofa rfl) ?_
      refine Wy (.d (.sl (List.length x16_2.Bound) (flatD enc_GPair x16_2.Bound))) [] (Old rfl) ?_
      obtain ⟨r21_3, hr21_3, hm⟩ := bnd hm
      refine Wy (.tup [(.d (.lit (.int .i64 r21_3.1))), (.d (.lit (.int .i64 r21_3.2.1))), (.d (.lit (.bool r21_3.2.2)))]) [] (Ocf [] [] [] 0 (ok_bind_Span x16_2.Bound r21_3 hr21_3) (fun a w => Try.call39 a w) rfl trivial) ?_
      refine Wy (.tup [(.d (.lit (.int .i64 r21_3.1))), (.d (.lit (.int .i64 r21_3.2.1))), (.d (.lit (.bool r21_3.2.2)))]) [] (Omv rfl) ?_
      refine Wy (.d (.lit (.int .i64 r21_3.1))) [] (Oex rfl) ?_
      refine Wy (.d (.lit (.int .i64 r21_3.2.1))) [] (Oex rfl) ?_
      refine Wy (.d (.lit (.bool r21_3.2.2))) [] (Oex rfl) ?_
      refine Wy (.d (.lit (.int .i64 r21_3.1))) [] (Omv rfl) ?_
      refine Wy (.d (.lit (.int .i64 r21_3.2.1))) [] (Omv rfl) ?_
      refine Wy (.d (.lit (.bool r21_3.2.2))) [] (Omv rfl) ?_
      refine Walk.nil ?_
      refine Then.normal ?_
      refine Amk 30000 0 ⟨(tp 4 ((.d (.lit (.int .i64 y4_1))) :: ((.d (.lit (.bool y5_1))) :: (tp 2 ((.d (.lit (.int .i64 r21_3.1))) :: (tp 1 ((.d (.lit (.bool r21_3.2.2))) :: (tp 1 ((.d (.sl (List.length p0.L) (flatD enc_GRun p0.L))) :: ((.d (.lit (.int .i64 ((List.length p0.L : Nat) : Int)))) :: ((.d (.lit (.int .i64 y14_1))) :: (tp 24 [])))))))))))), [.gone], 0⟩ ?_
      refine AWP.seq ?_
      refine AWP.text ?_
      refine Wy (.d (.lit (.bool r21_3.2.2))) [] (Omv rfl) ?_
      rcases tf_ r21_3.2.2 with hq26_4 | hq26_4
      · replace hm := cT hq26_4 hm
        refine Wy (.d (.lit (.bool true))) [] (Ocs (lit_tf (b := r21_3.2.2) hq26_4) (Omv rfl)) ?_
        refine Wy (.d (.lit (.bool y5_1))) [] (Omv rfl) ?_
        refine Wy (.d (.lit (.bool (!y5_1)))) [] (Ocs (by kernel_rfl) (op_un rfl (a1 := .bool y5_1) (by kernel_rfl) (fun _ => hu_not))) ?_
        rcases tf_ (!y5_1) with hq29_4 | hq29_4
        · replace hm := cT hq29_4 hm
          refine Wy (.d (.lit (.bool true))) [] (Ocs (lit_tf (b := (!y5_1)) hq29_4) (Omv rfl)) ?_
          refine Wn ?_
          refine Wn ?_
          refine Wn ?_
          refine Wy (.d (.lit (.bool true))) [] (OpT rfl) ?_
          refine Wy (.d (.lit (.bool true))) [] (OpT rfl) ?_
          refine Walk.nil ?_
          refine Then.normal ?_
          refine Amk 17179898160 0 ⟨(tp 4 ((.d (.lit (.int .i64 y4_1))) :: ((.d (.lit (.bool y5_1))) :: (tp 2 ((.d (.lit (.int .i64 r21_3.1))) :: (tp 3 ((.d (.sl (List.length p0.L) (flatD enc_GRun p0.L))) :: ((.d (.lit (.int .i64 ((List.length p0.L : Nat) : Int)))) :: ((.d (.lit (.int .i64 y14_1))) :: (tp 19 ((.d (.lit (.bool true))) :: (tp 4 [])))))))))))), [.gone], 0⟩ ?_
          refine AWP.if_ true (by kernel_rfl) ?_
          refine AWP.text ?_
          refine Wy (.d (.lit (.int .i64 r21_3.1))) [] (Omv rfl) ?_
          refine Wy (.d (.lit (.int .i64 r21_3.1))) [] (Omv rfl) ?_
          refine Wy (.d (.lit (.bool true))) [] (Omv rfl) ?_
          refine Walk.nil ?_
          refine InBlock.normal ?_
          refine Then.normal ?_
          refine Amk 28720 0 ⟨(tp 4 ((.d (.lit (.int .i64 r21_3.1))) :: ((.d (.lit (.bool true))) :: (tp 6 ((.d (.sl (List.length p0.L) (flatD enc_GRun p0.L))) :: ((.d (.lit (.int .i64 ((List.length p0.L : Nat) : Int)))) :: ((.d (.lit (.int .i64 y14_1))) :: (tp 24 [])))))))), [.gone], 0⟩ ?_
          refine AWP.text ?_
          refine Wy (.d (.lit (.int .i64 (IntKind.i64.wrap (y14_1 + 1))))) [] (Obn rfl (fun _ => hb_add (k := .i64))) ?_
          refine Wy (.d (.lit (.int .i64 (IntKind.i64.wrap (y14_1 + 1))))) [] (Omv rfl) ?_
          refine Walk.nil ?_
          refine RoundK.normal ?_
          exact Rounds.weak (Weak.toK 28720 0 0 []) (ih_1 (fu_1, r21_3.1, true, (IntKind.i64.wrap (y14_1 + 1))) hm (Nat.lt_succ_self _))
        · replace hm := cF hq29_4 hm
          refine Wy (.d (.lit (.bool false))) [] (Ocs (lit_tf (b := (!y5_1)) hq29_4) (Omv rfl)) ?_
          refine Wy (.d (.lit (.int .i64 r21_3.1))) [] (Omv rfl) ?_
          refine Wy (.d (.lit (.int .i64 y4_1))) [] (Omv rfl) ?_
          refine Wy (.d (.lit (.bool (decide (r21_3.1 < y4_1))))) [] (Obn rfl (fun _ => hb_lss (k := .i64))) ?_
          refine Wy (.d (.lit (.bool (decide (r21_3.1 < y4_1))))) [] (OpF rfl) ?_
          refine Wy (.d (.lit (.bool (decide (r21_3.1 < y4_1))))) [] (OpT rfl) ?_
          refine Walk.nil ?_
          refine Then.normal ?_
          refine Amk 17179898160 0 ⟨(tp 4 ((.d (.lit (.int .i64 y4_1))) :: ((.d (.lit (.bool y5_1))) :: (tp 2 ((.d (.lit (.int .i64 r21_3.1))) :: (tp 3 ((.d (.sl (List.length p0.L) (flatD enc_GRun p0.L))) :: ((.d (.lit (.int .i64 ((List.length p0.L : Nat) : Int)))) :: ((.d (.lit (.int .i64 y14_1))) :: (tp 19 ((.d (.lit (.bool (decide (r21_3.1 < y4_1))))) :: (tp 4 [])))))))))))), [.gone], 0⟩ ?_
          rcases tf_ (decide (r21_3.1 < y4_1)) with hc34_6 | hc34_6
          · replace hm := cT hc34_6 hm
            refine AWP.if_ true (Eq.trans (by kernel_rfl) (lit_tf (b := decide (r21_3.1 < y4_1)) hc34_6)) ?_
            refine AWP.text ?_
            refine Wy (.d (.lit (.int .i64 r21_3.1))) [] (Omv rfl) ?_
            refine Wy (.d (.lit (.int .i64 r21_3.1))) [] (Omv rfl) ?_
            refine Wy (.d (.lit (.bool true))) [] (Omv rfl) ?_
            refine Walk.nil ?_
            refine InBlock.normal ?_
            refine Then.normal ?_
            refine Amk 28720 0 ⟨(tp 4 ((.d (.lit (.int .i64 r21_3.1))) :: ((.d (.lit (.bool true))) :: (tp 6 ((.d (.sl (List.length p0.L) (flatD enc_GRun p0.L))) :: ((.d (.lit (.int .i64 ((List.length p0.L : Nat) : Int)))) :: ((.d (.lit (.int .i64 y14_1))) :: (tp 24 [])))))))), [.gone], 0⟩ ?_
            refine AWP.text ?_
            refine Wy (.d (.lit (.int .i64 (IntKind.i64.wrap (y14_1 + 1))))) [] (Obn rfl (fun _ => hb_add (k := .i64))) ?_
            refine Wy (.d (.lit (.int .i64 (IntKind.i64.wrap (y14_1 + 1))))) [] (Omv rfl) ?_
            refine Walk.nil ?_
            refine RoundK.normal ?_
            exact Rounds.weak (Weak.toK 28720 0 0 []) (ih_1 (fu_1, r21_3.1, true, (IntKind.i64.wrap (y14_1 + 1))) hm (Nat.lt_succ_self _))
          · replace hm := cF hc34_6 hm
            refine AWP.if_ false (Eq.trans (by kernel_rfl) (lit_tf (b := decide (r21_3.1 < y4_1)) hc34_6)) ?_
            refine AWP.skip ?_
            refine InBlock.normal ?_
            refine Then.normal ?_
            refine Amk 28720 0 ⟨(tp 4 ((.d (.lit (.int .i64 y4_1))) :: ((.d (.lit (.bool y5_1))) :: (tp 6 ((.d (.sl (List.length p0.L) (flatD enc_GRun p0.L))) :: ((.d (.lit (.int .i64 ((List.length p0.L : Nat) : Int)))) :: ((.d (.lit (.int .i64 y14_1))) :: (tp 24 [])))))))), [.gone], 0⟩ ?_
            refine AWP.text ?_
            refine Wy (.d (.lit (.int .i64 (IntKind.i64.wrap (y14_1 + 1))))) [] (Obn rfl (fun _ => hb_add (k := .i64))) ?_
            refine Wy (.d (.lit (.int .i64 (IntKind.i64.wrap (y14_1 + 1))))) [] (Omv rfl) ?_
            refine Walk.nil ?_
            refine RoundK.normal ?_
            exact Rounds.weak (Weak.toK 28720 0 0 []) (ih_1 (fu_1, y4_1, y5_1, (IntKind.i64.wrap (y14_1 + 1))) hm (Nat.lt_succ_self _))
      · replace hm := cF hq26_4 hm
        refine Wy (.d (.lit (.bool false))) [] (Ocs (lit_tf (b := r21_3.2.2) hq26_4) (Omv rfl)) ?_
        refine Wn ?_
        refine Wn ?_
        refine Wn ?_
        refine Wn ?_
        refine Wn ?_
        refine Wn ?_
        refine Wn ?_
        refine Wy (.d (.lit (.bool false))) [] (OpF rfl) ?_
        refine Walk.nil ?_
        refine Then.normal ?_
        refine Amk 17179898160 0 ⟨(tp 4 ((.d (.lit (.int .i64 y4_1))) :: ((.d (.lit (.bool y5_1))) :: (tp 2 ((.d (.lit (.int .i64 r21_3.1))) :: (tp 3 ((.d (.sl (List.length p0.L) (flatD enc_GRun p0.L))) :: ((.d (.lit (.int .i64 ((List.length p0.L : Nat) : Int)))) :: ((.d (.lit (.int .i64 y14_1))) :: (tp 19 ((.d (.lit (.bool false))) :: (tp 4 [])))))))))))), [.gone], 0⟩ ?_
        refine AWP.if_ false (by kernel_rfl) ?_
        refine AWP.skip ?_
        refine InBlock.normal ?_
        refine Then.normal ?_
        refine Amk 28720 0 ⟨(tp 4 ((.d (.lit (.int .i64 y4_1))) :: ((.d (.lit (.bool y5_1))) :: (tp 6 ((.d (.sl (List.length p0.L) (flatD enc_GRun p0.L))) :: ((.d (.lit (.int .i64 ((List.length p0.L : Nat) : Int)))) :: ((.d (.lit (.int .i64 y14_1))) :: (tp 24 [])))))))), [.gone], 0⟩ ?_
        refine AWP.text ?_
        refine Wy (.d (.lit (.int .i64 (IntKind.i64.wrap (y14_1 + 1))))) [] (Obn rfl (fun _ => hb_add (k := .i64))) ?_
        refine Wy (.d (.lit (.int .i64 (IntKind.i64.wrap (y14_1 + 1))))) [] (Omv rfl) ?_
        refine Walk.nil ?_
        refine RoundK.normal ?_
        exact Rounds.weak (Weak.toK 28720 0 0 []) (ih_1 (fu_1, y4_1, y5_1, (IntKind.i64.wrap (y14_1 + 1))) hm (Nat.lt_succ_self _))
    · replace hm := cF hc15_5 hm
      refine AWP.if_ false (Eq.trans (by kernel_rfl) (lit_tf (b := decide (y14_1 < ((List.length p0.L : Nat) : Int))) hc15_5)) ?_
      refine AWP.exit ?_
      refine Then.exit ?_
      refine RoundK.exit ?_
      refine InBlock.same ?_
      refine Then.normal ?_
      refine Amk 48 0 ⟨(tp 4 ((.d (.lit (.int .i64 y4_1))) :: ((.d (.lit (.bool y5_1))) :: (tp 33 [])))), [], 0⟩ ?_
      refine AWP.seq ?_
      refine AWP.text ?_
      refine Wy (.d (.lit (.int .i64 y4_1))) [] (Omv rfl) ?_
      refine Wy (.d (.lit (.bool y5_1))) [] (Omv rfl) ?_
      refine Wy (.d (.lit (.int .i64 y4_1))) [] (Omv rfl) ?_
      refine Wy (.d (.lit (.bool y5_1))) [] (Omv rfl) ?_
      refine Walk.nil ?_
      refine Then.normal ?_
      refine AWP.ret ?_
      obtain rfl := Option.some.inj hm
      exact ret_i []

set_option maxRecDepth 20000 in
set_option maxHeartbeats 4000000 in
theorem ok_runs_Runs_Break (p0 : GRuns) (p1 : Int) (p2 : Int) (r : GRuns) (h : m_runs_Runs_Break p0 p1 p2 = some r) : GCall Try.prog 18 [(.agg [(.d (.lit (.int .i64 p0.Cap))), (.d (.sl (List.length p0.L) (flatD enc_GRun p0.L)))]), (.d (.lit (.int .i64 p1))), (.d (.lit (.int .u32 p2)))] [] (.agg [(.d (.lit (.int .i64 r.Cap))), (.own 0)]) [(.arr 42 3 (List.length r.L) (flatD enc_GRun r.L))] := by
  refine GCall.of_body (n := 30) (rs := [(.cell 6 35)]) Try.func18 rfl rfl rfl ?_
  refine Ato ⟨((.agg [(.d (.lit (.int .i64 p0.Cap))), (.d (.sl (List.length p0.L) (flatD enc_GRun p0.L)))]) :: ((.d (.lit (.int .i64 p1))) :: ((.d (.lit (.int .u32 p2))) :: (tu 27 [])))), [], 0⟩ ?_
  have hm := h
  unfold m_runs_Runs_Break at hm
  refine AWP.seq ?_
  refine AWP.text ?_
  refine Wy (.loc 0 0) [(0, (.box [(.d (.lit (.int .i64 p0.Cap))), (.d (.sl (List.length p0.L) (flatD enc_GRun p0.L)))]))] (Obx rfl) ?_
  refine Wy (.loc 1 0) [(1, (.box [(.d (.lit (.int .i64 0))), (.d .nil)]))] (Oal rfl) ?_
  refine Walk.nil ?_
  refine Then.normal ?_
  refine Amk 78 3 ⟨(tp 1 ((.d (.lit (.int .i64 p1))) :: ((.d (.lit (.int .u32 p2))) :: ((.loc 0 0) :: (tp 2 ((.loc 1 0) :: (tp 23 []))))))), [(.box [(.d (.lit (.int .i64 p0.Cap))), (.d (.sl (List.length p0.L) (flatD enc_GRun p0.L)))]), (.box [(.d (.lit (.int .i64 0))), (.d .nil)])], 0⟩ ?_
  refine AWP.seq ?_
  refine AWP.text ?_
  refine Wy (.agg [(.d (.lit (.int .i64 p0.Cap))), (.d (.sl (List.length p0.L) (flatD enc_GRun p0.L)))]) [] (Old rfl) ?_
  obtain ⟨r9_0, hr9_0, hm⟩ := bnd hm
  refine Wy (.agg [(.d (.lit (.int .i64 r9_0.Cap))), (.own 2)]) [(2, (.arr 42 3 (List.length r9_0.L) (flatD enc_GRun r9_0.L)))] (Ocf [] [2] [] 0 (ok_runs_Runs_filter__runs_all p0 r9_0 hr9_0) (fun a w => Try.call28 a w) rfl trivial) ?_
  refine Wy (.loc 3 0) [(3, (.box [(.d (.lit (.int .i64 0))), (.d .nil)]))] (Oal rfl) ?_
  refine Wy (.tup []) [(3, (.box [(.d (.lit (.int .i64 r9_0.Cap))), (.own 2)]))] (Ost rfl) ?_
  refine Walk.nil ?_
  refine Then.normal ?_
  refine Amk 198 14 ⟨(tp 1 ((.d (.lit (.int .i64 p1))) :: ((.d (.lit (.int .u32 p2))) :: (tp 3 ((.loc 1 0) :: ((.loc 3 0) :: (tp 22 []))))))), [.gone, (.box [(.d (.lit (.int .i64 0))), (.d .nil)]), (.arr 42 3 (List.length r9_0.L) (flatD enc_GRun r9_0.L)), (.box [(.d (.lit (.int .i64 r9_0.Cap))), (.own 2)])], 0⟩ ?_
  refine AWP.seq ?_
  refine AWP.seq ?_
  refine AWP.text ?_
  refine Wy (.d (.lit (.int .i64 p1))) [] (Omv rfl) ?_
  refine Wy (.d (.lit (.bool (decide ((0 : Int) ≤ p1))))) [] (Obn rfl (fun _ => hb_geq (k := .i64))) ?_
  rcases tf_ (decide ((0 : Int) ≤ p1)) with hq12_1 | hq12_1
  · replace hm := cT hq12_1 hm
    refine Wy (.d (.lit (.bool true))) [] (Ocs (lit_tf (b := decide ((0 : Int) ≤ p1)) hq12_1) (Omv rfl)) ?_
    refine Wy (.d (.lit (.int .i64 p1))) [] (Omv rfl) ?_
    refine Wy (.loc 3 1) [] (Ofa rfl) ?_
    refine Wy (.own 2) [] (Old rfl) ?_
    refine Wy (.d (.lit (.int .i64 ((List.length r9_0.L : Nat) : Int)))) [] (Oln rfl) ?_
    refine Wy (.d (.lit (.bool (decide (p1 < ((List.length r9_0.L : Nat) : Int)))))) [] (Obn rfl (fun _ => hb_lss (k := .i64))) ?_
    refine Wy (.d (.lit (.bool (decide (p1 < ((List.length r9_0.L : Nat) : Int)))))) [] (OpT rfl) ?_
    refine Walk.nil ?_
    refine Then.normal ?_
    refine Amk 262342 14 ⟨(tp 1 ((.d (.lit (.int .i64 p1))) :: ((.d (.lit (.int .u32 p2))) :: (tp 3 ((.loc 1 0) :: ((.loc 3 0) :: (tp 10 ((.d (.lit (.bool (decide (p1 < ((List.length r9_0.L : Nat) : Int)))))) :: (tp 11 []))))))))), [.gone, (.box [(.d (.lit (.int .i64 0))), (.d .nil)]), (.arr 42 3 (List.length r9_0.L) (flatD enc_GRun r9_0.L)), (.box [(.d (.lit (.int .i64 r9_0.Cap))), (.own 2)])], 0⟩ ?_
    rcases tf_ (decide (p1 < ((List.length r9_0.L : Nat) : Int))) with hc18_3 | hc18_3
    · replace hm := cT hc18_3 hm
      refine AWP.if_ true (Eq.trans (by kernel_rfl) (lit_tf (b := decide (p1 < ((List.length r9_0.L : Nat) : Int))) hc18_3)) ?_
      refine AWP.text ?_
      refine Wy (.loc 3 1) [] (Ofa rfl) ?_
      refine Wy (.own 2) [] (Old rfl) ?_
      refine Wy (.d (.lit (.int .i64 p1))) [] (Omv rfl) ?_
      obtain ⟨x22_2, hx22_2, hm⟩ := bnd hm
      obtain ⟨hx22_2i, hx22_2g⟩ := geti_some hx22_2
      refine Wy (.loc 2 ((Int.toNat p1) * 3)) [] (Oia rfl enc_GRun_len hx22_2i hx22_2g) ?_
      refine Wy (.loc 2 ((Int.toNat p1) * 3 + 2)) [] (Ofa rfl) ?_
      refine Wy (.d (.lit (.int .u32 x22_2.Broken))) [] (Lrk1 2 rfl enc_GRun_len hx22_2g) ?_
      refine Wy (.d (.lit (.int .u32 p2))) [] (Omv rfl) ?_
      refine Wy (.d (.lit (.int .u32 (IntKind.u32.wrap (((BitVec.ofInt 32 x22_2.Broken ||| BitVec.ofInt 32 p2).toNat : Int)))))) [] (Ocs (by kernel_rfl) (op_bin rfl (a1 := .int .u32 x22_2.Broken) (a2 := .int .u32 p2) (by kernel_rfl) (by kernel_rfl) (fun _ => hb_or))) ?_
      obtain ⟨x27_2, hx27_2, hm⟩ := bnd hm
      obtain ⟨hx27_2i, hx27_2g⟩ := geti_some hx27_2
      refine Wy (.loc 2 ((Int.toNat p1) * 3)) [] (Oia rfl enc_GRun_len hx27_2i hx27_2g) ?_
      refine Wy (.loc 2 ((Int.toNat p1) * 3 + 2)) [] (Ofa rfl) ?_
      refine Wy (.tup []) [(2, (.arr 42 3 (List.length (List.set r9_0.L (Int.toNat p1) (GRun.mk x27_2.Place x27_2.Bound (IntKind.u32.wrap (((BitVec.ofInt 32 x22_2.Broken ||| BitVec.ofInt 32 p2).toNat : Int)))))) (flatD enc_GRun (List.set r9_0.L (Int.toNat p1) (GRun.mk x27_2.Place x27_2.Bound (IntKind.u32.wrap (((BitVec.ofInt 32 x22_2.Broken ||| BitVec.ofInt 32 p2).toNat : Int))))))))] (Osr 2 rfl enc_GRun_len hx27_2g (GRun.mk x27_2.Place x27_2.Bound (IntKind.u32.wrap (((BitVec.ofInt 32 x22_2.Broken ||| BitVec.ofInt 32 p2).toNat : Int))))) ?_
      refine Walk.nil ?_
      refine Then.normal ?_
      refine Amk 192 14 ⟨(tp 6 ((.loc 1 0) :: ((.loc 3 0) :: (tp 22 [])))), [.gone, (.box [(.d (.lit (.int .i64 0))), (.d .nil)]), (.arr 42 3 (List.length (List.set r9_0.L (Int.toNat p1) (GRun.mk x27_2.Place x27_2.Bound (IntKind.u32.wrap (((BitVec.ofInt 32 x22_2.Broken ||| BitVec.ofInt 32 p2).toNat : Int)))))) (flatD enc_GRun (List.set r9_0.L (Int.toNat p1) (GRun.mk x27_2.Place x27_2.Bound (IntKind.u32.wrap (((BitVec.ofInt 32 x22_2.Broken ||| BitVec.ofInt 32 p2).toNat : Int))))))), (.box [(.d (.lit (.int .i64 r9_0.Cap))), (.own 2)])], 0⟩ ?_
      refine AWP.seq ?_
      refine AWP.text ?_
      refine Wy (.agg [(.d (.lit (.int .i64 r9_0.Cap))), (.own 2)]) [] (Old rfl) ?_
      refine Wy (.tup []) [(1, (.box [(.d (.lit (.int .i64 r9_0.Cap))), (.own 2)]))] (Ost rfl) ?_
      refine Walk.nil ?_
      refine Then.normal ?_
      refine AWP.ret ?_
      obtain rfl := Option.some.inj hm
      exact ret_i [2]
    · replace hm := cF hc18_3 hm
      refine AWP.if_ false (Eq.trans (by kernel_rfl) (lit_tf (b := decide (p1 < ((List.length r9_0.L : Nat) : Int))) hc18_3)) ?_
      refine AWP.skip ?_
      refine Then.normal ?_
      refine Amk 192 14 ⟨(tp 6 ((.loc 1 0) :: ((.loc 3 0) :: (tp 22 [])))), [.gone, (.box [(.d (.lit (.int .i64 0))), (.d .nil)]), (.arr 42 3 (List.length r9_0.L) (flatD enc_GRun r9_0.L)), (.box [(.d (.lit (.int .i64 r9_0.Cap))), (.own 2)])], 0⟩ ?_
      refine AWP.seq ?_
      refine AWP.text ?_
      refine Wy (.agg [(.d (.lit (.int .i64 r9_0.Cap))), (.own 2)]) [] (Old rfl) ?_
      refine Wy (.tup []) [(1, (.box [(.d (.lit (.int .i64 r9_0.Cap))), (.own 2)]))] (Ost rfl) ?_
      refine Walk.nil ?_
      refine Then.normal ?_
      refine AWP.ret ?_
      obtain rfl := Option.some.inj hm
      exact ret_i [2]
  · replace hm := cF hq12_1 hm
    refine Wy (.d (.lit (.bool false))) [] (Ocs (lit_tf (b := decide ((0 : Int) ≤ p1)) hq12_1) (Omv rfl)) ?_
    refine Wn ?_
    refine Wn ?_
    refine Wn ?_
    refine Wn ?_
    refine Wn ?_
    refine Wy (.d (.lit (.bool false))) [] (OpF rfl) ?_
    refine Walk.nil ?_
    refine Then.normal ?_
    refine Amk 262342 14 ⟨(tp 1 ((.d (.lit (.int .i64 p1))) :: ((.d (.lit (.int .u32 p2))) :: (tp 3 ((.loc 1 0) :: ((.loc 3 0) :: (tp 10 ((.d (.lit (.bool false))) :: (tp 11 []))))))))), [.gone, (.box [(.d (.lit (.int .i64 0))), (.d .nil)]), (.arr 42 3 (List.length r9_0.L) (flatD enc_GRun r9_0.L)), (.box [(.d (.lit (.int .i64 r9_0.Cap))), (.own 2)])], 0⟩ ?_
    refine AWP.if_ false (by kernel_rfl) ?_
    refine AWP.skip ?_
    refine Then.normal ?_
    refine Amk 192 14 ⟨(tp 6 ((.loc 1 0) :: ((.loc 3 0) :: (tp 22 [])))), [.gone, (.box [(.d (.lit (.int .i64 0))), (.d .nil)]), (.arr 42 3 (List.length r9_0.L) (flatD enc_GRun r9_0.L)), (.box [(.d (.lit (.int .i64 r9_0.Cap))), (.own 2)])], 0⟩ ?_
    refine AWP.seq ?_
    refine AWP.text ?_
    refine Wy (.agg [(.d (.lit (.int .i64 r9_0.Cap))), (.own 2)]) [] (Old rfl) ?_
    refine Wy (.tup []) [(1, (.box [(.d (.lit (.int .i64 r9_0.Cap))), (.own 2)]))] (Ost rfl) ?_
    refine Walk.nil ?_
    refine Then.normal ?_
    refine AWP.ret ?_
    obtain rfl := Option.some.inj hm
    exact ret_i [2]

set_option maxRecDepth 20000 in
set_option maxHeartbeats 4000000 in
theorem ok_runs_Runs_Keep_1 (p0 : Int) (p1 : (List Bool)) (r : Bool) (h : m_runs_Runs_Keep_1 p0 p1 = some r) : GCall Try.prog 37 [(.d (.lit (.int .i64 p0))), (.d (.ref [(.sl (List.length p1) (flatD encB p1))]))] [] (.d (.lit (.bool r))) [] := by
  refine GCall.of_body (n := 14) (rs := [(.tmp 3)]) Try.func37 rfl rfl rfl ?_
  refine Ato ⟨((.d (.lit (.int .i64 p0))) :: ((.d (.ref [(.sl (List.length p1) (flatD encB p1))])) :: (tu 12 []))), [], 0⟩ ?_
  have hm := h
  unfold m_runs_Runs_Keep_1 at hm
  refine AWP.seq ?_
  refine AWP.text ?_
  refine Wy (.d (.lit (.bool false))) [] (Omv rfl) ?_
  refine Walk.nil ?_
  refine Then.normal ?_
  refine Amk 3 0 ⟨((.d (.lit (.int .i64 p0))) :: ((.d (.ref [(.sl (List.length p1) (flatD encB p1))])) :: (tp 12 []))), [], 0⟩ ?_
  refine AWP.seq ?_
  refine AWP.text ?_
  refine Wy (.d (.lit (.int .i64 p0))) [] (Omv rfl) ?_
  refine Wy (.d (.sl (List.length p1) (flatD encB p1))) [] (Old rfl) ?_
  refine Wy (.d (.lit (.int .i64 ((List.length p1 : Nat) : Int)))) [] (Oln rfl) ?_
  refine Wy (.d (.lit (.bool (decide (p0 < ((List.length p1 : Nat) : Int)))))) [] (Obn rfl (fun _ => hb_lss (k := .i64))) ?_
  rcases tf_ (decide (p0 < ((List.length p1 : Nat) : Int))) with hq8_0 | hq8_0
  · replace hm := cT hq8_0 hm
    refine Wy (.d (.lit (.bool true))) [] (Ocs (lit_tf (b := decide (p0 < ((List.length p1 : Nat) : Int))) hq8_0) (Omv rfl)) ?_
    refine Wy (.d (.sl (List.length p1) (flatD encB p1))) [] (Old rfl) ?_
    refine Wy (.d (.lit (.int .i64 p0))) [] (Omv rfl) ?_
    obtain ⟨x11_0, hx11_0, hm⟩ := bnd hm
    obtain ⟨hx11_0i, hx11_0g⟩ := geti_some hx11_0
    refine Wy (.d (.ref (List.drop ((Int.toNat p0) * 1) (flatD encB p1)))) [] (Oia rfl encB_len hx11_0i hx11_0g) ?_
    refine Wy (.d (.lit (.bool x11_0))) [] (Lf1 rfl encB_len hx11_0g) ?_
    refine Wy (.d (.lit (.bool x11_0))) [] (OpT rfl) ?_
    refine Wy (.d (.lit (.bool x11_0))) [] (Omv rfl) ?_
    refine Walk.nil ?_
    refine Then.normal ?_
    refine AWP.ret ?_
    obtain rfl := Option.some.inj hm
    exact ret_i []
  · replace hm := cF hq8_0 hm
    refine Wy (.d (.lit (.bool false))) [] (Ocs (lit_tf (b := decide (p0 < ((List.length p1 : Nat) : Int))) hq8_0) (Omv rfl)) ?_
    refine Wn ?_
    refine Wn ?_
    refine Wn ?_
    refine Wn ?_
    refine Wy (.d (.lit (.bool false))) [] (OpF rfl) ?_
    refine Wy (.d (.lit (.bool false))) [] (Omv rfl) ?_
    refine Walk.nil ?_
    refine Then.normal ?_
    refine AWP.ret ?_
    obtain rfl := Option.some.inj hm
    exact ret_i []

set_option maxRecDepth 20000 in
set_option maxHeartbeats 4000000 in
theorem ok_runs_Runs_filter__runs_Runs_Keep_1 (p0 : GRuns) (p1c0 : (List Bool)) (r : GRuns) (h : m_runs_Runs_filter__runs_Runs_Keep_1 p0 p1c0 = some r) : GCall Try.prog 28 [(.agg [(.d (.lit (.int .i64 p0.Cap))), (.d (.sl (List.length p0.L) (flatD enc_GRun p0.L)))]), (.clo (.func 37) [] [(.d (.ref [(.sl (List.length p1c0) (flatD encB p1c0))]))])] [] (.agg [(.d (.lit (.int .i64 r.Cap))), (.own 0)]) [(.arr 42 3 (List.length r.L) (flatD enc_GRun r.L))] := by
  refine GCall.of_body (n := 31) (rs := [(.cell 4 35)]) Try.func28 rfl rfl rfl ?_
  refine Ato ⟨((.agg [(.d (.lit (.int .i64 p0.Cap))), (.d (.sl (List.length p0.L) (flatD enc_GRun p0.L)))]) :: ((.clo (.func 37) [] [(.d (.ref [(.sl (List.length p1c0) (flatD encB p1c0))]))]) :: (tu 29 []))), [], 0⟩ ?_
  have hm := h
  unfold m_runs_Runs_filter__runs_Runs_Keep_1 at hm
  refine AWP.seq ?_
  refine AWP.text ?_
  refine Wy (.loc 0 0) [(0, (.box [(.d (.lit (.int .i64 p0.Cap))), (.d (.sl (List.length p0.L) (flatD enc_GRun p0.L)))]))] (Obx rfl) ?_
  refine Wy (.loc 1 0) [(1, (.box [(.d (.lit (.int .i64 0))), (.d .nil)]))] (Oal rfl) ?_
  refine Walk.nil ?_
  refine Then.normal ?_
  refine Amk 22 3 ⟨(tp 1 ((.clo (.func 37) [] [(.d (.ref [(.sl (List.length p1c0) (flatD encB p1c0))]))]) :: ((.loc 0 0) :: (tp 1 ((.loc 1 0) :: (tp 26 [])))))), [(.box [(.d (.lit (.int .i64 p0.Cap))), (.d (.sl (List.length p0.L) (flatD enc_GRun p0.L)))]), (.box [(.d (.lit (.int .i64 0))), (.d .nil)])], 0⟩ ?_
  refine AWP.seq ?_
  refine AWP.text ?_
  refine Wy (.loc 0 0) [] (Ofa rfl) ?_
  refine Wy (.d (.lit (.int .i64 p0.Cap))) [] (Old rfl) ?_
  refine Wy (.agg [(.d (.lit (.int .i64 p0.Cap))), (.d .nil)]) [] (Obd rfl) ?_
  refine Wy (.loc 2 0) [(2, (.box [(.d (.lit (.int .i64 0))), (.d .nil)]))] (Oal rfl) ?_
  refine Wy (.tup []) [(2, (.box [(.d (.lit (.int .i64 p0.Cap))), (.d .nil)]))] (Ost rfl) ?_
  refine Walk.nil ?_
  refine Then.normal ?_
  refine Amk 54 7 ⟨(tp 1 ((.clo (.func 37) [] [(.d (.ref [(.sl (List.length p1c0) (flatD encB p1c0))]))]) :: ((.loc 0 0) :: (tp 1 ((.loc 1 0) :: ((.loc 2 0) :: (tp 25 []))))))), [(.box [(.d (.lit (.int .i64 p0.Cap))), (.d (.sl (List.length p0.L) (flatD enc_GRun p0.L)))]), (.box [(.d (.lit (.int .i64 0))), (.d .nil)]), (.box [(.d (.lit (.int .i64 p0.Cap))), (.d .nil)])], 0⟩ ?_
  refine AWP.seq ?_
  refine AWP.seq ?_
  refine AWP.text ?_
  refine Wy (.loc 0 1) [] (Ofa rfl) ?_
  refine Wy (.d (.sl (List.length p0.L) (flatD enc_GRun p0.L))) [] (Old rfl) ?_
  refine Wy (.d (.lit (.int .i64 ((List.length p0.L : Nat) : Int)))) [] (Oln rfl) ?_
  refine Wy (.d (.lit (.int .i64 0))) [] (Omv rfl) ?_
  refine Walk.nil ?_
  refine Then.normal ?_
  refine Amk 28722 6 ⟨(tp 1 ((.clo (.func 37) [] [(.d (.ref [(.sl (List.length p1c0) (flatD encB p1c0))]))]) :: (tp 2 ((.loc 1 0) :: ((.loc 2 0) :: (tp 6 ((.d (.sl (List.length p0.L) (flatD enc_GRun p0.L))) :: ((.d (.lit (.int .i64 ((List.length p0.L : Nat) : Int)))) :: ((.d (.lit (.int .i64 0))) :: (tp 16 [])))))))))), [.gone, (.box [(.d (.lit (.int .i64 0))), (.d .nil)]), (.box [(.d (.lit (.int .i64 p0.Cap))), (.d .nil)])], 0⟩ ?_
  refine AWP.block ?_
  refine Aob 2 1 42 3 ⟨(tp 1 ((.clo (.func 37) [] [(.d (.ref [(.sl (List.length p1c0) (flatD encB p1c0))]))]) :: (tp 2 ((.loc 1 0) :: ((.loc 2 0) :: (tp 6 ((.d (.sl (List.length p0.L) (flatD enc_GRun p0.L))) :: ((.d (.lit (.int .i64 ((List.length p0.L : Nat) : Int)))) :: ((.d (.lit (.int .i64 0))) :: (tp 16 [])))))))))), [.gone, (.box [(.d (.lit (.int .i64 0))), (.d .nil)]), (.box [(.d (.lit (.int .i64 p0.Cap))), (.own 3)]), (.arr 42 3 (List.length ([] : List GRun)) (flatD enc_GRun ([] : List GRun)))], 0⟩ ?_
  refine AWP.loopI (α := Nat × (List GRun) × Int)
    (fun x => match x with | (fu_1, y5_d_1_1, y14_1) => (⟨(tp 1 ((.clo (.func 37) [] [(.d (.ref [(.sl (List.length p1c0) (flatD encB p1c0))]))]) :: (tp 2 ((.loc 0 0) :: ((.loc 1 0) :: (tp 6 ((.d (.sl (List.length p0.L) (flatD enc_GRun p0.L))) :: ((.d (.lit (.int .i64 ((List.length p0.L : Nat) : Int)))) :: ((.d (.lit (.int .i64 y14_1))) :: (tp 16 [])))))))))), [(.box [(.d (.lit (.int .i64 0))), (.d .nil)]), (.box [(.d (.lit (.int .i64 p0.Cap))), (.own 2)]), (.arr 42 3 (List.length y5_d_1_1) (flatD enc_GRun y5_d_1_1))], 0⟩ : St))
    (fun x => match x with | (fu_1, y5_d_1_1, y14_1) => m_runs_Runs_filter__runs_Runs_Keep_1_l1 p0 p1c0 fu_1 y5_d_1_1 y14_1 = some r)
    (fun x => match x with | (fu_1, y5_d_1_1, y14_1) => fu_1) (1152921504606846976, ([] : List GRun), 0)
    (Weak.toK 28722 0 0 [1, 2, 3]) hm ?_
  rintro ⟨fu_1, y5_d_1_1, y14_1⟩ n_1 hm ih_1
  try dsimp only at hm ih_1 ⊢
  cases fu_1 with
  | zero => exact absurd hm (by unfold m_runs_Runs_filter__runs_Runs_Keep_1_l1; simp)
  | succ fu_1 =>
    unfold m_runs_Runs_filter__runs_Runs_Keep_1_l1 at hm
    refine AWP.seq ?_
    refine AWP.text ?_
    refine Wy (.d (.lit (.bool (decide (y14_1 < ((List.length p0.L : Nat) : Int)))))) [] (Obn rfl (fun _ => hb_lss (k := .i64))) ?_
    refine Walk.nil ?_
    refine Then.normal ?_
    refine Amk 61490 7 ⟨(tp 1 ((.clo (.func 37) [] [(.d (.ref [(.sl (List.length p1c0) (flatD encB p1c0))]))]) :: (tp 2 ((.loc 0 0) :: ((.loc 1 0) :: (tp 6 ((.d (.sl (List.length p0.L) (flatD enc_GRun p0.L))) :: ((.d (.lit (.int .i64 ((List.length p0.L : Nat) : Int)))) :: ((.d (.lit (.int .i64 y14_1))) :: ((.d (.lit (.bool (decide (y14_1 < ((List.length p0.L : Nat) : Int)))))) :: (tp 15 []))))))))))), [(.box [(.d (.lit (.int .i64 0))), (.d .nil)]), (.box [(.d (.lit (.int .i64 p0.Cap))), (.own 2)]), (.arr 42 3 (List.length y5_d_1_1) (flatD enc_GRun y5_d_1_1))], 0⟩ ?_
    refine AWP.seq ?_
    rcases tf_ (decide (y14_1 < ((List.length p0.L : Nat) : Int))) with hc15_5 | hc15_5
    · replace hm := cT hc15_5 hm
      refine AWP.if_ true (Eq.trans (by kernel_rfl) (lit_tf (b := decide (y14_1 < ((List.length p0.L : Nat) : Int))) hc15_5)) ?_
      refine AWP.skip ?_
      refine Then.normal ?_
      refine Amk 28722 7 ⟨(tp 1 ((.clo (.func 37) [] [(.d (.ref [(.sl (List.length p1c0) (flatD encB p1c0))]))]) :: (tp 2 ((.loc 0 0) :: ((.loc 1 0) :: (tp 6 ((.d (.sl (List.length p0.L) (flatD enc_GRun p0.L))) :: ((.d (.lit (.int .i64 ((List.length p0.L : Nat) : Int)))) :: ((.d (.lit (.int .i64 y14_1))) :: (tp 16 [])))))))))), [(.box [(.d (.lit (.int .i64 0))), (.d .nil)]), (.box [(.d (.lit (.int .i64 p0.Cap))), (.own 2)]), (.arr 42 3 (List.length y5_d_1_1) (flatD enc_GRun y5_d_1_1))], 0⟩ ?_
      refine AWP.seq ?_
      refine AWP.block ?_
      refine AWP.seq ?_
      refine AWP.text ?_
      refine Wy (.d (.lit (.int .i64 y14_1))) [] (Omv rfl) ?_
      obtain ⟨x17_2, hx17_2, hm⟩ := bnd hm
      obtain ⟨hx17_2i, hx17_2g⟩ := geti_some hx17_2
      refine Wy (.d (.ref (List.drop ((Int.toNat y14_1) * 3) (flatD enc_GRun p0.L)))) [] (Oia rfl enc_GRun_len hx17_2i hx17_2g) ?_
      refine Wy (.agg [(.d (.lit (.int .i64 x17_2.Place))), (.d (.sl (List.length x17_2.Bound) (flatD enc_GPair x17_2.Bound))), (.d (.lit (.int .u32 x17_2.Broken)))]) [] (Lf rfl enc_GRun_len hx17_2g) ?_
      refine Wy (.loc 3 0) [(3, (.box [(.d (.lit (.int .i64 0))), (.d .nil), (.d (.lit (.int .u32 0)))]))] (Oal rfl) ?_
      refine Wy (.d (.lit (.int .i64 y14_1))) [] (Omv rfl) ?_
      refine Wy (.tup []) [(3, (.box [(.d (.lit (.int .i64 x17_2.Place))), (.d (.sl (List.length x17_2.Bound) (flatD enc_GPair x17_2.Bound))), (.d (.lit (.int .u32 x17_2.Broken)))]))] (Ost rfl) ?_
      refine Walk.nil ?_
      refine Then.normal ?_
      refine Amk 28914 15 ⟨(tp 1 ((.clo (.func 37) [] [(.d (.ref [(.sl (List.length p1c0) (flatD encB p1c0))]))]) :: (tp 2 ((.loc 0 0) :: ((.loc 1 0) :: ((.d (.lit (.int .i64 y14_1))) :: ((.loc 3 0) :: (tp 4 ((.d (.sl (List.length p0.L) (flatD enc_GRun p0.L))) :: ((.d (.lit (.int .i64 ((List.length p0.L : Nat) : Int)))) :: ((.d (.lit (.int .i64 y14_1))) :: (tp 16 [])))))))))))), [(.box [(.d (.lit (.int .i64 0))), (.d .nil)]), (.box [(.d (.lit (.int .i64 p0.Cap))), (.own 2)]), (.arr 42 3 (List.length y5_d_1_1) (flatD enc_GRun y5_d_1_1)), (.box [(.d (.lit (.int .i64 x17_2.Place))), (.d (.sl (List.length x17_2.Bound) (flatD enc_GPair x17_2.Bound))), (.d (.lit (.int .u32 x17_2.Broken)))])], 0⟩ ?_
      refine AWP.seq ?_
      refine AWP.text ?_
      refine Wy (.clo (.func 37) [] [(.d (.ref [(.sl (List.length p1c0) (flatD encB p1c0))]))]) [] (Omv rfl) ?_
      refine Wy (.d (.lit (.int .i64 y14_1))) [] (Omv rfl) ?_
      obtain ⟨r21_3, hr21_3, hm⟩ := bnd hm
      refine Wy (.d (.lit (.bool r21_3))) [] (Ocf [] [] [] 0 (ok_runs_Runs_Keep_1 y14_1 p1c0 r21_3 hr21_3) (fun a w => Try.call37 a w) rfl trivial) ?_
      refine Walk.nil ?_
      refine Then.normal ?_
      refine Amk 2126002 15 ⟨(tp 1 ((.clo (.func 37) [] [(.d (.ref [(.sl (List.length p1c0) (flatD encB p1c0))]))]) :: (tp 2 ((.loc 0 0) :: ((.loc 1 0) :: (tp 1 ((.loc 3 0) :: (tp 4 ((.d (.sl (List.length p0.L) (flatD enc_GRun p0.L))) :: ((.d (.lit (.int .i64 ((List.length p0.L : Nat) : Int)))) :: ((.d (.lit (.int .i64 y14_1))) :: (tp 6 ((.d (.lit (.bool r21_3))) :: (tp 9 [])))))))))))))), [(.box [(.d (.lit (.int .i64 0))), (.d .nil)]), (.box [(.d (.lit (.int .i64 p0.Cap))), (.own 2)]), (.arr 42 3 (List.length y5_d_1_1) (flatD enc_GRun y5_d_1_1)), (.box [(.d (.lit (.int .i64 x17_2.Place))), (.d (.sl (List.length x17_2.Bound) (flatD enc_GPair x17_2.Bound))), (.d (.lit (.int .u32 x17_2.Broken)))])], 0⟩ ?_
      rcases tf_ r21_3 with hc21_6 | hc21_6
      · replace hm := cT hc21_6 hm
        refine AWP.if_ true (Eq.trans (by kernel_rfl) (lit_tf (b := r21_3) hc21_6)) ?_
        refine Adr ?_
        refine Wy (.loc 1 1) [] (Ofa rfl) ?_
        refine Wy (.own 2) [] (Old rfl) ?_
        refine Wy (.agg [(.d (.lit (.int .i64 x17_2.Place))), (.d (.sl (List.length x17_2.Bound) (flatD enc_GPair x17_2.Bound))), (.d (.lit (.int .u32 x17_2.Broken)))]) [] (Old rfl) ?_
        obtain ⟨r25_4, hr25_4, hm⟩ := bnd hm
        refine Wy (.agg [(.d (.lit (.int .i64 r25_4.Place))), (.d (.sl (List.length r25_4.Bound) (flatD enc_GPair r25_4.Bound))), (.d (.lit (.int .u32 r25_4.Broken)))]) [(4, (.arr 93 6 (List.length r25_4.Bound) (flatD enc_GPair r25_4.Bound))), (4, (.fro 93 6 (List.length r25_4.Bound) (flatD enc_GPair r25_4.Bound)))] (Ofz [4] (.agg [(.d (.lit (.int .i64 r25_4.Place))), (.own 4), (.d (.lit (.int .u32 r25_4.Broken)))]) [(4, (.arr 93 6 (List.length r25_4.Bound) (flatD enc_GPair r25_4.Bound)))] (Ocf [] [4] [] 0 (ok_runs_clone x17_2 r25_4 hr25_4) (fun a w => Try.call32 a w) rfl trivial)) ?_
        refine Wy (.own 5) [(5, (.arr 42 3 (List.length ([r25_4] : List GRun)) (flatD enc_GRun ([r25_4] : List GRun))))] (Obs rfl) ?_
        obtain ⟨a27_4, ha27_4, hm⟩ := bnd hm; obtain ⟨ha27_4e, ha27_4l⟩ := app_some ha27_4
        refine Wy (.own 6) [(2, .gone), (6, (.arr 42 3 (List.length a27_4) (flatD enc_GRun a27_4)))] (Oap rfl elemOK_33 enc_GRun_len ha27_4e ha27_4l) ?_
        refine Wy (.loc 1 1) [] (Ofa rfl) ?_
        refine Wy (.tup []) [(1, (.box [(.d (.lit (.int .i64 p0.Cap))), (.own 6)]))] (Ost rfl) ?_
        refine Wdr ?_
        refine InBlock.normal ?_
        refine Then.normal ?_
        refine Amk 28722 67 ⟨(tp 1 ((.clo (.func 37) [] [(.d (.ref [(.sl (List.length p1c0) (flatD encB p1c0))]))]) :: (tp 2 ((.loc 0 0) :: ((.loc 1 0) :: (tp 6 ((.d (.sl (List.length p0.L) (flatD enc_GRun p0.L))) :: ((.d (.lit (.int .i64 ((List.length p0.L : Nat) : Int)))) :: ((.d (.lit (.int .i64 y14_1))) :: (tp 16 [])))))))))), [(.box [(.d (.lit (.int .i64 0))), (.d .nil)]), (.box [(.d (.lit (.int .i64 p0.Cap))), (.own 6)]), .gone, .gone, .gone, .gone, (.arr 42 3 (List.length a27_4) (flatD enc_GRun a27_4))], 0⟩ ?_
        refine AWP.text ?_
        refine Wy (.d (.lit (.int .i64 (IntKind.i64.wrap (y14_1 + 1))))) [] (Obn rfl (fun _ => hb_add (k := .i64))) ?_
        refine Wy (.d (.lit (.int .i64 (IntKind.i64.wrap (y14_1 + 1))))) [] (Omv rfl) ?_
        refine Walk.nil ?_
        refine RoundK.normal ?_
        exact Rounds.weak (Weak.toK 28722 0 0 [0, 1, 6]) (ih_1 (fu_1, a27_4, (IntKind.i64.wrap (y14_1 + 1))) hm (Nat.lt_succ_self _))
      · replace hm := cF hc21_6 hm
        refine AWP.if_ false (Eq.trans (by kernel_rfl) (lit_tf (b := r21_3) hc21_6)) ?_
        refine AWP.skip ?_
        refine InBlock.normal ?_
        refine Then.normal ?_
        refine Amk 28722 7 ⟨(tp 1 ((.clo (.func 37) [] [(.d (.ref [(.sl (List.length p1c0) (flatD encB p1c0))]))]) :: (tp 2 ((.loc 0 0) :: ((.loc 1 0) :: (tp 6 ((.d (.sl (List.length p0.L) (flatD enc_GRun p0.L))) :: ((.d (.lit (.int .i64 ((List.length p0.L : Nat) : Int)))) :: ((.d (.lit (.int .i64 y14_1))) :: (tp 16 [])))))))))), [(.box [(.d (.lit (.int .i64 0))), (.d .nil)]), (.box [(.d (.lit (.int .i64 p0.Cap))), (.own 2)]), (.arr 42 3 (List.length y5_d_1_1) (flatD enc_GRun y5_d_1_1)), .gone], 0⟩ ?_
        refine AWP.text ?_
        refine Wy (.d (.lit (.int .i64 (IntKind.i64.wrap (y14_1 + 1))))) [] (Obn rfl (fun _ => hb_add (k := .i64))) ?_
        refine Wy (.d (.lit (.int .i64 (IntKind.i64.wrap (y14_1 + 1))))) [] (Omv rfl) ?_
        refine Walk.nil ?_
        refine RoundK.normal ?_
        exact Rounds.weak (Weak.toK 28722 0 0 [0, 1, 2]) (ih_1 (fu_1, y5_d_1_1, (IntKind.i64.wrap (y14_1 + 1))) hm (Nat.lt_succ_self _))
    · replace hm := cF hc15_5 hm
      refine AWP.if_ false (Eq.trans (by kernel_rfl) (lit_tf (b := decide (y14_1 < ((List.length p0.L : Nat) : Int))) hc15_5)) ?_
      refine AWP.exit ?_
      refine Then.exit ?_
      refine RoundK.exit ?_
      refine InBlock.same ?_
      refine Then.normal ?_
      refine Amk 48 7 ⟨(tp 4 ((.loc 0 0) :: ((.loc 1 0) :: (tp 25 [])))), [(.box [(.d (.lit (.int .i64 0))), (.d .nil)]), (.box [(.d (.lit (.int .i64 p0.Cap))), (.own 2)]), (.arr 42 3 (List.length y5_d_1_1) (flatD enc_GRun y5_d_1_1))], 0⟩ ?_
      refine AWP.seq ?_
      refine AWP.text ?_
      refine Wy (.agg [(.d (.lit (.int .i64 p0.Cap))), (.own 2)]) [] (Old rfl) ?_
      refine Wy (.tup []) [(0, (.box [(.d (.lit (.int .i64 p0.Cap))), (.own 2)]))] (Ost rfl) ?_
      refine Walk.nil ?_
      refine Then.normal ?_
      refine AWP.ret ?_
      obtain rfl := Option.some.inj hm
      exact ret_i [2]

set_option maxRecDepth 20000 in
set_option maxHeartbeats 4000000 in
theorem ok_runs_Runs_Keep (p0 : GRuns) (p1 : (List Bool)) (r : GRuns) (h : m_runs_Runs_Keep p0 p1 = some r) : GCall Try.prog 16 [(.agg [(.d (.lit (.int .i64 p0.Cap))), (.d (.sl (List.length p0.L) (flatD enc_GRun p0.L)))]), (.d (.sl (List.length p1) (flatD encB p1)))] [] (.agg [(.d (.lit (.int .i64 r.Cap))), (.own 0)]) [(.arr 42 3 (List.length r.L) (flatD enc_GRun r.L))] := by
  refine GCall.of_body (n := 8) (rs := [(.cell 4 35)]) Try.func16 rfl rfl rfl ?_
  refine Ato ⟨((.agg [(.d (.lit (.int .i64 p0.Cap))), (.d (.sl (List.length p0.L) (flatD enc_GRun p0.L)))]) :: ((.d (.sl (List.length p1) (flatD encB p1))) :: (tu 6 []))), [], 0⟩ ?_
  have hm := h
  unfold m_runs_Runs_Keep at hm
  refine AWP.seq ?_
  refine AWP.text ?_
  refine Wy (.loc 0 0) [(0, (.box [(.d (.lit (.int .i64 p0.Cap))), (.d (.sl (List.length p0.L) (flatD enc_GRun p0.L)))]))] (Obx rfl) ?_
  refine Wy (.loc 1 0) [(1, (.box [(.d (.sl (List.length p1) (flatD encB p1)))]))] (Obx rfl) ?_
  refine Wy (.loc 2 0) [(2, (.box [(.d (.lit (.int .i64 0))), (.d .nil)]))] (Oal rfl) ?_
  refine Walk.nil ?_
  refine Then.normal ?_
  refine Amk 28 7 ⟨(tp 2 ((.loc 0 0) :: ((.loc 1 0) :: ((.loc 2 0) :: (tp 3 []))))), [(.box [(.d (.lit (.int .i64 p0.Cap))), (.d (.sl (List.length p0.L) (flatD enc_GRun p0.L)))]), (.box [(.d (.sl (List.length p1) (flatD encB p1)))]), (.box [(.d (.lit (.int .i64 0))), (.d .nil)])], 0⟩ ?_
  refine AWP.seq ?_
  refine AWP.text ?_
  refine Wy (.agg [(.d (.lit (.int .i64 p0.Cap))), (.d (.sl (List.length p0.L) (flatD enc_GRun p0.L)))]) [] (Old rfl) ?_
  refine Wy (.clo (.func 37) [] [(.loc 1 0)]) [] (Ocs (by kernel_rfl) (op_mkfn rfl)) ?_
  obtain ⟨r7_0, hr7_0, hm⟩ := bnd hm
  refine Wy (.agg [(.d (.lit (.int .i64 r7_0.Cap))), (.own 3)]) [(3, (.arr 42 3 (List.length r7_0.L) (flatD enc_GRun r7_0.L))), (1, .gone)] (Ocf [] [3] [1] 0 (ok_runs_Runs_filter__runs_Runs_Keep_1 p0 p1 r7_0 hr7_0) (fun a w => Try.call28 a w) rfl trivial) ?_
  refine Wy (.tup []) [(2, (.box [(.d (.lit (.int .i64 r7_0.Cap))), (.own 3)]))] (Ost rfl) ?_
  refine Walk.nil ?_
  refine Then.normal ?_
  refine AWP.ret ?_
  obtain rfl := Option.some.inj hm
  exact ret_i [3]

set_option maxRecDepth 20000 in
set_option maxHeartbeats 4000000 in
theorem ok_runs_Same_1 (p0 : GRun) (p1 : GRun) (r : Bool) (h : m_runs_Same_1 p0 p1 = some r) : GCall Try.prog 41 [(.agg [(.d (.lit (.int .i64 p0.Place))), (.d (.sl (List.length p0.Bound) (flatD enc_GPair p0.Bound))), (.d (.lit (.int .u32 p0.Broken)))]), (.agg [(.d (.lit (.int .i64 p1.Place))), (.d (.sl (List.length p1.Bound) (flatD enc_GPair p1.Bound))), (.d (.lit (.int .u32 p1.Broken)))])] [] (.d (.lit (.bool r))) [] := by
  refine GCall.of_body (n := 15) (rs := [(.tmp 4)]) Try.func41 rfl rfl rfl ?_
  refine Ato ⟨((.agg [(.d (.lit (.int .i64 p0.Place))), (.d (.sl (List.length p0.Bound) (flatD enc_GPair p0.Bound))), (.d (.lit (.int .u32 p0.Broken)))]) :: ((.agg [(.d (.lit (.int .i64 p1.Place))), (.d (.sl (List.length p1.Bound) (flatD enc_GPair p1.Bound))), (.d (.lit (.int .u32 p1.Broken)))]) :: (tu 13 []))), [], 0⟩ ?_
  have hm := h
  unfold m_runs_Same_1 at hm
  refine AWP.seq ?_
  refine AWP.text ?_
  refine Wy (.loc 0 0) [(0, (.box [(.d (.lit (.int .i64 p0.Place))), (.d (.sl (List.length p0.Bound) (flatD enc_GPair p0.Bound))), (.d (.lit (.int .u32 p0.Broken)))]))] (Obx rfl) ?_
  refine Wy (.loc 1 0) [(1, (.box [(.d (.lit (.int .i64 p1.Place))), (.d (.sl (List.length p1.Bound) (flatD enc_GPair p1.Bound))), (.d (.lit (.int .u32 p1.Broken)))]))] (Obx rfl) ?_
  refine Wy (.d (.lit (.bool false))) [] (Omv rfl) ?_
  refine Walk.nil ?_
  refine Then.normal ?_
  refine Amk 12 3 ⟨(tp 2 ((.loc 0 0) :: ((.loc 1 0) :: (tp 11 [])))), [(.box [(.d (.lit (.int .i64 p0.Place))), (.d (.sl (List.length p0.Bound) (flatD enc_GPair p0.Bound))), (.d (.lit (.int .u32 p0.Broken)))]), (.box [(.d (.lit (.int .i64 p1.Place))), (.d (.sl (List.length p1.Bound) (flatD enc_GPair p1.Bound))), (.d (.lit (.int .u32 p1.Broken)))])], 0⟩ ?_
  refine AWP.seq ?_
  refine AWP.text ?_
  refine Wy (.agg [(.d (.lit (.int .i64 p0.Place))), (.d (.sl (List.length p0.Bound) (flatD enc_GPair p0.Bound))), (.d (.lit (.int .u32 p0.Broken)))]) [] (Old rfl) ?_
  refine Wy (.agg [(.d (.lit (.int .i64 p1.Place))), (.d (.sl (List.length p1.Bound) (flatD enc_GPair p1.Bound))), (.d (.lit (.int .u32 p1.Broken)))]) [] (Old rfl) ?_
  obtain ⟨r7_0, hr7_0, hm⟩ := bnd hm
  refine Wy (.d (.lit (.bool r7_0))) [] (Ocf [] [] [] 0 (ok_runs_Run_twin p0 p1 r7_0 hr7_0) (fun a w => Try.call31 a w) rfl trivial) ?_
  rcases tf_ r7_0 with hq8_0 | hq8_0
  · replace hm := cT hq8_0 hm
    refine Wy (.d (.lit (.bool true))) [] (Ocs (lit_tf (b := r7_0) hq8_0) (Omv rfl)) ?_
    refine Wy (.loc 0 2) [] (Ofa rfl) ?_
    refine Wy (.d (.lit (.int .u32 p0.Broken))) [] (Old rfl) ?_
    refine Wy (.loc 1 2) [] (Ofa rfl) ?_
    refine Wy (.d (.lit (.int .u32 p1.Broken))) [] (Old rfl) ?_
    refine Wy (.d (.lit (.bool (decide (p0.Broken = p1.Broken))))) [] (Obn rfl (fun _ => hb_eql (k := .u32))) ?_
    refine Wy (.d (.lit (.bool (decide (p0.Broken = p1.Broken))))) [] (OpT rfl) ?_
    refine Wy (.d (.lit (.bool (decide (p0.Broken = p1.Broken))))) [] (Omv rfl) ?_
    refine Walk.nil ?_
    refine Then.normal ?_
    refine AWP.ret ?_
    obtain rfl := Option.some.inj hm
    exact ret_i []
  · replace hm := cF hq8_0 hm
    refine Wy (.d (.lit (.bool false))) [] (Ocs (lit_tf (b := r7_0) hq8_0) (Omv rfl)) ?_
    refine Wn ?_
    refine Wn ?_
    refine Wn ?_
    refine Wn ?_
    refine Wn ?_
    refine Wy (.d (.lit (.bool false))) [] (OpF rfl) ?_
    refine Wy (.d (.lit (.bool false))) [] (Omv rfl) ?_
    refine Walk.nil ?_
    refine Then.normal ?_
    refine AWP.ret ?_
    obtain rfl := Option.some.inj hm
    exact ret_i []

set_option maxRecDepth 20000 in
set_option maxHeartbeats 4000000 in
theorem ok_slices_EqualFunc_Runruns_Run_runs_Run_runs_Run__runs_Same_1 (p0 : (List GRun)) (p1 : (List GRun)) (r : Bool) (h : m_slices_EqualFunc_Runruns_Run_runs_Run_runs_Run__runs_Same_1 p0 p1 = some r) : GCall Try.prog 40 [(.d (.sl (List.length p0) (flatD enc_GRun p0))), (.d (.sl (List.length p1) (flatD enc_GRun p1))), (.clo (.func 41) [] [])] [] (.d (.lit (.bool r))) [] := by
  refine GCall.of_body (n := 32) (rs := [(.tmp 6)]) Try.func40 rfl rfl rfl ?_
  refine Ato ⟨((.d (.sl (List.length p0) (flatD enc_GRun p0))) :: ((.d (.sl (List.length p1) (flatD enc_GRun p1))) :: ((.clo (.func 41) [] []) :: (tu 29 [])))), [], 0⟩ ?_
  have hm := h
  unfold m_slices_EqualFunc_Runruns_Run_runs_Run_runs_Run__runs_Same_1 at hm
  refine AWP.seq ?_
  refine AWP.text ?_
  refine Wy (.d (.lit (.bool false))) [] (Omv rfl) ?_
  refine Walk.nil ?_
  refine Then.normal ?_
  refine Amk 7 0 ⟨((.d (.sl (List.length p0) (flatD enc_GRun p0))) :: ((.d (.sl (List.length p1) (flatD enc_GRun p1))) :: ((.clo (.func 41) [] []) :: (tp 29 [])))), [], 0⟩ ?_
  refine AWP.seq ?_
  refine AWP.seq ?_
  refine AWP.text ?_
  refine Wy (.d (.sl (List.length p0) (flatD enc_GRun p0))) [] (Omv rfl) ?_
  refine Wy (.d (.lit (.int .i64 ((List.length p0 : Nat) : Int)))) [] (Oln rfl) ?_
  refine Wy (.d (.sl (List.length p1) (flatD enc_GRun p1))) [] (Omv rfl) ?_
  refine Wy (.d (.lit (.int .i64 ((List.length p1 : Nat) : Int)))) [] (Oln rfl) ?_
  refine Wy (.d (.lit (.bool (decide (((List.length p0 : Nat) : Int) ≠ ((List.length p1 : Nat) : Int)))))) [] (Obn rfl (fun _ => hb_neq (k := .i64))) ?_
  refine Walk.nil ?_
  refine Then.normal ?_
  refine Amk 16391 0 ⟨((.d (.sl (List.length p0) (flatD enc_GRun p0))) :: ((.d (.sl (List.length p1) (flatD enc_GRun p1))) :: ((.clo (.func 41) [] []) :: (tp 11 ((.d (.lit (.bool (decide (((List.length p0 : Nat) : Int) ≠ ((List.length p1 : Nat) : Int)))))) :: (tp 17 [])))))), [], 0⟩ ?_
  rcases tf_ (decide (((List.length p0 : Nat) : Int) ≠ ((List.length p1 : Nat) : Int))) with hc14_6 | hc14_6
  · replace hm := cT hc14_6 hm
    refine AWP.if_ true (Eq.trans (by kernel_rfl) (lit_tf (b := decide (((List.length p0 : Nat) : Int) ≠ ((List.length p1 : Nat) : Int))) hc14_6)) ?_
    refine AWP.seq ?_
    refine AWP.text ?_
    refine Wy (.d (.lit (.bool false))) [] (Omv rfl) ?_
    refine Walk.nil ?_
    refine Then.normal ?_
    refine AWP.ret ?_
    refine Then.ret ?_
    obtain rfl := Option.some.inj hm
    exact ret_i []
  · replace hm := cF hc14_6 hm
    refine AWP.if_ false (Eq.trans (by kernel_rfl) (lit_tf (b := decide (((List.length p0 : Nat) : Int) ≠ ((List.length p1 : Nat) : Int))) hc14_6)) ?_
    refine AWP.skip ?_
    refine Then.normal ?_
    refine Amk 7 0 ⟨((.d (.sl (List.length p0) (flatD enc_GRun p0))) :: ((.d (.sl (List.length p1) (flatD enc_GRun p1))) :: ((.clo (.func 41) [] []) :: (tp 29 [])))), [], 0⟩ ?_
    refine AWP.seq ?_
    refine AWP.seq ?_
    refine AWP.text ?_
    refine Wy (.d (.sl (List.length p0) (flatD enc_GRun p0))) [] (Omv rfl) ?_
    refine Wy (.d (.lit (.int .i64 ((List.length p0 : Nat) : Int)))) [] (Oln rfl) ?_
    refine Wy (.d (.lit (.int .i64 0))) [] (Omv rfl) ?_
    refine Walk.nil ?_
    refine Then.normal ?_
    refine Amk 229382 0 ⟨(tp 1 ((.d (.sl (List.length p1) (flatD enc_GRun p1))) :: ((.clo (.func 41) [] []) :: (tp 12 ((.d (.sl (List.length p0) (flatD enc_GRun p0))) :: ((.d (.lit (.int .i64 ((List.length p0 : Nat) : Int)))) :: ((.d (.lit (.int .i64 0))) :: (tp 14 [])))))))), [], 0⟩ ?_
    refine AWP.block ?_
    refine AWP.loopI (α := Nat × Int)
      (fun x => match x with | (fu_2, y17_2) => (⟨(tp 1 ((.d (.sl (List.length p1) (flatD enc_GRun p1))) :: ((.clo (.func 41) [] []) :: (tp 12 ((.d (.sl (List.length p0) (flatD enc_GRun p0))) :: ((.d (.lit (.int .i64 ((List.length p0 : Nat) : Int)))) :: ((.d (.lit (.int .i64 y17_2))) :: (tp 14 [])))))))), [], 0⟩ : St))
      (fun x => match x with | (fu_2, y17_2) => m_slices_EqualFunc_Runruns_Run_runs_Run_runs_Run__runs_Same_1_l2 p0 p1 fu_2 y17_2 = some r)
      (fun x => match x with | (fu_2, y17_2) => fu_2) (1152921504606846976, 0)
      (Weak.toK 229382 0 0 []) hm ?_
    rintro ⟨fu_2, y17_2⟩ n_2 hm ih_2
    try dsimp only at hm ih_2 ⊢
    cases fu_2 with
    | zero => exact absurd hm (by unfold m_slices_EqualFunc_Runruns_Run_runs_Run_runs_Run__runs_Same_1_l2; simp)
    | succ fu_2 =>
      unfold m_slices_EqualFunc_Runruns_Run_runs_Run_runs_Run__runs_Same_1_l2 at hm
      refine AWP.seq ?_
      refine AWP.text ?_
      refine Wy (.d (.lit (.bool (decide (y17_2 < ((List.length p0 : Nat) : Int)))))) [] (Obn rfl (fun _ => hb_lss (k := .i64))) ?_
      refine Walk.nil ?_
      refine Then.normal ?_
      refine Amk 491526 0 ⟨(tp 1 ((.d (.sl (List.length p1) (flatD enc_GRun p1))) :: ((.clo (.func 41) [] []) :: (tp 12 ((.d (.sl (List.length p0) (flatD enc_GRun p0))) :: ((.d (.lit (.int .i64 ((List.length p0 : Nat) : Int)))) :: ((.d (.lit (.int .i64 y17_2))) :: ((.d (.lit (.bool (decide (y17_2 < ((List.length p0 : Nat) : Int)))))) :: (tp 13 []))))))))), [], 0⟩ ?_
      refine AWP.seq ?_
      rcases tf_ (decide (y17_2 < ((List.length p0 : Nat) : Int))) with hc18_7 | hc18_7
      · replace hm := cT hc18_7 hm
        refine AWP.if_ true (Eq.trans (by kernel_rfl) (lit_tf (b := decide (y17_2 < ((List.length p0 : Nat) : Int))) hc18_7)) ?_
        refine AWP.skip ?_
        refine Then.normal ?_
        refine Amk 229382 0 ⟨(tp 1 ((.d (.sl (List.length p1) (flatD enc_GRun p1))) :: ((.clo (.func 41) [] []) :: (tp 12 ((.d (.sl (List.length p0) (flatD enc_GRun p0))) :: ((.d (.lit (.int .i64 ((List.length p0 : Nat) : Int)))) :: ((.d (.lit (.int .i64 y17_2))) :: (tp 14 [])))))))), [], 0⟩ ?_
        refine AWP.seq ?_
        refine AWP.block ?_
        refine AWP.seq ?_
        refine AWP.text ?_
        refine Wy (.d (.lit (.int .i64 y17_2))) [] (Omv rfl) ?_
        obtain ⟨x20_3, hx20_3, hm⟩ := bnd hm
        obtain ⟨hx20_3i, hx20_3g⟩ := geti_some hx20_3
        refine Wy (.d (.ref (List.drop ((Int.toNat y17_2) * 3) (flatD enc_GRun p0)))) [] (Oia rfl enc_GRun_len hx20_3i hx20_3g) ?_
        refine Wy (.agg [(.d (.lit (.int .i64 x20_3.Place))), (.d (.sl (List.length x20_3.Bound) (flatD enc_GPair x20_3.Bound))), (.d (.lit (.int .u32 x20_3.Broken)))]) [] (Lf rfl enc_GRun_len hx20_3g) ?_
        refine Wy (.loc 0 0) [(0, (.box [(.d (.lit (.int .i64 0))), (.d .nil), (.d (.lit (.int .u32 0)))]))] (Oal rfl) ?_
        refine Wy (.d (.lit (.int .i64 y17_2))) [] (Omv rfl) ?_
        refine Wy (.tup []) [(0, (.box [(.d (.lit (.int .i64 x20_3.Place))), (.d (.sl (List.length x20_3.Bound) (flatD enc_GPair x20_3.Bound))), (.d (.lit (.int .u32 x20_3.Broken)))]))] (Ost rfl) ?_
        refine Walk.nil ?_
        refine Then.normal ?_
        refine Amk 229766 1 ⟨(tp 1 ((.d (.sl (List.length p1) (flatD enc_GRun p1))) :: ((.clo (.func 41) [] []) :: (tp 4 ((.d (.lit (.int .i64 y17_2))) :: ((.loc 0 0) :: (tp 6 ((.d (.sl (List.length p0) (flatD enc_GRun p0))) :: ((.d (.lit (.int .i64 ((List.length p0 : Nat) : Int)))) :: ((.d (.lit (.int .i64 y17_2))) :: (tp 14 []))))))))))), [(.box [(.d (.lit (.int .i64 x20_3.Place))), (.d (.sl (List.length x20_3.Bound) (flatD enc_GPair x20_3.Bound))), (.d (.lit (.int .u32 x20_3.Broken)))])], 0⟩ ?_
        refine AWP.seq ?_
        refine AWP.text ?_
        refine Wy (.d (.sl (List.length p1) (flatD enc_GRun p1))) [] (Omv rfl) ?_
        refine Wy (.d (.lit (.int .i64 y17_2))) [] (Omv rfl) ?_
        obtain ⟨x24_4, hx24_4, hm⟩ := bnd hm
        obtain ⟨hx24_4i, hx24_4g⟩ := geti_some hx24_4
        refine Wy (.d (.ref (List.drop ((Int.toNat y17_2) * 3) (flatD enc_GRun p1)))) [] (Oia rfl enc_GRun_len hx24_4i hx24_4g) ?_
        refine Wy (.agg [(.d (.lit (.int .i64 x24_4.Place))), (.d (.sl (List.length x24_4.Bound) (flatD enc_GPair x24_4.Bound))), (.d (.lit (.int .u32 x24_4.Broken)))]) [] (Lf rfl enc_GRun_len hx24_4g) ?_
        refine Wy (.loc 1 0) [(1, (.box [(.d (.lit (.int .i64 0))), (.d .nil), (.d (.lit (.int .u32 0)))]))] (Oal rfl) ?_
        refine Wy (.tup []) [(1, (.box [(.d (.lit (.int .i64 x24_4.Place))), (.d (.sl (List.length x24_4.Bound) (flatD enc_GPair x24_4.Bound))), (.d (.lit (.int .u32 x24_4.Broken)))]))] (Ost rfl) ?_
        refine Walk.nil ?_
        refine Then.normal ?_
        refine Amk 230150 3 ⟨(tp 1 ((.d (.sl (List.length p1) (flatD enc_GRun p1))) :: ((.clo (.func 41) [] []) :: (tp 5 ((.loc 0 0) :: ((.loc 1 0) :: (tp 5 ((.d (.sl (List.length p0) (flatD enc_GRun p0))) :: ((.d (.lit (.int .i64 ((List.length p0 : Nat) : Int)))) :: ((.d (.lit (.int .i64 y17_2))) :: (tp 14 []))))))))))), [(.box [(.d (.lit (.int .i64 x20_3.Place))), (.d (.sl (List.length x20_3.Bound) (flatD enc_GPair x20_3.Bound))), (.d (.lit (.int .u32 x20_3.Broken)))]), (.box [(.d (.lit (.int .i64 x24_4.Place))), (.d (.sl (List.length x24_4.Bound) (flatD enc_GPair x24_4.Bound))), (.d (.lit (.int .u32 x24_4.Broken)))])], 0⟩ ?_
        refine AWP.seq ?_
        refine AWP.text ?_
        refine Wy (.clo (.func 41) [] []) [] (Omv rfl) ?_
        refine Wy (.agg [(.d (.lit (.int .i64 x20_3.Place))), (.d (.sl (List.length x20_3.Bound) (flatD enc_GPair x20_3.Bound))), (.d (.lit (.int .u32 x20_3.Broken)))]) [] (Old rfl) ?_
        refine Wy (.agg [(.d (.lit (.int .i64 x24_4.Place))), (.d (.sl (List.length x24_4.Bound) (flatD enc_GPair x24_4.Bound))), (.d (.lit (.int .u32 x24_4.Broken)))]) [] (Old rfl) ?_
        obtain ⟨r29_5, hr29_5, hm⟩ := bnd hm
        refine Wy (.d (.lit (.bool r29_5))) [] (Ocf [] [] [] 0 (ok_runs_Same_1 x20_3 x24_4 r29_5 hr29_5) (fun a w => Try.call41 a w) rfl trivial) ?_
        refine Wy (.d (.lit (.bool (!r29_5)))) [] (Ocs (by kernel_rfl) (op_un rfl (a1 := .bool r29_5) (by kernel_rfl) (fun _ => hu_not))) ?_
        refine Walk.nil ?_
        refine Then.normal ?_
        refine Amk 1073971206 0 ⟨(tp 1 ((.d (.sl (List.length p1) (flatD enc_GRun p1))) :: ((.clo (.func 41) [] []) :: (tp 12 ((.d (.sl (List.length p0) (flatD enc_GRun p0))) :: ((.d (.lit (.int .i64 ((List.length p0 : Nat) : Int)))) :: ((.d (.lit (.int .i64 y17_2))) :: (tp 12 ((.d (.lit (.bool (!r29_5)))) :: (tp 1 [])))))))))), [.gone, .gone], 0⟩ ?_
        rcases tf_ (!r29_5) with hc30_8 | hc30_8
        · replace hm := cT hc30_8 hm
          refine AWP.if_ true (Eq.trans (by kernel_rfl) (lit_tf (b := (!r29_5)) hc30_8)) ?_
          refine AWP.seq ?_
          refine AWP.text ?_
          refine Wy (.d (.lit (.bool false))) [] (Omv rfl) ?_
          refine Walk.nil ?_
          refine Then.normal ?_
          refine AWP.ret ?_
          refine InBlock.ret ?_
          refine Then.ret ?_
          refine RoundK.ret ?_
          refine InBlock.ret ?_
          refine Then.ret ?_
          obtain rfl := Option.some.inj hm
          exact ret_i []
        · replace hm := cF hc30_8 hm
          refine AWP.if_ false (Eq.trans (by kernel_rfl) (lit_tf (b := (!r29_5)) hc30_8)) ?_
          refine AWP.skip ?_
          refine InBlock.normal ?_
          refine Then.normal ?_
          refine Amk 229382 0 ⟨(tp 1 ((.d (.sl (List.length p1) (flatD enc_GRun p1))) :: ((.clo (.func 41) [] []) :: (tp 12 ((.d (.sl (List.length p0) (flatD enc_GRun p0))) :: ((.d (.lit (.int .i64 ((List.length p0 : Nat) : Int)))) :: ((.d (.lit (.int .i64 y17_2))) :: (tp 14 [])))))))), [.gone, .gone], 0⟩ ?_
          refine AWP.text ?_
          refine Wy (.d (.lit (.int .i64 (IntKind.i64.wrap (y17_2 + 1))))) [] (Obn rfl (fun _ => hb_add (k := .i64))) ?_
          refine Wy (.d (.lit (.int .i64 (IntKind.i64.wrap (y17_2 + 1))))) [] (Omv rfl) ?_
          refine Walk.nil ?_
          refine RoundK.normal ?_
          exact Rounds.weak (Weak.toK 229382 0 0 []) (ih_2 (fu_2, (IntKind.i64.wrap (y17_2 + 1))) hm (Nat.lt_succ_self _))
      · replace hm := cF hc18_7 hm
        refine AWP.if_ false (Eq.trans (by kernel_rfl) (lit_tf (b := decide (y17_2 < ((List.length p0 : Nat) : Int))) hc18_7)) ?_
        refine AWP.exit ?_
        refine Then.exit ?_
        refine RoundK.exit ?_
        refine InBlock.same ?_
        refine Then.normal ?_
        refine Amk 0 0 ⟨(tp 32 []), [], 0⟩ ?_
        refine AWP.seq ?_
        refine AWP.text ?_
        refine Wy (.d (.lit (.bool true))) [] (Omv rfl) ?_
        refine Walk.nil ?_
        refine Then.normal ?_
        refine AWP.ret ?_
        obtain rfl := Option.some.inj hm
        exact ret_i []

set_option maxRecDepth 20000 in
set_option maxHeartbeats 4000000 in
theorem ok_runs_Same (p0 : GRuns) (p1 : GRuns) (r : Bool) (h : m_runs_Same p0 p1 = some r) : GCall Try.prog 22 [(.agg [(.d (.lit (.int .i64 p0.Cap))), (.d (.sl (List.length p0.L) (flatD enc_GRun p0.L)))]), (.agg [(.d (.lit (.int .i64 p1.Cap))), (.d (.sl (List.length p1.L) (flatD enc_GRun p1.L)))])] [] (.d (.lit (.bool r))) [] := by
  refine GCall.of_body (n := 17) (rs := [(.tmp 4)]) Try.func22 rfl rfl rfl ?_
  refine Ato ⟨((.agg [(.d (.lit (.int .i64 p0.Cap))), (.d (.sl (List.length p0.L) (flatD enc_GRun p0.L)))]) :: ((.agg [(.d (.lit (.int .i64 p1.Cap))), (.d (.sl (List.length p1.L) (flatD enc_GRun p1.L)))]) :: (tu 15 []))), [], 0⟩ ?_
  have hm := h
  unfold m_runs_Same at hm
  refine AWP.seq ?_
  refine AWP.text ?_
  refine Wy (.loc 0 0) [(0, (.box [(.d (.lit (.int .i64 p0.Cap))), (.d (.sl (List.length p0.L) (flatD enc_GRun p0.L)))]))] (Obx rfl) ?_
  refine Wy (.loc 1 0) [(1, (.box [(.d (.lit (.int .i64 p1.Cap))), (.d (.sl (List.length p1.L) (flatD enc_GRun p1.L)))]))] (Obx rfl) ?_
  refine Wy (.d (.lit (.bool false))) [] (Omv rfl) ?_
  refine Walk.nil ?_
  refine Then.normal ?_
  refine Amk 12 3 ⟨(tp 2 ((.loc 0 0) :: ((.loc 1 0) :: (tp 13 [])))), [(.box [(.d (.lit (.int .i64 p0.Cap))), (.d (.sl (List.length p0.L) (flatD enc_GRun p0.L)))]), (.box [(.d (.lit (.int .i64 p1.Cap))), (.d (.sl (List.length p1.L) (flatD enc_GRun p1.L)))])], 0⟩ ?_
  refine AWP.seq ?_
  refine AWP.text ?_
  refine Wy (.loc 0 0) [] (Ofa rfl) ?_
  refine Wy (.d (.lit (.int .i64 p0.Cap))) [] (Old rfl) ?_
  refine Wy (.loc 1 0) [] (Ofa rfl) ?_
  refine Wy (.d (.lit (.int .i64 p1.Cap))) [] (Old rfl) ?_
  refine Wy (.d (.lit (.bool (decide (p0.Cap = p1.Cap))))) [] (Obn rfl (fun _ => hb_eql (k := .i64))) ?_
  rcases tf_ (decide (p0.Cap = p1.Cap)) with hq10_0 | hq10_0
  · replace hm := cT hq10_0 hm
    refine Wy (.d (.lit (.bool true))) [] (Ocs (lit_tf (b := decide (p0.Cap = p1.Cap)) hq10_0) (Omv rfl)) ?_
    refine Wy (.loc 0 1) [] (Ofa rfl) ?_
    refine Wy (.d (.sl (List.length p0.L) (flatD enc_GRun p0.L))) [] (Old rfl) ?_
    refine Wy (.loc 1 1) [] (Ofa rfl) ?_
    refine Wy (.d (.sl (List.length p1.L) (flatD enc_GRun p1.L))) [] (Old rfl) ?_
    obtain ⟨r15_0, hr15_0, hm⟩ := bnd hm
    refine Wy (.d (.lit (.bool r15_0))) [] (Ocf [] [] [] 0 (ok_slices_EqualFunc_Runruns_Run_runs_Run_runs_Run__runs_Same_1 p0.L p1.L r15_0 hr15_0) (fun a w => Try.call40 a w) rfl trivial) ?_
    refine Wy (.d (.lit (.bool r15_0))) [] (OpT rfl) ?_
    refine Wy (.d (.lit (.bool r15_0))) [] (Omv rfl) ?_
    refine Walk.nil ?_
    refine Then.normal ?_
    refine AWP.ret ?_
    obtain rfl := Option.some.inj hm
    exact ret_i []
  · replace hm := cF hq10_0 hm
    refine Wy (.d (.lit (.bool false))) [] (Ocs (lit_tf (b := decide (p0.Cap = p1.Cap)) hq10_0) (Omv rfl)) ?_
    refine Wn ?_
    refine Wn ?_
    refine Wn ?_
    refine Wn ?_
    refine Wn ?_
    refine Wy (.d (.lit (.bool false))) [] (OpF rfl) ?_
    refine Wy (.d (.lit (.bool false))) [] (Omv rfl) ?_
    refine Walk.nil ?_
    refine Then.normal ?_
    refine AWP.ret ?_
    obtain rfl := Option.some.inj hm
    exact ret_i []
end Go.Proofs.Ytlbajkdbbffefaa.K
