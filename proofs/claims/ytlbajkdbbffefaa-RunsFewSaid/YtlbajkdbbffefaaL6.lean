/- each function computes what its model says (6) -/
import Derived.Test.YtlbajkdbbffefaaL5
namespace Go.Proofs.Ytlbajkdbbffefaa.K
open Go.RowKit Go.Lib
set_option linter.unusedVariables false
set_option linter.unusedSimpArgs false

set_option maxRecDepth 20000 in
set_option maxHeartbeats 4000000 in
theorem ok_telltaleref21_Least (p0 : GRuns) (r : (Int × Bool)) (h : m_telltaleref21_Least p0 = some r) : GCall Try.prog 21 [(.agg [(.d (.lit (.int .i64 p0.Cap))), (.d (.sl (List.length p0.L) (flatD enc_GRun p0.L)))])] [] (.tup [(.d (.lit (.int .i64 r.1))), (.d (.lit (.bool r.2)))]) [] := by
  refine GCall.of_body (n := 52) (rs := [(.tmp 2), (.tmp 3)]) Try.func21 rfl rfl rfl ?_
  refine Ato ⟨((.agg [(.d (.lit (.int .i64 p0.Cap))), (.d (.sl (List.length p0.L) (flatD enc_GRun p0.L)))]) :: (tu 51 [])), [], 0⟩ ?_
  have hm := h
  unfold m_telltaleref21_Least at hm
  refine AWP.seq ?_
  refine AWP.text ?_
  refine Wy (.loc 0 0) [(0, (.box [(.d (.lit (.int .i64 p0.Cap))), (.d (.sl (List.length p0.L) (flatD enc_GRun p0.L)))]))] (Obx rfl) ?_
  refine Wy (.d (.lit (.int .i64 0))) [] (Omv rfl) ?_
  refine Wy (.d (.lit (.bool false))) [] (Omv rfl) ?_
  refine Walk.nil ?_
  refine Then.normal ?_
  refine Amk 2 1 ⟨(tp 1 ((.loc 0 0) :: (tp 50 []))), [(.box [(.d (.lit (.int .i64 p0.Cap))), (.d (.sl (List.length p0.L) (flatD enc_GRun p0.L)))])], 0⟩ ?_
  refine AWP.seq ?_
  refine AWP.text ?_
  refine Wy (.d (.lit (.int .i64 0))) [] (Omv rfl) ?_
  refine Wy (.d (.lit (.bool false))) [] (Omv rfl) ?_
  refine Walk.nil ?_
  refine Then.normal ?_
  refine Amk 50 1 ⟨(tp 1 ((.loc 0 0) :: (tp 2 ((.d (.lit (.int .i64 0))) :: ((.d (.lit (.bool false))) :: (tp 46 [])))))), [(.box [(.d (.lit (.int .i64 p0.Cap))), (.d (.sl (List.length p0.L) (flatD enc_GRun p0.L)))])], 0⟩ ?_
  refine AWP.seq ?_
  refine AWP.seq ?_
  refine AWP.text ?_
  refine Wy (.d (.lit (.int .i64 0))) [] (Omv rfl) ?_
  refine Walk.nil ?_
  refine Then.normal ?_
  refine Amk 114 1 ⟨(tp 1 ((.loc 0 0) :: (tp 2 ((.d (.lit (.int .i64 0))) :: ((.d (.lit (.bool false))) :: ((.d (.lit (.int .i64 0))) :: (tp 45 []))))))), [(.box [(.d (.lit (.int .i64 p0.Cap))), (.d (.sl (List.length p0.L) (flatD enc_GRun p0.L)))])], 0⟩ ?_
  refine AWP.block ?_
  refine AWP.loopI (α := Nat × Int × Bool × Int)
    (fun x => match x with | (fu_0, y4_0, y5_0, y6_0) => (⟨(tp 1 ((.loc 0 0) :: (tp 2 ((.d (.lit (.int .i64 y4_0))) :: ((.d (.lit (.bool y5_0))) :: ((.d (.lit (.int .i64 y6_0))) :: (tp 45 []))))))), [(.box [(.d (.lit (.int .i64 p0.Cap))), (.d (.sl (List.length p0.L) (flatD enc_GRun p0.L)))])], 0⟩ : St))
    (fun x => match x with | (fu_0, y4_0, y5_0, y6_0) => m_telltaleref21_Least_l0 p0 fu_0 y4_0 y5_0 y6_0 = some r)
    (fun x => match x with | (fu_0, y4_0, y5_0, y6_0) => fu_0) (1152921504606846976, 0, false, 0)
    (Weak.toK 114 0 0 [0]) hm ?_
  rintro ⟨fu_0, y4_0, y5_0, y6_0⟩ n_0 hm ih_0
  try dsimp only at hm ih_0 ⊢
  cases fu_0 with
  | zero => exact absurd hm (by unfold m_telltaleref21_Least_l0; simp)
  | succ fu_0 =>
    unfold m_telltaleref21_Least_l0 at hm
    refine AWP.seq ?_
    refine AWP.seq ?_
    refine AWP.text ?_
    refine Wy (.d (.lit (.int .i64 y6_0))) [] (Omv rfl) ?_
    refine Wy (.loc 0 1) [] (Ofa rfl) ?_
    refine Wy (.d (.sl (List.length p0.L) (flatD enc_GRun p0.L))) [] (Old rfl) ?_
    refine Wy (.d (.lit (.int .i64 ((List.length p0.L : Nat) : Int)))) [] (Oln rfl) ?_
    refine Wy (.d (.lit (.bool (decide (y6_0 < ((List.length p0.L : Nat) : Int)))))) [] (Obn rfl (fun _ => hb_lss (k := .i64))) ?_
    refine Walk.nil ?_
    refine Then.normal ?_
    refine Amk 2162 1 ⟨(tp 1 ((.loc 0 0) :: (tp 2 ((.d (.lit (.int .i64 y4_0))) :: ((.d (.lit (.bool y5_0))) :: ((.d (.lit (.int .i64 y6_0))) :: (tp 4 ((.d (.lit (.bool (decide (y6_0 < ((List.length p0.L : Nat) : Int)))))) :: (tp 40 []))))))))), [(.box [(.d (.lit (.int .i64 p0.Cap))), (.d (.sl (List.length p0.L) (flatD enc_GRun p0.L)))])], 0⟩ ?_
    rcases tf_ (decide (y6_0 < ((List.length p0.L : Nat) : Int))) with hc11_5 | hc11_5
    · replace hm := cT hc11_5 hm
      refine AWP.if_ true (Eq.trans (by kernel_rfl) (lit_tf (b := decide (y6_0 < ((List.length p0.L : Nat) : Int))) hc11_5)) ?_
      refine AWP.skip ?_
      refine Then.normal ?_
      refine Amk 114 1 ⟨(tp 1 ((.loc 0 0) :: (tp 2 ((.d (.lit (.int .i64 y4_0))) :: ((.d (.lit (.bool y5_0))) :: ((.d (.lit (.int .i64 y6_0))) :: (tp 45 []))))))), [(.box [(.d (.lit (.int .i64 p0.Cap))), (.d (.sl (List.length p0.L) (flatD enc_GRun p0.L)))])], 0⟩ ?_
      refine AWP.seq ?_
      refine AWP.block ?_
      refine AWP.seq ?_
      refine AWP.text ?_
      refine Wy (.loc 0 1) [] (Ofa rfl) ?_
      refine Wy (.d (.sl (List.length p0.L) (flatD enc_GRun p0.L))) [] (Old rfl) ?_
      refine Wy (.d (.lit (.int .i64 y6_0))) [] (Omv rfl) ?_
      obtain ⟨x17_2, hx17_2, hm⟩ := bnd hm
      obtain ⟨hx17_2i, hx17_2g⟩ := geti_some hx17_2
      refine Wy (.d (.ref (List.drop ((Int.toNat y6_0) * 3) (flatD enc_GRun p0.L)))) [] (Oia rfl enc_GRun_len hx17_2i hx17_2g) ?_
      refine Wy (.d (.ref (List.drop 1 (List.drop ((Int.toNat y6_0) * 3) (flatD enc_GRun p0.L))))) [] (Ofa rfl) ?_
      refine Wy (.d (.sl (List.length x17_2.Bound) (flatD enc_GPair x17_2.Bound))) [] (Lfk1 1 rfl enc_GRun_len hx17_2g) ?_
      refine Wy (.d (.lit (.int .i64 ((List.length x17_2.Bound : Nat) : Int)))) [] (Oln rfl) ?_
      refine Wy (.d (.lit (.bool (decide ((0 : Int) < ((List.length x17_2.Bound : Nat) : Int)))))) [] (Obn rfl (fun _ => hb_gtr (k := .i64))) ?_
      rcases tf_ (decide ((0 : Int) < ((List.length x17_2.Bound : Nat) : Int))) with hq22_2 | hq22_2
      · replace hm := cT hq22_2 hm
        refine Wy (.d (.lit (.bool true))) [] (Ocs (lit_tf (b := decide ((0 : Int) < ((List.length x17_2.Bound : Nat) : Int))) hq22_2) (Omv rfl)) ?_
        refine Wy (.d (.lit (.bool y5_0))) [] (Omv rfl) ?_
        refine Wy (.d (.lit (.bool (!y5_0)))) [] (Ocs (by kernel_rfl) (op_un rfl (a1 := .bool y5_0) (by kernel_rfl) (fun _ => hu_not))) ?_
        rcases tf_ (!y5_0) with hq25_2 | hq25_2
        · replace hm := cT hq25_2 hm
          refine Wy (.d (.lit (.bool true))) [] (Ocs (lit_tf (b := (!y5_0)) hq25_2) (Omv rfl)) ?_
          refine Wn ?_
          refine Wn ?_
          refine Wn ?_
          refine Wn ?_
          refine Wn ?_
          refine Wn ?_
          refine Wn ?_
          refine Wn ?_
          refine Wn ?_
          refine Wn ?_
          refine Wn ?_
          refine Wn ?_
          refine Wy (.d (.lit (.bool true))) [] (OpT rfl) ?_
          refine Wy (.d (.lit (.bool true))) [] (OpT rfl) ?_
          refine Walk.nil ?_
          refine Then.normal ?_
          refine Amk 549755814002 1 ⟨(tp 1 ((.loc 0 0) :: (tp 2 ((.d (.lit (.int .i64 y4_0))) :: ((.d (.lit (.bool y5_0))) :: ((.d (.lit (.int .i64 y6_0))) :: (tp 32 ((.d (.lit (.bool true))) :: (tp 12 []))))))))), [(.box [(.d (.lit (.int .i64 p0.Cap))), (.d (.sl (List.length p0.L) (flatD enc_GRun p0.L)))])], 0⟩ ?_
          refine AWP.if_ true (by kernel_rfl) ?_
          refine AWP.text ?_
          refine Wy (.loc 0 1) [] (Ofa rfl) ?_
          refine Wy (.d (.sl (List.length p0.L) (flatD enc_GRun p0.L))) [] (Old rfl) ?_
          refine Wy (.d (.lit (.int .i64 y6_0))) [] (Omv rfl) ?_
          obtain ⟨x43_3, hx43_3, hm⟩ := bnd hm
          obtain ⟨hx43_3i, hx43_3g⟩ := geti_some hx43_3
          refine Wy (.d (.ref (List.drop ((Int.toNat y6_0) * 3) (flatD enc_GRun p0.L)))) [] (Oia rfl enc_GRun_len hx43_3i hx43_3g) ?_
          refine Wy (.d (.ref (List.drop 1 (List.drop ((Int.toNat y6_0) * 3) (flatD enc_GRun p0.L))))) [] (Ofa rfl) ?_
          refine Wy (.d (.sl (List.length x43_3.Bound) (flatD enc_GPair x43_3.Bound))) [] (Lfk1 1 rfl enc_GRun_len hx43_3g) ?_
          obtain ⟨x46_3, hx46_3, hm⟩ := bnd hm
          obtain ⟨hx46_3i, hx46_3g⟩ := geti_some hx46_3
          refine Wy (.d (.ref (List.drop ((Int.toNat 0) * 6) (flatD enc_GPair x43_3.Bound)))) [] (Oia rfl enc_GPair_len hx46_3i hx46_3g) ?_
          refine Wy (.d (.ref (List.drop 1 (List.drop ((Int.toNat 0) * 6) (flatD enc_GPair x43_3.Bound))))) [] (Ofa rfl) ?_
          refine Wy (.d (.ref (List.drop 1 (List.drop ((Int.toNat 0) * 6) (flatD enc_GPair x43_3.Bound))))) [] (Ofa rfl) ?_
          refine Wy (.d (.lit (.int .i64 x46_3.E.Time))) [] (Lfk1 1 rfl enc_GPair_len hx46_3g) ?_
          refine Wy (.d (.lit (.int .i64 x46_3.E.Time))) [] (Omv rfl) ?_
          refine Wy (.d (.lit (.bool true))) [] (Omv rfl) ?_
          refine Walk.nil ?_
          refine InBlock.normal ?_
          refine Then.normal ?_
          refine Amk 114 1 ⟨(tp 1 ((.loc 0 0) :: (tp 2 ((.d (.lit (.int .i64 x46_3.E.Time))) :: ((.d (.lit (.bool true))) :: ((.d (.lit (.int .i64 y6_0))) :: (tp 45 []))))))), [(.box [(.d (.lit (.int .i64 p0.Cap))), (.d (.sl (List.length p0.L) (flatD enc_GRun p0.L)))])], 0⟩ ?_
          refine AWP.text ?_
          refine Wy (.d (.lit (.int .i64 y6_0))) [] (Omv rfl) ?_
          refine Wy (.d (.lit (.int .i64 (IntKind.i64.wrap (y6_0 + 1))))) [] (Obn rfl (fun _ => hb_add (k := .i64))) ?_
          refine Wy (.d (.lit (.int .i64 (IntKind.i64.wrap (y6_0 + 1))))) [] (Omv rfl) ?_
          refine Walk.nil ?_
          refine RoundK.normal ?_
          exact Rounds.weak (Weak.toK 114 0 0 [0]) (ih_0 (fu_0, x46_3.E.Time, true, (IntKind.i64.wrap (y6_0 + 1))) hm (Nat.lt_succ_self _))
        · replace hm := cF hq25_2 hm
          refine Wy (.d (.lit (.bool false))) [] (Ocs (lit_tf (b := (!y5_0)) hq25_2) (Omv rfl)) ?_
          refine Wy (.loc 0 1) [] (Ofa rfl) ?_
          refine Wy (.d (.sl (List.length p0.L) (flatD enc_GRun p0.L))) [] (Old rfl) ?_
          refine Wy (.d (.lit (.int .i64 y6_0))) [] (Omv rfl) ?_
          obtain ⟨x29_2, hx29_2, hm⟩ := bnd hm
          obtain ⟨hx29_2i, hx29_2g⟩ := geti_some hx29_2
          refine Wy (.d (.ref (List.drop ((Int.toNat y6_0) * 3) (flatD enc_GRun p0.L)))) [] (Oia rfl enc_GRun_len hx29_2i hx29_2g) ?_
          refine Wy (.d (.ref (List.drop 1 (List.drop ((Int.toNat y6_0) * 3) (flatD enc_GRun p0.L))))) [] (Ofa rfl) ?_
          refine Wy (.d (.sl (List.length x29_2.Bound) (flatD enc_GPair x29_2.Bound))) [] (Lfk1 1 rfl enc_GRun_len hx29_2g) ?_
          obtain ⟨x32_2, hx32_2, hm⟩ := bnd hm
          obtain ⟨hx32_2i, hx32_2g⟩ := geti_some hx32_2
          refine Wy (.d (.ref (List.drop ((Int.toNat 0) * 6) (flatD enc_GPair x29_2.Bound)))) [] (Oia rfl enc_GPair_len hx32_2i hx32_2g) ?_
          refine Wy (.d (.ref (List.drop 1 (List.drop ((Int.toNat 0) * 6) (flatD enc_GPair x29_2.Bound))))) [] (Ofa rfl) ?_
          refine Wy (.d (.ref (List.drop 1 (List.drop ((Int.toNat 0) * 6) (flatD enc_GPair x29_2.Bound))))) [] (Ofa rfl) ?_
          refine Wy (.d (.lit (.int .i64 x32_2.E.Time))) [] (Lfk1 1 rfl enc_GPair_len hx32_2g) ?_
          refine Wy (.d (.lit (.int .i64 y4_0))) [] (Omv rfl) ?_
          refine Wy (.d (.lit (.bool (decide (x32_2.E.Time < y4_0))))) [] (Obn rfl (fun _ => hb_lss (k := .i64))) ?_
          refine Wy (.d (.lit (.bool (decide (x32_2.E.Time < y4_0))))) [] (OpF rfl) ?_
          refine Wy (.d (.lit (.bool (decide (x32_2.E.Time < y4_0))))) [] (OpT rfl) ?_
          refine Walk.nil ?_
          refine Then.normal ?_
          refine Amk 549755814002 1 ⟨(tp 1 ((.loc 0 0) :: (tp 2 ((.d (.lit (.int .i64 y4_0))) :: ((.d (.lit (.bool y5_0))) :: ((.d (.lit (.int .i64 y6_0))) :: (tp 32 ((.d (.lit (.bool (decide (x32_2.E.Time < y4_0))))) :: (tp 12 []))))))))), [(.box [(.d (.lit (.int .i64 p0.Cap))), (.d (.sl (List.length p0.L) (flatD enc_GRun p0.L)))])], 0⟩ ?_
          rcases tf_ (decide (x32_2.E.Time < y4_0)) with hc39_6 | hc39_6
          · replace hm := cT hc39_6 hm
            refine AWP.if_ true (Eq.trans (by kernel_rfl) (lit_tf (b := decide (x32_2.E.Time < y4_0)) hc39_6)) ?_
            refine AWP.text ?_
            refine Wy (.loc 0 1) [] (Ofa rfl) ?_
            refine Wy (.d (.sl (List.length p0.L) (flatD enc_GRun p0.L))) [] (Old rfl) ?_
            refine Wy (.d (.lit (.int .i64 y6_0))) [] (Omv rfl) ?_
            obtain ⟨x43_4, hx43_4, hm⟩ := bnd hm
            obtain ⟨hx43_4i, hx43_4g⟩ := geti_some hx43_4
            refine Wy (.d (.ref (List.drop ((Int.toNat y6_0) * 3) (flatD enc_GRun p0.L)))) [] (Oia rfl enc_GRun_len hx43_4i hx43_4g) ?_
            refine Wy (.d (.ref (List.drop 1 (List.drop ((Int.toNat y6_0) * 3) (flatD enc_GRun p0.L))))) [] (Ofa rfl) ?_
            refine Wy (.d (.sl (List.length x43_4.Bound) (flatD enc_GPair x43_4.Bound))) [] (Lfk1 1 rfl enc_GRun_len hx43_4g) ?_
            obtain ⟨x46_4, hx46_4, hm⟩ := bnd hm
            obtain ⟨hx46_4i, hx46_4g⟩ := geti_some hx46_4
            refine Wy (.d (.ref (List.drop ((Int.toNat 0) * 6) (flatD enc_GPair x43_4.Bound)))) [] (Oia rfl enc_GPair_len hx46_4i hx46_4g) ?_
            refine Wy (.d (.ref (List.drop 1 (List.drop ((Int.toNat 0) * 6) (flatD enc_GPair x43_4.Bound))))) [] (Ofa rfl) ?_
            refine Wy (.d (.ref (List.drop 1 (List.drop ((Int.toNat 0) * 6) (flatD enc_GPair x43_4.Bound))))) [] (Ofa rfl) ?_
            refine Wy (.d (.lit (.int .i64 x46_4.E.Time))) [] (Lfk1 1 rfl enc_GPair_len hx46_4g) ?_
            refine Wy (.d (.lit (.int .i64 x46_4.E.Time))) [] (Omv rfl) ?_
            refine Wy (.d (.lit (.bool true))) [] (Omv rfl) ?_
            refine Walk.nil ?_
            refine InBlock.normal ?_
            refine Then.normal ?_
            refine Amk 114 1 ⟨(tp 1 ((.loc 0 0) :: (tp 2 ((.d (.lit (.int .i64 x46_4.E.Time))) :: ((.d (.lit (.bool true))) :: ((.d (.lit (.int .i64 y6_0))) :: (tp 45 []))))))), [(.box [(.d (.lit (.int .i64 p0.Cap))), (.d (.sl (List.length p0.L) (flatD enc_GRun p0.L)))])], 0⟩ ?_
            refine AWP.text ?_
            refine Wy (.d (.lit (.int .i64 y6_0))) [] (Omv rfl) ?_
            refine Wy (.d (.lit (.int .i64 (IntKind.i64.wrap (y6_0 + 1))))) [] (Obn rfl (fun _ => hb_add (k := .i64))) ?_
            refine Wy (.d (.lit (.int .i64 (IntKind.i64.wrap (y6_0 + 1))))) [] (Omv rfl) ?_
            refine Walk.nil ?_
            refine RoundK.normal ?_
            exact Rounds.weak (Weak.toK 114 0 0 [0]) (ih_0 (fu_0, x46_4.E.Time, true, (IntKind.i64.wrap (y6_0 + 1))) hm (Nat.lt_succ_self _))
          · replace hm := cF hc39_6 hm
            refine AWP.if_ false (Eq.trans (by kernel_rfl) (lit_tf (b := decide (x32_2.E.Time < y4_0)) hc39_6)) ?_
            refine AWP.skip ?_
            refine InBlock.normal ?_
            refine Then.normal ?_
            refine Amk 114 1 ⟨(tp 1 ((.loc 0 0) :: (tp 2 ((.d (.lit (.int .i64 y4_0))) :: ((.d (.lit (.bool y5_0))) :: ((.d (.lit (.int .i64 y6_0))) :: (tp 45 []))))))), [(.box [(.d (.lit (.int .i64 p0.Cap))), (.d (.sl (List.length p0.L) (flatD enc_GRun p0.L)))])], 0⟩ ?_
            refine AWP.text ?_
            refine Wy (.d (.lit (.int .i64 y6_0))) [] (Omv rfl) ?_
            refine Wy (.d (.lit (.int .i64 (IntKind.i64.wrap (y6_0 + 1))))) [] (Obn rfl (fun _ => hb_add (k := .i64))) ?_
            refine Wy (.d (.lit (.int .i64 (IntKind.i64.wrap (y6_0 + 1))))) [] (Omv rfl) ?_
            refine Walk.nil ?_
            refine RoundK.normal ?_
            exact Rounds.weak (Weak.toK 114 0 0 [0]) (ih_0 (fu_0, y4_0, y5_0, (IntKind.i64.wrap (y6_0 + 1))) hm (Nat.lt_succ_self _))
      · replace hm := cF hq22_2 hm
        refine Wy (.d (.lit (.bool false))) [] (Ocs (lit_tf (b := decide ((0 : Int) < ((List.length x17_2.Bound : Nat) : Int))) hq22_2) (Omv rfl)) ?_
        refine Wn ?_
        refine Wn ?_
        refine Wn ?_
        refine Wn ?_
        refine Wn ?_
        refine Wn ?_
        refine Wn ?_
        refine Wn ?_
        refine Wn ?_
        refine Wn ?_
        refine Wn ?_
        refine Wn ?_
        refine Wn ?_
        refine Wn ?_
        refine Wn ?_
        refine Wn ?_
        refine Wy (.d (.lit (.bool false))) [] (OpF rfl) ?_
        refine Walk.nil ?_
        refine Then.normal ?_
        refine Amk 549755814002 1 ⟨(tp 1 ((.loc 0 0) :: (tp 2 ((.d (.lit (.int .i64 y4_0))) :: ((.d (.lit (.bool y5_0))) :: ((.d (.lit (.int .i64 y6_0))) :: (tp 32 ((.d (.lit (.bool false))) :: (tp 12 []))))))))), [(.box [(.d (.lit (.int .i64 p0.Cap))), (.d (.sl (List.length p0.L) (flatD enc_GRun p0.L)))])], 0⟩ ?_
        refine AWP.if_ false (by kernel_rfl) ?_
        refine AWP.skip ?_
        refine InBlock.normal ?_
        refine Then.normal ?_
        refine Amk 114 1 ⟨(tp 1 ((.loc 0 0) :: (tp 2 ((.d (.lit (.int .i64 y4_0))) :: ((.d (.lit (.bool y5_0))) :: ((.d (.lit (.int .i64 y6_0))) :: (tp 45 []))))))), [(.box [(.d (.lit (.int .i64 p0.Cap))), (.d (.sl (List.length p0.L) (flatD enc_GRun p0.L)))])], 0⟩ ?_
        refine AWP.text ?_
        refine Wy (.d (.lit (.int .i64 y6_0))) [] (Omv rfl) ?_
        refine Wy (.d (.lit (.int .i64 (IntKind.i64.wrap (y6_0 + 1))))) [] (Obn rfl (fun _ => hb_add (k := .i64))) ?_
        refine Wy (.d (.lit (.int .i64 (IntKind.i64.wrap (y6_0 + 1))))) [] (Omv rfl) ?_
        refine Walk.nil ?_
        refine RoundK.normal ?_
        exact Rounds.weak (Weak.toK 114 0 0 [0]) (ih_0 (fu_0, y4_0, y5_0, (IntKind.i64.wrap (y6_0 + 1))) hm (Nat.lt_succ_self _))
    · replace hm := cF hc11_5 hm
      refine AWP.if_ false (Eq.trans (by kernel_rfl) (lit_tf (b := decide (y6_0 < ((List.length p0.L : Nat) : Int))) hc11_5)) ?_
      refine AWP.exit ?_
      refine Then.exit ?_
      refine RoundK.exit ?_
      refine InBlock.same ?_
      refine Then.normal ?_
      refine Amk 48 0 ⟨(tp 4 ((.d (.lit (.int .i64 y4_0))) :: ((.d (.lit (.bool y5_0))) :: (tp 46 [])))), [.gone], 0⟩ ?_
      refine AWP.seq ?_
      refine AWP.text ?_
      refine Wy (.d (.lit (.int .i64 y4_0))) [] (Omv rfl) ?_
      refine Wy (.d (.lit (.bool y5_0))) [] (Omv rfl) ?_
      refine Wy (.d (.lit (.int .i64 y4_0))) [] (Omv rfl) ?_
      refine Wy (.d (.lit (.bool y5_0))) [] (Omv rfl) ?_
      refine Walk.nil ?_
      refine Then.normal ?_
      refine AWP.ret ?_
      obtain rfl := Option.some.inj hm
      exact ret_i []

set_option maxRecDepth 20000 in
set_option maxHeartbeats 4000000 in
theorem ok_telltalelaw21_RunsDo (p0 : GArr2_GRuns) (p1 : GRun) (p2 : (List Bool)) (r : Bool) (h : m_telltalelaw21_RunsDo p0 p1 p2 = some r) : GCall Try.prog 3 [(.agg [(.d (.lit (.int .i64 p0.a0.Cap))), (.d (.sl (List.length p0.a0.L) (flatD enc_GRun p0.a0.L))), (.d (.lit (.int .i64 p0.a1.Cap))), (.d (.sl (List.length p0.a1.L) (flatD enc_GRun p0.a1.L)))]), (.agg [(.d (.lit (.int .i64 p1.Place))), (.d (.sl (List.length p1.Bound) (flatD enc_GPair p1.Bound))), (.d (.lit (.int .u32 p1.Broken)))]), (.d (.sl (List.length p2) (flatD encB p2)))] [] (.d (.lit (.bool r))) [] := by
  refine GCall.of_body (n := 161) (rs := [(.tmp 6)]) Try.func3 rfl rfl rfl ?_
  refine Ato ⟨((.agg [(.d (.lit (.int .i64 p0.a0.Cap))), (.d (.sl (List.length p0.a0.L) (flatD enc_GRun p0.a0.L))), (.d (.lit (.int .i64 p0.a1.Cap))), (.d (.sl (List.length p0.a1.L) (flatD enc_GRun p0.a1.L)))]) :: ((.agg [(.d (.lit (.int .i64 p1.Place))), (.d (.sl (List.length p1.Bound) (flatD enc_GPair p1.Bound))), (.d (.lit (.int .u32 p1.Broken)))]) :: ((.d (.sl (List.length p2) (flatD encB p2))) :: (tu 158 [])))), [], 0⟩ ?_
  have hm := h
  unfold m_telltalelaw21_RunsDo at hm
  refine AWP.seq ?_
  refine AWP.text ?_
  refine Wy (.loc 0 0) [(0, (.box [(.d (.lit (.int .i64 p0.a0.Cap))), (.d (.sl (List.length p0.a0.L) (flatD enc_GRun p0.a0.L))), (.d (.lit (.int .i64 p0.a1.Cap))), (.d (.sl (List.length p0.a1.L) (flatD enc_GRun p0.a1.L)))]))] (Obx rfl) ?_
  refine Wy (.loc 1 0) [(1, (.box [(.d (.lit (.int .i64 p1.Place))), (.d (.sl (List.length p1.Bound) (flatD enc_GPair p1.Bound))), (.d (.lit (.int .u32 p1.Broken)))]))] (Obx rfl) ?_
  refine Wy (.d (.lit (.bool false))) [] (Omv rfl) ?_
  refine Walk.nil ?_
  refine Then.normal ?_
  refine Amk 28 3 ⟨(tp 2 ((.d (.sl (List.length p2) (flatD encB p2))) :: ((.loc 0 0) :: ((.loc 1 0) :: (tp 156 []))))), [(.box [(.d (.lit (.int .i64 p0.a0.Cap))), (.d (.sl (List.length p0.a0.L) (flatD enc_GRun p0.a0.L))), (.d (.lit (.int .i64 p0.a1.Cap))), (.d (.sl (List.length p0.a1.L) (flatD enc_GRun p0.a1.L)))]), (.box [(.d (.lit (.int .i64 p1.Place))), (.d (.sl (List.length p1.Bound) (flatD enc_GPair p1.Bound))), (.d (.lit (.int .u32 p1.Broken)))])], 0⟩ ?_
  refine AWP.seq ?_
  refine AWP.cutJ (α := Unit) (fun x => match x with | () => (⟨(tp 2 ((.d (.sl (List.length p2) (flatD encB p2))) :: ((.loc 0 0) :: ((.loc 1 0) :: (tp 36 ((.d (.lit (.bool true))) :: (tp 119 []))))))), [(.box [(.d (.lit (.int .i64 p0.a0.Cap))), (.d (.sl (List.length p0.a0.L) (flatD enc_GRun p0.a0.L))), (.d (.lit (.int .i64 p0.a1.Cap))), (.d (.sl (List.length p0.a1.L) (flatD enc_GRun p0.a1.L)))]), (.box [(.d (.lit (.int .i64 p1.Place))), (.d (.sl (List.length p1.Bound) (flatD enc_GPair p1.Bound))), (.d (.lit (.int .u32 p1.Broken)))])], 0⟩ : St)) (fun x => match x with | () => m_telltalelaw21_RunsDo_j1  = some r) ?_ (fun J1 => ?_)
  · rintro ⟨⟩ hm
    try dsimp only at hm ⊢
    unfold m_telltalelaw21_RunsDo_j1 at hm
    refine AWP.if_ true (by kernel_rfl) ?_
    refine AWP.seq ?_
    refine AWP.text ?_
    obtain ⟨r42_2, hr42_2, hm⟩ := bnd hm
    refine Wy (.d (.lit (.bool r42_2))) [] (Ocf [] [] [] 0 (ok_telltalelaw21_awake  r42_2 hr42_2) (fun a w => Try.call7 a w) rfl trivial) ?_
    refine Wy (.d (.lit (.bool r42_2))) [] (Omv rfl) ?_
    refine Walk.nil ?_
    refine Then.normal ?_
    refine AWP.ret ?_
    refine Then.ret ?_
    obtain rfl := Option.some.inj hm
    exact ret_i []
  refine AWP.seq ?_
  refine AWP.text ?_
  refine Wy (.loc 0 0) [] (Ocs (by kernel_rfl) (op_iaddr_arr rfl (n := 2) (sz := 2) (y := (.loc 0 0)) (by kernel_rfl) (by kernel_rfl) (by kernel_rfl) (k := .i64) (iv := 0) (by kernel_rfl) (i := 0) (by rfl) (by decide))) ?_
  refine Wy (.agg [(.d (.lit (.int .i64 p0.a0.Cap))), (.d (.sl (List.length p0.a0.L) (flatD enc_GRun p0.a0.L)))]) [] (Old rfl) ?_
  obtain ⟨r22_0, hr22_0, hm⟩ := bnd hm
  refine Wy (.d (.lit (.int .i64 r22_0))) [] (Ocf [] [] [] 0 (ok_telltalelaw21_Over p0.a0 r22_0 hr22_0) (fun a w => Try.call6 a w) rfl trivial) ?_
  refine Wy (.d (.lit (.bool (decide ((0 : Int) < r22_0))))) [] (Obn rfl (fun _ => hb_gtr (k := .i64))) ?_
  rcases tf_ (decide ((0 : Int) < r22_0)) with hq24_0 | hq24_0
  · replace hm := cT hq24_0 hm
    refine Wy (.d (.lit (.bool true))) [] (Ocs (lit_tf (b := decide ((0 : Int) < r22_0)) hq24_0) (Omv rfl)) ?_
    refine Wn ?_
    refine Wn ?_
    refine Wn ?_
    refine Wn ?_
    refine Wy (.d (.lit (.bool true))) [] (OpT rfl) ?_
    refine Wy (.d (.lit (.bool true))) [] (Omv rfl) ?_
    refine Wn ?_
    refine Wn ?_
    refine Wn ?_
    refine Wn ?_
    refine Wn ?_
    refine Wy (.d (.lit (.bool true))) [] (OpT rfl) ?_
    refine Wy (.d (.lit (.bool true))) [] (Omv rfl) ?_
    refine Wn ?_
    refine Wn ?_
    refine Wn ?_
    refine Wy (.d (.lit (.bool true))) [] (OpT rfl) ?_
    refine Walk.nil ?_
    refine Then.normal ?_
    exact AWP.weak (Weak.toK 2199023255580 0 0 [0, 1]) (J1 () hm)
  · replace hm := cF hq24_0 hm
    refine Wy (.d (.lit (.bool false))) [] (Ocs (lit_tf (b := decide ((0 : Int) < r22_0)) hq24_0) (Omv rfl)) ?_
    refine Wy (.loc 0 2) [] (Ocs (by kernel_rfl) (op_iaddr_arr rfl (n := 2) (sz := 2) (y := (.loc 0 0)) (by kernel_rfl) (by kernel_rfl) (by kernel_rfl) (k := .i64) (iv := 1) (by kernel_rfl) (i := 1) (by rfl) (by decide))) ?_
    refine Wy (.agg [(.d (.lit (.int .i64 p0.a1.Cap))), (.d (.sl (List.length p0.a1.L) (flatD enc_GRun p0.a1.L)))]) [] (Old rfl) ?_
    obtain ⟨r27_0, hr27_0, hm⟩ := bnd hm
    refine Wy (.d (.lit (.int .i64 r27_0))) [] (Ocf [] [] [] 0 (ok_telltalelaw21_Over p0.a1 r27_0 hr27_0) (fun a w => Try.call6 a w) rfl trivial) ?_
    refine Wy (.d (.lit (.bool (decide ((0 : Int) < r27_0))))) [] (Obn rfl (fun _ => hb_gtr (k := .i64))) ?_
    refine Wy (.d (.lit (.bool (decide ((0 : Int) < r27_0))))) [] (OpF rfl) ?_
    rcases tf_ (decide ((0 : Int) < r27_0)) with hq30_0 | hq30_0
    · replace hm := cT hq30_0 hm
      refine Wy (.d (.lit (.bool true))) [] (Ocs (lit_tf (b := decide ((0 : Int) < r27_0)) hq30_0) (Omv rfl)) ?_
      refine Wn ?_
      refine Wn ?_
      refine Wn ?_
      refine Wn ?_
      refine Wn ?_
      refine Wy (.d (.lit (.bool true))) [] (OpT rfl) ?_
      refine Wy (.d (.lit (.bool true))) [] (Omv rfl) ?_
      refine Wn ?_
      refine Wn ?_
      refine Wn ?_
      refine Wy (.d (.lit (.bool true))) [] (OpT rfl) ?_
      refine Walk.nil ?_
      refine Then.normal ?_
      exact AWP.weak (Weak.toK 2199023255580 0 0 [0, 1]) (J1 () hm)
    · replace hm := cF hq30_0 hm
      refine Wy (.d (.lit (.bool false))) [] (Ocs (lit_tf (b := decide ((0 : Int) < r27_0)) hq30_0) (Omv rfl)) ?_
      refine Wy (.agg [(.d (.lit (.int .i64 p1.Place))), (.d (.sl (List.length p1.Bound) (flatD enc_GPair p1.Bound))), (.d (.lit (.int .u32 p1.Broken)))]) [] (Old rfl) ?_
      refine Wy (.own 2) [(2, (.arr 29 3 (List.length ([p1] : List GRun)) (flatD enc_GRun ([p1] : List GRun))))] (Obs rfl) ?_
      refine Wy (.agg [(.d (.lit (.int .i64 0))), (.own 2)]) [] (Obd rfl) ?_
      obtain ⟨r34_0, hr34_0, hm⟩ := bnd hm
      refine Wy (.d (.lit (.int .i64 r34_0))) [] (Ocp [] [] [2] 0 (ok_telltalelaw21_Over (GRuns.mk 0 ([p1] : List GRun)) r34_0 hr34_0) (plain_triv (by simp [A.Plain, A.Plains, D.Plain, byteD])) (fun a w => Try.call6 a w) rfl trivial) ?_
      refine Wy (.d (.lit (.bool (decide ((0 : Int) < r34_0))))) [] (Obn rfl (fun _ => hb_gtr (k := .i64))) ?_
      refine Wy (.d (.lit (.bool (decide ((0 : Int) < r34_0))))) [] (OpF rfl) ?_
      rcases tf_ (decide ((0 : Int) < r34_0)) with hq37_0 | hq37_0
      · replace hm := cT hq37_0 hm
        refine Wy (.d (.lit (.bool true))) [] (Ocs (lit_tf (b := decide ((0 : Int) < r34_0)) hq37_0) (Omv rfl)) ?_
        refine Wn ?_
        refine Wn ?_
        refine Wn ?_
        refine Wy (.d (.lit (.bool true))) [] (OpT rfl) ?_
        refine Walk.nil ?_
        refine Then.normal ?_
        exact AWP.weak (Weak.toK 2199023255580 0 0 [0, 1]) (J1 () hm)
      · replace hm := cF hq37_0 hm
        refine Wy (.d (.lit (.bool false))) [] (Ocs (lit_tf (b := decide ((0 : Int) < r34_0)) hq37_0) (Omv rfl)) ?_
        refine Wy (.d (.sl (List.length p2) (flatD encB p2))) [] (Omv rfl) ?_
        refine Wy (.d (.lit (.int .i64 ((List.length p2 : Nat) : Int)))) [] (Oln rfl) ?_
        refine Wy (.d (.lit (.bool (decide ((40 : Int) < ((List.length p2 : Nat) : Int)))))) [] (Obn rfl (fun _ => hb_gtr (k := .i64))) ?_
        refine Wy (.d (.lit (.bool (decide ((40 : Int) < ((List.length p2 : Nat) : Int)))))) [] (OpF rfl) ?_
        refine Walk.nil ?_
        refine Then.normal ?_
        refine Amk 2199023255580 3 ⟨(tp 2 ((.d (.sl (List.length p2) (flatD encB p2))) :: ((.loc 0 0) :: ((.loc 1 0) :: (tp 36 ((.d (.lit (.bool (decide ((40 : Int) < ((List.length p2 : Nat) : Int)))))) :: (tp 119 []))))))), [(.box [(.d (.lit (.int .i64 p0.a0.Cap))), (.d (.sl (List.length p0.a0.L) (flatD enc_GRun p0.a0.L))), (.d (.lit (.int .i64 p0.a1.Cap))), (.d (.sl (List.length p0.a1.L) (flatD enc_GRun p0.a1.L)))]), (.box [(.d (.lit (.int .i64 p1.Place))), (.d (.sl (List.length p1.Bound) (flatD enc_GPair p1.Bound))), (.d (.lit (.int .u32 p1.Broken)))]), .gone], 0⟩ ?_
        rcases tf_ (decide ((40 : Int) < ((List.length p2 : Nat) : Int))) with hc41_14 | hc41_14
        · replace hm := cT hc41_14 hm
          refine AWP.if_ true (Eq.trans (by kernel_rfl) (lit_tf (b := decide ((40 : Int) < ((List.length p2 : Nat) : Int))) hc41_14)) ?_
          refine AWP.seq ?_
          refine AWP.text ?_
          obtain ⟨r42_3, hr42_3, hm⟩ := bnd hm
          refine Wy (.d (.lit (.bool r42_3))) [] (Ocf [] [] [] 0 (ok_telltalelaw21_awake  r42_3 hr42_3) (fun a w => Try.call7 a w) rfl trivial) ?_
          refine Wy (.d (.lit (.bool r42_3))) [] (Omv rfl) ?_
          refine Walk.nil ?_
          refine Then.normal ?_
          refine AWP.ret ?_
          refine Then.ret ?_
          obtain rfl := Option.some.inj hm
          exact ret_i []
        · replace hm := cF hc41_14 hm
          refine AWP.if_ false (Eq.trans (by kernel_rfl) (lit_tf (b := decide ((40 : Int) < ((List.length p2 : Nat) : Int))) hc41_14)) ?_
          refine AWP.skip ?_
          refine Then.normal ?_
          refine Amk 28 3 ⟨(tp 2 ((.d (.sl (List.length p2) (flatD encB p2))) :: ((.loc 0 0) :: ((.loc 1 0) :: (tp 156 []))))), [(.box [(.d (.lit (.int .i64 p0.a0.Cap))), (.d (.sl (List.length p0.a0.L) (flatD enc_GRun p0.a0.L))), (.d (.lit (.int .i64 p0.a1.Cap))), (.d (.sl (List.length p0.a1.L) (flatD enc_GRun p0.a1.L)))]), (.box [(.d (.lit (.int .i64 p1.Place))), (.d (.sl (List.length p1.Bound) (flatD enc_GPair p1.Bound))), (.d (.lit (.int .u32 p1.Broken)))]), .gone], 0⟩ ?_
          refine AWP.seq ?_
          refine AWP.text ?_
          refine Wy (.loc 0 0) [] (Ocs (by kernel_rfl) (op_iaddr_arr rfl (n := 2) (sz := 2) (y := (.loc 0 0)) (by kernel_rfl) (by kernel_rfl) (by kernel_rfl) (k := .i64) (iv := 0) (by kernel_rfl) (i := 0) (by rfl) (by decide))) ?_
          refine Wy (.agg [(.d (.lit (.int .i64 p0.a0.Cap))), (.d (.sl (List.length p0.a0.L) (flatD enc_GRun p0.a0.L)))]) [] (Old rfl) ?_
          obtain ⟨r45_4, hr45_4, hm⟩ := bnd hm
          refine Wy (.agg [(.d (.lit (.int .i64 r45_4.Cap))), (.own 3)]) [(3, (.arr 42 3 (List.length r45_4.L) (flatD enc_GRun r45_4.L)))] (Ocf [] [3] [] 0 (ok_telltalelaw21_All p0.a0 r45_4 hr45_4) (fun a w => Try.call8 a w) rfl trivial) ?_
          refine Wy (.loc 4 0) [(4, (.box [(.d (.lit (.int .i64 0))), (.d .nil)]))] (Oal rfl) ?_
          refine Wy (.tup []) [(4, (.box [(.d (.lit (.int .i64 r45_4.Cap))), (.own 3)]))] (Ost rfl) ?_
          refine Walk.nil ?_
          refine Then.normal ?_
          refine Amk 156 27 ⟨(tp 2 ((.d (.sl (List.length p2) (flatD encB p2))) :: ((.loc 0 0) :: ((.loc 1 0) :: (tp 2 ((.loc 4 0) :: (tp 153 []))))))), [(.box [(.d (.lit (.int .i64 p0.a0.Cap))), (.d (.sl (List.length p0.a0.L) (flatD enc_GRun p0.a0.L))), (.d (.lit (.int .i64 p0.a1.Cap))), (.d (.sl (List.length p0.a1.L) (flatD enc_GRun p0.a1.L)))]), (.box [(.d (.lit (.int .i64 p1.Place))), (.d (.sl (List.length p1.Bound) (flatD enc_GPair p1.Bound))), (.d (.lit (.int .u32 p1.Broken)))]), .gone, (.arr 42 3 (List.length r45_4.L) (flatD enc_GRun r45_4.L)), (.box [(.d (.lit (.int .i64 r45_4.Cap))), (.own 3)])], 0⟩ ?_
          refine AWP.seq ?_
          refine Adr ?_
          refine Wy (.agg [(.d (.lit (.int .i64 r45_4.Cap))), (.own 3)]) [] (Old rfl) ?_
          refine Wy (.agg [(.d (.lit (.int .i64 p1.Place))), (.d (.sl (List.length p1.Bound) (flatD enc_GPair p1.Bound))), (.d (.lit (.int .u32 p1.Broken)))]) [] (Old rfl) ?_
          obtain ⟨r49_5, hr49_5, hm⟩ := bnd hm
          refine Wy (.agg [(.d (.lit (.int .i64 r49_5.Place))), (.own 5), (.d (.lit (.int .u32 r49_5.Broken)))]) [(5, (.arr 93 6 (List.length r49_5.Bound) (flatD enc_GPair r49_5.Bound)))] (Ocf [] [5] [] 0 (ok_telltalelaw21_Own p1 r49_5 hr49_5) (fun a w => Try.call10 a w) rfl trivial) ?_
          obtain ⟨r50_5, hr50_5, hm⟩ := bnd hm
          refine Wy (.tup [(.agg [(.d (.lit (.int .i64 r50_5.1.Cap))), (.own 6)]), (.d (.lit (.int .i64 r50_5.2)))]) [(6, (.arr 42 3 (List.length r50_5.1.L) (flatD enc_GRun r50_5.1.L))), (3, (.fro 42 3 (List.length r45_4.L) (flatD enc_GRun r45_4.L))), (5, (.fro 93 6 (List.length r49_5.Bound) (flatD enc_GPair r49_5.Bound)))] (Ocf [] [6] [3, 5] 0 (ok_runs_Runs_Add r45_4 r49_5 r50_5 hr50_5) (fun a w => Try.call9 a w) rfl trivial) ?_
          refine Wy (.tup [(.agg [(.d (.lit (.int .i64 r50_5.1.Cap))), (.own 6)]), (.d (.lit (.int .i64 r50_5.2)))]) [] (Omv rfl) ?_
          refine Wy (.agg [(.d (.lit (.int .i64 r50_5.1.Cap))), (.own 6)]) [] (Oex rfl) ?_
          refine Wy (.d (.lit (.int .i64 r50_5.2))) [] (Oex rfl) ?_
          refine Wy (.loc 7 0) [(7, (.box [(.d (.lit (.int .i64 0))), (.d .nil)]))] (Oal rfl) ?_
          refine Wy (.tup []) [(7, (.box [(.d (.lit (.int .i64 r50_5.1.Cap))), (.own 6)]))] (Ost rfl) ?_
          refine Wy (.d (.lit (.int .i64 r50_5.2))) [] (Omv rfl) ?_
          refine Wdr ?_
          refine Then.normal ?_
          refine Amk 924 219 ⟨(tp 2 ((.d (.sl (List.length p2) (flatD encB p2))) :: ((.loc 0 0) :: ((.loc 1 0) :: (tp 2 ((.loc 4 0) :: ((.loc 7 0) :: ((.d (.lit (.int .i64 r50_5.2))) :: (tp 151 []))))))))), [(.box [(.d (.lit (.int .i64 p0.a0.Cap))), (.d (.sl (List.length p0.a0.L) (flatD enc_GRun p0.a0.L))), (.d (.lit (.int .i64 p0.a1.Cap))), (.d (.sl (List.length p0.a1.L) (flatD enc_GRun p0.a1.L)))]), (.box [(.d (.lit (.int .i64 p1.Place))), (.d (.sl (List.length p1.Bound) (flatD enc_GPair p1.Bound))), (.d (.lit (.int .u32 p1.Broken)))]), .gone, (.fro 42 3 (List.length r45_4.L) (flatD enc_GRun r45_4.L)), (.box [(.d (.lit (.int .i64 r45_4.Cap))), (.own 3)]), .gone, (.arr 42 3 (List.length r50_5.1.L) (flatD enc_GRun r50_5.1.L)), (.box [(.d (.lit (.int .i64 r50_5.1.Cap))), (.own 6)])], 0⟩ ?_
          refine AWP.seq ?_
          refine AWP.text ?_
          refine Wy (.loc 0 0) [] (Ocs (by kernel_rfl) (op_iaddr_arr rfl (n := 2) (sz := 2) (y := (.loc 0 0)) (by kernel_rfl) (by kernel_rfl) (by kernel_rfl) (k := .i64) (iv := 0) (by kernel_rfl) (i := 0) (by rfl) (by decide))) ?_
          refine Wy (.agg [(.d (.lit (.int .i64 p0.a0.Cap))), (.d (.sl (List.length p0.a0.L) (flatD enc_GRun p0.a0.L)))]) [] (Old rfl) ?_
          refine Wy (.agg [(.d (.lit (.int .i64 p1.Place))), (.d (.sl (List.length p1.Bound) (flatD enc_GPair p1.Bound))), (.d (.lit (.int .u32 p1.Broken)))]) [] (Old rfl) ?_
          obtain ⟨r57_6, hr57_6, hm⟩ := bnd hm
          refine Wy (.tup [(.agg [(.d (.lit (.int .i64 r57_6.1.Cap))), (.d (.sl (List.length r57_6.1.L) (flatD enc_GRun r57_6.1.L)))]), (.d (.lit (.int .i64 r57_6.2)))]) [] (Ocf [] [] [] 0 (ok_telltaleref21_Add p0.a0 p1 r57_6 hr57_6) (fun a w => Try.call11 a w) rfl trivial) ?_
          refine Wy (.tup [(.agg [(.d (.lit (.int .i64 r57_6.1.Cap))), (.d (.sl (List.length r57_6.1.L) (flatD enc_GRun r57_6.1.L)))]), (.d (.lit (.int .i64 r57_6.2)))]) [] (Omv rfl) ?_
          refine Wy (.agg [(.d (.lit (.int .i64 r57_6.1.Cap))), (.d (.sl (List.length r57_6.1.L) (flatD enc_GRun r57_6.1.L)))]) [] (Oex rfl) ?_
          refine Wy (.d (.lit (.int .i64 r57_6.2))) [] (Oex rfl) ?_
          refine Wy (.loc 8 0) [(8, (.box [(.d (.lit (.int .i64 0))), (.d .nil)]))] (Oal rfl) ?_
          refine Wy (.tup []) [(8, (.box [(.d (.lit (.int .i64 r57_6.1.Cap))), (.d (.sl (List.length r57_6.1.L) (flatD enc_GRun r57_6.1.L)))]))] (Ost rfl) ?_
          refine Wy (.d (.lit (.int .i64 r57_6.2))) [] (Omv rfl) ?_
          refine Walk.nil ?_
          refine Then.normal ?_
          refine Amk 3996 475 ⟨(tp 2 ((.d (.sl (List.length p2) (flatD encB p2))) :: ((.loc 0 0) :: ((.loc 1 0) :: (tp 2 ((.loc 4 0) :: ((.loc 7 0) :: ((.d (.lit (.int .i64 r50_5.2))) :: ((.loc 8 0) :: ((.d (.lit (.int .i64 r57_6.2))) :: (tp 149 []))))))))))), [(.box [(.d (.lit (.int .i64 p0.a0.Cap))), (.d (.sl (List.length p0.a0.L) (flatD enc_GRun p0.a0.L))), (.d (.lit (.int .i64 p0.a1.Cap))), (.d (.sl (List.length p0.a1.L) (flatD enc_GRun p0.a1.L)))]), (.box [(.d (.lit (.int .i64 p1.Place))), (.d (.sl (List.length p1.Bound) (flatD enc_GPair p1.Bound))), (.d (.lit (.int .u32 p1.Broken)))]), .gone, (.fro 42 3 (List.length r45_4.L) (flatD enc_GRun r45_4.L)), (.box [(.d (.lit (.int .i64 r45_4.Cap))), (.own 3)]), .gone, (.arr 42 3 (List.length r50_5.1.L) (flatD enc_GRun r50_5.1.L)), (.box [(.d (.lit (.int .i64 r50_5.1.Cap))), (.own 6)]), (.box [(.d (.lit (.int .i64 r57_6.1.Cap))), (.d (.sl (List.length r57_6.1.L) (flatD enc_GRun r57_6.1.L)))])], 0⟩ ?_
          refine AWP.seq ?_
          refine AWP.text ?_
          refine Wy (.loc 0 0) [] (Ocs (by kernel_rfl) (op_iaddr_arr rfl (n := 2) (sz := 2) (y := (.loc 0 0)) (by kernel_rfl) (by kernel_rfl) (by kernel_rfl) (k := .i64) (iv := 0) (by kernel_rfl) (i := 0) (by rfl) (by decide))) ?_
          refine Wy (.loc 0 0) [] (Ofa rfl) ?_
          refine Wy (.d (.lit (.int .i64 p0.a0.Cap))) [] (Old rfl) ?_
          obtain ⟨r64_7, hr64_7, hm⟩ := bnd hm
          refine Wy (.tup [(.agg [(.d (.lit (.int .i64 r64_7.1.Cap))), (.d (.sl (List.length r64_7.1.L) (flatD enc_GRun r64_7.1.L)))]), (.d (.lit (.int .i64 r64_7.2)))]) [] (Ocf [] [] [] 0 (ok_runs_New p0.a0.Cap r64_7 hr64_7) (fun a w => Try.call12 a w) rfl trivial) ?_
          refine Wy (.tup [(.agg [(.d (.lit (.int .i64 r64_7.1.Cap))), (.d (.sl (List.length r64_7.1.L) (flatD enc_GRun r64_7.1.L)))]), (.d (.lit (.int .i64 r64_7.2)))]) [] (Omv rfl) ?_
          refine Wy (.agg [(.d (.lit (.int .i64 r64_7.1.Cap))), (.d (.sl (List.length r64_7.1.L) (flatD enc_GRun r64_7.1.L)))]) [] (Oex rfl) ?_
          refine Wy (.d (.lit (.int .i64 r64_7.2))) [] (Oex rfl) ?_
          refine Wy (.loc 9 0) [(9, (.box [(.d (.lit (.int .i64 0))), (.d .nil)]))] (Oal rfl) ?_
          refine Wy (.tup []) [(9, (.box [(.d (.lit (.int .i64 r64_7.1.Cap))), (.d (.sl (List.length r64_7.1.L) (flatD enc_GRun r64_7.1.L)))]))] (Ost rfl) ?_
          refine Wy (.d (.lit (.int .i64 r64_7.2))) [] (Omv rfl) ?_
          refine Walk.nil ?_
          refine Then.normal ?_
          refine Amk 12188 475 ⟨(tp 2 ((.d (.sl (List.length p2) (flatD encB p2))) :: ((.loc 0 0) :: ((.loc 1 0) :: (tp 2 ((.loc 4 0) :: ((.loc 7 0) :: ((.d (.lit (.int .i64 r50_5.2))) :: ((.loc 8 0) :: ((.d (.lit (.int .i64 r57_6.2))) :: (tp 1 ((.d (.lit (.int .i64 r64_7.2))) :: (tp 147 []))))))))))))), [(.box [(.d (.lit (.int .i64 p0.a0.Cap))), (.d (.sl (List.length p0.a0.L) (flatD enc_GRun p0.a0.L))), (.d (.lit (.int .i64 p0.a1.Cap))), (.d (.sl (List.length p0.a1.L) (flatD enc_GRun p0.a1.L)))]), (.box [(.d (.lit (.int .i64 p1.Place))), (.d (.sl (List.length p1.Bound) (flatD enc_GPair p1.Bound))), (.d (.lit (.int .u32 p1.Broken)))]), .gone, (.fro 42 3 (List.length r45_4.L) (flatD enc_GRun r45_4.L)), (.box [(.d (.lit (.int .i64 r45_4.Cap))), (.own 3)]), .gone, (.arr 42 3 (List.length r50_5.1.L) (flatD enc_GRun r50_5.1.L)), (.box [(.d (.lit (.int .i64 r50_5.1.Cap))), (.own 6)]), (.box [(.d (.lit (.int .i64 r57_6.1.Cap))), (.d (.sl (List.length r57_6.1.L) (flatD enc_GRun r57_6.1.L)))]), .gone], 0⟩ ?_
          refine AWP.seq ?_
          refine AWP.text ?_
          refine Wy (.loc 0 0) [] (Ocs (by kernel_rfl) (op_iaddr_arr rfl (n := 2) (sz := 2) (y := (.loc 0 0)) (by kernel_rfl) (by kernel_rfl) (by kernel_rfl) (k := .i64) (iv := 0) (by kernel_rfl) (i := 0) (by rfl) (by decide))) ?_
          refine Wy (.loc 0 0) [] (Ofa rfl) ?_
          refine Wy (.d (.lit (.int .i64 p0.a0.Cap))) [] (Old rfl) ?_
          obtain ⟨r71_8, hr71_8, hm⟩ := bnd hm
          refine Wy (.tup [(.agg [(.d (.lit (.int .i64 r71_8.1.Cap))), (.d (.sl (List.length r71_8.1.L) (flatD enc_GRun r71_8.1.L)))]), (.d (.lit (.int .i64 r71_8.2)))]) [] (Ocf [] [] [] 0 (ok_telltaleref21_New p0.a0.Cap r71_8 hr71_8) (fun a w => Try.call13 a w) rfl trivial) ?_
          refine Wy (.tup [(.agg [(.d (.lit (.int .i64 r71_8.1.Cap))), (.d (.sl (List.length r71_8.1.L) (flatD enc_GRun r71_8.1.L)))]), (.d (.lit (.int .i64 r71_8.2)))]) [] (Omv rfl) ?_
          refine Wy (.agg [(.d (.lit (.int .i64 r71_8.1.Cap))), (.d (.sl (List.length r71_8.1.L) (flatD enc_GRun r71_8.1.L)))]) [] (Oex rfl) ?_
          refine Wy (.d (.lit (.int .i64 r71_8.2))) [] (Oex rfl) ?_
          refine Wy (.loc 10 0) [(10, (.box [(.d (.lit (.int .i64 0))), (.d .nil)]))] (Oal rfl) ?_
          refine Wy (.tup []) [(10, (.box [(.d (.lit (.int .i64 r71_8.1.Cap))), (.d (.sl (List.length r71_8.1.L) (flatD enc_GRun r71_8.1.L)))]))] (Ost rfl) ?_
          refine Wy (.d (.lit (.int .i64 r71_8.2))) [] (Omv rfl) ?_
          refine Walk.nil ?_
          refine Then.normal ?_
          refine Amk 44956 475 ⟨(tp 2 ((.d (.sl (List.length p2) (flatD encB p2))) :: ((.loc 0 0) :: ((.loc 1 0) :: (tp 2 ((.loc 4 0) :: ((.loc 7 0) :: ((.d (.lit (.int .i64 r50_5.2))) :: ((.loc 8 0) :: ((.d (.lit (.int .i64 r57_6.2))) :: (tp 1 ((.d (.lit (.int .i64 r64_7.2))) :: (tp 1 ((.d (.lit (.int .i64 r71_8.2))) :: (tp 145 []))))))))))))))), [(.box [(.d (.lit (.int .i64 p0.a0.Cap))), (.d (.sl (List.length p0.a0.L) (flatD enc_GRun p0.a0.L))), (.d (.lit (.int .i64 p0.a1.Cap))), (.d (.sl (List.length p0.a1.L) (flatD enc_GRun p0.a1.L)))]), (.box [(.d (.lit (.int .i64 p1.Place))), (.d (.sl (List.length p1.Bound) (flatD enc_GPair p1.Bound))), (.d (.lit (.int .u32 p1.Broken)))]), .gone, (.fro 42 3 (List.length r45_4.L) (flatD enc_GRun r45_4.L)), (.box [(.d (.lit (.int .i64 r45_4.Cap))), (.own 3)]), .gone, (.arr 42 3 (List.length r50_5.1.L) (flatD enc_GRun r50_5.1.L)), (.box [(.d (.lit (.int .i64 r50_5.1.Cap))), (.own 6)]), (.box [(.d (.lit (.int .i64 r57_6.1.Cap))), (.d (.sl (List.length r57_6.1.L) (flatD enc_GRun r57_6.1.L)))]), .gone, .gone], 0⟩ ?_
          refine AWP.seq ?_
          refine AWP.cutJ (α := Unit) (fun x => match x with | () => (⟨(tp 3 ((.loc 0 0) :: (tp 3 ((.loc 1 0) :: (tp 110 ((.d (.lit (.bool true))) :: (tp 42 []))))))), [(.box [(.d (.lit (.int .i64 p0.a0.Cap))), (.d (.sl (List.length p0.a0.L) (flatD enc_GRun p0.a0.L))), (.d (.lit (.int .i64 p0.a1.Cap))), (.d (.sl (List.length p0.a1.L) (flatD enc_GRun p0.a1.L)))]), (.box [(.d (.lit (.int .i64 r45_4.Cap))), (.d (.sl (List.length r45_4.L) (flatD enc_GRun r45_4.L)))])], 0⟩ : St)) (fun x => match x with | () => m_telltalelaw21_RunsDo_j10  = some r) ?_ (fun J10 => ?_)
          · rintro ⟨⟩ hm
            try dsimp only at hm ⊢
            unfold m_telltalelaw21_RunsDo_j10 at hm
            refine AWP.if_ true (by kernel_rfl) ?_
            refine AWP.seq ?_
            refine AWP.text ?_
            refine Wy (.d (.lit (.bool false))) [] (Omv rfl) ?_
            refine Walk.nil ?_
            refine Then.normal ?_
            refine AWP.ret ?_
            refine Then.ret ?_
            obtain rfl := Option.some.inj hm
            exact ret_i []
          refine AWP.seq ?_
          refine Adr ?_
          refine Wy (.agg [(.d (.lit (.int .i64 r50_5.1.Cap))), (.own 6)]) [] (Old rfl) ?_
          obtain ⟨r75_9, hr75_9, hm⟩ := bnd hm
          refine Wy (.agg [(.d (.lit (.int .i64 r75_9.Cap))), (.own 11)]) [(11, (.arr 29 3 (List.length r75_9.L) (flatD enc_GRun r75_9.L))), (6, (.fro 42 3 (List.length r50_5.1.L) (flatD enc_GRun r50_5.1.L)))] (Ocf [] [11] [6] 0 (ok_telltalelaw21_Back r50_5.1 r75_9 hr75_9) (fun a w => Try.call15 a w) rfl trivial) ?_
          refine Wy (.agg [(.d (.lit (.int .i64 r57_6.1.Cap))), (.d (.sl (List.length r57_6.1.L) (flatD enc_GRun r57_6.1.L)))]) [] (Old rfl) ?_
          obtain ⟨r77_9, hr77_9, hm⟩ := bnd hm
          refine Wy (.d (.lit (.bool r77_9))) [] (Ocp [] [] [11] 0 (ok_telltaleref21_Same r75_9 r57_6.1 r77_9 hr77_9) (plain_triv (by simp [A.Plain, A.Plains, D.Plain, byteD])) (fun a w => Try.call14 a w) rfl trivial) ?_
          refine Wy (.d (.lit (.bool (!r77_9)))) [] (Ocs (by kernel_rfl) (op_un rfl (a1 := .bool r77_9) (by kernel_rfl) (fun _ => hu_not))) ?_
          rcases tf_ (!r77_9) with hq79_9 | hq79_9
          · replace hm := cT hq79_9 hm
            refine Wy (.d (.lit (.bool true))) [] (Ocs (lit_tf (b := (!r77_9)) hq79_9) (Omv rfl)) ?_
            refine Wn ?_
            refine Wn ?_
            refine Wn ?_
            refine Wy (.d (.lit (.bool true))) [] (OpT rfl) ?_
            refine Wy (.d (.lit (.bool true))) [] (Omv rfl) ?_
            refine Wn ?_
            refine Wn ?_
            refine Wn ?_
            refine Wy (.d (.lit (.bool true))) [] (OpT rfl) ?_
            refine Wy (.d (.lit (.bool true))) [] (Omv rfl) ?_
            refine Wn ?_
            refine Wn ?_
            refine Wn ?_
            refine Wn ?_
            refine Wn ?_
            refine Wn ?_
            refine Wn ?_
            refine Wn ?_
            refine Wn ?_
            refine Wn ?_
            refine Wy (.d (.lit (.bool true))) [] (OpT rfl) ?_
            refine Wy (.d (.lit (.bool true))) [] (Omv rfl) ?_
            refine Wn ?_
            refine Wn ?_
            refine Wn ?_
            refine Wn ?_
            refine Wn ?_
            refine Wn ?_
            refine Wn ?_
            refine Wn ?_
            refine Wn ?_
            refine Wn ?_
            refine Wn ?_
            refine Wn ?_
            refine Wn ?_
            refine Wn ?_
            refine Wn ?_
            refine Wn ?_
            refine Wy (.d (.lit (.bool true))) [] (OpT rfl) ?_
            refine Wdr ?_
            refine Then.normal ?_
            refine Afz [3] ⟨(tp 2 ((.d (.sl (List.length p2) (flatD encB p2))) :: ((.loc 0 0) :: ((.loc 1 0) :: (tp 2 ((.loc 4 0) :: ((.loc 7 0) :: ((.d (.lit (.int .i64 r50_5.2))) :: ((.loc 8 0) :: ((.d (.lit (.int .i64 r57_6.2))) :: (tp 1 ((.d (.lit (.int .i64 r64_7.2))) :: (tp 1 ((.d (.lit (.int .i64 r71_8.2))) :: (tp 58 ((.agg [(.d (.lit (.int .i64 r50_5.1.Cap))), (.own 6)]) :: ((.agg [(.d (.lit (.int .i64 r75_9.Cap))), (.own 11)]) :: ((.agg [(.d (.lit (.int .i64 r57_6.1.Cap))), (.d (.sl (List.length r57_6.1.L) (flatD enc_GRun r57_6.1.L)))]) :: ((.d (.lit (.bool r77_9))) :: ((.d (.lit (.bool (!r77_9)))) :: ((.d (.lit (.bool true))) :: (tu 3 ((.d (.lit (.bool true))) :: ((.d (.lit (.bool true))) :: (tu 3 ((.d (.lit (.bool true))) :: ((.d (.lit (.bool true))) :: (tu 10 ((.d (.lit (.bool true))) :: ((.d (.lit (.bool true))) :: (tu 16 ((.d (.lit (.bool true))) :: (tp 42 []))))))))))))))))))))))))))))))))), [(.box [(.d (.lit (.int .i64 p0.a0.Cap))), (.d (.sl (List.length p0.a0.L) (flatD enc_GRun p0.a0.L))), (.d (.lit (.int .i64 p0.a1.Cap))), (.d (.sl (List.length p0.a1.L) (flatD enc_GRun p0.a1.L)))]), (.box [(.d (.lit (.int .i64 p1.Place))), (.d (.sl (List.length p1.Bound) (flatD enc_GPair p1.Bound))), (.d (.lit (.int .u32 p1.Broken)))]), .gone, (.fro 42 3 (List.length r45_4.L) (flatD enc_GRun r45_4.L)), (.box [(.d (.lit (.int .i64 r45_4.Cap))), (.d (.sl (List.length r45_4.L) (flatD enc_GRun r45_4.L)))]), .gone, (.fro 42 3 (List.length r50_5.1.L) (flatD enc_GRun r50_5.1.L)), (.box [(.d (.lit (.int .i64 r50_5.1.Cap))), (.own 6)]), (.box [(.d (.lit (.int .i64 r57_6.1.Cap))), (.d (.sl (List.length r57_6.1.L) (flatD enc_GRun r57_6.1.L)))]), .gone, .gone, (.arr 29 3 (List.length r75_9.L) (flatD enc_GRun r75_9.L))], 0⟩ ?_
            exact AWP.weak (Weak.toK 332306998946228968225951765070086280 0 0 [0, 4]) (J10 () hm)
          · replace hm := cF hq79_9 hm
            refine Wy (.d (.lit (.bool false))) [] (Ocs (lit_tf (b := (!r77_9)) hq79_9) (Omv rfl)) ?_
            refine Wy (.d (.lit (.int .i64 r50_5.2))) [] (Omv rfl) ?_
            refine Wy (.d (.lit (.int .i64 r57_6.2))) [] (Omv rfl) ?_
            refine Wy (.d (.lit (.bool (decide (r50_5.2 ≠ r57_6.2))))) [] (Obn rfl (fun _ => hb_neq (k := .i64))) ?_
            refine Wy (.d (.lit (.bool (decide (r50_5.2 ≠ r57_6.2))))) [] (OpF rfl) ?_
            rcases tf_ (decide (r50_5.2 ≠ r57_6.2)) with hq84_9 | hq84_9
            · replace hm := cT hq84_9 hm
              refine Wy (.d (.lit (.bool true))) [] (Ocs (lit_tf (b := decide (r50_5.2 ≠ r57_6.2)) hq84_9) (Omv rfl)) ?_
              refine Wn ?_
              refine Wn ?_
              refine Wn ?_
              refine Wy (.d (.lit (.bool true))) [] (OpT rfl) ?_
              refine Wy (.d (.lit (.bool true))) [] (Omv rfl) ?_
              refine Wn ?_
              refine Wn ?_
              refine Wn ?_
              refine Wn ?_
              refine Wn ?_
              refine Wn ?_
              refine Wn ?_
              refine Wn ?_
              refine Wn ?_
              refine Wn ?_
              refine Wy (.d (.lit (.bool true))) [] (OpT rfl) ?_
              refine Wy (.d (.lit (.bool true))) [] (Omv rfl) ?_
              refine Wn ?_
              refine Wn ?_
              refine Wn ?_
              refine Wn ?_
              refine Wn ?_
              refine Wn ?_
              refine Wn ?_
              refine Wn ?_
              refine Wn ?_
              refine Wn ?_
              refine Wn ?_
              refine Wn ?_
              refine Wn ?_
              refine Wn ?_
              refine Wn ?_
              refine Wn ?_
              refine Wy (.d (.lit (.bool true))) [] (OpT rfl) ?_
              refine Wdr ?_
              refine Then.normal ?_
              refine Afz [3] ⟨(tp 2 ((.d (.sl (List.length p2) (flatD encB p2))) :: ((.loc 0 0) :: ((.loc 1 0) :: (tp 2 ((.loc 4 0) :: ((.loc 7 0) :: ((.d (.lit (.int .i64 r50_5.2))) :: ((.loc 8 0) :: ((.d (.lit (.int .i64 r57_6.2))) :: (tp 1 ((.d (.lit (.int .i64 r64_7.2))) :: (tp 1 ((.d (.lit (.int .i64 r71_8.2))) :: (tp 58 ((.agg [(.d (.lit (.int .i64 r50_5.1.Cap))), (.own 6)]) :: ((.agg [(.d (.lit (.int .i64 r75_9.Cap))), (.own 11)]) :: ((.agg [(.d (.lit (.int .i64 r57_6.1.Cap))), (.d (.sl (List.length r57_6.1.L) (flatD enc_GRun r57_6.1.L)))]) :: ((.d (.lit (.bool r77_9))) :: ((.d (.lit (.bool (!r77_9)))) :: ((.d (.lit (.bool false))) :: ((.d (.lit (.int .i64 r50_5.2))) :: ((.d (.lit (.int .i64 r57_6.2))) :: ((.d (.lit (.bool (decide (r50_5.2 ≠ r57_6.2))))) :: ((.d (.lit (.bool (decide (r50_5.2 ≠ r57_6.2))))) :: ((.d (.lit (.bool true))) :: (tu 3 ((.d (.lit (.bool true))) :: ((.d (.lit (.bool true))) :: (tu 10 ((.d (.lit (.bool true))) :: ((.d (.lit (.bool true))) :: (tu 16 ((.d (.lit (.bool true))) :: (tp 42 []))))))))))))))))))))))))))))))))))), [(.box [(.d (.lit (.int .i64 p0.a0.Cap))), (.d (.sl (List.length p0.a0.L) (flatD enc_GRun p0.a0.L))), (.d (.lit (.int .i64 p0.a1.Cap))), (.d (.sl (List.length p0.a1.L) (flatD enc_GRun p0.a1.L)))]), (.box [(.d (.lit (.int .i64 p1.Place))), (.d (.sl (List.length p1.Bound) (flatD enc_GPair p1.Bound))), (.d (.lit (.int .u32 p1.Broken)))]), .gone, (.fro 42 3 (List.length r45_4.L) (flatD enc_GRun r45_4.L)), (.box [(.d (.lit (.int .i64 r45_4.Cap))), (.d (.sl (List.length r45_4.L) (flatD enc_GRun r45_4.L)))]), .gone, (.fro 42 3 (List.length r50_5.1.L) (flatD enc_GRun r50_5.1.L)), (.box [(.d (.lit (.int .i64 r50_5.1.Cap))), (.own 6)]), (.box [(.d (.lit (.int .i64 r57_6.1.Cap))), (.d (.sl (List.length r57_6.1.L) (flatD enc_GRun r57_6.1.L)))]), .gone, .gone, (.arr 29 3 (List.length r75_9.L) (flatD enc_GRun r75_9.L))], 0⟩ ?_
              exact AWP.weak (Weak.toK 332306998946228968225951765070086280 0 0 [0, 4]) (J10 () hm)
            · replace hm := cF hq84_9 hm
              refine Wy (.d (.lit (.bool false))) [] (Ocs (lit_tf (b := decide (r50_5.2 ≠ r57_6.2)) hq84_9) (Omv rfl)) ?_
              refine Wy (.d (.lit (.int .i64 r64_7.2))) [] (Omv rfl) ?_
              refine Wy (.d (.lit (.int .i64 r71_8.2))) [] (Omv rfl) ?_
              refine Wy (.d (.lit (.bool (decide (r64_7.2 ≠ r71_8.2))))) [] (Obn rfl (fun _ => hb_neq (k := .i64))) ?_
              refine Wy (.d (.lit (.bool (decide (r64_7.2 ≠ r71_8.2))))) [] (OpF rfl) ?_
              rcases tf_ (decide (r64_7.2 ≠ r71_8.2)) with hq89_9 | hq89_9
              · replace hm := cT hq89_9 hm
                refine Wy (.d (.lit (.bool true))) [] (Ocs (lit_tf (b := decide (r64_7.2 ≠ r71_8.2)) hq89_9) (Omv rfl)) ?_
                refine Wn ?_
                refine Wn ?_
                refine Wn ?_
                refine Wn ?_
                refine Wn ?_
                refine Wn ?_
                refine Wn ?_
                refine Wn ?_
                refine Wn ?_
                refine Wn ?_
                refine Wy (.d (.lit (.bool true))) [] (OpT rfl) ?_
                refine Wy (.d (.lit (.bool true))) [] (Omv rfl) ?_
                refine Wn ?_
                refine Wn ?_
                refine Wn ?_
                refine Wn ?_
                refine Wn ?_
                refine Wn ?_
                refine Wn ?_
                refine Wn ?_
                refine Wn ?_
                refine Wn ?_
                refine Wn ?_
                refine Wn ?_
                refine Wn ?_
                refine Wn ?_
                refine Wn ?_
                refine Wn ?_
                refine Wy (.d (.lit (.bool true))) [] (OpT rfl) ?_
                refine Wdr ?_
                refine Then.normal ?_
                refine Afz [3] ⟨(tp 2 ((.d (.sl (List.length p2) (flatD encB p2))) :: ((.loc 0 0) :: ((.loc 1 0) :: (tp 2 ((.loc 4 0) :: ((.loc 7 0) :: ((.d (.lit (.int .i64 r50_5.2))) :: ((.loc 8 0) :: ((.d (.lit (.int .i64 r57_6.2))) :: (tp 1 ((.d (.lit (.int .i64 r64_7.2))) :: (tp 1 ((.d (.lit (.int .i64 r71_8.2))) :: (tp 58 ((.agg [(.d (.lit (.int .i64 r50_5.1.Cap))), (.own 6)]) :: ((.agg [(.d (.lit (.int .i64 r75_9.Cap))), (.own 11)]) :: ((.agg [(.d (.lit (.int .i64 r57_6.1.Cap))), (.d (.sl (List.length r57_6.1.L) (flatD enc_GRun r57_6.1.L)))]) :: ((.d (.lit (.bool r77_9))) :: ((.d (.lit (.bool (!r77_9)))) :: ((.d (.lit (.bool false))) :: ((.d (.lit (.int .i64 r50_5.2))) :: ((.d (.lit (.int .i64 r57_6.2))) :: ((.d (.lit (.bool (decide (r50_5.2 ≠ r57_6.2))))) :: ((.d (.lit (.bool (decide (r50_5.2 ≠ r57_6.2))))) :: ((.d (.lit (.bool false))) :: ((.d (.lit (.int .i64 r64_7.2))) :: ((.d (.lit (.int .i64 r71_8.2))) :: ((.d (.lit (.bool (decide (r64_7.2 ≠ r71_8.2))))) :: ((.d (.lit (.bool (decide (r64_7.2 ≠ r71_8.2))))) :: ((.d (.lit (.bool true))) :: (tu 10 ((.d (.lit (.bool true))) :: ((.d (.lit (.bool true))) :: (tu 16 ((.d (.lit (.bool true))) :: (tp 42 []))))))))))))))))))))))))))))))))))))), [(.box [(.d (.lit (.int .i64 p0.a0.Cap))), (.d (.sl (List.length p0.a0.L) (flatD enc_GRun p0.a0.L))), (.d (.lit (.int .i64 p0.a1.Cap))), (.d (.sl (List.length p0.a1.L) (flatD enc_GRun p0.a1.L)))]), (.box [(.d (.lit (.int .i64 p1.Place))), (.d (.sl (List.length p1.Bound) (flatD enc_GPair p1.Bound))), (.d (.lit (.int .u32 p1.Broken)))]), .gone, (.fro 42 3 (List.length r45_4.L) (flatD enc_GRun r45_4.L)), (.box [(.d (.lit (.int .i64 r45_4.Cap))), (.d (.sl (List.length r45_4.L) (flatD enc_GRun r45_4.L)))]), .gone, (.fro 42 3 (List.length r50_5.1.L) (flatD enc_GRun r50_5.1.L)), (.box [(.d (.lit (.int .i64 r50_5.1.Cap))), (.own 6)]), (.box [(.d (.lit (.int .i64 r57_6.1.Cap))), (.d (.sl (List.length r57_6.1.L) (flatD enc_GRun r57_6.1.L)))]), .gone, .gone, (.arr 29 3 (List.length r75_9.L) (flatD enc_GRun r75_9.L))], 0⟩ ?_
                exact AWP.weak (Weak.toK 332306998946228968225951765070086280 0 0 [0, 4]) (J10 () hm)
              · replace hm := cF hq89_9 hm
                refine Wy (.d (.lit (.bool false))) [] (Ocs (lit_tf (b := decide (r64_7.2 ≠ r71_8.2)) hq89_9) (Omv rfl)) ?_
                refine Wy (.agg [(.d (.lit (.int .i64 r45_4.Cap))), (.own 3)]) [] (Old rfl) ?_
                refine Wy (.d (.sl (List.length p2) (flatD encB p2))) [] (Omv rfl) ?_
                obtain ⟨r92_9, hr92_9, hm⟩ := bnd hm
                refine Wy (.agg [(.d (.lit (.int .i64 r92_9.Cap))), (.own 12)]) [(12, (.arr 42 3 (List.length r92_9.L) (flatD enc_GRun r92_9.L))), (3, (.fro 42 3 (List.length r45_4.L) (flatD enc_GRun r45_4.L)))] (Ocf [] [12] [3] 0 (ok_runs_Runs_Keep r45_4 p2 r92_9 hr92_9) (fun a w => Try.call16 a w) rfl trivial) ?_
                obtain ⟨r93_9, hr93_9, hm⟩ := bnd hm
                refine Wy (.agg [(.d (.lit (.int .i64 r93_9.Cap))), (.own 13)]) [(13, (.arr 29 3 (List.length r93_9.L) (flatD enc_GRun r93_9.L))), (12, (.fro 42 3 (List.length r92_9.L) (flatD enc_GRun r92_9.L)))] (Ocf [] [13] [12] 0 (ok_telltalelaw21_Back r92_9 r93_9 hr93_9) (fun a w => Try.call15 a w) rfl trivial) ?_
                refine Wy (.loc 0 0) [] (Ocs (by kernel_rfl) (op_iaddr_arr rfl (n := 2) (sz := 2) (y := (.loc 0 0)) (by kernel_rfl) (by kernel_rfl) (by kernel_rfl) (k := .i64) (iv := 0) (by kernel_rfl) (i := 0) (by rfl) (by decide))) ?_
                refine Wy (.agg [(.d (.lit (.int .i64 p0.a0.Cap))), (.d (.sl (List.length p0.a0.L) (flatD enc_GRun p0.a0.L)))]) [] (Old rfl) ?_
                refine Wy (.d (.sl (List.length p2) (flatD encB p2))) [] (Omv rfl) ?_
                obtain ⟨r97_9, hr97_9, hm⟩ := bnd hm
                refine Wy (.agg [(.d (.lit (.int .i64 r97_9.Cap))), (.own 14)]) [(14, (.arr 29 3 (List.length r97_9.L) (flatD enc_GRun r97_9.L)))] (Ocf [] [14] [] 0 (ok_telltaleref21_Keep p0.a0 p2 r97_9 hr97_9) (fun a w => Try.call17 a w) rfl trivial) ?_
                obtain ⟨r98_9, hr98_9, hm⟩ := bnd hm
                refine Wy (.d (.lit (.bool r98_9))) [] (Ocp [] [] [13, 14] 0 (ok_telltaleref21_Same r93_9 r97_9 r98_9 hr98_9) (plain_triv (by simp [A.Plain, A.Plains, D.Plain, byteD])) (fun a w => Try.call14 a w) rfl trivial) ?_
                refine Wy (.d (.lit (.bool (!r98_9)))) [] (Ocs (by kernel_rfl) (op_un rfl (a1 := .bool r98_9) (by kernel_rfl) (fun _ => hu_not))) ?_
                refine Wy (.d (.lit (.bool (!r98_9)))) [] (OpF rfl) ?_
                rcases tf_ (!r98_9) with hq101_9 | hq101_9
                · replace hm := cT hq101_9 hm
                  refine Wy (.d (.lit (.bool true))) [] (Ocs (lit_tf (b := (!r98_9)) hq101_9) (Omv rfl)) ?_
                  refine Wn ?_
                  refine Wn ?_
                  refine Wn ?_
                  refine Wn ?_
                  refine Wn ?_
                  refine Wn ?_
                  refine Wn ?_
                  refine Wn ?_
                  refine Wn ?_
                  refine Wn ?_
                  refine Wn ?_
                  refine Wn ?_
                  refine Wn ?_
                  refine Wn ?_
                  refine Wn ?_
                  refine Wn ?_
                  refine Wy (.d (.lit (.bool true))) [] (OpT rfl) ?_
                  refine Wdr ?_
                  refine Then.normal ?_
                  refine Afz [3] ⟨(tp 2 ((.d (.sl (List.length p2) (flatD encB p2))) :: ((.loc 0 0) :: ((.loc 1 0) :: (tp 2 ((.loc 4 0) :: ((.loc 7 0) :: ((.d (.lit (.int .i64 r50_5.2))) :: ((.loc 8 0) :: ((.d (.lit (.int .i64 r57_6.2))) :: (tp 1 ((.d (.lit (.int .i64 r64_7.2))) :: (tp 1 ((.d (.lit (.int .i64 r71_8.2))) :: (tp 58 ((.agg [(.d (.lit (.int .i64 r50_5.1.Cap))), (.own 6)]) :: ((.agg [(.d (.lit (.int .i64 r75_9.Cap))), (.own 11)]) :: ((.agg [(.d (.lit (.int .i64 r57_6.1.Cap))), (.d (.sl (List.length r57_6.1.L) (flatD enc_GRun r57_6.1.L)))]) :: ((.d (.lit (.bool r77_9))) :: ((.d (.lit (.bool (!r77_9)))) :: ((.d (.lit (.bool false))) :: ((.d (.lit (.int .i64 r50_5.2))) :: ((.d (.lit (.int .i64 r57_6.2))) :: ((.d (.lit (.bool (decide (r50_5.2 ≠ r57_6.2))))) :: ((.d (.lit (.bool (decide (r50_5.2 ≠ r57_6.2))))) :: ((.d (.lit (.bool false))) :: ((.d (.lit (.int .i64 r64_7.2))) :: ((.d (.lit (.int .i64 r71_8.2))) :: ((.d (.lit (.bool (decide (r64_7.2 ≠ r71_8.2))))) :: ((.d (.lit (.bool (decide (r64_7.2 ≠ r71_8.2))))) :: ((.d (.lit (.bool false))) :: ((.agg [(.d (.lit (.int .i64 r45_4.Cap))), (.d (.sl (List.length r45_4.L) (flatD enc_GRun r45_4.L)))]) :: ((.d (.sl (List.length p2) (flatD encB p2))) :: ((.agg [(.d (.lit (.int .i64 r92_9.Cap))), (.own 12)]) :: ((.agg [(.d (.lit (.int .i64 r93_9.Cap))), (.own 13)]) :: ((.loc 0 0) :: ((.agg [(.d (.lit (.int .i64 p0.a0.Cap))), (.d (.sl (List.length p0.a0.L) (flatD enc_GRun p0.a0.L)))]) :: ((.d (.sl (List.length p2) (flatD encB p2))) :: ((.agg [(.d (.lit (.int .i64 r97_9.Cap))), (.own 14)]) :: ((.d (.lit (.bool r98_9))) :: ((.d (.lit (.bool (!r98_9)))) :: ((.d (.lit (.bool (!r98_9)))) :: ((.d (.lit (.bool true))) :: (tu 16 ((.d (.lit (.bool true))) :: (tp 42 [])))))))))))))))))))))))))))))))))))))))))))))), [(.box [(.d (.lit (.int .i64 p0.a0.Cap))), (.d (.sl (List.length p0.a0.L) (flatD enc_GRun p0.a0.L))), (.d (.lit (.int .i64 p0.a1.Cap))), (.d (.sl (List.length p0.a1.L) (flatD enc_GRun p0.a1.L)))]), (.box [(.d (.lit (.int .i64 p1.Place))), (.d (.sl (List.length p1.Bound) (flatD enc_GPair p1.Bound))), (.d (.lit (.int .u32 p1.Broken)))]), .gone, (.fro 42 3 (List.length r45_4.L) (flatD enc_GRun r45_4.L)), (.box [(.d (.lit (.int .i64 r45_4.Cap))), (.d (.sl (List.length r45_4.L) (flatD enc_GRun r45_4.L)))]), .gone, (.fro 42 3 (List.length r50_5.1.L) (flatD enc_GRun r50_5.1.L)), (.box [(.d (.lit (.int .i64 r50_5.1.Cap))), (.own 6)]), (.box [(.d (.lit (.int .i64 r57_6.1.Cap))), (.d (.sl (List.length r57_6.1.L) (flatD enc_GRun r57_6.1.L)))]), .gone, .gone, (.arr 29 3 (List.length r75_9.L) (flatD enc_GRun r75_9.L)), (.fro 42 3 (List.length r92_9.L) (flatD enc_GRun r92_9.L)), (.arr 29 3 (List.length r93_9.L) (flatD enc_GRun r93_9.L)), (.arr 29 3 (List.length r97_9.L) (flatD enc_GRun r97_9.L))], 0⟩ ?_
                  exact AWP.weak (Weak.toK 332306998946228968225951765070086280 0 0 [0, 4]) (J10 () hm)
                · replace hm := cF hq101_9 hm
                  refine Wy (.d (.lit (.bool false))) [] (Ocs (lit_tf (b := (!r98_9)) hq101_9) (Omv rfl)) ?_
                  refine Wy (.agg [(.d (.lit (.int .i64 r45_4.Cap))), (.own 3)]) [] (Old rfl) ?_
                  refine Wy (.loc 1 0) [] (Ofa rfl) ?_
                  refine Wy (.d (.lit (.int .i64 p1.Place))) [] (Old rfl) ?_
                  refine Wy (.loc 1 2) [] (Ofa rfl) ?_
                  refine Wy (.d (.lit (.int .u32 p1.Broken))) [] (Old rfl) ?_
                  obtain ⟨r107_9, hr107_9, hm⟩ := bnd hm
                  refine Wy (.agg [(.d (.lit (.int .i64 r107_9.Cap))), (.own 15)]) [(15, (.arr 42 3 (List.length r107_9.L) (flatD enc_GRun r107_9.L))), (3, (.fro 42 3 (List.length r45_4.L) (flatD enc_GRun r45_4.L)))] (Ocf [] [15] [3] 0 (ok_runs_Runs_Break r45_4 p1.Place p1.Broken r107_9 hr107_9) (fun a w => Try.call18 a w) rfl trivial) ?_
                  obtain ⟨r108_9, hr108_9, hm⟩ := bnd hm
                  refine Wy (.agg [(.d (.lit (.int .i64 r108_9.Cap))), (.own 16)]) [(16, (.arr 29 3 (List.length r108_9.L) (flatD enc_GRun r108_9.L))), (15, (.fro 42 3 (List.length r107_9.L) (flatD enc_GRun r107_9.L)))] (Ocf [] [16] [15] 0 (ok_telltalelaw21_Back r107_9 r108_9 hr108_9) (fun a w => Try.call15 a w) rfl trivial) ?_
                  refine Wy (.loc 0 0) [] (Ocs (by kernel_rfl) (op_iaddr_arr rfl (n := 2) (sz := 2) (y := (.loc 0 0)) (by kernel_rfl) (by kernel_rfl) (by kernel_rfl) (k := .i64) (iv := 0) (by kernel_rfl) (i := 0) (by rfl) (by decide))) ?_
                  refine Wy (.agg [(.d (.lit (.int .i64 p0.a0.Cap))), (.d (.sl (List.length p0.a0.L) (flatD enc_GRun p0.a0.L)))]) [] (Old rfl) ?_
                  refine Wy (.loc 1 0) [] (Ofa rfl) ?_
                  refine Wy (.d (.lit (.int .i64 p1.Place))) [] (Old rfl) ?_
                  refine Wy (.loc 1 2) [] (Ofa rfl) ?_
                  refine Wy (.d (.lit (.int .u32 p1.Broken))) [] (Old rfl) ?_
                  obtain ⟨r115_9, hr115_9, hm⟩ := bnd hm
                  refine Wy (.agg [(.d (.lit (.int .i64 r115_9.Cap))), (.own 17)]) [(17, (.arr 29 3 (List.length r115_9.L) (flatD enc_GRun r115_9.L)))] (Ocf [] [17] [] 0 (ok_telltaleref21_Break p0.a0 p1.Place p1.Broken r115_9 hr115_9) (fun a w => Try.call19 a w) rfl trivial) ?_
                  obtain ⟨r116_9, hr116_9, hm⟩ := bnd hm
                  refine Wy (.d (.lit (.bool r116_9))) [] (Ocp [] [] [16, 17] 0 (ok_telltaleref21_Same r108_9 r115_9 r116_9 hr116_9) (plain_triv (by simp [A.Plain, A.Plains, D.Plain, byteD])) (fun a w => Try.call14 a w) rfl trivial) ?_
                  refine Wy (.d (.lit (.bool (!r116_9)))) [] (Ocs (by kernel_rfl) (op_un rfl (a1 := .bool r116_9) (by kernel_rfl) (fun _ => hu_not))) ?_
                  refine Wy (.d (.lit (.bool (!r116_9)))) [] (OpF rfl) ?_
                  refine Wdr ?_
                  refine Then.normal ?_
                  refine Amk 332306998946228968225951765070086280 25 ⟨(tp 3 ((.loc 0 0) :: (tp 3 ((.loc 4 0) :: (tp 110 ((.d (.lit (.bool (!r116_9)))) :: (tp 42 []))))))), [(.box [(.d (.lit (.int .i64 p0.a0.Cap))), (.d (.sl (List.length p0.a0.L) (flatD enc_GRun p0.a0.L))), (.d (.lit (.int .i64 p0.a1.Cap))), (.d (.sl (List.length p0.a1.L) (flatD enc_GRun p0.a1.L)))]), .gone, .gone, (.fro 42 3 (List.length r45_4.L) (flatD enc_GRun r45_4.L)), (.box [(.d (.lit (.int .i64 r45_4.Cap))), (.own 3)]), .gone, .gone, .gone, .gone, .gone, .gone, .gone, .gone, .gone, .gone, .gone, .gone, .gone], 0⟩ ?_
                  rcases tf_ (!r116_9) with hc118_15 | hc118_15
                  · replace hm := cT hc118_15 hm
                    refine AWP.if_ true (Eq.trans (by kernel_rfl) (lit_tf (b := (!r116_9)) hc118_15)) ?_
                    refine AWP.seq ?_
                    refine AWP.text ?_
                    refine Wy (.d (.lit (.bool false))) [] (Omv rfl) ?_
                    refine Walk.nil ?_
                    refine Then.normal ?_
                    refine AWP.ret ?_
                    refine Then.ret ?_
                    obtain rfl := Option.some.inj hm
                    exact ret_i []
                  · replace hm := cF hc118_15 hm
                    refine AWP.if_ false (Eq.trans (by kernel_rfl) (lit_tf (b := (!r116_9)) hc118_15)) ?_
                    refine AWP.skip ?_
                    refine Then.normal ?_
                    refine Amk 136 25 ⟨(tp 3 ((.loc 0 0) :: (tp 3 ((.loc 4 0) :: (tp 153 []))))), [(.box [(.d (.lit (.int .i64 p0.a0.Cap))), (.d (.sl (List.length p0.a0.L) (flatD enc_GRun p0.a0.L))), (.d (.lit (.int .i64 p0.a1.Cap))), (.d (.sl (List.length p0.a1.L) (flatD enc_GRun p0.a1.L)))]), .gone, .gone, (.fro 42 3 (List.length r45_4.L) (flatD enc_GRun r45_4.L)), (.box [(.d (.lit (.int .i64 r45_4.Cap))), (.own 3)]), .gone, .gone, .gone, .gone, .gone, .gone, .gone, .gone, .gone, .gone, .gone, .gone, .gone], 0⟩ ?_
                    refine AWP.seq ?_
                    refine AWP.text ?_
                    refine Wy (.agg [(.d (.lit (.int .i64 r45_4.Cap))), (.own 3)]) [] (Old rfl) ?_
                    obtain ⟨r121_11, hr121_11, hm⟩ := bnd hm
                    refine Wy (.tup [(.d (.lit (.int .i64 r121_11.1))), (.d (.lit (.bool r121_11.2)))]) [] (Ocp [] [] [3] 0 (ok_runs_Runs_Least r45_4 r121_11 hr121_11) (plain_triv (by simp [A.Plain, A.Plains, D.Plain, byteD])) (fun a w => Try.call20 a w) rfl trivial) ?_
                    refine Wy (.tup [(.d (.lit (.int .i64 r121_11.1))), (.d (.lit (.bool r121_11.2)))]) [] (Omv rfl) ?_
                    refine Wy (.d (.lit (.int .i64 r121_11.1))) [] (Oex rfl) ?_
                    refine Wy (.d (.lit (.bool r121_11.2))) [] (Oex rfl) ?_
                    refine Wy (.d (.lit (.int .i64 r121_11.1))) [] (Omv rfl) ?_
                    refine Wy (.d (.lit (.bool r121_11.2))) [] (Omv rfl) ?_
                    refine Walk.nil ?_
                    refine Then.normal ?_
                    refine Amk 196744 25 ⟨(tp 3 ((.loc 0 0) :: (tp 3 ((.loc 4 0) :: (tp 8 ((.d (.lit (.int .i64 r121_11.1))) :: ((.d (.lit (.bool r121_11.2))) :: (tp 143 [])))))))), [(.box [(.d (.lit (.int .i64 p0.a0.Cap))), (.d (.sl (List.length p0.a0.L) (flatD enc_GRun p0.a0.L))), (.d (.lit (.int .i64 p0.a1.Cap))), (.d (.sl (List.length p0.a1.L) (flatD enc_GRun p0.a1.L)))]), .gone, .gone, (.fro 42 3 (List.length r45_4.L) (flatD enc_GRun r45_4.L)), (.box [(.d (.lit (.int .i64 r45_4.Cap))), (.own 3)]), .gone, .gone, .gone, .gone, .gone, .gone, .gone, .gone, .gone, .gone, .gone, .gone, .gone], 0⟩ ?_
                    refine AWP.seq ?_
                    refine AWP.text ?_
                    refine Wy (.loc 0 0) [] (Ocs (by kernel_rfl) (op_iaddr_arr rfl (n := 2) (sz := 2) (y := (.loc 0 0)) (by kernel_rfl) (by kernel_rfl) (by kernel_rfl) (k := .i64) (iv := 0) (by kernel_rfl) (i := 0) (by rfl) (by decide))) ?_
                    refine Wy (.agg [(.d (.lit (.int .i64 p0.a0.Cap))), (.d (.sl (List.length p0.a0.L) (flatD enc_GRun p0.a0.L)))]) [] (Old rfl) ?_
                    obtain ⟨r127_12, hr127_12, hm⟩ := bnd hm
                    refine Wy (.tup [(.d (.lit (.int .i64 r127_12.1))), (.d (.lit (.bool r127_12.2)))]) [] (Ocf [] [] [] 0 (ok_telltaleref21_Least p0.a0 r127_12 hr127_12) (fun a w => Try.call21 a w) rfl trivial) ?_
                    refine Wy (.tup [(.d (.lit (.int .i64 r127_12.1))), (.d (.lit (.bool r127_12.2)))]) [] (Omv rfl) ?_
                    refine Wy (.d (.lit (.int .i64 r127_12.1))) [] (Oex rfl) ?_
                    refine Wy (.d (.lit (.bool r127_12.2))) [] (Oex rfl) ?_
                    refine Wy (.d (.lit (.int .i64 r127_12.1))) [] (Omv rfl) ?_
                    refine Wy (.d (.lit (.bool r127_12.2))) [] (Omv rfl) ?_
                    refine Walk.nil ?_
                    refine Then.normal ?_
                    refine Amk 983176 25 ⟨(tp 3 ((.loc 0 0) :: (tp 3 ((.loc 4 0) :: (tp 8 ((.d (.lit (.int .i64 r121_11.1))) :: ((.d (.lit (.bool r121_11.2))) :: ((.d (.lit (.int .i64 r127_12.1))) :: ((.d (.lit (.bool r127_12.2))) :: (tp 141 [])))))))))), [(.box [(.d (.lit (.int .i64 p0.a0.Cap))), (.d (.sl (List.length p0.a0.L) (flatD enc_GRun p0.a0.L))), (.d (.lit (.int .i64 p0.a1.Cap))), (.d (.sl (List.length p0.a1.L) (flatD enc_GRun p0.a1.L)))]), .gone, .gone, (.fro 42 3 (List.length r45_4.L) (flatD enc_GRun r45_4.L)), (.box [(.d (.lit (.int .i64 r45_4.Cap))), (.own 3)]), .gone, .gone, .gone, .gone, .gone, .gone, .gone, .gone, .gone, .gone, .gone, .gone, .gone], 0⟩ ?_
                    refine AWP.seq ?_
                    refine Adr ?_
                    refine Wy (.d (.lit (.int .i64 r121_11.1))) [] (Omv rfl) ?_
                    refine Wy (.d (.lit (.int .i64 r127_12.1))) [] (Omv rfl) ?_
                    refine Wy (.d (.lit (.bool (decide (r121_11.1 = r127_12.1))))) [] (Obn rfl (fun _ => hb_eql (k := .i64))) ?_
                    rcases tf_ (decide (r121_11.1 = r127_12.1)) with hq133_13 | hq133_13
                    · replace hm := cT hq133_13 hm
                      refine Wy (.d (.lit (.bool true))) [] (Ocs (lit_tf (b := decide (r121_11.1 = r127_12.1)) hq133_13) (Omv rfl)) ?_
                      refine Wy (.d (.lit (.bool r121_11.2))) [] (Omv rfl) ?_
                      refine Wy (.d (.lit (.bool r127_12.2))) [] (Omv rfl) ?_
                      refine Wy (.d (.lit (.bool (decide (r121_11.2 = r127_12.2))))) [] (Ocs (by kernel_rfl) (op_bin rfl (a1 := .bool r121_11.2) (a2 := .bool r127_12.2) (by kernel_rfl) (by kernel_rfl) (fun _ => hb_beql (by kernel_rfl)))) ?_
                      refine Wy (.d (.lit (.bool (decide (r121_11.2 = r127_12.2))))) [] (OpT rfl) ?_
                      rcases tf_ (decide (r121_11.2 = r127_12.2)) with hq138_13 | hq138_13
                      · replace hm := cT hq138_13 hm
                        refine Wy (.d (.lit (.bool true))) [] (Ocs (lit_tf (b := decide (r121_11.2 = r127_12.2)) hq138_13) (Omv rfl)) ?_
                        refine Wy (.agg [(.d (.lit (.int .i64 r45_4.Cap))), (.own 3)]) [] (Old rfl) ?_
                        obtain ⟨r140_13, hr140_13, hm⟩ := bnd hm
                        refine Wy (.agg [(.d (.lit (.int .i64 r140_13.Cap))), (.own 18)]) [(18, (.arr 29 3 (List.length r140_13.L) (flatD enc_GRun r140_13.L))), (3, (.fro 42 3 (List.length r45_4.L) (flatD enc_GRun r45_4.L)))] (Ocf [] [18] [3] 0 (ok_telltalelaw21_Back r45_4 r140_13 hr140_13) (fun a w => Try.call15 a w) rfl trivial) ?_
                        refine Wy (.loc 0 0) [] (Ocs (by kernel_rfl) (op_iaddr_arr rfl (n := 2) (sz := 2) (y := (.loc 0 0)) (by kernel_rfl) (by kernel_rfl) (by kernel_rfl) (k := .i64) (iv := 0) (by kernel_rfl) (i := 0) (by rfl) (by decide))) ?_
                        refine Wy (.agg [(.d (.lit (.int .i64 p0.a0.Cap))), (.d (.sl (List.length p0.a0.L) (flatD enc_GRun p0.a0.L)))]) [] (Old rfl) ?_
                        obtain ⟨r143_13, hr143_13, hm⟩ := bnd hm
                        refine Wy (.d (.lit (.bool r143_13))) [] (Ocp [] [] [18] 0 (ok_telltaleref21_Same r140_13 p0.a0 r143_13 hr143_13) (plain_triv (by simp [A.Plain, A.Plains, D.Plain, byteD])) (fun a w => Try.call14 a w) rfl trivial) ?_
                        refine Wy (.d (.lit (.bool r143_13))) [] (OpT rfl) ?_
                        rcases tf_ r143_13 with hq145_13 | hq145_13
                        · replace hm := cT hq145_13 hm
                          refine Wy (.d (.lit (.bool true))) [] (Ocs (lit_tf (b := r143_13) hq145_13) (Omv rfl)) ?_
                          refine Wy (.agg [(.d (.lit (.int .i64 r45_4.Cap))), (.own 3)]) [] (Old rfl) ?_
                          refine Wy (.loc 0 2) [] (Ocs (by kernel_rfl) (op_iaddr_arr rfl (n := 2) (sz := 2) (y := (.loc 0 0)) (by kernel_rfl) (by kernel_rfl) (by kernel_rfl) (k := .i64) (iv := 1) (by kernel_rfl) (i := 1) (by rfl) (by decide))) ?_
                          refine Wy (.agg [(.d (.lit (.int .i64 p0.a1.Cap))), (.d (.sl (List.length p0.a1.L) (flatD enc_GRun p0.a1.L)))]) [] (Old rfl) ?_
                          obtain ⟨r149_13, hr149_13, hm⟩ := bnd hm
                          refine Wy (.agg [(.d (.lit (.int .i64 r149_13.Cap))), (.own 19)]) [(19, (.arr 42 3 (List.length r149_13.L) (flatD enc_GRun r149_13.L)))] (Ocf [] [19] [] 0 (ok_telltalelaw21_All p0.a1 r149_13 hr149_13) (fun a w => Try.call8 a w) rfl trivial) ?_
                          obtain ⟨r150_13, hr150_13, hm⟩ := bnd hm
                          refine Wy (.d (.lit (.bool r150_13))) [] (Ocp [] [] [3, 19] 0 (ok_runs_Same r45_4 r149_13 r150_13 hr150_13) (plain_triv (by simp [A.Plain, A.Plains, D.Plain, byteD])) (fun a w => Try.call22 a w) rfl trivial) ?_
                          refine Wy (.loc 0 0) [] (Ocs (by kernel_rfl) (op_iaddr_arr rfl (n := 2) (sz := 2) (y := (.loc 0 0)) (by kernel_rfl) (by kernel_rfl) (by kernel_rfl) (k := .i64) (iv := 0) (by kernel_rfl) (i := 0) (by rfl) (by decide))) ?_
                          refine Wy (.agg [(.d (.lit (.int .i64 p0.a0.Cap))), (.d (.sl (List.length p0.a0.L) (flatD enc_GRun p0.a0.L)))]) [] (Old rfl) ?_
                          refine Wy (.loc 0 2) [] (Ocs (by kernel_rfl) (op_iaddr_arr rfl (n := 2) (sz := 2) (y := (.loc 0 0)) (by kernel_rfl) (by kernel_rfl) (by kernel_rfl) (k := .i64) (iv := 1) (by kernel_rfl) (i := 1) (by rfl) (by decide))) ?_
                          refine Wy (.agg [(.d (.lit (.int .i64 p0.a1.Cap))), (.d (.sl (List.length p0.a1.L) (flatD enc_GRun p0.a1.L)))]) [] (Old rfl) ?_
                          obtain ⟨r155_13, hr155_13, hm⟩ := bnd hm
                          refine Wy (.d (.lit (.bool r155_13))) [] (Ocf [] [] [] 0 (ok_telltaleref21_Same p0.a0 p0.a1 r155_13 hr155_13) (fun a w => Try.call14 a w) rfl trivial) ?_
                          refine Wy (.d (.lit (.bool (decide (r150_13 = r155_13))))) [] (Ocs (by kernel_rfl) (op_bin rfl (a1 := .bool r150_13) (a2 := .bool r155_13) (by kernel_rfl) (by kernel_rfl) (fun _ => hb_beql (by kernel_rfl)))) ?_
                          refine Wy (.d (.lit (.bool (decide (r150_13 = r155_13))))) [] (OpT rfl) ?_
                          rcases tf_ (decide (r150_13 = r155_13)) with hq158_13 | hq158_13
                          · replace hm := cT hq158_13 hm
                            refine Wy (.d (.lit (.bool true))) [] (Ocs (lit_tf (b := decide (r150_13 = r155_13)) hq158_13) (Omv rfl)) ?_
                            obtain ⟨r159_13, hr159_13, hm⟩ := bnd hm
                            refine Wy (.d (.lit (.bool r159_13))) [] (Ocf [] [] [] 0 (ok_telltalelaw21_awake  r159_13 hr159_13) (fun a w => Try.call7 a w) rfl trivial) ?_
                            refine Wy (.d (.lit (.bool r159_13))) [] (OpT rfl) ?_
                            refine Wy (.d (.lit (.bool r159_13))) [] (Omv rfl) ?_
                            refine Wdr ?_
                            refine Then.normal ?_
                            refine AWP.ret ?_
                            obtain rfl := Option.some.inj hm
                            exact ret_i []
                          · replace hm := cF hq158_13 hm
                            refine Wy (.d (.lit (.bool false))) [] (Ocs (lit_tf (b := decide (r150_13 = r155_13)) hq158_13) (Omv rfl)) ?_
                            refine Wn ?_
                            refine Wy (.d (.lit (.bool false))) [] (OpF rfl) ?_
                            refine Wy (.d (.lit (.bool false))) [] (Omv rfl) ?_
                            refine Wdr ?_
                            refine Then.normal ?_
                            refine AWP.ret ?_
                            obtain rfl := Option.some.inj hm
                            exact ret_i []
                        · replace hm := cF hq145_13 hm
                          refine Wy (.d (.lit (.bool false))) [] (Ocs (lit_tf (b := r143_13) hq145_13) (Omv rfl)) ?_
                          refine Wn ?_
                          refine Wn ?_
                          refine Wn ?_
                          refine Wn ?_
                          refine Wn ?_
                          refine Wn ?_
                          refine Wn ?_
                          refine Wn ?_
                          refine Wn ?_
                          refine Wn ?_
                          refine Wn ?_
                          refine Wy (.d (.lit (.bool false))) [] (OpF rfl) ?_
                          refine Wy (.d (.lit (.bool false))) [] (Omv rfl) ?_
                          refine Wn ?_
                          refine Wy (.d (.lit (.bool false))) [] (OpF rfl) ?_
                          refine Wy (.d (.lit (.bool false))) [] (Omv rfl) ?_
                          refine Wdr ?_
                          refine Then.normal ?_
                          refine AWP.ret ?_
                          obtain rfl := Option.some.inj hm
                          exact ret_i []
                      · replace hm := cF hq138_13 hm
                        refine Wy (.d (.lit (.bool false))) [] (Ocs (lit_tf (b := decide (r121_11.2 = r127_12.2)) hq138_13) (Omv rfl)) ?_
                        refine Wn ?_
                        refine Wn ?_
                        refine Wn ?_
                        refine Wn ?_
                        refine Wn ?_
                        refine Wy (.d (.lit (.bool false))) [] (OpF rfl) ?_
                        refine Wy (.d (.lit (.bool false))) [] (Omv rfl) ?_
                        refine Wn ?_
                        refine Wn ?_
                        refine Wn ?_
                        refine Wn ?_
                        refine Wn ?_
                        refine Wn ?_
                        refine Wn ?_
                        refine Wn ?_
                        refine Wn ?_
                        refine Wn ?_
                        refine Wn ?_
                        refine Wy (.d (.lit (.bool false))) [] (OpF rfl) ?_
                        refine Wy (.d (.lit (.bool false))) [] (Omv rfl) ?_
                        refine Wn ?_
                        refine Wy (.d (.lit (.bool false))) [] (OpF rfl) ?_
                        refine Wy (.d (.lit (.bool false))) [] (Omv rfl) ?_
                        refine Wdr ?_
                        refine Then.normal ?_
                        refine AWP.ret ?_
                        obtain rfl := Option.some.inj hm
                        exact ret_i []
                    · replace hm := cF hq133_13 hm
                      refine Wy (.d (.lit (.bool false))) [] (Ocs (lit_tf (b := decide (r121_11.1 = r127_12.1)) hq133_13) (Omv rfl)) ?_
                      refine Wn ?_
                      refine Wn ?_
                      refine Wn ?_
                      refine Wy (.d (.lit (.bool false))) [] (OpF rfl) ?_
                      refine Wy (.d (.lit (.bool false))) [] (Omv rfl) ?_
                      refine Wn ?_
                      refine Wn ?_
                      refine Wn ?_
                      refine Wn ?_
                      refine Wn ?_
                      refine Wy (.d (.lit (.bool false))) [] (OpF rfl) ?_
                      refine Wy (.d (.lit (.bool false))) [] (Omv rfl) ?_
                      refine Wn ?_
                      refine Wn ?_
                      refine Wn ?_
                      refine Wn ?_
                      refine Wn ?_
                      refine Wn ?_
                      refine Wn ?_
                      refine Wn ?_
                      refine Wn ?_
                      refine Wn ?_
                      refine Wn ?_
                      refine Wy (.d (.lit (.bool false))) [] (OpF rfl) ?_
                      refine Wy (.d (.lit (.bool false))) [] (Omv rfl) ?_
                      refine Wn ?_
                      refine Wy (.d (.lit (.bool false))) [] (OpF rfl) ?_
                      refine Wy (.d (.lit (.bool false))) [] (Omv rfl) ?_
                      refine Wdr ?_
                      refine Then.normal ?_
                      refine AWP.ret ?_
                      obtain rfl := Option.some.inj hm
                      exact ret_i []

set_option maxRecDepth 20000 in
set_option maxHeartbeats 4000000 in
theorem ok_telltaleref21_Held (p0 : Int) (r : Int) (h : m_telltaleref21_Held p0 = some r) : GCall Try.prog 55 [(.d (.lit (.int .i64 p0)))] [] (.d (.lit (.int .i64 r))) [] := by
  refine GCall.of_body (n := 6) (rs := [(.tmp 2)]) Try.func55 rfl rfl rfl ?_
  refine Ato ⟨((.d (.lit (.int .i64 p0))) :: (tu 5 [])), [], 0⟩ ?_
  have hm := h
  unfold m_telltaleref21_Held at hm
  refine AWP.seq ?_
  refine AWP.text ?_
  refine Wy (.d (.lit (.int .i64 0))) [] (Omv rfl) ?_
  refine Walk.nil ?_
  refine Then.normal ?_
  refine Amk 1 0 ⟨((.d (.lit (.int .i64 p0))) :: (tp 5 [])), [], 0⟩ ?_
  refine AWP.seq ?_
  refine AWP.text ?_
  refine Wy (.d (.lit (.int .i64 p0))) [] (Omv rfl) ?_
  refine Wy (.d (.lit (.int .i64 (min 1099511627776 p0)))) [] (op_bi2 rfl (a1 := .int .i64 1099511627776) (a2 := .int .i64 p0) (by kernel_rfl) (by kernel_rfl) hb_min) ?_
  refine Wy (.d (.lit (.int .i64 (max 0 (min 1099511627776 p0))))) [] (op_bi2 rfl (a1 := .int .i64 0) (a2 := .int .i64 (min 1099511627776 p0)) (by kernel_rfl) (by kernel_rfl) hb_max) ?_
  refine Wy (.d (.lit (.int .i64 (max 0 (min 1099511627776 p0))))) [] (Omv rfl) ?_
  refine Walk.nil ?_
  refine Then.normal ?_
  refine AWP.ret ?_
  obtain rfl := Option.some.inj hm
  exact ret_i []

set_option maxRecDepth 20000 in
set_option maxHeartbeats 4000000 in
theorem ok_telltaleref21_Early (p0 : (List GPair)) (p1 : Int) (p2 : Int) (r : Bool) (h : m_telltaleref21_Early p0 p1 p2 = some r) : GCall Try.prog 44 [(.d (.sl (List.length p0) (flatD enc_GPair p0))), (.d (.lit (.int .i64 p1))), (.d (.lit (.int .i64 p2)))] [] (.d (.lit (.bool r))) [] := by
  refine GCall.of_body (n := 24) (rs := [(.tmp 6)]) Try.func44 rfl rfl rfl ?_
  refine Ato ⟨((.d (.sl (List.length p0) (flatD enc_GPair p0))) :: ((.d (.lit (.int .i64 p1))) :: ((.d (.lit (.int .i64 p2))) :: (tu 21 [])))), [], 0⟩ ?_
  have hm := h
  unfold m_telltaleref21_Early at hm
  refine AWP.seq ?_
  refine AWP.text ?_
  refine Wy (.d (.lit (.bool false))) [] (Omv rfl) ?_
  refine Walk.nil ?_
  refine Then.normal ?_
  refine Amk 7 0 ⟨((.d (.sl (List.length p0) (flatD enc_GPair p0))) :: ((.d (.lit (.int .i64 p1))) :: ((.d (.lit (.int .i64 p2))) :: (tp 21 [])))), [], 0⟩ ?_
  refine AWP.seq ?_
  refine Adr ?_
  refine Wy (.d (.sl (List.length p0) (flatD enc_GPair p0))) [] (Omv rfl) ?_
  refine Wy (.d (.lit (.int .i64 ((List.length p0 : Nat) : Int)))) [] (Oln rfl) ?_
  refine Wy (.d (.lit (.bool (decide ((0 : Int) < ((List.length p0 : Nat) : Int)))))) [] (Obn rfl (fun _ => hb_gtr (k := .i64))) ?_
  rcases tf_ (decide ((0 : Int) < ((List.length p0 : Nat) : Int))) with hq10_0 | hq10_0
  · replace hm := cT hq10_0 hm
    refine Wy (.d (.lit (.bool true))) [] (Ocs (lit_tf (b := decide ((0 : Int) < ((List.length p0 : Nat) : Int))) hq10_0) (Omv rfl)) ?_
    refine Wy (.d (.lit (.int .i64 p1))) [] (Omv rfl) ?_
    obtain ⟨r12_0, hr12_0, hm⟩ := bnd hm
    refine Wy (.d (.lit (.int .i64 r12_0))) [] (Ocf [] [] [] 0 (ok_telltaleref21_Held p1 r12_0 hr12_0) (fun a w => Try.call55 a w) rfl trivial) ?_
    refine Wy (.d (.sl (List.length p0) (flatD enc_GPair p0))) [] (Omv rfl) ?_
    obtain ⟨x14_0, hx14_0, hm⟩ := bnd hm
    obtain ⟨hx14_0i, hx14_0g⟩ := geti_some hx14_0
    refine Wy (.d (.ref (List.drop ((Int.toNat 0) * 6) (flatD enc_GPair p0)))) [] (Oia rfl enc_GPair_len hx14_0i hx14_0g) ?_
    refine Wy (.d (.ref (List.drop 1 (List.drop ((Int.toNat 0) * 6) (flatD enc_GPair p0))))) [] (Ofa rfl) ?_
    refine Wy (.d (.ref (List.drop 1 (List.drop ((Int.toNat 0) * 6) (flatD enc_GPair p0))))) [] (Ofa rfl) ?_
    refine Wy (.d (.lit (.int .i64 x14_0.E.Time))) [] (Lfk1 1 rfl enc_GPair_len hx14_0g) ?_
    obtain ⟨r18_0, hr18_0, hm⟩ := bnd hm
    refine Wy (.d (.lit (.int .i64 r18_0))) [] (Ocf [] [] [] 0 (ok_telltaleref21_Held x14_0.E.Time r18_0 hr18_0) (fun a w => Try.call55 a w) rfl trivial) ?_
    refine Wy (.d (.lit (.int .i64 (IntKind.i64.wrap (r12_0 - r18_0))))) [] (Obn rfl (fun _ => hb_sub (k := .i64))) ?_
    refine Wy (.d (.lit (.int .i64 p2))) [] (Omv rfl) ?_
    obtain ⟨r21_0, hr21_0, hm⟩ := bnd hm
    refine Wy (.d (.lit (.int .i64 r21_0))) [] (Ocf [] [] [] 0 (ok_telltaleref21_Held p2 r21_0 hr21_0) (fun a w => Try.call55 a w) rfl trivial) ?_
    refine Wy (.d (.lit (.bool (decide (r21_0 < (IntKind.i64.wrap (r12_0 - r18_0))))))) [] (Obn rfl (fun _ => hb_gtr (k := .i64))) ?_
    refine Wy (.d (.lit (.bool (decide (r21_0 < (IntKind.i64.wrap (r12_0 - r18_0))))))) [] (OpT rfl) ?_
    refine Wy (.d (.lit (.bool (decide (r21_0 < (IntKind.i64.wrap (r12_0 - r18_0))))))) [] (Omv rfl) ?_
    refine Wdr ?_
    refine Then.normal ?_
    refine AWP.ret ?_
    obtain rfl := Option.some.inj hm
    exact ret_i []
  · replace hm := cF hq10_0 hm
    refine Wy (.d (.lit (.bool false))) [] (Ocs (lit_tf (b := decide ((0 : Int) < ((List.length p0 : Nat) : Int))) hq10_0) (Omv rfl)) ?_
    refine Wn ?_
    refine Wn ?_
    refine Wn ?_
    refine Wn ?_
    refine Wn ?_
    refine Wn ?_
    refine Wn ?_
    refine Wn ?_
    refine Wn ?_
    refine Wn ?_
    refine Wn ?_
    refine Wn ?_
    refine Wy (.d (.lit (.bool false))) [] (OpF rfl) ?_
    refine Wy (.d (.lit (.bool false))) [] (Omv rfl) ?_
    refine Wdr ?_
    refine Then.normal ?_
    refine AWP.ret ?_
    obtain rfl := Option.some.inj hm
    exact ret_i []
end Go.Proofs.Ytlbajkdbbffefaa.K
