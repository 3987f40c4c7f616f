/- each function computes what its model says (1) -/
import Derived.Test.YtlbajkdbbffefaaL0
namespace Go.Proofs.Ytlbajkdbbffefaa.K
open Go.RowKit Go.Lib
set_option linter.unusedVariables false
set_option linter.unusedSimpArgs false

set_option maxRecDepth 20000 in
set_option maxHeartbeats 4000000 in
theorem ok_cmp_Or_int (p0 : (List Int)) (r : Int) (h : m_cmp_Or_int p0 = some r) : GCall Try.prog 57 [(.d (.sl (List.length p0) (flatD (encI .i64) p0)))] [] (.d (.lit (.int .i64 r))) [] := by
  refine GCall.of_body (n := 18) (rs := [(.tmp 2)]) Try.func57 rfl rfl rfl ?_
  refine Ato ⟨((.d (.sl (List.length p0) (flatD (encI .i64) p0))) :: (tu 17 [])), [], 0⟩ ?_
  have hm := h
  unfold m_cmp_Or_int at hm
  refine AWP.seq ?_
  refine AWP.text ?_
  refine Wy (.d (.lit (.int .i64 0))) [] (Omv rfl) ?_
  refine Walk.nil ?_
  refine Then.normal ?_
  refine Amk 1 0 ⟨((.d (.sl (List.length p0) (flatD (encI .i64) p0))) :: (tp 17 [])), [], 0⟩ ?_
  refine AWP.seq ?_
  refine AWP.text ?_
  refine Wy (.d (.lit (.int .i64 0))) [] (Omv rfl) ?_
  refine Walk.nil ?_
  refine Then.normal ?_
  refine Amk 9 0 ⟨((.d (.sl (List.length p0) (flatD (encI .i64) p0))) :: (tp 2 ((.d (.lit (.int .i64 0))) :: (tp 14 [])))), [], 0⟩ ?_
  refine AWP.seq ?_
  refine AWP.seq ?_
  refine AWP.text ?_
  refine Wy (.d (.sl (List.length p0) (flatD (encI .i64) p0))) [] (Omv rfl) ?_
  refine Wy (.d (.lit (.int .i64 ((List.length p0 : Nat) : Int)))) [] (Oln rfl) ?_
  refine Wy (.d (.lit (.int .i64 0))) [] (Omv rfl) ?_
  refine Walk.nil ?_
  refine Then.normal ?_
  refine Amk 456 0 ⟨(tp 3 ((.d (.lit (.int .i64 0))) :: (tp 2 ((.d (.sl (List.length p0) (flatD (encI .i64) p0))) :: ((.d (.lit (.int .i64 ((List.length p0 : Nat) : Int)))) :: ((.d (.lit (.int .i64 0))) :: (tp 9 []))))))), [], 0⟩ ?_
  refine AWP.block ?_
  refine AWP.loopI (α := Nat × Int)
    (fun x => match x with | (fu_1, y8_1) => (⟨(tp 3 ((.d (.lit (.int .i64 0))) :: (tp 2 ((.d (.sl (List.length p0) (flatD (encI .i64) p0))) :: ((.d (.lit (.int .i64 ((List.length p0 : Nat) : Int)))) :: ((.d (.lit (.int .i64 y8_1))) :: (tp 9 []))))))), [], 0⟩ : St))
    (fun x => match x with | (fu_1, y8_1) => m_cmp_Or_int_l1 p0 fu_1 y8_1 = some r)
    (fun x => match x with | (fu_1, y8_1) => fu_1) (1152921504606846976, 0)
    (Weak.toK 456 0 0 []) hm ?_
  rintro ⟨fu_1, y8_1⟩ n_1 hm ih_1
  try dsimp only at hm ih_1 ⊢
  cases fu_1 with
  | zero => exact absurd hm (by unfold m_cmp_Or_int_l1; simp)
  | succ fu_1 =>
    unfold m_cmp_Or_int_l1 at hm
    refine AWP.seq ?_
    refine AWP.text ?_
    refine Wy (.d (.lit (.bool (decide (y8_1 < ((List.length p0 : Nat) : Int)))))) [] (Obn rfl (fun _ => hb_lss (k := .i64))) ?_
    refine Walk.nil ?_
    refine Then.normal ?_
    refine Amk 968 0 ⟨(tp 3 ((.d (.lit (.int .i64 0))) :: (tp 2 ((.d (.sl (List.length p0) (flatD (encI .i64) p0))) :: ((.d (.lit (.int .i64 ((List.length p0 : Nat) : Int)))) :: ((.d (.lit (.int .i64 y8_1))) :: ((.d (.lit (.bool (decide (y8_1 < ((List.length p0 : Nat) : Int)))))) :: (tp 8 [])))))))), [], 0⟩ ?_
    refine AWP.seq ?_
    rcases tf_ (decide (y8_1 < ((List.length p0 : Nat) : Int))) with hc9_3 | hc9_3
    · replace hm := cT hc9_3 hm
      refine AWP.if_ true (Eq.trans (by kernel_rfl) (lit_tf (b := decide (y8_1 < ((List.length p0 : Nat) : Int))) hc9_3)) ?_
      refine AWP.skip ?_
      refine Then.normal ?_
      refine Amk 456 0 ⟨(tp 3 ((.d (.lit (.int .i64 0))) :: (tp 2 ((.d (.sl (List.length p0) (flatD (encI .i64) p0))) :: ((.d (.lit (.int .i64 ((List.length p0 : Nat) : Int)))) :: ((.d (.lit (.int .i64 y8_1))) :: (tp 9 []))))))), [], 0⟩ ?_
      refine AWP.seq ?_
      refine AWP.block ?_
      refine AWP.seq ?_
      refine AWP.text ?_
      obtain ⟨x10_2, hx10_2, hm⟩ := bnd hm
      obtain ⟨hx10_2i, hx10_2g⟩ := geti_some hx10_2
      refine Wy (.d (.ref (List.drop ((Int.toNat y8_1) * 1) (flatD (encI .i64) p0)))) [] (Oia rfl (encI_len (k := .i64)) hx10_2i hx10_2g) ?_
      refine Wy (.d (.lit (.int .i64 x10_2))) [] (Lf1 rfl (encI_len (k := .i64)) hx10_2g) ?_
      refine Wy (.d (.lit (.int .i64 x10_2))) [] (Omv rfl) ?_
      refine Walk.nil ?_
      refine Then.normal ?_
      refine Amk 488 0 ⟨(tp 3 ((.d (.lit (.int .i64 0))) :: (tp 1 ((.d (.lit (.int .i64 x10_2))) :: ((.d (.sl (List.length p0) (flatD (encI .i64) p0))) :: ((.d (.lit (.int .i64 ((List.length p0 : Nat) : Int)))) :: ((.d (.lit (.int .i64 y8_1))) :: (tp 9 [])))))))), [], 0⟩ ?_
      refine AWP.seq ?_
      refine AWP.text ?_
      refine Wy (.d (.lit (.int .i64 x10_2))) [] (Omv rfl) ?_
      refine Wy (.d (.lit (.int .i64 0))) [] (Omv rfl) ?_
      refine Wy (.d (.lit (.bool (decide (x10_2 ≠ 0))))) [] (Obn rfl (fun _ => hb_neq (k := .i64))) ?_
      refine Walk.nil ?_
      refine Then.normal ?_
      refine Amk 16872 0 ⟨(tp 3 ((.d (.lit (.int .i64 0))) :: (tp 1 ((.d (.lit (.int .i64 x10_2))) :: ((.d (.sl (List.length p0) (flatD (encI .i64) p0))) :: ((.d (.lit (.int .i64 ((List.length p0 : Nat) : Int)))) :: ((.d (.lit (.int .i64 y8_1))) :: (tp 5 ((.d (.lit (.bool (decide (x10_2 ≠ 0))))) :: (tp 3 [])))))))))), [], 0⟩ ?_
      rcases tf_ (decide (x10_2 ≠ 0)) with hc14_4 | hc14_4
      · replace hm := cT hc14_4 hm
        refine AWP.if_ true (Eq.trans (by kernel_rfl) (lit_tf (b := decide (x10_2 ≠ 0)) hc14_4)) ?_
        refine AWP.seq ?_
        refine AWP.text ?_
        refine Wy (.d (.lit (.int .i64 x10_2))) [] (Omv rfl) ?_
        refine Wy (.d (.lit (.int .i64 x10_2))) [] (Omv rfl) ?_
        refine Walk.nil ?_
        refine Then.normal ?_
        refine AWP.ret ?_
        refine InBlock.ret ?_
        refine Then.ret ?_
        refine RoundK.ret ?_
        refine InBlock.ret ?_
        refine Then.ret ?_
        obtain rfl := Option.some.inj hm
        exact ret_i []
      · replace hm := cF hc14_4 hm
        refine AWP.if_ false (Eq.trans (by kernel_rfl) (lit_tf (b := decide (x10_2 ≠ 0)) hc14_4)) ?_
        refine AWP.skip ?_
        refine InBlock.normal ?_
        refine Then.normal ?_
        refine Amk 456 0 ⟨(tp 3 ((.d (.lit (.int .i64 0))) :: (tp 2 ((.d (.sl (List.length p0) (flatD (encI .i64) p0))) :: ((.d (.lit (.int .i64 ((List.length p0 : Nat) : Int)))) :: ((.d (.lit (.int .i64 y8_1))) :: (tp 9 []))))))), [], 0⟩ ?_
        refine AWP.text ?_
        refine Wy (.d (.lit (.int .i64 (IntKind.i64.wrap (y8_1 + 1))))) [] (Obn rfl (fun _ => hb_add (k := .i64))) ?_
        refine Wy (.d (.lit (.int .i64 (IntKind.i64.wrap (y8_1 + 1))))) [] (Omv rfl) ?_
        refine Walk.nil ?_
        refine RoundK.normal ?_
        exact Rounds.weak (Weak.toK 456 0 0 []) (ih_1 (fu_1, (IntKind.i64.wrap (y8_1 + 1))) hm (Nat.lt_succ_self _))
    · replace hm := cF hc9_3 hm
      refine AWP.if_ false (Eq.trans (by kernel_rfl) (lit_tf (b := decide (y8_1 < ((List.length p0 : Nat) : Int))) hc9_3)) ?_
      refine AWP.exit ?_
      refine Then.exit ?_
      refine RoundK.exit ?_
      refine InBlock.same ?_
      refine Then.normal ?_
      refine Amk 8 0 ⟨(tp 3 ((.d (.lit (.int .i64 0))) :: (tp 14 []))), [], 0⟩ ?_
      refine AWP.seq ?_
      refine AWP.text ?_
      refine Wy (.d (.lit (.int .i64 0))) [] (Omv rfl) ?_
      refine Wy (.d (.lit (.int .i64 0))) [] (Omv rfl) ?_
      refine Walk.nil ?_
      refine Then.normal ?_
      refine AWP.ret ?_
      obtain rfl := Option.some.inj hm
      exact ret_i []

set_option maxRecDepth 20000 in
set_option maxHeartbeats 4000000 in
theorem ok_bind_order (p0 : GPair) (p1 : GPair) (r : Int) (h : m_bind_order p0 p1 = some r) : GCall Try.prog 46 [(.agg [(.d (.lit (.string (toS p0.Var)))), (.d (.lit (.int .i64 p0.E.Time))), (.d (.lit (.int .i64 p0.E.Source))), (.d (.lit (.int .i64 p0.E.Seq))), (.d (.lit (.string (toS p0.E.Type_)))), (.d (.sl (List.length p0.E.Vals) (flatD enc_GValue p0.E.Vals)))]), (.agg [(.d (.lit (.string (toS p1.Var)))), (.d (.lit (.int .i64 p1.E.Time))), (.d (.lit (.int .i64 p1.E.Source))), (.d (.lit (.int .i64 p1.E.Seq))), (.d (.lit (.string (toS p1.E.Type_)))), (.d (.sl (List.length p1.E.Vals) (flatD enc_GValue p1.E.Vals)))])] [] (.d (.lit (.int .i64 r))) [] := by
  refine GCall.of_body (n := 35) (rs := [(.tmp 4)]) Try.func46 rfl rfl rfl ?_
  refine Ato ⟨((.agg [(.d (.lit (.string (toS p0.Var)))), (.d (.lit (.int .i64 p0.E.Time))), (.d (.lit (.int .i64 p0.E.Source))), (.d (.lit (.int .i64 p0.E.Seq))), (.d (.lit (.string (toS p0.E.Type_)))), (.d (.sl (List.length p0.E.Vals) (flatD enc_GValue p0.E.Vals)))]) :: ((.agg [(.d (.lit (.string (toS p1.Var)))), (.d (.lit (.int .i64 p1.E.Time))), (.d (.lit (.int .i64 p1.E.Source))), (.d (.lit (.int .i64 p1.E.Seq))), (.d (.lit (.string (toS p1.E.Type_)))), (.d (.sl (List.length p1.E.Vals) (flatD enc_GValue p1.E.Vals)))]) :: (tu 33 []))), [], 0⟩ ?_
  have hm := h
  unfold m_bind_order at hm
  refine AWP.seq ?_
  refine AWP.text ?_
  refine Wy (.loc 0 0) [(0, (.box [(.d (.lit (.string (toS p0.Var)))), (.d (.lit (.int .i64 p0.E.Time))), (.d (.lit (.int .i64 p0.E.Source))), (.d (.lit (.int .i64 p0.E.Seq))), (.d (.lit (.string (toS p0.E.Type_)))), (.d (.sl (List.length p0.E.Vals) (flatD enc_GValue p0.E.Vals)))]))] (Obx rfl) ?_
  refine Wy (.loc 1 0) [(1, (.box [(.d (.lit (.string (toS p1.Var)))), (.d (.lit (.int .i64 p1.E.Time))), (.d (.lit (.int .i64 p1.E.Source))), (.d (.lit (.int .i64 p1.E.Seq))), (.d (.lit (.string (toS p1.E.Type_)))), (.d (.sl (List.length p1.E.Vals) (flatD enc_GValue p1.E.Vals)))]))] (Obx rfl) ?_
  refine Wy (.d (.lit (.int .i64 0))) [] (Omv rfl) ?_
  refine Walk.nil ?_
  refine Then.normal ?_
  refine Amk 12 3 ⟨(tp 2 ((.loc 0 0) :: ((.loc 1 0) :: (tp 31 [])))), [(.box [(.d (.lit (.string (toS p0.Var)))), (.d (.lit (.int .i64 p0.E.Time))), (.d (.lit (.int .i64 p0.E.Source))), (.d (.lit (.int .i64 p0.E.Seq))), (.d (.lit (.string (toS p0.E.Type_)))), (.d (.sl (List.length p0.E.Vals) (flatD enc_GValue p0.E.Vals)))]), (.box [(.d (.lit (.string (toS p1.Var)))), (.d (.lit (.int .i64 p1.E.Time))), (.d (.lit (.int .i64 p1.E.Source))), (.d (.lit (.int .i64 p1.E.Seq))), (.d (.lit (.string (toS p1.E.Type_)))), (.d (.sl (List.length p1.E.Vals) (flatD enc_GValue p1.E.Vals)))])], 0⟩ ?_
  refine AWP.seq ?_
  refine Adr ?_
  refine Wy (.loc 0 1) [] (Ofa rfl) ?_
  refine Wy (.agg [(.d (.lit (.int .i64 p0.E.Time))), (.d (.lit (.int .i64 p0.E.Source))), (.d (.lit (.int .i64 p0.E.Seq))), (.d (.lit (.string (toS p0.E.Type_)))), (.d (.sl (List.length p0.E.Vals) (flatD enc_GValue p0.E.Vals)))]) [] (Old rfl) ?_
  obtain ⟨r9_0, hr9_0, hm⟩ := bnd hm
  refine Wy (.agg [(.d (.lit (.int .i64 r9_0.Time))), (.d (.lit (.int .i64 r9_0.Source))), (.d (.lit (.int .i64 r9_0.Seq)))]) [] (Ocf [] [] [] 0 (ok_event_Event_ID p0.E r9_0 hr9_0) (fun a w => Try.call56 a w) rfl trivial) ?_
  refine Wy (.loc 1 1) [] (Ofa rfl) ?_
  refine Wy (.agg [(.d (.lit (.int .i64 p1.E.Time))), (.d (.lit (.int .i64 p1.E.Source))), (.d (.lit (.int .i64 p1.E.Seq))), (.d (.lit (.string (toS p1.E.Type_)))), (.d (.sl (List.length p1.E.Vals) (flatD enc_GValue p1.E.Vals)))]) [] (Old rfl) ?_
  obtain ⟨r12_0, hr12_0, hm⟩ := bnd hm
  refine Wy (.agg [(.d (.lit (.int .i64 r12_0.Time))), (.d (.lit (.int .i64 r12_0.Source))), (.d (.lit (.int .i64 r12_0.Seq)))]) [] (Ocf [] [] [] 0 (ok_event_Event_ID p1.E r12_0 hr12_0) (fun a w => Try.call56 a w) rfl trivial) ?_
  refine Wy (.loc 2 0) [(2, (.box [(.d (.lit (.int .i64 0))), (.d (.lit (.int .i64 0))), (.d (.lit (.int .i64 0)))]))] (Oal rfl) ?_
  refine Wy (.loc 3 0) [(3, (.box [(.d (.lit (.int .i64 0))), (.d (.lit (.int .i64 0))), (.d (.lit (.int .i64 0)))]))] (Oal rfl) ?_
  refine Wy (.tup []) [(2, (.box [(.d (.lit (.int .i64 r9_0.Time))), (.d (.lit (.int .i64 r9_0.Source))), (.d (.lit (.int .i64 r9_0.Seq)))]))] (Ost rfl) ?_
  refine Wy (.tup []) [(3, (.box [(.d (.lit (.int .i64 r12_0.Time))), (.d (.lit (.int .i64 r12_0.Source))), (.d (.lit (.int .i64 r12_0.Seq)))]))] (Ost rfl) ?_
  refine Wdr ?_
  refine Then.normal ?_
  refine Amk 108 15 ⟨(tp 2 ((.loc 0 0) :: ((.loc 1 0) :: (tp 1 ((.loc 2 0) :: ((.loc 3 0) :: (tp 28 []))))))), [(.box [(.d (.lit (.string (toS p0.Var)))), (.d (.lit (.int .i64 p0.E.Time))), (.d (.lit (.int .i64 p0.E.Source))), (.d (.lit (.int .i64 p0.E.Seq))), (.d (.lit (.string (toS p0.E.Type_)))), (.d (.sl (List.length p0.E.Vals) (flatD enc_GValue p0.E.Vals)))]), (.box [(.d (.lit (.string (toS p1.Var)))), (.d (.lit (.int .i64 p1.E.Time))), (.d (.lit (.int .i64 p1.E.Source))), (.d (.lit (.int .i64 p1.E.Seq))), (.d (.lit (.string (toS p1.E.Type_)))), (.d (.sl (List.length p1.E.Vals) (flatD enc_GValue p1.E.Vals)))]), (.box [(.d (.lit (.int .i64 r9_0.Time))), (.d (.lit (.int .i64 r9_0.Source))), (.d (.lit (.int .i64 r9_0.Seq)))]), (.box [(.d (.lit (.int .i64 r12_0.Time))), (.d (.lit (.int .i64 r12_0.Source))), (.d (.lit (.int .i64 r12_0.Seq)))])], 0⟩ ?_
  refine AWP.seq ?_
  refine Adr ?_
  refine Wy (.loc 2 0) [] (Ofa rfl) ?_
  refine Wy (.d (.lit (.int .i64 r9_0.Time))) [] (Old rfl) ?_
  refine Wy (.loc 3 0) [] (Ofa rfl) ?_
  refine Wy (.d (.lit (.int .i64 r12_0.Time))) [] (Old rfl) ?_
  obtain ⟨r17_1, hr17_1, hm⟩ := bnd hm
  refine Wy (.d (.lit (.int .i64 r17_1))) [] (Ocf [] [] [] 0 (ok_cmp_Compare_int r9_0.Time r12_0.Time r17_1 hr17_1) (fun a w => Try.call58 a w) rfl trivial) ?_
  refine Wy (.loc 2 1) [] (Ofa rfl) ?_
  refine Wy (.d (.lit (.int .i64 r9_0.Source))) [] (Old rfl) ?_
  refine Wy (.loc 3 1) [] (Ofa rfl) ?_
  refine Wy (.d (.lit (.int .i64 r12_0.Source))) [] (Old rfl) ?_
  obtain ⟨r22_1, hr22_1, hm⟩ := bnd hm
  refine Wy (.d (.lit (.int .i64 r22_1))) [] (Ocf [] [] [] 0 (ok_cmp_Compare_int r9_0.Source r12_0.Source r22_1 hr22_1) (fun a w => Try.call58 a w) rfl trivial) ?_
  refine Wy (.loc 2 2) [] (Ofa rfl) ?_
  refine Wy (.d (.lit (.int .i64 r9_0.Seq))) [] (Old rfl) ?_
  refine Wy (.loc 3 2) [] (Ofa rfl) ?_
  refine Wy (.d (.lit (.int .i64 r12_0.Seq))) [] (Old rfl) ?_
  obtain ⟨r27_1, hr27_1, hm⟩ := bnd hm
  refine Wy (.d (.lit (.int .i64 r27_1))) [] (Ocf [] [] [] 0 (ok_cmp_Compare_int r9_0.Seq r12_0.Seq r27_1 hr27_1) (fun a w => Try.call58 a w) rfl trivial) ?_
  refine Wy (.loc 0 0) [] (Ofa rfl) ?_
  refine Wy (.d (.lit (.string (toS p0.Var)))) [] (Old rfl) ?_
  refine Wy (.loc 1 0) [] (Ofa rfl) ?_
  refine Wy (.d (.lit (.string (toS p1.Var)))) [] (Old rfl) ?_
  obtain ⟨r32_1, hr32_1, hm⟩ := bnd hm
  refine Wy (.d (.lit (.int .i64 r32_1))) [] (Ocf [] [] [] 0 (ok_cmp_Compare_string p0.Var p1.Var r32_1 hr32_1) (fun a w => Try.call59 a w) rfl trivial) ?_
  refine Wy (.own 4) [(4, (.arr 3 1 (List.length ([r17_1, r22_1, r27_1, r32_1] : List Int)) (flatD (encI .i64) ([r17_1, r22_1, r27_1, r32_1] : List Int))))] (Obs rfl) ?_
  obtain ⟨r34_1, hr34_1, hm⟩ := bnd hm
  refine Wy (.d (.lit (.int .i64 r34_1))) [] (Ocp [] [] [4] 0 (ok_cmp_Or_int ([r17_1, r22_1, r27_1, r32_1] : List Int) r34_1 hr34_1) (plain_triv (by simp [A.Plain, A.Plains, D.Plain, byteD])) (fun a w => Try.call57 a w) rfl trivial) ?_
  refine Wy (.d (.lit (.int .i64 r34_1))) [] (Omv rfl) ?_
  refine Wdr ?_
  refine Then.normal ?_
  refine AWP.ret ?_
  obtain rfl := Option.some.inj hm
  exact ret_i []

set_option maxRecDepth 20000 in
set_option maxHeartbeats 4000000 in
theorem ok_slices_CompareFunc_Pairbind_Pair_bind_Pair_bind_Pair__bind_order (p0 : (List GPair)) (p1 : (List GPair)) (r : Int) (h : m_slices_CompareFunc_Pairbind_Pair_bind_Pair_bind_Pair__bind_order p0 p1 = some r) : GCall Try.prog 45 [(.d (.sl (List.length p0) (flatD enc_GPair p0))), (.d (.sl (List.length p1) (flatD enc_GPair p1))), (.clo (.func 46) [] [])] [] (.d (.lit (.int .i64 r))) [] := by
  refine GCall.of_body (n := 39) (rs := [(.tmp 6)]) Try.func45 rfl rfl rfl ?_
  refine Ato ⟨((.d (.sl (List.length p0) (flatD enc_GPair p0))) :: ((.d (.sl (List.length p1) (flatD enc_GPair p1))) :: ((.clo (.func 46) [] []) :: (tu 36 [])))), [], 0⟩ ?_
  have hm := h
  unfold m_slices_CompareFunc_Pairbind_Pair_bind_Pair_bind_Pair__bind_order at hm
  refine AWP.seq ?_
  refine AWP.text ?_
  refine Wy (.d (.lit (.int .i64 0))) [] (Omv rfl) ?_
  refine Walk.nil ?_
  refine Then.normal ?_
  refine Amk 7 0 ⟨((.d (.sl (List.length p0) (flatD enc_GPair p0))) :: ((.d (.sl (List.length p1) (flatD enc_GPair p1))) :: ((.clo (.func 46) [] []) :: (tp 36 [])))), [], 0⟩ ?_
  refine AWP.seq ?_
  refine AWP.seq ?_
  refine AWP.text ?_
  refine Wy (.d (.sl (List.length p0) (flatD enc_GPair p0))) [] (Omv rfl) ?_
  refine Wy (.d (.lit (.int .i64 ((List.length p0 : Nat) : Int)))) [] (Oln rfl) ?_
  refine Wy (.d (.lit (.int .i64 0))) [] (Omv rfl) ?_
  refine Walk.nil ?_
  refine Then.normal ?_
  refine Amk 14343 0 ⟨((.d (.sl (List.length p0) (flatD enc_GPair p0))) :: ((.d (.sl (List.length p1) (flatD enc_GPair p1))) :: ((.clo (.func 46) [] []) :: (tp 8 ((.d (.sl (List.length p0) (flatD enc_GPair p0))) :: ((.d (.lit (.int .i64 ((List.length p0 : Nat) : Int)))) :: ((.d (.lit (.int .i64 0))) :: (tp 25 [])))))))), [], 0⟩ ?_
  refine AWP.block ?_
  refine AWP.loopI (α := Nat × Int)
    (fun x => match x with | (fu_1, y13_1) => (⟨((.d (.sl (List.length p0) (flatD enc_GPair p0))) :: ((.d (.sl (List.length p1) (flatD enc_GPair p1))) :: ((.clo (.func 46) [] []) :: (tp 8 ((.d (.sl (List.length p0) (flatD enc_GPair p0))) :: ((.d (.lit (.int .i64 ((List.length p0 : Nat) : Int)))) :: ((.d (.lit (.int .i64 y13_1))) :: (tp 25 [])))))))), [], 0⟩ : St))
    (fun x => match x with | (fu_1, y13_1) => m_slices_CompareFunc_Pairbind_Pair_bind_Pair_bind_Pair__bind_order_l1 p0 p1 fu_1 y13_1 = some r)
    (fun x => match x with | (fu_1, y13_1) => fu_1) (1152921504606846976, 0)
    (Weak.toK 14343 0 0 []) hm ?_
  rintro ⟨fu_1, y13_1⟩ n_1 hm ih_1
  try dsimp only at hm ih_1 ⊢
  cases fu_1 with
  | zero => exact absurd hm (by unfold m_slices_CompareFunc_Pairbind_Pair_bind_Pair_bind_Pair__bind_order_l1; simp)
  | succ fu_1 =>
    unfold m_slices_CompareFunc_Pairbind_Pair_bind_Pair_bind_Pair__bind_order_l1 at hm
    refine AWP.seq ?_
    refine AWP.text ?_
    refine Wy (.d (.lit (.bool (decide (y13_1 < ((List.length p0 : Nat) : Int)))))) [] (Obn rfl (fun _ => hb_lss (k := .i64))) ?_
    refine Walk.nil ?_
    refine Then.normal ?_
    refine Amk 30727 0 ⟨((.d (.sl (List.length p0) (flatD enc_GPair p0))) :: ((.d (.sl (List.length p1) (flatD enc_GPair p1))) :: ((.clo (.func 46) [] []) :: (tp 8 ((.d (.sl (List.length p0) (flatD enc_GPair p0))) :: ((.d (.lit (.int .i64 ((List.length p0 : Nat) : Int)))) :: ((.d (.lit (.int .i64 y13_1))) :: ((.d (.lit (.bool (decide (y13_1 < ((List.length p0 : Nat) : Int)))))) :: (tp 24 []))))))))), [], 0⟩ ?_
    refine AWP.seq ?_
    rcases tf_ (decide (y13_1 < ((List.length p0 : Nat) : Int))) with hc14_7 | hc14_7
    · replace hm := cT hc14_7 hm
      refine AWP.if_ true (Eq.trans (by kernel_rfl) (lit_tf (b := decide (y13_1 < ((List.length p0 : Nat) : Int))) hc14_7)) ?_
      refine AWP.skip ?_
      refine Then.normal ?_
      refine Amk 14343 0 ⟨((.d (.sl (List.length p0) (flatD enc_GPair p0))) :: ((.d (.sl (List.length p1) (flatD enc_GPair p1))) :: ((.clo (.func 46) [] []) :: (tp 8 ((.d (.sl (List.length p0) (flatD enc_GPair p0))) :: ((.d (.lit (.int .i64 ((List.length p0 : Nat) : Int)))) :: ((.d (.lit (.int .i64 y13_1))) :: (tp 25 [])))))))), [], 0⟩ ?_
      refine AWP.seq ?_
      refine AWP.block ?_
      refine AWP.seq ?_
      refine AWP.text ?_
      refine Wy (.d (.lit (.int .i64 y13_1))) [] (Omv rfl) ?_
      obtain ⟨x16_2, hx16_2, hm⟩ := bnd hm
      obtain ⟨hx16_2i, hx16_2g⟩ := geti_some hx16_2
      refine Wy (.d (.ref (List.drop ((Int.toNat y13_1) * 6) (flatD enc_GPair p0)))) [] (Oia rfl enc_GPair_len hx16_2i hx16_2g) ?_
      refine Wy (.agg [(.d (.lit (.string (toS x16_2.Var)))), (.d (.lit (.int .i64 x16_2.E.Time))), (.d (.lit (.int .i64 x16_2.E.Source))), (.d (.lit (.int .i64 x16_2.E.Seq))), (.d (.lit (.string (toS x16_2.E.Type_)))), (.d (.sl (List.length x16_2.E.Vals) (flatD enc_GValue x16_2.E.Vals)))]) [] (Lf rfl enc_GPair_len hx16_2g) ?_
      refine Wy (.loc 0 0) [(0, (.box [(.d (.lit (.string (toS ([] : List UInt8))))), (.d (.lit (.int .i64 0))), (.d (.lit (.int .i64 0))), (.d (.lit (.int .i64 0))), (.d (.lit (.string (toS ([] : List UInt8))))), (.d .nil)]))] (Oal rfl) ?_
      refine Wy (.d (.lit (.int .i64 y13_1))) [] (Omv rfl) ?_
      refine Wy (.tup []) [(0, (.box [(.d (.lit (.string (toS x16_2.Var)))), (.d (.lit (.int .i64 x16_2.E.Time))), (.d (.lit (.int .i64 x16_2.E.Source))), (.d (.lit (.int .i64 x16_2.E.Seq))), (.d (.lit (.string (toS x16_2.E.Type_)))), (.d (.sl (List.length x16_2.E.Vals) (flatD enc_GValue x16_2.E.Vals)))]))] (Ost rfl) ?_
      refine Walk.nil ?_
      refine Then.normal ?_
      refine Amk 14727 1 ⟨((.d (.sl (List.length p0) (flatD enc_GPair p0))) :: ((.d (.sl (List.length p1) (flatD enc_GPair p1))) :: ((.clo (.func 46) [] []) :: (tp 4 ((.d (.lit (.int .i64 y13_1))) :: ((.loc 0 0) :: (tp 2 ((.d (.sl (List.length p0) (flatD enc_GPair p0))) :: ((.d (.lit (.int .i64 ((List.length p0 : Nat) : Int)))) :: ((.d (.lit (.int .i64 y13_1))) :: (tp 25 []))))))))))), [(.box [(.d (.lit (.string (toS x16_2.Var)))), (.d (.lit (.int .i64 x16_2.E.Time))), (.d (.lit (.int .i64 x16_2.E.Source))), (.d (.lit (.int .i64 x16_2.E.Seq))), (.d (.lit (.string (toS x16_2.E.Type_)))), (.d (.sl (List.length x16_2.E.Vals) (flatD enc_GValue x16_2.E.Vals)))])], 0⟩ ?_
      refine AWP.seq ?_
      refine AWP.seq ?_
      refine AWP.text ?_
      refine Wy (.d (.lit (.int .i64 y13_1))) [] (Omv rfl) ?_
      refine Wy (.d (.sl (List.length p1) (flatD enc_GPair p1))) [] (Omv rfl) ?_
      refine Wy (.d (.lit (.int .i64 ((List.length p1 : Nat) : Int)))) [] (Oln rfl) ?_
      refine Wy (.d (.lit (.bool (decide (((List.length p1 : Nat) : Int) ≤ y13_1))))) [] (Obn rfl (fun _ => hb_geq (k := .i64))) ?_
      refine Walk.nil ?_
      refine Then.normal ?_
      refine Amk 2111879 1 ⟨((.d (.sl (List.length p0) (flatD enc_GPair p0))) :: ((.d (.sl (List.length p1) (flatD enc_GPair p1))) :: ((.clo (.func 46) [] []) :: (tp 4 ((.d (.lit (.int .i64 y13_1))) :: ((.loc 0 0) :: (tp 2 ((.d (.sl (List.length p0) (flatD enc_GPair p0))) :: ((.d (.lit (.int .i64 ((List.length p0 : Nat) : Int)))) :: ((.d (.lit (.int .i64 y13_1))) :: (tp 7 ((.d (.lit (.bool (decide (((List.length p1 : Nat) : Int) ≤ y13_1))))) :: (tp 17 []))))))))))))), [(.box [(.d (.lit (.string (toS x16_2.Var)))), (.d (.lit (.int .i64 x16_2.E.Time))), (.d (.lit (.int .i64 x16_2.E.Source))), (.d (.lit (.int .i64 x16_2.E.Seq))), (.d (.lit (.string (toS x16_2.E.Type_)))), (.d (.sl (List.length x16_2.E.Vals) (flatD enc_GValue x16_2.E.Vals)))])], 0⟩ ?_
      rcases tf_ (decide (((List.length p1 : Nat) : Int) ≤ y13_1)) with hc21_8 | hc21_8
      · replace hm := cT hc21_8 hm
        refine AWP.if_ true (Eq.trans (by kernel_rfl) (lit_tf (b := decide (((List.length p1 : Nat) : Int) ≤ y13_1)) hc21_8)) ?_
        refine AWP.seq ?_
        refine AWP.text ?_
        refine Wy (.d (.lit (.int .i64 1))) [] (Omv rfl) ?_
        refine Walk.nil ?_
        refine Then.normal ?_
        refine AWP.ret ?_
        refine Then.ret ?_
        refine InBlock.ret ?_
        refine Then.ret ?_
        refine RoundK.ret ?_
        refine InBlock.ret ?_
        refine Then.ret ?_
        obtain rfl := Option.some.inj hm
        exact ret_i []
      · replace hm := cF hc21_8 hm
        refine AWP.if_ false (Eq.trans (by kernel_rfl) (lit_tf (b := decide (((List.length p1 : Nat) : Int) ≤ y13_1)) hc21_8)) ?_
        refine AWP.skip ?_
        refine Then.normal ?_
        refine Amk 14727 1 ⟨((.d (.sl (List.length p0) (flatD enc_GPair p0))) :: ((.d (.sl (List.length p1) (flatD enc_GPair p1))) :: ((.clo (.func 46) [] []) :: (tp 4 ((.d (.lit (.int .i64 y13_1))) :: ((.loc 0 0) :: (tp 2 ((.d (.sl (List.length p0) (flatD enc_GPair p0))) :: ((.d (.lit (.int .i64 ((List.length p0 : Nat) : Int)))) :: ((.d (.lit (.int .i64 y13_1))) :: (tp 25 []))))))))))), [(.box [(.d (.lit (.string (toS x16_2.Var)))), (.d (.lit (.int .i64 x16_2.E.Time))), (.d (.lit (.int .i64 x16_2.E.Source))), (.d (.lit (.int .i64 x16_2.E.Seq))), (.d (.lit (.string (toS x16_2.E.Type_)))), (.d (.sl (List.length x16_2.E.Vals) (flatD enc_GValue x16_2.E.Vals)))])], 0⟩ ?_
        refine AWP.seq ?_
        refine AWP.text ?_
        refine Wy (.d (.sl (List.length p1) (flatD enc_GPair p1))) [] (Omv rfl) ?_
        refine Wy (.d (.lit (.int .i64 y13_1))) [] (Omv rfl) ?_
        obtain ⟨x24_4, hx24_4, hm⟩ := bnd hm
        obtain ⟨hx24_4i, hx24_4g⟩ := geti_some hx24_4
        refine Wy (.d (.ref (List.drop ((Int.toNat y13_1) * 6) (flatD enc_GPair p1)))) [] (Oia rfl enc_GPair_len hx24_4i hx24_4g) ?_
        refine Wy (.agg [(.d (.lit (.string (toS x24_4.Var)))), (.d (.lit (.int .i64 x24_4.E.Time))), (.d (.lit (.int .i64 x24_4.E.Source))), (.d (.lit (.int .i64 x24_4.E.Seq))), (.d (.lit (.string (toS x24_4.E.Type_)))), (.d (.sl (List.length x24_4.E.Vals) (flatD enc_GValue x24_4.E.Vals)))]) [] (Lf rfl enc_GPair_len hx24_4g) ?_
        refine Wy (.loc 1 0) [(1, (.box [(.d (.lit (.string (toS ([] : List UInt8))))), (.d (.lit (.int .i64 0))), (.d (.lit (.int .i64 0))), (.d (.lit (.int .i64 0))), (.d (.lit (.string (toS ([] : List UInt8))))), (.d .nil)]))] (Oal rfl) ?_
        refine Wy (.tup []) [(1, (.box [(.d (.lit (.string (toS x24_4.Var)))), (.d (.lit (.int .i64 x24_4.E.Time))), (.d (.lit (.int .i64 x24_4.E.Source))), (.d (.lit (.int .i64 x24_4.E.Seq))), (.d (.lit (.string (toS x24_4.E.Type_)))), (.d (.sl (List.length x24_4.E.Vals) (flatD enc_GValue x24_4.E.Vals)))]))] (Ost rfl) ?_
        refine Walk.nil ?_
        refine Then.normal ?_
        refine Amk 15111 3 ⟨((.d (.sl (List.length p0) (flatD enc_GPair p0))) :: ((.d (.sl (List.length p1) (flatD enc_GPair p1))) :: ((.clo (.func 46) [] []) :: (tp 5 ((.loc 0 0) :: ((.loc 1 0) :: (tp 1 ((.d (.sl (List.length p0) (flatD enc_GPair p0))) :: ((.d (.lit (.int .i64 ((List.length p0 : Nat) : Int)))) :: ((.d (.lit (.int .i64 y13_1))) :: (tp 25 []))))))))))), [(.box [(.d (.lit (.string (toS x16_2.Var)))), (.d (.lit (.int .i64 x16_2.E.Time))), (.d (.lit (.int .i64 x16_2.E.Source))), (.d (.lit (.int .i64 x16_2.E.Seq))), (.d (.lit (.string (toS x16_2.E.Type_)))), (.d (.sl (List.length x16_2.E.Vals) (flatD enc_GValue x16_2.E.Vals)))]), (.box [(.d (.lit (.string (toS x24_4.Var)))), (.d (.lit (.int .i64 x24_4.E.Time))), (.d (.lit (.int .i64 x24_4.E.Source))), (.d (.lit (.int .i64 x24_4.E.Seq))), (.d (.lit (.string (toS x24_4.E.Type_)))), (.d (.sl (List.length x24_4.E.Vals) (flatD enc_GValue x24_4.E.Vals)))])], 0⟩ ?_
        refine AWP.seq ?_
        refine AWP.text ?_
        refine Wy (.clo (.func 46) [] []) [] (Omv rfl) ?_
        refine Wy (.agg [(.d (.lit (.string (toS x16_2.Var)))), (.d (.lit (.int .i64 x16_2.E.Time))), (.d (.lit (.int .i64 x16_2.E.Source))), (.d (.lit (.int .i64 x16_2.E.Seq))), (.d (.lit (.string (toS x16_2.E.Type_)))), (.d (.sl (List.length x16_2.E.Vals) (flatD enc_GValue x16_2.E.Vals)))]) [] (Old rfl) ?_
        refine Wy (.agg [(.d (.lit (.string (toS x24_4.Var)))), (.d (.lit (.int .i64 x24_4.E.Time))), (.d (.lit (.int .i64 x24_4.E.Source))), (.d (.lit (.int .i64 x24_4.E.Seq))), (.d (.lit (.string (toS x24_4.E.Type_)))), (.d (.sl (List.length x24_4.E.Vals) (flatD enc_GValue x24_4.E.Vals)))]) [] (Old rfl) ?_
        obtain ⟨r29_5, hr29_5, hm⟩ := bnd hm
        refine Wy (.d (.lit (.int .i64 r29_5))) [] (Ocf [] [] [] 0 (ok_bind_order x16_2 x24_4 r29_5 hr29_5) (fun a w => Try.call46 a w) rfl trivial) ?_
        refine Wy (.d (.lit (.int .i64 r29_5))) [] (Omv rfl) ?_
        refine Walk.nil ?_
        refine Then.normal ?_
        refine Amk 15367 0 ⟨((.d (.sl (List.length p0) (flatD enc_GPair p0))) :: ((.d (.sl (List.length p1) (flatD enc_GPair p1))) :: ((.clo (.func 46) [] []) :: (tp 7 ((.d (.lit (.int .i64 r29_5))) :: ((.d (.sl (List.length p0) (flatD enc_GPair p0))) :: ((.d (.lit (.int .i64 ((List.length p0 : Nat) : Int)))) :: ((.d (.lit (.int .i64 y13_1))) :: (tp 25 []))))))))), [.gone, .gone], 0⟩ ?_
        refine AWP.seq ?_
        refine AWP.text ?_
        refine Wy (.d (.lit (.int .i64 r29_5))) [] (Omv rfl) ?_
        refine Wy (.d (.lit (.bool (decide (r29_5 ≠ 0))))) [] (Obn rfl (fun _ => hb_neq (k := .i64))) ?_
        refine Walk.nil ?_
        refine Then.normal ?_
        refine Amk 2147499015 0 ⟨((.d (.sl (List.length p0) (flatD enc_GPair p0))) :: ((.d (.sl (List.length p1) (flatD enc_GPair p1))) :: ((.clo (.func 46) [] []) :: (tp 7 ((.d (.lit (.int .i64 r29_5))) :: ((.d (.sl (List.length p0) (flatD enc_GPair p0))) :: ((.d (.lit (.int .i64 ((List.length p0 : Nat) : Int)))) :: ((.d (.lit (.int .i64 y13_1))) :: (tp 17 ((.d (.lit (.bool (decide (r29_5 ≠ 0))))) :: (tp 7 []))))))))))), [.gone, .gone], 0⟩ ?_
        rcases tf_ (decide (r29_5 ≠ 0)) with hc31_9 | hc31_9
        · replace hm := cT hc31_9 hm
          refine AWP.if_ true (Eq.trans (by kernel_rfl) (lit_tf (b := decide (r29_5 ≠ 0)) hc31_9)) ?_
          refine AWP.seq ?_
          refine AWP.text ?_
          refine Wy (.d (.lit (.int .i64 r29_5))) [] (Omv rfl) ?_
          refine Wy (.d (.lit (.int .i64 r29_5))) [] (Omv rfl) ?_
          refine Walk.nil ?_
          refine Then.normal ?_
          refine AWP.ret ?_
          refine InBlock.ret ?_
          refine Then.ret ?_
          refine RoundK.ret ?_
          refine InBlock.ret ?_
          refine Then.ret ?_
          obtain rfl := Option.some.inj hm
          exact ret_i []
        · replace hm := cF hc31_9 hm
          refine AWP.if_ false (Eq.trans (by kernel_rfl) (lit_tf (b := decide (r29_5 ≠ 0)) hc31_9)) ?_
          refine AWP.skip ?_
          refine InBlock.normal ?_
          refine Then.normal ?_
          refine Amk 14343 0 ⟨((.d (.sl (List.length p0) (flatD enc_GPair p0))) :: ((.d (.sl (List.length p1) (flatD enc_GPair p1))) :: ((.clo (.func 46) [] []) :: (tp 8 ((.d (.sl (List.length p0) (flatD enc_GPair p0))) :: ((.d (.lit (.int .i64 ((List.length p0 : Nat) : Int)))) :: ((.d (.lit (.int .i64 y13_1))) :: (tp 25 [])))))))), [.gone, .gone], 0⟩ ?_
          refine AWP.text ?_
          refine Wy (.d (.lit (.int .i64 (IntKind.i64.wrap (y13_1 + 1))))) [] (Obn rfl (fun _ => hb_add (k := .i64))) ?_
          refine Wy (.d (.lit (.int .i64 (IntKind.i64.wrap (y13_1 + 1))))) [] (Omv rfl) ?_
          refine Walk.nil ?_
          refine RoundK.normal ?_
          exact Rounds.weak (Weak.toK 14343 0 0 []) (ih_1 (fu_1, (IntKind.i64.wrap (y13_1 + 1))) hm (Nat.lt_succ_self _))
    · replace hm := cF hc14_7 hm
      refine AWP.if_ false (Eq.trans (by kernel_rfl) (lit_tf (b := decide (y13_1 < ((List.length p0 : Nat) : Int))) hc14_7)) ?_
      refine AWP.exit ?_
      refine Then.exit ?_
      refine RoundK.exit ?_
      refine InBlock.same ?_
      refine Then.normal ?_
      refine Amk 3 0 ⟨((.d (.sl (List.length p0) (flatD enc_GPair p0))) :: ((.d (.sl (List.length p1) (flatD enc_GPair p1))) :: (tp 37 []))), [], 0⟩ ?_
      refine AWP.seq ?_
      refine AWP.seq ?_
      refine AWP.text ?_
      refine Wy (.d (.sl (List.length p0) (flatD enc_GPair p0))) [] (Omv rfl) ?_
      refine Wy (.d (.lit (.int .i64 ((List.length p0 : Nat) : Int)))) [] (Oln rfl) ?_
      refine Wy (.d (.sl (List.length p1) (flatD enc_GPair p1))) [] (Omv rfl) ?_
      refine Wy (.d (.lit (.int .i64 ((List.length p1 : Nat) : Int)))) [] (Oln rfl) ?_
      refine Wy (.d (.lit (.bool (decide (((List.length p0 : Nat) : Int) < ((List.length p1 : Nat) : Int)))))) [] (Obn rfl (fun _ => hb_lss (k := .i64))) ?_
      refine Walk.nil ?_
      refine Then.normal ?_
      refine Amk 274877906944 0 ⟨(tp 38 ((.d (.lit (.bool (decide (((List.length p0 : Nat) : Int) < ((List.length p1 : Nat) : Int)))))) :: [])), [], 0⟩ ?_
      rcases tf_ (decide (((List.length p0 : Nat) : Int) < ((List.length p1 : Nat) : Int))) with hc38_10 | hc38_10
      · replace hm := cT hc38_10 hm
        refine AWP.if_ true (Eq.trans (by kernel_rfl) (lit_tf (b := decide (((List.length p0 : Nat) : Int) < ((List.length p1 : Nat) : Int))) hc38_10)) ?_
        refine AWP.seq ?_
        refine AWP.text ?_
        refine Wy (.d (.lit (.int .i64 (-1)))) [] (Omv rfl) ?_
        refine Walk.nil ?_
        refine Then.normal ?_
        refine AWP.ret ?_
        refine Then.ret ?_
        obtain rfl := Option.some.inj hm
        exact ret_i []
      · replace hm := cF hc38_10 hm
        refine AWP.if_ false (Eq.trans (by kernel_rfl) (lit_tf (b := decide (((List.length p0 : Nat) : Int) < ((List.length p1 : Nat) : Int))) hc38_10)) ?_
        refine AWP.skip ?_
        refine Then.normal ?_
        refine Amk 0 0 ⟨(tp 39 []), [], 0⟩ ?_
        refine AWP.seq ?_
        refine AWP.text ?_
        refine Wy (.d (.lit (.int .i64 0))) [] (Omv rfl) ?_
        refine Walk.nil ?_
        refine Then.normal ?_
        refine AWP.ret ?_
        obtain rfl := Option.some.inj hm
        exact ret_i []

set_option maxRecDepth 20000 in
set_option maxHeartbeats 4000000 in
theorem ok_bind_Rank (p0 : (List GPair)) (p1 : (List GPair)) (r : Int) (h : m_bind_Rank p0 p1 = some r) : GCall Try.prog 25 [(.d (.sl (List.length p0) (flatD enc_GPair p0))), (.d (.sl (List.length p1) (flatD enc_GPair p1)))] [] (.d (.lit (.int .i64 r))) [] := by
  refine GCall.of_body (n := 8) (rs := [(.tmp 4)]) Try.func25 rfl rfl rfl ?_
  refine Ato ⟨((.d (.sl (List.length p0) (flatD enc_GPair p0))) :: ((.d (.sl (List.length p1) (flatD enc_GPair p1))) :: (tu 6 []))), [], 0⟩ ?_
  have hm := h
  unfold m_bind_Rank at hm
  refine AWP.seq ?_
  refine AWP.text ?_
  refine Wy (.d (.lit (.int .i64 0))) [] (Omv rfl) ?_
  refine Walk.nil ?_
  refine Then.normal ?_
  refine Amk 3 0 ⟨((.d (.sl (List.length p0) (flatD enc_GPair p0))) :: ((.d (.sl (List.length p1) (flatD enc_GPair p1))) :: (tp 6 []))), [], 0⟩ ?_
  refine AWP.seq ?_
  refine AWP.text ?_
  refine Wy (.d (.sl (List.length p0) (flatD enc_GPair p0))) [] (Omv rfl) ?_
  refine Wy (.d (.sl (List.length p1) (flatD enc_GPair p1))) [] (Omv rfl) ?_
  obtain ⟨r7_0, hr7_0, hm⟩ := bnd hm
  refine Wy (.d (.lit (.int .i64 r7_0))) [] (Ocf [] [] [] 0 (ok_slices_CompareFunc_Pairbind_Pair_bind_Pair_bind_Pair__bind_order p0 p1 r7_0 hr7_0) (fun a w => Try.call45 a w) rfl trivial) ?_
  refine Wy (.d (.lit (.int .i64 r7_0))) [] (Omv rfl) ?_
  refine Walk.nil ?_
  refine Then.normal ?_
  refine AWP.ret ?_
  obtain rfl := Option.some.inj hm
  exact ret_i []

set_option maxRecDepth 20000 in
set_option maxHeartbeats 4000000 in
theorem ok_runs_Run_twin (p0 : GRun) (p1 : GRun) (r : Bool) (h : m_runs_Run_twin p0 p1 = some r) : GCall Try.prog 31 [(.agg [(.d (.lit (.int .i64 p0.Place))), (.d (.sl (List.length p0.Bound) (flatD enc_GPair p0.Bound))), (.d (.lit (.int .u32 p0.Broken)))]), (.agg [(.d (.lit (.int .i64 p1.Place))), (.d (.sl (List.length p1.Bound) (flatD enc_GPair p1.Bound))), (.d (.lit (.int .u32 p1.Broken)))])] [] (.d (.lit (.bool r))) [] := by
  refine GCall.of_body (n := 18) (rs := [(.tmp 4)]) Try.func31 rfl rfl rfl ?_
  refine Ato ⟨((.agg [(.d (.lit (.int .i64 p0.Place))), (.d (.sl (List.length p0.Bound) (flatD enc_GPair p0.Bound))), (.d (.lit (.int .u32 p0.Broken)))]) :: ((.agg [(.d (.lit (.int .i64 p1.Place))), (.d (.sl (List.length p1.Bound) (flatD enc_GPair p1.Bound))), (.d (.lit (.int .u32 p1.Broken)))]) :: (tu 16 []))), [], 0⟩ ?_
  have hm := h
  unfold m_runs_Run_twin at hm
  refine AWP.seq ?_
  refine AWP.text ?_
  refine Wy (.loc 0 0) [(0, (.box [(.d (.lit (.int .i64 p0.Place))), (.d (.sl (List.length p0.Bound) (flatD enc_GPair p0.Bound))), (.d (.lit (.int .u32 p0.Broken)))]))] (Obx rfl) ?_
  refine Wy (.loc 1 0) [(1, (.box [(.d (.lit (.int .i64 p1.Place))), (.d (.sl (List.length p1.Bound) (flatD enc_GPair p1.Bound))), (.d (.lit (.int .u32 p1.Broken)))]))] (Obx rfl) ?_
  refine Wy (.d (.lit (.bool false))) [] (Omv rfl) ?_
  refine Walk.nil ?_
  refine Then.normal ?_
  refine Amk 12 3 ⟨(tp 2 ((.loc 0 0) :: ((.loc 1 0) :: (tp 14 [])))), [(.box [(.d (.lit (.int .i64 p0.Place))), (.d (.sl (List.length p0.Bound) (flatD enc_GPair p0.Bound))), (.d (.lit (.int .u32 p0.Broken)))]), (.box [(.d (.lit (.int .i64 p1.Place))), (.d (.sl (List.length p1.Bound) (flatD enc_GPair p1.Bound))), (.d (.lit (.int .u32 p1.Broken)))])], 0⟩ ?_
  refine AWP.seq ?_
  refine AWP.text ?_
  refine Wy (.loc 0 0) [] (Ofa rfl) ?_
  refine Wy (.d (.lit (.int .i64 p0.Place))) [] (Old rfl) ?_
  refine Wy (.loc 1 0) [] (Ofa rfl) ?_
  refine Wy (.d (.lit (.int .i64 p1.Place))) [] (Old rfl) ?_
  refine Wy (.d (.lit (.bool (decide (p0.Place = p1.Place))))) [] (Obn rfl (fun _ => hb_eql (k := .i64))) ?_
  rcases tf_ (decide (p0.Place = p1.Place)) with hq10_0 | hq10_0
  · replace hm := cT hq10_0 hm
    refine Wy (.d (.lit (.bool true))) [] (Ocs (lit_tf (b := decide (p0.Place = p1.Place)) hq10_0) (Omv rfl)) ?_
    refine Wy (.loc 0 1) [] (Ofa rfl) ?_
    refine Wy (.d (.sl (List.length p0.Bound) (flatD enc_GPair p0.Bound))) [] (Old rfl) ?_
    refine Wy (.loc 1 1) [] (Ofa rfl) ?_
    refine Wy (.d (.sl (List.length p1.Bound) (flatD enc_GPair p1.Bound))) [] (Old rfl) ?_
    obtain ⟨r15_0, hr15_0, hm⟩ := bnd hm
    refine Wy (.d (.lit (.int .i64 r15_0))) [] (Ocf [] [] [] 0 (ok_bind_Rank p0.Bound p1.Bound r15_0 hr15_0) (fun a w => Try.call25 a w) rfl trivial) ?_
    refine Wy (.d (.lit (.bool (decide (r15_0 = 0))))) [] (Obn rfl (fun _ => hb_eql (k := .i64))) ?_
    refine Wy (.d (.lit (.bool (decide (r15_0 = 0))))) [] (OpT rfl) ?_
    refine Wy (.d (.lit (.bool (decide (r15_0 = 0))))) [] (Omv rfl) ?_
    refine Walk.nil ?_
    refine Then.normal ?_
    refine AWP.ret ?_
    obtain rfl := Option.some.inj hm
    exact ret_i []
  · replace hm := cF hq10_0 hm
    refine Wy (.d (.lit (.bool false))) [] (Ocs (lit_tf (b := decide (p0.Place = p1.Place)) hq10_0) (Omv rfl)) ?_
    refine Wn ?_
    refine Wn ?_
    refine Wn ?_
    refine Wn ?_
    refine Wn ?_
    refine Wn ?_
    refine Wy (.d (.lit (.bool false))) [] (OpF rfl) ?_
    refine Wy (.d (.lit (.bool false))) [] (Omv rfl) ?_
    refine Walk.nil ?_
    refine Then.normal ?_
    refine AWP.ret ?_
    obtain rfl := Option.some.inj hm
    exact ret_i []

set_option maxRecDepth 20000 in
set_option maxHeartbeats 4000000 in
theorem ok_slices_IndexFunc_Run__runs_Run_twin (p0 : (List GRun)) (p1f0 : GRun) (r : Int) (h : m_slices_IndexFunc_Run__runs_Run_twin p0 p1f0 = some r) : GCall Try.prog 48 [(.d (.sl (List.length p0) (flatD enc_GRun p0))), (.clo (.func 31) [(.agg [(.d (.lit (.int .i64 p1f0.Place))), (.d (.sl (List.length p1f0.Bound) (flatD enc_GPair p1f0.Bound))), (.d (.lit (.int .u32 p1f0.Broken)))])] [])] [] (.d (.lit (.int .i64 r))) [] := by
  refine GCall.of_body (n := 19) (rs := [(.tmp 4)]) Try.func48 rfl rfl rfl ?_
  refine Ato ⟨((.d (.sl (List.length p0) (flatD enc_GRun p0))) :: ((.clo (.func 31) [(.agg [(.d (.lit (.int .i64 p1f0.Place))), (.d (.sl (List.length p1f0.Bound) (flatD enc_GPair p1f0.Bound))), (.d (.lit (.int .u32 p1f0.Broken)))])] []) :: (tu 17 []))), [], 0⟩ ?_
  have hm := h
  unfold m_slices_IndexFunc_Run__runs_Run_twin at hm
  refine AWP.seq ?_
  refine AWP.text ?_
  refine Wy (.d (.lit (.int .i64 0))) [] (Omv rfl) ?_
  refine Walk.nil ?_
  refine Then.normal ?_
  refine Amk 3 0 ⟨((.d (.sl (List.length p0) (flatD enc_GRun p0))) :: ((.clo (.func 31) [(.agg [(.d (.lit (.int .i64 p1f0.Place))), (.d (.sl (List.length p1f0.Bound) (flatD enc_GPair p1f0.Bound))), (.d (.lit (.int .u32 p1f0.Broken)))])] []) :: (tp 17 []))), [], 0⟩ ?_
  refine AWP.seq ?_
  refine AWP.seq ?_
  refine AWP.text ?_
  refine Wy (.d (.sl (List.length p0) (flatD enc_GRun p0))) [] (Omv rfl) ?_
  refine Wy (.d (.lit (.int .i64 ((List.length p0 : Nat) : Int)))) [] (Oln rfl) ?_
  refine Wy (.d (.lit (.int .i64 0))) [] (Omv rfl) ?_
  refine Walk.nil ?_
  refine Then.normal ?_
  refine Amk 387 0 ⟨((.d (.sl (List.length p0) (flatD enc_GRun p0))) :: ((.clo (.func 31) [(.agg [(.d (.lit (.int .i64 p1f0.Place))), (.d (.sl (List.length p1f0.Bound) (flatD enc_GPair p1f0.Bound))), (.d (.lit (.int .u32 p1f0.Broken)))])] []) :: (tp 5 ((.d (.lit (.int .i64 ((List.length p0 : Nat) : Int)))) :: ((.d (.lit (.int .i64 0))) :: (tp 10 [])))))), [], 0⟩ ?_
  refine AWP.block ?_
  refine AWP.loopI (α := Nat × Int)
    (fun x => match x with | (fu_1, y8_1) => (⟨((.d (.sl (List.length p0) (flatD enc_GRun p0))) :: ((.clo (.func 31) [(.agg [(.d (.lit (.int .i64 p1f0.Place))), (.d (.sl (List.length p1f0.Bound) (flatD enc_GPair p1f0.Bound))), (.d (.lit (.int .u32 p1f0.Broken)))])] []) :: (tp 5 ((.d (.lit (.int .i64 ((List.length p0 : Nat) : Int)))) :: ((.d (.lit (.int .i64 y8_1))) :: (tp 10 [])))))), [], 0⟩ : St))
    (fun x => match x with | (fu_1, y8_1) => m_slices_IndexFunc_Run__runs_Run_twin_l1 p0 p1f0 fu_1 y8_1 = some r)
    (fun x => match x with | (fu_1, y8_1) => fu_1) (1152921504606846976, 0)
    (Weak.toK 387 0 0 []) hm ?_
  rintro ⟨fu_1, y8_1⟩ n_1 hm ih_1
  try dsimp only at hm ih_1 ⊢
  cases fu_1 with
  | zero => exact absurd hm (by unfold m_slices_IndexFunc_Run__runs_Run_twin_l1; simp)
  | succ fu_1 =>
    unfold m_slices_IndexFunc_Run__runs_Run_twin_l1 at hm
    refine AWP.seq ?_
    refine AWP.text ?_
    refine Wy (.d (.lit (.bool (decide (y8_1 < ((List.length p0 : Nat) : Int)))))) [] (Obn rfl (fun _ => hb_lss (k := .i64))) ?_
    refine Walk.nil ?_
    refine Then.normal ?_
    refine Amk 899 0 ⟨((.d (.sl (List.length p0) (flatD enc_GRun p0))) :: ((.clo (.func 31) [(.agg [(.d (.lit (.int .i64 p1f0.Place))), (.d (.sl (List.length p1f0.Bound) (flatD enc_GPair p1f0.Bound))), (.d (.lit (.int .u32 p1f0.Broken)))])] []) :: (tp 5 ((.d (.lit (.int .i64 ((List.length p0 : Nat) : Int)))) :: ((.d (.lit (.int .i64 y8_1))) :: ((.d (.lit (.bool (decide (y8_1 < ((List.length p0 : Nat) : Int)))))) :: (tp 9 []))))))), [], 0⟩ ?_
    refine AWP.seq ?_
    rcases tf_ (decide (y8_1 < ((List.length p0 : Nat) : Int))) with hc9_3 | hc9_3
    · replace hm := cT hc9_3 hm
      refine AWP.if_ true (Eq.trans (by kernel_rfl) (lit_tf (b := decide (y8_1 < ((List.length p0 : Nat) : Int))) hc9_3)) ?_
      refine AWP.skip ?_
      refine Then.normal ?_
      refine Amk 387 0 ⟨((.d (.sl (List.length p0) (flatD enc_GRun p0))) :: ((.clo (.func 31) [(.agg [(.d (.lit (.int .i64 p1f0.Place))), (.d (.sl (List.length p1f0.Bound) (flatD enc_GPair p1f0.Bound))), (.d (.lit (.int .u32 p1f0.Broken)))])] []) :: (tp 5 ((.d (.lit (.int .i64 ((List.length p0 : Nat) : Int)))) :: ((.d (.lit (.int .i64 y8_1))) :: (tp 10 [])))))), [], 0⟩ ?_
      refine AWP.seq ?_
      refine AWP.block ?_
      refine AWP.seq ?_
      refine AWP.text ?_
      refine Wy (.d (.lit (.int .i64 y8_1))) [] (Omv rfl) ?_
      refine Wy (.d (.lit (.int .i64 y8_1))) [] (Omv rfl) ?_
      refine Walk.nil ?_
      refine Then.normal ?_
      refine Amk 419 0 ⟨((.d (.sl (List.length p0) (flatD enc_GRun p0))) :: ((.clo (.func 31) [(.agg [(.d (.lit (.int .i64 p1f0.Place))), (.d (.sl (List.length p1f0.Bound) (flatD enc_GPair p1f0.Bound))), (.d (.lit (.int .u32 p1f0.Broken)))])] []) :: (tp 3 ((.d (.lit (.int .i64 y8_1))) :: (tp 1 ((.d (.lit (.int .i64 ((List.length p0 : Nat) : Int)))) :: ((.d (.lit (.int .i64 y8_1))) :: (tp 10 [])))))))), [], 0⟩ ?_
      refine AWP.seq ?_
      refine AWP.text ?_
      refine Wy (.clo (.func 31) [(.agg [(.d (.lit (.int .i64 p1f0.Place))), (.d (.sl (List.length p1f0.Bound) (flatD enc_GPair p1f0.Bound))), (.d (.lit (.int .u32 p1f0.Broken)))])] []) [] (Omv rfl) ?_
      refine Wy (.d (.sl (List.length p0) (flatD enc_GRun p0))) [] (Omv rfl) ?_
      refine Wy (.d (.lit (.int .i64 y8_1))) [] (Omv rfl) ?_
      obtain ⟨x14_2, hx14_2, hm⟩ := bnd hm
      obtain ⟨hx14_2i, hx14_2g⟩ := geti_some hx14_2
      refine Wy (.d (.ref (List.drop ((Int.toNat y8_1) * 3) (flatD enc_GRun p0)))) [] (Oia rfl enc_GRun_len hx14_2i hx14_2g) ?_
      refine Wy (.agg [(.d (.lit (.int .i64 x14_2.Place))), (.d (.sl (List.length x14_2.Bound) (flatD enc_GPair x14_2.Bound))), (.d (.lit (.int .u32 x14_2.Broken)))]) [] (Lf rfl enc_GRun_len hx14_2g) ?_
      obtain ⟨r16_2, hr16_2, hm⟩ := bnd hm
      refine Wy (.d (.lit (.bool r16_2))) [] (Ocf [] [] [] 0 (ok_runs_Run_twin p1f0 x14_2 r16_2 hr16_2) (fun a w => Try.call31 a w) rfl trivial) ?_
      refine Walk.nil ?_
      refine Then.normal ?_
      refine Amk 65955 0 ⟨((.d (.sl (List.length p0) (flatD enc_GRun p0))) :: ((.clo (.func 31) [(.agg [(.d (.lit (.int .i64 p1f0.Place))), (.d (.sl (List.length p1f0.Bound) (flatD enc_GPair p1f0.Bound))), (.d (.lit (.int .u32 p1f0.Broken)))])] []) :: (tp 3 ((.d (.lit (.int .i64 y8_1))) :: (tp 1 ((.d (.lit (.int .i64 ((List.length p0 : Nat) : Int)))) :: ((.d (.lit (.int .i64 y8_1))) :: (tp 7 ((.d (.lit (.bool r16_2))) :: (tp 2 [])))))))))), [], 0⟩ ?_
      rcases tf_ r16_2 with hc16_4 | hc16_4
      · replace hm := cT hc16_4 hm
        refine AWP.if_ true (Eq.trans (by kernel_rfl) (lit_tf (b := r16_2) hc16_4)) ?_
        refine AWP.seq ?_
        refine AWP.text ?_
        refine Wy (.d (.lit (.int .i64 y8_1))) [] (Omv rfl) ?_
        refine Wy (.d (.lit (.int .i64 y8_1))) [] (Omv rfl) ?_
        refine Walk.nil ?_
        refine Then.normal ?_
        refine AWP.ret ?_
        refine InBlock.ret ?_
        refine Then.ret ?_
        refine RoundK.ret ?_
        refine InBlock.ret ?_
        refine Then.ret ?_
        obtain rfl := Option.some.inj hm
        exact ret_i []
      · replace hm := cF hc16_4 hm
        refine AWP.if_ false (Eq.trans (by kernel_rfl) (lit_tf (b := r16_2) hc16_4)) ?_
        refine AWP.skip ?_
        refine InBlock.normal ?_
        refine Then.normal ?_
        refine Amk 387 0 ⟨((.d (.sl (List.length p0) (flatD enc_GRun p0))) :: ((.clo (.func 31) [(.agg [(.d (.lit (.int .i64 p1f0.Place))), (.d (.sl (List.length p1f0.Bound) (flatD enc_GPair p1f0.Bound))), (.d (.lit (.int .u32 p1f0.Broken)))])] []) :: (tp 5 ((.d (.lit (.int .i64 ((List.length p0 : Nat) : Int)))) :: ((.d (.lit (.int .i64 y8_1))) :: (tp 10 [])))))), [], 0⟩ ?_
        refine AWP.text ?_
        refine Wy (.d (.lit (.int .i64 (IntKind.i64.wrap (y8_1 + 1))))) [] (Obn rfl (fun _ => hb_add (k := .i64))) ?_
        refine Wy (.d (.lit (.int .i64 (IntKind.i64.wrap (y8_1 + 1))))) [] (Omv rfl) ?_
        refine Walk.nil ?_
        refine RoundK.normal ?_
        exact Rounds.weak (Weak.toK 387 0 0 []) (ih_1 (fu_1, (IntKind.i64.wrap (y8_1 + 1))) hm (Nat.lt_succ_self _))
    · replace hm := cF hc9_3 hm
      refine AWP.if_ false (Eq.trans (by kernel_rfl) (lit_tf (b := decide (y8_1 < ((List.length p0 : Nat) : Int))) hc9_3)) ?_
      refine AWP.exit ?_
      refine Then.exit ?_
      refine RoundK.exit ?_
      refine InBlock.same ?_
      refine Then.normal ?_
      refine Amk 0 0 ⟨(tp 19 []), [], 0⟩ ?_
      refine AWP.seq ?_
      refine AWP.text ?_
      refine Wy (.d (.lit (.int .i64 (-1)))) [] (Omv rfl) ?_
      refine Walk.nil ?_
      refine Then.normal ?_
      refine AWP.ret ?_
      obtain rfl := Option.some.inj hm
      exact ret_i []

set_option maxRecDepth 20000 in
set_option maxHeartbeats 4000000 in
theorem ok_slices_ContainsFunc_Run__runs_Run_twin (p0 : (List GRun)) (p1f0 : GRun) (r : Bool) (h : m_slices_ContainsFunc_Run__runs_Run_twin p0 p1f0 = some r) : GCall Try.prog 30 [(.d (.sl (List.length p0) (flatD enc_GRun p0))), (.clo (.func 31) [(.agg [(.d (.lit (.int .i64 p1f0.Place))), (.d (.sl (List.length p1f0.Bound) (flatD enc_GPair p1f0.Bound))), (.d (.lit (.int .u32 p1f0.Broken)))])] [])] [] (.d (.lit (.bool r))) [] := by
  refine GCall.of_body (n := 9) (rs := [(.tmp 4)]) Try.func30 rfl rfl rfl ?_
  refine Ato ⟨((.d (.sl (List.length p0) (flatD enc_GRun p0))) :: ((.clo (.func 31) [(.agg [(.d (.lit (.int .i64 p1f0.Place))), (.d (.sl (List.length p1f0.Bound) (flatD enc_GPair p1f0.Bound))), (.d (.lit (.int .u32 p1f0.Broken)))])] []) :: (tu 7 []))), [], 0⟩ ?_
  have hm := h
  unfold m_slices_ContainsFunc_Run__runs_Run_twin at hm
  refine AWP.seq ?_
  refine AWP.text ?_
  refine Wy (.d (.lit (.bool false))) [] (Omv rfl) ?_
  refine Walk.nil ?_
  refine Then.normal ?_
  refine Amk 3 0 ⟨((.d (.sl (List.length p0) (flatD enc_GRun p0))) :: ((.clo (.func 31) [(.agg [(.d (.lit (.int .i64 p1f0.Place))), (.d (.sl (List.length p1f0.Bound) (flatD enc_GPair p1f0.Bound))), (.d (.lit (.int .u32 p1f0.Broken)))])] []) :: (tp 7 []))), [], 0⟩ ?_
  refine AWP.seq ?_
  refine AWP.text ?_
  refine Wy (.d (.sl (List.length p0) (flatD enc_GRun p0))) [] (Omv rfl) ?_
  refine Wy (.clo (.func 31) [(.agg [(.d (.lit (.int .i64 p1f0.Place))), (.d (.sl (List.length p1f0.Bound) (flatD enc_GPair p1f0.Bound))), (.d (.lit (.int .u32 p1f0.Broken)))])] []) [] (Omv rfl) ?_
  obtain ⟨r7_0, hr7_0, hm⟩ := bnd hm
  refine Wy (.d (.lit (.int .i64 r7_0))) [] (Ocf [] [] [] 0 (ok_slices_IndexFunc_Run__runs_Run_twin p0 p1f0 r7_0 hr7_0) (fun a w => Try.call48 a w) rfl trivial) ?_
  refine Wy (.d (.lit (.bool (decide ((0 : Int) ≤ r7_0))))) [] (Obn rfl (fun _ => hb_geq (k := .i64))) ?_
  refine Wy (.d (.lit (.bool (decide ((0 : Int) ≤ r7_0))))) [] (Omv rfl) ?_
  refine Walk.nil ?_
  refine Then.normal ?_
  refine AWP.ret ?_
  obtain rfl := Option.some.inj hm
  exact ret_i []

set_option maxRecDepth 20000 in
set_option maxHeartbeats 4000000 in
theorem ok_runs_Runs_Add (p0 : GRuns) (p1 : GRun) (r : (GRuns × Int)) (h : m_runs_Runs_Add p0 p1 = some r) : GCall Try.prog 9 [(.agg [(.d (.lit (.int .i64 p0.Cap))), (.d (.sl (List.length p0.L) (flatD enc_GRun p0.L)))]), (.agg [(.d (.lit (.int .i64 p1.Place))), (.d (.sl (List.length p1.Bound) (flatD enc_GPair p1.Bound))), (.d (.lit (.int .u32 p1.Broken)))])] [] (.tup [(.agg [(.d (.lit (.int .i64 r.1.Cap))), (.own 0)]), (.d (.lit (.int .i64 r.2)))]) [(.arr 42 3 (List.length r.1.L) (flatD enc_GRun r.1.L))] := by
  refine GCall.of_body (n := 30) (rs := [(.cell 4 35), (.tmp 5)]) Try.func9 rfl rfl rfl ?_
  refine Ato ⟨((.agg [(.d (.lit (.int .i64 p0.Cap))), (.d (.sl (List.length p0.L) (flatD enc_GRun p0.L)))]) :: ((.agg [(.d (.lit (.int .i64 p1.Place))), (.d (.sl (List.length p1.Bound) (flatD enc_GPair p1.Bound))), (.d (.lit (.int .u32 p1.Broken)))]) :: (tu 28 []))), [], 0⟩ ?_
  have hm := h
  unfold m_runs_Runs_Add at hm
  refine AWP.seq ?_
  refine AWP.text ?_
  refine Wy (.loc 0 0) [(0, (.box [(.d (.lit (.int .i64 p0.Cap))), (.d (.sl (List.length p0.L) (flatD enc_GRun p0.L)))]))] (Obx rfl) ?_
  refine Wy (.loc 1 0) [(1, (.box [(.d (.lit (.int .i64 p1.Place))), (.d (.sl (List.length p1.Bound) (flatD enc_GPair p1.Bound))), (.d (.lit (.int .u32 p1.Broken)))]))] (Obx rfl) ?_
  refine Wy (.loc 2 0) [(2, (.box [(.d (.lit (.int .i64 0))), (.d .nil)]))] (Oal rfl) ?_
  refine Wy (.d (.lit (.int .i64 0))) [] (Omv rfl) ?_
  refine Walk.nil ?_
  refine Then.normal ?_
  refine Amk 28 7 ⟨(tp 2 ((.loc 0 0) :: ((.loc 1 0) :: ((.loc 2 0) :: (tp 25 []))))), [(.box [(.d (.lit (.int .i64 p0.Cap))), (.d (.sl (List.length p0.L) (flatD enc_GRun p0.L)))]), (.box [(.d (.lit (.int .i64 p1.Place))), (.d (.sl (List.length p1.Bound) (flatD enc_GPair p1.Bound))), (.d (.lit (.int .u32 p1.Broken)))]), (.box [(.d (.lit (.int .i64 0))), (.d .nil)])], 0⟩ ?_
  refine AWP.seq ?_
  refine AWP.text ?_
  refine Wy (.agg [(.d (.lit (.int .i64 p0.Cap))), (.d (.sl (List.length p0.L) (flatD enc_GRun p0.L)))]) [] (Old rfl) ?_
  obtain ⟨r8_0, hr8_0, hm⟩ := bnd hm
  refine Wy (.agg [(.d (.lit (.int .i64 r8_0.Cap))), (.own 3)]) [(3, (.arr 42 3 (List.length r8_0.L) (flatD enc_GRun r8_0.L)))] (Ocf [] [3] [] 0 (ok_runs_Runs_filter__runs_all p0 r8_0 hr8_0) (fun a w => Try.call28 a w) rfl trivial) ?_
  refine Wy (.loc 4 0) [(4, (.box [(.d (.lit (.int .i64 0))), (.d .nil)]))] (Oal rfl) ?_
  refine Wy (.tup []) [(4, (.box [(.d (.lit (.int .i64 r8_0.Cap))), (.own 3)]))] (Ost rfl) ?_
  refine Walk.nil ?_
  refine Then.normal ?_
  refine Amk 92 31 ⟨(tp 2 ((.loc 0 0) :: ((.loc 1 0) :: ((.loc 2 0) :: (tp 1 ((.loc 4 0) :: (tp 23 []))))))), [(.box [(.d (.lit (.int .i64 p0.Cap))), (.d (.sl (List.length p0.L) (flatD enc_GRun p0.L)))]), (.box [(.d (.lit (.int .i64 p1.Place))), (.d (.sl (List.length p1.Bound) (flatD enc_GPair p1.Bound))), (.d (.lit (.int .u32 p1.Broken)))]), (.box [(.d (.lit (.int .i64 0))), (.d .nil)]), (.arr 42 3 (List.length r8_0.L) (flatD enc_GRun r8_0.L)), (.box [(.d (.lit (.int .i64 r8_0.Cap))), (.own 3)])], 0⟩ ?_
  refine AWP.seq ?_
  refine AWP.seq ?_
  refine AWP.text ?_
  refine Wy (.loc 0 1) [] (Ofa rfl) ?_
  refine Wy (.d (.sl (List.length p0.L) (flatD enc_GRun p0.L))) [] (Old rfl) ?_
  refine Wy (.agg [(.d (.lit (.int .i64 p1.Place))), (.d (.sl (List.length p1.Bound) (flatD enc_GPair p1.Bound))), (.d (.lit (.int .u32 p1.Broken)))]) [] (Old rfl) ?_
  refine Wy (.clo (.func 31) [(.agg [(.d (.lit (.int .i64 p1.Place))), (.d (.sl (List.length p1.Bound) (flatD enc_GPair p1.Bound))), (.d (.lit (.int .u32 p1.Broken)))])] []) [] (Ocs (by kernel_rfl) (op_mkfn rfl)) ?_
  obtain ⟨r13_1, hr13_1, hm⟩ := bnd hm
  refine Wy (.d (.lit (.bool r13_1))) [] (Ocf [] [] [] 0 (ok_slices_ContainsFunc_Run__runs_Run_twin p0.L p1 r13_1 hr13_1) (fun a w => Try.call30 a w) rfl trivial) ?_
  refine Walk.nil ?_
  refine Then.normal ?_
  refine Amk 8284 31 ⟨(tp 2 ((.loc 0 0) :: ((.loc 1 0) :: ((.loc 2 0) :: (tp 1 ((.loc 4 0) :: (tp 6 ((.d (.lit (.bool r13_1))) :: (tp 16 []))))))))), [(.box [(.d (.lit (.int .i64 p0.Cap))), (.d (.sl (List.length p0.L) (flatD enc_GRun p0.L)))]), (.box [(.d (.lit (.int .i64 p1.Place))), (.d (.sl (List.length p1.Bound) (flatD enc_GPair p1.Bound))), (.d (.lit (.int .u32 p1.Broken)))]), (.box [(.d (.lit (.int .i64 0))), (.d .nil)]), (.arr 42 3 (List.length r8_0.L) (flatD enc_GRun r8_0.L)), (.box [(.d (.lit (.int .i64 r8_0.Cap))), (.own 3)])], 0⟩ ?_
  rcases tf_ r13_1 with hc13_4 | hc13_4
  · replace hm := cT hc13_4 hm
    refine AWP.if_ true (Eq.trans (by kernel_rfl) (lit_tf (b := r13_1) hc13_4)) ?_
    refine AWP.seq ?_
    refine AWP.text ?_
    refine Wy (.agg [(.d (.lit (.int .i64 r8_0.Cap))), (.own 3)]) [] (Old rfl) ?_
    refine Wy (.tup []) [(2, (.box [(.d (.lit (.int .i64 r8_0.Cap))), (.own 3)]))] (Ost rfl) ?_
    refine Wy (.d (.lit (.int .i64 0))) [] (Omv rfl) ?_
    refine Walk.nil ?_
    refine Then.normal ?_
    refine AWP.ret ?_
    refine Then.ret ?_
    obtain rfl := Option.some.inj hm
    exact ret_i [3]
  · replace hm := cF hc13_4 hm
    refine AWP.if_ false (Eq.trans (by kernel_rfl) (lit_tf (b := r13_1) hc13_4)) ?_
    refine AWP.skip ?_
    refine Then.normal ?_
    refine Amk 92 31 ⟨(tp 2 ((.loc 0 0) :: ((.loc 1 0) :: ((.loc 2 0) :: (tp 1 ((.loc 4 0) :: (tp 23 []))))))), [(.box [(.d (.lit (.int .i64 p0.Cap))), (.d (.sl (List.length p0.L) (flatD enc_GRun p0.L)))]), (.box [(.d (.lit (.int .i64 p1.Place))), (.d (.sl (List.length p1.Bound) (flatD enc_GPair p1.Bound))), (.d (.lit (.int .u32 p1.Broken)))]), (.box [(.d (.lit (.int .i64 0))), (.d .nil)]), (.arr 42 3 (List.length r8_0.L) (flatD enc_GRun r8_0.L)), (.box [(.d (.lit (.int .i64 r8_0.Cap))), (.own 3)])], 0⟩ ?_
    refine AWP.seq ?_
    refine AWP.seq ?_
    refine AWP.text ?_
    refine Wy (.loc 0 1) [] (Ofa rfl) ?_
    refine Wy (.d (.sl (List.length p0.L) (flatD enc_GRun p0.L))) [] (Old rfl) ?_
    refine Wy (.d (.lit (.int .i64 ((List.length p0.L : Nat) : Int)))) [] (Oln rfl) ?_
    refine Wy (.loc 0 0) [] (Ofa rfl) ?_
    refine Wy (.d (.lit (.int .i64 p0.Cap))) [] (Old rfl) ?_
    refine Wy (.d (.lit (.bool (decide (p0.Cap ≤ ((List.length p0.L : Nat) : Int)))))) [] (Obn rfl (fun _ => hb_geq (k := .i64))) ?_
    refine Walk.nil ?_
    refine Then.normal ?_
    refine Amk 1048664 30 ⟨(tp 3 ((.loc 1 0) :: ((.loc 2 0) :: (tp 1 ((.loc 4 0) :: (tp 13 ((.d (.lit (.bool (decide (p0.Cap ≤ ((List.length p0.L : Nat) : Int)))))) :: (tp 9 [])))))))), [.gone, (.box [(.d (.lit (.int .i64 p1.Place))), (.d (.sl (List.length p1.Bound) (flatD enc_GPair p1.Bound))), (.d (.lit (.int .u32 p1.Broken)))]), (.box [(.d (.lit (.int .i64 0))), (.d .nil)]), (.arr 42 3 (List.length r8_0.L) (flatD enc_GRun r8_0.L)), (.box [(.d (.lit (.int .i64 r8_0.Cap))), (.own 3)])], 0⟩ ?_
    rcases tf_ (decide (p0.Cap ≤ ((List.length p0.L : Nat) : Int))) with hc20_5 | hc20_5
    · replace hm := cT hc20_5 hm
      refine AWP.if_ true (Eq.trans (by kernel_rfl) (lit_tf (b := decide (p0.Cap ≤ ((List.length p0.L : Nat) : Int))) hc20_5)) ?_
      refine AWP.seq ?_
      refine AWP.text ?_
      refine Wy (.agg [(.d (.lit (.int .i64 r8_0.Cap))), (.own 3)]) [] (Old rfl) ?_
      refine Wy (.tup []) [(2, (.box [(.d (.lit (.int .i64 r8_0.Cap))), (.own 3)]))] (Ost rfl) ?_
      refine Wy (.d (.lit (.int .i64 7))) [] (Omv rfl) ?_
      refine Walk.nil ?_
      refine Then.normal ?_
      refine AWP.ret ?_
      refine Then.ret ?_
      obtain rfl := Option.some.inj hm
      exact ret_i [3]
    · replace hm := cF hc20_5 hm
      refine AWP.if_ false (Eq.trans (by kernel_rfl) (lit_tf (b := decide (p0.Cap ≤ ((List.length p0.L : Nat) : Int))) hc20_5)) ?_
      refine AWP.skip ?_
      refine Then.normal ?_
      refine Amk 88 30 ⟨(tp 3 ((.loc 1 0) :: ((.loc 2 0) :: (tp 1 ((.loc 4 0) :: (tp 23 [])))))), [.gone, (.box [(.d (.lit (.int .i64 p1.Place))), (.d (.sl (List.length p1.Bound) (flatD enc_GPair p1.Bound))), (.d (.lit (.int .u32 p1.Broken)))]), (.box [(.d (.lit (.int .i64 0))), (.d .nil)]), (.arr 42 3 (List.length r8_0.L) (flatD enc_GRun r8_0.L)), (.box [(.d (.lit (.int .i64 r8_0.Cap))), (.own 3)])], 0⟩ ?_
      refine AWP.seq ?_
      refine Adr ?_
      refine Wy (.loc 4 1) [] (Ofa rfl) ?_
      refine Wy (.own 3) [] (Old rfl) ?_
      refine Wy (.agg [(.d (.lit (.int .i64 p1.Place))), (.d (.sl (List.length p1.Bound) (flatD enc_GPair p1.Bound))), (.d (.lit (.int .u32 p1.Broken)))]) [] (Old rfl) ?_
      obtain ⟨r25_3, hr25_3, hm⟩ := bnd hm
      refine Wy (.agg [(.d (.lit (.int .i64 r25_3.Place))), (.d (.sl (List.length r25_3.Bound) (flatD enc_GPair r25_3.Bound))), (.d (.lit (.int .u32 r25_3.Broken)))]) [(5, (.arr 93 6 (List.length r25_3.Bound) (flatD enc_GPair r25_3.Bound))), (5, (.fro 93 6 (List.length r25_3.Bound) (flatD enc_GPair r25_3.Bound)))] (Ofz [5] (.agg [(.d (.lit (.int .i64 r25_3.Place))), (.own 5), (.d (.lit (.int .u32 r25_3.Broken)))]) [(5, (.arr 93 6 (List.length r25_3.Bound) (flatD enc_GPair r25_3.Bound)))] (Ocf [] [5] [] 0 (ok_runs_clone p1 r25_3 hr25_3) (fun a w => Try.call32 a w) rfl trivial)) ?_
      refine Wy (.own 6) [(6, (.arr 42 3 (List.length ([r25_3] : List GRun)) (flatD enc_GRun ([r25_3] : List GRun))))] (Obs rfl) ?_
      obtain ⟨a27_3, ha27_3, hm⟩ := bnd hm; obtain ⟨ha27_3e, ha27_3l⟩ := app_some ha27_3
      refine Wy (.own 7) [(3, .gone), (7, (.arr 42 3 (List.length a27_3) (flatD enc_GRun a27_3)))] (Oap rfl elemOK_33 enc_GRun_len ha27_3e ha27_3l) ?_
      refine Wy (.loc 4 1) [] (Ofa rfl) ?_
      refine Wy (.tup []) [(4, (.box [(.d (.lit (.int .i64 r8_0.Cap))), (.own 7)]))] (Ost rfl) ?_
      refine Wdr ?_
      refine Then.normal ?_
      refine Amk 80 148 ⟨(tp 4 ((.loc 2 0) :: (tp 1 ((.loc 4 0) :: (tp 23 []))))), [.gone, .gone, (.box [(.d (.lit (.int .i64 0))), (.d .nil)]), .gone, (.box [(.d (.lit (.int .i64 r8_0.Cap))), (.own 7)]), .gone, .gone, (.arr 42 3 (List.length a27_3) (flatD enc_GRun a27_3))], 0⟩ ?_
      refine AWP.seq ?_
      refine AWP.text ?_
      refine Wy (.agg [(.d (.lit (.int .i64 r8_0.Cap))), (.own 7)]) [] (Old rfl) ?_
      refine Wy (.tup []) [(2, (.box [(.d (.lit (.int .i64 r8_0.Cap))), (.own 7)]))] (Ost rfl) ?_
      refine Wy (.d (.lit (.int .i64 0))) [] (Omv rfl) ?_
      refine Walk.nil ?_
      refine Then.normal ?_
      refine AWP.ret ?_
      obtain rfl := Option.some.inj hm
      exact ret_i [7]

set_option maxRecDepth 20000 in
set_option maxHeartbeats 4000000 in
theorem ok_bind_Span (p0 : (List GPair)) (r : (Int × Int × Bool)) (h : m_bind_Span p0 = some r) : GCall Try.prog 39 [(.d (.sl (List.length p0) (flatD enc_GPair p0)))] [] (.tup [(.d (.lit (.int .i64 r.1))), (.d (.lit (.int .i64 r.2.1))), (.d (.lit (.bool r.2.2)))]) [] := by
  refine GCall.of_body (n := 21) (rs := [(.tmp 2), (.tmp 3), (.tmp 4)]) Try.func39 rfl rfl rfl ?_
  refine Ato ⟨((.d (.sl (List.length p0) (flatD enc_GPair p0))) :: (tu 20 [])), [], 0⟩ ?_
  have hm := h
  unfold m_bind_Span at hm
  refine AWP.seq ?_
  refine AWP.text ?_
  refine Wy (.d (.lit (.int .i64 0))) [] (Omv rfl) ?_
  refine Wy (.d (.lit (.int .i64 0))) [] (Omv rfl) ?_
  refine Wy (.d (.lit (.bool false))) [] (Omv rfl) ?_
  refine Walk.nil ?_
  refine Then.normal ?_
  refine Amk 1 0 ⟨((.d (.sl (List.length p0) (flatD enc_GPair p0))) :: (tp 20 [])), [], 0⟩ ?_
  refine AWP.seq ?_
  refine AWP.seq ?_
  refine AWP.text ?_
  refine Wy (.d (.sl (List.length p0) (flatD enc_GPair p0))) [] (Omv rfl) ?_
  refine Wy (.d (.lit (.int .i64 ((List.length p0 : Nat) : Int)))) [] (Oln rfl) ?_
  refine Wy (.d (.lit (.bool (decide (((List.length p0 : Nat) : Int) = 0))))) [] (Obn rfl (fun _ => hb_eql (k := .i64))) ?_
  refine Walk.nil ?_
  refine Then.normal ?_
  refine Amk 129 0 ⟨((.d (.sl (List.length p0) (flatD enc_GPair p0))) :: (tp 6 ((.d (.lit (.bool (decide (((List.length p0 : Nat) : Int) = 0))))) :: (tp 13 [])))), [], 0⟩ ?_
  rcases tf_ (decide (((List.length p0 : Nat) : Int) = 0)) with hc7_2 | hc7_2
  · replace hm := cT hc7_2 hm
    refine AWP.if_ true (Eq.trans (by kernel_rfl) (lit_tf (b := decide (((List.length p0 : Nat) : Int) = 0)) hc7_2)) ?_
    refine AWP.seq ?_
    refine AWP.text ?_
    refine Wy (.d (.lit (.int .i64 0))) [] (Omv rfl) ?_
    refine Wy (.d (.lit (.int .i64 0))) [] (Omv rfl) ?_
    refine Wy (.d (.lit (.bool false))) [] (Omv rfl) ?_
    refine Walk.nil ?_
    refine Then.normal ?_
    refine AWP.ret ?_
    refine Then.ret ?_
    obtain rfl := Option.some.inj hm
    exact ret_i []
  · replace hm := cF hc7_2 hm
    refine AWP.if_ false (Eq.trans (by kernel_rfl) (lit_tf (b := decide (((List.length p0 : Nat) : Int) = 0)) hc7_2)) ?_
    refine AWP.skip ?_
    refine Then.normal ?_
    refine Amk 1 0 ⟨((.d (.sl (List.length p0) (flatD enc_GPair p0))) :: (tp 20 [])), [], 0⟩ ?_
    refine AWP.seq ?_
    refine Adr ?_
    refine Wy (.d (.sl (List.length p0) (flatD enc_GPair p0))) [] (Omv rfl) ?_
    obtain ⟨x9_1, hx9_1, hm⟩ := bnd hm
    obtain ⟨hx9_1i, hx9_1g⟩ := geti_some hx9_1
    refine Wy (.d (.ref (List.drop ((Int.toNat 0) * 6) (flatD enc_GPair p0)))) [] (Oia rfl enc_GPair_len hx9_1i hx9_1g) ?_
    refine Wy (.d (.ref (List.drop 1 (List.drop ((Int.toNat 0) * 6) (flatD enc_GPair p0))))) [] (Ofa rfl) ?_
    refine Wy (.d (.ref (List.drop 1 (List.drop ((Int.toNat 0) * 6) (flatD enc_GPair p0))))) [] (Ofa rfl) ?_
    refine Wy (.d (.lit (.int .i64 x9_1.E.Time))) [] (Lfk1 1 rfl enc_GPair_len hx9_1g) ?_
    refine Wy (.d (.sl (List.length p0) (flatD enc_GPair p0))) [] (Omv rfl) ?_
    refine Wy (.d (.sl (List.length p0) (flatD enc_GPair p0))) [] (Omv rfl) ?_
    refine Wy (.d (.lit (.int .i64 ((List.length p0 : Nat) : Int)))) [] (Oln rfl) ?_
    refine Wy (.d (.lit (.int .i64 (IntKind.i64.wrap (((List.length p0 : Nat) : Int) - 1))))) [] (Obn rfl (fun _ => hb_sub (k := .i64))) ?_
    obtain ⟨x17_1, hx17_1, hm⟩ := bnd hm
    obtain ⟨hx17_1i, hx17_1g⟩ := geti_some hx17_1
    refine Wy (.d (.ref (List.drop ((Int.toNat (IntKind.i64.wrap (((List.length p0 : Nat) : Int) - 1))) * 6) (flatD enc_GPair p0)))) [] (Oia rfl enc_GPair_len hx17_1i hx17_1g) ?_
    refine Wy (.d (.ref (List.drop 1 (List.drop ((Int.toNat (IntKind.i64.wrap (((List.length p0 : Nat) : Int) - 1))) * 6) (flatD enc_GPair p0))))) [] (Ofa rfl) ?_
    refine Wy (.d (.ref (List.drop 1 (List.drop ((Int.toNat (IntKind.i64.wrap (((List.length p0 : Nat) : Int) - 1))) * 6) (flatD enc_GPair p0))))) [] (Ofa rfl) ?_
    refine Wy (.d (.lit (.int .i64 x17_1.E.Time))) [] (Lfk1 1 rfl enc_GPair_len hx17_1g) ?_
    refine Wy (.d (.lit (.int .i64 x9_1.E.Time))) [] (Omv rfl) ?_
    refine Wy (.d (.lit (.int .i64 x17_1.E.Time))) [] (Omv rfl) ?_
    refine Wy (.d (.lit (.bool true))) [] (Omv rfl) ?_
    refine Wdr ?_
    refine Then.normal ?_
    refine AWP.ret ?_
    obtain rfl := Option.some.inj hm
    exact ret_i []

set_option maxRecDepth 20000 in
set_option maxHeartbeats 4000000 in
theorem ok_runs_held (p0 : Int) (r : Int) (h : m_runs_held p0 = some r) : GCall Try.prog 43 [(.d (.lit (.int .i64 p0)))] [] (.d (.lit (.int .i64 r))) [] := by
  refine GCall.of_body (n := 6) (rs := [(.tmp 2)]) Try.func43 rfl rfl rfl ?_
  refine Ato ⟨((.d (.lit (.int .i64 p0))) :: (tu 5 [])), [], 0⟩ ?_
  have hm := h
  unfold m_runs_held at hm
  refine AWP.seq ?_
  refine AWP.text ?_
  refine Wy (.d (.lit (.int .i64 0))) [] (Omv rfl) ?_
  refine Walk.nil ?_
  refine Then.normal ?_
  refine Amk 1 0 ⟨((.d (.lit (.int .i64 p0))) :: (tp 5 [])), [], 0⟩ ?_
  refine AWP.seq ?_
  refine AWP.text ?_
  refine Wy (.d (.lit (.int .i64 p0))) [] (Omv rfl) ?_
  refine Wy (.d (.lit (.int .i64 (min p0 1099511627776)))) [] (op_bi2 rfl (a1 := .int .i64 p0) (a2 := .int .i64 1099511627776) (by kernel_rfl) (by kernel_rfl) hb_min) ?_
  refine Wy (.d (.lit (.int .i64 (max 0 (min p0 1099511627776))))) [] (op_bi2 rfl (a1 := .int .i64 0) (a2 := .int .i64 (min p0 1099511627776)) (by kernel_rfl) (by kernel_rfl) hb_max) ?_
  refine Wy (.d (.lit (.int .i64 (max 0 (min p0 1099511627776))))) [] (Omv rfl) ?_
  refine Walk.nil ?_
  refine Then.normal ?_
  refine AWP.ret ?_
  obtain rfl := Option.some.inj hm
  exact ret_i []

set_option maxRecDepth 20000 in
set_option maxHeartbeats 4000000 in
theorem ok_runs_Runs_Prune_1 (p0 : Int) (p1 : GRuns) (p2 : Int) (p3 : Int) (r : Bool) (h : m_runs_Runs_Prune_1 p0 p1 p2 p3 = some r) : GCall Try.prog 42 [(.d (.lit (.int .i64 p0))), (.d (.ref [(.lit (.int .i64 p1.Cap)), (.sl (List.length p1.L) (flatD enc_GRun p1.L))])), (.d (.ref [(.lit (.int .i64 p2))])), (.d (.ref [(.lit (.int .i64 p3))]))] [] (.d (.lit (.bool r))) [] := by
  refine GCall.of_body (n := 32) (rs := [(.tmp 5)]) Try.func42 rfl rfl rfl ?_
  refine Ato ⟨((.d (.lit (.int .i64 p0))) :: ((.d (.ref [(.lit (.int .i64 p1.Cap)), (.sl (List.length p1.L) (flatD enc_GRun p1.L))])) :: ((.d (.ref [(.lit (.int .i64 p2))])) :: ((.d (.ref [(.lit (.int .i64 p3))])) :: (tu 28 []))))), [], 0⟩ ?_
  have hm := h
  unfold m_runs_Runs_Prune_1 at hm
  refine AWP.seq ?_
  refine AWP.text ?_
  refine Wy (.d (.lit (.bool false))) [] (Omv rfl) ?_
  refine Walk.nil ?_
  refine Then.normal ?_
  refine Amk 15 0 ⟨((.d (.lit (.int .i64 p0))) :: ((.d (.ref [(.lit (.int .i64 p1.Cap)), (.sl (List.length p1.L) (flatD enc_GRun p1.L))])) :: ((.d (.ref [(.lit (.int .i64 p2))])) :: ((.d (.ref [(.lit (.int .i64 p3))])) :: (tp 28 []))))), [], 0⟩ ?_
  refine AWP.seq ?_
  refine AWP.text ?_
  refine Wy (.d (.ref (List.drop 1 [(.lit (.int .i64 p1.Cap)), (.sl (List.length p1.L) (flatD enc_GRun p1.L))]))) [] (Ofa rfl) ?_
  refine Wy (.d (.sl (List.length p1.L) (flatD enc_GRun p1.L))) [] (Old rfl) ?_
  refine Wy (.d (.lit (.int .i64 p0))) [] (Omv rfl) ?_
  obtain ⟨x13_0, hx13_0, hm⟩ := bnd hm
  obtain ⟨hx13_0i, hx13_0g⟩ := geti_some hx13_0
  refine Wy (.d (.ref (List.drop ((Int.toNat p0) * 3) (flatD enc_GRun p1.L)))) [] (Oia rfl enc_GRun_len hx13_0i hx13_0g) ?_
  refine Wy (.d (.ref (List.drop 1 (List.drop ((Int.toNat p0) * 3) (flatD enc_GRun p1.L))))) [] (Ofa rfl) ?_
  refine Wy (.d (.sl (List.length x13_0.Bound) (flatD enc_GPair x13_0.Bound))) [] (Lfk1 1 rfl enc_GRun_len hx13_0g) ?_
  obtain ⟨r16_0, hr16_0, hm⟩ := bnd hm
  refine Wy (.tup [(.d (.lit (.int .i64 r16_0.1))), (.d (.lit (.int .i64 r16_0.2.1))), (.d (.lit (.bool r16_0.2.2)))]) [] (Ocf [] [] [] 0 (ok_bind_Span x13_0.Bound r16_0 hr16_0) (fun a w => Try.call39 a w) rfl trivial) ?_
  refine Wy (.tup [(.d (.lit (.int .i64 r16_0.1))), (.d (.lit (.int .i64 r16_0.2.1))), (.d (.lit (.bool r16_0.2.2)))]) [] (Omv rfl) ?_
  refine Wy (.d (.lit (.int .i64 r16_0.1))) [] (Oex rfl) ?_
  refine Wy (.d (.lit (.int .i64 r16_0.2.1))) [] (Oex rfl) ?_
  refine Wy (.d (.lit (.bool r16_0.2.2))) [] (Oex rfl) ?_
  refine Wy (.d (.lit (.int .i64 r16_0.1))) [] (Omv rfl) ?_
  refine Wy (.d (.lit (.int .i64 r16_0.2.1))) [] (Omv rfl) ?_
  refine Wy (.d (.lit (.bool r16_0.2.2))) [] (Omv rfl) ?_
  refine Walk.nil ?_
  refine Then.normal ?_
  refine Amk 332 0 ⟨(tp 2 ((.d (.ref [(.lit (.int .i64 p2))])) :: ((.d (.ref [(.lit (.int .i64 p3))])) :: (tp 2 ((.d (.lit (.int .i64 r16_0.1))) :: (tp 1 ((.d (.lit (.bool r16_0.2.2))) :: (tp 23 [])))))))), [], 0⟩ ?_
  refine AWP.seq ?_
  refine Adr ?_
  refine Wy (.d (.lit (.bool r16_0.2.2))) [] (Omv rfl) ?_
  refine Wy (.d (.lit (.bool (!r16_0.2.2)))) [] (Ocs (by kernel_rfl) (op_un rfl (a1 := .bool r16_0.2.2) (by kernel_rfl) (fun _ => hu_not))) ?_
  rcases tf_ (!r16_0.2.2) with hq22_1 | hq22_1
  · replace hm := cT hq22_1 hm
    refine Wy (.d (.lit (.bool true))) [] (Ocs (lit_tf (b := (!r16_0.2.2)) hq22_1) (Omv rfl)) ?_
    refine Wn ?_
    refine Wn ?_
    refine Wn ?_
    refine Wn ?_
    refine Wn ?_
    refine Wn ?_
    refine Wn ?_
    refine Wn ?_
    refine Wy (.d (.lit (.bool true))) [] (OpT rfl) ?_
    refine Wy (.d (.lit (.bool true))) [] (Omv rfl) ?_
    refine Wdr ?_
    refine Then.normal ?_
    refine AWP.ret ?_
    obtain rfl := Option.some.inj hm
    exact ret_i []
  · replace hm := cF hq22_1 hm
    refine Wy (.d (.lit (.bool false))) [] (Ocs (lit_tf (b := (!r16_0.2.2)) hq22_1) (Omv rfl)) ?_
    refine Wy (.d (.lit (.int .i64 p2))) [] (Old rfl) ?_
    obtain ⟨r24_1, hr24_1, hm⟩ := bnd hm
    refine Wy (.d (.lit (.int .i64 r24_1))) [] (Ocf [] [] [] 0 (ok_runs_held p2 r24_1 hr24_1) (fun a w => Try.call43 a w) rfl trivial) ?_
    refine Wy (.d (.lit (.int .i64 r16_0.1))) [] (Omv rfl) ?_
    obtain ⟨r26_1, hr26_1, hm⟩ := bnd hm
    refine Wy (.d (.lit (.int .i64 r26_1))) [] (Ocf [] [] [] 0 (ok_runs_held r16_0.1 r26_1 hr26_1) (fun a w => Try.call43 a w) rfl trivial) ?_
    refine Wy (.d (.lit (.int .i64 (IntKind.i64.wrap (r24_1 - r26_1))))) [] (Obn rfl (fun _ => hb_sub (k := .i64))) ?_
    refine Wy (.d (.lit (.int .i64 p3))) [] (Old rfl) ?_
    obtain ⟨r29_1, hr29_1, hm⟩ := bnd hm
    refine Wy (.d (.lit (.int .i64 r29_1))) [] (Ocf [] [] [] 0 (ok_runs_held p3 r29_1 hr29_1) (fun a w => Try.call43 a w) rfl trivial) ?_
    refine Wy (.d (.lit (.bool (decide ((IntKind.i64.wrap (r24_1 - r26_1)) ≤ r29_1))))) [] (Obn rfl (fun _ => hb_leq (k := .i64))) ?_
    refine Wy (.d (.lit (.bool (decide ((IntKind.i64.wrap (r24_1 - r26_1)) ≤ r29_1))))) [] (OpF rfl) ?_
    refine Wy (.d (.lit (.bool (decide ((IntKind.i64.wrap (r24_1 - r26_1)) ≤ r29_1))))) [] (Omv rfl) ?_
    refine Wdr ?_
    refine Then.normal ?_
    refine AWP.ret ?_
    obtain rfl := Option.some.inj hm
    exact ret_i []

set_option maxRecDepth 20000 in
set_option maxHeartbeats 4000000 in
theorem ok_runs_Runs_filter__runs_Runs_Prune_1 (p0 : GRuns) (p1c0 : GRuns) (p1c1 : Int) (p1c2 : Int) (r : GRuns) (h : m_runs_Runs_filter__runs_Runs_Prune_1 p0 p1c0 p1c1 p1c2 = some r) : GCall Try.prog 28 [(.agg [(.d (.lit (.int .i64 p0.Cap))), (.d (.sl (List.length p0.L) (flatD enc_GRun p0.L)))]), (.clo (.func 42) [] [(.d (.ref [(.lit (.int .i64 p1c0.Cap)), (.sl (List.length p1c0.L) (flatD enc_GRun p1c0.L))])), (.d (.ref [(.lit (.int .i64 p1c1))])), (.d (.ref [(.lit (.int .i64 p1c2))]))])] [] (.agg [(.d (.lit (.int .i64 r.Cap))), (.own 0)]) [(.arr 42 3 (List.length r.L) (flatD enc_GRun r.L))] := by
  refine GCall.of_body (n := 31) (rs := [(.cell 4 35)]) Try.func28 rfl rfl rfl ?_
  refine Ato ⟨((.agg [(.d (.lit (.int .i64 p0.Cap))), (.d (.sl (List.length p0.L) (flatD enc_GRun p0.L)))]) :: ((.clo (.func 42) [] [(.d (.ref [(.lit (.int .i64 p1c0.Cap)), (.sl (List.length p1c0.L) (flatD enc_GRun p1c0.L))])), (.d (.ref [(.lit (.int .i64 p1c1))])), (.d (.ref [(.lit (.int .i64 p1c2))]))]) :: (tu 29 []))), [], 0⟩ ?_
  have hm := h
  unfold m_runs_Runs_filter__runs_Runs_Prune_1 at hm
  refine AWP.seq ?_
  refine AWP.text ?_
  refine Wy (.loc 0 0) [(0, (.box [(.d (.lit (.int .i64 p0.Cap))), (.d (.sl (List.length p0.L) (flatD enc_GRun p0.L)))]))] (Obx rfl) ?_
  refine Wy (.loc 1 0) [(1, (.box [(.d (.lit (.int .i64 0))), (.d .nil)]))] (Oal rfl) ?_
  refine Walk.nil ?_
  refine Then.normal ?_
  refine Amk 22 3 ⟨(tp 1 ((.clo (.func 42) [] [(.d (.ref [(.lit (.int .i64 p1c0.Cap)), (.sl (List.length p1c0.L) (flatD enc_GRun p1c0.L))])), (.d (.ref [(.lit (.int .i64 p1c1))])), (.d (.ref [(.lit (.int .i64 p1c2))]))]) :: ((.loc 0 0) :: (tp 1 ((.loc 1 0) :: (tp 26 [])))))), [(.box [(.d (.lit (.int .i64 p0.Cap))), (.d (.sl (List.length p0.L) (flatD enc_GRun p0.L)))]), (.box [(.d (.lit (.int .i64 0))), (.d .nil)])], 0⟩ ?_
  refine AWP.seq ?_
  refine AWP.text ?_
  refine Wy (.loc 0 0) [] (Ofa rfl) ?_
  refine Wy (.d (.lit (.int .i64 p0.Cap))) [] (Old rfl) ?_
  refine Wy (.agg [(.d (.lit (.int .i64 p0.Cap))), (.d .nil)]) [] (Obd rfl) ?_
  refine Wy (.loc 2 0) [(2, (.box [(.d (.lit (.int .i64 0))), (.d .nil)]))] (Oal rfl) ?_
  refine Wy (.tup []) [(2, (.box [(.d (.lit (.int .i64 p0.Cap))), (.d .nil)]))] (Ost rfl) ?_
  refine Walk.nil ?_
  refine Then.normal ?_
  refine Amk 54 7 ⟨(tp 1 ((.clo (.func 42) [] [(.d (.ref [(.lit (.int .i64 p1c0.Cap)), (.sl (List.length p1c0.L) (flatD enc_GRun p1c0.L))])), (.d (.ref [(.lit (.int .i64 p1c1))])), (.d (.ref [(.lit (.int .i64 p1c2))]))]) :: ((.loc 0 0) :: (tp 1 ((.loc 1 0) :: ((.loc 2 0) :: (tp 25 []))))))), [(.box [(.d (.lit (.int .i64 p0.Cap))), (.d (.sl (List.length p0.L) (flatD enc_GRun p0.L)))]), (.box [(.d (.lit (.int .i64 0))), (.d .nil)]), (.box [(.d (.lit (.int .i64 p0.Cap))), (.d .nil)])], 0⟩ ?_
  refine AWP.seq ?_
  refine AWP.seq ?_
  refine AWP.text ?_
  refine Wy (.loc 0 1) [] (Ofa rfl) ?_
  refine Wy (.d (.sl (List.length p0.L) (flatD enc_GRun p0.L))) [] (Old rfl) ?_
  refine Wy (.d (.lit (.int .i64 ((List.length p0.L : Nat) : Int)))) [] (Oln rfl) ?_
  refine Wy (.d (.lit (.int .i64 0))) [] (Omv rfl) ?_
  refine Walk.nil ?_
  refine Then.normal ?_
  refine Amk 28722 6 ⟨(tp 1 ((.clo (.func 42) [] [(.d (.ref [(.lit (.int .i64 p1c0.Cap)), (.sl (List.length p1c0.L) (flatD enc_GRun p1c0.L))])), (.d (.ref [(.lit (.int .i64 p1c1))])), (.d (.ref [(.lit (.int .i64 p1c2))]))]) :: (tp 2 ((.loc 1 0) :: ((.loc 2 0) :: (tp 6 ((.d (.sl (List.length p0.L) (flatD enc_GRun p0.L))) :: ((.d (.lit (.int .i64 ((List.length p0.L : Nat) : Int)))) :: ((.d (.lit (.int .i64 0))) :: (tp 16 [])))))))))), [.gone, (.box [(.d (.lit (.int .i64 0))), (.d .nil)]), (.box [(.d (.lit (.int .i64 p0.Cap))), (.d .nil)])], 0⟩ ?_
  refine AWP.block ?_
  refine Aob 2 1 42 3 ⟨(tp 1 ((.clo (.func 42) [] [(.d (.ref [(.lit (.int .i64 p1c0.Cap)), (.sl (List.length p1c0.L) (flatD enc_GRun p1c0.L))])), (.d (.ref [(.lit (.int .i64 p1c1))])), (.d (.ref [(.lit (.int .i64 p1c2))]))]) :: (tp 2 ((.loc 1 0) :: ((.loc 2 0) :: (tp 6 ((.d (.sl (List.length p0.L) (flatD enc_GRun p0.L))) :: ((.d (.lit (.int .i64 ((List.length p0.L : Nat) : Int)))) :: ((.d (.lit (.int .i64 0))) :: (tp 16 [])))))))))), [.gone, (.box [(.d (.lit (.int .i64 0))), (.d .nil)]), (.box [(.d (.lit (.int .i64 p0.Cap))), (.own 3)]), (.arr 42 3 (List.length ([] : List GRun)) (flatD enc_GRun ([] : List GRun)))], 0⟩ ?_
  refine AWP.loopI (α := Nat × (List GRun) × Int)
    (fun x => match x with | (fu_1, y5_d_1_1, y14_1) => (⟨(tp 1 ((.clo (.func 42) [] [(.d (.ref [(.lit (.int .i64 p1c0.Cap)), (.sl (List.length p1c0.L) (flatD enc_GRun p1c0.L))])), (.d (.ref [(.lit (.int .i64 p1c1))])), (.d (.ref [(.lit (.int .i64 p1c2))]))]) :: (tp 2 ((.loc 0 0) :: ((.loc 1 0) :: (tp 6 ((.d (.sl (List.length p0.L) (flatD enc_GRun p0.L))) :: ((.d (.lit (.int .i64 ((List.length p0.L : Nat) : Int)))) :: ((.d (.lit (.int .i64 y14_1))) :: (tp 16 [])))))))))), [(.box [(.d (.lit (.int .i64 0))), (.d .nil)]), (.box [(.d (.lit (.int .i64 p0.Cap))), (.own 2)]), (.arr 42 3 (List.length y5_d_1_1) (flatD enc_GRun y5_d_1_1))], 0⟩ : St))
    (fun x => match x with | (fu_1, y5_d_1_1, y14_1) => m_runs_Runs_filter__runs_Runs_Prune_1_l1 p0 p1c0 p1c1 p1c2 fu_1 y5_d_1_1 y14_1 = some r)
    (fun x => match x with | (fu_1, y5_d_1_1, y14_1) => fu_1) (1152921504606846976, ([] : List GRun), 0)
    (Weak.toK 28722 0 0 [1, 2, 3]) hm ?_
  rintro ⟨fu_1, y5_d_1_1, y14_1⟩ n_1 hm ih_1
  try dsimp only at hm ih_1 ⊢
  cases fu_1 with
  | zero => exact absurd hm (by unfold m_runs_Runs_filter__runs_Runs_Prune_1_l1; simp)
  | succ fu_1 =>
    unfold m_runs_Runs_filter__runs_Runs_Prune_1_l1 at hm
    refine AWP.seq ?_
    refine AWP.text ?_
    refine Wy (.d (.lit (.bool (decide (y14_1 < ((List.length p0.L : Nat) : Int)))))) [] (Obn rfl (fun _ => hb_lss (k := .i64))) ?_
    refine Walk.nil ?_
    refine Then.normal ?_
    refine Amk 61490 7 ⟨(tp 1 ((.clo (.func 42) [] [(.d (.ref [(.lit (.int .i64 p1c0.Cap)), (.sl (List.length p1c0.L) (flatD enc_GRun p1c0.L))])), (.d (.ref [(.lit (.int .i64 p1c1))])), (.d (.ref [(.lit (.int .i64 p1c2))]))]) :: (tp 2 ((.loc 0 0) :: ((.loc 1 0) :: (tp 6 ((.d (.sl (List.length p0.L) (flatD enc_GRun p0.L))) :: ((.d (.lit (.int .i64 ((List.length p0.L : Nat) : Int)))) :: ((.d (.lit (.int .i64 y14_1))) :: ((.d (.lit (.bool (decide (y14_1 < ((List.length p0.L : Nat) : Int)))))) :: (tp 15 []))))))))))), [(.box [(.d (.lit (.int .i64 0))), (.d .nil)]), (.box [(.d (.lit (.int .i64 p0.Cap))), (.own 2)]), (.arr 42 3 (List.length y5_d_1_1) (flatD enc_GRun y5_d_1_1))], 0⟩ ?_
    refine AWP.seq ?_
    rcases tf_ (decide (y14_1 < ((List.length p0.L : Nat) : Int))) with hc15_5 | hc15_5
    · replace hm := cT hc15_5 hm
      refine AWP.if_ true (Eq.trans (by kernel_rfl) (lit_tf (b := decide (y14_1 < ((List.length p0.L : Nat) : Int))) hc15_5)) ?_
      refine AWP.skip ?_
      refine Then.normal ?_
      refine Amk 28722 7 ⟨(tp 1 ((.clo (.func 42) [] [(.d (.ref [(.lit (.int .i64 p1c0.Cap)), (.sl (List.length p1c0.L) (flatD enc_GRun p1c0.L))])), (.d (.ref [(.lit (.int .i64 p1c1))])), (.d (.ref [(.lit (.int .i64 p1c2))]))]) :: (tp 2 ((.loc 0 0) :: ((.loc 1 0) :: (tp 6 ((.d (.sl (List.length p0.L) (flatD enc_GRun p0.L))) :: ((.d (.lit (.int .i64 ((List.length p0.L : Nat) : Int)))) :: ((.d (.lit (.int .i64 y14_1))) :: (tp 16 [])))))))))), [(.box [(.d (.lit (.int .i64 0))), (.d .nil)]), (.box [(.d (.lit (.int .i64 p0.Cap))), (.own 2)]), (.arr 42 3 (List.length y5_d_1_1) (flatD enc_GRun y5_d_1_1))], 0⟩ ?_
      refine AWP.seq ?_
      refine AWP.block ?_
      refine AWP.seq ?_
      refine AWP.text ?_
      refine Wy (.d (.lit (.int .i64 y14_1))) [] (Omv rfl) ?_
      obtain ⟨x17_2, hx17_2, hm⟩ := bnd hm
      obtain ⟨hx17_2i, hx17_2g⟩ := geti_some hx17_2
      refine Wy (.d (.ref (List.drop ((Int.toNat y14_1) * 3) (flatD enc_GRun p0.L)))) [] (Oia rfl enc_GRun_len hx17_2i hx17_2g) ?_
      refine Wy (.agg [(.d (.lit (.int .i64 x17_2.Place))), (.d (.sl (List.length x17_2.Bound) (flatD enc_GPair x17_2.Bound))), (.d (.lit (.int .u32 x17_2.Broken)))]) [] (Lf rfl enc_GRun_len hx17_2g) ?_
      refine Wy (.loc 3 0) [(3, (.box [(.d (.lit (.int .i64 0))), (.d .nil), (.d (.lit (.int .u32 0)))]))] (Oal rfl) ?_
      refine Wy (.d (.lit (.int .i64 y14_1))) [] (Omv rfl) ?_
      refine Wy (.tup []) [(3, (.box [(.d (.lit (.int .i64 x17_2.Place))), (.d (.sl (List.length x17_2.Bound) (flatD enc_GPair x17_2.Bound))), (.d (.lit (.int .u32 x17_2.Broken)))]))] (Ost rfl) ?_
      refine Walk.nil ?_
      refine Then.normal ?_
      refine Amk 28914 15 ⟨(tp 1 ((.clo (.func 42) [] [(.d (.ref [(.lit (.int .i64 p1c0.Cap)), (.sl (List.length p1c0.L) (flatD enc_GRun p1c0.L))])), (.d (.ref [(.lit (.int .i64 p1c1))])), (.d (.ref [(.lit (.int .i64 p1c2))]))]) :: (tp 2 ((.loc 0 0) :: ((.loc 1 0) :: ((.d (.lit (.int .i64 y14_1))) :: ((.loc 3 0) :: (tp 4 ((.d (.sl (List.length p0.L) (flatD enc_GRun p0.L))) :: ((.d (.lit (.int .i64 ((List.length p0.L : Nat) : Int)))) :: ((.d (.lit (.int .i64 y14_1))) :: (tp 16 [])))))))))))), [(.box [(.d (.lit (.int .i64 0))), (.d .nil)]), (.box [(.d (.lit (.int .i64 p0.Cap))), (.own 2)]), (.arr 42 3 (List.length y5_d_1_1) (flatD enc_GRun y5_d_1_1)), (.box [(.d (.lit (.int .i64 x17_2.Place))), (.d (.sl (List.length x17_2.Bound) (flatD enc_GPair x17_2.Bound))), (.d (.lit (.int .u32 x17_2.Broken)))])], 0⟩ ?_
      refine AWP.seq ?_
      refine AWP.text ?_
      refine Wy (.clo (.func 42) [] [(.d (.ref [(.lit (.int .i64 p1c0.Cap)), (.sl (List.length p1c0.L) (flatD enc_GRun p1c0.L))])), (.d (.ref [(.lit (.int .i64 p1c1))])), (.d (.ref [(.lit (.int .i64 p1c2))]))]) [] (Omv rfl) ?_
      refine Wy (.d (.lit (.int .i64 y14_1))) [] (Omv rfl) ?_
      obtain ⟨r21_3, hr21_3, hm⟩ := bnd hm
      refine Wy (.d (.lit (.bool r21_3))) [] (Ocf [] [] [] 0 (ok_runs_Runs_Prune_1 y14_1 p1c0 p1c1 p1c2 r21_3 hr21_3) (fun a w => Try.call42 a w) rfl trivial) ?_
      refine Walk.nil ?_
      refine Then.normal ?_
      refine Amk 2126002 15 ⟨(tp 1 ((.clo (.func 42) [] [(.d (.ref [(.lit (.int .i64 p1c0.Cap)), (.sl (List.length p1c0.L) (flatD enc_GRun p1c0.L))])), (.d (.ref [(.lit (.int .i64 p1c1))])), (.d (.ref [(.lit (.int .i64 p1c2))]))]) :: (tp 2 ((.loc 0 0) :: ((.loc 1 0) :: (tp 1 ((.loc 3 0) :: (tp 4 ((.d (.sl (List.length p0.L) (flatD enc_GRun p0.L))) :: ((.d (.lit (.int .i64 ((List.length p0.L : Nat) : Int)))) :: ((.d (.lit (.int .i64 y14_1))) :: (tp 6 ((.d (.lit (.bool r21_3))) :: (tp 9 [])))))))))))))), [(.box [(.d (.lit (.int .i64 0))), (.d .nil)]), (.box [(.d (.lit (.int .i64 p0.Cap))), (.own 2)]), (.arr 42 3 (List.length y5_d_1_1) (flatD enc_GRun y5_d_1_1)), (.box [(.d (.lit (.int .i64 x17_2.Place))), (.d (.sl (List.length x17_2.Bound) (flatD enc_GPair x17_2.Bound))), (.d (.lit (.int .u32 x17_2.Broken)))])], 0⟩ ?_
      rcases tf_ r21_3 with hc21_6 | hc21_6
      · replace hm := cT hc21_6 hm
        refine AWP.if_ true (Eq.trans (by kernel_rfl) (lit_tf (b := r21_3) hc21_6)) ?_
        refine Adr ?_
        refine Wy (.loc 1 1) [] (Ofa rfl) ?_
        refine Wy (.own 2) [] (Old rfl) ?_
        refine Wy (.agg [(.d (.lit (.int .i64 x17_2.Place))), (.d (.sl (List.length x17_2.Bound) (flatD enc_GPair x17_2.Bound))), (.d (.lit (.int .u32 x17_2.Broken)))]) [] (Old rfl) ?_
        obtain ⟨r25_4, hr25_4, hm⟩ := bnd hm
        refine Wy (.agg [(.d (.lit (.int .i64 r25_4.Place))), (.d (.sl (List.length r25_4.Bound) (flatD enc_GPair r25_4.Bound))), (.d (.lit (.int .u32 r25_4.Broken)))]) [(4, (.arr 93 6 (List.length r25_4.Bound) (flatD enc_GPair r25_4.Bound))), (4, (.fro 93 6 (List.length r25_4.Bound) (flatD enc_GPair r25_4.Bound)))] (Ofz [4] (.agg [(.d (.lit (.int .i64 r25_4.Place))), (.own 4), (.d (.lit (.int .u32 r25_4.Broken)))]) [(4, (.arr 93 6 (List.length r25_4.Bound) (flatD enc_GPair r25_4.Bound)))] (Ocf [] [4] [] 0 (ok_runs_clone x17_2 r25_4 hr25_4) (fun a w => Try.call32 a w) rfl trivial)) ?_
        refine Wy (.own 5) [(5, (.arr 42 3 (List.length ([r25_4] : List GRun)) (flatD enc_GRun ([r25_4] : List GRun))))] (Obs rfl) ?_
        obtain ⟨a27_4, ha27_4, hm⟩ := bnd hm; obtain ⟨ha27_4e, ha27_4l⟩ := app_some ha27_4
        refine Wy (.own 6) [(2, .gone), (6, (.arr 42 3 (List.length a27_4) (flatD enc_GRun a27_4)))] (Oap rfl elemOK_33 enc_GRun_len ha27_4e ha27_4l) ?_
        refine Wy (.loc 1 1) [] (Ofa rfl) ?_
        refine Wy (.tup []) [(1, (.box [(.d (.lit (.int .i64 p0.Cap))), (.own 6)]))] (Ost rfl) ?_
        refine Wdr ?_
        refine InBlock.normal ?_
        refine Then.normal ?_
        refine Amk 28722 67 ⟨(tp 1 ((.clo (.func 42) [] [(.d (.ref [(.lit (.int .i64 p1c0.Cap)), (.sl (List.length p1c0.L) (flatD enc_GRun p1c0.L))])), (.d (.ref [(.lit (.int .i64 p1c1))])), (.d (.ref [(.lit (.int .i64 p1c2))]))]) :: (tp 2 ((.loc 0 0) :: ((.loc 1 0) :: (tp 6 ((.d (.sl (List.length p0.L) (flatD enc_GRun p0.L))) :: ((.d (.lit (.int .i64 ((List.length p0.L : Nat) : Int)))) :: ((.d (.lit (.int .i64 y14_1))) :: (tp 16 [])))))))))), [(.box [(.d (.lit (.int .i64 0))), (.d .nil)]), (.box [(.d (.lit (.int .i64 p0.Cap))), (.own 6)]), .gone, .gone, .gone, .gone, (.arr 42 3 (List.length a27_4) (flatD enc_GRun a27_4))], 0⟩ ?_
        refine AWP.text ?_
        refine Wy (.d (.lit (.int .i64 (IntKind.i64.wrap (y14_1 + 1))))) [] (Obn rfl (fun _ => hb_add (k := .i64))) ?_
        refine Wy (.d (.lit (.int .i64 (IntKind.i64.wrap (y14_1 + 1))))) [] (Omv rfl) ?_
        refine Walk.nil ?_
        refine RoundK.normal ?_
        exact Rounds.weak (Weak.toK 28722 0 0 [0, 1, 6]) (ih_1 (fu_1, a27_4, (IntKind.i64.wrap (y14_1 + 1))) hm (Nat.lt_succ_self _))
      · replace hm := cF hc21_6 hm
        refine AWP.if_ false (Eq.trans (by kernel_rfl) (lit_tf (b := r21_3) hc21_6)) ?_
        refine AWP.skip ?_
        refine InBlock.normal ?_
        refine Then.normal ?_
        refine Amk 28722 7 ⟨(tp 1 ((.clo (.func 42) [] [(.d (.ref [(.lit (.int .i64 p1c0.Cap)), (.sl (List.length p1c0.L) (flatD enc_GRun p1c0.L))])), (.d (.ref [(.lit (.int .i64 p1c1))])), (.d (.ref [(.lit (.int .i64 p1c2))]))]) :: (tp 2 ((.loc 0 0) :: ((.loc 1 0) :: (tp 6 ((.d (.sl (List.length p0.L) (flatD enc_GRun p0.L))) :: ((.d (.lit (.int .i64 ((List.length p0.L : Nat) : Int)))) :: ((.d (.lit (.int .i64 y14_1))) :: (tp 16 [])))))))))), [(.box [(.d (.lit (.int .i64 0))), (.d .nil)]), (.box [(.d (.lit (.int .i64 p0.Cap))), (.own 2)]), (.arr 42 3 (List.length y5_d_1_1) (flatD enc_GRun y5_d_1_1)), .gone], 0⟩ ?_
        refine AWP.text ?_
        refine Wy (.d (.lit (.int .i64 (IntKind.i64.wrap (y14_1 + 1))))) [] (Obn rfl (fun _ => hb_add (k := .i64))) ?_
        refine Wy (.d (.lit (.int .i64 (IntKind.i64.wrap (y14_1 + 1))))) [] (Omv rfl) ?_
        refine Walk.nil ?_
        refine RoundK.normal ?_
        exact Rounds.weak (Weak.toK 28722 0 0 [0, 1, 2]) (ih_1 (fu_1, y5_d_1_1, (IntKind.i64.wrap (y14_1 + 1))) hm (Nat.lt_succ_self _))
    · replace hm := cF hc15_5 hm
      refine AWP.if_ false (Eq.trans (by kernel_rfl) (lit_tf (b := decide (y14_1 < ((List.length p0.L : Nat) : Int))) hc15_5)) ?_
      refine AWP.exit ?_
      refine Then.exit ?_
      refine RoundK.exit ?_
      refine InBlock.same ?_
      refine Then.normal ?_
      refine Amk 48 7 ⟨(tp 4 ((.loc 0 0) :: ((.loc 1 0) :: (tp 25 [])))), [(.box [(.d (.lit (.int .i64 0))), (.d .nil)]), (.box [(.d (.lit (.int .i64 p0.Cap))), (.own 2)]), (.arr 42 3 (List.length y5_d_1_1) (flatD enc_GRun y5_d_1_1))], 0⟩ ?_
      refine AWP.seq ?_
      refine AWP.text ?_
      refine Wy (.agg [(.d (.lit (.int .i64 p0.Cap))), (.own 2)]) [] (Old rfl) ?_
      refine Wy (.tup []) [(0, (.box [(.d (.lit (.int .i64 p0.Cap))), (.own 2)]))] (Ost rfl) ?_
      refine Walk.nil ?_
      refine Then.normal ?_
      refine AWP.ret ?_
      obtain rfl := Option.some.inj hm
      exact ret_i [2]

set_option maxRecDepth 20000 in
set_option maxHeartbeats 4000000 in
theorem ok_runs_Runs_Prune (p0 : GRuns) (p1 : Int) (p2 : Int) (r : GRuns) (h : m_runs_Runs_Prune p0 p1 p2 = some r) : GCall Try.prog 23 [(.agg [(.d (.lit (.int .i64 p0.Cap))), (.d (.sl (List.length p0.L) (flatD enc_GRun p0.L)))]), (.d (.lit (.int .i64 p1))), (.d (.lit (.int .i64 p2)))] [] (.agg [(.d (.lit (.int .i64 r.Cap))), (.own 0)]) [(.arr 42 3 (List.length r.L) (flatD enc_GRun r.L))] := by
  refine GCall.of_body (n := 10) (rs := [(.cell 6 35)]) Try.func23 rfl rfl rfl ?_
  refine Ato ⟨((.agg [(.d (.lit (.int .i64 p0.Cap))), (.d (.sl (List.length p0.L) (flatD enc_GRun p0.L)))]) :: ((.d (.lit (.int .i64 p1))) :: ((.d (.lit (.int .i64 p2))) :: (tu 7 [])))), [], 0⟩ ?_
  have hm := h
  unfold m_runs_Runs_Prune at hm
  refine AWP.seq ?_
  refine AWP.text ?_
  refine Wy (.loc 0 0) [(0, (.box [(.d (.lit (.int .i64 p0.Cap))), (.d (.sl (List.length p0.L) (flatD enc_GRun p0.L)))]))] (Obx rfl) ?_
  refine Wy (.loc 1 0) [(1, (.box [(.d (.lit (.int .i64 p1)))]))] (Obx rfl) ?_
  refine Wy (.loc 2 0) [(2, (.box [(.d (.lit (.int .i64 p2)))]))] (Obx rfl) ?_
  refine Wy (.loc 3 0) [(3, (.box [(.d (.lit (.int .i64 0))), (.d .nil)]))] (Oal rfl) ?_
  refine Walk.nil ?_
  refine Then.normal ?_
  refine Amk 120 15 ⟨(tp 3 ((.loc 0 0) :: ((.loc 1 0) :: ((.loc 2 0) :: ((.loc 3 0) :: (tp 3 [])))))), [(.box [(.d (.lit (.int .i64 p0.Cap))), (.d (.sl (List.length p0.L) (flatD enc_GRun p0.L)))]), (.box [(.d (.lit (.int .i64 p1)))]), (.box [(.d (.lit (.int .i64 p2)))]), (.box [(.d (.lit (.int .i64 0))), (.d .nil)])], 0⟩ ?_
  refine AWP.seq ?_
  refine AWP.text ?_
  refine Wy (.agg [(.d (.lit (.int .i64 p0.Cap))), (.d (.sl (List.length p0.L) (flatD enc_GRun p0.L)))]) [] (Old rfl) ?_
  refine Wy (.clo (.func 42) [] [(.loc 0 0), (.loc 1 0), (.loc 2 0)]) [] (Ocs (by kernel_rfl) (op_mkfn rfl)) ?_
  obtain ⟨r9_0, hr9_0, hm⟩ := bnd hm
  refine Wy (.agg [(.d (.lit (.int .i64 r9_0.Cap))), (.own 4)]) [(4, (.arr 42 3 (List.length r9_0.L) (flatD enc_GRun r9_0.L))), (0, .gone), (1, .gone), (2, .gone)] (Ocf [] [4] [0, 1, 2] 0 (ok_runs_Runs_filter__runs_Runs_Prune_1 p0 p0 p1 p2 r9_0 hr9_0) (fun a w => Try.call28 a w) rfl trivial) ?_
  refine Wy (.tup []) [(3, (.box [(.d (.lit (.int .i64 r9_0.Cap))), (.own 4)]))] (Ost rfl) ?_
  refine Walk.nil ?_
  refine Then.normal ?_
  refine AWP.ret ?_
  obtain rfl := Option.some.inj hm
  exact ret_i [4]
end Go.Proofs.Ytlbajkdbbffefaa.K
