/- each function computes what its model says (4) -/
import Derived.Test.YthcilaomjkaciaaL3
namespace Go.Proofs.Ythcilaomjkaciaa.K
open Go.RowKit Go.Lib
set_option linter.unusedVariables false
set_option linter.unusedSimpArgs false

set_option maxRecDepth 20000 in
set_option maxHeartbeats 4000000 in
theorem ok_telltaleref27_All (p0 : (List GChange)) (r : GArr4_Int) (h : m_telltaleref27_All p0 = some r) : GCall Try.prog 11 [(.d (.sl (List.length p0) (flatD enc_GChange p0)))] [] (.agg [(.d (.lit (.int .i64 r.a0))), (.d (.lit (.int .i64 r.a1))), (.d (.lit (.int .i64 r.a2))), (.d (.lit (.int .i64 r.a3)))]) [] := by
  refine GCall.of_body (n := 15) (rs := [(.cell 2 31)]) Try.func11 rfl rfl rfl ?_
  refine Ato ⟨((.d (.sl (List.length p0) (flatD enc_GChange p0))) :: (tu 14 [])), [], 0⟩ ?_
  have hm := h
  unfold m_telltaleref27_All at hm
  refine AWP.seq ?_
  refine AWP.text ?_
  refine Wy (.loc 0 0) [(0, (.box [(.d (.lit (.int .i64 0))), (.d (.lit (.int .i64 0))), (.d (.lit (.int .i64 0))), (.d (.lit (.int .i64 0)))]))] (Oal rfl) ?_
  refine Walk.nil ?_
  refine Then.normal ?_
  refine Amk 5 1 ⟨((.d (.sl (List.length p0) (flatD enc_GChange p0))) :: (tp 1 ((.loc 0 0) :: (tp 12 [])))), [(.box [(.d (.lit (.int .i64 0))), (.d (.lit (.int .i64 0))), (.d (.lit (.int .i64 0))), (.d (.lit (.int .i64 0)))])], 0⟩ ?_
  refine AWP.seq ?_
  refine AWP.text ?_
  refine Wy (.loc 1 0) [(1, (.box [(.d (.lit (.int .i64 0))), (.d (.lit (.int .i64 0))), (.d (.lit (.int .i64 0))), (.d (.lit (.int .i64 0)))]))] (Oal rfl) ?_
  refine Walk.nil ?_
  refine Then.normal ?_
  refine Amk 13 3 ⟨((.d (.sl (List.length p0) (flatD enc_GChange p0))) :: (tp 1 ((.loc 0 0) :: ((.loc 1 0) :: (tp 11 []))))), [(.box [(.d (.lit (.int .i64 0))), (.d (.lit (.int .i64 0))), (.d (.lit (.int .i64 0))), (.d (.lit (.int .i64 0)))]), (.box [(.d (.lit (.int .i64 0))), (.d (.lit (.int .i64 0))), (.d (.lit (.int .i64 0))), (.d (.lit (.int .i64 0)))])], 0⟩ ?_
  refine AWP.seq ?_
  refine AWP.seq ?_
  refine AWP.text ?_
  refine Wy (.d (.lit (.int .i64 0))) [] (Omv rfl) ?_
  refine Walk.nil ?_
  refine Then.normal ?_
  refine Amk 29 3 ⟨((.d (.sl (List.length p0) (flatD enc_GChange p0))) :: (tp 1 ((.loc 0 0) :: ((.loc 1 0) :: ((.d (.lit (.int .i64 0))) :: (tp 10 [])))))), [(.box [(.d (.lit (.int .i64 0))), (.d (.lit (.int .i64 0))), (.d (.lit (.int .i64 0))), (.d (.lit (.int .i64 0)))]), (.box [(.d (.lit (.int .i64 0))), (.d (.lit (.int .i64 0))), (.d (.lit (.int .i64 0))), (.d (.lit (.int .i64 0)))])], 0⟩ ?_
  refine AWP.block ?_
  refine AWP.loopI (α := Nat × GArr4_Int × Int)
    (fun x => match x with | (fu_0, y3_d_0, y4_0) => (⟨((.d (.sl (List.length p0) (flatD enc_GChange p0))) :: (tp 1 ((.loc 0 0) :: ((.loc 1 0) :: ((.d (.lit (.int .i64 y4_0))) :: (tp 10 [])))))), [(.box [(.d (.lit (.int .i64 0))), (.d (.lit (.int .i64 0))), (.d (.lit (.int .i64 0))), (.d (.lit (.int .i64 0)))]), (.box [(.d (.lit (.int .i64 y3_d_0.a0))), (.d (.lit (.int .i64 y3_d_0.a1))), (.d (.lit (.int .i64 y3_d_0.a2))), (.d (.lit (.int .i64 y3_d_0.a3)))])], 0⟩ : St))
    (fun x => match x with | (fu_0, y3_d_0, y4_0) => m_telltaleref27_All_l0 p0 fu_0 y3_d_0 y4_0 = some r)
    (fun x => match x with | (fu_0, y3_d_0, y4_0) => fu_0) (1152921504606846976, (GArr4_Int.mk 0 0 0 0), 0)
    (Weak.toK 29 0 0 [0, 1]) hm ?_
  rintro ⟨fu_0, y3_d_0, y4_0⟩ n_0 hm ih_0
  try dsimp only at hm ih_0 ⊢
  cases fu_0 with
  | zero => exact absurd hm (by unfold m_telltaleref27_All_l0; simp)
  | succ fu_0 =>
    unfold m_telltaleref27_All_l0 at hm
    refine AWP.seq ?_
    refine AWP.seq ?_
    refine AWP.text ?_
    refine Wy (.d (.lit (.int .i64 y4_0))) [] (Omv rfl) ?_
    refine Wy (.d (.lit (.bool (decide (y4_0 < 4))))) [] (Obn rfl (fun _ => hb_lss (k := .i64))) ?_
    refine Walk.nil ?_
    refine Then.normal ?_
    refine Amk 93 3 ⟨((.d (.sl (List.length p0) (flatD enc_GChange p0))) :: (tp 1 ((.loc 0 0) :: ((.loc 1 0) :: ((.d (.lit (.int .i64 y4_0))) :: (tp 1 ((.d (.lit (.bool (decide (y4_0 < 4))))) :: (tp 8 [])))))))), [(.box [(.d (.lit (.int .i64 0))), (.d (.lit (.int .i64 0))), (.d (.lit (.int .i64 0))), (.d (.lit (.int .i64 0)))]), (.box [(.d (.lit (.int .i64 y3_d_0.a0))), (.d (.lit (.int .i64 y3_d_0.a1))), (.d (.lit (.int .i64 y3_d_0.a2))), (.d (.lit (.int .i64 y3_d_0.a3)))])], 0⟩ ?_
    rcases tf_ (decide (y4_0 < 4)) with hc6_2 | hc6_2
    · replace hm := cT hc6_2 hm
      refine AWP.if_ true (Eq.trans (by kernel_rfl) (lit_tf (b := decide (y4_0 < 4)) hc6_2)) ?_
      refine AWP.skip ?_
      refine Then.normal ?_
      refine Amk 29 3 ⟨((.d (.sl (List.length p0) (flatD enc_GChange p0))) :: (tp 1 ((.loc 0 0) :: ((.loc 1 0) :: ((.d (.lit (.int .i64 y4_0))) :: (tp 10 [])))))), [(.box [(.d (.lit (.int .i64 0))), (.d (.lit (.int .i64 0))), (.d (.lit (.int .i64 0))), (.d (.lit (.int .i64 0)))]), (.box [(.d (.lit (.int .i64 y3_d_0.a0))), (.d (.lit (.int .i64 y3_d_0.a1))), (.d (.lit (.int .i64 y3_d_0.a2))), (.d (.lit (.int .i64 y3_d_0.a3)))])], 0⟩ ?_
      refine AWP.seq ?_
      refine AWP.block ?_
      refine AWP.text ?_
      refine Wy (.d (.lit (.int .i64 y4_0))) [] (Omv rfl) ?_
      refine Wy (.d (.sl (List.length p0) (flatD enc_GChange p0))) [] (Omv rfl) ?_
      refine Wy (.d (.lit (.int .i64 y4_0))) [] (Omv rfl) ?_
      obtain ⟨r12_1, hr12_1, hm⟩ := bnd hm
      refine Wy (.d (.lit (.int .i64 r12_1))) [] (Ocf [] [] [] 0 (ok_telltaleref27_Of p0 y4_0 r12_1 hr12_1) (fun a w => Try.call9 a w) rfl trivial) ?_
      rcases tf_ (decide (y4_0 = 0)) with hq13_1_0 | hq13_1_0
      · replace hm := cT hq13_1_0 hm
        refine Wy (.loc 1 0) [] (Ocs (by kernel_rfl) (op_iaddr_arr rfl (n := 4) (sz := 1) (y := (.loc 1 0)) (by kernel_rfl) (by kernel_rfl) (by kernel_rfl) (k := .i64) (iv := y4_0) (by kernel_rfl) (i := 0) (of_decide_eq_true hq13_1_0) (by decide))) ?_
        refine Wy (.tup []) [(1, (.box [(.d (.lit (.int .i64 r12_1))), (.d (.lit (.int .i64 y3_d_0.a1))), (.d (.lit (.int .i64 y3_d_0.a2))), (.d (.lit (.int .i64 y3_d_0.a3)))]))] (Ost rfl) ?_
        refine Walk.nil ?_
        refine InBlock.normal ?_
        refine Then.normal ?_
        refine Amk 29 3 ⟨((.d (.sl (List.length p0) (flatD enc_GChange p0))) :: (tp 1 ((.loc 0 0) :: ((.loc 1 0) :: ((.d (.lit (.int .i64 y4_0))) :: (tp 10 [])))))), [(.box [(.d (.lit (.int .i64 0))), (.d (.lit (.int .i64 0))), (.d (.lit (.int .i64 0))), (.d (.lit (.int .i64 0)))]), (.box [(.d (.lit (.int .i64 r12_1))), (.d (.lit (.int .i64 y3_d_0.a1))), (.d (.lit (.int .i64 y3_d_0.a2))), (.d (.lit (.int .i64 y3_d_0.a3)))])], 0⟩ ?_
        refine AWP.text ?_
        refine Wy (.d (.lit (.int .i64 y4_0))) [] (Omv rfl) ?_
        refine Wy (.d (.lit (.int .i64 (IntKind.i64.wrap (y4_0 + 1))))) [] (Obn rfl (fun _ => hb_add (k := .i64))) ?_
        refine Wy (.d (.lit (.int .i64 (IntKind.i64.wrap (y4_0 + 1))))) [] (Omv rfl) ?_
        refine Walk.nil ?_
        refine RoundK.normal ?_
        exact Rounds.weak (Weak.toK 29 0 0 [0, 1]) (ih_0 (fu_0, (GArr4_Int.mk r12_1 y3_d_0.a1 y3_d_0.a2 y3_d_0.a3), (IntKind.i64.wrap (y4_0 + 1))) hm (Nat.lt_succ_self _))
      · replace hm := cF hq13_1_0 hm
        rcases tf_ (decide (y4_0 = 1)) with hq13_1_1 | hq13_1_1
        · replace hm := cT hq13_1_1 hm
          refine Wy (.loc 1 1) [] (Ocs (by kernel_rfl) (op_iaddr_arr rfl (n := 4) (sz := 1) (y := (.loc 1 0)) (by kernel_rfl) (by kernel_rfl) (by kernel_rfl) (k := .i64) (iv := y4_0) (by kernel_rfl) (i := 1) (of_decide_eq_true hq13_1_1) (by decide))) ?_
          refine Wy (.tup []) [(1, (.box [(.d (.lit (.int .i64 y3_d_0.a0))), (.d (.lit (.int .i64 r12_1))), (.d (.lit (.int .i64 y3_d_0.a2))), (.d (.lit (.int .i64 y3_d_0.a3)))]))] (Ost rfl) ?_
          refine Walk.nil ?_
          refine InBlock.normal ?_
          refine Then.normal ?_
          refine Amk 29 3 ⟨((.d (.sl (List.length p0) (flatD enc_GChange p0))) :: (tp 1 ((.loc 0 0) :: ((.loc 1 0) :: ((.d (.lit (.int .i64 y4_0))) :: (tp 10 [])))))), [(.box [(.d (.lit (.int .i64 0))), (.d (.lit (.int .i64 0))), (.d (.lit (.int .i64 0))), (.d (.lit (.int .i64 0)))]), (.box [(.d (.lit (.int .i64 y3_d_0.a0))), (.d (.lit (.int .i64 r12_1))), (.d (.lit (.int .i64 y3_d_0.a2))), (.d (.lit (.int .i64 y3_d_0.a3)))])], 0⟩ ?_
          refine AWP.text ?_
          refine Wy (.d (.lit (.int .i64 y4_0))) [] (Omv rfl) ?_
          refine Wy (.d (.lit (.int .i64 (IntKind.i64.wrap (y4_0 + 1))))) [] (Obn rfl (fun _ => hb_add (k := .i64))) ?_
          refine Wy (.d (.lit (.int .i64 (IntKind.i64.wrap (y4_0 + 1))))) [] (Omv rfl) ?_
          refine Walk.nil ?_
          refine RoundK.normal ?_
          exact Rounds.weak (Weak.toK 29 0 0 [0, 1]) (ih_0 (fu_0, (GArr4_Int.mk y3_d_0.a0 r12_1 y3_d_0.a2 y3_d_0.a3), (IntKind.i64.wrap (y4_0 + 1))) hm (Nat.lt_succ_self _))
        · replace hm := cF hq13_1_1 hm
          rcases tf_ (decide (y4_0 = 2)) with hq13_1_2 | hq13_1_2
          · replace hm := cT hq13_1_2 hm
            refine Wy (.loc 1 2) [] (Ocs (by kernel_rfl) (op_iaddr_arr rfl (n := 4) (sz := 1) (y := (.loc 1 0)) (by kernel_rfl) (by kernel_rfl) (by kernel_rfl) (k := .i64) (iv := y4_0) (by kernel_rfl) (i := 2) (of_decide_eq_true hq13_1_2) (by decide))) ?_
            refine Wy (.tup []) [(1, (.box [(.d (.lit (.int .i64 y3_d_0.a0))), (.d (.lit (.int .i64 y3_d_0.a1))), (.d (.lit (.int .i64 r12_1))), (.d (.lit (.int .i64 y3_d_0.a3)))]))] (Ost rfl) ?_
            refine Walk.nil ?_
            refine InBlock.normal ?_
            refine Then.normal ?_
            refine Amk 29 3 ⟨((.d (.sl (List.length p0) (flatD enc_GChange p0))) :: (tp 1 ((.loc 0 0) :: ((.loc 1 0) :: ((.d (.lit (.int .i64 y4_0))) :: (tp 10 [])))))), [(.box [(.d (.lit (.int .i64 0))), (.d (.lit (.int .i64 0))), (.d (.lit (.int .i64 0))), (.d (.lit (.int .i64 0)))]), (.box [(.d (.lit (.int .i64 y3_d_0.a0))), (.d (.lit (.int .i64 y3_d_0.a1))), (.d (.lit (.int .i64 r12_1))), (.d (.lit (.int .i64 y3_d_0.a3)))])], 0⟩ ?_
            refine AWP.text ?_
            refine Wy (.d (.lit (.int .i64 y4_0))) [] (Omv rfl) ?_
            refine Wy (.d (.lit (.int .i64 (IntKind.i64.wrap (y4_0 + 1))))) [] (Obn rfl (fun _ => hb_add (k := .i64))) ?_
            refine Wy (.d (.lit (.int .i64 (IntKind.i64.wrap (y4_0 + 1))))) [] (Omv rfl) ?_
            refine Walk.nil ?_
            refine RoundK.normal ?_
            exact Rounds.weak (Weak.toK 29 0 0 [0, 1]) (ih_0 (fu_0, (GArr4_Int.mk y3_d_0.a0 y3_d_0.a1 r12_1 y3_d_0.a3), (IntKind.i64.wrap (y4_0 + 1))) hm (Nat.lt_succ_self _))
          · replace hm := cF hq13_1_2 hm
            rcases tf_ (decide (y4_0 = 3)) with hq13_1_3 | hq13_1_3
            · replace hm := cT hq13_1_3 hm
              refine Wy (.loc 1 3) [] (Ocs (by kernel_rfl) (op_iaddr_arr rfl (n := 4) (sz := 1) (y := (.loc 1 0)) (by kernel_rfl) (by kernel_rfl) (by kernel_rfl) (k := .i64) (iv := y4_0) (by kernel_rfl) (i := 3) (of_decide_eq_true hq13_1_3) (by decide))) ?_
              refine Wy (.tup []) [(1, (.box [(.d (.lit (.int .i64 y3_d_0.a0))), (.d (.lit (.int .i64 y3_d_0.a1))), (.d (.lit (.int .i64 y3_d_0.a2))), (.d (.lit (.int .i64 r12_1)))]))] (Ost rfl) ?_
              refine Walk.nil ?_
              refine InBlock.normal ?_
              refine Then.normal ?_
              refine Amk 29 3 ⟨((.d (.sl (List.length p0) (flatD enc_GChange p0))) :: (tp 1 ((.loc 0 0) :: ((.loc 1 0) :: ((.d (.lit (.int .i64 y4_0))) :: (tp 10 [])))))), [(.box [(.d (.lit (.int .i64 0))), (.d (.lit (.int .i64 0))), (.d (.lit (.int .i64 0))), (.d (.lit (.int .i64 0)))]), (.box [(.d (.lit (.int .i64 y3_d_0.a0))), (.d (.lit (.int .i64 y3_d_0.a1))), (.d (.lit (.int .i64 y3_d_0.a2))), (.d (.lit (.int .i64 r12_1)))])], 0⟩ ?_
              refine AWP.text ?_
              refine Wy (.d (.lit (.int .i64 y4_0))) [] (Omv rfl) ?_
              refine Wy (.d (.lit (.int .i64 (IntKind.i64.wrap (y4_0 + 1))))) [] (Obn rfl (fun _ => hb_add (k := .i64))) ?_
              refine Wy (.d (.lit (.int .i64 (IntKind.i64.wrap (y4_0 + 1))))) [] (Omv rfl) ?_
              refine Walk.nil ?_
              refine RoundK.normal ?_
              exact Rounds.weak (Weak.toK 29 0 0 [0, 1]) (ih_0 (fu_0, (GArr4_Int.mk y3_d_0.a0 y3_d_0.a1 y3_d_0.a2 r12_1), (IntKind.i64.wrap (y4_0 + 1))) hm (Nat.lt_succ_self _))
            · replace hm := cF hq13_1_3 hm
              exact nomatch hm
    · replace hm := cF hc6_2 hm
      refine AWP.if_ false (Eq.trans (by kernel_rfl) (lit_tf (b := decide (y4_0 < 4)) hc6_2)) ?_
      refine AWP.exit ?_
      refine Then.exit ?_
      refine RoundK.exit ?_
      refine InBlock.same ?_
      refine Then.normal ?_
      refine Amk 12 3 ⟨(tp 2 ((.loc 0 0) :: ((.loc 1 0) :: (tp 11 [])))), [(.box [(.d (.lit (.int .i64 0))), (.d (.lit (.int .i64 0))), (.d (.lit (.int .i64 0))), (.d (.lit (.int .i64 0)))]), (.box [(.d (.lit (.int .i64 y3_d_0.a0))), (.d (.lit (.int .i64 y3_d_0.a1))), (.d (.lit (.int .i64 y3_d_0.a2))), (.d (.lit (.int .i64 y3_d_0.a3)))])], 0⟩ ?_
      refine AWP.seq ?_
      refine AWP.text ?_
      refine Wy (.agg [(.d (.lit (.int .i64 y3_d_0.a0))), (.d (.lit (.int .i64 y3_d_0.a1))), (.d (.lit (.int .i64 y3_d_0.a2))), (.d (.lit (.int .i64 y3_d_0.a3)))]) [] (Old rfl) ?_
      refine Wy (.tup []) [(0, (.box [(.d (.lit (.int .i64 y3_d_0.a0))), (.d (.lit (.int .i64 y3_d_0.a1))), (.d (.lit (.int .i64 y3_d_0.a2))), (.d (.lit (.int .i64 y3_d_0.a3)))]))] (Ost rfl) ?_
      refine Walk.nil ?_
      refine Then.normal ?_
      refine AWP.ret ?_
      obtain rfl := Option.some.inj hm
      exact ret_i []

set_option maxRecDepth 20000 in
set_option maxHeartbeats 4000000 in
theorem ok_telltaleref27_Drops (p0 : (List GChange)) (p1 : (List GChange)) (r : Bool) (h : m_telltaleref27_Drops p0 p1 = some r) : GCall Try.prog 14 [(.d (.sl (List.length p0) (flatD enc_GChange p0))), (.d (.sl (List.length p1) (flatD enc_GChange p1)))] [] (.d (.lit (.bool r))) [] := by
  refine GCall.of_body (n := 17) (rs := [(.tmp 4)]) Try.func14 rfl rfl rfl ?_
  refine Ato ⟨((.d (.sl (List.length p0) (flatD enc_GChange p0))) :: ((.d (.sl (List.length p1) (flatD enc_GChange p1))) :: (tu 15 []))), [], 0⟩ ?_
  have hm := h
  unfold m_telltaleref27_Drops at hm
  refine AWP.seq ?_
  refine AWP.text ?_
  refine Wy (.d (.lit (.bool false))) [] (Omv rfl) ?_
  refine Walk.nil ?_
  refine Then.normal ?_
  refine Amk 3 0 ⟨((.d (.sl (List.length p0) (flatD enc_GChange p0))) :: ((.d (.sl (List.length p1) (flatD enc_GChange p1))) :: (tp 15 []))), [], 0⟩ ?_
  refine AWP.seq ?_
  refine AWP.seq ?_
  refine AWP.text ?_
  refine Wy (.d (.lit (.int .i64 0))) [] (Omv rfl) ?_
  refine Walk.nil ?_
  refine Then.normal ?_
  refine Amk 35 0 ⟨((.d (.sl (List.length p0) (flatD enc_GChange p0))) :: ((.d (.sl (List.length p1) (flatD enc_GChange p1))) :: (tp 3 ((.d (.lit (.int .i64 0))) :: (tp 11 []))))), [], 0⟩ ?_
  refine AWP.block ?_
  refine AWP.loopI (α := Nat × Int)
    (fun x => match x with | (fu_0, y5_0) => (⟨((.d (.sl (List.length p0) (flatD enc_GChange p0))) :: ((.d (.sl (List.length p1) (flatD enc_GChange p1))) :: (tp 3 ((.d (.lit (.int .i64 y5_0))) :: (tp 11 []))))), [], 0⟩ : St))
    (fun x => match x with | (fu_0, y5_0) => m_telltaleref27_Drops_l0 p0 p1 fu_0 y5_0 = some r)
    (fun x => match x with | (fu_0, y5_0) => fu_0) (1152921504606846976, 0)
    (Weak.toK 35 0 0 []) hm ?_
  rintro ⟨fu_0, y5_0⟩ n_0 hm ih_0
  try dsimp only at hm ih_0 ⊢
  cases fu_0 with
  | zero => exact absurd hm (by unfold m_telltaleref27_Drops_l0; simp)
  | succ fu_0 =>
    unfold m_telltaleref27_Drops_l0 at hm
    refine AWP.seq ?_
    refine AWP.seq ?_
    refine AWP.text ?_
    refine Wy (.d (.lit (.int .i64 y5_0))) [] (Omv rfl) ?_
    refine Wy (.d (.lit (.bool (decide (y5_0 < 4))))) [] (Obn rfl (fun _ => hb_lss (k := .i64))) ?_
    refine Walk.nil ?_
    refine Then.normal ?_
    refine Amk 163 0 ⟨((.d (.sl (List.length p0) (flatD enc_GChange p0))) :: ((.d (.sl (List.length p1) (flatD enc_GChange p1))) :: (tp 3 ((.d (.lit (.int .i64 y5_0))) :: (tp 1 ((.d (.lit (.bool (decide (y5_0 < 4))))) :: (tp 9 []))))))), [], 0⟩ ?_
    rcases tf_ (decide (y5_0 < 4)) with hc7_2 | hc7_2
    · replace hm := cT hc7_2 hm
      refine AWP.if_ true (Eq.trans (by kernel_rfl) (lit_tf (b := decide (y5_0 < 4)) hc7_2)) ?_
      refine AWP.skip ?_
      refine Then.normal ?_
      refine Amk 35 0 ⟨((.d (.sl (List.length p0) (flatD enc_GChange p0))) :: ((.d (.sl (List.length p1) (flatD enc_GChange p1))) :: (tp 3 ((.d (.lit (.int .i64 y5_0))) :: (tp 11 []))))), [], 0⟩ ?_
      refine AWP.seq ?_
      refine AWP.block ?_
      refine AWP.seq ?_
      refine AWP.text ?_
      refine Wy (.d (.sl (List.length p1) (flatD enc_GChange p1))) [] (Omv rfl) ?_
      refine Wy (.d (.lit (.int .i64 y5_0))) [] (Omv rfl) ?_
      obtain ⟨r12_1, hr12_1, hm⟩ := bnd hm
      refine Wy (.d (.lit (.int .i64 r12_1))) [] (Ocf [] [] [] 0 (ok_telltaleref27_Of p1 y5_0 r12_1 hr12_1) (fun a w => Try.call9 a w) rfl trivial) ?_
      refine Wy (.d (.sl (List.length p0) (flatD enc_GChange p0))) [] (Omv rfl) ?_
      refine Wy (.d (.lit (.int .i64 y5_0))) [] (Omv rfl) ?_
      obtain ⟨r15_1, hr15_1, hm⟩ := bnd hm
      refine Wy (.d (.lit (.int .i64 r15_1))) [] (Ocf [] [] [] 0 (ok_telltaleref27_Of p0 y5_0 r15_1 hr15_1) (fun a w => Try.call9 a w) rfl trivial) ?_
      refine Wy (.d (.lit (.bool (decide (r12_1 < r15_1))))) [] (Obn rfl (fun _ => hb_lss (k := .i64))) ?_
      refine Walk.nil ?_
      refine Then.normal ?_
      refine Amk 65571 0 ⟨((.d (.sl (List.length p0) (flatD enc_GChange p0))) :: ((.d (.sl (List.length p1) (flatD enc_GChange p1))) :: (tp 3 ((.d (.lit (.int .i64 y5_0))) :: (tp 10 ((.d (.lit (.bool (decide (r12_1 < r15_1))))) :: [])))))), [], 0⟩ ?_
      rcases tf_ (decide (r12_1 < r15_1)) with hc16_3 | hc16_3
      · replace hm := cT hc16_3 hm
        refine AWP.if_ true (Eq.trans (by kernel_rfl) (lit_tf (b := decide (r12_1 < r15_1)) hc16_3)) ?_
        refine AWP.seq ?_
        refine AWP.text ?_
        refine Wy (.d (.lit (.bool true))) [] (Omv rfl) ?_
        refine Walk.nil ?_
        refine Then.normal ?_
        refine AWP.ret ?_
        refine InBlock.ret ?_
        refine Then.ret ?_
        refine RoundK.ret ?_
        refine InBlock.ret ?_
        refine Then.ret ?_
        obtain rfl := Option.some.inj hm
        exact ret_i []
      · replace hm := cF hc16_3 hm
        refine AWP.if_ false (Eq.trans (by kernel_rfl) (lit_tf (b := decide (r12_1 < r15_1)) hc16_3)) ?_
        refine AWP.skip ?_
        refine InBlock.normal ?_
        refine Then.normal ?_
        refine Amk 35 0 ⟨((.d (.sl (List.length p0) (flatD enc_GChange p0))) :: ((.d (.sl (List.length p1) (flatD enc_GChange p1))) :: (tp 3 ((.d (.lit (.int .i64 y5_0))) :: (tp 11 []))))), [], 0⟩ ?_
        refine AWP.text ?_
        refine Wy (.d (.lit (.int .i64 y5_0))) [] (Omv rfl) ?_
        refine Wy (.d (.lit (.int .i64 (IntKind.i64.wrap (y5_0 + 1))))) [] (Obn rfl (fun _ => hb_add (k := .i64))) ?_
        refine Wy (.d (.lit (.int .i64 (IntKind.i64.wrap (y5_0 + 1))))) [] (Omv rfl) ?_
        refine Walk.nil ?_
        refine RoundK.normal ?_
        exact Rounds.weak (Weak.toK 35 0 0 []) (ih_0 (fu_0, (IntKind.i64.wrap (y5_0 + 1))) hm (Nat.lt_succ_self _))
    · replace hm := cF hc7_2 hm
      refine AWP.if_ false (Eq.trans (by kernel_rfl) (lit_tf (b := decide (y5_0 < 4)) hc7_2)) ?_
      refine AWP.exit ?_
      refine Then.exit ?_
      refine RoundK.exit ?_
      refine InBlock.same ?_
      refine Then.normal ?_
      refine Amk 0 0 ⟨(tp 17 []), [], 0⟩ ?_
      refine AWP.seq ?_
      refine AWP.text ?_
      refine Wy (.d (.lit (.bool false))) [] (Omv rfl) ?_
      refine Walk.nil ?_
      refine Then.normal ?_
      refine AWP.ret ?_
      obtain rfl := Option.some.inj hm
      exact ret_i []

set_option maxRecDepth 20000 in
set_option maxHeartbeats 4000000 in
theorem ok_telltalelaw27_FrontTells (p0 : GArr2_List_GChange) (p1 : GArr2_Int) (p2 : Int) (r : Bool) (h : m_telltalelaw27_FrontTells p0 p1 p2 = some r) : GCall Try.prog 3 [(.agg [(.d (.sl (List.length p0.a0) (flatD enc_GChange p0.a0))), (.d (.sl (List.length p0.a1) (flatD enc_GChange p0.a1)))]), (.agg [(.d (.lit (.int .i64 p1.a0))), (.d (.lit (.int .i64 p1.a1)))]), (.d (.lit (.int .i64 p2)))] [] (.d (.lit (.bool r))) [] := by
  refine GCall.of_body (n := 86) (rs := [(.tmp 6)]) Try.func3 rfl rfl rfl ?_
  refine Ato ⟨((.agg [(.d (.sl (List.length p0.a0) (flatD enc_GChange p0.a0))), (.d (.sl (List.length p0.a1) (flatD enc_GChange p0.a1)))]) :: ((.agg [(.d (.lit (.int .i64 p1.a0))), (.d (.lit (.int .i64 p1.a1)))]) :: ((.d (.lit (.int .i64 p2))) :: (tu 83 [])))), [], 0⟩ ?_
  have hm := h
  unfold m_telltalelaw27_FrontTells at hm
  refine AWP.seq ?_
  refine AWP.text ?_
  refine Wy (.loc 0 0) [(0, (.box [(.d (.sl (List.length p0.a0) (flatD enc_GChange p0.a0))), (.d (.sl (List.length p0.a1) (flatD enc_GChange p0.a1)))]))] (Obx rfl) ?_
  refine Wy (.loc 1 0) [(1, (.box [(.d (.lit (.int .i64 p1.a0))), (.d (.lit (.int .i64 p1.a1)))]))] (Obx rfl) ?_
  refine Wy (.d (.lit (.bool false))) [] (Omv rfl) ?_
  refine Walk.nil ?_
  refine Then.normal ?_
  refine Amk 28 3 ⟨(tp 2 ((.d (.lit (.int .i64 p2))) :: ((.loc 0 0) :: ((.loc 1 0) :: (tp 81 []))))), [(.box [(.d (.sl (List.length p0.a0) (flatD enc_GChange p0.a0))), (.d (.sl (List.length p0.a1) (flatD enc_GChange p0.a1)))]), (.box [(.d (.lit (.int .i64 p1.a0))), (.d (.lit (.int .i64 p1.a1)))])], 0⟩ ?_
  refine AWP.seq ?_
  refine AWP.seq ?_
  refine AWP.text ?_
  refine Wy (.loc 0 0) [] (Ocs (by kernel_rfl) (op_iaddr_arr rfl (n := 2) (sz := 1) (y := (.loc 0 0)) (by kernel_rfl) (by kernel_rfl) (by kernel_rfl) (k := .i64) (iv := 0) (by kernel_rfl) (i := 0) (by rfl) (by decide))) ?_
  refine Wy (.d (.sl (List.length p0.a0) (flatD enc_GChange p0.a0))) [] (Old rfl) ?_
  obtain ⟨r11_0, hr11_0, hm⟩ := bnd hm
  refine Wy (.d (.lit (.int .i64 r11_0))) [] (Ocf [] [] [] 0 (ok_telltalelaw26_Over p0.a0 r11_0 hr11_0) (fun a w => Try.call5 a w) rfl trivial) ?_
  refine Wy (.d (.lit (.bool (decide ((0 : Int) < r11_0))))) [] (Obn rfl (fun _ => hb_gtr (k := .i64))) ?_
  rcases tf_ (decide ((0 : Int) < r11_0)) with hq13_0 | hq13_0
  · replace hm := cT hq13_0 hm
    refine Wy (.d (.lit (.bool true))) [] (Ocs (lit_tf (b := decide ((0 : Int) < r11_0)) hq13_0) (Omv rfl)) ?_
    refine Wn ?_
    refine Wn ?_
    refine Wn ?_
    refine Wn ?_
    refine Wy (.d (.lit (.bool true))) [] (OpT rfl) ?_
    refine Walk.nil ?_
    refine Then.normal ?_
    refine Amk 262172 3 ⟨(tp 2 ((.d (.lit (.int .i64 p2))) :: ((.loc 0 0) :: ((.loc 1 0) :: (tp 13 ((.d (.lit (.bool true))) :: (tp 67 []))))))), [(.box [(.d (.sl (List.length p0.a0) (flatD enc_GChange p0.a0))), (.d (.sl (List.length p0.a1) (flatD enc_GChange p0.a1)))]), (.box [(.d (.lit (.int .i64 p1.a0))), (.d (.lit (.int .i64 p1.a1)))])], 0⟩ ?_
    refine AWP.if_ true (by kernel_rfl) ?_
    refine AWP.seq ?_
    refine AWP.text ?_
    obtain ⟨r19_1, hr19_1, hm⟩ := bnd hm
    refine Wy (.d (.lit (.bool r19_1))) [] (Ocf [] [] [] 0 (ok_telltalelaw27_awake  r19_1 hr19_1) (fun a w => Try.call6 a w) rfl trivial) ?_
    refine Wy (.d (.lit (.bool r19_1))) [] (Omv rfl) ?_
    refine Walk.nil ?_
    refine Then.normal ?_
    refine AWP.ret ?_
    refine Then.ret ?_
    obtain rfl := Option.some.inj hm
    exact ret_i []
  · replace hm := cF hq13_0 hm
    refine Wy (.d (.lit (.bool false))) [] (Ocs (lit_tf (b := decide ((0 : Int) < r11_0)) hq13_0) (Omv rfl)) ?_
    refine Wy (.loc 0 1) [] (Ocs (by kernel_rfl) (op_iaddr_arr rfl (n := 2) (sz := 1) (y := (.loc 0 0)) (by kernel_rfl) (by kernel_rfl) (by kernel_rfl) (k := .i64) (iv := 1) (by kernel_rfl) (i := 1) (by rfl) (by decide))) ?_
    refine Wy (.d (.sl (List.length p0.a1) (flatD enc_GChange p0.a1))) [] (Old rfl) ?_
    obtain ⟨r16_0, hr16_0, hm⟩ := bnd hm
    refine Wy (.d (.lit (.int .i64 r16_0))) [] (Ocf [] [] [] 0 (ok_telltalelaw26_Over p0.a1 r16_0 hr16_0) (fun a w => Try.call5 a w) rfl trivial) ?_
    refine Wy (.d (.lit (.bool (decide ((0 : Int) < r16_0))))) [] (Obn rfl (fun _ => hb_gtr (k := .i64))) ?_
    refine Wy (.d (.lit (.bool (decide ((0 : Int) < r16_0))))) [] (OpF rfl) ?_
    refine Walk.nil ?_
    refine Then.normal ?_
    refine Amk 262172 3 ⟨(tp 2 ((.d (.lit (.int .i64 p2))) :: ((.loc 0 0) :: ((.loc 1 0) :: (tp 13 ((.d (.lit (.bool (decide ((0 : Int) < r16_0))))) :: (tp 67 []))))))), [(.box [(.d (.sl (List.length p0.a0) (flatD enc_GChange p0.a0))), (.d (.sl (List.length p0.a1) (flatD enc_GChange p0.a1)))]), (.box [(.d (.lit (.int .i64 p1.a0))), (.d (.lit (.int .i64 p1.a1)))])], 0⟩ ?_
    rcases tf_ (decide ((0 : Int) < r16_0)) with hc18_5 | hc18_5
    · replace hm := cT hc18_5 hm
      refine AWP.if_ true (Eq.trans (by kernel_rfl) (lit_tf (b := decide ((0 : Int) < r16_0)) hc18_5)) ?_
      refine AWP.seq ?_
      refine AWP.text ?_
      obtain ⟨r19_2, hr19_2, hm⟩ := bnd hm
      refine Wy (.d (.lit (.bool r19_2))) [] (Ocf [] [] [] 0 (ok_telltalelaw27_awake  r19_2 hr19_2) (fun a w => Try.call6 a w) rfl trivial) ?_
      refine Wy (.d (.lit (.bool r19_2))) [] (Omv rfl) ?_
      refine Walk.nil ?_
      refine Then.normal ?_
      refine AWP.ret ?_
      refine Then.ret ?_
      obtain rfl := Option.some.inj hm
      exact ret_i []
    · replace hm := cF hc18_5 hm
      refine AWP.if_ false (Eq.trans (by kernel_rfl) (lit_tf (b := decide ((0 : Int) < r16_0)) hc18_5)) ?_
      refine AWP.skip ?_
      refine Then.normal ?_
      refine Amk 28 3 ⟨(tp 2 ((.d (.lit (.int .i64 p2))) :: ((.loc 0 0) :: ((.loc 1 0) :: (tp 81 []))))), [(.box [(.d (.sl (List.length p0.a0) (flatD enc_GChange p0.a0))), (.d (.sl (List.length p0.a1) (flatD enc_GChange p0.a1)))]), (.box [(.d (.lit (.int .i64 p1.a0))), (.d (.lit (.int .i64 p1.a1)))])], 0⟩ ?_
      refine AWP.seq ?_
      refine Adr ?_
      refine Wy (.loc 0 0) [] (Ocs (by kernel_rfl) (op_iaddr_arr rfl (n := 2) (sz := 1) (y := (.loc 0 0)) (by kernel_rfl) (by kernel_rfl) (by kernel_rfl) (k := .i64) (iv := 0) (by kernel_rfl) (i := 0) (by rfl) (by decide))) ?_
      refine Wy (.d (.sl (List.length p0.a0) (flatD enc_GChange p0.a0))) [] (Old rfl) ?_
      obtain ⟨r22_3, hr22_3, hm⟩ := bnd hm
      refine Wy (.own 2) [(2, (.arr 43 3 (List.length r22_3) (flatD enc_GChange r22_3)))] (Ocf [] [2] [] 0 (ok_telltalelaw26_Own p0.a0 r22_3 hr22_3) (fun a w => Try.call7 a w) rfl trivial) ?_
      refine Wy (.loc 0 1) [] (Ocs (by kernel_rfl) (op_iaddr_arr rfl (n := 2) (sz := 1) (y := (.loc 0 0)) (by kernel_rfl) (by kernel_rfl) (by kernel_rfl) (k := .i64) (iv := 1) (by kernel_rfl) (i := 1) (by rfl) (by decide))) ?_
      refine Wy (.d (.sl (List.length p0.a1) (flatD enc_GChange p0.a1))) [] (Old rfl) ?_
      obtain ⟨r25_3, hr25_3, hm⟩ := bnd hm
      refine Wy (.own 3) [(3, (.arr 43 3 (List.length r25_3) (flatD enc_GChange r25_3)))] (Ocf [] [3] [] 0 (ok_telltalelaw26_Own p0.a1 r25_3 hr25_3) (fun a w => Try.call7 a w) rfl trivial) ?_
      refine Wy (.own 2) [] (Omv rfl) ?_
      refine Wy (.own 3) [] (Omv rfl) ?_
      refine Wdr ?_
      refine Then.normal ?_
      refine Amk 412 15 ⟨(tp 2 ((.d (.lit (.int .i64 p2))) :: ((.loc 0 0) :: ((.loc 1 0) :: (tp 2 ((.own 2) :: ((.own 3) :: (tp 77 [])))))))), [(.box [(.d (.sl (List.length p0.a0) (flatD enc_GChange p0.a0))), (.d (.sl (List.length p0.a1) (flatD enc_GChange p0.a1)))]), (.box [(.d (.lit (.int .i64 p1.a0))), (.d (.lit (.int .i64 p1.a1)))]), (.arr 43 3 (List.length r22_3) (flatD enc_GChange r22_3)), (.arr 43 3 (List.length r25_3) (flatD enc_GChange r25_3))], 0⟩ ?_
      refine AWP.seq ?_
      refine Adr ?_
      refine Wy (.own 2) [] (Omv rfl) ?_
      refine Wy (.loc 1 0) [] (Ocs (by kernel_rfl) (op_iaddr_arr rfl (n := 2) (sz := 1) (y := (.loc 1 0)) (by kernel_rfl) (by kernel_rfl) (by kernel_rfl) (k := .i64) (iv := 0) (by kernel_rfl) (i := 0) (by rfl) (by decide))) ?_
      refine Wy (.d (.lit (.int .i64 p1.a0))) [] (Old rfl) ?_
      obtain ⟨r29_4, hr29_4, hm⟩ := bnd hm
      refine Wy (.d (.lit (.int .i64 r29_4))) [] (Ocp [] [] [2] 0 (ok_front_Of r22_3 p1.a0 r29_4 hr29_4) (plain_triv (by simp [A.Plain, A.Plains, D.Plain, byteD])) (fun a w => Try.call8 a w) rfl trivial) ?_
      refine Wy (.loc 0 0) [] (Ocs (by kernel_rfl) (op_iaddr_arr rfl (n := 2) (sz := 1) (y := (.loc 0 0)) (by kernel_rfl) (by kernel_rfl) (by kernel_rfl) (k := .i64) (iv := 0) (by kernel_rfl) (i := 0) (by rfl) (by decide))) ?_
      refine Wy (.d (.sl (List.length p0.a0) (flatD enc_GChange p0.a0))) [] (Old rfl) ?_
      refine Wy (.loc 1 0) [] (Ocs (by kernel_rfl) (op_iaddr_arr rfl (n := 2) (sz := 1) (y := (.loc 1 0)) (by kernel_rfl) (by kernel_rfl) (by kernel_rfl) (k := .i64) (iv := 0) (by kernel_rfl) (i := 0) (by rfl) (by decide))) ?_
      refine Wy (.d (.lit (.int .i64 p1.a0))) [] (Old rfl) ?_
      obtain ⟨r34_4, hr34_4, hm⟩ := bnd hm
      refine Wy (.d (.lit (.int .i64 r34_4))) [] (Ocf [] [] [] 0 (ok_telltaleref27_Of p0.a0 p1.a0 r34_4 hr34_4) (fun a w => Try.call9 a w) rfl trivial) ?_
      refine Wy (.d (.lit (.bool (decide (r29_4 = r34_4))))) [] (Obn rfl (fun _ => hb_eql (k := .i64))) ?_
      rcases tf_ (decide (r29_4 = r34_4)) with hq36_4 | hq36_4
      · replace hm := cT hq36_4 hm
        refine Wy (.d (.lit (.bool true))) [] (Ocs (lit_tf (b := decide (r29_4 = r34_4)) hq36_4) (Omv rfl)) ?_
        refine Wy (.own 2) [] (Omv rfl) ?_
        obtain ⟨r38_4, hr38_4, hm⟩ := bnd hm
        refine Wy (.agg [(.d (.lit (.int .i64 r38_4.a0))), (.d (.lit (.int .i64 r38_4.a1))), (.d (.lit (.int .i64 r38_4.a2))), (.d (.lit (.int .i64 r38_4.a3)))]) [] (Ocp [] [] [2] 0 (ok_front_All r22_3 r38_4 hr38_4) (plain_triv (by simp [A.Plain, A.Plains, D.Plain, byteD])) (fun a w => Try.call10 a w) rfl trivial) ?_
        refine Wy (.loc 0 0) [] (Ocs (by kernel_rfl) (op_iaddr_arr rfl (n := 2) (sz := 1) (y := (.loc 0 0)) (by kernel_rfl) (by kernel_rfl) (by kernel_rfl) (k := .i64) (iv := 0) (by kernel_rfl) (i := 0) (by rfl) (by decide))) ?_
        refine Wy (.d (.sl (List.length p0.a0) (flatD enc_GChange p0.a0))) [] (Old rfl) ?_
        obtain ⟨r41_4, hr41_4, hm⟩ := bnd hm
        refine Wy (.agg [(.d (.lit (.int .i64 r41_4.a0))), (.d (.lit (.int .i64 r41_4.a1))), (.d (.lit (.int .i64 r41_4.a2))), (.d (.lit (.int .i64 r41_4.a3)))]) [] (Ocf [] [] [] 0 (ok_telltaleref27_All p0.a0 r41_4 hr41_4) (fun a w => Try.call11 a w) rfl trivial) ?_
        obtain ⟨v42_4, hv42_4, hm⟩ := bnd hm; replace hv42_4 := Option.some.inj hv42_4
        refine Wy (.d (.lit (.bool v42_4))) [] (Ocs (Eq.trans (by kernel_rfl) (congrArg (fun z => A.d (.lit (.bool z))) hv42_4)) (op_eql_deep rfl (la := [(.d (.lit (.int .i64 r38_4.a0))), (.d (.lit (.int .i64 r38_4.a1))), (.d (.lit (.int .i64 r38_4.a2))), (.d (.lit (.int .i64 r38_4.a3)))]) (lb := [(.d (.lit (.int .i64 r41_4.a0))), (.d (.lit (.int .i64 r41_4.a1))), (.d (.lit (.int .i64 r41_4.a2))), (.d (.lit (.int .i64 r41_4.a3)))]) (us := [.int .i64 r38_4.a0, .int .i64 r38_4.a1, .int .i64 r38_4.a2, .int .i64 r38_4.a3]) (vs := [.int .i64 r41_4.a0, .int .i64 r41_4.a1, .int .i64 r41_4.a2, .int .i64 r41_4.a3]) (r := (decide (r38_4.a0 = r41_4.a0) && (decide (r38_4.a1 = r41_4.a1) && (decide (r38_4.a2 = r41_4.a2) && (decide (r38_4.a3 = r41_4.a3) && true))))) (by kernel_rfl) (by kernel_rfl) (by kernel_rfl) (by kernel_rfl) (by kernel_rfl) (by kernel_rfl))) ?_
        refine Wy (.d (.lit (.bool v42_4))) [] (OpT rfl) ?_
        rcases tf_ v42_4 with hq44_4 | hq44_4
        · replace hm := cT hq44_4 hm
          refine Wy (.d (.lit (.bool true))) [] (Ocs (lit_tf (b := v42_4) hq44_4) (Omv rfl)) ?_
          refine Wy (.own 2) [] (Omv rfl) ?_
          refine Wy (.loc 1 0) [] (Ocs (by kernel_rfl) (op_iaddr_arr rfl (n := 2) (sz := 1) (y := (.loc 1 0)) (by kernel_rfl) (by kernel_rfl) (by kernel_rfl) (k := .i64) (iv := 0) (by kernel_rfl) (i := 0) (by rfl) (by decide))) ?_
          refine Wy (.d (.lit (.int .i64 p1.a0))) [] (Old rfl) ?_
          refine Wy (.d (.lit (.int .i64 p2))) [] (Omv rfl) ?_
          obtain ⟨r49_4, hr49_4, hm⟩ := bnd hm
          refine Wy (.d (.lit (.bool r49_4))) [] (Ocp [] [] [2] 0 (ok_front_Passed r22_3 p1.a0 p2 r49_4 hr49_4) (plain_triv (by simp [A.Plain, A.Plains, D.Plain, byteD])) (fun a w => Try.call12 a w) rfl trivial) ?_
          refine Wy (.loc 0 0) [] (Ocs (by kernel_rfl) (op_iaddr_arr rfl (n := 2) (sz := 1) (y := (.loc 0 0)) (by kernel_rfl) (by kernel_rfl) (by kernel_rfl) (k := .i64) (iv := 0) (by kernel_rfl) (i := 0) (by rfl) (by decide))) ?_
          refine Wy (.d (.sl (List.length p0.a0) (flatD enc_GChange p0.a0))) [] (Old rfl) ?_
          refine Wy (.loc 1 0) [] (Ocs (by kernel_rfl) (op_iaddr_arr rfl (n := 2) (sz := 1) (y := (.loc 1 0)) (by kernel_rfl) (by kernel_rfl) (by kernel_rfl) (k := .i64) (iv := 0) (by kernel_rfl) (i := 0) (by rfl) (by decide))) ?_
          refine Wy (.d (.lit (.int .i64 p1.a0))) [] (Old rfl) ?_
          obtain ⟨r54_4, hr54_4, hm⟩ := bnd hm
          refine Wy (.d (.lit (.int .i64 r54_4))) [] (Ocf [] [] [] 0 (ok_telltaleref27_Of p0.a0 p1.a0 r54_4 hr54_4) (fun a w => Try.call9 a w) rfl trivial) ?_
          refine Wy (.d (.lit (.int .i64 p2))) [] (Omv rfl) ?_
          refine Wy (.d (.lit (.bool (decide (p2 < r54_4))))) [] (Obn rfl (fun _ => hb_gtr (k := .i64))) ?_
          refine Wy (.d (.lit (.bool (decide (r49_4 = decide (p2 < r54_4)))))) [] (Ocs (by kernel_rfl) (op_bin rfl (a1 := .bool r49_4) (a2 := .bool (decide (p2 < r54_4))) (by kernel_rfl) (by kernel_rfl) (fun _ => hb_beql (by kernel_rfl)))) ?_
          refine Wy (.d (.lit (.bool (decide (r49_4 = decide (p2 < r54_4)))))) [] (OpT rfl) ?_
          rcases tf_ (decide (r49_4 = decide (p2 < r54_4))) with hq59_4 | hq59_4
          · replace hm := cT hq59_4 hm
            refine Wy (.d (.lit (.bool true))) [] (Ocs (lit_tf (b := decide (r49_4 = decide (p2 < r54_4))) hq59_4) (Omv rfl)) ?_
            refine Wy (.own 2) [] (Omv rfl) ?_
            refine Wy (.own 3) [] (Omv rfl) ?_
            obtain ⟨r62_4, hr62_4, hm⟩ := bnd hm
            refine Wy (.d (.lit (.bool r62_4))) [] (Ocp [] [] [2, 3] 0 (ok_front_Drops r22_3 r25_3 r62_4 hr62_4) (plain_triv (by simp [A.Plain, A.Plains, D.Plain, byteD])) (fun a w => Try.call13 a w) rfl trivial) ?_
            refine Wy (.loc 0 0) [] (Ocs (by kernel_rfl) (op_iaddr_arr rfl (n := 2) (sz := 1) (y := (.loc 0 0)) (by kernel_rfl) (by kernel_rfl) (by kernel_rfl) (k := .i64) (iv := 0) (by kernel_rfl) (i := 0) (by rfl) (by decide))) ?_
            refine Wy (.d (.sl (List.length p0.a0) (flatD enc_GChange p0.a0))) [] (Old rfl) ?_
            refine Wy (.loc 0 1) [] (Ocs (by kernel_rfl) (op_iaddr_arr rfl (n := 2) (sz := 1) (y := (.loc 0 0)) (by kernel_rfl) (by kernel_rfl) (by kernel_rfl) (k := .i64) (iv := 1) (by kernel_rfl) (i := 1) (by rfl) (by decide))) ?_
            refine Wy (.d (.sl (List.length p0.a1) (flatD enc_GChange p0.a1))) [] (Old rfl) ?_
            obtain ⟨r67_4, hr67_4, hm⟩ := bnd hm
            refine Wy (.d (.lit (.bool r67_4))) [] (Ocf [] [] [] 0 (ok_telltaleref27_Drops p0.a0 p0.a1 r67_4 hr67_4) (fun a w => Try.call14 a w) rfl trivial) ?_
            refine Wy (.d (.lit (.bool (decide (r62_4 = r67_4))))) [] (Ocs (by kernel_rfl) (op_bin rfl (a1 := .bool r62_4) (a2 := .bool r67_4) (by kernel_rfl) (by kernel_rfl) (fun _ => hb_beql (by kernel_rfl)))) ?_
            refine Wy (.d (.lit (.bool (decide (r62_4 = r67_4))))) [] (OpT rfl) ?_
            rcases tf_ (decide (r62_4 = r67_4)) with hq70_4 | hq70_4
            · replace hm := cT hq70_4 hm
              refine Wy (.d (.lit (.bool true))) [] (Ocs (lit_tf (b := decide (r62_4 = r67_4)) hq70_4) (Omv rfl)) ?_
              refine Wy (.loc 1 0) [] (Ocs (by kernel_rfl) (op_iaddr_arr rfl (n := 2) (sz := 1) (y := (.loc 1 0)) (by kernel_rfl) (by kernel_rfl) (by kernel_rfl) (k := .i64) (iv := 0) (by kernel_rfl) (i := 0) (by rfl) (by decide))) ?_
              refine Wy (.d (.lit (.int .i64 p1.a0))) [] (Old rfl) ?_
              refine Wy (.loc 1 1) [] (Ocs (by kernel_rfl) (op_iaddr_arr rfl (n := 2) (sz := 1) (y := (.loc 1 0)) (by kernel_rfl) (by kernel_rfl) (by kernel_rfl) (k := .i64) (iv := 1) (by kernel_rfl) (i := 1) (by rfl) (by decide))) ?_
              refine Wy (.d (.lit (.int .i64 p1.a1))) [] (Old rfl) ?_
              obtain ⟨r75_4, hr75_4, hm⟩ := bnd hm
              refine Wy (.d (.lit (.bool r75_4))) [] (Ocf [] [] [] 0 (ok_front_Leads p1.a0 p1.a1 r75_4 hr75_4) (fun a w => Try.call15 a w) rfl trivial) ?_
              refine Wy (.loc 1 0) [] (Ocs (by kernel_rfl) (op_iaddr_arr rfl (n := 2) (sz := 1) (y := (.loc 1 0)) (by kernel_rfl) (by kernel_rfl) (by kernel_rfl) (k := .i64) (iv := 0) (by kernel_rfl) (i := 0) (by rfl) (by decide))) ?_
              refine Wy (.d (.lit (.int .i64 p1.a0))) [] (Old rfl) ?_
              refine Wy (.loc 1 1) [] (Ocs (by kernel_rfl) (op_iaddr_arr rfl (n := 2) (sz := 1) (y := (.loc 1 0)) (by kernel_rfl) (by kernel_rfl) (by kernel_rfl) (k := .i64) (iv := 1) (by kernel_rfl) (i := 1) (by rfl) (by decide))) ?_
              refine Wy (.d (.lit (.int .i64 p1.a1))) [] (Old rfl) ?_
              obtain ⟨r80_4, hr80_4, hm⟩ := bnd hm
              refine Wy (.d (.lit (.bool r80_4))) [] (Ocf [] [] [] 0 (ok_telltaleref27_Leads p1.a0 p1.a1 r80_4 hr80_4) (fun a w => Try.call16 a w) rfl trivial) ?_
              refine Wy (.d (.lit (.bool (decide (r75_4 = r80_4))))) [] (Ocs (by kernel_rfl) (op_bin rfl (a1 := .bool r75_4) (a2 := .bool r80_4) (by kernel_rfl) (by kernel_rfl) (fun _ => hb_beql (by kernel_rfl)))) ?_
              refine Wy (.d (.lit (.bool (decide (r75_4 = r80_4))))) [] (OpT rfl) ?_
              rcases tf_ (decide (r75_4 = r80_4)) with hq83_4 | hq83_4
              · replace hm := cT hq83_4 hm
                refine Wy (.d (.lit (.bool true))) [] (Ocs (lit_tf (b := decide (r75_4 = r80_4)) hq83_4) (Omv rfl)) ?_
                obtain ⟨r84_4, hr84_4, hm⟩ := bnd hm
                refine Wy (.d (.lit (.bool r84_4))) [] (Ocf [] [] [] 0 (ok_telltalelaw27_awake  r84_4 hr84_4) (fun a w => Try.call6 a w) rfl trivial) ?_
                refine Wy (.d (.lit (.bool r84_4))) [] (OpT rfl) ?_
                refine Wy (.d (.lit (.bool r84_4))) [] (Omv rfl) ?_
                refine Wdr ?_
                refine Then.normal ?_
                refine AWP.ret ?_
                obtain rfl := Option.some.inj hm
                exact ret_i []
              · replace hm := cF hq83_4 hm
                refine Wy (.d (.lit (.bool false))) [] (Ocs (lit_tf (b := decide (r75_4 = r80_4)) hq83_4) (Omv rfl)) ?_
                refine Wn ?_
                refine Wy (.d (.lit (.bool false))) [] (OpF rfl) ?_
                refine Wy (.d (.lit (.bool false))) [] (Omv rfl) ?_
                refine Wdr ?_
                refine Then.normal ?_
                refine AWP.ret ?_
                obtain rfl := Option.some.inj hm
                exact ret_i []
            · replace hm := cF hq70_4 hm
              refine Wy (.d (.lit (.bool false))) [] (Ocs (lit_tf (b := decide (r62_4 = r67_4)) hq70_4) (Omv rfl)) ?_
              refine Wn ?_
              refine Wn ?_
              refine Wn ?_
              refine Wn ?_
              refine Wn ?_
              refine Wn ?_
              refine Wn ?_
              refine Wn ?_
              refine Wn ?_
              refine Wn ?_
              refine Wn ?_
              refine Wy (.d (.lit (.bool false))) [] (OpF rfl) ?_
              refine Wy (.d (.lit (.bool false))) [] (Omv rfl) ?_
              refine Wn ?_
              refine Wy (.d (.lit (.bool false))) [] (OpF rfl) ?_
              refine Wy (.d (.lit (.bool false))) [] (Omv rfl) ?_
              refine Wdr ?_
              refine Then.normal ?_
              refine AWP.ret ?_
              obtain rfl := Option.some.inj hm
              exact ret_i []
          · replace hm := cF hq59_4 hm
            refine Wy (.d (.lit (.bool false))) [] (Ocs (lit_tf (b := decide (r49_4 = decide (p2 < r54_4))) hq59_4) (Omv rfl)) ?_
            refine Wn ?_
            refine Wn ?_
            refine Wn ?_
            refine Wn ?_
            refine Wn ?_
            refine Wn ?_
            refine Wn ?_
            refine Wn ?_
            refine Wn ?_
            refine Wy (.d (.lit (.bool false))) [] (OpF rfl) ?_
            refine Wy (.d (.lit (.bool false))) [] (Omv rfl) ?_
            refine Wn ?_
            refine Wn ?_
            refine Wn ?_
            refine Wn ?_
            refine Wn ?_
            refine Wn ?_
            refine Wn ?_
            refine Wn ?_
            refine Wn ?_
            refine Wn ?_
            refine Wn ?_
            refine Wy (.d (.lit (.bool false))) [] (OpF rfl) ?_
            refine Wy (.d (.lit (.bool false))) [] (Omv rfl) ?_
            refine Wn ?_
            refine Wy (.d (.lit (.bool false))) [] (OpF rfl) ?_
            refine Wy (.d (.lit (.bool false))) [] (Omv rfl) ?_
            refine Wdr ?_
            refine Then.normal ?_
            refine AWP.ret ?_
            obtain rfl := Option.some.inj hm
            exact ret_i []
        · replace hm := cF hq44_4 hm
          refine Wy (.d (.lit (.bool false))) [] (Ocs (lit_tf (b := v42_4) hq44_4) (Omv rfl)) ?_
          refine Wn ?_
          refine Wn ?_
          refine Wn ?_
          refine Wn ?_
          refine Wn ?_
          refine Wn ?_
          refine Wn ?_
          refine Wn ?_
          refine Wn ?_
          refine Wn ?_
          refine Wn ?_
          refine Wn ?_
          refine Wn ?_
          refine Wy (.d (.lit (.bool false))) [] (OpF rfl) ?_
          refine Wy (.d (.lit (.bool false))) [] (Omv rfl) ?_
          refine Wn ?_
          refine Wn ?_
          refine Wn ?_
          refine Wn ?_
          refine Wn ?_
          refine Wn ?_
          refine Wn ?_
          refine Wn ?_
          refine Wn ?_
          refine Wy (.d (.lit (.bool false))) [] (OpF rfl) ?_
          refine Wy (.d (.lit (.bool false))) [] (Omv rfl) ?_
          refine Wn ?_
          refine Wn ?_
          refine Wn ?_
          refine Wn ?_
          refine Wn ?_
          refine Wn ?_
          refine Wn ?_
          refine Wn ?_
          refine Wn ?_
          refine Wn ?_
          refine Wn ?_
          refine Wy (.d (.lit (.bool false))) [] (OpF rfl) ?_
          refine Wy (.d (.lit (.bool false))) [] (Omv rfl) ?_
          refine Wn ?_
          refine Wy (.d (.lit (.bool false))) [] (OpF rfl) ?_
          refine Wy (.d (.lit (.bool false))) [] (Omv rfl) ?_
          refine Wdr ?_
          refine Then.normal ?_
          refine AWP.ret ?_
          obtain rfl := Option.some.inj hm
          exact ret_i []
      · replace hm := cF hq36_4 hm
        refine Wy (.d (.lit (.bool false))) [] (Ocs (lit_tf (b := decide (r29_4 = r34_4)) hq36_4) (Omv rfl)) ?_
        refine Wn ?_
        refine Wn ?_
        refine Wn ?_
        refine Wn ?_
        refine Wn ?_
        refine Wn ?_
        refine Wy (.d (.lit (.bool false))) [] (OpF rfl) ?_
        refine Wy (.d (.lit (.bool false))) [] (Omv rfl) ?_
        refine Wn ?_
        refine Wn ?_
        refine Wn ?_
        refine Wn ?_
        refine Wn ?_
        refine Wn ?_
        refine Wn ?_
        refine Wn ?_
        refine Wn ?_
        refine Wn ?_
        refine Wn ?_
        refine Wn ?_
        refine Wn ?_
        refine Wy (.d (.lit (.bool false))) [] (OpF rfl) ?_
        refine Wy (.d (.lit (.bool false))) [] (Omv rfl) ?_
        refine Wn ?_
        refine Wn ?_
        refine Wn ?_
        refine Wn ?_
        refine Wn ?_
        refine Wn ?_
        refine Wn ?_
        refine Wn ?_
        refine Wn ?_
        refine Wy (.d (.lit (.bool false))) [] (OpF rfl) ?_
        refine Wy (.d (.lit (.bool false))) [] (Omv rfl) ?_
        refine Wn ?_
        refine Wn ?_
        refine Wn ?_
        refine Wn ?_
        refine Wn ?_
        refine Wn ?_
        refine Wn ?_
        refine Wn ?_
        refine Wn ?_
        refine Wn ?_
        refine Wn ?_
        refine Wy (.d (.lit (.bool false))) [] (OpF rfl) ?_
        refine Wy (.d (.lit (.bool false))) [] (Omv rfl) ?_
        refine Wn ?_
        refine Wy (.d (.lit (.bool false))) [] (OpF rfl) ?_
        refine Wy (.d (.lit (.bool false))) [] (Omv rfl) ?_
        refine Wdr ?_
        refine Then.normal ?_
        refine AWP.ret ?_
        obtain rfl := Option.some.inj hm
        exact ret_i []

set_option maxRecDepth 20000 in
set_option maxHeartbeats 4000000 in
theorem ok_slices_Grow_Change (p1 : Int) (r : (List GChange)) (h : m_slices_Grow_Change p1 = some r) : GCall Try.prog 27 [(.d .nil), (.d (.lit (.int .i64 p1)))] [] (.own 0) [(.arr 43 3 (List.length r) (flatD enc_GChange r))] := by
  refine GCall.of_body (n := 27) (rs := [(.tmp 4)]) Try.func27 rfl rfl rfl ?_
  refine Ato ⟨((.d .nil) :: ((.d (.lit (.int .i64 p1))) :: (tu 25 []))), [], 0⟩ ?_
  have hm := h
  unfold m_slices_Grow_Change at hm
  refine AWP.seq ?_
  refine AWP.text ?_
  refine Wy (.d .nil) [] (Omv rfl) ?_
  refine Walk.nil ?_
  refine Then.normal ?_
  refine Amk 3 0 ⟨((.d .nil) :: ((.d (.lit (.int .i64 p1))) :: (tp 25 []))), [], 0⟩ ?_
  refine AWP.seq ?_
  refine AWP.seq ?_
  refine AWP.text ?_
  refine Wy (.d (.lit (.int .i64 p1))) [] (Omv rfl) ?_
  refine Wy (.d (.lit (.bool (decide (p1 < 0))))) [] (Obn rfl (fun _ => hb_lss (k := .i64))) ?_
  refine Walk.nil ?_
  refine Then.normal ?_
  refine Amk 67 0 ⟨((.d .nil) :: ((.d (.lit (.int .i64 p1))) :: (tp 4 ((.d (.lit (.bool (decide (p1 < 0))))) :: (tp 20 []))))), [], 0⟩ ?_
  rcases tf_ (decide (p1 < 0)) with hc6_2 | hc6_2
  · replace hm := cT hc6_2 hm
    refine AWP.if_ true (Eq.trans (by kernel_rfl) (lit_tf (b := decide (p1 < 0)) hc6_2)) ?_
    refine AWP.text ?_
    refine Wy (.d (.lit (Value.iface 9 (.string (toS ([99, 97, 110, 110, 111, 116, 32, 98, 101, 32, 110, 101, 103, 97, 116, 105, 118, 101] : List UInt8)))))) [] (Oif rfl) ?_
    exact nomatch hm
  · replace hm := cF hc6_2 hm
    refine AWP.if_ false (Eq.trans (by kernel_rfl) (lit_tf (b := decide (p1 < 0)) hc6_2)) ?_
    refine AWP.skip ?_
    refine Then.normal ?_
    refine Amk 3 0 ⟨((.d .nil) :: ((.d (.lit (.int .i64 p1))) :: (tp 25 []))), [], 0⟩ ?_
    refine AWP.seq ?_
    refine AWP.seq ?_
    refine AWP.text ?_
    refine Wy (.d (.lit (.int .i64 p1))) [] (Omv rfl) ?_
    refine Wy (.d .nil) [] (Omv rfl) ?_
    refine Wy (.d (.lit (.int .i64 0))) [] (Ocap rfl (e := 43) (by kernel_rfl)) ?_
    refine Wy (.d .nil) [] (Omv rfl) ?_
    refine Wy (.d (.lit (.int .i64 0))) [] (Oln rfl) ?_
    refine Wy (.d (.lit (.int .i64 0))) [] (Ocs (by kernel_rfl) (op_bin rfl (a1 := .int .i64 0) (a2 := .int .i64 0) (by kernel_rfl) (by kernel_rfl) (fun _ => hb_sub))) ?_
    refine Wy (.d (.lit (.int .i64 (IntKind.i64.wrap (p1 - 0))))) [] (Obn rfl (fun _ => hb_sub (k := .i64))) ?_
    refine Wy (.d (.lit (.int .i64 (IntKind.i64.wrap (p1 - 0))))) [] (Omv rfl) ?_
    refine Walk.nil ?_
    refine Then.normal ?_
    refine Amk 3 0 ⟨((.d .nil) :: ((.d (.lit (.int .i64 (IntKind.i64.wrap (p1 - 0))))) :: (tp 25 []))), [], 0⟩ ?_
    refine AWP.seq ?_
    refine AWP.text ?_
    refine Wy (.d (.lit (.int .i64 (IntKind.i64.wrap (p1 - 0))))) [] (Omv rfl) ?_
    refine Wy (.d (.lit (.bool (decide ((0 : Int) < (IntKind.i64.wrap (p1 - 0))))))) [] (Obn rfl (fun _ => hb_gtr (k := .i64))) ?_
    refine Walk.nil ?_
    refine Then.normal ?_
    refine Amk 65539 0 ⟨((.d .nil) :: ((.d (.lit (.int .i64 (IntKind.i64.wrap (p1 - 0))))) :: (tp 14 ((.d (.lit (.bool (decide ((0 : Int) < (IntKind.i64.wrap (p1 - 0))))))) :: (tp 10 []))))), [], 0⟩ ?_
    rcases tf_ (decide ((0 : Int) < (IntKind.i64.wrap (p1 - 0)))) with hc16_3 | hc16_3
    · replace hm := cT hc16_3 hm
      refine AWP.if_ true (Eq.trans (by kernel_rfl) (lit_tf (b := decide ((0 : Int) < (IntKind.i64.wrap (p1 - 0)))) hc16_3)) ?_
      refine AWP.text ?_
      refine Wy (.d .nil) [] (Omv rfl) ?_
      refine Wy (.d .nil) [] (Omv rfl) ?_
      refine Wy (.d (.lit (.int .i64 0))) [] (Ocap rfl (e := 43) (by kernel_rfl)) ?_
      refine Wy (.d .nil) [] (Ocn rfl (k := .i64) (by kernel_rfl)) ?_
      refine Wy (.d (.lit (.int .i64 (IntKind.i64.wrap (p1 - 0))))) [] (Omv rfl) ?_
      obtain ⟨a22_1, ha22_1, hm⟩ := bnd hm; obtain ⟨ha22_1i, ha22_1l, ha22_1e⟩ := mk_some ha22_1
      obtain ⟨ha22_1p, hm⟩ := chk_some hm
      refine Wy (.own 0) [(0, (.arr 43 3 (List.length a22_1) (flatD enc_GChange a22_1)))] (OcB (OapZ rfl elemOK_27 (kn := .i64) (kq := .i64) (by kernel_rfl) (by kernel_rfl) (L := (IntKind.i64.wrap (p1 - 0))) (n := Int.toNat (IntKind.i64.wrap (p1 - 0))) ha22_1i ha22_1p ha22_1l) (bl_one (by rw [ha22_1e]; simp) (by rw [ha22_1e]; exact (flat_rep (by kernel_rfl))))) ?_
      refine Wy (.d .nil) [] (Omv rfl) ?_
      refine Wy (.d (.lit (.int .i64 0))) [] (Oln rfl) ?_
      obtain ⟨s25_1, hs25_1, hm⟩ := bnd hm; obtain ⟨hs25_1a, hs25_1b, hs25_1c, hs25_1d, hs25_1e⟩ := cut_some hs25_1
      refine Wy (.own 1) [(0, .gone), (1, (.arr 43 3 (List.length s25_1) (flatD enc_GChange s25_1)))] (OcB (op_sliceTo rfl (id := 0) (e := 43) (sz := 3) (n := List.length a22_1) (xs := flatD enc_GChange a22_1) (by kernel_rfl) (by kernel_rfl) (by kernel_rfl) (k := .i64) (hv := 0) (by kernel_rfl) (h := (Int.toNat 0)) hs25_1b hs25_1d (by kernel_rfl) (by decide)) (bl_app (cut_len0 hs25_1e hs25_1d) (cut_take0 enc_GChange_len hs25_1e))) ?_
      refine Wy (.own 1) [] (Omv rfl) ?_
      refine Walk.nil ?_
      refine Then.normal ?_
      refine Amk 1 2 ⟨((.own 1) :: (tp 26 [])), [.gone, (.arr 43 3 (List.length s25_1) (flatD enc_GChange s25_1))], 0⟩ ?_
      refine AWP.seq ?_
      refine AWP.text ?_
      refine Wy (.own 1) [] (Omv rfl) ?_
      refine Wy (.own 1) [] (Omv rfl) ?_
      refine Walk.nil ?_
      refine Then.normal ?_
      refine AWP.ret ?_
      obtain rfl := Option.some.inj hm
      exact ret_i [1]
    · replace hm := cF hc16_3 hm
      refine AWP.if_ false (Eq.trans (by kernel_rfl) (lit_tf (b := decide ((0 : Int) < (IntKind.i64.wrap (p1 - 0)))) hc16_3)) ?_
      refine AWP.skip ?_
      refine Then.normal ?_
      refine Amk 1 0 ⟨((.d .nil) :: (tp 26 [])), [], 0⟩ ?_
      refine AWP.seq ?_
      refine AWP.text ?_
      refine Wy (.d .nil) [] (Omv rfl) ?_
      refine Wy (.d .nil) [] (Omv rfl) ?_
      refine Walk.nil ?_
      refine Then.normal ?_
      refine Aow 4 43 3 ⟨((.d .nil) :: (tp 3 ((.own 0) :: (tp 21 ((.d .nil) :: []))))), [(.arr 43 3 (List.length ([] : List GChange)) (flatD enc_GChange ([] : List GChange)))], 0⟩ ?_
      refine AWP.ret ?_
      obtain rfl := Option.some.inj hm
      exact ret_i [0]

set_option maxRecDepth 20000 in
set_option maxHeartbeats 4000000 in
theorem ok_slices_Concat_Change (p0 : (List (List GChange))) (r : (List GChange)) (h : m_slices_Concat_Change p0 = some r) : GCall Try.prog 22 [(.d (.sl (List.length p0) (flatD (encL enc_GChange) p0)))] [] (.own 0) [(.arr 43 3 (List.length r) (flatD enc_GChange r))] := by
  refine GCall.of_body (n := 36) (rs := [(.tmp 2)]) Try.func22 rfl rfl rfl ?_
  refine Ato ⟨((.d (.sl (List.length p0) (flatD (encL enc_GChange) p0))) :: (tu 35 [])), [], 0⟩ ?_
  have hm := h
  unfold m_slices_Concat_Change at hm
  refine AWP.seq ?_
  refine AWP.text ?_
  refine Wy (.d .nil) [] (Omv rfl) ?_
  refine Walk.nil ?_
  refine Then.normal ?_
  refine Amk 1 0 ⟨((.d (.sl (List.length p0) (flatD (encL enc_GChange) p0))) :: (tp 35 [])), [], 0⟩ ?_
  refine AWP.seq ?_
  refine AWP.text ?_
  refine Wy (.d (.lit (.int .i64 0))) [] (Omv rfl) ?_
  refine Walk.nil ?_
  refine Then.normal ?_
  refine Amk 9 0 ⟨((.d (.sl (List.length p0) (flatD (encL enc_GChange) p0))) :: (tp 2 ((.d (.lit (.int .i64 0))) :: (tp 32 [])))), [], 0⟩ ?_
  refine AWP.seq ?_
  refine AWP.seq ?_
  refine AWP.text ?_
  refine Wy (.d (.sl (List.length p0) (flatD (encL enc_GChange) p0))) [] (Omv rfl) ?_
  refine Wy (.d (.lit (.int .i64 ((List.length p0 : Nat) : Int)))) [] (Oln rfl) ?_
  refine Wy (.d (.lit (.int .i64 0))) [] (Omv rfl) ?_
  refine Walk.nil ?_
  refine Then.normal ?_
  refine Amk 3593 0 ⟨((.d (.sl (List.length p0) (flatD (encL enc_GChange) p0))) :: (tp 2 ((.d (.lit (.int .i64 0))) :: (tp 5 ((.d (.sl (List.length p0) (flatD (encL enc_GChange) p0))) :: ((.d (.lit (.int .i64 ((List.length p0 : Nat) : Int)))) :: ((.d (.lit (.int .i64 0))) :: (tp 24 [])))))))), [], 0⟩ ?_
  refine AWP.block ?_
  refine AWP.loopI (α := Nat × Int × Int)
    (fun x => match x with | (fu_1, y3_1, y11_1) => (⟨((.d (.sl (List.length p0) (flatD (encL enc_GChange) p0))) :: (tp 2 ((.d (.lit (.int .i64 y3_1))) :: (tp 5 ((.d (.sl (List.length p0) (flatD (encL enc_GChange) p0))) :: ((.d (.lit (.int .i64 ((List.length p0 : Nat) : Int)))) :: ((.d (.lit (.int .i64 y11_1))) :: (tp 24 [])))))))), [], 0⟩ : St))
    (fun x => match x with | (fu_1, y3_1, y11_1) => m_slices_Concat_Change_l1 p0 fu_1 y3_1 y11_1 = some r)
    (fun x => match x with | (fu_1, y3_1, y11_1) => fu_1) (1152921504606846976, 0, 0)
    (Weak.toK 3593 0 0 []) hm ?_
  rintro ⟨fu_1, y3_1, y11_1⟩ n_1 hm ih_1
  try dsimp only at hm ih_1 ⊢
  cases fu_1 with
  | zero => exact absurd hm (by unfold m_slices_Concat_Change_l1; simp)
  | succ fu_1 =>
    unfold m_slices_Concat_Change_l1 at hm
    refine AWP.seq ?_
    refine AWP.text ?_
    refine Wy (.d (.lit (.bool (decide (y11_1 < ((List.length p0 : Nat) : Int)))))) [] (Obn rfl (fun _ => hb_lss (k := .i64))) ?_
    refine Walk.nil ?_
    refine Then.normal ?_
    refine Amk 7689 0 ⟨((.d (.sl (List.length p0) (flatD (encL enc_GChange) p0))) :: (tp 2 ((.d (.lit (.int .i64 y3_1))) :: (tp 5 ((.d (.sl (List.length p0) (flatD (encL enc_GChange) p0))) :: ((.d (.lit (.int .i64 ((List.length p0 : Nat) : Int)))) :: ((.d (.lit (.int .i64 y11_1))) :: ((.d (.lit (.bool (decide (y11_1 < ((List.length p0 : Nat) : Int)))))) :: (tp 23 []))))))))), [], 0⟩ ?_
    refine AWP.seq ?_
    rcases tf_ (decide (y11_1 < ((List.length p0 : Nat) : Int))) with hc12_9 | hc12_9
    · replace hm := cT hc12_9 hm
      refine AWP.if_ true (Eq.trans (by kernel_rfl) (lit_tf (b := decide (y11_1 < ((List.length p0 : Nat) : Int))) hc12_9)) ?_
      refine AWP.skip ?_
      refine Then.normal ?_
      refine Amk 3593 0 ⟨((.d (.sl (List.length p0) (flatD (encL enc_GChange) p0))) :: (tp 2 ((.d (.lit (.int .i64 y3_1))) :: (tp 5 ((.d (.sl (List.length p0) (flatD (encL enc_GChange) p0))) :: ((.d (.lit (.int .i64 ((List.length p0 : Nat) : Int)))) :: ((.d (.lit (.int .i64 y11_1))) :: (tp 24 [])))))))), [], 0⟩ ?_
      refine AWP.seq ?_
      refine AWP.block ?_
      refine AWP.seq ?_
      refine AWP.text ?_
      obtain ⟨x13_2, hx13_2, hm⟩ := bnd hm
      obtain ⟨hx13_2i, hx13_2g⟩ := geti_some hx13_2
      refine Wy (.d (.ref (List.drop ((Int.toNat y11_1) * 1) (flatD (encL enc_GChange) p0)))) [] (Oia rfl (encL_len (enc := enc_GChange)) hx13_2i hx13_2g) ?_
      refine Wy (.d (.sl (List.length x13_2) (flatD enc_GChange x13_2))) [] (Lf1 rfl (encL_len (enc := enc_GChange)) hx13_2g) ?_
      refine Wy (.d (.sl (List.length x13_2) (flatD enc_GChange x13_2))) [] (Omv rfl) ?_
      refine Walk.nil ?_
      refine Then.normal ?_
      refine Amk 3625 0 ⟨((.d (.sl (List.length p0) (flatD (encL enc_GChange) p0))) :: (tp 2 ((.d (.lit (.int .i64 y3_1))) :: (tp 1 ((.d (.sl (List.length x13_2) (flatD enc_GChange x13_2))) :: (tp 3 ((.d (.sl (List.length p0) (flatD (encL enc_GChange) p0))) :: ((.d (.lit (.int .i64 ((List.length p0 : Nat) : Int)))) :: ((.d (.lit (.int .i64 y11_1))) :: (tp 24 [])))))))))), [], 0⟩ ?_
      refine AWP.seq ?_
      refine AWP.text ?_
      refine Wy (.d (.lit (.int .i64 y3_1))) [] (Omv rfl) ?_
      refine Wy (.d (.sl (List.length x13_2) (flatD enc_GChange x13_2))) [] (Omv rfl) ?_
      refine Wy (.d (.lit (.int .i64 ((List.length x13_2 : Nat) : Int)))) [] (Oln rfl) ?_
      refine Wy (.d (.lit (.int .i64 (IntKind.i64.wrap (y3_1 + ((List.length x13_2 : Nat) : Int)))))) [] (Obn rfl (fun _ => hb_add (k := .i64))) ?_
      refine Wy (.d (.lit (.int .i64 (IntKind.i64.wrap (y3_1 + ((List.length x13_2 : Nat) : Int)))))) [] (Omv rfl) ?_
      refine Walk.nil ?_
      refine Then.normal ?_
      refine Amk 3593 0 ⟨((.d (.sl (List.length p0) (flatD (encL enc_GChange) p0))) :: (tp 2 ((.d (.lit (.int .i64 (IntKind.i64.wrap (y3_1 + ((List.length x13_2 : Nat) : Int)))))) :: (tp 5 ((.d (.sl (List.length p0) (flatD (encL enc_GChange) p0))) :: ((.d (.lit (.int .i64 ((List.length p0 : Nat) : Int)))) :: ((.d (.lit (.int .i64 y11_1))) :: (tp 24 [])))))))), [], 0⟩ ?_
      refine AWP.seq ?_
      refine AWP.text ?_
      refine Wy (.d (.lit (.int .i64 (IntKind.i64.wrap (y3_1 + ((List.length x13_2 : Nat) : Int)))))) [] (Omv rfl) ?_
      refine Wy (.d (.lit (.bool (decide ((IntKind.i64.wrap (y3_1 + ((List.length x13_2 : Nat) : Int))) < 0))))) [] (Obn rfl (fun _ => hb_lss (k := .i64))) ?_
      refine Walk.nil ?_
      refine Then.normal ?_
      refine Amk 1052169 0 ⟨((.d (.sl (List.length p0) (flatD (encL enc_GChange) p0))) :: (tp 2 ((.d (.lit (.int .i64 (IntKind.i64.wrap (y3_1 + ((List.length x13_2 : Nat) : Int)))))) :: (tp 5 ((.d (.sl (List.length p0) (flatD (encL enc_GChange) p0))) :: ((.d (.lit (.int .i64 ((List.length p0 : Nat) : Int)))) :: ((.d (.lit (.int .i64 y11_1))) :: (tp 8 ((.d (.lit (.bool (decide ((IntKind.i64.wrap (y3_1 + ((List.length x13_2 : Nat) : Int))) < 0))))) :: (tp 15 [])))))))))), [], 0⟩ ?_
      rcases tf_ (decide ((IntKind.i64.wrap (y3_1 + ((List.length x13_2 : Nat) : Int))) < 0)) with hc20_10 | hc20_10
      · replace hm := cT hc20_10 hm
        refine AWP.if_ true (Eq.trans (by kernel_rfl) (lit_tf (b := decide ((IntKind.i64.wrap (y3_1 + ((List.length x13_2 : Nat) : Int))) < 0)) hc20_10)) ?_
        refine AWP.text ?_
        refine Wy (.d (.lit (Value.iface 9 (.string (toS ([108, 101, 110, 32, 111, 117, 116, 32, 111, 102, 32, 114, 97, 110, 103, 101] : List UInt8)))))) [] (Oif rfl) ?_
        exact nomatch hm
      · replace hm := cF hc20_10 hm
        refine AWP.if_ false (Eq.trans (by kernel_rfl) (lit_tf (b := decide ((IntKind.i64.wrap (y3_1 + ((List.length x13_2 : Nat) : Int))) < 0)) hc20_10)) ?_
        refine AWP.skip ?_
        refine InBlock.normal ?_
        refine Then.normal ?_
        refine Amk 3593 0 ⟨((.d (.sl (List.length p0) (flatD (encL enc_GChange) p0))) :: (tp 2 ((.d (.lit (.int .i64 (IntKind.i64.wrap (y3_1 + ((List.length x13_2 : Nat) : Int)))))) :: (tp 5 ((.d (.sl (List.length p0) (flatD (encL enc_GChange) p0))) :: ((.d (.lit (.int .i64 ((List.length p0 : Nat) : Int)))) :: ((.d (.lit (.int .i64 y11_1))) :: (tp 24 [])))))))), [], 0⟩ ?_
        refine AWP.text ?_
        refine Wy (.d (.lit (.int .i64 (IntKind.i64.wrap (y11_1 + 1))))) [] (Obn rfl (fun _ => hb_add (k := .i64))) ?_
        refine Wy (.d (.lit (.int .i64 (IntKind.i64.wrap (y11_1 + 1))))) [] (Omv rfl) ?_
        refine Walk.nil ?_
        refine RoundK.normal ?_
        exact Rounds.weak (Weak.toK 3593 0 0 []) (ih_1 (fu_1, (IntKind.i64.wrap (y3_1 + ((List.length x13_2 : Nat) : Int))), (IntKind.i64.wrap (y11_1 + 1))) hm (Nat.lt_succ_self _))
    · replace hm := cF hc12_9 hm
      refine AWP.if_ false (Eq.trans (by kernel_rfl) (lit_tf (b := decide (y11_1 < ((List.length p0 : Nat) : Int))) hc12_9)) ?_
      refine AWP.exit ?_
      refine Then.exit ?_
      refine RoundK.exit ?_
      refine InBlock.same ?_
      refine Then.normal ?_
      refine Amk 9 0 ⟨((.d (.sl (List.length p0) (flatD (encL enc_GChange) p0))) :: (tp 2 ((.d (.lit (.int .i64 y3_1))) :: (tp 32 [])))), [], 0⟩ ?_
      refine AWP.seq ?_
      refine AWP.text ?_
      refine Wy (.d (.lit (.int .i64 y3_1))) [] (Omv rfl) ?_
      obtain ⟨r24_4, hr24_4, hm⟩ := bnd hm
      refine Wy (.own 0) [(0, (.arr 43 3 (List.length r24_4) (flatD enc_GChange r24_4)))] (Ocf [] [0] [] 1 (ok_slices_Grow_Change y3_1 r24_4 hr24_4) (fun a w => Try.call27 a w) rfl trivial) ?_
      refine Wy (.own 0) [] (Omv rfl) ?_
      refine Walk.nil ?_
      refine Then.normal ?_
      refine Amk 65 1 ⟨((.d (.sl (List.length p0) (flatD (encL enc_GChange) p0))) :: (tp 5 ((.own 0) :: (tp 29 [])))), [(.arr 43 3 (List.length r24_4) (flatD enc_GChange r24_4))], 0⟩ ?_
      refine AWP.seq ?_
      refine AWP.seq ?_
      refine AWP.text ?_
      refine Wy (.d (.sl (List.length p0) (flatD (encL enc_GChange) p0))) [] (Omv rfl) ?_
      refine Wy (.d (.lit (.int .i64 ((List.length p0 : Nat) : Int)))) [] (Oln rfl) ?_
      refine Wy (.d (.lit (.int .i64 0))) [] (Omv rfl) ?_
      refine Walk.nil ?_
      refine Then.normal ?_
      refine Amk 234881088 1 ⟨(tp 6 ((.own 0) :: (tp 18 ((.d (.sl (List.length p0) (flatD (encL enc_GChange) p0))) :: ((.d (.lit (.int .i64 ((List.length p0 : Nat) : Int)))) :: ((.d (.lit (.int .i64 0))) :: (tp 8 []))))))), [(.arr 43 3 (List.length r24_4) (flatD enc_GChange r24_4))], 0⟩ ?_
      refine AWP.block ?_
      refine AWP.loopI (α := Nat × (List GChange) × Int)
        (fun x => match x with | (fu_6, y6_6, y27_6) => (⟨(tp 6 ((.own 0) :: (tp 18 ((.d (.sl (List.length p0) (flatD (encL enc_GChange) p0))) :: ((.d (.lit (.int .i64 ((List.length p0 : Nat) : Int)))) :: ((.d (.lit (.int .i64 y27_6))) :: (tp 8 []))))))), [(.arr 43 3 (List.length y6_6) (flatD enc_GChange y6_6))], 0⟩ : St))
        (fun x => match x with | (fu_6, y6_6, y27_6) => m_slices_Concat_Change_l6 p0 fu_6 y6_6 y27_6 = some r)
        (fun x => match x with | (fu_6, y6_6, y27_6) => fu_6) (1152921504606846976, r24_4, 0)
        (Weak.toK 234881088 0 0 [0]) hm ?_
      rintro ⟨fu_6, y6_6, y27_6⟩ n_6 hm ih_6
      try dsimp only at hm ih_6 ⊢
      cases fu_6 with
      | zero => exact absurd hm (by unfold m_slices_Concat_Change_l6; simp)
      | succ fu_6 =>
        unfold m_slices_Concat_Change_l6 at hm
        refine AWP.seq ?_
        refine AWP.text ?_
        refine Wy (.d (.lit (.bool (decide (y27_6 < ((List.length p0 : Nat) : Int)))))) [] (Obn rfl (fun _ => hb_lss (k := .i64))) ?_
        refine Walk.nil ?_
        refine Then.normal ?_
        refine Amk 503316544 1 ⟨(tp 6 ((.own 0) :: (tp 18 ((.d (.sl (List.length p0) (flatD (encL enc_GChange) p0))) :: ((.d (.lit (.int .i64 ((List.length p0 : Nat) : Int)))) :: ((.d (.lit (.int .i64 y27_6))) :: ((.d (.lit (.bool (decide (y27_6 < ((List.length p0 : Nat) : Int)))))) :: (tp 7 [])))))))), [(.arr 43 3 (List.length y6_6) (flatD enc_GChange y6_6))], 0⟩ ?_
        refine AWP.seq ?_
        rcases tf_ (decide (y27_6 < ((List.length p0 : Nat) : Int))) with hc28_11 | hc28_11
        · replace hm := cT hc28_11 hm
          refine AWP.if_ true (Eq.trans (by kernel_rfl) (lit_tf (b := decide (y27_6 < ((List.length p0 : Nat) : Int))) hc28_11)) ?_
          refine AWP.skip ?_
          refine Then.normal ?_
          refine Amk 234881088 1 ⟨(tp 6 ((.own 0) :: (tp 18 ((.d (.sl (List.length p0) (flatD (encL enc_GChange) p0))) :: ((.d (.lit (.int .i64 ((List.length p0 : Nat) : Int)))) :: ((.d (.lit (.int .i64 y27_6))) :: (tp 8 []))))))), [(.arr 43 3 (List.length y6_6) (flatD enc_GChange y6_6))], 0⟩ ?_
          refine AWP.seq ?_
          refine AWP.block ?_
          refine AWP.seq ?_
          refine AWP.text ?_
          obtain ⟨x29_7, hx29_7, hm⟩ := bnd hm
          obtain ⟨hx29_7i, hx29_7g⟩ := geti_some hx29_7
          refine Wy (.d (.ref (List.drop ((Int.toNat y27_6) * 1) (flatD (encL enc_GChange) p0)))) [] (Oia rfl (encL_len (enc := enc_GChange)) hx29_7i hx29_7g) ?_
          refine Wy (.d (.sl (List.length x29_7) (flatD enc_GChange x29_7))) [] (Lf1 rfl (encL_len (enc := enc_GChange)) hx29_7g) ?_
          refine Wy (.d (.sl (List.length x29_7) (flatD enc_GChange x29_7))) [] (Omv rfl) ?_
          refine Walk.nil ?_
          refine Then.normal ?_
          refine Amk 234881344 1 ⟨(tp 6 ((.own 0) :: (tp 1 ((.d (.sl (List.length x29_7) (flatD enc_GChange x29_7))) :: (tp 16 ((.d (.sl (List.length p0) (flatD (encL enc_GChange) p0))) :: ((.d (.lit (.int .i64 ((List.length p0 : Nat) : Int)))) :: ((.d (.lit (.int .i64 y27_6))) :: (tp 8 []))))))))), [(.arr 43 3 (List.length y6_6) (flatD enc_GChange y6_6))], 0⟩ ?_
          refine AWP.text ?_
          refine Wy (.own 0) [] (Omv rfl) ?_
          refine Wy (.d (.sl (List.length x29_7) (flatD enc_GChange x29_7))) [] (Omv rfl) ?_
          obtain ⟨a33_8, ha33_8, hm⟩ := bnd hm; obtain ⟨ha33_8e, ha33_8l⟩ := app_some ha33_8
          refine Wy (.own 1) [(0, .gone), (1, (.arr 43 3 (List.length a33_8) (flatD enc_GChange a33_8)))] (Oap rfl elemOK_27 enc_GChange_len ha33_8e ha33_8l) ?_
          refine Wy (.own 1) [] (Omv rfl) ?_
          refine Walk.nil ?_
          refine InBlock.normal ?_
          refine Then.normal ?_
          refine Amk 234881088 2 ⟨(tp 6 ((.own 1) :: (tp 18 ((.d (.sl (List.length p0) (flatD (encL enc_GChange) p0))) :: ((.d (.lit (.int .i64 ((List.length p0 : Nat) : Int)))) :: ((.d (.lit (.int .i64 y27_6))) :: (tp 8 []))))))), [.gone, (.arr 43 3 (List.length a33_8) (flatD enc_GChange a33_8))], 0⟩ ?_
          refine AWP.text ?_
          refine Wy (.d (.lit (.int .i64 (IntKind.i64.wrap (y27_6 + 1))))) [] (Obn rfl (fun _ => hb_add (k := .i64))) ?_
          refine Wy (.d (.lit (.int .i64 (IntKind.i64.wrap (y27_6 + 1))))) [] (Omv rfl) ?_
          refine Walk.nil ?_
          refine RoundK.normal ?_
          exact Rounds.weak (Weak.toK 234881088 0 0 [1]) (ih_6 (fu_6, a33_8, (IntKind.i64.wrap (y27_6 + 1))) hm (Nat.lt_succ_self _))
        · replace hm := cF hc28_11 hm
          refine AWP.if_ false (Eq.trans (by kernel_rfl) (lit_tf (b := decide (y27_6 < ((List.length p0 : Nat) : Int))) hc28_11)) ?_
          refine AWP.exit ?_
          refine Then.exit ?_
          refine RoundK.exit ?_
          refine InBlock.same ?_
          refine Then.normal ?_
          refine Amk 64 1 ⟨(tp 6 ((.own 0) :: (tp 29 []))), [(.arr 43 3 (List.length y6_6) (flatD enc_GChange y6_6))], 0⟩ ?_
          refine AWP.seq ?_
          refine AWP.text ?_
          refine Wy (.own 0) [] (Omv rfl) ?_
          refine Wy (.own 0) [] (Omv rfl) ?_
          refine Walk.nil ?_
          refine Then.normal ?_
          refine AWP.ret ?_
          obtain rfl := Option.some.inj hm
          exact ret_i [0]

set_option maxRecDepth 20000 in
set_option maxHeartbeats 4000000 in
theorem ok_tally_Merge (p0 : (List GChange)) (p1 : (List GChange)) (r : (List GChange)) (h : m_tally_Merge p0 p1 = some r) : GCall Try.prog 17 [(.d (.sl (List.length p0) (flatD enc_GChange p0))), (.d (.sl (List.length p1) (flatD enc_GChange p1)))] [] (.d (.sl (List.length r) (flatD enc_GChange r))) [] := by
  refine GCall.of_body (n := 10) (rs := [(.tmp 4)]) Try.func17 rfl rfl rfl ?_
  refine Ato ⟨((.d (.sl (List.length p0) (flatD enc_GChange p0))) :: ((.d (.sl (List.length p1) (flatD enc_GChange p1))) :: (tu 8 []))), [], 0⟩ ?_
  have hm := h
  unfold m_tally_Merge at hm
  refine AWP.seq ?_
  refine AWP.text ?_
  refine Wy (.d .nil) [] (Omv rfl) ?_
  refine Walk.nil ?_
  refine Then.normal ?_
  refine Amk 3 0 ⟨((.d (.sl (List.length p0) (flatD enc_GChange p0))) :: ((.d (.sl (List.length p1) (flatD enc_GChange p1))) :: (tp 8 []))), [], 0⟩ ?_
  refine AWP.seq ?_
  refine AWP.text ?_
  refine Wy (.d (.sl (List.length p0) (flatD enc_GChange p0))) [] (Omv rfl) ?_
  refine Wy (.d (.sl (List.length p1) (flatD enc_GChange p1))) [] (Omv rfl) ?_
  refine Wy (.own 0) [(0, (.arr 27 1 (List.length ([p0, p1] : List (List GChange))) (flatD (encL enc_GChange) ([p0, p1] : List (List GChange)))))] (Obs rfl) ?_
  obtain ⟨r8_0, hr8_0, hm⟩ := bnd hm
  refine Wy (.own 1) [(1, (.arr 43 3 (List.length r8_0) (flatD enc_GChange r8_0)))] (Ocp [] [1] [0] 0 (ok_slices_Concat_Change ([p0, p1] : List (List GChange)) r8_0 hr8_0) (⟨by simp [A.Plain, A.Plains, D.Plain, byteD], plain_cons (flat_plain enc_GChange_plain) (plain_nil)⟩) (fun a w => Try.call22 a w) rfl trivial) ?_
  obtain ⟨r9_0, hr9_0, hm⟩ := bnd hm
  refine Wy (.d (.sl (List.length r9_0) (flatD enc_GChange r9_0))) [(1, (.fro 43 3 (List.length r8_0) (flatD enc_GChange r8_0)))] (Ocf [] [] [1] 0 (ok_tally_Normal r8_0 r9_0 hr9_0) (fun a w => Try.call20 a w) rfl trivial) ?_
  refine Wy (.d (.sl (List.length r9_0) (flatD enc_GChange r9_0))) [] (Omv rfl) ?_
  refine Walk.nil ?_
  refine Then.normal ?_
  refine AWP.ret ?_
  obtain rfl := Option.some.inj hm
  exact ret_i []

set_option maxRecDepth 20000 in
set_option maxHeartbeats 4000000 in
theorem ok_tally_Add (p0 : (List GChange)) (p1 : GChange) (r : (List GChange)) (h : m_tally_Add p0 p1 = some r) : GCall Try.prog 18 [(.d (.sl (List.length p0) (flatD enc_GChange p0))), (.agg [(.d (.lit (.int .i64 p1.Loc))), (.d (.lit (.int .i64 p1.Time))), (.d (.lit (.int .i64 p1.N)))])] [] (.d (.sl (List.length r) (flatD enc_GChange r))) [] := by
  refine GCall.of_body (n := 9) (rs := [(.tmp 4)]) Try.func18 rfl rfl rfl ?_
  refine Ato ⟨((.d (.sl (List.length p0) (flatD enc_GChange p0))) :: ((.agg [(.d (.lit (.int .i64 p1.Loc))), (.d (.lit (.int .i64 p1.Time))), (.d (.lit (.int .i64 p1.N)))]) :: (tu 7 []))), [], 0⟩ ?_
  have hm := h
  unfold m_tally_Add at hm
  refine AWP.seq ?_
  refine AWP.text ?_
  refine Wy (.loc 0 0) [(0, (.box [(.d (.lit (.int .i64 p1.Loc))), (.d (.lit (.int .i64 p1.Time))), (.d (.lit (.int .i64 p1.N)))]))] (Obx rfl) ?_
  refine Wy (.d .nil) [] (Omv rfl) ?_
  refine Walk.nil ?_
  refine Then.normal ?_
  refine Amk 9 1 ⟨((.d (.sl (List.length p0) (flatD enc_GChange p0))) :: (tp 2 ((.loc 0 0) :: (tp 5 [])))), [(.box [(.d (.lit (.int .i64 p1.Loc))), (.d (.lit (.int .i64 p1.Time))), (.d (.lit (.int .i64 p1.N)))])], 0⟩ ?_
  refine AWP.seq ?_
  refine AWP.text ?_
  refine Wy (.d (.sl (List.length p0) (flatD enc_GChange p0))) [] (Omv rfl) ?_
  refine Wy (.agg [(.d (.lit (.int .i64 p1.Loc))), (.d (.lit (.int .i64 p1.Time))), (.d (.lit (.int .i64 p1.N)))]) [] (Old rfl) ?_
  refine Wy (.own 1) [(1, (.arr 43 3 (List.length ([p1] : List GChange)) (flatD enc_GChange ([p1] : List GChange))))] (Obs rfl) ?_
  obtain ⟨r8_0, hr8_0, hm⟩ := bnd hm
  refine Wy (.d (.sl (List.length r8_0) (flatD enc_GChange r8_0))) [(1, (.fro 43 3 (List.length ([p1] : List GChange)) (flatD enc_GChange ([p1] : List GChange))))] (Ocf [] [] [1] 0 (ok_tally_Merge p0 ([p1] : List GChange) r8_0 hr8_0) (fun a w => Try.call17 a w) rfl trivial) ?_
  refine Wy (.d (.sl (List.length r8_0) (flatD enc_GChange r8_0))) [] (Omv rfl) ?_
  refine Walk.nil ?_
  refine Then.normal ?_
  refine AWP.ret ?_
  obtain rfl := Option.some.inj hm
  exact ret_i []

set_option maxRecDepth 20000 in
set_option maxHeartbeats 4000000 in
theorem ok_tally_Neg (p0 : (List GChange)) (r : (List GChange)) (h : m_tally_Neg p0 = some r) : GCall Try.prog 19 [(.d (.sl (List.length p0) (flatD enc_GChange p0)))] [] (.d (.sl (List.length r) (flatD enc_GChange r))) [] := by
  refine GCall.of_body (n := 23) (rs := [(.tmp 2)]) Try.func19 rfl rfl rfl ?_
  refine Ato ⟨((.d (.sl (List.length p0) (flatD enc_GChange p0))) :: (tu 22 [])), [], 0⟩ ?_
  have hm := h
  unfold m_tally_Neg at hm
  refine AWP.seq ?_
  refine AWP.text ?_
  refine Wy (.d .nil) [] (Omv rfl) ?_
  refine Walk.nil ?_
  refine Then.normal ?_
  refine Amk 1 0 ⟨((.d (.sl (List.length p0) (flatD enc_GChange p0))) :: (tp 22 [])), [], 0⟩ ?_
  refine AWP.seq ?_
  refine AWP.text ?_
  refine Wy (.d .nil) [] (Omv rfl) ?_
  refine Walk.nil ?_
  refine Then.normal ?_
  refine Amk 9 0 ⟨((.d (.sl (List.length p0) (flatD enc_GChange p0))) :: (tp 2 ((.d .nil) :: (tp 19 [])))), [], 0⟩ ?_
  refine AWP.seq ?_
  refine AWP.seq ?_
  refine AWP.text ?_
  refine Wy (.d (.sl (List.length p0) (flatD enc_GChange p0))) [] (Omv rfl) ?_
  refine Wy (.d (.lit (.int .i64 ((List.length p0 : Nat) : Int)))) [] (Oln rfl) ?_
  refine Wy (.d (.lit (.int .i64 0))) [] (Omv rfl) ?_
  refine Walk.nil ?_
  refine Then.normal ?_
  refine Amk 456 0 ⟨(tp 3 ((.d .nil) :: (tp 2 ((.d (.sl (List.length p0) (flatD enc_GChange p0))) :: ((.d (.lit (.int .i64 ((List.length p0 : Nat) : Int)))) :: ((.d (.lit (.int .i64 0))) :: (tp 14 []))))))), [], 0⟩ ?_
  refine AWP.block ?_
  refine Aow 3 43 3 ⟨(tp 3 ((.own 0) :: (tp 2 ((.d (.sl (List.length p0) (flatD enc_GChange p0))) :: ((.d (.lit (.int .i64 ((List.length p0 : Nat) : Int)))) :: ((.d (.lit (.int .i64 0))) :: (tp 14 []))))))), [(.arr 43 3 (List.length ([] : List GChange)) (flatD enc_GChange ([] : List GChange)))], 0⟩ ?_
  refine AWP.loopI (α := Nat × (List GChange) × Int)
    (fun x => match x with | (fu_1, y3_1, y8_1) => (⟨(tp 3 ((.own 0) :: (tp 2 ((.d (.sl (List.length p0) (flatD enc_GChange p0))) :: ((.d (.lit (.int .i64 ((List.length p0 : Nat) : Int)))) :: ((.d (.lit (.int .i64 y8_1))) :: (tp 14 []))))))), [(.arr 43 3 (List.length y3_1) (flatD enc_GChange y3_1))], 0⟩ : St))
    (fun x => match x with | (fu_1, y3_1, y8_1) => m_tally_Neg_l1 p0 fu_1 y3_1 y8_1 = some r)
    (fun x => match x with | (fu_1, y3_1, y8_1) => fu_1) (1152921504606846976, ([] : List GChange), 0)
    (Weak.toK 456 0 0 [0]) hm ?_
  rintro ⟨fu_1, y3_1, y8_1⟩ n_1 hm ih_1
  try dsimp only at hm ih_1 ⊢
  cases fu_1 with
  | zero => exact absurd hm (by unfold m_tally_Neg_l1; simp)
  | succ fu_1 =>
    unfold m_tally_Neg_l1 at hm
    refine AWP.seq ?_
    refine AWP.text ?_
    refine Wy (.d (.lit (.bool (decide (y8_1 < ((List.length p0 : Nat) : Int)))))) [] (Obn rfl (fun _ => hb_lss (k := .i64))) ?_
    refine Walk.nil ?_
    refine Then.normal ?_
    refine Amk 968 1 ⟨(tp 3 ((.own 0) :: (tp 2 ((.d (.sl (List.length p0) (flatD enc_GChange p0))) :: ((.d (.lit (.int .i64 ((List.length p0 : Nat) : Int)))) :: ((.d (.lit (.int .i64 y8_1))) :: ((.d (.lit (.bool (decide (y8_1 < ((List.length p0 : Nat) : Int)))))) :: (tp 13 [])))))))), [(.arr 43 3 (List.length y3_1) (flatD enc_GChange y3_1))], 0⟩ ?_
    refine AWP.seq ?_
    rcases tf_ (decide (y8_1 < ((List.length p0 : Nat) : Int))) with hc9_5 | hc9_5
    · replace hm := cT hc9_5 hm
      refine AWP.if_ true (Eq.trans (by kernel_rfl) (lit_tf (b := decide (y8_1 < ((List.length p0 : Nat) : Int))) hc9_5)) ?_
      refine AWP.skip ?_
      refine Then.normal ?_
      refine Amk 456 1 ⟨(tp 3 ((.own 0) :: (tp 2 ((.d (.sl (List.length p0) (flatD enc_GChange p0))) :: ((.d (.lit (.int .i64 ((List.length p0 : Nat) : Int)))) :: ((.d (.lit (.int .i64 y8_1))) :: (tp 14 []))))))), [(.arr 43 3 (List.length y3_1) (flatD enc_GChange y3_1))], 0⟩ ?_
      refine AWP.seq ?_
      refine AWP.block ?_
      refine AWP.seq ?_
      refine AWP.text ?_
      obtain ⟨x10_2, hx10_2, hm⟩ := bnd hm
      obtain ⟨hx10_2i, hx10_2g⟩ := geti_some hx10_2
      refine Wy (.d (.ref (List.drop ((Int.toNat y8_1) * 3) (flatD enc_GChange p0)))) [] (Oia rfl enc_GChange_len hx10_2i hx10_2g) ?_
      refine Wy (.agg [(.d (.lit (.int .i64 x10_2.Loc))), (.d (.lit (.int .i64 x10_2.Time))), (.d (.lit (.int .i64 x10_2.N)))]) [] (Lf rfl enc_GChange_len hx10_2g) ?_
      refine Wy (.loc 1 0) [(1, (.box [(.d (.lit (.int .i64 0))), (.d (.lit (.int .i64 0))), (.d (.lit (.int .i64 0)))]))] (Oal rfl) ?_
      refine Wy (.tup []) [(1, (.box [(.d (.lit (.int .i64 x10_2.Loc))), (.d (.lit (.int .i64 x10_2.Time))), (.d (.lit (.int .i64 x10_2.N)))]))] (Ost rfl) ?_
      refine Walk.nil ?_
      refine Then.normal ?_
      refine Amk 488 3 ⟨(tp 3 ((.own 0) :: (tp 1 ((.loc 1 0) :: ((.d (.sl (List.length p0) (flatD enc_GChange p0))) :: ((.d (.lit (.int .i64 ((List.length p0 : Nat) : Int)))) :: ((.d (.lit (.int .i64 y8_1))) :: (tp 14 [])))))))), [(.arr 43 3 (List.length y3_1) (flatD enc_GChange y3_1)), (.box [(.d (.lit (.int .i64 x10_2.Loc))), (.d (.lit (.int .i64 x10_2.Time))), (.d (.lit (.int .i64 x10_2.N)))])], 0⟩ ?_
      refine AWP.seq ?_
      refine AWP.text ?_
      refine Wy (.loc 1 2) [] (Ofa rfl) ?_
      refine Wy (.d (.lit (.int .i64 x10_2.N))) [] (Old rfl) ?_
      refine Wy (.d (.lit (.int .i64 (IntKind.i64.wrap (0 - x10_2.N))))) [] (Ocs (by kernel_rfl) (op_un rfl (a1 := .int .i64 x10_2.N) (by kernel_rfl) (fun _ => hu_neg))) ?_
      refine Wy (.loc 1 2) [] (Ofa rfl) ?_
      refine Wy (.tup []) [(1, (.box [(.d (.lit (.int .i64 x10_2.Loc))), (.d (.lit (.int .i64 x10_2.Time))), (.d (.lit (.int .i64 (IntKind.i64.wrap (0 - x10_2.N)))))]))] (Ost rfl) ?_
      refine Walk.nil ?_
      refine Then.normal ?_
      refine Amk 488 3 ⟨(tp 3 ((.own 0) :: (tp 1 ((.loc 1 0) :: ((.d (.sl (List.length p0) (flatD enc_GChange p0))) :: ((.d (.lit (.int .i64 ((List.length p0 : Nat) : Int)))) :: ((.d (.lit (.int .i64 y8_1))) :: (tp 14 [])))))))), [(.arr 43 3 (List.length y3_1) (flatD enc_GChange y3_1)), (.box [(.d (.lit (.int .i64 x10_2.Loc))), (.d (.lit (.int .i64 x10_2.Time))), (.d (.lit (.int .i64 (IntKind.i64.wrap (0 - x10_2.N)))))])], 0⟩ ?_
      refine AWP.text ?_
      refine Wy (.own 0) [] (Omv rfl) ?_
      refine Wy (.agg [(.d (.lit (.int .i64 x10_2.Loc))), (.d (.lit (.int .i64 x10_2.Time))), (.d (.lit (.int .i64 (IntKind.i64.wrap (0 - x10_2.N)))))]) [] (Old rfl) ?_
      refine Wy (.own 2) [(2, (.arr 43 3 (List.length ([(GChange.mk x10_2.Loc x10_2.Time (IntKind.i64.wrap (0 - x10_2.N)))] : List GChange)) (flatD enc_GChange ([(GChange.mk x10_2.Loc x10_2.Time (IntKind.i64.wrap (0 - x10_2.N)))] : List GChange))))] (Obs rfl) ?_
      obtain ⟨a19_3, ha19_3, hm⟩ := bnd hm; obtain ⟨ha19_3e, ha19_3l⟩ := app_some ha19_3
      refine Wy (.own 3) [(0, .gone), (3, (.arr 43 3 (List.length a19_3) (flatD enc_GChange a19_3)))] (Oap rfl elemOK_27 enc_GChange_len ha19_3e ha19_3l) ?_
      refine Wy (.own 3) [] (Omv rfl) ?_
      refine Walk.nil ?_
      refine InBlock.normal ?_
      refine Then.normal ?_
      refine Amk 456 8 ⟨(tp 3 ((.own 3) :: (tp 2 ((.d (.sl (List.length p0) (flatD enc_GChange p0))) :: ((.d (.lit (.int .i64 ((List.length p0 : Nat) : Int)))) :: ((.d (.lit (.int .i64 y8_1))) :: (tp 14 []))))))), [.gone, .gone, .gone, (.arr 43 3 (List.length a19_3) (flatD enc_GChange a19_3))], 0⟩ ?_
      refine AWP.text ?_
      refine Wy (.d (.lit (.int .i64 (IntKind.i64.wrap (y8_1 + 1))))) [] (Obn rfl (fun _ => hb_add (k := .i64))) ?_
      refine Wy (.d (.lit (.int .i64 (IntKind.i64.wrap (y8_1 + 1))))) [] (Omv rfl) ?_
      refine Walk.nil ?_
      refine RoundK.normal ?_
      exact Rounds.weak (Weak.toK 456 0 0 [3]) (ih_1 (fu_1, a19_3, (IntKind.i64.wrap (y8_1 + 1))) hm (Nat.lt_succ_self _))
    · replace hm := cF hc9_5 hm
      refine AWP.if_ false (Eq.trans (by kernel_rfl) (lit_tf (b := decide (y8_1 < ((List.length p0 : Nat) : Int))) hc9_5)) ?_
      refine AWP.exit ?_
      refine Then.exit ?_
      refine RoundK.exit ?_
      refine InBlock.same ?_
      refine Then.normal ?_
      refine Amk 8 1 ⟨(tp 3 ((.own 0) :: (tp 19 []))), [(.arr 43 3 (List.length y3_1) (flatD enc_GChange y3_1))], 0⟩ ?_
      refine AWP.seq ?_
      refine AWP.text ?_
      refine Wy (.own 0) [] (Omv rfl) ?_
      obtain ⟨r22_4, hr22_4, hm⟩ := bnd hm
      refine Wy (.d (.sl (List.length r22_4) (flatD enc_GChange r22_4))) [(0, (.fro 43 3 (List.length y3_1) (flatD enc_GChange y3_1)))] (Ocf [] [] [0] 0 (ok_tally_Normal y3_1 r22_4 hr22_4) (fun a w => Try.call20 a w) rfl trivial) ?_
      refine Wy (.d (.sl (List.length r22_4) (flatD enc_GChange r22_4))) [] (Omv rfl) ?_
      refine Walk.nil ?_
      refine Then.normal ?_
      refine AWP.ret ?_
      obtain rfl := Option.some.inj hm
      exact ret_i []
end Go.Proofs.Ythcilaomjkaciaa.K
