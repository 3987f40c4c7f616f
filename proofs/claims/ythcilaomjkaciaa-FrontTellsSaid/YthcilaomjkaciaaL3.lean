/- each function computes what its model says (3) -/
import Derived.Test.YthcilaomjkaciaaL2
namespace Go.Proofs.Ythcilaomjkaciaa.K
open Go.RowKit Go.Lib
set_option linter.unusedVariables false
set_option linter.unusedSimpArgs false

set_option maxRecDepth 20000 in
set_option maxHeartbeats 4000000 in
theorem ok_front_All (p0 : (List GChange)) (r : GArr4_Int) (h : m_front_All p0 = some r) : GCall Try.prog 10 [(.d (.sl (List.length p0) (flatD enc_GChange p0)))] [] (.agg [(.d (.lit (.int .i64 r.a0))), (.d (.lit (.int .i64 r.a1))), (.d (.lit (.int .i64 r.a2))), (.d (.lit (.int .i64 r.a3)))]) [] := by
  refine GCall.of_body (n := 15) (rs := [(.cell 2 31)]) Try.func10 rfl rfl rfl ?_
  refine Ato ⟨((.d (.sl (List.length p0) (flatD enc_GChange p0))) :: (tu 14 [])), [], 0⟩ ?_
  have hm := h
  unfold m_front_All at hm
  refine AWP.seq ?_
  refine AWP.text ?_
  refine Wy (.loc 0 0) [(0, (.box [(.d (.lit (.int .i64 0))), (.d (.lit (.int .i64 0))), (.d (.lit (.int .i64 0))), (.d (.lit (.int .i64 0)))]))] (Oal rfl) ?_
  refine Walk.nil ?_
  refine Then.normal ?_
  refine Amk 5 1 ⟨((.d (.sl (List.length p0) (flatD enc_GChange p0))) :: (tp 1 ((.loc 0 0) :: (tp 12 [])))), [(.box [(.d (.lit (.int .i64 0))), (.d (.lit (.int .i64 0))), (.d (.lit (.int .i64 0))), (.d (.lit (.int .i64 0)))])], 0⟩ ?_
  refine AWP.seq ?_
  refine AWP.text ?_
  refine Wy (.loc 1 0) [(1, (.box [(.d (.lit (.int .i64 0))), (.d (.lit (.int .i64 0))), (.d (.lit (.int .i64 0))), (.d (.lit (.int .i64 0)))]))] (Oal rfl) ?_
  refine Walk.nil ?_
  refine Then.normal ?_
  refine Amk 13 3 ⟨((.d (.sl (List.length p0) (flatD enc_GChange p0))) :: (tp 1 ((.loc 0 0) :: ((.loc 1 0) :: (tp 11 []))))), [(.box [(.d (.lit (.int .i64 0))), (.d (.lit (.int .i64 0))), (.d (.lit (.int .i64 0))), (.d (.lit (.int .i64 0)))]), (.box [(.d (.lit (.int .i64 0))), (.d (.lit (.int .i64 0))), (.d (.lit (.int .i64 0))), (.d (.lit (.int .i64 0)))])], 0⟩ ?_
  refine AWP.seq ?_
  refine AWP.seq ?_
  refine AWP.text ?_
  refine Wy (.d (.lit (.int .i64 0))) [] (Omv rfl) ?_
  refine Walk.nil ?_
  refine Then.normal ?_
  refine Amk 45 3 ⟨((.d (.sl (List.length p0) (flatD enc_GChange p0))) :: (tp 1 ((.loc 0 0) :: ((.loc 1 0) :: (tp 1 ((.d (.lit (.int .i64 0))) :: (tp 9 []))))))), [(.box [(.d (.lit (.int .i64 0))), (.d (.lit (.int .i64 0))), (.d (.lit (.int .i64 0))), (.d (.lit (.int .i64 0)))]), (.box [(.d (.lit (.int .i64 0))), (.d (.lit (.int .i64 0))), (.d (.lit (.int .i64 0))), (.d (.lit (.int .i64 0)))])], 0⟩ ?_
  refine AWP.block ?_
  refine AWP.loopI (α := Nat × GArr4_Int × Int)
    (fun x => match x with | (fu_0, y3_d_0, y5_0) => (⟨((.d (.sl (List.length p0) (flatD enc_GChange p0))) :: (tp 1 ((.loc 0 0) :: ((.loc 1 0) :: (tp 1 ((.d (.lit (.int .i64 y5_0))) :: (tp 9 []))))))), [(.box [(.d (.lit (.int .i64 0))), (.d (.lit (.int .i64 0))), (.d (.lit (.int .i64 0))), (.d (.lit (.int .i64 0)))]), (.box [(.d (.lit (.int .i64 y3_d_0.a0))), (.d (.lit (.int .i64 y3_d_0.a1))), (.d (.lit (.int .i64 y3_d_0.a2))), (.d (.lit (.int .i64 y3_d_0.a3)))])], 0⟩ : St))
    (fun x => match x with | (fu_0, y3_d_0, y5_0) => m_front_All_l0 p0 fu_0 y3_d_0 y5_0 = some r)
    (fun x => match x with | (fu_0, y3_d_0, y5_0) => fu_0) (1152921504606846976, (GArr4_Int.mk 0 0 0 0), 0)
    (Weak.toK 45 0 0 [0, 1]) hm ?_
  rintro ⟨fu_0, y3_d_0, y5_0⟩ n_0 hm ih_0
  try dsimp only at hm ih_0 ⊢
  cases fu_0 with
  | zero => exact absurd hm (by unfold m_front_All_l0; simp)
  | succ fu_0 =>
    unfold m_front_All_l0 at hm
    refine AWP.seq ?_
    refine AWP.text ?_
    refine Wy (.d (.lit (.bool (decide (y5_0 < 4))))) [] (Obn rfl (fun _ => hb_lss (k := .i64))) ?_
    refine Walk.nil ?_
    refine Then.normal ?_
    refine Amk 109 3 ⟨((.d (.sl (List.length p0) (flatD enc_GChange p0))) :: (tp 1 ((.loc 0 0) :: ((.loc 1 0) :: (tp 1 ((.d (.lit (.int .i64 y5_0))) :: ((.d (.lit (.bool (decide (y5_0 < 4))))) :: (tp 8 [])))))))), [(.box [(.d (.lit (.int .i64 0))), (.d (.lit (.int .i64 0))), (.d (.lit (.int .i64 0))), (.d (.lit (.int .i64 0)))]), (.box [(.d (.lit (.int .i64 y3_d_0.a0))), (.d (.lit (.int .i64 y3_d_0.a1))), (.d (.lit (.int .i64 y3_d_0.a2))), (.d (.lit (.int .i64 y3_d_0.a3)))])], 0⟩ ?_
    refine AWP.seq ?_
    rcases tf_ (decide (y5_0 < 4)) with hc6_2 | hc6_2
    · replace hm := cT hc6_2 hm
      refine AWP.if_ true (Eq.trans (by kernel_rfl) (lit_tf (b := decide (y5_0 < 4)) hc6_2)) ?_
      refine AWP.skip ?_
      refine Then.normal ?_
      refine Amk 45 3 ⟨((.d (.sl (List.length p0) (flatD enc_GChange p0))) :: (tp 1 ((.loc 0 0) :: ((.loc 1 0) :: (tp 1 ((.d (.lit (.int .i64 y5_0))) :: (tp 9 []))))))), [(.box [(.d (.lit (.int .i64 0))), (.d (.lit (.int .i64 0))), (.d (.lit (.int .i64 0))), (.d (.lit (.int .i64 0)))]), (.box [(.d (.lit (.int .i64 y3_d_0.a0))), (.d (.lit (.int .i64 y3_d_0.a1))), (.d (.lit (.int .i64 y3_d_0.a2))), (.d (.lit (.int .i64 y3_d_0.a3)))])], 0⟩ ?_
      refine AWP.seq ?_
      refine AWP.block ?_
      refine AWP.seq ?_
      refine AWP.text ?_
      refine Wy (.d (.lit (.int .i64 y5_0))) [] (Omv rfl) ?_
      refine Wy (.d (.lit (.int .i64 y5_0))) [] (Omv rfl) ?_
      refine Walk.nil ?_
      refine Then.normal ?_
      refine Amk 61 3 ⟨((.d (.sl (List.length p0) (flatD enc_GChange p0))) :: (tp 1 ((.loc 0 0) :: ((.loc 1 0) :: ((.d (.lit (.int .i64 y5_0))) :: ((.d (.lit (.int .i64 y5_0))) :: (tp 9 []))))))), [(.box [(.d (.lit (.int .i64 0))), (.d (.lit (.int .i64 0))), (.d (.lit (.int .i64 0))), (.d (.lit (.int .i64 0)))]), (.box [(.d (.lit (.int .i64 y3_d_0.a0))), (.d (.lit (.int .i64 y3_d_0.a1))), (.d (.lit (.int .i64 y3_d_0.a2))), (.d (.lit (.int .i64 y3_d_0.a3)))])], 0⟩ ?_
      refine AWP.text ?_
      refine Wy (.d (.lit (.int .i64 y5_0))) [] (Omv rfl) ?_
      refine Wy (.d (.sl (List.length p0) (flatD enc_GChange p0))) [] (Omv rfl) ?_
      refine Wy (.d (.lit (.int .i64 y5_0))) [] (Omv rfl) ?_
      obtain ⟨r11_1, hr11_1, hm⟩ := bnd hm
      refine Wy (.d (.lit (.int .i64 r11_1))) [] (Ocf [] [] [] 0 (ok_front_Of p0 y5_0 r11_1 hr11_1) (fun a w => Try.call8 a w) rfl trivial) ?_
      rcases tf_ (decide (y5_0 = 0)) with hq12_1_0 | hq12_1_0
      · replace hm := cT hq12_1_0 hm
        refine Wy (.loc 1 0) [] (Ocs (by kernel_rfl) (op_iaddr_arr rfl (n := 4) (sz := 1) (y := (.loc 1 0)) (by kernel_rfl) (by kernel_rfl) (by kernel_rfl) (k := .i64) (iv := y5_0) (by kernel_rfl) (i := 0) (of_decide_eq_true hq12_1_0) (by decide))) ?_
        refine Wy (.tup []) [(1, (.box [(.d (.lit (.int .i64 r11_1))), (.d (.lit (.int .i64 y3_d_0.a1))), (.d (.lit (.int .i64 y3_d_0.a2))), (.d (.lit (.int .i64 y3_d_0.a3)))]))] (Ost rfl) ?_
        refine Walk.nil ?_
        refine InBlock.normal ?_
        refine Then.normal ?_
        refine Amk 45 3 ⟨((.d (.sl (List.length p0) (flatD enc_GChange p0))) :: (tp 1 ((.loc 0 0) :: ((.loc 1 0) :: (tp 1 ((.d (.lit (.int .i64 y5_0))) :: (tp 9 []))))))), [(.box [(.d (.lit (.int .i64 0))), (.d (.lit (.int .i64 0))), (.d (.lit (.int .i64 0))), (.d (.lit (.int .i64 0)))]), (.box [(.d (.lit (.int .i64 r11_1))), (.d (.lit (.int .i64 y3_d_0.a1))), (.d (.lit (.int .i64 y3_d_0.a2))), (.d (.lit (.int .i64 y3_d_0.a3)))])], 0⟩ ?_
        refine AWP.text ?_
        refine Wy (.d (.lit (.int .i64 (IntKind.i64.wrap (y5_0 + 1))))) [] (Obn rfl (fun _ => hb_add (k := .i64))) ?_
        refine Wy (.d (.lit (.int .i64 (IntKind.i64.wrap (y5_0 + 1))))) [] (Omv rfl) ?_
        refine Walk.nil ?_
        refine RoundK.normal ?_
        exact Rounds.weak (Weak.toK 45 0 0 [0, 1]) (ih_0 (fu_0, (GArr4_Int.mk r11_1 y3_d_0.a1 y3_d_0.a2 y3_d_0.a3), (IntKind.i64.wrap (y5_0 + 1))) hm (Nat.lt_succ_self _))
      · replace hm := cF hq12_1_0 hm
        rcases tf_ (decide (y5_0 = 1)) with hq12_1_1 | hq12_1_1
        · replace hm := cT hq12_1_1 hm
          refine Wy (.loc 1 1) [] (Ocs (by kernel_rfl) (op_iaddr_arr rfl (n := 4) (sz := 1) (y := (.loc 1 0)) (by kernel_rfl) (by kernel_rfl) (by kernel_rfl) (k := .i64) (iv := y5_0) (by kernel_rfl) (i := 1) (of_decide_eq_true hq12_1_1) (by decide))) ?_
          refine Wy (.tup []) [(1, (.box [(.d (.lit (.int .i64 y3_d_0.a0))), (.d (.lit (.int .i64 r11_1))), (.d (.lit (.int .i64 y3_d_0.a2))), (.d (.lit (.int .i64 y3_d_0.a3)))]))] (Ost rfl) ?_
          refine Walk.nil ?_
          refine InBlock.normal ?_
          refine Then.normal ?_
          refine Amk 45 3 ⟨((.d (.sl (List.length p0) (flatD enc_GChange p0))) :: (tp 1 ((.loc 0 0) :: ((.loc 1 0) :: (tp 1 ((.d (.lit (.int .i64 y5_0))) :: (tp 9 []))))))), [(.box [(.d (.lit (.int .i64 0))), (.d (.lit (.int .i64 0))), (.d (.lit (.int .i64 0))), (.d (.lit (.int .i64 0)))]), (.box [(.d (.lit (.int .i64 y3_d_0.a0))), (.d (.lit (.int .i64 r11_1))), (.d (.lit (.int .i64 y3_d_0.a2))), (.d (.lit (.int .i64 y3_d_0.a3)))])], 0⟩ ?_
          refine AWP.text ?_
          refine Wy (.d (.lit (.int .i64 (IntKind.i64.wrap (y5_0 + 1))))) [] (Obn rfl (fun _ => hb_add (k := .i64))) ?_
          refine Wy (.d (.lit (.int .i64 (IntKind.i64.wrap (y5_0 + 1))))) [] (Omv rfl) ?_
          refine Walk.nil ?_
          refine RoundK.normal ?_
          exact Rounds.weak (Weak.toK 45 0 0 [0, 1]) (ih_0 (fu_0, (GArr4_Int.mk y3_d_0.a0 r11_1 y3_d_0.a2 y3_d_0.a3), (IntKind.i64.wrap (y5_0 + 1))) hm (Nat.lt_succ_self _))
        · replace hm := cF hq12_1_1 hm
          rcases tf_ (decide (y5_0 = 2)) with hq12_1_2 | hq12_1_2
          · replace hm := cT hq12_1_2 hm
            refine Wy (.loc 1 2) [] (Ocs (by kernel_rfl) (op_iaddr_arr rfl (n := 4) (sz := 1) (y := (.loc 1 0)) (by kernel_rfl) (by kernel_rfl) (by kernel_rfl) (k := .i64) (iv := y5_0) (by kernel_rfl) (i := 2) (of_decide_eq_true hq12_1_2) (by decide))) ?_
            refine Wy (.tup []) [(1, (.box [(.d (.lit (.int .i64 y3_d_0.a0))), (.d (.lit (.int .i64 y3_d_0.a1))), (.d (.lit (.int .i64 r11_1))), (.d (.lit (.int .i64 y3_d_0.a3)))]))] (Ost rfl) ?_
            refine Walk.nil ?_
            refine InBlock.normal ?_
            refine Then.normal ?_
            refine Amk 45 3 ⟨((.d (.sl (List.length p0) (flatD enc_GChange p0))) :: (tp 1 ((.loc 0 0) :: ((.loc 1 0) :: (tp 1 ((.d (.lit (.int .i64 y5_0))) :: (tp 9 []))))))), [(.box [(.d (.lit (.int .i64 0))), (.d (.lit (.int .i64 0))), (.d (.lit (.int .i64 0))), (.d (.lit (.int .i64 0)))]), (.box [(.d (.lit (.int .i64 y3_d_0.a0))), (.d (.lit (.int .i64 y3_d_0.a1))), (.d (.lit (.int .i64 r11_1))), (.d (.lit (.int .i64 y3_d_0.a3)))])], 0⟩ ?_
            refine AWP.text ?_
            refine Wy (.d (.lit (.int .i64 (IntKind.i64.wrap (y5_0 + 1))))) [] (Obn rfl (fun _ => hb_add (k := .i64))) ?_
            refine Wy (.d (.lit (.int .i64 (IntKind.i64.wrap (y5_0 + 1))))) [] (Omv rfl) ?_
            refine Walk.nil ?_
            refine RoundK.normal ?_
            exact Rounds.weak (Weak.toK 45 0 0 [0, 1]) (ih_0 (fu_0, (GArr4_Int.mk y3_d_0.a0 y3_d_0.a1 r11_1 y3_d_0.a3), (IntKind.i64.wrap (y5_0 + 1))) hm (Nat.lt_succ_self _))
          · replace hm := cF hq12_1_2 hm
            rcases tf_ (decide (y5_0 = 3)) with hq12_1_3 | hq12_1_3
            · replace hm := cT hq12_1_3 hm
              refine Wy (.loc 1 3) [] (Ocs (by kernel_rfl) (op_iaddr_arr rfl (n := 4) (sz := 1) (y := (.loc 1 0)) (by kernel_rfl) (by kernel_rfl) (by kernel_rfl) (k := .i64) (iv := y5_0) (by kernel_rfl) (i := 3) (of_decide_eq_true hq12_1_3) (by decide))) ?_
              refine Wy (.tup []) [(1, (.box [(.d (.lit (.int .i64 y3_d_0.a0))), (.d (.lit (.int .i64 y3_d_0.a1))), (.d (.lit (.int .i64 y3_d_0.a2))), (.d (.lit (.int .i64 r11_1)))]))] (Ost rfl) ?_
              refine Walk.nil ?_
              refine InBlock.normal ?_
              refine Then.normal ?_
              refine Amk 45 3 ⟨((.d (.sl (List.length p0) (flatD enc_GChange p0))) :: (tp 1 ((.loc 0 0) :: ((.loc 1 0) :: (tp 1 ((.d (.lit (.int .i64 y5_0))) :: (tp 9 []))))))), [(.box [(.d (.lit (.int .i64 0))), (.d (.lit (.int .i64 0))), (.d (.lit (.int .i64 0))), (.d (.lit (.int .i64 0)))]), (.box [(.d (.lit (.int .i64 y3_d_0.a0))), (.d (.lit (.int .i64 y3_d_0.a1))), (.d (.lit (.int .i64 y3_d_0.a2))), (.d (.lit (.int .i64 r11_1)))])], 0⟩ ?_
              refine AWP.text ?_
              refine Wy (.d (.lit (.int .i64 (IntKind.i64.wrap (y5_0 + 1))))) [] (Obn rfl (fun _ => hb_add (k := .i64))) ?_
              refine Wy (.d (.lit (.int .i64 (IntKind.i64.wrap (y5_0 + 1))))) [] (Omv rfl) ?_
              refine Walk.nil ?_
              refine RoundK.normal ?_
              exact Rounds.weak (Weak.toK 45 0 0 [0, 1]) (ih_0 (fu_0, (GArr4_Int.mk y3_d_0.a0 y3_d_0.a1 y3_d_0.a2 r11_1), (IntKind.i64.wrap (y5_0 + 1))) hm (Nat.lt_succ_self _))
            · replace hm := cF hq12_1_3 hm
              exact nomatch hm
    · replace hm := cF hc6_2 hm
      refine AWP.if_ false (Eq.trans (by kernel_rfl) (lit_tf (b := decide (y5_0 < 4)) hc6_2)) ?_
      refine AWP.exit ?_
      refine Then.exit ?_
      refine RoundK.exit ?_
      refine InBlock.same ?_
      refine Then.normal ?_
      refine Amk 12 3 ⟨(tp 2 ((.loc 0 0) :: ((.loc 1 0) :: (tp 11 [])))), [(.box [(.d (.lit (.int .i64 0))), (.d (.lit (.int .i64 0))), (.d (.lit (.int .i64 0))), (.d (.lit (.int .i64 0)))]), (.box [(.d (.lit (.int .i64 y3_d_0.a0))), (.d (.lit (.int .i64 y3_d_0.a1))), (.d (.lit (.int .i64 y3_d_0.a2))), (.d (.lit (.int .i64 y3_d_0.a3)))])], 0⟩ ?_
      refine AWP.seq ?_
      refine AWP.text ?_
      refine Wy (.agg [(.d (.lit (.int .i64 y3_d_0.a0))), (.d (.lit (.int .i64 y3_d_0.a1))), (.d (.lit (.int .i64 y3_d_0.a2))), (.d (.lit (.int .i64 y3_d_0.a3)))]) [] (Old rfl) ?_
      refine Wy (.tup []) [(0, (.box [(.d (.lit (.int .i64 y3_d_0.a0))), (.d (.lit (.int .i64 y3_d_0.a1))), (.d (.lit (.int .i64 y3_d_0.a2))), (.d (.lit (.int .i64 y3_d_0.a3)))]))] (Ost rfl) ?_
      refine Walk.nil ?_
      refine Then.normal ?_
      refine AWP.ret ?_
      obtain rfl := Option.some.inj hm
      exact ret_i []

set_option maxRecDepth 20000 in
set_option maxHeartbeats 4000000 in
theorem ok_front_Passed (p0 : (List GChange)) (p1 : Int) (p2 : Int) (r : Bool) (h : m_front_Passed p0 p1 p2 = some r) : GCall Try.prog 12 [(.d (.sl (List.length p0) (flatD enc_GChange p0))), (.d (.lit (.int .i64 p1))), (.d (.lit (.int .i64 p2)))] [] (.d (.lit (.bool r))) [] := by
  refine GCall.of_body (n := 12) (rs := [(.tmp 6)]) Try.func12 rfl rfl rfl ?_
  refine Ato ⟨((.d (.sl (List.length p0) (flatD enc_GChange p0))) :: ((.d (.lit (.int .i64 p1))) :: ((.d (.lit (.int .i64 p2))) :: (tu 9 [])))), [], 0⟩ ?_
  have hm := h
  unfold m_front_Passed at hm
  refine AWP.seq ?_
  refine AWP.text ?_
  refine Wy (.d (.lit (.bool false))) [] (Omv rfl) ?_
  refine Walk.nil ?_
  refine Then.normal ?_
  refine Amk 7 0 ⟨((.d (.sl (List.length p0) (flatD enc_GChange p0))) :: ((.d (.lit (.int .i64 p1))) :: ((.d (.lit (.int .i64 p2))) :: (tp 9 [])))), [], 0⟩ ?_
  refine AWP.seq ?_
  refine AWP.text ?_
  refine Wy (.d (.sl (List.length p0) (flatD enc_GChange p0))) [] (Omv rfl) ?_
  refine Wy (.d (.lit (.int .i64 p1))) [] (Omv rfl) ?_
  obtain ⟨r9_0, hr9_0, hm⟩ := bnd hm
  refine Wy (.d (.lit (.int .i64 r9_0))) [] (Ocf [] [] [] 0 (ok_front_Of p0 p1 r9_0 hr9_0) (fun a w => Try.call8 a w) rfl trivial) ?_
  refine Wy (.d (.lit (.int .i64 p2))) [] (Omv rfl) ?_
  refine Wy (.d (.lit (.bool (decide (p2 < r9_0))))) [] (Obn rfl (fun _ => hb_gtr (k := .i64))) ?_
  refine Wy (.d (.lit (.bool (decide (p2 < r9_0))))) [] (Omv rfl) ?_
  refine Walk.nil ?_
  refine Then.normal ?_
  refine AWP.ret ?_
  obtain rfl := Option.some.inj hm
  exact ret_i []

set_option maxRecDepth 20000 in
set_option maxHeartbeats 4000000 in
theorem ok_front_Drops (p0 : (List GChange)) (p1 : (List GChange)) (r : Bool) (h : m_front_Drops p0 p1 = some r) : GCall Try.prog 13 [(.d (.sl (List.length p0) (flatD enc_GChange p0))), (.d (.sl (List.length p1) (flatD enc_GChange p1)))] [] (.d (.lit (.bool r))) [] := by
  refine GCall.of_body (n := 23) (rs := [(.tmp 4)]) Try.func13 rfl rfl rfl ?_
  refine Ato ⟨((.d (.sl (List.length p0) (flatD enc_GChange p0))) :: ((.d (.sl (List.length p1) (flatD enc_GChange p1))) :: (tu 21 []))), [], 0⟩ ?_
  have hm := h
  unfold m_front_Drops at hm
  refine AWP.seq ?_
  refine AWP.text ?_
  refine Wy (.d (.lit (.bool false))) [] (Omv rfl) ?_
  refine Walk.nil ?_
  refine Then.normal ?_
  refine Amk 3 0 ⟨((.d (.sl (List.length p0) (flatD enc_GChange p0))) :: ((.d (.sl (List.length p1) (flatD enc_GChange p1))) :: (tp 21 []))), [], 0⟩ ?_
  refine AWP.seq ?_
  refine AWP.text ?_
  refine Wy (.d (.sl (List.length p0) (flatD enc_GChange p0))) [] (Omv rfl) ?_
  obtain ⟨r9_0, hr9_0, hm⟩ := bnd hm
  refine Wy (.agg [(.d (.lit (.int .i64 r9_0.a0))), (.d (.lit (.int .i64 r9_0.a1))), (.d (.lit (.int .i64 r9_0.a2))), (.d (.lit (.int .i64 r9_0.a3)))]) [] (Ocf [] [] [] 0 (ok_front_All p0 r9_0 hr9_0) (fun a w => Try.call10 a w) rfl trivial) ?_
  refine Wy (.d (.sl (List.length p1) (flatD enc_GChange p1))) [] (Omv rfl) ?_
  obtain ⟨r11_0, hr11_0, hm⟩ := bnd hm
  refine Wy (.agg [(.d (.lit (.int .i64 r11_0.a0))), (.d (.lit (.int .i64 r11_0.a1))), (.d (.lit (.int .i64 r11_0.a2))), (.d (.lit (.int .i64 r11_0.a3)))]) [] (Ocf [] [] [] 0 (ok_front_All p1 r11_0 hr11_0) (fun a w => Try.call10 a w) rfl trivial) ?_
  refine Wy (.loc 0 0) [(0, (.box [(.d (.lit (.int .i64 0))), (.d (.lit (.int .i64 0))), (.d (.lit (.int .i64 0))), (.d (.lit (.int .i64 0)))]))] (Oal rfl) ?_
  refine Wy (.loc 1 0) [(1, (.box [(.d (.lit (.int .i64 0))), (.d (.lit (.int .i64 0))), (.d (.lit (.int .i64 0))), (.d (.lit (.int .i64 0)))]))] (Oal rfl) ?_
  refine Wy (.tup []) [(0, (.box [(.d (.lit (.int .i64 r9_0.a0))), (.d (.lit (.int .i64 r9_0.a1))), (.d (.lit (.int .i64 r9_0.a2))), (.d (.lit (.int .i64 r9_0.a3)))]))] (Ost rfl) ?_
  refine Wy (.tup []) [(1, (.box [(.d (.lit (.int .i64 r11_0.a0))), (.d (.lit (.int .i64 r11_0.a1))), (.d (.lit (.int .i64 r11_0.a2))), (.d (.lit (.int .i64 r11_0.a3)))]))] (Ost rfl) ?_
  refine Walk.nil ?_
  refine Then.normal ?_
  refine Amk 96 3 ⟨(tp 5 ((.loc 0 0) :: ((.loc 1 0) :: (tp 16 [])))), [(.box [(.d (.lit (.int .i64 r9_0.a0))), (.d (.lit (.int .i64 r9_0.a1))), (.d (.lit (.int .i64 r9_0.a2))), (.d (.lit (.int .i64 r9_0.a3)))]), (.box [(.d (.lit (.int .i64 r11_0.a0))), (.d (.lit (.int .i64 r11_0.a1))), (.d (.lit (.int .i64 r11_0.a2))), (.d (.lit (.int .i64 r11_0.a3)))])], 0⟩ ?_
  refine AWP.seq ?_
  refine AWP.seq ?_
  refine AWP.text ?_
  refine Wy (.d (.lit (.int .i64 0))) [] (Omv rfl) ?_
  refine Walk.nil ?_
  refine Then.normal ?_
  refine Amk 4192 3 ⟨(tp 5 ((.loc 0 0) :: ((.loc 1 0) :: (tp 5 ((.d (.lit (.int .i64 0))) :: (tp 10 [])))))), [(.box [(.d (.lit (.int .i64 r9_0.a0))), (.d (.lit (.int .i64 r9_0.a1))), (.d (.lit (.int .i64 r9_0.a2))), (.d (.lit (.int .i64 r9_0.a3)))]), (.box [(.d (.lit (.int .i64 r11_0.a0))), (.d (.lit (.int .i64 r11_0.a1))), (.d (.lit (.int .i64 r11_0.a2))), (.d (.lit (.int .i64 r11_0.a3)))])], 0⟩ ?_
  refine AWP.block ?_
  refine AWP.loopI (α := Nat × Int)
    (fun x => match x with | (fu_1, y12_1) => (⟨(tp 5 ((.loc 0 0) :: ((.loc 1 0) :: (tp 5 ((.d (.lit (.int .i64 y12_1))) :: (tp 10 [])))))), [(.box [(.d (.lit (.int .i64 r9_0.a0))), (.d (.lit (.int .i64 r9_0.a1))), (.d (.lit (.int .i64 r9_0.a2))), (.d (.lit (.int .i64 r9_0.a3)))]), (.box [(.d (.lit (.int .i64 r11_0.a0))), (.d (.lit (.int .i64 r11_0.a1))), (.d (.lit (.int .i64 r11_0.a2))), (.d (.lit (.int .i64 r11_0.a3)))])], 0⟩ : St))
    (fun x => match x with | (fu_1, y12_1) => m_front_Drops_l1 r11_0 r9_0 fu_1 y12_1 = some r)
    (fun x => match x with | (fu_1, y12_1) => fu_1) (1152921504606846976, 0)
    (Weak.toK 4192 0 0 [0, 1]) hm ?_
  rintro ⟨fu_1, y12_1⟩ n_1 hm ih_1
  try dsimp only at hm ih_1 ⊢
  cases fu_1 with
  | zero => exact absurd hm (by unfold m_front_Drops_l1; simp)
  | succ fu_1 =>
    unfold m_front_Drops_l1 at hm
    refine AWP.seq ?_
    refine AWP.text ?_
    refine Wy (.d (.lit (.bool (decide (y12_1 < 4))))) [] (Obn rfl (fun _ => hb_lss (k := .i64))) ?_
    refine Walk.nil ?_
    refine Then.normal ?_
    refine Amk 12384 3 ⟨(tp 5 ((.loc 0 0) :: ((.loc 1 0) :: (tp 5 ((.d (.lit (.int .i64 y12_1))) :: ((.d (.lit (.bool (decide (y12_1 < 4))))) :: (tp 9 []))))))), [(.box [(.d (.lit (.int .i64 r9_0.a0))), (.d (.lit (.int .i64 r9_0.a1))), (.d (.lit (.int .i64 r9_0.a2))), (.d (.lit (.int .i64 r9_0.a3)))]), (.box [(.d (.lit (.int .i64 r11_0.a0))), (.d (.lit (.int .i64 r11_0.a1))), (.d (.lit (.int .i64 r11_0.a2))), (.d (.lit (.int .i64 r11_0.a3)))])], 0⟩ ?_
    refine AWP.seq ?_
    rcases tf_ (decide (y12_1 < 4)) with hc13_3 | hc13_3
    · replace hm := cT hc13_3 hm
      refine AWP.if_ true (Eq.trans (by kernel_rfl) (lit_tf (b := decide (y12_1 < 4)) hc13_3)) ?_
      refine AWP.skip ?_
      refine Then.normal ?_
      refine Amk 4192 3 ⟨(tp 5 ((.loc 0 0) :: ((.loc 1 0) :: (tp 5 ((.d (.lit (.int .i64 y12_1))) :: (tp 10 [])))))), [(.box [(.d (.lit (.int .i64 r9_0.a0))), (.d (.lit (.int .i64 r9_0.a1))), (.d (.lit (.int .i64 r9_0.a2))), (.d (.lit (.int .i64 r9_0.a3)))]), (.box [(.d (.lit (.int .i64 r11_0.a0))), (.d (.lit (.int .i64 r11_0.a1))), (.d (.lit (.int .i64 r11_0.a2))), (.d (.lit (.int .i64 r11_0.a3)))])], 0⟩ ?_
      refine AWP.seq ?_
      refine AWP.block ?_
      refine AWP.seq ?_
      refine AWP.text ?_
      refine Wy (.d (.lit (.int .i64 y12_1))) [] (Omv rfl) ?_
      refine Wy (.d (.lit (.int .i64 y12_1))) [] (Omv rfl) ?_
      refine Walk.nil ?_
      refine Then.normal ?_
      refine Amk 4320 3 ⟨(tp 5 ((.loc 0 0) :: ((.loc 1 0) :: ((.d (.lit (.int .i64 y12_1))) :: (tp 4 ((.d (.lit (.int .i64 y12_1))) :: (tp 10 []))))))), [(.box [(.d (.lit (.int .i64 r9_0.a0))), (.d (.lit (.int .i64 r9_0.a1))), (.d (.lit (.int .i64 r9_0.a2))), (.d (.lit (.int .i64 r9_0.a3)))]), (.box [(.d (.lit (.int .i64 r11_0.a0))), (.d (.lit (.int .i64 r11_0.a1))), (.d (.lit (.int .i64 r11_0.a2))), (.d (.lit (.int .i64 r11_0.a3)))])], 0⟩ ?_
      refine AWP.seq ?_
      refine Adr ?_
      refine Wy (.d (.lit (.int .i64 y12_1))) [] (Omv rfl) ?_
      obtain ⟨x16_2, hx16_2, hm⟩ := bnd hm
      obtain ⟨hx16_2i, hx16_2g⟩ := geti_some hx16_2
      refine Wy (.loc 1 (0 + (Int.toNat y12_1) * 1)) [] (Ocs (by kernel_rfl) (op_iaddr_arr rfl (n := 4) (sz := 1) (y := (.loc 1 0)) (by kernel_rfl) (by kernel_rfl) (by kernel_rfl) (k := .i64) (iv := y12_1) (by kernel_rfl) (i := (Int.toNat y12_1)) (hx16_2i) (getlt hx16_2g))) ?_
      refine Wy (.d (.lit (.int .i64 x16_2))) [] (OldD rfl (id := 1) (off := 0 + (Int.toNat y12_1) * 1) (cs := [(.d (.lit (.int .i64 r11_0.a0))), (.d (.lit (.int .i64 r11_0.a1))), (.d (.lit (.int .i64 r11_0.a2))), (.d (.lit (.int .i64 r11_0.a3)))]) (xs := (flatD (encI .i64) ([r11_0.a0, r11_0.a1, r11_0.a2, r11_0.a3] : List Int)).map A.d) (by kernel_rfl) (by kernel_rfl) (by kernel_rfl) ((loadA_scalar (by kernel_rfl)).trans (by rw [Nat.zero_add]; exact flat_row_at (l := ([r11_0.a0, r11_0.a1, r11_0.a2, r11_0.a3] : List Int)) (sz := 1) (encI_len (k := .i64)) (hx16_2g) (by kernel_rfl)))) ?_
      refine Wy (.d (.lit (.int .i64 y12_1))) [] (Omv rfl) ?_
      obtain ⟨x19_2, hx19_2, hm⟩ := bnd hm
      obtain ⟨hx19_2i, hx19_2g⟩ := geti_some hx19_2
      refine Wy (.loc 0 (0 + (Int.toNat y12_1) * 1)) [] (Ocs (by kernel_rfl) (op_iaddr_arr rfl (n := 4) (sz := 1) (y := (.loc 0 0)) (by kernel_rfl) (by kernel_rfl) (by kernel_rfl) (k := .i64) (iv := y12_1) (by kernel_rfl) (i := (Int.toNat y12_1)) (hx19_2i) (getlt hx19_2g))) ?_
      refine Wy (.d (.lit (.int .i64 x19_2))) [] (OldD rfl (id := 0) (off := 0 + (Int.toNat y12_1) * 1) (cs := [(.d (.lit (.int .i64 r9_0.a0))), (.d (.lit (.int .i64 r9_0.a1))), (.d (.lit (.int .i64 r9_0.a2))), (.d (.lit (.int .i64 r9_0.a3)))]) (xs := (flatD (encI .i64) ([r9_0.a0, r9_0.a1, r9_0.a2, r9_0.a3] : List Int)).map A.d) (by kernel_rfl) (by kernel_rfl) (by kernel_rfl) ((loadA_scalar (by kernel_rfl)).trans (by rw [Nat.zero_add]; exact flat_row_at (l := ([r9_0.a0, r9_0.a1, r9_0.a2, r9_0.a3] : List Int)) (sz := 1) (encI_len (k := .i64)) (hx19_2g) (by kernel_rfl)))) ?_
      refine Wy (.d (.lit (.bool (decide (x16_2 < x19_2))))) [] (Obn rfl (fun _ => hb_lss (k := .i64))) ?_
      refine Wdr ?_
      refine Then.normal ?_
      refine Amk 2101344 3 ⟨(tp 5 ((.loc 0 0) :: ((.loc 1 0) :: (tp 5 ((.d (.lit (.int .i64 y12_1))) :: (tp 8 ((.d (.lit (.bool (decide (x16_2 < x19_2))))) :: (tp 1 [])))))))), [(.box [(.d (.lit (.int .i64 r9_0.a0))), (.d (.lit (.int .i64 r9_0.a1))), (.d (.lit (.int .i64 r9_0.a2))), (.d (.lit (.int .i64 r9_0.a3)))]), (.box [(.d (.lit (.int .i64 r11_0.a0))), (.d (.lit (.int .i64 r11_0.a1))), (.d (.lit (.int .i64 r11_0.a2))), (.d (.lit (.int .i64 r11_0.a3)))])], 0⟩ ?_
      rcases tf_ (decide (x16_2 < x19_2)) with hc21_4 | hc21_4
      · replace hm := cT hc21_4 hm
        refine AWP.if_ true (Eq.trans (by kernel_rfl) (lit_tf (b := decide (x16_2 < x19_2)) hc21_4)) ?_
        refine AWP.seq ?_
        refine AWP.text ?_
        refine Wy (.d (.lit (.bool true))) [] (Omv rfl) ?_
        refine Walk.nil ?_
        refine Then.normal ?_
        refine AWP.ret ?_
        refine InBlock.ret ?_
        refine Then.ret ?_
        refine RoundK.ret ?_
        refine InBlock.ret ?_
        refine Then.ret ?_
        obtain rfl := Option.some.inj hm
        exact ret_i []
      · replace hm := cF hc21_4 hm
        refine AWP.if_ false (Eq.trans (by kernel_rfl) (lit_tf (b := decide (x16_2 < x19_2)) hc21_4)) ?_
        refine AWP.skip ?_
        refine InBlock.normal ?_
        refine Then.normal ?_
        refine Amk 4192 3 ⟨(tp 5 ((.loc 0 0) :: ((.loc 1 0) :: (tp 5 ((.d (.lit (.int .i64 y12_1))) :: (tp 10 [])))))), [(.box [(.d (.lit (.int .i64 r9_0.a0))), (.d (.lit (.int .i64 r9_0.a1))), (.d (.lit (.int .i64 r9_0.a2))), (.d (.lit (.int .i64 r9_0.a3)))]), (.box [(.d (.lit (.int .i64 r11_0.a0))), (.d (.lit (.int .i64 r11_0.a1))), (.d (.lit (.int .i64 r11_0.a2))), (.d (.lit (.int .i64 r11_0.a3)))])], 0⟩ ?_
        refine AWP.text ?_
        refine Wy (.d (.lit (.int .i64 (IntKind.i64.wrap (y12_1 + 1))))) [] (Obn rfl (fun _ => hb_add (k := .i64))) ?_
        refine Wy (.d (.lit (.int .i64 (IntKind.i64.wrap (y12_1 + 1))))) [] (Omv rfl) ?_
        refine Walk.nil ?_
        refine RoundK.normal ?_
        exact Rounds.weak (Weak.toK 4192 0 0 [0, 1]) (ih_1 (fu_1, (IntKind.i64.wrap (y12_1 + 1))) hm (Nat.lt_succ_self _))
    · replace hm := cF hc13_3 hm
      refine AWP.if_ false (Eq.trans (by kernel_rfl) (lit_tf (b := decide (y12_1 < 4)) hc13_3)) ?_
      refine AWP.exit ?_
      refine Then.exit ?_
      refine RoundK.exit ?_
      refine InBlock.same ?_
      refine Then.normal ?_
      refine Amk 0 0 ⟨(tp 23 []), [.gone, .gone], 0⟩ ?_
      refine AWP.seq ?_
      refine AWP.text ?_
      refine Wy (.d (.lit (.bool false))) [] (Omv rfl) ?_
      refine Walk.nil ?_
      refine Then.normal ?_
      refine AWP.ret ?_
      obtain rfl := Option.some.inj hm
      exact ret_i []

set_option maxRecDepth 20000 in
set_option maxHeartbeats 4000000 in
theorem ok_telltalelaw27_awake (r : Bool) (h : m_telltalelaw27_awake = some r) : GCall Try.prog 6 [] [] (.d (.lit (.bool r))) [] := by
  refine GCall.of_body (n := 50) (rs := [(.tmp 0)]) Try.func6 rfl rfl rfl ?_
  refine Ato ⟨(tu 50 []), [], 0⟩ ?_
  have hm := h
  unfold m_telltalelaw27_awake at hm
  refine AWP.seq ?_
  refine AWP.text ?_
  refine Wy (.d (.lit (.bool false))) [] (Omv rfl) ?_
  refine Walk.nil ?_
  refine Then.normal ?_
  refine Amk 0 0 ⟨(tp 50 []), [], 0⟩ ?_
  refine AWP.seq ?_
  refine AWP.text ?_
  refine Wy (.agg [(.d (.lit (.int .i64 1))), (.d (.lit (.int .i64 5))), (.d (.lit (.int .i64 1)))]) [] (Obd rfl) ?_
  refine Wy (.agg [(.d (.lit (.int .i64 2))), (.d (.lit (.int .i64 3))), (.d (.lit (.int .i64 2)))]) [] (Obd rfl) ?_
  refine Wy (.agg [(.d (.lit (.int .i64 0))), (.d (.lit (.int .i64 1))), (.d (.lit (.int .i64 (-1))))]) [] (Obd rfl) ?_
  refine Wy (.own 0) [(0, (.arr 43 3 (List.length ([(GChange.mk 1 5 1), (GChange.mk 2 3 2), (GChange.mk 0 1 (-1))] : List GChange)) (flatD enc_GChange ([(GChange.mk 1 5 1), (GChange.mk 2 3 2), (GChange.mk 0 1 (-1))] : List GChange))))] (Obs rfl) ?_
  refine Wy (.own 0) [] (Omv rfl) ?_
  refine Walk.nil ?_
  refine Then.normal ?_
  refine Amk 2 1 ⟨(tp 1 ((.own 0) :: (tp 48 []))), [(.arr 43 3 (List.length ([(GChange.mk 1 5 1), (GChange.mk 2 3 2), (GChange.mk 0 1 (-1))] : List GChange)) (flatD enc_GChange ([(GChange.mk 1 5 1), (GChange.mk 2 3 2), (GChange.mk 0 1 (-1))] : List GChange)))], 0⟩ ?_
  refine AWP.seq ?_
  refine Afz [0] ⟨(tp 1 ((.d (.sl (List.length ([(GChange.mk 1 5 1), (GChange.mk 2 3 2), (GChange.mk 0 1 (-1))] : List GChange)) (flatD enc_GChange ([(GChange.mk 1 5 1), (GChange.mk 2 3 2), (GChange.mk 0 1 (-1))] : List GChange)))) :: (tp 48 []))), [(.fro 43 3 (List.length ([(GChange.mk 1 5 1), (GChange.mk 2 3 2), (GChange.mk 0 1 (-1))] : List GChange)) (flatD enc_GChange ([(GChange.mk 1 5 1), (GChange.mk 2 3 2), (GChange.mk 0 1 (-1))] : List GChange)))], 0⟩ ?_
  refine AWP.text ?_
  refine Wy (.d (.sl (List.length ([(GChange.mk 1 5 1), (GChange.mk 2 3 2), (GChange.mk 0 1 (-1))] : List GChange)) (flatD enc_GChange ([(GChange.mk 1 5 1), (GChange.mk 2 3 2), (GChange.mk 0 1 (-1))] : List GChange)))) [] (Omv rfl) ?_
  obtain ⟨r7_0, hr7_0, hm⟩ := bnd hm
  refine Wy (.agg [(.d (.lit (.int .i64 r7_0.a0))), (.d (.lit (.int .i64 r7_0.a1))), (.d (.lit (.int .i64 r7_0.a2))), (.d (.lit (.int .i64 r7_0.a3)))]) [] (Ocf [] [] [] 0 (ok_front_All ([(GChange.mk 1 5 1), (GChange.mk 2 3 2), (GChange.mk 0 1 (-1))] : List GChange) r7_0 hr7_0) (fun a w => Try.call10 a w) rfl trivial) ?_
  refine Wy (.agg [(.d (.lit (.int .i64 1099511627777))), (.d (.lit (.int .i64 5))), (.d (.lit (.int .i64 3))), (.d (.lit (.int .i64 3)))]) [] (ObA rfl (e := 3) (n := 4) (sz := 1) (by kernel_rfl) (by kernel_rfl)) ?_
  obtain ⟨v9_0, hv9_0, hm⟩ := bnd hm; replace hv9_0 := Option.some.inj hv9_0
  refine Wy (.d (.lit (.bool v9_0))) [] (Ocs (Eq.trans (by kernel_rfl) (congrArg (fun z => A.d (.lit (.bool z))) hv9_0)) (op_eql_deep rfl (la := [(.d (.lit (.int .i64 r7_0.a0))), (.d (.lit (.int .i64 r7_0.a1))), (.d (.lit (.int .i64 r7_0.a2))), (.d (.lit (.int .i64 r7_0.a3)))]) (lb := [(.d (.lit (.int .i64 1099511627777))), (.d (.lit (.int .i64 5))), (.d (.lit (.int .i64 3))), (.d (.lit (.int .i64 3)))]) (us := [.int .i64 r7_0.a0, .int .i64 r7_0.a1, .int .i64 r7_0.a2, .int .i64 r7_0.a3]) (vs := [.int .i64 1099511627777, .int .i64 5, .int .i64 3, .int .i64 3]) (r := (decide (r7_0.a0 = 1099511627777) && (decide (r7_0.a1 = 5) && (decide (r7_0.a2 = 3) && (decide (r7_0.a3 = 3) && true))))) (by kernel_rfl) (by kernel_rfl) (by kernel_rfl) (by kernel_rfl) (by kernel_rfl) (by kernel_rfl))) ?_
  rcases tf_ v9_0 with hq10_0 | hq10_0
  · replace hm := cT hq10_0 hm
    refine Wy (.d (.lit (.bool true))) [] (Ocs (lit_tf (b := v9_0) hq10_0) (Omv rfl)) ?_
    obtain ⟨r11_0, hr11_0, hm⟩ := bnd hm
    refine Wy (.d (.lit (.int .i64 r11_0))) [] (Ocf [] [] [] 0 (ok_front_Of ([] : List GChange) 0 r11_0 hr11_0) (fun a w => Try.call8 a w) rfl trivial) ?_
    refine Wy (.d (.lit (.bool (decide (r11_0 = 1099511627777))))) [] (Obn rfl (fun _ => hb_eql (k := .i64))) ?_
    refine Wy (.d (.lit (.bool (decide (r11_0 = 1099511627777))))) [] (OpT rfl) ?_
    rcases tf_ (decide (r11_0 = 1099511627777)) with hq14_0 | hq14_0
    · replace hm := cT hq14_0 hm
      refine Wy (.d (.lit (.bool true))) [] (Ocs (lit_tf (b := decide (r11_0 = 1099511627777)) hq14_0) (Omv rfl)) ?_
      refine Wy (.d (.sl (List.length ([(GChange.mk 1 5 1), (GChange.mk 2 3 2), (GChange.mk 0 1 (-1))] : List GChange)) (flatD enc_GChange ([(GChange.mk 1 5 1), (GChange.mk 2 3 2), (GChange.mk 0 1 (-1))] : List GChange)))) [] (Omv rfl) ?_
      obtain ⟨r16_0, hr16_0, hm⟩ := bnd hm
      refine Wy (.d (.lit (.int .i64 r16_0))) [] (Ocf [] [] [] 0 (ok_front_Of ([(GChange.mk 1 5 1), (GChange.mk 2 3 2), (GChange.mk 0 1 (-1))] : List GChange) 4 r16_0 hr16_0) (fun a w => Try.call8 a w) rfl trivial) ?_
      refine Wy (.d (.lit (.bool (decide (r16_0 = 1099511627777))))) [] (Obn rfl (fun _ => hb_eql (k := .i64))) ?_
      refine Wy (.d (.lit (.bool (decide (r16_0 = 1099511627777))))) [] (OpT rfl) ?_
      rcases tf_ (decide (r16_0 = 1099511627777)) with hq19_0 | hq19_0
      · replace hm := cT hq19_0 hm
        refine Wy (.d (.lit (.bool true))) [] (Ocs (lit_tf (b := decide (r16_0 = 1099511627777)) hq19_0) (Omv rfl)) ?_
        obtain ⟨r20_0, hr20_0, hm⟩ := bnd hm
        refine Wy (.d (.lit (.bool r20_0))) [] (Ocf [] [] [] 0 (ok_front_Leads 1 3 r20_0 hr20_0) (fun a w => Try.call15 a w) rfl trivial) ?_
        refine Wy (.d (.lit (.bool r20_0))) [] (OpT rfl) ?_
        rcases tf_ r20_0 with hq22_0 | hq22_0
        · replace hm := cT hq22_0 hm
          refine Wy (.d (.lit (.bool true))) [] (Ocs (lit_tf (b := r20_0) hq22_0) (Omv rfl)) ?_
          obtain ⟨r23_0, hr23_0, hm⟩ := bnd hm
          refine Wy (.d (.lit (.bool r23_0))) [] (Ocf [] [] [] 0 (ok_front_Leads 3 1 r23_0 hr23_0) (fun a w => Try.call15 a w) rfl trivial) ?_
          refine Wy (.d (.lit (.bool (!r23_0)))) [] (Ocs (by kernel_rfl) (op_un rfl (a1 := .bool r23_0) (by kernel_rfl) (fun _ => hu_not))) ?_
          refine Wy (.d (.lit (.bool (!r23_0)))) [] (OpT rfl) ?_
          rcases tf_ (!r23_0) with hq26_0 | hq26_0
          · replace hm := cT hq26_0 hm
            refine Wy (.d (.lit (.bool true))) [] (Ocs (lit_tf (b := (!r23_0)) hq26_0) (Omv rfl)) ?_
            refine Wy (.d (.sl (List.length ([(GChange.mk 1 5 1), (GChange.mk 2 3 2), (GChange.mk 0 1 (-1))] : List GChange)) (flatD enc_GChange ([(GChange.mk 1 5 1), (GChange.mk 2 3 2), (GChange.mk 0 1 (-1))] : List GChange)))) [] (Omv rfl) ?_
            obtain ⟨r28_0, hr28_0, hm⟩ := bnd hm
            refine Wy (.d (.lit (.bool r28_0))) [] (Ocf [] [] [] 0 (ok_front_Passed ([(GChange.mk 1 5 1), (GChange.mk 2 3 2), (GChange.mk 0 1 (-1))] : List GChange) 1 4 r28_0 hr28_0) (fun a w => Try.call12 a w) rfl trivial) ?_
            refine Wy (.d (.lit (.bool r28_0))) [] (OpT rfl) ?_
            rcases tf_ r28_0 with hq30_0 | hq30_0
            · replace hm := cT hq30_0 hm
              refine Wy (.d (.lit (.bool true))) [] (Ocs (lit_tf (b := r28_0) hq30_0) (Omv rfl)) ?_
              refine Wy (.d (.sl (List.length ([(GChange.mk 1 5 1), (GChange.mk 2 3 2), (GChange.mk 0 1 (-1))] : List GChange)) (flatD enc_GChange ([(GChange.mk 1 5 1), (GChange.mk 2 3 2), (GChange.mk 0 1 (-1))] : List GChange)))) [] (Omv rfl) ?_
              obtain ⟨r32_0, hr32_0, hm⟩ := bnd hm
              refine Wy (.d (.lit (.bool r32_0))) [] (Ocf [] [] [] 0 (ok_front_Passed ([(GChange.mk 1 5 1), (GChange.mk 2 3 2), (GChange.mk 0 1 (-1))] : List GChange) 1 5 r32_0 hr32_0) (fun a w => Try.call12 a w) rfl trivial) ?_
              refine Wy (.d (.lit (.bool (!r32_0)))) [] (Ocs (by kernel_rfl) (op_un rfl (a1 := .bool r32_0) (by kernel_rfl) (fun _ => hu_not))) ?_
              refine Wy (.d (.lit (.bool (!r32_0)))) [] (OpT rfl) ?_
              rcases tf_ (!r32_0) with hq35_0 | hq35_0
              · replace hm := cT hq35_0 hm
                refine Wy (.d (.lit (.bool true))) [] (Ocs (lit_tf (b := (!r32_0)) hq35_0) (Omv rfl)) ?_
                refine Wy (.d (.sl (List.length ([(GChange.mk 1 5 1), (GChange.mk 2 3 2), (GChange.mk 0 1 (-1))] : List GChange)) (flatD enc_GChange ([(GChange.mk 1 5 1), (GChange.mk 2 3 2), (GChange.mk 0 1 (-1))] : List GChange)))) [] (Omv rfl) ?_
                obtain ⟨s37_0, hs37_0, hm⟩ := bnd hm; obtain ⟨hs37_0a, hs37_0b, hs37_0c, hs37_0d, hs37_0e⟩ := cut_some hs37_0
                refine Wy (.d (.sl (List.length s37_0) (flatD enc_GChange s37_0))) [] (op_cut rfl (e := 43) (sz := 3) (by kernel_rfl) (l := ([(GChange.mk 1 5 1), (GChange.mk 2 3 2), (GChange.mk 0 1 (-1))] : List GChange)) (enc := enc_GChange) (by kernel_rfl) enc_GChange_len (a := (Int.toNat 0)) (b := (Int.toNat 1)) (by exact rfl) (⟨.i64, 1, by kernel_rfl, hs37_0b⟩) hs37_0c hs37_0d hs37_0e) ?_
                refine Wy (.d (.sl (List.length ([(GChange.mk 1 5 1), (GChange.mk 2 3 2), (GChange.mk 0 1 (-1))] : List GChange)) (flatD enc_GChange ([(GChange.mk 1 5 1), (GChange.mk 2 3 2), (GChange.mk 0 1 (-1))] : List GChange)))) [] (Omv rfl) ?_
                obtain ⟨r39_0, hr39_0, hm⟩ := bnd hm
                refine Wy (.d (.lit (.bool r39_0))) [] (Ocf [] [] [] 0 (ok_front_Drops s37_0 ([(GChange.mk 1 5 1), (GChange.mk 2 3 2), (GChange.mk 0 1 (-1))] : List GChange) r39_0 hr39_0) (fun a w => Try.call13 a w) rfl trivial) ?_
                refine Wy (.d (.lit (.bool r39_0))) [] (OpT rfl) ?_
                rcases tf_ r39_0 with hq41_0 | hq41_0
                · replace hm := cT hq41_0 hm
                  refine Wy (.d (.lit (.bool true))) [] (Ocs (lit_tf (b := r39_0) hq41_0) (Omv rfl)) ?_
                  refine Wy (.d (.sl (List.length ([(GChange.mk 1 5 1), (GChange.mk 2 3 2), (GChange.mk 0 1 (-1))] : List GChange)) (flatD enc_GChange ([(GChange.mk 1 5 1), (GChange.mk 2 3 2), (GChange.mk 0 1 (-1))] : List GChange)))) [] (Omv rfl) ?_
                  refine Wy (.d (.sl (List.length ([(GChange.mk 1 5 1), (GChange.mk 2 3 2), (GChange.mk 0 1 (-1))] : List GChange)) (flatD enc_GChange ([(GChange.mk 1 5 1), (GChange.mk 2 3 2), (GChange.mk 0 1 (-1))] : List GChange)))) [] (Omv rfl) ?_
                  obtain ⟨s44_0, hs44_0, hm⟩ := bnd hm; obtain ⟨hs44_0a, hs44_0b, hs44_0c, hs44_0d, hs44_0e⟩ := cut_some hs44_0
                  refine Wy (.d (.sl (List.length s44_0) (flatD enc_GChange s44_0))) [] (op_cut rfl (e := 43) (sz := 3) (by kernel_rfl) (l := ([(GChange.mk 1 5 1), (GChange.mk 2 3 2), (GChange.mk 0 1 (-1))] : List GChange)) (enc := enc_GChange) (by kernel_rfl) enc_GChange_len (a := (Int.toNat 0)) (b := (Int.toNat 1)) (by exact rfl) (⟨.i64, 1, by kernel_rfl, hs44_0b⟩) hs44_0c hs44_0d hs44_0e) ?_
                  obtain ⟨r45_0, hr45_0, hm⟩ := bnd hm
                  refine Wy (.d (.lit (.bool r45_0))) [] (Ocf [] [] [] 0 (ok_front_Drops ([(GChange.mk 1 5 1), (GChange.mk 2 3 2), (GChange.mk 0 1 (-1))] : List GChange) s44_0 r45_0 hr45_0) (fun a w => Try.call13 a w) rfl trivial) ?_
                  refine Wy (.d (.lit (.bool (!r45_0)))) [] (Ocs (by kernel_rfl) (op_un rfl (a1 := .bool r45_0) (by kernel_rfl) (fun _ => hu_not))) ?_
                  refine Wy (.d (.lit (.bool (!r45_0)))) [] (OpT rfl) ?_
                  rcases tf_ (!r45_0) with hq48_0 | hq48_0
                  · replace hm := cT hq48_0 hm
                    refine Wy (.d (.lit (.bool true))) [] (Ocs (lit_tf (b := (!r45_0)) hq48_0) (Omv rfl)) ?_
                    refine Wy (.d (.lit (.bool true))) [] (OpT rfl) ?_
                    refine Wy (.d (.lit (.bool true))) [] (Omv rfl) ?_
                    refine Walk.nil ?_
                    refine Then.normal ?_
                    refine AWP.ret ?_
                    obtain rfl := Option.some.inj hm
                    exact ret_i []
                  · replace hm := cF hq48_0 hm
                    refine Wy (.d (.lit (.bool false))) [] (Ocs (lit_tf (b := (!r45_0)) hq48_0) (Omv rfl)) ?_
                    refine Wy (.d (.lit (.bool false))) [] (OpF rfl) ?_
                    refine Wy (.d (.lit (.bool false))) [] (Omv rfl) ?_
                    refine Walk.nil ?_
                    refine Then.normal ?_
                    refine AWP.ret ?_
                    obtain rfl := Option.some.inj hm
                    exact ret_i []
                · replace hm := cF hq41_0 hm
                  refine Wy (.d (.lit (.bool false))) [] (Ocs (lit_tf (b := r39_0) hq41_0) (Omv rfl)) ?_
                  refine Wn ?_
                  refine Wn ?_
                  refine Wn ?_
                  refine Wn ?_
                  refine Wn ?_
                  refine Wy (.d (.lit (.bool false))) [] (OpF rfl) ?_
                  refine Wy (.d (.lit (.bool false))) [] (Omv rfl) ?_
                  refine Wy (.d (.lit (.bool false))) [] (OpF rfl) ?_
                  refine Wy (.d (.lit (.bool false))) [] (Omv rfl) ?_
                  refine Walk.nil ?_
                  refine Then.normal ?_
                  refine AWP.ret ?_
                  obtain rfl := Option.some.inj hm
                  exact ret_i []
              · replace hm := cF hq35_0 hm
                refine Wy (.d (.lit (.bool false))) [] (Ocs (lit_tf (b := (!r32_0)) hq35_0) (Omv rfl)) ?_
                refine Wn ?_
                refine Wn ?_
                refine Wn ?_
                refine Wn ?_
                refine Wy (.d (.lit (.bool false))) [] (OpF rfl) ?_
                refine Wy (.d (.lit (.bool false))) [] (Omv rfl) ?_
                refine Wn ?_
                refine Wn ?_
                refine Wn ?_
                refine Wn ?_
                refine Wn ?_
                refine Wy (.d (.lit (.bool false))) [] (OpF rfl) ?_
                refine Wy (.d (.lit (.bool false))) [] (Omv rfl) ?_
                refine Wy (.d (.lit (.bool false))) [] (OpF rfl) ?_
                refine Wy (.d (.lit (.bool false))) [] (Omv rfl) ?_
                refine Walk.nil ?_
                refine Then.normal ?_
                refine AWP.ret ?_
                obtain rfl := Option.some.inj hm
                exact ret_i []
            · replace hm := cF hq30_0 hm
              refine Wy (.d (.lit (.bool false))) [] (Ocs (lit_tf (b := r28_0) hq30_0) (Omv rfl)) ?_
              refine Wn ?_
              refine Wn ?_
              refine Wn ?_
              refine Wy (.d (.lit (.bool false))) [] (OpF rfl) ?_
              refine Wy (.d (.lit (.bool false))) [] (Omv rfl) ?_
              refine Wn ?_
              refine Wn ?_
              refine Wn ?_
              refine Wn ?_
              refine Wy (.d (.lit (.bool false))) [] (OpF rfl) ?_
              refine Wy (.d (.lit (.bool false))) [] (Omv rfl) ?_
              refine Wn ?_
              refine Wn ?_
              refine Wn ?_
              refine Wn ?_
              refine Wn ?_
              refine Wy (.d (.lit (.bool false))) [] (OpF rfl) ?_
              refine Wy (.d (.lit (.bool false))) [] (Omv rfl) ?_
              refine Wy (.d (.lit (.bool false))) [] (OpF rfl) ?_
              refine Wy (.d (.lit (.bool false))) [] (Omv rfl) ?_
              refine Walk.nil ?_
              refine Then.normal ?_
              refine AWP.ret ?_
              obtain rfl := Option.some.inj hm
              exact ret_i []
          · replace hm := cF hq26_0 hm
            refine Wy (.d (.lit (.bool false))) [] (Ocs (lit_tf (b := (!r23_0)) hq26_0) (Omv rfl)) ?_
            refine Wn ?_
            refine Wn ?_
            refine Wy (.d (.lit (.bool false))) [] (OpF rfl) ?_
            refine Wy (.d (.lit (.bool false))) [] (Omv rfl) ?_
            refine Wn ?_
            refine Wn ?_
            refine Wn ?_
            refine Wy (.d (.lit (.bool false))) [] (OpF rfl) ?_
            refine Wy (.d (.lit (.bool false))) [] (Omv rfl) ?_
            refine Wn ?_
            refine Wn ?_
            refine Wn ?_
            refine Wn ?_
            refine Wy (.d (.lit (.bool false))) [] (OpF rfl) ?_
            refine Wy (.d (.lit (.bool false))) [] (Omv rfl) ?_
            refine Wn ?_
            refine Wn ?_
            refine Wn ?_
            refine Wn ?_
            refine Wn ?_
            refine Wy (.d (.lit (.bool false))) [] (OpF rfl) ?_
            refine Wy (.d (.lit (.bool false))) [] (Omv rfl) ?_
            refine Wy (.d (.lit (.bool false))) [] (OpF rfl) ?_
            refine Wy (.d (.lit (.bool false))) [] (Omv rfl) ?_
            refine Walk.nil ?_
            refine Then.normal ?_
            refine AWP.ret ?_
            obtain rfl := Option.some.inj hm
            exact ret_i []
        · replace hm := cF hq22_0 hm
          refine Wy (.d (.lit (.bool false))) [] (Ocs (lit_tf (b := r20_0) hq22_0) (Omv rfl)) ?_
          refine Wn ?_
          refine Wn ?_
          refine Wy (.d (.lit (.bool false))) [] (OpF rfl) ?_
          refine Wy (.d (.lit (.bool false))) [] (Omv rfl) ?_
          refine Wn ?_
          refine Wn ?_
          refine Wy (.d (.lit (.bool false))) [] (OpF rfl) ?_
          refine Wy (.d (.lit (.bool false))) [] (Omv rfl) ?_
          refine Wn ?_
          refine Wn ?_
          refine Wn ?_
          refine Wy (.d (.lit (.bool false))) [] (OpF rfl) ?_
          refine Wy (.d (.lit (.bool false))) [] (Omv rfl) ?_
          refine Wn ?_
          refine Wn ?_
          refine Wn ?_
          refine Wn ?_
          refine Wy (.d (.lit (.bool false))) [] (OpF rfl) ?_
          refine Wy (.d (.lit (.bool false))) [] (Omv rfl) ?_
          refine Wn ?_
          refine Wn ?_
          refine Wn ?_
          refine Wn ?_
          refine Wn ?_
          refine Wy (.d (.lit (.bool false))) [] (OpF rfl) ?_
          refine Wy (.d (.lit (.bool false))) [] (Omv rfl) ?_
          refine Wy (.d (.lit (.bool false))) [] (OpF rfl) ?_
          refine Wy (.d (.lit (.bool false))) [] (Omv rfl) ?_
          refine Walk.nil ?_
          refine Then.normal ?_
          refine AWP.ret ?_
          obtain rfl := Option.some.inj hm
          exact ret_i []
      · replace hm := cF hq19_0 hm
        refine Wy (.d (.lit (.bool false))) [] (Ocs (lit_tf (b := decide (r16_0 = 1099511627777)) hq19_0) (Omv rfl)) ?_
        refine Wn ?_
        refine Wy (.d (.lit (.bool false))) [] (OpF rfl) ?_
        refine Wy (.d (.lit (.bool false))) [] (Omv rfl) ?_
        refine Wn ?_
        refine Wn ?_
        refine Wy (.d (.lit (.bool false))) [] (OpF rfl) ?_
        refine Wy (.d (.lit (.bool false))) [] (Omv rfl) ?_
        refine Wn ?_
        refine Wn ?_
        refine Wy (.d (.lit (.bool false))) [] (OpF rfl) ?_
        refine Wy (.d (.lit (.bool false))) [] (Omv rfl) ?_
        refine Wn ?_
        refine Wn ?_
        refine Wn ?_
        refine Wy (.d (.lit (.bool false))) [] (OpF rfl) ?_
        refine Wy (.d (.lit (.bool false))) [] (Omv rfl) ?_
        refine Wn ?_
        refine Wn ?_
        refine Wn ?_
        refine Wn ?_
        refine Wy (.d (.lit (.bool false))) [] (OpF rfl) ?_
        refine Wy (.d (.lit (.bool false))) [] (Omv rfl) ?_
        refine Wn ?_
        refine Wn ?_
        refine Wn ?_
        refine Wn ?_
        refine Wn ?_
        refine Wy (.d (.lit (.bool false))) [] (OpF rfl) ?_
        refine Wy (.d (.lit (.bool false))) [] (Omv rfl) ?_
        refine Wy (.d (.lit (.bool false))) [] (OpF rfl) ?_
        refine Wy (.d (.lit (.bool false))) [] (Omv rfl) ?_
        refine Walk.nil ?_
        refine Then.normal ?_
        refine AWP.ret ?_
        obtain rfl := Option.some.inj hm
        exact ret_i []
    · replace hm := cF hq14_0 hm
      refine Wy (.d (.lit (.bool false))) [] (Ocs (lit_tf (b := decide (r11_0 = 1099511627777)) hq14_0) (Omv rfl)) ?_
      refine Wn ?_
      refine Wn ?_
      refine Wn ?_
      refine Wy (.d (.lit (.bool false))) [] (OpF rfl) ?_
      refine Wy (.d (.lit (.bool false))) [] (Omv rfl) ?_
      refine Wn ?_
      refine Wy (.d (.lit (.bool false))) [] (OpF rfl) ?_
      refine Wy (.d (.lit (.bool false))) [] (Omv rfl) ?_
      refine Wn ?_
      refine Wn ?_
      refine Wy (.d (.lit (.bool false))) [] (OpF rfl) ?_
      refine Wy (.d (.lit (.bool false))) [] (Omv rfl) ?_
      refine Wn ?_
      refine Wn ?_
      refine Wy (.d (.lit (.bool false))) [] (OpF rfl) ?_
      refine Wy (.d (.lit (.bool false))) [] (Omv rfl) ?_
      refine Wn ?_
      refine Wn ?_
      refine Wn ?_
      refine Wy (.d (.lit (.bool false))) [] (OpF rfl) ?_
      refine Wy (.d (.lit (.bool false))) [] (Omv rfl) ?_
      refine Wn ?_
      refine Wn ?_
      refine Wn ?_
      refine Wn ?_
      refine Wy (.d (.lit (.bool false))) [] (OpF rfl) ?_
      refine Wy (.d (.lit (.bool false))) [] (Omv rfl) ?_
      refine Wn ?_
      refine Wn ?_
      refine Wn ?_
      refine Wn ?_
      refine Wn ?_
      refine Wy (.d (.lit (.bool false))) [] (OpF rfl) ?_
      refine Wy (.d (.lit (.bool false))) [] (Omv rfl) ?_
      refine Wy (.d (.lit (.bool false))) [] (OpF rfl) ?_
      refine Wy (.d (.lit (.bool false))) [] (Omv rfl) ?_
      refine Walk.nil ?_
      refine Then.normal ?_
      refine AWP.ret ?_
      obtain rfl := Option.some.inj hm
      exact ret_i []
  · replace hm := cF hq10_0 hm
    refine Wy (.d (.lit (.bool false))) [] (Ocs (lit_tf (b := v9_0) hq10_0) (Omv rfl)) ?_
    refine Wn ?_
    refine Wn ?_
    refine Wy (.d (.lit (.bool false))) [] (OpF rfl) ?_
    refine Wy (.d (.lit (.bool false))) [] (Omv rfl) ?_
    refine Wn ?_
    refine Wn ?_
    refine Wn ?_
    refine Wy (.d (.lit (.bool false))) [] (OpF rfl) ?_
    refine Wy (.d (.lit (.bool false))) [] (Omv rfl) ?_
    refine Wn ?_
    refine Wy (.d (.lit (.bool false))) [] (OpF rfl) ?_
    refine Wy (.d (.lit (.bool false))) [] (Omv rfl) ?_
    refine Wn ?_
    refine Wn ?_
    refine Wy (.d (.lit (.bool false))) [] (OpF rfl) ?_
    refine Wy (.d (.lit (.bool false))) [] (Omv rfl) ?_
    refine Wn ?_
    refine Wn ?_
    refine Wy (.d (.lit (.bool false))) [] (OpF rfl) ?_
    refine Wy (.d (.lit (.bool false))) [] (Omv rfl) ?_
    refine Wn ?_
    refine Wn ?_
    refine Wn ?_
    refine Wy (.d (.lit (.bool false))) [] (OpF rfl) ?_
    refine Wy (.d (.lit (.bool false))) [] (Omv rfl) ?_
    refine Wn ?_
    refine Wn ?_
    refine Wn ?_
    refine Wn ?_
    refine Wy (.d (.lit (.bool false))) [] (OpF rfl) ?_
    refine Wy (.d (.lit (.bool false))) [] (Omv rfl) ?_
    refine Wn ?_
    refine Wn ?_
    refine Wn ?_
    refine Wn ?_
    refine Wn ?_
    refine Wy (.d (.lit (.bool false))) [] (OpF rfl) ?_
    refine Wy (.d (.lit (.bool false))) [] (Omv rfl) ?_
    refine Wy (.d (.lit (.bool false))) [] (OpF rfl) ?_
    refine Wy (.d (.lit (.bool false))) [] (Omv rfl) ?_
    refine Walk.nil ?_
    refine Then.normal ?_
    refine AWP.ret ?_
    obtain rfl := Option.some.inj hm
    exact ret_i []

set_option maxRecDepth 20000 in
set_option maxHeartbeats 4000000 in
theorem ok_telltalelaw26_Own (p0 : (List GChange)) (r : (List GChange)) (h : m_telltalelaw26_Own p0 = some r) : GCall Try.prog 7 [(.d (.sl (List.length p0) (flatD enc_GChange p0)))] [] (.own 0) [(.arr 43 3 (List.length r) (flatD enc_GChange r))] := by
  refine GCall.of_body (n := 19) (rs := [(.tmp 2)]) Try.func7 rfl rfl rfl ?_
  refine Ato ⟨((.d (.sl (List.length p0) (flatD enc_GChange p0))) :: (tu 18 [])), [], 0⟩ ?_
  have hm := h
  unfold m_telltalelaw26_Own at hm
  refine AWP.seq ?_
  refine AWP.text ?_
  refine Wy (.d .nil) [] (Omv rfl) ?_
  refine Walk.nil ?_
  refine Then.normal ?_
  refine Amk 1 0 ⟨((.d (.sl (List.length p0) (flatD enc_GChange p0))) :: (tp 18 [])), [], 0⟩ ?_
  refine AWP.seq ?_
  refine AWP.text ?_
  refine Wy (.d .nil) [] (Omv rfl) ?_
  refine Walk.nil ?_
  refine Then.normal ?_
  refine Amk 9 0 ⟨((.d (.sl (List.length p0) (flatD enc_GChange p0))) :: (tp 2 ((.d .nil) :: (tp 15 [])))), [], 0⟩ ?_
  refine AWP.seq ?_
  refine AWP.seq ?_
  refine AWP.text ?_
  refine Wy (.d (.lit (.int .i64 0))) [] (Omv rfl) ?_
  refine Walk.nil ?_
  refine Then.normal ?_
  refine Amk 25 0 ⟨((.d (.sl (List.length p0) (flatD enc_GChange p0))) :: (tp 2 ((.d .nil) :: ((.d (.lit (.int .i64 0))) :: (tp 14 []))))), [], 0⟩ ?_
  refine AWP.block ?_
  refine Aow 3 43 3 ⟨((.d (.sl (List.length p0) (flatD enc_GChange p0))) :: (tp 2 ((.own 0) :: ((.d (.lit (.int .i64 0))) :: (tp 14 []))))), [(.arr 43 3 (List.length ([] : List GChange)) (flatD enc_GChange ([] : List GChange)))], 0⟩ ?_
  refine AWP.loopI (α := Nat × (List GChange) × Int)
    (fun x => match x with | (fu_0, y3_0, y4_0) => (⟨((.d (.sl (List.length p0) (flatD enc_GChange p0))) :: (tp 2 ((.own 0) :: ((.d (.lit (.int .i64 y4_0))) :: (tp 14 []))))), [(.arr 43 3 (List.length y3_0) (flatD enc_GChange y3_0))], 0⟩ : St))
    (fun x => match x with | (fu_0, y3_0, y4_0) => m_telltalelaw26_Own_l0 p0 fu_0 y3_0 y4_0 = some r)
    (fun x => match x with | (fu_0, y3_0, y4_0) => fu_0) (1152921504606846976, ([] : List GChange), 0)
    (Weak.toK 25 0 0 [0]) hm ?_
  rintro ⟨fu_0, y3_0, y4_0⟩ n_0 hm ih_0
  try dsimp only at hm ih_0 ⊢
  cases fu_0 with
  | zero => exact absurd hm (by unfold m_telltalelaw26_Own_l0; simp)
  | succ fu_0 =>
    unfold m_telltalelaw26_Own_l0 at hm
    refine AWP.seq ?_
    refine AWP.seq ?_
    refine AWP.text ?_
    refine Wy (.d (.lit (.int .i64 y4_0))) [] (Omv rfl) ?_
    refine Wy (.d (.sl (List.length p0) (flatD enc_GChange p0))) [] (Omv rfl) ?_
    refine Wy (.d (.lit (.int .i64 ((List.length p0 : Nat) : Int)))) [] (Oln rfl) ?_
    refine Wy (.d (.lit (.bool (decide (y4_0 < ((List.length p0 : Nat) : Int)))))) [] (Obn rfl (fun _ => hb_lss (k := .i64))) ?_
    refine Walk.nil ?_
    refine Then.normal ?_
    refine Amk 281 1 ⟨((.d (.sl (List.length p0) (flatD enc_GChange p0))) :: (tp 2 ((.own 0) :: ((.d (.lit (.int .i64 y4_0))) :: (tp 3 ((.d (.lit (.bool (decide (y4_0 < ((List.length p0 : Nat) : Int)))))) :: (tp 10 []))))))), [(.arr 43 3 (List.length y3_0) (flatD enc_GChange y3_0))], 0⟩ ?_
    rcases tf_ (decide (y4_0 < ((List.length p0 : Nat) : Int))) with hc8_3 | hc8_3
    · replace hm := cT hc8_3 hm
      refine AWP.if_ true (Eq.trans (by kernel_rfl) (lit_tf (b := decide (y4_0 < ((List.length p0 : Nat) : Int))) hc8_3)) ?_
      refine AWP.skip ?_
      refine Then.normal ?_
      refine Amk 25 1 ⟨((.d (.sl (List.length p0) (flatD enc_GChange p0))) :: (tp 2 ((.own 0) :: ((.d (.lit (.int .i64 y4_0))) :: (tp 14 []))))), [(.arr 43 3 (List.length y3_0) (flatD enc_GChange y3_0))], 0⟩ ?_
      refine AWP.seq ?_
      refine AWP.block ?_
      refine AWP.text ?_
      refine Wy (.own 0) [] (Omv rfl) ?_
      refine Wy (.d (.sl (List.length p0) (flatD enc_GChange p0))) [] (Omv rfl) ?_
      refine Wy (.d (.lit (.int .i64 y4_0))) [] (Omv rfl) ?_
      obtain ⟨x14_2, hx14_2, hm⟩ := bnd hm
      obtain ⟨hx14_2i, hx14_2g⟩ := geti_some hx14_2
      refine Wy (.d (.ref (List.drop ((Int.toNat y4_0) * 3) (flatD enc_GChange p0)))) [] (Oia rfl enc_GChange_len hx14_2i hx14_2g) ?_
      refine Wy (.agg [(.d (.lit (.int .i64 x14_2.Loc))), (.d (.lit (.int .i64 x14_2.Time))), (.d (.lit (.int .i64 x14_2.N)))]) [] (Lf rfl enc_GChange_len hx14_2g) ?_
      refine Wy (.own 1) [(1, (.arr 43 3 (List.length ([x14_2] : List GChange)) (flatD enc_GChange ([x14_2] : List GChange))))] (Obs rfl) ?_
      obtain ⟨a17_2, ha17_2, hm⟩ := bnd hm; obtain ⟨ha17_2e, ha17_2l⟩ := app_some ha17_2
      refine Wy (.own 2) [(0, .gone), (2, (.arr 43 3 (List.length a17_2) (flatD enc_GChange a17_2)))] (Oap rfl elemOK_27 enc_GChange_len ha17_2e ha17_2l) ?_
      refine Wy (.own 2) [] (Omv rfl) ?_
      refine Walk.nil ?_
      refine InBlock.normal ?_
      refine Then.normal ?_
      refine Amk 25 4 ⟨((.d (.sl (List.length p0) (flatD enc_GChange p0))) :: (tp 2 ((.own 2) :: ((.d (.lit (.int .i64 y4_0))) :: (tp 14 []))))), [.gone, .gone, (.arr 43 3 (List.length a17_2) (flatD enc_GChange a17_2))], 0⟩ ?_
      refine AWP.text ?_
      refine Wy (.d (.lit (.int .i64 y4_0))) [] (Omv rfl) ?_
      refine Wy (.d (.lit (.int .i64 (IntKind.i64.wrap (y4_0 + 1))))) [] (Obn rfl (fun _ => hb_add (k := .i64))) ?_
      refine Wy (.d (.lit (.int .i64 (IntKind.i64.wrap (y4_0 + 1))))) [] (Omv rfl) ?_
      refine Walk.nil ?_
      refine RoundK.normal ?_
      exact Rounds.weak (Weak.toK 25 0 0 [2]) (ih_0 (fu_0, a17_2, (IntKind.i64.wrap (y4_0 + 1))) hm (Nat.lt_succ_self _))
    · replace hm := cF hc8_3 hm
      refine AWP.if_ false (Eq.trans (by kernel_rfl) (lit_tf (b := decide (y4_0 < ((List.length p0 : Nat) : Int))) hc8_3)) ?_
      refine AWP.exit ?_
      refine Then.exit ?_
      refine RoundK.exit ?_
      refine InBlock.same ?_
      refine Then.normal ?_
      refine Amk 8 1 ⟨(tp 3 ((.own 0) :: (tp 15 []))), [(.arr 43 3 (List.length y3_0) (flatD enc_GChange y3_0))], 0⟩ ?_
      refine AWP.seq ?_
      refine AWP.text ?_
      refine Wy (.own 0) [] (Omv rfl) ?_
      refine Wy (.own 0) [] (Omv rfl) ?_
      refine Walk.nil ?_
      refine Then.normal ?_
      refine AWP.ret ?_
      obtain rfl := Option.some.inj hm
      exact ret_i [0]

set_option maxRecDepth 20000 in
set_option maxHeartbeats 4000000 in
theorem ok_telltaleref27_Leads (p0 : Int) (p1 : Int) (r : Bool) (h : m_telltaleref27_Leads p0 p1 = some r) : GCall Try.prog 16 [(.d (.lit (.int .i64 p0))), (.d (.lit (.int .i64 p1)))] [] (.d (.lit (.bool r))) [] := by
  refine GCall.of_body (n := 16) (rs := [(.tmp 4)]) Try.func16 rfl rfl rfl ?_
  refine Ato ⟨((.d (.lit (.int .i64 p0))) :: ((.d (.lit (.int .i64 p1))) :: (tu 14 []))), [], 0⟩ ?_
  have hm := h
  unfold m_telltaleref27_Leads at hm
  refine AWP.seq ?_
  refine AWP.text ?_
  refine Wy (.d (.lit (.bool false))) [] (Omv rfl) ?_
  refine Walk.nil ?_
  refine Then.normal ?_
  refine Amk 3 0 ⟨((.d (.lit (.int .i64 p0))) :: ((.d (.lit (.int .i64 p1))) :: (tp 14 []))), [], 0⟩ ?_
  refine AWP.seq ?_
  refine AWP.text ?_
  refine Wy (.d (.lit (.int .i64 p0))) [] (Omv rfl) ?_
  refine Wy (.d (.lit (.bool (decide ((0 : Int) ≤ p0))))) [] (Obn rfl (fun _ => hb_geq (k := .i64))) ?_
  rcases tf_ (decide ((0 : Int) ≤ p0)) with hq7_0 | hq7_0
  · replace hm := cT hq7_0 hm
    refine Wy (.d (.lit (.bool true))) [] (Ocs (lit_tf (b := decide ((0 : Int) ≤ p0)) hq7_0) (Omv rfl)) ?_
    refine Wy (.d (.lit (.int .i64 p0))) [] (Omv rfl) ?_
    refine Wy (.d (.lit (.int .i64 p1))) [] (Omv rfl) ?_
    refine Wy (.d (.lit (.bool (decide (p0 ≤ p1))))) [] (Obn rfl (fun _ => hb_leq (k := .i64))) ?_
    refine Wy (.d (.lit (.bool (decide (p0 ≤ p1))))) [] (OpT rfl) ?_
    rcases tf_ (decide (p0 ≤ p1)) with hq12_0 | hq12_0
    · replace hm := cT hq12_0 hm
      refine Wy (.d (.lit (.bool true))) [] (Ocs (lit_tf (b := decide (p0 ≤ p1)) hq12_0) (Omv rfl)) ?_
      refine Wy (.d (.lit (.int .i64 p1))) [] (Omv rfl) ?_
      refine Wy (.d (.lit (.bool (decide (p1 ≤ 3))))) [] (Obn rfl (fun _ => hb_leq (k := .i64))) ?_
      refine Wy (.d (.lit (.bool (decide (p1 ≤ 3))))) [] (OpT rfl) ?_
      refine Wy (.d (.lit (.bool (decide (p1 ≤ 3))))) [] (Omv rfl) ?_
      refine Walk.nil ?_
      refine Then.normal ?_
      refine AWP.ret ?_
      obtain rfl := Option.some.inj hm
      exact ret_i []
    · replace hm := cF hq12_0 hm
      refine Wy (.d (.lit (.bool false))) [] (Ocs (lit_tf (b := decide (p0 ≤ p1)) hq12_0) (Omv rfl)) ?_
      refine Wn ?_
      refine Wn ?_
      refine Wy (.d (.lit (.bool false))) [] (OpF rfl) ?_
      refine Wy (.d (.lit (.bool false))) [] (Omv rfl) ?_
      refine Walk.nil ?_
      refine Then.normal ?_
      refine AWP.ret ?_
      obtain rfl := Option.some.inj hm
      exact ret_i []
  · replace hm := cF hq7_0 hm
    refine Wy (.d (.lit (.bool false))) [] (Ocs (lit_tf (b := decide ((0 : Int) ≤ p0)) hq7_0) (Omv rfl)) ?_
    refine Wn ?_
    refine Wn ?_
    refine Wn ?_
    refine Wy (.d (.lit (.bool false))) [] (OpF rfl) ?_
    refine Wy (.d (.lit (.bool false))) [] (Omv rfl) ?_
    refine Wn ?_
    refine Wn ?_
    refine Wy (.d (.lit (.bool false))) [] (OpF rfl) ?_
    refine Wy (.d (.lit (.bool false))) [] (Omv rfl) ?_
    refine Walk.nil ?_
    refine Then.normal ?_
    refine AWP.ret ?_
    obtain rfl := Option.some.inj hm
    exact ret_i []

set_option maxRecDepth 20000 in
set_option maxHeartbeats 4000000 in
theorem ok_telltaleref26_At (p0 : (List GChange)) (p1 : Int) (p2 : Int) (r : Int) (h : m_telltaleref26_At p0 p1 p2 = some r) : GCall Try.prog 21 [(.d (.sl (List.length p0) (flatD enc_GChange p0))), (.d (.lit (.int .i64 p1))), (.d (.lit (.int .i64 p2)))] [] (.d (.lit (.int .i64 r))) [] := by
  refine GCall.of_body (n := 39) (rs := [(.tmp 6)]) Try.func21 rfl rfl rfl ?_
  refine Ato ⟨((.d (.sl (List.length p0) (flatD enc_GChange p0))) :: ((.d (.lit (.int .i64 p1))) :: ((.d (.lit (.int .i64 p2))) :: (tu 36 [])))), [], 0⟩ ?_
  have hm := h
  unfold m_telltaleref26_At at hm
  refine AWP.seq ?_
  refine AWP.text ?_
  refine Wy (.d (.lit (.int .i64 0))) [] (Omv rfl) ?_
  refine Walk.nil ?_
  refine Then.normal ?_
  refine Amk 7 0 ⟨((.d (.sl (List.length p0) (flatD enc_GChange p0))) :: ((.d (.lit (.int .i64 p1))) :: ((.d (.lit (.int .i64 p2))) :: (tp 36 [])))), [], 0⟩ ?_
  refine AWP.seq ?_
  refine AWP.text ?_
  refine Wy (.d (.lit (.int .i64 0))) [] (Omv rfl) ?_
  refine Walk.nil ?_
  refine Then.normal ?_
  refine Amk 135 0 ⟨((.d (.sl (List.length p0) (flatD enc_GChange p0))) :: ((.d (.lit (.int .i64 p1))) :: ((.d (.lit (.int .i64 p2))) :: (tp 4 ((.d (.lit (.int .i64 0))) :: (tp 31 [])))))), [], 0⟩ ?_
  refine AWP.seq ?_
  refine AWP.seq ?_
  refine AWP.text ?_
  refine Wy (.d (.lit (.int .i64 0))) [] (Omv rfl) ?_
  refine Walk.nil ?_
  refine Then.normal ?_
  refine Amk 391 0 ⟨((.d (.sl (List.length p0) (flatD enc_GChange p0))) :: ((.d (.lit (.int .i64 p1))) :: ((.d (.lit (.int .i64 p2))) :: (tp 4 ((.d (.lit (.int .i64 0))) :: ((.d (.lit (.int .i64 0))) :: (tp 30 []))))))), [], 0⟩ ?_
  refine AWP.block ?_
  refine AWP.loopI (α := Nat × Int × Int)
    (fun x => match x with | (fu_0, y7_0, y8_0) => (⟨((.d (.sl (List.length p0) (flatD enc_GChange p0))) :: ((.d (.lit (.int .i64 p1))) :: ((.d (.lit (.int .i64 p2))) :: (tp 4 ((.d (.lit (.int .i64 y7_0))) :: ((.d (.lit (.int .i64 y8_0))) :: (tp 30 []))))))), [], 0⟩ : St))
    (fun x => match x with | (fu_0, y7_0, y8_0) => m_telltaleref26_At_l0 p0 p1 p2 fu_0 y7_0 y8_0 = some r)
    (fun x => match x with | (fu_0, y7_0, y8_0) => fu_0) (1152921504606846976, 0, 0)
    (Weak.toK 391 0 0 []) hm ?_
  rintro ⟨fu_0, y7_0, y8_0⟩ n_0 hm ih_0
  try dsimp only at hm ih_0 ⊢
  cases fu_0 with
  | zero => exact absurd hm (by unfold m_telltaleref26_At_l0; simp)
  | succ fu_0 =>
    unfold m_telltaleref26_At_l0 at hm
    refine AWP.seq ?_
    refine AWP.seq ?_
    refine AWP.text ?_
    refine Wy (.d (.lit (.int .i64 y8_0))) [] (Omv rfl) ?_
    refine Wy (.d (.sl (List.length p0) (flatD enc_GChange p0))) [] (Omv rfl) ?_
    refine Wy (.d (.lit (.int .i64 ((List.length p0 : Nat) : Int)))) [] (Oln rfl) ?_
    refine Wy (.d (.lit (.bool (decide (y8_0 < ((List.length p0 : Nat) : Int)))))) [] (Obn rfl (fun _ => hb_lss (k := .i64))) ?_
    refine Walk.nil ?_
    refine Then.normal ?_
    refine Amk 4487 0 ⟨((.d (.sl (List.length p0) (flatD enc_GChange p0))) :: ((.d (.lit (.int .i64 p1))) :: ((.d (.lit (.int .i64 p2))) :: (tp 4 ((.d (.lit (.int .i64 y7_0))) :: ((.d (.lit (.int .i64 y8_0))) :: (tp 3 ((.d (.lit (.bool (decide (y8_0 < ((List.length p0 : Nat) : Int)))))) :: (tp 26 []))))))))), [], 0⟩ ?_
    rcases tf_ (decide (y8_0 < ((List.length p0 : Nat) : Int))) with hc12_4 | hc12_4
    · replace hm := cT hc12_4 hm
      refine AWP.if_ true (Eq.trans (by kernel_rfl) (lit_tf (b := decide (y8_0 < ((List.length p0 : Nat) : Int))) hc12_4)) ?_
      refine AWP.skip ?_
      refine Then.normal ?_
      refine Amk 391 0 ⟨((.d (.sl (List.length p0) (flatD enc_GChange p0))) :: ((.d (.lit (.int .i64 p1))) :: ((.d (.lit (.int .i64 p2))) :: (tp 4 ((.d (.lit (.int .i64 y7_0))) :: ((.d (.lit (.int .i64 y8_0))) :: (tp 30 []))))))), [], 0⟩ ?_
      refine AWP.seq ?_
      refine AWP.block ?_
      refine AWP.seq ?_
      refine AWP.text ?_
      refine Wy (.d (.sl (List.length p0) (flatD enc_GChange p0))) [] (Omv rfl) ?_
      refine Wy (.d (.lit (.int .i64 y8_0))) [] (Omv rfl) ?_
      obtain ⟨x17_2, hx17_2, hm⟩ := bnd hm
      obtain ⟨hx17_2i, hx17_2g⟩ := geti_some hx17_2
      refine Wy (.d (.ref (List.drop ((Int.toNat y8_0) * 3) (flatD enc_GChange p0)))) [] (Oia rfl enc_GChange_len hx17_2i hx17_2g) ?_
      refine Wy (.d (.ref (List.drop ((Int.toNat y8_0) * 3) (flatD enc_GChange p0)))) [] (Ofa rfl) ?_
      refine Wy (.d (.lit (.int .i64 x17_2.Loc))) [] (Lf1 rfl enc_GChange_len hx17_2g) ?_
      refine Wy (.d (.lit (.int .i64 p1))) [] (Omv rfl) ?_
      refine Wy (.d (.lit (.bool (decide (x17_2.Loc = p1))))) [] (Obn rfl (fun _ => hb_eql (k := .i64))) ?_
      rcases tf_ (decide (x17_2.Loc = p1)) with hq22_2 | hq22_2
      · replace hm := cT hq22_2 hm
        refine Wy (.d (.lit (.bool true))) [] (Ocs (lit_tf (b := decide (x17_2.Loc = p1)) hq22_2) (Omv rfl)) ?_
        refine Wy (.d (.sl (List.length p0) (flatD enc_GChange p0))) [] (Omv rfl) ?_
        refine Wy (.d (.lit (.int .i64 y8_0))) [] (Omv rfl) ?_
        obtain ⟨x25_2, hx25_2, hm⟩ := bnd hm
        obtain ⟨hx25_2i, hx25_2g⟩ := geti_some hx25_2
        refine Wy (.d (.ref (List.drop ((Int.toNat y8_0) * 3) (flatD enc_GChange p0)))) [] (Oia rfl enc_GChange_len hx25_2i hx25_2g) ?_
        refine Wy (.d (.ref (List.drop 1 (List.drop ((Int.toNat y8_0) * 3) (flatD enc_GChange p0))))) [] (Ofa rfl) ?_
        refine Wy (.d (.lit (.int .i64 x25_2.Time))) [] (Lfk1 1 rfl enc_GChange_len hx25_2g) ?_
        refine Wy (.d (.lit (.int .i64 p2))) [] (Omv rfl) ?_
        refine Wy (.d (.lit (.bool (decide (x25_2.Time = p2))))) [] (Obn rfl (fun _ => hb_eql (k := .i64))) ?_
        refine Wy (.d (.lit (.bool (decide (x25_2.Time = p2))))) [] (OpT rfl) ?_
        refine Walk.nil ?_
        refine Then.normal ?_
        refine Amk 1073742215 0 ⟨((.d (.sl (List.length p0) (flatD enc_GChange p0))) :: ((.d (.lit (.int .i64 p1))) :: ((.d (.lit (.int .i64 p2))) :: (tp 4 ((.d (.lit (.int .i64 y7_0))) :: ((.d (.lit (.int .i64 y8_0))) :: (tp 21 ((.d (.lit (.bool (decide (x25_2.Time = p2))))) :: (tp 8 []))))))))), [], 0⟩ ?_
        rcases tf_ (decide (x25_2.Time = p2)) with hc30_5 | hc30_5
        · replace hm := cT hc30_5 hm
          refine AWP.if_ true (Eq.trans (by kernel_rfl) (lit_tf (b := decide (x25_2.Time = p2)) hc30_5)) ?_
          refine AWP.text ?_
          refine Wy (.d (.lit (.int .i64 y7_0))) [] (Omv rfl) ?_
          refine Wy (.d (.sl (List.length p0) (flatD enc_GChange p0))) [] (Omv rfl) ?_
          refine Wy (.d (.lit (.int .i64 y8_0))) [] (Omv rfl) ?_
          obtain ⟨x34_3, hx34_3, hm⟩ := bnd hm
          obtain ⟨hx34_3i, hx34_3g⟩ := geti_some hx34_3
          refine Wy (.d (.ref (List.drop ((Int.toNat y8_0) * 3) (flatD enc_GChange p0)))) [] (Oia rfl enc_GChange_len hx34_3i hx34_3g) ?_
          refine Wy (.d (.ref (List.drop 2 (List.drop ((Int.toNat y8_0) * 3) (flatD enc_GChange p0))))) [] (Ofa rfl) ?_
          refine Wy (.d (.lit (.int .i64 x34_3.N))) [] (Lfk1 2 rfl enc_GChange_len hx34_3g) ?_
          refine Wy (.d (.lit (.int .i64 (IntKind.i64.wrap (y7_0 + x34_3.N))))) [] (Obn rfl (fun _ => hb_add (k := .i64))) ?_
          refine Wy (.d (.lit (.int .i64 (IntKind.i64.wrap (y7_0 + x34_3.N))))) [] (Omv rfl) ?_
          refine Walk.nil ?_
          refine InBlock.normal ?_
          refine Then.normal ?_
          refine Amk 391 0 ⟨((.d (.sl (List.length p0) (flatD enc_GChange p0))) :: ((.d (.lit (.int .i64 p1))) :: ((.d (.lit (.int .i64 p2))) :: (tp 4 ((.d (.lit (.int .i64 (IntKind.i64.wrap (y7_0 + x34_3.N))))) :: ((.d (.lit (.int .i64 y8_0))) :: (tp 30 []))))))), [], 0⟩ ?_
          refine AWP.text ?_
          refine Wy (.d (.lit (.int .i64 y8_0))) [] (Omv rfl) ?_
          refine Wy (.d (.lit (.int .i64 (IntKind.i64.wrap (y8_0 + 1))))) [] (Obn rfl (fun _ => hb_add (k := .i64))) ?_
          refine Wy (.d (.lit (.int .i64 (IntKind.i64.wrap (y8_0 + 1))))) [] (Omv rfl) ?_
          refine Walk.nil ?_
          refine RoundK.normal ?_
          exact Rounds.weak (Weak.toK 391 0 0 []) (ih_0 (fu_0, (IntKind.i64.wrap (y7_0 + x34_3.N)), (IntKind.i64.wrap (y8_0 + 1))) hm (Nat.lt_succ_self _))
        · replace hm := cF hc30_5 hm
          refine AWP.if_ false (Eq.trans (by kernel_rfl) (lit_tf (b := decide (x25_2.Time = p2)) hc30_5)) ?_
          refine AWP.skip ?_
          refine InBlock.normal ?_
          refine Then.normal ?_
          refine Amk 391 0 ⟨((.d (.sl (List.length p0) (flatD enc_GChange p0))) :: ((.d (.lit (.int .i64 p1))) :: ((.d (.lit (.int .i64 p2))) :: (tp 4 ((.d (.lit (.int .i64 y7_0))) :: ((.d (.lit (.int .i64 y8_0))) :: (tp 30 []))))))), [], 0⟩ ?_
          refine AWP.text ?_
          refine Wy (.d (.lit (.int .i64 y8_0))) [] (Omv rfl) ?_
          refine Wy (.d (.lit (.int .i64 (IntKind.i64.wrap (y8_0 + 1))))) [] (Obn rfl (fun _ => hb_add (k := .i64))) ?_
          refine Wy (.d (.lit (.int .i64 (IntKind.i64.wrap (y8_0 + 1))))) [] (Omv rfl) ?_
          refine Walk.nil ?_
          refine RoundK.normal ?_
          exact Rounds.weak (Weak.toK 391 0 0 []) (ih_0 (fu_0, y7_0, (IntKind.i64.wrap (y8_0 + 1))) hm (Nat.lt_succ_self _))
      · replace hm := cF hq22_2 hm
        refine Wy (.d (.lit (.bool false))) [] (Ocs (lit_tf (b := decide (x17_2.Loc = p1)) hq22_2) (Omv rfl)) ?_
        refine Wn ?_
        refine Wn ?_
        refine Wn ?_
        refine Wn ?_
        refine Wn ?_
        refine Wn ?_
        refine Wn ?_
        refine Wy (.d (.lit (.bool false))) [] (OpF rfl) ?_
        refine Walk.nil ?_
        refine Then.normal ?_
        refine Amk 1073742215 0 ⟨((.d (.sl (List.length p0) (flatD enc_GChange p0))) :: ((.d (.lit (.int .i64 p1))) :: ((.d (.lit (.int .i64 p2))) :: (tp 4 ((.d (.lit (.int .i64 y7_0))) :: ((.d (.lit (.int .i64 y8_0))) :: (tp 21 ((.d (.lit (.bool false))) :: (tp 8 []))))))))), [], 0⟩ ?_
        refine AWP.if_ false (by kernel_rfl) ?_
        refine AWP.skip ?_
        refine InBlock.normal ?_
        refine Then.normal ?_
        refine Amk 391 0 ⟨((.d (.sl (List.length p0) (flatD enc_GChange p0))) :: ((.d (.lit (.int .i64 p1))) :: ((.d (.lit (.int .i64 p2))) :: (tp 4 ((.d (.lit (.int .i64 y7_0))) :: ((.d (.lit (.int .i64 y8_0))) :: (tp 30 []))))))), [], 0⟩ ?_
        refine AWP.text ?_
        refine Wy (.d (.lit (.int .i64 y8_0))) [] (Omv rfl) ?_
        refine Wy (.d (.lit (.int .i64 (IntKind.i64.wrap (y8_0 + 1))))) [] (Obn rfl (fun _ => hb_add (k := .i64))) ?_
        refine Wy (.d (.lit (.int .i64 (IntKind.i64.wrap (y8_0 + 1))))) [] (Omv rfl) ?_
        refine Walk.nil ?_
        refine RoundK.normal ?_
        exact Rounds.weak (Weak.toK 391 0 0 []) (ih_0 (fu_0, y7_0, (IntKind.i64.wrap (y8_0 + 1))) hm (Nat.lt_succ_self _))
    · replace hm := cF hc12_4 hm
      refine AWP.if_ false (Eq.trans (by kernel_rfl) (lit_tf (b := decide (y8_0 < ((List.length p0 : Nat) : Int))) hc12_4)) ?_
      refine AWP.exit ?_
      refine Then.exit ?_
      refine RoundK.exit ?_
      refine InBlock.same ?_
      refine Then.normal ?_
      refine Amk 128 0 ⟨(tp 7 ((.d (.lit (.int .i64 y7_0))) :: (tp 31 []))), [], 0⟩ ?_
      refine AWP.seq ?_
      refine AWP.text ?_
      refine Wy (.d (.lit (.int .i64 y7_0))) [] (Omv rfl) ?_
      refine Wy (.d (.lit (.int .i64 y7_0))) [] (Omv rfl) ?_
      refine Walk.nil ?_
      refine Then.normal ?_
      refine AWP.ret ?_
      obtain rfl := Option.some.inj hm
      exact ret_i []

set_option maxRecDepth 20000 in
set_option maxHeartbeats 4000000 in
theorem ok_telltaleref27_Of (p0 : (List GChange)) (p1 : Int) (r : Int) (h : m_telltaleref27_Of p0 p1 = some r) : GCall Try.prog 9 [(.d (.sl (List.length p0) (flatD enc_GChange p0))), (.d (.lit (.int .i64 p1)))] [] (.d (.lit (.int .i64 r))) [] := by
  refine GCall.of_body (n := 44) (rs := [(.tmp 4)]) Try.func9 rfl rfl rfl ?_
  refine Ato ⟨((.d (.sl (List.length p0) (flatD enc_GChange p0))) :: ((.d (.lit (.int .i64 p1))) :: (tu 42 []))), [], 0⟩ ?_
  have hm := h
  unfold m_telltaleref27_Of at hm
  refine AWP.seq ?_
  refine AWP.text ?_
  refine Wy (.d (.lit (.int .i64 0))) [] (Omv rfl) ?_
  refine Walk.nil ?_
  refine Then.normal ?_
  refine Amk 3 0 ⟨((.d (.sl (List.length p0) (flatD enc_GChange p0))) :: ((.d (.lit (.int .i64 p1))) :: (tp 42 []))), [], 0⟩ ?_
  refine AWP.seq ?_
  refine AWP.text ?_
  refine Wy (.d (.lit (.int .i64 1099511627777))) [] (Omv rfl) ?_
  refine Walk.nil ?_
  refine Then.normal ?_
  refine Amk 35 0 ⟨((.d (.sl (List.length p0) (flatD enc_GChange p0))) :: ((.d (.lit (.int .i64 p1))) :: (tp 3 ((.d (.lit (.int .i64 1099511627777))) :: (tp 38 []))))), [], 0⟩ ?_
  refine AWP.seq ?_
  refine AWP.seq ?_
  refine AWP.text ?_
  refine Wy (.d (.lit (.int .i64 0))) [] (Omv rfl) ?_
  refine Walk.nil ?_
  refine Then.normal ?_
  refine Amk 99 0 ⟨((.d (.sl (List.length p0) (flatD enc_GChange p0))) :: ((.d (.lit (.int .i64 p1))) :: (tp 3 ((.d (.lit (.int .i64 1099511627777))) :: ((.d (.lit (.int .i64 0))) :: (tp 37 [])))))), [], 0⟩ ?_
  refine AWP.block ?_
  refine AWP.loopI (α := Nat × Int × Int)
    (fun x => match x with | (fu_0, y5_0, y6_0) => (⟨((.d (.sl (List.length p0) (flatD enc_GChange p0))) :: ((.d (.lit (.int .i64 p1))) :: (tp 3 ((.d (.lit (.int .i64 y5_0))) :: ((.d (.lit (.int .i64 y6_0))) :: (tp 37 [])))))), [], 0⟩ : St))
    (fun x => match x with | (fu_0, y5_0, y6_0) => m_telltaleref27_Of_l0 p0 p1 fu_0 y5_0 y6_0 = some r)
    (fun x => match x with | (fu_0, y5_0, y6_0) => fu_0) (1152921504606846976, 1099511627777, 0)
    (Weak.toK 99 0 0 []) hm ?_
  rintro ⟨fu_0, y5_0, y6_0⟩ n_0 hm ih_0
  try dsimp only at hm ih_0 ⊢
  cases fu_0 with
  | zero => exact absurd hm (by unfold m_telltaleref27_Of_l0; simp)
  | succ fu_0 =>
    unfold m_telltaleref27_Of_l0 at hm
    refine AWP.seq ?_
    refine AWP.seq ?_
    refine AWP.text ?_
    refine Wy (.d (.lit (.int .i64 y6_0))) [] (Omv rfl) ?_
    refine Wy (.d (.sl (List.length p0) (flatD enc_GChange p0))) [] (Omv rfl) ?_
    refine Wy (.d (.lit (.int .i64 ((List.length p0 : Nat) : Int)))) [] (Oln rfl) ?_
    refine Wy (.d (.lit (.bool (decide (y6_0 < ((List.length p0 : Nat) : Int)))))) [] (Obn rfl (fun _ => hb_lss (k := .i64))) ?_
    refine Walk.nil ?_
    refine Then.normal ?_
    refine Amk 1123 0 ⟨((.d (.sl (List.length p0) (flatD enc_GChange p0))) :: ((.d (.lit (.int .i64 p1))) :: (tp 3 ((.d (.lit (.int .i64 y5_0))) :: ((.d (.lit (.int .i64 y6_0))) :: (tp 3 ((.d (.lit (.bool (decide (y6_0 < ((List.length p0 : Nat) : Int)))))) :: (tp 33 [])))))))), [], 0⟩ ?_
    rcases tf_ (decide (y6_0 < ((List.length p0 : Nat) : Int))) with hc10_5 | hc10_5
    · replace hm := cT hc10_5 hm
      refine AWP.if_ true (Eq.trans (by kernel_rfl) (lit_tf (b := decide (y6_0 < ((List.length p0 : Nat) : Int))) hc10_5)) ?_
      refine AWP.skip ?_
      refine Then.normal ?_
      refine Amk 99 0 ⟨((.d (.sl (List.length p0) (flatD enc_GChange p0))) :: ((.d (.lit (.int .i64 p1))) :: (tp 3 ((.d (.lit (.int .i64 y5_0))) :: ((.d (.lit (.int .i64 y6_0))) :: (tp 37 [])))))), [], 0⟩ ?_
      refine AWP.seq ?_
      refine AWP.block ?_
      refine AWP.seq ?_
      refine Adr ?_
      refine Wy (.d (.sl (List.length p0) (flatD enc_GChange p0))) [] (Omv rfl) ?_
      refine Wy (.d (.lit (.int .i64 y6_0))) [] (Omv rfl) ?_
      obtain ⟨x15_2, hx15_2, hm⟩ := bnd hm
      obtain ⟨hx15_2i, hx15_2g⟩ := geti_some hx15_2
      refine Wy (.d (.ref (List.drop ((Int.toNat y6_0) * 3) (flatD enc_GChange p0)))) [] (Oia rfl enc_GChange_len hx15_2i hx15_2g) ?_
      refine Wy (.d (.ref (List.drop ((Int.toNat y6_0) * 3) (flatD enc_GChange p0)))) [] (Ofa rfl) ?_
      refine Wy (.d (.lit (.int .i64 x15_2.Loc))) [] (Lf1 rfl enc_GChange_len hx15_2g) ?_
      refine Wy (.d (.lit (.int .i64 p1))) [] (Omv rfl) ?_
      obtain ⟨r19_2, hr19_2, hm⟩ := bnd hm
      refine Wy (.d (.lit (.bool r19_2))) [] (Ocf [] [] [] 0 (ok_telltaleref27_Leads x15_2.Loc p1 r19_2 hr19_2) (fun a w => Try.call16 a w) rfl trivial) ?_
      rcases tf_ r19_2 with hq20_2 | hq20_2
      · replace hm := cT hq20_2 hm
        refine Wy (.d (.lit (.bool true))) [] (Ocs (lit_tf (b := r19_2) hq20_2) (Omv rfl)) ?_
        refine Wy (.d (.sl (List.length p0) (flatD enc_GChange p0))) [] (Omv rfl) ?_
        refine Wy (.d (.sl (List.length p0) (flatD enc_GChange p0))) [] (Omv rfl) ?_
        refine Wy (.d (.lit (.int .i64 y6_0))) [] (Omv rfl) ?_
        obtain ⟨x24_2, hx24_2, hm⟩ := bnd hm
        obtain ⟨hx24_2i, hx24_2g⟩ := geti_some hx24_2
        refine Wy (.d (.ref (List.drop ((Int.toNat y6_0) * 3) (flatD enc_GChange p0)))) [] (Oia rfl enc_GChange_len hx24_2i hx24_2g) ?_
        refine Wy (.d (.ref (List.drop ((Int.toNat y6_0) * 3) (flatD enc_GChange p0)))) [] (Ofa rfl) ?_
        refine Wy (.d (.lit (.int .i64 x24_2.Loc))) [] (Lf1 rfl enc_GChange_len hx24_2g) ?_
        refine Wy (.d (.sl (List.length p0) (flatD enc_GChange p0))) [] (Omv rfl) ?_
        refine Wy (.d (.lit (.int .i64 y6_0))) [] (Omv rfl) ?_
        obtain ⟨x29_2, hx29_2, hm⟩ := bnd hm
        obtain ⟨hx29_2i, hx29_2g⟩ := geti_some hx29_2
        refine Wy (.d (.ref (List.drop ((Int.toNat y6_0) * 3) (flatD enc_GChange p0)))) [] (Oia rfl enc_GChange_len hx29_2i hx29_2g) ?_
        refine Wy (.d (.ref (List.drop 1 (List.drop ((Int.toNat y6_0) * 3) (flatD enc_GChange p0))))) [] (Ofa rfl) ?_
        refine Wy (.d (.lit (.int .i64 x29_2.Time))) [] (Lfk1 1 rfl enc_GChange_len hx29_2g) ?_
        obtain ⟨r32_2, hr32_2, hm⟩ := bnd hm
        refine Wy (.d (.lit (.int .i64 r32_2))) [] (Ocf [] [] [] 0 (ok_telltaleref26_At p0 x24_2.Loc x29_2.Time r32_2 hr32_2) (fun a w => Try.call21 a w) rfl trivial) ?_
        refine Wy (.d (.lit (.bool (decide ((0 : Int) < r32_2))))) [] (Obn rfl (fun _ => hb_gtr (k := .i64))) ?_
        refine Wy (.d (.lit (.bool (decide ((0 : Int) < r32_2))))) [] (OpT rfl) ?_
        refine Wdr ?_
        refine Then.normal ?_
        refine Amk 17179869283 0 ⟨((.d (.sl (List.length p0) (flatD enc_GChange p0))) :: ((.d (.lit (.int .i64 p1))) :: (tp 3 ((.d (.lit (.int .i64 y5_0))) :: ((.d (.lit (.int .i64 y6_0))) :: (tp 27 ((.d (.lit (.bool (decide ((0 : Int) < r32_2))))) :: (tp 9 [])))))))), [], 0⟩ ?_
        rcases tf_ (decide ((0 : Int) < r32_2)) with hc34_6 | hc34_6
        · replace hm := cT hc34_6 hm
          refine AWP.if_ true (Eq.trans (by kernel_rfl) (lit_tf (b := decide ((0 : Int) < r32_2)) hc34_6)) ?_
          refine AWP.text ?_
          refine Wy (.d (.lit (.int .i64 y5_0))) [] (Omv rfl) ?_
          refine Wy (.d (.sl (List.length p0) (flatD enc_GChange p0))) [] (Omv rfl) ?_
          refine Wy (.d (.lit (.int .i64 y6_0))) [] (Omv rfl) ?_
          obtain ⟨x38_3, hx38_3, hm⟩ := bnd hm
          obtain ⟨hx38_3i, hx38_3g⟩ := geti_some hx38_3
          refine Wy (.d (.ref (List.drop ((Int.toNat y6_0) * 3) (flatD enc_GChange p0)))) [] (Oia rfl enc_GChange_len hx38_3i hx38_3g) ?_
          refine Wy (.d (.ref (List.drop 1 (List.drop ((Int.toNat y6_0) * 3) (flatD enc_GChange p0))))) [] (Ofa rfl) ?_
          refine Wy (.d (.lit (.int .i64 x38_3.Time))) [] (Lfk1 1 rfl enc_GChange_len hx38_3g) ?_
          refine Wy (.d (.lit (.int .i64 (min y5_0 x38_3.Time)))) [] (op_bi2 rfl (a1 := .int .i64 y5_0) (a2 := .int .i64 x38_3.Time) (by kernel_rfl) (by kernel_rfl) hb_min) ?_
          refine Wy (.d (.lit (.int .i64 (min y5_0 x38_3.Time)))) [] (Omv rfl) ?_
          refine Walk.nil ?_
          refine InBlock.normal ?_
          refine Then.normal ?_
          refine Amk 99 0 ⟨((.d (.sl (List.length p0) (flatD enc_GChange p0))) :: ((.d (.lit (.int .i64 p1))) :: (tp 3 ((.d (.lit (.int .i64 (min y5_0 x38_3.Time)))) :: ((.d (.lit (.int .i64 y6_0))) :: (tp 37 [])))))), [], 0⟩ ?_
          refine AWP.text ?_
          refine Wy (.d (.lit (.int .i64 y6_0))) [] (Omv rfl) ?_
          refine Wy (.d (.lit (.int .i64 (IntKind.i64.wrap (y6_0 + 1))))) [] (Obn rfl (fun _ => hb_add (k := .i64))) ?_
          refine Wy (.d (.lit (.int .i64 (IntKind.i64.wrap (y6_0 + 1))))) [] (Omv rfl) ?_
          refine Walk.nil ?_
          refine RoundK.normal ?_
          exact Rounds.weak (Weak.toK 99 0 0 []) (ih_0 (fu_0, (min y5_0 x38_3.Time), (IntKind.i64.wrap (y6_0 + 1))) hm (Nat.lt_succ_self _))
        · replace hm := cF hc34_6 hm
          refine AWP.if_ false (Eq.trans (by kernel_rfl) (lit_tf (b := decide ((0 : Int) < r32_2)) hc34_6)) ?_
          refine AWP.skip ?_
          refine InBlock.normal ?_
          refine Then.normal ?_
          refine Amk 99 0 ⟨((.d (.sl (List.length p0) (flatD enc_GChange p0))) :: ((.d (.lit (.int .i64 p1))) :: (tp 3 ((.d (.lit (.int .i64 y5_0))) :: ((.d (.lit (.int .i64 y6_0))) :: (tp 37 [])))))), [], 0⟩ ?_
          refine AWP.text ?_
          refine Wy (.d (.lit (.int .i64 y6_0))) [] (Omv rfl) ?_
          refine Wy (.d (.lit (.int .i64 (IntKind.i64.wrap (y6_0 + 1))))) [] (Obn rfl (fun _ => hb_add (k := .i64))) ?_
          refine Wy (.d (.lit (.int .i64 (IntKind.i64.wrap (y6_0 + 1))))) [] (Omv rfl) ?_
          refine Walk.nil ?_
          refine RoundK.normal ?_
          exact Rounds.weak (Weak.toK 99 0 0 []) (ih_0 (fu_0, y5_0, (IntKind.i64.wrap (y6_0 + 1))) hm (Nat.lt_succ_self _))
      · replace hm := cF hq20_2 hm
        refine Wy (.d (.lit (.bool false))) [] (Ocs (lit_tf (b := r19_2) hq20_2) (Omv rfl)) ?_
        refine Wn ?_
        refine Wn ?_
        refine Wn ?_
        refine Wn ?_
        refine Wn ?_
        refine Wn ?_
        refine Wn ?_
        refine Wn ?_
        refine Wn ?_
        refine Wn ?_
        refine Wn ?_
        refine Wn ?_
        refine Wn ?_
        refine Wy (.d (.lit (.bool false))) [] (OpF rfl) ?_
        refine Wdr ?_
        refine Then.normal ?_
        refine Amk 17179869283 0 ⟨((.d (.sl (List.length p0) (flatD enc_GChange p0))) :: ((.d (.lit (.int .i64 p1))) :: (tp 3 ((.d (.lit (.int .i64 y5_0))) :: ((.d (.lit (.int .i64 y6_0))) :: (tp 27 ((.d (.lit (.bool false))) :: (tp 9 [])))))))), [], 0⟩ ?_
        refine AWP.if_ false (by kernel_rfl) ?_
        refine AWP.skip ?_
        refine InBlock.normal ?_
        refine Then.normal ?_
        refine Amk 99 0 ⟨((.d (.sl (List.length p0) (flatD enc_GChange p0))) :: ((.d (.lit (.int .i64 p1))) :: (tp 3 ((.d (.lit (.int .i64 y5_0))) :: ((.d (.lit (.int .i64 y6_0))) :: (tp 37 [])))))), [], 0⟩ ?_
        refine AWP.text ?_
        refine Wy (.d (.lit (.int .i64 y6_0))) [] (Omv rfl) ?_
        refine Wy (.d (.lit (.int .i64 (IntKind.i64.wrap (y6_0 + 1))))) [] (Obn rfl (fun _ => hb_add (k := .i64))) ?_
        refine Wy (.d (.lit (.int .i64 (IntKind.i64.wrap (y6_0 + 1))))) [] (Omv rfl) ?_
        refine Walk.nil ?_
        refine RoundK.normal ?_
        exact Rounds.weak (Weak.toK 99 0 0 []) (ih_0 (fu_0, y5_0, (IntKind.i64.wrap (y6_0 + 1))) hm (Nat.lt_succ_self _))
    · replace hm := cF hc10_5 hm
      refine AWP.if_ false (Eq.trans (by kernel_rfl) (lit_tf (b := decide (y6_0 < ((List.length p0 : Nat) : Int))) hc10_5)) ?_
      refine AWP.exit ?_
      refine Then.exit ?_
      refine RoundK.exit ?_
      refine InBlock.same ?_
      refine Then.normal ?_
      refine Amk 32 0 ⟨(tp 5 ((.d (.lit (.int .i64 y5_0))) :: (tp 38 []))), [], 0⟩ ?_
      refine AWP.seq ?_
      refine AWP.text ?_
      refine Wy (.d (.lit (.int .i64 y5_0))) [] (Omv rfl) ?_
      refine Wy (.d (.lit (.int .i64 (max 0 y5_0)))) [] (op_bi2 rfl (a1 := .int .i64 0) (a2 := .int .i64 y5_0) (by kernel_rfl) (by kernel_rfl) hb_max) ?_
      refine Wy (.d (.lit (.int .i64 (max 0 y5_0)))) [] (Omv rfl) ?_
      refine Walk.nil ?_
      refine Then.normal ?_
      refine AWP.ret ?_
      obtain rfl := Option.some.inj hm
      exact ret_i []
end Go.Proofs.Ythcilaomjkaciaa.K
