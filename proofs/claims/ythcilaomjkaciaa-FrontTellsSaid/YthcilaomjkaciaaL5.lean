/- each function computes what its model says (5) -/
import Derived.Test.YthcilaomjkaciaaL4
namespace Go.Proofs.Ythcilaomjkaciaa.K
open Go.RowKit Go.Lib
set_option linter.unusedVariables false
set_option linter.unusedSimpArgs false

set_option maxRecDepth 20000 in
set_option maxHeartbeats 4000000 in
theorem ok_telltalelaw27_FrontMeets (p0 : GArr2_List_GChange) (p1 : GChange) (r : Bool) (h : m_telltalelaw27_FrontMeets p0 p1 = some r) : GCall Try.prog 4 [(.agg [(.d (.sl (List.length p0.a0) (flatD enc_GChange p0.a0))), (.d (.sl (List.length p0.a1) (flatD enc_GChange p0.a1)))]), (.agg [(.d (.lit (.int .i64 p1.Loc))), (.d (.lit (.int .i64 p1.Time))), (.d (.lit (.int .i64 p1.N)))])] [] (.d (.lit (.bool r))) [] := by
  refine GCall.of_body (n := 177) (rs := [(.tmp 4)]) Try.func4 rfl rfl rfl ?_
  refine Ato ⟨((.agg [(.d (.sl (List.length p0.a0) (flatD enc_GChange p0.a0))), (.d (.sl (List.length p0.a1) (flatD enc_GChange p0.a1)))]) :: ((.agg [(.d (.lit (.int .i64 p1.Loc))), (.d (.lit (.int .i64 p1.Time))), (.d (.lit (.int .i64 p1.N)))]) :: (tu 175 []))), [], 0⟩ ?_
  have hm := h
  unfold m_telltalelaw27_FrontMeets at hm
  refine AWP.seq ?_
  refine AWP.text ?_
  refine Wy (.loc 0 0) [(0, (.box [(.d (.sl (List.length p0.a0) (flatD enc_GChange p0.a0))), (.d (.sl (List.length p0.a1) (flatD enc_GChange p0.a1)))]))] (Obx rfl) ?_
  refine Wy (.loc 1 0) [(1, (.box [(.d (.lit (.int .i64 p1.Loc))), (.d (.lit (.int .i64 p1.Time))), (.d (.lit (.int .i64 p1.N)))]))] (Obx rfl) ?_
  refine Wy (.d (.lit (.bool false))) [] (Omv rfl) ?_
  refine Walk.nil ?_
  refine Then.normal ?_
  refine Amk 12 3 ⟨(tp 2 ((.loc 0 0) :: ((.loc 1 0) :: (tp 173 [])))), [(.box [(.d (.sl (List.length p0.a0) (flatD enc_GChange p0.a0))), (.d (.sl (List.length p0.a1) (flatD enc_GChange p0.a1)))]), (.box [(.d (.lit (.int .i64 p1.Loc))), (.d (.lit (.int .i64 p1.Time))), (.d (.lit (.int .i64 p1.N)))])], 0⟩ ?_
  refine AWP.seq ?_
  refine AWP.cutJ (α := Unit) (fun x => match x with | () => (⟨(tp 2 ((.loc 0 0) :: ((.loc 1 0) :: (tp 40 ((.d (.lit (.bool true))) :: (tp 132 [])))))), [(.box [(.d (.sl (List.length p0.a0) (flatD enc_GChange p0.a0))), (.d (.sl (List.length p0.a1) (flatD enc_GChange p0.a1)))]), (.box [(.d (.lit (.int .i64 p1.Loc))), (.d (.lit (.int .i64 p1.Time))), (.d (.lit (.int .i64 p1.N)))])], 0⟩ : St)) (fun x => match x with | () => m_telltalelaw27_FrontMeets_j1  = some r) ?_ (fun J1 => ?_)
  · rintro ⟨⟩ hm
    try dsimp only at hm ⊢
    unfold m_telltalelaw27_FrontMeets_j1 at hm
    refine AWP.if_ true (by kernel_rfl) ?_
    refine AWP.seq ?_
    refine AWP.text ?_
    obtain ⟨r45_2, hr45_2, hm⟩ := bnd hm
    refine Wy (.d (.lit (.bool r45_2))) [] (Ocf [] [] [] 0 (ok_telltalelaw27_awake  r45_2 hr45_2) (fun a w => Try.call6 a w) rfl trivial) ?_
    refine Wy (.d (.lit (.bool r45_2))) [] (Omv rfl) ?_
    refine Walk.nil ?_
    refine Then.normal ?_
    refine AWP.ret ?_
    refine Then.ret ?_
    obtain rfl := Option.some.inj hm
    exact ret_i []
  refine AWP.seq ?_
  refine AWP.text ?_
  refine Wy (.loc 0 0) [] (Ocs (by kernel_rfl) (op_iaddr_arr rfl (n := 2) (sz := 1) (y := (.loc 0 0)) (by kernel_rfl) (by kernel_rfl) (by kernel_rfl) (k := .i64) (iv := 0) (by kernel_rfl) (i := 0) (by rfl) (by decide))) ?_
  refine Wy (.d (.sl (List.length p0.a0) (flatD enc_GChange p0.a0))) [] (Old rfl) ?_
  obtain ⟨r17_0, hr17_0, hm⟩ := bnd hm
  refine Wy (.d (.lit (.int .i64 r17_0))) [] (Ocf [] [] [] 0 (ok_telltalelaw26_Over p0.a0 r17_0 hr17_0) (fun a w => Try.call5 a w) rfl trivial) ?_
  refine Wy (.d (.lit (.bool (decide ((0 : Int) < r17_0))))) [] (Obn rfl (fun _ => hb_gtr (k := .i64))) ?_
  rcases tf_ (decide ((0 : Int) < r17_0)) with hq19_0 | hq19_0
  · replace hm := cT hq19_0 hm
    refine Wy (.d (.lit (.bool true))) [] (Ocs (lit_tf (b := decide ((0 : Int) < r17_0)) hq19_0) (Omv rfl)) ?_
    refine Wn ?_
    refine Wn ?_
    refine Wn ?_
    refine Wn ?_
    refine Wy (.d (.lit (.bool true))) [] (OpT rfl) ?_
    refine Wy (.d (.lit (.bool true))) [] (Omv rfl) ?_
    refine Wn ?_
    refine Wn ?_
    refine Wn ?_
    refine Wy (.d (.lit (.bool true))) [] (OpT rfl) ?_
    refine Wy (.d (.lit (.bool true))) [] (Omv rfl) ?_
    refine Wn ?_
    refine Wn ?_
    refine Wn ?_
    refine Wy (.d (.lit (.bool true))) [] (OpT rfl) ?_
    refine Wy (.d (.lit (.bool true))) [] (Omv rfl) ?_
    refine Wn ?_
    refine Wn ?_
    refine Wn ?_
    refine Wy (.d (.lit (.bool true))) [] (OpT rfl) ?_
    refine Wy (.d (.lit (.bool true))) [] (Omv rfl) ?_
    refine Wn ?_
    refine Wn ?_
    refine Wn ?_
    refine Wy (.d (.lit (.bool true))) [] (OpT rfl) ?_
    refine Walk.nil ?_
    refine Then.normal ?_
    exact AWP.weak (Weak.toK 17592186044428 0 0 [0, 1]) (J1 () hm)
  · replace hm := cF hq19_0 hm
    refine Wy (.d (.lit (.bool false))) [] (Ocs (lit_tf (b := decide ((0 : Int) < r17_0)) hq19_0) (Omv rfl)) ?_
    refine Wy (.loc 0 1) [] (Ocs (by kernel_rfl) (op_iaddr_arr rfl (n := 2) (sz := 1) (y := (.loc 0 0)) (by kernel_rfl) (by kernel_rfl) (by kernel_rfl) (k := .i64) (iv := 1) (by kernel_rfl) (i := 1) (by rfl) (by decide))) ?_
    refine Wy (.d (.sl (List.length p0.a1) (flatD enc_GChange p0.a1))) [] (Old rfl) ?_
    obtain ⟨r22_0, hr22_0, hm⟩ := bnd hm
    refine Wy (.d (.lit (.int .i64 r22_0))) [] (Ocf [] [] [] 0 (ok_telltalelaw26_Over p0.a1 r22_0 hr22_0) (fun a w => Try.call5 a w) rfl trivial) ?_
    refine Wy (.d (.lit (.bool (decide ((0 : Int) < r22_0))))) [] (Obn rfl (fun _ => hb_gtr (k := .i64))) ?_
    refine Wy (.d (.lit (.bool (decide ((0 : Int) < r22_0))))) [] (OpF rfl) ?_
    rcases tf_ (decide ((0 : Int) < r22_0)) with hq25_0 | hq25_0
    · replace hm := cT hq25_0 hm
      refine Wy (.d (.lit (.bool true))) [] (Ocs (lit_tf (b := decide ((0 : Int) < r22_0)) hq25_0) (Omv rfl)) ?_
      refine Wn ?_
      refine Wn ?_
      refine Wn ?_
      refine Wy (.d (.lit (.bool true))) [] (OpT rfl) ?_
      refine Wy (.d (.lit (.bool true))) [] (Omv rfl) ?_
      refine Wn ?_
      refine Wn ?_
      refine Wn ?_
      refine Wy (.d (.lit (.bool true))) [] (OpT rfl) ?_
      refine Wy (.d (.lit (.bool true))) [] (Omv rfl) ?_
      refine Wn ?_
      refine Wn ?_
      refine Wn ?_
      refine Wy (.d (.lit (.bool true))) [] (OpT rfl) ?_
      refine Wy (.d (.lit (.bool true))) [] (Omv rfl) ?_
      refine Wn ?_
      refine Wn ?_
      refine Wn ?_
      refine Wy (.d (.lit (.bool true))) [] (OpT rfl) ?_
      refine Walk.nil ?_
      refine Then.normal ?_
      exact AWP.weak (Weak.toK 17592186044428 0 0 [0, 1]) (J1 () hm)
    · replace hm := cF hq25_0 hm
      refine Wy (.d (.lit (.bool false))) [] (Ocs (lit_tf (b := decide ((0 : Int) < r22_0)) hq25_0) (Omv rfl)) ?_
      refine Wy (.loc 1 0) [] (Ofa rfl) ?_
      refine Wy (.d (.lit (.int .i64 p1.Loc))) [] (Old rfl) ?_
      refine Wy (.d (.lit (.bool (decide (p1.Loc < 0))))) [] (Obn rfl (fun _ => hb_lss (k := .i64))) ?_
      refine Wy (.d (.lit (.bool (decide (p1.Loc < 0))))) [] (OpF rfl) ?_
      rcases tf_ (decide (p1.Loc < 0)) with hq30_0 | hq30_0
      · replace hm := cT hq30_0 hm
        refine Wy (.d (.lit (.bool true))) [] (Ocs (lit_tf (b := decide (p1.Loc < 0)) hq30_0) (Omv rfl)) ?_
        refine Wn ?_
        refine Wn ?_
        refine Wn ?_
        refine Wy (.d (.lit (.bool true))) [] (OpT rfl) ?_
        refine Wy (.d (.lit (.bool true))) [] (Omv rfl) ?_
        refine Wn ?_
        refine Wn ?_
        refine Wn ?_
        refine Wy (.d (.lit (.bool true))) [] (OpT rfl) ?_
        refine Wy (.d (.lit (.bool true))) [] (Omv rfl) ?_
        refine Wn ?_
        refine Wn ?_
        refine Wn ?_
        refine Wy (.d (.lit (.bool true))) [] (OpT rfl) ?_
        refine Walk.nil ?_
        refine Then.normal ?_
        exact AWP.weak (Weak.toK 17592186044428 0 0 [0, 1]) (J1 () hm)
      · replace hm := cF hq30_0 hm
        refine Wy (.d (.lit (.bool false))) [] (Ocs (lit_tf (b := decide (p1.Loc < 0)) hq30_0) (Omv rfl)) ?_
        refine Wy (.loc 1 0) [] (Ofa rfl) ?_
        refine Wy (.d (.lit (.int .i64 p1.Loc))) [] (Old rfl) ?_
        refine Wy (.d (.lit (.bool (decide ((3 : Int) < p1.Loc))))) [] (Obn rfl (fun _ => hb_gtr (k := .i64))) ?_
        refine Wy (.d (.lit (.bool (decide ((3 : Int) < p1.Loc))))) [] (OpF rfl) ?_
        rcases tf_ (decide ((3 : Int) < p1.Loc)) with hq35_0 | hq35_0
        · replace hm := cT hq35_0 hm
          refine Wy (.d (.lit (.bool true))) [] (Ocs (lit_tf (b := decide ((3 : Int) < p1.Loc)) hq35_0) (Omv rfl)) ?_
          refine Wn ?_
          refine Wn ?_
          refine Wn ?_
          refine Wy (.d (.lit (.bool true))) [] (OpT rfl) ?_
          refine Wy (.d (.lit (.bool true))) [] (Omv rfl) ?_
          refine Wn ?_
          refine Wn ?_
          refine Wn ?_
          refine Wy (.d (.lit (.bool true))) [] (OpT rfl) ?_
          refine Walk.nil ?_
          refine Then.normal ?_
          exact AWP.weak (Weak.toK 17592186044428 0 0 [0, 1]) (J1 () hm)
        · replace hm := cF hq35_0 hm
          refine Wy (.d (.lit (.bool false))) [] (Ocs (lit_tf (b := decide ((3 : Int) < p1.Loc)) hq35_0) (Omv rfl)) ?_
          refine Wy (.loc 1 1) [] (Ofa rfl) ?_
          refine Wy (.d (.lit (.int .i64 p1.Time))) [] (Old rfl) ?_
          refine Wy (.d (.lit (.bool (decide (p1.Time < 0))))) [] (Obn rfl (fun _ => hb_lss (k := .i64))) ?_
          refine Wy (.d (.lit (.bool (decide (p1.Time < 0))))) [] (OpF rfl) ?_
          rcases tf_ (decide (p1.Time < 0)) with hq40_0 | hq40_0
          · replace hm := cT hq40_0 hm
            refine Wy (.d (.lit (.bool true))) [] (Ocs (lit_tf (b := decide (p1.Time < 0)) hq40_0) (Omv rfl)) ?_
            refine Wn ?_
            refine Wn ?_
            refine Wn ?_
            refine Wy (.d (.lit (.bool true))) [] (OpT rfl) ?_
            refine Walk.nil ?_
            refine Then.normal ?_
            exact AWP.weak (Weak.toK 17592186044428 0 0 [0, 1]) (J1 () hm)
          · replace hm := cF hq40_0 hm
            refine Wy (.d (.lit (.bool false))) [] (Ocs (lit_tf (b := decide (p1.Time < 0)) hq40_0) (Omv rfl)) ?_
            refine Wy (.loc 1 1) [] (Ofa rfl) ?_
            refine Wy (.d (.lit (.int .i64 p1.Time))) [] (Old rfl) ?_
            refine Wy (.d (.lit (.bool (decide ((1099511627777 : Int) < p1.Time))))) [] (Obn rfl (fun _ => hb_gtr (k := .i64))) ?_
            refine Wy (.d (.lit (.bool (decide ((1099511627777 : Int) < p1.Time))))) [] (OpF rfl) ?_
            refine Walk.nil ?_
            refine Then.normal ?_
            refine Amk 17592186044428 3 ⟨(tp 2 ((.loc 0 0) :: ((.loc 1 0) :: (tp 40 ((.d (.lit (.bool (decide ((1099511627777 : Int) < p1.Time))))) :: (tp 132 [])))))), [(.box [(.d (.sl (List.length p0.a0) (flatD enc_GChange p0.a0))), (.d (.sl (List.length p0.a1) (flatD enc_GChange p0.a1)))]), (.box [(.d (.lit (.int .i64 p1.Loc))), (.d (.lit (.int .i64 p1.Time))), (.d (.lit (.int .i64 p1.N)))])], 0⟩ ?_
            rcases tf_ (decide ((1099511627777 : Int) < p1.Time)) with hc44_22 | hc44_22
            · replace hm := cT hc44_22 hm
              refine AWP.if_ true (Eq.trans (by kernel_rfl) (lit_tf (b := decide ((1099511627777 : Int) < p1.Time)) hc44_22)) ?_
              refine AWP.seq ?_
              refine AWP.text ?_
              obtain ⟨r45_3, hr45_3, hm⟩ := bnd hm
              refine Wy (.d (.lit (.bool r45_3))) [] (Ocf [] [] [] 0 (ok_telltalelaw27_awake  r45_3 hr45_3) (fun a w => Try.call6 a w) rfl trivial) ?_
              refine Wy (.d (.lit (.bool r45_3))) [] (Omv rfl) ?_
              refine Walk.nil ?_
              refine Then.normal ?_
              refine AWP.ret ?_
              refine Then.ret ?_
              obtain rfl := Option.some.inj hm
              exact ret_i []
            · replace hm := cF hc44_22 hm
              refine AWP.if_ false (Eq.trans (by kernel_rfl) (lit_tf (b := decide ((1099511627777 : Int) < p1.Time)) hc44_22)) ?_
              refine AWP.skip ?_
              refine Then.normal ?_
              refine Amk 12 3 ⟨(tp 2 ((.loc 0 0) :: ((.loc 1 0) :: (tp 173 [])))), [(.box [(.d (.sl (List.length p0.a0) (flatD enc_GChange p0.a0))), (.d (.sl (List.length p0.a1) (flatD enc_GChange p0.a1)))]), (.box [(.d (.lit (.int .i64 p1.Loc))), (.d (.lit (.int .i64 p1.Time))), (.d (.lit (.int .i64 p1.N)))])], 0⟩ ?_
              refine AWP.seq ?_
              refine AWP.seq ?_
              refine AWP.text ?_
              refine Wy (.d (.lit (.int .i64 0))) [] (Omv rfl) ?_
              refine Walk.nil ?_
              refine Then.normal ?_
              refine Amk 44 3 ⟨(tp 2 ((.loc 0 0) :: ((.loc 1 0) :: (tp 1 ((.d (.lit (.int .i64 0))) :: (tp 171 [])))))), [(.box [(.d (.sl (List.length p0.a0) (flatD enc_GChange p0.a0))), (.d (.sl (List.length p0.a1) (flatD enc_GChange p0.a1)))]), (.box [(.d (.lit (.int .i64 p1.Loc))), (.d (.lit (.int .i64 p1.Time))), (.d (.lit (.int .i64 p1.N)))])], 0⟩ ?_
              refine AWP.block ?_
              refine AWP.loopI (α := Nat × Int)
                (fun x => match x with | (fu_4, y5_4) => (⟨(tp 2 ((.loc 0 0) :: ((.loc 1 0) :: (tp 1 ((.d (.lit (.int .i64 y5_4))) :: (tp 171 [])))))), [(.box [(.d (.sl (List.length p0.a0) (flatD enc_GChange p0.a0))), (.d (.sl (List.length p0.a1) (flatD enc_GChange p0.a1)))]), (.box [(.d (.lit (.int .i64 p1.Loc))), (.d (.lit (.int .i64 p1.Time))), (.d (.lit (.int .i64 p1.N)))])], 0⟩ : St))
                (fun x => match x with | (fu_4, y5_4) => m_telltalelaw27_FrontMeets_l4 p0 p1 fu_4 y5_4 = some r)
                (fun x => match x with | (fu_4, y5_4) => fu_4) (1152921504606846976, 0)
                (Weak.toK 44 0 0 [0, 1]) hm ?_
              rintro ⟨fu_4, y5_4⟩ n_4 hm ih_4
              try dsimp only at hm ih_4 ⊢
              cases fu_4 with
              | zero => exact absurd hm (by unfold m_telltalelaw27_FrontMeets_l4; simp)
              | succ fu_4 =>
                unfold m_telltalelaw27_FrontMeets_l4 at hm
                refine AWP.seq ?_
                refine AWP.seq ?_
                refine AWP.text ?_
                refine Wy (.d (.lit (.int .i64 y5_4))) [] (Omv rfl) ?_
                refine Wy (.d (.lit (.bool (decide (y5_4 < 2))))) [] (Obn rfl (fun _ => hb_lss (k := .i64))) ?_
                refine Walk.nil ?_
                refine Then.normal ?_
                refine Amk 140737488355372 3 ⟨(tp 2 ((.loc 0 0) :: ((.loc 1 0) :: (tp 1 ((.d (.lit (.int .i64 y5_4))) :: (tp 41 ((.d (.lit (.bool (decide (y5_4 < 2))))) :: (tp 129 [])))))))), [(.box [(.d (.sl (List.length p0.a0) (flatD enc_GChange p0.a0))), (.d (.sl (List.length p0.a1) (flatD enc_GChange p0.a1)))]), (.box [(.d (.lit (.int .i64 p1.Loc))), (.d (.lit (.int .i64 p1.Time))), (.d (.lit (.int .i64 p1.N)))])], 0⟩ ?_
                rcases tf_ (decide (y5_4 < 2)) with hc47_23 | hc47_23
                · replace hm := cT hc47_23 hm
                  refine AWP.if_ true (Eq.trans (by kernel_rfl) (lit_tf (b := decide (y5_4 < 2)) hc47_23)) ?_
                  refine AWP.skip ?_
                  refine Then.normal ?_
                  refine Amk 44 3 ⟨(tp 2 ((.loc 0 0) :: ((.loc 1 0) :: (tp 1 ((.d (.lit (.int .i64 y5_4))) :: (tp 171 [])))))), [(.box [(.d (.sl (List.length p0.a0) (flatD enc_GChange p0.a0))), (.d (.sl (List.length p0.a1) (flatD enc_GChange p0.a1)))]), (.box [(.d (.lit (.int .i64 p1.Loc))), (.d (.lit (.int .i64 p1.Time))), (.d (.lit (.int .i64 p1.N)))])], 0⟩ ?_
                  refine AWP.seq ?_
                  refine AWP.block ?_
                  refine AWP.seq ?_
                  refine AWP.text ?_
                  refine Wy (.d (.lit (.int .i64 0))) [] (Omv rfl) ?_
                  refine Walk.nil ?_
                  refine Then.normal ?_
                  refine Amk 108 3 ⟨(tp 2 ((.loc 0 0) :: ((.loc 1 0) :: (tp 1 ((.d (.lit (.int .i64 y5_4))) :: ((.d (.lit (.int .i64 0))) :: (tp 170 []))))))), [(.box [(.d (.sl (List.length p0.a0) (flatD enc_GChange p0.a0))), (.d (.sl (List.length p0.a1) (flatD enc_GChange p0.a1)))]), (.box [(.d (.lit (.int .i64 p1.Loc))), (.d (.lit (.int .i64 p1.Time))), (.d (.lit (.int .i64 p1.N)))])], 0⟩ ?_
                  refine AWP.block ?_
                  refine AWP.loopI (α := Nat × Int)
                    (fun x => match x with | (fu_5, y6_5) => (⟨(tp 2 ((.loc 0 0) :: ((.loc 1 0) :: (tp 1 ((.d (.lit (.int .i64 y5_4))) :: ((.d (.lit (.int .i64 y6_5))) :: (tp 170 []))))))), [(.box [(.d (.sl (List.length p0.a0) (flatD enc_GChange p0.a0))), (.d (.sl (List.length p0.a1) (flatD enc_GChange p0.a1)))]), (.box [(.d (.lit (.int .i64 p1.Loc))), (.d (.lit (.int .i64 p1.Time))), (.d (.lit (.int .i64 p1.N)))])], 0⟩ : St))
                    (fun x => match x with | (fu_5, y6_5) => m_telltalelaw27_FrontMeets_l5 p0 y5_4 (fun y5_4 => m_telltalelaw27_FrontMeets_l4 p0 p1 fu_4 y5_4) fu_5 y6_5 = some r)
                    (fun x => match x with | (fu_5, y6_5) => fu_5) (1152921504606846976, 0)
                    (Weak.toK 108 0 0 [0, 1]) hm ?_
                  rintro ⟨fu_5, y6_5⟩ n_5 hm ih_5
                  try dsimp only at hm ih_5 ⊢
                  cases fu_5 with
                  | zero => exact absurd hm (by unfold m_telltalelaw27_FrontMeets_l5; simp)
                  | succ fu_5 =>
                    unfold m_telltalelaw27_FrontMeets_l5 at hm
                    refine AWP.seq ?_
                    refine AWP.seq ?_
                    refine AWP.text ?_
                    refine Wy (.d (.lit (.int .i64 y6_5))) [] (Omv rfl) ?_
                    refine Wy (.d (.lit (.int .i64 y5_4))) [] (Omv rfl) ?_
                    obtain ⟨x52_6, hx52_6, hm⟩ := bnd hm
                    obtain ⟨hx52_6i, hx52_6g⟩ := geti_some hx52_6
                    refine Wy (.loc 0 (0 + (Int.toNat y5_4) * 1)) [] (Ocs (by kernel_rfl) (op_iaddr_arr rfl (n := 2) (sz := 1) (y := (.loc 0 0)) (by kernel_rfl) (by kernel_rfl) (by kernel_rfl) (k := .i64) (iv := y5_4) (by kernel_rfl) (i := (Int.toNat y5_4)) (hx52_6i) (getlt hx52_6g))) ?_
                    refine Wy (.d (.sl (List.length x52_6) (flatD enc_GChange x52_6))) [] (OldD rfl (id := 0) (off := 0 + (Int.toNat y5_4) * 1) (cs := [(.d (.sl (List.length p0.a0) (flatD enc_GChange p0.a0))), (.d (.sl (List.length p0.a1) (flatD enc_GChange p0.a1)))]) (xs := (flatD (encL enc_GChange) ([p0.a0, p0.a1] : List (List GChange))).map A.d) (by kernel_rfl) (by kernel_rfl) (by kernel_rfl) ((loadA_scalar (by kernel_rfl)).trans (by rw [Nat.zero_add]; exact flat_row_at (l := ([p0.a0, p0.a1] : List (List GChange))) (sz := 1) (encL_len (enc := enc_GChange)) (hx52_6g) (by kernel_rfl)))) ?_
                    refine Wy (.d (.lit (.int .i64 ((List.length x52_6 : Nat) : Int)))) [] (Oln rfl) ?_
                    refine Wy (.d (.lit (.bool (decide (y6_5 < ((List.length x52_6 : Nat) : Int)))))) [] (Obn rfl (fun _ => hb_lss (k := .i64))) ?_
                    refine Walk.nil ?_
                    refine Then.normal ?_
                    refine Amk 36028797018964076 3 ⟨(tp 2 ((.loc 0 0) :: ((.loc 1 0) :: (tp 1 ((.d (.lit (.int .i64 y5_4))) :: ((.d (.lit (.int .i64 y6_5))) :: (tp 48 ((.d (.lit (.bool (decide (y6_5 < ((List.length x52_6 : Nat) : Int)))))) :: (tp 121 []))))))))), [(.box [(.d (.sl (List.length p0.a0) (flatD enc_GChange p0.a0))), (.d (.sl (List.length p0.a1) (flatD enc_GChange p0.a1)))]), (.box [(.d (.lit (.int .i64 p1.Loc))), (.d (.lit (.int .i64 p1.Time))), (.d (.lit (.int .i64 p1.N)))])], 0⟩ ?_
                    rcases tf_ (decide (y6_5 < ((List.length x52_6 : Nat) : Int))) with hc55_24 | hc55_24
                    · replace hm := cT hc55_24 hm
                      refine AWP.if_ true (Eq.trans (by kernel_rfl) (lit_tf (b := decide (y6_5 < ((List.length x52_6 : Nat) : Int))) hc55_24)) ?_
                      refine AWP.skip ?_
                      refine Then.normal ?_
                      refine Amk 108 3 ⟨(tp 2 ((.loc 0 0) :: ((.loc 1 0) :: (tp 1 ((.d (.lit (.int .i64 y5_4))) :: ((.d (.lit (.int .i64 y6_5))) :: (tp 170 []))))))), [(.box [(.d (.sl (List.length p0.a0) (flatD enc_GChange p0.a0))), (.d (.sl (List.length p0.a1) (flatD enc_GChange p0.a1)))]), (.box [(.d (.lit (.int .i64 p1.Loc))), (.d (.lit (.int .i64 p1.Time))), (.d (.lit (.int .i64 p1.N)))])], 0⟩ ?_
                      refine AWP.seq ?_
                      refine AWP.block ?_
                      refine AWP.seq ?_
                      refine AWP.text ?_
                      refine Wy (.d (.lit (.int .i64 y5_4))) [] (Omv rfl) ?_
                      obtain ⟨x59_7, hx59_7, hm⟩ := bnd hm
                      obtain ⟨hx59_7i, hx59_7g⟩ := geti_some hx59_7
                      refine Wy (.loc 0 (0 + (Int.toNat y5_4) * 1)) [] (Ocs (by kernel_rfl) (op_iaddr_arr rfl (n := 2) (sz := 1) (y := (.loc 0 0)) (by kernel_rfl) (by kernel_rfl) (by kernel_rfl) (k := .i64) (iv := y5_4) (by kernel_rfl) (i := (Int.toNat y5_4)) (hx59_7i) (getlt hx59_7g))) ?_
                      refine Wy (.d (.sl (List.length x59_7) (flatD enc_GChange x59_7))) [] (OldD rfl (id := 0) (off := 0 + (Int.toNat y5_4) * 1) (cs := [(.d (.sl (List.length p0.a0) (flatD enc_GChange p0.a0))), (.d (.sl (List.length p0.a1) (flatD enc_GChange p0.a1)))]) (xs := (flatD (encL enc_GChange) ([p0.a0, p0.a1] : List (List GChange))).map A.d) (by kernel_rfl) (by kernel_rfl) (by kernel_rfl) ((loadA_scalar (by kernel_rfl)).trans (by rw [Nat.zero_add]; exact flat_row_at (l := ([p0.a0, p0.a1] : List (List GChange))) (sz := 1) (encL_len (enc := enc_GChange)) (hx59_7g) (by kernel_rfl)))) ?_
                      refine Wy (.d (.lit (.int .i64 y6_5))) [] (Omv rfl) ?_
                      obtain ⟨x62_7, hx62_7, hm⟩ := bnd hm
                      obtain ⟨hx62_7i, hx62_7g⟩ := geti_some hx62_7
                      refine Wy (.d (.ref (List.drop ((Int.toNat y6_5) * 3) (flatD enc_GChange x59_7)))) [] (Oia rfl enc_GChange_len hx62_7i hx62_7g) ?_
                      refine Wy (.d (.ref (List.drop 2 (List.drop ((Int.toNat y6_5) * 3) (flatD enc_GChange x59_7))))) [] (Ofa rfl) ?_
                      refine Wy (.d (.lit (.int .i64 x62_7.N))) [] (Lfk1 2 rfl enc_GChange_len hx62_7g) ?_
                      refine Wy (.d (.lit (.bool (decide (x62_7.N < 0))))) [] (Obn rfl (fun _ => hb_lss (k := .i64))) ?_
                      refine Walk.nil ?_
                      refine Then.normal ?_
                      refine Amk 36893488147419103340 3 ⟨(tp 2 ((.loc 0 0) :: ((.loc 1 0) :: (tp 1 ((.d (.lit (.int .i64 y5_4))) :: ((.d (.lit (.int .i64 y6_5))) :: (tp 58 ((.d (.lit (.bool (decide (x62_7.N < 0))))) :: (tp 111 []))))))))), [(.box [(.d (.sl (List.length p0.a0) (flatD enc_GChange p0.a0))), (.d (.sl (List.length p0.a1) (flatD enc_GChange p0.a1)))]), (.box [(.d (.lit (.int .i64 p1.Loc))), (.d (.lit (.int .i64 p1.Time))), (.d (.lit (.int .i64 p1.N)))])], 0⟩ ?_
                      rcases tf_ (decide (x62_7.N < 0)) with hc65_25 | hc65_25
                      · replace hm := cT hc65_25 hm
                        refine AWP.if_ true (Eq.trans (by kernel_rfl) (lit_tf (b := decide (x62_7.N < 0)) hc65_25)) ?_
                        refine AWP.seq ?_
                        refine AWP.text ?_
                        obtain ⟨r66_8, hr66_8, hm⟩ := bnd hm
                        refine Wy (.d (.lit (.bool r66_8))) [] (Ocf [] [] [] 0 (ok_telltalelaw27_awake  r66_8 hr66_8) (fun a w => Try.call6 a w) rfl trivial) ?_
                        refine Wy (.d (.lit (.bool r66_8))) [] (Omv rfl) ?_
                        refine Walk.nil ?_
                        refine Then.normal ?_
                        refine AWP.ret ?_
                        refine InBlock.ret ?_
                        refine Then.ret ?_
                        refine RoundK.ret ?_
                        refine InBlock.ret ?_
                        refine InBlock.ret ?_
                        refine Then.ret ?_
                        refine RoundK.ret ?_
                        refine InBlock.ret ?_
                        refine Then.ret ?_
                        obtain rfl := Option.some.inj hm
                        exact ret_i []
                      · replace hm := cF hc65_25 hm
                        refine AWP.if_ false (Eq.trans (by kernel_rfl) (lit_tf (b := decide (x62_7.N < 0)) hc65_25)) ?_
                        refine AWP.skip ?_
                        refine InBlock.normal ?_
                        refine Then.normal ?_
                        refine Amk 108 3 ⟨(tp 2 ((.loc 0 0) :: ((.loc 1 0) :: (tp 1 ((.d (.lit (.int .i64 y5_4))) :: ((.d (.lit (.int .i64 y6_5))) :: (tp 170 []))))))), [(.box [(.d (.sl (List.length p0.a0) (flatD enc_GChange p0.a0))), (.d (.sl (List.length p0.a1) (flatD enc_GChange p0.a1)))]), (.box [(.d (.lit (.int .i64 p1.Loc))), (.d (.lit (.int .i64 p1.Time))), (.d (.lit (.int .i64 p1.N)))])], 0⟩ ?_
                        refine AWP.text ?_
                        refine Wy (.d (.lit (.int .i64 y6_5))) [] (Omv rfl) ?_
                        refine Wy (.d (.lit (.int .i64 (IntKind.i64.wrap (y6_5 + 1))))) [] (Obn rfl (fun _ => hb_add (k := .i64))) ?_
                        refine Wy (.d (.lit (.int .i64 (IntKind.i64.wrap (y6_5 + 1))))) [] (Omv rfl) ?_
                        refine Walk.nil ?_
                        refine RoundK.normal ?_
                        exact Rounds.weak (Weak.toK 108 0 0 [0, 1]) (ih_5 (fu_5, (IntKind.i64.wrap (y6_5 + 1))) hm (Nat.lt_succ_self _))
                    · replace hm := cF hc55_24 hm
                      refine AWP.if_ false (Eq.trans (by kernel_rfl) (lit_tf (b := decide (y6_5 < ((List.length x52_6 : Nat) : Int))) hc55_24)) ?_
                      refine AWP.exit ?_
                      refine Then.exit ?_
                      refine RoundK.exit ?_
                      refine InBlock.same ?_
                      refine InBlock.normal ?_
                      refine Then.normal ?_
                      refine Amk 44 3 ⟨(tp 2 ((.loc 0 0) :: ((.loc 1 0) :: (tp 1 ((.d (.lit (.int .i64 y5_4))) :: (tp 171 [])))))), [(.box [(.d (.sl (List.length p0.a0) (flatD enc_GChange p0.a0))), (.d (.sl (List.length p0.a1) (flatD enc_GChange p0.a1)))]), (.box [(.d (.lit (.int .i64 p1.Loc))), (.d (.lit (.int .i64 p1.Time))), (.d (.lit (.int .i64 p1.N)))])], 0⟩ ?_
                      refine AWP.text ?_
                      refine Wy (.d (.lit (.int .i64 y5_4))) [] (Omv rfl) ?_
                      refine Wy (.d (.lit (.int .i64 (IntKind.i64.wrap (y5_4 + 1))))) [] (Obn rfl (fun _ => hb_add (k := .i64))) ?_
                      refine Wy (.d (.lit (.int .i64 (IntKind.i64.wrap (y5_4 + 1))))) [] (Omv rfl) ?_
                      refine Walk.nil ?_
                      refine RoundK.normal ?_
                      exact Rounds.weak (Weak.toK 44 0 0 [0, 1]) (ih_4 (fu_4, (IntKind.i64.wrap (y5_4 + 1))) hm (Nat.lt_succ_self _))
                · replace hm := cF hc47_23 hm
                  refine AWP.if_ false (Eq.trans (by kernel_rfl) (lit_tf (b := decide (y5_4 < 2)) hc47_23)) ?_
                  refine AWP.exit ?_
                  refine Then.exit ?_
                  refine RoundK.exit ?_
                  refine InBlock.same ?_
                  refine Then.normal ?_
                  refine Amk 12 3 ⟨(tp 2 ((.loc 0 0) :: ((.loc 1 0) :: (tp 173 [])))), [(.box [(.d (.sl (List.length p0.a0) (flatD enc_GChange p0.a0))), (.d (.sl (List.length p0.a1) (flatD enc_GChange p0.a1)))]), (.box [(.d (.lit (.int .i64 p1.Loc))), (.d (.lit (.int .i64 p1.Time))), (.d (.lit (.int .i64 p1.N)))])], 0⟩ ?_
                  refine AWP.seq ?_
                  refine Adr ?_
                  refine Wy (.loc 0 0) [] (Ocs (by kernel_rfl) (op_iaddr_arr rfl (n := 2) (sz := 1) (y := (.loc 0 0)) (by kernel_rfl) (by kernel_rfl) (by kernel_rfl) (k := .i64) (iv := 0) (by kernel_rfl) (i := 0) (by rfl) (by decide))) ?_
                  refine Wy (.d (.sl (List.length p0.a0) (flatD enc_GChange p0.a0))) [] (Old rfl) ?_
                  obtain ⟨r69_9, hr69_9, hm⟩ := bnd hm
                  refine Wy (.own 2) [(2, (.arr 43 3 (List.length r69_9) (flatD enc_GChange r69_9)))] (Ocf [] [2] [] 0 (ok_telltalelaw26_Own p0.a0 r69_9 hr69_9) (fun a w => Try.call7 a w) rfl trivial) ?_
                  refine Wy (.loc 0 1) [] (Ocs (by kernel_rfl) (op_iaddr_arr rfl (n := 2) (sz := 1) (y := (.loc 0 0)) (by kernel_rfl) (by kernel_rfl) (by kernel_rfl) (k := .i64) (iv := 1) (by kernel_rfl) (i := 1) (by rfl) (by decide))) ?_
                  refine Wy (.d (.sl (List.length p0.a1) (flatD enc_GChange p0.a1))) [] (Old rfl) ?_
                  obtain ⟨r72_9, hr72_9, hm⟩ := bnd hm
                  refine Wy (.own 3) [(3, (.arr 43 3 (List.length r72_9) (flatD enc_GChange r72_9)))] (Ocf [] [3] [] 0 (ok_telltalelaw26_Own p0.a1 r72_9 hr72_9) (fun a w => Try.call7 a w) rfl trivial) ?_
                  refine Wy (.own 2) [] (Omv rfl) ?_
                  refine Wy (.own 3) [] (Omv rfl) ?_
                  refine Wdr ?_
                  refine Then.normal ?_
                  refine Amk 392 14 ⟨(tp 3 ((.loc 1 0) :: (tp 3 ((.own 2) :: ((.own 3) :: (tp 168 [])))))), [.gone, (.box [(.d (.lit (.int .i64 p1.Loc))), (.d (.lit (.int .i64 p1.Time))), (.d (.lit (.int .i64 p1.N)))]), (.arr 43 3 (List.length r69_9) (flatD enc_GChange r69_9)), (.arr 43 3 (List.length r72_9) (flatD enc_GChange r72_9))], 0⟩ ?_
                  refine AWP.seq ?_
                  refine AWP.text ?_
                  refine Wy (.own 2) [] (Omv rfl) ?_
                  obtain ⟨r74_10, hr74_10, hm⟩ := bnd hm
                  refine Wy (.agg [(.d (.lit (.int .i64 r74_10.a0))), (.d (.lit (.int .i64 r74_10.a1))), (.d (.lit (.int .i64 r74_10.a2))), (.d (.lit (.int .i64 r74_10.a3)))]) [] (Ocp [] [] [2] 0 (ok_front_All r69_9 r74_10 hr74_10) (plain_triv (by simp [A.Plain, A.Plains, D.Plain, byteD])) (fun a w => Try.call10 a w) rfl trivial) ?_
                  refine Wy (.own 3) [] (Omv rfl) ?_
                  obtain ⟨r76_10, hr76_10, hm⟩ := bnd hm
                  refine Wy (.agg [(.d (.lit (.int .i64 r76_10.a0))), (.d (.lit (.int .i64 r76_10.a1))), (.d (.lit (.int .i64 r76_10.a2))), (.d (.lit (.int .i64 r76_10.a3)))]) [] (Ocp [] [] [3] 0 (ok_front_All r72_9 r76_10 hr76_10) (plain_triv (by simp [A.Plain, A.Plains, D.Plain, byteD])) (fun a w => Try.call10 a w) rfl trivial) ?_
                  refine Wy (.own 2) [] (Omv rfl) ?_
                  refine Wy (.own 3) [] (Omv rfl) ?_
                  obtain ⟨r79_10, hr79_10, hm⟩ := bnd hm
                  refine Wy (.d (.sl (List.length r79_10) (flatD enc_GChange r79_10))) [(2, (.fro 43 3 (List.length r69_9) (flatD enc_GChange r69_9))), (3, (.fro 43 3 (List.length r72_9) (flatD enc_GChange r72_9)))] (Ocf [] [] [2, 3] 0 (ok_tally_Merge r69_9 r72_9 r79_10 hr79_10) (fun a w => Try.call17 a w) rfl trivial) ?_
                  obtain ⟨r80_10, hr80_10, hm⟩ := bnd hm
                  refine Wy (.agg [(.d (.lit (.int .i64 r80_10.a0))), (.d (.lit (.int .i64 r80_10.a1))), (.d (.lit (.int .i64 r80_10.a2))), (.d (.lit (.int .i64 r80_10.a3)))]) [] (Ocf [] [] [] 0 (ok_front_All r79_10 r80_10 hr80_10) (fun a w => Try.call10 a w) rfl trivial) ?_
                  refine Wy (.loc 4 0) [(4, (.box [(.d (.lit (.int .i64 0))), (.d (.lit (.int .i64 0))), (.d (.lit (.int .i64 0))), (.d (.lit (.int .i64 0)))]))] (Oal rfl) ?_
                  refine Wy (.loc 5 0) [(5, (.box [(.d (.lit (.int .i64 0))), (.d (.lit (.int .i64 0))), (.d (.lit (.int .i64 0))), (.d (.lit (.int .i64 0)))]))] (Oal rfl) ?_
                  refine Wy (.loc 6 0) [(6, (.box [(.d (.lit (.int .i64 0))), (.d (.lit (.int .i64 0))), (.d (.lit (.int .i64 0))), (.d (.lit (.int .i64 0)))]))] (Oal rfl) ?_
                  refine Wy (.tup []) [(4, (.box [(.d (.lit (.int .i64 r74_10.a0))), (.d (.lit (.int .i64 r74_10.a1))), (.d (.lit (.int .i64 r74_10.a2))), (.d (.lit (.int .i64 r74_10.a3)))]))] (Ost rfl) ?_
                  refine Wy (.tup []) [(5, (.box [(.d (.lit (.int .i64 r76_10.a0))), (.d (.lit (.int .i64 r76_10.a1))), (.d (.lit (.int .i64 r76_10.a2))), (.d (.lit (.int .i64 r76_10.a3)))]))] (Ost rfl) ?_
                  refine Wy (.tup []) [(6, (.box [(.d (.lit (.int .i64 r80_10.a0))), (.d (.lit (.int .i64 r80_10.a1))), (.d (.lit (.int .i64 r80_10.a2))), (.d (.lit (.int .i64 r80_10.a3)))]))] (Ost rfl) ?_
                  refine Walk.nil ?_
                  refine Then.normal ?_
                  refine Amk 3976 126 ⟨(tp 3 ((.loc 1 0) :: (tp 3 ((.own 2) :: ((.own 3) :: ((.loc 4 0) :: ((.loc 5 0) :: ((.loc 6 0) :: (tp 165 []))))))))), [.gone, (.box [(.d (.lit (.int .i64 p1.Loc))), (.d (.lit (.int .i64 p1.Time))), (.d (.lit (.int .i64 p1.N)))]), (.fro 43 3 (List.length r69_9) (flatD enc_GChange r69_9)), (.fro 43 3 (List.length r72_9) (flatD enc_GChange r72_9)), (.box [(.d (.lit (.int .i64 r74_10.a0))), (.d (.lit (.int .i64 r74_10.a1))), (.d (.lit (.int .i64 r74_10.a2))), (.d (.lit (.int .i64 r74_10.a3)))]), (.box [(.d (.lit (.int .i64 r76_10.a0))), (.d (.lit (.int .i64 r76_10.a1))), (.d (.lit (.int .i64 r76_10.a2))), (.d (.lit (.int .i64 r76_10.a3)))]), (.box [(.d (.lit (.int .i64 r80_10.a0))), (.d (.lit (.int .i64 r80_10.a1))), (.d (.lit (.int .i64 r80_10.a2))), (.d (.lit (.int .i64 r80_10.a3)))])], 0⟩ ?_
                  refine AWP.seq ?_
                  refine AWP.text ?_
                  refine Wy (.own 2) [] (Omv rfl) ?_
                  refine Wy (.loc 1 0) [] (Ofa rfl) ?_
                  refine Wy (.d (.lit (.int .i64 p1.Loc))) [] (Old rfl) ?_
                  refine Wy (.loc 1 1) [] (Ofa rfl) ?_
                  refine Wy (.d (.lit (.int .i64 p1.Time))) [] (Old rfl) ?_
                  refine Wy (.agg [(.d (.lit (.int .i64 p1.Loc))), (.d (.lit (.int .i64 p1.Time))), (.d (.lit (.int .i64 1)))]) [] (Obd rfl) ?_
                  obtain ⟨r87_11, hr87_11, hm⟩ := bnd hm
                  refine Wy (.d (.sl (List.length r87_11) (flatD enc_GChange r87_11))) [(2, (.fro 43 3 (List.length r69_9) (flatD enc_GChange r69_9)))] (Ocf [] [] [2] 0 (ok_tally_Add r69_9 (GChange.mk p1.Loc p1.Time 1) r87_11 hr87_11) (fun a w => Try.call18 a w) rfl trivial) ?_
                  obtain ⟨r88_11, hr88_11, hm⟩ := bnd hm
                  refine Wy (.agg [(.d (.lit (.int .i64 r88_11.a0))), (.d (.lit (.int .i64 r88_11.a1))), (.d (.lit (.int .i64 r88_11.a2))), (.d (.lit (.int .i64 r88_11.a3)))]) [] (Ocf [] [] [] 0 (ok_front_All r87_11 r88_11 hr88_11) (fun a w => Try.call10 a w) rfl trivial) ?_
                  refine Wy (.loc 7 0) [(7, (.box [(.d (.lit (.int .i64 0))), (.d (.lit (.int .i64 0))), (.d (.lit (.int .i64 0))), (.d (.lit (.int .i64 0)))]))] (Oal rfl) ?_
                  refine Wy (.tup []) [(7, (.box [(.d (.lit (.int .i64 r88_11.a0))), (.d (.lit (.int .i64 r88_11.a1))), (.d (.lit (.int .i64 r88_11.a2))), (.d (.lit (.int .i64 r88_11.a3)))]))] (Ost rfl) ?_
                  refine Walk.nil ?_
                  refine Then.normal ?_
                  refine Amk 8072 254 ⟨(tp 3 ((.loc 1 0) :: (tp 3 ((.own 2) :: ((.own 3) :: ((.loc 4 0) :: ((.loc 5 0) :: ((.loc 6 0) :: ((.loc 7 0) :: (tp 164 [])))))))))), [.gone, (.box [(.d (.lit (.int .i64 p1.Loc))), (.d (.lit (.int .i64 p1.Time))), (.d (.lit (.int .i64 p1.N)))]), (.fro 43 3 (List.length r69_9) (flatD enc_GChange r69_9)), (.fro 43 3 (List.length r72_9) (flatD enc_GChange r72_9)), (.box [(.d (.lit (.int .i64 r74_10.a0))), (.d (.lit (.int .i64 r74_10.a1))), (.d (.lit (.int .i64 r74_10.a2))), (.d (.lit (.int .i64 r74_10.a3)))]), (.box [(.d (.lit (.int .i64 r76_10.a0))), (.d (.lit (.int .i64 r76_10.a1))), (.d (.lit (.int .i64 r76_10.a2))), (.d (.lit (.int .i64 r76_10.a3)))]), (.box [(.d (.lit (.int .i64 r80_10.a0))), (.d (.lit (.int .i64 r80_10.a1))), (.d (.lit (.int .i64 r80_10.a2))), (.d (.lit (.int .i64 r80_10.a3)))]), (.box [(.d (.lit (.int .i64 r88_11.a0))), (.d (.lit (.int .i64 r88_11.a1))), (.d (.lit (.int .i64 r88_11.a2))), (.d (.lit (.int .i64 r88_11.a3)))])], 0⟩ ?_
                  refine AWP.seq ?_
                  refine AWP.seq ?_
                  refine AWP.text ?_
                  refine Wy (.d (.lit (.int .i64 0))) [] (Omv rfl) ?_
                  refine Walk.nil ?_
                  refine Then.normal ?_
                  refine Amk 16264 254 ⟨(tp 3 ((.loc 1 0) :: (tp 3 ((.own 2) :: ((.own 3) :: ((.loc 4 0) :: ((.loc 5 0) :: ((.loc 6 0) :: ((.loc 7 0) :: ((.d (.lit (.int .i64 0))) :: (tp 163 []))))))))))), [.gone, (.box [(.d (.lit (.int .i64 p1.Loc))), (.d (.lit (.int .i64 p1.Time))), (.d (.lit (.int .i64 p1.N)))]), (.fro 43 3 (List.length r69_9) (flatD enc_GChange r69_9)), (.fro 43 3 (List.length r72_9) (flatD enc_GChange r72_9)), (.box [(.d (.lit (.int .i64 r74_10.a0))), (.d (.lit (.int .i64 r74_10.a1))), (.d (.lit (.int .i64 r74_10.a2))), (.d (.lit (.int .i64 r74_10.a3)))]), (.box [(.d (.lit (.int .i64 r76_10.a0))), (.d (.lit (.int .i64 r76_10.a1))), (.d (.lit (.int .i64 r76_10.a2))), (.d (.lit (.int .i64 r76_10.a3)))]), (.box [(.d (.lit (.int .i64 r80_10.a0))), (.d (.lit (.int .i64 r80_10.a1))), (.d (.lit (.int .i64 r80_10.a2))), (.d (.lit (.int .i64 r80_10.a3)))]), (.box [(.d (.lit (.int .i64 r88_11.a0))), (.d (.lit (.int .i64 r88_11.a1))), (.d (.lit (.int .i64 r88_11.a2))), (.d (.lit (.int .i64 r88_11.a3)))])], 0⟩ ?_
                  refine AWP.block ?_
                  refine Afz [2, 3] ⟨(tp 3 ((.loc 1 0) :: (tp 3 ((.d (.sl (List.length r69_9) (flatD enc_GChange r69_9))) :: ((.d (.sl (List.length r72_9) (flatD enc_GChange r72_9))) :: ((.loc 4 0) :: ((.loc 5 0) :: ((.loc 6 0) :: ((.loc 7 0) :: ((.d (.lit (.int .i64 0))) :: (tp 163 []))))))))))), [.gone, (.box [(.d (.lit (.int .i64 p1.Loc))), (.d (.lit (.int .i64 p1.Time))), (.d (.lit (.int .i64 p1.N)))]), (.fro 43 3 (List.length r69_9) (flatD enc_GChange r69_9)), (.fro 43 3 (List.length r72_9) (flatD enc_GChange r72_9)), (.box [(.d (.lit (.int .i64 r74_10.a0))), (.d (.lit (.int .i64 r74_10.a1))), (.d (.lit (.int .i64 r74_10.a2))), (.d (.lit (.int .i64 r74_10.a3)))]), (.box [(.d (.lit (.int .i64 r76_10.a0))), (.d (.lit (.int .i64 r76_10.a1))), (.d (.lit (.int .i64 r76_10.a2))), (.d (.lit (.int .i64 r76_10.a3)))]), (.box [(.d (.lit (.int .i64 r80_10.a0))), (.d (.lit (.int .i64 r80_10.a1))), (.d (.lit (.int .i64 r80_10.a2))), (.d (.lit (.int .i64 r80_10.a3)))]), (.box [(.d (.lit (.int .i64 r88_11.a0))), (.d (.lit (.int .i64 r88_11.a1))), (.d (.lit (.int .i64 r88_11.a2))), (.d (.lit (.int .i64 r88_11.a3)))])], 0⟩ ?_
                  refine AWP.loopI (α := Nat × Int)
                    (fun x => match x with | (fu_12, y13_12) => (⟨(tp 3 ((.loc 0 0) :: (tp 3 ((.d (.sl (List.length r69_9) (flatD enc_GChange r69_9))) :: ((.d (.sl (List.length r72_9) (flatD enc_GChange r72_9))) :: ((.loc 1 0) :: ((.loc 2 0) :: ((.loc 3 0) :: ((.loc 4 0) :: ((.d (.lit (.int .i64 y13_12))) :: (tp 163 []))))))))))), [(.box [(.d (.lit (.int .i64 p1.Loc))), (.d (.lit (.int .i64 p1.Time))), (.d (.lit (.int .i64 p1.N)))]), (.box [(.d (.lit (.int .i64 r74_10.a0))), (.d (.lit (.int .i64 r74_10.a1))), (.d (.lit (.int .i64 r74_10.a2))), (.d (.lit (.int .i64 r74_10.a3)))]), (.box [(.d (.lit (.int .i64 r76_10.a0))), (.d (.lit (.int .i64 r76_10.a1))), (.d (.lit (.int .i64 r76_10.a2))), (.d (.lit (.int .i64 r76_10.a3)))]), (.box [(.d (.lit (.int .i64 r80_10.a0))), (.d (.lit (.int .i64 r80_10.a1))), (.d (.lit (.int .i64 r80_10.a2))), (.d (.lit (.int .i64 r80_10.a3)))]), (.box [(.d (.lit (.int .i64 r88_11.a0))), (.d (.lit (.int .i64 r88_11.a1))), (.d (.lit (.int .i64 r88_11.a2))), (.d (.lit (.int .i64 r88_11.a3)))])], 0⟩ : St))
                    (fun x => match x with | (fu_12, y13_12) => m_telltalelaw27_FrontMeets_l12 p1 r69_9 r72_9 r74_10 r76_10 r80_10 r88_11 fu_12 y13_12 = some r)
                    (fun x => match x with | (fu_12, y13_12) => fu_12) (1152921504606846976, 0)
                    (Weak.toK 16264 0 0 [1, 4, 5, 6, 7]) hm ?_
                  rintro ⟨fu_12, y13_12⟩ n_12 hm ih_12
                  try dsimp only at hm ih_12 ⊢
                  cases fu_12 with
                  | zero => exact absurd hm (by unfold m_telltalelaw27_FrontMeets_l12; simp)
                  | succ fu_12 =>
                    unfold m_telltalelaw27_FrontMeets_l12 at hm
                    refine AWP.seq ?_
                    refine AWP.seq ?_
                    refine AWP.text ?_
                    refine Wy (.d (.lit (.int .i64 y13_12))) [] (Omv rfl) ?_
                    refine Wy (.d (.lit (.bool (decide (y13_12 < 4))))) [] (Obn rfl (fun _ => hb_lss (k := .i64))) ?_
                    refine Walk.nil ?_
                    refine Then.normal ?_
                    refine Amk 1237940039285380274899140488 31 ⟨(tp 3 ((.loc 0 0) :: (tp 3 ((.d (.sl (List.length r69_9) (flatD enc_GChange r69_9))) :: ((.d (.sl (List.length r72_9) (flatD enc_GChange r72_9))) :: ((.loc 1 0) :: ((.loc 2 0) :: ((.loc 3 0) :: ((.loc 4 0) :: ((.d (.lit (.int .i64 y13_12))) :: (tp 76 ((.d (.lit (.bool (decide (y13_12 < 4))))) :: (tp 86 []))))))))))))), [(.box [(.d (.lit (.int .i64 p1.Loc))), (.d (.lit (.int .i64 p1.Time))), (.d (.lit (.int .i64 p1.N)))]), (.box [(.d (.lit (.int .i64 r74_10.a0))), (.d (.lit (.int .i64 r74_10.a1))), (.d (.lit (.int .i64 r74_10.a2))), (.d (.lit (.int .i64 r74_10.a3)))]), (.box [(.d (.lit (.int .i64 r76_10.a0))), (.d (.lit (.int .i64 r76_10.a1))), (.d (.lit (.int .i64 r76_10.a2))), (.d (.lit (.int .i64 r76_10.a3)))]), (.box [(.d (.lit (.int .i64 r80_10.a0))), (.d (.lit (.int .i64 r80_10.a1))), (.d (.lit (.int .i64 r80_10.a2))), (.d (.lit (.int .i64 r80_10.a3)))]), (.box [(.d (.lit (.int .i64 r88_11.a0))), (.d (.lit (.int .i64 r88_11.a1))), (.d (.lit (.int .i64 r88_11.a2))), (.d (.lit (.int .i64 r88_11.a3)))])], 0⟩ ?_
                    rcases tf_ (decide (y13_12 < 4)) with hc90_26 | hc90_26
                    · replace hm := cT hc90_26 hm
                      refine AWP.if_ true (Eq.trans (by kernel_rfl) (lit_tf (b := decide (y13_12 < 4)) hc90_26)) ?_
                      refine AWP.skip ?_
                      refine Then.normal ?_
                      refine Amk 16264 31 ⟨(tp 3 ((.loc 0 0) :: (tp 3 ((.d (.sl (List.length r69_9) (flatD enc_GChange r69_9))) :: ((.d (.sl (List.length r72_9) (flatD enc_GChange r72_9))) :: ((.loc 1 0) :: ((.loc 2 0) :: ((.loc 3 0) :: ((.loc 4 0) :: ((.d (.lit (.int .i64 y13_12))) :: (tp 163 []))))))))))), [(.box [(.d (.lit (.int .i64 p1.Loc))), (.d (.lit (.int .i64 p1.Time))), (.d (.lit (.int .i64 p1.N)))]), (.box [(.d (.lit (.int .i64 r74_10.a0))), (.d (.lit (.int .i64 r74_10.a1))), (.d (.lit (.int .i64 r74_10.a2))), (.d (.lit (.int .i64 r74_10.a3)))]), (.box [(.d (.lit (.int .i64 r76_10.a0))), (.d (.lit (.int .i64 r76_10.a1))), (.d (.lit (.int .i64 r76_10.a2))), (.d (.lit (.int .i64 r76_10.a3)))]), (.box [(.d (.lit (.int .i64 r80_10.a0))), (.d (.lit (.int .i64 r80_10.a1))), (.d (.lit (.int .i64 r80_10.a2))), (.d (.lit (.int .i64 r80_10.a3)))]), (.box [(.d (.lit (.int .i64 r88_11.a0))), (.d (.lit (.int .i64 r88_11.a1))), (.d (.lit (.int .i64 r88_11.a2))), (.d (.lit (.int .i64 r88_11.a3)))])], 0⟩ ?_
                      refine AWP.seq ?_
                      refine AWP.block ?_
                      refine AWP.cutJ (α := Unit) (fun x => match x with | () => (⟨(tp 3 ((.loc 0 0) :: (tp 3 ((.d (.sl (List.length r69_9) (flatD enc_GChange r69_9))) :: ((.d (.sl (List.length r72_9) (flatD enc_GChange r72_9))) :: ((.loc 1 0) :: ((.loc 2 0) :: ((.loc 3 0) :: ((.loc 4 0) :: ((.d (.lit (.int .i64 y13_12))) :: (tp 163 []))))))))))), [(.box [(.d (.lit (.int .i64 p1.Loc))), (.d (.lit (.int .i64 p1.Time))), (.d (.lit (.int .i64 p1.N)))]), (.box [(.d (.lit (.int .i64 r74_10.a0))), (.d (.lit (.int .i64 r74_10.a1))), (.d (.lit (.int .i64 r74_10.a2))), (.d (.lit (.int .i64 r74_10.a3)))]), (.box [(.d (.lit (.int .i64 r76_10.a0))), (.d (.lit (.int .i64 r76_10.a1))), (.d (.lit (.int .i64 r76_10.a2))), (.d (.lit (.int .i64 r76_10.a3)))]), (.box [(.d (.lit (.int .i64 r80_10.a0))), (.d (.lit (.int .i64 r80_10.a1))), (.d (.lit (.int .i64 r80_10.a2))), (.d (.lit (.int .i64 r80_10.a3)))]), (.box [(.d (.lit (.int .i64 r88_11.a0))), (.d (.lit (.int .i64 r88_11.a1))), (.d (.lit (.int .i64 r88_11.a2))), (.d (.lit (.int .i64 r88_11.a3)))])], 0⟩ : St)) (fun x => match x with | () => m_telltalelaw27_FrontMeets_j19 p1 r69_9 r74_10 r88_11 y13_12 (fun y13_12 => m_telltalelaw27_FrontMeets_l12 p1 r69_9 r72_9 r74_10 r76_10 r80_10 r88_11 fu_12 y13_12) = some r) ?_ (fun J19 => ?_)
                      · rintro ⟨⟩ hm
                        try dsimp only at hm ⊢
                        unfold m_telltalelaw27_FrontMeets_j19 at hm
                        refine AWP.seq ?_
                        refine AWP.text ?_
                        refine Wy (.d (.lit (.int .i64 y13_12))) [] (Omv rfl) ?_
                        obtain ⟨x131_20, hx131_20, hm⟩ := bnd hm
                        obtain ⟨hx131_20i, hx131_20g⟩ := geti_some hx131_20
                        refine Wy (.loc 1 (0 + (Int.toNat y13_12) * 1)) [] (Ocs (by kernel_rfl) (op_iaddr_arr rfl (n := 4) (sz := 1) (y := (.loc 1 0)) (by kernel_rfl) (by kernel_rfl) (by kernel_rfl) (k := .i64) (iv := y13_12) (by kernel_rfl) (i := (Int.toNat y13_12)) (hx131_20i) (getlt hx131_20g))) ?_
                        refine Wy (.d (.lit (.int .i64 x131_20))) [] (OldD rfl (id := 1) (off := 0 + (Int.toNat y13_12) * 1) (cs := [(.d (.lit (.int .i64 r74_10.a0))), (.d (.lit (.int .i64 r74_10.a1))), (.d (.lit (.int .i64 r74_10.a2))), (.d (.lit (.int .i64 r74_10.a3)))]) (xs := (flatD (encI .i64) ([r74_10.a0, r74_10.a1, r74_10.a2, r74_10.a3] : List Int)).map A.d) (by kernel_rfl) (by kernel_rfl) (by kernel_rfl) ((loadA_scalar (by kernel_rfl)).trans (by rw [Nat.zero_add]; exact flat_row_at (l := ([r74_10.a0, r74_10.a1, r74_10.a2, r74_10.a3] : List Int)) (sz := 1) (encI_len (k := .i64)) (hx131_20g) (by kernel_rfl)))) ?_
                        refine Wy (.d (.lit (.int .i64 x131_20))) [] (Omv rfl) ?_
                        refine Walk.nil ?_
                        refine Then.normal ?_
                        refine Amk 32648 31 ⟨(tp 3 ((.loc 0 0) :: (tp 3 ((.d (.sl (List.length r69_9) (flatD enc_GChange r69_9))) :: ((.d (.sl (List.length r72_9) (flatD enc_GChange r72_9))) :: ((.loc 1 0) :: ((.loc 2 0) :: ((.loc 3 0) :: ((.loc 4 0) :: ((.d (.lit (.int .i64 y13_12))) :: ((.d (.lit (.int .i64 x131_20))) :: (tp 162 [])))))))))))), [(.box [(.d (.lit (.int .i64 p1.Loc))), (.d (.lit (.int .i64 p1.Time))), (.d (.lit (.int .i64 p1.N)))]), (.box [(.d (.lit (.int .i64 r74_10.a0))), (.d (.lit (.int .i64 r74_10.a1))), (.d (.lit (.int .i64 r74_10.a2))), (.d (.lit (.int .i64 r74_10.a3)))]), (.box [(.d (.lit (.int .i64 r76_10.a0))), (.d (.lit (.int .i64 r76_10.a1))), (.d (.lit (.int .i64 r76_10.a2))), (.d (.lit (.int .i64 r76_10.a3)))]), (.box [(.d (.lit (.int .i64 r80_10.a0))), (.d (.lit (.int .i64 r80_10.a1))), (.d (.lit (.int .i64 r80_10.a2))), (.d (.lit (.int .i64 r80_10.a3)))]), (.box [(.d (.lit (.int .i64 r88_11.a0))), (.d (.lit (.int .i64 r88_11.a1))), (.d (.lit (.int .i64 r88_11.a2))), (.d (.lit (.int .i64 r88_11.a3)))])], 0⟩ ?_
                        refine AWP.cutJ (α := Int) (fun x => match x with | y14_17 => (⟨(tp 3 ((.loc 0 0) :: (tp 3 ((.d (.sl (List.length r69_9) (flatD enc_GChange r69_9))) :: ((.d (.sl (List.length r72_9) (flatD enc_GChange r72_9))) :: ((.loc 1 0) :: ((.loc 2 0) :: ((.loc 3 0) :: ((.loc 4 0) :: ((.d (.lit (.int .i64 y13_12))) :: ((.d (.lit (.int .i64 y14_17))) :: (tp 162 [])))))))))))), [(.box [(.d (.lit (.int .i64 p1.Loc))), (.d (.lit (.int .i64 p1.Time))), (.d (.lit (.int .i64 p1.N)))]), (.box [(.d (.lit (.int .i64 r74_10.a0))), (.d (.lit (.int .i64 r74_10.a1))), (.d (.lit (.int .i64 r74_10.a2))), (.d (.lit (.int .i64 r74_10.a3)))]), (.box [(.d (.lit (.int .i64 r76_10.a0))), (.d (.lit (.int .i64 r76_10.a1))), (.d (.lit (.int .i64 r76_10.a2))), (.d (.lit (.int .i64 r76_10.a3)))]), (.box [(.d (.lit (.int .i64 r80_10.a0))), (.d (.lit (.int .i64 r80_10.a1))), (.d (.lit (.int .i64 r80_10.a2))), (.d (.lit (.int .i64 r80_10.a3)))]), (.box [(.d (.lit (.int .i64 r88_11.a0))), (.d (.lit (.int .i64 r88_11.a1))), (.d (.lit (.int .i64 r88_11.a2))), (.d (.lit (.int .i64 r88_11.a3)))])], 0⟩ : St)) (fun x => match x with | y14_17 => m_telltalelaw27_FrontMeets_j17 p1 r69_9 r74_10 r88_11 y13_12 (fun y13_12 => m_telltalelaw27_FrontMeets_l12 p1 r69_9 r72_9 r74_10 r76_10 r80_10 r88_11 fu_12 y13_12) y14_17 = some r) ?_ (fun J17 => ?_)
                        · rintro y14_17 hm
                          try dsimp only at hm ⊢
                          unfold m_telltalelaw27_FrontMeets_j17 at hm
                          refine AWP.seq ?_
                          refine Adr ?_
                          refine Wy (.d (.lit (.int .i64 y13_12))) [] (Omv rfl) ?_
                          obtain ⟨x142_18, hx142_18, hm⟩ := bnd hm
                          obtain ⟨hx142_18i, hx142_18g⟩ := geti_some hx142_18
                          refine Wy (.loc 4 (0 + (Int.toNat y13_12) * 1)) [] (Ocs (by kernel_rfl) (op_iaddr_arr rfl (n := 4) (sz := 1) (y := (.loc 4 0)) (by kernel_rfl) (by kernel_rfl) (by kernel_rfl) (k := .i64) (iv := y13_12) (by kernel_rfl) (i := (Int.toNat y13_12)) (hx142_18i) (getlt hx142_18g))) ?_
                          refine Wy (.d (.lit (.int .i64 x142_18))) [] (OldD rfl (id := 4) (off := 0 + (Int.toNat y13_12) * 1) (cs := [(.d (.lit (.int .i64 r88_11.a0))), (.d (.lit (.int .i64 r88_11.a1))), (.d (.lit (.int .i64 r88_11.a2))), (.d (.lit (.int .i64 r88_11.a3)))]) (xs := (flatD (encI .i64) ([r88_11.a0, r88_11.a1, r88_11.a2, r88_11.a3] : List Int)).map A.d) (by kernel_rfl) (by kernel_rfl) (by kernel_rfl) ((loadA_scalar (by kernel_rfl)).trans (by rw [Nat.zero_add]; exact flat_row_at (l := ([r88_11.a0, r88_11.a1, r88_11.a2, r88_11.a3] : List Int)) (sz := 1) (encI_len (k := .i64)) (hx142_18g) (by kernel_rfl)))) ?_
                          refine Wy (.d (.lit (.int .i64 y14_17))) [] (Omv rfl) ?_
                          refine Wy (.d (.lit (.bool (decide (x142_18 ≠ y14_17))))) [] (Obn rfl (fun _ => hb_neq (k := .i64))) ?_
                          rcases tf_ (decide (x142_18 ≠ y14_17)) with hq146_18 | hq146_18
                          · replace hm := cT hq146_18 hm
                            refine Wy (.d (.lit (.bool true))) [] (Ocs (lit_tf (b := decide (x142_18 ≠ y14_17)) hq146_18) (Omv rfl)) ?_
                            refine Wn ?_
                            refine Wn ?_
                            refine Wn ?_
                            refine Wn ?_
                            refine Wn ?_
                            refine Wn ?_
                            refine Wn ?_
                            refine Wn ?_
                            refine Wn ?_
                            refine Wn ?_
                            refine Wn ?_
                            refine Wn ?_
                            refine Wy (.d (.lit (.bool true))) [] (OpT rfl) ?_
                            refine Wdr ?_
                            refine Then.normal ?_
                            refine Amk 730750818665451459101842416358141509827966287752 31 ⟨(tp 3 ((.loc 0 0) :: (tp 3 ((.d (.sl (List.length r69_9) (flatD enc_GChange r69_9))) :: ((.d (.sl (List.length r72_9) (flatD enc_GChange r72_9))) :: ((.loc 1 0) :: ((.loc 2 0) :: ((.loc 3 0) :: ((.loc 4 0) :: ((.d (.lit (.int .i64 y13_12))) :: (tp 145 ((.d (.lit (.bool true))) :: (tp 17 []))))))))))))), [(.box [(.d (.lit (.int .i64 p1.Loc))), (.d (.lit (.int .i64 p1.Time))), (.d (.lit (.int .i64 p1.N)))]), (.box [(.d (.lit (.int .i64 r74_10.a0))), (.d (.lit (.int .i64 r74_10.a1))), (.d (.lit (.int .i64 r74_10.a2))), (.d (.lit (.int .i64 r74_10.a3)))]), (.box [(.d (.lit (.int .i64 r76_10.a0))), (.d (.lit (.int .i64 r76_10.a1))), (.d (.lit (.int .i64 r76_10.a2))), (.d (.lit (.int .i64 r76_10.a3)))]), (.box [(.d (.lit (.int .i64 r80_10.a0))), (.d (.lit (.int .i64 r80_10.a1))), (.d (.lit (.int .i64 r80_10.a2))), (.d (.lit (.int .i64 r80_10.a3)))]), (.box [(.d (.lit (.int .i64 r88_11.a0))), (.d (.lit (.int .i64 r88_11.a1))), (.d (.lit (.int .i64 r88_11.a2))), (.d (.lit (.int .i64 r88_11.a3)))])], 0⟩ ?_
                            refine AWP.if_ true (by kernel_rfl) ?_
                            refine AWP.seq ?_
                            refine AWP.text ?_
                            refine Wy (.d (.lit (.bool false))) [] (Omv rfl) ?_
                            refine Walk.nil ?_
                            refine Then.normal ?_
                            refine AWP.ret ?_
                            refine InBlock.ret ?_
                            refine Then.ret ?_
                            refine RoundK.ret ?_
                            refine InBlock.ret ?_
                            refine Then.ret ?_
                            obtain rfl := Option.some.inj hm
                            exact ret_i []
                          · replace hm := cF hq146_18 hm
                            refine Wy (.d (.lit (.bool false))) [] (Ocs (lit_tf (b := decide (x142_18 ≠ y14_17)) hq146_18) (Omv rfl)) ?_
                            refine Wy (.d (.sl (List.length r69_9) (flatD enc_GChange r69_9))) [] (Omv rfl) ?_
                            refine Wy (.d (.lit (.int .i64 y13_12))) [] (Omv rfl) ?_
                            refine Wy (.loc 0 1) [] (Ofa rfl) ?_
                            refine Wy (.d (.lit (.int .i64 p1.Time))) [] (Old rfl) ?_
                            obtain ⟨r151_18, hr151_18, hm⟩ := bnd hm
                            refine Wy (.d (.lit (.bool r151_18))) [] (Ocf [] [] [] 0 (ok_front_Passed r69_9 y13_12 p1.Time r151_18 hr151_18) (fun a w => Try.call12 a w) rfl trivial) ?_
                            refine Wy (.d (.lit (.int .i64 y13_12))) [] (Omv rfl) ?_
                            obtain ⟨x153_18, hx153_18, hm⟩ := bnd hm
                            obtain ⟨hx153_18i, hx153_18g⟩ := geti_some hx153_18
                            refine Wy (.loc 1 (0 + (Int.toNat y13_12) * 1)) [] (Ocs (by kernel_rfl) (op_iaddr_arr rfl (n := 4) (sz := 1) (y := (.loc 1 0)) (by kernel_rfl) (by kernel_rfl) (by kernel_rfl) (k := .i64) (iv := y13_12) (by kernel_rfl) (i := (Int.toNat y13_12)) (hx153_18i) (getlt hx153_18g))) ?_
                            refine Wy (.d (.lit (.int .i64 x153_18))) [] (OldD rfl (id := 1) (off := 0 + (Int.toNat y13_12) * 1) (cs := [(.d (.lit (.int .i64 r74_10.a0))), (.d (.lit (.int .i64 r74_10.a1))), (.d (.lit (.int .i64 r74_10.a2))), (.d (.lit (.int .i64 r74_10.a3)))]) (xs := (flatD (encI .i64) ([r74_10.a0, r74_10.a1, r74_10.a2, r74_10.a3] : List Int)).map A.d) (by kernel_rfl) (by kernel_rfl) (by kernel_rfl) ((loadA_scalar (by kernel_rfl)).trans (by rw [Nat.zero_add]; exact flat_row_at (l := ([r74_10.a0, r74_10.a1, r74_10.a2, r74_10.a3] : List Int)) (sz := 1) (encI_len (k := .i64)) (hx153_18g) (by kernel_rfl)))) ?_
                            refine Wy (.loc 0 1) [] (Ofa rfl) ?_
                            refine Wy (.d (.lit (.int .i64 p1.Time))) [] (Old rfl) ?_
                            refine Wy (.d (.lit (.bool (decide (p1.Time < x153_18))))) [] (Obn rfl (fun _ => hb_gtr (k := .i64))) ?_
                            refine Wy (.d (.lit (.bool (decide (r151_18 ≠ decide (p1.Time < x153_18)))))) [] (Ocs (by kernel_rfl) (op_bin rfl (a1 := .bool r151_18) (a2 := .bool (decide (p1.Time < x153_18))) (by kernel_rfl) (by kernel_rfl) (fun _ => hb_bneq (by kernel_rfl)))) ?_
                            refine Wy (.d (.lit (.bool (decide (r151_18 ≠ decide (p1.Time < x153_18)))))) [] (OpF rfl) ?_
                            refine Wdr ?_
                            refine Then.normal ?_
                            refine Amk 730750818665451459101842416358141509827966287752 31 ⟨(tp 3 ((.loc 0 0) :: (tp 3 ((.d (.sl (List.length r69_9) (flatD enc_GChange r69_9))) :: ((.d (.sl (List.length r72_9) (flatD enc_GChange r72_9))) :: ((.loc 1 0) :: ((.loc 2 0) :: ((.loc 3 0) :: ((.loc 4 0) :: ((.d (.lit (.int .i64 y13_12))) :: (tp 145 ((.d (.lit (.bool (decide (r151_18 ≠ decide (p1.Time < x153_18)))))) :: (tp 17 []))))))))))))), [(.box [(.d (.lit (.int .i64 p1.Loc))), (.d (.lit (.int .i64 p1.Time))), (.d (.lit (.int .i64 p1.N)))]), (.box [(.d (.lit (.int .i64 r74_10.a0))), (.d (.lit (.int .i64 r74_10.a1))), (.d (.lit (.int .i64 r74_10.a2))), (.d (.lit (.int .i64 r74_10.a3)))]), (.box [(.d (.lit (.int .i64 r76_10.a0))), (.d (.lit (.int .i64 r76_10.a1))), (.d (.lit (.int .i64 r76_10.a2))), (.d (.lit (.int .i64 r76_10.a3)))]), (.box [(.d (.lit (.int .i64 r80_10.a0))), (.d (.lit (.int .i64 r80_10.a1))), (.d (.lit (.int .i64 r80_10.a2))), (.d (.lit (.int .i64 r80_10.a3)))]), (.box [(.d (.lit (.int .i64 r88_11.a0))), (.d (.lit (.int .i64 r88_11.a1))), (.d (.lit (.int .i64 r88_11.a2))), (.d (.lit (.int .i64 r88_11.a3)))])], 0⟩ ?_
                            rcases tf_ (decide (r151_18 ≠ decide (p1.Time < x153_18))) with hc159_27 | hc159_27
                            · replace hm := cT hc159_27 hm
                              refine AWP.if_ true (Eq.trans (by kernel_rfl) (lit_tf (b := decide (r151_18 ≠ decide (p1.Time < x153_18))) hc159_27)) ?_
                              refine AWP.seq ?_
                              refine AWP.text ?_
                              refine Wy (.d (.lit (.bool false))) [] (Omv rfl) ?_
                              refine Walk.nil ?_
                              refine Then.normal ?_
                              refine AWP.ret ?_
                              refine InBlock.ret ?_
                              refine Then.ret ?_
                              refine RoundK.ret ?_
                              refine InBlock.ret ?_
                              refine Then.ret ?_
                              obtain rfl := Option.some.inj hm
                              exact ret_i []
                            · replace hm := cF hc159_27 hm
                              refine AWP.if_ false (Eq.trans (by kernel_rfl) (lit_tf (b := decide (r151_18 ≠ decide (p1.Time < x153_18))) hc159_27)) ?_
                              refine AWP.skip ?_
                              refine InBlock.normal ?_
                              refine Then.normal ?_
                              refine Amk 16264 31 ⟨(tp 3 ((.loc 0 0) :: (tp 3 ((.d (.sl (List.length r69_9) (flatD enc_GChange r69_9))) :: ((.d (.sl (List.length r72_9) (flatD enc_GChange r72_9))) :: ((.loc 1 0) :: ((.loc 2 0) :: ((.loc 3 0) :: ((.loc 4 0) :: ((.d (.lit (.int .i64 y13_12))) :: (tp 163 []))))))))))), [(.box [(.d (.lit (.int .i64 p1.Loc))), (.d (.lit (.int .i64 p1.Time))), (.d (.lit (.int .i64 p1.N)))]), (.box [(.d (.lit (.int .i64 r74_10.a0))), (.d (.lit (.int .i64 r74_10.a1))), (.d (.lit (.int .i64 r74_10.a2))), (.d (.lit (.int .i64 r74_10.a3)))]), (.box [(.d (.lit (.int .i64 r76_10.a0))), (.d (.lit (.int .i64 r76_10.a1))), (.d (.lit (.int .i64 r76_10.a2))), (.d (.lit (.int .i64 r76_10.a3)))]), (.box [(.d (.lit (.int .i64 r80_10.a0))), (.d (.lit (.int .i64 r80_10.a1))), (.d (.lit (.int .i64 r80_10.a2))), (.d (.lit (.int .i64 r80_10.a3)))]), (.box [(.d (.lit (.int .i64 r88_11.a0))), (.d (.lit (.int .i64 r88_11.a1))), (.d (.lit (.int .i64 r88_11.a2))), (.d (.lit (.int .i64 r88_11.a3)))])], 0⟩ ?_
                              refine AWP.text ?_
                              refine Wy (.d (.lit (.int .i64 y13_12))) [] (Omv rfl) ?_
                              refine Wy (.d (.lit (.int .i64 (IntKind.i64.wrap (y13_12 + 1))))) [] (Obn rfl (fun _ => hb_add (k := .i64))) ?_
                              refine Wy (.d (.lit (.int .i64 (IntKind.i64.wrap (y13_12 + 1))))) [] (Omv rfl) ?_
                              refine Walk.nil ?_
                              refine RoundK.normal ?_
                              exact Rounds.weak (Weak.toK 16264 0 0 [0, 1, 2, 3, 4]) (ih_12 (fu_12, (IntKind.i64.wrap (y13_12 + 1))) hm (Nat.lt_succ_self _))
                        refine AWP.seq ?_
                        refine AWP.seq ?_
                        refine AWP.text ?_
                        refine Wy (.loc 0 0) [] (Ofa rfl) ?_
                        refine Wy (.d (.lit (.int .i64 p1.Loc))) [] (Old rfl) ?_
                        refine Wy (.d (.lit (.int .i64 y13_12))) [] (Omv rfl) ?_
                        obtain ⟨r136_15, hr136_15, hm⟩ := bnd hm
                        refine Wy (.d (.lit (.bool r136_15))) [] (Ocf [] [] [] 0 (ok_front_Leads p1.Loc y13_12 r136_15 hr136_15) (fun a w => Try.call15 a w) rfl trivial) ?_
                        refine Walk.nil ?_
                        refine Then.normal ?_
                        refine Amk 87112285931760246646623899502532662165384 31 ⟨(tp 3 ((.loc 0 0) :: (tp 3 ((.d (.sl (List.length r69_9) (flatD enc_GChange r69_9))) :: ((.d (.sl (List.length r72_9) (flatD enc_GChange r72_9))) :: ((.loc 1 0) :: ((.loc 2 0) :: ((.loc 3 0) :: ((.loc 4 0) :: ((.d (.lit (.int .i64 y13_12))) :: ((.d (.lit (.int .i64 x131_20))) :: (tp 121 ((.d (.lit (.bool r136_15))) :: (tp 40 [])))))))))))))), [(.box [(.d (.lit (.int .i64 p1.Loc))), (.d (.lit (.int .i64 p1.Time))), (.d (.lit (.int .i64 p1.N)))]), (.box [(.d (.lit (.int .i64 r74_10.a0))), (.d (.lit (.int .i64 r74_10.a1))), (.d (.lit (.int .i64 r74_10.a2))), (.d (.lit (.int .i64 r74_10.a3)))]), (.box [(.d (.lit (.int .i64 r76_10.a0))), (.d (.lit (.int .i64 r76_10.a1))), (.d (.lit (.int .i64 r76_10.a2))), (.d (.lit (.int .i64 r76_10.a3)))]), (.box [(.d (.lit (.int .i64 r80_10.a0))), (.d (.lit (.int .i64 r80_10.a1))), (.d (.lit (.int .i64 r80_10.a2))), (.d (.lit (.int .i64 r80_10.a3)))]), (.box [(.d (.lit (.int .i64 r88_11.a0))), (.d (.lit (.int .i64 r88_11.a1))), (.d (.lit (.int .i64 r88_11.a2))), (.d (.lit (.int .i64 r88_11.a3)))])], 0⟩ ?_
                        rcases tf_ r136_15 with hc136_28 | hc136_28
                        · replace hm := cT hc136_28 hm
                          refine AWP.if_ true (Eq.trans (by kernel_rfl) (lit_tf (b := r136_15) hc136_28)) ?_
                          refine AWP.text ?_
                          refine Wy (.d (.lit (.int .i64 x131_20))) [] (Omv rfl) ?_
                          refine Wy (.loc 0 1) [] (Ofa rfl) ?_
                          refine Wy (.d (.lit (.int .i64 p1.Time))) [] (Old rfl) ?_
                          refine Wy (.d (.lit (.int .i64 (min x131_20 p1.Time)))) [] (op_bi2 rfl (a1 := .int .i64 x131_20) (a2 := .int .i64 p1.Time) (by kernel_rfl) (by kernel_rfl) hb_min) ?_
                          refine Wy (.d (.lit (.int .i64 (min x131_20 p1.Time)))) [] (Omv rfl) ?_
                          refine Walk.nil ?_
                          refine Then.normal ?_
                          exact AWP.weak (Weak.toK 32648 0 0 [0, 1, 2, 3, 4]) (J17 ((min x131_20 p1.Time)) hm)
                        · replace hm := cF hc136_28 hm
                          refine AWP.if_ false (Eq.trans (by kernel_rfl) (lit_tf (b := r136_15) hc136_28)) ?_
                          refine AWP.skip ?_
                          refine Then.normal ?_
                          exact AWP.weak (Weak.toK 32648 0 0 [0, 1, 2, 3, 4]) (J17 (x131_20) hm)
                      refine AWP.seq ?_
                      refine AWP.cutJ (α := Unit) (fun x => match x with | () => (⟨(tp 3 ((.loc 0 0) :: (tp 3 ((.d (.sl (List.length r69_9) (flatD enc_GChange r69_9))) :: ((.d (.sl (List.length r72_9) (flatD enc_GChange r72_9))) :: ((.loc 1 0) :: ((.loc 2 0) :: ((.loc 3 0) :: ((.loc 4 0) :: ((.d (.lit (.int .i64 y13_12))) :: (tp 115 ((.d (.lit (.bool true))) :: (tp 47 []))))))))))))), [(.box [(.d (.lit (.int .i64 p1.Loc))), (.d (.lit (.int .i64 p1.Time))), (.d (.lit (.int .i64 p1.N)))]), (.box [(.d (.lit (.int .i64 r74_10.a0))), (.d (.lit (.int .i64 r74_10.a1))), (.d (.lit (.int .i64 r74_10.a2))), (.d (.lit (.int .i64 r74_10.a3)))]), (.box [(.d (.lit (.int .i64 r76_10.a0))), (.d (.lit (.int .i64 r76_10.a1))), (.d (.lit (.int .i64 r76_10.a2))), (.d (.lit (.int .i64 r76_10.a3)))]), (.box [(.d (.lit (.int .i64 r80_10.a0))), (.d (.lit (.int .i64 r80_10.a1))), (.d (.lit (.int .i64 r80_10.a2))), (.d (.lit (.int .i64 r80_10.a3)))]), (.box [(.d (.lit (.int .i64 r88_11.a0))), (.d (.lit (.int .i64 r88_11.a1))), (.d (.lit (.int .i64 r88_11.a2))), (.d (.lit (.int .i64 r88_11.a3)))])], 0⟩ : St)) (fun x => match x with | () => m_telltalelaw27_FrontMeets_j14  = some r) ?_ (fun J14 => ?_)
                      · rintro ⟨⟩ hm
                        try dsimp only at hm ⊢
                        unfold m_telltalelaw27_FrontMeets_j14 at hm
                        refine AWP.if_ true (by kernel_rfl) ?_
                        refine AWP.seq ?_
                        refine AWP.text ?_
                        refine Wy (.d (.lit (.bool false))) [] (Omv rfl) ?_
                        refine Walk.nil ?_
                        refine Then.normal ?_
                        refine AWP.ret ?_
                        refine Then.ret ?_
                        refine InBlock.ret ?_
                        refine Then.ret ?_
                        refine RoundK.ret ?_
                        refine InBlock.ret ?_
                        refine Then.ret ?_
                        obtain rfl := Option.some.inj hm
                        exact ret_i []
                      refine AWP.seq ?_
                      refine Adr ?_
                      refine Wy (.d (.lit (.int .i64 y13_12))) [] (Omv rfl) ?_
                      obtain ⟨x94_13, hx94_13, hm⟩ := bnd hm
                      obtain ⟨hx94_13i, hx94_13g⟩ := geti_some hx94_13
                      refine Wy (.loc 3 (0 + (Int.toNat y13_12) * 1)) [] (Ocs (by kernel_rfl) (op_iaddr_arr rfl (n := 4) (sz := 1) (y := (.loc 3 0)) (by kernel_rfl) (by kernel_rfl) (by kernel_rfl) (k := .i64) (iv := y13_12) (by kernel_rfl) (i := (Int.toNat y13_12)) (hx94_13i) (getlt hx94_13g))) ?_
                      refine Wy (.d (.lit (.int .i64 x94_13))) [] (OldD rfl (id := 3) (off := 0 + (Int.toNat y13_12) * 1) (cs := [(.d (.lit (.int .i64 r80_10.a0))), (.d (.lit (.int .i64 r80_10.a1))), (.d (.lit (.int .i64 r80_10.a2))), (.d (.lit (.int .i64 r80_10.a3)))]) (xs := (flatD (encI .i64) ([r80_10.a0, r80_10.a1, r80_10.a2, r80_10.a3] : List Int)).map A.d) (by kernel_rfl) (by kernel_rfl) (by kernel_rfl) ((loadA_scalar (by kernel_rfl)).trans (by rw [Nat.zero_add]; exact flat_row_at (l := ([r80_10.a0, r80_10.a1, r80_10.a2, r80_10.a3] : List Int)) (sz := 1) (encI_len (k := .i64)) (hx94_13g) (by kernel_rfl)))) ?_
                      refine Wy (.d (.lit (.int .i64 y13_12))) [] (Omv rfl) ?_
                      obtain ⟨x97_13, hx97_13, hm⟩ := bnd hm
                      obtain ⟨hx97_13i, hx97_13g⟩ := geti_some hx97_13
                      refine Wy (.loc 1 (0 + (Int.toNat y13_12) * 1)) [] (Ocs (by kernel_rfl) (op_iaddr_arr rfl (n := 4) (sz := 1) (y := (.loc 1 0)) (by kernel_rfl) (by kernel_rfl) (by kernel_rfl) (k := .i64) (iv := y13_12) (by kernel_rfl) (i := (Int.toNat y13_12)) (hx97_13i) (getlt hx97_13g))) ?_
                      refine Wy (.d (.lit (.int .i64 x97_13))) [] (OldD rfl (id := 1) (off := 0 + (Int.toNat y13_12) * 1) (cs := [(.d (.lit (.int .i64 r74_10.a0))), (.d (.lit (.int .i64 r74_10.a1))), (.d (.lit (.int .i64 r74_10.a2))), (.d (.lit (.int .i64 r74_10.a3)))]) (xs := (flatD (encI .i64) ([r74_10.a0, r74_10.a1, r74_10.a2, r74_10.a3] : List Int)).map A.d) (by kernel_rfl) (by kernel_rfl) (by kernel_rfl) ((loadA_scalar (by kernel_rfl)).trans (by rw [Nat.zero_add]; exact flat_row_at (l := ([r74_10.a0, r74_10.a1, r74_10.a2, r74_10.a3] : List Int)) (sz := 1) (encI_len (k := .i64)) (hx97_13g) (by kernel_rfl)))) ?_
                      refine Wy (.d (.lit (.int .i64 y13_12))) [] (Omv rfl) ?_
                      obtain ⟨x100_13, hx100_13, hm⟩ := bnd hm
                      obtain ⟨hx100_13i, hx100_13g⟩ := geti_some hx100_13
                      refine Wy (.loc 2 (0 + (Int.toNat y13_12) * 1)) [] (Ocs (by kernel_rfl) (op_iaddr_arr rfl (n := 4) (sz := 1) (y := (.loc 2 0)) (by kernel_rfl) (by kernel_rfl) (by kernel_rfl) (k := .i64) (iv := y13_12) (by kernel_rfl) (i := (Int.toNat y13_12)) (hx100_13i) (getlt hx100_13g))) ?_
                      refine Wy (.d (.lit (.int .i64 x100_13))) [] (OldD rfl (id := 2) (off := 0 + (Int.toNat y13_12) * 1) (cs := [(.d (.lit (.int .i64 r76_10.a0))), (.d (.lit (.int .i64 r76_10.a1))), (.d (.lit (.int .i64 r76_10.a2))), (.d (.lit (.int .i64 r76_10.a3)))]) (xs := (flatD (encI .i64) ([r76_10.a0, r76_10.a1, r76_10.a2, r76_10.a3] : List Int)).map A.d) (by kernel_rfl) (by kernel_rfl) (by kernel_rfl) ((loadA_scalar (by kernel_rfl)).trans (by rw [Nat.zero_add]; exact flat_row_at (l := ([r76_10.a0, r76_10.a1, r76_10.a2, r76_10.a3] : List Int)) (sz := 1) (encI_len (k := .i64)) (hx100_13g) (by kernel_rfl)))) ?_
                      refine Wy (.d (.lit (.int .i64 (min x97_13 x100_13)))) [] (op_bi2 rfl (a1 := .int .i64 x97_13) (a2 := .int .i64 x100_13) (by kernel_rfl) (by kernel_rfl) hb_min) ?_
                      refine Wy (.d (.lit (.bool (decide (x94_13 ≠ (min x97_13 x100_13)))))) [] (Obn rfl (fun _ => hb_neq (k := .i64))) ?_
                      rcases tf_ (decide (x94_13 ≠ (min x97_13 x100_13))) with hq104_13 | hq104_13
                      · replace hm := cT hq104_13 hm
                        refine Wy (.d (.lit (.bool true))) [] (Ocs (lit_tf (b := decide (x94_13 ≠ (min x97_13 x100_13))) hq104_13) (Omv rfl)) ?_
                        refine Wn ?_
                        refine Wn ?_
                        refine Wn ?_
                        refine Wn ?_
                        refine Wy (.d (.lit (.bool true))) [] (OpT rfl) ?_
                        refine Wy (.d (.lit (.bool true))) [] (Omv rfl) ?_
                        refine Wn ?_
                        refine Wn ?_
                        refine Wn ?_
                        refine Wn ?_
                        refine Wy (.d (.lit (.bool true))) [] (OpT rfl) ?_
                        refine Wy (.d (.lit (.bool true))) [] (Omv rfl) ?_
                        refine Wn ?_
                        refine Wn ?_
                        refine Wn ?_
                        refine Wn ?_
                        refine Wn ?_
                        refine Wn ?_
                        refine Wn ?_
                        refine Wn ?_
                        refine Wn ?_
                        refine Wn ?_
                        refine Wn ?_
                        refine Wn ?_
                        refine Wy (.d (.lit (.bool true))) [] (OpT rfl) ?_
                        refine Wdr ?_
                        refine Then.normal ?_
                        exact AWP.weak (Weak.toK 680564733841876926926749214863536439176 0 0 [0, 1, 2, 3, 4]) (J14 () hm)
                      · replace hm := cF hq104_13 hm
                        refine Wy (.d (.lit (.bool false))) [] (Ocs (lit_tf (b := decide (x94_13 ≠ (min x97_13 x100_13))) hq104_13) (Omv rfl)) ?_
                        refine Wy (.d (.lit (.int .i64 y13_12))) [] (Omv rfl) ?_
                        obtain ⟨x106_13, hx106_13, hm⟩ := bnd hm
                        obtain ⟨hx106_13i, hx106_13g⟩ := geti_some hx106_13
                        refine Wy (.loc 1 (0 + (Int.toNat y13_12) * 1)) [] (Ocs (by kernel_rfl) (op_iaddr_arr rfl (n := 4) (sz := 1) (y := (.loc 1 0)) (by kernel_rfl) (by kernel_rfl) (by kernel_rfl) (k := .i64) (iv := y13_12) (by kernel_rfl) (i := (Int.toNat y13_12)) (hx106_13i) (getlt hx106_13g))) ?_
                        refine Wy (.d (.lit (.int .i64 x106_13))) [] (OldD rfl (id := 1) (off := 0 + (Int.toNat y13_12) * 1) (cs := [(.d (.lit (.int .i64 r74_10.a0))), (.d (.lit (.int .i64 r74_10.a1))), (.d (.lit (.int .i64 r74_10.a2))), (.d (.lit (.int .i64 r74_10.a3)))]) (xs := (flatD (encI .i64) ([r74_10.a0, r74_10.a1, r74_10.a2, r74_10.a3] : List Int)).map A.d) (by kernel_rfl) (by kernel_rfl) (by kernel_rfl) ((loadA_scalar (by kernel_rfl)).trans (by rw [Nat.zero_add]; exact flat_row_at (l := ([r74_10.a0, r74_10.a1, r74_10.a2, r74_10.a3] : List Int)) (sz := 1) (encI_len (k := .i64)) (hx106_13g) (by kernel_rfl)))) ?_
                        refine Wy (.d (.lit (.bool (decide (x106_13 < 0))))) [] (Obn rfl (fun _ => hb_lss (k := .i64))) ?_
                        refine Wy (.d (.lit (.bool (decide (x106_13 < 0))))) [] (OpF rfl) ?_
                        rcases tf_ (decide (x106_13 < 0)) with hq110_13 | hq110_13
                        · replace hm := cT hq110_13 hm
                          refine Wy (.d (.lit (.bool true))) [] (Ocs (lit_tf (b := decide (x106_13 < 0)) hq110_13) (Omv rfl)) ?_
                          refine Wn ?_
                          refine Wn ?_
                          refine Wn ?_
                          refine Wn ?_
                          refine Wy (.d (.lit (.bool true))) [] (OpT rfl) ?_
                          refine Wy (.d (.lit (.bool true))) [] (Omv rfl) ?_
                          refine Wn ?_
                          refine Wn ?_
                          refine Wn ?_
                          refine Wn ?_
                          refine Wn ?_
                          refine Wn ?_
                          refine Wn ?_
                          refine Wn ?_
                          refine Wn ?_
                          refine Wn ?_
                          refine Wn ?_
                          refine Wn ?_
                          refine Wy (.d (.lit (.bool true))) [] (OpT rfl) ?_
                          refine Wdr ?_
                          refine Then.normal ?_
                          exact AWP.weak (Weak.toK 680564733841876926926749214863536439176 0 0 [0, 1, 2, 3, 4]) (J14 () hm)
                        · replace hm := cF hq110_13 hm
                          refine Wy (.d (.lit (.bool false))) [] (Ocs (lit_tf (b := decide (x106_13 < 0)) hq110_13) (Omv rfl)) ?_
                          refine Wy (.d (.lit (.int .i64 y13_12))) [] (Omv rfl) ?_
                          obtain ⟨x112_13, hx112_13, hm⟩ := bnd hm
                          obtain ⟨hx112_13i, hx112_13g⟩ := geti_some hx112_13
                          refine Wy (.loc 1 (0 + (Int.toNat y13_12) * 1)) [] (Ocs (by kernel_rfl) (op_iaddr_arr rfl (n := 4) (sz := 1) (y := (.loc 1 0)) (by kernel_rfl) (by kernel_rfl) (by kernel_rfl) (k := .i64) (iv := y13_12) (by kernel_rfl) (i := (Int.toNat y13_12)) (hx112_13i) (getlt hx112_13g))) ?_
                          refine Wy (.d (.lit (.int .i64 x112_13))) [] (OldD rfl (id := 1) (off := 0 + (Int.toNat y13_12) * 1) (cs := [(.d (.lit (.int .i64 r74_10.a0))), (.d (.lit (.int .i64 r74_10.a1))), (.d (.lit (.int .i64 r74_10.a2))), (.d (.lit (.int .i64 r74_10.a3)))]) (xs := (flatD (encI .i64) ([r74_10.a0, r74_10.a1, r74_10.a2, r74_10.a3] : List Int)).map A.d) (by kernel_rfl) (by kernel_rfl) (by kernel_rfl) ((loadA_scalar (by kernel_rfl)).trans (by rw [Nat.zero_add]; exact flat_row_at (l := ([r74_10.a0, r74_10.a1, r74_10.a2, r74_10.a3] : List Int)) (sz := 1) (encI_len (k := .i64)) (hx112_13g) (by kernel_rfl)))) ?_
                          refine Wy (.d (.lit (.bool (decide ((1099511627777 : Int) < x112_13))))) [] (Obn rfl (fun _ => hb_gtr (k := .i64))) ?_
                          refine Wy (.d (.lit (.bool (decide ((1099511627777 : Int) < x112_13))))) [] (OpF rfl) ?_
                          rcases tf_ (decide ((1099511627777 : Int) < x112_13)) with hq116_13 | hq116_13
                          · replace hm := cT hq116_13 hm
                            refine Wy (.d (.lit (.bool true))) [] (Ocs (lit_tf (b := decide ((1099511627777 : Int) < x112_13)) hq116_13) (Omv rfl)) ?_
                            refine Wn ?_
                            refine Wn ?_
                            refine Wn ?_
                            refine Wn ?_
                            refine Wn ?_
                            refine Wn ?_
                            refine Wn ?_
                            refine Wn ?_
                            refine Wn ?_
                            refine Wn ?_
                            refine Wn ?_
                            refine Wn ?_
                            refine Wy (.d (.lit (.bool true))) [] (OpT rfl) ?_
                            refine Wdr ?_
                            refine Then.normal ?_
                            exact AWP.weak (Weak.toK 680564733841876926926749214863536439176 0 0 [0, 1, 2, 3, 4]) (J14 () hm)
                          · replace hm := cF hq116_13 hm
                            refine Wy (.d (.lit (.bool false))) [] (Ocs (lit_tf (b := decide ((1099511627777 : Int) < x112_13)) hq116_13) (Omv rfl)) ?_
                            refine Wy (.d (.lit (.int .i64 y13_12))) [] (Omv rfl) ?_
                            refine Wy (.d (.lit (.bool (decide ((0 : Int) < y13_12))))) [] (Obn rfl (fun _ => hb_gtr (k := .i64))) ?_
                            rcases tf_ (decide ((0 : Int) < y13_12)) with hq119_13 | hq119_13
                            · replace hm := cT hq119_13 hm
                              refine Wy (.d (.lit (.bool true))) [] (Ocs (lit_tf (b := decide ((0 : Int) < y13_12)) hq119_13) (Omv rfl)) ?_
                              refine Wy (.d (.lit (.int .i64 y13_12))) [] (Omv rfl) ?_
                              obtain ⟨x121_13, hx121_13, hm⟩ := bnd hm
                              obtain ⟨hx121_13i, hx121_13g⟩ := geti_some hx121_13
                              refine Wy (.loc 1 (0 + (Int.toNat y13_12) * 1)) [] (Ocs (by kernel_rfl) (op_iaddr_arr rfl (n := 4) (sz := 1) (y := (.loc 1 0)) (by kernel_rfl) (by kernel_rfl) (by kernel_rfl) (k := .i64) (iv := y13_12) (by kernel_rfl) (i := (Int.toNat y13_12)) (hx121_13i) (getlt hx121_13g))) ?_
                              refine Wy (.d (.lit (.int .i64 x121_13))) [] (OldD rfl (id := 1) (off := 0 + (Int.toNat y13_12) * 1) (cs := [(.d (.lit (.int .i64 r74_10.a0))), (.d (.lit (.int .i64 r74_10.a1))), (.d (.lit (.int .i64 r74_10.a2))), (.d (.lit (.int .i64 r74_10.a3)))]) (xs := (flatD (encI .i64) ([r74_10.a0, r74_10.a1, r74_10.a2, r74_10.a3] : List Int)).map A.d) (by kernel_rfl) (by kernel_rfl) (by kernel_rfl) ((loadA_scalar (by kernel_rfl)).trans (by rw [Nat.zero_add]; exact flat_row_at (l := ([r74_10.a0, r74_10.a1, r74_10.a2, r74_10.a3] : List Int)) (sz := 1) (encI_len (k := .i64)) (hx121_13g) (by kernel_rfl)))) ?_
                              refine Wy (.d (.lit (.int .i64 y13_12))) [] (Omv rfl) ?_
                              refine Wy (.d (.lit (.int .i64 (IntKind.i64.wrap (y13_12 - 1))))) [] (Obn rfl (fun _ => hb_sub (k := .i64))) ?_
                              obtain ⟨x125_13, hx125_13, hm⟩ := bnd hm
                              obtain ⟨hx125_13i, hx125_13g⟩ := geti_some hx125_13
                              refine Wy (.loc 1 (0 + (Int.toNat (IntKind.i64.wrap (y13_12 - 1))) * 1)) [] (Ocs (by kernel_rfl) (op_iaddr_arr rfl (n := 4) (sz := 1) (y := (.loc 1 0)) (by kernel_rfl) (by kernel_rfl) (by kernel_rfl) (k := .i64) (iv := (IntKind.i64.wrap (y13_12 - 1))) (by kernel_rfl) (i := (Int.toNat (IntKind.i64.wrap (y13_12 - 1)))) (hx125_13i) (getlt hx125_13g))) ?_
                              refine Wy (.d (.lit (.int .i64 x125_13))) [] (OldD rfl (id := 1) (off := 0 + (Int.toNat (IntKind.i64.wrap (y13_12 - 1))) * 1) (cs := [(.d (.lit (.int .i64 r74_10.a0))), (.d (.lit (.int .i64 r74_10.a1))), (.d (.lit (.int .i64 r74_10.a2))), (.d (.lit (.int .i64 r74_10.a3)))]) (xs := (flatD (encI .i64) ([r74_10.a0, r74_10.a1, r74_10.a2, r74_10.a3] : List Int)).map A.d) (by kernel_rfl) (by kernel_rfl) (by kernel_rfl) ((loadA_scalar (by kernel_rfl)).trans (by rw [Nat.zero_add]; exact flat_row_at (l := ([r74_10.a0, r74_10.a1, r74_10.a2, r74_10.a3] : List Int)) (sz := 1) (encI_len (k := .i64)) (hx125_13g) (by kernel_rfl)))) ?_
                              refine Wy (.d (.lit (.bool (decide (x125_13 < x121_13))))) [] (Obn rfl (fun _ => hb_gtr (k := .i64))) ?_
                              refine Wy (.d (.lit (.bool (decide (x125_13 < x121_13))))) [] (OpT rfl) ?_
                              refine Wy (.d (.lit (.bool (decide (x125_13 < x121_13))))) [] (OpF rfl) ?_
                              refine Wdr ?_
                              refine Then.normal ?_
                              refine Amk 680564733841876926926749214863536439176 31 ⟨(tp 3 ((.loc 0 0) :: (tp 3 ((.d (.sl (List.length r69_9) (flatD enc_GChange r69_9))) :: ((.d (.sl (List.length r72_9) (flatD enc_GChange r72_9))) :: ((.loc 1 0) :: ((.loc 2 0) :: ((.loc 3 0) :: ((.loc 4 0) :: ((.d (.lit (.int .i64 y13_12))) :: (tp 115 ((.d (.lit (.bool (decide (x125_13 < x121_13))))) :: (tp 47 []))))))))))))), [(.box [(.d (.lit (.int .i64 p1.Loc))), (.d (.lit (.int .i64 p1.Time))), (.d (.lit (.int .i64 p1.N)))]), (.box [(.d (.lit (.int .i64 r74_10.a0))), (.d (.lit (.int .i64 r74_10.a1))), (.d (.lit (.int .i64 r74_10.a2))), (.d (.lit (.int .i64 r74_10.a3)))]), (.box [(.d (.lit (.int .i64 r76_10.a0))), (.d (.lit (.int .i64 r76_10.a1))), (.d (.lit (.int .i64 r76_10.a2))), (.d (.lit (.int .i64 r76_10.a3)))]), (.box [(.d (.lit (.int .i64 r80_10.a0))), (.d (.lit (.int .i64 r80_10.a1))), (.d (.lit (.int .i64 r80_10.a2))), (.d (.lit (.int .i64 r80_10.a3)))]), (.box [(.d (.lit (.int .i64 r88_11.a0))), (.d (.lit (.int .i64 r88_11.a1))), (.d (.lit (.int .i64 r88_11.a2))), (.d (.lit (.int .i64 r88_11.a3)))])], 0⟩ ?_
                              rcases tf_ (decide (x125_13 < x121_13)) with hc129_29 | hc129_29
                              · replace hm := cT hc129_29 hm
                                refine AWP.if_ true (Eq.trans (by kernel_rfl) (lit_tf (b := decide (x125_13 < x121_13)) hc129_29)) ?_
                                refine AWP.seq ?_
                                refine AWP.text ?_
                                refine Wy (.d (.lit (.bool false))) [] (Omv rfl) ?_
                                refine Walk.nil ?_
                                refine Then.normal ?_
                                refine AWP.ret ?_
                                refine Then.ret ?_
                                refine InBlock.ret ?_
                                refine Then.ret ?_
                                refine RoundK.ret ?_
                                refine InBlock.ret ?_
                                refine Then.ret ?_
                                obtain rfl := Option.some.inj hm
                                exact ret_i []
                              · replace hm := cF hc129_29 hm
                                refine AWP.if_ false (Eq.trans (by kernel_rfl) (lit_tf (b := decide (x125_13 < x121_13)) hc129_29)) ?_
                                refine AWP.skip ?_
                                refine Then.normal ?_
                                exact AWP.weak (Weak.toK 16264 0 0 [0, 1, 2, 3, 4]) (J19 () hm)
                            · replace hm := cF hq119_13 hm
                              refine Wy (.d (.lit (.bool false))) [] (Ocs (lit_tf (b := decide ((0 : Int) < y13_12)) hq119_13) (Omv rfl)) ?_
                              refine Wn ?_
                              refine Wn ?_
                              refine Wn ?_
                              refine Wn ?_
                              refine Wn ?_
                              refine Wn ?_
                              refine Wn ?_
                              refine Wn ?_
                              refine Wy (.d (.lit (.bool false))) [] (OpF rfl) ?_
                              refine Wy (.d (.lit (.bool false))) [] (OpF rfl) ?_
                              refine Wdr ?_
                              refine Then.normal ?_
                              refine Amk 680564733841876926926749214863536439176 31 ⟨(tp 3 ((.loc 0 0) :: (tp 3 ((.d (.sl (List.length r69_9) (flatD enc_GChange r69_9))) :: ((.d (.sl (List.length r72_9) (flatD enc_GChange r72_9))) :: ((.loc 1 0) :: ((.loc 2 0) :: ((.loc 3 0) :: ((.loc 4 0) :: ((.d (.lit (.int .i64 y13_12))) :: (tp 115 ((.d (.lit (.bool false))) :: (tp 47 []))))))))))))), [(.box [(.d (.lit (.int .i64 p1.Loc))), (.d (.lit (.int .i64 p1.Time))), (.d (.lit (.int .i64 p1.N)))]), (.box [(.d (.lit (.int .i64 r74_10.a0))), (.d (.lit (.int .i64 r74_10.a1))), (.d (.lit (.int .i64 r74_10.a2))), (.d (.lit (.int .i64 r74_10.a3)))]), (.box [(.d (.lit (.int .i64 r76_10.a0))), (.d (.lit (.int .i64 r76_10.a1))), (.d (.lit (.int .i64 r76_10.a2))), (.d (.lit (.int .i64 r76_10.a3)))]), (.box [(.d (.lit (.int .i64 r80_10.a0))), (.d (.lit (.int .i64 r80_10.a1))), (.d (.lit (.int .i64 r80_10.a2))), (.d (.lit (.int .i64 r80_10.a3)))]), (.box [(.d (.lit (.int .i64 r88_11.a0))), (.d (.lit (.int .i64 r88_11.a1))), (.d (.lit (.int .i64 r88_11.a2))), (.d (.lit (.int .i64 r88_11.a3)))])], 0⟩ ?_
                              refine AWP.if_ false (by kernel_rfl) ?_
                              refine AWP.skip ?_
                              refine Then.normal ?_
                              exact AWP.weak (Weak.toK 16264 0 0 [0, 1, 2, 3, 4]) (J19 () hm)
                    · replace hm := cF hc90_26 hm
                      refine AWP.if_ false (Eq.trans (by kernel_rfl) (lit_tf (b := decide (y13_12 < 4)) hc90_26)) ?_
                      refine AWP.exit ?_
                      refine Then.exit ?_
                      refine RoundK.exit ?_
                      refine InBlock.same ?_
                      refine Then.normal ?_
                      refine Amk 384 0 ⟨(tp 7 ((.d (.sl (List.length r69_9) (flatD enc_GChange r69_9))) :: ((.d (.sl (List.length r72_9) (flatD enc_GChange r72_9))) :: (tp 168 [])))), [.gone, .gone, .gone, .gone, .gone], 0⟩ ?_
                      refine AWP.seq ?_
                      refine AWP.text ?_
                      refine Wy (.d (.sl (List.length r69_9) (flatD enc_GChange r69_9))) [] (Omv rfl) ?_
                      refine Wy (.d (.sl (List.length r72_9) (flatD enc_GChange r72_9))) [] (Omv rfl) ?_
                      obtain ⟨r162_21, hr162_21, hm⟩ := bnd hm
                      refine Wy (.d (.sl (List.length r162_21) (flatD enc_GChange r162_21))) [] (Ocf [] [] [] 0 (ok_tally_Merge r69_9 r72_9 r162_21 hr162_21) (fun a w => Try.call17 a w) rfl trivial) ?_
                      refine Wy (.d (.sl (List.length r69_9) (flatD enc_GChange r69_9))) [] (Omv rfl) ?_
                      obtain ⟨r164_21, hr164_21, hm⟩ := bnd hm
                      refine Wy (.d (.lit (.bool r164_21))) [] (Ocf [] [] [] 0 (ok_front_Drops r162_21 r69_9 r164_21 hr164_21) (fun a w => Try.call13 a w) rfl trivial) ?_
                      refine Wy (.d (.lit (.bool (!r164_21)))) [] (Ocs (by kernel_rfl) (op_un rfl (a1 := .bool r164_21) (by kernel_rfl) (fun _ => hu_not))) ?_
                      rcases tf_ (!r164_21) with hq166_21 | hq166_21
                      · replace hm := cT hq166_21 hm
                        refine Wy (.d (.lit (.bool true))) [] (Ocs (lit_tf (b := (!r164_21)) hq166_21) (Omv rfl)) ?_
                        refine Wy (.d (.sl (List.length r69_9) (flatD enc_GChange r69_9))) [] (Omv rfl) ?_
                        refine Wy (.d (.sl (List.length r69_9) (flatD enc_GChange r69_9))) [] (Omv rfl) ?_
                        obtain ⟨r169_21, hr169_21, hm⟩ := bnd hm
                        refine Wy (.d (.sl (List.length r169_21) (flatD enc_GChange r169_21))) [] (Ocf [] [] [] 0 (ok_tally_Neg r69_9 r169_21 hr169_21) (fun a w => Try.call19 a w) rfl trivial) ?_
                        obtain ⟨r170_21, hr170_21, hm⟩ := bnd hm
                        refine Wy (.d (.sl (List.length r170_21) (flatD enc_GChange r170_21))) [] (Ocf [] [] [] 0 (ok_tally_Neg r169_21 r170_21 hr170_21) (fun a w => Try.call19 a w) rfl trivial) ?_
                        obtain ⟨r171_21, hr171_21, hm⟩ := bnd hm
                        refine Wy (.d (.lit (.bool r171_21))) [] (Ocf [] [] [] 0 (ok_front_Drops r69_9 r170_21 r171_21 hr171_21) (fun a w => Try.call13 a w) rfl trivial) ?_
                        refine Wy (.d (.lit (.bool (!r171_21)))) [] (Ocs (by kernel_rfl) (op_un rfl (a1 := .bool r171_21) (by kernel_rfl) (fun _ => hu_not))) ?_
                        refine Wy (.d (.lit (.bool (!r171_21)))) [] (OpT rfl) ?_
                        rcases tf_ (!r171_21) with hq174_21 | hq174_21
                        · replace hm := cT hq174_21 hm
                          refine Wy (.d (.lit (.bool true))) [] (Ocs (lit_tf (b := (!r171_21)) hq174_21) (Omv rfl)) ?_
                          obtain ⟨r175_21, hr175_21, hm⟩ := bnd hm
                          refine Wy (.d (.lit (.bool r175_21))) [] (Ocf [] [] [] 0 (ok_telltalelaw27_awake  r175_21 hr175_21) (fun a w => Try.call6 a w) rfl trivial) ?_
                          refine Wy (.d (.lit (.bool r175_21))) [] (OpT rfl) ?_
                          refine Wy (.d (.lit (.bool r175_21))) [] (Omv rfl) ?_
                          refine Walk.nil ?_
                          refine Then.normal ?_
                          refine AWP.ret ?_
                          obtain rfl := Option.some.inj hm
                          exact ret_i []
                        · replace hm := cF hq174_21 hm
                          refine Wy (.d (.lit (.bool false))) [] (Ocs (lit_tf (b := (!r171_21)) hq174_21) (Omv rfl)) ?_
                          refine Wn ?_
                          refine Wy (.d (.lit (.bool false))) [] (OpF rfl) ?_
                          refine Wy (.d (.lit (.bool false))) [] (Omv rfl) ?_
                          refine Walk.nil ?_
                          refine Then.normal ?_
                          refine AWP.ret ?_
                          obtain rfl := Option.some.inj hm
                          exact ret_i []
                      · replace hm := cF hq166_21 hm
                        refine Wy (.d (.lit (.bool false))) [] (Ocs (lit_tf (b := (!r164_21)) hq166_21) (Omv rfl)) ?_
                        refine Wn ?_
                        refine Wn ?_
                        refine Wn ?_
                        refine Wn ?_
                        refine Wn ?_
                        refine Wn ?_
                        refine Wy (.d (.lit (.bool false))) [] (OpF rfl) ?_
                        refine Wy (.d (.lit (.bool false))) [] (Omv rfl) ?_
                        refine Wn ?_
                        refine Wy (.d (.lit (.bool false))) [] (OpF rfl) ?_
                        refine Wy (.d (.lit (.bool false))) [] (Omv rfl) ?_
                        refine Walk.nil ?_
                        refine Then.normal ?_
                        refine AWP.ret ?_
                        obtain rfl := Option.some.inj hm
                        exact ret_i []
end Go.Proofs.Ythcilaomjkaciaa.K
