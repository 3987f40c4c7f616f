/- each function computes what its model says (8) -/
import Derived.Test.YtlbajkdbbffefaaL7
namespace Go.Proofs.Ytlbajkdbbffefaa.K
open Go.RowKit Go.Lib
set_option linter.unusedVariables false
set_option linter.unusedSimpArgs false

set_option maxRecDepth 20000 in
set_option maxHeartbeats 4000000 in
theorem ok_telltalelaw21_RunsFew (p0 : Int) (p1 : (List GRun)) (p2 : GArr3_Int) (r : Bool) (h : m_telltalelaw21_RunsFew p0 p1 p2 = some r) : GCall Try.prog 5 [(.d (.lit (.int .i64 p0))), (.d (.sl (List.length p1) (flatD enc_GRun p1))), (.agg [(.d (.lit (.int .i64 p2.a0))), (.d (.lit (.int .i64 p2.a1))), (.d (.lit (.int .i64 p2.a2)))])] [] (.d (.lit (.bool r))) [] := by
  refine GCall.of_body (n := 227) (rs := [(.tmp 6)]) Try.func5 rfl rfl rfl ?_
  refine Ato ⟨((.d (.lit (.int .i64 p0))) :: ((.d (.sl (List.length p1) (flatD enc_GRun p1))) :: ((.agg [(.d (.lit (.int .i64 p2.a0))), (.d (.lit (.int .i64 p2.a1))), (.d (.lit (.int .i64 p2.a2)))]) :: (tu 224 [])))), [], 0⟩ ?_
  have hm := h
  unfold m_telltalelaw21_RunsFew at hm
  refine AWP.seq ?_
  refine AWP.text ?_
  refine Wy (.loc 0 0) [(0, (.box [(.d (.lit (.int .i64 p2.a0))), (.d (.lit (.int .i64 p2.a1))), (.d (.lit (.int .i64 p2.a2)))]))] (Obx rfl) ?_
  refine Wy (.d (.lit (.bool false))) [] (Omv rfl) ?_
  refine Walk.nil ?_
  refine Then.normal ?_
  refine Amk 35 1 ⟨((.d (.lit (.int .i64 p0))) :: ((.d (.sl (List.length p1) (flatD enc_GRun p1))) :: (tp 3 ((.loc 0 0) :: (tp 221 []))))), [(.box [(.d (.lit (.int .i64 p2.a0))), (.d (.lit (.int .i64 p2.a1))), (.d (.lit (.int .i64 p2.a2)))])], 0⟩ ?_
  refine AWP.seq ?_
  refine AWP.cutJ (α := Unit) (fun x => match x with | () => (⟨((.d (.lit (.int .i64 p0))) :: ((.d (.sl (List.length p1) (flatD enc_GRun p1))) :: (tp 3 ((.loc 0 0) :: (tp 53 ((.d (.lit (.bool true))) :: (tp 167 []))))))), [(.box [(.d (.lit (.int .i64 p2.a0))), (.d (.lit (.int .i64 p2.a1))), (.d (.lit (.int .i64 p2.a2)))])], 0⟩ : St)) (fun x => match x with | () => m_telltalelaw21_RunsFew_j1  = some r) ?_ (fun J1 => ?_)
  · rintro ⟨⟩ hm
    try dsimp only at hm ⊢
    unfold m_telltalelaw21_RunsFew_j1 at hm
    refine AWP.if_ true (by kernel_rfl) ?_
    refine AWP.seq ?_
    refine AWP.text ?_
    obtain ⟨r60_2, hr60_2, hm⟩ := bnd hm
    refine Wy (.d (.lit (.bool r60_2))) [] (Ocf [] [] [] 0 (ok_telltalelaw21_awake  r60_2 hr60_2) (fun a w => Try.call7 a w) rfl trivial) ?_
    refine Wy (.d (.lit (.bool r60_2))) [] (Omv rfl) ?_
    refine Walk.nil ?_
    refine Then.normal ?_
    refine AWP.ret ?_
    refine Then.ret ?_
    obtain rfl := Option.some.inj hm
    exact ret_i []
  refine AWP.seq ?_
  refine AWP.text ?_
  refine Wy (.d (.sl (List.length p1) (flatD enc_GRun p1))) [] (Omv rfl) ?_
  refine Wy (.agg [(.d (.lit (.int .i64 0))), (.d (.sl (List.length p1) (flatD enc_GRun p1)))]) [] (Obd rfl) ?_
  obtain ⟨r23_0, hr23_0, hm⟩ := bnd hm
  refine Wy (.d (.lit (.int .i64 r23_0))) [] (Ocf [] [] [] 0 (ok_telltalelaw21_Over (GRuns.mk 0 p1) r23_0 hr23_0) (fun a w => Try.call6 a w) rfl trivial) ?_
  refine Wy (.d (.lit (.bool (decide ((0 : Int) < r23_0))))) [] (Obn rfl (fun _ => hb_gtr (k := .i64))) ?_
  rcases tf_ (decide ((0 : Int) < r23_0)) with hq25_0 | hq25_0
  · replace hm := cT hq25_0 hm
    refine Wy (.d (.lit (.bool true))) [] (Ocs (lit_tf (b := decide ((0 : Int) < r23_0)) hq25_0) (Omv rfl)) ?_
    refine Wn ?_
    refine Wn ?_
    refine Wy (.d (.lit (.bool true))) [] (OpT rfl) ?_
    refine Wy (.d (.lit (.bool true))) [] (Omv rfl) ?_
    refine Wn ?_
    refine Wn ?_
    refine Wy (.d (.lit (.bool true))) [] (OpT rfl) ?_
    refine Wy (.d (.lit (.bool true))) [] (Omv rfl) ?_
    refine Wn ?_
    refine Wn ?_
    refine Wn ?_
    refine Wy (.d (.lit (.bool true))) [] (OpT rfl) ?_
    refine Wy (.d (.lit (.bool true))) [] (Omv rfl) ?_
    refine Wn ?_
    refine Wn ?_
    refine Wn ?_
    refine Wn ?_
    refine Wn ?_
    refine Wy (.d (.lit (.bool true))) [] (OpT rfl) ?_
    refine Wy (.d (.lit (.bool true))) [] (Omv rfl) ?_
    refine Wn ?_
    refine Wn ?_
    refine Wn ?_
    refine Wy (.d (.lit (.bool true))) [] (OpT rfl) ?_
    refine Wy (.d (.lit (.bool true))) [] (Omv rfl) ?_
    refine Wn ?_
    refine Wn ?_
    refine Wn ?_
    refine Wy (.d (.lit (.bool true))) [] (OpT rfl) ?_
    refine Wy (.d (.lit (.bool true))) [] (Omv rfl) ?_
    refine Wn ?_
    refine Wn ?_
    refine Wn ?_
    refine Wy (.d (.lit (.bool true))) [] (OpT rfl) ?_
    refine Walk.nil ?_
    refine Then.normal ?_
    exact AWP.weak (Weak.toK 576460752303423523 0 0 [0]) (J1 () hm)
  · replace hm := cF hq25_0 hm
    refine Wy (.d (.lit (.bool false))) [] (Ocs (lit_tf (b := decide ((0 : Int) < r23_0)) hq25_0) (Omv rfl)) ?_
    refine Wy (.d (.lit (.int .i64 p0))) [] (Omv rfl) ?_
    refine Wy (.d (.lit (.bool (decide (p0 < 1))))) [] (Obn rfl (fun _ => hb_lss (k := .i64))) ?_
    refine Wy (.d (.lit (.bool (decide (p0 < 1))))) [] (OpF rfl) ?_
    rcases tf_ (decide (p0 < 1)) with hq29_0 | hq29_0
    · replace hm := cT hq29_0 hm
      refine Wy (.d (.lit (.bool true))) [] (Ocs (lit_tf (b := decide (p0 < 1)) hq29_0) (Omv rfl)) ?_
      refine Wn ?_
      refine Wn ?_
      refine Wy (.d (.lit (.bool true))) [] (OpT rfl) ?_
      refine Wy (.d (.lit (.bool true))) [] (Omv rfl) ?_
      refine Wn ?_
      refine Wn ?_
      refine Wn ?_
      refine Wy (.d (.lit (.bool true))) [] (OpT rfl) ?_
      refine Wy (.d (.lit (.bool true))) [] (Omv rfl) ?_
      refine Wn ?_
      refine Wn ?_
      refine Wn ?_
      refine Wn ?_
      refine Wn ?_
      refine Wy (.d (.lit (.bool true))) [] (OpT rfl) ?_
      refine Wy (.d (.lit (.bool true))) [] (Omv rfl) ?_
      refine Wn ?_
      refine Wn ?_
      refine Wn ?_
      refine Wy (.d (.lit (.bool true))) [] (OpT rfl) ?_
      refine Wy (.d (.lit (.bool true))) [] (Omv rfl) ?_
      refine Wn ?_
      refine Wn ?_
      refine Wn ?_
      refine Wy (.d (.lit (.bool true))) [] (OpT rfl) ?_
      refine Wy (.d (.lit (.bool true))) [] (Omv rfl) ?_
      refine Wn ?_
      refine Wn ?_
      refine Wn ?_
      refine Wy (.d (.lit (.bool true))) [] (OpT rfl) ?_
      refine Walk.nil ?_
      refine Then.normal ?_
      exact AWP.weak (Weak.toK 576460752303423523 0 0 [0]) (J1 () hm)
    · replace hm := cF hq29_0 hm
      refine Wy (.d (.lit (.bool false))) [] (Ocs (lit_tf (b := decide (p0 < 1)) hq29_0) (Omv rfl)) ?_
      refine Wy (.d (.lit (.int .i64 p0))) [] (Omv rfl) ?_
      refine Wy (.d (.lit (.bool (decide ((8 : Int) < p0))))) [] (Obn rfl (fun _ => hb_gtr (k := .i64))) ?_
      refine Wy (.d (.lit (.bool (decide ((8 : Int) < p0))))) [] (OpF rfl) ?_
      rcases tf_ (decide ((8 : Int) < p0)) with hq33_0 | hq33_0
      · replace hm := cT hq33_0 hm
        refine Wy (.d (.lit (.bool true))) [] (Ocs (lit_tf (b := decide ((8 : Int) < p0)) hq33_0) (Omv rfl)) ?_
        refine Wn ?_
        refine Wn ?_
        refine Wn ?_
        refine Wy (.d (.lit (.bool true))) [] (OpT rfl) ?_
        refine Wy (.d (.lit (.bool true))) [] (Omv rfl) ?_
        refine Wn ?_
        refine Wn ?_
        refine Wn ?_
        refine Wn ?_
        refine Wn ?_
        refine Wy (.d (.lit (.bool true))) [] (OpT rfl) ?_
        refine Wy (.d (.lit (.bool true))) [] (Omv rfl) ?_
        refine Wn ?_
        refine Wn ?_
        refine Wn ?_
        refine Wy (.d (.lit (.bool true))) [] (OpT rfl) ?_
        refine Wy (.d (.lit (.bool true))) [] (Omv rfl) ?_
        refine Wn ?_
        refine Wn ?_
        refine Wn ?_
        refine Wy (.d (.lit (.bool true))) [] (OpT rfl) ?_
        refine Wy (.d (.lit (.bool true))) [] (Omv rfl) ?_
        refine Wn ?_
        refine Wn ?_
        refine Wn ?_
        refine Wy (.d (.lit (.bool true))) [] (OpT rfl) ?_
        refine Walk.nil ?_
        refine Then.normal ?_
        exact AWP.weak (Weak.toK 576460752303423523 0 0 [0]) (J1 () hm)
      · replace hm := cF hq33_0 hm
        refine Wy (.d (.lit (.bool false))) [] (Ocs (lit_tf (b := decide ((8 : Int) < p0)) hq33_0) (Omv rfl)) ?_
        refine Wy (.loc 0 0) [] (Ocs (by kernel_rfl) (op_iaddr_arr rfl (n := 3) (sz := 1) (y := (.loc 0 0)) (by kernel_rfl) (by kernel_rfl) (by kernel_rfl) (k := .i64) (iv := 0) (by kernel_rfl) (i := 0) (by rfl) (by decide))) ?_
        refine Wy (.d (.lit (.int .i64 p2.a0))) [] (Old rfl) ?_
        refine Wy (.d (.lit (.bool (decide (p2.a0 < 0))))) [] (Obn rfl (fun _ => hb_lss (k := .i64))) ?_
        refine Wy (.d (.lit (.bool (decide (p2.a0 < 0))))) [] (OpF rfl) ?_
        rcases tf_ (decide (p2.a0 < 0)) with hq38_0 | hq38_0
        · replace hm := cT hq38_0 hm
          refine Wy (.d (.lit (.bool true))) [] (Ocs (lit_tf (b := decide (p2.a0 < 0)) hq38_0) (Omv rfl)) ?_
          refine Wn ?_
          refine Wn ?_
          refine Wn ?_
          refine Wn ?_
          refine Wn ?_
          refine Wy (.d (.lit (.bool true))) [] (OpT rfl) ?_
          refine Wy (.d (.lit (.bool true))) [] (Omv rfl) ?_
          refine Wn ?_
          refine Wn ?_
          refine Wn ?_
          refine Wy (.d (.lit (.bool true))) [] (OpT rfl) ?_
          refine Wy (.d (.lit (.bool true))) [] (Omv rfl) ?_
          refine Wn ?_
          refine Wn ?_
          refine Wn ?_
          refine Wy (.d (.lit (.bool true))) [] (OpT rfl) ?_
          refine Wy (.d (.lit (.bool true))) [] (Omv rfl) ?_
          refine Wn ?_
          refine Wn ?_
          refine Wn ?_
          refine Wy (.d (.lit (.bool true))) [] (OpT rfl) ?_
          refine Walk.nil ?_
          refine Then.normal ?_
          exact AWP.weak (Weak.toK 576460752303423523 0 0 [0]) (J1 () hm)
        · replace hm := cF hq38_0 hm
          refine Wy (.d (.lit (.bool false))) [] (Ocs (lit_tf (b := decide (p2.a0 < 0)) hq38_0) (Omv rfl)) ?_
          refine Wy (.loc 0 1) [] (Ocs (by kernel_rfl) (op_iaddr_arr rfl (n := 3) (sz := 1) (y := (.loc 0 0)) (by kernel_rfl) (by kernel_rfl) (by kernel_rfl) (k := .i64) (iv := 1) (by kernel_rfl) (i := 1) (by rfl) (by decide))) ?_
          refine Wy (.d (.lit (.int .i64 p2.a1))) [] (Old rfl) ?_
          refine Wy (.loc 0 0) [] (Ocs (by kernel_rfl) (op_iaddr_arr rfl (n := 3) (sz := 1) (y := (.loc 0 0)) (by kernel_rfl) (by kernel_rfl) (by kernel_rfl) (k := .i64) (iv := 0) (by kernel_rfl) (i := 0) (by rfl) (by decide))) ?_
          refine Wy (.d (.lit (.int .i64 p2.a0))) [] (Old rfl) ?_
          refine Wy (.d (.lit (.bool (decide (p2.a1 < p2.a0))))) [] (Obn rfl (fun _ => hb_lss (k := .i64))) ?_
          refine Wy (.d (.lit (.bool (decide (p2.a1 < p2.a0))))) [] (OpF rfl) ?_
          rcases tf_ (decide (p2.a1 < p2.a0)) with hq45_0 | hq45_0
          · replace hm := cT hq45_0 hm
            refine Wy (.d (.lit (.bool true))) [] (Ocs (lit_tf (b := decide (p2.a1 < p2.a0)) hq45_0) (Omv rfl)) ?_
            refine Wn ?_
            refine Wn ?_
            refine Wn ?_
            refine Wy (.d (.lit (.bool true))) [] (OpT rfl) ?_
            refine Wy (.d (.lit (.bool true))) [] (Omv rfl) ?_
            refine Wn ?_
            refine Wn ?_
            refine Wn ?_
            refine Wy (.d (.lit (.bool true))) [] (OpT rfl) ?_
            refine Wy (.d (.lit (.bool true))) [] (Omv rfl) ?_
            refine Wn ?_
            refine Wn ?_
            refine Wn ?_
            refine Wy (.d (.lit (.bool true))) [] (OpT rfl) ?_
            refine Walk.nil ?_
            refine Then.normal ?_
            exact AWP.weak (Weak.toK 576460752303423523 0 0 [0]) (J1 () hm)
          · replace hm := cF hq45_0 hm
            refine Wy (.d (.lit (.bool false))) [] (Ocs (lit_tf (b := decide (p2.a1 < p2.a0)) hq45_0) (Omv rfl)) ?_
            refine Wy (.loc 0 1) [] (Ocs (by kernel_rfl) (op_iaddr_arr rfl (n := 3) (sz := 1) (y := (.loc 0 0)) (by kernel_rfl) (by kernel_rfl) (by kernel_rfl) (k := .i64) (iv := 1) (by kernel_rfl) (i := 1) (by rfl) (by decide))) ?_
            refine Wy (.d (.lit (.int .i64 p2.a1))) [] (Old rfl) ?_
            refine Wy (.d (.lit (.bool (decide ((1000 : Int) < p2.a1))))) [] (Obn rfl (fun _ => hb_gtr (k := .i64))) ?_
            refine Wy (.d (.lit (.bool (decide ((1000 : Int) < p2.a1))))) [] (OpF rfl) ?_
            rcases tf_ (decide ((1000 : Int) < p2.a1)) with hq50_0 | hq50_0
            · replace hm := cT hq50_0 hm
              refine Wy (.d (.lit (.bool true))) [] (Ocs (lit_tf (b := decide ((1000 : Int) < p2.a1)) hq50_0) (Omv rfl)) ?_
              refine Wn ?_
              refine Wn ?_
              refine Wn ?_
              refine Wy (.d (.lit (.bool true))) [] (OpT rfl) ?_
              refine Wy (.d (.lit (.bool true))) [] (Omv rfl) ?_
              refine Wn ?_
              refine Wn ?_
              refine Wn ?_
              refine Wy (.d (.lit (.bool true))) [] (OpT rfl) ?_
              refine Walk.nil ?_
              refine Then.normal ?_
              exact AWP.weak (Weak.toK 576460752303423523 0 0 [0]) (J1 () hm)
            · replace hm := cF hq50_0 hm
              refine Wy (.d (.lit (.bool false))) [] (Ocs (lit_tf (b := decide ((1000 : Int) < p2.a1)) hq50_0) (Omv rfl)) ?_
              refine Wy (.loc 0 2) [] (Ocs (by kernel_rfl) (op_iaddr_arr rfl (n := 3) (sz := 1) (y := (.loc 0 0)) (by kernel_rfl) (by kernel_rfl) (by kernel_rfl) (k := .i64) (iv := 2) (by kernel_rfl) (i := 2) (by rfl) (by decide))) ?_
              refine Wy (.d (.lit (.int .i64 p2.a2))) [] (Old rfl) ?_
              refine Wy (.d (.lit (.bool (decide (p2.a2 < 0))))) [] (Obn rfl (fun _ => hb_lss (k := .i64))) ?_
              refine Wy (.d (.lit (.bool (decide (p2.a2 < 0))))) [] (OpF rfl) ?_
              rcases tf_ (decide (p2.a2 < 0)) with hq55_0 | hq55_0
              · replace hm := cT hq55_0 hm
                refine Wy (.d (.lit (.bool true))) [] (Ocs (lit_tf (b := decide (p2.a2 < 0)) hq55_0) (Omv rfl)) ?_
                refine Wn ?_
                refine Wn ?_
                refine Wn ?_
                refine Wy (.d (.lit (.bool true))) [] (OpT rfl) ?_
                refine Walk.nil ?_
                refine Then.normal ?_
                exact AWP.weak (Weak.toK 576460752303423523 0 0 [0]) (J1 () hm)
              · replace hm := cF hq55_0 hm
                refine Wy (.d (.lit (.bool false))) [] (Ocs (lit_tf (b := decide (p2.a2 < 0)) hq55_0) (Omv rfl)) ?_
                refine Wy (.loc 0 2) [] (Ocs (by kernel_rfl) (op_iaddr_arr rfl (n := 3) (sz := 1) (y := (.loc 0 0)) (by kernel_rfl) (by kernel_rfl) (by kernel_rfl) (k := .i64) (iv := 2) (by kernel_rfl) (i := 2) (by rfl) (by decide))) ?_
                refine Wy (.d (.lit (.int .i64 p2.a2))) [] (Old rfl) ?_
                refine Wy (.d (.lit (.bool (decide ((1000 : Int) < p2.a2))))) [] (Obn rfl (fun _ => hb_gtr (k := .i64))) ?_
                refine Wy (.d (.lit (.bool (decide ((1000 : Int) < p2.a2))))) [] (OpF rfl) ?_
                refine Walk.nil ?_
                refine Then.normal ?_
                refine Amk 576460752303423523 1 ⟨((.d (.lit (.int .i64 p0))) :: ((.d (.sl (List.length p1) (flatD enc_GRun p1))) :: (tp 3 ((.loc 0 0) :: (tp 53 ((.d (.lit (.bool (decide ((1000 : Int) < p2.a2))))) :: (tp 167 []))))))), [(.box [(.d (.lit (.int .i64 p2.a0))), (.d (.lit (.int .i64 p2.a1))), (.d (.lit (.int .i64 p2.a2)))])], 0⟩ ?_
                rcases tf_ (decide ((1000 : Int) < p2.a2)) with hc59_26 | hc59_26
                · replace hm := cT hc59_26 hm
                  refine AWP.if_ true (Eq.trans (by kernel_rfl) (lit_tf (b := decide ((1000 : Int) < p2.a2)) hc59_26)) ?_
                  refine AWP.seq ?_
                  refine AWP.text ?_
                  obtain ⟨r60_3, hr60_3, hm⟩ := bnd hm
                  refine Wy (.d (.lit (.bool r60_3))) [] (Ocf [] [] [] 0 (ok_telltalelaw21_awake  r60_3 hr60_3) (fun a w => Try.call7 a w) rfl trivial) ?_
                  refine Wy (.d (.lit (.bool r60_3))) [] (Omv rfl) ?_
                  refine Walk.nil ?_
                  refine Then.normal ?_
                  refine AWP.ret ?_
                  refine Then.ret ?_
                  obtain rfl := Option.some.inj hm
                  exact ret_i []
                · replace hm := cF hc59_26 hm
                  refine AWP.if_ false (Eq.trans (by kernel_rfl) (lit_tf (b := decide ((1000 : Int) < p2.a2)) hc59_26)) ?_
                  refine AWP.skip ?_
                  refine Then.normal ?_
                  refine Amk 35 1 ⟨((.d (.lit (.int .i64 p0))) :: ((.d (.sl (List.length p1) (flatD enc_GRun p1))) :: (tp 3 ((.loc 0 0) :: (tp 221 []))))), [(.box [(.d (.lit (.int .i64 p2.a0))), (.d (.lit (.int .i64 p2.a1))), (.d (.lit (.int .i64 p2.a2)))])], 0⟩ ?_
                  refine AWP.seq ?_
                  refine AWP.text ?_
                  refine Wy (.d (.lit (.int .i64 p0))) [] (Omv rfl) ?_
                  obtain ⟨r63_4, hr63_4, hm⟩ := bnd hm
                  refine Wy (.tup [(.agg [(.d (.lit (.int .i64 r63_4.1.Cap))), (.d (.sl (List.length r63_4.1.L) (flatD enc_GRun r63_4.1.L)))]), (.d (.lit (.int .i64 r63_4.2)))]) [] (Ocf [] [] [] 0 (ok_runs_New p0 r63_4 hr63_4) (fun a w => Try.call12 a w) rfl trivial) ?_
                  refine Wy (.tup [(.agg [(.d (.lit (.int .i64 r63_4.1.Cap))), (.d (.sl (List.length r63_4.1.L) (flatD enc_GRun r63_4.1.L)))]), (.d (.lit (.int .i64 r63_4.2)))]) [] (Omv rfl) ?_
                  refine Wy (.agg [(.d (.lit (.int .i64 r63_4.1.Cap))), (.d (.sl (List.length r63_4.1.L) (flatD enc_GRun r63_4.1.L)))]) [] (Oex rfl) ?_
                  refine Wy (.d (.lit (.int .i64 r63_4.2))) [] (Oex rfl) ?_
                  refine Wy (.loc 1 0) [(1, (.box [(.d (.lit (.int .i64 0))), (.d .nil)]))] (Oal rfl) ?_
                  refine Wy (.tup []) [(1, (.box [(.d (.lit (.int .i64 r63_4.1.Cap))), (.d (.sl (List.length r63_4.1.L) (flatD enc_GRun r63_4.1.L)))]))] (Ost rfl) ?_
                  refine Wy (.d (.lit (.int .i64 r63_4.2))) [] (Omv rfl) ?_
                  refine Walk.nil ?_
                  refine Then.normal ?_
                  refine Amk 419 3 ⟨((.d (.lit (.int .i64 p0))) :: ((.d (.sl (List.length p1) (flatD enc_GRun p1))) :: (tp 3 ((.loc 0 0) :: (tp 1 ((.loc 1 0) :: ((.d (.lit (.int .i64 r63_4.2))) :: (tp 218 [])))))))), [(.box [(.d (.lit (.int .i64 p2.a0))), (.d (.lit (.int .i64 p2.a1))), (.d (.lit (.int .i64 p2.a2)))]), (.box [(.d (.lit (.int .i64 r63_4.1.Cap))), (.d (.sl (List.length r63_4.1.L) (flatD enc_GRun r63_4.1.L)))])], 0⟩ ?_
                  refine AWP.seq ?_
                  refine AWP.seq ?_
                  refine AWP.text ?_
                  refine Wy (.d (.lit (.int .i64 r63_4.2))) [] (Omv rfl) ?_
                  refine Wy (.d (.lit (.bool (decide (r63_4.2 ≠ 0))))) [] (Obn rfl (fun _ => hb_neq (k := .i64))) ?_
                  refine Walk.nil ?_
                  refine Then.normal ?_
                  refine Amk 147573952589676413091 3 ⟨((.d (.lit (.int .i64 p0))) :: ((.d (.sl (List.length p1) (flatD enc_GRun p1))) :: (tp 3 ((.loc 0 0) :: (tp 1 ((.loc 1 0) :: (tp 59 ((.d (.lit (.bool (decide (r63_4.2 ≠ 0))))) :: (tp 159 []))))))))), [(.box [(.d (.lit (.int .i64 p2.a0))), (.d (.lit (.int .i64 p2.a1))), (.d (.lit (.int .i64 p2.a2)))]), (.box [(.d (.lit (.int .i64 r63_4.1.Cap))), (.d (.sl (List.length r63_4.1.L) (flatD enc_GRun r63_4.1.L)))])], 0⟩ ?_
                  rcases tf_ (decide (r63_4.2 ≠ 0)) with hc67_27 | hc67_27
                  · replace hm := cT hc67_27 hm
                    refine AWP.if_ true (Eq.trans (by kernel_rfl) (lit_tf (b := decide (r63_4.2 ≠ 0)) hc67_27)) ?_
                    refine AWP.seq ?_
                    refine AWP.text ?_
                    refine Wy (.d (.lit (.bool false))) [] (Omv rfl) ?_
                    refine Walk.nil ?_
                    refine Then.normal ?_
                    refine AWP.ret ?_
                    refine Then.ret ?_
                    obtain rfl := Option.some.inj hm
                    exact ret_i []
                  · replace hm := cF hc67_27 hm
                    refine AWP.if_ false (Eq.trans (by kernel_rfl) (lit_tf (b := decide (r63_4.2 ≠ 0)) hc67_27)) ?_
                    refine AWP.skip ?_
                    refine Then.normal ?_
                    refine Amk 163 3 ⟨((.d (.lit (.int .i64 p0))) :: ((.d (.sl (List.length p1) (flatD enc_GRun p1))) :: (tp 3 ((.loc 0 0) :: (tp 1 ((.loc 1 0) :: (tp 219 []))))))), [(.box [(.d (.lit (.int .i64 p2.a0))), (.d (.lit (.int .i64 p2.a1))), (.d (.lit (.int .i64 p2.a2)))]), (.box [(.d (.lit (.int .i64 r63_4.1.Cap))), (.d (.sl (List.length r63_4.1.L) (flatD enc_GRun r63_4.1.L)))])], 0⟩ ?_
                    refine AWP.seq ?_
                    refine AWP.seq ?_
                    refine AWP.text ?_
                    refine Wy (.d (.lit (.int .i64 0))) [] (Omv rfl) ?_
                    refine Walk.nil ?_
                    refine Then.normal ?_
                    refine Amk 675 3 ⟨((.d (.lit (.int .i64 p0))) :: ((.d (.sl (List.length p1) (flatD enc_GRun p1))) :: (tp 3 ((.loc 0 0) :: (tp 1 ((.loc 1 0) :: (tp 1 ((.d (.lit (.int .i64 0))) :: (tp 217 []))))))))), [(.box [(.d (.lit (.int .i64 p2.a0))), (.d (.lit (.int .i64 p2.a1))), (.d (.lit (.int .i64 p2.a2)))]), (.box [(.d (.lit (.int .i64 r63_4.1.Cap))), (.d (.sl (List.length r63_4.1.L) (flatD enc_GRun r63_4.1.L)))])], 0⟩ ?_
                    refine AWP.block ?_
                    refine AWP.loopI (α := Nat × Int × (List GRun) × Int)
                      (fun x => match x with | (fu_5, y7_d_0_5, y7_d_1_5, y9_5) => (⟨((.d (.lit (.int .i64 p0))) :: ((.d (.sl (List.length p1) (flatD enc_GRun p1))) :: (tp 3 ((.loc 0 0) :: (tp 1 ((.loc 1 0) :: (tp 1 ((.d (.lit (.int .i64 y9_5))) :: (tp 217 []))))))))), [(.box [(.d (.lit (.int .i64 p2.a0))), (.d (.lit (.int .i64 p2.a1))), (.d (.lit (.int .i64 p2.a2)))]), (.box [(.d (.lit (.int .i64 y7_d_0_5))), (.d (.sl (List.length y7_d_1_5) (flatD enc_GRun y7_d_1_5)))])], 0⟩ : St))
                      (fun x => match x with | (fu_5, y7_d_0_5, y7_d_1_5, y9_5) => m_telltalelaw21_RunsFew_l5 p0 p1 p2 fu_5 y7_d_0_5 y7_d_1_5 y9_5 = some r)
                      (fun x => match x with | (fu_5, y7_d_0_5, y7_d_1_5, y9_5) => fu_5) (1152921504606846976, r63_4.1.Cap, r63_4.1.L, 0)
                      (Weak.toK 675 0 0 [0, 1]) hm ?_
                    rintro ⟨fu_5, y7_d_0_5, y7_d_1_5, y9_5⟩ n_5 hm ih_5
                    try dsimp only at hm ih_5 ⊢
                    cases fu_5 with
                    | zero => exact absurd hm (by unfold m_telltalelaw21_RunsFew_l5; simp)
                    | succ fu_5 =>
                      unfold m_telltalelaw21_RunsFew_l5 at hm
                      refine AWP.seq ?_
                      refine AWP.seq ?_
                      refine AWP.text ?_
                      refine Wy (.d (.lit (.int .i64 y9_5))) [] (Omv rfl) ?_
                      refine Wy (.d (.sl (List.length p1) (flatD enc_GRun p1))) [] (Omv rfl) ?_
                      refine Wy (.d (.lit (.int .i64 ((List.length p1 : Nat) : Int)))) [] (Oln rfl) ?_
                      refine Wy (.d (.lit (.bool (decide (y9_5 < ((List.length p1 : Nat) : Int)))))) [] (Obn rfl (fun _ => hb_lss (k := .i64))) ?_
                      refine Walk.nil ?_
                      refine Then.normal ?_
                      refine Amk 2361183241434822607523 3 ⟨((.d (.lit (.int .i64 p0))) :: ((.d (.sl (List.length p1) (flatD enc_GRun p1))) :: (tp 3 ((.loc 0 0) :: (tp 1 ((.loc 1 0) :: (tp 1 ((.d (.lit (.int .i64 y9_5))) :: (tp 61 ((.d (.lit (.bool (decide (y9_5 < ((List.length p1 : Nat) : Int)))))) :: (tp 155 []))))))))))), [(.box [(.d (.lit (.int .i64 p2.a0))), (.d (.lit (.int .i64 p2.a1))), (.d (.lit (.int .i64 p2.a2)))]), (.box [(.d (.lit (.int .i64 y7_d_0_5))), (.d (.sl (List.length y7_d_1_5) (flatD enc_GRun y7_d_1_5)))])], 0⟩ ?_
                      rcases tf_ (decide (y9_5 < ((List.length p1 : Nat) : Int))) with hc71_28 | hc71_28
                      · replace hm := cT hc71_28 hm
                        refine AWP.if_ true (Eq.trans (by kernel_rfl) (lit_tf (b := decide (y9_5 < ((List.length p1 : Nat) : Int))) hc71_28)) ?_
                        refine AWP.skip ?_
                        refine Then.normal ?_
                        refine Amk 675 3 ⟨((.d (.lit (.int .i64 p0))) :: ((.d (.sl (List.length p1) (flatD enc_GRun p1))) :: (tp 3 ((.loc 0 0) :: (tp 1 ((.loc 1 0) :: (tp 1 ((.d (.lit (.int .i64 y9_5))) :: (tp 217 []))))))))), [(.box [(.d (.lit (.int .i64 p2.a0))), (.d (.lit (.int .i64 p2.a1))), (.d (.lit (.int .i64 p2.a2)))]), (.box [(.d (.lit (.int .i64 y7_d_0_5))), (.d (.sl (List.length y7_d_1_5) (flatD enc_GRun y7_d_1_5)))])], 0⟩ ?_
                        refine AWP.seq ?_
                        refine AWP.block ?_
                        refine AWP.seq ?_
                        refine Adr ?_
                        refine Wy (.agg [(.d (.lit (.int .i64 y7_d_0_5))), (.d (.sl (List.length y7_d_1_5) (flatD enc_GRun y7_d_1_5)))]) [] (Old rfl) ?_
                        refine Wy (.d (.sl (List.length p1) (flatD enc_GRun p1))) [] (Omv rfl) ?_
                        refine Wy (.d (.lit (.int .i64 y9_5))) [] (Omv rfl) ?_
                        obtain ⟨x78_7, hx78_7, hm⟩ := bnd hm
                        obtain ⟨hx78_7i, hx78_7g⟩ := geti_some hx78_7
                        refine Wy (.d (.ref (List.drop ((Int.toNat y9_5) * 3) (flatD enc_GRun p1)))) [] (Oia rfl enc_GRun_len hx78_7i hx78_7g) ?_
                        refine Wy (.agg [(.d (.lit (.int .i64 x78_7.Place))), (.d (.sl (List.length x78_7.Bound) (flatD enc_GPair x78_7.Bound))), (.d (.lit (.int .u32 x78_7.Broken)))]) [] (Lf rfl enc_GRun_len hx78_7g) ?_
                        obtain ⟨r80_7, hr80_7, hm⟩ := bnd hm
                        refine Wy (.agg [(.d (.lit (.int .i64 r80_7.Place))), (.own 2), (.d (.lit (.int .u32 r80_7.Broken)))]) [(2, (.arr 93 6 (List.length r80_7.Bound) (flatD enc_GPair r80_7.Bound)))] (Ocf [] [2] [] 0 (ok_telltalelaw21_Own x78_7 r80_7 hr80_7) (fun a w => Try.call10 a w) rfl trivial) ?_
                        obtain ⟨r81_7, hr81_7, hm⟩ := bnd hm
                        refine Wy (.tup [(.agg [(.d (.lit (.int .i64 r81_7.1.Cap))), (.own 3)]), (.d (.lit (.int .i64 r81_7.2)))]) [(3, (.arr 42 3 (List.length r81_7.1.L) (flatD enc_GRun r81_7.1.L))), (2, (.fro 93 6 (List.length r80_7.Bound) (flatD enc_GPair r80_7.Bound)))] (Ocf [] [3] [2] 0 (ok_runs_Runs_Add (GRuns.mk y7_d_0_5 y7_d_1_5) r80_7 r81_7 hr81_7) (fun a w => Try.call9 a w) rfl trivial) ?_
                        refine Wy (.tup [(.agg [(.d (.lit (.int .i64 r81_7.1.Cap))), (.own 3)]), (.d (.lit (.int .i64 r81_7.2)))]) [] (Omv rfl) ?_
                        refine Wy (.agg [(.d (.lit (.int .i64 r81_7.1.Cap))), (.own 3)]) [] (Oex rfl) ?_
                        refine Wy (.d (.lit (.int .i64 r81_7.2))) [] (Oex rfl) ?_
                        refine Wy (.loc 4 0) [(4, (.box [(.d (.lit (.int .i64 0))), (.d .nil)]))] (Oal rfl) ?_
                        refine Wy (.tup []) [(4, (.box [(.d (.lit (.int .i64 r81_7.1.Cap))), (.own 3)]))] (Ost rfl) ?_
                        refine Wy (.d (.lit (.int .i64 r81_7.2))) [] (Omv rfl) ?_
                        refine Wdr ?_
                        refine Then.normal ?_
                        refine Amk 3747 27 ⟨((.d (.lit (.int .i64 p0))) :: ((.d (.sl (List.length p1) (flatD enc_GRun p1))) :: (tp 3 ((.loc 0 0) :: (tp 1 ((.loc 1 0) :: (tp 1 ((.d (.lit (.int .i64 y9_5))) :: ((.loc 4 0) :: ((.d (.lit (.int .i64 r81_7.2))) :: (tp 215 []))))))))))), [(.box [(.d (.lit (.int .i64 p2.a0))), (.d (.lit (.int .i64 p2.a1))), (.d (.lit (.int .i64 p2.a2)))]), (.box [(.d (.lit (.int .i64 y7_d_0_5))), (.d (.sl (List.length y7_d_1_5) (flatD enc_GRun y7_d_1_5)))]), .gone, (.arr 42 3 (List.length r81_7.1.L) (flatD enc_GRun r81_7.1.L)), (.box [(.d (.lit (.int .i64 r81_7.1.Cap))), (.own 3)])], 0⟩ ?_
                        refine AWP.seq ?_
                        refine AWP.cutJ (α := Unit) (fun x => match x with | () => (⟨((.d (.lit (.int .i64 p0))) :: ((.d (.sl (List.length p1) (flatD enc_GRun p1))) :: (tp 3 ((.loc 0 0) :: (tp 1 ((.loc 1 0) :: (tp 1 ((.d (.lit (.int .i64 y9_5))) :: ((.loc 2 0) :: (tp 98 ((.d (.lit (.bool true))) :: (tp 117 [])))))))))))), [(.box [(.d (.lit (.int .i64 p2.a0))), (.d (.lit (.int .i64 p2.a1))), (.d (.lit (.int .i64 p2.a2)))]), (.box [(.d (.lit (.int .i64 y7_d_0_5))), (.d (.sl (List.length y7_d_1_5) (flatD enc_GRun y7_d_1_5)))]), (.box [(.d (.lit (.int .i64 r81_7.1.Cap))), (.own 3)]), (.arr 42 3 (List.length r81_7.1.L) (flatD enc_GRun r81_7.1.L))], 0⟩ : St)) (fun x => match x with | () => m_telltalelaw21_RunsFew_j9  = some r) ?_ (fun J9 => ?_)
                        · rintro ⟨⟩ hm
                          try dsimp only at hm ⊢
                          unfold m_telltalelaw21_RunsFew_j9 at hm
                          refine AWP.if_ true (by kernel_rfl) ?_
                          refine AWP.seq ?_
                          refine AWP.text ?_
                          refine Wy (.d (.lit (.bool false))) [] (Omv rfl) ?_
                          refine Walk.nil ?_
                          refine Then.normal ?_
                          refine AWP.ret ?_
                          refine Then.ret ?_
                          refine InBlock.ret ?_
                          refine Then.ret ?_
                          refine RoundK.ret ?_
                          refine InBlock.ret ?_
                          refine Then.ret ?_
                          obtain rfl := Option.some.inj hm
                          exact ret_i []
                        refine AWP.cutJ (α := Unit) (fun x => match x with | () => (⟨((.d (.lit (.int .i64 p0))) :: ((.d (.sl (List.length p1) (flatD enc_GRun p1))) :: (tp 3 ((.loc 0 0) :: (tp 1 ((.loc 1 0) :: (tp 1 ((.d (.lit (.int .i64 y9_5))) :: ((.loc 2 0) :: (tp 98 ((.d (.lit (.bool (decide (p0 < ((List.length r81_7.1.L : Nat) : Int)))))) :: (tp 117 [])))))))))))), [(.box [(.d (.lit (.int .i64 p2.a0))), (.d (.lit (.int .i64 p2.a1))), (.d (.lit (.int .i64 p2.a2)))]), (.box [(.d (.lit (.int .i64 y7_d_0_5))), (.d (.sl (List.length y7_d_1_5) (flatD enc_GRun y7_d_1_5)))]), (.box [(.d (.lit (.int .i64 r81_7.1.Cap))), (.own 3)]), (.arr 42 3 (List.length r81_7.1.L) (flatD enc_GRun r81_7.1.L))], 0⟩ : St)) (fun x => match x with | () => m_telltalelaw21_RunsFew_j10 p0 r81_7 y9_5 (fun y7_d_0_5 y7_d_1_5 y9_5 => m_telltalelaw21_RunsFew_l5 p0 p1 p2 fu_5 y7_d_0_5 y7_d_1_5 y9_5) = some r) ?_ (fun J10 => ?_)
                        · rintro ⟨⟩ hm
                          try dsimp only at hm ⊢
                          unfold m_telltalelaw21_RunsFew_j10 at hm
                          rcases tf_ (decide (p0 < ((List.length r81_7.1.L : Nat) : Int))) with hc109_10 | hc109_10
                          · replace hm := cT hc109_10 hm
                            refine AWP.if_ true (Eq.trans (by kernel_rfl) (lit_tf (b := decide (p0 < ((List.length r81_7.1.L : Nat) : Int))) hc109_10)) ?_
                            refine AWP.seq ?_
                            refine AWP.text ?_
                            refine Wy (.d (.lit (.bool false))) [] (Omv rfl) ?_
                            refine Walk.nil ?_
                            refine Then.normal ?_
                            refine AWP.ret ?_
                            refine Then.ret ?_
                            refine InBlock.ret ?_
                            refine Then.ret ?_
                            refine RoundK.ret ?_
                            refine InBlock.ret ?_
                            refine Then.ret ?_
                            obtain rfl := Option.some.inj hm
                            exact ret_i []
                          · replace hm := cF hc109_10 hm
                            refine AWP.if_ false (Eq.trans (by kernel_rfl) (lit_tf (b := decide (p0 < ((List.length r81_7.1.L : Nat) : Int))) hc109_10)) ?_
                            refine AWP.skip ?_
                            refine Then.normal ?_
                            refine Amk 1699 15 ⟨((.d (.lit (.int .i64 p0))) :: ((.d (.sl (List.length p1) (flatD enc_GRun p1))) :: (tp 3 ((.loc 0 0) :: (tp 1 ((.loc 1 0) :: (tp 1 ((.d (.lit (.int .i64 y9_5))) :: ((.loc 2 0) :: (tp 216 [])))))))))), [(.box [(.d (.lit (.int .i64 p2.a0))), (.d (.lit (.int .i64 p2.a1))), (.d (.lit (.int .i64 p2.a2)))]), (.box [(.d (.lit (.int .i64 y7_d_0_5))), (.d (.sl (List.length y7_d_1_5) (flatD enc_GRun y7_d_1_5)))]), (.box [(.d (.lit (.int .i64 r81_7.1.Cap))), (.own 3)]), (.arr 42 3 (List.length r81_7.1.L) (flatD enc_GRun r81_7.1.L))], 0⟩ ?_
                            refine AWP.text ?_
                            refine Wy (.agg [(.d (.lit (.int .i64 r81_7.1.Cap))), (.own 3)]) [] (Old rfl) ?_
                            refine Wy (.tup []) [(1, (.box [(.d (.lit (.int .i64 r81_7.1.Cap))), (.own 3)]))] (Ost rfl) ?_
                            refine Walk.nil ?_
                            refine InBlock.normal ?_
                            refine Then.normal ?_
                            refine Amk 675 11 ⟨((.d (.lit (.int .i64 p0))) :: ((.d (.sl (List.length p1) (flatD enc_GRun p1))) :: (tp 3 ((.loc 0 0) :: (tp 1 ((.loc 1 0) :: (tp 1 ((.d (.lit (.int .i64 y9_5))) :: (tp 217 []))))))))), [(.box [(.d (.lit (.int .i64 p2.a0))), (.d (.lit (.int .i64 p2.a1))), (.d (.lit (.int .i64 p2.a2)))]), (.box [(.d (.lit (.int .i64 r81_7.1.Cap))), (.own 3)]), .gone, (.arr 42 3 (List.length r81_7.1.L) (flatD enc_GRun r81_7.1.L))], 0⟩ ?_
                            refine AWP.text ?_
                            refine Wy (.d (.lit (.int .i64 y9_5))) [] (Omv rfl) ?_
                            refine Wy (.d (.lit (.int .i64 (IntKind.i64.wrap (y9_5 + 1))))) [] (Obn rfl (fun _ => hb_add (k := .i64))) ?_
                            refine Wy (.d (.lit (.int .i64 (IntKind.i64.wrap (y9_5 + 1))))) [] (Omv rfl) ?_
                            refine Walk.nil ?_
                            refine RoundK.normal ?_
                            refine Rfz [3] ⟨((.d (.lit (.int .i64 p0))) :: ((.d (.sl (List.length p1) (flatD enc_GRun p1))) :: (tp 3 ((.loc 0 0) :: (tp 1 ((.loc 1 0) :: (tp 1 ((.d (.lit (.int .i64 (IntKind.i64.wrap (y9_5 + 1))))) :: (tp 62 ((.d (.lit (.int .i64 y9_5))) :: ((.d (.lit (.int .i64 (IntKind.i64.wrap (y9_5 + 1))))) :: (tp 153 [])))))))))))), [(.box [(.d (.lit (.int .i64 p2.a0))), (.d (.lit (.int .i64 p2.a1))), (.d (.lit (.int .i64 p2.a2)))]), (.box [(.d (.lit (.int .i64 r81_7.1.Cap))), (.d (.sl (List.length r81_7.1.L) (flatD enc_GRun r81_7.1.L)))]), .gone, (.fro 42 3 (List.length r81_7.1.L) (flatD enc_GRun r81_7.1.L))], 0⟩ ?_
                            exact Rounds.weak (Weak.toK 675 0 0 [0, 1]) (ih_5 (fu_5, r81_7.1.Cap, r81_7.1.L, (IntKind.i64.wrap (y9_5 + 1))) hm (Nat.lt_succ_self _))
                        refine AWP.seq ?_
                        refine AWP.text ?_
                        refine Wy (.d (.lit (.int .i64 r81_7.2))) [] (Omv rfl) ?_
                        refine Wy (.d (.lit (.bool (decide (r81_7.2 ≠ 0))))) [] (Obn rfl (fun _ => hb_neq (k := .i64))) ?_
                        rcases tf_ (decide (r81_7.2 ≠ 0)) with hq86_8 | hq86_8
                        · replace hm := cT hq86_8 hm
                          refine Wy (.d (.lit (.bool true))) [] (Ocs (lit_tf (b := decide (r81_7.2 ≠ 0)) hq86_8) (Omv rfl)) ?_
                          refine Wy (.d (.lit (.int .i64 r81_7.2))) [] (Omv rfl) ?_
                          refine Wy (.d (.lit (.bool (decide (r81_7.2 ≠ 7))))) [] (Obn rfl (fun _ => hb_neq (k := .i64))) ?_
                          rcases tf_ (decide (r81_7.2 ≠ 7)) with hq89_8 | hq89_8
                          · replace hm := cT hq89_8 hm
                            refine Wy (.d (.lit (.bool true))) [] (Ocs (lit_tf (b := decide (r81_7.2 ≠ 7)) hq89_8) (Omv rfl)) ?_
                            refine Wn ?_
                            refine Wn ?_
                            refine Wn ?_
                            refine Wn ?_
                            refine Wn ?_
                            refine Wy (.d (.lit (.bool true))) [] (OpT rfl) ?_
                            refine Wy (.d (.lit (.bool true))) [] (Omv rfl) ?_
                            refine Wn ?_
                            refine Wn ?_
                            refine Wn ?_
                            refine Wn ?_
                            refine Wy (.d (.lit (.bool true))) [] (OpT rfl) ?_
                            refine Wy (.d (.lit (.bool true))) [] (OpT rfl) ?_
                            refine Wy (.d (.lit (.bool true))) [] (Omv rfl) ?_
                            refine Wn ?_
                            refine Wn ?_
                            refine Wn ?_
                            refine Wn ?_
                            refine Wn ?_
                            refine Wy (.d (.lit (.bool true))) [] (OpT rfl) ?_
                            refine Walk.nil ?_
                            refine Then.normal ?_
                            exact AWP.weak (Weak.toK 649037107316853453566312041154211 0 0 [0, 1, 4, 3]) (J9 () hm)
                          · replace hm := cF hq89_8 hm
                            refine Wy (.d (.lit (.bool false))) [] (Ocs (lit_tf (b := decide (r81_7.2 ≠ 7)) hq89_8) (Omv rfl)) ?_
                            refine Wy (.loc 1 1) [] (Ofa rfl) ?_
                            refine Wy (.d (.sl (List.length y7_d_1_5) (flatD enc_GRun y7_d_1_5))) [] (Old rfl) ?_
                            refine Wy (.d (.lit (.int .i64 ((List.length y7_d_1_5 : Nat) : Int)))) [] (Oln rfl) ?_
                            refine Wy (.d (.lit (.int .i64 p0))) [] (Omv rfl) ?_
                            refine Wy (.d (.lit (.bool (decide (((List.length y7_d_1_5 : Nat) : Int) ≠ p0))))) [] (Obn rfl (fun _ => hb_neq (k := .i64))) ?_
                            refine Wy (.d (.lit (.bool (decide (((List.length y7_d_1_5 : Nat) : Int) ≠ p0))))) [] (OpF rfl) ?_
                            rcases tf_ (decide (((List.length y7_d_1_5 : Nat) : Int) ≠ p0)) with hq96_8 | hq96_8
                            · replace hm := cT hq96_8 hm
                              refine Wy (.d (.lit (.bool true))) [] (Ocs (lit_tf (b := decide (((List.length y7_d_1_5 : Nat) : Int) ≠ p0)) hq96_8) (Omv rfl)) ?_
                              refine Wn ?_
                              refine Wn ?_
                              refine Wn ?_
                              refine Wn ?_
                              refine Wy (.d (.lit (.bool true))) [] (OpT rfl) ?_
                              refine Wy (.d (.lit (.bool true))) [] (OpT rfl) ?_
                              refine Wy (.d (.lit (.bool true))) [] (Omv rfl) ?_
                              refine Wn ?_
                              refine Wn ?_
                              refine Wn ?_
                              refine Wn ?_
                              refine Wn ?_
                              refine Wy (.d (.lit (.bool true))) [] (OpT rfl) ?_
                              refine Walk.nil ?_
                              refine Then.normal ?_
                              exact AWP.weak (Weak.toK 649037107316853453566312041154211 0 0 [0, 1, 4, 3]) (J9 () hm)
                            · replace hm := cF hq96_8 hm
                              refine Wy (.d (.lit (.bool false))) [] (Ocs (lit_tf (b := decide (((List.length y7_d_1_5 : Nat) : Int) ≠ p0)) hq96_8) (Omv rfl)) ?_
                              refine Wy (.agg [(.d (.lit (.int .i64 r81_7.1.Cap))), (.own 3)]) [] (Old rfl) ?_
                              refine Wy (.agg [(.d (.lit (.int .i64 y7_d_0_5))), (.d (.sl (List.length y7_d_1_5) (flatD enc_GRun y7_d_1_5)))]) [] (Old rfl) ?_
                              obtain ⟨r99_8, hr99_8, hm⟩ := bnd hm
                              refine Wy (.d (.lit (.bool r99_8))) [] (Ocp [] [] [3] 0 (ok_runs_Same r81_7.1 (GRuns.mk y7_d_0_5 y7_d_1_5) r99_8 hr99_8) (plain_triv (by simp [A.Plain, A.Plains, D.Plain, byteD])) (fun a w => Try.call22 a w) rfl trivial) ?_
                              refine Wy (.d (.lit (.bool (!r99_8)))) [] (Ocs (by kernel_rfl) (op_un rfl (a1 := .bool r99_8) (by kernel_rfl) (fun _ => hu_not))) ?_
                              refine Wy (.d (.lit (.bool (!r99_8)))) [] (OpF rfl) ?_
                              refine Wy (.d (.lit (.bool (!r99_8)))) [] (OpT rfl) ?_
                              rcases tf_ (!r99_8) with hq103_8 | hq103_8
                              · replace hm := cT hq103_8 hm
                                refine Wy (.d (.lit (.bool true))) [] (Ocs (lit_tf (b := (!r99_8)) hq103_8) (Omv rfl)) ?_
                                refine Wn ?_
                                refine Wn ?_
                                refine Wn ?_
                                refine Wn ?_
                                refine Wn ?_
                                refine Wy (.d (.lit (.bool true))) [] (OpT rfl) ?_
                                refine Walk.nil ?_
                                refine Then.normal ?_
                                exact AWP.weak (Weak.toK 649037107316853453566312041154211 0 0 [0, 1, 4, 3]) (J9 () hm)
                              · replace hm := cF hq103_8 hm
                                refine Wy (.d (.lit (.bool false))) [] (Ocs (lit_tf (b := (!r99_8)) hq103_8) (Omv rfl)) ?_
                                refine Wy (.loc 4 1) [] (Ofa rfl) ?_
                                refine Wy (.own 3) [] (Old rfl) ?_
                                refine Wy (.d (.lit (.int .i64 ((List.length r81_7.1.L : Nat) : Int)))) [] (Oln rfl) ?_
                                refine Wy (.d (.lit (.int .i64 p0))) [] (Omv rfl) ?_
                                refine Wy (.d (.lit (.bool (decide (p0 < ((List.length r81_7.1.L : Nat) : Int)))))) [] (Obn rfl (fun _ => hb_gtr (k := .i64))) ?_
                                refine Wy (.d (.lit (.bool (decide (p0 < ((List.length r81_7.1.L : Nat) : Int)))))) [] (OpF rfl) ?_
                                refine Walk.nil ?_
                                refine Then.normal ?_
                                exact AWP.weak (Weak.toK 649037107316853453566312041154211 0 0 [0, 1, 4, 3]) (J10 () hm)
                        · replace hm := cF hq86_8 hm
                          refine Wy (.d (.lit (.bool false))) [] (Ocs (lit_tf (b := decide (r81_7.2 ≠ 0)) hq86_8) (Omv rfl)) ?_
                          refine Wn ?_
                          refine Wn ?_
                          refine Wn ?_
                          refine Wn ?_
                          refine Wn ?_
                          refine Wn ?_
                          refine Wn ?_
                          refine Wn ?_
                          refine Wn ?_
                          refine Wn ?_
                          refine Wn ?_
                          refine Wn ?_
                          refine Wn ?_
                          refine Wn ?_
                          refine Wn ?_
                          refine Wy (.d (.lit (.bool false))) [] (OpF rfl) ?_
                          refine Wy (.d (.lit (.bool false))) [] (Omv rfl) ?_
                          refine Wy (.loc 4 1) [] (Ofa rfl) ?_
                          refine Wy (.own 3) [] (Old rfl) ?_
                          refine Wy (.d (.lit (.int .i64 ((List.length r81_7.1.L : Nat) : Int)))) [] (Oln rfl) ?_
                          refine Wy (.d (.lit (.int .i64 p0))) [] (Omv rfl) ?_
                          refine Wy (.d (.lit (.bool (decide (p0 < ((List.length r81_7.1.L : Nat) : Int)))))) [] (Obn rfl (fun _ => hb_gtr (k := .i64))) ?_
                          refine Wy (.d (.lit (.bool (decide (p0 < ((List.length r81_7.1.L : Nat) : Int)))))) [] (OpF rfl) ?_
                          refine Walk.nil ?_
                          refine Then.normal ?_
                          exact AWP.weak (Weak.toK 649037107316853453566312041154211 0 0 [0, 1, 4, 3]) (J10 () hm)
                      · replace hm := cF hc71_28 hm
                        refine AWP.if_ false (Eq.trans (by kernel_rfl) (lit_tf (b := decide (y9_5 < ((List.length p1 : Nat) : Int))) hc71_28)) ?_
                        refine AWP.exit ?_
                        refine Then.exit ?_
                        refine RoundK.exit ?_
                        refine InBlock.same ?_
                        refine Then.normal ?_
                        refine Amk 163 3 ⟨((.d (.lit (.int .i64 p0))) :: ((.d (.sl (List.length p1) (flatD enc_GRun p1))) :: (tp 3 ((.loc 0 0) :: (tp 1 ((.loc 1 0) :: (tp 219 []))))))), [(.box [(.d (.lit (.int .i64 p2.a0))), (.d (.lit (.int .i64 p2.a1))), (.d (.lit (.int .i64 p2.a2)))]), (.box [(.d (.lit (.int .i64 y7_d_0_5))), (.d (.sl (List.length y7_d_1_5) (flatD enc_GRun y7_d_1_5)))])], 0⟩ ?_
                        refine AWP.seq ?_
                        refine AWP.seq ?_
                        refine AWP.text ?_
                        refine Wy (.d (.lit (.int .i64 0))) [] (Omv rfl) ?_
                        refine Walk.nil ?_
                        refine Then.normal ?_
                        refine Amk 4259 3 ⟨((.d (.lit (.int .i64 p0))) :: ((.d (.sl (List.length p1) (flatD enc_GRun p1))) :: (tp 3 ((.loc 0 0) :: (tp 1 ((.loc 1 0) :: (tp 4 ((.d (.lit (.int .i64 0))) :: (tp 214 []))))))))), [(.box [(.d (.lit (.int .i64 p2.a0))), (.d (.lit (.int .i64 p2.a1))), (.d (.lit (.int .i64 p2.a2)))]), (.box [(.d (.lit (.int .i64 y7_d_0_5))), (.d (.sl (List.length y7_d_1_5) (flatD enc_GRun y7_d_1_5)))])], 0⟩ ?_
                        refine AWP.block ?_
                        refine AWP.loopI (α := Nat × Int)
                          (fun x => match x with | (fu_11, y12_11) => (⟨((.d (.lit (.int .i64 p0))) :: ((.d (.sl (List.length p1) (flatD enc_GRun p1))) :: (tp 3 ((.loc 0 0) :: (tp 1 ((.loc 1 0) :: (tp 4 ((.d (.lit (.int .i64 y12_11))) :: (tp 214 []))))))))), [(.box [(.d (.lit (.int .i64 p2.a0))), (.d (.lit (.int .i64 p2.a1))), (.d (.lit (.int .i64 p2.a2)))]), (.box [(.d (.lit (.int .i64 y7_d_0_5))), (.d (.sl (List.length y7_d_1_5) (flatD enc_GRun y7_d_1_5)))])], 0⟩ : St))
                          (fun x => match x with | (fu_11, y12_11) => m_telltalelaw21_RunsFew_l11 p0 p1 p2 y7_d_0_5 y7_d_1_5 fu_11 y12_11 = some r)
                          (fun x => match x with | (fu_11, y12_11) => fu_11) (1152921504606846976, 0)
                          (Weak.toK 4259 0 0 [0, 1]) hm ?_
                        rintro ⟨fu_11, y12_11⟩ n_11 hm ih_11
                        try dsimp only at hm ih_11 ⊢
                        cases fu_11 with
                        | zero => exact absurd hm (by unfold m_telltalelaw21_RunsFew_l11; simp)
                        | succ fu_11 =>
                          unfold m_telltalelaw21_RunsFew_l11 at hm
                          refine AWP.seq ?_
                          refine AWP.seq ?_
                          refine AWP.text ?_
                          refine Wy (.d (.lit (.int .i64 y12_11))) [] (Omv rfl) ?_
                          refine Wy (.loc 1 1) [] (Ofa rfl) ?_
                          refine Wy (.d (.sl (List.length y7_d_1_5) (flatD enc_GRun y7_d_1_5))) [] (Old rfl) ?_
                          refine Wy (.d (.lit (.int .i64 ((List.length y7_d_1_5 : Nat) : Int)))) [] (Oln rfl) ?_
                          refine Wy (.d (.lit (.bool (decide (y12_11 < ((List.length y7_d_1_5 : Nat) : Int)))))) [] (Obn rfl (fun _ => hb_lss (k := .i64))) ?_
                          refine Walk.nil ?_
                          refine Then.normal ?_
                          refine Amk 41538374868278621028243970633765027 3 ⟨((.d (.lit (.int .i64 p0))) :: ((.d (.sl (List.length p1) (flatD enc_GRun p1))) :: (tp 3 ((.loc 0 0) :: (tp 1 ((.loc 1 0) :: (tp 4 ((.d (.lit (.int .i64 y12_11))) :: (tp 102 ((.d (.lit (.bool (decide (y12_11 < ((List.length y7_d_1_5 : Nat) : Int)))))) :: (tp 111 []))))))))))), [(.box [(.d (.lit (.int .i64 p2.a0))), (.d (.lit (.int .i64 p2.a1))), (.d (.lit (.int .i64 p2.a2)))]), (.box [(.d (.lit (.int .i64 y7_d_0_5))), (.d (.sl (List.length y7_d_1_5) (flatD enc_GRun y7_d_1_5)))])], 0⟩ ?_
                          rcases tf_ (decide (y12_11 < ((List.length y7_d_1_5 : Nat) : Int))) with hc115_29 | hc115_29
                          · replace hm := cT hc115_29 hm
                            refine AWP.if_ true (Eq.trans (by kernel_rfl) (lit_tf (b := decide (y12_11 < ((List.length y7_d_1_5 : Nat) : Int))) hc115_29)) ?_
                            refine AWP.skip ?_
                            refine Then.normal ?_
                            refine Amk 4259 3 ⟨((.d (.lit (.int .i64 p0))) :: ((.d (.sl (List.length p1) (flatD enc_GRun p1))) :: (tp 3 ((.loc 0 0) :: (tp 1 ((.loc 1 0) :: (tp 4 ((.d (.lit (.int .i64 y12_11))) :: (tp 214 []))))))))), [(.box [(.d (.lit (.int .i64 p2.a0))), (.d (.lit (.int .i64 p2.a1))), (.d (.lit (.int .i64 p2.a2)))]), (.box [(.d (.lit (.int .i64 y7_d_0_5))), (.d (.sl (List.length y7_d_1_5) (flatD enc_GRun y7_d_1_5)))])], 0⟩ ?_
                            refine AWP.seq ?_
                            refine AWP.block ?_
                            refine AWP.seq ?_
                            refine AWP.text ?_
                            refine Wy (.d (.lit (.int .i64 0))) [] (Omv rfl) ?_
                            refine Walk.nil ?_
                            refine Then.normal ?_
                            refine Amk 12451 3 ⟨((.d (.lit (.int .i64 p0))) :: ((.d (.sl (List.length p1) (flatD enc_GRun p1))) :: (tp 3 ((.loc 0 0) :: (tp 1 ((.loc 1 0) :: (tp 4 ((.d (.lit (.int .i64 y12_11))) :: ((.d (.lit (.int .i64 0))) :: (tp 213 [])))))))))), [(.box [(.d (.lit (.int .i64 p2.a0))), (.d (.lit (.int .i64 p2.a1))), (.d (.lit (.int .i64 p2.a2)))]), (.box [(.d (.lit (.int .i64 y7_d_0_5))), (.d (.sl (List.length y7_d_1_5) (flatD enc_GRun y7_d_1_5)))])], 0⟩ ?_
                            refine AWP.block ?_
                            refine AWP.loopI (α := Nat × Int)
                              (fun x => match x with | (fu_13, y13_13) => (⟨((.d (.lit (.int .i64 p0))) :: ((.d (.sl (List.length p1) (flatD enc_GRun p1))) :: (tp 3 ((.loc 0 0) :: (tp 1 ((.loc 1 0) :: (tp 4 ((.d (.lit (.int .i64 y12_11))) :: ((.d (.lit (.int .i64 y13_13))) :: (tp 213 [])))))))))), [(.box [(.d (.lit (.int .i64 p2.a0))), (.d (.lit (.int .i64 p2.a1))), (.d (.lit (.int .i64 p2.a2)))]), (.box [(.d (.lit (.int .i64 y7_d_0_5))), (.d (.sl (List.length y7_d_1_5) (flatD enc_GRun y7_d_1_5)))])], 0⟩ : St))
                              (fun x => match x with | (fu_13, y13_13) => m_telltalelaw21_RunsFew_l13 y12_11 y7_d_1_5 (fun y12_11 => m_telltalelaw21_RunsFew_l11 p0 p1 p2 y7_d_0_5 y7_d_1_5 fu_11 y12_11) fu_13 y13_13 = some r)
                              (fun x => match x with | (fu_13, y13_13) => fu_13) (1152921504606846976, 0)
                              (Weak.toK 12451 0 0 [0, 1]) hm ?_
                            rintro ⟨fu_13, y13_13⟩ n_13 hm ih_13
                            try dsimp only at hm ih_13 ⊢
                            cases fu_13 with
                            | zero => exact absurd hm (by unfold m_telltalelaw21_RunsFew_l13; simp)
                            | succ fu_13 =>
                              unfold m_telltalelaw21_RunsFew_l13 at hm
                              refine AWP.seq ?_
                              refine AWP.seq ?_
                              refine AWP.text ?_
                              refine Wy (.d (.lit (.int .i64 y13_13))) [] (Omv rfl) ?_
                              refine Wy (.d (.lit (.int .i64 y12_11))) [] (Omv rfl) ?_
                              refine Wy (.d (.lit (.bool (decide (y13_13 < y12_11))))) [] (Obn rfl (fun _ => hb_lss (k := .i64))) ?_
                              refine Walk.nil ?_
                              refine Then.normal ?_
                              refine Amk 1329227995784915872903807060280357027 3 ⟨((.d (.lit (.int .i64 p0))) :: ((.d (.sl (List.length p1) (flatD enc_GRun p1))) :: (tp 3 ((.loc 0 0) :: (tp 1 ((.loc 1 0) :: (tp 4 ((.d (.lit (.int .i64 y12_11))) :: ((.d (.lit (.int .i64 y13_13))) :: (tp 106 ((.d (.lit (.bool (decide (y13_13 < y12_11))))) :: (tp 106 [])))))))))))), [(.box [(.d (.lit (.int .i64 p2.a0))), (.d (.lit (.int .i64 p2.a1))), (.d (.lit (.int .i64 p2.a2)))]), (.box [(.d (.lit (.int .i64 y7_d_0_5))), (.d (.sl (List.length y7_d_1_5) (flatD enc_GRun y7_d_1_5)))])], 0⟩ ?_
                              rcases tf_ (decide (y13_13 < y12_11)) with hc120_30 | hc120_30
                              · replace hm := cT hc120_30 hm
                                refine AWP.if_ true (Eq.trans (by kernel_rfl) (lit_tf (b := decide (y13_13 < y12_11)) hc120_30)) ?_
                                refine AWP.skip ?_
                                refine Then.normal ?_
                                refine Amk 12451 3 ⟨((.d (.lit (.int .i64 p0))) :: ((.d (.sl (List.length p1) (flatD enc_GRun p1))) :: (tp 3 ((.loc 0 0) :: (tp 1 ((.loc 1 0) :: (tp 4 ((.d (.lit (.int .i64 y12_11))) :: ((.d (.lit (.int .i64 y13_13))) :: (tp 213 [])))))))))), [(.box [(.d (.lit (.int .i64 p2.a0))), (.d (.lit (.int .i64 p2.a1))), (.d (.lit (.int .i64 p2.a2)))]), (.box [(.d (.lit (.int .i64 y7_d_0_5))), (.d (.sl (List.length y7_d_1_5) (flatD enc_GRun y7_d_1_5)))])], 0⟩ ?_
                                refine AWP.seq ?_
                                refine AWP.block ?_
                                refine AWP.seq ?_
                                refine Adr ?_
                                refine Wy (.loc 1 1) [] (Ofa rfl) ?_
                                refine Wy (.d (.sl (List.length y7_d_1_5) (flatD enc_GRun y7_d_1_5))) [] (Old rfl) ?_
                                refine Wy (.d (.lit (.int .i64 y12_11))) [] (Omv rfl) ?_
                                obtain ⟨x126_14, hx126_14, hm⟩ := bnd hm
                                obtain ⟨hx126_14i, hx126_14g⟩ := geti_some hx126_14
                                refine Wy (.d (.ref (List.drop ((Int.toNat y12_11) * 3) (flatD enc_GRun y7_d_1_5)))) [] (Oia rfl enc_GRun_len hx126_14i hx126_14g) ?_
                                refine Wy (.d (.ref (List.drop ((Int.toNat y12_11) * 3) (flatD enc_GRun y7_d_1_5)))) [] (Ofa rfl) ?_
                                refine Wy (.d (.lit (.int .i64 x126_14.Place))) [] (Lf1 rfl enc_GRun_len hx126_14g) ?_
                                refine Wy (.loc 1 1) [] (Ofa rfl) ?_
                                refine Wy (.d (.sl (List.length y7_d_1_5) (flatD enc_GRun y7_d_1_5))) [] (Old rfl) ?_
                                refine Wy (.d (.lit (.int .i64 y13_13))) [] (Omv rfl) ?_
                                obtain ⟨x132_14, hx132_14, hm⟩ := bnd hm
                                obtain ⟨hx132_14i, hx132_14g⟩ := geti_some hx132_14
                                refine Wy (.d (.ref (List.drop ((Int.toNat y13_13) * 3) (flatD enc_GRun y7_d_1_5)))) [] (Oia rfl enc_GRun_len hx132_14i hx132_14g) ?_
                                refine Wy (.d (.ref (List.drop ((Int.toNat y13_13) * 3) (flatD enc_GRun y7_d_1_5)))) [] (Ofa rfl) ?_
                                refine Wy (.d (.lit (.int .i64 x132_14.Place))) [] (Lf1 rfl enc_GRun_len hx132_14g) ?_
                                refine Wy (.d (.lit (.bool (decide (x126_14.Place = x132_14.Place))))) [] (Obn rfl (fun _ => hb_eql (k := .i64))) ?_
                                rcases tf_ (decide (x126_14.Place = x132_14.Place)) with hq136_14 | hq136_14
                                · replace hm := cT hq136_14 hm
                                  refine Wy (.d (.lit (.bool true))) [] (Ocs (lit_tf (b := decide (x126_14.Place = x132_14.Place)) hq136_14) (Omv rfl)) ?_
                                  refine Wy (.loc 1 1) [] (Ofa rfl) ?_
                                  refine Wy (.d (.sl (List.length y7_d_1_5) (flatD enc_GRun y7_d_1_5))) [] (Old rfl) ?_
                                  refine Wy (.d (.lit (.int .i64 y12_11))) [] (Omv rfl) ?_
                                  obtain ⟨x140_14, hx140_14, hm⟩ := bnd hm
                                  obtain ⟨hx140_14i, hx140_14g⟩ := geti_some hx140_14
                                  refine Wy (.d (.ref (List.drop ((Int.toNat y12_11) * 3) (flatD enc_GRun y7_d_1_5)))) [] (Oia rfl enc_GRun_len hx140_14i hx140_14g) ?_
                                  refine Wy (.d (.ref (List.drop 1 (List.drop ((Int.toNat y12_11) * 3) (flatD enc_GRun y7_d_1_5))))) [] (Ofa rfl) ?_
                                  refine Wy (.d (.sl (List.length x140_14.Bound) (flatD enc_GPair x140_14.Bound))) [] (Lfk1 1 rfl enc_GRun_len hx140_14g) ?_
                                  refine Wy (.loc 1 1) [] (Ofa rfl) ?_
                                  refine Wy (.d (.sl (List.length y7_d_1_5) (flatD enc_GRun y7_d_1_5))) [] (Old rfl) ?_
                                  refine Wy (.d (.lit (.int .i64 y13_13))) [] (Omv rfl) ?_
                                  obtain ⟨x146_14, hx146_14, hm⟩ := bnd hm
                                  obtain ⟨hx146_14i, hx146_14g⟩ := geti_some hx146_14
                                  refine Wy (.d (.ref (List.drop ((Int.toNat y13_13) * 3) (flatD enc_GRun y7_d_1_5)))) [] (Oia rfl enc_GRun_len hx146_14i hx146_14g) ?_
                                  refine Wy (.d (.ref (List.drop 1 (List.drop ((Int.toNat y13_13) * 3) (flatD enc_GRun y7_d_1_5))))) [] (Ofa rfl) ?_
                                  refine Wy (.d (.sl (List.length x146_14.Bound) (flatD enc_GPair x146_14.Bound))) [] (Lfk1 1 rfl enc_GRun_len hx146_14g) ?_
                                  obtain ⟨r149_14, hr149_14, hm⟩ := bnd hm
                                  refine Wy (.d (.lit (.int .i64 r149_14))) [] (Ocf [] [] [] 0 (ok_bind_Rank x140_14.Bound x146_14.Bound r149_14 hr149_14) (fun a w => Try.call25 a w) rfl trivial) ?_
                                  refine Wy (.d (.lit (.bool (decide (r149_14 = 0))))) [] (Obn rfl (fun _ => hb_eql (k := .i64))) ?_
                                  refine Wy (.d (.lit (.bool (decide (r149_14 = 0))))) [] (OpT rfl) ?_
                                  refine Wdr ?_
                                  refine Then.normal ?_
                                  refine Amk 2854495385411919762116571938898990272765505699 3 ⟨((.d (.lit (.int .i64 p0))) :: ((.d (.sl (List.length p1) (flatD enc_GRun p1))) :: (tp 3 ((.loc 0 0) :: (tp 1 ((.loc 1 0) :: (tp 4 ((.d (.lit (.int .i64 y12_11))) :: ((.d (.lit (.int .i64 y13_13))) :: (tp 137 ((.d (.lit (.bool (decide (r149_14 = 0))))) :: (tp 75 [])))))))))))), [(.box [(.d (.lit (.int .i64 p2.a0))), (.d (.lit (.int .i64 p2.a1))), (.d (.lit (.int .i64 p2.a2)))]), (.box [(.d (.lit (.int .i64 y7_d_0_5))), (.d (.sl (List.length y7_d_1_5) (flatD enc_GRun y7_d_1_5)))])], 0⟩ ?_
                                  rcases tf_ (decide (r149_14 = 0)) with hc151_31 | hc151_31
                                  · replace hm := cT hc151_31 hm
                                    refine AWP.if_ true (Eq.trans (by kernel_rfl) (lit_tf (b := decide (r149_14 = 0)) hc151_31)) ?_
                                    refine AWP.seq ?_
                                    refine AWP.text ?_
                                    refine Wy (.d (.lit (.bool false))) [] (Omv rfl) ?_
                                    refine Walk.nil ?_
                                    refine Then.normal ?_
                                    refine AWP.ret ?_
                                    refine InBlock.ret ?_
                                    refine Then.ret ?_
                                    refine RoundK.ret ?_
                                    refine InBlock.ret ?_
                                    refine InBlock.ret ?_
                                    refine Then.ret ?_
                                    refine RoundK.ret ?_
                                    refine InBlock.ret ?_
                                    refine Then.ret ?_
                                    obtain rfl := Option.some.inj hm
                                    exact ret_i []
                                  · replace hm := cF hc151_31 hm
                                    refine AWP.if_ false (Eq.trans (by kernel_rfl) (lit_tf (b := decide (r149_14 = 0)) hc151_31)) ?_
                                    refine AWP.skip ?_
                                    refine InBlock.normal ?_
                                    refine Then.normal ?_
                                    refine Amk 12451 3 ⟨((.d (.lit (.int .i64 p0))) :: ((.d (.sl (List.length p1) (flatD enc_GRun p1))) :: (tp 3 ((.loc 0 0) :: (tp 1 ((.loc 1 0) :: (tp 4 ((.d (.lit (.int .i64 y12_11))) :: ((.d (.lit (.int .i64 y13_13))) :: (tp 213 [])))))))))), [(.box [(.d (.lit (.int .i64 p2.a0))), (.d (.lit (.int .i64 p2.a1))), (.d (.lit (.int .i64 p2.a2)))]), (.box [(.d (.lit (.int .i64 y7_d_0_5))), (.d (.sl (List.length y7_d_1_5) (flatD enc_GRun y7_d_1_5)))])], 0⟩ ?_
                                    refine AWP.text ?_
                                    refine Wy (.d (.lit (.int .i64 y13_13))) [] (Omv rfl) ?_
                                    refine Wy (.d (.lit (.int .i64 (IntKind.i64.wrap (y13_13 + 1))))) [] (Obn rfl (fun _ => hb_add (k := .i64))) ?_
                                    refine Wy (.d (.lit (.int .i64 (IntKind.i64.wrap (y13_13 + 1))))) [] (Omv rfl) ?_
                                    refine Walk.nil ?_
                                    refine RoundK.normal ?_
                                    exact Rounds.weak (Weak.toK 12451 0 0 [0, 1]) (ih_13 (fu_13, (IntKind.i64.wrap (y13_13 + 1))) hm (Nat.lt_succ_self _))
                                · replace hm := cF hq136_14 hm
                                  refine Wy (.d (.lit (.bool false))) [] (Ocs (lit_tf (b := decide (x126_14.Place = x132_14.Place)) hq136_14) (Omv rfl)) ?_
                                  refine Wn ?_
                                  refine Wn ?_
                                  refine Wn ?_
                                  refine Wn ?_
                                  refine Wn ?_
                                  refine Wn ?_
                                  refine Wn ?_
                                  refine Wn ?_
                                  refine Wn ?_
                                  refine Wn ?_
                                  refine Wn ?_
                                  refine Wn ?_
                                  refine Wn ?_
                                  refine Wn ?_
                                  refine Wy (.d (.lit (.bool false))) [] (OpF rfl) ?_
                                  refine Wdr ?_
                                  refine Then.normal ?_
                                  refine Amk 2854495385411919762116571938898990272765505699 3 ⟨((.d (.lit (.int .i64 p0))) :: ((.d (.sl (List.length p1) (flatD enc_GRun p1))) :: (tp 3 ((.loc 0 0) :: (tp 1 ((.loc 1 0) :: (tp 4 ((.d (.lit (.int .i64 y12_11))) :: ((.d (.lit (.int .i64 y13_13))) :: (tp 137 ((.d (.lit (.bool false))) :: (tp 75 [])))))))))))), [(.box [(.d (.lit (.int .i64 p2.a0))), (.d (.lit (.int .i64 p2.a1))), (.d (.lit (.int .i64 p2.a2)))]), (.box [(.d (.lit (.int .i64 y7_d_0_5))), (.d (.sl (List.length y7_d_1_5) (flatD enc_GRun y7_d_1_5)))])], 0⟩ ?_
                                  refine AWP.if_ false (by kernel_rfl) ?_
                                  refine AWP.skip ?_
                                  refine InBlock.normal ?_
                                  refine Then.normal ?_
                                  refine Amk 12451 3 ⟨((.d (.lit (.int .i64 p0))) :: ((.d (.sl (List.length p1) (flatD enc_GRun p1))) :: (tp 3 ((.loc 0 0) :: (tp 1 ((.loc 1 0) :: (tp 4 ((.d (.lit (.int .i64 y12_11))) :: ((.d (.lit (.int .i64 y13_13))) :: (tp 213 [])))))))))), [(.box [(.d (.lit (.int .i64 p2.a0))), (.d (.lit (.int .i64 p2.a1))), (.d (.lit (.int .i64 p2.a2)))]), (.box [(.d (.lit (.int .i64 y7_d_0_5))), (.d (.sl (List.length y7_d_1_5) (flatD enc_GRun y7_d_1_5)))])], 0⟩ ?_
                                  refine AWP.text ?_
                                  refine Wy (.d (.lit (.int .i64 y13_13))) [] (Omv rfl) ?_
                                  refine Wy (.d (.lit (.int .i64 (IntKind.i64.wrap (y13_13 + 1))))) [] (Obn rfl (fun _ => hb_add (k := .i64))) ?_
                                  refine Wy (.d (.lit (.int .i64 (IntKind.i64.wrap (y13_13 + 1))))) [] (Omv rfl) ?_
                                  refine Walk.nil ?_
                                  refine RoundK.normal ?_
                                  exact Rounds.weak (Weak.toK 12451 0 0 [0, 1]) (ih_13 (fu_13, (IntKind.i64.wrap (y13_13 + 1))) hm (Nat.lt_succ_self _))
                              · replace hm := cF hc120_30 hm
                                refine AWP.if_ false (Eq.trans (by kernel_rfl) (lit_tf (b := decide (y13_13 < y12_11)) hc120_30)) ?_
                                refine AWP.exit ?_
                                refine Then.exit ?_
                                refine RoundK.exit ?_
                                refine InBlock.same ?_
                                refine InBlock.normal ?_
                                refine Then.normal ?_
                                refine Amk 4259 3 ⟨((.d (.lit (.int .i64 p0))) :: ((.d (.sl (List.length p1) (flatD enc_GRun p1))) :: (tp 3 ((.loc 0 0) :: (tp 1 ((.loc 1 0) :: (tp 4 ((.d (.lit (.int .i64 y12_11))) :: (tp 214 []))))))))), [(.box [(.d (.lit (.int .i64 p2.a0))), (.d (.lit (.int .i64 p2.a1))), (.d (.lit (.int .i64 p2.a2)))]), (.box [(.d (.lit (.int .i64 y7_d_0_5))), (.d (.sl (List.length y7_d_1_5) (flatD enc_GRun y7_d_1_5)))])], 0⟩ ?_
                                refine AWP.text ?_
                                refine Wy (.d (.lit (.int .i64 y12_11))) [] (Omv rfl) ?_
                                refine Wy (.d (.lit (.int .i64 (IntKind.i64.wrap (y12_11 + 1))))) [] (Obn rfl (fun _ => hb_add (k := .i64))) ?_
                                refine Wy (.d (.lit (.int .i64 (IntKind.i64.wrap (y12_11 + 1))))) [] (Omv rfl) ?_
                                refine Walk.nil ?_
                                refine RoundK.normal ?_
                                exact Rounds.weak (Weak.toK 4259 0 0 [0, 1]) (ih_11 (fu_11, (IntKind.i64.wrap (y12_11 + 1))) hm (Nat.lt_succ_self _))
                          · replace hm := cF hc115_29 hm
                            refine AWP.if_ false (Eq.trans (by kernel_rfl) (lit_tf (b := decide (y12_11 < ((List.length y7_d_1_5 : Nat) : Int))) hc115_29)) ?_
                            refine AWP.exit ?_
                            refine Then.exit ?_
                            refine RoundK.exit ?_
                            refine InBlock.same ?_
                            refine Then.normal ?_
                            refine Amk 163 3 ⟨((.d (.lit (.int .i64 p0))) :: ((.d (.sl (List.length p1) (flatD enc_GRun p1))) :: (tp 3 ((.loc 0 0) :: (tp 1 ((.loc 1 0) :: (tp 219 []))))))), [(.box [(.d (.lit (.int .i64 p2.a0))), (.d (.lit (.int .i64 p2.a1))), (.d (.lit (.int .i64 p2.a2)))]), (.box [(.d (.lit (.int .i64 y7_d_0_5))), (.d (.sl (List.length y7_d_1_5) (flatD enc_GRun y7_d_1_5)))])], 0⟩ ?_
                            refine AWP.seq ?_
                            refine Adr ?_
                            refine Wy (.agg [(.d (.lit (.int .i64 y7_d_0_5))), (.d (.sl (List.length y7_d_1_5) (flatD enc_GRun y7_d_1_5)))]) [] (Old rfl) ?_
                            refine Wy (.loc 0 0) [] (Ocs (by kernel_rfl) (op_iaddr_arr rfl (n := 3) (sz := 1) (y := (.loc 0 0)) (by kernel_rfl) (by kernel_rfl) (by kernel_rfl) (k := .i64) (iv := 0) (by kernel_rfl) (i := 0) (by rfl) (by decide))) ?_
                            refine Wy (.d (.lit (.int .i64 p2.a0))) [] (Old rfl) ?_
                            refine Wy (.loc 0 2) [] (Ocs (by kernel_rfl) (op_iaddr_arr rfl (n := 3) (sz := 1) (y := (.loc 0 0)) (by kernel_rfl) (by kernel_rfl) (by kernel_rfl) (k := .i64) (iv := 2) (by kernel_rfl) (i := 2) (by rfl) (by decide))) ?_
                            refine Wy (.d (.lit (.int .i64 p2.a2))) [] (Old rfl) ?_
                            obtain ⟨r157_15, hr157_15, hm⟩ := bnd hm
                            refine Wy (.agg [(.d (.lit (.int .i64 r157_15.Cap))), (.own 2)]) [(2, (.arr 42 3 (List.length r157_15.L) (flatD enc_GRun r157_15.L)))] (Ocf [] [2] [] 0 (ok_runs_Runs_Prune (GRuns.mk y7_d_0_5 y7_d_1_5) p2.a0 p2.a2 r157_15 hr157_15) (fun a w => Try.call23 a w) rfl trivial) ?_
                            refine Wy (.agg [(.d (.lit (.int .i64 y7_d_0_5))), (.d (.sl (List.length y7_d_1_5) (flatD enc_GRun y7_d_1_5)))]) [] (Old rfl) ?_
                            refine Wy (.loc 0 1) [] (Ocs (by kernel_rfl) (op_iaddr_arr rfl (n := 3) (sz := 1) (y := (.loc 0 0)) (by kernel_rfl) (by kernel_rfl) (by kernel_rfl) (k := .i64) (iv := 1) (by kernel_rfl) (i := 1) (by rfl) (by decide))) ?_
                            refine Wy (.d (.lit (.int .i64 p2.a1))) [] (Old rfl) ?_
                            refine Wy (.loc 0 2) [] (Ocs (by kernel_rfl) (op_iaddr_arr rfl (n := 3) (sz := 1) (y := (.loc 0 0)) (by kernel_rfl) (by kernel_rfl) (by kernel_rfl) (k := .i64) (iv := 2) (by kernel_rfl) (i := 2) (by rfl) (by decide))) ?_
                            refine Wy (.d (.lit (.int .i64 p2.a2))) [] (Old rfl) ?_
                            obtain ⟨r163_15, hr163_15, hm⟩ := bnd hm
                            refine Wy (.agg [(.d (.lit (.int .i64 r163_15.Cap))), (.own 3)]) [(3, (.arr 42 3 (List.length r163_15.L) (flatD enc_GRun r163_15.L)))] (Ocf [] [3] [] 0 (ok_runs_Runs_Prune (GRuns.mk y7_d_0_5 y7_d_1_5) p2.a1 p2.a2 r163_15 hr163_15) (fun a w => Try.call23 a w) rfl trivial) ?_
                            refine Wy (.loc 4 0) [(4, (.box [(.d (.lit (.int .i64 0))), (.d .nil)]))] (Oal rfl) ?_
                            refine Wy (.loc 5 0) [(5, (.box [(.d (.lit (.int .i64 0))), (.d .nil)]))] (Oal rfl) ?_
                            refine Wy (.tup []) [(4, (.box [(.d (.lit (.int .i64 r157_15.Cap))), (.own 2)]))] (Ost rfl) ?_
                            refine Wy (.tup []) [(5, (.box [(.d (.lit (.int .i64 r163_15.Cap))), (.own 3)]))] (Ost rfl) ?_
                            refine Wdr ?_
                            refine Then.normal ?_
                            refine Amk 49187 61 ⟨((.d (.lit (.int .i64 p0))) :: ((.d (.sl (List.length p1) (flatD enc_GRun p1))) :: (tp 3 ((.loc 0 0) :: (tp 8 ((.loc 4 0) :: ((.loc 5 0) :: (tp 211 [])))))))), [(.box [(.d (.lit (.int .i64 p2.a0))), (.d (.lit (.int .i64 p2.a1))), (.d (.lit (.int .i64 p2.a2)))]), .gone, (.arr 42 3 (List.length r157_15.L) (flatD enc_GRun r157_15.L)), (.arr 42 3 (List.length r163_15.L) (flatD enc_GRun r163_15.L)), (.box [(.d (.lit (.int .i64 r157_15.Cap))), (.own 2)]), (.box [(.d (.lit (.int .i64 r163_15.Cap))), (.own 3)])], 0⟩ ?_
                            refine AWP.seq ?_
                            refine AWP.seq ?_
                            refine Adr ?_
                            refine Wy (.agg [(.d (.lit (.int .i64 r157_15.Cap))), (.own 2)]) [] (Old rfl) ?_
                            refine Wy (.loc 0 1) [] (Ocs (by kernel_rfl) (op_iaddr_arr rfl (n := 3) (sz := 1) (y := (.loc 0 0)) (by kernel_rfl) (by kernel_rfl) (by kernel_rfl) (k := .i64) (iv := 1) (by kernel_rfl) (i := 1) (by rfl) (by decide))) ?_
                            refine Wy (.d (.lit (.int .i64 p2.a1))) [] (Old rfl) ?_
                            refine Wy (.loc 0 2) [] (Ocs (by kernel_rfl) (op_iaddr_arr rfl (n := 3) (sz := 1) (y := (.loc 0 0)) (by kernel_rfl) (by kernel_rfl) (by kernel_rfl) (k := .i64) (iv := 2) (by kernel_rfl) (i := 2) (by rfl) (by decide))) ?_
                            refine Wy (.d (.lit (.int .i64 p2.a2))) [] (Old rfl) ?_
                            obtain ⟨r169_16, hr169_16, hm⟩ := bnd hm
                            refine Wy (.agg [(.d (.lit (.int .i64 r169_16.Cap))), (.own 6)]) [(6, (.arr 42 3 (List.length r169_16.L) (flatD enc_GRun r169_16.L))), (2, (.fro 42 3 (List.length r157_15.L) (flatD enc_GRun r157_15.L)))] (Ocf [] [6] [2] 0 (ok_runs_Runs_Prune r157_15 p2.a1 p2.a2 r169_16 hr169_16) (fun a w => Try.call23 a w) rfl trivial) ?_
                            refine Wy (.agg [(.d (.lit (.int .i64 r163_15.Cap))), (.own 3)]) [] (Old rfl) ?_
                            obtain ⟨r171_16, hr171_16, hm⟩ := bnd hm
                            refine Wy (.d (.lit (.bool r171_16))) [] (Ocp [] [] [6, 3] 0 (ok_runs_Same r169_16 r163_15 r171_16 hr171_16) (plain_triv (by simp [A.Plain, A.Plains, D.Plain, byteD])) (fun a w => Try.call22 a w) rfl trivial) ?_
                            refine Wy (.d (.lit (.bool (!r171_16)))) [] (Ocs (by kernel_rfl) (op_un rfl (a1 := .bool r171_16) (by kernel_rfl) (fun _ => hu_not))) ?_
                            rcases tf_ (!r171_16) with hq173_16 | hq173_16
                            · replace hm := cT hq173_16 hm
                              refine Wy (.d (.lit (.bool true))) [] (Ocs (lit_tf (b := (!r171_16)) hq173_16) (Omv rfl)) ?_
                              refine Wn ?_
                              refine Wn ?_
                              refine Wn ?_
                              refine Wn ?_
                              refine Wn ?_
                              refine Wn ?_
                              refine Wn ?_
                              refine Wy (.d (.lit (.bool true))) [] (OpT rfl) ?_
                              refine Wdr ?_
                              refine Then.normal ?_
                              refine Amk 3064991081731777716716694054300618367237478244367237155 41 ⟨((.d (.lit (.int .i64 p0))) :: ((.d (.sl (List.length p1) (flatD enc_GRun p1))) :: (tp 3 ((.loc 0 0) :: (tp 9 ((.loc 5 0) :: (tp 165 ((.d (.lit (.bool true))) :: (tp 45 []))))))))), [(.box [(.d (.lit (.int .i64 p2.a0))), (.d (.lit (.int .i64 p2.a1))), (.d (.lit (.int .i64 p2.a2)))]), .gone, .gone, (.arr 42 3 (List.length r163_15.L) (flatD enc_GRun r163_15.L)), .gone, (.box [(.d (.lit (.int .i64 r163_15.Cap))), (.own 3)]), .gone], 0⟩ ?_
                              refine AWP.if_ true (by kernel_rfl) ?_
                              refine AWP.seq ?_
                              refine AWP.text ?_
                              refine Wy (.d (.lit (.bool false))) [] (Omv rfl) ?_
                              refine Walk.nil ?_
                              refine Then.normal ?_
                              refine AWP.ret ?_
                              refine Then.ret ?_
                              obtain rfl := Option.some.inj hm
                              exact ret_i []
                            · replace hm := cF hq173_16 hm
                              refine Wy (.d (.lit (.bool false))) [] (Ocs (lit_tf (b := (!r171_16)) hq173_16) (Omv rfl)) ?_
                              refine Wy (.loc 5 1) [] (Ofa rfl) ?_
                              refine Wy (.own 3) [] (Old rfl) ?_
                              refine Wy (.d (.lit (.int .i64 ((List.length r163_15.L : Nat) : Int)))) [] (Oln rfl) ?_
                              refine Wy (.loc 4 1) [] (Ofa rfl) ?_
                              refine Wy (.own 2) [] (Old rfl) ?_
                              refine Wy (.d (.lit (.int .i64 ((List.length r157_15.L : Nat) : Int)))) [] (Oln rfl) ?_
                              refine Wy (.d (.lit (.bool (decide (((List.length r157_15.L : Nat) : Int) < ((List.length r163_15.L : Nat) : Int)))))) [] (Obn rfl (fun _ => hb_gtr (k := .i64))) ?_
                              refine Wy (.d (.lit (.bool (decide (((List.length r157_15.L : Nat) : Int) < ((List.length r163_15.L : Nat) : Int)))))) [] (OpF rfl) ?_
                              refine Wdr ?_
                              refine Then.normal ?_
                              refine Amk 3064991081731777716716694054300618367237478244367237155 41 ⟨((.d (.lit (.int .i64 p0))) :: ((.d (.sl (List.length p1) (flatD enc_GRun p1))) :: (tp 3 ((.loc 0 0) :: (tp 9 ((.loc 5 0) :: (tp 165 ((.d (.lit (.bool (decide (((List.length r157_15.L : Nat) : Int) < ((List.length r163_15.L : Nat) : Int)))))) :: (tp 45 []))))))))), [(.box [(.d (.lit (.int .i64 p2.a0))), (.d (.lit (.int .i64 p2.a1))), (.d (.lit (.int .i64 p2.a2)))]), .gone, .gone, (.arr 42 3 (List.length r163_15.L) (flatD enc_GRun r163_15.L)), .gone, (.box [(.d (.lit (.int .i64 r163_15.Cap))), (.own 3)]), .gone], 0⟩ ?_
                              rcases tf_ (decide (((List.length r157_15.L : Nat) : Int) < ((List.length r163_15.L : Nat) : Int))) with hc181_32 | hc181_32
                              · replace hm := cT hc181_32 hm
                                refine AWP.if_ true (Eq.trans (by kernel_rfl) (lit_tf (b := decide (((List.length r157_15.L : Nat) : Int) < ((List.length r163_15.L : Nat) : Int))) hc181_32)) ?_
                                refine AWP.seq ?_
                                refine AWP.text ?_
                                refine Wy (.d (.lit (.bool false))) [] (Omv rfl) ?_
                                refine Walk.nil ?_
                                refine Then.normal ?_
                                refine AWP.ret ?_
                                refine Then.ret ?_
                                obtain rfl := Option.some.inj hm
                                exact ret_i []
                              · replace hm := cF hc181_32 hm
                                refine AWP.if_ false (Eq.trans (by kernel_rfl) (lit_tf (b := decide (((List.length r157_15.L : Nat) : Int) < ((List.length r163_15.L : Nat) : Int))) hc181_32)) ?_
                                refine AWP.skip ?_
                                refine Then.normal ?_
                                refine Amk 32803 41 ⟨((.d (.lit (.int .i64 p0))) :: ((.d (.sl (List.length p1) (flatD enc_GRun p1))) :: (tp 3 ((.loc 0 0) :: (tp 9 ((.loc 5 0) :: (tp 211 []))))))), [(.box [(.d (.lit (.int .i64 p2.a0))), (.d (.lit (.int .i64 p2.a1))), (.d (.lit (.int .i64 p2.a2)))]), .gone, .gone, (.arr 42 3 (List.length r163_15.L) (flatD enc_GRun r163_15.L)), .gone, (.box [(.d (.lit (.int .i64 r163_15.Cap))), (.own 3)]), .gone], 0⟩ ?_
                                refine AWP.seq ?_
                                refine AWP.text ?_
                                refine Wy (.agg [(.d (.lit (.int .i64 r163_15.Cap))), (.own 3)]) [] (Old rfl) ?_
                                obtain ⟨r184_17, hr184_17, hm⟩ := bnd hm
                                refine Wy (.tup [(.d (.lit (.int .i64 r184_17.1))), (.d (.lit (.bool r184_17.2)))]) [] (Ocp [] [] [3] 0 (ok_runs_Runs_Least r163_15 r184_17 hr184_17) (plain_triv (by simp [A.Plain, A.Plains, D.Plain, byteD])) (fun a w => Try.call20 a w) rfl trivial) ?_
                                refine Wy (.tup [(.d (.lit (.int .i64 r184_17.1))), (.d (.lit (.bool r184_17.2)))]) [] (Omv rfl) ?_
                                refine Wy (.d (.lit (.int .i64 r184_17.1))) [] (Oex rfl) ?_
                                refine Wy (.d (.lit (.bool r184_17.2))) [] (Oex rfl) ?_
                                refine Wy (.d (.lit (.int .i64 r184_17.1))) [] (Omv rfl) ?_
                                refine Wy (.d (.lit (.bool r184_17.2))) [] (Omv rfl) ?_
                                refine Walk.nil ?_
                                refine Then.normal ?_
                                refine Amk 229411 41 ⟨((.d (.lit (.int .i64 p0))) :: ((.d (.sl (List.length p1) (flatD enc_GRun p1))) :: (tp 3 ((.loc 0 0) :: (tp 9 ((.loc 5 0) :: ((.d (.lit (.int .i64 r184_17.1))) :: ((.d (.lit (.bool r184_17.2))) :: (tp 209 []))))))))), [(.box [(.d (.lit (.int .i64 p2.a0))), (.d (.lit (.int .i64 p2.a1))), (.d (.lit (.int .i64 p2.a2)))]), .gone, .gone, (.arr 42 3 (List.length r163_15.L) (flatD enc_GRun r163_15.L)), .gone, (.box [(.d (.lit (.int .i64 r163_15.Cap))), (.own 3)]), .gone], 0⟩ ?_
                                refine AWP.cutJ (α := Unit) (fun x => match x with | () => (⟨((.d (.lit (.int .i64 p0))) :: ((.d (.sl (List.length p1) (flatD enc_GRun p1))) :: (tp 13 ((.loc 0 0) :: (tp 211 []))))), [(.box [(.d (.lit (.int .i64 r163_15.Cap))), (.own 1)]), (.arr 42 3 (List.length r163_15.L) (flatD enc_GRun r163_15.L))], 0⟩ : St)) (fun x => match x with | () => m_telltalelaw21_RunsFew_j20 p0 p1 r163_15 = some r) ?_ (fun J20 => ?_)
                                · rintro ⟨⟩ hm
                                  try dsimp only at hm ⊢
                                  unfold m_telltalelaw21_RunsFew_j20 at hm
                                  refine AWP.seq ?_
                                  refine AWP.seq ?_
                                  refine AWP.text ?_
                                  refine Wy (.d (.lit (.int .i64 0))) [] (Omv rfl) ?_
                                  refine Walk.nil ?_
                                  refine Then.normal ?_
                                  refine Amk 294915 3 ⟨((.d (.lit (.int .i64 p0))) :: ((.d (.sl (List.length p1) (flatD enc_GRun p1))) :: (tp 13 ((.loc 0 0) :: (tp 2 ((.d (.lit (.int .i64 0))) :: (tp 208 []))))))), [(.box [(.d (.lit (.int .i64 r163_15.Cap))), (.own 1)]), (.arr 42 3 (List.length r163_15.L) (flatD enc_GRun r163_15.L))], 0⟩ ?_
                                  refine AWP.block ?_
                                  refine Afz [1] ⟨((.d (.lit (.int .i64 p0))) :: ((.d (.sl (List.length p1) (flatD enc_GRun p1))) :: (tp 13 ((.loc 0 0) :: (tp 2 ((.d (.lit (.int .i64 0))) :: (tp 208 []))))))), [(.box [(.d (.lit (.int .i64 r163_15.Cap))), (.d (.sl (List.length r163_15.L) (flatD enc_GRun r163_15.L)))]), (.fro 42 3 (List.length r163_15.L) (flatD enc_GRun r163_15.L))], 0⟩ ?_
                                  refine AWP.loopI (α := Nat × Int)
                                    (fun x => match x with | (fu_21, y18_21) => (⟨((.d (.lit (.int .i64 p0))) :: ((.d (.sl (List.length p1) (flatD enc_GRun p1))) :: (tp 13 ((.loc 0 0) :: (tp 2 ((.d (.lit (.int .i64 y18_21))) :: (tp 208 []))))))), [(.box [(.d (.lit (.int .i64 r163_15.Cap))), (.d (.sl (List.length r163_15.L) (flatD enc_GRun r163_15.L)))])], 0⟩ : St))
                                    (fun x => match x with | (fu_21, y18_21) => m_telltalelaw21_RunsFew_l21 p0 p1 r163_15 fu_21 y18_21 = some r)
                                    (fun x => match x with | (fu_21, y18_21) => fu_21) (1152921504606846976, 0)
                                    (Weak.toK 294915 0 0 [0]) hm ?_
                                  rintro ⟨fu_21, y18_21⟩ n_21 hm ih_21
                                  try dsimp only at hm ih_21 ⊢
                                  cases fu_21 with
                                  | zero => exact absurd hm (by unfold m_telltalelaw21_RunsFew_l21; simp)
                                  | succ fu_21 =>
                                    unfold m_telltalelaw21_RunsFew_l21 at hm
                                    refine AWP.seq ?_
                                    refine AWP.seq ?_
                                    refine AWP.text ?_
                                    refine Wy (.d (.lit (.int .i64 y18_21))) [] (Omv rfl) ?_
                                    refine Wy (.d (.sl (List.length p1) (flatD enc_GRun p1))) [] (Omv rfl) ?_
                                    refine Wy (.d (.lit (.int .i64 ((List.length p1 : Nat) : Int)))) [] (Oln rfl) ?_
                                    refine Wy (.d (.lit (.bool (decide (y18_21 < ((List.length p1 : Nat) : Int)))))) [] (Obn rfl (fun _ => hb_lss (k := .i64))) ?_
                                    refine Walk.nil ?_
                                    refine Then.normal ?_
                                    refine Amk 25711008708143844408671393477458601640355247900524685365116931 1 ⟨((.d (.lit (.int .i64 p0))) :: ((.d (.sl (List.length p1) (flatD enc_GRun p1))) :: (tp 13 ((.loc 0 0) :: (tp 2 ((.d (.lit (.int .i64 y18_21))) :: (tp 185 ((.d (.lit (.bool (decide (y18_21 < ((List.length p1 : Nat) : Int)))))) :: (tp 22 []))))))))), [(.box [(.d (.lit (.int .i64 r163_15.Cap))), (.d (.sl (List.length r163_15.L) (flatD enc_GRun r163_15.L)))])], 0⟩ ?_
                                    rcases tf_ (decide (y18_21 < ((List.length p1 : Nat) : Int))) with hc204_33 | hc204_33
                                    · replace hm := cT hc204_33 hm
                                      refine AWP.if_ true (Eq.trans (by kernel_rfl) (lit_tf (b := decide (y18_21 < ((List.length p1 : Nat) : Int))) hc204_33)) ?_
                                      refine AWP.skip ?_
                                      refine Then.normal ?_
                                      refine Amk 294915 1 ⟨((.d (.lit (.int .i64 p0))) :: ((.d (.sl (List.length p1) (flatD enc_GRun p1))) :: (tp 13 ((.loc 0 0) :: (tp 2 ((.d (.lit (.int .i64 y18_21))) :: (tp 208 []))))))), [(.box [(.d (.lit (.int .i64 r163_15.Cap))), (.d (.sl (List.length r163_15.L) (flatD enc_GRun r163_15.L)))])], 0⟩ ?_
                                      refine AWP.seq ?_
                                      refine AWP.block ?_
                                      refine AWP.seq ?_
                                      refine Adr ?_
                                      refine Wy (.agg [(.d (.lit (.int .i64 r163_15.Cap))), (.d (.sl (List.length r163_15.L) (flatD enc_GRun r163_15.L)))]) [] (Old rfl) ?_
                                      refine Wy (.d (.sl (List.length p1) (flatD enc_GRun p1))) [] (Omv rfl) ?_
                                      refine Wy (.d (.lit (.int .i64 y18_21))) [] (Omv rfl) ?_
                                      obtain ⟨x211_23, hx211_23, hm⟩ := bnd hm
                                      obtain ⟨hx211_23i, hx211_23g⟩ := geti_some hx211_23
                                      refine Wy (.d (.ref (List.drop ((Int.toNat y18_21) * 3) (flatD enc_GRun p1)))) [] (Oia rfl enc_GRun_len hx211_23i hx211_23g) ?_
                                      refine Wy (.agg [(.d (.lit (.int .i64 x211_23.Place))), (.d (.sl (List.length x211_23.Bound) (flatD enc_GPair x211_23.Bound))), (.d (.lit (.int .u32 x211_23.Broken)))]) [] (Lf rfl enc_GRun_len hx211_23g) ?_
                                      obtain ⟨r213_23, hr213_23, hm⟩ := bnd hm
                                      refine Wy (.agg [(.d (.lit (.int .i64 r213_23.Place))), (.own 1), (.d (.lit (.int .u32 r213_23.Broken)))]) [(1, (.arr 93 6 (List.length r213_23.Bound) (flatD enc_GPair r213_23.Bound)))] (Ocf [] [1] [] 0 (ok_telltalelaw21_Own x211_23 r213_23 hr213_23) (fun a w => Try.call10 a w) rfl trivial) ?_
                                      obtain ⟨r214_23, hr214_23, hm⟩ := bnd hm
                                      refine Wy (.tup [(.agg [(.d (.lit (.int .i64 r214_23.1.Cap))), (.own 2)]), (.d (.lit (.int .i64 r214_23.2)))]) [(2, (.arr 42 3 (List.length r214_23.1.L) (flatD enc_GRun r214_23.1.L))), (1, (.fro 93 6 (List.length r213_23.Bound) (flatD enc_GPair r213_23.Bound)))] (Ocf [] [2] [1] 0 (ok_runs_Runs_Add r163_15 r213_23 r214_23 hr214_23) (fun a w => Try.call9 a w) rfl trivial) ?_
                                      refine Wy (.tup [(.agg [(.d (.lit (.int .i64 r214_23.1.Cap))), (.own 2)]), (.d (.lit (.int .i64 r214_23.2)))]) [] (Omv rfl) ?_
                                      refine Wy (.agg [(.d (.lit (.int .i64 r214_23.1.Cap))), (.own 2)]) [] (Oex rfl) ?_
                                      refine Wy (.d (.lit (.int .i64 r214_23.2))) [] (Oex rfl) ?_
                                      refine Wy (.loc 3 0) [(3, (.box [(.d (.lit (.int .i64 0))), (.d .nil)]))] (Oal rfl) ?_
                                      refine Wy (.tup []) [(3, (.box [(.d (.lit (.int .i64 r214_23.1.Cap))), (.own 2)]))] (Ost rfl) ?_
                                      refine Wy (.d (.lit (.int .i64 r214_23.2))) [] (Omv rfl) ?_
                                      refine Wdr ?_
                                      refine Then.normal ?_
                                      refine Amk 1343491 1 ⟨((.d (.lit (.int .i64 p0))) :: ((.d (.sl (List.length p1) (flatD enc_GRun p1))) :: (tp 13 ((.loc 0 0) :: (tp 2 ((.d (.lit (.int .i64 y18_21))) :: (tp 1 ((.d (.lit (.int .i64 r214_23.2))) :: (tp 206 []))))))))), [(.box [(.d (.lit (.int .i64 r163_15.Cap))), (.d (.sl (List.length r163_15.L) (flatD enc_GRun r163_15.L)))]), .gone, .gone, .gone], 0⟩ ?_
                                      refine AWP.seq ?_
                                      refine AWP.text ?_
                                      refine Wy (.loc 0 1) [] (Ofa rfl) ?_
                                      refine Wy (.d (.sl (List.length r163_15.L) (flatD enc_GRun r163_15.L))) [] (Old rfl) ?_
                                      refine Wy (.d (.lit (.int .i64 ((List.length r163_15.L : Nat) : Int)))) [] (Oln rfl) ?_
                                      refine Wy (.d (.lit (.int .i64 p0))) [] (Omv rfl) ?_
                                      refine Wy (.d (.lit (.bool (decide (((List.length r163_15.L : Nat) : Int) < p0))))) [] (Obn rfl (fun _ => hb_lss (k := .i64))) ?_
                                      rcases tf_ (decide (((List.length r163_15.L : Nat) : Int) < p0)) with hq222_24 | hq222_24
                                      · replace hm := cT hq222_24 hm
                                        refine Wy (.d (.lit (.bool true))) [] (Ocs (lit_tf (b := decide (((List.length r163_15.L : Nat) : Int) < p0)) hq222_24) (Omv rfl)) ?_
                                        refine Wy (.d (.lit (.int .i64 r214_23.2))) [] (Omv rfl) ?_
                                        refine Wy (.d (.lit (.bool (decide (r214_23.2 ≠ 0))))) [] (Obn rfl (fun _ => hb_neq (k := .i64))) ?_
                                        refine Wy (.d (.lit (.bool (decide (r214_23.2 ≠ 0))))) [] (OpT rfl) ?_
                                        refine Walk.nil ?_
                                        refine Then.normal ?_
                                        refine Amk 53919893334301279589334030174039261347274288845081144962207220793347 1 ⟨((.d (.lit (.int .i64 p0))) :: ((.d (.sl (List.length p1) (flatD enc_GRun p1))) :: (tp 13 ((.loc 0 0) :: (tp 2 ((.d (.lit (.int .i64 y18_21))) :: (tp 206 ((.d (.lit (.bool (decide (r214_23.2 ≠ 0))))) :: (tp 1 []))))))))), [(.box [(.d (.lit (.int .i64 r163_15.Cap))), (.d (.sl (List.length r163_15.L) (flatD enc_GRun r163_15.L)))]), .gone, .gone, .gone], 0⟩ ?_
                                        rcases tf_ (decide (r214_23.2 ≠ 0)) with hc225_34 | hc225_34
                                        · replace hm := cT hc225_34 hm
                                          refine AWP.if_ true (Eq.trans (by kernel_rfl) (lit_tf (b := decide (r214_23.2 ≠ 0)) hc225_34)) ?_
                                          refine AWP.seq ?_
                                          refine AWP.text ?_
                                          refine Wy (.d (.lit (.bool false))) [] (Omv rfl) ?_
                                          refine Walk.nil ?_
                                          refine Then.normal ?_
                                          refine AWP.ret ?_
                                          refine InBlock.ret ?_
                                          refine Then.ret ?_
                                          refine RoundK.ret ?_
                                          refine InBlock.ret ?_
                                          refine Then.ret ?_
                                          obtain rfl := Option.some.inj hm
                                          exact ret_i []
                                        · replace hm := cF hc225_34 hm
                                          refine AWP.if_ false (Eq.trans (by kernel_rfl) (lit_tf (b := decide (r214_23.2 ≠ 0)) hc225_34)) ?_
                                          refine AWP.skip ?_
                                          refine InBlock.normal ?_
                                          refine Then.normal ?_
                                          refine Amk 294915 1 ⟨((.d (.lit (.int .i64 p0))) :: ((.d (.sl (List.length p1) (flatD enc_GRun p1))) :: (tp 13 ((.loc 0 0) :: (tp 2 ((.d (.lit (.int .i64 y18_21))) :: (tp 208 []))))))), [(.box [(.d (.lit (.int .i64 r163_15.Cap))), (.d (.sl (List.length r163_15.L) (flatD enc_GRun r163_15.L)))]), .gone, .gone, .gone], 0⟩ ?_
                                          refine AWP.text ?_
                                          refine Wy (.d (.lit (.int .i64 y18_21))) [] (Omv rfl) ?_
                                          refine Wy (.d (.lit (.int .i64 (IntKind.i64.wrap (y18_21 + 1))))) [] (Obn rfl (fun _ => hb_add (k := .i64))) ?_
                                          refine Wy (.d (.lit (.int .i64 (IntKind.i64.wrap (y18_21 + 1))))) [] (Omv rfl) ?_
                                          refine Walk.nil ?_
                                          refine RoundK.normal ?_
                                          exact Rounds.weak (Weak.toK 294915 0 0 [0]) (ih_21 (fu_21, (IntKind.i64.wrap (y18_21 + 1))) hm (Nat.lt_succ_self _))
                                      · replace hm := cF hq222_24 hm
                                        refine Wy (.d (.lit (.bool false))) [] (Ocs (lit_tf (b := decide (((List.length r163_15.L : Nat) : Int) < p0)) hq222_24) (Omv rfl)) ?_
                                        refine Wn ?_
                                        refine Wn ?_
                                        refine Wy (.d (.lit (.bool false))) [] (OpF rfl) ?_
                                        refine Walk.nil ?_
                                        refine Then.normal ?_
                                        refine Amk 53919893334301279589334030174039261347274288845081144962207220793347 1 ⟨((.d (.lit (.int .i64 p0))) :: ((.d (.sl (List.length p1) (flatD enc_GRun p1))) :: (tp 13 ((.loc 0 0) :: (tp 2 ((.d (.lit (.int .i64 y18_21))) :: (tp 206 ((.d (.lit (.bool false))) :: (tp 1 []))))))))), [(.box [(.d (.lit (.int .i64 r163_15.Cap))), (.d (.sl (List.length r163_15.L) (flatD enc_GRun r163_15.L)))]), .gone, .gone, .gone], 0⟩ ?_
                                        refine AWP.if_ false (by kernel_rfl) ?_
                                        refine AWP.skip ?_
                                        refine InBlock.normal ?_
                                        refine Then.normal ?_
                                        refine Amk 294915 1 ⟨((.d (.lit (.int .i64 p0))) :: ((.d (.sl (List.length p1) (flatD enc_GRun p1))) :: (tp 13 ((.loc 0 0) :: (tp 2 ((.d (.lit (.int .i64 y18_21))) :: (tp 208 []))))))), [(.box [(.d (.lit (.int .i64 r163_15.Cap))), (.d (.sl (List.length r163_15.L) (flatD enc_GRun r163_15.L)))]), .gone, .gone, .gone], 0⟩ ?_
                                        refine AWP.text ?_
                                        refine Wy (.d (.lit (.int .i64 y18_21))) [] (Omv rfl) ?_
                                        refine Wy (.d (.lit (.int .i64 (IntKind.i64.wrap (y18_21 + 1))))) [] (Obn rfl (fun _ => hb_add (k := .i64))) ?_
                                        refine Wy (.d (.lit (.int .i64 (IntKind.i64.wrap (y18_21 + 1))))) [] (Omv rfl) ?_
                                        refine Walk.nil ?_
                                        refine RoundK.normal ?_
                                        exact Rounds.weak (Weak.toK 294915 0 0 [0]) (ih_21 (fu_21, (IntKind.i64.wrap (y18_21 + 1))) hm (Nat.lt_succ_self _))
                                    · replace hm := cF hc204_33 hm
                                      refine AWP.if_ false (Eq.trans (by kernel_rfl) (lit_tf (b := decide (y18_21 < ((List.length p1 : Nat) : Int))) hc204_33)) ?_
                                      refine AWP.exit ?_
                                      refine Then.exit ?_
                                      refine RoundK.exit ?_
                                      refine InBlock.same ?_
                                      refine Then.normal ?_
                                      refine Amk 0 0 ⟨(tp 227 []), [.gone], 0⟩ ?_
                                      refine AWP.seq ?_
                                      refine AWP.text ?_
                                      obtain ⟨r226_25, hr226_25, hm⟩ := bnd hm
                                      refine Wy (.d (.lit (.bool r226_25))) [] (Ocf [] [] [] 0 (ok_telltalelaw21_awake  r226_25 hr226_25) (fun a w => Try.call7 a w) rfl trivial) ?_
                                      refine Wy (.d (.lit (.bool r226_25))) [] (Omv rfl) ?_
                                      refine Walk.nil ?_
                                      refine Then.normal ?_
                                      refine AWP.ret ?_
                                      obtain rfl := Option.some.inj hm
                                      exact ret_i []
                                refine AWP.seq ?_
                                refine AWP.cutJ (α := Unit) (fun x => match x with | () => (⟨((.d (.lit (.int .i64 p0))) :: ((.d (.sl (List.length p1) (flatD enc_GRun p1))) :: (tp 13 ((.loc 0 0) :: (tp 184 ((.d (.lit (.bool false))) :: (tp 26 []))))))), [(.box [(.d (.lit (.int .i64 r163_15.Cap))), (.own 1)]), (.arr 42 3 (List.length r163_15.L) (flatD enc_GRun r163_15.L))], 0⟩ : St)) (fun x => match x with | () => m_telltalelaw21_RunsFew_j19 p0 p1 r163_15 = some r) ?_ (fun J19 => ?_)
                                · rintro ⟨⟩ hm
                                  try dsimp only at hm ⊢
                                  unfold m_telltalelaw21_RunsFew_j19 at hm
                                  refine AWP.if_ false (by kernel_rfl) ?_
                                  refine AWP.skip ?_
                                  refine Then.normal ?_
                                  exact AWP.weak (Weak.toK 32771 0 0 [0, 1]) (J20 () hm)
                                refine AWP.seq ?_
                                refine AWP.text ?_
                                refine Wy (.d (.lit (.bool r184_17.2))) [] (Omv rfl) ?_
                                rcases tf_ r184_17.2 with hq188_18 | hq188_18
                                · replace hm := cT hq188_18 hm
                                  refine Wy (.d (.lit (.bool true))) [] (Ocs (lit_tf (b := r184_17.2) hq188_18) (Omv rfl)) ?_
                                  refine Wy (.d (.lit (.int .i64 r184_17.1))) [] (Omv rfl) ?_
                                  refine Wy (.d (.lit (.bool (decide ((0 : Int) ≤ r184_17.1))))) [] (Obn rfl (fun _ => hb_geq (k := .i64))) ?_
                                  refine Wy (.d (.lit (.bool (decide ((0 : Int) ≤ r184_17.1))))) [] (OpT rfl) ?_
                                  rcases tf_ (decide ((0 : Int) ≤ r184_17.1)) with hq192_18 | hq192_18
                                  · replace hm := cT hq192_18 hm
                                    refine Wy (.d (.lit (.bool true))) [] (Ocs (lit_tf (b := decide ((0 : Int) ≤ r184_17.1)) hq192_18) (Omv rfl)) ?_
                                    refine Wy (.d (.lit (.int .i64 r184_17.1))) [] (Omv rfl) ?_
                                    refine Wy (.loc 0 1) [] (Ocs (by kernel_rfl) (op_iaddr_arr rfl (n := 3) (sz := 1) (y := (.loc 0 0)) (by kernel_rfl) (by kernel_rfl) (by kernel_rfl) (k := .i64) (iv := 1) (by kernel_rfl) (i := 1) (by rfl) (by decide))) ?_
                                    refine Wy (.d (.lit (.int .i64 p2.a1))) [] (Old rfl) ?_
                                    refine Wy (.loc 0 2) [] (Ocs (by kernel_rfl) (op_iaddr_arr rfl (n := 3) (sz := 1) (y := (.loc 0 0)) (by kernel_rfl) (by kernel_rfl) (by kernel_rfl) (k := .i64) (iv := 2) (by kernel_rfl) (i := 2) (by rfl) (by decide))) ?_
                                    refine Wy (.d (.lit (.int .i64 p2.a2))) [] (Old rfl) ?_
                                    refine Wy (.d (.lit (.int .i64 (IntKind.i64.wrap (p2.a1 - p2.a2))))) [] (Obn rfl (fun _ => hb_sub (k := .i64))) ?_
                                    refine Wy (.d (.lit (.bool (decide (r184_17.1 < (IntKind.i64.wrap (p2.a1 - p2.a2))))))) [] (Obn rfl (fun _ => hb_lss (k := .i64))) ?_
                                    refine Wy (.d (.lit (.bool (decide (r184_17.1 < (IntKind.i64.wrap (p2.a1 - p2.a2))))))) [] (OpT rfl) ?_
                                    refine Walk.nil ?_
                                    refine Then.normal ?_
                                    refine Amk 1606938044258990275541962092341162602522202993782792835334147 40 ⟨((.d (.lit (.int .i64 p0))) :: ((.d (.sl (List.length p1) (flatD enc_GRun p1))) :: (tp 13 ((.loc 5 0) :: (tp 184 ((.d (.lit (.bool (decide (r184_17.1 < (IntKind.i64.wrap (p2.a1 - p2.a2))))))) :: (tp 26 []))))))), [.gone, .gone, .gone, (.arr 42 3 (List.length r163_15.L) (flatD enc_GRun r163_15.L)), .gone, (.box [(.d (.lit (.int .i64 r163_15.Cap))), (.own 3)]), .gone], 0⟩ ?_
                                    rcases tf_ (decide (r184_17.1 < (IntKind.i64.wrap (p2.a1 - p2.a2)))) with hc200_35 | hc200_35
                                    · replace hm := cT hc200_35 hm
                                      refine AWP.if_ true (Eq.trans (by kernel_rfl) (lit_tf (b := decide (r184_17.1 < (IntKind.i64.wrap (p2.a1 - p2.a2)))) hc200_35)) ?_
                                      refine AWP.seq ?_
                                      refine AWP.text ?_
                                      refine Wy (.d (.lit (.bool false))) [] (Omv rfl) ?_
                                      refine Walk.nil ?_
                                      refine Then.normal ?_
                                      refine AWP.ret ?_
                                      refine Then.ret ?_
                                      obtain rfl := Option.some.inj hm
                                      exact ret_i []
                                    · replace hm := cF hc200_35 hm
                                      refine AWP.if_ false (Eq.trans (by kernel_rfl) (lit_tf (b := decide (r184_17.1 < (IntKind.i64.wrap (p2.a1 - p2.a2)))) hc200_35)) ?_
                                      refine AWP.skip ?_
                                      refine Then.normal ?_
                                      exact AWP.weak (Weak.toK 32771 0 0 [5, 3]) (J20 () hm)
                                  · replace hm := cF hq192_18 hm
                                    refine Wy (.d (.lit (.bool false))) [] (Ocs (lit_tf (b := decide ((0 : Int) ≤ r184_17.1)) hq192_18) (Omv rfl)) ?_
                                    refine Wn ?_
                                    refine Wn ?_
                                    refine Wn ?_
                                    refine Wn ?_
                                    refine Wn ?_
                                    refine Wn ?_
                                    refine Wn ?_
                                    refine Wy (.d (.lit (.bool false))) [] (OpF rfl) ?_
                                    refine Walk.nil ?_
                                    refine Then.normal ?_
                                    exact AWP.weak (Weak.toK 1606938044258990275541962092341162602522202993782792835334147 0 0 [5, 3]) (J19 () hm)
                                · replace hm := cF hq188_18 hm
                                  refine Wy (.d (.lit (.bool false))) [] (Ocs (lit_tf (b := r184_17.2) hq188_18) (Omv rfl)) ?_
                                  refine Wn ?_
                                  refine Wn ?_
                                  refine Wy (.d (.lit (.bool false))) [] (OpF rfl) ?_
                                  refine Wy (.d (.lit (.bool false))) [] (Omv rfl) ?_
                                  refine Wn ?_
                                  refine Wn ?_
                                  refine Wn ?_
                                  refine Wn ?_
                                  refine Wn ?_
                                  refine Wn ?_
                                  refine Wn ?_
                                  refine Wy (.d (.lit (.bool false))) [] (OpF rfl) ?_
                                  refine Walk.nil ?_
                                  refine Then.normal ?_
                                  exact AWP.weak (Weak.toK 1606938044258990275541962092341162602522202993782792835334147 0 0 [5, 3]) (J19 () hm)
end Go.Proofs.Ytlbajkdbbffefaa.K
