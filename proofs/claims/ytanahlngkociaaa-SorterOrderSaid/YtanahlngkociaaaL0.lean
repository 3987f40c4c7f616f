/- each function computes what its model says (0) -/
import Derived.Test.YtanahlngkociaaaLM
namespace Go.Proofs.Ytanahlngkociaaa.K
open Go.RowKit Go.Lib
set_option linter.unusedVariables false
set_option linter.unusedSimpArgs false

set_option maxRecDepth 20000 in
set_option maxHeartbeats 4000000 in
theorem ok_sorter_New (p0 : Int) (r : (GSorter × Int)) (h : m_sorter_New p0 = some r) : GCall Try.prog 8 [(.d (.lit (.int .i64 p0)))] [] (.tup [(.agg [(.d (.lit (.int .i64 r.1.Cap))), (.d (.sl (List.length r.1.L) (flatD enc_GEvent r.1.L)))]), (.d (.lit (.int .i64 r.2)))]) [] := by
  refine GCall.of_body (n := 13) (rs := [(.cell 2 26), (.tmp 3)]) Try.func8 rfl rfl rfl ?_
  refine Ato ⟨((.d (.lit (.int .i64 p0))) :: (tu 12 [])), [], 0⟩ ?_
  have hm := h
  unfold m_sorter_New at hm
  refine AWP.seq ?_
  refine AWP.text ?_
  refine Wy (.loc 0 0) [(0, (.box [(.d (.lit (.int .i64 0))), (.d .nil)]))] (Oal rfl) ?_
  refine Wy (.d (.lit (.int .i64 0))) [] (Omv rfl) ?_
  refine Walk.nil ?_
  refine Then.normal ?_
  refine Amk 5 1 ⟨((.d (.lit (.int .i64 p0))) :: (tp 1 ((.loc 0 0) :: (tp 10 [])))), [(.box [(.d (.lit (.int .i64 0))), (.d .nil)])], 0⟩ ?_
  refine AWP.seq ?_
  refine AWP.seq ?_
  refine AWP.text ?_
  refine Wy (.d (.lit (.int .i64 p0))) [] (Omv rfl) ?_
  refine Wy (.d (.lit (.bool (decide (p0 < 1))))) [] (Obn rfl (fun _ => hb_lss (k := .i64))) ?_
  rcases tf_ (decide (p0 < 1)) with hq6_0 | hq6_0
  · replace hm := cT hq6_0 hm
    refine Wy (.d (.lit (.bool true))) [] (Ocs (lit_tf (b := decide (p0 < 1)) hq6_0) (Omv rfl)) ?_
    refine Wn ?_
    refine Wn ?_
    refine Wy (.d (.lit (.bool true))) [] (OpT rfl) ?_
    refine Walk.nil ?_
    refine Then.normal ?_
    refine Amk 517 1 ⟨((.d (.lit (.int .i64 p0))) :: (tp 1 ((.loc 0 0) :: (tp 6 ((.d (.lit (.bool true))) :: (tp 3 [])))))), [(.box [(.d (.lit (.int .i64 0))), (.d .nil)])], 0⟩ ?_
    refine AWP.if_ true (by kernel_rfl) ?_
    refine AWP.seq ?_
    refine AWP.text ?_
    refine Wy (.agg [(.d (.lit (.int .i64 0))), (.d .nil)]) [] (Obd rfl) ?_
    refine Wy (.tup []) [(0, (.box [(.d (.lit (.int .i64 0))), (.d .nil)]))] (Ost rfl) ?_
    refine Wy (.d (.lit (.int .i64 2))) [] (Omv rfl) ?_
    refine Walk.nil ?_
    refine Then.normal ?_
    refine AWP.ret ?_
    refine Then.ret ?_
    obtain rfl := Option.some.inj hm
    exact ret_i []
  · replace hm := cF hq6_0 hm
    refine Wy (.d (.lit (.bool false))) [] (Ocs (lit_tf (b := decide (p0 < 1)) hq6_0) (Omv rfl)) ?_
    refine Wy (.d (.lit (.int .i64 p0))) [] (Omv rfl) ?_
    refine Wy (.d (.lit (.bool (decide ((4096 : Int) < p0))))) [] (Obn rfl (fun _ => hb_gtr (k := .i64))) ?_
    refine Wy (.d (.lit (.bool (decide ((4096 : Int) < p0))))) [] (OpF rfl) ?_
    refine Walk.nil ?_
    refine Then.normal ?_
    refine Amk 517 1 ⟨((.d (.lit (.int .i64 p0))) :: (tp 1 ((.loc 0 0) :: (tp 6 ((.d (.lit (.bool (decide ((4096 : Int) < p0))))) :: (tp 3 [])))))), [(.box [(.d (.lit (.int .i64 0))), (.d .nil)])], 0⟩ ?_
    rcases tf_ (decide ((4096 : Int) < p0)) with hc9_1 | hc9_1
    · replace hm := cT hc9_1 hm
      refine AWP.if_ true (Eq.trans (by kernel_rfl) (lit_tf (b := decide ((4096 : Int) < p0)) hc9_1)) ?_
      refine AWP.seq ?_
      refine AWP.text ?_
      refine Wy (.agg [(.d (.lit (.int .i64 0))), (.d .nil)]) [] (Obd rfl) ?_
      refine Wy (.tup []) [(0, (.box [(.d (.lit (.int .i64 0))), (.d .nil)]))] (Ost rfl) ?_
      refine Wy (.d (.lit (.int .i64 2))) [] (Omv rfl) ?_
      refine Walk.nil ?_
      refine Then.normal ?_
      refine AWP.ret ?_
      refine Then.ret ?_
      obtain rfl := Option.some.inj hm
      exact ret_i []
    · replace hm := cF hc9_1 hm
      refine AWP.if_ false (Eq.trans (by kernel_rfl) (lit_tf (b := decide ((4096 : Int) < p0)) hc9_1)) ?_
      refine AWP.skip ?_
      refine Then.normal ?_
      refine Amk 5 1 ⟨((.d (.lit (.int .i64 p0))) :: (tp 1 ((.loc 0 0) :: (tp 10 [])))), [(.box [(.d (.lit (.int .i64 0))), (.d .nil)])], 0⟩ ?_
      refine AWP.seq ?_
      refine AWP.text ?_
      refine Wy (.d (.lit (.int .i64 p0))) [] (Omv rfl) ?_
      refine Wy (.agg [(.d (.lit (.int .i64 p0))), (.d .nil)]) [] (Obd rfl) ?_
      refine Wy (.tup []) [(0, (.box [(.d (.lit (.int .i64 p0))), (.d .nil)]))] (Ost rfl) ?_
      refine Wy (.d (.lit (.int .i64 0))) [] (Omv rfl) ?_
      refine Walk.nil ?_
      refine Then.normal ?_
      refine AWP.ret ?_
      obtain rfl := Option.some.inj hm
      exact ret_i []

set_option maxRecDepth 20000 in
set_option maxHeartbeats 4000000 in
theorem ok_event_Event_ID (p0 : GEvent) (r : GID) (h : m_event_Event_ID p0 = some r) : GCall Try.prog 33 [(.agg [(.d (.lit (.int .i64 p0.Time))), (.d (.lit (.int .i64 p0.Source))), (.d (.lit (.int .i64 p0.Seq))), (.d (.lit (.string (toS p0.Type_)))), (.d (.sl (List.length p0.Vals) (flatD enc_GValue p0.Vals)))])] [] (.agg [(.d (.lit (.int .i64 r.Time))), (.d (.lit (.int .i64 r.Source))), (.d (.lit (.int .i64 r.Seq)))]) [] := by
  refine GCall.of_body (n := 10) (rs := [(.cell 2 83)]) Try.func33 rfl rfl rfl ?_
  refine Ato ⟨((.agg [(.d (.lit (.int .i64 p0.Time))), (.d (.lit (.int .i64 p0.Source))), (.d (.lit (.int .i64 p0.Seq))), (.d (.lit (.string (toS p0.Type_)))), (.d (.sl (List.length p0.Vals) (flatD enc_GValue p0.Vals)))]) :: (tu 9 [])), [], 0⟩ ?_
  have hm := h
  unfold m_event_Event_ID at hm
  refine AWP.seq ?_
  refine AWP.text ?_
  refine Wy (.loc 0 0) [(0, (.box [(.d (.lit (.int .i64 p0.Time))), (.d (.lit (.int .i64 p0.Source))), (.d (.lit (.int .i64 p0.Seq))), (.d (.lit (.string (toS p0.Type_)))), (.d (.sl (List.length p0.Vals) (flatD enc_GValue p0.Vals)))]))] (Obx rfl) ?_
  refine Wy (.loc 1 0) [(1, (.box [(.d (.lit (.int .i64 0))), (.d (.lit (.int .i64 0))), (.d (.lit (.int .i64 0)))]))] (Oal rfl) ?_
  refine Walk.nil ?_
  refine Then.normal ?_
  refine Amk 6 3 ⟨(tp 1 ((.loc 0 0) :: ((.loc 1 0) :: (tp 7 [])))), [(.box [(.d (.lit (.int .i64 p0.Time))), (.d (.lit (.int .i64 p0.Source))), (.d (.lit (.int .i64 p0.Seq))), (.d (.lit (.string (toS p0.Type_)))), (.d (.sl (List.length p0.Vals) (flatD enc_GValue p0.Vals)))]), (.box [(.d (.lit (.int .i64 0))), (.d (.lit (.int .i64 0))), (.d (.lit (.int .i64 0)))])], 0⟩ ?_
  refine AWP.seq ?_
  refine AWP.text ?_
  refine Wy (.loc 0 0) [] (Ofa rfl) ?_
  refine Wy (.d (.lit (.int .i64 p0.Time))) [] (Old rfl) ?_
  refine Wy (.loc 0 1) [] (Ofa rfl) ?_
  refine Wy (.d (.lit (.int .i64 p0.Source))) [] (Old rfl) ?_
  refine Wy (.loc 0 2) [] (Ofa rfl) ?_
  refine Wy (.d (.lit (.int .i64 p0.Seq))) [] (Old rfl) ?_
  refine Wy (.agg [(.d (.lit (.int .i64 p0.Time))), (.d (.lit (.int .i64 p0.Source))), (.d (.lit (.int .i64 p0.Seq)))]) [] (Obd rfl) ?_
  refine Wy (.tup []) [(1, (.box [(.d (.lit (.int .i64 p0.Time))), (.d (.lit (.int .i64 p0.Source))), (.d (.lit (.int .i64 p0.Seq)))]))] (Ost rfl) ?_
  refine Walk.nil ?_
  refine Then.normal ?_
  refine AWP.ret ?_
  obtain rfl := Option.some.inj hm
  exact ret_i []

set_option maxRecDepth 20000 in
set_option maxHeartbeats 4000000 in
theorem ok_sorter_Sorter_Put_1 (p0 : GEvent) (p1 : GEvent) (r : Bool) (h : m_sorter_Sorter_Put_1 p0 p1 = some r) : GCall Try.prog 32 [(.agg [(.d (.lit (.int .i64 p0.Time))), (.d (.lit (.int .i64 p0.Source))), (.d (.lit (.int .i64 p0.Seq))), (.d (.lit (.string (toS p0.Type_)))), (.d (.sl (List.length p0.Vals) (flatD enc_GValue p0.Vals)))]), (.d (.ref [(.lit (.int .i64 p1.Time)), (.lit (.int .i64 p1.Source)), (.lit (.int .i64 p1.Seq)), (.lit (.string (toS p1.Type_))), (.sl (List.length p1.Vals) (flatD enc_GValue p1.Vals))]))] [] (.d (.lit (.bool r))) [] := by
  refine GCall.of_body (n := 9) (rs := [(.tmp 3)]) Try.func32 rfl rfl rfl ?_
  refine Ato ⟨((.agg [(.d (.lit (.int .i64 p0.Time))), (.d (.lit (.int .i64 p0.Source))), (.d (.lit (.int .i64 p0.Seq))), (.d (.lit (.string (toS p0.Type_)))), (.d (.sl (List.length p0.Vals) (flatD enc_GValue p0.Vals)))]) :: ((.d (.ref [(.lit (.int .i64 p1.Time)), (.lit (.int .i64 p1.Source)), (.lit (.int .i64 p1.Seq)), (.lit (.string (toS p1.Type_))), (.sl (List.length p1.Vals) (flatD enc_GValue p1.Vals))])) :: (tu 7 []))), [], 0⟩ ?_
  have hm := h
  unfold m_sorter_Sorter_Put_1 at hm
  refine AWP.seq ?_
  refine AWP.text ?_
  refine Wy (.loc 0 0) [(0, (.box [(.d (.lit (.int .i64 p0.Time))), (.d (.lit (.int .i64 p0.Source))), (.d (.lit (.int .i64 p0.Seq))), (.d (.lit (.string (toS p0.Type_)))), (.d (.sl (List.length p0.Vals) (flatD enc_GValue p0.Vals)))]))] (Obx rfl) ?_
  refine Wy (.d (.lit (.bool false))) [] (Omv rfl) ?_
  refine Walk.nil ?_
  refine Then.normal ?_
  refine Amk 6 1 ⟨(tp 1 ((.d (.ref [(.lit (.int .i64 p1.Time)), (.lit (.int .i64 p1.Source)), (.lit (.int .i64 p1.Seq)), (.lit (.string (toS p1.Type_))), (.sl (List.length p1.Vals) (flatD enc_GValue p1.Vals))])) :: ((.loc 0 0) :: (tp 6 [])))), [(.box [(.d (.lit (.int .i64 p0.Time))), (.d (.lit (.int .i64 p0.Source))), (.d (.lit (.int .i64 p0.Seq))), (.d (.lit (.string (toS p0.Type_)))), (.d (.sl (List.length p0.Vals) (flatD enc_GValue p0.Vals)))])], 0⟩ ?_
  refine AWP.seq ?_
  refine Adr ?_
  refine Wy (.agg [(.d (.lit (.int .i64 p0.Time))), (.d (.lit (.int .i64 p0.Source))), (.d (.lit (.int .i64 p0.Seq))), (.d (.lit (.string (toS p0.Type_)))), (.d (.sl (List.length p0.Vals) (flatD enc_GValue p0.Vals)))]) [] (Old rfl) ?_
  obtain ⟨r5_0, hr5_0, hm⟩ := bnd hm
  refine Wy (.agg [(.d (.lit (.int .i64 r5_0.Time))), (.d (.lit (.int .i64 r5_0.Source))), (.d (.lit (.int .i64 r5_0.Seq)))]) [] (Ocf [] [] [] 0 (ok_event_Event_ID p0 r5_0 hr5_0) (fun a w => Try.call33 a w) rfl trivial) ?_
  refine Wy (.agg [(.d (.lit (.int .i64 p1.Time))), (.d (.lit (.int .i64 p1.Source))), (.d (.lit (.int .i64 p1.Seq))), (.d (.lit (.string (toS p1.Type_)))), (.d (.sl (List.length p1.Vals) (flatD enc_GValue p1.Vals)))]) [] (Old rfl) ?_
  obtain ⟨r7_0, hr7_0, hm⟩ := bnd hm
  refine Wy (.agg [(.d (.lit (.int .i64 r7_0.Time))), (.d (.lit (.int .i64 r7_0.Source))), (.d (.lit (.int .i64 r7_0.Seq)))]) [] (Ocf [] [] [] 0 (ok_event_Event_ID p1 r7_0 hr7_0) (fun a w => Try.call33 a w) rfl trivial) ?_
  obtain ⟨v8_0, hv8_0, hm⟩ := bnd hm; replace hv8_0 := Option.some.inj hv8_0
  refine Wy (.d (.lit (.bool v8_0))) [] (Ocs (Eq.trans (by kernel_rfl) (congrArg (fun z => A.d (.lit (.bool z))) hv8_0)) (op_eql_struct rfl (la := [(.d (.lit (.int .i64 r5_0.Time))), (.d (.lit (.int .i64 r5_0.Source))), (.d (.lit (.int .i64 r5_0.Seq)))]) (lb := [(.d (.lit (.int .i64 r7_0.Time))), (.d (.lit (.int .i64 r7_0.Source))), (.d (.lit (.int .i64 r7_0.Seq)))]) (us := [.int .i64 r5_0.Time, .int .i64 r5_0.Source, .int .i64 r5_0.Seq]) (vs := [.int .i64 r7_0.Time, .int .i64 r7_0.Source, .int .i64 r7_0.Seq]) (r := (decide (r5_0.Time = r7_0.Time) && (decide (r5_0.Source = r7_0.Source) && (decide (r5_0.Seq = r7_0.Seq) && true)))) (by kernel_rfl) (by kernel_rfl) (by kernel_rfl) (by kernel_rfl) (by kernel_rfl))) ?_
  refine Wy (.d (.lit (.bool v8_0))) [] (Omv rfl) ?_
  refine Wdr ?_
  refine Then.normal ?_
  refine AWP.ret ?_
  obtain rfl := Option.some.inj hm
  exact ret_i []

set_option maxRecDepth 20000 in
set_option maxHeartbeats 4000000 in
theorem ok_slices_IndexFunc_Event__sorter_Sorter_Put_1 (p0 : (List GEvent)) (p1c0 : GEvent) (r : Int) (h : m_slices_IndexFunc_Event__sorter_Sorter_Put_1 p0 p1c0 = some r) : GCall Try.prog 48 [(.d (.sl (List.length p0) (flatD enc_GEvent p0))), (.clo (.func 32) [] [(.d (.ref [(.lit (.int .i64 p1c0.Time)), (.lit (.int .i64 p1c0.Source)), (.lit (.int .i64 p1c0.Seq)), (.lit (.string (toS p1c0.Type_))), (.sl (List.length p1c0.Vals) (flatD enc_GValue p1c0.Vals))]))])] [] (.d (.lit (.int .i64 r))) [] := by
  refine GCall.of_body (n := 19) (rs := [(.tmp 4)]) Try.func48 rfl rfl rfl ?_
  refine Ato ⟨((.d (.sl (List.length p0) (flatD enc_GEvent p0))) :: ((.clo (.func 32) [] [(.d (.ref [(.lit (.int .i64 p1c0.Time)), (.lit (.int .i64 p1c0.Source)), (.lit (.int .i64 p1c0.Seq)), (.lit (.string (toS p1c0.Type_))), (.sl (List.length p1c0.Vals) (flatD enc_GValue p1c0.Vals))]))]) :: (tu 17 []))), [], 0⟩ ?_
  have hm := h
  unfold m_slices_IndexFunc_Event__sorter_Sorter_Put_1 at hm
  refine AWP.seq ?_
  refine AWP.text ?_
  refine Wy (.d (.lit (.int .i64 0))) [] (Omv rfl) ?_
  refine Walk.nil ?_
  refine Then.normal ?_
  refine Amk 3 0 ⟨((.d (.sl (List.length p0) (flatD enc_GEvent p0))) :: ((.clo (.func 32) [] [(.d (.ref [(.lit (.int .i64 p1c0.Time)), (.lit (.int .i64 p1c0.Source)), (.lit (.int .i64 p1c0.Seq)), (.lit (.string (toS p1c0.Type_))), (.sl (List.length p1c0.Vals) (flatD enc_GValue p1c0.Vals))]))]) :: (tp 17 []))), [], 0⟩ ?_
  refine AWP.seq ?_
  refine AWP.seq ?_
  refine AWP.text ?_
  refine Wy (.d (.sl (List.length p0) (flatD enc_GEvent p0))) [] (Omv rfl) ?_
  refine Wy (.d (.lit (.int .i64 ((List.length p0 : Nat) : Int)))) [] (Oln rfl) ?_
  refine Wy (.d (.lit (.int .i64 0))) [] (Omv rfl) ?_
  refine Walk.nil ?_
  refine Then.normal ?_
  refine Amk 387 0 ⟨((.d (.sl (List.length p0) (flatD enc_GEvent p0))) :: ((.clo (.func 32) [] [(.d (.ref [(.lit (.int .i64 p1c0.Time)), (.lit (.int .i64 p1c0.Source)), (.lit (.int .i64 p1c0.Seq)), (.lit (.string (toS p1c0.Type_))), (.sl (List.length p1c0.Vals) (flatD enc_GValue p1c0.Vals))]))]) :: (tp 5 ((.d (.lit (.int .i64 ((List.length p0 : Nat) : Int)))) :: ((.d (.lit (.int .i64 0))) :: (tp 10 [])))))), [], 0⟩ ?_
  refine AWP.block ?_
  refine AWP.loopI (α := Nat × Int)
    (fun x => match x with | (fu_1, y8_1) => (⟨((.d (.sl (List.length p0) (flatD enc_GEvent p0))) :: ((.clo (.func 32) [] [(.d (.ref [(.lit (.int .i64 p1c0.Time)), (.lit (.int .i64 p1c0.Source)), (.lit (.int .i64 p1c0.Seq)), (.lit (.string (toS p1c0.Type_))), (.sl (List.length p1c0.Vals) (flatD enc_GValue p1c0.Vals))]))]) :: (tp 5 ((.d (.lit (.int .i64 ((List.length p0 : Nat) : Int)))) :: ((.d (.lit (.int .i64 y8_1))) :: (tp 10 [])))))), [], 0⟩ : St))
    (fun x => match x with | (fu_1, y8_1) => m_slices_IndexFunc_Event__sorter_Sorter_Put_1_l1 p0 p1c0 fu_1 y8_1 = some r)
    (fun x => match x with | (fu_1, y8_1) => fu_1) (1152921504606846976, 0)
    (Weak.toK 387 0 0 []) hm ?_
  rintro ⟨fu_1, y8_1⟩ n_1 hm ih_1
  try dsimp only at hm ih_1 ⊢
  cases fu_1 with
  | zero => exact absurd hm (by unfold m_slices_IndexFunc_Event__sorter_Sorter_Put_1_l1; simp)
  | succ fu_1 =>
    unfold m_slices_IndexFunc_Event__sorter_Sorter_Put_1_l1 at hm
    refine AWP.seq ?_
    refine AWP.text ?_
    refine Wy (.d (.lit (.bool (decide (y8_1 < ((List.length p0 : Nat) : Int)))))) [] (Obn rfl (fun _ => hb_lss (k := .i64))) ?_
    refine Walk.nil ?_
    refine Then.normal ?_
    refine Amk 899 0 ⟨((.d (.sl (List.length p0) (flatD enc_GEvent p0))) :: ((.clo (.func 32) [] [(.d (.ref [(.lit (.int .i64 p1c0.Time)), (.lit (.int .i64 p1c0.Source)), (.lit (.int .i64 p1c0.Seq)), (.lit (.string (toS p1c0.Type_))), (.sl (List.length p1c0.Vals) (flatD enc_GValue p1c0.Vals))]))]) :: (tp 5 ((.d (.lit (.int .i64 ((List.length p0 : Nat) : Int)))) :: ((.d (.lit (.int .i64 y8_1))) :: ((.d (.lit (.bool (decide (y8_1 < ((List.length p0 : Nat) : Int)))))) :: (tp 9 []))))))), [], 0⟩ ?_
    refine AWP.seq ?_
    rcases tf_ (decide (y8_1 < ((List.length p0 : Nat) : Int))) with hc9_3 | hc9_3
    · replace hm := cT hc9_3 hm
      refine AWP.if_ true (Eq.trans (by kernel_rfl) (lit_tf (b := decide (y8_1 < ((List.length p0 : Nat) : Int))) hc9_3)) ?_
      refine AWP.skip ?_
      refine Then.normal ?_
      refine Amk 387 0 ⟨((.d (.sl (List.length p0) (flatD enc_GEvent p0))) :: ((.clo (.func 32) [] [(.d (.ref [(.lit (.int .i64 p1c0.Time)), (.lit (.int .i64 p1c0.Source)), (.lit (.int .i64 p1c0.Seq)), (.lit (.string (toS p1c0.Type_))), (.sl (List.length p1c0.Vals) (flatD enc_GValue p1c0.Vals))]))]) :: (tp 5 ((.d (.lit (.int .i64 ((List.length p0 : Nat) : Int)))) :: ((.d (.lit (.int .i64 y8_1))) :: (tp 10 [])))))), [], 0⟩ ?_
      refine AWP.seq ?_
      refine AWP.block ?_
      refine AWP.seq ?_
      refine AWP.text ?_
      refine Wy (.d (.lit (.int .i64 y8_1))) [] (Omv rfl) ?_
      refine Wy (.d (.lit (.int .i64 y8_1))) [] (Omv rfl) ?_
      refine Walk.nil ?_
      refine Then.normal ?_
      refine Amk 419 0 ⟨((.d (.sl (List.length p0) (flatD enc_GEvent p0))) :: ((.clo (.func 32) [] [(.d (.ref [(.lit (.int .i64 p1c0.Time)), (.lit (.int .i64 p1c0.Source)), (.lit (.int .i64 p1c0.Seq)), (.lit (.string (toS p1c0.Type_))), (.sl (List.length p1c0.Vals) (flatD enc_GValue p1c0.Vals))]))]) :: (tp 3 ((.d (.lit (.int .i64 y8_1))) :: (tp 1 ((.d (.lit (.int .i64 ((List.length p0 : Nat) : Int)))) :: ((.d (.lit (.int .i64 y8_1))) :: (tp 10 [])))))))), [], 0⟩ ?_
      refine AWP.seq ?_
      refine AWP.text ?_
      refine Wy (.clo (.func 32) [] [(.d (.ref [(.lit (.int .i64 p1c0.Time)), (.lit (.int .i64 p1c0.Source)), (.lit (.int .i64 p1c0.Seq)), (.lit (.string (toS p1c0.Type_))), (.sl (List.length p1c0.Vals) (flatD enc_GValue p1c0.Vals))]))]) [] (Omv rfl) ?_
      refine Wy (.d (.sl (List.length p0) (flatD enc_GEvent p0))) [] (Omv rfl) ?_
      refine Wy (.d (.lit (.int .i64 y8_1))) [] (Omv rfl) ?_
      obtain ⟨x14_2, hx14_2, hm⟩ := bnd hm
      obtain ⟨hx14_2i, hx14_2g⟩ := geti_some hx14_2
      refine Wy (.d (.ref (List.drop ((Int.toNat y8_1) * 5) (flatD enc_GEvent p0)))) [] (Oia rfl enc_GEvent_len hx14_2i hx14_2g) ?_
      refine Wy (.agg [(.d (.lit (.int .i64 x14_2.Time))), (.d (.lit (.int .i64 x14_2.Source))), (.d (.lit (.int .i64 x14_2.Seq))), (.d (.lit (.string (toS x14_2.Type_)))), (.d (.sl (List.length x14_2.Vals) (flatD enc_GValue x14_2.Vals)))]) [] (Lf rfl enc_GEvent_len hx14_2g) ?_
      obtain ⟨r16_2, hr16_2, hm⟩ := bnd hm
      refine Wy (.d (.lit (.bool r16_2))) [] (Ocf [] [] [] 0 (ok_sorter_Sorter_Put_1 x14_2 p1c0 r16_2 hr16_2) (fun a w => Try.call32 a w) rfl trivial) ?_
      refine Walk.nil ?_
      refine Then.normal ?_
      refine Amk 65955 0 ⟨((.d (.sl (List.length p0) (flatD enc_GEvent p0))) :: ((.clo (.func 32) [] [(.d (.ref [(.lit (.int .i64 p1c0.Time)), (.lit (.int .i64 p1c0.Source)), (.lit (.int .i64 p1c0.Seq)), (.lit (.string (toS p1c0.Type_))), (.sl (List.length p1c0.Vals) (flatD enc_GValue p1c0.Vals))]))]) :: (tp 3 ((.d (.lit (.int .i64 y8_1))) :: (tp 1 ((.d (.lit (.int .i64 ((List.length p0 : Nat) : Int)))) :: ((.d (.lit (.int .i64 y8_1))) :: (tp 7 ((.d (.lit (.bool r16_2))) :: (tp 2 [])))))))))), [], 0⟩ ?_
      rcases tf_ r16_2 with hc16_4 | hc16_4
      · replace hm := cT hc16_4 hm
        refine AWP.if_ true (Eq.trans (by kernel_rfl) (lit_tf (b := r16_2) hc16_4)) ?_
        refine AWP.seq ?_
        refine AWP.text ?_
        refine Wy (.d (.lit (.int .i64 y8_1))) [] (Omv rfl) ?_
        refine Wy (.d (.lit (.int .i64 y8_1))) [] (Omv rfl) ?_
        refine Walk.nil ?_
        refine Then.normal ?_
        refine AWP.ret ?_
        refine InBlock.ret ?_
        refine Then.ret ?_
        refine RoundK.ret ?_
        refine InBlock.ret ?_
        refine Then.ret ?_
        obtain rfl := Option.some.inj hm
        exact ret_i []
      · replace hm := cF hc16_4 hm
        refine AWP.if_ false (Eq.trans (by kernel_rfl) (lit_tf (b := r16_2) hc16_4)) ?_
        refine AWP.skip ?_
        refine InBlock.normal ?_
        refine Then.normal ?_
        refine Amk 387 0 ⟨((.d (.sl (List.length p0) (flatD enc_GEvent p0))) :: ((.clo (.func 32) [] [(.d (.ref [(.lit (.int .i64 p1c0.Time)), (.lit (.int .i64 p1c0.Source)), (.lit (.int .i64 p1c0.Seq)), (.lit (.string (toS p1c0.Type_))), (.sl (List.length p1c0.Vals) (flatD enc_GValue p1c0.Vals))]))]) :: (tp 5 ((.d (.lit (.int .i64 ((List.length p0 : Nat) : Int)))) :: ((.d (.lit (.int .i64 y8_1))) :: (tp 10 [])))))), [], 0⟩ ?_
        refine AWP.text ?_
        refine Wy (.d (.lit (.int .i64 (IntKind.i64.wrap (y8_1 + 1))))) [] (Obn rfl (fun _ => hb_add (k := .i64))) ?_
        refine Wy (.d (.lit (.int .i64 (IntKind.i64.wrap (y8_1 + 1))))) [] (Omv rfl) ?_
        refine Walk.nil ?_
        refine RoundK.normal ?_
        exact Rounds.weak (Weak.toK 387 0 0 []) (ih_1 (fu_1, (IntKind.i64.wrap (y8_1 + 1))) hm (Nat.lt_succ_self _))
    · replace hm := cF hc9_3 hm
      refine AWP.if_ false (Eq.trans (by kernel_rfl) (lit_tf (b := decide (y8_1 < ((List.length p0 : Nat) : Int))) hc9_3)) ?_
      refine AWP.exit ?_
      refine Then.exit ?_
      refine RoundK.exit ?_
      refine InBlock.same ?_
      refine Then.normal ?_
      refine Amk 0 0 ⟨(tp 19 []), [], 0⟩ ?_
      refine AWP.seq ?_
      refine AWP.text ?_
      refine Wy (.d (.lit (.int .i64 (-1)))) [] (Omv rfl) ?_
      refine Walk.nil ?_
      refine Then.normal ?_
      refine AWP.ret ?_
      obtain rfl := Option.some.inj hm
      exact ret_i []

set_option maxRecDepth 20000 in
set_option maxHeartbeats 4000000 in
theorem ok_slices_ContainsFunc_Event__sorter_Sorter_Put_1 (p0 : (List GEvent)) (p1c0 : GEvent) (r : Bool) (h : m_slices_ContainsFunc_Event__sorter_Sorter_Put_1 p0 p1c0 = some r) : GCall Try.prog 31 [(.d (.sl (List.length p0) (flatD enc_GEvent p0))), (.clo (.func 32) [] [(.d (.ref [(.lit (.int .i64 p1c0.Time)), (.lit (.int .i64 p1c0.Source)), (.lit (.int .i64 p1c0.Seq)), (.lit (.string (toS p1c0.Type_))), (.sl (List.length p1c0.Vals) (flatD enc_GValue p1c0.Vals))]))])] [] (.d (.lit (.bool r))) [] := by
  refine GCall.of_body (n := 9) (rs := [(.tmp 4)]) Try.func31 rfl rfl rfl ?_
  refine Ato ⟨((.d (.sl (List.length p0) (flatD enc_GEvent p0))) :: ((.clo (.func 32) [] [(.d (.ref [(.lit (.int .i64 p1c0.Time)), (.lit (.int .i64 p1c0.Source)), (.lit (.int .i64 p1c0.Seq)), (.lit (.string (toS p1c0.Type_))), (.sl (List.length p1c0.Vals) (flatD enc_GValue p1c0.Vals))]))]) :: (tu 7 []))), [], 0⟩ ?_
  have hm := h
  unfold m_slices_ContainsFunc_Event__sorter_Sorter_Put_1 at hm
  refine AWP.seq ?_
  refine AWP.text ?_
  refine Wy (.d (.lit (.bool false))) [] (Omv rfl) ?_
  refine Walk.nil ?_
  refine Then.normal ?_
  refine Amk 3 0 ⟨((.d (.sl (List.length p0) (flatD enc_GEvent p0))) :: ((.clo (.func 32) [] [(.d (.ref [(.lit (.int .i64 p1c0.Time)), (.lit (.int .i64 p1c0.Source)), (.lit (.int .i64 p1c0.Seq)), (.lit (.string (toS p1c0.Type_))), (.sl (List.length p1c0.Vals) (flatD enc_GValue p1c0.Vals))]))]) :: (tp 7 []))), [], 0⟩ ?_
  refine AWP.seq ?_
  refine AWP.text ?_
  refine Wy (.d (.sl (List.length p0) (flatD enc_GEvent p0))) [] (Omv rfl) ?_
  refine Wy (.clo (.func 32) [] [(.d (.ref [(.lit (.int .i64 p1c0.Time)), (.lit (.int .i64 p1c0.Source)), (.lit (.int .i64 p1c0.Seq)), (.lit (.string (toS p1c0.Type_))), (.sl (List.length p1c0.Vals) (flatD enc_GValue p1c0.Vals))]))]) [] (Omv rfl) ?_
  obtain ⟨r7_0, hr7_0, hm⟩ := bnd hm
  refine Wy (.d (.lit (.int .i64 r7_0))) [] (Ocf [] [] [] 0 (ok_slices_IndexFunc_Event__sorter_Sorter_Put_1 p0 p1c0 r7_0 hr7_0) (fun a w => Try.call48 a w) rfl trivial) ?_
  refine Wy (.d (.lit (.bool (decide ((0 : Int) ≤ r7_0))))) [] (Obn rfl (fun _ => hb_geq (k := .i64))) ?_
  refine Wy (.d (.lit (.bool (decide ((0 : Int) ≤ r7_0))))) [] (Omv rfl) ?_
  refine Walk.nil ?_
  refine Then.normal ?_
  refine AWP.ret ?_
  obtain rfl := Option.some.inj hm
  exact ret_i []

set_option maxRecDepth 20000 in
set_option maxHeartbeats 4000000 in
theorem ok_sorter_Sorter_heap (p0 : GSorter) (r : (List GEvent)) (h : m_sorter_Sorter_heap p0 = some r) : GCall Try.prog 27 [(.agg [(.d (.lit (.int .i64 p0.Cap))), (.d (.sl (List.length p0.L) (flatD enc_GEvent p0.L)))])] [] (.agg [(.d (.sl (List.length r) (flatD enc_GEvent r))), (.clo (.func 44) [] [])]) [] := by
  refine GCall.of_body (n := 6) (rs := [(.cell 2 75)]) Try.func27 rfl rfl rfl ?_
  refine Ato ⟨((.agg [(.d (.lit (.int .i64 p0.Cap))), (.d (.sl (List.length p0.L) (flatD enc_GEvent p0.L)))]) :: (tu 5 [])), [], 0⟩ ?_
  have hm := h
  unfold m_sorter_Sorter_heap at hm
  refine AWP.seq ?_
  refine AWP.text ?_
  refine Wy (.loc 0 0) [(0, (.box [(.d (.lit (.int .i64 p0.Cap))), (.d (.sl (List.length p0.L) (flatD enc_GEvent p0.L)))]))] (Obx rfl) ?_
  refine Wy (.loc 1 0) [(1, (.box [(.d .nil), (.d (.lit .nilFunc))]))] (Oal rfl) ?_
  refine Walk.nil ?_
  refine Then.normal ?_
  refine Amk 6 3 ⟨(tp 1 ((.loc 0 0) :: ((.loc 1 0) :: (tp 3 [])))), [(.box [(.d (.lit (.int .i64 p0.Cap))), (.d (.sl (List.length p0.L) (flatD enc_GEvent p0.L)))]), (.box [(.d .nil), (.d (.lit .nilFunc))])], 0⟩ ?_
  refine AWP.seq ?_
  refine AWP.text ?_
  refine Wy (.loc 0 1) [] (Ofa rfl) ?_
  refine Wy (.d (.sl (List.length p0.L) (flatD enc_GEvent p0.L))) [] (Old rfl) ?_
  refine Wy (.agg [(.d (.sl (List.length p0.L) (flatD enc_GEvent p0.L))), (.clo (.func 44) [] [])]) [] (Obd rfl) ?_
  refine Wy (.tup []) [(1, (.box [(.d (.sl (List.length p0.L) (flatD enc_GEvent p0.L))), (.clo (.func 44) [] [])]))] (Ost rfl) ?_
  refine Walk.nil ?_
  refine Then.normal ?_
  refine AWP.ret ?_
  obtain rfl := Option.some.inj hm
  exact ret_i []

set_option maxRecDepth 20000 in
set_option maxHeartbeats 4000000 in
theorem ok_slices_Clone_Event (p0 : (List GEvent)) (r : (List GEvent)) (h : m_slices_Clone_Event p0 = some r) : GCall Try.prog 52 [(.d (.sl (List.length p0) (flatD enc_GEvent p0)))] [] (.own 0) [(.arr 50 5 (List.length r) (flatD enc_GEvent r))] := by
  refine GCall.of_body (n := 8) (rs := [(.tmp 2)]) Try.func52 rfl rfl rfl ?_
  refine Ato ⟨((.d (.sl (List.length p0) (flatD enc_GEvent p0))) :: (tu 7 [])), [], 0⟩ ?_
  have hm := h
  unfold m_slices_Clone_Event at hm
  refine AWP.seq ?_
  refine AWP.text ?_
  refine Wy (.d .nil) [] (Omv rfl) ?_
  refine Walk.nil ?_
  refine Then.normal ?_
  refine Amk 1 0 ⟨((.d (.sl (List.length p0) (flatD enc_GEvent p0))) :: (tp 7 [])), [], 0⟩ ?_
  refine AWP.seq ?_
  refine AWP.seq ?_
  refine AWP.text ?_
  refine Wy (.d (.sl (List.length p0) (flatD enc_GEvent p0))) [] (Omv rfl) ?_
  refine Wy (.ab (List.length p0 = 0)) [] (op_eqnil rfl (e := 50) (by kernel_rfl) (ya := (.d (.sl (List.length p0) (flatD enc_GEvent p0)))) (by kernel_rfl) (ds := flatD enc_GEvent p0) (off := 0) (by kernel_rfl) (by kernel_rfl)) ?_
  refine Walk.nil ?_
  refine Then.normal ?_
  refine Amk 17 0 ⟨((.d (.sl (List.length p0) (flatD enc_GEvent p0))) :: (tp 3 ((.ab (List.length p0 = 0)) :: (tp 3 [])))), [], 0⟩ ?_
  refine AWP.condU (p := List.length p0 = 0) (by kernel_rfl) (fun hnil => ?_) ?_
  · refine AWP.seq ?_
    refine AWP.text ?_
    refine Wy (.d .nil) [] (Omv rfl) ?_
    refine Walk.nil ?_
    refine Then.normal ?_
    refine Aow 2 50 5 ⟨((.d (.sl (List.length p0) (flatD enc_GEvent p0))) :: (tp 1 ((.own 0) :: (tp 1 ((.ab (List.length p0 = 0)) :: (tp 3 [])))))), [(.arr 50 5 (List.length ([] : List GEvent)) (flatD enc_GEvent ([] : List GEvent)))], 0⟩ ?_
    refine AWP.ret ?_
    refine Then.ret ?_
    obtain rfl := nil_app hm (List.eq_nil_of_length_eq_zero hnil)
    exact ret_i [0]
  refine AWP.skip ?_
  refine Then.normal ?_
  refine Amk 1 0 ⟨((.d (.sl (List.length p0) (flatD enc_GEvent p0))) :: (tp 7 [])), [], 0⟩ ?_
  refine AWP.seq ?_
  refine AWP.text ?_
  refine Wy (.own 0) [(0, (.arr 50 5 (List.length ([] : List GEvent)) (flatD enc_GEvent ([] : List GEvent))))] (Obs rfl) ?_
  refine Wy (.d (.sl (List.length p0) (flatD enc_GEvent p0))) [] (Omv rfl) ?_
  obtain ⟨a7_0, ha7_0, hm⟩ := bnd hm; obtain ⟨ha7_0e, ha7_0l⟩ := app_some ha7_0
  refine Wy (.own 1) [(0, .gone), (1, (.arr 50 5 (List.length a7_0) (flatD enc_GEvent a7_0)))] (Oap rfl elemOK_24 enc_GEvent_len ha7_0e ha7_0l) ?_
  refine Wy (.own 1) [] (Omv rfl) ?_
  refine Walk.nil ?_
  refine Then.normal ?_
  refine AWP.ret ?_
  obtain rfl := Option.some.inj hm
  exact ret_i [1]

set_option maxRecDepth 20000 in
set_option maxHeartbeats 4000000 in
theorem ok_sorter_Heap_event_Event_clone__sorter_ahead (p0_L : (List GEvent)) (r : (List GEvent)) (h : m_sorter_Heap_event_Event_clone__sorter_ahead p0_L = some r) : GCall Try.prog 45 [(.agg [(.d (.sl (List.length p0_L) (flatD enc_GEvent p0_L))), (.clo (.func 44) [] [])])] [] (.agg [(.own 0), (.clo (.func 44) [] [])]) [(.arr 50 5 (List.length r) (flatD enc_GEvent r))] := by
  refine GCall.of_body (n := 9) (rs := [(.cell 2 75)]) Try.func45 rfl rfl rfl ?_
  refine Ato ⟨((.agg [(.d (.sl (List.length p0_L) (flatD enc_GEvent p0_L))), (.clo (.func 44) [] [])]) :: (tu 8 [])), [], 0⟩ ?_
  have hm := h
  unfold m_sorter_Heap_event_Event_clone__sorter_ahead at hm
  refine AWP.seq ?_
  refine AWP.text ?_
  refine Wy (.loc 0 0) [(0, (.box [(.d (.sl (List.length p0_L) (flatD enc_GEvent p0_L))), (.clo (.func 44) [] [])]))] (Obx rfl) ?_
  refine Wy (.loc 1 0) [(1, (.box [(.d .nil), (.d (.lit .nilFunc))]))] (Oal rfl) ?_
  refine Walk.nil ?_
  refine Then.normal ?_
  refine Amk 6 3 ⟨(tp 1 ((.loc 0 0) :: ((.loc 1 0) :: (tp 6 [])))), [(.box [(.d (.sl (List.length p0_L) (flatD enc_GEvent p0_L))), (.clo (.func 44) [] [])]), (.box [(.d .nil), (.d (.lit .nilFunc))])], 0⟩ ?_
  refine AWP.seq ?_
  refine Adr ?_
  refine Wy (.loc 0 0) [] (Ofa rfl) ?_
  refine Wy (.d (.sl (List.length p0_L) (flatD enc_GEvent p0_L))) [] (Old rfl) ?_
  obtain ⟨r5_0, hr5_0, hm⟩ := bnd hm
  refine Wy (.own 2) [(2, (.arr 50 5 (List.length r5_0) (flatD enc_GEvent r5_0)))] (Ocf [] [2] [] 0 (ok_slices_Clone_Event p0_L r5_0 hr5_0) (fun a w => Try.call52 a w) rfl trivial) ?_
  refine Wy (.loc 0 1) [] (Ofa rfl) ?_
  refine Wy (.clo (.func 44) [] []) [] (Old rfl) ?_
  refine Wy (.agg [(.own 2), (.clo (.func 44) [] [])]) [] (Obd rfl) ?_
  refine Wy (.tup []) [(1, (.box [(.own 2), (.clo (.func 44) [] [])]))] (Ost rfl) ?_
  refine Wdr ?_
  refine Then.normal ?_
  refine AWP.ret ?_
  obtain rfl := Option.some.inj hm
  exact ret_i [2]

set_option maxRecDepth 20000 in
set_option maxHeartbeats 4000000 in
theorem ok_event_ID_Less (p0 : GID) (p1 : GID) (r : Bool) (h : m_event_ID_Less p0 p1 = some r) : GCall Try.prog 51 [(.agg [(.d (.lit (.int .i64 p0.Time))), (.d (.lit (.int .i64 p0.Source))), (.d (.lit (.int .i64 p0.Seq)))]), (.agg [(.d (.lit (.int .i64 p1.Time))), (.d (.lit (.int .i64 p1.Source))), (.d (.lit (.int .i64 p1.Seq)))])] [] (.d (.lit (.bool r))) [] := by
  refine GCall.of_body (n := 32) (rs := [(.tmp 4)]) Try.func51 rfl rfl rfl ?_
  refine Ato ⟨((.agg [(.d (.lit (.int .i64 p0.Time))), (.d (.lit (.int .i64 p0.Source))), (.d (.lit (.int .i64 p0.Seq)))]) :: ((.agg [(.d (.lit (.int .i64 p1.Time))), (.d (.lit (.int .i64 p1.Source))), (.d (.lit (.int .i64 p1.Seq)))]) :: (tu 30 []))), [], 0⟩ ?_
  have hm := h
  unfold m_event_ID_Less at hm
  refine AWP.seq ?_
  refine AWP.text ?_
  refine Wy (.loc 0 0) [(0, (.box [(.d (.lit (.int .i64 p0.Time))), (.d (.lit (.int .i64 p0.Source))), (.d (.lit (.int .i64 p0.Seq)))]))] (Obx rfl) ?_
  refine Wy (.loc 1 0) [(1, (.box [(.d (.lit (.int .i64 p1.Time))), (.d (.lit (.int .i64 p1.Source))), (.d (.lit (.int .i64 p1.Seq)))]))] (Obx rfl) ?_
  refine Wy (.d (.lit (.bool false))) [] (Omv rfl) ?_
  refine Walk.nil ?_
  refine Then.normal ?_
  refine Amk 12 3 ⟨(tp 2 ((.loc 0 0) :: ((.loc 1 0) :: (tp 28 [])))), [(.box [(.d (.lit (.int .i64 p0.Time))), (.d (.lit (.int .i64 p0.Source))), (.d (.lit (.int .i64 p0.Seq)))]), (.box [(.d (.lit (.int .i64 p1.Time))), (.d (.lit (.int .i64 p1.Source))), (.d (.lit (.int .i64 p1.Seq)))])], 0⟩ ?_
  refine AWP.seq ?_
  refine AWP.block ?_
  refine AWP.seq ?_
  refine AWP.text ?_
  refine Wy (.loc 0 0) [] (Ofa rfl) ?_
  refine Wy (.d (.lit (.int .i64 p0.Time))) [] (Old rfl) ?_
  refine Wy (.loc 1 0) [] (Ofa rfl) ?_
  refine Wy (.d (.lit (.int .i64 p1.Time))) [] (Old rfl) ?_
  refine Wy (.d (.lit (.bool (decide (p0.Time ≠ p1.Time))))) [] (Obn rfl (fun _ => hb_neq (k := .i64))) ?_
  refine Wy (.d (.lit (.bool (decide (p0.Time ≠ p1.Time))))) [] (Omv rfl) ?_
  refine Walk.nil ?_
  refine Then.normal ?_
  refine Amk 44 3 ⟨(tp 2 ((.loc 0 0) :: ((.loc 1 0) :: (tp 1 ((.d (.lit (.bool (decide (p0.Time ≠ p1.Time))))) :: (tp 26 [])))))), [(.box [(.d (.lit (.int .i64 p0.Time))), (.d (.lit (.int .i64 p0.Source))), (.d (.lit (.int .i64 p0.Seq)))]), (.box [(.d (.lit (.int .i64 p1.Time))), (.d (.lit (.int .i64 p1.Source))), (.d (.lit (.int .i64 p1.Seq)))])], 0⟩ ?_
  rcases tf_ (decide (p0.Time ≠ p1.Time)) with hc5_0 | hc5_0
  · replace hm := cT hc5_0 hm
    refine AWP.if_ true (Eq.trans (by kernel_rfl) (lit_tf (b := decide (p0.Time ≠ p1.Time)) hc5_0)) ?_
    refine AWP.seq ?_
    refine AWP.text ?_
    refine Wy (.loc 0 0) [] (Ofa rfl) ?_
    refine Wy (.d (.lit (.int .i64 p0.Time))) [] (Old rfl) ?_
    refine Wy (.loc 1 0) [] (Ofa rfl) ?_
    refine Wy (.d (.lit (.int .i64 p1.Time))) [] (Old rfl) ?_
    refine Wy (.d (.lit (.bool (decide (p0.Time < p1.Time))))) [] (Obn rfl (fun _ => hb_lss (k := .i64))) ?_
    refine Wy (.d (.lit (.bool (decide (p0.Time < p1.Time))))) [] (Omv rfl) ?_
    refine Walk.nil ?_
    refine Then.normal ?_
    refine AWP.ret ?_
    refine InBlock.ret ?_
    refine Then.ret ?_
    obtain rfl := Option.some.inj hm
    exact ret_i []
  · replace hm := cF hc5_0 hm
    refine AWP.if_ false (Eq.trans (by kernel_rfl) (lit_tf (b := decide (p0.Time ≠ p1.Time)) hc5_0)) ?_
    refine AWP.seq ?_
    refine AWP.text ?_
    refine Wy (.loc 0 1) [] (Ofa rfl) ?_
    refine Wy (.d (.lit (.int .i64 p0.Source))) [] (Old rfl) ?_
    refine Wy (.loc 1 1) [] (Ofa rfl) ?_
    refine Wy (.d (.lit (.int .i64 p1.Source))) [] (Old rfl) ?_
    refine Wy (.d (.lit (.bool (decide (p0.Source ≠ p1.Source))))) [] (Obn rfl (fun _ => hb_neq (k := .i64))) ?_
    refine Wy (.d (.lit (.bool (decide (p0.Source ≠ p1.Source))))) [] (Omv rfl) ?_
    refine Walk.nil ?_
    refine Then.normal ?_
    refine Amk 65548 3 ⟨(tp 2 ((.loc 0 0) :: ((.loc 1 0) :: (tp 12 ((.d (.lit (.bool (decide (p0.Source ≠ p1.Source))))) :: (tp 15 [])))))), [(.box [(.d (.lit (.int .i64 p0.Time))), (.d (.lit (.int .i64 p0.Source))), (.d (.lit (.int .i64 p0.Seq)))]), (.box [(.d (.lit (.int .i64 p1.Time))), (.d (.lit (.int .i64 p1.Source))), (.d (.lit (.int .i64 p1.Seq)))])], 0⟩ ?_
    rcases tf_ (decide (p0.Source ≠ p1.Source)) with hc16_1 | hc16_1
    · replace hm := cT hc16_1 hm
      refine AWP.if_ true (Eq.trans (by kernel_rfl) (lit_tf (b := decide (p0.Source ≠ p1.Source)) hc16_1)) ?_
      refine AWP.seq ?_
      refine AWP.text ?_
      refine Wy (.loc 0 1) [] (Ofa rfl) ?_
      refine Wy (.d (.lit (.int .i64 p0.Source))) [] (Old rfl) ?_
      refine Wy (.loc 1 1) [] (Ofa rfl) ?_
      refine Wy (.d (.lit (.int .i64 p1.Source))) [] (Old rfl) ?_
      refine Wy (.d (.lit (.bool (decide (p0.Source < p1.Source))))) [] (Obn rfl (fun _ => hb_lss (k := .i64))) ?_
      refine Wy (.d (.lit (.bool (decide (p0.Source < p1.Source))))) [] (Omv rfl) ?_
      refine Walk.nil ?_
      refine Then.normal ?_
      refine AWP.ret ?_
      refine InBlock.ret ?_
      refine Then.ret ?_
      obtain rfl := Option.some.inj hm
      exact ret_i []
    · replace hm := cF hc16_1 hm
      refine AWP.if_ false (Eq.trans (by kernel_rfl) (lit_tf (b := decide (p0.Source ≠ p1.Source)) hc16_1)) ?_
      refine AWP.skip ?_
      refine InBlock.normal ?_
      refine Then.normal ?_
      refine Amk 12 3 ⟨(tp 2 ((.loc 0 0) :: ((.loc 1 0) :: (tp 28 [])))), [(.box [(.d (.lit (.int .i64 p0.Time))), (.d (.lit (.int .i64 p0.Source))), (.d (.lit (.int .i64 p0.Seq)))]), (.box [(.d (.lit (.int .i64 p1.Time))), (.d (.lit (.int .i64 p1.Source))), (.d (.lit (.int .i64 p1.Seq)))])], 0⟩ ?_
      refine AWP.seq ?_
      refine AWP.text ?_
      refine Wy (.loc 0 2) [] (Ofa rfl) ?_
      refine Wy (.d (.lit (.int .i64 p0.Seq))) [] (Old rfl) ?_
      refine Wy (.loc 1 2) [] (Ofa rfl) ?_
      refine Wy (.d (.lit (.int .i64 p1.Seq))) [] (Old rfl) ?_
      refine Wy (.d (.lit (.bool (decide (p0.Seq < p1.Seq))))) [] (Obn rfl (fun _ => hb_lss (k := .i64))) ?_
      refine Wy (.d (.lit (.bool (decide (p0.Seq < p1.Seq))))) [] (Omv rfl) ?_
      refine Walk.nil ?_
      refine Then.normal ?_
      refine AWP.ret ?_
      obtain rfl := Option.some.inj hm
      exact ret_i []

set_option maxRecDepth 20000 in
set_option maxHeartbeats 4000000 in
theorem ok_sorter_ahead (p0 : GEvent) (p1 : GEvent) (r : Bool) (h : m_sorter_ahead p0 p1 = some r) : GCall Try.prog 44 [(.agg [(.d (.lit (.int .i64 p0.Time))), (.d (.lit (.int .i64 p0.Source))), (.d (.lit (.int .i64 p0.Seq))), (.d (.lit (.string (toS p0.Type_)))), (.d (.sl (List.length p0.Vals) (flatD enc_GValue p0.Vals)))]), (.agg [(.d (.lit (.int .i64 p1.Time))), (.d (.lit (.int .i64 p1.Source))), (.d (.lit (.int .i64 p1.Seq))), (.d (.lit (.string (toS p1.Type_)))), (.d (.sl (List.length p1.Vals) (flatD enc_GValue p1.Vals)))])] [] (.d (.lit (.bool r))) [] := by
  refine GCall.of_body (n := 10) (rs := [(.tmp 4)]) Try.func44 rfl rfl rfl ?_
  refine Ato ⟨((.agg [(.d (.lit (.int .i64 p0.Time))), (.d (.lit (.int .i64 p0.Source))), (.d (.lit (.int .i64 p0.Seq))), (.d (.lit (.string (toS p0.Type_)))), (.d (.sl (List.length p0.Vals) (flatD enc_GValue p0.Vals)))]) :: ((.agg [(.d (.lit (.int .i64 p1.Time))), (.d (.lit (.int .i64 p1.Source))), (.d (.lit (.int .i64 p1.Seq))), (.d (.lit (.string (toS p1.Type_)))), (.d (.sl (List.length p1.Vals) (flatD enc_GValue p1.Vals)))]) :: (tu 8 []))), [], 0⟩ ?_
  have hm := h
  unfold m_sorter_ahead at hm
  refine AWP.seq ?_
  refine AWP.text ?_
  refine Wy (.loc 0 0) [(0, (.box [(.d (.lit (.int .i64 p0.Time))), (.d (.lit (.int .i64 p0.Source))), (.d (.lit (.int .i64 p0.Seq))), (.d (.lit (.string (toS p0.Type_)))), (.d (.sl (List.length p0.Vals) (flatD enc_GValue p0.Vals)))]))] (Obx rfl) ?_
  refine Wy (.loc 1 0) [(1, (.box [(.d (.lit (.int .i64 p1.Time))), (.d (.lit (.int .i64 p1.Source))), (.d (.lit (.int .i64 p1.Seq))), (.d (.lit (.string (toS p1.Type_)))), (.d (.sl (List.length p1.Vals) (flatD enc_GValue p1.Vals)))]))] (Obx rfl) ?_
  refine Wy (.d (.lit (.bool false))) [] (Omv rfl) ?_
  refine Walk.nil ?_
  refine Then.normal ?_
  refine Amk 12 3 ⟨(tp 2 ((.loc 0 0) :: ((.loc 1 0) :: (tp 6 [])))), [(.box [(.d (.lit (.int .i64 p0.Time))), (.d (.lit (.int .i64 p0.Source))), (.d (.lit (.int .i64 p0.Seq))), (.d (.lit (.string (toS p0.Type_)))), (.d (.sl (List.length p0.Vals) (flatD enc_GValue p0.Vals)))]), (.box [(.d (.lit (.int .i64 p1.Time))), (.d (.lit (.int .i64 p1.Source))), (.d (.lit (.int .i64 p1.Seq))), (.d (.lit (.string (toS p1.Type_)))), (.d (.sl (List.length p1.Vals) (flatD enc_GValue p1.Vals)))])], 0⟩ ?_
  refine AWP.seq ?_
  refine Adr ?_
  refine Wy (.agg [(.d (.lit (.int .i64 p0.Time))), (.d (.lit (.int .i64 p0.Source))), (.d (.lit (.int .i64 p0.Seq))), (.d (.lit (.string (toS p0.Type_)))), (.d (.sl (List.length p0.Vals) (flatD enc_GValue p0.Vals)))]) [] (Old rfl) ?_
  obtain ⟨r6_0, hr6_0, hm⟩ := bnd hm
  refine Wy (.agg [(.d (.lit (.int .i64 r6_0.Time))), (.d (.lit (.int .i64 r6_0.Source))), (.d (.lit (.int .i64 r6_0.Seq)))]) [] (Ocf [] [] [] 0 (ok_event_Event_ID p0 r6_0 hr6_0) (fun a w => Try.call33 a w) rfl trivial) ?_
  refine Wy (.agg [(.d (.lit (.int .i64 p1.Time))), (.d (.lit (.int .i64 p1.Source))), (.d (.lit (.int .i64 p1.Seq))), (.d (.lit (.string (toS p1.Type_)))), (.d (.sl (List.length p1.Vals) (flatD enc_GValue p1.Vals)))]) [] (Old rfl) ?_
  obtain ⟨r8_0, hr8_0, hm⟩ := bnd hm
  refine Wy (.agg [(.d (.lit (.int .i64 r8_0.Time))), (.d (.lit (.int .i64 r8_0.Source))), (.d (.lit (.int .i64 r8_0.Seq)))]) [] (Ocf [] [] [] 0 (ok_event_Event_ID p1 r8_0 hr8_0) (fun a w => Try.call33 a w) rfl trivial) ?_
  obtain ⟨r9_0, hr9_0, hm⟩ := bnd hm
  refine Wy (.d (.lit (.bool r9_0))) [] (Ocf [] [] [] 0 (ok_event_ID_Less r6_0 r8_0 r9_0 hr9_0) (fun a w => Try.call51 a w) rfl trivial) ?_
  refine Wy (.d (.lit (.bool r9_0))) [] (Omv rfl) ?_
  refine Wdr ?_
  refine Then.normal ?_
  refine AWP.ret ?_
  obtain rfl := Option.some.inj hm
  exact ret_i []

set_option maxRecDepth 20000 in
set_option maxHeartbeats 4000000 in
theorem ok_sorter_Heap_event_Event_less__sorter_ahead (p0_L : (List GEvent)) (p1 : Int) (p2 : Int) (r : Bool) (h : m_sorter_Heap_event_Event_less__sorter_ahead p0_L p1 p2 = some r) : GCall Try.prog 49 [(.agg [(.d (.sl (List.length p0_L) (flatD enc_GEvent p0_L))), (.clo (.func 44) [] [])]), (.d (.lit (.int .i64 p1))), (.d (.lit (.int .i64 p2)))] [] (.d (.lit (.bool r))) [] := by
  refine GCall.of_body (n := 25) (rs := [(.tmp 6)]) Try.func49 rfl rfl rfl ?_
  refine Ato ⟨((.agg [(.d (.sl (List.length p0_L) (flatD enc_GEvent p0_L))), (.clo (.func 44) [] [])]) :: ((.d (.lit (.int .i64 p1))) :: ((.d (.lit (.int .i64 p2))) :: (tu 22 [])))), [], 0⟩ ?_
  have hm := h
  unfold m_sorter_Heap_event_Event_less__sorter_ahead at hm
  refine AWP.seq ?_
  refine AWP.text ?_
  refine Wy (.loc 0 0) [(0, (.box [(.d (.sl (List.length p0_L) (flatD enc_GEvent p0_L))), (.clo (.func 44) [] [])]))] (Obx rfl) ?_
  refine Wy (.d (.lit (.bool false))) [] (Omv rfl) ?_
  refine Walk.nil ?_
  refine Then.normal ?_
  refine Amk 14 1 ⟨(tp 1 ((.d (.lit (.int .i64 p1))) :: ((.d (.lit (.int .i64 p2))) :: ((.loc 0 0) :: (tp 21 []))))), [(.box [(.d (.sl (List.length p0_L) (flatD enc_GEvent p0_L))), (.clo (.func 44) [] [])])], 0⟩ ?_
  refine AWP.seq ?_
  refine Adr ?_
  refine Wy (.loc 0 1) [] (Ofa rfl) ?_
  refine Wy (.clo (.func 44) [] []) [] (Old rfl) ?_
  refine Wy (.d (.lit (.bool true))) [] (op_fn rfl (fn := (.func 44)) (f := []) (c := []) (by kernel_rfl) (by kernel_rfl) (by kernel_rfl) (by decide)) ?_
  refine Wy (.d (.lit (.bool true))) [] (Omv rfl) ?_
  refine Wy (.loc 0 1) [] (Ofa rfl) ?_
  refine Wy (.clo (.func 44) [] []) [] (Old rfl) ?_
  refine Wy (.loc 0 0) [] (Ofa rfl) ?_
  refine Wy (.d (.sl (List.length p0_L) (flatD enc_GEvent p0_L))) [] (Old rfl) ?_
  refine Wy (.d (.lit (.int .i64 p1))) [] (Omv rfl) ?_
  obtain ⟨x16_0, hx16_0, hm⟩ := bnd hm
  obtain ⟨hx16_0i, hx16_0g⟩ := geti_some hx16_0
  refine Wy (.d (.ref (List.drop ((Int.toNat p1) * 5) (flatD enc_GEvent p0_L)))) [] (Oia rfl enc_GEvent_len hx16_0i hx16_0g) ?_
  refine Wy (.agg [(.d (.lit (.int .i64 x16_0.Time))), (.d (.lit (.int .i64 x16_0.Source))), (.d (.lit (.int .i64 x16_0.Seq))), (.d (.lit (.string (toS x16_0.Type_)))), (.d (.sl (List.length x16_0.Vals) (flatD enc_GValue x16_0.Vals)))]) [] (Lf rfl enc_GEvent_len hx16_0g) ?_
  refine Wy (.loc 0 0) [] (Ofa rfl) ?_
  refine Wy (.d (.sl (List.length p0_L) (flatD enc_GEvent p0_L))) [] (Old rfl) ?_
  refine Wy (.d (.lit (.int .i64 p2))) [] (Omv rfl) ?_
  obtain ⟨x21_0, hx21_0, hm⟩ := bnd hm
  obtain ⟨hx21_0i, hx21_0g⟩ := geti_some hx21_0
  refine Wy (.d (.ref (List.drop ((Int.toNat p2) * 5) (flatD enc_GEvent p0_L)))) [] (Oia rfl enc_GEvent_len hx21_0i hx21_0g) ?_
  refine Wy (.agg [(.d (.lit (.int .i64 x21_0.Time))), (.d (.lit (.int .i64 x21_0.Source))), (.d (.lit (.int .i64 x21_0.Seq))), (.d (.lit (.string (toS x21_0.Type_)))), (.d (.sl (List.length x21_0.Vals) (flatD enc_GValue x21_0.Vals)))]) [] (Lf rfl enc_GEvent_len hx21_0g) ?_
  obtain ⟨r23_0, hr23_0, hm⟩ := bnd hm
  refine Wy (.d (.lit (.bool r23_0))) [] (Ocf [] [] [] 0 (ok_sorter_ahead x16_0 x21_0 r23_0 hr23_0) (fun a w => Try.call44 a w) rfl trivial) ?_
  refine Wy (.d (.lit (.bool r23_0))) [] (OpT rfl) ?_
  refine Wy (.d (.lit (.bool r23_0))) [] (Omv rfl) ?_
  refine Wdr ?_
  refine Then.normal ?_
  refine AWP.ret ?_
  obtain rfl := Option.some.inj hm
  exact ret_i []

set_option maxRecDepth 20000 in
set_option maxHeartbeats 4000000 in
theorem ok_sorter_Heap_event_Event_swap__sorter_ahead (p0_L : (List GEvent)) (p1 : Int) (p2 : Int) (r : (List GEvent)) (h : m_sorter_Heap_event_Event_swap__sorter_ahead p0_L p1 p2 = some r) : GCall Try.prog 46 [(.agg [(.own 0), (.clo (.func 44) [] [])]), (.d (.lit (.int .i64 p1))), (.d (.lit (.int .i64 p2)))] [(.arr 50 5 (List.length p0_L) (flatD enc_GEvent p0_L))] (.tup []) [(.arr 50 5 (List.length r) (flatD enc_GEvent r))] := by
  refine GCall.of_body (n := 24) (rs := []) Try.func46 rfl rfl rfl ?_
  refine Ato ⟨((.agg [(.own 0), (.clo (.func 44) [] [])]) :: ((.d (.lit (.int .i64 p1))) :: ((.d (.lit (.int .i64 p2))) :: (tu 21 [])))), [(.arr 50 5 (List.length p0_L) (flatD enc_GEvent p0_L))], 1⟩ ?_
  have hm := h
  unfold m_sorter_Heap_event_Event_swap__sorter_ahead at hm
  refine AWP.seq ?_
  refine AWP.text ?_
  refine Wy (.loc 1 0) [(1, (.box [(.own 0), (.clo (.func 44) [] [])]))] (Obx rfl) ?_
  refine Walk.nil ?_
  refine Then.normal ?_
  refine Amk 14 3 ⟨(tp 1 ((.d (.lit (.int .i64 p1))) :: ((.d (.lit (.int .i64 p2))) :: ((.loc 1 0) :: (tp 20 []))))), [(.arr 50 5 (List.length p0_L) (flatD enc_GEvent p0_L)), (.box [(.own 0), (.clo (.func 44) [] [])])], 1⟩ ?_
  refine Adr ?_
  refine Wy (.loc 1 0) [] (Ofa rfl) ?_
  refine Wy (.own 0) [] (Old rfl) ?_
  refine Wy (.d (.lit (.int .i64 p1))) [] (Omv rfl) ?_
  refine Wy (.loc 1 0) [] (Ofa rfl) ?_
  refine Wy (.own 0) [] (Old rfl) ?_
  refine Wy (.d (.lit (.int .i64 p2))) [] (Omv rfl) ?_
  refine Wy (.loc 1 0) [] (Ofa rfl) ?_
  refine Wy (.own 0) [] (Old rfl) ?_
  refine Wy (.d (.lit (.int .i64 p2))) [] (Omv rfl) ?_
  obtain ⟨x15_0, hx15_0, hm⟩ := bnd hm
  obtain ⟨hx15_0i, hx15_0g⟩ := geti_some hx15_0
  refine Wy (.loc 0 ((Int.toNat p2) * 5)) [] (Oia rfl enc_GEvent_len hx15_0i hx15_0g) ?_
  refine Wy (.agg [(.d (.lit (.int .i64 x15_0.Time))), (.d (.lit (.int .i64 x15_0.Source))), (.d (.lit (.int .i64 x15_0.Seq))), (.d (.lit (.string (toS x15_0.Type_)))), (.d (.sl (List.length x15_0.Vals) (flatD enc_GValue x15_0.Vals)))]) [] (Lr rfl enc_GEvent_len hx15_0g) ?_
  refine Wy (.loc 1 0) [] (Ofa rfl) ?_
  refine Wy (.own 0) [] (Old rfl) ?_
  refine Wy (.d (.lit (.int .i64 p1))) [] (Omv rfl) ?_
  obtain ⟨x20_0, hx20_0, hm⟩ := bnd hm
  obtain ⟨hx20_0i, hx20_0g⟩ := geti_some hx20_0
  refine Wy (.loc 0 ((Int.toNat p1) * 5)) [] (Oia rfl enc_GEvent_len hx20_0i hx20_0g) ?_
  refine Wy (.agg [(.d (.lit (.int .i64 x20_0.Time))), (.d (.lit (.int .i64 x20_0.Source))), (.d (.lit (.int .i64 x20_0.Seq))), (.d (.lit (.string (toS x20_0.Type_)))), (.d (.sl (List.length x20_0.Vals) (flatD enc_GValue x20_0.Vals)))]) [] (Lr rfl enc_GEvent_len hx20_0g) ?_
  obtain ⟨x22_0, hx22_0, hm⟩ := bnd hm
  obtain ⟨hx22_0i, hx22_0g⟩ := geti_some hx22_0
  refine Wy (.loc 0 ((Int.toNat p1) * 5)) [] (Oia rfl enc_GEvent_len hx22_0i hx22_0g) ?_
  refine Wy (.tup []) [(0, (.arr 50 5 (List.length (List.set p0_L (Int.toNat p1) x15_0)) (flatD enc_GEvent (List.set p0_L (Int.toNat p1) x15_0))))] (Osr 0 rfl enc_GEvent_len hx22_0g x15_0) ?_
  obtain ⟨x23_0, hx23_0, hm⟩ := bnd hm
  obtain ⟨hx23_0i, hx23_0g⟩ := geti_some hx23_0
  refine Wy (.loc 0 ((Int.toNat p2) * 5)) [] (Oia rfl enc_GEvent_len hx23_0i hx23_0g) ?_
  refine Wy (.tup []) [(0, (.arr 50 5 (List.length (List.set (List.set p0_L (Int.toNat p1) x15_0) (Int.toNat p2) x20_0)) (flatD enc_GEvent (List.set (List.set p0_L (Int.toNat p1) x15_0) (Int.toNat p2) x20_0))))] (Osr 0 rfl enc_GEvent_len hx23_0g x20_0) ?_
  refine Wdr ?_
  obtain rfl := Option.some.inj hm
  exact ret_n [0]

set_option maxRecDepth 20000 in
set_option maxHeartbeats 4000000 in
theorem ok_sorter_Heap_event_Event_Push__sorter_ahead (p0_L : (List GEvent)) (p1 : GEvent) (r : (List GEvent)) (h : m_sorter_Heap_event_Event_Push__sorter_ahead p0_L p1 = some r) : GCall Try.prog 34 [(.agg [(.d (.sl (List.length p0_L) (flatD enc_GEvent p0_L))), (.clo (.func 44) [] [])]), (.agg [(.d (.lit (.int .i64 p1.Time))), (.d (.lit (.int .i64 p1.Source))), (.d (.lit (.int .i64 p1.Seq))), (.d (.lit (.string (toS p1.Type_)))), (.d (.sl (List.length p1.Vals) (flatD enc_GValue p1.Vals)))])] [] (.agg [(.own 0), (.clo (.func 44) [] [])]) [(.arr 50 5 (List.length r) (flatD enc_GEvent r))] := by
  refine GCall.of_body (n := 39) (rs := [(.cell 4 75)]) Try.func34 rfl rfl rfl ?_
  refine Ato ⟨((.agg [(.d (.sl (List.length p0_L) (flatD enc_GEvent p0_L))), (.clo (.func 44) [] [])]) :: ((.agg [(.d (.lit (.int .i64 p1.Time))), (.d (.lit (.int .i64 p1.Source))), (.d (.lit (.int .i64 p1.Seq))), (.d (.lit (.string (toS p1.Type_)))), (.d (.sl (List.length p1.Vals) (flatD enc_GValue p1.Vals)))]) :: (tu 37 []))), [], 0⟩ ?_
  have hm := h
  unfold m_sorter_Heap_event_Event_Push__sorter_ahead at hm
  refine AWP.seq ?_
  refine AWP.text ?_
  refine Wy (.loc 0 0) [(0, (.box [(.d (.sl (List.length p0_L) (flatD enc_GEvent p0_L))), (.clo (.func 44) [] [])]))] (Obx rfl) ?_
  refine Wy (.loc 1 0) [(1, (.box [(.d (.lit (.int .i64 p1.Time))), (.d (.lit (.int .i64 p1.Source))), (.d (.lit (.int .i64 p1.Seq))), (.d (.lit (.string (toS p1.Type_)))), (.d (.sl (List.length p1.Vals) (flatD enc_GValue p1.Vals)))]))] (Obx rfl) ?_
  refine Wy (.loc 2 0) [(2, (.box [(.d .nil), (.d (.lit .nilFunc))]))] (Oal rfl) ?_
  refine Walk.nil ?_
  refine Then.normal ?_
  refine Amk 28 7 ⟨(tp 2 ((.loc 0 0) :: ((.loc 1 0) :: ((.loc 2 0) :: (tp 34 []))))), [(.box [(.d (.sl (List.length p0_L) (flatD enc_GEvent p0_L))), (.clo (.func 44) [] [])]), (.box [(.d (.lit (.int .i64 p1.Time))), (.d (.lit (.int .i64 p1.Source))), (.d (.lit (.int .i64 p1.Seq))), (.d (.lit (.string (toS p1.Type_)))), (.d (.sl (List.length p1.Vals) (flatD enc_GValue p1.Vals)))]), (.box [(.d .nil), (.d (.lit .nilFunc))])], 0⟩ ?_
  refine AWP.seq ?_
  refine AWP.text ?_
  refine Wy (.agg [(.d (.sl (List.length p0_L) (flatD enc_GEvent p0_L))), (.clo (.func 44) [] [])]) [] (Old rfl) ?_
  obtain ⟨r8_0, hr8_0, hm⟩ := bnd hm
  refine Wy (.agg [(.own 3), (.clo (.func 44) [] [])]) [(3, (.arr 50 5 (List.length r8_0) (flatD enc_GEvent r8_0)))] (Ocf [] [3] [] 0 (ok_sorter_Heap_event_Event_clone__sorter_ahead p0_L r8_0 hr8_0) (fun a w => Try.call45 a w) rfl trivial) ?_
  refine Wy (.loc 4 0) [(4, (.box [(.d .nil), (.d (.lit .nilFunc))]))] (Oal rfl) ?_
  refine Wy (.tup []) [(4, (.box [(.own 3), (.clo (.func 44) [] [])]))] (Ost rfl) ?_
  refine Walk.nil ?_
  refine Then.normal ?_
  refine Amk 56 30 ⟨(tp 3 ((.loc 1 0) :: ((.loc 2 0) :: ((.loc 4 0) :: (tp 33 []))))), [.gone, (.box [(.d (.lit (.int .i64 p1.Time))), (.d (.lit (.int .i64 p1.Source))), (.d (.lit (.int .i64 p1.Seq))), (.d (.lit (.string (toS p1.Type_)))), (.d (.sl (List.length p1.Vals) (flatD enc_GValue p1.Vals)))]), (.box [(.d .nil), (.d (.lit .nilFunc))]), (.arr 50 5 (List.length r8_0) (flatD enc_GEvent r8_0)), (.box [(.own 3), (.clo (.func 44) [] [])])], 0⟩ ?_
  refine AWP.seq ?_
  refine AWP.text ?_
  refine Wy (.loc 4 0) [] (Ofa rfl) ?_
  refine Wy (.own 3) [] (Old rfl) ?_
  refine Wy (.agg [(.d (.lit (.int .i64 p1.Time))), (.d (.lit (.int .i64 p1.Source))), (.d (.lit (.int .i64 p1.Seq))), (.d (.lit (.string (toS p1.Type_)))), (.d (.sl (List.length p1.Vals) (flatD enc_GValue p1.Vals)))]) [] (Old rfl) ?_
  refine Wy (.own 5) [(5, (.arr 50 5 (List.length ([p1] : List GEvent)) (flatD enc_GEvent ([p1] : List GEvent))))] (Obs rfl) ?_
  obtain ⟨a13_1, ha13_1, hm⟩ := bnd hm; obtain ⟨ha13_1e, ha13_1l⟩ := app_some ha13_1
  refine Wy (.own 6) [(3, .gone), (6, (.arr 50 5 (List.length a13_1) (flatD enc_GEvent a13_1)))] (Oap rfl elemOK_24 enc_GEvent_len ha13_1e ha13_1l) ?_
  refine Wy (.loc 4 0) [] (Ofa rfl) ?_
  refine Wy (.tup []) [(4, (.box [(.own 6), (.clo (.func 44) [] [])]))] (Ost rfl) ?_
  refine Walk.nil ?_
  refine Then.normal ?_
  refine Amk 48 84 ⟨(tp 4 ((.loc 2 0) :: ((.loc 4 0) :: (tp 33 [])))), [.gone, .gone, (.box [(.d .nil), (.d (.lit .nilFunc))]), .gone, (.box [(.own 6), (.clo (.func 44) [] [])]), .gone, (.arr 50 5 (List.length a13_1) (flatD enc_GEvent a13_1))], 0⟩ ?_
  refine AWP.seq ?_
  refine AWP.seq ?_
  refine AWP.text ?_
  refine Wy (.loc 4 0) [] (Ofa rfl) ?_
  refine Wy (.own 6) [] (Old rfl) ?_
  refine Wy (.d (.lit (.int .i64 ((List.length a13_1 : Nat) : Int)))) [] (Oln rfl) ?_
  refine Wy (.d (.lit (.int .i64 (IntKind.i64.wrap (((List.length a13_1 : Nat) : Int) - 1))))) [] (Obn rfl (fun _ => hb_sub (k := .i64))) ?_
  refine Wy (.d (.lit (.int .i64 (IntKind.i64.wrap (((List.length a13_1 : Nat) : Int) - 1))))) [] (Omv rfl) ?_
  refine Walk.nil ?_
  refine Then.normal ?_
  refine Amk 112 84 ⟨(tp 4 ((.loc 2 0) :: ((.loc 4 0) :: ((.d (.lit (.int .i64 (IntKind.i64.wrap (((List.length a13_1 : Nat) : Int) - 1))))) :: (tp 32 []))))), [.gone, .gone, (.box [(.d .nil), (.d (.lit .nilFunc))]), .gone, (.box [(.own 6), (.clo (.func 44) [] [])]), .gone, (.arr 50 5 (List.length a13_1) (flatD enc_GEvent a13_1))], 0⟩ ?_
  refine AWP.block ?_
  refine AWP.loopI (α := Nat × (List GEvent) × Int)
    (fun x => match x with | (fu_3, y5_d_0_3, y6_3) => (⟨(tp 4 ((.loc 0 0) :: ((.loc 1 0) :: ((.d (.lit (.int .i64 y6_3))) :: (tp 32 []))))), [(.box [(.d .nil), (.d (.lit .nilFunc))]), (.box [(.own 2), (.clo (.func 44) [] [])]), (.arr 50 5 (List.length y5_d_0_3) (flatD enc_GEvent y5_d_0_3))], 0⟩ : St))
    (fun x => match x with | (fu_3, y5_d_0_3, y6_3) => m_sorter_Heap_event_Event_Push__sorter_ahead_l3  fu_3 y5_d_0_3 y6_3 = some r)
    (fun x => match x with | (fu_3, y5_d_0_3, y6_3) => fu_3) (1152921504606846976, a13_1, (IntKind.i64.wrap (((List.length a13_1 : Nat) : Int) - 1)))
    (Weak.toK 112 0 0 [2, 4, 6]) hm ?_
  rintro ⟨fu_3, y5_d_0_3, y6_3⟩ n_3 hm ih_3
  try dsimp only at hm ih_3 ⊢
  cases fu_3 with
  | zero => exact absurd hm (by unfold m_sorter_Heap_event_Event_Push__sorter_ahead_l3; simp)
  | succ fu_3 =>
    unfold m_sorter_Heap_event_Event_Push__sorter_ahead_l3 at hm
    refine AWP.seq ?_
    refine AWP.seq ?_
    refine AWP.text ?_
    refine Wy (.d (.lit (.int .i64 y6_3))) [] (Omv rfl) ?_
    refine Wy (.d (.lit (.bool (decide ((0 : Int) < y6_3))))) [] (Obn rfl (fun _ => hb_gtr (k := .i64))) ?_
    rcases tf_ (decide ((0 : Int) < y6_3)) with hq21_4 | hq21_4
    · replace hm := cT hq21_4 hm
      refine Wy (.d (.lit (.bool true))) [] (Ocs (lit_tf (b := decide ((0 : Int) < y6_3)) hq21_4) (Omv rfl)) ?_
      refine Wy (.agg [(.own 2), (.clo (.func 44) [] [])]) [] (Old rfl) ?_
      refine Wy (.d (.lit (.int .i64 y6_3))) [] (Omv rfl) ?_
      refine Wy (.d (.lit (.int .i64 y6_3))) [] (Omv rfl) ?_
      refine Wy (.d (.lit (.int .i64 (IntKind.i64.wrap (y6_3 - 1))))) [] (Obn rfl (fun _ => hb_sub (k := .i64))) ?_
      refine Wy (.d (.lit (.int .i64 (IntKind.i64.wrap (Int.tdiv (IntKind.i64.wrap (y6_3 - 1)) 2))))) [] (Ocs (by kernel_rfl) (op_bin rfl (a1 := .int .i64 (IntKind.i64.wrap (y6_3 - 1))) (a2 := .int .i64 2) (by kernel_rfl) (by kernel_rfl) (fun _ => hb_quo (by decide)))) ?_
      obtain ⟨r27_4, hr27_4, hm⟩ := bnd hm
      refine Wy (.d (.lit (.bool r27_4))) [] (Ocp [] [] [2] 0 (ok_sorter_Heap_event_Event_less__sorter_ahead y5_d_0_3 y6_3 (IntKind.i64.wrap (Int.tdiv (IntKind.i64.wrap (y6_3 - 1)) 2)) r27_4 hr27_4) (plain_triv (by simp [A.Plain, A.Plains, D.Plain, byteD])) (fun a w => Try.call49 a w) rfl trivial) ?_
      refine Wy (.d (.lit (.bool r27_4))) [] (OpT rfl) ?_
      refine Walk.nil ?_
      refine Then.normal ?_
      refine Amk 268435568 7 ⟨(tp 4 ((.loc 0 0) :: ((.loc 1 0) :: ((.d (.lit (.int .i64 y6_3))) :: (tp 21 ((.d (.lit (.bool r27_4))) :: (tp 10 []))))))), [(.box [(.d .nil), (.d (.lit .nilFunc))]), (.box [(.own 2), (.clo (.func 44) [] [])]), (.arr 50 5 (List.length y5_d_0_3) (flatD enc_GEvent y5_d_0_3))], 0⟩ ?_
      rcases tf_ r27_4 with hc28_7 | hc28_7
      · replace hm := cT hc28_7 hm
        refine AWP.if_ true (Eq.trans (by kernel_rfl) (lit_tf (b := r27_4) hc28_7)) ?_
        refine AWP.skip ?_
        refine Then.normal ?_
        refine Amk 112 7 ⟨(tp 4 ((.loc 0 0) :: ((.loc 1 0) :: ((.d (.lit (.int .i64 y6_3))) :: (tp 32 []))))), [(.box [(.d .nil), (.d (.lit .nilFunc))]), (.box [(.own 2), (.clo (.func 44) [] [])]), (.arr 50 5 (List.length y5_d_0_3) (flatD enc_GEvent y5_d_0_3))], 0⟩ ?_
        refine AWP.seq ?_
        refine AWP.block ?_
        refine AWP.text ?_
        refine Wy (.agg [(.own 2), (.clo (.func 44) [] [])]) [] (Old rfl) ?_
        refine Wy (.d (.lit (.int .i64 y6_3))) [] (Omv rfl) ?_
        refine Wy (.d (.lit (.int .i64 y6_3))) [] (Omv rfl) ?_
        refine Wy (.d (.lit (.int .i64 (IntKind.i64.wrap (y6_3 - 1))))) [] (Obn rfl (fun _ => hb_sub (k := .i64))) ?_
        refine Wy (.d (.lit (.int .i64 (IntKind.i64.wrap (Int.tdiv (IntKind.i64.wrap (y6_3 - 1)) 2))))) [] (Ocs (by kernel_rfl) (op_bin rfl (a1 := .int .i64 (IntKind.i64.wrap (y6_3 - 1))) (a2 := .int .i64 2) (by kernel_rfl) (by kernel_rfl) (fun _ => hb_quo (by decide)))) ?_
        obtain ⟨r37_5, hr37_5, hm⟩ := bnd hm
        refine Wy (.tup []) [(2, (.arr 50 5 (List.length r37_5) (flatD enc_GEvent r37_5)))] (Ocf [2] [] [] 0 (ok_sorter_Heap_event_Event_swap__sorter_ahead y5_d_0_3 y6_3 (IntKind.i64.wrap (Int.tdiv (IntKind.i64.wrap (y6_3 - 1)) 2)) r37_5 hr37_5) (fun a w => Try.call46 a w) rfl ⟨rfl, trivial⟩) ?_
        refine Walk.nil ?_
        refine InBlock.normal ?_
        refine Then.normal ?_
        refine Amk 112 7 ⟨(tp 4 ((.loc 0 0) :: ((.loc 1 0) :: ((.d (.lit (.int .i64 y6_3))) :: (tp 32 []))))), [(.box [(.d .nil), (.d (.lit .nilFunc))]), (.box [(.own 2), (.clo (.func 44) [] [])]), (.arr 50 5 (List.length r37_5) (flatD enc_GEvent r37_5))], 0⟩ ?_
        refine AWP.text ?_
        refine Wy (.d (.lit (.int .i64 y6_3))) [] (Omv rfl) ?_
        refine Wy (.d (.lit (.int .i64 (IntKind.i64.wrap (y6_3 - 1))))) [] (Obn rfl (fun _ => hb_sub (k := .i64))) ?_
        refine Wy (.d (.lit (.int .i64 (IntKind.i64.wrap (Int.tdiv (IntKind.i64.wrap (y6_3 - 1)) 2))))) [] (Ocs (by kernel_rfl) (op_bin rfl (a1 := .int .i64 (IntKind.i64.wrap (y6_3 - 1))) (a2 := .int .i64 2) (by kernel_rfl) (by kernel_rfl) (fun _ => hb_quo (by decide)))) ?_
        refine Wy (.d (.lit (.int .i64 (IntKind.i64.wrap (Int.tdiv (IntKind.i64.wrap (y6_3 - 1)) 2))))) [] (Omv rfl) ?_
        refine Walk.nil ?_
        refine RoundK.normal ?_
        exact Rounds.weak (Weak.toK 112 0 0 [0, 1, 2]) (ih_3 (fu_3, r37_5, (IntKind.i64.wrap (Int.tdiv (IntKind.i64.wrap (y6_3 - 1)) 2))) hm (Nat.lt_succ_self _))
      · replace hm := cF hc28_7 hm
        refine AWP.if_ false (Eq.trans (by kernel_rfl) (lit_tf (b := r27_4) hc28_7)) ?_
        refine AWP.exit ?_
        refine Then.exit ?_
        refine RoundK.exit ?_
        refine InBlock.same ?_
        refine Then.normal ?_
        refine Amk 48 7 ⟨(tp 4 ((.loc 0 0) :: ((.loc 1 0) :: (tp 33 [])))), [(.box [(.d .nil), (.d (.lit .nilFunc))]), (.box [(.own 2), (.clo (.func 44) [] [])]), (.arr 50 5 (List.length y5_d_0_3) (flatD enc_GEvent y5_d_0_3))], 0⟩ ?_
        refine AWP.seq ?_
        refine AWP.text ?_
        refine Wy (.agg [(.own 2), (.clo (.func 44) [] [])]) [] (Old rfl) ?_
        refine Wy (.tup []) [(0, (.box [(.own 2), (.clo (.func 44) [] [])]))] (Ost rfl) ?_
        refine Walk.nil ?_
        refine Then.normal ?_
        refine AWP.ret ?_
        obtain rfl := Option.some.inj hm
        exact ret_i [2]
    · replace hm := cF hq21_4 hm
      refine Wy (.d (.lit (.bool false))) [] (Ocs (lit_tf (b := decide ((0 : Int) < y6_3)) hq21_4) (Omv rfl)) ?_
      refine Wn ?_
      refine Wn ?_
      refine Wn ?_
      refine Wn ?_
      refine Wn ?_
      refine Wn ?_
      refine Wy (.d (.lit (.bool false))) [] (OpF rfl) ?_
      refine Walk.nil ?_
      refine Then.normal ?_
      refine Amk 268435568 7 ⟨(tp 4 ((.loc 0 0) :: ((.loc 1 0) :: ((.d (.lit (.int .i64 y6_3))) :: (tp 21 ((.d (.lit (.bool false))) :: (tp 10 []))))))), [(.box [(.d .nil), (.d (.lit .nilFunc))]), (.box [(.own 2), (.clo (.func 44) [] [])]), (.arr 50 5 (List.length y5_d_0_3) (flatD enc_GEvent y5_d_0_3))], 0⟩ ?_
      refine AWP.if_ false (by kernel_rfl) ?_
      refine AWP.exit ?_
      refine Then.exit ?_
      refine RoundK.exit ?_
      refine InBlock.same ?_
      refine Then.normal ?_
      refine Amk 48 7 ⟨(tp 4 ((.loc 0 0) :: ((.loc 1 0) :: (tp 33 [])))), [(.box [(.d .nil), (.d (.lit .nilFunc))]), (.box [(.own 2), (.clo (.func 44) [] [])]), (.arr 50 5 (List.length y5_d_0_3) (flatD enc_GEvent y5_d_0_3))], 0⟩ ?_
      refine AWP.seq ?_
      refine AWP.text ?_
      refine Wy (.agg [(.own 2), (.clo (.func 44) [] [])]) [] (Old rfl) ?_
      refine Wy (.tup []) [(0, (.box [(.own 2), (.clo (.func 44) [] [])]))] (Ost rfl) ?_
      refine Walk.nil ?_
      refine Then.normal ?_
      refine AWP.ret ?_
      obtain rfl := Option.some.inj hm
      exact ret_i [2]

set_option maxRecDepth 20000 in
set_option maxHeartbeats 4000000 in
theorem ok_sorter_Sorter_Put (p0 : GSorter) (p1 : GEvent) (r : (GSorter × Int)) (h : m_sorter_Sorter_Put p0 p1 = some r) : GCall Try.prog 15 [(.agg [(.d (.lit (.int .i64 p0.Cap))), (.d (.sl (List.length p0.L) (flatD enc_GEvent p0.L)))]), (.agg [(.d (.lit (.int .i64 p1.Time))), (.d (.lit (.int .i64 p1.Source))), (.d (.lit (.int .i64 p1.Seq))), (.d (.lit (.string (toS p1.Type_)))), (.d (.sl (List.length p1.Vals) (flatD enc_GValue p1.Vals)))])] [] (.tup [(.agg [(.d (.lit (.int .i64 r.1.Cap))), (.d (.sl (List.length r.1.L) (flatD enc_GEvent r.1.L)))]), (.d (.lit (.int .i64 r.2)))]) [] := by
  refine GCall.of_body (n := 30) (rs := [(.cell 4 26), (.tmp 5)]) Try.func15 rfl rfl rfl ?_
  refine Ato ⟨((.agg [(.d (.lit (.int .i64 p0.Cap))), (.d (.sl (List.length p0.L) (flatD enc_GEvent p0.L)))]) :: ((.agg [(.d (.lit (.int .i64 p1.Time))), (.d (.lit (.int .i64 p1.Source))), (.d (.lit (.int .i64 p1.Seq))), (.d (.lit (.string (toS p1.Type_)))), (.d (.sl (List.length p1.Vals) (flatD enc_GValue p1.Vals)))]) :: (tu 28 []))), [], 0⟩ ?_
  have hm := h
  unfold m_sorter_Sorter_Put at hm
  refine AWP.seq ?_
  refine AWP.text ?_
  refine Wy (.loc 0 0) [(0, (.box [(.d (.lit (.int .i64 p0.Cap))), (.d (.sl (List.length p0.L) (flatD enc_GEvent p0.L)))]))] (Obx rfl) ?_
  refine Wy (.loc 1 0) [(1, (.box [(.d (.lit (.int .i64 p1.Time))), (.d (.lit (.int .i64 p1.Source))), (.d (.lit (.int .i64 p1.Seq))), (.d (.lit (.string (toS p1.Type_)))), (.d (.sl (List.length p1.Vals) (flatD enc_GValue p1.Vals)))]))] (Obx rfl) ?_
  refine Wy (.loc 2 0) [(2, (.box [(.d (.lit (.int .i64 0))), (.d .nil)]))] (Oal rfl) ?_
  refine Wy (.d (.lit (.int .i64 0))) [] (Omv rfl) ?_
  refine Walk.nil ?_
  refine Then.normal ?_
  refine Amk 28 7 ⟨(tp 2 ((.loc 0 0) :: ((.loc 1 0) :: ((.loc 2 0) :: (tp 25 []))))), [(.box [(.d (.lit (.int .i64 p0.Cap))), (.d (.sl (List.length p0.L) (flatD enc_GEvent p0.L)))]), (.box [(.d (.lit (.int .i64 p1.Time))), (.d (.lit (.int .i64 p1.Source))), (.d (.lit (.int .i64 p1.Seq))), (.d (.lit (.string (toS p1.Type_)))), (.d (.sl (List.length p1.Vals) (flatD enc_GValue p1.Vals)))]), (.box [(.d (.lit (.int .i64 0))), (.d .nil)])], 0⟩ ?_
  refine AWP.seq ?_
  refine AWP.text ?_
  refine Wy (.loc 0 1) [] (Ofa rfl) ?_
  refine Wy (.d (.sl (List.length p0.L) (flatD enc_GEvent p0.L))) [] (Old rfl) ?_
  refine Wy (.clo (.func 32) [] [(.loc 1 0)]) [] (Ocs (by kernel_rfl) (op_mkfn rfl)) ?_
  obtain ⟨r10_0, hr10_0, hm⟩ := bnd hm
  refine Wy (.d (.lit (.bool r10_0))) [] (Ocp [] [] [1] 0 (ok_slices_ContainsFunc_Event__sorter_Sorter_Put_1 p0.L p1 r10_0 hr10_0) (plain_triv (by simp [A.Plain, A.Plains, D.Plain, byteD])) (fun a w => Try.call31 a w) rfl trivial) ?_
  refine Wy (.d (.lit (.bool r10_0))) [] (Omv rfl) ?_
  refine Walk.nil ?_
  refine Then.normal ?_
  refine Amk 92 7 ⟨(tp 2 ((.loc 0 0) :: ((.loc 1 0) :: ((.loc 2 0) :: (tp 1 ((.d (.lit (.bool r10_0))) :: (tp 23 []))))))), [(.box [(.d (.lit (.int .i64 p0.Cap))), (.d (.sl (List.length p0.L) (flatD enc_GEvent p0.L)))]), (.box [(.d (.lit (.int .i64 p1.Time))), (.d (.lit (.int .i64 p1.Source))), (.d (.lit (.int .i64 p1.Seq))), (.d (.lit (.string (toS p1.Type_)))), (.d (.sl (List.length p1.Vals) (flatD enc_GValue p1.Vals)))]), (.box [(.d (.lit (.int .i64 0))), (.d .nil)])], 0⟩ ?_
  refine AWP.seq ?_
  refine AWP.block ?_
  refine AWP.seq ?_
  refine AWP.text ?_
  refine Wy (.d (.lit (.bool r10_0))) [] (Omv rfl) ?_
  refine Wy (.d (.lit (.bool r10_0))) [] (Omv rfl) ?_
  refine Walk.nil ?_
  refine Then.normal ?_
  refine Amk 2076 7 ⟨(tp 2 ((.loc 0 0) :: ((.loc 1 0) :: ((.loc 2 0) :: (tp 6 ((.d (.lit (.bool r10_0))) :: (tp 18 []))))))), [(.box [(.d (.lit (.int .i64 p0.Cap))), (.d (.sl (List.length p0.L) (flatD enc_GEvent p0.L)))]), (.box [(.d (.lit (.int .i64 p1.Time))), (.d (.lit (.int .i64 p1.Source))), (.d (.lit (.int .i64 p1.Seq))), (.d (.lit (.string (toS p1.Type_)))), (.d (.sl (List.length p1.Vals) (flatD enc_GValue p1.Vals)))]), (.box [(.d (.lit (.int .i64 0))), (.d .nil)])], 0⟩ ?_
  rcases tf_ r10_0 with hc11_3 | hc11_3
  · replace hm := cT hc11_3 hm
    refine AWP.if_ true (Eq.trans (by kernel_rfl) (lit_tf (b := r10_0) hc11_3)) ?_
    refine AWP.seq ?_
    refine AWP.text ?_
    refine Wy (.agg [(.d (.lit (.int .i64 p0.Cap))), (.d (.sl (List.length p0.L) (flatD enc_GEvent p0.L)))]) [] (Old rfl) ?_
    refine Wy (.tup []) [(2, (.box [(.d (.lit (.int .i64 p0.Cap))), (.d (.sl (List.length p0.L) (flatD enc_GEvent p0.L)))]))] (Ost rfl) ?_
    refine Wy (.d (.lit (.int .i64 12))) [] (Omv rfl) ?_
    refine Walk.nil ?_
    refine Then.normal ?_
    refine AWP.ret ?_
    refine InBlock.ret ?_
    refine Then.ret ?_
    obtain rfl := Option.some.inj hm
    exact ret_i []
  · replace hm := cF hc11_3 hm
    refine AWP.if_ false (Eq.trans (by kernel_rfl) (lit_tf (b := r10_0) hc11_3)) ?_
    refine AWP.seq ?_
    refine AWP.text ?_
    refine Wy (.loc 0 1) [] (Ofa rfl) ?_
    refine Wy (.d (.sl (List.length p0.L) (flatD enc_GEvent p0.L))) [] (Old rfl) ?_
    refine Wy (.d (.lit (.int .i64 ((List.length p0.L : Nat) : Int)))) [] (Oln rfl) ?_
    refine Wy (.loc 0 0) [] (Ofa rfl) ?_
    refine Wy (.d (.lit (.int .i64 p0.Cap))) [] (Old rfl) ?_
    refine Wy (.d (.lit (.bool (decide (p0.Cap ≤ ((List.length p0.L : Nat) : Int)))))) [] (Obn rfl (fun _ => hb_geq (k := .i64))) ?_
    refine Wy (.d (.lit (.bool (decide (p0.Cap ≤ ((List.length p0.L : Nat) : Int)))))) [] (Omv rfl) ?_
    refine Walk.nil ?_
    refine Then.normal ?_
    refine Amk 16412 7 ⟨(tp 2 ((.loc 0 0) :: ((.loc 1 0) :: ((.loc 2 0) :: (tp 9 ((.d (.lit (.bool (decide (p0.Cap ≤ ((List.length p0.L : Nat) : Int)))))) :: (tp 15 []))))))), [(.box [(.d (.lit (.int .i64 p0.Cap))), (.d (.sl (List.length p0.L) (flatD enc_GEvent p0.L)))]), (.box [(.d (.lit (.int .i64 p1.Time))), (.d (.lit (.int .i64 p1.Source))), (.d (.lit (.int .i64 p1.Seq))), (.d (.lit (.string (toS p1.Type_)))), (.d (.sl (List.length p1.Vals) (flatD enc_GValue p1.Vals)))]), (.box [(.d (.lit (.int .i64 0))), (.d .nil)])], 0⟩ ?_
    rcases tf_ (decide (p0.Cap ≤ ((List.length p0.L : Nat) : Int))) with hc14_4 | hc14_4
    · replace hm := cT hc14_4 hm
      refine AWP.if_ true (Eq.trans (by kernel_rfl) (lit_tf (b := decide (p0.Cap ≤ ((List.length p0.L : Nat) : Int))) hc14_4)) ?_
      refine AWP.seq ?_
      refine AWP.text ?_
      refine Wy (.agg [(.d (.lit (.int .i64 p0.Cap))), (.d (.sl (List.length p0.L) (flatD enc_GEvent p0.L)))]) [] (Old rfl) ?_
      refine Wy (.tup []) [(2, (.box [(.d (.lit (.int .i64 p0.Cap))), (.d (.sl (List.length p0.L) (flatD enc_GEvent p0.L)))]))] (Ost rfl) ?_
      refine Wy (.d (.lit (.int .i64 7))) [] (Omv rfl) ?_
      refine Walk.nil ?_
      refine Then.normal ?_
      refine AWP.ret ?_
      refine InBlock.ret ?_
      refine Then.ret ?_
      obtain rfl := Option.some.inj hm
      exact ret_i []
    · replace hm := cF hc14_4 hm
      refine AWP.if_ false (Eq.trans (by kernel_rfl) (lit_tf (b := decide (p0.Cap ≤ ((List.length p0.L : Nat) : Int))) hc14_4)) ?_
      refine AWP.skip ?_
      refine InBlock.normal ?_
      refine Then.normal ?_
      refine Amk 28 7 ⟨(tp 2 ((.loc 0 0) :: ((.loc 1 0) :: ((.loc 2 0) :: (tp 25 []))))), [(.box [(.d (.lit (.int .i64 p0.Cap))), (.d (.sl (List.length p0.L) (flatD enc_GEvent p0.L)))]), (.box [(.d (.lit (.int .i64 p1.Time))), (.d (.lit (.int .i64 p1.Source))), (.d (.lit (.int .i64 p1.Seq))), (.d (.lit (.string (toS p1.Type_)))), (.d (.sl (List.length p1.Vals) (flatD enc_GValue p1.Vals)))]), (.box [(.d (.lit (.int .i64 0))), (.d .nil)])], 0⟩ ?_
      refine AWP.seq ?_
      refine Adr ?_
      refine Wy (.loc 0 0) [] (Ofa rfl) ?_
      refine Wy (.d (.lit (.int .i64 p0.Cap))) [] (Old rfl) ?_
      refine Wy (.agg [(.d (.lit (.int .i64 p0.Cap))), (.d (.sl (List.length p0.L) (flatD enc_GEvent p0.L)))]) [] (Old rfl) ?_
      obtain ⟨r25_2, hr25_2, hm⟩ := bnd hm
      refine Wy (.agg [(.d (.sl (List.length r25_2) (flatD enc_GEvent r25_2))), (.clo (.func 44) [] [])]) [] (Ocf [] [] [] 0 (ok_sorter_Sorter_heap p0 r25_2 hr25_2) (fun a w => Try.call27 a w) rfl trivial) ?_
      refine Wy (.agg [(.d (.lit (.int .i64 p1.Time))), (.d (.lit (.int .i64 p1.Source))), (.d (.lit (.int .i64 p1.Seq))), (.d (.lit (.string (toS p1.Type_)))), (.d (.sl (List.length p1.Vals) (flatD enc_GValue p1.Vals)))]) [] (Old rfl) ?_
      obtain ⟨r27_2, hr27_2, hm⟩ := bnd hm
      refine Wy (.agg [(.own 3), (.clo (.func 44) [] [])]) [(3, (.arr 50 5 (List.length r27_2) (flatD enc_GEvent r27_2)))] (Ocf [] [3] [] 0 (ok_sorter_Heap_event_Event_Push__sorter_ahead r25_2 p1 r27_2 hr27_2) (fun a w => Try.call34 a w) rfl trivial) ?_
      refine Wy (.own 3) [] (Ofd rfl) ?_
      refine Wy (.agg [(.d (.lit (.int .i64 p0.Cap))), (.own 3)]) [] (Obd rfl) ?_
      refine Wy (.tup []) [(2, (.box [(.d (.lit (.int .i64 p0.Cap))), (.own 3)]))] (Ost rfl) ?_
      refine Wy (.d (.lit (.int .i64 0))) [] (Omv rfl) ?_
      refine Wdr ?_
      refine Then.normal ?_
      refine Afz [3] ⟨(tp 2 ((.loc 0 0) :: ((.loc 1 0) :: ((.loc 2 0) :: ((.d (.lit (.int .i64 0))) :: (tp 16 ((.loc 0 0) :: ((.d (.lit (.int .i64 p0.Cap))) :: ((.agg [(.d (.lit (.int .i64 p0.Cap))), (.d (.sl (List.length p0.L) (flatD enc_GEvent p0.L)))]) :: ((.agg [(.d (.sl (List.length r25_2) (flatD enc_GEvent r25_2))), (.clo (.func 44) [] [])]) :: ((.agg [(.d (.lit (.int .i64 p1.Time))), (.d (.lit (.int .i64 p1.Source))), (.d (.lit (.int .i64 p1.Seq))), (.d (.lit (.string (toS p1.Type_)))), (.d (.sl (List.length p1.Vals) (flatD enc_GValue p1.Vals)))]) :: ((.agg [(.d (.sl (List.length r27_2) (flatD enc_GEvent r27_2))), (.clo (.func 44) [] [])]) :: ((.d (.sl (List.length r27_2) (flatD enc_GEvent r27_2))) :: ((.agg [(.d (.lit (.int .i64 p0.Cap))), (.d (.sl (List.length r27_2) (flatD enc_GEvent r27_2)))]) :: [])))))))))))))), [(.box [(.d (.lit (.int .i64 p0.Cap))), (.d (.sl (List.length p0.L) (flatD enc_GEvent p0.L)))]), (.box [(.d (.lit (.int .i64 p1.Time))), (.d (.lit (.int .i64 p1.Source))), (.d (.lit (.int .i64 p1.Seq))), (.d (.lit (.string (toS p1.Type_)))), (.d (.sl (List.length p1.Vals) (flatD enc_GValue p1.Vals)))]), (.box [(.d (.lit (.int .i64 p0.Cap))), (.d (.sl (List.length r27_2) (flatD enc_GEvent r27_2)))]), (.fro 50 5 (List.length r27_2) (flatD enc_GEvent r27_2))], 0⟩ ?_
      refine AWP.ret ?_
      obtain rfl := Option.some.inj hm
      exact ret_i []

set_option maxRecDepth 20000 in
set_option maxHeartbeats 4000000 in
theorem ok_sorter_Heap_event_Event_least__sorter_ahead (p0_L : (List GEvent)) (p1 : Int) (r : Int) (h : m_sorter_Heap_event_Event_least__sorter_ahead p0_L p1 = some r) : GCall Try.prog 47 [(.agg [(.d (.sl (List.length p0_L) (flatD enc_GEvent p0_L))), (.clo (.func 44) [] [])]), (.d (.lit (.int .i64 p1)))] [] (.d (.lit (.int .i64 r))) [] := by
  refine GCall.of_body (n := 31) (rs := [(.tmp 4)]) Try.func47 rfl rfl rfl ?_
  refine Ato ⟨((.agg [(.d (.sl (List.length p0_L) (flatD enc_GEvent p0_L))), (.clo (.func 44) [] [])]) :: ((.d (.lit (.int .i64 p1))) :: (tu 29 []))), [], 0⟩ ?_
  have hm := h
  unfold m_sorter_Heap_event_Event_least__sorter_ahead at hm
  refine AWP.seq ?_
  refine AWP.text ?_
  refine Wy (.loc 0 0) [(0, (.box [(.d (.sl (List.length p0_L) (flatD enc_GEvent p0_L))), (.clo (.func 44) [] [])]))] (Obx rfl) ?_
  refine Wy (.d (.lit (.int .i64 0))) [] (Omv rfl) ?_
  refine Walk.nil ?_
  refine Then.normal ?_
  refine Amk 6 1 ⟨(tp 1 ((.d (.lit (.int .i64 p1))) :: ((.loc 0 0) :: (tp 28 [])))), [(.box [(.d (.sl (List.length p0_L) (flatD enc_GEvent p0_L))), (.clo (.func 44) [] [])])], 0⟩ ?_
  refine AWP.seq ?_
  refine AWP.text ?_
  refine Wy (.d (.lit (.int .i64 p1))) [] (Omv rfl) ?_
  refine Wy (.d (.lit (.int .i64 p1))) [] (Omv rfl) ?_
  refine Walk.nil ?_
  refine Then.normal ?_
  refine Amk 38 1 ⟨(tp 1 ((.d (.lit (.int .i64 p1))) :: ((.loc 0 0) :: (tp 2 ((.d (.lit (.int .i64 p1))) :: (tp 25 [])))))), [(.box [(.d (.sl (List.length p0_L) (flatD enc_GEvent p0_L))), (.clo (.func 44) [] [])])], 0⟩ ?_
  refine AWP.seq ?_
  refine AWP.seq ?_
  refine AWP.text ?_
  refine Wy (.d (.lit (.int .i64 p1))) [] (Omv rfl) ?_
  refine Wy (.d (.lit (.int .i64 (IntKind.i64.wrap (2 * p1))))) [] (Obn rfl (fun _ => hb_mul (k := .i64))) ?_
  refine Wy (.d (.lit (.int .i64 (IntKind.i64.wrap ((IntKind.i64.wrap (2 * p1)) + 1))))) [] (Obn rfl (fun _ => hb_add (k := .i64))) ?_
  refine Wy (.d (.lit (.int .i64 (IntKind.i64.wrap ((IntKind.i64.wrap (2 * p1)) + 1))))) [] (Omv rfl) ?_
  refine Walk.nil ?_
  refine Then.normal ?_
  refine Amk 102 1 ⟨(tp 1 ((.d (.lit (.int .i64 p1))) :: ((.loc 0 0) :: (tp 2 ((.d (.lit (.int .i64 p1))) :: ((.d (.lit (.int .i64 (IntKind.i64.wrap ((IntKind.i64.wrap (2 * p1)) + 1))))) :: (tp 24 []))))))), [(.box [(.d (.sl (List.length p0_L) (flatD enc_GEvent p0_L))), (.clo (.func 44) [] [])])], 0⟩ ?_
  refine AWP.block ?_
  refine AWP.loopI (α := Nat × Int × Int)
    (fun x => match x with | (fu_0, y5_0, y6_0) => (⟨(tp 1 ((.d (.lit (.int .i64 p1))) :: ((.loc 0 0) :: (tp 2 ((.d (.lit (.int .i64 y5_0))) :: ((.d (.lit (.int .i64 y6_0))) :: (tp 24 []))))))), [(.box [(.d (.sl (List.length p0_L) (flatD enc_GEvent p0_L))), (.clo (.func 44) [] [])])], 0⟩ : St))
    (fun x => match x with | (fu_0, y5_0, y6_0) => m_sorter_Heap_event_Event_least__sorter_ahead_l0 p0_L p1 fu_0 y5_0 y6_0 = some r)
    (fun x => match x with | (fu_0, y5_0, y6_0) => fu_0) (1152921504606846976, p1, (IntKind.i64.wrap ((IntKind.i64.wrap (2 * p1)) + 1)))
    (Weak.toK 102 0 0 [0]) hm ?_
  rintro ⟨fu_0, y5_0, y6_0⟩ n_0 hm ih_0
  try dsimp only at hm ih_0 ⊢
  cases fu_0 with
  | zero => exact absurd hm (by unfold m_sorter_Heap_event_Event_least__sorter_ahead_l0; simp)
  | succ fu_0 =>
    unfold m_sorter_Heap_event_Event_least__sorter_ahead_l0 at hm
    refine AWP.seq ?_
    refine AWP.seq ?_
    refine AWP.text ?_
    refine Wy (.d (.lit (.int .i64 y6_0))) [] (Omv rfl) ?_
    refine Wy (.d (.lit (.int .i64 p1))) [] (Omv rfl) ?_
    refine Wy (.d (.lit (.int .i64 (IntKind.i64.wrap (2 * p1))))) [] (Obn rfl (fun _ => hb_mul (k := .i64))) ?_
    refine Wy (.d (.lit (.int .i64 (IntKind.i64.wrap ((IntKind.i64.wrap (2 * p1)) + 2))))) [] (Obn rfl (fun _ => hb_add (k := .i64))) ?_
    refine Wy (.d (.lit (.bool (decide (y6_0 ≤ (IntKind.i64.wrap ((IntKind.i64.wrap (2 * p1)) + 2))))))) [] (Obn rfl (fun _ => hb_leq (k := .i64))) ?_
    rcases tf_ (decide (y6_0 ≤ (IntKind.i64.wrap ((IntKind.i64.wrap (2 * p1)) + 2)))) with hq16_1 | hq16_1
    · replace hm := cT hq16_1 hm
      refine Wy (.d (.lit (.bool true))) [] (Ocs (lit_tf (b := decide (y6_0 ≤ (IntKind.i64.wrap ((IntKind.i64.wrap (2 * p1)) + 2)))) hq16_1) (Omv rfl)) ?_
      refine Wy (.d (.lit (.int .i64 y6_0))) [] (Omv rfl) ?_
      refine Wy (.loc 0 0) [] (Ofa rfl) ?_
      refine Wy (.d (.sl (List.length p0_L) (flatD enc_GEvent p0_L))) [] (Old rfl) ?_
      refine Wy (.d (.lit (.int .i64 ((List.length p0_L : Nat) : Int)))) [] (Oln rfl) ?_
      refine Wy (.d (.lit (.bool (decide (y6_0 < ((List.length p0_L : Nat) : Int)))))) [] (Obn rfl (fun _ => hb_lss (k := .i64))) ?_
      refine Wy (.d (.lit (.bool (decide (y6_0 < ((List.length p0_L : Nat) : Int)))))) [] (OpT rfl) ?_
      refine Walk.nil ?_
      refine Then.normal ?_
      refine Amk 4194406 1 ⟨(tp 1 ((.d (.lit (.int .i64 p1))) :: ((.loc 0 0) :: (tp 2 ((.d (.lit (.int .i64 y5_0))) :: ((.d (.lit (.int .i64 y6_0))) :: (tp 15 ((.d (.lit (.bool (decide (y6_0 < ((List.length p0_L : Nat) : Int)))))) :: (tp 8 []))))))))), [(.box [(.d (.sl (List.length p0_L) (flatD enc_GEvent p0_L))), (.clo (.func 44) [] [])])], 0⟩ ?_
      rcases tf_ (decide (y6_0 < ((List.length p0_L : Nat) : Int))) with hc22_3 | hc22_3
      · replace hm := cT hc22_3 hm
        refine AWP.if_ true (Eq.trans (by kernel_rfl) (lit_tf (b := decide (y6_0 < ((List.length p0_L : Nat) : Int))) hc22_3)) ?_
        refine AWP.skip ?_
        refine Then.normal ?_
        refine Amk 102 1 ⟨(tp 1 ((.d (.lit (.int .i64 p1))) :: ((.loc 0 0) :: (tp 2 ((.d (.lit (.int .i64 y5_0))) :: ((.d (.lit (.int .i64 y6_0))) :: (tp 24 []))))))), [(.box [(.d (.sl (List.length p0_L) (flatD enc_GEvent p0_L))), (.clo (.func 44) [] [])])], 0⟩ ?_
        refine AWP.seq ?_
        refine AWP.block ?_
        refine AWP.seq ?_
        refine AWP.text ?_
        refine Wy (.agg [(.d (.sl (List.length p0_L) (flatD enc_GEvent p0_L))), (.clo (.func 44) [] [])]) [] (Old rfl) ?_
        refine Wy (.d (.lit (.int .i64 y6_0))) [] (Omv rfl) ?_
        refine Wy (.d (.lit (.int .i64 y5_0))) [] (Omv rfl) ?_
        obtain ⟨r28_2, hr28_2, hm⟩ := bnd hm
        refine Wy (.d (.lit (.bool r28_2))) [] (Ocf [] [] [] 0 (ok_sorter_Heap_event_Event_less__sorter_ahead p0_L y6_0 y5_0 r28_2 hr28_2) (fun a w => Try.call49 a w) rfl trivial) ?_
        refine Walk.nil ?_
        refine Then.normal ?_
        refine Amk 268435558 1 ⟨(tp 1 ((.d (.lit (.int .i64 p1))) :: ((.loc 0 0) :: (tp 2 ((.d (.lit (.int .i64 y5_0))) :: ((.d (.lit (.int .i64 y6_0))) :: (tp 21 ((.d (.lit (.bool r28_2))) :: (tp 2 []))))))))), [(.box [(.d (.sl (List.length p0_L) (flatD enc_GEvent p0_L))), (.clo (.func 44) [] [])])], 0⟩ ?_
        rcases tf_ r28_2 with hc28_4 | hc28_4
        · replace hm := cT hc28_4 hm
          refine AWP.if_ true (Eq.trans (by kernel_rfl) (lit_tf (b := r28_2) hc28_4)) ?_
          refine AWP.text ?_
          refine Wy (.d (.lit (.int .i64 y6_0))) [] (Omv rfl) ?_
          refine Wy (.d (.lit (.int .i64 y6_0))) [] (Omv rfl) ?_
          refine Walk.nil ?_
          refine InBlock.normal ?_
          refine Then.normal ?_
          refine Amk 102 1 ⟨(tp 1 ((.d (.lit (.int .i64 p1))) :: ((.loc 0 0) :: (tp 2 ((.d (.lit (.int .i64 y6_0))) :: ((.d (.lit (.int .i64 y6_0))) :: (tp 24 []))))))), [(.box [(.d (.sl (List.length p0_L) (flatD enc_GEvent p0_L))), (.clo (.func 44) [] [])])], 0⟩ ?_
          refine AWP.text ?_
          refine Wy (.d (.lit (.int .i64 y6_0))) [] (Omv rfl) ?_
          refine Wy (.d (.lit (.int .i64 (IntKind.i64.wrap (y6_0 + 1))))) [] (Obn rfl (fun _ => hb_add (k := .i64))) ?_
          refine Wy (.d (.lit (.int .i64 (IntKind.i64.wrap (y6_0 + 1))))) [] (Omv rfl) ?_
          refine Walk.nil ?_
          refine RoundK.normal ?_
          exact Rounds.weak (Weak.toK 102 0 0 [0]) (ih_0 (fu_0, y6_0, (IntKind.i64.wrap (y6_0 + 1))) hm (Nat.lt_succ_self _))
        · replace hm := cF hc28_4 hm
          refine AWP.if_ false (Eq.trans (by kernel_rfl) (lit_tf (b := r28_2) hc28_4)) ?_
          refine AWP.skip ?_
          refine InBlock.normal ?_
          refine Then.normal ?_
          refine Amk 102 1 ⟨(tp 1 ((.d (.lit (.int .i64 p1))) :: ((.loc 0 0) :: (tp 2 ((.d (.lit (.int .i64 y5_0))) :: ((.d (.lit (.int .i64 y6_0))) :: (tp 24 []))))))), [(.box [(.d (.sl (List.length p0_L) (flatD enc_GEvent p0_L))), (.clo (.func 44) [] [])])], 0⟩ ?_
          refine AWP.text ?_
          refine Wy (.d (.lit (.int .i64 y6_0))) [] (Omv rfl) ?_
          refine Wy (.d (.lit (.int .i64 (IntKind.i64.wrap (y6_0 + 1))))) [] (Obn rfl (fun _ => hb_add (k := .i64))) ?_
          refine Wy (.d (.lit (.int .i64 (IntKind.i64.wrap (y6_0 + 1))))) [] (Omv rfl) ?_
          refine Walk.nil ?_
          refine RoundK.normal ?_
          exact Rounds.weak (Weak.toK 102 0 0 [0]) (ih_0 (fu_0, y5_0, (IntKind.i64.wrap (y6_0 + 1))) hm (Nat.lt_succ_self _))
      · replace hm := cF hc22_3 hm
        refine AWP.if_ false (Eq.trans (by kernel_rfl) (lit_tf (b := decide (y6_0 < ((List.length p0_L : Nat) : Int))) hc22_3)) ?_
        refine AWP.exit ?_
        refine Then.exit ?_
        refine RoundK.exit ?_
        refine InBlock.same ?_
        refine Then.normal ?_
        refine Amk 32 0 ⟨(tp 5 ((.d (.lit (.int .i64 y5_0))) :: (tp 25 []))), [.gone], 0⟩ ?_
        refine AWP.seq ?_
        refine AWP.text ?_
        refine Wy (.d (.lit (.int .i64 y5_0))) [] (Omv rfl) ?_
        refine Wy (.d (.lit (.int .i64 y5_0))) [] (Omv rfl) ?_
        refine Walk.nil ?_
        refine Then.normal ?_
        refine AWP.ret ?_
        obtain rfl := Option.some.inj hm
        exact ret_i []
    · replace hm := cF hq16_1 hm
      refine Wy (.d (.lit (.bool false))) [] (Ocs (lit_tf (b := decide (y6_0 ≤ (IntKind.i64.wrap ((IntKind.i64.wrap (2 * p1)) + 2)))) hq16_1) (Omv rfl)) ?_
      refine Wn ?_
      refine Wn ?_
      refine Wn ?_
      refine Wn ?_
      refine Wn ?_
      refine Wy (.d (.lit (.bool false))) [] (OpF rfl) ?_
      refine Walk.nil ?_
      refine Then.normal ?_
      refine Amk 4194406 1 ⟨(tp 1 ((.d (.lit (.int .i64 p1))) :: ((.loc 0 0) :: (tp 2 ((.d (.lit (.int .i64 y5_0))) :: ((.d (.lit (.int .i64 y6_0))) :: (tp 15 ((.d (.lit (.bool false))) :: (tp 8 []))))))))), [(.box [(.d (.sl (List.length p0_L) (flatD enc_GEvent p0_L))), (.clo (.func 44) [] [])])], 0⟩ ?_
      refine AWP.if_ false (by kernel_rfl) ?_
      refine AWP.exit ?_
      refine Then.exit ?_
      refine RoundK.exit ?_
      refine InBlock.same ?_
      refine Then.normal ?_
      refine Amk 32 0 ⟨(tp 5 ((.d (.lit (.int .i64 y5_0))) :: (tp 25 []))), [.gone], 0⟩ ?_
      refine AWP.seq ?_
      refine AWP.text ?_
      refine Wy (.d (.lit (.int .i64 y5_0))) [] (Omv rfl) ?_
      refine Wy (.d (.lit (.int .i64 y5_0))) [] (Omv rfl) ?_
      refine Walk.nil ?_
      refine Then.normal ?_
      refine AWP.ret ?_
      obtain rfl := Option.some.inj hm
      exact ret_i []
end Go.Proofs.Ytanahlngkociaaa.K
