/- each function computes what its model says (7) -/
import Derived.Test.YtanahlngkociaaaL6
namespace Go.Proofs.Ytanahlngkociaaa.K
open Go.RowKit Go.Lib
set_option linter.unusedVariables false
set_option linter.unusedSimpArgs false

set_option maxRecDepth 20000 in
set_option maxHeartbeats 4000000 in
theorem ok_telltalelaw24_SorterOrder (p0 : (List GEvent)) (p1 : GArr2_Int) (r : Bool) (h : m_telltalelaw24_SorterOrder p0 p1 = some r) : GCall Try.prog 6 [(.d (.sl (List.length p0) (flatD enc_GEvent p0))), (.agg [(.d (.lit (.int .i64 p1.a0))), (.d (.lit (.int .i64 p1.a1)))])] [] (.d (.lit (.bool r))) [] := by
  refine GCall.of_body (n := 201) (rs := [(.tmp 4)]) Try.func6 rfl rfl rfl ?_
  refine Ato ⟨((.d (.sl (List.length p0) (flatD enc_GEvent p0))) :: ((.agg [(.d (.lit (.int .i64 p1.a0))), (.d (.lit (.int .i64 p1.a1)))]) :: (tu 199 []))), [], 0⟩ ?_
  have hm := h
  unfold m_telltalelaw24_SorterOrder at hm
  refine AWP.seq ?_
  refine AWP.text ?_
  refine Wy (.loc 0 0) [(0, (.box [(.d (.lit (.int .i64 p1.a0))), (.d (.lit (.int .i64 p1.a1)))]))] (Obx rfl) ?_
  refine Wy (.d (.lit (.bool false))) [] (Omv rfl) ?_
  refine Walk.nil ?_
  refine Then.normal ?_
  refine Amk 9 1 ⟨((.d (.sl (List.length p0) (flatD enc_GEvent p0))) :: (tp 2 ((.loc 0 0) :: (tp 197 [])))), [(.box [(.d (.lit (.int .i64 p1.a0))), (.d (.lit (.int .i64 p1.a1)))])], 0⟩ ?_
  refine AWP.seq ?_
  refine AWP.seq ?_
  refine AWP.text ?_
  refine Wy (.d (.sl (List.length p0) (flatD enc_GEvent p0))) [] (Omv rfl) ?_
  obtain ⟨r21_0, hr21_0, hm⟩ := bnd hm
  refine Wy (.d (.lit (.int .i64 r21_0))) [] (Ocf [] [] [] 0 (ok_telltalelaw07_Over p0 12 r21_0 hr21_0) (fun a w => Try.call10 a w) rfl trivial) ?_
  refine Wy (.d (.lit (.bool (decide ((0 : Int) < r21_0))))) [] (Obn rfl (fun _ => hb_gtr (k := .i64))) ?_
  rcases tf_ (decide ((0 : Int) < r21_0)) with hq23_0 | hq23_0
  · replace hm := cT hq23_0 hm
    refine Wy (.d (.lit (.bool true))) [] (Ocs (lit_tf (b := decide ((0 : Int) < r21_0)) hq23_0) (Omv rfl)) ?_
    refine Wn ?_
    refine Wn ?_
    refine Wn ?_
    refine Wn ?_
    refine Wn ?_
    refine Wy (.d (.lit (.bool true))) [] (OpT rfl) ?_
    refine Walk.nil ?_
    refine Then.normal ?_
    refine Amk 536870921 1 ⟨((.d (.sl (List.length p0) (flatD enc_GEvent p0))) :: (tp 2 ((.loc 0 0) :: (tp 25 ((.d (.lit (.bool true))) :: (tp 171 [])))))), [(.box [(.d (.lit (.int .i64 p1.a0))), (.d (.lit (.int .i64 p1.a1)))])], 0⟩ ?_
    refine AWP.if_ true (by kernel_rfl) ?_
    refine AWP.seq ?_
    refine AWP.text ?_
    obtain ⟨r30_1, hr30_1, hm⟩ := bnd hm
    refine Wy (.d (.lit (.bool r30_1))) [] (Ocf [] [] [] 0 (ok_telltalelaw24_awake  r30_1 hr30_1) (fun a w => Try.call7 a w) rfl trivial) ?_
    refine Wy (.d (.lit (.bool r30_1))) [] (Omv rfl) ?_
    refine Walk.nil ?_
    refine Then.normal ?_
    refine AWP.ret ?_
    refine Then.ret ?_
    obtain rfl := Option.some.inj hm
    exact ret_i []
  · replace hm := cF hq23_0 hm
    refine Wy (.d (.lit (.bool false))) [] (Ocs (lit_tf (b := decide ((0 : Int) < r21_0)) hq23_0) (Omv rfl)) ?_
    refine Wy (.loc 0 1) [] (Ocs (by kernel_rfl) (op_iaddr_arr rfl (n := 2) (sz := 1) (y := (.loc 0 0)) (by kernel_rfl) (by kernel_rfl) (by kernel_rfl) (k := .i64) (iv := 1) (by kernel_rfl) (i := 1) (by rfl) (by decide))) ?_
    refine Wy (.d (.lit (.int .i64 p1.a1))) [] (Old rfl) ?_
    refine Wy (.loc 0 0) [] (Ocs (by kernel_rfl) (op_iaddr_arr rfl (n := 2) (sz := 1) (y := (.loc 0 0)) (by kernel_rfl) (by kernel_rfl) (by kernel_rfl) (k := .i64) (iv := 0) (by kernel_rfl) (i := 0) (by rfl) (by decide))) ?_
    refine Wy (.d (.lit (.int .i64 p1.a0))) [] (Old rfl) ?_
    refine Wy (.d (.lit (.bool (decide (p1.a1 < p1.a0))))) [] (Obn rfl (fun _ => hb_lss (k := .i64))) ?_
    refine Wy (.d (.lit (.bool (decide (p1.a1 < p1.a0))))) [] (OpF rfl) ?_
    refine Walk.nil ?_
    refine Then.normal ?_
    refine Amk 536870921 1 ⟨((.d (.sl (List.length p0) (flatD enc_GEvent p0))) :: (tp 2 ((.loc 0 0) :: (tp 25 ((.d (.lit (.bool (decide (p1.a1 < p1.a0))))) :: (tp 171 [])))))), [(.box [(.d (.lit (.int .i64 p1.a0))), (.d (.lit (.int .i64 p1.a1)))])], 0⟩ ?_
    rcases tf_ (decide (p1.a1 < p1.a0)) with hc29_22 | hc29_22
    · replace hm := cT hc29_22 hm
      refine AWP.if_ true (Eq.trans (by kernel_rfl) (lit_tf (b := decide (p1.a1 < p1.a0)) hc29_22)) ?_
      refine AWP.seq ?_
      refine AWP.text ?_
      obtain ⟨r30_2, hr30_2, hm⟩ := bnd hm
      refine Wy (.d (.lit (.bool r30_2))) [] (Ocf [] [] [] 0 (ok_telltalelaw24_awake  r30_2 hr30_2) (fun a w => Try.call7 a w) rfl trivial) ?_
      refine Wy (.d (.lit (.bool r30_2))) [] (Omv rfl) ?_
      refine Walk.nil ?_
      refine Then.normal ?_
      refine AWP.ret ?_
      refine Then.ret ?_
      obtain rfl := Option.some.inj hm
      exact ret_i []
    · replace hm := cF hc29_22 hm
      refine AWP.if_ false (Eq.trans (by kernel_rfl) (lit_tf (b := decide (p1.a1 < p1.a0)) hc29_22)) ?_
      refine AWP.skip ?_
      refine Then.normal ?_
      refine Amk 9 1 ⟨((.d (.sl (List.length p0) (flatD enc_GEvent p0))) :: (tp 2 ((.loc 0 0) :: (tp 197 [])))), [(.box [(.d (.lit (.int .i64 p1.a0))), (.d (.lit (.int .i64 p1.a1)))])], 0⟩ ?_
      refine AWP.seq ?_
      refine AWP.text ?_
      obtain ⟨r32_3, hr32_3, hm⟩ := bnd hm
      refine Wy (.tup [(.agg [(.d (.lit (.int .i64 r32_3.1.Cap))), (.d (.sl (List.length r32_3.1.L) (flatD enc_GEvent r32_3.1.L)))]), (.d (.lit (.int .i64 r32_3.2)))]) [] (Ocf [] [] [] 0 (ok_sorter_New 12 r32_3 hr32_3) (fun a w => Try.call8 a w) rfl trivial) ?_
      refine Wy (.tup [(.agg [(.d (.lit (.int .i64 r32_3.1.Cap))), (.d (.sl (List.length r32_3.1.L) (flatD enc_GEvent r32_3.1.L)))]), (.d (.lit (.int .i64 r32_3.2)))]) [] (Omv rfl) ?_
      refine Wy (.agg [(.d (.lit (.int .i64 r32_3.1.Cap))), (.d (.sl (List.length r32_3.1.L) (flatD enc_GEvent r32_3.1.L)))]) [] (Oex rfl) ?_
      refine Wy (.d (.lit (.int .i64 r32_3.2))) [] (Oex rfl) ?_
      refine Wy (.loc 1 0) [(1, (.box [(.d (.lit (.int .i64 0))), (.d .nil)]))] (Oal rfl) ?_
      refine Wy (.tup []) [(1, (.box [(.d (.lit (.int .i64 r32_3.1.Cap))), (.d (.sl (List.length r32_3.1.L) (flatD enc_GEvent r32_3.1.L)))]))] (Ost rfl) ?_
      refine Wy (.d (.lit (.int .i64 r32_3.2))) [] (Omv rfl) ?_
      refine Walk.nil ?_
      refine Then.normal ?_
      refine Amk 105 3 ⟨((.d (.sl (List.length p0) (flatD enc_GEvent p0))) :: (tp 2 ((.loc 0 0) :: (tp 1 ((.loc 1 0) :: ((.d (.lit (.int .i64 r32_3.2))) :: (tp 194 []))))))), [(.box [(.d (.lit (.int .i64 p1.a0))), (.d (.lit (.int .i64 p1.a1)))]), (.box [(.d (.lit (.int .i64 r32_3.1.Cap))), (.d (.sl (List.length r32_3.1.L) (flatD enc_GEvent r32_3.1.L)))])], 0⟩ ?_
      refine AWP.seq ?_
      refine AWP.seq ?_
      refine AWP.text ?_
      refine Wy (.d (.lit (.int .i64 0))) [] (Omv rfl) ?_
      refine Walk.nil ?_
      refine Then.normal ?_
      refine Amk 233 3 ⟨((.d (.sl (List.length p0) (flatD enc_GEvent p0))) :: (tp 2 ((.loc 0 0) :: (tp 1 ((.loc 1 0) :: ((.d (.lit (.int .i64 r32_3.2))) :: ((.d (.lit (.int .i64 0))) :: (tp 193 [])))))))), [(.box [(.d (.lit (.int .i64 p1.a0))), (.d (.lit (.int .i64 p1.a1)))]), (.box [(.d (.lit (.int .i64 r32_3.1.Cap))), (.d (.sl (List.length r32_3.1.L) (flatD enc_GEvent r32_3.1.L)))])], 0⟩ ?_
      refine AWP.block ?_
      refine AWP.loopI (α := Nat × GSorter × Int)
        (fun x => match x with | (fu_4, y5_d_4, y7_4) => (⟨((.d (.sl (List.length p0) (flatD enc_GEvent p0))) :: (tp 2 ((.loc 0 0) :: (tp 1 ((.loc 1 0) :: ((.d (.lit (.int .i64 r32_3.2))) :: ((.d (.lit (.int .i64 y7_4))) :: (tp 193 [])))))))), [(.box [(.d (.lit (.int .i64 p1.a0))), (.d (.lit (.int .i64 p1.a1)))]), (.box [(.d (.lit (.int .i64 y5_d_4.Cap))), (.d (.sl (List.length y5_d_4.L) (flatD enc_GEvent y5_d_4.L)))])], 0⟩ : St))
        (fun x => match x with | (fu_4, y5_d_4, y7_4) => m_telltalelaw24_SorterOrder_l4 p0 p1 r32_3 fu_4 y5_d_4 y7_4 = some r)
        (fun x => match x with | (fu_4, y5_d_4, y7_4) => fu_4) (1152921504606846976, r32_3.1, 0)
        (Weak.toK 233 0 0 [0, 1]) hm ?_
      rintro ⟨fu_4, y5_d_4, y7_4⟩ n_4 hm ih_4
      try dsimp only at hm ih_4 ⊢
      cases fu_4 with
      | zero => exact absurd hm (by unfold m_telltalelaw24_SorterOrder_l4; simp)
      | succ fu_4 =>
        unfold m_telltalelaw24_SorterOrder_l4 at hm
        refine AWP.seq ?_
        refine AWP.seq ?_
        refine AWP.text ?_
        refine Wy (.d (.lit (.int .i64 y7_4))) [] (Omv rfl) ?_
        refine Wy (.d (.sl (List.length p0) (flatD enc_GEvent p0))) [] (Omv rfl) ?_
        refine Wy (.d (.lit (.int .i64 ((List.length p0 : Nat) : Int)))) [] (Oln rfl) ?_
        refine Wy (.d (.lit (.bool (decide (y7_4 < ((List.length p0 : Nat) : Int)))))) [] (Obn rfl (fun _ => hb_lss (k := .i64))) ?_
        refine Walk.nil ?_
        refine Then.normal ?_
        refine Amk 274877907177 3 ⟨((.d (.sl (List.length p0) (flatD enc_GEvent p0))) :: (tp 2 ((.loc 0 0) :: (tp 1 ((.loc 1 0) :: ((.d (.lit (.int .i64 r32_3.2))) :: ((.d (.lit (.int .i64 y7_4))) :: (tp 30 ((.d (.lit (.bool (decide (y7_4 < ((List.length p0 : Nat) : Int)))))) :: (tp 162 [])))))))))), [(.box [(.d (.lit (.int .i64 p1.a0))), (.d (.lit (.int .i64 p1.a1)))]), (.box [(.d (.lit (.int .i64 y5_d_4.Cap))), (.d (.sl (List.length y5_d_4.L) (flatD enc_GEvent y5_d_4.L)))])], 0⟩ ?_
        rcases tf_ (decide (y7_4 < ((List.length p0 : Nat) : Int))) with hc38_23 | hc38_23
        · replace hm := cT hc38_23 hm
          refine AWP.if_ true (Eq.trans (by kernel_rfl) (lit_tf (b := decide (y7_4 < ((List.length p0 : Nat) : Int))) hc38_23)) ?_
          refine AWP.skip ?_
          refine Then.normal ?_
          refine Amk 233 3 ⟨((.d (.sl (List.length p0) (flatD enc_GEvent p0))) :: (tp 2 ((.loc 0 0) :: (tp 1 ((.loc 1 0) :: ((.d (.lit (.int .i64 r32_3.2))) :: ((.d (.lit (.int .i64 y7_4))) :: (tp 193 [])))))))), [(.box [(.d (.lit (.int .i64 p1.a0))), (.d (.lit (.int .i64 p1.a1)))]), (.box [(.d (.lit (.int .i64 y5_d_4.Cap))), (.d (.sl (List.length y5_d_4.L) (flatD enc_GEvent y5_d_4.L)))])], 0⟩ ?_
          refine AWP.seq ?_
          refine AWP.block ?_
          refine AWP.seq ?_
          refine Adr ?_
          refine Wy (.agg [(.d (.lit (.int .i64 y5_d_4.Cap))), (.d (.sl (List.length y5_d_4.L) (flatD enc_GEvent y5_d_4.L)))]) [] (Old rfl) ?_
          refine Wy (.d (.sl (List.length p0) (flatD enc_GEvent p0))) [] (Omv rfl) ?_
          refine Wy (.d (.lit (.int .i64 y7_4))) [] (Omv rfl) ?_
          obtain ⟨x45_6, hx45_6, hm⟩ := bnd hm
          obtain ⟨hx45_6i, hx45_6g⟩ := geti_some hx45_6
          refine Wy (.d (.ref (List.drop ((Int.toNat y7_4) * 5) (flatD enc_GEvent p0)))) [] (Oia rfl enc_GEvent_len hx45_6i hx45_6g) ?_
          refine Wy (.agg [(.d (.lit (.int .i64 x45_6.Time))), (.d (.lit (.int .i64 x45_6.Source))), (.d (.lit (.int .i64 x45_6.Seq))), (.d (.lit (.string (toS x45_6.Type_)))), (.d (.sl (List.length x45_6.Vals) (flatD enc_GValue x45_6.Vals)))]) [] (Lf rfl enc_GEvent_len hx45_6g) ?_
          obtain ⟨r47_6, hr47_6, hm⟩ := bnd hm
          refine Wy (.agg [(.d (.lit (.int .i64 r47_6.Time))), (.d (.lit (.int .i64 r47_6.Source))), (.d (.lit (.int .i64 r47_6.Seq))), (.d (.lit (.string (toS r47_6.Type_)))), (.own 2)]) [(2, (.arr 94 4 (List.length r47_6.Vals) (flatD enc_GValue r47_6.Vals)))] (Ocf [] [2] [] 0 (ok_telltalelaw07_Own x45_6 r47_6 hr47_6) (fun a w => Try.call16 a w) rfl trivial) ?_
          obtain ⟨r48_6, hr48_6, hm⟩ := bnd hm
          refine Wy (.tup [(.agg [(.d (.lit (.int .i64 r48_6.1.Cap))), (.d (.sl (List.length r48_6.1.L) (flatD enc_GEvent r48_6.1.L)))]), (.d (.lit (.int .i64 r48_6.2)))]) [(2, (.fro 94 4 (List.length r47_6.Vals) (flatD enc_GValue r47_6.Vals)))] (Ocf [] [] [2] 0 (ok_sorter_Sorter_Put y5_d_4 r47_6 r48_6 hr48_6) (fun a w => Try.call15 a w) rfl trivial) ?_
          refine Wy (.tup [(.agg [(.d (.lit (.int .i64 r48_6.1.Cap))), (.d (.sl (List.length r48_6.1.L) (flatD enc_GEvent r48_6.1.L)))]), (.d (.lit (.int .i64 r48_6.2)))]) [] (Omv rfl) ?_
          refine Wy (.agg [(.d (.lit (.int .i64 r48_6.1.Cap))), (.d (.sl (List.length r48_6.1.L) (flatD enc_GEvent r48_6.1.L)))]) [] (Oex rfl) ?_
          refine Wy (.d (.lit (.int .i64 r48_6.2))) [] (Oex rfl) ?_
          refine Wy (.loc 3 0) [(3, (.box [(.d (.lit (.int .i64 0))), (.d .nil)]))] (Oal rfl) ?_
          refine Wy (.tup []) [(3, (.box [(.d (.lit (.int .i64 r48_6.1.Cap))), (.d (.sl (List.length r48_6.1.L) (flatD enc_GEvent r48_6.1.L)))]))] (Ost rfl) ?_
          refine Wy (.d (.lit (.int .i64 r48_6.2))) [] (Omv rfl) ?_
          refine Wdr ?_
          refine Then.normal ?_
          refine Amk 1001 11 ⟨((.d (.sl (List.length p0) (flatD enc_GEvent p0))) :: (tp 2 ((.loc 0 0) :: (tp 1 ((.loc 1 0) :: ((.d (.lit (.int .i64 r32_3.2))) :: ((.d (.lit (.int .i64 y7_4))) :: ((.loc 3 0) :: ((.d (.lit (.int .i64 r48_6.2))) :: (tp 191 [])))))))))), [(.box [(.d (.lit (.int .i64 p1.a0))), (.d (.lit (.int .i64 p1.a1)))]), (.box [(.d (.lit (.int .i64 y5_d_4.Cap))), (.d (.sl (List.length y5_d_4.L) (flatD enc_GEvent y5_d_4.L)))]), .gone, (.box [(.d (.lit (.int .i64 r48_6.1.Cap))), (.d (.sl (List.length r48_6.1.L) (flatD enc_GEvent r48_6.1.L)))])], 0⟩ ?_
          refine AWP.seq ?_
          refine AWP.seq ?_
          refine AWP.text ?_
          refine Wy (.d (.lit (.int .i64 r48_6.2))) [] (Omv rfl) ?_
          refine Wy (.d (.lit (.bool (decide (r48_6.2 ≠ 0))))) [] (Obn rfl (fun _ => hb_neq (k := .i64))) ?_
          rcases tf_ (decide (r48_6.2 ≠ 0)) with hq53_7 | hq53_7
          · replace hm := cT hq53_7 hm
            refine Wy (.d (.lit (.bool true))) [] (Ocs (lit_tf (b := decide (r48_6.2 ≠ 0)) hq53_7) (Omv rfl)) ?_
            refine Wy (.d (.lit (.int .i64 r48_6.2))) [] (Omv rfl) ?_
            refine Wy (.d (.lit (.bool (decide (r48_6.2 ≠ 12))))) [] (Obn rfl (fun _ => hb_neq (k := .i64))) ?_
            refine Wy (.d (.lit (.bool (decide (r48_6.2 ≠ 12))))) [] (OpT rfl) ?_
            refine Walk.nil ?_
            refine Then.normal ?_
            refine Amk 72057594037928425 11 ⟨((.d (.sl (List.length p0) (flatD enc_GEvent p0))) :: (tp 2 ((.loc 0 0) :: (tp 1 ((.loc 1 0) :: ((.d (.lit (.int .i64 r32_3.2))) :: ((.d (.lit (.int .i64 y7_4))) :: ((.loc 3 0) :: (tp 47 ((.d (.lit (.bool (decide (r48_6.2 ≠ 12))))) :: (tp 144 []))))))))))), [(.box [(.d (.lit (.int .i64 p1.a0))), (.d (.lit (.int .i64 p1.a1)))]), (.box [(.d (.lit (.int .i64 y5_d_4.Cap))), (.d (.sl (List.length y5_d_4.L) (flatD enc_GEvent y5_d_4.L)))]), .gone, (.box [(.d (.lit (.int .i64 r48_6.1.Cap))), (.d (.sl (List.length r48_6.1.L) (flatD enc_GEvent r48_6.1.L)))])], 0⟩ ?_
            rcases tf_ (decide (r48_6.2 ≠ 12)) with hc56_24 | hc56_24
            · replace hm := cT hc56_24 hm
              refine AWP.if_ true (Eq.trans (by kernel_rfl) (lit_tf (b := decide (r48_6.2 ≠ 12)) hc56_24)) ?_
              refine AWP.seq ?_
              refine AWP.text ?_
              refine Wy (.d (.lit (.bool false))) [] (Omv rfl) ?_
              refine Walk.nil ?_
              refine Then.normal ?_
              refine AWP.ret ?_
              refine Then.ret ?_
              refine InBlock.ret ?_
              refine Then.ret ?_
              refine RoundK.ret ?_
              refine InBlock.ret ?_
              refine Then.ret ?_
              obtain rfl := Option.some.inj hm
              exact ret_i []
            · replace hm := cF hc56_24 hm
              refine AWP.if_ false (Eq.trans (by kernel_rfl) (lit_tf (b := decide (r48_6.2 ≠ 12)) hc56_24)) ?_
              refine AWP.skip ?_
              refine Then.normal ?_
              refine Amk 489 11 ⟨((.d (.sl (List.length p0) (flatD enc_GEvent p0))) :: (tp 2 ((.loc 0 0) :: (tp 1 ((.loc 1 0) :: ((.d (.lit (.int .i64 r32_3.2))) :: ((.d (.lit (.int .i64 y7_4))) :: ((.loc 3 0) :: (tp 192 []))))))))), [(.box [(.d (.lit (.int .i64 p1.a0))), (.d (.lit (.int .i64 p1.a1)))]), (.box [(.d (.lit (.int .i64 y5_d_4.Cap))), (.d (.sl (List.length y5_d_4.L) (flatD enc_GEvent y5_d_4.L)))]), .gone, (.box [(.d (.lit (.int .i64 r48_6.1.Cap))), (.d (.sl (List.length r48_6.1.L) (flatD enc_GEvent r48_6.1.L)))])], 0⟩ ?_
              refine AWP.text ?_
              refine Wy (.agg [(.d (.lit (.int .i64 r48_6.1.Cap))), (.d (.sl (List.length r48_6.1.L) (flatD enc_GEvent r48_6.1.L)))]) [] (Old rfl) ?_
              refine Wy (.tup []) [(1, (.box [(.d (.lit (.int .i64 r48_6.1.Cap))), (.d (.sl (List.length r48_6.1.L) (flatD enc_GEvent r48_6.1.L)))]))] (Ost rfl) ?_
              refine Walk.nil ?_
              refine InBlock.normal ?_
              refine Then.normal ?_
              refine Amk 233 3 ⟨((.d (.sl (List.length p0) (flatD enc_GEvent p0))) :: (tp 2 ((.loc 0 0) :: (tp 1 ((.loc 1 0) :: ((.d (.lit (.int .i64 r32_3.2))) :: ((.d (.lit (.int .i64 y7_4))) :: (tp 193 [])))))))), [(.box [(.d (.lit (.int .i64 p1.a0))), (.d (.lit (.int .i64 p1.a1)))]), (.box [(.d (.lit (.int .i64 r48_6.1.Cap))), (.d (.sl (List.length r48_6.1.L) (flatD enc_GEvent r48_6.1.L)))]), .gone, .gone], 0⟩ ?_
              refine AWP.text ?_
              refine Wy (.d (.lit (.int .i64 y7_4))) [] (Omv rfl) ?_
              refine Wy (.d (.lit (.int .i64 (IntKind.i64.wrap (y7_4 + 1))))) [] (Obn rfl (fun _ => hb_add (k := .i64))) ?_
              refine Wy (.d (.lit (.int .i64 (IntKind.i64.wrap (y7_4 + 1))))) [] (Omv rfl) ?_
              refine Walk.nil ?_
              refine RoundK.normal ?_
              exact Rounds.weak (Weak.toK 233 0 0 [0, 1]) (ih_4 (fu_4, r48_6.1, (IntKind.i64.wrap (y7_4 + 1))) hm (Nat.lt_succ_self _))
          · replace hm := cF hq53_7 hm
            refine Wy (.d (.lit (.bool false))) [] (Ocs (lit_tf (b := decide (r48_6.2 ≠ 0)) hq53_7) (Omv rfl)) ?_
            refine Wn ?_
            refine Wn ?_
            refine Wy (.d (.lit (.bool false))) [] (OpF rfl) ?_
            refine Walk.nil ?_
            refine Then.normal ?_
            refine Amk 72057594037928425 11 ⟨((.d (.sl (List.length p0) (flatD enc_GEvent p0))) :: (tp 2 ((.loc 0 0) :: (tp 1 ((.loc 1 0) :: ((.d (.lit (.int .i64 r32_3.2))) :: ((.d (.lit (.int .i64 y7_4))) :: ((.loc 3 0) :: (tp 47 ((.d (.lit (.bool false))) :: (tp 144 []))))))))))), [(.box [(.d (.lit (.int .i64 p1.a0))), (.d (.lit (.int .i64 p1.a1)))]), (.box [(.d (.lit (.int .i64 y5_d_4.Cap))), (.d (.sl (List.length y5_d_4.L) (flatD enc_GEvent y5_d_4.L)))]), .gone, (.box [(.d (.lit (.int .i64 r48_6.1.Cap))), (.d (.sl (List.length r48_6.1.L) (flatD enc_GEvent r48_6.1.L)))])], 0⟩ ?_
            refine AWP.if_ false (by kernel_rfl) ?_
            refine AWP.skip ?_
            refine Then.normal ?_
            refine Amk 489 11 ⟨((.d (.sl (List.length p0) (flatD enc_GEvent p0))) :: (tp 2 ((.loc 0 0) :: (tp 1 ((.loc 1 0) :: ((.d (.lit (.int .i64 r32_3.2))) :: ((.d (.lit (.int .i64 y7_4))) :: ((.loc 3 0) :: (tp 192 []))))))))), [(.box [(.d (.lit (.int .i64 p1.a0))), (.d (.lit (.int .i64 p1.a1)))]), (.box [(.d (.lit (.int .i64 y5_d_4.Cap))), (.d (.sl (List.length y5_d_4.L) (flatD enc_GEvent y5_d_4.L)))]), .gone, (.box [(.d (.lit (.int .i64 r48_6.1.Cap))), (.d (.sl (List.length r48_6.1.L) (flatD enc_GEvent r48_6.1.L)))])], 0⟩ ?_
            refine AWP.text ?_
            refine Wy (.agg [(.d (.lit (.int .i64 r48_6.1.Cap))), (.d (.sl (List.length r48_6.1.L) (flatD enc_GEvent r48_6.1.L)))]) [] (Old rfl) ?_
            refine Wy (.tup []) [(1, (.box [(.d (.lit (.int .i64 r48_6.1.Cap))), (.d (.sl (List.length r48_6.1.L) (flatD enc_GEvent r48_6.1.L)))]))] (Ost rfl) ?_
            refine Walk.nil ?_
            refine InBlock.normal ?_
            refine Then.normal ?_
            refine Amk 233 3 ⟨((.d (.sl (List.length p0) (flatD enc_GEvent p0))) :: (tp 2 ((.loc 0 0) :: (tp 1 ((.loc 1 0) :: ((.d (.lit (.int .i64 r32_3.2))) :: ((.d (.lit (.int .i64 y7_4))) :: (tp 193 [])))))))), [(.box [(.d (.lit (.int .i64 p1.a0))), (.d (.lit (.int .i64 p1.a1)))]), (.box [(.d (.lit (.int .i64 r48_6.1.Cap))), (.d (.sl (List.length r48_6.1.L) (flatD enc_GEvent r48_6.1.L)))]), .gone, .gone], 0⟩ ?_
            refine AWP.text ?_
            refine Wy (.d (.lit (.int .i64 y7_4))) [] (Omv rfl) ?_
            refine Wy (.d (.lit (.int .i64 (IntKind.i64.wrap (y7_4 + 1))))) [] (Obn rfl (fun _ => hb_add (k := .i64))) ?_
            refine Wy (.d (.lit (.int .i64 (IntKind.i64.wrap (y7_4 + 1))))) [] (Omv rfl) ?_
            refine Walk.nil ?_
            refine RoundK.normal ?_
            exact Rounds.weak (Weak.toK 233 0 0 [0, 1]) (ih_4 (fu_4, r48_6.1, (IntKind.i64.wrap (y7_4 + 1))) hm (Nat.lt_succ_self _))
        · replace hm := cF hc38_23 hm
          refine AWP.if_ false (Eq.trans (by kernel_rfl) (lit_tf (b := decide (y7_4 < ((List.length p0 : Nat) : Int))) hc38_23)) ?_
          refine AWP.exit ?_
          refine Then.exit ?_
          refine RoundK.exit ?_
          refine InBlock.same ?_
          refine Then.normal ?_
          refine Amk 104 3 ⟨(tp 3 ((.loc 0 0) :: (tp 1 ((.loc 1 0) :: ((.d (.lit (.int .i64 r32_3.2))) :: (tp 194 [])))))), [(.box [(.d (.lit (.int .i64 p1.a0))), (.d (.lit (.int .i64 p1.a1)))]), (.box [(.d (.lit (.int .i64 y5_d_4.Cap))), (.d (.sl (List.length y5_d_4.L) (flatD enc_GEvent y5_d_4.L)))])], 0⟩ ?_
          refine AWP.seq ?_
          refine AWP.text ?_
          refine Wy (.agg [(.d (.lit (.int .i64 y5_d_4.Cap))), (.d (.sl (List.length y5_d_4.L) (flatD enc_GEvent y5_d_4.L)))]) [] (Old rfl) ?_
          refine Wy (.loc 0 0) [] (Ocs (by kernel_rfl) (op_iaddr_arr rfl (n := 2) (sz := 1) (y := (.loc 0 0)) (by kernel_rfl) (by kernel_rfl) (by kernel_rfl) (k := .i64) (iv := 0) (by kernel_rfl) (i := 0) (by rfl) (by decide))) ?_
          refine Wy (.d (.lit (.int .i64 p1.a0))) [] (Old rfl) ?_
          obtain ⟨r62_8, hr62_8, hm⟩ := bnd hm
          refine Wy (.tup [(.own 2), (.agg [(.d (.lit (.int .i64 r62_8.2.Cap))), (.d (.sl (List.length r62_8.2.L) (flatD enc_GEvent r62_8.2.L)))])]) [(2, (.arr 50 5 (List.length r62_8.1) (flatD enc_GEvent r62_8.1)))] (Ocf [] [2] [] 0 (ok_sorter_Sorter_Release y5_d_4 p1.a0 r62_8 hr62_8) (fun a w => Try.call11 a w) rfl trivial) ?_
          refine Wy (.tup [(.own 2), (.agg [(.d (.lit (.int .i64 r62_8.2.Cap))), (.d (.sl (List.length r62_8.2.L) (flatD enc_GEvent r62_8.2.L)))])]) [] (Omv rfl) ?_
          refine Wy (.own 2) [] (Oex rfl) ?_
          refine Wy (.agg [(.d (.lit (.int .i64 r62_8.2.Cap))), (.d (.sl (List.length r62_8.2.L) (flatD enc_GEvent r62_8.2.L)))]) [] (Oex rfl) ?_
          refine Wy (.loc 3 0) [(3, (.box [(.d (.lit (.int .i64 0))), (.d .nil)]))] (Oal rfl) ?_
          refine Wy (.own 2) [] (Omv rfl) ?_
          refine Wy (.tup []) [(3, (.box [(.d (.lit (.int .i64 r62_8.2.Cap))), (.d (.sl (List.length r62_8.2.L) (flatD enc_GEvent r62_8.2.L)))]))] (Ost rfl) ?_
          refine Walk.nil ?_
          refine Then.normal ?_
          refine Amk 3176 15 ⟨(tp 3 ((.loc 0 0) :: (tp 1 ((.loc 1 0) :: ((.d (.lit (.int .i64 r32_3.2))) :: (tp 3 ((.own 2) :: ((.loc 3 0) :: (tp 189 []))))))))), [(.box [(.d (.lit (.int .i64 p1.a0))), (.d (.lit (.int .i64 p1.a1)))]), (.box [(.d (.lit (.int .i64 y5_d_4.Cap))), (.d (.sl (List.length y5_d_4.L) (flatD enc_GEvent y5_d_4.L)))]), (.arr 50 5 (List.length r62_8.1) (flatD enc_GEvent r62_8.1)), (.box [(.d (.lit (.int .i64 r62_8.2.Cap))), (.d (.sl (List.length r62_8.2.L) (flatD enc_GEvent r62_8.2.L)))])], 0⟩ ?_
          refine AWP.seq ?_
          refine AWP.text ?_
          refine Wy (.agg [(.d (.lit (.int .i64 r62_8.2.Cap))), (.d (.sl (List.length r62_8.2.L) (flatD enc_GEvent r62_8.2.L)))]) [] (Old rfl) ?_
          refine Wy (.loc 0 1) [] (Ocs (by kernel_rfl) (op_iaddr_arr rfl (n := 2) (sz := 1) (y := (.loc 0 0)) (by kernel_rfl) (by kernel_rfl) (by kernel_rfl) (k := .i64) (iv := 1) (by kernel_rfl) (i := 1) (by rfl) (by decide))) ?_
          refine Wy (.d (.lit (.int .i64 p1.a1))) [] (Old rfl) ?_
          obtain ⟨r69_9, hr69_9, hm⟩ := bnd hm
          refine Wy (.tup [(.own 4), (.agg [(.d (.lit (.int .i64 r69_9.2.Cap))), (.d (.sl (List.length r69_9.2.L) (flatD enc_GEvent r69_9.2.L)))])]) [(4, (.arr 50 5 (List.length r69_9.1) (flatD enc_GEvent r69_9.1)))] (Ocf [] [4] [] 0 (ok_sorter_Sorter_Release r62_8.2 p1.a1 r69_9 hr69_9) (fun a w => Try.call11 a w) rfl trivial) ?_
          refine Wy (.tup [(.own 4), (.agg [(.d (.lit (.int .i64 r69_9.2.Cap))), (.d (.sl (List.length r69_9.2.L) (flatD enc_GEvent r69_9.2.L)))])]) [] (Omv rfl) ?_
          refine Wy (.own 4) [] (Oex rfl) ?_
          refine Wy (.agg [(.d (.lit (.int .i64 r69_9.2.Cap))), (.d (.sl (List.length r69_9.2.L) (flatD enc_GEvent r69_9.2.L)))]) [] (Oex rfl) ?_
          refine Wy (.loc 5 0) [(5, (.box [(.d (.lit (.int .i64 0))), (.d .nil)]))] (Oal rfl) ?_
          refine Wy (.own 4) [] (Omv rfl) ?_
          refine Wy (.tup []) [(5, (.box [(.d (.lit (.int .i64 r69_9.2.Cap))), (.d (.sl (List.length r69_9.2.L) (flatD enc_GEvent r69_9.2.L)))]))] (Ost rfl) ?_
          refine Walk.nil ?_
          refine Then.normal ?_
          refine Amk 13416 55 ⟨(tp 3 ((.loc 0 0) :: (tp 1 ((.loc 1 0) :: ((.d (.lit (.int .i64 r32_3.2))) :: (tp 3 ((.own 2) :: (tp 1 ((.own 4) :: ((.loc 5 0) :: (tp 187 []))))))))))), [(.box [(.d (.lit (.int .i64 p1.a0))), (.d (.lit (.int .i64 p1.a1)))]), (.box [(.d (.lit (.int .i64 y5_d_4.Cap))), (.d (.sl (List.length y5_d_4.L) (flatD enc_GEvent y5_d_4.L)))]), (.arr 50 5 (List.length r62_8.1) (flatD enc_GEvent r62_8.1)), .gone, (.arr 50 5 (List.length r69_9.1) (flatD enc_GEvent r69_9.1)), (.box [(.d (.lit (.int .i64 r69_9.2.Cap))), (.d (.sl (List.length r69_9.2.L) (flatD enc_GEvent r69_9.2.L)))])], 0⟩ ?_
          refine AWP.seq ?_
          refine AWP.text ?_
          refine Wy (.agg [(.d (.lit (.int .i64 y5_d_4.Cap))), (.d (.sl (List.length y5_d_4.L) (flatD enc_GEvent y5_d_4.L)))]) [] (Old rfl) ?_
          refine Wy (.loc 0 1) [] (Ocs (by kernel_rfl) (op_iaddr_arr rfl (n := 2) (sz := 1) (y := (.loc 0 0)) (by kernel_rfl) (by kernel_rfl) (by kernel_rfl) (k := .i64) (iv := 1) (by kernel_rfl) (i := 1) (by rfl) (by decide))) ?_
          refine Wy (.d (.lit (.int .i64 p1.a1))) [] (Old rfl) ?_
          obtain ⟨r76_10, hr76_10, hm⟩ := bnd hm
          refine Wy (.tup [(.own 6), (.agg [(.d (.lit (.int .i64 r76_10.2.Cap))), (.d (.sl (List.length r76_10.2.L) (flatD enc_GEvent r76_10.2.L)))])]) [(6, (.arr 50 5 (List.length r76_10.1) (flatD enc_GEvent r76_10.1)))] (Ocf [] [6] [] 0 (ok_sorter_Sorter_Release y5_d_4 p1.a1 r76_10 hr76_10) (fun a w => Try.call11 a w) rfl trivial) ?_
          refine Wy (.tup [(.own 6), (.agg [(.d (.lit (.int .i64 r76_10.2.Cap))), (.d (.sl (List.length r76_10.2.L) (flatD enc_GEvent r76_10.2.L)))])]) [] (Omv rfl) ?_
          refine Wy (.own 6) [] (Oex rfl) ?_
          refine Wy (.agg [(.d (.lit (.int .i64 r76_10.2.Cap))), (.d (.sl (List.length r76_10.2.L) (flatD enc_GEvent r76_10.2.L)))]) [] (Oex rfl) ?_
          refine Wy (.loc 7 0) [(7, (.box [(.d (.lit (.int .i64 0))), (.d .nil)]))] (Oal rfl) ?_
          refine Wy (.own 6) [] (Omv rfl) ?_
          refine Wy (.tup []) [(7, (.box [(.d (.lit (.int .i64 r76_10.2.Cap))), (.d (.sl (List.length r76_10.2.L) (flatD enc_GEvent r76_10.2.L)))]))] (Ost rfl) ?_
          refine Walk.nil ?_
          refine Then.normal ?_
          refine Amk 62568 247 ⟨(tp 3 ((.loc 0 0) :: (tp 1 ((.loc 1 0) :: ((.d (.lit (.int .i64 r32_3.2))) :: (tp 3 ((.own 2) :: (tp 1 ((.own 4) :: ((.loc 5 0) :: ((.own 6) :: ((.loc 7 0) :: (tp 185 []))))))))))))), [(.box [(.d (.lit (.int .i64 p1.a0))), (.d (.lit (.int .i64 p1.a1)))]), (.box [(.d (.lit (.int .i64 y5_d_4.Cap))), (.d (.sl (List.length y5_d_4.L) (flatD enc_GEvent y5_d_4.L)))]), (.arr 50 5 (List.length r62_8.1) (flatD enc_GEvent r62_8.1)), .gone, (.arr 50 5 (List.length r69_9.1) (flatD enc_GEvent r69_9.1)), (.box [(.d (.lit (.int .i64 r69_9.2.Cap))), (.d (.sl (List.length r69_9.2.L) (flatD enc_GEvent r69_9.2.L)))]), (.arr 50 5 (List.length r76_10.1) (flatD enc_GEvent r76_10.1)), (.box [(.d (.lit (.int .i64 r76_10.2.Cap))), (.d (.sl (List.length r76_10.2.L) (flatD enc_GEvent r76_10.2.L)))])], 0⟩ ?_
          refine AWP.seq ?_
          refine AWP.text ?_
          refine Wy (.own 8) [(8, (.arr 50 5 (List.length ([] : List GEvent)) (flatD enc_GEvent ([] : List GEvent))))] (Obs rfl) ?_
          refine Wy (.own 2) [] (Omv rfl) ?_
          obtain ⟨a81_11, ha81_11, hm⟩ := bnd hm; obtain ⟨ha81_11e, ha81_11l⟩ := app_some ha81_11
          refine Wy (.own 9) [(8, .gone), (9, (.arr 50 5 (List.length a81_11) (flatD enc_GEvent a81_11)))] (Oap rfl elemOK_24 enc_GEvent_len ha81_11e ha81_11l) ?_
          refine Wy (.own 4) [] (Omv rfl) ?_
          obtain ⟨a83_11, ha83_11, hm⟩ := bnd hm; obtain ⟨ha83_11e, ha83_11l⟩ := app_some ha83_11
          refine Wy (.own 10) [(9, .gone), (10, (.arr 50 5 (List.length a83_11) (flatD enc_GEvent a83_11)))] (Oap rfl elemOK_24 enc_GEvent_len ha83_11e ha83_11l) ?_
          refine Wy (.own 10) [] (Omv rfl) ?_
          refine Walk.nil ?_
          refine Then.normal ?_
          refine Amk 124008 1255 ⟨(tp 3 ((.loc 0 0) :: (tp 1 ((.loc 1 0) :: ((.d (.lit (.int .i64 r32_3.2))) :: (tp 3 ((.own 2) :: (tp 2 ((.loc 5 0) :: ((.own 6) :: ((.loc 7 0) :: ((.own 10) :: (tp 184 []))))))))))))), [(.box [(.d (.lit (.int .i64 p1.a0))), (.d (.lit (.int .i64 p1.a1)))]), (.box [(.d (.lit (.int .i64 y5_d_4.Cap))), (.d (.sl (List.length y5_d_4.L) (flatD enc_GEvent y5_d_4.L)))]), (.arr 50 5 (List.length r62_8.1) (flatD enc_GEvent r62_8.1)), .gone, .gone, (.box [(.d (.lit (.int .i64 r69_9.2.Cap))), (.d (.sl (List.length r69_9.2.L) (flatD enc_GEvent r69_9.2.L)))]), (.arr 50 5 (List.length r76_10.1) (flatD enc_GEvent r76_10.1)), (.box [(.d (.lit (.int .i64 r76_10.2.Cap))), (.d (.sl (List.length r76_10.2.L) (flatD enc_GEvent r76_10.2.L)))]), .gone, .gone, (.arr 50 5 (List.length a83_11) (flatD enc_GEvent a83_11))], 0⟩ ?_
          refine AWP.seq ?_
          refine AWP.cutJ (α := Unit) (fun x => match x with | () => (⟨(tp 3 ((.loc 0 0) :: (tp 6 ((.own 1) :: (tp 2 ((.loc 2 0) :: ((.own 3) :: (tp 1 ((.own 4) :: (tp 101 ((.d (.lit (.bool true))) :: (tp 82 [])))))))))))), [(.box [(.d (.lit (.int .i64 p1.a0))), (.d (.lit (.int .i64 p1.a1)))]), (.arr 50 5 (List.length r62_8.1) (flatD enc_GEvent r62_8.1)), (.box [(.d (.lit (.int .i64 r69_9.2.Cap))), (.d (.sl (List.length r69_9.2.L) (flatD enc_GEvent r69_9.2.L)))]), (.arr 50 5 (List.length r76_10.1) (flatD enc_GEvent r76_10.1)), (.arr 50 5 (List.length a83_11) (flatD enc_GEvent a83_11))], 0⟩ : St)) (fun x => match x with | () => m_telltalelaw24_SorterOrder_j13  = some r) ?_ (fun J13 => ?_)
          · rintro ⟨⟩ hm
            try dsimp only at hm ⊢
            unfold m_telltalelaw24_SorterOrder_j13 at hm
            refine AWP.if_ true (by kernel_rfl) ?_
            refine AWP.seq ?_
            refine AWP.text ?_
            refine Wy (.d (.lit (.bool false))) [] (Omv rfl) ?_
            refine Walk.nil ?_
            refine Then.normal ?_
            refine AWP.ret ?_
            refine Then.ret ?_
            obtain rfl := Option.some.inj hm
            exact ret_i []
          refine AWP.seq ?_
          refine AWP.text ?_
          refine Wy (.d (.lit (.int .i64 r32_3.2))) [] (Omv rfl) ?_
          refine Wy (.d (.lit (.bool (decide (r32_3.2 ≠ 0))))) [] (Obn rfl (fun _ => hb_neq (k := .i64))) ?_
          rcases tf_ (decide (r32_3.2 ≠ 0)) with hq86_12 | hq86_12
          · replace hm := cT hq86_12 hm
            refine Wy (.d (.lit (.bool true))) [] (Ocs (lit_tf (b := decide (r32_3.2 ≠ 0)) hq86_12) (Omv rfl)) ?_
            refine Wn ?_
            refine Wn ?_
            refine Wn ?_
            refine Wn ?_
            refine Wn ?_
            refine Wy (.d (.lit (.bool true))) [] (OpT rfl) ?_
            refine Wy (.d (.lit (.bool true))) [] (Omv rfl) ?_
            refine Wn ?_
            refine Wn ?_
            refine Wn ?_
            refine Wy (.d (.lit (.bool true))) [] (OpT rfl) ?_
            refine Wy (.d (.lit (.bool true))) [] (Omv rfl) ?_
            refine Wn ?_
            refine Wn ?_
            refine Wn ?_
            refine Wn ?_
            refine Wn ?_
            refine Wn ?_
            refine Wn ?_
            refine Wy (.d (.lit (.bool true))) [] (OpT rfl) ?_
            refine Wy (.d (.lit (.bool true))) [] (Omv rfl) ?_
            refine Wn ?_
            refine Wn ?_
            refine Wn ?_
            refine Wn ?_
            refine Wn ?_
            refine Wn ?_
            refine Wn ?_
            refine Wn ?_
            refine Wn ?_
            refine Wn ?_
            refine Wy (.d (.lit (.bool true))) [] (OpT rfl) ?_
            refine Walk.nil ?_
            refine Then.normal ?_
            exact AWP.weak (Weak.toK 332306998946228968225951765070177288 0 0 [0, 2, 5, 6, 10]) (J13 () hm)
          · replace hm := cF hq86_12 hm
            refine Wy (.d (.lit (.bool false))) [] (Ocs (lit_tf (b := decide (r32_3.2 ≠ 0)) hq86_12) (Omv rfl)) ?_
            refine Wy (.own 10) [] (Omv rfl) ?_
            refine Wy (.d (.lit (.int .i64 ((List.length a83_11 : Nat) : Int)))) [] (Oln rfl) ?_
            refine Wy (.own 6) [] (Omv rfl) ?_
            refine Wy (.d (.lit (.int .i64 ((List.length r76_10.1 : Nat) : Int)))) [] (Oln rfl) ?_
            refine Wy (.d (.lit (.bool (decide (((List.length a83_11 : Nat) : Int) ≠ ((List.length r76_10.1 : Nat) : Int)))))) [] (Obn rfl (fun _ => hb_neq (k := .i64))) ?_
            refine Wy (.d (.lit (.bool (decide (((List.length a83_11 : Nat) : Int) ≠ ((List.length r76_10.1 : Nat) : Int)))))) [] (OpF rfl) ?_
            rcases tf_ (decide (((List.length a83_11 : Nat) : Int) ≠ ((List.length r76_10.1 : Nat) : Int))) with hq93_12 | hq93_12
            · replace hm := cT hq93_12 hm
              refine Wy (.d (.lit (.bool true))) [] (Ocs (lit_tf (b := decide (((List.length a83_11 : Nat) : Int) ≠ ((List.length r76_10.1 : Nat) : Int))) hq93_12) (Omv rfl)) ?_
              refine Wn ?_
              refine Wn ?_
              refine Wn ?_
              refine Wy (.d (.lit (.bool true))) [] (OpT rfl) ?_
              refine Wy (.d (.lit (.bool true))) [] (Omv rfl) ?_
              refine Wn ?_
              refine Wn ?_
              refine Wn ?_
              refine Wn ?_
              refine Wn ?_
              refine Wn ?_
              refine Wn ?_
              refine Wy (.d (.lit (.bool true))) [] (OpT rfl) ?_
              refine Wy (.d (.lit (.bool true))) [] (Omv rfl) ?_
              refine Wn ?_
              refine Wn ?_
              refine Wn ?_
              refine Wn ?_
              refine Wn ?_
              refine Wn ?_
              refine Wn ?_
              refine Wn ?_
              refine Wn ?_
              refine Wn ?_
              refine Wy (.d (.lit (.bool true))) [] (OpT rfl) ?_
              refine Walk.nil ?_
              refine Then.normal ?_
              exact AWP.weak (Weak.toK 332306998946228968225951765070177288 0 0 [0, 2, 5, 6, 10]) (J13 () hm)
            · replace hm := cF hq93_12 hm
              refine Wy (.d (.lit (.bool false))) [] (Ocs (lit_tf (b := decide (((List.length a83_11 : Nat) : Int) ≠ ((List.length r76_10.1 : Nat) : Int))) hq93_12) (Omv rfl)) ?_
              refine Wy (.own 10) [] (Omv rfl) ?_
              obtain ⟨r95_12, hr95_12, hm⟩ := bnd hm
              refine Wy (.d (.lit (.bool r95_12))) [] (Ocp [] [] [10] 0 (ok_event_Sorted a83_11 r95_12 hr95_12) (plain_triv (by simp [A.Plain, A.Plains, D.Plain, byteD])) (fun a w => Try.call24 a w) rfl trivial) ?_
              refine Wy (.d (.lit (.bool (!r95_12)))) [] (Ocs (by kernel_rfl) (op_un rfl (a1 := .bool r95_12) (by kernel_rfl) (fun _ => hu_not))) ?_
              refine Wy (.d (.lit (.bool (!r95_12)))) [] (OpF rfl) ?_
              rcases tf_ (!r95_12) with hq98_12 | hq98_12
              · replace hm := cT hq98_12 hm
                refine Wy (.d (.lit (.bool true))) [] (Ocs (lit_tf (b := (!r95_12)) hq98_12) (Omv rfl)) ?_
                refine Wn ?_
                refine Wn ?_
                refine Wn ?_
                refine Wn ?_
                refine Wn ?_
                refine Wn ?_
                refine Wn ?_
                refine Wy (.d (.lit (.bool true))) [] (OpT rfl) ?_
                refine Wy (.d (.lit (.bool true))) [] (Omv rfl) ?_
                refine Wn ?_
                refine Wn ?_
                refine Wn ?_
                refine Wn ?_
                refine Wn ?_
                refine Wn ?_
                refine Wn ?_
                refine Wn ?_
                refine Wn ?_
                refine Wn ?_
                refine Wy (.d (.lit (.bool true))) [] (OpT rfl) ?_
                refine Walk.nil ?_
                refine Then.normal ?_
                exact AWP.weak (Weak.toK 332306998946228968225951765070177288 0 0 [0, 2, 5, 6, 10]) (J13 () hm)
              · replace hm := cF hq98_12 hm
                refine Wy (.d (.lit (.bool false))) [] (Ocs (lit_tf (b := (!r95_12)) hq98_12) (Omv rfl)) ?_
                refine Wy (.loc 5 1) [] (Ofa rfl) ?_
                refine Wy (.d (.sl (List.length r69_9.2.L) (flatD enc_GEvent r69_9.2.L))) [] (Old rfl) ?_
                refine Wy (.d (.lit (.int .i64 ((List.length r69_9.2.L : Nat) : Int)))) [] (Oln rfl) ?_
                refine Wy (.loc 7 1) [] (Ofa rfl) ?_
                refine Wy (.d (.sl (List.length r76_10.2.L) (flatD enc_GEvent r76_10.2.L))) [] (Old rfl) ?_
                refine Wy (.d (.lit (.int .i64 ((List.length r76_10.2.L : Nat) : Int)))) [] (Oln rfl) ?_
                refine Wy (.d (.lit (.bool (decide (((List.length r69_9.2.L : Nat) : Int) ≠ ((List.length r76_10.2.L : Nat) : Int)))))) [] (Obn rfl (fun _ => hb_neq (k := .i64))) ?_
                refine Wy (.d (.lit (.bool (decide (((List.length r69_9.2.L : Nat) : Int) ≠ ((List.length r76_10.2.L : Nat) : Int)))))) [] (OpF rfl) ?_
                rcases tf_ (decide (((List.length r69_9.2.L : Nat) : Int) ≠ ((List.length r76_10.2.L : Nat) : Int))) with hq107_12 | hq107_12
                · replace hm := cT hq107_12 hm
                  refine Wy (.d (.lit (.bool true))) [] (Ocs (lit_tf (b := decide (((List.length r69_9.2.L : Nat) : Int) ≠ ((List.length r76_10.2.L : Nat) : Int))) hq107_12) (Omv rfl)) ?_
                  refine Wn ?_
                  refine Wn ?_
                  refine Wn ?_
                  refine Wn ?_
                  refine Wn ?_
                  refine Wn ?_
                  refine Wn ?_
                  refine Wn ?_
                  refine Wn ?_
                  refine Wn ?_
                  refine Wy (.d (.lit (.bool true))) [] (OpT rfl) ?_
                  refine Walk.nil ?_
                  refine Then.normal ?_
                  exact AWP.weak (Weak.toK 332306998946228968225951765070177288 0 0 [0, 2, 5, 6, 10]) (J13 () hm)
                · replace hm := cF hq107_12 hm
                  refine Wy (.d (.lit (.bool false))) [] (Ocs (lit_tf (b := decide (((List.length r69_9.2.L : Nat) : Int) ≠ ((List.length r76_10.2.L : Nat) : Int))) hq107_12) (Omv rfl)) ?_
                  refine Wy (.own 6) [] (Omv rfl) ?_
                  refine Wy (.d (.lit (.int .i64 ((List.length r76_10.1 : Nat) : Int)))) [] (Oln rfl) ?_
                  refine Wy (.loc 5 1) [] (Ofa rfl) ?_
                  refine Wy (.d (.sl (List.length r69_9.2.L) (flatD enc_GEvent r69_9.2.L))) [] (Old rfl) ?_
                  refine Wy (.d (.lit (.int .i64 ((List.length r69_9.2.L : Nat) : Int)))) [] (Oln rfl) ?_
                  refine Wy (.d (.lit (.int .i64 (IntKind.i64.wrap (((List.length r76_10.1 : Nat) : Int) + ((List.length r69_9.2.L : Nat) : Int)))))) [] (Obn rfl (fun _ => hb_add (k := .i64))) ?_
                  refine Wy (.loc 1 1) [] (Ofa rfl) ?_
                  refine Wy (.d (.sl (List.length y5_d_4.L) (flatD enc_GEvent y5_d_4.L))) [] (Old rfl) ?_
                  refine Wy (.d (.lit (.int .i64 ((List.length y5_d_4.L : Nat) : Int)))) [] (Oln rfl) ?_
                  obtain ⟨v117_12, hv117_12, hm⟩ := bnd hm; replace hv117_12 := Option.some.inj hv117_12
                  refine Wy (.d (.lit (.bool v117_12))) [] (Ocs (congrArg (fun z => A.d (.lit (.bool z))) hv117_12) (Obn rfl (fun _ => hb_neq (k := .i64)))) ?_
                  refine Wy (.d (.lit (.bool v117_12))) [] (OpF rfl) ?_
                  refine Walk.nil ?_
                  refine Then.normal ?_
                  refine Amk 332306998946228968225951765070177288 1125 ⟨(tp 3 ((.loc 0 0) :: (tp 6 ((.own 2) :: (tp 2 ((.loc 5 0) :: ((.own 6) :: (tp 1 ((.own 10) :: (tp 101 ((.d (.lit (.bool v117_12))) :: (tp 82 [])))))))))))), [(.box [(.d (.lit (.int .i64 p1.a0))), (.d (.lit (.int .i64 p1.a1)))]), .gone, (.arr 50 5 (List.length r62_8.1) (flatD enc_GEvent r62_8.1)), .gone, .gone, (.box [(.d (.lit (.int .i64 r69_9.2.Cap))), (.d (.sl (List.length r69_9.2.L) (flatD enc_GEvent r69_9.2.L)))]), (.arr 50 5 (List.length r76_10.1) (flatD enc_GEvent r76_10.1)), .gone, .gone, .gone, (.arr 50 5 (List.length a83_11) (flatD enc_GEvent a83_11))], 0⟩ ?_
                  rcases tf_ v117_12 with hc118_25 | hc118_25
                  · replace hm := cT hc118_25 hm
                    refine AWP.if_ true (Eq.trans (by kernel_rfl) (lit_tf (b := v117_12) hc118_25)) ?_
                    refine AWP.seq ?_
                    refine AWP.text ?_
                    refine Wy (.d (.lit (.bool false))) [] (Omv rfl) ?_
                    refine Walk.nil ?_
                    refine Then.normal ?_
                    refine AWP.ret ?_
                    refine Then.ret ?_
                    obtain rfl := Option.some.inj hm
                    exact ret_i []
                  · replace hm := cF hc118_25 hm
                    refine AWP.if_ false (Eq.trans (by kernel_rfl) (lit_tf (b := v117_12) hc118_25)) ?_
                    refine AWP.skip ?_
                    refine Then.normal ?_
                    refine Amk 91144 1125 ⟨(tp 3 ((.loc 0 0) :: (tp 6 ((.own 2) :: (tp 2 ((.loc 5 0) :: ((.own 6) :: (tp 1 ((.own 10) :: (tp 184 [])))))))))), [(.box [(.d (.lit (.int .i64 p1.a0))), (.d (.lit (.int .i64 p1.a1)))]), .gone, (.arr 50 5 (List.length r62_8.1) (flatD enc_GEvent r62_8.1)), .gone, .gone, (.box [(.d (.lit (.int .i64 r69_9.2.Cap))), (.d (.sl (List.length r69_9.2.L) (flatD enc_GEvent r69_9.2.L)))]), (.arr 50 5 (List.length r76_10.1) (flatD enc_GEvent r76_10.1)), .gone, .gone, .gone, (.arr 50 5 (List.length a83_11) (flatD enc_GEvent a83_11))], 0⟩ ?_
                    refine AWP.seq ?_
                    refine AWP.seq ?_
                    refine AWP.text ?_
                    refine Wy (.d (.lit (.int .i64 0))) [] (Omv rfl) ?_
                    refine Walk.nil ?_
                    refine Then.normal ?_
                    refine Amk 222216 1125 ⟨(tp 3 ((.loc 0 0) :: (tp 6 ((.own 2) :: (tp 2 ((.loc 5 0) :: ((.own 6) :: (tp 1 ((.own 10) :: ((.d (.lit (.int .i64 0))) :: (tp 183 []))))))))))), [(.box [(.d (.lit (.int .i64 p1.a0))), (.d (.lit (.int .i64 p1.a1)))]), .gone, (.arr 50 5 (List.length r62_8.1) (flatD enc_GEvent r62_8.1)), .gone, .gone, (.box [(.d (.lit (.int .i64 r69_9.2.Cap))), (.d (.sl (List.length r69_9.2.L) (flatD enc_GEvent r69_9.2.L)))]), (.arr 50 5 (List.length r76_10.1) (flatD enc_GEvent r76_10.1)), .gone, .gone, .gone, (.arr 50 5 (List.length a83_11) (flatD enc_GEvent a83_11))], 0⟩ ?_
                    refine AWP.block ?_
                    refine AWP.loopI (α := Nat × Int)
                      (fun x => match x with | (fu_14, y17_14) => (⟨(tp 3 ((.loc 0 0) :: (tp 6 ((.own 1) :: (tp 2 ((.loc 2 0) :: ((.own 3) :: (tp 1 ((.own 4) :: ((.d (.lit (.int .i64 y17_14))) :: (tp 183 []))))))))))), [(.box [(.d (.lit (.int .i64 p1.a0))), (.d (.lit (.int .i64 p1.a1)))]), (.arr 50 5 (List.length r62_8.1) (flatD enc_GEvent r62_8.1)), (.box [(.d (.lit (.int .i64 r69_9.2.Cap))), (.d (.sl (List.length r69_9.2.L) (flatD enc_GEvent r69_9.2.L)))]), (.arr 50 5 (List.length r76_10.1) (flatD enc_GEvent r76_10.1)), (.arr 50 5 (List.length a83_11) (flatD enc_GEvent a83_11))], 0⟩ : St))
                      (fun x => match x with | (fu_14, y17_14) => m_telltalelaw24_SorterOrder_l14 p1 a83_11 r62_8 r69_9 r76_10 fu_14 y17_14 = some r)
                      (fun x => match x with | (fu_14, y17_14) => fu_14) (1152921504606846976, 0)
                      (Weak.toK 222216 0 0 [0, 2, 5, 6, 10]) hm ?_
                    rintro ⟨fu_14, y17_14⟩ n_14 hm ih_14
                    try dsimp only at hm ih_14 ⊢
                    cases fu_14 with
                    | zero => exact absurd hm (by unfold m_telltalelaw24_SorterOrder_l14; simp)
                    | succ fu_14 =>
                      unfold m_telltalelaw24_SorterOrder_l14 at hm
                      refine AWP.seq ?_
                      refine AWP.seq ?_
                      refine AWP.text ?_
                      refine Wy (.d (.lit (.int .i64 y17_14))) [] (Omv rfl) ?_
                      refine Wy (.own 3) [] (Omv rfl) ?_
                      refine Wy (.d (.lit (.int .i64 ((List.length r76_10.1 : Nat) : Int)))) [] (Oln rfl) ?_
                      refine Wy (.d (.lit (.bool (decide (y17_14 < ((List.length r76_10.1 : Nat) : Int)))))) [] (Obn rfl (fun _ => hb_lss (k := .i64))) ?_
                      refine Walk.nil ?_
                      refine Then.normal ?_
                      refine Amk 5316911983139663491615228241121600520 31 ⟨(tp 3 ((.loc 0 0) :: (tp 6 ((.own 1) :: (tp 2 ((.loc 2 0) :: ((.own 3) :: (tp 1 ((.own 4) :: ((.d (.lit (.int .i64 y17_14))) :: (tp 104 ((.d (.lit (.bool (decide (y17_14 < ((List.length r76_10.1 : Nat) : Int)))))) :: (tp 78 []))))))))))))), [(.box [(.d (.lit (.int .i64 p1.a0))), (.d (.lit (.int .i64 p1.a1)))]), (.arr 50 5 (List.length r62_8.1) (flatD enc_GEvent r62_8.1)), (.box [(.d (.lit (.int .i64 r69_9.2.Cap))), (.d (.sl (List.length r69_9.2.L) (flatD enc_GEvent r69_9.2.L)))]), (.arr 50 5 (List.length r76_10.1) (flatD enc_GEvent r76_10.1)), (.arr 50 5 (List.length a83_11) (flatD enc_GEvent a83_11))], 0⟩ ?_
                      rcases tf_ (decide (y17_14 < ((List.length r76_10.1 : Nat) : Int))) with hc122_26 | hc122_26
                      · replace hm := cT hc122_26 hm
                        refine AWP.if_ true (Eq.trans (by kernel_rfl) (lit_tf (b := decide (y17_14 < ((List.length r76_10.1 : Nat) : Int))) hc122_26)) ?_
                        refine AWP.skip ?_
                        refine Then.normal ?_
                        refine Amk 222216 31 ⟨(tp 3 ((.loc 0 0) :: (tp 6 ((.own 1) :: (tp 2 ((.loc 2 0) :: ((.own 3) :: (tp 1 ((.own 4) :: ((.d (.lit (.int .i64 y17_14))) :: (tp 183 []))))))))))), [(.box [(.d (.lit (.int .i64 p1.a0))), (.d (.lit (.int .i64 p1.a1)))]), (.arr 50 5 (List.length r62_8.1) (flatD enc_GEvent r62_8.1)), (.box [(.d (.lit (.int .i64 r69_9.2.Cap))), (.d (.sl (List.length r69_9.2.L) (flatD enc_GEvent r69_9.2.L)))]), (.arr 50 5 (List.length r76_10.1) (flatD enc_GEvent r76_10.1)), (.arr 50 5 (List.length a83_11) (flatD enc_GEvent a83_11))], 0⟩ ?_
                        refine AWP.seq ?_
                        refine AWP.block ?_
                        refine AWP.cutJ (α := Unit) (fun x => match x with | () => (⟨(tp 3 ((.loc 0 0) :: (tp 6 ((.own 1) :: (tp 2 ((.loc 2 0) :: ((.own 3) :: (tp 1 ((.own 4) :: ((.d (.lit (.int .i64 y17_14))) :: (tp 158 ((.d (.lit (.bool true))) :: (tp 24 []))))))))))))), [(.box [(.d (.lit (.int .i64 p1.a0))), (.d (.lit (.int .i64 p1.a1)))]), (.arr 50 5 (List.length r62_8.1) (flatD enc_GEvent r62_8.1)), (.box [(.d (.lit (.int .i64 r69_9.2.Cap))), (.d (.sl (List.length r69_9.2.L) (flatD enc_GEvent r69_9.2.L)))]), (.arr 50 5 (List.length r76_10.1) (flatD enc_GEvent r76_10.1)), (.arr 50 5 (List.length a83_11) (flatD enc_GEvent a83_11))], 0⟩ : St)) (fun x => match x with | () => m_telltalelaw24_SorterOrder_j17  = some r) ?_ (fun J17 => ?_)
                        · rintro ⟨⟩ hm
                          try dsimp only at hm ⊢
                          unfold m_telltalelaw24_SorterOrder_j17 at hm
                          refine AWP.if_ true (by kernel_rfl) ?_
                          refine AWP.seq ?_
                          refine AWP.text ?_
                          refine Wy (.d (.lit (.bool false))) [] (Omv rfl) ?_
                          refine Walk.nil ?_
                          refine Then.normal ?_
                          refine AWP.ret ?_
                          refine InBlock.ret ?_
                          refine Then.ret ?_
                          refine RoundK.ret ?_
                          refine InBlock.ret ?_
                          refine Then.ret ?_
                          obtain rfl := Option.some.inj hm
                          exact ret_i []
                        refine AWP.cutJ (α := Bool) (fun x => match x with | y176_18 => (⟨(tp 3 ((.loc 0 0) :: (tp 6 ((.own 1) :: (tp 2 ((.loc 2 0) :: ((.own 3) :: (tp 1 ((.own 4) :: ((.d (.lit (.int .i64 y17_14))) :: (tp 158 ((.d (.lit (.bool y176_18))) :: (tp 24 []))))))))))))), [(.box [(.d (.lit (.int .i64 p1.a0))), (.d (.lit (.int .i64 p1.a1)))]), (.arr 50 5 (List.length r62_8.1) (flatD enc_GEvent r62_8.1)), (.box [(.d (.lit (.int .i64 r69_9.2.Cap))), (.d (.sl (List.length r69_9.2.L) (flatD enc_GEvent r69_9.2.L)))]), (.arr 50 5 (List.length r76_10.1) (flatD enc_GEvent r76_10.1)), (.arr 50 5 (List.length a83_11) (flatD enc_GEvent a83_11))], 0⟩ : St)) (fun x => match x with | y176_18 => m_telltalelaw24_SorterOrder_j18 y17_14 (fun y17_14 => m_telltalelaw24_SorterOrder_l14 p1 a83_11 r62_8 r69_9 r76_10 fu_14 y17_14) y176_18 = some r) ?_ (fun J18 => ?_)
                        · rintro y176_18 hm
                          try dsimp only at hm ⊢
                          unfold m_telltalelaw24_SorterOrder_j18 at hm
                          rcases tf_ y176_18 with hc176_18 | hc176_18
                          · replace hm := cT hc176_18 hm
                            refine AWP.if_ true (Eq.trans (by kernel_rfl) (lit_tf (b := y176_18) hc176_18)) ?_
                            refine AWP.seq ?_
                            refine AWP.text ?_
                            refine Wy (.d (.lit (.bool false))) [] (Omv rfl) ?_
                            refine Walk.nil ?_
                            refine Then.normal ?_
                            refine AWP.ret ?_
                            refine InBlock.ret ?_
                            refine Then.ret ?_
                            refine RoundK.ret ?_
                            refine InBlock.ret ?_
                            refine Then.ret ?_
                            obtain rfl := Option.some.inj hm
                            exact ret_i []
                          · replace hm := cF hc176_18 hm
                            refine AWP.if_ false (Eq.trans (by kernel_rfl) (lit_tf (b := y176_18) hc176_18)) ?_
                            refine AWP.skip ?_
                            refine InBlock.normal ?_
                            refine Then.normal ?_
                            refine Amk 222216 31 ⟨(tp 3 ((.loc 0 0) :: (tp 6 ((.own 1) :: (tp 2 ((.loc 2 0) :: ((.own 3) :: (tp 1 ((.own 4) :: ((.d (.lit (.int .i64 y17_14))) :: (tp 183 []))))))))))), [(.box [(.d (.lit (.int .i64 p1.a0))), (.d (.lit (.int .i64 p1.a1)))]), (.arr 50 5 (List.length r62_8.1) (flatD enc_GEvent r62_8.1)), (.box [(.d (.lit (.int .i64 r69_9.2.Cap))), (.d (.sl (List.length r69_9.2.L) (flatD enc_GEvent r69_9.2.L)))]), (.arr 50 5 (List.length r76_10.1) (flatD enc_GEvent r76_10.1)), (.arr 50 5 (List.length a83_11) (flatD enc_GEvent a83_11))], 0⟩ ?_
                            refine AWP.text ?_
                            refine Wy (.d (.lit (.int .i64 y17_14))) [] (Omv rfl) ?_
                            refine Wy (.d (.lit (.int .i64 (IntKind.i64.wrap (y17_14 + 1))))) [] (Obn rfl (fun _ => hb_add (k := .i64))) ?_
                            refine Wy (.d (.lit (.int .i64 (IntKind.i64.wrap (y17_14 + 1))))) [] (Omv rfl) ?_
                            refine Walk.nil ?_
                            refine RoundK.normal ?_
                            exact Rounds.weak (Weak.toK 222216 0 0 [0, 1, 2, 3, 4]) (ih_14 (fu_14, (IntKind.i64.wrap (y17_14 + 1))) hm (Nat.lt_succ_self _))
                        refine AWP.cutJ (α := Unit) (fun x => match x with | () => (⟨(tp 3 ((.loc 0 0) :: (tp 6 ((.own 1) :: (tp 2 ((.loc 2 0) :: ((.own 3) :: (tp 1 ((.own 4) :: ((.d (.lit (.int .i64 y17_14))) :: (tp 158 ((.d (.lit (.bool false))) :: (tp 24 []))))))))))))), [(.box [(.d (.lit (.int .i64 p1.a0))), (.d (.lit (.int .i64 p1.a1)))]), (.arr 50 5 (List.length r62_8.1) (flatD enc_GEvent r62_8.1)), (.box [(.d (.lit (.int .i64 r69_9.2.Cap))), (.d (.sl (List.length r69_9.2.L) (flatD enc_GEvent r69_9.2.L)))]), (.arr 50 5 (List.length r76_10.1) (flatD enc_GEvent r76_10.1)), (.arr 50 5 (List.length a83_11) (flatD enc_GEvent a83_11))], 0⟩ : St)) (fun x => match x with | () => m_telltalelaw24_SorterOrder_j19 y17_14 (fun y17_14 => m_telltalelaw24_SorterOrder_l14 p1 a83_11 r62_8 r69_9 r76_10 fu_14 y17_14) = some r) ?_ (fun J19 => ?_)
                        · rintro ⟨⟩ hm
                          try dsimp only at hm ⊢
                          unfold m_telltalelaw24_SorterOrder_j19 at hm
                          refine AWP.if_ false (by kernel_rfl) ?_
                          refine AWP.skip ?_
                          refine InBlock.normal ?_
                          refine Then.normal ?_
                          refine Amk 222216 31 ⟨(tp 3 ((.loc 0 0) :: (tp 6 ((.own 1) :: (tp 2 ((.loc 2 0) :: ((.own 3) :: (tp 1 ((.own 4) :: ((.d (.lit (.int .i64 y17_14))) :: (tp 183 []))))))))))), [(.box [(.d (.lit (.int .i64 p1.a0))), (.d (.lit (.int .i64 p1.a1)))]), (.arr 50 5 (List.length r62_8.1) (flatD enc_GEvent r62_8.1)), (.box [(.d (.lit (.int .i64 r69_9.2.Cap))), (.d (.sl (List.length r69_9.2.L) (flatD enc_GEvent r69_9.2.L)))]), (.arr 50 5 (List.length r76_10.1) (flatD enc_GEvent r76_10.1)), (.arr 50 5 (List.length a83_11) (flatD enc_GEvent a83_11))], 0⟩ ?_
                          refine AWP.text ?_
                          refine Wy (.d (.lit (.int .i64 y17_14))) [] (Omv rfl) ?_
                          refine Wy (.d (.lit (.int .i64 (IntKind.i64.wrap (y17_14 + 1))))) [] (Obn rfl (fun _ => hb_add (k := .i64))) ?_
                          refine Wy (.d (.lit (.int .i64 (IntKind.i64.wrap (y17_14 + 1))))) [] (Omv rfl) ?_
                          refine Walk.nil ?_
                          refine RoundK.normal ?_
                          exact Rounds.weak (Weak.toK 222216 0 0 [0, 1, 2, 3, 4]) (ih_14 (fu_14, (IntKind.i64.wrap (y17_14 + 1))) hm (Nat.lt_succ_self _))
                        refine AWP.seq ?_
                        refine Adr ?_
                        refine Wy (.own 3) [] (Omv rfl) ?_
                        refine Wy (.d (.lit (.int .i64 y17_14))) [] (Omv rfl) ?_
                        obtain ⟨x127_16, hx127_16, hm⟩ := bnd hm
                        obtain ⟨hx127_16i, hx127_16g⟩ := geti_some hx127_16
                        refine Wy (.loc 3 ((Int.toNat y17_14) * 5)) [] (Oia rfl enc_GEvent_len hx127_16i hx127_16g) ?_
                        refine Wy (.agg [(.d (.lit (.int .i64 x127_16.Time))), (.d (.lit (.int .i64 x127_16.Source))), (.d (.lit (.int .i64 x127_16.Seq))), (.d (.lit (.string (toS x127_16.Type_)))), (.d (.sl (List.length x127_16.Vals) (flatD enc_GValue x127_16.Vals)))]) [] (Lr rfl enc_GEvent_len hx127_16g) ?_
                        refine Wy (.own 4) [] (Omv rfl) ?_
                        refine Wy (.d (.lit (.int .i64 y17_14))) [] (Omv rfl) ?_
                        obtain ⟨x131_16, hx131_16, hm⟩ := bnd hm
                        obtain ⟨hx131_16i, hx131_16g⟩ := geti_some hx131_16
                        refine Wy (.loc 4 ((Int.toNat y17_14) * 5)) [] (Oia rfl enc_GEvent_len hx131_16i hx131_16g) ?_
                        refine Wy (.agg [(.d (.lit (.int .i64 x131_16.Time))), (.d (.lit (.int .i64 x131_16.Source))), (.d (.lit (.int .i64 x131_16.Seq))), (.d (.lit (.string (toS x131_16.Type_)))), (.d (.sl (List.length x131_16.Vals) (flatD enc_GValue x131_16.Vals)))]) [] (Lr rfl enc_GEvent_len hx131_16g) ?_
                        obtain ⟨r133_16, hr133_16, hm⟩ := bnd hm
                        refine Wy (.d (.lit (.bool r133_16))) [] (Ocf [] [] [] 0 (ok_event_Same x127_16 x131_16 r133_16 hr133_16) (fun a w => Try.call25 a w) rfl trivial) ?_
                        refine Wy (.d (.lit (.bool (!r133_16)))) [] (Ocs (by kernel_rfl) (op_un rfl (a1 := .bool r133_16) (by kernel_rfl) (fun _ => hu_not))) ?_
                        rcases tf_ (!r133_16) with hq135_16 | hq135_16
                        · replace hm := cT hq135_16 hm
                          refine Wy (.d (.lit (.bool true))) [] (Ocs (lit_tf (b := (!r133_16)) hq135_16) (Omv rfl)) ?_
                          refine Wn ?_
                          refine Wn ?_
                          refine Wn ?_
                          refine Wn ?_
                          refine Wn ?_
                          refine Wn ?_
                          refine Wn ?_
                          refine Wn ?_
                          refine Wy (.d (.lit (.bool true))) [] (OpT rfl) ?_
                          refine Wy (.d (.lit (.bool true))) [] (Omv rfl) ?_
                          refine Wn ?_
                          refine Wn ?_
                          refine Wn ?_
                          refine Wn ?_
                          refine Wn ?_
                          refine Wn ?_
                          refine Wn ?_
                          refine Wn ?_
                          refine Wn ?_
                          refine Wn ?_
                          refine Wn ?_
                          refine Wn ?_
                          refine Wn ?_
                          refine Wn ?_
                          refine Wy (.d (.lit (.bool true))) [] (OpT rfl) ?_
                          refine Wy (.d (.lit (.bool true))) [] (Omv rfl) ?_
                          refine Wn ?_
                          refine Wn ?_
                          refine Wn ?_
                          refine Wn ?_
                          refine Wn ?_
                          refine Wn ?_
                          refine Wn ?_
                          refine Wn ?_
                          refine Wn ?_
                          refine Wn ?_
                          refine Wn ?_
                          refine Wn ?_
                          refine Wn ?_
                          refine Wn ?_
                          refine Wy (.d (.lit (.bool true))) [] (OpT rfl) ?_
                          refine Wdr ?_
                          refine Then.normal ?_
                          exact AWP.weak (Weak.toK 95780971304118053647396689196894323976171195136697352 0 0 [0, 1, 2, 3, 4]) (J17 () hm)
                        · replace hm := cF hq135_16 hm
                          refine Wy (.d (.lit (.bool false))) [] (Ocs (lit_tf (b := (!r133_16)) hq135_16) (Omv rfl)) ?_
                          refine Wy (.own 3) [] (Omv rfl) ?_
                          refine Wy (.d (.lit (.int .i64 y17_14))) [] (Omv rfl) ?_
                          obtain ⟨x138_16, hx138_16, hm⟩ := bnd hm
                          obtain ⟨hx138_16i, hx138_16g⟩ := geti_some hx138_16
                          refine Wy (.loc 3 ((Int.toNat y17_14) * 5)) [] (Oia rfl enc_GEvent_len hx138_16i hx138_16g) ?_
                          refine Wy (.loc 3 ((Int.toNat y17_14) * 5)) [] (Ofa rfl) ?_
                          refine Wy (.d (.lit (.int .i64 x138_16.Time))) [] (Lr1 rfl enc_GEvent_len hx138_16g) ?_
                          refine Wy (.loc 0 1) [] (Ocs (by kernel_rfl) (op_iaddr_arr rfl (n := 2) (sz := 1) (y := (.loc 0 0)) (by kernel_rfl) (by kernel_rfl) (by kernel_rfl) (k := .i64) (iv := 1) (by kernel_rfl) (i := 1) (by rfl) (by decide))) ?_
                          refine Wy (.d (.lit (.int .i64 p1.a1))) [] (Old rfl) ?_
                          refine Wy (.d (.lit (.bool (decide (p1.a1 ≤ x138_16.Time))))) [] (Obn rfl (fun _ => hb_geq (k := .i64))) ?_
                          refine Wy (.d (.lit (.bool (decide (p1.a1 ≤ x138_16.Time))))) [] (OpF rfl) ?_
                          rcases tf_ (decide (p1.a1 ≤ x138_16.Time)) with hq145_16 | hq145_16
                          · replace hm := cT hq145_16 hm
                            refine Wy (.d (.lit (.bool true))) [] (Ocs (lit_tf (b := decide (p1.a1 ≤ x138_16.Time)) hq145_16) (Omv rfl)) ?_
                            refine Wn ?_
                            refine Wn ?_
                            refine Wn ?_
                            refine Wn ?_
                            refine Wn ?_
                            refine Wn ?_
                            refine Wn ?_
                            refine Wn ?_
                            refine Wn ?_
                            refine Wn ?_
                            refine Wn ?_
                            refine Wn ?_
                            refine Wn ?_
                            refine Wn ?_
                            refine Wy (.d (.lit (.bool true))) [] (OpT rfl) ?_
                            refine Wy (.d (.lit (.bool true))) [] (Omv rfl) ?_
                            refine Wn ?_
                            refine Wn ?_
                            refine Wn ?_
                            refine Wn ?_
                            refine Wn ?_
                            refine Wn ?_
                            refine Wn ?_
                            refine Wn ?_
                            refine Wn ?_
                            refine Wn ?_
                            refine Wn ?_
                            refine Wn ?_
                            refine Wn ?_
                            refine Wn ?_
                            refine Wy (.d (.lit (.bool true))) [] (OpT rfl) ?_
                            refine Wdr ?_
                            refine Then.normal ?_
                            exact AWP.weak (Weak.toK 95780971304118053647396689196894323976171195136697352 0 0 [0, 1, 2, 3, 4]) (J17 () hm)
                          · replace hm := cF hq145_16 hm
                            refine Wy (.d (.lit (.bool false))) [] (Ocs (lit_tf (b := decide (p1.a1 ≤ x138_16.Time)) hq145_16) (Omv rfl)) ?_
                            refine Wy (.d (.lit (.int .i64 y17_14))) [] (Omv rfl) ?_
                            refine Wy (.own 1) [] (Omv rfl) ?_
                            refine Wy (.d (.lit (.int .i64 ((List.length r62_8.1 : Nat) : Int)))) [] (Oln rfl) ?_
                            refine Wy (.d (.lit (.bool (decide (y17_14 < ((List.length r62_8.1 : Nat) : Int)))))) [] (Obn rfl (fun _ => hb_lss (k := .i64))) ?_
                            rcases tf_ (decide (y17_14 < ((List.length r62_8.1 : Nat) : Int))) with hq150_16 | hq150_16
                            · replace hm := cT hq150_16 hm
                              refine Wy (.d (.lit (.bool true))) [] (Ocs (lit_tf (b := decide (y17_14 < ((List.length r62_8.1 : Nat) : Int))) hq150_16) (Omv rfl)) ?_
                              refine Wy (.own 3) [] (Omv rfl) ?_
                              refine Wy (.d (.lit (.int .i64 y17_14))) [] (Omv rfl) ?_
                              obtain ⟨x153_16, hx153_16, hm⟩ := bnd hm
                              obtain ⟨hx153_16i, hx153_16g⟩ := geti_some hx153_16
                              refine Wy (.loc 3 ((Int.toNat y17_14) * 5)) [] (Oia rfl enc_GEvent_len hx153_16i hx153_16g) ?_
                              refine Wy (.loc 3 ((Int.toNat y17_14) * 5)) [] (Ofa rfl) ?_
                              refine Wy (.d (.lit (.int .i64 x153_16.Time))) [] (Lr1 rfl enc_GEvent_len hx153_16g) ?_
                              refine Wy (.loc 0 0) [] (Ocs (by kernel_rfl) (op_iaddr_arr rfl (n := 2) (sz := 1) (y := (.loc 0 0)) (by kernel_rfl) (by kernel_rfl) (by kernel_rfl) (k := .i64) (iv := 0) (by kernel_rfl) (i := 0) (by rfl) (by decide))) ?_
                              refine Wy (.d (.lit (.int .i64 p1.a0))) [] (Old rfl) ?_
                              refine Wy (.d (.lit (.bool (decide (p1.a0 ≤ x153_16.Time))))) [] (Obn rfl (fun _ => hb_geq (k := .i64))) ?_
                              refine Wy (.d (.lit (.bool (decide (p1.a0 ≤ x153_16.Time))))) [] (OpT rfl) ?_
                              refine Wy (.d (.lit (.bool (decide (p1.a0 ≤ x153_16.Time))))) [] (OpF rfl) ?_
                              rcases tf_ (decide (p1.a0 ≤ x153_16.Time)) with hq161_16 | hq161_16
                              · replace hm := cT hq161_16 hm
                                refine Wy (.d (.lit (.bool true))) [] (Ocs (lit_tf (b := decide (p1.a0 ≤ x153_16.Time)) hq161_16) (Omv rfl)) ?_
                                refine Wn ?_
                                refine Wn ?_
                                refine Wn ?_
                                refine Wn ?_
                                refine Wn ?_
                                refine Wn ?_
                                refine Wn ?_
                                refine Wn ?_
                                refine Wn ?_
                                refine Wn ?_
                                refine Wn ?_
                                refine Wn ?_
                                refine Wn ?_
                                refine Wn ?_
                                refine Wy (.d (.lit (.bool true))) [] (OpT rfl) ?_
                                refine Wdr ?_
                                refine Then.normal ?_
                                exact AWP.weak (Weak.toK 95780971304118053647396689196894323976171195136697352 0 0 [0, 1, 2, 3, 4]) (J17 () hm)
                              · replace hm := cF hq161_16 hm
                                refine Wy (.d (.lit (.bool false))) [] (Ocs (lit_tf (b := decide (p1.a0 ≤ x153_16.Time)) hq161_16) (Omv rfl)) ?_
                                refine Wy (.d (.lit (.int .i64 y17_14))) [] (Omv rfl) ?_
                                refine Wy (.own 1) [] (Omv rfl) ?_
                                refine Wy (.d (.lit (.int .i64 ((List.length r62_8.1 : Nat) : Int)))) [] (Oln rfl) ?_
                                refine Wy (.d (.lit (.bool (decide (((List.length r62_8.1 : Nat) : Int) ≤ y17_14))))) [] (Obn rfl (fun _ => hb_geq (k := .i64))) ?_
                                rcases tf_ (decide (((List.length r62_8.1 : Nat) : Int) ≤ y17_14)) with hq166_16 | hq166_16
                                · replace hm := cT hq166_16 hm
                                  refine Wy (.d (.lit (.bool true))) [] (Ocs (lit_tf (b := decide (((List.length r62_8.1 : Nat) : Int) ≤ y17_14)) hq166_16) (Omv rfl)) ?_
                                  refine Wy (.own 3) [] (Omv rfl) ?_
                                  refine Wy (.d (.lit (.int .i64 y17_14))) [] (Omv rfl) ?_
                                  obtain ⟨x169_16, hx169_16, hm⟩ := bnd hm
                                  obtain ⟨hx169_16i, hx169_16g⟩ := geti_some hx169_16
                                  refine Wy (.loc 3 ((Int.toNat y17_14) * 5)) [] (Oia rfl enc_GEvent_len hx169_16i hx169_16g) ?_
                                  refine Wy (.loc 3 ((Int.toNat y17_14) * 5)) [] (Ofa rfl) ?_
                                  refine Wy (.d (.lit (.int .i64 x169_16.Time))) [] (Lr1 rfl enc_GEvent_len hx169_16g) ?_
                                  refine Wy (.loc 0 0) [] (Ocs (by kernel_rfl) (op_iaddr_arr rfl (n := 2) (sz := 1) (y := (.loc 0 0)) (by kernel_rfl) (by kernel_rfl) (by kernel_rfl) (k := .i64) (iv := 0) (by kernel_rfl) (i := 0) (by rfl) (by decide))) ?_
                                  refine Wy (.d (.lit (.int .i64 p1.a0))) [] (Old rfl) ?_
                                  refine Wy (.d (.lit (.bool (decide (x169_16.Time < p1.a0))))) [] (Obn rfl (fun _ => hb_lss (k := .i64))) ?_
                                  refine Wy (.d (.lit (.bool (decide (x169_16.Time < p1.a0))))) [] (OpT rfl) ?_
                                  refine Wy (.d (.lit (.bool (decide (x169_16.Time < p1.a0))))) [] (OpF rfl) ?_
                                  refine Wdr ?_
                                  refine Then.normal ?_
                                  exact AWP.weak (Weak.toK 95780971304118053647396689196894323976171195136697352 0 0 [0, 1, 2, 3, 4]) (J18 (decide (x169_16.Time < p1.a0)) hm)
                                · replace hm := cF hq166_16 hm
                                  refine Wy (.d (.lit (.bool false))) [] (Ocs (lit_tf (b := decide (((List.length r62_8.1 : Nat) : Int) ≤ y17_14)) hq166_16) (Omv rfl)) ?_
                                  refine Wn ?_
                                  refine Wn ?_
                                  refine Wn ?_
                                  refine Wn ?_
                                  refine Wn ?_
                                  refine Wn ?_
                                  refine Wn ?_
                                  refine Wn ?_
                                  refine Wy (.d (.lit (.bool false))) [] (OpF rfl) ?_
                                  refine Wy (.d (.lit (.bool false))) [] (OpF rfl) ?_
                                  refine Wdr ?_
                                  refine Then.normal ?_
                                  exact AWP.weak (Weak.toK 95780971304118053647396689196894323976171195136697352 0 0 [0, 1, 2, 3, 4]) (J19 () hm)
                            · replace hm := cF hq150_16 hm
                              refine Wy (.d (.lit (.bool false))) [] (Ocs (lit_tf (b := decide (y17_14 < ((List.length r62_8.1 : Nat) : Int))) hq150_16) (Omv rfl)) ?_
                              refine Wn ?_
                              refine Wn ?_
                              refine Wn ?_
                              refine Wn ?_
                              refine Wn ?_
                              refine Wn ?_
                              refine Wn ?_
                              refine Wn ?_
                              refine Wy (.d (.lit (.bool false))) [] (OpF rfl) ?_
                              refine Wy (.d (.lit (.bool false))) [] (OpF rfl) ?_
                              refine Wy (.d (.lit (.bool false))) [] (Omv rfl) ?_
                              refine Wy (.d (.lit (.int .i64 y17_14))) [] (Omv rfl) ?_
                              refine Wy (.own 1) [] (Omv rfl) ?_
                              refine Wy (.d (.lit (.int .i64 ((List.length r62_8.1 : Nat) : Int)))) [] (Oln rfl) ?_
                              refine Wy (.d (.lit (.bool (decide (((List.length r62_8.1 : Nat) : Int) ≤ y17_14))))) [] (Obn rfl (fun _ => hb_geq (k := .i64))) ?_
                              rcases tf_ (decide (((List.length r62_8.1 : Nat) : Int) ≤ y17_14)) with hq166_16 | hq166_16
                              · replace hm := cT hq166_16 hm
                                refine Wy (.d (.lit (.bool true))) [] (Ocs (lit_tf (b := decide (((List.length r62_8.1 : Nat) : Int) ≤ y17_14)) hq166_16) (Omv rfl)) ?_
                                refine Wy (.own 3) [] (Omv rfl) ?_
                                refine Wy (.d (.lit (.int .i64 y17_14))) [] (Omv rfl) ?_
                                obtain ⟨x169_16, hx169_16, hm⟩ := bnd hm
                                obtain ⟨hx169_16i, hx169_16g⟩ := geti_some hx169_16
                                refine Wy (.loc 3 ((Int.toNat y17_14) * 5)) [] (Oia rfl enc_GEvent_len hx169_16i hx169_16g) ?_
                                refine Wy (.loc 3 ((Int.toNat y17_14) * 5)) [] (Ofa rfl) ?_
                                refine Wy (.d (.lit (.int .i64 x169_16.Time))) [] (Lr1 rfl enc_GEvent_len hx169_16g) ?_
                                refine Wy (.loc 0 0) [] (Ocs (by kernel_rfl) (op_iaddr_arr rfl (n := 2) (sz := 1) (y := (.loc 0 0)) (by kernel_rfl) (by kernel_rfl) (by kernel_rfl) (k := .i64) (iv := 0) (by kernel_rfl) (i := 0) (by rfl) (by decide))) ?_
                                refine Wy (.d (.lit (.int .i64 p1.a0))) [] (Old rfl) ?_
                                refine Wy (.d (.lit (.bool (decide (x169_16.Time < p1.a0))))) [] (Obn rfl (fun _ => hb_lss (k := .i64))) ?_
                                refine Wy (.d (.lit (.bool (decide (x169_16.Time < p1.a0))))) [] (OpT rfl) ?_
                                refine Wy (.d (.lit (.bool (decide (x169_16.Time < p1.a0))))) [] (OpF rfl) ?_
                                refine Wdr ?_
                                refine Then.normal ?_
                                exact AWP.weak (Weak.toK 95780971304118053647396689196894323976171195136697352 0 0 [0, 1, 2, 3, 4]) (J18 (decide (x169_16.Time < p1.a0)) hm)
                              · replace hm := cF hq166_16 hm
                                refine Wy (.d (.lit (.bool false))) [] (Ocs (lit_tf (b := decide (((List.length r62_8.1 : Nat) : Int) ≤ y17_14)) hq166_16) (Omv rfl)) ?_
                                refine Wn ?_
                                refine Wn ?_
                                refine Wn ?_
                                refine Wn ?_
                                refine Wn ?_
                                refine Wn ?_
                                refine Wn ?_
                                refine Wn ?_
                                refine Wy (.d (.lit (.bool false))) [] (OpF rfl) ?_
                                refine Wy (.d (.lit (.bool false))) [] (OpF rfl) ?_
                                refine Wdr ?_
                                refine Then.normal ?_
                                exact AWP.weak (Weak.toK 95780971304118053647396689196894323976171195136697352 0 0 [0, 1, 2, 3, 4]) (J19 () hm)
                      · replace hm := cF hc122_26 hm
                        refine AWP.if_ false (Eq.trans (by kernel_rfl) (lit_tf (b := decide (y17_14 < ((List.length r76_10.1 : Nat) : Int))) hc122_26)) ?_
                        refine AWP.exit ?_
                        refine Then.exit ?_
                        refine RoundK.exit ?_
                        refine InBlock.same ?_
                        refine Then.normal ?_
                        refine Amk 8200 5 ⟨(tp 3 ((.loc 0 0) :: (tp 9 ((.loc 2 0) :: (tp 187 []))))), [(.box [(.d (.lit (.int .i64 p1.a0))), (.d (.lit (.int .i64 p1.a1)))]), .gone, (.box [(.d (.lit (.int .i64 r69_9.2.Cap))), (.d (.sl (List.length r69_9.2.L) (flatD enc_GEvent r69_9.2.L)))]), .gone, .gone], 0⟩ ?_
                        refine AWP.seq ?_
                        refine AWP.text ?_
                        refine Wy (.agg [(.d (.lit (.int .i64 r69_9.2.Cap))), (.d (.sl (List.length r69_9.2.L) (flatD enc_GEvent r69_9.2.L)))]) [] (Old rfl) ?_
                        obtain ⟨r179_20, hr179_20, hm⟩ := bnd hm
                        refine Wy (.tup [(.d (.lit (.int .i64 r179_20.1))), (.d (.lit (.bool r179_20.2)))]) [] (Ocf [] [] [] 0 (ok_sorter_Sorter_Least r69_9.2 r179_20 hr179_20) (fun a w => Try.call18 a w) rfl trivial) ?_
                        refine Wy (.tup [(.d (.lit (.int .i64 r179_20.1))), (.d (.lit (.bool r179_20.2)))]) [] (Omv rfl) ?_
                        refine Wy (.d (.lit (.int .i64 r179_20.1))) [] (Oex rfl) ?_
                        refine Wy (.d (.lit (.bool r179_20.2))) [] (Oex rfl) ?_
                        refine Wy (.d (.lit (.int .i64 r179_20.1))) [] (Omv rfl) ?_
                        refine Wy (.d (.lit (.bool r179_20.2))) [] (Omv rfl) ?_
                        refine Walk.nil ?_
                        refine Then.normal ?_
                        refine Amk 794632 5 ⟨(tp 3 ((.loc 0 0) :: (tp 9 ((.loc 2 0) :: (tp 4 ((.d (.lit (.int .i64 r179_20.1))) :: ((.d (.lit (.bool r179_20.2))) :: (tp 181 [])))))))), [(.box [(.d (.lit (.int .i64 p1.a0))), (.d (.lit (.int .i64 p1.a1)))]), .gone, (.box [(.d (.lit (.int .i64 r69_9.2.Cap))), (.d (.sl (List.length r69_9.2.L) (flatD enc_GEvent r69_9.2.L)))]), .gone, .gone], 0⟩ ?_
                        refine AWP.seq ?_
                        refine AWP.text ?_
                        refine Wy (.d (.lit (.bool r179_20.2))) [] (Omv rfl) ?_
                        refine Wy (.d (.lit (.bool (!r179_20.2)))) [] (Ocs (by kernel_rfl) (op_un rfl (a1 := .bool r179_20.2) (by kernel_rfl) (fun _ => hu_not))) ?_
                        rcases tf_ (!r179_20.2) with hq184_21 | hq184_21
                        · replace hm := cT hq184_21 hm
                          refine Wy (.d (.lit (.bool true))) [] (Ocs (lit_tf (b := (!r179_20.2)) hq184_21) (Omv rfl)) ?_
                          refine Wn ?_
                          refine Wn ?_
                          refine Wn ?_
                          refine Wn ?_
                          refine Wy (.d (.lit (.bool true))) [] (OpT rfl) ?_
                          refine Wy (.d (.lit (.bool true))) [] (Omv rfl) ?_
                          refine Wy (.d (.lit (.bool r179_20.2))) [] (Omv rfl) ?_
                          refine Wy (.loc 2 1) [] (Ofa rfl) ?_
                          refine Wy (.d (.sl (List.length r69_9.2.L) (flatD enc_GEvent r69_9.2.L))) [] (Old rfl) ?_
                          refine Wy (.d (.lit (.int .i64 ((List.length r69_9.2.L : Nat) : Int)))) [] (Oln rfl) ?_
                          refine Wy (.d (.lit (.bool (decide ((0 : Int) < ((List.length r69_9.2.L : Nat) : Int)))))) [] (Obn rfl (fun _ => hb_gtr (k := .i64))) ?_
                          refine Wy (.d (.lit (.bool (decide (r179_20.2 = decide ((0 : Int) < ((List.length r69_9.2.L : Nat) : Int))))))) [] (Ocs (by kernel_rfl) (op_bin rfl (a1 := .bool r179_20.2) (a2 := .bool (decide ((0 : Int) < ((List.length r69_9.2.L : Nat) : Int)))) (by kernel_rfl) (by kernel_rfl) (fun _ => hb_beql (by kernel_rfl)))) ?_
                          refine Wy (.d (.lit (.bool (decide (r179_20.2 = decide ((0 : Int) < ((List.length r69_9.2.L : Nat) : Int))))))) [] (OpT rfl) ?_
                          rcases tf_ (decide (r179_20.2 = decide ((0 : Int) < ((List.length r69_9.2.L : Nat) : Int)))) with hq198_21 | hq198_21
                          · replace hm := cT hq198_21 hm
                            refine Wy (.d (.lit (.bool true))) [] (Ocs (lit_tf (b := decide (r179_20.2 = decide ((0 : Int) < ((List.length r69_9.2.L : Nat) : Int)))) hq198_21) (Omv rfl)) ?_
                            obtain ⟨r199_21, hr199_21, hm⟩ := bnd hm
                            refine Wy (.d (.lit (.bool r199_21))) [] (Ocf [] [] [] 0 (ok_telltalelaw24_awake  r199_21 hr199_21) (fun a w => Try.call7 a w) rfl trivial) ?_
                            refine Wy (.d (.lit (.bool r199_21))) [] (OpT rfl) ?_
                            refine Wy (.d (.lit (.bool r199_21))) [] (Omv rfl) ?_
                            refine Walk.nil ?_
                            refine Then.normal ?_
                            refine AWP.ret ?_
                            obtain rfl := Option.some.inj hm
                            exact ret_i []
                          · replace hm := cF hq198_21 hm
                            refine Wy (.d (.lit (.bool false))) [] (Ocs (lit_tf (b := decide (r179_20.2 = decide ((0 : Int) < ((List.length r69_9.2.L : Nat) : Int)))) hq198_21) (Omv rfl)) ?_
                            refine Wn ?_
                            refine Wy (.d (.lit (.bool false))) [] (OpF rfl) ?_
                            refine Wy (.d (.lit (.bool false))) [] (Omv rfl) ?_
                            refine Walk.nil ?_
                            refine Then.normal ?_
                            refine AWP.ret ?_
                            obtain rfl := Option.some.inj hm
                            exact ret_i []
                        · replace hm := cF hq184_21 hm
                          refine Wy (.d (.lit (.bool false))) [] (Ocs (lit_tf (b := (!r179_20.2)) hq184_21) (Omv rfl)) ?_
                          refine Wy (.d (.lit (.int .i64 r179_20.1))) [] (Omv rfl) ?_
                          refine Wy (.loc 0 1) [] (Ocs (by kernel_rfl) (op_iaddr_arr rfl (n := 2) (sz := 1) (y := (.loc 0 0)) (by kernel_rfl) (by kernel_rfl) (by kernel_rfl) (k := .i64) (iv := 1) (by kernel_rfl) (i := 1) (by rfl) (by decide))) ?_
                          refine Wy (.d (.lit (.int .i64 p1.a1))) [] (Old rfl) ?_
                          refine Wy (.d (.lit (.bool (decide (p1.a1 ≤ r179_20.1))))) [] (Obn rfl (fun _ => hb_geq (k := .i64))) ?_
                          refine Wy (.d (.lit (.bool (decide (p1.a1 ≤ r179_20.1))))) [] (OpF rfl) ?_
                          rcases tf_ (decide (p1.a1 ≤ r179_20.1)) with hq190_21 | hq190_21
                          · replace hm := cT hq190_21 hm
                            refine Wy (.d (.lit (.bool true))) [] (Ocs (lit_tf (b := decide (p1.a1 ≤ r179_20.1)) hq190_21) (Omv rfl)) ?_
                            refine Wy (.d (.lit (.bool r179_20.2))) [] (Omv rfl) ?_
                            refine Wy (.loc 2 1) [] (Ofa rfl) ?_
                            refine Wy (.d (.sl (List.length r69_9.2.L) (flatD enc_GEvent r69_9.2.L))) [] (Old rfl) ?_
                            refine Wy (.d (.lit (.int .i64 ((List.length r69_9.2.L : Nat) : Int)))) [] (Oln rfl) ?_
                            refine Wy (.d (.lit (.bool (decide ((0 : Int) < ((List.length r69_9.2.L : Nat) : Int)))))) [] (Obn rfl (fun _ => hb_gtr (k := .i64))) ?_
                            refine Wy (.d (.lit (.bool (decide (r179_20.2 = decide ((0 : Int) < ((List.length r69_9.2.L : Nat) : Int))))))) [] (Ocs (by kernel_rfl) (op_bin rfl (a1 := .bool r179_20.2) (a2 := .bool (decide ((0 : Int) < ((List.length r69_9.2.L : Nat) : Int)))) (by kernel_rfl) (by kernel_rfl) (fun _ => hb_beql (by kernel_rfl)))) ?_
                            refine Wy (.d (.lit (.bool (decide (r179_20.2 = decide ((0 : Int) < ((List.length r69_9.2.L : Nat) : Int))))))) [] (OpT rfl) ?_
                            rcases tf_ (decide (r179_20.2 = decide ((0 : Int) < ((List.length r69_9.2.L : Nat) : Int)))) with hq198_21 | hq198_21
                            · replace hm := cT hq198_21 hm
                              refine Wy (.d (.lit (.bool true))) [] (Ocs (lit_tf (b := decide (r179_20.2 = decide ((0 : Int) < ((List.length r69_9.2.L : Nat) : Int)))) hq198_21) (Omv rfl)) ?_
                              obtain ⟨r199_21, hr199_21, hm⟩ := bnd hm
                              refine Wy (.d (.lit (.bool r199_21))) [] (Ocf [] [] [] 0 (ok_telltalelaw24_awake  r199_21 hr199_21) (fun a w => Try.call7 a w) rfl trivial) ?_
                              refine Wy (.d (.lit (.bool r199_21))) [] (OpT rfl) ?_
                              refine Wy (.d (.lit (.bool r199_21))) [] (Omv rfl) ?_
                              refine Walk.nil ?_
                              refine Then.normal ?_
                              refine AWP.ret ?_
                              obtain rfl := Option.some.inj hm
                              exact ret_i []
                            · replace hm := cF hq198_21 hm
                              refine Wy (.d (.lit (.bool false))) [] (Ocs (lit_tf (b := decide (r179_20.2 = decide ((0 : Int) < ((List.length r69_9.2.L : Nat) : Int)))) hq198_21) (Omv rfl)) ?_
                              refine Wn ?_
                              refine Wy (.d (.lit (.bool false))) [] (OpF rfl) ?_
                              refine Wy (.d (.lit (.bool false))) [] (Omv rfl) ?_
                              refine Walk.nil ?_
                              refine Then.normal ?_
                              refine AWP.ret ?_
                              obtain rfl := Option.some.inj hm
                              exact ret_i []
                          · replace hm := cF hq190_21 hm
                            refine Wy (.d (.lit (.bool false))) [] (Ocs (lit_tf (b := decide (p1.a1 ≤ r179_20.1)) hq190_21) (Omv rfl)) ?_
                            refine Wn ?_
                            refine Wn ?_
                            refine Wn ?_
                            refine Wn ?_
                            refine Wn ?_
                            refine Wn ?_
                            refine Wy (.d (.lit (.bool false))) [] (OpF rfl) ?_
                            refine Wy (.d (.lit (.bool false))) [] (Omv rfl) ?_
                            refine Wn ?_
                            refine Wy (.d (.lit (.bool false))) [] (OpF rfl) ?_
                            refine Wy (.d (.lit (.bool false))) [] (Omv rfl) ?_
                            refine Walk.nil ?_
                            refine Then.normal ?_
                            refine AWP.ret ?_
                            obtain rfl := Option.some.inj hm
                            exact ret_i []
end Go.Proofs.Ytanahlngkociaaa.K
