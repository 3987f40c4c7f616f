/- each function computes what its model says (6) -/
import Derived.Test.YtanahlngkociaaaL5
namespace Go.Proofs.Ytanahlngkociaaa.K
open Go.RowKit Go.Lib
set_option linter.unusedVariables false
set_option linter.unusedSimpArgs false

set_option maxRecDepth 20000 in
set_option maxHeartbeats 4000000 in
theorem ok_telltalelaw24_SorterDoes (p0 : Int) (p1 : (List GOp)) (r : Bool) (h : m_telltalelaw24_SorterDoes p0 p1 = some r) : GCall Try.prog 3 [(.d (.lit (.int .i64 p0))), (.d (.sl (List.length p1) (flatD enc_GOp p1)))] [] (.d (.lit (.bool r))) [] := by
  refine GCall.of_body (n := 147) (rs := [(.tmp 4)]) Try.func3 rfl rfl rfl ?_
  refine Ato ⟨((.d (.lit (.int .i64 p0))) :: ((.d (.sl (List.length p1) (flatD enc_GOp p1))) :: (tu 145 []))), [], 0⟩ ?_
  have hm := h
  unfold m_telltalelaw24_SorterDoes at hm
  refine AWP.seq ?_
  refine AWP.text ?_
  refine Wy (.d (.lit (.bool false))) [] (Omv rfl) ?_
  refine Walk.nil ?_
  refine Then.normal ?_
  refine Amk 3 0 ⟨((.d (.lit (.int .i64 p0))) :: ((.d (.sl (List.length p1) (flatD enc_GOp p1))) :: (tp 145 []))), [], 0⟩ ?_
  refine AWP.seq ?_
  refine AWP.seq ?_
  refine AWP.text ?_
  refine Wy (.d (.sl (List.length p1) (flatD enc_GOp p1))) [] (Omv rfl) ?_
  refine Wy (.d (.lit (.int .i64 ((List.length p1 : Nat) : Int)))) [] (Oln rfl) ?_
  refine Wy (.d (.lit (.bool (decide ((20 : Int) < ((List.length p1 : Nat) : Int)))))) [] (Obn rfl (fun _ => hb_gtr (k := .i64))) ?_
  refine Walk.nil ?_
  refine Then.normal ?_
  refine Amk 16777219 0 ⟨((.d (.lit (.int .i64 p0))) :: ((.d (.sl (List.length p1) (flatD enc_GOp p1))) :: (tp 22 ((.d (.lit (.bool (decide ((20 : Int) < ((List.length p1 : Nat) : Int)))))) :: (tp 122 []))))), [], 0⟩ ?_
  rcases tf_ (decide ((20 : Int) < ((List.length p1 : Nat) : Int))) with hc24_20 | hc24_20
  · replace hm := cT hc24_20 hm
    refine AWP.if_ true (Eq.trans (by kernel_rfl) (lit_tf (b := decide ((20 : Int) < ((List.length p1 : Nat) : Int))) hc24_20)) ?_
    refine AWP.seq ?_
    refine AWP.text ?_
    obtain ⟨r25_1, hr25_1, hm⟩ := bnd hm
    refine Wy (.d (.lit (.bool r25_1))) [] (Ocf [] [] [] 0 (ok_telltalelaw24_awake  r25_1 hr25_1) (fun a w => Try.call7 a w) rfl trivial) ?_
    refine Wy (.d (.lit (.bool r25_1))) [] (Omv rfl) ?_
    refine Walk.nil ?_
    refine Then.normal ?_
    refine AWP.ret ?_
    refine Then.ret ?_
    obtain rfl := Option.some.inj hm
    exact ret_i []
  · replace hm := cF hc24_20 hm
    refine AWP.if_ false (Eq.trans (by kernel_rfl) (lit_tf (b := decide ((20 : Int) < ((List.length p1 : Nat) : Int))) hc24_20)) ?_
    refine AWP.skip ?_
    refine Then.normal ?_
    refine Amk 3 0 ⟨((.d (.lit (.int .i64 p0))) :: ((.d (.sl (List.length p1) (flatD enc_GOp p1))) :: (tp 145 []))), [], 0⟩ ?_
    refine AWP.seq ?_
    refine AWP.text ?_
    refine Wy (.d (.lit (.int .i64 p0))) [] (Omv rfl) ?_
    obtain ⟨r28_2, hr28_2, hm⟩ := bnd hm
    refine Wy (.tup [(.agg [(.d (.lit (.int .i64 r28_2.1.Cap))), (.d (.sl (List.length r28_2.1.L) (flatD enc_GEvent r28_2.1.L)))]), (.d (.lit (.int .i64 r28_2.2)))]) [] (Ocf [] [] [] 0 (ok_sorter_New p0 r28_2 hr28_2) (fun a w => Try.call8 a w) rfl trivial) ?_
    refine Wy (.tup [(.agg [(.d (.lit (.int .i64 r28_2.1.Cap))), (.d (.sl (List.length r28_2.1.L) (flatD enc_GEvent r28_2.1.L)))]), (.d (.lit (.int .i64 r28_2.2)))]) [] (Omv rfl) ?_
    refine Wy (.agg [(.d (.lit (.int .i64 r28_2.1.Cap))), (.d (.sl (List.length r28_2.1.L) (flatD enc_GEvent r28_2.1.L)))]) [] (Oex rfl) ?_
    refine Wy (.d (.lit (.int .i64 r28_2.2))) [] (Oex rfl) ?_
    refine Wy (.loc 0 0) [(0, (.box [(.d (.lit (.int .i64 0))), (.d .nil)]))] (Oal rfl) ?_
    refine Wy (.tup []) [(0, (.box [(.d (.lit (.int .i64 r28_2.1.Cap))), (.d (.sl (List.length r28_2.1.L) (flatD enc_GEvent r28_2.1.L)))]))] (Ost rfl) ?_
    refine Wy (.d (.lit (.int .i64 r28_2.2))) [] (Omv rfl) ?_
    refine Walk.nil ?_
    refine Then.normal ?_
    refine Amk 99 1 ⟨((.d (.lit (.int .i64 p0))) :: ((.d (.sl (List.length p1) (flatD enc_GOp p1))) :: (tp 3 ((.loc 0 0) :: ((.d (.lit (.int .i64 r28_2.2))) :: (tp 140 [])))))), [(.box [(.d (.lit (.int .i64 r28_2.1.Cap))), (.d (.sl (List.length r28_2.1.L) (flatD enc_GEvent r28_2.1.L)))])], 0⟩ ?_
    refine AWP.seq ?_
    refine AWP.text ?_
    refine Wy (.d (.lit (.int .i64 p0))) [] (Omv rfl) ?_
    obtain ⟨r33_3, hr33_3, hm⟩ := bnd hm
    refine Wy (.tup [(.agg [(.d (.lit (.int .i64 r33_3.1.Cap))), (.d (.sl (List.length r33_3.1.L) (flatD enc_GEvent r33_3.1.L)))]), (.d (.lit (.int .i64 r33_3.2)))]) [] (Ocf [] [] [] 0 (ok_telltaleref24_New p0 r33_3 hr33_3) (fun a w => Try.call9 a w) rfl trivial) ?_
    refine Wy (.tup [(.agg [(.d (.lit (.int .i64 r33_3.1.Cap))), (.d (.sl (List.length r33_3.1.L) (flatD enc_GEvent r33_3.1.L)))]), (.d (.lit (.int .i64 r33_3.2)))]) [] (Omv rfl) ?_
    refine Wy (.agg [(.d (.lit (.int .i64 r33_3.1.Cap))), (.d (.sl (List.length r33_3.1.L) (flatD enc_GEvent r33_3.1.L)))]) [] (Oex rfl) ?_
    refine Wy (.d (.lit (.int .i64 r33_3.2))) [] (Oex rfl) ?_
    refine Wy (.loc 1 0) [(1, (.box [(.d (.lit (.int .i64 0))), (.d .nil)]))] (Oal rfl) ?_
    refine Wy (.tup []) [(1, (.box [(.d (.lit (.int .i64 r33_3.1.Cap))), (.d (.sl (List.length r33_3.1.L) (flatD enc_GEvent r33_3.1.L)))]))] (Ost rfl) ?_
    refine Wy (.d (.lit (.int .i64 r33_3.2))) [] (Omv rfl) ?_
    refine Walk.nil ?_
    refine Then.normal ?_
    refine Amk 482 3 ⟨(tp 1 ((.d (.sl (List.length p1) (flatD enc_GOp p1))) :: (tp 3 ((.loc 0 0) :: ((.d (.lit (.int .i64 r28_2.2))) :: ((.loc 1 0) :: ((.d (.lit (.int .i64 r33_3.2))) :: (tp 138 [])))))))), [(.box [(.d (.lit (.int .i64 r28_2.1.Cap))), (.d (.sl (List.length r28_2.1.L) (flatD enc_GEvent r28_2.1.L)))]), (.box [(.d (.lit (.int .i64 r33_3.1.Cap))), (.d (.sl (List.length r33_3.1.L) (flatD enc_GEvent r33_3.1.L)))])], 0⟩ ?_
    refine AWP.seq ?_
    refine AWP.seq ?_
    refine AWP.text ?_
    refine Wy (.d (.lit (.int .i64 r28_2.2))) [] (Omv rfl) ?_
    refine Wy (.d (.lit (.int .i64 r33_3.2))) [] (Omv rfl) ?_
    refine Wy (.d (.lit (.bool (decide (r28_2.2 ≠ r33_3.2))))) [] (Obn rfl (fun _ => hb_neq (k := .i64))) ?_
    refine Walk.nil ?_
    refine Then.normal ?_
    refine Amk 274877907106 3 ⟨(tp 1 ((.d (.sl (List.length p1) (flatD enc_GOp p1))) :: (tp 3 ((.loc 0 0) :: (tp 1 ((.loc 1 0) :: (tp 30 ((.d (.lit (.bool (decide (r28_2.2 ≠ r33_3.2))))) :: (tp 108 []))))))))), [(.box [(.d (.lit (.int .i64 r28_2.1.Cap))), (.d (.sl (List.length r28_2.1.L) (flatD enc_GEvent r28_2.1.L)))]), (.box [(.d (.lit (.int .i64 r33_3.1.Cap))), (.d (.sl (List.length r33_3.1.L) (flatD enc_GEvent r33_3.1.L)))])], 0⟩ ?_
    rcases tf_ (decide (r28_2.2 ≠ r33_3.2)) with hc38_21 | hc38_21
    · replace hm := cT hc38_21 hm
      refine AWP.if_ true (Eq.trans (by kernel_rfl) (lit_tf (b := decide (r28_2.2 ≠ r33_3.2)) hc38_21)) ?_
      refine AWP.seq ?_
      refine AWP.text ?_
      refine Wy (.d (.lit (.bool false))) [] (Omv rfl) ?_
      refine Walk.nil ?_
      refine Then.normal ?_
      refine AWP.ret ?_
      refine Then.ret ?_
      obtain rfl := Option.some.inj hm
      exact ret_i []
    · replace hm := cF hc38_21 hm
      refine AWP.if_ false (Eq.trans (by kernel_rfl) (lit_tf (b := decide (r28_2.2 ≠ r33_3.2)) hc38_21)) ?_
      refine AWP.skip ?_
      refine Then.normal ?_
      refine Amk 162 3 ⟨(tp 1 ((.d (.sl (List.length p1) (flatD enc_GOp p1))) :: (tp 3 ((.loc 0 0) :: (tp 1 ((.loc 1 0) :: (tp 139 []))))))), [(.box [(.d (.lit (.int .i64 r28_2.1.Cap))), (.d (.sl (List.length r28_2.1.L) (flatD enc_GEvent r28_2.1.L)))]), (.box [(.d (.lit (.int .i64 r33_3.1.Cap))), (.d (.sl (List.length r33_3.1.L) (flatD enc_GEvent r33_3.1.L)))])], 0⟩ ?_
      refine AWP.seq ?_
      refine AWP.seq ?_
      refine AWP.text ?_
      refine Wy (.d (.lit (.int .i64 0))) [] (Omv rfl) ?_
      refine Walk.nil ?_
      refine Then.normal ?_
      refine Amk 674 3 ⟨(tp 1 ((.d (.sl (List.length p1) (flatD enc_GOp p1))) :: (tp 3 ((.loc 0 0) :: (tp 1 ((.loc 1 0) :: (tp 1 ((.d (.lit (.int .i64 0))) :: (tp 137 []))))))))), [(.box [(.d (.lit (.int .i64 r28_2.1.Cap))), (.d (.sl (List.length r28_2.1.L) (flatD enc_GEvent r28_2.1.L)))]), (.box [(.d (.lit (.int .i64 r33_3.1.Cap))), (.d (.sl (List.length r33_3.1.L) (flatD enc_GEvent r33_3.1.L)))])], 0⟩ ?_
      refine AWP.block ?_
      refine AWP.loopI (α := Nat × GSorter × GSorter × Int)
        (fun x => match x with | (fu_4, y5_d_4, y7_d_4, y9_4) => (⟨(tp 1 ((.d (.sl (List.length p1) (flatD enc_GOp p1))) :: (tp 3 ((.loc 0 0) :: (tp 1 ((.loc 1 0) :: (tp 1 ((.d (.lit (.int .i64 y9_4))) :: (tp 137 []))))))))), [(.box [(.d (.lit (.int .i64 y5_d_4.Cap))), (.d (.sl (List.length y5_d_4.L) (flatD enc_GEvent y5_d_4.L)))]), (.box [(.d (.lit (.int .i64 y7_d_4.Cap))), (.d (.sl (List.length y7_d_4.L) (flatD enc_GEvent y7_d_4.L)))])], 0⟩ : St))
        (fun x => match x with | (fu_4, y5_d_4, y7_d_4, y9_4) => m_telltalelaw24_SorterDoes_l4 p1 fu_4 y5_d_4 y7_d_4 y9_4 = some r)
        (fun x => match x with | (fu_4, y5_d_4, y7_d_4, y9_4) => fu_4) (1152921504606846976, r28_2.1, r33_3.1, 0)
        (Weak.toK 674 0 0 [0, 1]) hm ?_
      rintro ⟨fu_4, y5_d_4, y7_d_4, y9_4⟩ n_4 hm ih_4
      try dsimp only at hm ih_4 ⊢
      cases fu_4 with
      | zero => exact absurd hm (by unfold m_telltalelaw24_SorterDoes_l4; simp)
      | succ fu_4 =>
        unfold m_telltalelaw24_SorterDoes_l4 at hm
        refine AWP.seq ?_
        refine AWP.seq ?_
        refine AWP.text ?_
        refine Wy (.d (.lit (.int .i64 y9_4))) [] (Omv rfl) ?_
        refine Wy (.d (.sl (List.length p1) (flatD enc_GOp p1))) [] (Omv rfl) ?_
        refine Wy (.d (.lit (.int .i64 ((List.length p1 : Nat) : Int)))) [] (Oln rfl) ?_
        refine Wy (.d (.lit (.bool (decide (y9_4 < ((List.length p1 : Nat) : Int)))))) [] (Obn rfl (fun _ => hb_lss (k := .i64))) ?_
        refine Walk.nil ?_
        refine Then.normal ?_
        refine Amk 4398046511778 3 ⟨(tp 1 ((.d (.sl (List.length p1) (flatD enc_GOp p1))) :: (tp 3 ((.loc 0 0) :: (tp 1 ((.loc 1 0) :: (tp 1 ((.d (.lit (.int .i64 y9_4))) :: (tp 32 ((.d (.lit (.bool (decide (y9_4 < ((List.length p1 : Nat) : Int)))))) :: (tp 104 []))))))))))), [(.box [(.d (.lit (.int .i64 y5_d_4.Cap))), (.d (.sl (List.length y5_d_4.L) (flatD enc_GEvent y5_d_4.L)))]), (.box [(.d (.lit (.int .i64 y7_d_4.Cap))), (.d (.sl (List.length y7_d_4.L) (flatD enc_GEvent y7_d_4.L)))])], 0⟩ ?_
        rcases tf_ (decide (y9_4 < ((List.length p1 : Nat) : Int))) with hc42_22 | hc42_22
        · replace hm := cT hc42_22 hm
          refine AWP.if_ true (Eq.trans (by kernel_rfl) (lit_tf (b := decide (y9_4 < ((List.length p1 : Nat) : Int))) hc42_22)) ?_
          refine AWP.skip ?_
          refine Then.normal ?_
          refine Amk 674 3 ⟨(tp 1 ((.d (.sl (List.length p1) (flatD enc_GOp p1))) :: (tp 3 ((.loc 0 0) :: (tp 1 ((.loc 1 0) :: (tp 1 ((.d (.lit (.int .i64 y9_4))) :: (tp 137 []))))))))), [(.box [(.d (.lit (.int .i64 y5_d_4.Cap))), (.d (.sl (List.length y5_d_4.L) (flatD enc_GEvent y5_d_4.L)))]), (.box [(.d (.lit (.int .i64 y7_d_4.Cap))), (.d (.sl (List.length y7_d_4.L) (flatD enc_GEvent y7_d_4.L)))])], 0⟩ ?_
          refine AWP.seq ?_
          refine AWP.block ?_
          refine AWP.seq ?_
          refine AWP.seq ?_
          refine AWP.text ?_
          refine Wy (.d (.sl (List.length p1) (flatD enc_GOp p1))) [] (Omv rfl) ?_
          refine Wy (.d (.lit (.int .i64 y9_4))) [] (Omv rfl) ?_
          obtain ⟨x47_6, hx47_6, hm⟩ := bnd hm
          obtain ⟨hx47_6i, hx47_6g⟩ := geti_some hx47_6
          refine Wy (.d (.ref (List.drop ((Int.toNat y9_4) * 7) (flatD enc_GOp p1)))) [] (Oia rfl enc_GOp_len hx47_6i hx47_6g) ?_
          refine Wy (.d (.ref (List.drop 2 (List.drop ((Int.toNat y9_4) * 7) (flatD enc_GOp p1))))) [] (Ofa rfl) ?_
          refine Wy (.agg [(.d (.lit (.int .i64 x47_6.E.Time))), (.d (.lit (.int .i64 x47_6.E.Source))), (.d (.lit (.int .i64 x47_6.E.Seq))), (.d (.lit (.string (toS x47_6.E.Type_)))), (.d (.sl (List.length x47_6.E.Vals) (flatD enc_GValue x47_6.E.Vals)))]) [] (Lfk 2 rfl enc_GOp_len hx47_6g) ?_
          refine Wy (.own 2) [(2, (.arr 38 5 (List.length ([x47_6.E] : List GEvent)) (flatD enc_GEvent ([x47_6.E] : List GEvent))))] (Obs rfl) ?_
          obtain ⟨r51_6, hr51_6, hm⟩ := bnd hm
          refine Wy (.d (.lit (.int .i64 r51_6))) [] (Ocp [] [] [2] 0 (ok_telltalelaw07_Over ([x47_6.E] : List GEvent) 1 r51_6 hr51_6) (plain_triv (by simp [A.Plain, A.Plains, D.Plain, byteD])) (fun a w => Try.call10 a w) rfl trivial) ?_
          refine Wy (.d (.lit (.bool (decide ((0 : Int) < r51_6))))) [] (Obn rfl (fun _ => hb_gtr (k := .i64))) ?_
          refine Walk.nil ?_
          refine Then.normal ?_
          refine Amk 4503599627371170 3 ⟨(tp 1 ((.d (.sl (List.length p1) (flatD enc_GOp p1))) :: (tp 3 ((.loc 0 0) :: (tp 1 ((.loc 1 0) :: (tp 1 ((.d (.lit (.int .i64 y9_4))) :: (tp 42 ((.d (.lit (.bool (decide ((0 : Int) < r51_6))))) :: (tp 94 []))))))))))), [(.box [(.d (.lit (.int .i64 y5_d_4.Cap))), (.d (.sl (List.length y5_d_4.L) (flatD enc_GEvent y5_d_4.L)))]), (.box [(.d (.lit (.int .i64 y7_d_4.Cap))), (.d (.sl (List.length y7_d_4.L) (flatD enc_GEvent y7_d_4.L)))]), .gone], 0⟩ ?_
          rcases tf_ (decide ((0 : Int) < r51_6)) with hc52_23 | hc52_23
          · replace hm := cT hc52_23 hm
            refine AWP.if_ true (Eq.trans (by kernel_rfl) (lit_tf (b := decide ((0 : Int) < r51_6)) hc52_23)) ?_
            refine AWP.seq ?_
            refine AWP.text ?_
            obtain ⟨r53_7, hr53_7, hm⟩ := bnd hm
            refine Wy (.d (.lit (.bool r53_7))) [] (Ocf [] [] [] 0 (ok_telltalelaw24_awake  r53_7 hr53_7) (fun a w => Try.call7 a w) rfl trivial) ?_
            refine Wy (.d (.lit (.bool r53_7))) [] (Omv rfl) ?_
            refine Walk.nil ?_
            refine Then.normal ?_
            refine AWP.ret ?_
            refine Then.ret ?_
            refine InBlock.ret ?_
            refine Then.ret ?_
            refine RoundK.ret ?_
            refine InBlock.ret ?_
            refine Then.ret ?_
            obtain rfl := Option.some.inj hm
            exact ret_i []
          · replace hm := cF hc52_23 hm
            refine AWP.if_ false (Eq.trans (by kernel_rfl) (lit_tf (b := decide ((0 : Int) < r51_6)) hc52_23)) ?_
            refine AWP.skip ?_
            refine Then.normal ?_
            refine Amk 674 3 ⟨(tp 1 ((.d (.sl (List.length p1) (flatD enc_GOp p1))) :: (tp 3 ((.loc 0 0) :: (tp 1 ((.loc 1 0) :: (tp 1 ((.d (.lit (.int .i64 y9_4))) :: (tp 137 []))))))))), [(.box [(.d (.lit (.int .i64 y5_d_4.Cap))), (.d (.sl (List.length y5_d_4.L) (flatD enc_GEvent y5_d_4.L)))]), (.box [(.d (.lit (.int .i64 y7_d_4.Cap))), (.d (.sl (List.length y7_d_4.L) (flatD enc_GEvent y7_d_4.L)))]), .gone], 0⟩ ?_
            refine AWP.cutJ (α := GSorter × Int × (List GEvent)) (fun x => match x with | (y5_d_14, y7_d_0_14, y7_d_1_14) => (⟨(tp 1 ((.d (.sl (List.length p1) (flatD enc_GOp p1))) :: (tp 3 ((.loc 0 0) :: (tp 1 ((.loc 1 0) :: (tp 1 ((.d (.lit (.int .i64 y9_4))) :: (tp 137 []))))))))), [(.box [(.d (.lit (.int .i64 y5_d_14.Cap))), (.d (.sl (List.length y5_d_14.L) (flatD enc_GEvent y5_d_14.L)))]), (.box [(.d (.lit (.int .i64 y7_d_0_14))), (.d (.sl (List.length y7_d_1_14) (flatD enc_GEvent y7_d_1_14)))])], 0⟩ : St)) (fun x => match x with | (y5_d_14, y7_d_0_14, y7_d_1_14) => m_telltalelaw24_SorterDoes_j14 y9_4 (fun y5_d_4 y7_d_4 y9_4 => m_telltalelaw24_SorterDoes_l4 p1 fu_4 y5_d_4 y7_d_4 y9_4) y5_d_14 y7_d_0_14 y7_d_1_14 = some r) ?_ (fun J14 => ?_)
            · rintro ⟨y5_d_14, y7_d_0_14, y7_d_1_14⟩ hm
              try dsimp only at hm ⊢
              unfold m_telltalelaw24_SorterDoes_j14 at hm
              refine AWP.seq ?_
              refine AWP.text ?_
              refine Wy (.agg [(.d (.lit (.int .i64 y5_d_14.Cap))), (.d (.sl (List.length y5_d_14.L) (flatD enc_GEvent y5_d_14.L)))]) [] (Old rfl) ?_
              obtain ⟨r114_15, hr114_15, hm⟩ := bnd hm
              refine Wy (.tup [(.d (.lit (.int .i64 r114_15.1))), (.d (.lit (.bool r114_15.2)))]) [] (Ocf [] [] [] 0 (ok_sorter_Sorter_Least y5_d_14 r114_15 hr114_15) (fun a w => Try.call18 a w) rfl trivial) ?_
              refine Wy (.tup [(.d (.lit (.int .i64 r114_15.1))), (.d (.lit (.bool r114_15.2)))]) [] (Omv rfl) ?_
              refine Wy (.d (.lit (.int .i64 r114_15.1))) [] (Oex rfl) ?_
              refine Wy (.d (.lit (.bool r114_15.2))) [] (Oex rfl) ?_
              refine Wy (.d (.lit (.int .i64 r114_15.1))) [] (Omv rfl) ?_
              refine Wy (.d (.lit (.bool r114_15.2))) [] (Omv rfl) ?_
              refine Walk.nil ?_
              refine Then.normal ?_
              refine Amk 787106 3 ⟨(tp 1 ((.d (.sl (List.length p1) (flatD enc_GOp p1))) :: (tp 3 ((.loc 0 0) :: (tp 1 ((.loc 1 0) :: (tp 1 ((.d (.lit (.int .i64 y9_4))) :: (tp 8 ((.d (.lit (.int .i64 r114_15.1))) :: ((.d (.lit (.bool r114_15.2))) :: (tp 127 [])))))))))))), [(.box [(.d (.lit (.int .i64 y5_d_14.Cap))), (.d (.sl (List.length y5_d_14.L) (flatD enc_GEvent y5_d_14.L)))]), (.box [(.d (.lit (.int .i64 y7_d_0_14))), (.d (.sl (List.length y7_d_1_14) (flatD enc_GEvent y7_d_1_14)))])], 0⟩ ?_
              refine AWP.seq ?_
              refine AWP.text ?_
              refine Wy (.agg [(.d (.lit (.int .i64 y7_d_0_14))), (.d (.sl (List.length y7_d_1_14) (flatD enc_GEvent y7_d_1_14)))]) [] (Old rfl) ?_
              obtain ⟨r119_16, hr119_16, hm⟩ := bnd hm
              refine Wy (.tup [(.d (.lit (.int .i64 r119_16.1))), (.d (.lit (.bool r119_16.2)))]) [] (Ocf [] [] [] 0 (ok_telltaleref24_Least (GSorter.mk y7_d_0_14 y7_d_1_14) r119_16 hr119_16) (fun a w => Try.call19 a w) rfl trivial) ?_
              refine Wy (.tup [(.d (.lit (.int .i64 r119_16.1))), (.d (.lit (.bool r119_16.2)))]) [] (Omv rfl) ?_
              refine Wy (.d (.lit (.int .i64 r119_16.1))) [] (Oex rfl) ?_
              refine Wy (.d (.lit (.bool r119_16.2))) [] (Oex rfl) ?_
              refine Wy (.d (.lit (.int .i64 r119_16.1))) [] (Omv rfl) ?_
              refine Wy (.d (.lit (.bool r119_16.2))) [] (Omv rfl) ?_
              refine Walk.nil ?_
              refine Then.normal ?_
              refine Amk 3932834 3 ⟨(tp 1 ((.d (.sl (List.length p1) (flatD enc_GOp p1))) :: (tp 3 ((.loc 0 0) :: (tp 1 ((.loc 1 0) :: (tp 1 ((.d (.lit (.int .i64 y9_4))) :: (tp 8 ((.d (.lit (.int .i64 r114_15.1))) :: ((.d (.lit (.bool r114_15.2))) :: ((.d (.lit (.int .i64 r119_16.1))) :: ((.d (.lit (.bool r119_16.2))) :: (tp 125 [])))))))))))))), [(.box [(.d (.lit (.int .i64 y5_d_14.Cap))), (.d (.sl (List.length y5_d_14.L) (flatD enc_GEvent y5_d_14.L)))]), (.box [(.d (.lit (.int .i64 y7_d_0_14))), (.d (.sl (List.length y7_d_1_14) (flatD enc_GEvent y7_d_1_14)))])], 0⟩ ?_
              refine AWP.cutJ (α := Unit) (fun x => match x with | () => (⟨(tp 1 ((.d (.sl (List.length p1) (flatD enc_GOp p1))) :: (tp 3 ((.loc 0 0) :: (tp 1 ((.loc 1 0) :: (tp 1 ((.d (.lit (.int .i64 y9_4))) :: (tp 135 ((.d (.lit (.bool true))) :: (tp 1 []))))))))))), [(.box [(.d (.lit (.int .i64 y5_d_14.Cap))), (.d (.sl (List.length y5_d_14.L) (flatD enc_GEvent y5_d_14.L)))]), (.box [(.d (.lit (.int .i64 y7_d_0_14))), (.d (.sl (List.length y7_d_1_14) (flatD enc_GEvent y7_d_1_14)))])], 0⟩ : St)) (fun x => match x with | () => m_telltalelaw24_SorterDoes_j18  = some r) ?_ (fun J18 => ?_)
              · rintro ⟨⟩ hm
                try dsimp only at hm ⊢
                unfold m_telltalelaw24_SorterDoes_j18 at hm
                refine AWP.if_ true (by kernel_rfl) ?_
                refine AWP.seq ?_
                refine AWP.text ?_
                refine Wy (.d (.lit (.bool false))) [] (Omv rfl) ?_
                refine Walk.nil ?_
                refine Then.normal ?_
                refine AWP.ret ?_
                refine InBlock.ret ?_
                refine Then.ret ?_
                refine RoundK.ret ?_
                refine InBlock.ret ?_
                refine Then.ret ?_
                obtain rfl := Option.some.inj hm
                exact ret_i []
              refine AWP.seq ?_
              refine AWP.text ?_
              refine Wy (.loc 0 1) [] (Ofa rfl) ?_
              refine Wy (.d (.sl (List.length y5_d_14.L) (flatD enc_GEvent y5_d_14.L))) [] (Old rfl) ?_
              refine Wy (.d (.lit (.int .i64 ((List.length y5_d_14.L : Nat) : Int)))) [] (Oln rfl) ?_
              refine Wy (.loc 1 1) [] (Ofa rfl) ?_
              refine Wy (.d (.sl (List.length y7_d_1_14) (flatD enc_GEvent y7_d_1_14))) [] (Old rfl) ?_
              refine Wy (.d (.lit (.int .i64 ((List.length y7_d_1_14 : Nat) : Int)))) [] (Oln rfl) ?_
              refine Wy (.d (.lit (.bool (decide (((List.length y5_d_14.L : Nat) : Int) ≠ ((List.length y7_d_1_14 : Nat) : Int)))))) [] (Obn rfl (fun _ => hb_neq (k := .i64))) ?_
              rcases tf_ (decide (((List.length y5_d_14.L : Nat) : Int) ≠ ((List.length y7_d_1_14 : Nat) : Int))) with hq129_17 | hq129_17
              · replace hm := cT hq129_17 hm
                refine Wy (.d (.lit (.bool true))) [] (Ocs (lit_tf (b := decide (((List.length y5_d_14.L : Nat) : Int) ≠ ((List.length y7_d_1_14 : Nat) : Int))) hq129_17) (Omv rfl)) ?_
                refine Wn ?_
                refine Wn ?_
                refine Wn ?_
                refine Wn ?_
                refine Wn ?_
                refine Wy (.d (.lit (.bool true))) [] (OpT rfl) ?_
                refine Wy (.d (.lit (.bool true))) [] (Omv rfl) ?_
                refine Wn ?_
                refine Wn ?_
                refine Wn ?_
                refine Wy (.d (.lit (.bool true))) [] (OpT rfl) ?_
                refine Wy (.d (.lit (.bool true))) [] (Omv rfl) ?_
                refine Wn ?_
                refine Wn ?_
                refine Wn ?_
                refine Wy (.d (.lit (.bool true))) [] (OpT rfl) ?_
                refine Walk.nil ?_
                refine Then.normal ?_
                exact AWP.weak (Weak.toK 44601490397061246283071436545296723011961506 0 0 [0, 1]) (J18 () hm)
              · replace hm := cF hq129_17 hm
                refine Wy (.d (.lit (.bool false))) [] (Ocs (lit_tf (b := decide (((List.length y5_d_14.L : Nat) : Int) ≠ ((List.length y7_d_1_14 : Nat) : Int))) hq129_17) (Omv rfl)) ?_
                refine Wy (.loc 0 0) [] (Ofa rfl) ?_
                refine Wy (.d (.lit (.int .i64 y5_d_14.Cap))) [] (Old rfl) ?_
                refine Wy (.loc 1 0) [] (Ofa rfl) ?_
                refine Wy (.d (.lit (.int .i64 y7_d_0_14))) [] (Old rfl) ?_
                refine Wy (.d (.lit (.bool (decide (y5_d_14.Cap ≠ y7_d_0_14))))) [] (Obn rfl (fun _ => hb_neq (k := .i64))) ?_
                refine Wy (.d (.lit (.bool (decide (y5_d_14.Cap ≠ y7_d_0_14))))) [] (OpF rfl) ?_
                rcases tf_ (decide (y5_d_14.Cap ≠ y7_d_0_14)) with hq136_17 | hq136_17
                · replace hm := cT hq136_17 hm
                  refine Wy (.d (.lit (.bool true))) [] (Ocs (lit_tf (b := decide (y5_d_14.Cap ≠ y7_d_0_14)) hq136_17) (Omv rfl)) ?_
                  refine Wn ?_
                  refine Wn ?_
                  refine Wn ?_
                  refine Wy (.d (.lit (.bool true))) [] (OpT rfl) ?_
                  refine Wy (.d (.lit (.bool true))) [] (Omv rfl) ?_
                  refine Wn ?_
                  refine Wn ?_
                  refine Wn ?_
                  refine Wy (.d (.lit (.bool true))) [] (OpT rfl) ?_
                  refine Walk.nil ?_
                  refine Then.normal ?_
                  exact AWP.weak (Weak.toK 44601490397061246283071436545296723011961506 0 0 [0, 1]) (J18 () hm)
                · replace hm := cF hq136_17 hm
                  refine Wy (.d (.lit (.bool false))) [] (Ocs (lit_tf (b := decide (y5_d_14.Cap ≠ y7_d_0_14)) hq136_17) (Omv rfl)) ?_
                  refine Wy (.d (.lit (.int .i64 r114_15.1))) [] (Omv rfl) ?_
                  refine Wy (.d (.lit (.int .i64 r119_16.1))) [] (Omv rfl) ?_
                  refine Wy (.d (.lit (.bool (decide (r114_15.1 ≠ r119_16.1))))) [] (Obn rfl (fun _ => hb_neq (k := .i64))) ?_
                  refine Wy (.d (.lit (.bool (decide (r114_15.1 ≠ r119_16.1))))) [] (OpF rfl) ?_
                  rcases tf_ (decide (r114_15.1 ≠ r119_16.1)) with hq141_17 | hq141_17
                  · replace hm := cT hq141_17 hm
                    refine Wy (.d (.lit (.bool true))) [] (Ocs (lit_tf (b := decide (r114_15.1 ≠ r119_16.1)) hq141_17) (Omv rfl)) ?_
                    refine Wn ?_
                    refine Wn ?_
                    refine Wn ?_
                    refine Wy (.d (.lit (.bool true))) [] (OpT rfl) ?_
                    refine Walk.nil ?_
                    refine Then.normal ?_
                    exact AWP.weak (Weak.toK 44601490397061246283071436545296723011961506 0 0 [0, 1]) (J18 () hm)
                  · replace hm := cF hq141_17 hm
                    refine Wy (.d (.lit (.bool false))) [] (Ocs (lit_tf (b := decide (r114_15.1 ≠ r119_16.1)) hq141_17) (Omv rfl)) ?_
                    refine Wy (.d (.lit (.bool r114_15.2))) [] (Omv rfl) ?_
                    refine Wy (.d (.lit (.bool r119_16.2))) [] (Omv rfl) ?_
                    refine Wy (.d (.lit (.bool (decide (r114_15.2 ≠ r119_16.2))))) [] (Ocs (by kernel_rfl) (op_bin rfl (a1 := .bool r114_15.2) (a2 := .bool r119_16.2) (by kernel_rfl) (by kernel_rfl) (fun _ => hb_bneq (by kernel_rfl)))) ?_
                    refine Wy (.d (.lit (.bool (decide (r114_15.2 ≠ r119_16.2))))) [] (OpF rfl) ?_
                    refine Walk.nil ?_
                    refine Then.normal ?_
                    refine Amk 44601490397061246283071436545296723011961506 3 ⟨(tp 1 ((.d (.sl (List.length p1) (flatD enc_GOp p1))) :: (tp 3 ((.loc 0 0) :: (tp 1 ((.loc 1 0) :: (tp 1 ((.d (.lit (.int .i64 y9_4))) :: (tp 135 ((.d (.lit (.bool (decide (r114_15.2 ≠ r119_16.2))))) :: (tp 1 []))))))))))), [(.box [(.d (.lit (.int .i64 y5_d_14.Cap))), (.d (.sl (List.length y5_d_14.L) (flatD enc_GEvent y5_d_14.L)))]), (.box [(.d (.lit (.int .i64 y7_d_0_14))), (.d (.sl (List.length y7_d_1_14) (flatD enc_GEvent y7_d_1_14)))])], 0⟩ ?_
                    rcases tf_ (decide (r114_15.2 ≠ r119_16.2)) with hc145_24 | hc145_24
                    · replace hm := cT hc145_24 hm
                      refine AWP.if_ true (Eq.trans (by kernel_rfl) (lit_tf (b := decide (r114_15.2 ≠ r119_16.2)) hc145_24)) ?_
                      refine AWP.seq ?_
                      refine AWP.text ?_
                      refine Wy (.d (.lit (.bool false))) [] (Omv rfl) ?_
                      refine Walk.nil ?_
                      refine Then.normal ?_
                      refine AWP.ret ?_
                      refine InBlock.ret ?_
                      refine Then.ret ?_
                      refine RoundK.ret ?_
                      refine InBlock.ret ?_
                      refine Then.ret ?_
                      obtain rfl := Option.some.inj hm
                      exact ret_i []
                    · replace hm := cF hc145_24 hm
                      refine AWP.if_ false (Eq.trans (by kernel_rfl) (lit_tf (b := decide (r114_15.2 ≠ r119_16.2)) hc145_24)) ?_
                      refine AWP.skip ?_
                      refine InBlock.normal ?_
                      refine Then.normal ?_
                      refine Amk 674 3 ⟨(tp 1 ((.d (.sl (List.length p1) (flatD enc_GOp p1))) :: (tp 3 ((.loc 0 0) :: (tp 1 ((.loc 1 0) :: (tp 1 ((.d (.lit (.int .i64 y9_4))) :: (tp 137 []))))))))), [(.box [(.d (.lit (.int .i64 y5_d_14.Cap))), (.d (.sl (List.length y5_d_14.L) (flatD enc_GEvent y5_d_14.L)))]), (.box [(.d (.lit (.int .i64 y7_d_0_14))), (.d (.sl (List.length y7_d_1_14) (flatD enc_GEvent y7_d_1_14)))])], 0⟩ ?_
                      refine AWP.text ?_
                      refine Wy (.d (.lit (.int .i64 y9_4))) [] (Omv rfl) ?_
                      refine Wy (.d (.lit (.int .i64 (IntKind.i64.wrap (y9_4 + 1))))) [] (Obn rfl (fun _ => hb_add (k := .i64))) ?_
                      refine Wy (.d (.lit (.int .i64 (IntKind.i64.wrap (y9_4 + 1))))) [] (Omv rfl) ?_
                      refine Walk.nil ?_
                      refine RoundK.normal ?_
                      exact Rounds.weak (Weak.toK 674 0 0 [0, 1]) (ih_4 (fu_4, y5_d_14, (GSorter.mk y7_d_0_14 y7_d_1_14), (IntKind.i64.wrap (y9_4 + 1))) hm (Nat.lt_succ_self _))
            refine AWP.seq ?_
            refine AWP.seq ?_
            refine AWP.text ?_
            refine Wy (.d (.sl (List.length p1) (flatD enc_GOp p1))) [] (Omv rfl) ?_
            refine Wy (.d (.lit (.int .i64 y9_4))) [] (Omv rfl) ?_
            obtain ⟨x56_8, hx56_8, hm⟩ := bnd hm
            obtain ⟨hx56_8i, hx56_8g⟩ := geti_some hx56_8
            refine Wy (.d (.ref (List.drop ((Int.toNat y9_4) * 7) (flatD enc_GOp p1)))) [] (Oia rfl enc_GOp_len hx56_8i hx56_8g) ?_
            refine Wy (.d (.ref (List.drop ((Int.toNat y9_4) * 7) (flatD enc_GOp p1)))) [] (Ofa rfl) ?_
            refine Wy (.d (.lit (.bool x56_8.Let))) [] (Lf1 rfl enc_GOp_len hx56_8g) ?_
            refine Walk.nil ?_
            refine Then.normal ?_
            refine Amk 288230376151712418 3 ⟨(tp 1 ((.d (.sl (List.length p1) (flatD enc_GOp p1))) :: (tp 3 ((.loc 0 0) :: (tp 1 ((.loc 1 0) :: (tp 1 ((.d (.lit (.int .i64 y9_4))) :: (tp 48 ((.d (.lit (.bool x56_8.Let))) :: (tp 88 []))))))))))), [(.box [(.d (.lit (.int .i64 y5_d_4.Cap))), (.d (.sl (List.length y5_d_4.L) (flatD enc_GEvent y5_d_4.L)))]), (.box [(.d (.lit (.int .i64 y7_d_4.Cap))), (.d (.sl (List.length y7_d_4.L) (flatD enc_GEvent y7_d_4.L)))]), .gone], 0⟩ ?_
            rcases tf_ x56_8.Let with hc58_25 | hc58_25
            · replace hm := cT hc58_25 hm
              refine AWP.if_ true (Eq.trans (by kernel_rfl) (lit_tf (b := x56_8.Let) hc58_25)) ?_
              refine AWP.seq ?_
              refine Adr ?_
              refine Wy (.agg [(.d (.lit (.int .i64 y5_d_4.Cap))), (.d (.sl (List.length y5_d_4.L) (flatD enc_GEvent y5_d_4.L)))]) [] (Old rfl) ?_
              refine Wy (.d (.sl (List.length p1) (flatD enc_GOp p1))) [] (Omv rfl) ?_
              refine Wy (.d (.lit (.int .i64 y9_4))) [] (Omv rfl) ?_
              obtain ⟨x63_9, hx63_9, hm⟩ := bnd hm
              obtain ⟨hx63_9i, hx63_9g⟩ := geti_some hx63_9
              refine Wy (.d (.ref (List.drop ((Int.toNat y9_4) * 7) (flatD enc_GOp p1)))) [] (Oia rfl enc_GOp_len hx63_9i hx63_9g) ?_
              refine Wy (.d (.ref (List.drop 1 (List.drop ((Int.toNat y9_4) * 7) (flatD enc_GOp p1))))) [] (Ofa rfl) ?_
              refine Wy (.d (.lit (.int .i64 x63_9.At))) [] (Lfk1 1 rfl enc_GOp_len hx63_9g) ?_
              obtain ⟨r66_9, hr66_9, hm⟩ := bnd hm
              refine Wy (.tup [(.own 3), (.agg [(.d (.lit (.int .i64 r66_9.2.Cap))), (.d (.sl (List.length r66_9.2.L) (flatD enc_GEvent r66_9.2.L)))])]) [(3, (.arr 50 5 (List.length r66_9.1) (flatD enc_GEvent r66_9.1)))] (Ocf [] [3] [] 0 (ok_sorter_Sorter_Release y5_d_4 x63_9.At r66_9 hr66_9) (fun a w => Try.call11 a w) rfl trivial) ?_
              refine Wy (.tup [(.own 3), (.agg [(.d (.lit (.int .i64 r66_9.2.Cap))), (.d (.sl (List.length r66_9.2.L) (flatD enc_GEvent r66_9.2.L)))])]) [] (Omv rfl) ?_
              refine Wy (.own 3) [] (Oex rfl) ?_
              refine Wy (.agg [(.d (.lit (.int .i64 r66_9.2.Cap))), (.d (.sl (List.length r66_9.2.L) (flatD enc_GEvent r66_9.2.L)))]) [] (Oex rfl) ?_
              refine Wy (.loc 4 0) [(4, (.box [(.d (.lit (.int .i64 0))), (.d .nil)]))] (Oal rfl) ?_
              refine Wy (.own 3) [] (Omv rfl) ?_
              refine Wy (.tup []) [(4, (.box [(.d (.lit (.int .i64 r66_9.2.Cap))), (.d (.sl (List.length r66_9.2.L) (flatD enc_GEvent r66_9.2.L)))]))] (Ost rfl) ?_
              refine Wdr ?_
              refine Then.normal ?_
              refine Amk 3746 27 ⟨(tp 1 ((.d (.sl (List.length p1) (flatD enc_GOp p1))) :: (tp 3 ((.loc 0 0) :: (tp 1 ((.loc 1 0) :: (tp 1 ((.d (.lit (.int .i64 y9_4))) :: ((.own 3) :: ((.loc 4 0) :: (tp 135 []))))))))))), [(.box [(.d (.lit (.int .i64 y5_d_4.Cap))), (.d (.sl (List.length y5_d_4.L) (flatD enc_GEvent y5_d_4.L)))]), (.box [(.d (.lit (.int .i64 y7_d_4.Cap))), (.d (.sl (List.length y7_d_4.L) (flatD enc_GEvent y7_d_4.L)))]), .gone, (.arr 50 5 (List.length r66_9.1) (flatD enc_GEvent r66_9.1)), (.box [(.d (.lit (.int .i64 r66_9.2.Cap))), (.d (.sl (List.length r66_9.2.L) (flatD enc_GEvent r66_9.2.L)))])], 0⟩ ?_
              refine AWP.seq ?_
              refine Adr ?_
              refine Wy (.agg [(.d (.lit (.int .i64 y7_d_4.Cap))), (.d (.sl (List.length y7_d_4.L) (flatD enc_GEvent y7_d_4.L)))]) [] (Old rfl) ?_
              refine Wy (.d (.sl (List.length p1) (flatD enc_GOp p1))) [] (Omv rfl) ?_
              refine Wy (.d (.lit (.int .i64 y9_4))) [] (Omv rfl) ?_
              obtain ⟨x73_10, hx73_10, hm⟩ := bnd hm
              obtain ⟨hx73_10i, hx73_10g⟩ := geti_some hx73_10
              refine Wy (.d (.ref (List.drop ((Int.toNat y9_4) * 7) (flatD enc_GOp p1)))) [] (Oia rfl enc_GOp_len hx73_10i hx73_10g) ?_
              refine Wy (.d (.ref (List.drop 1 (List.drop ((Int.toNat y9_4) * 7) (flatD enc_GOp p1))))) [] (Ofa rfl) ?_
              refine Wy (.d (.lit (.int .i64 x73_10.At))) [] (Lfk1 1 rfl enc_GOp_len hx73_10g) ?_
              obtain ⟨r76_10, hr76_10, hm⟩ := bnd hm
              refine Wy (.tup [(.own 5), (.agg [(.d (.lit (.int .i64 r76_10.2.Cap))), (.own 6)])]) [(5, (.arr 38 5 (List.length r76_10.1) (flatD enc_GEvent r76_10.1))), (6, (.arr 38 5 (List.length r76_10.2.L) (flatD enc_GEvent r76_10.2.L)))] (Ocf [] [5, 6] [] 0 (ok_telltaleref24_Release y7_d_4 x73_10.At r76_10 hr76_10) (fun a w => Try.call12 a w) rfl trivial) ?_
              refine Wy (.tup [(.own 5), (.agg [(.d (.lit (.int .i64 r76_10.2.Cap))), (.own 6)])]) [] (Omv rfl) ?_
              refine Wy (.own 5) [] (Oex rfl) ?_
              refine Wy (.agg [(.d (.lit (.int .i64 r76_10.2.Cap))), (.own 6)]) [] (Oex rfl) ?_
              refine Wy (.loc 7 0) [(7, (.box [(.d (.lit (.int .i64 0))), (.d .nil)]))] (Oal rfl) ?_
              refine Wy (.own 5) [] (Omv rfl) ?_
              refine Wy (.tup []) [(7, (.box [(.d (.lit (.int .i64 r76_10.2.Cap))), (.own 6)]))] (Ost rfl) ?_
              refine Wdr ?_
              refine Then.normal ?_
              refine Amk 16034 251 ⟨(tp 1 ((.d (.sl (List.length p1) (flatD enc_GOp p1))) :: (tp 3 ((.loc 0 0) :: (tp 1 ((.loc 1 0) :: (tp 1 ((.d (.lit (.int .i64 y9_4))) :: ((.own 3) :: ((.loc 4 0) :: ((.own 5) :: ((.loc 7 0) :: (tp 133 []))))))))))))), [(.box [(.d (.lit (.int .i64 y5_d_4.Cap))), (.d (.sl (List.length y5_d_4.L) (flatD enc_GEvent y5_d_4.L)))]), (.box [(.d (.lit (.int .i64 y7_d_4.Cap))), (.d (.sl (List.length y7_d_4.L) (flatD enc_GEvent y7_d_4.L)))]), .gone, (.arr 50 5 (List.length r66_9.1) (flatD enc_GEvent r66_9.1)), (.box [(.d (.lit (.int .i64 r66_9.2.Cap))), (.d (.sl (List.length r66_9.2.L) (flatD enc_GEvent r66_9.2.L)))]), (.arr 38 5 (List.length r76_10.1) (flatD enc_GEvent r76_10.1)), (.arr 38 5 (List.length r76_10.2.L) (flatD enc_GEvent r76_10.2.L)), (.box [(.d (.lit (.int .i64 r76_10.2.Cap))), (.own 6)])], 0⟩ ?_
              refine AWP.seq ?_
              refine AWP.seq ?_
              refine AWP.text ?_
              refine Wy (.own 3) [] (Omv rfl) ?_
              obtain ⟨r80_11, hr80_11, hm⟩ := bnd hm
              refine Wy (.own 8) [(8, (.arr 38 5 (List.length r80_11) (flatD enc_GEvent r80_11))), (3, (.fro 50 5 (List.length r66_9.1) (flatD enc_GEvent r66_9.1)))] (Ocf [] [8] [3] 0 (ok_telltalelaw07_BackAll r66_9.1 r80_11 hr80_11) (fun a w => Try.call14 a w) rfl trivial) ?_
              refine Wy (.own 5) [] (Omv rfl) ?_
              obtain ⟨r82_11, hr82_11, hm⟩ := bnd hm
              refine Wy (.d (.lit (.bool r82_11))) [] (Ocp [] [] [8, 5] 0 (ok_telltaleref07_SameAll r80_11 r76_10.1 r82_11 hr82_11) (plain_triv (by simp [A.Plain, A.Plains, D.Plain, byteD])) (fun a w => Try.call13 a w) rfl trivial) ?_
              refine Wy (.d (.lit (.bool (!r82_11)))) [] (Ocs (by kernel_rfl) (op_un rfl (a1 := .bool r82_11) (by kernel_rfl) (fun _ => hu_not))) ?_
              refine Walk.nil ?_
              refine Then.normal ?_
              refine Amk 9671406556917033397660322 211 ⟨(tp 1 ((.d (.sl (List.length p1) (flatD enc_GOp p1))) :: (tp 3 ((.loc 0 0) :: (tp 1 ((.loc 1 0) :: (tp 1 ((.d (.lit (.int .i64 y9_4))) :: (tp 1 ((.loc 4 0) :: (tp 1 ((.loc 7 0) :: (tp 69 ((.d (.lit (.bool (!r82_11)))) :: (tp 63 []))))))))))))))), [(.box [(.d (.lit (.int .i64 y5_d_4.Cap))), (.d (.sl (List.length y5_d_4.L) (flatD enc_GEvent y5_d_4.L)))]), (.box [(.d (.lit (.int .i64 y7_d_4.Cap))), (.d (.sl (List.length y7_d_4.L) (flatD enc_GEvent y7_d_4.L)))]), .gone, .gone, (.box [(.d (.lit (.int .i64 r66_9.2.Cap))), (.d (.sl (List.length r66_9.2.L) (flatD enc_GEvent r66_9.2.L)))]), .gone, (.arr 38 5 (List.length r76_10.2.L) (flatD enc_GEvent r76_10.2.L)), (.box [(.d (.lit (.int .i64 r76_10.2.Cap))), (.own 6)]), .gone], 0⟩ ?_
              rcases tf_ (!r82_11) with hc83_26 | hc83_26
              · replace hm := cT hc83_26 hm
                refine AWP.if_ true (Eq.trans (by kernel_rfl) (lit_tf (b := (!r82_11)) hc83_26)) ?_
                refine AWP.seq ?_
                refine AWP.text ?_
                refine Wy (.d (.lit (.bool false))) [] (Omv rfl) ?_
                refine Walk.nil ?_
                refine Then.normal ?_
                refine AWP.ret ?_
                refine Then.ret ?_
                refine Then.ret ?_
                refine InBlock.ret ?_
                refine Then.ret ?_
                refine RoundK.ret ?_
                refine InBlock.ret ?_
                refine Then.ret ?_
                obtain rfl := Option.some.inj hm
                exact ret_i []
              · replace hm := cF hc83_26 hm
                refine AWP.if_ false (Eq.trans (by kernel_rfl) (lit_tf (b := (!r82_11)) hc83_26)) ?_
                refine AWP.skip ?_
                refine Then.normal ?_
                refine Amk 10914 211 ⟨(tp 1 ((.d (.sl (List.length p1) (flatD enc_GOp p1))) :: (tp 3 ((.loc 0 0) :: (tp 1 ((.loc 1 0) :: (tp 1 ((.d (.lit (.int .i64 y9_4))) :: (tp 1 ((.loc 4 0) :: (tp 1 ((.loc 7 0) :: (tp 133 []))))))))))))), [(.box [(.d (.lit (.int .i64 y5_d_4.Cap))), (.d (.sl (List.length y5_d_4.L) (flatD enc_GEvent y5_d_4.L)))]), (.box [(.d (.lit (.int .i64 y7_d_4.Cap))), (.d (.sl (List.length y7_d_4.L) (flatD enc_GEvent y7_d_4.L)))]), .gone, .gone, (.box [(.d (.lit (.int .i64 r66_9.2.Cap))), (.d (.sl (List.length r66_9.2.L) (flatD enc_GEvent r66_9.2.L)))]), .gone, (.arr 38 5 (List.length r76_10.2.L) (flatD enc_GEvent r76_10.2.L)), (.box [(.d (.lit (.int .i64 r76_10.2.Cap))), (.own 6)]), .gone], 0⟩ ?_
                refine Adr ?_
                refine Wy (.agg [(.d (.lit (.int .i64 r66_9.2.Cap))), (.d (.sl (List.length r66_9.2.L) (flatD enc_GEvent r66_9.2.L)))]) [] (Old rfl) ?_
                refine Wy (.agg [(.d (.lit (.int .i64 r76_10.2.Cap))), (.own 6)]) [] (Old rfl) ?_
                refine Wy (.tup []) [(0, (.box [(.d (.lit (.int .i64 r66_9.2.Cap))), (.d (.sl (List.length r66_9.2.L) (flatD enc_GEvent r66_9.2.L)))]))] (Ost rfl) ?_
                refine Wy (.tup []) [(1, (.box [(.d (.lit (.int .i64 r76_10.2.Cap))), (.own 6)]))] (Ost rfl) ?_
                refine Wdr ?_
                refine Then.normal ?_
                refine Afz [6] ⟨(tp 1 ((.d (.sl (List.length p1) (flatD enc_GOp p1))) :: (tp 3 ((.loc 0 0) :: (tp 1 ((.loc 1 0) :: (tp 1 ((.d (.lit (.int .i64 y9_4))) :: (tp 1 ((.loc 4 0) :: (tp 1 ((.loc 7 0) :: (tp 70 ((.agg [(.d (.lit (.int .i64 r66_9.2.Cap))), (.d (.sl (List.length r66_9.2.L) (flatD enc_GEvent r66_9.2.L)))]) :: ((.agg [(.d (.lit (.int .i64 r76_10.2.Cap))), (.d (.sl (List.length r76_10.2.L) (flatD enc_GEvent r76_10.2.L)))]) :: (tp 61 [])))))))))))))))), [(.box [(.d (.lit (.int .i64 r66_9.2.Cap))), (.d (.sl (List.length r66_9.2.L) (flatD enc_GEvent r66_9.2.L)))]), (.box [(.d (.lit (.int .i64 r76_10.2.Cap))), (.d (.sl (List.length r76_10.2.L) (flatD enc_GEvent r76_10.2.L)))]), .gone, .gone, (.box [(.d (.lit (.int .i64 r66_9.2.Cap))), (.d (.sl (List.length r66_9.2.L) (flatD enc_GEvent r66_9.2.L)))]), .gone, (.fro 38 5 (List.length r76_10.2.L) (flatD enc_GEvent r76_10.2.L)), (.box [(.d (.lit (.int .i64 r76_10.2.Cap))), (.d (.sl (List.length r76_10.2.L) (flatD enc_GEvent r76_10.2.L)))]), .gone], 0⟩ ?_
                exact AWP.weak (Weak.toK 674 0 0 [0, 1]) (J14 (r66_9.2, r76_10.2.Cap, r76_10.2.L) hm)
            · replace hm := cF hc58_25 hm
              refine AWP.if_ false (Eq.trans (by kernel_rfl) (lit_tf (b := x56_8.Let) hc58_25)) ?_
              refine AWP.seq ?_
              refine Adr ?_
              refine Wy (.agg [(.d (.lit (.int .i64 y5_d_4.Cap))), (.d (.sl (List.length y5_d_4.L) (flatD enc_GEvent y5_d_4.L)))]) [] (Old rfl) ?_
              refine Wy (.d (.sl (List.length p1) (flatD enc_GOp p1))) [] (Omv rfl) ?_
              refine Wy (.d (.lit (.int .i64 y9_4))) [] (Omv rfl) ?_
              obtain ⟨x90_12, hx90_12, hm⟩ := bnd hm
              obtain ⟨hx90_12i, hx90_12g⟩ := geti_some hx90_12
              refine Wy (.d (.ref (List.drop ((Int.toNat y9_4) * 7) (flatD enc_GOp p1)))) [] (Oia rfl enc_GOp_len hx90_12i hx90_12g) ?_
              refine Wy (.d (.ref (List.drop 2 (List.drop ((Int.toNat y9_4) * 7) (flatD enc_GOp p1))))) [] (Ofa rfl) ?_
              refine Wy (.agg [(.d (.lit (.int .i64 x90_12.E.Time))), (.d (.lit (.int .i64 x90_12.E.Source))), (.d (.lit (.int .i64 x90_12.E.Seq))), (.d (.lit (.string (toS x90_12.E.Type_)))), (.d (.sl (List.length x90_12.E.Vals) (flatD enc_GValue x90_12.E.Vals)))]) [] (Lfk 2 rfl enc_GOp_len hx90_12g) ?_
              obtain ⟨r93_12, hr93_12, hm⟩ := bnd hm
              refine Wy (.agg [(.d (.lit (.int .i64 r93_12.Time))), (.d (.lit (.int .i64 r93_12.Source))), (.d (.lit (.int .i64 r93_12.Seq))), (.d (.lit (.string (toS r93_12.Type_)))), (.own 3)]) [(3, (.arr 94 4 (List.length r93_12.Vals) (flatD enc_GValue r93_12.Vals)))] (Ocf [] [3] [] 0 (ok_telltalelaw07_Own x90_12.E r93_12 hr93_12) (fun a w => Try.call16 a w) rfl trivial) ?_
              obtain ⟨r94_12, hr94_12, hm⟩ := bnd hm
              refine Wy (.tup [(.agg [(.d (.lit (.int .i64 r94_12.1.Cap))), (.d (.sl (List.length r94_12.1.L) (flatD enc_GEvent r94_12.1.L)))]), (.d (.lit (.int .i64 r94_12.2)))]) [(3, (.fro 94 4 (List.length r93_12.Vals) (flatD enc_GValue r93_12.Vals)))] (Ocf [] [] [3] 0 (ok_sorter_Sorter_Put y5_d_4 r93_12 r94_12 hr94_12) (fun a w => Try.call15 a w) rfl trivial) ?_
              refine Wy (.tup [(.agg [(.d (.lit (.int .i64 r94_12.1.Cap))), (.d (.sl (List.length r94_12.1.L) (flatD enc_GEvent r94_12.1.L)))]), (.d (.lit (.int .i64 r94_12.2)))]) [] (Omv rfl) ?_
              refine Wy (.agg [(.d (.lit (.int .i64 r94_12.1.Cap))), (.d (.sl (List.length r94_12.1.L) (flatD enc_GEvent r94_12.1.L)))]) [] (Oex rfl) ?_
              refine Wy (.d (.lit (.int .i64 r94_12.2))) [] (Oex rfl) ?_
              refine Wy (.loc 4 0) [(4, (.box [(.d (.lit (.int .i64 0))), (.d .nil)]))] (Oal rfl) ?_
              refine Wy (.tup []) [(4, (.box [(.d (.lit (.int .i64 r94_12.1.Cap))), (.d (.sl (List.length r94_12.1.L) (flatD enc_GEvent r94_12.1.L)))]))] (Ost rfl) ?_
              refine Wy (.d (.lit (.int .i64 r94_12.2))) [] (Omv rfl) ?_
              refine Wdr ?_
              refine Then.normal ?_
              refine Amk 49826 19 ⟨(tp 1 ((.d (.sl (List.length p1) (flatD enc_GOp p1))) :: (tp 3 ((.loc 0 0) :: (tp 1 ((.loc 1 0) :: (tp 1 ((.d (.lit (.int .i64 y9_4))) :: (tp 4 ((.loc 4 0) :: ((.d (.lit (.int .i64 r94_12.2))) :: (tp 131 [])))))))))))), [(.box [(.d (.lit (.int .i64 y5_d_4.Cap))), (.d (.sl (List.length y5_d_4.L) (flatD enc_GEvent y5_d_4.L)))]), (.box [(.d (.lit (.int .i64 y7_d_4.Cap))), (.d (.sl (List.length y7_d_4.L) (flatD enc_GEvent y7_d_4.L)))]), .gone, .gone, (.box [(.d (.lit (.int .i64 r94_12.1.Cap))), (.d (.sl (List.length r94_12.1.L) (flatD enc_GEvent r94_12.1.L)))])], 0⟩ ?_
              refine AWP.seq ?_
              refine Adr ?_
              refine Wy (.agg [(.d (.lit (.int .i64 y7_d_4.Cap))), (.d (.sl (List.length y7_d_4.L) (flatD enc_GEvent y7_d_4.L)))]) [] (Old rfl) ?_
              refine Wy (.d (.sl (List.length p1) (flatD enc_GOp p1))) [] (Omv rfl) ?_
              refine Wy (.d (.lit (.int .i64 y9_4))) [] (Omv rfl) ?_
              obtain ⟨x101_13, hx101_13, hm⟩ := bnd hm
              obtain ⟨hx101_13i, hx101_13g⟩ := geti_some hx101_13
              refine Wy (.d (.ref (List.drop ((Int.toNat y9_4) * 7) (flatD enc_GOp p1)))) [] (Oia rfl enc_GOp_len hx101_13i hx101_13g) ?_
              refine Wy (.d (.ref (List.drop 2 (List.drop ((Int.toNat y9_4) * 7) (flatD enc_GOp p1))))) [] (Ofa rfl) ?_
              refine Wy (.agg [(.d (.lit (.int .i64 x101_13.E.Time))), (.d (.lit (.int .i64 x101_13.E.Source))), (.d (.lit (.int .i64 x101_13.E.Seq))), (.d (.lit (.string (toS x101_13.E.Type_)))), (.d (.sl (List.length x101_13.E.Vals) (flatD enc_GValue x101_13.E.Vals)))]) [] (Lfk 2 rfl enc_GOp_len hx101_13g) ?_
              obtain ⟨r104_13, hr104_13, hm⟩ := bnd hm
              refine Wy (.tup [(.agg [(.d (.lit (.int .i64 r104_13.1.Cap))), (.d (.sl (List.length r104_13.1.L) (flatD enc_GEvent r104_13.1.L)))]), (.d (.lit (.int .i64 r104_13.2)))]) [] (Ocf [] [] [] 0 (ok_telltaleref24_Put y7_d_4 x101_13.E r104_13 hr104_13) (fun a w => Try.call17 a w) rfl trivial) ?_
              refine Wy (.tup [(.agg [(.d (.lit (.int .i64 r104_13.1.Cap))), (.d (.sl (List.length r104_13.1.L) (flatD enc_GEvent r104_13.1.L)))]), (.d (.lit (.int .i64 r104_13.2)))]) [] (Omv rfl) ?_
              refine Wy (.agg [(.d (.lit (.int .i64 r104_13.1.Cap))), (.d (.sl (List.length r104_13.1.L) (flatD enc_GEvent r104_13.1.L)))]) [] (Oex rfl) ?_
              refine Wy (.d (.lit (.int .i64 r104_13.2))) [] (Oex rfl) ?_
              refine Wy (.loc 5 0) [(5, (.box [(.d (.lit (.int .i64 0))), (.d .nil)]))] (Oal rfl) ?_
              refine Wy (.tup []) [(5, (.box [(.d (.lit (.int .i64 r104_13.1.Cap))), (.d (.sl (List.length r104_13.1.L) (flatD enc_GEvent r104_13.1.L)))]))] (Ost rfl) ?_
              refine Wy (.d (.lit (.int .i64 r104_13.2))) [] (Omv rfl) ?_
              refine Wdr ?_
              refine Then.normal ?_
              refine Amk 246434 51 ⟨(tp 1 ((.d (.sl (List.length p1) (flatD enc_GOp p1))) :: (tp 3 ((.loc 0 0) :: (tp 1 ((.loc 1 0) :: (tp 1 ((.d (.lit (.int .i64 y9_4))) :: (tp 4 ((.loc 4 0) :: ((.d (.lit (.int .i64 r94_12.2))) :: ((.loc 5 0) :: ((.d (.lit (.int .i64 r104_13.2))) :: (tp 129 [])))))))))))))), [(.box [(.d (.lit (.int .i64 y5_d_4.Cap))), (.d (.sl (List.length y5_d_4.L) (flatD enc_GEvent y5_d_4.L)))]), (.box [(.d (.lit (.int .i64 y7_d_4.Cap))), (.d (.sl (List.length y7_d_4.L) (flatD enc_GEvent y7_d_4.L)))]), .gone, .gone, (.box [(.d (.lit (.int .i64 r94_12.1.Cap))), (.d (.sl (List.length r94_12.1.L) (flatD enc_GEvent r94_12.1.L)))]), (.box [(.d (.lit (.int .i64 r104_13.1.Cap))), (.d (.sl (List.length r104_13.1.L) (flatD enc_GEvent r104_13.1.L)))])], 0⟩ ?_
              refine AWP.seq ?_
              refine AWP.seq ?_
              refine AWP.text ?_
              refine Wy (.d (.lit (.int .i64 r94_12.2))) [] (Omv rfl) ?_
              refine Wy (.d (.lit (.int .i64 r104_13.2))) [] (Omv rfl) ?_
              refine Wy (.d (.lit (.bool (decide (r94_12.2 ≠ r104_13.2))))) [] (Obn rfl (fun _ => hb_neq (k := .i64))) ?_
              refine Walk.nil ?_
              refine Then.normal ?_
              refine Amk 649037107316853453566312041235106 51 ⟨(tp 1 ((.d (.sl (List.length p1) (flatD enc_GOp p1))) :: (tp 3 ((.loc 0 0) :: (tp 1 ((.loc 1 0) :: (tp 1 ((.d (.lit (.int .i64 y9_4))) :: (tp 4 ((.loc 4 0) :: (tp 1 ((.loc 5 0) :: (tp 92 ((.d (.lit (.bool (decide (r94_12.2 ≠ r104_13.2))))) :: (tp 37 []))))))))))))))), [(.box [(.d (.lit (.int .i64 y5_d_4.Cap))), (.d (.sl (List.length y5_d_4.L) (flatD enc_GEvent y5_d_4.L)))]), (.box [(.d (.lit (.int .i64 y7_d_4.Cap))), (.d (.sl (List.length y7_d_4.L) (flatD enc_GEvent y7_d_4.L)))]), .gone, .gone, (.box [(.d (.lit (.int .i64 r94_12.1.Cap))), (.d (.sl (List.length r94_12.1.L) (flatD enc_GEvent r94_12.1.L)))]), (.box [(.d (.lit (.int .i64 r104_13.1.Cap))), (.d (.sl (List.length r104_13.1.L) (flatD enc_GEvent r104_13.1.L)))])], 0⟩ ?_
              rcases tf_ (decide (r94_12.2 ≠ r104_13.2)) with hc109_27 | hc109_27
              · replace hm := cT hc109_27 hm
                refine AWP.if_ true (Eq.trans (by kernel_rfl) (lit_tf (b := decide (r94_12.2 ≠ r104_13.2)) hc109_27)) ?_
                refine AWP.seq ?_
                refine AWP.text ?_
                refine Wy (.d (.lit (.bool false))) [] (Omv rfl) ?_
                refine Walk.nil ?_
                refine Then.normal ?_
                refine AWP.ret ?_
                refine Then.ret ?_
                refine Then.ret ?_
                refine InBlock.ret ?_
                refine Then.ret ?_
                refine RoundK.ret ?_
                refine InBlock.ret ?_
                refine Then.ret ?_
                obtain rfl := Option.some.inj hm
                exact ret_i []
              · replace hm := cF hc109_27 hm
                refine AWP.if_ false (Eq.trans (by kernel_rfl) (lit_tf (b := decide (r94_12.2 ≠ r104_13.2)) hc109_27)) ?_
                refine AWP.skip ?_
                refine Then.normal ?_
                refine Amk 82594 51 ⟨(tp 1 ((.d (.sl (List.length p1) (flatD enc_GOp p1))) :: (tp 3 ((.loc 0 0) :: (tp 1 ((.loc 1 0) :: (tp 1 ((.d (.lit (.int .i64 y9_4))) :: (tp 4 ((.loc 4 0) :: (tp 1 ((.loc 5 0) :: (tp 130 []))))))))))))), [(.box [(.d (.lit (.int .i64 y5_d_4.Cap))), (.d (.sl (List.length y5_d_4.L) (flatD enc_GEvent y5_d_4.L)))]), (.box [(.d (.lit (.int .i64 y7_d_4.Cap))), (.d (.sl (List.length y7_d_4.L) (flatD enc_GEvent y7_d_4.L)))]), .gone, .gone, (.box [(.d (.lit (.int .i64 r94_12.1.Cap))), (.d (.sl (List.length r94_12.1.L) (flatD enc_GEvent r94_12.1.L)))]), (.box [(.d (.lit (.int .i64 r104_13.1.Cap))), (.d (.sl (List.length r104_13.1.L) (flatD enc_GEvent r104_13.1.L)))])], 0⟩ ?_
                refine Adr ?_
                refine Wy (.agg [(.d (.lit (.int .i64 r94_12.1.Cap))), (.d (.sl (List.length r94_12.1.L) (flatD enc_GEvent r94_12.1.L)))]) [] (Old rfl) ?_
                refine Wy (.agg [(.d (.lit (.int .i64 r104_13.1.Cap))), (.d (.sl (List.length r104_13.1.L) (flatD enc_GEvent r104_13.1.L)))]) [] (Old rfl) ?_
                refine Wy (.tup []) [(0, (.box [(.d (.lit (.int .i64 r94_12.1.Cap))), (.d (.sl (List.length r94_12.1.L) (flatD enc_GEvent r94_12.1.L)))]))] (Ost rfl) ?_
                refine Wy (.tup []) [(1, (.box [(.d (.lit (.int .i64 r104_13.1.Cap))), (.d (.sl (List.length r104_13.1.L) (flatD enc_GEvent r104_13.1.L)))]))] (Ost rfl) ?_
                refine Wdr ?_
                refine Then.normal ?_
                exact AWP.weak (Weak.toK 674 0 0 [0, 1]) (J14 (r94_12.1, r104_13.1.Cap, r104_13.1.L) hm)
        · replace hm := cF hc42_22 hm
          refine AWP.if_ false (Eq.trans (by kernel_rfl) (lit_tf (b := decide (y9_4 < ((List.length p1 : Nat) : Int))) hc42_22)) ?_
          refine AWP.exit ?_
          refine Then.exit ?_
          refine RoundK.exit ?_
          refine InBlock.same ?_
          refine Then.normal ?_
          refine Amk 0 0 ⟨(tp 147 []), [.gone, .gone], 0⟩ ?_
          refine AWP.seq ?_
          refine AWP.text ?_
          obtain ⟨r146_19, hr146_19, hm⟩ := bnd hm
          refine Wy (.d (.lit (.bool r146_19))) [] (Ocf [] [] [] 0 (ok_telltalelaw24_awake  r146_19 hr146_19) (fun a w => Try.call7 a w) rfl trivial) ?_
          refine Wy (.d (.lit (.bool r146_19))) [] (Omv rfl) ?_
          refine Walk.nil ?_
          refine Then.normal ?_
          refine AWP.ret ?_
          obtain rfl := Option.some.inj hm
          exact ret_i []

set_option maxRecDepth 20000 in
set_option maxHeartbeats 4000000 in
theorem ok_event_order (p0 : GEvent) (p1 : GEvent) (r : Int) (h : m_event_order p0 p1 = some r) : GCall Try.prog 42 [(.agg [(.d (.lit (.int .i64 p0.Time))), (.d (.lit (.int .i64 p0.Source))), (.d (.lit (.int .i64 p0.Seq))), (.d (.lit (.string (toS p0.Type_)))), (.d (.sl (List.length p0.Vals) (flatD enc_GValue p0.Vals)))]), (.agg [(.d (.lit (.int .i64 p1.Time))), (.d (.lit (.int .i64 p1.Source))), (.d (.lit (.int .i64 p1.Seq))), (.d (.lit (.string (toS p1.Type_)))), (.d (.sl (List.length p1.Vals) (flatD enc_GValue p1.Vals)))])] [] (.d (.lit (.int .i64 r))) [] := by
  refine GCall.of_body (n := 17) (rs := [(.tmp 4)]) Try.func42 rfl rfl rfl ?_
  refine Ato ⟨((.agg [(.d (.lit (.int .i64 p0.Time))), (.d (.lit (.int .i64 p0.Source))), (.d (.lit (.int .i64 p0.Seq))), (.d (.lit (.string (toS p0.Type_)))), (.d (.sl (List.length p0.Vals) (flatD enc_GValue p0.Vals)))]) :: ((.agg [(.d (.lit (.int .i64 p1.Time))), (.d (.lit (.int .i64 p1.Source))), (.d (.lit (.int .i64 p1.Seq))), (.d (.lit (.string (toS p1.Type_)))), (.d (.sl (List.length p1.Vals) (flatD enc_GValue p1.Vals)))]) :: (tu 15 []))), [], 0⟩ ?_
  have hm := h
  unfold m_event_order at hm
  refine AWP.seq ?_
  refine AWP.text ?_
  refine Wy (.loc 0 0) [(0, (.box [(.d (.lit (.int .i64 p0.Time))), (.d (.lit (.int .i64 p0.Source))), (.d (.lit (.int .i64 p0.Seq))), (.d (.lit (.string (toS p0.Type_)))), (.d (.sl (List.length p0.Vals) (flatD enc_GValue p0.Vals)))]))] (Obx rfl) ?_
  refine Wy (.loc 1 0) [(1, (.box [(.d (.lit (.int .i64 p1.Time))), (.d (.lit (.int .i64 p1.Source))), (.d (.lit (.int .i64 p1.Seq))), (.d (.lit (.string (toS p1.Type_)))), (.d (.sl (List.length p1.Vals) (flatD enc_GValue p1.Vals)))]))] (Obx rfl) ?_
  refine Wy (.d (.lit (.int .i64 0))) [] (Omv rfl) ?_
  refine Walk.nil ?_
  refine Then.normal ?_
  refine Amk 12 3 ⟨(tp 2 ((.loc 0 0) :: ((.loc 1 0) :: (tp 13 [])))), [(.box [(.d (.lit (.int .i64 p0.Time))), (.d (.lit (.int .i64 p0.Source))), (.d (.lit (.int .i64 p0.Seq))), (.d (.lit (.string (toS p0.Type_)))), (.d (.sl (List.length p0.Vals) (flatD enc_GValue p0.Vals)))]), (.box [(.d (.lit (.int .i64 p1.Time))), (.d (.lit (.int .i64 p1.Source))), (.d (.lit (.int .i64 p1.Seq))), (.d (.lit (.string (toS p1.Type_)))), (.d (.sl (List.length p1.Vals) (flatD enc_GValue p1.Vals)))])], 0⟩ ?_
  refine AWP.seq ?_
  refine Adr ?_
  refine Wy (.agg [(.d (.lit (.int .i64 p0.Time))), (.d (.lit (.int .i64 p0.Source))), (.d (.lit (.int .i64 p0.Seq))), (.d (.lit (.string (toS p0.Type_)))), (.d (.sl (List.length p0.Vals) (flatD enc_GValue p0.Vals)))]) [] (Old rfl) ?_
  obtain ⟨r8_0, hr8_0, hm⟩ := bnd hm
  refine Wy (.agg [(.d (.lit (.int .i64 r8_0.Time))), (.d (.lit (.int .i64 r8_0.Source))), (.d (.lit (.int .i64 r8_0.Seq)))]) [] (Ocf [] [] [] 0 (ok_event_Event_ID p0 r8_0 hr8_0) (fun a w => Try.call33 a w) rfl trivial) ?_
  refine Wy (.agg [(.d (.lit (.int .i64 p1.Time))), (.d (.lit (.int .i64 p1.Source))), (.d (.lit (.int .i64 p1.Seq))), (.d (.lit (.string (toS p1.Type_)))), (.d (.sl (List.length p1.Vals) (flatD enc_GValue p1.Vals)))]) [] (Old rfl) ?_
  obtain ⟨r10_0, hr10_0, hm⟩ := bnd hm
  refine Wy (.agg [(.d (.lit (.int .i64 r10_0.Time))), (.d (.lit (.int .i64 r10_0.Source))), (.d (.lit (.int .i64 r10_0.Seq)))]) [] (Ocf [] [] [] 0 (ok_event_Event_ID p1 r10_0 hr10_0) (fun a w => Try.call33 a w) rfl trivial) ?_
  refine Wy (.loc 2 0) [(2, (.box [(.d (.lit (.int .i64 0))), (.d (.lit (.int .i64 0))), (.d (.lit (.int .i64 0)))]))] (Oal rfl) ?_
  refine Wy (.loc 3 0) [(3, (.box [(.d (.lit (.int .i64 0))), (.d (.lit (.int .i64 0))), (.d (.lit (.int .i64 0)))]))] (Oal rfl) ?_
  refine Wy (.tup []) [(2, (.box [(.d (.lit (.int .i64 r8_0.Time))), (.d (.lit (.int .i64 r8_0.Source))), (.d (.lit (.int .i64 r8_0.Seq)))]))] (Ost rfl) ?_
  refine Wy (.tup []) [(3, (.box [(.d (.lit (.int .i64 r10_0.Time))), (.d (.lit (.int .i64 r10_0.Source))), (.d (.lit (.int .i64 r10_0.Seq)))]))] (Ost rfl) ?_
  refine Wdr ?_
  refine Then.normal ?_
  refine Amk 96 12 ⟨(tp 5 ((.loc 2 0) :: ((.loc 3 0) :: (tp 10 [])))), [.gone, .gone, (.box [(.d (.lit (.int .i64 r8_0.Time))), (.d (.lit (.int .i64 r8_0.Source))), (.d (.lit (.int .i64 r8_0.Seq)))]), (.box [(.d (.lit (.int .i64 r10_0.Time))), (.d (.lit (.int .i64 r10_0.Source))), (.d (.lit (.int .i64 r10_0.Seq)))])], 0⟩ ?_
  refine AWP.seq ?_
  refine AWP.seq ?_
  refine AWP.text ?_
  refine Wy (.agg [(.d (.lit (.int .i64 r8_0.Time))), (.d (.lit (.int .i64 r8_0.Source))), (.d (.lit (.int .i64 r8_0.Seq)))]) [] (Old rfl) ?_
  refine Wy (.agg [(.d (.lit (.int .i64 r10_0.Time))), (.d (.lit (.int .i64 r10_0.Source))), (.d (.lit (.int .i64 r10_0.Seq)))]) [] (Old rfl) ?_
  obtain ⟨v13_1, hv13_1, hm⟩ := bnd hm; replace hv13_1 := Option.some.inj hv13_1
  refine Wy (.d (.lit (.bool v13_1))) [] (Ocs (Eq.trans (by kernel_rfl) (congrArg (fun z => A.d (.lit (.bool z))) hv13_1)) (op_eql_struct rfl (la := [(.d (.lit (.int .i64 r8_0.Time))), (.d (.lit (.int .i64 r8_0.Source))), (.d (.lit (.int .i64 r8_0.Seq)))]) (lb := [(.d (.lit (.int .i64 r10_0.Time))), (.d (.lit (.int .i64 r10_0.Source))), (.d (.lit (.int .i64 r10_0.Seq)))]) (us := [.int .i64 r8_0.Time, .int .i64 r8_0.Source, .int .i64 r8_0.Seq]) (vs := [.int .i64 r10_0.Time, .int .i64 r10_0.Source, .int .i64 r10_0.Seq]) (r := (decide (r8_0.Time = r10_0.Time) && (decide (r8_0.Source = r10_0.Source) && (decide (r8_0.Seq = r10_0.Seq) && true)))) (by kernel_rfl) (by kernel_rfl) (by kernel_rfl) (by kernel_rfl) (by kernel_rfl))) ?_
  refine Walk.nil ?_
  refine Then.normal ?_
  refine Amk 8288 12 ⟨(tp 5 ((.loc 2 0) :: ((.loc 3 0) :: (tp 6 ((.d (.lit (.bool v13_1))) :: (tp 3 [])))))), [.gone, .gone, (.box [(.d (.lit (.int .i64 r8_0.Time))), (.d (.lit (.int .i64 r8_0.Source))), (.d (.lit (.int .i64 r8_0.Seq)))]), (.box [(.d (.lit (.int .i64 r10_0.Time))), (.d (.lit (.int .i64 r10_0.Source))), (.d (.lit (.int .i64 r10_0.Seq)))])], 0⟩ ?_
  rcases tf_ v13_1 with hc13_3 | hc13_3
  · replace hm := cT hc13_3 hm
    refine AWP.if_ true (Eq.trans (by kernel_rfl) (lit_tf (b := v13_1) hc13_3)) ?_
    refine AWP.seq ?_
    refine AWP.text ?_
    refine Wy (.d (.lit (.int .i64 0))) [] (Omv rfl) ?_
    refine Walk.nil ?_
    refine Then.normal ?_
    refine AWP.ret ?_
    refine Then.ret ?_
    obtain rfl := Option.some.inj hm
    exact ret_i []
  · replace hm := cF hc13_3 hm
    refine AWP.if_ false (Eq.trans (by kernel_rfl) (lit_tf (b := v13_1) hc13_3)) ?_
    refine AWP.skip ?_
    refine Then.normal ?_
    refine Amk 96 12 ⟨(tp 5 ((.loc 2 0) :: ((.loc 3 0) :: (tp 10 [])))), [.gone, .gone, (.box [(.d (.lit (.int .i64 r8_0.Time))), (.d (.lit (.int .i64 r8_0.Source))), (.d (.lit (.int .i64 r8_0.Seq)))]), (.box [(.d (.lit (.int .i64 r10_0.Time))), (.d (.lit (.int .i64 r10_0.Source))), (.d (.lit (.int .i64 r10_0.Seq)))])], 0⟩ ?_
    refine AWP.seq ?_
    refine AWP.seq ?_
    refine AWP.text ?_
    refine Wy (.agg [(.d (.lit (.int .i64 r8_0.Time))), (.d (.lit (.int .i64 r8_0.Source))), (.d (.lit (.int .i64 r8_0.Seq)))]) [] (Old rfl) ?_
    refine Wy (.agg [(.d (.lit (.int .i64 r10_0.Time))), (.d (.lit (.int .i64 r10_0.Source))), (.d (.lit (.int .i64 r10_0.Seq)))]) [] (Old rfl) ?_
    obtain ⟨r16_2, hr16_2, hm⟩ := bnd hm
    refine Wy (.d (.lit (.bool r16_2))) [] (Ocf [] [] [] 0 (ok_event_ID_Less r8_0 r10_0 r16_2 hr16_2) (fun a w => Try.call51 a w) rfl trivial) ?_
    refine Walk.nil ?_
    refine Then.normal ?_
    refine Amk 65536 0 ⟨(tp 16 ((.d (.lit (.bool r16_2))) :: [])), [.gone, .gone, .gone, .gone], 0⟩ ?_
    rcases tf_ r16_2 with hc16_4 | hc16_4
    · replace hm := cT hc16_4 hm
      refine AWP.if_ true (Eq.trans (by kernel_rfl) (lit_tf (b := r16_2) hc16_4)) ?_
      refine AWP.seq ?_
      refine AWP.text ?_
      refine Wy (.d (.lit (.int .i64 (-1)))) [] (Omv rfl) ?_
      refine Walk.nil ?_
      refine Then.normal ?_
      refine AWP.ret ?_
      refine Then.ret ?_
      obtain rfl := Option.some.inj hm
      exact ret_i []
    · replace hm := cF hc16_4 hm
      refine AWP.if_ false (Eq.trans (by kernel_rfl) (lit_tf (b := r16_2) hc16_4)) ?_
      refine AWP.skip ?_
      refine Then.normal ?_
      refine Amk 0 0 ⟨(tp 17 []), [.gone, .gone, .gone, .gone], 0⟩ ?_
      refine AWP.seq ?_
      refine AWP.text ?_
      refine Wy (.d (.lit (.int .i64 1))) [] (Omv rfl) ?_
      refine Walk.nil ?_
      refine Then.normal ?_
      refine AWP.ret ?_
      obtain rfl := Option.some.inj hm
      exact ret_i []

set_option maxRecDepth 20000 in
set_option maxHeartbeats 4000000 in
theorem ok_event_Sorted (p0 : (List GEvent)) (r : Bool) (h : m_event_Sorted p0 = some r) : GCall Try.prog 24 [(.d (.sl (List.length p0) (flatD enc_GEvent p0)))] [] (.d (.lit (.bool r))) [] := by
  refine GCall.of_body (n := 21) (rs := [(.tmp 2)]) Try.func24 rfl rfl rfl ?_
  refine Ato ⟨((.d (.sl (List.length p0) (flatD enc_GEvent p0))) :: (tu 20 [])), [], 0⟩ ?_
  have hm := h
  unfold m_event_Sorted at hm
  refine AWP.seq ?_
  refine AWP.text ?_
  refine Wy (.d (.lit (.bool false))) [] (Omv rfl) ?_
  refine Walk.nil ?_
  refine Then.normal ?_
  refine Amk 1 0 ⟨((.d (.sl (List.length p0) (flatD enc_GEvent p0))) :: (tp 20 [])), [], 0⟩ ?_
  refine AWP.seq ?_
  refine AWP.seq ?_
  refine AWP.text ?_
  refine Wy (.d (.lit (.int .i64 1))) [] (Omv rfl) ?_
  refine Walk.nil ?_
  refine Then.normal ?_
  refine Amk 9 0 ⟨((.d (.sl (List.length p0) (flatD enc_GEvent p0))) :: (tp 2 ((.d (.lit (.int .i64 1))) :: (tp 17 [])))), [], 0⟩ ?_
  refine AWP.block ?_
  refine AWP.loopI (α := Nat × Int)
    (fun x => match x with | (fu_0, y3_0) => (⟨((.d (.sl (List.length p0) (flatD enc_GEvent p0))) :: (tp 2 ((.d (.lit (.int .i64 y3_0))) :: (tp 17 [])))), [], 0⟩ : St))
    (fun x => match x with | (fu_0, y3_0) => m_event_Sorted_l0 p0 fu_0 y3_0 = some r)
    (fun x => match x with | (fu_0, y3_0) => fu_0) (1152921504606846976, 1)
    (Weak.toK 9 0 0 []) hm ?_
  rintro ⟨fu_0, y3_0⟩ n_0 hm ih_0
  try dsimp only at hm ih_0 ⊢
  cases fu_0 with
  | zero => exact absurd hm (by unfold m_event_Sorted_l0; simp)
  | succ fu_0 =>
    unfold m_event_Sorted_l0 at hm
    refine AWP.seq ?_
    refine AWP.seq ?_
    refine AWP.text ?_
    refine Wy (.d (.lit (.int .i64 y3_0))) [] (Omv rfl) ?_
    refine Wy (.d (.sl (List.length p0) (flatD enc_GEvent p0))) [] (Omv rfl) ?_
    refine Wy (.d (.lit (.int .i64 ((List.length p0 : Nat) : Int)))) [] (Oln rfl) ?_
    refine Wy (.d (.lit (.bool (decide (y3_0 < ((List.length p0 : Nat) : Int)))))) [] (Obn rfl (fun _ => hb_lss (k := .i64))) ?_
    refine Walk.nil ?_
    refine Then.normal ?_
    refine Amk 137 0 ⟨((.d (.sl (List.length p0) (flatD enc_GEvent p0))) :: (tp 2 ((.d (.lit (.int .i64 y3_0))) :: (tp 3 ((.d (.lit (.bool (decide (y3_0 < ((List.length p0 : Nat) : Int)))))) :: (tp 13 [])))))), [], 0⟩ ?_
    rcases tf_ (decide (y3_0 < ((List.length p0 : Nat) : Int))) with hc7_3 | hc7_3
    · replace hm := cT hc7_3 hm
      refine AWP.if_ true (Eq.trans (by kernel_rfl) (lit_tf (b := decide (y3_0 < ((List.length p0 : Nat) : Int))) hc7_3)) ?_
      refine AWP.skip ?_
      refine Then.normal ?_
      refine Amk 9 0 ⟨((.d (.sl (List.length p0) (flatD enc_GEvent p0))) :: (tp 2 ((.d (.lit (.int .i64 y3_0))) :: (tp 17 [])))), [], 0⟩ ?_
      refine AWP.seq ?_
      refine AWP.block ?_
      refine AWP.seq ?_
      refine Adr ?_
      refine Wy (.d (.sl (List.length p0) (flatD enc_GEvent p0))) [] (Omv rfl) ?_
      refine Wy (.d (.lit (.int .i64 y3_0))) [] (Omv rfl) ?_
      refine Wy (.d (.lit (.int .i64 (IntKind.i64.wrap (y3_0 - 1))))) [] (Obn rfl (fun _ => hb_sub (k := .i64))) ?_
      obtain ⟨x13_2, hx13_2, hm⟩ := bnd hm
      obtain ⟨hx13_2i, hx13_2g⟩ := geti_some hx13_2
      refine Wy (.d (.ref (List.drop ((Int.toNat (IntKind.i64.wrap (y3_0 - 1))) * 5) (flatD enc_GEvent p0)))) [] (Oia rfl enc_GEvent_len hx13_2i hx13_2g) ?_
      refine Wy (.agg [(.d (.lit (.int .i64 x13_2.Time))), (.d (.lit (.int .i64 x13_2.Source))), (.d (.lit (.int .i64 x13_2.Seq))), (.d (.lit (.string (toS x13_2.Type_)))), (.d (.sl (List.length x13_2.Vals) (flatD enc_GValue x13_2.Vals)))]) [] (Lf rfl enc_GEvent_len hx13_2g) ?_
      refine Wy (.d (.sl (List.length p0) (flatD enc_GEvent p0))) [] (Omv rfl) ?_
      refine Wy (.d (.lit (.int .i64 y3_0))) [] (Omv rfl) ?_
      obtain ⟨x17_2, hx17_2, hm⟩ := bnd hm
      obtain ⟨hx17_2i, hx17_2g⟩ := geti_some hx17_2
      refine Wy (.d (.ref (List.drop ((Int.toNat y3_0) * 5) (flatD enc_GEvent p0)))) [] (Oia rfl enc_GEvent_len hx17_2i hx17_2g) ?_
      refine Wy (.agg [(.d (.lit (.int .i64 x17_2.Time))), (.d (.lit (.int .i64 x17_2.Source))), (.d (.lit (.int .i64 x17_2.Seq))), (.d (.lit (.string (toS x17_2.Type_)))), (.d (.sl (List.length x17_2.Vals) (flatD enc_GValue x17_2.Vals)))]) [] (Lf rfl enc_GEvent_len hx17_2g) ?_
      obtain ⟨r19_2, hr19_2, hm⟩ := bnd hm
      refine Wy (.d (.lit (.int .i64 r19_2))) [] (Ocf [] [] [] 0 (ok_event_order x13_2 x17_2 r19_2 hr19_2) (fun a w => Try.call42 a w) rfl trivial) ?_
      refine Wy (.d (.lit (.bool (decide ((0 : Int) ≤ r19_2))))) [] (Obn rfl (fun _ => hb_geq (k := .i64))) ?_
      refine Wdr ?_
      refine Then.normal ?_
      refine Amk 1048585 0 ⟨((.d (.sl (List.length p0) (flatD enc_GEvent p0))) :: (tp 2 ((.d (.lit (.int .i64 y3_0))) :: (tp 16 ((.d (.lit (.bool (decide ((0 : Int) ≤ r19_2))))) :: []))))), [], 0⟩ ?_
      rcases tf_ (decide ((0 : Int) ≤ r19_2)) with hc20_4 | hc20_4
      · replace hm := cT hc20_4 hm
        refine AWP.if_ true (Eq.trans (by kernel_rfl) (lit_tf (b := decide ((0 : Int) ≤ r19_2)) hc20_4)) ?_
        refine AWP.seq ?_
        refine AWP.text ?_
        refine Wy (.d (.lit (.bool false))) [] (Omv rfl) ?_
        refine Walk.nil ?_
        refine Then.normal ?_
        refine AWP.ret ?_
        refine InBlock.ret ?_
        refine Then.ret ?_
        refine RoundK.ret ?_
        refine InBlock.ret ?_
        refine Then.ret ?_
        obtain rfl := Option.some.inj hm
        exact ret_i []
      · replace hm := cF hc20_4 hm
        refine AWP.if_ false (Eq.trans (by kernel_rfl) (lit_tf (b := decide ((0 : Int) ≤ r19_2)) hc20_4)) ?_
        refine AWP.skip ?_
        refine InBlock.normal ?_
        refine Then.normal ?_
        refine Amk 9 0 ⟨((.d (.sl (List.length p0) (flatD enc_GEvent p0))) :: (tp 2 ((.d (.lit (.int .i64 y3_0))) :: (tp 17 [])))), [], 0⟩ ?_
        refine AWP.text ?_
        refine Wy (.d (.lit (.int .i64 y3_0))) [] (Omv rfl) ?_
        refine Wy (.d (.lit (.int .i64 (IntKind.i64.wrap (y3_0 + 1))))) [] (Obn rfl (fun _ => hb_add (k := .i64))) ?_
        refine Wy (.d (.lit (.int .i64 (IntKind.i64.wrap (y3_0 + 1))))) [] (Omv rfl) ?_
        refine Walk.nil ?_
        refine RoundK.normal ?_
        exact Rounds.weak (Weak.toK 9 0 0 []) (ih_0 (fu_0, (IntKind.i64.wrap (y3_0 + 1))) hm (Nat.lt_succ_self _))
    · replace hm := cF hc7_3 hm
      refine AWP.if_ false (Eq.trans (by kernel_rfl) (lit_tf (b := decide (y3_0 < ((List.length p0 : Nat) : Int))) hc7_3)) ?_
      refine AWP.exit ?_
      refine Then.exit ?_
      refine RoundK.exit ?_
      refine InBlock.same ?_
      refine Then.normal ?_
      refine Amk 0 0 ⟨(tp 21 []), [], 0⟩ ?_
      refine AWP.seq ?_
      refine AWP.text ?_
      refine Wy (.d (.lit (.bool true))) [] (Omv rfl) ?_
      refine Walk.nil ?_
      refine Then.normal ?_
      refine AWP.ret ?_
      obtain rfl := Option.some.inj hm
      exact ret_i []

set_option maxRecDepth 20000 in
set_option maxHeartbeats 4000000 in
theorem ok_slices_Equal_Value (p0 : (List GValue)) (p1 : (List GValue)) (r : Bool) (h : m_slices_Equal_Value p0 p1 = some r) : GCall Try.prog 43 [(.d (.sl (List.length p0) (flatD enc_GValue p0))), (.d (.sl (List.length p1) (flatD enc_GValue p1)))] [] (.d (.lit (.bool r))) [] := by
  refine GCall.of_body (n := 26) (rs := [(.tmp 4)]) Try.func43 rfl rfl rfl ?_
  refine Ato ⟨((.d (.sl (List.length p0) (flatD enc_GValue p0))) :: ((.d (.sl (List.length p1) (flatD enc_GValue p1))) :: (tu 24 []))), [], 0⟩ ?_
  have hm := h
  unfold m_slices_Equal_Value at hm
  refine AWP.seq ?_
  refine AWP.text ?_
  refine Wy (.d (.lit (.bool false))) [] (Omv rfl) ?_
  refine Walk.nil ?_
  refine Then.normal ?_
  refine Amk 3 0 ⟨((.d (.sl (List.length p0) (flatD enc_GValue p0))) :: ((.d (.sl (List.length p1) (flatD enc_GValue p1))) :: (tp 24 []))), [], 0⟩ ?_
  refine AWP.seq ?_
  refine AWP.seq ?_
  refine AWP.text ?_
  refine Wy (.d (.sl (List.length p0) (flatD enc_GValue p0))) [] (Omv rfl) ?_
  refine Wy (.d (.lit (.int .i64 ((List.length p0 : Nat) : Int)))) [] (Oln rfl) ?_
  refine Wy (.d (.sl (List.length p1) (flatD enc_GValue p1))) [] (Omv rfl) ?_
  refine Wy (.d (.lit (.int .i64 ((List.length p1 : Nat) : Int)))) [] (Oln rfl) ?_
  refine Wy (.d (.lit (.bool (decide (((List.length p0 : Nat) : Int) ≠ ((List.length p1 : Nat) : Int)))))) [] (Obn rfl (fun _ => hb_neq (k := .i64))) ?_
  refine Walk.nil ?_
  refine Then.normal ?_
  refine Amk 1027 0 ⟨((.d (.sl (List.length p0) (flatD enc_GValue p0))) :: ((.d (.sl (List.length p1) (flatD enc_GValue p1))) :: (tp 8 ((.d (.lit (.bool (decide (((List.length p0 : Nat) : Int) ≠ ((List.length p1 : Nat) : Int)))))) :: (tp 15 []))))), [], 0⟩ ?_
  rcases tf_ (decide (((List.length p0 : Nat) : Int) ≠ ((List.length p1 : Nat) : Int))) with hc10_4 | hc10_4
  · replace hm := cT hc10_4 hm
    refine AWP.if_ true (Eq.trans (by kernel_rfl) (lit_tf (b := decide (((List.length p0 : Nat) : Int) ≠ ((List.length p1 : Nat) : Int))) hc10_4)) ?_
    refine AWP.seq ?_
    refine AWP.text ?_
    refine Wy (.d (.lit (.bool false))) [] (Omv rfl) ?_
    refine Walk.nil ?_
    refine Then.normal ?_
    refine AWP.ret ?_
    refine Then.ret ?_
    obtain rfl := Option.some.inj hm
    exact ret_i []
  · replace hm := cF hc10_4 hm
    refine AWP.if_ false (Eq.trans (by kernel_rfl) (lit_tf (b := decide (((List.length p0 : Nat) : Int) ≠ ((List.length p1 : Nat) : Int))) hc10_4)) ?_
    refine AWP.skip ?_
    refine Then.normal ?_
    refine Amk 3 0 ⟨((.d (.sl (List.length p0) (flatD enc_GValue p0))) :: ((.d (.sl (List.length p1) (flatD enc_GValue p1))) :: (tp 24 []))), [], 0⟩ ?_
    refine AWP.seq ?_
    refine AWP.seq ?_
    refine AWP.text ?_
    refine Wy (.d (.sl (List.length p0) (flatD enc_GValue p0))) [] (Omv rfl) ?_
    refine Wy (.d (.lit (.int .i64 ((List.length p0 : Nat) : Int)))) [] (Oln rfl) ?_
    refine Wy (.d (.lit (.int .i64 0))) [] (Omv rfl) ?_
    refine Walk.nil ?_
    refine Then.normal ?_
    refine Amk 12291 0 ⟨((.d (.sl (List.length p0) (flatD enc_GValue p0))) :: ((.d (.sl (List.length p1) (flatD enc_GValue p1))) :: (tp 10 ((.d (.lit (.int .i64 ((List.length p0 : Nat) : Int)))) :: ((.d (.lit (.int .i64 0))) :: (tp 12 [])))))), [], 0⟩ ?_
    refine AWP.block ?_
    refine AWP.loopI (α := Nat × Int)
      (fun x => match x with | (fu_2, y13_2) => (⟨((.d (.sl (List.length p0) (flatD enc_GValue p0))) :: ((.d (.sl (List.length p1) (flatD enc_GValue p1))) :: (tp 10 ((.d (.lit (.int .i64 ((List.length p0 : Nat) : Int)))) :: ((.d (.lit (.int .i64 y13_2))) :: (tp 12 [])))))), [], 0⟩ : St))
      (fun x => match x with | (fu_2, y13_2) => m_slices_Equal_Value_l2 p0 p1 fu_2 y13_2 = some r)
      (fun x => match x with | (fu_2, y13_2) => fu_2) (1152921504606846976, 0)
      (Weak.toK 12291 0 0 []) hm ?_
    rintro ⟨fu_2, y13_2⟩ n_2 hm ih_2
    try dsimp only at hm ih_2 ⊢
    cases fu_2 with
    | zero => exact absurd hm (by unfold m_slices_Equal_Value_l2; simp)
    | succ fu_2 =>
      unfold m_slices_Equal_Value_l2 at hm
      refine AWP.seq ?_
      refine AWP.text ?_
      refine Wy (.d (.lit (.bool (decide (y13_2 < ((List.length p0 : Nat) : Int)))))) [] (Obn rfl (fun _ => hb_lss (k := .i64))) ?_
      refine Walk.nil ?_
      refine Then.normal ?_
      refine Amk 28675 0 ⟨((.d (.sl (List.length p0) (flatD enc_GValue p0))) :: ((.d (.sl (List.length p1) (flatD enc_GValue p1))) :: (tp 10 ((.d (.lit (.int .i64 ((List.length p0 : Nat) : Int)))) :: ((.d (.lit (.int .i64 y13_2))) :: ((.d (.lit (.bool (decide (y13_2 < ((List.length p0 : Nat) : Int)))))) :: (tp 11 []))))))), [], 0⟩ ?_
      refine AWP.seq ?_
      rcases tf_ (decide (y13_2 < ((List.length p0 : Nat) : Int))) with hc14_5 | hc14_5
      · replace hm := cT hc14_5 hm
        refine AWP.if_ true (Eq.trans (by kernel_rfl) (lit_tf (b := decide (y13_2 < ((List.length p0 : Nat) : Int))) hc14_5)) ?_
        refine AWP.skip ?_
        refine Then.normal ?_
        refine Amk 12291 0 ⟨((.d (.sl (List.length p0) (flatD enc_GValue p0))) :: ((.d (.sl (List.length p1) (flatD enc_GValue p1))) :: (tp 10 ((.d (.lit (.int .i64 ((List.length p0 : Nat) : Int)))) :: ((.d (.lit (.int .i64 y13_2))) :: (tp 12 [])))))), [], 0⟩ ?_
        refine AWP.seq ?_
        refine AWP.block ?_
        refine AWP.seq ?_
        refine AWP.text ?_
        refine Wy (.d (.lit (.int .i64 y13_2))) [] (Omv rfl) ?_
        refine Wy (.d (.lit (.int .i64 y13_2))) [] (Omv rfl) ?_
        refine Walk.nil ?_
        refine Then.normal ?_
        refine Amk 12323 0 ⟨((.d (.sl (List.length p0) (flatD enc_GValue p0))) :: ((.d (.sl (List.length p1) (flatD enc_GValue p1))) :: (tp 3 ((.d (.lit (.int .i64 y13_2))) :: (tp 6 ((.d (.lit (.int .i64 ((List.length p0 : Nat) : Int)))) :: ((.d (.lit (.int .i64 y13_2))) :: (tp 12 [])))))))), [], 0⟩ ?_
        refine AWP.seq ?_
        refine Adr ?_
        refine Wy (.d (.sl (List.length p0) (flatD enc_GValue p0))) [] (Omv rfl) ?_
        refine Wy (.d (.lit (.int .i64 y13_2))) [] (Omv rfl) ?_
        obtain ⟨x18_3, hx18_3, hm⟩ := bnd hm
        obtain ⟨hx18_3i, hx18_3g⟩ := geti_some hx18_3
        refine Wy (.d (.ref (List.drop ((Int.toNat y13_2) * 4) (flatD enc_GValue p0)))) [] (Oia rfl enc_GValue_len hx18_3i hx18_3g) ?_
        refine Wy (.agg [(.d (byteD x18_3.Kind)), (.d (.lit (.int .i64 x18_3.N))), (.d (.lit (.int .u64 x18_3.Bits))), (.d (.lit (.string (toS x18_3.Text))))]) [] (Lf rfl enc_GValue_len hx18_3g) ?_
        refine Wy (.d (.sl (List.length p1) (flatD enc_GValue p1))) [] (Omv rfl) ?_
        refine Wy (.d (.lit (.int .i64 y13_2))) [] (Omv rfl) ?_
        obtain ⟨x22_3, hx22_3, hm⟩ := bnd hm
        obtain ⟨hx22_3i, hx22_3g⟩ := geti_some hx22_3
        refine Wy (.d (.ref (List.drop ((Int.toNat y13_2) * 4) (flatD enc_GValue p1)))) [] (Oia rfl enc_GValue_len hx22_3i hx22_3g) ?_
        refine Wy (.agg [(.d (byteD x22_3.Kind)), (.d (.lit (.int .i64 x22_3.N))), (.d (.lit (.int .u64 x22_3.Bits))), (.d (.lit (.string (toS x22_3.Text))))]) [] (Lf rfl enc_GValue_len hx22_3g) ?_
        obtain ⟨v24_3, hv24_3, hm⟩ := bnd hm; replace hv24_3 := Option.some.inj hv24_3
        refine Wy (.d (.lit (.bool v24_3))) [] (Ocs (Eq.trans (lit_tf (by simp only [toS_inj])) (congrArg (fun z => A.d (.lit (.bool z))) hv24_3)) (op_neq_struct rfl (la := [(.d (byteD x18_3.Kind)), (.d (.lit (.int .i64 x18_3.N))), (.d (.lit (.int .u64 x18_3.Bits))), (.d (.lit (.string (toS x18_3.Text))))]) (lb := [(.d (byteD x22_3.Kind)), (.d (.lit (.int .i64 x22_3.N))), (.d (.lit (.int .u64 x22_3.Bits))), (.d (.lit (.string (toS x22_3.Text))))]) (us := [.int .u8 ((x18_3.Kind.toNat : Nat) : Int), .int .i64 x18_3.N, .int .u64 x18_3.Bits, .string (toS x18_3.Text)]) (vs := [.int .u8 ((x22_3.Kind.toNat : Nat) : Int), .int .i64 x22_3.N, .int .u64 x22_3.Bits, .string (toS x22_3.Text)]) (r := (decide (((x18_3.Kind.toNat : Nat) : Int) = ((x22_3.Kind.toNat : Nat) : Int)) && (decide (x18_3.N = x22_3.N) && (decide (x18_3.Bits = x22_3.Bits) && (decide ((toS x18_3.Text) = (toS x22_3.Text)) && true))))) (by kernel_rfl) (by kernel_rfl) (by kernel_rfl) (by kernel_rfl) (by kernel_rfl))) ?_
        refine Wdr ?_
        refine Then.normal ?_
        refine Amk 16789507 0 ⟨((.d (.sl (List.length p0) (flatD enc_GValue p0))) :: ((.d (.sl (List.length p1) (flatD enc_GValue p1))) :: (tp 10 ((.d (.lit (.int .i64 ((List.length p0 : Nat) : Int)))) :: ((.d (.lit (.int .i64 y13_2))) :: (tp 10 ((.d (.lit (.bool v24_3))) :: (tp 1 [])))))))), [], 0⟩ ?_
        rcases tf_ v24_3 with hc24_6 | hc24_6
        · replace hm := cT hc24_6 hm
          refine AWP.if_ true (Eq.trans (by kernel_rfl) (lit_tf (b := v24_3) hc24_6)) ?_
          refine AWP.seq ?_
          refine AWP.text ?_
          refine Wy (.d (.lit (.bool false))) [] (Omv rfl) ?_
          refine Walk.nil ?_
          refine Then.normal ?_
          refine AWP.ret ?_
          refine InBlock.ret ?_
          refine Then.ret ?_
          refine RoundK.ret ?_
          refine InBlock.ret ?_
          refine Then.ret ?_
          obtain rfl := Option.some.inj hm
          exact ret_i []
        · replace hm := cF hc24_6 hm
          refine AWP.if_ false (Eq.trans (by kernel_rfl) (lit_tf (b := v24_3) hc24_6)) ?_
          refine AWP.skip ?_
          refine InBlock.normal ?_
          refine Then.normal ?_
          refine Amk 12291 0 ⟨((.d (.sl (List.length p0) (flatD enc_GValue p0))) :: ((.d (.sl (List.length p1) (flatD enc_GValue p1))) :: (tp 10 ((.d (.lit (.int .i64 ((List.length p0 : Nat) : Int)))) :: ((.d (.lit (.int .i64 y13_2))) :: (tp 12 [])))))), [], 0⟩ ?_
          refine AWP.text ?_
          refine Wy (.d (.lit (.int .i64 (IntKind.i64.wrap (y13_2 + 1))))) [] (Obn rfl (fun _ => hb_add (k := .i64))) ?_
          refine Wy (.d (.lit (.int .i64 (IntKind.i64.wrap (y13_2 + 1))))) [] (Omv rfl) ?_
          refine Walk.nil ?_
          refine RoundK.normal ?_
          exact Rounds.weak (Weak.toK 12291 0 0 []) (ih_2 (fu_2, (IntKind.i64.wrap (y13_2 + 1))) hm (Nat.lt_succ_self _))
      · replace hm := cF hc14_5 hm
        refine AWP.if_ false (Eq.trans (by kernel_rfl) (lit_tf (b := decide (y13_2 < ((List.length p0 : Nat) : Int))) hc14_5)) ?_
        refine AWP.exit ?_
        refine Then.exit ?_
        refine RoundK.exit ?_
        refine InBlock.same ?_
        refine Then.normal ?_
        refine Amk 0 0 ⟨(tp 26 []), [], 0⟩ ?_
        refine AWP.seq ?_
        refine AWP.text ?_
        refine Wy (.d (.lit (.bool true))) [] (Omv rfl) ?_
        refine Walk.nil ?_
        refine Then.normal ?_
        refine AWP.ret ?_
        obtain rfl := Option.some.inj hm
        exact ret_i []

set_option maxRecDepth 20000 in
set_option maxHeartbeats 4000000 in
theorem ok_event_Same (p0 : GEvent) (p1 : GEvent) (r : Bool) (h : m_event_Same p0 p1 = some r) : GCall Try.prog 25 [(.agg [(.d (.lit (.int .i64 p0.Time))), (.d (.lit (.int .i64 p0.Source))), (.d (.lit (.int .i64 p0.Seq))), (.d (.lit (.string (toS p0.Type_)))), (.d (.sl (List.length p0.Vals) (flatD enc_GValue p0.Vals)))]), (.agg [(.d (.lit (.int .i64 p1.Time))), (.d (.lit (.int .i64 p1.Source))), (.d (.lit (.int .i64 p1.Seq))), (.d (.lit (.string (toS p1.Type_)))), (.d (.sl (List.length p1.Vals) (flatD enc_GValue p1.Vals)))])] [] (.d (.lit (.bool r))) [] := by
  refine GCall.of_body (n := 24) (rs := [(.tmp 4)]) Try.func25 rfl rfl rfl ?_
  refine Ato ⟨((.agg [(.d (.lit (.int .i64 p0.Time))), (.d (.lit (.int .i64 p0.Source))), (.d (.lit (.int .i64 p0.Seq))), (.d (.lit (.string (toS p0.Type_)))), (.d (.sl (List.length p0.Vals) (flatD enc_GValue p0.Vals)))]) :: ((.agg [(.d (.lit (.int .i64 p1.Time))), (.d (.lit (.int .i64 p1.Source))), (.d (.lit (.int .i64 p1.Seq))), (.d (.lit (.string (toS p1.Type_)))), (.d (.sl (List.length p1.Vals) (flatD enc_GValue p1.Vals)))]) :: (tu 22 []))), [], 0⟩ ?_
  have hm := h
  unfold m_event_Same at hm
  refine AWP.seq ?_
  refine AWP.text ?_
  refine Wy (.loc 0 0) [(0, (.box [(.d (.lit (.int .i64 p0.Time))), (.d (.lit (.int .i64 p0.Source))), (.d (.lit (.int .i64 p0.Seq))), (.d (.lit (.string (toS p0.Type_)))), (.d (.sl (List.length p0.Vals) (flatD enc_GValue p0.Vals)))]))] (Obx rfl) ?_
  refine Wy (.loc 1 0) [(1, (.box [(.d (.lit (.int .i64 p1.Time))), (.d (.lit (.int .i64 p1.Source))), (.d (.lit (.int .i64 p1.Seq))), (.d (.lit (.string (toS p1.Type_)))), (.d (.sl (List.length p1.Vals) (flatD enc_GValue p1.Vals)))]))] (Obx rfl) ?_
  refine Wy (.d (.lit (.bool false))) [] (Omv rfl) ?_
  refine Walk.nil ?_
  refine Then.normal ?_
  refine Amk 12 3 ⟨(tp 2 ((.loc 0 0) :: ((.loc 1 0) :: (tp 20 [])))), [(.box [(.d (.lit (.int .i64 p0.Time))), (.d (.lit (.int .i64 p0.Source))), (.d (.lit (.int .i64 p0.Seq))), (.d (.lit (.string (toS p0.Type_)))), (.d (.sl (List.length p0.Vals) (flatD enc_GValue p0.Vals)))]), (.box [(.d (.lit (.int .i64 p1.Time))), (.d (.lit (.int .i64 p1.Source))), (.d (.lit (.int .i64 p1.Seq))), (.d (.lit (.string (toS p1.Type_)))), (.d (.sl (List.length p1.Vals) (flatD enc_GValue p1.Vals)))])], 0⟩ ?_
  refine AWP.seq ?_
  refine Adr ?_
  refine Wy (.agg [(.d (.lit (.int .i64 p0.Time))), (.d (.lit (.int .i64 p0.Source))), (.d (.lit (.int .i64 p0.Seq))), (.d (.lit (.string (toS p0.Type_)))), (.d (.sl (List.length p0.Vals) (flatD enc_GValue p0.Vals)))]) [] (Old rfl) ?_
  obtain ⟨r6_0, hr6_0, hm⟩ := bnd hm
  refine Wy (.agg [(.d (.lit (.int .i64 r6_0.Time))), (.d (.lit (.int .i64 r6_0.Source))), (.d (.lit (.int .i64 r6_0.Seq)))]) [] (Ocf [] [] [] 0 (ok_event_Event_ID p0 r6_0 hr6_0) (fun a w => Try.call33 a w) rfl trivial) ?_
  refine Wy (.agg [(.d (.lit (.int .i64 p1.Time))), (.d (.lit (.int .i64 p1.Source))), (.d (.lit (.int .i64 p1.Seq))), (.d (.lit (.string (toS p1.Type_)))), (.d (.sl (List.length p1.Vals) (flatD enc_GValue p1.Vals)))]) [] (Old rfl) ?_
  obtain ⟨r8_0, hr8_0, hm⟩ := bnd hm
  refine Wy (.agg [(.d (.lit (.int .i64 r8_0.Time))), (.d (.lit (.int .i64 r8_0.Source))), (.d (.lit (.int .i64 r8_0.Seq)))]) [] (Ocf [] [] [] 0 (ok_event_Event_ID p1 r8_0 hr8_0) (fun a w => Try.call33 a w) rfl trivial) ?_
  obtain ⟨v9_0, hv9_0, hm⟩ := bnd hm; replace hv9_0 := Option.some.inj hv9_0
  refine Wy (.d (.lit (.bool v9_0))) [] (Ocs (Eq.trans (by kernel_rfl) (congrArg (fun z => A.d (.lit (.bool z))) hv9_0)) (op_eql_struct rfl (la := [(.d (.lit (.int .i64 r6_0.Time))), (.d (.lit (.int .i64 r6_0.Source))), (.d (.lit (.int .i64 r6_0.Seq)))]) (lb := [(.d (.lit (.int .i64 r8_0.Time))), (.d (.lit (.int .i64 r8_0.Source))), (.d (.lit (.int .i64 r8_0.Seq)))]) (us := [.int .i64 r6_0.Time, .int .i64 r6_0.Source, .int .i64 r6_0.Seq]) (vs := [.int .i64 r8_0.Time, .int .i64 r8_0.Source, .int .i64 r8_0.Seq]) (r := (decide (r6_0.Time = r8_0.Time) && (decide (r6_0.Source = r8_0.Source) && (decide (r6_0.Seq = r8_0.Seq) && true)))) (by kernel_rfl) (by kernel_rfl) (by kernel_rfl) (by kernel_rfl) (by kernel_rfl))) ?_
  rcases tf_ v9_0 with hq10_0 | hq10_0
  · replace hm := cT hq10_0 hm
    refine Wy (.d (.lit (.bool true))) [] (Ocs (lit_tf (b := v9_0) hq10_0) (Omv rfl)) ?_
    refine Wy (.loc 0 3) [] (Ofa rfl) ?_
    refine Wy (.d (.lit (.string (toS p0.Type_)))) [] (Old rfl) ?_
    refine Wy (.loc 1 3) [] (Ofa rfl) ?_
    refine Wy (.d (.lit (.string (toS p1.Type_)))) [] (Old rfl) ?_
    refine Wy (.d (.lit (.bool (decide (p0.Type_ = p1.Type_))))) [] (Ocs (lit_tf (by simp only [toS_inj, ne_eq])) (op_bin rfl (a1 := .string (toS p0.Type_)) (a2 := .string (toS p1.Type_)) (by kernel_rfl) (by kernel_rfl) (fun _ => hb_seql))) ?_
    refine Wy (.d (.lit (.bool (decide (p0.Type_ = p1.Type_))))) [] (OpT rfl) ?_
    rcases tf_ (decide (p0.Type_ = p1.Type_)) with hq17_0 | hq17_0
    · replace hm := cT hq17_0 hm
      refine Wy (.d (.lit (.bool true))) [] (Ocs (lit_tf (b := decide (p0.Type_ = p1.Type_)) hq17_0) (Omv rfl)) ?_
      refine Wy (.loc 0 4) [] (Ofa rfl) ?_
      refine Wy (.d (.sl (List.length p0.Vals) (flatD enc_GValue p0.Vals))) [] (Old rfl) ?_
      refine Wy (.loc 1 4) [] (Ofa rfl) ?_
      refine Wy (.d (.sl (List.length p1.Vals) (flatD enc_GValue p1.Vals))) [] (Old rfl) ?_
      obtain ⟨r22_0, hr22_0, hm⟩ := bnd hm
      refine Wy (.d (.lit (.bool r22_0))) [] (Ocf [] [] [] 0 (ok_slices_Equal_Value p0.Vals p1.Vals r22_0 hr22_0) (fun a w => Try.call43 a w) rfl trivial) ?_
      refine Wy (.d (.lit (.bool r22_0))) [] (OpT rfl) ?_
      refine Wy (.d (.lit (.bool r22_0))) [] (Omv rfl) ?_
      refine Wdr ?_
      refine Then.normal ?_
      refine AWP.ret ?_
      obtain rfl := Option.some.inj hm
      exact ret_i []
    · replace hm := cF hq17_0 hm
      refine Wy (.d (.lit (.bool false))) [] (Ocs (lit_tf (b := decide (p0.Type_ = p1.Type_)) hq17_0) (Omv rfl)) ?_
      refine Wn ?_
      refine Wn ?_
      refine Wn ?_
      refine Wn ?_
      refine Wn ?_
      refine Wy (.d (.lit (.bool false))) [] (OpF rfl) ?_
      refine Wy (.d (.lit (.bool false))) [] (Omv rfl) ?_
      refine Wdr ?_
      refine Then.normal ?_
      refine AWP.ret ?_
      obtain rfl := Option.some.inj hm
      exact ret_i []
  · replace hm := cF hq10_0 hm
    refine Wy (.d (.lit (.bool false))) [] (Ocs (lit_tf (b := v9_0) hq10_0) (Omv rfl)) ?_
    refine Wn ?_
    refine Wn ?_
    refine Wn ?_
    refine Wn ?_
    refine Wn ?_
    refine Wy (.d (.lit (.bool false))) [] (OpF rfl) ?_
    refine Wy (.d (.lit (.bool false))) [] (Omv rfl) ?_
    refine Wn ?_
    refine Wn ?_
    refine Wn ?_
    refine Wn ?_
    refine Wn ?_
    refine Wy (.d (.lit (.bool false))) [] (OpF rfl) ?_
    refine Wy (.d (.lit (.bool false))) [] (Omv rfl) ?_
    refine Wdr ?_
    refine Then.normal ?_
    refine AWP.ret ?_
    obtain rfl := Option.some.inj hm
    exact ret_i []
end Go.Proofs.Ytanahlngkociaaa.K
