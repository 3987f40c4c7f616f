/- each function computes what its model says (3) -/
import Derived.Test.YtanahlngkociaaaL2
namespace Go.Proofs.Ytanahlngkociaaa.K
open Go.RowKit Go.Lib
set_option linter.unusedVariables false
set_option linter.unusedSimpArgs false

set_option maxRecDepth 20000 in
set_option maxHeartbeats 4000000 in
theorem ok_telltalelaw24_SorterFine (p0 : (List Int)) (r : Bool) (h : m_telltalelaw24_SorterFine p0 = some r) : GCall Try.prog 5 [(.d (.sl (List.length p0) (flatD (encI .i64) p0)))] [] (.d (.lit (.bool r))) [] := by
  refine GCall.of_body (n := 42) (rs := [(.tmp 2)]) Try.func5 rfl rfl rfl ?_
  refine Ato ⟨((.d (.sl (List.length p0) (flatD (encI .i64) p0))) :: (tu 41 [])), [], 0⟩ ?_
  have hm := h
  unfold m_telltalelaw24_SorterFine at hm
  refine AWP.seq ?_
  refine AWP.text ?_
  refine Wy (.d (.lit (.bool false))) [] (Omv rfl) ?_
  refine Walk.nil ?_
  refine Then.normal ?_
  refine Amk 1 0 ⟨((.d (.sl (List.length p0) (flatD (encI .i64) p0))) :: (tp 41 [])), [], 0⟩ ?_
  refine AWP.seq ?_
  refine AWP.seq ?_
  refine AWP.text ?_
  refine Wy (.d (.sl (List.length p0) (flatD (encI .i64) p0))) [] (Omv rfl) ?_
  refine Wy (.d (.lit (.int .i64 ((List.length p0 : Nat) : Int)))) [] (Oln rfl) ?_
  refine Wy (.d (.lit (.bool (decide ((40 : Int) < ((List.length p0 : Nat) : Int)))))) [] (Obn rfl (fun _ => hb_gtr (k := .i64))) ?_
  refine Walk.nil ?_
  refine Then.normal ?_
  refine Amk 129 0 ⟨((.d (.sl (List.length p0) (flatD (encI .i64) p0))) :: (tp 6 ((.d (.lit (.bool (decide ((40 : Int) < ((List.length p0 : Nat) : Int)))))) :: (tp 34 [])))), [], 0⟩ ?_
  rcases tf_ (decide ((40 : Int) < ((List.length p0 : Nat) : Int))) with hc7_6 | hc7_6
  · replace hm := cT hc7_6 hm
    refine AWP.if_ true (Eq.trans (by kernel_rfl) (lit_tf (b := decide ((40 : Int) < ((List.length p0 : Nat) : Int))) hc7_6)) ?_
    refine AWP.seq ?_
    refine AWP.text ?_
    obtain ⟨r8_1, hr8_1, hm⟩ := bnd hm
    refine Wy (.d (.lit (.bool r8_1))) [] (Ocf [] [] [] 0 (ok_telltalelaw24_awake  r8_1 hr8_1) (fun a w => Try.call7 a w) rfl trivial) ?_
    refine Wy (.d (.lit (.bool r8_1))) [] (Omv rfl) ?_
    refine Walk.nil ?_
    refine Then.normal ?_
    refine AWP.ret ?_
    refine Then.ret ?_
    obtain rfl := Option.some.inj hm
    exact ret_i []
  · replace hm := cF hc7_6 hm
    refine AWP.if_ false (Eq.trans (by kernel_rfl) (lit_tf (b := decide ((40 : Int) < ((List.length p0 : Nat) : Int))) hc7_6)) ?_
    refine AWP.skip ?_
    refine Then.normal ?_
    refine Amk 1 0 ⟨((.d (.sl (List.length p0) (flatD (encI .i64) p0))) :: (tp 41 [])), [], 0⟩ ?_
    refine AWP.seq ?_
    refine AWP.text ?_
    refine Wy (.d (.lit (.bool true))) [] (Omv rfl) ?_
    refine Walk.nil ?_
    refine Then.normal ?_
    refine Amk 9 0 ⟨((.d (.sl (List.length p0) (flatD (encI .i64) p0))) :: (tp 2 ((.d (.lit (.bool true))) :: (tp 38 [])))), [], 0⟩ ?_
    refine AWP.seq ?_
    refine AWP.seq ?_
    refine AWP.text ?_
    refine Wy (.d (.lit (.int .i64 1))) [] (Omv rfl) ?_
    refine Walk.nil ?_
    refine Then.normal ?_
    refine Amk 25 0 ⟨((.d (.sl (List.length p0) (flatD (encI .i64) p0))) :: (tp 2 ((.d (.lit (.bool true))) :: ((.d (.lit (.int .i64 1))) :: (tp 37 []))))), [], 0⟩ ?_
    refine AWP.block ?_
    refine AWP.loopI (α := Nat × Bool × Int)
      (fun x => match x with | (fu_2, y3_2, y4_2) => (⟨((.d (.sl (List.length p0) (flatD (encI .i64) p0))) :: (tp 2 ((.d (.lit (.bool y3_2))) :: ((.d (.lit (.int .i64 y4_2))) :: (tp 37 []))))), [], 0⟩ : St))
      (fun x => match x with | (fu_2, y3_2, y4_2) => m_telltalelaw24_SorterFine_l2 p0 fu_2 y3_2 y4_2 = some r)
      (fun x => match x with | (fu_2, y3_2, y4_2) => fu_2) (1152921504606846976, true, 1)
      (Weak.toK 25 0 0 []) hm ?_
    rintro ⟨fu_2, y3_2, y4_2⟩ n_2 hm ih_2
    try dsimp only at hm ih_2 ⊢
    cases fu_2 with
    | zero => exact absurd hm (by unfold m_telltalelaw24_SorterFine_l2; simp)
    | succ fu_2 =>
      unfold m_telltalelaw24_SorterFine_l2 at hm
      refine AWP.seq ?_
      refine AWP.seq ?_
      refine AWP.text ?_
      refine Wy (.d (.lit (.int .i64 y4_2))) [] (Omv rfl) ?_
      refine Wy (.d (.sl (List.length p0) (flatD (encI .i64) p0))) [] (Omv rfl) ?_
      refine Wy (.d (.lit (.int .i64 ((List.length p0 : Nat) : Int)))) [] (Oln rfl) ?_
      refine Wy (.d (.lit (.bool (decide (y4_2 < ((List.length p0 : Nat) : Int)))))) [] (Obn rfl (fun _ => hb_lss (k := .i64))) ?_
      refine Walk.nil ?_
      refine Then.normal ?_
      refine Amk 4121 0 ⟨((.d (.sl (List.length p0) (flatD (encI .i64) p0))) :: (tp 2 ((.d (.lit (.bool y3_2))) :: ((.d (.lit (.int .i64 y4_2))) :: (tp 7 ((.d (.lit (.bool (decide (y4_2 < ((List.length p0 : Nat) : Int)))))) :: (tp 29 []))))))), [], 0⟩ ?_
      rcases tf_ (decide (y4_2 < ((List.length p0 : Nat) : Int))) with hc12_7 | hc12_7
      · replace hm := cT hc12_7 hm
        refine AWP.if_ true (Eq.trans (by kernel_rfl) (lit_tf (b := decide (y4_2 < ((List.length p0 : Nat) : Int))) hc12_7)) ?_
        refine AWP.skip ?_
        refine Then.normal ?_
        refine Amk 25 0 ⟨((.d (.sl (List.length p0) (flatD (encI .i64) p0))) :: (tp 2 ((.d (.lit (.bool y3_2))) :: ((.d (.lit (.int .i64 y4_2))) :: (tp 37 []))))), [], 0⟩ ?_
        refine AWP.seq ?_
        refine AWP.block ?_
        refine Adr ?_
        refine Wy (.d (.lit (.bool y3_2))) [] (Omv rfl) ?_
        rcases tf_ y3_2 with hq16_4 | hq16_4
        · replace hm := cT hq16_4 hm
          refine Wy (.d (.lit (.bool true))) [] (Ocs (lit_tf (b := y3_2) hq16_4) (Omv rfl)) ?_
          refine Wy (.d (.sl (List.length p0) (flatD (encI .i64) p0))) [] (Omv rfl) ?_
          refine Wy (.d (.lit (.int .i64 y4_2))) [] (Omv rfl) ?_
          obtain ⟨x19_4, hx19_4, hm⟩ := bnd hm
          obtain ⟨hx19_4i, hx19_4g⟩ := geti_some hx19_4
          refine Wy (.d (.ref (List.drop ((Int.toNat y4_2) * 1) (flatD (encI .i64) p0)))) [] (Oia rfl (encI_len (k := .i64)) hx19_4i hx19_4g) ?_
          refine Wy (.d (.lit (.int .i64 x19_4))) [] (Lf1 rfl (encI_len (k := .i64)) hx19_4g) ?_
          refine Wy (.d (.sl (List.length p0) (flatD (encI .i64) p0))) [] (Omv rfl) ?_
          refine Wy (.d (.lit (.int .i64 y4_2))) [] (Omv rfl) ?_
          refine Wy (.d (.lit (.int .i64 (IntKind.i64.wrap (y4_2 - 1))))) [] (Obn rfl (fun _ => hb_sub (k := .i64))) ?_
          refine Wy (.d (.lit (.int .i64 (IntKind.i64.wrap (Int.tdiv (IntKind.i64.wrap (y4_2 - 1)) 2))))) [] (Ocs (by kernel_rfl) (op_bin rfl (a1 := .int .i64 (IntKind.i64.wrap (y4_2 - 1))) (a2 := .int .i64 2) (by kernel_rfl) (by kernel_rfl) (fun _ => hb_quo (by decide)))) ?_
          obtain ⟨x25_4, hx25_4, hm⟩ := bnd hm
          obtain ⟨hx25_4i, hx25_4g⟩ := geti_some hx25_4
          refine Wy (.d (.ref (List.drop ((Int.toNat (IntKind.i64.wrap (Int.tdiv (IntKind.i64.wrap (y4_2 - 1)) 2))) * 1) (flatD (encI .i64) p0)))) [] (Oia rfl (encI_len (k := .i64)) hx25_4i hx25_4g) ?_
          refine Wy (.d (.lit (.int .i64 x25_4))) [] (Lf1 rfl (encI_len (k := .i64)) hx25_4g) ?_
          refine Wy (.d (.lit (.bool (decide (x25_4 ≤ x19_4))))) [] (Obn rfl (fun _ => hb_geq (k := .i64))) ?_
          refine Wy (.d (.lit (.bool (decide (x25_4 ≤ x19_4))))) [] (OpT rfl) ?_
          refine Wy (.d (.lit (.bool (decide (x25_4 ≤ x19_4))))) [] (Omv rfl) ?_
          refine Wdr ?_
          refine InBlock.normal ?_
          refine Then.normal ?_
          refine Amk 25 0 ⟨((.d (.sl (List.length p0) (flatD (encI .i64) p0))) :: (tp 2 ((.d (.lit (.bool (decide (x25_4 ≤ x19_4))))) :: ((.d (.lit (.int .i64 y4_2))) :: (tp 37 []))))), [], 0⟩ ?_
          refine AWP.text ?_
          refine Wy (.d (.lit (.int .i64 y4_2))) [] (Omv rfl) ?_
          refine Wy (.d (.lit (.int .i64 (IntKind.i64.wrap (y4_2 + 1))))) [] (Obn rfl (fun _ => hb_add (k := .i64))) ?_
          refine Wy (.d (.lit (.int .i64 (IntKind.i64.wrap (y4_2 + 1))))) [] (Omv rfl) ?_
          refine Walk.nil ?_
          refine RoundK.normal ?_
          exact Rounds.weak (Weak.toK 25 0 0 []) (ih_2 (fu_2, decide (x25_4 ≤ x19_4), (IntKind.i64.wrap (y4_2 + 1))) hm (Nat.lt_succ_self _))
        · replace hm := cF hq16_4 hm
          refine Wy (.d (.lit (.bool false))) [] (Ocs (lit_tf (b := y3_2) hq16_4) (Omv rfl)) ?_
          refine Wn ?_
          refine Wn ?_
          refine Wn ?_
          refine Wn ?_
          refine Wn ?_
          refine Wn ?_
          refine Wn ?_
          refine Wn ?_
          refine Wn ?_
          refine Wn ?_
          refine Wn ?_
          refine Wy (.d (.lit (.bool false))) [] (OpF rfl) ?_
          refine Wy (.d (.lit (.bool false))) [] (Omv rfl) ?_
          refine Wdr ?_
          refine InBlock.normal ?_
          refine Then.normal ?_
          refine Amk 25 0 ⟨((.d (.sl (List.length p0) (flatD (encI .i64) p0))) :: (tp 2 ((.d (.lit (.bool false))) :: ((.d (.lit (.int .i64 y4_2))) :: (tp 37 []))))), [], 0⟩ ?_
          refine AWP.text ?_
          refine Wy (.d (.lit (.int .i64 y4_2))) [] (Omv rfl) ?_
          refine Wy (.d (.lit (.int .i64 (IntKind.i64.wrap (y4_2 + 1))))) [] (Obn rfl (fun _ => hb_add (k := .i64))) ?_
          refine Wy (.d (.lit (.int .i64 (IntKind.i64.wrap (y4_2 + 1))))) [] (Omv rfl) ?_
          refine Walk.nil ?_
          refine RoundK.normal ?_
          exact Rounds.weak (Weak.toK 25 0 0 []) (ih_2 (fu_2, false, (IntKind.i64.wrap (y4_2 + 1))) hm (Nat.lt_succ_self _))
      · replace hm := cF hc12_7 hm
        refine AWP.if_ false (Eq.trans (by kernel_rfl) (lit_tf (b := decide (y4_2 < ((List.length p0 : Nat) : Int))) hc12_7)) ?_
        refine AWP.exit ?_
        refine Then.exit ?_
        refine RoundK.exit ?_
        refine InBlock.same ?_
        refine Then.normal ?_
        refine Amk 9 0 ⟨((.d (.sl (List.length p0) (flatD (encI .i64) p0))) :: (tp 2 ((.d (.lit (.bool y3_2))) :: (tp 38 [])))), [], 0⟩ ?_
        refine AWP.seq ?_
        refine AWP.text ?_
        refine Wy (.d (.sl (List.length p0) (flatD (encI .i64) p0))) [] (Omv rfl) ?_
        refine Wy (.agg [(.d (.sl (List.length p0) (flatD (encI .i64) p0))), (.clo (.func 20) [] [])]) [] (Obd rfl) ?_
        obtain ⟨r31_5, hr31_5, hm⟩ := bnd hm
        refine Wy (.d (.lit (.bool r31_5))) [] (Ocf [] [] [] 0 (ok_sorter_Fine_int__telltalelaw24_less p0 r31_5 hr31_5) (fun a w => Try.call23 a w) rfl trivial) ?_
        refine Wy (.d (.lit (.bool y3_2))) [] (Omv rfl) ?_
        refine Wy (.d (.lit (.bool (decide (r31_5 = y3_2))))) [] (Ocs (by kernel_rfl) (op_bin rfl (a1 := .bool r31_5) (a2 := .bool y3_2) (by kernel_rfl) (by kernel_rfl) (fun _ => hb_beql (by kernel_rfl)))) ?_
        rcases tf_ (decide (r31_5 = y3_2)) with hq34_5 | hq34_5
        · replace hm := cT hq34_5 hm
          refine Wy (.d (.lit (.bool true))) [] (Ocs (lit_tf (b := decide (r31_5 = y3_2)) hq34_5) (Omv rfl)) ?_
          refine Wy (.d (.sl (List.length p0) (flatD (encI .i64) p0))) [] (Omv rfl) ?_
          refine Wy (.agg [(.d (.sl (List.length p0) (flatD (encI .i64) p0))), (.d (.lit .nilFunc))]) [] (Obd rfl) ?_
          obtain ⟨r37_5, hr37_5, hm⟩ := bnd hm
          refine Wy (.d (.lit (.bool r37_5))) [] (Ocf [] [] [] 0 (ok_sorter_Fine_int p0 r37_5 hr37_5) (fun a w => Try.call23 a w) rfl trivial) ?_
          refine Wy (.d (.lit (.bool r37_5))) [] (OpT rfl) ?_
          rcases tf_ r37_5 with hq39_5 | hq39_5
          · replace hm := cT hq39_5 hm
            refine Wy (.d (.lit (.bool true))) [] (Ocs (lit_tf (b := r37_5) hq39_5) (Omv rfl)) ?_
            obtain ⟨r40_5, hr40_5, hm⟩ := bnd hm
            refine Wy (.d (.lit (.bool r40_5))) [] (Ocf [] [] [] 0 (ok_telltalelaw24_awake  r40_5 hr40_5) (fun a w => Try.call7 a w) rfl trivial) ?_
            refine Wy (.d (.lit (.bool r40_5))) [] (OpT rfl) ?_
            refine Wy (.d (.lit (.bool r40_5))) [] (Omv rfl) ?_
            refine Walk.nil ?_
            refine Then.normal ?_
            refine AWP.ret ?_
            obtain rfl := Option.some.inj hm
            exact ret_i []
          · replace hm := cF hq39_5 hm
            refine Wy (.d (.lit (.bool false))) [] (Ocs (lit_tf (b := r37_5) hq39_5) (Omv rfl)) ?_
            refine Wn ?_
            refine Wy (.d (.lit (.bool false))) [] (OpF rfl) ?_
            refine Wy (.d (.lit (.bool false))) [] (Omv rfl) ?_
            refine Walk.nil ?_
            refine Then.normal ?_
            refine AWP.ret ?_
            obtain rfl := Option.some.inj hm
            exact ret_i []
        · replace hm := cF hq34_5 hm
          refine Wy (.d (.lit (.bool false))) [] (Ocs (lit_tf (b := decide (r31_5 = y3_2)) hq34_5) (Omv rfl)) ?_
          refine Wn ?_
          refine Wn ?_
          refine Wn ?_
          refine Wy (.d (.lit (.bool false))) [] (OpF rfl) ?_
          refine Wy (.d (.lit (.bool false))) [] (Omv rfl) ?_
          refine Wn ?_
          refine Wy (.d (.lit (.bool false))) [] (OpF rfl) ?_
          refine Wy (.d (.lit (.bool false))) [] (Omv rfl) ?_
          refine Walk.nil ?_
          refine Then.normal ?_
          refine AWP.ret ?_
          obtain rfl := Option.some.inj hm
          exact ret_i []

set_option maxRecDepth 20000 in
set_option maxHeartbeats 4000000 in
theorem ok_telltalelaw24_SorterHeaps (p0 : (List Int)) (r : Bool) (h : m_telltalelaw24_SorterHeaps p0 = some r) : GCall Try.prog 4 [(.d (.sl (List.length p0) (flatD (encI .i64) p0)))] [] (.d (.lit (.bool r))) [] := by
  refine GCall.of_body (n := 141) (rs := [(.tmp 2)]) Try.func4 rfl rfl rfl ?_
  refine Ato ⟨((.d (.sl (List.length p0) (flatD (encI .i64) p0))) :: (tu 140 [])), [], 0⟩ ?_
  have hm := h
  unfold m_telltalelaw24_SorterHeaps at hm
  refine AWP.seq ?_
  refine AWP.text ?_
  refine Wy (.d (.lit (.bool false))) [] (Omv rfl) ?_
  refine Walk.nil ?_
  refine Then.normal ?_
  refine Amk 1 0 ⟨((.d (.sl (List.length p0) (flatD (encI .i64) p0))) :: (tp 140 [])), [], 0⟩ ?_
  refine AWP.seq ?_
  refine AWP.seq ?_
  refine AWP.text ?_
  refine Wy (.d (.sl (List.length p0) (flatD (encI .i64) p0))) [] (Omv rfl) ?_
  refine Wy (.d (.lit (.int .i64 ((List.length p0 : Nat) : Int)))) [] (Oln rfl) ?_
  refine Wy (.d (.lit (.bool (decide ((40 : Int) < ((List.length p0 : Nat) : Int)))))) [] (Obn rfl (fun _ => hb_gtr (k := .i64))) ?_
  refine Walk.nil ?_
  refine Then.normal ?_
  refine Amk 4194305 0 ⟨((.d (.sl (List.length p0) (flatD (encI .i64) p0))) :: (tp 21 ((.d (.lit (.bool (decide ((40 : Int) < ((List.length p0 : Nat) : Int)))))) :: (tp 118 [])))), [], 0⟩ ?_
  rcases tf_ (decide ((40 : Int) < ((List.length p0 : Nat) : Int))) with hc22_20 | hc22_20
  · replace hm := cT hc22_20 hm
    refine AWP.if_ true (Eq.trans (by kernel_rfl) (lit_tf (b := decide ((40 : Int) < ((List.length p0 : Nat) : Int))) hc22_20)) ?_
    refine AWP.seq ?_
    refine AWP.text ?_
    obtain ⟨r23_1, hr23_1, hm⟩ := bnd hm
    refine Wy (.d (.lit (.bool r23_1))) [] (Ocf [] [] [] 0 (ok_telltalelaw24_awake  r23_1 hr23_1) (fun a w => Try.call7 a w) rfl trivial) ?_
    refine Wy (.d (.lit (.bool r23_1))) [] (Omv rfl) ?_
    refine Walk.nil ?_
    refine Then.normal ?_
    refine AWP.ret ?_
    refine Then.ret ?_
    obtain rfl := Option.some.inj hm
    exact ret_i []
  · replace hm := cF hc22_20 hm
    refine AWP.if_ false (Eq.trans (by kernel_rfl) (lit_tf (b := decide ((40 : Int) < ((List.length p0 : Nat) : Int))) hc22_20)) ?_
    refine AWP.skip ?_
    refine Then.normal ?_
    refine Amk 1 0 ⟨((.d (.sl (List.length p0) (flatD (encI .i64) p0))) :: (tp 140 [])), [], 0⟩ ?_
    refine AWP.seq ?_
    refine AWP.text ?_
    refine Wy (.agg [(.d .nil), (.clo (.func 20) [] [])]) [] (Obd rfl) ?_
    refine Wy (.loc 0 0) [(0, (.box [(.d .nil), (.d (.lit .nilFunc))]))] (Oal rfl) ?_
    refine Wy (.tup []) [(0, (.box [(.d .nil), (.clo (.func 20) [] [])]))] (Ost rfl) ?_
    refine Walk.nil ?_
    refine Then.normal ?_
    refine Amk 9 1 ⟨((.d (.sl (List.length p0) (flatD (encI .i64) p0))) :: (tp 2 ((.loc 0 0) :: (tp 137 [])))), [(.box [(.d .nil), (.clo (.func 20) [] [])])], 0⟩ ?_
    refine AWP.seq ?_
    refine AWP.seq ?_
    refine AWP.text ?_
    refine Wy (.agg [(.d .nil), (.clo (.func 20) [] [])]) [] (Old rfl) ?_
    obtain ⟨r27_2, hr27_2, hm⟩ := bnd hm
    refine Wy (.tup [(.d (.lit (.int .i64 r27_2.1))), (.agg [(.own 1), (.clo (.func 20) [] [])]), (.d (.lit (.bool r27_2.2.2)))]) [(1, (.arr 3 1 (List.length r27_2.2.1) (flatD (encI .i64) r27_2.2.1)))] (Ocf [] [1] [] 0 (ok_sorter_Heap_int_Pop__telltalelaw24_less ([] : List Int) r27_2 hr27_2) (fun a w => Try.call21 a w) rfl trivial) ?_
    refine Wy (.tup [(.d (.lit (.int .i64 r27_2.1))), (.agg [(.own 1), (.clo (.func 20) [] [])]), (.d (.lit (.bool r27_2.2.2)))]) [] (Omv rfl) ?_
    refine Wy (.d (.lit (.int .i64 r27_2.1))) [] (Oex rfl) ?_
    refine Wy (.agg [(.own 1), (.clo (.func 20) [] [])]) [] (Oex rfl) ?_
    refine Wy (.d (.lit (.bool r27_2.2.2))) [] (Oex rfl) ?_
    refine Wy (.loc 2 0) [(2, (.box [(.d .nil), (.d (.lit .nilFunc))]))] (Oal rfl) ?_
    refine Wy (.d (.lit (.int .i64 r27_2.1))) [] (Omv rfl) ?_
    refine Wy (.tup []) [(2, (.box [(.own 1), (.clo (.func 20) [] [])]))] (Ost rfl) ?_
    refine Wy (.d (.lit (.bool r27_2.2.2))) [] (Omv rfl) ?_
    refine Walk.nil ?_
    refine Then.normal ?_
    refine Amk 73 1 ⟨((.d (.sl (List.length p0) (flatD (encI .i64) p0))) :: (tp 2 ((.loc 0 0) :: (tp 2 ((.d (.lit (.bool r27_2.2.2))) :: (tp 134 [])))))), [(.box [(.d .nil), (.clo (.func 20) [] [])]), .gone, .gone], 0⟩ ?_
    refine AWP.seq ?_
    refine AWP.text ?_
    refine Wy (.d (.lit (.bool r27_2.2.2))) [] (Omv rfl) ?_
    refine Walk.nil ?_
    refine Then.normal ?_
    refine Amk 2147483657 1 ⟨((.d (.sl (List.length p0) (flatD (encI .i64) p0))) :: (tp 2 ((.loc 0 0) :: (tp 27 ((.d (.lit (.bool r27_2.2.2))) :: (tp 109 [])))))), [(.box [(.d .nil), (.clo (.func 20) [] [])]), .gone, .gone], 0⟩ ?_
    rcases tf_ r27_2.2.2 with hc31_21 | hc31_21
    · replace hm := cT hc31_21 hm
      refine AWP.if_ true (Eq.trans (by kernel_rfl) (lit_tf (b := r27_2.2.2) hc31_21)) ?_
      refine AWP.seq ?_
      refine AWP.text ?_
      refine Wy (.d (.lit (.bool false))) [] (Omv rfl) ?_
      refine Walk.nil ?_
      refine Then.normal ?_
      refine AWP.ret ?_
      refine Then.ret ?_
      obtain rfl := Option.some.inj hm
      exact ret_i []
    · replace hm := cF hc31_21 hm
      refine AWP.if_ false (Eq.trans (by kernel_rfl) (lit_tf (b := r27_2.2.2) hc31_21)) ?_
      refine AWP.skip ?_
      refine Then.normal ?_
      refine Amk 9 1 ⟨((.d (.sl (List.length p0) (flatD (encI .i64) p0))) :: (tp 2 ((.loc 0 0) :: (tp 137 [])))), [(.box [(.d .nil), (.clo (.func 20) [] [])]), .gone, .gone], 0⟩ ?_
      refine AWP.seq ?_
      refine AWP.text ?_
      refine Wy (.d (.lit (.int .i64 0))) [] (Omv rfl) ?_
      refine Walk.nil ?_
      refine Then.normal ?_
      refine Amk 137 1 ⟨((.d (.sl (List.length p0) (flatD (encI .i64) p0))) :: (tp 2 ((.loc 0 0) :: (tp 3 ((.d (.lit (.int .i64 0))) :: (tp 133 [])))))), [(.box [(.d .nil), (.clo (.func 20) [] [])]), .gone, .gone], 0⟩ ?_
      refine AWP.seq ?_
      refine AWP.seq ?_
      refine AWP.text ?_
      refine Wy (.d (.lit (.int .i64 0))) [] (Omv rfl) ?_
      refine Walk.nil ?_
      refine Then.normal ?_
      refine Amk 393 1 ⟨((.d (.sl (List.length p0) (flatD (encI .i64) p0))) :: (tp 2 ((.loc 0 0) :: (tp 3 ((.d (.lit (.int .i64 0))) :: ((.d (.lit (.int .i64 0))) :: (tp 132 []))))))), [(.box [(.d .nil), (.clo (.func 20) [] [])]), .gone, .gone], 0⟩ ?_
      refine AWP.block ?_
      refine Aob 0 0 3 1 ⟨((.d (.sl (List.length p0) (flatD (encI .i64) p0))) :: (tp 2 ((.loc 0 0) :: (tp 3 ((.d (.lit (.int .i64 0))) :: ((.d (.lit (.int .i64 0))) :: (tp 132 []))))))), [(.box [(.own 3), (.clo (.func 20) [] [])]), .gone, .gone, (.arr 3 1 (List.length ([] : List Int)) (flatD (encI .i64) ([] : List Int)))], 0⟩ ?_
      refine AWP.loopI (α := Nat × (List Int) × Int × Int)
        (fun x => match x with | (fu_3, y3_d_0_3, y7_3, y8_3) => (⟨((.d (.sl (List.length p0) (flatD (encI .i64) p0))) :: (tp 2 ((.loc 0 0) :: (tp 3 ((.d (.lit (.int .i64 y7_3))) :: ((.d (.lit (.int .i64 y8_3))) :: (tp 132 []))))))), [(.box [(.own 1), (.clo (.func 20) [] [])]), (.arr 3 1 (List.length y3_d_0_3) (flatD (encI .i64) y3_d_0_3))], 0⟩ : St))
        (fun x => match x with | (fu_3, y3_d_0_3, y7_3, y8_3) => m_telltalelaw24_SorterHeaps_l3 p0 fu_3 y3_d_0_3 y7_3 y8_3 = some r)
        (fun x => match x with | (fu_3, y3_d_0_3, y7_3, y8_3) => fu_3) (1152921504606846976, ([] : List Int), 0, 0)
        (Weak.toK 393 0 0 [0, 3]) hm ?_
      rintro ⟨fu_3, y3_d_0_3, y7_3, y8_3⟩ n_3 hm ih_3
      try dsimp only at hm ih_3 ⊢
      cases fu_3 with
      | zero => exact absurd hm (by unfold m_telltalelaw24_SorterHeaps_l3; simp)
      | succ fu_3 =>
        unfold m_telltalelaw24_SorterHeaps_l3 at hm
        refine AWP.seq ?_
        refine AWP.seq ?_
        refine AWP.text ?_
        refine Wy (.d (.lit (.int .i64 y8_3))) [] (Omv rfl) ?_
        refine Wy (.d (.sl (List.length p0) (flatD (encI .i64) p0))) [] (Omv rfl) ?_
        refine Wy (.d (.lit (.int .i64 ((List.length p0 : Nat) : Int)))) [] (Oln rfl) ?_
        refine Wy (.d (.lit (.bool (decide (y8_3 < ((List.length p0 : Nat) : Int)))))) [] (Obn rfl (fun _ => hb_lss (k := .i64))) ?_
        refine Walk.nil ?_
        refine Then.normal ?_
        refine Amk 34359738761 3 ⟨((.d (.sl (List.length p0) (flatD (encI .i64) p0))) :: (tp 2 ((.loc 0 0) :: (tp 3 ((.d (.lit (.int .i64 y7_3))) :: ((.d (.lit (.int .i64 y8_3))) :: (tp 26 ((.d (.lit (.bool (decide (y8_3 < ((List.length p0 : Nat) : Int)))))) :: (tp 105 []))))))))), [(.box [(.own 1), (.clo (.func 20) [] [])]), (.arr 3 1 (List.length y3_d_0_3) (flatD (encI .i64) y3_d_0_3))], 0⟩ ?_
        rcases tf_ (decide (y8_3 < ((List.length p0 : Nat) : Int))) with hc35_22 | hc35_22
        · replace hm := cT hc35_22 hm
          refine AWP.if_ true (Eq.trans (by kernel_rfl) (lit_tf (b := decide (y8_3 < ((List.length p0 : Nat) : Int))) hc35_22)) ?_
          refine AWP.skip ?_
          refine Then.normal ?_
          refine Amk 393 3 ⟨((.d (.sl (List.length p0) (flatD (encI .i64) p0))) :: (tp 2 ((.loc 0 0) :: (tp 3 ((.d (.lit (.int .i64 y7_3))) :: ((.d (.lit (.int .i64 y8_3))) :: (tp 132 []))))))), [(.box [(.own 1), (.clo (.func 20) [] [])]), (.arr 3 1 (List.length y3_d_0_3) (flatD (encI .i64) y3_d_0_3))], 0⟩ ?_
          refine AWP.seq ?_
          refine AWP.block ?_
          refine AWP.seq ?_
          refine AWP.text ?_
          refine Wy (.own 2) [(2, (.arr 3 1 (List.length ([] : List Int)) (flatD (encI .i64) ([] : List Int))))] (Obs rfl) ?_
          refine Wy (.loc 0 0) [] (Ofa rfl) ?_
          refine Wy (.own 1) [] (Old rfl) ?_
          obtain ⟨a41_5, ha41_5, hm⟩ := bnd hm; obtain ⟨ha41_5e, ha41_5l⟩ := app_some ha41_5
          refine Wy (.own 3) [(2, .gone), (3, (.arr 3 1 (List.length a41_5) (flatD (encI .i64) a41_5)))] (Oap rfl elemOK_57 (encI_len (k := .i64)) ha41_5e ha41_5l) ?_
          refine Wy (.own 3) [] (Omv rfl) ?_
          refine Walk.nil ?_
          refine Then.normal ?_
          refine Amk 905 11 ⟨((.d (.sl (List.length p0) (flatD (encI .i64) p0))) :: (tp 2 ((.loc 0 0) :: (tp 3 ((.d (.lit (.int .i64 y7_3))) :: ((.d (.lit (.int .i64 y8_3))) :: ((.own 3) :: (tp 131 [])))))))), [(.box [(.own 1), (.clo (.func 20) [] [])]), (.arr 3 1 (List.length y3_d_0_3) (flatD (encI .i64) y3_d_0_3)), .gone, (.arr 3 1 (List.length a41_5) (flatD (encI .i64) a41_5))], 0⟩ ?_
          refine AWP.seq ?_
          refine Adr ?_
          refine Wy (.agg [(.own 1), (.clo (.func 20) [] [])]) [] (Old rfl) ?_
          refine Wy (.d (.sl (List.length p0) (flatD (encI .i64) p0))) [] (Omv rfl) ?_
          refine Wy (.d (.lit (.int .i64 y8_3))) [] (Omv rfl) ?_
          obtain ⟨x45_6, hx45_6, hm⟩ := bnd hm
          obtain ⟨hx45_6i, hx45_6g⟩ := geti_some hx45_6
          refine Wy (.d (.ref (List.drop ((Int.toNat y8_3) * 1) (flatD (encI .i64) p0)))) [] (Oia rfl (encI_len (k := .i64)) hx45_6i hx45_6g) ?_
          refine Wy (.d (.lit (.int .i64 x45_6))) [] (Lf1 rfl (encI_len (k := .i64)) hx45_6g) ?_
          obtain ⟨r47_6, hr47_6, hm⟩ := bnd hm
          refine Wy (.agg [(.own 4), (.clo (.func 20) [] [])]) [(4, (.arr 3 1 (List.length r47_6) (flatD (encI .i64) r47_6)))] (Ocp [] [4] [1] 0 (ok_sorter_Heap_int_Push__telltalelaw24_less y3_d_0_3 x45_6 r47_6 hr47_6) (⟨by simp [A.Plain, A.Plains, D.Plain, byteD], plain_cons (flat_plain (encI_plain (k := .i64))) (plain_nil)⟩) (fun a w => Try.call22 a w) rfl trivial) ?_
          refine Wy (.loc 5 0) [(5, (.box [(.d .nil), (.d (.lit .nilFunc))]))] (Oal rfl) ?_
          refine Wy (.tup []) [(5, (.box [(.own 4), (.clo (.func 20) [] [])]))] (Ost rfl) ?_
          refine Wdr ?_
          refine Then.normal ?_
          refine Amk 1929 59 ⟨((.d (.sl (List.length p0) (flatD (encI .i64) p0))) :: (tp 2 ((.loc 0 0) :: (tp 3 ((.d (.lit (.int .i64 y7_3))) :: ((.d (.lit (.int .i64 y8_3))) :: ((.own 3) :: ((.loc 5 0) :: (tp 130 []))))))))), [(.box [(.own 1), (.clo (.func 20) [] [])]), (.arr 3 1 (List.length y3_d_0_3) (flatD (encI .i64) y3_d_0_3)), .gone, (.arr 3 1 (List.length a41_5) (flatD (encI .i64) a41_5)), (.arr 3 1 (List.length r47_6) (flatD (encI .i64) r47_6)), (.box [(.own 4), (.clo (.func 20) [] [])])], 0⟩ ?_
          refine AWP.seq ?_
          refine AWP.seq ?_
          refine AWP.text ?_
          refine Wy (.loc 5 0) [] (Ofa rfl) ?_
          refine Wy (.own 4) [] (Old rfl) ?_
          refine Wy (.d (.lit (.int .i64 ((List.length r47_6 : Nat) : Int)))) [] (Oln rfl) ?_
          refine Wy (.d (.lit (.int .i64 y8_3))) [] (Omv rfl) ?_
          refine Wy (.d (.lit (.int .i64 (IntKind.i64.wrap (y8_3 + 1))))) [] (Obn rfl (fun _ => hb_add (k := .i64))) ?_
          refine Wy (.d (.lit (.bool (decide (((List.length r47_6 : Nat) : Int) ≠ (IntKind.i64.wrap (y8_3 + 1))))))) [] (Obn rfl (fun _ => hb_neq (k := .i64))) ?_
          rcases tf_ (decide (((List.length r47_6 : Nat) : Int) ≠ (IntKind.i64.wrap (y8_3 + 1)))) with hq54_7 | hq54_7
          · replace hm := cT hq54_7 hm
            refine Wy (.d (.lit (.bool true))) [] (Ocs (lit_tf (b := decide (((List.length r47_6 : Nat) : Int) ≠ (IntKind.i64.wrap (y8_3 + 1)))) hq54_7) (Omv rfl)) ?_
            refine Wn ?_
            refine Wn ?_
            refine Wn ?_
            refine Wy (.d (.lit (.bool true))) [] (OpT rfl) ?_
            refine Walk.nil ?_
            refine Then.normal ?_
            refine Amk 288230376151713673 59 ⟨((.d (.sl (List.length p0) (flatD (encI .i64) p0))) :: (tp 2 ((.loc 0 0) :: (tp 3 ((.d (.lit (.int .i64 y7_3))) :: ((.d (.lit (.int .i64 y8_3))) :: ((.own 3) :: ((.loc 5 0) :: (tp 47 ((.d (.lit (.bool true))) :: (tp 82 []))))))))))), [(.box [(.own 1), (.clo (.func 20) [] [])]), (.arr 3 1 (List.length y3_d_0_3) (flatD (encI .i64) y3_d_0_3)), .gone, (.arr 3 1 (List.length a41_5) (flatD (encI .i64) a41_5)), (.arr 3 1 (List.length r47_6) (flatD (encI .i64) r47_6)), (.box [(.own 4), (.clo (.func 20) [] [])])], 0⟩ ?_
            refine AWP.if_ true (by kernel_rfl) ?_
            refine AWP.seq ?_
            refine AWP.text ?_
            refine Wy (.d (.lit (.bool false))) [] (Omv rfl) ?_
            refine Walk.nil ?_
            refine Then.normal ?_
            refine AWP.ret ?_
            refine Then.ret ?_
            refine InBlock.ret ?_
            refine Then.ret ?_
            refine RoundK.ret ?_
            refine InBlock.ret ?_
            refine Then.ret ?_
            obtain rfl := Option.some.inj hm
            exact ret_i []
          · replace hm := cF hq54_7 hm
            refine Wy (.d (.lit (.bool false))) [] (Ocs (lit_tf (b := decide (((List.length r47_6 : Nat) : Int) ≠ (IntKind.i64.wrap (y8_3 + 1)))) hq54_7) (Omv rfl)) ?_
            refine Wy (.agg [(.own 4), (.clo (.func 20) [] [])]) [] (Old rfl) ?_
            obtain ⟨r56_7, hr56_7, hm⟩ := bnd hm
            refine Wy (.d (.lit (.bool r56_7))) [] (Ocp [] [] [4] 0 (ok_sorter_Fine_int__telltalelaw24_less r47_6 r56_7 hr56_7) (plain_triv (by simp [A.Plain, A.Plains, D.Plain, byteD])) (fun a w => Try.call23 a w) rfl trivial) ?_
            refine Wy (.d (.lit (.bool (!r56_7)))) [] (Ocs (by kernel_rfl) (op_un rfl (a1 := .bool r56_7) (by kernel_rfl) (fun _ => hu_not))) ?_
            refine Wy (.d (.lit (.bool (!r56_7)))) [] (OpF rfl) ?_
            refine Walk.nil ?_
            refine Then.normal ?_
            refine Amk 288230376151713673 59 ⟨((.d (.sl (List.length p0) (flatD (encI .i64) p0))) :: (tp 2 ((.loc 0 0) :: (tp 3 ((.d (.lit (.int .i64 y7_3))) :: ((.d (.lit (.int .i64 y8_3))) :: ((.own 3) :: ((.loc 5 0) :: (tp 47 ((.d (.lit (.bool (!r56_7)))) :: (tp 82 []))))))))))), [(.box [(.own 1), (.clo (.func 20) [] [])]), (.arr 3 1 (List.length y3_d_0_3) (flatD (encI .i64) y3_d_0_3)), .gone, (.arr 3 1 (List.length a41_5) (flatD (encI .i64) a41_5)), (.arr 3 1 (List.length r47_6) (flatD (encI .i64) r47_6)), (.box [(.own 4), (.clo (.func 20) [] [])])], 0⟩ ?_
            rcases tf_ (!r56_7) with hc58_23 | hc58_23
            · replace hm := cT hc58_23 hm
              refine AWP.if_ true (Eq.trans (by kernel_rfl) (lit_tf (b := (!r56_7)) hc58_23)) ?_
              refine AWP.seq ?_
              refine AWP.text ?_
              refine Wy (.d (.lit (.bool false))) [] (Omv rfl) ?_
              refine Walk.nil ?_
              refine Then.normal ?_
              refine AWP.ret ?_
              refine Then.ret ?_
              refine InBlock.ret ?_
              refine Then.ret ?_
              refine RoundK.ret ?_
              refine InBlock.ret ?_
              refine Then.ret ?_
              obtain rfl := Option.some.inj hm
              exact ret_i []
            · replace hm := cF hc58_23 hm
              refine AWP.if_ false (Eq.trans (by kernel_rfl) (lit_tf (b := (!r56_7)) hc58_23)) ?_
              refine AWP.skip ?_
              refine Then.normal ?_
              refine Amk 1929 59 ⟨((.d (.sl (List.length p0) (flatD (encI .i64) p0))) :: (tp 2 ((.loc 0 0) :: (tp 3 ((.d (.lit (.int .i64 y7_3))) :: ((.d (.lit (.int .i64 y8_3))) :: ((.own 3) :: ((.loc 5 0) :: (tp 130 []))))))))), [(.box [(.own 1), (.clo (.func 20) [] [])]), (.arr 3 1 (List.length y3_d_0_3) (flatD (encI .i64) y3_d_0_3)), .gone, (.arr 3 1 (List.length a41_5) (flatD (encI .i64) a41_5)), (.arr 3 1 (List.length r47_6) (flatD (encI .i64) r47_6)), (.box [(.own 4), (.clo (.func 20) [] [])])], 0⟩ ?_
              refine AWP.seq ?_
              refine AWP.seq ?_
              refine AWP.text ?_
              refine Wy (.d (.lit (.int .i64 0))) [] (Omv rfl) ?_
              refine Walk.nil ?_
              refine Then.normal ?_
              refine Amk 3977 59 ⟨((.d (.sl (List.length p0) (flatD (encI .i64) p0))) :: (tp 2 ((.loc 0 0) :: (tp 3 ((.d (.lit (.int .i64 y7_3))) :: ((.d (.lit (.int .i64 y8_3))) :: ((.own 3) :: ((.loc 5 0) :: ((.d (.lit (.int .i64 0))) :: (tp 129 [])))))))))), [(.box [(.own 1), (.clo (.func 20) [] [])]), (.arr 3 1 (List.length y3_d_0_3) (flatD (encI .i64) y3_d_0_3)), .gone, (.arr 3 1 (List.length a41_5) (flatD (encI .i64) a41_5)), (.arr 3 1 (List.length r47_6) (flatD (encI .i64) r47_6)), (.box [(.own 4), (.clo (.func 20) [] [])])], 0⟩ ?_
              refine AWP.block ?_
              refine AWP.loopI (α := Nat × Int)
                (fun x => match x with | (fu_8, y11_8) => (⟨((.d (.sl (List.length p0) (flatD (encI .i64) p0))) :: (tp 2 ((.loc 0 0) :: (tp 3 ((.d (.lit (.int .i64 y7_3))) :: ((.d (.lit (.int .i64 y8_3))) :: ((.own 2) :: ((.loc 3 0) :: ((.d (.lit (.int .i64 y11_8))) :: (tp 129 [])))))))))), [(.box [(.own 1), (.clo (.func 20) [] [])]), (.arr 3 1 (List.length y3_d_0_3) (flatD (encI .i64) y3_d_0_3)), (.arr 3 1 (List.length a41_5) (flatD (encI .i64) a41_5)), (.box [(.own 4), (.clo (.func 20) [] [])]), (.arr 3 1 (List.length r47_6) (flatD (encI .i64) r47_6))], 0⟩ : St))
                (fun x => match x with | (fu_8, y11_8) => m_telltalelaw24_SorterHeaps_l8 p0 a41_5 r47_6 y3_d_0_3 y7_3 y8_3 (fun y3_d_0_3 y7_3 y8_3 => m_telltalelaw24_SorterHeaps_l3 p0 fu_3 y3_d_0_3 y7_3 y8_3) fu_8 y11_8 = some r)
                (fun x => match x with | (fu_8, y11_8) => fu_8) (1152921504606846976, 0)
                (Weak.toK 3977 0 0 [0, 1, 3, 5, 4]) hm ?_
              rintro ⟨fu_8, y11_8⟩ n_8 hm ih_8
              try dsimp only at hm ih_8 ⊢
              cases fu_8 with
              | zero => exact absurd hm (by unfold m_telltalelaw24_SorterHeaps_l8; simp)
              | succ fu_8 =>
                unfold m_telltalelaw24_SorterHeaps_l8 at hm
                refine AWP.seq ?_
                refine AWP.seq ?_
                refine AWP.text ?_
                refine Wy (.d (.lit (.int .i64 y11_8))) [] (Omv rfl) ?_
                refine Wy (.own 2) [] (Omv rfl) ?_
                refine Wy (.d (.lit (.int .i64 ((List.length a41_5 : Nat) : Int)))) [] (Oln rfl) ?_
                refine Wy (.d (.lit (.bool (decide (y11_8 < ((List.length a41_5 : Nat) : Int)))))) [] (Obn rfl (fun _ => hb_lss (k := .i64))) ?_
                refine Walk.nil ?_
                refine Then.normal ?_
                refine Amk 4611686018427391881 31 ⟨((.d (.sl (List.length p0) (flatD (encI .i64) p0))) :: (tp 2 ((.loc 0 0) :: (tp 3 ((.d (.lit (.int .i64 y7_3))) :: ((.d (.lit (.int .i64 y8_3))) :: ((.own 2) :: ((.loc 3 0) :: ((.d (.lit (.int .i64 y11_8))) :: (tp 50 ((.d (.lit (.bool (decide (y11_8 < ((List.length a41_5 : Nat) : Int)))))) :: (tp 78 [])))))))))))), [(.box [(.own 1), (.clo (.func 20) [] [])]), (.arr 3 1 (List.length y3_d_0_3) (flatD (encI .i64) y3_d_0_3)), (.arr 3 1 (List.length a41_5) (flatD (encI .i64) a41_5)), (.box [(.own 4), (.clo (.func 20) [] [])]), (.arr 3 1 (List.length r47_6) (flatD (encI .i64) r47_6))], 0⟩ ?_
                rcases tf_ (decide (y11_8 < ((List.length a41_5 : Nat) : Int))) with hc62_24 | hc62_24
                · replace hm := cT hc62_24 hm
                  refine AWP.if_ true (Eq.trans (by kernel_rfl) (lit_tf (b := decide (y11_8 < ((List.length a41_5 : Nat) : Int))) hc62_24)) ?_
                  refine AWP.skip ?_
                  refine Then.normal ?_
                  refine Amk 3977 31 ⟨((.d (.sl (List.length p0) (flatD (encI .i64) p0))) :: (tp 2 ((.loc 0 0) :: (tp 3 ((.d (.lit (.int .i64 y7_3))) :: ((.d (.lit (.int .i64 y8_3))) :: ((.own 2) :: ((.loc 3 0) :: ((.d (.lit (.int .i64 y11_8))) :: (tp 129 [])))))))))), [(.box [(.own 1), (.clo (.func 20) [] [])]), (.arr 3 1 (List.length y3_d_0_3) (flatD (encI .i64) y3_d_0_3)), (.arr 3 1 (List.length a41_5) (flatD (encI .i64) a41_5)), (.box [(.own 4), (.clo (.func 20) [] [])]), (.arr 3 1 (List.length r47_6) (flatD (encI .i64) r47_6))], 0⟩ ?_
                  refine AWP.seq ?_
                  refine AWP.block ?_
                  refine AWP.seq ?_
                  refine Adr ?_
                  refine Wy (.loc 0 0) [] (Ofa rfl) ?_
                  refine Wy (.own 1) [] (Old rfl) ?_
                  refine Wy (.d (.lit (.int .i64 y11_8))) [] (Omv rfl) ?_
                  obtain ⟨x68_10, hx68_10, hm⟩ := bnd hm
                  obtain ⟨hx68_10i, hx68_10g⟩ := geti_some hx68_10
                  refine Wy (.loc 1 ((Int.toNat y11_8) * 1)) [] (Oia rfl (encI_len (k := .i64)) hx68_10i hx68_10g) ?_
                  refine Wy (.d (.lit (.int .i64 x68_10))) [] (Lr1 rfl (encI_len (k := .i64)) hx68_10g) ?_
                  refine Wy (.own 2) [] (Omv rfl) ?_
                  refine Wy (.d (.lit (.int .i64 y11_8))) [] (Omv rfl) ?_
                  obtain ⟨x72_10, hx72_10, hm⟩ := bnd hm
                  obtain ⟨hx72_10i, hx72_10g⟩ := geti_some hx72_10
                  refine Wy (.loc 2 ((Int.toNat y11_8) * 1)) [] (Oia rfl (encI_len (k := .i64)) hx72_10i hx72_10g) ?_
                  refine Wy (.d (.lit (.int .i64 x72_10))) [] (Lr1 rfl (encI_len (k := .i64)) hx72_10g) ?_
                  refine Wy (.d (.lit (.bool (decide (x68_10 ≠ x72_10))))) [] (Obn rfl (fun _ => hb_neq (k := .i64))) ?_
                  refine Wdr ?_
                  refine Then.normal ?_
                  refine Amk 18889465931478580858761 31 ⟨((.d (.sl (List.length p0) (flatD (encI .i64) p0))) :: (tp 2 ((.loc 0 0) :: (tp 3 ((.d (.lit (.int .i64 y7_3))) :: ((.d (.lit (.int .i64 y8_3))) :: ((.own 2) :: ((.loc 3 0) :: ((.d (.lit (.int .i64 y11_8))) :: (tp 62 ((.d (.lit (.bool (decide (x68_10 ≠ x72_10))))) :: (tp 66 [])))))))))))), [(.box [(.own 1), (.clo (.func 20) [] [])]), (.arr 3 1 (List.length y3_d_0_3) (flatD (encI .i64) y3_d_0_3)), (.arr 3 1 (List.length a41_5) (flatD (encI .i64) a41_5)), (.box [(.own 4), (.clo (.func 20) [] [])]), (.arr 3 1 (List.length r47_6) (flatD (encI .i64) r47_6))], 0⟩ ?_
                  rcases tf_ (decide (x68_10 ≠ x72_10)) with hc74_25 | hc74_25
                  · replace hm := cT hc74_25 hm
                    refine AWP.if_ true (Eq.trans (by kernel_rfl) (lit_tf (b := decide (x68_10 ≠ x72_10)) hc74_25)) ?_
                    refine AWP.seq ?_
                    refine AWP.text ?_
                    refine Wy (.d (.lit (.bool false))) [] (Omv rfl) ?_
                    refine Walk.nil ?_
                    refine Then.normal ?_
                    refine AWP.ret ?_
                    refine InBlock.ret ?_
                    refine Then.ret ?_
                    refine RoundK.ret ?_
                    refine InBlock.ret ?_
                    refine Then.ret ?_
                    refine InBlock.ret ?_
                    refine Then.ret ?_
                    refine RoundK.ret ?_
                    refine InBlock.ret ?_
                    refine Then.ret ?_
                    obtain rfl := Option.some.inj hm
                    exact ret_i []
                  · replace hm := cF hc74_25 hm
                    refine AWP.if_ false (Eq.trans (by kernel_rfl) (lit_tf (b := decide (x68_10 ≠ x72_10)) hc74_25)) ?_
                    refine AWP.skip ?_
                    refine InBlock.normal ?_
                    refine Then.normal ?_
                    refine Amk 3977 31 ⟨((.d (.sl (List.length p0) (flatD (encI .i64) p0))) :: (tp 2 ((.loc 0 0) :: (tp 3 ((.d (.lit (.int .i64 y7_3))) :: ((.d (.lit (.int .i64 y8_3))) :: ((.own 2) :: ((.loc 3 0) :: ((.d (.lit (.int .i64 y11_8))) :: (tp 129 [])))))))))), [(.box [(.own 1), (.clo (.func 20) [] [])]), (.arr 3 1 (List.length y3_d_0_3) (flatD (encI .i64) y3_d_0_3)), (.arr 3 1 (List.length a41_5) (flatD (encI .i64) a41_5)), (.box [(.own 4), (.clo (.func 20) [] [])]), (.arr 3 1 (List.length r47_6) (flatD (encI .i64) r47_6))], 0⟩ ?_
                    refine AWP.text ?_
                    refine Wy (.d (.lit (.int .i64 y11_8))) [] (Omv rfl) ?_
                    refine Wy (.d (.lit (.int .i64 (IntKind.i64.wrap (y11_8 + 1))))) [] (Obn rfl (fun _ => hb_add (k := .i64))) ?_
                    refine Wy (.d (.lit (.int .i64 (IntKind.i64.wrap (y11_8 + 1))))) [] (Omv rfl) ?_
                    refine Walk.nil ?_
                    refine RoundK.normal ?_
                    exact Rounds.weak (Weak.toK 3977 0 0 [0, 1, 2, 3, 4]) (ih_8 (fu_8, (IntKind.i64.wrap (y11_8 + 1))) hm (Nat.lt_succ_self _))
                · replace hm := cF hc62_24 hm
                  refine AWP.if_ false (Eq.trans (by kernel_rfl) (lit_tf (b := decide (y11_8 < ((List.length a41_5 : Nat) : Int))) hc62_24)) ?_
                  refine AWP.exit ?_
                  refine Then.exit ?_
                  refine RoundK.exit ?_
                  refine InBlock.same ?_
                  refine Then.normal ?_
                  refine Amk 1417 27 ⟨((.d (.sl (List.length p0) (flatD (encI .i64) p0))) :: (tp 2 ((.loc 0 0) :: (tp 3 ((.d (.lit (.int .i64 y7_3))) :: ((.d (.lit (.int .i64 y8_3))) :: (tp 1 ((.loc 3 0) :: (tp 130 []))))))))), [(.box [(.own 1), (.clo (.func 20) [] [])]), (.arr 3 1 (List.length y3_d_0_3) (flatD (encI .i64) y3_d_0_3)), .gone, (.box [(.own 4), (.clo (.func 20) [] [])]), (.arr 3 1 (List.length r47_6) (flatD (encI .i64) r47_6))], 0⟩ ?_
                  refine AWP.seq ?_
                  refine AWP.text ?_
                  refine Wy (.agg [(.own 4), (.clo (.func 20) [] [])]) [] (Old rfl) ?_
                  refine Wy (.tup []) [(0, (.box [(.own 4), (.clo (.func 20) [] [])]))] (Ost rfl) ?_
                  refine Walk.nil ?_
                  refine Then.normal ?_
                  refine Amk 393 17 ⟨((.d (.sl (List.length p0) (flatD (encI .i64) p0))) :: (tp 2 ((.loc 0 0) :: (tp 3 ((.d (.lit (.int .i64 y7_3))) :: ((.d (.lit (.int .i64 y8_3))) :: (tp 132 []))))))), [(.box [(.own 4), (.clo (.func 20) [] [])]), .gone, .gone, .gone, (.arr 3 1 (List.length r47_6) (flatD (encI .i64) r47_6))], 0⟩ ?_
                  refine AWP.text ?_
                  refine Wy (.d (.lit (.int .i64 y7_3))) [] (Omv rfl) ?_
                  refine Wy (.d (.sl (List.length p0) (flatD (encI .i64) p0))) [] (Omv rfl) ?_
                  refine Wy (.d (.lit (.int .i64 y8_3))) [] (Omv rfl) ?_
                  obtain ⟨x79_11, hx79_11, hm⟩ := bnd hm
                  obtain ⟨hx79_11i, hx79_11g⟩ := geti_some hx79_11
                  refine Wy (.d (.ref (List.drop ((Int.toNat y8_3) * 1) (flatD (encI .i64) p0)))) [] (Oia rfl (encI_len (k := .i64)) hx79_11i hx79_11g) ?_
                  refine Wy (.d (.lit (.int .i64 x79_11))) [] (Lf1 rfl (encI_len (k := .i64)) hx79_11g) ?_
                  refine Wy (.d (.lit (.int .i64 (IntKind.i64.wrap (((BitVec.ofInt 64 y7_3 ^^^ BitVec.ofInt 64 x79_11).toNat : Int)))))) [] (Ocs (by kernel_rfl) (op_bin rfl (a1 := .int .i64 y7_3) (a2 := .int .i64 x79_11) (by kernel_rfl) (by kernel_rfl) (fun _ => hb_xor))) ?_
                  refine Wy (.d (.lit (.int .i64 (IntKind.i64.wrap (((BitVec.ofInt 64 y7_3 ^^^ BitVec.ofInt 64 x79_11).toNat : Int)))))) [] (Omv rfl) ?_
                  refine Walk.nil ?_
                  refine InBlock.normal ?_
                  refine Then.normal ?_
                  refine Amk 393 17 ⟨((.d (.sl (List.length p0) (flatD (encI .i64) p0))) :: (tp 2 ((.loc 0 0) :: (tp 3 ((.d (.lit (.int .i64 (IntKind.i64.wrap (((BitVec.ofInt 64 y7_3 ^^^ BitVec.ofInt 64 x79_11).toNat : Int)))))) :: ((.d (.lit (.int .i64 y8_3))) :: (tp 132 []))))))), [(.box [(.own 4), (.clo (.func 20) [] [])]), .gone, .gone, .gone, (.arr 3 1 (List.length r47_6) (flatD (encI .i64) r47_6))], 0⟩ ?_
                  refine AWP.text ?_
                  refine Wy (.d (.lit (.int .i64 y8_3))) [] (Omv rfl) ?_
                  refine Wy (.d (.lit (.int .i64 (IntKind.i64.wrap (y8_3 + 1))))) [] (Obn rfl (fun _ => hb_add (k := .i64))) ?_
                  refine Wy (.d (.lit (.int .i64 (IntKind.i64.wrap (y8_3 + 1))))) [] (Omv rfl) ?_
                  refine Walk.nil ?_
                  refine RoundK.normal ?_
                  exact Rounds.weak (Weak.toK 393 0 0 [0, 4]) (ih_3 (fu_3, r47_6, (IntKind.i64.wrap (((BitVec.ofInt 64 y7_3 ^^^ BitVec.ofInt 64 x79_11).toNat : Int))), (IntKind.i64.wrap (y8_3 + 1))) hm (Nat.lt_succ_self _))
        · replace hm := cF hc35_22 hm
          refine AWP.if_ false (Eq.trans (by kernel_rfl) (lit_tf (b := decide (y8_3 < ((List.length p0 : Nat) : Int))) hc35_22)) ?_
          refine AWP.exit ?_
          refine Then.exit ?_
          refine RoundK.exit ?_
          refine InBlock.same ?_
          refine Then.normal ?_
          refine Amk 137 3 ⟨((.d (.sl (List.length p0) (flatD (encI .i64) p0))) :: (tp 2 ((.loc 0 0) :: (tp 3 ((.d (.lit (.int .i64 y7_3))) :: (tp 133 [])))))), [(.box [(.own 1), (.clo (.func 20) [] [])]), (.arr 3 1 (List.length y3_d_0_3) (flatD (encI .i64) y3_d_0_3))], 0⟩ ?_
          refine AWP.seq ?_
          refine AWP.text ?_
          refine Wy (.d (.lit (.int .i64 0))) [] (Omv rfl) ?_
          refine Walk.nil ?_
          refine Then.normal ?_
          refine Amk 4233 3 ⟨((.d (.sl (List.length p0) (flatD (encI .i64) p0))) :: (tp 2 ((.loc 0 0) :: (tp 3 ((.d (.lit (.int .i64 y7_3))) :: (tp 4 ((.d (.lit (.int .i64 0))) :: (tp 128 [])))))))), [(.box [(.own 1), (.clo (.func 20) [] [])]), (.arr 3 1 (List.length y3_d_0_3) (flatD (encI .i64) y3_d_0_3))], 0⟩ ?_
          refine AWP.seq ?_
          refine AWP.seq ?_
          refine AWP.text ?_
          refine Wy (.d (.lit (.int .i64 0))) [] (Omv rfl) ?_
          refine Walk.nil ?_
          refine Then.normal ?_
          refine Amk 12425 3 ⟨((.d (.sl (List.length p0) (flatD (encI .i64) p0))) :: (tp 2 ((.loc 0 0) :: (tp 3 ((.d (.lit (.int .i64 y7_3))) :: (tp 4 ((.d (.lit (.int .i64 0))) :: ((.d (.lit (.int .i64 0))) :: (tp 127 []))))))))), [(.box [(.own 1), (.clo (.func 20) [] [])]), (.arr 3 1 (List.length y3_d_0_3) (flatD (encI .i64) y3_d_0_3))], 0⟩ ?_
          refine AWP.block ?_
          refine AWP.loopI (α := Nat × (List Int) × Int × Int × Int)
            (fun x => match x with | (fu_12, y3_d_0_12, y7_12, y12_12, y13_12) => (⟨((.d (.sl (List.length p0) (flatD (encI .i64) p0))) :: (tp 2 ((.loc 0 0) :: (tp 3 ((.d (.lit (.int .i64 y7_12))) :: (tp 4 ((.d (.lit (.int .i64 y12_12))) :: ((.d (.lit (.int .i64 y13_12))) :: (tp 127 []))))))))), [(.box [(.own 1), (.clo (.func 20) [] [])]), (.arr 3 1 (List.length y3_d_0_12) (flatD (encI .i64) y3_d_0_12))], 0⟩ : St))
            (fun x => match x with | (fu_12, y3_d_0_12, y7_12, y12_12, y13_12) => m_telltalelaw24_SorterHeaps_l12 p0 fu_12 y3_d_0_12 y7_12 y12_12 y13_12 = some r)
            (fun x => match x with | (fu_12, y3_d_0_12, y7_12, y12_12, y13_12) => fu_12) (1152921504606846976, y3_d_0_3, y7_3, 0, 0)
            (Weak.toK 12425 0 0 [0, 1]) hm ?_
          rintro ⟨fu_12, y3_d_0_12, y7_12, y12_12, y13_12⟩ n_12 hm ih_12
          try dsimp only at hm ih_12 ⊢
          cases fu_12 with
          | zero => exact absurd hm (by unfold m_telltalelaw24_SorterHeaps_l12; simp)
          | succ fu_12 =>
            unfold m_telltalelaw24_SorterHeaps_l12 at hm
            refine AWP.seq ?_
            refine AWP.seq ?_
            refine AWP.text ?_
            refine Wy (.d (.lit (.int .i64 y13_12))) [] (Omv rfl) ?_
            refine Wy (.d (.sl (List.length p0) (flatD (encI .i64) p0))) [] (Omv rfl) ?_
            refine Wy (.d (.lit (.int .i64 ((List.length p0 : Nat) : Int)))) [] (Oln rfl) ?_
            refine Wy (.d (.lit (.bool (decide (y13_12 < ((List.length p0 : Nat) : Int)))))) [] (Obn rfl (fun _ => hb_lss (k := .i64))) ?_
            refine Walk.nil ?_
            refine Then.normal ?_
            refine Amk 38685626227668133590610057 3 ⟨((.d (.sl (List.length p0) (flatD (encI .i64) p0))) :: (tp 2 ((.loc 0 0) :: (tp 3 ((.d (.lit (.int .i64 y7_12))) :: (tp 4 ((.d (.lit (.int .i64 y12_12))) :: ((.d (.lit (.int .i64 y13_12))) :: (tp 71 ((.d (.lit (.bool (decide (y13_12 < ((List.length p0 : Nat) : Int)))))) :: (tp 55 []))))))))))), [(.box [(.own 1), (.clo (.func 20) [] [])]), (.arr 3 1 (List.length y3_d_0_12) (flatD (encI .i64) y3_d_0_12))], 0⟩ ?_
            rcases tf_ (decide (y13_12 < ((List.length p0 : Nat) : Int))) with hc85_26 | hc85_26
            · replace hm := cT hc85_26 hm
              refine AWP.if_ true (Eq.trans (by kernel_rfl) (lit_tf (b := decide (y13_12 < ((List.length p0 : Nat) : Int))) hc85_26)) ?_
              refine AWP.skip ?_
              refine Then.normal ?_
              refine Amk 12425 3 ⟨((.d (.sl (List.length p0) (flatD (encI .i64) p0))) :: (tp 2 ((.loc 0 0) :: (tp 3 ((.d (.lit (.int .i64 y7_12))) :: (tp 4 ((.d (.lit (.int .i64 y12_12))) :: ((.d (.lit (.int .i64 y13_12))) :: (tp 127 []))))))))), [(.box [(.own 1), (.clo (.func 20) [] [])]), (.arr 3 1 (List.length y3_d_0_12) (flatD (encI .i64) y3_d_0_12))], 0⟩ ?_
              refine AWP.seq ?_
              refine AWP.block ?_
              refine AWP.seq ?_
              refine AWP.text ?_
              refine Wy (.agg [(.own 1), (.clo (.func 20) [] [])]) [] (Old rfl) ?_
              obtain ⟨r90_14, hr90_14, hm⟩ := bnd hm
              refine Wy (.tup [(.d (.lit (.int .i64 r90_14.1))), (.agg [(.own 2), (.clo (.func 20) [] [])]), (.d (.lit (.bool r90_14.2.2)))]) [(2, (.arr 3 1 (List.length r90_14.2.1) (flatD (encI .i64) r90_14.2.1)))] (Ocp [] [2] [1] 0 (ok_sorter_Heap_int_Pop__telltalelaw24_less y3_d_0_12 r90_14 hr90_14) (⟨by simp [A.Plain, A.Plains, D.Plain, byteD], plain_cons (flat_plain (encI_plain (k := .i64))) (plain_nil)⟩) (fun a w => Try.call21 a w) rfl trivial) ?_
              refine Wy (.tup [(.d (.lit (.int .i64 r90_14.1))), (.agg [(.own 2), (.clo (.func 20) [] [])]), (.d (.lit (.bool r90_14.2.2)))]) [] (Omv rfl) ?_
              refine Wy (.d (.lit (.int .i64 r90_14.1))) [] (Oex rfl) ?_
              refine Wy (.agg [(.own 2), (.clo (.func 20) [] [])]) [] (Oex rfl) ?_
              refine Wy (.d (.lit (.bool r90_14.2.2))) [] (Oex rfl) ?_
              refine Wy (.loc 3 0) [(3, (.box [(.d .nil), (.d (.lit .nilFunc))]))] (Oal rfl) ?_
              refine Wy (.d (.lit (.int .i64 r90_14.1))) [] (Omv rfl) ?_
              refine Wy (.tup []) [(3, (.box [(.own 2), (.clo (.func 20) [] [])]))] (Ost rfl) ?_
              refine Wy (.d (.lit (.bool r90_14.2.2))) [] (Omv rfl) ?_
              refine Walk.nil ?_
              refine Then.normal ?_
              refine Amk 127113 15 ⟨((.d (.sl (List.length p0) (flatD (encI .i64) p0))) :: (tp 2 ((.loc 0 0) :: (tp 3 ((.d (.lit (.int .i64 y7_12))) :: (tp 4 ((.d (.lit (.int .i64 y12_12))) :: ((.d (.lit (.int .i64 y13_12))) :: ((.d (.lit (.int .i64 r90_14.1))) :: ((.loc 3 0) :: ((.d (.lit (.bool r90_14.2.2))) :: (tp 124 [])))))))))))), [(.box [(.own 1), (.clo (.func 20) [] [])]), (.arr 3 1 (List.length y3_d_0_12) (flatD (encI .i64) y3_d_0_12)), (.arr 3 1 (List.length r90_14.2.1) (flatD (encI .i64) r90_14.2.1)), (.box [(.own 2), (.clo (.func 20) [] [])])], 0⟩ ?_
              refine AWP.seq ?_
              refine AWP.cutJ (α := Unit) (fun x => match x with | () => (⟨((.d (.sl (List.length p0) (flatD (encI .i64) p0))) :: (tp 2 ((.loc 0 0) :: (tp 3 ((.d (.lit (.int .i64 y7_12))) :: (tp 5 ((.d (.lit (.int .i64 y13_12))) :: ((.d (.lit (.int .i64 r90_14.1))) :: ((.loc 2 0) :: (tp 104 ((.d (.lit (.bool true))) :: (tp 20 [])))))))))))), [(.box [(.own 1), (.clo (.func 20) [] [])]), (.arr 3 1 (List.length y3_d_0_12) (flatD (encI .i64) y3_d_0_12)), (.box [(.own 3), (.clo (.func 20) [] [])]), (.arr 3 1 (List.length r90_14.2.1) (flatD (encI .i64) r90_14.2.1))], 0⟩ : St)) (fun x => match x with | () => m_telltalelaw24_SorterHeaps_j16  = some r) ?_ (fun J16 => ?_)
              · rintro ⟨⟩ hm
                try dsimp only at hm ⊢
                unfold m_telltalelaw24_SorterHeaps_j16 at hm
                refine AWP.if_ true (by kernel_rfl) ?_
                refine AWP.seq ?_
                refine AWP.text ?_
                refine Wy (.d (.lit (.bool false))) [] (Omv rfl) ?_
                refine Walk.nil ?_
                refine Then.normal ?_
                refine AWP.ret ?_
                refine Then.ret ?_
                refine InBlock.ret ?_
                refine Then.ret ?_
                refine RoundK.ret ?_
                refine InBlock.ret ?_
                refine Then.ret ?_
                obtain rfl := Option.some.inj hm
                exact ret_i []
              refine AWP.cutJ (α := Bool) (fun x => match x with | y120_17 => (⟨((.d (.sl (List.length p0) (flatD (encI .i64) p0))) :: (tp 2 ((.loc 0 0) :: (tp 3 ((.d (.lit (.int .i64 y7_12))) :: (tp 5 ((.d (.lit (.int .i64 y13_12))) :: ((.d (.lit (.int .i64 r90_14.1))) :: ((.loc 2 0) :: (tp 104 ((.d (.lit (.bool y120_17))) :: (tp 20 [])))))))))))), [(.box [(.own 1), (.clo (.func 20) [] [])]), (.arr 3 1 (List.length y3_d_0_12) (flatD (encI .i64) y3_d_0_12)), (.box [(.own 3), (.clo (.func 20) [] [])]), (.arr 3 1 (List.length r90_14.2.1) (flatD (encI .i64) r90_14.2.1))], 0⟩ : St)) (fun x => match x with | y120_17 => m_telltalelaw24_SorterHeaps_j17 r90_14 y13_12 y7_12 (fun y3_d_0_12 y7_12 y12_12 y13_12 => m_telltalelaw24_SorterHeaps_l12 p0 fu_12 y3_d_0_12 y7_12 y12_12 y13_12) y120_17 = some r) ?_ (fun J17 => ?_)
              · rintro y120_17 hm
                try dsimp only at hm ⊢
                unfold m_telltalelaw24_SorterHeaps_j17 at hm
                rcases tf_ y120_17 with hc120_17 | hc120_17
                · replace hm := cT hc120_17 hm
                  refine AWP.if_ true (Eq.trans (by kernel_rfl) (lit_tf (b := y120_17) hc120_17)) ?_
                  refine AWP.seq ?_
                  refine AWP.text ?_
                  refine Wy (.d (.lit (.bool false))) [] (Omv rfl) ?_
                  refine Walk.nil ?_
                  refine Then.normal ?_
                  refine AWP.ret ?_
                  refine Then.ret ?_
                  refine InBlock.ret ?_
                  refine Then.ret ?_
                  refine RoundK.ret ?_
                  refine InBlock.ret ?_
                  refine Then.ret ?_
                  obtain rfl := Option.some.inj hm
                  exact ret_i []
                · replace hm := cF hc120_17 hm
                  refine AWP.if_ false (Eq.trans (by kernel_rfl) (lit_tf (b := y120_17) hc120_17)) ?_
                  refine AWP.skip ?_
                  refine Then.normal ?_
                  refine Amk 57481 15 ⟨((.d (.sl (List.length p0) (flatD (encI .i64) p0))) :: (tp 2 ((.loc 0 0) :: (tp 3 ((.d (.lit (.int .i64 y7_12))) :: (tp 5 ((.d (.lit (.int .i64 y13_12))) :: ((.d (.lit (.int .i64 r90_14.1))) :: ((.loc 2 0) :: (tp 125 [])))))))))), [(.box [(.own 1), (.clo (.func 20) [] [])]), (.arr 3 1 (List.length y3_d_0_12) (flatD (encI .i64) y3_d_0_12)), (.box [(.own 3), (.clo (.func 20) [] [])]), (.arr 3 1 (List.length r90_14.2.1) (flatD (encI .i64) r90_14.2.1))], 0⟩ ?_
                  refine AWP.seq ?_
                  refine AWP.text ?_
                  refine Wy (.d (.lit (.int .i64 r90_14.1))) [] (Omv rfl) ?_
                  refine Wy (.d (.lit (.int .i64 r90_14.1))) [] (Omv rfl) ?_
                  refine Walk.nil ?_
                  refine Then.normal ?_
                  refine Amk 61577 15 ⟨((.d (.sl (List.length p0) (flatD (encI .i64) p0))) :: (tp 2 ((.loc 0 0) :: (tp 3 ((.d (.lit (.int .i64 y7_12))) :: (tp 4 ((.d (.lit (.int .i64 r90_14.1))) :: ((.d (.lit (.int .i64 y13_12))) :: ((.d (.lit (.int .i64 r90_14.1))) :: ((.loc 2 0) :: (tp 125 []))))))))))), [(.box [(.own 1), (.clo (.func 20) [] [])]), (.arr 3 1 (List.length y3_d_0_12) (flatD (encI .i64) y3_d_0_12)), (.box [(.own 3), (.clo (.func 20) [] [])]), (.arr 3 1 (List.length r90_14.2.1) (flatD (encI .i64) r90_14.2.1))], 0⟩ ?_
                  refine AWP.seq ?_
                  refine AWP.text ?_
                  refine Wy (.d (.lit (.int .i64 y7_12))) [] (Omv rfl) ?_
                  refine Wy (.d (.lit (.int .i64 r90_14.1))) [] (Omv rfl) ?_
                  refine Wy (.d (.lit (.int .i64 (IntKind.i64.wrap (((BitVec.ofInt 64 y7_12 ^^^ BitVec.ofInt 64 r90_14.1).toNat : Int)))))) [] (Ocs (by kernel_rfl) (op_bin rfl (a1 := .int .i64 y7_12) (a2 := .int .i64 r90_14.1) (by kernel_rfl) (by kernel_rfl) (fun _ => hb_xor))) ?_
                  refine Wy (.d (.lit (.int .i64 (IntKind.i64.wrap (((BitVec.ofInt 64 y7_12 ^^^ BitVec.ofInt 64 r90_14.1).toNat : Int)))))) [] (Omv rfl) ?_
                  refine Walk.nil ?_
                  refine Then.normal ?_
                  refine Amk 45193 15 ⟨((.d (.sl (List.length p0) (flatD (encI .i64) p0))) :: (tp 2 ((.loc 0 0) :: (tp 3 ((.d (.lit (.int .i64 (IntKind.i64.wrap (((BitVec.ofInt 64 y7_12 ^^^ BitVec.ofInt 64 r90_14.1).toNat : Int)))))) :: (tp 4 ((.d (.lit (.int .i64 r90_14.1))) :: ((.d (.lit (.int .i64 y13_12))) :: (tp 1 ((.loc 2 0) :: (tp 125 []))))))))))), [(.box [(.own 1), (.clo (.func 20) [] [])]), (.arr 3 1 (List.length y3_d_0_12) (flatD (encI .i64) y3_d_0_12)), (.box [(.own 3), (.clo (.func 20) [] [])]), (.arr 3 1 (List.length r90_14.2.1) (flatD (encI .i64) r90_14.2.1))], 0⟩ ?_
                  refine AWP.text ?_
                  refine Wy (.agg [(.own 3), (.clo (.func 20) [] [])]) [] (Old rfl) ?_
                  refine Wy (.tup []) [(0, (.box [(.own 3), (.clo (.func 20) [] [])]))] (Ost rfl) ?_
                  refine Walk.nil ?_
                  refine InBlock.normal ?_
                  refine Then.normal ?_
                  refine Amk 12425 9 ⟨((.d (.sl (List.length p0) (flatD (encI .i64) p0))) :: (tp 2 ((.loc 0 0) :: (tp 3 ((.d (.lit (.int .i64 (IntKind.i64.wrap (((BitVec.ofInt 64 y7_12 ^^^ BitVec.ofInt 64 r90_14.1).toNat : Int)))))) :: (tp 4 ((.d (.lit (.int .i64 r90_14.1))) :: ((.d (.lit (.int .i64 y13_12))) :: (tp 127 []))))))))), [(.box [(.own 3), (.clo (.func 20) [] [])]), .gone, .gone, (.arr 3 1 (List.length r90_14.2.1) (flatD (encI .i64) r90_14.2.1))], 0⟩ ?_
                  refine AWP.text ?_
                  refine Wy (.d (.lit (.int .i64 y13_12))) [] (Omv rfl) ?_
                  refine Wy (.d (.lit (.int .i64 (IntKind.i64.wrap (y13_12 + 1))))) [] (Obn rfl (fun _ => hb_add (k := .i64))) ?_
                  refine Wy (.d (.lit (.int .i64 (IntKind.i64.wrap (y13_12 + 1))))) [] (Omv rfl) ?_
                  refine Walk.nil ?_
                  refine RoundK.normal ?_
                  exact Rounds.weak (Weak.toK 12425 0 0 [0, 3]) (ih_12 (fu_12, r90_14.2.1, (IntKind.i64.wrap (((BitVec.ofInt 64 y7_12 ^^^ BitVec.ofInt 64 r90_14.1).toNat : Int))), r90_14.1, (IntKind.i64.wrap (y13_12 + 1))) hm (Nat.lt_succ_self _))
              refine AWP.seq ?_
              refine AWP.text ?_
              refine Wy (.d (.lit (.bool r90_14.2.2))) [] (Omv rfl) ?_
              refine Wy (.d (.lit (.bool (!r90_14.2.2)))) [] (Ocs (by kernel_rfl) (op_un rfl (a1 := .bool r90_14.2.2) (by kernel_rfl) (fun _ => hu_not))) ?_
              rcases tf_ (!r90_14.2.2) with hq96_15 | hq96_15
              · replace hm := cT hq96_15 hm
                refine Wy (.d (.lit (.bool true))) [] (Ocs (lit_tf (b := (!r90_14.2.2)) hq96_15) (Omv rfl)) ?_
                refine Wn ?_
                refine Wn ?_
                refine Wn ?_
                refine Wn ?_
                refine Wn ?_
                refine Wn ?_
                refine Wn ?_
                refine Wy (.d (.lit (.bool true))) [] (OpT rfl) ?_
                refine Wy (.d (.lit (.bool true))) [] (Omv rfl) ?_
                refine Wn ?_
                refine Wn ?_
                refine Wn ?_
                refine Wy (.d (.lit (.bool true))) [] (OpT rfl) ?_
                refine Wy (.d (.lit (.bool true))) [] (Omv rfl) ?_
                refine Wn ?_
                refine Wn ?_
                refine Wn ?_
                refine Wn ?_
                refine Wn ?_
                refine Wn ?_
                refine Wn ?_
                refine Wn ?_
                refine Wn ?_
                refine Wy (.d (.lit (.bool true))) [] (OpT rfl) ?_
                refine Walk.nil ?_
                refine Then.normal ?_
                exact AWP.weak (Weak.toK 1329227995784915872903807060280402057 0 0 [0, 1, 3, 2]) (J16 () hm)
              · replace hm := cF hq96_15 hm
                refine Wy (.d (.lit (.bool false))) [] (Ocs (lit_tf (b := (!r90_14.2.2)) hq96_15) (Omv rfl)) ?_
                refine Wy (.d (.lit (.int .i64 y13_12))) [] (Omv rfl) ?_
                refine Wy (.d (.lit (.bool (decide ((0 : Int) < y13_12))))) [] (Obn rfl (fun _ => hb_gtr (k := .i64))) ?_
                rcases tf_ (decide ((0 : Int) < y13_12)) with hq99_15 | hq99_15
                · replace hm := cT hq99_15 hm
                  refine Wy (.d (.lit (.bool true))) [] (Ocs (lit_tf (b := decide ((0 : Int) < y13_12)) hq99_15) (Omv rfl)) ?_
                  refine Wy (.d (.lit (.int .i64 r90_14.1))) [] (Omv rfl) ?_
                  refine Wy (.d (.lit (.int .i64 y12_12))) [] (Omv rfl) ?_
                  refine Wy (.d (.lit (.bool (decide (r90_14.1 < y12_12))))) [] (Obn rfl (fun _ => hb_lss (k := .i64))) ?_
                  refine Wy (.d (.lit (.bool (decide (r90_14.1 < y12_12))))) [] (OpT rfl) ?_
                  refine Wy (.d (.lit (.bool (decide (r90_14.1 < y12_12))))) [] (OpF rfl) ?_
                  rcases tf_ (decide (r90_14.1 < y12_12)) with hq105_15 | hq105_15
                  · replace hm := cT hq105_15 hm
                    refine Wy (.d (.lit (.bool true))) [] (Ocs (lit_tf (b := decide (r90_14.1 < y12_12)) hq105_15) (Omv rfl)) ?_
                    refine Wn ?_
                    refine Wn ?_
                    refine Wn ?_
                    refine Wy (.d (.lit (.bool true))) [] (OpT rfl) ?_
                    refine Wy (.d (.lit (.bool true))) [] (Omv rfl) ?_
                    refine Wn ?_
                    refine Wn ?_
                    refine Wn ?_
                    refine Wn ?_
                    refine Wn ?_
                    refine Wn ?_
                    refine Wn ?_
                    refine Wn ?_
                    refine Wn ?_
                    refine Wy (.d (.lit (.bool true))) [] (OpT rfl) ?_
                    refine Walk.nil ?_
                    refine Then.normal ?_
                    exact AWP.weak (Weak.toK 1329227995784915872903807060280402057 0 0 [0, 1, 3, 2]) (J16 () hm)
                  · replace hm := cF hq105_15 hm
                    refine Wy (.d (.lit (.bool false))) [] (Ocs (lit_tf (b := decide (r90_14.1 < y12_12)) hq105_15) (Omv rfl)) ?_
                    refine Wy (.agg [(.own 2), (.clo (.func 20) [] [])]) [] (Old rfl) ?_
                    obtain ⟨r107_15, hr107_15, hm⟩ := bnd hm
                    refine Wy (.d (.lit (.bool r107_15))) [] (Ocp [] [] [2] 0 (ok_sorter_Fine_int__telltalelaw24_less r90_14.2.1 r107_15 hr107_15) (plain_triv (by simp [A.Plain, A.Plains, D.Plain, byteD])) (fun a w => Try.call23 a w) rfl trivial) ?_
                    refine Wy (.d (.lit (.bool (!r107_15)))) [] (Ocs (by kernel_rfl) (op_un rfl (a1 := .bool r107_15) (by kernel_rfl) (fun _ => hu_not))) ?_
                    refine Wy (.d (.lit (.bool (!r107_15)))) [] (OpF rfl) ?_
                    rcases tf_ (!r107_15) with hq110_15 | hq110_15
                    · replace hm := cT hq110_15 hm
                      refine Wy (.d (.lit (.bool true))) [] (Ocs (lit_tf (b := (!r107_15)) hq110_15) (Omv rfl)) ?_
                      refine Wn ?_
                      refine Wn ?_
                      refine Wn ?_
                      refine Wn ?_
                      refine Wn ?_
                      refine Wn ?_
                      refine Wn ?_
                      refine Wn ?_
                      refine Wn ?_
                      refine Wy (.d (.lit (.bool true))) [] (OpT rfl) ?_
                      refine Walk.nil ?_
                      refine Then.normal ?_
                      exact AWP.weak (Weak.toK 1329227995784915872903807060280402057 0 0 [0, 1, 3, 2]) (J16 () hm)
                    · replace hm := cF hq110_15 hm
                      refine Wy (.d (.lit (.bool false))) [] (Ocs (lit_tf (b := (!r107_15)) hq110_15) (Omv rfl)) ?_
                      refine Wy (.loc 3 0) [] (Ofa rfl) ?_
                      refine Wy (.own 2) [] (Old rfl) ?_
                      refine Wy (.d (.lit (.int .i64 ((List.length r90_14.2.1 : Nat) : Int)))) [] (Oln rfl) ?_
                      refine Wy (.d (.sl (List.length p0) (flatD (encI .i64) p0))) [] (Omv rfl) ?_
                      refine Wy (.d (.lit (.int .i64 ((List.length p0 : Nat) : Int)))) [] (Oln rfl) ?_
                      refine Wy (.d (.lit (.int .i64 (IntKind.i64.wrap (((List.length p0 : Nat) : Int) - 1))))) [] (Obn rfl (fun _ => hb_sub (k := .i64))) ?_
                      refine Wy (.d (.lit (.int .i64 y13_12))) [] (Omv rfl) ?_
                      refine Wy (.d (.lit (.int .i64 (IntKind.i64.wrap ((IntKind.i64.wrap (((List.length p0 : Nat) : Int) - 1)) - y13_12))))) [] (Obn rfl (fun _ => hb_sub (k := .i64))) ?_
                      obtain ⟨v119_15, hv119_15, hm⟩ := bnd hm; replace hv119_15 := Option.some.inj hv119_15
                      refine Wy (.d (.lit (.bool v119_15))) [] (Ocs (congrArg (fun z => A.d (.lit (.bool z))) hv119_15) (Obn rfl (fun _ => hb_neq (k := .i64)))) ?_
                      refine Wy (.d (.lit (.bool v119_15))) [] (OpF rfl) ?_
                      refine Walk.nil ?_
                      refine Then.normal ?_
                      exact AWP.weak (Weak.toK 1329227995784915872903807060280402057 0 0 [0, 1, 3, 2]) (J17 (v119_15) hm)
                · replace hm := cF hq99_15 hm
                  refine Wy (.d (.lit (.bool false))) [] (Ocs (lit_tf (b := decide ((0 : Int) < y13_12)) hq99_15) (Omv rfl)) ?_
                  refine Wn ?_
                  refine Wn ?_
                  refine Wn ?_
                  refine Wy (.d (.lit (.bool false))) [] (OpF rfl) ?_
                  refine Wy (.d (.lit (.bool false))) [] (OpF rfl) ?_
                  refine Wy (.d (.lit (.bool false))) [] (Omv rfl) ?_
                  refine Wy (.agg [(.own 2), (.clo (.func 20) [] [])]) [] (Old rfl) ?_
                  obtain ⟨r107_15, hr107_15, hm⟩ := bnd hm
                  refine Wy (.d (.lit (.bool r107_15))) [] (Ocp [] [] [2] 0 (ok_sorter_Fine_int__telltalelaw24_less r90_14.2.1 r107_15 hr107_15) (plain_triv (by simp [A.Plain, A.Plains, D.Plain, byteD])) (fun a w => Try.call23 a w) rfl trivial) ?_
                  refine Wy (.d (.lit (.bool (!r107_15)))) [] (Ocs (by kernel_rfl) (op_un rfl (a1 := .bool r107_15) (by kernel_rfl) (fun _ => hu_not))) ?_
                  refine Wy (.d (.lit (.bool (!r107_15)))) [] (OpF rfl) ?_
                  rcases tf_ (!r107_15) with hq110_15 | hq110_15
                  · replace hm := cT hq110_15 hm
                    refine Wy (.d (.lit (.bool true))) [] (Ocs (lit_tf (b := (!r107_15)) hq110_15) (Omv rfl)) ?_
                    refine Wn ?_
                    refine Wn ?_
                    refine Wn ?_
                    refine Wn ?_
                    refine Wn ?_
                    refine Wn ?_
                    refine Wn ?_
                    refine Wn ?_
                    refine Wn ?_
                    refine Wy (.d (.lit (.bool true))) [] (OpT rfl) ?_
                    refine Walk.nil ?_
                    refine Then.normal ?_
                    exact AWP.weak (Weak.toK 1329227995784915872903807060280402057 0 0 [0, 1, 3, 2]) (J16 () hm)
                  · replace hm := cF hq110_15 hm
                    refine Wy (.d (.lit (.bool false))) [] (Ocs (lit_tf (b := (!r107_15)) hq110_15) (Omv rfl)) ?_
                    refine Wy (.loc 3 0) [] (Ofa rfl) ?_
                    refine Wy (.own 2) [] (Old rfl) ?_
                    refine Wy (.d (.lit (.int .i64 ((List.length r90_14.2.1 : Nat) : Int)))) [] (Oln rfl) ?_
                    refine Wy (.d (.sl (List.length p0) (flatD (encI .i64) p0))) [] (Omv rfl) ?_
                    refine Wy (.d (.lit (.int .i64 ((List.length p0 : Nat) : Int)))) [] (Oln rfl) ?_
                    refine Wy (.d (.lit (.int .i64 (IntKind.i64.wrap (((List.length p0 : Nat) : Int) - 1))))) [] (Obn rfl (fun _ => hb_sub (k := .i64))) ?_
                    refine Wy (.d (.lit (.int .i64 y13_12))) [] (Omv rfl) ?_
                    refine Wy (.d (.lit (.int .i64 (IntKind.i64.wrap ((IntKind.i64.wrap (((List.length p0 : Nat) : Int) - 1)) - y13_12))))) [] (Obn rfl (fun _ => hb_sub (k := .i64))) ?_
                    obtain ⟨v119_15, hv119_15, hm⟩ := bnd hm; replace hv119_15 := Option.some.inj hv119_15
                    refine Wy (.d (.lit (.bool v119_15))) [] (Ocs (congrArg (fun z => A.d (.lit (.bool z))) hv119_15) (Obn rfl (fun _ => hb_neq (k := .i64)))) ?_
                    refine Wy (.d (.lit (.bool v119_15))) [] (OpF rfl) ?_
                    refine Walk.nil ?_
                    refine Then.normal ?_
                    exact AWP.weak (Weak.toK 1329227995784915872903807060280402057 0 0 [0, 1, 3, 2]) (J17 (v119_15) hm)
            · replace hm := cF hc85_26 hm
              refine AWP.if_ false (Eq.trans (by kernel_rfl) (lit_tf (b := decide (y13_12 < ((List.length p0 : Nat) : Int))) hc85_26)) ?_
              refine AWP.exit ?_
              refine Then.exit ?_
              refine RoundK.exit ?_
              refine InBlock.same ?_
              refine Then.normal ?_
              refine Amk 136 3 ⟨(tp 3 ((.loc 0 0) :: (tp 3 ((.d (.lit (.int .i64 y7_12))) :: (tp 133 []))))), [(.box [(.own 1), (.clo (.func 20) [] [])]), (.arr 3 1 (List.length y3_d_0_12) (flatD (encI .i64) y3_d_0_12))], 0⟩ ?_
              refine AWP.seq ?_
              refine AWP.text ?_
              refine Wy (.agg [(.own 1), (.clo (.func 20) [] [])]) [] (Old rfl) ?_
              obtain ⟨r128_18, hr128_18, hm⟩ := bnd hm
              refine Wy (.tup [(.d (.lit (.int .i64 r128_18.1))), (.agg [(.own 2), (.clo (.func 20) [] [])]), (.d (.lit (.bool r128_18.2.2)))]) [(2, (.arr 3 1 (List.length r128_18.2.1) (flatD (encI .i64) r128_18.2.1)))] (Ocp [] [2] [1] 0 (ok_sorter_Heap_int_Pop__telltalelaw24_less y3_d_0_12 r128_18 hr128_18) (⟨by simp [A.Plain, A.Plains, D.Plain, byteD], plain_cons (flat_plain (encI_plain (k := .i64))) (plain_nil)⟩) (fun a w => Try.call21 a w) rfl trivial) ?_
              refine Wy (.tup [(.d (.lit (.int .i64 r128_18.1))), (.agg [(.own 2), (.clo (.func 20) [] [])]), (.d (.lit (.bool r128_18.2.2)))]) [] (Omv rfl) ?_
              refine Wy (.d (.lit (.int .i64 r128_18.1))) [] (Oex rfl) ?_
              refine Wy (.agg [(.own 2), (.clo (.func 20) [] [])]) [] (Oex rfl) ?_
              refine Wy (.d (.lit (.bool r128_18.2.2))) [] (Oex rfl) ?_
              refine Wy (.loc 3 0) [(3, (.box [(.d .nil), (.d (.lit .nilFunc))]))] (Oal rfl) ?_
              refine Wy (.d (.lit (.int .i64 r128_18.1))) [] (Omv rfl) ?_
              refine Wy (.tup []) [(3, (.box [(.own 2), (.clo (.func 20) [] [])]))] (Ost rfl) ?_
              refine Wy (.d (.lit (.bool r128_18.2.2))) [] (Omv rfl) ?_
              refine Walk.nil ?_
              refine Then.normal ?_
              refine Amk 524416 0 ⟨(tp 7 ((.d (.lit (.int .i64 y7_12))) :: (tp 11 ((.d (.lit (.bool r128_18.2.2))) :: (tp 121 []))))), [.gone, .gone, .gone, .gone], 0⟩ ?_
              refine AWP.seq ?_
              refine AWP.text ?_
              refine Wy (.d (.lit (.bool r128_18.2.2))) [] (Omv rfl) ?_
              refine Wy (.d (.lit (.bool (!r128_18.2.2)))) [] (Ocs (by kernel_rfl) (op_un rfl (a1 := .bool r128_18.2.2) (by kernel_rfl) (fun _ => hu_not))) ?_
              rcases tf_ (!r128_18.2.2) with hq134_19 | hq134_19
              · replace hm := cT hq134_19 hm
                refine Wy (.d (.lit (.bool true))) [] (Ocs (lit_tf (b := (!r128_18.2.2)) hq134_19) (Omv rfl)) ?_
                refine Wy (.d (.lit (.int .i64 y7_12))) [] (Omv rfl) ?_
                refine Wy (.d (.lit (.bool (decide (y7_12 = 0))))) [] (Obn rfl (fun _ => hb_eql (k := .i64))) ?_
                refine Wy (.d (.lit (.bool (decide (y7_12 = 0))))) [] (OpT rfl) ?_
                rcases tf_ (decide (y7_12 = 0)) with hq138_19 | hq138_19
                · replace hm := cT hq138_19 hm
                  refine Wy (.d (.lit (.bool true))) [] (Ocs (lit_tf (b := decide (y7_12 = 0)) hq138_19) (Omv rfl)) ?_
                  obtain ⟨r139_19, hr139_19, hm⟩ := bnd hm
                  refine Wy (.d (.lit (.bool r139_19))) [] (Ocf [] [] [] 0 (ok_telltalelaw24_awake  r139_19 hr139_19) (fun a w => Try.call7 a w) rfl trivial) ?_
                  refine Wy (.d (.lit (.bool r139_19))) [] (OpT rfl) ?_
                  refine Wy (.d (.lit (.bool r139_19))) [] (Omv rfl) ?_
                  refine Walk.nil ?_
                  refine Then.normal ?_
                  refine AWP.ret ?_
                  obtain rfl := Option.some.inj hm
                  exact ret_i []
                · replace hm := cF hq138_19 hm
                  refine Wy (.d (.lit (.bool false))) [] (Ocs (lit_tf (b := decide (y7_12 = 0)) hq138_19) (Omv rfl)) ?_
                  refine Wn ?_
                  refine Wy (.d (.lit (.bool false))) [] (OpF rfl) ?_
                  refine Wy (.d (.lit (.bool false))) [] (Omv rfl) ?_
                  refine Walk.nil ?_
                  refine Then.normal ?_
                  refine AWP.ret ?_
                  obtain rfl := Option.some.inj hm
                  exact ret_i []
              · replace hm := cF hq134_19 hm
                refine Wy (.d (.lit (.bool false))) [] (Ocs (lit_tf (b := (!r128_18.2.2)) hq134_19) (Omv rfl)) ?_
                refine Wn ?_
                refine Wn ?_
                refine Wy (.d (.lit (.bool false))) [] (OpF rfl) ?_
                refine Wy (.d (.lit (.bool false))) [] (Omv rfl) ?_
                refine Wn ?_
                refine Wy (.d (.lit (.bool false))) [] (OpF rfl) ?_
                refine Wy (.d (.lit (.bool false))) [] (Omv rfl) ?_
                refine Walk.nil ?_
                refine Then.normal ?_
                refine AWP.ret ?_
                obtain rfl := Option.some.inj hm
                exact ret_i []

set_option maxRecDepth 20000 in
set_option maxHeartbeats 4000000 in
theorem ok_telltaleref24_New (p0 : Int) (r : (GSorter × Int)) (h : m_telltaleref24_New p0 = some r) : GCall Try.prog 9 [(.d (.lit (.int .i64 p0)))] [] (.tup [(.agg [(.d (.lit (.int .i64 r.1.Cap))), (.d (.sl (List.length r.1.L) (flatD enc_GEvent r.1.L)))]), (.d (.lit (.int .i64 r.2)))]) [] := by
  refine GCall.of_body (n := 13) (rs := [(.cell 2 32), (.tmp 3)]) Try.func9 rfl rfl rfl ?_
  refine Ato ⟨((.d (.lit (.int .i64 p0))) :: (tu 12 [])), [], 0⟩ ?_
  have hm := h
  unfold m_telltaleref24_New at hm
  refine AWP.seq ?_
  refine AWP.text ?_
  refine Wy (.loc 0 0) [(0, (.box [(.d (.lit (.int .i64 0))), (.d .nil)]))] (Oal rfl) ?_
  refine Wy (.d (.lit (.int .i64 0))) [] (Omv rfl) ?_
  refine Walk.nil ?_
  refine Then.normal ?_
  refine Amk 5 1 ⟨((.d (.lit (.int .i64 p0))) :: (tp 1 ((.loc 0 0) :: (tp 10 [])))), [(.box [(.d (.lit (.int .i64 0))), (.d .nil)])], 0⟩ ?_
  refine AWP.seq ?_
  refine AWP.seq ?_
  refine AWP.text ?_
  refine Wy (.d (.lit (.int .i64 p0))) [] (Omv rfl) ?_
  refine Wy (.d (.lit (.bool (decide (p0 < 1))))) [] (Obn rfl (fun _ => hb_lss (k := .i64))) ?_
  rcases tf_ (decide (p0 < 1)) with hq6_0 | hq6_0
  · replace hm := cT hq6_0 hm
    refine Wy (.d (.lit (.bool true))) [] (Ocs (lit_tf (b := decide (p0 < 1)) hq6_0) (Omv rfl)) ?_
    refine Wn ?_
    refine Wn ?_
    refine Wy (.d (.lit (.bool true))) [] (OpT rfl) ?_
    refine Walk.nil ?_
    refine Then.normal ?_
    refine Amk 517 1 ⟨((.d (.lit (.int .i64 p0))) :: (tp 1 ((.loc 0 0) :: (tp 6 ((.d (.lit (.bool true))) :: (tp 3 [])))))), [(.box [(.d (.lit (.int .i64 0))), (.d .nil)])], 0⟩ ?_
    refine AWP.if_ true (by kernel_rfl) ?_
    refine AWP.seq ?_
    refine AWP.text ?_
    refine Wy (.agg [(.d (.lit (.int .i64 0))), (.d .nil)]) [] (Obd rfl) ?_
    refine Wy (.tup []) [(0, (.box [(.d (.lit (.int .i64 0))), (.d .nil)]))] (Ost rfl) ?_
    refine Wy (.d (.lit (.int .i64 2))) [] (Omv rfl) ?_
    refine Walk.nil ?_
    refine Then.normal ?_
    refine AWP.ret ?_
    refine Then.ret ?_
    obtain rfl := Option.some.inj hm
    exact ret_i []
  · replace hm := cF hq6_0 hm
    refine Wy (.d (.lit (.bool false))) [] (Ocs (lit_tf (b := decide (p0 < 1)) hq6_0) (Omv rfl)) ?_
    refine Wy (.d (.lit (.int .i64 p0))) [] (Omv rfl) ?_
    refine Wy (.d (.lit (.bool (decide ((4096 : Int) < p0))))) [] (Obn rfl (fun _ => hb_gtr (k := .i64))) ?_
    refine Wy (.d (.lit (.bool (decide ((4096 : Int) < p0))))) [] (OpF rfl) ?_
    refine Walk.nil ?_
    refine Then.normal ?_
    refine Amk 517 1 ⟨((.d (.lit (.int .i64 p0))) :: (tp 1 ((.loc 0 0) :: (tp 6 ((.d (.lit (.bool (decide ((4096 : Int) < p0))))) :: (tp 3 [])))))), [(.box [(.d (.lit (.int .i64 0))), (.d .nil)])], 0⟩ ?_
    rcases tf_ (decide ((4096 : Int) < p0)) with hc9_1 | hc9_1
    · replace hm := cT hc9_1 hm
      refine AWP.if_ true (Eq.trans (by kernel_rfl) (lit_tf (b := decide ((4096 : Int) < p0)) hc9_1)) ?_
      refine AWP.seq ?_
      refine AWP.text ?_
      refine Wy (.agg [(.d (.lit (.int .i64 0))), (.d .nil)]) [] (Obd rfl) ?_
      refine Wy (.tup []) [(0, (.box [(.d (.lit (.int .i64 0))), (.d .nil)]))] (Ost rfl) ?_
      refine Wy (.d (.lit (.int .i64 2))) [] (Omv rfl) ?_
      refine Walk.nil ?_
      refine Then.normal ?_
      refine AWP.ret ?_
      refine Then.ret ?_
      obtain rfl := Option.some.inj hm
      exact ret_i []
    · replace hm := cF hc9_1 hm
      refine AWP.if_ false (Eq.trans (by kernel_rfl) (lit_tf (b := decide ((4096 : Int) < p0)) hc9_1)) ?_
      refine AWP.skip ?_
      refine Then.normal ?_
      refine Amk 5 1 ⟨((.d (.lit (.int .i64 p0))) :: (tp 1 ((.loc 0 0) :: (tp 10 [])))), [(.box [(.d (.lit (.int .i64 0))), (.d .nil)])], 0⟩ ?_
      refine AWP.seq ?_
      refine AWP.text ?_
      refine Wy (.d (.lit (.int .i64 p0))) [] (Omv rfl) ?_
      refine Wy (.agg [(.d (.lit (.int .i64 p0))), (.d .nil)]) [] (Obd rfl) ?_
      refine Wy (.tup []) [(0, (.box [(.d (.lit (.int .i64 p0))), (.d .nil)]))] (Ost rfl) ?_
      refine Wy (.d (.lit (.int .i64 0))) [] (Omv rfl) ?_
      refine Walk.nil ?_
      refine Then.normal ?_
      refine AWP.ret ?_
      obtain rfl := Option.some.inj hm
      exact ret_i []

set_option maxRecDepth 20000 in
set_option maxHeartbeats 4000000 in
theorem ok_telltalelaw04_Small (p0 : GValue) (r : Int) (h : m_telltalelaw04_Small p0 = some r) : GCall Try.prog 26 [(.agg [(.d (byteD p0.Kind)), (.d (.lit (.int .i64 p0.N))), (.d (.lit (.int .u64 p0.Bits))), (.d (.lit (.string (toS p0.Text))))])] [] (.d (.lit (.int .i64 r))) [] := by
  refine GCall.of_body (n := 8) (rs := [(.tmp 2)]) Try.func26 rfl rfl rfl ?_
  refine Ato ⟨((.agg [(.d (byteD p0.Kind)), (.d (.lit (.int .i64 p0.N))), (.d (.lit (.int .u64 p0.Bits))), (.d (.lit (.string (toS p0.Text))))]) :: (tu 7 [])), [], 0⟩ ?_
  have hm := h
  unfold m_telltalelaw04_Small at hm
  refine AWP.seq ?_
  refine AWP.text ?_
  refine Wy (.loc 0 0) [(0, (.box [(.d (byteD p0.Kind)), (.d (.lit (.int .i64 p0.N))), (.d (.lit (.int .u64 p0.Bits))), (.d (.lit (.string (toS p0.Text))))]))] (Obx rfl) ?_
  refine Wy (.d (.lit (.int .i64 0))) [] (Omv rfl) ?_
  refine Walk.nil ?_
  refine Then.normal ?_
  refine Amk 2 1 ⟨(tp 1 ((.loc 0 0) :: (tp 6 []))), [(.box [(.d (byteD p0.Kind)), (.d (.lit (.int .i64 p0.N))), (.d (.lit (.int .u64 p0.Bits))), (.d (.lit (.string (toS p0.Text))))])], 0⟩ ?_
  refine AWP.seq ?_
  refine AWP.text ?_
  refine Wy (.loc 0 3) [] (Ofa rfl) ?_
  refine Wy (.d (.lit (.string (toS p0.Text)))) [] (Old rfl) ?_
  refine Wy (.d (.lit (.int .i64 ((List.length p0.Text : Nat) : Int)))) [] (Oln rfl) ?_
  refine Wy (.d (.lit (.int .i64 (IntKind.i64.wrap (((List.length p0.Text : Nat) : Int) - 100))))) [] (Obn rfl (fun _ => hb_sub (k := .i64))) ?_
  refine Wy (.d (.lit (.int .i64 (max 0 (IntKind.i64.wrap (((List.length p0.Text : Nat) : Int) - 100)))))) [] (op_bi2 rfl (a1 := .int .i64 0) (a2 := .int .i64 (IntKind.i64.wrap (((List.length p0.Text : Nat) : Int) - 100))) (by kernel_rfl) (by kernel_rfl) hb_max) ?_
  refine Wy (.d (.lit (.int .i64 (max 0 (IntKind.i64.wrap (((List.length p0.Text : Nat) : Int) - 100)))))) [] (Omv rfl) ?_
  refine Walk.nil ?_
  refine Then.normal ?_
  refine AWP.ret ?_
  obtain rfl := Option.some.inj hm
  exact ret_i []
end Go.Proofs.Ytanahlngkociaaa.K
