/- each function computes what its model says (8) -/
import Derived.Test.YtgocnknbiipcfaaL7
namespace Go.Proofs.Ytgocnknbiipcfaa.K
open Go.RowKit Go.Lib
set_option linter.unusedVariables false
set_option linter.unusedSimpArgs false

set_option maxRecDepth 20000 in
set_option maxHeartbeats 4000000 in
theorem ok_telltalelaw04_ValueChecks (p0 : GValue) (p1 : GValue) (p2 : (List UInt8)) (r : Bool) (h : m_telltalelaw04_ValueChecks p0 p1 p2 = some r) : GCall Try.prog 3 [(.agg [(.d (byteD p0.Kind)), (.d (.lit (.int .i64 p0.N))), (.d (.lit (.int .u64 p0.Bits))), (.d (.lit (.string (toS p0.Text))))]), (.agg [(.d (byteD p1.Kind)), (.d (.lit (.int .i64 p1.N))), (.d (.lit (.int .u64 p1.Bits))), (.d (.lit (.string (toS p1.Text))))]), (.d (.sl (List.length p2) (flatD encU8 p2)))] [] (.d (.lit (.bool r))) [] := by
  refine GCall.of_body (n := 77) (rs := [(.tmp 6)]) Try.func3 rfl rfl rfl ?_
  refine Ato ⟨((.agg [(.d (byteD p0.Kind)), (.d (.lit (.int .i64 p0.N))), (.d (.lit (.int .u64 p0.Bits))), (.d (.lit (.string (toS p0.Text))))]) :: ((.agg [(.d (byteD p1.Kind)), (.d (.lit (.int .i64 p1.N))), (.d (.lit (.int .u64 p1.Bits))), (.d (.lit (.string (toS p1.Text))))]) :: ((.d (.sl (List.length p2) (flatD encU8 p2))) :: (tu 74 [])))), [], 0⟩ ?_
  have hm := h
  unfold m_telltalelaw04_ValueChecks at hm
  refine AWP.seq ?_
  refine AWP.text ?_
  refine Wy (.loc 0 0) [(0, (.box [(.d (byteD p0.Kind)), (.d (.lit (.int .i64 p0.N))), (.d (.lit (.int .u64 p0.Bits))), (.d (.lit (.string (toS p0.Text))))]))] (Obx rfl) ?_
  refine Wy (.loc 1 0) [(1, (.box [(.d (byteD p1.Kind)), (.d (.lit (.int .i64 p1.N))), (.d (.lit (.int .u64 p1.Bits))), (.d (.lit (.string (toS p1.Text))))]))] (Obx rfl) ?_
  refine Wy (.d (.lit (.bool false))) [] (Omv rfl) ?_
  refine Walk.nil ?_
  refine Then.normal ?_
  refine Amk 28 3 ⟨(tp 2 ((.d (.sl (List.length p2) (flatD encU8 p2))) :: ((.loc 0 0) :: ((.loc 1 0) :: (tp 72 []))))), [(.box [(.d (byteD p0.Kind)), (.d (.lit (.int .i64 p0.N))), (.d (.lit (.int .u64 p0.Bits))), (.d (.lit (.string (toS p0.Text))))]), (.box [(.d (byteD p1.Kind)), (.d (.lit (.int .i64 p1.N))), (.d (.lit (.int .u64 p1.Bits))), (.d (.lit (.string (toS p1.Text))))])], 0⟩ ?_
  refine AWP.seq ?_
  refine AWP.cutJ (α := Unit) (fun x => match x with | () => (⟨(tp 2 ((.d (.sl (List.length p2) (flatD encU8 p2))) :: ((.loc 0 0) :: ((.loc 1 0) :: (tp 19 ((.d (.lit (.bool true))) :: (tp 52 []))))))), [(.box [(.d (byteD p0.Kind)), (.d (.lit (.int .i64 p0.N))), (.d (.lit (.int .u64 p0.Bits))), (.d (.lit (.string (toS p0.Text))))]), (.box [(.d (byteD p1.Kind)), (.d (.lit (.int .i64 p1.N))), (.d (.lit (.int .u64 p1.Bits))), (.d (.lit (.string (toS p1.Text))))])], 0⟩ : St)) (fun x => match x with | () => m_telltalelaw04_ValueChecks_j1  = some r) ?_ (fun J1 => ?_)
  · rintro ⟨⟩ hm
    try dsimp only at hm ⊢
    unfold m_telltalelaw04_ValueChecks_j1 at hm
    refine AWP.if_ true (by kernel_rfl) ?_
    refine AWP.seq ?_
    refine AWP.text ?_
    obtain ⟨r25_2, hr25_2, hm⟩ := bnd hm
    refine Wy (.d (.lit (.bool r25_2))) [] (Ocf [] [] [] 0 (ok_telltalelaw04_awake  r25_2 hr25_2) (fun a w => Try.call9 a w) rfl trivial) ?_
    refine Wy (.d (.lit (.bool r25_2))) [] (Omv rfl) ?_
    refine Walk.nil ?_
    refine Then.normal ?_
    refine AWP.ret ?_
    refine Then.ret ?_
    obtain rfl := Option.some.inj hm
    exact ret_i []
  refine AWP.seq ?_
  refine AWP.text ?_
  refine Wy (.agg [(.d (byteD p0.Kind)), (.d (.lit (.int .i64 p0.N))), (.d (.lit (.int .u64 p0.Bits))), (.d (.lit (.string (toS p0.Text))))]) [] (Old rfl) ?_
  obtain ⟨r13_0, hr13_0, hm⟩ := bnd hm
  refine Wy (.d (.lit (.int .i64 r13_0))) [] (Ocf [] [] [] 0 (ok_telltalelaw04_Small p0 r13_0 hr13_0) (fun a w => Try.call8 a w) rfl trivial) ?_
  refine Wy (.d (.lit (.bool (decide ((0 : Int) < r13_0))))) [] (Obn rfl (fun _ => hb_gtr (k := .i64))) ?_
  rcases tf_ (decide ((0 : Int) < r13_0)) with hq15_0 | hq15_0
  · replace hm := cT hq15_0 hm
    refine Wy (.d (.lit (.bool true))) [] (Ocs (lit_tf (b := decide ((0 : Int) < r13_0)) hq15_0) (Omv rfl)) ?_
    refine Wn ?_
    refine Wn ?_
    refine Wn ?_
    refine Wy (.d (.lit (.bool true))) [] (OpT rfl) ?_
    refine Wy (.d (.lit (.bool true))) [] (Omv rfl) ?_
    refine Wn ?_
    refine Wn ?_
    refine Wn ?_
    refine Wy (.d (.lit (.bool true))) [] (OpT rfl) ?_
    refine Walk.nil ?_
    refine Then.normal ?_
    exact AWP.weak (Weak.toK 16777244 0 0 [0, 1]) (J1 () hm)
  · replace hm := cF hq15_0 hm
    refine Wy (.d (.lit (.bool false))) [] (Ocs (lit_tf (b := decide ((0 : Int) < r13_0)) hq15_0) (Omv rfl)) ?_
    refine Wy (.agg [(.d (byteD p1.Kind)), (.d (.lit (.int .i64 p1.N))), (.d (.lit (.int .u64 p1.Bits))), (.d (.lit (.string (toS p1.Text))))]) [] (Old rfl) ?_
    obtain ⟨r17_0, hr17_0, hm⟩ := bnd hm
    refine Wy (.d (.lit (.int .i64 r17_0))) [] (Ocf [] [] [] 0 (ok_telltalelaw04_Small p1 r17_0 hr17_0) (fun a w => Try.call8 a w) rfl trivial) ?_
    refine Wy (.d (.lit (.bool (decide ((0 : Int) < r17_0))))) [] (Obn rfl (fun _ => hb_gtr (k := .i64))) ?_
    refine Wy (.d (.lit (.bool (decide ((0 : Int) < r17_0))))) [] (OpF rfl) ?_
    rcases tf_ (decide ((0 : Int) < r17_0)) with hq20_0 | hq20_0
    · replace hm := cT hq20_0 hm
      refine Wy (.d (.lit (.bool true))) [] (Ocs (lit_tf (b := decide ((0 : Int) < r17_0)) hq20_0) (Omv rfl)) ?_
      refine Wn ?_
      refine Wn ?_
      refine Wn ?_
      refine Wy (.d (.lit (.bool true))) [] (OpT rfl) ?_
      refine Walk.nil ?_
      refine Then.normal ?_
      exact AWP.weak (Weak.toK 16777244 0 0 [0, 1]) (J1 () hm)
    · replace hm := cF hq20_0 hm
      refine Wy (.d (.lit (.bool false))) [] (Ocs (lit_tf (b := decide ((0 : Int) < r17_0)) hq20_0) (Omv rfl)) ?_
      refine Wy (.d (.sl (List.length p2) (flatD encU8 p2))) [] (Omv rfl) ?_
      refine Wy (.d (.lit (.int .i64 ((List.length p2 : Nat) : Int)))) [] (Oln rfl) ?_
      refine Wy (.d (.lit (.bool (decide ((100 : Int) < ((List.length p2 : Nat) : Int)))))) [] (Obn rfl (fun _ => hb_gtr (k := .i64))) ?_
      refine Wy (.d (.lit (.bool (decide ((100 : Int) < ((List.length p2 : Nat) : Int)))))) [] (OpF rfl) ?_
      refine Walk.nil ?_
      refine Then.normal ?_
      refine Amk 16777244 3 ⟨(tp 2 ((.d (.sl (List.length p2) (flatD encU8 p2))) :: ((.loc 0 0) :: ((.loc 1 0) :: (tp 19 ((.d (.lit (.bool (decide ((100 : Int) < ((List.length p2 : Nat) : Int)))))) :: (tp 52 []))))))), [(.box [(.d (byteD p0.Kind)), (.d (.lit (.int .i64 p0.N))), (.d (.lit (.int .u64 p0.Bits))), (.d (.lit (.string (toS p0.Text))))]), (.box [(.d (byteD p1.Kind)), (.d (.lit (.int .i64 p1.N))), (.d (.lit (.int .u64 p1.Bits))), (.d (.lit (.string (toS p1.Text))))])], 0⟩ ?_
      rcases tf_ (decide ((100 : Int) < ((List.length p2 : Nat) : Int))) with hc24_8 | hc24_8
      · replace hm := cT hc24_8 hm
        refine AWP.if_ true (Eq.trans (by kernel_rfl) (lit_tf (b := decide ((100 : Int) < ((List.length p2 : Nat) : Int))) hc24_8)) ?_
        refine AWP.seq ?_
        refine AWP.text ?_
        obtain ⟨r25_3, hr25_3, hm⟩ := bnd hm
        refine Wy (.d (.lit (.bool r25_3))) [] (Ocf [] [] [] 0 (ok_telltalelaw04_awake  r25_3 hr25_3) (fun a w => Try.call9 a w) rfl trivial) ?_
        refine Wy (.d (.lit (.bool r25_3))) [] (Omv rfl) ?_
        refine Walk.nil ?_
        refine Then.normal ?_
        refine AWP.ret ?_
        refine Then.ret ?_
        obtain rfl := Option.some.inj hm
        exact ret_i []
      · replace hm := cF hc24_8 hm
        refine AWP.if_ false (Eq.trans (by kernel_rfl) (lit_tf (b := decide ((100 : Int) < ((List.length p2 : Nat) : Int))) hc24_8)) ?_
        refine AWP.skip ?_
        refine Then.normal ?_
        refine Amk 28 3 ⟨(tp 2 ((.d (.sl (List.length p2) (flatD encU8 p2))) :: ((.loc 0 0) :: ((.loc 1 0) :: (tp 72 []))))), [(.box [(.d (byteD p0.Kind)), (.d (.lit (.int .i64 p0.N))), (.d (.lit (.int .u64 p0.Bits))), (.d (.lit (.string (toS p0.Text))))]), (.box [(.d (byteD p1.Kind)), (.d (.lit (.int .i64 p1.N))), (.d (.lit (.int .u64 p1.Bits))), (.d (.lit (.string (toS p1.Text))))])], 0⟩ ?_
        refine AWP.seq ?_
        refine AWP.text ?_
        refine Wy (.own 2) [(2, (.arr 5 1 (List.length ([] : List UInt8)) (flatD encU8 ([] : List UInt8))))] (Obs rfl) ?_
        refine Wy (.d (.sl (List.length p2) (flatD encU8 p2))) [] (Omv rfl) ?_
        obtain ⟨a28_4, ha28_4, hm⟩ := bnd hm; obtain ⟨ha28_4e, ha28_4l⟩ := app_some ha28_4
        refine Wy (.own 3) [(2, .gone), (3, (.arr 5 1 (List.length a28_4) (flatD encU8 a28_4)))] (Oap rfl elemOK_25 encU8_len ha28_4e ha28_4l) ?_
        refine Wy (.own 3) [] (Omv rfl) ?_
        refine Walk.nil ?_
        refine Then.normal ?_
        refine Amk 156 11 ⟨(tp 2 ((.d (.sl (List.length p2) (flatD encU8 p2))) :: ((.loc 0 0) :: ((.loc 1 0) :: (tp 2 ((.own 3) :: (tp 69 []))))))), [(.box [(.d (byteD p0.Kind)), (.d (.lit (.int .i64 p0.N))), (.d (.lit (.int .u64 p0.Bits))), (.d (.lit (.string (toS p0.Text))))]), (.box [(.d (byteD p1.Kind)), (.d (.lit (.int .i64 p1.N))), (.d (.lit (.int .u64 p1.Bits))), (.d (.lit (.string (toS p1.Text))))]), .gone, (.arr 5 1 (List.length a28_4) (flatD encU8 a28_4))], 0⟩ ?_
        refine AWP.seq ?_
        refine AWP.text ?_
        refine Wy (.own 3) [] (Omv rfl) ?_
        refine Wy (.agg [(.d (byteD p0.Kind)), (.d (.lit (.int .i64 p0.N))), (.d (.lit (.int .u64 p0.Bits))), (.d (.lit (.string (toS p0.Text))))]) [] (Old rfl) ?_
        obtain ⟨r32_5, hr32_5, hm⟩ := bnd hm
        refine Wy (.tup [(.own 4), (.d (.lit (.int .i64 r32_5.2)))]) [(4, (.arr 5 1 (List.length r32_5.1) (flatD encU8 r32_5.1)))] (Ocp [] [4] [3] 0 (ok_value_Put_m2 a28_4 p0 r32_5 hr32_5) (⟨by simp [A.Plain, A.Plains, D.Plain, byteD], plain_cons (flat_plain encU8_plain) (plain_nil)⟩) (fun a w => Try.call10 a w) rfl trivial) ?_
        refine Wy (.tup [(.own 4), (.d (.lit (.int .i64 r32_5.2)))]) [] (Omv rfl) ?_
        refine Wy (.own 4) [] (Oex rfl) ?_
        refine Wy (.d (.lit (.int .i64 r32_5.2))) [] (Oex rfl) ?_
        refine Wy (.own 4) [] (Omv rfl) ?_
        refine Wy (.d (.lit (.int .i64 r32_5.2))) [] (Omv rfl) ?_
        refine Walk.nil ?_
        refine Then.normal ?_
        refine Amk 924 27 ⟨(tp 2 ((.d (.sl (List.length p2) (flatD encU8 p2))) :: ((.loc 0 0) :: ((.loc 1 0) :: (tp 2 ((.own 3) :: ((.own 4) :: ((.d (.lit (.int .i64 r32_5.2))) :: (tp 67 []))))))))), [(.box [(.d (byteD p0.Kind)), (.d (.lit (.int .i64 p0.N))), (.d (.lit (.int .u64 p0.Bits))), (.d (.lit (.string (toS p0.Text))))]), (.box [(.d (byteD p1.Kind)), (.d (.lit (.int .i64 p1.N))), (.d (.lit (.int .u64 p1.Bits))), (.d (.lit (.string (toS p1.Text))))]), .gone, (.arr 5 1 (List.length a28_4) (flatD encU8 a28_4)), (.arr 5 1 (List.length r32_5.1) (flatD encU8 r32_5.1))], 0⟩ ?_
        refine AWP.seq ?_
        refine AWP.text ?_
        refine Wy (.d (.sl (List.length p2) (flatD encU8 p2))) [] (Omv rfl) ?_
        refine Wy (.agg [(.d (byteD p0.Kind)), (.d (.lit (.int .i64 p0.N))), (.d (.lit (.int .u64 p0.Bits))), (.d (.lit (.string (toS p0.Text))))]) [] (Old rfl) ?_
        obtain ⟨r38_6, hr38_6, hm⟩ := bnd hm
        refine Wy (.tup [(.own 5), (.d (.lit (.int .i64 r38_6.2)))]) [(5, (.arr 5 1 (List.length r38_6.1) (flatD encU8 r38_6.1)))] (Ocf [] [5] [] 0 (ok_telltaleref04_Put p2 p0 r38_6 hr38_6) (fun a w => Try.call11 a w) rfl trivial) ?_
        refine Wy (.tup [(.own 5), (.d (.lit (.int .i64 r38_6.2)))]) [] (Omv rfl) ?_
        refine Wy (.own 5) [] (Oex rfl) ?_
        refine Wy (.d (.lit (.int .i64 r38_6.2))) [] (Oex rfl) ?_
        refine Wy (.own 5) [] (Omv rfl) ?_
        refine Wy (.d (.lit (.int .i64 r38_6.2))) [] (Omv rfl) ?_
        refine Walk.nil ?_
        refine Then.normal ?_
        refine Amk 3996 59 ⟨(tp 2 ((.d (.sl (List.length p2) (flatD encU8 p2))) :: ((.loc 0 0) :: ((.loc 1 0) :: (tp 2 ((.own 3) :: ((.own 4) :: ((.d (.lit (.int .i64 r32_5.2))) :: ((.own 5) :: ((.d (.lit (.int .i64 r38_6.2))) :: (tp 65 []))))))))))), [(.box [(.d (byteD p0.Kind)), (.d (.lit (.int .i64 p0.N))), (.d (.lit (.int .u64 p0.Bits))), (.d (.lit (.string (toS p0.Text))))]), (.box [(.d (byteD p1.Kind)), (.d (.lit (.int .i64 p1.N))), (.d (.lit (.int .u64 p1.Bits))), (.d (.lit (.string (toS p1.Text))))]), .gone, (.arr 5 1 (List.length a28_4) (flatD encU8 a28_4)), (.arr 5 1 (List.length r32_5.1) (flatD encU8 r32_5.1)), (.arr 5 1 (List.length r38_6.1) (flatD encU8 r38_6.1))], 0⟩ ?_
        refine AWP.seq ?_
        refine Adr ?_
        refine Wy (.agg [(.d (byteD p0.Kind)), (.d (.lit (.int .i64 p0.N))), (.d (.lit (.int .u64 p0.Bits))), (.d (.lit (.string (toS p0.Text))))]) [] (Old rfl) ?_
        obtain ⟨r42_7, hr42_7, hm⟩ := bnd hm
        refine Wy (.d (.lit (.int .i64 r42_7))) [] (Ocf [] [] [] 0 (ok_value_Check_m2 p0 r42_7 hr42_7) (fun a w => Try.call12 a w) rfl trivial) ?_
        refine Wy (.agg [(.d (byteD p0.Kind)), (.d (.lit (.int .i64 p0.N))), (.d (.lit (.int .u64 p0.Bits))), (.d (.lit (.string (toS p0.Text))))]) [] (Old rfl) ?_
        obtain ⟨r44_7, hr44_7, hm⟩ := bnd hm
        refine Wy (.d (.lit (.int .i64 r44_7))) [] (Ocf [] [] [] 0 (ok_telltaleref04_Check p0 r44_7 hr44_7) (fun a w => Try.call13 a w) rfl trivial) ?_
        refine Wy (.d (.lit (.bool (decide (r42_7 = r44_7))))) [] (Obn rfl (fun _ => hb_eql (k := .i64))) ?_
        rcases tf_ (decide (r42_7 = r44_7)) with hq46_7 | hq46_7
        · replace hm := cT hq46_7 hm
          refine Wy (.d (.lit (.bool true))) [] (Ocs (lit_tf (b := decide (r42_7 = r44_7)) hq46_7) (Omv rfl)) ?_
          refine Wy (.agg [(.d (byteD p0.Kind)), (.d (.lit (.int .i64 p0.N))), (.d (.lit (.int .u64 p0.Bits))), (.d (.lit (.string (toS p0.Text))))]) [] (Old rfl) ?_
          refine Wy (.agg [(.d (byteD p1.Kind)), (.d (.lit (.int .i64 p1.N))), (.d (.lit (.int .u64 p1.Bits))), (.d (.lit (.string (toS p1.Text))))]) [] (Old rfl) ?_
          obtain ⟨r49_7, hr49_7, hm⟩ := bnd hm
          refine Wy (.d (.lit (.int .i64 r49_7))) [] (Ocf [] [] [] 0 (ok_value_Rank_m2 p0 p1 r49_7 hr49_7) (fun a w => Try.call14 a w) rfl trivial) ?_
          refine Wy (.agg [(.d (byteD p0.Kind)), (.d (.lit (.int .i64 p0.N))), (.d (.lit (.int .u64 p0.Bits))), (.d (.lit (.string (toS p0.Text))))]) [] (Old rfl) ?_
          refine Wy (.agg [(.d (byteD p1.Kind)), (.d (.lit (.int .i64 p1.N))), (.d (.lit (.int .u64 p1.Bits))), (.d (.lit (.string (toS p1.Text))))]) [] (Old rfl) ?_
          obtain ⟨r52_7, hr52_7, hm⟩ := bnd hm
          refine Wy (.d (.lit (.int .i64 r52_7))) [] (Ocf [] [] [] 0 (ok_telltaleref04_Rank p0 p1 r52_7 hr52_7) (fun a w => Try.call15 a w) rfl trivial) ?_
          refine Wy (.d (.lit (.bool (decide (r49_7 = r52_7))))) [] (Obn rfl (fun _ => hb_eql (k := .i64))) ?_
          refine Wy (.d (.lit (.bool (decide (r49_7 = r52_7))))) [] (OpT rfl) ?_
          rcases tf_ (decide (r49_7 = r52_7)) with hq55_7 | hq55_7
          · replace hm := cT hq55_7 hm
            refine Wy (.d (.lit (.bool true))) [] (Ocs (lit_tf (b := decide (r49_7 = r52_7)) hq55_7) (Omv rfl)) ?_
            refine Wy (.own 4) [] (Omv rfl) ?_
            refine Wy (.d (.lit (.string (toS r32_5.1)))) [] (Ocs (by kernel_rfl) (op_str rfl (e := 5) (by kernel_rfl) (by kernel_rfl) (by kernel_rfl) (y := (.own 4)) (by kernel_rfl) (ds := flatD encU8 r32_5.1) (off := 0) (n := List.length r32_5.1) (by kernel_rfl) (l := r32_5.1) flatU8_take rfl)) ?_
            refine Wy (.own 5) [] (Omv rfl) ?_
            refine Wy (.d (.lit (.string (toS r38_6.1)))) [] (Ocs (by kernel_rfl) (op_str rfl (e := 5) (by kernel_rfl) (by kernel_rfl) (by kernel_rfl) (y := (.own 5)) (by kernel_rfl) (ds := flatD encU8 r38_6.1) (off := 0) (n := List.length r38_6.1) (by kernel_rfl) (l := r38_6.1) flatU8_take rfl)) ?_
            refine Wy (.d (.lit (.bool (decide (r32_5.1 = r38_6.1))))) [] (Ocs (lit_tf (by simp only [toS_inj, ne_eq])) (op_bin rfl (a1 := .string (toS r32_5.1)) (a2 := .string (toS r38_6.1)) (by kernel_rfl) (by kernel_rfl) (fun _ => hb_seql))) ?_
            refine Wy (.d (.lit (.bool (decide (r32_5.1 = r38_6.1))))) [] (OpT rfl) ?_
            rcases tf_ (decide (r32_5.1 = r38_6.1)) with hq62_7 | hq62_7
            · replace hm := cT hq62_7 hm
              refine Wy (.d (.lit (.bool true))) [] (Ocs (lit_tf (b := decide (r32_5.1 = r38_6.1)) hq62_7) (Omv rfl)) ?_
              refine Wy (.d (.lit (.int .i64 r32_5.2))) [] (Omv rfl) ?_
              refine Wy (.d (.lit (.int .i64 r38_6.2))) [] (Omv rfl) ?_
              refine Wy (.d (.lit (.bool (decide (r32_5.2 = r38_6.2))))) [] (Obn rfl (fun _ => hb_eql (k := .i64))) ?_
              refine Wy (.d (.lit (.bool (decide (r32_5.2 = r38_6.2))))) [] (OpT rfl) ?_
              rcases tf_ (decide (r32_5.2 = r38_6.2)) with hq67_7 | hq67_7
              · replace hm := cT hq67_7 hm
                refine Wy (.d (.lit (.bool true))) [] (Ocs (lit_tf (b := decide (r32_5.2 = r38_6.2)) hq67_7) (Omv rfl)) ?_
                refine Wy (.own 3) [] (Omv rfl) ?_
                refine Wy (.d (.lit (.string (toS a28_4)))) [] (Ocs (by kernel_rfl) (op_str rfl (e := 5) (by kernel_rfl) (by kernel_rfl) (by kernel_rfl) (y := (.own 3)) (by kernel_rfl) (ds := flatD encU8 a28_4) (off := 0) (n := List.length a28_4) (by kernel_rfl) (l := a28_4) flatU8_take rfl)) ?_
                refine Wy (.d (.sl (List.length p2) (flatD encU8 p2))) [] (Omv rfl) ?_
                refine Wy (.d (.lit (.string (toS p2)))) [] (Ocs (by kernel_rfl) (op_str rfl (e := 5) (by kernel_rfl) (by kernel_rfl) (by kernel_rfl) (y := (.d (.sl (List.length p2) (flatD encU8 p2)))) (by kernel_rfl) (ds := flatD encU8 p2) (off := 0) (n := List.length p2) (by kernel_rfl) (l := p2) flatU8_take rfl)) ?_
                refine Wy (.d (.lit (.bool (decide (a28_4 = p2))))) [] (Ocs (lit_tf (by simp only [toS_inj, ne_eq])) (op_bin rfl (a1 := .string (toS a28_4)) (a2 := .string (toS p2)) (by kernel_rfl) (by kernel_rfl) (fun _ => hb_seql))) ?_
                refine Wy (.d (.lit (.bool (decide (a28_4 = p2))))) [] (OpT rfl) ?_
                rcases tf_ (decide (a28_4 = p2)) with hq74_7 | hq74_7
                · replace hm := cT hq74_7 hm
                  refine Wy (.d (.lit (.bool true))) [] (Ocs (lit_tf (b := decide (a28_4 = p2)) hq74_7) (Omv rfl)) ?_
                  obtain ⟨r75_7, hr75_7, hm⟩ := bnd hm
                  refine Wy (.d (.lit (.bool r75_7))) [] (Ocf [] [] [] 0 (ok_telltalelaw04_awake  r75_7 hr75_7) (fun a w => Try.call9 a w) rfl trivial) ?_
                  refine Wy (.d (.lit (.bool r75_7))) [] (OpT rfl) ?_
                  refine Wy (.d (.lit (.bool r75_7))) [] (Omv rfl) ?_
                  refine Wdr ?_
                  refine Then.normal ?_
                  refine AWP.ret ?_
                  obtain rfl := Option.some.inj hm
                  exact ret_i []
                · replace hm := cF hq74_7 hm
                  refine Wy (.d (.lit (.bool false))) [] (Ocs (lit_tf (b := decide (a28_4 = p2)) hq74_7) (Omv rfl)) ?_
                  refine Wn ?_
                  refine Wy (.d (.lit (.bool false))) [] (OpF rfl) ?_
                  refine Wy (.d (.lit (.bool false))) [] (Omv rfl) ?_
                  refine Wdr ?_
                  refine Then.normal ?_
                  refine AWP.ret ?_
                  obtain rfl := Option.some.inj hm
                  exact ret_i []
              · replace hm := cF hq67_7 hm
                refine Wy (.d (.lit (.bool false))) [] (Ocs (lit_tf (b := decide (r32_5.2 = r38_6.2)) hq67_7) (Omv rfl)) ?_
                refine Wn ?_
                refine Wn ?_
                refine Wn ?_
                refine Wn ?_
                refine Wn ?_
                refine Wy (.d (.lit (.bool false))) [] (OpF rfl) ?_
                refine Wy (.d (.lit (.bool false))) [] (Omv rfl) ?_
                refine Wn ?_
                refine Wy (.d (.lit (.bool false))) [] (OpF rfl) ?_
                refine Wy (.d (.lit (.bool false))) [] (Omv rfl) ?_
                refine Wdr ?_
                refine Then.normal ?_
                refine AWP.ret ?_
                obtain rfl := Option.some.inj hm
                exact ret_i []
            · replace hm := cF hq62_7 hm
              refine Wy (.d (.lit (.bool false))) [] (Ocs (lit_tf (b := decide (r32_5.1 = r38_6.1)) hq62_7) (Omv rfl)) ?_
              refine Wn ?_
              refine Wn ?_
              refine Wn ?_
              refine Wy (.d (.lit (.bool false))) [] (OpF rfl) ?_
              refine Wy (.d (.lit (.bool false))) [] (Omv rfl) ?_
              refine Wn ?_
              refine Wn ?_
              refine Wn ?_
              refine Wn ?_
              refine Wn ?_
              refine Wy (.d (.lit (.bool false))) [] (OpF rfl) ?_
              refine Wy (.d (.lit (.bool false))) [] (Omv rfl) ?_
              refine Wn ?_
              refine Wy (.d (.lit (.bool false))) [] (OpF rfl) ?_
              refine Wy (.d (.lit (.bool false))) [] (Omv rfl) ?_
              refine Wdr ?_
              refine Then.normal ?_
              refine AWP.ret ?_
              obtain rfl := Option.some.inj hm
              exact ret_i []
          · replace hm := cF hq55_7 hm
            refine Wy (.d (.lit (.bool false))) [] (Ocs (lit_tf (b := decide (r49_7 = r52_7)) hq55_7) (Omv rfl)) ?_
            refine Wn ?_
            refine Wn ?_
            refine Wn ?_
            refine Wn ?_
            refine Wn ?_
            refine Wy (.d (.lit (.bool false))) [] (OpF rfl) ?_
            refine Wy (.d (.lit (.bool false))) [] (Omv rfl) ?_
            refine Wn ?_
            refine Wn ?_
            refine Wn ?_
            refine Wy (.d (.lit (.bool false))) [] (OpF rfl) ?_
            refine Wy (.d (.lit (.bool false))) [] (Omv rfl) ?_
            refine Wn ?_
            refine Wn ?_
            refine Wn ?_
            refine Wn ?_
            refine Wn ?_
            refine Wy (.d (.lit (.bool false))) [] (OpF rfl) ?_
            refine Wy (.d (.lit (.bool false))) [] (Omv rfl) ?_
            refine Wn ?_
            refine Wy (.d (.lit (.bool false))) [] (OpF rfl) ?_
            refine Wy (.d (.lit (.bool false))) [] (Omv rfl) ?_
            refine Wdr ?_
            refine Then.normal ?_
            refine AWP.ret ?_
            obtain rfl := Option.some.inj hm
            exact ret_i []
        · replace hm := cF hq46_7 hm
          refine Wy (.d (.lit (.bool false))) [] (Ocs (lit_tf (b := decide (r42_7 = r44_7)) hq46_7) (Omv rfl)) ?_
          refine Wn ?_
          refine Wn ?_
          refine Wn ?_
          refine Wn ?_
          refine Wn ?_
          refine Wn ?_
          refine Wn ?_
          refine Wy (.d (.lit (.bool false))) [] (OpF rfl) ?_
          refine Wy (.d (.lit (.bool false))) [] (Omv rfl) ?_
          refine Wn ?_
          refine Wn ?_
          refine Wn ?_
          refine Wn ?_
          refine Wn ?_
          refine Wy (.d (.lit (.bool false))) [] (OpF rfl) ?_
          refine Wy (.d (.lit (.bool false))) [] (Omv rfl) ?_
          refine Wn ?_
          refine Wn ?_
          refine Wn ?_
          refine Wy (.d (.lit (.bool false))) [] (OpF rfl) ?_
          refine Wy (.d (.lit (.bool false))) [] (Omv rfl) ?_
          refine Wn ?_
          refine Wn ?_
          refine Wn ?_
          refine Wn ?_
          refine Wn ?_
          refine Wy (.d (.lit (.bool false))) [] (OpF rfl) ?_
          refine Wy (.d (.lit (.bool false))) [] (Omv rfl) ?_
          refine Wn ?_
          refine Wy (.d (.lit (.bool false))) [] (OpF rfl) ?_
          refine Wy (.d (.lit (.bool false))) [] (Omv rfl) ?_
          refine Wdr ?_
          refine Then.normal ?_
          refine AWP.ret ?_
          obtain rfl := Option.some.inj hm
          exact ret_i []

set_option maxRecDepth 20000 in
set_option maxHeartbeats 4000000 in
theorem ok_telltaleref01_Open (p0 : (List UInt8)) (r : GReader) (h : m_telltaleref01_Open p0 = some r) : GCall Try.prog 45 [(.d (.lit (.string (toS p0))))] [] (.agg [(.d (.lit (.string (toS r.Text)))), (.d (.lit (.int .i64 r.At))), (.d (.lit (.int .i64 r.E)))]) [] := by
  refine GCall.of_body (n := 5) (rs := [(.cell 2 74)]) Try.func45 rfl rfl rfl ?_
  refine Ato ⟨((.d (.lit (.string (toS p0)))) :: (tu 4 [])), [], 0⟩ ?_
  have hm := h
  unfold m_telltaleref01_Open at hm
  refine AWP.seq ?_
  refine AWP.text ?_
  refine Wy (.loc 0 0) [(0, (.box [(.d (.lit (.string (toS ([] : List UInt8))))), (.d (.lit (.int .i64 0))), (.d (.lit (.int .i64 0)))]))] (Oal rfl) ?_
  refine Walk.nil ?_
  refine Then.normal ?_
  refine Amk 5 1 ⟨((.d (.lit (.string (toS p0)))) :: (tp 1 ((.loc 0 0) :: (tp 2 [])))), [(.box [(.d (.lit (.string (toS ([] : List UInt8))))), (.d (.lit (.int .i64 0))), (.d (.lit (.int .i64 0)))])], 0⟩ ?_
  refine AWP.seq ?_
  refine AWP.text ?_
  refine Wy (.d (.lit (.string (toS p0)))) [] (Omv rfl) ?_
  refine Wy (.agg [(.d (.lit (.string (toS p0)))), (.d (.lit (.int .i64 0))), (.d (.lit (.int .i64 0)))]) [] (Obd rfl) ?_
  refine Wy (.tup []) [(0, (.box [(.d (.lit (.string (toS p0)))), (.d (.lit (.int .i64 0))), (.d (.lit (.int .i64 0)))]))] (Ost rfl) ?_
  refine Walk.nil ?_
  refine Then.normal ?_
  refine AWP.ret ?_
  obtain rfl := Option.some.inj hm
  exact ret_i []

set_option maxRecDepth 20000 in
set_option maxHeartbeats 4000000 in
theorem ok_telltaleref01_rest (p0 : GReader) (r : (List UInt8)) (h : m_telltaleref01_rest p0 = some r) : GCall Try.prog 64 [(.agg [(.d (.lit (.string (toS p0.Text)))), (.d (.lit (.int .i64 p0.At))), (.d (.lit (.int .i64 p0.E)))])] [] (.d (.lit (.string (toS r)))) [] := by
  refine GCall.of_body (n := 19) (rs := [(.tmp 2)]) Try.func64 rfl rfl rfl ?_
  refine Ato ⟨((.agg [(.d (.lit (.string (toS p0.Text)))), (.d (.lit (.int .i64 p0.At))), (.d (.lit (.int .i64 p0.E)))]) :: (tu 18 [])), [], 0⟩ ?_
  have hm := h
  unfold m_telltaleref01_rest at hm
  refine AWP.seq ?_
  refine AWP.text ?_
  refine Wy (.loc 0 0) [(0, (.box [(.d (.lit (.string (toS p0.Text)))), (.d (.lit (.int .i64 p0.At))), (.d (.lit (.int .i64 p0.E)))]))] (Obx rfl) ?_
  refine Wy (.d (.lit (.string (toS ([] : List UInt8))))) [] (Omv rfl) ?_
  refine Walk.nil ?_
  refine Then.normal ?_
  refine Amk 2 1 ⟨(tp 1 ((.loc 0 0) :: (tp 17 []))), [(.box [(.d (.lit (.string (toS p0.Text)))), (.d (.lit (.int .i64 p0.At))), (.d (.lit (.int .i64 p0.E)))])], 0⟩ ?_
  refine AWP.seq ?_
  refine AWP.seq ?_
  refine AWP.text ?_
  refine Wy (.loc 0 1) [] (Ofa rfl) ?_
  refine Wy (.d (.lit (.int .i64 p0.At))) [] (Old rfl) ?_
  refine Wy (.d (.lit (.bool (decide (p0.At < 0))))) [] (Obn rfl (fun _ => hb_lss (k := .i64))) ?_
  rcases tf_ (decide (p0.At < 0)) with hq6_0 | hq6_0
  · replace hm := cT hq6_0 hm
    refine Wy (.d (.lit (.bool true))) [] (Ocs (lit_tf (b := decide (p0.At < 0)) hq6_0) (Omv rfl)) ?_
    refine Wn ?_
    refine Wn ?_
    refine Wn ?_
    refine Wn ?_
    refine Wn ?_
    refine Wn ?_
    refine Wy (.d (.lit (.bool true))) [] (OpT rfl) ?_
    refine Walk.nil ?_
    refine Then.normal ?_
    refine Amk 8194 1 ⟨(tp 1 ((.loc 0 0) :: (tp 11 ((.d (.lit (.bool true))) :: (tp 5 []))))), [(.box [(.d (.lit (.string (toS p0.Text)))), (.d (.lit (.int .i64 p0.At))), (.d (.lit (.int .i64 p0.E)))])], 0⟩ ?_
    refine AWP.if_ true (by kernel_rfl) ?_
    refine AWP.seq ?_
    refine AWP.text ?_
    refine Wy (.d (.lit (.string (toS ([] : List UInt8))))) [] (Omv rfl) ?_
    refine Walk.nil ?_
    refine Then.normal ?_
    refine AWP.ret ?_
    refine Then.ret ?_
    obtain rfl := Option.some.inj hm
    exact ret_i []
  · replace hm := cF hq6_0 hm
    refine Wy (.d (.lit (.bool false))) [] (Ocs (lit_tf (b := decide (p0.At < 0)) hq6_0) (Omv rfl)) ?_
    refine Wy (.loc 0 1) [] (Ofa rfl) ?_
    refine Wy (.d (.lit (.int .i64 p0.At))) [] (Old rfl) ?_
    refine Wy (.loc 0 0) [] (Ofa rfl) ?_
    refine Wy (.d (.lit (.string (toS p0.Text)))) [] (Old rfl) ?_
    refine Wy (.d (.lit (.int .i64 ((List.length p0.Text : Nat) : Int)))) [] (Oln rfl) ?_
    refine Wy (.d (.lit (.bool (decide (((List.length p0.Text : Nat) : Int) < p0.At))))) [] (Obn rfl (fun _ => hb_gtr (k := .i64))) ?_
    refine Wy (.d (.lit (.bool (decide (((List.length p0.Text : Nat) : Int) < p0.At))))) [] (OpF rfl) ?_
    refine Walk.nil ?_
    refine Then.normal ?_
    refine Amk 8194 1 ⟨(tp 1 ((.loc 0 0) :: (tp 11 ((.d (.lit (.bool (decide (((List.length p0.Text : Nat) : Int) < p0.At))))) :: (tp 5 []))))), [(.box [(.d (.lit (.string (toS p0.Text)))), (.d (.lit (.int .i64 p0.At))), (.d (.lit (.int .i64 p0.E)))])], 0⟩ ?_
    rcases tf_ (decide (((List.length p0.Text : Nat) : Int) < p0.At)) with hc13_2 | hc13_2
    · replace hm := cT hc13_2 hm
      refine AWP.if_ true (Eq.trans (by kernel_rfl) (lit_tf (b := decide (((List.length p0.Text : Nat) : Int) < p0.At)) hc13_2)) ?_
      refine AWP.seq ?_
      refine AWP.text ?_
      refine Wy (.d (.lit (.string (toS ([] : List UInt8))))) [] (Omv rfl) ?_
      refine Walk.nil ?_
      refine Then.normal ?_
      refine AWP.ret ?_
      refine Then.ret ?_
      obtain rfl := Option.some.inj hm
      exact ret_i []
    · replace hm := cF hc13_2 hm
      refine AWP.if_ false (Eq.trans (by kernel_rfl) (lit_tf (b := decide (((List.length p0.Text : Nat) : Int) < p0.At)) hc13_2)) ?_
      refine AWP.skip ?_
      refine Then.normal ?_
      refine Amk 2 1 ⟨(tp 1 ((.loc 0 0) :: (tp 17 []))), [(.box [(.d (.lit (.string (toS p0.Text)))), (.d (.lit (.int .i64 p0.At))), (.d (.lit (.int .i64 p0.E)))])], 0⟩ ?_
      refine AWP.seq ?_
      refine AWP.text ?_
      refine Wy (.loc 0 0) [] (Ofa rfl) ?_
      refine Wy (.d (.lit (.string (toS p0.Text)))) [] (Old rfl) ?_
      refine Wy (.loc 0 1) [] (Ofa rfl) ?_
      refine Wy (.d (.lit (.int .i64 p0.At))) [] (Old rfl) ?_
      obtain ⟨s18_1, hs18_1, hm⟩ := bnd hm; obtain ⟨hs18_1a, hs18_1b, hs18_1c, hs18_1d, hs18_1e⟩ := cut_some hs18_1
      refine Wy (.d (.lit (.string (toS s18_1)))) [] (Ocs (lit_str (toS_cut hs18_1e)) (op_slice_str rfl (by kernel_rfl) (s := toS p0.Text) (by kernel_rfl) (l := (Int.toNat p0.At)) (h := (Int.toNat ((List.length p0.Text : Nat) : Int))) (⟨.i64, p0.At, by kernel_rfl, hs18_1a⟩) (by exact rfl) hs18_1c hs18_1d)) ?_
      refine Wy (.d (.lit (.string (toS s18_1)))) [] (Omv rfl) ?_
      refine Walk.nil ?_
      refine Then.normal ?_
      refine AWP.ret ?_
      obtain rfl := Option.some.inj hm
      exact ret_i []

set_option maxRecDepth 20000 in
set_option maxHeartbeats 4000000 in
theorem ok_telltaleref01_RWord (p0 : GReader) (r : (GReader × Int)) (h : m_telltaleref01_RWord p0 = some r) : GCall Try.prog 44 [(.agg [(.d (.lit (.string (toS p0.Text)))), (.d (.lit (.int .i64 p0.At))), (.d (.lit (.int .i64 p0.E)))])] [] (.tup [(.agg [(.d (.lit (.string (toS r.1.Text)))), (.d (.lit (.int .i64 r.1.At))), (.d (.lit (.int .i64 r.1.E)))]), (.d (.lit (.int .u64 r.2)))]) [] := by
  refine GCall.of_body (n := 35) (rs := [(.cell 2 74), (.tmp 3)]) Try.func44 rfl rfl rfl ?_
  refine Ato ⟨((.agg [(.d (.lit (.string (toS p0.Text)))), (.d (.lit (.int .i64 p0.At))), (.d (.lit (.int .i64 p0.E)))]) :: (tu 34 [])), [], 0⟩ ?_
  have hm := h
  unfold m_telltaleref01_RWord at hm
  refine AWP.seq ?_
  refine AWP.text ?_
  refine Wy (.loc 0 0) [(0, (.box [(.d (.lit (.string (toS p0.Text)))), (.d (.lit (.int .i64 p0.At))), (.d (.lit (.int .i64 p0.E)))]))] (Obx rfl) ?_
  refine Wy (.loc 1 0) [(1, (.box [(.d (.lit (.string (toS ([] : List UInt8))))), (.d (.lit (.int .i64 0))), (.d (.lit (.int .i64 0)))]))] (Oal rfl) ?_
  refine Wy (.d (.lit (.int .u64 0))) [] (Omv rfl) ?_
  refine Walk.nil ?_
  refine Then.normal ?_
  refine Amk 6 3 ⟨(tp 1 ((.loc 0 0) :: ((.loc 1 0) :: (tp 32 [])))), [(.box [(.d (.lit (.string (toS p0.Text)))), (.d (.lit (.int .i64 p0.At))), (.d (.lit (.int .i64 p0.E)))]), (.box [(.d (.lit (.string (toS ([] : List UInt8))))), (.d (.lit (.int .i64 0))), (.d (.lit (.int .i64 0)))])], 0⟩ ?_
  refine AWP.seq ?_
  refine AWP.text ?_
  refine Wy (.agg [(.d (.lit (.string (toS p0.Text)))), (.d (.lit (.int .i64 p0.At))), (.d (.lit (.int .i64 p0.E)))]) [] (Old rfl) ?_
  obtain ⟨r8_0, hr8_0, hm⟩ := bnd hm
  refine Wy (.d (.lit (.string (toS r8_0)))) [] (Ocf [] [] [] 0 (ok_telltaleref01_rest p0 r8_0 hr8_0) (fun a w => Try.call64 a w) rfl trivial) ?_
  refine Wy (.d (.lit (.string (toS r8_0)))) [] (Omv rfl) ?_
  refine Walk.nil ?_
  refine Then.normal ?_
  refine Amk 22 3 ⟨(tp 1 ((.loc 0 0) :: ((.loc 1 0) :: (tp 1 ((.d (.lit (.string (toS r8_0)))) :: (tp 30 [])))))), [(.box [(.d (.lit (.string (toS p0.Text)))), (.d (.lit (.int .i64 p0.At))), (.d (.lit (.int .i64 p0.E)))]), (.box [(.d (.lit (.string (toS ([] : List UInt8))))), (.d (.lit (.int .i64 0))), (.d (.lit (.int .i64 0)))])], 0⟩ ?_
  refine AWP.seq ?_
  refine AWP.seq ?_
  refine AWP.text ?_
  refine Wy (.loc 0 2) [] (Ofa rfl) ?_
  refine Wy (.d (.lit (.int .i64 p0.E))) [] (Old rfl) ?_
  refine Wy (.d (.lit (.bool (decide (p0.E ≠ 0))))) [] (Obn rfl (fun _ => hb_neq (k := .i64))) ?_
  refine Walk.nil ?_
  refine Then.normal ?_
  refine Amk 2070 3 ⟨(tp 1 ((.loc 0 0) :: ((.loc 1 0) :: (tp 1 ((.d (.lit (.string (toS r8_0)))) :: (tp 6 ((.d (.lit (.bool (decide (p0.E ≠ 0))))) :: (tp 23 [])))))))), [(.box [(.d (.lit (.string (toS p0.Text)))), (.d (.lit (.int .i64 p0.At))), (.d (.lit (.int .i64 p0.E)))]), (.box [(.d (.lit (.string (toS ([] : List UInt8))))), (.d (.lit (.int .i64 0))), (.d (.lit (.int .i64 0)))])], 0⟩ ?_
  rcases tf_ (decide (p0.E ≠ 0)) with hc11_4 | hc11_4
  · replace hm := cT hc11_4 hm
    refine AWP.if_ true (Eq.trans (by kernel_rfl) (lit_tf (b := decide (p0.E ≠ 0)) hc11_4)) ?_
    refine AWP.seq ?_
    refine AWP.text ?_
    refine Wy (.agg [(.d (.lit (.string (toS p0.Text)))), (.d (.lit (.int .i64 p0.At))), (.d (.lit (.int .i64 p0.E)))]) [] (Old rfl) ?_
    refine Wy (.tup []) [(1, (.box [(.d (.lit (.string (toS p0.Text)))), (.d (.lit (.int .i64 p0.At))), (.d (.lit (.int .i64 p0.E)))]))] (Ost rfl) ?_
    refine Wy (.d (.lit (.int .u64 0))) [] (Omv rfl) ?_
    refine Walk.nil ?_
    refine Then.normal ?_
    refine AWP.ret ?_
    refine Then.ret ?_
    obtain rfl := Option.some.inj hm
    exact ret_i []
  · replace hm := cF hc11_4 hm
    refine AWP.if_ false (Eq.trans (by kernel_rfl) (lit_tf (b := decide (p0.E ≠ 0)) hc11_4)) ?_
    refine AWP.skip ?_
    refine Then.normal ?_
    refine Amk 22 3 ⟨(tp 1 ((.loc 0 0) :: ((.loc 1 0) :: (tp 1 ((.d (.lit (.string (toS r8_0)))) :: (tp 30 [])))))), [(.box [(.d (.lit (.string (toS p0.Text)))), (.d (.lit (.int .i64 p0.At))), (.d (.lit (.int .i64 p0.E)))]), (.box [(.d (.lit (.string (toS ([] : List UInt8))))), (.d (.lit (.int .i64 0))), (.d (.lit (.int .i64 0)))])], 0⟩ ?_
    refine AWP.seq ?_
    refine AWP.seq ?_
    refine AWP.text ?_
    refine Wy (.d (.lit (.string (toS r8_0)))) [] (Omv rfl) ?_
    refine Wy (.d (.lit (.int .i64 ((List.length r8_0 : Nat) : Int)))) [] (Oln rfl) ?_
    refine Wy (.d (.lit (.bool (decide (((List.length r8_0 : Nat) : Int) < 8))))) [] (Obn rfl (fun _ => hb_lss (k := .i64))) ?_
    refine Walk.nil ?_
    refine Then.normal ?_
    refine Amk 32790 3 ⟨(tp 1 ((.loc 0 0) :: ((.loc 1 0) :: (tp 1 ((.d (.lit (.string (toS r8_0)))) :: (tp 10 ((.d (.lit (.bool (decide (((List.length r8_0 : Nat) : Int) < 8))))) :: (tp 19 [])))))))), [(.box [(.d (.lit (.string (toS p0.Text)))), (.d (.lit (.int .i64 p0.At))), (.d (.lit (.int .i64 p0.E)))]), (.box [(.d (.lit (.string (toS ([] : List UInt8))))), (.d (.lit (.int .i64 0))), (.d (.lit (.int .i64 0)))])], 0⟩ ?_
    rcases tf_ (decide (((List.length r8_0 : Nat) : Int) < 8)) with hc15_5 | hc15_5
    · replace hm := cT hc15_5 hm
      refine AWP.if_ true (Eq.trans (by kernel_rfl) (lit_tf (b := decide (((List.length r8_0 : Nat) : Int) < 8)) hc15_5)) ?_
      refine AWP.seq ?_
      refine AWP.text ?_
      refine Wy (.loc 0 2) [] (Ofa rfl) ?_
      refine Wy (.tup []) [(0, (.box [(.d (.lit (.string (toS p0.Text)))), (.d (.lit (.int .i64 p0.At))), (.d (.lit (.int .i64 3)))]))] (Ost rfl) ?_
      refine Walk.nil ?_
      refine Then.normal ?_
      refine Amk 6 3 ⟨(tp 1 ((.loc 0 0) :: ((.loc 1 0) :: (tp 32 [])))), [(.box [(.d (.lit (.string (toS p0.Text)))), (.d (.lit (.int .i64 p0.At))), (.d (.lit (.int .i64 3)))]), (.box [(.d (.lit (.string (toS ([] : List UInt8))))), (.d (.lit (.int .i64 0))), (.d (.lit (.int .i64 0)))])], 0⟩ ?_
      refine AWP.seq ?_
      refine AWP.text ?_
      refine Wy (.agg [(.d (.lit (.string (toS p0.Text)))), (.d (.lit (.int .i64 p0.At))), (.d (.lit (.int .i64 3)))]) [] (Old rfl) ?_
      refine Wy (.tup []) [(1, (.box [(.d (.lit (.string (toS p0.Text)))), (.d (.lit (.int .i64 p0.At))), (.d (.lit (.int .i64 3)))]))] (Ost rfl) ?_
      refine Wy (.d (.lit (.int .u64 0))) [] (Omv rfl) ?_
      refine Walk.nil ?_
      refine Then.normal ?_
      refine AWP.ret ?_
      refine Then.ret ?_
      obtain rfl := Option.some.inj hm
      exact ret_i []
    · replace hm := cF hc15_5 hm
      refine AWP.if_ false (Eq.trans (by kernel_rfl) (lit_tf (b := decide (((List.length r8_0 : Nat) : Int) < 8)) hc15_5)) ?_
      refine AWP.skip ?_
      refine Then.normal ?_
      refine Amk 22 3 ⟨(tp 1 ((.loc 0 0) :: ((.loc 1 0) :: (tp 1 ((.d (.lit (.string (toS r8_0)))) :: (tp 30 [])))))), [(.box [(.d (.lit (.string (toS p0.Text)))), (.d (.lit (.int .i64 p0.At))), (.d (.lit (.int .i64 p0.E)))]), (.box [(.d (.lit (.string (toS ([] : List UInt8))))), (.d (.lit (.int .i64 0))), (.d (.lit (.int .i64 0)))])], 0⟩ ?_
      refine AWP.seq ?_
      refine AWP.text ?_
      refine Wy (.d (.lit (.int .u64 0))) [] (Omv rfl) ?_
      refine Walk.nil ?_
      refine Then.normal ?_
      refine Amk 54 3 ⟨(tp 1 ((.loc 0 0) :: ((.loc 1 0) :: (tp 1 ((.d (.lit (.string (toS r8_0)))) :: ((.d (.lit (.int .u64 0))) :: (tp 29 []))))))), [(.box [(.d (.lit (.string (toS p0.Text)))), (.d (.lit (.int .i64 p0.At))), (.d (.lit (.int .i64 p0.E)))]), (.box [(.d (.lit (.string (toS ([] : List UInt8))))), (.d (.lit (.int .i64 0))), (.d (.lit (.int .i64 0)))])], 0⟩ ?_
      refine AWP.seq ?_
      refine AWP.seq ?_
      refine AWP.text ?_
      refine Wy (.d (.lit (.int .i64 0))) [] (Omv rfl) ?_
      refine Walk.nil ?_
      refine Then.normal ?_
      refine Amk 118 3 ⟨(tp 1 ((.loc 0 0) :: ((.loc 1 0) :: (tp 1 ((.d (.lit (.string (toS r8_0)))) :: ((.d (.lit (.int .u64 0))) :: ((.d (.lit (.int .i64 0))) :: (tp 28 [])))))))), [(.box [(.d (.lit (.string (toS p0.Text)))), (.d (.lit (.int .i64 p0.At))), (.d (.lit (.int .i64 p0.E)))]), (.box [(.d (.lit (.string (toS ([] : List UInt8))))), (.d (.lit (.int .i64 0))), (.d (.lit (.int .i64 0)))])], 0⟩ ?_
      refine AWP.block ?_
      refine AWP.loopI (α := Nat × Int × Int)
        (fun x => match x with | (fu_2, y5_2, y6_2) => (⟨(tp 1 ((.loc 0 0) :: ((.loc 1 0) :: (tp 1 ((.d (.lit (.string (toS r8_0)))) :: ((.d (.lit (.int .u64 y5_2))) :: ((.d (.lit (.int .i64 y6_2))) :: (tp 28 [])))))))), [(.box [(.d (.lit (.string (toS p0.Text)))), (.d (.lit (.int .i64 p0.At))), (.d (.lit (.int .i64 p0.E)))]), (.box [(.d (.lit (.string (toS ([] : List UInt8))))), (.d (.lit (.int .i64 0))), (.d (.lit (.int .i64 0)))])], 0⟩ : St))
        (fun x => match x with | (fu_2, y5_2, y6_2) => m_telltaleref01_RWord_l2 p0 r8_0 fu_2 y5_2 y6_2 = some r)
        (fun x => match x with | (fu_2, y5_2, y6_2) => fu_2) (1152921504606846976, 0, 0)
        (Weak.toK 118 0 0 [0, 1]) hm ?_
      rintro ⟨fu_2, y5_2, y6_2⟩ n_2 hm ih_2
      try dsimp only at hm ih_2 ⊢
      cases fu_2 with
      | zero => exact absurd hm (by unfold m_telltaleref01_RWord_l2; simp)
      | succ fu_2 =>
        unfold m_telltaleref01_RWord_l2 at hm
        refine AWP.seq ?_
        refine AWP.seq ?_
        refine AWP.text ?_
        refine Wy (.d (.lit (.int .i64 y6_2))) [] (Omv rfl) ?_
        refine Wy (.d (.lit (.bool (decide (y6_2 < 8))))) [] (Obn rfl (fun _ => hb_lss (k := .i64))) ?_
        refine Walk.nil ?_
        refine Then.normal ?_
        refine Amk 524406 3 ⟨(tp 1 ((.loc 0 0) :: ((.loc 1 0) :: (tp 1 ((.d (.lit (.string (toS r8_0)))) :: ((.d (.lit (.int .u64 y5_2))) :: ((.d (.lit (.int .i64 y6_2))) :: (tp 12 ((.d (.lit (.bool (decide (y6_2 < 8))))) :: (tp 15 [])))))))))), [(.box [(.d (.lit (.string (toS p0.Text)))), (.d (.lit (.int .i64 p0.At))), (.d (.lit (.int .i64 p0.E)))]), (.box [(.d (.lit (.string (toS ([] : List UInt8))))), (.d (.lit (.int .i64 0))), (.d (.lit (.int .i64 0)))])], 0⟩ ?_
        rcases tf_ (decide (y6_2 < 8)) with hc19_6 | hc19_6
        · replace hm := cT hc19_6 hm
          refine AWP.if_ true (Eq.trans (by kernel_rfl) (lit_tf (b := decide (y6_2 < 8)) hc19_6)) ?_
          refine AWP.skip ?_
          refine Then.normal ?_
          refine Amk 118 3 ⟨(tp 1 ((.loc 0 0) :: ((.loc 1 0) :: (tp 1 ((.d (.lit (.string (toS r8_0)))) :: ((.d (.lit (.int .u64 y5_2))) :: ((.d (.lit (.int .i64 y6_2))) :: (tp 28 [])))))))), [(.box [(.d (.lit (.string (toS p0.Text)))), (.d (.lit (.int .i64 p0.At))), (.d (.lit (.int .i64 p0.E)))]), (.box [(.d (.lit (.string (toS ([] : List UInt8))))), (.d (.lit (.int .i64 0))), (.d (.lit (.int .i64 0)))])], 0⟩ ?_
          refine AWP.seq ?_
          refine AWP.block ?_
          refine AWP.text ?_
          refine Wy (.d (.lit (.int .u64 y5_2))) [] (Omv rfl) ?_
          refine Wy (.d (.lit (.int .u64 (IntKind.u64.wrap (y5_2 * 256))))) [] (Obn rfl (fun _ => hb_mul (k := .u64))) ?_
          refine Wy (.d (.lit (.string (toS r8_0)))) [] (Omv rfl) ?_
          refine Wy (.d (.lit (.int .i64 y6_2))) [] (Omv rfl) ?_
          obtain ⟨x26_3, hx26_3, hm⟩ := bnd hm
          obtain ⟨hx26_3i, hx26_3g⟩ := geti_some hx26_3
          refine Wy (.d (byteD x26_3)) [] (Ocs (by kernel_rfl) (op_index_str rfl (by kernel_rfl) (s := toS r8_0) (by kernel_rfl) (k := .i64) (iv := y6_2) (by kernel_rfl) (i := (Int.toNat y6_2)) (hx26_3i) (b := x26_3) (hx26_3g))) ?_
          refine Wy (.d (.lit (.int .u64 ((x26_3.toNat : Nat) : Int)))) [] (Ocs (lit_int (wrap_of_u8 (by decide) _)) (op_convert rfl (a1 := .int .u8 ((x26_3.toNat : Nat) : Int)) (by kernel_rfl) (run_conv (ds := .int .u8) (k' := .u64) (by kernel_rfl) (by kernel_rfl)))) ?_
          refine Wy (.d (.lit (.int .u64 (IntKind.u64.wrap ((IntKind.u64.wrap (y5_2 * 256)) + ((x26_3.toNat : Nat) : Int)))))) [] (Obn rfl (fun _ => hb_add (k := .u64))) ?_
          refine Wy (.d (.lit (.int .u64 (IntKind.u64.wrap ((IntKind.u64.wrap (y5_2 * 256)) + ((x26_3.toNat : Nat) : Int)))))) [] (Omv rfl) ?_
          refine Walk.nil ?_
          refine InBlock.normal ?_
          refine Then.normal ?_
          refine Amk 118 3 ⟨(tp 1 ((.loc 0 0) :: ((.loc 1 0) :: (tp 1 ((.d (.lit (.string (toS r8_0)))) :: ((.d (.lit (.int .u64 (IntKind.u64.wrap ((IntKind.u64.wrap (y5_2 * 256)) + ((x26_3.toNat : Nat) : Int)))))) :: ((.d (.lit (.int .i64 y6_2))) :: (tp 28 [])))))))), [(.box [(.d (.lit (.string (toS p0.Text)))), (.d (.lit (.int .i64 p0.At))), (.d (.lit (.int .i64 p0.E)))]), (.box [(.d (.lit (.string (toS ([] : List UInt8))))), (.d (.lit (.int .i64 0))), (.d (.lit (.int .i64 0)))])], 0⟩ ?_
          refine AWP.text ?_
          refine Wy (.d (.lit (.int .i64 y6_2))) [] (Omv rfl) ?_
          refine Wy (.d (.lit (.int .i64 (IntKind.i64.wrap (y6_2 + 1))))) [] (Obn rfl (fun _ => hb_add (k := .i64))) ?_
          refine Wy (.d (.lit (.int .i64 (IntKind.i64.wrap (y6_2 + 1))))) [] (Omv rfl) ?_
          refine Walk.nil ?_
          refine RoundK.normal ?_
          exact Rounds.weak (Weak.toK 118 0 0 [0, 1]) (ih_2 (fu_2, (IntKind.u64.wrap ((IntKind.u64.wrap (y5_2 * 256)) + ((x26_3.toNat : Nat) : Int))), (IntKind.i64.wrap (y6_2 + 1))) hm (Nat.lt_succ_self _))
        · replace hm := cF hc19_6 hm
          refine AWP.if_ false (Eq.trans (by kernel_rfl) (lit_tf (b := decide (y6_2 < 8)) hc19_6)) ?_
          refine AWP.exit ?_
          refine Then.exit ?_
          refine RoundK.exit ?_
          refine InBlock.same ?_
          refine Then.normal ?_
          refine Amk 38 3 ⟨(tp 1 ((.loc 0 0) :: ((.loc 1 0) :: (tp 2 ((.d (.lit (.int .u64 y5_2))) :: (tp 29 [])))))), [(.box [(.d (.lit (.string (toS p0.Text)))), (.d (.lit (.int .i64 p0.At))), (.d (.lit (.int .i64 p0.E)))]), (.box [(.d (.lit (.string (toS ([] : List UInt8))))), (.d (.lit (.int .i64 0))), (.d (.lit (.int .i64 0)))])], 0⟩ ?_
          refine AWP.seq ?_
          refine AWP.text ?_
          refine Wy (.loc 0 1) [] (Ofa rfl) ?_
          refine Wy (.d (.lit (.int .i64 p0.At))) [] (Old rfl) ?_
          refine Wy (.d (.lit (.int .i64 (IntKind.i64.wrap (p0.At + 8))))) [] (Obn rfl (fun _ => hb_add (k := .i64))) ?_
          refine Wy (.loc 0 1) [] (Ofa rfl) ?_
          refine Wy (.tup []) [(0, (.box [(.d (.lit (.string (toS p0.Text)))), (.d (.lit (.int .i64 (IntKind.i64.wrap (p0.At + 8))))), (.d (.lit (.int .i64 p0.E)))]))] (Ost rfl) ?_
          refine Walk.nil ?_
          refine Then.normal ?_
          refine Amk 38 3 ⟨(tp 1 ((.loc 0 0) :: ((.loc 1 0) :: (tp 2 ((.d (.lit (.int .u64 y5_2))) :: (tp 29 [])))))), [(.box [(.d (.lit (.string (toS p0.Text)))), (.d (.lit (.int .i64 (IntKind.i64.wrap (p0.At + 8))))), (.d (.lit (.int .i64 p0.E)))]), (.box [(.d (.lit (.string (toS ([] : List UInt8))))), (.d (.lit (.int .i64 0))), (.d (.lit (.int .i64 0)))])], 0⟩ ?_
          refine AWP.seq ?_
          refine AWP.text ?_
          refine Wy (.agg [(.d (.lit (.string (toS p0.Text)))), (.d (.lit (.int .i64 (IntKind.i64.wrap (p0.At + 8))))), (.d (.lit (.int .i64 p0.E)))]) [] (Old rfl) ?_
          refine Wy (.d (.lit (.int .u64 y5_2))) [] (Omv rfl) ?_
          refine Wy (.tup []) [(1, (.box [(.d (.lit (.string (toS p0.Text)))), (.d (.lit (.int .i64 (IntKind.i64.wrap (p0.At + 8))))), (.d (.lit (.int .i64 p0.E)))]))] (Ost rfl) ?_
          refine Wy (.d (.lit (.int .u64 y5_2))) [] (Omv rfl) ?_
          refine Walk.nil ?_
          refine Then.normal ?_
          refine AWP.ret ?_
          obtain rfl := Option.some.inj hm
          exact ret_i []

set_option maxRecDepth 20000 in
set_option maxHeartbeats 4000000 in
theorem ok_telltaleref02_Take (p0 : (List UInt8)) (p1 : Int) (r : (Int × Int × Int)) (h : m_telltaleref02_Take p0 p1 = some r) : GCall Try.prog 46 [(.d (.lit (.string (toS p0)))), (.d (.lit (.int .i64 p1)))] [] (.tup [(.d (.lit (.int .u64 r.1))), (.d (.lit (.int .i64 r.2.1))), (.d (.lit (.int .i64 r.2.2)))]) [] := by
  refine GCall.of_body (n := 63) (rs := [(.tmp 4), (.tmp 5), (.tmp 6)]) Try.func46 rfl rfl rfl ?_
  refine Ato ⟨((.d (.lit (.string (toS p0)))) :: ((.d (.lit (.int .i64 p1))) :: (tu 61 []))), [], 0⟩ ?_
  have hm := h
  unfold m_telltaleref02_Take at hm
  refine AWP.seq ?_
  refine AWP.text ?_
  refine Wy (.d (.lit (.int .u64 0))) [] (Omv rfl) ?_
  refine Wy (.d (.lit (.int .i64 0))) [] (Omv rfl) ?_
  refine Wy (.d (.lit (.int .i64 0))) [] (Omv rfl) ?_
  refine Walk.nil ?_
  refine Then.normal ?_
  refine Amk 3 0 ⟨((.d (.lit (.string (toS p0)))) :: ((.d (.lit (.int .i64 p1))) :: (tp 61 []))), [], 0⟩ ?_
  refine AWP.seq ?_
  refine AWP.seq ?_
  refine AWP.text ?_
  refine Wy (.d (.lit (.int .i64 p1))) [] (Omv rfl) ?_
  refine Wy (.d (.lit (.bool (decide (p1 < 0))))) [] (Obn rfl (fun _ => hb_lss (k := .i64))) ?_
  rcases tf_ (decide (p1 < 0)) with hq13_0 | hq13_0
  · replace hm := cT hq13_0 hm
    refine Wy (.d (.lit (.bool true))) [] (Ocs (lit_tf (b := decide (p1 < 0)) hq13_0) (Omv rfl)) ?_
    refine Wn ?_
    refine Wn ?_
    refine Wn ?_
    refine Wn ?_
    refine Wy (.d (.lit (.bool true))) [] (OpT rfl) ?_
    refine Walk.nil ?_
    refine Then.normal ?_
    refine Amk 262147 0 ⟨((.d (.lit (.string (toS p0)))) :: ((.d (.lit (.int .i64 p1))) :: (tp 16 ((.d (.lit (.bool true))) :: (tp 44 []))))), [], 0⟩ ?_
    refine AWP.if_ true (by kernel_rfl) ?_
    refine AWP.seq ?_
    refine AWP.text ?_
    refine Wy (.d (.lit (.int .u64 0))) [] (Omv rfl) ?_
    refine Wy (.d (.lit (.int .i64 0))) [] (Omv rfl) ?_
    refine Wy (.d (.lit (.int .i64 2))) [] (Omv rfl) ?_
    refine Walk.nil ?_
    refine Then.normal ?_
    refine AWP.ret ?_
    refine Then.ret ?_
    obtain rfl := Option.some.inj hm
    exact ret_i []
  · replace hm := cF hq13_0 hm
    refine Wy (.d (.lit (.bool false))) [] (Ocs (lit_tf (b := decide (p1 < 0)) hq13_0) (Omv rfl)) ?_
    refine Wy (.d (.lit (.int .i64 p1))) [] (Omv rfl) ?_
    refine Wy (.d (.lit (.string (toS p0)))) [] (Omv rfl) ?_
    refine Wy (.d (.lit (.int .i64 ((List.length p0 : Nat) : Int)))) [] (Oln rfl) ?_
    refine Wy (.d (.lit (.bool (decide (((List.length p0 : Nat) : Int) < p1))))) [] (Obn rfl (fun _ => hb_gtr (k := .i64))) ?_
    refine Wy (.d (.lit (.bool (decide (((List.length p0 : Nat) : Int) < p1))))) [] (OpF rfl) ?_
    refine Walk.nil ?_
    refine Then.normal ?_
    refine Amk 262147 0 ⟨((.d (.lit (.string (toS p0)))) :: ((.d (.lit (.int .i64 p1))) :: (tp 16 ((.d (.lit (.bool (decide (((List.length p0 : Nat) : Int) < p1))))) :: (tp 44 []))))), [], 0⟩ ?_
    rcases tf_ (decide (((List.length p0 : Nat) : Int) < p1)) with hc18_10 | hc18_10
    · replace hm := cT hc18_10 hm
      refine AWP.if_ true (Eq.trans (by kernel_rfl) (lit_tf (b := decide (((List.length p0 : Nat) : Int) < p1)) hc18_10)) ?_
      refine AWP.seq ?_
      refine AWP.text ?_
      refine Wy (.d (.lit (.int .u64 0))) [] (Omv rfl) ?_
      refine Wy (.d (.lit (.int .i64 0))) [] (Omv rfl) ?_
      refine Wy (.d (.lit (.int .i64 2))) [] (Omv rfl) ?_
      refine Walk.nil ?_
      refine Then.normal ?_
      refine AWP.ret ?_
      refine Then.ret ?_
      obtain rfl := Option.some.inj hm
      exact ret_i []
    · replace hm := cF hc18_10 hm
      refine AWP.if_ false (Eq.trans (by kernel_rfl) (lit_tf (b := decide (((List.length p0 : Nat) : Int) < p1)) hc18_10)) ?_
      refine AWP.skip ?_
      refine Then.normal ?_
      refine Amk 3 0 ⟨((.d (.lit (.string (toS p0)))) :: ((.d (.lit (.int .i64 p1))) :: (tp 61 []))), [], 0⟩ ?_
      refine AWP.seq ?_
      refine AWP.text ?_
      refine Wy (.d (.lit (.int .u64 0))) [] (Omv rfl) ?_
      refine Wy (.d (.lit (.int .u64 1))) [] (Omv rfl) ?_
      refine Walk.nil ?_
      refine Then.normal ?_
      refine Amk 387 0 ⟨((.d (.lit (.string (toS p0)))) :: ((.d (.lit (.int .i64 p1))) :: (tp 5 ((.d (.lit (.int .u64 0))) :: ((.d (.lit (.int .u64 1))) :: (tp 54 [])))))), [], 0⟩ ?_
      refine AWP.seq ?_
      refine AWP.seq ?_
      refine AWP.text ?_
      refine Wy (.d (.lit (.int .i64 0))) [] (Omv rfl) ?_
      refine Walk.nil ?_
      refine Then.normal ?_
      refine Amk 899 0 ⟨((.d (.lit (.string (toS p0)))) :: ((.d (.lit (.int .i64 p1))) :: (tp 5 ((.d (.lit (.int .u64 0))) :: ((.d (.lit (.int .u64 1))) :: ((.d (.lit (.int .i64 0))) :: (tp 53 []))))))), [], 0⟩ ?_
      refine AWP.block ?_
      refine AWP.loopI (α := Nat × Int × Int × Int)
        (fun x => match x with | (fu_1, y7_1, y8_1, y9_1) => (⟨((.d (.lit (.string (toS p0)))) :: ((.d (.lit (.int .i64 p1))) :: (tp 5 ((.d (.lit (.int .u64 y7_1))) :: ((.d (.lit (.int .u64 y8_1))) :: ((.d (.lit (.int .i64 y9_1))) :: (tp 53 []))))))), [], 0⟩ : St))
        (fun x => match x with | (fu_1, y7_1, y8_1, y9_1) => m_telltaleref02_Take_l1 p0 p1 fu_1 y7_1 y8_1 y9_1 = some r)
        (fun x => match x with | (fu_1, y7_1, y8_1, y9_1) => fu_1) (1152921504606846976, 0, 1, 0)
        (Weak.toK 899 0 0 []) hm ?_
      rintro ⟨fu_1, y7_1, y8_1, y9_1⟩ n_1 hm ih_1
      try dsimp only at hm ih_1 ⊢
      cases fu_1 with
      | zero => exact absurd hm (by unfold m_telltaleref02_Take_l1; simp)
      | succ fu_1 =>
        unfold m_telltaleref02_Take_l1 at hm
        refine AWP.seq ?_
        refine AWP.seq ?_
        refine AWP.text ?_
        refine Wy (.d (.lit (.int .i64 y9_1))) [] (Omv rfl) ?_
        refine Wy (.d (.lit (.bool (decide (y9_1 < 10))))) [] (Obn rfl (fun _ => hb_lss (k := .i64))) ?_
        refine Walk.nil ?_
        refine Then.normal ?_
        refine Amk 1049475 0 ⟨((.d (.lit (.string (toS p0)))) :: ((.d (.lit (.int .i64 p1))) :: (tp 5 ((.d (.lit (.int .u64 y7_1))) :: ((.d (.lit (.int .u64 y8_1))) :: ((.d (.lit (.int .i64 y9_1))) :: (tp 10 ((.d (.lit (.bool (decide (y9_1 < 10))))) :: (tp 42 []))))))))), [], 0⟩ ?_
        rcases tf_ (decide (y9_1 < 10)) with hc20_11 | hc20_11
        · replace hm := cT hc20_11 hm
          refine AWP.if_ true (Eq.trans (by kernel_rfl) (lit_tf (b := decide (y9_1 < 10)) hc20_11)) ?_
          refine AWP.skip ?_
          refine Then.normal ?_
          refine Amk 899 0 ⟨((.d (.lit (.string (toS p0)))) :: ((.d (.lit (.int .i64 p1))) :: (tp 5 ((.d (.lit (.int .u64 y7_1))) :: ((.d (.lit (.int .u64 y8_1))) :: ((.d (.lit (.int .i64 y9_1))) :: (tp 53 []))))))), [], 0⟩ ?_
          refine AWP.seq ?_
          refine AWP.block ?_
          refine AWP.seq ?_
          refine AWP.seq ?_
          refine AWP.text ?_
          refine Wy (.d (.lit (.int .i64 y9_1))) [] (Omv rfl) ?_
          refine Wy (.d (.lit (.string (toS p0)))) [] (Omv rfl) ?_
          refine Wy (.d (.lit (.int .i64 ((List.length p0 : Nat) : Int)))) [] (Oln rfl) ?_
          refine Wy (.d (.lit (.int .i64 p1))) [] (Omv rfl) ?_
          refine Wy (.d (.lit (.int .i64 (IntKind.i64.wrap (((List.length p0 : Nat) : Int) - p1))))) [] (Obn rfl (fun _ => hb_sub (k := .i64))) ?_
          refine Wy (.d (.lit (.bool (decide ((IntKind.i64.wrap (((List.length p0 : Nat) : Int) - p1)) ≤ y9_1))))) [] (Obn rfl (fun _ => hb_geq (k := .i64))) ?_
          refine Walk.nil ?_
          refine Then.normal ?_
          refine Amk 268436355 0 ⟨((.d (.lit (.string (toS p0)))) :: ((.d (.lit (.int .i64 p1))) :: (tp 5 ((.d (.lit (.int .u64 y7_1))) :: ((.d (.lit (.int .u64 y8_1))) :: ((.d (.lit (.int .i64 y9_1))) :: (tp 18 ((.d (.lit (.bool (decide ((IntKind.i64.wrap (((List.length p0 : Nat) : Int) - p1)) ≤ y9_1))))) :: (tp 34 []))))))))), [], 0⟩ ?_
          rcases tf_ (decide ((IntKind.i64.wrap (((List.length p0 : Nat) : Int) - p1)) ≤ y9_1)) with hc28_12 | hc28_12
          · replace hm := cT hc28_12 hm
            refine AWP.if_ true (Eq.trans (by kernel_rfl) (lit_tf (b := decide ((IntKind.i64.wrap (((List.length p0 : Nat) : Int) - p1)) ≤ y9_1)) hc28_12)) ?_
            refine AWP.seq ?_
            refine AWP.text ?_
            refine Wy (.d (.lit (.int .u64 0))) [] (Omv rfl) ?_
            refine Wy (.d (.lit (.int .i64 0))) [] (Omv rfl) ?_
            refine Wy (.d (.lit (.int .i64 3))) [] (Omv rfl) ?_
            refine Walk.nil ?_
            refine Then.normal ?_
            refine AWP.ret ?_
            refine Then.ret ?_
            refine InBlock.ret ?_
            refine Then.ret ?_
            refine RoundK.ret ?_
            refine InBlock.ret ?_
            refine Then.ret ?_
            obtain rfl := Option.some.inj hm
            exact ret_i []
          · replace hm := cF hc28_12 hm
            refine AWP.if_ false (Eq.trans (by kernel_rfl) (lit_tf (b := decide ((IntKind.i64.wrap (((List.length p0 : Nat) : Int) - p1)) ≤ y9_1)) hc28_12)) ?_
            refine AWP.skip ?_
            refine Then.normal ?_
            refine Amk 899 0 ⟨((.d (.lit (.string (toS p0)))) :: ((.d (.lit (.int .i64 p1))) :: (tp 5 ((.d (.lit (.int .u64 y7_1))) :: ((.d (.lit (.int .u64 y8_1))) :: ((.d (.lit (.int .i64 y9_1))) :: (tp 53 []))))))), [], 0⟩ ?_
            refine AWP.seq ?_
            refine AWP.text ?_
            refine Wy (.d (.lit (.string (toS p0)))) [] (Omv rfl) ?_
            refine Wy (.d (.lit (.int .i64 p1))) [] (Omv rfl) ?_
            refine Wy (.d (.lit (.int .i64 y9_1))) [] (Omv rfl) ?_
            refine Wy (.d (.lit (.int .i64 (IntKind.i64.wrap (p1 + y9_1))))) [] (Obn rfl (fun _ => hb_add (k := .i64))) ?_
            obtain ⟨x33_3, hx33_3, hm⟩ := bnd hm
            obtain ⟨hx33_3i, hx33_3g⟩ := geti_some hx33_3
            refine Wy (.d (byteD x33_3)) [] (Ocs (by kernel_rfl) (op_index_str rfl (by kernel_rfl) (s := toS p0) (by kernel_rfl) (k := .i64) (iv := (IntKind.i64.wrap (p1 + y9_1))) (by kernel_rfl) (i := (Int.toNat (IntKind.i64.wrap (p1 + y9_1)))) (hx33_3i) (b := x33_3) (hx33_3g))) ?_
            refine Wy (.d (.lit (.int .i64 ((x33_3.toNat : Nat) : Int)))) [] (Ocs (lit_int (wrap_of_u8 (by decide) _)) (op_convert rfl (a1 := .int .u8 ((x33_3.toNat : Nat) : Int)) (by kernel_rfl) (run_conv (ds := .int .u8) (k' := .i64) (by kernel_rfl) (by kernel_rfl)))) ?_
            refine Wy (.d (.lit (.int .i64 ((x33_3.toNat : Nat) : Int)))) [] (Omv rfl) ?_
            refine Walk.nil ?_
            refine Then.normal ?_
            refine Amk 1923 0 ⟨((.d (.lit (.string (toS p0)))) :: ((.d (.lit (.int .i64 p1))) :: (tp 5 ((.d (.lit (.int .u64 y7_1))) :: ((.d (.lit (.int .u64 y8_1))) :: ((.d (.lit (.int .i64 y9_1))) :: ((.d (.lit (.int .i64 ((x33_3.toNat : Nat) : Int)))) :: (tp 52 [])))))))), [], 0⟩ ?_
            refine AWP.cutJ (α := Unit) (fun x => match x with | () => (⟨((.d (.lit (.string (toS p0)))) :: ((.d (.lit (.int .i64 p1))) :: (tp 5 ((.d (.lit (.int .u64 y7_1))) :: ((.d (.lit (.int .u64 y8_1))) :: ((.d (.lit (.int .i64 y9_1))) :: ((.d (.lit (.int .i64 ((x33_3.toNat : Nat) : Int)))) :: (tp 52 [])))))))), [], 0⟩ : St)) (fun x => match x with | () => m_telltaleref02_Take_j8 p1 x33_3 y7_1 y8_1 y9_1 (fun y7_1 y8_1 y9_1 => m_telltaleref02_Take_l1 p0 p1 fu_1 y7_1 y8_1 y9_1) = some r) ?_ (fun J8 => ?_)
            · rintro ⟨⟩ hm
              try dsimp only at hm ⊢
              unfold m_telltaleref02_Take_j8 at hm
              refine AWP.cutJ (α := Unit) (fun x => match x with | () => (⟨((.d (.lit (.string (toS p0)))) :: ((.d (.lit (.int .i64 p1))) :: (tp 5 ((.d (.lit (.int .u64 y7_1))) :: ((.d (.lit (.int .u64 y8_1))) :: ((.d (.lit (.int .i64 y9_1))) :: ((.d (.lit (.int .i64 ((x33_3.toNat : Nat) : Int)))) :: (tp 52 [])))))))), [], 0⟩ : St)) (fun x => match x with | () => m_telltaleref02_Take_j9 p1 x33_3 y7_1 y8_1 y9_1 (fun y7_1 y8_1 y9_1 => m_telltaleref02_Take_l1 p0 p1 fu_1 y7_1 y8_1 y9_1) = some r) ?_ (fun J9 => ?_)
              · rintro ⟨⟩ hm
                try dsimp only at hm ⊢
                unfold m_telltaleref02_Take_j9 at hm
                refine AWP.seq ?_
                refine AWP.text ?_
                refine Wy (.d (.lit (.int .u64 y7_1))) [] (Omv rfl) ?_
                refine Wy (.d (.lit (.int .i64 ((x33_3.toNat : Nat) : Int)))) [] (Omv rfl) ?_
                refine Wy (.d (.lit (.int .i64 (Int.tmod ((x33_3.toNat : Nat) : Int) 128)))) [] (Ocs (by kernel_rfl) (op_bin rfl (a1 := .int .i64 ((x33_3.toNat : Nat) : Int)) (a2 := .int .i64 128) (by kernel_rfl) (by kernel_rfl) (fun _ => hb_rem (by decide)))) ?_
                refine Wy (.d (.lit (.int .u64 (IntKind.u64.wrap (Int.tmod ((x33_3.toNat : Nat) : Int) 128))))) [] (Ocs (by kernel_rfl) (op_convert rfl (a1 := .int .i64 (Int.tmod ((x33_3.toNat : Nat) : Int) 128)) (by kernel_rfl) (run_conv (ds := .int .i64) (k' := .u64) (by kernel_rfl) (by kernel_rfl)))) ?_
                refine Wy (.d (.lit (.int .u64 y8_1))) [] (Omv rfl) ?_
                refine Wy (.d (.lit (.int .u64 (IntKind.u64.wrap ((IntKind.u64.wrap (Int.tmod ((x33_3.toNat : Nat) : Int) 128)) * y8_1))))) [] (Obn rfl (fun _ => hb_mul (k := .u64))) ?_
                obtain ⟨v53_6, hv53_6, hm⟩ := bnd hm; replace hv53_6 := Option.some.inj hv53_6
                refine Wy (.d (.lit (.int .u64 v53_6))) [] (Ocs (congrArg (fun z => A.d (.lit (.int .u64 z))) hv53_6) (Obn rfl (fun _ => hb_add (k := .u64)))) ?_
                refine Wy (.d (.lit (.int .u64 v53_6))) [] (Omv rfl) ?_
                refine Walk.nil ?_
                refine Then.normal ?_
                refine Amk 1923 0 ⟨((.d (.lit (.string (toS p0)))) :: ((.d (.lit (.int .i64 p1))) :: (tp 5 ((.d (.lit (.int .u64 v53_6))) :: ((.d (.lit (.int .u64 y8_1))) :: ((.d (.lit (.int .i64 y9_1))) :: ((.d (.lit (.int .i64 ((x33_3.toNat : Nat) : Int)))) :: (tp 52 [])))))))), [], 0⟩ ?_
                refine AWP.seq ?_
                refine AWP.text ?_
                refine Wy (.d (.lit (.int .u64 y8_1))) [] (Omv rfl) ?_
                refine Wy (.d (.lit (.int .u64 (IntKind.u64.wrap (y8_1 * 128))))) [] (Obn rfl (fun _ => hb_mul (k := .u64))) ?_
                refine Wy (.d (.lit (.int .u64 (IntKind.u64.wrap (y8_1 * 128))))) [] (Omv rfl) ?_
                refine Walk.nil ?_
                refine Then.normal ?_
                refine Amk 1923 0 ⟨((.d (.lit (.string (toS p0)))) :: ((.d (.lit (.int .i64 p1))) :: (tp 5 ((.d (.lit (.int .u64 v53_6))) :: ((.d (.lit (.int .u64 (IntKind.u64.wrap (y8_1 * 128))))) :: ((.d (.lit (.int .i64 y9_1))) :: ((.d (.lit (.int .i64 ((x33_3.toNat : Nat) : Int)))) :: (tp 52 [])))))))), [], 0⟩ ?_
                refine AWP.seq ?_
                refine AWP.text ?_
                refine Wy (.d (.lit (.int .i64 ((x33_3.toNat : Nat) : Int)))) [] (Omv rfl) ?_
                refine Wy (.d (.lit (.bool (decide (((x33_3.toNat : Nat) : Int) < 128))))) [] (Obn rfl (fun _ => hb_lss (k := .i64))) ?_
                refine Walk.nil ?_
                refine Then.normal ?_
                refine Amk 144115188075856771 0 ⟨((.d (.lit (.string (toS p0)))) :: ((.d (.lit (.int .i64 p1))) :: (tp 5 ((.d (.lit (.int .u64 v53_6))) :: ((.d (.lit (.int .u64 (IntKind.u64.wrap (y8_1 * 128))))) :: ((.d (.lit (.int .i64 y9_1))) :: (tp 47 ((.d (.lit (.bool (decide (((x33_3.toNat : Nat) : Int) < 128))))) :: (tp 5 []))))))))), [], 0⟩ ?_
                rcases tf_ (decide (((x33_3.toNat : Nat) : Int) < 128)) with hc57_13 | hc57_13
                · replace hm := cT hc57_13 hm
                  refine AWP.if_ true (Eq.trans (by kernel_rfl) (lit_tf (b := decide (((x33_3.toNat : Nat) : Int) < 128)) hc57_13)) ?_
                  refine AWP.seq ?_
                  refine AWP.text ?_
                  refine Wy (.d (.lit (.int .u64 v53_6))) [] (Omv rfl) ?_
                  refine Wy (.d (.lit (.int .i64 p1))) [] (Omv rfl) ?_
                  refine Wy (.d (.lit (.int .i64 y9_1))) [] (Omv rfl) ?_
                  refine Wy (.d (.lit (.int .i64 (IntKind.i64.wrap (p1 + y9_1))))) [] (Obn rfl (fun _ => hb_add (k := .i64))) ?_
                  refine Wy (.d (.lit (.int .i64 (IntKind.i64.wrap ((IntKind.i64.wrap (p1 + y9_1)) + 1))))) [] (Obn rfl (fun _ => hb_add (k := .i64))) ?_
                  refine Wy (.d (.lit (.int .u64 v53_6))) [] (Omv rfl) ?_
                  refine Wy (.d (.lit (.int .i64 (IntKind.i64.wrap ((IntKind.i64.wrap (p1 + y9_1)) + 1))))) [] (Omv rfl) ?_
                  refine Wy (.d (.lit (.int .i64 0))) [] (Omv rfl) ?_
                  refine Walk.nil ?_
                  refine Then.normal ?_
                  refine AWP.ret ?_
                  refine InBlock.ret ?_
                  refine Then.ret ?_
                  refine RoundK.ret ?_
                  refine InBlock.ret ?_
                  refine Then.ret ?_
                  obtain rfl := Option.some.inj hm
                  exact ret_i []
                · replace hm := cF hc57_13 hm
                  refine AWP.if_ false (Eq.trans (by kernel_rfl) (lit_tf (b := decide (((x33_3.toNat : Nat) : Int) < 128)) hc57_13)) ?_
                  refine AWP.skip ?_
                  refine InBlock.normal ?_
                  refine Then.normal ?_
                  refine Amk 899 0 ⟨((.d (.lit (.string (toS p0)))) :: ((.d (.lit (.int .i64 p1))) :: (tp 5 ((.d (.lit (.int .u64 v53_6))) :: ((.d (.lit (.int .u64 (IntKind.u64.wrap (y8_1 * 128))))) :: ((.d (.lit (.int .i64 y9_1))) :: (tp 53 []))))))), [], 0⟩ ?_
                  refine AWP.text ?_
                  refine Wy (.d (.lit (.int .i64 y9_1))) [] (Omv rfl) ?_
                  refine Wy (.d (.lit (.int .i64 (IntKind.i64.wrap (y9_1 + 1))))) [] (Obn rfl (fun _ => hb_add (k := .i64))) ?_
                  refine Wy (.d (.lit (.int .i64 (IntKind.i64.wrap (y9_1 + 1))))) [] (Omv rfl) ?_
                  refine Walk.nil ?_
                  refine RoundK.normal ?_
                  exact Rounds.weak (Weak.toK 899 0 0 []) (ih_1 (fu_1, v53_6, (IntKind.u64.wrap (y8_1 * 128)), (IntKind.i64.wrap (y9_1 + 1))) hm (Nat.lt_succ_self _))
              refine AWP.seq ?_
              refine AWP.seq ?_
              refine AWP.text ?_
              refine Wy (.d (.lit (.int .i64 ((x33_3.toNat : Nat) : Int)))) [] (Omv rfl) ?_
              refine Wy (.d (.lit (.bool (decide (((x33_3.toNat : Nat) : Int) = 0))))) [] (Obn rfl (fun _ => hb_eql (k := .i64))) ?_
              rcases tf_ (decide (((x33_3.toNat : Nat) : Int) = 0)) with hq43_4 | hq43_4
              · replace hm := cT hq43_4 hm
                refine Wy (.d (.lit (.bool true))) [] (Ocs (lit_tf (b := decide (((x33_3.toNat : Nat) : Int) = 0)) hq43_4) (Omv rfl)) ?_
                refine Wy (.d (.lit (.int .i64 y9_1))) [] (Omv rfl) ?_
                refine Wy (.d (.lit (.bool (decide ((0 : Int) < y9_1))))) [] (Obn rfl (fun _ => hb_gtr (k := .i64))) ?_
                refine Wy (.d (.lit (.bool (decide ((0 : Int) < y9_1))))) [] (OpT rfl) ?_
                refine Walk.nil ?_
                refine Then.normal ?_
                refine Amk 70368744179587 0 ⟨((.d (.lit (.string (toS p0)))) :: ((.d (.lit (.int .i64 p1))) :: (tp 5 ((.d (.lit (.int .u64 y7_1))) :: ((.d (.lit (.int .u64 y8_1))) :: ((.d (.lit (.int .i64 y9_1))) :: ((.d (.lit (.int .i64 ((x33_3.toNat : Nat) : Int)))) :: (tp 35 ((.d (.lit (.bool (decide ((0 : Int) < y9_1))))) :: (tp 16 [])))))))))), [], 0⟩ ?_
                rcases tf_ (decide ((0 : Int) < y9_1)) with hc46_5 | hc46_5
                · replace hm := cT hc46_5 hm
                  refine AWP.if_ true (Eq.trans (by kernel_rfl) (lit_tf (b := decide ((0 : Int) < y9_1)) hc46_5)) ?_
                  refine AWP.seq ?_
                  refine AWP.text ?_
                  refine Wy (.d (.lit (.int .u64 0))) [] (Omv rfl) ?_
                  refine Wy (.d (.lit (.int .i64 0))) [] (Omv rfl) ?_
                  refine Wy (.d (.lit (.int .i64 4))) [] (Omv rfl) ?_
                  refine Walk.nil ?_
                  refine Then.normal ?_
                  refine AWP.ret ?_
                  refine Then.ret ?_
                  refine InBlock.ret ?_
                  refine Then.ret ?_
                  refine RoundK.ret ?_
                  refine InBlock.ret ?_
                  refine Then.ret ?_
                  obtain rfl := Option.some.inj hm
                  exact ret_i []
                · replace hm := cF hc46_5 hm
                  refine AWP.if_ false (Eq.trans (by kernel_rfl) (lit_tf (b := decide ((0 : Int) < y9_1)) hc46_5)) ?_
                  refine AWP.skip ?_
                  refine Then.normal ?_
                  exact AWP.weak (Weak.toK 1923 0 0 []) (J9 () hm)
              · replace hm := cF hq43_4 hm
                refine Wy (.d (.lit (.bool false))) [] (Ocs (lit_tf (b := decide (((x33_3.toNat : Nat) : Int) = 0)) hq43_4) (Omv rfl)) ?_
                refine Wn ?_
                refine Wn ?_
                refine Wy (.d (.lit (.bool false))) [] (OpF rfl) ?_
                refine Walk.nil ?_
                refine Then.normal ?_
                refine Amk 70368744179587 0 ⟨((.d (.lit (.string (toS p0)))) :: ((.d (.lit (.int .i64 p1))) :: (tp 5 ((.d (.lit (.int .u64 y7_1))) :: ((.d (.lit (.int .u64 y8_1))) :: ((.d (.lit (.int .i64 y9_1))) :: ((.d (.lit (.int .i64 ((x33_3.toNat : Nat) : Int)))) :: (tp 35 ((.d (.lit (.bool false))) :: (tp 16 [])))))))))), [], 0⟩ ?_
                refine AWP.if_ false (by kernel_rfl) ?_
                refine AWP.skip ?_
                refine Then.normal ?_
                exact AWP.weak (Weak.toK 1923 0 0 []) (J9 () hm)
            refine AWP.seq ?_
            refine AWP.seq ?_
            refine AWP.text ?_
            refine Wy (.d (.lit (.int .i64 y9_1))) [] (Omv rfl) ?_
            refine Wy (.d (.lit (.bool (decide (y9_1 = 9))))) [] (Obn rfl (fun _ => hb_eql (k := .i64))) ?_
            rcases tf_ (decide (y9_1 = 9)) with hq37_7 | hq37_7
            · replace hm := cT hq37_7 hm
              refine Wy (.d (.lit (.bool true))) [] (Ocs (lit_tf (b := decide (y9_1 = 9)) hq37_7) (Omv rfl)) ?_
              refine Wy (.d (.lit (.int .i64 ((x33_3.toNat : Nat) : Int)))) [] (Omv rfl) ?_
              refine Wy (.d (.lit (.bool (decide ((1 : Int) < ((x33_3.toNat : Nat) : Int)))))) [] (Obn rfl (fun _ => hb_gtr (k := .i64))) ?_
              refine Wy (.d (.lit (.bool (decide ((1 : Int) < ((x33_3.toNat : Nat) : Int)))))) [] (OpT rfl) ?_
              refine Walk.nil ?_
              refine Then.normal ?_
              refine Amk 1099511629699 0 ⟨((.d (.lit (.string (toS p0)))) :: ((.d (.lit (.int .i64 p1))) :: (tp 5 ((.d (.lit (.int .u64 y7_1))) :: ((.d (.lit (.int .u64 y8_1))) :: ((.d (.lit (.int .i64 y9_1))) :: ((.d (.lit (.int .i64 ((x33_3.toNat : Nat) : Int)))) :: (tp 29 ((.d (.lit (.bool (decide ((1 : Int) < ((x33_3.toNat : Nat) : Int)))))) :: (tp 22 [])))))))))), [], 0⟩ ?_
              rcases tf_ (decide ((1 : Int) < ((x33_3.toNat : Nat) : Int))) with hc40_14 | hc40_14
              · replace hm := cT hc40_14 hm
                refine AWP.if_ true (Eq.trans (by kernel_rfl) (lit_tf (b := decide ((1 : Int) < ((x33_3.toNat : Nat) : Int))) hc40_14)) ?_
                refine AWP.seq ?_
                refine AWP.text ?_
                refine Wy (.d (.lit (.int .u64 0))) [] (Omv rfl) ?_
                refine Wy (.d (.lit (.int .i64 0))) [] (Omv rfl) ?_
                refine Wy (.d (.lit (.int .i64 8))) [] (Omv rfl) ?_
                refine Walk.nil ?_
                refine Then.normal ?_
                refine AWP.ret ?_
                refine Then.ret ?_
                refine InBlock.ret ?_
                refine Then.ret ?_
                refine RoundK.ret ?_
                refine InBlock.ret ?_
                refine Then.ret ?_
                obtain rfl := Option.some.inj hm
                exact ret_i []
              · replace hm := cF hc40_14 hm
                refine AWP.if_ false (Eq.trans (by kernel_rfl) (lit_tf (b := decide ((1 : Int) < ((x33_3.toNat : Nat) : Int))) hc40_14)) ?_
                refine AWP.skip ?_
                refine Then.normal ?_
                exact AWP.weak (Weak.toK 1923 0 0 []) (J8 () hm)
            · replace hm := cF hq37_7 hm
              refine Wy (.d (.lit (.bool false))) [] (Ocs (lit_tf (b := decide (y9_1 = 9)) hq37_7) (Omv rfl)) ?_
              refine Wn ?_
              refine Wn ?_
              refine Wy (.d (.lit (.bool false))) [] (OpF rfl) ?_
              refine Walk.nil ?_
              refine Then.normal ?_
              refine Amk 1099511629699 0 ⟨((.d (.lit (.string (toS p0)))) :: ((.d (.lit (.int .i64 p1))) :: (tp 5 ((.d (.lit (.int .u64 y7_1))) :: ((.d (.lit (.int .u64 y8_1))) :: ((.d (.lit (.int .i64 y9_1))) :: ((.d (.lit (.int .i64 ((x33_3.toNat : Nat) : Int)))) :: (tp 29 ((.d (.lit (.bool false))) :: (tp 22 [])))))))))), [], 0⟩ ?_
              refine AWP.if_ false (by kernel_rfl) ?_
              refine AWP.skip ?_
              refine Then.normal ?_
              exact AWP.weak (Weak.toK 1923 0 0 []) (J8 () hm)
        · replace hm := cF hc20_11 hm
          refine AWP.if_ false (Eq.trans (by kernel_rfl) (lit_tf (b := decide (y9_1 < 10)) hc20_11)) ?_
          refine AWP.exit ?_
          refine Then.exit ?_
          refine RoundK.exit ?_
          refine InBlock.same ?_
          refine Then.normal ?_
          refine Amk 0 0 ⟨(tp 63 []), [], 0⟩ ?_
          refine AWP.seq ?_
          refine AWP.text ?_
          refine Wy (.d (.lit (.int .u64 0))) [] (Omv rfl) ?_
          refine Wy (.d (.lit (.int .i64 0))) [] (Omv rfl) ?_
          refine Wy (.d (.lit (.int .i64 8))) [] (Omv rfl) ?_
          refine Walk.nil ?_
          refine Then.normal ?_
          refine AWP.ret ?_
          obtain rfl := Option.some.inj hm
          exact ret_i []

set_option maxRecDepth 20000 in
set_option maxHeartbeats 4000000 in
theorem ok_telltaleref02_Back (p0 : Int) (r : Int) (h : m_telltaleref02_Back p0 = some r) : GCall Try.prog 47 [(.d (.lit (.int .u64 p0)))] [] (.d (.lit (.int .i64 r))) [] := by
  refine GCall.of_body (n := 14) (rs := [(.tmp 2)]) Try.func47 rfl rfl rfl ?_
  refine Ato ⟨((.d (.lit (.int .u64 p0))) :: (tu 13 [])), [], 0⟩ ?_
  have hm := h
  unfold m_telltaleref02_Back at hm
  refine AWP.seq ?_
  refine AWP.text ?_
  refine Wy (.d (.lit (.int .i64 0))) [] (Omv rfl) ?_
  refine Walk.nil ?_
  refine Then.normal ?_
  refine Amk 1 0 ⟨((.d (.lit (.int .u64 p0))) :: (tp 13 [])), [], 0⟩ ?_
  refine AWP.seq ?_
  refine AWP.seq ?_
  refine AWP.text ?_
  refine Wy (.d (.lit (.int .u64 p0))) [] (Omv rfl) ?_
  refine Wy (.d (.lit (.int .u64 (Int.tmod p0 2)))) [] (Ocs (by kernel_rfl) (op_bin rfl (a1 := .int .u64 p0) (a2 := .int .u64 2) (by kernel_rfl) (by kernel_rfl) (fun _ => hb_rem (by decide)))) ?_
  refine Wy (.d (.lit (.bool (decide ((Int.tmod p0 2) = 1))))) [] (Obn rfl (fun _ => hb_eql (k := .u64))) ?_
  refine Walk.nil ?_
  refine Then.normal ?_
  refine Amk 33 0 ⟨((.d (.lit (.int .u64 p0))) :: (tp 4 ((.d (.lit (.bool (decide ((Int.tmod p0 2) = 1))))) :: (tp 8 [])))), [], 0⟩ ?_
  rcases tf_ (decide ((Int.tmod p0 2) = 1)) with hc5_2 | hc5_2
  · replace hm := cT hc5_2 hm
    refine AWP.if_ true (Eq.trans (by kernel_rfl) (lit_tf (b := decide ((Int.tmod p0 2) = 1)) hc5_2)) ?_
    refine AWP.seq ?_
    refine AWP.text ?_
    refine Wy (.d (.lit (.int .u64 p0))) [] (Omv rfl) ?_
    refine Wy (.d (.lit (.int .u64 (IntKind.u64.wrap (Int.tdiv p0 2))))) [] (Ocs (by kernel_rfl) (op_bin rfl (a1 := .int .u64 p0) (a2 := .int .u64 2) (by kernel_rfl) (by kernel_rfl) (fun _ => hb_quo (by decide)))) ?_
    refine Wy (.d (.lit (.int .i64 (IntKind.i64.wrap (IntKind.u64.wrap (Int.tdiv p0 2)))))) [] (Ocs (by kernel_rfl) (op_convert rfl (a1 := .int .u64 (IntKind.u64.wrap (Int.tdiv p0 2))) (by kernel_rfl) (run_conv (ds := .int .u64) (k' := .i64) (by kernel_rfl) (by kernel_rfl)))) ?_
    refine Wy (.d (.lit (.int .i64 (IntKind.i64.wrap (0 - (IntKind.i64.wrap (IntKind.u64.wrap (Int.tdiv p0 2)))))))) [] (Ocs (by kernel_rfl) (op_un rfl (a1 := .int .i64 (IntKind.i64.wrap (IntKind.u64.wrap (Int.tdiv p0 2)))) (by kernel_rfl) (fun _ => hu_neg))) ?_
    refine Wy (.d (.lit (.int .i64 (IntKind.i64.wrap ((IntKind.i64.wrap (0 - (IntKind.i64.wrap (IntKind.u64.wrap (Int.tdiv p0 2))))) - 1))))) [] (Obn rfl (fun _ => hb_sub (k := .i64))) ?_
    refine Wy (.d (.lit (.int .i64 (IntKind.i64.wrap ((IntKind.i64.wrap (0 - (IntKind.i64.wrap (IntKind.u64.wrap (Int.tdiv p0 2))))) - 1))))) [] (Omv rfl) ?_
    refine Walk.nil ?_
    refine Then.normal ?_
    refine AWP.ret ?_
    refine Then.ret ?_
    obtain rfl := Option.some.inj hm
    exact ret_i []
  · replace hm := cF hc5_2 hm
    refine AWP.if_ false (Eq.trans (by kernel_rfl) (lit_tf (b := decide ((Int.tmod p0 2) = 1)) hc5_2)) ?_
    refine AWP.skip ?_
    refine Then.normal ?_
    refine Amk 1 0 ⟨((.d (.lit (.int .u64 p0))) :: (tp 13 [])), [], 0⟩ ?_
    refine AWP.seq ?_
    refine AWP.text ?_
    refine Wy (.d (.lit (.int .u64 p0))) [] (Omv rfl) ?_
    refine Wy (.d (.lit (.int .u64 (IntKind.u64.wrap (Int.tdiv p0 2))))) [] (Ocs (by kernel_rfl) (op_bin rfl (a1 := .int .u64 p0) (a2 := .int .u64 2) (by kernel_rfl) (by kernel_rfl) (fun _ => hb_quo (by decide)))) ?_
    refine Wy (.d (.lit (.int .i64 (IntKind.i64.wrap (IntKind.u64.wrap (Int.tdiv p0 2)))))) [] (Ocs (by kernel_rfl) (op_convert rfl (a1 := .int .u64 (IntKind.u64.wrap (Int.tdiv p0 2))) (by kernel_rfl) (run_conv (ds := .int .u64) (k' := .i64) (by kernel_rfl) (by kernel_rfl)))) ?_
    refine Wy (.d (.lit (.int .i64 (IntKind.i64.wrap (IntKind.u64.wrap (Int.tdiv p0 2)))))) [] (Omv rfl) ?_
    refine Walk.nil ?_
    refine Then.normal ?_
    refine AWP.ret ?_
    obtain rfl := Option.some.inj hm
    exact ret_i []
end Go.Proofs.Ytgocnknbiipcfaa.K
