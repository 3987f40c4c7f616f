/- each function computes what its model says (10) -/
import Derived.Test.YtgocnknbiipcfaaL9
namespace Go.Proofs.Ytgocnknbiipcfaa.K
open Go.RowKit Go.Lib
set_option linter.unusedVariables false
set_option linter.unusedSimpArgs false

set_option maxRecDepth 20000 in
set_option maxHeartbeats 4000000 in
theorem ok_telltalelaw04_ValueBack (p0 : GValue) (p1 : GValue) (p2 : (List UInt8)) (r : Bool) (h : m_telltalelaw04_ValueBack p0 p1 p2 = some r) : GCall Try.prog 6 [(.agg [(.d (byteD p0.Kind)), (.d (.lit (.int .i64 p0.N))), (.d (.lit (.int .u64 p0.Bits))), (.d (.lit (.string (toS p0.Text))))]), (.agg [(.d (byteD p1.Kind)), (.d (.lit (.int .i64 p1.N))), (.d (.lit (.int .u64 p1.Bits))), (.d (.lit (.string (toS p1.Text))))]), (.d (.lit (.string (toS p2))))] [] (.d (.lit (.bool r))) [] := by
  refine GCall.of_body (n := 129) (rs := [(.tmp 6)]) Try.func6 rfl rfl rfl ?_
  refine Ato ⟨((.agg [(.d (byteD p0.Kind)), (.d (.lit (.int .i64 p0.N))), (.d (.lit (.int .u64 p0.Bits))), (.d (.lit (.string (toS p0.Text))))]) :: ((.agg [(.d (byteD p1.Kind)), (.d (.lit (.int .i64 p1.N))), (.d (.lit (.int .u64 p1.Bits))), (.d (.lit (.string (toS p1.Text))))]) :: ((.d (.lit (.string (toS p2)))) :: (tu 126 [])))), [], 0⟩ ?_
  have hm := h
  unfold m_telltalelaw04_ValueBack at hm
  refine AWP.seq ?_
  refine AWP.text ?_
  refine Wy (.loc 0 0) [(0, (.box [(.d (byteD p0.Kind)), (.d (.lit (.int .i64 p0.N))), (.d (.lit (.int .u64 p0.Bits))), (.d (.lit (.string (toS p0.Text))))]))] (Obx rfl) ?_
  refine Wy (.loc 1 0) [(1, (.box [(.d (byteD p1.Kind)), (.d (.lit (.int .i64 p1.N))), (.d (.lit (.int .u64 p1.Bits))), (.d (.lit (.string (toS p1.Text))))]))] (Obx rfl) ?_
  refine Wy (.d (.lit (.bool false))) [] (Omv rfl) ?_
  refine Walk.nil ?_
  refine Then.normal ?_
  refine Amk 28 3 ⟨(tp 2 ((.d (.lit (.string (toS p2)))) :: ((.loc 0 0) :: ((.loc 1 0) :: (tp 124 []))))), [(.box [(.d (byteD p0.Kind)), (.d (.lit (.int .i64 p0.N))), (.d (.lit (.int .u64 p0.Bits))), (.d (.lit (.string (toS p0.Text))))]), (.box [(.d (byteD p1.Kind)), (.d (.lit (.int .i64 p1.N))), (.d (.lit (.int .u64 p1.Bits))), (.d (.lit (.string (toS p1.Text))))])], 0⟩ ?_
  refine AWP.seq ?_
  refine AWP.cutJ (α := Unit) (fun x => match x with | () => (⟨(tp 2 ((.d (.lit (.string (toS p2)))) :: ((.loc 0 0) :: ((.loc 1 0) :: (tp 27 ((.d (.lit (.bool true))) :: (tp 96 []))))))), [(.box [(.d (byteD p0.Kind)), (.d (.lit (.int .i64 p0.N))), (.d (.lit (.int .u64 p0.Bits))), (.d (.lit (.string (toS p0.Text))))]), (.box [(.d (byteD p1.Kind)), (.d (.lit (.int .i64 p1.N))), (.d (.lit (.int .u64 p1.Bits))), (.d (.lit (.string (toS p1.Text))))])], 0⟩ : St)) (fun x => match x with | () => m_telltalelaw04_ValueBack_j1  = some r) ?_ (fun J1 => ?_)
  · rintro ⟨⟩ hm
    try dsimp only at hm ⊢
    unfold m_telltalelaw04_ValueBack_j1 at hm
    refine AWP.if_ true (by kernel_rfl) ?_
    refine AWP.seq ?_
    refine AWP.text ?_
    obtain ⟨r33_2, hr33_2, hm⟩ := bnd hm
    refine Wy (.d (.lit (.bool r33_2))) [] (Ocf [] [] [] 0 (ok_telltalelaw04_awake  r33_2 hr33_2) (fun a w => Try.call9 a w) rfl trivial) ?_
    refine Wy (.d (.lit (.bool r33_2))) [] (Omv rfl) ?_
    refine Walk.nil ?_
    refine Then.normal ?_
    refine AWP.ret ?_
    refine Then.ret ?_
    obtain rfl := Option.some.inj hm
    exact ret_i []
  refine AWP.seq ?_
  refine AWP.text ?_
  refine Wy (.agg [(.d (byteD p0.Kind)), (.d (.lit (.int .i64 p0.N))), (.d (.lit (.int .u64 p0.Bits))), (.d (.lit (.string (toS p0.Text))))]) [] (Old rfl) ?_
  obtain ⟨r21_0, hr21_0, hm⟩ := bnd hm
  refine Wy (.d (.lit (.int .i64 r21_0))) [] (Ocf [] [] [] 0 (ok_telltalelaw04_Small p0 r21_0 hr21_0) (fun a w => Try.call8 a w) rfl trivial) ?_
  refine Wy (.d (.lit (.bool (decide ((0 : Int) < r21_0))))) [] (Obn rfl (fun _ => hb_gtr (k := .i64))) ?_
  rcases tf_ (decide ((0 : Int) < r21_0)) with hq23_0 | hq23_0
  · replace hm := cT hq23_0 hm
    refine Wy (.d (.lit (.bool true))) [] (Ocs (lit_tf (b := decide ((0 : Int) < r21_0)) hq23_0) (Omv rfl)) ?_
    refine Wn ?_
    refine Wn ?_
    refine Wn ?_
    refine Wy (.d (.lit (.bool true))) [] (OpT rfl) ?_
    refine Wy (.d (.lit (.bool true))) [] (Omv rfl) ?_
    refine Wn ?_
    refine Wn ?_
    refine Wn ?_
    refine Wy (.d (.lit (.bool true))) [] (OpT rfl) ?_
    refine Walk.nil ?_
    refine Then.normal ?_
    exact AWP.weak (Weak.toK 4294967324 0 0 [0, 1]) (J1 () hm)
  · replace hm := cF hq23_0 hm
    refine Wy (.d (.lit (.bool false))) [] (Ocs (lit_tf (b := decide ((0 : Int) < r21_0)) hq23_0) (Omv rfl)) ?_
    refine Wy (.agg [(.d (byteD p1.Kind)), (.d (.lit (.int .i64 p1.N))), (.d (.lit (.int .u64 p1.Bits))), (.d (.lit (.string (toS p1.Text))))]) [] (Old rfl) ?_
    obtain ⟨r25_0, hr25_0, hm⟩ := bnd hm
    refine Wy (.d (.lit (.int .i64 r25_0))) [] (Ocf [] [] [] 0 (ok_telltalelaw04_Small p1 r25_0 hr25_0) (fun a w => Try.call8 a w) rfl trivial) ?_
    refine Wy (.d (.lit (.bool (decide ((0 : Int) < r25_0))))) [] (Obn rfl (fun _ => hb_gtr (k := .i64))) ?_
    refine Wy (.d (.lit (.bool (decide ((0 : Int) < r25_0))))) [] (OpF rfl) ?_
    rcases tf_ (decide ((0 : Int) < r25_0)) with hq28_0 | hq28_0
    · replace hm := cT hq28_0 hm
      refine Wy (.d (.lit (.bool true))) [] (Ocs (lit_tf (b := decide ((0 : Int) < r25_0)) hq28_0) (Omv rfl)) ?_
      refine Wn ?_
      refine Wn ?_
      refine Wn ?_
      refine Wy (.d (.lit (.bool true))) [] (OpT rfl) ?_
      refine Walk.nil ?_
      refine Then.normal ?_
      exact AWP.weak (Weak.toK 4294967324 0 0 [0, 1]) (J1 () hm)
    · replace hm := cF hq28_0 hm
      refine Wy (.d (.lit (.bool false))) [] (Ocs (lit_tf (b := decide ((0 : Int) < r25_0)) hq28_0) (Omv rfl)) ?_
      refine Wy (.d (.lit (.string (toS p2)))) [] (Omv rfl) ?_
      refine Wy (.d (.lit (.int .i64 ((List.length p2 : Nat) : Int)))) [] (Oln rfl) ?_
      refine Wy (.d (.lit (.bool (decide ((100 : Int) < ((List.length p2 : Nat) : Int)))))) [] (Obn rfl (fun _ => hb_gtr (k := .i64))) ?_
      refine Wy (.d (.lit (.bool (decide ((100 : Int) < ((List.length p2 : Nat) : Int)))))) [] (OpF rfl) ?_
      refine Walk.nil ?_
      refine Then.normal ?_
      refine Amk 4294967324 3 ⟨(tp 2 ((.d (.lit (.string (toS p2)))) :: ((.loc 0 0) :: ((.loc 1 0) :: (tp 27 ((.d (.lit (.bool (decide ((100 : Int) < ((List.length p2 : Nat) : Int)))))) :: (tp 96 []))))))), [(.box [(.d (byteD p0.Kind)), (.d (.lit (.int .i64 p0.N))), (.d (.lit (.int .u64 p0.Bits))), (.d (.lit (.string (toS p0.Text))))]), (.box [(.d (byteD p1.Kind)), (.d (.lit (.int .i64 p1.N))), (.d (.lit (.int .u64 p1.Bits))), (.d (.lit (.string (toS p1.Text))))])], 0⟩ ?_
      rcases tf_ (decide ((100 : Int) < ((List.length p2 : Nat) : Int))) with hc32_17 | hc32_17
      · replace hm := cT hc32_17 hm
        refine AWP.if_ true (Eq.trans (by kernel_rfl) (lit_tf (b := decide ((100 : Int) < ((List.length p2 : Nat) : Int))) hc32_17)) ?_
        refine AWP.seq ?_
        refine AWP.text ?_
        obtain ⟨r33_3, hr33_3, hm⟩ := bnd hm
        refine Wy (.d (.lit (.bool r33_3))) [] (Ocf [] [] [] 0 (ok_telltalelaw04_awake  r33_3 hr33_3) (fun a w => Try.call9 a w) rfl trivial) ?_
        refine Wy (.d (.lit (.bool r33_3))) [] (Omv rfl) ?_
        refine Walk.nil ?_
        refine Then.normal ?_
        refine AWP.ret ?_
        refine Then.ret ?_
        obtain rfl := Option.some.inj hm
        exact ret_i []
      · replace hm := cF hc32_17 hm
        refine AWP.if_ false (Eq.trans (by kernel_rfl) (lit_tf (b := decide ((100 : Int) < ((List.length p2 : Nat) : Int))) hc32_17)) ?_
        refine AWP.skip ?_
        refine Then.normal ?_
        refine Amk 28 3 ⟨(tp 2 ((.d (.lit (.string (toS p2)))) :: ((.loc 0 0) :: ((.loc 1 0) :: (tp 124 []))))), [(.box [(.d (byteD p0.Kind)), (.d (.lit (.int .i64 p0.N))), (.d (.lit (.int .u64 p0.Bits))), (.d (.lit (.string (toS p0.Text))))]), (.box [(.d (byteD p1.Kind)), (.d (.lit (.int .i64 p1.N))), (.d (.lit (.int .u64 p1.Bits))), (.d (.lit (.string (toS p1.Text))))])], 0⟩ ?_
        refine AWP.seq ?_
        refine AWP.text ?_
        refine Wy (.d (.lit (.string (toS p2)))) [] (Omv rfl) ?_
        obtain ⟨r36_4, hr36_4, hm⟩ := bnd hm
        refine Wy (.tup [(.agg [(.d (byteD r36_4.1.Kind)), (.d (.lit (.int .i64 r36_4.1.N))), (.d (.lit (.int .u64 r36_4.1.Bits))), (.d (.lit (.string (toS r36_4.1.Text))))]), (.d (.lit (.int .i64 r36_4.2.1))), (.d (.lit (.int .i64 r36_4.2.2)))]) [] (Ocf [] [] [] 0 (ok_value_Take p2 0 r36_4 hr36_4) (fun a w => Try.call16 a w) rfl trivial) ?_
        refine Wy (.tup [(.agg [(.d (byteD r36_4.1.Kind)), (.d (.lit (.int .i64 r36_4.1.N))), (.d (.lit (.int .u64 r36_4.1.Bits))), (.d (.lit (.string (toS r36_4.1.Text))))]), (.d (.lit (.int .i64 r36_4.2.1))), (.d (.lit (.int .i64 r36_4.2.2)))]) [] (Omv rfl) ?_
        refine Wy (.agg [(.d (byteD r36_4.1.Kind)), (.d (.lit (.int .i64 r36_4.1.N))), (.d (.lit (.int .u64 r36_4.1.Bits))), (.d (.lit (.string (toS r36_4.1.Text))))]) [] (Oex rfl) ?_
        refine Wy (.d (.lit (.int .i64 r36_4.2.1))) [] (Oex rfl) ?_
        refine Wy (.d (.lit (.int .i64 r36_4.2.2))) [] (Oex rfl) ?_
        refine Wy (.loc 2 0) [(2, (.box [(.d (byteD 0)), (.d (.lit (.int .i64 0))), (.d (.lit (.int .u64 0))), (.d (.lit (.string (toS ([] : List UInt8)))))]))] (Oal rfl) ?_
        refine Wy (.tup []) [(2, (.box [(.d (byteD r36_4.1.Kind)), (.d (.lit (.int .i64 r36_4.1.N))), (.d (.lit (.int .u64 r36_4.1.Bits))), (.d (.lit (.string (toS r36_4.1.Text))))]))] (Ost rfl) ?_
        refine Wy (.d (.lit (.int .i64 r36_4.2.1))) [] (Omv rfl) ?_
        refine Wy (.d (.lit (.int .i64 r36_4.2.2))) [] (Omv rfl) ?_
        refine Walk.nil ?_
        refine Then.normal ?_
        refine Amk 924 7 ⟨(tp 2 ((.d (.lit (.string (toS p2)))) :: ((.loc 0 0) :: ((.loc 1 0) :: (tp 2 ((.loc 2 0) :: ((.d (.lit (.int .i64 r36_4.2.1))) :: ((.d (.lit (.int .i64 r36_4.2.2))) :: (tp 119 []))))))))), [(.box [(.d (byteD p0.Kind)), (.d (.lit (.int .i64 p0.N))), (.d (.lit (.int .u64 p0.Bits))), (.d (.lit (.string (toS p0.Text))))]), (.box [(.d (byteD p1.Kind)), (.d (.lit (.int .i64 p1.N))), (.d (.lit (.int .u64 p1.Bits))), (.d (.lit (.string (toS p1.Text))))]), (.box [(.d (byteD r36_4.1.Kind)), (.d (.lit (.int .i64 r36_4.1.N))), (.d (.lit (.int .u64 r36_4.1.Bits))), (.d (.lit (.string (toS r36_4.1.Text))))])], 0⟩ ?_
        refine AWP.cutJ (α := Unit) (fun x => match x with | () => (⟨(tp 2 ((.d (.lit (.string (toS p2)))) :: ((.loc 0 0) :: ((.loc 1 0) :: (tp 124 []))))), [(.box [(.d (byteD p0.Kind)), (.d (.lit (.int .i64 p0.N))), (.d (.lit (.int .u64 p0.Bits))), (.d (.lit (.string (toS p0.Text))))]), (.box [(.d (byteD p1.Kind)), (.d (.lit (.int .i64 p1.N))), (.d (.lit (.int .u64 p1.Bits))), (.d (.lit (.string (toS p1.Text))))])], 0⟩ : St)) (fun x => match x with | () => m_telltalelaw04_ValueBack_j8 p0 p1 p2 = some r) ?_ (fun J8 => ?_)
        · rintro ⟨⟩ hm
          try dsimp only at hm ⊢
          unfold m_telltalelaw04_ValueBack_j8 at hm
          refine AWP.seq ?_
          refine AWP.text ?_
          refine Wy (.agg [(.d (byteD p0.Kind)), (.d (.lit (.int .i64 p0.N))), (.d (.lit (.int .u64 p0.Bits))), (.d (.lit (.string (toS p0.Text))))]) [] (Old rfl) ?_
          obtain ⟨r69_9, hr69_9, hm⟩ := bnd hm
          refine Wy (.tup [(.own 2), (.d (.lit (.int .i64 r69_9.2)))]) [(2, (.arr 5 1 (List.length r69_9.1) (flatD encU8 r69_9.1)))] (Ocf [] [2] [] 0 (ok_value_Put_m2 ([] : List UInt8) p0 r69_9 hr69_9) (fun a w => Try.call10 a w) rfl trivial) ?_
          refine Wy (.tup [(.own 2), (.d (.lit (.int .i64 r69_9.2)))]) [] (Omv rfl) ?_
          refine Wy (.own 2) [] (Oex rfl) ?_
          refine Wy (.d (.lit (.int .i64 r69_9.2))) [] (Oex rfl) ?_
          refine Wy (.own 2) [] (Omv rfl) ?_
          refine Wy (.d (.lit (.int .i64 r69_9.2))) [] (Omv rfl) ?_
          refine Walk.nil ?_
          refine Then.normal ?_
          refine Amk 12316 7 ⟨(tp 2 ((.d (.lit (.string (toS p2)))) :: ((.loc 0 0) :: ((.loc 1 0) :: (tp 7 ((.own 2) :: ((.d (.lit (.int .i64 r69_9.2))) :: (tp 115 [])))))))), [(.box [(.d (byteD p0.Kind)), (.d (.lit (.int .i64 p0.N))), (.d (.lit (.int .u64 p0.Bits))), (.d (.lit (.string (toS p0.Text))))]), (.box [(.d (byteD p1.Kind)), (.d (.lit (.int .i64 p1.N))), (.d (.lit (.int .u64 p1.Bits))), (.d (.lit (.string (toS p1.Text))))]), (.arr 5 1 (List.length r69_9.1) (flatD encU8 r69_9.1))], 0⟩ ?_
          refine AWP.seq ?_
          refine AWP.text ?_
          refine Wy (.agg [(.d (byteD p1.Kind)), (.d (.lit (.int .i64 p1.N))), (.d (.lit (.int .u64 p1.Bits))), (.d (.lit (.string (toS p1.Text))))]) [] (Old rfl) ?_
          obtain ⟨r74_10, hr74_10, hm⟩ := bnd hm
          refine Wy (.tup [(.own 3), (.d (.lit (.int .i64 r74_10.2)))]) [(3, (.arr 5 1 (List.length r74_10.1) (flatD encU8 r74_10.1)))] (Ocf [] [3] [] 0 (ok_value_Put_m2 ([] : List UInt8) p1 r74_10 hr74_10) (fun a w => Try.call10 a w) rfl trivial) ?_
          refine Wy (.tup [(.own 3), (.d (.lit (.int .i64 r74_10.2)))]) [] (Omv rfl) ?_
          refine Wy (.own 3) [] (Oex rfl) ?_
          refine Wy (.d (.lit (.int .i64 r74_10.2))) [] (Oex rfl) ?_
          refine Wy (.own 3) [] (Omv rfl) ?_
          refine Wy (.d (.lit (.int .i64 r74_10.2))) [] (Omv rfl) ?_
          refine Walk.nil ?_
          refine Then.normal ?_
          refine Amk 61468 15 ⟨(tp 2 ((.d (.lit (.string (toS p2)))) :: ((.loc 0 0) :: ((.loc 1 0) :: (tp 7 ((.own 2) :: ((.d (.lit (.int .i64 r69_9.2))) :: ((.own 3) :: ((.d (.lit (.int .i64 r74_10.2))) :: (tp 113 [])))))))))), [(.box [(.d (byteD p0.Kind)), (.d (.lit (.int .i64 p0.N))), (.d (.lit (.int .u64 p0.Bits))), (.d (.lit (.string (toS p0.Text))))]), (.box [(.d (byteD p1.Kind)), (.d (.lit (.int .i64 p1.N))), (.d (.lit (.int .u64 p1.Bits))), (.d (.lit (.string (toS p1.Text))))]), (.arr 5 1 (List.length r69_9.1) (flatD encU8 r69_9.1)), (.arr 5 1 (List.length r74_10.1) (flatD encU8 r74_10.1))], 0⟩ ?_
          refine AWP.seq ?_
          refine AWP.seq ?_
          refine AWP.text ?_
          refine Wy (.d (.lit (.int .i64 r69_9.2))) [] (Omv rfl) ?_
          refine Wy (.d (.lit (.bool (decide (r69_9.2 ≠ 0))))) [] (Obn rfl (fun _ => hb_neq (k := .i64))) ?_
          rcases tf_ (decide (r69_9.2 ≠ 0)) with hq79_11 | hq79_11
          · replace hm := cT hq79_11 hm
            refine Wy (.d (.lit (.bool true))) [] (Ocs (lit_tf (b := decide (r69_9.2 ≠ 0)) hq79_11) (Omv rfl)) ?_
            refine Wn ?_
            refine Wn ?_
            refine Wy (.d (.lit (.bool true))) [] (OpT rfl) ?_
            refine Walk.nil ?_
            refine Then.normal ?_
            refine Amk 4835703278458516698845212 15 ⟨(tp 2 ((.d (.lit (.string (toS p2)))) :: ((.loc 0 0) :: ((.loc 1 0) :: (tp 7 ((.own 2) :: (tp 1 ((.own 3) :: (tp 67 ((.d (.lit (.bool true))) :: (tp 46 []))))))))))), [(.box [(.d (byteD p0.Kind)), (.d (.lit (.int .i64 p0.N))), (.d (.lit (.int .u64 p0.Bits))), (.d (.lit (.string (toS p0.Text))))]), (.box [(.d (byteD p1.Kind)), (.d (.lit (.int .i64 p1.N))), (.d (.lit (.int .u64 p1.Bits))), (.d (.lit (.string (toS p1.Text))))]), (.arr 5 1 (List.length r69_9.1) (flatD encU8 r69_9.1)), (.arr 5 1 (List.length r74_10.1) (flatD encU8 r74_10.1))], 0⟩ ?_
            refine AWP.if_ true (by kernel_rfl) ?_
            refine AWP.seq ?_
            refine AWP.text ?_
            obtain ⟨r83_12, hr83_12, hm⟩ := bnd hm
            refine Wy (.d (.lit (.bool r83_12))) [] (Ocf [] [] [] 0 (ok_telltalelaw04_awake  r83_12 hr83_12) (fun a w => Try.call9 a w) rfl trivial) ?_
            refine Wy (.d (.lit (.bool r83_12))) [] (Omv rfl) ?_
            refine Walk.nil ?_
            refine Then.normal ?_
            refine AWP.ret ?_
            refine Then.ret ?_
            obtain rfl := Option.some.inj hm
            exact ret_i []
          · replace hm := cF hq79_11 hm
            refine Wy (.d (.lit (.bool false))) [] (Ocs (lit_tf (b := decide (r69_9.2 ≠ 0)) hq79_11) (Omv rfl)) ?_
            refine Wy (.d (.lit (.int .i64 r74_10.2))) [] (Omv rfl) ?_
            refine Wy (.d (.lit (.bool (decide (r74_10.2 ≠ 0))))) [] (Obn rfl (fun _ => hb_neq (k := .i64))) ?_
            refine Wy (.d (.lit (.bool (decide (r74_10.2 ≠ 0))))) [] (OpF rfl) ?_
            refine Walk.nil ?_
            refine Then.normal ?_
            refine Amk 4835703278458516698845212 15 ⟨(tp 2 ((.d (.lit (.string (toS p2)))) :: ((.loc 0 0) :: ((.loc 1 0) :: (tp 7 ((.own 2) :: (tp 1 ((.own 3) :: (tp 67 ((.d (.lit (.bool (decide (r74_10.2 ≠ 0))))) :: (tp 46 []))))))))))), [(.box [(.d (byteD p0.Kind)), (.d (.lit (.int .i64 p0.N))), (.d (.lit (.int .u64 p0.Bits))), (.d (.lit (.string (toS p0.Text))))]), (.box [(.d (byteD p1.Kind)), (.d (.lit (.int .i64 p1.N))), (.d (.lit (.int .u64 p1.Bits))), (.d (.lit (.string (toS p1.Text))))]), (.arr 5 1 (List.length r69_9.1) (flatD encU8 r69_9.1)), (.arr 5 1 (List.length r74_10.1) (flatD encU8 r74_10.1))], 0⟩ ?_
            rcases tf_ (decide (r74_10.2 ≠ 0)) with hc82_18 | hc82_18
            · replace hm := cT hc82_18 hm
              refine AWP.if_ true (Eq.trans (by kernel_rfl) (lit_tf (b := decide (r74_10.2 ≠ 0)) hc82_18)) ?_
              refine AWP.seq ?_
              refine AWP.text ?_
              obtain ⟨r83_13, hr83_13, hm⟩ := bnd hm
              refine Wy (.d (.lit (.bool r83_13))) [] (Ocf [] [] [] 0 (ok_telltalelaw04_awake  r83_13 hr83_13) (fun a w => Try.call9 a w) rfl trivial) ?_
              refine Wy (.d (.lit (.bool r83_13))) [] (Omv rfl) ?_
              refine Walk.nil ?_
              refine Then.normal ?_
              refine AWP.ret ?_
              refine Then.ret ?_
              obtain rfl := Option.some.inj hm
              exact ret_i []
            · replace hm := cF hc82_18 hm
              refine AWP.if_ false (Eq.trans (by kernel_rfl) (lit_tf (b := decide (r74_10.2 ≠ 0)) hc82_18)) ?_
              refine AWP.skip ?_
              refine Then.normal ?_
              refine Amk 20508 15 ⟨(tp 2 ((.d (.lit (.string (toS p2)))) :: ((.loc 0 0) :: ((.loc 1 0) :: (tp 7 ((.own 2) :: (tp 1 ((.own 3) :: (tp 114 []))))))))), [(.box [(.d (byteD p0.Kind)), (.d (.lit (.int .i64 p0.N))), (.d (.lit (.int .u64 p0.Bits))), (.d (.lit (.string (toS p0.Text))))]), (.box [(.d (byteD p1.Kind)), (.d (.lit (.int .i64 p1.N))), (.d (.lit (.int .u64 p1.Bits))), (.d (.lit (.string (toS p1.Text))))]), (.arr 5 1 (List.length r69_9.1) (flatD encU8 r69_9.1)), (.arr 5 1 (List.length r74_10.1) (flatD encU8 r74_10.1))], 0⟩ ?_
              refine AWP.seq ?_
              refine AWP.text ?_
              refine Wy (.own 2) [] (Omv rfl) ?_
              refine Wy (.d (.lit (.string (toS r69_9.1)))) [] (Ocs (by kernel_rfl) (op_str rfl (e := 5) (by kernel_rfl) (by kernel_rfl) (by kernel_rfl) (y := (.own 2)) (by kernel_rfl) (ds := flatD encU8 r69_9.1) (off := 0) (n := List.length r69_9.1) (by kernel_rfl) (l := r69_9.1) flatU8_take rfl)) ?_
              refine Wy (.d (.lit (.string (toS p2)))) [] (Omv rfl) ?_
              obtain ⟨t88_14, ht88_14, hm⟩ := bnd hm; obtain ⟨ht88_14e, ht88_14l⟩ := app_some ht88_14
              refine Wy (.d (.lit (.string (toS t88_14)))) [] (op_bin rfl (a1 := .string (toS r69_9.1)) (a2 := .string (toS p2)) (by kernel_rfl) (by kernel_rfl) (fun _ => hb_sadd ht88_14e ht88_14l)) ?_
              obtain ⟨r89_14, hr89_14, hm⟩ := bnd hm
              refine Wy (.tup [(.agg [(.d (byteD r89_14.1.Kind)), (.d (.lit (.int .i64 r89_14.1.N))), (.d (.lit (.int .u64 r89_14.1.Bits))), (.d (.lit (.string (toS r89_14.1.Text))))]), (.d (.lit (.int .i64 r89_14.2.1))), (.d (.lit (.int .i64 r89_14.2.2)))]) [] (Ocf [] [] [] 0 (ok_value_Take t88_14 0 r89_14 hr89_14) (fun a w => Try.call16 a w) rfl trivial) ?_
              refine Wy (.tup [(.agg [(.d (byteD r89_14.1.Kind)), (.d (.lit (.int .i64 r89_14.1.N))), (.d (.lit (.int .u64 r89_14.1.Bits))), (.d (.lit (.string (toS r89_14.1.Text))))]), (.d (.lit (.int .i64 r89_14.2.1))), (.d (.lit (.int .i64 r89_14.2.2)))]) [] (Omv rfl) ?_
              refine Wy (.agg [(.d (byteD r89_14.1.Kind)), (.d (.lit (.int .i64 r89_14.1.N))), (.d (.lit (.int .u64 r89_14.1.Bits))), (.d (.lit (.string (toS r89_14.1.Text))))]) [] (Oex rfl) ?_
              refine Wy (.d (.lit (.int .i64 r89_14.2.1))) [] (Oex rfl) ?_
              refine Wy (.d (.lit (.int .i64 r89_14.2.2))) [] (Oex rfl) ?_
              refine Wy (.loc 4 0) [(4, (.box [(.d (byteD 0)), (.d (.lit (.int .i64 0))), (.d (.lit (.int .u64 0))), (.d (.lit (.string (toS ([] : List UInt8)))))]))] (Oal rfl) ?_
              refine Wy (.tup []) [(4, (.box [(.d (byteD r89_14.1.Kind)), (.d (.lit (.int .i64 r89_14.1.N))), (.d (.lit (.int .u64 r89_14.1.Bits))), (.d (.lit (.string (toS r89_14.1.Text))))]))] (Ost rfl) ?_
              refine Wy (.d (.lit (.int .i64 r89_14.2.1))) [] (Omv rfl) ?_
              refine Wy (.d (.lit (.int .i64 r89_14.2.2))) [] (Omv rfl) ?_
              refine Walk.nil ?_
              refine Then.normal ?_
              refine Amk 479256 31 ⟨(tp 3 ((.loc 0 0) :: ((.loc 1 0) :: (tp 7 ((.own 2) :: (tp 1 ((.own 3) :: (tp 1 ((.loc 4 0) :: ((.d (.lit (.int .i64 r89_14.2.1))) :: ((.d (.lit (.int .i64 r89_14.2.2))) :: (tp 110 [])))))))))))), [(.box [(.d (byteD p0.Kind)), (.d (.lit (.int .i64 p0.N))), (.d (.lit (.int .u64 p0.Bits))), (.d (.lit (.string (toS p0.Text))))]), (.box [(.d (byteD p1.Kind)), (.d (.lit (.int .i64 p1.N))), (.d (.lit (.int .u64 p1.Bits))), (.d (.lit (.string (toS p1.Text))))]), (.arr 5 1 (List.length r69_9.1) (flatD encU8 r69_9.1)), (.arr 5 1 (List.length r74_10.1) (flatD encU8 r74_10.1)), (.box [(.d (byteD r89_14.1.Kind)), (.d (.lit (.int .i64 r89_14.1.N))), (.d (.lit (.int .u64 r89_14.1.Bits))), (.d (.lit (.string (toS r89_14.1.Text))))])], 0⟩ ?_
              refine AWP.seq ?_
              refine AWP.text ?_
              refine Wy (.agg [(.d (byteD p0.Kind)), (.d (.lit (.int .i64 p0.N))), (.d (.lit (.int .u64 p0.Bits))), (.d (.lit (.string (toS p0.Text))))]) [] (Old rfl) ?_
              refine Wy (.agg [(.d (byteD p1.Kind)), (.d (.lit (.int .i64 p1.N))), (.d (.lit (.int .u64 p1.Bits))), (.d (.lit (.string (toS p1.Text))))]) [] (Old rfl) ?_
              obtain ⟨v95_15, hv95_15, hm⟩ := bnd hm; replace hv95_15 := Option.some.inj hv95_15
              refine Wy (.d (.lit (.bool v95_15))) [] (Ocs (Eq.trans (lit_tf (by simp only [toS_inj])) (congrArg (fun z => A.d (.lit (.bool z))) hv95_15)) (op_eql_struct rfl (la := [(.d (byteD p0.Kind)), (.d (.lit (.int .i64 p0.N))), (.d (.lit (.int .u64 p0.Bits))), (.d (.lit (.string (toS p0.Text))))]) (lb := [(.d (byteD p1.Kind)), (.d (.lit (.int .i64 p1.N))), (.d (.lit (.int .u64 p1.Bits))), (.d (.lit (.string (toS p1.Text))))]) (us := [.int .u8 ((p0.Kind.toNat : Nat) : Int), .int .i64 p0.N, .int .u64 p0.Bits, .string (toS p0.Text)]) (vs := [.int .u8 ((p1.Kind.toNat : Nat) : Int), .int .i64 p1.N, .int .u64 p1.Bits, .string (toS p1.Text)]) (r := (decide (((p0.Kind.toNat : Nat) : Int) = ((p1.Kind.toNat : Nat) : Int)) && (decide (p0.N = p1.N) && (decide (p0.Bits = p1.Bits) && (decide ((toS p0.Text) = (toS p1.Text)) && true))))) (by kernel_rfl) (by kernel_rfl) (by kernel_rfl) (by kernel_rfl) (by kernel_rfl))) ?_
              refine Wy (.d (.lit (.bool v95_15))) [] (Omv rfl) ?_
              refine Walk.nil ?_
              refine Then.normal ?_
              refine Amk 1003544 31 ⟨(tp 3 ((.loc 0 0) :: ((.loc 1 0) :: (tp 7 ((.own 2) :: (tp 1 ((.own 3) :: (tp 1 ((.loc 4 0) :: ((.d (.lit (.int .i64 r89_14.2.1))) :: ((.d (.lit (.int .i64 r89_14.2.2))) :: ((.d (.lit (.bool v95_15))) :: (tp 109 []))))))))))))), [(.box [(.d (byteD p0.Kind)), (.d (.lit (.int .i64 p0.N))), (.d (.lit (.int .u64 p0.Bits))), (.d (.lit (.string (toS p0.Text))))]), (.box [(.d (byteD p1.Kind)), (.d (.lit (.int .i64 p1.N))), (.d (.lit (.int .u64 p1.Bits))), (.d (.lit (.string (toS p1.Text))))]), (.arr 5 1 (List.length r69_9.1) (flatD encU8 r69_9.1)), (.arr 5 1 (List.length r74_10.1) (flatD encU8 r74_10.1)), (.box [(.d (byteD r89_14.1.Kind)), (.d (.lit (.int .i64 r89_14.1.N))), (.d (.lit (.int .u64 r89_14.1.Bits))), (.d (.lit (.string (toS r89_14.1.Text))))])], 0⟩ ?_
              refine AWP.seq ?_
              refine AWP.text ?_
              refine Wy (.d (.lit (.int .i64 r89_14.2.2))) [] (Omv rfl) ?_
              refine Wy (.d (.lit (.bool (decide (r89_14.2.2 = 0))))) [] (Obn rfl (fun _ => hb_eql (k := .i64))) ?_
              rcases tf_ (decide (r89_14.2.2 = 0)) with hq98_16 | hq98_16
              · replace hm := cT hq98_16 hm
                refine Wy (.d (.lit (.bool true))) [] (Ocs (lit_tf (b := decide (r89_14.2.2 = 0)) hq98_16) (Omv rfl)) ?_
                refine Wy (.agg [(.d (byteD r89_14.1.Kind)), (.d (.lit (.int .i64 r89_14.1.N))), (.d (.lit (.int .u64 r89_14.1.Bits))), (.d (.lit (.string (toS r89_14.1.Text))))]) [] (Old rfl) ?_
                refine Wy (.agg [(.d (byteD p0.Kind)), (.d (.lit (.int .i64 p0.N))), (.d (.lit (.int .u64 p0.Bits))), (.d (.lit (.string (toS p0.Text))))]) [] (Old rfl) ?_
                obtain ⟨v101_16, hv101_16, hm⟩ := bnd hm; replace hv101_16 := Option.some.inj hv101_16
                refine Wy (.d (.lit (.bool v101_16))) [] (Ocs (Eq.trans (lit_tf (by simp only [toS_inj])) (congrArg (fun z => A.d (.lit (.bool z))) hv101_16)) (op_eql_struct rfl (la := [(.d (byteD r89_14.1.Kind)), (.d (.lit (.int .i64 r89_14.1.N))), (.d (.lit (.int .u64 r89_14.1.Bits))), (.d (.lit (.string (toS r89_14.1.Text))))]) (lb := [(.d (byteD p0.Kind)), (.d (.lit (.int .i64 p0.N))), (.d (.lit (.int .u64 p0.Bits))), (.d (.lit (.string (toS p0.Text))))]) (us := [.int .u8 ((r89_14.1.Kind.toNat : Nat) : Int), .int .i64 r89_14.1.N, .int .u64 r89_14.1.Bits, .string (toS r89_14.1.Text)]) (vs := [.int .u8 ((p0.Kind.toNat : Nat) : Int), .int .i64 p0.N, .int .u64 p0.Bits, .string (toS p0.Text)]) (r := (decide (((r89_14.1.Kind.toNat : Nat) : Int) = ((p0.Kind.toNat : Nat) : Int)) && (decide (r89_14.1.N = p0.N) && (decide (r89_14.1.Bits = p0.Bits) && (decide ((toS r89_14.1.Text) = (toS p0.Text)) && true))))) (by kernel_rfl) (by kernel_rfl) (by kernel_rfl) (by kernel_rfl) (by kernel_rfl))) ?_
                refine Wy (.d (.lit (.bool v101_16))) [] (OpT rfl) ?_
                rcases tf_ v101_16 with hq103_16 | hq103_16
                · replace hm := cT hq103_16 hm
                  refine Wy (.d (.lit (.bool true))) [] (Ocs (lit_tf (b := v101_16) hq103_16) (Omv rfl)) ?_
                  refine Wy (.d (.lit (.int .i64 r89_14.2.1))) [] (Omv rfl) ?_
                  refine Wy (.own 2) [] (Omv rfl) ?_
                  refine Wy (.d (.lit (.int .i64 ((List.length r69_9.1 : Nat) : Int)))) [] (Oln rfl) ?_
                  refine Wy (.d (.lit (.bool (decide (r89_14.2.1 = ((List.length r69_9.1 : Nat) : Int)))))) [] (Obn rfl (fun _ => hb_eql (k := .i64))) ?_
                  refine Wy (.d (.lit (.bool (decide (r89_14.2.1 = ((List.length r69_9.1 : Nat) : Int)))))) [] (OpT rfl) ?_
                  rcases tf_ (decide (r89_14.2.1 = ((List.length r69_9.1 : Nat) : Int))) with hq109_16 | hq109_16
                  · replace hm := cT hq109_16 hm
                    refine Wy (.d (.lit (.bool true))) [] (Ocs (lit_tf (b := decide (r89_14.2.1 = ((List.length r69_9.1 : Nat) : Int))) hq109_16) (Omv rfl)) ?_
                    refine Wy (.own 2) [] (Omv rfl) ?_
                    refine Wy (.d (.lit (.string (toS r69_9.1)))) [] (Ocs (by kernel_rfl) (op_str rfl (e := 5) (by kernel_rfl) (by kernel_rfl) (by kernel_rfl) (y := (.own 2)) (by kernel_rfl) (ds := flatD encU8 r69_9.1) (off := 0) (n := List.length r69_9.1) (by kernel_rfl) (l := r69_9.1) flatU8_take rfl)) ?_
                    refine Wy (.own 3) [] (Omv rfl) ?_
                    refine Wy (.d (.lit (.string (toS r74_10.1)))) [] (Ocs (by kernel_rfl) (op_str rfl (e := 5) (by kernel_rfl) (by kernel_rfl) (by kernel_rfl) (y := (.own 3)) (by kernel_rfl) (ds := flatD encU8 r74_10.1) (off := 0) (n := List.length r74_10.1) (by kernel_rfl) (l := r74_10.1) flatU8_take rfl)) ?_
                    refine Wy (.d (.lit (.bool (decide (r69_9.1 = r74_10.1))))) [] (Ocs (lit_tf (by simp only [toS_inj, ne_eq])) (op_bin rfl (a1 := .string (toS r69_9.1)) (a2 := .string (toS r74_10.1)) (by kernel_rfl) (by kernel_rfl) (fun _ => hb_seql))) ?_
                    refine Wy (.d (.lit (.bool v95_15))) [] (Omv rfl) ?_
                    refine Wy (.d (.lit (.bool (decide (decide (r69_9.1 = r74_10.1) = v95_15))))) [] (Ocs (by kernel_rfl) (op_bin rfl (a1 := .bool (decide (r69_9.1 = r74_10.1))) (a2 := .bool v95_15) (by kernel_rfl) (by kernel_rfl) (fun _ => hb_beql (by kernel_rfl)))) ?_
                    refine Wy (.d (.lit (.bool (decide (decide (r69_9.1 = r74_10.1) = v95_15))))) [] (OpT rfl) ?_
                    rcases tf_ (decide (decide (r69_9.1 = r74_10.1) = v95_15)) with hq118_16 | hq118_16
                    · replace hm := cT hq118_16 hm
                      refine Wy (.d (.lit (.bool true))) [] (Ocs (lit_tf (b := decide (decide (r69_9.1 = r74_10.1) = v95_15)) hq118_16) (Omv rfl)) ?_
                      refine Wy (.agg [(.d (byteD p0.Kind)), (.d (.lit (.int .i64 p0.N))), (.d (.lit (.int .u64 p0.Bits))), (.d (.lit (.string (toS p0.Text))))]) [] (Old rfl) ?_
                      refine Wy (.agg [(.d (byteD p1.Kind)), (.d (.lit (.int .i64 p1.N))), (.d (.lit (.int .u64 p1.Bits))), (.d (.lit (.string (toS p1.Text))))]) [] (Old rfl) ?_
                      obtain ⟨r121_16, hr121_16, hm⟩ := bnd hm
                      refine Wy (.d (.lit (.int .i64 r121_16))) [] (Ocf [] [] [] 0 (ok_value_Rank_m2 p0 p1 r121_16 hr121_16) (fun a w => Try.call14 a w) rfl trivial) ?_
                      refine Wy (.d (.lit (.bool (decide (r121_16 = 0))))) [] (Obn rfl (fun _ => hb_eql (k := .i64))) ?_
                      refine Wy (.d (.lit (.bool v95_15))) [] (Omv rfl) ?_
                      refine Wy (.d (.lit (.bool (decide (decide (r121_16 = 0) = v95_15))))) [] (Ocs (by kernel_rfl) (op_bin rfl (a1 := .bool (decide (r121_16 = 0))) (a2 := .bool v95_15) (by kernel_rfl) (by kernel_rfl) (fun _ => hb_beql (by kernel_rfl)))) ?_
                      refine Wy (.d (.lit (.bool (decide (decide (r121_16 = 0) = v95_15))))) [] (OpT rfl) ?_
                      rcases tf_ (decide (decide (r121_16 = 0) = v95_15)) with hq126_16 | hq126_16
                      · replace hm := cT hq126_16 hm
                        refine Wy (.d (.lit (.bool true))) [] (Ocs (lit_tf (b := decide (decide (r121_16 = 0) = v95_15)) hq126_16) (Omv rfl)) ?_
                        obtain ⟨r127_16, hr127_16, hm⟩ := bnd hm
                        refine Wy (.d (.lit (.bool r127_16))) [] (Ocf [] [] [] 0 (ok_telltalelaw04_awake  r127_16 hr127_16) (fun a w => Try.call9 a w) rfl trivial) ?_
                        refine Wy (.d (.lit (.bool r127_16))) [] (OpT rfl) ?_
                        refine Wy (.d (.lit (.bool r127_16))) [] (Omv rfl) ?_
                        refine Walk.nil ?_
                        refine Then.normal ?_
                        refine AWP.ret ?_
                        obtain rfl := Option.some.inj hm
                        exact ret_i []
                      · replace hm := cF hq126_16 hm
                        refine Wy (.d (.lit (.bool false))) [] (Ocs (lit_tf (b := decide (decide (r121_16 = 0) = v95_15)) hq126_16) (Omv rfl)) ?_
                        refine Wn ?_
                        refine Wy (.d (.lit (.bool false))) [] (OpF rfl) ?_
                        refine Wy (.d (.lit (.bool false))) [] (Omv rfl) ?_
                        refine Walk.nil ?_
                        refine Then.normal ?_
                        refine AWP.ret ?_
                        obtain rfl := Option.some.inj hm
                        exact ret_i []
                    · replace hm := cF hq118_16 hm
                      refine Wy (.d (.lit (.bool false))) [] (Ocs (lit_tf (b := decide (decide (r69_9.1 = r74_10.1) = v95_15)) hq118_16) (Omv rfl)) ?_
                      refine Wn ?_
                      refine Wn ?_
                      refine Wn ?_
                      refine Wn ?_
                      refine Wn ?_
                      refine Wn ?_
                      refine Wy (.d (.lit (.bool false))) [] (OpF rfl) ?_
                      refine Wy (.d (.lit (.bool false))) [] (Omv rfl) ?_
                      refine Wn ?_
                      refine Wy (.d (.lit (.bool false))) [] (OpF rfl) ?_
                      refine Wy (.d (.lit (.bool false))) [] (Omv rfl) ?_
                      refine Walk.nil ?_
                      refine Then.normal ?_
                      refine AWP.ret ?_
                      obtain rfl := Option.some.inj hm
                      exact ret_i []
                  · replace hm := cF hq109_16 hm
                    refine Wy (.d (.lit (.bool false))) [] (Ocs (lit_tf (b := decide (r89_14.2.1 = ((List.length r69_9.1 : Nat) : Int))) hq109_16) (Omv rfl)) ?_
                    refine Wn ?_
                    refine Wn ?_
                    refine Wn ?_
                    refine Wn ?_
                    refine Wn ?_
                    refine Wn ?_
                    refine Wn ?_
                    refine Wy (.d (.lit (.bool false))) [] (OpF rfl) ?_
                    refine Wy (.d (.lit (.bool false))) [] (Omv rfl) ?_
                    refine Wn ?_
                    refine Wn ?_
                    refine Wn ?_
                    refine Wn ?_
                    refine Wn ?_
                    refine Wn ?_
                    refine Wy (.d (.lit (.bool false))) [] (OpF rfl) ?_
                    refine Wy (.d (.lit (.bool false))) [] (Omv rfl) ?_
                    refine Wn ?_
                    refine Wy (.d (.lit (.bool false))) [] (OpF rfl) ?_
                    refine Wy (.d (.lit (.bool false))) [] (Omv rfl) ?_
                    refine Walk.nil ?_
                    refine Then.normal ?_
                    refine AWP.ret ?_
                    obtain rfl := Option.some.inj hm
                    exact ret_i []
                · replace hm := cF hq103_16 hm
                  refine Wy (.d (.lit (.bool false))) [] (Ocs (lit_tf (b := v101_16) hq103_16) (Omv rfl)) ?_
                  refine Wn ?_
                  refine Wn ?_
                  refine Wn ?_
                  refine Wn ?_
                  refine Wy (.d (.lit (.bool false))) [] (OpF rfl) ?_
                  refine Wy (.d (.lit (.bool false))) [] (Omv rfl) ?_
                  refine Wn ?_
                  refine Wn ?_
                  refine Wn ?_
                  refine Wn ?_
                  refine Wn ?_
                  refine Wn ?_
                  refine Wn ?_
                  refine Wy (.d (.lit (.bool false))) [] (OpF rfl) ?_
                  refine Wy (.d (.lit (.bool false))) [] (Omv rfl) ?_
                  refine Wn ?_
                  refine Wn ?_
                  refine Wn ?_
                  refine Wn ?_
                  refine Wn ?_
                  refine Wn ?_
                  refine Wy (.d (.lit (.bool false))) [] (OpF rfl) ?_
                  refine Wy (.d (.lit (.bool false))) [] (Omv rfl) ?_
                  refine Wn ?_
                  refine Wy (.d (.lit (.bool false))) [] (OpF rfl) ?_
                  refine Wy (.d (.lit (.bool false))) [] (Omv rfl) ?_
                  refine Walk.nil ?_
                  refine Then.normal ?_
                  refine AWP.ret ?_
                  obtain rfl := Option.some.inj hm
                  exact ret_i []
              · replace hm := cF hq98_16 hm
                refine Wy (.d (.lit (.bool false))) [] (Ocs (lit_tf (b := decide (r89_14.2.2 = 0)) hq98_16) (Omv rfl)) ?_
                refine Wn ?_
                refine Wn ?_
                refine Wn ?_
                refine Wy (.d (.lit (.bool false))) [] (OpF rfl) ?_
                refine Wy (.d (.lit (.bool false))) [] (Omv rfl) ?_
                refine Wn ?_
                refine Wn ?_
                refine Wn ?_
                refine Wn ?_
                refine Wy (.d (.lit (.bool false))) [] (OpF rfl) ?_
                refine Wy (.d (.lit (.bool false))) [] (Omv rfl) ?_
                refine Wn ?_
                refine Wn ?_
                refine Wn ?_
                refine Wn ?_
                refine Wn ?_
                refine Wn ?_
                refine Wn ?_
                refine Wy (.d (.lit (.bool false))) [] (OpF rfl) ?_
                refine Wy (.d (.lit (.bool false))) [] (Omv rfl) ?_
                refine Wn ?_
                refine Wn ?_
                refine Wn ?_
                refine Wn ?_
                refine Wn ?_
                refine Wn ?_
                refine Wy (.d (.lit (.bool false))) [] (OpF rfl) ?_
                refine Wy (.d (.lit (.bool false))) [] (Omv rfl) ?_
                refine Wn ?_
                refine Wy (.d (.lit (.bool false))) [] (OpF rfl) ?_
                refine Wy (.d (.lit (.bool false))) [] (Omv rfl) ?_
                refine Walk.nil ?_
                refine Then.normal ?_
                refine AWP.ret ?_
                obtain rfl := Option.some.inj hm
                exact ret_i []
        refine AWP.seq ?_
        refine AWP.seq ?_
        refine AWP.text ?_
        refine Wy (.d (.lit (.int .i64 r36_4.2.2))) [] (Omv rfl) ?_
        refine Wy (.d (.lit (.bool (decide (r36_4.2.2 = 0))))) [] (Obn rfl (fun _ => hb_eql (k := .i64))) ?_
        refine Walk.nil ?_
        refine Then.normal ?_
        refine Amk 2199023255964 7 ⟨(tp 2 ((.d (.lit (.string (toS p2)))) :: ((.loc 0 0) :: ((.loc 1 0) :: (tp 2 ((.loc 2 0) :: ((.d (.lit (.int .i64 r36_4.2.1))) :: (tp 32 ((.d (.lit (.bool (decide (r36_4.2.2 = 0))))) :: (tp 87 [])))))))))), [(.box [(.d (byteD p0.Kind)), (.d (.lit (.int .i64 p0.N))), (.d (.lit (.int .u64 p0.Bits))), (.d (.lit (.string (toS p0.Text))))]), (.box [(.d (byteD p1.Kind)), (.d (.lit (.int .i64 p1.N))), (.d (.lit (.int .u64 p1.Bits))), (.d (.lit (.string (toS p1.Text))))]), (.box [(.d (byteD r36_4.1.Kind)), (.d (.lit (.int .i64 r36_4.1.N))), (.d (.lit (.int .u64 r36_4.1.Bits))), (.d (.lit (.string (toS r36_4.1.Text))))])], 0⟩ ?_
        rcases tf_ (decide (r36_4.2.2 = 0)) with hc41_19 | hc41_19
        · replace hm := cT hc41_19 hm
          refine AWP.if_ true (Eq.trans (by kernel_rfl) (lit_tf (b := decide (r36_4.2.2 = 0)) hc41_19)) ?_
          refine AWP.seq ?_
          refine AWP.text ?_
          refine Wy (.agg [(.d (byteD r36_4.1.Kind)), (.d (.lit (.int .i64 r36_4.1.N))), (.d (.lit (.int .u64 r36_4.1.Bits))), (.d (.lit (.string (toS r36_4.1.Text))))]) [] (Old rfl) ?_
          obtain ⟨r44_5, hr44_5, hm⟩ := bnd hm
          refine Wy (.tup [(.own 3), (.d (.lit (.int .i64 r44_5.2)))]) [(3, (.arr 5 1 (List.length r44_5.1) (flatD encU8 r44_5.1)))] (Ocf [] [3] [] 0 (ok_value_Put ([] : List UInt8) r36_4.1 r44_5 hr44_5) (fun a w => Try.call10 a w) rfl trivial) ?_
          refine Wy (.tup [(.own 3), (.d (.lit (.int .i64 r44_5.2)))]) [] (Omv rfl) ?_
          refine Wy (.own 3) [] (Oex rfl) ?_
          refine Wy (.d (.lit (.int .i64 r44_5.2))) [] (Oex rfl) ?_
          refine Wy (.own 3) [] (Omv rfl) ?_
          refine Wy (.d (.lit (.int .i64 r44_5.2))) [] (Omv rfl) ?_
          refine Walk.nil ?_
          refine Then.normal ?_
          refine Amk 3356 11 ⟨(tp 2 ((.d (.lit (.string (toS p2)))) :: ((.loc 0 0) :: ((.loc 1 0) :: (tp 3 ((.d (.lit (.int .i64 r36_4.2.1))) :: (tp 1 ((.own 3) :: ((.d (.lit (.int .i64 r44_5.2))) :: (tp 117 [])))))))))), [(.box [(.d (byteD p0.Kind)), (.d (.lit (.int .i64 p0.N))), (.d (.lit (.int .u64 p0.Bits))), (.d (.lit (.string (toS p0.Text))))]), (.box [(.d (byteD p1.Kind)), (.d (.lit (.int .i64 p1.N))), (.d (.lit (.int .u64 p1.Bits))), (.d (.lit (.string (toS p1.Text))))]), .gone, (.arr 5 1 (List.length r44_5.1) (flatD encU8 r44_5.1))], 0⟩ ?_
          refine AWP.cutJ (α := Unit) (fun x => match x with | () => (⟨(tp 2 ((.d (.lit (.string (toS p2)))) :: ((.loc 0 0) :: ((.loc 1 0) :: (tp 61 ((.d (.lit (.bool true))) :: (tp 62 []))))))), [(.box [(.d (byteD p0.Kind)), (.d (.lit (.int .i64 p0.N))), (.d (.lit (.int .u64 p0.Bits))), (.d (.lit (.string (toS p0.Text))))]), (.box [(.d (byteD p1.Kind)), (.d (.lit (.int .i64 p1.N))), (.d (.lit (.int .u64 p1.Bits))), (.d (.lit (.string (toS p1.Text))))])], 0⟩ : St)) (fun x => match x with | () => m_telltalelaw04_ValueBack_j7  = some r) ?_ (fun J7 => ?_)
          · rintro ⟨⟩ hm
            try dsimp only at hm ⊢
            unfold m_telltalelaw04_ValueBack_j7 at hm
            refine AWP.if_ true (by kernel_rfl) ?_
            refine AWP.seq ?_
            refine AWP.text ?_
            refine Wy (.d (.lit (.bool false))) [] (Omv rfl) ?_
            refine Walk.nil ?_
            refine Then.normal ?_
            refine AWP.ret ?_
            refine Then.ret ?_
            obtain rfl := Option.some.inj hm
            exact ret_i []
          refine AWP.seq ?_
          refine Adr ?_
          refine Wy (.d (.lit (.int .i64 r44_5.2))) [] (Omv rfl) ?_
          refine Wy (.d (.lit (.bool (decide (r44_5.2 ≠ 0))))) [] (Obn rfl (fun _ => hb_neq (k := .i64))) ?_
          rcases tf_ (decide (r44_5.2 ≠ 0)) with hq49_6 | hq49_6
          · replace hm := cT hq49_6 hm
            refine Wy (.d (.lit (.bool true))) [] (Ocs (lit_tf (b := decide (r44_5.2 ≠ 0)) hq49_6) (Omv rfl)) ?_
            refine Wn ?_
            refine Wn ?_
            refine Wy (.d (.lit (.bool true))) [] (OpT rfl) ?_
            refine Wy (.d (.lit (.bool true))) [] (Omv rfl) ?_
            refine Wn ?_
            refine Wn ?_
            refine Wn ?_
            refine Wn ?_
            refine Wy (.d (.lit (.bool true))) [] (OpT rfl) ?_
            refine Wy (.d (.lit (.bool true))) [] (Omv rfl) ?_
            refine Wn ?_
            refine Wn ?_
            refine Wn ?_
            refine Wn ?_
            refine Wn ?_
            refine Wn ?_
            refine Wy (.d (.lit (.bool true))) [] (OpT rfl) ?_
            refine Wdr ?_
            refine Then.normal ?_
            exact AWP.weak (Weak.toK 73786976294838206492 0 0 [0, 1]) (J7 () hm)
          · replace hm := cF hq49_6 hm
            refine Wy (.d (.lit (.bool false))) [] (Ocs (lit_tf (b := decide (r44_5.2 ≠ 0)) hq49_6) (Omv rfl)) ?_
            refine Wy (.d (.lit (.int .i64 r36_4.2.1))) [] (Omv rfl) ?_
            refine Wy (.d (.lit (.bool (decide (r36_4.2.1 < 0))))) [] (Obn rfl (fun _ => hb_lss (k := .i64))) ?_
            refine Wy (.d (.lit (.bool (decide (r36_4.2.1 < 0))))) [] (OpF rfl) ?_
            rcases tf_ (decide (r36_4.2.1 < 0)) with hq53_6 | hq53_6
            · replace hm := cT hq53_6 hm
              refine Wy (.d (.lit (.bool true))) [] (Ocs (lit_tf (b := decide (r36_4.2.1 < 0)) hq53_6) (Omv rfl)) ?_
              refine Wn ?_
              refine Wn ?_
              refine Wn ?_
              refine Wn ?_
              refine Wy (.d (.lit (.bool true))) [] (OpT rfl) ?_
              refine Wy (.d (.lit (.bool true))) [] (Omv rfl) ?_
              refine Wn ?_
              refine Wn ?_
              refine Wn ?_
              refine Wn ?_
              refine Wn ?_
              refine Wn ?_
              refine Wy (.d (.lit (.bool true))) [] (OpT rfl) ?_
              refine Wdr ?_
              refine Then.normal ?_
              exact AWP.weak (Weak.toK 73786976294838206492 0 0 [0, 1]) (J7 () hm)
            · replace hm := cF hq53_6 hm
              refine Wy (.d (.lit (.bool false))) [] (Ocs (lit_tf (b := decide (r36_4.2.1 < 0)) hq53_6) (Omv rfl)) ?_
              refine Wy (.d (.lit (.int .i64 r36_4.2.1))) [] (Omv rfl) ?_
              refine Wy (.d (.lit (.string (toS p2)))) [] (Omv rfl) ?_
              refine Wy (.d (.lit (.int .i64 ((List.length p2 : Nat) : Int)))) [] (Oln rfl) ?_
              refine Wy (.d (.lit (.bool (decide (((List.length p2 : Nat) : Int) < r36_4.2.1))))) [] (Obn rfl (fun _ => hb_gtr (k := .i64))) ?_
              refine Wy (.d (.lit (.bool (decide (((List.length p2 : Nat) : Int) < r36_4.2.1))))) [] (OpF rfl) ?_
              rcases tf_ (decide (((List.length p2 : Nat) : Int) < r36_4.2.1)) with hq59_6 | hq59_6
              · replace hm := cT hq59_6 hm
                refine Wy (.d (.lit (.bool true))) [] (Ocs (lit_tf (b := decide (((List.length p2 : Nat) : Int) < r36_4.2.1)) hq59_6) (Omv rfl)) ?_
                refine Wn ?_
                refine Wn ?_
                refine Wn ?_
                refine Wn ?_
                refine Wn ?_
                refine Wn ?_
                refine Wy (.d (.lit (.bool true))) [] (OpT rfl) ?_
                refine Wdr ?_
                refine Then.normal ?_
                exact AWP.weak (Weak.toK 73786976294838206492 0 0 [0, 1]) (J7 () hm)
              · replace hm := cF hq59_6 hm
                refine Wy (.d (.lit (.bool false))) [] (Ocs (lit_tf (b := decide (((List.length p2 : Nat) : Int) < r36_4.2.1)) hq59_6) (Omv rfl)) ?_
                refine Wy (.own 3) [] (Omv rfl) ?_
                refine Wy (.d (.lit (.string (toS r44_5.1)))) [] (Ocs (by kernel_rfl) (op_str rfl (e := 5) (by kernel_rfl) (by kernel_rfl) (by kernel_rfl) (y := (.own 3)) (by kernel_rfl) (ds := flatD encU8 r44_5.1) (off := 0) (n := List.length r44_5.1) (by kernel_rfl) (l := r44_5.1) flatU8_take rfl)) ?_
                refine Wy (.d (.lit (.string (toS p2)))) [] (Omv rfl) ?_
                refine Wy (.d (.lit (.int .i64 r36_4.2.1))) [] (Omv rfl) ?_
                obtain ⟨s64_6, hs64_6, hm⟩ := bnd hm; obtain ⟨hs64_6a, hs64_6b, hs64_6c, hs64_6d, hs64_6e⟩ := cut_some hs64_6
                refine Wy (.d (.lit (.string (toS s64_6)))) [] (Ocs (lit_str (toS_cut hs64_6e)) (op_slice_str rfl (by kernel_rfl) (s := toS p2) (by kernel_rfl) (l := (Int.toNat 0)) (h := (Int.toNat r36_4.2.1)) (by exact rfl) (⟨.i64, r36_4.2.1, by kernel_rfl, hs64_6b⟩) hs64_6c hs64_6d)) ?_
                refine Wy (.d (.lit (.bool (decide (r44_5.1 ≠ s64_6))))) [] (Ocs (lit_tf (by simp only [toS_inj, ne_eq])) (op_bin rfl (a1 := .string (toS r44_5.1)) (a2 := .string (toS s64_6)) (by kernel_rfl) (by kernel_rfl) (fun _ => hb_sneq))) ?_
                refine Wy (.d (.lit (.bool (decide (r44_5.1 ≠ s64_6))))) [] (OpF rfl) ?_
                refine Wdr ?_
                refine Then.normal ?_
                refine Amk 73786976294838206492 3 ⟨(tp 2 ((.d (.lit (.string (toS p2)))) :: ((.loc 0 0) :: ((.loc 1 0) :: (tp 61 ((.d (.lit (.bool (decide (r44_5.1 ≠ s64_6))))) :: (tp 62 []))))))), [(.box [(.d (byteD p0.Kind)), (.d (.lit (.int .i64 p0.N))), (.d (.lit (.int .u64 p0.Bits))), (.d (.lit (.string (toS p0.Text))))]), (.box [(.d (byteD p1.Kind)), (.d (.lit (.int .i64 p1.N))), (.d (.lit (.int .u64 p1.Bits))), (.d (.lit (.string (toS p1.Text))))]), .gone, .gone], 0⟩ ?_
                rcases tf_ (decide (r44_5.1 ≠ s64_6)) with hc66_20 | hc66_20
                · replace hm := cT hc66_20 hm
                  refine AWP.if_ true (Eq.trans (by kernel_rfl) (lit_tf (b := decide (r44_5.1 ≠ s64_6)) hc66_20)) ?_
                  refine AWP.seq ?_
                  refine AWP.text ?_
                  refine Wy (.d (.lit (.bool false))) [] (Omv rfl) ?_
                  refine Walk.nil ?_
                  refine Then.normal ?_
                  refine AWP.ret ?_
                  refine Then.ret ?_
                  obtain rfl := Option.some.inj hm
                  exact ret_i []
                · replace hm := cF hc66_20 hm
                  refine AWP.if_ false (Eq.trans (by kernel_rfl) (lit_tf (b := decide (r44_5.1 ≠ s64_6)) hc66_20)) ?_
                  refine AWP.skip ?_
                  refine Then.normal ?_
                  exact AWP.weak (Weak.toK 28 0 0 [0, 1]) (J8 () hm)
        · replace hm := cF hc41_19 hm
          refine AWP.if_ false (Eq.trans (by kernel_rfl) (lit_tf (b := decide (r36_4.2.2 = 0)) hc41_19)) ?_
          refine AWP.skip ?_
          refine Then.normal ?_
          exact AWP.weak (Weak.toK 28 0 0 [0, 1]) (J8 () hm)
end Go.Proofs.Ytgocnknbiipcfaa.K
