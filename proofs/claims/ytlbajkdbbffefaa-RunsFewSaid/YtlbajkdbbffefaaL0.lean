/- each function computes what its model says (0) -/
import Derived.Test.YtlbajkdbbffefaaLM
namespace Go.Proofs.Ytlbajkdbbffefaa.K
open Go.RowKit Go.Lib
set_option linter.unusedVariables false
set_option linter.unusedSimpArgs false

set_option maxRecDepth 20000 in
set_option maxHeartbeats 4000000 in
theorem ok_telltalelaw04_Small (p0 : GValue) (r : Int) (h : m_telltalelaw04_Small p0 = some r) : GCall Try.prog 60 [(.agg [(.d (byteD p0.Kind)), (.d (.lit (.int .i64 p0.N))), (.d (.lit (.int .u64 p0.Bits))), (.d (.lit (.string (toS p0.Text))))])] [] (.d (.lit (.int .i64 r))) [] := by
  refine GCall.of_body (n := 8) (rs := [(.tmp 2)]) Try.func60 rfl rfl rfl ?_
  refine Ato ⟨((.agg [(.d (byteD p0.Kind)), (.d (.lit (.int .i64 p0.N))), (.d (.lit (.int .u64 p0.Bits))), (.d (.lit (.string (toS p0.Text))))]) :: (tu 7 [])), [], 0⟩ ?_
  have hm := h
  unfold m_telltalelaw04_Small at hm
  refine AWP.seq ?_
  refine AWP.text ?_
  refine Wy (.loc 0 0) [(0, (.box [(.d (byteD p0.Kind)), (.d (.lit (.int .i64 p0.N))), (.d (.lit (.int .u64 p0.Bits))), (.d (.lit (.string (toS p0.Text))))]))] (Obx rfl) ?_
  refine Wy (.d (.lit (.int .i64 0))) [] (Omv rfl) ?_
  refine Walk.nil ?_
  refine Then.normal ?_
  refine Amk 2 1 ⟨(tp 1 ((.loc 0 0) :: (tp 6 []))), [(.box [(.d (byteD p0.Kind)), (.d (.lit (.int .i64 p0.N))), (.d (.lit (.int .u64 p0.Bits))), (.d (.lit (.string (toS p0.Text))))])], 0⟩ ?_
  refine AWP.seq ?_
  refine AWP.text ?_
  refine Wy (.loc 0 3) [] (Ofa rfl) ?_
  refine Wy (.d (.lit (.string (toS p0.Text)))) [] (Old rfl) ?_
  refine Wy (.d (.lit (.int .i64 ((List.length p0.Text : Nat) : Int)))) [] (Oln rfl) ?_
  refine Wy (.d (.lit (.int .i64 (IntKind.i64.wrap (((List.length p0.Text : Nat) : Int) - 100))))) [] (Obn rfl (fun _ => hb_sub (k := .i64))) ?_
  refine Wy (.d (.lit (.int .i64 (max 0 (IntKind.i64.wrap (((List.length p0.Text : Nat) : Int) - 100)))))) [] (op_bi2 rfl (a1 := .int .i64 0) (a2 := .int .i64 (IntKind.i64.wrap (((List.length p0.Text : Nat) : Int) - 100))) (by kernel_rfl) (by kernel_rfl) hb_max) ?_
  refine Wy (.d (.lit (.int .i64 (max 0 (IntKind.i64.wrap (((List.length p0.Text : Nat) : Int) - 100)))))) [] (Omv rfl) ?_
  refine Walk.nil ?_
  refine Then.normal ?_
  refine AWP.ret ?_
  obtain rfl := Option.some.inj hm
  exact ret_i []

set_option maxRecDepth 20000 in
set_option maxHeartbeats 4000000 in
theorem ok_telltalelaw07_Over (p0 : (List GEvent)) (p1 : Int) (r : Int) (h : m_telltalelaw07_Over p0 p1 = some r) : GCall Try.prog 47 [(.d (.sl (List.length p0) (flatD enc_GEvent p0))), (.d (.lit (.int .i64 p1)))] [] (.d (.lit (.int .i64 r))) [] := by
  refine GCall.of_body (n := 53) (rs := [(.tmp 4)]) Try.func47 rfl rfl rfl ?_
  refine Ato ⟨((.d (.sl (List.length p0) (flatD enc_GEvent p0))) :: ((.d (.lit (.int .i64 p1))) :: (tu 51 []))), [], 0⟩ ?_
  have hm := h
  unfold m_telltalelaw07_Over at hm
  refine AWP.seq ?_
  refine AWP.text ?_
  refine Wy (.d (.lit (.int .i64 0))) [] (Omv rfl) ?_
  refine Walk.nil ?_
  refine Then.normal ?_
  refine Amk 3 0 ⟨((.d (.sl (List.length p0) (flatD enc_GEvent p0))) :: ((.d (.lit (.int .i64 p1))) :: (tp 51 []))), [], 0⟩ ?_
  refine AWP.seq ?_
  refine AWP.seq ?_
  refine AWP.text ?_
  refine Wy (.d (.sl (List.length p0) (flatD enc_GEvent p0))) [] (Omv rfl) ?_
  refine Wy (.d (.lit (.int .i64 ((List.length p0 : Nat) : Int)))) [] (Oln rfl) ?_
  refine Wy (.d (.lit (.int .i64 p1))) [] (Omv rfl) ?_
  refine Wy (.d (.lit (.bool (decide (p1 < ((List.length p0 : Nat) : Int)))))) [] (Obn rfl (fun _ => hb_gtr (k := .i64))) ?_
  refine Walk.nil ?_
  refine Then.normal ?_
  refine Amk 1025 0 ⟨((.d (.sl (List.length p0) (flatD enc_GEvent p0))) :: (tp 9 ((.d (.lit (.bool (decide (p1 < ((List.length p0 : Nat) : Int)))))) :: (tp 42 [])))), [], 0⟩ ?_
  rcases tf_ (decide (p1 < ((List.length p0 : Nat) : Int))) with hc10_7 | hc10_7
  · replace hm := cT hc10_7 hm
    refine AWP.if_ true (Eq.trans (by kernel_rfl) (lit_tf (b := decide (p1 < ((List.length p0 : Nat) : Int))) hc10_7)) ?_
    refine AWP.seq ?_
    refine AWP.text ?_
    refine Wy (.d (.lit (.int .i64 1))) [] (Omv rfl) ?_
    refine Walk.nil ?_
    refine Then.normal ?_
    refine AWP.ret ?_
    refine Then.ret ?_
    obtain rfl := Option.some.inj hm
    exact ret_i []
  · replace hm := cF hc10_7 hm
    refine AWP.if_ false (Eq.trans (by kernel_rfl) (lit_tf (b := decide (p1 < ((List.length p0 : Nat) : Int))) hc10_7)) ?_
    refine AWP.skip ?_
    refine Then.normal ?_
    refine Amk 1 0 ⟨((.d (.sl (List.length p0) (flatD enc_GEvent p0))) :: (tp 52 [])), [], 0⟩ ?_
    refine AWP.seq ?_
    refine AWP.seq ?_
    refine AWP.text ?_
    refine Wy (.d (.lit (.int .i64 0))) [] (Omv rfl) ?_
    refine Walk.nil ?_
    refine Then.normal ?_
    refine Amk 33 0 ⟨((.d (.sl (List.length p0) (flatD enc_GEvent p0))) :: (tp 4 ((.d (.lit (.int .i64 0))) :: (tp 47 [])))), [], 0⟩ ?_
    refine AWP.block ?_
    refine AWP.loopI (α := Nat × Int)
      (fun x => match x with | (fu_1, y5_1) => (⟨((.d (.sl (List.length p0) (flatD enc_GEvent p0))) :: (tp 4 ((.d (.lit (.int .i64 y5_1))) :: (tp 47 [])))), [], 0⟩ : St))
      (fun x => match x with | (fu_1, y5_1) => m_telltalelaw07_Over_l1 p0 fu_1 y5_1 = some r)
      (fun x => match x with | (fu_1, y5_1) => fu_1) (1152921504606846976, 0)
      (Weak.toK 33 0 0 []) hm ?_
    rintro ⟨fu_1, y5_1⟩ n_1 hm ih_1
    try dsimp only at hm ih_1 ⊢
    cases fu_1 with
    | zero => exact absurd hm (by unfold m_telltalelaw07_Over_l1; simp)
    | succ fu_1 =>
      unfold m_telltalelaw07_Over_l1 at hm
      refine AWP.seq ?_
      refine AWP.seq ?_
      refine AWP.text ?_
      refine Wy (.d (.lit (.int .i64 y5_1))) [] (Omv rfl) ?_
      refine Wy (.d (.sl (List.length p0) (flatD enc_GEvent p0))) [] (Omv rfl) ?_
      refine Wy (.d (.lit (.int .i64 ((List.length p0 : Nat) : Int)))) [] (Oln rfl) ?_
      refine Wy (.d (.lit (.bool (decide (y5_1 < ((List.length p0 : Nat) : Int)))))) [] (Obn rfl (fun _ => hb_lss (k := .i64))) ?_
      refine Walk.nil ?_
      refine Then.normal ?_
      refine Amk 16417 0 ⟨((.d (.sl (List.length p0) (flatD enc_GEvent p0))) :: (tp 4 ((.d (.lit (.int .i64 y5_1))) :: (tp 8 ((.d (.lit (.bool (decide (y5_1 < ((List.length p0 : Nat) : Int)))))) :: (tp 38 [])))))), [], 0⟩ ?_
      rcases tf_ (decide (y5_1 < ((List.length p0 : Nat) : Int))) with hc14_8 | hc14_8
      · replace hm := cT hc14_8 hm
        refine AWP.if_ true (Eq.trans (by kernel_rfl) (lit_tf (b := decide (y5_1 < ((List.length p0 : Nat) : Int))) hc14_8)) ?_
        refine AWP.skip ?_
        refine Then.normal ?_
        refine Amk 33 0 ⟨((.d (.sl (List.length p0) (flatD enc_GEvent p0))) :: (tp 4 ((.d (.lit (.int .i64 y5_1))) :: (tp 47 [])))), [], 0⟩ ?_
        refine AWP.seq ?_
        refine AWP.block ?_
        refine AWP.seq ?_
        refine AWP.seq ?_
        refine AWP.text ?_
        refine Wy (.d (.sl (List.length p0) (flatD enc_GEvent p0))) [] (Omv rfl) ?_
        refine Wy (.d (.lit (.int .i64 y5_1))) [] (Omv rfl) ?_
        obtain ⟨x19_3, hx19_3, hm⟩ := bnd hm
        obtain ⟨hx19_3i, hx19_3g⟩ := geti_some hx19_3
        refine Wy (.d (.ref (List.drop ((Int.toNat y5_1) * 5) (flatD enc_GEvent p0)))) [] (Oia rfl enc_GEvent_len hx19_3i hx19_3g) ?_
        refine Wy (.d (.ref (List.drop 3 (List.drop ((Int.toNat y5_1) * 5) (flatD enc_GEvent p0))))) [] (Ofa rfl) ?_
        refine Wy (.d (.lit (.string (toS x19_3.Type_)))) [] (Lfk1 3 rfl enc_GEvent_len hx19_3g) ?_
        refine Wy (.d (.lit (.int .i64 ((List.length x19_3.Type_ : Nat) : Int)))) [] (Oln rfl) ?_
        refine Wy (.d (.lit (.bool (decide ((40 : Int) < ((List.length x19_3.Type_ : Nat) : Int)))))) [] (Obn rfl (fun _ => hb_gtr (k := .i64))) ?_
        rcases tf_ (decide ((40 : Int) < ((List.length x19_3.Type_ : Nat) : Int))) with hq24_3 | hq24_3
        · replace hm := cT hq24_3 hm
          refine Wy (.d (.lit (.bool true))) [] (Ocs (lit_tf (b := decide ((40 : Int) < ((List.length x19_3.Type_ : Nat) : Int))) hq24_3) (Omv rfl)) ?_
          refine Wn ?_
          refine Wn ?_
          refine Wn ?_
          refine Wn ?_
          refine Wn ?_
          refine Wn ?_
          refine Wn ?_
          refine Wy (.d (.lit (.bool true))) [] (OpT rfl) ?_
          refine Walk.nil ?_
          refine Then.normal ?_
          refine Amk 4294967329 0 ⟨((.d (.sl (List.length p0) (flatD enc_GEvent p0))) :: (tp 4 ((.d (.lit (.int .i64 y5_1))) :: (tp 26 ((.d (.lit (.bool true))) :: (tp 20 [])))))), [], 0⟩ ?_
          refine AWP.if_ true (by kernel_rfl) ?_
          refine AWP.seq ?_
          refine AWP.text ?_
          refine Wy (.d (.lit (.int .i64 1))) [] (Omv rfl) ?_
          refine Walk.nil ?_
          refine Then.normal ?_
          refine AWP.ret ?_
          refine Then.ret ?_
          refine InBlock.ret ?_
          refine Then.ret ?_
          refine RoundK.ret ?_
          refine InBlock.ret ?_
          refine Then.ret ?_
          obtain rfl := Option.some.inj hm
          exact ret_i []
        · replace hm := cF hq24_3 hm
          refine Wy (.d (.lit (.bool false))) [] (Ocs (lit_tf (b := decide ((40 : Int) < ((List.length x19_3.Type_ : Nat) : Int))) hq24_3) (Omv rfl)) ?_
          refine Wy (.d (.sl (List.length p0) (flatD enc_GEvent p0))) [] (Omv rfl) ?_
          refine Wy (.d (.lit (.int .i64 y5_1))) [] (Omv rfl) ?_
          obtain ⟨x27_3, hx27_3, hm⟩ := bnd hm
          obtain ⟨hx27_3i, hx27_3g⟩ := geti_some hx27_3
          refine Wy (.d (.ref (List.drop ((Int.toNat y5_1) * 5) (flatD enc_GEvent p0)))) [] (Oia rfl enc_GEvent_len hx27_3i hx27_3g) ?_
          refine Wy (.d (.ref (List.drop 4 (List.drop ((Int.toNat y5_1) * 5) (flatD enc_GEvent p0))))) [] (Ofa rfl) ?_
          refine Wy (.d (.sl (List.length x27_3.Vals) (flatD enc_GValue x27_3.Vals))) [] (Lfk1 4 rfl enc_GEvent_len hx27_3g) ?_
          refine Wy (.d (.lit (.int .i64 ((List.length x27_3.Vals : Nat) : Int)))) [] (Oln rfl) ?_
          refine Wy (.d (.lit (.bool (decide ((12 : Int) < ((List.length x27_3.Vals : Nat) : Int)))))) [] (Obn rfl (fun _ => hb_gtr (k := .i64))) ?_
          refine Wy (.d (.lit (.bool (decide ((12 : Int) < ((List.length x27_3.Vals : Nat) : Int)))))) [] (OpF rfl) ?_
          refine Walk.nil ?_
          refine Then.normal ?_
          refine Amk 4294967329 0 ⟨((.d (.sl (List.length p0) (flatD enc_GEvent p0))) :: (tp 4 ((.d (.lit (.int .i64 y5_1))) :: (tp 26 ((.d (.lit (.bool (decide ((12 : Int) < ((List.length x27_3.Vals : Nat) : Int)))))) :: (tp 20 [])))))), [], 0⟩ ?_
          rcases tf_ (decide ((12 : Int) < ((List.length x27_3.Vals : Nat) : Int))) with hc32_9 | hc32_9
          · replace hm := cT hc32_9 hm
            refine AWP.if_ true (Eq.trans (by kernel_rfl) (lit_tf (b := decide ((12 : Int) < ((List.length x27_3.Vals : Nat) : Int))) hc32_9)) ?_
            refine AWP.seq ?_
            refine AWP.text ?_
            refine Wy (.d (.lit (.int .i64 1))) [] (Omv rfl) ?_
            refine Walk.nil ?_
            refine Then.normal ?_
            refine AWP.ret ?_
            refine Then.ret ?_
            refine InBlock.ret ?_
            refine Then.ret ?_
            refine RoundK.ret ?_
            refine InBlock.ret ?_
            refine Then.ret ?_
            obtain rfl := Option.some.inj hm
            exact ret_i []
          · replace hm := cF hc32_9 hm
            refine AWP.if_ false (Eq.trans (by kernel_rfl) (lit_tf (b := decide ((12 : Int) < ((List.length x27_3.Vals : Nat) : Int))) hc32_9)) ?_
            refine AWP.skip ?_
            refine Then.normal ?_
            refine Amk 33 0 ⟨((.d (.sl (List.length p0) (flatD enc_GEvent p0))) :: (tp 4 ((.d (.lit (.int .i64 y5_1))) :: (tp 47 [])))), [], 0⟩ ?_
            refine AWP.seq ?_
            refine AWP.text ?_
            refine Wy (.d (.lit (.int .i64 0))) [] (Omv rfl) ?_
            refine Walk.nil ?_
            refine Then.normal ?_
            refine Amk 97 0 ⟨((.d (.sl (List.length p0) (flatD enc_GEvent p0))) :: (tp 4 ((.d (.lit (.int .i64 y5_1))) :: ((.d (.lit (.int .i64 0))) :: (tp 46 []))))), [], 0⟩ ?_
            refine AWP.block ?_
            refine AWP.loopI (α := Nat × Int)
              (fun x => match x with | (fu_4, y6_4) => (⟨((.d (.sl (List.length p0) (flatD enc_GEvent p0))) :: (tp 4 ((.d (.lit (.int .i64 y5_1))) :: ((.d (.lit (.int .i64 y6_4))) :: (tp 46 []))))), [], 0⟩ : St))
              (fun x => match x with | (fu_4, y6_4) => m_telltalelaw07_Over_l4 p0 y5_1 (fun y5_1 => m_telltalelaw07_Over_l1 p0 fu_1 y5_1) fu_4 y6_4 = some r)
              (fun x => match x with | (fu_4, y6_4) => fu_4) (1152921504606846976, 0)
              (Weak.toK 97 0 0 []) hm ?_
            rintro ⟨fu_4, y6_4⟩ n_4 hm ih_4
            try dsimp only at hm ih_4 ⊢
            cases fu_4 with
            | zero => exact absurd hm (by unfold m_telltalelaw07_Over_l4; simp)
            | succ fu_4 =>
              unfold m_telltalelaw07_Over_l4 at hm
              refine AWP.seq ?_
              refine AWP.seq ?_
              refine AWP.text ?_
              refine Wy (.d (.lit (.int .i64 y6_4))) [] (Omv rfl) ?_
              refine Wy (.d (.sl (List.length p0) (flatD enc_GEvent p0))) [] (Omv rfl) ?_
              refine Wy (.d (.lit (.int .i64 y5_1))) [] (Omv rfl) ?_
              obtain ⟨x36_5, hx36_5, hm⟩ := bnd hm
              obtain ⟨hx36_5i, hx36_5g⟩ := geti_some hx36_5
              refine Wy (.d (.ref (List.drop ((Int.toNat y5_1) * 5) (flatD enc_GEvent p0)))) [] (Oia rfl enc_GEvent_len hx36_5i hx36_5g) ?_
              refine Wy (.d (.ref (List.drop 4 (List.drop ((Int.toNat y5_1) * 5) (flatD enc_GEvent p0))))) [] (Ofa rfl) ?_
              refine Wy (.d (.sl (List.length x36_5.Vals) (flatD enc_GValue x36_5.Vals))) [] (Lfk1 4 rfl enc_GEvent_len hx36_5g) ?_
              refine Wy (.d (.lit (.int .i64 ((List.length x36_5.Vals : Nat) : Int)))) [] (Oln rfl) ?_
              refine Wy (.d (.lit (.bool (decide (y6_4 < ((List.length x36_5.Vals : Nat) : Int)))))) [] (Obn rfl (fun _ => hb_lss (k := .i64))) ?_
              refine Walk.nil ?_
              refine Then.normal ?_
              refine Amk 1099511627873 0 ⟨((.d (.sl (List.length p0) (flatD enc_GEvent p0))) :: (tp 4 ((.d (.lit (.int .i64 y5_1))) :: ((.d (.lit (.int .i64 y6_4))) :: (tp 33 ((.d (.lit (.bool (decide (y6_4 < ((List.length x36_5.Vals : Nat) : Int)))))) :: (tp 12 []))))))), [], 0⟩ ?_
              rcases tf_ (decide (y6_4 < ((List.length x36_5.Vals : Nat) : Int))) with hc40_10 | hc40_10
              · replace hm := cT hc40_10 hm
                refine AWP.if_ true (Eq.trans (by kernel_rfl) (lit_tf (b := decide (y6_4 < ((List.length x36_5.Vals : Nat) : Int))) hc40_10)) ?_
                refine AWP.skip ?_
                refine Then.normal ?_
                refine Amk 97 0 ⟨((.d (.sl (List.length p0) (flatD enc_GEvent p0))) :: (tp 4 ((.d (.lit (.int .i64 y5_1))) :: ((.d (.lit (.int .i64 y6_4))) :: (tp 46 []))))), [], 0⟩ ?_
                refine AWP.seq ?_
                refine AWP.block ?_
                refine AWP.seq ?_
                refine AWP.text ?_
                refine Wy (.d (.sl (List.length p0) (flatD enc_GEvent p0))) [] (Omv rfl) ?_
                refine Wy (.d (.lit (.int .i64 y5_1))) [] (Omv rfl) ?_
                obtain ⟨x45_6, hx45_6, hm⟩ := bnd hm
                obtain ⟨hx45_6i, hx45_6g⟩ := geti_some hx45_6
                refine Wy (.d (.ref (List.drop ((Int.toNat y5_1) * 5) (flatD enc_GEvent p0)))) [] (Oia rfl enc_GEvent_len hx45_6i hx45_6g) ?_
                refine Wy (.d (.ref (List.drop 4 (List.drop ((Int.toNat y5_1) * 5) (flatD enc_GEvent p0))))) [] (Ofa rfl) ?_
                refine Wy (.d (.sl (List.length x45_6.Vals) (flatD enc_GValue x45_6.Vals))) [] (Lfk1 4 rfl enc_GEvent_len hx45_6g) ?_
                refine Wy (.d (.lit (.int .i64 y6_4))) [] (Omv rfl) ?_
                obtain ⟨x49_6, hx49_6, hm⟩ := bnd hm
                obtain ⟨hx49_6i, hx49_6g⟩ := geti_some hx49_6
                refine Wy (.d (.ref (List.drop ((Int.toNat y6_4) * 4) (flatD enc_GValue x45_6.Vals)))) [] (Oia rfl enc_GValue_len hx49_6i hx49_6g) ?_
                refine Wy (.agg [(.d (byteD x49_6.Kind)), (.d (.lit (.int .i64 x49_6.N))), (.d (.lit (.int .u64 x49_6.Bits))), (.d (.lit (.string (toS x49_6.Text))))]) [] (Lf rfl enc_GValue_len hx49_6g) ?_
                obtain ⟨r51_6, hr51_6, hm⟩ := bnd hm
                refine Wy (.d (.lit (.int .i64 r51_6))) [] (Ocf [] [] [] 0 (ok_telltalelaw04_Small x49_6 r51_6 hr51_6) (fun a w => Try.call60 a w) rfl trivial) ?_
                refine Wy (.d (.lit (.bool (decide ((0 : Int) < r51_6))))) [] (Obn rfl (fun _ => hb_gtr (k := .i64))) ?_
                refine Walk.nil ?_
                refine Then.normal ?_
                refine Amk 4503599627370593 0 ⟨((.d (.sl (List.length p0) (flatD enc_GEvent p0))) :: (tp 4 ((.d (.lit (.int .i64 y5_1))) :: ((.d (.lit (.int .i64 y6_4))) :: (tp 45 ((.d (.lit (.bool (decide ((0 : Int) < r51_6))))) :: [])))))), [], 0⟩ ?_
                rcases tf_ (decide ((0 : Int) < r51_6)) with hc52_11 | hc52_11
                · replace hm := cT hc52_11 hm
                  refine AWP.if_ true (Eq.trans (by kernel_rfl) (lit_tf (b := decide ((0 : Int) < r51_6)) hc52_11)) ?_
                  refine AWP.seq ?_
                  refine AWP.text ?_
                  refine Wy (.d (.lit (.int .i64 1))) [] (Omv rfl) ?_
                  refine Walk.nil ?_
                  refine Then.normal ?_
                  refine AWP.ret ?_
                  refine InBlock.ret ?_
                  refine Then.ret ?_
                  refine RoundK.ret ?_
                  refine InBlock.ret ?_
                  refine InBlock.ret ?_
                  refine Then.ret ?_
                  refine RoundK.ret ?_
                  refine InBlock.ret ?_
                  refine Then.ret ?_
                  obtain rfl := Option.some.inj hm
                  exact ret_i []
                · replace hm := cF hc52_11 hm
                  refine AWP.if_ false (Eq.trans (by kernel_rfl) (lit_tf (b := decide ((0 : Int) < r51_6)) hc52_11)) ?_
                  refine AWP.skip ?_
                  refine InBlock.normal ?_
                  refine Then.normal ?_
                  refine Amk 97 0 ⟨((.d (.sl (List.length p0) (flatD enc_GEvent p0))) :: (tp 4 ((.d (.lit (.int .i64 y5_1))) :: ((.d (.lit (.int .i64 y6_4))) :: (tp 46 []))))), [], 0⟩ ?_
                  refine AWP.text ?_
                  refine Wy (.d (.lit (.int .i64 y6_4))) [] (Omv rfl) ?_
                  refine Wy (.d (.lit (.int .i64 (IntKind.i64.wrap (y6_4 + 1))))) [] (Obn rfl (fun _ => hb_add (k := .i64))) ?_
                  refine Wy (.d (.lit (.int .i64 (IntKind.i64.wrap (y6_4 + 1))))) [] (Omv rfl) ?_
                  refine Walk.nil ?_
                  refine RoundK.normal ?_
                  exact Rounds.weak (Weak.toK 97 0 0 []) (ih_4 (fu_4, (IntKind.i64.wrap (y6_4 + 1))) hm (Nat.lt_succ_self _))
              · replace hm := cF hc40_10 hm
                refine AWP.if_ false (Eq.trans (by kernel_rfl) (lit_tf (b := decide (y6_4 < ((List.length x36_5.Vals : Nat) : Int))) hc40_10)) ?_
                refine AWP.exit ?_
                refine Then.exit ?_
                refine RoundK.exit ?_
                refine InBlock.same ?_
                refine InBlock.normal ?_
                refine Then.normal ?_
                refine Amk 33 0 ⟨((.d (.sl (List.length p0) (flatD enc_GEvent p0))) :: (tp 4 ((.d (.lit (.int .i64 y5_1))) :: (tp 47 [])))), [], 0⟩ ?_
                refine AWP.text ?_
                refine Wy (.d (.lit (.int .i64 y5_1))) [] (Omv rfl) ?_
                refine Wy (.d (.lit (.int .i64 (IntKind.i64.wrap (y5_1 + 1))))) [] (Obn rfl (fun _ => hb_add (k := .i64))) ?_
                refine Wy (.d (.lit (.int .i64 (IntKind.i64.wrap (y5_1 + 1))))) [] (Omv rfl) ?_
                refine Walk.nil ?_
                refine RoundK.normal ?_
                exact Rounds.weak (Weak.toK 33 0 0 []) (ih_1 (fu_1, (IntKind.i64.wrap (y5_1 + 1))) hm (Nat.lt_succ_self _))
      · replace hm := cF hc14_8 hm
        refine AWP.if_ false (Eq.trans (by kernel_rfl) (lit_tf (b := decide (y5_1 < ((List.length p0 : Nat) : Int))) hc14_8)) ?_
        refine AWP.exit ?_
        refine Then.exit ?_
        refine RoundK.exit ?_
        refine InBlock.same ?_
        refine Then.normal ?_
        refine Amk 0 0 ⟨(tp 53 []), [], 0⟩ ?_
        refine AWP.seq ?_
        refine AWP.text ?_
        refine Wy (.d (.lit (.int .i64 0))) [] (Omv rfl) ?_
        refine Walk.nil ?_
        refine Then.normal ?_
        refine AWP.ret ?_
        obtain rfl := Option.some.inj hm
        exact ret_i []

set_option maxRecDepth 20000 in
set_option maxHeartbeats 4000000 in
theorem ok_telltalelaw19_Long (p0 : (List GPair)) (r : Int) (h : m_telltalelaw19_Long p0 = some r) : GCall Try.prog 26 [(.d (.sl (List.length p0) (flatD enc_GPair p0)))] [] (.d (.lit (.int .i64 r))) [] := by
  refine GCall.of_body (n := 30) (rs := [(.tmp 2)]) Try.func26 rfl rfl rfl ?_
  refine Ato ⟨((.d (.sl (List.length p0) (flatD enc_GPair p0))) :: (tu 29 [])), [], 0⟩ ?_
  have hm := h
  unfold m_telltalelaw19_Long at hm
  refine AWP.seq ?_
  refine AWP.text ?_
  refine Wy (.d (.lit (.int .i64 0))) [] (Omv rfl) ?_
  refine Walk.nil ?_
  refine Then.normal ?_
  refine Amk 1 0 ⟨((.d (.sl (List.length p0) (flatD enc_GPair p0))) :: (tp 29 [])), [], 0⟩ ?_
  refine AWP.seq ?_
  refine AWP.seq ?_
  refine AWP.text ?_
  refine Wy (.d (.sl (List.length p0) (flatD enc_GPair p0))) [] (Omv rfl) ?_
  refine Wy (.d (.lit (.int .i64 ((List.length p0 : Nat) : Int)))) [] (Oln rfl) ?_
  refine Wy (.d (.lit (.bool (decide ((20 : Int) < ((List.length p0 : Nat) : Int)))))) [] (Obn rfl (fun _ => hb_gtr (k := .i64))) ?_
  refine Walk.nil ?_
  refine Then.normal ?_
  refine Amk 65 0 ⟨((.d (.sl (List.length p0) (flatD enc_GPair p0))) :: (tp 5 ((.d (.lit (.bool (decide ((20 : Int) < ((List.length p0 : Nat) : Int)))))) :: (tp 23 [])))), [], 0⟩ ?_
  rcases tf_ (decide ((20 : Int) < ((List.length p0 : Nat) : Int))) with hc6_4 | hc6_4
  · replace hm := cT hc6_4 hm
    refine AWP.if_ true (Eq.trans (by kernel_rfl) (lit_tf (b := decide ((20 : Int) < ((List.length p0 : Nat) : Int))) hc6_4)) ?_
    refine AWP.seq ?_
    refine AWP.text ?_
    refine Wy (.d (.lit (.int .i64 1))) [] (Omv rfl) ?_
    refine Walk.nil ?_
    refine Then.normal ?_
    refine AWP.ret ?_
    refine Then.ret ?_
    obtain rfl := Option.some.inj hm
    exact ret_i []
  · replace hm := cF hc6_4 hm
    refine AWP.if_ false (Eq.trans (by kernel_rfl) (lit_tf (b := decide ((20 : Int) < ((List.length p0 : Nat) : Int))) hc6_4)) ?_
    refine AWP.skip ?_
    refine Then.normal ?_
    refine Amk 1 0 ⟨((.d (.sl (List.length p0) (flatD enc_GPair p0))) :: (tp 29 [])), [], 0⟩ ?_
    refine AWP.seq ?_
    refine AWP.seq ?_
    refine AWP.text ?_
    refine Wy (.d (.lit (.int .i64 0))) [] (Omv rfl) ?_
    refine Walk.nil ?_
    refine Then.normal ?_
    refine Amk 9 0 ⟨((.d (.sl (List.length p0) (flatD enc_GPair p0))) :: (tp 2 ((.d (.lit (.int .i64 0))) :: (tp 26 [])))), [], 0⟩ ?_
    refine AWP.block ?_
    refine AWP.loopI (α := Nat × Int)
      (fun x => match x with | (fu_1, y3_1) => (⟨((.d (.sl (List.length p0) (flatD enc_GPair p0))) :: (tp 2 ((.d (.lit (.int .i64 y3_1))) :: (tp 26 [])))), [], 0⟩ : St))
      (fun x => match x with | (fu_1, y3_1) => m_telltalelaw19_Long_l1 p0 fu_1 y3_1 = some r)
      (fun x => match x with | (fu_1, y3_1) => fu_1) (1152921504606846976, 0)
      (Weak.toK 9 0 0 []) hm ?_
    rintro ⟨fu_1, y3_1⟩ n_1 hm ih_1
    try dsimp only at hm ih_1 ⊢
    cases fu_1 with
    | zero => exact absurd hm (by unfold m_telltalelaw19_Long_l1; simp)
    | succ fu_1 =>
      unfold m_telltalelaw19_Long_l1 at hm
      refine AWP.seq ?_
      refine AWP.seq ?_
      refine AWP.text ?_
      refine Wy (.d (.lit (.int .i64 y3_1))) [] (Omv rfl) ?_
      refine Wy (.d (.sl (List.length p0) (flatD enc_GPair p0))) [] (Omv rfl) ?_
      refine Wy (.d (.lit (.int .i64 ((List.length p0 : Nat) : Int)))) [] (Oln rfl) ?_
      refine Wy (.d (.lit (.bool (decide (y3_1 < ((List.length p0 : Nat) : Int)))))) [] (Obn rfl (fun _ => hb_lss (k := .i64))) ?_
      refine Walk.nil ?_
      refine Then.normal ?_
      refine Amk 1033 0 ⟨((.d (.sl (List.length p0) (flatD enc_GPair p0))) :: (tp 2 ((.d (.lit (.int .i64 y3_1))) :: (tp 6 ((.d (.lit (.bool (decide (y3_1 < ((List.length p0 : Nat) : Int)))))) :: (tp 19 [])))))), [], 0⟩ ?_
      rcases tf_ (decide (y3_1 < ((List.length p0 : Nat) : Int))) with hc10_5 | hc10_5
      · replace hm := cT hc10_5 hm
        refine AWP.if_ true (Eq.trans (by kernel_rfl) (lit_tf (b := decide (y3_1 < ((List.length p0 : Nat) : Int))) hc10_5)) ?_
        refine AWP.skip ?_
        refine Then.normal ?_
        refine Amk 9 0 ⟨((.d (.sl (List.length p0) (flatD enc_GPair p0))) :: (tp 2 ((.d (.lit (.int .i64 y3_1))) :: (tp 26 [])))), [], 0⟩ ?_
        refine AWP.seq ?_
        refine AWP.block ?_
        refine AWP.seq ?_
        refine AWP.text ?_
        refine Wy (.d (.sl (List.length p0) (flatD enc_GPair p0))) [] (Omv rfl) ?_
        refine Wy (.d (.lit (.int .i64 y3_1))) [] (Omv rfl) ?_
        obtain ⟨x15_3, hx15_3, hm⟩ := bnd hm
        obtain ⟨hx15_3i, hx15_3g⟩ := geti_some hx15_3
        refine Wy (.d (.ref (List.drop ((Int.toNat y3_1) * 6) (flatD enc_GPair p0)))) [] (Oia rfl enc_GPair_len hx15_3i hx15_3g) ?_
        refine Wy (.d (.ref (List.drop ((Int.toNat y3_1) * 6) (flatD enc_GPair p0)))) [] (Ofa rfl) ?_
        refine Wy (.d (.lit (.string (toS x15_3.Var)))) [] (Lf1 rfl enc_GPair_len hx15_3g) ?_
        refine Wy (.d (.lit (.int .i64 ((List.length x15_3.Var : Nat) : Int)))) [] (Oln rfl) ?_
        refine Wy (.d (.lit (.bool (decide ((40 : Int) < ((List.length x15_3.Var : Nat) : Int)))))) [] (Obn rfl (fun _ => hb_gtr (k := .i64))) ?_
        rcases tf_ (decide ((40 : Int) < ((List.length x15_3.Var : Nat) : Int))) with hq20_3 | hq20_3
        · replace hm := cT hq20_3 hm
          refine Wy (.d (.lit (.bool true))) [] (Ocs (lit_tf (b := decide ((40 : Int) < ((List.length x15_3.Var : Nat) : Int))) hq20_3) (Omv rfl)) ?_
          refine Wn ?_
          refine Wn ?_
          refine Wn ?_
          refine Wn ?_
          refine Wn ?_
          refine Wn ?_
          refine Wn ?_
          refine Wn ?_
          refine Wy (.d (.lit (.bool true))) [] (OpT rfl) ?_
          refine Walk.nil ?_
          refine Then.normal ?_
          refine Amk 536870921 0 ⟨((.d (.sl (List.length p0) (flatD enc_GPair p0))) :: (tp 2 ((.d (.lit (.int .i64 y3_1))) :: (tp 25 ((.d (.lit (.bool true))) :: []))))), [], 0⟩ ?_
          refine AWP.if_ true (by kernel_rfl) ?_
          refine AWP.seq ?_
          refine AWP.text ?_
          refine Wy (.d (.lit (.int .i64 1))) [] (Omv rfl) ?_
          refine Walk.nil ?_
          refine Then.normal ?_
          refine AWP.ret ?_
          refine InBlock.ret ?_
          refine Then.ret ?_
          refine RoundK.ret ?_
          refine InBlock.ret ?_
          refine Then.ret ?_
          obtain rfl := Option.some.inj hm
          exact ret_i []
        · replace hm := cF hq20_3 hm
          refine Wy (.d (.lit (.bool false))) [] (Ocs (lit_tf (b := decide ((40 : Int) < ((List.length x15_3.Var : Nat) : Int))) hq20_3) (Omv rfl)) ?_
          refine Wy (.d (.sl (List.length p0) (flatD enc_GPair p0))) [] (Omv rfl) ?_
          refine Wy (.d (.lit (.int .i64 y3_1))) [] (Omv rfl) ?_
          obtain ⟨x23_3, hx23_3, hm⟩ := bnd hm
          obtain ⟨hx23_3i, hx23_3g⟩ := geti_some hx23_3
          refine Wy (.d (.ref (List.drop ((Int.toNat y3_1) * 6) (flatD enc_GPair p0)))) [] (Oia rfl enc_GPair_len hx23_3i hx23_3g) ?_
          refine Wy (.d (.ref (List.drop 1 (List.drop ((Int.toNat y3_1) * 6) (flatD enc_GPair p0))))) [] (Ofa rfl) ?_
          refine Wy (.agg [(.d (.lit (.int .i64 x23_3.E.Time))), (.d (.lit (.int .i64 x23_3.E.Source))), (.d (.lit (.int .i64 x23_3.E.Seq))), (.d (.lit (.string (toS x23_3.E.Type_)))), (.d (.sl (List.length x23_3.E.Vals) (flatD enc_GValue x23_3.E.Vals)))]) [] (Lfk 1 rfl enc_GPair_len hx23_3g) ?_
          refine Wy (.own 0) [(0, (.arr 81 5 (List.length ([x23_3.E] : List GEvent)) (flatD enc_GEvent ([x23_3.E] : List GEvent))))] (Obs rfl) ?_
          obtain ⟨r27_3, hr27_3, hm⟩ := bnd hm
          refine Wy (.d (.lit (.int .i64 r27_3))) [] (Ocp [] [] [0] 0 (ok_telltalelaw07_Over ([x23_3.E] : List GEvent) 1 r27_3 hr27_3) (plain_triv (by simp [A.Plain, A.Plains, D.Plain, byteD])) (fun a w => Try.call47 a w) rfl trivial) ?_
          refine Wy (.d (.lit (.bool (decide ((0 : Int) < r27_3))))) [] (Obn rfl (fun _ => hb_gtr (k := .i64))) ?_
          refine Wy (.d (.lit (.bool (decide ((0 : Int) < r27_3))))) [] (OpF rfl) ?_
          refine Walk.nil ?_
          refine Then.normal ?_
          refine Amk 536870921 0 ⟨((.d (.sl (List.length p0) (flatD enc_GPair p0))) :: (tp 2 ((.d (.lit (.int .i64 y3_1))) :: (tp 25 ((.d (.lit (.bool (decide ((0 : Int) < r27_3))))) :: []))))), [.gone], 0⟩ ?_
          rcases tf_ (decide ((0 : Int) < r27_3)) with hc29_6 | hc29_6
          · replace hm := cT hc29_6 hm
            refine AWP.if_ true (Eq.trans (by kernel_rfl) (lit_tf (b := decide ((0 : Int) < r27_3)) hc29_6)) ?_
            refine AWP.seq ?_
            refine AWP.text ?_
            refine Wy (.d (.lit (.int .i64 1))) [] (Omv rfl) ?_
            refine Walk.nil ?_
            refine Then.normal ?_
            refine AWP.ret ?_
            refine InBlock.ret ?_
            refine Then.ret ?_
            refine RoundK.ret ?_
            refine InBlock.ret ?_
            refine Then.ret ?_
            obtain rfl := Option.some.inj hm
            exact ret_i []
          · replace hm := cF hc29_6 hm
            refine AWP.if_ false (Eq.trans (by kernel_rfl) (lit_tf (b := decide ((0 : Int) < r27_3)) hc29_6)) ?_
            refine AWP.skip ?_
            refine InBlock.normal ?_
            refine Then.normal ?_
            refine Amk 9 0 ⟨((.d (.sl (List.length p0) (flatD enc_GPair p0))) :: (tp 2 ((.d (.lit (.int .i64 y3_1))) :: (tp 26 [])))), [.gone], 0⟩ ?_
            refine AWP.text ?_
            refine Wy (.d (.lit (.int .i64 y3_1))) [] (Omv rfl) ?_
            refine Wy (.d (.lit (.int .i64 (IntKind.i64.wrap (y3_1 + 1))))) [] (Obn rfl (fun _ => hb_add (k := .i64))) ?_
            refine Wy (.d (.lit (.int .i64 (IntKind.i64.wrap (y3_1 + 1))))) [] (Omv rfl) ?_
            refine Walk.nil ?_
            refine RoundK.normal ?_
            exact Rounds.weak (Weak.toK 9 0 0 []) (ih_1 (fu_1, (IntKind.i64.wrap (y3_1 + 1))) hm (Nat.lt_succ_self _))
      · replace hm := cF hc10_5 hm
        refine AWP.if_ false (Eq.trans (by kernel_rfl) (lit_tf (b := decide (y3_1 < ((List.length p0 : Nat) : Int))) hc10_5)) ?_
        refine AWP.exit ?_
        refine Then.exit ?_
        refine RoundK.exit ?_
        refine InBlock.same ?_
        refine Then.normal ?_
        refine Amk 0 0 ⟨(tp 30 []), [], 0⟩ ?_
        refine AWP.seq ?_
        refine AWP.text ?_
        refine Wy (.d (.lit (.int .i64 0))) [] (Omv rfl) ?_
        refine Walk.nil ?_
        refine Then.normal ?_
        refine AWP.ret ?_
        obtain rfl := Option.some.inj hm
        exact ret_i []

set_option maxRecDepth 20000 in
set_option maxHeartbeats 4000000 in
theorem ok_telltalelaw21_Over (p0 : GRuns) (r : Int) (h : m_telltalelaw21_Over p0 = some r) : GCall Try.prog 6 [(.agg [(.d (.lit (.int .i64 p0.Cap))), (.d (.sl (List.length p0.L) (flatD enc_GRun p0.L)))])] [] (.d (.lit (.int .i64 r))) [] := by
  refine GCall.of_body (n := 23) (rs := [(.tmp 2)]) Try.func6 rfl rfl rfl ?_
  refine Ato ⟨((.agg [(.d (.lit (.int .i64 p0.Cap))), (.d (.sl (List.length p0.L) (flatD enc_GRun p0.L)))]) :: (tu 22 [])), [], 0⟩ ?_
  have hm := h
  unfold m_telltalelaw21_Over at hm
  refine AWP.seq ?_
  refine AWP.text ?_
  refine Wy (.loc 0 0) [(0, (.box [(.d (.lit (.int .i64 p0.Cap))), (.d (.sl (List.length p0.L) (flatD enc_GRun p0.L)))]))] (Obx rfl) ?_
  refine Wy (.d (.lit (.int .i64 0))) [] (Omv rfl) ?_
  refine Walk.nil ?_
  refine Then.normal ?_
  refine Amk 2 1 ⟨(tp 1 ((.loc 0 0) :: (tp 21 []))), [(.box [(.d (.lit (.int .i64 p0.Cap))), (.d (.sl (List.length p0.L) (flatD enc_GRun p0.L)))])], 0⟩ ?_
  refine AWP.seq ?_
  refine AWP.seq ?_
  refine AWP.text ?_
  refine Wy (.loc 0 1) [] (Ofa rfl) ?_
  refine Wy (.d (.sl (List.length p0.L) (flatD enc_GRun p0.L))) [] (Old rfl) ?_
  refine Wy (.d (.lit (.int .i64 ((List.length p0.L : Nat) : Int)))) [] (Oln rfl) ?_
  refine Wy (.d (.lit (.bool (decide ((12 : Int) < ((List.length p0.L : Nat) : Int)))))) [] (Obn rfl (fun _ => hb_gtr (k := .i64))) ?_
  refine Walk.nil ?_
  refine Then.normal ?_
  refine Amk 130 1 ⟨(tp 1 ((.loc 0 0) :: (tp 5 ((.d (.lit (.bool (decide ((12 : Int) < ((List.length p0.L : Nat) : Int)))))) :: (tp 15 []))))), [(.box [(.d (.lit (.int .i64 p0.Cap))), (.d (.sl (List.length p0.L) (flatD enc_GRun p0.L)))])], 0⟩ ?_
  rcases tf_ (decide ((12 : Int) < ((List.length p0.L : Nat) : Int))) with hc7_4 | hc7_4
  · replace hm := cT hc7_4 hm
    refine AWP.if_ true (Eq.trans (by kernel_rfl) (lit_tf (b := decide ((12 : Int) < ((List.length p0.L : Nat) : Int))) hc7_4)) ?_
    refine AWP.seq ?_
    refine AWP.text ?_
    refine Wy (.d (.lit (.int .i64 1))) [] (Omv rfl) ?_
    refine Walk.nil ?_
    refine Then.normal ?_
    refine AWP.ret ?_
    refine Then.ret ?_
    obtain rfl := Option.some.inj hm
    exact ret_i []
  · replace hm := cF hc7_4 hm
    refine AWP.if_ false (Eq.trans (by kernel_rfl) (lit_tf (b := decide ((12 : Int) < ((List.length p0.L : Nat) : Int))) hc7_4)) ?_
    refine AWP.skip ?_
    refine Then.normal ?_
    refine Amk 2 1 ⟨(tp 1 ((.loc 0 0) :: (tp 21 []))), [(.box [(.d (.lit (.int .i64 p0.Cap))), (.d (.sl (List.length p0.L) (flatD enc_GRun p0.L)))])], 0⟩ ?_
    refine AWP.seq ?_
    refine AWP.seq ?_
    refine AWP.text ?_
    refine Wy (.d (.lit (.int .i64 0))) [] (Omv rfl) ?_
    refine Walk.nil ?_
    refine Then.normal ?_
    refine Amk 10 1 ⟨(tp 1 ((.loc 0 0) :: (tp 1 ((.d (.lit (.int .i64 0))) :: (tp 19 []))))), [(.box [(.d (.lit (.int .i64 p0.Cap))), (.d (.sl (List.length p0.L) (flatD enc_GRun p0.L)))])], 0⟩ ?_
    refine AWP.block ?_
    refine AWP.loopI (α := Nat × Int)
      (fun x => match x with | (fu_1, y3_1) => (⟨(tp 1 ((.loc 0 0) :: (tp 1 ((.d (.lit (.int .i64 y3_1))) :: (tp 19 []))))), [(.box [(.d (.lit (.int .i64 p0.Cap))), (.d (.sl (List.length p0.L) (flatD enc_GRun p0.L)))])], 0⟩ : St))
      (fun x => match x with | (fu_1, y3_1) => m_telltalelaw21_Over_l1 p0 fu_1 y3_1 = some r)
      (fun x => match x with | (fu_1, y3_1) => fu_1) (1152921504606846976, 0)
      (Weak.toK 10 0 0 [0]) hm ?_
    rintro ⟨fu_1, y3_1⟩ n_1 hm ih_1
    try dsimp only at hm ih_1 ⊢
    cases fu_1 with
    | zero => exact absurd hm (by unfold m_telltalelaw21_Over_l1; simp)
    | succ fu_1 =>
      unfold m_telltalelaw21_Over_l1 at hm
      refine AWP.seq ?_
      refine AWP.seq ?_
      refine AWP.text ?_
      refine Wy (.d (.lit (.int .i64 y3_1))) [] (Omv rfl) ?_
      refine Wy (.loc 0 1) [] (Ofa rfl) ?_
      refine Wy (.d (.sl (List.length p0.L) (flatD enc_GRun p0.L))) [] (Old rfl) ?_
      refine Wy (.d (.lit (.int .i64 ((List.length p0.L : Nat) : Int)))) [] (Oln rfl) ?_
      refine Wy (.d (.lit (.bool (decide (y3_1 < ((List.length p0.L : Nat) : Int)))))) [] (Obn rfl (fun _ => hb_lss (k := .i64))) ?_
      refine Walk.nil ?_
      refine Then.normal ?_
      refine Amk 4106 1 ⟨(tp 1 ((.loc 0 0) :: (tp 1 ((.d (.lit (.int .i64 y3_1))) :: (tp 8 ((.d (.lit (.bool (decide (y3_1 < ((List.length p0.L : Nat) : Int)))))) :: (tp 10 []))))))), [(.box [(.d (.lit (.int .i64 p0.Cap))), (.d (.sl (List.length p0.L) (flatD enc_GRun p0.L)))])], 0⟩ ?_
      rcases tf_ (decide (y3_1 < ((List.length p0.L : Nat) : Int))) with hc12_5 | hc12_5
      · replace hm := cT hc12_5 hm
        refine AWP.if_ true (Eq.trans (by kernel_rfl) (lit_tf (b := decide (y3_1 < ((List.length p0.L : Nat) : Int))) hc12_5)) ?_
        refine AWP.skip ?_
        refine Then.normal ?_
        refine Amk 10 1 ⟨(tp 1 ((.loc 0 0) :: (tp 1 ((.d (.lit (.int .i64 y3_1))) :: (tp 19 []))))), [(.box [(.d (.lit (.int .i64 p0.Cap))), (.d (.sl (List.length p0.L) (flatD enc_GRun p0.L)))])], 0⟩ ?_
        refine AWP.seq ?_
        refine AWP.block ?_
        refine AWP.seq ?_
        refine AWP.text ?_
        refine Wy (.loc 0 1) [] (Ofa rfl) ?_
        refine Wy (.d (.sl (List.length p0.L) (flatD enc_GRun p0.L))) [] (Old rfl) ?_
        refine Wy (.d (.lit (.int .i64 y3_1))) [] (Omv rfl) ?_
        obtain ⟨x18_3, hx18_3, hm⟩ := bnd hm
        obtain ⟨hx18_3i, hx18_3g⟩ := geti_some hx18_3
        refine Wy (.d (.ref (List.drop ((Int.toNat y3_1) * 3) (flatD enc_GRun p0.L)))) [] (Oia rfl enc_GRun_len hx18_3i hx18_3g) ?_
        refine Wy (.d (.ref (List.drop 1 (List.drop ((Int.toNat y3_1) * 3) (flatD enc_GRun p0.L))))) [] (Ofa rfl) ?_
        refine Wy (.d (.sl (List.length x18_3.Bound) (flatD enc_GPair x18_3.Bound))) [] (Lfk1 1 rfl enc_GRun_len hx18_3g) ?_
        obtain ⟨r21_3, hr21_3, hm⟩ := bnd hm
        refine Wy (.d (.lit (.int .i64 r21_3))) [] (Ocf [] [] [] 0 (ok_telltalelaw19_Long x18_3.Bound r21_3 hr21_3) (fun a w => Try.call26 a w) rfl trivial) ?_
        refine Wy (.d (.lit (.bool (decide ((0 : Int) < r21_3))))) [] (Obn rfl (fun _ => hb_gtr (k := .i64))) ?_
        refine Walk.nil ?_
        refine Then.normal ?_
        refine Amk 4194314 1 ⟨(tp 1 ((.loc 0 0) :: (tp 1 ((.d (.lit (.int .i64 y3_1))) :: (tp 18 ((.d (.lit (.bool (decide ((0 : Int) < r21_3))))) :: [])))))), [(.box [(.d (.lit (.int .i64 p0.Cap))), (.d (.sl (List.length p0.L) (flatD enc_GRun p0.L)))])], 0⟩ ?_
        rcases tf_ (decide ((0 : Int) < r21_3)) with hc22_6 | hc22_6
        · replace hm := cT hc22_6 hm
          refine AWP.if_ true (Eq.trans (by kernel_rfl) (lit_tf (b := decide ((0 : Int) < r21_3)) hc22_6)) ?_
          refine AWP.seq ?_
          refine AWP.text ?_
          refine Wy (.d (.lit (.int .i64 1))) [] (Omv rfl) ?_
          refine Walk.nil ?_
          refine Then.normal ?_
          refine AWP.ret ?_
          refine InBlock.ret ?_
          refine Then.ret ?_
          refine RoundK.ret ?_
          refine InBlock.ret ?_
          refine Then.ret ?_
          obtain rfl := Option.some.inj hm
          exact ret_i []
        · replace hm := cF hc22_6 hm
          refine AWP.if_ false (Eq.trans (by kernel_rfl) (lit_tf (b := decide ((0 : Int) < r21_3)) hc22_6)) ?_
          refine AWP.skip ?_
          refine InBlock.normal ?_
          refine Then.normal ?_
          refine Amk 10 1 ⟨(tp 1 ((.loc 0 0) :: (tp 1 ((.d (.lit (.int .i64 y3_1))) :: (tp 19 []))))), [(.box [(.d (.lit (.int .i64 p0.Cap))), (.d (.sl (List.length p0.L) (flatD enc_GRun p0.L)))])], 0⟩ ?_
          refine AWP.text ?_
          refine Wy (.d (.lit (.int .i64 y3_1))) [] (Omv rfl) ?_
          refine Wy (.d (.lit (.int .i64 (IntKind.i64.wrap (y3_1 + 1))))) [] (Obn rfl (fun _ => hb_add (k := .i64))) ?_
          refine Wy (.d (.lit (.int .i64 (IntKind.i64.wrap (y3_1 + 1))))) [] (Omv rfl) ?_
          refine Walk.nil ?_
          refine RoundK.normal ?_
          exact Rounds.weak (Weak.toK 10 0 0 [0]) (ih_1 (fu_1, (IntKind.i64.wrap (y3_1 + 1))) hm (Nat.lt_succ_self _))
      · replace hm := cF hc12_5 hm
        refine AWP.if_ false (Eq.trans (by kernel_rfl) (lit_tf (b := decide (y3_1 < ((List.length p0.L : Nat) : Int))) hc12_5)) ?_
        refine AWP.exit ?_
        refine Then.exit ?_
        refine RoundK.exit ?_
        refine InBlock.same ?_
        refine Then.normal ?_
        refine Amk 0 0 ⟨(tp 23 []), [.gone], 0⟩ ?_
        refine AWP.seq ?_
        refine AWP.text ?_
        refine Wy (.d (.lit (.int .i64 0))) [] (Omv rfl) ?_
        refine Walk.nil ?_
        refine Then.normal ?_
        refine AWP.ret ?_
        obtain rfl := Option.some.inj hm
        exact ret_i []

set_option maxRecDepth 20000 in
set_option maxHeartbeats 4000000 in
theorem ok_runs_New (p0 : Int) (r : (GRuns × Int)) (h : m_runs_New p0 = some r) : GCall Try.prog 12 [(.d (.lit (.int .i64 p0)))] [] (.tup [(.agg [(.d (.lit (.int .i64 r.1.Cap))), (.d (.sl (List.length r.1.L) (flatD enc_GRun r.1.L)))]), (.d (.lit (.int .i64 r.2)))]) [] := by
  refine GCall.of_body (n := 13) (rs := [(.cell 2 35), (.tmp 3)]) Try.func12 rfl rfl rfl ?_
  refine Ato ⟨((.d (.lit (.int .i64 p0))) :: (tu 12 [])), [], 0⟩ ?_
  have hm := h
  unfold m_runs_New at hm
  refine AWP.seq ?_
  refine AWP.text ?_
  refine Wy (.loc 0 0) [(0, (.box [(.d (.lit (.int .i64 0))), (.d .nil)]))] (Oal rfl) ?_
  refine Wy (.d (.lit (.int .i64 0))) [] (Omv rfl) ?_
  refine Walk.nil ?_
  refine Then.normal ?_
  refine Amk 5 1 ⟨((.d (.lit (.int .i64 p0))) :: (tp 1 ((.loc 0 0) :: (tp 10 [])))), [(.box [(.d (.lit (.int .i64 0))), (.d .nil)])], 0⟩ ?_
  refine AWP.seq ?_
  refine AWP.seq ?_
  refine AWP.text ?_
  refine Wy (.d (.lit (.int .i64 p0))) [] (Omv rfl) ?_
  refine Wy (.d (.lit (.bool (decide (p0 < 1))))) [] (Obn rfl (fun _ => hb_lss (k := .i64))) ?_
  rcases tf_ (decide (p0 < 1)) with hq6_0 | hq6_0
  · replace hm := cT hq6_0 hm
    refine Wy (.d (.lit (.bool true))) [] (Ocs (lit_tf (b := decide (p0 < 1)) hq6_0) (Omv rfl)) ?_
    refine Wn ?_
    refine Wn ?_
    refine Wy (.d (.lit (.bool true))) [] (OpT rfl) ?_
    refine Walk.nil ?_
    refine Then.normal ?_
    refine Amk 517 1 ⟨((.d (.lit (.int .i64 p0))) :: (tp 1 ((.loc 0 0) :: (tp 6 ((.d (.lit (.bool true))) :: (tp 3 [])))))), [(.box [(.d (.lit (.int .i64 0))), (.d .nil)])], 0⟩ ?_
    refine AWP.if_ true (by kernel_rfl) ?_
    refine AWP.seq ?_
    refine AWP.text ?_
    refine Wy (.agg [(.d (.lit (.int .i64 0))), (.d .nil)]) [] (Obd rfl) ?_
    refine Wy (.tup []) [(0, (.box [(.d (.lit (.int .i64 0))), (.d .nil)]))] (Ost rfl) ?_
    refine Wy (.d (.lit (.int .i64 2))) [] (Omv rfl) ?_
    refine Walk.nil ?_
    refine Then.normal ?_
    refine AWP.ret ?_
    refine Then.ret ?_
    obtain rfl := Option.some.inj hm
    exact ret_i []
  · replace hm := cF hq6_0 hm
    refine Wy (.d (.lit (.bool false))) [] (Ocs (lit_tf (b := decide (p0 < 1)) hq6_0) (Omv rfl)) ?_
    refine Wy (.d (.lit (.int .i64 p0))) [] (Omv rfl) ?_
    refine Wy (.d (.lit (.bool (decide ((4096 : Int) < p0))))) [] (Obn rfl (fun _ => hb_gtr (k := .i64))) ?_
    refine Wy (.d (.lit (.bool (decide ((4096 : Int) < p0))))) [] (OpF rfl) ?_
    refine Walk.nil ?_
    refine Then.normal ?_
    refine Amk 517 1 ⟨((.d (.lit (.int .i64 p0))) :: (tp 1 ((.loc 0 0) :: (tp 6 ((.d (.lit (.bool (decide ((4096 : Int) < p0))))) :: (tp 3 [])))))), [(.box [(.d (.lit (.int .i64 0))), (.d .nil)])], 0⟩ ?_
    rcases tf_ (decide ((4096 : Int) < p0)) with hc9_1 | hc9_1
    · replace hm := cT hc9_1 hm
      refine AWP.if_ true (Eq.trans (by kernel_rfl) (lit_tf (b := decide ((4096 : Int) < p0)) hc9_1)) ?_
      refine AWP.seq ?_
      refine AWP.text ?_
      refine Wy (.agg [(.d (.lit (.int .i64 0))), (.d .nil)]) [] (Obd rfl) ?_
      refine Wy (.tup []) [(0, (.box [(.d (.lit (.int .i64 0))), (.d .nil)]))] (Ost rfl) ?_
      refine Wy (.d (.lit (.int .i64 2))) [] (Omv rfl) ?_
      refine Walk.nil ?_
      refine Then.normal ?_
      refine AWP.ret ?_
      refine Then.ret ?_
      obtain rfl := Option.some.inj hm
      exact ret_i []
    · replace hm := cF hc9_1 hm
      refine AWP.if_ false (Eq.trans (by kernel_rfl) (lit_tf (b := decide ((4096 : Int) < p0)) hc9_1)) ?_
      refine AWP.skip ?_
      refine Then.normal ?_
      refine Amk 5 1 ⟨((.d (.lit (.int .i64 p0))) :: (tp 1 ((.loc 0 0) :: (tp 10 [])))), [(.box [(.d (.lit (.int .i64 0))), (.d .nil)])], 0⟩ ?_
      refine AWP.seq ?_
      refine AWP.text ?_
      refine Wy (.d (.lit (.int .i64 p0))) [] (Omv rfl) ?_
      refine Wy (.agg [(.d (.lit (.int .i64 p0))), (.d .nil)]) [] (Obd rfl) ?_
      refine Wy (.tup []) [(0, (.box [(.d (.lit (.int .i64 p0))), (.d .nil)]))] (Ost rfl) ?_
      refine Wy (.d (.lit (.int .i64 0))) [] (Omv rfl) ?_
      refine Walk.nil ?_
      refine Then.normal ?_
      refine AWP.ret ?_
      obtain rfl := Option.some.inj hm
      exact ret_i []

set_option maxRecDepth 20000 in
set_option maxHeartbeats 4000000 in
theorem ok_telltalelaw21_at (p0 : Int) (r : (List GPair)) (h : m_telltalelaw21_at p0 = some r) : GCall Try.prog 27 [(.d (.lit (.int .i64 p0)))] [] (.own 0) [(.arr 93 6 (List.length r) (flatD enc_GPair r))] := by
  refine GCall.of_body (n := 7) (rs := [(.tmp 2)]) Try.func27 rfl rfl rfl ?_
  refine Ato ⟨((.d (.lit (.int .i64 p0))) :: (tu 6 [])), [], 0⟩ ?_
  have hm := h
  unfold m_telltalelaw21_at at hm
  refine AWP.seq ?_
  refine AWP.text ?_
  refine Wy (.d .nil) [] (Omv rfl) ?_
  refine Walk.nil ?_
  refine Then.normal ?_
  refine Amk 1 0 ⟨((.d (.lit (.int .i64 p0))) :: (tp 6 [])), [], 0⟩ ?_
  refine AWP.seq ?_
  refine AWP.text ?_
  refine Wy (.d (.lit (.int .i64 p0))) [] (Omv rfl) ?_
  refine Wy (.agg [(.d (.lit (.int .i64 p0))), (.d (.lit (.int .i64 0))), (.d (.lit (.int .i64 0))), (.d (.lit (.string (toS ([] : List UInt8))))), (.d .nil)]) [] (Obd rfl) ?_
  refine Wy (.agg [(.d (.lit (.string (toS ([120] : List UInt8))))), (.d (.lit (.int .i64 p0))), (.d (.lit (.int .i64 0))), (.d (.lit (.int .i64 0))), (.d (.lit (.string (toS ([] : List UInt8))))), (.d .nil)]) [] (Obd rfl) ?_
  refine Wy (.own 0) [(0, (.arr 93 6 (List.length ([(GPair.mk ([120] : List UInt8) (GEvent.mk p0 0 0 ([] : List UInt8) ([] : List GValue)))] : List GPair)) (flatD enc_GPair ([(GPair.mk ([120] : List UInt8) (GEvent.mk p0 0 0 ([] : List UInt8) ([] : List GValue)))] : List GPair))))] (Obs rfl) ?_
  refine Wy (.own 0) [] (Omv rfl) ?_
  refine Walk.nil ?_
  refine Then.normal ?_
  refine AWP.ret ?_
  obtain rfl := Option.some.inj hm
  exact ret_i [0]

set_option maxRecDepth 20000 in
set_option maxHeartbeats 4000000 in
theorem ok_runs_all (p0 : Int) (r : Bool) (h : m_runs_all p0 = some r) : GCall Try.prog 29 [(.d (.lit (.int .i64 p0)))] [] (.d (.lit (.bool r))) [] := by
  refine GCall.of_body (n := 3) (rs := [(.tmp 2)]) Try.func29 rfl rfl rfl ?_
  refine Ato ⟨((.d (.lit (.int .i64 p0))) :: (tu 2 [])), [], 0⟩ ?_
  have hm := h
  unfold m_runs_all at hm
  refine AWP.seq ?_
  refine AWP.text ?_
  refine Wy (.d (.lit (.bool false))) [] (Omv rfl) ?_
  refine Walk.nil ?_
  refine Then.normal ?_
  refine Amk 0 0 ⟨(tp 3 []), [], 0⟩ ?_
  refine AWP.seq ?_
  refine AWP.text ?_
  refine Wy (.d (.lit (.bool true))) [] (Omv rfl) ?_
  refine Walk.nil ?_
  refine Then.normal ?_
  refine AWP.ret ?_
  obtain rfl := Option.some.inj hm
  exact ret_i []

set_option maxRecDepth 20000 in
set_option maxHeartbeats 4000000 in
theorem ok_slices_Clone_Pair (p0 : (List GPair)) (r : (List GPair)) (h : m_slices_Clone_Pair p0 = some r) : GCall Try.prog 49 [(.d (.sl (List.length p0) (flatD enc_GPair p0)))] [] (.own 0) [(.arr 93 6 (List.length r) (flatD enc_GPair r))] := by
  refine GCall.of_body (n := 8) (rs := [(.tmp 2)]) Try.func49 rfl rfl rfl ?_
  refine Ato ⟨((.d (.sl (List.length p0) (flatD enc_GPair p0))) :: (tu 7 [])), [], 0⟩ ?_
  have hm := h
  unfold m_slices_Clone_Pair at hm
  refine AWP.seq ?_
  refine AWP.text ?_
  refine Wy (.d .nil) [] (Omv rfl) ?_
  refine Walk.nil ?_
  refine Then.normal ?_
  refine Amk 1 0 ⟨((.d (.sl (List.length p0) (flatD enc_GPair p0))) :: (tp 7 [])), [], 0⟩ ?_
  refine AWP.seq ?_
  refine AWP.seq ?_
  refine AWP.text ?_
  refine Wy (.d (.sl (List.length p0) (flatD enc_GPair p0))) [] (Omv rfl) ?_
  refine Wy (.ab (List.length p0 = 0)) [] (op_eqnil rfl (e := 93) (by kernel_rfl) (ya := (.d (.sl (List.length p0) (flatD enc_GPair p0)))) (by kernel_rfl) (ds := flatD enc_GPair p0) (off := 0) (by kernel_rfl) (by kernel_rfl)) ?_
  refine Walk.nil ?_
  refine Then.normal ?_
  refine Amk 17 0 ⟨((.d (.sl (List.length p0) (flatD enc_GPair p0))) :: (tp 3 ((.ab (List.length p0 = 0)) :: (tp 3 [])))), [], 0⟩ ?_
  refine AWP.condU (p := List.length p0 = 0) (by kernel_rfl) (fun hnil => ?_) ?_
  · refine AWP.seq ?_
    refine AWP.text ?_
    refine Wy (.d .nil) [] (Omv rfl) ?_
    refine Walk.nil ?_
    refine Then.normal ?_
    refine Aow 2 93 6 ⟨((.d (.sl (List.length p0) (flatD enc_GPair p0))) :: (tp 1 ((.own 0) :: (tp 1 ((.ab (List.length p0 = 0)) :: (tp 3 [])))))), [(.arr 93 6 (List.length ([] : List GPair)) (flatD enc_GPair ([] : List GPair)))], 0⟩ ?_
    refine AWP.ret ?_
    refine Then.ret ?_
    obtain rfl := nil_app hm (List.eq_nil_of_length_eq_zero hnil)
    exact ret_i [0]
  refine AWP.skip ?_
  refine Then.normal ?_
  refine Amk 1 0 ⟨((.d (.sl (List.length p0) (flatD enc_GPair p0))) :: (tp 7 [])), [], 0⟩ ?_
  refine AWP.seq ?_
  refine AWP.text ?_
  refine Wy (.own 0) [(0, (.arr 93 6 (List.length ([] : List GPair)) (flatD enc_GPair ([] : List GPair))))] (Obs rfl) ?_
  refine Wy (.d (.sl (List.length p0) (flatD enc_GPair p0))) [] (Omv rfl) ?_
  obtain ⟨a7_0, ha7_0, hm⟩ := bnd hm; obtain ⟨ha7_0e, ha7_0l⟩ := app_some ha7_0
  refine Wy (.own 1) [(0, .gone), (1, (.arr 93 6 (List.length a7_0) (flatD enc_GPair a7_0)))] (Oap rfl elemOK_40 enc_GPair_len ha7_0e ha7_0l) ?_
  refine Wy (.own 1) [] (Omv rfl) ?_
  refine Walk.nil ?_
  refine Then.normal ?_
  refine AWP.ret ?_
  obtain rfl := Option.some.inj hm
  exact ret_i [1]

set_option maxRecDepth 20000 in
set_option maxHeartbeats 4000000 in
theorem ok_runs_clone (p0 : GRun) (r : GRun) (h : m_runs_clone p0 = some r) : GCall Try.prog 32 [(.agg [(.d (.lit (.int .i64 p0.Place))), (.d (.sl (List.length p0.Bound) (flatD enc_GPair p0.Bound))), (.d (.lit (.int .u32 p0.Broken)))])] [] (.agg [(.d (.lit (.int .i64 r.Place))), (.own 0), (.d (.lit (.int .u32 r.Broken)))]) [(.arr 93 6 (List.length r.Bound) (flatD enc_GPair r.Bound))] := by
  refine GCall.of_body (n := 8) (rs := [(.cell 2 42)]) Try.func32 rfl rfl rfl ?_
  refine Ato ⟨((.agg [(.d (.lit (.int .i64 p0.Place))), (.d (.sl (List.length p0.Bound) (flatD enc_GPair p0.Bound))), (.d (.lit (.int .u32 p0.Broken)))]) :: (tu 7 [])), [], 0⟩ ?_
  have hm := h
  unfold m_runs_clone at hm
  refine AWP.seq ?_
  refine AWP.text ?_
  refine Wy (.loc 0 0) [(0, (.box [(.d (.lit (.int .i64 p0.Place))), (.d (.sl (List.length p0.Bound) (flatD enc_GPair p0.Bound))), (.d (.lit (.int .u32 p0.Broken)))]))] (Obx rfl) ?_
  refine Wy (.loc 1 0) [(1, (.box [(.d (.lit (.int .i64 0))), (.d .nil), (.d (.lit (.int .u32 0)))]))] (Oal rfl) ?_
  refine Walk.nil ?_
  refine Then.normal ?_
  refine Amk 6 3 ⟨(tp 1 ((.loc 0 0) :: ((.loc 1 0) :: (tp 5 [])))), [(.box [(.d (.lit (.int .i64 p0.Place))), (.d (.sl (List.length p0.Bound) (flatD enc_GPair p0.Bound))), (.d (.lit (.int .u32 p0.Broken)))]), (.box [(.d (.lit (.int .i64 0))), (.d .nil), (.d (.lit (.int .u32 0)))])], 0⟩ ?_
  refine AWP.seq ?_
  refine AWP.text ?_
  refine Wy (.loc 0 1) [] (Ofa rfl) ?_
  refine Wy (.d (.sl (List.length p0.Bound) (flatD enc_GPair p0.Bound))) [] (Old rfl) ?_
  obtain ⟨r5_0, hr5_0, hm⟩ := bnd hm
  refine Wy (.own 2) [(2, (.arr 93 6 (List.length r5_0) (flatD enc_GPair r5_0)))] (Ocf [] [2] [] 0 (ok_slices_Clone_Pair p0.Bound r5_0 hr5_0) (fun a w => Try.call49 a w) rfl trivial) ?_
  refine Wy (.loc 0 1) [] (Ofa rfl) ?_
  refine Wy (.tup []) [(0, (.box [(.d (.lit (.int .i64 p0.Place))), (.own 2), (.d (.lit (.int .u32 p0.Broken)))]))] (Ost rfl) ?_
  refine Walk.nil ?_
  refine Then.normal ?_
  refine Amk 6 7 ⟨(tp 1 ((.loc 0 0) :: ((.loc 1 0) :: (tp 5 [])))), [(.box [(.d (.lit (.int .i64 p0.Place))), (.own 2), (.d (.lit (.int .u32 p0.Broken)))]), (.box [(.d (.lit (.int .i64 0))), (.d .nil), (.d (.lit (.int .u32 0)))]), (.arr 93 6 (List.length r5_0) (flatD enc_GPair r5_0))], 0⟩ ?_
  refine AWP.seq ?_
  refine AWP.text ?_
  refine Wy (.agg [(.d (.lit (.int .i64 p0.Place))), (.own 2), (.d (.lit (.int .u32 p0.Broken)))]) [] (Old rfl) ?_
  refine Wy (.tup []) [(1, (.box [(.d (.lit (.int .i64 p0.Place))), (.own 2), (.d (.lit (.int .u32 p0.Broken)))]))] (Ost rfl) ?_
  refine Walk.nil ?_
  refine Then.normal ?_
  refine AWP.ret ?_
  obtain rfl := Option.some.inj hm
  exact ret_i [2]

set_option maxRecDepth 20000 in
set_option maxHeartbeats 4000000 in
theorem ok_runs_Runs_filter__runs_all (p0 : GRuns) (r : GRuns) (h : m_runs_Runs_filter__runs_all p0 = some r) : GCall Try.prog 28 [(.agg [(.d (.lit (.int .i64 p0.Cap))), (.d (.sl (List.length p0.L) (flatD enc_GRun p0.L)))]), (.clo (.func 29) [] [])] [] (.agg [(.d (.lit (.int .i64 r.Cap))), (.own 0)]) [(.arr 42 3 (List.length r.L) (flatD enc_GRun r.L))] := by
  refine GCall.of_body (n := 31) (rs := [(.cell 4 35)]) Try.func28 rfl rfl rfl ?_
  refine Ato ⟨((.agg [(.d (.lit (.int .i64 p0.Cap))), (.d (.sl (List.length p0.L) (flatD enc_GRun p0.L)))]) :: ((.clo (.func 29) [] []) :: (tu 29 []))), [], 0⟩ ?_
  have hm := h
  unfold m_runs_Runs_filter__runs_all at hm
  refine AWP.seq ?_
  refine AWP.text ?_
  refine Wy (.loc 0 0) [(0, (.box [(.d (.lit (.int .i64 p0.Cap))), (.d (.sl (List.length p0.L) (flatD enc_GRun p0.L)))]))] (Obx rfl) ?_
  refine Wy (.loc 1 0) [(1, (.box [(.d (.lit (.int .i64 0))), (.d .nil)]))] (Oal rfl) ?_
  refine Walk.nil ?_
  refine Then.normal ?_
  refine Amk 22 3 ⟨(tp 1 ((.clo (.func 29) [] []) :: ((.loc 0 0) :: (tp 1 ((.loc 1 0) :: (tp 26 [])))))), [(.box [(.d (.lit (.int .i64 p0.Cap))), (.d (.sl (List.length p0.L) (flatD enc_GRun p0.L)))]), (.box [(.d (.lit (.int .i64 0))), (.d .nil)])], 0⟩ ?_
  refine AWP.seq ?_
  refine AWP.text ?_
  refine Wy (.loc 0 0) [] (Ofa rfl) ?_
  refine Wy (.d (.lit (.int .i64 p0.Cap))) [] (Old rfl) ?_
  refine Wy (.agg [(.d (.lit (.int .i64 p0.Cap))), (.d .nil)]) [] (Obd rfl) ?_
  refine Wy (.loc 2 0) [(2, (.box [(.d (.lit (.int .i64 0))), (.d .nil)]))] (Oal rfl) ?_
  refine Wy (.tup []) [(2, (.box [(.d (.lit (.int .i64 p0.Cap))), (.d .nil)]))] (Ost rfl) ?_
  refine Walk.nil ?_
  refine Then.normal ?_
  refine Amk 54 7 ⟨(tp 1 ((.clo (.func 29) [] []) :: ((.loc 0 0) :: (tp 1 ((.loc 1 0) :: ((.loc 2 0) :: (tp 25 []))))))), [(.box [(.d (.lit (.int .i64 p0.Cap))), (.d (.sl (List.length p0.L) (flatD enc_GRun p0.L)))]), (.box [(.d (.lit (.int .i64 0))), (.d .nil)]), (.box [(.d (.lit (.int .i64 p0.Cap))), (.d .nil)])], 0⟩ ?_
  refine AWP.seq ?_
  refine AWP.seq ?_
  refine AWP.text ?_
  refine Wy (.loc 0 1) [] (Ofa rfl) ?_
  refine Wy (.d (.sl (List.length p0.L) (flatD enc_GRun p0.L))) [] (Old rfl) ?_
  refine Wy (.d (.lit (.int .i64 ((List.length p0.L : Nat) : Int)))) [] (Oln rfl) ?_
  refine Wy (.d (.lit (.int .i64 0))) [] (Omv rfl) ?_
  refine Walk.nil ?_
  refine Then.normal ?_
  refine Amk 28722 6 ⟨(tp 1 ((.clo (.func 29) [] []) :: (tp 2 ((.loc 1 0) :: ((.loc 2 0) :: (tp 6 ((.d (.sl (List.length p0.L) (flatD enc_GRun p0.L))) :: ((.d (.lit (.int .i64 ((List.length p0.L : Nat) : Int)))) :: ((.d (.lit (.int .i64 0))) :: (tp 16 [])))))))))), [.gone, (.box [(.d (.lit (.int .i64 0))), (.d .nil)]), (.box [(.d (.lit (.int .i64 p0.Cap))), (.d .nil)])], 0⟩ ?_
  refine AWP.block ?_
  refine Aob 2 1 42 3 ⟨(tp 1 ((.clo (.func 29) [] []) :: (tp 2 ((.loc 1 0) :: ((.loc 2 0) :: (tp 6 ((.d (.sl (List.length p0.L) (flatD enc_GRun p0.L))) :: ((.d (.lit (.int .i64 ((List.length p0.L : Nat) : Int)))) :: ((.d (.lit (.int .i64 0))) :: (tp 16 [])))))))))), [.gone, (.box [(.d (.lit (.int .i64 0))), (.d .nil)]), (.box [(.d (.lit (.int .i64 p0.Cap))), (.own 3)]), (.arr 42 3 (List.length ([] : List GRun)) (flatD enc_GRun ([] : List GRun)))], 0⟩ ?_
  refine AWP.loopI (α := Nat × (List GRun) × Int)
    (fun x => match x with | (fu_1, y5_d_1_1, y14_1) => (⟨(tp 1 ((.clo (.func 29) [] []) :: (tp 2 ((.loc 0 0) :: ((.loc 1 0) :: (tp 6 ((.d (.sl (List.length p0.L) (flatD enc_GRun p0.L))) :: ((.d (.lit (.int .i64 ((List.length p0.L : Nat) : Int)))) :: ((.d (.lit (.int .i64 y14_1))) :: (tp 16 [])))))))))), [(.box [(.d (.lit (.int .i64 0))), (.d .nil)]), (.box [(.d (.lit (.int .i64 p0.Cap))), (.own 2)]), (.arr 42 3 (List.length y5_d_1_1) (flatD enc_GRun y5_d_1_1))], 0⟩ : St))
    (fun x => match x with | (fu_1, y5_d_1_1, y14_1) => m_runs_Runs_filter__runs_all_l1 p0 fu_1 y5_d_1_1 y14_1 = some r)
    (fun x => match x with | (fu_1, y5_d_1_1, y14_1) => fu_1) (1152921504606846976, ([] : List GRun), 0)
    (Weak.toK 28722 0 0 [1, 2, 3]) hm ?_
  rintro ⟨fu_1, y5_d_1_1, y14_1⟩ n_1 hm ih_1
  try dsimp only at hm ih_1 ⊢
  cases fu_1 with
  | zero => exact absurd hm (by unfold m_runs_Runs_filter__runs_all_l1; simp)
  | succ fu_1 =>
    unfold m_runs_Runs_filter__runs_all_l1 at hm
    refine AWP.seq ?_
    refine AWP.text ?_
    refine Wy (.d (.lit (.bool (decide (y14_1 < ((List.length p0.L : Nat) : Int)))))) [] (Obn rfl (fun _ => hb_lss (k := .i64))) ?_
    refine Walk.nil ?_
    refine Then.normal ?_
    refine Amk 61490 7 ⟨(tp 1 ((.clo (.func 29) [] []) :: (tp 2 ((.loc 0 0) :: ((.loc 1 0) :: (tp 6 ((.d (.sl (List.length p0.L) (flatD enc_GRun p0.L))) :: ((.d (.lit (.int .i64 ((List.length p0.L : Nat) : Int)))) :: ((.d (.lit (.int .i64 y14_1))) :: ((.d (.lit (.bool (decide (y14_1 < ((List.length p0.L : Nat) : Int)))))) :: (tp 15 []))))))))))), [(.box [(.d (.lit (.int .i64 0))), (.d .nil)]), (.box [(.d (.lit (.int .i64 p0.Cap))), (.own 2)]), (.arr 42 3 (List.length y5_d_1_1) (flatD enc_GRun y5_d_1_1))], 0⟩ ?_
    refine AWP.seq ?_
    rcases tf_ (decide (y14_1 < ((List.length p0.L : Nat) : Int))) with hc15_5 | hc15_5
    · replace hm := cT hc15_5 hm
      refine AWP.if_ true (Eq.trans (by kernel_rfl) (lit_tf (b := decide (y14_1 < ((List.length p0.L : Nat) : Int))) hc15_5)) ?_
      refine AWP.skip ?_
      refine Then.normal ?_
      refine Amk 28722 7 ⟨(tp 1 ((.clo (.func 29) [] []) :: (tp 2 ((.loc 0 0) :: ((.loc 1 0) :: (tp 6 ((.d (.sl (List.length p0.L) (flatD enc_GRun p0.L))) :: ((.d (.lit (.int .i64 ((List.length p0.L : Nat) : Int)))) :: ((.d (.lit (.int .i64 y14_1))) :: (tp 16 [])))))))))), [(.box [(.d (.lit (.int .i64 0))), (.d .nil)]), (.box [(.d (.lit (.int .i64 p0.Cap))), (.own 2)]), (.arr 42 3 (List.length y5_d_1_1) (flatD enc_GRun y5_d_1_1))], 0⟩ ?_
      refine AWP.seq ?_
      refine AWP.block ?_
      refine AWP.seq ?_
      refine AWP.text ?_
      refine Wy (.d (.lit (.int .i64 y14_1))) [] (Omv rfl) ?_
      obtain ⟨x17_2, hx17_2, hm⟩ := bnd hm
      obtain ⟨hx17_2i, hx17_2g⟩ := geti_some hx17_2
      refine Wy (.d (.ref (List.drop ((Int.toNat y14_1) * 3) (flatD enc_GRun p0.L)))) [] (Oia rfl enc_GRun_len hx17_2i hx17_2g) ?_
      refine Wy (.agg [(.d (.lit (.int .i64 x17_2.Place))), (.d (.sl (List.length x17_2.Bound) (flatD enc_GPair x17_2.Bound))), (.d (.lit (.int .u32 x17_2.Broken)))]) [] (Lf rfl enc_GRun_len hx17_2g) ?_
      refine Wy (.loc 3 0) [(3, (.box [(.d (.lit (.int .i64 0))), (.d .nil), (.d (.lit (.int .u32 0)))]))] (Oal rfl) ?_
      refine Wy (.d (.lit (.int .i64 y14_1))) [] (Omv rfl) ?_
      refine Wy (.tup []) [(3, (.box [(.d (.lit (.int .i64 x17_2.Place))), (.d (.sl (List.length x17_2.Bound) (flatD enc_GPair x17_2.Bound))), (.d (.lit (.int .u32 x17_2.Broken)))]))] (Ost rfl) ?_
      refine Walk.nil ?_
      refine Then.normal ?_
      refine Amk 28914 15 ⟨(tp 1 ((.clo (.func 29) [] []) :: (tp 2 ((.loc 0 0) :: ((.loc 1 0) :: ((.d (.lit (.int .i64 y14_1))) :: ((.loc 3 0) :: (tp 4 ((.d (.sl (List.length p0.L) (flatD enc_GRun p0.L))) :: ((.d (.lit (.int .i64 ((List.length p0.L : Nat) : Int)))) :: ((.d (.lit (.int .i64 y14_1))) :: (tp 16 [])))))))))))), [(.box [(.d (.lit (.int .i64 0))), (.d .nil)]), (.box [(.d (.lit (.int .i64 p0.Cap))), (.own 2)]), (.arr 42 3 (List.length y5_d_1_1) (flatD enc_GRun y5_d_1_1)), (.box [(.d (.lit (.int .i64 x17_2.Place))), (.d (.sl (List.length x17_2.Bound) (flatD enc_GPair x17_2.Bound))), (.d (.lit (.int .u32 x17_2.Broken)))])], 0⟩ ?_
      refine AWP.seq ?_
      refine AWP.text ?_
      refine Wy (.clo (.func 29) [] []) [] (Omv rfl) ?_
      refine Wy (.d (.lit (.int .i64 y14_1))) [] (Omv rfl) ?_
      obtain ⟨r21_3, hr21_3, hm⟩ := bnd hm
      refine Wy (.d (.lit (.bool r21_3))) [] (Ocf [] [] [] 0 (ok_runs_all y14_1 r21_3 hr21_3) (fun a w => Try.call29 a w) rfl trivial) ?_
      refine Walk.nil ?_
      refine Then.normal ?_
      refine Amk 2126002 15 ⟨(tp 1 ((.clo (.func 29) [] []) :: (tp 2 ((.loc 0 0) :: ((.loc 1 0) :: (tp 1 ((.loc 3 0) :: (tp 4 ((.d (.sl (List.length p0.L) (flatD enc_GRun p0.L))) :: ((.d (.lit (.int .i64 ((List.length p0.L : Nat) : Int)))) :: ((.d (.lit (.int .i64 y14_1))) :: (tp 6 ((.d (.lit (.bool r21_3))) :: (tp 9 [])))))))))))))), [(.box [(.d (.lit (.int .i64 0))), (.d .nil)]), (.box [(.d (.lit (.int .i64 p0.Cap))), (.own 2)]), (.arr 42 3 (List.length y5_d_1_1) (flatD enc_GRun y5_d_1_1)), (.box [(.d (.lit (.int .i64 x17_2.Place))), (.d (.sl (List.length x17_2.Bound) (flatD enc_GPair x17_2.Bound))), (.d (.lit (.int .u32 x17_2.Broken)))])], 0⟩ ?_
      rcases tf_ r21_3 with hc21_6 | hc21_6
      · replace hm := cT hc21_6 hm
        refine AWP.if_ true (Eq.trans (by kernel_rfl) (lit_tf (b := r21_3) hc21_6)) ?_
        refine Adr ?_
        refine Wy (.loc 1 1) [] (Ofa rfl) ?_
        refine Wy (.own 2) [] (Old rfl) ?_
        refine Wy (.agg [(.d (.lit (.int .i64 x17_2.Place))), (.d (.sl (List.length x17_2.Bound) (flatD enc_GPair x17_2.Bound))), (.d (.lit (.int .u32 x17_2.Broken)))]) [] (Old rfl) ?_
        obtain ⟨r25_4, hr25_4, hm⟩ := bnd hm
        refine Wy (.agg [(.d (.lit (.int .i64 r25_4.Place))), (.d (.sl (List.length r25_4.Bound) (flatD enc_GPair r25_4.Bound))), (.d (.lit (.int .u32 r25_4.Broken)))]) [(4, (.arr 93 6 (List.length r25_4.Bound) (flatD enc_GPair r25_4.Bound))), (4, (.fro 93 6 (List.length r25_4.Bound) (flatD enc_GPair r25_4.Bound)))] (Ofz [4] (.agg [(.d (.lit (.int .i64 r25_4.Place))), (.own 4), (.d (.lit (.int .u32 r25_4.Broken)))]) [(4, (.arr 93 6 (List.length r25_4.Bound) (flatD enc_GPair r25_4.Bound)))] (Ocf [] [4] [] 0 (ok_runs_clone x17_2 r25_4 hr25_4) (fun a w => Try.call32 a w) rfl trivial)) ?_
        refine Wy (.own 5) [(5, (.arr 42 3 (List.length ([r25_4] : List GRun)) (flatD enc_GRun ([r25_4] : List GRun))))] (Obs rfl) ?_
        obtain ⟨a27_4, ha27_4, hm⟩ := bnd hm; obtain ⟨ha27_4e, ha27_4l⟩ := app_some ha27_4
        refine Wy (.own 6) [(2, .gone), (6, (.arr 42 3 (List.length a27_4) (flatD enc_GRun a27_4)))] (Oap rfl elemOK_33 enc_GRun_len ha27_4e ha27_4l) ?_
        refine Wy (.loc 1 1) [] (Ofa rfl) ?_
        refine Wy (.tup []) [(1, (.box [(.d (.lit (.int .i64 p0.Cap))), (.own 6)]))] (Ost rfl) ?_
        refine Wdr ?_
        refine InBlock.normal ?_
        refine Then.normal ?_
        refine Amk 28722 67 ⟨(tp 1 ((.clo (.func 29) [] []) :: (tp 2 ((.loc 0 0) :: ((.loc 1 0) :: (tp 6 ((.d (.sl (List.length p0.L) (flatD enc_GRun p0.L))) :: ((.d (.lit (.int .i64 ((List.length p0.L : Nat) : Int)))) :: ((.d (.lit (.int .i64 y14_1))) :: (tp 16 [])))))))))), [(.box [(.d (.lit (.int .i64 0))), (.d .nil)]), (.box [(.d (.lit (.int .i64 p0.Cap))), (.own 6)]), .gone, .gone, .gone, .gone, (.arr 42 3 (List.length a27_4) (flatD enc_GRun a27_4))], 0⟩ ?_
        refine AWP.text ?_
        refine Wy (.d (.lit (.int .i64 (IntKind.i64.wrap (y14_1 + 1))))) [] (Obn rfl (fun _ => hb_add (k := .i64))) ?_
        refine Wy (.d (.lit (.int .i64 (IntKind.i64.wrap (y14_1 + 1))))) [] (Omv rfl) ?_
        refine Walk.nil ?_
        refine RoundK.normal ?_
        exact Rounds.weak (Weak.toK 28722 0 0 [0, 1, 6]) (ih_1 (fu_1, a27_4, (IntKind.i64.wrap (y14_1 + 1))) hm (Nat.lt_succ_self _))
      · replace hm := cF hc21_6 hm
        refine AWP.if_ false (Eq.trans (by kernel_rfl) (lit_tf (b := r21_3) hc21_6)) ?_
        refine AWP.skip ?_
        refine InBlock.normal ?_
        refine Then.normal ?_
        refine Amk 28722 7 ⟨(tp 1 ((.clo (.func 29) [] []) :: (tp 2 ((.loc 0 0) :: ((.loc 1 0) :: (tp 6 ((.d (.sl (List.length p0.L) (flatD enc_GRun p0.L))) :: ((.d (.lit (.int .i64 ((List.length p0.L : Nat) : Int)))) :: ((.d (.lit (.int .i64 y14_1))) :: (tp 16 [])))))))))), [(.box [(.d (.lit (.int .i64 0))), (.d .nil)]), (.box [(.d (.lit (.int .i64 p0.Cap))), (.own 2)]), (.arr 42 3 (List.length y5_d_1_1) (flatD enc_GRun y5_d_1_1)), .gone], 0⟩ ?_
        refine AWP.text ?_
        refine Wy (.d (.lit (.int .i64 (IntKind.i64.wrap (y14_1 + 1))))) [] (Obn rfl (fun _ => hb_add (k := .i64))) ?_
        refine Wy (.d (.lit (.int .i64 (IntKind.i64.wrap (y14_1 + 1))))) [] (Omv rfl) ?_
        refine Walk.nil ?_
        refine RoundK.normal ?_
        exact Rounds.weak (Weak.toK 28722 0 0 [0, 1, 2]) (ih_1 (fu_1, y5_d_1_1, (IntKind.i64.wrap (y14_1 + 1))) hm (Nat.lt_succ_self _))
    · replace hm := cF hc15_5 hm
      refine AWP.if_ false (Eq.trans (by kernel_rfl) (lit_tf (b := decide (y14_1 < ((List.length p0.L : Nat) : Int))) hc15_5)) ?_
      refine AWP.exit ?_
      refine Then.exit ?_
      refine RoundK.exit ?_
      refine InBlock.same ?_
      refine Then.normal ?_
      refine Amk 48 7 ⟨(tp 4 ((.loc 0 0) :: ((.loc 1 0) :: (tp 25 [])))), [(.box [(.d (.lit (.int .i64 0))), (.d .nil)]), (.box [(.d (.lit (.int .i64 p0.Cap))), (.own 2)]), (.arr 42 3 (List.length y5_d_1_1) (flatD enc_GRun y5_d_1_1))], 0⟩ ?_
      refine AWP.seq ?_
      refine AWP.text ?_
      refine Wy (.agg [(.d (.lit (.int .i64 p0.Cap))), (.own 2)]) [] (Old rfl) ?_
      refine Wy (.tup []) [(0, (.box [(.d (.lit (.int .i64 p0.Cap))), (.own 2)]))] (Ost rfl) ?_
      refine Walk.nil ?_
      refine Then.normal ?_
      refine AWP.ret ?_
      obtain rfl := Option.some.inj hm
      exact ret_i [2]

set_option maxRecDepth 20000 in
set_option maxHeartbeats 4000000 in
theorem ok_event_Event_ID (p0 : GEvent) (r : GID) (h : m_event_Event_ID p0 = some r) : GCall Try.prog 56 [(.agg [(.d (.lit (.int .i64 p0.Time))), (.d (.lit (.int .i64 p0.Source))), (.d (.lit (.int .i64 p0.Seq))), (.d (.lit (.string (toS p0.Type_)))), (.d (.sl (List.length p0.Vals) (flatD enc_GValue p0.Vals)))])] [] (.agg [(.d (.lit (.int .i64 r.Time))), (.d (.lit (.int .i64 r.Source))), (.d (.lit (.int .i64 r.Seq)))]) [] := by
  refine GCall.of_body (n := 10) (rs := [(.cell 2 105)]) Try.func56 rfl rfl rfl ?_
  refine Ato ⟨((.agg [(.d (.lit (.int .i64 p0.Time))), (.d (.lit (.int .i64 p0.Source))), (.d (.lit (.int .i64 p0.Seq))), (.d (.lit (.string (toS p0.Type_)))), (.d (.sl (List.length p0.Vals) (flatD enc_GValue p0.Vals)))]) :: (tu 9 [])), [], 0⟩ ?_
  have hm := h
  unfold m_event_Event_ID at hm
  refine AWP.seq ?_
  refine AWP.text ?_
  refine Wy (.loc 0 0) [(0, (.box [(.d (.lit (.int .i64 p0.Time))), (.d (.lit (.int .i64 p0.Source))), (.d (.lit (.int .i64 p0.Seq))), (.d (.lit (.string (toS p0.Type_)))), (.d (.sl (List.length p0.Vals) (flatD enc_GValue p0.Vals)))]))] (Obx rfl) ?_
  refine Wy (.loc 1 0) [(1, (.box [(.d (.lit (.int .i64 0))), (.d (.lit (.int .i64 0))), (.d (.lit (.int .i64 0)))]))] (Oal rfl) ?_
  refine Walk.nil ?_
  refine Then.normal ?_
  refine Amk 6 3 ⟨(tp 1 ((.loc 0 0) :: ((.loc 1 0) :: (tp 7 [])))), [(.box [(.d (.lit (.int .i64 p0.Time))), (.d (.lit (.int .i64 p0.Source))), (.d (.lit (.int .i64 p0.Seq))), (.d (.lit (.string (toS p0.Type_)))), (.d (.sl (List.length p0.Vals) (flatD enc_GValue p0.Vals)))]), (.box [(.d (.lit (.int .i64 0))), (.d (.lit (.int .i64 0))), (.d (.lit (.int .i64 0)))])], 0⟩ ?_
  refine AWP.seq ?_
  refine AWP.text ?_
  refine Wy (.loc 0 0) [] (Ofa rfl) ?_
  refine Wy (.d (.lit (.int .i64 p0.Time))) [] (Old rfl) ?_
  refine Wy (.loc 0 1) [] (Ofa rfl) ?_
  refine Wy (.d (.lit (.int .i64 p0.Source))) [] (Old rfl) ?_
  refine Wy (.loc 0 2) [] (Ofa rfl) ?_
  refine Wy (.d (.lit (.int .i64 p0.Seq))) [] (Old rfl) ?_
  refine Wy (.agg [(.d (.lit (.int .i64 p0.Time))), (.d (.lit (.int .i64 p0.Source))), (.d (.lit (.int .i64 p0.Seq)))]) [] (Obd rfl) ?_
  refine Wy (.tup []) [(1, (.box [(.d (.lit (.int .i64 p0.Time))), (.d (.lit (.int .i64 p0.Source))), (.d (.lit (.int .i64 p0.Seq)))]))] (Ost rfl) ?_
  refine Walk.nil ?_
  refine Then.normal ?_
  refine AWP.ret ?_
  obtain rfl := Option.some.inj hm
  exact ret_i []

set_option maxRecDepth 20000 in
set_option maxHeartbeats 4000000 in
theorem ok_cmp_isNaN_int (p0 : Int) (r : Bool) (h : m_cmp_isNaN_int p0 = some r) : GCall Try.prog 63 [(.d (.lit (.int .i64 p0)))] [] (.d (.lit (.bool r))) [] := by
  refine GCall.of_body (n := 6) (rs := [(.tmp 2)]) Try.func63 rfl rfl rfl ?_
  refine Ato ⟨((.d (.lit (.int .i64 p0))) :: (tu 5 [])), [], 0⟩ ?_
  have hm := h
  unfold m_cmp_isNaN_int at hm
  refine AWP.seq ?_
  refine AWP.text ?_
  refine Wy (.d (.lit (.bool false))) [] (Omv rfl) ?_
  refine Walk.nil ?_
  refine Then.normal ?_
  refine Amk 1 0 ⟨((.d (.lit (.int .i64 p0))) :: (tp 5 [])), [], 0⟩ ?_
  refine AWP.seq ?_
  refine AWP.text ?_
  refine Wy (.d (.lit (.int .i64 p0))) [] (Omv rfl) ?_
  refine Wy (.d (.lit (.int .i64 p0))) [] (Omv rfl) ?_
  refine Wy (.d (.lit (.bool (decide (p0 ≠ p0))))) [] (Obn rfl (fun _ => hb_neq (k := .i64))) ?_
  refine Wy (.d (.lit (.bool (decide (p0 ≠ p0))))) [] (Omv rfl) ?_
  refine Walk.nil ?_
  refine Then.normal ?_
  refine AWP.ret ?_
  obtain rfl := Option.some.inj hm
  exact ret_i []

set_option maxRecDepth 20000 in
set_option maxHeartbeats 4000000 in
theorem ok_cmp_Compare_int (p0 : Int) (p1 : Int) (r : Int) (h : m_cmp_Compare_int p0 p1 = some r) : GCall Try.prog 58 [(.d (.lit (.int .i64 p0))), (.d (.lit (.int .i64 p1)))] [] (.d (.lit (.int .i64 r))) [] := by
  refine GCall.of_body (n := 20) (rs := [(.tmp 4)]) Try.func58 rfl rfl rfl ?_
  refine Ato ⟨((.d (.lit (.int .i64 p0))) :: ((.d (.lit (.int .i64 p1))) :: (tu 18 []))), [], 0⟩ ?_
  have hm := h
  unfold m_cmp_Compare_int at hm
  refine AWP.seq ?_
  refine AWP.text ?_
  refine Wy (.d (.lit (.int .i64 0))) [] (Omv rfl) ?_
  refine Walk.nil ?_
  refine Then.normal ?_
  refine Amk 3 0 ⟨((.d (.lit (.int .i64 p0))) :: ((.d (.lit (.int .i64 p1))) :: (tp 18 []))), [], 0⟩ ?_
  refine AWP.seq ?_
  refine AWP.text ?_
  refine Wy (.d (.lit (.int .i64 p0))) [] (Omv rfl) ?_
  obtain ⟨r8_0, hr8_0, hm⟩ := bnd hm
  refine Wy (.d (.lit (.bool r8_0))) [] (Ocf [] [] [] 0 (ok_cmp_isNaN_int p0 r8_0 hr8_0) (fun a w => Try.call63 a w) rfl trivial) ?_
  refine Wy (.d (.lit (.bool r8_0))) [] (Omv rfl) ?_
  refine Walk.nil ?_
  refine Then.normal ?_
  refine Amk 35 0 ⟨((.d (.lit (.int .i64 p0))) :: ((.d (.lit (.int .i64 p1))) :: (tp 3 ((.d (.lit (.bool r8_0))) :: (tp 14 []))))), [], 0⟩ ?_
  refine AWP.seq ?_
  refine AWP.text ?_
  refine Wy (.d (.lit (.int .i64 p1))) [] (Omv rfl) ?_
  obtain ⟨r10_1, hr10_1, hm⟩ := bnd hm
  refine Wy (.d (.lit (.bool r10_1))) [] (Ocf [] [] [] 0 (ok_cmp_isNaN_int p1 r10_1 hr10_1) (fun a w => Try.call63 a w) rfl trivial) ?_
  refine Wy (.d (.lit (.bool r10_1))) [] (Omv rfl) ?_
  refine Walk.nil ?_
  refine Then.normal ?_
  refine Amk 99 0 ⟨((.d (.lit (.int .i64 p0))) :: ((.d (.lit (.int .i64 p1))) :: (tp 3 ((.d (.lit (.bool r8_0))) :: ((.d (.lit (.bool r10_1))) :: (tp 13 [])))))), [], 0⟩ ?_
  refine AWP.seq ?_
  refine AWP.seq ?_
  refine AWP.text ?_
  refine Wy (.d (.lit (.bool r8_0))) [] (Omv rfl) ?_
  refine Walk.nil ?_
  refine Then.normal ?_
  refine Amk 2115 0 ⟨((.d (.lit (.int .i64 p0))) :: ((.d (.lit (.int .i64 p1))) :: (tp 4 ((.d (.lit (.bool r10_1))) :: (tp 4 ((.d (.lit (.bool r8_0))) :: (tp 8 []))))))), [], 0⟩ ?_
  rcases tf_ r8_0 with hc11_2 | hc11_2
  · replace hm := cT hc11_2 hm
    refine AWP.if_ true (Eq.trans (by kernel_rfl) (lit_tf (b := r8_0) hc11_2)) ?_
    refine AWP.seq ?_
    refine AWP.seq ?_
    refine AWP.text ?_
    refine Wy (.d (.lit (.bool r10_1))) [] (Omv rfl) ?_
    refine Walk.nil ?_
    refine Then.normal ?_
    refine Amk 4096 0 ⟨(tp 12 ((.d (.lit (.bool r10_1))) :: (tp 7 []))), [], 0⟩ ?_
    rcases tf_ r10_1 with hc12_3 | hc12_3
    · replace hm := cT hc12_3 hm
      refine AWP.if_ true (Eq.trans (by kernel_rfl) (lit_tf (b := r10_1) hc12_3)) ?_
      refine AWP.seq ?_
      refine AWP.text ?_
      refine Wy (.d (.lit (.int .i64 0))) [] (Omv rfl) ?_
      refine Walk.nil ?_
      refine Then.normal ?_
      refine AWP.ret ?_
      refine Then.ret ?_
      refine Then.ret ?_
      obtain rfl := Option.some.inj hm
      exact ret_i []
    · replace hm := cF hc12_3 hm
      refine AWP.if_ false (Eq.trans (by kernel_rfl) (lit_tf (b := r10_1) hc12_3)) ?_
      refine AWP.skip ?_
      refine Then.normal ?_
      refine Amk 0 0 ⟨(tp 20 []), [], 0⟩ ?_
      refine AWP.seq ?_
      refine AWP.text ?_
      refine Wy (.d (.lit (.int .i64 (-1)))) [] (Omv rfl) ?_
      refine Walk.nil ?_
      refine Then.normal ?_
      refine AWP.ret ?_
      refine Then.ret ?_
      obtain rfl := Option.some.inj hm
      exact ret_i []
  · replace hm := cF hc11_2 hm
    refine AWP.if_ false (Eq.trans (by kernel_rfl) (lit_tf (b := r8_0) hc11_2)) ?_
    refine AWP.skip ?_
    refine Then.normal ?_
    refine Amk 67 0 ⟨((.d (.lit (.int .i64 p0))) :: ((.d (.lit (.int .i64 p1))) :: (tp 4 ((.d (.lit (.bool r10_1))) :: (tp 13 []))))), [], 0⟩ ?_
    refine AWP.seq ?_
    refine AWP.seq ?_
    refine AWP.text ?_
    refine Wy (.d (.lit (.bool r10_1))) [] (Omv rfl) ?_
    refine Walk.nil ?_
    refine Then.normal ?_
    refine Amk 8195 0 ⟨((.d (.lit (.int .i64 p0))) :: ((.d (.lit (.int .i64 p1))) :: (tp 11 ((.d (.lit (.bool r10_1))) :: (tp 6 []))))), [], 0⟩ ?_
    rcases tf_ r10_1 with hc13_4 | hc13_4
    · replace hm := cT hc13_4 hm
      refine AWP.if_ true (Eq.trans (by kernel_rfl) (lit_tf (b := r10_1) hc13_4)) ?_
      refine AWP.seq ?_
      refine AWP.text ?_
      refine Wy (.d (.lit (.int .i64 1))) [] (Omv rfl) ?_
      refine Walk.nil ?_
      refine Then.normal ?_
      refine AWP.ret ?_
      refine Then.ret ?_
      obtain rfl := Option.some.inj hm
      exact ret_i []
    · replace hm := cF hc13_4 hm
      refine AWP.if_ false (Eq.trans (by kernel_rfl) (lit_tf (b := r10_1) hc13_4)) ?_
      refine AWP.skip ?_
      refine Then.normal ?_
      refine Amk 3 0 ⟨((.d (.lit (.int .i64 p0))) :: ((.d (.lit (.int .i64 p1))) :: (tp 18 []))), [], 0⟩ ?_
      refine AWP.seq ?_
      refine AWP.seq ?_
      refine AWP.text ?_
      refine Wy (.d (.lit (.int .i64 p0))) [] (Omv rfl) ?_
      refine Wy (.d (.lit (.int .i64 p1))) [] (Omv rfl) ?_
      refine Wy (.d (.lit (.bool (decide (p0 < p1))))) [] (Obn rfl (fun _ => hb_lss (k := .i64))) ?_
      refine Walk.nil ?_
      refine Then.normal ?_
      refine Amk 65539 0 ⟨((.d (.lit (.int .i64 p0))) :: ((.d (.lit (.int .i64 p1))) :: (tp 14 ((.d (.lit (.bool (decide (p0 < p1))))) :: (tp 3 []))))), [], 0⟩ ?_
      rcases tf_ (decide (p0 < p1)) with hc16_5 | hc16_5
      · replace hm := cT hc16_5 hm
        refine AWP.if_ true (Eq.trans (by kernel_rfl) (lit_tf (b := decide (p0 < p1)) hc16_5)) ?_
        refine AWP.seq ?_
        refine AWP.text ?_
        refine Wy (.d (.lit (.int .i64 (-1)))) [] (Omv rfl) ?_
        refine Walk.nil ?_
        refine Then.normal ?_
        refine AWP.ret ?_
        refine Then.ret ?_
        obtain rfl := Option.some.inj hm
        exact ret_i []
      · replace hm := cF hc16_5 hm
        refine AWP.if_ false (Eq.trans (by kernel_rfl) (lit_tf (b := decide (p0 < p1)) hc16_5)) ?_
        refine AWP.skip ?_
        refine Then.normal ?_
        refine Amk 3 0 ⟨((.d (.lit (.int .i64 p0))) :: ((.d (.lit (.int .i64 p1))) :: (tp 18 []))), [], 0⟩ ?_
        refine AWP.seq ?_
        refine AWP.seq ?_
        refine AWP.text ?_
        refine Wy (.d (.lit (.int .i64 p0))) [] (Omv rfl) ?_
        refine Wy (.d (.lit (.int .i64 p1))) [] (Omv rfl) ?_
        refine Wy (.d (.lit (.bool (decide (p1 < p0))))) [] (Obn rfl (fun _ => hb_gtr (k := .i64))) ?_
        refine Walk.nil ?_
        refine Then.normal ?_
        refine Amk 524288 0 ⟨(tp 19 ((.d (.lit (.bool (decide (p1 < p0))))) :: [])), [], 0⟩ ?_
        rcases tf_ (decide (p1 < p0)) with hc19_6 | hc19_6
        · replace hm := cT hc19_6 hm
          refine AWP.if_ true (Eq.trans (by kernel_rfl) (lit_tf (b := decide (p1 < p0)) hc19_6)) ?_
          refine AWP.seq ?_
          refine AWP.text ?_
          refine Wy (.d (.lit (.int .i64 1))) [] (Omv rfl) ?_
          refine Walk.nil ?_
          refine Then.normal ?_
          refine AWP.ret ?_
          refine Then.ret ?_
          obtain rfl := Option.some.inj hm
          exact ret_i []
        · replace hm := cF hc19_6 hm
          refine AWP.if_ false (Eq.trans (by kernel_rfl) (lit_tf (b := decide (p1 < p0)) hc19_6)) ?_
          refine AWP.skip ?_
          refine Then.normal ?_
          refine Amk 0 0 ⟨(tp 20 []), [], 0⟩ ?_
          refine AWP.seq ?_
          refine AWP.text ?_
          refine Wy (.d (.lit (.int .i64 0))) [] (Omv rfl) ?_
          refine Walk.nil ?_
          refine Then.normal ?_
          refine AWP.ret ?_
          obtain rfl := Option.some.inj hm
          exact ret_i []

set_option maxRecDepth 20000 in
set_option maxHeartbeats 4000000 in
theorem ok_cmp_isNaN_string (p0 : (List UInt8)) (r : Bool) (h : m_cmp_isNaN_string p0 = some r) : GCall Try.prog 64 [(.d (.lit (.string (toS p0))))] [] (.d (.lit (.bool r))) [] := by
  refine GCall.of_body (n := 6) (rs := [(.tmp 2)]) Try.func64 rfl rfl rfl ?_
  refine Ato ⟨((.d (.lit (.string (toS p0)))) :: (tu 5 [])), [], 0⟩ ?_
  have hm := h
  unfold m_cmp_isNaN_string at hm
  refine AWP.seq ?_
  refine AWP.text ?_
  refine Wy (.d (.lit (.bool false))) [] (Omv rfl) ?_
  refine Walk.nil ?_
  refine Then.normal ?_
  refine Amk 1 0 ⟨((.d (.lit (.string (toS p0)))) :: (tp 5 [])), [], 0⟩ ?_
  refine AWP.seq ?_
  refine AWP.text ?_
  refine Wy (.d (.lit (.string (toS p0)))) [] (Omv rfl) ?_
  refine Wy (.d (.lit (.string (toS p0)))) [] (Omv rfl) ?_
  refine Wy (.d (.lit (.bool (decide (p0 ≠ p0))))) [] (Ocs (lit_tf (by simp only [toS_inj, ne_eq])) (op_bin rfl (a1 := .string (toS p0)) (a2 := .string (toS p0)) (by kernel_rfl) (by kernel_rfl) (fun _ => hb_sneq))) ?_
  refine Wy (.d (.lit (.bool (decide (p0 ≠ p0))))) [] (Omv rfl) ?_
  refine Walk.nil ?_
  refine Then.normal ?_
  refine AWP.ret ?_
  obtain rfl := Option.some.inj hm
  exact ret_i []

set_option maxRecDepth 20000 in
set_option maxHeartbeats 4000000 in
theorem ok_cmp_Compare_string (p0 : (List UInt8)) (p1 : (List UInt8)) (r : Int) (h : m_cmp_Compare_string p0 p1 = some r) : GCall Try.prog 59 [(.d (.lit (.string (toS p0)))), (.d (.lit (.string (toS p1))))] [] (.d (.lit (.int .i64 r))) [] := by
  refine GCall.of_body (n := 20) (rs := [(.tmp 4)]) Try.func59 rfl rfl rfl ?_
  refine Ato ⟨((.d (.lit (.string (toS p0)))) :: ((.d (.lit (.string (toS p1)))) :: (tu 18 []))), [], 0⟩ ?_
  have hm := h
  unfold m_cmp_Compare_string at hm
  refine AWP.seq ?_
  refine AWP.text ?_
  refine Wy (.d (.lit (.int .i64 0))) [] (Omv rfl) ?_
  refine Walk.nil ?_
  refine Then.normal ?_
  refine Amk 3 0 ⟨((.d (.lit (.string (toS p0)))) :: ((.d (.lit (.string (toS p1)))) :: (tp 18 []))), [], 0⟩ ?_
  refine AWP.seq ?_
  refine AWP.text ?_
  refine Wy (.d (.lit (.string (toS p0)))) [] (Omv rfl) ?_
  obtain ⟨r8_0, hr8_0, hm⟩ := bnd hm
  refine Wy (.d (.lit (.bool r8_0))) [] (Ocf [] [] [] 0 (ok_cmp_isNaN_string p0 r8_0 hr8_0) (fun a w => Try.call64 a w) rfl trivial) ?_
  refine Wy (.d (.lit (.bool r8_0))) [] (Omv rfl) ?_
  refine Walk.nil ?_
  refine Then.normal ?_
  refine Amk 35 0 ⟨((.d (.lit (.string (toS p0)))) :: ((.d (.lit (.string (toS p1)))) :: (tp 3 ((.d (.lit (.bool r8_0))) :: (tp 14 []))))), [], 0⟩ ?_
  refine AWP.seq ?_
  refine AWP.text ?_
  refine Wy (.d (.lit (.string (toS p1)))) [] (Omv rfl) ?_
  obtain ⟨r10_1, hr10_1, hm⟩ := bnd hm
  refine Wy (.d (.lit (.bool r10_1))) [] (Ocf [] [] [] 0 (ok_cmp_isNaN_string p1 r10_1 hr10_1) (fun a w => Try.call64 a w) rfl trivial) ?_
  refine Wy (.d (.lit (.bool r10_1))) [] (Omv rfl) ?_
  refine Walk.nil ?_
  refine Then.normal ?_
  refine Amk 99 0 ⟨((.d (.lit (.string (toS p0)))) :: ((.d (.lit (.string (toS p1)))) :: (tp 3 ((.d (.lit (.bool r8_0))) :: ((.d (.lit (.bool r10_1))) :: (tp 13 [])))))), [], 0⟩ ?_
  refine AWP.seq ?_
  refine AWP.seq ?_
  refine AWP.text ?_
  refine Wy (.d (.lit (.bool r8_0))) [] (Omv rfl) ?_
  refine Walk.nil ?_
  refine Then.normal ?_
  refine Amk 2115 0 ⟨((.d (.lit (.string (toS p0)))) :: ((.d (.lit (.string (toS p1)))) :: (tp 4 ((.d (.lit (.bool r10_1))) :: (tp 4 ((.d (.lit (.bool r8_0))) :: (tp 8 []))))))), [], 0⟩ ?_
  rcases tf_ r8_0 with hc11_2 | hc11_2
  · replace hm := cT hc11_2 hm
    refine AWP.if_ true (Eq.trans (by kernel_rfl) (lit_tf (b := r8_0) hc11_2)) ?_
    refine AWP.seq ?_
    refine AWP.seq ?_
    refine AWP.text ?_
    refine Wy (.d (.lit (.bool r10_1))) [] (Omv rfl) ?_
    refine Walk.nil ?_
    refine Then.normal ?_
    refine Amk 4096 0 ⟨(tp 12 ((.d (.lit (.bool r10_1))) :: (tp 7 []))), [], 0⟩ ?_
    rcases tf_ r10_1 with hc12_3 | hc12_3
    · replace hm := cT hc12_3 hm
      refine AWP.if_ true (Eq.trans (by kernel_rfl) (lit_tf (b := r10_1) hc12_3)) ?_
      refine AWP.seq ?_
      refine AWP.text ?_
      refine Wy (.d (.lit (.int .i64 0))) [] (Omv rfl) ?_
      refine Walk.nil ?_
      refine Then.normal ?_
      refine AWP.ret ?_
      refine Then.ret ?_
      refine Then.ret ?_
      obtain rfl := Option.some.inj hm
      exact ret_i []
    · replace hm := cF hc12_3 hm
      refine AWP.if_ false (Eq.trans (by kernel_rfl) (lit_tf (b := r10_1) hc12_3)) ?_
      refine AWP.skip ?_
      refine Then.normal ?_
      refine Amk 0 0 ⟨(tp 20 []), [], 0⟩ ?_
      refine AWP.seq ?_
      refine AWP.text ?_
      refine Wy (.d (.lit (.int .i64 (-1)))) [] (Omv rfl) ?_
      refine Walk.nil ?_
      refine Then.normal ?_
      refine AWP.ret ?_
      refine Then.ret ?_
      obtain rfl := Option.some.inj hm
      exact ret_i []
  · replace hm := cF hc11_2 hm
    refine AWP.if_ false (Eq.trans (by kernel_rfl) (lit_tf (b := r8_0) hc11_2)) ?_
    refine AWP.skip ?_
    refine Then.normal ?_
    refine Amk 67 0 ⟨((.d (.lit (.string (toS p0)))) :: ((.d (.lit (.string (toS p1)))) :: (tp 4 ((.d (.lit (.bool r10_1))) :: (tp 13 []))))), [], 0⟩ ?_
    refine AWP.seq ?_
    refine AWP.seq ?_
    refine AWP.text ?_
    refine Wy (.d (.lit (.bool r10_1))) [] (Omv rfl) ?_
    refine Walk.nil ?_
    refine Then.normal ?_
    refine Amk 8195 0 ⟨((.d (.lit (.string (toS p0)))) :: ((.d (.lit (.string (toS p1)))) :: (tp 11 ((.d (.lit (.bool r10_1))) :: (tp 6 []))))), [], 0⟩ ?_
    rcases tf_ r10_1 with hc13_4 | hc13_4
    · replace hm := cT hc13_4 hm
      refine AWP.if_ true (Eq.trans (by kernel_rfl) (lit_tf (b := r10_1) hc13_4)) ?_
      refine AWP.seq ?_
      refine AWP.text ?_
      refine Wy (.d (.lit (.int .i64 1))) [] (Omv rfl) ?_
      refine Walk.nil ?_
      refine Then.normal ?_
      refine AWP.ret ?_
      refine Then.ret ?_
      obtain rfl := Option.some.inj hm
      exact ret_i []
    · replace hm := cF hc13_4 hm
      refine AWP.if_ false (Eq.trans (by kernel_rfl) (lit_tf (b := r10_1) hc13_4)) ?_
      refine AWP.skip ?_
      refine Then.normal ?_
      refine Amk 3 0 ⟨((.d (.lit (.string (toS p0)))) :: ((.d (.lit (.string (toS p1)))) :: (tp 18 []))), [], 0⟩ ?_
      refine AWP.seq ?_
      refine AWP.seq ?_
      refine AWP.text ?_
      refine Wy (.d (.lit (.string (toS p0)))) [] (Omv rfl) ?_
      refine Wy (.d (.lit (.string (toS p1)))) [] (Omv rfl) ?_
      refine Wy (.d (.lit (.bool (ltS p0 p1)))) [] (op_bin rfl (a1 := .string (toS p0)) (a2 := .string (toS p1)) (by kernel_rfl) (by kernel_rfl) (fun _ => hb_tlss)) ?_
      refine Walk.nil ?_
      refine Then.normal ?_
      refine Amk 65539 0 ⟨((.d (.lit (.string (toS p0)))) :: ((.d (.lit (.string (toS p1)))) :: (tp 14 ((.d (.lit (.bool (ltS p0 p1)))) :: (tp 3 []))))), [], 0⟩ ?_
      rcases tf_ (ltS p0 p1) with hc16_5 | hc16_5
      · replace hm := cT hc16_5 hm
        refine AWP.if_ true (Eq.trans (by kernel_rfl) (lit_tf (b := (ltS p0 p1)) hc16_5)) ?_
        refine AWP.seq ?_
        refine AWP.text ?_
        refine Wy (.d (.lit (.int .i64 (-1)))) [] (Omv rfl) ?_
        refine Walk.nil ?_
        refine Then.normal ?_
        refine AWP.ret ?_
        refine Then.ret ?_
        obtain rfl := Option.some.inj hm
        exact ret_i []
      · replace hm := cF hc16_5 hm
        refine AWP.if_ false (Eq.trans (by kernel_rfl) (lit_tf (b := (ltS p0 p1)) hc16_5)) ?_
        refine AWP.skip ?_
        refine Then.normal ?_
        refine Amk 3 0 ⟨((.d (.lit (.string (toS p0)))) :: ((.d (.lit (.string (toS p1)))) :: (tp 18 []))), [], 0⟩ ?_
        refine AWP.seq ?_
        refine AWP.seq ?_
        refine AWP.text ?_
        refine Wy (.d (.lit (.string (toS p0)))) [] (Omv rfl) ?_
        refine Wy (.d (.lit (.string (toS p1)))) [] (Omv rfl) ?_
        refine Wy (.d (.lit (.bool (gtS p0 p1)))) [] (op_bin rfl (a1 := .string (toS p0)) (a2 := .string (toS p1)) (by kernel_rfl) (by kernel_rfl) (fun _ => hb_tgtr)) ?_
        refine Walk.nil ?_
        refine Then.normal ?_
        refine Amk 524288 0 ⟨(tp 19 ((.d (.lit (.bool (gtS p0 p1)))) :: [])), [], 0⟩ ?_
        rcases tf_ (gtS p0 p1) with hc19_6 | hc19_6
        · replace hm := cT hc19_6 hm
          refine AWP.if_ true (Eq.trans (by kernel_rfl) (lit_tf (b := (gtS p0 p1)) hc19_6)) ?_
          refine AWP.seq ?_
          refine AWP.text ?_
          refine Wy (.d (.lit (.int .i64 1))) [] (Omv rfl) ?_
          refine Walk.nil ?_
          refine Then.normal ?_
          refine AWP.ret ?_
          refine Then.ret ?_
          obtain rfl := Option.some.inj hm
          exact ret_i []
        · replace hm := cF hc19_6 hm
          refine AWP.if_ false (Eq.trans (by kernel_rfl) (lit_tf (b := (gtS p0 p1)) hc19_6)) ?_
          refine AWP.skip ?_
          refine Then.normal ?_
          refine Amk 0 0 ⟨(tp 20 []), [], 0⟩ ?_
          refine AWP.seq ?_
          refine AWP.text ?_
          refine Wy (.d (.lit (.int .i64 0))) [] (Omv rfl) ?_
          refine Walk.nil ?_
          refine Then.normal ?_
          refine AWP.ret ?_
          obtain rfl := Option.some.inj hm
          exact ret_i []
end Go.Proofs.Ytlbajkdbbffefaa.K
