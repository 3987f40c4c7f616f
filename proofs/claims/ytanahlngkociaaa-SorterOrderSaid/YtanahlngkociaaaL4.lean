/- each function computes what its model says (4) -/
import Derived.Test.YtanahlngkociaaaL3
namespace Go.Proofs.Ytanahlngkociaaa.K
open Go.RowKit Go.Lib
set_option linter.unusedVariables false
set_option linter.unusedSimpArgs false

set_option maxRecDepth 20000 in
set_option maxHeartbeats 4000000 in
theorem ok_telltalelaw07_Over (p0 : (List GEvent)) (p1 : Int) (r : Int) (h : m_telltalelaw07_Over p0 p1 = some r) : GCall Try.prog 10 [(.d (.sl (List.length p0) (flatD enc_GEvent p0))), (.d (.lit (.int .i64 p1)))] [] (.d (.lit (.int .i64 r))) [] := by
  refine GCall.of_body (n := 53) (rs := [(.tmp 4)]) Try.func10 rfl rfl rfl ?_
  refine Ato ⟨((.d (.sl (List.length p0) (flatD enc_GEvent p0))) :: ((.d (.lit (.int .i64 p1))) :: (tu 51 []))), [], 0⟩ ?_
  have hm := h
  unfold m_telltalelaw07_Over at hm
  refine AWP.seq ?_
  refine AWP.text ?_
  refine Wy (.d (.lit (.int .i64 0))) [] (Omv rfl) ?_
  refine Walk.nil ?_
  refine Then.normal ?_
  refine Amk 3 0 ⟨((.d (.sl (List.length p0) (flatD enc_GEvent p0))) :: ((.d (.lit (.int .i64 p1))) :: (tp 51 []))), [], 0⟩ ?_
  refine AWP.seq ?_
  refine AWP.seq ?_
  refine AWP.text ?_
  refine Wy (.d (.sl (List.length p0) (flatD enc_GEvent p0))) [] (Omv rfl) ?_
  refine Wy (.d (.lit (.int .i64 ((List.length p0 : Nat) : Int)))) [] (Oln rfl) ?_
  refine Wy (.d (.lit (.int .i64 p1))) [] (Omv rfl) ?_
  refine Wy (.d (.lit (.bool (decide (p1 < ((List.length p0 : Nat) : Int)))))) [] (Obn rfl (fun _ => hb_gtr (k := .i64))) ?_
  refine Walk.nil ?_
  refine Then.normal ?_
  refine Amk 1025 0 ⟨((.d (.sl (List.length p0) (flatD enc_GEvent p0))) :: (tp 9 ((.d (.lit (.bool (decide (p1 < ((List.length p0 : Nat) : Int)))))) :: (tp 42 [])))), [], 0⟩ ?_
  rcases tf_ (decide (p1 < ((List.length p0 : Nat) : Int))) with hc10_7 | hc10_7
  · replace hm := cT hc10_7 hm
    refine AWP.if_ true (Eq.trans (by kernel_rfl) (lit_tf (b := decide (p1 < ((List.length p0 : Nat) : Int))) hc10_7)) ?_
    refine AWP.seq ?_
    refine AWP.text ?_
    refine Wy (.d (.lit (.int .i64 1))) [] (Omv rfl) ?_
    refine Walk.nil ?_
    refine Then.normal ?_
    refine AWP.ret ?_
    refine Then.ret ?_
    obtain rfl := Option.some.inj hm
    exact ret_i []
  · replace hm := cF hc10_7 hm
    refine AWP.if_ false (Eq.trans (by kernel_rfl) (lit_tf (b := decide (p1 < ((List.length p0 : Nat) : Int))) hc10_7)) ?_
    refine AWP.skip ?_
    refine Then.normal ?_
    refine Amk 1 0 ⟨((.d (.sl (List.length p0) (flatD enc_GEvent p0))) :: (tp 52 [])), [], 0⟩ ?_
    refine AWP.seq ?_
    refine AWP.seq ?_
    refine AWP.text ?_
    refine Wy (.d (.lit (.int .i64 0))) [] (Omv rfl) ?_
    refine Walk.nil ?_
    refine Then.normal ?_
    refine Amk 33 0 ⟨((.d (.sl (List.length p0) (flatD enc_GEvent p0))) :: (tp 4 ((.d (.lit (.int .i64 0))) :: (tp 47 [])))), [], 0⟩ ?_
    refine AWP.block ?_
    refine AWP.loopI (α := Nat × Int)
      (fun x => match x with | (fu_1, y5_1) => (⟨((.d (.sl (List.length p0) (flatD enc_GEvent p0))) :: (tp 4 ((.d (.lit (.int .i64 y5_1))) :: (tp 47 [])))), [], 0⟩ : St))
      (fun x => match x with | (fu_1, y5_1) => m_telltalelaw07_Over_l1 p0 fu_1 y5_1 = some r)
      (fun x => match x with | (fu_1, y5_1) => fu_1) (1152921504606846976, 0)
      (Weak.toK 33 0 0 []) hm ?_
    rintro ⟨fu_1, y5_1⟩ n_1 hm ih_1
    try dsimp only at hm ih_1 ⊢
    cases fu_1 with
    | zero => exact absurd hm (by unfold m_telltalelaw07_Over_l1; simp)
    | succ fu_1 =>
      unfold m_telltalelaw07_Over_l1 at hm
      refine AWP.seq ?_
      refine AWP.seq ?_
      refine AWP.text ?_
      refine Wy (.d (.lit (.int .i64 y5_1))) [] (Omv rfl) ?_
      refine Wy (.d (.sl (List.length p0) (flatD enc_GEvent p0))) [] (Omv rfl) ?_
      refine Wy (.d (.lit (.int .i64 ((List.length p0 : Nat) : Int)))) [] (Oln rfl) ?_
      refine Wy (.d (.lit (.bool (decide (y5_1 < ((List.length p0 : Nat) : Int)))))) [] (Obn rfl (fun _ => hb_lss (k := .i64))) ?_
      refine Walk.nil ?_
      refine Then.normal ?_
      refine Amk 16417 0 ⟨((.d (.sl (List.length p0) (flatD enc_GEvent p0))) :: (tp 4 ((.d (.lit (.int .i64 y5_1))) :: (tp 8 ((.d (.lit (.bool (decide (y5_1 < ((List.length p0 : Nat) : Int)))))) :: (tp 38 [])))))), [], 0⟩ ?_
      rcases tf_ (decide (y5_1 < ((List.length p0 : Nat) : Int))) with hc14_8 | hc14_8
      · replace hm := cT hc14_8 hm
        refine AWP.if_ true (Eq.trans (by kernel_rfl) (lit_tf (b := decide (y5_1 < ((List.length p0 : Nat) : Int))) hc14_8)) ?_
        refine AWP.skip ?_
        refine Then.normal ?_
        refine Amk 33 0 ⟨((.d (.sl (List.length p0) (flatD enc_GEvent p0))) :: (tp 4 ((.d (.lit (.int .i64 y5_1))) :: (tp 47 [])))), [], 0⟩ ?_
        refine AWP.seq ?_
        refine AWP.block ?_
        refine AWP.seq ?_
        refine AWP.seq ?_
        refine AWP.text ?_
        refine Wy (.d (.sl (List.length p0) (flatD enc_GEvent p0))) [] (Omv rfl) ?_
        refine Wy (.d (.lit (.int .i64 y5_1))) [] (Omv rfl) ?_
        obtain ⟨x19_3, hx19_3, hm⟩ := bnd hm
        obtain ⟨hx19_3i, hx19_3g⟩ := geti_some hx19_3
        refine Wy (.d (.ref (List.drop ((Int.toNat y5_1) * 5) (flatD enc_GEvent p0)))) [] (Oia rfl enc_GEvent_len hx19_3i hx19_3g) ?_
        refine Wy (.d (.ref (List.drop 3 (List.drop ((Int.toNat y5_1) * 5) (flatD enc_GEvent p0))))) [] (Ofa rfl) ?_
        refine Wy (.d (.lit (.string (toS x19_3.Type_)))) [] (Lfk1 3 rfl enc_GEvent_len hx19_3g) ?_
        refine Wy (.d (.lit (.int .i64 ((List.length x19_3.Type_ : Nat) : Int)))) [] (Oln rfl) ?_
        refine Wy (.d (.lit (.bool (decide ((40 : Int) < ((List.length x19_3.Type_ : Nat) : Int)))))) [] (Obn rfl (fun _ => hb_gtr (k := .i64))) ?_
        rcases tf_ (decide ((40 : Int) < ((List.length x19_3.Type_ : Nat) : Int))) with hq24_3 | hq24_3
        · replace hm := cT hq24_3 hm
          refine Wy (.d (.lit (.bool true))) [] (Ocs (lit_tf (b := decide ((40 : Int) < ((List.length x19_3.Type_ : Nat) : Int))) hq24_3) (Omv rfl)) ?_
          refine Wn ?_
          refine Wn ?_
          refine Wn ?_
          refine Wn ?_
          refine Wn ?_
          refine Wn ?_
          refine Wn ?_
          refine Wy (.d (.lit (.bool true))) [] (OpT rfl) ?_
          refine Walk.nil ?_
          refine Then.normal ?_
          refine Amk 4294967329 0 ⟨((.d (.sl (List.length p0) (flatD enc_GEvent p0))) :: (tp 4 ((.d (.lit (.int .i64 y5_1))) :: (tp 26 ((.d (.lit (.bool true))) :: (tp 20 [])))))), [], 0⟩ ?_
          refine AWP.if_ true (by kernel_rfl) ?_
          refine AWP.seq ?_
          refine AWP.text ?_
          refine Wy (.d (.lit (.int .i64 1))) [] (Omv rfl) ?_
          refine Walk.nil ?_
          refine Then.normal ?_
          refine AWP.ret ?_
          refine Then.ret ?_
          refine InBlock.ret ?_
          refine Then.ret ?_
          refine RoundK.ret ?_
          refine InBlock.ret ?_
          refine Then.ret ?_
          obtain rfl := Option.some.inj hm
          exact ret_i []
        · replace hm := cF hq24_3 hm
          refine Wy (.d (.lit (.bool false))) [] (Ocs (lit_tf (b := decide ((40 : Int) < ((List.length x19_3.Type_ : Nat) : Int))) hq24_3) (Omv rfl)) ?_
          refine Wy (.d (.sl (List.length p0) (flatD enc_GEvent p0))) [] (Omv rfl) ?_
          refine Wy (.d (.lit (.int .i64 y5_1))) [] (Omv rfl) ?_
          obtain ⟨x27_3, hx27_3, hm⟩ := bnd hm
          obtain ⟨hx27_3i, hx27_3g⟩ := geti_some hx27_3
          refine Wy (.d (.ref (List.drop ((Int.toNat y5_1) * 5) (flatD enc_GEvent p0)))) [] (Oia rfl enc_GEvent_len hx27_3i hx27_3g) ?_
          refine Wy (.d (.ref (List.drop 4 (List.drop ((Int.toNat y5_1) * 5) (flatD enc_GEvent p0))))) [] (Ofa rfl) ?_
          refine Wy (.d (.sl (List.length x27_3.Vals) (flatD enc_GValue x27_3.Vals))) [] (Lfk1 4 rfl enc_GEvent_len hx27_3g) ?_
          refine Wy (.d (.lit (.int .i64 ((List.length x27_3.Vals : Nat) : Int)))) [] (Oln rfl) ?_
          refine Wy (.d (.lit (.bool (decide ((12 : Int) < ((List.length x27_3.Vals : Nat) : Int)))))) [] (Obn rfl (fun _ => hb_gtr (k := .i64))) ?_
          refine Wy (.d (.lit (.bool (decide ((12 : Int) < ((List.length x27_3.Vals : Nat) : Int)))))) [] (OpF rfl) ?_
          refine Walk.nil ?_
          refine Then.normal ?_
          refine Amk 4294967329 0 ⟨((.d (.sl (List.length p0) (flatD enc_GEvent p0))) :: (tp 4 ((.d (.lit (.int .i64 y5_1))) :: (tp 26 ((.d (.lit (.bool (decide ((12 : Int) < ((List.length x27_3.Vals : Nat) : Int)))))) :: (tp 20 [])))))), [], 0⟩ ?_
          rcases tf_ (decide ((12 : Int) < ((List.length x27_3.Vals : Nat) : Int))) with hc32_9 | hc32_9
          · replace hm := cT hc32_9 hm
            refine AWP.if_ true (Eq.trans (by kernel_rfl) (lit_tf (b := decide ((12 : Int) < ((List.length x27_3.Vals : Nat) : Int))) hc32_9)) ?_
            refine AWP.seq ?_
            refine AWP.text ?_
            refine Wy (.d (.lit (.int .i64 1))) [] (Omv rfl) ?_
            refine Walk.nil ?_
            refine Then.normal ?_
            refine AWP.ret ?_
            refine Then.ret ?_
            refine InBlock.ret ?_
            refine Then.ret ?_
            refine RoundK.ret ?_
            refine InBlock.ret ?_
            refine Then.ret ?_
            obtain rfl := Option.some.inj hm
            exact ret_i []
          · replace hm := cF hc32_9 hm
            refine AWP.if_ false (Eq.trans (by kernel_rfl) (lit_tf (b := decide ((12 : Int) < ((List.length x27_3.Vals : Nat) : Int))) hc32_9)) ?_
            refine AWP.skip ?_
            refine Then.normal ?_
            refine Amk 33 0 ⟨((.d (.sl (List.length p0) (flatD enc_GEvent p0))) :: (tp 4 ((.d (.lit (.int .i64 y5_1))) :: (tp 47 [])))), [], 0⟩ ?_
            refine AWP.seq ?_
            refine AWP.text ?_
            refine Wy (.d (.lit (.int .i64 0))) [] (Omv rfl) ?_
            refine Walk.nil ?_
            refine Then.normal ?_
            refine Amk 97 0 ⟨((.d (.sl (List.length p0) (flatD enc_GEvent p0))) :: (tp 4 ((.d (.lit (.int .i64 y5_1))) :: ((.d (.lit (.int .i64 0))) :: (tp 46 []))))), [], 0⟩ ?_
            refine AWP.block ?_
            refine AWP.loopI (α := Nat × Int)
              (fun x => match x with | (fu_4, y6_4) => (⟨((.d (.sl (List.length p0) (flatD enc_GEvent p0))) :: (tp 4 ((.d (.lit (.int .i64 y5_1))) :: ((.d (.lit (.int .i64 y6_4))) :: (tp 46 []))))), [], 0⟩ : St))
              (fun x => match x with | (fu_4, y6_4) => m_telltalelaw07_Over_l4 p0 y5_1 (fun y5_1 => m_telltalelaw07_Over_l1 p0 fu_1 y5_1) fu_4 y6_4 = some r)
              (fun x => match x with | (fu_4, y6_4) => fu_4) (1152921504606846976, 0)
              (Weak.toK 97 0 0 []) hm ?_
            rintro ⟨fu_4, y6_4⟩ n_4 hm ih_4
            try dsimp only at hm ih_4 ⊢
            cases fu_4 with
            | zero => exact absurd hm (by unfold m_telltalelaw07_Over_l4; simp)
            | succ fu_4 =>
              unfold m_telltalelaw07_Over_l4 at hm
              refine AWP.seq ?_
              refine AWP.seq ?_
              refine AWP.text ?_
              refine Wy (.d (.lit (.int .i64 y6_4))) [] (Omv rfl) ?_
              refine Wy (.d (.sl (List.length p0) (flatD enc_GEvent p0))) [] (Omv rfl) ?_
              refine Wy (.d (.lit (.int .i64 y5_1))) [] (Omv rfl) ?_
              obtain ⟨x36_5, hx36_5, hm⟩ := bnd hm
              obtain ⟨hx36_5i, hx36_5g⟩ := geti_some hx36_5
              refine Wy (.d (.ref (List.drop ((Int.toNat y5_1) * 5) (flatD enc_GEvent p0)))) [] (Oia rfl enc_GEvent_len hx36_5i hx36_5g) ?_
              refine Wy (.d (.ref (List.drop 4 (List.drop ((Int.toNat y5_1) * 5) (flatD enc_GEvent p0))))) [] (Ofa rfl) ?_
              refine Wy (.d (.sl (List.length x36_5.Vals) (flatD enc_GValue x36_5.Vals))) [] (Lfk1 4 rfl enc_GEvent_len hx36_5g) ?_
              refine Wy (.d (.lit (.int .i64 ((List.length x36_5.Vals : Nat) : Int)))) [] (Oln rfl) ?_
              refine Wy (.d (.lit (.bool (decide (y6_4 < ((List.length x36_5.Vals : Nat) : Int)))))) [] (Obn rfl (fun _ => hb_lss (k := .i64))) ?_
              refine Walk.nil ?_
              refine Then.normal ?_
              refine Amk 1099511627873 0 ⟨((.d (.sl (List.length p0) (flatD enc_GEvent p0))) :: (tp 4 ((.d (.lit (.int .i64 y5_1))) :: ((.d (.lit (.int .i64 y6_4))) :: (tp 33 ((.d (.lit (.bool (decide (y6_4 < ((List.length x36_5.Vals : Nat) : Int)))))) :: (tp 12 []))))))), [], 0⟩ ?_
              rcases tf_ (decide (y6_4 < ((List.length x36_5.Vals : Nat) : Int))) with hc40_10 | hc40_10
              · replace hm := cT hc40_10 hm
                refine AWP.if_ true (Eq.trans (by kernel_rfl) (lit_tf (b := decide (y6_4 < ((List.length x36_5.Vals : Nat) : Int))) hc40_10)) ?_
                refine AWP.skip ?_
                refine Then.normal ?_
                refine Amk 97 0 ⟨((.d (.sl (List.length p0) (flatD enc_GEvent p0))) :: (tp 4 ((.d (.lit (.int .i64 y5_1))) :: ((.d (.lit (.int .i64 y6_4))) :: (tp 46 []))))), [], 0⟩ ?_
                refine AWP.seq ?_
                refine AWP.block ?_
                refine AWP.seq ?_
                refine AWP.text ?_
                refine Wy (.d (.sl (List.length p0) (flatD enc_GEvent p0))) [] (Omv rfl) ?_
                refine Wy (.d (.lit (.int .i64 y5_1))) [] (Omv rfl) ?_
                obtain ⟨x45_6, hx45_6, hm⟩ := bnd hm
                obtain ⟨hx45_6i, hx45_6g⟩ := geti_some hx45_6
                refine Wy (.d (.ref (List.drop ((Int.toNat y5_1) * 5) (flatD enc_GEvent p0)))) [] (Oia rfl enc_GEvent_len hx45_6i hx45_6g) ?_
                refine Wy (.d (.ref (List.drop 4 (List.drop ((Int.toNat y5_1) * 5) (flatD enc_GEvent p0))))) [] (Ofa rfl) ?_
                refine Wy (.d (.sl (List.length x45_6.Vals) (flatD enc_GValue x45_6.Vals))) [] (Lfk1 4 rfl enc_GEvent_len hx45_6g) ?_
                refine Wy (.d (.lit (.int .i64 y6_4))) [] (Omv rfl) ?_
                obtain ⟨x49_6, hx49_6, hm⟩ := bnd hm
                obtain ⟨hx49_6i, hx49_6g⟩ := geti_some hx49_6
                refine Wy (.d (.ref (List.drop ((Int.toNat y6_4) * 4) (flatD enc_GValue x45_6.Vals)))) [] (Oia rfl enc_GValue_len hx49_6i hx49_6g) ?_
                refine Wy (.agg [(.d (byteD x49_6.Kind)), (.d (.lit (.int .i64 x49_6.N))), (.d (.lit (.int .u64 x49_6.Bits))), (.d (.lit (.string (toS x49_6.Text))))]) [] (Lf rfl enc_GValue_len hx49_6g) ?_
                obtain ⟨r51_6, hr51_6, hm⟩ := bnd hm
                refine Wy (.d (.lit (.int .i64 r51_6))) [] (Ocf [] [] [] 0 (ok_telltalelaw04_Small x49_6 r51_6 hr51_6) (fun a w => Try.call26 a w) rfl trivial) ?_
                refine Wy (.d (.lit (.bool (decide ((0 : Int) < r51_6))))) [] (Obn rfl (fun _ => hb_gtr (k := .i64))) ?_
                refine Walk.nil ?_
                refine Then.normal ?_
                refine Amk 4503599627370593 0 ⟨((.d (.sl (List.length p0) (flatD enc_GEvent p0))) :: (tp 4 ((.d (.lit (.int .i64 y5_1))) :: ((.d (.lit (.int .i64 y6_4))) :: (tp 45 ((.d (.lit (.bool (decide ((0 : Int) < r51_6))))) :: [])))))), [], 0⟩ ?_
                rcases tf_ (decide ((0 : Int) < r51_6)) with hc52_11 | hc52_11
                · replace hm := cT hc52_11 hm
                  refine AWP.if_ true (Eq.trans (by kernel_rfl) (lit_tf (b := decide ((0 : Int) < r51_6)) hc52_11)) ?_
                  refine AWP.seq ?_
                  refine AWP.text ?_
                  refine Wy (.d (.lit (.int .i64 1))) [] (Omv rfl) ?_
                  refine Walk.nil ?_
                  refine Then.normal ?_
                  refine AWP.ret ?_
                  refine InBlock.ret ?_
                  refine Then.ret ?_
                  refine RoundK.ret ?_
                  refine InBlock.ret ?_
                  refine InBlock.ret ?_
                  refine Then.ret ?_
                  refine RoundK.ret ?_
                  refine InBlock.ret ?_
                  refine Then.ret ?_
                  obtain rfl := Option.some.inj hm
                  exact ret_i []
                · replace hm := cF hc52_11 hm
                  refine AWP.if_ false (Eq.trans (by kernel_rfl) (lit_tf (b := decide ((0 : Int) < r51_6)) hc52_11)) ?_
                  refine AWP.skip ?_
                  refine InBlock.normal ?_
                  refine Then.normal ?_
                  refine Amk 97 0 ⟨((.d (.sl (List.length p0) (flatD enc_GEvent p0))) :: (tp 4 ((.d (.lit (.int .i64 y5_1))) :: ((.d (.lit (.int .i64 y6_4))) :: (tp 46 []))))), [], 0⟩ ?_
                  refine AWP.text ?_
                  refine Wy (.d (.lit (.int .i64 y6_4))) [] (Omv rfl) ?_
                  refine Wy (.d (.lit (.int .i64 (IntKind.i64.wrap (y6_4 + 1))))) [] (Obn rfl (fun _ => hb_add (k := .i64))) ?_
                  refine Wy (.d (.lit (.int .i64 (IntKind.i64.wrap (y6_4 + 1))))) [] (Omv rfl) ?_
                  refine Walk.nil ?_
                  refine RoundK.normal ?_
                  exact Rounds.weak (Weak.toK 97 0 0 []) (ih_4 (fu_4, (IntKind.i64.wrap (y6_4 + 1))) hm (Nat.lt_succ_self _))
              · replace hm := cF hc40_10 hm
                refine AWP.if_ false (Eq.trans (by kernel_rfl) (lit_tf (b := decide (y6_4 < ((List.length x36_5.Vals : Nat) : Int))) hc40_10)) ?_
                refine AWP.exit ?_
                refine Then.exit ?_
                refine RoundK.exit ?_
                refine InBlock.same ?_
                refine InBlock.normal ?_
                refine Then.normal ?_
                refine Amk 33 0 ⟨((.d (.sl (List.length p0) (flatD enc_GEvent p0))) :: (tp 4 ((.d (.lit (.int .i64 y5_1))) :: (tp 47 [])))), [], 0⟩ ?_
                refine AWP.text ?_
                refine Wy (.d (.lit (.int .i64 y5_1))) [] (Omv rfl) ?_
                refine Wy (.d (.lit (.int .i64 (IntKind.i64.wrap (y5_1 + 1))))) [] (Obn rfl (fun _ => hb_add (k := .i64))) ?_
                refine Wy (.d (.lit (.int .i64 (IntKind.i64.wrap (y5_1 + 1))))) [] (Omv rfl) ?_
                refine Walk.nil ?_
                refine RoundK.normal ?_
                exact Rounds.weak (Weak.toK 33 0 0 []) (ih_1 (fu_1, (IntKind.i64.wrap (y5_1 + 1))) hm (Nat.lt_succ_self _))
      · replace hm := cF hc14_8 hm
        refine AWP.if_ false (Eq.trans (by kernel_rfl) (lit_tf (b := decide (y5_1 < ((List.length p0 : Nat) : Int))) hc14_8)) ?_
        refine AWP.exit ?_
        refine Then.exit ?_
        refine RoundK.exit ?_
        refine InBlock.same ?_
        refine Then.normal ?_
        refine Amk 0 0 ⟨(tp 53 []), [], 0⟩ ?_
        refine AWP.seq ?_
        refine AWP.text ?_
        refine Wy (.d (.lit (.int .i64 0))) [] (Omv rfl) ?_
        refine Walk.nil ?_
        refine Then.normal ?_
        refine AWP.ret ?_
        obtain rfl := Option.some.inj hm
        exact ret_i []

set_option maxRecDepth 20000 in
set_option maxHeartbeats 4000000 in
theorem ok_telltaleref24_Release (p0 : GSorter) (p1 : Int) (r : ((List GEvent) × GSorter)) (h : m_telltaleref24_Release p0 p1 = some r) : GCall Try.prog 12 [(.agg [(.d (.lit (.int .i64 p0.Cap))), (.d (.sl (List.length p0.L) (flatD enc_GEvent p0.L)))]), (.d (.lit (.int .i64 p1)))] [] (.tup [(.own 0), (.agg [(.d (.lit (.int .i64 r.2.Cap))), (.own 1)])]) [(.arr 38 5 (List.length r.1) (flatD enc_GEvent r.1)), (.arr 38 5 (List.length r.2.L) (flatD enc_GEvent r.2.L))] := by
  refine GCall.of_body (n := 47) (rs := [(.tmp 4), (.cell 5 32)]) Try.func12 rfl rfl rfl ?_
  refine Ato ⟨((.agg [(.d (.lit (.int .i64 p0.Cap))), (.d (.sl (List.length p0.L) (flatD enc_GEvent p0.L)))]) :: ((.d (.lit (.int .i64 p1))) :: (tu 45 []))), [], 0⟩ ?_
  have hm := h
  unfold m_telltaleref24_Release at hm
  refine AWP.seq ?_
  refine AWP.text ?_
  refine Wy (.loc 0 0) [(0, (.box [(.d (.lit (.int .i64 p0.Cap))), (.d (.sl (List.length p0.L) (flatD enc_GEvent p0.L)))]))] (Obx rfl) ?_
  refine Wy (.d .nil) [] (Omv rfl) ?_
  refine Wy (.loc 1 0) [(1, (.box [(.d (.lit (.int .i64 0))), (.d .nil)]))] (Oal rfl) ?_
  refine Walk.nil ?_
  refine Then.normal ?_
  refine Amk 38 3 ⟨(tp 1 ((.d (.lit (.int .i64 p1))) :: ((.loc 0 0) :: (tp 2 ((.loc 1 0) :: (tp 41 [])))))), [(.box [(.d (.lit (.int .i64 p0.Cap))), (.d (.sl (List.length p0.L) (flatD enc_GEvent p0.L)))]), (.box [(.d (.lit (.int .i64 0))), (.d .nil)])], 0⟩ ?_
  refine AWP.seq ?_
  refine AWP.text ?_
  refine Wy (.d .nil) [] (Omv rfl) ?_
  refine Walk.nil ?_
  refine Then.normal ?_
  refine Amk 102 3 ⟨(tp 1 ((.d (.lit (.int .i64 p1))) :: ((.loc 0 0) :: (tp 2 ((.loc 1 0) :: ((.d .nil) :: (tp 40 []))))))), [(.box [(.d (.lit (.int .i64 p0.Cap))), (.d (.sl (List.length p0.L) (flatD enc_GEvent p0.L)))]), (.box [(.d (.lit (.int .i64 0))), (.d .nil)])], 0⟩ ?_
  refine AWP.seq ?_
  refine AWP.text ?_
  refine Wy (.loc 0 0) [] (Ofa rfl) ?_
  refine Wy (.d (.lit (.int .i64 p0.Cap))) [] (Old rfl) ?_
  refine Wy (.agg [(.d (.lit (.int .i64 p0.Cap))), (.d .nil)]) [] (Obd rfl) ?_
  refine Wy (.loc 2 0) [(2, (.box [(.d (.lit (.int .i64 0))), (.d .nil)]))] (Oal rfl) ?_
  refine Wy (.tup []) [(2, (.box [(.d (.lit (.int .i64 p0.Cap))), (.d .nil)]))] (Ost rfl) ?_
  refine Walk.nil ?_
  refine Then.normal ?_
  refine Amk 230 7 ⟨(tp 1 ((.d (.lit (.int .i64 p1))) :: ((.loc 0 0) :: (tp 2 ((.loc 1 0) :: ((.d .nil) :: ((.loc 2 0) :: (tp 39 [])))))))), [(.box [(.d (.lit (.int .i64 p0.Cap))), (.d (.sl (List.length p0.L) (flatD enc_GEvent p0.L)))]), (.box [(.d (.lit (.int .i64 0))), (.d .nil)]), (.box [(.d (.lit (.int .i64 p0.Cap))), (.d .nil)])], 0⟩ ?_
  refine AWP.seq ?_
  refine AWP.seq ?_
  refine AWP.text ?_
  refine Wy (.d (.lit (.int .i64 0))) [] (Omv rfl) ?_
  refine Walk.nil ?_
  refine Then.normal ?_
  refine Amk 486 7 ⟨(tp 1 ((.d (.lit (.int .i64 p1))) :: ((.loc 0 0) :: (tp 2 ((.loc 1 0) :: ((.d .nil) :: ((.loc 2 0) :: ((.d (.lit (.int .i64 0))) :: (tp 38 []))))))))), [(.box [(.d (.lit (.int .i64 p0.Cap))), (.d (.sl (List.length p0.L) (flatD enc_GEvent p0.L)))]), (.box [(.d (.lit (.int .i64 0))), (.d .nil)]), (.box [(.d (.lit (.int .i64 p0.Cap))), (.d .nil)])], 0⟩ ?_
  refine AWP.block ?_
  refine Aow 6 38 5 ⟨(tp 1 ((.d (.lit (.int .i64 p1))) :: ((.loc 0 0) :: (tp 2 ((.loc 1 0) :: ((.own 3) :: ((.loc 2 0) :: ((.d (.lit (.int .i64 0))) :: (tp 38 []))))))))), [(.box [(.d (.lit (.int .i64 p0.Cap))), (.d (.sl (List.length p0.L) (flatD enc_GEvent p0.L)))]), (.box [(.d (.lit (.int .i64 0))), (.d .nil)]), (.box [(.d (.lit (.int .i64 p0.Cap))), (.d .nil)]), (.arr 38 5 (List.length ([] : List GEvent)) (flatD enc_GEvent ([] : List GEvent)))], 0⟩ ?_
  refine Aob 2 1 38 5 ⟨(tp 1 ((.d (.lit (.int .i64 p1))) :: ((.loc 0 0) :: (tp 2 ((.loc 1 0) :: ((.own 3) :: ((.loc 2 0) :: ((.d (.lit (.int .i64 0))) :: (tp 38 []))))))))), [(.box [(.d (.lit (.int .i64 p0.Cap))), (.d (.sl (List.length p0.L) (flatD enc_GEvent p0.L)))]), (.box [(.d (.lit (.int .i64 0))), (.d .nil)]), (.box [(.d (.lit (.int .i64 p0.Cap))), (.own 4)]), (.arr 38 5 (List.length ([] : List GEvent)) (flatD enc_GEvent ([] : List GEvent))), (.arr 38 5 (List.length ([] : List GEvent)) (flatD enc_GEvent ([] : List GEvent)))], 0⟩ ?_
  refine AWP.loopI (α := Nat × (List GEvent) × (List GEvent) × Int)
    (fun x => match x with | (fu_0, y6_0, y7_d_1_0, y8_0) => (⟨(tp 1 ((.d (.lit (.int .i64 p1))) :: ((.loc 0 0) :: (tp 2 ((.loc 1 0) :: ((.own 2) :: ((.loc 3 0) :: ((.d (.lit (.int .i64 y8_0))) :: (tp 38 []))))))))), [(.box [(.d (.lit (.int .i64 p0.Cap))), (.d (.sl (List.length p0.L) (flatD enc_GEvent p0.L)))]), (.box [(.d (.lit (.int .i64 0))), (.d .nil)]), (.arr 38 5 (List.length y6_0) (flatD enc_GEvent y6_0)), (.box [(.d (.lit (.int .i64 p0.Cap))), (.own 4)]), (.arr 38 5 (List.length y7_d_1_0) (flatD enc_GEvent y7_d_1_0))], 0⟩ : St))
    (fun x => match x with | (fu_0, y6_0, y7_d_1_0, y8_0) => m_telltaleref24_Release_l0 p0 p1 fu_0 y6_0 y7_d_1_0 y8_0 = some r)
    (fun x => match x with | (fu_0, y6_0, y7_d_1_0, y8_0) => fu_0) (1152921504606846976, ([] : List GEvent), ([] : List GEvent), 0)
    (Weak.toK 486 0 0 [0, 1, 3, 2, 4]) hm ?_
  rintro ⟨fu_0, y6_0, y7_d_1_0, y8_0⟩ n_0 hm ih_0
  try dsimp only at hm ih_0 ⊢
  cases fu_0 with
  | zero => exact absurd hm (by unfold m_telltaleref24_Release_l0; simp)
  | succ fu_0 =>
    unfold m_telltaleref24_Release_l0 at hm
    refine AWP.seq ?_
    refine AWP.seq ?_
    refine AWP.text ?_
    refine Wy (.d (.lit (.int .i64 y8_0))) [] (Omv rfl) ?_
    refine Wy (.loc 0 1) [] (Ofa rfl) ?_
    refine Wy (.d (.sl (List.length p0.L) (flatD enc_GEvent p0.L))) [] (Old rfl) ?_
    refine Wy (.d (.lit (.int .i64 ((List.length p0.L : Nat) : Int)))) [] (Oln rfl) ?_
    refine Wy (.d (.lit (.bool (decide (y8_0 < ((List.length p0.L : Nat) : Int)))))) [] (Obn rfl (fun _ => hb_lss (k := .i64))) ?_
    refine Walk.nil ?_
    refine Then.normal ?_
    refine Amk 66022 31 ⟨(tp 1 ((.d (.lit (.int .i64 p1))) :: ((.loc 0 0) :: (tp 2 ((.loc 1 0) :: ((.own 2) :: ((.loc 3 0) :: ((.d (.lit (.int .i64 y8_0))) :: (tp 7 ((.d (.lit (.bool (decide (y8_0 < ((List.length p0.L : Nat) : Int)))))) :: (tp 30 []))))))))))), [(.box [(.d (.lit (.int .i64 p0.Cap))), (.d (.sl (List.length p0.L) (flatD enc_GEvent p0.L)))]), (.box [(.d (.lit (.int .i64 0))), (.d .nil)]), (.arr 38 5 (List.length y6_0) (flatD enc_GEvent y6_0)), (.box [(.d (.lit (.int .i64 p0.Cap))), (.own 4)]), (.arr 38 5 (List.length y7_d_1_0) (flatD enc_GEvent y7_d_1_0))], 0⟩ ?_
    rcases tf_ (decide (y8_0 < ((List.length p0.L : Nat) : Int))) with hc16_5 | hc16_5
    · replace hm := cT hc16_5 hm
      refine AWP.if_ true (Eq.trans (by kernel_rfl) (lit_tf (b := decide (y8_0 < ((List.length p0.L : Nat) : Int))) hc16_5)) ?_
      refine AWP.skip ?_
      refine Then.normal ?_
      refine Amk 486 31 ⟨(tp 1 ((.d (.lit (.int .i64 p1))) :: ((.loc 0 0) :: (tp 2 ((.loc 1 0) :: ((.own 2) :: ((.loc 3 0) :: ((.d (.lit (.int .i64 y8_0))) :: (tp 38 []))))))))), [(.box [(.d (.lit (.int .i64 p0.Cap))), (.d (.sl (List.length p0.L) (flatD enc_GEvent p0.L)))]), (.box [(.d (.lit (.int .i64 0))), (.d .nil)]), (.arr 38 5 (List.length y6_0) (flatD enc_GEvent y6_0)), (.box [(.d (.lit (.int .i64 p0.Cap))), (.own 4)]), (.arr 38 5 (List.length y7_d_1_0) (flatD enc_GEvent y7_d_1_0))], 0⟩ ?_
      refine AWP.seq ?_
      refine AWP.block ?_
      refine AWP.seq ?_
      refine AWP.text ?_
      refine Wy (.loc 0 1) [] (Ofa rfl) ?_
      refine Wy (.d (.sl (List.length p0.L) (flatD enc_GEvent p0.L))) [] (Old rfl) ?_
      refine Wy (.d (.lit (.int .i64 y8_0))) [] (Omv rfl) ?_
      obtain ⟨x22_2, hx22_2, hm⟩ := bnd hm
      obtain ⟨hx22_2i, hx22_2g⟩ := geti_some hx22_2
      refine Wy (.d (.ref (List.drop ((Int.toNat y8_0) * 5) (flatD enc_GEvent p0.L)))) [] (Oia rfl enc_GEvent_len hx22_2i hx22_2g) ?_
      refine Wy (.d (.ref (List.drop ((Int.toNat y8_0) * 5) (flatD enc_GEvent p0.L)))) [] (Ofa rfl) ?_
      refine Wy (.d (.lit (.int .i64 x22_2.Time))) [] (Lf1 rfl enc_GEvent_len hx22_2g) ?_
      refine Wy (.d (.lit (.int .i64 p1))) [] (Omv rfl) ?_
      refine Wy (.d (.lit (.bool (decide (x22_2.Time < p1))))) [] (Obn rfl (fun _ => hb_lss (k := .i64))) ?_
      refine Walk.nil ?_
      refine Then.normal ?_
      refine Amk 67109350 31 ⟨(tp 1 ((.d (.lit (.int .i64 p1))) :: ((.loc 0 0) :: (tp 2 ((.loc 1 0) :: ((.own 2) :: ((.loc 3 0) :: ((.d (.lit (.int .i64 y8_0))) :: (tp 17 ((.d (.lit (.bool (decide (x22_2.Time < p1))))) :: (tp 20 []))))))))))), [(.box [(.d (.lit (.int .i64 p0.Cap))), (.d (.sl (List.length p0.L) (flatD enc_GEvent p0.L)))]), (.box [(.d (.lit (.int .i64 0))), (.d .nil)]), (.arr 38 5 (List.length y6_0) (flatD enc_GEvent y6_0)), (.box [(.d (.lit (.int .i64 p0.Cap))), (.own 4)]), (.arr 38 5 (List.length y7_d_1_0) (flatD enc_GEvent y7_d_1_0))], 0⟩ ?_
      rcases tf_ (decide (x22_2.Time < p1)) with hc26_6 | hc26_6
      · replace hm := cT hc26_6 hm
        refine AWP.if_ true (Eq.trans (by kernel_rfl) (lit_tf (b := decide (x22_2.Time < p1)) hc26_6)) ?_
        refine AWP.text ?_
        refine Wy (.own 2) [] (Omv rfl) ?_
        refine Wy (.loc 0 1) [] (Ofa rfl) ?_
        refine Wy (.d (.sl (List.length p0.L) (flatD enc_GEvent p0.L))) [] (Old rfl) ?_
        refine Wy (.d (.lit (.int .i64 y8_0))) [] (Omv rfl) ?_
        obtain ⟨x31_3, hx31_3, hm⟩ := bnd hm
        obtain ⟨hx31_3i, hx31_3g⟩ := geti_some hx31_3
        refine Wy (.d (.ref (List.drop ((Int.toNat y8_0) * 5) (flatD enc_GEvent p0.L)))) [] (Oia rfl enc_GEvent_len hx31_3i hx31_3g) ?_
        refine Wy (.agg [(.d (.lit (.int .i64 x31_3.Time))), (.d (.lit (.int .i64 x31_3.Source))), (.d (.lit (.int .i64 x31_3.Seq))), (.d (.lit (.string (toS x31_3.Type_)))), (.d (.sl (List.length x31_3.Vals) (flatD enc_GValue x31_3.Vals)))]) [] (Lf rfl enc_GEvent_len hx31_3g) ?_
        refine Wy (.own 5) [(5, (.arr 38 5 (List.length ([x31_3] : List GEvent)) (flatD enc_GEvent ([x31_3] : List GEvent))))] (Obs rfl) ?_
        obtain ⟨a34_3, ha34_3, hm⟩ := bnd hm; obtain ⟨ha34_3e, ha34_3l⟩ := app_some ha34_3
        refine Wy (.own 6) [(2, .gone), (6, (.arr 38 5 (List.length a34_3) (flatD enc_GEvent a34_3)))] (Oap rfl elemOK_30 enc_GEvent_len ha34_3e ha34_3l) ?_
        refine Wy (.own 6) [] (Omv rfl) ?_
        refine Walk.nil ?_
        refine InBlock.normal ?_
        refine Then.normal ?_
        refine Amk 486 91 ⟨(tp 1 ((.d (.lit (.int .i64 p1))) :: ((.loc 0 0) :: (tp 2 ((.loc 1 0) :: ((.own 6) :: ((.loc 3 0) :: ((.d (.lit (.int .i64 y8_0))) :: (tp 38 []))))))))), [(.box [(.d (.lit (.int .i64 p0.Cap))), (.d (.sl (List.length p0.L) (flatD enc_GEvent p0.L)))]), (.box [(.d (.lit (.int .i64 0))), (.d .nil)]), .gone, (.box [(.d (.lit (.int .i64 p0.Cap))), (.own 4)]), (.arr 38 5 (List.length y7_d_1_0) (flatD enc_GEvent y7_d_1_0)), .gone, (.arr 38 5 (List.length a34_3) (flatD enc_GEvent a34_3))], 0⟩ ?_
        refine AWP.text ?_
        refine Wy (.d (.lit (.int .i64 y8_0))) [] (Omv rfl) ?_
        refine Wy (.d (.lit (.int .i64 (IntKind.i64.wrap (y8_0 + 1))))) [] (Obn rfl (fun _ => hb_add (k := .i64))) ?_
        refine Wy (.d (.lit (.int .i64 (IntKind.i64.wrap (y8_0 + 1))))) [] (Omv rfl) ?_
        refine Walk.nil ?_
        refine RoundK.normal ?_
        exact Rounds.weak (Weak.toK 486 0 0 [0, 1, 6, 3, 4]) (ih_0 (fu_0, a34_3, y7_d_1_0, (IntKind.i64.wrap (y8_0 + 1))) hm (Nat.lt_succ_self _))
      · replace hm := cF hc26_6 hm
        refine AWP.if_ false (Eq.trans (by kernel_rfl) (lit_tf (b := decide (x22_2.Time < p1)) hc26_6)) ?_
        refine Adr ?_
        refine Wy (.loc 3 1) [] (Ofa rfl) ?_
        refine Wy (.own 4) [] (Old rfl) ?_
        refine Wy (.loc 0 1) [] (Ofa rfl) ?_
        refine Wy (.d (.sl (List.length p0.L) (flatD enc_GEvent p0.L))) [] (Old rfl) ?_
        refine Wy (.d (.lit (.int .i64 y8_0))) [] (Omv rfl) ?_
        obtain ⟨x40_4, hx40_4, hm⟩ := bnd hm
        obtain ⟨hx40_4i, hx40_4g⟩ := geti_some hx40_4
        refine Wy (.d (.ref (List.drop ((Int.toNat y8_0) * 5) (flatD enc_GEvent p0.L)))) [] (Oia rfl enc_GEvent_len hx40_4i hx40_4g) ?_
        refine Wy (.agg [(.d (.lit (.int .i64 x40_4.Time))), (.d (.lit (.int .i64 x40_4.Source))), (.d (.lit (.int .i64 x40_4.Seq))), (.d (.lit (.string (toS x40_4.Type_)))), (.d (.sl (List.length x40_4.Vals) (flatD enc_GValue x40_4.Vals)))]) [] (Lf rfl enc_GEvent_len hx40_4g) ?_
        refine Wy (.own 5) [(5, (.arr 38 5 (List.length ([x40_4] : List GEvent)) (flatD enc_GEvent ([x40_4] : List GEvent))))] (Obs rfl) ?_
        obtain ⟨a43_4, ha43_4, hm⟩ := bnd hm; obtain ⟨ha43_4e, ha43_4l⟩ := app_some ha43_4
        refine Wy (.own 6) [(4, .gone), (6, (.arr 38 5 (List.length a43_4) (flatD enc_GEvent a43_4)))] (Oap rfl elemOK_30 enc_GEvent_len ha43_4e ha43_4l) ?_
        refine Wy (.loc 3 1) [] (Ofa rfl) ?_
        refine Wy (.tup []) [(3, (.box [(.d (.lit (.int .i64 p0.Cap))), (.own 6)]))] (Ost rfl) ?_
        refine Wdr ?_
        refine InBlock.normal ?_
        refine Then.normal ?_
        refine Amk 486 79 ⟨(tp 1 ((.d (.lit (.int .i64 p1))) :: ((.loc 0 0) :: (tp 2 ((.loc 1 0) :: ((.own 2) :: ((.loc 3 0) :: ((.d (.lit (.int .i64 y8_0))) :: (tp 38 []))))))))), [(.box [(.d (.lit (.int .i64 p0.Cap))), (.d (.sl (List.length p0.L) (flatD enc_GEvent p0.L)))]), (.box [(.d (.lit (.int .i64 0))), (.d .nil)]), (.arr 38 5 (List.length y6_0) (flatD enc_GEvent y6_0)), (.box [(.d (.lit (.int .i64 p0.Cap))), (.own 6)]), .gone, .gone, (.arr 38 5 (List.length a43_4) (flatD enc_GEvent a43_4))], 0⟩ ?_
        refine AWP.text ?_
        refine Wy (.d (.lit (.int .i64 y8_0))) [] (Omv rfl) ?_
        refine Wy (.d (.lit (.int .i64 (IntKind.i64.wrap (y8_0 + 1))))) [] (Obn rfl (fun _ => hb_add (k := .i64))) ?_
        refine Wy (.d (.lit (.int .i64 (IntKind.i64.wrap (y8_0 + 1))))) [] (Omv rfl) ?_
        refine Walk.nil ?_
        refine RoundK.normal ?_
        exact Rounds.weak (Weak.toK 486 0 0 [0, 1, 2, 3, 6]) (ih_0 (fu_0, y6_0, a43_4, (IntKind.i64.wrap (y8_0 + 1))) hm (Nat.lt_succ_self _))
    · replace hm := cF hc16_5 hm
      refine AWP.if_ false (Eq.trans (by kernel_rfl) (lit_tf (b := decide (y8_0 < ((List.length p0.L : Nat) : Int))) hc16_5)) ?_
      refine AWP.exit ?_
      refine Then.exit ?_
      refine RoundK.exit ?_
      refine InBlock.same ?_
      refine Then.normal ?_
      refine Amk 224 30 ⟨(tp 5 ((.loc 1 0) :: ((.own 2) :: ((.loc 3 0) :: (tp 39 []))))), [.gone, (.box [(.d (.lit (.int .i64 0))), (.d .nil)]), (.arr 38 5 (List.length y6_0) (flatD enc_GEvent y6_0)), (.box [(.d (.lit (.int .i64 p0.Cap))), (.own 4)]), (.arr 38 5 (List.length y7_d_1_0) (flatD enc_GEvent y7_d_1_0))], 0⟩ ?_
      refine AWP.seq ?_
      refine Adr ?_
      refine Wy (.own 2) [] (Omv rfl) ?_
      refine Wy (.agg [(.d (.lit (.int .i64 p0.Cap))), (.own 4)]) [] (Old rfl) ?_
      refine Wy (.own 2) [] (Omv rfl) ?_
      refine Wy (.tup []) [(1, (.box [(.d (.lit (.int .i64 p0.Cap))), (.own 4)]))] (Ost rfl) ?_
      refine Wdr ?_
      refine Then.normal ?_
      refine AWP.ret ?_
      obtain rfl := Option.some.inj hm
      exact ret_i [2, 4]

set_option maxRecDepth 20000 in
set_option maxHeartbeats 4000000 in
theorem ok_telltalelaw07_Back (p0 : GEvent) (r : GEvent) (h : m_telltalelaw07_Back p0 = some r) : GCall Try.prog 30 [(.agg [(.d (.lit (.int .i64 p0.Time))), (.d (.lit (.int .i64 p0.Source))), (.d (.lit (.int .i64 p0.Seq))), (.d (.lit (.string (toS p0.Type_)))), (.d (.sl (List.length p0.Vals) (flatD enc_GValue p0.Vals)))])] [] (.agg [(.d (.lit (.int .i64 r.Time))), (.d (.lit (.int .i64 r.Source))), (.d (.lit (.int .i64 r.Seq))), (.d (.lit (.string (toS r.Type_)))), (.own 0)]) [(.arr 73 4 (List.length r.Vals) (flatD enc_GValue r.Vals))] := by
  refine GCall.of_body (n := 32) (rs := [(.cell 2 38)]) Try.func30 rfl rfl rfl ?_
  refine Ato ⟨((.agg [(.d (.lit (.int .i64 p0.Time))), (.d (.lit (.int .i64 p0.Source))), (.d (.lit (.int .i64 p0.Seq))), (.d (.lit (.string (toS p0.Type_)))), (.d (.sl (List.length p0.Vals) (flatD enc_GValue p0.Vals)))]) :: (tu 31 [])), [], 0⟩ ?_
  have hm := h
  unfold m_telltalelaw07_Back at hm
  refine AWP.seq ?_
  refine AWP.text ?_
  refine Wy (.loc 0 0) [(0, (.box [(.d (.lit (.int .i64 p0.Time))), (.d (.lit (.int .i64 p0.Source))), (.d (.lit (.int .i64 p0.Seq))), (.d (.lit (.string (toS p0.Type_)))), (.d (.sl (List.length p0.Vals) (flatD enc_GValue p0.Vals)))]))] (Obx rfl) ?_
  refine Wy (.loc 1 0) [(1, (.box [(.d (.lit (.int .i64 0))), (.d (.lit (.int .i64 0))), (.d (.lit (.int .i64 0))), (.d (.lit (.string (toS ([] : List UInt8))))), (.d .nil)]))] (Oal rfl) ?_
  refine Walk.nil ?_
  refine Then.normal ?_
  refine Amk 6 3 ⟨(tp 1 ((.loc 0 0) :: ((.loc 1 0) :: (tp 29 [])))), [(.box [(.d (.lit (.int .i64 p0.Time))), (.d (.lit (.int .i64 p0.Source))), (.d (.lit (.int .i64 p0.Seq))), (.d (.lit (.string (toS p0.Type_)))), (.d (.sl (List.length p0.Vals) (flatD enc_GValue p0.Vals)))]), (.box [(.d (.lit (.int .i64 0))), (.d (.lit (.int .i64 0))), (.d (.lit (.int .i64 0))), (.d (.lit (.string (toS ([] : List UInt8))))), (.d .nil)])], 0⟩ ?_
  refine AWP.seq ?_
  refine AWP.text ?_
  refine Wy (.loc 0 0) [] (Ofa rfl) ?_
  refine Wy (.d (.lit (.int .i64 p0.Time))) [] (Old rfl) ?_
  refine Wy (.loc 0 1) [] (Ofa rfl) ?_
  refine Wy (.d (.lit (.int .i64 p0.Source))) [] (Old rfl) ?_
  refine Wy (.loc 0 2) [] (Ofa rfl) ?_
  refine Wy (.d (.lit (.int .i64 p0.Seq))) [] (Old rfl) ?_
  refine Wy (.loc 0 3) [] (Ofa rfl) ?_
  refine Wy (.d (.lit (.string (toS p0.Type_)))) [] (Old rfl) ?_
  refine Wy (.agg [(.d (.lit (.int .i64 p0.Time))), (.d (.lit (.int .i64 p0.Source))), (.d (.lit (.int .i64 p0.Seq))), (.d (.lit (.string (toS p0.Type_)))), (.d .nil)]) [] (Obd rfl) ?_
  refine Wy (.loc 2 0) [(2, (.box [(.d (.lit (.int .i64 0))), (.d (.lit (.int .i64 0))), (.d (.lit (.int .i64 0))), (.d (.lit (.string (toS ([] : List UInt8))))), (.d .nil)]))] (Oal rfl) ?_
  refine Wy (.tup []) [(2, (.box [(.d (.lit (.int .i64 p0.Time))), (.d (.lit (.int .i64 p0.Source))), (.d (.lit (.int .i64 p0.Seq))), (.d (.lit (.string (toS p0.Type_)))), (.d .nil)]))] (Ost rfl) ?_
  refine Walk.nil ?_
  refine Then.normal ?_
  refine Amk 14 7 ⟨(tp 1 ((.loc 0 0) :: ((.loc 1 0) :: ((.loc 2 0) :: (tp 28 []))))), [(.box [(.d (.lit (.int .i64 p0.Time))), (.d (.lit (.int .i64 p0.Source))), (.d (.lit (.int .i64 p0.Seq))), (.d (.lit (.string (toS p0.Type_)))), (.d (.sl (List.length p0.Vals) (flatD enc_GValue p0.Vals)))]), (.box [(.d (.lit (.int .i64 0))), (.d (.lit (.int .i64 0))), (.d (.lit (.int .i64 0))), (.d (.lit (.string (toS ([] : List UInt8))))), (.d .nil)]), (.box [(.d (.lit (.int .i64 p0.Time))), (.d (.lit (.int .i64 p0.Source))), (.d (.lit (.int .i64 p0.Seq))), (.d (.lit (.string (toS p0.Type_)))), (.d .nil)])], 0⟩ ?_
  refine AWP.seq ?_
  refine AWP.seq ?_
  refine AWP.text ?_
  refine Wy (.d (.lit (.int .i64 0))) [] (Omv rfl) ?_
  refine Walk.nil ?_
  refine Then.normal ?_
  refine Amk 30 7 ⟨(tp 1 ((.loc 0 0) :: ((.loc 1 0) :: ((.loc 2 0) :: ((.d (.lit (.int .i64 0))) :: (tp 27 [])))))), [(.box [(.d (.lit (.int .i64 p0.Time))), (.d (.lit (.int .i64 p0.Source))), (.d (.lit (.int .i64 p0.Seq))), (.d (.lit (.string (toS p0.Type_)))), (.d (.sl (List.length p0.Vals) (flatD enc_GValue p0.Vals)))]), (.box [(.d (.lit (.int .i64 0))), (.d (.lit (.int .i64 0))), (.d (.lit (.int .i64 0))), (.d (.lit (.string (toS ([] : List UInt8))))), (.d .nil)]), (.box [(.d (.lit (.int .i64 p0.Time))), (.d (.lit (.int .i64 p0.Source))), (.d (.lit (.int .i64 p0.Seq))), (.d (.lit (.string (toS p0.Type_)))), (.d .nil)])], 0⟩ ?_
  refine AWP.block ?_
  refine Aob 2 4 73 4 ⟨(tp 1 ((.loc 0 0) :: ((.loc 1 0) :: ((.loc 2 0) :: ((.d (.lit (.int .i64 0))) :: (tp 27 [])))))), [(.box [(.d (.lit (.int .i64 p0.Time))), (.d (.lit (.int .i64 p0.Source))), (.d (.lit (.int .i64 p0.Seq))), (.d (.lit (.string (toS p0.Type_)))), (.d (.sl (List.length p0.Vals) (flatD enc_GValue p0.Vals)))]), (.box [(.d (.lit (.int .i64 0))), (.d (.lit (.int .i64 0))), (.d (.lit (.int .i64 0))), (.d (.lit (.string (toS ([] : List UInt8))))), (.d .nil)]), (.box [(.d (.lit (.int .i64 p0.Time))), (.d (.lit (.int .i64 p0.Source))), (.d (.lit (.int .i64 p0.Seq))), (.d (.lit (.string (toS p0.Type_)))), (.own 3)]), (.arr 73 4 (List.length ([] : List GValue)) (flatD enc_GValue ([] : List GValue)))], 0⟩ ?_
  refine AWP.loopI (α := Nat × (List GValue) × Int)
    (fun x => match x with | (fu_0, y3_d_4_0, y4_0) => (⟨(tp 1 ((.loc 0 0) :: ((.loc 1 0) :: ((.loc 2 0) :: ((.d (.lit (.int .i64 y4_0))) :: (tp 27 [])))))), [(.box [(.d (.lit (.int .i64 p0.Time))), (.d (.lit (.int .i64 p0.Source))), (.d (.lit (.int .i64 p0.Seq))), (.d (.lit (.string (toS p0.Type_)))), (.d (.sl (List.length p0.Vals) (flatD enc_GValue p0.Vals)))]), (.box [(.d (.lit (.int .i64 0))), (.d (.lit (.int .i64 0))), (.d (.lit (.int .i64 0))), (.d (.lit (.string (toS ([] : List UInt8))))), (.d .nil)]), (.box [(.d (.lit (.int .i64 p0.Time))), (.d (.lit (.int .i64 p0.Source))), (.d (.lit (.int .i64 p0.Seq))), (.d (.lit (.string (toS p0.Type_)))), (.own 3)]), (.arr 73 4 (List.length y3_d_4_0) (flatD enc_GValue y3_d_4_0))], 0⟩ : St))
    (fun x => match x with | (fu_0, y3_d_4_0, y4_0) => m_telltalelaw07_Back_l0 p0 fu_0 y3_d_4_0 y4_0 = some r)
    (fun x => match x with | (fu_0, y3_d_4_0, y4_0) => fu_0) (1152921504606846976, ([] : List GValue), 0)
    (Weak.toK 30 0 0 [0, 1, 2, 3]) hm ?_
  rintro ⟨fu_0, y3_d_4_0, y4_0⟩ n_0 hm ih_0
  try dsimp only at hm ih_0 ⊢
  cases fu_0 with
  | zero => exact absurd hm (by unfold m_telltalelaw07_Back_l0; simp)
  | succ fu_0 =>
    unfold m_telltalelaw07_Back_l0 at hm
    refine AWP.seq ?_
    refine AWP.seq ?_
    refine AWP.text ?_
    refine Wy (.d (.lit (.int .i64 y4_0))) [] (Omv rfl) ?_
    refine Wy (.loc 0 4) [] (Ofa rfl) ?_
    refine Wy (.d (.sl (List.length p0.Vals) (flatD enc_GValue p0.Vals))) [] (Old rfl) ?_
    refine Wy (.d (.lit (.int .i64 ((List.length p0.Vals : Nat) : Int)))) [] (Oln rfl) ?_
    refine Wy (.d (.lit (.bool (decide (y4_0 < ((List.length p0.Vals : Nat) : Int)))))) [] (Obn rfl (fun _ => hb_lss (k := .i64))) ?_
    refine Walk.nil ?_
    refine Then.normal ?_
    refine Amk 262174 15 ⟨(tp 1 ((.loc 0 0) :: ((.loc 1 0) :: ((.loc 2 0) :: ((.d (.lit (.int .i64 y4_0))) :: (tp 13 ((.d (.lit (.bool (decide (y4_0 < ((List.length p0.Vals : Nat) : Int)))))) :: (tp 13 [])))))))), [(.box [(.d (.lit (.int .i64 p0.Time))), (.d (.lit (.int .i64 p0.Source))), (.d (.lit (.int .i64 p0.Seq))), (.d (.lit (.string (toS p0.Type_)))), (.d (.sl (List.length p0.Vals) (flatD enc_GValue p0.Vals)))]), (.box [(.d (.lit (.int .i64 0))), (.d (.lit (.int .i64 0))), (.d (.lit (.int .i64 0))), (.d (.lit (.string (toS ([] : List UInt8))))), (.d .nil)]), (.box [(.d (.lit (.int .i64 p0.Time))), (.d (.lit (.int .i64 p0.Source))), (.d (.lit (.int .i64 p0.Seq))), (.d (.lit (.string (toS p0.Type_)))), (.own 3)]), (.arr 73 4 (List.length y3_d_4_0) (flatD enc_GValue y3_d_4_0))], 0⟩ ?_
    rcases tf_ (decide (y4_0 < ((List.length p0.Vals : Nat) : Int))) with hc18_3 | hc18_3
    · replace hm := cT hc18_3 hm
      refine AWP.if_ true (Eq.trans (by kernel_rfl) (lit_tf (b := decide (y4_0 < ((List.length p0.Vals : Nat) : Int))) hc18_3)) ?_
      refine AWP.skip ?_
      refine Then.normal ?_
      refine Amk 30 15 ⟨(tp 1 ((.loc 0 0) :: ((.loc 1 0) :: ((.loc 2 0) :: ((.d (.lit (.int .i64 y4_0))) :: (tp 27 [])))))), [(.box [(.d (.lit (.int .i64 p0.Time))), (.d (.lit (.int .i64 p0.Source))), (.d (.lit (.int .i64 p0.Seq))), (.d (.lit (.string (toS p0.Type_)))), (.d (.sl (List.length p0.Vals) (flatD enc_GValue p0.Vals)))]), (.box [(.d (.lit (.int .i64 0))), (.d (.lit (.int .i64 0))), (.d (.lit (.int .i64 0))), (.d (.lit (.string (toS ([] : List UInt8))))), (.d .nil)]), (.box [(.d (.lit (.int .i64 p0.Time))), (.d (.lit (.int .i64 p0.Source))), (.d (.lit (.int .i64 p0.Seq))), (.d (.lit (.string (toS p0.Type_)))), (.own 3)]), (.arr 73 4 (List.length y3_d_4_0) (flatD enc_GValue y3_d_4_0))], 0⟩ ?_
      refine AWP.seq ?_
      refine AWP.block ?_
      refine Adr ?_
      refine Wy (.loc 2 4) [] (Ofa rfl) ?_
      refine Wy (.own 3) [] (Old rfl) ?_
      refine Wy (.loc 0 4) [] (Ofa rfl) ?_
      refine Wy (.d (.sl (List.length p0.Vals) (flatD enc_GValue p0.Vals))) [] (Old rfl) ?_
      refine Wy (.d (.lit (.int .i64 y4_0))) [] (Omv rfl) ?_
      obtain ⟨x26_2, hx26_2, hm⟩ := bnd hm
      obtain ⟨hx26_2i, hx26_2g⟩ := geti_some hx26_2
      refine Wy (.d (.ref (List.drop ((Int.toNat y4_0) * 4) (flatD enc_GValue p0.Vals)))) [] (Oia rfl enc_GValue_len hx26_2i hx26_2g) ?_
      refine Wy (.agg [(.d (byteD x26_2.Kind)), (.d (.lit (.int .i64 x26_2.N))), (.d (.lit (.int .u64 x26_2.Bits))), (.d (.lit (.string (toS x26_2.Text))))]) [] (Lf rfl enc_GValue_len hx26_2g) ?_
      refine Wy (.own 4) [(4, (.arr 73 4 (List.length ([x26_2] : List GValue)) (flatD enc_GValue ([x26_2] : List GValue))))] (Obs rfl) ?_
      obtain ⟨a29_2, ha29_2, hm⟩ := bnd hm; obtain ⟨ha29_2e, ha29_2l⟩ := app_some ha29_2
      refine Wy (.own 5) [(3, .gone), (5, (.arr 73 4 (List.length a29_2) (flatD enc_GValue a29_2)))] (Oap rfl elemOK_36 enc_GValue_len ha29_2e ha29_2l) ?_
      refine Wy (.loc 2 4) [] (Ofa rfl) ?_
      refine Wy (.tup []) [(2, (.box [(.d (.lit (.int .i64 p0.Time))), (.d (.lit (.int .i64 p0.Source))), (.d (.lit (.int .i64 p0.Seq))), (.d (.lit (.string (toS p0.Type_)))), (.own 5)]))] (Ost rfl) ?_
      refine Wdr ?_
      refine InBlock.normal ?_
      refine Then.normal ?_
      refine Amk 30 39 ⟨(tp 1 ((.loc 0 0) :: ((.loc 1 0) :: ((.loc 2 0) :: ((.d (.lit (.int .i64 y4_0))) :: (tp 27 [])))))), [(.box [(.d (.lit (.int .i64 p0.Time))), (.d (.lit (.int .i64 p0.Source))), (.d (.lit (.int .i64 p0.Seq))), (.d (.lit (.string (toS p0.Type_)))), (.d (.sl (List.length p0.Vals) (flatD enc_GValue p0.Vals)))]), (.box [(.d (.lit (.int .i64 0))), (.d (.lit (.int .i64 0))), (.d (.lit (.int .i64 0))), (.d (.lit (.string (toS ([] : List UInt8))))), (.d .nil)]), (.box [(.d (.lit (.int .i64 p0.Time))), (.d (.lit (.int .i64 p0.Source))), (.d (.lit (.int .i64 p0.Seq))), (.d (.lit (.string (toS p0.Type_)))), (.own 5)]), .gone, .gone, (.arr 73 4 (List.length a29_2) (flatD enc_GValue a29_2))], 0⟩ ?_
      refine AWP.text ?_
      refine Wy (.d (.lit (.int .i64 y4_0))) [] (Omv rfl) ?_
      refine Wy (.d (.lit (.int .i64 (IntKind.i64.wrap (y4_0 + 1))))) [] (Obn rfl (fun _ => hb_add (k := .i64))) ?_
      refine Wy (.d (.lit (.int .i64 (IntKind.i64.wrap (y4_0 + 1))))) [] (Omv rfl) ?_
      refine Walk.nil ?_
      refine RoundK.normal ?_
      exact Rounds.weak (Weak.toK 30 0 0 [0, 1, 2, 5]) (ih_0 (fu_0, a29_2, (IntKind.i64.wrap (y4_0 + 1))) hm (Nat.lt_succ_self _))
    · replace hm := cF hc18_3 hm
      refine AWP.if_ false (Eq.trans (by kernel_rfl) (lit_tf (b := decide (y4_0 < ((List.length p0.Vals : Nat) : Int))) hc18_3)) ?_
      refine AWP.exit ?_
      refine Then.exit ?_
      refine RoundK.exit ?_
      refine InBlock.same ?_
      refine Then.normal ?_
      refine Amk 12 14 ⟨(tp 2 ((.loc 1 0) :: ((.loc 2 0) :: (tp 28 [])))), [.gone, (.box [(.d (.lit (.int .i64 0))), (.d (.lit (.int .i64 0))), (.d (.lit (.int .i64 0))), (.d (.lit (.string (toS ([] : List UInt8))))), (.d .nil)]), (.box [(.d (.lit (.int .i64 p0.Time))), (.d (.lit (.int .i64 p0.Source))), (.d (.lit (.int .i64 p0.Seq))), (.d (.lit (.string (toS p0.Type_)))), (.own 3)]), (.arr 73 4 (List.length y3_d_4_0) (flatD enc_GValue y3_d_4_0))], 0⟩ ?_
      refine AWP.seq ?_
      refine AWP.text ?_
      refine Wy (.agg [(.d (.lit (.int .i64 p0.Time))), (.d (.lit (.int .i64 p0.Source))), (.d (.lit (.int .i64 p0.Seq))), (.d (.lit (.string (toS p0.Type_)))), (.own 3)]) [] (Old rfl) ?_
      refine Wy (.tup []) [(1, (.box [(.d (.lit (.int .i64 p0.Time))), (.d (.lit (.int .i64 p0.Source))), (.d (.lit (.int .i64 p0.Seq))), (.d (.lit (.string (toS p0.Type_)))), (.own 3)]))] (Ost rfl) ?_
      refine Walk.nil ?_
      refine Then.normal ?_
      refine AWP.ret ?_
      obtain rfl := Option.some.inj hm
      exact ret_i [3]

set_option maxRecDepth 20000 in
set_option maxHeartbeats 4000000 in
theorem ok_telltalelaw07_BackAll (p0 : (List GEvent)) (r : (List GEvent)) (h : m_telltalelaw07_BackAll p0 = some r) : GCall Try.prog 14 [(.d (.sl (List.length p0) (flatD enc_GEvent p0)))] [] (.own 0) [(.arr 38 5 (List.length r) (flatD enc_GEvent r))] := by
  refine GCall.of_body (n := 20) (rs := [(.tmp 2)]) Try.func14 rfl rfl rfl ?_
  refine Ato ⟨((.d (.sl (List.length p0) (flatD enc_GEvent p0))) :: (tu 19 [])), [], 0⟩ ?_
  have hm := h
  unfold m_telltalelaw07_BackAll at hm
  refine AWP.seq ?_
  refine AWP.text ?_
  refine Wy (.d .nil) [] (Omv rfl) ?_
  refine Walk.nil ?_
  refine Then.normal ?_
  refine Amk 1 0 ⟨((.d (.sl (List.length p0) (flatD enc_GEvent p0))) :: (tp 19 [])), [], 0⟩ ?_
  refine AWP.seq ?_
  refine AWP.text ?_
  refine Wy (.d .nil) [] (Omv rfl) ?_
  refine Walk.nil ?_
  refine Then.normal ?_
  refine Amk 9 0 ⟨((.d (.sl (List.length p0) (flatD enc_GEvent p0))) :: (tp 2 ((.d .nil) :: (tp 16 [])))), [], 0⟩ ?_
  refine AWP.seq ?_
  refine AWP.seq ?_
  refine AWP.text ?_
  refine Wy (.d (.lit (.int .i64 0))) [] (Omv rfl) ?_
  refine Walk.nil ?_
  refine Then.normal ?_
  refine Amk 25 0 ⟨((.d (.sl (List.length p0) (flatD enc_GEvent p0))) :: (tp 2 ((.d .nil) :: ((.d (.lit (.int .i64 0))) :: (tp 15 []))))), [], 0⟩ ?_
  refine AWP.block ?_
  refine Aow 3 38 5 ⟨((.d (.sl (List.length p0) (flatD enc_GEvent p0))) :: (tp 2 ((.own 0) :: ((.d (.lit (.int .i64 0))) :: (tp 15 []))))), [(.arr 38 5 (List.length ([] : List GEvent)) (flatD enc_GEvent ([] : List GEvent)))], 0⟩ ?_
  refine AWP.loopI (α := Nat × (List GEvent) × Int)
    (fun x => match x with | (fu_0, y3_0, y4_0) => (⟨((.d (.sl (List.length p0) (flatD enc_GEvent p0))) :: (tp 2 ((.own 0) :: ((.d (.lit (.int .i64 y4_0))) :: (tp 15 []))))), [(.arr 38 5 (List.length y3_0) (flatD enc_GEvent y3_0))], 0⟩ : St))
    (fun x => match x with | (fu_0, y3_0, y4_0) => m_telltalelaw07_BackAll_l0 p0 fu_0 y3_0 y4_0 = some r)
    (fun x => match x with | (fu_0, y3_0, y4_0) => fu_0) (1152921504606846976, ([] : List GEvent), 0)
    (Weak.toK 25 0 0 [0]) hm ?_
  rintro ⟨fu_0, y3_0, y4_0⟩ n_0 hm ih_0
  try dsimp only at hm ih_0 ⊢
  cases fu_0 with
  | zero => exact absurd hm (by unfold m_telltalelaw07_BackAll_l0; simp)
  | succ fu_0 =>
    unfold m_telltalelaw07_BackAll_l0 at hm
    refine AWP.seq ?_
    refine AWP.seq ?_
    refine AWP.text ?_
    refine Wy (.d (.lit (.int .i64 y4_0))) [] (Omv rfl) ?_
    refine Wy (.d (.sl (List.length p0) (flatD enc_GEvent p0))) [] (Omv rfl) ?_
    refine Wy (.d (.lit (.int .i64 ((List.length p0 : Nat) : Int)))) [] (Oln rfl) ?_
    refine Wy (.d (.lit (.bool (decide (y4_0 < ((List.length p0 : Nat) : Int)))))) [] (Obn rfl (fun _ => hb_lss (k := .i64))) ?_
    refine Walk.nil ?_
    refine Then.normal ?_
    refine Amk 281 1 ⟨((.d (.sl (List.length p0) (flatD enc_GEvent p0))) :: (tp 2 ((.own 0) :: ((.d (.lit (.int .i64 y4_0))) :: (tp 3 ((.d (.lit (.bool (decide (y4_0 < ((List.length p0 : Nat) : Int)))))) :: (tp 11 []))))))), [(.arr 38 5 (List.length y3_0) (flatD enc_GEvent y3_0))], 0⟩ ?_
    rcases tf_ (decide (y4_0 < ((List.length p0 : Nat) : Int))) with hc8_3 | hc8_3
    · replace hm := cT hc8_3 hm
      refine AWP.if_ true (Eq.trans (by kernel_rfl) (lit_tf (b := decide (y4_0 < ((List.length p0 : Nat) : Int))) hc8_3)) ?_
      refine AWP.skip ?_
      refine Then.normal ?_
      refine Amk 25 1 ⟨((.d (.sl (List.length p0) (flatD enc_GEvent p0))) :: (tp 2 ((.own 0) :: ((.d (.lit (.int .i64 y4_0))) :: (tp 15 []))))), [(.arr 38 5 (List.length y3_0) (flatD enc_GEvent y3_0))], 0⟩ ?_
      refine AWP.seq ?_
      refine AWP.block ?_
      refine AWP.text ?_
      refine Wy (.own 0) [] (Omv rfl) ?_
      refine Wy (.d (.sl (List.length p0) (flatD enc_GEvent p0))) [] (Omv rfl) ?_
      refine Wy (.d (.lit (.int .i64 y4_0))) [] (Omv rfl) ?_
      obtain ⟨x14_2, hx14_2, hm⟩ := bnd hm
      obtain ⟨hx14_2i, hx14_2g⟩ := geti_some hx14_2
      refine Wy (.d (.ref (List.drop ((Int.toNat y4_0) * 5) (flatD enc_GEvent p0)))) [] (Oia rfl enc_GEvent_len hx14_2i hx14_2g) ?_
      refine Wy (.agg [(.d (.lit (.int .i64 x14_2.Time))), (.d (.lit (.int .i64 x14_2.Source))), (.d (.lit (.int .i64 x14_2.Seq))), (.d (.lit (.string (toS x14_2.Type_)))), (.d (.sl (List.length x14_2.Vals) (flatD enc_GValue x14_2.Vals)))]) [] (Lf rfl enc_GEvent_len hx14_2g) ?_
      obtain ⟨r16_2, hr16_2, hm⟩ := bnd hm
      refine Wy (.agg [(.d (.lit (.int .i64 r16_2.Time))), (.d (.lit (.int .i64 r16_2.Source))), (.d (.lit (.int .i64 r16_2.Seq))), (.d (.lit (.string (toS r16_2.Type_)))), (.d (.sl (List.length r16_2.Vals) (flatD enc_GValue r16_2.Vals)))]) [(1, (.arr 73 4 (List.length r16_2.Vals) (flatD enc_GValue r16_2.Vals))), (1, (.fro 73 4 (List.length r16_2.Vals) (flatD enc_GValue r16_2.Vals)))] (Ofz [1] (.agg [(.d (.lit (.int .i64 r16_2.Time))), (.d (.lit (.int .i64 r16_2.Source))), (.d (.lit (.int .i64 r16_2.Seq))), (.d (.lit (.string (toS r16_2.Type_)))), (.own 1)]) [(1, (.arr 73 4 (List.length r16_2.Vals) (flatD enc_GValue r16_2.Vals)))] (Ocf [] [1] [] 0 (ok_telltalelaw07_Back x14_2 r16_2 hr16_2) (fun a w => Try.call30 a w) rfl trivial)) ?_
      refine Wy (.own 2) [(2, (.arr 38 5 (List.length ([r16_2] : List GEvent)) (flatD enc_GEvent ([r16_2] : List GEvent))))] (Obs rfl) ?_
      obtain ⟨a18_2, ha18_2, hm⟩ := bnd hm; obtain ⟨ha18_2e, ha18_2l⟩ := app_some ha18_2
      refine Wy (.own 3) [(0, .gone), (3, (.arr 38 5 (List.length a18_2) (flatD enc_GEvent a18_2)))] (Oap rfl elemOK_30 enc_GEvent_len ha18_2e ha18_2l) ?_
      refine Wy (.own 3) [] (Omv rfl) ?_
      refine Walk.nil ?_
      refine InBlock.normal ?_
      refine Then.normal ?_
      refine Amk 25 8 ⟨((.d (.sl (List.length p0) (flatD enc_GEvent p0))) :: (tp 2 ((.own 3) :: ((.d (.lit (.int .i64 y4_0))) :: (tp 15 []))))), [.gone, .gone, .gone, (.arr 38 5 (List.length a18_2) (flatD enc_GEvent a18_2))], 0⟩ ?_
      refine AWP.text ?_
      refine Wy (.d (.lit (.int .i64 y4_0))) [] (Omv rfl) ?_
      refine Wy (.d (.lit (.int .i64 (IntKind.i64.wrap (y4_0 + 1))))) [] (Obn rfl (fun _ => hb_add (k := .i64))) ?_
      refine Wy (.d (.lit (.int .i64 (IntKind.i64.wrap (y4_0 + 1))))) [] (Omv rfl) ?_
      refine Walk.nil ?_
      refine RoundK.normal ?_
      exact Rounds.weak (Weak.toK 25 0 0 [3]) (ih_0 (fu_0, a18_2, (IntKind.i64.wrap (y4_0 + 1))) hm (Nat.lt_succ_self _))
    · replace hm := cF hc8_3 hm
      refine AWP.if_ false (Eq.trans (by kernel_rfl) (lit_tf (b := decide (y4_0 < ((List.length p0 : Nat) : Int))) hc8_3)) ?_
      refine AWP.exit ?_
      refine Then.exit ?_
      refine RoundK.exit ?_
      refine InBlock.same ?_
      refine Then.normal ?_
      refine Amk 8 1 ⟨(tp 3 ((.own 0) :: (tp 16 []))), [(.arr 38 5 (List.length y3_0) (flatD enc_GEvent y3_0))], 0⟩ ?_
      refine AWP.seq ?_
      refine AWP.text ?_
      refine Wy (.own 0) [] (Omv rfl) ?_
      refine Wy (.own 0) [] (Omv rfl) ?_
      refine Walk.nil ?_
      refine Then.normal ?_
      refine AWP.ret ?_
      obtain rfl := Option.some.inj hm
      exact ret_i [0]

set_option maxRecDepth 20000 in
set_option maxHeartbeats 4000000 in
theorem ok_telltaleref07_Same (p0 : GEvent) (p1 : GEvent) (r : Bool) (h : m_telltaleref07_Same p0 p1 = some r) : GCall Try.prog 29 [(.agg [(.d (.lit (.int .i64 p0.Time))), (.d (.lit (.int .i64 p0.Source))), (.d (.lit (.int .i64 p0.Seq))), (.d (.lit (.string (toS p0.Type_)))), (.d (.sl (List.length p0.Vals) (flatD enc_GValue p0.Vals)))]), (.agg [(.d (.lit (.int .i64 p1.Time))), (.d (.lit (.int .i64 p1.Source))), (.d (.lit (.int .i64 p1.Seq))), (.d (.lit (.string (toS p1.Type_)))), (.d (.sl (List.length p1.Vals) (flatD enc_GValue p1.Vals)))])] [] (.d (.lit (.bool r))) [] := by
  refine GCall.of_body (n := 59) (rs := [(.tmp 4)]) Try.func29 rfl rfl rfl ?_
  refine Ato ⟨((.agg [(.d (.lit (.int .i64 p0.Time))), (.d (.lit (.int .i64 p0.Source))), (.d (.lit (.int .i64 p0.Seq))), (.d (.lit (.string (toS p0.Type_)))), (.d (.sl (List.length p0.Vals) (flatD enc_GValue p0.Vals)))]) :: ((.agg [(.d (.lit (.int .i64 p1.Time))), (.d (.lit (.int .i64 p1.Source))), (.d (.lit (.int .i64 p1.Seq))), (.d (.lit (.string (toS p1.Type_)))), (.d (.sl (List.length p1.Vals) (flatD enc_GValue p1.Vals)))]) :: (tu 57 []))), [], 0⟩ ?_
  have hm := h
  unfold m_telltaleref07_Same at hm
  refine AWP.seq ?_
  refine AWP.text ?_
  refine Wy (.loc 0 0) [(0, (.box [(.d (.lit (.int .i64 p0.Time))), (.d (.lit (.int .i64 p0.Source))), (.d (.lit (.int .i64 p0.Seq))), (.d (.lit (.string (toS p0.Type_)))), (.d (.sl (List.length p0.Vals) (flatD enc_GValue p0.Vals)))]))] (Obx rfl) ?_
  refine Wy (.loc 1 0) [(1, (.box [(.d (.lit (.int .i64 p1.Time))), (.d (.lit (.int .i64 p1.Source))), (.d (.lit (.int .i64 p1.Seq))), (.d (.lit (.string (toS p1.Type_)))), (.d (.sl (List.length p1.Vals) (flatD enc_GValue p1.Vals)))]))] (Obx rfl) ?_
  refine Wy (.d (.lit (.bool false))) [] (Omv rfl) ?_
  refine Walk.nil ?_
  refine Then.normal ?_
  refine Amk 12 3 ⟨(tp 2 ((.loc 0 0) :: ((.loc 1 0) :: (tp 55 [])))), [(.box [(.d (.lit (.int .i64 p0.Time))), (.d (.lit (.int .i64 p0.Source))), (.d (.lit (.int .i64 p0.Seq))), (.d (.lit (.string (toS p0.Type_)))), (.d (.sl (List.length p0.Vals) (flatD enc_GValue p0.Vals)))]), (.box [(.d (.lit (.int .i64 p1.Time))), (.d (.lit (.int .i64 p1.Source))), (.d (.lit (.int .i64 p1.Seq))), (.d (.lit (.string (toS p1.Type_)))), (.d (.sl (List.length p1.Vals) (flatD enc_GValue p1.Vals)))])], 0⟩ ?_
  refine AWP.seq ?_
  refine AWP.cutJ (α := Unit) (fun x => match x with | () => (⟨(tp 2 ((.loc 0 0) :: ((.loc 1 0) :: (tp 36 ((.d (.lit (.bool true))) :: (tp 18 [])))))), [(.box [(.d (.lit (.int .i64 p0.Time))), (.d (.lit (.int .i64 p0.Source))), (.d (.lit (.int .i64 p0.Seq))), (.d (.lit (.string (toS p0.Type_)))), (.d (.sl (List.length p0.Vals) (flatD enc_GValue p0.Vals)))]), (.box [(.d (.lit (.int .i64 p1.Time))), (.d (.lit (.int .i64 p1.Source))), (.d (.lit (.int .i64 p1.Seq))), (.d (.lit (.string (toS p1.Type_)))), (.d (.sl (List.length p1.Vals) (flatD enc_GValue p1.Vals)))])], 0⟩ : St)) (fun x => match x with | () => m_telltaleref07_Same_j1  = some r) ?_ (fun J1 => ?_)
  · rintro ⟨⟩ hm
    try dsimp only at hm ⊢
    unfold m_telltaleref07_Same_j1 at hm
    refine AWP.if_ true (by kernel_rfl) ?_
    refine AWP.seq ?_
    refine AWP.text ?_
    refine Wy (.d (.lit (.bool false))) [] (Omv rfl) ?_
    refine Walk.nil ?_
    refine Then.normal ?_
    refine AWP.ret ?_
    refine Then.ret ?_
    obtain rfl := Option.some.inj hm
    exact ret_i []
  refine AWP.seq ?_
  refine AWP.text ?_
  refine Wy (.loc 0 0) [] (Ofa rfl) ?_
  refine Wy (.d (.lit (.int .i64 p0.Time))) [] (Old rfl) ?_
  refine Wy (.loc 1 0) [] (Ofa rfl) ?_
  refine Wy (.d (.lit (.int .i64 p1.Time))) [] (Old rfl) ?_
  refine Wy (.d (.lit (.bool (decide (p0.Time ≠ p1.Time))))) [] (Obn rfl (fun _ => hb_neq (k := .i64))) ?_
  rcases tf_ (decide (p0.Time ≠ p1.Time)) with hq11_0 | hq11_0
  · replace hm := cT hq11_0 hm
    refine Wy (.d (.lit (.bool true))) [] (Ocs (lit_tf (b := decide (p0.Time ≠ p1.Time)) hq11_0) (Omv rfl)) ?_
    refine Wn ?_
    refine Wn ?_
    refine Wn ?_
    refine Wn ?_
    refine Wn ?_
    refine Wy (.d (.lit (.bool true))) [] (OpT rfl) ?_
    refine Wy (.d (.lit (.bool true))) [] (Omv rfl) ?_
    refine Wn ?_
    refine Wn ?_
    refine Wn ?_
    refine Wn ?_
    refine Wn ?_
    refine Wy (.d (.lit (.bool true))) [] (OpT rfl) ?_
    refine Wy (.d (.lit (.bool true))) [] (Omv rfl) ?_
    refine Wn ?_
    refine Wn ?_
    refine Wn ?_
    refine Wn ?_
    refine Wn ?_
    refine Wy (.d (.lit (.bool true))) [] (OpT rfl) ?_
    refine Wy (.d (.lit (.bool true))) [] (Omv rfl) ?_
    refine Wn ?_
    refine Wn ?_
    refine Wn ?_
    refine Wn ?_
    refine Wn ?_
    refine Wn ?_
    refine Wn ?_
    refine Wy (.d (.lit (.bool true))) [] (OpT rfl) ?_
    refine Walk.nil ?_
    refine Then.normal ?_
    exact AWP.weak (Weak.toK 1099511627788 0 0 [0, 1]) (J1 () hm)
  · replace hm := cF hq11_0 hm
    refine Wy (.d (.lit (.bool false))) [] (Ocs (lit_tf (b := decide (p0.Time ≠ p1.Time)) hq11_0) (Omv rfl)) ?_
    refine Wy (.loc 0 1) [] (Ofa rfl) ?_
    refine Wy (.d (.lit (.int .i64 p0.Source))) [] (Old rfl) ?_
    refine Wy (.loc 1 1) [] (Ofa rfl) ?_
    refine Wy (.d (.lit (.int .i64 p1.Source))) [] (Old rfl) ?_
    refine Wy (.d (.lit (.bool (decide (p0.Source ≠ p1.Source))))) [] (Obn rfl (fun _ => hb_neq (k := .i64))) ?_
    refine Wy (.d (.lit (.bool (decide (p0.Source ≠ p1.Source))))) [] (OpF rfl) ?_
    rcases tf_ (decide (p0.Source ≠ p1.Source)) with hq18_0 | hq18_0
    · replace hm := cT hq18_0 hm
      refine Wy (.d (.lit (.bool true))) [] (Ocs (lit_tf (b := decide (p0.Source ≠ p1.Source)) hq18_0) (Omv rfl)) ?_
      refine Wn ?_
      refine Wn ?_
      refine Wn ?_
      refine Wn ?_
      refine Wn ?_
      refine Wy (.d (.lit (.bool true))) [] (OpT rfl) ?_
      refine Wy (.d (.lit (.bool true))) [] (Omv rfl) ?_
      refine Wn ?_
      refine Wn ?_
      refine Wn ?_
      refine Wn ?_
      refine Wn ?_
      refine Wy (.d (.lit (.bool true))) [] (OpT rfl) ?_
      refine Wy (.d (.lit (.bool true))) [] (Omv rfl) ?_
      refine Wn ?_
      refine Wn ?_
      refine Wn ?_
      refine Wn ?_
      refine Wn ?_
      refine Wn ?_
      refine Wn ?_
      refine Wy (.d (.lit (.bool true))) [] (OpT rfl) ?_
      refine Walk.nil ?_
      refine Then.normal ?_
      exact AWP.weak (Weak.toK 1099511627788 0 0 [0, 1]) (J1 () hm)
    · replace hm := cF hq18_0 hm
      refine Wy (.d (.lit (.bool false))) [] (Ocs (lit_tf (b := decide (p0.Source ≠ p1.Source)) hq18_0) (Omv rfl)) ?_
      refine Wy (.loc 0 2) [] (Ofa rfl) ?_
      refine Wy (.d (.lit (.int .i64 p0.Seq))) [] (Old rfl) ?_
      refine Wy (.loc 1 2) [] (Ofa rfl) ?_
      refine Wy (.d (.lit (.int .i64 p1.Seq))) [] (Old rfl) ?_
      refine Wy (.d (.lit (.bool (decide (p0.Seq ≠ p1.Seq))))) [] (Obn rfl (fun _ => hb_neq (k := .i64))) ?_
      refine Wy (.d (.lit (.bool (decide (p0.Seq ≠ p1.Seq))))) [] (OpF rfl) ?_
      rcases tf_ (decide (p0.Seq ≠ p1.Seq)) with hq25_0 | hq25_0
      · replace hm := cT hq25_0 hm
        refine Wy (.d (.lit (.bool true))) [] (Ocs (lit_tf (b := decide (p0.Seq ≠ p1.Seq)) hq25_0) (Omv rfl)) ?_
        refine Wn ?_
        refine Wn ?_
        refine Wn ?_
        refine Wn ?_
        refine Wn ?_
        refine Wy (.d (.lit (.bool true))) [] (OpT rfl) ?_
        refine Wy (.d (.lit (.bool true))) [] (Omv rfl) ?_
        refine Wn ?_
        refine Wn ?_
        refine Wn ?_
        refine Wn ?_
        refine Wn ?_
        refine Wn ?_
        refine Wn ?_
        refine Wy (.d (.lit (.bool true))) [] (OpT rfl) ?_
        refine Walk.nil ?_
        refine Then.normal ?_
        exact AWP.weak (Weak.toK 1099511627788 0 0 [0, 1]) (J1 () hm)
      · replace hm := cF hq25_0 hm
        refine Wy (.d (.lit (.bool false))) [] (Ocs (lit_tf (b := decide (p0.Seq ≠ p1.Seq)) hq25_0) (Omv rfl)) ?_
        refine Wy (.loc 0 3) [] (Ofa rfl) ?_
        refine Wy (.d (.lit (.string (toS p0.Type_)))) [] (Old rfl) ?_
        refine Wy (.loc 1 3) [] (Ofa rfl) ?_
        refine Wy (.d (.lit (.string (toS p1.Type_)))) [] (Old rfl) ?_
        refine Wy (.d (.lit (.bool (decide (p0.Type_ ≠ p1.Type_))))) [] (Ocs (lit_tf (by simp only [toS_inj, ne_eq])) (op_bin rfl (a1 := .string (toS p0.Type_)) (a2 := .string (toS p1.Type_)) (by kernel_rfl) (by kernel_rfl) (fun _ => hb_sneq))) ?_
        refine Wy (.d (.lit (.bool (decide (p0.Type_ ≠ p1.Type_))))) [] (OpF rfl) ?_
        rcases tf_ (decide (p0.Type_ ≠ p1.Type_)) with hq32_0 | hq32_0
        · replace hm := cT hq32_0 hm
          refine Wy (.d (.lit (.bool true))) [] (Ocs (lit_tf (b := decide (p0.Type_ ≠ p1.Type_)) hq32_0) (Omv rfl)) ?_
          refine Wn ?_
          refine Wn ?_
          refine Wn ?_
          refine Wn ?_
          refine Wn ?_
          refine Wn ?_
          refine Wn ?_
          refine Wy (.d (.lit (.bool true))) [] (OpT rfl) ?_
          refine Walk.nil ?_
          refine Then.normal ?_
          exact AWP.weak (Weak.toK 1099511627788 0 0 [0, 1]) (J1 () hm)
        · replace hm := cF hq32_0 hm
          refine Wy (.d (.lit (.bool false))) [] (Ocs (lit_tf (b := decide (p0.Type_ ≠ p1.Type_)) hq32_0) (Omv rfl)) ?_
          refine Wy (.loc 0 4) [] (Ofa rfl) ?_
          refine Wy (.d (.sl (List.length p0.Vals) (flatD enc_GValue p0.Vals))) [] (Old rfl) ?_
          refine Wy (.d (.lit (.int .i64 ((List.length p0.Vals : Nat) : Int)))) [] (Oln rfl) ?_
          refine Wy (.loc 1 4) [] (Ofa rfl) ?_
          refine Wy (.d (.sl (List.length p1.Vals) (flatD enc_GValue p1.Vals))) [] (Old rfl) ?_
          refine Wy (.d (.lit (.int .i64 ((List.length p1.Vals : Nat) : Int)))) [] (Oln rfl) ?_
          refine Wy (.d (.lit (.bool (decide (((List.length p0.Vals : Nat) : Int) ≠ ((List.length p1.Vals : Nat) : Int)))))) [] (Obn rfl (fun _ => hb_neq (k := .i64))) ?_
          refine Wy (.d (.lit (.bool (decide (((List.length p0.Vals : Nat) : Int) ≠ ((List.length p1.Vals : Nat) : Int)))))) [] (OpF rfl) ?_
          refine Walk.nil ?_
          refine Then.normal ?_
          refine Amk 1099511627788 3 ⟨(tp 2 ((.loc 0 0) :: ((.loc 1 0) :: (tp 36 ((.d (.lit (.bool (decide (((List.length p0.Vals : Nat) : Int) ≠ ((List.length p1.Vals : Nat) : Int)))))) :: (tp 18 [])))))), [(.box [(.d (.lit (.int .i64 p0.Time))), (.d (.lit (.int .i64 p0.Source))), (.d (.lit (.int .i64 p0.Seq))), (.d (.lit (.string (toS p0.Type_)))), (.d (.sl (List.length p0.Vals) (flatD enc_GValue p0.Vals)))]), (.box [(.d (.lit (.int .i64 p1.Time))), (.d (.lit (.int .i64 p1.Source))), (.d (.lit (.int .i64 p1.Seq))), (.d (.lit (.string (toS p1.Type_)))), (.d (.sl (List.length p1.Vals) (flatD enc_GValue p1.Vals)))])], 0⟩ ?_
          rcases tf_ (decide (((List.length p0.Vals : Nat) : Int) ≠ ((List.length p1.Vals : Nat) : Int))) with hc40_5 | hc40_5
          · replace hm := cT hc40_5 hm
            refine AWP.if_ true (Eq.trans (by kernel_rfl) (lit_tf (b := decide (((List.length p0.Vals : Nat) : Int) ≠ ((List.length p1.Vals : Nat) : Int))) hc40_5)) ?_
            refine AWP.seq ?_
            refine AWP.text ?_
            refine Wy (.d (.lit (.bool false))) [] (Omv rfl) ?_
            refine Walk.nil ?_
            refine Then.normal ?_
            refine AWP.ret ?_
            refine Then.ret ?_
            obtain rfl := Option.some.inj hm
            exact ret_i []
          · replace hm := cF hc40_5 hm
            refine AWP.if_ false (Eq.trans (by kernel_rfl) (lit_tf (b := decide (((List.length p0.Vals : Nat) : Int) ≠ ((List.length p1.Vals : Nat) : Int))) hc40_5)) ?_
            refine AWP.skip ?_
            refine Then.normal ?_
            refine Amk 12 3 ⟨(tp 2 ((.loc 0 0) :: ((.loc 1 0) :: (tp 55 [])))), [(.box [(.d (.lit (.int .i64 p0.Time))), (.d (.lit (.int .i64 p0.Source))), (.d (.lit (.int .i64 p0.Seq))), (.d (.lit (.string (toS p0.Type_)))), (.d (.sl (List.length p0.Vals) (flatD enc_GValue p0.Vals)))]), (.box [(.d (.lit (.int .i64 p1.Time))), (.d (.lit (.int .i64 p1.Source))), (.d (.lit (.int .i64 p1.Seq))), (.d (.lit (.string (toS p1.Type_)))), (.d (.sl (List.length p1.Vals) (flatD enc_GValue p1.Vals)))])], 0⟩ ?_
            refine AWP.seq ?_
            refine AWP.seq ?_
            refine AWP.text ?_
            refine Wy (.d (.lit (.int .i64 0))) [] (Omv rfl) ?_
            refine Walk.nil ?_
            refine Then.normal ?_
            refine Amk 44 3 ⟨(tp 2 ((.loc 0 0) :: ((.loc 1 0) :: (tp 1 ((.d (.lit (.int .i64 0))) :: (tp 53 [])))))), [(.box [(.d (.lit (.int .i64 p0.Time))), (.d (.lit (.int .i64 p0.Source))), (.d (.lit (.int .i64 p0.Seq))), (.d (.lit (.string (toS p0.Type_)))), (.d (.sl (List.length p0.Vals) (flatD enc_GValue p0.Vals)))]), (.box [(.d (.lit (.int .i64 p1.Time))), (.d (.lit (.int .i64 p1.Source))), (.d (.lit (.int .i64 p1.Seq))), (.d (.lit (.string (toS p1.Type_)))), (.d (.sl (List.length p1.Vals) (flatD enc_GValue p1.Vals)))])], 0⟩ ?_
            refine AWP.block ?_
            refine AWP.loopI (α := Nat × Int)
              (fun x => match x with | (fu_2, y5_2) => (⟨(tp 2 ((.loc 0 0) :: ((.loc 1 0) :: (tp 1 ((.d (.lit (.int .i64 y5_2))) :: (tp 53 [])))))), [(.box [(.d (.lit (.int .i64 p0.Time))), (.d (.lit (.int .i64 p0.Source))), (.d (.lit (.int .i64 p0.Seq))), (.d (.lit (.string (toS p0.Type_)))), (.d (.sl (List.length p0.Vals) (flatD enc_GValue p0.Vals)))]), (.box [(.d (.lit (.int .i64 p1.Time))), (.d (.lit (.int .i64 p1.Source))), (.d (.lit (.int .i64 p1.Seq))), (.d (.lit (.string (toS p1.Type_)))), (.d (.sl (List.length p1.Vals) (flatD enc_GValue p1.Vals)))])], 0⟩ : St))
              (fun x => match x with | (fu_2, y5_2) => m_telltaleref07_Same_l2 p0 p1 fu_2 y5_2 = some r)
              (fun x => match x with | (fu_2, y5_2) => fu_2) (1152921504606846976, 0)
              (Weak.toK 44 0 0 [0, 1]) hm ?_
            rintro ⟨fu_2, y5_2⟩ n_2 hm ih_2
            try dsimp only at hm ih_2 ⊢
            cases fu_2 with
            | zero => exact absurd hm (by unfold m_telltaleref07_Same_l2; simp)
            | succ fu_2 =>
              unfold m_telltaleref07_Same_l2 at hm
              refine AWP.seq ?_
              refine AWP.seq ?_
              refine AWP.text ?_
              refine Wy (.d (.lit (.int .i64 y5_2))) [] (Omv rfl) ?_
              refine Wy (.loc 0 4) [] (Ofa rfl) ?_
              refine Wy (.d (.sl (List.length p0.Vals) (flatD enc_GValue p0.Vals))) [] (Old rfl) ?_
              refine Wy (.d (.lit (.int .i64 ((List.length p0.Vals : Nat) : Int)))) [] (Oln rfl) ?_
              refine Wy (.d (.lit (.bool (decide (y5_2 < ((List.length p0.Vals : Nat) : Int)))))) [] (Obn rfl (fun _ => hb_lss (k := .i64))) ?_
              refine Walk.nil ?_
              refine Then.normal ?_
              refine Amk 35184372088876 3 ⟨(tp 2 ((.loc 0 0) :: ((.loc 1 0) :: (tp 1 ((.d (.lit (.int .i64 y5_2))) :: (tp 39 ((.d (.lit (.bool (decide (y5_2 < ((List.length p0.Vals : Nat) : Int)))))) :: (tp 13 [])))))))), [(.box [(.d (.lit (.int .i64 p0.Time))), (.d (.lit (.int .i64 p0.Source))), (.d (.lit (.int .i64 p0.Seq))), (.d (.lit (.string (toS p0.Type_)))), (.d (.sl (List.length p0.Vals) (flatD enc_GValue p0.Vals)))]), (.box [(.d (.lit (.int .i64 p1.Time))), (.d (.lit (.int .i64 p1.Source))), (.d (.lit (.int .i64 p1.Seq))), (.d (.lit (.string (toS p1.Type_)))), (.d (.sl (List.length p1.Vals) (flatD enc_GValue p1.Vals)))])], 0⟩ ?_
              rcases tf_ (decide (y5_2 < ((List.length p0.Vals : Nat) : Int))) with hc45_6 | hc45_6
              · replace hm := cT hc45_6 hm
                refine AWP.if_ true (Eq.trans (by kernel_rfl) (lit_tf (b := decide (y5_2 < ((List.length p0.Vals : Nat) : Int))) hc45_6)) ?_
                refine AWP.skip ?_
                refine Then.normal ?_
                refine Amk 44 3 ⟨(tp 2 ((.loc 0 0) :: ((.loc 1 0) :: (tp 1 ((.d (.lit (.int .i64 y5_2))) :: (tp 53 [])))))), [(.box [(.d (.lit (.int .i64 p0.Time))), (.d (.lit (.int .i64 p0.Source))), (.d (.lit (.int .i64 p0.Seq))), (.d (.lit (.string (toS p0.Type_)))), (.d (.sl (List.length p0.Vals) (flatD enc_GValue p0.Vals)))]), (.box [(.d (.lit (.int .i64 p1.Time))), (.d (.lit (.int .i64 p1.Source))), (.d (.lit (.int .i64 p1.Seq))), (.d (.lit (.string (toS p1.Type_)))), (.d (.sl (List.length p1.Vals) (flatD enc_GValue p1.Vals)))])], 0⟩ ?_
                refine AWP.seq ?_
                refine AWP.block ?_
                refine AWP.seq ?_
                refine Adr ?_
                refine Wy (.loc 0 4) [] (Ofa rfl) ?_
                refine Wy (.d (.sl (List.length p0.Vals) (flatD enc_GValue p0.Vals))) [] (Old rfl) ?_
                refine Wy (.d (.lit (.int .i64 y5_2))) [] (Omv rfl) ?_
                obtain ⟨x51_4, hx51_4, hm⟩ := bnd hm
                obtain ⟨hx51_4i, hx51_4g⟩ := geti_some hx51_4
                refine Wy (.d (.ref (List.drop ((Int.toNat y5_2) * 4) (flatD enc_GValue p0.Vals)))) [] (Oia rfl enc_GValue_len hx51_4i hx51_4g) ?_
                refine Wy (.agg [(.d (byteD x51_4.Kind)), (.d (.lit (.int .i64 x51_4.N))), (.d (.lit (.int .u64 x51_4.Bits))), (.d (.lit (.string (toS x51_4.Text))))]) [] (Lf rfl enc_GValue_len hx51_4g) ?_
                refine Wy (.loc 1 4) [] (Ofa rfl) ?_
                refine Wy (.d (.sl (List.length p1.Vals) (flatD enc_GValue p1.Vals))) [] (Old rfl) ?_
                refine Wy (.d (.lit (.int .i64 y5_2))) [] (Omv rfl) ?_
                obtain ⟨x56_4, hx56_4, hm⟩ := bnd hm
                obtain ⟨hx56_4i, hx56_4g⟩ := geti_some hx56_4
                refine Wy (.d (.ref (List.drop ((Int.toNat y5_2) * 4) (flatD enc_GValue p1.Vals)))) [] (Oia rfl enc_GValue_len hx56_4i hx56_4g) ?_
                refine Wy (.agg [(.d (byteD x56_4.Kind)), (.d (.lit (.int .i64 x56_4.N))), (.d (.lit (.int .u64 x56_4.Bits))), (.d (.lit (.string (toS x56_4.Text))))]) [] (Lf rfl enc_GValue_len hx56_4g) ?_
                obtain ⟨v58_4, hv58_4, hm⟩ := bnd hm; replace hv58_4 := Option.some.inj hv58_4
                refine Wy (.d (.lit (.bool v58_4))) [] (Ocs (Eq.trans (lit_tf (by simp only [toS_inj])) (congrArg (fun z => A.d (.lit (.bool z))) hv58_4)) (op_neq_struct rfl (la := [(.d (byteD x51_4.Kind)), (.d (.lit (.int .i64 x51_4.N))), (.d (.lit (.int .u64 x51_4.Bits))), (.d (.lit (.string (toS x51_4.Text))))]) (lb := [(.d (byteD x56_4.Kind)), (.d (.lit (.int .i64 x56_4.N))), (.d (.lit (.int .u64 x56_4.Bits))), (.d (.lit (.string (toS x56_4.Text))))]) (us := [.int .u8 ((x51_4.Kind.toNat : Nat) : Int), .int .i64 x51_4.N, .int .u64 x51_4.Bits, .string (toS x51_4.Text)]) (vs := [.int .u8 ((x56_4.Kind.toNat : Nat) : Int), .int .i64 x56_4.N, .int .u64 x56_4.Bits, .string (toS x56_4.Text)]) (r := (decide (((x51_4.Kind.toNat : Nat) : Int) = ((x56_4.Kind.toNat : Nat) : Int)) && (decide (x51_4.N = x56_4.N) && (decide (x51_4.Bits = x56_4.Bits) && (decide ((toS x51_4.Text) = (toS x56_4.Text)) && true))))) (by kernel_rfl) (by kernel_rfl) (by kernel_rfl) (by kernel_rfl) (by kernel_rfl))) ?_
                refine Wdr ?_
                refine Then.normal ?_
                refine Amk 288230376151711788 3 ⟨(tp 2 ((.loc 0 0) :: ((.loc 1 0) :: (tp 1 ((.d (.lit (.int .i64 y5_2))) :: (tp 52 ((.d (.lit (.bool v58_4))) :: []))))))), [(.box [(.d (.lit (.int .i64 p0.Time))), (.d (.lit (.int .i64 p0.Source))), (.d (.lit (.int .i64 p0.Seq))), (.d (.lit (.string (toS p0.Type_)))), (.d (.sl (List.length p0.Vals) (flatD enc_GValue p0.Vals)))]), (.box [(.d (.lit (.int .i64 p1.Time))), (.d (.lit (.int .i64 p1.Source))), (.d (.lit (.int .i64 p1.Seq))), (.d (.lit (.string (toS p1.Type_)))), (.d (.sl (List.length p1.Vals) (flatD enc_GValue p1.Vals)))])], 0⟩ ?_
                rcases tf_ v58_4 with hc58_7 | hc58_7
                · replace hm := cT hc58_7 hm
                  refine AWP.if_ true (Eq.trans (by kernel_rfl) (lit_tf (b := v58_4) hc58_7)) ?_
                  refine AWP.seq ?_
                  refine AWP.text ?_
                  refine Wy (.d (.lit (.bool false))) [] (Omv rfl) ?_
                  refine Walk.nil ?_
                  refine Then.normal ?_
                  refine AWP.ret ?_
                  refine InBlock.ret ?_
                  refine Then.ret ?_
                  refine RoundK.ret ?_
                  refine InBlock.ret ?_
                  refine Then.ret ?_
                  obtain rfl := Option.some.inj hm
                  exact ret_i []
                · replace hm := cF hc58_7 hm
                  refine AWP.if_ false (Eq.trans (by kernel_rfl) (lit_tf (b := v58_4) hc58_7)) ?_
                  refine AWP.skip ?_
                  refine InBlock.normal ?_
                  refine Then.normal ?_
                  refine Amk 44 3 ⟨(tp 2 ((.loc 0 0) :: ((.loc 1 0) :: (tp 1 ((.d (.lit (.int .i64 y5_2))) :: (tp 53 [])))))), [(.box [(.d (.lit (.int .i64 p0.Time))), (.d (.lit (.int .i64 p0.Source))), (.d (.lit (.int .i64 p0.Seq))), (.d (.lit (.string (toS p0.Type_)))), (.d (.sl (List.length p0.Vals) (flatD enc_GValue p0.Vals)))]), (.box [(.d (.lit (.int .i64 p1.Time))), (.d (.lit (.int .i64 p1.Source))), (.d (.lit (.int .i64 p1.Seq))), (.d (.lit (.string (toS p1.Type_)))), (.d (.sl (List.length p1.Vals) (flatD enc_GValue p1.Vals)))])], 0⟩ ?_
                  refine AWP.text ?_
                  refine Wy (.d (.lit (.int .i64 y5_2))) [] (Omv rfl) ?_
                  refine Wy (.d (.lit (.int .i64 (IntKind.i64.wrap (y5_2 + 1))))) [] (Obn rfl (fun _ => hb_add (k := .i64))) ?_
                  refine Wy (.d (.lit (.int .i64 (IntKind.i64.wrap (y5_2 + 1))))) [] (Omv rfl) ?_
                  refine Walk.nil ?_
                  refine RoundK.normal ?_
                  exact Rounds.weak (Weak.toK 44 0 0 [0, 1]) (ih_2 (fu_2, (IntKind.i64.wrap (y5_2 + 1))) hm (Nat.lt_succ_self _))
              · replace hm := cF hc45_6 hm
                refine AWP.if_ false (Eq.trans (by kernel_rfl) (lit_tf (b := decide (y5_2 < ((List.length p0.Vals : Nat) : Int))) hc45_6)) ?_
                refine AWP.exit ?_
                refine Then.exit ?_
                refine RoundK.exit ?_
                refine InBlock.same ?_
                refine Then.normal ?_
                refine Amk 0 0 ⟨(tp 59 []), [.gone, .gone], 0⟩ ?_
                refine AWP.seq ?_
                refine AWP.text ?_
                refine Wy (.d (.lit (.bool true))) [] (Omv rfl) ?_
                refine Walk.nil ?_
                refine Then.normal ?_
                refine AWP.ret ?_
                obtain rfl := Option.some.inj hm
                exact ret_i []

set_option maxRecDepth 20000 in
set_option maxHeartbeats 4000000 in
theorem ok_telltaleref07_SameAll (p0 : (List GEvent)) (p1 : (List GEvent)) (r : Bool) (h : m_telltaleref07_SameAll p0 p1 = some r) : GCall Try.prog 13 [(.d (.sl (List.length p0) (flatD enc_GEvent p0))), (.d (.sl (List.length p1) (flatD enc_GEvent p1)))] [] (.d (.lit (.bool r))) [] := by
  refine GCall.of_body (n := 27) (rs := [(.tmp 4)]) Try.func13 rfl rfl rfl ?_
  refine Ato ⟨((.d (.sl (List.length p0) (flatD enc_GEvent p0))) :: ((.d (.sl (List.length p1) (flatD enc_GEvent p1))) :: (tu 25 []))), [], 0⟩ ?_
  have hm := h
  unfold m_telltaleref07_SameAll at hm
  refine AWP.seq ?_
  refine AWP.text ?_
  refine Wy (.d (.lit (.bool false))) [] (Omv rfl) ?_
  refine Walk.nil ?_
  refine Then.normal ?_
  refine Amk 3 0 ⟨((.d (.sl (List.length p0) (flatD enc_GEvent p0))) :: ((.d (.sl (List.length p1) (flatD enc_GEvent p1))) :: (tp 25 []))), [], 0⟩ ?_
  refine AWP.seq ?_
  refine AWP.seq ?_
  refine AWP.text ?_
  refine Wy (.d (.sl (List.length p0) (flatD enc_GEvent p0))) [] (Omv rfl) ?_
  refine Wy (.d (.lit (.int .i64 ((List.length p0 : Nat) : Int)))) [] (Oln rfl) ?_
  refine Wy (.d (.sl (List.length p1) (flatD enc_GEvent p1))) [] (Omv rfl) ?_
  refine Wy (.d (.lit (.int .i64 ((List.length p1 : Nat) : Int)))) [] (Oln rfl) ?_
  refine Wy (.d (.lit (.bool (decide (((List.length p0 : Nat) : Int) ≠ ((List.length p1 : Nat) : Int)))))) [] (Obn rfl (fun _ => hb_neq (k := .i64))) ?_
  refine Walk.nil ?_
  refine Then.normal ?_
  refine Amk 1027 0 ⟨((.d (.sl (List.length p0) (flatD enc_GEvent p0))) :: ((.d (.sl (List.length p1) (flatD enc_GEvent p1))) :: (tp 8 ((.d (.lit (.bool (decide (((List.length p0 : Nat) : Int) ≠ ((List.length p1 : Nat) : Int)))))) :: (tp 16 []))))), [], 0⟩ ?_
  rcases tf_ (decide (((List.length p0 : Nat) : Int) ≠ ((List.length p1 : Nat) : Int))) with hc10_4 | hc10_4
  · replace hm := cT hc10_4 hm
    refine AWP.if_ true (Eq.trans (by kernel_rfl) (lit_tf (b := decide (((List.length p0 : Nat) : Int) ≠ ((List.length p1 : Nat) : Int))) hc10_4)) ?_
    refine AWP.seq ?_
    refine AWP.text ?_
    refine Wy (.d (.lit (.bool false))) [] (Omv rfl) ?_
    refine Walk.nil ?_
    refine Then.normal ?_
    refine AWP.ret ?_
    refine Then.ret ?_
    obtain rfl := Option.some.inj hm
    exact ret_i []
  · replace hm := cF hc10_4 hm
    refine AWP.if_ false (Eq.trans (by kernel_rfl) (lit_tf (b := decide (((List.length p0 : Nat) : Int) ≠ ((List.length p1 : Nat) : Int))) hc10_4)) ?_
    refine AWP.skip ?_
    refine Then.normal ?_
    refine Amk 3 0 ⟨((.d (.sl (List.length p0) (flatD enc_GEvent p0))) :: ((.d (.sl (List.length p1) (flatD enc_GEvent p1))) :: (tp 25 []))), [], 0⟩ ?_
    refine AWP.seq ?_
    refine AWP.seq ?_
    refine AWP.text ?_
    refine Wy (.d (.lit (.int .i64 0))) [] (Omv rfl) ?_
    refine Walk.nil ?_
    refine Then.normal ?_
    refine Amk 35 0 ⟨((.d (.sl (List.length p0) (flatD enc_GEvent p0))) :: ((.d (.sl (List.length p1) (flatD enc_GEvent p1))) :: (tp 3 ((.d (.lit (.int .i64 0))) :: (tp 21 []))))), [], 0⟩ ?_
    refine AWP.block ?_
    refine AWP.loopI (α := Nat × Int)
      (fun x => match x with | (fu_1, y5_1) => (⟨((.d (.sl (List.length p0) (flatD enc_GEvent p0))) :: ((.d (.sl (List.length p1) (flatD enc_GEvent p1))) :: (tp 3 ((.d (.lit (.int .i64 y5_1))) :: (tp 21 []))))), [], 0⟩ : St))
      (fun x => match x with | (fu_1, y5_1) => m_telltaleref07_SameAll_l1 p0 p1 fu_1 y5_1 = some r)
      (fun x => match x with | (fu_1, y5_1) => fu_1) (1152921504606846976, 0)
      (Weak.toK 35 0 0 []) hm ?_
    rintro ⟨fu_1, y5_1⟩ n_1 hm ih_1
    try dsimp only at hm ih_1 ⊢
    cases fu_1 with
    | zero => exact absurd hm (by unfold m_telltaleref07_SameAll_l1; simp)
    | succ fu_1 =>
      unfold m_telltaleref07_SameAll_l1 at hm
      refine AWP.seq ?_
      refine AWP.seq ?_
      refine AWP.text ?_
      refine Wy (.d (.lit (.int .i64 y5_1))) [] (Omv rfl) ?_
      refine Wy (.d (.sl (List.length p0) (flatD enc_GEvent p0))) [] (Omv rfl) ?_
      refine Wy (.d (.lit (.int .i64 ((List.length p0 : Nat) : Int)))) [] (Oln rfl) ?_
      refine Wy (.d (.lit (.bool (decide (y5_1 < ((List.length p0 : Nat) : Int)))))) [] (Obn rfl (fun _ => hb_lss (k := .i64))) ?_
      refine Walk.nil ?_
      refine Then.normal ?_
      refine Amk 16419 0 ⟨((.d (.sl (List.length p0) (flatD enc_GEvent p0))) :: ((.d (.sl (List.length p1) (flatD enc_GEvent p1))) :: (tp 3 ((.d (.lit (.int .i64 y5_1))) :: (tp 8 ((.d (.lit (.bool (decide (y5_1 < ((List.length p0 : Nat) : Int)))))) :: (tp 12 []))))))), [], 0⟩ ?_
      rcases tf_ (decide (y5_1 < ((List.length p0 : Nat) : Int))) with hc14_5 | hc14_5
      · replace hm := cT hc14_5 hm
        refine AWP.if_ true (Eq.trans (by kernel_rfl) (lit_tf (b := decide (y5_1 < ((List.length p0 : Nat) : Int))) hc14_5)) ?_
        refine AWP.skip ?_
        refine Then.normal ?_
        refine Amk 35 0 ⟨((.d (.sl (List.length p0) (flatD enc_GEvent p0))) :: ((.d (.sl (List.length p1) (flatD enc_GEvent p1))) :: (tp 3 ((.d (.lit (.int .i64 y5_1))) :: (tp 21 []))))), [], 0⟩ ?_
        refine AWP.seq ?_
        refine AWP.block ?_
        refine AWP.seq ?_
        refine Adr ?_
        refine Wy (.d (.sl (List.length p0) (flatD enc_GEvent p0))) [] (Omv rfl) ?_
        refine Wy (.d (.lit (.int .i64 y5_1))) [] (Omv rfl) ?_
        obtain ⟨x19_3, hx19_3, hm⟩ := bnd hm
        obtain ⟨hx19_3i, hx19_3g⟩ := geti_some hx19_3
        refine Wy (.d (.ref (List.drop ((Int.toNat y5_1) * 5) (flatD enc_GEvent p0)))) [] (Oia rfl enc_GEvent_len hx19_3i hx19_3g) ?_
        refine Wy (.agg [(.d (.lit (.int .i64 x19_3.Time))), (.d (.lit (.int .i64 x19_3.Source))), (.d (.lit (.int .i64 x19_3.Seq))), (.d (.lit (.string (toS x19_3.Type_)))), (.d (.sl (List.length x19_3.Vals) (flatD enc_GValue x19_3.Vals)))]) [] (Lf rfl enc_GEvent_len hx19_3g) ?_
        refine Wy (.d (.sl (List.length p1) (flatD enc_GEvent p1))) [] (Omv rfl) ?_
        refine Wy (.d (.lit (.int .i64 y5_1))) [] (Omv rfl) ?_
        obtain ⟨x23_3, hx23_3, hm⟩ := bnd hm
        obtain ⟨hx23_3i, hx23_3g⟩ := geti_some hx23_3
        refine Wy (.d (.ref (List.drop ((Int.toNat y5_1) * 5) (flatD enc_GEvent p1)))) [] (Oia rfl enc_GEvent_len hx23_3i hx23_3g) ?_
        refine Wy (.agg [(.d (.lit (.int .i64 x23_3.Time))), (.d (.lit (.int .i64 x23_3.Source))), (.d (.lit (.int .i64 x23_3.Seq))), (.d (.lit (.string (toS x23_3.Type_)))), (.d (.sl (List.length x23_3.Vals) (flatD enc_GValue x23_3.Vals)))]) [] (Lf rfl enc_GEvent_len hx23_3g) ?_
        obtain ⟨r25_3, hr25_3, hm⟩ := bnd hm
        refine Wy (.d (.lit (.bool r25_3))) [] (Ocf [] [] [] 0 (ok_telltaleref07_Same x19_3 x23_3 r25_3 hr25_3) (fun a w => Try.call29 a w) rfl trivial) ?_
        refine Wy (.d (.lit (.bool (!r25_3)))) [] (Ocs (by kernel_rfl) (op_un rfl (a1 := .bool r25_3) (by kernel_rfl) (fun _ => hu_not))) ?_
        refine Wdr ?_
        refine Then.normal ?_
        refine Amk 67108899 0 ⟨((.d (.sl (List.length p0) (flatD enc_GEvent p0))) :: ((.d (.sl (List.length p1) (flatD enc_GEvent p1))) :: (tp 3 ((.d (.lit (.int .i64 y5_1))) :: (tp 20 ((.d (.lit (.bool (!r25_3)))) :: [])))))), [], 0⟩ ?_
        rcases tf_ (!r25_3) with hc26_6 | hc26_6
        · replace hm := cT hc26_6 hm
          refine AWP.if_ true (Eq.trans (by kernel_rfl) (lit_tf (b := (!r25_3)) hc26_6)) ?_
          refine AWP.seq ?_
          refine AWP.text ?_
          refine Wy (.d (.lit (.bool false))) [] (Omv rfl) ?_
          refine Walk.nil ?_
          refine Then.normal ?_
          refine AWP.ret ?_
          refine InBlock.ret ?_
          refine Then.ret ?_
          refine RoundK.ret ?_
          refine InBlock.ret ?_
          refine Then.ret ?_
          obtain rfl := Option.some.inj hm
          exact ret_i []
        · replace hm := cF hc26_6 hm
          refine AWP.if_ false (Eq.trans (by kernel_rfl) (lit_tf (b := (!r25_3)) hc26_6)) ?_
          refine AWP.skip ?_
          refine InBlock.normal ?_
          refine Then.normal ?_
          refine Amk 35 0 ⟨((.d (.sl (List.length p0) (flatD enc_GEvent p0))) :: ((.d (.sl (List.length p1) (flatD enc_GEvent p1))) :: (tp 3 ((.d (.lit (.int .i64 y5_1))) :: (tp 21 []))))), [], 0⟩ ?_
          refine AWP.text ?_
          refine Wy (.d (.lit (.int .i64 y5_1))) [] (Omv rfl) ?_
          refine Wy (.d (.lit (.int .i64 (IntKind.i64.wrap (y5_1 + 1))))) [] (Obn rfl (fun _ => hb_add (k := .i64))) ?_
          refine Wy (.d (.lit (.int .i64 (IntKind.i64.wrap (y5_1 + 1))))) [] (Omv rfl) ?_
          refine Walk.nil ?_
          refine RoundK.normal ?_
          exact Rounds.weak (Weak.toK 35 0 0 []) (ih_1 (fu_1, (IntKind.i64.wrap (y5_1 + 1))) hm (Nat.lt_succ_self _))
      · replace hm := cF hc14_5 hm
        refine AWP.if_ false (Eq.trans (by kernel_rfl) (lit_tf (b := decide (y5_1 < ((List.length p0 : Nat) : Int))) hc14_5)) ?_
        refine AWP.exit ?_
        refine Then.exit ?_
        refine RoundK.exit ?_
        refine InBlock.same ?_
        refine Then.normal ?_
        refine Amk 0 0 ⟨(tp 27 []), [], 0⟩ ?_
        refine AWP.seq ?_
        refine AWP.text ?_
        refine Wy (.d (.lit (.bool true))) [] (Omv rfl) ?_
        refine Walk.nil ?_
        refine Then.normal ?_
        refine AWP.ret ?_
        obtain rfl := Option.some.inj hm
        exact ret_i []
end Go.Proofs.Ytanahlngkociaaa.K
