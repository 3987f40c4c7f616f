/- what telltalelaw11.PredVars needs (0) -/
import Derived.Test.YtkajfanpdabjcaaLM
namespace Go.Proofs.Ytkajfanpdabjcaa.K
open Go.RowKit Go.Lib
set_option linter.unusedVariables false
set_option linter.unusedSimpArgs false
set_option maxRecDepth 20000
set_option maxHeartbeats 4000000

theorem ok_telltalelaw04_Small (p0 : GValue) (r : Int) (h : m_telltalelaw04_Small p0 = some r) : GCall Try.prog 24 [(.agg [(.y p0.Kind), (.i p0.N), (.u p0.Bits), (.s p0.Text)])] [] (.i r) [] := by
 refine GCall.of_body (n := 8) (rs := [(.tmp 2)]) Try.func24 rfl rfl rfl <| Ato ⟨.agg [(.y p0.Kind), (.i p0.N), (.u p0.Bits), (.s p0.Text)]::tu 7 [], [], 0⟩ ?_
 have hm := h
 unfold m_telltalelaw04_Small at hm
 refine Sx <| Wy (.loc 0 0) [(0, (.box [(.y p0.Kind), (.i p0.N), (.u p0.Bits), (.s p0.Text)]))] (Obx rfl) <| Wm (.i 0) rfl <| Nk 2 1 ⟨tp 1 (.loc 0 0::tp 6 []), [(.box [(.y p0.Kind), (.i p0.N), (.u p0.Bits), (.s p0.Text)])], 0⟩ <| Sx <| Wz (.loc 0 3) (Ofa rfl) <| Wz (.s p0.Text) (Old rfl) <| Wz (.i ((List.length p0.Text : Nat) : Int)) (Oln rfl) <| Wz (.i (W6 (((List.length p0.Text : Nat) : Int) - 100))) (Obn rfl (fun _ => hb_sub (k := .i64))) <| Wz (.i (max 0 (W6 (((List.length p0.Text : Nat) : Int) - 100)))) (op_bi2 rfl (a1 := .int .i64 0) (a2 := .int .i64 (W6 (((List.length p0.Text : Nat) : Int) - 100))) (by kernel_rfl) (by kernel_rfl) hb_max) <| Wm (.i (max 0 (W6 (((List.length p0.Text : Nat) : Int) - 100)))) rfl <| Nn <| Rt ?_
 obtain rfl := Option.some.inj hm
 exact ret_i []

theorem ok_telltalelaw11_Over (p0 : (List GNode_)) (r : Int) (h : m_telltalelaw11_Over p0 = some r) : GCall Try.prog 7 [(.l enc_GNode_ p0)] [] (.i r) [] := by
 refine GCall.of_body (n := 38) (rs := [(.tmp 2)]) Try.func7 rfl rfl rfl <| Ato ⟨.l enc_GNode_ p0::tu 37 [], [], 0⟩ ?_
 have hm := h
 unfold m_telltalelaw11_Over at hm
 refine Sx <| Wm (.i 0) rfl <| Nk 1 0 ⟨.l enc_GNode_ p0::tp 37 [], [], 0⟩ <| Sq <| Sx <| Wm (.l enc_GNode_ p0) rfl <| Wz (.i ((List.length p0 : Nat) : Int)) (Oln rfl) <| Wz (.b (decide ((40 : Int) < ((List.length p0 : Nat) : Int)))) (Obn rfl (fun _ => hb_gtr (k := .i64))) <| Nk 65 0 ⟨.l enc_GNode_ p0::tp 5 (.b (decide ((40 : Int) < ((List.length p0 : Nat) : Int)))::tp 31 []), [], 0⟩ ?_
 rcases tf_ (decide ((40 : Int) < ((List.length p0 : Nat) : Int))) with hc6_5 | hc6_5
 ·
  replace hm := cT hc6_5 hm
  refine AiT hc6_5 <| Sx <| Wm (.i 1) rfl <| Nn <| Rt <| Tr ?_
  obtain rfl := Option.some.inj hm
  exact ret_i []
 ·
  replace hm := cF hc6_5 hm
  refine AiF hc6_5 <| Sk <| Tk 1 0 ⟨.l enc_GNode_ p0::tp 37 [], [], 0⟩ <| Sq <| Sx <| Wm (.i 0) rfl <| Nk 9 0 ⟨.l enc_GNode_ p0::tp 2 (.i 0::tp 34 []), [], 0⟩ <| Bk ?_
  refine AWP.loopI (α := Nat × Int)
    (fun (fu_1, y3_1) => (⟨.l enc_GNode_ p0::tp 2 (.i y3_1::tp 34 []), [], 0⟩ : St))
    (fun (fu_1, y3_1) => m_telltalelaw11_Over_l1 p0 fu_1 y3_1 = some r)
    (fun (fu_1, y3_1) => fu_1) (1152921504606846976, 0)
    (Weak.toK 9 0 0 []) hm ?_
  rintro ⟨fu_1, y3_1⟩ n_1 hm ih_1
  try dsimp only at hm ih_1 ⊢
  cases fu_1 with
  | zero => exact absurd hm (by unfold m_telltalelaw11_Over_l1; simp)
  | succ fu_1 =>
   unfold m_telltalelaw11_Over_l1 at hm
   refine Sq <| Sx <| Wm (.i y3_1) rfl <| Wm (.l enc_GNode_ p0) rfl <| Wz (.i ((List.length p0 : Nat) : Int)) (Oln rfl) <| Wz (.b (decide (y3_1 < ((List.length p0 : Nat) : Int)))) (Obn rfl (fun _ => hb_lss (k := .i64))) <| Nk 1033 0 ⟨.l enc_GNode_ p0::tp 2 (.i y3_1::tp 6 (.b (decide (y3_1 < ((List.length p0 : Nat) : Int)))::tp 27 [])), [], 0⟩ ?_
   rcases tf_ (decide (y3_1 < ((List.length p0 : Nat) : Int))) with hc10_6 | hc10_6
   ·
    replace hm := cT hc10_6 hm
    refine AiT hc10_6 <| Sk <| Tk 9 0 ⟨.l enc_GNode_ p0::tp 2 (.i y3_1::tp 34 []), [], 0⟩ <| Sq <| Bk ?_
    refine AWP.cutJ (α := Unit) (fun x => match x with | () => (⟨.l enc_GNode_ p0::tp 2 (.i y3_1::tp 33 (.b true::[])), [], 0⟩ : St)) (fun x => match x with | () => m_telltalelaw11_Over_j4  = some r) ?_ (fun J4 => ?_)
    ·
     rintro ⟨⟩ hm
     try dsimp only at hm ⊢
     unfold m_telltalelaw11_Over_j4 at hm
     refine AWP.if_ true (by kernel_rfl) <| Sx <| Wm (.i 1) rfl <| Nn <| Rt <| Ir <| Tr <| RoundK.ret <| Ir <| Tr ?_
     obtain rfl := Option.some.inj hm
     exact ret_i []
    refine Sx <| Wm (.l enc_GNode_ p0) rfl <| Wm (.i y3_1) rfl ?_
    obtain ⟨x15_3, hx15_3, hm⟩ := bnd hm
    obtain ⟨hx15_3i, hx15_3g⟩ := geti_some hx15_3
    refine Wz (.d (.ref (List.drop ((Int.toNat y3_1) * 8) (flatD enc_GNode_ p0)))) (Oia rfl enc_GNode__len hx15_3i hx15_3g) <| Wz (.d (.ref (List.drop 2 (List.drop ((Int.toNat y3_1) * 8) (flatD enc_GNode_ p0))))) (Ofa rfl) <| Wz (.s x15_3.Var) (Lfk1 2 rfl enc_GNode__len hx15_3g) <| Wz (.i ((List.length x15_3.Var : Nat) : Int)) (Oln rfl) <| Wz (.b (decide ((40 : Int) < ((List.length x15_3.Var : Nat) : Int)))) (Obn rfl (fun _ => hb_gtr (k := .i64))) ?_
    rcases tf_ (decide ((40 : Int) < ((List.length x15_3.Var : Nat) : Int))) with hq20_3 | hq20_3
    ·
     replace hm := cT hq20_3 hm
     refine Wz (.b true) (Oq hq20_3 rfl) <| Wn <| Wn <| Wn <| Wn <| Wn <| Wn <| Wn <| Wz (.b true) (OpT rfl) <| Wm (.b true) rfl <| Wn <| Wn <| Wn <| Wn ?_
     refine Wn <| Wn <| Wn <| Wz (.b true) (OpT rfl) <| Nn ?_
     exact AWP.weak (Weak.toK 137438953481 0 0 []) (J4 () hm)
    ·
     replace hm := cF hq20_3 hm
     refine Wz (.b false) (Oq hq20_3 rfl) <| Wm (.l enc_GNode_ p0) rfl <| Wm (.i y3_1) rfl ?_
     obtain ⟨x23_3, hx23_3, hm⟩ := bnd hm
     obtain ⟨hx23_3i, hx23_3g⟩ := geti_some hx23_3
     refine Wz (.d (.ref (List.drop ((Int.toNat y3_1) * 8) (flatD enc_GNode_ p0)))) (Oia rfl enc_GNode__len hx23_3i hx23_3g) <| Wz (.d (.ref (List.drop 3 (List.drop ((Int.toNat y3_1) * 8) (flatD enc_GNode_ p0))))) (Ofa rfl) <| Wz (.s x23_3.Name) (Lfk1 3 rfl enc_GNode__len hx23_3g) <| Wz (.i ((List.length x23_3.Name : Nat) : Int)) (Oln rfl) <| Wz (.b (decide ((40 : Int) < ((List.length x23_3.Name : Nat) : Int)))) (Obn rfl (fun _ => hb_gtr (k := .i64))) <| Wz (.b (decide ((40 : Int) < ((List.length x23_3.Name : Nat) : Int)))) (OpF rfl) ?_
     rcases tf_ (decide ((40 : Int) < ((List.length x23_3.Name : Nat) : Int))) with hq29_3 | hq29_3
     ·
      replace hm := cT hq29_3 hm
      refine Wz (.b true) (Oq hq29_3 rfl) <| Wn <| Wn <| Wn <| Wn <| Wn <| Wn <| Wn <| Wz (.b true) (OpT rfl) <| Nn ?_
      exact AWP.weak (Weak.toK 137438953481 0 0 []) (J4 () hm)
     ·
      replace hm := cF hq29_3 hm
      refine Wz (.b false) (Oq hq29_3 rfl) <| Wm (.l enc_GNode_ p0) rfl <| Wm (.i y3_1) rfl ?_
      obtain ⟨x32_3, hx32_3, hm⟩ := bnd hm
      obtain ⟨hx32_3i, hx32_3g⟩ := geti_some hx32_3
      refine Wz (.d (.ref (List.drop ((Int.toNat y3_1) * 8) (flatD enc_GNode_ p0)))) (Oia rfl enc_GNode__len hx32_3i hx32_3g) <| Wz (.d (.ref (List.drop 4 (List.drop ((Int.toNat y3_1) * 8) (flatD enc_GNode_ p0))))) (Ofa rfl) <| Wz (.agg [(.y x32_3.Val.Kind), (.i x32_3.Val.N), (.u x32_3.Val.Bits), (.s x32_3.Val.Text)]) (Lfk 4 rfl enc_GNode__len hx32_3g) ?_
      obtain ⟨r35_3, hr35_3, hm⟩ := bnd hm
      refine Wz (.i r35_3) (Ocf [] [] [] 0 (ok_telltalelaw04_Small x32_3.Val r35_3 hr35_3) (fun a w => Try.call24 a w) rfl trivial) <| Wz (.b (decide ((0 : Int) < r35_3))) (Obn rfl (fun _ => hb_gtr (k := .i64))) <| Wz (.b (decide ((0 : Int) < r35_3))) (OpF rfl) <| Nk 137438953481 0 ⟨.l enc_GNode_ p0::tp 2 (.i y3_1::tp 33 (.b (decide ((0 : Int) < r35_3))::[])), [], 0⟩ ?_
      rcases tf_ (decide ((0 : Int) < r35_3)) with hc37_7 | hc37_7
      ·
       replace hm := cT hc37_7 hm
       refine AiT hc37_7 <| Sx <| Wm (.i 1) rfl <| Nn <| Rt <| Ir <| Tr <| RoundK.ret <| Ir <| Tr ?_
       obtain rfl := Option.some.inj hm
       exact ret_i []
      ·
       replace hm := cF hc37_7 hm
       refine AiF hc37_7 <| Sk <| Ino <| Tk 9 0 ⟨.l enc_GNode_ p0::tp 2 (.i y3_1::tp 34 []), [], 0⟩ <| Tx <| Wm (.i y3_1) rfl <| Wz (.i (W6 (y3_1 + 1))) (Obn rfl (fun _ => hb_add (k := .i64))) <| Wm (.i (W6 (y3_1 + 1))) rfl <| Wn0 <| RoundK.normal ?_
       exact Rounds.weak (Weak.toK 9 0 0 []) (ih_1 (fu_1, (W6 (y3_1 + 1))) hm (Nat.lt_succ_self _))
   ·
    replace hm := cF hc10_6 hm
    refine AiF hc10_6 <| AWP.exit <| Then.exit <| RoundK.exit <| InBlock.same <| Tk 0 0 ⟨tp 38 [], [], 0⟩ <| Sx <| Wm (.i 0) rfl <| Nn <| Rt ?_
    obtain rfl := Option.some.inj hm
    exact ret_i []

theorem ok_value_OfInt (p0 : Int) (r : GValue) (h : m_value_OfInt p0 = some r) : GCall Try.prog 33 [(.i p0)] [] (.agg [(.y r.Kind), (.i r.N), (.u r.Bits), (.s r.Text)]) [] := by
 refine GCall.of_body (n := 7) (rs := [(.cell 2 31)]) Try.func33 rfl rfl rfl <| Ato ⟨.i p0::tu 6 [], [], 0⟩ ?_
 have hm := h
 unfold m_value_OfInt at hm
 refine Sx <| Wy (.loc 0 0) [(0, (.box [(.y 0), (.i 0), (.u 0), (.s ([] : List UInt8))]))] (Oal rfl) <| Nk 5 1 ⟨.i p0::tp 1 (.loc 0 0::tp 4 []), [(.box [(.y 0), (.i 0), (.u 0), (.s ([] : List UInt8))])], 0⟩ <| Sx <| Wm (.i p0) rfl <| Wz (.i (min p0 4611686018427387904)) (op_bi2 rfl (a1 := .int .i64 p0) (a2 := .int .i64 4611686018427387904) (by kernel_rfl) (by kernel_rfl) hb_min) <| Wz (.i (max (-4611686018427387904) (min p0 4611686018427387904))) (op_bi2 rfl (a1 := .int .i64 (-4611686018427387904)) (a2 := .int .i64 (min p0 4611686018427387904)) (by kernel_rfl) (by kernel_rfl) hb_max) <| Wz (.agg [(.y 1), (.i (max (-4611686018427387904) (min p0 4611686018427387904))), (.u 0), (.s ([] : List UInt8))]) (Obd rfl) <| Wy (.tup []) [(0, (.box [(.y 1), (.i (max (-4611686018427387904) (min p0 4611686018427387904))), (.u 0), (.s ([] : List UInt8))]))] (Ost rfl) <| Nn <| Rt ?_
 obtain rfl := Option.some.inj hm
 exact ret_i []

theorem ok_value_OfText (p0 : (List UInt8)) (r : GValue) (h : m_value_OfText p0 = some r) : GCall Try.prog 34 [(.s p0)] [] (.agg [(.y r.Kind), (.i r.N), (.u r.Bits), (.s r.Text)]) [] := by
 refine GCall.of_body (n := 10) (rs := [(.cell 2 31)]) Try.func34 rfl rfl rfl <| Ato ⟨.s p0::tu 9 [], [], 0⟩ ?_
 have hm := h
 unfold m_value_OfText at hm
 refine Sx <| Wy (.loc 0 0) [(0, (.box [(.y 0), (.i 0), (.u 0), (.s ([] : List UInt8))]))] (Oal rfl) <| Nk 5 1 ⟨.s p0::tp 1 (.loc 0 0::tp 7 []), [(.box [(.y 0), (.i 0), (.u 0), (.s ([] : List UInt8))])], 0⟩ ?_
 refine AWP.cutJ (α := (List UInt8)) (fun x => match x with | y0_2 => (⟨.s y0_2::tp 1 (.loc 0 0::tp 7 []), [(.box [(.y 0), (.i 0), (.u 0), (.s ([] : List UInt8))])], 0⟩ : St)) (fun x => match x with | y0_2 => m_value_OfText_j2  y0_2 = some r) ?_ (fun J2 => ?_)
 ·
  rintro y0_2 hm
  try dsimp only at hm ⊢
  unfold m_value_OfText_j2 at hm
  refine Sx <| Wm (.s y0_2) rfl <| Wz (.agg [(.y 4), (.i 0), (.u 0), (.s y0_2)]) (Obd rfl) <| Wy (.tup []) [(0, (.box [(.y 4), (.i 0), (.u 0), (.s y0_2)]))] (Ost rfl) <| Nn <| Rt ?_
  obtain rfl := Option.some.inj hm
  exact ret_i []
 refine Sq <| Sx <| Wm (.s p0) rfl <| Wz (.i ((List.length p0 : Nat) : Int)) (Oln rfl) <| Wz (.b (decide ((24 : Int) < ((List.length p0 : Nat) : Int)))) (Obn rfl (fun _ => hb_gtr (k := .i64))) <| Nk 37 1 ⟨.s p0::tp 1 (.loc 0 0::tp 2 (.b (decide ((24 : Int) < ((List.length p0 : Nat) : Int)))::tp 4 [])), [(.box [(.y 0), (.i 0), (.u 0), (.s ([] : List UInt8))])], 0⟩ ?_
 rcases tf_ (decide ((24 : Int) < ((List.length p0 : Nat) : Int))) with hc5_3 | hc5_3
 ·
  replace hm := cT hc5_3 hm
  refine AiT hc5_3 <| Tx <| Wm (.s p0) rfl ?_
  obtain ⟨s7_1, hs7_1, hm⟩ := bnd hm; obtain ⟨hs7_1a, hs7_1b, hs7_1c, hs7_1d, hs7_1e⟩ := cut_some hs7_1
  refine Wz (.s s7_1) (Ocs (lit_str (toS_cut hs7_1e)) (op_slice_str rfl (by kernel_rfl) (s := toS p0) (by kernel_rfl) (l := (Int.toNat 0)) (h := (Int.toNat 24)) (by exact rfl) (⟨.i64, 24, by kernel_rfl, hs7_1b⟩) hs7_1c hs7_1d)) <| Wm (.s s7_1) rfl <| Nn ?_
  exact AWP.weak (Weak.toK 5 0 0 [0]) (J2 (s7_1) hm)
 ·
  replace hm := cF hc5_3 hm
  refine AiF hc5_3 <| Sk <| Tn ?_
  exact AWP.weak (Weak.toK 5 0 0 [0]) (J2 (p0) hm)

theorem ok_telltalelaw11_example (r : (List GNode_)) (h : m_telltalelaw11_example = some r) : GCall Try.prog 25 [] [] (.d (.slc (List.length r) (flatD enc_GNode_ r))) [] := by
 refine GCall.of_body (n := 12) (rs := [(.tmp 0)]) Try.func25 rfl rfl rfl <| Ato ⟨tu 12 [], [], 0⟩ ?_
 have hm := h
 unfold m_telltalelaw11_example at hm
 refine Sx <| Wm (.d .nil) rfl <| Nk 0 0 ⟨tp 12 [], [], 0⟩ <| Sx <| Wz (.agg [(.y 1), (.y 0), (.s ([] : List UInt8)), (.s ([] : List UInt8)), (.y 0), (.i 0), (.u 0), (.s ([] : List UInt8))]) (Obd rfl) <| Wz (.agg [(.y 4), (.y 6), (.s ([] : List UInt8)), (.s ([] : List UInt8)), (.y 0), (.i 0), (.u 0), (.s ([] : List UInt8))]) (Obd rfl) <| Wz (.agg [(.y 7), (.y 0), (.s ([] : List UInt8)), (.s ([110] : List UInt8)), (.y 0), (.i 0), (.u 0), (.s ([] : List UInt8))]) (Obd rfl) ?_
 obtain ⟨r4_0, hr4_0, hm⟩ := bnd hm
 refine Wz (.agg [(.y r4_0.Kind), (.i r4_0.N), (.u r4_0.Bits), (.s r4_0.Text)]) (Ocf [] [] [] 0 (ok_value_OfInt 10 r4_0 hr4_0) (fun a w => Try.call33 a w) rfl trivial) <| Wz (.agg [(.y 9), (.y 0), (.s ([] : List UInt8)), (.s ([] : List UInt8)), (.y r4_0.Kind), (.i r4_0.N), (.u r4_0.Bits), (.s r4_0.Text)]) (Obd rfl) <| Wz (.agg [(.y 3), (.y 0), (.s ([] : List UInt8)), (.s ([] : List UInt8)), (.y 0), (.i 0), (.u 0), (.s ([] : List UInt8))]) (Obd rfl) <| Wz (.agg [(.y 4), (.y 1), (.s ([] : List UInt8)), (.s ([] : List UInt8)), (.y 0), (.i 0), (.u 0), (.s ([] : List UInt8))]) (Obd rfl) <| Wz (.agg [(.y 8), (.y 0), (.s ([98] : List UInt8)), (.s ([107] : List UInt8)), (.y 0), (.i 0), (.u 0), (.s ([] : List UInt8))]) (Obd rfl) ?_
 obtain ⟨r9_0, hr9_0, hm⟩ := bnd hm
 refine Wz (.agg [(.y r9_0.Kind), (.i r9_0.N), (.u r9_0.Bits), (.s r9_0.Text)]) (Ocf [] [] [] 0 (ok_value_OfText ([120] : List UInt8) r9_0 hr9_0) (fun a w => Try.call34 a w) rfl trivial) <| Wz (.agg [(.y 9), (.y 0), (.s ([] : List UInt8)), (.s ([] : List UInt8)), (.y r9_0.Kind), (.i r9_0.N), (.u r9_0.Bits), (.s r9_0.Text)]) (Obd rfl) <| Wz (.d (.slc (List.length ([(GNode_.mk 1 0 ([] : List UInt8) ([] : List UInt8) (GValue.mk 0 0 0 ([] : List UInt8))), (GNode_.mk 4 6 ([] : List UInt8) ([] : List UInt8) (GValue.mk 0 0 0 ([] : List UInt8))), (GNode_.mk 7 0 ([] : List UInt8) ([110] : List UInt8) (GValue.mk 0 0 0 ([] : List UInt8))), (GNode_.mk 9 0 ([] : List UInt8) ([] : List UInt8) r4_0), (GNode_.mk 3 0 ([] : List UInt8) ([] : List UInt8) (GValue.mk 0 0 0 ([] : List UInt8))), (GNode_.mk 4 1 ([] : List UInt8) ([] : List UInt8) (GValue.mk 0 0 0 ([] : List UInt8))), (GNode_.mk 8 0 ([98] : List UInt8) ([107] : List UInt8) (GValue.mk 0 0 0 ([] : List UInt8))), (GNode_.mk 9 0 ([] : List UInt8) ([] : List UInt8) r9_0)] : List GNode_)) (flatD enc_GNode_ ([(GNode_.mk 1 0 ([] : List UInt8) ([] : List UInt8) (GValue.mk 0 0 0 ([] : List UInt8))), (GNode_.mk 4 6 ([] : List UInt8) ([] : List UInt8) (GValue.mk 0 0 0 ([] : List UInt8))), (GNode_.mk 7 0 ([] : List UInt8) ([110] : List UInt8) (GValue.mk 0 0 0 ([] : List UInt8))), (GNode_.mk 9 0 ([] : List UInt8) ([] : List UInt8) r4_0), (GNode_.mk 3 0 ([] : List UInt8) ([] : List UInt8) (GValue.mk 0 0 0 ([] : List UInt8))), (GNode_.mk 4 1 ([] : List UInt8) ([] : List UInt8) (GValue.mk 0 0 0 ([] : List UInt8))), (GNode_.mk 8 0 ([98] : List UInt8) ([107] : List UInt8) (GValue.mk 0 0 0 ([] : List UInt8))), (GNode_.mk 9 0 ([] : List UInt8) ([] : List UInt8) r9_0)] : List GNode_)))) (Obc rfl) <| Wm (.d (.slc (List.length ([(GNode_.mk 1 0 ([] : List UInt8) ([] : List UInt8) (GValue.mk 0 0 0 ([] : List UInt8))), (GNode_.mk 4 6 ([] : List UInt8) ([] : List UInt8) (GValue.mk 0 0 0 ([] : List UInt8))), (GNode_.mk 7 0 ([] : List UInt8) ([110] : List UInt8) (GValue.mk 0 0 0 ([] : List UInt8))), (GNode_.mk 9 0 ([] : List UInt8) ([] : List UInt8) r4_0), (GNode_.mk 3 0 ([] : List UInt8) ([] : List UInt8) (GValue.mk 0 0 0 ([] : List UInt8))), (GNode_.mk 4 1 ([] : List UInt8) ([] : List UInt8) (GValue.mk 0 0 0 ([] : List UInt8))), (GNode_.mk 8 0 ([98] : List UInt8) ([107] : List UInt8) (GValue.mk 0 0 0 ([] : List UInt8))), (GNode_.mk 9 0 ([] : List UInt8) ([] : List UInt8) r9_0)] : List GNode_)) (flatD enc_GNode_ ([(GNode_.mk 1 0 ([] : List UInt8) ([] : List UInt8) (GValue.mk 0 0 0 ([] : List UInt8))), (GNode_.mk 4 6 ([] : List UInt8) ([] : List UInt8) (GValue.mk 0 0 0 ([] : List UInt8))), (GNode_.mk 7 0 ([] : List UInt8) ([110] : List UInt8) (GValue.mk 0 0 0 ([] : List UInt8))), (GNode_.mk 9 0 ([] : List UInt8) ([] : List UInt8) r4_0), (GNode_.mk 3 0 ([] : List UInt8) ([] : List UInt8) (GValue.mk 0 0 0 ([] : List UInt8))), (GNode_.mk 4 1 ([] : List UInt8) ([] : List UInt8) (GValue.mk 0 0 0 ([] : List UInt8))), (GNode_.mk 8 0 ([98] : List UInt8) ([107] : List UInt8) (GValue.mk 0 0 0 ([] : List UInt8))), (GNode_.mk 9 0 ([] : List UInt8) ([] : List UInt8) r9_0)] : List GNode_)))) rfl <| Nn <| Rt ?_
 obtain rfl := Option.some.inj hm
 exact ret_i []

theorem ok_slices_Sort_string (p0 : (List (List UInt8))) (r : (List (List UInt8))) (h : m_slices_Sort_string p0 = some r) : GCall Try.prog 30 [(.own 0)] [(Ar 9 1 encS p0)] (.tup []) [(Ar 9 1 encS r)] := by
  unfold m_slices_Sort_string at h
  obtain ⟨hl, h⟩ := chk_some h
  cases h
  exact call_sortS Try.slices_Sort_string Try.slices_Sort_string_none p0 hl

theorem ok_slices_Compact_string (p0 : (List (List UInt8))) (r : (List (List UInt8))) (h : m_slices_Compact_string p0 = some r) : GCall Try.prog 31 [(.own 0)] [(Ar 9 1 encS p0)] (.l encS r) [.gone] := by
  unfold m_slices_Compact_string at h
  obtain ⟨hl, h⟩ := chk_some h
  cases h
  exact call_compS Try.slices_Compact_string Try.slices_Compact_string_empty p0 hl

theorem ok_pred_Vars (p0 : (List GNode_)) (r : (List (List UInt8))) (h : m_pred_Vars p0 = some r) : GCall Try.prog 19 [(.l enc_GNode_ p0)] [] (.l encS r) [] := by
 refine GCall.of_body (n := 25) (rs := [(.tmp 2)]) Try.func19 rfl rfl rfl <| Ato ⟨.l enc_GNode_ p0::tu 24 [], [], 0⟩ ?_
 have hm := h
 unfold m_pred_Vars at hm
 refine Sx <| Wm (.d .nil) rfl <| Nk 1 0 ⟨.l enc_GNode_ p0::tp 24 [], [], 0⟩ <| Sx <| Wm (.d .nil) rfl <| Nk 9 0 ⟨.l enc_GNode_ p0::tp 2 (.d .nil::tp 21 []), [], 0⟩ <| Sq <| Sx <| Wm (.l enc_GNode_ p0) rfl <| Wz (.i ((List.length p0 : Nat) : Int)) (Oln rfl) <| Wm (.i 0) rfl <| Nk 456 0 ⟨tp 3 (.d .nil::tp 2 (.l enc_GNode_ p0::.i ((List.length p0 : Nat) : Int)::.i 0::tp 16 [])), [], 0⟩ <| Bk <| Aow 3 9 1 ⟨tp 3 (.own 0::tp 2 (.l enc_GNode_ p0::.i ((List.length p0 : Nat) : Int)::.i 0::tp 16 [])), [(Ar 9 1 encS ([] : List (List UInt8)))], 0⟩ ?_
 refine AWP.loopI (α := Nat × (List (List UInt8)) × Int)
   (fun (fu_1, y3_1, y8_1) => (⟨tp 3 (.own 0::tp 2 (.l enc_GNode_ p0::.i ((List.length p0 : Nat) : Int)::.i y8_1::tp 16 [])), [(Ar 9 1 encS y3_1)], 0⟩ : St))
   (fun (fu_1, y3_1, y8_1) => m_pred_Vars_l1 p0 fu_1 y3_1 y8_1 = some r)
   (fun (fu_1, y3_1, y8_1) => fu_1) (1152921504606846976, ([] : List (List UInt8)), 0)
   (Weak.toK 456 0 0 [0]) hm ?_
 rintro ⟨fu_1, y3_1, y8_1⟩ n_1 hm ih_1
 try dsimp only at hm ih_1 ⊢
 cases fu_1 with
 | zero => exact absurd hm (by unfold m_pred_Vars_l1; simp)
 | succ fu_1 =>
  unfold m_pred_Vars_l1 at hm
  refine Sx <| Wz (.b (decide (y8_1 < ((List.length p0 : Nat) : Int)))) (Obn rfl (fun _ => hb_lss (k := .i64))) <| Nk 968 1 ⟨tp 3 (.own 0::tp 2 (.l enc_GNode_ p0::.i ((List.length p0 : Nat) : Int)::.i y8_1::.b (decide (y8_1 < ((List.length p0 : Nat) : Int)))::tp 15 [])), [(Ar 9 1 encS y3_1)], 0⟩ <| Sq ?_
  rcases tf_ (decide (y8_1 < ((List.length p0 : Nat) : Int))) with hc9_6 | hc9_6
  ·
   replace hm := cT hc9_6 hm
   refine AiT hc9_6 <| Sk <| Tk 456 1 ⟨tp 3 (.own 0::tp 2 (.l enc_GNode_ p0::.i ((List.length p0 : Nat) : Int)::.i y8_1::tp 16 [])), [(Ar 9 1 encS y3_1)], 0⟩ <| Sq <| Bk <| Sx ?_
   obtain ⟨x10_2, hx10_2, hm⟩ := bnd hm
   obtain ⟨hx10_2i, hx10_2g⟩ := geti_some hx10_2
   refine Wz (.d (.ref (List.drop ((Int.toNat y8_1) * 8) (flatD enc_GNode_ p0)))) (Oia rfl enc_GNode__len hx10_2i hx10_2g) <| Wz (.agg [(.y x10_2.Kind), (.y x10_2.Op), (.s x10_2.Var), (.s x10_2.Name), (.y x10_2.Val.Kind), (.i x10_2.Val.N), (.u x10_2.Val.Bits), (.s x10_2.Val.Text)]) (Lf rfl enc_GNode__len hx10_2g) <| Wy (.loc 1 0) [(1, (.box [(.y 0), (.y 0), (.s ([] : List UInt8)), (.s ([] : List UInt8)), (.y 0), (.i 0), (.u 0), (.s ([] : List UInt8))]))] (Oal rfl) <| Wy (.tup []) [(1, (.box [(.y x10_2.Kind), (.y x10_2.Op), (.s x10_2.Var), (.s x10_2.Name), (.y x10_2.Val.Kind), (.i x10_2.Val.N), (.u x10_2.Val.Bits), (.s x10_2.Val.Text)]))] (Ost rfl) <| Nk 488 3 ⟨tp 3 (.own 0::tp 1 (.loc 1 0::.l enc_GNode_ p0::.i ((List.length p0 : Nat) : Int)::.i y8_1::tp 16 [])), [(Ar 9 1 encS y3_1), (.box [(.y x10_2.Kind), (.y x10_2.Op), (.s x10_2.Var), (.s x10_2.Name), (.y x10_2.Val.Kind), (.i x10_2.Val.N), (.u x10_2.Val.Bits), (.s x10_2.Val.Text)])], 0⟩ <| Sx <| Wz (.loc 1 0) (Ofa rfl) <| Wz (.y x10_2.Kind) (Old rfl) <| Wz (.b (decide (((x10_2.Kind.toNat : Nat) : Int) = 8))) (Ob2 (.int .u8 ((x10_2.Kind.toNat : Nat) : Int)) (.int .u8 8) rfl (fun _ => hb_eql)) <| Nk 16872 3 ⟨tp 3 (.own 0::tp 1 (.loc 1 0::.l enc_GNode_ p0::.i ((List.length p0 : Nat) : Int)::.i y8_1::tp 5 (.b (decide (((x10_2.Kind.toNat : Nat) : Int) = 8))::tp 10 []))), [(Ar 9 1 encS y3_1), (.box [(.y x10_2.Kind), (.y x10_2.Op), (.s x10_2.Var), (.s x10_2.Name), (.y x10_2.Val.Kind), (.i x10_2.Val.N), (.u x10_2.Val.Bits), (.s x10_2.Val.Text)])], 0⟩ ?_
   rcases tf_ (decide (((x10_2.Kind.toNat : Nat) : Int) = 8)) with hc14_7 | hc14_7
   ·
    replace hm := cT hc14_7 hm
    refine AiT hc14_7 <| Tx <| Wm (.own 0) rfl <| Wz (.loc 1 2) (Ofa rfl) <| Wz (.s x10_2.Var) (Old rfl) <| Wy (.own 2) [(2, (Ar 9 1 encS ([x10_2.Var] : List (List UInt8))))] (Obs rfl) ?_
    obtain ⟨a19_3, ha19_3, hm⟩ := bnd hm; obtain ⟨ha19_3e, ha19_3l⟩ := app_some ha19_3
    refine Wy (.own 3) [(0, .gone), (3, (Ar 9 1 encS a19_3))] (Oap rfl elemOK_41 encS_len ha19_3e ha19_3l) <| Wm (.own 3) rfl <| Wn0 <| Ino <| Tk 456 8 ⟨tp 3 (.own 3::tp 2 (.l enc_GNode_ p0::.i ((List.length p0 : Nat) : Int)::.i y8_1::tp 16 [])), [.gone, .gone, .gone, (Ar 9 1 encS a19_3)], 0⟩ <| Tx <| Wz (.i (W6 (y8_1 + 1))) (Obn rfl (fun _ => hb_add (k := .i64))) <| Wm (.i (W6 (y8_1 + 1))) rfl <| Wn0 <| RoundK.normal ?_
    exact Rounds.weak (Weak.toK 456 0 0 [3]) (ih_1 (fu_1, a19_3, (W6 (y8_1 + 1))) hm (Nat.lt_succ_self _))
   ·
    replace hm := cF hc14_7 hm
    refine AiF hc14_7 <| Sk <| Ino <| Tk 456 1 ⟨tp 3 (.own 0::tp 2 (.l enc_GNode_ p0::.i ((List.length p0 : Nat) : Int)::.i y8_1::tp 16 [])), [(Ar 9 1 encS y3_1), .gone], 0⟩ <| Tx <| Wz (.i (W6 (y8_1 + 1))) (Obn rfl (fun _ => hb_add (k := .i64))) <| Wm (.i (W6 (y8_1 + 1))) rfl <| Wn0 <| RoundK.normal ?_
    exact Rounds.weak (Weak.toK 456 0 0 [0]) (ih_1 (fu_1, y3_1, (W6 (y8_1 + 1))) hm (Nat.lt_succ_self _))
  ·
   replace hm := cF hc9_6 hm
   refine AiF hc9_6 <| AWP.exit <| Then.exit <| RoundK.exit <| InBlock.same <| Tk 8 1 ⟨tp 3 (.own 0::tp 21 []), [(Ar 9 1 encS y3_1)], 0⟩ <| Sx <| Wm (.own 0) rfl ?_
   obtain ⟨r22_4, hr22_4, hm⟩ := bnd hm
   refine Wy (.tup []) [(0, (Ar 9 1 encS r22_4))] (Ocf [0] [] [] 0 (ok_slices_Sort_string y3_1 r22_4 hr22_4) (fun a w => Try.call30 a w) rfl ⟨rfl, trivial⟩) <| Nk 8 1 ⟨tp 3 (.own 0::tp 21 []), [(Ar 9 1 encS r22_4)], 0⟩ <| Sx <| Wm (.own 0) rfl ?_
   obtain ⟨r24_5, hr24_5, hm⟩ := bnd hm
   refine Wy (.l encS r24_5) [(0, .gone)] (Ocf [0] [] [] 0 (ok_slices_Compact_string r22_4 r24_5 hr24_5) (fun a w => Try.call31 a w) rfl ⟨rfl, trivial⟩) <| Wm (.l encS r24_5) rfl <| Nn <| Rt ?_
   obtain rfl := Option.some.inj hm
   exact ret_i []

theorem ok_pred_Node_stands (p0 : GNode_) (p1 : Int) (r : Bool) (h : m_pred_Node_stands p0 p1 = some r) : GCall Try.prog 35 [(.agg [(.y p0.Kind), (.y p0.Op), (.s p0.Var), (.s p0.Name), (.y p0.Val.Kind), (.i p0.Val.N), (.u p0.Val.Bits), (.s p0.Val.Text)]), (.i p1)] [] (.b r) [] := by
 refine GCall.of_body (n := 34) (rs := [(.tmp 4)]) Try.func35 rfl rfl rfl <| Ato ⟨.agg [(.y p0.Kind), (.y p0.Op), (.s p0.Var), (.s p0.Name), (.y p0.Val.Kind), (.i p0.Val.N), (.u p0.Val.Bits), (.s p0.Val.Text)]::.i p1::tu 32 [], [], 0⟩ ?_
 have hm := h
 unfold m_pred_Node_stands at hm
 refine Sx <| Wy (.loc 0 0) [(0, (.box [(.y p0.Kind), (.y p0.Op), (.s p0.Var), (.s p0.Name), (.y p0.Val.Kind), (.i p0.Val.N), (.u p0.Val.Bits), (.s p0.Val.Text)]))] (Obx rfl) <| Wm (.b false) rfl <| Nk 6 1 ⟨tp 1 (.i p1::.loc 0 0::tp 31 []), [(.box [(.y p0.Kind), (.y p0.Op), (.s p0.Var), (.s p0.Name), (.y p0.Val.Kind), (.i p0.Val.N), (.u p0.Val.Bits), (.s p0.Val.Text)])], 0⟩ <| Sq <| Sx <| Wm (.i p1) rfl <| Nk 36 1 ⟨tp 2 (.loc 0 0::tp 2 (.i p1::tp 28 [])), [(.box [(.y p0.Kind), (.y p0.Op), (.s p0.Var), (.s p0.Name), (.y p0.Val.Kind), (.i p0.Val.N), (.u p0.Val.Bits), (.s p0.Val.Text)])], 0⟩ <| Bk <| Sx <| Wz (.b (decide (p1 = 0))) (Obn rfl (fun _ => hb_eql (k := .i64))) <| Wm (.b (decide (p1 = 0))) rfl <| Nk 100 1 ⟨tp 2 (.loc 0 0::tp 2 (.i p1::.b (decide (p1 = 0))::tp 27 [])), [(.box [(.y p0.Kind), (.y p0.Op), (.s p0.Var), (.s p0.Name), (.y p0.Val.Kind), (.i p0.Val.N), (.u p0.Val.Bits), (.s p0.Val.Text)])], 0⟩ ?_
 rcases tf_ (decide (p1 = 0)) with hc6_3 | hc6_3
 ·
  replace hm := cT hc6_3 hm
  refine AiT hc6_3 <| Sx <| Wz (.loc 0 0) (Ofa rfl) <| Wz (.y p0.Kind) (Old rfl) <| Wz (.b (decide ((1 : Int) ≤ ((p0.Kind.toNat : Nat) : Int)))) (Ob2 (.int .u8 1) (.int .u8 ((p0.Kind.toNat : Nat) : Int)) rfl (fun _ => hb_leq)) ?_
  rcases tf_ (decide ((1 : Int) ≤ ((p0.Kind.toNat : Nat) : Int))) with hq11_0 | hq11_0
  ·
   replace hm := cT hq11_0 hm
   refine Wz (.b true) (Oq hq11_0 rfl) <| Wz (.loc 0 0) (Ofa rfl) <| Wz (.y p0.Kind) (Old rfl) <| Wz (.b (decide (((p0.Kind.toNat : Nat) : Int) ≤ 4))) (Ob2 (.int .u8 ((p0.Kind.toNat : Nat) : Int)) (.int .u8 4) rfl (fun _ => hb_leq)) <| Wz (.b (decide (((p0.Kind.toNat : Nat) : Int) ≤ 4))) (OpT rfl) <| Wm (.b (decide (((p0.Kind.toNat : Nat) : Int) ≤ 4))) rfl <| Nn <| Rt <| Ir <| Tr ?_
   obtain rfl := Option.some.inj hm
   exact ret_i []
  ·
   replace hm := cF hq11_0 hm
   refine Wz (.b false) (Oq hq11_0 rfl) <| Wn <| Wn <| Wn <| Wz (.b false) (OpF rfl) <| Wm (.b false) rfl <| Nn <| Rt <| Ir <| Tr ?_
   obtain rfl := Option.some.inj hm
   exact ret_i []
 ·
  replace hm := cF hc6_3 hm
  refine AiF hc6_3 <| Sx <| Wz (.b (decide (p1 = 1))) (Obn rfl (fun _ => hb_eql (k := .i64))) <| Wm (.b (decide (p1 = 1))) rfl <| Nk 65540 1 ⟨tp 2 (.loc 0 0::tp 13 (.b (decide (p1 = 1))::tp 17 [])), [(.box [(.y p0.Kind), (.y p0.Op), (.s p0.Var), (.s p0.Name), (.y p0.Val.Kind), (.i p0.Val.N), (.u p0.Val.Bits), (.s p0.Val.Text)])], 0⟩ ?_
  rcases tf_ (decide (p1 = 1)) with hc16_4 | hc16_4
  ·
   replace hm := cT hc16_4 hm
   refine AiT hc16_4 <| Sx <| Wz (.loc 0 0) (Ofa rfl) <| Wz (.y p0.Kind) (Old rfl) <| Wz (.b (decide ((5 : Int) ≤ ((p0.Kind.toNat : Nat) : Int)))) (Ob2 (.int .u8 5) (.int .u8 ((p0.Kind.toNat : Nat) : Int)) rfl (fun _ => hb_leq)) ?_
   rcases tf_ (decide ((5 : Int) ≤ ((p0.Kind.toNat : Nat) : Int))) with hq21_1 | hq21_1
   ·
    replace hm := cT hq21_1 hm
    refine Wz (.b true) (Oq hq21_1 rfl) <| Wz (.loc 0 0) (Ofa rfl) <| Wz (.y p0.Kind) (Old rfl) <| Wz (.b (decide (((p0.Kind.toNat : Nat) : Int) ≤ 9))) (Ob2 (.int .u8 ((p0.Kind.toNat : Nat) : Int)) (.int .u8 9) rfl (fun _ => hb_leq)) <| Wz (.b (decide (((p0.Kind.toNat : Nat) : Int) ≤ 9))) (OpT rfl) <| Wm (.b (decide (((p0.Kind.toNat : Nat) : Int) ≤ 9))) rfl <| Nn <| Rt <| Ir <| Tr ?_
    obtain rfl := Option.some.inj hm
    exact ret_i []
   ·
    replace hm := cF hq21_1 hm
    refine Wz (.b false) (Oq hq21_1 rfl) <| Wn <| Wn <| Wn <| Wz (.b false) (OpF rfl) <| Wm (.b false) rfl <| Nn <| Rt <| Ir <| Tr ?_
    obtain rfl := Option.some.inj hm
    exact ret_i []
  ·
   replace hm := cF hc16_4 hm
   refine AiF hc16_4 <| Sk <| Ino <| Tk 4 1 ⟨tp 2 (.loc 0 0::tp 31 []), [(.box [(.y p0.Kind), (.y p0.Op), (.s p0.Var), (.s p0.Name), (.y p0.Val.Kind), (.i p0.Val.N), (.u p0.Val.Bits), (.s p0.Val.Text)])], 0⟩ <| Sx <| Wz (.loc 0 0) (Ofa rfl) <| Wz (.y p0.Kind) (Old rfl) <| Wz (.b (decide ((7 : Int) ≤ ((p0.Kind.toNat : Nat) : Int)))) (Ob2 (.int .u8 7) (.int .u8 ((p0.Kind.toNat : Nat) : Int)) rfl (fun _ => hb_leq)) ?_
   rcases tf_ (decide ((7 : Int) ≤ ((p0.Kind.toNat : Nat) : Int))) with hq29_2 | hq29_2
   ·
    replace hm := cT hq29_2 hm
    refine Wz (.b true) (Oq hq29_2 rfl) <| Wz (.loc 0 0) (Ofa rfl) <| Wz (.y p0.Kind) (Old rfl) <| Wz (.b (decide (((p0.Kind.toNat : Nat) : Int) ≤ 9))) (Ob2 (.int .u8 ((p0.Kind.toNat : Nat) : Int)) (.int .u8 9) rfl (fun _ => hb_leq)) <| Wz (.b (decide (((p0.Kind.toNat : Nat) : Int) ≤ 9))) (OpT rfl) <| Wm (.b (decide (((p0.Kind.toNat : Nat) : Int) ≤ 9))) rfl <| Nn <| Rt ?_
    obtain rfl := Option.some.inj hm
    exact ret_i []
   ·
    replace hm := cF hq29_2 hm
    refine Wz (.b false) (Oq hq29_2 rfl) <| Wn <| Wn <| Wn <| Wz (.b false) (OpF rfl) <| Wm (.b false) rfl <| Nn <| Rt ?_
    obtain rfl := Option.some.inj hm
    exact ret_i []

theorem ok_compare_Sign (p0 : UInt8) (r : (List UInt8)) (h : m_compare_Sign p0 = some r) : GCall Try.prog 45 [(.y p0)] [] (.s r) [] := by
 refine GCall.of_body (n := 16) (rs := [(.tmp 2)]) Try.func45 rfl rfl rfl <| Ato ⟨.y p0::tu 15 [], [], 0⟩ ?_
 have hm := h
 unfold m_compare_Sign at hm
 refine Sx <| Wm (.s ([] : List UInt8)) rfl <| Nk 1 0 ⟨.y p0::tp 15 [], [], 0⟩ <| Sq <| Sx <| Wm (.y p0) rfl <| Nk 8 0 ⟨tp 3 (.y p0::tp 12 []), [], 0⟩ <| Bk <| Sx <| Wz (.b (decide (((p0.toNat : Nat) : Int) = 1))) (Ob2 (.int .u8 ((p0.toNat : Nat) : Int)) (.int .u8 1) rfl (fun _ => hb_eql)) <| Wm (.b (decide (((p0.toNat : Nat) : Int) = 1))) rfl <| Nk 24 0 ⟨tp 3 (.y p0::.b (decide (((p0.toNat : Nat) : Int) = 1))::tp 11 []), [], 0⟩ ?_
 rcases tf_ (decide (((p0.toNat : Nat) : Int) = 1)) with hc4_0 | hc4_0
 ·
  replace hm := cT hc4_0 hm
  refine AiT hc4_0 <| Sx <| Wm (.s ([61] : List UInt8)) rfl <| Nn <| Rt <| Ir <| Tr ?_
  obtain rfl := Option.some.inj hm
  exact ret_i []
 ·
  replace hm := cF hc4_0 hm
  refine AiF hc4_0 <| Sx <| Wz (.b (decide (((p0.toNat : Nat) : Int) = 2))) (Ob2 (.int .u8 ((p0.toNat : Nat) : Int)) (.int .u8 2) rfl (fun _ => hb_eql)) <| Wm (.b (decide (((p0.toNat : Nat) : Int) = 2))) rfl <| Nk 72 0 ⟨tp 3 (.y p0::tp 2 (.b (decide (((p0.toNat : Nat) : Int) = 2))::tp 9 [])), [], 0⟩ ?_
  rcases tf_ (decide (((p0.toNat : Nat) : Int) = 2)) with hc6_1 | hc6_1
  ·
   replace hm := cT hc6_1 hm
   refine AiT hc6_1 <| Sx <| Wm (.s ([33, 61] : List UInt8)) rfl <| Nn <| Rt <| Ir <| Tr ?_
   obtain rfl := Option.some.inj hm
   exact ret_i []
  ·
   replace hm := cF hc6_1 hm
   refine AiF hc6_1 <| Sx <| Wz (.b (decide (((p0.toNat : Nat) : Int) = 3))) (Ob2 (.int .u8 ((p0.toNat : Nat) : Int)) (.int .u8 3) rfl (fun _ => hb_eql)) <| Wm (.b (decide (((p0.toNat : Nat) : Int) = 3))) rfl <| Nk 264 0 ⟨tp 3 (.y p0::tp 4 (.b (decide (((p0.toNat : Nat) : Int) = 3))::tp 7 [])), [], 0⟩ ?_
   rcases tf_ (decide (((p0.toNat : Nat) : Int) = 3)) with hc8_2 | hc8_2
   ·
    replace hm := cT hc8_2 hm
    refine AiT hc8_2 <| Sx <| Wm (.s ([60] : List UInt8)) rfl <| Nn <| Rt <| Ir <| Tr ?_
    obtain rfl := Option.some.inj hm
    exact ret_i []
   ·
    replace hm := cF hc8_2 hm
    refine AiF hc8_2 <| Sx <| Wz (.b (decide (((p0.toNat : Nat) : Int) = 4))) (Ob2 (.int .u8 ((p0.toNat : Nat) : Int)) (.int .u8 4) rfl (fun _ => hb_eql)) <| Wm (.b (decide (((p0.toNat : Nat) : Int) = 4))) rfl <| Nk 1032 0 ⟨tp 3 (.y p0::tp 6 (.b (decide (((p0.toNat : Nat) : Int) = 4))::tp 5 [])), [], 0⟩ ?_
    rcases tf_ (decide (((p0.toNat : Nat) : Int) = 4)) with hc10_3 | hc10_3
    ·
     replace hm := cT hc10_3 hm
     refine AiT hc10_3 <| Sx <| Wm (.s ([60, 61] : List UInt8)) rfl <| Nn <| Rt <| Ir <| Tr ?_
     obtain rfl := Option.some.inj hm
     exact ret_i []
    ·
     replace hm := cF hc10_3 hm
     refine AiF hc10_3 <| Sx <| Wz (.b (decide (((p0.toNat : Nat) : Int) = 5))) (Ob2 (.int .u8 ((p0.toNat : Nat) : Int)) (.int .u8 5) rfl (fun _ => hb_eql)) <| Wm (.b (decide (((p0.toNat : Nat) : Int) = 5))) rfl <| Nk 4104 0 ⟨tp 3 (.y p0::tp 8 (.b (decide (((p0.toNat : Nat) : Int) = 5))::tp 3 [])), [], 0⟩ ?_
     rcases tf_ (decide (((p0.toNat : Nat) : Int) = 5)) with hc12_4 | hc12_4
     ·
      replace hm := cT hc12_4 hm
      refine AiT hc12_4 <| Sx <| Wm (.s ([62] : List UInt8)) rfl <| Nn <| Rt <| Ir <| Tr ?_
      obtain rfl := Option.some.inj hm
      exact ret_i []
     ·
      replace hm := cF hc12_4 hm
      refine AiF hc12_4 <| Sx <| Wz (.b (decide (((p0.toNat : Nat) : Int) = 6))) (Ob2 (.int .u8 ((p0.toNat : Nat) : Int)) (.int .u8 6) rfl (fun _ => hb_eql)) <| Wm (.b (decide (((p0.toNat : Nat) : Int) = 6))) rfl <| Nk 16384 0 ⟨tp 14 (.b (decide (((p0.toNat : Nat) : Int) = 6))::tp 1 []), [], 0⟩ ?_
      rcases tf_ (decide (((p0.toNat : Nat) : Int) = 6)) with hc14_5 | hc14_5
      ·
       replace hm := cT hc14_5 hm
       refine AiT hc14_5 <| Sx <| Wm (.s ([62, 61] : List UInt8)) rfl <| Nn <| Rt <| Ir <| Tr ?_
       obtain rfl := Option.some.inj hm
       exact ret_i []
      ·
       replace hm := cF hc14_5 hm
       refine AiF hc14_5 <| Sk <| Ino <| Tk 0 0 ⟨tp 16 [], [], 0⟩ <| Sx <| Wm (.s ([] : List UInt8)) rfl <| Nn <| Rt ?_
       obtain rfl := Option.some.inj hm
       exact ret_i []

theorem ok_schema_letter (p0 : UInt8) (r : Bool) (h : m_schema_letter p0 = some r) : GCall Try.prog 72 [(.y p0)] [] (.b r) [] := by
 refine GCall.of_body (n := 9) (rs := [(.tmp 2)]) Try.func72 rfl rfl rfl <| Ato ⟨.y p0::tu 8 [], [], 0⟩ ?_
 have hm := h
 unfold m_schema_letter at hm
 refine Sx <| Wm (.b false) rfl <| Nk 1 0 ⟨.y p0::tp 8 [], [], 0⟩ <| Sx <| Wm (.y p0) rfl <| Wz (.b (decide ((97 : Int) ≤ ((p0.toNat : Nat) : Int)))) (Ob2 (.int .u8 97) (.int .u8 ((p0.toNat : Nat) : Int)) rfl (fun _ => hb_leq)) ?_
 rcases tf_ (decide ((97 : Int) ≤ ((p0.toNat : Nat) : Int))) with hq5_0 | hq5_0
 ·
  replace hm := cT hq5_0 hm
  refine Wz (.b true) (Oq hq5_0 rfl) <| Wm (.y p0) rfl <| Wz (.b (decide (((p0.toNat : Nat) : Int) ≤ 122))) (Ob2 (.int .u8 ((p0.toNat : Nat) : Int)) (.int .u8 122) rfl (fun _ => hb_leq)) <| Wz (.b (decide (((p0.toNat : Nat) : Int) ≤ 122))) (OpT rfl) <| Wm (.b (decide (((p0.toNat : Nat) : Int) ≤ 122))) rfl <| Nn <| Rt ?_
  obtain rfl := Option.some.inj hm
  exact ret_i []
 ·
  replace hm := cF hq5_0 hm
  refine Wz (.b false) (Oq hq5_0 rfl) <| Wn <| Wn <| Wz (.b false) (OpF rfl) <| Wm (.b false) rfl <| Nn <| Rt ?_
  obtain rfl := Option.some.inj hm
  exact ret_i []

theorem ok_schema_Reserved (p0 : (List UInt8)) (r : Bool) (h : m_schema_Reserved p0 = some r) : GCall Try.prog 73 [(.s p0)] [] (.b r) [] := by
 refine GCall.of_body (n := 15) (rs := [(.tmp 2)]) Try.func73 rfl rfl rfl <| Ato ⟨.s p0::tu 14 [], [], 0⟩ ?_
 have hm := h
 unfold m_schema_Reserved at hm
 refine Sx <| Wm (.b false) rfl <| Nk 1 0 ⟨.s p0::tp 14 [], [], 0⟩ <| Sq <| Sx <| Wm (.s p0) rfl <| Nk 8 0 ⟨tp 3 (.s p0::tp 11 []), [], 0⟩ <| Bk ?_
 refine AWP.cutJ (α := Bool) (fun x => match x with | y4_0 => (⟨tp 4 (.b y4_0::tp 10 []), [], 0⟩ : St)) (fun x => match x with | y4_0 => m_schema_Reserved_j0  y4_0 = some r) ?_ (fun J0 => ?_)
 ·
  rintro y4_0 hm
  try dsimp only at hm ⊢
  unfold m_schema_Reserved_j0 at hm
  rcases tf_ y4_0 with hc4_0 | hc4_0
  ·
   replace hm := cT hc4_0 hm
   refine AiT hc4_0 <| Sx <| Wm (.b true) rfl <| Nn <| Rt <| Ir <| Tr ?_
   obtain rfl := Option.some.inj hm
   exact ret_i []
  ·
   replace hm := cF hc4_0 hm
   refine AiF hc4_0 <| Sk <| Ino <| Tk 0 0 ⟨tp 15 [], [], 0⟩ <| Sx <| Wm (.b false) rfl <| Nn <| Rt ?_
   obtain rfl := Option.some.inj hm
   exact ret_i []
 refine Sq <| Sx <| Wz (.b (decide (p0 = ([119, 105, 116, 104, 105, 110] : List UInt8)))) (Ocs (lit_tf (by simp only [toS_inj, ne_eq])) (op_bin rfl (a1 := .string (toS p0)) (a2 := .string (toS ([119, 105, 116, 104, 105, 110] : List UInt8))) (by kernel_rfl) (by kernel_rfl) (fun _ => hb_seql))) <| Wm (.b (decide (p0 = ([119, 105, 116, 104, 105, 110] : List UInt8)))) rfl <| Nk 24 0 ⟨tp 3 (.s p0::.b (decide (p0 = ([119, 105, 116, 104, 105, 110] : List UInt8)))::tp 10 []), [], 0⟩ ?_
 rcases tf_ (decide (p0 = ([119, 105, 116, 104, 105, 110] : List UInt8))) with hc4_1 | hc4_1
 ·
  replace hm := cT hc4_1 hm
  refine AiT hc4_1 <| Sk <| Tn ?_
  exact AWP.weak (Weak.toK 16 0 0 []) (J0 (decide (p0 = ([119, 105, 116, 104, 105, 110] : List UInt8))) hm)
 ·
  replace hm := cF hc4_1 hm
  refine AiF hc4_1 <| Sx <| Wz (.b (decide (p0 = ([98, 121] : List UInt8)))) (Ocs (lit_tf (by simp only [toS_inj, ne_eq])) (op_bin rfl (a1 := .string (toS p0)) (a2 := .string (toS ([98, 121] : List UInt8))) (by kernel_rfl) (by kernel_rfl) (fun _ => hb_seql))) <| Wm (.b (decide (p0 = ([98, 121] : List UInt8)))) rfl <| Nk 24 0 ⟨tp 3 (.s p0::.b (decide (p0 = ([98, 121] : List UInt8)))::tp 10 []), [], 0⟩ ?_
  rcases tf_ (decide (p0 = ([98, 121] : List UInt8))) with hc4_2 | hc4_2
  ·
   replace hm := cT hc4_2 hm
   refine AiT hc4_2 <| Sk <| Tn ?_
   exact AWP.weak (Weak.toK 16 0 0 []) (J0 (decide (p0 = ([98, 121] : List UInt8))) hm)
  ·
   replace hm := cF hc4_2 hm
   refine AiF hc4_2 <| Sx <| Wz (.b (decide (p0 = ([97, 110, 100] : List UInt8)))) (Ocs (lit_tf (by simp only [toS_inj, ne_eq])) (op_bin rfl (a1 := .string (toS p0)) (a2 := .string (toS ([97, 110, 100] : List UInt8))) (by kernel_rfl) (by kernel_rfl) (fun _ => hb_seql))) <| Wm (.b (decide (p0 = ([97, 110, 100] : List UInt8)))) rfl <| Nk 24 0 ⟨tp 3 (.s p0::.b (decide (p0 = ([97, 110, 100] : List UInt8)))::tp 10 []), [], 0⟩ ?_
   rcases tf_ (decide (p0 = ([97, 110, 100] : List UInt8))) with hc4_3 | hc4_3
   ·
    replace hm := cT hc4_3 hm
    refine AiT hc4_3 <| Sk <| Tn ?_
    exact AWP.weak (Weak.toK 16 0 0 []) (J0 (decide (p0 = ([97, 110, 100] : List UInt8))) hm)
   ·
    replace hm := cF hc4_3 hm
    refine AiF hc4_3 <| Sx <| Wz (.b (decide (p0 = ([111, 114] : List UInt8)))) (Ocs (lit_tf (by simp only [toS_inj, ne_eq])) (op_bin rfl (a1 := .string (toS p0)) (a2 := .string (toS ([111, 114] : List UInt8))) (by kernel_rfl) (by kernel_rfl) (fun _ => hb_seql))) <| Wm (.b (decide (p0 = ([111, 114] : List UInt8)))) rfl <| Nk 24 0 ⟨tp 3 (.s p0::.b (decide (p0 = ([111, 114] : List UInt8)))::tp 10 []), [], 0⟩ ?_
    rcases tf_ (decide (p0 = ([111, 114] : List UInt8))) with hc4_4 | hc4_4
    ·
     replace hm := cT hc4_4 hm
     refine AiT hc4_4 <| Sk <| Tn ?_
     exact AWP.weak (Weak.toK 16 0 0 []) (J0 (decide (p0 = ([111, 114] : List UInt8))) hm)
    ·
     replace hm := cF hc4_4 hm
     refine AiF hc4_4 <| Sx <| Wz (.b (decide (p0 = ([110, 111, 116] : List UInt8)))) (Ocs (lit_tf (by simp only [toS_inj, ne_eq])) (op_bin rfl (a1 := .string (toS p0)) (a2 := .string (toS ([110, 111, 116] : List UInt8))) (by kernel_rfl) (by kernel_rfl) (fun _ => hb_seql))) <| Wm (.b (decide (p0 = ([110, 111, 116] : List UInt8)))) rfl <| Nk 24 0 ⟨tp 3 (.s p0::.b (decide (p0 = ([110, 111, 116] : List UInt8)))::tp 10 []), [], 0⟩ ?_
     rcases tf_ (decide (p0 = ([110, 111, 116] : List UInt8))) with hc4_5 | hc4_5
     ·
      replace hm := cT hc4_5 hm
      refine AiT hc4_5 <| Sk <| Tn ?_
      exact AWP.weak (Weak.toK 16 0 0 []) (J0 (decide (p0 = ([110, 111, 116] : List UInt8))) hm)
     ·
      replace hm := cF hc4_5 hm
      refine AiF hc4_5 <| Sx <| Wz (.b (decide (p0 = ([97, 110, 121] : List UInt8)))) (Ocs (lit_tf (by simp only [toS_inj, ne_eq])) (op_bin rfl (a1 := .string (toS p0)) (a2 := .string (toS ([97, 110, 121] : List UInt8))) (by kernel_rfl) (by kernel_rfl) (fun _ => hb_seql))) <| Wm (.b (decide (p0 = ([97, 110, 121] : List UInt8)))) rfl <| Nk 24 0 ⟨tp 3 (.s p0::.b (decide (p0 = ([97, 110, 121] : List UInt8)))::tp 10 []), [], 0⟩ ?_
      rcases tf_ (decide (p0 = ([97, 110, 121] : List UInt8))) with hc4_6 | hc4_6
      ·
       replace hm := cT hc4_6 hm
       refine AiT hc4_6 <| Sk <| Tn ?_
       exact AWP.weak (Weak.toK 16 0 0 []) (J0 (decide (p0 = ([97, 110, 121] : List UInt8))) hm)
      ·
       replace hm := cF hc4_6 hm
       refine AiF hc4_6 <| Sx <| Wz (.b (decide (p0 = ([110, 101, 120, 116] : List UInt8)))) (Ocs (lit_tf (by simp only [toS_inj, ne_eq])) (op_bin rfl (a1 := .string (toS p0)) (a2 := .string (toS ([110, 101, 120, 116] : List UInt8))) (by kernel_rfl) (by kernel_rfl) (fun _ => hb_seql))) <| Wm (.b (decide (p0 = ([110, 101, 120, 116] : List UInt8)))) rfl <| Nk 24 0 ⟨tp 3 (.s p0::.b (decide (p0 = ([110, 101, 120, 116] : List UInt8)))::tp 10 []), [], 0⟩ ?_
       rcases tf_ (decide (p0 = ([110, 101, 120, 116] : List UInt8))) with hc4_7 | hc4_7
       ·
        replace hm := cT hc4_7 hm
        refine AiT hc4_7 <| Sk <| Tn ?_
        exact AWP.weak (Weak.toK 16 0 0 []) (J0 (decide (p0 = ([110, 101, 120, 116] : List UInt8))) hm)
       ·
        replace hm := cF hc4_7 hm
        refine AiF hc4_7 <| Sx <| Wz (.b (decide (p0 = ([115, 116, 114, 105, 99, 116] : List UInt8)))) (Ocs (lit_tf (by simp only [toS_inj, ne_eq])) (op_bin rfl (a1 := .string (toS p0)) (a2 := .string (toS ([115, 116, 114, 105, 99, 116] : List UInt8))) (by kernel_rfl) (by kernel_rfl) (fun _ => hb_seql))) <| Wm (.b (decide (p0 = ([115, 116, 114, 105, 99, 116] : List UInt8)))) rfl <| Nk 24 0 ⟨tp 3 (.s p0::.b (decide (p0 = ([115, 116, 114, 105, 99, 116] : List UInt8)))::tp 10 []), [], 0⟩ ?_
        rcases tf_ (decide (p0 = ([115, 116, 114, 105, 99, 116] : List UInt8))) with hc4_8 | hc4_8
        ·
         replace hm := cT hc4_8 hm
         refine AiT hc4_8 <| Sk <| Tn ?_
         exact AWP.weak (Weak.toK 16 0 0 []) (J0 (decide (p0 = ([115, 116, 114, 105, 99, 116] : List UInt8))) hm)
        ·
         replace hm := cF hc4_8 hm
         refine AiF hc4_8 <| Sx <| Wz (.b (decide (p0 = ([116, 114, 117, 101] : List UInt8)))) (Ocs (lit_tf (by simp only [toS_inj, ne_eq])) (op_bin rfl (a1 := .string (toS p0)) (a2 := .string (toS ([116, 114, 117, 101] : List UInt8))) (by kernel_rfl) (by kernel_rfl) (fun _ => hb_seql))) <| Wm (.b (decide (p0 = ([116, 114, 117, 101] : List UInt8)))) rfl <| Nk 24 0 ⟨tp 3 (.s p0::.b (decide (p0 = ([116, 114, 117, 101] : List UInt8)))::tp 10 []), [], 0⟩ ?_
         rcases tf_ (decide (p0 = ([116, 114, 117, 101] : List UInt8))) with hc4_9 | hc4_9
         ·
          replace hm := cT hc4_9 hm
          refine AiT hc4_9 <| Sk <| Tn ?_
          exact AWP.weak (Weak.toK 16 0 0 []) (J0 (decide (p0 = ([116, 114, 117, 101] : List UInt8))) hm)
         ·
          replace hm := cF hc4_9 hm
          refine AiF hc4_9 <| Tx <| Wz (.b (decide (p0 = ([102, 97, 108, 115, 101] : List UInt8)))) (Ocs (lit_tf (by simp only [toS_inj, ne_eq])) (op_bin rfl (a1 := .string (toS p0)) (a2 := .string (toS ([102, 97, 108, 115, 101] : List UInt8))) (by kernel_rfl) (by kernel_rfl) (fun _ => hb_seql))) <| Wm (.b (decide (p0 = ([102, 97, 108, 115, 101] : List UInt8)))) rfl <| Nn ?_
          exact AWP.weak (Weak.toK 16 0 0 []) (J0 (decide (p0 = ([102, 97, 108, 115, 101] : List UInt8))) hm)

theorem ok_schema_tail (p0 : UInt8) (r : Bool) (h : m_schema_tail p0 = some r) : GCall Try.prog 74 [(.y p0)] [] (.b r) [] := by
 refine GCall.of_body (n := 17) (rs := [(.tmp 2)]) Try.func74 rfl rfl rfl <| Ato ⟨.y p0::tu 16 [], [], 0⟩ ?_
 have hm := h
 unfold m_schema_tail at hm
 refine Sx <| Wm (.b false) rfl <| Nk 1 0 ⟨.y p0::tp 16 [], [], 0⟩ <| Sx <| Wm (.y p0) rfl ?_
 obtain ⟨r4_0, hr4_0, hm⟩ := bnd hm
 refine Wz (.b r4_0) (Ocf [] [] [] 0 (ok_schema_letter p0 r4_0 hr4_0) (fun a w => Try.call72 a w) rfl trivial) ?_
 rcases tf_ r4_0 with hq5_0 | hq5_0
 ·
  replace hm := cT hq5_0 hm
  refine Wz (.b true) (Oq hq5_0 rfl) <| Wn <| Wn <| Wn <| Wn <| Wn <| Wn <| Wz (.b true) (OpT rfl) <| Wm (.b true) rfl <| Wn <| Wn <| Wz (.b true) (OpT rfl) <| Wm (.b true) rfl <| Nn ?_
  refine Rt ?_
  obtain rfl := Option.some.inj hm
  exact ret_i []
 ·
  replace hm := cF hq5_0 hm
  refine Wz (.b false) (Oq hq5_0 rfl) <| Wm (.y p0) rfl <| Wz (.b (decide ((48 : Int) ≤ ((p0.toNat : Nat) : Int)))) (Ob2 (.int .u8 48) (.int .u8 ((p0.toNat : Nat) : Int)) rfl (fun _ => hb_leq)) ?_
  rcases tf_ (decide ((48 : Int) ≤ ((p0.toNat : Nat) : Int))) with hq8_0 | hq8_0
  ·
   replace hm := cT hq8_0 hm
   refine Wz (.b true) (Oq hq8_0 rfl) <| Wm (.y p0) rfl <| Wz (.b (decide (((p0.toNat : Nat) : Int) ≤ 57))) (Ob2 (.int .u8 ((p0.toNat : Nat) : Int)) (.int .u8 57) rfl (fun _ => hb_leq)) <| Wz (.b (decide (((p0.toNat : Nat) : Int) ≤ 57))) (OpT rfl) <| Wz (.b (decide (((p0.toNat : Nat) : Int) ≤ 57))) (OpF rfl) ?_
   rcases tf_ (decide (((p0.toNat : Nat) : Int) ≤ 57)) with hq13_0 | hq13_0
   ·
    replace hm := cT hq13_0 hm
    refine Wz (.b true) (Oq hq13_0 rfl) <| Wn <| Wn <| Wz (.b true) (OpT rfl) <| Wm (.b true) rfl <| Nn <| Rt ?_
    obtain rfl := Option.some.inj hm
    exact ret_i []
   ·
    replace hm := cF hq13_0 hm
    refine Wz (.b false) (Oq hq13_0 rfl) <| Wm (.y p0) rfl <| Wz (.b (decide (((p0.toNat : Nat) : Int) = 95))) (Ob2 (.int .u8 ((p0.toNat : Nat) : Int)) (.int .u8 95) rfl (fun _ => hb_eql)) <| Wz (.b (decide (((p0.toNat : Nat) : Int) = 95))) (OpF rfl) <| Wm (.b (decide (((p0.toNat : Nat) : Int) = 95))) rfl <| Nn <| Rt ?_
    obtain rfl := Option.some.inj hm
    exact ret_i []
  ·
   replace hm := cF hq8_0 hm
   refine Wz (.b false) (Oq hq8_0 rfl) <| Wn <| Wn <| Wz (.b false) (OpF rfl) <| Wz (.b false) (OpF rfl) <| Wm (.b false) rfl <| Wm (.y p0) rfl <| Wz (.b (decide (((p0.toNat : Nat) : Int) = 95))) (Ob2 (.int .u8 ((p0.toNat : Nat) : Int)) (.int .u8 95) rfl (fun _ => hb_eql)) <| Wz (.b (decide (((p0.toNat : Nat) : Int) = 95))) (OpF rfl) <| Wm (.b (decide (((p0.toNat : Nat) : Int) = 95))) rfl <| Nn <| Rt ?_
   obtain rfl := Option.some.inj hm
   exact ret_i []

theorem ok_schema_Name (p0 : (List UInt8)) (r : Bool) (h : m_schema_Name p0 = some r) : GCall Try.prog 52 [(.s p0)] [] (.b r) [] := by
 refine GCall.of_body (n := 32) (rs := [(.tmp 2)]) Try.func52 rfl rfl rfl <| Ato ⟨.s p0::tu 31 [], [], 0⟩ ?_
 have hm := h
 unfold m_schema_Name at hm
 refine Sx <| Wm (.b false) rfl <| Nk 1 0 ⟨.s p0::tp 31 [], [], 0⟩ <| Sq ?_
 refine AWP.cutJ (α := Unit) (fun x => match x with | () => (⟨.s p0::tp 19 (.b true::tp 11 []), [], 0⟩ : St)) (fun x => match x with | () => m_schema_Name_j1  = some r) ?_ (fun J1 => ?_)
 ·
  rintro ⟨⟩ hm
  try dsimp only at hm ⊢
  unfold m_schema_Name_j1 at hm
  refine AWP.if_ true (by kernel_rfl) <| Sx <| Wm (.b false) rfl <| Nn <| Rt <| Tr ?_
  obtain rfl := Option.some.inj hm
  exact ret_i []
 refine Sx <| Wm (.s p0) rfl <| Wz (.b (decide (p0 = ([] : List UInt8)))) (Ocs (lit_tf (by simp only [toS_inj, ne_eq])) (op_bin rfl (a1 := .string (toS p0)) (a2 := .string (toS ([] : List UInt8))) (by kernel_rfl) (by kernel_rfl) (fun _ => hb_seql))) ?_
 rcases tf_ (decide (p0 = ([] : List UInt8))) with hq6_0 | hq6_0
 ·
  replace hm := cT hq6_0 hm
  refine Wz (.b true) (Oq hq6_0 rfl) <| Wn <| Wn <| Wn <| Wz (.b true) (OpT rfl) <| Wm (.b true) rfl <| Wn <| Wn <| Wn <| Wn <| Wz (.b true) (OpT rfl) <| Wm (.b true) rfl <| Wn <| Wn ?_
  refine Wz (.b true) (OpT rfl) <| Nn ?_
  exact AWP.weak (Weak.toK 1048577 0 0 []) (J1 () hm)
 ·
  replace hm := cF hq6_0 hm
  refine Wz (.b false) (Oq hq6_0 rfl) <| Wm (.s p0) rfl <| Wz (.i ((List.length p0 : Nat) : Int)) (Oln rfl) <| Wz (.b (decide ((12 : Int) < ((List.length p0 : Nat) : Int)))) (Obn rfl (fun _ => hb_gtr (k := .i64))) <| Wz (.b (decide ((12 : Int) < ((List.length p0 : Nat) : Int)))) (OpF rfl) ?_
  rcases tf_ (decide ((12 : Int) < ((List.length p0 : Nat) : Int))) with hq11_0 | hq11_0
  ·
   replace hm := cT hq11_0 hm
   refine Wz (.b true) (Oq hq11_0 rfl) <| Wn <| Wn <| Wn <| Wn <| Wz (.b true) (OpT rfl) <| Wm (.b true) rfl <| Wn <| Wn <| Wz (.b true) (OpT rfl) <| Nn ?_
   exact AWP.weak (Weak.toK 1048577 0 0 []) (J1 () hm)
  ·
   replace hm := cF hq11_0 hm
   refine Wz (.b false) (Oq hq11_0 rfl) <| Wm (.s p0) rfl ?_
   obtain ⟨x13_0, hx13_0, hm⟩ := bnd hm
   obtain ⟨hx13_0i, hx13_0g⟩ := geti_some hx13_0
   refine Wz (.y x13_0) (Ocs (by kernel_rfl) (op_index_str rfl (by kernel_rfl) (s := toS p0) (by kernel_rfl) (k := .i64) (iv := 0) (by kernel_rfl) (i := (Int.toNat 0)) (hx13_0i) (b := x13_0) (hx13_0g))) ?_
   obtain ⟨r14_0, hr14_0, hm⟩ := bnd hm
   refine Wz (.b r14_0) (Ocf [] [] [] 0 (ok_schema_letter x13_0 r14_0 hr14_0) (fun a w => Try.call72 a w) rfl trivial) <| Wz (.b (!r14_0)) (Ocs (by kernel_rfl) (op_un rfl (a1 := .bool r14_0) (by kernel_rfl) (fun _ => hu_not))) <| Wz (.b (!r14_0)) (OpF rfl) ?_
   rcases tf_ (!r14_0) with hq17_0 | hq17_0
   ·
    replace hm := cT hq17_0 hm
    refine Wz (.b true) (Oq hq17_0 rfl) <| Wn <| Wn <| Wz (.b true) (OpT rfl) <| Nn ?_
    exact AWP.weak (Weak.toK 1048577 0 0 []) (J1 () hm)
   ·
    replace hm := cF hq17_0 hm
    refine Wz (.b false) (Oq hq17_0 rfl) <| Wm (.s p0) rfl ?_
    obtain ⟨r19_0, hr19_0, hm⟩ := bnd hm
    refine Wz (.b r19_0) (Ocf [] [] [] 0 (ok_schema_Reserved p0 r19_0 hr19_0) (fun a w => Try.call73 a w) rfl trivial) <| Wz (.b r19_0) (OpF rfl) <| Nk 1048577 0 ⟨.s p0::tp 19 (.b r19_0::tp 11 []), [], 0⟩ ?_
    rcases tf_ r19_0 with hc20_5 | hc20_5
    ·
     replace hm := cT hc20_5 hm
     refine AiT hc20_5 <| Sx <| Wm (.b false) rfl <| Nn <| Rt <| Tr ?_
     obtain rfl := Option.some.inj hm
     exact ret_i []
    ·
     replace hm := cF hc20_5 hm
     refine AiF hc20_5 <| Sk <| Tk 1 0 ⟨.s p0::tp 31 [], [], 0⟩ <| Sq <| Sx <| Wm (.i 1) rfl <| Nk 9 0 ⟨.s p0::tp 2 (.i 1::tp 28 []), [], 0⟩ <| Bk ?_
     refine AWP.loopI (α := Nat × Int)
       (fun (fu_2, y3_2) => (⟨.s p0::tp 2 (.i y3_2::tp 28 []), [], 0⟩ : St))
       (fun (fu_2, y3_2) => m_schema_Name_l2 p0 fu_2 y3_2 = some r)
       (fun (fu_2, y3_2) => fu_2) (1152921504606846976, 1)
       (Weak.toK 9 0 0 []) hm ?_
     rintro ⟨fu_2, y3_2⟩ n_2 hm ih_2
     try dsimp only at hm ih_2 ⊢
     cases fu_2 with
     | zero => exact absurd hm (by unfold m_schema_Name_l2; simp)
     | succ fu_2 =>
      unfold m_schema_Name_l2 at hm
      refine Sq <| Sx <| Wm (.i y3_2) rfl <| Wm (.s p0) rfl <| Wz (.i ((List.length p0 : Nat) : Int)) (Oln rfl) <| Wz (.b (decide (y3_2 < ((List.length p0 : Nat) : Int)))) (Obn rfl (fun _ => hb_lss (k := .i64))) <| Nk 16777225 0 ⟨.s p0::tp 2 (.i y3_2::tp 20 (.b (decide (y3_2 < ((List.length p0 : Nat) : Int)))::tp 7 [])), [], 0⟩ ?_
      rcases tf_ (decide (y3_2 < ((List.length p0 : Nat) : Int))) with hc24_6 | hc24_6
      ·
       replace hm := cT hc24_6 hm
       refine AiT hc24_6 <| Sk <| Tk 9 0 ⟨.s p0::tp 2 (.i y3_2::tp 28 []), [], 0⟩ <| Sq <| Bk <| Sx <| Wm (.s p0) rfl <| Wm (.i y3_2) rfl ?_
       obtain ⟨x29_4, hx29_4, hm⟩ := bnd hm
       obtain ⟨hx29_4i, hx29_4g⟩ := geti_some hx29_4
       refine Wz (.y x29_4) (Ocs (by kernel_rfl) (op_index_str rfl (by kernel_rfl) (s := toS p0) (by kernel_rfl) (k := .i64) (iv := y3_2) (by kernel_rfl) (i := (Int.toNat y3_2)) (hx29_4i) (b := x29_4) (hx29_4g))) ?_
       obtain ⟨r30_4, hr30_4, hm⟩ := bnd hm
       refine Wz (.b r30_4) (Ocf [] [] [] 0 (ok_schema_tail x29_4 r30_4 hr30_4) (fun a w => Try.call74 a w) rfl trivial) <| Wz (.b (!r30_4)) (Ocs (by kernel_rfl) (op_un rfl (a1 := .bool r30_4) (by kernel_rfl) (fun _ => hu_not))) <| Nk 2147483657 0 ⟨.s p0::tp 2 (.i y3_2::tp 27 (.b (!r30_4)::[])), [], 0⟩ ?_
       rcases tf_ (!r30_4) with hc31_7 | hc31_7
       ·
        replace hm := cT hc31_7 hm
        refine AiT hc31_7 <| Sx <| Wm (.b false) rfl <| Nn <| Rt <| Ir <| Tr <| RoundK.ret <| Ir <| Tr ?_
        obtain rfl := Option.some.inj hm
        exact ret_i []
       ·
        replace hm := cF hc31_7 hm
        refine AiF hc31_7 <| Sk <| Ino <| Tk 9 0 ⟨.s p0::tp 2 (.i y3_2::tp 28 []), [], 0⟩ <| Tx <| Wm (.i y3_2) rfl <| Wz (.i (W6 (y3_2 + 1))) (Obn rfl (fun _ => hb_add (k := .i64))) <| Wm (.i (W6 (y3_2 + 1))) rfl <| Wn0 <| RoundK.normal ?_
        exact Rounds.weak (Weak.toK 9 0 0 []) (ih_2 (fu_2, (W6 (y3_2 + 1))) hm (Nat.lt_succ_self _))
      ·
       replace hm := cF hc24_6 hm
       refine AiF hc24_6 <| AWP.exit <| Then.exit <| RoundK.exit <| InBlock.same <| Tk 0 0 ⟨tp 32 [], [], 0⟩ <| Sx <| Wm (.b true) rfl <| Nn <| Rt ?_
       obtain rfl := Option.some.inj hm
       exact ret_i []

theorem ok_value_core (p0 : GValue) (r : Value) (h : m_value_core p0 = some r) : GCall Try.prog 75 [(.agg [(.y p0.Kind), (.i p0.N), (.u p0.Bits), (.s p0.Text)])] [] (.d (.lit r)) [] := by
 refine GCall.of_body (n := 25) (rs := [(.tmp 2)]) Try.func75 rfl rfl rfl <| Ato ⟨.agg [(.y p0.Kind), (.i p0.N), (.u p0.Bits), (.s p0.Text)]::tu 24 [], [], 0⟩ ?_
 have hm := h
 unfold m_value_core at hm
 refine Sx <| Wy (.loc 0 0) [(0, (.box [(.y p0.Kind), (.i p0.N), (.u p0.Bits), (.s p0.Text)]))] (Obx rfl) <| Wm (.d (.lit Value.nilIface)) rfl <| Nk 2 1 ⟨tp 1 (.loc 0 0::tp 23 []), [(.box [(.y p0.Kind), (.i p0.N), (.u p0.Bits), (.s p0.Text)])], 0⟩ <| Sq <| Sx <| Wz (.loc 0 0) (Ofa rfl) <| Wz (.y p0.Kind) (Old rfl) <| Nk 18 1 ⟨tp 1 (.loc 0 0::tp 2 (.y p0.Kind::tp 20 [])), [(.box [(.y p0.Kind), (.i p0.N), (.u p0.Bits), (.s p0.Text)])], 0⟩ <| Bk <| Sx <| Wz (.b (decide (((p0.Kind.toNat : Nat) : Int) = 1))) (Ob2 (.int .u8 ((p0.Kind.toNat : Nat) : Int)) (.int .u8 1) rfl (fun _ => hb_eql)) <| Wm (.b (decide (((p0.Kind.toNat : Nat) : Int) = 1))) rfl <| Nk 50 1 ⟨tp 1 (.loc 0 0::tp 2 (.y p0.Kind::.b (decide (((p0.Kind.toNat : Nat) : Int) = 1))::tp 19 [])), [(.box [(.y p0.Kind), (.i p0.N), (.u p0.Bits), (.s p0.Text)])], 0⟩ ?_
 rcases tf_ (decide (((p0.Kind.toNat : Nat) : Int) = 1)) with hc5_0 | hc5_0
 ·
  replace hm := cT hc5_0 hm
  refine AiT hc5_0 <| Sx <| Wz (.loc 0 1) (Ofa rfl) <| Wz (.i p0.N) (Old rfl) <| Wz (.d (.lit (Value.iface 105 (.int .i64 p0.N)))) (Oif rfl) <| Wm (.d (.lit (Value.iface 105 (.int .i64 p0.N)))) rfl <| Nn <| Rt <| Ir <| Tr ?_
  obtain rfl := Option.some.inj hm
  exact ret_i []
 ·
  replace hm := cF hc5_0 hm
  refine AiF hc5_0 <| Sx <| Wz (.b (decide (((p0.Kind.toNat : Nat) : Int) = 2))) (Ob2 (.int .u8 ((p0.Kind.toNat : Nat) : Int)) (.int .u8 2) rfl (fun _ => hb_eql)) <| Wm (.b (decide (((p0.Kind.toNat : Nat) : Int) = 2))) rfl <| Nk 1042 1 ⟨tp 1 (.loc 0 0::tp 2 (.y p0.Kind::tp 5 (.b (decide (((p0.Kind.toNat : Nat) : Int) = 2))::tp 14 []))), [(.box [(.y p0.Kind), (.i p0.N), (.u p0.Bits), (.s p0.Text)])], 0⟩ ?_
  rcases tf_ (decide (((p0.Kind.toNat : Nat) : Int) = 2)) with hc10_1 | hc10_1
  ·
   replace hm := cT hc10_1 hm
   refine AiT hc10_1 <| Sx <| Wz (.loc 0 1) (Ofa rfl) <| Wz (.i p0.N) (Old rfl) <| Wz (.d (.lit (Value.iface 106 (.int .i64 p0.N)))) (Oif rfl) <| Wm (.d (.lit (Value.iface 106 (.int .i64 p0.N)))) rfl <| Nn <| Rt <| Ir <| Tr ?_
   obtain rfl := Option.some.inj hm
   exact ret_i []
  ·
   replace hm := cF hc10_1 hm
   refine AiF hc10_1 <| Sx <| Wz (.b (decide (((p0.Kind.toNat : Nat) : Int) = 3))) (Ob2 (.int .u8 ((p0.Kind.toNat : Nat) : Int)) (.int .u8 3) rfl (fun _ => hb_eql)) <| Wm (.b (decide (((p0.Kind.toNat : Nat) : Int) = 3))) rfl <| Nk 32786 1 ⟨tp 1 (.loc 0 0::tp 2 (.y p0.Kind::tp 10 (.b (decide (((p0.Kind.toNat : Nat) : Int) = 3))::tp 9 []))), [(.box [(.y p0.Kind), (.i p0.N), (.u p0.Bits), (.s p0.Text)])], 0⟩ ?_
   rcases tf_ (decide (((p0.Kind.toNat : Nat) : Int) = 3)) with hc15_2 | hc15_2
   ·
    replace hm := cT hc15_2 hm
    refine AiT hc15_2 <| Sx <| Wz (.loc 0 2) (Ofa rfl) <| Wz (.u p0.Bits) (Old rfl) <| Wz (.d (.lit (Value.iface 107 (.int .u64 p0.Bits)))) (Oif rfl) <| Wm (.d (.lit (Value.iface 107 (.int .u64 p0.Bits)))) rfl <| Nn <| Rt <| Ir <| Tr ?_
    obtain rfl := Option.some.inj hm
    exact ret_i []
   ·
    replace hm := cF hc15_2 hm
    refine AiF hc15_2 <| Sx <| Wz (.b (decide (((p0.Kind.toNat : Nat) : Int) = 4))) (Ob2 (.int .u8 ((p0.Kind.toNat : Nat) : Int)) (.int .u8 4) rfl (fun _ => hb_eql)) <| Wm (.b (decide (((p0.Kind.toNat : Nat) : Int) = 4))) rfl <| Nk 1048578 1 ⟨tp 1 (.loc 0 0::tp 18 (.b (decide (((p0.Kind.toNat : Nat) : Int) = 4))::tp 4 [])), [(.box [(.y p0.Kind), (.i p0.N), (.u p0.Bits), (.s p0.Text)])], 0⟩ ?_
    rcases tf_ (decide (((p0.Kind.toNat : Nat) : Int) = 4)) with hc20_3 | hc20_3
    ·
     replace hm := cT hc20_3 hm
     refine AiT hc20_3 <| Sx <| Wz (.loc 0 3) (Ofa rfl) <| Wz (.s p0.Text) (Old rfl) <| Wz (.d (.lit (Value.iface 109 (.string (toS p0.Text))))) (Oif rfl) <| Wm (.d (.lit (Value.iface 109 (.string (toS p0.Text))))) rfl <| Nn <| Rt <| Ir <| Tr ?_
     obtain rfl := Option.some.inj hm
     exact ret_i []
    ·
     replace hm := cF hc20_3 hm
     refine AiF hc20_3 <| Sk <| Ino <| Tk 0 0 ⟨tp 25 [], [.gone], 0⟩ <| Sx <| Wm (.d (.lit Value.nilIface)) rfl <| Nn <| Rt ?_
     obtain rfl := Option.some.inj hm
     exact ret_i []

theorem ok_real_of (p0 : Int) (r : Nat) (h : m_real_of p0 = some r) : GCall Try.prog 88 [(.u p0)] [] (.d (.lit (.float .f64 r))) [] := by
 refine GCall.of_body (n := 5) (rs := [(.tmp 2)]) Try.func88 rfl rfl rfl <| Ato ⟨.u p0::tu 4 [], [], 0⟩ ?_
 have hm := h
 unfold m_real_of at hm
 refine Sx <| Wm (.d (.lit (.float .f64 0))) rfl <| Nk 1 0 ⟨.u p0::tp 4 [], [], 0⟩ <| Sx <| Wm (.u p0) rfl <| Wz (.d (.lit (.float .f64 (Int.toNat p0)))) (Ofb (f := 92) (fun _ => by kernel_rfl) rfl) <| Wm (.d (.lit (.float .f64 (Int.toNat p0)))) rfl <| Nn <| Rt ?_
 obtain rfl := Option.some.inj hm
 exact ret_i []

theorem ok_real_Clean (p0 : Int) (r : Int) (h : m_real_Clean p0 = some r) : GCall Try.prog 76 [(.u p0)] [] (.u r) [] := by
 refine GCall.of_body (n := 10) (rs := [(.tmp 2)]) Try.func76 rfl rfl rfl <| Ato ⟨.u p0::tu 9 [], [], 0⟩ ?_
 have hm := h
 unfold m_real_Clean at hm
 refine Sx <| Wm (.u 0) rfl <| Nk 1 0 ⟨.u p0::tp 9 [], [], 0⟩ <| Sq <| Sx <| Wm (.u p0) rfl ?_
 obtain ⟨r5_0, hr5_0, hm⟩ := bnd hm
 refine Wz (.d (.lit (.float .f64 r5_0))) (Ocf [] [] [] 0 (ok_real_of p0 r5_0 hr5_0) (fun a w => Try.call88 a w) rfl trivial) <| Wm (.d (.lit (.float .f64 r5_0))) rfl <| Nk 9 0 ⟨.u p0::tp 2 (.d (.lit (.float .f64 r5_0))::tp 6 []), [], 0⟩ <| Sx <| Wm (.d (.lit (.float .f64 r5_0))) rfl <| Wm (.d (.lit (.float .f64 r5_0))) rfl <| Wz (.b (fne r5_0 r5_0)) (op_bin rfl (a1 := .float .f64 r5_0) (a2 := .float .f64 r5_0) (by kernel_rfl) (by kernel_rfl) (fun _ => hb_fneq)) <| Nk 257 0 ⟨.u p0::tp 7 (.b (fne r5_0 r5_0)::tp 1 []), [], 0⟩ ?_
 rcases tf_ (fne r5_0 r5_0) with hc8_1 | hc8_1
 ·
  replace hm := cT hc8_1 hm
  refine AiT hc8_1 <| Sx <| Wm (.u 9221120237041090560) rfl <| Nn <| Rt <| Tr ?_
  obtain rfl := Option.some.inj hm
  exact ret_i []
 ·
  replace hm := cF hc8_1 hm
  refine AiF hc8_1 <| Sk <| Tk 1 0 ⟨.u p0::tp 9 [], [], 0⟩ <| Sx <| Wm (.u p0) rfl <| Wm (.u p0) rfl <| Nn <| Rt ?_
  obtain rfl := Option.some.inj hm
  exact ret_i []

theorem ok_value_number_whole (p0 : Int) (r : GValue) (h : m_value_number_whole p0 = some r) : GCall Try.prog 112 [(.i p0)] [] (.agg [(.y r.Kind), (.i r.N), (.u r.Bits), (.s r.Text)]) [] := by
 refine GCall.of_body (n := 5) (rs := [(.cell 2 31)]) Try.func112 rfl rfl rfl <| Ato ⟨.i p0::tu 4 [], [], 0⟩ ?_
 have hm := h
 unfold m_value_number_whole at hm
 refine Sx <| Wy (.loc 0 0) [(0, (.box [(.y 0), (.i 0), (.u 0), (.s ([] : List UInt8))]))] (Oal rfl) <| Nk 5 1 ⟨.i p0::tp 1 (.loc 0 0::tp 2 []), [(.box [(.y 0), (.i 0), (.u 0), (.s ([] : List UInt8))])], 0⟩ <| Sx <| Wm (.i p0) rfl <| Wz (.agg [(.y 1), (.i p0), (.u 0), (.s ([] : List UInt8))]) (Obd rfl) <| Wy (.tup []) [(0, (.box [(.y 1), (.i p0), (.u 0), (.s ([] : List UInt8))]))] (Ost rfl) <| Nn <| Rt ?_
 obtain rfl := Option.some.inj hm
 exact ret_i []

theorem ok_value_flag_whole (p0 : Int) (r : GValue) (h : m_value_flag_whole p0 = some r) : GCall Try.prog 113 [(.i p0)] [] (.agg [(.y r.Kind), (.i r.N), (.u r.Bits), (.s r.Text)]) [] := by
 refine GCall.of_body (n := 5) (rs := [(.cell 2 31)]) Try.func113 rfl rfl rfl <| Ato ⟨.i p0::tu 4 [], [], 0⟩ ?_
 have hm := h
 unfold m_value_flag_whole at hm
 refine Sx <| Wy (.loc 0 0) [(0, (.box [(.y 0), (.i 0), (.u 0), (.s ([] : List UInt8))]))] (Oal rfl) <| Nk 5 1 ⟨.i p0::tp 1 (.loc 0 0::tp 2 []), [(.box [(.y 0), (.i 0), (.u 0), (.s ([] : List UInt8))])], 0⟩ <| Sx <| Wm (.i p0) rfl <| Wz (.agg [(.y 2), (.i p0), (.u 0), (.s ([] : List UInt8))]) (Obd rfl) <| Wy (.tup []) [(0, (.box [(.y 2), (.i p0), (.u 0), (.s ([] : List UInt8))]))] (Ost rfl) <| Nn <| Rt ?_
 obtain rfl := Option.some.inj hm
 exact ret_i []

theorem ok_value_double_whole (p0 : Int) (r : GValue) (h : m_value_double_whole p0 = some r) : GCall Try.prog 114 [(.u p0)] [] (.agg [(.y r.Kind), (.i r.N), (.u r.Bits), (.s r.Text)]) [] := by
 refine GCall.of_body (n := 5) (rs := [(.cell 2 31)]) Try.func114 rfl rfl rfl <| Ato ⟨.u p0::tu 4 [], [], 0⟩ ?_
 have hm := h
 unfold m_value_double_whole at hm
 refine Sx <| Wy (.loc 0 0) [(0, (.box [(.y 0), (.i 0), (.u 0), (.s ([] : List UInt8))]))] (Oal rfl) <| Nk 5 1 ⟨.u p0::tp 1 (.loc 0 0::tp 2 []), [(.box [(.y 0), (.i 0), (.u 0), (.s ([] : List UInt8))])], 0⟩ <| Sx <| Wm (.u p0) rfl <| Wz (.agg [(.y 3), (.i 0), (.u p0), (.s ([] : List UInt8))]) (Obd rfl) <| Wy (.tup []) [(0, (.box [(.y 3), (.i 0), (.u p0), (.s ([] : List UInt8))]))] (Ost rfl) <| Nn <| Rt ?_
 obtain rfl := Option.some.inj hm
 exact ret_i []

theorem ok_value_words_whole (p0 : (List UInt8)) (r : GValue) (h : m_value_words_whole p0 = some r) : GCall Try.prog 115 [(.s p0)] [] (.agg [(.y r.Kind), (.i r.N), (.u r.Bits), (.s r.Text)]) [] := by
 refine GCall.of_body (n := 5) (rs := [(.cell 2 31)]) Try.func115 rfl rfl rfl <| Ato ⟨.s p0::tu 4 [], [], 0⟩ ?_
 have hm := h
 unfold m_value_words_whole at hm
 refine Sx <| Wy (.loc 0 0) [(0, (.box [(.y 0), (.i 0), (.u 0), (.s ([] : List UInt8))]))] (Oal rfl) <| Nk 5 1 ⟨.s p0::tp 1 (.loc 0 0::tp 2 []), [(.box [(.y 0), (.i 0), (.u 0), (.s ([] : List UInt8))])], 0⟩ <| Sx <| Wm (.s p0) rfl <| Wz (.agg [(.y 4), (.i 0), (.u 0), (.s p0)]) (Obd rfl) <| Wy (.tup []) [(0, (.box [(.y 4), (.i 0), (.u 0), (.s p0)]))] (Ost rfl) <| Nn <| Rt ?_
 obtain rfl := Option.some.inj hm
 exact ret_i []

theorem ok_value_Check (p0 : GValue) (r : Int) (h : m_value_Check p0 = some r) : GCall Try.prog 53 [(.agg [(.y p0.Kind), (.i p0.N), (.u p0.Bits), (.s p0.Text)])] [] (.i r) [] := by
 refine GCall.of_body (n := 47) (rs := [(.tmp 2)]) Try.func53 rfl rfl rfl <| Ato ⟨.agg [(.y p0.Kind), (.i p0.N), (.u p0.Bits), (.s p0.Text)]::tu 46 [], [], 0⟩ ?_
 have hm := h
 unfold m_value_Check at hm
 refine Sx <| Wy (.loc 0 0) [(0, (.box [(.y p0.Kind), (.i p0.N), (.u p0.Bits), (.s p0.Text)]))] (Obx rfl) <| Wm (.i 0) rfl <| Nk 2 1 ⟨tp 1 (.loc 0 0::tp 45 []), [(.box [(.y p0.Kind), (.i p0.N), (.u p0.Bits), (.s p0.Text)])], 0⟩ <| Sx <| Wz (.agg [(.y p0.Kind), (.i p0.N), (.u p0.Bits), (.s p0.Text)]) (Old rfl) ?_
 obtain ⟨r10_0, hr10_0, hm⟩ := bnd hm
 refine Wz (.d (.lit r10_0)) (Ocf [] [] [] 0 (ok_value_core p0 r10_0 hr10_0) (fun a w => Try.call75 a w) rfl trivial) <| Wm (.d (.lit r10_0)) rfl <| Nk 10 1 ⟨tp 1 (.loc 0 0::tp 1 (.d (.lit r10_0)::tp 43 [])), [(.box [(.y p0.Kind), (.i p0.N), (.u p0.Bits), (.s p0.Text)])], 0⟩ ?_
 refine AWP.cutJ (α := Unit) (fun x => match x with | () => (⟨tp 1 (.loc 0 0::tp 1 (.d (.lit r10_0)::tp 43 [])), [(.box [(.y p0.Kind), (.i p0.N), (.u p0.Bits), (.s p0.Text)])], 0⟩ : St)) (fun x => match x with | () => m_value_Check_j9 p0 r10_0 = some r) ?_ (fun J9 => ?_)
 ·
  rintro ⟨⟩ hm
  try dsimp only at hm ⊢
  unfold m_value_Check_j9 at hm
  refine Sq ?_
  refine AWP.cutJ (α := Bool) (fun x => match x with | y46_11 => (⟨tp 46 (.b y46_11::[]), [], 0⟩ : St)) (fun x => match x with | y46_11 => m_value_Check_j11  y46_11 = some r) ?_ (fun J11 => ?_)
  ·
   rintro y46_11 hm
   try dsimp only at hm ⊢
   unfold m_value_Check_j11 at hm
   rcases tf_ y46_11 with hc46_11 | hc46_11
   ·
    replace hm := cT hc46_11 hm
    refine AiT hc46_11 <| Sx <| Wm (.i 2) rfl <| Nn <| Rt <| Tr ?_
    obtain rfl := Option.some.inj hm
    exact ret_i []
   ·
    replace hm := cF hc46_11 hm
    refine AiF hc46_11 <| Sk <| Tk 0 0 ⟨tp 47 [], [], 0⟩ <| Sx <| Wm (.i 0) rfl <| Nn <| Rt ?_
    obtain rfl := Option.some.inj hm
    exact ret_i []
  refine Sq <| Adr <| Wm (.d (.lit r10_0)) rfl ?_
  rcases tf_ (isT 105 r10_0) with hq44_10_105 | hq44_10_105
  ·
   replace hm := cT hq44_10_105 hm
   obtain ⟨n44_10_105, hn44_10_105, hm⟩ := bnd hm
   obtain ⟨r44_10_105, hr44_10_105, hm⟩ := bnd hm
   have hi_r44_10_105 := inI_some hq44_10_105 hn44_10_105
   refine Wz (.agg [(.y r44_10_105.Kind), (.i r44_10_105.N), (.u r44_10_105.Bits), (.s r44_10_105.Text)]) (Oiv (t := 105) (u := .int .i64 n44_10_105) (ok_value_number_whole n44_10_105 r44_10_105 hr44_10_105) (by simp [A.Plain, A.Plains, D.Plain, byteD]) (fun a w => Try.call112 a w) (fun w => by kernel_rfl) rfl (Eq.trans (by kernel_rfl) (congrArg (fun z => A.d (.lit z)) hi_r44_10_105))) <| Wz (.agg [(.y p0.Kind), (.i p0.N), (.u p0.Bits), (.s p0.Text)]) (Old rfl) ?_
   obtain ⟨v46_10, hv46_10, hm⟩ := bnd hm; replace hv46_10 := Option.some.inj hv46_10
   refine Wz (.b v46_10) (Ocs (Eq.trans (lit_tf (by simp only [toS_inj])) (congrArg (fun z => A.d (.lit (.bool z))) hv46_10)) (op_neq_struct rfl (la := [(.y r44_10_105.Kind), (.i r44_10_105.N), (.u r44_10_105.Bits), (.s r44_10_105.Text)]) (lb := [(.y p0.Kind), (.i p0.N), (.u p0.Bits), (.s p0.Text)]) (us := [.int .u8 ((r44_10_105.Kind.toNat : Nat) : Int), .int .i64 r44_10_105.N, .int .u64 r44_10_105.Bits, .string (toS r44_10_105.Text)]) (vs := [.int .u8 ((p0.Kind.toNat : Nat) : Int), .int .i64 p0.N, .int .u64 p0.Bits, .string (toS p0.Text)]) (r := (decide (((r44_10_105.Kind.toNat : Nat) : Int) = ((p0.Kind.toNat : Nat) : Int)) && (decide (r44_10_105.N = p0.N) && (decide (r44_10_105.Bits = p0.Bits) && (decide ((toS r44_10_105.Text) = (toS p0.Text)) && true))))) (by kernel_rfl) (by kernel_rfl) (by kernel_rfl) (by kernel_rfl) (by kernel_rfl))) <| Wdr <| Tn ?_
   exact AWP.weak (Weak.toK 70368744177664 0 0 []) (J11 (v46_10) hm)
  ·
   replace hm := cF hq44_10_105 hm
   rcases tf_ (isT 106 r10_0) with hq44_10_106 | hq44_10_106
   ·
    replace hm := cT hq44_10_106 hm
    obtain ⟨n44_10_106, hn44_10_106, hm⟩ := bnd hm
    obtain ⟨r44_10_106, hr44_10_106, hm⟩ := bnd hm
    have hi_r44_10_106 := inI_some hq44_10_106 hn44_10_106
    refine Wz (.agg [(.y r44_10_106.Kind), (.i r44_10_106.N), (.u r44_10_106.Bits), (.s r44_10_106.Text)]) (Oiv (t := 106) (u := .int .i64 n44_10_106) (ok_value_flag_whole n44_10_106 r44_10_106 hr44_10_106) (by simp [A.Plain, A.Plains, D.Plain, byteD]) (fun a w => Try.call113 a w) (fun w => by kernel_rfl) rfl (Eq.trans (by kernel_rfl) (congrArg (fun z => A.d (.lit z)) hi_r44_10_106))) <| Wz (.agg [(.y p0.Kind), (.i p0.N), (.u p0.Bits), (.s p0.Text)]) (Old rfl) ?_
    obtain ⟨v46_10, hv46_10, hm⟩ := bnd hm; replace hv46_10 := Option.some.inj hv46_10
    refine Wz (.b v46_10) (Ocs (Eq.trans (lit_tf (by simp only [toS_inj])) (congrArg (fun z => A.d (.lit (.bool z))) hv46_10)) (op_neq_struct rfl (la := [(.y r44_10_106.Kind), (.i r44_10_106.N), (.u r44_10_106.Bits), (.s r44_10_106.Text)]) (lb := [(.y p0.Kind), (.i p0.N), (.u p0.Bits), (.s p0.Text)]) (us := [.int .u8 ((r44_10_106.Kind.toNat : Nat) : Int), .int .i64 r44_10_106.N, .int .u64 r44_10_106.Bits, .string (toS r44_10_106.Text)]) (vs := [.int .u8 ((p0.Kind.toNat : Nat) : Int), .int .i64 p0.N, .int .u64 p0.Bits, .string (toS p0.Text)]) (r := (decide (((r44_10_106.Kind.toNat : Nat) : Int) = ((p0.Kind.toNat : Nat) : Int)) && (decide (r44_10_106.N = p0.N) && (decide (r44_10_106.Bits = p0.Bits) && (decide ((toS r44_10_106.Text) = (toS p0.Text)) && true))))) (by kernel_rfl) (by kernel_rfl) (by kernel_rfl) (by kernel_rfl) (by kernel_rfl))) <| Wdr <| Tn ?_
    exact AWP.weak (Weak.toK 70368744177664 0 0 []) (J11 (v46_10) hm)
   ·
    replace hm := cF hq44_10_106 hm
    rcases tf_ (isT 107 r10_0) with hq44_10_107 | hq44_10_107
    ·
     replace hm := cT hq44_10_107 hm
     obtain ⟨n44_10_107, hn44_10_107, hm⟩ := bnd hm
     obtain ⟨r44_10_107, hr44_10_107, hm⟩ := bnd hm
     have hi_r44_10_107 := inI_some hq44_10_107 hn44_10_107
     refine Wz (.agg [(.y r44_10_107.Kind), (.i r44_10_107.N), (.u r44_10_107.Bits), (.s r44_10_107.Text)]) (Oiv (t := 107) (u := .int .u64 n44_10_107) (ok_value_double_whole n44_10_107 r44_10_107 hr44_10_107) (by simp [A.Plain, A.Plains, D.Plain, byteD]) (fun a w => Try.call114 a w) (fun w => by kernel_rfl) rfl (Eq.trans (by kernel_rfl) (congrArg (fun z => A.d (.lit z)) hi_r44_10_107))) <| Wz (.agg [(.y p0.Kind), (.i p0.N), (.u p0.Bits), (.s p0.Text)]) (Old rfl) ?_
     obtain ⟨v46_10, hv46_10, hm⟩ := bnd hm; replace hv46_10 := Option.some.inj hv46_10
     refine Wz (.b v46_10) (Ocs (Eq.trans (lit_tf (by simp only [toS_inj])) (congrArg (fun z => A.d (.lit (.bool z))) hv46_10)) (op_neq_struct rfl (la := [(.y r44_10_107.Kind), (.i r44_10_107.N), (.u r44_10_107.Bits), (.s r44_10_107.Text)]) (lb := [(.y p0.Kind), (.i p0.N), (.u p0.Bits), (.s p0.Text)]) (us := [.int .u8 ((r44_10_107.Kind.toNat : Nat) : Int), .int .i64 r44_10_107.N, .int .u64 r44_10_107.Bits, .string (toS r44_10_107.Text)]) (vs := [.int .u8 ((p0.Kind.toNat : Nat) : Int), .int .i64 p0.N, .int .u64 p0.Bits, .string (toS p0.Text)]) (r := (decide (((r44_10_107.Kind.toNat : Nat) : Int) = ((p0.Kind.toNat : Nat) : Int)) && (decide (r44_10_107.N = p0.N) && (decide (r44_10_107.Bits = p0.Bits) && (decide ((toS r44_10_107.Text) = (toS p0.Text)) && true))))) (by kernel_rfl) (by kernel_rfl) (by kernel_rfl) (by kernel_rfl) (by kernel_rfl))) <| Wdr <| Tn ?_
     exact AWP.weak (Weak.toK 70368744177664 0 0 []) (J11 (v46_10) hm)
    ·
     replace hm := cF hq44_10_107 hm
     rcases tf_ (isT 109 r10_0) with hq44_10_109 | hq44_10_109
     ·
      replace hm := cT hq44_10_109 hm
      obtain ⟨n44_10_109, hn44_10_109, hm⟩ := bnd hm
      obtain ⟨r44_10_109, hr44_10_109, hm⟩ := bnd hm
      have hi_r44_10_109 := inS_some hq44_10_109 hn44_10_109
      refine Wz (.agg [(.y r44_10_109.Kind), (.i r44_10_109.N), (.u r44_10_109.Bits), (.s r44_10_109.Text)]) (Oiv (t := 109) (u := .string (toS n44_10_109)) (ok_value_words_whole n44_10_109 r44_10_109 hr44_10_109) (by simp [A.Plain, A.Plains, D.Plain, byteD]) (fun a w => Try.call115 a w) (fun w => by kernel_rfl) rfl (Eq.trans (by kernel_rfl) (congrArg (fun z => A.d (.lit z)) hi_r44_10_109))) <| Wz (.agg [(.y p0.Kind), (.i p0.N), (.u p0.Bits), (.s p0.Text)]) (Old rfl) ?_
      obtain ⟨v46_10, hv46_10, hm⟩ := bnd hm; replace hv46_10 := Option.some.inj hv46_10
      refine Wz (.b v46_10) (Ocs (Eq.trans (lit_tf (by simp only [toS_inj])) (congrArg (fun z => A.d (.lit (.bool z))) hv46_10)) (op_neq_struct rfl (la := [(.y r44_10_109.Kind), (.i r44_10_109.N), (.u r44_10_109.Bits), (.s r44_10_109.Text)]) (lb := [(.y p0.Kind), (.i p0.N), (.u p0.Bits), (.s p0.Text)]) (us := [.int .u8 ((r44_10_109.Kind.toNat : Nat) : Int), .int .i64 r44_10_109.N, .int .u64 r44_10_109.Bits, .string (toS r44_10_109.Text)]) (vs := [.int .u8 ((p0.Kind.toNat : Nat) : Int), .int .i64 p0.N, .int .u64 p0.Bits, .string (toS p0.Text)]) (r := (decide (((r44_10_109.Kind.toNat : Nat) : Int) = ((p0.Kind.toNat : Nat) : Int)) && (decide (r44_10_109.N = p0.N) && (decide (r44_10_109.Bits = p0.Bits) && (decide ((toS r44_10_109.Text) = (toS p0.Text)) && true))))) (by kernel_rfl) (by kernel_rfl) (by kernel_rfl) (by kernel_rfl) (by kernel_rfl))) <| Wdr <| Tn ?_
      exact AWP.weak (Weak.toK 70368744177664 0 0 []) (J11 (v46_10) hm)
     ·
      replace hm := cF hq44_10_109 hm
      exact nomatch hm
 refine Sq <| Sx <| Wm (.d (.lit r10_0)) rfl <| Nk 2058 1 ⟨tp 1 (.loc 0 0::tp 1 (.d (.lit r10_0)::tp 7 (.d (.lit r10_0)::tp 35 []))), [(.box [(.y p0.Kind), (.i p0.N), (.u p0.Bits), (.s p0.Text)])], 0⟩ <| Bk <| Sx ?_
 obtain ⟨z12_1, hz12_1, hm⟩ := bnd hm
 refine Wz (.tup [(.i z12_1.1), (.b z12_1.2)]) (OtI hz12_1 rfl) <| Wz (.b z12_1.2) (Oex rfl) <| Wz (.i z12_1.1) (Oex rfl) <| Nk 26634 1 ⟨tp 1 (.loc 0 0::tp 1 (.d (.lit r10_0)::tp 7 (.d (.lit r10_0)::tp 1 (.b z12_1.2::.i z12_1.1::tp 32 [])))), [(.box [(.y p0.Kind), (.i p0.N), (.u p0.Bits), (.s p0.Text)])], 0⟩ ?_
 rcases tf_ z12_1.2 with hc13_12 | hc13_12
 ·
  replace hm := cT hc13_12 hm
  refine AiT hc13_12 <| Sx <| Wm (.i z12_1.1) rfl <| Nk 26 1 ⟨tp 1 (.loc 0 0::tp 1 (.d (.lit r10_0)::.i z12_1.1::tp 42 [])), [(.box [(.y p0.Kind), (.i p0.N), (.u p0.Bits), (.s p0.Text)])], 0⟩ <| Sx <| Wm (.i z12_1.1) rfl <| Wz (.b (decide (z12_1.1 < (-4611686018427387904)))) (Obn rfl (fun _ => hb_lss (k := .i64))) ?_
  rcases tf_ (decide (z12_1.1 < (-4611686018427387904))) with hq17_2 | hq17_2
  ·
   replace hm := cT hq17_2 hm
   refine Wz (.b true) (Oq hq17_2 rfl) <| Wn <| Wn <| Wz (.b true) (OpT rfl) <| Nk 1048586 1 ⟨tp 1 (.loc 0 0::tp 1 (.d (.lit r10_0)::tp 16 (.b true::tp 26 []))), [(.box [(.y p0.Kind), (.i p0.N), (.u p0.Bits), (.s p0.Text)])], 0⟩ <| AWP.if_ true (by kernel_rfl) <| Sx <| Wm (.i 8) rfl <| Nn <| Rt <| Ir <| Tr ?_
   obtain rfl := Option.some.inj hm
   exact ret_i []
  ·
   replace hm := cF hq17_2 hm
   refine Wz (.b false) (Oq hq17_2 rfl) <| Wm (.i z12_1.1) rfl <| Wz (.b (decide ((4611686018427387904 : Int) < z12_1.1))) (Obn rfl (fun _ => hb_gtr (k := .i64))) <| Wz (.b (decide ((4611686018427387904 : Int) < z12_1.1))) (OpF rfl) <| Nk 1048586 1 ⟨tp 1 (.loc 0 0::tp 1 (.d (.lit r10_0)::tp 16 (.b (decide ((4611686018427387904 : Int) < z12_1.1))::tp 26 []))), [(.box [(.y p0.Kind), (.i p0.N), (.u p0.Bits), (.s p0.Text)])], 0⟩ ?_
   rcases tf_ (decide ((4611686018427387904 : Int) < z12_1.1)) with hc20_13 | hc20_13
   ·
    replace hm := cT hc20_13 hm
    refine AiT hc20_13 <| Sx <| Wm (.i 8) rfl <| Nn <| Rt <| Ir <| Tr ?_
    obtain rfl := Option.some.inj hm
    exact ret_i []
   ·
    replace hm := cF hc20_13 hm
    refine AiF hc20_13 <| Sk <| Ino <| Tn ?_
    exact AWP.weak (Weak.toK 10 0 0 [0]) (J9 () hm)
 ·
  replace hm := cF hc13_12 hm
  refine AiF hc13_12 <| Sx ?_
  obtain ⟨z21_3, hz21_3, hm⟩ := bnd hm
  refine Wz (.tup [(.i z21_3.1), (.b z21_3.2)]) (OtI hz21_3 rfl) <| Wz (.b z21_3.2) (Oex rfl) <| Wz (.i z21_3.1) (Oex rfl) <| Nk 12584970 1 ⟨tp 1 (.loc 0 0::tp 1 (.d (.lit r10_0)::tp 7 (.d (.lit r10_0)::tp 10 (.b z21_3.2::.i z21_3.1::tp 23 [])))), [(.box [(.y p0.Kind), (.i p0.N), (.u p0.Bits), (.s p0.Text)])], 0⟩ ?_
  rcases tf_ z21_3.2 with hc22_14 | hc22_14
  ·
   replace hm := cT hc22_14 hm
   refine AiT hc22_14 <| Sx <| Wm (.i z21_3.1) rfl <| Nk 42 1 ⟨tp 1 (.loc 0 0::tp 1 (.d (.lit r10_0)::tp 1 (.i z21_3.1::tp 41 []))), [(.box [(.y p0.Kind), (.i p0.N), (.u p0.Bits), (.s p0.Text)])], 0⟩ <| Sx <| Wm (.i z21_3.1) rfl <| Wz (.b (decide (z21_3.1 ≠ 0))) (Obn rfl (fun _ => hb_neq (k := .i64))) ?_
   rcases tf_ (decide (z21_3.1 ≠ 0)) with hq26_4 | hq26_4
   ·
    replace hm := cT hq26_4 hm
    refine Wz (.b true) (Oq hq26_4 rfl) <| Wm (.i z21_3.1) rfl <| Wz (.b (decide (z21_3.1 ≠ 1))) (Obn rfl (fun _ => hb_neq (k := .i64))) <| Wz (.b (decide (z21_3.1 ≠ 1))) (OpT rfl) <| Nk 536870922 1 ⟨tp 1 (.loc 0 0::tp 1 (.d (.lit r10_0)::tp 25 (.b (decide (z21_3.1 ≠ 1))::tp 17 []))), [(.box [(.y p0.Kind), (.i p0.N), (.u p0.Bits), (.s p0.Text)])], 0⟩ ?_
    rcases tf_ (decide (z21_3.1 ≠ 1)) with hc29_15 | hc29_15
    ·
     replace hm := cT hc29_15 hm
     refine AiT hc29_15 <| Sx <| Wm (.i 8) rfl <| Nn <| Rt <| Ir <| Tr ?_
     obtain rfl := Option.some.inj hm
     exact ret_i []
    ·
     replace hm := cF hc29_15 hm
     refine AiF hc29_15 <| Sk <| Ino <| Tn ?_
     exact AWP.weak (Weak.toK 10 0 0 [0]) (J9 () hm)
   ·
    replace hm := cF hq26_4 hm
    refine Wz (.b false) (Oq hq26_4 rfl) <| Wn <| Wn <| Wz (.b false) (OpF rfl) <| Nk 536870922 1 ⟨tp 1 (.loc 0 0::tp 1 (.d (.lit r10_0)::tp 25 (.b false::tp 17 []))), [(.box [(.y p0.Kind), (.i p0.N), (.u p0.Bits), (.s p0.Text)])], 0⟩ <| AWP.if_ false (by kernel_rfl) <| Sk <| Ino <| Tn ?_
    exact AWP.weak (Weak.toK 10 0 0 [0]) (J9 () hm)
  ·
   replace hm := cF hc22_14 hm
   refine AiF hc22_14 <| Sx ?_
   obtain ⟨z30_5, hz30_5, hm⟩ := bnd hm
   refine Wz (.tup [(.u z30_5.1), (.b z30_5.2)]) (OtI hz30_5 rfl) <| Wz (.b z30_5.2) (Oex rfl) <| Wz (.u z30_5.1) (Oex rfl) <| Nk 6442453002 1 ⟨tp 1 (.loc 0 0::tp 1 (.d (.lit r10_0)::tp 7 (.d (.lit r10_0)::tp 19 (.b z30_5.2::.u z30_5.1::tp 14 [])))), [(.box [(.y p0.Kind), (.i p0.N), (.u p0.Bits), (.s p0.Text)])], 0⟩ ?_
   rcases tf_ z30_5.2 with hc31_16 | hc31_16
   ·
    replace hm := cT hc31_16 hm
    refine AiT hc31_16 <| Sx <| Wm (.u z30_5.1) rfl <| Nk 74 1 ⟨tp 1 (.loc 0 0::tp 1 (.d (.lit r10_0)::tp 2 (.u z30_5.1::tp 40 []))), [(.box [(.y p0.Kind), (.i p0.N), (.u p0.Bits), (.s p0.Text)])], 0⟩ <| Sx <| Wm (.u z30_5.1) rfl ?_
    obtain ⟨r34_6, hr34_6, hm⟩ := bnd hm
    refine Wz (.u r34_6) (Ocf [] [] [] 0 (ok_real_Clean z30_5.1 r34_6 hr34_6) (fun a w => Try.call76 a w) rfl trivial) <| Wm (.u z30_5.1) rfl <| Wz (.b (decide (r34_6 ≠ z30_5.1))) (Obn rfl (fun _ => hb_neq (k := .u64))) <| Nk 68719476746 1 ⟨tp 1 (.loc 0 0::tp 1 (.d (.lit r10_0)::tp 32 (.b (decide (r34_6 ≠ z30_5.1))::tp 10 []))), [(.box [(.y p0.Kind), (.i p0.N), (.u p0.Bits), (.s p0.Text)])], 0⟩ ?_
    rcases tf_ (decide (r34_6 ≠ z30_5.1)) with hc36_17 | hc36_17
    ·
     replace hm := cT hc36_17 hm
     refine AiT hc36_17 <| Sx <| Wm (.i 4) rfl <| Nn <| Rt <| Ir <| Tr ?_
     obtain rfl := Option.some.inj hm
     exact ret_i []
    ·
     replace hm := cF hc36_17 hm
     refine AiF hc36_17 <| Sk <| Ino <| Tn ?_
     exact AWP.weak (Weak.toK 10 0 0 [0]) (J9 () hm)
   ·
    replace hm := cF hc31_16 hm
    refine AiF hc31_16 <| Sx ?_
    obtain ⟨z37_7, hz37_7, hm⟩ := bnd hm
    refine Wz (.tup [(.s z37_7.1), (.b z37_7.2)]) (OtS hz37_7 rfl) <| Wz (.b z37_7.2) (Oex rfl) <| Wz (.s z37_7.1) (Oex rfl) <| Nk 824633722890 1 ⟨tp 1 (.loc 0 0::tp 1 (.d (.lit r10_0)::tp 7 (.d (.lit r10_0)::tp 26 (.b z37_7.2::.s z37_7.1::tp 7 [])))), [(.box [(.y p0.Kind), (.i p0.N), (.u p0.Bits), (.s p0.Text)])], 0⟩ ?_
    rcases tf_ z37_7.2 with hc38_18 | hc38_18
    ·
     replace hm := cT hc38_18 hm
     refine AiT hc38_18 <| Sx <| Wm (.s z37_7.1) rfl <| Nk 138 1 ⟨tp 1 (.loc 0 0::tp 1 (.d (.lit r10_0)::tp 3 (.s z37_7.1::tp 39 []))), [(.box [(.y p0.Kind), (.i p0.N), (.u p0.Bits), (.s p0.Text)])], 0⟩ <| Sx <| Wm (.s z37_7.1) rfl <| Wz (.i ((List.length z37_7.1 : Nat) : Int)) (Oln rfl) <| Wz (.b (decide ((24 : Int) < ((List.length z37_7.1 : Nat) : Int)))) (Obn rfl (fun _ => hb_gtr (k := .i64))) <| Nk 4398046511114 1 ⟨tp 1 (.loc 0 0::tp 1 (.d (.lit r10_0)::tp 38 (.b (decide ((24 : Int) < ((List.length z37_7.1 : Nat) : Int)))::tp 4 []))), [(.box [(.y p0.Kind), (.i p0.N), (.u p0.Bits), (.s p0.Text)])], 0⟩ ?_
     rcases tf_ (decide ((24 : Int) < ((List.length z37_7.1 : Nat) : Int))) with hc42_19 | hc42_19
     ·
      replace hm := cT hc42_19 hm
      refine AiT hc42_19 <| Sx <| Wm (.i 5) rfl <| Nn <| Rt <| Ir <| Tr ?_
      obtain rfl := Option.some.inj hm
      exact ret_i []
     ·
      replace hm := cF hc42_19 hm
      refine AiF hc42_19 <| Sk <| Ino <| Tn ?_
      exact AWP.weak (Weak.toK 10 0 0 [0]) (J9 () hm)
    ·
     replace hm := cF hc38_18 hm
     refine AiF hc38_18 <| Sx <| Wm (.d (.lit r10_0)) rfl <| Nk 0 0 ⟨tp 47 [], [.gone], 0⟩ <| Sx <| Wm (.i 11) rfl <| Nn <| Rt <| Ir <| Tr ?_
     obtain rfl := Option.some.inj hm
     exact ret_i []

theorem ok_pred_Node_lacks (p0 : GNode_) (r : Bool) (h : m_pred_Node_lacks p0 = some r) : GCall Try.prog 37 [(.agg [(.y p0.Kind), (.y p0.Op), (.s p0.Var), (.s p0.Name), (.y p0.Val.Kind), (.i p0.Val.N), (.u p0.Val.Bits), (.s p0.Val.Text)])] [] (.b r) [] := by
 refine GCall.of_body (n := 35) (rs := [(.tmp 2)]) Try.func37 rfl rfl rfl <| Ato ⟨.agg [(.y p0.Kind), (.y p0.Op), (.s p0.Var), (.s p0.Name), (.y p0.Val.Kind), (.i p0.Val.N), (.u p0.Val.Bits), (.s p0.Val.Text)]::tu 34 [], [], 0⟩ ?_
 have hm := h
 unfold m_pred_Node_lacks at hm
 refine Sx <| Wy (.loc 0 0) [(0, (.box [(.y p0.Kind), (.y p0.Op), (.s p0.Var), (.s p0.Name), (.y p0.Val.Kind), (.i p0.Val.N), (.u p0.Val.Bits), (.s p0.Val.Text)]))] (Obx rfl) <| Wm (.b false) rfl <| Nk 2 1 ⟨tp 1 (.loc 0 0::tp 33 []), [(.box [(.y p0.Kind), (.y p0.Op), (.s p0.Var), (.s p0.Name), (.y p0.Val.Kind), (.i p0.Val.N), (.u p0.Val.Bits), (.s p0.Val.Text)])], 0⟩ <| Sq <| Sx <| Wz (.loc 0 0) (Ofa rfl) <| Wz (.y p0.Kind) (Old rfl) <| Nk 18 1 ⟨tp 1 (.loc 0 0::tp 2 (.y p0.Kind::tp 30 [])), [(.box [(.y p0.Kind), (.y p0.Op), (.s p0.Var), (.s p0.Name), (.y p0.Val.Kind), (.i p0.Val.N), (.u p0.Val.Bits), (.s p0.Val.Text)])], 0⟩ <| Bk <| Sx <| Wz (.b (decide (((p0.Kind.toNat : Nat) : Int) = 4))) (Ob2 (.int .u8 ((p0.Kind.toNat : Nat) : Int)) (.int .u8 4) rfl (fun _ => hb_eql)) <| Wm (.b (decide (((p0.Kind.toNat : Nat) : Int) = 4))) rfl <| Nk 50 1 ⟨tp 1 (.loc 0 0::tp 2 (.y p0.Kind::.b (decide (((p0.Kind.toNat : Nat) : Int) = 4))::tp 29 [])), [(.box [(.y p0.Kind), (.y p0.Op), (.s p0.Var), (.s p0.Name), (.y p0.Val.Kind), (.i p0.Val.N), (.u p0.Val.Bits), (.s p0.Val.Text)])], 0⟩ ?_
 rcases tf_ (decide (((p0.Kind.toNat : Nat) : Int) = 4)) with hc5_4 | hc5_4
 ·
  replace hm := cT hc5_4 hm
  refine AiT hc5_4 <| Sx <| Wz (.loc 0 1) (Ofa rfl) <| Wz (.y p0.Op) (Old rfl) ?_
  obtain ⟨r9_0, hr9_0, hm⟩ := bnd hm
  refine Wz (.s r9_0) (Ocf [] [] [] 0 (ok_compare_Sign p0.Op r9_0 hr9_0) (fun a w => Try.call45 a w) rfl trivial) <| Wz (.b (decide (r9_0 = ([] : List UInt8)))) (Ocs (lit_tf (by simp only [toS_inj, ne_eq])) (op_bin rfl (a1 := .string (toS r9_0)) (a2 := .string (toS ([] : List UInt8))) (by kernel_rfl) (by kernel_rfl) (fun _ => hb_seql))) <| Wm (.b (decide (r9_0 = ([] : List UInt8)))) rfl <| Nn <| Rt <| Ir <| Tr ?_
  obtain rfl := Option.some.inj hm
  exact ret_i []
 ·
  replace hm := cF hc5_4 hm
  refine AiF hc5_4 <| Sx <| Wz (.b (decide (((p0.Kind.toNat : Nat) : Int) = 7))) (Ob2 (.int .u8 ((p0.Kind.toNat : Nat) : Int)) (.int .u8 7) rfl (fun _ => hb_eql)) <| Wm (.b (decide (((p0.Kind.toNat : Nat) : Int) = 7))) rfl <| Nk 2066 1 ⟨tp 1 (.loc 0 0::tp 2 (.y p0.Kind::tp 6 (.b (decide (((p0.Kind.toNat : Nat) : Int) = 7))::tp 23 []))), [(.box [(.y p0.Kind), (.y p0.Op), (.s p0.Var), (.s p0.Name), (.y p0.Val.Kind), (.i p0.Val.N), (.u p0.Val.Bits), (.s p0.Val.Text)])], 0⟩ ?_
  rcases tf_ (decide (((p0.Kind.toNat : Nat) : Int) = 7)) with hc11_5 | hc11_5
  ·
   replace hm := cT hc11_5 hm
   refine AiT hc11_5 <| Sx <| Wz (.loc 0 3) (Ofa rfl) <| Wz (.s p0.Name) (Old rfl) ?_
   obtain ⟨r15_1, hr15_1, hm⟩ := bnd hm
   refine Wz (.b r15_1) (Ocf [] [] [] 0 (ok_schema_Name p0.Name r15_1 hr15_1) (fun a w => Try.call52 a w) rfl trivial) <| Wz (.b (!r15_1)) (Ocs (by kernel_rfl) (op_un rfl (a1 := .bool r15_1) (by kernel_rfl) (fun _ => hu_not))) <| Wm (.b (!r15_1)) rfl <| Nn <| Rt <| Ir <| Tr ?_
   obtain rfl := Option.some.inj hm
   exact ret_i []
  ·
   replace hm := cF hc11_5 hm
   refine AiF hc11_5 <| Sx <| Wz (.b (decide (((p0.Kind.toNat : Nat) : Int) = 8))) (Ob2 (.int .u8 ((p0.Kind.toNat : Nat) : Int)) (.int .u8 8) rfl (fun _ => hb_eql)) <| Wm (.b (decide (((p0.Kind.toNat : Nat) : Int) = 8))) rfl <| Nk 131090 1 ⟨tp 1 (.loc 0 0::tp 2 (.y p0.Kind::tp 12 (.b (decide (((p0.Kind.toNat : Nat) : Int) = 8))::tp 17 []))), [(.box [(.y p0.Kind), (.y p0.Op), (.s p0.Var), (.s p0.Name), (.y p0.Val.Kind), (.i p0.Val.N), (.u p0.Val.Bits), (.s p0.Val.Text)])], 0⟩ ?_
   rcases tf_ (decide (((p0.Kind.toNat : Nat) : Int) = 8)) with hc17_6 | hc17_6
   ·
    replace hm := cT hc17_6 hm
    refine AiT hc17_6 <| Sx <| Wz (.loc 0 3) (Ofa rfl) <| Wz (.s p0.Name) (Old rfl) ?_
    obtain ⟨r21_2, hr21_2, hm⟩ := bnd hm
    refine Wz (.b r21_2) (Ocf [] [] [] 0 (ok_schema_Name p0.Name r21_2 hr21_2) (fun a w => Try.call52 a w) rfl trivial) <| Wz (.b (!r21_2)) (Ocs (by kernel_rfl) (op_un rfl (a1 := .bool r21_2) (by kernel_rfl) (fun _ => hu_not))) ?_
    rcases tf_ (!r21_2) with hq23_2 | hq23_2
    ·
     replace hm := cT hq23_2 hm
     refine Wz (.b true) (Oq hq23_2 rfl) <| Wn <| Wn <| Wn <| Wn <| Wz (.b true) (OpT rfl) <| Wm (.b true) rfl <| Nn <| Rt <| Ir <| Tr ?_
     obtain rfl := Option.some.inj hm
     exact ret_i []
    ·
     replace hm := cF hq23_2 hm
     refine Wz (.b false) (Oq hq23_2 rfl) <| Wz (.loc 0 2) (Ofa rfl) <| Wz (.s p0.Var) (Old rfl) ?_
     obtain ⟨r26_2, hr26_2, hm⟩ := bnd hm
     refine Wz (.b r26_2) (Ocf [] [] [] 0 (ok_schema_Name p0.Var r26_2 hr26_2) (fun a w => Try.call52 a w) rfl trivial) <| Wz (.b (!r26_2)) (Ocs (by kernel_rfl) (op_un rfl (a1 := .bool r26_2) (by kernel_rfl) (fun _ => hu_not))) <| Wz (.b (!r26_2)) (OpF rfl) <| Wm (.b (!r26_2)) rfl <| Nn <| Rt <| Ir <| Tr ?_
     obtain rfl := Option.some.inj hm
     exact ret_i []
   ·
    replace hm := cF hc17_6 hm
    refine AiF hc17_6 <| Sx <| Wz (.b (decide (((p0.Kind.toNat : Nat) : Int) = 9))) (Ob2 (.int .u8 ((p0.Kind.toNat : Nat) : Int)) (.int .u8 9) rfl (fun _ => hb_eql)) <| Wm (.b (decide (((p0.Kind.toNat : Nat) : Int) = 9))) rfl <| Nk 536870914 1 ⟨tp 1 (.loc 0 0::tp 27 (.b (decide (((p0.Kind.toNat : Nat) : Int) = 9))::tp 5 [])), [(.box [(.y p0.Kind), (.y p0.Op), (.s p0.Var), (.s p0.Name), (.y p0.Val.Kind), (.i p0.Val.N), (.u p0.Val.Bits), (.s p0.Val.Text)])], 0⟩ ?_
    rcases tf_ (decide (((p0.Kind.toNat : Nat) : Int) = 9)) with hc29_7 | hc29_7
    ·
     replace hm := cT hc29_7 hm
     refine AiT hc29_7 <| Sx <| Wz (.loc 0 4) (Ofa rfl) <| Wz (.agg [(.y p0.Val.Kind), (.i p0.Val.N), (.u p0.Val.Bits), (.s p0.Val.Text)]) (Old rfl) ?_
     obtain ⟨r33_3, hr33_3, hm⟩ := bnd hm
     refine Wz (.i r33_3) (Ocf [] [] [] 0 (ok_value_Check p0.Val r33_3 hr33_3) (fun a w => Try.call53 a w) rfl trivial) <| Wz (.b (decide (r33_3 ≠ 0))) (Obn rfl (fun _ => hb_neq (k := .i64))) <| Wm (.b (decide (r33_3 ≠ 0))) rfl <| Nn <| Rt <| Ir <| Tr ?_
     obtain rfl := Option.some.inj hm
     exact ret_i []
    ·
     replace hm := cF hc29_7 hm
     refine AiF hc29_7 <| Sk <| Ino <| Tk 0 0 ⟨tp 35 [], [.gone], 0⟩ <| Sx <| Wm (.b false) rfl <| Nn <| Rt ?_
     obtain rfl := Option.some.inj hm
     exact ret_i []

theorem ok_pred_is__pred_Node_lacks (p0 : GNode_) (p2 : Int) (r : Int) (h : m_pred_is__pred_Node_lacks p0 p2 = some r) : GCall Try.prog 36 [(.agg [(.y p0.Kind), (.y p0.Op), (.s p0.Var), (.s p0.Name), (.y p0.Val.Kind), (.i p0.Val.N), (.u p0.Val.Bits), (.s p0.Val.Text)]), (.clo (.func 37) [] []), (.i p2)] [] (.i r) [] := by
 refine GCall.of_body (n := 11) (rs := [(.tmp 6)]) Try.func36 rfl rfl rfl <| Ato ⟨.agg [(.y p0.Kind), (.y p0.Op), (.s p0.Var), (.s p0.Name), (.y p0.Val.Kind), (.i p0.Val.N), (.u p0.Val.Bits), (.s p0.Val.Text)]::.clo (.func 37) [] []::.i p2::tu 8 [], [], 0⟩ ?_
 have hm := h
 unfold m_pred_is__pred_Node_lacks at hm
 refine Sx <| Wy (.loc 0 0) [(0, (.box [(.y p0.Kind), (.y p0.Op), (.s p0.Var), (.s p0.Name), (.y p0.Val.Kind), (.i p0.Val.N), (.u p0.Val.Bits), (.s p0.Val.Text)]))] (Obx rfl) <| Wm (.i 0) rfl <| Nk 14 1 ⟨tp 1 (.clo (.func 37) [] []::.i p2::.loc 0 0::tp 7 []), [(.box [(.y p0.Kind), (.y p0.Op), (.s p0.Var), (.s p0.Name), (.y p0.Val.Kind), (.i p0.Val.N), (.u p0.Val.Bits), (.s p0.Val.Text)])], 0⟩ <| Sq <| Sx <| Wm (.clo (.func 37) [] []) rfl <| Wz (.agg [(.y p0.Kind), (.y p0.Op), (.s p0.Var), (.s p0.Name), (.y p0.Val.Kind), (.i p0.Val.N), (.u p0.Val.Bits), (.s p0.Val.Text)]) (Old rfl) ?_
 obtain ⟨r9_0, hr9_0, hm⟩ := bnd hm
 refine Wz (.b r9_0) (Ocf [] [] [] 0 (ok_pred_Node_lacks p0 r9_0 hr9_0) (fun a w => Try.call37 a w) rfl trivial) <| Nk 516 0 ⟨tp 2 (.i p2::tp 6 (.b r9_0::tp 1 [])), [.gone], 0⟩ ?_
 rcases tf_ r9_0 with hc9_1 | hc9_1
 ·
  replace hm := cT hc9_1 hm
  refine AiT hc9_1 <| Sx <| Wm (.i p2) rfl <| Wm (.i p2) rfl <| Nn <| Rt <| Tr ?_
  obtain rfl := Option.some.inj hm
  exact ret_i []
 ·
  replace hm := cF hc9_1 hm
  refine AiF hc9_1 <| Sk <| Tk 0 0 ⟨tp 11 [], [.gone], 0⟩ <| Sx <| Wm (.i 0) rfl <| Nn <| Rt ?_
  obtain rfl := Option.some.inj hm
  exact ret_i []

theorem ok_pred_Node_more (p0 : GNode_) (r : Bool) (h : m_pred_Node_more p0 = some r) : GCall Try.prog 38 [(.agg [(.y p0.Kind), (.y p0.Op), (.s p0.Var), (.s p0.Name), (.y p0.Val.Kind), (.i p0.Val.N), (.u p0.Val.Bits), (.s p0.Val.Text)])] [] (.b r) [] := by
 refine GCall.of_body (n := 35) (rs := [(.tmp 2)]) Try.func38 rfl rfl rfl <| Ato ⟨.agg [(.y p0.Kind), (.y p0.Op), (.s p0.Var), (.s p0.Name), (.y p0.Val.Kind), (.i p0.Val.N), (.u p0.Val.Bits), (.s p0.Val.Text)]::tu 34 [], [], 0⟩ ?_
 have hm := h
 unfold m_pred_Node_more at hm
 refine Sx <| Wy (.loc 0 0) [(0, (.box [(.y p0.Kind), (.y p0.Op), (.s p0.Var), (.s p0.Name), (.y p0.Val.Kind), (.i p0.Val.N), (.u p0.Val.Bits), (.s p0.Val.Text)]))] (Obx rfl) <| Wm (.b false) rfl <| Nk 2 1 ⟨tp 1 (.loc 0 0::tp 33 []), [(.box [(.y p0.Kind), (.y p0.Op), (.s p0.Var), (.s p0.Name), (.y p0.Val.Kind), (.i p0.Val.N), (.u p0.Val.Bits), (.s p0.Val.Text)])], 0⟩ <| Sx <| Wz (.loc 0 0) (Ofa rfl) <| Wz (.y p0.Kind) (Old rfl) <| Wz (.agg [(.y p0.Kind), (.y 0), (.s ([] : List UInt8)), (.s ([] : List UInt8)), (.y 0), (.i 0), (.u 0), (.s ([] : List UInt8))]) (Obd rfl) <| Wy (.loc 1 0) [(1, (.box [(.y 0), (.y 0), (.s ([] : List UInt8)), (.s ([] : List UInt8)), (.y 0), (.i 0), (.u 0), (.s ([] : List UInt8))]))] (Oal rfl) <| Wy (.tup []) [(1, (.box [(.y p0.Kind), (.y 0), (.s ([] : List UInt8)), (.s ([] : List UInt8)), (.y 0), (.i 0), (.u 0), (.s ([] : List UInt8))]))] (Ost rfl) <| Nk 10 3 ⟨tp 1 (.loc 0 0::tp 1 (.loc 1 0::tp 31 [])), [(.box [(.y p0.Kind), (.y p0.Op), (.s p0.Var), (.s p0.Name), (.y p0.Val.Kind), (.i p0.Val.N), (.u p0.Val.Bits), (.s p0.Val.Text)]), (.box [(.y p0.Kind), (.y 0), (.s ([] : List UInt8)), (.s ([] : List UInt8)), (.y 0), (.i 0), (.u 0), (.s ([] : List UInt8))])], 0⟩ <| Sq <| Sx <| Wz (.loc 0 0) (Ofa rfl) ?_
 refine Wz (.y p0.Kind) (Old rfl) <| Nk 266 3 ⟨tp 1 (.loc 0 0::tp 1 (.loc 1 0::tp 4 (.y p0.Kind::tp 26 []))), [(.box [(.y p0.Kind), (.y p0.Op), (.s p0.Var), (.s p0.Name), (.y p0.Val.Kind), (.i p0.Val.N), (.u p0.Val.Bits), (.s p0.Val.Text)]), (.box [(.y p0.Kind), (.y 0), (.s ([] : List UInt8)), (.s ([] : List UInt8)), (.y 0), (.i 0), (.u 0), (.s ([] : List UInt8))])], 0⟩ <| Bk <| Sx <| Wz (.b (decide (((p0.Kind.toNat : Nat) : Int) = 4))) (Ob2 (.int .u8 ((p0.Kind.toNat : Nat) : Int)) (.int .u8 4) rfl (fun _ => hb_eql)) <| Wm (.b (decide (((p0.Kind.toNat : Nat) : Int) = 4))) rfl <| Nk 778 3 ⟨tp 1 (.loc 0 0::tp 1 (.loc 1 0::tp 4 (.y p0.Kind::.b (decide (((p0.Kind.toNat : Nat) : Int) = 4))::tp 25 []))), [(.box [(.y p0.Kind), (.y p0.Op), (.s p0.Var), (.s p0.Name), (.y p0.Val.Kind), (.i p0.Val.N), (.u p0.Val.Bits), (.s p0.Val.Text)]), (.box [(.y p0.Kind), (.y 0), (.s ([] : List UInt8)), (.s ([] : List UInt8)), (.y 0), (.i 0), (.u 0), (.s ([] : List UInt8))])], 0⟩ ?_
 rcases tf_ (decide (((p0.Kind.toNat : Nat) : Int) = 4)) with hc9_5 | hc9_5
 ·
  replace hm := cT hc9_5 hm
  refine AiT hc9_5 <| Tx <| Wz (.loc 0 1) (Ofa rfl) <| Wz (.y p0.Op) (Old rfl) <| Wz (.loc 1 1) (Ofa rfl) <| Wy (.tup []) [(1, (.box [(.y p0.Kind), (.y p0.Op), (.s ([] : List UInt8)), (.s ([] : List UInt8)), (.y 0), (.i 0), (.u 0), (.s ([] : List UInt8))]))] (Ost rfl) <| Wn0 <| Ino <| Tk 10 3 ⟨tp 1 (.loc 0 0::tp 1 (.loc 1 0::tp 31 [])), [(.box [(.y p0.Kind), (.y p0.Op), (.s p0.Var), (.s p0.Name), (.y p0.Val.Kind), (.i p0.Val.N), (.u p0.Val.Bits), (.s p0.Val.Text)]), (.box [(.y p0.Kind), (.y p0.Op), (.s ([] : List UInt8)), (.s ([] : List UInt8)), (.y 0), (.i 0), (.u 0), (.s ([] : List UInt8))])], 0⟩ <| Sx <| Wz (.agg [(.y p0.Kind), (.y p0.Op), (.s ([] : List UInt8)), (.s ([] : List UInt8)), (.y 0), (.i 0), (.u 0), (.s ([] : List UInt8))]) (Old rfl) <| Wz (.agg [(.y p0.Kind), (.y p0.Op), (.s p0.Var), (.s p0.Name), (.y p0.Val.Kind), (.i p0.Val.N), (.u p0.Val.Bits), (.s p0.Val.Text)]) (Old rfl) ?_
  obtain ⟨v34_0, hv34_0, hm⟩ := bnd hm; replace hv34_0 := Option.some.inj hv34_0
  refine Wz (.b v34_0) (Ocs (Eq.trans (lit_tf (by simp only [toS_inj])) (congrArg (fun z => A.d (.lit (.bool z))) hv34_0)) (op_neq_deep rfl (la := [(.y p0.Kind), (.y p0.Op), (.s ([] : List UInt8)), (.s ([] : List UInt8)), (.y 0), (.i 0), (.u 0), (.s ([] : List UInt8))]) (lb := [(.y p0.Kind), (.y p0.Op), (.s p0.Var), (.s p0.Name), (.y p0.Val.Kind), (.i p0.Val.N), (.u p0.Val.Bits), (.s p0.Val.Text)]) (us := [.int .u8 ((p0.Kind.toNat : Nat) : Int), .int .u8 ((p0.Op.toNat : Nat) : Int), .string (toS ([] : List UInt8)), .string (toS ([] : List UInt8)), .int .u8 0, .int .i64 0, .int .u64 0, .string (toS ([] : List UInt8))]) (vs := [.int .u8 ((p0.Kind.toNat : Nat) : Int), .int .u8 ((p0.Op.toNat : Nat) : Int), .string (toS p0.Var), .string (toS p0.Name), .int .u8 ((p0.Val.Kind.toNat : Nat) : Int), .int .i64 p0.Val.N, .int .u64 p0.Val.Bits, .string (toS p0.Val.Text)]) (r := (decide (((p0.Kind.toNat : Nat) : Int) = ((p0.Kind.toNat : Nat) : Int)) && (decide (((p0.Op.toNat : Nat) : Int) = ((p0.Op.toNat : Nat) : Int)) && (decide ((toS ([] : List UInt8)) = (toS p0.Var)) && (decide ((toS ([] : List UInt8)) = (toS p0.Name)) && ((decide (0 = ((p0.Val.Kind.toNat : Nat) : Int)) && (decide (0 = p0.Val.N) && (decide (0 = p0.Val.Bits) && (decide ((toS ([] : List UInt8)) = (toS p0.Val.Text)) && true)))) && true)))))) (by kernel_rfl) (by kernel_rfl) (by kernel_rfl) (by kernel_rfl) (by kernel_rfl) (by kernel_rfl))) <| Wm (.b v34_0) rfl <| Nn <| Rt ?_
  obtain rfl := Option.some.inj hm
  exact ret_i []
 ·
  replace hm := cF hc9_5 hm
  refine AiF hc9_5 <| Sx <| Wz (.b (decide (((p0.Kind.toNat : Nat) : Int) = 7))) (Ob2 (.int .u8 ((p0.Kind.toNat : Nat) : Int)) (.int .u8 7) rfl (fun _ => hb_eql)) <| Wm (.b (decide (((p0.Kind.toNat : Nat) : Int) = 7))) rfl <| Nk 16650 3 ⟨tp 1 (.loc 0 0::tp 1 (.loc 1 0::tp 4 (.y p0.Kind::tp 5 (.b (decide (((p0.Kind.toNat : Nat) : Int) = 7))::tp 20 [])))), [(.box [(.y p0.Kind), (.y p0.Op), (.s p0.Var), (.s p0.Name), (.y p0.Val.Kind), (.i p0.Val.N), (.u p0.Val.Bits), (.s p0.Val.Text)]), (.box [(.y p0.Kind), (.y 0), (.s ([] : List UInt8)), (.s ([] : List UInt8)), (.y 0), (.i 0), (.u 0), (.s ([] : List UInt8))])], 0⟩ ?_
  rcases tf_ (decide (((p0.Kind.toNat : Nat) : Int) = 7)) with hc14_6 | hc14_6
  ·
   replace hm := cT hc14_6 hm
   refine AiT hc14_6 <| Tx <| Wz (.loc 0 3) (Ofa rfl) <| Wz (.s p0.Name) (Old rfl) <| Wz (.loc 1 3) (Ofa rfl) <| Wy (.tup []) [(1, (.box [(.y p0.Kind), (.y 0), (.s ([] : List UInt8)), (.s p0.Name), (.y 0), (.i 0), (.u 0), (.s ([] : List UInt8))]))] (Ost rfl) <| Wn0 <| Ino <| Tk 10 3 ⟨tp 1 (.loc 0 0::tp 1 (.loc 1 0::tp 31 [])), [(.box [(.y p0.Kind), (.y p0.Op), (.s p0.Var), (.s p0.Name), (.y p0.Val.Kind), (.i p0.Val.N), (.u p0.Val.Bits), (.s p0.Val.Text)]), (.box [(.y p0.Kind), (.y 0), (.s ([] : List UInt8)), (.s p0.Name), (.y 0), (.i 0), (.u 0), (.s ([] : List UInt8))])], 0⟩ <| Sx <| Wz (.agg [(.y p0.Kind), (.y 0), (.s ([] : List UInt8)), (.s p0.Name), (.y 0), (.i 0), (.u 0), (.s ([] : List UInt8))]) (Old rfl) <| Wz (.agg [(.y p0.Kind), (.y p0.Op), (.s p0.Var), (.s p0.Name), (.y p0.Val.Kind), (.i p0.Val.N), (.u p0.Val.Bits), (.s p0.Val.Text)]) (Old rfl) ?_
   obtain ⟨v34_1, hv34_1, hm⟩ := bnd hm; replace hv34_1 := Option.some.inj hv34_1
   refine Wz (.b v34_1) (Ocs (Eq.trans (lit_tf (by simp only [toS_inj])) (congrArg (fun z => A.d (.lit (.bool z))) hv34_1)) (op_neq_deep rfl (la := [(.y p0.Kind), (.y 0), (.s ([] : List UInt8)), (.s p0.Name), (.y 0), (.i 0), (.u 0), (.s ([] : List UInt8))]) (lb := [(.y p0.Kind), (.y p0.Op), (.s p0.Var), (.s p0.Name), (.y p0.Val.Kind), (.i p0.Val.N), (.u p0.Val.Bits), (.s p0.Val.Text)]) (us := [.int .u8 ((p0.Kind.toNat : Nat) : Int), .int .u8 0, .string (toS ([] : List UInt8)), .string (toS p0.Name), .int .u8 0, .int .i64 0, .int .u64 0, .string (toS ([] : List UInt8))]) (vs := [.int .u8 ((p0.Kind.toNat : Nat) : Int), .int .u8 ((p0.Op.toNat : Nat) : Int), .string (toS p0.Var), .string (toS p0.Name), .int .u8 ((p0.Val.Kind.toNat : Nat) : Int), .int .i64 p0.Val.N, .int .u64 p0.Val.Bits, .string (toS p0.Val.Text)]) (r := (decide (((p0.Kind.toNat : Nat) : Int) = ((p0.Kind.toNat : Nat) : Int)) && (decide (0 = ((p0.Op.toNat : Nat) : Int)) && (decide ((toS ([] : List UInt8)) = (toS p0.Var)) && (decide ((toS p0.Name) = (toS p0.Name)) && ((decide (0 = ((p0.Val.Kind.toNat : Nat) : Int)) && (decide (0 = p0.Val.N) && (decide (0 = p0.Val.Bits) && (decide ((toS ([] : List UInt8)) = (toS p0.Val.Text)) && true)))) && true)))))) (by kernel_rfl) (by kernel_rfl) (by kernel_rfl) (by kernel_rfl) (by kernel_rfl) (by kernel_rfl))) <| Wm (.b v34_1) rfl <| Nn <| Rt ?_
   obtain rfl := Option.some.inj hm
   exact ret_i []
  ·
   replace hm := cF hc14_6 hm
   refine AiF hc14_6 <| Sx <| Wz (.b (decide (((p0.Kind.toNat : Nat) : Int) = 8))) (Ob2 (.int .u8 ((p0.Kind.toNat : Nat) : Int)) (.int .u8 8) rfl (fun _ => hb_eql)) <| Wm (.b (decide (((p0.Kind.toNat : Nat) : Int) = 8))) rfl <| Nk 524554 3 ⟨tp 1 (.loc 0 0::tp 1 (.loc 1 0::tp 4 (.y p0.Kind::tp 10 (.b (decide (((p0.Kind.toNat : Nat) : Int) = 8))::tp 15 [])))), [(.box [(.y p0.Kind), (.y p0.Op), (.s p0.Var), (.s p0.Name), (.y p0.Val.Kind), (.i p0.Val.N), (.u p0.Val.Bits), (.s p0.Val.Text)]), (.box [(.y p0.Kind), (.y 0), (.s ([] : List UInt8)), (.s ([] : List UInt8)), (.y 0), (.i 0), (.u 0), (.s ([] : List UInt8))])], 0⟩ ?_
   rcases tf_ (decide (((p0.Kind.toNat : Nat) : Int) = 8)) with hc19_7 | hc19_7
   ·
    replace hm := cT hc19_7 hm
    refine AiT hc19_7 <| Adr <| Wz (.loc 0 2) (Ofa rfl) <| Wz (.s p0.Var) (Old rfl) <| Wz (.loc 0 3) (Ofa rfl) <| Wz (.s p0.Name) (Old rfl) <| Wz (.loc 1 2) (Ofa rfl) <| Wy (.tup []) [(1, (.box [(.y p0.Kind), (.y 0), (.s p0.Var), (.s ([] : List UInt8)), (.y 0), (.i 0), (.u 0), (.s ([] : List UInt8))]))] (Ost rfl) <| Wz (.loc 1 3) (Ofa rfl) <| Wy (.tup []) [(1, (.box [(.y p0.Kind), (.y 0), (.s p0.Var), (.s p0.Name), (.y 0), (.i 0), (.u 0), (.s ([] : List UInt8))]))] (Ost rfl) <| Wdr <| Ino <| Tk 10 3 ⟨tp 1 (.loc 0 0::tp 1 (.loc 1 0::tp 31 [])), [(.box [(.y p0.Kind), (.y p0.Op), (.s p0.Var), (.s p0.Name), (.y p0.Val.Kind), (.i p0.Val.N), (.u p0.Val.Bits), (.s p0.Val.Text)]), (.box [(.y p0.Kind), (.y 0), (.s p0.Var), (.s p0.Name), (.y 0), (.i 0), (.u 0), (.s ([] : List UInt8))])], 0⟩ <| Sx ?_
    refine Wz (.agg [(.y p0.Kind), (.y 0), (.s p0.Var), (.s p0.Name), (.y 0), (.i 0), (.u 0), (.s ([] : List UInt8))]) (Old rfl) <| Wz (.agg [(.y p0.Kind), (.y p0.Op), (.s p0.Var), (.s p0.Name), (.y p0.Val.Kind), (.i p0.Val.N), (.u p0.Val.Bits), (.s p0.Val.Text)]) (Old rfl) ?_
    obtain ⟨v34_2, hv34_2, hm⟩ := bnd hm; replace hv34_2 := Option.some.inj hv34_2
    refine Wz (.b v34_2) (Ocs (Eq.trans (lit_tf (by simp only [toS_inj])) (congrArg (fun z => A.d (.lit (.bool z))) hv34_2)) (op_neq_deep rfl (la := [(.y p0.Kind), (.y 0), (.s p0.Var), (.s p0.Name), (.y 0), (.i 0), (.u 0), (.s ([] : List UInt8))]) (lb := [(.y p0.Kind), (.y p0.Op), (.s p0.Var), (.s p0.Name), (.y p0.Val.Kind), (.i p0.Val.N), (.u p0.Val.Bits), (.s p0.Val.Text)]) (us := [.int .u8 ((p0.Kind.toNat : Nat) : Int), .int .u8 0, .string (toS p0.Var), .string (toS p0.Name), .int .u8 0, .int .i64 0, .int .u64 0, .string (toS ([] : List UInt8))]) (vs := [.int .u8 ((p0.Kind.toNat : Nat) : Int), .int .u8 ((p0.Op.toNat : Nat) : Int), .string (toS p0.Var), .string (toS p0.Name), .int .u8 ((p0.Val.Kind.toNat : Nat) : Int), .int .i64 p0.Val.N, .int .u64 p0.Val.Bits, .string (toS p0.Val.Text)]) (r := (decide (((p0.Kind.toNat : Nat) : Int) = ((p0.Kind.toNat : Nat) : Int)) && (decide (0 = ((p0.Op.toNat : Nat) : Int)) && (decide ((toS p0.Var) = (toS p0.Var)) && (decide ((toS p0.Name) = (toS p0.Name)) && ((decide (0 = ((p0.Val.Kind.toNat : Nat) : Int)) && (decide (0 = p0.Val.N) && (decide (0 = p0.Val.Bits) && (decide ((toS ([] : List UInt8)) = (toS p0.Val.Text)) && true)))) && true)))))) (by kernel_rfl) (by kernel_rfl) (by kernel_rfl) (by kernel_rfl) (by kernel_rfl) (by kernel_rfl))) <| Wm (.b v34_2) rfl <| Nn <| Rt ?_
    obtain rfl := Option.some.inj hm
    exact ret_i []
   ·
    replace hm := cF hc19_7 hm
    refine AiF hc19_7 <| Sx <| Wz (.b (decide (((p0.Kind.toNat : Nat) : Int) = 9))) (Ob2 (.int .u8 ((p0.Kind.toNat : Nat) : Int)) (.int .u8 9) rfl (fun _ => hb_eql)) <| Wm (.b (decide (((p0.Kind.toNat : Nat) : Int) = 9))) rfl <| Nk 134217738 3 ⟨tp 1 (.loc 0 0::tp 1 (.loc 1 0::tp 23 (.b (decide (((p0.Kind.toNat : Nat) : Int) = 9))::tp 7 []))), [(.box [(.y p0.Kind), (.y p0.Op), (.s p0.Var), (.s p0.Name), (.y p0.Val.Kind), (.i p0.Val.N), (.u p0.Val.Bits), (.s p0.Val.Text)]), (.box [(.y p0.Kind), (.y 0), (.s ([] : List UInt8)), (.s ([] : List UInt8)), (.y 0), (.i 0), (.u 0), (.s ([] : List UInt8))])], 0⟩ ?_
    rcases tf_ (decide (((p0.Kind.toNat : Nat) : Int) = 9)) with hc27_8 | hc27_8
    ·
     replace hm := cT hc27_8 hm
     refine AiT hc27_8 <| Tx <| Wz (.loc 0 4) (Ofa rfl) <| Wz (.agg [(.y p0.Val.Kind), (.i p0.Val.N), (.u p0.Val.Bits), (.s p0.Val.Text)]) (Old rfl) <| Wz (.loc 1 4) (Ofa rfl) <| Wy (.tup []) [(1, (.box [(.y p0.Kind), (.y 0), (.s ([] : List UInt8)), (.s ([] : List UInt8)), (.y p0.Val.Kind), (.i p0.Val.N), (.u p0.Val.Bits), (.s p0.Val.Text)]))] (Ost rfl) <| Wn0 <| Ino <| Tk 10 3 ⟨tp 1 (.loc 0 0::tp 1 (.loc 1 0::tp 31 [])), [(.box [(.y p0.Kind), (.y p0.Op), (.s p0.Var), (.s p0.Name), (.y p0.Val.Kind), (.i p0.Val.N), (.u p0.Val.Bits), (.s p0.Val.Text)]), (.box [(.y p0.Kind), (.y 0), (.s ([] : List UInt8)), (.s ([] : List UInt8)), (.y p0.Val.Kind), (.i p0.Val.N), (.u p0.Val.Bits), (.s p0.Val.Text)])], 0⟩ <| Sx <| Wz (.agg [(.y p0.Kind), (.y 0), (.s ([] : List UInt8)), (.s ([] : List UInt8)), (.y p0.Val.Kind), (.i p0.Val.N), (.u p0.Val.Bits), (.s p0.Val.Text)]) (Old rfl) <| Wz (.agg [(.y p0.Kind), (.y p0.Op), (.s p0.Var), (.s p0.Name), (.y p0.Val.Kind), (.i p0.Val.N), (.u p0.Val.Bits), (.s p0.Val.Text)]) (Old rfl) ?_
     obtain ⟨v34_3, hv34_3, hm⟩ := bnd hm; replace hv34_3 := Option.some.inj hv34_3
     refine Wz (.b v34_3) (Ocs (Eq.trans (lit_tf (by simp only [toS_inj])) (congrArg (fun z => A.d (.lit (.bool z))) hv34_3)) (op_neq_deep rfl (la := [(.y p0.Kind), (.y 0), (.s ([] : List UInt8)), (.s ([] : List UInt8)), (.y p0.Val.Kind), (.i p0.Val.N), (.u p0.Val.Bits), (.s p0.Val.Text)]) (lb := [(.y p0.Kind), (.y p0.Op), (.s p0.Var), (.s p0.Name), (.y p0.Val.Kind), (.i p0.Val.N), (.u p0.Val.Bits), (.s p0.Val.Text)]) (us := [.int .u8 ((p0.Kind.toNat : Nat) : Int), .int .u8 0, .string (toS ([] : List UInt8)), .string (toS ([] : List UInt8)), .int .u8 ((p0.Val.Kind.toNat : Nat) : Int), .int .i64 p0.Val.N, .int .u64 p0.Val.Bits, .string (toS p0.Val.Text)]) (vs := [.int .u8 ((p0.Kind.toNat : Nat) : Int), .int .u8 ((p0.Op.toNat : Nat) : Int), .string (toS p0.Var), .string (toS p0.Name), .int .u8 ((p0.Val.Kind.toNat : Nat) : Int), .int .i64 p0.Val.N, .int .u64 p0.Val.Bits, .string (toS p0.Val.Text)]) (r := (decide (((p0.Kind.toNat : Nat) : Int) = ((p0.Kind.toNat : Nat) : Int)) && (decide (0 = ((p0.Op.toNat : Nat) : Int)) && (decide ((toS ([] : List UInt8)) = (toS p0.Var)) && (decide ((toS ([] : List UInt8)) = (toS p0.Name)) && ((decide (((p0.Val.Kind.toNat : Nat) : Int) = ((p0.Val.Kind.toNat : Nat) : Int)) && (decide (p0.Val.N = p0.Val.N) && (decide (p0.Val.Bits = p0.Val.Bits) && (decide ((toS p0.Val.Text) = (toS p0.Val.Text)) && true)))) && true)))))) (by kernel_rfl) (by kernel_rfl) (by kernel_rfl) (by kernel_rfl) (by kernel_rfl) (by kernel_rfl))) <| Wm (.b v34_3) rfl <| Nn <| Rt ?_
     obtain rfl := Option.some.inj hm
     exact ret_i []
    ·
     replace hm := cF hc27_8 hm
     refine AiF hc27_8 <| Sk <| Ino <| Tk 10 3 ⟨tp 1 (.loc 0 0::tp 1 (.loc 1 0::tp 31 [])), [(.box [(.y p0.Kind), (.y p0.Op), (.s p0.Var), (.s p0.Name), (.y p0.Val.Kind), (.i p0.Val.N), (.u p0.Val.Bits), (.s p0.Val.Text)]), (.box [(.y p0.Kind), (.y 0), (.s ([] : List UInt8)), (.s ([] : List UInt8)), (.y 0), (.i 0), (.u 0), (.s ([] : List UInt8))])], 0⟩ <| Sx <| Wz (.agg [(.y p0.Kind), (.y 0), (.s ([] : List UInt8)), (.s ([] : List UInt8)), (.y 0), (.i 0), (.u 0), (.s ([] : List UInt8))]) (Old rfl) <| Wz (.agg [(.y p0.Kind), (.y p0.Op), (.s p0.Var), (.s p0.Name), (.y p0.Val.Kind), (.i p0.Val.N), (.u p0.Val.Bits), (.s p0.Val.Text)]) (Old rfl) ?_
     obtain ⟨v34_4, hv34_4, hm⟩ := bnd hm; replace hv34_4 := Option.some.inj hv34_4
     refine Wz (.b v34_4) (Ocs (Eq.trans (lit_tf (by simp only [toS_inj])) (congrArg (fun z => A.d (.lit (.bool z))) hv34_4)) (op_neq_deep rfl (la := [(.y p0.Kind), (.y 0), (.s ([] : List UInt8)), (.s ([] : List UInt8)), (.y 0), (.i 0), (.u 0), (.s ([] : List UInt8))]) (lb := [(.y p0.Kind), (.y p0.Op), (.s p0.Var), (.s p0.Name), (.y p0.Val.Kind), (.i p0.Val.N), (.u p0.Val.Bits), (.s p0.Val.Text)]) (us := [.int .u8 ((p0.Kind.toNat : Nat) : Int), .int .u8 0, .string (toS ([] : List UInt8)), .string (toS ([] : List UInt8)), .int .u8 0, .int .i64 0, .int .u64 0, .string (toS ([] : List UInt8))]) (vs := [.int .u8 ((p0.Kind.toNat : Nat) : Int), .int .u8 ((p0.Op.toNat : Nat) : Int), .string (toS p0.Var), .string (toS p0.Name), .int .u8 ((p0.Val.Kind.toNat : Nat) : Int), .int .i64 p0.Val.N, .int .u64 p0.Val.Bits, .string (toS p0.Val.Text)]) (r := (decide (((p0.Kind.toNat : Nat) : Int) = ((p0.Kind.toNat : Nat) : Int)) && (decide (0 = ((p0.Op.toNat : Nat) : Int)) && (decide ((toS ([] : List UInt8)) = (toS p0.Var)) && (decide ((toS ([] : List UInt8)) = (toS p0.Name)) && ((decide (0 = ((p0.Val.Kind.toNat : Nat) : Int)) && (decide (0 = p0.Val.N) && (decide (0 = p0.Val.Bits) && (decide ((toS ([] : List UInt8)) = (toS p0.Val.Text)) && true)))) && true)))))) (by kernel_rfl) (by kernel_rfl) (by kernel_rfl) (by kernel_rfl) (by kernel_rfl) (by kernel_rfl))) <| Wm (.b v34_4) rfl <| Nn <| Rt ?_
     obtain rfl := Option.some.inj hm
     exact ret_i []

theorem ok_pred_is__pred_Node_more (p0 : GNode_) (p2 : Int) (r : Int) (h : m_pred_is__pred_Node_more p0 p2 = some r) : GCall Try.prog 36 [(.agg [(.y p0.Kind), (.y p0.Op), (.s p0.Var), (.s p0.Name), (.y p0.Val.Kind), (.i p0.Val.N), (.u p0.Val.Bits), (.s p0.Val.Text)]), (.clo (.func 38) [] []), (.i p2)] [] (.i r) [] := by
 refine GCall.of_body (n := 11) (rs := [(.tmp 6)]) Try.func36 rfl rfl rfl <| Ato ⟨.agg [(.y p0.Kind), (.y p0.Op), (.s p0.Var), (.s p0.Name), (.y p0.Val.Kind), (.i p0.Val.N), (.u p0.Val.Bits), (.s p0.Val.Text)]::.clo (.func 38) [] []::.i p2::tu 8 [], [], 0⟩ ?_
 have hm := h
 unfold m_pred_is__pred_Node_more at hm
 refine Sx <| Wy (.loc 0 0) [(0, (.box [(.y p0.Kind), (.y p0.Op), (.s p0.Var), (.s p0.Name), (.y p0.Val.Kind), (.i p0.Val.N), (.u p0.Val.Bits), (.s p0.Val.Text)]))] (Obx rfl) <| Wm (.i 0) rfl <| Nk 14 1 ⟨tp 1 (.clo (.func 38) [] []::.i p2::.loc 0 0::tp 7 []), [(.box [(.y p0.Kind), (.y p0.Op), (.s p0.Var), (.s p0.Name), (.y p0.Val.Kind), (.i p0.Val.N), (.u p0.Val.Bits), (.s p0.Val.Text)])], 0⟩ <| Sq <| Sx <| Wm (.clo (.func 38) [] []) rfl <| Wz (.agg [(.y p0.Kind), (.y p0.Op), (.s p0.Var), (.s p0.Name), (.y p0.Val.Kind), (.i p0.Val.N), (.u p0.Val.Bits), (.s p0.Val.Text)]) (Old rfl) ?_
 obtain ⟨r9_0, hr9_0, hm⟩ := bnd hm
 refine Wz (.b r9_0) (Ocf [] [] [] 0 (ok_pred_Node_more p0 r9_0 hr9_0) (fun a w => Try.call38 a w) rfl trivial) <| Nk 516 0 ⟨tp 2 (.i p2::tp 6 (.b r9_0::tp 1 [])), [.gone], 0⟩ ?_
 rcases tf_ r9_0 with hc9_1 | hc9_1
 ·
  replace hm := cT hc9_1 hm
  refine AiT hc9_1 <| Sx <| Wm (.i p2) rfl <| Wm (.i p2) rfl <| Nn <| Rt <| Tr ?_
  obtain rfl := Option.some.inj hm
  exact ret_i []
 ·
  replace hm := cF hc9_1 hm
  refine AiF hc9_1 <| Sk <| Tk 0 0 ⟨tp 11 [], [.gone], 0⟩ <| Sx <| Wm (.i 0) rfl <| Nn <| Rt ?_
  obtain rfl := Option.some.inj hm
  exact ret_i []

theorem ok_pred_Kids (p0 : UInt8) (r : Int) (h : m_pred_Kids p0 = some r) : GCall Try.prog 10 [(.y p0)] [] (.i r) [] := by
 refine GCall.of_body (n := 12) (rs := [(.tmp 2)]) Try.func10 rfl rfl rfl <| Ato ⟨.y p0::tu 11 [], [], 0⟩ ?_
 have hm := h
 unfold m_pred_Kids at hm
 refine Sx <| Wm (.i 0) rfl <| Nk 1 0 ⟨.y p0::tp 11 [], [], 0⟩ <| Sq <| Sx <| Wm (.y p0) rfl <| Nk 8 0 ⟨tp 3 (.y p0::tp 8 []), [], 0⟩ <| Bk ?_
 refine AWP.cutJ (α := Bool) (fun x => match x with | y4_0 => (⟨tp 3 (.y p0::.b y4_0::tp 7 []), [], 0⟩ : St)) (fun x => match x with | y4_0 => m_pred_Kids_j0 p0 y4_0 = some r) ?_ (fun J0 => ?_)
 ·
  rintro y4_0 hm
  try dsimp only at hm ⊢
  unfold m_pred_Kids_j0 at hm
  rcases tf_ y4_0 with hc4_0 | hc4_0
  ·
   replace hm := cT hc4_0 hm
   refine AiT hc4_0 <| Sx <| Wm (.i 2) rfl <| Nn <| Rt <| Ir <| Tr ?_
   obtain rfl := Option.some.inj hm
   exact ret_i []
  ·
   replace hm := cF hc4_0 hm
   refine AiF hc4_0 <| Sx <| Wz (.b (decide (((p0.toNat : Nat) : Int) = 3))) (Ob2 (.int .u8 ((p0.toNat : Nat) : Int)) (.int .u8 3) rfl (fun _ => hb_eql)) <| Wm (.b (decide (((p0.toNat : Nat) : Int) = 3))) rfl <| Nk 1024 0 ⟨tp 10 (.b (decide (((p0.toNat : Nat) : Int) = 3))::tp 1 []), [], 0⟩ ?_
   rcases tf_ (decide (((p0.toNat : Nat) : Int) = 3)) with hc10_1 | hc10_1
   ·
    replace hm := cT hc10_1 hm
    refine AiT hc10_1 <| Sx <| Wm (.i 1) rfl <| Nn <| Rt <| Ir <| Tr ?_
    obtain rfl := Option.some.inj hm
    exact ret_i []
   ·
    replace hm := cF hc10_1 hm
    refine AiF hc10_1 <| Sk <| Ino <| Tk 0 0 ⟨tp 12 [], [], 0⟩ <| Sx <| Wm (.i 0) rfl <| Nn <| Rt ?_
    obtain rfl := Option.some.inj hm
    exact ret_i []
 refine Sq <| Sx <| Wz (.b (decide (((p0.toNat : Nat) : Int) = 1))) (Ob2 (.int .u8 ((p0.toNat : Nat) : Int)) (.int .u8 1) rfl (fun _ => hb_eql)) <| Wm (.b (decide (((p0.toNat : Nat) : Int) = 1))) rfl <| Nk 24 0 ⟨tp 3 (.y p0::.b (decide (((p0.toNat : Nat) : Int) = 1))::tp 7 []), [], 0⟩ ?_
 rcases tf_ (decide (((p0.toNat : Nat) : Int) = 1)) with hc4_2 | hc4_2
 ·
  replace hm := cT hc4_2 hm
  refine AiT hc4_2 <| Sk <| Tn ?_
  exact AWP.weak (Weak.toK 24 0 0 []) (J0 (decide (((p0.toNat : Nat) : Int) = 1)) hm)
 ·
  replace hm := cF hc4_2 hm
  refine AiF hc4_2 <| Sx <| Wz (.b (decide (((p0.toNat : Nat) : Int) = 2))) (Ob2 (.int .u8 ((p0.toNat : Nat) : Int)) (.int .u8 2) rfl (fun _ => hb_eql)) <| Wm (.b (decide (((p0.toNat : Nat) : Int) = 2))) rfl <| Nk 24 0 ⟨tp 3 (.y p0::.b (decide (((p0.toNat : Nat) : Int) = 2))::tp 7 []), [], 0⟩ ?_
  rcases tf_ (decide (((p0.toNat : Nat) : Int) = 2)) with hc4_3 | hc4_3
  ·
   replace hm := cT hc4_3 hm
   refine AiT hc4_3 <| Sk <| Tn ?_
   exact AWP.weak (Weak.toK 24 0 0 []) (J0 (decide (((p0.toNat : Nat) : Int) = 2)) hm)
  ·
   replace hm := cF hc4_3 hm
   refine AiF hc4_3 <| Sx <| Wz (.b (decide (((p0.toNat : Nat) : Int) = 4))) (Ob2 (.int .u8 ((p0.toNat : Nat) : Int)) (.int .u8 4) rfl (fun _ => hb_eql)) <| Wm (.b (decide (((p0.toNat : Nat) : Int) = 4))) rfl <| Nk 24 0 ⟨tp 3 (.y p0::.b (decide (((p0.toNat : Nat) : Int) = 4))::tp 7 []), [], 0⟩ ?_
   rcases tf_ (decide (((p0.toNat : Nat) : Int) = 4)) with hc4_4 | hc4_4
   ·
    replace hm := cT hc4_4 hm
    refine AiT hc4_4 <| Sk <| Tn ?_
    exact AWP.weak (Weak.toK 24 0 0 []) (J0 (decide (((p0.toNat : Nat) : Int) = 4)) hm)
   ·
    replace hm := cF hc4_4 hm
    refine AiF hc4_4 <| Sx <| Wz (.b (decide (((p0.toNat : Nat) : Int) = 5))) (Ob2 (.int .u8 ((p0.toNat : Nat) : Int)) (.int .u8 5) rfl (fun _ => hb_eql)) <| Wm (.b (decide (((p0.toNat : Nat) : Int) = 5))) rfl <| Nk 24 0 ⟨tp 3 (.y p0::.b (decide (((p0.toNat : Nat) : Int) = 5))::tp 7 []), [], 0⟩ ?_
    rcases tf_ (decide (((p0.toNat : Nat) : Int) = 5)) with hc4_5 | hc4_5
    ·
     replace hm := cT hc4_5 hm
     refine AiT hc4_5 <| Sk <| Tn ?_
     exact AWP.weak (Weak.toK 24 0 0 []) (J0 (decide (((p0.toNat : Nat) : Int) = 5)) hm)
    ·
     replace hm := cF hc4_5 hm
     refine AiF hc4_5 <| Tx <| Wz (.b (decide (((p0.toNat : Nat) : Int) = 6))) (Ob2 (.int .u8 ((p0.toNat : Nat) : Int)) (.int .u8 6) rfl (fun _ => hb_eql)) <| Wm (.b (decide (((p0.toNat : Nat) : Int) = 6))) rfl <| Nn ?_
     exact AWP.weak (Weak.toK 24 0 0 []) (J0 (decide (((p0.toNat : Nat) : Int) = 6)) hm)

theorem ok_pred_Node_kid (p0 : GNode_) (p1 : Int) (r : Int) (h : m_pred_Node_kid p0 p1 = some r) : GCall Try.prog 39 [(.agg [(.y p0.Kind), (.y p0.Op), (.s p0.Var), (.s p0.Name), (.y p0.Val.Kind), (.i p0.Val.N), (.u p0.Val.Bits), (.s p0.Val.Text)]), (.i p1)] [] (.i r) [] := by
 refine GCall.of_body (n := 15) (rs := [(.tmp 4)]) Try.func39 rfl rfl rfl <| Ato ⟨.agg [(.y p0.Kind), (.y p0.Op), (.s p0.Var), (.s p0.Name), (.y p0.Val.Kind), (.i p0.Val.N), (.u p0.Val.Bits), (.s p0.Val.Text)]::.i p1::tu 13 [], [], 0⟩ ?_
 have hm := h
 unfold m_pred_Node_kid at hm
 refine Sx <| Wy (.loc 0 0) [(0, (.box [(.y p0.Kind), (.y p0.Op), (.s p0.Var), (.s p0.Name), (.y p0.Val.Kind), (.i p0.Val.N), (.u p0.Val.Bits), (.s p0.Val.Text)]))] (Obx rfl) <| Wm (.i 0) rfl <| Nk 6 1 ⟨tp 1 (.i p1::.loc 0 0::tp 12 []), [(.box [(.y p0.Kind), (.y p0.Op), (.s p0.Var), (.s p0.Name), (.y p0.Val.Kind), (.i p0.Val.N), (.u p0.Val.Bits), (.s p0.Val.Text)])], 0⟩ <| Sq <| Bk <| Sx <| Wz (.loc 0 0) (Ofa rfl) <| Wz (.y p0.Kind) (Old rfl) <| Wz (.b (decide (((p0.Kind.toNat : Nat) : Int) ≤ 3))) (Ob2 (.int .u8 ((p0.Kind.toNat : Nat) : Int)) (.int .u8 3) rfl (fun _ => hb_leq)) <| Wm (.b (decide (((p0.Kind.toNat : Nat) : Int) ≤ 3))) rfl <| Nk 38 1 ⟨tp 1 (.i p1::.loc 0 0::tp 2 (.b (decide (((p0.Kind.toNat : Nat) : Int) ≤ 3))::tp 9 [])), [(.box [(.y p0.Kind), (.y p0.Op), (.s p0.Var), (.s p0.Name), (.y p0.Val.Kind), (.i p0.Val.N), (.u p0.Val.Bits), (.s p0.Val.Text)])], 0⟩ ?_
 rcases tf_ (decide (((p0.Kind.toNat : Nat) : Int) ≤ 3)) with hc5_1 | hc5_1
 ·
  replace hm := cT hc5_1 hm
  refine AiT hc5_1 <| Sx <| Wm (.i 0) rfl <| Nn <| Rt <| Ir <| Tr ?_
  obtain rfl := Option.some.inj hm
  exact ret_i []
 ·
  replace hm := cF hc5_1 hm
  refine AiF hc5_1 ?_
  refine AWP.cutJ (α := Bool) (fun x => match x with | y9_0 => (⟨tp 9 (.b y9_0::tp 5 []), [], 0⟩ : St)) (fun x => match x with | y9_0 => m_pred_Node_kid_j0  y9_0 = some r) ?_ (fun J0 => ?_)
  ·
   rintro y9_0 hm
   try dsimp only at hm ⊢
   unfold m_pred_Node_kid_j0 at hm
   rcases tf_ y9_0 with hc9_0 | hc9_0
   ·
    replace hm := cT hc9_0 hm
    refine AiT hc9_0 <| Sx <| Wm (.i 1) rfl <| Nn <| Rt <| Ir <| Tr ?_
    obtain rfl := Option.some.inj hm
    exact ret_i []
   ·
    replace hm := cF hc9_0 hm
    refine AiF hc9_0 <| Sk <| Ino <| Tk 0 0 ⟨tp 15 [], [], 0⟩ <| Sx <| Wm (.i 2) rfl <| Nn <| Rt ?_
    obtain rfl := Option.some.inj hm
    exact ret_i []
  refine Sq <| Sx <| Wz (.loc 0 0) (Ofa rfl) <| Wz (.y p0.Kind) (Old rfl) <| Wz (.b (decide (((p0.Kind.toNat : Nat) : Int) = 4))) (Ob2 (.int .u8 ((p0.Kind.toNat : Nat) : Int)) (.int .u8 4) rfl (fun _ => hb_eql)) <| Wm (.b (decide (((p0.Kind.toNat : Nat) : Int) = 4))) rfl <| Nk 514 0 ⟨tp 1 (.i p1::tp 7 (.b (decide (((p0.Kind.toNat : Nat) : Int) = 4))::tp 5 [])), [.gone], 0⟩ ?_
  rcases tf_ (decide (((p0.Kind.toNat : Nat) : Int) = 4)) with hc9_2 | hc9_2
  ·
   replace hm := cT hc9_2 hm
   refine AiT hc9_2 <| Sk <| Tn ?_
   exact AWP.weak (Weak.toK 512 0 0 []) (J0 (decide (((p0.Kind.toNat : Nat) : Int) = 4)) hm)
  ·
   replace hm := cF hc9_2 hm
   refine AiF hc9_2 <| Tx <| Wm (.i p1) rfl <| Wz (.b (decide (p1 = 0))) (Obn rfl (fun _ => hb_eql (k := .i64))) <| Wm (.b (decide (p1 = 0))) rfl <| Nn ?_
   exact AWP.weak (Weak.toK 512 0 0 []) (J0 (decide (p1 = 0)) hm)

theorem ok_pred_checker_tree : ∀ (fuR : Nat) (p0 : GTchecker) (p1 : Int) (p2 : Int) (r : (Int × GTchecker)) (h : m_pred_checker_tree fuR p0 p1 p2 = some r), GCall Try.prog 26 [(.loc 0 0), (.i p1), (.i p2)] [(.box [(.l enc_GNode_ p0.l), (.i p0.at_)])] (.i r.1) [(.box [(.l enc_GNode_ r.2.l), (.i r.2.at_)])] := by
 intro fuR; induction fuR with
 | zero => intro p0 p1 p2 r h; exact absurd h (by unfold m_pred_checker_tree; simp)
 | succ fuR ih =>
 intro p0 p1 p2 r h
 refine GCall.of_body (n := 72) (rs := [(.tmp 6)]) Try.func26 rfl rfl rfl <| Ato ⟨.loc 0 0::.i p1::.i p2::tu 69 [], [(.box [(.l enc_GNode_ p0.l), (.i p0.at_)])], 1⟩ ?_
 have hm := h
 unfold m_pred_checker_tree at hm
 refine Sx <| Wm (.i 0) rfl <| Nk 7 1 ⟨.loc 0 0::.i p1::.i p2::tp 69 [], [(.box [(.l enc_GNode_ p0.l), (.i p0.at_)])], 1⟩ <| Sq <| Sq <| Adr <| Wm (.loc 0 0) rfl <| Wz (.loc 0 0) (op_nilCheckLoc rfl (id := 0) (off := 0) (xs := [(.l enc_GNode_ p0.l), (.i p0.at_)]) (by kernel_rfl) (by kernel_rfl)) <| Wz (.loc 0 1) (Ofa rfl) <| Wz (.i p0.at_) (Old rfl) <| Wm (.loc 0 0) rfl <| Wz (.loc 0 0) (op_nilCheckLoc rfl (id := 0) (off := 0) (xs := [(.l enc_GNode_ p0.l), (.i p0.at_)]) (by kernel_rfl) (by kernel_rfl)) <| Wz (.loc 0 0) (Ofa rfl) <| Wz (.l enc_GNode_ p0.l) (Old rfl) ?_
 refine Wz (.i ((List.length p0.l : Nat) : Int)) (Oln rfl) <| Wz (.b (decide (((List.length p0.l : Nat) : Int) ≤ p0.at_))) (Obn rfl (fun _ => hb_geq (k := .i64))) <| Wdr <| Tk 2097159 1 ⟨.loc 0 0::.i p1::.i p2::tp 18 (.b (decide (((List.length p0.l : Nat) : Int) ≤ p0.at_))::tp 50 []), [(.box [(.l enc_GNode_ p0.l), (.i p0.at_)])], 1⟩ ?_
 rcases tf_ (decide (((List.length p0.l : Nat) : Int) ≤ p0.at_)) with hc21_8 | hc21_8
 ·
  replace hm := cT hc21_8 hm
  refine AiT hc21_8 <| Sx <| Wm (.i 3) rfl <| Nn <| Rt <| Tr ?_
  obtain rfl := Option.some.inj hm
  exact ret_i [0]
 ·
  replace hm := cF hc21_8 hm
  refine AiF hc21_8 <| Sk <| Tk 7 1 ⟨.loc 0 0::.i p1::.i p2::tp 69 [], [(.box [(.l enc_GNode_ p0.l), (.i p0.at_)])], 1⟩ <| Sq <| Adr <| Wm (.loc 0 0) rfl <| Wz (.loc 0 0) (op_nilCheckLoc rfl (id := 0) (off := 0) (xs := [(.l enc_GNode_ p0.l), (.i p0.at_)]) (by kernel_rfl) (by kernel_rfl)) <| Wz (.loc 0 0) (Ofa rfl) <| Wz (.l enc_GNode_ p0.l) (Old rfl) <| Wm (.loc 0 0) rfl <| Wz (.loc 0 0) (op_nilCheckLoc rfl (id := 0) (off := 0) (xs := [(.l enc_GNode_ p0.l), (.i p0.at_)]) (by kernel_rfl) (by kernel_rfl)) <| Wz (.loc 0 1) (Ofa rfl) <| Wz (.i p0.at_) (Old rfl) ?_
  obtain ⟨x30_1, hx30_1, hm⟩ := bnd hm
  obtain ⟨hx30_1i, hx30_1g⟩ := geti_some hx30_1
  refine Wz (.d (.ref (List.drop ((Int.toNat p0.at_) * 8) (flatD enc_GNode_ p0.l)))) (Oia rfl enc_GNode__len hx30_1i hx30_1g) <| Wz (.agg [(.y x30_1.Kind), (.y x30_1.Op), (.s x30_1.Var), (.s x30_1.Name), (.y x30_1.Val.Kind), (.i x30_1.Val.N), (.u x30_1.Val.Bits), (.s x30_1.Val.Text)]) (Lf rfl enc_GNode__len hx30_1g) <| Wy (.loc 1 0) [(1, (.box [(.y 0), (.y 0), (.s ([] : List UInt8)), (.s ([] : List UInt8)), (.y 0), (.i 0), (.u 0), (.s ([] : List UInt8))]))] (Oal rfl) <| Wy (.tup []) [(1, (.box [(.y x30_1.Kind), (.y x30_1.Op), (.s x30_1.Var), (.s x30_1.Name), (.y x30_1.Val.Kind), (.i x30_1.Val.N), (.u x30_1.Val.Bits), (.s x30_1.Val.Text)]))] (Ost rfl) <| Wdr <| Tk 135 3 ⟨.loc 0 0::.i p1::.i p2::tp 4 (.loc 1 0::tp 64 []), [(.box [(.l enc_GNode_ p0.l), (.i p0.at_)]), (.box [(.y x30_1.Kind), (.y x30_1.Op), (.s x30_1.Var), (.s x30_1.Name), (.y x30_1.Val.Kind), (.i x30_1.Val.N), (.u x30_1.Val.Bits), (.s x30_1.Val.Text)])], 1⟩ <| Sq <| Sx <| Wm (.i p2) rfl <| Wz (.b (decide ((16 : Int) ≤ p2))) (Obn rfl (fun _ => hb_geq (k := .i64))) <| Nk 8589934727 3 ⟨.loc 0 0::.i p1::.i p2::tp 4 (.loc 1 0::tp 25 (.b (decide ((16 : Int) ≤ p2))::tp 38 [])), [(.box [(.l enc_GNode_ p0.l), (.i p0.at_)]), (.box [(.y x30_1.Kind), (.y x30_1.Op), (.s x30_1.Var), (.s x30_1.Name), (.y x30_1.Val.Kind), (.i x30_1.Val.N), (.u x30_1.Val.Bits), (.s x30_1.Val.Text)])], 1⟩ ?_
  rcases tf_ (decide ((16 : Int) ≤ p2)) with hc33_9 | hc33_9
  ·
   replace hm := cT hc33_9 hm
   refine AiT hc33_9 <| Sx <| Wm (.i 15) rfl <| Nn <| Rt <| Tr ?_
   obtain rfl := Option.some.inj hm
   exact ret_i [0]
  ·
   replace hm := cF hc33_9 hm
   refine AiF hc33_9 <| Sk <| Tk 135 3 ⟨.loc 0 0::.i p1::.i p2::tp 4 (.loc 1 0::tp 64 []), [(.box [(.l enc_GNode_ p0.l), (.i p0.at_)]), (.box [(.y x30_1.Kind), (.y x30_1.Op), (.s x30_1.Var), (.s x30_1.Name), (.y x30_1.Val.Kind), (.i x30_1.Val.N), (.u x30_1.Val.Bits), (.s x30_1.Val.Text)])], 1⟩ <| Sq <| Sx <| Wz (.agg [(.y x30_1.Kind), (.y x30_1.Op), (.s x30_1.Var), (.s x30_1.Name), (.y x30_1.Val.Kind), (.i x30_1.Val.N), (.u x30_1.Val.Bits), (.s x30_1.Val.Text)]) (Old rfl) <| Wm (.i p1) rfl ?_
   obtain ⟨r36_2, hr36_2, hm⟩ := bnd hm
   refine Wz (.b r36_2) (Ocf [] [] [] 0 (ok_pred_Node_stands x30_1 p1 r36_2 hr36_2) (fun a w => Try.call35 a w) rfl trivial) <| Wz (.b (!r36_2)) (Ocs (by kernel_rfl) (op_un rfl (a1 := .bool r36_2) (by kernel_rfl) (fun _ => hu_not))) <| Nk 137438953605 3 ⟨.loc 0 0::tp 1 (.i p2::tp 4 (.loc 1 0::tp 29 (.b (!r36_2)::tp 34 []))), [(.box [(.l enc_GNode_ p0.l), (.i p0.at_)]), (.box [(.y x30_1.Kind), (.y x30_1.Op), (.s x30_1.Var), (.s x30_1.Name), (.y x30_1.Val.Kind), (.i x30_1.Val.N), (.u x30_1.Val.Bits), (.s x30_1.Val.Text)])], 1⟩ ?_
   rcases tf_ (!r36_2) with hc37_10 | hc37_10
   ·
    replace hm := cT hc37_10 hm
    refine AiT hc37_10 <| Sx <| Wm (.i 11) rfl <| Nn <| Rt <| Tr ?_
    obtain rfl := Option.some.inj hm
    exact ret_i [0]
   ·
    replace hm := cF hc37_10 hm
    refine AiF hc37_10 <| Sk <| Tk 133 3 ⟨.loc 0 0::tp 1 (.i p2::tp 4 (.loc 1 0::tp 64 [])), [(.box [(.l enc_GNode_ p0.l), (.i p0.at_)]), (.box [(.y x30_1.Kind), (.y x30_1.Op), (.s x30_1.Var), (.s x30_1.Name), (.y x30_1.Val.Kind), (.i x30_1.Val.N), (.u x30_1.Val.Bits), (.s x30_1.Val.Text)])], 1⟩ <| Sq <| Sx <| Wz (.agg [(.y x30_1.Kind), (.y x30_1.Op), (.s x30_1.Var), (.s x30_1.Name), (.y x30_1.Val.Kind), (.i x30_1.Val.N), (.u x30_1.Val.Bits), (.s x30_1.Val.Text)]) (Old rfl) ?_
    obtain ⟨r39_3, hr39_3, hm⟩ := bnd hm
    refine Wz (.i r39_3) (Ocf [] [] [] 0 (ok_pred_is__pred_Node_lacks x30_1 4 r39_3 hr39_3) (fun a w => Try.call36 a w) rfl trivial) <| Wm (.i r39_3) rfl <| Nk 389 3 ⟨.loc 0 0::tp 1 (.i p2::tp 4 (.loc 1 0::.i r39_3::tp 63 [])), [(.box [(.l enc_GNode_ p0.l), (.i p0.at_)]), (.box [(.y x30_1.Kind), (.y x30_1.Op), (.s x30_1.Var), (.s x30_1.Name), (.y x30_1.Val.Kind), (.i x30_1.Val.N), (.u x30_1.Val.Bits), (.s x30_1.Val.Text)])], 1⟩ <| Sx <| Wm (.i r39_3) rfl <| Wz (.b (decide (r39_3 ≠ 0))) (Obn rfl (fun _ => hb_neq (k := .i64))) <| Nk 2199023255941 3 ⟨.loc 0 0::tp 1 (.i p2::tp 4 (.loc 1 0::.i r39_3::tp 32 (.b (decide (r39_3 ≠ 0))::tp 30 []))), [(.box [(.l enc_GNode_ p0.l), (.i p0.at_)]), (.box [(.y x30_1.Kind), (.y x30_1.Op), (.s x30_1.Var), (.s x30_1.Name), (.y x30_1.Val.Kind), (.i x30_1.Val.N), (.u x30_1.Val.Bits), (.s x30_1.Val.Text)])], 1⟩ ?_
    rcases tf_ (decide (r39_3 ≠ 0)) with hc41_11 | hc41_11
    ·
     replace hm := cT hc41_11 hm
     refine AiT hc41_11 <| Sx <| Wm (.i r39_3) rfl <| Wm (.i r39_3) rfl <| Nn <| Rt <| Tr ?_
     obtain rfl := Option.some.inj hm
     exact ret_i [0]
    ·
     replace hm := cF hc41_11 hm
     refine AiF hc41_11 <| Sk <| Tk 133 3 ⟨.loc 0 0::tp 1 (.i p2::tp 4 (.loc 1 0::tp 64 [])), [(.box [(.l enc_GNode_ p0.l), (.i p0.at_)]), (.box [(.y x30_1.Kind), (.y x30_1.Op), (.s x30_1.Var), (.s x30_1.Name), (.y x30_1.Val.Kind), (.i x30_1.Val.N), (.u x30_1.Val.Bits), (.s x30_1.Val.Text)])], 1⟩ <| Sq <| Sx <| Wz (.agg [(.y x30_1.Kind), (.y x30_1.Op), (.s x30_1.Var), (.s x30_1.Name), (.y x30_1.Val.Kind), (.i x30_1.Val.N), (.u x30_1.Val.Bits), (.s x30_1.Val.Text)]) (Old rfl) ?_
     obtain ⟨r44_4, hr44_4, hm⟩ := bnd hm
     refine Wz (.i r44_4) (Ocf [] [] [] 0 (ok_pred_is__pred_Node_more x30_1 2 r44_4 hr44_4) (fun a w => Try.call36 a w) rfl trivial) <| Wm (.i r44_4) rfl <| Nk 645 3 ⟨.loc 0 0::tp 1 (.i p2::tp 4 (.loc 1 0::tp 1 (.i r44_4::tp 62 []))), [(.box [(.l enc_GNode_ p0.l), (.i p0.at_)]), (.box [(.y x30_1.Kind), (.y x30_1.Op), (.s x30_1.Var), (.s x30_1.Name), (.y x30_1.Val.Kind), (.i x30_1.Val.N), (.u x30_1.Val.Bits), (.s x30_1.Val.Text)])], 1⟩ <| Sx <| Wm (.i r44_4) rfl <| Wz (.b (decide (r44_4 ≠ 0))) (Obn rfl (fun _ => hb_neq (k := .i64))) <| Nk 70368744178309 3 ⟨.loc 0 0::tp 1 (.i p2::tp 4 (.loc 1 0::tp 1 (.i r44_4::tp 36 (.b (decide (r44_4 ≠ 0))::tp 25 [])))), [(.box [(.l enc_GNode_ p0.l), (.i p0.at_)]), (.box [(.y x30_1.Kind), (.y x30_1.Op), (.s x30_1.Var), (.s x30_1.Name), (.y x30_1.Val.Kind), (.i x30_1.Val.N), (.u x30_1.Val.Bits), (.s x30_1.Val.Text)])], 1⟩ ?_
     rcases tf_ (decide (r44_4 ≠ 0)) with hc46_12 | hc46_12
     ·
      replace hm := cT hc46_12 hm
      refine AiT hc46_12 <| Sx <| Wm (.i r44_4) rfl <| Wm (.i r44_4) rfl <| Nn <| Rt <| Tr ?_
      obtain rfl := Option.some.inj hm
      exact ret_i [0]
     ·
      replace hm := cF hc46_12 hm
      refine AiF hc46_12 <| Sk <| Tk 133 3 ⟨.loc 0 0::tp 1 (.i p2::tp 4 (.loc 1 0::tp 64 [])), [(.box [(.l enc_GNode_ p0.l), (.i p0.at_)]), (.box [(.y x30_1.Kind), (.y x30_1.Op), (.s x30_1.Var), (.s x30_1.Name), (.y x30_1.Val.Kind), (.i x30_1.Val.N), (.u x30_1.Val.Bits), (.s x30_1.Val.Text)])], 1⟩ <| Sx <| Wm (.loc 0 0) rfl <| Wz (.loc 0 0) (op_nilCheckLoc rfl (id := 0) (off := 0) (xs := [(.l enc_GNode_ p0.l), (.i p0.at_)]) (by kernel_rfl) (by kernel_rfl)) <| Wz (.loc 0 1) (Ofa rfl) <| Wz (.i p0.at_) (Old rfl) <| Wz (.i (W6 (p0.at_ + 1))) (Obn rfl (fun _ => hb_add (k := .i64))) <| Wz (.loc 0 0) (op_nilCheckLoc rfl (id := 0) (off := 0) (xs := [(.l enc_GNode_ p0.l), (.i p0.at_)]) (by kernel_rfl) (by kernel_rfl)) <| Wz (.loc 0 1) (Ofa rfl) <| Wy (.tup []) [(0, (.box [(.l enc_GNode_ p0.l), (.i (W6 (p0.at_ + 1)))]))] (Ost rfl) <| Nk 133 3 ⟨.loc 0 0::tp 1 (.i p2::tp 4 (.loc 1 0::tp 64 [])), [(.box [(.l enc_GNode_ p0.l), (.i (W6 (p0.at_ + 1)))]), (.box [(.y x30_1.Kind), (.y x30_1.Op), (.s x30_1.Var), (.s x30_1.Name), (.y x30_1.Val.Kind), (.i x30_1.Val.N), (.u x30_1.Val.Bits), (.s x30_1.Val.Text)])], 1⟩ <| Sq ?_
      refine Sx <| Wz (.loc 1 0) (Ofa rfl) <| Wz (.y x30_1.Kind) (Old rfl) ?_
      obtain ⟨r57_5, hr57_5, hm⟩ := bnd hm
      refine Wz (.i r57_5) (Ocf [] [] [] 0 (ok_pred_Kids x30_1.Kind r57_5 hr57_5) (fun a w => Try.call10 a w) rfl trivial) <| Wm (.i 0) rfl <| Nk 432345564227567749 3 ⟨.loc 0 0::tp 1 (.i p2::tp 4 (.loc 1 0::tp 49 (.i r57_5::.i 0::tp 13 []))), [(.box [(.l enc_GNode_ p0.l), (.i (W6 (p0.at_ + 1)))]), (.box [(.y x30_1.Kind), (.y x30_1.Op), (.s x30_1.Var), (.s x30_1.Name), (.y x30_1.Val.Kind), (.i x30_1.Val.N), (.u x30_1.Val.Bits), (.s x30_1.Val.Text)])], 1⟩ <| Bk ?_
      refine AWP.loopI (α := Nat × GTchecker × Int)
        (fun (fu_6, y0_d_6, y58_6) => (⟨.loc 0 0::tp 1 (.i p2::tp 4 (.loc 1 0::tp 49 (.i r57_5::.i y58_6::tp 13 []))), [(.box [(.l enc_GNode_ y0_d_6.l), (.i y0_d_6.at_)]), (.box [(.y x30_1.Kind), (.y x30_1.Op), (.s x30_1.Var), (.s x30_1.Name), (.y x30_1.Val.Kind), (.i x30_1.Val.N), (.u x30_1.Val.Bits), (.s x30_1.Val.Text)])], 1⟩ : St))
        (fun (fu_6, y0_d_6, y58_6) => m_pred_checker_tree_l6 p2 r57_5 x30_1 (fun p0 p1 p2 => m_pred_checker_tree fuR p0 p1 p2) fu_6 y0_d_6 y58_6 = some r)
        (fun (fu_6, y0_d_6, y58_6) => fu_6) (1152921504606846976, (GTchecker.mk p0.l (W6 (p0.at_ + 1))), 0)
        (Weak.toK 432345564227567749 0 0 [0, 1]) hm ?_
      rintro ⟨fu_6, y0_d_6, y58_6⟩ n_6 hm ih_6
      try dsimp only at hm ih_6 ⊢
      cases fu_6 with
      | zero => exact absurd hm (by unfold m_pred_checker_tree_l6; simp)
      | succ fu_6 =>
       unfold m_pred_checker_tree_l6 at hm
       refine Sx <| Wz (.b (decide (y58_6 < r57_5))) (Obn rfl (fun _ => hb_lss (k := .i64))) <| Nk 1008806316530991237 3 ⟨.loc 0 0::tp 1 (.i p2::tp 4 (.loc 1 0::tp 49 (.i r57_5::.i y58_6::.b (decide (y58_6 < r57_5))::tp 12 []))), [(.box [(.l enc_GNode_ y0_d_6.l), (.i y0_d_6.at_)]), (.box [(.y x30_1.Kind), (.y x30_1.Op), (.s x30_1.Var), (.s x30_1.Name), (.y x30_1.Val.Kind), (.i x30_1.Val.N), (.u x30_1.Val.Bits), (.s x30_1.Val.Text)])], 1⟩ <| Sq ?_
       rcases tf_ (decide (y58_6 < r57_5)) with hc59_13 | hc59_13
       ·
        replace hm := cT hc59_13 hm
        refine AiT hc59_13 <| Sk <| Tk 432345564227567749 3 ⟨.loc 0 0::tp 1 (.i p2::tp 4 (.loc 1 0::tp 49 (.i r57_5::.i y58_6::tp 13 []))), [(.box [(.l enc_GNode_ y0_d_6.l), (.i y0_d_6.at_)]), (.box [(.y x30_1.Kind), (.y x30_1.Op), (.s x30_1.Var), (.s x30_1.Name), (.y x30_1.Val.Kind), (.i x30_1.Val.N), (.u x30_1.Val.Bits), (.s x30_1.Val.Text)])], 1⟩ <| Sq <| Bk <| Sx <| Wm (.i y58_6) rfl <| Wm (.i y58_6) rfl <| Nk 432345564227568773 3 ⟨.loc 0 0::tp 1 (.i p2::tp 4 (.loc 1 0::tp 2 (.i y58_6::tp 46 (.i r57_5::.i y58_6::tp 13 [])))), [(.box [(.l enc_GNode_ y0_d_6.l), (.i y0_d_6.at_)]), (.box [(.y x30_1.Kind), (.y x30_1.Op), (.s x30_1.Var), (.s x30_1.Name), (.y x30_1.Val.Kind), (.i x30_1.Val.N), (.u x30_1.Val.Bits), (.s x30_1.Val.Text)])], 1⟩ <| Sx <| Wm (.loc 0 0) rfl <| Wz (.agg [(.y x30_1.Kind), (.y x30_1.Op), (.s x30_1.Var), (.s x30_1.Name), (.y x30_1.Val.Kind), (.i x30_1.Val.N), (.u x30_1.Val.Bits), (.s x30_1.Val.Text)]) (Old rfl) <| Wm (.i y58_6) rfl ?_
        obtain ⟨r64_7, hr64_7, hm⟩ := bnd hm
        refine Wz (.i r64_7) (Ocf [] [] [] 0 (ok_pred_Node_kid x30_1 y58_6 r64_7 hr64_7) (fun a w => Try.call39 a w) rfl trivial) <| Wm (.i p2) rfl <| Wz (.i (W6 (p2 + 1))) (Obn rfl (fun _ => hb_add (k := .i64))) ?_
        obtain ⟨r67_7, hr67_7, hm⟩ := bnd hm
        refine Wy (.i r67_7.1) [(0, (.box [(.l enc_GNode_ r67_7.2.l), (.i r67_7.2.at_)]))] (Ocf [0] [] [] 0 (ih y0_d_6 r64_7 (W6 (p2 + 1)) r67_7 hr67_7) (fun a w => Try.call26 a w) rfl ⟨rfl, trivial⟩) <| Wm (.i r67_7.1) rfl <| Nk 432345564227569797 3 ⟨.loc 0 0::tp 1 (.i p2::tp 4 (.loc 1 0::tp 3 (.i r67_7.1::tp 45 (.i r57_5::.i y58_6::tp 13 [])))), [(.box [(.l enc_GNode_ r67_7.2.l), (.i r67_7.2.at_)]), (.box [(.y x30_1.Kind), (.y x30_1.Op), (.s x30_1.Var), (.s x30_1.Name), (.y x30_1.Val.Kind), (.i x30_1.Val.N), (.u x30_1.Val.Bits), (.s x30_1.Val.Text)])], 1⟩ <| Sx <| Wm (.i r67_7.1) rfl <| Wz (.b (decide (r67_7.1 ≠ 0))) (Obn rfl (fun _ => hb_neq (k := .i64))) <| Nk 590728155922933221509 3 ⟨.loc 0 0::tp 1 (.i p2::tp 4 (.loc 1 0::tp 3 (.i r67_7.1::tp 45 (.i r57_5::.i y58_6::tp 10 (.b (decide (r67_7.1 ≠ 0))::tp 2 []))))), [(.box [(.l enc_GNode_ r67_7.2.l), (.i r67_7.2.at_)]), (.box [(.y x30_1.Kind), (.y x30_1.Op), (.s x30_1.Var), (.s x30_1.Name), (.y x30_1.Val.Kind), (.i x30_1.Val.N), (.u x30_1.Val.Bits), (.s x30_1.Val.Text)])], 1⟩ ?_
        rcases tf_ (decide (r67_7.1 ≠ 0)) with hc69_14 | hc69_14
        ·
         replace hm := cT hc69_14 hm
         refine AiT hc69_14 <| Sx <| Wm (.i r67_7.1) rfl <| Wm (.i r67_7.1) rfl <| Nn <| Rt <| Ir <| Tr <| RoundK.ret <| Ir <| Tr ?_
         obtain rfl := Option.some.inj hm
         exact ret_i [0]
        ·
         replace hm := cF hc69_14 hm
         refine AiF hc69_14 <| Sk <| Ino <| Tk 432345564227567749 3 ⟨.loc 0 0::tp 1 (.i p2::tp 4 (.loc 1 0::tp 49 (.i r57_5::.i y58_6::tp 13 []))), [(.box [(.l enc_GNode_ r67_7.2.l), (.i r67_7.2.at_)]), (.box [(.y x30_1.Kind), (.y x30_1.Op), (.s x30_1.Var), (.s x30_1.Name), (.y x30_1.Val.Kind), (.i x30_1.Val.N), (.u x30_1.Val.Bits), (.s x30_1.Val.Text)])], 1⟩ <| Tx <| Wz (.i (W6 (y58_6 + 1))) (Obn rfl (fun _ => hb_add (k := .i64))) <| Wm (.i (W6 (y58_6 + 1))) rfl <| Wn0 <| RoundK.normal ?_
         exact Rounds.weak (Weak.toK 432345564227567749 0 0 [0, 1]) (ih_6 (fu_6, r67_7.2, (W6 (y58_6 + 1))) hm (Nat.lt_succ_self _))
       ·
        replace hm := cF hc59_13 hm
        refine AiF hc59_13 <| AWP.exit <| Then.exit <| RoundK.exit <| InBlock.same <| Tk 0 1 ⟨tp 72 [], [(.box [(.l enc_GNode_ y0_d_6.l), (.i y0_d_6.at_)]), .gone], 1⟩ <| Sx <| Wm (.i 0) rfl <| Nn <| Rt ?_
        obtain rfl := Option.some.inj hm
        exact ret_i [0]

theorem ok_pred_Check (p0 : (List GNode_)) (r : Int) (h : m_pred_Check p0 = some r) : GCall Try.prog 14 [(.l enc_GNode_ p0)] [] (.i r) [] := by
 refine GCall.of_body (n := 26) (rs := [(.tmp 2)]) Try.func14 rfl rfl rfl <| Ato ⟨.l enc_GNode_ p0::tu 25 [], [], 0⟩ ?_
 have hm := h
 unfold m_pred_Check at hm
 refine Sx <| Wm (.i 0) rfl <| Nk 1 0 ⟨.l enc_GNode_ p0::tp 25 [], [], 0⟩ <| Sq <| Sx <| Wm (.l enc_GNode_ p0) rfl <| Wz (.i ((List.length p0 : Nat) : Int)) (Oln rfl) <| Wz (.b (decide ((30 : Int) < ((List.length p0 : Nat) : Int)))) (Obn rfl (fun _ => hb_gtr (k := .i64))) <| Nk 129 0 ⟨.l enc_GNode_ p0::tp 6 (.b (decide ((30 : Int) < ((List.length p0 : Nat) : Int)))::tp 18 []), [], 0⟩ ?_
 rcases tf_ (decide ((30 : Int) < ((List.length p0 : Nat) : Int))) with hc7_4 | hc7_4
 ·
  replace hm := cT hc7_4 hm
  refine AiT hc7_4 <| Sx <| Wm (.i 5) rfl <| Nn <| Rt <| Tr ?_
  obtain rfl := Option.some.inj hm
  exact ret_i []
 ·
  replace hm := cF hc7_4 hm
  refine AiF hc7_4 <| Sk <| Tk 1 0 ⟨.l enc_GNode_ p0::tp 25 [], [], 0⟩ <| Sq <| Sx <| Wm (.l enc_GNode_ p0) rfl <| Wz (.i ((List.length p0 : Nat) : Int)) (Oln rfl) <| Wz (.b (decide (((List.length p0 : Nat) : Int) = 0))) (Obn rfl (fun _ => hb_eql (k := .i64))) <| Nk 1025 0 ⟨.l enc_GNode_ p0::tp 9 (.b (decide (((List.length p0 : Nat) : Int) = 0))::tp 15 []), [], 0⟩ ?_
  rcases tf_ (decide (((List.length p0 : Nat) : Int) = 0)) with hc10_5 | hc10_5
  ·
   replace hm := cT hc10_5 hm
   refine AiT hc10_5 <| Sx <| Wm (.i 0) rfl <| Nn <| Rt <| Tr ?_
   obtain rfl := Option.some.inj hm
   exact ret_i []
  ·
   replace hm := cF hc10_5 hm
   refine AiF hc10_5 <| Sk <| Tk 1 0 ⟨.l enc_GNode_ p0::tp 25 [], [], 0⟩ <| Sx <| Wm (.l enc_GNode_ p0) rfl <| Wz (.agg [(.l enc_GNode_ p0), (.i 0)]) (Obd rfl) <| Wy (.loc 0 0) [(0, (.box [(.l enc_GNode_ p0), (.i 0)]))] (Obx rfl) <| Wm (.loc 0 0) rfl <| Nk 9 1 ⟨.l enc_GNode_ p0::tp 2 (.loc 0 0::tp 22 []), [(.box [(.l enc_GNode_ p0), (.i 0)])], 0⟩ <| Sq <| Sx <| Wm (.loc 0 0) rfl ?_
   obtain ⟨r15_2, hr15_2, hm⟩ := bnd hm
   refine Wy (.i r15_2.1) [(0, (.box [(.l enc_GNode_ r15_2.2.l), (.i r15_2.2.at_)]))] (Ocf [0] [] [] 0 (ok_pred_checker_tree 1152921504606846976 (GTchecker.mk p0 0) 0 0 r15_2 hr15_2) (fun a w => Try.call26 a w) rfl ⟨rfl, trivial⟩) <| Wm (.i r15_2.1) rfl <| Nk 25 1 ⟨.l enc_GNode_ p0::tp 2 (.loc 0 0::.i r15_2.1::tp 21 []), [(.box [(.l enc_GNode_ r15_2.2.l), (.i r15_2.2.at_)])], 0⟩ <| Sx <| Wm (.i r15_2.1) rfl <| Wz (.b (decide (r15_2.1 ≠ 0))) (Obn rfl (fun _ => hb_neq (k := .i64))) <| Nk 131097 1 ⟨.l enc_GNode_ p0::tp 2 (.loc 0 0::.i r15_2.1::tp 12 (.b (decide (r15_2.1 ≠ 0))::tp 8 [])), [(.box [(.l enc_GNode_ r15_2.2.l), (.i r15_2.2.at_)])], 0⟩ ?_
   rcases tf_ (decide (r15_2.1 ≠ 0)) with hc17_6 | hc17_6
   ·
    replace hm := cT hc17_6 hm
    refine AiT hc17_6 <| Sx <| Wm (.i r15_2.1) rfl <| Wm (.i r15_2.1) rfl <| Nn <| Rt <| Tr ?_
    obtain rfl := Option.some.inj hm
    exact ret_i []
   ·
    replace hm := cF hc17_6 hm
    refine AiF hc17_6 <| Sk <| Tk 9 1 ⟨.l enc_GNode_ p0::tp 2 (.loc 0 0::tp 22 []), [(.box [(.l enc_GNode_ r15_2.2.l), (.i r15_2.2.at_)])], 0⟩ <| Sq <| Sx <| Wm (.loc 0 0) rfl <| Wz (.loc 0 0) (op_nilCheckLoc rfl (id := 0) (off := 0) (xs := [(.l enc_GNode_ r15_2.2.l), (.i r15_2.2.at_)]) (by kernel_rfl) (by kernel_rfl)) <| Wz (.loc 0 1) (Ofa rfl) <| Wz (.i r15_2.2.at_) (Old rfl) <| Wm (.l enc_GNode_ p0) rfl <| Wz (.i ((List.length p0 : Nat) : Int)) (Oln rfl) <| Wz (.b (decide (r15_2.2.at_ < ((List.length p0 : Nat) : Int)))) (Obn rfl (fun _ => hb_lss (k := .i64))) <| Nk 33554432 0 ⟨tp 25 (.b (decide (r15_2.2.at_ < ((List.length p0 : Nat) : Int)))::[]), [.gone], 0⟩ ?_
    rcases tf_ (decide (r15_2.2.at_ < ((List.length p0 : Nat) : Int))) with hc25_7 | hc25_7
    ·
     replace hm := cT hc25_7 hm
     refine AiT hc25_7 <| Sx <| Wm (.i 5) rfl <| Nn <| Rt <| Tr ?_
     obtain rfl := Option.some.inj hm
     exact ret_i []
    ·
     replace hm := cF hc25_7 hm
     refine AiF hc25_7 <| Sk <| Tk 0 0 ⟨tp 26 [], [.gone], 0⟩ <| Sx <| Wm (.i 0) rfl <| Nn <| Rt ?_
     obtain rfl := Option.some.inj hm
     exact ret_i []

theorem ok_pred_bound (p0 : UInt8) (r : Int) (h : m_pred_bound p0 = some r) : GCall Try.prog 56 [(.y p0)] [] (.i r) [] := by
 refine GCall.of_body (n := 8) (rs := [(.tmp 2)]) Try.func56 rfl rfl rfl <| Ato ⟨.y p0::tu 7 [], [], 0⟩ ?_
 have hm := h
 unfold m_pred_bound at hm
 refine Sx <| Wm (.i 0) rfl <| Nk 1 0 ⟨.y p0::tp 7 [], [], 0⟩ <| Sq <| Sx <| Wm (.y p0) rfl <| Nk 8 0 ⟨tp 3 (.y p0::tp 4 []), [], 0⟩ <| Bk <| Sx <| Wz (.b (decide (((p0.toNat : Nat) : Int) = 2))) (Ob2 (.int .u8 ((p0.toNat : Nat) : Int)) (.int .u8 2) rfl (fun _ => hb_eql)) <| Wm (.b (decide (((p0.toNat : Nat) : Int) = 2))) rfl <| Nk 24 0 ⟨tp 3 (.y p0::.b (decide (((p0.toNat : Nat) : Int) = 2))::tp 3 []), [], 0⟩ ?_
 rcases tf_ (decide (((p0.toNat : Nat) : Int) = 2)) with hc4_0 | hc4_0
 ·
  replace hm := cT hc4_0 hm
  refine AiT hc4_0 <| Sx <| Wm (.i 1) rfl <| Nn <| Rt <| Ir <| Tr ?_
  obtain rfl := Option.some.inj hm
  exact ret_i []
 ·
  replace hm := cF hc4_0 hm
  refine AiF hc4_0 <| Sx <| Wz (.b (decide (((p0.toNat : Nat) : Int) = 1))) (Ob2 (.int .u8 ((p0.toNat : Nat) : Int)) (.int .u8 1) rfl (fun _ => hb_eql)) <| Wm (.b (decide (((p0.toNat : Nat) : Int) = 1))) rfl <| Nk 64 0 ⟨tp 6 (.b (decide (((p0.toNat : Nat) : Int) = 1))::tp 1 []), [], 0⟩ ?_
  rcases tf_ (decide (((p0.toNat : Nat) : Int) = 1)) with hc6_1 | hc6_1
  ·
   replace hm := cT hc6_1 hm
   refine AiT hc6_1 <| Sx <| Wm (.i 2) rfl <| Nn <| Rt <| Ir <| Tr ?_
   obtain rfl := Option.some.inj hm
   exact ret_i []
  ·
   replace hm := cF hc6_1 hm
   refine AiF hc6_1 <| Sk <| Ino <| Tk 0 0 ⟨tp 8 [], [], 0⟩ <| Sx <| Wm (.i 3) rfl <| Nn <| Rt ?_
   obtain rfl := Option.some.inj hm
   exact ret_i []

theorem ok_pred_printer_within (rec_m_pred_printer_tree : GTchecker → Option ((List UInt8) × GTchecker)) (hrec_m_pred_printer_tree : ∀ (p0 : GTchecker) (r : ((List UInt8) × GTchecker)), rec_m_pred_printer_tree p0 = some r → GCall Try.prog 28 [(.loc 0 0)] [(.box [(.l enc_GNode_ p0.l), (.i p0.at_)])] (.s r.1) [(.box [(.l enc_GNode_ r.2.l), (.i r.2.at_)])]) (p0 : GTchecker) (p1 : Int) (r : ((List UInt8) × GTchecker)) (h : m_pred_printer_within rec_m_pred_printer_tree p0 p1 = some r) : GCall Try.prog 44 [(.loc 0 0), (.i p1)] [(.box [(.l enc_GNode_ p0.l), (.i p0.at_)])] (.s r.1) [(.box [(.l enc_GNode_ r.2.l), (.i r.2.at_)])] := by
 refine GCall.of_body (n := 25) (rs := [(.tmp 4)]) Try.func44 rfl rfl rfl <| Ato ⟨.loc 0 0::.i p1::tu 23 [], [(.box [(.l enc_GNode_ p0.l), (.i p0.at_)])], 1⟩ ?_
 have hm := h
 unfold m_pred_printer_within at hm
 refine Sx <| Wm (.s ([] : List UInt8)) rfl <| Nk 3 1 ⟨.loc 0 0::.i p1::tp 23 [], [(.box [(.l enc_GNode_ p0.l), (.i p0.at_)])], 1⟩ <| Sq <| Sq <| Adr <| Wm (.loc 0 0) rfl <| Wz (.loc 0 0) (op_nilCheckLoc rfl (id := 0) (off := 0) (xs := [(.l enc_GNode_ p0.l), (.i p0.at_)]) (by kernel_rfl) (by kernel_rfl)) <| Wz (.loc 0 0) (Ofa rfl) <| Wz (.l enc_GNode_ p0.l) (Old rfl) <| Wm (.loc 0 0) rfl <| Wz (.loc 0 0) (op_nilCheckLoc rfl (id := 0) (off := 0) (xs := [(.l enc_GNode_ p0.l), (.i p0.at_)]) (by kernel_rfl) (by kernel_rfl)) <| Wz (.loc 0 1) (Ofa rfl) <| Wz (.i p0.at_) (Old rfl) ?_
 obtain ⟨x13_0, hx13_0, hm⟩ := bnd hm
 obtain ⟨hx13_0i, hx13_0g⟩ := geti_some hx13_0
 refine Wz (.d (.ref (List.drop ((Int.toNat p0.at_) * 8) (flatD enc_GNode_ p0.l)))) (Oia rfl enc_GNode__len hx13_0i hx13_0g) <| Wz (.d (.ref (List.drop ((Int.toNat p0.at_) * 8) (flatD enc_GNode_ p0.l)))) (Ofa rfl) <| Wz (.y x13_0.Kind) (Lf1 rfl enc_GNode__len hx13_0g) ?_
 obtain ⟨r16_0, hr16_0, hm⟩ := bnd hm
 refine Wz (.i r16_0) (Ocf [] [] [] 0 (ok_pred_bound x13_0.Kind r16_0 hr16_0) (fun a w => Try.call56 a w) rfl trivial) <| Wm (.i p1) rfl <| Wz (.b (decide (r16_0 < p1))) (Obn rfl (fun _ => hb_lss (k := .i64))) <| Wdr <| Tk 262145 1 ⟨.loc 0 0::tp 17 (.b (decide (r16_0 < p1))::tp 6 []), [(.box [(.l enc_GNode_ p0.l), (.i p0.at_)])], 1⟩ ?_
 rcases tf_ (decide (r16_0 < p1)) with hc18_3 | hc18_3
 ·
  replace hm := cT hc18_3 hm
  refine AiT hc18_3 <| Sx <| Wm (.loc 0 0) rfl ?_
  obtain ⟨r20_1, hr20_1, hm⟩ := bnd hm
  refine Wy (.s r20_1.1) [(0, (.box [(.l enc_GNode_ r20_1.2.l), (.i r20_1.2.at_)]))] (Ocf [0] [] [] 0 (hrec_m_pred_printer_tree p0 r20_1 hr20_1) (fun a w => Try.call28 a w) rfl ⟨rfl, trivial⟩) ?_
  obtain ⟨t21_1, ht21_1, hm⟩ := bnd hm; obtain ⟨ht21_1e, ht21_1l⟩ := app_some ht21_1
  refine Wz (.s t21_1) (op_bin rfl (a1 := .string (toS ([40] : List UInt8))) (a2 := .string (toS r20_1.1)) (by kernel_rfl) (by kernel_rfl) (fun _ => hb_sadd ht21_1e ht21_1l)) ?_
  obtain ⟨t22_1, ht22_1, hm⟩ := bnd hm; obtain ⟨ht22_1e, ht22_1l⟩ := app_some ht22_1
  refine Wz (.s t22_1) (op_bin rfl (a1 := .string (toS t21_1)) (a2 := .string (toS ([41] : List UInt8))) (by kernel_rfl) (by kernel_rfl) (fun _ => hb_sadd ht22_1e ht22_1l)) <| Wm (.s t22_1) rfl <| Nn <| Rt <| Tr ?_
  obtain rfl := Option.some.inj hm
  exact ret_i [0]
 ·
  replace hm := cF hc18_3 hm
  refine AiF hc18_3 <| Sk <| Tk 1 1 ⟨.loc 0 0::tp 24 [], [(.box [(.l enc_GNode_ p0.l), (.i p0.at_)])], 1⟩ <| Sx <| Wm (.loc 0 0) rfl ?_
  obtain ⟨r24_2, hr24_2, hm⟩ := bnd hm
  refine Wy (.s r24_2.1) [(0, (.box [(.l enc_GNode_ r24_2.2.l), (.i r24_2.2.at_)]))] (Ocf [0] [] [] 0 (hrec_m_pred_printer_tree p0 r24_2 hr24_2) (fun a w => Try.call28 a w) rfl ⟨rfl, trivial⟩) <| Wm (.s r24_2.1) rfl <| Nn <| Rt ?_
  obtain rfl := Option.some.inj hm
  exact ret_i [0]

theorem ok_pred_printer_two (rec_m_pred_printer_tree : GTchecker → Option ((List UInt8) × GTchecker)) (hrec_m_pred_printer_tree : ∀ (p0 : GTchecker) (r : ((List UInt8) × GTchecker)), rec_m_pred_printer_tree p0 = some r → GCall Try.prog 28 [(.loc 0 0)] [(.box [(.l enc_GNode_ p0.l), (.i p0.at_)])] (.s r.1) [(.box [(.l enc_GNode_ r.2.l), (.i r.2.at_)])]) (p0 : GTchecker) (p1 : (List UInt8)) (p2 : Int) (p3 : Int) (r : ((List UInt8) × GTchecker)) (h : m_pred_printer_two rec_m_pred_printer_tree p0 p1 p2 p3 = some r) : GCall Try.prog 43 [(.loc 0 0), (.s p1), (.i p2), (.i p3)] [(.box [(.l enc_GNode_ p0.l), (.i p0.at_)])] (.s r.1) [(.box [(.l enc_GNode_ r.2.l), (.i r.2.at_)])] := by
 refine GCall.of_body (n := 22) (rs := [(.tmp 8)]) Try.func43 rfl rfl rfl <| Ato ⟨.loc 0 0::.s p1::.i p2::.i p3::tu 18 [], [(.box [(.l enc_GNode_ p0.l), (.i p0.at_)])], 1⟩ ?_
 have hm := h
 unfold m_pred_printer_two at hm
 refine Sx <| Wm (.s ([] : List UInt8)) rfl <| Nk 15 1 ⟨.loc 0 0::.s p1::.i p2::.i p3::tp 18 [], [(.box [(.l enc_GNode_ p0.l), (.i p0.at_)])], 1⟩ <| Sx <| Wm (.loc 0 0) rfl <| Wm (.i p2) rfl ?_
 obtain ⟨r12_0, hr12_0, hm⟩ := bnd hm
 refine Wy (.s r12_0.1) [(0, (.box [(.l enc_GNode_ r12_0.2.l), (.i r12_0.2.at_)]))] (Ocf [0] [] [] 0 (ok_pred_printer_within rec_m_pred_printer_tree hrec_m_pred_printer_tree p0 p2 r12_0 hr12_0) (fun a w => Try.call44 a w) rfl ⟨rfl, trivial⟩) <| Wm (.s r12_0.1) rfl <| Nk 523 1 ⟨.loc 0 0::.s p1::tp 1 (.i p3::tp 5 (.s r12_0.1::tp 12 [])), [(.box [(.l enc_GNode_ r12_0.2.l), (.i r12_0.2.at_)])], 1⟩ <| Sx <| Wm (.s r12_0.1) rfl ?_
 obtain ⟨t14_1, ht14_1, hm⟩ := bnd hm; obtain ⟨ht14_1e, ht14_1l⟩ := app_some ht14_1
 refine Wz (.s t14_1) (op_bin rfl (a1 := .string (toS r12_0.1)) (a2 := .string (toS ([32] : List UInt8))) (by kernel_rfl) (by kernel_rfl) (fun _ => hb_sadd ht14_1e ht14_1l)) <| Wm (.s p1) rfl ?_
 obtain ⟨t16_1, ht16_1, hm⟩ := bnd hm; obtain ⟨ht16_1e, ht16_1l⟩ := app_some ht16_1
 refine Wz (.s t16_1) (op_bin rfl (a1 := .string (toS t14_1)) (a2 := .string (toS p1)) (by kernel_rfl) (by kernel_rfl) (fun _ => hb_sadd ht16_1e ht16_1l)) ?_
 obtain ⟨t17_1, ht17_1, hm⟩ := bnd hm; obtain ⟨ht17_1e, ht17_1l⟩ := app_some ht17_1
 refine Wz (.s t17_1) (op_bin rfl (a1 := .string (toS t16_1)) (a2 := .string (toS ([32] : List UInt8))) (by kernel_rfl) (by kernel_rfl) (fun _ => hb_sadd ht17_1e ht17_1l)) <| Wm (.loc 0 0) rfl <| Wm (.i p3) rfl ?_
 obtain ⟨r20_1, hr20_1, hm⟩ := bnd hm
 refine Wy (.s r20_1.1) [(0, (.box [(.l enc_GNode_ r20_1.2.l), (.i r20_1.2.at_)]))] (Ocf [0] [] [] 0 (ok_pred_printer_within rec_m_pred_printer_tree hrec_m_pred_printer_tree r12_0.2 p3 r20_1 hr20_1) (fun a w => Try.call44 a w) rfl ⟨rfl, trivial⟩) ?_
 obtain ⟨t21_1, ht21_1, hm⟩ := bnd hm; obtain ⟨ht21_1e, ht21_1l⟩ := app_some ht21_1
 refine Wz (.s t21_1) (op_bin rfl (a1 := .string (toS t17_1)) (a2 := .string (toS r20_1.1)) (by kernel_rfl) (by kernel_rfl) (fun _ => hb_sadd ht21_1e ht21_1l)) <| Wm (.s t21_1) rfl <| Nn <| Rt ?_
 obtain rfl := Option.some.inj hm
 exact ret_i [0]

theorem ok_lex_whole (p0 : Int) (r : (List UInt8)) (h : m_lex_whole p0 = some r) : GCall Try.prog 57 [(.i p0)] [] (.s r) [] := by
 refine GCall.of_body (n := 32) (rs := [(.tmp 2)]) Try.func57 rfl rfl rfl <| Ato ⟨.i p0::tu 31 [], [], 0⟩ ?_
 have hm := h
 unfold m_lex_whole at hm
 refine Sx <| Wm (.s ([] : List UInt8)) rfl <| Nk 1 0 ⟨.i p0::tp 31 [], [], 0⟩ <| Sx <| Wy (.loc 0 0) [(0, (Ar 111 1 encU8 (List.replicate 21 0 : List UInt8)))] (OaA rfl) <| Nk 9 1 ⟨.i p0::tp 2 (.loc 0 0::tp 28 []), [(Ar 111 1 encU8 (List.replicate 21 0 : List UInt8))], 0⟩ <| Sx <| Wm (.i 21) rfl <| Nk 25 1 ⟨.i p0::tp 2 (.loc 0 0::.i 21::tp 27 []), [(Ar 111 1 encU8 (List.replicate 21 0 : List UInt8))], 0⟩ <| Sx <| Wm (.i p0) rfl <| Wm (.i p0) rfl <| Wz (.i (W6 (0 - p0))) (Ocs (by kernel_rfl) (op_un rfl (a1 := .int .i64 p0) (by kernel_rfl) (fun _ => hu_neg))) <| Wz (.i (max p0 (W6 (0 - p0)))) (op_bi2 rfl (a1 := .int .i64 p0) (a2 := .int .i64 (W6 (0 - p0))) (by kernel_rfl) (by kernel_rfl) hb_max) ?_
 refine Wz (.u (W7 (max p0 (W6 (0 - p0))))) (Oc2 (.int .i64 (max p0 (W6 (0 - p0)))) rfl (run_conv (ds := .int .i64) (k' := .u64) (by kernel_rfl) (by kernel_rfl))) <| Wm (.u (W7 (max p0 (W6 (0 - p0))))) rfl <| Nk 57 1 ⟨.i p0::tp 2 (.loc 0 0::.i 21::.u (W7 (max p0 (W6 (0 - p0))))::tp 26 []), [(Ar 111 1 encU8 (List.replicate 21 0 : List UInt8))], 0⟩ <| Sq <| Bk ?_
 refine AWP.loopI (α := Nat × (List UInt8) × Int × Int)
   (fun (fu_1, y3_d_1, y4_1, y5_1) => (⟨.i p0::tp 2 (.loc 0 0::.i y4_1::.u y5_1::tp 26 []), [(Ar 111 1 encU8 y3_d_1)], 0⟩ : St))
   (fun (fu_1, y3_d_1, y4_1, y5_1) => m_lex_whole_l1 p0 fu_1 y3_d_1 y4_1 y5_1 = some r)
   (fun (fu_1, y3_d_1, y4_1, y5_1) => fu_1) (1152921504606846976, (List.replicate 21 0 : List UInt8), 21, (W7 (max p0 (W6 (0 - p0)))))
   (Weak.toK 57 0 0 [0]) hm ?_
 rintro ⟨fu_1, y3_d_1, y4_1, y5_1⟩ n_1 hm ih_1
 try dsimp only at hm ih_1 ⊢
 cases fu_1 with
 | zero => exact absurd hm (by unfold m_lex_whole_l1; simp)
 | succ fu_1 =>
  unfold m_lex_whole_l1 at hm
  refine Bk <| Sx <| Wm (.i y4_1) rfl <| Wz (.i (W6 (y4_1 - 1))) (Obn rfl (fun _ => hb_sub (k := .i64))) <| Wm (.i (W6 (y4_1 - 1))) rfl <| Nk 57 1 ⟨.i p0::tp 2 (.loc 0 0::.i (W6 (y4_1 - 1))::.u y5_1::tp 26 []), [(Ar 111 1 encU8 y3_d_1)], 0⟩ <| Sx <| Wm (.i (W6 (y4_1 - 1))) rfl <| Wm (.u y5_1) rfl <| Wz (.u (Int.tmod y5_1 10)) (Ob2 (.int .u64 y5_1) (.int .u64 10) rfl (fun _ => hb_rem (by decide))) <| Wz (.y (toU8 (Int.tmod y5_1 10))) (Ocs (lit_int (u8w _)) (op_convert rfl (a1 := .int .u64 (Int.tmod y5_1 10)) (by kernel_rfl) (run_conv (ds := .int .u64) (k' := .u8) (by kernel_rfl) (by kernel_rfl)))) <| Wz (.y (toU8 (48 + (((toU8 (Int.tmod y5_1 10)).toNat : Nat) : Int)))) (Ocs (lit_int (u8w _)) (op_bin rfl (a1 := .int .u8 48) (a2 := .int .u8 (((toU8 (Int.tmod y5_1 10)).toNat : Nat) : Int)) (by kernel_rfl) (by kernel_rfl) (fun _ => hb_add))) ?_
  obtain ⟨hn18_2, hm⟩ := chk_some hm
  obtain ⟨x18_2, hx18_2, hm⟩ := bnd hm
  obtain ⟨hx18_2i, hx18_2g⟩ := geti_some hx18_2
  refine Wz (.loc 0 ((Int.toNat (IntKind.i64.wrap (y4_1 - 1))) * 1)) (OiR rfl (n := 21) hx18_2i (by rw [← hn18_2]; exact getlt hx18_2g)) <| Wy (.tup []) [(0, (Ar 111 1 encU8 (List.set y3_d_1 (Int.toNat (W6 (y4_1 - 1))) (toU8 (48 + (((toU8 (Int.tmod y5_1 10)).toNat : Nat) : Int))))))] (Osr 0 rfl encU8_len hx18_2g (toU8 (48 + (((toU8 (Int.tmod y5_1 10)).toNat : Nat) : Int)))) <| Nk 57 1 ⟨.i p0::tp 2 (.loc 0 0::.i (W6 (y4_1 - 1))::.u y5_1::tp 26 []), [(Ar 111 1 encU8 (List.set y3_d_1 (Int.toNat (W6 (y4_1 - 1))) (toU8 (48 + (((toU8 (Int.tmod y5_1 10)).toNat : Nat) : Int)))))], 0⟩ <| Sx <| Wm (.u y5_1) rfl <| Wz (.u (W7 (Int.tdiv y5_1 10))) (Ob2 (.int .u64 y5_1) (.int .u64 10) rfl (fun _ => hb_quo (by decide))) <| Wm (.u (W7 (Int.tdiv y5_1 10))) rfl <| Nk 57 1 ⟨.i p0::tp 2 (.loc 0 0::.i (W6 (y4_1 - 1))::.u (W7 (Int.tdiv y5_1 10))::tp 26 []), [(Ar 111 1 encU8 (List.set y3_d_1 (Int.toNat (W6 (y4_1 - 1))) (toU8 (48 + (((toU8 (Int.tmod y5_1 10)).toNat : Nat) : Int)))))], 0⟩ <| Sx <| Wm (.u (W7 (Int.tdiv y5_1 10))) rfl <| Wz (.b (decide ((W7 (Int.tdiv y5_1 10)) = 0))) (Obn rfl (fun _ => hb_eql (k := .u64))) <| Nk 4194361 1 ⟨.i p0::tp 2 (.loc 0 0::.i (W6 (y4_1 - 1))::.u (W7 (Int.tdiv y5_1 10))::tp 16 (.b (decide ((W7 (Int.tdiv y5_1 10)) = 0))::tp 9 [])), [(Ar 111 1 encU8 (List.set y3_d_1 (Int.toNat (W6 (y4_1 - 1))) (toU8 (48 + (((toU8 (Int.tmod y5_1 10)).toNat : Nat) : Int)))))], 0⟩ ?_
  rcases tf_ (decide ((W7 (Int.tdiv y5_1 10)) = 0)) with hc22_6 | hc22_6
  ·
   replace hm := cT hc22_6 hm
   refine AiT hc22_6 <| AWP.exit <| InBlock.other (by rfl) <| RoundK.exit <| InBlock.same <| Tk 25 1 ⟨.i p0::tp 2 (.loc 0 0::.i (W6 (y4_1 - 1))::tp 27 []), [(Ar 111 1 encU8 (List.set y3_d_1 (Int.toNat (W6 (y4_1 - 1))) (toU8 (48 + (((toU8 (Int.tmod y5_1 10)).toNat : Nat) : Int)))))], 0⟩ ?_
   refine AWP.cutJ (α := (List UInt8) × Int) (fun (y3_d_4, y4_4) => (⟨tp 3 (.loc 0 0::.i y4_4::tp 27 []), [(Ar 111 1 encU8 y3_d_4)], 0⟩ : St)) (fun (y3_d_4, y4_4) => m_lex_whole_j4  y3_d_4 y4_4 = some r) ?_ (fun J4 => ?_)
   ·
    rintro ⟨y3_d_4, y4_4⟩ hm
    try dsimp only at hm ⊢
    unfold m_lex_whole_j4 at hm
    refine Sx <| Wm (.i y4_4) rfl ?_
    obtain ⟨hn30_5, hm⟩ := chk_some hm
    refine Wz (.sub 0 ((Int.toNat y4_4) * 1) (List.length y3_d_4 - (Int.toNat y4_4))) (Osa rfl (n := 21) (e := 111) (xs := flatD encU8 y3_d_4) hn30_5.1 (toNat_eq hn30_5.2.1) (toNat_lt' hn30_5.2.1 hn30_5.2.2)) <| Wz (.s (List.drop (Int.toNat y4_4) y3_d_4)) (Ocs (by kernel_rfl) (op_str rfl (e := 5) (by kernel_rfl) (by kernel_rfl) (by kernel_rfl) (y := (.sub 0 ((Int.toNat y4_4) * 1) (List.length y3_d_4 - (Int.toNat y4_4)))) (by kernel_rfl) (ds := flatD encU8 y3_d_4) (off := (Int.toNat y4_4) * 1) (n := List.length y3_d_4 - (Int.toNat y4_4)) (by kernel_rfl) (l := List.drop (Int.toNat y4_4) y3_d_4) flatU8_drop List.length_drop)) <| Wm (.s (List.drop (Int.toNat y4_4) y3_d_4)) rfl <| Nn <| Rt ?_
    obtain rfl := Option.some.inj hm
    exact ret_i []
   refine Sq <| Sx <| Wm (.i p0) rfl <| Wz (.b (decide (p0 < 0))) (Obn rfl (fun _ => hb_lss (k := .i64))) <| Nk 16777240 1 ⟨tp 3 (.loc 0 0::.i (W6 (y4_1 - 1))::tp 19 (.b (decide (p0 < 0))::tp 7 [])), [(Ar 111 1 encU8 (List.set y3_d_1 (Int.toNat (W6 (y4_1 - 1))) (toU8 (48 + (((toU8 (Int.tmod y5_1 10)).toNat : Nat) : Int)))))], 0⟩ ?_
   rcases tf_ (decide (p0 < 0)) with hc24_7 | hc24_7
   ·
    replace hm := cT hc24_7 hm
    refine AiT hc24_7 <| Sx <| Wm (.i (W6 (y4_1 - 1))) rfl <| Wz (.i (W6 ((W6 (y4_1 - 1)) - 1))) (Obn rfl (fun _ => hb_sub (k := .i64))) <| Wm (.i (W6 ((W6 (y4_1 - 1)) - 1))) rfl <| Nk 24 1 ⟨tp 3 (.loc 0 0::.i (W6 ((W6 (y4_1 - 1)) - 1))::tp 27 []), [(Ar 111 1 encU8 (List.set y3_d_1 (Int.toNat (W6 (y4_1 - 1))) (toU8 (48 + (((toU8 (Int.tmod y5_1 10)).toNat : Nat) : Int)))))], 0⟩ <| Tx <| Wm (.i (W6 ((W6 (y4_1 - 1)) - 1))) rfl ?_
    obtain ⟨hn28_3, hm⟩ := chk_some hm
    obtain ⟨x28_3, hx28_3, hm⟩ := bnd hm
    obtain ⟨hx28_3i, hx28_3g⟩ := geti_some hx28_3
    refine Wz (.loc 0 ((Int.toNat (IntKind.i64.wrap ((IntKind.i64.wrap (y4_1 - 1)) - 1))) * 1)) (OiR rfl (n := 21) hx28_3i (by rw [← hn28_3]; exact getlt hx28_3g)) <| Wy (.tup []) [(0, (Ar 111 1 encU8 (List.set (List.set y3_d_1 (Int.toNat (W6 (y4_1 - 1))) (toU8 (48 + (((toU8 (Int.tmod y5_1 10)).toNat : Nat) : Int)))) (Int.toNat (W6 ((W6 (y4_1 - 1)) - 1))) 45)))] (Osr 0 rfl encU8_len hx28_3g 45) <| Nn ?_
    exact AWP.weak (Weak.toK 24 0 0 [0]) (J4 ((List.set (List.set y3_d_1 (Int.toNat (W6 (y4_1 - 1))) (toU8 (48 + (((toU8 (Int.tmod y5_1 10)).toNat : Nat) : Int)))) (Int.toNat (W6 ((W6 (y4_1 - 1)) - 1))) 45), (W6 ((W6 (y4_1 - 1)) - 1))) hm)
   ·
    replace hm := cF hc24_7 hm
    refine AiF hc24_7 <| Sk <| Tn ?_
    exact AWP.weak (Weak.toK 24 0 0 [0]) (J4 ((List.set y3_d_1 (Int.toNat (W6 (y4_1 - 1))) (toU8 (48 + (((toU8 (Int.tmod y5_1 10)).toNat : Nat) : Int)))), (W6 (y4_1 - 1))) hm)
  ·
   replace hm := cF hc22_6 hm
   refine AiF hc22_6 <| Sk <| Ino <| RoundK.normal ?_
   exact Rounds.weak (Weak.toK 57 0 0 [0]) (ih_1 (fu_1, (List.set y3_d_1 (Int.toNat (W6 (y4_1 - 1))) (toU8 (48 + (((toU8 (Int.tmod y5_1 10)).toNat : Nat) : Int)))), (W6 (y4_1 - 1)), (W7 (Int.tdiv y5_1 10))) hm (Nat.lt_succ_self _))

theorem ok_lex_bits (p0 : Int) (r : (List UInt8)) (h : m_lex_bits p0 = some r) : GCall Try.prog 58 [(.u p0)] [] (.s r) [] := by
 refine GCall.of_body (n := 19) (rs := [(.tmp 2)]) Try.func58 rfl rfl rfl <| Ato ⟨.u p0::tu 18 [], [], 0⟩ ?_
 have hm := h
 unfold m_lex_bits at hm
 refine Sx <| Wm (.s ([] : List UInt8)) rfl <| Nk 1 0 ⟨.u p0::tp 18 [], [], 0⟩ <| Sx <| Wy (.loc 0 0) [(0, (Ar 113 1 encU8 (List.replicate 17 0 : List UInt8)))] (OaA rfl) <| Nk 9 1 ⟨.u p0::tp 2 (.loc 0 0::tp 15 []), [(Ar 113 1 encU8 (List.replicate 17 0 : List UInt8))], 0⟩ <| Sx ?_
 obtain ⟨hn5_0, hm⟩ := chk_some hm
 obtain ⟨x5_0, hx5_0, hm⟩ := bnd hm
 obtain ⟨hx5_0i, hx5_0g⟩ := geti_some hx5_0
 refine Wz (.loc 0 ((Int.toNat 0) * 1)) (OiR rfl (n := 17) hx5_0i (by rw [← hn5_0]; exact getlt hx5_0g)) <| Wy (.tup []) [(0, (Ar 113 1 encU8 (List.set (List.replicate 17 0 : List UInt8) (Int.toNat 0) 35)))] (Osr 0 rfl encU8_len hx5_0g 35) <| Nk 9 1 ⟨.u p0::tp 2 (.loc 0 0::tp 15 []), [(Ar 113 1 encU8 (List.set (List.replicate 17 0 : List UInt8) (Int.toNat 0) 35))], 0⟩ <| Sq <| Sx <| Wm (.i 16) rfl <| Nk 25 1 ⟨.u p0::tp 2 (.loc 0 0::.i 16::tp 14 []), [(Ar 113 1 encU8 (List.set (List.replicate 17 0 : List UInt8) (Int.toNat 0) 35))], 0⟩ <| Bk ?_
 refine AWP.loopI (α := Nat × Int × (List UInt8) × Int)
   (fun (fu_1, y0_1, y3_d_1, y4_1) => (⟨.u y0_1::tp 2 (.loc 0 0::.i y4_1::tp 14 []), [(Ar 113 1 encU8 y3_d_1)], 0⟩ : St))
   (fun (fu_1, y0_1, y3_d_1, y4_1) => m_lex_bits_l1  fu_1 y0_1 y3_d_1 y4_1 = some r)
   (fun (fu_1, y0_1, y3_d_1, y4_1) => fu_1) (1152921504606846976, p0, (List.set (List.replicate 17 0 : List UInt8) (Int.toNat 0) 35), 16)
   (Weak.toK 25 0 0 [0]) hm ?_
 rintro ⟨fu_1, y0_1, y3_d_1, y4_1⟩ n_1 hm ih_1
 try dsimp only at hm ih_1 ⊢
 cases fu_1 with
 | zero => exact absurd hm (by unfold m_lex_bits_l1; simp)
 | succ fu_1 =>
  unfold m_lex_bits_l1 at hm
  refine Sq <| Sx <| Wm (.i y4_1) rfl <| Wz (.b (decide ((0 : Int) < y4_1))) (Obn rfl (fun _ => hb_gtr (k := .i64))) <| Nk 153 1 ⟨.u y0_1::tp 2 (.loc 0 0::.i y4_1::tp 2 (.b (decide ((0 : Int) < y4_1))::tp 11 [])), [(Ar 113 1 encU8 y3_d_1)], 0⟩ ?_
  rcases tf_ (decide ((0 : Int) < y4_1)) with hc7_4 | hc7_4
  ·
   replace hm := cT hc7_4 hm
   refine AiT hc7_4 <| Sk <| Tk 25 1 ⟨.u y0_1::tp 2 (.loc 0 0::.i y4_1::tp 14 []), [(Ar 113 1 encU8 y3_d_1)], 0⟩ <| Sq <| Bk <| Sx <| Wm (.i y4_1) rfl <| Wm (.u y0_1) rfl <| Wz (.u (W7 (((BitVec.ofInt 64 y0_1 &&& BitVec.ofInt 64 15).toNat : Int)))) (Ob2 (.int .u64 y0_1) (.int .u64 15) rfl (fun _ => hb_and)) ?_
   obtain ⟨x13_2, hx13_2, hm⟩ := bnd hm
   obtain ⟨hx13_2i, hx13_2g⟩ := geti_some hx13_2
   refine Wz (.y x13_2) (Ocs (by kernel_rfl) (op_index_str rfl (by kernel_rfl) (s := toS ([48, 49, 50, 51, 52, 53, 54, 55, 56, 57, 97, 98, 99, 100, 101, 102] : List UInt8)) (by kernel_rfl) (k := .u64) (iv := (W7 (((BitVec.ofInt 64 y0_1 &&& BitVec.ofInt 64 15).toNat : Int)))) (by kernel_rfl) (i := (Int.toNat (W7 (((BitVec.ofInt 64 y0_1 &&& BitVec.ofInt 64 15).toNat : Int))))) (hx13_2i) (b := x13_2) (hx13_2g))) ?_
   obtain ⟨hn14_2, hm⟩ := chk_some hm
   obtain ⟨x14_2, hx14_2, hm⟩ := bnd hm
   obtain ⟨hx14_2i, hx14_2g⟩ := geti_some hx14_2
   refine Wz (.loc 0 ((Int.toNat y4_1) * 1)) (OiR rfl (n := 17) hx14_2i (by rw [← hn14_2]; exact getlt hx14_2g)) <| Wy (.tup []) [(0, (Ar 113 1 encU8 (List.set y3_d_1 (Int.toNat y4_1) x13_2)))] (Osr 0 rfl encU8_len hx14_2g x13_2) <| Nk 25 1 ⟨.u y0_1::tp 2 (.loc 0 0::.i y4_1::tp 14 []), [(Ar 113 1 encU8 (List.set y3_d_1 (Int.toNat y4_1) x13_2))], 0⟩ <| Tx <| Wm (.u y0_1) rfl <| Wz (.u (Int.fdiv y0_1 (2 ^ 4))) (Ob2 (.int .u64 y0_1) (.int .u64 4) rfl (fun _ => hb_shr (n := 4) (by decide) rfl)) <| Wm (.u (Int.fdiv y0_1 (2 ^ 4))) rfl <| Wn0 <| Ino <| Tk 25 1 ⟨.u (Int.fdiv y0_1 (2 ^ 4))::tp 2 (.loc 0 0::.i y4_1::tp 14 []), [(Ar 113 1 encU8 (List.set y3_d_1 (Int.toNat y4_1) x13_2))], 0⟩ <| Tx <| Wm (.i y4_1) rfl <| Wz (.i (W6 (y4_1 - 1))) (Obn rfl (fun _ => hb_sub (k := .i64))) <| Wm (.i (W6 (y4_1 - 1))) rfl ?_
   refine Wn0 <| RoundK.normal ?_
   exact Rounds.weak (Weak.toK 25 0 0 [0]) (ih_1 (fu_1, (Int.fdiv y0_1 (2 ^ 4)), (List.set y3_d_1 (Int.toNat y4_1) x13_2), (W6 (y4_1 - 1))) hm (Nat.lt_succ_self _))
  ·
   replace hm := cF hc7_4 hm
   refine AiF hc7_4 <| AWP.exit <| Then.exit <| RoundK.exit <| InBlock.same <| Tk 8 1 ⟨tp 3 (.loc 0 0::tp 15 []), [(Ar 113 1 encU8 y3_d_1)], 0⟩ <| Sx ?_
   obtain ⟨hn17_3, hm⟩ := chk_some hm
   refine Wz (.sub 0 (0 * 1) (List.length y3_d_1 - 0)) (Osa0 rfl (n := 17) (e := 113) (xs := flatD encU8 y3_d_1) hn17_3.1) <| Wz (.s (List.drop 0 y3_d_1)) (Ocs (by kernel_rfl) (op_str rfl (e := 5) (by kernel_rfl) (by kernel_rfl) (by kernel_rfl) (y := (.sub 0 (0 * 1) (List.length y3_d_1 - 0))) (by kernel_rfl) (ds := flatD encU8 y3_d_1) (off := 0 * 1) (n := List.length y3_d_1 - 0) (by kernel_rfl) (l := List.drop 0 y3_d_1) flatU8_drop List.length_drop)) <| Wm (.s (List.drop 0 y3_d_1)) rfl <| Nn <| Rt ?_
   obtain rfl := Option.some.inj hm
   exact ret_i []

theorem ok_lex_text (p0 : (List UInt8)) (r : (List UInt8)) (h : m_lex_text p0 = some r) : GCall Try.prog 59 [(.s p0)] [] (.s r) [] := by
  unfold m_lex_text at h
  obtain ⟨hl, h⟩ := chk_some h
  cases h
  exact call_text p0 hl

theorem ok_lex_Literal (p0 : GValue) (r : (List UInt8)) (h : m_lex_Literal p0 = some r) : GCall Try.prog 46 [(.agg [(.y p0.Kind), (.i p0.N), (.u p0.Bits), (.s p0.Text)])] [] (.s r) [] := by
 refine GCall.of_body (n := 26) (rs := [(.tmp 2)]) Try.func46 rfl rfl rfl <| Ato ⟨.agg [(.y p0.Kind), (.i p0.N), (.u p0.Bits), (.s p0.Text)]::tu 25 [], [], 0⟩ ?_
 have hm := h
 unfold m_lex_Literal at hm
 refine Sx <| Wy (.loc 0 0) [(0, (.box [(.y p0.Kind), (.i p0.N), (.u p0.Bits), (.s p0.Text)]))] (Obx rfl) <| Wm (.s ([] : List UInt8)) rfl <| Nk 2 1 ⟨tp 1 (.loc 0 0::tp 24 []), [(.box [(.y p0.Kind), (.i p0.N), (.u p0.Bits), (.s p0.Text)])], 0⟩ <| Sq <| Sx <| Wz (.agg [(.y p0.Kind), (.i p0.N), (.u p0.Bits), (.s p0.Text)]) (Old rfl) ?_
 obtain ⟨r4_0, hr4_0, hm⟩ := bnd hm
 refine Wz (.i r4_0) (Ocf [] [] [] 0 (ok_value_Check p0 r4_0 hr4_0) (fun a w => Try.call53 a w) rfl trivial) <| Wz (.b (decide (r4_0 ≠ 0))) (Obn rfl (fun _ => hb_neq (k := .i64))) <| Nk 34 1 ⟨tp 1 (.loc 0 0::tp 3 (.b (decide (r4_0 ≠ 0))::tp 20 [])), [(.box [(.y p0.Kind), (.i p0.N), (.u p0.Bits), (.s p0.Text)])], 0⟩ ?_
 rcases tf_ (decide (r4_0 ≠ 0)) with hc5_4 | hc5_4
 ·
  replace hm := cT hc5_4 hm
  refine AiT hc5_4 <| Sx <| Wm (.s ([] : List UInt8)) rfl <| Nn <| Rt <| Tr ?_
  obtain rfl := Option.some.inj hm
  exact ret_i []
 ·
  replace hm := cF hc5_4 hm
  refine AiF hc5_4 <| Sk <| Tk 2 1 ⟨tp 1 (.loc 0 0::tp 24 []), [(.box [(.y p0.Kind), (.i p0.N), (.u p0.Bits), (.s p0.Text)])], 0⟩ <| Sq <| Sx <| Wz (.loc 0 0) (Ofa rfl) <| Wz (.y p0.Kind) (Old rfl) <| Nk 130 1 ⟨tp 1 (.loc 0 0::tp 5 (.y p0.Kind::tp 18 [])), [(.box [(.y p0.Kind), (.i p0.N), (.u p0.Bits), (.s p0.Text)])], 0⟩ <| Bk <| Sx <| Wz (.b (decide (((p0.Kind.toNat : Nat) : Int) = 1))) (Ob2 (.int .u8 ((p0.Kind.toNat : Nat) : Int)) (.int .u8 1) rfl (fun _ => hb_eql)) <| Wm (.b (decide (((p0.Kind.toNat : Nat) : Int) = 1))) rfl <| Nk 386 1 ⟨tp 1 (.loc 0 0::tp 5 (.y p0.Kind::.b (decide (((p0.Kind.toNat : Nat) : Int) = 1))::tp 17 [])), [(.box [(.y p0.Kind), (.i p0.N), (.u p0.Bits), (.s p0.Text)])], 0⟩ ?_
  rcases tf_ (decide (((p0.Kind.toNat : Nat) : Int) = 1)) with hc8_5 | hc8_5
  ·
   replace hm := cT hc8_5 hm
   refine AiT hc8_5 <| Sx <| Wz (.loc 0 1) (Ofa rfl) <| Wz (.i p0.N) (Old rfl) ?_
   obtain ⟨r12_1, hr12_1, hm⟩ := bnd hm
   refine Wz (.s r12_1) (Ocf [] [] [] 0 (ok_lex_whole p0.N r12_1 hr12_1) (fun a w => Try.call57 a w) rfl trivial) <| Wm (.s r12_1) rfl <| Nn <| Rt <| Ir <| Tr ?_
   obtain rfl := Option.some.inj hm
   exact ret_i []
  ·
   replace hm := cF hc8_5 hm
   refine AiF hc8_5 <| Sx <| Wz (.b (decide (((p0.Kind.toNat : Nat) : Int) = 2))) (Ob2 (.int .u8 ((p0.Kind.toNat : Nat) : Int)) (.int .u8 2) rfl (fun _ => hb_eql)) <| Wm (.b (decide (((p0.Kind.toNat : Nat) : Int) = 2))) rfl <| Nk 8322 1 ⟨tp 1 (.loc 0 0::tp 5 (.y p0.Kind::tp 5 (.b (decide (((p0.Kind.toNat : Nat) : Int) = 2))::tp 12 []))), [(.box [(.y p0.Kind), (.i p0.N), (.u p0.Bits), (.s p0.Text)])], 0⟩ ?_
   rcases tf_ (decide (((p0.Kind.toNat : Nat) : Int) = 2)) with hc13_6 | hc13_6
   ·
    replace hm := cT hc13_6 hm
    refine AiT hc13_6 <| Sq <| Sx <| Wz (.loc 0 1) (Ofa rfl) <| Wz (.i p0.N) (Old rfl) <| Wz (.b (decide (p0.N = 0))) (Obn rfl (fun _ => hb_eql (k := .i64))) <| Nk 131072 0 ⟨tp 17 (.b (decide (p0.N = 0))::tp 8 []), [.gone], 0⟩ ?_
    rcases tf_ (decide (p0.N = 0)) with hc17_7 | hc17_7
    ·
     replace hm := cT hc17_7 hm
     refine AiT hc17_7 <| Sx <| Wm (.s ([102, 97, 108, 115, 101] : List UInt8)) rfl <| Nn <| Rt <| Tr <| Ir <| Tr ?_
     obtain rfl := Option.some.inj hm
     exact ret_i []
    ·
     replace hm := cF hc17_7 hm
     refine AiF hc17_7 <| Sk <| Tk 0 0 ⟨tp 26 [], [.gone], 0⟩ <| Sx <| Wm (.s ([116, 114, 117, 101] : List UInt8)) rfl <| Nn <| Rt <| Ir <| Tr ?_
     obtain rfl := Option.some.inj hm
     exact ret_i []
   ·
    replace hm := cF hc13_6 hm
    refine AiF hc13_6 <| Sx <| Wz (.b (decide (((p0.Kind.toNat : Nat) : Int) = 3))) (Ob2 (.int .u8 ((p0.Kind.toNat : Nat) : Int)) (.int .u8 3) rfl (fun _ => hb_eql)) <| Wm (.b (decide (((p0.Kind.toNat : Nat) : Int) = 3))) rfl <| Nk 262146 1 ⟨tp 1 (.loc 0 0::tp 16 (.b (decide (((p0.Kind.toNat : Nat) : Int) = 3))::tp 7 [])), [(.box [(.y p0.Kind), (.i p0.N), (.u p0.Bits), (.s p0.Text)])], 0⟩ ?_
    rcases tf_ (decide (((p0.Kind.toNat : Nat) : Int) = 3)) with hc18_8 | hc18_8
    ·
     replace hm := cT hc18_8 hm
     refine AiT hc18_8 <| Sx <| Wz (.loc 0 2) (Ofa rfl) <| Wz (.u p0.Bits) (Old rfl) ?_
     obtain ⟨r22_2, hr22_2, hm⟩ := bnd hm
     refine Wz (.s r22_2) (Ocf [] [] [] 0 (ok_lex_bits p0.Bits r22_2 hr22_2) (fun a w => Try.call58 a w) rfl trivial) <| Wm (.s r22_2) rfl <| Nn <| Rt <| Ir <| Tr ?_
     obtain rfl := Option.some.inj hm
     exact ret_i []
    ·
     replace hm := cF hc18_8 hm
     refine AiF hc18_8 <| Sk <| Ino <| Tk 2 1 ⟨tp 1 (.loc 0 0::tp 24 []), [(.box [(.y p0.Kind), (.i p0.N), (.u p0.Bits), (.s p0.Text)])], 0⟩ <| Sx <| Wz (.loc 0 3) (Ofa rfl) <| Wz (.s p0.Text) (Old rfl) ?_
     obtain ⟨r25_3, hr25_3, hm⟩ := bnd hm
     refine Wz (.s r25_3) (Ocf [] [] [] 0 (ok_lex_text p0.Text r25_3 hr25_3) (fun a w => Try.call59 a w) rfl trivial) <| Wm (.s r25_3) rfl <| Nn <| Rt ?_
     obtain rfl := Option.some.inj hm
     exact ret_i []

theorem ok_pred_printer_tree : ∀ (fuR : Nat) (p0 : GTchecker) (r : ((List UInt8) × GTchecker)) (h : m_pred_printer_tree fuR p0 = some r), GCall Try.prog 28 [(.loc 0 0)] [(.box [(.l enc_GNode_ p0.l), (.i p0.at_)])] (.s r.1) [(.box [(.l enc_GNode_ r.2.l), (.i r.2.at_)])] := by
 intro fuR; induction fuR with
 | zero => intro p0 r h; exact absurd h (by unfold m_pred_printer_tree; simp)
 | succ fuR ih =>
 intro p0 r h
 refine GCall.of_body (n := 66) (rs := [(.tmp 2)]) Try.func28 rfl rfl rfl <| Ato ⟨.loc 0 0::tu 65 [], [(.box [(.l enc_GNode_ p0.l), (.i p0.at_)])], 1⟩ ?_
 have hm := h
 unfold m_pred_printer_tree at hm
 refine Sx <| Wm (.s ([] : List UInt8)) rfl <| Nk 1 1 ⟨.loc 0 0::tp 65 [], [(.box [(.l enc_GNode_ p0.l), (.i p0.at_)])], 1⟩ <| Sq <| Adr <| Wm (.loc 0 0) rfl <| Wz (.loc 0 0) (op_nilCheckLoc rfl (id := 0) (off := 0) (xs := [(.l enc_GNode_ p0.l), (.i p0.at_)]) (by kernel_rfl) (by kernel_rfl)) <| Wz (.loc 0 0) (Ofa rfl) <| Wz (.l enc_GNode_ p0.l) (Old rfl) <| Wm (.loc 0 0) rfl <| Wz (.loc 0 0) (op_nilCheckLoc rfl (id := 0) (off := 0) (xs := [(.l enc_GNode_ p0.l), (.i p0.at_)]) (by kernel_rfl) (by kernel_rfl)) <| Wz (.loc 0 1) (Ofa rfl) <| Wz (.i p0.at_) (Old rfl) ?_
 obtain ⟨x12_0, hx12_0, hm⟩ := bnd hm
 obtain ⟨hx12_0i, hx12_0g⟩ := geti_some hx12_0
 refine Wz (.d (.ref (List.drop ((Int.toNat p0.at_) * 8) (flatD enc_GNode_ p0.l)))) (Oia rfl enc_GNode__len hx12_0i hx12_0g) <| Wz (.agg [(.y x12_0.Kind), (.y x12_0.Op), (.s x12_0.Var), (.s x12_0.Name), (.y x12_0.Val.Kind), (.i x12_0.Val.N), (.u x12_0.Val.Bits), (.s x12_0.Val.Text)]) (Lf rfl enc_GNode__len hx12_0g) <| Wy (.loc 1 0) [(1, (.box [(.y 0), (.y 0), (.s ([] : List UInt8)), (.s ([] : List UInt8)), (.y 0), (.i 0), (.u 0), (.s ([] : List UInt8))]))] (Oal rfl) <| Wy (.tup []) [(1, (.box [(.y x12_0.Kind), (.y x12_0.Op), (.s x12_0.Var), (.s x12_0.Name), (.y x12_0.Val.Kind), (.i x12_0.Val.N), (.u x12_0.Val.Bits), (.s x12_0.Val.Text)]))] (Ost rfl) <| Wdr <| Tk 9 3 ⟨.loc 0 0::tp 2 (.loc 1 0::tp 62 []), [(.box [(.l enc_GNode_ p0.l), (.i p0.at_)]), (.box [(.y x12_0.Kind), (.y x12_0.Op), (.s x12_0.Var), (.s x12_0.Name), (.y x12_0.Val.Kind), (.i x12_0.Val.N), (.u x12_0.Val.Bits), (.s x12_0.Val.Text)])], 1⟩ <| Sx <| Wm (.loc 0 0) rfl <| Wz (.loc 0 0) (op_nilCheckLoc rfl (id := 0) (off := 0) (xs := [(.l enc_GNode_ p0.l), (.i p0.at_)]) (by kernel_rfl) (by kernel_rfl)) <| Wz (.loc 0 1) (Ofa rfl) <| Wz (.i p0.at_) (Old rfl) <| Wz (.i (W6 (p0.at_ + 1))) (Obn rfl (fun _ => hb_add (k := .i64))) <| Wz (.loc 0 0) (op_nilCheckLoc rfl (id := 0) (off := 0) (xs := [(.l enc_GNode_ p0.l), (.i p0.at_)]) (by kernel_rfl) (by kernel_rfl)) <| Wz (.loc 0 1) (Ofa rfl) ?_
 refine Wy (.tup []) [(0, (.box [(.l enc_GNode_ p0.l), (.i (W6 (p0.at_ + 1)))]))] (Ost rfl) <| Nk 9 3 ⟨.loc 0 0::tp 2 (.loc 1 0::tp 62 []), [(.box [(.l enc_GNode_ p0.l), (.i (W6 (p0.at_ + 1)))]), (.box [(.y x12_0.Kind), (.y x12_0.Op), (.s x12_0.Var), (.s x12_0.Name), (.y x12_0.Val.Kind), (.i x12_0.Val.N), (.u x12_0.Val.Bits), (.s x12_0.Val.Text)])], 1⟩ <| Sq <| Sx <| Wz (.loc 1 0) (Ofa rfl) <| Wz (.y x12_0.Kind) (Old rfl) <| Nk 4194313 3 ⟨.loc 0 0::tp 2 (.loc 1 0::tp 18 (.y x12_0.Kind::tp 43 [])), [(.box [(.l enc_GNode_ p0.l), (.i (W6 (p0.at_ + 1)))]), (.box [(.y x12_0.Kind), (.y x12_0.Op), (.s x12_0.Var), (.s x12_0.Name), (.y x12_0.Val.Kind), (.i x12_0.Val.N), (.u x12_0.Val.Bits), (.s x12_0.Val.Text)])], 1⟩ <| Bk <| Sx <| Wz (.b (decide (((x12_0.Kind.toNat : Nat) : Int) = 2))) (Ob2 (.int .u8 ((x12_0.Kind.toNat : Nat) : Int)) (.int .u8 2) rfl (fun _ => hb_eql)) <| Wm (.b (decide (((x12_0.Kind.toNat : Nat) : Int) = 2))) rfl <| Nk 12582921 3 ⟨.loc 0 0::tp 2 (.loc 1 0::tp 18 (.y x12_0.Kind::.b (decide (((x12_0.Kind.toNat : Nat) : Int) = 2))::tp 42 [])), [(.box [(.l enc_GNode_ p0.l), (.i (W6 (p0.at_ + 1)))]), (.box [(.y x12_0.Kind), (.y x12_0.Op), (.s x12_0.Var), (.s x12_0.Name), (.y x12_0.Val.Kind), (.i x12_0.Val.N), (.u x12_0.Val.Bits), (.s x12_0.Val.Text)])], 1⟩ ?_
 rcases tf_ (decide (((x12_0.Kind.toNat : Nat) : Int) = 2)) with hc23_9 | hc23_9
 ·
  replace hm := cT hc23_9 hm
  refine AiT hc23_9 <| Sx <| Wm (.loc 0 0) rfl ?_
  obtain ⟨r26_1, hr26_1, hm⟩ := bnd hm
  refine Wy (.s r26_1.1) [(0, (.box [(.l enc_GNode_ r26_1.2.l), (.i r26_1.2.at_)]))] (Ocf [0] [] [] 0 (ok_pred_printer_two (fun p0 => m_pred_printer_tree fuR p0) (fun p0 r h => ih p0 r h) (GTchecker.mk p0.l (W6 (p0.at_ + 1))) ([111, 114] : List UInt8) 1 2 r26_1 hr26_1) (fun a w => Try.call43 a w) rfl ⟨rfl, trivial⟩) <| Wm (.s r26_1.1) rfl <| Nn <| Rt <| Ir <| Tr ?_
  obtain rfl := Option.some.inj hm
  exact ret_i [0]
 ·
  replace hm := cF hc23_9 hm
  refine AiF hc23_9 <| Sx <| Wz (.b (decide (((x12_0.Kind.toNat : Nat) : Int) = 1))) (Ob2 (.int .u8 ((x12_0.Kind.toNat : Nat) : Int)) (.int .u8 1) rfl (fun _ => hb_eql)) <| Wm (.b (decide (((x12_0.Kind.toNat : Nat) : Int) = 1))) rfl <| Nk 138412041 3 ⟨.loc 0 0::tp 2 (.loc 1 0::tp 18 (.y x12_0.Kind::tp 4 (.b (decide (((x12_0.Kind.toNat : Nat) : Int) = 1))::tp 38 []))), [(.box [(.l enc_GNode_ p0.l), (.i (W6 (p0.at_ + 1)))]), (.box [(.y x12_0.Kind), (.y x12_0.Op), (.s x12_0.Var), (.s x12_0.Name), (.y x12_0.Val.Kind), (.i x12_0.Val.N), (.u x12_0.Val.Bits), (.s x12_0.Val.Text)])], 1⟩ ?_
  rcases tf_ (decide (((x12_0.Kind.toNat : Nat) : Int) = 1)) with hc27_10 | hc27_10
  ·
   replace hm := cT hc27_10 hm
   refine AiT hc27_10 <| Sx <| Wm (.loc 0 0) rfl ?_
   obtain ⟨r30_2, hr30_2, hm⟩ := bnd hm
   refine Wy (.s r30_2.1) [(0, (.box [(.l enc_GNode_ r30_2.2.l), (.i r30_2.2.at_)]))] (Ocf [0] [] [] 0 (ok_pred_printer_two (fun p0 => m_pred_printer_tree fuR p0) (fun p0 r h => ih p0 r h) (GTchecker.mk p0.l (W6 (p0.at_ + 1))) ([97, 110, 100] : List UInt8) 2 3 r30_2 hr30_2) (fun a w => Try.call43 a w) rfl ⟨rfl, trivial⟩) <| Wm (.s r30_2.1) rfl <| Nn <| Rt <| Ir <| Tr ?_
   obtain rfl := Option.some.inj hm
   exact ret_i [0]
  ·
   replace hm := cF hc27_10 hm
   refine AiF hc27_10 <| Sx <| Wz (.b (decide (((x12_0.Kind.toNat : Nat) : Int) = 3))) (Ob2 (.int .u8 ((x12_0.Kind.toNat : Nat) : Int)) (.int .u8 3) rfl (fun _ => hb_eql)) <| Wm (.b (decide (((x12_0.Kind.toNat : Nat) : Int) = 3))) rfl <| Nk 2151677961 3 ⟨.loc 0 0::tp 2 (.loc 1 0::tp 18 (.y x12_0.Kind::tp 8 (.b (decide (((x12_0.Kind.toNat : Nat) : Int) = 3))::tp 34 []))), [(.box [(.l enc_GNode_ p0.l), (.i (W6 (p0.at_ + 1)))]), (.box [(.y x12_0.Kind), (.y x12_0.Op), (.s x12_0.Var), (.s x12_0.Name), (.y x12_0.Val.Kind), (.i x12_0.Val.N), (.u x12_0.Val.Bits), (.s x12_0.Val.Text)])], 1⟩ ?_
   rcases tf_ (decide (((x12_0.Kind.toNat : Nat) : Int) = 3)) with hc31_11 | hc31_11
   ·
    replace hm := cT hc31_11 hm
    refine AiT hc31_11 <| Sx <| Wm (.loc 0 0) rfl ?_
    obtain ⟨r34_3, hr34_3, hm⟩ := bnd hm
    refine Wy (.s r34_3.1) [(0, (.box [(.l enc_GNode_ r34_3.2.l), (.i r34_3.2.at_)]))] (Ocf [0] [] [] 0 (ok_pred_printer_within (fun p0 => m_pred_printer_tree fuR p0) (fun p0 r h => ih p0 r h) (GTchecker.mk p0.l (W6 (p0.at_ + 1))) 3 r34_3 hr34_3) (fun a w => Try.call44 a w) rfl ⟨rfl, trivial⟩) ?_
    obtain ⟨t35_3, ht35_3, hm⟩ := bnd hm; obtain ⟨ht35_3e, ht35_3l⟩ := app_some ht35_3
    refine Wz (.s t35_3) (op_bin rfl (a1 := .string (toS ([110, 111, 116, 32] : List UInt8))) (a2 := .string (toS r34_3.1)) (by kernel_rfl) (by kernel_rfl) (fun _ => hb_sadd ht35_3e ht35_3l)) <| Wm (.s t35_3) rfl <| Nn <| Rt <| Ir <| Tr ?_
    obtain rfl := Option.some.inj hm
    exact ret_i [0]
   ·
    replace hm := cF hc31_11 hm
    refine AiF hc31_11 <| Sx <| Wz (.b (decide (((x12_0.Kind.toNat : Nat) : Int) = 4))) (Ob2 (.int .u8 ((x12_0.Kind.toNat : Nat) : Int)) (.int .u8 4) rfl (fun _ => hb_eql)) <| Wm (.b (decide (((x12_0.Kind.toNat : Nat) : Int) = 4))) rfl <| Nk 68723671049 3 ⟨.loc 0 0::tp 2 (.loc 1 0::tp 18 (.y x12_0.Kind::tp 13 (.b (decide (((x12_0.Kind.toNat : Nat) : Int) = 4))::tp 29 []))), [(.box [(.l enc_GNode_ p0.l), (.i (W6 (p0.at_ + 1)))]), (.box [(.y x12_0.Kind), (.y x12_0.Op), (.s x12_0.Var), (.s x12_0.Name), (.y x12_0.Val.Kind), (.i x12_0.Val.N), (.u x12_0.Val.Bits), (.s x12_0.Val.Text)])], 1⟩ ?_
    rcases tf_ (decide (((x12_0.Kind.toNat : Nat) : Int) = 4)) with hc36_12 | hc36_12
    ·
     replace hm := cT hc36_12 hm
     refine AiT hc36_12 <| Sx <| Wm (.loc 0 0) rfl <| Wz (.loc 1 1) (Ofa rfl) <| Wz (.y x12_0.Op) (Old rfl) ?_
     obtain ⟨r41_4, hr41_4, hm⟩ := bnd hm
     refine Wz (.s r41_4) (Ocf [] [] [] 0 (ok_compare_Sign x12_0.Op r41_4 hr41_4) (fun a w => Try.call45 a w) rfl trivial) ?_
     obtain ⟨r42_4, hr42_4, hm⟩ := bnd hm
     refine Wy (.s r42_4.1) [(0, (.box [(.l enc_GNode_ r42_4.2.l), (.i r42_4.2.at_)]))] (Ocf [0] [] [] 0 (ok_pred_printer_two (fun p0 => m_pred_printer_tree fuR p0) (fun p0 r h => ih p0 r h) (GTchecker.mk p0.l (W6 (p0.at_ + 1))) r41_4 0 0 r42_4 hr42_4) (fun a w => Try.call43 a w) rfl ⟨rfl, trivial⟩) <| Wm (.s r42_4.1) rfl <| Nn <| Rt <| Ir <| Tr ?_
     obtain rfl := Option.some.inj hm
     exact ret_i [0]
    ·
     replace hm := cF hc36_12 hm
     refine AiF hc36_12 <| Sx <| Wz (.b (decide (((x12_0.Kind.toNat : Nat) : Int) = 5))) (Ob2 (.int .u8 ((x12_0.Kind.toNat : Nat) : Int)) (.int .u8 5) rfl (fun _ => hb_eql)) <| Wm (.b (decide (((x12_0.Kind.toNat : Nat) : Int) = 5))) rfl <| Nk 8796097216521 3 ⟨.loc 0 0::tp 2 (.loc 1 0::tp 18 (.y x12_0.Kind::tp 20 (.b (decide (((x12_0.Kind.toNat : Nat) : Int) = 5))::tp 22 []))), [(.box [(.l enc_GNode_ p0.l), (.i (W6 (p0.at_ + 1)))]), (.box [(.y x12_0.Kind), (.y x12_0.Op), (.s x12_0.Var), (.s x12_0.Name), (.y x12_0.Val.Kind), (.i x12_0.Val.N), (.u x12_0.Val.Bits), (.s x12_0.Val.Text)])], 1⟩ ?_
     rcases tf_ (decide (((x12_0.Kind.toNat : Nat) : Int) = 5)) with hc43_13 | hc43_13
     ·
      replace hm := cT hc43_13 hm
      refine AiT hc43_13 <| Sx <| Wm (.loc 0 0) rfl ?_
      obtain ⟨r46_5, hr46_5, hm⟩ := bnd hm
      refine Wy (.s r46_5.1) [(0, (.box [(.l enc_GNode_ r46_5.2.l), (.i r46_5.2.at_)]))] (Ocf [0] [] [] 0 (ok_pred_printer_two (fun p0 => m_pred_printer_tree fuR p0) (fun p0 r h => ih p0 r h) (GTchecker.mk p0.l (W6 (p0.at_ + 1))) ([43] : List UInt8) 0 0 r46_5 hr46_5) (fun a w => Try.call43 a w) rfl ⟨rfl, trivial⟩) <| Wm (.s r46_5.1) rfl <| Nn <| Rt <| Ir <| Tr ?_
      obtain rfl := Option.some.inj hm
      exact ret_i [0]
     ·
      replace hm := cF hc43_13 hm
      refine AiF hc43_13 <| Sx <| Wz (.b (decide (((x12_0.Kind.toNat : Nat) : Int) = 6))) (Ob2 (.int .u8 ((x12_0.Kind.toNat : Nat) : Int)) (.int .u8 6) rfl (fun _ => hb_eql)) <| Wm (.b (decide (((x12_0.Kind.toNat : Nat) : Int) = 6))) rfl <| Nk 140737492549641 3 ⟨.loc 0 0::tp 2 (.loc 1 0::tp 18 (.y x12_0.Kind::tp 24 (.b (decide (((x12_0.Kind.toNat : Nat) : Int) = 6))::tp 18 []))), [(.box [(.l enc_GNode_ p0.l), (.i (W6 (p0.at_ + 1)))]), (.box [(.y x12_0.Kind), (.y x12_0.Op), (.s x12_0.Var), (.s x12_0.Name), (.y x12_0.Val.Kind), (.i x12_0.Val.N), (.u x12_0.Val.Bits), (.s x12_0.Val.Text)])], 1⟩ ?_
      rcases tf_ (decide (((x12_0.Kind.toNat : Nat) : Int) = 6)) with hc47_14 | hc47_14
      ·
       replace hm := cT hc47_14 hm
       refine AiT hc47_14 <| Sx <| Wm (.loc 0 0) rfl ?_
       obtain ⟨r50_6, hr50_6, hm⟩ := bnd hm
       refine Wy (.s r50_6.1) [(0, (.box [(.l enc_GNode_ r50_6.2.l), (.i r50_6.2.at_)]))] (Ocf [0] [] [] 0 (ok_pred_printer_two (fun p0 => m_pred_printer_tree fuR p0) (fun p0 r h => ih p0 r h) (GTchecker.mk p0.l (W6 (p0.at_ + 1))) ([45] : List UInt8) 0 0 r50_6 hr50_6) (fun a w => Try.call43 a w) rfl ⟨rfl, trivial⟩) <| Wm (.s r50_6.1) rfl <| Nn <| Rt <| Ir <| Tr ?_
       obtain rfl := Option.some.inj hm
       exact ret_i [0]
      ·
       replace hm := cF hc47_14 hm
       refine AiF hc47_14 <| Sx <| Wz (.b (decide (((x12_0.Kind.toNat : Nat) : Int) = 7))) (Ob2 (.int .u8 ((x12_0.Kind.toNat : Nat) : Int)) (.int .u8 7) rfl (fun _ => hb_eql)) <| Wm (.b (decide (((x12_0.Kind.toNat : Nat) : Int) = 7))) rfl <| Nk 2251799817879560 3 ⟨tp 3 (.loc 1 0::tp 18 (.y x12_0.Kind::tp 28 (.b (decide (((x12_0.Kind.toNat : Nat) : Int) = 7))::tp 14 []))), [(.box [(.l enc_GNode_ p0.l), (.i (W6 (p0.at_ + 1)))]), (.box [(.y x12_0.Kind), (.y x12_0.Op), (.s x12_0.Var), (.s x12_0.Name), (.y x12_0.Val.Kind), (.i x12_0.Val.N), (.u x12_0.Val.Bits), (.s x12_0.Val.Text)])], 1⟩ ?_
       rcases tf_ (decide (((x12_0.Kind.toNat : Nat) : Int) = 7)) with hc51_15 | hc51_15
       ·
        replace hm := cT hc51_15 hm
        refine AiT hc51_15 <| Sx <| Wz (.loc 1 3) (Ofa rfl) <| Wz (.s x12_0.Name) (Old rfl) <| Wm (.s x12_0.Name) rfl <| Nn <| Rt <| Ir <| Tr ?_
        obtain rfl := Option.some.inj hm
        exact ret_i [0]
       ·
        replace hm := cF hc51_15 hm
        refine AiF hc51_15 <| Sx <| Wz (.b (decide (((x12_0.Kind.toNat : Nat) : Int) = 8))) (Ob2 (.int .u8 ((x12_0.Kind.toNat : Nat) : Int)) (.int .u8 8) rfl (fun _ => hb_eql)) <| Wm (.b (decide (((x12_0.Kind.toNat : Nat) : Int) = 8))) rfl <| Nk 36028797018963976 3 ⟨tp 3 (.loc 1 0::tp 51 (.b (decide (((x12_0.Kind.toNat : Nat) : Int) = 8))::tp 10 [])), [(.box [(.l enc_GNode_ p0.l), (.i (W6 (p0.at_ + 1)))]), (.box [(.y x12_0.Kind), (.y x12_0.Op), (.s x12_0.Var), (.s x12_0.Name), (.y x12_0.Val.Kind), (.i x12_0.Val.N), (.u x12_0.Val.Bits), (.s x12_0.Val.Text)])], 1⟩ ?_
        rcases tf_ (decide (((x12_0.Kind.toNat : Nat) : Int) = 8)) with hc55_16 | hc55_16
        ·
         replace hm := cT hc55_16 hm
         refine AiT hc55_16 <| Sx <| Wz (.loc 1 2) (Ofa rfl) <| Wz (.s x12_0.Var) (Old rfl) ?_
         obtain ⟨t59_7, ht59_7, hm⟩ := bnd hm; obtain ⟨ht59_7e, ht59_7l⟩ := app_some ht59_7
         refine Wz (.s t59_7) (op_bin rfl (a1 := .string (toS x12_0.Var)) (a2 := .string (toS ([46] : List UInt8))) (by kernel_rfl) (by kernel_rfl) (fun _ => hb_sadd ht59_7e ht59_7l)) <| Wz (.loc 1 3) (Ofa rfl) <| Wz (.s x12_0.Name) (Old rfl) ?_
         obtain ⟨t62_7, ht62_7, hm⟩ := bnd hm; obtain ⟨ht62_7e, ht62_7l⟩ := app_some ht62_7
         refine Wz (.s t62_7) (op_bin rfl (a1 := .string (toS t59_7)) (a2 := .string (toS x12_0.Name)) (by kernel_rfl) (by kernel_rfl) (fun _ => hb_sadd ht62_7e ht62_7l)) <| Wm (.s t62_7) rfl <| Nn <| Rt <| Ir <| Tr ?_
         obtain rfl := Option.some.inj hm
         exact ret_i [0]
        ·
         replace hm := cF hc55_16 hm
         refine AiF hc55_16 <| Sk <| Ino <| Tk 8 3 ⟨tp 3 (.loc 1 0::tp 62 []), [(.box [(.l enc_GNode_ p0.l), (.i (W6 (p0.at_ + 1)))]), (.box [(.y x12_0.Kind), (.y x12_0.Op), (.s x12_0.Var), (.s x12_0.Name), (.y x12_0.Val.Kind), (.i x12_0.Val.N), (.u x12_0.Val.Bits), (.s x12_0.Val.Text)])], 1⟩ <| Sx <| Wz (.loc 1 4) (Ofa rfl) <| Wz (.agg [(.y x12_0.Val.Kind), (.i x12_0.Val.N), (.u x12_0.Val.Bits), (.s x12_0.Val.Text)]) (Old rfl) ?_
         obtain ⟨r65_8, hr65_8, hm⟩ := bnd hm
         refine Wz (.s r65_8) (Ocf [] [] [] 0 (ok_lex_Literal x12_0.Val r65_8 hr65_8) (fun a w => Try.call46 a w) rfl trivial) <| Wm (.s r65_8) rfl <| Nn <| Rt ?_
         obtain rfl := Option.some.inj hm
         exact ret_i [0]

theorem ok_pred_Print (p0 : (List GNode_)) (r : (List UInt8)) (h : m_pred_Print p0 = some r) : GCall Try.prog 16 [(.l enc_GNode_ p0)] [] (.s r) [] := by
 refine GCall.of_body (n := 17) (rs := [(.tmp 2)]) Try.func16 rfl rfl rfl <| Ato ⟨.l enc_GNode_ p0::tu 16 [], [], 0⟩ ?_
 have hm := h
 unfold m_pred_Print at hm
 refine Sx <| Wm (.s ([] : List UInt8)) rfl <| Nk 1 0 ⟨.l enc_GNode_ p0::tp 16 [], [], 0⟩ <| Sq <| Sx <| Wm (.l enc_GNode_ p0) rfl <| Wz (.i ((List.length p0 : Nat) : Int)) (Oln rfl) <| Wz (.b (decide (((List.length p0 : Nat) : Int) = 0))) (Obn rfl (fun _ => hb_eql (k := .i64))) ?_
 rcases tf_ (decide (((List.length p0 : Nat) : Int) = 0)) with hq7_0 | hq7_0
 ·
  replace hm := cT hq7_0 hm
  refine Wz (.b true) (Oq hq7_0 rfl) <| Wn <| Wn <| Wn <| Wz (.b true) (OpT rfl) <| Nk 2049 0 ⟨.l enc_GNode_ p0::tp 10 (.b true::tp 5 []), [], 0⟩ <| AWP.if_ true (by kernel_rfl) <| Sx <| Wm (.s ([] : List UInt8)) rfl <| Nn <| Rt <| Tr ?_
  obtain rfl := Option.some.inj hm
  exact ret_i []
 ·
  replace hm := cF hq7_0 hm
  refine Wz (.b false) (Oq hq7_0 rfl) <| Wm (.l enc_GNode_ p0) rfl ?_
  obtain ⟨r9_0, hr9_0, hm⟩ := bnd hm
  refine Wz (.i r9_0) (Ocf [] [] [] 0 (ok_pred_Check p0 r9_0 hr9_0) (fun a w => Try.call14 a w) rfl trivial) <| Wz (.b (decide (r9_0 ≠ 0))) (Obn rfl (fun _ => hb_neq (k := .i64))) <| Wz (.b (decide (r9_0 ≠ 0))) (OpF rfl) <| Nk 2049 0 ⟨.l enc_GNode_ p0::tp 10 (.b (decide (r9_0 ≠ 0))::tp 5 []), [], 0⟩ ?_
  rcases tf_ (decide (r9_0 ≠ 0)) with hc11_2 | hc11_2
  ·
   replace hm := cT hc11_2 hm
   refine AiT hc11_2 <| Sx <| Wm (.s ([] : List UInt8)) rfl <| Nn <| Rt <| Tr ?_
   obtain rfl := Option.some.inj hm
   exact ret_i []
  ·
   replace hm := cF hc11_2 hm
   refine AiF hc11_2 <| Sk <| Tk 1 0 ⟨.l enc_GNode_ p0::tp 16 [], [], 0⟩ <| Sx <| Wm (.l enc_GNode_ p0) rfl <| Wz (.agg [(.l enc_GNode_ p0), (.i 0)]) (Obd rfl) <| Wy (.loc 0 0) [(0, (.box [(.l enc_GNode_ p0), (.i 0)]))] (Obx rfl) <| Wm (.loc 0 0) rfl <| Nk 8 1 ⟨tp 3 (.loc 0 0::tp 13 []), [(.box [(.l enc_GNode_ p0), (.i 0)])], 0⟩ <| Sx <| Wm (.loc 0 0) rfl ?_
   obtain ⟨r16_1, hr16_1, hm⟩ := bnd hm
   refine Wy (.s r16_1.1) [(0, (.box [(.l enc_GNode_ r16_1.2.l), (.i r16_1.2.at_)]))] (Ocf [0] [] [] 0 (ok_pred_printer_tree 1152921504606846976 (GTchecker.mk p0 0) r16_1 hr16_1) (fun a w => Try.call28 a w) rfl ⟨rfl, trivial⟩) <| Wm (.s r16_1.1) rfl <| Nn <| Rt ?_
   obtain rfl := Option.some.inj hm
   exact ret_i []

theorem ok_pred_Size (p0 : (List GNode_)) (p1 : Int) (r : Int) (h : m_pred_Size p0 p1 = some r) : GCall Try.prog 12 [(.l enc_GNode_ p0), (.i p1)] [] (.i r) [] := by
 refine GCall.of_body (n := 36) (rs := [(.tmp 4)]) Try.func12 rfl rfl rfl <| Ato ⟨.l enc_GNode_ p0::.i p1::tu 34 [], [], 0⟩ ?_
 have hm := h
 unfold m_pred_Size at hm
 refine Sx <| Wm (.i 0) rfl <| Nk 3 0 ⟨.l enc_GNode_ p0::.i p1::tp 34 [], [], 0⟩ <| Sq <| Sx <| Wm (.i p1) rfl <| Wz (.b (decide (p1 < 0))) (Obn rfl (fun _ => hb_lss (k := .i64))) ?_
 rcases tf_ (decide (p1 < 0)) with hq10_0 | hq10_0
 ·
  replace hm := cT hq10_0 hm
  refine Wz (.b true) (Oq hq10_0 rfl) <| Wn <| Wn <| Wn <| Wn <| Wz (.b true) (OpT rfl) <| Nk 32771 0 ⟨.l enc_GNode_ p0::.i p1::tp 13 (.b true::tp 20 []), [], 0⟩ <| AWP.if_ true (by kernel_rfl) <| Sx <| Wm (.i 0) rfl <| Nn <| Rt <| Tr ?_
  obtain rfl := Option.some.inj hm
  exact ret_i []
 ·
  replace hm := cF hq10_0 hm
  refine Wz (.b false) (Oq hq10_0 rfl) <| Wm (.i p1) rfl <| Wm (.l enc_GNode_ p0) rfl <| Wz (.i ((List.length p0 : Nat) : Int)) (Oln rfl) <| Wz (.b (decide (((List.length p0 : Nat) : Int) ≤ p1))) (Obn rfl (fun _ => hb_geq (k := .i64))) <| Wz (.b (decide (((List.length p0 : Nat) : Int) ≤ p1))) (OpF rfl) <| Nk 32771 0 ⟨.l enc_GNode_ p0::.i p1::tp 13 (.b (decide (((List.length p0 : Nat) : Int) ≤ p1))::tp 20 []), [], 0⟩ ?_
  rcases tf_ (decide (((List.length p0 : Nat) : Int) ≤ p1)) with hc15_5 | hc15_5
  ·
   replace hm := cT hc15_5 hm
   refine AiT hc15_5 <| Sx <| Wm (.i 0) rfl <| Nn <| Rt <| Tr ?_
   obtain rfl := Option.some.inj hm
   exact ret_i []
  ·
   replace hm := cF hc15_5 hm
   refine AiF hc15_5 <| Sk <| Tk 3 0 ⟨.l enc_GNode_ p0::.i p1::tp 34 [], [], 0⟩ <| Sx <| Wm (.i 1) rfl <| Nk 35 0 ⟨.l enc_GNode_ p0::.i p1::tp 3 (.i 1::tp 30 []), [], 0⟩ <| Sq <| Sx <| Wm (.l enc_GNode_ p0) rfl <| Wm (.i p1) rfl ?_
   obtain ⟨s18_1, hs18_1, hm⟩ := bnd hm; obtain ⟨hs18_1a, hs18_1b, hs18_1c, hs18_1d, hs18_1e⟩ := cut_some hs18_1
   refine Wz (.l enc_GNode_ s18_1) (op_cut rfl (e := 33) (sz := 8) (by kernel_rfl) (l := p0) (enc := enc_GNode_) (by kernel_rfl) enc_GNode__len (a := (Int.toNat p1)) (b := (Int.toNat ((List.length p0 : Nat) : Int))) (⟨.i64, p1, by kernel_rfl, hs18_1a⟩) (by exact rfl) hs18_1c hs18_1d hs18_1e) <| Wz (.i ((List.length s18_1 : Nat) : Int)) (Oln rfl) <| Wm (.i 0) rfl <| Nk 1835040 0 ⟨tp 5 (.i 1::tp 12 (.l enc_GNode_ s18_1::.i ((List.length s18_1 : Nat) : Int)::.i 0::tp 15 [])), [], 0⟩ <| Bk ?_
   refine AWP.loopI (α := Nat × Int × Int)
     (fun (fu_2, y5_2, y20_2) => (⟨tp 5 (.i y5_2::tp 12 (.l enc_GNode_ s18_1::.i ((List.length s18_1 : Nat) : Int)::.i y20_2::tp 15 [])), [], 0⟩ : St))
     (fun (fu_2, y5_2, y20_2) => m_pred_Size_l2 s18_1 fu_2 y5_2 y20_2 = some r)
     (fun (fu_2, y5_2, y20_2) => fu_2) (1152921504606846976, 1, 0)
     (Weak.toK 1835040 0 0 []) hm ?_
   rintro ⟨fu_2, y5_2, y20_2⟩ n_2 hm ih_2
   try dsimp only at hm ih_2 ⊢
   cases fu_2 with
   | zero => exact absurd hm (by unfold m_pred_Size_l2; simp)
   | succ fu_2 =>
    unfold m_pred_Size_l2 at hm
    refine Sx <| Wz (.b (decide (y20_2 < ((List.length s18_1 : Nat) : Int)))) (Obn rfl (fun _ => hb_lss (k := .i64))) <| Nk 3932192 0 ⟨tp 5 (.i y5_2::tp 12 (.l enc_GNode_ s18_1::.i ((List.length s18_1 : Nat) : Int)::.i y20_2::.b (decide (y20_2 < ((List.length s18_1 : Nat) : Int)))::tp 14 [])), [], 0⟩ <| Sq ?_
    rcases tf_ (decide (y20_2 < ((List.length s18_1 : Nat) : Int))) with hc21_6 | hc21_6
    ·
     replace hm := cT hc21_6 hm
     refine AiT hc21_6 <| Sk <| Tk 1835040 0 ⟨tp 5 (.i y5_2::tp 12 (.l enc_GNode_ s18_1::.i ((List.length s18_1 : Nat) : Int)::.i y20_2::tp 15 [])), [], 0⟩ <| Sq <| Bk <| Sx <| Wm (.i y20_2) rfl ?_
     obtain ⟨x23_3, hx23_3, hm⟩ := bnd hm
     obtain ⟨hx23_3i, hx23_3g⟩ := geti_some hx23_3
     refine Wz (.d (.ref (List.drop ((Int.toNat y20_2) * 8) (flatD enc_GNode_ s18_1)))) (Oia rfl enc_GNode__len hx23_3i hx23_3g) <| Wz (.agg [(.y x23_3.Kind), (.y x23_3.Op), (.s x23_3.Var), (.s x23_3.Name), (.y x23_3.Val.Kind), (.i x23_3.Val.N), (.u x23_3.Val.Bits), (.s x23_3.Val.Text)]) (Lf rfl enc_GNode__len hx23_3g) <| Wy (.loc 0 0) [(0, (.box [(.y 0), (.y 0), (.s ([] : List UInt8)), (.s ([] : List UInt8)), (.y 0), (.i 0), (.u 0), (.s ([] : List UInt8))]))] (Oal rfl) <| Wm (.i y20_2) rfl <| Wy (.tup []) [(0, (.box [(.y x23_3.Kind), (.y x23_3.Op), (.s x23_3.Var), (.s x23_3.Name), (.y x23_3.Val.Kind), (.i x23_3.Val.N), (.u x23_3.Val.Bits), (.s x23_3.Val.Text)]))] (Ost rfl) <| Nk 1835232 1 ⟨tp 5 (.i y5_2::.i y20_2::.loc 0 0::tp 10 (.l enc_GNode_ s18_1::.i ((List.length s18_1 : Nat) : Int)::.i y20_2::tp 15 [])), [(.box [(.y x23_3.Kind), (.y x23_3.Op), (.s x23_3.Var), (.s x23_3.Name), (.y x23_3.Val.Kind), (.i x23_3.Val.N), (.u x23_3.Val.Bits), (.s x23_3.Val.Text)])], 0⟩ <| Sx <| Wm (.i y5_2) rfl <| Wz (.loc 0 0) (Ofa rfl) <| Wz (.y x23_3.Kind) (Old rfl) ?_
     obtain ⟨r28_4, hr28_4, hm⟩ := bnd hm
     refine Wz (.i r28_4) (Ocf [] [] [] 0 (ok_pred_Kids x23_3.Kind r28_4 hr28_4) (fun a w => Try.call10 a w) rfl trivial) <| Wz (.i (W6 (r28_4 - 1))) (Obn rfl (fun _ => hb_sub (k := .i64))) <| Wz (.i (W6 (y5_2 + (W6 (r28_4 - 1))))) (Obn rfl (fun _ => hb_add (k := .i64))) <| Wm (.i (W6 (y5_2 + (W6 (r28_4 - 1))))) rfl <| Nk 1835104 0 ⟨tp 5 (.i (W6 (y5_2 + (W6 (r28_4 - 1))))::.i y20_2::tp 11 (.l enc_GNode_ s18_1::.i ((List.length s18_1 : Nat) : Int)::.i y20_2::tp 15 [])), [.gone], 0⟩ <| Sx <| Wm (.i (W6 (y5_2 + (W6 (r28_4 - 1))))) rfl <| Wz (.b (decide ((W6 (y5_2 + (W6 (r28_4 - 1)))) = 0))) (Obn rfl (fun _ => hb_eql (k := .i64))) <| Nk 4296802400 0 ⟨tp 5 (.i (W6 (y5_2 + (W6 (r28_4 - 1))))::.i y20_2::tp 11 (.l enc_GNode_ s18_1::.i ((List.length s18_1 : Nat) : Int)::.i y20_2::tp 11 (.b (decide ((W6 (y5_2 + (W6 (r28_4 - 1)))) = 0))::tp 3 []))), [.gone], 0⟩ ?_
     rcases tf_ (decide ((W6 (y5_2 + (W6 (r28_4 - 1)))) = 0)) with hc32_7 | hc32_7
     ·
      replace hm := cT hc32_7 hm
      refine AiT hc32_7 <| Sx <| Wm (.i y20_2) rfl <| Wz (.i (W6 (y20_2 + 1))) (Obn rfl (fun _ => hb_add (k := .i64))) <| Wm (.i (W6 (y20_2 + 1))) rfl <| Nn <| Rt <| Ir <| Tr <| RoundK.ret <| Ir <| Tr ?_
      obtain rfl := Option.some.inj hm
      exact ret_i []
     ·
      replace hm := cF hc32_7 hm
      refine AiF hc32_7 <| Sk <| Ino <| Tk 1835040 0 ⟨tp 5 (.i (W6 (y5_2 + (W6 (r28_4 - 1))))::tp 12 (.l enc_GNode_ s18_1::.i ((List.length s18_1 : Nat) : Int)::.i y20_2::tp 15 [])), [.gone], 0⟩ <| Tx <| Wz (.i (W6 (y20_2 + 1))) (Obn rfl (fun _ => hb_add (k := .i64))) <| Wm (.i (W6 (y20_2 + 1))) rfl <| Wn0 <| RoundK.normal ?_
      exact Rounds.weak (Weak.toK 1835040 0 0 []) (ih_2 (fu_2, (W6 (y5_2 + (W6 (r28_4 - 1)))), (W6 (y20_2 + 1))) hm (Nat.lt_succ_self _))
    ·
     replace hm := cF hc21_6 hm
     refine AiF hc21_6 <| AWP.exit <| Then.exit <| RoundK.exit <| InBlock.same <| Tk 0 0 ⟨tp 36 [], [], 0⟩ <| Sx <| Wm (.i 0) rfl <| Nn <| Rt ?_
     obtain rfl := Option.some.inj hm
     exact ret_i []

theorem ok_slices_Equal_Node (p0 : (List GNode_)) (p1 : (List GNode_)) (r : Bool) (h : m_slices_Equal_Node p0 p1 = some r) : GCall Try.prog 32 [(.l enc_GNode_ p0), (.l enc_GNode_ p1)] [] (.b r) [] := by
 refine GCall.of_body (n := 26) (rs := [(.tmp 4)]) Try.func32 rfl rfl rfl <| Ato ⟨.l enc_GNode_ p0::.l enc_GNode_ p1::tu 24 [], [], 0⟩ ?_
 have hm := h
 unfold m_slices_Equal_Node at hm
 refine Sx <| Wm (.b false) rfl <| Nk 3 0 ⟨.l enc_GNode_ p0::.l enc_GNode_ p1::tp 24 [], [], 0⟩ <| Sq <| Sx <| Wm (.l enc_GNode_ p0) rfl <| Wz (.i ((List.length p0 : Nat) : Int)) (Oln rfl) <| Wm (.l enc_GNode_ p1) rfl <| Wz (.i ((List.length p1 : Nat) : Int)) (Oln rfl) <| Wz (.b (decide (((List.length p0 : Nat) : Int) ≠ ((List.length p1 : Nat) : Int)))) (Obn rfl (fun _ => hb_neq (k := .i64))) <| Nk 1027 0 ⟨.l enc_GNode_ p0::.l enc_GNode_ p1::tp 8 (.b (decide (((List.length p0 : Nat) : Int) ≠ ((List.length p1 : Nat) : Int)))::tp 15 []), [], 0⟩ ?_
 rcases tf_ (decide (((List.length p0 : Nat) : Int) ≠ ((List.length p1 : Nat) : Int))) with hc10_4 | hc10_4
 ·
  replace hm := cT hc10_4 hm
  refine AiT hc10_4 <| Sx <| Wm (.b false) rfl <| Nn <| Rt <| Tr ?_
  obtain rfl := Option.some.inj hm
  exact ret_i []
 ·
  replace hm := cF hc10_4 hm
  refine AiF hc10_4 <| Sk <| Tk 3 0 ⟨.l enc_GNode_ p0::.l enc_GNode_ p1::tp 24 [], [], 0⟩ <| Sq <| Sx <| Wm (.l enc_GNode_ p0) rfl <| Wz (.i ((List.length p0 : Nat) : Int)) (Oln rfl) <| Wm (.i 0) rfl <| Nk 12291 0 ⟨.l enc_GNode_ p0::.l enc_GNode_ p1::tp 10 (.i ((List.length p0 : Nat) : Int)::.i 0::tp 12 []), [], 0⟩ <| Bk ?_
  refine AWP.loopI (α := Nat × Int)
    (fun (fu_2, y13_2) => (⟨.l enc_GNode_ p0::.l enc_GNode_ p1::tp 10 (.i ((List.length p0 : Nat) : Int)::.i y13_2::tp 12 []), [], 0⟩ : St))
    (fun (fu_2, y13_2) => m_slices_Equal_Node_l2 p0 p1 fu_2 y13_2 = some r)
    (fun (fu_2, y13_2) => fu_2) (1152921504606846976, 0)
    (Weak.toK 12291 0 0 []) hm ?_
  rintro ⟨fu_2, y13_2⟩ n_2 hm ih_2
  try dsimp only at hm ih_2 ⊢
  cases fu_2 with
  | zero => exact absurd hm (by unfold m_slices_Equal_Node_l2; simp)
  | succ fu_2 =>
   unfold m_slices_Equal_Node_l2 at hm
   refine Sx <| Wz (.b (decide (y13_2 < ((List.length p0 : Nat) : Int)))) (Obn rfl (fun _ => hb_lss (k := .i64))) <| Nk 28675 0 ⟨.l enc_GNode_ p0::.l enc_GNode_ p1::tp 10 (.i ((List.length p0 : Nat) : Int)::.i y13_2::.b (decide (y13_2 < ((List.length p0 : Nat) : Int)))::tp 11 []), [], 0⟩ <| Sq ?_
   rcases tf_ (decide (y13_2 < ((List.length p0 : Nat) : Int))) with hc14_5 | hc14_5
   ·
    replace hm := cT hc14_5 hm
    refine AiT hc14_5 <| Sk <| Tk 12291 0 ⟨.l enc_GNode_ p0::.l enc_GNode_ p1::tp 10 (.i ((List.length p0 : Nat) : Int)::.i y13_2::tp 12 []), [], 0⟩ <| Sq <| Bk <| Sx <| Wm (.i y13_2) rfl <| Wm (.i y13_2) rfl <| Nk 12323 0 ⟨.l enc_GNode_ p0::.l enc_GNode_ p1::tp 3 (.i y13_2::tp 6 (.i ((List.length p0 : Nat) : Int)::.i y13_2::tp 12 [])), [], 0⟩ <| Sq <| Adr <| Wm (.l enc_GNode_ p0) rfl <| Wm (.i y13_2) rfl ?_
    obtain ⟨x18_3, hx18_3, hm⟩ := bnd hm
    obtain ⟨hx18_3i, hx18_3g⟩ := geti_some hx18_3
    refine Wz (.d (.ref (List.drop ((Int.toNat y13_2) * 8) (flatD enc_GNode_ p0)))) (Oia rfl enc_GNode__len hx18_3i hx18_3g) <| Wz (.agg [(.y x18_3.Kind), (.y x18_3.Op), (.s x18_3.Var), (.s x18_3.Name), (.y x18_3.Val.Kind), (.i x18_3.Val.N), (.u x18_3.Val.Bits), (.s x18_3.Val.Text)]) (Lf rfl enc_GNode__len hx18_3g) <| Wm (.l enc_GNode_ p1) rfl <| Wm (.i y13_2) rfl ?_
    obtain ⟨x22_3, hx22_3, hm⟩ := bnd hm
    obtain ⟨hx22_3i, hx22_3g⟩ := geti_some hx22_3
    refine Wz (.d (.ref (List.drop ((Int.toNat y13_2) * 8) (flatD enc_GNode_ p1)))) (Oia rfl enc_GNode__len hx22_3i hx22_3g) <| Wz (.agg [(.y x22_3.Kind), (.y x22_3.Op), (.s x22_3.Var), (.s x22_3.Name), (.y x22_3.Val.Kind), (.i x22_3.Val.N), (.u x22_3.Val.Bits), (.s x22_3.Val.Text)]) (Lf rfl enc_GNode__len hx22_3g) ?_
    obtain ⟨v24_3, hv24_3, hm⟩ := bnd hm; replace hv24_3 := Option.some.inj hv24_3
    refine Wz (.b v24_3) (Ocs (Eq.trans (lit_tf (by simp only [toS_inj])) (congrArg (fun z => A.d (.lit (.bool z))) hv24_3)) (op_neq_deep rfl (la := [(.y x18_3.Kind), (.y x18_3.Op), (.s x18_3.Var), (.s x18_3.Name), (.y x18_3.Val.Kind), (.i x18_3.Val.N), (.u x18_3.Val.Bits), (.s x18_3.Val.Text)]) (lb := [(.y x22_3.Kind), (.y x22_3.Op), (.s x22_3.Var), (.s x22_3.Name), (.y x22_3.Val.Kind), (.i x22_3.Val.N), (.u x22_3.Val.Bits), (.s x22_3.Val.Text)]) (us := [.int .u8 ((x18_3.Kind.toNat : Nat) : Int), .int .u8 ((x18_3.Op.toNat : Nat) : Int), .string (toS x18_3.Var), .string (toS x18_3.Name), .int .u8 ((x18_3.Val.Kind.toNat : Nat) : Int), .int .i64 x18_3.Val.N, .int .u64 x18_3.Val.Bits, .string (toS x18_3.Val.Text)]) (vs := [.int .u8 ((x22_3.Kind.toNat : Nat) : Int), .int .u8 ((x22_3.Op.toNat : Nat) : Int), .string (toS x22_3.Var), .string (toS x22_3.Name), .int .u8 ((x22_3.Val.Kind.toNat : Nat) : Int), .int .i64 x22_3.Val.N, .int .u64 x22_3.Val.Bits, .string (toS x22_3.Val.Text)]) (r := (decide (((x18_3.Kind.toNat : Nat) : Int) = ((x22_3.Kind.toNat : Nat) : Int)) && (decide (((x18_3.Op.toNat : Nat) : Int) = ((x22_3.Op.toNat : Nat) : Int)) && (decide ((toS x18_3.Var) = (toS x22_3.Var)) && (decide ((toS x18_3.Name) = (toS x22_3.Name)) && ((decide (((x18_3.Val.Kind.toNat : Nat) : Int) = ((x22_3.Val.Kind.toNat : Nat) : Int)) && (decide (x18_3.Val.N = x22_3.Val.N) && (decide (x18_3.Val.Bits = x22_3.Val.Bits) && (decide ((toS x18_3.Val.Text) = (toS x22_3.Val.Text)) && true)))) && true)))))) (by kernel_rfl) (by kernel_rfl) (by kernel_rfl) (by kernel_rfl) (by kernel_rfl) (by kernel_rfl))) <| Wdr <| Tk 16789507 0 ⟨.l enc_GNode_ p0::.l enc_GNode_ p1::tp 10 (.i ((List.length p0 : Nat) : Int)::.i y13_2::tp 10 (.b v24_3::tp 1 [])), [], 0⟩ ?_
    rcases tf_ v24_3 with hc24_6 | hc24_6
    ·
     replace hm := cT hc24_6 hm
     refine AiT hc24_6 <| Sx <| Wm (.b false) rfl <| Nn <| Rt <| Ir <| Tr <| RoundK.ret <| Ir <| Tr ?_
     obtain rfl := Option.some.inj hm
     exact ret_i []
    ·
     replace hm := cF hc24_6 hm
     refine AiF hc24_6 <| Sk <| Ino <| Tk 12291 0 ⟨.l enc_GNode_ p0::.l enc_GNode_ p1::tp 10 (.i ((List.length p0 : Nat) : Int)::.i y13_2::tp 12 []), [], 0⟩ <| Tx <| Wz (.i (W6 (y13_2 + 1))) (Obn rfl (fun _ => hb_add (k := .i64))) <| Wm (.i (W6 (y13_2 + 1))) rfl <| Wn0 <| RoundK.normal ?_
     exact Rounds.weak (Weak.toK 12291 0 0 []) (ih_2 (fu_2, (W6 (y13_2 + 1))) hm (Nat.lt_succ_self _))
   ·
    replace hm := cF hc14_5 hm
    refine AiF hc14_5 <| AWP.exit <| Then.exit <| RoundK.exit <| InBlock.same <| Tk 0 0 ⟨tp 26 [], [], 0⟩ <| Sx <| Wm (.b true) rfl <| Nn <| Rt ?_
    obtain rfl := Option.some.inj hm
    exact ret_i []

theorem ok_pred_Same (p0 : (List GNode_)) (p1 : (List GNode_)) (r : Bool) (h : m_pred_Same p0 p1 = some r) : GCall Try.prog 21 [(.l enc_GNode_ p0), (.l enc_GNode_ p1)] [] (.b r) [] := by
 refine GCall.of_body (n := 8) (rs := [(.tmp 4)]) Try.func21 rfl rfl rfl <| Ato ⟨.l enc_GNode_ p0::.l enc_GNode_ p1::tu 6 [], [], 0⟩ ?_
 have hm := h
 unfold m_pred_Same at hm
 refine Sx <| Wm (.b false) rfl <| Nk 3 0 ⟨.l enc_GNode_ p0::.l enc_GNode_ p1::tp 6 [], [], 0⟩ <| Sx <| Wm (.l enc_GNode_ p0) rfl <| Wm (.l enc_GNode_ p1) rfl ?_
 obtain ⟨r7_0, hr7_0, hm⟩ := bnd hm
 refine Wz (.b r7_0) (Ocf [] [] [] 0 (ok_slices_Equal_Node p0 p1 r7_0 hr7_0) (fun a w => Try.call32 a w) rfl trivial) <| Wm (.b r7_0) rfl <| Nn <| Rt ?_
 obtain rfl := Option.some.inj hm
 exact ret_i []

theorem ok_telltalelaw11_awake (r : Bool) (h : m_telltalelaw11_awake = some r) : GCall Try.prog 8 [] [] (.b r) [] := by
 refine GCall.of_body (n := 81) (rs := [(.tmp 0)]) Try.func8 rfl rfl rfl <| Ato ⟨tu 81 [], [], 0⟩ ?_
 have hm := h
 unfold m_telltalelaw11_awake at hm
 refine Sx <| Wm (.b false) rfl <| Nk 0 0 ⟨tp 81 [], [], 0⟩ <| Sx ?_
 obtain ⟨r3_0, hr3_0, hm⟩ := bnd hm
 refine Wz (.d (.slc (List.length r3_0) (flatD enc_GNode_ r3_0))) (Ocf [] [] [] 0 (ok_telltalelaw11_example  r3_0 hr3_0) (fun a w => Try.call25 a w) rfl trivial) <| Wm (.d (.slc (List.length r3_0) (flatD enc_GNode_ r3_0))) rfl <| Nk 2 0 ⟨tp 1 (.d (.slc (List.length r3_0) (flatD enc_GNode_ r3_0))::tp 79 []), [], 0⟩ <| Sx <| Wz (.l enc_GNode_ r3_0) (Omc enc_GNode_ r3_0 rfl) ?_
 obtain ⟨r5_1, hr5_1, hm⟩ := bnd hm
 refine Wz (.l encS r5_1) (Ocf [] [] [] 0 (ok_pred_Vars r3_0 r5_1 hr5_1) (fun a w => Try.call19 a w) rfl trivial) <| Wm (.l encS r5_1) rfl <| Nk 6 0 ⟨tp 1 (.d (.slc (List.length r3_0) (flatD enc_GNode_ r3_0))::.l encS r5_1::tp 78 []), [], 0⟩ <| Sx <| Wz (.l enc_GNode_ r3_0) (Omc enc_GNode_ r3_0 rfl) ?_
 obtain ⟨r7_2, hr7_2, hm⟩ := bnd hm
 refine Wz (.i r7_2) (Ocf [] [] [] 0 (ok_pred_Check r3_0 r7_2 hr7_2) (fun a w => Try.call14 a w) rfl trivial) <| Wz (.b (decide (r7_2 = 0))) (Obn rfl (fun _ => hb_eql (k := .i64))) ?_
 rcases tf_ (decide (r7_2 = 0)) with hq9_2 | hq9_2
 ·
  replace hm := cT hq9_2 hm
  refine Wz (.b true) (Oq hq9_2 rfl) <| Wz (.l enc_GNode_ r3_0) (Omc enc_GNode_ r3_0 rfl) ?_
  obtain ⟨s11_2, hs11_2, hm⟩ := bnd hm; obtain ⟨hs11_2a, hs11_2b, hs11_2c, hs11_2d, hs11_2e⟩ := cut_some hs11_2
  refine Wz (.l enc_GNode_ s11_2) (op_cut rfl (e := 33) (sz := 8) (by kernel_rfl) (l := r3_0) (enc := enc_GNode_) (by kernel_rfl) enc_GNode__len (a := (Int.toNat 0)) (b := (Int.toNat 7)) (by exact rfl) (⟨.i64, 7, by kernel_rfl, hs11_2b⟩) hs11_2c hs11_2d hs11_2e) ?_
  obtain ⟨r12_2, hr12_2, hm⟩ := bnd hm
  refine Wz (.i r12_2) (Ocf [] [] [] 0 (ok_pred_Check s11_2 r12_2 hr12_2) (fun a w => Try.call14 a w) rfl trivial) <| Wz (.b (decide (r12_2 = 3))) (Obn rfl (fun _ => hb_eql (k := .i64))) <| Wz (.b (decide (r12_2 = 3))) (OpT rfl) ?_
  rcases tf_ (decide (r12_2 = 3)) with hq15_2 | hq15_2
  ·
   replace hm := cT hq15_2 hm
   refine Wz (.b true) (Oq hq15_2 rfl) <| Wm (.d (.slc (List.length r3_0) (flatD enc_GNode_ r3_0))) rfl <| Wz (.l enc_GNode_ r3_0) (Omc enc_GNode_ r3_0 rfl) ?_
   obtain ⟨x18_2, hx18_2, hm⟩ := bnd hm
   obtain ⟨hx18_2i, hx18_2g⟩ := geti_some hx18_2
   refine Wz (.d (.ref (List.drop ((Int.toNat 3) * 8) (flatD enc_GNode_ r3_0)))) (Oia rfl enc_GNode__len hx18_2i hx18_2g) <| Wz (.agg [(.y x18_2.Kind), (.y x18_2.Op), (.s x18_2.Var), (.s x18_2.Name), (.y x18_2.Val.Kind), (.i x18_2.Val.N), (.u x18_2.Val.Bits), (.s x18_2.Val.Text)]) (Lf rfl enc_GNode__len hx18_2g) <| Wy (.own 0) [(0, (Ar 33 8 enc_GNode_ ([x18_2] : List GNode_)))] (Obs rfl) ?_
   obtain ⟨a21_2, ha21_2, hm⟩ := bnd hm; obtain ⟨ha21_2e, ha21_2l⟩ := app_some ha21_2
   refine Wy (.own 1) [(1, (Ar 33 8 enc_GNode_ a21_2))] (Oac rfl elemOK_26 enc_GNode__len ha21_2e ha21_2l (by simp)) ?_
   obtain ⟨r22_2, hr22_2, hm⟩ := bnd hm
   refine Wz (.i r22_2) (Ocp [] [] [1] 0 (ok_pred_Check a21_2 r22_2 hr22_2) (plain_triv (by simp [A.Plain, A.Plains, D.Plain, byteD])) (fun a w => Try.call14 a w) rfl trivial) <| Wz (.b (decide (r22_2 = 5))) (Obn rfl (fun _ => hb_eql (k := .i64))) <| Wz (.b (decide (r22_2 = 5))) (OpT rfl) ?_
   rcases tf_ (decide (r22_2 = 5)) with hq25_2 | hq25_2
   ·
    replace hm := cT hq25_2 hm
    refine Wz (.b true) (Oq hq25_2 rfl) <| Wz (.l enc_GNode_ r3_0) (Omc enc_GNode_ r3_0 rfl) ?_
    obtain ⟨s27_2, hs27_2, hm⟩ := bnd hm; obtain ⟨hs27_2a, hs27_2b, hs27_2c, hs27_2d, hs27_2e⟩ := cut_some hs27_2
    refine Wz (.l enc_GNode_ s27_2) (op_cut rfl (e := 33) (sz := 8) (by kernel_rfl) (l := r3_0) (enc := enc_GNode_) (by kernel_rfl) enc_GNode__len (a := (Int.toNat 2)) (b := (Int.toNat 3)) (⟨.i64, 2, by kernel_rfl, hs27_2a⟩) (⟨.i64, 3, by kernel_rfl, hs27_2b⟩) hs27_2c hs27_2d hs27_2e) ?_
    obtain ⟨r28_2, hr28_2, hm⟩ := bnd hm
    refine Wz (.i r28_2) (Ocf [] [] [] 0 (ok_pred_Check s27_2 r28_2 hr28_2) (fun a w => Try.call14 a w) rfl trivial) <| Wz (.b (decide (r28_2 = 11))) (Obn rfl (fun _ => hb_eql (k := .i64))) <| Wz (.b (decide (r28_2 = 11))) (OpT rfl) ?_
    rcases tf_ (decide (r28_2 = 11)) with hq31_2 | hq31_2
    ·
     replace hm := cT hq31_2 hm
     refine Wz (.b true) (Oq hq31_2 rfl) ?_
     obtain ⟨r32_2, hr32_2, hm⟩ := bnd hm
     refine Wz (.i r32_2) (Ocf [] [] [] 0 (ok_pred_Check ([] : List GNode_) r32_2 hr32_2) (fun a w => Try.call14 a w) rfl trivial) <| Wz (.b (decide (r32_2 = 0))) (Obn rfl (fun _ => hb_eql (k := .i64))) <| Wz (.b (decide (r32_2 = 0))) (OpT rfl) ?_
     rcases tf_ (decide (r32_2 = 0)) with hq35_2 | hq35_2
     ·
      replace hm := cT hq35_2 hm
      refine Wz (.b true) (Oq hq35_2 rfl) <| Wz (.l enc_GNode_ r3_0) (Omc enc_GNode_ r3_0 rfl) ?_
      obtain ⟨r37_2, hr37_2, hm⟩ := bnd hm
      refine Wz (.s r37_2) (Ocf [] [] [] 0 (ok_pred_Print r3_0 r37_2 hr37_2) (fun a w => Try.call16 a w) rfl trivial) ?_
      obtain ⟨v38_2, hv38_2, hm⟩ := bnd hm; replace hv38_2 := Option.some.inj hv38_2
      refine Wz (.b v38_2) (Ocs (Eq.trans (lit_tf (by simp only [toS_inj, ne_eq])) (congrArg (fun z => A.d (.lit (.bool z))) hv38_2)) (op_bin rfl (a1 := .string (toS r37_2)) (a2 := .string (toS ([110, 32, 62, 61, 32, 49, 48, 32, 97, 110, 100, 32, 110, 111, 116, 32, 98, 46, 107, 32, 61, 32, 39, 120, 39] : List UInt8))) (by kernel_rfl) (by kernel_rfl) (fun _ => hb_seql))) <| Wz (.b v38_2) (OpT rfl) ?_
      rcases tf_ v38_2 with hq40_2 | hq40_2
      ·
       replace hm := cT hq40_2 hm
       refine Wz (.b true) (Oq hq40_2 rfl) <| Wz (.l enc_GNode_ r3_0) (Omc enc_GNode_ r3_0 rfl) ?_
       obtain ⟨r42_2, hr42_2, hm⟩ := bnd hm
       refine Wz (.i r42_2) (Ocf [] [] [] 0 (ok_pred_Size r3_0 1 r42_2 hr42_2) (fun a w => Try.call12 a w) rfl trivial) <| Wz (.b (decide (r42_2 = 3))) (Obn rfl (fun _ => hb_eql (k := .i64))) <| Wz (.b (decide (r42_2 = 3))) (OpT rfl) ?_
       rcases tf_ (decide (r42_2 = 3)) with hq45_2 | hq45_2
       ·
        replace hm := cT hq45_2 hm
        refine Wz (.b true) (Oq hq45_2 rfl) <| Wz (.l enc_GNode_ r3_0) (Omc enc_GNode_ r3_0 rfl) ?_
        obtain ⟨r47_2, hr47_2, hm⟩ := bnd hm
        refine Wz (.i r47_2) (Ocf [] [] [] 0 (ok_pred_Size r3_0 4 r47_2 hr47_2) (fun a w => Try.call12 a w) rfl trivial) <| Wz (.b (decide (r47_2 = 4))) (Obn rfl (fun _ => hb_eql (k := .i64))) <| Wz (.b (decide (r47_2 = 4))) (OpT rfl) ?_
        rcases tf_ (decide (r47_2 = 4)) with hq50_2 | hq50_2
        ·
         replace hm := cT hq50_2 hm
         refine Wz (.b true) (Oq hq50_2 rfl) ?_
         obtain ⟨r51_2, hr51_2, hm⟩ := bnd hm
         refine Wz (.i r51_2) (Ocf [] [] [] 0 (ok_pred_Kids 3 r51_2 hr51_2) (fun a w => Try.call10 a w) rfl trivial) <| Wz (.b (decide (r51_2 = 1))) (Obn rfl (fun _ => hb_eql (k := .i64))) <| Wz (.b (decide (r51_2 = 1))) (OpT rfl) ?_
         rcases tf_ (decide (r51_2 = 1)) with hq54_2 | hq54_2
         ·
          replace hm := cT hq54_2 hm
          refine Wz (.b true) (Oq hq54_2 rfl) <| Wm (.l encS r5_1) rfl <| Wz (.i ((List.length r5_1 : Nat) : Int)) (Oln rfl) <| Wz (.b (decide (((List.length r5_1 : Nat) : Int) = 1))) (Obn rfl (fun _ => hb_eql (k := .i64))) <| Wz (.b (decide (((List.length r5_1 : Nat) : Int) = 1))) (OpT rfl) ?_
          rcases tf_ (decide (((List.length r5_1 : Nat) : Int) = 1)) with hq59_2 | hq59_2
          ·
           replace hm := cT hq59_2 hm
           refine Wz (.b true) (Oq hq59_2 rfl) <| Wm (.l encS r5_1) rfl ?_
           obtain ⟨x61_2, hx61_2, hm⟩ := bnd hm
           obtain ⟨hx61_2i, hx61_2g⟩ := geti_some hx61_2
           refine Wz (.d (.ref (List.drop ((Int.toNat 0) * 1) (flatD encS r5_1)))) (Oia rfl encS_len hx61_2i hx61_2g) <| Wz (.s x61_2) (Lf1 rfl encS_len hx61_2g) <| Wz (.b (decide (x61_2 = ([98] : List UInt8)))) (Ocs (lit_tf (by simp only [toS_inj, ne_eq])) (op_bin rfl (a1 := .string (toS x61_2)) (a2 := .string (toS ([98] : List UInt8))) (by kernel_rfl) (by kernel_rfl) (fun _ => hb_seql))) <| Wz (.b (decide (x61_2 = ([98] : List UInt8)))) (OpT rfl) ?_
           rcases tf_ (decide (x61_2 = ([98] : List UInt8))) with hq65_2 | hq65_2
           ·
            replace hm := cT hq65_2 hm
            refine Wz (.b true) (Oq hq65_2 rfl) <| Wz (.l enc_GNode_ r3_0) (Omc enc_GNode_ r3_0 rfl) ?_
            obtain ⟨r67_2, hr67_2, hm⟩ := bnd hm
            refine Wz (.l enc_GNode_ r67_2) (Ocw (Ocf [] [] [] 0 (ok_telltalelaw11_example  r67_2 hr67_2) (fun a w => Try.call25 a w) rfl trivial)) ?_
            obtain ⟨r68_2, hr68_2, hm⟩ := bnd hm
            refine Wz (.b r68_2) (Ocf [] [] [] 0 (ok_pred_Same r3_0 r67_2 r68_2 hr68_2) (fun a w => Try.call21 a w) rfl trivial) <| Wz (.b r68_2) (OpT rfl) ?_
            rcases tf_ r68_2 with hq70_2 | hq70_2
            ·
             replace hm := cT hq70_2 hm
             refine Wz (.b true) (Oq hq70_2 rfl) <| Wz (.l enc_GNode_ r3_0) (Omc enc_GNode_ r3_0 rfl) <| Wz (.l enc_GNode_ r3_0) (Omc enc_GNode_ r3_0 rfl) ?_
             obtain ⟨s73_2, hs73_2, hm⟩ := bnd hm; obtain ⟨hs73_2a, hs73_2b, hs73_2c, hs73_2d, hs73_2e⟩ := cut_some hs73_2
             refine Wz (.l enc_GNode_ s73_2) (op_cut rfl (e := 33) (sz := 8) (by kernel_rfl) (l := r3_0) (enc := enc_GNode_) (by kernel_rfl) enc_GNode__len (a := (Int.toNat 0)) (b := (Int.toNat 1)) (by exact rfl) (⟨.i64, 1, by kernel_rfl, hs73_2b⟩) hs73_2c hs73_2d hs73_2e) ?_
             obtain ⟨r74_2, hr74_2, hm⟩ := bnd hm
             refine Wz (.b r74_2) (Ocf [] [] [] 0 (ok_pred_Same r3_0 s73_2 r74_2 hr74_2) (fun a w => Try.call21 a w) rfl trivial) <| Wz (.b (!r74_2)) (Ocs (by kernel_rfl) (op_un rfl (a1 := .bool r74_2) (by kernel_rfl) (fun _ => hu_not))) <| Wz (.b (!r74_2)) (OpT rfl) ?_
             rcases tf_ (!r74_2) with hq77_2 | hq77_2
             ·
              replace hm := cT hq77_2 hm
              refine Wz (.b true) (Oq hq77_2 rfl) <| Wz (.b true) (OpT rfl) <| Wm (.b true) rfl <| Wz (.b true) (OpT rfl) <| Wm (.b true) rfl <| Nn <| Rt ?_
              obtain rfl := Option.some.inj hm
              exact ret_i []
             ·
              replace hm := cF hq77_2 hm
              refine Wz (.b false) (Oq hq77_2 rfl) <| Wz (.b false) (OpF rfl) <| Wm (.b false) rfl <| Wz (.b false) (OpF rfl) <| Wm (.b false) rfl <| Nn <| Rt ?_
              obtain rfl := Option.some.inj hm
              exact ret_i []
            ·
             replace hm := cF hq70_2 hm
             refine Wz (.b false) (Oq hq70_2 rfl) <| Wn <| Wn <| Wn <| Wn <| Wn <| Wz (.b false) (OpF rfl) <| Wm (.b false) rfl <| Wz (.b false) (OpF rfl) <| Wm (.b false) rfl <| Wz (.b false) (OpF rfl) <| Wm (.b false) rfl <| Nn <| Rt ?_
             obtain rfl := Option.some.inj hm
             exact ret_i []
           ·
            replace hm := cF hq65_2 hm
            refine Wz (.b false) (Oq hq65_2 rfl) <| Wn <| Wn <| Wn <| Wz (.b false) (OpF rfl) <| Wm (.b false) rfl <| Wn <| Wn <| Wn <| Wn <| Wn <| Wz (.b false) (OpF rfl) <| Wm (.b false) rfl <| Wz (.b false) (OpF rfl) ?_
            refine Wm (.b false) rfl <| Wz (.b false) (OpF rfl) <| Wm (.b false) rfl <| Nn <| Rt ?_
            obtain rfl := Option.some.inj hm
            exact ret_i []
          ·
           replace hm := cF hq59_2 hm
           refine Wz (.b false) (Oq hq59_2 rfl) <| Wn <| Wn <| Wn <| Wn <| Wz (.b false) (OpF rfl) <| Wm (.b false) rfl <| Wn <| Wn <| Wn <| Wz (.b false) (OpF rfl) <| Wm (.b false) rfl <| Wn <| Wn ?_
           refine Wn <| Wn <| Wn <| Wz (.b false) (OpF rfl) <| Wm (.b false) rfl <| Wz (.b false) (OpF rfl) <| Wm (.b false) rfl <| Wz (.b false) (OpF rfl) <| Wm (.b false) rfl <| Nn <| Rt ?_
           obtain rfl := Option.some.inj hm
           exact ret_i []
         ·
          replace hm := cF hq54_2 hm
          refine Wz (.b false) (Oq hq54_2 rfl) <| Wn <| Wn <| Wn <| Wz (.b false) (OpF rfl) <| Wm (.b false) rfl <| Wn <| Wn <| Wn <| Wn <| Wz (.b false) (OpF rfl) <| Wm (.b false) rfl <| Wn <| Wn ?_
          refine Wn <| Wz (.b false) (OpF rfl) <| Wm (.b false) rfl <| Wn <| Wn <| Wn <| Wn <| Wn <| Wz (.b false) (OpF rfl) <| Wm (.b false) rfl <| Wz (.b false) (OpF rfl) <| Wm (.b false) rfl <| Wz (.b false) (OpF rfl) <| Wm (.b false) rfl ?_
          refine Nn <| Rt ?_
          obtain rfl := Option.some.inj hm
          exact ret_i []
        ·
         replace hm := cF hq50_2 hm
         refine Wz (.b false) (Oq hq50_2 rfl) <| Wn <| Wn <| Wz (.b false) (OpF rfl) <| Wm (.b false) rfl <| Wn <| Wn <| Wn <| Wz (.b false) (OpF rfl) <| Wm (.b false) rfl <| Wn <| Wn <| Wn <| Wn ?_
         refine Wz (.b false) (OpF rfl) <| Wm (.b false) rfl <| Wn <| Wn <| Wn <| Wz (.b false) (OpF rfl) <| Wm (.b false) rfl <| Wn <| Wn <| Wn <| Wn <| Wn <| Wz (.b false) (OpF rfl) <| Wm (.b false) rfl ?_
         refine Wz (.b false) (OpF rfl) <| Wm (.b false) rfl <| Wz (.b false) (OpF rfl) <| Wm (.b false) rfl <| Nn <| Rt ?_
         obtain rfl := Option.some.inj hm
         exact ret_i []
       ·
        replace hm := cF hq45_2 hm
        refine Wz (.b false) (Oq hq45_2 rfl) <| Wn <| Wn <| Wn <| Wz (.b false) (OpF rfl) <| Wm (.b false) rfl <| Wn <| Wn <| Wz (.b false) (OpF rfl) <| Wm (.b false) rfl <| Wn <| Wn <| Wn <| Wz (.b false) (OpF rfl) ?_
        refine Wm (.b false) rfl <| Wn <| Wn <| Wn <| Wn <| Wz (.b false) (OpF rfl) <| Wm (.b false) rfl <| Wn <| Wn <| Wn <| Wz (.b false) (OpF rfl) <| Wm (.b false) rfl <| Wn <| Wn ?_
        refine Wn <| Wn <| Wn <| Wz (.b false) (OpF rfl) <| Wm (.b false) rfl <| Wz (.b false) (OpF rfl) <| Wm (.b false) rfl <| Wz (.b false) (OpF rfl) <| Wm (.b false) rfl <| Nn <| Rt ?_
        obtain rfl := Option.some.inj hm
        exact ret_i []
      ·
       replace hm := cF hq40_2 hm
       refine Wz (.b false) (Oq hq40_2 rfl) <| Wn <| Wn <| Wn <| Wz (.b false) (OpF rfl) <| Wm (.b false) rfl <| Wn <| Wn <| Wn <| Wz (.b false) (OpF rfl) <| Wm (.b false) rfl <| Wn <| Wn <| Wz (.b false) (OpF rfl) ?_
       refine Wm (.b false) rfl <| Wn <| Wn <| Wn <| Wz (.b false) (OpF rfl) <| Wm (.b false) rfl <| Wn <| Wn <| Wn <| Wn <| Wz (.b false) (OpF rfl) <| Wm (.b false) rfl <| Wn <| Wn ?_
       refine Wn <| Wz (.b false) (OpF rfl) <| Wm (.b false) rfl <| Wn <| Wn <| Wn <| Wn <| Wn <| Wz (.b false) (OpF rfl) <| Wm (.b false) rfl <| Wz (.b false) (OpF rfl) <| Wm (.b false) rfl <| Wz (.b false) (OpF rfl) <| Wm (.b false) rfl ?_
       refine Nn <| Rt ?_
       obtain rfl := Option.some.inj hm
       exact ret_i []
     ·
      replace hm := cF hq35_2 hm
      refine Wz (.b false) (Oq hq35_2 rfl) <| Wn <| Wn <| Wn <| Wz (.b false) (OpF rfl) <| Wm (.b false) rfl <| Wn <| Wn <| Wn <| Wz (.b false) (OpF rfl) <| Wm (.b false) rfl <| Wn <| Wn <| Wn ?_
      refine Wz (.b false) (OpF rfl) <| Wm (.b false) rfl <| Wn <| Wn <| Wz (.b false) (OpF rfl) <| Wm (.b false) rfl <| Wn <| Wn <| Wn <| Wz (.b false) (OpF rfl) <| Wm (.b false) rfl <| Wn <| Wn <| Wn ?_
      refine Wn <| Wz (.b false) (OpF rfl) <| Wm (.b false) rfl <| Wn <| Wn <| Wn <| Wz (.b false) (OpF rfl) <| Wm (.b false) rfl <| Wn <| Wn <| Wn <| Wn <| Wn <| Wz (.b false) (OpF rfl) ?_
      refine Wm (.b false) rfl <| Wz (.b false) (OpF rfl) <| Wm (.b false) rfl <| Wz (.b false) (OpF rfl) <| Wm (.b false) rfl <| Nn <| Rt ?_
      obtain rfl := Option.some.inj hm
      exact ret_i []
    ·
     replace hm := cF hq31_2 hm
     refine Wz (.b false) (Oq hq31_2 rfl) <| Wn <| Wn <| Wz (.b false) (OpF rfl) <| Wm (.b false) rfl <| Wn <| Wn <| Wn <| Wz (.b false) (OpF rfl) <| Wm (.b false) rfl <| Wn <| Wn <| Wn <| Wz (.b false) (OpF rfl) ?_
     refine Wm (.b false) rfl <| Wn <| Wn <| Wn <| Wz (.b false) (OpF rfl) <| Wm (.b false) rfl <| Wn <| Wn <| Wz (.b false) (OpF rfl) <| Wm (.b false) rfl <| Wn <| Wn <| Wn <| Wz (.b false) (OpF rfl) ?_
     refine Wm (.b false) rfl <| Wn <| Wn <| Wn <| Wn <| Wz (.b false) (OpF rfl) <| Wm (.b false) rfl <| Wn <| Wn <| Wn <| Wz (.b false) (OpF rfl) <| Wm (.b false) rfl <| Wn <| Wn ?_
     refine Wn <| Wn <| Wn <| Wz (.b false) (OpF rfl) <| Wm (.b false) rfl <| Wz (.b false) (OpF rfl) <| Wm (.b false) rfl <| Wz (.b false) (OpF rfl) <| Wm (.b false) rfl <| Nn <| Rt ?_
     obtain rfl := Option.some.inj hm
     exact ret_i []
   ·
    replace hm := cF hq25_2 hm
    refine Wz (.b false) (Oq hq25_2 rfl) <| Wn <| Wn <| Wn <| Wn <| Wz (.b false) (OpF rfl) <| Wm (.b false) rfl <| Wn <| Wn <| Wz (.b false) (OpF rfl) <| Wm (.b false) rfl <| Wn <| Wn <| Wn ?_
    refine Wz (.b false) (OpF rfl) <| Wm (.b false) rfl <| Wn <| Wn <| Wn <| Wz (.b false) (OpF rfl) <| Wm (.b false) rfl <| Wn <| Wn <| Wn <| Wz (.b false) (OpF rfl) <| Wm (.b false) rfl <| Wn <| Wn ?_
    refine Wz (.b false) (OpF rfl) <| Wm (.b false) rfl <| Wn <| Wn <| Wn <| Wz (.b false) (OpF rfl) <| Wm (.b false) rfl <| Wn <| Wn <| Wn <| Wn <| Wz (.b false) (OpF rfl) <| Wm (.b false) rfl <| Wn ?_
    refine Wn <| Wn <| Wz (.b false) (OpF rfl) <| Wm (.b false) rfl <| Wn <| Wn <| Wn <| Wn <| Wn <| Wz (.b false) (OpF rfl) <| Wm (.b false) rfl <| Wz (.b false) (OpF rfl) <| Wm (.b false) rfl <| Wz (.b false) (OpF rfl) ?_
    refine Wm (.b false) rfl <| Nn <| Rt ?_
    obtain rfl := Option.some.inj hm
    exact ret_i []
  ·
   replace hm := cF hq15_2 hm
   refine Wz (.b false) (Oq hq15_2 rfl) <| Wn <| Wn <| Wn <| Wn <| Wn <| Wn <| Wn <| Wn <| Wz (.b false) (OpF rfl) <| Wm (.b false) rfl <| Wn <| Wn <| Wn ?_
   refine Wn <| Wz (.b false) (OpF rfl) <| Wm (.b false) rfl <| Wn <| Wn <| Wz (.b false) (OpF rfl) <| Wm (.b false) rfl <| Wn <| Wn <| Wn <| Wz (.b false) (OpF rfl) <| Wm (.b false) rfl <| Wn <| Wn ?_
   refine Wn <| Wz (.b false) (OpF rfl) <| Wm (.b false) rfl <| Wn <| Wn <| Wn <| Wz (.b false) (OpF rfl) <| Wm (.b false) rfl <| Wn <| Wn <| Wz (.b false) (OpF rfl) <| Wm (.b false) rfl <| Wn <| Wn ?_
   refine Wn <| Wz (.b false) (OpF rfl) <| Wm (.b false) rfl <| Wn <| Wn <| Wn <| Wn <| Wz (.b false) (OpF rfl) <| Wm (.b false) rfl <| Wn <| Wn <| Wn <| Wz (.b false) (OpF rfl) <| Wm (.b false) rfl ?_
   refine Wn <| Wn <| Wn <| Wn <| Wn <| Wz (.b false) (OpF rfl) <| Wm (.b false) rfl <| Wz (.b false) (OpF rfl) <| Wm (.b false) rfl <| Wz (.b false) (OpF rfl) <| Wm (.b false) rfl <| Nn <| Rt ?_
   obtain rfl := Option.some.inj hm
   exact ret_i []
 ·
  replace hm := cF hq9_2 hm
  refine Wz (.b false) (Oq hq9_2 rfl) <| Wn <| Wn <| Wn <| Wn <| Wz (.b false) (OpF rfl) <| Wm (.b false) rfl <| Wn <| Wn <| Wn <| Wn <| Wn <| Wn <| Wn ?_
  refine Wn <| Wz (.b false) (OpF rfl) <| Wm (.b false) rfl <| Wn <| Wn <| Wn <| Wn <| Wz (.b false) (OpF rfl) <| Wm (.b false) rfl <| Wn <| Wn <| Wz (.b false) (OpF rfl) <| Wm (.b false) rfl <| Wn ?_
  refine Wn <| Wn <| Wz (.b false) (OpF rfl) <| Wm (.b false) rfl <| Wn <| Wn <| Wn <| Wz (.b false) (OpF rfl) <| Wm (.b false) rfl <| Wn <| Wn <| Wn <| Wz (.b false) (OpF rfl) <| Wm (.b false) rfl ?_
  refine Wn <| Wn <| Wz (.b false) (OpF rfl) <| Wm (.b false) rfl <| Wn <| Wn <| Wn <| Wz (.b false) (OpF rfl) <| Wm (.b false) rfl <| Wn <| Wn <| Wn <| Wn <| Wz (.b false) (OpF rfl) ?_
  refine Wm (.b false) rfl <| Wn <| Wn <| Wn <| Wz (.b false) (OpF rfl) <| Wm (.b false) rfl <| Wn <| Wn <| Wn <| Wn <| Wn <| Wz (.b false) (OpF rfl) <| Wm (.b false) rfl <| Wz (.b false) (OpF rfl) ?_
  refine Wm (.b false) rfl <| Wz (.b false) (OpF rfl) <| Wm (.b false) rfl <| Nn <| Rt ?_
  obtain rfl := Option.some.inj hm
  exact ret_i []

theorem ok_telltalelaw11_Own (p0 : (List GNode_)) (r : (List GNode_)) (h : m_telltalelaw11_Own p0 = some r) : GCall Try.prog 9 [(.l enc_GNode_ p0)] [] (.own 0) [(Ar 33 8 enc_GNode_ r)] := by
 refine GCall.of_body (n := 31) (rs := [(.tmp 2)]) Try.func9 rfl rfl rfl <| Ato ⟨.l enc_GNode_ p0::tu 30 [], [], 0⟩ ?_
 have hm := h
 unfold m_telltalelaw11_Own at hm
 refine Sx <| Wm (.d .nil) rfl <| Nk 1 0 ⟨.l enc_GNode_ p0::tp 30 [], [], 0⟩ <| Sx <| Wm (.d .nil) rfl <| Nk 9 0 ⟨.l enc_GNode_ p0::tp 2 (.d .nil::tp 27 []), [], 0⟩ <| Sq <| Sx <| Wm (.i 0) rfl <| Nk 25 0 ⟨.l enc_GNode_ p0::tp 2 (.d .nil::.i 0::tp 26 []), [], 0⟩ <| Bk <| Aow 3 33 8 ⟨.l enc_GNode_ p0::tp 2 (.own 0::.i 0::tp 26 []), [(Ar 33 8 enc_GNode_ ([] : List GNode_))], 0⟩ ?_
 refine AWP.loopI (α := Nat × (List GNode_) × Int)
   (fun (fu_0, y3_0, y4_0) => (⟨.l enc_GNode_ p0::tp 2 (.own 0::.i y4_0::tp 26 []), [(Ar 33 8 enc_GNode_ y3_0)], 0⟩ : St))
   (fun (fu_0, y3_0, y4_0) => m_telltalelaw11_Own_l0 p0 fu_0 y3_0 y4_0 = some r)
   (fun (fu_0, y3_0, y4_0) => fu_0) (1152921504606846976, ([] : List GNode_), 0)
   (Weak.toK 25 0 0 [0]) hm ?_
 rintro ⟨fu_0, y3_0, y4_0⟩ n_0 hm ih_0
 try dsimp only at hm ih_0 ⊢
 cases fu_0 with
 | zero => exact absurd hm (by unfold m_telltalelaw11_Own_l0; simp)
 | succ fu_0 =>
  unfold m_telltalelaw11_Own_l0 at hm
  refine Sq <| Sx <| Wm (.i y4_0) rfl <| Wm (.l enc_GNode_ p0) rfl <| Wz (.i ((List.length p0 : Nat) : Int)) (Oln rfl) <| Wz (.b (decide (y4_0 < ((List.length p0 : Nat) : Int)))) (Obn rfl (fun _ => hb_lss (k := .i64))) <| Nk 537 1 ⟨.l enc_GNode_ p0::tp 2 (.own 0::.i y4_0::tp 4 (.b (decide (y4_0 < ((List.length p0 : Nat) : Int)))::tp 21 [])), [(Ar 33 8 enc_GNode_ y3_0)], 0⟩ ?_
  rcases tf_ (decide (y4_0 < ((List.length p0 : Nat) : Int))) with hc9_4 | hc9_4
  ·
   replace hm := cT hc9_4 hm
   refine AiT hc9_4 <| Sk <| Tk 25 1 ⟨.l enc_GNode_ p0::tp 2 (.own 0::.i y4_0::tp 26 []), [(Ar 33 8 enc_GNode_ y3_0)], 0⟩ <| Sq <| Bk <| Sx <| Wm (.l enc_GNode_ p0) rfl <| Wm (.i y4_0) rfl ?_
   obtain ⟨x14_2, hx14_2, hm⟩ := bnd hm
   obtain ⟨hx14_2i, hx14_2g⟩ := geti_some hx14_2
   refine Wz (.d (.ref (List.drop ((Int.toNat y4_0) * 8) (flatD enc_GNode_ p0)))) (Oia rfl enc_GNode__len hx14_2i hx14_2g) <| Wz (.agg [(.y x14_2.Kind), (.y x14_2.Op), (.s x14_2.Var), (.s x14_2.Name), (.y x14_2.Val.Kind), (.i x14_2.Val.N), (.u x14_2.Val.Bits), (.s x14_2.Val.Text)]) (Lf rfl enc_GNode__len hx14_2g) <| Wy (.loc 1 0) [(1, (.box [(.y 0), (.y 0), (.s ([] : List UInt8)), (.s ([] : List UInt8)), (.y 0), (.i 0), (.u 0), (.s ([] : List UInt8))]))] (Oal rfl) <| Wy (.tup []) [(1, (.box [(.y x14_2.Kind), (.y x14_2.Op), (.s x14_2.Var), (.s x14_2.Name), (.y x14_2.Val.Kind), (.i x14_2.Val.N), (.u x14_2.Val.Bits), (.s x14_2.Val.Text)]))] (Ost rfl) <| Nk 57 3 ⟨.l enc_GNode_ p0::tp 2 (.own 0::.i y4_0::.loc 1 0::tp 25 []), [(Ar 33 8 enc_GNode_ y3_0), (.box [(.y x14_2.Kind), (.y x14_2.Op), (.s x14_2.Var), (.s x14_2.Name), (.y x14_2.Val.Kind), (.i x14_2.Val.N), (.u x14_2.Val.Bits), (.s x14_2.Val.Text)])], 0⟩ <| Tx <| Wm (.own 0) rfl <| Wz (.loc 1 0) (Ofa rfl) <| Wz (.y x14_2.Kind) (Old rfl) <| Wz (.loc 1 1) (Ofa rfl) <| Wz (.y x14_2.Op) (Old rfl) <| Wz (.loc 1 2) (Ofa rfl) <| Wz (.s x14_2.Var) (Old rfl) <| Wz (.loc 1 3) (Ofa rfl) ?_
   refine Wz (.s x14_2.Name) (Old rfl) <| Wz (.loc 1 4) (Ofa rfl) <| Wz (.agg [(.y x14_2.Val.Kind), (.i x14_2.Val.N), (.u x14_2.Val.Bits), (.s x14_2.Val.Text)]) (Old rfl) <| Wz (.agg [(.y x14_2.Kind), (.y x14_2.Op), (.s x14_2.Var), (.s x14_2.Name), (.y x14_2.Val.Kind), (.i x14_2.Val.N), (.u x14_2.Val.Bits), (.s x14_2.Val.Text)]) (Obd rfl) <| Wy (.own 2) [(2, (Ar 33 8 enc_GNode_ ([x14_2] : List GNode_)))] (Obs rfl) ?_
   obtain ⟨a29_3, ha29_3, hm⟩ := bnd hm; obtain ⟨ha29_3e, ha29_3l⟩ := app_some ha29_3
   refine Wy (.own 3) [(0, .gone), (3, (Ar 33 8 enc_GNode_ a29_3))] (Oap rfl elemOK_26 enc_GNode__len ha29_3e ha29_3l) <| Wm (.own 3) rfl <| Wn0 <| Ino <| Tk 25 8 ⟨.l enc_GNode_ p0::tp 2 (.own 3::.i y4_0::tp 26 []), [.gone, .gone, .gone, (Ar 33 8 enc_GNode_ a29_3)], 0⟩ <| Tx <| Wm (.i y4_0) rfl <| Wz (.i (W6 (y4_0 + 1))) (Obn rfl (fun _ => hb_add (k := .i64))) <| Wm (.i (W6 (y4_0 + 1))) rfl <| Wn0 <| RoundK.normal ?_
   exact Rounds.weak (Weak.toK 25 0 0 [3]) (ih_0 (fu_0, a29_3, (W6 (y4_0 + 1))) hm (Nat.lt_succ_self _))
  ·
   replace hm := cF hc9_4 hm
   refine AiF hc9_4 <| AWP.exit <| Then.exit <| RoundK.exit <| InBlock.same <| Tk 8 1 ⟨tp 3 (.own 0::tp 27 []), [(Ar 33 8 enc_GNode_ y3_0)], 0⟩ <| Sx <| Wm (.own 0) rfl <| Wm (.own 0) rfl <| Nn <| Rt ?_
   obtain rfl := Option.some.inj hm
   exact ret_i [0]

theorem ok_telltaleref11_Into (p0 : (List (List UInt8))) (p1 : (List UInt8)) (r : (List (List UInt8))) (h : m_telltaleref11_Into p0 p1 = some r) : GCall Try.prog 23 [(.l encS p0), (.s p1)] [] (.own 0) [(Ar 9 1 encS r)] := by
 refine GCall.of_body (n := 47) (rs := [(.tmp 4)]) Try.func23 rfl rfl rfl <| Ato ⟨.l encS p0::.s p1::tu 45 [], [], 0⟩ ?_
 have hm := h
 unfold m_telltaleref11_Into at hm
 refine Sx <| Wm (.d .nil) rfl <| Nk 3 0 ⟨.l encS p0::.s p1::tp 45 [], [], 0⟩ <| Sx <| Wm (.d .nil) rfl <| Nk 35 0 ⟨.l encS p0::.s p1::tp 3 (.d .nil::tp 41 []), [], 0⟩ <| Sx <| Wm (.i 0) rfl <| Nk 99 0 ⟨.l encS p0::.s p1::tp 3 (.d .nil::.i 0::tp 40 []), [], 0⟩ ?_
 refine AWP.cutJ (α := Int) (fun x => match x with | y6_2 => (⟨.l encS p0::.s p1::tp 3 (.d .nil::.i y6_2::tp 40 []), [], 0⟩ : St)) (fun x => match x with | y6_2 => m_telltaleref11_Into_j2 p0 p1 y6_2 = some r) ?_ (fun J2 => ?_)
 ·
  rintro y6_2 hm
  try dsimp only at hm ⊢
  unfold m_telltaleref11_Into_j2 at hm
  refine Sx <| Wm (.d .nil) rfl <| Wm (.l encS p0) rfl <| Wm (.i y6_2) rfl ?_
  obtain ⟨s24_3, hs24_3, hm⟩ := bnd hm; obtain ⟨hs24_3a, hs24_3b, hs24_3c, hs24_3d, hs24_3e⟩ := cut_some hs24_3
  refine Wz (.l encS s24_3) (op_cut rfl (e := 9) (sz := 1) (by kernel_rfl) (l := p0) (enc := encS) (by kernel_rfl) encS_len (a := (Int.toNat 0)) (b := (Int.toNat y6_2)) (by exact rfl) (⟨.i64, y6_2, by kernel_rfl, hs24_3b⟩) hs24_3c hs24_3d hs24_3e) ?_
  obtain ⟨a25_3, ha25_3, hm⟩ := bnd hm; obtain ⟨ha25_3e, ha25_3l⟩ := app_some ha25_3
  refine Wy (.own 0) [(0, (Ar 9 1 encS a25_3))] (Oan rfl elemOK_41 encS_len ha25_3e ha25_3l) <| Wm (.own 0) rfl <| Nk 99 1 ⟨.l encS p0::.s p1::tp 3 (.own 0::.i y6_2::tp 40 []), [(Ar 9 1 encS a25_3)], 0⟩ ?_
  refine AWP.cutJ (α := (List (List UInt8))) (fun x => match x with | y5_7 => (⟨.l encS p0::tp 4 (.own 0::.i y6_2::tp 40 []), [(Ar 9 1 encS y5_7)], 0⟩ : St)) (fun x => match x with | y5_7 => m_telltaleref11_Into_j7 p0 y6_2 y5_7 = some r) ?_ (fun J7 => ?_)
  ·
   rintro y5_7 hm
   try dsimp only at hm ⊢
   unfold m_telltaleref11_Into_j7 at hm
   refine Sx <| Wm (.own 0) rfl <| Wm (.l encS p0) rfl <| Wm (.i y6_2) rfl ?_
   obtain ⟨s45_8, hs45_8, hm⟩ := bnd hm; obtain ⟨hs45_8a, hs45_8b, hs45_8c, hs45_8d, hs45_8e⟩ := cut_some hs45_8
   refine Wz (.l encS s45_8) (op_cut rfl (e := 9) (sz := 1) (by kernel_rfl) (l := p0) (enc := encS) (by kernel_rfl) encS_len (a := (Int.toNat y6_2)) (b := (Int.toNat ((List.length p0 : Nat) : Int))) (⟨.i64, y6_2, by kernel_rfl, hs45_8a⟩) (by exact rfl) hs45_8c hs45_8d hs45_8e) ?_
   obtain ⟨a46_8, ha46_8, hm⟩ := bnd hm; obtain ⟨ha46_8e, ha46_8l⟩ := app_some ha46_8
   refine Wy (.own 1) [(0, .gone), (1, (Ar 9 1 encS a46_8))] (Oap rfl elemOK_41 encS_len ha46_8e ha46_8l) <| Wm (.own 1) rfl <| Nn <| Rt ?_
   obtain rfl := Option.some.inj hm
   exact ret_i [1]
  refine Sq <| Sx <| Wm (.i y6_2) rfl <| Wm (.l encS p0) rfl <| Wz (.i ((List.length p0 : Nat) : Int)) (Oln rfl) <| Wz (.b (decide (y6_2 = ((List.length p0 : Nat) : Int)))) (Obn rfl (fun _ => hb_eql (k := .i64))) ?_
  rcases tf_ (decide (y6_2 = ((List.length p0 : Nat) : Int))) with hq30_4 | hq30_4
  ·
   replace hm := cT hq30_4 hm
   refine Wz (.b true) (Oq hq30_4 rfl) <| Wn <| Wn <| Wn <| Wn <| Wn <| Wn <| Wz (.b true) (OpT rfl) <| Nk 137438953571 1 ⟨.l encS p0::.s p1::tp 3 (.own 0::.i y6_2::tp 30 (.b true::tp 9 [])), [(Ar 9 1 encS a25_3)], 0⟩ <| AWP.if_ true (by kernel_rfl) <| Tx <| Wm (.own 0) rfl <| Wm (.s p1) rfl <| Wy (.own 1) [(1, (Ar 9 1 encS ([p1] : List (List UInt8))))] (Obs rfl) ?_
   obtain ⟨a41_5, ha41_5, hm⟩ := bnd hm; obtain ⟨ha41_5e, ha41_5l⟩ := app_some ha41_5
   refine Wy (.own 2) [(0, .gone), (2, (Ar 9 1 encS a41_5))] (Oap rfl elemOK_41 encS_len ha41_5e ha41_5l) <| Wm (.own 2) rfl <| Nn ?_
   exact AWP.weak (Weak.toK 97 0 0 [2]) (J7 (a41_5) hm)
  ·
   replace hm := cF hq30_4 hm
   refine Wz (.b false) (Oq hq30_4 rfl) <| Wm (.l encS p0) rfl <| Wm (.i y6_2) rfl ?_
   obtain ⟨x33_4, hx33_4, hm⟩ := bnd hm
   obtain ⟨hx33_4i, hx33_4g⟩ := geti_some hx33_4
   refine Wz (.d (.ref (List.drop ((Int.toNat y6_2) * 1) (flatD encS p0)))) (Oia rfl encS_len hx33_4i hx33_4g) <| Wz (.s x33_4) (Lf1 rfl encS_len hx33_4g) <| Wm (.s p1) rfl <| Wz (.b (decide (x33_4 ≠ p1))) (Ocs (lit_tf (by simp only [toS_inj, ne_eq])) (op_bin rfl (a1 := .string (toS x33_4)) (a2 := .string (toS p1)) (by kernel_rfl) (by kernel_rfl) (fun _ => hb_sneq))) <| Wz (.b (decide (x33_4 ≠ p1))) (OpF rfl) <| Nk 137438953571 1 ⟨.l encS p0::.s p1::tp 3 (.own 0::.i y6_2::tp 30 (.b (decide (x33_4 ≠ p1))::tp 9 [])), [(Ar 9 1 encS a25_3)], 0⟩ ?_
   rcases tf_ (decide (x33_4 ≠ p1)) with hc37_9 | hc37_9
   ·
    replace hm := cT hc37_9 hm
    refine AiT hc37_9 <| Tx <| Wm (.own 0) rfl <| Wm (.s p1) rfl <| Wy (.own 1) [(1, (Ar 9 1 encS ([p1] : List (List UInt8))))] (Obs rfl) ?_
    obtain ⟨a41_6, ha41_6, hm⟩ := bnd hm; obtain ⟨ha41_6e, ha41_6l⟩ := app_some ha41_6
    refine Wy (.own 2) [(0, .gone), (2, (Ar 9 1 encS a41_6))] (Oap rfl elemOK_41 encS_len ha41_6e ha41_6l) <| Wm (.own 2) rfl <| Nn ?_
    exact AWP.weak (Weak.toK 97 0 0 [2]) (J7 (a41_6) hm)
   ·
    replace hm := cF hc37_9 hm
    refine AiF hc37_9 <| Sk <| Tn ?_
    exact AWP.weak (Weak.toK 97 0 0 [0]) (J7 (a25_3) hm)
 refine Sq <| Bk ?_
 refine AWP.loopI (α := Nat × Int)
   (fun (fu_0, y6_0) => (⟨.l encS p0::.s p1::tp 3 (.d .nil::.i y6_0::tp 40 []), [], 0⟩ : St))
   (fun (fu_0, y6_0) => m_telltaleref11_Into_l0 p0 p1 fu_0 y6_0 = some r)
   (fun (fu_0, y6_0) => fu_0) (1152921504606846976, 0)
   (Weak.toK 99 0 0 []) hm ?_
 rintro ⟨fu_0, y6_0⟩ n_0 hm ih_0
 try dsimp only at hm ih_0 ⊢
 cases fu_0 with
 | zero => exact absurd hm (by unfold m_telltaleref11_Into_l0; simp)
 | succ fu_0 =>
  unfold m_telltaleref11_Into_l0 at hm
  refine Sq <| Sx <| Wm (.i y6_0) rfl <| Wm (.l encS p0) rfl <| Wz (.i ((List.length p0 : Nat) : Int)) (Oln rfl) <| Wz (.b (decide (y6_0 < ((List.length p0 : Nat) : Int)))) (Obn rfl (fun _ => hb_lss (k := .i64))) ?_
  rcases tf_ (decide (y6_0 < ((List.length p0 : Nat) : Int))) with hq11_1 | hq11_1
  ·
   replace hm := cT hq11_1 hm
   refine Wz (.b true) (Oq hq11_1 rfl) <| Wm (.l encS p0) rfl <| Wm (.i y6_0) rfl ?_
   obtain ⟨x14_1, hx14_1, hm⟩ := bnd hm
   obtain ⟨hx14_1i, hx14_1g⟩ := geti_some hx14_1
   refine Wz (.d (.ref (List.drop ((Int.toNat y6_0) * 1) (flatD encS p0)))) (Oia rfl encS_len hx14_1i hx14_1g) <| Wz (.s x14_1) (Lf1 rfl encS_len hx14_1g) <| Wm (.s p1) rfl <| Wz (.b (ltS x14_1 p1)) (op_bin rfl (a1 := .string (toS x14_1)) (a2 := .string (toS p1)) (by kernel_rfl) (by kernel_rfl) (fun _ => hb_tlss)) <| Wz (.b (ltS x14_1 p1)) (OpT rfl) <| Nk 262243 0 ⟨.l encS p0::.s p1::tp 3 (.d .nil::.i y6_0::tp 11 (.b (ltS x14_1 p1)::tp 28 [])), [], 0⟩ ?_
   rcases tf_ (ltS x14_1 p1) with hc18_10 | hc18_10
   ·
    replace hm := cT hc18_10 hm
    refine AiT hc18_10 <| Sk <| Tk 99 0 ⟨.l encS p0::.s p1::tp 3 (.d .nil::.i y6_0::tp 40 []), [], 0⟩ <| Bk <| Tx <| Wm (.i y6_0) rfl <| Wz (.i (W6 (y6_0 + 1))) (Obn rfl (fun _ => hb_add (k := .i64))) <| Wm (.i (W6 (y6_0 + 1))) rfl <| Wn0 <| Ino <| RoundK.normal ?_
    exact Rounds.weak (Weak.toK 99 0 0 []) (ih_0 (fu_0, (W6 (y6_0 + 1))) hm (Nat.lt_succ_self _))
   ·
    replace hm := cF hc18_10 hm
    refine AiF hc18_10 <| AWP.exit <| Then.exit <| RoundK.exit <| InBlock.same <| Tn ?_
    exact AWP.weak (Weak.toK 99 0 0 []) (J2 (y6_0) hm)
  ·
   replace hm := cF hq11_1 hm
   refine Wz (.b false) (Oq hq11_1 rfl) <| Wn <| Wn <| Wn <| Wn <| Wn <| Wn <| Wz (.b false) (OpF rfl) <| Nk 262243 0 ⟨.l encS p0::.s p1::tp 3 (.d .nil::.i y6_0::tp 11 (.b false::tp 28 [])), [], 0⟩ <| AWP.if_ false (by kernel_rfl) <| AWP.exit <| Then.exit <| RoundK.exit <| InBlock.same ?_
   refine Tn ?_
   exact AWP.weak (Weak.toK 99 0 0 []) (J2 (y6_0) hm)

theorem ok_telltaleref11_SameTexts (p0 : (List (List UInt8))) (p1 : (List (List UInt8))) (r : Bool) (h : m_telltaleref11_SameTexts p0 p1 = some r) : GCall Try.prog 18 [(.l encS p0), (.l encS p1)] [] (.b r) [] := by
 refine GCall.of_body (n := 26) (rs := [(.tmp 4)]) Try.func18 rfl rfl rfl <| Ato ⟨.l encS p0::.l encS p1::tu 24 [], [], 0⟩ ?_
 have hm := h
 unfold m_telltaleref11_SameTexts at hm
 refine Sx <| Wm (.b false) rfl <| Nk 3 0 ⟨.l encS p0::.l encS p1::tp 24 [], [], 0⟩ <| Sq <| Sx <| Wm (.l encS p0) rfl <| Wz (.i ((List.length p0 : Nat) : Int)) (Oln rfl) <| Wm (.l encS p1) rfl <| Wz (.i ((List.length p1 : Nat) : Int)) (Oln rfl) <| Wz (.b (decide (((List.length p0 : Nat) : Int) ≠ ((List.length p1 : Nat) : Int)))) (Obn rfl (fun _ => hb_neq (k := .i64))) <| Nk 1027 0 ⟨.l encS p0::.l encS p1::tp 8 (.b (decide (((List.length p0 : Nat) : Int) ≠ ((List.length p1 : Nat) : Int)))::tp 15 []), [], 0⟩ ?_
 rcases tf_ (decide (((List.length p0 : Nat) : Int) ≠ ((List.length p1 : Nat) : Int))) with hc10_4 | hc10_4
 ·
  replace hm := cT hc10_4 hm
  refine AiT hc10_4 <| Sx <| Wm (.b false) rfl <| Nn <| Rt <| Tr ?_
  obtain rfl := Option.some.inj hm
  exact ret_i []
 ·
  replace hm := cF hc10_4 hm
  refine AiF hc10_4 <| Sk <| Tk 3 0 ⟨.l encS p0::.l encS p1::tp 24 [], [], 0⟩ <| Sq <| Sx <| Wm (.i 0) rfl <| Nk 35 0 ⟨.l encS p0::.l encS p1::tp 3 (.i 0::tp 20 []), [], 0⟩ <| Bk ?_
  refine AWP.loopI (α := Nat × Int)
    (fun (fu_1, y5_1) => (⟨.l encS p0::.l encS p1::tp 3 (.i y5_1::tp 20 []), [], 0⟩ : St))
    (fun (fu_1, y5_1) => m_telltaleref11_SameTexts_l1 p0 p1 fu_1 y5_1 = some r)
    (fun (fu_1, y5_1) => fu_1) (1152921504606846976, 0)
    (Weak.toK 35 0 0 []) hm ?_
  rintro ⟨fu_1, y5_1⟩ n_1 hm ih_1
  try dsimp only at hm ih_1 ⊢
  cases fu_1 with
  | zero => exact absurd hm (by unfold m_telltaleref11_SameTexts_l1; simp)
  | succ fu_1 =>
   unfold m_telltaleref11_SameTexts_l1 at hm
   refine Sq <| Sx <| Wm (.i y5_1) rfl <| Wm (.l encS p0) rfl <| Wz (.i ((List.length p0 : Nat) : Int)) (Oln rfl) <| Wz (.b (decide (y5_1 < ((List.length p0 : Nat) : Int)))) (Obn rfl (fun _ => hb_lss (k := .i64))) <| Nk 16419 0 ⟨.l encS p0::.l encS p1::tp 3 (.i y5_1::tp 8 (.b (decide (y5_1 < ((List.length p0 : Nat) : Int)))::tp 11 [])), [], 0⟩ ?_
   rcases tf_ (decide (y5_1 < ((List.length p0 : Nat) : Int))) with hc14_5 | hc14_5
   ·
    replace hm := cT hc14_5 hm
    refine AiT hc14_5 <| Sk <| Tk 35 0 ⟨.l encS p0::.l encS p1::tp 3 (.i y5_1::tp 20 []), [], 0⟩ <| Sq <| Bk <| Sq <| Adr <| Wm (.l encS p0) rfl <| Wm (.i y5_1) rfl ?_
    obtain ⟨x19_3, hx19_3, hm⟩ := bnd hm
    obtain ⟨hx19_3i, hx19_3g⟩ := geti_some hx19_3
    refine Wz (.d (.ref (List.drop ((Int.toNat y5_1) * 1) (flatD encS p0)))) (Oia rfl encS_len hx19_3i hx19_3g) <| Wz (.s x19_3) (Lf1 rfl encS_len hx19_3g) <| Wm (.l encS p1) rfl <| Wm (.i y5_1) rfl ?_
    obtain ⟨x23_3, hx23_3, hm⟩ := bnd hm
    obtain ⟨hx23_3i, hx23_3g⟩ := geti_some hx23_3
    refine Wz (.d (.ref (List.drop ((Int.toNat y5_1) * 1) (flatD encS p1)))) (Oia rfl encS_len hx23_3i hx23_3g) <| Wz (.s x23_3) (Lf1 rfl encS_len hx23_3g) <| Wz (.b (decide (x19_3 ≠ x23_3))) (Ocs (lit_tf (by simp only [toS_inj, ne_eq])) (op_bin rfl (a1 := .string (toS x19_3)) (a2 := .string (toS x23_3)) (by kernel_rfl) (by kernel_rfl) (fun _ => hb_sneq))) <| Wdr <| Tk 33554467 0 ⟨.l encS p0::.l encS p1::tp 3 (.i y5_1::tp 19 (.b (decide (x19_3 ≠ x23_3))::[])), [], 0⟩ ?_
    rcases tf_ (decide (x19_3 ≠ x23_3)) with hc25_6 | hc25_6
    ·
     replace hm := cT hc25_6 hm
     refine AiT hc25_6 <| Sx <| Wm (.b false) rfl <| Nn <| Rt <| Ir <| Tr <| RoundK.ret <| Ir <| Tr ?_
     obtain rfl := Option.some.inj hm
     exact ret_i []
    ·
     replace hm := cF hc25_6 hm
     refine AiF hc25_6 <| Sk <| Ino <| Tk 35 0 ⟨.l encS p0::.l encS p1::tp 3 (.i y5_1::tp 20 []), [], 0⟩ <| Tx <| Wm (.i y5_1) rfl <| Wz (.i (W6 (y5_1 + 1))) (Obn rfl (fun _ => hb_add (k := .i64))) <| Wm (.i (W6 (y5_1 + 1))) rfl <| Wn0 <| RoundK.normal ?_
     exact Rounds.weak (Weak.toK 35 0 0 []) (ih_1 (fu_1, (W6 (y5_1 + 1))) hm (Nat.lt_succ_self _))
   ·
    replace hm := cF hc14_5 hm
    refine AiF hc14_5 <| AWP.exit <| Then.exit <| RoundK.exit <| InBlock.same <| Tk 0 0 ⟨tp 26 [], [], 0⟩ <| Sx <| Wm (.b true) rfl <| Nn <| Rt ?_
    obtain rfl := Option.some.inj hm
    exact ret_i []

theorem ok_telltalelaw11_PredVars (p0 : (List GNode_)) (p1 : (List GNode_)) (r : Bool) (h : m_telltalelaw11_PredVars p0 p1 = some r) : GCall Try.prog 6 [(.l enc_GNode_ p0), (.l enc_GNode_ p1)] [] (.b r) [] := by
 refine GCall.of_body (n := 93) (rs := [(.tmp 4)]) Try.func6 rfl rfl rfl <| Ato ⟨.l enc_GNode_ p0::.l enc_GNode_ p1::tu 91 [], [], 0⟩ ?_
 have hm := h
 unfold m_telltalelaw11_PredVars at hm
 refine Sx <| Wm (.b false) rfl <| Nk 3 0 ⟨.l enc_GNode_ p0::.l enc_GNode_ p1::tp 91 [], [], 0⟩ <| Sq ?_
 refine AWP.cutJ (α := Unit) (fun x => match x with | () => (⟨.l enc_GNode_ p0::.l enc_GNode_ p1::tp 29 (.b true::tp 61 []), [], 0⟩ : St)) (fun x => match x with | () => m_telltalelaw11_PredVars_j1  = some r) ?_ (fun J1 => ?_)
 ·
  rintro ⟨⟩ hm
  try dsimp only at hm ⊢
  unfold m_telltalelaw11_PredVars_j1 at hm
  refine AWP.if_ true (by kernel_rfl) <| Sx ?_
  obtain ⟨r32_2, hr32_2, hm⟩ := bnd hm
  refine Wz (.b r32_2) (Ocf [] [] [] 0 (ok_telltalelaw11_awake  r32_2 hr32_2) (fun a w => Try.call8 a w) rfl trivial) <| Wm (.b r32_2) rfl <| Nn <| Rt <| Tr ?_
  obtain rfl := Option.some.inj hm
  exact ret_i []
 refine Sx <| Wm (.l enc_GNode_ p0) rfl ?_
 obtain ⟨r15_0, hr15_0, hm⟩ := bnd hm
 refine Wz (.i r15_0) (Ocf [] [] [] 0 (ok_telltalelaw11_Over p0 r15_0 hr15_0) (fun a w => Try.call7 a w) rfl trivial) <| Wz (.b (decide ((0 : Int) < r15_0))) (Obn rfl (fun _ => hb_gtr (k := .i64))) ?_
 rcases tf_ (decide ((0 : Int) < r15_0)) with hq17_0 | hq17_0
 ·
  replace hm := cT hq17_0 hm
  refine Wz (.b true) (Oq hq17_0 rfl) <| Wn <| Wn <| Wn <| Wz (.b true) (OpT rfl) <| Wm (.b true) rfl <| Wn <| Wn <| Wn <| Wz (.b true) (OpT rfl) <| Wm (.b true) rfl <| Wn <| Wn <| Wn ?_
  refine Wz (.b true) (OpT rfl) <| Nn ?_
  exact AWP.weak (Weak.toK 2147483651 0 0 []) (J1 () hm)
 ·
  replace hm := cF hq17_0 hm
  refine Wz (.b false) (Oq hq17_0 rfl) <| Wm (.l enc_GNode_ p1) rfl ?_
  obtain ⟨r19_0, hr19_0, hm⟩ := bnd hm
  refine Wz (.i r19_0) (Ocf [] [] [] 0 (ok_telltalelaw11_Over p1 r19_0 hr19_0) (fun a w => Try.call7 a w) rfl trivial) <| Wz (.b (decide ((0 : Int) < r19_0))) (Obn rfl (fun _ => hb_gtr (k := .i64))) <| Wz (.b (decide ((0 : Int) < r19_0))) (OpF rfl) ?_
  rcases tf_ (decide ((0 : Int) < r19_0)) with hq22_0 | hq22_0
  ·
   replace hm := cT hq22_0 hm
   refine Wz (.b true) (Oq hq22_0 rfl) <| Wn <| Wn <| Wn <| Wz (.b true) (OpT rfl) <| Wm (.b true) rfl <| Wn <| Wn <| Wn <| Wz (.b true) (OpT rfl) <| Nn ?_
   exact AWP.weak (Weak.toK 2147483651 0 0 []) (J1 () hm)
  ·
   replace hm := cF hq22_0 hm
   refine Wz (.b false) (Oq hq22_0 rfl) <| Wm (.l enc_GNode_ p0) rfl <| Wz (.i ((List.length p0 : Nat) : Int)) (Oln rfl) <| Wz (.b (decide ((14 : Int) < ((List.length p0 : Nat) : Int)))) (Obn rfl (fun _ => hb_gtr (k := .i64))) <| Wz (.b (decide ((14 : Int) < ((List.length p0 : Nat) : Int)))) (OpF rfl) ?_
   rcases tf_ (decide ((14 : Int) < ((List.length p0 : Nat) : Int))) with hq27_0 | hq27_0
   ·
    replace hm := cT hq27_0 hm
    refine Wz (.b true) (Oq hq27_0 rfl) <| Wn <| Wn <| Wn <| Wz (.b true) (OpT rfl) <| Nn ?_
    exact AWP.weak (Weak.toK 2147483651 0 0 []) (J1 () hm)
   ·
    replace hm := cF hq27_0 hm
    refine Wz (.b false) (Oq hq27_0 rfl) <| Wm (.l enc_GNode_ p1) rfl <| Wz (.i ((List.length p1 : Nat) : Int)) (Oln rfl) <| Wz (.b (decide ((14 : Int) < ((List.length p1 : Nat) : Int)))) (Obn rfl (fun _ => hb_gtr (k := .i64))) <| Wz (.b (decide ((14 : Int) < ((List.length p1 : Nat) : Int)))) (OpF rfl) <| Nk 2147483651 0 ⟨.l enc_GNode_ p0::.l enc_GNode_ p1::tp 29 (.b (decide ((14 : Int) < ((List.length p1 : Nat) : Int)))::tp 61 []), [], 0⟩ ?_
    rcases tf_ (decide ((14 : Int) < ((List.length p1 : Nat) : Int))) with hc31_16 | hc31_16
    ·
     replace hm := cT hc31_16 hm
     refine AiT hc31_16 <| Sx ?_
     obtain ⟨r32_3, hr32_3, hm⟩ := bnd hm
     refine Wz (.b r32_3) (Ocf [] [] [] 0 (ok_telltalelaw11_awake  r32_3 hr32_3) (fun a w => Try.call8 a w) rfl trivial) <| Wm (.b r32_3) rfl <| Nn <| Rt <| Tr ?_
     obtain rfl := Option.some.inj hm
     exact ret_i []
    ·
     replace hm := cF hc31_16 hm
     refine AiF hc31_16 <| Sk <| Tk 3 0 ⟨.l enc_GNode_ p0::.l enc_GNode_ p1::tp 91 [], [], 0⟩ <| Sx <| Wm (.l enc_GNode_ p0) rfl ?_
     obtain ⟨r34_4, hr34_4, hm⟩ := bnd hm
     refine Wy (.own 0) [(0, (Ar 33 8 enc_GNode_ r34_4))] (Ocf [] [0] [] 0 (ok_telltalelaw11_Own p0 r34_4 hr34_4) (fun a w => Try.call9 a w) rfl trivial) <| Wm (.l enc_GNode_ p1) rfl ?_
     obtain ⟨r36_4, hr36_4, hm⟩ := bnd hm
     refine Wy (.own 1) [(1, (Ar 33 8 enc_GNode_ r36_4))] (Ocf [] [1] [] 0 (ok_telltalelaw11_Own p1 r36_4 hr36_4) (fun a w => Try.call9 a w) rfl trivial) <| Wm (.own 0) rfl <| Wm (.own 1) rfl <| Nk 96 3 ⟨tp 5 (.own 0::.own 1::tp 86 []), [(Ar 33 8 enc_GNode_ r34_4), (Ar 33 8 enc_GNode_ r36_4)], 0⟩ <| Sx <| Wm (.own 0) rfl ?_
     obtain ⟨r38_5, hr38_5, hm⟩ := bnd hm
     refine Wy (.l encS r38_5) [(0, (.fro 33 8 (List.length r34_4) (flatD enc_GNode_ r34_4)))] (Ocf [] [] [0] 0 (ok_pred_Vars r34_4 r38_5 hr38_5) (fun a w => Try.call19 a w) rfl trivial) <| Wm (.own 1) rfl ?_
     obtain ⟨r40_5, hr40_5, hm⟩ := bnd hm
     refine Wy (.l encS r40_5) [(1, (.fro 33 8 (List.length r36_4) (flatD enc_GNode_ r36_4)))] (Ocf [] [] [1] 0 (ok_pred_Vars r36_4 r40_5 hr40_5) (fun a w => Try.call19 a w) rfl trivial) <| Wm (.l encS r38_5) rfl <| Wm (.l encS r40_5) rfl <| Nk 480 3 ⟨tp 5 (.own 0::.own 1::.l encS r38_5::.l encS r40_5::tp 84 []), [(.fro 33 8 (List.length r34_4) (flatD enc_GNode_ r34_4)), (.fro 33 8 (List.length r36_4) (flatD enc_GNode_ r36_4))], 0⟩ <| Sx <| Wz (.agg [(.y 2), (.y 0), (.s ([] : List UInt8)), (.s ([] : List UInt8)), (.y 0), (.i 0), (.u 0), (.s ([] : List UInt8))]) (Obd rfl) <| Wy (.own 2) [(2, (Ar 33 8 enc_GNode_ ([(GNode_.mk 2 0 ([] : List UInt8) ([] : List UInt8) (GValue.mk 0 0 0 ([] : List UInt8)))] : List GNode_)))] (Obs rfl) <| Wm (.own 0) rfl ?_
     obtain ⟨a44_6, ha44_6, hm⟩ := bnd hm; obtain ⟨ha44_6e, ha44_6l⟩ := app_some ha44_6
     refine Wy (.own 3) [(2, .gone), (3, (Ar 33 8 enc_GNode_ a44_6))] (Oap rfl elemOK_26 enc_GNode__len ha44_6e ha44_6l) <| Wm (.own 1) rfl ?_
     obtain ⟨a46_6, ha46_6, hm⟩ := bnd hm; obtain ⟨ha46_6e, ha46_6l⟩ := app_some ha46_6
     refine Wy (.own 4) [(3, .gone), (4, (Ar 33 8 enc_GNode_ a46_6))] (Oap rfl elemOK_26 enc_GNode__len ha46_6e ha46_6l) ?_
     obtain ⟨r47_6, hr47_6, hm⟩ := bnd hm
     refine Wy (.l encS r47_6) [(4, (.fro 33 8 (List.length a46_6) (flatD enc_GNode_ a46_6)))] (Ocf [] [] [4] 0 (ok_pred_Vars a46_6 r47_6 hr47_6) (fun a w => Try.call19 a w) rfl trivial) <| Wm (.l encS r47_6) rfl <| Nk 928 1 ⟨tp 5 (.own 0::tp 1 (.l encS r38_5::.l encS r40_5::.l encS r47_6::tp 83 [])), [(.fro 33 8 (List.length r34_4) (flatD enc_GNode_ r34_4)), .gone, .gone, .gone, .gone], 0⟩ <| Sx <| Wz (.agg [(.y 3), (.y 0), (.s ([] : List UInt8)), (.s ([] : List UInt8)), (.y 0), (.i 0), (.u 0), (.s ([] : List UInt8))]) (Obd rfl) <| Wy (.own 5) [(5, (Ar 33 8 enc_GNode_ ([(GNode_.mk 3 0 ([] : List UInt8) ([] : List UInt8) (GValue.mk 0 0 0 ([] : List UInt8)))] : List GNode_)))] (Obs rfl) <| Wm (.own 0) rfl ?_
     obtain ⟨a51_7, ha51_7, hm⟩ := bnd hm; obtain ⟨ha51_7e, ha51_7l⟩ := app_some ha51_7
     refine Wy (.own 6) [(5, .gone), (6, (Ar 33 8 enc_GNode_ a51_7))] (Oap rfl elemOK_26 enc_GNode__len ha51_7e ha51_7l) ?_
     obtain ⟨r52_7, hr52_7, hm⟩ := bnd hm
     refine Wy (.l encS r52_7) [(6, (.fro 33 8 (List.length a51_7) (flatD enc_GNode_ a51_7)))] (Ocf [] [] [6] 0 (ok_pred_Vars a51_7 r52_7 hr52_7) (fun a w => Try.call19 a w) rfl trivial) <| Wm (.l encS r52_7) rfl <| Nk 1920 0 ⟨tp 7 (.l encS r38_5::.l encS r40_5::.l encS r47_6::.l encS r52_7::tp 82 []), [.gone, .gone, .gone, .gone, .gone, .gone, .gone], 0⟩ <| Sx <| Wm (.d .nil) rfl <| Nk 3968 0 ⟨tp 7 (.l encS r38_5::.l encS r40_5::.l encS r47_6::.l encS r52_7::.d .nil::tp 81 []), [.gone, .gone, .gone, .gone, .gone, .gone, .gone], 0⟩ <| Sq <| Sx <| Wm (.i 0) rfl <| Nk 8064 0 ⟨tp 7 (.l encS r38_5::.l encS r40_5::.l encS r47_6::.l encS r52_7::.d .nil::.i 0::tp 80 []), [.gone, .gone, .gone, .gone, .gone, .gone, .gone], 0⟩ <| Bk <| Aow 11 9 1 ⟨tp 7 (.l encS r38_5::.l encS r40_5::.l encS r47_6::.l encS r52_7::.own 7::.i 0::tp 80 []), [.gone, .gone, .gone, .gone, .gone, .gone, .gone, (Ar 9 1 encS ([] : List (List UInt8)))], 0⟩ ?_
     refine AWP.loopI (α := Nat × (List (List UInt8)) × Int)
       (fun (fu_8, y11_8, y12_8) => (⟨tp 7 (.l encS r38_5::.l encS r40_5::.l encS r47_6::.l encS r52_7::.own 0::.i y12_8::tp 80 []), [(Ar 9 1 encS y11_8)], 0⟩ : St))
       (fun (fu_8, y11_8, y12_8) => m_telltalelaw11_PredVars_l8 r38_5 r40_5 r47_6 r52_7 fu_8 y11_8 y12_8 = some r)
       (fun (fu_8, y11_8, y12_8) => fu_8) (1152921504606846976, ([] : List (List UInt8)), 0)
       (Weak.toK 8064 0 0 [7]) hm ?_
     rintro ⟨fu_8, y11_8, y12_8⟩ n_8 hm ih_8
     try dsimp only at hm ih_8 ⊢
     cases fu_8 with
     | zero => exact absurd hm (by unfold m_telltalelaw11_PredVars_l8; simp)
     | succ fu_8 =>
      unfold m_telltalelaw11_PredVars_l8 at hm
      refine Sq <| Sx <| Wm (.i y12_8) rfl <| Wm (.l encS r38_5) rfl <| Wz (.i ((List.length r38_5 : Nat) : Int)) (Oln rfl) <| Wz (.b (decide (y12_8 < ((List.length r38_5 : Nat) : Int)))) (Obn rfl (fun _ => hb_lss (k := .i64))) <| Nk 72057594037936000 1 ⟨tp 7 (.l encS r38_5::.l encS r40_5::.l encS r47_6::.l encS r52_7::.own 0::.i y12_8::tp 43 (.b (decide (y12_8 < ((List.length r38_5 : Nat) : Int)))::tp 36 [])), [(Ar 9 1 encS y11_8)], 0⟩ ?_
      rcases tf_ (decide (y12_8 < ((List.length r38_5 : Nat) : Int))) with hc56_17 | hc56_17
      ·
       replace hm := cT hc56_17 hm
       refine AiT hc56_17 <| Sk <| Tk 8064 1 ⟨tp 7 (.l encS r38_5::.l encS r40_5::.l encS r47_6::.l encS r52_7::.own 0::.i y12_8::tp 80 []), [(Ar 9 1 encS y11_8)], 0⟩ <| Sq <| Bk <| Tx <| Wm (.own 0) rfl <| Wm (.l encS r38_5) rfl <| Wm (.i y12_8) rfl ?_
       obtain ⟨x62_10, hx62_10, hm⟩ := bnd hm
       obtain ⟨hx62_10i, hx62_10g⟩ := geti_some hx62_10
       refine Wz (.d (.ref (List.drop ((Int.toNat y12_8) * 1) (flatD encS r38_5)))) (Oia rfl encS_len hx62_10i hx62_10g) <| Wz (.s x62_10) (Lf1 rfl encS_len hx62_10g) ?_
       obtain ⟨r64_10, hr64_10, hm⟩ := bnd hm
       refine Wy (.own 1) [(1, (Ar 9 1 encS r64_10))] (Ocp [] [1] [0] 0 (ok_telltaleref11_Into y11_8 x62_10 r64_10 hr64_10) (⟨by simp [A.Plain, A.Plains, D.Plain, byteD], plain_cons (flat_plain encS_plain) (plain_nil)⟩) (fun a w => Try.call23 a w) rfl trivial) <| Wm (.own 1) rfl <| Wn0 <| Ino <| Tk 8064 2 ⟨tp 7 (.l encS r38_5::.l encS r40_5::.l encS r47_6::.l encS r52_7::.own 1::.i y12_8::tp 80 []), [.gone, (Ar 9 1 encS r64_10)], 0⟩ <| Tx <| Wm (.i y12_8) rfl <| Wz (.i (W6 (y12_8 + 1))) (Obn rfl (fun _ => hb_add (k := .i64))) <| Wm (.i (W6 (y12_8 + 1))) rfl <| Wn0 <| RoundK.normal ?_
       exact Rounds.weak (Weak.toK 8064 0 0 [1]) (ih_8 (fu_8, r64_10, (W6 (y12_8 + 1))) hm (Nat.lt_succ_self _))
      ·
       replace hm := cF hc56_17 hm
       refine AiF hc56_17 <| AWP.exit <| Then.exit <| RoundK.exit <| InBlock.same <| Tk 3968 1 ⟨tp 7 (.l encS r38_5::.l encS r40_5::.l encS r47_6::.l encS r52_7::.own 0::tp 81 []), [(Ar 9 1 encS y11_8)], 0⟩ <| Sq <| Sx <| Wm (.own 0) rfl <| Wm (.l encS r38_5) rfl ?_
       obtain ⟨r67_11, hr67_11, hm⟩ := bnd hm
       refine Wz (.b r67_11) (Ocp [] [] [0] 0 (ok_telltaleref11_SameTexts y11_8 r38_5 r67_11 hr67_11) (plain_triv (by simp [A.Plain, A.Plains, D.Plain, byteD])) (fun a w => Try.call18 a w) rfl trivial) <| Wz (.b (!r67_11)) (Ocs (by kernel_rfl) (op_un rfl (a1 := .bool r67_11) (by kernel_rfl) (fun _ => hu_not))) ?_
       rcases tf_ (!r67_11) with hq69_11 | hq69_11
       ·
        replace hm := cT hq69_11 hm
        refine Wz (.b true) (Oq hq69_11 rfl) <| Wn <| Wn <| Wn <| Wn <| Wz (.b true) (OpT rfl) <| Nk 18889465931478580857600 1 ⟨tp 8 (.l encS r40_5::.l encS r47_6::tp 1 (.own 0::tp 62 (.b true::tp 18 []))), [(Ar 9 1 encS y11_8)], 0⟩ <| AWP.if_ true (by kernel_rfl) <| Sx <| Wm (.b false) rfl <| Nn <| Rt <| Tr ?_
        obtain rfl := Option.some.inj hm
        exact ret_i []
       ·
        replace hm := cF hq69_11 hm
        refine Wz (.b false) (Oq hq69_11 rfl) <| Wm (.l encS r52_7) rfl <| Wm (.l encS r38_5) rfl ?_
        obtain ⟨r72_11, hr72_11, hm⟩ := bnd hm
        refine Wz (.b r72_11) (Ocf [] [] [] 0 (ok_telltaleref11_SameTexts r52_7 r38_5 r72_11 hr72_11) (fun a w => Try.call18 a w) rfl trivial) <| Wz (.b (!r72_11)) (Ocs (by kernel_rfl) (op_un rfl (a1 := .bool r72_11) (by kernel_rfl) (fun _ => hu_not))) <| Wz (.b (!r72_11)) (OpF rfl) <| Nk 18889465931478580857600 1 ⟨tp 8 (.l encS r40_5::.l encS r47_6::tp 1 (.own 0::tp 62 (.b (!r72_11)::tp 18 []))), [(Ar 9 1 encS y11_8)], 0⟩ ?_
        rcases tf_ (!r72_11) with hc74_18 | hc74_18
        ·
         replace hm := cT hc74_18 hm
         refine AiT hc74_18 <| Sx <| Wm (.b false) rfl <| Nn <| Rt <| Tr ?_
         obtain rfl := Option.some.inj hm
         exact ret_i []
        ·
         replace hm := cF hc74_18 hm
         refine AiF hc74_18 <| Sk <| Tk 2816 1 ⟨tp 8 (.l encS r40_5::.l encS r47_6::tp 1 (.own 0::tp 81 [])), [(Ar 9 1 encS y11_8)], 0⟩ <| Sq <| Sx <| Wm (.i 0) rfl <| Nk 11008 1 ⟨tp 8 (.l encS r40_5::.l encS r47_6::tp 1 (.own 0::tp 1 (.i 0::tp 79 []))), [(Ar 9 1 encS y11_8)], 0⟩ <| Bk ?_
         refine AWP.loopI (α := Nat × (List (List UInt8)) × Int)
           (fun (fu_12, y11_12, y13_12) => (⟨tp 8 (.l encS r40_5::.l encS r47_6::tp 1 (.own 0::tp 1 (.i y13_12::tp 79 []))), [(Ar 9 1 encS y11_12)], 0⟩ : St))
           (fun (fu_12, y11_12, y13_12) => m_telltalelaw11_PredVars_l12 r40_5 r47_6 fu_12 y11_12 y13_12 = some r)
           (fun (fu_12, y11_12, y13_12) => fu_12) (1152921504606846976, y11_8, 0)
           (Weak.toK 11008 0 0 [0]) hm ?_
         rintro ⟨fu_12, y11_12, y13_12⟩ n_12 hm ih_12
         try dsimp only at hm ih_12 ⊢
         cases fu_12 with
         | zero => exact absurd hm (by unfold m_telltalelaw11_PredVars_l12; simp)
         | succ fu_12 =>
          unfold m_telltalelaw11_PredVars_l12 at hm
          refine Sq <| Sx <| Wm (.i y13_12) rfl <| Wm (.l encS r40_5) rfl <| Wz (.i ((List.length r40_5 : Nat) : Int)) (Oln rfl) <| Wz (.b (decide (y13_12 < ((List.length r40_5 : Nat) : Int)))) (Obn rfl (fun _ => hb_lss (k := .i64))) <| Nk 302231454903657293687552 1 ⟨tp 8 (.l encS r40_5::.l encS r47_6::tp 1 (.own 0::tp 1 (.i y13_12::tp 64 (.b (decide (y13_12 < ((List.length r40_5 : Nat) : Int)))::tp 14 [])))), [(Ar 9 1 encS y11_12)], 0⟩ ?_
          rcases tf_ (decide (y13_12 < ((List.length r40_5 : Nat) : Int))) with hc78_19 | hc78_19
          ·
           replace hm := cT hc78_19 hm
           refine AiT hc78_19 <| Sk <| Tk 11008 1 ⟨tp 8 (.l encS r40_5::.l encS r47_6::tp 1 (.own 0::tp 1 (.i y13_12::tp 79 []))), [(Ar 9 1 encS y11_12)], 0⟩ <| Sq <| Bk <| Tx <| Wm (.own 0) rfl <| Wm (.l encS r40_5) rfl <| Wm (.i y13_12) rfl ?_
           obtain ⟨x84_14, hx84_14, hm⟩ := bnd hm
           obtain ⟨hx84_14i, hx84_14g⟩ := geti_some hx84_14
           refine Wz (.d (.ref (List.drop ((Int.toNat y13_12) * 1) (flatD encS r40_5)))) (Oia rfl encS_len hx84_14i hx84_14g) <| Wz (.s x84_14) (Lf1 rfl encS_len hx84_14g) ?_
           obtain ⟨r86_14, hr86_14, hm⟩ := bnd hm
           refine Wy (.own 1) [(1, (Ar 9 1 encS r86_14))] (Ocp [] [1] [0] 0 (ok_telltaleref11_Into y11_12 x84_14 r86_14 hr86_14) (⟨by simp [A.Plain, A.Plains, D.Plain, byteD], plain_cons (flat_plain encS_plain) (plain_nil)⟩) (fun a w => Try.call23 a w) rfl trivial) <| Wm (.own 1) rfl <| Wn0 <| Ino <| Tk 11008 2 ⟨tp 8 (.l encS r40_5::.l encS r47_6::tp 1 (.own 1::tp 1 (.i y13_12::tp 79 []))), [.gone, (Ar 9 1 encS r86_14)], 0⟩ <| Tx <| Wm (.i y13_12) rfl <| Wz (.i (W6 (y13_12 + 1))) (Obn rfl (fun _ => hb_add (k := .i64))) <| Wm (.i (W6 (y13_12 + 1))) rfl <| Wn0 <| RoundK.normal ?_
           exact Rounds.weak (Weak.toK 11008 0 0 [1]) (ih_12 (fu_12, r86_14, (W6 (y13_12 + 1))) hm (Nat.lt_succ_self _))
          ·
           replace hm := cF hc78_19 hm
           refine AiF hc78_19 <| AWP.exit <| Then.exit <| RoundK.exit <| InBlock.same <| Tk 2560 1 ⟨tp 9 (.l encS r47_6::tp 1 (.own 0::tp 81 [])), [(Ar 9 1 encS y11_12)], 0⟩ <| Sx <| Wm (.l encS r47_6) rfl <| Wm (.own 0) rfl ?_
           obtain ⟨r89_15, hr89_15, hm⟩ := bnd hm
           refine Wz (.b r89_15) (Ocp [] [] [0] 0 (ok_telltaleref11_SameTexts r47_6 y11_12 r89_15 hr89_15) (plain_triv (by simp [A.Plain, A.Plains, D.Plain, byteD])) (fun a w => Try.call18 a w) rfl trivial) ?_
           rcases tf_ r89_15 with hq90_15 | hq90_15
           ·
            replace hm := cT hq90_15 hm
            refine Wz (.b true) (Oq hq90_15 rfl) ?_
            obtain ⟨r91_15, hr91_15, hm⟩ := bnd hm
            refine Wz (.b r91_15) (Ocf [] [] [] 0 (ok_telltalelaw11_awake  r91_15 hr91_15) (fun a w => Try.call8 a w) rfl trivial) <| Wz (.b r91_15) (OpT rfl) <| Wm (.b r91_15) rfl <| Nn <| Rt ?_
            obtain rfl := Option.some.inj hm
            exact ret_i []
           ·
            replace hm := cF hq90_15 hm
            refine Wz (.b false) (Oq hq90_15 rfl) <| Wn <| Wz (.b false) (OpF rfl) <| Wm (.b false) rfl <| Nn <| Rt ?_
            obtain rfl := Option.some.inj hm
            exact ret_i []
end Go.Proofs.Ytkajfanpdabjcaa.K
