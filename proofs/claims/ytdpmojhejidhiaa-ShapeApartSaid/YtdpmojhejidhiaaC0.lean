/- what telltalelaw13.ShapeApart needs (0) -/
import Derived.Test.YtdpmojhejidhiaaLM
namespace Go.Proofs.Ytdpmojhejidhiaa.K
open Go.RowKit Go.Lib
set_option linter.unusedVariables false
set_option linter.unusedSimpArgs false
set_option maxRecDepth 20000
set_option maxHeartbeats 4000000

theorem ok_telltalelaw04_Small (p0 : GValue) (r : Int) (h : m_telltalelaw04_Small p0 = some r) : GCall Try.prog 39 [(.agg [(.y p0.Kind), (.i p0.N), (.u p0.Bits), (.s p0.Text)])] [] (.i r) [] := by
 refine GCall.of_body (n := 8) (rs := [(.tmp 2)]) Try.func39 rfl rfl rfl <| Ato ⟨.agg [(.y p0.Kind), (.i p0.N), (.u p0.Bits), (.s p0.Text)]::tu 7 [], [], 0⟩ ?_
 have hm := h
 unfold m_telltalelaw04_Small at hm
 refine Sx <| Wy (.loc 0 0) [(0, (.box [(.y p0.Kind), (.i p0.N), (.u p0.Bits), (.s p0.Text)]))] (Obx rfl) <| Wm (.i 0) rfl <| Nk 2 1 ⟨tp 1 (.loc 0 0::tp 6 []), [(.box [(.y p0.Kind), (.i p0.N), (.u p0.Bits), (.s p0.Text)])], 0⟩ <| Sx <| Wz (.loc 0 3) (Ofa rfl) <| Wz (.s p0.Text) (Old rfl) <| Wz (.i ((List.length p0.Text : Nat) : Int)) (Oln rfl) <| Wz (.i (W6 (((List.length p0.Text : Nat) : Int) - 100))) (Obn rfl (fun _ => hb_sub (k := .i64))) <| Wz (.i (max 0 (W6 (((List.length p0.Text : Nat) : Int) - 100)))) (op_bi2 rfl (a1 := .int .i64 0) (a2 := .int .i64 (W6 (((List.length p0.Text : Nat) : Int) - 100))) (by kernel_rfl) (by kernel_rfl) hb_max) <| Wm (.i (max 0 (W6 (((List.length p0.Text : Nat) : Int) - 100)))) rfl <| Nn <| Rt ?_
 obtain rfl := Option.some.inj hm
 exact ret_i []

theorem ok_telltalelaw11_Over (p0 : (List GNode_)) (r : Int) (h : m_telltalelaw11_Over p0 = some r) : GCall Try.prog 20 [(.l enc_GNode_ p0)] [] (.i r) [] := by
 refine GCall.of_body (n := 38) (rs := [(.tmp 2)]) Try.func20 rfl rfl rfl <| Ato ⟨.l enc_GNode_ p0::tu 37 [], [], 0⟩ ?_
 have hm := h
 unfold m_telltalelaw11_Over at hm
 refine Sx <| Wm (.i 0) rfl <| Nk 1 0 ⟨.l enc_GNode_ p0::tp 37 [], [], 0⟩ <| Sq <| Sx <| Wm (.l enc_GNode_ p0) rfl <| Wz (.i ((List.length p0 : Nat) : Int)) (Oln rfl) <| Wz (.b (decide ((40 : Int) < ((List.length p0 : Nat) : Int)))) (Obn rfl (fun _ => hb_gtr (k := .i64))) <| Nk 65 0 ⟨.l enc_GNode_ p0::tp 5 (.b (decide ((40 : Int) < ((List.length p0 : Nat) : Int)))::tp 31 []), [], 0⟩ ?_
 rcases tf_ (decide ((40 : Int) < ((List.length p0 : Nat) : Int))) with hc6_5 | hc6_5
 ·
  replace hm := cT hc6_5 hm
  refine AiT hc6_5 <| Sx <| Wm (.i 1) rfl <| Nn <| Rt <| Tr ?_
  obtain rfl := Option.some.inj hm
  exact ret_i []
 ·
  replace hm := cF hc6_5 hm
  refine AiF hc6_5 <| Sk <| Tk 1 0 ⟨.l enc_GNode_ p0::tp 37 [], [], 0⟩ <| Sq <| Sx <| Wm (.i 0) rfl <| Nk 9 0 ⟨.l enc_GNode_ p0::tp 2 (.i 0::tp 34 []), [], 0⟩ <| Bk ?_
  refine AWP.loopI (α := Nat × Int)
    (fun (fu_1, y3_1) => (⟨.l enc_GNode_ p0::tp 2 (.i y3_1::tp 34 []), [], 0⟩ : St))
    (fun (fu_1, y3_1) => m_telltalelaw11_Over_l1 p0 fu_1 y3_1 = some r)
    (fun (fu_1, y3_1) => fu_1) (1152921504606846976, 0)
    (Weak.toK 9 0 0 []) hm ?_
  rintro ⟨fu_1, y3_1⟩ n_1 hm ih_1
  try dsimp only at hm ih_1 ⊢
  cases fu_1 with
  | zero => exact absurd hm (by unfold m_telltalelaw11_Over_l1; simp)
  | succ fu_1 =>
   unfold m_telltalelaw11_Over_l1 at hm
   refine Sq <| Sx <| Wm (.i y3_1) rfl <| Wm (.l enc_GNode_ p0) rfl <| Wz (.i ((List.length p0 : Nat) : Int)) (Oln rfl) <| Wz (.b (decide (y3_1 < ((List.length p0 : Nat) : Int)))) (Obn rfl (fun _ => hb_lss (k := .i64))) <| Nk 1033 0 ⟨.l enc_GNode_ p0::tp 2 (.i y3_1::tp 6 (.b (decide (y3_1 < ((List.length p0 : Nat) : Int)))::tp 27 [])), [], 0⟩ ?_
   rcases tf_ (decide (y3_1 < ((List.length p0 : Nat) : Int))) with hc10_6 | hc10_6
   ·
    replace hm := cT hc10_6 hm
    refine AiT hc10_6 <| Sk <| Tk 9 0 ⟨.l enc_GNode_ p0::tp 2 (.i y3_1::tp 34 []), [], 0⟩ <| Sq <| Bk ?_
    refine AWP.cutJ (α := Unit) (fun x => match x with | () => (⟨.l enc_GNode_ p0::tp 2 (.i y3_1::tp 33 (.b true::[])), [], 0⟩ : St)) (fun x => match x with | () => m_telltalelaw11_Over_j4  = some r) ?_ (fun J4 => ?_)
    ·
     rintro ⟨⟩ hm
     try dsimp only at hm ⊢
     unfold m_telltalelaw11_Over_j4 at hm
     refine AWP.if_ true (by kernel_rfl) <| Sx <| Wm (.i 1) rfl <| Nn <| Rt <| Ir <| Tr <| RoundK.ret <| Ir <| Tr ?_
     obtain rfl := Option.some.inj hm
     exact ret_i []
    refine Sx <| Wm (.l enc_GNode_ p0) rfl <| Wm (.i y3_1) rfl ?_
    obtain ⟨x15_3, hx15_3, hm⟩ := bnd hm
    obtain ⟨hx15_3i, hx15_3g⟩ := geti_some hx15_3
    refine Wz (.d (.ref (List.drop ((Int.toNat y3_1) * 8) (flatD enc_GNode_ p0)))) (Oia rfl enc_GNode__len hx15_3i hx15_3g) <| Wz (.d (.ref (List.drop 2 (List.drop ((Int.toNat y3_1) * 8) (flatD enc_GNode_ p0))))) (Ofa rfl) <| Wz (.s x15_3.Var) (Lfk1 2 rfl enc_GNode__len hx15_3g) <| Wz (.i ((List.length x15_3.Var : Nat) : Int)) (Oln rfl) <| Wz (.b (decide ((40 : Int) < ((List.length x15_3.Var : Nat) : Int)))) (Obn rfl (fun _ => hb_gtr (k := .i64))) ?_
    rcases tf_ (decide ((40 : Int) < ((List.length x15_3.Var : Nat) : Int))) with hq20_3 | hq20_3
    ·
     replace hm := cT hq20_3 hm
     refine Wz (.b true) (Oq hq20_3 rfl) <| Wn <| Wn <| Wn <| Wn <| Wn <| Wn <| Wn <| Wz (.b true) (OpT rfl) <| Wm (.b true) rfl <| Wn <| Wn <| Wn <| Wn ?_
     refine Wn <| Wn <| Wn <| Wz (.b true) (OpT rfl) <| Nn ?_
     exact AWP.weak (Weak.toK 137438953481 0 0 []) (J4 () hm)
    ·
     replace hm := cF hq20_3 hm
     refine Wz (.b false) (Oq hq20_3 rfl) <| Wm (.l enc_GNode_ p0) rfl <| Wm (.i y3_1) rfl ?_
     obtain ⟨x23_3, hx23_3, hm⟩ := bnd hm
     obtain ⟨hx23_3i, hx23_3g⟩ := geti_some hx23_3
     refine Wz (.d (.ref (List.drop ((Int.toNat y3_1) * 8) (flatD enc_GNode_ p0)))) (Oia rfl enc_GNode__len hx23_3i hx23_3g) <| Wz (.d (.ref (List.drop 3 (List.drop ((Int.toNat y3_1) * 8) (flatD enc_GNode_ p0))))) (Ofa rfl) <| Wz (.s x23_3.Name) (Lfk1 3 rfl enc_GNode__len hx23_3g) <| Wz (.i ((List.length x23_3.Name : Nat) : Int)) (Oln rfl) <| Wz (.b (decide ((40 : Int) < ((List.length x23_3.Name : Nat) : Int)))) (Obn rfl (fun _ => hb_gtr (k := .i64))) <| Wz (.b (decide ((40 : Int) < ((List.length x23_3.Name : Nat) : Int)))) (OpF rfl) ?_
     rcases tf_ (decide ((40 : Int) < ((List.length x23_3.Name : Nat) : Int))) with hq29_3 | hq29_3
     ·
      replace hm := cT hq29_3 hm
      refine Wz (.b true) (Oq hq29_3 rfl) <| Wn <| Wn <| Wn <| Wn <| Wn <| Wn <| Wn <| Wz (.b true) (OpT rfl) <| Nn ?_
      exact AWP.weak (Weak.toK 137438953481 0 0 []) (J4 () hm)
     ·
      replace hm := cF hq29_3 hm
      refine Wz (.b false) (Oq hq29_3 rfl) <| Wm (.l enc_GNode_ p0) rfl <| Wm (.i y3_1) rfl ?_
      obtain ⟨x32_3, hx32_3, hm⟩ := bnd hm
      obtain ⟨hx32_3i, hx32_3g⟩ := geti_some hx32_3
      refine Wz (.d (.ref (List.drop ((Int.toNat y3_1) * 8) (flatD enc_GNode_ p0)))) (Oia rfl enc_GNode__len hx32_3i hx32_3g) <| Wz (.d (.ref (List.drop 4 (List.drop ((Int.toNat y3_1) * 8) (flatD enc_GNode_ p0))))) (Ofa rfl) <| Wz (.agg [(.y x32_3.Val.Kind), (.i x32_3.Val.N), (.u x32_3.Val.Bits), (.s x32_3.Val.Text)]) (Lfk 4 rfl enc_GNode__len hx32_3g) ?_
      obtain ⟨r35_3, hr35_3, hm⟩ := bnd hm
      refine Wz (.i r35_3) (Ocf [] [] [] 0 (ok_telltalelaw04_Small x32_3.Val r35_3 hr35_3) (fun a w => Try.call39 a w) rfl trivial) <| Wz (.b (decide ((0 : Int) < r35_3))) (Obn rfl (fun _ => hb_gtr (k := .i64))) <| Wz (.b (decide ((0 : Int) < r35_3))) (OpF rfl) <| Nk 137438953481 0 ⟨.l enc_GNode_ p0::tp 2 (.i y3_1::tp 33 (.b (decide ((0 : Int) < r35_3))::[])), [], 0⟩ ?_
      rcases tf_ (decide ((0 : Int) < r35_3)) with hc37_7 | hc37_7
      ·
       replace hm := cT hc37_7 hm
       refine AiT hc37_7 <| Sx <| Wm (.i 1) rfl <| Nn <| Rt <| Ir <| Tr <| RoundK.ret <| Ir <| Tr ?_
       obtain rfl := Option.some.inj hm
       exact ret_i []
      ·
       replace hm := cF hc37_7 hm
       refine AiF hc37_7 <| Sk <| Ino <| Tk 9 0 ⟨.l enc_GNode_ p0::tp 2 (.i y3_1::tp 34 []), [], 0⟩ <| Tx <| Wm (.i y3_1) rfl <| Wz (.i (W6 (y3_1 + 1))) (Obn rfl (fun _ => hb_add (k := .i64))) <| Wm (.i (W6 (y3_1 + 1))) rfl <| Wn0 <| RoundK.normal ?_
       exact Rounds.weak (Weak.toK 9 0 0 []) (ih_1 (fu_1, (W6 (y3_1 + 1))) hm (Nat.lt_succ_self _))
   ·
    replace hm := cF hc10_6 hm
    refine AiF hc10_6 <| AWP.exit <| Then.exit <| RoundK.exit <| InBlock.same <| Tk 0 0 ⟨tp 38 [], [], 0⟩ <| Sx <| Wm (.i 0) rfl <| Nn <| Rt ?_
    obtain rfl := Option.some.inj hm
    exact ret_i []

theorem ok_telltalelaw13_Over (p0 : GPattern) (r : Int) (h : m_telltalelaw13_Over p0 = some r) : GCall Try.prog 6 [(.agg [(.l enc_GNode p0.Body), (.i p0.Within), (.s p0.By), (.y p0.Mode)])] [] (.i r) [] := by
 refine GCall.of_body (n := 49) (rs := [(.tmp 2)]) Try.func6 rfl rfl rfl <| Ato ⟨.agg [(.l enc_GNode p0.Body), (.i p0.Within), (.s p0.By), (.y p0.Mode)]::tu 48 [], [], 0⟩ ?_
 have hm := h
 unfold m_telltalelaw13_Over at hm
 refine Sx <| Wy (.loc 0 0) [(0, (.box [(.l enc_GNode p0.Body), (.i p0.Within), (.s p0.By), (.y p0.Mode)]))] (Obx rfl) <| Wm (.i 0) rfl <| Nk 2 1 ⟨tp 1 (.loc 0 0::tp 47 []), [(.box [(.l enc_GNode p0.Body), (.i p0.Within), (.s p0.By), (.y p0.Mode)])], 0⟩ <| Sq <| Sx <| Wz (.loc 0 0) (Ofa rfl) <| Wz (.l enc_GNode p0.Body) (Old rfl) <| Wz (.i ((List.length p0.Body : Nat) : Int)) (Oln rfl) <| Wz (.b (decide ((50 : Int) < ((List.length p0.Body : Nat) : Int)))) (Obn rfl (fun _ => hb_gtr (k := .i64))) ?_
 rcases tf_ (decide ((50 : Int) < ((List.length p0.Body : Nat) : Int))) with hq8_0 | hq8_0
 ·
  replace hm := cT hq8_0 hm
  refine Wz (.b true) (Oq hq8_0 rfl) <| Wn <| Wn <| Wn <| Wn <| Wz (.b true) (OpT rfl) <| Nk 8194 1 ⟨tp 1 (.loc 0 0::tp 11 (.b true::tp 35 [])), [(.box [(.l enc_GNode p0.Body), (.i p0.Within), (.s p0.By), (.y p0.Mode)])], 0⟩ <| AWP.if_ true (by kernel_rfl) <| Sx <| Wm (.i 1) rfl <| Nn <| Rt <| Tr ?_
  obtain rfl := Option.some.inj hm
  exact ret_i []
 ·
  replace hm := cF hq8_0 hm
  refine Wz (.b false) (Oq hq8_0 rfl) <| Wz (.loc 0 2) (Ofa rfl) <| Wz (.s p0.By) (Old rfl) <| Wz (.i ((List.length p0.By : Nat) : Int)) (Oln rfl) <| Wz (.b (decide ((40 : Int) < ((List.length p0.By : Nat) : Int)))) (Obn rfl (fun _ => hb_gtr (k := .i64))) <| Wz (.b (decide ((40 : Int) < ((List.length p0.By : Nat) : Int)))) (OpF rfl) <| Nk 8194 1 ⟨tp 1 (.loc 0 0::tp 11 (.b (decide ((40 : Int) < ((List.length p0.By : Nat) : Int)))::tp 35 [])), [(.box [(.l enc_GNode p0.Body), (.i p0.Within), (.s p0.By), (.y p0.Mode)])], 0⟩ ?_
  rcases tf_ (decide ((40 : Int) < ((List.length p0.By : Nat) : Int))) with hc13_5 | hc13_5
  ·
   replace hm := cT hc13_5 hm
   refine AiT hc13_5 <| Sx <| Wm (.i 1) rfl <| Nn <| Rt <| Tr ?_
   obtain rfl := Option.some.inj hm
   exact ret_i []
  ·
   replace hm := cF hc13_5 hm
   refine AiF hc13_5 <| Sk <| Tk 2 1 ⟨tp 1 (.loc 0 0::tp 47 []), [(.box [(.l enc_GNode p0.Body), (.i p0.Within), (.s p0.By), (.y p0.Mode)])], 0⟩ <| Sq <| Sx <| Wm (.i 0) rfl <| Nk 10 1 ⟨tp 1 (.loc 0 0::tp 1 (.i 0::tp 45 [])), [(.box [(.l enc_GNode p0.Body), (.i p0.Within), (.s p0.By), (.y p0.Mode)])], 0⟩ <| Bk ?_
   refine AWP.loopI (α := Nat × Int)
     (fun (fu_1, y3_1) => (⟨tp 1 (.loc 0 0::tp 1 (.i y3_1::tp 45 [])), [(.box [(.l enc_GNode p0.Body), (.i p0.Within), (.s p0.By), (.y p0.Mode)])], 0⟩ : St))
     (fun (fu_1, y3_1) => m_telltalelaw13_Over_l1 p0 fu_1 y3_1 = some r)
     (fun (fu_1, y3_1) => fu_1) (1152921504606846976, 0)
     (Weak.toK 10 0 0 [0]) hm ?_
   rintro ⟨fu_1, y3_1⟩ n_1 hm ih_1
   try dsimp only at hm ih_1 ⊢
   cases fu_1 with
   | zero => exact absurd hm (by unfold m_telltalelaw13_Over_l1; simp)
   | succ fu_1 =>
    unfold m_telltalelaw13_Over_l1 at hm
    refine Sq <| Sx <| Wm (.i y3_1) rfl <| Wz (.loc 0 0) (Ofa rfl) <| Wz (.l enc_GNode p0.Body) (Old rfl) <| Wz (.i ((List.length p0.Body : Nat) : Int)) (Oln rfl) <| Wz (.b (decide (y3_1 < ((List.length p0.Body : Nat) : Int)))) (Obn rfl (fun _ => hb_lss (k := .i64))) <| Nk 262154 1 ⟨tp 1 (.loc 0 0::tp 1 (.i y3_1::tp 14 (.b (decide (y3_1 < ((List.length p0.Body : Nat) : Int)))::tp 30 []))), [(.box [(.l enc_GNode p0.Body), (.i p0.Within), (.s p0.By), (.y p0.Mode)])], 0⟩ ?_
    rcases tf_ (decide (y3_1 < ((List.length p0.Body : Nat) : Int))) with hc18_6 | hc18_6
    ·
     replace hm := cT hc18_6 hm
     refine AiT hc18_6 <| Sk <| Tk 10 1 ⟨tp 1 (.loc 0 0::tp 1 (.i y3_1::tp 45 [])), [(.box [(.l enc_GNode p0.Body), (.i p0.Within), (.s p0.By), (.y p0.Mode)])], 0⟩ <| Sq <| Bk ?_
     refine AWP.cutJ (α := Unit) (fun x => match x with | () => (⟨tp 1 (.loc 0 0::tp 1 (.i y3_1::tp 44 (.b true::[]))), [(.box [(.l enc_GNode p0.Body), (.i p0.Within), (.s p0.By), (.y p0.Mode)])], 0⟩ : St)) (fun x => match x with | () => m_telltalelaw13_Over_j4  = some r) ?_ (fun J4 => ?_)
     ·
      rintro ⟨⟩ hm
      try dsimp only at hm ⊢
      unfold m_telltalelaw13_Over_j4 at hm
      refine AWP.if_ true (by kernel_rfl) <| Sx <| Wm (.i 1) rfl <| Nn <| Rt <| Ir <| Tr <| RoundK.ret <| Ir <| Tr ?_
      obtain rfl := Option.some.inj hm
      exact ret_i []
     refine Sx <| Wz (.loc 0 0) (Ofa rfl) <| Wz (.l enc_GNode p0.Body) (Old rfl) <| Wm (.i y3_1) rfl ?_
     obtain ⟨x24_3, hx24_3, hm⟩ := bnd hm
     obtain ⟨hx24_3i, hx24_3g⟩ := geti_some hx24_3
     refine Wz (.d (.ref (List.drop ((Int.toNat y3_1) * 7) (flatD enc_GNode p0.Body)))) (Oia rfl enc_GNode_len hx24_3i hx24_3g) <| Wz (.d (.ref (List.drop 4 (List.drop ((Int.toNat y3_1) * 7) (flatD enc_GNode p0.Body))))) (Ofa rfl) <| Wz (.s x24_3.Var) (Lfk1 4 rfl enc_GNode_len hx24_3g) <| Wz (.i ((List.length x24_3.Var : Nat) : Int)) (Oln rfl) <| Wz (.b (decide ((40 : Int) < ((List.length x24_3.Var : Nat) : Int)))) (Obn rfl (fun _ => hb_gtr (k := .i64))) ?_
     rcases tf_ (decide ((40 : Int) < ((List.length x24_3.Var : Nat) : Int))) with hq29_3 | hq29_3
     ·
      replace hm := cT hq29_3 hm
      refine Wz (.b true) (Oq hq29_3 rfl) <| Wn <| Wn <| Wn <| Wn <| Wn <| Wn <| Wn <| Wn <| Wz (.b true) (OpT rfl) <| Wm (.b true) rfl <| Wn <| Wn <| Wn ?_
      refine Wn <| Wn <| Wn <| Wn <| Wn <| Wz (.b true) (OpT rfl) <| Nn ?_
      exact AWP.weak (Weak.toK 281474976710666 0 0 [0]) (J4 () hm)
     ·
      replace hm := cF hq29_3 hm
      refine Wz (.b false) (Oq hq29_3 rfl) <| Wz (.loc 0 0) (Ofa rfl) <| Wz (.l enc_GNode p0.Body) (Old rfl) <| Wm (.i y3_1) rfl ?_
      obtain ⟨x33_3, hx33_3, hm⟩ := bnd hm
      obtain ⟨hx33_3i, hx33_3g⟩ := geti_some hx33_3
      refine Wz (.d (.ref (List.drop ((Int.toNat y3_1) * 7) (flatD enc_GNode p0.Body)))) (Oia rfl enc_GNode_len hx33_3i hx33_3g) <| Wz (.d (.ref (List.drop 5 (List.drop ((Int.toNat y3_1) * 7) (flatD enc_GNode p0.Body))))) (Ofa rfl) <| Wz (.s x33_3.Type_) (Lfk1 5 rfl enc_GNode_len hx33_3g) <| Wz (.i ((List.length x33_3.Type_ : Nat) : Int)) (Oln rfl) <| Wz (.b (decide ((40 : Int) < ((List.length x33_3.Type_ : Nat) : Int)))) (Obn rfl (fun _ => hb_gtr (k := .i64))) <| Wz (.b (decide ((40 : Int) < ((List.length x33_3.Type_ : Nat) : Int)))) (OpF rfl) ?_
      rcases tf_ (decide ((40 : Int) < ((List.length x33_3.Type_ : Nat) : Int))) with hq39_3 | hq39_3
      ·
       replace hm := cT hq39_3 hm
       refine Wz (.b true) (Oq hq39_3 rfl) <| Wn <| Wn <| Wn <| Wn <| Wn <| Wn <| Wn <| Wn <| Wz (.b true) (OpT rfl) <| Nn ?_
       exact AWP.weak (Weak.toK 281474976710666 0 0 [0]) (J4 () hm)
      ·
       replace hm := cF hq39_3 hm
       refine Wz (.b false) (Oq hq39_3 rfl) <| Wz (.loc 0 0) (Ofa rfl) <| Wz (.l enc_GNode p0.Body) (Old rfl) <| Wm (.i y3_1) rfl ?_
       obtain ⟨x43_3, hx43_3, hm⟩ := bnd hm
       obtain ⟨hx43_3i, hx43_3g⟩ := geti_some hx43_3
       refine Wz (.d (.ref (List.drop ((Int.toNat y3_1) * 7) (flatD enc_GNode p0.Body)))) (Oia rfl enc_GNode_len hx43_3i hx43_3g) <| Wz (.d (.ref (List.drop 6 (List.drop ((Int.toNat y3_1) * 7) (flatD enc_GNode p0.Body))))) (Ofa rfl) <| Wz (.l enc_GNode_ x43_3.Test) (Lfk1 6 rfl enc_GNode_len hx43_3g) ?_
       obtain ⟨r46_3, hr46_3, hm⟩ := bnd hm
       refine Wz (.i r46_3) (Ocf [] [] [] 0 (ok_telltalelaw11_Over x43_3.Test r46_3 hr46_3) (fun a w => Try.call20 a w) rfl trivial) <| Wz (.b (decide ((0 : Int) < r46_3))) (Obn rfl (fun _ => hb_gtr (k := .i64))) <| Wz (.b (decide ((0 : Int) < r46_3))) (OpF rfl) <| Nk 281474976710666 1 ⟨tp 1 (.loc 0 0::tp 1 (.i y3_1::tp 44 (.b (decide ((0 : Int) < r46_3))::[]))), [(.box [(.l enc_GNode p0.Body), (.i p0.Within), (.s p0.By), (.y p0.Mode)])], 0⟩ ?_
       rcases tf_ (decide ((0 : Int) < r46_3)) with hc48_7 | hc48_7
       ·
        replace hm := cT hc48_7 hm
        refine AiT hc48_7 <| Sx <| Wm (.i 1) rfl <| Nn <| Rt <| Ir <| Tr <| RoundK.ret <| Ir <| Tr ?_
        obtain rfl := Option.some.inj hm
        exact ret_i []
       ·
        replace hm := cF hc48_7 hm
        refine AiF hc48_7 <| Sk <| Ino <| Tk 10 1 ⟨tp 1 (.loc 0 0::tp 1 (.i y3_1::tp 45 [])), [(.box [(.l enc_GNode p0.Body), (.i p0.Within), (.s p0.By), (.y p0.Mode)])], 0⟩ <| Tx <| Wm (.i y3_1) rfl <| Wz (.i (W6 (y3_1 + 1))) (Obn rfl (fun _ => hb_add (k := .i64))) <| Wm (.i (W6 (y3_1 + 1))) rfl <| Wn0 <| RoundK.normal ?_
        exact Rounds.weak (Weak.toK 10 0 0 [0]) (ih_1 (fu_1, (W6 (y3_1 + 1))) hm (Nat.lt_succ_self _))
    ·
     replace hm := cF hc18_6 hm
     refine AiF hc18_6 <| AWP.exit <| Then.exit <| RoundK.exit <| InBlock.same <| Tk 0 0 ⟨tp 49 [], [.gone], 0⟩ <| Sx <| Wm (.i 0) rfl <| Nn <| Rt ?_
     obtain rfl := Option.some.inj hm
     exact ret_i []

theorem ok_telltalelaw13_example (r : GPattern) (h : m_telltalelaw13_example = some r) : GCall Try.prog 21 [] [] (.agg [(.own 0), (.i r.Within), (.s r.By), (.y r.Mode)]) [(Ar 44 7 enc_GNode r.Body)] := by
 refine GCall.of_body (n := 9) (rs := [(.cell 0 30)]) Try.func21 rfl rfl rfl <| Ato ⟨tu 9 [], [], 0⟩ ?_
 have hm := h
 unfold m_telltalelaw13_example at hm
 refine Sx <| Wy (.loc 0 0) [(0, (.box [(.d .nil), (.i 0), (.s ([] : List UInt8)), (.y 0)]))] (Oal rfl) <| Nk 1 1 ⟨.loc 0 0::tp 8 [], [(.box [(.d .nil), (.i 0), (.s ([] : List UInt8)), (.y 0)])], 0⟩ <| Sx <| Wz (.agg [(.y 1), (.i 2), (.i 0), (.i 0), (.s ([] : List UInt8)), (.s ([] : List UInt8)), (.d .nil)]) (Obd rfl) <| Wz (.agg [(.y 4), (.i 0), (.i 0), (.i 0), (.s ([97] : List UInt8)), (.s ([116] : List UInt8)), (.d .nil)]) (Obd rfl) <| Wz (.agg [(.y 3), (.i 1), (.i 1), (.i 0), (.s ([] : List UInt8)), (.s ([] : List UInt8)), (.d .nil)]) (Obd rfl) <| Wz (.agg [(.y 2), (.i 2), (.i 0), (.i 0), (.s ([] : List UInt8)), (.s ([] : List UInt8)), (.d .nil)]) (Obd rfl) <| Wz (.agg [(.y 4), (.i 0), (.i 0), (.i 0), (.s ([98] : List UInt8)), (.s ([116] : List UInt8)), (.d .nil)]) (Obd rfl) <| Wz (.agg [(.y 5), (.i 0), (.i 0), (.i 0), (.s ([99] : List UInt8)), (.s ([117] : List UInt8)), (.d .nil)]) (Obd rfl) <| Wy (.own 1) [(1, (Ar 44 7 enc_GNode ([(GNode.mk 1 2 0 0 ([] : List UInt8) ([] : List UInt8) ([] : List GNode_)), (GNode.mk 4 0 0 0 ([97] : List UInt8) ([116] : List UInt8) ([] : List GNode_)), (GNode.mk 3 1 1 0 ([] : List UInt8) ([] : List UInt8) ([] : List GNode_)), (GNode.mk 2 2 0 0 ([] : List UInt8) ([] : List UInt8) ([] : List GNode_)), (GNode.mk 4 0 0 0 ([98] : List UInt8) ([116] : List UInt8) ([] : List GNode_)), (GNode.mk 5 0 0 0 ([99] : List UInt8) ([117] : List UInt8) ([] : List GNode_))] : List GNode)))] (Obs rfl) <| Wz (.agg [(.own 1), (.i 9), (.s ([] : List UInt8)), (.y 1)]) (Obd rfl) <| Wy (.tup []) [(0, (.box [(.own 1), (.i 9), (.s ([] : List UInt8)), (.y 1)]))] (Ost rfl) <| Nn ?_
 refine Rt ?_
 obtain rfl := Option.some.inj hm
 exact ret_i [1]

theorem ok_shape_Node_list (p0 : GNode) (r : Bool) (h : m_shape_Node_list p0 = some r) : GCall Try.prog 40 [(.agg [(.y p0.Kind), (.i p0.Kids), (.i p0.Lo), (.i p0.Hi), (.s p0.Var), (.s p0.Type_), (.l enc_GNode_ p0.Test)])] [] (.b r) [] := by
 refine GCall.of_body (n := 11) (rs := [(.tmp 2)]) Try.func40 rfl rfl rfl <| Ato ⟨.agg [(.y p0.Kind), (.i p0.Kids), (.i p0.Lo), (.i p0.Hi), (.s p0.Var), (.s p0.Type_), (.l enc_GNode_ p0.Test)]::tu 10 [], [], 0⟩ ?_
 have hm := h
 unfold m_shape_Node_list at hm
 refine Sx <| Wy (.loc 0 0) [(0, (.box [(.y p0.Kind), (.i p0.Kids), (.i p0.Lo), (.i p0.Hi), (.s p0.Var), (.s p0.Type_), (.l enc_GNode_ p0.Test)]))] (Obx rfl) <| Wm (.b false) rfl <| Nk 2 1 ⟨tp 1 (.loc 0 0::tp 9 []), [(.box [(.y p0.Kind), (.i p0.Kids), (.i p0.Lo), (.i p0.Hi), (.s p0.Var), (.s p0.Type_), (.l enc_GNode_ p0.Test)])], 0⟩ <| Sx <| Wz (.loc 0 0) (Ofa rfl) <| Wz (.y p0.Kind) (Old rfl) <| Wz (.b (decide (((p0.Kind.toNat : Nat) : Int) = 1))) (Ob2 (.int .u8 ((p0.Kind.toNat : Nat) : Int)) (.int .u8 1) rfl (fun _ => hb_eql)) ?_
 rcases tf_ (decide (((p0.Kind.toNat : Nat) : Int) = 1)) with hq6_0 | hq6_0
 ·
  replace hm := cT hq6_0 hm
  refine Wz (.b true) (Oq hq6_0 rfl) <| Wn <| Wn <| Wn <| Wz (.b true) (OpT rfl) <| Wm (.b true) rfl <| Nn <| Rt ?_
  obtain rfl := Option.some.inj hm
  exact ret_i []
 ·
  replace hm := cF hq6_0 hm
  refine Wz (.b false) (Oq hq6_0 rfl) <| Wz (.loc 0 0) (Ofa rfl) <| Wz (.y p0.Kind) (Old rfl) <| Wz (.b (decide (((p0.Kind.toNat : Nat) : Int) = 2))) (Ob2 (.int .u8 ((p0.Kind.toNat : Nat) : Int)) (.int .u8 2) rfl (fun _ => hb_eql)) <| Wz (.b (decide (((p0.Kind.toNat : Nat) : Int) = 2))) (OpF rfl) <| Wm (.b (decide (((p0.Kind.toNat : Nat) : Int) = 2))) rfl <| Nn <| Rt ?_
  obtain rfl := Option.some.inj hm
  exact ret_i []

theorem ok_shape_Node_stands (p0 : GNode) (p1 : UInt8) (r : Bool) (h : m_shape_Node_stands p0 p1 = some r) : GCall Try.prog 41 [(.agg [(.y p0.Kind), (.i p0.Kids), (.i p0.Lo), (.i p0.Hi), (.s p0.Var), (.s p0.Type_), (.l enc_GNode_ p0.Test)]), (.y p1)] [] (.b r) [] := by
 refine GCall.of_body (n := 28) (rs := [(.tmp 4)]) Try.func41 rfl rfl rfl <| Ato ⟨.agg [(.y p0.Kind), (.i p0.Kids), (.i p0.Lo), (.i p0.Hi), (.s p0.Var), (.s p0.Type_), (.l enc_GNode_ p0.Test)]::.y p1::tu 26 [], [], 0⟩ ?_
 have hm := h
 unfold m_shape_Node_stands at hm
 refine Sx <| Wy (.loc 0 0) [(0, (.box [(.y p0.Kind), (.i p0.Kids), (.i p0.Lo), (.i p0.Hi), (.s p0.Var), (.s p0.Type_), (.l enc_GNode_ p0.Test)]))] (Obx rfl) <| Wm (.b false) rfl <| Nk 6 1 ⟨tp 1 (.y p1::.loc 0 0::tp 25 []), [(.box [(.y p0.Kind), (.i p0.Kids), (.i p0.Lo), (.i p0.Hi), (.s p0.Var), (.s p0.Type_), (.l enc_GNode_ p0.Test)])], 0⟩ <| Sq <| Bk <| Sx <| Wz (.loc 0 0) (Ofa rfl) <| Wz (.y p0.Kind) (Old rfl) <| Wz (.b (decide (((p0.Kind.toNat : Nat) : Int) < 1))) (Ob2 (.int .u8 ((p0.Kind.toNat : Nat) : Int)) (.int .u8 1) rfl (fun _ => hb_lss)) ?_
 rcases tf_ (decide (((p0.Kind.toNat : Nat) : Int) < 1)) with hq9_0 | hq9_0
 ·
  replace hm := cT hq9_0 hm
  refine Wz (.b true) (Oq hq9_0 rfl) <| Wn <| Wn <| Wn <| Wz (.b true) (OpT rfl) <| Wm (.b true) rfl <| Nk 38 1 ⟨tp 1 (.y p1::.loc 0 0::tp 2 (.b true::tp 22 [])), [(.box [(.y p0.Kind), (.i p0.Kids), (.i p0.Lo), (.i p0.Hi), (.s p0.Var), (.s p0.Type_), (.l enc_GNode_ p0.Test)])], 0⟩ <| AWP.if_ true (by kernel_rfl) <| Sx <| Wm (.b false) rfl <| Nn <| Rt <| Ir <| Tr ?_
  obtain rfl := Option.some.inj hm
  exact ret_i []
 ·
  replace hm := cF hq9_0 hm
  refine Wz (.b false) (Oq hq9_0 rfl) <| Wz (.loc 0 0) (Ofa rfl) <| Wz (.y p0.Kind) (Old rfl) <| Wz (.b (decide ((5 : Int) < ((p0.Kind.toNat : Nat) : Int)))) (Ob2 (.int .u8 ((p0.Kind.toNat : Nat) : Int)) (.int .u8 5) rfl (fun _ => hb_gtr)) <| Wz (.b (decide ((5 : Int) < ((p0.Kind.toNat : Nat) : Int)))) (OpF rfl) <| Wm (.b (decide ((5 : Int) < ((p0.Kind.toNat : Nat) : Int)))) rfl <| Nk 38 1 ⟨tp 1 (.y p1::.loc 0 0::tp 2 (.b (decide ((5 : Int) < ((p0.Kind.toNat : Nat) : Int)))::tp 22 [])), [(.box [(.y p0.Kind), (.i p0.Kids), (.i p0.Lo), (.i p0.Hi), (.s p0.Var), (.s p0.Type_), (.l enc_GNode_ p0.Test)])], 0⟩ ?_
  rcases tf_ (decide ((5 : Int) < ((p0.Kind.toNat : Nat) : Int))) with hc5_3 | hc5_3
  ·
   replace hm := cT hc5_3 hm
   refine AiT hc5_3 <| Sx <| Wm (.b false) rfl <| Nn <| Rt <| Ir <| Tr ?_
   obtain rfl := Option.some.inj hm
   exact ret_i []
  ·
   replace hm := cF hc5_3 hm
   refine AiF hc5_3 <| Sx <| Wz (.agg [(.y p0.Kind), (.i p0.Kids), (.i p0.Lo), (.i p0.Hi), (.s p0.Var), (.s p0.Type_), (.l enc_GNode_ p0.Test)]) (Old rfl) ?_
   obtain ⟨r16_1, hr16_1, hm⟩ := bnd hm
   refine Wz (.b r16_1) (Ocf [] [] [] 0 (ok_shape_Node_list p0 r16_1 hr16_1) (fun a w => Try.call40 a w) rfl trivial) <| Wm (.b r16_1) rfl <| Nk 16390 1 ⟨tp 1 (.y p1::.loc 0 0::tp 11 (.b r16_1::tp 13 [])), [(.box [(.y p0.Kind), (.i p0.Kids), (.i p0.Lo), (.i p0.Hi), (.s p0.Var), (.s p0.Type_), (.l enc_GNode_ p0.Test)])], 0⟩ ?_
   rcases tf_ r16_1 with hc14_4 | hc14_4
   ·
    replace hm := cT hc14_4 hm
    refine AiT hc14_4 <| Sx <| Wz (.loc 0 0) (Ofa rfl) <| Wz (.y p0.Kind) (Old rfl) <| Wm (.y p1) rfl <| Wz (.b (decide (((p0.Kind.toNat : Nat) : Int) ≠ ((p1.toNat : Nat) : Int)))) (Ob2 (.int .u8 ((p0.Kind.toNat : Nat) : Int)) (.int .u8 ((p1.toNat : Nat) : Int)) rfl (fun _ => hb_neq)) <| Wm (.b (decide (((p0.Kind.toNat : Nat) : Int) ≠ ((p1.toNat : Nat) : Int)))) rfl <| Nn <| Rt <| Ir <| Tr ?_
    obtain rfl := Option.some.inj hm
    exact ret_i []
   ·
    replace hm := cF hc14_4 hm
    refine AiF hc14_4 <| Sk <| Ino <| Tk 6 1 ⟨tp 1 (.y p1::.loc 0 0::tp 25 []), [(.box [(.y p0.Kind), (.i p0.Kids), (.i p0.Lo), (.i p0.Hi), (.s p0.Var), (.s p0.Type_), (.l enc_GNode_ p0.Test)])], 0⟩ <| Sx <| Wz (.loc 0 0) (Ofa rfl) <| Wz (.y p0.Kind) (Old rfl) <| Wz (.b (decide (((p0.Kind.toNat : Nat) : Int) ≠ 5))) (Ob2 (.int .u8 ((p0.Kind.toNat : Nat) : Int)) (.int .u8 5) rfl (fun _ => hb_neq)) ?_
    rcases tf_ (decide (((p0.Kind.toNat : Nat) : Int) ≠ 5)) with hq24_2 | hq24_2
    ·
     replace hm := cT hq24_2 hm
     refine Wz (.b true) (Oq hq24_2 rfl) <| Wn <| Wn <| Wz (.b true) (OpT rfl) <| Wm (.b true) rfl <| Nn <| Rt ?_
     obtain rfl := Option.some.inj hm
     exact ret_i []
    ·
     replace hm := cF hq24_2 hm
     refine Wz (.b false) (Oq hq24_2 rfl) <| Wm (.y p1) rfl <| Wz (.b (decide (((p1.toNat : Nat) : Int) ≠ 3))) (Ob2 (.int .u8 ((p1.toNat : Nat) : Int)) (.int .u8 3) rfl (fun _ => hb_neq)) <| Wz (.b (decide (((p1.toNat : Nat) : Int) ≠ 3))) (OpF rfl) <| Wm (.b (decide (((p1.toNat : Nat) : Int) ≠ 3))) rfl <| Nn <| Rt ?_
     obtain rfl := Option.some.inj hm
     exact ret_i []

theorem ok_shape_Node_often (p0 : GNode) (r : Bool) (h : m_shape_Node_often p0 = some r) : GCall Try.prog 57 [(.agg [(.y p0.Kind), (.i p0.Kids), (.i p0.Lo), (.i p0.Hi), (.s p0.Var), (.s p0.Type_), (.l enc_GNode_ p0.Test)])] [] (.b r) [] := by
 refine GCall.of_body (n := 41) (rs := [(.tmp 2)]) Try.func57 rfl rfl rfl <| Ato ⟨.agg [(.y p0.Kind), (.i p0.Kids), (.i p0.Lo), (.i p0.Hi), (.s p0.Var), (.s p0.Type_), (.l enc_GNode_ p0.Test)]::tu 40 [], [], 0⟩ ?_
 have hm := h
 unfold m_shape_Node_often at hm
 refine Sx <| Wy (.loc 0 0) [(0, (.box [(.y p0.Kind), (.i p0.Kids), (.i p0.Lo), (.i p0.Hi), (.s p0.Var), (.s p0.Type_), (.l enc_GNode_ p0.Test)]))] (Obx rfl) <| Wm (.b false) rfl <| Nk 2 1 ⟨tp 1 (.loc 0 0::tp 39 []), [(.box [(.y p0.Kind), (.i p0.Kids), (.i p0.Lo), (.i p0.Hi), (.s p0.Var), (.s p0.Type_), (.l enc_GNode_ p0.Test)])], 0⟩ ?_
 refine AWP.cutJ (α := Unit) (fun x => match x with | () => (⟨tp 1 (.loc 0 0::tp 39 []), [(.box [(.y p0.Kind), (.i p0.Kids), (.i p0.Lo), (.i p0.Hi), (.s p0.Var), (.s p0.Type_), (.l enc_GNode_ p0.Test)])], 0⟩ : St)) (fun x => match x with | () => m_shape_Node_often_j2 p0 = some r) ?_ (fun J2 => ?_)
 ·
  rintro ⟨⟩ hm
  try dsimp only at hm ⊢
  unfold m_shape_Node_often_j2 at hm
  refine Sx <| Wz (.loc 0 3) (Ofa rfl) <| Wz (.i p0.Hi) (Old rfl) <| Wz (.b (decide (p0.Hi = 0))) (Obn rfl (fun _ => hb_eql (k := .i64))) ?_
  rcases tf_ (decide (p0.Hi = 0)) with hq34_3 | hq34_3
  ·
   replace hm := cT hq34_3 hm
   refine Wz (.b true) (Oq hq34_3 rfl) <| Wn <| Wn <| Wn <| Wn <| Wn <| Wz (.b true) (OpT rfl) <| Wm (.b true) rfl <| Nn <| Rt ?_
   obtain rfl := Option.some.inj hm
   exact ret_i []
  ·
   replace hm := cF hq34_3 hm
   refine Wz (.b false) (Oq hq34_3 rfl) <| Wz (.loc 0 3) (Ofa rfl) <| Wz (.i p0.Hi) (Old rfl) <| Wz (.loc 0 2) (Ofa rfl) <| Wz (.i p0.Lo) (Old rfl) <| Wz (.b (decide (p0.Lo ≤ p0.Hi))) (Obn rfl (fun _ => hb_geq (k := .i64))) <| Wz (.b (decide (p0.Lo ≤ p0.Hi))) (OpF rfl) <| Wm (.b (decide (p0.Lo ≤ p0.Hi))) rfl <| Nn <| Rt ?_
   obtain rfl := Option.some.inj hm
   exact ret_i []
 refine Sq ?_
 refine AWP.cutJ (α := Unit) (fun x => match x with | () => (⟨tp 1 (.loc 0 0::tp 28 (.b true::tp 10 [])), [(.box [(.y p0.Kind), (.i p0.Kids), (.i p0.Lo), (.i p0.Hi), (.s p0.Var), (.s p0.Type_), (.l enc_GNode_ p0.Test)])], 0⟩ : St)) (fun x => match x with | () => m_shape_Node_often_j1  = some r) ?_ (fun J1 => ?_)
 ·
  rintro ⟨⟩ hm
  try dsimp only at hm ⊢
  unfold m_shape_Node_often_j1 at hm
  refine AWP.if_ true (by kernel_rfl) <| Sx <| Wm (.b false) rfl <| Nn <| Rt <| Tr ?_
  obtain rfl := Option.some.inj hm
  exact ret_i []
 refine Sx <| Wz (.loc 0 2) (Ofa rfl) <| Wz (.i p0.Lo) (Old rfl) <| Wz (.b (decide (p0.Lo < 0))) (Obn rfl (fun _ => hb_lss (k := .i64))) ?_
 rcases tf_ (decide (p0.Lo < 0)) with hq6_0 | hq6_0
 ·
  replace hm := cT hq6_0 hm
  refine Wz (.b true) (Oq hq6_0 rfl) <| Wn <| Wn <| Wn <| Wz (.b true) (OpT rfl) <| Wm (.b true) rfl <| Wn <| Wn <| Wn <| Wz (.b true) (OpT rfl) <| Wm (.b true) rfl <| Wn <| Wn <| Wn ?_
  refine Wz (.b true) (OpT rfl) <| Wm (.b true) rfl <| Wn <| Wn <| Wn <| Wn <| Wn <| Wn <| Wn <| Wn <| Wz (.b true) (OpT rfl) <| Nn ?_
  exact AWP.weak (Weak.toK 1073741826 0 0 [0]) (J1 () hm)
 ·
  replace hm := cF hq6_0 hm
  refine Wz (.b false) (Oq hq6_0 rfl) <| Wz (.loc 0 2) (Ofa rfl) <| Wz (.i p0.Lo) (Old rfl) <| Wz (.b (decide ((8 : Int) < p0.Lo))) (Obn rfl (fun _ => hb_gtr (k := .i64))) <| Wz (.b (decide ((8 : Int) < p0.Lo))) (OpF rfl) ?_
  rcases tf_ (decide ((8 : Int) < p0.Lo)) with hq11_0 | hq11_0
  ·
   replace hm := cT hq11_0 hm
   refine Wz (.b true) (Oq hq11_0 rfl) <| Wn <| Wn <| Wn <| Wz (.b true) (OpT rfl) <| Wm (.b true) rfl <| Wn <| Wn <| Wn <| Wz (.b true) (OpT rfl) <| Wm (.b true) rfl <| Wn <| Wn <| Wn ?_
   refine Wn <| Wn <| Wn <| Wn <| Wn <| Wz (.b true) (OpT rfl) <| Nn ?_
   exact AWP.weak (Weak.toK 1073741826 0 0 [0]) (J1 () hm)
  ·
   replace hm := cF hq11_0 hm
   refine Wz (.b false) (Oq hq11_0 rfl) <| Wz (.loc 0 3) (Ofa rfl) <| Wz (.i p0.Hi) (Old rfl) <| Wz (.b (decide (p0.Hi < 0))) (Obn rfl (fun _ => hb_lss (k := .i64))) <| Wz (.b (decide (p0.Hi < 0))) (OpF rfl) ?_
   rcases tf_ (decide (p0.Hi < 0)) with hq16_0 | hq16_0
   ·
    replace hm := cT hq16_0 hm
    refine Wz (.b true) (Oq hq16_0 rfl) <| Wn <| Wn <| Wn <| Wz (.b true) (OpT rfl) <| Wm (.b true) rfl <| Wn <| Wn <| Wn <| Wn <| Wn <| Wn <| Wn <| Wn ?_
    refine Wz (.b true) (OpT rfl) <| Nn ?_
    exact AWP.weak (Weak.toK 1073741826 0 0 [0]) (J1 () hm)
   ·
    replace hm := cF hq16_0 hm
    refine Wz (.b false) (Oq hq16_0 rfl) <| Wz (.loc 0 3) (Ofa rfl) <| Wz (.i p0.Hi) (Old rfl) <| Wz (.b (decide ((8 : Int) < p0.Hi))) (Obn rfl (fun _ => hb_gtr (k := .i64))) <| Wz (.b (decide ((8 : Int) < p0.Hi))) (OpF rfl) ?_
    rcases tf_ (decide ((8 : Int) < p0.Hi)) with hq21_0 | hq21_0
    ·
     replace hm := cT hq21_0 hm
     refine Wz (.b true) (Oq hq21_0 rfl) <| Wn <| Wn <| Wn <| Wn <| Wn <| Wn <| Wn <| Wn <| Wz (.b true) (OpT rfl) <| Nn ?_
     exact AWP.weak (Weak.toK 1073741826 0 0 [0]) (J1 () hm)
    ·
     replace hm := cF hq21_0 hm
     refine Wz (.b false) (Oq hq21_0 rfl) <| Wz (.loc 0 2) (Ofa rfl) <| Wz (.i p0.Lo) (Old rfl) <| Wz (.b (decide (p0.Lo = 1))) (Obn rfl (fun _ => hb_eql (k := .i64))) ?_
     rcases tf_ (decide (p0.Lo = 1)) with hq25_0 | hq25_0
     ·
      replace hm := cT hq25_0 hm
      refine Wz (.b true) (Oq hq25_0 rfl) <| Wz (.loc 0 3) (Ofa rfl) <| Wz (.i p0.Hi) (Old rfl) <| Wz (.b (decide (p0.Hi = 1))) (Obn rfl (fun _ => hb_eql (k := .i64))) <| Wz (.b (decide (p0.Hi = 1))) (OpT rfl) <| Wz (.b (decide (p0.Hi = 1))) (OpF rfl) <| Nk 1073741826 1 ⟨tp 1 (.loc 0 0::tp 28 (.b (decide (p0.Hi = 1))::tp 10 [])), [(.box [(.y p0.Kind), (.i p0.Kids), (.i p0.Lo), (.i p0.Hi), (.s p0.Var), (.s p0.Type_), (.l enc_GNode_ p0.Test)])], 0⟩ ?_
      rcases tf_ (decide (p0.Hi = 1)) with hc30_4 | hc30_4
      ·
       replace hm := cT hc30_4 hm
       refine AiT hc30_4 <| Sx <| Wm (.b false) rfl <| Nn <| Rt <| Tr ?_
       obtain rfl := Option.some.inj hm
       exact ret_i []
      ·
       replace hm := cF hc30_4 hm
       refine AiF hc30_4 <| Sk <| Tn ?_
       exact AWP.weak (Weak.toK 2 0 0 [0]) (J2 () hm)
     ·
      replace hm := cF hq25_0 hm
      refine Wz (.b false) (Oq hq25_0 rfl) <| Wn <| Wn <| Wn <| Wz (.b false) (OpF rfl) <| Wz (.b false) (OpF rfl) <| Nk 1073741826 1 ⟨tp 1 (.loc 0 0::tp 28 (.b false::tp 10 [])), [(.box [(.y p0.Kind), (.i p0.Kids), (.i p0.Lo), (.i p0.Hi), (.s p0.Var), (.s p0.Type_), (.l enc_GNode_ p0.Test)])], 0⟩ <| AWP.if_ false (by kernel_rfl) <| Sk <| Tn ?_
      exact AWP.weak (Weak.toK 2 0 0 [0]) (J2 () hm)

theorem ok_schema_letter (p0 : UInt8) (r : Bool) (h : m_schema_letter p0 = some r) : GCall Try.prog 44 [(.y p0)] [] (.b r) [] := by
 refine GCall.of_body (n := 9) (rs := [(.tmp 2)]) Try.func44 rfl rfl rfl <| Ato ⟨.y p0::tu 8 [], [], 0⟩ ?_
 have hm := h
 unfold m_schema_letter at hm
 refine Sx <| Wm (.b false) rfl <| Nk 1 0 ⟨.y p0::tp 8 [], [], 0⟩ <| Sx <| Wm (.y p0) rfl <| Wz (.b (decide ((97 : Int) ≤ ((p0.toNat : Nat) : Int)))) (Ob2 (.int .u8 97) (.int .u8 ((p0.toNat : Nat) : Int)) rfl (fun _ => hb_leq)) ?_
 rcases tf_ (decide ((97 : Int) ≤ ((p0.toNat : Nat) : Int))) with hq5_0 | hq5_0
 ·
  replace hm := cT hq5_0 hm
  refine Wz (.b true) (Oq hq5_0 rfl) <| Wm (.y p0) rfl <| Wz (.b (decide (((p0.toNat : Nat) : Int) ≤ 122))) (Ob2 (.int .u8 ((p0.toNat : Nat) : Int)) (.int .u8 122) rfl (fun _ => hb_leq)) <| Wz (.b (decide (((p0.toNat : Nat) : Int) ≤ 122))) (OpT rfl) <| Wm (.b (decide (((p0.toNat : Nat) : Int) ≤ 122))) rfl <| Nn <| Rt ?_
  obtain rfl := Option.some.inj hm
  exact ret_i []
 ·
  replace hm := cF hq5_0 hm
  refine Wz (.b false) (Oq hq5_0 rfl) <| Wn <| Wn <| Wz (.b false) (OpF rfl) <| Wm (.b false) rfl <| Nn <| Rt ?_
  obtain rfl := Option.some.inj hm
  exact ret_i []

theorem ok_schema_Reserved (p0 : (List UInt8)) (r : Bool) (h : m_schema_Reserved p0 = some r) : GCall Try.prog 45 [(.s p0)] [] (.b r) [] := by
 refine GCall.of_body (n := 15) (rs := [(.tmp 2)]) Try.func45 rfl rfl rfl <| Ato ⟨.s p0::tu 14 [], [], 0⟩ ?_
 have hm := h
 unfold m_schema_Reserved at hm
 refine Sx <| Wm (.b false) rfl <| Nk 1 0 ⟨.s p0::tp 14 [], [], 0⟩ <| Sq <| Sx <| Wm (.s p0) rfl <| Nk 8 0 ⟨tp 3 (.s p0::tp 11 []), [], 0⟩ <| Bk ?_
 refine AWP.cutJ (α := Bool) (fun x => match x with | y4_0 => (⟨tp 4 (.b y4_0::tp 10 []), [], 0⟩ : St)) (fun x => match x with | y4_0 => m_schema_Reserved_j0  y4_0 = some r) ?_ (fun J0 => ?_)
 ·
  rintro y4_0 hm
  try dsimp only at hm ⊢
  unfold m_schema_Reserved_j0 at hm
  rcases tf_ y4_0 with hc4_0 | hc4_0
  ·
   replace hm := cT hc4_0 hm
   refine AiT hc4_0 <| Sx <| Wm (.b true) rfl <| Nn <| Rt <| Ir <| Tr ?_
   obtain rfl := Option.some.inj hm
   exact ret_i []
  ·
   replace hm := cF hc4_0 hm
   refine AiF hc4_0 <| Sk <| Ino <| Tk 0 0 ⟨tp 15 [], [], 0⟩ <| Sx <| Wm (.b false) rfl <| Nn <| Rt ?_
   obtain rfl := Option.some.inj hm
   exact ret_i []
 refine Sq <| Sx <| Wz (.b (decide (p0 = ([119, 105, 116, 104, 105, 110] : List UInt8)))) (Ocs (lit_tf (by simp only [toS_inj, ne_eq])) (op_bin rfl (a1 := .string (toS p0)) (a2 := .string (toS ([119, 105, 116, 104, 105, 110] : List UInt8))) (by kernel_rfl) (by kernel_rfl) (fun _ => hb_seql))) <| Wm (.b (decide (p0 = ([119, 105, 116, 104, 105, 110] : List UInt8)))) rfl <| Nk 24 0 ⟨tp 3 (.s p0::.b (decide (p0 = ([119, 105, 116, 104, 105, 110] : List UInt8)))::tp 10 []), [], 0⟩ ?_
 rcases tf_ (decide (p0 = ([119, 105, 116, 104, 105, 110] : List UInt8))) with hc4_1 | hc4_1
 ·
  replace hm := cT hc4_1 hm
  refine AiT hc4_1 <| Sk <| Tn ?_
  exact AWP.weak (Weak.toK 16 0 0 []) (J0 (decide (p0 = ([119, 105, 116, 104, 105, 110] : List UInt8))) hm)
 ·
  replace hm := cF hc4_1 hm
  refine AiF hc4_1 <| Sx <| Wz (.b (decide (p0 = ([98, 121] : List UInt8)))) (Ocs (lit_tf (by simp only [toS_inj, ne_eq])) (op_bin rfl (a1 := .string (toS p0)) (a2 := .string (toS ([98, 121] : List UInt8))) (by kernel_rfl) (by kernel_rfl) (fun _ => hb_seql))) <| Wm (.b (decide (p0 = ([98, 121] : List UInt8)))) rfl <| Nk 24 0 ⟨tp 3 (.s p0::.b (decide (p0 = ([98, 121] : List UInt8)))::tp 10 []), [], 0⟩ ?_
  rcases tf_ (decide (p0 = ([98, 121] : List UInt8))) with hc4_2 | hc4_2
  ·
   replace hm := cT hc4_2 hm
   refine AiT hc4_2 <| Sk <| Tn ?_
   exact AWP.weak (Weak.toK 16 0 0 []) (J0 (decide (p0 = ([98, 121] : List UInt8))) hm)
  ·
   replace hm := cF hc4_2 hm
   refine AiF hc4_2 <| Sx <| Wz (.b (decide (p0 = ([97, 110, 100] : List UInt8)))) (Ocs (lit_tf (by simp only [toS_inj, ne_eq])) (op_bin rfl (a1 := .string (toS p0)) (a2 := .string (toS ([97, 110, 100] : List UInt8))) (by kernel_rfl) (by kernel_rfl) (fun _ => hb_seql))) <| Wm (.b (decide (p0 = ([97, 110, 100] : List UInt8)))) rfl <| Nk 24 0 ⟨tp 3 (.s p0::.b (decide (p0 = ([97, 110, 100] : List UInt8)))::tp 10 []), [], 0⟩ ?_
   rcases tf_ (decide (p0 = ([97, 110, 100] : List UInt8))) with hc4_3 | hc4_3
   ·
    replace hm := cT hc4_3 hm
    refine AiT hc4_3 <| Sk <| Tn ?_
    exact AWP.weak (Weak.toK 16 0 0 []) (J0 (decide (p0 = ([97, 110, 100] : List UInt8))) hm)
   ·
    replace hm := cF hc4_3 hm
    refine AiF hc4_3 <| Sx <| Wz (.b (decide (p0 = ([111, 114] : List UInt8)))) (Ocs (lit_tf (by simp only [toS_inj, ne_eq])) (op_bin rfl (a1 := .string (toS p0)) (a2 := .string (toS ([111, 114] : List UInt8))) (by kernel_rfl) (by kernel_rfl) (fun _ => hb_seql))) <| Wm (.b (decide (p0 = ([111, 114] : List UInt8)))) rfl <| Nk 24 0 ⟨tp 3 (.s p0::.b (decide (p0 = ([111, 114] : List UInt8)))::tp 10 []), [], 0⟩ ?_
    rcases tf_ (decide (p0 = ([111, 114] : List UInt8))) with hc4_4 | hc4_4
    ·
     replace hm := cT hc4_4 hm
     refine AiT hc4_4 <| Sk <| Tn ?_
     exact AWP.weak (Weak.toK 16 0 0 []) (J0 (decide (p0 = ([111, 114] : List UInt8))) hm)
    ·
     replace hm := cF hc4_4 hm
     refine AiF hc4_4 <| Sx <| Wz (.b (decide (p0 = ([110, 111, 116] : List UInt8)))) (Ocs (lit_tf (by simp only [toS_inj, ne_eq])) (op_bin rfl (a1 := .string (toS p0)) (a2 := .string (toS ([110, 111, 116] : List UInt8))) (by kernel_rfl) (by kernel_rfl) (fun _ => hb_seql))) <| Wm (.b (decide (p0 = ([110, 111, 116] : List UInt8)))) rfl <| Nk 24 0 ⟨tp 3 (.s p0::.b (decide (p0 = ([110, 111, 116] : List UInt8)))::tp 10 []), [], 0⟩ ?_
     rcases tf_ (decide (p0 = ([110, 111, 116] : List UInt8))) with hc4_5 | hc4_5
     ·
      replace hm := cT hc4_5 hm
      refine AiT hc4_5 <| Sk <| Tn ?_
      exact AWP.weak (Weak.toK 16 0 0 []) (J0 (decide (p0 = ([110, 111, 116] : List UInt8))) hm)
     ·
      replace hm := cF hc4_5 hm
      refine AiF hc4_5 <| Sx <| Wz (.b (decide (p0 = ([97, 110, 121] : List UInt8)))) (Ocs (lit_tf (by simp only [toS_inj, ne_eq])) (op_bin rfl (a1 := .string (toS p0)) (a2 := .string (toS ([97, 110, 121] : List UInt8))) (by kernel_rfl) (by kernel_rfl) (fun _ => hb_seql))) <| Wm (.b (decide (p0 = ([97, 110, 121] : List UInt8)))) rfl <| Nk 24 0 ⟨tp 3 (.s p0::.b (decide (p0 = ([97, 110, 121] : List UInt8)))::tp 10 []), [], 0⟩ ?_
      rcases tf_ (decide (p0 = ([97, 110, 121] : List UInt8))) with hc4_6 | hc4_6
      ·
       replace hm := cT hc4_6 hm
       refine AiT hc4_6 <| Sk <| Tn ?_
       exact AWP.weak (Weak.toK 16 0 0 []) (J0 (decide (p0 = ([97, 110, 121] : List UInt8))) hm)
      ·
       replace hm := cF hc4_6 hm
       refine AiF hc4_6 <| Sx <| Wz (.b (decide (p0 = ([110, 101, 120, 116] : List UInt8)))) (Ocs (lit_tf (by simp only [toS_inj, ne_eq])) (op_bin rfl (a1 := .string (toS p0)) (a2 := .string (toS ([110, 101, 120, 116] : List UInt8))) (by kernel_rfl) (by kernel_rfl) (fun _ => hb_seql))) <| Wm (.b (decide (p0 = ([110, 101, 120, 116] : List UInt8)))) rfl <| Nk 24 0 ⟨tp 3 (.s p0::.b (decide (p0 = ([110, 101, 120, 116] : List UInt8)))::tp 10 []), [], 0⟩ ?_
       rcases tf_ (decide (p0 = ([110, 101, 120, 116] : List UInt8))) with hc4_7 | hc4_7
       ·
        replace hm := cT hc4_7 hm
        refine AiT hc4_7 <| Sk <| Tn ?_
        exact AWP.weak (Weak.toK 16 0 0 []) (J0 (decide (p0 = ([110, 101, 120, 116] : List UInt8))) hm)
       ·
        replace hm := cF hc4_7 hm
        refine AiF hc4_7 <| Sx <| Wz (.b (decide (p0 = ([115, 116, 114, 105, 99, 116] : List UInt8)))) (Ocs (lit_tf (by simp only [toS_inj, ne_eq])) (op_bin rfl (a1 := .string (toS p0)) (a2 := .string (toS ([115, 116, 114, 105, 99, 116] : List UInt8))) (by kernel_rfl) (by kernel_rfl) (fun _ => hb_seql))) <| Wm (.b (decide (p0 = ([115, 116, 114, 105, 99, 116] : List UInt8)))) rfl <| Nk 24 0 ⟨tp 3 (.s p0::.b (decide (p0 = ([115, 116, 114, 105, 99, 116] : List UInt8)))::tp 10 []), [], 0⟩ ?_
        rcases tf_ (decide (p0 = ([115, 116, 114, 105, 99, 116] : List UInt8))) with hc4_8 | hc4_8
        ·
         replace hm := cT hc4_8 hm
         refine AiT hc4_8 <| Sk <| Tn ?_
         exact AWP.weak (Weak.toK 16 0 0 []) (J0 (decide (p0 = ([115, 116, 114, 105, 99, 116] : List UInt8))) hm)
        ·
         replace hm := cF hc4_8 hm
         refine AiF hc4_8 <| Sx <| Wz (.b (decide (p0 = ([116, 114, 117, 101] : List UInt8)))) (Ocs (lit_tf (by simp only [toS_inj, ne_eq])) (op_bin rfl (a1 := .string (toS p0)) (a2 := .string (toS ([116, 114, 117, 101] : List UInt8))) (by kernel_rfl) (by kernel_rfl) (fun _ => hb_seql))) <| Wm (.b (decide (p0 = ([116, 114, 117, 101] : List UInt8)))) rfl <| Nk 24 0 ⟨tp 3 (.s p0::.b (decide (p0 = ([116, 114, 117, 101] : List UInt8)))::tp 10 []), [], 0⟩ ?_
         rcases tf_ (decide (p0 = ([116, 114, 117, 101] : List UInt8))) with hc4_9 | hc4_9
         ·
          replace hm := cT hc4_9 hm
          refine AiT hc4_9 <| Sk <| Tn ?_
          exact AWP.weak (Weak.toK 16 0 0 []) (J0 (decide (p0 = ([116, 114, 117, 101] : List UInt8))) hm)
         ·
          replace hm := cF hc4_9 hm
          refine AiF hc4_9 <| Tx <| Wz (.b (decide (p0 = ([102, 97, 108, 115, 101] : List UInt8)))) (Ocs (lit_tf (by simp only [toS_inj, ne_eq])) (op_bin rfl (a1 := .string (toS p0)) (a2 := .string (toS ([102, 97, 108, 115, 101] : List UInt8))) (by kernel_rfl) (by kernel_rfl) (fun _ => hb_seql))) <| Wm (.b (decide (p0 = ([102, 97, 108, 115, 101] : List UInt8)))) rfl <| Nn ?_
          exact AWP.weak (Weak.toK 16 0 0 []) (J0 (decide (p0 = ([102, 97, 108, 115, 101] : List UInt8))) hm)

theorem ok_schema_tail (p0 : UInt8) (r : Bool) (h : m_schema_tail p0 = some r) : GCall Try.prog 46 [(.y p0)] [] (.b r) [] := by
 refine GCall.of_body (n := 17) (rs := [(.tmp 2)]) Try.func46 rfl rfl rfl <| Ato ⟨.y p0::tu 16 [], [], 0⟩ ?_
 have hm := h
 unfold m_schema_tail at hm
 refine Sx <| Wm (.b false) rfl <| Nk 1 0 ⟨.y p0::tp 16 [], [], 0⟩ <| Sx <| Wm (.y p0) rfl ?_
 obtain ⟨r4_0, hr4_0, hm⟩ := bnd hm
 refine Wz (.b r4_0) (Ocf [] [] [] 0 (ok_schema_letter p0 r4_0 hr4_0) (fun a w => Try.call44 a w) rfl trivial) ?_
 rcases tf_ r4_0 with hq5_0 | hq5_0
 ·
  replace hm := cT hq5_0 hm
  refine Wz (.b true) (Oq hq5_0 rfl) <| Wn <| Wn <| Wn <| Wn <| Wn <| Wn <| Wz (.b true) (OpT rfl) <| Wm (.b true) rfl <| Wn <| Wn <| Wz (.b true) (OpT rfl) <| Wm (.b true) rfl <| Nn ?_
  refine Rt ?_
  obtain rfl := Option.some.inj hm
  exact ret_i []
 ·
  replace hm := cF hq5_0 hm
  refine Wz (.b false) (Oq hq5_0 rfl) <| Wm (.y p0) rfl <| Wz (.b (decide ((48 : Int) ≤ ((p0.toNat : Nat) : Int)))) (Ob2 (.int .u8 48) (.int .u8 ((p0.toNat : Nat) : Int)) rfl (fun _ => hb_leq)) ?_
  rcases tf_ (decide ((48 : Int) ≤ ((p0.toNat : Nat) : Int))) with hq8_0 | hq8_0
  ·
   replace hm := cT hq8_0 hm
   refine Wz (.b true) (Oq hq8_0 rfl) <| Wm (.y p0) rfl <| Wz (.b (decide (((p0.toNat : Nat) : Int) ≤ 57))) (Ob2 (.int .u8 ((p0.toNat : Nat) : Int)) (.int .u8 57) rfl (fun _ => hb_leq)) <| Wz (.b (decide (((p0.toNat : Nat) : Int) ≤ 57))) (OpT rfl) <| Wz (.b (decide (((p0.toNat : Nat) : Int) ≤ 57))) (OpF rfl) ?_
   rcases tf_ (decide (((p0.toNat : Nat) : Int) ≤ 57)) with hq13_0 | hq13_0
   ·
    replace hm := cT hq13_0 hm
    refine Wz (.b true) (Oq hq13_0 rfl) <| Wn <| Wn <| Wz (.b true) (OpT rfl) <| Wm (.b true) rfl <| Nn <| Rt ?_
    obtain rfl := Option.some.inj hm
    exact ret_i []
   ·
    replace hm := cF hq13_0 hm
    refine Wz (.b false) (Oq hq13_0 rfl) <| Wm (.y p0) rfl <| Wz (.b (decide (((p0.toNat : Nat) : Int) = 95))) (Ob2 (.int .u8 ((p0.toNat : Nat) : Int)) (.int .u8 95) rfl (fun _ => hb_eql)) <| Wz (.b (decide (((p0.toNat : Nat) : Int) = 95))) (OpF rfl) <| Wm (.b (decide (((p0.toNat : Nat) : Int) = 95))) rfl <| Nn <| Rt ?_
    obtain rfl := Option.some.inj hm
    exact ret_i []
  ·
   replace hm := cF hq8_0 hm
   refine Wz (.b false) (Oq hq8_0 rfl) <| Wn <| Wn <| Wz (.b false) (OpF rfl) <| Wz (.b false) (OpF rfl) <| Wm (.b false) rfl <| Wm (.y p0) rfl <| Wz (.b (decide (((p0.toNat : Nat) : Int) = 95))) (Ob2 (.int .u8 ((p0.toNat : Nat) : Int)) (.int .u8 95) rfl (fun _ => hb_eql)) <| Wz (.b (decide (((p0.toNat : Nat) : Int) = 95))) (OpF rfl) <| Wm (.b (decide (((p0.toNat : Nat) : Int) = 95))) rfl <| Nn <| Rt ?_
   obtain rfl := Option.some.inj hm
   exact ret_i []

theorem ok_schema_Name (p0 : (List UInt8)) (r : Bool) (h : m_schema_Name p0 = some r) : GCall Try.prog 26 [(.s p0)] [] (.b r) [] := by
 refine GCall.of_body (n := 32) (rs := [(.tmp 2)]) Try.func26 rfl rfl rfl <| Ato ⟨.s p0::tu 31 [], [], 0⟩ ?_
 have hm := h
 unfold m_schema_Name at hm
 refine Sx <| Wm (.b false) rfl <| Nk 1 0 ⟨.s p0::tp 31 [], [], 0⟩ <| Sq ?_
 refine AWP.cutJ (α := Unit) (fun x => match x with | () => (⟨.s p0::tp 19 (.b true::tp 11 []), [], 0⟩ : St)) (fun x => match x with | () => m_schema_Name_j1  = some r) ?_ (fun J1 => ?_)
 ·
  rintro ⟨⟩ hm
  try dsimp only at hm ⊢
  unfold m_schema_Name_j1 at hm
  refine AWP.if_ true (by kernel_rfl) <| Sx <| Wm (.b false) rfl <| Nn <| Rt <| Tr ?_
  obtain rfl := Option.some.inj hm
  exact ret_i []
 refine Sx <| Wm (.s p0) rfl <| Wz (.b (decide (p0 = ([] : List UInt8)))) (Ocs (lit_tf (by simp only [toS_inj, ne_eq])) (op_bin rfl (a1 := .string (toS p0)) (a2 := .string (toS ([] : List UInt8))) (by kernel_rfl) (by kernel_rfl) (fun _ => hb_seql))) ?_
 rcases tf_ (decide (p0 = ([] : List UInt8))) with hq6_0 | hq6_0
 ·
  replace hm := cT hq6_0 hm
  refine Wz (.b true) (Oq hq6_0 rfl) <| Wn <| Wn <| Wn <| Wz (.b true) (OpT rfl) <| Wm (.b true) rfl <| Wn <| Wn <| Wn <| Wn <| Wz (.b true) (OpT rfl) <| Wm (.b true) rfl <| Wn <| Wn ?_
  refine Wz (.b true) (OpT rfl) <| Nn ?_
  exact AWP.weak (Weak.toK 1048577 0 0 []) (J1 () hm)
 ·
  replace hm := cF hq6_0 hm
  refine Wz (.b false) (Oq hq6_0 rfl) <| Wm (.s p0) rfl <| Wz (.i ((List.length p0 : Nat) : Int)) (Oln rfl) <| Wz (.b (decide ((12 : Int) < ((List.length p0 : Nat) : Int)))) (Obn rfl (fun _ => hb_gtr (k := .i64))) <| Wz (.b (decide ((12 : Int) < ((List.length p0 : Nat) : Int)))) (OpF rfl) ?_
  rcases tf_ (decide ((12 : Int) < ((List.length p0 : Nat) : Int))) with hq11_0 | hq11_0
  ·
   replace hm := cT hq11_0 hm
   refine Wz (.b true) (Oq hq11_0 rfl) <| Wn <| Wn <| Wn <| Wn <| Wz (.b true) (OpT rfl) <| Wm (.b true) rfl <| Wn <| Wn <| Wz (.b true) (OpT rfl) <| Nn ?_
   exact AWP.weak (Weak.toK 1048577 0 0 []) (J1 () hm)
  ·
   replace hm := cF hq11_0 hm
   refine Wz (.b false) (Oq hq11_0 rfl) <| Wm (.s p0) rfl ?_
   obtain ⟨x13_0, hx13_0, hm⟩ := bnd hm
   obtain ⟨hx13_0i, hx13_0g⟩ := geti_some hx13_0
   refine Wz (.y x13_0) (Ocs (by kernel_rfl) (op_index_str rfl (by kernel_rfl) (s := toS p0) (by kernel_rfl) (k := .i64) (iv := 0) (by kernel_rfl) (i := (Int.toNat 0)) (hx13_0i) (b := x13_0) (hx13_0g))) ?_
   obtain ⟨r14_0, hr14_0, hm⟩ := bnd hm
   refine Wz (.b r14_0) (Ocf [] [] [] 0 (ok_schema_letter x13_0 r14_0 hr14_0) (fun a w => Try.call44 a w) rfl trivial) <| Wz (.b (!r14_0)) (Ocs (by kernel_rfl) (op_un rfl (a1 := .bool r14_0) (by kernel_rfl) (fun _ => hu_not))) <| Wz (.b (!r14_0)) (OpF rfl) ?_
   rcases tf_ (!r14_0) with hq17_0 | hq17_0
   ·
    replace hm := cT hq17_0 hm
    refine Wz (.b true) (Oq hq17_0 rfl) <| Wn <| Wn <| Wz (.b true) (OpT rfl) <| Nn ?_
    exact AWP.weak (Weak.toK 1048577 0 0 []) (J1 () hm)
   ·
    replace hm := cF hq17_0 hm
    refine Wz (.b false) (Oq hq17_0 rfl) <| Wm (.s p0) rfl ?_
    obtain ⟨r19_0, hr19_0, hm⟩ := bnd hm
    refine Wz (.b r19_0) (Ocf [] [] [] 0 (ok_schema_Reserved p0 r19_0 hr19_0) (fun a w => Try.call45 a w) rfl trivial) <| Wz (.b r19_0) (OpF rfl) <| Nk 1048577 0 ⟨.s p0::tp 19 (.b r19_0::tp 11 []), [], 0⟩ ?_
    rcases tf_ r19_0 with hc20_5 | hc20_5
    ·
     replace hm := cT hc20_5 hm
     refine AiT hc20_5 <| Sx <| Wm (.b false) rfl <| Nn <| Rt <| Tr ?_
     obtain rfl := Option.some.inj hm
     exact ret_i []
    ·
     replace hm := cF hc20_5 hm
     refine AiF hc20_5 <| Sk <| Tk 1 0 ⟨.s p0::tp 31 [], [], 0⟩ <| Sq <| Sx <| Wm (.i 1) rfl <| Nk 9 0 ⟨.s p0::tp 2 (.i 1::tp 28 []), [], 0⟩ <| Bk ?_
     refine AWP.loopI (α := Nat × Int)
       (fun (fu_2, y3_2) => (⟨.s p0::tp 2 (.i y3_2::tp 28 []), [], 0⟩ : St))
       (fun (fu_2, y3_2) => m_schema_Name_l2 p0 fu_2 y3_2 = some r)
       (fun (fu_2, y3_2) => fu_2) (1152921504606846976, 1)
       (Weak.toK 9 0 0 []) hm ?_
     rintro ⟨fu_2, y3_2⟩ n_2 hm ih_2
     try dsimp only at hm ih_2 ⊢
     cases fu_2 with
     | zero => exact absurd hm (by unfold m_schema_Name_l2; simp)
     | succ fu_2 =>
      unfold m_schema_Name_l2 at hm
      refine Sq <| Sx <| Wm (.i y3_2) rfl <| Wm (.s p0) rfl <| Wz (.i ((List.length p0 : Nat) : Int)) (Oln rfl) <| Wz (.b (decide (y3_2 < ((List.length p0 : Nat) : Int)))) (Obn rfl (fun _ => hb_lss (k := .i64))) <| Nk 16777225 0 ⟨.s p0::tp 2 (.i y3_2::tp 20 (.b (decide (y3_2 < ((List.length p0 : Nat) : Int)))::tp 7 [])), [], 0⟩ ?_
      rcases tf_ (decide (y3_2 < ((List.length p0 : Nat) : Int))) with hc24_6 | hc24_6
      ·
       replace hm := cT hc24_6 hm
       refine AiT hc24_6 <| Sk <| Tk 9 0 ⟨.s p0::tp 2 (.i y3_2::tp 28 []), [], 0⟩ <| Sq <| Bk <| Sx <| Wm (.s p0) rfl <| Wm (.i y3_2) rfl ?_
       obtain ⟨x29_4, hx29_4, hm⟩ := bnd hm
       obtain ⟨hx29_4i, hx29_4g⟩ := geti_some hx29_4
       refine Wz (.y x29_4) (Ocs (by kernel_rfl) (op_index_str rfl (by kernel_rfl) (s := toS p0) (by kernel_rfl) (k := .i64) (iv := y3_2) (by kernel_rfl) (i := (Int.toNat y3_2)) (hx29_4i) (b := x29_4) (hx29_4g))) ?_
       obtain ⟨r30_4, hr30_4, hm⟩ := bnd hm
       refine Wz (.b r30_4) (Ocf [] [] [] 0 (ok_schema_tail x29_4 r30_4 hr30_4) (fun a w => Try.call46 a w) rfl trivial) <| Wz (.b (!r30_4)) (Ocs (by kernel_rfl) (op_un rfl (a1 := .bool r30_4) (by kernel_rfl) (fun _ => hu_not))) <| Nk 2147483657 0 ⟨.s p0::tp 2 (.i y3_2::tp 27 (.b (!r30_4)::[])), [], 0⟩ ?_
       rcases tf_ (!r30_4) with hc31_7 | hc31_7
       ·
        replace hm := cT hc31_7 hm
        refine AiT hc31_7 <| Sx <| Wm (.b false) rfl <| Nn <| Rt <| Ir <| Tr <| RoundK.ret <| Ir <| Tr ?_
        obtain rfl := Option.some.inj hm
        exact ret_i []
       ·
        replace hm := cF hc31_7 hm
        refine AiF hc31_7 <| Sk <| Ino <| Tk 9 0 ⟨.s p0::tp 2 (.i y3_2::tp 28 []), [], 0⟩ <| Tx <| Wm (.i y3_2) rfl <| Wz (.i (W6 (y3_2 + 1))) (Obn rfl (fun _ => hb_add (k := .i64))) <| Wm (.i (W6 (y3_2 + 1))) rfl <| Wn0 <| RoundK.normal ?_
        exact Rounds.weak (Weak.toK 9 0 0 []) (ih_2 (fu_2, (W6 (y3_2 + 1))) hm (Nat.lt_succ_self _))
      ·
       replace hm := cF hc24_6 hm
       refine AiF hc24_6 <| AWP.exit <| Then.exit <| RoundK.exit <| InBlock.same <| Tk 0 0 ⟨tp 32 [], [], 0⟩ <| Sx <| Wm (.b true) rfl <| Nn <| Rt ?_
       obtain rfl := Option.some.inj hm
       exact ret_i []

theorem ok_pred_Node_stands (p0 : GNode_) (p1 : Int) (r : Bool) (h : m_pred_Node_stands p0 p1 = some r) : GCall Try.prog 82 [(.agg [(.y p0.Kind), (.y p0.Op), (.s p0.Var), (.s p0.Name), (.y p0.Val.Kind), (.i p0.Val.N), (.u p0.Val.Bits), (.s p0.Val.Text)]), (.i p1)] [] (.b r) [] := by
 refine GCall.of_body (n := 34) (rs := [(.tmp 4)]) Try.func82 rfl rfl rfl <| Ato ⟨.agg [(.y p0.Kind), (.y p0.Op), (.s p0.Var), (.s p0.Name), (.y p0.Val.Kind), (.i p0.Val.N), (.u p0.Val.Bits), (.s p0.Val.Text)]::.i p1::tu 32 [], [], 0⟩ ?_
 have hm := h
 unfold m_pred_Node_stands at hm
 refine Sx <| Wy (.loc 0 0) [(0, (.box [(.y p0.Kind), (.y p0.Op), (.s p0.Var), (.s p0.Name), (.y p0.Val.Kind), (.i p0.Val.N), (.u p0.Val.Bits), (.s p0.Val.Text)]))] (Obx rfl) <| Wm (.b false) rfl <| Nk 6 1 ⟨tp 1 (.i p1::.loc 0 0::tp 31 []), [(.box [(.y p0.Kind), (.y p0.Op), (.s p0.Var), (.s p0.Name), (.y p0.Val.Kind), (.i p0.Val.N), (.u p0.Val.Bits), (.s p0.Val.Text)])], 0⟩ <| Sq <| Sx <| Wm (.i p1) rfl <| Nk 36 1 ⟨tp 2 (.loc 0 0::tp 2 (.i p1::tp 28 [])), [(.box [(.y p0.Kind), (.y p0.Op), (.s p0.Var), (.s p0.Name), (.y p0.Val.Kind), (.i p0.Val.N), (.u p0.Val.Bits), (.s p0.Val.Text)])], 0⟩ <| Bk <| Sx <| Wz (.b (decide (p1 = 0))) (Obn rfl (fun _ => hb_eql (k := .i64))) <| Wm (.b (decide (p1 = 0))) rfl <| Nk 100 1 ⟨tp 2 (.loc 0 0::tp 2 (.i p1::.b (decide (p1 = 0))::tp 27 [])), [(.box [(.y p0.Kind), (.y p0.Op), (.s p0.Var), (.s p0.Name), (.y p0.Val.Kind), (.i p0.Val.N), (.u p0.Val.Bits), (.s p0.Val.Text)])], 0⟩ ?_
 rcases tf_ (decide (p1 = 0)) with hc6_3 | hc6_3
 ·
  replace hm := cT hc6_3 hm
  refine AiT hc6_3 <| Sx <| Wz (.loc 0 0) (Ofa rfl) <| Wz (.y p0.Kind) (Old rfl) <| Wz (.b (decide ((1 : Int) ≤ ((p0.Kind.toNat : Nat) : Int)))) (Ob2 (.int .u8 1) (.int .u8 ((p0.Kind.toNat : Nat) : Int)) rfl (fun _ => hb_leq)) ?_
  rcases tf_ (decide ((1 : Int) ≤ ((p0.Kind.toNat : Nat) : Int))) with hq11_0 | hq11_0
  ·
   replace hm := cT hq11_0 hm
   refine Wz (.b true) (Oq hq11_0 rfl) <| Wz (.loc 0 0) (Ofa rfl) <| Wz (.y p0.Kind) (Old rfl) <| Wz (.b (decide (((p0.Kind.toNat : Nat) : Int) ≤ 4))) (Ob2 (.int .u8 ((p0.Kind.toNat : Nat) : Int)) (.int .u8 4) rfl (fun _ => hb_leq)) <| Wz (.b (decide (((p0.Kind.toNat : Nat) : Int) ≤ 4))) (OpT rfl) <| Wm (.b (decide (((p0.Kind.toNat : Nat) : Int) ≤ 4))) rfl <| Nn <| Rt <| Ir <| Tr ?_
   obtain rfl := Option.some.inj hm
   exact ret_i []
  ·
   replace hm := cF hq11_0 hm
   refine Wz (.b false) (Oq hq11_0 rfl) <| Wn <| Wn <| Wn <| Wz (.b false) (OpF rfl) <| Wm (.b false) rfl <| Nn <| Rt <| Ir <| Tr ?_
   obtain rfl := Option.some.inj hm
   exact ret_i []
 ·
  replace hm := cF hc6_3 hm
  refine AiF hc6_3 <| Sx <| Wz (.b (decide (p1 = 1))) (Obn rfl (fun _ => hb_eql (k := .i64))) <| Wm (.b (decide (p1 = 1))) rfl <| Nk 65540 1 ⟨tp 2 (.loc 0 0::tp 13 (.b (decide (p1 = 1))::tp 17 [])), [(.box [(.y p0.Kind), (.y p0.Op), (.s p0.Var), (.s p0.Name), (.y p0.Val.Kind), (.i p0.Val.N), (.u p0.Val.Bits), (.s p0.Val.Text)])], 0⟩ ?_
  rcases tf_ (decide (p1 = 1)) with hc16_4 | hc16_4
  ·
   replace hm := cT hc16_4 hm
   refine AiT hc16_4 <| Sx <| Wz (.loc 0 0) (Ofa rfl) <| Wz (.y p0.Kind) (Old rfl) <| Wz (.b (decide ((5 : Int) ≤ ((p0.Kind.toNat : Nat) : Int)))) (Ob2 (.int .u8 5) (.int .u8 ((p0.Kind.toNat : Nat) : Int)) rfl (fun _ => hb_leq)) ?_
   rcases tf_ (decide ((5 : Int) ≤ ((p0.Kind.toNat : Nat) : Int))) with hq21_1 | hq21_1
   ·
    replace hm := cT hq21_1 hm
    refine Wz (.b true) (Oq hq21_1 rfl) <| Wz (.loc 0 0) (Ofa rfl) <| Wz (.y p0.Kind) (Old rfl) <| Wz (.b (decide (((p0.Kind.toNat : Nat) : Int) ≤ 9))) (Ob2 (.int .u8 ((p0.Kind.toNat : Nat) : Int)) (.int .u8 9) rfl (fun _ => hb_leq)) <| Wz (.b (decide (((p0.Kind.toNat : Nat) : Int) ≤ 9))) (OpT rfl) <| Wm (.b (decide (((p0.Kind.toNat : Nat) : Int) ≤ 9))) rfl <| Nn <| Rt <| Ir <| Tr ?_
    obtain rfl := Option.some.inj hm
    exact ret_i []
   ·
    replace hm := cF hq21_1 hm
    refine Wz (.b false) (Oq hq21_1 rfl) <| Wn <| Wn <| Wn <| Wz (.b false) (OpF rfl) <| Wm (.b false) rfl <| Nn <| Rt <| Ir <| Tr ?_
    obtain rfl := Option.some.inj hm
    exact ret_i []
  ·
   replace hm := cF hc16_4 hm
   refine AiF hc16_4 <| Sk <| Ino <| Tk 4 1 ⟨tp 2 (.loc 0 0::tp 31 []), [(.box [(.y p0.Kind), (.y p0.Op), (.s p0.Var), (.s p0.Name), (.y p0.Val.Kind), (.i p0.Val.N), (.u p0.Val.Bits), (.s p0.Val.Text)])], 0⟩ <| Sx <| Wz (.loc 0 0) (Ofa rfl) <| Wz (.y p0.Kind) (Old rfl) <| Wz (.b (decide ((7 : Int) ≤ ((p0.Kind.toNat : Nat) : Int)))) (Ob2 (.int .u8 7) (.int .u8 ((p0.Kind.toNat : Nat) : Int)) rfl (fun _ => hb_leq)) ?_
   rcases tf_ (decide ((7 : Int) ≤ ((p0.Kind.toNat : Nat) : Int))) with hq29_2 | hq29_2
   ·
    replace hm := cT hq29_2 hm
    refine Wz (.b true) (Oq hq29_2 rfl) <| Wz (.loc 0 0) (Ofa rfl) <| Wz (.y p0.Kind) (Old rfl) <| Wz (.b (decide (((p0.Kind.toNat : Nat) : Int) ≤ 9))) (Ob2 (.int .u8 ((p0.Kind.toNat : Nat) : Int)) (.int .u8 9) rfl (fun _ => hb_leq)) <| Wz (.b (decide (((p0.Kind.toNat : Nat) : Int) ≤ 9))) (OpT rfl) <| Wm (.b (decide (((p0.Kind.toNat : Nat) : Int) ≤ 9))) rfl <| Nn <| Rt ?_
    obtain rfl := Option.some.inj hm
    exact ret_i []
   ·
    replace hm := cF hq29_2 hm
    refine Wz (.b false) (Oq hq29_2 rfl) <| Wn <| Wn <| Wn <| Wz (.b false) (OpF rfl) <| Wm (.b false) rfl <| Nn <| Rt ?_
    obtain rfl := Option.some.inj hm
    exact ret_i []

theorem ok_compare_Sign (p0 : UInt8) (r : (List UInt8)) (h : m_compare_Sign p0 = some r) : GCall Try.prog 73 [(.y p0)] [] (.s r) [] := by
 refine GCall.of_body (n := 16) (rs := [(.tmp 2)]) Try.func73 rfl rfl rfl <| Ato ⟨.y p0::tu 15 [], [], 0⟩ ?_
 have hm := h
 unfold m_compare_Sign at hm
 refine Sx <| Wm (.s ([] : List UInt8)) rfl <| Nk 1 0 ⟨.y p0::tp 15 [], [], 0⟩ <| Sq <| Sx <| Wm (.y p0) rfl <| Nk 8 0 ⟨tp 3 (.y p0::tp 12 []), [], 0⟩ <| Bk <| Sx <| Wz (.b (decide (((p0.toNat : Nat) : Int) = 1))) (Ob2 (.int .u8 ((p0.toNat : Nat) : Int)) (.int .u8 1) rfl (fun _ => hb_eql)) <| Wm (.b (decide (((p0.toNat : Nat) : Int) = 1))) rfl <| Nk 24 0 ⟨tp 3 (.y p0::.b (decide (((p0.toNat : Nat) : Int) = 1))::tp 11 []), [], 0⟩ ?_
 rcases tf_ (decide (((p0.toNat : Nat) : Int) = 1)) with hc4_0 | hc4_0
 ·
  replace hm := cT hc4_0 hm
  refine AiT hc4_0 <| Sx <| Wm (.s ([61] : List UInt8)) rfl <| Nn <| Rt <| Ir <| Tr ?_
  obtain rfl := Option.some.inj hm
  exact ret_i []
 ·
  replace hm := cF hc4_0 hm
  refine AiF hc4_0 <| Sx <| Wz (.b (decide (((p0.toNat : Nat) : Int) = 2))) (Ob2 (.int .u8 ((p0.toNat : Nat) : Int)) (.int .u8 2) rfl (fun _ => hb_eql)) <| Wm (.b (decide (((p0.toNat : Nat) : Int) = 2))) rfl <| Nk 72 0 ⟨tp 3 (.y p0::tp 2 (.b (decide (((p0.toNat : Nat) : Int) = 2))::tp 9 [])), [], 0⟩ ?_
  rcases tf_ (decide (((p0.toNat : Nat) : Int) = 2)) with hc6_1 | hc6_1
  ·
   replace hm := cT hc6_1 hm
   refine AiT hc6_1 <| Sx <| Wm (.s ([33, 61] : List UInt8)) rfl <| Nn <| Rt <| Ir <| Tr ?_
   obtain rfl := Option.some.inj hm
   exact ret_i []
  ·
   replace hm := cF hc6_1 hm
   refine AiF hc6_1 <| Sx <| Wz (.b (decide (((p0.toNat : Nat) : Int) = 3))) (Ob2 (.int .u8 ((p0.toNat : Nat) : Int)) (.int .u8 3) rfl (fun _ => hb_eql)) <| Wm (.b (decide (((p0.toNat : Nat) : Int) = 3))) rfl <| Nk 264 0 ⟨tp 3 (.y p0::tp 4 (.b (decide (((p0.toNat : Nat) : Int) = 3))::tp 7 [])), [], 0⟩ ?_
   rcases tf_ (decide (((p0.toNat : Nat) : Int) = 3)) with hc8_2 | hc8_2
   ·
    replace hm := cT hc8_2 hm
    refine AiT hc8_2 <| Sx <| Wm (.s ([60] : List UInt8)) rfl <| Nn <| Rt <| Ir <| Tr ?_
    obtain rfl := Option.some.inj hm
    exact ret_i []
   ·
    replace hm := cF hc8_2 hm
    refine AiF hc8_2 <| Sx <| Wz (.b (decide (((p0.toNat : Nat) : Int) = 4))) (Ob2 (.int .u8 ((p0.toNat : Nat) : Int)) (.int .u8 4) rfl (fun _ => hb_eql)) <| Wm (.b (decide (((p0.toNat : Nat) : Int) = 4))) rfl <| Nk 1032 0 ⟨tp 3 (.y p0::tp 6 (.b (decide (((p0.toNat : Nat) : Int) = 4))::tp 5 [])), [], 0⟩ ?_
    rcases tf_ (decide (((p0.toNat : Nat) : Int) = 4)) with hc10_3 | hc10_3
    ·
     replace hm := cT hc10_3 hm
     refine AiT hc10_3 <| Sx <| Wm (.s ([60, 61] : List UInt8)) rfl <| Nn <| Rt <| Ir <| Tr ?_
     obtain rfl := Option.some.inj hm
     exact ret_i []
    ·
     replace hm := cF hc10_3 hm
     refine AiF hc10_3 <| Sx <| Wz (.b (decide (((p0.toNat : Nat) : Int) = 5))) (Ob2 (.int .u8 ((p0.toNat : Nat) : Int)) (.int .u8 5) rfl (fun _ => hb_eql)) <| Wm (.b (decide (((p0.toNat : Nat) : Int) = 5))) rfl <| Nk 4104 0 ⟨tp 3 (.y p0::tp 8 (.b (decide (((p0.toNat : Nat) : Int) = 5))::tp 3 [])), [], 0⟩ ?_
     rcases tf_ (decide (((p0.toNat : Nat) : Int) = 5)) with hc12_4 | hc12_4
     ·
      replace hm := cT hc12_4 hm
      refine AiT hc12_4 <| Sx <| Wm (.s ([62] : List UInt8)) rfl <| Nn <| Rt <| Ir <| Tr ?_
      obtain rfl := Option.some.inj hm
      exact ret_i []
     ·
      replace hm := cF hc12_4 hm
      refine AiF hc12_4 <| Sx <| Wz (.b (decide (((p0.toNat : Nat) : Int) = 6))) (Ob2 (.int .u8 ((p0.toNat : Nat) : Int)) (.int .u8 6) rfl (fun _ => hb_eql)) <| Wm (.b (decide (((p0.toNat : Nat) : Int) = 6))) rfl <| Nk 16384 0 ⟨tp 14 (.b (decide (((p0.toNat : Nat) : Int) = 6))::tp 1 []), [], 0⟩ ?_
      rcases tf_ (decide (((p0.toNat : Nat) : Int) = 6)) with hc14_5 | hc14_5
      ·
       replace hm := cT hc14_5 hm
       refine AiT hc14_5 <| Sx <| Wm (.s ([62, 61] : List UInt8)) rfl <| Nn <| Rt <| Ir <| Tr ?_
       obtain rfl := Option.some.inj hm
       exact ret_i []
      ·
       replace hm := cF hc14_5 hm
       refine AiF hc14_5 <| Sk <| Ino <| Tk 0 0 ⟨tp 16 [], [], 0⟩ <| Sx <| Wm (.s ([] : List UInt8)) rfl <| Nn <| Rt ?_
       obtain rfl := Option.some.inj hm
       exact ret_i []

theorem ok_value_core (p0 : GValue) (r : Value) (h : m_value_core p0 = some r) : GCall Try.prog 74 [(.agg [(.y p0.Kind), (.i p0.N), (.u p0.Bits), (.s p0.Text)])] [] (.d (.lit r)) [] := by
 refine GCall.of_body (n := 25) (rs := [(.tmp 2)]) Try.func74 rfl rfl rfl <| Ato ⟨.agg [(.y p0.Kind), (.i p0.N), (.u p0.Bits), (.s p0.Text)]::tu 24 [], [], 0⟩ ?_
 have hm := h
 unfold m_value_core at hm
 refine Sx <| Wy (.loc 0 0) [(0, (.box [(.y p0.Kind), (.i p0.N), (.u p0.Bits), (.s p0.Text)]))] (Obx rfl) <| Wm (.d (.lit Value.nilIface)) rfl <| Nk 2 1 ⟨tp 1 (.loc 0 0::tp 23 []), [(.box [(.y p0.Kind), (.i p0.N), (.u p0.Bits), (.s p0.Text)])], 0⟩ <| Sq <| Sx <| Wz (.loc 0 0) (Ofa rfl) <| Wz (.y p0.Kind) (Old rfl) <| Nk 18 1 ⟨tp 1 (.loc 0 0::tp 2 (.y p0.Kind::tp 20 [])), [(.box [(.y p0.Kind), (.i p0.N), (.u p0.Bits), (.s p0.Text)])], 0⟩ <| Bk <| Sx <| Wz (.b (decide (((p0.Kind.toNat : Nat) : Int) = 1))) (Ob2 (.int .u8 ((p0.Kind.toNat : Nat) : Int)) (.int .u8 1) rfl (fun _ => hb_eql)) <| Wm (.b (decide (((p0.Kind.toNat : Nat) : Int) = 1))) rfl <| Nk 50 1 ⟨tp 1 (.loc 0 0::tp 2 (.y p0.Kind::.b (decide (((p0.Kind.toNat : Nat) : Int) = 1))::tp 19 [])), [(.box [(.y p0.Kind), (.i p0.N), (.u p0.Bits), (.s p0.Text)])], 0⟩ ?_
 rcases tf_ (decide (((p0.Kind.toNat : Nat) : Int) = 1)) with hc5_0 | hc5_0
 ·
  replace hm := cT hc5_0 hm
  refine AiT hc5_0 <| Sx <| Wz (.loc 0 1) (Ofa rfl) <| Wz (.i p0.N) (Old rfl) <| Wz (.d (.lit (Value.iface 102 (.int .i64 p0.N)))) (Oif rfl) <| Wm (.d (.lit (Value.iface 102 (.int .i64 p0.N)))) rfl <| Nn <| Rt <| Ir <| Tr ?_
  obtain rfl := Option.some.inj hm
  exact ret_i []
 ·
  replace hm := cF hc5_0 hm
  refine AiF hc5_0 <| Sx <| Wz (.b (decide (((p0.Kind.toNat : Nat) : Int) = 2))) (Ob2 (.int .u8 ((p0.Kind.toNat : Nat) : Int)) (.int .u8 2) rfl (fun _ => hb_eql)) <| Wm (.b (decide (((p0.Kind.toNat : Nat) : Int) = 2))) rfl <| Nk 1042 1 ⟨tp 1 (.loc 0 0::tp 2 (.y p0.Kind::tp 5 (.b (decide (((p0.Kind.toNat : Nat) : Int) = 2))::tp 14 []))), [(.box [(.y p0.Kind), (.i p0.N), (.u p0.Bits), (.s p0.Text)])], 0⟩ ?_
  rcases tf_ (decide (((p0.Kind.toNat : Nat) : Int) = 2)) with hc10_1 | hc10_1
  ·
   replace hm := cT hc10_1 hm
   refine AiT hc10_1 <| Sx <| Wz (.loc 0 1) (Ofa rfl) <| Wz (.i p0.N) (Old rfl) <| Wz (.d (.lit (Value.iface 103 (.int .i64 p0.N)))) (Oif rfl) <| Wm (.d (.lit (Value.iface 103 (.int .i64 p0.N)))) rfl <| Nn <| Rt <| Ir <| Tr ?_
   obtain rfl := Option.some.inj hm
   exact ret_i []
  ·
   replace hm := cF hc10_1 hm
   refine AiF hc10_1 <| Sx <| Wz (.b (decide (((p0.Kind.toNat : Nat) : Int) = 3))) (Ob2 (.int .u8 ((p0.Kind.toNat : Nat) : Int)) (.int .u8 3) rfl (fun _ => hb_eql)) <| Wm (.b (decide (((p0.Kind.toNat : Nat) : Int) = 3))) rfl <| Nk 32786 1 ⟨tp 1 (.loc 0 0::tp 2 (.y p0.Kind::tp 10 (.b (decide (((p0.Kind.toNat : Nat) : Int) = 3))::tp 9 []))), [(.box [(.y p0.Kind), (.i p0.N), (.u p0.Bits), (.s p0.Text)])], 0⟩ ?_
   rcases tf_ (decide (((p0.Kind.toNat : Nat) : Int) = 3)) with hc15_2 | hc15_2
   ·
    replace hm := cT hc15_2 hm
    refine AiT hc15_2 <| Sx <| Wz (.loc 0 2) (Ofa rfl) <| Wz (.u p0.Bits) (Old rfl) <| Wz (.d (.lit (Value.iface 104 (.int .u64 p0.Bits)))) (Oif rfl) <| Wm (.d (.lit (Value.iface 104 (.int .u64 p0.Bits)))) rfl <| Nn <| Rt <| Ir <| Tr ?_
    obtain rfl := Option.some.inj hm
    exact ret_i []
   ·
    replace hm := cF hc15_2 hm
    refine AiF hc15_2 <| Sx <| Wz (.b (decide (((p0.Kind.toNat : Nat) : Int) = 4))) (Ob2 (.int .u8 ((p0.Kind.toNat : Nat) : Int)) (.int .u8 4) rfl (fun _ => hb_eql)) <| Wm (.b (decide (((p0.Kind.toNat : Nat) : Int) = 4))) rfl <| Nk 1048578 1 ⟨tp 1 (.loc 0 0::tp 18 (.b (decide (((p0.Kind.toNat : Nat) : Int) = 4))::tp 4 [])), [(.box [(.y p0.Kind), (.i p0.N), (.u p0.Bits), (.s p0.Text)])], 0⟩ ?_
    rcases tf_ (decide (((p0.Kind.toNat : Nat) : Int) = 4)) with hc20_3 | hc20_3
    ·
     replace hm := cT hc20_3 hm
     refine AiT hc20_3 <| Sx <| Wz (.loc 0 3) (Ofa rfl) <| Wz (.s p0.Text) (Old rfl) <| Wz (.d (.lit (Value.iface 106 (.string (toS p0.Text))))) (Oif rfl) <| Wm (.d (.lit (Value.iface 106 (.string (toS p0.Text))))) rfl <| Nn <| Rt <| Ir <| Tr ?_
     obtain rfl := Option.some.inj hm
     exact ret_i []
    ·
     replace hm := cF hc20_3 hm
     refine AiF hc20_3 <| Sk <| Ino <| Tk 0 0 ⟨tp 25 [], [.gone], 0⟩ <| Sx <| Wm (.d (.lit Value.nilIface)) rfl <| Nn <| Rt ?_
     obtain rfl := Option.some.inj hm
     exact ret_i []

theorem ok_real_of (p0 : Int) (r : Nat) (h : m_real_of p0 = some r) : GCall Try.prog 93 [(.u p0)] [] (.d (.lit (.float .f64 r))) [] := by
 refine GCall.of_body (n := 5) (rs := [(.tmp 2)]) Try.func93 rfl rfl rfl <| Ato ⟨.u p0::tu 4 [], [], 0⟩ ?_
 have hm := h
 unfold m_real_of at hm
 refine Sx <| Wm (.d (.lit (.float .f64 0))) rfl <| Nk 1 0 ⟨.u p0::tp 4 [], [], 0⟩ <| Sx <| Wm (.u p0) rfl <| Wz (.d (.lit (.float .f64 (Int.toNat p0)))) (Ofb (f := 96) (fun _ => by kernel_rfl) rfl) <| Wm (.d (.lit (.float .f64 (Int.toNat p0)))) rfl <| Nn <| Rt ?_
 obtain rfl := Option.some.inj hm
 exact ret_i []

theorem ok_real_Clean (p0 : Int) (r : Int) (h : m_real_Clean p0 = some r) : GCall Try.prog 75 [(.u p0)] [] (.u r) [] := by
 refine GCall.of_body (n := 10) (rs := [(.tmp 2)]) Try.func75 rfl rfl rfl <| Ato ⟨.u p0::tu 9 [], [], 0⟩ ?_
 have hm := h
 unfold m_real_Clean at hm
 refine Sx <| Wm (.u 0) rfl <| Nk 1 0 ⟨.u p0::tp 9 [], [], 0⟩ <| Sq <| Sx <| Wm (.u p0) rfl ?_
 obtain ⟨r5_0, hr5_0, hm⟩ := bnd hm
 refine Wz (.d (.lit (.float .f64 r5_0))) (Ocf [] [] [] 0 (ok_real_of p0 r5_0 hr5_0) (fun a w => Try.call93 a w) rfl trivial) <| Wm (.d (.lit (.float .f64 r5_0))) rfl <| Nk 9 0 ⟨.u p0::tp 2 (.d (.lit (.float .f64 r5_0))::tp 6 []), [], 0⟩ <| Sx <| Wm (.d (.lit (.float .f64 r5_0))) rfl <| Wm (.d (.lit (.float .f64 r5_0))) rfl <| Wz (.b (fne r5_0 r5_0)) (op_bin rfl (a1 := .float .f64 r5_0) (a2 := .float .f64 r5_0) (by kernel_rfl) (by kernel_rfl) (fun _ => hb_fneq)) <| Nk 257 0 ⟨.u p0::tp 7 (.b (fne r5_0 r5_0)::tp 1 []), [], 0⟩ ?_
 rcases tf_ (fne r5_0 r5_0) with hc8_1 | hc8_1
 ·
  replace hm := cT hc8_1 hm
  refine AiT hc8_1 <| Sx <| Wm (.u 9221120237041090560) rfl <| Nn <| Rt <| Tr ?_
  obtain rfl := Option.some.inj hm
  exact ret_i []
 ·
  replace hm := cF hc8_1 hm
  refine AiF hc8_1 <| Sk <| Tk 1 0 ⟨.u p0::tp 9 [], [], 0⟩ <| Sx <| Wm (.u p0) rfl <| Wm (.u p0) rfl <| Nn <| Rt ?_
  obtain rfl := Option.some.inj hm
  exact ret_i []

theorem ok_value_number_whole (p0 : Int) (r : GValue) (h : m_value_number_whole p0 = some r) : GCall Try.prog 116 [(.i p0)] [] (.agg [(.y r.Kind), (.i r.N), (.u r.Bits), (.s r.Text)]) [] := by
 refine GCall.of_body (n := 5) (rs := [(.cell 2 73)]) Try.func116 rfl rfl rfl <| Ato ⟨.i p0::tu 4 [], [], 0⟩ ?_
 have hm := h
 unfold m_value_number_whole at hm
 refine Sx <| Wy (.loc 0 0) [(0, (.box [(.y 0), (.i 0), (.u 0), (.s ([] : List UInt8))]))] (Oal rfl) <| Nk 5 1 ⟨.i p0::tp 1 (.loc 0 0::tp 2 []), [(.box [(.y 0), (.i 0), (.u 0), (.s ([] : List UInt8))])], 0⟩ <| Sx <| Wm (.i p0) rfl <| Wz (.agg [(.y 1), (.i p0), (.u 0), (.s ([] : List UInt8))]) (Obd rfl) <| Wy (.tup []) [(0, (.box [(.y 1), (.i p0), (.u 0), (.s ([] : List UInt8))]))] (Ost rfl) <| Nn <| Rt ?_
 obtain rfl := Option.some.inj hm
 exact ret_i []

theorem ok_value_flag_whole (p0 : Int) (r : GValue) (h : m_value_flag_whole p0 = some r) : GCall Try.prog 117 [(.i p0)] [] (.agg [(.y r.Kind), (.i r.N), (.u r.Bits), (.s r.Text)]) [] := by
 refine GCall.of_body (n := 5) (rs := [(.cell 2 73)]) Try.func117 rfl rfl rfl <| Ato ⟨.i p0::tu 4 [], [], 0⟩ ?_
 have hm := h
 unfold m_value_flag_whole at hm
 refine Sx <| Wy (.loc 0 0) [(0, (.box [(.y 0), (.i 0), (.u 0), (.s ([] : List UInt8))]))] (Oal rfl) <| Nk 5 1 ⟨.i p0::tp 1 (.loc 0 0::tp 2 []), [(.box [(.y 0), (.i 0), (.u 0), (.s ([] : List UInt8))])], 0⟩ <| Sx <| Wm (.i p0) rfl <| Wz (.agg [(.y 2), (.i p0), (.u 0), (.s ([] : List UInt8))]) (Obd rfl) <| Wy (.tup []) [(0, (.box [(.y 2), (.i p0), (.u 0), (.s ([] : List UInt8))]))] (Ost rfl) <| Nn <| Rt ?_
 obtain rfl := Option.some.inj hm
 exact ret_i []

theorem ok_value_double_whole (p0 : Int) (r : GValue) (h : m_value_double_whole p0 = some r) : GCall Try.prog 118 [(.u p0)] [] (.agg [(.y r.Kind), (.i r.N), (.u r.Bits), (.s r.Text)]) [] := by
 refine GCall.of_body (n := 5) (rs := [(.cell 2 73)]) Try.func118 rfl rfl rfl <| Ato ⟨.u p0::tu 4 [], [], 0⟩ ?_
 have hm := h
 unfold m_value_double_whole at hm
 refine Sx <| Wy (.loc 0 0) [(0, (.box [(.y 0), (.i 0), (.u 0), (.s ([] : List UInt8))]))] (Oal rfl) <| Nk 5 1 ⟨.u p0::tp 1 (.loc 0 0::tp 2 []), [(.box [(.y 0), (.i 0), (.u 0), (.s ([] : List UInt8))])], 0⟩ <| Sx <| Wm (.u p0) rfl <| Wz (.agg [(.y 3), (.i 0), (.u p0), (.s ([] : List UInt8))]) (Obd rfl) <| Wy (.tup []) [(0, (.box [(.y 3), (.i 0), (.u p0), (.s ([] : List UInt8))]))] (Ost rfl) <| Nn <| Rt ?_
 obtain rfl := Option.some.inj hm
 exact ret_i []

theorem ok_value_words_whole (p0 : (List UInt8)) (r : GValue) (h : m_value_words_whole p0 = some r) : GCall Try.prog 119 [(.s p0)] [] (.agg [(.y r.Kind), (.i r.N), (.u r.Bits), (.s r.Text)]) [] := by
 refine GCall.of_body (n := 5) (rs := [(.cell 2 73)]) Try.func119 rfl rfl rfl <| Ato ⟨.s p0::tu 4 [], [], 0⟩ ?_
 have hm := h
 unfold m_value_words_whole at hm
 refine Sx <| Wy (.loc 0 0) [(0, (.box [(.y 0), (.i 0), (.u 0), (.s ([] : List UInt8))]))] (Oal rfl) <| Nk 5 1 ⟨.s p0::tp 1 (.loc 0 0::tp 2 []), [(.box [(.y 0), (.i 0), (.u 0), (.s ([] : List UInt8))])], 0⟩ <| Sx <| Wm (.s p0) rfl <| Wz (.agg [(.y 4), (.i 0), (.u 0), (.s p0)]) (Obd rfl) <| Wy (.tup []) [(0, (.box [(.y 4), (.i 0), (.u 0), (.s p0)]))] (Ost rfl) <| Nn <| Rt ?_
 obtain rfl := Option.some.inj hm
 exact ret_i []

theorem ok_value_Check (p0 : GValue) (r : Int) (h : m_value_Check p0 = some r) : GCall Try.prog 61 [(.agg [(.y p0.Kind), (.i p0.N), (.u p0.Bits), (.s p0.Text)])] [] (.i r) [] := by
 refine GCall.of_body (n := 47) (rs := [(.tmp 2)]) Try.func61 rfl rfl rfl <| Ato ⟨.agg [(.y p0.Kind), (.i p0.N), (.u p0.Bits), (.s p0.Text)]::tu 46 [], [], 0⟩ ?_
 have hm := h
 unfold m_value_Check at hm
 refine Sx <| Wy (.loc 0 0) [(0, (.box [(.y p0.Kind), (.i p0.N), (.u p0.Bits), (.s p0.Text)]))] (Obx rfl) <| Wm (.i 0) rfl <| Nk 2 1 ⟨tp 1 (.loc 0 0::tp 45 []), [(.box [(.y p0.Kind), (.i p0.N), (.u p0.Bits), (.s p0.Text)])], 0⟩ <| Sx <| Wz (.agg [(.y p0.Kind), (.i p0.N), (.u p0.Bits), (.s p0.Text)]) (Old rfl) ?_
 obtain ⟨r10_0, hr10_0, hm⟩ := bnd hm
 refine Wz (.d (.lit r10_0)) (Ocf [] [] [] 0 (ok_value_core p0 r10_0 hr10_0) (fun a w => Try.call74 a w) rfl trivial) <| Wm (.d (.lit r10_0)) rfl <| Nk 10 1 ⟨tp 1 (.loc 0 0::tp 1 (.d (.lit r10_0)::tp 43 [])), [(.box [(.y p0.Kind), (.i p0.N), (.u p0.Bits), (.s p0.Text)])], 0⟩ ?_
 refine AWP.cutJ (α := Unit) (fun x => match x with | () => (⟨tp 1 (.loc 0 0::tp 1 (.d (.lit r10_0)::tp 43 [])), [(.box [(.y p0.Kind), (.i p0.N), (.u p0.Bits), (.s p0.Text)])], 0⟩ : St)) (fun x => match x with | () => m_value_Check_j9 p0 r10_0 = some r) ?_ (fun J9 => ?_)
 ·
  rintro ⟨⟩ hm
  try dsimp only at hm ⊢
  unfold m_value_Check_j9 at hm
  refine Sq ?_
  refine AWP.cutJ (α := Bool) (fun x => match x with | y46_11 => (⟨tp 46 (.b y46_11::[]), [], 0⟩ : St)) (fun x => match x with | y46_11 => m_value_Check_j11  y46_11 = some r) ?_ (fun J11 => ?_)
  ·
   rintro y46_11 hm
   try dsimp only at hm ⊢
   unfold m_value_Check_j11 at hm
   rcases tf_ y46_11 with hc46_11 | hc46_11
   ·
    replace hm := cT hc46_11 hm
    refine AiT hc46_11 <| Sx <| Wm (.i 2) rfl <| Nn <| Rt <| Tr ?_
    obtain rfl := Option.some.inj hm
    exact ret_i []
   ·
    replace hm := cF hc46_11 hm
    refine AiF hc46_11 <| Sk <| Tk 0 0 ⟨tp 47 [], [], 0⟩ <| Sx <| Wm (.i 0) rfl <| Nn <| Rt ?_
    obtain rfl := Option.some.inj hm
    exact ret_i []
  refine Sq <| Adr <| Wm (.d (.lit r10_0)) rfl ?_
  rcases tf_ (isT 102 r10_0) with hq44_10_102 | hq44_10_102
  ·
   replace hm := cT hq44_10_102 hm
   obtain ⟨n44_10_102, hn44_10_102, hm⟩ := bnd hm
   obtain ⟨r44_10_102, hr44_10_102, hm⟩ := bnd hm
   have hi_r44_10_102 := inI_some hq44_10_102 hn44_10_102
   refine Wz (.agg [(.y r44_10_102.Kind), (.i r44_10_102.N), (.u r44_10_102.Bits), (.s r44_10_102.Text)]) (Oiv (t := 102) (u := .int .i64 n44_10_102) (ok_value_number_whole n44_10_102 r44_10_102 hr44_10_102) (by simp [A.Plain, A.Plains, D.Plain, byteD]) (fun a w => Try.call116 a w) (fun w => by kernel_rfl) rfl (Eq.trans (by kernel_rfl) (congrArg (fun z => A.d (.lit z)) hi_r44_10_102))) <| Wz (.agg [(.y p0.Kind), (.i p0.N), (.u p0.Bits), (.s p0.Text)]) (Old rfl) ?_
   obtain ⟨v46_10, hv46_10, hm⟩ := bnd hm; replace hv46_10 := Option.some.inj hv46_10
   refine Wz (.b v46_10) (Ocs (Eq.trans (lit_tf (by simp only [toS_inj])) (congrArg (fun z => A.d (.lit (.bool z))) hv46_10)) (op_neq_struct rfl (la := [(.y r44_10_102.Kind), (.i r44_10_102.N), (.u r44_10_102.Bits), (.s r44_10_102.Text)]) (lb := [(.y p0.Kind), (.i p0.N), (.u p0.Bits), (.s p0.Text)]) (us := [.int .u8 ((r44_10_102.Kind.toNat : Nat) : Int), .int .i64 r44_10_102.N, .int .u64 r44_10_102.Bits, .string (toS r44_10_102.Text)]) (vs := [.int .u8 ((p0.Kind.toNat : Nat) : Int), .int .i64 p0.N, .int .u64 p0.Bits, .string (toS p0.Text)]) (r := (decide (((r44_10_102.Kind.toNat : Nat) : Int) = ((p0.Kind.toNat : Nat) : Int)) && (decide (r44_10_102.N = p0.N) && (decide (r44_10_102.Bits = p0.Bits) && (decide ((toS r44_10_102.Text) = (toS p0.Text)) && true))))) (by kernel_rfl) (by kernel_rfl) (by kernel_rfl) (by kernel_rfl) (by kernel_rfl))) <| Wdr <| Tn ?_
   exact AWP.weak (Weak.toK 70368744177664 0 0 []) (J11 (v46_10) hm)
  ·
   replace hm := cF hq44_10_102 hm
   rcases tf_ (isT 103 r10_0) with hq44_10_103 | hq44_10_103
   ·
    replace hm := cT hq44_10_103 hm
    obtain ⟨n44_10_103, hn44_10_103, hm⟩ := bnd hm
    obtain ⟨r44_10_103, hr44_10_103, hm⟩ := bnd hm
    have hi_r44_10_103 := inI_some hq44_10_103 hn44_10_103
    refine Wz (.agg [(.y r44_10_103.Kind), (.i r44_10_103.N), (.u r44_10_103.Bits), (.s r44_10_103.Text)]) (Oiv (t := 103) (u := .int .i64 n44_10_103) (ok_value_flag_whole n44_10_103 r44_10_103 hr44_10_103) (by simp [A.Plain, A.Plains, D.Plain, byteD]) (fun a w => Try.call117 a w) (fun w => by kernel_rfl) rfl (Eq.trans (by kernel_rfl) (congrArg (fun z => A.d (.lit z)) hi_r44_10_103))) <| Wz (.agg [(.y p0.Kind), (.i p0.N), (.u p0.Bits), (.s p0.Text)]) (Old rfl) ?_
    obtain ⟨v46_10, hv46_10, hm⟩ := bnd hm; replace hv46_10 := Option.some.inj hv46_10
    refine Wz (.b v46_10) (Ocs (Eq.trans (lit_tf (by simp only [toS_inj])) (congrArg (fun z => A.d (.lit (.bool z))) hv46_10)) (op_neq_struct rfl (la := [(.y r44_10_103.Kind), (.i r44_10_103.N), (.u r44_10_103.Bits), (.s r44_10_103.Text)]) (lb := [(.y p0.Kind), (.i p0.N), (.u p0.Bits), (.s p0.Text)]) (us := [.int .u8 ((r44_10_103.Kind.toNat : Nat) : Int), .int .i64 r44_10_103.N, .int .u64 r44_10_103.Bits, .string (toS r44_10_103.Text)]) (vs := [.int .u8 ((p0.Kind.toNat : Nat) : Int), .int .i64 p0.N, .int .u64 p0.Bits, .string (toS p0.Text)]) (r := (decide (((r44_10_103.Kind.toNat : Nat) : Int) = ((p0.Kind.toNat : Nat) : Int)) && (decide (r44_10_103.N = p0.N) && (decide (r44_10_103.Bits = p0.Bits) && (decide ((toS r44_10_103.Text) = (toS p0.Text)) && true))))) (by kernel_rfl) (by kernel_rfl) (by kernel_rfl) (by kernel_rfl) (by kernel_rfl))) <| Wdr <| Tn ?_
    exact AWP.weak (Weak.toK 70368744177664 0 0 []) (J11 (v46_10) hm)
   ·
    replace hm := cF hq44_10_103 hm
    rcases tf_ (isT 104 r10_0) with hq44_10_104 | hq44_10_104
    ·
     replace hm := cT hq44_10_104 hm
     obtain ⟨n44_10_104, hn44_10_104, hm⟩ := bnd hm
     obtain ⟨r44_10_104, hr44_10_104, hm⟩ := bnd hm
     have hi_r44_10_104 := inI_some hq44_10_104 hn44_10_104
     refine Wz (.agg [(.y r44_10_104.Kind), (.i r44_10_104.N), (.u r44_10_104.Bits), (.s r44_10_104.Text)]) (Oiv (t := 104) (u := .int .u64 n44_10_104) (ok_value_double_whole n44_10_104 r44_10_104 hr44_10_104) (by simp [A.Plain, A.Plains, D.Plain, byteD]) (fun a w => Try.call118 a w) (fun w => by kernel_rfl) rfl (Eq.trans (by kernel_rfl) (congrArg (fun z => A.d (.lit z)) hi_r44_10_104))) <| Wz (.agg [(.y p0.Kind), (.i p0.N), (.u p0.Bits), (.s p0.Text)]) (Old rfl) ?_
     obtain ⟨v46_10, hv46_10, hm⟩ := bnd hm; replace hv46_10 := Option.some.inj hv46_10
     refine Wz (.b v46_10) (Ocs (Eq.trans (lit_tf (by simp only [toS_inj])) (congrArg (fun z => A.d (.lit (.bool z))) hv46_10)) (op_neq_struct rfl (la := [(.y r44_10_104.Kind), (.i r44_10_104.N), (.u r44_10_104.Bits), (.s r44_10_104.Text)]) (lb := [(.y p0.Kind), (.i p0.N), (.u p0.Bits), (.s p0.Text)]) (us := [.int .u8 ((r44_10_104.Kind.toNat : Nat) : Int), .int .i64 r44_10_104.N, .int .u64 r44_10_104.Bits, .string (toS r44_10_104.Text)]) (vs := [.int .u8 ((p0.Kind.toNat : Nat) : Int), .int .i64 p0.N, .int .u64 p0.Bits, .string (toS p0.Text)]) (r := (decide (((r44_10_104.Kind.toNat : Nat) : Int) = ((p0.Kind.toNat : Nat) : Int)) && (decide (r44_10_104.N = p0.N) && (decide (r44_10_104.Bits = p0.Bits) && (decide ((toS r44_10_104.Text) = (toS p0.Text)) && true))))) (by kernel_rfl) (by kernel_rfl) (by kernel_rfl) (by kernel_rfl) (by kernel_rfl))) <| Wdr <| Tn ?_
     exact AWP.weak (Weak.toK 70368744177664 0 0 []) (J11 (v46_10) hm)
    ·
     replace hm := cF hq44_10_104 hm
     rcases tf_ (isT 106 r10_0) with hq44_10_106 | hq44_10_106
     ·
      replace hm := cT hq44_10_106 hm
      obtain ⟨n44_10_106, hn44_10_106, hm⟩ := bnd hm
      obtain ⟨r44_10_106, hr44_10_106, hm⟩ := bnd hm
      have hi_r44_10_106 := inS_some hq44_10_106 hn44_10_106
      refine Wz (.agg [(.y r44_10_106.Kind), (.i r44_10_106.N), (.u r44_10_106.Bits), (.s r44_10_106.Text)]) (Oiv (t := 106) (u := .string (toS n44_10_106)) (ok_value_words_whole n44_10_106 r44_10_106 hr44_10_106) (by simp [A.Plain, A.Plains, D.Plain, byteD]) (fun a w => Try.call119 a w) (fun w => by kernel_rfl) rfl (Eq.trans (by kernel_rfl) (congrArg (fun z => A.d (.lit z)) hi_r44_10_106))) <| Wz (.agg [(.y p0.Kind), (.i p0.N), (.u p0.Bits), (.s p0.Text)]) (Old rfl) ?_
      obtain ⟨v46_10, hv46_10, hm⟩ := bnd hm; replace hv46_10 := Option.some.inj hv46_10
      refine Wz (.b v46_10) (Ocs (Eq.trans (lit_tf (by simp only [toS_inj])) (congrArg (fun z => A.d (.lit (.bool z))) hv46_10)) (op_neq_struct rfl (la := [(.y r44_10_106.Kind), (.i r44_10_106.N), (.u r44_10_106.Bits), (.s r44_10_106.Text)]) (lb := [(.y p0.Kind), (.i p0.N), (.u p0.Bits), (.s p0.Text)]) (us := [.int .u8 ((r44_10_106.Kind.toNat : Nat) : Int), .int .i64 r44_10_106.N, .int .u64 r44_10_106.Bits, .string (toS r44_10_106.Text)]) (vs := [.int .u8 ((p0.Kind.toNat : Nat) : Int), .int .i64 p0.N, .int .u64 p0.Bits, .string (toS p0.Text)]) (r := (decide (((r44_10_106.Kind.toNat : Nat) : Int) = ((p0.Kind.toNat : Nat) : Int)) && (decide (r44_10_106.N = p0.N) && (decide (r44_10_106.Bits = p0.Bits) && (decide ((toS r44_10_106.Text) = (toS p0.Text)) && true))))) (by kernel_rfl) (by kernel_rfl) (by kernel_rfl) (by kernel_rfl) (by kernel_rfl))) <| Wdr <| Tn ?_
      exact AWP.weak (Weak.toK 70368744177664 0 0 []) (J11 (v46_10) hm)
     ·
      replace hm := cF hq44_10_106 hm
      exact nomatch hm
 refine Sq <| Sx <| Wm (.d (.lit r10_0)) rfl <| Nk 2058 1 ⟨tp 1 (.loc 0 0::tp 1 (.d (.lit r10_0)::tp 7 (.d (.lit r10_0)::tp 35 []))), [(.box [(.y p0.Kind), (.i p0.N), (.u p0.Bits), (.s p0.Text)])], 0⟩ <| Bk <| Sx ?_
 obtain ⟨z12_1, hz12_1, hm⟩ := bnd hm
 refine Wz (.tup [(.i z12_1.1), (.b z12_1.2)]) (OtI hz12_1 rfl) <| Wz (.b z12_1.2) (Oex rfl) <| Wz (.i z12_1.1) (Oex rfl) <| Nk 26634 1 ⟨tp 1 (.loc 0 0::tp 1 (.d (.lit r10_0)::tp 7 (.d (.lit r10_0)::tp 1 (.b z12_1.2::.i z12_1.1::tp 32 [])))), [(.box [(.y p0.Kind), (.i p0.N), (.u p0.Bits), (.s p0.Text)])], 0⟩ ?_
 rcases tf_ z12_1.2 with hc13_12 | hc13_12
 ·
  replace hm := cT hc13_12 hm
  refine AiT hc13_12 <| Sx <| Wm (.i z12_1.1) rfl <| Nk 26 1 ⟨tp 1 (.loc 0 0::tp 1 (.d (.lit r10_0)::.i z12_1.1::tp 42 [])), [(.box [(.y p0.Kind), (.i p0.N), (.u p0.Bits), (.s p0.Text)])], 0⟩ <| Sx <| Wm (.i z12_1.1) rfl <| Wz (.b (decide (z12_1.1 < (-4611686018427387904)))) (Obn rfl (fun _ => hb_lss (k := .i64))) ?_
  rcases tf_ (decide (z12_1.1 < (-4611686018427387904))) with hq17_2 | hq17_2
  ·
   replace hm := cT hq17_2 hm
   refine Wz (.b true) (Oq hq17_2 rfl) <| Wn <| Wn <| Wz (.b true) (OpT rfl) <| Nk 1048586 1 ⟨tp 1 (.loc 0 0::tp 1 (.d (.lit r10_0)::tp 16 (.b true::tp 26 []))), [(.box [(.y p0.Kind), (.i p0.N), (.u p0.Bits), (.s p0.Text)])], 0⟩ <| AWP.if_ true (by kernel_rfl) <| Sx <| Wm (.i 8) rfl <| Nn <| Rt <| Ir <| Tr ?_
   obtain rfl := Option.some.inj hm
   exact ret_i []
  ·
   replace hm := cF hq17_2 hm
   refine Wz (.b false) (Oq hq17_2 rfl) <| Wm (.i z12_1.1) rfl <| Wz (.b (decide ((4611686018427387904 : Int) < z12_1.1))) (Obn rfl (fun _ => hb_gtr (k := .i64))) <| Wz (.b (decide ((4611686018427387904 : Int) < z12_1.1))) (OpF rfl) <| Nk 1048586 1 ⟨tp 1 (.loc 0 0::tp 1 (.d (.lit r10_0)::tp 16 (.b (decide ((4611686018427387904 : Int) < z12_1.1))::tp 26 []))), [(.box [(.y p0.Kind), (.i p0.N), (.u p0.Bits), (.s p0.Text)])], 0⟩ ?_
   rcases tf_ (decide ((4611686018427387904 : Int) < z12_1.1)) with hc20_13 | hc20_13
   ·
    replace hm := cT hc20_13 hm
    refine AiT hc20_13 <| Sx <| Wm (.i 8) rfl <| Nn <| Rt <| Ir <| Tr ?_
    obtain rfl := Option.some.inj hm
    exact ret_i []
   ·
    replace hm := cF hc20_13 hm
    refine AiF hc20_13 <| Sk <| Ino <| Tn ?_
    exact AWP.weak (Weak.toK 10 0 0 [0]) (J9 () hm)
 ·
  replace hm := cF hc13_12 hm
  refine AiF hc13_12 <| Sx ?_
  obtain ⟨z21_3, hz21_3, hm⟩ := bnd hm
  refine Wz (.tup [(.i z21_3.1), (.b z21_3.2)]) (OtI hz21_3 rfl) <| Wz (.b z21_3.2) (Oex rfl) <| Wz (.i z21_3.1) (Oex rfl) <| Nk 12584970 1 ⟨tp 1 (.loc 0 0::tp 1 (.d (.lit r10_0)::tp 7 (.d (.lit r10_0)::tp 10 (.b z21_3.2::.i z21_3.1::tp 23 [])))), [(.box [(.y p0.Kind), (.i p0.N), (.u p0.Bits), (.s p0.Text)])], 0⟩ ?_
  rcases tf_ z21_3.2 with hc22_14 | hc22_14
  ·
   replace hm := cT hc22_14 hm
   refine AiT hc22_14 <| Sx <| Wm (.i z21_3.1) rfl <| Nk 42 1 ⟨tp 1 (.loc 0 0::tp 1 (.d (.lit r10_0)::tp 1 (.i z21_3.1::tp 41 []))), [(.box [(.y p0.Kind), (.i p0.N), (.u p0.Bits), (.s p0.Text)])], 0⟩ <| Sx <| Wm (.i z21_3.1) rfl <| Wz (.b (decide (z21_3.1 ≠ 0))) (Obn rfl (fun _ => hb_neq (k := .i64))) ?_
   rcases tf_ (decide (z21_3.1 ≠ 0)) with hq26_4 | hq26_4
   ·
    replace hm := cT hq26_4 hm
    refine Wz (.b true) (Oq hq26_4 rfl) <| Wm (.i z21_3.1) rfl <| Wz (.b (decide (z21_3.1 ≠ 1))) (Obn rfl (fun _ => hb_neq (k := .i64))) <| Wz (.b (decide (z21_3.1 ≠ 1))) (OpT rfl) <| Nk 536870922 1 ⟨tp 1 (.loc 0 0::tp 1 (.d (.lit r10_0)::tp 25 (.b (decide (z21_3.1 ≠ 1))::tp 17 []))), [(.box [(.y p0.Kind), (.i p0.N), (.u p0.Bits), (.s p0.Text)])], 0⟩ ?_
    rcases tf_ (decide (z21_3.1 ≠ 1)) with hc29_15 | hc29_15
    ·
     replace hm := cT hc29_15 hm
     refine AiT hc29_15 <| Sx <| Wm (.i 8) rfl <| Nn <| Rt <| Ir <| Tr ?_
     obtain rfl := Option.some.inj hm
     exact ret_i []
    ·
     replace hm := cF hc29_15 hm
     refine AiF hc29_15 <| Sk <| Ino <| Tn ?_
     exact AWP.weak (Weak.toK 10 0 0 [0]) (J9 () hm)
   ·
    replace hm := cF hq26_4 hm
    refine Wz (.b false) (Oq hq26_4 rfl) <| Wn <| Wn <| Wz (.b false) (OpF rfl) <| Nk 536870922 1 ⟨tp 1 (.loc 0 0::tp 1 (.d (.lit r10_0)::tp 25 (.b false::tp 17 []))), [(.box [(.y p0.Kind), (.i p0.N), (.u p0.Bits), (.s p0.Text)])], 0⟩ <| AWP.if_ false (by kernel_rfl) <| Sk <| Ino <| Tn ?_
    exact AWP.weak (Weak.toK 10 0 0 [0]) (J9 () hm)
  ·
   replace hm := cF hc22_14 hm
   refine AiF hc22_14 <| Sx ?_
   obtain ⟨z30_5, hz30_5, hm⟩ := bnd hm
   refine Wz (.tup [(.u z30_5.1), (.b z30_5.2)]) (OtI hz30_5 rfl) <| Wz (.b z30_5.2) (Oex rfl) <| Wz (.u z30_5.1) (Oex rfl) <| Nk 6442453002 1 ⟨tp 1 (.loc 0 0::tp 1 (.d (.lit r10_0)::tp 7 (.d (.lit r10_0)::tp 19 (.b z30_5.2::.u z30_5.1::tp 14 [])))), [(.box [(.y p0.Kind), (.i p0.N), (.u p0.Bits), (.s p0.Text)])], 0⟩ ?_
   rcases tf_ z30_5.2 with hc31_16 | hc31_16
   ·
    replace hm := cT hc31_16 hm
    refine AiT hc31_16 <| Sx <| Wm (.u z30_5.1) rfl <| Nk 74 1 ⟨tp 1 (.loc 0 0::tp 1 (.d (.lit r10_0)::tp 2 (.u z30_5.1::tp 40 []))), [(.box [(.y p0.Kind), (.i p0.N), (.u p0.Bits), (.s p0.Text)])], 0⟩ <| Sx <| Wm (.u z30_5.1) rfl ?_
    obtain ⟨r34_6, hr34_6, hm⟩ := bnd hm
    refine Wz (.u r34_6) (Ocf [] [] [] 0 (ok_real_Clean z30_5.1 r34_6 hr34_6) (fun a w => Try.call75 a w) rfl trivial) <| Wm (.u z30_5.1) rfl <| Wz (.b (decide (r34_6 ≠ z30_5.1))) (Obn rfl (fun _ => hb_neq (k := .u64))) <| Nk 68719476746 1 ⟨tp 1 (.loc 0 0::tp 1 (.d (.lit r10_0)::tp 32 (.b (decide (r34_6 ≠ z30_5.1))::tp 10 []))), [(.box [(.y p0.Kind), (.i p0.N), (.u p0.Bits), (.s p0.Text)])], 0⟩ ?_
    rcases tf_ (decide (r34_6 ≠ z30_5.1)) with hc36_17 | hc36_17
    ·
     replace hm := cT hc36_17 hm
     refine AiT hc36_17 <| Sx <| Wm (.i 4) rfl <| Nn <| Rt <| Ir <| Tr ?_
     obtain rfl := Option.some.inj hm
     exact ret_i []
    ·
     replace hm := cF hc36_17 hm
     refine AiF hc36_17 <| Sk <| Ino <| Tn ?_
     exact AWP.weak (Weak.toK 10 0 0 [0]) (J9 () hm)
   ·
    replace hm := cF hc31_16 hm
    refine AiF hc31_16 <| Sx ?_
    obtain ⟨z37_7, hz37_7, hm⟩ := bnd hm
    refine Wz (.tup [(.s z37_7.1), (.b z37_7.2)]) (OtS hz37_7 rfl) <| Wz (.b z37_7.2) (Oex rfl) <| Wz (.s z37_7.1) (Oex rfl) <| Nk 824633722890 1 ⟨tp 1 (.loc 0 0::tp 1 (.d (.lit r10_0)::tp 7 (.d (.lit r10_0)::tp 26 (.b z37_7.2::.s z37_7.1::tp 7 [])))), [(.box [(.y p0.Kind), (.i p0.N), (.u p0.Bits), (.s p0.Text)])], 0⟩ ?_
    rcases tf_ z37_7.2 with hc38_18 | hc38_18
    ·
     replace hm := cT hc38_18 hm
     refine AiT hc38_18 <| Sx <| Wm (.s z37_7.1) rfl <| Nk 138 1 ⟨tp 1 (.loc 0 0::tp 1 (.d (.lit r10_0)::tp 3 (.s z37_7.1::tp 39 []))), [(.box [(.y p0.Kind), (.i p0.N), (.u p0.Bits), (.s p0.Text)])], 0⟩ <| Sx <| Wm (.s z37_7.1) rfl <| Wz (.i ((List.length z37_7.1 : Nat) : Int)) (Oln rfl) <| Wz (.b (decide ((24 : Int) < ((List.length z37_7.1 : Nat) : Int)))) (Obn rfl (fun _ => hb_gtr (k := .i64))) <| Nk 4398046511114 1 ⟨tp 1 (.loc 0 0::tp 1 (.d (.lit r10_0)::tp 38 (.b (decide ((24 : Int) < ((List.length z37_7.1 : Nat) : Int)))::tp 4 []))), [(.box [(.y p0.Kind), (.i p0.N), (.u p0.Bits), (.s p0.Text)])], 0⟩ ?_
     rcases tf_ (decide ((24 : Int) < ((List.length z37_7.1 : Nat) : Int))) with hc42_19 | hc42_19
     ·
      replace hm := cT hc42_19 hm
      refine AiT hc42_19 <| Sx <| Wm (.i 5) rfl <| Nn <| Rt <| Ir <| Tr ?_
      obtain rfl := Option.some.inj hm
      exact ret_i []
     ·
      replace hm := cF hc42_19 hm
      refine AiF hc42_19 <| Sk <| Ino <| Tn ?_
      exact AWP.weak (Weak.toK 10 0 0 [0]) (J9 () hm)
    ·
     replace hm := cF hc38_18 hm
     refine AiF hc38_18 <| Sx <| Wm (.d (.lit r10_0)) rfl <| Nk 0 0 ⟨tp 47 [], [.gone], 0⟩ <| Sx <| Wm (.i 11) rfl <| Nn <| Rt <| Ir <| Tr ?_
     obtain rfl := Option.some.inj hm
     exact ret_i []

theorem ok_pred_Node_lacks (p0 : GNode_) (r : Bool) (h : m_pred_Node_lacks p0 = some r) : GCall Try.prog 84 [(.agg [(.y p0.Kind), (.y p0.Op), (.s p0.Var), (.s p0.Name), (.y p0.Val.Kind), (.i p0.Val.N), (.u p0.Val.Bits), (.s p0.Val.Text)])] [] (.b r) [] := by
 refine GCall.of_body (n := 35) (rs := [(.tmp 2)]) Try.func84 rfl rfl rfl <| Ato ⟨.agg [(.y p0.Kind), (.y p0.Op), (.s p0.Var), (.s p0.Name), (.y p0.Val.Kind), (.i p0.Val.N), (.u p0.Val.Bits), (.s p0.Val.Text)]::tu 34 [], [], 0⟩ ?_
 have hm := h
 unfold m_pred_Node_lacks at hm
 refine Sx <| Wy (.loc 0 0) [(0, (.box [(.y p0.Kind), (.y p0.Op), (.s p0.Var), (.s p0.Name), (.y p0.Val.Kind), (.i p0.Val.N), (.u p0.Val.Bits), (.s p0.Val.Text)]))] (Obx rfl) <| Wm (.b false) rfl <| Nk 2 1 ⟨tp 1 (.loc 0 0::tp 33 []), [(.box [(.y p0.Kind), (.y p0.Op), (.s p0.Var), (.s p0.Name), (.y p0.Val.Kind), (.i p0.Val.N), (.u p0.Val.Bits), (.s p0.Val.Text)])], 0⟩ <| Sq <| Sx <| Wz (.loc 0 0) (Ofa rfl) <| Wz (.y p0.Kind) (Old rfl) <| Nk 18 1 ⟨tp 1 (.loc 0 0::tp 2 (.y p0.Kind::tp 30 [])), [(.box [(.y p0.Kind), (.y p0.Op), (.s p0.Var), (.s p0.Name), (.y p0.Val.Kind), (.i p0.Val.N), (.u p0.Val.Bits), (.s p0.Val.Text)])], 0⟩ <| Bk <| Sx <| Wz (.b (decide (((p0.Kind.toNat : Nat) : Int) = 4))) (Ob2 (.int .u8 ((p0.Kind.toNat : Nat) : Int)) (.int .u8 4) rfl (fun _ => hb_eql)) <| Wm (.b (decide (((p0.Kind.toNat : Nat) : Int) = 4))) rfl <| Nk 50 1 ⟨tp 1 (.loc 0 0::tp 2 (.y p0.Kind::.b (decide (((p0.Kind.toNat : Nat) : Int) = 4))::tp 29 [])), [(.box [(.y p0.Kind), (.y p0.Op), (.s p0.Var), (.s p0.Name), (.y p0.Val.Kind), (.i p0.Val.N), (.u p0.Val.Bits), (.s p0.Val.Text)])], 0⟩ ?_
 rcases tf_ (decide (((p0.Kind.toNat : Nat) : Int) = 4)) with hc5_4 | hc5_4
 ·
  replace hm := cT hc5_4 hm
  refine AiT hc5_4 <| Sx <| Wz (.loc 0 1) (Ofa rfl) <| Wz (.y p0.Op) (Old rfl) ?_
  obtain ⟨r9_0, hr9_0, hm⟩ := bnd hm
  refine Wz (.s r9_0) (Ocf [] [] [] 0 (ok_compare_Sign p0.Op r9_0 hr9_0) (fun a w => Try.call73 a w) rfl trivial) <| Wz (.b (decide (r9_0 = ([] : List UInt8)))) (Ocs (lit_tf (by simp only [toS_inj, ne_eq])) (op_bin rfl (a1 := .string (toS r9_0)) (a2 := .string (toS ([] : List UInt8))) (by kernel_rfl) (by kernel_rfl) (fun _ => hb_seql))) <| Wm (.b (decide (r9_0 = ([] : List UInt8)))) rfl <| Nn <| Rt <| Ir <| Tr ?_
  obtain rfl := Option.some.inj hm
  exact ret_i []
 ·
  replace hm := cF hc5_4 hm
  refine AiF hc5_4 <| Sx <| Wz (.b (decide (((p0.Kind.toNat : Nat) : Int) = 7))) (Ob2 (.int .u8 ((p0.Kind.toNat : Nat) : Int)) (.int .u8 7) rfl (fun _ => hb_eql)) <| Wm (.b (decide (((p0.Kind.toNat : Nat) : Int) = 7))) rfl <| Nk 2066 1 ⟨tp 1 (.loc 0 0::tp 2 (.y p0.Kind::tp 6 (.b (decide (((p0.Kind.toNat : Nat) : Int) = 7))::tp 23 []))), [(.box [(.y p0.Kind), (.y p0.Op), (.s p0.Var), (.s p0.Name), (.y p0.Val.Kind), (.i p0.Val.N), (.u p0.Val.Bits), (.s p0.Val.Text)])], 0⟩ ?_
  rcases tf_ (decide (((p0.Kind.toNat : Nat) : Int) = 7)) with hc11_5 | hc11_5
  ·
   replace hm := cT hc11_5 hm
   refine AiT hc11_5 <| Sx <| Wz (.loc 0 3) (Ofa rfl) <| Wz (.s p0.Name) (Old rfl) ?_
   obtain ⟨r15_1, hr15_1, hm⟩ := bnd hm
   refine Wz (.b r15_1) (Ocf [] [] [] 0 (ok_schema_Name p0.Name r15_1 hr15_1) (fun a w => Try.call26 a w) rfl trivial) <| Wz (.b (!r15_1)) (Ocs (by kernel_rfl) (op_un rfl (a1 := .bool r15_1) (by kernel_rfl) (fun _ => hu_not))) <| Wm (.b (!r15_1)) rfl <| Nn <| Rt <| Ir <| Tr ?_
   obtain rfl := Option.some.inj hm
   exact ret_i []
  ·
   replace hm := cF hc11_5 hm
   refine AiF hc11_5 <| Sx <| Wz (.b (decide (((p0.Kind.toNat : Nat) : Int) = 8))) (Ob2 (.int .u8 ((p0.Kind.toNat : Nat) : Int)) (.int .u8 8) rfl (fun _ => hb_eql)) <| Wm (.b (decide (((p0.Kind.toNat : Nat) : Int) = 8))) rfl <| Nk 131090 1 ⟨tp 1 (.loc 0 0::tp 2 (.y p0.Kind::tp 12 (.b (decide (((p0.Kind.toNat : Nat) : Int) = 8))::tp 17 []))), [(.box [(.y p0.Kind), (.y p0.Op), (.s p0.Var), (.s p0.Name), (.y p0.Val.Kind), (.i p0.Val.N), (.u p0.Val.Bits), (.s p0.Val.Text)])], 0⟩ ?_
   rcases tf_ (decide (((p0.Kind.toNat : Nat) : Int) = 8)) with hc17_6 | hc17_6
   ·
    replace hm := cT hc17_6 hm
    refine AiT hc17_6 <| Sx <| Wz (.loc 0 3) (Ofa rfl) <| Wz (.s p0.Name) (Old rfl) ?_
    obtain ⟨r21_2, hr21_2, hm⟩ := bnd hm
    refine Wz (.b r21_2) (Ocf [] [] [] 0 (ok_schema_Name p0.Name r21_2 hr21_2) (fun a w => Try.call26 a w) rfl trivial) <| Wz (.b (!r21_2)) (Ocs (by kernel_rfl) (op_un rfl (a1 := .bool r21_2) (by kernel_rfl) (fun _ => hu_not))) ?_
    rcases tf_ (!r21_2) with hq23_2 | hq23_2
    ·
     replace hm := cT hq23_2 hm
     refine Wz (.b true) (Oq hq23_2 rfl) <| Wn <| Wn <| Wn <| Wn <| Wz (.b true) (OpT rfl) <| Wm (.b true) rfl <| Nn <| Rt <| Ir <| Tr ?_
     obtain rfl := Option.some.inj hm
     exact ret_i []
    ·
     replace hm := cF hq23_2 hm
     refine Wz (.b false) (Oq hq23_2 rfl) <| Wz (.loc 0 2) (Ofa rfl) <| Wz (.s p0.Var) (Old rfl) ?_
     obtain ⟨r26_2, hr26_2, hm⟩ := bnd hm
     refine Wz (.b r26_2) (Ocf [] [] [] 0 (ok_schema_Name p0.Var r26_2 hr26_2) (fun a w => Try.call26 a w) rfl trivial) <| Wz (.b (!r26_2)) (Ocs (by kernel_rfl) (op_un rfl (a1 := .bool r26_2) (by kernel_rfl) (fun _ => hu_not))) <| Wz (.b (!r26_2)) (OpF rfl) <| Wm (.b (!r26_2)) rfl <| Nn <| Rt <| Ir <| Tr ?_
     obtain rfl := Option.some.inj hm
     exact ret_i []
   ·
    replace hm := cF hc17_6 hm
    refine AiF hc17_6 <| Sx <| Wz (.b (decide (((p0.Kind.toNat : Nat) : Int) = 9))) (Ob2 (.int .u8 ((p0.Kind.toNat : Nat) : Int)) (.int .u8 9) rfl (fun _ => hb_eql)) <| Wm (.b (decide (((p0.Kind.toNat : Nat) : Int) = 9))) rfl <| Nk 536870914 1 ⟨tp 1 (.loc 0 0::tp 27 (.b (decide (((p0.Kind.toNat : Nat) : Int) = 9))::tp 5 [])), [(.box [(.y p0.Kind), (.y p0.Op), (.s p0.Var), (.s p0.Name), (.y p0.Val.Kind), (.i p0.Val.N), (.u p0.Val.Bits), (.s p0.Val.Text)])], 0⟩ ?_
    rcases tf_ (decide (((p0.Kind.toNat : Nat) : Int) = 9)) with hc29_7 | hc29_7
    ·
     replace hm := cT hc29_7 hm
     refine AiT hc29_7 <| Sx <| Wz (.loc 0 4) (Ofa rfl) <| Wz (.agg [(.y p0.Val.Kind), (.i p0.Val.N), (.u p0.Val.Bits), (.s p0.Val.Text)]) (Old rfl) ?_
     obtain ⟨r33_3, hr33_3, hm⟩ := bnd hm
     refine Wz (.i r33_3) (Ocf [] [] [] 0 (ok_value_Check p0.Val r33_3 hr33_3) (fun a w => Try.call61 a w) rfl trivial) <| Wz (.b (decide (r33_3 ≠ 0))) (Obn rfl (fun _ => hb_neq (k := .i64))) <| Wm (.b (decide (r33_3 ≠ 0))) rfl <| Nn <| Rt <| Ir <| Tr ?_
     obtain rfl := Option.some.inj hm
     exact ret_i []
    ·
     replace hm := cF hc29_7 hm
     refine AiF hc29_7 <| Sk <| Ino <| Tk 0 0 ⟨tp 35 [], [.gone], 0⟩ <| Sx <| Wm (.b false) rfl <| Nn <| Rt ?_
     obtain rfl := Option.some.inj hm
     exact ret_i []

theorem ok_pred_is__pred_Node_lacks (p0 : GNode_) (p2 : Int) (r : Int) (h : m_pred_is__pred_Node_lacks p0 p2 = some r) : GCall Try.prog 83 [(.agg [(.y p0.Kind), (.y p0.Op), (.s p0.Var), (.s p0.Name), (.y p0.Val.Kind), (.i p0.Val.N), (.u p0.Val.Bits), (.s p0.Val.Text)]), (.clo (.func 84) [] []), (.i p2)] [] (.i r) [] := by
 refine GCall.of_body (n := 11) (rs := [(.tmp 6)]) Try.func83 rfl rfl rfl <| Ato ⟨.agg [(.y p0.Kind), (.y p0.Op), (.s p0.Var), (.s p0.Name), (.y p0.Val.Kind), (.i p0.Val.N), (.u p0.Val.Bits), (.s p0.Val.Text)]::.clo (.func 84) [] []::.i p2::tu 8 [], [], 0⟩ ?_
 have hm := h
 unfold m_pred_is__pred_Node_lacks at hm
 refine Sx <| Wy (.loc 0 0) [(0, (.box [(.y p0.Kind), (.y p0.Op), (.s p0.Var), (.s p0.Name), (.y p0.Val.Kind), (.i p0.Val.N), (.u p0.Val.Bits), (.s p0.Val.Text)]))] (Obx rfl) <| Wm (.i 0) rfl <| Nk 14 1 ⟨tp 1 (.clo (.func 84) [] []::.i p2::.loc 0 0::tp 7 []), [(.box [(.y p0.Kind), (.y p0.Op), (.s p0.Var), (.s p0.Name), (.y p0.Val.Kind), (.i p0.Val.N), (.u p0.Val.Bits), (.s p0.Val.Text)])], 0⟩ <| Sq <| Sx <| Wm (.clo (.func 84) [] []) rfl <| Wz (.agg [(.y p0.Kind), (.y p0.Op), (.s p0.Var), (.s p0.Name), (.y p0.Val.Kind), (.i p0.Val.N), (.u p0.Val.Bits), (.s p0.Val.Text)]) (Old rfl) ?_
 obtain ⟨r9_0, hr9_0, hm⟩ := bnd hm
 refine Wz (.b r9_0) (Ocf [] [] [] 0 (ok_pred_Node_lacks p0 r9_0 hr9_0) (fun a w => Try.call84 a w) rfl trivial) <| Nk 516 0 ⟨tp 2 (.i p2::tp 6 (.b r9_0::tp 1 [])), [.gone], 0⟩ ?_
 rcases tf_ r9_0 with hc9_1 | hc9_1
 ·
  replace hm := cT hc9_1 hm
  refine AiT hc9_1 <| Sx <| Wm (.i p2) rfl <| Wm (.i p2) rfl <| Nn <| Rt <| Tr ?_
  obtain rfl := Option.some.inj hm
  exact ret_i []
 ·
  replace hm := cF hc9_1 hm
  refine AiF hc9_1 <| Sk <| Tk 0 0 ⟨tp 11 [], [.gone], 0⟩ <| Sx <| Wm (.i 0) rfl <| Nn <| Rt ?_
  obtain rfl := Option.some.inj hm
  exact ret_i []

theorem ok_pred_Node_more (p0 : GNode_) (r : Bool) (h : m_pred_Node_more p0 = some r) : GCall Try.prog 85 [(.agg [(.y p0.Kind), (.y p0.Op), (.s p0.Var), (.s p0.Name), (.y p0.Val.Kind), (.i p0.Val.N), (.u p0.Val.Bits), (.s p0.Val.Text)])] [] (.b r) [] := by
 refine GCall.of_body (n := 35) (rs := [(.tmp 2)]) Try.func85 rfl rfl rfl <| Ato ⟨.agg [(.y p0.Kind), (.y p0.Op), (.s p0.Var), (.s p0.Name), (.y p0.Val.Kind), (.i p0.Val.N), (.u p0.Val.Bits), (.s p0.Val.Text)]::tu 34 [], [], 0⟩ ?_
 have hm := h
 unfold m_pred_Node_more at hm
 refine Sx <| Wy (.loc 0 0) [(0, (.box [(.y p0.Kind), (.y p0.Op), (.s p0.Var), (.s p0.Name), (.y p0.Val.Kind), (.i p0.Val.N), (.u p0.Val.Bits), (.s p0.Val.Text)]))] (Obx rfl) <| Wm (.b false) rfl <| Nk 2 1 ⟨tp 1 (.loc 0 0::tp 33 []), [(.box [(.y p0.Kind), (.y p0.Op), (.s p0.Var), (.s p0.Name), (.y p0.Val.Kind), (.i p0.Val.N), (.u p0.Val.Bits), (.s p0.Val.Text)])], 0⟩ <| Sx <| Wz (.loc 0 0) (Ofa rfl) <| Wz (.y p0.Kind) (Old rfl) <| Wz (.agg [(.y p0.Kind), (.y 0), (.s ([] : List UInt8)), (.s ([] : List UInt8)), (.y 0), (.i 0), (.u 0), (.s ([] : List UInt8))]) (Obd rfl) <| Wy (.loc 1 0) [(1, (.box [(.y 0), (.y 0), (.s ([] : List UInt8)), (.s ([] : List UInt8)), (.y 0), (.i 0), (.u 0), (.s ([] : List UInt8))]))] (Oal rfl) <| Wy (.tup []) [(1, (.box [(.y p0.Kind), (.y 0), (.s ([] : List UInt8)), (.s ([] : List UInt8)), (.y 0), (.i 0), (.u 0), (.s ([] : List UInt8))]))] (Ost rfl) <| Nk 10 3 ⟨tp 1 (.loc 0 0::tp 1 (.loc 1 0::tp 31 [])), [(.box [(.y p0.Kind), (.y p0.Op), (.s p0.Var), (.s p0.Name), (.y p0.Val.Kind), (.i p0.Val.N), (.u p0.Val.Bits), (.s p0.Val.Text)]), (.box [(.y p0.Kind), (.y 0), (.s ([] : List UInt8)), (.s ([] : List UInt8)), (.y 0), (.i 0), (.u 0), (.s ([] : List UInt8))])], 0⟩ <| Sq <| Sx <| Wz (.loc 0 0) (Ofa rfl) ?_
 refine Wz (.y p0.Kind) (Old rfl) <| Nk 266 3 ⟨tp 1 (.loc 0 0::tp 1 (.loc 1 0::tp 4 (.y p0.Kind::tp 26 []))), [(.box [(.y p0.Kind), (.y p0.Op), (.s p0.Var), (.s p0.Name), (.y p0.Val.Kind), (.i p0.Val.N), (.u p0.Val.Bits), (.s p0.Val.Text)]), (.box [(.y p0.Kind), (.y 0), (.s ([] : List UInt8)), (.s ([] : List UInt8)), (.y 0), (.i 0), (.u 0), (.s ([] : List UInt8))])], 0⟩ <| Bk <| Sx <| Wz (.b (decide (((p0.Kind.toNat : Nat) : Int) = 4))) (Ob2 (.int .u8 ((p0.Kind.toNat : Nat) : Int)) (.int .u8 4) rfl (fun _ => hb_eql)) <| Wm (.b (decide (((p0.Kind.toNat : Nat) : Int) = 4))) rfl <| Nk 778 3 ⟨tp 1 (.loc 0 0::tp 1 (.loc 1 0::tp 4 (.y p0.Kind::.b (decide (((p0.Kind.toNat : Nat) : Int) = 4))::tp 25 []))), [(.box [(.y p0.Kind), (.y p0.Op), (.s p0.Var), (.s p0.Name), (.y p0.Val.Kind), (.i p0.Val.N), (.u p0.Val.Bits), (.s p0.Val.Text)]), (.box [(.y p0.Kind), (.y 0), (.s ([] : List UInt8)), (.s ([] : List UInt8)), (.y 0), (.i 0), (.u 0), (.s ([] : List UInt8))])], 0⟩ ?_
 rcases tf_ (decide (((p0.Kind.toNat : Nat) : Int) = 4)) with hc9_5 | hc9_5
 ·
  replace hm := cT hc9_5 hm
  refine AiT hc9_5 <| Tx <| Wz (.loc 0 1) (Ofa rfl) <| Wz (.y p0.Op) (Old rfl) <| Wz (.loc 1 1) (Ofa rfl) <| Wy (.tup []) [(1, (.box [(.y p0.Kind), (.y p0.Op), (.s ([] : List UInt8)), (.s ([] : List UInt8)), (.y 0), (.i 0), (.u 0), (.s ([] : List UInt8))]))] (Ost rfl) <| Wn0 <| Ino <| Tk 10 3 ⟨tp 1 (.loc 0 0::tp 1 (.loc 1 0::tp 31 [])), [(.box [(.y p0.Kind), (.y p0.Op), (.s p0.Var), (.s p0.Name), (.y p0.Val.Kind), (.i p0.Val.N), (.u p0.Val.Bits), (.s p0.Val.Text)]), (.box [(.y p0.Kind), (.y p0.Op), (.s ([] : List UInt8)), (.s ([] : List UInt8)), (.y 0), (.i 0), (.u 0), (.s ([] : List UInt8))])], 0⟩ <| Sx <| Wz (.agg [(.y p0.Kind), (.y p0.Op), (.s ([] : List UInt8)), (.s ([] : List UInt8)), (.y 0), (.i 0), (.u 0), (.s ([] : List UInt8))]) (Old rfl) <| Wz (.agg [(.y p0.Kind), (.y p0.Op), (.s p0.Var), (.s p0.Name), (.y p0.Val.Kind), (.i p0.Val.N), (.u p0.Val.Bits), (.s p0.Val.Text)]) (Old rfl) ?_
  obtain ⟨v34_0, hv34_0, hm⟩ := bnd hm; replace hv34_0 := Option.some.inj hv34_0
  refine Wz (.b v34_0) (Ocs (Eq.trans (lit_tf (by simp only [toS_inj])) (congrArg (fun z => A.d (.lit (.bool z))) hv34_0)) (op_neq_deep rfl (la := [(.y p0.Kind), (.y p0.Op), (.s ([] : List UInt8)), (.s ([] : List UInt8)), (.y 0), (.i 0), (.u 0), (.s ([] : List UInt8))]) (lb := [(.y p0.Kind), (.y p0.Op), (.s p0.Var), (.s p0.Name), (.y p0.Val.Kind), (.i p0.Val.N), (.u p0.Val.Bits), (.s p0.Val.Text)]) (us := [.int .u8 ((p0.Kind.toNat : Nat) : Int), .int .u8 ((p0.Op.toNat : Nat) : Int), .string (toS ([] : List UInt8)), .string (toS ([] : List UInt8)), .int .u8 0, .int .i64 0, .int .u64 0, .string (toS ([] : List UInt8))]) (vs := [.int .u8 ((p0.Kind.toNat : Nat) : Int), .int .u8 ((p0.Op.toNat : Nat) : Int), .string (toS p0.Var), .string (toS p0.Name), .int .u8 ((p0.Val.Kind.toNat : Nat) : Int), .int .i64 p0.Val.N, .int .u64 p0.Val.Bits, .string (toS p0.Val.Text)]) (r := (decide (((p0.Kind.toNat : Nat) : Int) = ((p0.Kind.toNat : Nat) : Int)) && (decide (((p0.Op.toNat : Nat) : Int) = ((p0.Op.toNat : Nat) : Int)) && (decide ((toS ([] : List UInt8)) = (toS p0.Var)) && (decide ((toS ([] : List UInt8)) = (toS p0.Name)) && ((decide (0 = ((p0.Val.Kind.toNat : Nat) : Int)) && (decide (0 = p0.Val.N) && (decide (0 = p0.Val.Bits) && (decide ((toS ([] : List UInt8)) = (toS p0.Val.Text)) && true)))) && true)))))) (by kernel_rfl) (by kernel_rfl) (by kernel_rfl) (by kernel_rfl) (by kernel_rfl) (by kernel_rfl))) <| Wm (.b v34_0) rfl <| Nn <| Rt ?_
  obtain rfl := Option.some.inj hm
  exact ret_i []
 ·
  replace hm := cF hc9_5 hm
  refine AiF hc9_5 <| Sx <| Wz (.b (decide (((p0.Kind.toNat : Nat) : Int) = 7))) (Ob2 (.int .u8 ((p0.Kind.toNat : Nat) : Int)) (.int .u8 7) rfl (fun _ => hb_eql)) <| Wm (.b (decide (((p0.Kind.toNat : Nat) : Int) = 7))) rfl <| Nk 16650 3 ⟨tp 1 (.loc 0 0::tp 1 (.loc 1 0::tp 4 (.y p0.Kind::tp 5 (.b (decide (((p0.Kind.toNat : Nat) : Int) = 7))::tp 20 [])))), [(.box [(.y p0.Kind), (.y p0.Op), (.s p0.Var), (.s p0.Name), (.y p0.Val.Kind), (.i p0.Val.N), (.u p0.Val.Bits), (.s p0.Val.Text)]), (.box [(.y p0.Kind), (.y 0), (.s ([] : List UInt8)), (.s ([] : List UInt8)), (.y 0), (.i 0), (.u 0), (.s ([] : List UInt8))])], 0⟩ ?_
  rcases tf_ (decide (((p0.Kind.toNat : Nat) : Int) = 7)) with hc14_6 | hc14_6
  ·
   replace hm := cT hc14_6 hm
   refine AiT hc14_6 <| Tx <| Wz (.loc 0 3) (Ofa rfl) <| Wz (.s p0.Name) (Old rfl) <| Wz (.loc 1 3) (Ofa rfl) <| Wy (.tup []) [(1, (.box [(.y p0.Kind), (.y 0), (.s ([] : List UInt8)), (.s p0.Name), (.y 0), (.i 0), (.u 0), (.s ([] : List UInt8))]))] (Ost rfl) <| Wn0 <| Ino <| Tk 10 3 ⟨tp 1 (.loc 0 0::tp 1 (.loc 1 0::tp 31 [])), [(.box [(.y p0.Kind), (.y p0.Op), (.s p0.Var), (.s p0.Name), (.y p0.Val.Kind), (.i p0.Val.N), (.u p0.Val.Bits), (.s p0.Val.Text)]), (.box [(.y p0.Kind), (.y 0), (.s ([] : List UInt8)), (.s p0.Name), (.y 0), (.i 0), (.u 0), (.s ([] : List UInt8))])], 0⟩ <| Sx <| Wz (.agg [(.y p0.Kind), (.y 0), (.s ([] : List UInt8)), (.s p0.Name), (.y 0), (.i 0), (.u 0), (.s ([] : List UInt8))]) (Old rfl) <| Wz (.agg [(.y p0.Kind), (.y p0.Op), (.s p0.Var), (.s p0.Name), (.y p0.Val.Kind), (.i p0.Val.N), (.u p0.Val.Bits), (.s p0.Val.Text)]) (Old rfl) ?_
   obtain ⟨v34_1, hv34_1, hm⟩ := bnd hm; replace hv34_1 := Option.some.inj hv34_1
   refine Wz (.b v34_1) (Ocs (Eq.trans (lit_tf (by simp only [toS_inj])) (congrArg (fun z => A.d (.lit (.bool z))) hv34_1)) (op_neq_deep rfl (la := [(.y p0.Kind), (.y 0), (.s ([] : List UInt8)), (.s p0.Name), (.y 0), (.i 0), (.u 0), (.s ([] : List UInt8))]) (lb := [(.y p0.Kind), (.y p0.Op), (.s p0.Var), (.s p0.Name), (.y p0.Val.Kind), (.i p0.Val.N), (.u p0.Val.Bits), (.s p0.Val.Text)]) (us := [.int .u8 ((p0.Kind.toNat : Nat) : Int), .int .u8 0, .string (toS ([] : List UInt8)), .string (toS p0.Name), .int .u8 0, .int .i64 0, .int .u64 0, .string (toS ([] : List UInt8))]) (vs := [.int .u8 ((p0.Kind.toNat : Nat) : Int), .int .u8 ((p0.Op.toNat : Nat) : Int), .string (toS p0.Var), .string (toS p0.Name), .int .u8 ((p0.Val.Kind.toNat : Nat) : Int), .int .i64 p0.Val.N, .int .u64 p0.Val.Bits, .string (toS p0.Val.Text)]) (r := (decide (((p0.Kind.toNat : Nat) : Int) = ((p0.Kind.toNat : Nat) : Int)) && (decide (0 = ((p0.Op.toNat : Nat) : Int)) && (decide ((toS ([] : List UInt8)) = (toS p0.Var)) && (decide ((toS p0.Name) = (toS p0.Name)) && ((decide (0 = ((p0.Val.Kind.toNat : Nat) : Int)) && (decide (0 = p0.Val.N) && (decide (0 = p0.Val.Bits) && (decide ((toS ([] : List UInt8)) = (toS p0.Val.Text)) && true)))) && true)))))) (by kernel_rfl) (by kernel_rfl) (by kernel_rfl) (by kernel_rfl) (by kernel_rfl) (by kernel_rfl))) <| Wm (.b v34_1) rfl <| Nn <| Rt ?_
   obtain rfl := Option.some.inj hm
   exact ret_i []
  ·
   replace hm := cF hc14_6 hm
   refine AiF hc14_6 <| Sx <| Wz (.b (decide (((p0.Kind.toNat : Nat) : Int) = 8))) (Ob2 (.int .u8 ((p0.Kind.toNat : Nat) : Int)) (.int .u8 8) rfl (fun _ => hb_eql)) <| Wm (.b (decide (((p0.Kind.toNat : Nat) : Int) = 8))) rfl <| Nk 524554 3 ⟨tp 1 (.loc 0 0::tp 1 (.loc 1 0::tp 4 (.y p0.Kind::tp 10 (.b (decide (((p0.Kind.toNat : Nat) : Int) = 8))::tp 15 [])))), [(.box [(.y p0.Kind), (.y p0.Op), (.s p0.Var), (.s p0.Name), (.y p0.Val.Kind), (.i p0.Val.N), (.u p0.Val.Bits), (.s p0.Val.Text)]), (.box [(.y p0.Kind), (.y 0), (.s ([] : List UInt8)), (.s ([] : List UInt8)), (.y 0), (.i 0), (.u 0), (.s ([] : List UInt8))])], 0⟩ ?_
   rcases tf_ (decide (((p0.Kind.toNat : Nat) : Int) = 8)) with hc19_7 | hc19_7
   ·
    replace hm := cT hc19_7 hm
    refine AiT hc19_7 <| Adr <| Wz (.loc 0 2) (Ofa rfl) <| Wz (.s p0.Var) (Old rfl) <| Wz (.loc 0 3) (Ofa rfl) <| Wz (.s p0.Name) (Old rfl) <| Wz (.loc 1 2) (Ofa rfl) <| Wy (.tup []) [(1, (.box [(.y p0.Kind), (.y 0), (.s p0.Var), (.s ([] : List UInt8)), (.y 0), (.i 0), (.u 0), (.s ([] : List UInt8))]))] (Ost rfl) <| Wz (.loc 1 3) (Ofa rfl) <| Wy (.tup []) [(1, (.box [(.y p0.Kind), (.y 0), (.s p0.Var), (.s p0.Name), (.y 0), (.i 0), (.u 0), (.s ([] : List UInt8))]))] (Ost rfl) <| Wdr <| Ino <| Tk 10 3 ⟨tp 1 (.loc 0 0::tp 1 (.loc 1 0::tp 31 [])), [(.box [(.y p0.Kind), (.y p0.Op), (.s p0.Var), (.s p0.Name), (.y p0.Val.Kind), (.i p0.Val.N), (.u p0.Val.Bits), (.s p0.Val.Text)]), (.box [(.y p0.Kind), (.y 0), (.s p0.Var), (.s p0.Name), (.y 0), (.i 0), (.u 0), (.s ([] : List UInt8))])], 0⟩ <| Sx ?_
    refine Wz (.agg [(.y p0.Kind), (.y 0), (.s p0.Var), (.s p0.Name), (.y 0), (.i 0), (.u 0), (.s ([] : List UInt8))]) (Old rfl) <| Wz (.agg [(.y p0.Kind), (.y p0.Op), (.s p0.Var), (.s p0.Name), (.y p0.Val.Kind), (.i p0.Val.N), (.u p0.Val.Bits), (.s p0.Val.Text)]) (Old rfl) ?_
    obtain ⟨v34_2, hv34_2, hm⟩ := bnd hm; replace hv34_2 := Option.some.inj hv34_2
    refine Wz (.b v34_2) (Ocs (Eq.trans (lit_tf (by simp only [toS_inj])) (congrArg (fun z => A.d (.lit (.bool z))) hv34_2)) (op_neq_deep rfl (la := [(.y p0.Kind), (.y 0), (.s p0.Var), (.s p0.Name), (.y 0), (.i 0), (.u 0), (.s ([] : List UInt8))]) (lb := [(.y p0.Kind), (.y p0.Op), (.s p0.Var), (.s p0.Name), (.y p0.Val.Kind), (.i p0.Val.N), (.u p0.Val.Bits), (.s p0.Val.Text)]) (us := [.int .u8 ((p0.Kind.toNat : Nat) : Int), .int .u8 0, .string (toS p0.Var), .string (toS p0.Name), .int .u8 0, .int .i64 0, .int .u64 0, .string (toS ([] : List UInt8))]) (vs := [.int .u8 ((p0.Kind.toNat : Nat) : Int), .int .u8 ((p0.Op.toNat : Nat) : Int), .string (toS p0.Var), .string (toS p0.Name), .int .u8 ((p0.Val.Kind.toNat : Nat) : Int), .int .i64 p0.Val.N, .int .u64 p0.Val.Bits, .string (toS p0.Val.Text)]) (r := (decide (((p0.Kind.toNat : Nat) : Int) = ((p0.Kind.toNat : Nat) : Int)) && (decide (0 = ((p0.Op.toNat : Nat) : Int)) && (decide ((toS p0.Var) = (toS p0.Var)) && (decide ((toS p0.Name) = (toS p0.Name)) && ((decide (0 = ((p0.Val.Kind.toNat : Nat) : Int)) && (decide (0 = p0.Val.N) && (decide (0 = p0.Val.Bits) && (decide ((toS ([] : List UInt8)) = (toS p0.Val.Text)) && true)))) && true)))))) (by kernel_rfl) (by kernel_rfl) (by kernel_rfl) (by kernel_rfl) (by kernel_rfl) (by kernel_rfl))) <| Wm (.b v34_2) rfl <| Nn <| Rt ?_
    obtain rfl := Option.some.inj hm
    exact ret_i []
   ·
    replace hm := cF hc19_7 hm
    refine AiF hc19_7 <| Sx <| Wz (.b (decide (((p0.Kind.toNat : Nat) : Int) = 9))) (Ob2 (.int .u8 ((p0.Kind.toNat : Nat) : Int)) (.int .u8 9) rfl (fun _ => hb_eql)) <| Wm (.b (decide (((p0.Kind.toNat : Nat) : Int) = 9))) rfl <| Nk 134217738 3 ⟨tp 1 (.loc 0 0::tp 1 (.loc 1 0::tp 23 (.b (decide (((p0.Kind.toNat : Nat) : Int) = 9))::tp 7 []))), [(.box [(.y p0.Kind), (.y p0.Op), (.s p0.Var), (.s p0.Name), (.y p0.Val.Kind), (.i p0.Val.N), (.u p0.Val.Bits), (.s p0.Val.Text)]), (.box [(.y p0.Kind), (.y 0), (.s ([] : List UInt8)), (.s ([] : List UInt8)), (.y 0), (.i 0), (.u 0), (.s ([] : List UInt8))])], 0⟩ ?_
    rcases tf_ (decide (((p0.Kind.toNat : Nat) : Int) = 9)) with hc27_8 | hc27_8
    ·
     replace hm := cT hc27_8 hm
     refine AiT hc27_8 <| Tx <| Wz (.loc 0 4) (Ofa rfl) <| Wz (.agg [(.y p0.Val.Kind), (.i p0.Val.N), (.u p0.Val.Bits), (.s p0.Val.Text)]) (Old rfl) <| Wz (.loc 1 4) (Ofa rfl) <| Wy (.tup []) [(1, (.box [(.y p0.Kind), (.y 0), (.s ([] : List UInt8)), (.s ([] : List UInt8)), (.y p0.Val.Kind), (.i p0.Val.N), (.u p0.Val.Bits), (.s p0.Val.Text)]))] (Ost rfl) <| Wn0 <| Ino <| Tk 10 3 ⟨tp 1 (.loc 0 0::tp 1 (.loc 1 0::tp 31 [])), [(.box [(.y p0.Kind), (.y p0.Op), (.s p0.Var), (.s p0.Name), (.y p0.Val.Kind), (.i p0.Val.N), (.u p0.Val.Bits), (.s p0.Val.Text)]), (.box [(.y p0.Kind), (.y 0), (.s ([] : List UInt8)), (.s ([] : List UInt8)), (.y p0.Val.Kind), (.i p0.Val.N), (.u p0.Val.Bits), (.s p0.Val.Text)])], 0⟩ <| Sx <| Wz (.agg [(.y p0.Kind), (.y 0), (.s ([] : List UInt8)), (.s ([] : List UInt8)), (.y p0.Val.Kind), (.i p0.Val.N), (.u p0.Val.Bits), (.s p0.Val.Text)]) (Old rfl) <| Wz (.agg [(.y p0.Kind), (.y p0.Op), (.s p0.Var), (.s p0.Name), (.y p0.Val.Kind), (.i p0.Val.N), (.u p0.Val.Bits), (.s p0.Val.Text)]) (Old rfl) ?_
     obtain ⟨v34_3, hv34_3, hm⟩ := bnd hm; replace hv34_3 := Option.some.inj hv34_3
     refine Wz (.b v34_3) (Ocs (Eq.trans (lit_tf (by simp only [toS_inj])) (congrArg (fun z => A.d (.lit (.bool z))) hv34_3)) (op_neq_deep rfl (la := [(.y p0.Kind), (.y 0), (.s ([] : List UInt8)), (.s ([] : List UInt8)), (.y p0.Val.Kind), (.i p0.Val.N), (.u p0.Val.Bits), (.s p0.Val.Text)]) (lb := [(.y p0.Kind), (.y p0.Op), (.s p0.Var), (.s p0.Name), (.y p0.Val.Kind), (.i p0.Val.N), (.u p0.Val.Bits), (.s p0.Val.Text)]) (us := [.int .u8 ((p0.Kind.toNat : Nat) : Int), .int .u8 0, .string (toS ([] : List UInt8)), .string (toS ([] : List UInt8)), .int .u8 ((p0.Val.Kind.toNat : Nat) : Int), .int .i64 p0.Val.N, .int .u64 p0.Val.Bits, .string (toS p0.Val.Text)]) (vs := [.int .u8 ((p0.Kind.toNat : Nat) : Int), .int .u8 ((p0.Op.toNat : Nat) : Int), .string (toS p0.Var), .string (toS p0.Name), .int .u8 ((p0.Val.Kind.toNat : Nat) : Int), .int .i64 p0.Val.N, .int .u64 p0.Val.Bits, .string (toS p0.Val.Text)]) (r := (decide (((p0.Kind.toNat : Nat) : Int) = ((p0.Kind.toNat : Nat) : Int)) && (decide (0 = ((p0.Op.toNat : Nat) : Int)) && (decide ((toS ([] : List UInt8)) = (toS p0.Var)) && (decide ((toS ([] : List UInt8)) = (toS p0.Name)) && ((decide (((p0.Val.Kind.toNat : Nat) : Int) = ((p0.Val.Kind.toNat : Nat) : Int)) && (decide (p0.Val.N = p0.Val.N) && (decide (p0.Val.Bits = p0.Val.Bits) && (decide ((toS p0.Val.Text) = (toS p0.Val.Text)) && true)))) && true)))))) (by kernel_rfl) (by kernel_rfl) (by kernel_rfl) (by kernel_rfl) (by kernel_rfl) (by kernel_rfl))) <| Wm (.b v34_3) rfl <| Nn <| Rt ?_
     obtain rfl := Option.some.inj hm
     exact ret_i []
    ·
     replace hm := cF hc27_8 hm
     refine AiF hc27_8 <| Sk <| Ino <| Tk 10 3 ⟨tp 1 (.loc 0 0::tp 1 (.loc 1 0::tp 31 [])), [(.box [(.y p0.Kind), (.y p0.Op), (.s p0.Var), (.s p0.Name), (.y p0.Val.Kind), (.i p0.Val.N), (.u p0.Val.Bits), (.s p0.Val.Text)]), (.box [(.y p0.Kind), (.y 0), (.s ([] : List UInt8)), (.s ([] : List UInt8)), (.y 0), (.i 0), (.u 0), (.s ([] : List UInt8))])], 0⟩ <| Sx <| Wz (.agg [(.y p0.Kind), (.y 0), (.s ([] : List UInt8)), (.s ([] : List UInt8)), (.y 0), (.i 0), (.u 0), (.s ([] : List UInt8))]) (Old rfl) <| Wz (.agg [(.y p0.Kind), (.y p0.Op), (.s p0.Var), (.s p0.Name), (.y p0.Val.Kind), (.i p0.Val.N), (.u p0.Val.Bits), (.s p0.Val.Text)]) (Old rfl) ?_
     obtain ⟨v34_4, hv34_4, hm⟩ := bnd hm; replace hv34_4 := Option.some.inj hv34_4
     refine Wz (.b v34_4) (Ocs (Eq.trans (lit_tf (by simp only [toS_inj])) (congrArg (fun z => A.d (.lit (.bool z))) hv34_4)) (op_neq_deep rfl (la := [(.y p0.Kind), (.y 0), (.s ([] : List UInt8)), (.s ([] : List UInt8)), (.y 0), (.i 0), (.u 0), (.s ([] : List UInt8))]) (lb := [(.y p0.Kind), (.y p0.Op), (.s p0.Var), (.s p0.Name), (.y p0.Val.Kind), (.i p0.Val.N), (.u p0.Val.Bits), (.s p0.Val.Text)]) (us := [.int .u8 ((p0.Kind.toNat : Nat) : Int), .int .u8 0, .string (toS ([] : List UInt8)), .string (toS ([] : List UInt8)), .int .u8 0, .int .i64 0, .int .u64 0, .string (toS ([] : List UInt8))]) (vs := [.int .u8 ((p0.Kind.toNat : Nat) : Int), .int .u8 ((p0.Op.toNat : Nat) : Int), .string (toS p0.Var), .string (toS p0.Name), .int .u8 ((p0.Val.Kind.toNat : Nat) : Int), .int .i64 p0.Val.N, .int .u64 p0.Val.Bits, .string (toS p0.Val.Text)]) (r := (decide (((p0.Kind.toNat : Nat) : Int) = ((p0.Kind.toNat : Nat) : Int)) && (decide (0 = ((p0.Op.toNat : Nat) : Int)) && (decide ((toS ([] : List UInt8)) = (toS p0.Var)) && (decide ((toS ([] : List UInt8)) = (toS p0.Name)) && ((decide (0 = ((p0.Val.Kind.toNat : Nat) : Int)) && (decide (0 = p0.Val.N) && (decide (0 = p0.Val.Bits) && (decide ((toS ([] : List UInt8)) = (toS p0.Val.Text)) && true)))) && true)))))) (by kernel_rfl) (by kernel_rfl) (by kernel_rfl) (by kernel_rfl) (by kernel_rfl) (by kernel_rfl))) <| Wm (.b v34_4) rfl <| Nn <| Rt ?_
     obtain rfl := Option.some.inj hm
     exact ret_i []

theorem ok_pred_is__pred_Node_more (p0 : GNode_) (p2 : Int) (r : Int) (h : m_pred_is__pred_Node_more p0 p2 = some r) : GCall Try.prog 83 [(.agg [(.y p0.Kind), (.y p0.Op), (.s p0.Var), (.s p0.Name), (.y p0.Val.Kind), (.i p0.Val.N), (.u p0.Val.Bits), (.s p0.Val.Text)]), (.clo (.func 85) [] []), (.i p2)] [] (.i r) [] := by
 refine GCall.of_body (n := 11) (rs := [(.tmp 6)]) Try.func83 rfl rfl rfl <| Ato ⟨.agg [(.y p0.Kind), (.y p0.Op), (.s p0.Var), (.s p0.Name), (.y p0.Val.Kind), (.i p0.Val.N), (.u p0.Val.Bits), (.s p0.Val.Text)]::.clo (.func 85) [] []::.i p2::tu 8 [], [], 0⟩ ?_
 have hm := h
 unfold m_pred_is__pred_Node_more at hm
 refine Sx <| Wy (.loc 0 0) [(0, (.box [(.y p0.Kind), (.y p0.Op), (.s p0.Var), (.s p0.Name), (.y p0.Val.Kind), (.i p0.Val.N), (.u p0.Val.Bits), (.s p0.Val.Text)]))] (Obx rfl) <| Wm (.i 0) rfl <| Nk 14 1 ⟨tp 1 (.clo (.func 85) [] []::.i p2::.loc 0 0::tp 7 []), [(.box [(.y p0.Kind), (.y p0.Op), (.s p0.Var), (.s p0.Name), (.y p0.Val.Kind), (.i p0.Val.N), (.u p0.Val.Bits), (.s p0.Val.Text)])], 0⟩ <| Sq <| Sx <| Wm (.clo (.func 85) [] []) rfl <| Wz (.agg [(.y p0.Kind), (.y p0.Op), (.s p0.Var), (.s p0.Name), (.y p0.Val.Kind), (.i p0.Val.N), (.u p0.Val.Bits), (.s p0.Val.Text)]) (Old rfl) ?_
 obtain ⟨r9_0, hr9_0, hm⟩ := bnd hm
 refine Wz (.b r9_0) (Ocf [] [] [] 0 (ok_pred_Node_more p0 r9_0 hr9_0) (fun a w => Try.call85 a w) rfl trivial) <| Nk 516 0 ⟨tp 2 (.i p2::tp 6 (.b r9_0::tp 1 [])), [.gone], 0⟩ ?_
 rcases tf_ r9_0 with hc9_1 | hc9_1
 ·
  replace hm := cT hc9_1 hm
  refine AiT hc9_1 <| Sx <| Wm (.i p2) rfl <| Wm (.i p2) rfl <| Nn <| Rt <| Tr ?_
  obtain rfl := Option.some.inj hm
  exact ret_i []
 ·
  replace hm := cF hc9_1 hm
  refine AiF hc9_1 <| Sk <| Tk 0 0 ⟨tp 11 [], [.gone], 0⟩ <| Sx <| Wm (.i 0) rfl <| Nn <| Rt ?_
  obtain rfl := Option.some.inj hm
  exact ret_i []

theorem ok_pred_Kids (p0 : UInt8) (r : Int) (h : m_pred_Kids p0 = some r) : GCall Try.prog 86 [(.y p0)] [] (.i r) [] := by
 refine GCall.of_body (n := 12) (rs := [(.tmp 2)]) Try.func86 rfl rfl rfl <| Ato ⟨.y p0::tu 11 [], [], 0⟩ ?_
 have hm := h
 unfold m_pred_Kids at hm
 refine Sx <| Wm (.i 0) rfl <| Nk 1 0 ⟨.y p0::tp 11 [], [], 0⟩ <| Sq <| Sx <| Wm (.y p0) rfl <| Nk 8 0 ⟨tp 3 (.y p0::tp 8 []), [], 0⟩ <| Bk ?_
 refine AWP.cutJ (α := Bool) (fun x => match x with | y4_0 => (⟨tp 3 (.y p0::.b y4_0::tp 7 []), [], 0⟩ : St)) (fun x => match x with | y4_0 => m_pred_Kids_j0 p0 y4_0 = some r) ?_ (fun J0 => ?_)
 ·
  rintro y4_0 hm
  try dsimp only at hm ⊢
  unfold m_pred_Kids_j0 at hm
  rcases tf_ y4_0 with hc4_0 | hc4_0
  ·
   replace hm := cT hc4_0 hm
   refine AiT hc4_0 <| Sx <| Wm (.i 2) rfl <| Nn <| Rt <| Ir <| Tr ?_
   obtain rfl := Option.some.inj hm
   exact ret_i []
  ·
   replace hm := cF hc4_0 hm
   refine AiF hc4_0 <| Sx <| Wz (.b (decide (((p0.toNat : Nat) : Int) = 3))) (Ob2 (.int .u8 ((p0.toNat : Nat) : Int)) (.int .u8 3) rfl (fun _ => hb_eql)) <| Wm (.b (decide (((p0.toNat : Nat) : Int) = 3))) rfl <| Nk 1024 0 ⟨tp 10 (.b (decide (((p0.toNat : Nat) : Int) = 3))::tp 1 []), [], 0⟩ ?_
   rcases tf_ (decide (((p0.toNat : Nat) : Int) = 3)) with hc10_1 | hc10_1
   ·
    replace hm := cT hc10_1 hm
    refine AiT hc10_1 <| Sx <| Wm (.i 1) rfl <| Nn <| Rt <| Ir <| Tr ?_
    obtain rfl := Option.some.inj hm
    exact ret_i []
   ·
    replace hm := cF hc10_1 hm
    refine AiF hc10_1 <| Sk <| Ino <| Tk 0 0 ⟨tp 12 [], [], 0⟩ <| Sx <| Wm (.i 0) rfl <| Nn <| Rt ?_
    obtain rfl := Option.some.inj hm
    exact ret_i []
 refine Sq <| Sx <| Wz (.b (decide (((p0.toNat : Nat) : Int) = 1))) (Ob2 (.int .u8 ((p0.toNat : Nat) : Int)) (.int .u8 1) rfl (fun _ => hb_eql)) <| Wm (.b (decide (((p0.toNat : Nat) : Int) = 1))) rfl <| Nk 24 0 ⟨tp 3 (.y p0::.b (decide (((p0.toNat : Nat) : Int) = 1))::tp 7 []), [], 0⟩ ?_
 rcases tf_ (decide (((p0.toNat : Nat) : Int) = 1)) with hc4_2 | hc4_2
 ·
  replace hm := cT hc4_2 hm
  refine AiT hc4_2 <| Sk <| Tn ?_
  exact AWP.weak (Weak.toK 24 0 0 []) (J0 (decide (((p0.toNat : Nat) : Int) = 1)) hm)
 ·
  replace hm := cF hc4_2 hm
  refine AiF hc4_2 <| Sx <| Wz (.b (decide (((p0.toNat : Nat) : Int) = 2))) (Ob2 (.int .u8 ((p0.toNat : Nat) : Int)) (.int .u8 2) rfl (fun _ => hb_eql)) <| Wm (.b (decide (((p0.toNat : Nat) : Int) = 2))) rfl <| Nk 24 0 ⟨tp 3 (.y p0::.b (decide (((p0.toNat : Nat) : Int) = 2))::tp 7 []), [], 0⟩ ?_
  rcases tf_ (decide (((p0.toNat : Nat) : Int) = 2)) with hc4_3 | hc4_3
  ·
   replace hm := cT hc4_3 hm
   refine AiT hc4_3 <| Sk <| Tn ?_
   exact AWP.weak (Weak.toK 24 0 0 []) (J0 (decide (((p0.toNat : Nat) : Int) = 2)) hm)
  ·
   replace hm := cF hc4_3 hm
   refine AiF hc4_3 <| Sx <| Wz (.b (decide (((p0.toNat : Nat) : Int) = 4))) (Ob2 (.int .u8 ((p0.toNat : Nat) : Int)) (.int .u8 4) rfl (fun _ => hb_eql)) <| Wm (.b (decide (((p0.toNat : Nat) : Int) = 4))) rfl <| Nk 24 0 ⟨tp 3 (.y p0::.b (decide (((p0.toNat : Nat) : Int) = 4))::tp 7 []), [], 0⟩ ?_
   rcases tf_ (decide (((p0.toNat : Nat) : Int) = 4)) with hc4_4 | hc4_4
   ·
    replace hm := cT hc4_4 hm
    refine AiT hc4_4 <| Sk <| Tn ?_
    exact AWP.weak (Weak.toK 24 0 0 []) (J0 (decide (((p0.toNat : Nat) : Int) = 4)) hm)
   ·
    replace hm := cF hc4_4 hm
    refine AiF hc4_4 <| Sx <| Wz (.b (decide (((p0.toNat : Nat) : Int) = 5))) (Ob2 (.int .u8 ((p0.toNat : Nat) : Int)) (.int .u8 5) rfl (fun _ => hb_eql)) <| Wm (.b (decide (((p0.toNat : Nat) : Int) = 5))) rfl <| Nk 24 0 ⟨tp 3 (.y p0::.b (decide (((p0.toNat : Nat) : Int) = 5))::tp 7 []), [], 0⟩ ?_
    rcases tf_ (decide (((p0.toNat : Nat) : Int) = 5)) with hc4_5 | hc4_5
    ·
     replace hm := cT hc4_5 hm
     refine AiT hc4_5 <| Sk <| Tn ?_
     exact AWP.weak (Weak.toK 24 0 0 []) (J0 (decide (((p0.toNat : Nat) : Int) = 5)) hm)
    ·
     replace hm := cF hc4_5 hm
     refine AiF hc4_5 <| Tx <| Wz (.b (decide (((p0.toNat : Nat) : Int) = 6))) (Ob2 (.int .u8 ((p0.toNat : Nat) : Int)) (.int .u8 6) rfl (fun _ => hb_eql)) <| Wm (.b (decide (((p0.toNat : Nat) : Int) = 6))) rfl <| Nn ?_
     exact AWP.weak (Weak.toK 24 0 0 []) (J0 (decide (((p0.toNat : Nat) : Int) = 6)) hm)

theorem ok_pred_Node_kid (p0 : GNode_) (p1 : Int) (r : Int) (h : m_pred_Node_kid p0 p1 = some r) : GCall Try.prog 87 [(.agg [(.y p0.Kind), (.y p0.Op), (.s p0.Var), (.s p0.Name), (.y p0.Val.Kind), (.i p0.Val.N), (.u p0.Val.Bits), (.s p0.Val.Text)]), (.i p1)] [] (.i r) [] := by
 refine GCall.of_body (n := 15) (rs := [(.tmp 4)]) Try.func87 rfl rfl rfl <| Ato ⟨.agg [(.y p0.Kind), (.y p0.Op), (.s p0.Var), (.s p0.Name), (.y p0.Val.Kind), (.i p0.Val.N), (.u p0.Val.Bits), (.s p0.Val.Text)]::.i p1::tu 13 [], [], 0⟩ ?_
 have hm := h
 unfold m_pred_Node_kid at hm
 refine Sx <| Wy (.loc 0 0) [(0, (.box [(.y p0.Kind), (.y p0.Op), (.s p0.Var), (.s p0.Name), (.y p0.Val.Kind), (.i p0.Val.N), (.u p0.Val.Bits), (.s p0.Val.Text)]))] (Obx rfl) <| Wm (.i 0) rfl <| Nk 6 1 ⟨tp 1 (.i p1::.loc 0 0::tp 12 []), [(.box [(.y p0.Kind), (.y p0.Op), (.s p0.Var), (.s p0.Name), (.y p0.Val.Kind), (.i p0.Val.N), (.u p0.Val.Bits), (.s p0.Val.Text)])], 0⟩ <| Sq <| Bk <| Sx <| Wz (.loc 0 0) (Ofa rfl) <| Wz (.y p0.Kind) (Old rfl) <| Wz (.b (decide (((p0.Kind.toNat : Nat) : Int) ≤ 3))) (Ob2 (.int .u8 ((p0.Kind.toNat : Nat) : Int)) (.int .u8 3) rfl (fun _ => hb_leq)) <| Wm (.b (decide (((p0.Kind.toNat : Nat) : Int) ≤ 3))) rfl <| Nk 38 1 ⟨tp 1 (.i p1::.loc 0 0::tp 2 (.b (decide (((p0.Kind.toNat : Nat) : Int) ≤ 3))::tp 9 [])), [(.box [(.y p0.Kind), (.y p0.Op), (.s p0.Var), (.s p0.Name), (.y p0.Val.Kind), (.i p0.Val.N), (.u p0.Val.Bits), (.s p0.Val.Text)])], 0⟩ ?_
 rcases tf_ (decide (((p0.Kind.toNat : Nat) : Int) ≤ 3)) with hc5_1 | hc5_1
 ·
  replace hm := cT hc5_1 hm
  refine AiT hc5_1 <| Sx <| Wm (.i 0) rfl <| Nn <| Rt <| Ir <| Tr ?_
  obtain rfl := Option.some.inj hm
  exact ret_i []
 ·
  replace hm := cF hc5_1 hm
  refine AiF hc5_1 ?_
  refine AWP.cutJ (α := Bool) (fun x => match x with | y9_0 => (⟨tp 9 (.b y9_0::tp 5 []), [], 0⟩ : St)) (fun x => match x with | y9_0 => m_pred_Node_kid_j0  y9_0 = some r) ?_ (fun J0 => ?_)
  ·
   rintro y9_0 hm
   try dsimp only at hm ⊢
   unfold m_pred_Node_kid_j0 at hm
   rcases tf_ y9_0 with hc9_0 | hc9_0
   ·
    replace hm := cT hc9_0 hm
    refine AiT hc9_0 <| Sx <| Wm (.i 1) rfl <| Nn <| Rt <| Ir <| Tr ?_
    obtain rfl := Option.some.inj hm
    exact ret_i []
   ·
    replace hm := cF hc9_0 hm
    refine AiF hc9_0 <| Sk <| Ino <| Tk 0 0 ⟨tp 15 [], [], 0⟩ <| Sx <| Wm (.i 2) rfl <| Nn <| Rt ?_
    obtain rfl := Option.some.inj hm
    exact ret_i []
  refine Sq <| Sx <| Wz (.loc 0 0) (Ofa rfl) <| Wz (.y p0.Kind) (Old rfl) <| Wz (.b (decide (((p0.Kind.toNat : Nat) : Int) = 4))) (Ob2 (.int .u8 ((p0.Kind.toNat : Nat) : Int)) (.int .u8 4) rfl (fun _ => hb_eql)) <| Wm (.b (decide (((p0.Kind.toNat : Nat) : Int) = 4))) rfl <| Nk 514 0 ⟨tp 1 (.i p1::tp 7 (.b (decide (((p0.Kind.toNat : Nat) : Int) = 4))::tp 5 [])), [.gone], 0⟩ ?_
  rcases tf_ (decide (((p0.Kind.toNat : Nat) : Int) = 4)) with hc9_2 | hc9_2
  ·
   replace hm := cT hc9_2 hm
   refine AiT hc9_2 <| Sk <| Tn ?_
   exact AWP.weak (Weak.toK 512 0 0 []) (J0 (decide (((p0.Kind.toNat : Nat) : Int) = 4)) hm)
  ·
   replace hm := cF hc9_2 hm
   refine AiF hc9_2 <| Tx <| Wm (.i p1) rfl <| Wz (.b (decide (p1 = 0))) (Obn rfl (fun _ => hb_eql (k := .i64))) <| Wm (.b (decide (p1 = 0))) rfl <| Nn ?_
   exact AWP.weak (Weak.toK 512 0 0 []) (J0 (decide (p1 = 0)) hm)

theorem ok_pred_checker_tree : ∀ (fuR : Nat) (p0 : GTchecker) (p1 : Int) (p2 : Int) (r : (Int × GTchecker)) (h : m_pred_checker_tree fuR p0 p1 p2 = some r), GCall Try.prog 69 [(.loc 0 0), (.i p1), (.i p2)] [(.box [(.l enc_GNode_ p0.l), (.i p0.at_)])] (.i r.1) [(.box [(.l enc_GNode_ r.2.l), (.i r.2.at_)])] := by
 intro fuR; induction fuR with
 | zero => intro p0 p1 p2 r h; exact absurd h (by unfold m_pred_checker_tree; simp)
 | succ fuR ih =>
 intro p0 p1 p2 r h
 refine GCall.of_body (n := 72) (rs := [(.tmp 6)]) Try.func69 rfl rfl rfl <| Ato ⟨.loc 0 0::.i p1::.i p2::tu 69 [], [(.box [(.l enc_GNode_ p0.l), (.i p0.at_)])], 1⟩ ?_
 have hm := h
 unfold m_pred_checker_tree at hm
 refine Sx <| Wm (.i 0) rfl <| Nk 7 1 ⟨.loc 0 0::.i p1::.i p2::tp 69 [], [(.box [(.l enc_GNode_ p0.l), (.i p0.at_)])], 1⟩ <| Sq <| Sq <| Adr <| Wm (.loc 0 0) rfl <| Wz (.loc 0 0) (op_nilCheckLoc rfl (id := 0) (off := 0) (xs := [(.l enc_GNode_ p0.l), (.i p0.at_)]) (by kernel_rfl) (by kernel_rfl)) <| Wz (.loc 0 1) (Ofa rfl) <| Wz (.i p0.at_) (Old rfl) <| Wm (.loc 0 0) rfl <| Wz (.loc 0 0) (op_nilCheckLoc rfl (id := 0) (off := 0) (xs := [(.l enc_GNode_ p0.l), (.i p0.at_)]) (by kernel_rfl) (by kernel_rfl)) <| Wz (.loc 0 0) (Ofa rfl) <| Wz (.l enc_GNode_ p0.l) (Old rfl) ?_
 refine Wz (.i ((List.length p0.l : Nat) : Int)) (Oln rfl) <| Wz (.b (decide (((List.length p0.l : Nat) : Int) ≤ p0.at_))) (Obn rfl (fun _ => hb_geq (k := .i64))) <| Wdr <| Tk 2097159 1 ⟨.loc 0 0::.i p1::.i p2::tp 18 (.b (decide (((List.length p0.l : Nat) : Int) ≤ p0.at_))::tp 50 []), [(.box [(.l enc_GNode_ p0.l), (.i p0.at_)])], 1⟩ ?_
 rcases tf_ (decide (((List.length p0.l : Nat) : Int) ≤ p0.at_)) with hc21_8 | hc21_8
 ·
  replace hm := cT hc21_8 hm
  refine AiT hc21_8 <| Sx <| Wm (.i 3) rfl <| Nn <| Rt <| Tr ?_
  obtain rfl := Option.some.inj hm
  exact ret_i [0]
 ·
  replace hm := cF hc21_8 hm
  refine AiF hc21_8 <| Sk <| Tk 7 1 ⟨.loc 0 0::.i p1::.i p2::tp 69 [], [(.box [(.l enc_GNode_ p0.l), (.i p0.at_)])], 1⟩ <| Sq <| Adr <| Wm (.loc 0 0) rfl <| Wz (.loc 0 0) (op_nilCheckLoc rfl (id := 0) (off := 0) (xs := [(.l enc_GNode_ p0.l), (.i p0.at_)]) (by kernel_rfl) (by kernel_rfl)) <| Wz (.loc 0 0) (Ofa rfl) <| Wz (.l enc_GNode_ p0.l) (Old rfl) <| Wm (.loc 0 0) rfl <| Wz (.loc 0 0) (op_nilCheckLoc rfl (id := 0) (off := 0) (xs := [(.l enc_GNode_ p0.l), (.i p0.at_)]) (by kernel_rfl) (by kernel_rfl)) <| Wz (.loc 0 1) (Ofa rfl) <| Wz (.i p0.at_) (Old rfl) ?_
  obtain ⟨x30_1, hx30_1, hm⟩ := bnd hm
  obtain ⟨hx30_1i, hx30_1g⟩ := geti_some hx30_1
  refine Wz (.d (.ref (List.drop ((Int.toNat p0.at_) * 8) (flatD enc_GNode_ p0.l)))) (Oia rfl enc_GNode__len hx30_1i hx30_1g) <| Wz (.agg [(.y x30_1.Kind), (.y x30_1.Op), (.s x30_1.Var), (.s x30_1.Name), (.y x30_1.Val.Kind), (.i x30_1.Val.N), (.u x30_1.Val.Bits), (.s x30_1.Val.Text)]) (Lf rfl enc_GNode__len hx30_1g) <| Wy (.loc 1 0) [(1, (.box [(.y 0), (.y 0), (.s ([] : List UInt8)), (.s ([] : List UInt8)), (.y 0), (.i 0), (.u 0), (.s ([] : List UInt8))]))] (Oal rfl) <| Wy (.tup []) [(1, (.box [(.y x30_1.Kind), (.y x30_1.Op), (.s x30_1.Var), (.s x30_1.Name), (.y x30_1.Val.Kind), (.i x30_1.Val.N), (.u x30_1.Val.Bits), (.s x30_1.Val.Text)]))] (Ost rfl) <| Wdr <| Tk 135 3 ⟨.loc 0 0::.i p1::.i p2::tp 4 (.loc 1 0::tp 64 []), [(.box [(.l enc_GNode_ p0.l), (.i p0.at_)]), (.box [(.y x30_1.Kind), (.y x30_1.Op), (.s x30_1.Var), (.s x30_1.Name), (.y x30_1.Val.Kind), (.i x30_1.Val.N), (.u x30_1.Val.Bits), (.s x30_1.Val.Text)])], 1⟩ <| Sq <| Sx <| Wm (.i p2) rfl <| Wz (.b (decide ((16 : Int) ≤ p2))) (Obn rfl (fun _ => hb_geq (k := .i64))) <| Nk 8589934727 3 ⟨.loc 0 0::.i p1::.i p2::tp 4 (.loc 1 0::tp 25 (.b (decide ((16 : Int) ≤ p2))::tp 38 [])), [(.box [(.l enc_GNode_ p0.l), (.i p0.at_)]), (.box [(.y x30_1.Kind), (.y x30_1.Op), (.s x30_1.Var), (.s x30_1.Name), (.y x30_1.Val.Kind), (.i x30_1.Val.N), (.u x30_1.Val.Bits), (.s x30_1.Val.Text)])], 1⟩ ?_
  rcases tf_ (decide ((16 : Int) ≤ p2)) with hc33_9 | hc33_9
  ·
   replace hm := cT hc33_9 hm
   refine AiT hc33_9 <| Sx <| Wm (.i 15) rfl <| Nn <| Rt <| Tr ?_
   obtain rfl := Option.some.inj hm
   exact ret_i [0]
  ·
   replace hm := cF hc33_9 hm
   refine AiF hc33_9 <| Sk <| Tk 135 3 ⟨.loc 0 0::.i p1::.i p2::tp 4 (.loc 1 0::tp 64 []), [(.box [(.l enc_GNode_ p0.l), (.i p0.at_)]), (.box [(.y x30_1.Kind), (.y x30_1.Op), (.s x30_1.Var), (.s x30_1.Name), (.y x30_1.Val.Kind), (.i x30_1.Val.N), (.u x30_1.Val.Bits), (.s x30_1.Val.Text)])], 1⟩ <| Sq <| Sx <| Wz (.agg [(.y x30_1.Kind), (.y x30_1.Op), (.s x30_1.Var), (.s x30_1.Name), (.y x30_1.Val.Kind), (.i x30_1.Val.N), (.u x30_1.Val.Bits), (.s x30_1.Val.Text)]) (Old rfl) <| Wm (.i p1) rfl ?_
   obtain ⟨r36_2, hr36_2, hm⟩ := bnd hm
   refine Wz (.b r36_2) (Ocf [] [] [] 0 (ok_pred_Node_stands x30_1 p1 r36_2 hr36_2) (fun a w => Try.call82 a w) rfl trivial) <| Wz (.b (!r36_2)) (Ocs (by kernel_rfl) (op_un rfl (a1 := .bool r36_2) (by kernel_rfl) (fun _ => hu_not))) <| Nk 137438953605 3 ⟨.loc 0 0::tp 1 (.i p2::tp 4 (.loc 1 0::tp 29 (.b (!r36_2)::tp 34 []))), [(.box [(.l enc_GNode_ p0.l), (.i p0.at_)]), (.box [(.y x30_1.Kind), (.y x30_1.Op), (.s x30_1.Var), (.s x30_1.Name), (.y x30_1.Val.Kind), (.i x30_1.Val.N), (.u x30_1.Val.Bits), (.s x30_1.Val.Text)])], 1⟩ ?_
   rcases tf_ (!r36_2) with hc37_10 | hc37_10
   ·
    replace hm := cT hc37_10 hm
    refine AiT hc37_10 <| Sx <| Wm (.i 11) rfl <| Nn <| Rt <| Tr ?_
    obtain rfl := Option.some.inj hm
    exact ret_i [0]
   ·
    replace hm := cF hc37_10 hm
    refine AiF hc37_10 <| Sk <| Tk 133 3 ⟨.loc 0 0::tp 1 (.i p2::tp 4 (.loc 1 0::tp 64 [])), [(.box [(.l enc_GNode_ p0.l), (.i p0.at_)]), (.box [(.y x30_1.Kind), (.y x30_1.Op), (.s x30_1.Var), (.s x30_1.Name), (.y x30_1.Val.Kind), (.i x30_1.Val.N), (.u x30_1.Val.Bits), (.s x30_1.Val.Text)])], 1⟩ <| Sq <| Sx <| Wz (.agg [(.y x30_1.Kind), (.y x30_1.Op), (.s x30_1.Var), (.s x30_1.Name), (.y x30_1.Val.Kind), (.i x30_1.Val.N), (.u x30_1.Val.Bits), (.s x30_1.Val.Text)]) (Old rfl) ?_
    obtain ⟨r39_3, hr39_3, hm⟩ := bnd hm
    refine Wz (.i r39_3) (Ocf [] [] [] 0 (ok_pred_is__pred_Node_lacks x30_1 4 r39_3 hr39_3) (fun a w => Try.call83 a w) rfl trivial) <| Wm (.i r39_3) rfl <| Nk 389 3 ⟨.loc 0 0::tp 1 (.i p2::tp 4 (.loc 1 0::.i r39_3::tp 63 [])), [(.box [(.l enc_GNode_ p0.l), (.i p0.at_)]), (.box [(.y x30_1.Kind), (.y x30_1.Op), (.s x30_1.Var), (.s x30_1.Name), (.y x30_1.Val.Kind), (.i x30_1.Val.N), (.u x30_1.Val.Bits), (.s x30_1.Val.Text)])], 1⟩ <| Sx <| Wm (.i r39_3) rfl <| Wz (.b (decide (r39_3 ≠ 0))) (Obn rfl (fun _ => hb_neq (k := .i64))) <| Nk 2199023255941 3 ⟨.loc 0 0::tp 1 (.i p2::tp 4 (.loc 1 0::.i r39_3::tp 32 (.b (decide (r39_3 ≠ 0))::tp 30 []))), [(.box [(.l enc_GNode_ p0.l), (.i p0.at_)]), (.box [(.y x30_1.Kind), (.y x30_1.Op), (.s x30_1.Var), (.s x30_1.Name), (.y x30_1.Val.Kind), (.i x30_1.Val.N), (.u x30_1.Val.Bits), (.s x30_1.Val.Text)])], 1⟩ ?_
    rcases tf_ (decide (r39_3 ≠ 0)) with hc41_11 | hc41_11
    ·
     replace hm := cT hc41_11 hm
     refine AiT hc41_11 <| Sx <| Wm (.i r39_3) rfl <| Wm (.i r39_3) rfl <| Nn <| Rt <| Tr ?_
     obtain rfl := Option.some.inj hm
     exact ret_i [0]
    ·
     replace hm := cF hc41_11 hm
     refine AiF hc41_11 <| Sk <| Tk 133 3 ⟨.loc 0 0::tp 1 (.i p2::tp 4 (.loc 1 0::tp 64 [])), [(.box [(.l enc_GNode_ p0.l), (.i p0.at_)]), (.box [(.y x30_1.Kind), (.y x30_1.Op), (.s x30_1.Var), (.s x30_1.Name), (.y x30_1.Val.Kind), (.i x30_1.Val.N), (.u x30_1.Val.Bits), (.s x30_1.Val.Text)])], 1⟩ <| Sq <| Sx <| Wz (.agg [(.y x30_1.Kind), (.y x30_1.Op), (.s x30_1.Var), (.s x30_1.Name), (.y x30_1.Val.Kind), (.i x30_1.Val.N), (.u x30_1.Val.Bits), (.s x30_1.Val.Text)]) (Old rfl) ?_
     obtain ⟨r44_4, hr44_4, hm⟩ := bnd hm
     refine Wz (.i r44_4) (Ocf [] [] [] 0 (ok_pred_is__pred_Node_more x30_1 2 r44_4 hr44_4) (fun a w => Try.call83 a w) rfl trivial) <| Wm (.i r44_4) rfl <| Nk 645 3 ⟨.loc 0 0::tp 1 (.i p2::tp 4 (.loc 1 0::tp 1 (.i r44_4::tp 62 []))), [(.box [(.l enc_GNode_ p0.l), (.i p0.at_)]), (.box [(.y x30_1.Kind), (.y x30_1.Op), (.s x30_1.Var), (.s x30_1.Name), (.y x30_1.Val.Kind), (.i x30_1.Val.N), (.u x30_1.Val.Bits), (.s x30_1.Val.Text)])], 1⟩ <| Sx <| Wm (.i r44_4) rfl <| Wz (.b (decide (r44_4 ≠ 0))) (Obn rfl (fun _ => hb_neq (k := .i64))) <| Nk 70368744178309 3 ⟨.loc 0 0::tp 1 (.i p2::tp 4 (.loc 1 0::tp 1 (.i r44_4::tp 36 (.b (decide (r44_4 ≠ 0))::tp 25 [])))), [(.box [(.l enc_GNode_ p0.l), (.i p0.at_)]), (.box [(.y x30_1.Kind), (.y x30_1.Op), (.s x30_1.Var), (.s x30_1.Name), (.y x30_1.Val.Kind), (.i x30_1.Val.N), (.u x30_1.Val.Bits), (.s x30_1.Val.Text)])], 1⟩ ?_
     rcases tf_ (decide (r44_4 ≠ 0)) with hc46_12 | hc46_12
     ·
      replace hm := cT hc46_12 hm
      refine AiT hc46_12 <| Sx <| Wm (.i r44_4) rfl <| Wm (.i r44_4) rfl <| Nn <| Rt <| Tr ?_
      obtain rfl := Option.some.inj hm
      exact ret_i [0]
     ·
      replace hm := cF hc46_12 hm
      refine AiF hc46_12 <| Sk <| Tk 133 3 ⟨.loc 0 0::tp 1 (.i p2::tp 4 (.loc 1 0::tp 64 [])), [(.box [(.l enc_GNode_ p0.l), (.i p0.at_)]), (.box [(.y x30_1.Kind), (.y x30_1.Op), (.s x30_1.Var), (.s x30_1.Name), (.y x30_1.Val.Kind), (.i x30_1.Val.N), (.u x30_1.Val.Bits), (.s x30_1.Val.Text)])], 1⟩ <| Sx <| Wm (.loc 0 0) rfl <| Wz (.loc 0 0) (op_nilCheckLoc rfl (id := 0) (off := 0) (xs := [(.l enc_GNode_ p0.l), (.i p0.at_)]) (by kernel_rfl) (by kernel_rfl)) <| Wz (.loc 0 1) (Ofa rfl) <| Wz (.i p0.at_) (Old rfl) <| Wz (.i (W6 (p0.at_ + 1))) (Obn rfl (fun _ => hb_add (k := .i64))) <| Wz (.loc 0 0) (op_nilCheckLoc rfl (id := 0) (off := 0) (xs := [(.l enc_GNode_ p0.l), (.i p0.at_)]) (by kernel_rfl) (by kernel_rfl)) <| Wz (.loc 0 1) (Ofa rfl) <| Wy (.tup []) [(0, (.box [(.l enc_GNode_ p0.l), (.i (W6 (p0.at_ + 1)))]))] (Ost rfl) <| Nk 133 3 ⟨.loc 0 0::tp 1 (.i p2::tp 4 (.loc 1 0::tp 64 [])), [(.box [(.l enc_GNode_ p0.l), (.i (W6 (p0.at_ + 1)))]), (.box [(.y x30_1.Kind), (.y x30_1.Op), (.s x30_1.Var), (.s x30_1.Name), (.y x30_1.Val.Kind), (.i x30_1.Val.N), (.u x30_1.Val.Bits), (.s x30_1.Val.Text)])], 1⟩ <| Sq ?_
      refine Sx <| Wz (.loc 1 0) (Ofa rfl) <| Wz (.y x30_1.Kind) (Old rfl) ?_
      obtain ⟨r57_5, hr57_5, hm⟩ := bnd hm
      refine Wz (.i r57_5) (Ocf [] [] [] 0 (ok_pred_Kids x30_1.Kind r57_5 hr57_5) (fun a w => Try.call86 a w) rfl trivial) <| Wm (.i 0) rfl <| Nk 432345564227567749 3 ⟨.loc 0 0::tp 1 (.i p2::tp 4 (.loc 1 0::tp 49 (.i r57_5::.i 0::tp 13 []))), [(.box [(.l enc_GNode_ p0.l), (.i (W6 (p0.at_ + 1)))]), (.box [(.y x30_1.Kind), (.y x30_1.Op), (.s x30_1.Var), (.s x30_1.Name), (.y x30_1.Val.Kind), (.i x30_1.Val.N), (.u x30_1.Val.Bits), (.s x30_1.Val.Text)])], 1⟩ <| Bk ?_
      refine AWP.loopI (α := Nat × GTchecker × Int)
        (fun (fu_6, y0_d_6, y58_6) => (⟨.loc 0 0::tp 1 (.i p2::tp 4 (.loc 1 0::tp 49 (.i r57_5::.i y58_6::tp 13 []))), [(.box [(.l enc_GNode_ y0_d_6.l), (.i y0_d_6.at_)]), (.box [(.y x30_1.Kind), (.y x30_1.Op), (.s x30_1.Var), (.s x30_1.Name), (.y x30_1.Val.Kind), (.i x30_1.Val.N), (.u x30_1.Val.Bits), (.s x30_1.Val.Text)])], 1⟩ : St))
        (fun (fu_6, y0_d_6, y58_6) => m_pred_checker_tree_l6 p2 r57_5 x30_1 (fun p0 p1 p2 => m_pred_checker_tree fuR p0 p1 p2) fu_6 y0_d_6 y58_6 = some r)
        (fun (fu_6, y0_d_6, y58_6) => fu_6) (1152921504606846976, (GTchecker.mk p0.l (W6 (p0.at_ + 1))), 0)
        (Weak.toK 432345564227567749 0 0 [0, 1]) hm ?_
      rintro ⟨fu_6, y0_d_6, y58_6⟩ n_6 hm ih_6
      try dsimp only at hm ih_6 ⊢
      cases fu_6 with
      | zero => exact absurd hm (by unfold m_pred_checker_tree_l6; simp)
      | succ fu_6 =>
       unfold m_pred_checker_tree_l6 at hm
       refine Sx <| Wz (.b (decide (y58_6 < r57_5))) (Obn rfl (fun _ => hb_lss (k := .i64))) <| Nk 1008806316530991237 3 ⟨.loc 0 0::tp 1 (.i p2::tp 4 (.loc 1 0::tp 49 (.i r57_5::.i y58_6::.b (decide (y58_6 < r57_5))::tp 12 []))), [(.box [(.l enc_GNode_ y0_d_6.l), (.i y0_d_6.at_)]), (.box [(.y x30_1.Kind), (.y x30_1.Op), (.s x30_1.Var), (.s x30_1.Name), (.y x30_1.Val.Kind), (.i x30_1.Val.N), (.u x30_1.Val.Bits), (.s x30_1.Val.Text)])], 1⟩ <| Sq ?_
       rcases tf_ (decide (y58_6 < r57_5)) with hc59_13 | hc59_13
       ·
        replace hm := cT hc59_13 hm
        refine AiT hc59_13 <| Sk <| Tk 432345564227567749 3 ⟨.loc 0 0::tp 1 (.i p2::tp 4 (.loc 1 0::tp 49 (.i r57_5::.i y58_6::tp 13 []))), [(.box [(.l enc_GNode_ y0_d_6.l), (.i y0_d_6.at_)]), (.box [(.y x30_1.Kind), (.y x30_1.Op), (.s x30_1.Var), (.s x30_1.Name), (.y x30_1.Val.Kind), (.i x30_1.Val.N), (.u x30_1.Val.Bits), (.s x30_1.Val.Text)])], 1⟩ <| Sq <| Bk <| Sx <| Wm (.i y58_6) rfl <| Wm (.i y58_6) rfl <| Nk 432345564227568773 3 ⟨.loc 0 0::tp 1 (.i p2::tp 4 (.loc 1 0::tp 2 (.i y58_6::tp 46 (.i r57_5::.i y58_6::tp 13 [])))), [(.box [(.l enc_GNode_ y0_d_6.l), (.i y0_d_6.at_)]), (.box [(.y x30_1.Kind), (.y x30_1.Op), (.s x30_1.Var), (.s x30_1.Name), (.y x30_1.Val.Kind), (.i x30_1.Val.N), (.u x30_1.Val.Bits), (.s x30_1.Val.Text)])], 1⟩ <| Sx <| Wm (.loc 0 0) rfl <| Wz (.agg [(.y x30_1.Kind), (.y x30_1.Op), (.s x30_1.Var), (.s x30_1.Name), (.y x30_1.Val.Kind), (.i x30_1.Val.N), (.u x30_1.Val.Bits), (.s x30_1.Val.Text)]) (Old rfl) <| Wm (.i y58_6) rfl ?_
        obtain ⟨r64_7, hr64_7, hm⟩ := bnd hm
        refine Wz (.i r64_7) (Ocf [] [] [] 0 (ok_pred_Node_kid x30_1 y58_6 r64_7 hr64_7) (fun a w => Try.call87 a w) rfl trivial) <| Wm (.i p2) rfl <| Wz (.i (W6 (p2 + 1))) (Obn rfl (fun _ => hb_add (k := .i64))) ?_
        obtain ⟨r67_7, hr67_7, hm⟩ := bnd hm
        refine Wy (.i r67_7.1) [(0, (.box [(.l enc_GNode_ r67_7.2.l), (.i r67_7.2.at_)]))] (Ocf [0] [] [] 0 (ih y0_d_6 r64_7 (W6 (p2 + 1)) r67_7 hr67_7) (fun a w => Try.call69 a w) rfl ⟨rfl, trivial⟩) <| Wm (.i r67_7.1) rfl <| Nk 432345564227569797 3 ⟨.loc 0 0::tp 1 (.i p2::tp 4 (.loc 1 0::tp 3 (.i r67_7.1::tp 45 (.i r57_5::.i y58_6::tp 13 [])))), [(.box [(.l enc_GNode_ r67_7.2.l), (.i r67_7.2.at_)]), (.box [(.y x30_1.Kind), (.y x30_1.Op), (.s x30_1.Var), (.s x30_1.Name), (.y x30_1.Val.Kind), (.i x30_1.Val.N), (.u x30_1.Val.Bits), (.s x30_1.Val.Text)])], 1⟩ <| Sx <| Wm (.i r67_7.1) rfl <| Wz (.b (decide (r67_7.1 ≠ 0))) (Obn rfl (fun _ => hb_neq (k := .i64))) <| Nk 590728155922933221509 3 ⟨.loc 0 0::tp 1 (.i p2::tp 4 (.loc 1 0::tp 3 (.i r67_7.1::tp 45 (.i r57_5::.i y58_6::tp 10 (.b (decide (r67_7.1 ≠ 0))::tp 2 []))))), [(.box [(.l enc_GNode_ r67_7.2.l), (.i r67_7.2.at_)]), (.box [(.y x30_1.Kind), (.y x30_1.Op), (.s x30_1.Var), (.s x30_1.Name), (.y x30_1.Val.Kind), (.i x30_1.Val.N), (.u x30_1.Val.Bits), (.s x30_1.Val.Text)])], 1⟩ ?_
        rcases tf_ (decide (r67_7.1 ≠ 0)) with hc69_14 | hc69_14
        ·
         replace hm := cT hc69_14 hm
         refine AiT hc69_14 <| Sx <| Wm (.i r67_7.1) rfl <| Wm (.i r67_7.1) rfl <| Nn <| Rt <| Ir <| Tr <| RoundK.ret <| Ir <| Tr ?_
         obtain rfl := Option.some.inj hm
         exact ret_i [0]
        ·
         replace hm := cF hc69_14 hm
         refine AiF hc69_14 <| Sk <| Ino <| Tk 432345564227567749 3 ⟨.loc 0 0::tp 1 (.i p2::tp 4 (.loc 1 0::tp 49 (.i r57_5::.i y58_6::tp 13 []))), [(.box [(.l enc_GNode_ r67_7.2.l), (.i r67_7.2.at_)]), (.box [(.y x30_1.Kind), (.y x30_1.Op), (.s x30_1.Var), (.s x30_1.Name), (.y x30_1.Val.Kind), (.i x30_1.Val.N), (.u x30_1.Val.Bits), (.s x30_1.Val.Text)])], 1⟩ <| Tx <| Wz (.i (W6 (y58_6 + 1))) (Obn rfl (fun _ => hb_add (k := .i64))) <| Wm (.i (W6 (y58_6 + 1))) rfl <| Wn0 <| RoundK.normal ?_
         exact Rounds.weak (Weak.toK 432345564227567749 0 0 [0, 1]) (ih_6 (fu_6, r67_7.2, (W6 (y58_6 + 1))) hm (Nat.lt_succ_self _))
       ·
        replace hm := cF hc59_13 hm
        refine AiF hc59_13 <| AWP.exit <| Then.exit <| RoundK.exit <| InBlock.same <| Tk 0 1 ⟨tp 72 [], [(.box [(.l enc_GNode_ y0_d_6.l), (.i y0_d_6.at_)]), .gone], 1⟩ <| Sx <| Wm (.i 0) rfl <| Nn <| Rt ?_
        obtain rfl := Option.some.inj hm
        exact ret_i [0]

theorem ok_pred_Check (p0 : (List GNode_)) (r : Int) (h : m_pred_Check p0 = some r) : GCall Try.prog 58 [(.l enc_GNode_ p0)] [] (.i r) [] := by
 refine GCall.of_body (n := 26) (rs := [(.tmp 2)]) Try.func58 rfl rfl rfl <| Ato ⟨.l enc_GNode_ p0::tu 25 [], [], 0⟩ ?_
 have hm := h
 unfold m_pred_Check at hm
 refine Sx <| Wm (.i 0) rfl <| Nk 1 0 ⟨.l enc_GNode_ p0::tp 25 [], [], 0⟩ <| Sq <| Sx <| Wm (.l enc_GNode_ p0) rfl <| Wz (.i ((List.length p0 : Nat) : Int)) (Oln rfl) <| Wz (.b (decide ((30 : Int) < ((List.length p0 : Nat) : Int)))) (Obn rfl (fun _ => hb_gtr (k := .i64))) <| Nk 129 0 ⟨.l enc_GNode_ p0::tp 6 (.b (decide ((30 : Int) < ((List.length p0 : Nat) : Int)))::tp 18 []), [], 0⟩ ?_
 rcases tf_ (decide ((30 : Int) < ((List.length p0 : Nat) : Int))) with hc7_4 | hc7_4
 ·
  replace hm := cT hc7_4 hm
  refine AiT hc7_4 <| Sx <| Wm (.i 5) rfl <| Nn <| Rt <| Tr ?_
  obtain rfl := Option.some.inj hm
  exact ret_i []
 ·
  replace hm := cF hc7_4 hm
  refine AiF hc7_4 <| Sk <| Tk 1 0 ⟨.l enc_GNode_ p0::tp 25 [], [], 0⟩ <| Sq <| Sx <| Wm (.l enc_GNode_ p0) rfl <| Wz (.i ((List.length p0 : Nat) : Int)) (Oln rfl) <| Wz (.b (decide (((List.length p0 : Nat) : Int) = 0))) (Obn rfl (fun _ => hb_eql (k := .i64))) <| Nk 1025 0 ⟨.l enc_GNode_ p0::tp 9 (.b (decide (((List.length p0 : Nat) : Int) = 0))::tp 15 []), [], 0⟩ ?_
  rcases tf_ (decide (((List.length p0 : Nat) : Int) = 0)) with hc10_5 | hc10_5
  ·
   replace hm := cT hc10_5 hm
   refine AiT hc10_5 <| Sx <| Wm (.i 0) rfl <| Nn <| Rt <| Tr ?_
   obtain rfl := Option.some.inj hm
   exact ret_i []
  ·
   replace hm := cF hc10_5 hm
   refine AiF hc10_5 <| Sk <| Tk 1 0 ⟨.l enc_GNode_ p0::tp 25 [], [], 0⟩ <| Sx <| Wm (.l enc_GNode_ p0) rfl <| Wz (.agg [(.l enc_GNode_ p0), (.i 0)]) (Obd rfl) <| Wy (.loc 0 0) [(0, (.box [(.l enc_GNode_ p0), (.i 0)]))] (Obx rfl) <| Wm (.loc 0 0) rfl <| Nk 9 1 ⟨.l enc_GNode_ p0::tp 2 (.loc 0 0::tp 22 []), [(.box [(.l enc_GNode_ p0), (.i 0)])], 0⟩ <| Sq <| Sx <| Wm (.loc 0 0) rfl ?_
   obtain ⟨r15_2, hr15_2, hm⟩ := bnd hm
   refine Wy (.i r15_2.1) [(0, (.box [(.l enc_GNode_ r15_2.2.l), (.i r15_2.2.at_)]))] (Ocf [0] [] [] 0 (ok_pred_checker_tree 1152921504606846976 (GTchecker.mk p0 0) 0 0 r15_2 hr15_2) (fun a w => Try.call69 a w) rfl ⟨rfl, trivial⟩) <| Wm (.i r15_2.1) rfl <| Nk 25 1 ⟨.l enc_GNode_ p0::tp 2 (.loc 0 0::.i r15_2.1::tp 21 []), [(.box [(.l enc_GNode_ r15_2.2.l), (.i r15_2.2.at_)])], 0⟩ <| Sx <| Wm (.i r15_2.1) rfl <| Wz (.b (decide (r15_2.1 ≠ 0))) (Obn rfl (fun _ => hb_neq (k := .i64))) <| Nk 131097 1 ⟨.l enc_GNode_ p0::tp 2 (.loc 0 0::.i r15_2.1::tp 12 (.b (decide (r15_2.1 ≠ 0))::tp 8 [])), [(.box [(.l enc_GNode_ r15_2.2.l), (.i r15_2.2.at_)])], 0⟩ ?_
   rcases tf_ (decide (r15_2.1 ≠ 0)) with hc17_6 | hc17_6
   ·
    replace hm := cT hc17_6 hm
    refine AiT hc17_6 <| Sx <| Wm (.i r15_2.1) rfl <| Wm (.i r15_2.1) rfl <| Nn <| Rt <| Tr ?_
    obtain rfl := Option.some.inj hm
    exact ret_i []
   ·
    replace hm := cF hc17_6 hm
    refine AiF hc17_6 <| Sk <| Tk 9 1 ⟨.l enc_GNode_ p0::tp 2 (.loc 0 0::tp 22 []), [(.box [(.l enc_GNode_ r15_2.2.l), (.i r15_2.2.at_)])], 0⟩ <| Sq <| Sx <| Wm (.loc 0 0) rfl <| Wz (.loc 0 0) (op_nilCheckLoc rfl (id := 0) (off := 0) (xs := [(.l enc_GNode_ r15_2.2.l), (.i r15_2.2.at_)]) (by kernel_rfl) (by kernel_rfl)) <| Wz (.loc 0 1) (Ofa rfl) <| Wz (.i r15_2.2.at_) (Old rfl) <| Wm (.l enc_GNode_ p0) rfl <| Wz (.i ((List.length p0 : Nat) : Int)) (Oln rfl) <| Wz (.b (decide (r15_2.2.at_ < ((List.length p0 : Nat) : Int)))) (Obn rfl (fun _ => hb_lss (k := .i64))) <| Nk 33554432 0 ⟨tp 25 (.b (decide (r15_2.2.at_ < ((List.length p0 : Nat) : Int)))::[]), [.gone], 0⟩ ?_
    rcases tf_ (decide (r15_2.2.at_ < ((List.length p0 : Nat) : Int))) with hc25_7 | hc25_7
    ·
     replace hm := cT hc25_7 hm
     refine AiT hc25_7 <| Sx <| Wm (.i 5) rfl <| Nn <| Rt <| Tr ?_
     obtain rfl := Option.some.inj hm
     exact ret_i []
    ·
     replace hm := cF hc25_7 hm
     refine AiF hc25_7 <| Sk <| Tk 0 0 ⟨tp 26 [], [.gone], 0⟩ <| Sx <| Wm (.i 0) rfl <| Nn <| Rt ?_
     obtain rfl := Option.some.inj hm
     exact ret_i []

theorem ok_shape_Node_lacks (p0 : GNode) (r : Bool) (h : m_shape_Node_lacks p0 = some r) : GCall Try.prog 42 [(.agg [(.y p0.Kind), (.i p0.Kids), (.i p0.Lo), (.i p0.Hi), (.s p0.Var), (.s p0.Type_), (.l enc_GNode_ p0.Test)])] [] (.b r) [] := by
 refine GCall.of_body (n := 42) (rs := [(.tmp 2)]) Try.func42 rfl rfl rfl <| Ato ⟨.agg [(.y p0.Kind), (.i p0.Kids), (.i p0.Lo), (.i p0.Hi), (.s p0.Var), (.s p0.Type_), (.l enc_GNode_ p0.Test)]::tu 41 [], [], 0⟩ ?_
 have hm := h
 unfold m_shape_Node_lacks at hm
 refine Sx <| Wy (.loc 0 0) [(0, (.box [(.y p0.Kind), (.i p0.Kids), (.i p0.Lo), (.i p0.Hi), (.s p0.Var), (.s p0.Type_), (.l enc_GNode_ p0.Test)]))] (Obx rfl) <| Wm (.b false) rfl <| Nk 2 1 ⟨tp 1 (.loc 0 0::tp 40 []), [(.box [(.y p0.Kind), (.i p0.Kids), (.i p0.Lo), (.i p0.Hi), (.s p0.Var), (.s p0.Type_), (.l enc_GNode_ p0.Test)])], 0⟩ <| Sq <| Bk <| Sx <| Wz (.agg [(.y p0.Kind), (.i p0.Kids), (.i p0.Lo), (.i p0.Hi), (.s p0.Var), (.s p0.Type_), (.l enc_GNode_ p0.Test)]) (Old rfl) ?_
 obtain ⟨r5_0, hr5_0, hm⟩ := bnd hm
 refine Wz (.b r5_0) (Ocf [] [] [] 0 (ok_shape_Node_list p0 r5_0 hr5_0) (fun a w => Try.call40 a w) rfl trivial) <| Wm (.b r5_0) rfl <| Nk 10 1 ⟨tp 1 (.loc 0 0::tp 1 (.b r5_0::tp 38 [])), [(.box [(.y p0.Kind), (.i p0.Kids), (.i p0.Lo), (.i p0.Hi), (.s p0.Var), (.s p0.Type_), (.l enc_GNode_ p0.Test)])], 0⟩ ?_
 rcases tf_ r5_0 with hc3_4 | hc3_4
 ·
  replace hm := cT hc3_4 hm
  refine AiT hc3_4 <| Sx <| Wz (.loc 0 1) (Ofa rfl) <| Wz (.i p0.Kids) (Old rfl) <| Wz (.b (decide (p0.Kids < 2))) (Obn rfl (fun _ => hb_lss (k := .i64))) ?_
  rcases tf_ (decide (p0.Kids < 2)) with hq9_1 | hq9_1
  ·
   replace hm := cT hq9_1 hm
   refine Wz (.b true) (Oq hq9_1 rfl) <| Wn <| Wn <| Wn <| Wz (.b true) (OpT rfl) <| Wm (.b true) rfl <| Nn <| Rt <| Ir <| Tr ?_
   obtain rfl := Option.some.inj hm
   exact ret_i []
  ·
   replace hm := cF hq9_1 hm
   refine Wz (.b false) (Oq hq9_1 rfl) <| Wz (.loc 0 1) (Ofa rfl) <| Wz (.i p0.Kids) (Old rfl) <| Wz (.b (decide ((40 : Int) < p0.Kids))) (Obn rfl (fun _ => hb_gtr (k := .i64))) <| Wz (.b (decide ((40 : Int) < p0.Kids))) (OpF rfl) <| Wm (.b (decide ((40 : Int) < p0.Kids))) rfl <| Nn <| Rt <| Ir <| Tr ?_
   obtain rfl := Option.some.inj hm
   exact ret_i []
 ·
  replace hm := cF hc3_4 hm
  refine AiF hc3_4 <| Sx <| Wz (.loc 0 0) (Ofa rfl) <| Wz (.y p0.Kind) (Old rfl) <| Wz (.b (decide (((p0.Kind.toNat : Nat) : Int) = 3))) (Ob2 (.int .u8 ((p0.Kind.toNat : Nat) : Int)) (.int .u8 3) rfl (fun _ => hb_eql)) <| Wm (.b (decide (((p0.Kind.toNat : Nat) : Int) = 3))) rfl <| Nk 16386 1 ⟨tp 1 (.loc 0 0::tp 12 (.b (decide (((p0.Kind.toNat : Nat) : Int) = 3))::tp 27 [])), [(.box [(.y p0.Kind), (.i p0.Kids), (.i p0.Lo), (.i p0.Hi), (.s p0.Var), (.s p0.Type_), (.l enc_GNode_ p0.Test)])], 0⟩ ?_
  rcases tf_ (decide (((p0.Kind.toNat : Nat) : Int) = 3)) with hc14_5 | hc14_5
  ·
   replace hm := cT hc14_5 hm
   refine AiT hc14_5 <| Sx <| Wz (.loc 0 1) (Ofa rfl) <| Wz (.i p0.Kids) (Old rfl) <| Wz (.b (decide (p0.Kids ≠ 1))) (Obn rfl (fun _ => hb_neq (k := .i64))) ?_
   rcases tf_ (decide (p0.Kids ≠ 1)) with hq21_2 | hq21_2
   ·
    replace hm := cT hq21_2 hm
    refine Wz (.b true) (Oq hq21_2 rfl) <| Wn <| Wn <| Wn <| Wz (.b true) (OpT rfl) <| Wm (.b true) rfl <| Nn <| Rt <| Ir <| Tr ?_
    obtain rfl := Option.some.inj hm
    exact ret_i []
   ·
    replace hm := cF hq21_2 hm
    refine Wz (.b false) (Oq hq21_2 rfl) <| Wz (.agg [(.y p0.Kind), (.i p0.Kids), (.i p0.Lo), (.i p0.Hi), (.s p0.Var), (.s p0.Type_), (.l enc_GNode_ p0.Test)]) (Old rfl) ?_
    obtain ⟨r23_2, hr23_2, hm⟩ := bnd hm
    refine Wz (.b r23_2) (Ocf [] [] [] 0 (ok_shape_Node_often p0 r23_2 hr23_2) (fun a w => Try.call57 a w) rfl trivial) <| Wz (.b (!r23_2)) (Ocs (by kernel_rfl) (op_un rfl (a1 := .bool r23_2) (by kernel_rfl) (fun _ => hu_not))) <| Wz (.b (!r23_2)) (OpF rfl) <| Wm (.b (!r23_2)) rfl <| Nn <| Rt <| Ir <| Tr ?_
    obtain rfl := Option.some.inj hm
    exact ret_i []
  ·
   replace hm := cF hc14_5 hm
   refine AiF hc14_5 <| Sk <| Ino <| Tk 2 1 ⟨tp 1 (.loc 0 0::tp 40 []), [(.box [(.y p0.Kind), (.i p0.Kids), (.i p0.Lo), (.i p0.Hi), (.s p0.Var), (.s p0.Type_), (.l enc_GNode_ p0.Test)])], 0⟩ <| Sx <| Wz (.loc 0 4) (Ofa rfl) <| Wz (.s p0.Var) (Old rfl) ?_
   obtain ⟨r28_3, hr28_3, hm⟩ := bnd hm
   refine Wz (.b r28_3) (Ocf [] [] [] 0 (ok_schema_Name p0.Var r28_3 hr28_3) (fun a w => Try.call26 a w) rfl trivial) <| Wz (.b (!r28_3)) (Ocs (by kernel_rfl) (op_un rfl (a1 := .bool r28_3) (by kernel_rfl) (fun _ => hu_not))) ?_
   rcases tf_ (!r28_3) with hq30_3 | hq30_3
   ·
    replace hm := cT hq30_3 hm
    refine Wz (.b true) (Oq hq30_3 rfl) <| Wn <| Wn <| Wn <| Wn <| Wz (.b true) (OpT rfl) <| Wm (.b true) rfl <| Wn <| Wn <| Wn <| Wn <| Wz (.b true) (OpT rfl) <| Wm (.b true) rfl <| Nn ?_
    refine Rt ?_
    obtain rfl := Option.some.inj hm
    exact ret_i []
   ·
    replace hm := cF hq30_3 hm
    refine Wz (.b false) (Oq hq30_3 rfl) <| Wz (.loc 0 5) (Ofa rfl) <| Wz (.s p0.Type_) (Old rfl) ?_
    obtain ⟨r33_3, hr33_3, hm⟩ := bnd hm
    refine Wz (.b r33_3) (Ocf [] [] [] 0 (ok_schema_Name p0.Type_ r33_3 hr33_3) (fun a w => Try.call26 a w) rfl trivial) <| Wz (.b (!r33_3)) (Ocs (by kernel_rfl) (op_un rfl (a1 := .bool r33_3) (by kernel_rfl) (fun _ => hu_not))) <| Wz (.b (!r33_3)) (OpF rfl) ?_
    rcases tf_ (!r33_3) with hq36_3 | hq36_3
    ·
     replace hm := cT hq36_3 hm
     refine Wz (.b true) (Oq hq36_3 rfl) <| Wn <| Wn <| Wn <| Wn <| Wz (.b true) (OpT rfl) <| Wm (.b true) rfl <| Nn <| Rt ?_
     obtain rfl := Option.some.inj hm
     exact ret_i []
    ·
     replace hm := cF hq36_3 hm
     refine Wz (.b false) (Oq hq36_3 rfl) <| Wz (.loc 0 6) (Ofa rfl) <| Wz (.l enc_GNode_ p0.Test) (Old rfl) ?_
     obtain ⟨r39_3, hr39_3, hm⟩ := bnd hm
     refine Wz (.i r39_3) (Ocf [] [] [] 0 (ok_pred_Check p0.Test r39_3 hr39_3) (fun a w => Try.call58 a w) rfl trivial) <| Wz (.b (decide (r39_3 ≠ 0))) (Obn rfl (fun _ => hb_neq (k := .i64))) <| Wz (.b (decide (r39_3 ≠ 0))) (OpF rfl) <| Wm (.b (decide (r39_3 ≠ 0))) rfl <| Nn <| Rt ?_
     obtain rfl := Option.some.inj hm
     exact ret_i []

theorem ok_shape_Node_leaf (p0 : GNode) (r : Bool) (h : m_shape_Node_leaf p0 = some r) : GCall Try.prog 30 [(.agg [(.y p0.Kind), (.i p0.Kids), (.i p0.Lo), (.i p0.Hi), (.s p0.Var), (.s p0.Type_), (.l enc_GNode_ p0.Test)])] [] (.b r) [] := by
 refine GCall.of_body (n := 11) (rs := [(.tmp 2)]) Try.func30 rfl rfl rfl <| Ato ⟨.agg [(.y p0.Kind), (.i p0.Kids), (.i p0.Lo), (.i p0.Hi), (.s p0.Var), (.s p0.Type_), (.l enc_GNode_ p0.Test)]::tu 10 [], [], 0⟩ ?_
 have hm := h
 unfold m_shape_Node_leaf at hm
 refine Sx <| Wy (.loc 0 0) [(0, (.box [(.y p0.Kind), (.i p0.Kids), (.i p0.Lo), (.i p0.Hi), (.s p0.Var), (.s p0.Type_), (.l enc_GNode_ p0.Test)]))] (Obx rfl) <| Wm (.b false) rfl <| Nk 2 1 ⟨tp 1 (.loc 0 0::tp 9 []), [(.box [(.y p0.Kind), (.i p0.Kids), (.i p0.Lo), (.i p0.Hi), (.s p0.Var), (.s p0.Type_), (.l enc_GNode_ p0.Test)])], 0⟩ <| Sx <| Wz (.loc 0 0) (Ofa rfl) <| Wz (.y p0.Kind) (Old rfl) <| Wz (.b (decide (((p0.Kind.toNat : Nat) : Int) = 4))) (Ob2 (.int .u8 ((p0.Kind.toNat : Nat) : Int)) (.int .u8 4) rfl (fun _ => hb_eql)) ?_
 rcases tf_ (decide (((p0.Kind.toNat : Nat) : Int) = 4)) with hq6_0 | hq6_0
 ·
  replace hm := cT hq6_0 hm
  refine Wz (.b true) (Oq hq6_0 rfl) <| Wn <| Wn <| Wn <| Wz (.b true) (OpT rfl) <| Wm (.b true) rfl <| Nn <| Rt ?_
  obtain rfl := Option.some.inj hm
  exact ret_i []
 ·
  replace hm := cF hq6_0 hm
  refine Wz (.b false) (Oq hq6_0 rfl) <| Wz (.loc 0 0) (Ofa rfl) <| Wz (.y p0.Kind) (Old rfl) <| Wz (.b (decide (((p0.Kind.toNat : Nat) : Int) = 5))) (Ob2 (.int .u8 ((p0.Kind.toNat : Nat) : Int)) (.int .u8 5) rfl (fun _ => hb_eql)) <| Wz (.b (decide (((p0.Kind.toNat : Nat) : Int) = 5))) (OpF rfl) <| Wm (.b (decide (((p0.Kind.toNat : Nat) : Int) = 5))) rfl <| Nn <| Rt ?_
  obtain rfl := Option.some.inj hm
  exact ret_i []

theorem ok_shape_Node_more (p0 : GNode) (r : Bool) (h : m_shape_Node_more p0 = some r) : GCall Try.prog 43 [(.agg [(.y p0.Kind), (.i p0.Kids), (.i p0.Lo), (.i p0.Hi), (.s p0.Var), (.s p0.Type_), (.l enc_GNode_ p0.Test)])] [] (.b r) [] := by
 refine GCall.of_body (n := 44) (rs := [(.tmp 2)]) Try.func43 rfl rfl rfl <| Ato ⟨.agg [(.y p0.Kind), (.i p0.Kids), (.i p0.Lo), (.i p0.Hi), (.s p0.Var), (.s p0.Type_), (.l enc_GNode_ p0.Test)]::tu 43 [], [], 0⟩ ?_
 have hm := h
 unfold m_shape_Node_more at hm
 refine Sx <| Wy (.loc 0 0) [(0, (.box [(.y p0.Kind), (.i p0.Kids), (.i p0.Lo), (.i p0.Hi), (.s p0.Var), (.s p0.Type_), (.l enc_GNode_ p0.Test)]))] (Obx rfl) <| Wm (.b false) rfl <| Nk 2 1 ⟨tp 1 (.loc 0 0::tp 42 []), [(.box [(.y p0.Kind), (.i p0.Kids), (.i p0.Lo), (.i p0.Hi), (.s p0.Var), (.s p0.Type_), (.l enc_GNode_ p0.Test)])], 0⟩ <| Sx <| Wz (.loc 0 2) (Ofa rfl) <| Wz (.i p0.Lo) (Old rfl) <| Wz (.b (decide (p0.Lo ≠ 0))) (Obn rfl (fun _ => hb_neq (k := .i64))) ?_
 rcases tf_ (decide (p0.Lo ≠ 0)) with hq8_0 | hq8_0
 ·
  replace hm := cT hq8_0 hm
  refine Wz (.b true) (Oq hq8_0 rfl) <| Wn <| Wn <| Wn <| Wz (.b true) (OpT rfl) <| Wm (.b true) rfl <| Nk 10 1 ⟨tp 1 (.loc 0 0::tp 1 (.b true::tp 40 [])), [(.box [(.y p0.Kind), (.i p0.Kids), (.i p0.Lo), (.i p0.Hi), (.s p0.Var), (.s p0.Type_), (.l enc_GNode_ p0.Test)])], 0⟩ ?_
  refine AWP.cutJ (α := Unit) (fun x => match x with | () => (⟨tp 1 (.loc 0 0::tp 1 (.b true::.b true::tp 39 [])), [(.box [(.y p0.Kind), (.i p0.Kids), (.i p0.Lo), (.i p0.Hi), (.s p0.Var), (.s p0.Type_), (.l enc_GNode_ p0.Test)])], 0⟩ : St)) (fun x => match x with | () => m_shape_Node_more_j2 p0 = some r) ?_ (fun J2 => ?_)
  ·
   rintro ⟨⟩ hm
   try dsimp only at hm ⊢
   unfold m_shape_Node_more_j2 at hm
   refine Sq <| Sx <| Wz (.agg [(.y p0.Kind), (.i p0.Kids), (.i p0.Lo), (.i p0.Hi), (.s p0.Var), (.s p0.Type_), (.l enc_GNode_ p0.Test)]) (Old rfl) ?_
   obtain ⟨r28_3, hr28_3, hm⟩ := bnd hm
   refine Wz (.b r28_3) (Ocf [] [] [] 0 (ok_shape_Node_leaf p0 r28_3 hr28_3) (fun a w => Try.call30 a w) rfl trivial) <| Nk 268435482 1 ⟨tp 1 (.loc 0 0::tp 1 (.b true::.b true::tp 23 (.b r28_3::tp 15 []))), [(.box [(.y p0.Kind), (.i p0.Kids), (.i p0.Lo), (.i p0.Hi), (.s p0.Var), (.s p0.Type_), (.l enc_GNode_ p0.Test)])], 0⟩ ?_
   rcases tf_ r28_3 with hc28_13 | hc28_13
   ·
    replace hm := cT hc28_13 hm
    refine AiT hc28_13 <| Sx <| Wm (.b true) rfl <| Wm (.b true) rfl <| Wn <| Wn <| Wn <| Wz (.b true) (OpT rfl) <| Wm (.b true) rfl <| Nn <| Rt <| Tr ?_
    obtain rfl := Option.some.inj hm
    exact ret_i []
   ·
    replace hm := cF hc28_13 hm
    refine AiF hc28_13 <| Sk <| Tk 26 1 ⟨tp 1 (.loc 0 0::tp 1 (.b true::.b true::tp 39 [])), [(.box [(.y p0.Kind), (.i p0.Kids), (.i p0.Lo), (.i p0.Hi), (.s p0.Var), (.s p0.Type_), (.l enc_GNode_ p0.Test)])], 0⟩ <| Sx <| Wm (.b true) rfl <| Wm (.b true) rfl <| Wn <| Wn <| Wn <| Wn <| Wn <| Wn <| Wz (.b true) (OpT rfl) <| Wm (.b true) rfl ?_
    refine Nn <| Rt ?_
    obtain rfl := Option.some.inj hm
    exact ret_i []
  refine Sx <| Wz (.loc 0 4) (Ofa rfl) <| Wz (.s p0.Var) (Old rfl) <| Wz (.b (decide (p0.Var ≠ ([] : List UInt8)))) (Ocs (lit_tf (by simp only [toS_inj, ne_eq])) (op_bin rfl (a1 := .string (toS p0.Var)) (a2 := .string (toS ([] : List UInt8))) (by kernel_rfl) (by kernel_rfl) (fun _ => hb_sneq))) ?_
  rcases tf_ (decide (p0.Var ≠ ([] : List UInt8))) with hq16_1 | hq16_1
  ·
   replace hm := cT hq16_1 hm
   refine Wz (.b true) (Oq hq16_1 rfl) <| Wn <| Wn <| Wn <| Wz (.b true) (OpT rfl) <| Wm (.b true) rfl <| Wn <| Wn <| Wn <| Wn <| Wz (.b true) (OpT rfl) <| Wm (.b true) rfl <| Nn ?_
   exact AWP.weak (Weak.toK 26 0 0 [0]) (J2 () hm)
  ·
   replace hm := cF hq16_1 hm
   refine Wz (.b false) (Oq hq16_1 rfl) <| Wz (.loc 0 5) (Ofa rfl) <| Wz (.s p0.Type_) (Old rfl) <| Wz (.b (decide (p0.Type_ ≠ ([] : List UInt8)))) (Ocs (lit_tf (by simp only [toS_inj, ne_eq])) (op_bin rfl (a1 := .string (toS p0.Type_)) (a2 := .string (toS ([] : List UInt8))) (by kernel_rfl) (by kernel_rfl) (fun _ => hb_sneq))) <| Wz (.b (decide (p0.Type_ ≠ ([] : List UInt8)))) (OpF rfl) ?_
   rcases tf_ (decide (p0.Type_ ≠ ([] : List UInt8))) with hq21_1 | hq21_1
   ·
    replace hm := cT hq21_1 hm
    refine Wz (.b true) (Oq hq21_1 rfl) <| Wn <| Wn <| Wn <| Wn <| Wz (.b true) (OpT rfl) <| Wm (.b true) rfl <| Nn ?_
    exact AWP.weak (Weak.toK 26 0 0 [0]) (J2 () hm)
   ·
    replace hm := cF hq21_1 hm
    refine Wz (.b false) (Oq hq21_1 rfl) <| Wz (.loc 0 6) (Ofa rfl) <| Wz (.l enc_GNode_ p0.Test) (Old rfl) <| Wz (.i ((List.length p0.Test : Nat) : Int)) (Oln rfl) <| Wz (.b (decide ((0 : Int) < ((List.length p0.Test : Nat) : Int)))) (Obn rfl (fun _ => hb_gtr (k := .i64))) <| Wz (.b (decide ((0 : Int) < ((List.length p0.Test : Nat) : Int)))) (OpF rfl) <| Wm (.b (decide ((0 : Int) < ((List.length p0.Test : Nat) : Int)))) rfl <| Nk 26 1 ⟨tp 1 (.loc 0 0::tp 1 (.b true::.b (decide ((0 : Int) < ((List.length p0.Test : Nat) : Int)))::tp 39 [])), [(.box [(.y p0.Kind), (.i p0.Kids), (.i p0.Lo), (.i p0.Hi), (.s p0.Var), (.s p0.Type_), (.l enc_GNode_ p0.Test)])], 0⟩ <| Sq <| Sx <| Wz (.agg [(.y p0.Kind), (.i p0.Kids), (.i p0.Lo), (.i p0.Hi), (.s p0.Var), (.s p0.Type_), (.l enc_GNode_ p0.Test)]) (Old rfl) ?_
    obtain ⟨r28_4, hr28_4, hm⟩ := bnd hm
    refine Wz (.b r28_4) (Ocf [] [] [] 0 (ok_shape_Node_leaf p0 r28_4 hr28_4) (fun a w => Try.call30 a w) rfl trivial) <| Nk 268435482 1 ⟨tp 1 (.loc 0 0::tp 1 (.b true::.b (decide ((0 : Int) < ((List.length p0.Test : Nat) : Int)))::tp 23 (.b r28_4::tp 15 []))), [(.box [(.y p0.Kind), (.i p0.Kids), (.i p0.Lo), (.i p0.Hi), (.s p0.Var), (.s p0.Type_), (.l enc_GNode_ p0.Test)])], 0⟩ ?_
    rcases tf_ r28_4 with hc28_14 | hc28_14
    ·
     replace hm := cT hc28_14 hm
     refine AiT hc28_14 <| Sx <| Wm (.b true) rfl <| Wm (.b true) rfl <| Wn <| Wn <| Wn <| Wz (.b true) (OpT rfl) <| Wm (.b true) rfl <| Nn <| Rt <| Tr ?_
     obtain rfl := Option.some.inj hm
     exact ret_i []
    ·
     replace hm := cF hc28_14 hm
     refine AiF hc28_14 <| Sk <| Tk 26 1 ⟨tp 1 (.loc 0 0::tp 1 (.b true::.b (decide ((0 : Int) < ((List.length p0.Test : Nat) : Int)))::tp 39 [])), [(.box [(.y p0.Kind), (.i p0.Kids), (.i p0.Lo), (.i p0.Hi), (.s p0.Var), (.s p0.Type_), (.l enc_GNode_ p0.Test)])], 0⟩ <| Sx <| Wm (.b (decide ((0 : Int) < ((List.length p0.Test : Nat) : Int)))) rfl ?_
     rcases tf_ (decide ((0 : Int) < ((List.length p0.Test : Nat) : Int))) with hq36_5 | hq36_5
     ·
      replace hm := cT hq36_5 hm
      refine Wz (.b true) (Oq hq36_5 rfl) <| Wn <| Wn <| Wn <| Wn <| Wn <| Wn <| Wz (.b true) (OpT rfl) <| Wm (.b true) rfl <| Nn <| Rt ?_
      obtain rfl := Option.some.inj hm
      exact ret_i []
     ·
      replace hm := cF hq36_5 hm
      refine Wz (.b false) (Oq hq36_5 rfl) <| Wm (.b true) rfl <| Wm (.b true) rfl <| Wz (.loc 0 0) (Ofa rfl) <| Wz (.y p0.Kind) (Old rfl) <| Wz (.b (decide (((p0.Kind.toNat : Nat) : Int) ≠ 3))) (Ob2 (.int .u8 ((p0.Kind.toNat : Nat) : Int)) (.int .u8 3) rfl (fun _ => hb_neq)) <| Wz (.b (decide (((p0.Kind.toNat : Nat) : Int) ≠ 3))) (OpT rfl) <| Wz (.b (decide (((p0.Kind.toNat : Nat) : Int) ≠ 3))) (OpF rfl) <| Wm (.b (decide (((p0.Kind.toNat : Nat) : Int) ≠ 3))) rfl <| Nn <| Rt ?_
      obtain rfl := Option.some.inj hm
      exact ret_i []
 ·
  replace hm := cF hq8_0 hm
  refine Wz (.b false) (Oq hq8_0 rfl) <| Wz (.loc 0 3) (Ofa rfl) <| Wz (.i p0.Hi) (Old rfl) <| Wz (.b (decide (p0.Hi ≠ 0))) (Obn rfl (fun _ => hb_neq (k := .i64))) <| Wz (.b (decide (p0.Hi ≠ 0))) (OpF rfl) <| Wm (.b (decide (p0.Hi ≠ 0))) rfl <| Nk 10 1 ⟨tp 1 (.loc 0 0::tp 1 (.b (decide (p0.Hi ≠ 0))::tp 40 [])), [(.box [(.y p0.Kind), (.i p0.Kids), (.i p0.Lo), (.i p0.Hi), (.s p0.Var), (.s p0.Type_), (.l enc_GNode_ p0.Test)])], 0⟩ ?_
  refine AWP.cutJ (α := Unit) (fun x => match x with | () => (⟨tp 1 (.loc 0 0::tp 1 (.b (decide (p0.Hi ≠ 0))::.b true::tp 39 [])), [(.box [(.y p0.Kind), (.i p0.Kids), (.i p0.Lo), (.i p0.Hi), (.s p0.Var), (.s p0.Type_), (.l enc_GNode_ p0.Test)])], 0⟩ : St)) (fun x => match x with | () => m_shape_Node_more_j7 p0 = some r) ?_ (fun J7 => ?_)
  ·
   rintro ⟨⟩ hm
   try dsimp only at hm ⊢
   unfold m_shape_Node_more_j7 at hm
   refine Sq <| Sx <| Wz (.agg [(.y p0.Kind), (.i p0.Kids), (.i p0.Lo), (.i p0.Hi), (.s p0.Var), (.s p0.Type_), (.l enc_GNode_ p0.Test)]) (Old rfl) ?_
   obtain ⟨r28_8, hr28_8, hm⟩ := bnd hm
   refine Wz (.b r28_8) (Ocf [] [] [] 0 (ok_shape_Node_leaf p0 r28_8 hr28_8) (fun a w => Try.call30 a w) rfl trivial) <| Nk 268435482 1 ⟨tp 1 (.loc 0 0::tp 1 (.b (decide (p0.Hi ≠ 0))::.b true::tp 23 (.b r28_8::tp 15 []))), [(.box [(.y p0.Kind), (.i p0.Kids), (.i p0.Lo), (.i p0.Hi), (.s p0.Var), (.s p0.Type_), (.l enc_GNode_ p0.Test)])], 0⟩ ?_
   rcases tf_ r28_8 with hc28_15 | hc28_15
   ·
    replace hm := cT hc28_15 hm
    refine AiT hc28_15 <| Sx <| Wm (.b (decide (p0.Hi ≠ 0))) rfl ?_
    rcases tf_ (decide (p0.Hi ≠ 0)) with hq30_9 | hq30_9
    ·
     replace hm := cT hq30_9 hm
     refine Wz (.b true) (Oq hq30_9 rfl) <| Wn <| Wn <| Wn <| Wz (.b true) (OpT rfl) <| Wm (.b true) rfl <| Nn <| Rt <| Tr ?_
     obtain rfl := Option.some.inj hm
     exact ret_i []
    ·
     replace hm := cF hq30_9 hm
     refine Wz (.b false) (Oq hq30_9 rfl) <| Wz (.loc 0 1) (Ofa rfl) <| Wz (.i p0.Kids) (Old rfl) <| Wz (.b (decide (p0.Kids ≠ 0))) (Obn rfl (fun _ => hb_neq (k := .i64))) <| Wz (.b (decide (p0.Kids ≠ 0))) (OpF rfl) <| Wm (.b (decide (p0.Kids ≠ 0))) rfl <| Nn <| Rt <| Tr ?_
     obtain rfl := Option.some.inj hm
     exact ret_i []
   ·
    replace hm := cF hc28_15 hm
    refine AiF hc28_15 <| Sk <| Tk 26 1 ⟨tp 1 (.loc 0 0::tp 1 (.b (decide (p0.Hi ≠ 0))::.b true::tp 39 [])), [(.box [(.y p0.Kind), (.i p0.Kids), (.i p0.Lo), (.i p0.Hi), (.s p0.Var), (.s p0.Type_), (.l enc_GNode_ p0.Test)])], 0⟩ <| Sx <| Wm (.b true) rfl <| Wm (.b true) rfl <| Wn <| Wn <| Wn <| Wn <| Wn <| Wn <| Wz (.b true) (OpT rfl) <| Wm (.b true) rfl ?_
    refine Nn <| Rt ?_
    obtain rfl := Option.some.inj hm
    exact ret_i []
  refine Sx <| Wz (.loc 0 4) (Ofa rfl) <| Wz (.s p0.Var) (Old rfl) <| Wz (.b (decide (p0.Var ≠ ([] : List UInt8)))) (Ocs (lit_tf (by simp only [toS_inj, ne_eq])) (op_bin rfl (a1 := .string (toS p0.Var)) (a2 := .string (toS ([] : List UInt8))) (by kernel_rfl) (by kernel_rfl) (fun _ => hb_sneq))) ?_
  rcases tf_ (decide (p0.Var ≠ ([] : List UInt8))) with hq16_6 | hq16_6
  ·
   replace hm := cT hq16_6 hm
   refine Wz (.b true) (Oq hq16_6 rfl) <| Wn <| Wn <| Wn <| Wz (.b true) (OpT rfl) <| Wm (.b true) rfl <| Wn <| Wn <| Wn <| Wn <| Wz (.b true) (OpT rfl) <| Wm (.b true) rfl <| Nn ?_
   exact AWP.weak (Weak.toK 26 0 0 [0]) (J7 () hm)
  ·
   replace hm := cF hq16_6 hm
   refine Wz (.b false) (Oq hq16_6 rfl) <| Wz (.loc 0 5) (Ofa rfl) <| Wz (.s p0.Type_) (Old rfl) <| Wz (.b (decide (p0.Type_ ≠ ([] : List UInt8)))) (Ocs (lit_tf (by simp only [toS_inj, ne_eq])) (op_bin rfl (a1 := .string (toS p0.Type_)) (a2 := .string (toS ([] : List UInt8))) (by kernel_rfl) (by kernel_rfl) (fun _ => hb_sneq))) <| Wz (.b (decide (p0.Type_ ≠ ([] : List UInt8)))) (OpF rfl) ?_
   rcases tf_ (decide (p0.Type_ ≠ ([] : List UInt8))) with hq21_6 | hq21_6
   ·
    replace hm := cT hq21_6 hm
    refine Wz (.b true) (Oq hq21_6 rfl) <| Wn <| Wn <| Wn <| Wn <| Wz (.b true) (OpT rfl) <| Wm (.b true) rfl <| Nn ?_
    exact AWP.weak (Weak.toK 26 0 0 [0]) (J7 () hm)
   ·
    replace hm := cF hq21_6 hm
    refine Wz (.b false) (Oq hq21_6 rfl) <| Wz (.loc 0 6) (Ofa rfl) <| Wz (.l enc_GNode_ p0.Test) (Old rfl) <| Wz (.i ((List.length p0.Test : Nat) : Int)) (Oln rfl) <| Wz (.b (decide ((0 : Int) < ((List.length p0.Test : Nat) : Int)))) (Obn rfl (fun _ => hb_gtr (k := .i64))) <| Wz (.b (decide ((0 : Int) < ((List.length p0.Test : Nat) : Int)))) (OpF rfl) <| Wm (.b (decide ((0 : Int) < ((List.length p0.Test : Nat) : Int)))) rfl <| Nk 26 1 ⟨tp 1 (.loc 0 0::tp 1 (.b (decide (p0.Hi ≠ 0))::.b (decide ((0 : Int) < ((List.length p0.Test : Nat) : Int)))::tp 39 [])), [(.box [(.y p0.Kind), (.i p0.Kids), (.i p0.Lo), (.i p0.Hi), (.s p0.Var), (.s p0.Type_), (.l enc_GNode_ p0.Test)])], 0⟩ <| Sq <| Sx <| Wz (.agg [(.y p0.Kind), (.i p0.Kids), (.i p0.Lo), (.i p0.Hi), (.s p0.Var), (.s p0.Type_), (.l enc_GNode_ p0.Test)]) (Old rfl) ?_
    obtain ⟨r28_10, hr28_10, hm⟩ := bnd hm
    refine Wz (.b r28_10) (Ocf [] [] [] 0 (ok_shape_Node_leaf p0 r28_10 hr28_10) (fun a w => Try.call30 a w) rfl trivial) <| Nk 268435482 1 ⟨tp 1 (.loc 0 0::tp 1 (.b (decide (p0.Hi ≠ 0))::.b (decide ((0 : Int) < ((List.length p0.Test : Nat) : Int)))::tp 23 (.b r28_10::tp 15 []))), [(.box [(.y p0.Kind), (.i p0.Kids), (.i p0.Lo), (.i p0.Hi), (.s p0.Var), (.s p0.Type_), (.l enc_GNode_ p0.Test)])], 0⟩ ?_
    rcases tf_ r28_10 with hc28_16 | hc28_16
    ·
     replace hm := cT hc28_16 hm
     refine AiT hc28_16 <| Sx <| Wm (.b (decide (p0.Hi ≠ 0))) rfl ?_
     rcases tf_ (decide (p0.Hi ≠ 0)) with hq30_11 | hq30_11
     ·
      replace hm := cT hq30_11 hm
      refine Wz (.b true) (Oq hq30_11 rfl) <| Wn <| Wn <| Wn <| Wz (.b true) (OpT rfl) <| Wm (.b true) rfl <| Nn <| Rt <| Tr ?_
      obtain rfl := Option.some.inj hm
      exact ret_i []
     ·
      replace hm := cF hq30_11 hm
      refine Wz (.b false) (Oq hq30_11 rfl) <| Wz (.loc 0 1) (Ofa rfl) <| Wz (.i p0.Kids) (Old rfl) <| Wz (.b (decide (p0.Kids ≠ 0))) (Obn rfl (fun _ => hb_neq (k := .i64))) <| Wz (.b (decide (p0.Kids ≠ 0))) (OpF rfl) <| Wm (.b (decide (p0.Kids ≠ 0))) rfl <| Nn <| Rt <| Tr ?_
      obtain rfl := Option.some.inj hm
      exact ret_i []
    ·
     replace hm := cF hc28_16 hm
     refine AiF hc28_16 <| Sk <| Tk 26 1 ⟨tp 1 (.loc 0 0::tp 1 (.b (decide (p0.Hi ≠ 0))::.b (decide ((0 : Int) < ((List.length p0.Test : Nat) : Int)))::tp 39 [])), [(.box [(.y p0.Kind), (.i p0.Kids), (.i p0.Lo), (.i p0.Hi), (.s p0.Var), (.s p0.Type_), (.l enc_GNode_ p0.Test)])], 0⟩ <| Sx <| Wm (.b (decide ((0 : Int) < ((List.length p0.Test : Nat) : Int)))) rfl ?_
     rcases tf_ (decide ((0 : Int) < ((List.length p0.Test : Nat) : Int))) with hq36_12 | hq36_12
     ·
      replace hm := cT hq36_12 hm
      refine Wz (.b true) (Oq hq36_12 rfl) <| Wn <| Wn <| Wn <| Wn <| Wn <| Wn <| Wz (.b true) (OpT rfl) <| Wm (.b true) rfl <| Nn <| Rt ?_
      obtain rfl := Option.some.inj hm
      exact ret_i []
     ·
      replace hm := cF hq36_12 hm
      refine Wz (.b false) (Oq hq36_12 rfl) <| Wm (.b (decide (p0.Hi ≠ 0))) rfl ?_
      rcases tf_ (decide (p0.Hi ≠ 0)) with hq38_12 | hq38_12
      ·
       replace hm := cT hq38_12 hm
       refine Wz (.b true) (Oq hq38_12 rfl) <| Wz (.loc 0 0) (Ofa rfl) <| Wz (.y p0.Kind) (Old rfl) <| Wz (.b (decide (((p0.Kind.toNat : Nat) : Int) ≠ 3))) (Ob2 (.int .u8 ((p0.Kind.toNat : Nat) : Int)) (.int .u8 3) rfl (fun _ => hb_neq)) <| Wz (.b (decide (((p0.Kind.toNat : Nat) : Int) ≠ 3))) (OpT rfl) <| Wz (.b (decide (((p0.Kind.toNat : Nat) : Int) ≠ 3))) (OpF rfl) <| Wm (.b (decide (((p0.Kind.toNat : Nat) : Int) ≠ 3))) rfl <| Nn <| Rt ?_
       obtain rfl := Option.some.inj hm
       exact ret_i []
      ·
       replace hm := cF hq38_12 hm
       refine Wz (.b false) (Oq hq38_12 rfl) <| Wn <| Wn <| Wn <| Wz (.b false) (OpF rfl) <| Wz (.b false) (OpF rfl) <| Wm (.b false) rfl <| Nn <| Rt ?_
       obtain rfl := Option.some.inj hm
       exact ret_i []

theorem ok_shape_Node_kids (p0 : GNode) (r : Int) (h : m_shape_Node_kids p0 = some r) : GCall Try.prog 23 [(.agg [(.y p0.Kind), (.i p0.Kids), (.i p0.Lo), (.i p0.Hi), (.s p0.Var), (.s p0.Type_), (.l enc_GNode_ p0.Test)])] [] (.i r) [] := by
 refine GCall.of_body (n := 14) (rs := [(.tmp 2)]) Try.func23 rfl rfl rfl <| Ato ⟨.agg [(.y p0.Kind), (.i p0.Kids), (.i p0.Lo), (.i p0.Hi), (.s p0.Var), (.s p0.Type_), (.l enc_GNode_ p0.Test)]::tu 13 [], [], 0⟩ ?_
 have hm := h
 unfold m_shape_Node_kids at hm
 refine Sx <| Wy (.loc 0 0) [(0, (.box [(.y p0.Kind), (.i p0.Kids), (.i p0.Lo), (.i p0.Hi), (.s p0.Var), (.s p0.Type_), (.l enc_GNode_ p0.Test)]))] (Obx rfl) <| Wm (.i 0) rfl <| Nk 2 1 ⟨tp 1 (.loc 0 0::tp 12 []), [(.box [(.y p0.Kind), (.i p0.Kids), (.i p0.Lo), (.i p0.Hi), (.s p0.Var), (.s p0.Type_), (.l enc_GNode_ p0.Test)])], 0⟩ <| Sq <| Bk <| Sx <| Wz (.agg [(.y p0.Kind), (.i p0.Kids), (.i p0.Lo), (.i p0.Hi), (.s p0.Var), (.s p0.Type_), (.l enc_GNode_ p0.Test)]) (Old rfl) ?_
 obtain ⟨r5_0, hr5_0, hm⟩ := bnd hm
 refine Wz (.b r5_0) (Ocf [] [] [] 0 (ok_shape_Node_list p0 r5_0 hr5_0) (fun a w => Try.call40 a w) rfl trivial) <| Wm (.b r5_0) rfl <| Nk 10 1 ⟨tp 1 (.loc 0 0::tp 1 (.b r5_0::tp 10 [])), [(.box [(.y p0.Kind), (.i p0.Kids), (.i p0.Lo), (.i p0.Hi), (.s p0.Var), (.s p0.Type_), (.l enc_GNode_ p0.Test)])], 0⟩ ?_
 rcases tf_ r5_0 with hc3_2 | hc3_2
 ·
  replace hm := cT hc3_2 hm
  refine AiT hc3_2 <| Sx <| Wz (.loc 0 1) (Ofa rfl) <| Wz (.i p0.Kids) (Old rfl) <| Wz (.i (min p0.Kids 40)) (op_bi2 rfl (a1 := .int .i64 p0.Kids) (a2 := .int .i64 40) (by kernel_rfl) (by kernel_rfl) hb_min) <| Wz (.i (max 0 (min p0.Kids 40))) (op_bi2 rfl (a1 := .int .i64 0) (a2 := .int .i64 (min p0.Kids 40)) (by kernel_rfl) (by kernel_rfl) hb_max) <| Wm (.i (max 0 (min p0.Kids 40))) rfl <| Nn <| Rt <| Ir <| Tr ?_
  obtain rfl := Option.some.inj hm
  exact ret_i []
 ·
  replace hm := cF hc3_2 hm
  refine AiF hc3_2 <| Sx <| Wz (.loc 0 0) (Ofa rfl) <| Wz (.y p0.Kind) (Old rfl) <| Wz (.b (decide (((p0.Kind.toNat : Nat) : Int) = 3))) (Ob2 (.int .u8 ((p0.Kind.toNat : Nat) : Int)) (.int .u8 3) rfl (fun _ => hb_eql)) <| Wm (.b (decide (((p0.Kind.toNat : Nat) : Int) = 3))) rfl <| Nk 1024 0 ⟨tp 10 (.b (decide (((p0.Kind.toNat : Nat) : Int) = 3))::tp 3 []), [.gone], 0⟩ ?_
  rcases tf_ (decide (((p0.Kind.toNat : Nat) : Int) = 3)) with hc10_3 | hc10_3
  ·
   replace hm := cT hc10_3 hm
   refine AiT hc10_3 <| Sx <| Wm (.i 1) rfl <| Nn <| Rt <| Ir <| Tr ?_
   obtain rfl := Option.some.inj hm
   exact ret_i []
  ·
   replace hm := cF hc10_3 hm
   refine AiF hc10_3 <| Sk <| Ino <| Tk 0 0 ⟨tp 14 [], [.gone], 0⟩ <| Sx <| Wm (.i 0) rfl <| Nn <| Rt ?_
   obtain rfl := Option.some.inj hm
   exact ret_i []

theorem ok_shape_tree : ∀ (fuR : Nat) (p0 : (List GNode)) (p1 : UInt8) (p2 : Int) (r : ((List GNode) × Int)) (h : m_shape_tree fuR p0 p1 p2 = some r), GCall Try.prog 25 [(.l enc_GNode p0), (.y p1), (.i p2)] [] (.tup [(.l enc_GNode r.1), (.i r.2)]) [] := by
 intro fuR; induction fuR with
 | zero => intro p0 p1 p2 r h; exact absurd h (by unfold m_shape_tree; simp)
 | succ fuR ih =>
 intro p0 p1 p2 r h
 refine GCall.of_body (n := 60) (rs := [(.tmp 6), (.tmp 7)]) Try.func25 rfl rfl rfl <| Ato ⟨.l enc_GNode p0::.y p1::.i p2::tu 57 [], [], 0⟩ ?_
 have hm := h
 unfold m_shape_tree at hm
 refine Sx <| Wm (.d .nil) rfl <| Wm (.i 0) rfl <| Nk 7 0 ⟨.l enc_GNode p0::.y p1::.i p2::tp 57 [], [], 0⟩ <| Sq <| Bk <| Sx <| Wm (.l enc_GNode p0) rfl <| Wz (.i ((List.length p0 : Nat) : Int)) (Oln rfl) <| Wz (.b (decide (((List.length p0 : Nat) : Int) = 0))) (Obn rfl (fun _ => hb_eql (k := .i64))) <| Wm (.b (decide (((List.length p0 : Nat) : Int) = 0))) rfl <| Nk 4103 0 ⟨.l enc_GNode p0::.y p1::.i p2::tp 9 (.b (decide (((List.length p0 : Nat) : Int) = 0))::tp 47 []), [], 0⟩ ?_
 rcases tf_ (decide (((List.length p0 : Nat) : Int) = 0)) with hc12_8 | hc12_8
 ·
  replace hm := cT hc12_8 hm
  refine AiT hc12_8 <| Sx <| Wm (.d .nil) rfl <| Wm (.i 3) rfl <| Nn <| Rt <| Ir <| Tr ?_
  obtain rfl := Option.some.inj hm
  exact ret_i []
 ·
  replace hm := cF hc12_8 hm
  refine AiF hc12_8 <| Sx <| Wm (.i p2) rfl <| Wz (.b (decide ((16 : Int) ≤ p2))) (Obn rfl (fun _ => hb_geq (k := .i64))) <| Wm (.b (decide ((16 : Int) ≤ p2))) rfl <| Nk 65543 0 ⟨.l enc_GNode p0::.y p1::.i p2::tp 13 (.b (decide ((16 : Int) ≤ p2))::tp 43 []), [], 0⟩ ?_
  rcases tf_ (decide ((16 : Int) ≤ p2)) with hc16_9 | hc16_9
  ·
   replace hm := cT hc16_9 hm
   refine AiT hc16_9 <| Sx <| Wm (.d .nil) rfl <| Wm (.i 15) rfl <| Nn <| Rt <| Ir <| Tr ?_
   obtain rfl := Option.some.inj hm
   exact ret_i []
  ·
   replace hm := cF hc16_9 hm
   refine AiF hc16_9 <| Sx <| Wm (.l enc_GNode p0) rfl ?_
   obtain ⟨x21_1, hx21_1, hm⟩ := bnd hm
   obtain ⟨hx21_1i, hx21_1g⟩ := geti_some hx21_1
   refine Wz (.d (.ref (List.drop ((Int.toNat 0) * 7) (flatD enc_GNode p0)))) (Oia rfl enc_GNode_len hx21_1i hx21_1g) <| Wz (.agg [(.y x21_1.Kind), (.i x21_1.Kids), (.i x21_1.Lo), (.i x21_1.Hi), (.s x21_1.Var), (.s x21_1.Type_), (.l enc_GNode_ x21_1.Test)]) (Lf rfl enc_GNode_len hx21_1g) <| Wm (.y p1) rfl ?_
   obtain ⟨r24_1, hr24_1, hm⟩ := bnd hm
   refine Wz (.b r24_1) (Ocf [] [] [] 0 (ok_shape_Node_stands x21_1 p1 r24_1 hr24_1) (fun a w => Try.call41 a w) rfl trivial) <| Wz (.b (!r24_1)) (Ocs (by kernel_rfl) (op_un rfl (a1 := .bool r24_1) (by kernel_rfl) (fun _ => hu_not))) <| Wm (.b (!r24_1)) rfl <| Nk 524293 0 ⟨.l enc_GNode p0::tp 1 (.i p2::tp 16 (.b (!r24_1)::tp 40 [])), [], 0⟩ ?_
   rcases tf_ (!r24_1) with hc19_10 | hc19_10
   ·
    replace hm := cT hc19_10 hm
    refine AiT hc19_10 <| Sx <| Wm (.d .nil) rfl <| Wm (.i 11) rfl <| Nn <| Rt <| Ir <| Tr ?_
    obtain rfl := Option.some.inj hm
    exact ret_i []
   ·
    replace hm := cF hc19_10 hm
    refine AiF hc19_10 <| Sx <| Wm (.l enc_GNode p0) rfl ?_
    obtain ⟨x28_2, hx28_2, hm⟩ := bnd hm
    obtain ⟨hx28_2i, hx28_2g⟩ := geti_some hx28_2
    refine Wz (.d (.ref (List.drop ((Int.toNat 0) * 7) (flatD enc_GNode p0)))) (Oia rfl enc_GNode_len hx28_2i hx28_2g) <| Wz (.agg [(.y x28_2.Kind), (.i x28_2.Kids), (.i x28_2.Lo), (.i x28_2.Hi), (.s x28_2.Var), (.s x28_2.Type_), (.l enc_GNode_ x28_2.Test)]) (Lf rfl enc_GNode_len hx28_2g) ?_
    obtain ⟨r30_2, hr30_2, hm⟩ := bnd hm
    refine Wz (.b r30_2) (Ocf [] [] [] 0 (ok_shape_Node_lacks x28_2 r30_2 hr30_2) (fun a w => Try.call42 a w) rfl trivial) <| Wm (.b r30_2) rfl <| Nk 67108869 0 ⟨.l enc_GNode p0::tp 1 (.i p2::tp 23 (.b r30_2::tp 33 [])), [], 0⟩ ?_
    rcases tf_ r30_2 with hc26_11 | hc26_11
    ·
     replace hm := cT hc26_11 hm
     refine AiT hc26_11 <| Sx <| Wm (.d .nil) rfl <| Wm (.i 4) rfl <| Nn <| Rt <| Ir <| Tr ?_
     obtain rfl := Option.some.inj hm
     exact ret_i []
    ·
     replace hm := cF hc26_11 hm
     refine AiF hc26_11 <| Sx <| Wm (.l enc_GNode p0) rfl ?_
     obtain ⟨x33_3, hx33_3, hm⟩ := bnd hm
     obtain ⟨hx33_3i, hx33_3g⟩ := geti_some hx33_3
     refine Wz (.d (.ref (List.drop ((Int.toNat 0) * 7) (flatD enc_GNode p0)))) (Oia rfl enc_GNode_len hx33_3i hx33_3g) <| Wz (.agg [(.y x33_3.Kind), (.i x33_3.Kids), (.i x33_3.Lo), (.i x33_3.Hi), (.s x33_3.Var), (.s x33_3.Type_), (.l enc_GNode_ x33_3.Test)]) (Lf rfl enc_GNode_len hx33_3g) ?_
     obtain ⟨r35_3, hr35_3, hm⟩ := bnd hm
     refine Wz (.b r35_3) (Ocf [] [] [] 0 (ok_shape_Node_more x33_3 r35_3 hr35_3) (fun a w => Try.call43 a w) rfl trivial) <| Wm (.b r35_3) rfl <| Nk 2147483653 0 ⟨.l enc_GNode p0::tp 1 (.i p2::tp 28 (.b r35_3::tp 28 [])), [], 0⟩ ?_
     rcases tf_ r35_3 with hc31_12 | hc31_12
     ·
      replace hm := cT hc31_12 hm
      refine AiT hc31_12 <| Sx <| Wm (.d .nil) rfl <| Wm (.i 2) rfl <| Nn <| Rt <| Ir <| Tr ?_
      obtain rfl := Option.some.inj hm
      exact ret_i []
     ·
      replace hm := cF hc31_12 hm
      refine AiF hc31_12 <| Sk <| Ino <| Tk 5 0 ⟨.l enc_GNode p0::tp 1 (.i p2::tp 57 []), [], 0⟩ <| Sq <| Adr <| Wm (.l enc_GNode p0) rfl ?_
      obtain ⟨x37_4, hx37_4, hm⟩ := bnd hm
      obtain ⟨hx37_4i, hx37_4g⟩ := geti_some hx37_4
      refine Wz (.d (.ref (List.drop ((Int.toNat 0) * 7) (flatD enc_GNode p0)))) (Oia rfl enc_GNode_len hx37_4i hx37_4g) <| Wz (.agg [(.y x37_4.Kind), (.i x37_4.Kids), (.i x37_4.Lo), (.i x37_4.Hi), (.s x37_4.Var), (.s x37_4.Type_), (.l enc_GNode_ x37_4.Test)]) (Lf rfl enc_GNode_len hx37_4g) <| Wm (.l enc_GNode p0) rfl ?_
      obtain ⟨s40_4, hs40_4, hm⟩ := bnd hm; obtain ⟨hs40_4a, hs40_4b, hs40_4c, hs40_4d, hs40_4e⟩ := cut_some hs40_4
      refine Wz (.l enc_GNode s40_4) (op_cut rfl (e := 44) (sz := 7) (by kernel_rfl) (l := p0) (enc := enc_GNode) (by kernel_rfl) enc_GNode_len (a := (Int.toNat 1)) (b := (Int.toNat ((List.length p0 : Nat) : Int))) (⟨.i64, 1, by kernel_rfl, hs40_4a⟩) (by exact rfl) hs40_4c hs40_4d hs40_4e) <| Wy (.loc 0 0) [(0, (.box [(.y 0), (.i 0), (.i 0), (.i 0), (.s ([] : List UInt8)), (.s ([] : List UInt8)), (.d .nil)]))] (Oal rfl) <| Wy (.tup []) [(0, (.box [(.y x37_4.Kind), (.i x37_4.Kids), (.i x37_4.Lo), (.i x37_4.Hi), (.s x37_4.Var), (.s x37_4.Type_), (.l enc_GNode_ x37_4.Test)]))] (Ost rfl) <| Wm (.l enc_GNode s40_4) rfl <| Wdr <| Tk 772 1 ⟨tp 2 (.i p2::tp 5 (.loc 0 0::.l enc_GNode s40_4::tp 50 [])), [(.box [(.y x37_4.Kind), (.i x37_4.Kids), (.i x37_4.Lo), (.i x37_4.Hi), (.s x37_4.Var), (.s x37_4.Type_), (.l enc_GNode_ x37_4.Test)])], 0⟩ <| Sq <| Sx <| Wz (.agg [(.y x37_4.Kind), (.i x37_4.Kids), (.i x37_4.Lo), (.i x37_4.Hi), (.s x37_4.Var), (.s x37_4.Type_), (.l enc_GNode_ x37_4.Test)]) (Old rfl) ?_
      obtain ⟨r42_5, hr42_5, hm⟩ := bnd hm
      refine Wz (.i r42_5) (Ocf [] [] [] 0 (ok_shape_Node_kids x37_4 r42_5 hr42_5) (fun a w => Try.call23 a w) rfl trivial) <| Wm (.i 0) rfl <| Nk 13194139534084 1 ⟨tp 2 (.i p2::tp 5 (.loc 0 0::.l enc_GNode s40_4::tp 32 (.i r42_5::.i 0::tp 16 []))), [(.box [(.y x37_4.Kind), (.i x37_4.Kids), (.i x37_4.Lo), (.i x37_4.Hi), (.s x37_4.Var), (.s x37_4.Type_), (.l enc_GNode_ x37_4.Test)])], 0⟩ <| Bk ?_
      refine AWP.loopI (α := Nat × (List GNode) × Int)
        (fun (fu_6, y9_6, y43_6) => (⟨tp 2 (.i p2::tp 5 (.loc 0 0::.l enc_GNode y9_6::tp 32 (.i r42_5::.i y43_6::tp 16 []))), [(.box [(.y x37_4.Kind), (.i x37_4.Kids), (.i x37_4.Lo), (.i x37_4.Hi), (.s x37_4.Var), (.s x37_4.Type_), (.l enc_GNode_ x37_4.Test)])], 0⟩ : St))
        (fun (fu_6, y9_6, y43_6) => m_shape_tree_l6 p2 r42_5 x37_4 (fun p0 p1 p2 => m_shape_tree fuR p0 p1 p2) fu_6 y9_6 y43_6 = some r)
        (fun (fu_6, y9_6, y43_6) => fu_6) (1152921504606846976, s40_4, 0)
        (Weak.toK 13194139534084 0 0 [0]) hm ?_
      rintro ⟨fu_6, y9_6, y43_6⟩ n_6 hm ih_6
      try dsimp only at hm ih_6 ⊢
      cases fu_6 with
      | zero => exact absurd hm (by unfold m_shape_tree_l6; simp)
      | succ fu_6 =>
       unfold m_shape_tree_l6 at hm
       refine Sx <| Wz (.b (decide (y43_6 < r42_5))) (Obn rfl (fun _ => hb_lss (k := .i64))) <| Nk 30786325578500 1 ⟨tp 2 (.i p2::tp 5 (.loc 0 0::.l enc_GNode y9_6::tp 32 (.i r42_5::.i y43_6::.b (decide (y43_6 < r42_5))::tp 15 []))), [(.box [(.y x37_4.Kind), (.i x37_4.Kids), (.i x37_4.Lo), (.i x37_4.Hi), (.s x37_4.Var), (.s x37_4.Type_), (.l enc_GNode_ x37_4.Test)])], 0⟩ <| Sq ?_
       rcases tf_ (decide (y43_6 < r42_5)) with hc44_13 | hc44_13
       ·
        replace hm := cT hc44_13 hm
        refine AiT hc44_13 <| Sk <| Tk 13194139534084 1 ⟨tp 2 (.i p2::tp 5 (.loc 0 0::.l enc_GNode y9_6::tp 32 (.i r42_5::.i y43_6::tp 16 []))), [(.box [(.y x37_4.Kind), (.i x37_4.Kids), (.i x37_4.Lo), (.i x37_4.Hi), (.s x37_4.Var), (.s x37_4.Type_), (.l enc_GNode_ x37_4.Test)])], 0⟩ <| Sq <| Bk <| Sx <| Wm (.l enc_GNode y9_6) rfl <| Wz (.loc 0 0) (Ofa rfl) <| Wz (.y x37_4.Kind) (Old rfl) <| Wm (.i p2) rfl <| Wz (.i (W6 (p2 + 1))) (Obn rfl (fun _ => hb_add (k := .i64))) ?_
        obtain ⟨r51_7, hr51_7, hm⟩ := bnd hm
        refine Wz (.tup [(.l enc_GNode r51_7.1), (.i r51_7.2)]) (Ocf [] [] [] 0 (ih y9_6 x37_4.Kind (W6 (p2 + 1)) r51_7 hr51_7) (fun a w => Try.call25 a w) rfl trivial) <| Wm (.tup [(.l enc_GNode r51_7.1), (.i r51_7.2)]) rfl <| Wz (.l enc_GNode r51_7.1) (Oex rfl) <| Wz (.i r51_7.2) (Oex rfl) <| Wm (.l enc_GNode r51_7.1) rfl <| Wm (.i r51_7.2) rfl <| Nk 13194139536644 1 ⟨tp 2 (.i p2::tp 5 (.loc 0 0::tp 1 (.l enc_GNode r51_7.1::.i r51_7.2::tp 30 (.i r42_5::.i y43_6::tp 16 [])))), [(.box [(.y x37_4.Kind), (.i x37_4.Kids), (.i x37_4.Lo), (.i x37_4.Hi), (.s x37_4.Var), (.s x37_4.Type_), (.l enc_GNode_ x37_4.Test)])], 0⟩ <| Sq <| Sx <| Wm (.i r51_7.2) rfl <| Wz (.b (decide (r51_7.2 ≠ 0))) (Obn rfl (fun _ => hb_neq (k := .i64))) <| Nk 36041991158500612 1 ⟨tp 2 (.i p2::tp 5 (.loc 0 0::tp 1 (.l enc_GNode r51_7.1::.i r51_7.2::tp 30 (.i r42_5::.i y43_6::tp 11 (.b (decide (r51_7.2 ≠ 0))::tp 4 []))))), [(.box [(.y x37_4.Kind), (.i x37_4.Kids), (.i x37_4.Lo), (.i x37_4.Hi), (.s x37_4.Var), (.s x37_4.Type_), (.l enc_GNode_ x37_4.Test)])], 0⟩ ?_
        rcases tf_ (decide (r51_7.2 ≠ 0)) with hc55_14 | hc55_14
        ·
         replace hm := cT hc55_14 hm
         refine AiT hc55_14 <| Sx <| Wm (.i r51_7.2) rfl <| Wm (.d .nil) rfl <| Wm (.i r51_7.2) rfl <| Nn <| Rt <| Tr <| Ir <| Tr <| RoundK.ret <| Ir <| Tr ?_
         obtain rfl := Option.some.inj hm
         exact ret_i []
        ·
         replace hm := cF hc55_14 hm
         refine AiF hc55_14 <| Sk <| Tk 13194139534596 1 ⟨tp 2 (.i p2::tp 5 (.loc 0 0::tp 1 (.l enc_GNode r51_7.1::tp 31 (.i r42_5::.i y43_6::tp 16 [])))), [(.box [(.y x37_4.Kind), (.i x37_4.Kids), (.i x37_4.Lo), (.i x37_4.Hi), (.s x37_4.Var), (.s x37_4.Type_), (.l enc_GNode_ x37_4.Test)])], 0⟩ <| Tx <| Wm (.l enc_GNode r51_7.1) rfl <| Wm (.l enc_GNode r51_7.1) rfl <| Wn0 <| Ino <| Tk 13194139534084 1 ⟨tp 2 (.i p2::tp 5 (.loc 0 0::.l enc_GNode r51_7.1::tp 32 (.i r42_5::.i y43_6::tp 16 []))), [(.box [(.y x37_4.Kind), (.i x37_4.Kids), (.i x37_4.Lo), (.i x37_4.Hi), (.s x37_4.Var), (.s x37_4.Type_), (.l enc_GNode_ x37_4.Test)])], 0⟩ <| Tx <| Wz (.i (W6 (y43_6 + 1))) (Obn rfl (fun _ => hb_add (k := .i64))) <| Wm (.i (W6 (y43_6 + 1))) rfl <| Wn0 <| RoundK.normal ?_
         exact Rounds.weak (Weak.toK 13194139534084 0 0 [0]) (ih_6 (fu_6, r51_7.1, (W6 (y43_6 + 1))) hm (Nat.lt_succ_self _))
       ·
        replace hm := cF hc44_13 hm
        refine AiF hc44_13 <| AWP.exit <| Then.exit <| RoundK.exit <| InBlock.same <| Tk 512 0 ⟨tp 9 (.l enc_GNode y9_6::tp 50 []), [.gone], 0⟩ <| Sx <| Wm (.l enc_GNode y9_6) rfl <| Wm (.l enc_GNode y9_6) rfl <| Wm (.i 0) rfl <| Nn <| Rt ?_
        obtain rfl := Option.some.inj hm
        exact ret_i []

theorem ok_shape_Word (p0 : UInt8) (r : (List UInt8)) (h : m_shape_Word p0 = some r) : GCall Try.prog 15 [(.y p0)] [] (.s r) [] := by
 refine GCall.of_body (n := 10) (rs := [(.tmp 2)]) Try.func15 rfl rfl rfl <| Ato ⟨.y p0::tu 9 [], [], 0⟩ ?_
 have hm := h
 unfold m_shape_Word at hm
 refine Sx <| Wm (.s ([] : List UInt8)) rfl <| Nk 1 0 ⟨.y p0::tp 9 [], [], 0⟩ <| Sq <| Sx <| Wm (.y p0) rfl <| Nk 8 0 ⟨tp 3 (.y p0::tp 6 []), [], 0⟩ <| Bk <| Sx <| Wz (.b (decide (((p0.toNat : Nat) : Int) = 1))) (Ob2 (.int .u8 ((p0.toNat : Nat) : Int)) (.int .u8 1) rfl (fun _ => hb_eql)) <| Wm (.b (decide (((p0.toNat : Nat) : Int) = 1))) rfl <| Nk 24 0 ⟨tp 3 (.y p0::.b (decide (((p0.toNat : Nat) : Int) = 1))::tp 5 []), [], 0⟩ ?_
 rcases tf_ (decide (((p0.toNat : Nat) : Int) = 1)) with hc4_0 | hc4_0
 ·
  replace hm := cT hc4_0 hm
  refine AiT hc4_0 <| Sx <| Wm (.s ([97, 110, 121] : List UInt8)) rfl <| Nn <| Rt <| Ir <| Tr ?_
  obtain rfl := Option.some.inj hm
  exact ret_i []
 ·
  replace hm := cF hc4_0 hm
  refine AiF hc4_0 <| Sx <| Wz (.b (decide (((p0.toNat : Nat) : Int) = 2))) (Ob2 (.int .u8 ((p0.toNat : Nat) : Int)) (.int .u8 2) rfl (fun _ => hb_eql)) <| Wm (.b (decide (((p0.toNat : Nat) : Int) = 2))) rfl <| Nk 72 0 ⟨tp 3 (.y p0::tp 2 (.b (decide (((p0.toNat : Nat) : Int) = 2))::tp 3 [])), [], 0⟩ ?_
  rcases tf_ (decide (((p0.toNat : Nat) : Int) = 2)) with hc6_1 | hc6_1
  ·
   replace hm := cT hc6_1 hm
   refine AiT hc6_1 <| Sx <| Wm (.s ([110, 101, 120, 116] : List UInt8)) rfl <| Nn <| Rt <| Ir <| Tr ?_
   obtain rfl := Option.some.inj hm
   exact ret_i []
  ·
   replace hm := cF hc6_1 hm
   refine AiF hc6_1 <| Sx <| Wz (.b (decide (((p0.toNat : Nat) : Int) = 3))) (Ob2 (.int .u8 ((p0.toNat : Nat) : Int)) (.int .u8 3) rfl (fun _ => hb_eql)) <| Wm (.b (decide (((p0.toNat : Nat) : Int) = 3))) rfl <| Nk 256 0 ⟨tp 8 (.b (decide (((p0.toNat : Nat) : Int) = 3))::tp 1 []), [], 0⟩ ?_
   rcases tf_ (decide (((p0.toNat : Nat) : Int) = 3)) with hc8_2 | hc8_2
   ·
    replace hm := cT hc8_2 hm
    refine AiT hc8_2 <| Sx <| Wm (.s ([115, 116, 114, 105, 99, 116] : List UInt8)) rfl <| Nn <| Rt <| Ir <| Tr ?_
    obtain rfl := Option.some.inj hm
    exact ret_i []
   ·
    replace hm := cF hc8_2 hm
    refine AiF hc8_2 <| Sk <| Ino <| Tk 0 0 ⟨tp 10 [], [], 0⟩ <| Sx <| Wm (.s ([] : List UInt8)) rfl <| Nn <| Rt ?_
    obtain rfl := Option.some.inj hm
    exact ret_i []

theorem ok_shape_Check (p0 : GPattern) (r : Int) (h : m_shape_Check p0 = some r) : GCall Try.prog 11 [(.agg [(.l enc_GNode p0.Body), (.i p0.Within), (.s p0.By), (.y p0.Mode)])] [] (.i r) [] := by
 refine GCall.of_body (n := 47) (rs := [(.tmp 2)]) Try.func11 rfl rfl rfl <| Ato ⟨.agg [(.l enc_GNode p0.Body), (.i p0.Within), (.s p0.By), (.y p0.Mode)]::tu 46 [], [], 0⟩ ?_
 have hm := h
 unfold m_shape_Check at hm
 refine Sx <| Wy (.loc 0 0) [(0, (.box [(.l enc_GNode p0.Body), (.i p0.Within), (.s p0.By), (.y p0.Mode)]))] (Obx rfl) <| Wm (.i 0) rfl <| Nk 2 1 ⟨tp 1 (.loc 0 0::tp 45 []), [(.box [(.l enc_GNode p0.Body), (.i p0.Within), (.s p0.By), (.y p0.Mode)])], 0⟩ <| Sq <| Sx <| Wz (.loc 0 0) (Ofa rfl) <| Wz (.l enc_GNode p0.Body) (Old rfl) <| Wz (.i ((List.length p0.Body : Nat) : Int)) (Oln rfl) <| Wz (.b (decide ((40 : Int) < ((List.length p0.Body : Nat) : Int)))) (Obn rfl (fun _ => hb_gtr (k := .i64))) <| Nk 258 1 ⟨tp 1 (.loc 0 0::tp 6 (.b (decide ((40 : Int) < ((List.length p0.Body : Nat) : Int)))::tp 38 [])), [(.box [(.l enc_GNode p0.Body), (.i p0.Within), (.s p0.By), (.y p0.Mode)])], 0⟩ ?_
 rcases tf_ (decide ((40 : Int) < ((List.length p0.Body : Nat) : Int))) with hc8_7 | hc8_7
 ·
  replace hm := cT hc8_7 hm
  refine AiT hc8_7 <| Sx <| Wm (.i 5) rfl <| Nn <| Rt <| Tr ?_
  obtain rfl := Option.some.inj hm
  exact ret_i []
 ·
  replace hm := cF hc8_7 hm
  refine AiF hc8_7 <| Sk <| Tk 2 1 ⟨tp 1 (.loc 0 0::tp 45 []), [(.box [(.l enc_GNode p0.Body), (.i p0.Within), (.s p0.By), (.y p0.Mode)])], 0⟩ <| Sx <| Wz (.loc 0 0) (Ofa rfl) <| Wz (.l enc_GNode p0.Body) (Old rfl) ?_
  obtain ⟨r12_1, hr12_1, hm⟩ := bnd hm
  refine Wz (.tup [(.l enc_GNode r12_1.1), (.i r12_1.2)]) (Ocf [] [] [] 0 (ok_shape_tree 1152921504606846976 p0.Body 0 0 r12_1 hr12_1) (fun a w => Try.call25 a w) rfl trivial) <| Wm (.tup [(.l enc_GNode r12_1.1), (.i r12_1.2)]) rfl <| Wz (.l enc_GNode r12_1.1) (Oex rfl) <| Wz (.i r12_1.2) (Oex rfl) <| Wm (.l enc_GNode r12_1.1) rfl <| Wm (.i r12_1.2) rfl <| Nk 26 1 ⟨tp 1 (.loc 0 0::tp 1 (.l enc_GNode r12_1.1::.i r12_1.2::tp 42 [])), [(.box [(.l enc_GNode p0.Body), (.i p0.Within), (.s p0.By), (.y p0.Mode)])], 0⟩ <| Sq <| Bk <| Sx <| Wm (.i r12_1.2) rfl <| Wz (.b (decide (r12_1.2 ≠ 0))) (Obn rfl (fun _ => hb_neq (k := .i64))) <| Wm (.b (decide (r12_1.2 ≠ 0))) rfl <| Nk 32794 1 ⟨tp 1 (.loc 0 0::tp 1 (.l enc_GNode r12_1.1::.i r12_1.2::tp 10 (.b (decide (r12_1.2 ≠ 0))::tp 31 []))), [(.box [(.l enc_GNode p0.Body), (.i p0.Within), (.s p0.By), (.y p0.Mode)])], 0⟩ ?_
  rcases tf_ (decide (r12_1.2 ≠ 0)) with hc15_8 | hc15_8
  ·
   replace hm := cT hc15_8 hm
   refine AiT hc15_8 <| Sx <| Wm (.i r12_1.2) rfl <| Wm (.i r12_1.2) rfl <| Nn <| Rt <| Ir <| Tr ?_
   obtain rfl := Option.some.inj hm
   exact ret_i []
  ·
   replace hm := cF hc15_8 hm
   refine AiF hc15_8 <| Sx <| Wm (.l enc_GNode r12_1.1) rfl <| Wz (.i ((List.length r12_1.1 : Nat) : Int)) (Oln rfl) <| Wz (.b (decide ((0 : Int) < ((List.length r12_1.1 : Nat) : Int)))) (Obn rfl (fun _ => hb_gtr (k := .i64))) <| Wm (.b (decide ((0 : Int) < ((List.length r12_1.1 : Nat) : Int)))) rfl <| Nk 524290 1 ⟨tp 1 (.loc 0 0::tp 17 (.b (decide ((0 : Int) < ((List.length r12_1.1 : Nat) : Int)))::tp 27 [])), [(.box [(.l enc_GNode p0.Body), (.i p0.Within), (.s p0.By), (.y p0.Mode)])], 0⟩ ?_
   rcases tf_ (decide ((0 : Int) < ((List.length r12_1.1 : Nat) : Int))) with hc19_9 | hc19_9
   ·
    replace hm := cT hc19_9 hm
    refine AiT hc19_9 <| Sx <| Wm (.i 5) rfl <| Nn <| Rt <| Ir <| Tr ?_
    obtain rfl := Option.some.inj hm
    exact ret_i []
   ·
    replace hm := cF hc19_9 hm
    refine AiF hc19_9 <| Sx <| Wz (.loc 0 1) (Ofa rfl) <| Wz (.i p0.Within) (Old rfl) <| Wz (.b (decide (p0.Within < 1))) (Obn rfl (fun _ => hb_lss (k := .i64))) ?_
    rcases tf_ (decide (p0.Within < 1)) with hq27_3 | hq27_3
    ·
     replace hm := cT hq27_3 hm
     refine Wz (.b true) (Oq hq27_3 rfl) <| Wn <| Wn <| Wn <| Wz (.b true) (OpT rfl) <| Wm (.b true) rfl <| Nk 8388610 1 ⟨tp 1 (.loc 0 0::tp 21 (.b true::tp 23 [])), [(.box [(.l enc_GNode p0.Body), (.i p0.Within), (.s p0.By), (.y p0.Mode)])], 0⟩ <| AWP.if_ true (by kernel_rfl) <| Sx <| Wm (.i 8) rfl <| Nn <| Rt <| Ir <| Tr ?_
     obtain rfl := Option.some.inj hm
     exact ret_i []
    ·
     replace hm := cF hq27_3 hm
     refine Wz (.b false) (Oq hq27_3 rfl) <| Wz (.loc 0 1) (Ofa rfl) <| Wz (.i p0.Within) (Old rfl) <| Wz (.b (decide ((1073741824 : Int) < p0.Within))) (Obn rfl (fun _ => hb_gtr (k := .i64))) <| Wz (.b (decide ((1073741824 : Int) < p0.Within))) (OpF rfl) <| Wm (.b (decide ((1073741824 : Int) < p0.Within))) rfl <| Nk 8388610 1 ⟨tp 1 (.loc 0 0::tp 21 (.b (decide ((1073741824 : Int) < p0.Within))::tp 23 [])), [(.box [(.l enc_GNode p0.Body), (.i p0.Within), (.s p0.By), (.y p0.Mode)])], 0⟩ ?_
     rcases tf_ (decide ((1073741824 : Int) < p0.Within)) with hc23_10 | hc23_10
     ·
      replace hm := cT hc23_10 hm
      refine AiT hc23_10 <| Sx <| Wm (.i 8) rfl <| Nn <| Rt <| Ir <| Tr ?_
      obtain rfl := Option.some.inj hm
      exact ret_i []
     ·
      replace hm := cF hc23_10 hm
      refine AiF hc23_10 <| Sx <| Wz (.loc 0 2) (Ofa rfl) <| Wz (.s p0.By) (Old rfl) <| Wz (.b (decide (p0.By ≠ ([] : List UInt8)))) (Ocs (lit_tf (by simp only [toS_inj, ne_eq])) (op_bin rfl (a1 := .string (toS p0.By)) (a2 := .string (toS ([] : List UInt8))) (by kernel_rfl) (by kernel_rfl) (fun _ => hb_sneq))) ?_
      rcases tf_ (decide (p0.By ≠ ([] : List UInt8))) with hq36_4 | hq36_4
      ·
       replace hm := cT hq36_4 hm
       refine Wz (.b true) (Oq hq36_4 rfl) <| Wz (.loc 0 2) (Ofa rfl) <| Wz (.s p0.By) (Old rfl) ?_
       obtain ⟨r39_4, hr39_4, hm⟩ := bnd hm
       refine Wz (.b r39_4) (Ocf [] [] [] 0 (ok_schema_Name p0.By r39_4 hr39_4) (fun a w => Try.call26 a w) rfl trivial) <| Wz (.b (!r39_4)) (Ocs (by kernel_rfl) (op_un rfl (a1 := .bool r39_4) (by kernel_rfl) (fun _ => hu_not))) <| Wz (.b (!r39_4)) (OpT rfl) <| Wm (.b (!r39_4)) rfl <| Nk 4294967298 1 ⟨tp 1 (.loc 0 0::tp 30 (.b (!r39_4)::tp 14 [])), [(.box [(.l enc_GNode p0.Body), (.i p0.Within), (.s p0.By), (.y p0.Mode)])], 0⟩ ?_
       rcases tf_ (!r39_4) with hc32_11 | hc32_11
       ·
        replace hm := cT hc32_11 hm
        refine AiT hc32_11 <| Sx <| Wm (.i 4) rfl <| Nn <| Rt <| Ir <| Tr ?_
        obtain rfl := Option.some.inj hm
        exact ret_i []
       ·
        replace hm := cF hc32_11 hm
        refine AiF hc32_11 <| Sx <| Wz (.loc 0 3) (Ofa rfl) <| Wz (.y p0.Mode) (Old rfl) ?_
        obtain ⟨r45_5, hr45_5, hm⟩ := bnd hm
        refine Wz (.s r45_5) (Ocf [] [] [] 0 (ok_shape_Word p0.Mode r45_5 hr45_5) (fun a w => Try.call15 a w) rfl trivial) <| Wz (.b (decide (r45_5 = ([] : List UInt8)))) (Ocs (lit_tf (by simp only [toS_inj, ne_eq])) (op_bin rfl (a1 := .string (toS r45_5)) (a2 := .string (toS ([] : List UInt8))) (by kernel_rfl) (by kernel_rfl) (fun _ => hb_seql))) <| Wm (.b (decide (r45_5 = ([] : List UInt8)))) rfl <| Nk 4398046511104 0 ⟨tp 42 (.b (decide (r45_5 = ([] : List UInt8)))::tp 4 []), [.gone], 0⟩ ?_
        rcases tf_ (decide (r45_5 = ([] : List UInt8))) with hc42_12 | hc42_12
        ·
         replace hm := cT hc42_12 hm
         refine AiT hc42_12 <| Sx <| Wm (.i 11) rfl <| Nn <| Rt <| Ir <| Tr ?_
         obtain rfl := Option.some.inj hm
         exact ret_i []
        ·
         replace hm := cF hc42_12 hm
         refine AiF hc42_12 <| Sk <| Ino <| Tk 0 0 ⟨tp 47 [], [.gone], 0⟩ <| Sx <| Wm (.i 0) rfl <| Nn <| Rt ?_
         obtain rfl := Option.some.inj hm
         exact ret_i []
      ·
       replace hm := cF hq36_4 hm
       refine Wz (.b false) (Oq hq36_4 rfl) <| Wn <| Wn <| Wn <| Wn <| Wz (.b false) (OpF rfl) <| Wm (.b false) rfl <| Nk 4294967298 1 ⟨tp 1 (.loc 0 0::tp 30 (.b false::tp 14 [])), [(.box [(.l enc_GNode p0.Body), (.i p0.Within), (.s p0.By), (.y p0.Mode)])], 0⟩ <| AWP.if_ false (by kernel_rfl) <| Sx <| Wz (.loc 0 3) (Ofa rfl) <| Wz (.y p0.Mode) (Old rfl) ?_
       obtain ⟨r45_6, hr45_6, hm⟩ := bnd hm
       refine Wz (.s r45_6) (Ocf [] [] [] 0 (ok_shape_Word p0.Mode r45_6 hr45_6) (fun a w => Try.call15 a w) rfl trivial) <| Wz (.b (decide (r45_6 = ([] : List UInt8)))) (Ocs (lit_tf (by simp only [toS_inj, ne_eq])) (op_bin rfl (a1 := .string (toS r45_6)) (a2 := .string (toS ([] : List UInt8))) (by kernel_rfl) (by kernel_rfl) (fun _ => hb_seql))) <| Wm (.b (decide (r45_6 = ([] : List UInt8)))) rfl <| Nk 4398046511104 0 ⟨tp 42 (.b (decide (r45_6 = ([] : List UInt8)))::tp 4 []), [.gone], 0⟩ ?_
       rcases tf_ (decide (r45_6 = ([] : List UInt8))) with hc42_13 | hc42_13
       ·
        replace hm := cT hc42_13 hm
        refine AiT hc42_13 <| Sx <| Wm (.i 11) rfl <| Nn <| Rt <| Ir <| Tr ?_
        obtain rfl := Option.some.inj hm
        exact ret_i []
       ·
        replace hm := cF hc42_13 hm
        refine AiF hc42_13 <| Sk <| Ino <| Tk 0 0 ⟨tp 47 [], [.gone], 0⟩ <| Sx <| Wm (.i 0) rfl <| Nn <| Rt ?_
        obtain rfl := Option.some.inj hm
        exact ret_i []

theorem ok_pred_bound (p0 : UInt8) (r : Int) (h : m_pred_bound p0 = some r) : GCall Try.prog 92 [(.y p0)] [] (.i r) [] := by
 refine GCall.of_body (n := 8) (rs := [(.tmp 2)]) Try.func92 rfl rfl rfl <| Ato ⟨.y p0::tu 7 [], [], 0⟩ ?_
 have hm := h
 unfold m_pred_bound at hm
 refine Sx <| Wm (.i 0) rfl <| Nk 1 0 ⟨.y p0::tp 7 [], [], 0⟩ <| Sq <| Sx <| Wm (.y p0) rfl <| Nk 8 0 ⟨tp 3 (.y p0::tp 4 []), [], 0⟩ <| Bk <| Sx <| Wz (.b (decide (((p0.toNat : Nat) : Int) = 2))) (Ob2 (.int .u8 ((p0.toNat : Nat) : Int)) (.int .u8 2) rfl (fun _ => hb_eql)) <| Wm (.b (decide (((p0.toNat : Nat) : Int) = 2))) rfl <| Nk 24 0 ⟨tp 3 (.y p0::.b (decide (((p0.toNat : Nat) : Int) = 2))::tp 3 []), [], 0⟩ ?_
 rcases tf_ (decide (((p0.toNat : Nat) : Int) = 2)) with hc4_0 | hc4_0
 ·
  replace hm := cT hc4_0 hm
  refine AiT hc4_0 <| Sx <| Wm (.i 1) rfl <| Nn <| Rt <| Ir <| Tr ?_
  obtain rfl := Option.some.inj hm
  exact ret_i []
 ·
  replace hm := cF hc4_0 hm
  refine AiF hc4_0 <| Sx <| Wz (.b (decide (((p0.toNat : Nat) : Int) = 1))) (Ob2 (.int .u8 ((p0.toNat : Nat) : Int)) (.int .u8 1) rfl (fun _ => hb_eql)) <| Wm (.b (decide (((p0.toNat : Nat) : Int) = 1))) rfl <| Nk 64 0 ⟨tp 6 (.b (decide (((p0.toNat : Nat) : Int) = 1))::tp 1 []), [], 0⟩ ?_
  rcases tf_ (decide (((p0.toNat : Nat) : Int) = 1)) with hc6_1 | hc6_1
  ·
   replace hm := cT hc6_1 hm
   refine AiT hc6_1 <| Sx <| Wm (.i 2) rfl <| Nn <| Rt <| Ir <| Tr ?_
   obtain rfl := Option.some.inj hm
   exact ret_i []
  ·
   replace hm := cF hc6_1 hm
   refine AiF hc6_1 <| Sk <| Ino <| Tk 0 0 ⟨tp 8 [], [], 0⟩ <| Sx <| Wm (.i 3) rfl <| Nn <| Rt ?_
   obtain rfl := Option.some.inj hm
   exact ret_i []

theorem ok_pred_printer_within (rec_m_pred_printer_tree : GTchecker → Option ((List UInt8) × GTchecker)) (hrec_m_pred_printer_tree : ∀ (p0 : GTchecker) (r : ((List UInt8) × GTchecker)), rec_m_pred_printer_tree p0 = some r → GCall Try.prog 60 [(.loc 0 0)] [(.box [(.l enc_GNode_ p0.l), (.i p0.at_)])] (.s r.1) [(.box [(.l enc_GNode_ r.2.l), (.i r.2.at_)])]) (p0 : GTchecker) (p1 : Int) (r : ((List UInt8) × GTchecker)) (h : m_pred_printer_within rec_m_pred_printer_tree p0 p1 = some r) : GCall Try.prog 72 [(.loc 0 0), (.i p1)] [(.box [(.l enc_GNode_ p0.l), (.i p0.at_)])] (.s r.1) [(.box [(.l enc_GNode_ r.2.l), (.i r.2.at_)])] := by
 refine GCall.of_body (n := 25) (rs := [(.tmp 4)]) Try.func72 rfl rfl rfl <| Ato ⟨.loc 0 0::.i p1::tu 23 [], [(.box [(.l enc_GNode_ p0.l), (.i p0.at_)])], 1⟩ ?_
 have hm := h
 unfold m_pred_printer_within at hm
 refine Sx <| Wm (.s ([] : List UInt8)) rfl <| Nk 3 1 ⟨.loc 0 0::.i p1::tp 23 [], [(.box [(.l enc_GNode_ p0.l), (.i p0.at_)])], 1⟩ <| Sq <| Sq <| Adr <| Wm (.loc 0 0) rfl <| Wz (.loc 0 0) (op_nilCheckLoc rfl (id := 0) (off := 0) (xs := [(.l enc_GNode_ p0.l), (.i p0.at_)]) (by kernel_rfl) (by kernel_rfl)) <| Wz (.loc 0 0) (Ofa rfl) <| Wz (.l enc_GNode_ p0.l) (Old rfl) <| Wm (.loc 0 0) rfl <| Wz (.loc 0 0) (op_nilCheckLoc rfl (id := 0) (off := 0) (xs := [(.l enc_GNode_ p0.l), (.i p0.at_)]) (by kernel_rfl) (by kernel_rfl)) <| Wz (.loc 0 1) (Ofa rfl) <| Wz (.i p0.at_) (Old rfl) ?_
 obtain ⟨x13_0, hx13_0, hm⟩ := bnd hm
 obtain ⟨hx13_0i, hx13_0g⟩ := geti_some hx13_0
 refine Wz (.d (.ref (List.drop ((Int.toNat p0.at_) * 8) (flatD enc_GNode_ p0.l)))) (Oia rfl enc_GNode__len hx13_0i hx13_0g) <| Wz (.d (.ref (List.drop ((Int.toNat p0.at_) * 8) (flatD enc_GNode_ p0.l)))) (Ofa rfl) <| Wz (.y x13_0.Kind) (Lf1 rfl enc_GNode__len hx13_0g) ?_
 obtain ⟨r16_0, hr16_0, hm⟩ := bnd hm
 refine Wz (.i r16_0) (Ocf [] [] [] 0 (ok_pred_bound x13_0.Kind r16_0 hr16_0) (fun a w => Try.call92 a w) rfl trivial) <| Wm (.i p1) rfl <| Wz (.b (decide (r16_0 < p1))) (Obn rfl (fun _ => hb_lss (k := .i64))) <| Wdr <| Tk 262145 1 ⟨.loc 0 0::tp 17 (.b (decide (r16_0 < p1))::tp 6 []), [(.box [(.l enc_GNode_ p0.l), (.i p0.at_)])], 1⟩ ?_
 rcases tf_ (decide (r16_0 < p1)) with hc18_3 | hc18_3
 ·
  replace hm := cT hc18_3 hm
  refine AiT hc18_3 <| Sx <| Wm (.loc 0 0) rfl ?_
  obtain ⟨r20_1, hr20_1, hm⟩ := bnd hm
  refine Wy (.s r20_1.1) [(0, (.box [(.l enc_GNode_ r20_1.2.l), (.i r20_1.2.at_)]))] (Ocf [0] [] [] 0 (hrec_m_pred_printer_tree p0 r20_1 hr20_1) (fun a w => Try.call60 a w) rfl ⟨rfl, trivial⟩) ?_
  obtain ⟨t21_1, ht21_1, hm⟩ := bnd hm; obtain ⟨ht21_1e, ht21_1l⟩ := app_some ht21_1
  refine Wz (.s t21_1) (op_bin rfl (a1 := .string (toS ([40] : List UInt8))) (a2 := .string (toS r20_1.1)) (by kernel_rfl) (by kernel_rfl) (fun _ => hb_sadd ht21_1e ht21_1l)) ?_
  obtain ⟨t22_1, ht22_1, hm⟩ := bnd hm; obtain ⟨ht22_1e, ht22_1l⟩ := app_some ht22_1
  refine Wz (.s t22_1) (op_bin rfl (a1 := .string (toS t21_1)) (a2 := .string (toS ([41] : List UInt8))) (by kernel_rfl) (by kernel_rfl) (fun _ => hb_sadd ht22_1e ht22_1l)) <| Wm (.s t22_1) rfl <| Nn <| Rt <| Tr ?_
  obtain rfl := Option.some.inj hm
  exact ret_i [0]
 ·
  replace hm := cF hc18_3 hm
  refine AiF hc18_3 <| Sk <| Tk 1 1 ⟨.loc 0 0::tp 24 [], [(.box [(.l enc_GNode_ p0.l), (.i p0.at_)])], 1⟩ <| Sx <| Wm (.loc 0 0) rfl ?_
  obtain ⟨r24_2, hr24_2, hm⟩ := bnd hm
  refine Wy (.s r24_2.1) [(0, (.box [(.l enc_GNode_ r24_2.2.l), (.i r24_2.2.at_)]))] (Ocf [0] [] [] 0 (hrec_m_pred_printer_tree p0 r24_2 hr24_2) (fun a w => Try.call60 a w) rfl ⟨rfl, trivial⟩) <| Wm (.s r24_2.1) rfl <| Nn <| Rt ?_
  obtain rfl := Option.some.inj hm
  exact ret_i [0]

theorem ok_pred_printer_two (rec_m_pred_printer_tree : GTchecker → Option ((List UInt8) × GTchecker)) (hrec_m_pred_printer_tree : ∀ (p0 : GTchecker) (r : ((List UInt8) × GTchecker)), rec_m_pred_printer_tree p0 = some r → GCall Try.prog 60 [(.loc 0 0)] [(.box [(.l enc_GNode_ p0.l), (.i p0.at_)])] (.s r.1) [(.box [(.l enc_GNode_ r.2.l), (.i r.2.at_)])]) (p0 : GTchecker) (p1 : (List UInt8)) (p2 : Int) (p3 : Int) (r : ((List UInt8) × GTchecker)) (h : m_pred_printer_two rec_m_pred_printer_tree p0 p1 p2 p3 = some r) : GCall Try.prog 71 [(.loc 0 0), (.s p1), (.i p2), (.i p3)] [(.box [(.l enc_GNode_ p0.l), (.i p0.at_)])] (.s r.1) [(.box [(.l enc_GNode_ r.2.l), (.i r.2.at_)])] := by
 refine GCall.of_body (n := 22) (rs := [(.tmp 8)]) Try.func71 rfl rfl rfl <| Ato ⟨.loc 0 0::.s p1::.i p2::.i p3::tu 18 [], [(.box [(.l enc_GNode_ p0.l), (.i p0.at_)])], 1⟩ ?_
 have hm := h
 unfold m_pred_printer_two at hm
 refine Sx <| Wm (.s ([] : List UInt8)) rfl <| Nk 15 1 ⟨.loc 0 0::.s p1::.i p2::.i p3::tp 18 [], [(.box [(.l enc_GNode_ p0.l), (.i p0.at_)])], 1⟩ <| Sx <| Wm (.loc 0 0) rfl <| Wm (.i p2) rfl ?_
 obtain ⟨r12_0, hr12_0, hm⟩ := bnd hm
 refine Wy (.s r12_0.1) [(0, (.box [(.l enc_GNode_ r12_0.2.l), (.i r12_0.2.at_)]))] (Ocf [0] [] [] 0 (ok_pred_printer_within rec_m_pred_printer_tree hrec_m_pred_printer_tree p0 p2 r12_0 hr12_0) (fun a w => Try.call72 a w) rfl ⟨rfl, trivial⟩) <| Wm (.s r12_0.1) rfl <| Nk 523 1 ⟨.loc 0 0::.s p1::tp 1 (.i p3::tp 5 (.s r12_0.1::tp 12 [])), [(.box [(.l enc_GNode_ r12_0.2.l), (.i r12_0.2.at_)])], 1⟩ <| Sx <| Wm (.s r12_0.1) rfl ?_
 obtain ⟨t14_1, ht14_1, hm⟩ := bnd hm; obtain ⟨ht14_1e, ht14_1l⟩ := app_some ht14_1
 refine Wz (.s t14_1) (op_bin rfl (a1 := .string (toS r12_0.1)) (a2 := .string (toS ([32] : List UInt8))) (by kernel_rfl) (by kernel_rfl) (fun _ => hb_sadd ht14_1e ht14_1l)) <| Wm (.s p1) rfl ?_
 obtain ⟨t16_1, ht16_1, hm⟩ := bnd hm; obtain ⟨ht16_1e, ht16_1l⟩ := app_some ht16_1
 refine Wz (.s t16_1) (op_bin rfl (a1 := .string (toS t14_1)) (a2 := .string (toS p1)) (by kernel_rfl) (by kernel_rfl) (fun _ => hb_sadd ht16_1e ht16_1l)) ?_
 obtain ⟨t17_1, ht17_1, hm⟩ := bnd hm; obtain ⟨ht17_1e, ht17_1l⟩ := app_some ht17_1
 refine Wz (.s t17_1) (op_bin rfl (a1 := .string (toS t16_1)) (a2 := .string (toS ([32] : List UInt8))) (by kernel_rfl) (by kernel_rfl) (fun _ => hb_sadd ht17_1e ht17_1l)) <| Wm (.loc 0 0) rfl <| Wm (.i p3) rfl ?_
 obtain ⟨r20_1, hr20_1, hm⟩ := bnd hm
 refine Wy (.s r20_1.1) [(0, (.box [(.l enc_GNode_ r20_1.2.l), (.i r20_1.2.at_)]))] (Ocf [0] [] [] 0 (ok_pred_printer_within rec_m_pred_printer_tree hrec_m_pred_printer_tree r12_0.2 p3 r20_1 hr20_1) (fun a w => Try.call72 a w) rfl ⟨rfl, trivial⟩) ?_
 obtain ⟨t21_1, ht21_1, hm⟩ := bnd hm; obtain ⟨ht21_1e, ht21_1l⟩ := app_some ht21_1
 refine Wz (.s t21_1) (op_bin rfl (a1 := .string (toS t17_1)) (a2 := .string (toS r20_1.1)) (by kernel_rfl) (by kernel_rfl) (fun _ => hb_sadd ht21_1e ht21_1l)) <| Wm (.s t21_1) rfl <| Nn <| Rt ?_
 obtain rfl := Option.some.inj hm
 exact ret_i [0]

theorem ok_lex_whole (p0 : Int) (r : (List UInt8)) (h : m_lex_whole p0 = some r) : GCall Try.prog 62 [(.i p0)] [] (.s r) [] := by
 refine GCall.of_body (n := 32) (rs := [(.tmp 2)]) Try.func62 rfl rfl rfl <| Ato ⟨.i p0::tu 31 [], [], 0⟩ ?_
 have hm := h
 unfold m_lex_whole at hm
 refine Sx <| Wm (.s ([] : List UInt8)) rfl <| Nk 1 0 ⟨.i p0::tp 31 [], [], 0⟩ <| Sx <| Wy (.loc 0 0) [(0, (Ar 108 1 encU8 (List.replicate 21 0 : List UInt8)))] (OaA rfl) <| Nk 9 1 ⟨.i p0::tp 2 (.loc 0 0::tp 28 []), [(Ar 108 1 encU8 (List.replicate 21 0 : List UInt8))], 0⟩ <| Sx <| Wm (.i 21) rfl <| Nk 25 1 ⟨.i p0::tp 2 (.loc 0 0::.i 21::tp 27 []), [(Ar 108 1 encU8 (List.replicate 21 0 : List UInt8))], 0⟩ <| Sx <| Wm (.i p0) rfl <| Wm (.i p0) rfl <| Wz (.i (W6 (0 - p0))) (Ocs (by kernel_rfl) (op_un rfl (a1 := .int .i64 p0) (by kernel_rfl) (fun _ => hu_neg))) <| Wz (.i (max p0 (W6 (0 - p0)))) (op_bi2 rfl (a1 := .int .i64 p0) (a2 := .int .i64 (W6 (0 - p0))) (by kernel_rfl) (by kernel_rfl) hb_max) ?_
 refine Wz (.u (W7 (max p0 (W6 (0 - p0))))) (Oc2 (.int .i64 (max p0 (W6 (0 - p0)))) rfl (run_conv (ds := .int .i64) (k' := .u64) (by kernel_rfl) (by kernel_rfl))) <| Wm (.u (W7 (max p0 (W6 (0 - p0))))) rfl <| Nk 57 1 ⟨.i p0::tp 2 (.loc 0 0::.i 21::.u (W7 (max p0 (W6 (0 - p0))))::tp 26 []), [(Ar 108 1 encU8 (List.replicate 21 0 : List UInt8))], 0⟩ <| Sq <| Bk ?_
 refine AWP.loopI (α := Nat × (List UInt8) × Int × Int)
   (fun (fu_1, y3_d_1, y4_1, y5_1) => (⟨.i p0::tp 2 (.loc 0 0::.i y4_1::.u y5_1::tp 26 []), [(Ar 108 1 encU8 y3_d_1)], 0⟩ : St))
   (fun (fu_1, y3_d_1, y4_1, y5_1) => m_lex_whole_l1 p0 fu_1 y3_d_1 y4_1 y5_1 = some r)
   (fun (fu_1, y3_d_1, y4_1, y5_1) => fu_1) (1152921504606846976, (List.replicate 21 0 : List UInt8), 21, (W7 (max p0 (W6 (0 - p0)))))
   (Weak.toK 57 0 0 [0]) hm ?_
 rintro ⟨fu_1, y3_d_1, y4_1, y5_1⟩ n_1 hm ih_1
 try dsimp only at hm ih_1 ⊢
 cases fu_1 with
 | zero => exact absurd hm (by unfold m_lex_whole_l1; simp)
 | succ fu_1 =>
  unfold m_lex_whole_l1 at hm
  refine Bk <| Sx <| Wm (.i y4_1) rfl <| Wz (.i (W6 (y4_1 - 1))) (Obn rfl (fun _ => hb_sub (k := .i64))) <| Wm (.i (W6 (y4_1 - 1))) rfl <| Nk 57 1 ⟨.i p0::tp 2 (.loc 0 0::.i (W6 (y4_1 - 1))::.u y5_1::tp 26 []), [(Ar 108 1 encU8 y3_d_1)], 0⟩ <| Sx <| Wm (.i (W6 (y4_1 - 1))) rfl <| Wm (.u y5_1) rfl <| Wz (.u (Int.tmod y5_1 10)) (Ob2 (.int .u64 y5_1) (.int .u64 10) rfl (fun _ => hb_rem (by decide))) <| Wz (.y (toU8 (Int.tmod y5_1 10))) (Ocs (lit_int (u8w _)) (op_convert rfl (a1 := .int .u64 (Int.tmod y5_1 10)) (by kernel_rfl) (run_conv (ds := .int .u64) (k' := .u8) (by kernel_rfl) (by kernel_rfl)))) <| Wz (.y (toU8 (48 + (((toU8 (Int.tmod y5_1 10)).toNat : Nat) : Int)))) (Ocs (lit_int (u8w _)) (op_bin rfl (a1 := .int .u8 48) (a2 := .int .u8 (((toU8 (Int.tmod y5_1 10)).toNat : Nat) : Int)) (by kernel_rfl) (by kernel_rfl) (fun _ => hb_add))) ?_
  obtain ⟨hn18_2, hm⟩ := chk_some hm
  obtain ⟨x18_2, hx18_2, hm⟩ := bnd hm
  obtain ⟨hx18_2i, hx18_2g⟩ := geti_some hx18_2
  refine Wz (.loc 0 ((Int.toNat (IntKind.i64.wrap (y4_1 - 1))) * 1)) (OiR rfl (n := 21) hx18_2i (by rw [← hn18_2]; exact getlt hx18_2g)) <| Wy (.tup []) [(0, (Ar 108 1 encU8 (List.set y3_d_1 (Int.toNat (W6 (y4_1 - 1))) (toU8 (48 + (((toU8 (Int.tmod y5_1 10)).toNat : Nat) : Int))))))] (Osr 0 rfl encU8_len hx18_2g (toU8 (48 + (((toU8 (Int.tmod y5_1 10)).toNat : Nat) : Int)))) <| Nk 57 1 ⟨.i p0::tp 2 (.loc 0 0::.i (W6 (y4_1 - 1))::.u y5_1::tp 26 []), [(Ar 108 1 encU8 (List.set y3_d_1 (Int.toNat (W6 (y4_1 - 1))) (toU8 (48 + (((toU8 (Int.tmod y5_1 10)).toNat : Nat) : Int)))))], 0⟩ <| Sx <| Wm (.u y5_1) rfl <| Wz (.u (W7 (Int.tdiv y5_1 10))) (Ob2 (.int .u64 y5_1) (.int .u64 10) rfl (fun _ => hb_quo (by decide))) <| Wm (.u (W7 (Int.tdiv y5_1 10))) rfl <| Nk 57 1 ⟨.i p0::tp 2 (.loc 0 0::.i (W6 (y4_1 - 1))::.u (W7 (Int.tdiv y5_1 10))::tp 26 []), [(Ar 108 1 encU8 (List.set y3_d_1 (Int.toNat (W6 (y4_1 - 1))) (toU8 (48 + (((toU8 (Int.tmod y5_1 10)).toNat : Nat) : Int)))))], 0⟩ <| Sx <| Wm (.u (W7 (Int.tdiv y5_1 10))) rfl <| Wz (.b (decide ((W7 (Int.tdiv y5_1 10)) = 0))) (Obn rfl (fun _ => hb_eql (k := .u64))) <| Nk 4194361 1 ⟨.i p0::tp 2 (.loc 0 0::.i (W6 (y4_1 - 1))::.u (W7 (Int.tdiv y5_1 10))::tp 16 (.b (decide ((W7 (Int.tdiv y5_1 10)) = 0))::tp 9 [])), [(Ar 108 1 encU8 (List.set y3_d_1 (Int.toNat (W6 (y4_1 - 1))) (toU8 (48 + (((toU8 (Int.tmod y5_1 10)).toNat : Nat) : Int)))))], 0⟩ ?_
  rcases tf_ (decide ((W7 (Int.tdiv y5_1 10)) = 0)) with hc22_6 | hc22_6
  ·
   replace hm := cT hc22_6 hm
   refine AiT hc22_6 <| AWP.exit <| InBlock.other (by rfl) <| RoundK.exit <| InBlock.same <| Tk 25 1 ⟨.i p0::tp 2 (.loc 0 0::.i (W6 (y4_1 - 1))::tp 27 []), [(Ar 108 1 encU8 (List.set y3_d_1 (Int.toNat (W6 (y4_1 - 1))) (toU8 (48 + (((toU8 (Int.tmod y5_1 10)).toNat : Nat) : Int)))))], 0⟩ ?_
   refine AWP.cutJ (α := (List UInt8) × Int) (fun (y3_d_4, y4_4) => (⟨tp 3 (.loc 0 0::.i y4_4::tp 27 []), [(Ar 108 1 encU8 y3_d_4)], 0⟩ : St)) (fun (y3_d_4, y4_4) => m_lex_whole_j4  y3_d_4 y4_4 = some r) ?_ (fun J4 => ?_)
   ·
    rintro ⟨y3_d_4, y4_4⟩ hm
    try dsimp only at hm ⊢
    unfold m_lex_whole_j4 at hm
    refine Sx <| Wm (.i y4_4) rfl ?_
    obtain ⟨hn30_5, hm⟩ := chk_some hm
    refine Wz (.sub 0 ((Int.toNat y4_4) * 1) (List.length y3_d_4 - (Int.toNat y4_4))) (Osa rfl (n := 21) (e := 108) (xs := flatD encU8 y3_d_4) hn30_5.1 (toNat_eq hn30_5.2.1) (toNat_lt' hn30_5.2.1 hn30_5.2.2)) <| Wz (.s (List.drop (Int.toNat y4_4) y3_d_4)) (Ocs (by kernel_rfl) (op_str rfl (e := 5) (by kernel_rfl) (by kernel_rfl) (by kernel_rfl) (y := (.sub 0 ((Int.toNat y4_4) * 1) (List.length y3_d_4 - (Int.toNat y4_4)))) (by kernel_rfl) (ds := flatD encU8 y3_d_4) (off := (Int.toNat y4_4) * 1) (n := List.length y3_d_4 - (Int.toNat y4_4)) (by kernel_rfl) (l := List.drop (Int.toNat y4_4) y3_d_4) flatU8_drop List.length_drop)) <| Wm (.s (List.drop (Int.toNat y4_4) y3_d_4)) rfl <| Nn <| Rt ?_
    obtain rfl := Option.some.inj hm
    exact ret_i []
   refine Sq <| Sx <| Wm (.i p0) rfl <| Wz (.b (decide (p0 < 0))) (Obn rfl (fun _ => hb_lss (k := .i64))) <| Nk 16777240 1 ⟨tp 3 (.loc 0 0::.i (W6 (y4_1 - 1))::tp 19 (.b (decide (p0 < 0))::tp 7 [])), [(Ar 108 1 encU8 (List.set y3_d_1 (Int.toNat (W6 (y4_1 - 1))) (toU8 (48 + (((toU8 (Int.tmod y5_1 10)).toNat : Nat) : Int)))))], 0⟩ ?_
   rcases tf_ (decide (p0 < 0)) with hc24_7 | hc24_7
   ·
    replace hm := cT hc24_7 hm
    refine AiT hc24_7 <| Sx <| Wm (.i (W6 (y4_1 - 1))) rfl <| Wz (.i (W6 ((W6 (y4_1 - 1)) - 1))) (Obn rfl (fun _ => hb_sub (k := .i64))) <| Wm (.i (W6 ((W6 (y4_1 - 1)) - 1))) rfl <| Nk 24 1 ⟨tp 3 (.loc 0 0::.i (W6 ((W6 (y4_1 - 1)) - 1))::tp 27 []), [(Ar 108 1 encU8 (List.set y3_d_1 (Int.toNat (W6 (y4_1 - 1))) (toU8 (48 + (((toU8 (Int.tmod y5_1 10)).toNat : Nat) : Int)))))], 0⟩ <| Tx <| Wm (.i (W6 ((W6 (y4_1 - 1)) - 1))) rfl ?_
    obtain ⟨hn28_3, hm⟩ := chk_some hm
    obtain ⟨x28_3, hx28_3, hm⟩ := bnd hm
    obtain ⟨hx28_3i, hx28_3g⟩ := geti_some hx28_3
    refine Wz (.loc 0 ((Int.toNat (IntKind.i64.wrap ((IntKind.i64.wrap (y4_1 - 1)) - 1))) * 1)) (OiR rfl (n := 21) hx28_3i (by rw [← hn28_3]; exact getlt hx28_3g)) <| Wy (.tup []) [(0, (Ar 108 1 encU8 (List.set (List.set y3_d_1 (Int.toNat (W6 (y4_1 - 1))) (toU8 (48 + (((toU8 (Int.tmod y5_1 10)).toNat : Nat) : Int)))) (Int.toNat (W6 ((W6 (y4_1 - 1)) - 1))) 45)))] (Osr 0 rfl encU8_len hx28_3g 45) <| Nn ?_
    exact AWP.weak (Weak.toK 24 0 0 [0]) (J4 ((List.set (List.set y3_d_1 (Int.toNat (W6 (y4_1 - 1))) (toU8 (48 + (((toU8 (Int.tmod y5_1 10)).toNat : Nat) : Int)))) (Int.toNat (W6 ((W6 (y4_1 - 1)) - 1))) 45), (W6 ((W6 (y4_1 - 1)) - 1))) hm)
   ·
    replace hm := cF hc24_7 hm
    refine AiF hc24_7 <| Sk <| Tn ?_
    exact AWP.weak (Weak.toK 24 0 0 [0]) (J4 ((List.set y3_d_1 (Int.toNat (W6 (y4_1 - 1))) (toU8 (48 + (((toU8 (Int.tmod y5_1 10)).toNat : Nat) : Int)))), (W6 (y4_1 - 1))) hm)
  ·
   replace hm := cF hc22_6 hm
   refine AiF hc22_6 <| Sk <| Ino <| RoundK.normal ?_
   exact Rounds.weak (Weak.toK 57 0 0 [0]) (ih_1 (fu_1, (List.set y3_d_1 (Int.toNat (W6 (y4_1 - 1))) (toU8 (48 + (((toU8 (Int.tmod y5_1 10)).toNat : Nat) : Int)))), (W6 (y4_1 - 1)), (W7 (Int.tdiv y5_1 10))) hm (Nat.lt_succ_self _))

theorem ok_lex_bits (p0 : Int) (r : (List UInt8)) (h : m_lex_bits p0 = some r) : GCall Try.prog 63 [(.u p0)] [] (.s r) [] := by
 refine GCall.of_body (n := 19) (rs := [(.tmp 2)]) Try.func63 rfl rfl rfl <| Ato ⟨.u p0::tu 18 [], [], 0⟩ ?_
 have hm := h
 unfold m_lex_bits at hm
 refine Sx <| Wm (.s ([] : List UInt8)) rfl <| Nk 1 0 ⟨.u p0::tp 18 [], [], 0⟩ <| Sx <| Wy (.loc 0 0) [(0, (Ar 110 1 encU8 (List.replicate 17 0 : List UInt8)))] (OaA rfl) <| Nk 9 1 ⟨.u p0::tp 2 (.loc 0 0::tp 15 []), [(Ar 110 1 encU8 (List.replicate 17 0 : List UInt8))], 0⟩ <| Sx ?_
 obtain ⟨hn5_0, hm⟩ := chk_some hm
 obtain ⟨x5_0, hx5_0, hm⟩ := bnd hm
 obtain ⟨hx5_0i, hx5_0g⟩ := geti_some hx5_0
 refine Wz (.loc 0 ((Int.toNat 0) * 1)) (OiR rfl (n := 17) hx5_0i (by rw [← hn5_0]; exact getlt hx5_0g)) <| Wy (.tup []) [(0, (Ar 110 1 encU8 (List.set (List.replicate 17 0 : List UInt8) (Int.toNat 0) 35)))] (Osr 0 rfl encU8_len hx5_0g 35) <| Nk 9 1 ⟨.u p0::tp 2 (.loc 0 0::tp 15 []), [(Ar 110 1 encU8 (List.set (List.replicate 17 0 : List UInt8) (Int.toNat 0) 35))], 0⟩ <| Sq <| Sx <| Wm (.i 16) rfl <| Nk 25 1 ⟨.u p0::tp 2 (.loc 0 0::.i 16::tp 14 []), [(Ar 110 1 encU8 (List.set (List.replicate 17 0 : List UInt8) (Int.toNat 0) 35))], 0⟩ <| Bk ?_
 refine AWP.loopI (α := Nat × Int × (List UInt8) × Int)
   (fun (fu_1, y0_1, y3_d_1, y4_1) => (⟨.u y0_1::tp 2 (.loc 0 0::.i y4_1::tp 14 []), [(Ar 110 1 encU8 y3_d_1)], 0⟩ : St))
   (fun (fu_1, y0_1, y3_d_1, y4_1) => m_lex_bits_l1  fu_1 y0_1 y3_d_1 y4_1 = some r)
   (fun (fu_1, y0_1, y3_d_1, y4_1) => fu_1) (1152921504606846976, p0, (List.set (List.replicate 17 0 : List UInt8) (Int.toNat 0) 35), 16)
   (Weak.toK 25 0 0 [0]) hm ?_
 rintro ⟨fu_1, y0_1, y3_d_1, y4_1⟩ n_1 hm ih_1
 try dsimp only at hm ih_1 ⊢
 cases fu_1 with
 | zero => exact absurd hm (by unfold m_lex_bits_l1; simp)
 | succ fu_1 =>
  unfold m_lex_bits_l1 at hm
  refine Sq <| Sx <| Wm (.i y4_1) rfl <| Wz (.b (decide ((0 : Int) < y4_1))) (Obn rfl (fun _ => hb_gtr (k := .i64))) <| Nk 153 1 ⟨.u y0_1::tp 2 (.loc 0 0::.i y4_1::tp 2 (.b (decide ((0 : Int) < y4_1))::tp 11 [])), [(Ar 110 1 encU8 y3_d_1)], 0⟩ ?_
  rcases tf_ (decide ((0 : Int) < y4_1)) with hc7_4 | hc7_4
  ·
   replace hm := cT hc7_4 hm
   refine AiT hc7_4 <| Sk <| Tk 25 1 ⟨.u y0_1::tp 2 (.loc 0 0::.i y4_1::tp 14 []), [(Ar 110 1 encU8 y3_d_1)], 0⟩ <| Sq <| Bk <| Sx <| Wm (.i y4_1) rfl <| Wm (.u y0_1) rfl <| Wz (.u (W7 (((BitVec.ofInt 64 y0_1 &&& BitVec.ofInt 64 15).toNat : Int)))) (Ob2 (.int .u64 y0_1) (.int .u64 15) rfl (fun _ => hb_and)) ?_
   obtain ⟨x13_2, hx13_2, hm⟩ := bnd hm
   obtain ⟨hx13_2i, hx13_2g⟩ := geti_some hx13_2
   refine Wz (.y x13_2) (Ocs (by kernel_rfl) (op_index_str rfl (by kernel_rfl) (s := toS ([48, 49, 50, 51, 52, 53, 54, 55, 56, 57, 97, 98, 99, 100, 101, 102] : List UInt8)) (by kernel_rfl) (k := .u64) (iv := (W7 (((BitVec.ofInt 64 y0_1 &&& BitVec.ofInt 64 15).toNat : Int)))) (by kernel_rfl) (i := (Int.toNat (W7 (((BitVec.ofInt 64 y0_1 &&& BitVec.ofInt 64 15).toNat : Int))))) (hx13_2i) (b := x13_2) (hx13_2g))) ?_
   obtain ⟨hn14_2, hm⟩ := chk_some hm
   obtain ⟨x14_2, hx14_2, hm⟩ := bnd hm
   obtain ⟨hx14_2i, hx14_2g⟩ := geti_some hx14_2
   refine Wz (.loc 0 ((Int.toNat y4_1) * 1)) (OiR rfl (n := 17) hx14_2i (by rw [← hn14_2]; exact getlt hx14_2g)) <| Wy (.tup []) [(0, (Ar 110 1 encU8 (List.set y3_d_1 (Int.toNat y4_1) x13_2)))] (Osr 0 rfl encU8_len hx14_2g x13_2) <| Nk 25 1 ⟨.u y0_1::tp 2 (.loc 0 0::.i y4_1::tp 14 []), [(Ar 110 1 encU8 (List.set y3_d_1 (Int.toNat y4_1) x13_2))], 0⟩ <| Tx <| Wm (.u y0_1) rfl <| Wz (.u (Int.fdiv y0_1 (2 ^ 4))) (Ob2 (.int .u64 y0_1) (.int .u64 4) rfl (fun _ => hb_shr (n := 4) (by decide) rfl)) <| Wm (.u (Int.fdiv y0_1 (2 ^ 4))) rfl <| Wn0 <| Ino <| Tk 25 1 ⟨.u (Int.fdiv y0_1 (2 ^ 4))::tp 2 (.loc 0 0::.i y4_1::tp 14 []), [(Ar 110 1 encU8 (List.set y3_d_1 (Int.toNat y4_1) x13_2))], 0⟩ <| Tx <| Wm (.i y4_1) rfl <| Wz (.i (W6 (y4_1 - 1))) (Obn rfl (fun _ => hb_sub (k := .i64))) <| Wm (.i (W6 (y4_1 - 1))) rfl ?_
   refine Wn0 <| RoundK.normal ?_
   exact Rounds.weak (Weak.toK 25 0 0 [0]) (ih_1 (fu_1, (Int.fdiv y0_1 (2 ^ 4)), (List.set y3_d_1 (Int.toNat y4_1) x13_2), (W6 (y4_1 - 1))) hm (Nat.lt_succ_self _))
  ·
   replace hm := cF hc7_4 hm
   refine AiF hc7_4 <| AWP.exit <| Then.exit <| RoundK.exit <| InBlock.same <| Tk 8 1 ⟨tp 3 (.loc 0 0::tp 15 []), [(Ar 110 1 encU8 y3_d_1)], 0⟩ <| Sx ?_
   obtain ⟨hn17_3, hm⟩ := chk_some hm
   refine Wz (.sub 0 (0 * 1) (List.length y3_d_1 - 0)) (Osa0 rfl (n := 17) (e := 110) (xs := flatD encU8 y3_d_1) hn17_3.1) <| Wz (.s (List.drop 0 y3_d_1)) (Ocs (by kernel_rfl) (op_str rfl (e := 5) (by kernel_rfl) (by kernel_rfl) (by kernel_rfl) (y := (.sub 0 (0 * 1) (List.length y3_d_1 - 0))) (by kernel_rfl) (ds := flatD encU8 y3_d_1) (off := 0 * 1) (n := List.length y3_d_1 - 0) (by kernel_rfl) (l := List.drop 0 y3_d_1) flatU8_drop List.length_drop)) <| Wm (.s (List.drop 0 y3_d_1)) rfl <| Nn <| Rt ?_
   obtain rfl := Option.some.inj hm
   exact ret_i []

theorem ok_lex_text (p0 : (List UInt8)) (r : (List UInt8)) (h : m_lex_text p0 = some r) : GCall Try.prog 64 [(.s p0)] [] (.s r) [] := by
  unfold m_lex_text at h
  obtain ⟨hl, h⟩ := chk_some h
  cases h
  exact call_text p0 hl

theorem ok_lex_Literal (p0 : GValue) (r : (List UInt8)) (h : m_lex_Literal p0 = some r) : GCall Try.prog 50 [(.agg [(.y p0.Kind), (.i p0.N), (.u p0.Bits), (.s p0.Text)])] [] (.s r) [] := by
 refine GCall.of_body (n := 26) (rs := [(.tmp 2)]) Try.func50 rfl rfl rfl <| Ato ⟨.agg [(.y p0.Kind), (.i p0.N), (.u p0.Bits), (.s p0.Text)]::tu 25 [], [], 0⟩ ?_
 have hm := h
 unfold m_lex_Literal at hm
 refine Sx <| Wy (.loc 0 0) [(0, (.box [(.y p0.Kind), (.i p0.N), (.u p0.Bits), (.s p0.Text)]))] (Obx rfl) <| Wm (.s ([] : List UInt8)) rfl <| Nk 2 1 ⟨tp 1 (.loc 0 0::tp 24 []), [(.box [(.y p0.Kind), (.i p0.N), (.u p0.Bits), (.s p0.Text)])], 0⟩ <| Sq <| Sx <| Wz (.agg [(.y p0.Kind), (.i p0.N), (.u p0.Bits), (.s p0.Text)]) (Old rfl) ?_
 obtain ⟨r4_0, hr4_0, hm⟩ := bnd hm
 refine Wz (.i r4_0) (Ocf [] [] [] 0 (ok_value_Check p0 r4_0 hr4_0) (fun a w => Try.call61 a w) rfl trivial) <| Wz (.b (decide (r4_0 ≠ 0))) (Obn rfl (fun _ => hb_neq (k := .i64))) <| Nk 34 1 ⟨tp 1 (.loc 0 0::tp 3 (.b (decide (r4_0 ≠ 0))::tp 20 [])), [(.box [(.y p0.Kind), (.i p0.N), (.u p0.Bits), (.s p0.Text)])], 0⟩ ?_
 rcases tf_ (decide (r4_0 ≠ 0)) with hc5_4 | hc5_4
 ·
  replace hm := cT hc5_4 hm
  refine AiT hc5_4 <| Sx <| Wm (.s ([] : List UInt8)) rfl <| Nn <| Rt <| Tr ?_
  obtain rfl := Option.some.inj hm
  exact ret_i []
 ·
  replace hm := cF hc5_4 hm
  refine AiF hc5_4 <| Sk <| Tk 2 1 ⟨tp 1 (.loc 0 0::tp 24 []), [(.box [(.y p0.Kind), (.i p0.N), (.u p0.Bits), (.s p0.Text)])], 0⟩ <| Sq <| Sx <| Wz (.loc 0 0) (Ofa rfl) <| Wz (.y p0.Kind) (Old rfl) <| Nk 130 1 ⟨tp 1 (.loc 0 0::tp 5 (.y p0.Kind::tp 18 [])), [(.box [(.y p0.Kind), (.i p0.N), (.u p0.Bits), (.s p0.Text)])], 0⟩ <| Bk <| Sx <| Wz (.b (decide (((p0.Kind.toNat : Nat) : Int) = 1))) (Ob2 (.int .u8 ((p0.Kind.toNat : Nat) : Int)) (.int .u8 1) rfl (fun _ => hb_eql)) <| Wm (.b (decide (((p0.Kind.toNat : Nat) : Int) = 1))) rfl <| Nk 386 1 ⟨tp 1 (.loc 0 0::tp 5 (.y p0.Kind::.b (decide (((p0.Kind.toNat : Nat) : Int) = 1))::tp 17 [])), [(.box [(.y p0.Kind), (.i p0.N), (.u p0.Bits), (.s p0.Text)])], 0⟩ ?_
  rcases tf_ (decide (((p0.Kind.toNat : Nat) : Int) = 1)) with hc8_5 | hc8_5
  ·
   replace hm := cT hc8_5 hm
   refine AiT hc8_5 <| Sx <| Wz (.loc 0 1) (Ofa rfl) <| Wz (.i p0.N) (Old rfl) ?_
   obtain ⟨r12_1, hr12_1, hm⟩ := bnd hm
   refine Wz (.s r12_1) (Ocf [] [] [] 0 (ok_lex_whole p0.N r12_1 hr12_1) (fun a w => Try.call62 a w) rfl trivial) <| Wm (.s r12_1) rfl <| Nn <| Rt <| Ir <| Tr ?_
   obtain rfl := Option.some.inj hm
   exact ret_i []
  ·
   replace hm := cF hc8_5 hm
   refine AiF hc8_5 <| Sx <| Wz (.b (decide (((p0.Kind.toNat : Nat) : Int) = 2))) (Ob2 (.int .u8 ((p0.Kind.toNat : Nat) : Int)) (.int .u8 2) rfl (fun _ => hb_eql)) <| Wm (.b (decide (((p0.Kind.toNat : Nat) : Int) = 2))) rfl <| Nk 8322 1 ⟨tp 1 (.loc 0 0::tp 5 (.y p0.Kind::tp 5 (.b (decide (((p0.Kind.toNat : Nat) : Int) = 2))::tp 12 []))), [(.box [(.y p0.Kind), (.i p0.N), (.u p0.Bits), (.s p0.Text)])], 0⟩ ?_
   rcases tf_ (decide (((p0.Kind.toNat : Nat) : Int) = 2)) with hc13_6 | hc13_6
   ·
    replace hm := cT hc13_6 hm
    refine AiT hc13_6 <| Sq <| Sx <| Wz (.loc 0 1) (Ofa rfl) <| Wz (.i p0.N) (Old rfl) <| Wz (.b (decide (p0.N = 0))) (Obn rfl (fun _ => hb_eql (k := .i64))) <| Nk 131072 0 ⟨tp 17 (.b (decide (p0.N = 0))::tp 8 []), [.gone], 0⟩ ?_
    rcases tf_ (decide (p0.N = 0)) with hc17_7 | hc17_7
    ·
     replace hm := cT hc17_7 hm
     refine AiT hc17_7 <| Sx <| Wm (.s ([102, 97, 108, 115, 101] : List UInt8)) rfl <| Nn <| Rt <| Tr <| Ir <| Tr ?_
     obtain rfl := Option.some.inj hm
     exact ret_i []
    ·
     replace hm := cF hc17_7 hm
     refine AiF hc17_7 <| Sk <| Tk 0 0 ⟨tp 26 [], [.gone], 0⟩ <| Sx <| Wm (.s ([116, 114, 117, 101] : List UInt8)) rfl <| Nn <| Rt <| Ir <| Tr ?_
     obtain rfl := Option.some.inj hm
     exact ret_i []
   ·
    replace hm := cF hc13_6 hm
    refine AiF hc13_6 <| Sx <| Wz (.b (decide (((p0.Kind.toNat : Nat) : Int) = 3))) (Ob2 (.int .u8 ((p0.Kind.toNat : Nat) : Int)) (.int .u8 3) rfl (fun _ => hb_eql)) <| Wm (.b (decide (((p0.Kind.toNat : Nat) : Int) = 3))) rfl <| Nk 262146 1 ⟨tp 1 (.loc 0 0::tp 16 (.b (decide (((p0.Kind.toNat : Nat) : Int) = 3))::tp 7 [])), [(.box [(.y p0.Kind), (.i p0.N), (.u p0.Bits), (.s p0.Text)])], 0⟩ ?_
    rcases tf_ (decide (((p0.Kind.toNat : Nat) : Int) = 3)) with hc18_8 | hc18_8
    ·
     replace hm := cT hc18_8 hm
     refine AiT hc18_8 <| Sx <| Wz (.loc 0 2) (Ofa rfl) <| Wz (.u p0.Bits) (Old rfl) ?_
     obtain ⟨r22_2, hr22_2, hm⟩ := bnd hm
     refine Wz (.s r22_2) (Ocf [] [] [] 0 (ok_lex_bits p0.Bits r22_2 hr22_2) (fun a w => Try.call63 a w) rfl trivial) <| Wm (.s r22_2) rfl <| Nn <| Rt <| Ir <| Tr ?_
     obtain rfl := Option.some.inj hm
     exact ret_i []
    ·
     replace hm := cF hc18_8 hm
     refine AiF hc18_8 <| Sk <| Ino <| Tk 2 1 ⟨tp 1 (.loc 0 0::tp 24 []), [(.box [(.y p0.Kind), (.i p0.N), (.u p0.Bits), (.s p0.Text)])], 0⟩ <| Sx <| Wz (.loc 0 3) (Ofa rfl) <| Wz (.s p0.Text) (Old rfl) ?_
     obtain ⟨r25_3, hr25_3, hm⟩ := bnd hm
     refine Wz (.s r25_3) (Ocf [] [] [] 0 (ok_lex_text p0.Text r25_3 hr25_3) (fun a w => Try.call64 a w) rfl trivial) <| Wm (.s r25_3) rfl <| Nn <| Rt ?_
     obtain rfl := Option.some.inj hm
     exact ret_i []

theorem ok_pred_printer_tree : ∀ (fuR : Nat) (p0 : GTchecker) (r : ((List UInt8) × GTchecker)) (h : m_pred_printer_tree fuR p0 = some r), GCall Try.prog 60 [(.loc 0 0)] [(.box [(.l enc_GNode_ p0.l), (.i p0.at_)])] (.s r.1) [(.box [(.l enc_GNode_ r.2.l), (.i r.2.at_)])] := by
 intro fuR; induction fuR with
 | zero => intro p0 r h; exact absurd h (by unfold m_pred_printer_tree; simp)
 | succ fuR ih =>
 intro p0 r h
 refine GCall.of_body (n := 66) (rs := [(.tmp 2)]) Try.func60 rfl rfl rfl <| Ato ⟨.loc 0 0::tu 65 [], [(.box [(.l enc_GNode_ p0.l), (.i p0.at_)])], 1⟩ ?_
 have hm := h
 unfold m_pred_printer_tree at hm
 refine Sx <| Wm (.s ([] : List UInt8)) rfl <| Nk 1 1 ⟨.loc 0 0::tp 65 [], [(.box [(.l enc_GNode_ p0.l), (.i p0.at_)])], 1⟩ <| Sq <| Adr <| Wm (.loc 0 0) rfl <| Wz (.loc 0 0) (op_nilCheckLoc rfl (id := 0) (off := 0) (xs := [(.l enc_GNode_ p0.l), (.i p0.at_)]) (by kernel_rfl) (by kernel_rfl)) <| Wz (.loc 0 0) (Ofa rfl) <| Wz (.l enc_GNode_ p0.l) (Old rfl) <| Wm (.loc 0 0) rfl <| Wz (.loc 0 0) (op_nilCheckLoc rfl (id := 0) (off := 0) (xs := [(.l enc_GNode_ p0.l), (.i p0.at_)]) (by kernel_rfl) (by kernel_rfl)) <| Wz (.loc 0 1) (Ofa rfl) <| Wz (.i p0.at_) (Old rfl) ?_
 obtain ⟨x12_0, hx12_0, hm⟩ := bnd hm
 obtain ⟨hx12_0i, hx12_0g⟩ := geti_some hx12_0
 refine Wz (.d (.ref (List.drop ((Int.toNat p0.at_) * 8) (flatD enc_GNode_ p0.l)))) (Oia rfl enc_GNode__len hx12_0i hx12_0g) <| Wz (.agg [(.y x12_0.Kind), (.y x12_0.Op), (.s x12_0.Var), (.s x12_0.Name), (.y x12_0.Val.Kind), (.i x12_0.Val.N), (.u x12_0.Val.Bits), (.s x12_0.Val.Text)]) (Lf rfl enc_GNode__len hx12_0g) <| Wy (.loc 1 0) [(1, (.box [(.y 0), (.y 0), (.s ([] : List UInt8)), (.s ([] : List UInt8)), (.y 0), (.i 0), (.u 0), (.s ([] : List UInt8))]))] (Oal rfl) <| Wy (.tup []) [(1, (.box [(.y x12_0.Kind), (.y x12_0.Op), (.s x12_0.Var), (.s x12_0.Name), (.y x12_0.Val.Kind), (.i x12_0.Val.N), (.u x12_0.Val.Bits), (.s x12_0.Val.Text)]))] (Ost rfl) <| Wdr <| Tk 9 3 ⟨.loc 0 0::tp 2 (.loc 1 0::tp 62 []), [(.box [(.l enc_GNode_ p0.l), (.i p0.at_)]), (.box [(.y x12_0.Kind), (.y x12_0.Op), (.s x12_0.Var), (.s x12_0.Name), (.y x12_0.Val.Kind), (.i x12_0.Val.N), (.u x12_0.Val.Bits), (.s x12_0.Val.Text)])], 1⟩ <| Sx <| Wm (.loc 0 0) rfl <| Wz (.loc 0 0) (op_nilCheckLoc rfl (id := 0) (off := 0) (xs := [(.l enc_GNode_ p0.l), (.i p0.at_)]) (by kernel_rfl) (by kernel_rfl)) <| Wz (.loc 0 1) (Ofa rfl) <| Wz (.i p0.at_) (Old rfl) <| Wz (.i (W6 (p0.at_ + 1))) (Obn rfl (fun _ => hb_add (k := .i64))) <| Wz (.loc 0 0) (op_nilCheckLoc rfl (id := 0) (off := 0) (xs := [(.l enc_GNode_ p0.l), (.i p0.at_)]) (by kernel_rfl) (by kernel_rfl)) <| Wz (.loc 0 1) (Ofa rfl) ?_
 refine Wy (.tup []) [(0, (.box [(.l enc_GNode_ p0.l), (.i (W6 (p0.at_ + 1)))]))] (Ost rfl) <| Nk 9 3 ⟨.loc 0 0::tp 2 (.loc 1 0::tp 62 []), [(.box [(.l enc_GNode_ p0.l), (.i (W6 (p0.at_ + 1)))]), (.box [(.y x12_0.Kind), (.y x12_0.Op), (.s x12_0.Var), (.s x12_0.Name), (.y x12_0.Val.Kind), (.i x12_0.Val.N), (.u x12_0.Val.Bits), (.s x12_0.Val.Text)])], 1⟩ <| Sq <| Sx <| Wz (.loc 1 0) (Ofa rfl) <| Wz (.y x12_0.Kind) (Old rfl) <| Nk 4194313 3 ⟨.loc 0 0::tp 2 (.loc 1 0::tp 18 (.y x12_0.Kind::tp 43 [])), [(.box [(.l enc_GNode_ p0.l), (.i (W6 (p0.at_ + 1)))]), (.box [(.y x12_0.Kind), (.y x12_0.Op), (.s x12_0.Var), (.s x12_0.Name), (.y x12_0.Val.Kind), (.i x12_0.Val.N), (.u x12_0.Val.Bits), (.s x12_0.Val.Text)])], 1⟩ <| Bk <| Sx <| Wz (.b (decide (((x12_0.Kind.toNat : Nat) : Int) = 2))) (Ob2 (.int .u8 ((x12_0.Kind.toNat : Nat) : Int)) (.int .u8 2) rfl (fun _ => hb_eql)) <| Wm (.b (decide (((x12_0.Kind.toNat : Nat) : Int) = 2))) rfl <| Nk 12582921 3 ⟨.loc 0 0::tp 2 (.loc 1 0::tp 18 (.y x12_0.Kind::.b (decide (((x12_0.Kind.toNat : Nat) : Int) = 2))::tp 42 [])), [(.box [(.l enc_GNode_ p0.l), (.i (W6 (p0.at_ + 1)))]), (.box [(.y x12_0.Kind), (.y x12_0.Op), (.s x12_0.Var), (.s x12_0.Name), (.y x12_0.Val.Kind), (.i x12_0.Val.N), (.u x12_0.Val.Bits), (.s x12_0.Val.Text)])], 1⟩ ?_
 rcases tf_ (decide (((x12_0.Kind.toNat : Nat) : Int) = 2)) with hc23_9 | hc23_9
 ·
  replace hm := cT hc23_9 hm
  refine AiT hc23_9 <| Sx <| Wm (.loc 0 0) rfl ?_
  obtain ⟨r26_1, hr26_1, hm⟩ := bnd hm
  refine Wy (.s r26_1.1) [(0, (.box [(.l enc_GNode_ r26_1.2.l), (.i r26_1.2.at_)]))] (Ocf [0] [] [] 0 (ok_pred_printer_two (fun p0 => m_pred_printer_tree fuR p0) (fun p0 r h => ih p0 r h) (GTchecker.mk p0.l (W6 (p0.at_ + 1))) ([111, 114] : List UInt8) 1 2 r26_1 hr26_1) (fun a w => Try.call71 a w) rfl ⟨rfl, trivial⟩) <| Wm (.s r26_1.1) rfl <| Nn <| Rt <| Ir <| Tr ?_
  obtain rfl := Option.some.inj hm
  exact ret_i [0]
 ·
  replace hm := cF hc23_9 hm
  refine AiF hc23_9 <| Sx <| Wz (.b (decide (((x12_0.Kind.toNat : Nat) : Int) = 1))) (Ob2 (.int .u8 ((x12_0.Kind.toNat : Nat) : Int)) (.int .u8 1) rfl (fun _ => hb_eql)) <| Wm (.b (decide (((x12_0.Kind.toNat : Nat) : Int) = 1))) rfl <| Nk 138412041 3 ⟨.loc 0 0::tp 2 (.loc 1 0::tp 18 (.y x12_0.Kind::tp 4 (.b (decide (((x12_0.Kind.toNat : Nat) : Int) = 1))::tp 38 []))), [(.box [(.l enc_GNode_ p0.l), (.i (W6 (p0.at_ + 1)))]), (.box [(.y x12_0.Kind), (.y x12_0.Op), (.s x12_0.Var), (.s x12_0.Name), (.y x12_0.Val.Kind), (.i x12_0.Val.N), (.u x12_0.Val.Bits), (.s x12_0.Val.Text)])], 1⟩ ?_
  rcases tf_ (decide (((x12_0.Kind.toNat : Nat) : Int) = 1)) with hc27_10 | hc27_10
  ·
   replace hm := cT hc27_10 hm
   refine AiT hc27_10 <| Sx <| Wm (.loc 0 0) rfl ?_
   obtain ⟨r30_2, hr30_2, hm⟩ := bnd hm
   refine Wy (.s r30_2.1) [(0, (.box [(.l enc_GNode_ r30_2.2.l), (.i r30_2.2.at_)]))] (Ocf [0] [] [] 0 (ok_pred_printer_two (fun p0 => m_pred_printer_tree fuR p0) (fun p0 r h => ih p0 r h) (GTchecker.mk p0.l (W6 (p0.at_ + 1))) ([97, 110, 100] : List UInt8) 2 3 r30_2 hr30_2) (fun a w => Try.call71 a w) rfl ⟨rfl, trivial⟩) <| Wm (.s r30_2.1) rfl <| Nn <| Rt <| Ir <| Tr ?_
   obtain rfl := Option.some.inj hm
   exact ret_i [0]
  ·
   replace hm := cF hc27_10 hm
   refine AiF hc27_10 <| Sx <| Wz (.b (decide (((x12_0.Kind.toNat : Nat) : Int) = 3))) (Ob2 (.int .u8 ((x12_0.Kind.toNat : Nat) : Int)) (.int .u8 3) rfl (fun _ => hb_eql)) <| Wm (.b (decide (((x12_0.Kind.toNat : Nat) : Int) = 3))) rfl <| Nk 2151677961 3 ⟨.loc 0 0::tp 2 (.loc 1 0::tp 18 (.y x12_0.Kind::tp 8 (.b (decide (((x12_0.Kind.toNat : Nat) : Int) = 3))::tp 34 []))), [(.box [(.l enc_GNode_ p0.l), (.i (W6 (p0.at_ + 1)))]), (.box [(.y x12_0.Kind), (.y x12_0.Op), (.s x12_0.Var), (.s x12_0.Name), (.y x12_0.Val.Kind), (.i x12_0.Val.N), (.u x12_0.Val.Bits), (.s x12_0.Val.Text)])], 1⟩ ?_
   rcases tf_ (decide (((x12_0.Kind.toNat : Nat) : Int) = 3)) with hc31_11 | hc31_11
   ·
    replace hm := cT hc31_11 hm
    refine AiT hc31_11 <| Sx <| Wm (.loc 0 0) rfl ?_
    obtain ⟨r34_3, hr34_3, hm⟩ := bnd hm
    refine Wy (.s r34_3.1) [(0, (.box [(.l enc_GNode_ r34_3.2.l), (.i r34_3.2.at_)]))] (Ocf [0] [] [] 0 (ok_pred_printer_within (fun p0 => m_pred_printer_tree fuR p0) (fun p0 r h => ih p0 r h) (GTchecker.mk p0.l (W6 (p0.at_ + 1))) 3 r34_3 hr34_3) (fun a w => Try.call72 a w) rfl ⟨rfl, trivial⟩) ?_
    obtain ⟨t35_3, ht35_3, hm⟩ := bnd hm; obtain ⟨ht35_3e, ht35_3l⟩ := app_some ht35_3
    refine Wz (.s t35_3) (op_bin rfl (a1 := .string (toS ([110, 111, 116, 32] : List UInt8))) (a2 := .string (toS r34_3.1)) (by kernel_rfl) (by kernel_rfl) (fun _ => hb_sadd ht35_3e ht35_3l)) <| Wm (.s t35_3) rfl <| Nn <| Rt <| Ir <| Tr ?_
    obtain rfl := Option.some.inj hm
    exact ret_i [0]
   ·
    replace hm := cF hc31_11 hm
    refine AiF hc31_11 <| Sx <| Wz (.b (decide (((x12_0.Kind.toNat : Nat) : Int) = 4))) (Ob2 (.int .u8 ((x12_0.Kind.toNat : Nat) : Int)) (.int .u8 4) rfl (fun _ => hb_eql)) <| Wm (.b (decide (((x12_0.Kind.toNat : Nat) : Int) = 4))) rfl <| Nk 68723671049 3 ⟨.loc 0 0::tp 2 (.loc 1 0::tp 18 (.y x12_0.Kind::tp 13 (.b (decide (((x12_0.Kind.toNat : Nat) : Int) = 4))::tp 29 []))), [(.box [(.l enc_GNode_ p0.l), (.i (W6 (p0.at_ + 1)))]), (.box [(.y x12_0.Kind), (.y x12_0.Op), (.s x12_0.Var), (.s x12_0.Name), (.y x12_0.Val.Kind), (.i x12_0.Val.N), (.u x12_0.Val.Bits), (.s x12_0.Val.Text)])], 1⟩ ?_
    rcases tf_ (decide (((x12_0.Kind.toNat : Nat) : Int) = 4)) with hc36_12 | hc36_12
    ·
     replace hm := cT hc36_12 hm
     refine AiT hc36_12 <| Sx <| Wm (.loc 0 0) rfl <| Wz (.loc 1 1) (Ofa rfl) <| Wz (.y x12_0.Op) (Old rfl) ?_
     obtain ⟨r41_4, hr41_4, hm⟩ := bnd hm
     refine Wz (.s r41_4) (Ocf [] [] [] 0 (ok_compare_Sign x12_0.Op r41_4 hr41_4) (fun a w => Try.call73 a w) rfl trivial) ?_
     obtain ⟨r42_4, hr42_4, hm⟩ := bnd hm
     refine Wy (.s r42_4.1) [(0, (.box [(.l enc_GNode_ r42_4.2.l), (.i r42_4.2.at_)]))] (Ocf [0] [] [] 0 (ok_pred_printer_two (fun p0 => m_pred_printer_tree fuR p0) (fun p0 r h => ih p0 r h) (GTchecker.mk p0.l (W6 (p0.at_ + 1))) r41_4 0 0 r42_4 hr42_4) (fun a w => Try.call71 a w) rfl ⟨rfl, trivial⟩) <| Wm (.s r42_4.1) rfl <| Nn <| Rt <| Ir <| Tr ?_
     obtain rfl := Option.some.inj hm
     exact ret_i [0]
    ·
     replace hm := cF hc36_12 hm
     refine AiF hc36_12 <| Sx <| Wz (.b (decide (((x12_0.Kind.toNat : Nat) : Int) = 5))) (Ob2 (.int .u8 ((x12_0.Kind.toNat : Nat) : Int)) (.int .u8 5) rfl (fun _ => hb_eql)) <| Wm (.b (decide (((x12_0.Kind.toNat : Nat) : Int) = 5))) rfl <| Nk 8796097216521 3 ⟨.loc 0 0::tp 2 (.loc 1 0::tp 18 (.y x12_0.Kind::tp 20 (.b (decide (((x12_0.Kind.toNat : Nat) : Int) = 5))::tp 22 []))), [(.box [(.l enc_GNode_ p0.l), (.i (W6 (p0.at_ + 1)))]), (.box [(.y x12_0.Kind), (.y x12_0.Op), (.s x12_0.Var), (.s x12_0.Name), (.y x12_0.Val.Kind), (.i x12_0.Val.N), (.u x12_0.Val.Bits), (.s x12_0.Val.Text)])], 1⟩ ?_
     rcases tf_ (decide (((x12_0.Kind.toNat : Nat) : Int) = 5)) with hc43_13 | hc43_13
     ·
      replace hm := cT hc43_13 hm
      refine AiT hc43_13 <| Sx <| Wm (.loc 0 0) rfl ?_
      obtain ⟨r46_5, hr46_5, hm⟩ := bnd hm
      refine Wy (.s r46_5.1) [(0, (.box [(.l enc_GNode_ r46_5.2.l), (.i r46_5.2.at_)]))] (Ocf [0] [] [] 0 (ok_pred_printer_two (fun p0 => m_pred_printer_tree fuR p0) (fun p0 r h => ih p0 r h) (GTchecker.mk p0.l (W6 (p0.at_ + 1))) ([43] : List UInt8) 0 0 r46_5 hr46_5) (fun a w => Try.call71 a w) rfl ⟨rfl, trivial⟩) <| Wm (.s r46_5.1) rfl <| Nn <| Rt <| Ir <| Tr ?_
      obtain rfl := Option.some.inj hm
      exact ret_i [0]
     ·
      replace hm := cF hc43_13 hm
      refine AiF hc43_13 <| Sx <| Wz (.b (decide (((x12_0.Kind.toNat : Nat) : Int) = 6))) (Ob2 (.int .u8 ((x12_0.Kind.toNat : Nat) : Int)) (.int .u8 6) rfl (fun _ => hb_eql)) <| Wm (.b (decide (((x12_0.Kind.toNat : Nat) : Int) = 6))) rfl <| Nk 140737492549641 3 ⟨.loc 0 0::tp 2 (.loc 1 0::tp 18 (.y x12_0.Kind::tp 24 (.b (decide (((x12_0.Kind.toNat : Nat) : Int) = 6))::tp 18 []))), [(.box [(.l enc_GNode_ p0.l), (.i (W6 (p0.at_ + 1)))]), (.box [(.y x12_0.Kind), (.y x12_0.Op), (.s x12_0.Var), (.s x12_0.Name), (.y x12_0.Val.Kind), (.i x12_0.Val.N), (.u x12_0.Val.Bits), (.s x12_0.Val.Text)])], 1⟩ ?_
      rcases tf_ (decide (((x12_0.Kind.toNat : Nat) : Int) = 6)) with hc47_14 | hc47_14
      ·
       replace hm := cT hc47_14 hm
       refine AiT hc47_14 <| Sx <| Wm (.loc 0 0) rfl ?_
       obtain ⟨r50_6, hr50_6, hm⟩ := bnd hm
       refine Wy (.s r50_6.1) [(0, (.box [(.l enc_GNode_ r50_6.2.l), (.i r50_6.2.at_)]))] (Ocf [0] [] [] 0 (ok_pred_printer_two (fun p0 => m_pred_printer_tree fuR p0) (fun p0 r h => ih p0 r h) (GTchecker.mk p0.l (W6 (p0.at_ + 1))) ([45] : List UInt8) 0 0 r50_6 hr50_6) (fun a w => Try.call71 a w) rfl ⟨rfl, trivial⟩) <| Wm (.s r50_6.1) rfl <| Nn <| Rt <| Ir <| Tr ?_
       obtain rfl := Option.some.inj hm
       exact ret_i [0]
      ·
       replace hm := cF hc47_14 hm
       refine AiF hc47_14 <| Sx <| Wz (.b (decide (((x12_0.Kind.toNat : Nat) : Int) = 7))) (Ob2 (.int .u8 ((x12_0.Kind.toNat : Nat) : Int)) (.int .u8 7) rfl (fun _ => hb_eql)) <| Wm (.b (decide (((x12_0.Kind.toNat : Nat) : Int) = 7))) rfl <| Nk 2251799817879560 3 ⟨tp 3 (.loc 1 0::tp 18 (.y x12_0.Kind::tp 28 (.b (decide (((x12_0.Kind.toNat : Nat) : Int) = 7))::tp 14 []))), [(.box [(.l enc_GNode_ p0.l), (.i (W6 (p0.at_ + 1)))]), (.box [(.y x12_0.Kind), (.y x12_0.Op), (.s x12_0.Var), (.s x12_0.Name), (.y x12_0.Val.Kind), (.i x12_0.Val.N), (.u x12_0.Val.Bits), (.s x12_0.Val.Text)])], 1⟩ ?_
       rcases tf_ (decide (((x12_0.Kind.toNat : Nat) : Int) = 7)) with hc51_15 | hc51_15
       ·
        replace hm := cT hc51_15 hm
        refine AiT hc51_15 <| Sx <| Wz (.loc 1 3) (Ofa rfl) <| Wz (.s x12_0.Name) (Old rfl) <| Wm (.s x12_0.Name) rfl <| Nn <| Rt <| Ir <| Tr ?_
        obtain rfl := Option.some.inj hm
        exact ret_i [0]
       ·
        replace hm := cF hc51_15 hm
        refine AiF hc51_15 <| Sx <| Wz (.b (decide (((x12_0.Kind.toNat : Nat) : Int) = 8))) (Ob2 (.int .u8 ((x12_0.Kind.toNat : Nat) : Int)) (.int .u8 8) rfl (fun _ => hb_eql)) <| Wm (.b (decide (((x12_0.Kind.toNat : Nat) : Int) = 8))) rfl <| Nk 36028797018963976 3 ⟨tp 3 (.loc 1 0::tp 51 (.b (decide (((x12_0.Kind.toNat : Nat) : Int) = 8))::tp 10 [])), [(.box [(.l enc_GNode_ p0.l), (.i (W6 (p0.at_ + 1)))]), (.box [(.y x12_0.Kind), (.y x12_0.Op), (.s x12_0.Var), (.s x12_0.Name), (.y x12_0.Val.Kind), (.i x12_0.Val.N), (.u x12_0.Val.Bits), (.s x12_0.Val.Text)])], 1⟩ ?_
        rcases tf_ (decide (((x12_0.Kind.toNat : Nat) : Int) = 8)) with hc55_16 | hc55_16
        ·
         replace hm := cT hc55_16 hm
         refine AiT hc55_16 <| Sx <| Wz (.loc 1 2) (Ofa rfl) <| Wz (.s x12_0.Var) (Old rfl) ?_
         obtain ⟨t59_7, ht59_7, hm⟩ := bnd hm; obtain ⟨ht59_7e, ht59_7l⟩ := app_some ht59_7
         refine Wz (.s t59_7) (op_bin rfl (a1 := .string (toS x12_0.Var)) (a2 := .string (toS ([46] : List UInt8))) (by kernel_rfl) (by kernel_rfl) (fun _ => hb_sadd ht59_7e ht59_7l)) <| Wz (.loc 1 3) (Ofa rfl) <| Wz (.s x12_0.Name) (Old rfl) ?_
         obtain ⟨t62_7, ht62_7, hm⟩ := bnd hm; obtain ⟨ht62_7e, ht62_7l⟩ := app_some ht62_7
         refine Wz (.s t62_7) (op_bin rfl (a1 := .string (toS t59_7)) (a2 := .string (toS x12_0.Name)) (by kernel_rfl) (by kernel_rfl) (fun _ => hb_sadd ht62_7e ht62_7l)) <| Wm (.s t62_7) rfl <| Nn <| Rt <| Ir <| Tr ?_
         obtain rfl := Option.some.inj hm
         exact ret_i [0]
        ·
         replace hm := cF hc55_16 hm
         refine AiF hc55_16 <| Sk <| Ino <| Tk 8 3 ⟨tp 3 (.loc 1 0::tp 62 []), [(.box [(.l enc_GNode_ p0.l), (.i (W6 (p0.at_ + 1)))]), (.box [(.y x12_0.Kind), (.y x12_0.Op), (.s x12_0.Var), (.s x12_0.Name), (.y x12_0.Val.Kind), (.i x12_0.Val.N), (.u x12_0.Val.Bits), (.s x12_0.Val.Text)])], 1⟩ <| Sx <| Wz (.loc 1 4) (Ofa rfl) <| Wz (.agg [(.y x12_0.Val.Kind), (.i x12_0.Val.N), (.u x12_0.Val.Bits), (.s x12_0.Val.Text)]) (Old rfl) ?_
         obtain ⟨r65_8, hr65_8, hm⟩ := bnd hm
         refine Wz (.s r65_8) (Ocf [] [] [] 0 (ok_lex_Literal x12_0.Val r65_8 hr65_8) (fun a w => Try.call50 a w) rfl trivial) <| Wm (.s r65_8) rfl <| Nn <| Rt ?_
         obtain rfl := Option.some.inj hm
         exact ret_i [0]

theorem ok_pred_Print (p0 : (List GNode_)) (r : (List UInt8)) (h : m_pred_Print p0 = some r) : GCall Try.prog 49 [(.l enc_GNode_ p0)] [] (.s r) [] := by
 refine GCall.of_body (n := 17) (rs := [(.tmp 2)]) Try.func49 rfl rfl rfl <| Ato ⟨.l enc_GNode_ p0::tu 16 [], [], 0⟩ ?_
 have hm := h
 unfold m_pred_Print at hm
 refine Sx <| Wm (.s ([] : List UInt8)) rfl <| Nk 1 0 ⟨.l enc_GNode_ p0::tp 16 [], [], 0⟩ <| Sq <| Sx <| Wm (.l enc_GNode_ p0) rfl <| Wz (.i ((List.length p0 : Nat) : Int)) (Oln rfl) <| Wz (.b (decide (((List.length p0 : Nat) : Int) = 0))) (Obn rfl (fun _ => hb_eql (k := .i64))) ?_
 rcases tf_ (decide (((List.length p0 : Nat) : Int) = 0)) with hq7_0 | hq7_0
 ·
  replace hm := cT hq7_0 hm
  refine Wz (.b true) (Oq hq7_0 rfl) <| Wn <| Wn <| Wn <| Wz (.b true) (OpT rfl) <| Nk 2049 0 ⟨.l enc_GNode_ p0::tp 10 (.b true::tp 5 []), [], 0⟩ <| AWP.if_ true (by kernel_rfl) <| Sx <| Wm (.s ([] : List UInt8)) rfl <| Nn <| Rt <| Tr ?_
  obtain rfl := Option.some.inj hm
  exact ret_i []
 ·
  replace hm := cF hq7_0 hm
  refine Wz (.b false) (Oq hq7_0 rfl) <| Wm (.l enc_GNode_ p0) rfl ?_
  obtain ⟨r9_0, hr9_0, hm⟩ := bnd hm
  refine Wz (.i r9_0) (Ocf [] [] [] 0 (ok_pred_Check p0 r9_0 hr9_0) (fun a w => Try.call58 a w) rfl trivial) <| Wz (.b (decide (r9_0 ≠ 0))) (Obn rfl (fun _ => hb_neq (k := .i64))) <| Wz (.b (decide (r9_0 ≠ 0))) (OpF rfl) <| Nk 2049 0 ⟨.l enc_GNode_ p0::tp 10 (.b (decide (r9_0 ≠ 0))::tp 5 []), [], 0⟩ ?_
  rcases tf_ (decide (r9_0 ≠ 0)) with hc11_2 | hc11_2
  ·
   replace hm := cT hc11_2 hm
   refine AiT hc11_2 <| Sx <| Wm (.s ([] : List UInt8)) rfl <| Nn <| Rt <| Tr ?_
   obtain rfl := Option.some.inj hm
   exact ret_i []
  ·
   replace hm := cF hc11_2 hm
   refine AiF hc11_2 <| Sk <| Tk 1 0 ⟨.l enc_GNode_ p0::tp 16 [], [], 0⟩ <| Sx <| Wm (.l enc_GNode_ p0) rfl <| Wz (.agg [(.l enc_GNode_ p0), (.i 0)]) (Obd rfl) <| Wy (.loc 0 0) [(0, (.box [(.l enc_GNode_ p0), (.i 0)]))] (Obx rfl) <| Wm (.loc 0 0) rfl <| Nk 8 1 ⟨tp 3 (.loc 0 0::tp 13 []), [(.box [(.l enc_GNode_ p0), (.i 0)])], 0⟩ <| Sx <| Wm (.loc 0 0) rfl ?_
   obtain ⟨r16_1, hr16_1, hm⟩ := bnd hm
   refine Wy (.s r16_1.1) [(0, (.box [(.l enc_GNode_ r16_1.2.l), (.i r16_1.2.at_)]))] (Ocf [0] [] [] 0 (ok_pred_printer_tree 1152921504606846976 (GTchecker.mk p0 0) r16_1 hr16_1) (fun a w => Try.call60 a w) rfl ⟨rfl, trivial⟩) <| Wm (.s r16_1.1) rfl <| Nn <| Rt ?_
   obtain rfl := Option.some.inj hm
   exact ret_i []

theorem ok_shape_Node_text (p0 : GNode) (r : (List UInt8)) (h : m_shape_Node_text p0 = some r) : GCall Try.prog 31 [(.agg [(.y p0.Kind), (.i p0.Kids), (.i p0.Lo), (.i p0.Hi), (.s p0.Var), (.s p0.Type_), (.l enc_GNode_ p0.Test)])] [] (.s r) [] := by
 refine GCall.of_body (n := 27) (rs := [(.tmp 2)]) Try.func31 rfl rfl rfl <| Ato ⟨.agg [(.y p0.Kind), (.i p0.Kids), (.i p0.Lo), (.i p0.Hi), (.s p0.Var), (.s p0.Type_), (.l enc_GNode_ p0.Test)]::tu 26 [], [], 0⟩ ?_
 have hm := h
 unfold m_shape_Node_text at hm
 refine Sx <| Wy (.loc 0 0) [(0, (.box [(.y p0.Kind), (.i p0.Kids), (.i p0.Lo), (.i p0.Hi), (.s p0.Var), (.s p0.Type_), (.l enc_GNode_ p0.Test)]))] (Obx rfl) <| Wm (.s ([] : List UInt8)) rfl <| Nk 2 1 ⟨tp 1 (.loc 0 0::tp 25 []), [(.box [(.y p0.Kind), (.i p0.Kids), (.i p0.Lo), (.i p0.Hi), (.s p0.Var), (.s p0.Type_), (.l enc_GNode_ p0.Test)])], 0⟩ <| Sx <| Wz (.loc 0 4) (Ofa rfl) <| Wz (.s p0.Var) (Old rfl) ?_
 obtain ⟨t6_0, ht6_0, hm⟩ := bnd hm; obtain ⟨ht6_0e, ht6_0l⟩ := app_some ht6_0
 refine Wz (.s t6_0) (op_bin rfl (a1 := .string (toS p0.Var)) (a2 := .string (toS ([58] : List UInt8))) (by kernel_rfl) (by kernel_rfl) (fun _ => hb_sadd ht6_0e ht6_0l)) <| Wz (.loc 0 5) (Ofa rfl) <| Wz (.s p0.Type_) (Old rfl) ?_
 obtain ⟨t9_0, ht9_0, hm⟩ := bnd hm; obtain ⟨ht9_0e, ht9_0l⟩ := app_some ht9_0
 refine Wz (.s t9_0) (op_bin rfl (a1 := .string (toS t6_0)) (a2 := .string (toS p0.Type_)) (by kernel_rfl) (by kernel_rfl) (fun _ => hb_sadd ht9_0e ht9_0l)) <| Wm (.s t9_0) rfl <| Nk 10 1 ⟨tp 1 (.loc 0 0::tp 1 (.s t9_0::tp 23 [])), [(.box [(.y p0.Kind), (.i p0.Kids), (.i p0.Lo), (.i p0.Hi), (.s p0.Var), (.s p0.Type_), (.l enc_GNode_ p0.Test)])], 0⟩ ?_
 refine AWP.cutJ (α := (List UInt8)) (fun x => match x with | y3_2 => (⟨tp 1 (.loc 0 0::tp 1 (.s y3_2::tp 23 [])), [(.box [(.y p0.Kind), (.i p0.Kids), (.i p0.Lo), (.i p0.Hi), (.s p0.Var), (.s p0.Type_), (.l enc_GNode_ p0.Test)])], 0⟩ : St)) (fun x => match x with | y3_2 => m_shape_Node_text_j2 p0 y3_2 = some r) ?_ (fun J2 => ?_)
 ·
  rintro y3_2 hm
  try dsimp only at hm ⊢
  unfold m_shape_Node_text_j2 at hm
  refine Sq <| Sx <| Wz (.loc 0 6) (Ofa rfl) <| Wz (.l enc_GNode_ p0.Test) (Old rfl) <| Wz (.i ((List.length p0.Test : Nat) : Int)) (Oln rfl) <| Wz (.b (decide ((0 : Int) < ((List.length p0.Test : Nat) : Int)))) (Obn rfl (fun _ => hb_gtr (k := .i64))) <| Nk 262154 1 ⟨tp 1 (.loc 0 0::tp 1 (.s y3_2::tp 14 (.b (decide ((0 : Int) < ((List.length p0.Test : Nat) : Int)))::tp 8 []))), [(.box [(.y p0.Kind), (.i p0.Kids), (.i p0.Lo), (.i p0.Hi), (.s p0.Var), (.s p0.Type_), (.l enc_GNode_ p0.Test)])], 0⟩ ?_
  rcases tf_ (decide ((0 : Int) < ((List.length p0.Test : Nat) : Int))) with hc18_5 | hc18_5
  ·
   replace hm := cT hc18_5 hm
   refine AiT hc18_5 <| Tx <| Wm (.s y3_2) rfl <| Wz (.loc 0 6) (Ofa rfl) <| Wz (.l enc_GNode_ p0.Test) (Old rfl) ?_
   obtain ⟨r22_4, hr22_4, hm⟩ := bnd hm
   refine Wz (.s r22_4) (Ocf [] [] [] 0 (ok_pred_Print p0.Test r22_4 hr22_4) (fun a w => Try.call49 a w) rfl trivial) ?_
   obtain ⟨t23_4, ht23_4, hm⟩ := bnd hm; obtain ⟨ht23_4e, ht23_4l⟩ := app_some ht23_4
   refine Wz (.s t23_4) (op_bin rfl (a1 := .string (toS ([91] : List UInt8))) (a2 := .string (toS r22_4)) (by kernel_rfl) (by kernel_rfl) (fun _ => hb_sadd ht23_4e ht23_4l)) ?_
   obtain ⟨t24_4, ht24_4, hm⟩ := bnd hm; obtain ⟨ht24_4e, ht24_4l⟩ := app_some ht24_4
   refine Wz (.s t24_4) (op_bin rfl (a1 := .string (toS t23_4)) (a2 := .string (toS ([93] : List UInt8))) (by kernel_rfl) (by kernel_rfl) (fun _ => hb_sadd ht24_4e ht24_4l)) ?_
   obtain ⟨t25_4, ht25_4, hm⟩ := bnd hm; obtain ⟨ht25_4e, ht25_4l⟩ := app_some ht25_4
   refine Wz (.s t25_4) (op_bin rfl (a1 := .string (toS y3_2)) (a2 := .string (toS t24_4)) (by kernel_rfl) (by kernel_rfl) (fun _ => hb_sadd ht25_4e ht25_4l)) <| Wm (.s t25_4) rfl <| Nk 8 0 ⟨tp 3 (.s t25_4::tp 23 []), [.gone], 0⟩ <| Sx <| Wm (.s t25_4) rfl <| Wm (.s t25_4) rfl <| Nn <| Rt ?_
   obtain rfl := Option.some.inj hm
   exact ret_i []
  ·
   replace hm := cF hc18_5 hm
   refine AiF hc18_5 <| Sk <| Tk 8 0 ⟨tp 3 (.s y3_2::tp 23 []), [.gone], 0⟩ <| Sx <| Wm (.s y3_2) rfl <| Wm (.s y3_2) rfl <| Nn <| Rt ?_
   obtain rfl := Option.some.inj hm
   exact ret_i []
 refine Sq <| Sx <| Wz (.loc 0 0) (Ofa rfl) <| Wz (.y p0.Kind) (Old rfl) <| Wz (.b (decide (((p0.Kind.toNat : Nat) : Int) = 5))) (Ob2 (.int .u8 ((p0.Kind.toNat : Nat) : Int)) (.int .u8 5) rfl (fun _ => hb_eql)) <| Nk 4106 1 ⟨tp 1 (.loc 0 0::tp 1 (.s t9_0::tp 8 (.b (decide (((p0.Kind.toNat : Nat) : Int) = 5))::tp 14 []))), [(.box [(.y p0.Kind), (.i p0.Kids), (.i p0.Lo), (.i p0.Hi), (.s p0.Var), (.s p0.Type_), (.l enc_GNode_ p0.Test)])], 0⟩ ?_
 rcases tf_ (decide (((p0.Kind.toNat : Nat) : Int) = 5)) with hc12_6 | hc12_6
 ·
  replace hm := cT hc12_6 hm
  refine AiT hc12_6 <| Tx <| Wm (.s t9_0) rfl ?_
  obtain ⟨t14_1, ht14_1, hm⟩ := bnd hm; obtain ⟨ht14_1e, ht14_1l⟩ := app_some ht14_1
  refine Wz (.s t14_1) (op_bin rfl (a1 := .string (toS ([33] : List UInt8))) (a2 := .string (toS t9_0)) (by kernel_rfl) (by kernel_rfl) (fun _ => hb_sadd ht14_1e ht14_1l)) <| Wm (.s t14_1) rfl <| Nn ?_
  exact AWP.weak (Weak.toK 10 0 0 [0]) (J2 (t14_1) hm)
 ·
  replace hm := cF hc12_6 hm
  refine AiF hc12_6 <| Sk <| Tn ?_
  exact AWP.weak (Weak.toK 10 0 0 [0]) (J2 (t9_0) hm)

theorem ok_value_OfInt (p0 : Int) (r : GValue) (h : m_value_OfInt p0 = some r) : GCall Try.prog 51 [(.i p0)] [] (.agg [(.y r.Kind), (.i r.N), (.u r.Bits), (.s r.Text)]) [] := by
 refine GCall.of_body (n := 7) (rs := [(.cell 2 73)]) Try.func51 rfl rfl rfl <| Ato ⟨.i p0::tu 6 [], [], 0⟩ ?_
 have hm := h
 unfold m_value_OfInt at hm
 refine Sx <| Wy (.loc 0 0) [(0, (.box [(.y 0), (.i 0), (.u 0), (.s ([] : List UInt8))]))] (Oal rfl) <| Nk 5 1 ⟨.i p0::tp 1 (.loc 0 0::tp 4 []), [(.box [(.y 0), (.i 0), (.u 0), (.s ([] : List UInt8))])], 0⟩ <| Sx <| Wm (.i p0) rfl <| Wz (.i (min p0 4611686018427387904)) (op_bi2 rfl (a1 := .int .i64 p0) (a2 := .int .i64 4611686018427387904) (by kernel_rfl) (by kernel_rfl) hb_min) <| Wz (.i (max (-4611686018427387904) (min p0 4611686018427387904))) (op_bi2 rfl (a1 := .int .i64 (-4611686018427387904)) (a2 := .int .i64 (min p0 4611686018427387904)) (by kernel_rfl) (by kernel_rfl) hb_max) <| Wz (.agg [(.y 1), (.i (max (-4611686018427387904) (min p0 4611686018427387904))), (.u 0), (.s ([] : List UInt8))]) (Obd rfl) <| Wy (.tup []) [(0, (.box [(.y 1), (.i (max (-4611686018427387904) (min p0 4611686018427387904))), (.u 0), (.s ([] : List UInt8))]))] (Ost rfl) <| Nn <| Rt ?_
 obtain rfl := Option.some.inj hm
 exact ret_i []

theorem ok_shape_digits (p0 : Int) (r : (List UInt8)) (h : m_shape_digits p0 = some r) : GCall Try.prog 33 [(.i p0)] [] (.s r) [] := by
 refine GCall.of_body (n := 6) (rs := [(.tmp 2)]) Try.func33 rfl rfl rfl <| Ato ⟨.i p0::tu 5 [], [], 0⟩ ?_
 have hm := h
 unfold m_shape_digits at hm
 refine Sx <| Wm (.s ([] : List UInt8)) rfl <| Nk 1 0 ⟨.i p0::tp 5 [], [], 0⟩ <| Sx <| Wm (.i p0) rfl ?_
 obtain ⟨r4_0, hr4_0, hm⟩ := bnd hm
 refine Wz (.agg [(.y r4_0.Kind), (.i r4_0.N), (.u r4_0.Bits), (.s r4_0.Text)]) (Ocf [] [] [] 0 (ok_value_OfInt p0 r4_0 hr4_0) (fun a w => Try.call51 a w) rfl trivial) ?_
 obtain ⟨r5_0, hr5_0, hm⟩ := bnd hm
 refine Wz (.s r5_0) (Ocf [] [] [] 0 (ok_lex_Literal r4_0 r5_0 hr5_0) (fun a w => Try.call50 a w) rfl trivial) <| Wm (.s r5_0) rfl <| Nn <| Rt ?_
 obtain rfl := Option.some.inj hm
 exact ret_i []
end Go.Proofs.Ytdpmojhejidhiaa.K
