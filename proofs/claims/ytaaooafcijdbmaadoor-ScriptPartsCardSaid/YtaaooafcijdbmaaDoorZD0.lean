/- what telltalelaw37.ScriptParts needs (0) -/
import Derived.Test.YtaaooafcijdbmaaDoorZOC
set_option linter.unusedVariables false
set_option linter.unusedSimpArgs false
namespace Go.Proofs.YtaaooafcijdbmaaDoor.K
open Go.RowKit Go.Lib
set_option maxRecDepth 20000
set_option maxHeartbeats 4000000

theorem ok_w06_Over (p0 : (List GType)) (r : Int) (h : m_w06_Over p0 = some r) : GCall Tryd.prog 7 [(.l enc_GType p0)] [] (.i r) [] := by
 refine GCall.of_body (n := 51) (rs := [(.tmp 2)]) Tryd.func7 rfl rfl rfl <| Ato ⟨.l enc_GType p0::tu 50 [], [], 0⟩ ?_
 have hm := h
 unfold m_w06_Over at hm
 refine Sx <| Wm (.i 0) rfl <| Nk 1 0 ⟨.l enc_GType p0::tp 50 [], [], 0⟩ <| Sq <| Sx <| Wm (.l enc_GType p0) rfl <| Wz (.i ((List.length p0 : Nat) : Int)) (Oln rfl) <| Wz (.b (decide ((12 : Int) < ((List.length p0 : Nat) : Int)))) (Obn rfl (fun _ => hb_gtr (k := .i64))) <| Nk 129 0 ⟨.l enc_GType p0::tp 6 (.b (decide ((12 : Int) < ((List.length p0 : Nat) : Int)))::tp 43 []), [], 0⟩ ?_
 rcases tf_ (decide ((12 : Int) < ((List.length p0 : Nat) : Int))) with hc7_7 | hc7_7
 ·
  replace hm := cT hc7_7 hm
  refine AiT hc7_7 <| Sx <| Wm (.i 1) rfl <| Nn <| Rt <| Tr ?_
  obtain rfl := Option.some.inj hm
  exact ret_i []
 ·
  replace hm := cF hc7_7 hm
  refine AiF hc7_7 <| Sk <| Tk 1 0 ⟨.l enc_GType p0::tp 50 [], [], 0⟩ <| Sq <| Sx <| Wm (.i 0) rfl <| Nk 9 0 ⟨.l enc_GType p0::tp 2 (.i 0::tp 47 []), [], 0⟩ <| Bk ?_
  refine AWP.loopI (α := Nat × Int)
    (fun (fu_1, y3_1) => (⟨.l enc_GType p0::tp 2 (.i y3_1::tp 47 []), [], 0⟩ : St))
    (fun (fu_1, y3_1) => m_w06_Over_l1 p0 fu_1 y3_1 = some r)
    (fun (fu_1, y3_1) => fu_1) (1152921504606846976, 0)
    (Weak.toK 9 0 0 []) hm ?_
  rintro ⟨fu_1, y3_1⟩ n_1 hm ih_1
  try dsimp only at hm ih_1 ⊢
  cases fu_1 with
  | zero => exact absurd hm (by unfold m_w06_Over_l1; simp)
  | succ fu_1 =>
   unfold m_w06_Over_l1 at hm
   refine Sq <| Sx <| Wm (.i y3_1) rfl <| Wm (.l enc_GType p0) rfl <| Wz (.i ((List.length p0 : Nat) : Int)) (Oln rfl) <| Wz (.b (decide (y3_1 < ((List.length p0 : Nat) : Int)))) (Obn rfl (fun _ => hb_lss (k := .i64))) <| Nk 2057 0 ⟨.l enc_GType p0::tp 2 (.i y3_1::tp 7 (.b (decide (y3_1 < ((List.length p0 : Nat) : Int)))::tp 39 [])), [], 0⟩ ?_
   rcases tf_ (decide (y3_1 < ((List.length p0 : Nat) : Int))) with hc11_8 | hc11_8
   ·
    replace hm := cT hc11_8 hm
    refine AiT hc11_8 <| Sk <| Tk 9 0 ⟨.l enc_GType p0::tp 2 (.i y3_1::tp 47 []), [], 0⟩ <| Sq <| Bk <| Sq <| Sx <| Wm (.l enc_GType p0) rfl <| Wm (.i y3_1) rfl ?_
    obtain ⟨x16_3, hx16_3, hm⟩ := bnd hm
    obtain ⟨hx16_3i, hx16_3g⟩ := geti_some hx16_3
    refine Wz (.d (.ref (List.drop ((Int.toNat y3_1) * 2) (flatD enc_GType p0)))) (Oia rfl enc_GType_len hx16_3i hx16_3g) <| Wz (.d (.ref (List.drop ((Int.toNat y3_1) * 2) (flatD enc_GType p0)))) (Ofa rfl) <| Wz (.s x16_3.Name) (Lf1 rfl enc_GType_len hx16_3g) <| Wz (.i ((List.length x16_3.Name : Nat) : Int)) (Oln rfl) <| Wz (.b (decide ((40 : Int) < ((List.length x16_3.Name : Nat) : Int)))) (Obn rfl (fun _ => hb_gtr (k := .i64))) ?_
    rcases tf_ (decide ((40 : Int) < ((List.length x16_3.Name : Nat) : Int))) with hq21_3 | hq21_3
    ·
     replace hm := cT hq21_3 hm
     refine Wz (.b true) (Oq hq21_3 rfl) <| Wn <| Wn <| Wn <| Wn <| Wn <| Wn <| Wn <| Wz (.b true) (OpT rfl) <| Nk 536870921 0 ⟨.l enc_GType p0::tp 2 (.i y3_1::tp 25 (.b true::tp 21 [])), [], 0⟩ <| AWP.if_ true (by kernel_rfl) <| Sx <| Wm (.i 1) rfl <| Nn ?_
     refine Rt <| Tr <| Ir <| Tr <| RoundK.ret <| Ir <| Tr ?_
     obtain rfl := Option.some.inj hm
     exact ret_i []
    ·
     replace hm := cF hq21_3 hm
     refine Wz (.b false) (Oq hq21_3 rfl) <| Wm (.l enc_GType p0) rfl <| Wm (.i y3_1) rfl ?_
     obtain ⟨x24_3, hx24_3, hm⟩ := bnd hm
     obtain ⟨hx24_3i, hx24_3g⟩ := geti_some hx24_3
     refine Wz (.d (.ref (List.drop ((Int.toNat y3_1) * 2) (flatD enc_GType p0)))) (Oia rfl enc_GType_len hx24_3i hx24_3g) <| Wz (.d (.ref (List.drop 1 (List.drop ((Int.toNat y3_1) * 2) (flatD enc_GType p0))))) (Ofa rfl) <| Wz (.l enc_GField x24_3.Fields) (Lfk1 1 rfl enc_GType_len hx24_3g) <| Wz (.i ((List.length x24_3.Fields : Nat) : Int)) (Oln rfl) <| Wz (.b (decide ((12 : Int) < ((List.length x24_3.Fields : Nat) : Int)))) (Obn rfl (fun _ => hb_gtr (k := .i64))) <| Wz (.b (decide ((12 : Int) < ((List.length x24_3.Fields : Nat) : Int)))) (OpF rfl) <| Nk 536870921 0 ⟨.l enc_GType p0::tp 2 (.i y3_1::tp 25 (.b (decide ((12 : Int) < ((List.length x24_3.Fields : Nat) : Int)))::tp 21 [])), [], 0⟩ ?_
     rcases tf_ (decide ((12 : Int) < ((List.length x24_3.Fields : Nat) : Int))) with hc29_9 | hc29_9
     ·
      replace hm := cT hc29_9 hm
      refine AiT hc29_9 <| Sx <| Wm (.i 1) rfl <| Nn <| Rt <| Tr <| Ir <| Tr <| RoundK.ret <| Ir <| Tr ?_
      obtain rfl := Option.some.inj hm
      exact ret_i []
     ·
      replace hm := cF hc29_9 hm
      refine AiF hc29_9 <| Sk <| Tk 9 0 ⟨.l enc_GType p0::tp 2 (.i y3_1::tp 47 []), [], 0⟩ <| Sx <| Wm (.i 0) rfl <| Nk 25 0 ⟨.l enc_GType p0::tp 2 (.i y3_1::.i 0::tp 46 []), [], 0⟩ <| Bk ?_
      refine AWP.loopI (α := Nat × Int)
        (fun (fu_4, y4_4) => (⟨.l enc_GType p0::tp 2 (.i y3_1::.i y4_4::tp 46 []), [], 0⟩ : St))
        (fun (fu_4, y4_4) => m_w06_Over_l4 p0 y3_1 (fun y3_1 => m_w06_Over_l1 p0 fu_1 y3_1) fu_4 y4_4 = some r)
        (fun (fu_4, y4_4) => fu_4) (1152921504606846976, 0)
        (Weak.toK 25 0 0 []) hm ?_
      rintro ⟨fu_4, y4_4⟩ n_4 hm ih_4
      try dsimp only at hm ih_4 ⊢
      cases fu_4 with
      | zero => exact absurd hm (by unfold m_w06_Over_l4; simp)
      | succ fu_4 =>
       unfold m_w06_Over_l4 at hm
       refine Sq <| Sx <| Wm (.i y4_4) rfl <| Wm (.l enc_GType p0) rfl <| Wm (.i y3_1) rfl ?_
       obtain ⟨x33_5, hx33_5, hm⟩ := bnd hm
       obtain ⟨hx33_5i, hx33_5g⟩ := geti_some hx33_5
       refine Wz (.d (.ref (List.drop ((Int.toNat y3_1) * 2) (flatD enc_GType p0)))) (Oia rfl enc_GType_len hx33_5i hx33_5g) <| Wz (.d (.ref (List.drop 1 (List.drop ((Int.toNat y3_1) * 2) (flatD enc_GType p0))))) (Ofa rfl) <| Wz (.l enc_GField x33_5.Fields) (Lfk1 1 rfl enc_GType_len hx33_5g) <| Wz (.i ((List.length x33_5.Fields : Nat) : Int)) (Oln rfl) <| Wz (.b (decide (y4_4 < ((List.length x33_5.Fields : Nat) : Int)))) (Obn rfl (fun _ => hb_lss (k := .i64))) <| Nk 137438953497 0 ⟨.l enc_GType p0::tp 2 (.i y3_1::.i y4_4::tp 32 (.b (decide (y4_4 < ((List.length x33_5.Fields : Nat) : Int)))::tp 13 [])), [], 0⟩ ?_
       rcases tf_ (decide (y4_4 < ((List.length x33_5.Fields : Nat) : Int))) with hc37_10 | hc37_10
       ·
        replace hm := cT hc37_10 hm
        refine AiT hc37_10 <| Sk <| Tk 25 0 ⟨.l enc_GType p0::tp 2 (.i y3_1::.i y4_4::tp 46 []), [], 0⟩ <| Sq <| Bk <| Sx <| Wm (.l enc_GType p0) rfl <| Wm (.i y3_1) rfl ?_
        obtain ⟨x42_6, hx42_6, hm⟩ := bnd hm
        obtain ⟨hx42_6i, hx42_6g⟩ := geti_some hx42_6
        refine Wz (.d (.ref (List.drop ((Int.toNat y3_1) * 2) (flatD enc_GType p0)))) (Oia rfl enc_GType_len hx42_6i hx42_6g) <| Wz (.d (.ref (List.drop 1 (List.drop ((Int.toNat y3_1) * 2) (flatD enc_GType p0))))) (Ofa rfl) <| Wz (.l enc_GField x42_6.Fields) (Lfk1 1 rfl enc_GType_len hx42_6g) <| Wm (.i y4_4) rfl ?_
        obtain ⟨x46_6, hx46_6, hm⟩ := bnd hm
        obtain ⟨hx46_6i, hx46_6g⟩ := geti_some hx46_6
        refine Wz (.d (.ref (List.drop ((Int.toNat y4_4) * 2) (flatD enc_GField x42_6.Fields)))) (Oia rfl enc_GField_len hx46_6i hx46_6g) <| Wz (.d (.ref (List.drop ((Int.toNat y4_4) * 2) (flatD enc_GField x42_6.Fields)))) (Ofa rfl) <| Wz (.s x46_6.Name) (Lf1 rfl enc_GField_len hx46_6g) <| Wz (.i ((List.length x46_6.Name : Nat) : Int)) (Oln rfl) <| Wz (.b (decide ((40 : Int) < ((List.length x46_6.Name : Nat) : Int)))) (Obn rfl (fun _ => hb_gtr (k := .i64))) <| Nk 1125899906842649 0 ⟨.l enc_GType p0::tp 2 (.i y3_1::.i y4_4::tp 45 (.b (decide ((40 : Int) < ((List.length x46_6.Name : Nat) : Int)))::[])), [], 0⟩ ?_
        rcases tf_ (decide ((40 : Int) < ((List.length x46_6.Name : Nat) : Int))) with hc50_11 | hc50_11
        ·
         replace hm := cT hc50_11 hm
         refine AiT hc50_11 <| Sx <| Wm (.i 1) rfl <| Nn <| Rt <| Ir <| Tr <| RoundK.ret <| Ir <| Ir <| Tr <| RoundK.ret <| Ir <| Tr ?_
         obtain rfl := Option.some.inj hm
         exact ret_i []
        ·
         replace hm := cF hc50_11 hm
         refine AiF hc50_11 <| Sk <| Ino <| Tk 25 0 ⟨.l enc_GType p0::tp 2 (.i y3_1::.i y4_4::tp 46 []), [], 0⟩ <| Tx <| Wm (.i y4_4) rfl <| Wz (.i (W6 (y4_4 + 1))) (Obn rfl (fun _ => hb_add (k := .i64))) <| Wm (.i (W6 (y4_4 + 1))) rfl <| Wn0 <| RoundK.normal ?_
         exact Rounds.weak (Weak.toK 25 0 0 []) (ih_4 (fu_4, (W6 (y4_4 + 1))) hm (Nat.lt_succ_self _))
       ·
        replace hm := cF hc37_10 hm
        refine AiF hc37_10 <| AWP.exit <| Then.exit <| RoundK.exit <| InBlock.same <| Ino <| Tk 9 0 ⟨.l enc_GType p0::tp 2 (.i y3_1::tp 47 []), [], 0⟩ <| Tx <| Wm (.i y3_1) rfl <| Wz (.i (W6 (y3_1 + 1))) (Obn rfl (fun _ => hb_add (k := .i64))) <| Wm (.i (W6 (y3_1 + 1))) rfl <| Wn0 <| RoundK.normal ?_
        exact Rounds.weak (Weak.toK 9 0 0 []) (ih_1 (fu_1, (W6 (y3_1 + 1))) hm (Nat.lt_succ_self _))
   ·
    replace hm := cF hc11_8 hm
    refine AiF hc11_8 <| AWP.exit <| Then.exit <| RoundK.exit <| InBlock.same <| Tk 0 0 ⟨tp 51 [], [], 0⟩ <| Sx <| Wm (.i 0) rfl <| Nn <| Rt ?_
    obtain rfl := Option.some.inj hm
    exact ret_i []

theorem ok_w04_Small (p0 : GValue) (r : Int) (h : m_w04_Small p0 = some r) : GCall Tryd.prog 45 [(.agg [(.y p0.Kind), (.i p0.N), (.u p0.Bits), (.s p0.Text)])] [] (.i r) [] := by
 refine GCall.of_body (n := 8) (rs := [(.tmp 2)]) Tryd.func45 rfl rfl rfl <| Ato ⟨.agg [(.y p0.Kind), (.i p0.N), (.u p0.Bits), (.s p0.Text)]::tu 7 [], [], 0⟩ ?_
 have hm := h
 unfold m_w04_Small at hm
 refine Sx <| Wy (.loc 0 0) [(0, (.box [(.y p0.Kind), (.i p0.N), (.u p0.Bits), (.s p0.Text)]))] (Obx rfl) <| Wm (.i 0) rfl <| Nk 2 1 ⟨tp 1 (.loc 0 0::tp 6 []), [(.box [(.y p0.Kind), (.i p0.N), (.u p0.Bits), (.s p0.Text)])], 0⟩ <| Sx <| Wz (.loc 0 3) (Ofa rfl) <| Wz (.s p0.Text) (Old rfl) <| Wz (.i ((List.length p0.Text : Nat) : Int)) (Oln rfl) <| Wz (.i (W6 (((List.length p0.Text : Nat) : Int) - 100))) (Obn rfl (fun _ => hb_sub (k := .i64))) <| Wz (.i (max 0 (W6 (((List.length p0.Text : Nat) : Int) - 100)))) (op_bi2 rfl (a1 := .int .i64 0) (a2 := .int .i64 (W6 (((List.length p0.Text : Nat) : Int) - 100))) (by kernel_rfl) (by kernel_rfl) hb_max) <| Wm (.i (max 0 (W6 (((List.length p0.Text : Nat) : Int) - 100)))) rfl <| Nn <| Rt ?_
 obtain rfl := Option.some.inj hm
 exact ret_i []

theorem ok_w07_Over (p0 : (List GEvent)) (p1 : Int) (r : Int) (h : m_w07_Over p0 p1 = some r) : GCall Tryd.prog 24 [(.l enc_GEvent p0), (.i p1)] [] (.i r) [] := by
 refine GCall.of_body (n := 53) (rs := [(.tmp 4)]) Tryd.func24 rfl rfl rfl <| Ato ⟨.l enc_GEvent p0::.i p1::tu 51 [], [], 0⟩ ?_
 have hm := h
 unfold m_w07_Over at hm
 refine Sx <| Wm (.i 0) rfl <| Nk 3 0 ⟨.l enc_GEvent p0::.i p1::tp 51 [], [], 0⟩ <| Sq <| Sx <| Wm (.l enc_GEvent p0) rfl <| Wz (.i ((List.length p0 : Nat) : Int)) (Oln rfl) <| Wm (.i p1) rfl <| Wz (.b (decide (p1 < ((List.length p0 : Nat) : Int)))) (Obn rfl (fun _ => hb_gtr (k := .i64))) <| Nk 1025 0 ⟨.l enc_GEvent p0::tp 9 (.b (decide (p1 < ((List.length p0 : Nat) : Int)))::tp 42 []), [], 0⟩ ?_
 rcases tf_ (decide (p1 < ((List.length p0 : Nat) : Int))) with hc10_7 | hc10_7
 ·
  replace hm := cT hc10_7 hm
  refine AiT hc10_7 <| Sx <| Wm (.i 1) rfl <| Nn <| Rt <| Tr ?_
  obtain rfl := Option.some.inj hm
  exact ret_i []
 ·
  replace hm := cF hc10_7 hm
  refine AiF hc10_7 <| Sk <| Tk 1 0 ⟨.l enc_GEvent p0::tp 52 [], [], 0⟩ <| Sq <| Sx <| Wm (.i 0) rfl <| Nk 33 0 ⟨.l enc_GEvent p0::tp 4 (.i 0::tp 47 []), [], 0⟩ <| Bk ?_
  refine AWP.loopI (α := Nat × Int)
    (fun (fu_1, y5_1) => (⟨.l enc_GEvent p0::tp 4 (.i y5_1::tp 47 []), [], 0⟩ : St))
    (fun (fu_1, y5_1) => m_w07_Over_l1 p0 fu_1 y5_1 = some r)
    (fun (fu_1, y5_1) => fu_1) (1152921504606846976, 0)
    (Weak.toK 33 0 0 []) hm ?_
  rintro ⟨fu_1, y5_1⟩ n_1 hm ih_1
  try dsimp only at hm ih_1 ⊢
  cases fu_1 with
  | zero => exact absurd hm (by unfold m_w07_Over_l1; simp)
  | succ fu_1 =>
   unfold m_w07_Over_l1 at hm
   refine Sq <| Sx <| Wm (.i y5_1) rfl <| Wm (.l enc_GEvent p0) rfl <| Wz (.i ((List.length p0 : Nat) : Int)) (Oln rfl) <| Wz (.b (decide (y5_1 < ((List.length p0 : Nat) : Int)))) (Obn rfl (fun _ => hb_lss (k := .i64))) <| Nk 16417 0 ⟨.l enc_GEvent p0::tp 4 (.i y5_1::tp 8 (.b (decide (y5_1 < ((List.length p0 : Nat) : Int)))::tp 38 [])), [], 0⟩ ?_
   rcases tf_ (decide (y5_1 < ((List.length p0 : Nat) : Int))) with hc14_8 | hc14_8
   ·
    replace hm := cT hc14_8 hm
    refine AiT hc14_8 <| Sk <| Tk 33 0 ⟨.l enc_GEvent p0::tp 4 (.i y5_1::tp 47 []), [], 0⟩ <| Sq <| Bk <| Sq <| Sx <| Wm (.l enc_GEvent p0) rfl <| Wm (.i y5_1) rfl ?_
    obtain ⟨x19_3, hx19_3, hm⟩ := bnd hm
    obtain ⟨hx19_3i, hx19_3g⟩ := geti_some hx19_3
    refine Wz (.d (.ref (List.drop ((Int.toNat y5_1) * 5) (flatD enc_GEvent p0)))) (Oia rfl enc_GEvent_len hx19_3i hx19_3g) <| Wz (.d (.ref (List.drop 3 (List.drop ((Int.toNat y5_1) * 5) (flatD enc_GEvent p0))))) (Ofa rfl) <| Wz (.s x19_3.Type_) (Lfk1 3 rfl enc_GEvent_len hx19_3g) <| Wz (.i ((List.length x19_3.Type_ : Nat) : Int)) (Oln rfl) <| Wz (.b (decide ((40 : Int) < ((List.length x19_3.Type_ : Nat) : Int)))) (Obn rfl (fun _ => hb_gtr (k := .i64))) ?_
    rcases tf_ (decide ((40 : Int) < ((List.length x19_3.Type_ : Nat) : Int))) with hq24_3 | hq24_3
    ·
     replace hm := cT hq24_3 hm
     refine Wz (.b true) (Oq hq24_3 rfl) <| Wn <| Wn <| Wn <| Wn <| Wn <| Wn <| Wn <| Wz (.b true) (OpT rfl) <| Nk 4294967329 0 ⟨.l enc_GEvent p0::tp 4 (.i y5_1::tp 26 (.b true::tp 20 [])), [], 0⟩ <| AWP.if_ true (by kernel_rfl) <| Sx <| Wm (.i 1) rfl <| Nn ?_
     refine Rt <| Tr <| Ir <| Tr <| RoundK.ret <| Ir <| Tr ?_
     obtain rfl := Option.some.inj hm
     exact ret_i []
    ·
     replace hm := cF hq24_3 hm
     refine Wz (.b false) (Oq hq24_3 rfl) <| Wm (.l enc_GEvent p0) rfl <| Wm (.i y5_1) rfl ?_
     obtain ⟨x27_3, hx27_3, hm⟩ := bnd hm
     obtain ⟨hx27_3i, hx27_3g⟩ := geti_some hx27_3
     refine Wz (.d (.ref (List.drop ((Int.toNat y5_1) * 5) (flatD enc_GEvent p0)))) (Oia rfl enc_GEvent_len hx27_3i hx27_3g) <| Wz (.d (.ref (List.drop 4 (List.drop ((Int.toNat y5_1) * 5) (flatD enc_GEvent p0))))) (Ofa rfl) <| Wz (.l enc_GValue x27_3.Vals) (Lfk1 4 rfl enc_GEvent_len hx27_3g) <| Wz (.i ((List.length x27_3.Vals : Nat) : Int)) (Oln rfl) <| Wz (.b (decide ((12 : Int) < ((List.length x27_3.Vals : Nat) : Int)))) (Obn rfl (fun _ => hb_gtr (k := .i64))) <| Wz (.b (decide ((12 : Int) < ((List.length x27_3.Vals : Nat) : Int)))) (OpF rfl) <| Nk 4294967329 0 ⟨.l enc_GEvent p0::tp 4 (.i y5_1::tp 26 (.b (decide ((12 : Int) < ((List.length x27_3.Vals : Nat) : Int)))::tp 20 [])), [], 0⟩ ?_
     rcases tf_ (decide ((12 : Int) < ((List.length x27_3.Vals : Nat) : Int))) with hc32_9 | hc32_9
     ·
      replace hm := cT hc32_9 hm
      refine AiT hc32_9 <| Sx <| Wm (.i 1) rfl <| Nn <| Rt <| Tr <| Ir <| Tr <| RoundK.ret <| Ir <| Tr ?_
      obtain rfl := Option.some.inj hm
      exact ret_i []
     ·
      replace hm := cF hc32_9 hm
      refine AiF hc32_9 <| Sk <| Tk 33 0 ⟨.l enc_GEvent p0::tp 4 (.i y5_1::tp 47 []), [], 0⟩ <| Sx <| Wm (.i 0) rfl <| Nk 97 0 ⟨.l enc_GEvent p0::tp 4 (.i y5_1::.i 0::tp 46 []), [], 0⟩ <| Bk ?_
      refine AWP.loopI (α := Nat × Int)
        (fun (fu_4, y6_4) => (⟨.l enc_GEvent p0::tp 4 (.i y5_1::.i y6_4::tp 46 []), [], 0⟩ : St))
        (fun (fu_4, y6_4) => m_w07_Over_l4 p0 y5_1 (fun y5_1 => m_w07_Over_l1 p0 fu_1 y5_1) fu_4 y6_4 = some r)
        (fun (fu_4, y6_4) => fu_4) (1152921504606846976, 0)
        (Weak.toK 97 0 0 []) hm ?_
      rintro ⟨fu_4, y6_4⟩ n_4 hm ih_4
      try dsimp only at hm ih_4 ⊢
      cases fu_4 with
      | zero => exact absurd hm (by unfold m_w07_Over_l4; simp)
      | succ fu_4 =>
       unfold m_w07_Over_l4 at hm
       refine Sq <| Sx <| Wm (.i y6_4) rfl <| Wm (.l enc_GEvent p0) rfl <| Wm (.i y5_1) rfl ?_
       obtain ⟨x36_5, hx36_5, hm⟩ := bnd hm
       obtain ⟨hx36_5i, hx36_5g⟩ := geti_some hx36_5
       refine Wz (.d (.ref (List.drop ((Int.toNat y5_1) * 5) (flatD enc_GEvent p0)))) (Oia rfl enc_GEvent_len hx36_5i hx36_5g) <| Wz (.d (.ref (List.drop 4 (List.drop ((Int.toNat y5_1) * 5) (flatD enc_GEvent p0))))) (Ofa rfl) <| Wz (.l enc_GValue x36_5.Vals) (Lfk1 4 rfl enc_GEvent_len hx36_5g) <| Wz (.i ((List.length x36_5.Vals : Nat) : Int)) (Oln rfl) <| Wz (.b (decide (y6_4 < ((List.length x36_5.Vals : Nat) : Int)))) (Obn rfl (fun _ => hb_lss (k := .i64))) <| Nk 1099511627873 0 ⟨.l enc_GEvent p0::tp 4 (.i y5_1::.i y6_4::tp 33 (.b (decide (y6_4 < ((List.length x36_5.Vals : Nat) : Int)))::tp 12 [])), [], 0⟩ ?_
       rcases tf_ (decide (y6_4 < ((List.length x36_5.Vals : Nat) : Int))) with hc40_10 | hc40_10
       ·
        replace hm := cT hc40_10 hm
        refine AiT hc40_10 <| Sk <| Tk 97 0 ⟨.l enc_GEvent p0::tp 4 (.i y5_1::.i y6_4::tp 46 []), [], 0⟩ <| Sq <| Bk <| Sx <| Wm (.l enc_GEvent p0) rfl <| Wm (.i y5_1) rfl ?_
        obtain ⟨x45_6, hx45_6, hm⟩ := bnd hm
        obtain ⟨hx45_6i, hx45_6g⟩ := geti_some hx45_6
        refine Wz (.d (.ref (List.drop ((Int.toNat y5_1) * 5) (flatD enc_GEvent p0)))) (Oia rfl enc_GEvent_len hx45_6i hx45_6g) <| Wz (.d (.ref (List.drop 4 (List.drop ((Int.toNat y5_1) * 5) (flatD enc_GEvent p0))))) (Ofa rfl) <| Wz (.l enc_GValue x45_6.Vals) (Lfk1 4 rfl enc_GEvent_len hx45_6g) <| Wm (.i y6_4) rfl ?_
        obtain ⟨x49_6, hx49_6, hm⟩ := bnd hm
        obtain ⟨hx49_6i, hx49_6g⟩ := geti_some hx49_6
        refine Wz (.d (.ref (List.drop ((Int.toNat y6_4) * 4) (flatD enc_GValue x45_6.Vals)))) (Oia rfl enc_GValue_len hx49_6i hx49_6g) <| Wz (.agg [(.y x49_6.Kind), (.i x49_6.N), (.u x49_6.Bits), (.s x49_6.Text)]) (Lf rfl enc_GValue_len hx49_6g) ?_
        obtain ⟨r51_6, hr51_6, hm⟩ := bnd hm
        refine Wz (.i r51_6) (Ocf [] [] [] 0 (ok_w04_Small x49_6 r51_6 hr51_6) (fun a w => Tryd.call45 a w) rfl trivial) <| Wz (.b (decide ((0 : Int) < r51_6))) (Obn rfl (fun _ => hb_gtr (k := .i64))) <| Nk 4503599627370593 0 ⟨.l enc_GEvent p0::tp 4 (.i y5_1::.i y6_4::tp 45 (.b (decide ((0 : Int) < r51_6))::[])), [], 0⟩ ?_
        rcases tf_ (decide ((0 : Int) < r51_6)) with hc52_11 | hc52_11
        ·
         replace hm := cT hc52_11 hm
         refine AiT hc52_11 <| Sx <| Wm (.i 1) rfl <| Nn <| Rt <| Ir <| Tr <| RoundK.ret <| Ir <| Ir <| Tr <| RoundK.ret <| Ir <| Tr ?_
         obtain rfl := Option.some.inj hm
         exact ret_i []
        ·
         replace hm := cF hc52_11 hm
         refine AiF hc52_11 <| Sk <| Ino <| Tk 97 0 ⟨.l enc_GEvent p0::tp 4 (.i y5_1::.i y6_4::tp 46 []), [], 0⟩ <| Tx <| Wm (.i y6_4) rfl <| Wz (.i (W6 (y6_4 + 1))) (Obn rfl (fun _ => hb_add (k := .i64))) <| Wm (.i (W6 (y6_4 + 1))) rfl <| Wn0 <| RoundK.normal ?_
         exact Rounds.weak (Weak.toK 97 0 0 []) (ih_4 (fu_4, (W6 (y6_4 + 1))) hm (Nat.lt_succ_self _))
       ·
        replace hm := cF hc40_10 hm
        refine AiF hc40_10 <| AWP.exit <| Then.exit <| RoundK.exit <| InBlock.same <| Ino <| Tk 33 0 ⟨.l enc_GEvent p0::tp 4 (.i y5_1::tp 47 []), [], 0⟩ <| Tx <| Wm (.i y5_1) rfl <| Wz (.i (W6 (y5_1 + 1))) (Obn rfl (fun _ => hb_add (k := .i64))) <| Wm (.i (W6 (y5_1 + 1))) rfl <| Wn0 <| RoundK.normal ?_
        exact Rounds.weak (Weak.toK 33 0 0 []) (ih_1 (fu_1, (W6 (y5_1 + 1))) hm (Nat.lt_succ_self _))
   ·
    replace hm := cF hc14_8 hm
    refine AiF hc14_8 <| AWP.exit <| Then.exit <| RoundK.exit <| InBlock.same <| Tk 0 0 ⟨tp 53 [], [], 0⟩ <| Sx <| Wm (.i 0) rfl <| Nn <| Rt ?_
    obtain rfl := Option.some.inj hm
    exact ret_i []

theorem ok_w37_Over (p0 : (List GCommand)) (p1 : Int) (r : Int) (h : m_w37_Over p0 p1 = some r) : GCall Tryd.prog 8 [(.l enc_GCommand p0), (.i p1)] [] (.i r) [] := by
 refine GCall.of_body (n := 33) (rs := [(.tmp 4)]) Tryd.func8 rfl rfl rfl <| Ato ⟨.l enc_GCommand p0::.i p1::tu 31 [], [], 0⟩ ?_
 have hm := h
 unfold m_w37_Over at hm
 refine Sx <| Wm (.i 0) rfl <| Nk 3 0 ⟨.l enc_GCommand p0::.i p1::tp 31 [], [], 0⟩ <| Sq <| Sx <| Wm (.l enc_GCommand p0) rfl <| Wz (.i ((List.length p0 : Nat) : Int)) (Oln rfl) <| Wm (.i p1) rfl <| Wz (.b (decide (p1 < ((List.length p0 : Nat) : Int)))) (Obn rfl (fun _ => hb_gtr (k := .i64))) <| Nk 513 0 ⟨.l enc_GCommand p0::tp 8 (.b (decide (p1 < ((List.length p0 : Nat) : Int)))::tp 23 []), [], 0⟩ ?_
 rcases tf_ (decide (p1 < ((List.length p0 : Nat) : Int))) with hc9_4 | hc9_4
 ·
  replace hm := cT hc9_4 hm
  refine AiT hc9_4 <| Sx <| Wm (.i 1) rfl <| Nn <| Rt <| Tr ?_
  obtain rfl := Option.some.inj hm
  exact ret_i []
 ·
  replace hm := cF hc9_4 hm
  refine AiF hc9_4 <| Sk <| Tk 1 0 ⟨.l enc_GCommand p0::tp 32 [], [], 0⟩ <| Sq <| Sx <| Wm (.i 0) rfl <| Nk 33 0 ⟨.l enc_GCommand p0::tp 4 (.i 0::tp 27 []), [], 0⟩ <| Bk ?_
  refine AWP.loopI (α := Nat × Int)
    (fun (fu_1, y5_1) => (⟨.l enc_GCommand p0::tp 4 (.i y5_1::tp 27 []), [], 0⟩ : St))
    (fun (fu_1, y5_1) => m_w37_Over_l1 p0 fu_1 y5_1 = some r)
    (fun (fu_1, y5_1) => fu_1) (1152921504606846976, 0)
    (Weak.toK 33 0 0 []) hm ?_
  rintro ⟨fu_1, y5_1⟩ n_1 hm ih_1
  try dsimp only at hm ih_1 ⊢
  cases fu_1 with
  | zero => exact absurd hm (by unfold m_w37_Over_l1; simp)
  | succ fu_1 =>
   unfold m_w37_Over_l1 at hm
   refine Sq <| Sx <| Wm (.i y5_1) rfl <| Wm (.l enc_GCommand p0) rfl <| Wz (.i ((List.length p0 : Nat) : Int)) (Oln rfl) <| Wz (.b (decide (y5_1 < ((List.length p0 : Nat) : Int)))) (Obn rfl (fun _ => hb_lss (k := .i64))) <| Nk 8225 0 ⟨.l enc_GCommand p0::tp 4 (.i y5_1::tp 7 (.b (decide (y5_1 < ((List.length p0 : Nat) : Int)))::tp 19 [])), [], 0⟩ ?_
   rcases tf_ (decide (y5_1 < ((List.length p0 : Nat) : Int))) with hc13_5 | hc13_5
   ·
    replace hm := cT hc13_5 hm
    refine AiT hc13_5 <| Sk <| Tk 33 0 ⟨.l enc_GCommand p0::tp 4 (.i y5_1::tp 27 []), [], 0⟩ <| Sq <| Bk <| Sx <| Wm (.l enc_GCommand p0) rfl <| Wm (.i y5_1) rfl ?_
    obtain ⟨x18_3, hx18_3, hm⟩ := bnd hm
    obtain ⟨hx18_3i, hx18_3g⟩ := geti_some hx18_3
    refine Wz (.d (.ref (List.drop ((Int.toNat y5_1) * 9) (flatD enc_GCommand p0)))) (Oia rfl enc_GCommand_len hx18_3i hx18_3g) <| Wz (.d (.ref (List.drop 1 (List.drop ((Int.toNat y5_1) * 9) (flatD enc_GCommand p0))))) (Ofa rfl) <| Wz (.s x18_3.Text) (Lfk1 1 rfl enc_GCommand_len hx18_3g) <| Wz (.i ((List.length x18_3.Text : Nat) : Int)) (Oln rfl) <| Wz (.b (decide ((700 : Int) < ((List.length x18_3.Text : Nat) : Int)))) (Obn rfl (fun _ => hb_gtr (k := .i64))) ?_
    rcases tf_ (decide ((700 : Int) < ((List.length x18_3.Text : Nat) : Int))) with hq23_3 | hq23_3
    ·
     replace hm := cT hq23_3 hm
     refine Wz (.b true) (Oq hq23_3 rfl) <| Wn <| Wn <| Wn <| Wn <| Wn <| Wn <| Wn <| Wn <| Wz (.b true) (OpT rfl) <| Nk 4294967329 0 ⟨.l enc_GCommand p0::tp 4 (.i y5_1::tp 26 (.b true::[])), [], 0⟩ <| AWP.if_ true (by kernel_rfl) <| Sx <| Wm (.i 1) rfl ?_
     refine Nn <| Rt <| Ir <| Tr <| RoundK.ret <| Ir <| Tr ?_
     obtain rfl := Option.some.inj hm
     exact ret_i []
    ·
     replace hm := cF hq23_3 hm
     refine Wz (.b false) (Oq hq23_3 rfl) <| Wm (.l enc_GCommand p0) rfl <| Wm (.i y5_1) rfl ?_
     obtain ⟨x26_3, hx26_3, hm⟩ := bnd hm
     obtain ⟨hx26_3i, hx26_3g⟩ := geti_some hx26_3
     refine Wz (.d (.ref (List.drop ((Int.toNat y5_1) * 9) (flatD enc_GCommand p0)))) (Oia rfl enc_GCommand_len hx26_3i hx26_3g) <| Wz (.d (.ref (List.drop 4 (List.drop ((Int.toNat y5_1) * 9) (flatD enc_GCommand p0))))) (Ofa rfl) <| Wz (.agg [(.i x26_3.E.Time), (.i x26_3.E.Source), (.i x26_3.E.Seq), (.s x26_3.E.Type_), (.l enc_GValue x26_3.E.Vals)]) (Lfk 4 rfl enc_GCommand_len hx26_3g) <| Wy (.own 0) [(0, (Ar 44 5 enc_GEvent ([x26_3.E] : List GEvent)))] (Obs rfl) ?_
     obtain ⟨r30_3, hr30_3, hm⟩ := bnd hm
     refine Wz (.i r30_3) (Ocp [] [] [0] 0 (ok_w07_Over ([x26_3.E] : List GEvent) 1 r30_3 hr30_3) (plain_triv (by simp [A.Plain, A.Plains, D.Plain, byteD])) (fun a w => Tryd.call24 a w) rfl trivial) <| Wz (.b (decide ((0 : Int) < r30_3))) (Obn rfl (fun _ => hb_gtr (k := .i64))) <| Wz (.b (decide ((0 : Int) < r30_3))) (OpF rfl) <| Nk 4294967329 0 ⟨.l enc_GCommand p0::tp 4 (.i y5_1::tp 26 (.b (decide ((0 : Int) < r30_3))::[])), [.gone], 0⟩ ?_
     rcases tf_ (decide ((0 : Int) < r30_3)) with hc32_6 | hc32_6
     ·
      replace hm := cT hc32_6 hm
      refine AiT hc32_6 <| Sx <| Wm (.i 1) rfl <| Nn <| Rt <| Ir <| Tr <| RoundK.ret <| Ir <| Tr ?_
      obtain rfl := Option.some.inj hm
      exact ret_i []
     ·
      replace hm := cF hc32_6 hm
      refine AiF hc32_6 <| Sk <| Ino <| Tk 33 0 ⟨.l enc_GCommand p0::tp 4 (.i y5_1::tp 27 []), [.gone], 0⟩ <| Tx <| Wm (.i y5_1) rfl <| Wz (.i (W6 (y5_1 + 1))) (Obn rfl (fun _ => hb_add (k := .i64))) <| Wm (.i (W6 (y5_1 + 1))) rfl <| Wn0 <| RoundK.normal ?_
      exact Rounds.weak (Weak.toK 33 0 0 []) (ih_1 (fu_1, (W6 (y5_1 + 1))) hm (Nat.lt_succ_self _))
   ·
    replace hm := cF hc13_5 hm
    refine AiF hc13_5 <| AWP.exit <| Then.exit <| RoundK.exit <| InBlock.same <| Tk 0 0 ⟨tp 33 [], [], 0⟩ <| Sx <| Wm (.i 0) rfl <| Nn <| Rt ?_
    obtain rfl := Option.some.inj hm
    exact ret_i []

theorem ok_schema_letter (p0 : UInt8) (r : Bool) (h : m_schema_letter p0 = some r) : GCall Tryd.prog 100 [(.y p0)] [] (.b r) [] := by
 refine GCall.of_body (n := 9) (rs := [(.tmp 2)]) Tryd.func100 rfl rfl rfl <| Ato ⟨.y p0::tu 8 [], [], 0⟩ ?_
 have hm := h
 unfold m_schema_letter at hm
 refine Sx <| Wm (.b false) rfl <| Nk 1 0 ⟨.y p0::tp 8 [], [], 0⟩ <| Sx <| Wm (.y p0) rfl <| Wz (.b (decide ((97 : Int) ≤ ((p0.toNat : Nat) : Int)))) (Ob2 (.int .u8 97) (.int .u8 ((p0.toNat : Nat) : Int)) rfl (fun _ => hb_leq)) ?_
 rcases tf_ (decide ((97 : Int) ≤ ((p0.toNat : Nat) : Int))) with hq5_0 | hq5_0
 ·
  replace hm := cT hq5_0 hm
  refine Wz (.b true) (Oq hq5_0 rfl) <| Wm (.y p0) rfl <| Wz (.b (decide (((p0.toNat : Nat) : Int) ≤ 122))) (Ob2 (.int .u8 ((p0.toNat : Nat) : Int)) (.int .u8 122) rfl (fun _ => hb_leq)) <| Wz (.b (decide (((p0.toNat : Nat) : Int) ≤ 122))) (OpT rfl) <| Wm (.b (decide (((p0.toNat : Nat) : Int) ≤ 122))) rfl <| Nn <| Rt ?_
  obtain rfl := Option.some.inj hm
  exact ret_i []
 ·
  replace hm := cF hq5_0 hm
  refine Wz (.b false) (Oq hq5_0 rfl) <| Wn <| Wn <| Wz (.b false) (OpF rfl) <| Wm (.b false) rfl <| Nn <| Rt ?_
  obtain rfl := Option.some.inj hm
  exact ret_i []

theorem ok_schema_Reserved (p0 : (List UInt8)) (r : Bool) (h : m_schema_Reserved p0 = some r) : GCall Tryd.prog 101 [(.s p0)] [] (.b r) [] := by
 refine GCall.of_body (n := 15) (rs := [(.tmp 2)]) Tryd.func101 rfl rfl rfl <| Ato ⟨.s p0::tu 14 [], [], 0⟩ ?_
 have hm := h
 unfold m_schema_Reserved at hm
 refine Sx <| Wm (.b false) rfl <| Nk 1 0 ⟨.s p0::tp 14 [], [], 0⟩ <| Sq <| Sx <| Wm (.s p0) rfl <| Nk 8 0 ⟨tp 3 (.s p0::tp 11 []), [], 0⟩ <| Bk ?_
 refine AWP.cutJ (α := Bool) (fun x => match x with | y4_0 => (⟨tp 4 (.b y4_0::tp 10 []), [], 0⟩ : St)) (fun x => match x with | y4_0 => m_schema_Reserved_j0  y4_0 = some r) ?_ (fun J0 => ?_)
 ·
  rintro y4_0 hm
  try dsimp only at hm ⊢
  unfold m_schema_Reserved_j0 at hm
  rcases tf_ y4_0 with hc4_0 | hc4_0
  ·
   replace hm := cT hc4_0 hm
   refine AiT hc4_0 <| Sx <| Wm (.b true) rfl <| Nn <| Rt <| Ir <| Tr ?_
   obtain rfl := Option.some.inj hm
   exact ret_i []
  ·
   replace hm := cF hc4_0 hm
   refine AiF hc4_0 <| Sk <| Ino <| Tk 0 0 ⟨tp 15 [], [], 0⟩ <| Sx <| Wm (.b false) rfl <| Nn <| Rt ?_
   obtain rfl := Option.some.inj hm
   exact ret_i []
 refine Sq <| Sx <| Wz (.b (decide (p0 = ([119, 105, 116, 104, 105, 110] : List UInt8)))) (Ocs (lit_tf (by simp only [toS_inj, ne_eq])) (op_bin rfl (a1 := .string (toS p0)) (a2 := .string (toS ([119, 105, 116, 104, 105, 110] : List UInt8))) (by kernel_rfl) (by kernel_rfl) (fun _ => hb_seql))) <| Wm (.b (decide (p0 = ([119, 105, 116, 104, 105, 110] : List UInt8)))) rfl <| Nk 24 0 ⟨tp 3 (.s p0::.b (decide (p0 = ([119, 105, 116, 104, 105, 110] : List UInt8)))::tp 10 []), [], 0⟩ ?_
 rcases tf_ (decide (p0 = ([119, 105, 116, 104, 105, 110] : List UInt8))) with hc4_1 | hc4_1
 ·
  replace hm := cT hc4_1 hm
  refine AiT hc4_1 <| Sk <| Tn ?_
  exact AWP.weak (Weak.toK 16 0 0 []) (J0 (decide (p0 = ([119, 105, 116, 104, 105, 110] : List UInt8))) hm)
 ·
  replace hm := cF hc4_1 hm
  refine AiF hc4_1 <| Sx <| Wz (.b (decide (p0 = ([98, 121] : List UInt8)))) (Ocs (lit_tf (by simp only [toS_inj, ne_eq])) (op_bin rfl (a1 := .string (toS p0)) (a2 := .string (toS ([98, 121] : List UInt8))) (by kernel_rfl) (by kernel_rfl) (fun _ => hb_seql))) <| Wm (.b (decide (p0 = ([98, 121] : List UInt8)))) rfl <| Nk 24 0 ⟨tp 3 (.s p0::.b (decide (p0 = ([98, 121] : List UInt8)))::tp 10 []), [], 0⟩ ?_
  rcases tf_ (decide (p0 = ([98, 121] : List UInt8))) with hc4_2 | hc4_2
  ·
   replace hm := cT hc4_2 hm
   refine AiT hc4_2 <| Sk <| Tn ?_
   exact AWP.weak (Weak.toK 16 0 0 []) (J0 (decide (p0 = ([98, 121] : List UInt8))) hm)
  ·
   replace hm := cF hc4_2 hm
   refine AiF hc4_2 <| Sx <| Wz (.b (decide (p0 = ([97, 110, 100] : List UInt8)))) (Ocs (lit_tf (by simp only [toS_inj, ne_eq])) (op_bin rfl (a1 := .string (toS p0)) (a2 := .string (toS ([97, 110, 100] : List UInt8))) (by kernel_rfl) (by kernel_rfl) (fun _ => hb_seql))) <| Wm (.b (decide (p0 = ([97, 110, 100] : List UInt8)))) rfl <| Nk 24 0 ⟨tp 3 (.s p0::.b (decide (p0 = ([97, 110, 100] : List UInt8)))::tp 10 []), [], 0⟩ ?_
   rcases tf_ (decide (p0 = ([97, 110, 100] : List UInt8))) with hc4_3 | hc4_3
   ·
    replace hm := cT hc4_3 hm
    refine AiT hc4_3 <| Sk <| Tn ?_
    exact AWP.weak (Weak.toK 16 0 0 []) (J0 (decide (p0 = ([97, 110, 100] : List UInt8))) hm)
   ·
    replace hm := cF hc4_3 hm
    refine AiF hc4_3 <| Sx <| Wz (.b (decide (p0 = ([111, 114] : List UInt8)))) (Ocs (lit_tf (by simp only [toS_inj, ne_eq])) (op_bin rfl (a1 := .string (toS p0)) (a2 := .string (toS ([111, 114] : List UInt8))) (by kernel_rfl) (by kernel_rfl) (fun _ => hb_seql))) <| Wm (.b (decide (p0 = ([111, 114] : List UInt8)))) rfl <| Nk 24 0 ⟨tp 3 (.s p0::.b (decide (p0 = ([111, 114] : List UInt8)))::tp 10 []), [], 0⟩ ?_
    rcases tf_ (decide (p0 = ([111, 114] : List UInt8))) with hc4_4 | hc4_4
    ·
     replace hm := cT hc4_4 hm
     refine AiT hc4_4 <| Sk <| Tn ?_
     exact AWP.weak (Weak.toK 16 0 0 []) (J0 (decide (p0 = ([111, 114] : List UInt8))) hm)
    ·
     replace hm := cF hc4_4 hm
     refine AiF hc4_4 <| Sx <| Wz (.b (decide (p0 = ([110, 111, 116] : List UInt8)))) (Ocs (lit_tf (by simp only [toS_inj, ne_eq])) (op_bin rfl (a1 := .string (toS p0)) (a2 := .string (toS ([110, 111, 116] : List UInt8))) (by kernel_rfl) (by kernel_rfl) (fun _ => hb_seql))) <| Wm (.b (decide (p0 = ([110, 111, 116] : List UInt8)))) rfl <| Nk 24 0 ⟨tp 3 (.s p0::.b (decide (p0 = ([110, 111, 116] : List UInt8)))::tp 10 []), [], 0⟩ ?_
     rcases tf_ (decide (p0 = ([110, 111, 116] : List UInt8))) with hc4_5 | hc4_5
     ·
      replace hm := cT hc4_5 hm
      refine AiT hc4_5 <| Sk <| Tn ?_
      exact AWP.weak (Weak.toK 16 0 0 []) (J0 (decide (p0 = ([110, 111, 116] : List UInt8))) hm)
     ·
      replace hm := cF hc4_5 hm
      refine AiF hc4_5 <| Sx <| Wz (.b (decide (p0 = ([97, 110, 121] : List UInt8)))) (Ocs (lit_tf (by simp only [toS_inj, ne_eq])) (op_bin rfl (a1 := .string (toS p0)) (a2 := .string (toS ([97, 110, 121] : List UInt8))) (by kernel_rfl) (by kernel_rfl) (fun _ => hb_seql))) <| Wm (.b (decide (p0 = ([97, 110, 121] : List UInt8)))) rfl <| Nk 24 0 ⟨tp 3 (.s p0::.b (decide (p0 = ([97, 110, 121] : List UInt8)))::tp 10 []), [], 0⟩ ?_
      rcases tf_ (decide (p0 = ([97, 110, 121] : List UInt8))) with hc4_6 | hc4_6
      ·
       replace hm := cT hc4_6 hm
       refine AiT hc4_6 <| Sk <| Tn ?_
       exact AWP.weak (Weak.toK 16 0 0 []) (J0 (decide (p0 = ([97, 110, 121] : List UInt8))) hm)
      ·
       replace hm := cF hc4_6 hm
       refine AiF hc4_6 <| Sx <| Wz (.b (decide (p0 = ([110, 101, 120, 116] : List UInt8)))) (Ocs (lit_tf (by simp only [toS_inj, ne_eq])) (op_bin rfl (a1 := .string (toS p0)) (a2 := .string (toS ([110, 101, 120, 116] : List UInt8))) (by kernel_rfl) (by kernel_rfl) (fun _ => hb_seql))) <| Wm (.b (decide (p0 = ([110, 101, 120, 116] : List UInt8)))) rfl <| Nk 24 0 ⟨tp 3 (.s p0::.b (decide (p0 = ([110, 101, 120, 116] : List UInt8)))::tp 10 []), [], 0⟩ ?_
       rcases tf_ (decide (p0 = ([110, 101, 120, 116] : List UInt8))) with hc4_7 | hc4_7
       ·
        replace hm := cT hc4_7 hm
        refine AiT hc4_7 <| Sk <| Tn ?_
        exact AWP.weak (Weak.toK 16 0 0 []) (J0 (decide (p0 = ([110, 101, 120, 116] : List UInt8))) hm)
       ·
        replace hm := cF hc4_7 hm
        refine AiF hc4_7 <| Sx <| Wz (.b (decide (p0 = ([115, 116, 114, 105, 99, 116] : List UInt8)))) (Ocs (lit_tf (by simp only [toS_inj, ne_eq])) (op_bin rfl (a1 := .string (toS p0)) (a2 := .string (toS ([115, 116, 114, 105, 99, 116] : List UInt8))) (by kernel_rfl) (by kernel_rfl) (fun _ => hb_seql))) <| Wm (.b (decide (p0 = ([115, 116, 114, 105, 99, 116] : List UInt8)))) rfl <| Nk 24 0 ⟨tp 3 (.s p0::.b (decide (p0 = ([115, 116, 114, 105, 99, 116] : List UInt8)))::tp 10 []), [], 0⟩ ?_
        rcases tf_ (decide (p0 = ([115, 116, 114, 105, 99, 116] : List UInt8))) with hc4_8 | hc4_8
        ·
         replace hm := cT hc4_8 hm
         refine AiT hc4_8 <| Sk <| Tn ?_
         exact AWP.weak (Weak.toK 16 0 0 []) (J0 (decide (p0 = ([115, 116, 114, 105, 99, 116] : List UInt8))) hm)
        ·
         replace hm := cF hc4_8 hm
         refine AiF hc4_8 <| Sx <| Wz (.b (decide (p0 = ([116, 114, 117, 101] : List UInt8)))) (Ocs (lit_tf (by simp only [toS_inj, ne_eq])) (op_bin rfl (a1 := .string (toS p0)) (a2 := .string (toS ([116, 114, 117, 101] : List UInt8))) (by kernel_rfl) (by kernel_rfl) (fun _ => hb_seql))) <| Wm (.b (decide (p0 = ([116, 114, 117, 101] : List UInt8)))) rfl <| Nk 24 0 ⟨tp 3 (.s p0::.b (decide (p0 = ([116, 114, 117, 101] : List UInt8)))::tp 10 []), [], 0⟩ ?_
         rcases tf_ (decide (p0 = ([116, 114, 117, 101] : List UInt8))) with hc4_9 | hc4_9
         ·
          replace hm := cT hc4_9 hm
          refine AiT hc4_9 <| Sk <| Tn ?_
          exact AWP.weak (Weak.toK 16 0 0 []) (J0 (decide (p0 = ([116, 114, 117, 101] : List UInt8))) hm)
         ·
          replace hm := cF hc4_9 hm
          refine AiF hc4_9 <| Tx <| Wz (.b (decide (p0 = ([102, 97, 108, 115, 101] : List UInt8)))) (Ocs (lit_tf (by simp only [toS_inj, ne_eq])) (op_bin rfl (a1 := .string (toS p0)) (a2 := .string (toS ([102, 97, 108, 115, 101] : List UInt8))) (by kernel_rfl) (by kernel_rfl) (fun _ => hb_seql))) <| Wm (.b (decide (p0 = ([102, 97, 108, 115, 101] : List UInt8)))) rfl <| Nn ?_
          exact AWP.weak (Weak.toK 16 0 0 []) (J0 (decide (p0 = ([102, 97, 108, 115, 101] : List UInt8))) hm)

theorem ok_schema_tail (p0 : UInt8) (r : Bool) (h : m_schema_tail p0 = some r) : GCall Tryd.prog 102 [(.y p0)] [] (.b r) [] := by
 refine GCall.of_body (n := 17) (rs := [(.tmp 2)]) Tryd.func102 rfl rfl rfl <| Ato ⟨.y p0::tu 16 [], [], 0⟩ ?_
 have hm := h
 unfold m_schema_tail at hm
 refine Sx <| Wm (.b false) rfl <| Nk 1 0 ⟨.y p0::tp 16 [], [], 0⟩ <| Sx <| Wm (.y p0) rfl ?_
 obtain ⟨r4_0, hr4_0, hm⟩ := bnd hm
 refine Wz (.b r4_0) (Ocf [] [] [] 0 (ok_schema_letter p0 r4_0 hr4_0) (fun a w => Tryd.call100 a w) rfl trivial) ?_
 rcases tf_ r4_0 with hq5_0 | hq5_0
 ·
  replace hm := cT hq5_0 hm
  refine Wz (.b true) (Oq hq5_0 rfl) <| Wn <| Wn <| Wn <| Wn <| Wn <| Wn <| Wz (.b true) (OpT rfl) <| Wm (.b true) rfl <| Wn <| Wn <| Wz (.b true) (OpT rfl) <| Wm (.b true) rfl <| Nn ?_
  refine Rt ?_
  obtain rfl := Option.some.inj hm
  exact ret_i []
 ·
  replace hm := cF hq5_0 hm
  refine Wz (.b false) (Oq hq5_0 rfl) <| Wm (.y p0) rfl <| Wz (.b (decide ((48 : Int) ≤ ((p0.toNat : Nat) : Int)))) (Ob2 (.int .u8 48) (.int .u8 ((p0.toNat : Nat) : Int)) rfl (fun _ => hb_leq)) ?_
  rcases tf_ (decide ((48 : Int) ≤ ((p0.toNat : Nat) : Int))) with hq8_0 | hq8_0
  ·
   replace hm := cT hq8_0 hm
   refine Wz (.b true) (Oq hq8_0 rfl) <| Wm (.y p0) rfl <| Wz (.b (decide (((p0.toNat : Nat) : Int) ≤ 57))) (Ob2 (.int .u8 ((p0.toNat : Nat) : Int)) (.int .u8 57) rfl (fun _ => hb_leq)) <| Wz (.b (decide (((p0.toNat : Nat) : Int) ≤ 57))) (OpT rfl) <| Wz (.b (decide (((p0.toNat : Nat) : Int) ≤ 57))) (OpF rfl) ?_
   rcases tf_ (decide (((p0.toNat : Nat) : Int) ≤ 57)) with hq13_0 | hq13_0
   ·
    replace hm := cT hq13_0 hm
    refine Wz (.b true) (Oq hq13_0 rfl) <| Wn <| Wn <| Wz (.b true) (OpT rfl) <| Wm (.b true) rfl <| Nn <| Rt ?_
    obtain rfl := Option.some.inj hm
    exact ret_i []
   ·
    replace hm := cF hq13_0 hm
    refine Wz (.b false) (Oq hq13_0 rfl) <| Wm (.y p0) rfl <| Wz (.b (decide (((p0.toNat : Nat) : Int) = 95))) (Ob2 (.int .u8 ((p0.toNat : Nat) : Int)) (.int .u8 95) rfl (fun _ => hb_eql)) <| Wz (.b (decide (((p0.toNat : Nat) : Int) = 95))) (OpF rfl) <| Wm (.b (decide (((p0.toNat : Nat) : Int) = 95))) rfl <| Nn <| Rt ?_
    obtain rfl := Option.some.inj hm
    exact ret_i []
  ·
   replace hm := cF hq8_0 hm
   refine Wz (.b false) (Oq hq8_0 rfl) <| Wn <| Wn <| Wz (.b false) (OpF rfl) <| Wz (.b false) (OpF rfl) <| Wm (.b false) rfl <| Wm (.y p0) rfl <| Wz (.b (decide (((p0.toNat : Nat) : Int) = 95))) (Ob2 (.int .u8 ((p0.toNat : Nat) : Int)) (.int .u8 95) rfl (fun _ => hb_eql)) <| Wz (.b (decide (((p0.toNat : Nat) : Int) = 95))) (OpF rfl) <| Wm (.b (decide (((p0.toNat : Nat) : Int) = 95))) rfl <| Nn <| Rt ?_
   obtain rfl := Option.some.inj hm
   exact ret_i []

theorem ok_schema_Name (p0 : (List UInt8)) (r : Bool) (h : m_schema_Name p0 = some r) : GCall Tryd.prog 80 [(.s p0)] [] (.b r) [] := by
 refine GCall.of_body (n := 32) (rs := [(.tmp 2)]) Tryd.func80 rfl rfl rfl <| Ato ⟨.s p0::tu 31 [], [], 0⟩ ?_
 have hm := h
 unfold m_schema_Name at hm
 refine Sx <| Wm (.b false) rfl <| Nk 1 0 ⟨.s p0::tp 31 [], [], 0⟩ <| Sq ?_
 refine AWP.cutJ (α := Unit) (fun x => match x with | () => (⟨.s p0::tp 19 (.b true::tp 11 []), [], 0⟩ : St)) (fun x => match x with | () => m_schema_Name_j1  = some r) ?_ (fun J1 => ?_)
 ·
  rintro ⟨⟩ hm
  try dsimp only at hm ⊢
  unfold m_schema_Name_j1 at hm
  refine AWP.if_ true (by kernel_rfl) <| Sx <| Wm (.b false) rfl <| Nn <| Rt <| Tr ?_
  obtain rfl := Option.some.inj hm
  exact ret_i []
 refine Sx <| Wm (.s p0) rfl <| Wz (.b (decide (p0 = ([] : List UInt8)))) (Ocs (lit_tf (by simp only [toS_inj, ne_eq])) (op_bin rfl (a1 := .string (toS p0)) (a2 := .string (toS ([] : List UInt8))) (by kernel_rfl) (by kernel_rfl) (fun _ => hb_seql))) ?_
 rcases tf_ (decide (p0 = ([] : List UInt8))) with hq6_0 | hq6_0
 ·
  replace hm := cT hq6_0 hm
  refine Wz (.b true) (Oq hq6_0 rfl) <| Wn <| Wn <| Wn <| Wz (.b true) (OpT rfl) <| Wm (.b true) rfl <| Wn <| Wn <| Wn <| Wn <| Wz (.b true) (OpT rfl) <| Wm (.b true) rfl <| Wn <| Wn ?_
  refine Wz (.b true) (OpT rfl) <| Nn ?_
  exact AWP.weak (Weak.toK 1048577 0 0 []) (J1 () hm)
 ·
  replace hm := cF hq6_0 hm
  refine Wz (.b false) (Oq hq6_0 rfl) <| Wm (.s p0) rfl <| Wz (.i ((List.length p0 : Nat) : Int)) (Oln rfl) <| Wz (.b (decide ((12 : Int) < ((List.length p0 : Nat) : Int)))) (Obn rfl (fun _ => hb_gtr (k := .i64))) <| Wz (.b (decide ((12 : Int) < ((List.length p0 : Nat) : Int)))) (OpF rfl) ?_
  rcases tf_ (decide ((12 : Int) < ((List.length p0 : Nat) : Int))) with hq11_0 | hq11_0
  ·
   replace hm := cT hq11_0 hm
   refine Wz (.b true) (Oq hq11_0 rfl) <| Wn <| Wn <| Wn <| Wn <| Wz (.b true) (OpT rfl) <| Wm (.b true) rfl <| Wn <| Wn <| Wz (.b true) (OpT rfl) <| Nn ?_
   exact AWP.weak (Weak.toK 1048577 0 0 []) (J1 () hm)
  ·
   replace hm := cF hq11_0 hm
   refine Wz (.b false) (Oq hq11_0 rfl) <| Wm (.s p0) rfl ?_
   obtain ⟨x13_0, hx13_0, hm⟩ := bnd hm
   obtain ⟨hx13_0i, hx13_0g⟩ := geti_some hx13_0
   refine Wz (.y x13_0) (Ocs (by kernel_rfl) (op_index_str rfl (by kernel_rfl) (s := toS p0) (by kernel_rfl) (k := .i64) (iv := 0) (by kernel_rfl) (i := (Int.toNat 0)) (hx13_0i) (b := x13_0) (hx13_0g))) ?_
   obtain ⟨r14_0, hr14_0, hm⟩ := bnd hm
   refine Wz (.b r14_0) (Ocf [] [] [] 0 (ok_schema_letter x13_0 r14_0 hr14_0) (fun a w => Tryd.call100 a w) rfl trivial) <| Wz (.b (!r14_0)) (Ocs (by kernel_rfl) (op_un rfl (a1 := .bool r14_0) (by kernel_rfl) (fun _ => hu_not))) <| Wz (.b (!r14_0)) (OpF rfl) ?_
   rcases tf_ (!r14_0) with hq17_0 | hq17_0
   ·
    replace hm := cT hq17_0 hm
    refine Wz (.b true) (Oq hq17_0 rfl) <| Wn <| Wn <| Wz (.b true) (OpT rfl) <| Nn ?_
    exact AWP.weak (Weak.toK 1048577 0 0 []) (J1 () hm)
   ·
    replace hm := cF hq17_0 hm
    refine Wz (.b false) (Oq hq17_0 rfl) <| Wm (.s p0) rfl ?_
    obtain ⟨r19_0, hr19_0, hm⟩ := bnd hm
    refine Wz (.b r19_0) (Ocf [] [] [] 0 (ok_schema_Reserved p0 r19_0 hr19_0) (fun a w => Tryd.call101 a w) rfl trivial) <| Wz (.b r19_0) (OpF rfl) <| Nk 1048577 0 ⟨.s p0::tp 19 (.b r19_0::tp 11 []), [], 0⟩ ?_
    rcases tf_ r19_0 with hc20_5 | hc20_5
    ·
     replace hm := cT hc20_5 hm
     refine AiT hc20_5 <| Sx <| Wm (.b false) rfl <| Nn <| Rt <| Tr ?_
     obtain rfl := Option.some.inj hm
     exact ret_i []
    ·
     replace hm := cF hc20_5 hm
     refine AiF hc20_5 <| Sk <| Tk 1 0 ⟨.s p0::tp 31 [], [], 0⟩ <| Sq <| Sx <| Wm (.i 1) rfl <| Nk 9 0 ⟨.s p0::tp 2 (.i 1::tp 28 []), [], 0⟩ <| Bk ?_
     refine AWP.loopI (α := Nat × Int)
       (fun (fu_2, y3_2) => (⟨.s p0::tp 2 (.i y3_2::tp 28 []), [], 0⟩ : St))
       (fun (fu_2, y3_2) => m_schema_Name_l2 p0 fu_2 y3_2 = some r)
       (fun (fu_2, y3_2) => fu_2) (1152921504606846976, 1)
       (Weak.toK 9 0 0 []) hm ?_
     rintro ⟨fu_2, y3_2⟩ n_2 hm ih_2
     try dsimp only at hm ih_2 ⊢
     cases fu_2 with
     | zero => exact absurd hm (by unfold m_schema_Name_l2; simp)
     | succ fu_2 =>
      unfold m_schema_Name_l2 at hm
      refine Sq <| Sx <| Wm (.i y3_2) rfl <| Wm (.s p0) rfl <| Wz (.i ((List.length p0 : Nat) : Int)) (Oln rfl) <| Wz (.b (decide (y3_2 < ((List.length p0 : Nat) : Int)))) (Obn rfl (fun _ => hb_lss (k := .i64))) <| Nk 16777225 0 ⟨.s p0::tp 2 (.i y3_2::tp 20 (.b (decide (y3_2 < ((List.length p0 : Nat) : Int)))::tp 7 [])), [], 0⟩ ?_
      rcases tf_ (decide (y3_2 < ((List.length p0 : Nat) : Int))) with hc24_6 | hc24_6
      ·
       replace hm := cT hc24_6 hm
       refine AiT hc24_6 <| Sk <| Tk 9 0 ⟨.s p0::tp 2 (.i y3_2::tp 28 []), [], 0⟩ <| Sq <| Bk <| Sx <| Wm (.s p0) rfl <| Wm (.i y3_2) rfl ?_
       obtain ⟨x29_4, hx29_4, hm⟩ := bnd hm
       obtain ⟨hx29_4i, hx29_4g⟩ := geti_some hx29_4
       refine Wz (.y x29_4) (Ocs (by kernel_rfl) (op_index_str rfl (by kernel_rfl) (s := toS p0) (by kernel_rfl) (k := .i64) (iv := y3_2) (by kernel_rfl) (i := (Int.toNat y3_2)) (hx29_4i) (b := x29_4) (hx29_4g))) ?_
       obtain ⟨r30_4, hr30_4, hm⟩ := bnd hm
       refine Wz (.b r30_4) (Ocf [] [] [] 0 (ok_schema_tail x29_4 r30_4 hr30_4) (fun a w => Tryd.call102 a w) rfl trivial) <| Wz (.b (!r30_4)) (Ocs (by kernel_rfl) (op_un rfl (a1 := .bool r30_4) (by kernel_rfl) (fun _ => hu_not))) <| Nk 2147483657 0 ⟨.s p0::tp 2 (.i y3_2::tp 27 (.b (!r30_4)::[])), [], 0⟩ ?_
       rcases tf_ (!r30_4) with hc31_7 | hc31_7
       ·
        replace hm := cT hc31_7 hm
        refine AiT hc31_7 <| Sx <| Wm (.b false) rfl <| Nn <| Rt <| Ir <| Tr <| RoundK.ret <| Ir <| Tr ?_
        obtain rfl := Option.some.inj hm
        exact ret_i []
       ·
        replace hm := cF hc31_7 hm
        refine AiF hc31_7 <| Sk <| Ino <| Tk 9 0 ⟨.s p0::tp 2 (.i y3_2::tp 28 []), [], 0⟩ <| Tx <| Wm (.i y3_2) rfl <| Wz (.i (W6 (y3_2 + 1))) (Obn rfl (fun _ => hb_add (k := .i64))) <| Wm (.i (W6 (y3_2 + 1))) rfl <| Wn0 <| RoundK.normal ?_
        exact Rounds.weak (Weak.toK 9 0 0 []) (ih_2 (fu_2, (W6 (y3_2 + 1))) hm (Nat.lt_succ_self _))
      ·
       replace hm := cF hc24_6 hm
       refine AiF hc24_6 <| AWP.exit <| Then.exit <| RoundK.exit <| InBlock.same <| Tk 0 0 ⟨tp 32 [], [], 0⟩ <| Sx <| Wm (.b true) rfl <| Nn <| Rt ?_
       obtain rfl := Option.some.inj hm
       exact ret_i []

theorem ok_schema_Type_Field (p0 : GType) (p1 : (List UInt8)) (r : (Int × UInt8)) (h : m_schema_Type_Field p0 p1 = some r) : GCall Tryd.prog 81 [(.agg [(.s p0.Name), (.l enc_GField p0.Fields)]), (.s p1)] [] (.tup [(.i r.1), (.y r.2)]) [] := by
 refine GCall.of_body (n := 24) (rs := [(.tmp 4), (.tmp 5)]) Tryd.func81 rfl rfl rfl <| Ato ⟨.agg [(.s p0.Name), (.l enc_GField p0.Fields)]::.s p1::tu 22 [], [], 0⟩ ?_
 have hm := h
 unfold m_schema_Type_Field at hm
 refine Sx <| Wy (.loc 0 0) [(0, (.box [(.s p0.Name), (.l enc_GField p0.Fields)]))] (Obx rfl) <| Wm (.i 0) rfl <| Wm (.y 0) rfl <| Nk 6 1 ⟨tp 1 (.s p1::.loc 0 0::tp 21 []), [(.box [(.s p0.Name), (.l enc_GField p0.Fields)])], 0⟩ <| Sq <| Sx <| Wz (.loc 0 1) (Ofa rfl) <| Wz (.l enc_GField p0.Fields) (Old rfl) <| Wz (.i ((List.length p0.Fields : Nat) : Int)) (Oln rfl) <| Wm (.i 0) rfl <| Nk 3586 0 ⟨tp 1 (.s p1::tp 7 (.l enc_GField p0.Fields::.i ((List.length p0.Fields : Nat) : Int)::.i 0::tp 12 [])), [.gone], 0⟩ <| Bk ?_
 refine AWP.loopI (α := Nat × Int)
   (fun (fu_1, y11_1) => (⟨tp 1 (.s p1::tp 7 (.l enc_GField p0.Fields::.i ((List.length p0.Fields : Nat) : Int)::.i y11_1::tp 12 [])), [], 0⟩ : St))
   (fun (fu_1, y11_1) => m_schema_Type_Field_l1 p0 p1 fu_1 y11_1 = some r)
   (fun (fu_1, y11_1) => fu_1) (1152921504606846976, 0)
   (Weak.toK 3586 0 0 []) hm ?_
 rintro ⟨fu_1, y11_1⟩ n_1 hm ih_1
 try dsimp only at hm ih_1 ⊢
 cases fu_1 with
 | zero => exact absurd hm (by unfold m_schema_Type_Field_l1; simp)
 | succ fu_1 =>
  unfold m_schema_Type_Field_l1 at hm
  refine Sx <| Wz (.b (decide (y11_1 < ((List.length p0.Fields : Nat) : Int)))) (Obn rfl (fun _ => hb_lss (k := .i64))) <| Nk 7682 0 ⟨tp 1 (.s p1::tp 7 (.l enc_GField p0.Fields::.i ((List.length p0.Fields : Nat) : Int)::.i y11_1::.b (decide (y11_1 < ((List.length p0.Fields : Nat) : Int)))::tp 11 [])), [], 0⟩ <| Sq ?_
  rcases tf_ (decide (y11_1 < ((List.length p0.Fields : Nat) : Int))) with hc12_3 | hc12_3
  ·
   replace hm := cT hc12_3 hm
   refine AiT hc12_3 <| Sk <| Tk 3586 0 ⟨tp 1 (.s p1::tp 7 (.l enc_GField p0.Fields::.i ((List.length p0.Fields : Nat) : Int)::.i y11_1::tp 12 [])), [], 0⟩ <| Sq <| Bk <| Sx <| Wm (.i y11_1) rfl ?_
   obtain ⟨x14_2, hx14_2, hm⟩ := bnd hm
   obtain ⟨hx14_2i, hx14_2g⟩ := geti_some hx14_2
   refine Wz (.d (.ref (List.drop ((Int.toNat y11_1) * 2) (flatD enc_GField p0.Fields)))) (Oia rfl enc_GField_len hx14_2i hx14_2g) <| Wz (.agg [(.s x14_2.Name), (.y x14_2.Kind)]) (Lf rfl enc_GField_len hx14_2g) <| Wy (.loc 0 0) [(0, (.box [(.s ([] : List UInt8)), (.y 0)]))] (Oal rfl) <| Wm (.i y11_1) rfl <| Wy (.tup []) [(0, (.box [(.s x14_2.Name), (.y x14_2.Kind)]))] (Ost rfl) <| Nk 3778 1 ⟨tp 1 (.s p1::tp 4 (.i y11_1::.loc 0 0::tp 1 (.l enc_GField p0.Fields::.i ((List.length p0.Fields : Nat) : Int)::.i y11_1::tp 12 []))), [(.box [(.s x14_2.Name), (.y x14_2.Kind)])], 0⟩ <| Sx <| Wz (.loc 0 0) (Ofa rfl) <| Wz (.s x14_2.Name) (Old rfl) <| Wm (.s p1) rfl <| Wz (.b (decide (x14_2.Name = p1))) (Ocs (lit_tf (by simp only [toS_inj, ne_eq])) (op_bin rfl (a1 := .string (toS x14_2.Name)) (a2 := .string (toS p1)) (by kernel_rfl) (by kernel_rfl) (fun _ => hb_seql))) <| Nk 528066 1 ⟨tp 1 (.s p1::tp 4 (.i y11_1::.loc 0 0::tp 1 (.l enc_GField p0.Fields::.i ((List.length p0.Fields : Nat) : Int)::.i y11_1::tp 7 (.b (decide (x14_2.Name = p1))::tp 4 [])))), [(.box [(.s x14_2.Name), (.y x14_2.Kind)])], 0⟩ ?_
   rcases tf_ (decide (x14_2.Name = p1)) with hc19_4 | hc19_4
   ·
    replace hm := cT hc19_4 hm
    refine AiT hc19_4 <| Sq <| Adr <| Wm (.i y11_1) rfl <| Wz (.loc 0 1) (Ofa rfl) <| Wz (.y x14_2.Kind) (Old rfl) <| Wm (.i y11_1) rfl <| Wm (.y x14_2.Kind) rfl <| Wdr <| Tn <| Rt <| Ir <| Tr <| RoundK.ret ?_
    refine Ir <| Tr ?_
    obtain rfl := Option.some.inj hm
    exact ret_i []
   ·
    replace hm := cF hc19_4 hm
    refine AiF hc19_4 <| Sk <| Ino <| Tk 3586 0 ⟨tp 1 (.s p1::tp 7 (.l enc_GField p0.Fields::.i ((List.length p0.Fields : Nat) : Int)::.i y11_1::tp 12 [])), [.gone], 0⟩ <| Tx <| Wz (.i (W6 (y11_1 + 1))) (Obn rfl (fun _ => hb_add (k := .i64))) <| Wm (.i (W6 (y11_1 + 1))) rfl <| Wn0 <| RoundK.normal ?_
    exact Rounds.weak (Weak.toK 3586 0 0 []) (ih_1 (fu_1, (W6 (y11_1 + 1))) hm (Nat.lt_succ_self _))
  ·
   replace hm := cF hc12_3 hm
   refine AiF hc12_3 <| AWP.exit <| Then.exit <| RoundK.exit <| InBlock.same <| Tk 0 0 ⟨tp 24 [], [], 0⟩ <| Sx <| Wm (.i (-1)) rfl <| Wm (.y 0) rfl <| Nn <| Rt ?_
   obtain rfl := Option.some.inj hm
   exact ret_i []

theorem ok_value_Word (p0 : UInt8) (r : (List UInt8)) (h : m_value_Word p0 = some r) : GCall Tryd.prog 82 [(.y p0)] [] (.s r) [] := by
 refine GCall.of_body (n := 12) (rs := [(.tmp 2)]) Tryd.func82 rfl rfl rfl <| Ato ⟨.y p0::tu 11 [], [], 0⟩ ?_
 have hm := h
 unfold m_value_Word at hm
 refine Sx <| Wm (.s ([] : List UInt8)) rfl <| Nk 1 0 ⟨.y p0::tp 11 [], [], 0⟩ <| Sq <| Sx <| Wm (.y p0) rfl <| Nk 8 0 ⟨tp 3 (.y p0::tp 8 []), [], 0⟩ <| Bk <| Sx <| Wz (.b (decide (((p0.toNat : Nat) : Int) = 1))) (Ob2 (.int .u8 ((p0.toNat : Nat) : Int)) (.int .u8 1) rfl (fun _ => hb_eql)) <| Wm (.b (decide (((p0.toNat : Nat) : Int) = 1))) rfl <| Nk 24 0 ⟨tp 3 (.y p0::.b (decide (((p0.toNat : Nat) : Int) = 1))::tp 7 []), [], 0⟩ ?_
 rcases tf_ (decide (((p0.toNat : Nat) : Int) = 1)) with hc4_0 | hc4_0
 ·
  replace hm := cT hc4_0 hm
  refine AiT hc4_0 <| Sx <| Wm (.s ([105, 110, 116] : List UInt8)) rfl <| Nn <| Rt <| Ir <| Tr ?_
  obtain rfl := Option.some.inj hm
  exact ret_i []
 ·
  replace hm := cF hc4_0 hm
  refine AiF hc4_0 <| Sx <| Wz (.b (decide (((p0.toNat : Nat) : Int) = 2))) (Ob2 (.int .u8 ((p0.toNat : Nat) : Int)) (.int .u8 2) rfl (fun _ => hb_eql)) <| Wm (.b (decide (((p0.toNat : Nat) : Int) = 2))) rfl <| Nk 72 0 ⟨tp 3 (.y p0::tp 2 (.b (decide (((p0.toNat : Nat) : Int) = 2))::tp 5 [])), [], 0⟩ ?_
  rcases tf_ (decide (((p0.toNat : Nat) : Int) = 2)) with hc6_1 | hc6_1
  ·
   replace hm := cT hc6_1 hm
   refine AiT hc6_1 <| Sx <| Wm (.s ([102, 108, 97, 103] : List UInt8)) rfl <| Nn <| Rt <| Ir <| Tr ?_
   obtain rfl := Option.some.inj hm
   exact ret_i []
  ·
   replace hm := cF hc6_1 hm
   refine AiF hc6_1 <| Sx <| Wz (.b (decide (((p0.toNat : Nat) : Int) = 3))) (Ob2 (.int .u8 ((p0.toNat : Nat) : Int)) (.int .u8 3) rfl (fun _ => hb_eql)) <| Wm (.b (decide (((p0.toNat : Nat) : Int) = 3))) rfl <| Nk 264 0 ⟨tp 3 (.y p0::tp 4 (.b (decide (((p0.toNat : Nat) : Int) = 3))::tp 3 [])), [], 0⟩ ?_
   rcases tf_ (decide (((p0.toNat : Nat) : Int) = 3)) with hc8_2 | hc8_2
   ·
    replace hm := cT hc8_2 hm
    refine AiT hc8_2 <| Sx <| Wm (.s ([114, 101, 97, 108] : List UInt8)) rfl <| Nn <| Rt <| Ir <| Tr ?_
    obtain rfl := Option.some.inj hm
    exact ret_i []
   ·
    replace hm := cF hc8_2 hm
    refine AiF hc8_2 <| Sx <| Wz (.b (decide (((p0.toNat : Nat) : Int) = 4))) (Ob2 (.int .u8 ((p0.toNat : Nat) : Int)) (.int .u8 4) rfl (fun _ => hb_eql)) <| Wm (.b (decide (((p0.toNat : Nat) : Int) = 4))) rfl <| Nk 1024 0 ⟨tp 10 (.b (decide (((p0.toNat : Nat) : Int) = 4))::tp 1 []), [], 0⟩ ?_
    rcases tf_ (decide (((p0.toNat : Nat) : Int) = 4)) with hc10_3 | hc10_3
    ·
     replace hm := cT hc10_3 hm
     refine AiT hc10_3 <| Sx <| Wm (.s ([116, 101, 120, 116] : List UInt8)) rfl <| Nn <| Rt <| Ir <| Tr ?_
     obtain rfl := Option.some.inj hm
     exact ret_i []
    ·
     replace hm := cF hc10_3 hm
     refine AiF hc10_3 <| Sk <| Ino <| Tk 0 0 ⟨tp 12 [], [], 0⟩ <| Sx <| Wm (.s ([] : List UInt8)) rfl <| Nn <| Rt ?_
     obtain rfl := Option.some.inj hm
     exact ret_i []

theorem ok_schema_Type_check (p0 : GType) (r : Int) (h : m_schema_Type_check p0 = some r) : GCall Tryd.prog 58 [(.agg [(.s p0.Name), (.l enc_GField p0.Fields)])] [] (.i r) [] := by
 refine GCall.of_body (n := 45) (rs := [(.tmp 2)]) Tryd.func58 rfl rfl rfl <| Ato ⟨.agg [(.s p0.Name), (.l enc_GField p0.Fields)]::tu 44 [], [], 0⟩ ?_
 have hm := h
 unfold m_schema_Type_check at hm
 refine Sx <| Wy (.loc 0 0) [(0, (.box [(.s p0.Name), (.l enc_GField p0.Fields)]))] (Obx rfl) <| Wm (.i 0) rfl <| Nk 2 1 ⟨tp 1 (.loc 0 0::tp 43 []), [(.box [(.s p0.Name), (.l enc_GField p0.Fields)])], 0⟩ <| Sq <| Sx <| Wz (.loc 0 0) (Ofa rfl) <| Wz (.s p0.Name) (Old rfl) ?_
 obtain ⟨r9_0, hr9_0, hm⟩ := bnd hm
 refine Wz (.b r9_0) (Ocf [] [] [] 0 (ok_schema_Name p0.Name r9_0 hr9_0) (fun a w => Tryd.call80 a w) rfl trivial) <| Wz (.b (!r9_0)) (Ocs (by kernel_rfl) (op_un rfl (a1 := .bool r9_0) (by kernel_rfl) (fun _ => hu_not))) <| Nk 1026 1 ⟨tp 1 (.loc 0 0::tp 8 (.b (!r9_0)::tp 34 [])), [(.box [(.s p0.Name), (.l enc_GField p0.Fields)])], 0⟩ ?_
 rcases tf_ (!r9_0) with hc10_8 | hc10_8
 ·
  replace hm := cT hc10_8 hm
  refine AiT hc10_8 <| Sx <| Wm (.i 4) rfl <| Nn <| Rt <| Tr ?_
  obtain rfl := Option.some.inj hm
  exact ret_i []
 ·
  replace hm := cF hc10_8 hm
  refine AiF hc10_8 <| Sk <| Tk 2 1 ⟨tp 1 (.loc 0 0::tp 43 []), [(.box [(.s p0.Name), (.l enc_GField p0.Fields)])], 0⟩ <| Sq <| Sx <| Wz (.loc 0 1) (Ofa rfl) <| Wz (.l enc_GField p0.Fields) (Old rfl) <| Wz (.i ((List.length p0.Fields : Nat) : Int)) (Oln rfl) <| Wz (.b (decide ((6 : Int) < ((List.length p0.Fields : Nat) : Int)))) (Obn rfl (fun _ => hb_gtr (k := .i64))) <| Nk 16386 1 ⟨tp 1 (.loc 0 0::tp 12 (.b (decide ((6 : Int) < ((List.length p0.Fields : Nat) : Int)))::tp 30 [])), [(.box [(.s p0.Name), (.l enc_GField p0.Fields)])], 0⟩ ?_
  rcases tf_ (decide ((6 : Int) < ((List.length p0.Fields : Nat) : Int))) with hc14_9 | hc14_9
  ·
   replace hm := cT hc14_9 hm
   refine AiT hc14_9 <| Sx <| Wm (.i 5) rfl <| Nn <| Rt <| Tr ?_
   obtain rfl := Option.some.inj hm
   exact ret_i []
  ·
   replace hm := cF hc14_9 hm
   refine AiF hc14_9 <| Sk <| Tk 2 1 ⟨tp 1 (.loc 0 0::tp 43 []), [(.box [(.s p0.Name), (.l enc_GField p0.Fields)])], 0⟩ <| Sq <| Sx <| Wz (.loc 0 1) (Ofa rfl) <| Wz (.l enc_GField p0.Fields) (Old rfl) <| Wz (.i ((List.length p0.Fields : Nat) : Int)) (Oln rfl) <| Wm (.i 0) rfl <| Nk 458754 1 ⟨tp 1 (.loc 0 0::tp 14 (.l enc_GField p0.Fields::.i ((List.length p0.Fields : Nat) : Int)::.i 0::tp 26 [])), [(.box [(.s p0.Name), (.l enc_GField p0.Fields)])], 0⟩ <| Bk ?_
   refine AWP.loopI (α := Nat × Int)
     (fun (fu_3, y18_3) => (⟨tp 1 (.loc 0 0::tp 14 (.l enc_GField p0.Fields::.i ((List.length p0.Fields : Nat) : Int)::.i y18_3::tp 26 [])), [(.box [(.s p0.Name), (.l enc_GField p0.Fields)])], 0⟩ : St))
     (fun (fu_3, y18_3) => m_schema_Type_check_l3 p0 fu_3 y18_3 = some r)
     (fun (fu_3, y18_3) => fu_3) (1152921504606846976, 0)
     (Weak.toK 458754 0 0 [0]) hm ?_
   rintro ⟨fu_3, y18_3⟩ n_3 hm ih_3
   try dsimp only at hm ih_3 ⊢
   cases fu_3 with
   | zero => exact absurd hm (by unfold m_schema_Type_check_l3; simp)
   | succ fu_3 =>
    unfold m_schema_Type_check_l3 at hm
    refine Sx <| Wz (.b (decide (y18_3 < ((List.length p0.Fields : Nat) : Int)))) (Obn rfl (fun _ => hb_lss (k := .i64))) <| Nk 983042 1 ⟨tp 1 (.loc 0 0::tp 14 (.l enc_GField p0.Fields::.i ((List.length p0.Fields : Nat) : Int)::.i y18_3::.b (decide (y18_3 < ((List.length p0.Fields : Nat) : Int)))::tp 25 [])), [(.box [(.s p0.Name), (.l enc_GField p0.Fields)])], 0⟩ <| Sq ?_
    rcases tf_ (decide (y18_3 < ((List.length p0.Fields : Nat) : Int))) with hc19_10 | hc19_10
    ·
     replace hm := cT hc19_10 hm
     refine AiT hc19_10 <| Sk <| Tk 458754 1 ⟨tp 1 (.loc 0 0::tp 14 (.l enc_GField p0.Fields::.i ((List.length p0.Fields : Nat) : Int)::.i y18_3::tp 26 [])), [(.box [(.s p0.Name), (.l enc_GField p0.Fields)])], 0⟩ <| Sq <| Bk <| Sx <| Wm (.i y18_3) rfl ?_
     obtain ⟨x21_4, hx21_4, hm⟩ := bnd hm
     obtain ⟨hx21_4i, hx21_4g⟩ := geti_some hx21_4
     refine Wz (.d (.ref (List.drop ((Int.toNat y18_3) * 2) (flatD enc_GField p0.Fields)))) (Oia rfl enc_GField_len hx21_4i hx21_4g) <| Wz (.agg [(.s x21_4.Name), (.y x21_4.Kind)]) (Lf rfl enc_GField_len hx21_4g) <| Wy (.loc 1 0) [(1, (.box [(.s ([] : List UInt8)), (.y 0)]))] (Oal rfl) <| Wm (.i y18_3) rfl <| Wy (.tup []) [(1, (.box [(.s x21_4.Name), (.y x21_4.Kind)]))] (Ost rfl) <| Nk 458778 3 ⟨tp 1 (.loc 0 0::tp 1 (.i y18_3::.loc 1 0::tp 11 (.l enc_GField p0.Fields::.i ((List.length p0.Fields : Nat) : Int)::.i y18_3::tp 26 []))), [(.box [(.s p0.Name), (.l enc_GField p0.Fields)]), (.box [(.s x21_4.Name), (.y x21_4.Kind)])], 0⟩ <| Sx <| Wz (.agg [(.s p0.Name), (.l enc_GField p0.Fields)]) (Old rfl) <| Wz (.loc 1 0) (Ofa rfl) <| Wz (.s x21_4.Name) (Old rfl) ?_
     obtain ⟨r27_5, hr27_5, hm⟩ := bnd hm
     refine Wz (.tup [(.i r27_5.1), (.y r27_5.2)]) (Ocf [] [] [] 0 (ok_schema_Type_Field p0 x21_4.Name r27_5 hr27_5) (fun a w => Tryd.call81 a w) rfl trivial) <| Wm (.tup [(.i r27_5.1), (.y r27_5.2)]) rfl <| Wz (.i r27_5.1) (Oex rfl) <| Wz (.y r27_5.2) (Oex rfl) <| Wm (.i r27_5.1) rfl <| Wm (.y r27_5.2) rfl <| Nk 458810 3 ⟨tp 1 (.loc 0 0::tp 1 (.i y18_3::.loc 1 0::.i r27_5.1::tp 10 (.l enc_GField p0.Fields::.i ((List.length p0.Fields : Nat) : Int)::.i y18_3::tp 26 []))), [(.box [(.s p0.Name), (.l enc_GField p0.Fields)]), (.box [(.s x21_4.Name), (.y x21_4.Kind)])], 0⟩ <| Bk <| Sx <| Wz (.loc 1 0) (Ofa rfl) <| Wz (.s x21_4.Name) (Old rfl) ?_
     obtain ⟨r33_6, hr33_6, hm⟩ := bnd hm
     refine Wz (.b r33_6) (Ocf [] [] [] 0 (ok_schema_Name x21_4.Name r33_6 hr33_6) (fun a w => Tryd.call80 a w) rfl trivial) <| Wz (.b (!r33_6)) (Ocs (by kernel_rfl) (op_un rfl (a1 := .bool r33_6) (by kernel_rfl) (fun _ => hu_not))) <| Wm (.b (!r33_6)) rfl <| Nk 1074200634 3 ⟨tp 1 (.loc 0 0::tp 1 (.i y18_3::.loc 1 0::.i r27_5.1::tp 10 (.l enc_GField p0.Fields::.i ((List.length p0.Fields : Nat) : Int)::.i y18_3::tp 11 (.b (!r33_6)::tp 14 [])))), [(.box [(.s p0.Name), (.l enc_GField p0.Fields)]), (.box [(.s x21_4.Name), (.y x21_4.Kind)])], 0⟩ ?_
     rcases tf_ (!r33_6) with hc30_11 | hc30_11
     ·
      replace hm := cT hc30_11 hm
      refine AiT hc30_11 <| Sx <| Wm (.i 4) rfl <| Nn <| Rt <| Ir <| Ir <| Tr <| RoundK.ret <| Ir <| Tr ?_
      obtain rfl := Option.some.inj hm
      exact ret_i []
     ·
      replace hm := cF hc30_11 hm
      refine AiF hc30_11 <| Sx <| Wz (.loc 1 1) (Ofa rfl) <| Wz (.y x21_4.Kind) (Old rfl) ?_
      obtain ⟨r38_7, hr38_7, hm⟩ := bnd hm
      refine Wz (.s r38_7) (Ocf [] [] [] 0 (ok_value_Word x21_4.Kind r38_7 hr38_7) (fun a w => Tryd.call82 a w) rfl trivial) <| Wz (.b (decide (r38_7 = ([] : List UInt8)))) (Ocs (lit_tf (by simp only [toS_inj, ne_eq])) (op_bin rfl (a1 := .string (toS r38_7)) (a2 := .string (toS ([] : List UInt8))) (by kernel_rfl) (by kernel_rfl) (fun _ => hb_seql))) <| Wm (.b (decide (r38_7 = ([] : List UInt8)))) rfl <| Nk 34360197162 1 ⟨tp 1 (.loc 0 0::tp 1 (.i y18_3::tp 1 (.i r27_5.1::tp 10 (.l enc_GField p0.Fields::.i ((List.length p0.Fields : Nat) : Int)::.i y18_3::tp 16 (.b (decide (r38_7 = ([] : List UInt8)))::tp 9 []))))), [(.box [(.s p0.Name), (.l enc_GField p0.Fields)]), .gone], 0⟩ ?_
      rcases tf_ (decide (r38_7 = ([] : List UInt8))) with hc35_12 | hc35_12
      ·
       replace hm := cT hc35_12 hm
       refine AiT hc35_12 <| Sx <| Wm (.i 11) rfl <| Nn <| Rt <| Ir <| Ir <| Tr <| RoundK.ret <| Ir <| Tr ?_
       obtain rfl := Option.some.inj hm
       exact ret_i []
      ·
       replace hm := cF hc35_12 hm
       refine AiF hc35_12 <| Sx <| Wm (.i r27_5.1) rfl <| Wm (.i y18_3) rfl <| Wz (.b (decide (r27_5.1 ≠ y18_3))) (Obn rfl (fun _ => hb_neq (k := .i64))) <| Wm (.b (decide (r27_5.1 ≠ y18_3))) rfl <| Nk 1099512086530 1 ⟨tp 1 (.loc 0 0::tp 14 (.l enc_GField p0.Fields::.i ((List.length p0.Fields : Nat) : Int)::.i y18_3::tp 21 (.b (decide (r27_5.1 ≠ y18_3))::tp 4 []))), [(.box [(.s p0.Name), (.l enc_GField p0.Fields)]), .gone], 0⟩ ?_
       rcases tf_ (decide (r27_5.1 ≠ y18_3)) with hc40_13 | hc40_13
       ·
        replace hm := cT hc40_13 hm
        refine AiT hc40_13 <| Sx <| Wm (.i 21) rfl <| Nn <| Rt <| Ir <| Ir <| Tr <| RoundK.ret <| Ir <| Tr ?_
        obtain rfl := Option.some.inj hm
        exact ret_i []
       ·
        replace hm := cF hc40_13 hm
        refine AiF hc40_13 <| Sk <| Ino <| Ino <| Tk 458754 1 ⟨tp 1 (.loc 0 0::tp 14 (.l enc_GField p0.Fields::.i ((List.length p0.Fields : Nat) : Int)::.i y18_3::tp 26 [])), [(.box [(.s p0.Name), (.l enc_GField p0.Fields)]), .gone], 0⟩ <| Tx <| Wz (.i (W6 (y18_3 + 1))) (Obn rfl (fun _ => hb_add (k := .i64))) <| Wm (.i (W6 (y18_3 + 1))) rfl <| Wn0 <| RoundK.normal ?_
        exact Rounds.weak (Weak.toK 458754 0 0 [0]) (ih_3 (fu_3, (W6 (y18_3 + 1))) hm (Nat.lt_succ_self _))
    ·
     replace hm := cF hc19_10 hm
     refine AiF hc19_10 <| AWP.exit <| Then.exit <| RoundK.exit <| InBlock.same <| Tk 0 0 ⟨tp 45 [], [.gone], 0⟩ <| Sx <| Wm (.i 0) rfl <| Nn <| Rt ?_
     obtain rfl := Option.some.inj hm
     exact ret_i []

theorem ok_slices_Clone_Field (p0 : (List GField)) (r : (List GField)) (h : m_slices_Clone_Field p0 = some r) : GCall Tryd.prog 83 [(.l enc_GField p0)] [] (.own 0) [(Ar 75 2 enc_GField r)] := by
 refine GCall.of_body (n := 8) (rs := [(.tmp 2)]) Tryd.func83 rfl rfl rfl <| Ato ⟨.l enc_GField p0::tu 7 [], [], 0⟩ ?_
 have hm := h
 unfold m_slices_Clone_Field at hm
 refine Sx <| Wm (.d .nil) rfl <| Nk 1 0 ⟨.l enc_GField p0::tp 7 [], [], 0⟩ <| Sq <| Sx <| Wm (.l enc_GField p0) rfl <| Wz (.ab (List.length p0 = 0)) (op_eqnil rfl (e := 75) (by kernel_rfl) (ya := (.l enc_GField p0)) (by kernel_rfl) (ds := flatD enc_GField p0) (off := 0) (by kernel_rfl) (by kernel_rfl)) <| Nk 17 0 ⟨.l enc_GField p0::tp 3 (.ab (List.length p0 = 0)::tp 3 []), [], 0⟩ ?_
 refine AWP.condU (p := List.length p0 = 0) (by kernel_rfl) (fun hnil => ?_) ?_
 ·
  refine Sx <| Wm (.d .nil) rfl <| Nn <| Aow 2 75 2 ⟨.l enc_GField p0::tp 1 (.own 0::tp 1 (.ab (List.length p0 = 0)::tp 3 [])), [(Ar 75 2 enc_GField ([] : List GField))], 0⟩ <| Rt <| Tr ?_
  obtain rfl := nil_app hm (List.eq_nil_of_length_eq_zero hnil)
  exact ret_i [0]
 refine Sk <| Tk 1 0 ⟨.l enc_GField p0::tp 7 [], [], 0⟩ <| Sx <| Wy (.own 0) [(0, (Ar 75 2 enc_GField ([] : List GField)))] (Obs rfl) <| Wm (.l enc_GField p0) rfl ?_
 obtain ⟨a7_0, ha7_0, hm⟩ := bnd hm; obtain ⟨ha7_0e, ha7_0l⟩ := app_some ha7_0
 refine Wy (.own 1) [(0, .gone), (1, (Ar 75 2 enc_GField a7_0))] (Oap rfl elemOK_72 enc_GField_len ha7_0e ha7_0l) <| Wm (.own 1) rfl <| Nn <| Rt ?_
 obtain rfl := Option.some.inj hm
 exact ret_i [1]

theorem ok_schema_Find (p0 : (List GType)) (p1 : (List UInt8)) (r : (GType × Bool)) (h : m_schema_Find p0 p1 = some r) : GCall Tryd.prog 59 [(.l enc_GType p0), (.s p1)] [] (.tup [(.agg [(.s r.1.Name), (.own 0)]), (.b r.2)]) [(Ar 75 2 enc_GField r.1.Fields)] := by
 refine GCall.of_body (n := 25) (rs := [(.cell 4 74), (.tmp 5)]) Tryd.func59 rfl rfl rfl <| Ato ⟨.l enc_GType p0::.s p1::tu 23 [], [], 0⟩ ?_
 have hm := h
 unfold m_schema_Find at hm
 refine Sx <| Wy (.loc 0 0) [(0, (.box [(.s ([] : List UInt8)), (.d .nil)]))] (Oal rfl) <| Wm (.b false) rfl <| Nk 19 1 ⟨.l enc_GType p0::.s p1::tp 2 (.loc 0 0::tp 20 []), [(.box [(.s ([] : List UInt8)), (.d .nil)])], 0⟩ <| Sq <| Sx <| Wm (.l enc_GType p0) rfl <| Wz (.i ((List.length p0 : Nat) : Int)) (Oln rfl) <| Wm (.i 0) rfl <| Nk 1810 1 ⟨tp 1 (.s p1::tp 2 (.loc 0 0::tp 3 (.l enc_GType p0::.i ((List.length p0 : Nat) : Int)::.i 0::tp 14 []))), [(.box [(.s ([] : List UInt8)), (.d .nil)])], 0⟩ <| Bk ?_
 refine AWP.loopI (α := Nat × Int)
   (fun (fu_1, y10_1) => (⟨tp 1 (.s p1::tp 2 (.loc 0 0::tp 3 (.l enc_GType p0::.i ((List.length p0 : Nat) : Int)::.i y10_1::tp 14 []))), [(.box [(.s ([] : List UInt8)), (.d .nil)])], 0⟩ : St))
   (fun (fu_1, y10_1) => m_schema_Find_l1 p0 p1 fu_1 y10_1 = some r)
   (fun (fu_1, y10_1) => fu_1) (1152921504606846976, 0)
   (Weak.toK 1810 0 0 [0]) hm ?_
 rintro ⟨fu_1, y10_1⟩ n_1 hm ih_1
 try dsimp only at hm ih_1 ⊢
 cases fu_1 with
 | zero => exact absurd hm (by unfold m_schema_Find_l1; simp)
 | succ fu_1 =>
  unfold m_schema_Find_l1 at hm
  refine Sx <| Wz (.b (decide (y10_1 < ((List.length p0 : Nat) : Int)))) (Obn rfl (fun _ => hb_lss (k := .i64))) <| Nk 3858 1 ⟨tp 1 (.s p1::tp 2 (.loc 0 0::tp 3 (.l enc_GType p0::.i ((List.length p0 : Nat) : Int)::.i y10_1::.b (decide (y10_1 < ((List.length p0 : Nat) : Int)))::tp 13 []))), [(.box [(.s ([] : List UInt8)), (.d .nil)])], 0⟩ <| Sq ?_
  rcases tf_ (decide (y10_1 < ((List.length p0 : Nat) : Int))) with hc11_4 | hc11_4
  ·
   replace hm := cT hc11_4 hm
   refine AiT hc11_4 <| Sk <| Tk 1810 1 ⟨tp 1 (.s p1::tp 2 (.loc 0 0::tp 3 (.l enc_GType p0::.i ((List.length p0 : Nat) : Int)::.i y10_1::tp 14 []))), [(.box [(.s ([] : List UInt8)), (.d .nil)])], 0⟩ <| Sq <| Bk <| Sx ?_
   obtain ⟨x12_2, hx12_2, hm⟩ := bnd hm
   obtain ⟨hx12_2i, hx12_2g⟩ := geti_some hx12_2
   refine Wz (.d (.ref (List.drop ((Int.toNat y10_1) * 2) (flatD enc_GType p0)))) (Oia rfl enc_GType_len hx12_2i hx12_2g) <| Wz (.agg [(.s x12_2.Name), (.l enc_GField x12_2.Fields)]) (Lf rfl enc_GType_len hx12_2g) <| Wy (.loc 1 0) [(1, (.box [(.s ([] : List UInt8)), (.d .nil)]))] (Oal rfl) <| Wy (.tup []) [(1, (.box [(.s x12_2.Name), (.l enc_GField x12_2.Fields)]))] (Ost rfl) <| Nk 1938 3 ⟨tp 1 (.s p1::tp 2 (.loc 0 0::tp 2 (.loc 1 0::.l enc_GType p0::.i ((List.length p0 : Nat) : Int)::.i y10_1::tp 14 []))), [(.box [(.s ([] : List UInt8)), (.d .nil)]), (.box [(.s x12_2.Name), (.l enc_GField x12_2.Fields)])], 0⟩ <| Sx <| Wz (.loc 1 0) (Ofa rfl) <| Wz (.s x12_2.Name) (Old rfl) <| Wm (.s p1) rfl <| Wz (.b (decide (x12_2.Name = p1))) (Ocs (lit_tf (by simp only [toS_inj, ne_eq])) (op_bin rfl (a1 := .string (toS x12_2.Name)) (a2 := .string (toS p1)) (by kernel_rfl) (by kernel_rfl) (fun _ => hb_seql))) <| Nk 133010 3 ⟨tp 1 (.s p1::tp 2 (.loc 0 0::tp 2 (.loc 1 0::.l enc_GType p0::.i ((List.length p0 : Nat) : Int)::.i y10_1::tp 6 (.b (decide (x12_2.Name = p1))::tp 7 [])))), [(.box [(.s ([] : List UInt8)), (.d .nil)]), (.box [(.s x12_2.Name), (.l enc_GField x12_2.Fields)])], 0⟩ ?_
   rcases tf_ (decide (x12_2.Name = p1)) with hc17_5 | hc17_5
   ·
    replace hm := cT hc17_5 hm
    refine AiT hc17_5 <| Sx <| Wm (.s p1) rfl <| Wz (.loc 1 1) (Ofa rfl) <| Wz (.l enc_GField x12_2.Fields) (Old rfl) ?_
    obtain ⟨r21_3, hr21_3, hm⟩ := bnd hm
    refine Wy (.own 2) [(2, (Ar 75 2 enc_GField r21_3))] (Ocf [] [2] [] 0 (ok_slices_Clone_Field x12_2.Fields r21_3 hr21_3) (fun a w => Tryd.call83 a w) rfl trivial) <| Wz (.agg [(.s p1), (.own 2)]) (Obd rfl) <| Wy (.tup []) [(0, (.box [(.s p1), (.own 2)]))] (Ost rfl) <| Wm (.b true) rfl <| Nn <| Rt <| Ir <| Tr <| RoundK.ret <| Ir <| Tr ?_
    obtain rfl := Option.some.inj hm
    exact ret_i [2]
   ·
    replace hm := cF hc17_5 hm
    refine AiF hc17_5 <| Sk <| Ino <| Tk 1810 1 ⟨tp 1 (.s p1::tp 2 (.loc 0 0::tp 3 (.l enc_GType p0::.i ((List.length p0 : Nat) : Int)::.i y10_1::tp 14 []))), [(.box [(.s ([] : List UInt8)), (.d .nil)]), .gone], 0⟩ <| Tx <| Wz (.i (W6 (y10_1 + 1))) (Obn rfl (fun _ => hb_add (k := .i64))) <| Wm (.i (W6 (y10_1 + 1))) rfl <| Wn0 <| RoundK.normal ?_
    exact Rounds.weak (Weak.toK 1810 0 0 [0]) (ih_1 (fu_1, (W6 (y10_1 + 1))) hm (Nat.lt_succ_self _))
  ·
   replace hm := cF hc11_4 hm
   refine AiF hc11_4 <| AWP.exit <| Then.exit <| RoundK.exit <| InBlock.same <| Tk 16 1 ⟨tp 4 (.loc 0 0::tp 20 []), [(.box [(.s ([] : List UInt8)), (.d .nil)])], 0⟩ <| Sx <| Wz (.agg [(.s ([] : List UInt8)), (.d .nil)]) (Obd rfl) <| Wy (.tup []) [(0, (.box [(.s ([] : List UInt8)), (.d .nil)]))] (Ost rfl) <| Wm (.b false) rfl <| Nn <| Aob 0 1 75 2 ⟨tp 4 (.loc 0 0::.b false::tp 18 (.agg [(.s ([] : List UInt8)), (.d .nil)]::[])), [(.box [(.s ([] : List UInt8)), (.own 1)]), (Ar 75 2 enc_GField ([] : List GField))], 0⟩ <| Rt ?_
   obtain rfl := Option.some.inj hm
   exact ret_i [1]

theorem ok_schema_Check (p0 : (List GType)) (r : Int) (h : m_schema_Check p0 = some r) : GCall Tryd.prog 34 [(.l enc_GType p0)] [] (.i r) [] := by
 refine GCall.of_body (n := 34) (rs := [(.tmp 2)]) Tryd.func34 rfl rfl rfl <| Ato ⟨.l enc_GType p0::tu 33 [], [], 0⟩ ?_
 have hm := h
 unfold m_schema_Check at hm
 refine Sx <| Wm (.i 0) rfl <| Nk 1 0 ⟨.l enc_GType p0::tp 33 [], [], 0⟩ <| Sq <| Sx <| Wm (.l enc_GType p0) rfl <| Wz (.i ((List.length p0 : Nat) : Int)) (Oln rfl) <| Wz (.b (decide ((8 : Int) < ((List.length p0 : Nat) : Int)))) (Obn rfl (fun _ => hb_gtr (k := .i64))) <| Nk 1025 0 ⟨.l enc_GType p0::tp 9 (.b (decide ((8 : Int) < ((List.length p0 : Nat) : Int)))::tp 23 []), [], 0⟩ ?_
 rcases tf_ (decide ((8 : Int) < ((List.length p0 : Nat) : Int))) with hc10_6 | hc10_6
 ·
  replace hm := cT hc10_6 hm
  refine AiT hc10_6 <| Sx <| Wm (.i 5) rfl <| Nn <| Rt <| Tr ?_
  obtain rfl := Option.some.inj hm
  exact ret_i []
 ·
  replace hm := cF hc10_6 hm
  refine AiF hc10_6 <| Sk <| Tk 1 0 ⟨.l enc_GType p0::tp 33 [], [], 0⟩ <| Sq <| Sx <| Wm (.l enc_GType p0) rfl <| Wz (.i ((List.length p0 : Nat) : Int)) (Oln rfl) <| Wm (.i 0) rfl <| Nk 14337 0 ⟨.l enc_GType p0::tp 10 (.l enc_GType p0::.i ((List.length p0 : Nat) : Int)::.i 0::tp 20 []), [], 0⟩ <| Bk ?_
  refine AWP.loopI (α := Nat × Int)
    (fun (fu_2, y13_2) => (⟨.l enc_GType p0::tp 10 (.l enc_GType p0::.i ((List.length p0 : Nat) : Int)::.i y13_2::tp 20 []), [], 0⟩ : St))
    (fun (fu_2, y13_2) => m_schema_Check_l2 p0 fu_2 y13_2 = some r)
    (fun (fu_2, y13_2) => fu_2) (1152921504606846976, 0)
    (Weak.toK 14337 0 0 []) hm ?_
  rintro ⟨fu_2, y13_2⟩ n_2 hm ih_2
  try dsimp only at hm ih_2 ⊢
  cases fu_2 with
  | zero => exact absurd hm (by unfold m_schema_Check_l2; simp)
  | succ fu_2 =>
   unfold m_schema_Check_l2 at hm
   refine Sx <| Wz (.b (decide (y13_2 < ((List.length p0 : Nat) : Int)))) (Obn rfl (fun _ => hb_lss (k := .i64))) <| Nk 30721 0 ⟨.l enc_GType p0::tp 10 (.l enc_GType p0::.i ((List.length p0 : Nat) : Int)::.i y13_2::.b (decide (y13_2 < ((List.length p0 : Nat) : Int)))::tp 19 []), [], 0⟩ <| Sq ?_
   rcases tf_ (decide (y13_2 < ((List.length p0 : Nat) : Int))) with hc14_7 | hc14_7
   ·
    replace hm := cT hc14_7 hm
    refine AiT hc14_7 <| Sk <| Tk 14337 0 ⟨.l enc_GType p0::tp 10 (.l enc_GType p0::.i ((List.length p0 : Nat) : Int)::.i y13_2::tp 20 []), [], 0⟩ <| Sq <| Bk <| Sx <| Wm (.i y13_2) rfl ?_
    obtain ⟨x16_3, hx16_3, hm⟩ := bnd hm
    obtain ⟨hx16_3i, hx16_3g⟩ := geti_some hx16_3
    refine Wz (.d (.ref (List.drop ((Int.toNat y13_2) * 2) (flatD enc_GType p0)))) (Oia rfl enc_GType_len hx16_3i hx16_3g) <| Wz (.agg [(.s x16_3.Name), (.l enc_GField x16_3.Fields)]) (Lf rfl enc_GType_len hx16_3g) <| Wy (.loc 0 0) [(0, (.box [(.s ([] : List UInt8)), (.d .nil)]))] (Oal rfl) <| Wm (.i y13_2) rfl <| Wy (.tup []) [(0, (.box [(.s x16_3.Name), (.l enc_GField x16_3.Fields)]))] (Ost rfl) <| Nk 14361 1 ⟨.l enc_GType p0::tp 2 (.i y13_2::.loc 0 0::tp 6 (.l enc_GType p0::.i ((List.length p0 : Nat) : Int)::.i y13_2::tp 20 [])), [(.box [(.s x16_3.Name), (.l enc_GField x16_3.Fields)])], 0⟩ <| Sq <| Sx <| Wz (.agg [(.s x16_3.Name), (.l enc_GField x16_3.Fields)]) (Old rfl) ?_
    obtain ⟨r19_4, hr19_4, hm⟩ := bnd hm
    refine Wz (.i r19_4) (Ocf [] [] [] 0 (ok_schema_Type_check x16_3 r19_4 hr19_4) (fun a w => Tryd.call58 a w) rfl trivial) <| Wm (.i r19_4) rfl <| Nk 14393 1 ⟨.l enc_GType p0::tp 2 (.i y13_2::.loc 0 0::.i r19_4::tp 5 (.l enc_GType p0::.i ((List.length p0 : Nat) : Int)::.i y13_2::tp 20 [])), [(.box [(.s x16_3.Name), (.l enc_GField x16_3.Fields)])], 0⟩ <| Sx <| Wm (.i r19_4) rfl <| Wz (.b (decide (r19_4 ≠ 0))) (Obn rfl (fun _ => hb_neq (k := .i64))) <| Nk 2111545 1 ⟨.l enc_GType p0::tp 2 (.i y13_2::.loc 0 0::.i r19_4::tp 5 (.l enc_GType p0::.i ((List.length p0 : Nat) : Int)::.i y13_2::tp 7 (.b (decide (r19_4 ≠ 0))::tp 12 []))), [(.box [(.s x16_3.Name), (.l enc_GField x16_3.Fields)])], 0⟩ ?_
    rcases tf_ (decide (r19_4 ≠ 0)) with hc21_8 | hc21_8
    ·
     replace hm := cT hc21_8 hm
     refine AiT hc21_8 <| Sx <| Wm (.i r19_4) rfl <| Wm (.i r19_4) rfl <| Nn <| Rt <| Tr <| Ir <| Tr <| RoundK.ret <| Ir <| Tr ?_
     obtain rfl := Option.some.inj hm
     exact ret_i []
    ·
     replace hm := cF hc21_8 hm
     refine AiF hc21_8 <| Sk <| Tk 14361 1 ⟨.l enc_GType p0::tp 2 (.i y13_2::.loc 0 0::tp 6 (.l enc_GType p0::.i ((List.length p0 : Nat) : Int)::.i y13_2::tp 20 [])), [(.box [(.s x16_3.Name), (.l enc_GField x16_3.Fields)])], 0⟩ <| Sq <| Adr <| Wm (.l enc_GType p0) rfl <| Wm (.i y13_2) rfl ?_
     obtain ⟨s26_5, hs26_5, hm⟩ := bnd hm; obtain ⟨hs26_5a, hs26_5b, hs26_5c, hs26_5d, hs26_5e⟩ := cut_some hs26_5
     refine Wz (.l enc_GType s26_5) (op_cut rfl (e := 74) (sz := 2) (by kernel_rfl) (l := p0) (enc := enc_GType) (by kernel_rfl) enc_GType_len (a := (Int.toNat 0)) (b := (Int.toNat y13_2)) (by exact rfl) (⟨.i64, y13_2, by kernel_rfl, hs26_5b⟩) hs26_5c hs26_5d hs26_5e) <| Wz (.loc 0 0) (Ofa rfl) <| Wz (.s x16_3.Name) (Old rfl) ?_
     obtain ⟨r29_5, hr29_5, hm⟩ := bnd hm
     refine Wy (.tup [(.agg [(.s r29_5.1.Name), (.own 1)]), (.b r29_5.2)]) [(1, (Ar 75 2 enc_GField r29_5.1.Fields))] (Ocf [] [1] [] 0 (ok_schema_Find s26_5 x16_3.Name r29_5 hr29_5) (fun a w => Tryd.call59 a w) rfl trivial) <| Wm (.tup [(.agg [(.s r29_5.1.Name), (.own 1)]), (.b r29_5.2)]) rfl <| Wz (.agg [(.s r29_5.1.Name), (.own 1)]) (Oex rfl) <| Wz (.b r29_5.2) (Oex rfl) <| Wy (.loc 2 0) [(2, (.box [(.s ([] : List UInt8)), (.d .nil)]))] (Oal rfl) <| Wy (.tup []) [(2, (.box [(.s r29_5.1.Name), (.own 1)]))] (Ost rfl) <| Wm (.b r29_5.2) rfl <| Wdr <| Tk 14465 0 ⟨.l enc_GType p0::tp 6 (.b r29_5.2::tp 3 (.l enc_GType p0::.i ((List.length p0 : Nat) : Int)::.i y13_2::tp 20 [])), [.gone, .gone, .gone], 0⟩ <| Sx <| Wm (.b r29_5.2) rfl <| Nk 4294981633 0 ⟨.l enc_GType p0::tp 10 (.l enc_GType p0::.i ((List.length p0 : Nat) : Int)::.i y13_2::tp 18 (.b r29_5.2::tp 1 [])), [.gone, .gone, .gone], 0⟩ ?_
     rcases tf_ r29_5.2 with hc32_9 | hc32_9
     ·
      replace hm := cT hc32_9 hm
      refine AiT hc32_9 <| Sx <| Wm (.i 21) rfl <| Nn <| Rt <| Ir <| Tr <| RoundK.ret <| Ir <| Tr ?_
      obtain rfl := Option.some.inj hm
      exact ret_i []
     ·
      replace hm := cF hc32_9 hm
      refine AiF hc32_9 <| Sk <| Ino <| Tk 14337 0 ⟨.l enc_GType p0::tp 10 (.l enc_GType p0::.i ((List.length p0 : Nat) : Int)::.i y13_2::tp 20 []), [.gone, .gone, .gone], 0⟩ <| Tx <| Wz (.i (W6 (y13_2 + 1))) (Obn rfl (fun _ => hb_add (k := .i64))) <| Wm (.i (W6 (y13_2 + 1))) rfl <| Wn0 <| RoundK.normal ?_
      exact Rounds.weak (Weak.toK 14337 0 0 []) (ih_2 (fu_2, (W6 (y13_2 + 1))) hm (Nat.lt_succ_self _))
   ·
    replace hm := cF hc14_7 hm
    refine AiF hc14_7 <| AWP.exit <| Then.exit <| RoundK.exit <| InBlock.same <| Tk 0 0 ⟨tp 34 [], [], 0⟩ <| Sx <| Wm (.i 0) rfl <| Nn <| Rt ?_
    obtain rfl := Option.some.inj hm
    exact ret_i []

theorem ok_script_Command_kind (p0 : GCommand) (r : Bool) (h : m_script_Command_kind p0 = some r) : GCall Tryd.prog 35 [(.agg [(.y p0.Kind), (.s p0.Text), (.i p0.A), (.i p0.B), (.i p0.E.Time), (.i p0.E.Source), (.i p0.E.Seq), (.s p0.E.Type_), (.l enc_GValue p0.E.Vals)])] [] (.b r) [] := by
 refine GCall.of_body (n := 11) (rs := [(.tmp 2)]) Tryd.func35 rfl rfl rfl <| Ato ⟨.agg [(.y p0.Kind), (.s p0.Text), (.i p0.A), (.i p0.B), (.i p0.E.Time), (.i p0.E.Source), (.i p0.E.Seq), (.s p0.E.Type_), (.l enc_GValue p0.E.Vals)]::tu 10 [], [], 0⟩ ?_
 have hm := h
 unfold m_script_Command_kind at hm
 refine Sx <| Wy (.loc 0 0) [(0, (.box [(.y p0.Kind), (.s p0.Text), (.i p0.A), (.i p0.B), (.i p0.E.Time), (.i p0.E.Source), (.i p0.E.Seq), (.s p0.E.Type_), (.l enc_GValue p0.E.Vals)]))] (Obx rfl) <| Wm (.b false) rfl <| Nk 2 1 ⟨tp 1 (.loc 0 0::tp 9 []), [(.box [(.y p0.Kind), (.s p0.Text), (.i p0.A), (.i p0.B), (.i p0.E.Time), (.i p0.E.Source), (.i p0.E.Seq), (.s p0.E.Type_), (.l enc_GValue p0.E.Vals)])], 0⟩ <| Sx <| Wz (.loc 0 0) (Ofa rfl) <| Wz (.y p0.Kind) (Old rfl) <| Wz (.b (decide ((1 : Int) ≤ ((p0.Kind.toNat : Nat) : Int)))) (Ob2 (.int .u8 1) (.int .u8 ((p0.Kind.toNat : Nat) : Int)) rfl (fun _ => hb_leq)) ?_
 rcases tf_ (decide ((1 : Int) ≤ ((p0.Kind.toNat : Nat) : Int))) with hq6_0 | hq6_0
 ·
  replace hm := cT hq6_0 hm
  refine Wz (.b true) (Oq hq6_0 rfl) <| Wz (.loc 0 0) (Ofa rfl) <| Wz (.y p0.Kind) (Old rfl) <| Wz (.b (decide (((p0.Kind.toNat : Nat) : Int) ≤ 7))) (Ob2 (.int .u8 ((p0.Kind.toNat : Nat) : Int)) (.int .u8 7) rfl (fun _ => hb_leq)) <| Wz (.b (decide (((p0.Kind.toNat : Nat) : Int) ≤ 7))) (OpT rfl) <| Wm (.b (decide (((p0.Kind.toNat : Nat) : Int) ≤ 7))) rfl <| Nn <| Rt ?_
  obtain rfl := Option.some.inj hm
  exact ret_i []
 ·
  replace hm := cF hq6_0 hm
  refine Wz (.b false) (Oq hq6_0 rfl) <| Wn <| Wn <| Wn <| Wz (.b false) (OpF rfl) <| Wm (.b false) rfl <| Nn <| Rt ?_
  obtain rfl := Option.some.inj hm
  exact ret_i []

theorem ok_script_Command_has (p0 : GCommand) (p1 : UInt8) (r : Bool) (h : m_script_Command_has p0 p1 = some r) : GCall Tryd.prog 26 [(.agg [(.y p0.Kind), (.s p0.Text), (.i p0.A), (.i p0.B), (.i p0.E.Time), (.i p0.E.Source), (.i p0.E.Seq), (.s p0.E.Type_), (.l enc_GValue p0.E.Vals)]), (.y p1)] [] (.b r) [] := by
 refine GCall.of_body (n := 12) (rs := [(.tmp 4)]) Tryd.func26 rfl rfl rfl <| Ato ⟨.agg [(.y p0.Kind), (.s p0.Text), (.i p0.A), (.i p0.B), (.i p0.E.Time), (.i p0.E.Source), (.i p0.E.Seq), (.s p0.E.Type_), (.l enc_GValue p0.E.Vals)]::.y p1::tu 10 [], [], 0⟩ ?_
 have hm := h
 unfold m_script_Command_has at hm
 refine Sx <| Wy (.loc 0 0) [(0, (.box [(.y p0.Kind), (.s p0.Text), (.i p0.A), (.i p0.B), (.i p0.E.Time), (.i p0.E.Source), (.i p0.E.Seq), (.s p0.E.Type_), (.l enc_GValue p0.E.Vals)]))] (Obx rfl) <| Wm (.b false) rfl <| Nk 6 1 ⟨tp 1 (.y p1::.loc 0 0::tp 9 []), [(.box [(.y p0.Kind), (.s p0.Text), (.i p0.A), (.i p0.B), (.i p0.E.Time), (.i p0.E.Source), (.i p0.E.Seq), (.s p0.E.Type_), (.l enc_GValue p0.E.Vals)])], 0⟩ <| Sx <| Wz (.loc 0 0) (Ofa rfl) <| Wz (.y p0.Kind) (Old rfl) ?_
 obtain ⟨x7_0, hx7_0, hm⟩ := bnd hm
 obtain ⟨hx7_0i, hx7_0g⟩ := geti_some hx7_0
 refine Wz (.d (.ref (List.drop ((Int.toNat ((p0.Kind.toNat : Nat) : Int)) * 1) (flatD encU8 ([0, 1, 0, 2, 12, 4, 4, 4] : List UInt8))))) (Ocs (by kernel_rfl) (op_iaddr_arr rfl (n := 8) (sz := 1) (y := (.d (.ref [(byteD 0), (byteD 1), (byteD 0), (byteD 2), (byteD 12), (byteD 4), (byteD 4), (byteD 4)]))) (by kernel_rfl) (by kernel_rfl) (by kernel_rfl) (k := .u8) (iv := ((p0.Kind.toNat : Nat) : Int)) (by kernel_rfl) (i := (Int.toNat ((p0.Kind.toNat : Nat) : Int))) (hx7_0i) (getlt hx7_0g))) <| Wz (.y x7_0) (Lf1 rfl encU8_len hx7_0g) <| Wm (.y p1) rfl <| Wz (.y (toU8 (((BitVec.ofInt 8 ((x7_0.toNat : Nat) : Int) &&& BitVec.ofInt 8 ((p1.toNat : Nat) : Int)).toNat : Int)))) (Ocs (lit_int (u8w _)) (op_bin rfl (a1 := .int .u8 ((x7_0.toNat : Nat) : Int)) (a2 := .int .u8 ((p1.toNat : Nat) : Int)) (by kernel_rfl) (by kernel_rfl) (fun _ => hb_and))) ?_
 obtain ⟨v11_0, hv11_0, hm⟩ := bnd hm; replace hv11_0 := Option.some.inj hv11_0
 refine Wz (.b v11_0) (Ocs (Eq.trans (by kernel_rfl) (congrArg (fun z => A.d (.lit (.bool z))) hv11_0)) (op_bin rfl (a1 := .int .u8 (((toU8 (((BitVec.ofInt 8 ((x7_0.toNat : Nat) : Int) &&& BitVec.ofInt 8 ((p1.toNat : Nat) : Int)).toNat : Int))).toNat : Nat) : Int)) (a2 := .int .u8 0) (by kernel_rfl) (by kernel_rfl) (fun _ => hb_neq))) <| Wm (.b v11_0) rfl <| Nn <| Rt ?_
 obtain rfl := Option.some.inj hm
 exact ret_i []

theorem ok_event_Event_ID (p0 : GEvent) (r : GID) (h : m_event_Event_ID p0 = some r) : GCall Tryd.prog 60 [(.agg [(.i p0.Time), (.i p0.Source), (.i p0.Seq), (.s p0.Type_), (.l enc_GValue p0.Vals)])] [] (.agg [(.i r.Time), (.i r.Source), (.i r.Seq)]) [] := by
 refine GCall.of_body (n := 10) (rs := [(.cell 2 116)]) Tryd.func60 rfl rfl rfl <| Ato ⟨.agg [(.i p0.Time), (.i p0.Source), (.i p0.Seq), (.s p0.Type_), (.l enc_GValue p0.Vals)]::tu 9 [], [], 0⟩ ?_
 have hm := h
 unfold m_event_Event_ID at hm
 refine Sx <| Wy (.loc 0 0) [(0, (.box [(.i p0.Time), (.i p0.Source), (.i p0.Seq), (.s p0.Type_), (.l enc_GValue p0.Vals)]))] (Obx rfl) <| Wy (.loc 1 0) [(1, (.box [(.i 0), (.i 0), (.i 0)]))] (Oal rfl) <| Nk 6 3 ⟨tp 1 (.loc 0 0::.loc 1 0::tp 7 []), [(.box [(.i p0.Time), (.i p0.Source), (.i p0.Seq), (.s p0.Type_), (.l enc_GValue p0.Vals)]), (.box [(.i 0), (.i 0), (.i 0)])], 0⟩ <| Sx <| Wz (.loc 0 0) (Ofa rfl) <| Wz (.i p0.Time) (Old rfl) <| Wz (.loc 0 1) (Ofa rfl) <| Wz (.i p0.Source) (Old rfl) <| Wz (.loc 0 2) (Ofa rfl) <| Wz (.i p0.Seq) (Old rfl) <| Wz (.agg [(.i p0.Time), (.i p0.Source), (.i p0.Seq)]) (Obd rfl) <| Wy (.tup []) [(1, (.box [(.i p0.Time), (.i p0.Source), (.i p0.Seq)]))] (Ost rfl) <| Nn ?_
 refine Rt ?_
 obtain rfl := Option.some.inj hm
 exact ret_i []

theorem ok_event_ID_may (p0 : GID) (r : Bool) (h : m_event_ID_may p0 = some r) : GCall Tryd.prog 61 [(.agg [(.i p0.Time), (.i p0.Source), (.i p0.Seq)])] [] (.b r) [] := by
 refine GCall.of_body (n := 31) (rs := [(.tmp 2)]) Tryd.func61 rfl rfl rfl <| Ato ⟨.agg [(.i p0.Time), (.i p0.Source), (.i p0.Seq)]::tu 30 [], [], 0⟩ ?_
 have hm := h
 unfold m_event_ID_may at hm
 refine Sx <| Wy (.loc 0 0) [(0, (.box [(.i p0.Time), (.i p0.Source), (.i p0.Seq)]))] (Obx rfl) <| Wm (.b false) rfl <| Nk 2 1 ⟨tp 1 (.loc 0 0::tp 29 []), [(.box [(.i p0.Time), (.i p0.Source), (.i p0.Seq)])], 0⟩ <| Sx <| Wz (.loc 0 0) (Ofa rfl) <| Wz (.i p0.Time) (Old rfl) <| Wz (.b (decide ((0 : Int) ≤ p0.Time))) (Obn rfl (fun _ => hb_geq (k := .i64))) ?_
 rcases tf_ (decide ((0 : Int) ≤ p0.Time)) with hq6_0 | hq6_0
 ·
  replace hm := cT hq6_0 hm
  refine Wz (.b true) (Oq hq6_0 rfl) <| Wz (.loc 0 0) (Ofa rfl) <| Wz (.i p0.Time) (Old rfl) <| Wz (.b (decide (p0.Time ≤ 1099511627776))) (Obn rfl (fun _ => hb_leq (k := .i64))) <| Wz (.b (decide (p0.Time ≤ 1099511627776))) (OpT rfl) ?_
  rcases tf_ (decide (p0.Time ≤ 1099511627776)) with hq11_0 | hq11_0
  ·
   replace hm := cT hq11_0 hm
   refine Wz (.b true) (Oq hq11_0 rfl) <| Wz (.loc 0 1) (Ofa rfl) <| Wz (.i p0.Source) (Old rfl) <| Wz (.b (decide ((0 : Int) ≤ p0.Source))) (Obn rfl (fun _ => hb_geq (k := .i64))) <| Wz (.b (decide ((0 : Int) ≤ p0.Source))) (OpT rfl) ?_
   rcases tf_ (decide ((0 : Int) ≤ p0.Source)) with hq16_0 | hq16_0
   ·
    replace hm := cT hq16_0 hm
    refine Wz (.b true) (Oq hq16_0 rfl) <| Wz (.loc 0 1) (Ofa rfl) <| Wz (.i p0.Source) (Old rfl) <| Wz (.b (decide (p0.Source < 16))) (Obn rfl (fun _ => hb_lss (k := .i64))) <| Wz (.b (decide (p0.Source < 16))) (OpT rfl) ?_
    rcases tf_ (decide (p0.Source < 16)) with hq21_0 | hq21_0
    ·
     replace hm := cT hq21_0 hm
     refine Wz (.b true) (Oq hq21_0 rfl) <| Wz (.loc 0 2) (Ofa rfl) <| Wz (.i p0.Seq) (Old rfl) <| Wz (.b (decide ((0 : Int) ≤ p0.Seq))) (Obn rfl (fun _ => hb_geq (k := .i64))) <| Wz (.b (decide ((0 : Int) ≤ p0.Seq))) (OpT rfl) ?_
     rcases tf_ (decide ((0 : Int) ≤ p0.Seq)) with hq26_0 | hq26_0
     ·
      replace hm := cT hq26_0 hm
      refine Wz (.b true) (Oq hq26_0 rfl) <| Wz (.loc 0 2) (Ofa rfl) <| Wz (.i p0.Seq) (Old rfl) <| Wz (.b (decide (p0.Seq ≤ 1099511627776))) (Obn rfl (fun _ => hb_leq (k := .i64))) <| Wz (.b (decide (p0.Seq ≤ 1099511627776))) (OpT rfl) <| Wm (.b (decide (p0.Seq ≤ 1099511627776))) rfl <| Nn <| Rt ?_
      obtain rfl := Option.some.inj hm
      exact ret_i []
     ·
      replace hm := cF hq26_0 hm
      refine Wz (.b false) (Oq hq26_0 rfl) <| Wn <| Wn <| Wn <| Wz (.b false) (OpF rfl) <| Wm (.b false) rfl <| Nn <| Rt ?_
      obtain rfl := Option.some.inj hm
      exact ret_i []
    ·
     replace hm := cF hq21_0 hm
     refine Wz (.b false) (Oq hq21_0 rfl) <| Wn <| Wn <| Wn <| Wz (.b false) (OpF rfl) <| Wm (.b false) rfl <| Wn <| Wn <| Wn <| Wz (.b false) (OpF rfl) <| Wm (.b false) rfl <| Nn <| Rt ?_
     obtain rfl := Option.some.inj hm
     exact ret_i []
   ·
    replace hm := cF hq16_0 hm
    refine Wz (.b false) (Oq hq16_0 rfl) <| Wn <| Wn <| Wn <| Wz (.b false) (OpF rfl) <| Wm (.b false) rfl <| Wn <| Wn <| Wn <| Wz (.b false) (OpF rfl) <| Wm (.b false) rfl <| Wn <| Wn <| Wn ?_
    refine Wz (.b false) (OpF rfl) <| Wm (.b false) rfl <| Nn <| Rt ?_
    obtain rfl := Option.some.inj hm
    exact ret_i []
  ·
   replace hm := cF hq11_0 hm
   refine Wz (.b false) (Oq hq11_0 rfl) <| Wn <| Wn <| Wn <| Wz (.b false) (OpF rfl) <| Wm (.b false) rfl <| Wn <| Wn <| Wn <| Wz (.b false) (OpF rfl) <| Wm (.b false) rfl <| Wn <| Wn <| Wn ?_
   refine Wz (.b false) (OpF rfl) <| Wm (.b false) rfl <| Wn <| Wn <| Wn <| Wz (.b false) (OpF rfl) <| Wm (.b false) rfl <| Nn <| Rt ?_
   obtain rfl := Option.some.inj hm
   exact ret_i []
 ·
  replace hm := cF hq6_0 hm
  refine Wz (.b false) (Oq hq6_0 rfl) <| Wn <| Wn <| Wn <| Wz (.b false) (OpF rfl) <| Wm (.b false) rfl <| Wn <| Wn <| Wn <| Wz (.b false) (OpF rfl) <| Wm (.b false) rfl <| Wn <| Wn <| Wn ?_
  refine Wz (.b false) (OpF rfl) <| Wm (.b false) rfl <| Wn <| Wn <| Wn <| Wz (.b false) (OpF rfl) <| Wm (.b false) rfl <| Wn <| Wn <| Wn <| Wz (.b false) (OpF rfl) <| Wm (.b false) rfl <| Nn <| Rt ?_
  obtain rfl := Option.some.inj hm
  exact ret_i []

theorem ok_value_core (p0 : GValue) (r : Value) (h : m_value_core p0 = some r) : GCall Tryd.prog 97 [(.agg [(.y p0.Kind), (.i p0.N), (.u p0.Bits), (.s p0.Text)])] [] (.d (.lit r)) [] := by
 refine GCall.of_body (n := 25) (rs := [(.tmp 2)]) Tryd.func97 rfl rfl rfl <| Ato ⟨.agg [(.y p0.Kind), (.i p0.N), (.u p0.Bits), (.s p0.Text)]::tu 24 [], [], 0⟩ ?_
 have hm := h
 unfold m_value_core at hm
 refine Sx <| Wy (.loc 0 0) [(0, (.box [(.y p0.Kind), (.i p0.N), (.u p0.Bits), (.s p0.Text)]))] (Obx rfl) <| Wm (.d (.lit Value.nilIface)) rfl <| Nk 2 1 ⟨tp 1 (.loc 0 0::tp 23 []), [(.box [(.y p0.Kind), (.i p0.N), (.u p0.Bits), (.s p0.Text)])], 0⟩ <| Sq <| Sx <| Wz (.loc 0 0) (Ofa rfl) <| Wz (.y p0.Kind) (Old rfl) <| Nk 18 1 ⟨tp 1 (.loc 0 0::tp 2 (.y p0.Kind::tp 20 [])), [(.box [(.y p0.Kind), (.i p0.N), (.u p0.Bits), (.s p0.Text)])], 0⟩ <| Bk <| Sx <| Wz (.b (decide (((p0.Kind.toNat : Nat) : Int) = 1))) (Ob2 (.int .u8 ((p0.Kind.toNat : Nat) : Int)) (.int .u8 1) rfl (fun _ => hb_eql)) <| Wm (.b (decide (((p0.Kind.toNat : Nat) : Int) = 1))) rfl <| Nk 50 1 ⟨tp 1 (.loc 0 0::tp 2 (.y p0.Kind::.b (decide (((p0.Kind.toNat : Nat) : Int) = 1))::tp 19 [])), [(.box [(.y p0.Kind), (.i p0.N), (.u p0.Bits), (.s p0.Text)])], 0⟩ ?_
 rcases tf_ (decide (((p0.Kind.toNat : Nat) : Int) = 1)) with hc5_0 | hc5_0
 ·
  replace hm := cT hc5_0 hm
  refine AiT hc5_0 <| Sx <| Wz (.loc 0 1) (Ofa rfl) <| Wz (.i p0.N) (Old rfl) <| Wz (.d (.lit (Value.iface 169 (.int .i64 p0.N)))) (Oif rfl) <| Wm (.d (.lit (Value.iface 169 (.int .i64 p0.N)))) rfl <| Nn <| Rt <| Ir <| Tr ?_
  obtain rfl := Option.some.inj hm
  exact ret_i []
 ·
  replace hm := cF hc5_0 hm
  refine AiF hc5_0 <| Sx <| Wz (.b (decide (((p0.Kind.toNat : Nat) : Int) = 2))) (Ob2 (.int .u8 ((p0.Kind.toNat : Nat) : Int)) (.int .u8 2) rfl (fun _ => hb_eql)) <| Wm (.b (decide (((p0.Kind.toNat : Nat) : Int) = 2))) rfl <| Nk 1042 1 ⟨tp 1 (.loc 0 0::tp 2 (.y p0.Kind::tp 5 (.b (decide (((p0.Kind.toNat : Nat) : Int) = 2))::tp 14 []))), [(.box [(.y p0.Kind), (.i p0.N), (.u p0.Bits), (.s p0.Text)])], 0⟩ ?_
  rcases tf_ (decide (((p0.Kind.toNat : Nat) : Int) = 2)) with hc10_1 | hc10_1
  ·
   replace hm := cT hc10_1 hm
   refine AiT hc10_1 <| Sx <| Wz (.loc 0 1) (Ofa rfl) <| Wz (.i p0.N) (Old rfl) <| Wz (.d (.lit (Value.iface 170 (.int .i64 p0.N)))) (Oif rfl) <| Wm (.d (.lit (Value.iface 170 (.int .i64 p0.N)))) rfl <| Nn <| Rt <| Ir <| Tr ?_
   obtain rfl := Option.some.inj hm
   exact ret_i []
  ·
   replace hm := cF hc10_1 hm
   refine AiF hc10_1 <| Sx <| Wz (.b (decide (((p0.Kind.toNat : Nat) : Int) = 3))) (Ob2 (.int .u8 ((p0.Kind.toNat : Nat) : Int)) (.int .u8 3) rfl (fun _ => hb_eql)) <| Wm (.b (decide (((p0.Kind.toNat : Nat) : Int) = 3))) rfl <| Nk 32786 1 ⟨tp 1 (.loc 0 0::tp 2 (.y p0.Kind::tp 10 (.b (decide (((p0.Kind.toNat : Nat) : Int) = 3))::tp 9 []))), [(.box [(.y p0.Kind), (.i p0.N), (.u p0.Bits), (.s p0.Text)])], 0⟩ ?_
   rcases tf_ (decide (((p0.Kind.toNat : Nat) : Int) = 3)) with hc15_2 | hc15_2
   ·
    replace hm := cT hc15_2 hm
    refine AiT hc15_2 <| Sx <| Wz (.loc 0 2) (Ofa rfl) <| Wz (.u p0.Bits) (Old rfl) <| Wz (.d (.lit (Value.iface 171 (.int .u64 p0.Bits)))) (Oif rfl) <| Wm (.d (.lit (Value.iface 171 (.int .u64 p0.Bits)))) rfl <| Nn <| Rt <| Ir <| Tr ?_
    obtain rfl := Option.some.inj hm
    exact ret_i []
   ·
    replace hm := cF hc15_2 hm
    refine AiF hc15_2 <| Sx <| Wz (.b (decide (((p0.Kind.toNat : Nat) : Int) = 4))) (Ob2 (.int .u8 ((p0.Kind.toNat : Nat) : Int)) (.int .u8 4) rfl (fun _ => hb_eql)) <| Wm (.b (decide (((p0.Kind.toNat : Nat) : Int) = 4))) rfl <| Nk 1048578 1 ⟨tp 1 (.loc 0 0::tp 18 (.b (decide (((p0.Kind.toNat : Nat) : Int) = 4))::tp 4 [])), [(.box [(.y p0.Kind), (.i p0.N), (.u p0.Bits), (.s p0.Text)])], 0⟩ ?_
    rcases tf_ (decide (((p0.Kind.toNat : Nat) : Int) = 4)) with hc20_3 | hc20_3
    ·
     replace hm := cT hc20_3 hm
     refine AiT hc20_3 <| Sx <| Wz (.loc 0 3) (Ofa rfl) <| Wz (.s p0.Text) (Old rfl) <| Wz (.d (.lit (Value.iface 173 (.string (toS p0.Text))))) (Oif rfl) <| Wm (.d (.lit (Value.iface 173 (.string (toS p0.Text))))) rfl <| Nn <| Rt <| Ir <| Tr ?_
     obtain rfl := Option.some.inj hm
     exact ret_i []
    ·
     replace hm := cF hc20_3 hm
     refine AiF hc20_3 <| Sk <| Ino <| Tk 0 0 ⟨tp 25 [], [.gone], 0⟩ <| Sx <| Wm (.d (.lit Value.nilIface)) rfl <| Nn <| Rt ?_
     obtain rfl := Option.some.inj hm
     exact ret_i []

theorem ok_real_of (p0 : Int) (r : Nat) (h : m_real_of p0 = some r) : GCall Tryd.prog 109 [(.u p0)] [] (.d (.lit (.float .f64 r))) [] := by
 refine GCall.of_body (n := 5) (rs := [(.tmp 2)]) Tryd.func109 rfl rfl rfl <| Ato ⟨.u p0::tu 4 [], [], 0⟩ ?_
 have hm := h
 unfold m_real_of at hm
 refine Sx <| Wm (.d (.lit (.float .f64 0))) rfl <| Nk 1 0 ⟨.u p0::tp 4 [], [], 0⟩ <| Sx <| Wm (.u p0) rfl <| Wz (.d (.lit (.float .f64 (Int.toNat p0)))) (Ofb (f := 112) (fun _ => by kernel_rfl) rfl) <| Wm (.d (.lit (.float .f64 (Int.toNat p0)))) rfl <| Nn <| Rt ?_
 obtain rfl := Option.some.inj hm
 exact ret_i []

theorem ok_real_Clean (p0 : Int) (r : Int) (h : m_real_Clean p0 = some r) : GCall Tryd.prog 98 [(.u p0)] [] (.u r) [] := by
 refine GCall.of_body (n := 10) (rs := [(.tmp 2)]) Tryd.func98 rfl rfl rfl <| Ato ⟨.u p0::tu 9 [], [], 0⟩ ?_
 have hm := h
 unfold m_real_Clean at hm
 refine Sx <| Wm (.u 0) rfl <| Nk 1 0 ⟨.u p0::tp 9 [], [], 0⟩ <| Sq <| Sx <| Wm (.u p0) rfl ?_
 obtain ⟨r5_0, hr5_0, hm⟩ := bnd hm
 refine Wz (.d (.lit (.float .f64 r5_0))) (Ocf [] [] [] 0 (ok_real_of p0 r5_0 hr5_0) (fun a w => Tryd.call109 a w) rfl trivial) <| Wm (.d (.lit (.float .f64 r5_0))) rfl <| Nk 9 0 ⟨.u p0::tp 2 (.d (.lit (.float .f64 r5_0))::tp 6 []), [], 0⟩ <| Sx <| Wm (.d (.lit (.float .f64 r5_0))) rfl <| Wm (.d (.lit (.float .f64 r5_0))) rfl <| Wz (.b (fne r5_0 r5_0)) (op_bin rfl (a1 := .float .f64 r5_0) (a2 := .float .f64 r5_0) (by kernel_rfl) (by kernel_rfl) (fun _ => hb_fneq)) <| Nk 257 0 ⟨.u p0::tp 7 (.b (fne r5_0 r5_0)::tp 1 []), [], 0⟩ ?_
 rcases tf_ (fne r5_0 r5_0) with hc8_1 | hc8_1
 ·
  replace hm := cT hc8_1 hm
  refine AiT hc8_1 <| Sx <| Wm (.u 9221120237041090560) rfl <| Nn <| Rt <| Tr ?_
  obtain rfl := Option.some.inj hm
  exact ret_i []
 ·
  replace hm := cF hc8_1 hm
  refine AiF hc8_1 <| Sk <| Tk 1 0 ⟨.u p0::tp 9 [], [], 0⟩ <| Sx <| Wm (.u p0) rfl <| Wm (.u p0) rfl <| Nn <| Rt ?_
  obtain rfl := Option.some.inj hm
  exact ret_i []

theorem ok_value_number_whole (p0 : Int) (r : GValue) (h : m_value_number_whole p0 = some r) : GCall Tryd.prog 131 [(.i p0)] [] (.agg [(.y r.Kind), (.i r.N), (.u r.Bits), (.s r.Text)]) [] := by
 refine GCall.of_body (n := 5) (rs := [(.cell 2 105)]) Tryd.func131 rfl rfl rfl <| Ato ⟨.i p0::tu 4 [], [], 0⟩ ?_
 have hm := h
 unfold m_value_number_whole at hm
 refine Sx <| Wy (.loc 0 0) [(0, (.box [(.y 0), (.i 0), (.u 0), (.s ([] : List UInt8))]))] (Oal rfl) <| Nk 5 1 ⟨.i p0::tp 1 (.loc 0 0::tp 2 []), [(.box [(.y 0), (.i 0), (.u 0), (.s ([] : List UInt8))])], 0⟩ <| Sx <| Wm (.i p0) rfl <| Wz (.agg [(.y 1), (.i p0), (.u 0), (.s ([] : List UInt8))]) (Obd rfl) <| Wy (.tup []) [(0, (.box [(.y 1), (.i p0), (.u 0), (.s ([] : List UInt8))]))] (Ost rfl) <| Nn <| Rt ?_
 obtain rfl := Option.some.inj hm
 exact ret_i []

theorem ok_value_flag_whole (p0 : Int) (r : GValue) (h : m_value_flag_whole p0 = some r) : GCall Tryd.prog 132 [(.i p0)] [] (.agg [(.y r.Kind), (.i r.N), (.u r.Bits), (.s r.Text)]) [] := by
 refine GCall.of_body (n := 5) (rs := [(.cell 2 105)]) Tryd.func132 rfl rfl rfl <| Ato ⟨.i p0::tu 4 [], [], 0⟩ ?_
 have hm := h
 unfold m_value_flag_whole at hm
 refine Sx <| Wy (.loc 0 0) [(0, (.box [(.y 0), (.i 0), (.u 0), (.s ([] : List UInt8))]))] (Oal rfl) <| Nk 5 1 ⟨.i p0::tp 1 (.loc 0 0::tp 2 []), [(.box [(.y 0), (.i 0), (.u 0), (.s ([] : List UInt8))])], 0⟩ <| Sx <| Wm (.i p0) rfl <| Wz (.agg [(.y 2), (.i p0), (.u 0), (.s ([] : List UInt8))]) (Obd rfl) <| Wy (.tup []) [(0, (.box [(.y 2), (.i p0), (.u 0), (.s ([] : List UInt8))]))] (Ost rfl) <| Nn <| Rt ?_
 obtain rfl := Option.some.inj hm
 exact ret_i []

theorem ok_value_double_whole (p0 : Int) (r : GValue) (h : m_value_double_whole p0 = some r) : GCall Tryd.prog 133 [(.u p0)] [] (.agg [(.y r.Kind), (.i r.N), (.u r.Bits), (.s r.Text)]) [] := by
 refine GCall.of_body (n := 5) (rs := [(.cell 2 105)]) Tryd.func133 rfl rfl rfl <| Ato ⟨.u p0::tu 4 [], [], 0⟩ ?_
 have hm := h
 unfold m_value_double_whole at hm
 refine Sx <| Wy (.loc 0 0) [(0, (.box [(.y 0), (.i 0), (.u 0), (.s ([] : List UInt8))]))] (Oal rfl) <| Nk 5 1 ⟨.u p0::tp 1 (.loc 0 0::tp 2 []), [(.box [(.y 0), (.i 0), (.u 0), (.s ([] : List UInt8))])], 0⟩ <| Sx <| Wm (.u p0) rfl <| Wz (.agg [(.y 3), (.i 0), (.u p0), (.s ([] : List UInt8))]) (Obd rfl) <| Wy (.tup []) [(0, (.box [(.y 3), (.i 0), (.u p0), (.s ([] : List UInt8))]))] (Ost rfl) <| Nn <| Rt ?_
 obtain rfl := Option.some.inj hm
 exact ret_i []

theorem ok_value_words_whole (p0 : (List UInt8)) (r : GValue) (h : m_value_words_whole p0 = some r) : GCall Tryd.prog 134 [(.s p0)] [] (.agg [(.y r.Kind), (.i r.N), (.u r.Bits), (.s r.Text)]) [] := by
 refine GCall.of_body (n := 5) (rs := [(.cell 2 105)]) Tryd.func134 rfl rfl rfl <| Ato ⟨.s p0::tu 4 [], [], 0⟩ ?_
 have hm := h
 unfold m_value_words_whole at hm
 refine Sx <| Wy (.loc 0 0) [(0, (.box [(.y 0), (.i 0), (.u 0), (.s ([] : List UInt8))]))] (Oal rfl) <| Nk 5 1 ⟨.s p0::tp 1 (.loc 0 0::tp 2 []), [(.box [(.y 0), (.i 0), (.u 0), (.s ([] : List UInt8))])], 0⟩ <| Sx <| Wm (.s p0) rfl <| Wz (.agg [(.y 4), (.i 0), (.u 0), (.s p0)]) (Obd rfl) <| Wy (.tup []) [(0, (.box [(.y 4), (.i 0), (.u 0), (.s p0)]))] (Ost rfl) <| Nn <| Rt ?_
 obtain rfl := Option.some.inj hm
 exact ret_i []

theorem ok_value_Check (p0 : GValue) (r : Int) (h : m_value_Check p0 = some r) : GCall Tryd.prog 76 [(.agg [(.y p0.Kind), (.i p0.N), (.u p0.Bits), (.s p0.Text)])] [] (.i r) [] := by
 refine GCall.of_body (n := 47) (rs := [(.tmp 2)]) Tryd.func76 rfl rfl rfl <| Ato ⟨.agg [(.y p0.Kind), (.i p0.N), (.u p0.Bits), (.s p0.Text)]::tu 46 [], [], 0⟩ ?_
 have hm := h
 unfold m_value_Check at hm
 refine Sx <| Wy (.loc 0 0) [(0, (.box [(.y p0.Kind), (.i p0.N), (.u p0.Bits), (.s p0.Text)]))] (Obx rfl) <| Wm (.i 0) rfl <| Nk 2 1 ⟨tp 1 (.loc 0 0::tp 45 []), [(.box [(.y p0.Kind), (.i p0.N), (.u p0.Bits), (.s p0.Text)])], 0⟩ <| Sx <| Wz (.agg [(.y p0.Kind), (.i p0.N), (.u p0.Bits), (.s p0.Text)]) (Old rfl) ?_
 obtain ⟨r10_0, hr10_0, hm⟩ := bnd hm
 refine Wz (.d (.lit r10_0)) (Ocf [] [] [] 0 (ok_value_core p0 r10_0 hr10_0) (fun a w => Tryd.call97 a w) rfl trivial) <| Wm (.d (.lit r10_0)) rfl <| Nk 10 1 ⟨tp 1 (.loc 0 0::tp 1 (.d (.lit r10_0)::tp 43 [])), [(.box [(.y p0.Kind), (.i p0.N), (.u p0.Bits), (.s p0.Text)])], 0⟩ ?_
 refine AWP.cutJ (α := Unit) (fun x => match x with | () => (⟨tp 1 (.loc 0 0::tp 1 (.d (.lit r10_0)::tp 43 [])), [(.box [(.y p0.Kind), (.i p0.N), (.u p0.Bits), (.s p0.Text)])], 0⟩ : St)) (fun x => match x with | () => m_value_Check_j9 p0 r10_0 = some r) ?_ (fun J9 => ?_)
 ·
  rintro ⟨⟩ hm
  try dsimp only at hm ⊢
  unfold m_value_Check_j9 at hm
  refine Sq ?_
  refine AWP.cutJ (α := Bool) (fun x => match x with | y46_11 => (⟨tp 46 (.b y46_11::[]), [], 0⟩ : St)) (fun x => match x with | y46_11 => m_value_Check_j11  y46_11 = some r) ?_ (fun J11 => ?_)
  ·
   rintro y46_11 hm
   try dsimp only at hm ⊢
   unfold m_value_Check_j11 at hm
   rcases tf_ y46_11 with hc46_11 | hc46_11
   ·
    replace hm := cT hc46_11 hm
    refine AiT hc46_11 <| Sx <| Wm (.i 2) rfl <| Nn <| Rt <| Tr ?_
    obtain rfl := Option.some.inj hm
    exact ret_i []
   ·
    replace hm := cF hc46_11 hm
    refine AiF hc46_11 <| Sk <| Tk 0 0 ⟨tp 47 [], [], 0⟩ <| Sx <| Wm (.i 0) rfl <| Nn <| Rt ?_
    obtain rfl := Option.some.inj hm
    exact ret_i []
  refine Sq <| Adr <| Wm (.d (.lit r10_0)) rfl ?_
  rcases tf_ (isT 169 r10_0) with hq44_10_169 | hq44_10_169
  ·
   replace hm := cT hq44_10_169 hm
   obtain ⟨n44_10_169, hn44_10_169, hm⟩ := bnd hm
   obtain ⟨r44_10_169, hr44_10_169, hm⟩ := bnd hm
   have hi_r44_10_169 := inI_some hq44_10_169 hn44_10_169
   refine Wz (.agg [(.y r44_10_169.Kind), (.i r44_10_169.N), (.u r44_10_169.Bits), (.s r44_10_169.Text)]) (Oiv (t := 169) (u := .int .i64 n44_10_169) (ok_value_number_whole n44_10_169 r44_10_169 hr44_10_169) (by simp [A.Plain, A.Plains, D.Plain, byteD]) (fun a w => Tryd.call131 a w) (fun w => by kernel_rfl) rfl (Eq.trans (by kernel_rfl) (congrArg (fun z => A.d (.lit z)) hi_r44_10_169))) <| Wz (.agg [(.y p0.Kind), (.i p0.N), (.u p0.Bits), (.s p0.Text)]) (Old rfl) ?_
   obtain ⟨v46_10, hv46_10, hm⟩ := bnd hm; replace hv46_10 := Option.some.inj hv46_10
   refine Wz (.b v46_10) (Ocs (Eq.trans (lit_tf (by simp only [toS_inj])) (congrArg (fun z => A.d (.lit (.bool z))) hv46_10)) (op_neq_struct rfl (la := [(.y r44_10_169.Kind), (.i r44_10_169.N), (.u r44_10_169.Bits), (.s r44_10_169.Text)]) (lb := [(.y p0.Kind), (.i p0.N), (.u p0.Bits), (.s p0.Text)]) (us := [.int .u8 ((r44_10_169.Kind.toNat : Nat) : Int), .int .i64 r44_10_169.N, .int .u64 r44_10_169.Bits, .string (toS r44_10_169.Text)]) (vs := [.int .u8 ((p0.Kind.toNat : Nat) : Int), .int .i64 p0.N, .int .u64 p0.Bits, .string (toS p0.Text)]) (r := (decide (((r44_10_169.Kind.toNat : Nat) : Int) = ((p0.Kind.toNat : Nat) : Int)) && (decide (r44_10_169.N = p0.N) && (decide (r44_10_169.Bits = p0.Bits) && (decide ((toS r44_10_169.Text) = (toS p0.Text)) && true))))) (by kernel_rfl) (by kernel_rfl) (by kernel_rfl) (by kernel_rfl) (by kernel_rfl))) <| Wdr <| Tn ?_
   exact AWP.weak (Weak.toK 70368744177664 0 0 []) (J11 (v46_10) hm)
  ·
   replace hm := cF hq44_10_169 hm
   rcases tf_ (isT 170 r10_0) with hq44_10_170 | hq44_10_170
   ·
    replace hm := cT hq44_10_170 hm
    obtain ⟨n44_10_170, hn44_10_170, hm⟩ := bnd hm
    obtain ⟨r44_10_170, hr44_10_170, hm⟩ := bnd hm
    have hi_r44_10_170 := inI_some hq44_10_170 hn44_10_170
    refine Wz (.agg [(.y r44_10_170.Kind), (.i r44_10_170.N), (.u r44_10_170.Bits), (.s r44_10_170.Text)]) (Oiv (t := 170) (u := .int .i64 n44_10_170) (ok_value_flag_whole n44_10_170 r44_10_170 hr44_10_170) (by simp [A.Plain, A.Plains, D.Plain, byteD]) (fun a w => Tryd.call132 a w) (fun w => by kernel_rfl) rfl (Eq.trans (by kernel_rfl) (congrArg (fun z => A.d (.lit z)) hi_r44_10_170))) <| Wz (.agg [(.y p0.Kind), (.i p0.N), (.u p0.Bits), (.s p0.Text)]) (Old rfl) ?_
    obtain ⟨v46_10, hv46_10, hm⟩ := bnd hm; replace hv46_10 := Option.some.inj hv46_10
    refine Wz (.b v46_10) (Ocs (Eq.trans (lit_tf (by simp only [toS_inj])) (congrArg (fun z => A.d (.lit (.bool z))) hv46_10)) (op_neq_struct rfl (la := [(.y r44_10_170.Kind), (.i r44_10_170.N), (.u r44_10_170.Bits), (.s r44_10_170.Text)]) (lb := [(.y p0.Kind), (.i p0.N), (.u p0.Bits), (.s p0.Text)]) (us := [.int .u8 ((r44_10_170.Kind.toNat : Nat) : Int), .int .i64 r44_10_170.N, .int .u64 r44_10_170.Bits, .string (toS r44_10_170.Text)]) (vs := [.int .u8 ((p0.Kind.toNat : Nat) : Int), .int .i64 p0.N, .int .u64 p0.Bits, .string (toS p0.Text)]) (r := (decide (((r44_10_170.Kind.toNat : Nat) : Int) = ((p0.Kind.toNat : Nat) : Int)) && (decide (r44_10_170.N = p0.N) && (decide (r44_10_170.Bits = p0.Bits) && (decide ((toS r44_10_170.Text) = (toS p0.Text)) && true))))) (by kernel_rfl) (by kernel_rfl) (by kernel_rfl) (by kernel_rfl) (by kernel_rfl))) <| Wdr <| Tn ?_
    exact AWP.weak (Weak.toK 70368744177664 0 0 []) (J11 (v46_10) hm)
   ·
    replace hm := cF hq44_10_170 hm
    rcases tf_ (isT 171 r10_0) with hq44_10_171 | hq44_10_171
    ·
     replace hm := cT hq44_10_171 hm
     obtain ⟨n44_10_171, hn44_10_171, hm⟩ := bnd hm
     obtain ⟨r44_10_171, hr44_10_171, hm⟩ := bnd hm
     have hi_r44_10_171 := inI_some hq44_10_171 hn44_10_171
     refine Wz (.agg [(.y r44_10_171.Kind), (.i r44_10_171.N), (.u r44_10_171.Bits), (.s r44_10_171.Text)]) (Oiv (t := 171) (u := .int .u64 n44_10_171) (ok_value_double_whole n44_10_171 r44_10_171 hr44_10_171) (by simp [A.Plain, A.Plains, D.Plain, byteD]) (fun a w => Tryd.call133 a w) (fun w => by kernel_rfl) rfl (Eq.trans (by kernel_rfl) (congrArg (fun z => A.d (.lit z)) hi_r44_10_171))) <| Wz (.agg [(.y p0.Kind), (.i p0.N), (.u p0.Bits), (.s p0.Text)]) (Old rfl) ?_
     obtain ⟨v46_10, hv46_10, hm⟩ := bnd hm; replace hv46_10 := Option.some.inj hv46_10
     refine Wz (.b v46_10) (Ocs (Eq.trans (lit_tf (by simp only [toS_inj])) (congrArg (fun z => A.d (.lit (.bool z))) hv46_10)) (op_neq_struct rfl (la := [(.y r44_10_171.Kind), (.i r44_10_171.N), (.u r44_10_171.Bits), (.s r44_10_171.Text)]) (lb := [(.y p0.Kind), (.i p0.N), (.u p0.Bits), (.s p0.Text)]) (us := [.int .u8 ((r44_10_171.Kind.toNat : Nat) : Int), .int .i64 r44_10_171.N, .int .u64 r44_10_171.Bits, .string (toS r44_10_171.Text)]) (vs := [.int .u8 ((p0.Kind.toNat : Nat) : Int), .int .i64 p0.N, .int .u64 p0.Bits, .string (toS p0.Text)]) (r := (decide (((r44_10_171.Kind.toNat : Nat) : Int) = ((p0.Kind.toNat : Nat) : Int)) && (decide (r44_10_171.N = p0.N) && (decide (r44_10_171.Bits = p0.Bits) && (decide ((toS r44_10_171.Text) = (toS p0.Text)) && true))))) (by kernel_rfl) (by kernel_rfl) (by kernel_rfl) (by kernel_rfl) (by kernel_rfl))) <| Wdr <| Tn ?_
     exact AWP.weak (Weak.toK 70368744177664 0 0 []) (J11 (v46_10) hm)
    ·
     replace hm := cF hq44_10_171 hm
     rcases tf_ (isT 173 r10_0) with hq44_10_173 | hq44_10_173
     ·
      replace hm := cT hq44_10_173 hm
      obtain ⟨n44_10_173, hn44_10_173, hm⟩ := bnd hm
      obtain ⟨r44_10_173, hr44_10_173, hm⟩ := bnd hm
      have hi_r44_10_173 := inS_some hq44_10_173 hn44_10_173
      refine Wz (.agg [(.y r44_10_173.Kind), (.i r44_10_173.N), (.u r44_10_173.Bits), (.s r44_10_173.Text)]) (Oiv (t := 173) (u := .string (toS n44_10_173)) (ok_value_words_whole n44_10_173 r44_10_173 hr44_10_173) (by simp [A.Plain, A.Plains, D.Plain, byteD]) (fun a w => Tryd.call134 a w) (fun w => by kernel_rfl) rfl (Eq.trans (by kernel_rfl) (congrArg (fun z => A.d (.lit z)) hi_r44_10_173))) <| Wz (.agg [(.y p0.Kind), (.i p0.N), (.u p0.Bits), (.s p0.Text)]) (Old rfl) ?_
      obtain ⟨v46_10, hv46_10, hm⟩ := bnd hm; replace hv46_10 := Option.some.inj hv46_10
      refine Wz (.b v46_10) (Ocs (Eq.trans (lit_tf (by simp only [toS_inj])) (congrArg (fun z => A.d (.lit (.bool z))) hv46_10)) (op_neq_struct rfl (la := [(.y r44_10_173.Kind), (.i r44_10_173.N), (.u r44_10_173.Bits), (.s r44_10_173.Text)]) (lb := [(.y p0.Kind), (.i p0.N), (.u p0.Bits), (.s p0.Text)]) (us := [.int .u8 ((r44_10_173.Kind.toNat : Nat) : Int), .int .i64 r44_10_173.N, .int .u64 r44_10_173.Bits, .string (toS r44_10_173.Text)]) (vs := [.int .u8 ((p0.Kind.toNat : Nat) : Int), .int .i64 p0.N, .int .u64 p0.Bits, .string (toS p0.Text)]) (r := (decide (((r44_10_173.Kind.toNat : Nat) : Int) = ((p0.Kind.toNat : Nat) : Int)) && (decide (r44_10_173.N = p0.N) && (decide (r44_10_173.Bits = p0.Bits) && (decide ((toS r44_10_173.Text) = (toS p0.Text)) && true))))) (by kernel_rfl) (by kernel_rfl) (by kernel_rfl) (by kernel_rfl) (by kernel_rfl))) <| Wdr <| Tn ?_
      exact AWP.weak (Weak.toK 70368744177664 0 0 []) (J11 (v46_10) hm)
     ·
      replace hm := cF hq44_10_173 hm
      exact nomatch hm
 refine Sq <| Sx <| Wm (.d (.lit r10_0)) rfl <| Nk 2058 1 ⟨tp 1 (.loc 0 0::tp 1 (.d (.lit r10_0)::tp 7 (.d (.lit r10_0)::tp 35 []))), [(.box [(.y p0.Kind), (.i p0.N), (.u p0.Bits), (.s p0.Text)])], 0⟩ <| Bk <| Sx ?_
 obtain ⟨z12_1, hz12_1, hm⟩ := bnd hm
 refine Wz (.tup [(.i z12_1.1), (.b z12_1.2)]) (OtI hz12_1 rfl) <| Wz (.b z12_1.2) (Oex rfl) <| Wz (.i z12_1.1) (Oex rfl) <| Nk 26634 1 ⟨tp 1 (.loc 0 0::tp 1 (.d (.lit r10_0)::tp 7 (.d (.lit r10_0)::tp 1 (.b z12_1.2::.i z12_1.1::tp 32 [])))), [(.box [(.y p0.Kind), (.i p0.N), (.u p0.Bits), (.s p0.Text)])], 0⟩ ?_
 rcases tf_ z12_1.2 with hc13_12 | hc13_12
 ·
  replace hm := cT hc13_12 hm
  refine AiT hc13_12 <| Sx <| Wm (.i z12_1.1) rfl <| Nk 26 1 ⟨tp 1 (.loc 0 0::tp 1 (.d (.lit r10_0)::.i z12_1.1::tp 42 [])), [(.box [(.y p0.Kind), (.i p0.N), (.u p0.Bits), (.s p0.Text)])], 0⟩ <| Sx <| Wm (.i z12_1.1) rfl <| Wz (.b (decide (z12_1.1 < (-4611686018427387904)))) (Obn rfl (fun _ => hb_lss (k := .i64))) ?_
  rcases tf_ (decide (z12_1.1 < (-4611686018427387904))) with hq17_2 | hq17_2
  ·
   replace hm := cT hq17_2 hm
   refine Wz (.b true) (Oq hq17_2 rfl) <| Wn <| Wn <| Wz (.b true) (OpT rfl) <| Nk 1048586 1 ⟨tp 1 (.loc 0 0::tp 1 (.d (.lit r10_0)::tp 16 (.b true::tp 26 []))), [(.box [(.y p0.Kind), (.i p0.N), (.u p0.Bits), (.s p0.Text)])], 0⟩ <| AWP.if_ true (by kernel_rfl) <| Sx <| Wm (.i 8) rfl <| Nn <| Rt <| Ir <| Tr ?_
   obtain rfl := Option.some.inj hm
   exact ret_i []
  ·
   replace hm := cF hq17_2 hm
   refine Wz (.b false) (Oq hq17_2 rfl) <| Wm (.i z12_1.1) rfl <| Wz (.b (decide ((4611686018427387904 : Int) < z12_1.1))) (Obn rfl (fun _ => hb_gtr (k := .i64))) <| Wz (.b (decide ((4611686018427387904 : Int) < z12_1.1))) (OpF rfl) <| Nk 1048586 1 ⟨tp 1 (.loc 0 0::tp 1 (.d (.lit r10_0)::tp 16 (.b (decide ((4611686018427387904 : Int) < z12_1.1))::tp 26 []))), [(.box [(.y p0.Kind), (.i p0.N), (.u p0.Bits), (.s p0.Text)])], 0⟩ ?_
   rcases tf_ (decide ((4611686018427387904 : Int) < z12_1.1)) with hc20_13 | hc20_13
   ·
    replace hm := cT hc20_13 hm
    refine AiT hc20_13 <| Sx <| Wm (.i 8) rfl <| Nn <| Rt <| Ir <| Tr ?_
    obtain rfl := Option.some.inj hm
    exact ret_i []
   ·
    replace hm := cF hc20_13 hm
    refine AiF hc20_13 <| Sk <| Ino <| Tn ?_
    exact AWP.weak (Weak.toK 10 0 0 [0]) (J9 () hm)
 ·
  replace hm := cF hc13_12 hm
  refine AiF hc13_12 <| Sx ?_
  obtain ⟨z21_3, hz21_3, hm⟩ := bnd hm
  refine Wz (.tup [(.i z21_3.1), (.b z21_3.2)]) (OtI hz21_3 rfl) <| Wz (.b z21_3.2) (Oex rfl) <| Wz (.i z21_3.1) (Oex rfl) <| Nk 12584970 1 ⟨tp 1 (.loc 0 0::tp 1 (.d (.lit r10_0)::tp 7 (.d (.lit r10_0)::tp 10 (.b z21_3.2::.i z21_3.1::tp 23 [])))), [(.box [(.y p0.Kind), (.i p0.N), (.u p0.Bits), (.s p0.Text)])], 0⟩ ?_
  rcases tf_ z21_3.2 with hc22_14 | hc22_14
  ·
   replace hm := cT hc22_14 hm
   refine AiT hc22_14 <| Sx <| Wm (.i z21_3.1) rfl <| Nk 42 1 ⟨tp 1 (.loc 0 0::tp 1 (.d (.lit r10_0)::tp 1 (.i z21_3.1::tp 41 []))), [(.box [(.y p0.Kind), (.i p0.N), (.u p0.Bits), (.s p0.Text)])], 0⟩ <| Sx <| Wm (.i z21_3.1) rfl <| Wz (.b (decide (z21_3.1 ≠ 0))) (Obn rfl (fun _ => hb_neq (k := .i64))) ?_
   rcases tf_ (decide (z21_3.1 ≠ 0)) with hq26_4 | hq26_4
   ·
    replace hm := cT hq26_4 hm
    refine Wz (.b true) (Oq hq26_4 rfl) <| Wm (.i z21_3.1) rfl <| Wz (.b (decide (z21_3.1 ≠ 1))) (Obn rfl (fun _ => hb_neq (k := .i64))) <| Wz (.b (decide (z21_3.1 ≠ 1))) (OpT rfl) <| Nk 536870922 1 ⟨tp 1 (.loc 0 0::tp 1 (.d (.lit r10_0)::tp 25 (.b (decide (z21_3.1 ≠ 1))::tp 17 []))), [(.box [(.y p0.Kind), (.i p0.N), (.u p0.Bits), (.s p0.Text)])], 0⟩ ?_
    rcases tf_ (decide (z21_3.1 ≠ 1)) with hc29_15 | hc29_15
    ·
     replace hm := cT hc29_15 hm
     refine AiT hc29_15 <| Sx <| Wm (.i 8) rfl <| Nn <| Rt <| Ir <| Tr ?_
     obtain rfl := Option.some.inj hm
     exact ret_i []
    ·
     replace hm := cF hc29_15 hm
     refine AiF hc29_15 <| Sk <| Ino <| Tn ?_
     exact AWP.weak (Weak.toK 10 0 0 [0]) (J9 () hm)
   ·
    replace hm := cF hq26_4 hm
    refine Wz (.b false) (Oq hq26_4 rfl) <| Wn <| Wn <| Wz (.b false) (OpF rfl) <| Nk 536870922 1 ⟨tp 1 (.loc 0 0::tp 1 (.d (.lit r10_0)::tp 25 (.b false::tp 17 []))), [(.box [(.y p0.Kind), (.i p0.N), (.u p0.Bits), (.s p0.Text)])], 0⟩ <| AWP.if_ false (by kernel_rfl) <| Sk <| Ino <| Tn ?_
    exact AWP.weak (Weak.toK 10 0 0 [0]) (J9 () hm)
  ·
   replace hm := cF hc22_14 hm
   refine AiF hc22_14 <| Sx ?_
   obtain ⟨z30_5, hz30_5, hm⟩ := bnd hm
   refine Wz (.tup [(.u z30_5.1), (.b z30_5.2)]) (OtI hz30_5 rfl) <| Wz (.b z30_5.2) (Oex rfl) <| Wz (.u z30_5.1) (Oex rfl) <| Nk 6442453002 1 ⟨tp 1 (.loc 0 0::tp 1 (.d (.lit r10_0)::tp 7 (.d (.lit r10_0)::tp 19 (.b z30_5.2::.u z30_5.1::tp 14 [])))), [(.box [(.y p0.Kind), (.i p0.N), (.u p0.Bits), (.s p0.Text)])], 0⟩ ?_
   rcases tf_ z30_5.2 with hc31_16 | hc31_16
   ·
    replace hm := cT hc31_16 hm
    refine AiT hc31_16 <| Sx <| Wm (.u z30_5.1) rfl <| Nk 74 1 ⟨tp 1 (.loc 0 0::tp 1 (.d (.lit r10_0)::tp 2 (.u z30_5.1::tp 40 []))), [(.box [(.y p0.Kind), (.i p0.N), (.u p0.Bits), (.s p0.Text)])], 0⟩ <| Sx <| Wm (.u z30_5.1) rfl ?_
    obtain ⟨r34_6, hr34_6, hm⟩ := bnd hm
    refine Wz (.u r34_6) (Ocf [] [] [] 0 (ok_real_Clean z30_5.1 r34_6 hr34_6) (fun a w => Tryd.call98 a w) rfl trivial) <| Wm (.u z30_5.1) rfl <| Wz (.b (decide (r34_6 ≠ z30_5.1))) (Obn rfl (fun _ => hb_neq (k := .u64))) <| Nk 68719476746 1 ⟨tp 1 (.loc 0 0::tp 1 (.d (.lit r10_0)::tp 32 (.b (decide (r34_6 ≠ z30_5.1))::tp 10 []))), [(.box [(.y p0.Kind), (.i p0.N), (.u p0.Bits), (.s p0.Text)])], 0⟩ ?_
    rcases tf_ (decide (r34_6 ≠ z30_5.1)) with hc36_17 | hc36_17
    ·
     replace hm := cT hc36_17 hm
     refine AiT hc36_17 <| Sx <| Wm (.i 4) rfl <| Nn <| Rt <| Ir <| Tr ?_
     obtain rfl := Option.some.inj hm
     exact ret_i []
    ·
     replace hm := cF hc36_17 hm
     refine AiF hc36_17 <| Sk <| Ino <| Tn ?_
     exact AWP.weak (Weak.toK 10 0 0 [0]) (J9 () hm)
   ·
    replace hm := cF hc31_16 hm
    refine AiF hc31_16 <| Sx ?_
    obtain ⟨z37_7, hz37_7, hm⟩ := bnd hm
    refine Wz (.tup [(.s z37_7.1), (.b z37_7.2)]) (OtS hz37_7 rfl) <| Wz (.b z37_7.2) (Oex rfl) <| Wz (.s z37_7.1) (Oex rfl) <| Nk 824633722890 1 ⟨tp 1 (.loc 0 0::tp 1 (.d (.lit r10_0)::tp 7 (.d (.lit r10_0)::tp 26 (.b z37_7.2::.s z37_7.1::tp 7 [])))), [(.box [(.y p0.Kind), (.i p0.N), (.u p0.Bits), (.s p0.Text)])], 0⟩ ?_
    rcases tf_ z37_7.2 with hc38_18 | hc38_18
    ·
     replace hm := cT hc38_18 hm
     refine AiT hc38_18 <| Sx <| Wm (.s z37_7.1) rfl <| Nk 138 1 ⟨tp 1 (.loc 0 0::tp 1 (.d (.lit r10_0)::tp 3 (.s z37_7.1::tp 39 []))), [(.box [(.y p0.Kind), (.i p0.N), (.u p0.Bits), (.s p0.Text)])], 0⟩ <| Sx <| Wm (.s z37_7.1) rfl <| Wz (.i ((List.length z37_7.1 : Nat) : Int)) (Oln rfl) <| Wz (.b (decide ((24 : Int) < ((List.length z37_7.1 : Nat) : Int)))) (Obn rfl (fun _ => hb_gtr (k := .i64))) <| Nk 4398046511114 1 ⟨tp 1 (.loc 0 0::tp 1 (.d (.lit r10_0)::tp 38 (.b (decide ((24 : Int) < ((List.length z37_7.1 : Nat) : Int)))::tp 4 []))), [(.box [(.y p0.Kind), (.i p0.N), (.u p0.Bits), (.s p0.Text)])], 0⟩ ?_
     rcases tf_ (decide ((24 : Int) < ((List.length z37_7.1 : Nat) : Int))) with hc42_19 | hc42_19
     ·
      replace hm := cT hc42_19 hm
      refine AiT hc42_19 <| Sx <| Wm (.i 5) rfl <| Nn <| Rt <| Ir <| Tr ?_
      obtain rfl := Option.some.inj hm
      exact ret_i []
     ·
      replace hm := cF hc42_19 hm
      refine AiF hc42_19 <| Sk <| Ino <| Tn ?_
      exact AWP.weak (Weak.toK 10 0 0 [0]) (J9 () hm)
    ·
     replace hm := cF hc38_18 hm
     refine AiF hc38_18 <| Sx <| Wm (.d (.lit r10_0)) rfl <| Nk 0 0 ⟨tp 47 [], [.gone], 0⟩ <| Sx <| Wm (.i 11) rfl <| Nn <| Rt <| Ir <| Tr ?_
     obtain rfl := Option.some.inj hm
     exact ret_i []

theorem ok_schema_Fits (p0 : GType) (p1 : (List GValue)) (r : Int) (h : m_schema_Fits p0 p1 = some r) : GCall Tryd.prog 62 [(.agg [(.s p0.Name), (.l enc_GField p0.Fields)]), (.l enc_GValue p1)] [] (.i r) [] := by
 refine GCall.of_body (n := 36) (rs := [(.tmp 4)]) Tryd.func62 rfl rfl rfl <| Ato ⟨.agg [(.s p0.Name), (.l enc_GField p0.Fields)]::.l enc_GValue p1::tu 34 [], [], 0⟩ ?_
 have hm := h
 unfold m_schema_Fits at hm
 refine Sx <| Wy (.loc 0 0) [(0, (.box [(.s p0.Name), (.l enc_GField p0.Fields)]))] (Obx rfl) <| Wm (.i 0) rfl <| Nk 6 1 ⟨tp 1 (.l enc_GValue p1::.loc 0 0::tp 33 []), [(.box [(.s p0.Name), (.l enc_GField p0.Fields)])], 0⟩ <| Sq <| Sx <| Wm (.l enc_GValue p1) rfl <| Wz (.i ((List.length p1 : Nat) : Int)) (Oln rfl) <| Wz (.loc 0 1) (Ofa rfl) <| Wz (.l enc_GField p0.Fields) (Old rfl) <| Wz (.i ((List.length p0.Fields : Nat) : Int)) (Oln rfl) <| Wz (.b (decide (((List.length p1 : Nat) : Int) ≠ ((List.length p0.Fields : Nat) : Int)))) (Obn rfl (fun _ => hb_neq (k := .i64))) <| Nk 8198 1 ⟨tp 1 (.l enc_GValue p1::.loc 0 0::tp 10 (.b (decide (((List.length p1 : Nat) : Int) ≠ ((List.length p0.Fields : Nat) : Int)))::tp 22 [])), [(.box [(.s p0.Name), (.l enc_GField p0.Fields)])], 0⟩ ?_
 rcases tf_ (decide (((List.length p1 : Nat) : Int) ≠ ((List.length p0.Fields : Nat) : Int))) with hc13_6 | hc13_6
 ·
  replace hm := cT hc13_6 hm
  refine AiT hc13_6 <| Sx <| Wm (.i 5) rfl <| Nn <| Rt <| Tr ?_
  obtain rfl := Option.some.inj hm
  exact ret_i []
 ·
  replace hm := cF hc13_6 hm
  refine AiF hc13_6 <| Sk <| Tk 6 1 ⟨tp 1 (.l enc_GValue p1::.loc 0 0::tp 33 []), [(.box [(.s p0.Name), (.l enc_GField p0.Fields)])], 0⟩ <| Sq <| Sx <| Wm (.l enc_GValue p1) rfl <| Wz (.i ((List.length p1 : Nat) : Int)) (Oln rfl) <| Wm (.i 0) rfl <| Nk 114692 1 ⟨tp 2 (.loc 0 0::tp 11 (.l enc_GValue p1::.i ((List.length p1 : Nat) : Int)::.i 0::tp 19 [])), [(.box [(.s p0.Name), (.l enc_GField p0.Fields)])], 0⟩ <| Bk ?_
  refine AWP.loopI (α := Nat × Int)
    (fun (fu_2, y16_2) => (⟨tp 2 (.loc 0 0::tp 11 (.l enc_GValue p1::.i ((List.length p1 : Nat) : Int)::.i y16_2::tp 19 [])), [(.box [(.s p0.Name), (.l enc_GField p0.Fields)])], 0⟩ : St))
    (fun (fu_2, y16_2) => m_schema_Fits_l2 p0 p1 fu_2 y16_2 = some r)
    (fun (fu_2, y16_2) => fu_2) (1152921504606846976, 0)
    (Weak.toK 114692 0 0 [0]) hm ?_
  rintro ⟨fu_2, y16_2⟩ n_2 hm ih_2
  try dsimp only at hm ih_2 ⊢
  cases fu_2 with
  | zero => exact absurd hm (by unfold m_schema_Fits_l2; simp)
  | succ fu_2 =>
   unfold m_schema_Fits_l2 at hm
   refine Sx <| Wz (.b (decide (y16_2 < ((List.length p1 : Nat) : Int)))) (Obn rfl (fun _ => hb_lss (k := .i64))) <| Nk 245764 1 ⟨tp 2 (.loc 0 0::tp 11 (.l enc_GValue p1::.i ((List.length p1 : Nat) : Int)::.i y16_2::.b (decide (y16_2 < ((List.length p1 : Nat) : Int)))::tp 18 [])), [(.box [(.s p0.Name), (.l enc_GField p0.Fields)])], 0⟩ <| Sq ?_
   rcases tf_ (decide (y16_2 < ((List.length p1 : Nat) : Int))) with hc17_7 | hc17_7
   ·
    replace hm := cT hc17_7 hm
    refine AiT hc17_7 <| Sk <| Tk 114692 1 ⟨tp 2 (.loc 0 0::tp 11 (.l enc_GValue p1::.i ((List.length p1 : Nat) : Int)::.i y16_2::tp 19 [])), [(.box [(.s p0.Name), (.l enc_GField p0.Fields)])], 0⟩ <| Sq <| Bk <| Sx <| Wm (.i y16_2) rfl ?_
    obtain ⟨x19_3, hx19_3, hm⟩ := bnd hm
    obtain ⟨hx19_3i, hx19_3g⟩ := geti_some hx19_3
    refine Wz (.d (.ref (List.drop ((Int.toNat y16_2) * 4) (flatD enc_GValue p1)))) (Oia rfl enc_GValue_len hx19_3i hx19_3g) <| Wz (.agg [(.y x19_3.Kind), (.i x19_3.N), (.u x19_3.Bits), (.s x19_3.Text)]) (Lf rfl enc_GValue_len hx19_3g) <| Wy (.loc 1 0) [(1, (.box [(.y 0), (.i 0), (.u 0), (.s ([] : List UInt8))]))] (Oal rfl) <| Wm (.i y16_2) rfl <| Wy (.tup []) [(1, (.box [(.y x19_3.Kind), (.i x19_3.N), (.u x19_3.Bits), (.s x19_3.Text)]))] (Ost rfl) <| Nk 114788 3 ⟨tp 2 (.loc 0 0::tp 2 (.i y16_2::.loc 1 0::tp 7 (.l enc_GValue p1::.i ((List.length p1 : Nat) : Int)::.i y16_2::tp 19 []))), [(.box [(.s p0.Name), (.l enc_GField p0.Fields)]), (.box [(.y x19_3.Kind), (.i x19_3.N), (.u x19_3.Bits), (.s x19_3.Text)])], 0⟩ <| Sq <| Sx <| Wz (.agg [(.y x19_3.Kind), (.i x19_3.N), (.u x19_3.Bits), (.s x19_3.Text)]) (Old rfl) ?_
    obtain ⟨r22_4, hr22_4, hm⟩ := bnd hm
    refine Wz (.i r22_4) (Ocf [] [] [] 0 (ok_value_Check x19_3 r22_4 hr22_4) (fun a w => Tryd.call76 a w) rfl trivial) <| Wm (.i r22_4) rfl <| Nk 114916 3 ⟨tp 2 (.loc 0 0::tp 2 (.i y16_2::.loc 1 0::.i r22_4::tp 6 (.l enc_GValue p1::.i ((List.length p1 : Nat) : Int)::.i y16_2::tp 19 []))), [(.box [(.s p0.Name), (.l enc_GField p0.Fields)]), (.box [(.y x19_3.Kind), (.i x19_3.N), (.u x19_3.Bits), (.s x19_3.Text)])], 0⟩ <| Sx <| Wm (.i r22_4) rfl <| Wz (.b (decide (r22_4 ≠ 0))) (Obn rfl (fun _ => hb_neq (k := .i64))) <| Nk 16892132 3 ⟨tp 2 (.loc 0 0::tp 2 (.i y16_2::.loc 1 0::.i r22_4::tp 6 (.l enc_GValue p1::.i ((List.length p1 : Nat) : Int)::.i y16_2::tp 7 (.b (decide (r22_4 ≠ 0))::tp 11 [])))), [(.box [(.s p0.Name), (.l enc_GField p0.Fields)]), (.box [(.y x19_3.Kind), (.i x19_3.N), (.u x19_3.Bits), (.s x19_3.Text)])], 0⟩ ?_
    rcases tf_ (decide (r22_4 ≠ 0)) with hc24_8 | hc24_8
    ·
     replace hm := cT hc24_8 hm
     refine AiT hc24_8 <| Sx <| Wm (.i r22_4) rfl <| Wm (.i r22_4) rfl <| Nn <| Rt <| Tr <| Ir <| Tr <| RoundK.ret <| Ir <| Tr ?_
     obtain rfl := Option.some.inj hm
     exact ret_i []
    ·
     replace hm := cF hc24_8 hm
     refine AiF hc24_8 <| Sk <| Tk 114788 3 ⟨tp 2 (.loc 0 0::tp 2 (.i y16_2::.loc 1 0::tp 7 (.l enc_GValue p1::.i ((List.length p1 : Nat) : Int)::.i y16_2::tp 19 []))), [(.box [(.s p0.Name), (.l enc_GField p0.Fields)]), (.box [(.y x19_3.Kind), (.i x19_3.N), (.u x19_3.Bits), (.s x19_3.Text)])], 0⟩ <| Sq <| Adr <| Wz (.loc 1 0) (Ofa rfl) <| Wz (.y x19_3.Kind) (Old rfl) <| Wz (.loc 0 1) (Ofa rfl) <| Wz (.l enc_GField p0.Fields) (Old rfl) <| Wm (.i y16_2) rfl ?_
     obtain ⟨x31_5, hx31_5, hm⟩ := bnd hm
     obtain ⟨hx31_5i, hx31_5g⟩ := geti_some hx31_5
     refine Wz (.d (.ref (List.drop ((Int.toNat y16_2) * 2) (flatD enc_GField p0.Fields)))) (Oia rfl enc_GField_len hx31_5i hx31_5g) <| Wz (.d (.ref (List.drop 1 (List.drop ((Int.toNat y16_2) * 2) (flatD enc_GField p0.Fields))))) (Ofa rfl) <| Wz (.y x31_5.Kind) (Lfk1 1 rfl enc_GField_len hx31_5g) <| Wz (.b (decide (((x19_3.Kind.toNat : Nat) : Int) ≠ ((x31_5.Kind.toNat : Nat) : Int)))) (Ob2 (.int .u8 ((x19_3.Kind.toNat : Nat) : Int)) (.int .u8 ((x31_5.Kind.toNat : Nat) : Int)) rfl (fun _ => hb_neq)) <| Wdr <| Tk 17179983876 1 ⟨tp 2 (.loc 0 0::tp 11 (.l enc_GValue p1::.i ((List.length p1 : Nat) : Int)::.i y16_2::tp 17 (.b (decide (((x19_3.Kind.toNat : Nat) : Int) ≠ ((x31_5.Kind.toNat : Nat) : Int)))::tp 1 []))), [(.box [(.s p0.Name), (.l enc_GField p0.Fields)]), .gone], 0⟩ ?_
     rcases tf_ (decide (((x19_3.Kind.toNat : Nat) : Int) ≠ ((x31_5.Kind.toNat : Nat) : Int))) with hc34_9 | hc34_9
     ·
      replace hm := cT hc34_9 hm
      refine AiT hc34_9 <| Sx <| Wm (.i 19) rfl <| Nn <| Rt <| Ir <| Tr <| RoundK.ret <| Ir <| Tr ?_
      obtain rfl := Option.some.inj hm
      exact ret_i []
     ·
      replace hm := cF hc34_9 hm
      refine AiF hc34_9 <| Sk <| Ino <| Tk 114692 1 ⟨tp 2 (.loc 0 0::tp 11 (.l enc_GValue p1::.i ((List.length p1 : Nat) : Int)::.i y16_2::tp 19 [])), [(.box [(.s p0.Name), (.l enc_GField p0.Fields)]), .gone], 0⟩ <| Tx <| Wz (.i (W6 (y16_2 + 1))) (Obn rfl (fun _ => hb_add (k := .i64))) <| Wm (.i (W6 (y16_2 + 1))) rfl <| Wn0 <| RoundK.normal ?_
      exact Rounds.weak (Weak.toK 114692 0 0 [0]) (ih_2 (fu_2, (W6 (y16_2 + 1))) hm (Nat.lt_succ_self _))
   ·
    replace hm := cF hc17_7 hm
    refine AiF hc17_7 <| AWP.exit <| Then.exit <| RoundK.exit <| InBlock.same <| Tk 0 0 ⟨tp 36 [], [.gone], 0⟩ <| Sx <| Wm (.i 0) rfl <| Nn <| Rt ?_
    obtain rfl := Option.some.inj hm
    exact ret_i []

theorem ok_event_Check (p0 : (List GType)) (p1 : GEvent) (r : Int) (h : m_event_Check p0 p1 = some r) : GCall Tryd.prog 36 [(.l enc_GType p0), (.agg [(.i p1.Time), (.i p1.Source), (.i p1.Seq), (.s p1.Type_), (.l enc_GValue p1.Vals)])] [] (.i r) [] := by
 refine GCall.of_body (n := 27) (rs := [(.tmp 4)]) Tryd.func36 rfl rfl rfl <| Ato ⟨.l enc_GType p0::.agg [(.i p1.Time), (.i p1.Source), (.i p1.Seq), (.s p1.Type_), (.l enc_GValue p1.Vals)]::tu 25 [], [], 0⟩ ?_
 have hm := h
 unfold m_event_Check at hm
 refine Sx <| Wy (.loc 0 0) [(0, (.box [(.i p1.Time), (.i p1.Source), (.i p1.Seq), (.s p1.Type_), (.l enc_GValue p1.Vals)]))] (Obx rfl) <| Wm (.i 0) rfl <| Nk 9 1 ⟨.l enc_GType p0::tp 2 (.loc 0 0::tp 23 []), [(.box [(.i p1.Time), (.i p1.Source), (.i p1.Seq), (.s p1.Type_), (.l enc_GValue p1.Vals)])], 0⟩ <| Sq <| Sx <| Wm (.l enc_GType p0) rfl ?_
 obtain ⟨r8_0, hr8_0, hm⟩ := bnd hm
 refine Wz (.i r8_0) (Ocf [] [] [] 0 (ok_schema_Check p0 r8_0 hr8_0) (fun a w => Tryd.call34 a w) rfl trivial) <| Wz (.b (decide (r8_0 ≠ 0))) (Obn rfl (fun _ => hb_neq (k := .i64))) <| Nk 521 1 ⟨.l enc_GType p0::tp 2 (.loc 0 0::tp 5 (.b (decide (r8_0 ≠ 0))::tp 17 [])), [(.box [(.i p1.Time), (.i p1.Source), (.i p1.Seq), (.s p1.Type_), (.l enc_GValue p1.Vals)])], 0⟩ ?_
 rcases tf_ (decide (r8_0 ≠ 0)) with hc9_4 | hc9_4
 ·
  replace hm := cT hc9_4 hm
  refine AiT hc9_4 <| Sx <| Wm (.i 2) rfl <| Nn <| Rt <| Tr ?_
  obtain rfl := Option.some.inj hm
  exact ret_i []
 ·
  replace hm := cF hc9_4 hm
  refine AiF hc9_4 <| Sk <| Tk 9 1 ⟨.l enc_GType p0::tp 2 (.loc 0 0::tp 23 []), [(.box [(.i p1.Time), (.i p1.Source), (.i p1.Seq), (.s p1.Type_), (.l enc_GValue p1.Vals)])], 0⟩ <| Sq <| Sx <| Wz (.agg [(.i p1.Time), (.i p1.Source), (.i p1.Seq), (.s p1.Type_), (.l enc_GValue p1.Vals)]) (Old rfl) ?_
  obtain ⟨r11_1, hr11_1, hm⟩ := bnd hm
  refine Wz (.agg [(.i r11_1.Time), (.i r11_1.Source), (.i r11_1.Seq)]) (Ocf [] [] [] 0 (ok_event_Event_ID p1 r11_1 hr11_1) (fun a w => Tryd.call60 a w) rfl trivial) ?_
  obtain ⟨r12_1, hr12_1, hm⟩ := bnd hm
  refine Wz (.b r12_1) (Ocf [] [] [] 0 (ok_event_ID_may r11_1 r12_1 hr12_1) (fun a w => Tryd.call61 a w) rfl trivial) <| Wz (.b (!r12_1)) (Ocs (by kernel_rfl) (op_un rfl (a1 := .bool r12_1) (by kernel_rfl) (fun _ => hu_not))) <| Nk 8201 1 ⟨.l enc_GType p0::tp 2 (.loc 0 0::tp 9 (.b (!r12_1)::tp 13 [])), [(.box [(.i p1.Time), (.i p1.Source), (.i p1.Seq), (.s p1.Type_), (.l enc_GValue p1.Vals)])], 0⟩ ?_
  rcases tf_ (!r12_1) with hc13_5 | hc13_5
  ·
   replace hm := cT hc13_5 hm
   refine AiT hc13_5 <| Sx <| Wm (.i 8) rfl <| Nn <| Rt <| Tr ?_
   obtain rfl := Option.some.inj hm
   exact ret_i []
  ·
   replace hm := cF hc13_5 hm
   refine AiF hc13_5 <| Sk <| Tk 9 1 ⟨.l enc_GType p0::tp 2 (.loc 0 0::tp 23 []), [(.box [(.i p1.Time), (.i p1.Source), (.i p1.Seq), (.s p1.Type_), (.l enc_GValue p1.Vals)])], 0⟩ <| Sx <| Wm (.l enc_GType p0) rfl <| Wz (.loc 0 3) (Ofa rfl) <| Wz (.s p1.Type_) (Old rfl) ?_
   obtain ⟨r18_2, hr18_2, hm⟩ := bnd hm
   refine Wy (.tup [(.agg [(.s r18_2.1.Name), (.own 1)]), (.b r18_2.2)]) [(1, (Ar 75 2 enc_GField r18_2.1.Fields))] (Ocf [] [1] [] 0 (ok_schema_Find p0 p1.Type_ r18_2 hr18_2) (fun a w => Tryd.call59 a w) rfl trivial) <| Wm (.tup [(.agg [(.s r18_2.1.Name), (.own 1)]), (.b r18_2.2)]) rfl <| Wz (.agg [(.s r18_2.1.Name), (.own 1)]) (Oex rfl) <| Wz (.b r18_2.2) (Oex rfl) <| Wy (.loc 2 0) [(2, (.box [(.s ([] : List UInt8)), (.d .nil)]))] (Oal rfl) <| Wy (.tup []) [(2, (.box [(.s r18_2.1.Name), (.own 1)]))] (Ost rfl) <| Wm (.b r18_2.2) rfl <| Nk 104 7 ⟨tp 3 (.loc 0 0::tp 1 (.loc 2 0::.b r18_2.2::tp 20 [])), [(.box [(.i p1.Time), (.i p1.Source), (.i p1.Seq), (.s p1.Type_), (.l enc_GValue p1.Vals)]), (Ar 75 2 enc_GField r18_2.1.Fields), (.box [(.s r18_2.1.Name), (.own 1)])], 0⟩ <| Sq <| Sx <| Wm (.b r18_2.2) rfl <| Wz (.b (!r18_2.2)) (Ocs (by kernel_rfl) (op_un rfl (a1 := .bool r18_2.2) (by kernel_rfl) (fun _ => hu_not))) <| Nk 4194344 7 ⟨tp 3 (.loc 0 0::tp 1 (.loc 2 0::tp 16 (.b (!r18_2.2)::tp 4 []))), [(.box [(.i p1.Time), (.i p1.Source), (.i p1.Seq), (.s p1.Type_), (.l enc_GValue p1.Vals)]), (Ar 75 2 enc_GField r18_2.1.Fields), (.box [(.s r18_2.1.Name), (.own 1)])], 0⟩ ?_
   rcases tf_ (!r18_2.2) with hc22_6 | hc22_6
   ·
    replace hm := cT hc22_6 hm
    refine AiT hc22_6 <| Sx <| Wm (.i 6) rfl <| Nn <| Rt <| Tr ?_
    obtain rfl := Option.some.inj hm
    exact ret_i []
   ·
    replace hm := cF hc22_6 hm
    refine AiF hc22_6 <| Sk <| Tk 40 7 ⟨tp 3 (.loc 0 0::tp 1 (.loc 2 0::tp 21 [])), [(.box [(.i p1.Time), (.i p1.Source), (.i p1.Seq), (.s p1.Type_), (.l enc_GValue p1.Vals)]), (Ar 75 2 enc_GField r18_2.1.Fields), (.box [(.s r18_2.1.Name), (.own 1)])], 0⟩ <| Sx <| Wz (.agg [(.s r18_2.1.Name), (.own 1)]) (Old rfl) <| Wz (.loc 0 4) (Ofa rfl) <| Wz (.l enc_GValue p1.Vals) (Old rfl) ?_
    obtain ⟨r26_3, hr26_3, hm⟩ := bnd hm
    refine Wz (.i r26_3) (Ocp [] [] [1] 0 (ok_schema_Fits r18_2.1 p1.Vals r26_3 hr26_3) (plain_triv (by simp [A.Plain, A.Plains, D.Plain, byteD])) (fun a w => Tryd.call62 a w) rfl trivial) <| Wm (.i r26_3) rfl <| Nn <| Rt ?_
    obtain rfl := Option.some.inj hm
    exact ret_i []

theorem ok_slices_Equal_Value (p0 : (List GValue)) (p1 : (List GValue)) (r : Bool) (h : m_slices_Equal_Value p0 p1 = some r) : GCall Tryd.prog 66 [(.l enc_GValue p0), (.l enc_GValue p1)] [] (.b r) [] := by
 refine GCall.of_body (n := 26) (rs := [(.tmp 4)]) Tryd.func66 rfl rfl rfl <| Ato ⟨.l enc_GValue p0::.l enc_GValue p1::tu 24 [], [], 0⟩ ?_
 have hm := h
 unfold m_slices_Equal_Value at hm
 refine Sx <| Wm (.b false) rfl <| Nk 3 0 ⟨.l enc_GValue p0::.l enc_GValue p1::tp 24 [], [], 0⟩ <| Sq <| Sx <| Wm (.l enc_GValue p0) rfl <| Wz (.i ((List.length p0 : Nat) : Int)) (Oln rfl) <| Wm (.l enc_GValue p1) rfl <| Wz (.i ((List.length p1 : Nat) : Int)) (Oln rfl) <| Wz (.b (decide (((List.length p0 : Nat) : Int) ≠ ((List.length p1 : Nat) : Int)))) (Obn rfl (fun _ => hb_neq (k := .i64))) <| Nk 1027 0 ⟨.l enc_GValue p0::.l enc_GValue p1::tp 8 (.b (decide (((List.length p0 : Nat) : Int) ≠ ((List.length p1 : Nat) : Int)))::tp 15 []), [], 0⟩ ?_
 rcases tf_ (decide (((List.length p0 : Nat) : Int) ≠ ((List.length p1 : Nat) : Int))) with hc10_4 | hc10_4
 ·
  replace hm := cT hc10_4 hm
  refine AiT hc10_4 <| Sx <| Wm (.b false) rfl <| Nn <| Rt <| Tr ?_
  obtain rfl := Option.some.inj hm
  exact ret_i []
 ·
  replace hm := cF hc10_4 hm
  refine AiF hc10_4 <| Sk <| Tk 3 0 ⟨.l enc_GValue p0::.l enc_GValue p1::tp 24 [], [], 0⟩ <| Sq <| Sx <| Wm (.l enc_GValue p0) rfl <| Wz (.i ((List.length p0 : Nat) : Int)) (Oln rfl) <| Wm (.i 0) rfl <| Nk 12291 0 ⟨.l enc_GValue p0::.l enc_GValue p1::tp 10 (.i ((List.length p0 : Nat) : Int)::.i 0::tp 12 []), [], 0⟩ <| Bk ?_
  refine AWP.loopI (α := Nat × Int)
    (fun (fu_2, y13_2) => (⟨.l enc_GValue p0::.l enc_GValue p1::tp 10 (.i ((List.length p0 : Nat) : Int)::.i y13_2::tp 12 []), [], 0⟩ : St))
    (fun (fu_2, y13_2) => m_slices_Equal_Value_l2 p0 p1 fu_2 y13_2 = some r)
    (fun (fu_2, y13_2) => fu_2) (1152921504606846976, 0)
    (Weak.toK 12291 0 0 []) hm ?_
  rintro ⟨fu_2, y13_2⟩ n_2 hm ih_2
  try dsimp only at hm ih_2 ⊢
  cases fu_2 with
  | zero => exact absurd hm (by unfold m_slices_Equal_Value_l2; simp)
  | succ fu_2 =>
   unfold m_slices_Equal_Value_l2 at hm
   refine Sx <| Wz (.b (decide (y13_2 < ((List.length p0 : Nat) : Int)))) (Obn rfl (fun _ => hb_lss (k := .i64))) <| Nk 28675 0 ⟨.l enc_GValue p0::.l enc_GValue p1::tp 10 (.i ((List.length p0 : Nat) : Int)::.i y13_2::.b (decide (y13_2 < ((List.length p0 : Nat) : Int)))::tp 11 []), [], 0⟩ <| Sq ?_
   rcases tf_ (decide (y13_2 < ((List.length p0 : Nat) : Int))) with hc14_5 | hc14_5
   ·
    replace hm := cT hc14_5 hm
    refine AiT hc14_5 <| Sk <| Tk 12291 0 ⟨.l enc_GValue p0::.l enc_GValue p1::tp 10 (.i ((List.length p0 : Nat) : Int)::.i y13_2::tp 12 []), [], 0⟩ <| Sq <| Bk <| Sx <| Wm (.i y13_2) rfl <| Wm (.i y13_2) rfl <| Nk 12323 0 ⟨.l enc_GValue p0::.l enc_GValue p1::tp 3 (.i y13_2::tp 6 (.i ((List.length p0 : Nat) : Int)::.i y13_2::tp 12 [])), [], 0⟩ <| Sq <| Adr <| Wm (.l enc_GValue p0) rfl <| Wm (.i y13_2) rfl ?_
    obtain ⟨x18_3, hx18_3, hm⟩ := bnd hm
    obtain ⟨hx18_3i, hx18_3g⟩ := geti_some hx18_3
    refine Wz (.d (.ref (List.drop ((Int.toNat y13_2) * 4) (flatD enc_GValue p0)))) (Oia rfl enc_GValue_len hx18_3i hx18_3g) <| Wz (.agg [(.y x18_3.Kind), (.i x18_3.N), (.u x18_3.Bits), (.s x18_3.Text)]) (Lf rfl enc_GValue_len hx18_3g) <| Wm (.l enc_GValue p1) rfl <| Wm (.i y13_2) rfl ?_
    obtain ⟨x22_3, hx22_3, hm⟩ := bnd hm
    obtain ⟨hx22_3i, hx22_3g⟩ := geti_some hx22_3
    refine Wz (.d (.ref (List.drop ((Int.toNat y13_2) * 4) (flatD enc_GValue p1)))) (Oia rfl enc_GValue_len hx22_3i hx22_3g) <| Wz (.agg [(.y x22_3.Kind), (.i x22_3.N), (.u x22_3.Bits), (.s x22_3.Text)]) (Lf rfl enc_GValue_len hx22_3g) ?_
    obtain ⟨v24_3, hv24_3, hm⟩ := bnd hm; replace hv24_3 := Option.some.inj hv24_3
    refine Wz (.b v24_3) (Ocs (Eq.trans (lit_tf (by simp only [toS_inj])) (congrArg (fun z => A.d (.lit (.bool z))) hv24_3)) (op_neq_struct rfl (la := [(.y x18_3.Kind), (.i x18_3.N), (.u x18_3.Bits), (.s x18_3.Text)]) (lb := [(.y x22_3.Kind), (.i x22_3.N), (.u x22_3.Bits), (.s x22_3.Text)]) (us := [.int .u8 ((x18_3.Kind.toNat : Nat) : Int), .int .i64 x18_3.N, .int .u64 x18_3.Bits, .string (toS x18_3.Text)]) (vs := [.int .u8 ((x22_3.Kind.toNat : Nat) : Int), .int .i64 x22_3.N, .int .u64 x22_3.Bits, .string (toS x22_3.Text)]) (r := (decide (((x18_3.Kind.toNat : Nat) : Int) = ((x22_3.Kind.toNat : Nat) : Int)) && (decide (x18_3.N = x22_3.N) && (decide (x18_3.Bits = x22_3.Bits) && (decide ((toS x18_3.Text) = (toS x22_3.Text)) && true))))) (by kernel_rfl) (by kernel_rfl) (by kernel_rfl) (by kernel_rfl) (by kernel_rfl))) <| Wdr <| Tk 16789507 0 ⟨.l enc_GValue p0::.l enc_GValue p1::tp 10 (.i ((List.length p0 : Nat) : Int)::.i y13_2::tp 10 (.b v24_3::tp 1 [])), [], 0⟩ ?_
    rcases tf_ v24_3 with hc24_6 | hc24_6
    ·
     replace hm := cT hc24_6 hm
     refine AiT hc24_6 <| Sx <| Wm (.b false) rfl <| Nn <| Rt <| Ir <| Tr <| RoundK.ret <| Ir <| Tr ?_
     obtain rfl := Option.some.inj hm
     exact ret_i []
    ·
     replace hm := cF hc24_6 hm
     refine AiF hc24_6 <| Sk <| Ino <| Tk 12291 0 ⟨.l enc_GValue p0::.l enc_GValue p1::tp 10 (.i ((List.length p0 : Nat) : Int)::.i y13_2::tp 12 []), [], 0⟩ <| Tx <| Wz (.i (W6 (y13_2 + 1))) (Obn rfl (fun _ => hb_add (k := .i64))) <| Wm (.i (W6 (y13_2 + 1))) rfl <| Wn0 <| RoundK.normal ?_
     exact Rounds.weak (Weak.toK 12291 0 0 []) (ih_2 (fu_2, (W6 (y13_2 + 1))) hm (Nat.lt_succ_self _))
   ·
    replace hm := cF hc14_5 hm
    refine AiF hc14_5 <| AWP.exit <| Then.exit <| RoundK.exit <| InBlock.same <| Tk 0 0 ⟨tp 26 [], [], 0⟩ <| Sx <| Wm (.b true) rfl <| Nn <| Rt ?_
    obtain rfl := Option.some.inj hm
    exact ret_i []

theorem ok_event_Same (p0 : GEvent) (p1 : GEvent) (r : Bool) (h : m_event_Same p0 p1 = some r) : GCall Tryd.prog 41 [(.agg [(.i p0.Time), (.i p0.Source), (.i p0.Seq), (.s p0.Type_), (.l enc_GValue p0.Vals)]), (.agg [(.i p1.Time), (.i p1.Source), (.i p1.Seq), (.s p1.Type_), (.l enc_GValue p1.Vals)])] [] (.b r) [] := by
 refine GCall.of_body (n := 24) (rs := [(.tmp 4)]) Tryd.func41 rfl rfl rfl <| Ato ⟨.agg [(.i p0.Time), (.i p0.Source), (.i p0.Seq), (.s p0.Type_), (.l enc_GValue p0.Vals)]::.agg [(.i p1.Time), (.i p1.Source), (.i p1.Seq), (.s p1.Type_), (.l enc_GValue p1.Vals)]::tu 22 [], [], 0⟩ ?_
 have hm := h
 unfold m_event_Same at hm
 refine Sx <| Wy (.loc 0 0) [(0, (.box [(.i p0.Time), (.i p0.Source), (.i p0.Seq), (.s p0.Type_), (.l enc_GValue p0.Vals)]))] (Obx rfl) <| Wy (.loc 1 0) [(1, (.box [(.i p1.Time), (.i p1.Source), (.i p1.Seq), (.s p1.Type_), (.l enc_GValue p1.Vals)]))] (Obx rfl) <| Wm (.b false) rfl <| Nk 12 3 ⟨tp 2 (.loc 0 0::.loc 1 0::tp 20 []), [(.box [(.i p0.Time), (.i p0.Source), (.i p0.Seq), (.s p0.Type_), (.l enc_GValue p0.Vals)]), (.box [(.i p1.Time), (.i p1.Source), (.i p1.Seq), (.s p1.Type_), (.l enc_GValue p1.Vals)])], 0⟩ <| Sq <| Adr <| Wz (.agg [(.i p0.Time), (.i p0.Source), (.i p0.Seq), (.s p0.Type_), (.l enc_GValue p0.Vals)]) (Old rfl) ?_
 obtain ⟨r6_0, hr6_0, hm⟩ := bnd hm
 refine Wz (.agg [(.i r6_0.Time), (.i r6_0.Source), (.i r6_0.Seq)]) (Ocf [] [] [] 0 (ok_event_Event_ID p0 r6_0 hr6_0) (fun a w => Tryd.call60 a w) rfl trivial) <| Wz (.agg [(.i p1.Time), (.i p1.Source), (.i p1.Seq), (.s p1.Type_), (.l enc_GValue p1.Vals)]) (Old rfl) ?_
 obtain ⟨r8_0, hr8_0, hm⟩ := bnd hm
 refine Wz (.agg [(.i r8_0.Time), (.i r8_0.Source), (.i r8_0.Seq)]) (Ocf [] [] [] 0 (ok_event_Event_ID p1 r8_0 hr8_0) (fun a w => Tryd.call60 a w) rfl trivial) ?_
 obtain ⟨v9_0, hv9_0, hm⟩ := bnd hm; replace hv9_0 := Option.some.inj hv9_0
 refine Wz (.b v9_0) (Ocs (Eq.trans (by kernel_rfl) (congrArg (fun z => A.d (.lit (.bool z))) hv9_0)) (op_eql_struct rfl (la := [(.i r6_0.Time), (.i r6_0.Source), (.i r6_0.Seq)]) (lb := [(.i r8_0.Time), (.i r8_0.Source), (.i r8_0.Seq)]) (us := [.int .i64 r6_0.Time, .int .i64 r6_0.Source, .int .i64 r6_0.Seq]) (vs := [.int .i64 r8_0.Time, .int .i64 r8_0.Source, .int .i64 r8_0.Seq]) (r := (decide (r6_0.Time = r8_0.Time) && (decide (r6_0.Source = r8_0.Source) && (decide (r6_0.Seq = r8_0.Seq) && true)))) (by kernel_rfl) (by kernel_rfl) (by kernel_rfl) (by kernel_rfl) (by kernel_rfl))) ?_
 rcases tf_ v9_0 with hq10_0 | hq10_0
 ·
  replace hm := cT hq10_0 hm
  refine Wz (.b true) (Oq hq10_0 rfl) <| Wz (.loc 0 3) (Ofa rfl) <| Wz (.s p0.Type_) (Old rfl) <| Wz (.loc 1 3) (Ofa rfl) <| Wz (.s p1.Type_) (Old rfl) <| Wz (.b (decide (p0.Type_ = p1.Type_))) (Ocs (lit_tf (by simp only [toS_inj, ne_eq])) (op_bin rfl (a1 := .string (toS p0.Type_)) (a2 := .string (toS p1.Type_)) (by kernel_rfl) (by kernel_rfl) (fun _ => hb_seql))) <| Wz (.b (decide (p0.Type_ = p1.Type_))) (OpT rfl) ?_
  rcases tf_ (decide (p0.Type_ = p1.Type_)) with hq17_0 | hq17_0
  ·
   replace hm := cT hq17_0 hm
   refine Wz (.b true) (Oq hq17_0 rfl) <| Wz (.loc 0 4) (Ofa rfl) <| Wz (.l enc_GValue p0.Vals) (Old rfl) <| Wz (.loc 1 4) (Ofa rfl) <| Wz (.l enc_GValue p1.Vals) (Old rfl) ?_
   obtain ⟨r22_0, hr22_0, hm⟩ := bnd hm
   refine Wz (.b r22_0) (Ocf [] [] [] 0 (ok_slices_Equal_Value p0.Vals p1.Vals r22_0 hr22_0) (fun a w => Tryd.call66 a w) rfl trivial) <| Wz (.b r22_0) (OpT rfl) <| Wm (.b r22_0) rfl <| Wdr <| Tn <| Rt ?_
   obtain rfl := Option.some.inj hm
   exact ret_i []
  ·
   replace hm := cF hq17_0 hm
   refine Wz (.b false) (Oq hq17_0 rfl) <| Wn <| Wn <| Wn <| Wn <| Wn <| Wz (.b false) (OpF rfl) <| Wm (.b false) rfl <| Wdr <| Tn <| Rt ?_
   obtain rfl := Option.some.inj hm
   exact ret_i []
 ·
  replace hm := cF hq10_0 hm
  refine Wz (.b false) (Oq hq10_0 rfl) <| Wn <| Wn <| Wn <| Wn <| Wn <| Wz (.b false) (OpF rfl) <| Wm (.b false) rfl <| Wn <| Wn <| Wn <| Wn <| Wn <| Wz (.b false) (OpF rfl) ?_
  refine Wm (.b false) rfl <| Wdr <| Tn <| Rt ?_
  obtain rfl := Option.some.inj hm
  exact ret_i []

theorem ok_script_Command_more (p0 : GCommand) (r : Bool) (h : m_script_Command_more p0 = some r) : GCall Tryd.prog 37 [(.agg [(.y p0.Kind), (.s p0.Text), (.i p0.A), (.i p0.B), (.i p0.E.Time), (.i p0.E.Source), (.i p0.E.Seq), (.s p0.E.Type_), (.l enc_GValue p0.E.Vals)])] [] (.b r) [] := by
 refine GCall.of_body (n := 45) (rs := [(.tmp 2)]) Tryd.func37 rfl rfl rfl <| Ato ⟨.agg [(.y p0.Kind), (.s p0.Text), (.i p0.A), (.i p0.B), (.i p0.E.Time), (.i p0.E.Source), (.i p0.E.Seq), (.s p0.E.Type_), (.l enc_GValue p0.E.Vals)]::tu 44 [], [], 0⟩ ?_
 have hm := h
 unfold m_script_Command_more at hm
 refine Sx <| Wy (.loc 0 0) [(0, (.box [(.y p0.Kind), (.s p0.Text), (.i p0.A), (.i p0.B), (.i p0.E.Time), (.i p0.E.Source), (.i p0.E.Seq), (.s p0.E.Type_), (.l enc_GValue p0.E.Vals)]))] (Obx rfl) <| Wm (.b false) rfl <| Nk 2 1 ⟨tp 1 (.loc 0 0::tp 43 []), [(.box [(.y p0.Kind), (.s p0.Text), (.i p0.A), (.i p0.B), (.i p0.E.Time), (.i p0.E.Source), (.i p0.E.Seq), (.s p0.E.Type_), (.l enc_GValue p0.E.Vals)])], 0⟩ <| Sx <| Wz (.loc 0 4) (Ofa rfl) <| Wz (.agg [(.i p0.E.Time), (.i p0.E.Source), (.i p0.E.Seq), (.s p0.E.Type_), (.l enc_GValue p0.E.Vals)]) (Old rfl) <| Wz (.agg [(.i 0), (.i 0), (.i 0), (.s ([] : List UInt8)), (.d .nil)]) (Obd rfl) ?_
 obtain ⟨r7_0, hr7_0, hm⟩ := bnd hm
 refine Wz (.b r7_0) (Ocf [] [] [] 0 (ok_event_Same p0.E (GEvent.mk 0 0 0 ([] : List UInt8) ([] : List GValue)) r7_0 hr7_0) (fun a w => Tryd.call41 a w) rfl trivial) <| Wm (.b r7_0) rfl <| Nk 10 1 ⟨tp 1 (.loc 0 0::tp 1 (.b r7_0::tp 41 [])), [(.box [(.y p0.Kind), (.s p0.Text), (.i p0.A), (.i p0.B), (.i p0.E.Time), (.i p0.E.Source), (.i p0.E.Seq), (.s p0.E.Type_), (.l enc_GValue p0.E.Vals)])], 0⟩ <| Sx <| Wz (.agg [(.y p0.Kind), (.s p0.Text), (.i p0.A), (.i p0.B), (.i p0.E.Time), (.i p0.E.Source), (.i p0.E.Seq), (.s p0.E.Type_), (.l enc_GValue p0.E.Vals)]) (Old rfl) ?_
 obtain ⟨r9_1, hr9_1, hm⟩ := bnd hm
 refine Wz (.b r9_1) (Ocf [] [] [] 0 (ok_script_Command_has p0 1 r9_1 hr9_1) (fun a w => Tryd.call26 a w) rfl trivial) <| Wz (.b (!r9_1)) (Ocs (by kernel_rfl) (op_un rfl (a1 := .bool r9_1) (by kernel_rfl) (fun _ => hu_not))) ?_
 rcases tf_ (!r9_1) with hq11_1 | hq11_1
 ·
  replace hm := cT hq11_1 hm
  refine Wz (.b true) (Oq hq11_1 rfl) <| Wz (.loc 0 1) (Ofa rfl) <| Wz (.s p0.Text) (Old rfl) <| Wz (.b (decide (p0.Text ≠ ([] : List UInt8)))) (Ocs (lit_tf (by simp only [toS_inj, ne_eq])) (op_bin rfl (a1 := .string (toS p0.Text)) (a2 := .string (toS ([] : List UInt8))) (by kernel_rfl) (by kernel_rfl) (fun _ => hb_sneq))) <| Wz (.b (decide (p0.Text ≠ ([] : List UInt8)))) (OpT rfl) ?_
  rcases tf_ (decide (p0.Text ≠ ([] : List UInt8))) with hq16_1 | hq16_1
  ·
   replace hm := cT hq16_1 hm
   refine Wz (.b true) (Oq hq16_1 rfl) <| Wn <| Wn <| Wn <| Wn <| Wn <| Wn <| Wn <| Wz (.b true) (OpT rfl) <| Wm (.b true) rfl <| Wn <| Wn <| Wn <| Wn ?_
   refine Wn <| Wn <| Wn <| Wn <| Wz (.b true) (OpT rfl) <| Wm (.b true) rfl <| Wn <| Wn <| Wn <| Wn <| Wn <| Wn <| Wn <| Wn ?_
   refine Wz (.b true) (OpT rfl) <| Wm (.b true) rfl <| Nn <| Rt ?_
   obtain rfl := Option.some.inj hm
   exact ret_i []
  ·
   replace hm := cF hq16_1 hm
   refine Wz (.b false) (Oq hq16_1 rfl) <| Wz (.agg [(.y p0.Kind), (.s p0.Text), (.i p0.A), (.i p0.B), (.i p0.E.Time), (.i p0.E.Source), (.i p0.E.Seq), (.s p0.E.Type_), (.l enc_GValue p0.E.Vals)]) (Old rfl) ?_
   obtain ⟨r18_1, hr18_1, hm⟩ := bnd hm
   refine Wz (.b r18_1) (Ocf [] [] [] 0 (ok_script_Command_has p0 2 r18_1 hr18_1) (fun a w => Tryd.call26 a w) rfl trivial) <| Wz (.b (!r18_1)) (Ocs (by kernel_rfl) (op_un rfl (a1 := .bool r18_1) (by kernel_rfl) (fun _ => hu_not))) ?_
   rcases tf_ (!r18_1) with hq20_1 | hq20_1
   ·
    replace hm := cT hq20_1 hm
    refine Wz (.b true) (Oq hq20_1 rfl) <| Wm (.b r7_0) rfl <| Wz (.b (!r7_0)) (Ocs (by kernel_rfl) (op_un rfl (a1 := .bool r7_0) (by kernel_rfl) (fun _ => hu_not))) <| Wz (.b (!r7_0)) (OpT rfl) <| Wz (.b (!r7_0)) (OpF rfl) ?_
    rcases tf_ (!r7_0) with hq25_1 | hq25_1
    ·
     replace hm := cT hq25_1 hm
     refine Wz (.b true) (Oq hq25_1 rfl) <| Wn <| Wn <| Wn <| Wn <| Wn <| Wn <| Wn <| Wn <| Wz (.b true) (OpT rfl) <| Wm (.b true) rfl <| Wn <| Wn <| Wn ?_
     refine Wn <| Wn <| Wn <| Wn <| Wn <| Wz (.b true) (OpT rfl) <| Wm (.b true) rfl <| Nn <| Rt ?_
     obtain rfl := Option.some.inj hm
     exact ret_i []
    ·
     replace hm := cF hq25_1 hm
     refine Wz (.b false) (Oq hq25_1 rfl) <| Wz (.agg [(.y p0.Kind), (.s p0.Text), (.i p0.A), (.i p0.B), (.i p0.E.Time), (.i p0.E.Source), (.i p0.E.Seq), (.s p0.E.Type_), (.l enc_GValue p0.E.Vals)]) (Old rfl) ?_
     obtain ⟨r27_1, hr27_1, hm⟩ := bnd hm
     refine Wz (.b r27_1) (Ocf [] [] [] 0 (ok_script_Command_has p0 4 r27_1 hr27_1) (fun a w => Tryd.call26 a w) rfl trivial) <| Wz (.b (!r27_1)) (Ocs (by kernel_rfl) (op_un rfl (a1 := .bool r27_1) (by kernel_rfl) (fun _ => hu_not))) ?_
     rcases tf_ (!r27_1) with hq29_1 | hq29_1
     ·
      replace hm := cT hq29_1 hm
      refine Wz (.b true) (Oq hq29_1 rfl) <| Wz (.loc 0 2) (Ofa rfl) <| Wz (.i p0.A) (Old rfl) <| Wz (.b (decide (p0.A ≠ 0))) (Obn rfl (fun _ => hb_neq (k := .i64))) <| Wz (.b (decide (p0.A ≠ 0))) (OpT rfl) <| Wz (.b (decide (p0.A ≠ 0))) (OpF rfl) ?_
      rcases tf_ (decide (p0.A ≠ 0)) with hq35_1 | hq35_1
      ·
       replace hm := cT hq35_1 hm
       refine Wz (.b true) (Oq hq35_1 rfl) <| Wn <| Wn <| Wn <| Wn <| Wn <| Wn <| Wn <| Wn <| Wz (.b true) (OpT rfl) <| Wm (.b true) rfl <| Nn <| Rt ?_
       obtain rfl := Option.some.inj hm
       exact ret_i []
      ·
       replace hm := cF hq35_1 hm
       refine Wz (.b false) (Oq hq35_1 rfl) <| Wz (.agg [(.y p0.Kind), (.s p0.Text), (.i p0.A), (.i p0.B), (.i p0.E.Time), (.i p0.E.Source), (.i p0.E.Seq), (.s p0.E.Type_), (.l enc_GValue p0.E.Vals)]) (Old rfl) ?_
       obtain ⟨r37_1, hr37_1, hm⟩ := bnd hm
       refine Wz (.b r37_1) (Ocf [] [] [] 0 (ok_script_Command_has p0 8 r37_1 hr37_1) (fun a w => Tryd.call26 a w) rfl trivial) <| Wz (.b (!r37_1)) (Ocs (by kernel_rfl) (op_un rfl (a1 := .bool r37_1) (by kernel_rfl) (fun _ => hu_not))) ?_
       rcases tf_ (!r37_1) with hq39_1 | hq39_1
       ·
        replace hm := cT hq39_1 hm
        refine Wz (.b true) (Oq hq39_1 rfl) <| Wz (.loc 0 3) (Ofa rfl) <| Wz (.i p0.B) (Old rfl) <| Wz (.b (decide (p0.B ≠ 0))) (Obn rfl (fun _ => hb_neq (k := .i64))) <| Wz (.b (decide (p0.B ≠ 0))) (OpT rfl) <| Wz (.b (decide (p0.B ≠ 0))) (OpF rfl) <| Wm (.b (decide (p0.B ≠ 0))) rfl <| Nn <| Rt ?_
        obtain rfl := Option.some.inj hm
        exact ret_i []
       ·
        replace hm := cF hq39_1 hm
        refine Wz (.b false) (Oq hq39_1 rfl) <| Wn <| Wn <| Wn <| Wz (.b false) (OpF rfl) <| Wz (.b false) (OpF rfl) <| Wm (.b false) rfl <| Nn <| Rt ?_
        obtain rfl := Option.some.inj hm
        exact ret_i []
     ·
      replace hm := cF hq29_1 hm
      refine Wz (.b false) (Oq hq29_1 rfl) <| Wn <| Wn <| Wn <| Wz (.b false) (OpF rfl) <| Wz (.b false) (OpF rfl) <| Wm (.b false) rfl <| Wz (.agg [(.y p0.Kind), (.s p0.Text), (.i p0.A), (.i p0.B), (.i p0.E.Time), (.i p0.E.Source), (.i p0.E.Seq), (.s p0.E.Type_), (.l enc_GValue p0.E.Vals)]) (Old rfl) ?_
      obtain ⟨r37_1, hr37_1, hm⟩ := bnd hm
      refine Wz (.b r37_1) (Ocf [] [] [] 0 (ok_script_Command_has p0 8 r37_1 hr37_1) (fun a w => Tryd.call26 a w) rfl trivial) <| Wz (.b (!r37_1)) (Ocs (by kernel_rfl) (op_un rfl (a1 := .bool r37_1) (by kernel_rfl) (fun _ => hu_not))) ?_
      rcases tf_ (!r37_1) with hq39_1 | hq39_1
      ·
       replace hm := cT hq39_1 hm
       refine Wz (.b true) (Oq hq39_1 rfl) <| Wz (.loc 0 3) (Ofa rfl) <| Wz (.i p0.B) (Old rfl) <| Wz (.b (decide (p0.B ≠ 0))) (Obn rfl (fun _ => hb_neq (k := .i64))) <| Wz (.b (decide (p0.B ≠ 0))) (OpT rfl) <| Wz (.b (decide (p0.B ≠ 0))) (OpF rfl) <| Wm (.b (decide (p0.B ≠ 0))) rfl <| Nn <| Rt ?_
       obtain rfl := Option.some.inj hm
       exact ret_i []
      ·
       replace hm := cF hq39_1 hm
       refine Wz (.b false) (Oq hq39_1 rfl) <| Wn <| Wn <| Wn <| Wz (.b false) (OpF rfl) <| Wz (.b false) (OpF rfl) <| Wm (.b false) rfl <| Nn <| Rt ?_
       obtain rfl := Option.some.inj hm
       exact ret_i []
   ·
    replace hm := cF hq20_1 hm
    refine Wz (.b false) (Oq hq20_1 rfl) <| Wn <| Wn <| Wz (.b false) (OpF rfl) <| Wz (.b false) (OpF rfl) <| Wm (.b false) rfl <| Wz (.agg [(.y p0.Kind), (.s p0.Text), (.i p0.A), (.i p0.B), (.i p0.E.Time), (.i p0.E.Source), (.i p0.E.Seq), (.s p0.E.Type_), (.l enc_GValue p0.E.Vals)]) (Old rfl) ?_
    obtain ⟨r27_1, hr27_1, hm⟩ := bnd hm
    refine Wz (.b r27_1) (Ocf [] [] [] 0 (ok_script_Command_has p0 4 r27_1 hr27_1) (fun a w => Tryd.call26 a w) rfl trivial) <| Wz (.b (!r27_1)) (Ocs (by kernel_rfl) (op_un rfl (a1 := .bool r27_1) (by kernel_rfl) (fun _ => hu_not))) ?_
    rcases tf_ (!r27_1) with hq29_1 | hq29_1
    ·
     replace hm := cT hq29_1 hm
     refine Wz (.b true) (Oq hq29_1 rfl) <| Wz (.loc 0 2) (Ofa rfl) <| Wz (.i p0.A) (Old rfl) <| Wz (.b (decide (p0.A ≠ 0))) (Obn rfl (fun _ => hb_neq (k := .i64))) <| Wz (.b (decide (p0.A ≠ 0))) (OpT rfl) <| Wz (.b (decide (p0.A ≠ 0))) (OpF rfl) ?_
     rcases tf_ (decide (p0.A ≠ 0)) with hq35_1 | hq35_1
     ·
      replace hm := cT hq35_1 hm
      refine Wz (.b true) (Oq hq35_1 rfl) <| Wn <| Wn <| Wn <| Wn <| Wn <| Wn <| Wn <| Wn <| Wz (.b true) (OpT rfl) <| Wm (.b true) rfl <| Nn <| Rt ?_
      obtain rfl := Option.some.inj hm
      exact ret_i []
     ·
      replace hm := cF hq35_1 hm
      refine Wz (.b false) (Oq hq35_1 rfl) <| Wz (.agg [(.y p0.Kind), (.s p0.Text), (.i p0.A), (.i p0.B), (.i p0.E.Time), (.i p0.E.Source), (.i p0.E.Seq), (.s p0.E.Type_), (.l enc_GValue p0.E.Vals)]) (Old rfl) ?_
      obtain ⟨r37_1, hr37_1, hm⟩ := bnd hm
      refine Wz (.b r37_1) (Ocf [] [] [] 0 (ok_script_Command_has p0 8 r37_1 hr37_1) (fun a w => Tryd.call26 a w) rfl trivial) <| Wz (.b (!r37_1)) (Ocs (by kernel_rfl) (op_un rfl (a1 := .bool r37_1) (by kernel_rfl) (fun _ => hu_not))) ?_
      rcases tf_ (!r37_1) with hq39_1 | hq39_1
      ·
       replace hm := cT hq39_1 hm
       refine Wz (.b true) (Oq hq39_1 rfl) <| Wz (.loc 0 3) (Ofa rfl) <| Wz (.i p0.B) (Old rfl) <| Wz (.b (decide (p0.B ≠ 0))) (Obn rfl (fun _ => hb_neq (k := .i64))) <| Wz (.b (decide (p0.B ≠ 0))) (OpT rfl) <| Wz (.b (decide (p0.B ≠ 0))) (OpF rfl) <| Wm (.b (decide (p0.B ≠ 0))) rfl <| Nn <| Rt ?_
       obtain rfl := Option.some.inj hm
       exact ret_i []
      ·
       replace hm := cF hq39_1 hm
       refine Wz (.b false) (Oq hq39_1 rfl) <| Wn <| Wn <| Wn <| Wz (.b false) (OpF rfl) <| Wz (.b false) (OpF rfl) <| Wm (.b false) rfl <| Nn <| Rt ?_
       obtain rfl := Option.some.inj hm
       exact ret_i []
    ·
     replace hm := cF hq29_1 hm
     refine Wz (.b false) (Oq hq29_1 rfl) <| Wn <| Wn <| Wn <| Wz (.b false) (OpF rfl) <| Wz (.b false) (OpF rfl) <| Wm (.b false) rfl <| Wz (.agg [(.y p0.Kind), (.s p0.Text), (.i p0.A), (.i p0.B), (.i p0.E.Time), (.i p0.E.Source), (.i p0.E.Seq), (.s p0.E.Type_), (.l enc_GValue p0.E.Vals)]) (Old rfl) ?_
     obtain ⟨r37_1, hr37_1, hm⟩ := bnd hm
     refine Wz (.b r37_1) (Ocf [] [] [] 0 (ok_script_Command_has p0 8 r37_1 hr37_1) (fun a w => Tryd.call26 a w) rfl trivial) <| Wz (.b (!r37_1)) (Ocs (by kernel_rfl) (op_un rfl (a1 := .bool r37_1) (by kernel_rfl) (fun _ => hu_not))) ?_
     rcases tf_ (!r37_1) with hq39_1 | hq39_1
     ·
      replace hm := cT hq39_1 hm
      refine Wz (.b true) (Oq hq39_1 rfl) <| Wz (.loc 0 3) (Ofa rfl) <| Wz (.i p0.B) (Old rfl) <| Wz (.b (decide (p0.B ≠ 0))) (Obn rfl (fun _ => hb_neq (k := .i64))) <| Wz (.b (decide (p0.B ≠ 0))) (OpT rfl) <| Wz (.b (decide (p0.B ≠ 0))) (OpF rfl) <| Wm (.b (decide (p0.B ≠ 0))) rfl <| Nn <| Rt ?_
      obtain rfl := Option.some.inj hm
      exact ret_i []
     ·
      replace hm := cF hq39_1 hm
      refine Wz (.b false) (Oq hq39_1 rfl) <| Wn <| Wn <| Wn <| Wz (.b false) (OpF rfl) <| Wz (.b false) (OpF rfl) <| Wm (.b false) rfl <| Nn <| Rt ?_
      obtain rfl := Option.some.inj hm
      exact ret_i []
 ·
  replace hm := cF hq11_1 hm
  refine Wz (.b false) (Oq hq11_1 rfl) <| Wn <| Wn <| Wn <| Wz (.b false) (OpF rfl) <| Wm (.b false) rfl <| Wz (.agg [(.y p0.Kind), (.s p0.Text), (.i p0.A), (.i p0.B), (.i p0.E.Time), (.i p0.E.Source), (.i p0.E.Seq), (.s p0.E.Type_), (.l enc_GValue p0.E.Vals)]) (Old rfl) ?_
  obtain ⟨r18_1, hr18_1, hm⟩ := bnd hm
  refine Wz (.b r18_1) (Ocf [] [] [] 0 (ok_script_Command_has p0 2 r18_1 hr18_1) (fun a w => Tryd.call26 a w) rfl trivial) <| Wz (.b (!r18_1)) (Ocs (by kernel_rfl) (op_un rfl (a1 := .bool r18_1) (by kernel_rfl) (fun _ => hu_not))) ?_
  rcases tf_ (!r18_1) with hq20_1 | hq20_1
  ·
   replace hm := cT hq20_1 hm
   refine Wz (.b true) (Oq hq20_1 rfl) <| Wm (.b r7_0) rfl <| Wz (.b (!r7_0)) (Ocs (by kernel_rfl) (op_un rfl (a1 := .bool r7_0) (by kernel_rfl) (fun _ => hu_not))) <| Wz (.b (!r7_0)) (OpT rfl) <| Wz (.b (!r7_0)) (OpF rfl) ?_
   rcases tf_ (!r7_0) with hq25_1 | hq25_1
   ·
    replace hm := cT hq25_1 hm
    refine Wz (.b true) (Oq hq25_1 rfl) <| Wn <| Wn <| Wn <| Wn <| Wn <| Wn <| Wn <| Wn <| Wz (.b true) (OpT rfl) <| Wm (.b true) rfl <| Wn <| Wn <| Wn ?_
    refine Wn <| Wn <| Wn <| Wn <| Wn <| Wz (.b true) (OpT rfl) <| Wm (.b true) rfl <| Nn <| Rt ?_
    obtain rfl := Option.some.inj hm
    exact ret_i []
   ·
    replace hm := cF hq25_1 hm
    refine Wz (.b false) (Oq hq25_1 rfl) <| Wz (.agg [(.y p0.Kind), (.s p0.Text), (.i p0.A), (.i p0.B), (.i p0.E.Time), (.i p0.E.Source), (.i p0.E.Seq), (.s p0.E.Type_), (.l enc_GValue p0.E.Vals)]) (Old rfl) ?_
    obtain ⟨r27_1, hr27_1, hm⟩ := bnd hm
    refine Wz (.b r27_1) (Ocf [] [] [] 0 (ok_script_Command_has p0 4 r27_1 hr27_1) (fun a w => Tryd.call26 a w) rfl trivial) <| Wz (.b (!r27_1)) (Ocs (by kernel_rfl) (op_un rfl (a1 := .bool r27_1) (by kernel_rfl) (fun _ => hu_not))) ?_
    rcases tf_ (!r27_1) with hq29_1 | hq29_1
    ·
     replace hm := cT hq29_1 hm
     refine Wz (.b true) (Oq hq29_1 rfl) <| Wz (.loc 0 2) (Ofa rfl) <| Wz (.i p0.A) (Old rfl) <| Wz (.b (decide (p0.A ≠ 0))) (Obn rfl (fun _ => hb_neq (k := .i64))) <| Wz (.b (decide (p0.A ≠ 0))) (OpT rfl) <| Wz (.b (decide (p0.A ≠ 0))) (OpF rfl) ?_
     rcases tf_ (decide (p0.A ≠ 0)) with hq35_1 | hq35_1
     ·
      replace hm := cT hq35_1 hm
      refine Wz (.b true) (Oq hq35_1 rfl) <| Wn <| Wn <| Wn <| Wn <| Wn <| Wn <| Wn <| Wn <| Wz (.b true) (OpT rfl) <| Wm (.b true) rfl <| Nn <| Rt ?_
      obtain rfl := Option.some.inj hm
      exact ret_i []
     ·
      replace hm := cF hq35_1 hm
      refine Wz (.b false) (Oq hq35_1 rfl) <| Wz (.agg [(.y p0.Kind), (.s p0.Text), (.i p0.A), (.i p0.B), (.i p0.E.Time), (.i p0.E.Source), (.i p0.E.Seq), (.s p0.E.Type_), (.l enc_GValue p0.E.Vals)]) (Old rfl) ?_
      obtain ⟨r37_1, hr37_1, hm⟩ := bnd hm
      refine Wz (.b r37_1) (Ocf [] [] [] 0 (ok_script_Command_has p0 8 r37_1 hr37_1) (fun a w => Tryd.call26 a w) rfl trivial) <| Wz (.b (!r37_1)) (Ocs (by kernel_rfl) (op_un rfl (a1 := .bool r37_1) (by kernel_rfl) (fun _ => hu_not))) ?_
      rcases tf_ (!r37_1) with hq39_1 | hq39_1
      ·
       replace hm := cT hq39_1 hm
       refine Wz (.b true) (Oq hq39_1 rfl) <| Wz (.loc 0 3) (Ofa rfl) <| Wz (.i p0.B) (Old rfl) <| Wz (.b (decide (p0.B ≠ 0))) (Obn rfl (fun _ => hb_neq (k := .i64))) <| Wz (.b (decide (p0.B ≠ 0))) (OpT rfl) <| Wz (.b (decide (p0.B ≠ 0))) (OpF rfl) <| Wm (.b (decide (p0.B ≠ 0))) rfl <| Nn <| Rt ?_
       obtain rfl := Option.some.inj hm
       exact ret_i []
      ·
       replace hm := cF hq39_1 hm
       refine Wz (.b false) (Oq hq39_1 rfl) <| Wn <| Wn <| Wn <| Wz (.b false) (OpF rfl) <| Wz (.b false) (OpF rfl) <| Wm (.b false) rfl <| Nn <| Rt ?_
       obtain rfl := Option.some.inj hm
       exact ret_i []
    ·
     replace hm := cF hq29_1 hm
     refine Wz (.b false) (Oq hq29_1 rfl) <| Wn <| Wn <| Wn <| Wz (.b false) (OpF rfl) <| Wz (.b false) (OpF rfl) <| Wm (.b false) rfl <| Wz (.agg [(.y p0.Kind), (.s p0.Text), (.i p0.A), (.i p0.B), (.i p0.E.Time), (.i p0.E.Source), (.i p0.E.Seq), (.s p0.E.Type_), (.l enc_GValue p0.E.Vals)]) (Old rfl) ?_
     obtain ⟨r37_1, hr37_1, hm⟩ := bnd hm
     refine Wz (.b r37_1) (Ocf [] [] [] 0 (ok_script_Command_has p0 8 r37_1 hr37_1) (fun a w => Tryd.call26 a w) rfl trivial) <| Wz (.b (!r37_1)) (Ocs (by kernel_rfl) (op_un rfl (a1 := .bool r37_1) (by kernel_rfl) (fun _ => hu_not))) ?_
     rcases tf_ (!r37_1) with hq39_1 | hq39_1
     ·
      replace hm := cT hq39_1 hm
      refine Wz (.b true) (Oq hq39_1 rfl) <| Wz (.loc 0 3) (Ofa rfl) <| Wz (.i p0.B) (Old rfl) <| Wz (.b (decide (p0.B ≠ 0))) (Obn rfl (fun _ => hb_neq (k := .i64))) <| Wz (.b (decide (p0.B ≠ 0))) (OpT rfl) <| Wz (.b (decide (p0.B ≠ 0))) (OpF rfl) <| Wm (.b (decide (p0.B ≠ 0))) rfl <| Nn <| Rt ?_
      obtain rfl := Option.some.inj hm
      exact ret_i []
     ·
      replace hm := cF hq39_1 hm
      refine Wz (.b false) (Oq hq39_1 rfl) <| Wn <| Wn <| Wn <| Wz (.b false) (OpF rfl) <| Wz (.b false) (OpF rfl) <| Wm (.b false) rfl <| Nn <| Rt ?_
      obtain rfl := Option.some.inj hm
      exact ret_i []
  ·
   replace hm := cF hq20_1 hm
   refine Wz (.b false) (Oq hq20_1 rfl) <| Wn <| Wn <| Wz (.b false) (OpF rfl) <| Wz (.b false) (OpF rfl) <| Wm (.b false) rfl <| Wz (.agg [(.y p0.Kind), (.s p0.Text), (.i p0.A), (.i p0.B), (.i p0.E.Time), (.i p0.E.Source), (.i p0.E.Seq), (.s p0.E.Type_), (.l enc_GValue p0.E.Vals)]) (Old rfl) ?_
   obtain ⟨r27_1, hr27_1, hm⟩ := bnd hm
   refine Wz (.b r27_1) (Ocf [] [] [] 0 (ok_script_Command_has p0 4 r27_1 hr27_1) (fun a w => Tryd.call26 a w) rfl trivial) <| Wz (.b (!r27_1)) (Ocs (by kernel_rfl) (op_un rfl (a1 := .bool r27_1) (by kernel_rfl) (fun _ => hu_not))) ?_
   rcases tf_ (!r27_1) with hq29_1 | hq29_1
   ·
    replace hm := cT hq29_1 hm
    refine Wz (.b true) (Oq hq29_1 rfl) <| Wz (.loc 0 2) (Ofa rfl) <| Wz (.i p0.A) (Old rfl) <| Wz (.b (decide (p0.A ≠ 0))) (Obn rfl (fun _ => hb_neq (k := .i64))) <| Wz (.b (decide (p0.A ≠ 0))) (OpT rfl) <| Wz (.b (decide (p0.A ≠ 0))) (OpF rfl) ?_
    rcases tf_ (decide (p0.A ≠ 0)) with hq35_1 | hq35_1
    ·
     replace hm := cT hq35_1 hm
     refine Wz (.b true) (Oq hq35_1 rfl) <| Wn <| Wn <| Wn <| Wn <| Wn <| Wn <| Wn <| Wn <| Wz (.b true) (OpT rfl) <| Wm (.b true) rfl <| Nn <| Rt ?_
     obtain rfl := Option.some.inj hm
     exact ret_i []
    ·
     replace hm := cF hq35_1 hm
     refine Wz (.b false) (Oq hq35_1 rfl) <| Wz (.agg [(.y p0.Kind), (.s p0.Text), (.i p0.A), (.i p0.B), (.i p0.E.Time), (.i p0.E.Source), (.i p0.E.Seq), (.s p0.E.Type_), (.l enc_GValue p0.E.Vals)]) (Old rfl) ?_
     obtain ⟨r37_1, hr37_1, hm⟩ := bnd hm
     refine Wz (.b r37_1) (Ocf [] [] [] 0 (ok_script_Command_has p0 8 r37_1 hr37_1) (fun a w => Tryd.call26 a w) rfl trivial) <| Wz (.b (!r37_1)) (Ocs (by kernel_rfl) (op_un rfl (a1 := .bool r37_1) (by kernel_rfl) (fun _ => hu_not))) ?_
     rcases tf_ (!r37_1) with hq39_1 | hq39_1
     ·
      replace hm := cT hq39_1 hm
      refine Wz (.b true) (Oq hq39_1 rfl) <| Wz (.loc 0 3) (Ofa rfl) <| Wz (.i p0.B) (Old rfl) <| Wz (.b (decide (p0.B ≠ 0))) (Obn rfl (fun _ => hb_neq (k := .i64))) <| Wz (.b (decide (p0.B ≠ 0))) (OpT rfl) <| Wz (.b (decide (p0.B ≠ 0))) (OpF rfl) <| Wm (.b (decide (p0.B ≠ 0))) rfl <| Nn <| Rt ?_
      obtain rfl := Option.some.inj hm
      exact ret_i []
     ·
      replace hm := cF hq39_1 hm
      refine Wz (.b false) (Oq hq39_1 rfl) <| Wn <| Wn <| Wn <| Wz (.b false) (OpF rfl) <| Wz (.b false) (OpF rfl) <| Wm (.b false) rfl <| Nn <| Rt ?_
      obtain rfl := Option.some.inj hm
      exact ret_i []
   ·
    replace hm := cF hq29_1 hm
    refine Wz (.b false) (Oq hq29_1 rfl) <| Wn <| Wn <| Wn <| Wz (.b false) (OpF rfl) <| Wz (.b false) (OpF rfl) <| Wm (.b false) rfl <| Wz (.agg [(.y p0.Kind), (.s p0.Text), (.i p0.A), (.i p0.B), (.i p0.E.Time), (.i p0.E.Source), (.i p0.E.Seq), (.s p0.E.Type_), (.l enc_GValue p0.E.Vals)]) (Old rfl) ?_
    obtain ⟨r37_1, hr37_1, hm⟩ := bnd hm
    refine Wz (.b r37_1) (Ocf [] [] [] 0 (ok_script_Command_has p0 8 r37_1 hr37_1) (fun a w => Tryd.call26 a w) rfl trivial) <| Wz (.b (!r37_1)) (Ocs (by kernel_rfl) (op_un rfl (a1 := .bool r37_1) (by kernel_rfl) (fun _ => hu_not))) ?_
    rcases tf_ (!r37_1) with hq39_1 | hq39_1
    ·
     replace hm := cT hq39_1 hm
     refine Wz (.b true) (Oq hq39_1 rfl) <| Wz (.loc 0 3) (Ofa rfl) <| Wz (.i p0.B) (Old rfl) <| Wz (.b (decide (p0.B ≠ 0))) (Obn rfl (fun _ => hb_neq (k := .i64))) <| Wz (.b (decide (p0.B ≠ 0))) (OpT rfl) <| Wz (.b (decide (p0.B ≠ 0))) (OpF rfl) <| Wm (.b (decide (p0.B ≠ 0))) rfl <| Nn <| Rt ?_
     obtain rfl := Option.some.inj hm
     exact ret_i []
    ·
     replace hm := cF hq39_1 hm
     refine Wz (.b false) (Oq hq39_1 rfl) <| Wn <| Wn <| Wn <| Wz (.b false) (OpF rfl) <| Wz (.b false) (OpF rfl) <| Wm (.b false) rfl <| Nn <| Rt ?_
     obtain rfl := Option.some.inj hm
     exact ret_i []

theorem ok_script_Check (p0 : (List GType)) (p1 : GCommand) (r : Int) (h : m_script_Check p0 p1 = some r) : GCall Tryd.prog 14 [(.l enc_GType p0), (.agg [(.y p1.Kind), (.s p1.Text), (.i p1.A), (.i p1.B), (.i p1.E.Time), (.i p1.E.Source), (.i p1.E.Seq), (.s p1.E.Type_), (.l enc_GValue p1.E.Vals)])] [] (.i r) [] := by
 refine GCall.of_body (n := 34) (rs := [(.tmp 4)]) Tryd.func14 rfl rfl rfl <| Ato ⟨.l enc_GType p0::.agg [(.y p1.Kind), (.s p1.Text), (.i p1.A), (.i p1.B), (.i p1.E.Time), (.i p1.E.Source), (.i p1.E.Seq), (.s p1.E.Type_), (.l enc_GValue p1.E.Vals)]::tu 32 [], [], 0⟩ ?_
 have hm := h
 unfold m_script_Check at hm
 refine Sx <| Wy (.loc 0 0) [(0, (.box [(.y p1.Kind), (.s p1.Text), (.i p1.A), (.i p1.B), (.i p1.E.Time), (.i p1.E.Source), (.i p1.E.Seq), (.s p1.E.Type_), (.l enc_GValue p1.E.Vals)]))] (Obx rfl) <| Wm (.i 0) rfl <| Nk 9 1 ⟨.l enc_GType p0::tp 2 (.loc 0 0::tp 30 []), [(.box [(.y p1.Kind), (.s p1.Text), (.i p1.A), (.i p1.B), (.i p1.E.Time), (.i p1.E.Source), (.i p1.E.Seq), (.s p1.E.Type_), (.l enc_GValue p1.E.Vals)])], 0⟩ ?_
 refine AWP.cutJ (α := Unit) (fun x => match x with | () => (⟨.l enc_GType p0::tp 2 (.loc 0 0::tp 30 []), [(.box [(.y p1.Kind), (.s p1.Text), (.i p1.A), (.i p1.B), (.i p1.E.Time), (.i p1.E.Source), (.i p1.E.Seq), (.s p1.E.Type_), (.l enc_GValue p1.E.Vals)])], 0⟩ : St)) (fun x => match x with | () => m_script_Check_j3 p0 p1 = some r) ?_ (fun J3 => ?_)
 ·
  rintro ⟨⟩ hm
  try dsimp only at hm ⊢
  unfold m_script_Check_j3 at hm
  refine AWP.cutJ (α := Unit) (fun x => match x with | () => (⟨tp 3 (.loc 0 0::tp 30 []), [(.box [(.y p1.Kind), (.s p1.Text), (.i p1.A), (.i p1.B), (.i p1.E.Time), (.i p1.E.Source), (.i p1.E.Seq), (.s p1.E.Type_), (.l enc_GValue p1.E.Vals)])], 0⟩ : St)) (fun x => match x with | () => m_script_Check_j6 p1 = some r) ?_ (fun J6 => ?_)
  ·
   rintro ⟨⟩ hm
   try dsimp only at hm ⊢
   unfold m_script_Check_j6 at hm
   refine Sq <| Sx <| Wz (.agg [(.y p1.Kind), (.s p1.Text), (.i p1.A), (.i p1.B), (.i p1.E.Time), (.i p1.E.Source), (.i p1.E.Seq), (.s p1.E.Type_), (.l enc_GValue p1.E.Vals)]) (Old rfl) ?_
   obtain ⟨r33_7, hr33_7, hm⟩ := bnd hm
   refine Wz (.b r33_7) (Ocf [] [] [] 0 (ok_script_Command_more p1 r33_7 hr33_7) (fun a w => Tryd.call37 a w) rfl trivial) <| Nk 8589934592 0 ⟨tp 33 (.b r33_7::[]), [.gone], 0⟩ ?_
   rcases tf_ r33_7 with hc33_8 | hc33_8
   ·
    replace hm := cT hc33_8 hm
    refine AiT hc33_8 <| Sx <| Wm (.i 2) rfl <| Nn <| Rt <| Tr ?_
    obtain rfl := Option.some.inj hm
    exact ret_i []
   ·
    replace hm := cF hc33_8 hm
    refine AiF hc33_8 <| Sk <| Tk 0 0 ⟨tp 34 [], [.gone], 0⟩ <| Sx <| Wm (.i 0) rfl <| Nn <| Rt ?_
    obtain rfl := Option.some.inj hm
    exact ret_i []
  refine Sq <| Sx <| Wz (.agg [(.y p1.Kind), (.s p1.Text), (.i p1.A), (.i p1.B), (.i p1.E.Time), (.i p1.E.Source), (.i p1.E.Seq), (.s p1.E.Type_), (.l enc_GValue p1.E.Vals)]) (Old rfl) ?_
  obtain ⟨r24_4, hr24_4, hm⟩ := bnd hm
  refine Wz (.b r24_4) (Ocf [] [] [] 0 (ok_script_Command_has p1 2 r24_4 hr24_4) (fun a w => Tryd.call26 a w) rfl trivial) <| Nk 16777225 1 ⟨.l enc_GType p0::tp 2 (.loc 0 0::tp 20 (.b r24_4::tp 9 [])), [(.box [(.y p1.Kind), (.s p1.Text), (.i p1.A), (.i p1.B), (.i p1.E.Time), (.i p1.E.Source), (.i p1.E.Seq), (.s p1.E.Type_), (.l enc_GValue p1.E.Vals)])], 0⟩ ?_
  rcases tf_ r24_4 with hc24_9 | hc24_9
  ·
   replace hm := cT hc24_9 hm
   refine AiT hc24_9 <| Sx <| Wm (.l enc_GType p0) rfl <| Wz (.loc 0 4) (Ofa rfl) <| Wz (.agg [(.i p1.E.Time), (.i p1.E.Source), (.i p1.E.Seq), (.s p1.E.Type_), (.l enc_GValue p1.E.Vals)]) (Old rfl) ?_
   obtain ⟨r28_5, hr28_5, hm⟩ := bnd hm
   refine Wz (.i r28_5) (Ocf [] [] [] 0 (ok_event_Check p0 p1.E r28_5 hr28_5) (fun a w => Tryd.call36 a w) rfl trivial) <| Wm (.i r28_5) rfl <| Nk 40 1 ⟨tp 3 (.loc 0 0::tp 1 (.i r28_5::tp 28 [])), [(.box [(.y p1.Kind), (.s p1.Text), (.i p1.A), (.i p1.B), (.i p1.E.Time), (.i p1.E.Source), (.i p1.E.Seq), (.s p1.E.Type_), (.l enc_GValue p1.E.Vals)])], 0⟩ <| Sx <| Wm (.i r28_5) rfl <| Wz (.b (decide (r28_5 ≠ 0))) (Obn rfl (fun _ => hb_neq (k := .i64))) <| Nk 1073741864 1 ⟨tp 3 (.loc 0 0::tp 1 (.i r28_5::tp 24 (.b (decide (r28_5 ≠ 0))::tp 3 []))), [(.box [(.y p1.Kind), (.s p1.Text), (.i p1.A), (.i p1.B), (.i p1.E.Time), (.i p1.E.Source), (.i p1.E.Seq), (.s p1.E.Type_), (.l enc_GValue p1.E.Vals)])], 0⟩ ?_
   rcases tf_ (decide (r28_5 ≠ 0)) with hc30_10 | hc30_10
   ·
    replace hm := cT hc30_10 hm
    refine AiT hc30_10 <| Sx <| Wm (.i r28_5) rfl <| Wm (.i r28_5) rfl <| Nn <| Rt <| Tr ?_
    obtain rfl := Option.some.inj hm
    exact ret_i []
   ·
    replace hm := cF hc30_10 hm
    refine AiF hc30_10 <| Sk <| Tn ?_
    exact AWP.weak (Weak.toK 8 0 0 [0]) (J6 () hm)
  ·
   replace hm := cF hc24_9 hm
   refine AiF hc24_9 <| Sk <| Tn ?_
   exact AWP.weak (Weak.toK 8 0 0 [0]) (J6 () hm)
 refine Sq <| Bk <| Sx <| Wm (.l enc_GType p0) rfl ?_
 obtain ⟨r8_0, hr8_0, hm⟩ := bnd hm
 refine Wz (.i r8_0) (Ocf [] [] [] 0 (ok_schema_Check p0 r8_0 hr8_0) (fun a w => Tryd.call34 a w) rfl trivial) <| Wz (.b (decide (r8_0 ≠ 0))) (Obn rfl (fun _ => hb_neq (k := .i64))) <| Wm (.b (decide (r8_0 ≠ 0))) rfl <| Nk 73 1 ⟨.l enc_GType p0::tp 2 (.loc 0 0::tp 2 (.b (decide (r8_0 ≠ 0))::tp 27 [])), [(.box [(.y p1.Kind), (.s p1.Text), (.i p1.A), (.i p1.B), (.i p1.E.Time), (.i p1.E.Source), (.i p1.E.Seq), (.s p1.E.Type_), (.l enc_GValue p1.E.Vals)])], 0⟩ ?_
 rcases tf_ (decide (r8_0 ≠ 0)) with hc6_11 | hc6_11
 ·
  replace hm := cT hc6_11 hm
  refine AiT hc6_11 <| Sx <| Wm (.i 2) rfl <| Nn <| Rt <| Ir <| Tr ?_
  obtain rfl := Option.some.inj hm
  exact ret_i []
 ·
  replace hm := cF hc6_11 hm
  refine AiF hc6_11 <| Sx <| Wz (.agg [(.y p1.Kind), (.s p1.Text), (.i p1.A), (.i p1.B), (.i p1.E.Time), (.i p1.E.Source), (.i p1.E.Seq), (.s p1.E.Type_), (.l enc_GValue p1.E.Vals)]) (Old rfl) ?_
  obtain ⟨r12_1, hr12_1, hm⟩ := bnd hm
  refine Wz (.b r12_1) (Ocf [] [] [] 0 (ok_script_Command_kind p1 r12_1 hr12_1) (fun a w => Tryd.call35 a w) rfl trivial) <| Wz (.b (!r12_1)) (Ocs (by kernel_rfl) (op_un rfl (a1 := .bool r12_1) (by kernel_rfl) (fun _ => hu_not))) <| Wm (.b (!r12_1)) rfl <| Nk 1033 1 ⟨.l enc_GType p0::tp 2 (.loc 0 0::tp 6 (.b (!r12_1)::tp 23 [])), [(.box [(.y p1.Kind), (.s p1.Text), (.i p1.A), (.i p1.B), (.i p1.E.Time), (.i p1.E.Source), (.i p1.E.Seq), (.s p1.E.Type_), (.l enc_GValue p1.E.Vals)])], 0⟩ ?_
  rcases tf_ (!r12_1) with hc10_12 | hc10_12
  ·
   replace hm := cT hc10_12 hm
   refine AiT hc10_12 <| Sx <| Wm (.i 11) rfl <| Nn <| Rt <| Ir <| Tr ?_
   obtain rfl := Option.some.inj hm
   exact ret_i []
  ·
   replace hm := cF hc10_12 hm
   refine AiF hc10_12 <| Sx <| Wz (.agg [(.y p1.Kind), (.s p1.Text), (.i p1.A), (.i p1.B), (.i p1.E.Time), (.i p1.E.Source), (.i p1.E.Seq), (.s p1.E.Type_), (.l enc_GValue p1.E.Vals)]) (Old rfl) ?_
   obtain ⟨r16_2, hr16_2, hm⟩ := bnd hm
   refine Wz (.b r16_2) (Ocf [] [] [] 0 (ok_script_Command_has p1 1 r16_2 hr16_2) (fun a w => Tryd.call26 a w) rfl trivial) ?_
   rcases tf_ r16_2 with hq17_2 | hq17_2
   ·
    replace hm := cT hq17_2 hm
    refine Wz (.b true) (Oq hq17_2 rfl) <| Wz (.loc 0 1) (Ofa rfl) <| Wz (.s p1.Text) (Old rfl) <| Wz (.i ((List.length p1.Text : Nat) : Int)) (Oln rfl) <| Wz (.b (decide ((600 : Int) < ((List.length p1.Text : Nat) : Int)))) (Obn rfl (fun _ => hb_gtr (k := .i64))) <| Wz (.b (decide ((600 : Int) < ((List.length p1.Text : Nat) : Int)))) (OpT rfl) <| Wm (.b (decide ((600 : Int) < ((List.length p1.Text : Nat) : Int)))) rfl <| Nk 16393 1 ⟨.l enc_GType p0::tp 2 (.loc 0 0::tp 10 (.b (decide ((600 : Int) < ((List.length p1.Text : Nat) : Int)))::tp 19 [])), [(.box [(.y p1.Kind), (.s p1.Text), (.i p1.A), (.i p1.B), (.i p1.E.Time), (.i p1.E.Source), (.i p1.E.Seq), (.s p1.E.Type_), (.l enc_GValue p1.E.Vals)])], 0⟩ ?_
    rcases tf_ (decide ((600 : Int) < ((List.length p1.Text : Nat) : Int))) with hc14_13 | hc14_13
    ·
     replace hm := cT hc14_13 hm
     refine AiT hc14_13 <| Sx <| Wm (.i 5) rfl <| Nn <| Rt <| Ir <| Tr ?_
     obtain rfl := Option.some.inj hm
     exact ret_i []
    ·
     replace hm := cF hc14_13 hm
     refine AiF hc14_13 <| Sk <| Ino <| Tn ?_
     exact AWP.weak (Weak.toK 9 0 0 [0]) (J3 () hm)
   ·
    replace hm := cF hq17_2 hm
    refine Wz (.b false) (Oq hq17_2 rfl) <| Wn <| Wn <| Wn <| Wn <| Wz (.b false) (OpF rfl) <| Wm (.b false) rfl <| Nk 16393 1 ⟨.l enc_GType p0::tp 2 (.loc 0 0::tp 10 (.b false::tp 19 [])), [(.box [(.y p1.Kind), (.s p1.Text), (.i p1.A), (.i p1.B), (.i p1.E.Time), (.i p1.E.Source), (.i p1.E.Seq), (.s p1.E.Type_), (.l enc_GValue p1.E.Vals)])], 0⟩ <| AWP.if_ false (by kernel_rfl) <| Sk <| Ino <| Tn ?_
    exact AWP.weak (Weak.toK 9 0 0 [0]) (J3 () hm)

theorem ok_octet_Text (p0 : (List UInt8)) (p1 : (List UInt8)) (r : ((List UInt8) × Int)) (h : m_octet_Text p0 p1 = some r) : GCall Tryd.prog 27 [(.l encU8 p0), (.s p1)] [] (.tup [(.l encU8 r.1), (.i r.2)]) [] := by
  unfold m_octet_Text at h
  obtain ⟨hl, h⟩ := chk_some h
  cases h
  exact call_otext p0 p1 hl.1 hl.2

theorem ok_event_Put_1 (p0 : GType) (p1 : GEvent) (r : Bool) (h : m_event_Put_1 p0 p1 = some r) : GCall Tryd.prog 50 [(.agg [(.s p0.Name), (.l enc_GField p0.Fields)]), (.d (.ref [(.lit (.int .i64 p1.Time)), (.lit (.int .i64 p1.Source)), (.lit (.int .i64 p1.Seq)), (.lit (.string (toS p1.Type_))), (.sl (List.length p1.Vals) (flatD enc_GValue p1.Vals))]))] [] (.b r) [] := by
 refine GCall.of_body (n := 9) (rs := [(.tmp 3)]) Tryd.func50 rfl rfl rfl <| Ato ⟨.agg [(.s p0.Name), (.l enc_GField p0.Fields)]::.d (.ref [(.lit (.int .i64 p1.Time)), (.lit (.int .i64 p1.Source)), (.lit (.int .i64 p1.Seq)), (.lit (.string (toS p1.Type_))), (.sl (List.length p1.Vals) (flatD enc_GValue p1.Vals))])::tu 7 [], [], 0⟩ ?_
 have hm := h
 unfold m_event_Put_1 at hm
 refine Sx <| Wy (.loc 0 0) [(0, (.box [(.s p0.Name), (.l enc_GField p0.Fields)]))] (Obx rfl) <| Wm (.b false) rfl <| Nk 6 1 ⟨tp 1 (.d (.ref [(.lit (.int .i64 p1.Time)), (.lit (.int .i64 p1.Source)), (.lit (.int .i64 p1.Seq)), (.lit (.string (toS p1.Type_))), (.sl (List.length p1.Vals) (flatD enc_GValue p1.Vals))])::.loc 0 0::tp 6 []), [(.box [(.s p0.Name), (.l enc_GField p0.Fields)])], 0⟩ <| Sx <| Wz (.loc 0 0) (Ofa rfl) <| Wz (.s p0.Name) (Old rfl) <| Wz (.d (.ref (List.drop 3 [(.lit (.int .i64 p1.Time)), (.lit (.int .i64 p1.Source)), (.lit (.int .i64 p1.Seq)), (.lit (.string (toS p1.Type_))), (.sl (List.length p1.Vals) (flatD enc_GValue p1.Vals))]))) (Ofa rfl) <| Wz (.s p1.Type_) (Old rfl) <| Wz (.b (decide (p0.Name = p1.Type_))) (Ocs (lit_tf (by simp only [toS_inj, ne_eq])) (op_bin rfl (a1 := .string (toS p0.Name)) (a2 := .string (toS p1.Type_)) (by kernel_rfl) (by kernel_rfl) (fun _ => hb_seql))) <| Wm (.b (decide (p0.Name = p1.Type_))) rfl <| Nn <| Rt ?_
 obtain rfl := Option.some.inj hm
 exact ret_i []

theorem ok_slices_IndexFunc_Type__event_Put_1 (p0 : (List GType)) (p1c0 : GEvent) (r : Int) (h : m_slices_IndexFunc_Type__event_Put_1 p0 p1c0 = some r) : GCall Tryd.prog 49 [(.l enc_GType p0), (.clo (.func 50) [] [(.d (.ref [(.lit (.int .i64 p1c0.Time)), (.lit (.int .i64 p1c0.Source)), (.lit (.int .i64 p1c0.Seq)), (.lit (.string (toS p1c0.Type_))), (.sl (List.length p1c0.Vals) (flatD enc_GValue p1c0.Vals))]))])] [] (.i r) [] := by
 refine GCall.of_body (n := 19) (rs := [(.tmp 4)]) Tryd.func49 rfl rfl rfl <| Ato ⟨.l enc_GType p0::.clo (.func 50) [] [(.d (.ref [(.lit (.int .i64 p1c0.Time)), (.lit (.int .i64 p1c0.Source)), (.lit (.int .i64 p1c0.Seq)), (.lit (.string (toS p1c0.Type_))), (.sl (List.length p1c0.Vals) (flatD enc_GValue p1c0.Vals))]))]::tu 17 [], [], 0⟩ ?_
 have hm := h
 unfold m_slices_IndexFunc_Type__event_Put_1 at hm
 refine Sx <| Wm (.i 0) rfl <| Nk 3 0 ⟨.l enc_GType p0::.clo (.func 50) [] [(.d (.ref [(.lit (.int .i64 p1c0.Time)), (.lit (.int .i64 p1c0.Source)), (.lit (.int .i64 p1c0.Seq)), (.lit (.string (toS p1c0.Type_))), (.sl (List.length p1c0.Vals) (flatD enc_GValue p1c0.Vals))]))]::tp 17 [], [], 0⟩ <| Sq <| Sx <| Wm (.l enc_GType p0) rfl <| Wz (.i ((List.length p0 : Nat) : Int)) (Oln rfl) <| Wm (.i 0) rfl <| Nk 387 0 ⟨.l enc_GType p0::.clo (.func 50) [] [(.d (.ref [(.lit (.int .i64 p1c0.Time)), (.lit (.int .i64 p1c0.Source)), (.lit (.int .i64 p1c0.Seq)), (.lit (.string (toS p1c0.Type_))), (.sl (List.length p1c0.Vals) (flatD enc_GValue p1c0.Vals))]))]::tp 5 (.i ((List.length p0 : Nat) : Int)::.i 0::tp 10 []), [], 0⟩ <| Bk ?_
 refine AWP.loopI (α := Nat × Int)
   (fun (fu_1, y8_1) => (⟨.l enc_GType p0::.clo (.func 50) [] [(.d (.ref [(.lit (.int .i64 p1c0.Time)), (.lit (.int .i64 p1c0.Source)), (.lit (.int .i64 p1c0.Seq)), (.lit (.string (toS p1c0.Type_))), (.sl (List.length p1c0.Vals) (flatD enc_GValue p1c0.Vals))]))]::tp 5 (.i ((List.length p0 : Nat) : Int)::.i y8_1::tp 10 []), [], 0⟩ : St))
   (fun (fu_1, y8_1) => m_slices_IndexFunc_Type__event_Put_1_l1 p0 p1c0 fu_1 y8_1 = some r)
   (fun (fu_1, y8_1) => fu_1) (1152921504606846976, 0)
   (Weak.toK 387 0 0 []) hm ?_
 rintro ⟨fu_1, y8_1⟩ n_1 hm ih_1
 try dsimp only at hm ih_1 ⊢
 cases fu_1 with
 | zero => exact absurd hm (by unfold m_slices_IndexFunc_Type__event_Put_1_l1; simp)
 | succ fu_1 =>
  unfold m_slices_IndexFunc_Type__event_Put_1_l1 at hm
  refine Sx <| Wz (.b (decide (y8_1 < ((List.length p0 : Nat) : Int)))) (Obn rfl (fun _ => hb_lss (k := .i64))) <| Nk 899 0 ⟨.l enc_GType p0::.clo (.func 50) [] [(.d (.ref [(.lit (.int .i64 p1c0.Time)), (.lit (.int .i64 p1c0.Source)), (.lit (.int .i64 p1c0.Seq)), (.lit (.string (toS p1c0.Type_))), (.sl (List.length p1c0.Vals) (flatD enc_GValue p1c0.Vals))]))]::tp 5 (.i ((List.length p0 : Nat) : Int)::.i y8_1::.b (decide (y8_1 < ((List.length p0 : Nat) : Int)))::tp 9 []), [], 0⟩ <| Sq ?_
  rcases tf_ (decide (y8_1 < ((List.length p0 : Nat) : Int))) with hc9_3 | hc9_3
  ·
   replace hm := cT hc9_3 hm
   refine AiT hc9_3 <| Sk <| Tk 387 0 ⟨.l enc_GType p0::.clo (.func 50) [] [(.d (.ref [(.lit (.int .i64 p1c0.Time)), (.lit (.int .i64 p1c0.Source)), (.lit (.int .i64 p1c0.Seq)), (.lit (.string (toS p1c0.Type_))), (.sl (List.length p1c0.Vals) (flatD enc_GValue p1c0.Vals))]))]::tp 5 (.i ((List.length p0 : Nat) : Int)::.i y8_1::tp 10 []), [], 0⟩ <| Sq <| Bk <| Sx <| Wm (.i y8_1) rfl <| Wm (.i y8_1) rfl <| Nk 419 0 ⟨.l enc_GType p0::.clo (.func 50) [] [(.d (.ref [(.lit (.int .i64 p1c0.Time)), (.lit (.int .i64 p1c0.Source)), (.lit (.int .i64 p1c0.Seq)), (.lit (.string (toS p1c0.Type_))), (.sl (List.length p1c0.Vals) (flatD enc_GValue p1c0.Vals))]))]::tp 3 (.i y8_1::tp 1 (.i ((List.length p0 : Nat) : Int)::.i y8_1::tp 10 [])), [], 0⟩ <| Sx <| Wm (.clo (.func 50) [] [(.d (.ref [(.lit (.int .i64 p1c0.Time)), (.lit (.int .i64 p1c0.Source)), (.lit (.int .i64 p1c0.Seq)), (.lit (.string (toS p1c0.Type_))), (.sl (List.length p1c0.Vals) (flatD enc_GValue p1c0.Vals))]))]) rfl <| Wm (.l enc_GType p0) rfl <| Wm (.i y8_1) rfl ?_
   obtain ⟨x14_2, hx14_2, hm⟩ := bnd hm
   obtain ⟨hx14_2i, hx14_2g⟩ := geti_some hx14_2
   refine Wz (.d (.ref (List.drop ((Int.toNat y8_1) * 2) (flatD enc_GType p0)))) (Oia rfl enc_GType_len hx14_2i hx14_2g) <| Wz (.agg [(.s x14_2.Name), (.l enc_GField x14_2.Fields)]) (Lf rfl enc_GType_len hx14_2g) ?_
   obtain ⟨r16_2, hr16_2, hm⟩ := bnd hm
   refine Wz (.b r16_2) (Ocf [] [] [] 0 (ok_event_Put_1 x14_2 p1c0 r16_2 hr16_2) (fun a w => Tryd.call50 a w) rfl trivial) <| Nk 65955 0 ⟨.l enc_GType p0::.clo (.func 50) [] [(.d (.ref [(.lit (.int .i64 p1c0.Time)), (.lit (.int .i64 p1c0.Source)), (.lit (.int .i64 p1c0.Seq)), (.lit (.string (toS p1c0.Type_))), (.sl (List.length p1c0.Vals) (flatD enc_GValue p1c0.Vals))]))]::tp 3 (.i y8_1::tp 1 (.i ((List.length p0 : Nat) : Int)::.i y8_1::tp 7 (.b r16_2::tp 2 []))), [], 0⟩ ?_
   rcases tf_ r16_2 with hc16_4 | hc16_4
   ·
    replace hm := cT hc16_4 hm
    refine AiT hc16_4 <| Sx <| Wm (.i y8_1) rfl <| Wm (.i y8_1) rfl <| Nn <| Rt <| Ir <| Tr <| RoundK.ret <| Ir <| Tr ?_
    obtain rfl := Option.some.inj hm
    exact ret_i []
   ·
    replace hm := cF hc16_4 hm
    refine AiF hc16_4 <| Sk <| Ino <| Tk 387 0 ⟨.l enc_GType p0::.clo (.func 50) [] [(.d (.ref [(.lit (.int .i64 p1c0.Time)), (.lit (.int .i64 p1c0.Source)), (.lit (.int .i64 p1c0.Seq)), (.lit (.string (toS p1c0.Type_))), (.sl (List.length p1c0.Vals) (flatD enc_GValue p1c0.Vals))]))]::tp 5 (.i ((List.length p0 : Nat) : Int)::.i y8_1::tp 10 []), [], 0⟩ <| Tx <| Wz (.i (W6 (y8_1 + 1))) (Obn rfl (fun _ => hb_add (k := .i64))) <| Wm (.i (W6 (y8_1 + 1))) rfl <| Wn0 <| RoundK.normal ?_
    exact Rounds.weak (Weak.toK 387 0 0 []) (ih_1 (fu_1, (W6 (y8_1 + 1))) hm (Nat.lt_succ_self _))
  ·
   replace hm := cF hc9_3 hm
   refine AiF hc9_3 <| AWP.exit <| Then.exit <| RoundK.exit <| InBlock.same <| Tk 0 0 ⟨tp 19 [], [], 0⟩ <| Sx <| Wm (.i (-1)) rfl <| Nn <| Rt ?_
   obtain rfl := Option.some.inj hm
   exact ret_i []

theorem ok_math_bits_Len64 (p0 : Int) (r : Int) (h : m_math_bits_Len64 p0 = some r) : GCall Tryd.prog 96 [(.u p0)] [] (.i r) [] := by
 refine GCall.of_body (n := 25) (rs := [(.tmp 2)]) Tryd.func96 rfl rfl rfl <| Ato ⟨.u p0::tu 24 [], [], 0⟩ ?_
 have hm := h
 unfold m_math_bits_Len64 at hm
 refine Sx <| Wm (.i 0) rfl <| Nk 5 0 ⟨.u p0::tp 1 (.i 0::tp 22 []), [], 0⟩ ?_
 refine AWP.cutJ (α := Int × Int) (fun (y0_0, y2_0) => (⟨.u y0_0::tp 1 (.i y2_0::tp 22 []), [], 0⟩ : St)) (fun (y0_0, y2_0) => m_math_bits_Len64_j0  y0_0 y2_0 = some r) ?_ (fun J0 => ?_)
 ·
  rintro ⟨y0_0, y2_0⟩ hm
  try dsimp only at hm ⊢
  unfold m_math_bits_Len64_j0 at hm
  refine AWP.cutJ (α := Int × Int) (fun (y0_1, y2_1) => (⟨.u y0_1::tp 1 (.i y2_1::tp 22 []), [], 0⟩ : St)) (fun (y0_1, y2_1) => m_math_bits_Len64_j1  y0_1 y2_1 = some r) ?_ (fun J1 => ?_)
  ·
   rintro ⟨y0_1, y2_1⟩ hm
   try dsimp only at hm ⊢
   unfold m_math_bits_Len64_j1 at hm
   refine AWP.cutJ (α := Int × Int) (fun (y0_2, y2_2) => (⟨.u y0_2::tp 1 (.i y2_2::tp 22 []), [], 0⟩ : St)) (fun (y0_2, y2_2) => m_math_bits_Len64_j2  y0_2 y2_2 = some r) ?_ (fun J2 => ?_)
   ·
    rintro ⟨y0_2, y2_2⟩ hm
    try dsimp only at hm ⊢
    unfold m_math_bits_Len64_j2 at hm
    refine Sx <| Wm (.i y2_2) rfl <| Wm (.u y0_2) rfl <| Wz (.y (toU8 y0_2)) (Ocs (lit_int (u8w _)) (op_convert rfl (a1 := .int .u64 y0_2) (by kernel_rfl) (run_conv (ds := .int .u64) (k' := .u8) (by kernel_rfl) (by kernel_rfl)))) ?_
    obtain ⟨x22_3, hx22_3, hm⟩ := bnd hm
    obtain ⟨hx22_3i, hx22_3g⟩ := geti_some hx22_3
    refine Wz (.y x22_3) (Ocs (by kernel_rfl) (op_index_str rfl (by kernel_rfl) (s := toS ([0, 1, 2, 2, 3, 3, 3, 3, 4, 4, 4, 4, 4, 4, 4, 4, 5, 5, 5, 5, 5, 5, 5, 5, 5, 5, 5, 5, 5, 5, 5, 5, 6, 6, 6, 6, 6, 6, 6, 6, 6, 6, 6, 6, 6, 6, 6, 6, 6, 6, 6, 6, 6, 6, 6, 6, 6, 6, 6, 6, 6, 6, 6, 6, 7, 7, 7, 7, 7, 7, 7, 7, 7, 7, 7, 7, 7, 7, 7, 7, 7, 7, 7, 7, 7, 7, 7, 7, 7, 7, 7, 7, 7, 7, 7, 7, 7, 7, 7, 7, 7, 7, 7, 7, 7, 7, 7, 7, 7, 7, 7, 7, 7, 7, 7, 7, 7, 7, 7, 7, 7, 7, 7, 7, 7, 7, 7, 7, 8, 8, 8, 8, 8, 8, 8, 8, 8, 8, 8, 8, 8, 8, 8, 8, 8, 8, 8, 8, 8, 8, 8, 8, 8, 8, 8, 8, 8, 8, 8, 8, 8, 8, 8, 8, 8, 8, 8, 8, 8, 8, 8, 8, 8, 8, 8, 8, 8, 8, 8, 8, 8, 8, 8, 8, 8, 8, 8, 8, 8, 8, 8, 8, 8, 8, 8, 8, 8, 8, 8, 8, 8, 8, 8, 8, 8, 8, 8, 8, 8, 8, 8, 8, 8, 8, 8, 8, 8, 8, 8, 8, 8, 8, 8, 8, 8, 8, 8, 8, 8, 8, 8, 8, 8, 8, 8, 8, 8, 8, 8, 8, 8, 8, 8, 8, 8, 8, 8, 8, 8, 8, 8, 8, 8, 8, 8, 8] : List UInt8)) (by kernel_rfl) (k := .u8) (iv := (((toU8 y0_2).toNat : Nat) : Int)) (by kernel_rfl) (i := (Int.toNat (((toU8 y0_2).toNat : Nat) : Int))) (hx22_3i) (b := x22_3) (hx22_3g))) <| Wz (.i ((x22_3.toNat : Nat) : Int)) (Ocs (lit_int (wrap_of_u8 (by decide) _)) (op_convert rfl (a1 := .int .u8 ((x22_3.toNat : Nat) : Int)) (by kernel_rfl) (run_conv (ds := .int .u8) (k' := .i64) (by kernel_rfl) (by kernel_rfl)))) <| Wz (.i (W6 (y2_2 + ((x22_3.toNat : Nat) : Int)))) (Obn rfl (fun _ => hb_add (k := .i64))) <| Wm (.i (W6 (y2_2 + ((x22_3.toNat : Nat) : Int)))) rfl <| Nn <| Rt ?_
    obtain rfl := Option.some.inj hm
    exact ret_i []
   refine Sq <| Sx <| Wm (.u y0_1) rfl <| Wz (.b (decide ((256 : Int) ≤ y0_1))) (Obn rfl (fun _ => hb_geq (k := .u64))) <| Nk 16389 0 ⟨.u y0_1::tp 1 (.i y2_1::tp 11 (.b (decide ((256 : Int) ≤ y0_1))::tp 10 [])), [], 0⟩ ?_
   rcases tf_ (decide ((256 : Int) ≤ y0_1)) with hc14_4 | hc14_4
   ·
    replace hm := cT hc14_4 hm
    refine AiT hc14_4 <| Sx <| Wm (.u y0_1) rfl <| Wz (.u (Int.fdiv y0_1 (2 ^ 8))) (Ob2 (.int .u64 y0_1) (.int .u64 8) rfl (fun _ => hb_shr (n := 8) (by decide) rfl)) <| Wm (.u (Int.fdiv y0_1 (2 ^ 8))) rfl <| Nk 5 0 ⟨.u (Int.fdiv y0_1 (2 ^ 8))::tp 1 (.i y2_1::tp 22 []), [], 0⟩ <| Tx <| Wm (.i y2_1) rfl <| Wz (.i (W6 (y2_1 + 8))) (Obn rfl (fun _ => hb_add (k := .i64))) <| Wm (.i (W6 (y2_1 + 8))) rfl <| Nn ?_
    exact AWP.weak (Weak.toK 5 0 0 []) (J2 ((Int.fdiv y0_1 (2 ^ 8)), (W6 (y2_1 + 8))) hm)
   ·
    replace hm := cF hc14_4 hm
    refine AiF hc14_4 <| Sk <| Tn ?_
    exact AWP.weak (Weak.toK 5 0 0 []) (J2 (y0_1, y2_1) hm)
  refine Sq <| Sx <| Wm (.u y0_0) rfl <| Wz (.b (decide ((65536 : Int) ≤ y0_0))) (Obn rfl (fun _ => hb_geq (k := .u64))) <| Nk 261 0 ⟨.u y0_0::tp 1 (.i y2_0::tp 5 (.b (decide ((65536 : Int) ≤ y0_0))::tp 16 [])), [], 0⟩ ?_
  rcases tf_ (decide ((65536 : Int) ≤ y0_0)) with hc8_5 | hc8_5
  ·
   replace hm := cT hc8_5 hm
   refine AiT hc8_5 <| Sx <| Wm (.u y0_0) rfl <| Wz (.u (Int.fdiv y0_0 (2 ^ 16))) (Ob2 (.int .u64 y0_0) (.int .u64 16) rfl (fun _ => hb_shr (n := 16) (by decide) rfl)) <| Wm (.u (Int.fdiv y0_0 (2 ^ 16))) rfl <| Nk 5 0 ⟨.u (Int.fdiv y0_0 (2 ^ 16))::tp 1 (.i y2_0::tp 22 []), [], 0⟩ <| Tx <| Wm (.i y2_0) rfl <| Wz (.i (W6 (y2_0 + 16))) (Obn rfl (fun _ => hb_add (k := .i64))) <| Wm (.i (W6 (y2_0 + 16))) rfl <| Nn ?_
   exact AWP.weak (Weak.toK 5 0 0 []) (J1 ((Int.fdiv y0_0 (2 ^ 16)), (W6 (y2_0 + 16))) hm)
  ·
   replace hm := cF hc8_5 hm
   refine AiF hc8_5 <| Sk <| Tn ?_
   exact AWP.weak (Weak.toK 5 0 0 []) (J1 (y0_0, y2_0) hm)
 refine Sq <| Sx <| Wm (.u p0) rfl <| Wz (.b (decide ((4294967296 : Int) ≤ p0))) (Obn rfl (fun _ => hb_geq (k := .u64))) <| Nk 21 0 ⟨.u p0::tp 1 (.i 0::tp 1 (.b (decide ((4294967296 : Int) ≤ p0))::tp 20 [])), [], 0⟩ ?_
 rcases tf_ (decide ((4294967296 : Int) ≤ p0)) with hc4_6 | hc4_6
 ·
  replace hm := cT hc4_6 hm
  refine AiT hc4_6 <| Sx <| Wm (.u p0) rfl <| Wz (.u (Int.fdiv p0 (2 ^ 32))) (Ob2 (.int .u64 p0) (.int .u64 32) rfl (fun _ => hb_shr (n := 32) (by decide) rfl)) <| Wm (.u (Int.fdiv p0 (2 ^ 32))) rfl <| Nk 1 0 ⟨.u (Int.fdiv p0 (2 ^ 32))::tp 24 [], [], 0⟩ <| Tx <| Wm (.i 32) rfl <| Nn ?_
  exact AWP.weak (Weak.toK 5 0 0 []) (J0 ((Int.fdiv p0 (2 ^ 32)), 32) hm)
 ·
  replace hm := cF hc4_6 hm
  refine AiF hc4_6 <| Sk <| Tn ?_
  exact AWP.weak (Weak.toK 5 0 0 []) (J0 (p0, 0) hm)

theorem ok_zig_Size (p0 : Int) (r : Int) (h : m_zig_Size p0 = some r) : GCall Tryd.prog 75 [(.u p0)] [] (.i r) [] := by
 refine GCall.of_body (n := 9) (rs := [(.tmp 2)]) Tryd.func75 rfl rfl rfl <| Ato ⟨.u p0::tu 8 [], [], 0⟩ ?_
 have hm := h
 unfold m_zig_Size at hm
 refine Sx <| Wm (.i 0) rfl <| Nk 1 0 ⟨.u p0::tp 8 [], [], 0⟩ <| Sx <| Wm (.u p0) rfl ?_
 obtain ⟨r4_0, hr4_0, hm⟩ := bnd hm
 refine Wz (.i r4_0) (Ocf [] [] [] 0 (ok_math_bits_Len64 p0 r4_0 hr4_0) (fun a w => Tryd.call96 a w) rfl trivial) <| Wz (.i (W6 (r4_0 + 7))) (Obn rfl (fun _ => hb_add (k := .i64))) <| Wz (.i (W6 ((W6 (r4_0 + 7)) - 1))) (Obn rfl (fun _ => hb_sub (k := .i64))) <| Wz (.i (W6 (Int.tdiv (W6 ((W6 (r4_0 + 7)) - 1)) 7))) (Ob2 (.int .i64 (W6 ((W6 (r4_0 + 7)) - 1))) (.int .i64 7) rfl (fun _ => hb_quo (by decide))) <| Wz (.i (max 1 (W6 (Int.tdiv (W6 ((W6 (r4_0 + 7)) - 1)) 7)))) (op_bi2 rfl (a1 := .int .i64 1) (a2 := .int .i64 (W6 (Int.tdiv (W6 ((W6 (r4_0 + 7)) - 1)) 7))) (by kernel_rfl) (by kernel_rfl) hb_max) <| Wm (.i (max 1 (W6 (Int.tdiv (W6 ((W6 (r4_0 + 7)) - 1)) 7)))) rfl <| Nn <| Rt ?_
 obtain rfl := Option.some.inj hm
 exact ret_i []

theorem ok_zig_Put (p0 : (List UInt8)) (p1 : Int) (r : (List UInt8)) (h : m_zig_Put p0 p1 = some r) : GCall Tryd.prog 51 [(.l encU8 p0), (.u p1)] [] (.own 0) [(Ar 5 1 encU8 r)] := by
 refine GCall.of_body (n := 41) (rs := [(.tmp 4)]) Tryd.func51 rfl rfl rfl <| Ato ⟨.l encU8 p0::.u p1::tu 39 [], [], 0⟩ ?_
 have hm := h
 unfold m_zig_Put at hm
 refine Sx <| Wm (.d .nil) rfl <| Nk 3 0 ⟨.l encU8 p0::.u p1::tp 39 [], [], 0⟩ <| Sx <| Wm (.u p1) rfl ?_
 obtain ⟨r10_0, hr10_0, hm⟩ := bnd hm
 refine Wz (.i r10_0) (Ocf [] [] [] 0 (ok_zig_Size p1 r10_0 hr10_0) (fun a w => Tryd.call75 a w) rfl trivial) <| Wm (.i r10_0) rfl <| Nk 35 0 ⟨.l encU8 p0::.u p1::tp 3 (.i r10_0::tp 35 []), [], 0⟩ <| Sx <| Wm (.l encU8 p0) rfl <| Wz (.i ((List.length p0 : Nat) : Int)) (Oln rfl) <| Wm (.i r10_0) rfl <| Wz (.i (W6 (((List.length p0 : Nat) : Int) + r10_0))) (Obn rfl (fun _ => hb_add (k := .i64))) ?_
 obtain ⟨m15_1, hm15_1, hm⟩ := bnd hm; obtain ⟨hm15_1i, hm15_1j, hm15_1l, hm15_1k, hm15_1e⟩ := mkc_some hm15_1
 refine Wy (.own 0) [(0, (Ar 5 1 encU8 m15_1))] (OcB (op_makeC rfl elemOK_31 (by kernel_rfl) (kl := .i64) (kc := .i64) (L := 0) (C := (IntKind.i64.wrap (((List.length p0 : Nat) : Int) + r10_0))) (by kernel_rfl) (by kernel_rfl) (n := Int.toNat 0) (cp := Int.toNat (IntKind.i64.wrap (((List.length p0 : Nat) : Int) + r10_0))) hm15_1i hm15_1j hm15_1l (by omega) (by kernel_rfl)) (bl_one (by rw [hm15_1e]; simp) (by rw [hm15_1e]; exact (flat_rep (by kernel_rfl))))) <| Wm (.own 0) rfl <| Nk 99 1 ⟨.l encU8 p0::.u p1::tp 3 (.i r10_0::.own 0::tp 34 []), [(Ar 5 1 encU8 m15_1)], 0⟩ <| Sx <| Wm (.own 0) rfl <| Wm (.l encU8 p0) rfl ?_
 obtain ⟨a18_2, ha18_2, hm⟩ := bnd hm; obtain ⟨ha18_2e, ha18_2l⟩ := app_some ha18_2
 refine Wy (.own 1) [(0, .gone), (1, (Ar 5 1 encU8 a18_2))] (Oap rfl elemOK_31 encU8_len ha18_2e ha18_2l) <| Wm (.own 1) rfl <| Nk 98 2 ⟨tp 1 (.u p1::tp 3 (.i r10_0::.own 1::tp 34 [])), [.gone, (Ar 5 1 encU8 a18_2)], 0⟩ <| Sq <| Sx <| Wm (.i r10_0) rfl <| Wm (.i 0) rfl <| Nk 1572962 2 ⟨tp 1 (.u p1::tp 3 (.i r10_0::.own 1::tp 12 (.i r10_0::.i 0::tp 20 []))), [.gone, (Ar 5 1 encU8 a18_2)], 0⟩ <| Bk ?_
 refine AWP.loopI (α := Nat × (List UInt8) × Int)
   (fun (fu_3, y6_3, y20_3) => (⟨tp 1 (.u p1::tp 3 (.i r10_0::.own 0::tp 12 (.i r10_0::.i y20_3::tp 20 []))), [(Ar 5 1 encU8 y6_3)], 0⟩ : St))
   (fun (fu_3, y6_3, y20_3) => m_zig_Put_l3 p1 r10_0 fu_3 y6_3 y20_3 = some r)
   (fun (fu_3, y6_3, y20_3) => fu_3) (1152921504606846976, a18_2, 0)
   (Weak.toK 1572962 0 0 [1]) hm ?_
 rintro ⟨fu_3, y6_3, y20_3⟩ n_3 hm ih_3
 try dsimp only at hm ih_3 ⊢
 cases fu_3 with
 | zero => exact absurd hm (by unfold m_zig_Put_l3; simp)
 | succ fu_3 =>
  unfold m_zig_Put_l3 at hm
  refine Sx <| Wz (.b (decide (y20_3 < r10_0))) (Obn rfl (fun _ => hb_lss (k := .i64))) <| Nk 3670114 1 ⟨tp 1 (.u p1::tp 3 (.i r10_0::.own 0::tp 12 (.i r10_0::.i y20_3::.b (decide (y20_3 < r10_0))::tp 19 []))), [(Ar 5 1 encU8 y6_3)], 0⟩ <| Sq ?_
  rcases tf_ (decide (y20_3 < r10_0)) with hc21_6 | hc21_6
  ·
   replace hm := cT hc21_6 hm
   refine AiT hc21_6 <| Sk <| Tk 1572962 1 ⟨tp 1 (.u p1::tp 3 (.i r10_0::.own 0::tp 12 (.i r10_0::.i y20_3::tp 20 []))), [(Ar 5 1 encU8 y6_3)], 0⟩ <| Sq <| Bk <| Sx <| Wm (.i y20_3) rfl <| Wm (.i y20_3) rfl <| Nk 1573090 1 ⟨tp 1 (.u p1::tp 3 (.i r10_0::.own 0::.i y20_3::tp 11 (.i r10_0::.i y20_3::tp 20 []))), [(Ar 5 1 encU8 y6_3)], 0⟩ <| Sx <| Wm (.u p1) rfl <| Wm (.i y20_3) rfl <| Wz (.i (W6 (7 * y20_3))) (Obn rfl (fun _ => hb_mul (k := .i64))) ?_
   obtain ⟨hs26_4, hm⟩ := chk_some hm
   refine Wz (.u (Int.fdiv p1 (2 ^ (Int.toNat (W6 (7 * y20_3)))))) (Ob2 (.int .u64 p1) (.int .i64 (W6 (7 * y20_3))) rfl (fun _ => hb_shr (n := (Int.toNat (W6 (7 * y20_3)))) (sh_le hs26_4.2) (sh_eq hs26_4.1))) <| Wz (.y (toU8 (Int.fdiv p1 (2 ^ (Int.toNat (W6 (7 * y20_3))))))) (Ocs (lit_int (u8w _)) (op_convert rfl (a1 := .int .u64 (Int.fdiv p1 (2 ^ (Int.toNat (W6 (7 * y20_3)))))) (by kernel_rfl) (run_conv (ds := .int .u64) (k' := .u8) (by kernel_rfl) (by kernel_rfl)))) ?_
   obtain ⟨v28_4, hv28_4, hm⟩ := bnd hm; replace hv28_4 := Option.some.inj hv28_4
   refine Wz (.y v28_4) (Ocs (Eq.trans (lit_int (u8w _)) (congrArg (fun z => A.d (byteD z)) hv28_4)) (op_bin rfl (a1 := .int .u8 (((toU8 (Int.fdiv p1 (2 ^ (Int.toNat (W6 (7 * y20_3)))))).toNat : Nat) : Int)) (a2 := .int .u8 128) (by kernel_rfl) (by kernel_rfl) (fun _ => hb_or))) <| Wm (.y v28_4) rfl <| Nk 1573346 1 ⟨tp 1 (.u p1::tp 3 (.i r10_0::.own 0::.i y20_3::.y v28_4::tp 10 (.i r10_0::.i y20_3::tp 20 []))), [(Ar 5 1 encU8 y6_3)], 0⟩ ?_
   refine AWP.cutJ (α := UInt8) (fun x => match x with | y8_5 => (⟨tp 1 (.u p1::tp 3 (.i r10_0::.own 0::tp 1 (.y y8_5::tp 10 (.i r10_0::.i y20_3::tp 20 [])))), [(Ar 5 1 encU8 y6_3)], 0⟩ : St)) (fun x => match x with | y8_5 => m_zig_Put_j5 y20_3 y6_3 (fun y6_3 y20_3 => m_zig_Put_l3 p1 r10_0 fu_3 y6_3 y20_3) y8_5 = some r) ?_ (fun J5 => ?_)
   ·
    rintro y8_5 hm
    try dsimp only at hm ⊢
    unfold m_zig_Put_j5 at hm
    refine Tx <| Wm (.own 0) rfl <| Wm (.y y8_5) rfl <| Wy (.own 1) [(1, (Ar 5 1 encU8 ([y8_5] : List UInt8)))] (Obs rfl) ?_
    obtain ⟨a38_5, ha38_5, hm⟩ := bnd hm; obtain ⟨ha38_5e, ha38_5l⟩ := app_some ha38_5
    refine Wy (.own 2) [(0, .gone), (2, (Ar 5 1 encU8 a38_5))] (Oap rfl elemOK_31 encU8_len ha38_5e ha38_5l) <| Wm (.own 2) rfl <| Wn0 <| Ino <| Tk 1572962 4 ⟨tp 1 (.u p1::tp 3 (.i r10_0::.own 2::tp 12 (.i r10_0::.i y20_3::tp 20 []))), [.gone, .gone, (Ar 5 1 encU8 a38_5)], 0⟩ <| Tx <| Wz (.i (W6 (y20_3 + 1))) (Obn rfl (fun _ => hb_add (k := .i64))) <| Wm (.i (W6 (y20_3 + 1))) rfl <| Wn0 <| RoundK.normal ?_
    exact Rounds.weak (Weak.toK 1572962 0 0 [2]) (ih_3 (fu_3, a38_5, (W6 (y20_3 + 1))) hm (Nat.lt_succ_self _))
   refine Sq <| Sx <| Wm (.i y20_3) rfl <| Wm (.i r10_0) rfl <| Wz (.i (W6 (r10_0 - 1))) (Obn rfl (fun _ => hb_sub (k := .i64))) <| Wz (.b (decide (y20_3 = (W6 (r10_0 - 1))))) (Obn rfl (fun _ => hb_eql (k := .i64))) <| Nk 4296540514 1 ⟨tp 1 (.u p1::tp 3 (.i r10_0::.own 0::tp 1 (.y v28_4::tp 10 (.i r10_0::.i y20_3::tp 11 (.b (decide (y20_3 = (W6 (r10_0 - 1))))::tp 8 []))))), [(Ar 5 1 encU8 y6_3)], 0⟩ ?_
   rcases tf_ (decide (y20_3 = (W6 (r10_0 - 1)))) with hc32_7 | hc32_7
   ·
    replace hm := cT hc32_7 hm
    refine AiT hc32_7 <| Tx <| Wm (.y v28_4) rfl <| Wz (.y (toU8 (((BitVec.ofInt 8 ((v28_4.toNat : Nat) : Int) &&& ~~~ BitVec.ofInt 8 128).toNat : Int)))) (Ocs (lit_int (u8w _)) (op_bin rfl (a1 := .int .u8 ((v28_4.toNat : Nat) : Int)) (a2 := .int .u8 128) (by kernel_rfl) (by kernel_rfl) (fun _ => hb_andNot))) <| Wm (.y (toU8 (((BitVec.ofInt 8 ((v28_4.toNat : Nat) : Int) &&& ~~~ BitVec.ofInt 8 128).toNat : Int)))) rfl <| Nn ?_
    exact AWP.weak (Weak.toK 1573218 0 0 [0]) (J5 ((toU8 (((BitVec.ofInt 8 ((v28_4.toNat : Nat) : Int) &&& ~~~ BitVec.ofInt 8 128).toNat : Int)))) hm)
   ·
    replace hm := cF hc32_7 hm
    refine AiF hc32_7 <| Sk <| Tn ?_
    exact AWP.weak (Weak.toK 1573218 0 0 [0]) (J5 (v28_4) hm)
  ·
   replace hm := cF hc21_6 hm
   refine AiF hc21_6 <| AWP.exit <| Then.exit <| RoundK.exit <| InBlock.same <| Tk 64 1 ⟨tp 6 (.own 0::tp 34 []), [(Ar 5 1 encU8 y6_3)], 0⟩ <| Sx <| Wm (.own 0) rfl <| Wm (.own 0) rfl <| Nn <| Rt ?_
   obtain rfl := Option.some.inj hm
   exact ret_i [0]

theorem ok_zig_Fold (p0 : Int) (r : Int) (h : m_zig_Fold p0 = some r) : GCall Tryd.prog 53 [(.i p0)] [] (.u r) [] := by
 refine GCall.of_body (n := 10) (rs := [(.tmp 2)]) Tryd.func53 rfl rfl rfl <| Ato ⟨.i p0::tu 9 [], [], 0⟩ ?_
 have hm := h
 unfold m_zig_Fold at hm
 refine Sx <| Wm (.u 0) rfl <| Nk 1 0 ⟨.i p0::tp 9 [], [], 0⟩ <| Sx <| Wm (.i p0) rfl <| Wz (.u (W7 p0)) (Oc2 (.int .i64 p0) rfl (run_conv (ds := .int .i64) (k' := .u64) (by kernel_rfl) (by kernel_rfl))) <| Wz (.u (W7 ((W7 p0) * 2 ^ 1))) (Ob2 (.int .u64 (W7 p0)) (.int .u64 1) rfl (fun _ => hb_shl (n := 1) (by decide) rfl)) <| Wm (.i p0) rfl <| Wz (.i (Int.fdiv p0 (2 ^ 63))) (Ob2 (.int .i64 p0) (.int .u64 63) rfl (fun _ => hb_shr (n := 63) (by decide) rfl)) <| Wz (.u (W7 (Int.fdiv p0 (2 ^ 63)))) (Oc2 (.int .i64 (Int.fdiv p0 (2 ^ 63))) rfl (run_conv (ds := .int .i64) (k' := .u64) (by kernel_rfl) (by kernel_rfl))) ?_
 obtain ⟨v9_0, hv9_0, hm⟩ := bnd hm; replace hv9_0 := Option.some.inj hv9_0
 refine Wz (.u v9_0) (Ocs (Eq.trans (by kernel_rfl) (congrArg (fun z => A.d (.lit (.int .u64 z))) hv9_0)) (op_bin rfl (a1 := .int .u64 (W7 ((W7 p0) * 2 ^ 1))) (a2 := .int .u64 (W7 (Int.fdiv p0 (2 ^ 63)))) (by kernel_rfl) (by kernel_rfl) (fun _ => hb_xor))) <| Wm (.u v9_0) rfl <| Nn <| Rt ?_
 obtain rfl := Option.some.inj hm
 exact ret_i []

theorem ok_zig_PutInt (p0 : (List UInt8)) (p1 : Int) (r : (List UInt8)) (h : m_zig_PutInt p0 p1 = some r) : GCall Tryd.prog 29 [(.l encU8 p0), (.i p1)] [] (.own 0) [(Ar 5 1 encU8 r)] := by
 refine GCall.of_body (n := 9) (rs := [(.tmp 4)]) Tryd.func29 rfl rfl rfl <| Ato ⟨.l encU8 p0::.i p1::tu 7 [], [], 0⟩ ?_
 have hm := h
 unfold m_zig_PutInt at hm
 refine Sx <| Wm (.d .nil) rfl <| Nk 3 0 ⟨.l encU8 p0::.i p1::tp 7 [], [], 0⟩ <| Sx <| Wm (.l encU8 p0) rfl <| Wm (.i p1) rfl ?_
 obtain ⟨r7_0, hr7_0, hm⟩ := bnd hm
 refine Wz (.u r7_0) (Ocf [] [] [] 0 (ok_zig_Fold p1 r7_0 hr7_0) (fun a w => Tryd.call53 a w) rfl trivial) ?_
 obtain ⟨r8_0, hr8_0, hm⟩ := bnd hm
 refine Wy (.own 0) [(0, (Ar 5 1 encU8 r8_0))] (Ocf [] [0] [] 0 (ok_zig_Put p0 r7_0 r8_0 hr8_0) (fun a w => Tryd.call51 a w) rfl trivial) <| Wm (.own 0) rfl <| Nn <| Rt ?_
 obtain rfl := Option.some.inj hm
 exact ret_i [0]

theorem ok_octet_grown (p0 : (List UInt8)) (p1 : Int) (r : (List UInt8)) (h : m_octet_grown p0 p1 = some r) : GCall Tryd.prog 47 [(.l encU8 p0), (.i p1)] [] (.own 0) [(Ar 5 1 encU8 r)] := by
 refine GCall.of_body (n := 15) (rs := [(.tmp 4)]) Tryd.func47 rfl rfl rfl <| Ato ⟨.l encU8 p0::.i p1::tu 13 [], [], 0⟩ ?_
 have hm := h
 unfold m_octet_grown at hm
 refine Sx <| Wm (.d .nil) rfl <| Nk 3 0 ⟨.l encU8 p0::.i p1::tp 13 [], [], 0⟩ <| Sx <| Wm (.l encU8 p0) rfl <| Wz (.i ((List.length p0 : Nat) : Int)) (Oln rfl) <| Wm (.i p1) rfl <| Wz (.i (W6 (((List.length p0 : Nat) : Int) + p1))) (Obn rfl (fun _ => hb_add (k := .i64))) ?_
 obtain ⟨m10_0, hm10_0, hm⟩ := bnd hm; obtain ⟨hm10_0i, hm10_0l, hm10_0e⟩ := mk_some hm10_0
 refine Wy (.own 0) [(0, (Ar 5 1 encU8 m10_0))] (OcB (op_make rfl elemOK_31 (by kernel_rfl) (kl := .i64) (kc := .i64) (L := (IntKind.i64.wrap (((List.length p0 : Nat) : Int) + p1))) (C := (IntKind.i64.wrap (((List.length p0 : Nat) : Int) + p1))) (by kernel_rfl) (by kernel_rfl) (n := Int.toNat (IntKind.i64.wrap (((List.length p0 : Nat) : Int) + p1))) hm10_0i hm10_0i (by omega) (by kernel_rfl)) (bl_one (by rw [hm10_0e]; simp) (by rw [hm10_0e]; exact (flat_rep (by kernel_rfl))))) <| Wm (.own 0) rfl <| Nk 33 1 ⟨.l encU8 p0::tp 4 (.own 0::tp 9 []), [(Ar 5 1 encU8 m10_0)], 0⟩ <| Sx <| Wm (.own 0) rfl <| Wm (.l encU8 p0) rfl ?_
 obtain ⟨c13_1, hc13_1, hm⟩ := bnd hm; obtain ⟨hc13_1e, hc13_1l⟩ := cpy_some hc13_1
 refine Wy (.i ((List.length p0 : Nat) : Int)) [(0, (Ar 5 1 encU8 c13_1))] (OcB (Ocs (by kernel_rfl) (op_copy rfl (e := 5) (sz := 1) (by kernel_rfl) (yd := (.own 0)) (by kernel_rfl) (id := 0) (off := 0) (dn := List.length m10_0) (by kernel_rfl) (n := List.length m10_0) (xs := flatD encU8 m10_0) (by kernel_rfl) (y := (.l encU8 p0)) (by kernel_rfl) (ds := flatD encU8 p0) (soff := 0) (k := List.length p0) (by kernel_rfl) (es := flatD encU8 p0) (flat_all encU8_len) (flatD_length encU8_len _) hc13_1l (cpy_fit encU8_len hc13_1l) (by decide))) (bl_one (cpy_len hc13_1e hc13_1l) (by rw [hc13_1e]; exact cpy_put encU8_len hc13_1l))) <| Nk 32 1 ⟨tp 5 (.own 0::tp 9 []), [(Ar 5 1 encU8 c13_1)], 0⟩ <| Sx <| Wm (.own 0) rfl <| Wm (.own 0) rfl <| Nn <| Rt ?_
 obtain rfl := Option.some.inj hm
 exact ret_i [0]

theorem ok_octet_lay (p0 : (List UInt8)) (p1 : Int) (p2 : Int) (r : (List UInt8)) (h : m_octet_lay p0 p1 p2 = some r) : GCall Tryd.prog 48 [(.own 0), (.i p1), (.u p2)] [(Ar 5 1 encU8 p0)] (.tup []) [(Ar 5 1 encU8 r)] := by
 refine GCall.of_body (n := 25) (rs := []) Tryd.func48 rfl rfl rfl <| Ato ⟨.own 0::.i p1::.u p2::tu 22 [], [(Ar 5 1 encU8 p0)], 1⟩ ?_
 have hm := h
 unfold m_octet_lay at hm
 refine Sx <| Wm (.own 0) rfl <| Wz (.i ((List.length p0 : Nat) : Int)) (Oln rfl) <| Wz (.i (W6 (((List.length p0 : Nat) : Int) - 1))) (Obn rfl (fun _ => hb_sub (k := .i64))) <| Wm (.i (W6 (((List.length p0 : Nat) : Int) - 1))) rfl <| Nk 71 1 ⟨.own 0::.i p1::.u p2::tp 3 (.i (W6 (((List.length p0 : Nat) : Int) - 1))::tp 18 []), [(Ar 5 1 encU8 p0)], 1⟩ <| Bk ?_
 refine AWP.loopI (α := Nat × (List UInt8) × Int × Int)
   (fun (fu_1, y0_1, y2_1, y6_1) => (⟨.own 0::.i p1::.u y2_1::tp 3 (.i y6_1::tp 18 []), [(Ar 5 1 encU8 y0_1)], 1⟩ : St))
   (fun (fu_1, y0_1, y2_1, y6_1) => m_octet_lay_l1 p1 fu_1 y0_1 y2_1 y6_1 = some r)
   (fun (fu_1, y0_1, y2_1, y6_1) => fu_1) (1152921504606846976, p0, p2, (W6 (((List.length p0 : Nat) : Int) - 1)))
   (Weak.toK 71 0 0 [0]) hm ?_
 rintro ⟨fu_1, y0_1, y2_1, y6_1⟩ n_1 hm ih_1
 try dsimp only at hm ih_1 ⊢
 cases fu_1 with
 | zero => exact absurd hm (by unfold m_octet_lay_l1; simp)
 | succ fu_1 =>
  unfold m_octet_lay_l1 at hm
  refine Sq <| Sx <| Wm (.i y6_1) rfl <| Wm (.own 0) rfl <| Wz (.i ((List.length y0_1 : Nat) : Int)) (Oln rfl) <| Wm (.i p1) rfl <| Wz (.i (W6 (((List.length y0_1 : Nat) : Int) - p1))) (Obn rfl (fun _ => hb_sub (k := .i64))) <| Wz (.b (decide ((W6 (((List.length y0_1 : Nat) : Int) - p1)) ≤ y6_1))) (Obn rfl (fun _ => hb_geq (k := .i64))) <| Nk 32839 1 ⟨.own 0::.i p1::.u y2_1::tp 3 (.i y6_1::tp 8 (.b (decide ((W6 (((List.length y0_1 : Nat) : Int) - p1)) ≤ y6_1))::tp 9 [])), [(Ar 5 1 encU8 y0_1)], 1⟩ ?_
  rcases tf_ (decide ((W6 (((List.length y0_1 : Nat) : Int) - p1)) ≤ y6_1)) with hc15_4 | hc15_4
  ·
   replace hm := cT hc15_4 hm
   refine AiT hc15_4 <| Sk <| Tk 71 1 ⟨.own 0::.i p1::.u y2_1::tp 3 (.i y6_1::tp 18 []), [(Ar 5 1 encU8 y0_1)], 1⟩ <| Sq <| Bk <| Sx <| Wm (.own 0) rfl <| Wm (.i y6_1) rfl <| Wm (.u y2_1) rfl <| Wz (.y (toU8 y2_1)) (Ocs (lit_int (u8w _)) (op_convert rfl (a1 := .int .u64 y2_1) (by kernel_rfl) (run_conv (ds := .int .u64) (k' := .u8) (by kernel_rfl) (by kernel_rfl)))) ?_
   obtain ⟨x22_3, hx22_3, hm⟩ := bnd hm
   obtain ⟨hx22_3i, hx22_3g⟩ := geti_some hx22_3
   refine Wz (.loc 0 ((Int.toNat y6_1) * 1)) (Oia rfl encU8_len hx22_3i hx22_3g) <| Wy (.tup []) [(0, (Ar 5 1 encU8 (List.set y0_1 (Int.toNat y6_1) (toU8 y2_1))))] (Osr 0 rfl encU8_len hx22_3g (toU8 y2_1)) <| Nk 71 1 ⟨.own 0::.i p1::.u y2_1::tp 3 (.i y6_1::tp 18 []), [(Ar 5 1 encU8 (List.set y0_1 (Int.toNat y6_1) (toU8 y2_1)))], 1⟩ <| Tx <| Wm (.u y2_1) rfl <| Wz (.u (Int.fdiv y2_1 (2 ^ 8))) (Ob2 (.int .u64 y2_1) (.int .u64 8) rfl (fun _ => hb_shr (n := 8) (by decide) rfl)) <| Wm (.u (Int.fdiv y2_1 (2 ^ 8))) rfl <| Wn0 <| Ino <| Tk 71 1 ⟨.own 0::.i p1::.u (Int.fdiv y2_1 (2 ^ 8))::tp 3 (.i y6_1::tp 18 []), [(Ar 5 1 encU8 (List.set y0_1 (Int.toNat y6_1) (toU8 y2_1)))], 1⟩ <| Tx <| Wm (.i y6_1) rfl <| Wz (.i (W6 (y6_1 - 1))) (Obn rfl (fun _ => hb_sub (k := .i64))) <| Wm (.i (W6 (y6_1 - 1))) rfl ?_
   refine Wn0 <| RoundK.normal ?_
   exact Rounds.weak (Weak.toK 71 0 0 [0]) (ih_1 (fu_1, (List.set y0_1 (Int.toNat y6_1) (toU8 y2_1)), (Int.fdiv y2_1 (2 ^ 8)), (W6 (y6_1 - 1))) hm (Nat.lt_succ_self _))
  ·
   replace hm := cF hc15_4 hm
   refine AiF hc15_4 <| AWP.exit <| Then.exit <| RoundK.exit <| InBlock.same ?_
   obtain rfl := Option.some.inj hm
   exact ret_n [0]

theorem ok_octet_Word (p0 : (List UInt8)) (p1 : Int) (r : (List UInt8)) (h : m_octet_Word p0 p1 = some r) : GCall Tryd.prog 77 [(.l encU8 p0), (.u p1)] [] (.own 0) [(Ar 5 1 encU8 r)] := by
 refine GCall.of_body (n := 12) (rs := [(.tmp 4)]) Tryd.func77 rfl rfl rfl <| Ato ⟨.l encU8 p0::.u p1::tu 10 [], [], 0⟩ ?_
 have hm := h
 unfold m_octet_Word at hm
 refine Sx <| Wm (.d .nil) rfl <| Nk 3 0 ⟨.l encU8 p0::.u p1::tp 10 [], [], 0⟩ <| Sx <| Wm (.l encU8 p0) rfl ?_
 obtain ⟨r7_0, hr7_0, hm⟩ := bnd hm
 refine Wy (.own 0) [(0, (Ar 5 1 encU8 r7_0))] (Ocf [] [0] [] 0 (ok_octet_grown p0 8 r7_0 hr7_0) (fun a w => Tryd.call47 a w) rfl trivial) <| Wm (.own 0) rfl <| Nk 34 1 ⟨tp 1 (.u p1::tp 3 (.own 0::tp 6 [])), [(Ar 5 1 encU8 r7_0)], 0⟩ <| Sx <| Wm (.own 0) rfl <| Wm (.u p1) rfl ?_
 obtain ⟨r10_1, hr10_1, hm⟩ := bnd hm
 refine Wy (.tup []) [(0, (Ar 5 1 encU8 r10_1))] (Ocf [0] [] [] 0 (ok_octet_lay r7_0 8 p1 r10_1 hr10_1) (fun a w => Tryd.call48 a w) rfl ⟨rfl, trivial⟩) <| Nk 32 1 ⟨tp 5 (.own 0::tp 6 []), [(Ar 5 1 encU8 r10_1)], 0⟩ <| Sx <| Wm (.own 0) rfl <| Wm (.own 0) rfl <| Nn <| Rt ?_
 obtain rfl := Option.some.inj hm
 exact ret_i [0]

theorem ok_value_Put (p0 : (List UInt8)) (p1 : GValue) (r : ((List UInt8) × Int)) (h : m_value_Put p0 p1 = some r) : GCall Tryd.prog 52 [(.l encU8 p0), (.agg [(.y p1.Kind), (.i p1.N), (.u p1.Bits), (.s p1.Text)])] [] (.tup [(.own 0), (.i r.2)]) [(Ar 5 1 encU8 r.1)] := by
 refine GCall.of_body (n := 58) (rs := [(.tmp 4), (.tmp 5)]) Tryd.func52 rfl rfl rfl <| Ato ⟨.l encU8 p0::.agg [(.y p1.Kind), (.i p1.N), (.u p1.Bits), (.s p1.Text)]::tu 56 [], [], 0⟩ ?_
 have hm := h
 unfold m_value_Put at hm
 refine Sx <| Wy (.loc 0 0) [(0, (.box [(.y p1.Kind), (.i p1.N), (.u p1.Bits), (.s p1.Text)]))] (Obx rfl) <| Wm (.d .nil) rfl <| Wm (.i 0) rfl <| Nk 9 1 ⟨.l encU8 p0::tp 2 (.loc 0 0::tp 54 []), [(.box [(.y p1.Kind), (.i p1.N), (.u p1.Bits), (.s p1.Text)])], 0⟩ <| Sq <| Sx <| Wz (.agg [(.y p1.Kind), (.i p1.N), (.u p1.Bits), (.s p1.Text)]) (Old rfl) ?_
 obtain ⟨r9_0, hr9_0, hm⟩ := bnd hm
 refine Wz (.i r9_0) (Ocf [] [] [] 0 (ok_value_Check p1 r9_0 hr9_0) (fun a w => Tryd.call76 a w) rfl trivial) <| Wm (.i r9_0) rfl <| Nk 73 1 ⟨.l encU8 p0::tp 2 (.loc 0 0::tp 2 (.i r9_0::tp 51 [])), [(.box [(.y p1.Kind), (.i p1.N), (.u p1.Bits), (.s p1.Text)])], 0⟩ <| Sx <| Wm (.i r9_0) rfl <| Wz (.b (decide (r9_0 ≠ 0))) (Obn rfl (fun _ => hb_neq (k := .i64))) <| Nk 2121 1 ⟨.l encU8 p0::tp 2 (.loc 0 0::tp 2 (.i r9_0::tp 4 (.b (decide (r9_0 ≠ 0))::tp 46 []))), [(.box [(.y p1.Kind), (.i p1.N), (.u p1.Bits), (.s p1.Text)])], 0⟩ ?_
 rcases tf_ (decide (r9_0 ≠ 0)) with hc11_8 | hc11_8
 ·
  replace hm := cT hc11_8 hm
  refine AiT hc11_8 <| Sx <| Wm (.i r9_0) rfl <| Wm (.d .nil) rfl <| Wm (.i r9_0) rfl <| Nn <| Aow 4 5 1 ⟨.l encU8 p0::tp 2 (.loc 0 0::.own 1::.i r9_0::.i r9_0::tp 4 (.b (decide (r9_0 ≠ 0))::.i r9_0::tp 45 [])), [(.box [(.y p1.Kind), (.i p1.N), (.u p1.Bits), (.s p1.Text)]), (Ar 5 1 encU8 ([] : List UInt8))], 0⟩ <| Rt <| Tr ?_
  obtain rfl := Option.some.inj hm
  exact ret_i [1]
 ·
  replace hm := cF hc11_8 hm
  refine AiF hc11_8 <| Sk <| Tk 9 1 ⟨.l encU8 p0::tp 2 (.loc 0 0::tp 54 []), [(.box [(.y p1.Kind), (.i p1.N), (.u p1.Bits), (.s p1.Text)])], 0⟩ <| Sx <| Wm (.l encU8 p0) rfl <| Wz (.i ((List.length p0 : Nat) : Int)) (Oln rfl) <| Wm (.l encU8 p0) rfl <| Wz (.i ((List.length p0 : Nat) : Int)) (Oln rfl) <| Wz (.i (W6 (((List.length p0 : Nat) : Int) + 1))) (Obn rfl (fun _ => hb_add (k := .i64))) ?_
  obtain ⟨m18_1, hm18_1, hm⟩ := bnd hm; obtain ⟨hm18_1i, hm18_1j, hm18_1l, hm18_1k, hm18_1e⟩ := mkc_some hm18_1
  refine Wy (.own 1) [(1, (Ar 5 1 encU8 m18_1))] (OcB (op_makeC rfl elemOK_31 (by kernel_rfl) (kl := .i64) (kc := .i64) (L := ((List.length p0 : Nat) : Int)) (C := (IntKind.i64.wrap (((List.length p0 : Nat) : Int) + 1))) (by kernel_rfl) (by kernel_rfl) (n := Int.toNat ((List.length p0 : Nat) : Int)) (cp := Int.toNat (IntKind.i64.wrap (((List.length p0 : Nat) : Int) + 1))) hm18_1i hm18_1j hm18_1l (by omega) (by kernel_rfl)) (bl_one (by rw [hm18_1e]; simp) (by rw [hm18_1e]; exact (flat_rep (by kernel_rfl))))) <| Wm (.own 1) rfl <| Nk 137 3 ⟨.l encU8 p0::tp 2 (.loc 0 0::tp 3 (.own 1::tp 50 [])), [(.box [(.y p1.Kind), (.i p1.N), (.u p1.Bits), (.s p1.Text)]), (Ar 5 1 encU8 m18_1)], 0⟩ <| Sx <| Wm (.own 1) rfl <| Wm (.l encU8 p0) rfl ?_
  obtain ⟨c21_2, hc21_2, hm⟩ := bnd hm; obtain ⟨hc21_2e, hc21_2l⟩ := cpy_some hc21_2
  refine Wy (.i ((List.length p0 : Nat) : Int)) [(1, (Ar 5 1 encU8 c21_2))] (OcB (Ocs (by kernel_rfl) (op_copy rfl (e := 5) (sz := 1) (by kernel_rfl) (yd := (.own 1)) (by kernel_rfl) (id := 1) (off := 0) (dn := List.length m18_1) (by kernel_rfl) (n := List.length m18_1) (xs := flatD encU8 m18_1) (by kernel_rfl) (y := (.l encU8 p0)) (by kernel_rfl) (ds := flatD encU8 p0) (soff := 0) (k := List.length p0) (by kernel_rfl) (es := flatD encU8 p0) (flat_all encU8_len) (flatD_length encU8_len _) hc21_2l (cpy_fit encU8_len hc21_2l) (by decide))) (bl_one (cpy_len hc21_2e hc21_2l) (by rw [hc21_2e]; exact cpy_put encU8_len hc21_2l))) <| Nk 136 3 ⟨tp 3 (.loc 0 0::tp 3 (.own 1::tp 50 [])), [(.box [(.y p1.Kind), (.i p1.N), (.u p1.Bits), (.s p1.Text)]), (Ar 5 1 encU8 c21_2)], 0⟩ <| Sx <| Wm (.own 1) rfl <| Wz (.loc 0 0) (Ofa rfl) <| Wz (.y p1.Kind) (Old rfl) <| Wy (.own 2) [(2, (Ar 5 1 encU8 ([p1.Kind] : List UInt8)))] (Obs rfl) ?_
  obtain ⟨a26_3, ha26_3, hm⟩ := bnd hm; obtain ⟨ha26_3e, ha26_3l⟩ := app_some ha26_3
  refine Wy (.own 3) [(1, .gone), (3, (Ar 5 1 encU8 a26_3))] (Oap rfl elemOK_31 encU8_len ha26_3e ha26_3l) <| Wm (.own 3) rfl <| Nk 136 9 ⟨tp 3 (.loc 0 0::tp 3 (.own 3::tp 50 [])), [(.box [(.y p1.Kind), (.i p1.N), (.u p1.Bits), (.s p1.Text)]), .gone, .gone, (Ar 5 1 encU8 a26_3)], 0⟩ <| Sq <| Sx <| Wz (.loc 0 0) (Ofa rfl) <| Wz (.y p1.Kind) (Old rfl) <| Nk 268435592 9 ⟨tp 3 (.loc 0 0::tp 3 (.own 3::tp 20 (.y p1.Kind::tp 29 []))), [(.box [(.y p1.Kind), (.i p1.N), (.u p1.Bits), (.s p1.Text)]), .gone, .gone, (Ar 5 1 encU8 a26_3)], 0⟩ <| Bk <| Sx <| Wz (.b (decide (((p1.Kind.toNat : Nat) : Int) = 1))) (Ob2 (.int .u8 ((p1.Kind.toNat : Nat) : Int)) (.int .u8 1) rfl (fun _ => hb_eql)) <| Wm (.b (decide (((p1.Kind.toNat : Nat) : Int) = 1))) rfl <| Nk 805306504 9 ⟨tp 3 (.loc 0 0::tp 3 (.own 3::tp 20 (.y p1.Kind::.b (decide (((p1.Kind.toNat : Nat) : Int) = 1))::tp 28 []))), [(.box [(.y p1.Kind), (.i p1.N), (.u p1.Bits), (.s p1.Text)]), .gone, .gone, (Ar 5 1 encU8 a26_3)], 0⟩ ?_
  rcases tf_ (decide (((p1.Kind.toNat : Nat) : Int) = 1)) with hc29_9 | hc29_9
  ·
   replace hm := cT hc29_9 hm
   refine AiT hc29_9 <| Sx <| Wm (.own 3) rfl <| Wz (.loc 0 1) (Ofa rfl) <| Wz (.i p1.N) (Old rfl) ?_
   obtain ⟨r34_4, hr34_4, hm⟩ := bnd hm
   refine Wy (.own 4) [(4, (Ar 5 1 encU8 r34_4))] (Ocp [] [4] [3] 0 (ok_zig_PutInt a26_3 p1.N r34_4 hr34_4) (⟨by simp [A.Plain, A.Plains, D.Plain, byteD], plain_cons (flat_plain encU8_plain) (plain_nil)⟩) (fun a w => Tryd.call29 a w) rfl trivial) <| Wm (.own 4) rfl <| Wm (.i 0) rfl <| Nn <| Rt <| Ir <| Tr ?_
   obtain rfl := Option.some.inj hm
   exact ret_i [4]
  ·
   replace hm := cF hc29_9 hm
   refine AiF hc29_9 <| Sx <| Wz (.b (decide (((p1.Kind.toNat : Nat) : Int) = 2))) (Ob2 (.int .u8 ((p1.Kind.toNat : Nat) : Int)) (.int .u8 2) rfl (fun _ => hb_eql)) <| Wm (.b (decide (((p1.Kind.toNat : Nat) : Int) = 2))) rfl <| Nk 34628173960 9 ⟨tp 3 (.loc 0 0::tp 3 (.own 3::tp 20 (.y p1.Kind::tp 6 (.b (decide (((p1.Kind.toNat : Nat) : Int) = 2))::tp 22 [])))), [(.box [(.y p1.Kind), (.i p1.N), (.u p1.Bits), (.s p1.Text)]), .gone, .gone, (Ar 5 1 encU8 a26_3)], 0⟩ ?_
   rcases tf_ (decide (((p1.Kind.toNat : Nat) : Int) = 2)) with hc35_10 | hc35_10
   ·
    replace hm := cT hc35_10 hm
    refine AiT hc35_10 <| Sx <| Wm (.own 3) rfl <| Wz (.loc 0 1) (Ofa rfl) <| Wz (.i p1.N) (Old rfl) <| Wz (.y (toU8 p1.N)) (Ocs (lit_int (u8w _)) (op_convert rfl (a1 := .int .i64 p1.N) (by kernel_rfl) (run_conv (ds := .int .i64) (k' := .u8) (by kernel_rfl) (by kernel_rfl)))) <| Wy (.own 4) [(4, (Ar 5 1 encU8 ([(toU8 p1.N)] : List UInt8)))] (Obs rfl) ?_
    obtain ⟨a42_5, ha42_5, hm⟩ := bnd hm; obtain ⟨ha42_5e, ha42_5l⟩ := app_some ha42_5
    refine Wy (.own 5) [(3, .gone), (5, (Ar 5 1 encU8 a42_5))] (Oap rfl elemOK_31 encU8_len ha42_5e ha42_5l) <| Wm (.own 5) rfl <| Wm (.i 0) rfl <| Nn <| Rt <| Ir <| Tr ?_
    obtain rfl := Option.some.inj hm
    exact ret_i [5]
   ·
    replace hm := cF hc35_10 hm
    refine AiF hc35_10 <| Sx <| Wz (.b (decide (((p1.Kind.toNat : Nat) : Int) = 3))) (Ob2 (.int .u8 ((p1.Kind.toNat : Nat) : Int)) (.int .u8 3) rfl (fun _ => hb_eql)) <| Wm (.b (decide (((p1.Kind.toNat : Nat) : Int) = 3))) rfl <| Nk 8796093022344 9 ⟨tp 3 (.loc 0 0::tp 3 (.own 3::tp 35 (.b (decide (((p1.Kind.toNat : Nat) : Int) = 3))::tp 14 []))), [(.box [(.y p1.Kind), (.i p1.N), (.u p1.Bits), (.s p1.Text)]), .gone, .gone, (Ar 5 1 encU8 a26_3)], 0⟩ ?_
    rcases tf_ (decide (((p1.Kind.toNat : Nat) : Int) = 3)) with hc43_11 | hc43_11
    ·
     replace hm := cT hc43_11 hm
     refine AiT hc43_11 <| Sx <| Wm (.own 3) rfl <| Wz (.loc 0 2) (Ofa rfl) <| Wz (.u p1.Bits) (Old rfl) ?_
     obtain ⟨r48_6, hr48_6, hm⟩ := bnd hm
     refine Wy (.own 4) [(4, (Ar 5 1 encU8 r48_6))] (Ocp [] [4] [3] 0 (ok_octet_Word a26_3 p1.Bits r48_6 hr48_6) (⟨by simp [A.Plain, A.Plains, D.Plain, byteD], plain_cons (flat_plain encU8_plain) (plain_nil)⟩) (fun a w => Tryd.call77 a w) rfl trivial) <| Wm (.own 4) rfl <| Wm (.i 0) rfl <| Nn <| Rt <| Ir <| Tr ?_
     obtain rfl := Option.some.inj hm
     exact ret_i [4]
    ·
     replace hm := cF hc43_11 hm
     refine AiF hc43_11 <| Sk <| Ino <| Tk 136 9 ⟨tp 3 (.loc 0 0::tp 3 (.own 3::tp 50 [])), [(.box [(.y p1.Kind), (.i p1.N), (.u p1.Bits), (.s p1.Text)]), .gone, .gone, (Ar 5 1 encU8 a26_3)], 0⟩ <| Sq <| Adr <| Wm (.own 3) rfl <| Wz (.loc 0 3) (Ofa rfl) <| Wz (.s p1.Text) (Old rfl) <| Wz (.i ((List.length p1.Text : Nat) : Int)) (Oln rfl) <| Wz (.u (W7 ((List.length p1.Text : Nat) : Int))) (Oc2 (.int .i64 ((List.length p1.Text : Nat) : Int)) rfl (run_conv (ds := .int .i64) (k' := .u64) (by kernel_rfl) (by kernel_rfl))) ?_
     obtain ⟨r54_7, hr54_7, hm⟩ := bnd hm
     refine Wy (.own 4) [(4, (Ar 5 1 encU8 r54_7))] (Ocp [] [4] [3] 0 (ok_zig_Put a26_3 (IntKind.u64.wrap ((List.length p1.Text : Nat) : Int)) r54_7 hr54_7) (⟨by simp [A.Plain, A.Plains, D.Plain, byteD], plain_cons (flat_plain encU8_plain) (plain_nil)⟩) (fun a w => Tryd.call51 a w) rfl trivial) <| Wz (.loc 0 3) (Ofa rfl) <| Wz (.s p1.Text) (Old rfl) ?_
     obtain ⟨a57_7, ha57_7, hm⟩ := bnd hm; obtain ⟨ha57_7e, ha57_7l⟩ := app_some ha57_7
     refine Wy (.own 5) [(4, .gone), (5, (Ar 5 1 encU8 a57_7))] (OcB (op_appendStr rfl elemOK_31 (by kernel_rfl) (id := 4) (by kernel_rfl) (n := List.length r54_7) (xs := flatD encU8 r54_7) (by kernel_rfl) (str := toS p1.Text) (by kernel_rfl) (app_str ha57_7l) (by kernel_rfl) (by decide)) (bl_app (by rw [ha57_7e, List.length_append]; rfl) (by rw [ha57_7e, flatD_append, flatU8 p1.Text]; rfl))) <| Wm (.own 5) rfl <| Wm (.i 0) rfl <| Wdr <| Tn <| Rt ?_
     obtain rfl := Option.some.inj hm
     exact ret_i [5]

theorem ok_event_Put (p0 : (List UInt8)) (p1 : (List GType)) (p2 : GEvent) (r : ((List UInt8) × Int)) (h : m_event_Put p0 p1 p2 = some r) : GCall Tryd.prog 28 [(.l encU8 p0), (.l enc_GType p1), (.agg [(.i p2.Time), (.i p2.Source), (.i p2.Seq), (.s p2.Type_), (.l enc_GValue p2.Vals)])] [] (.tup [(.l encU8 r.1), (.i r.2)]) [] := by
 refine GCall.of_body (n := 60) (rs := [(.tmp 6), (.tmp 7)]) Tryd.func28 rfl rfl rfl <| Ato ⟨.l encU8 p0::.l enc_GType p1::.agg [(.i p2.Time), (.i p2.Source), (.i p2.Seq), (.s p2.Type_), (.l enc_GValue p2.Vals)]::tu 57 [], [], 0⟩ ?_
 have hm := h
 unfold m_event_Put at hm
 refine Sx <| Wy (.loc 0 0) [(0, (.box [(.i p2.Time), (.i p2.Source), (.i p2.Seq), (.s p2.Type_), (.l enc_GValue p2.Vals)]))] (Obx rfl) <| Wm (.d .nil) rfl <| Wm (.i 0) rfl <| Nk 35 1 ⟨.l encU8 p0::.l enc_GType p1::tp 3 (.loc 0 0::tp 54 []), [(.box [(.i p2.Time), (.i p2.Source), (.i p2.Seq), (.s p2.Type_), (.l enc_GValue p2.Vals)])], 0⟩ <| Sq <| Sx <| Wm (.l enc_GType p1) rfl <| Wz (.agg [(.i p2.Time), (.i p2.Source), (.i p2.Seq), (.s p2.Type_), (.l enc_GValue p2.Vals)]) (Old rfl) ?_
 obtain ⟨r18_0, hr18_0, hm⟩ := bnd hm
 refine Wz (.i r18_0) (Ocf [] [] [] 0 (ok_event_Check p1 p2 r18_0 hr18_0) (fun a w => Tryd.call36 a w) rfl trivial) <| Wm (.i r18_0) rfl <| Nk 291 1 ⟨.l encU8 p0::.l enc_GType p1::tp 3 (.loc 0 0::tp 2 (.i r18_0::tp 51 [])), [(.box [(.i p2.Time), (.i p2.Source), (.i p2.Seq), (.s p2.Type_), (.l enc_GValue p2.Vals)])], 0⟩ <| Sx <| Wm (.i r18_0) rfl <| Wz (.b (decide (r18_0 ≠ 0))) (Obn rfl (fun _ => hb_neq (k := .i64))) <| Nk 1048867 1 ⟨.l encU8 p0::.l enc_GType p1::tp 3 (.loc 0 0::tp 2 (.i r18_0::tp 11 (.b (decide (r18_0 ≠ 0))::tp 39 []))), [(.box [(.i p2.Time), (.i p2.Source), (.i p2.Seq), (.s p2.Type_), (.l enc_GValue p2.Vals)])], 0⟩ ?_
 rcases tf_ (decide (r18_0 ≠ 0)) with hc20_9 | hc20_9
 ·
  replace hm := cT hc20_9 hm
  refine AiT hc20_9 <| Sx <| Wm (.i r18_0) rfl <| Wm (.d .nil) rfl <| Wm (.i r18_0) rfl <| Nn <| Rt <| Tr ?_
  obtain rfl := Option.some.inj hm
  exact ret_i []
 ·
  replace hm := cF hc20_9 hm
  refine AiF hc20_9 <| Sk <| Tk 35 1 ⟨.l encU8 p0::.l enc_GType p1::tp 3 (.loc 0 0::tp 54 []), [(.box [(.i p2.Time), (.i p2.Source), (.i p2.Seq), (.s p2.Type_), (.l enc_GValue p2.Vals)])], 0⟩ <| Sx <| Wm (.l enc_GType p1) rfl <| Wz (.clo (.func 50) [] [(.loc 0 0)]) (Ocs (by kernel_rfl) (op_mkfn rfl)) ?_
  obtain ⟨r24_1, hr24_1, hm⟩ := bnd hm
  refine Wz (.i r24_1) (Ocp [] [] [0] 0 (ok_slices_IndexFunc_Type__event_Put_1 p1 p2 r24_1 hr24_1) (plain_triv (by simp [A.Plain, A.Plains, D.Plain, byteD])) (fun a w => Tryd.call49 a w) rfl trivial) <| Wm (.i r24_1) rfl <| Nk 545 1 ⟨.l encU8 p0::tp 4 (.loc 0 0::tp 3 (.i r24_1::tp 50 [])), [(.box [(.i p2.Time), (.i p2.Source), (.i p2.Seq), (.s p2.Type_), (.l enc_GValue p2.Vals)])], 0⟩ <| Sq <| Sx <| Wz (.loc 0 0) (Ofa rfl) <| Wz (.i p2.Time) (Old rfl) <| Wz (.loc 0 1) (Ofa rfl) <| Wz (.i p2.Source) (Old rfl) <| Wz (.loc 0 2) (Ofa rfl) <| Wz (.i p2.Seq) (Old rfl) <| Wm (.i r24_1) rfl <| Wz (.agg [(.i p2.Time), (.i p2.Source), (.i p2.Seq), (.i r24_1)]) (ObA rfl (e := 3) (n := 4) (sz := 1) (by kernel_rfl) (by kernel_rfl)) <| Wm (.i 0) rfl ?_
  refine Nk 12884901921 1 ⟨.l encU8 p0::tp 4 (.loc 0 0::tp 26 (.agg [(.i p2.Time), (.i p2.Source), (.i p2.Seq), (.i r24_1)]::.i 0::tp 26 [])), [(.box [(.i p2.Time), (.i p2.Source), (.i p2.Seq), (.s p2.Type_), (.l enc_GValue p2.Vals)])], 0⟩ <| Bk ?_
  refine AWP.loopI (α := Nat × (List UInt8) × Int)
    (fun (fu_2, y0_2, y33_2) => (⟨.l encU8 y0_2::tp 4 (.loc 0 0::tp 26 (.agg [(.i p2.Time), (.i p2.Source), (.i p2.Seq), (.i r24_1)]::.i y33_2::tp 26 [])), [(.box [(.i p2.Time), (.i p2.Source), (.i p2.Seq), (.s p2.Type_), (.l enc_GValue p2.Vals)])], 0⟩ : St))
    (fun (fu_2, y0_2, y33_2) => m_event_Put_l2 p2 r24_1 fu_2 y0_2 y33_2 = some r)
    (fun (fu_2, y0_2, y33_2) => fu_2) (1152921504606846976, p0, 0)
    (Weak.toK 12884901921 0 0 [0]) hm ?_
  rintro ⟨fu_2, y0_2, y33_2⟩ n_2 hm ih_2
  try dsimp only at hm ih_2 ⊢
  cases fu_2 with
  | zero => exact absurd hm (by unfold m_event_Put_l2; simp)
  | succ fu_2 =>
   unfold m_event_Put_l2 at hm
   refine Sx <| Wz (.b (decide (y33_2 < 4))) (Obn rfl (fun _ => hb_lss (k := .i64))) <| Nk 30064771105 1 ⟨.l encU8 y0_2::tp 4 (.loc 0 0::tp 26 (.agg [(.i p2.Time), (.i p2.Source), (.i p2.Seq), (.i r24_1)]::.i y33_2::.b (decide (y33_2 < 4))::tp 25 [])), [(.box [(.i p2.Time), (.i p2.Source), (.i p2.Seq), (.s p2.Type_), (.l enc_GValue p2.Vals)])], 0⟩ <| Sq ?_
   rcases tf_ (decide (y33_2 < 4)) with hc34_10 | hc34_10
   ·
    replace hm := cT hc34_10 hm
    refine AiT hc34_10 <| Sk <| Tk 12884901921 1 ⟨.l encU8 y0_2::tp 4 (.loc 0 0::tp 26 (.agg [(.i p2.Time), (.i p2.Source), (.i p2.Seq), (.i r24_1)]::.i y33_2::tp 26 [])), [(.box [(.i p2.Time), (.i p2.Source), (.i p2.Seq), (.s p2.Type_), (.l enc_GValue p2.Vals)])], 0⟩ <| Sq <| Bk <| Sx ?_
    obtain ⟨x35_4, hx35_4, hm⟩ := bnd hm
    obtain ⟨hx35_4i, hx35_4g⟩ := geti_some hx35_4
    refine Wz (.i x35_4) (op_index_arr rfl (e := 3) (n := 4) (by kernel_rfl) (sz := 1) (by kernel_rfl) (xs := (flatD (encI .i64) ([p2.Time, p2.Source, p2.Seq, r24_1] : List Int)).map A.d) (by kernel_rfl) (k := .i64) (iv := y33_2) (by kernel_rfl) (i := (Int.toNat y33_2)) (hx35_4i) (getlt hx35_4g) ((loadA_scalar (by kernel_rfl)).trans (flat_row_at (l := ([p2.Time, p2.Source, p2.Seq, r24_1] : List Int)) (sz := 1) (encI_len (k := .i64)) (hx35_4g) (by kernel_rfl)))) <| Wm (.i x35_4) rfl <| Nk 12884903969 1 ⟨.l encU8 y0_2::tp 4 (.loc 0 0::tp 5 (.i x35_4::tp 20 (.agg [(.i p2.Time), (.i p2.Source), (.i p2.Seq), (.i r24_1)]::.i y33_2::tp 26 []))), [(.box [(.i p2.Time), (.i p2.Source), (.i p2.Seq), (.s p2.Type_), (.l enc_GValue p2.Vals)])], 0⟩ <| Tx <| Wm (.l encU8 y0_2) rfl <| Wm (.i x35_4) rfl <| Wz (.u (W7 x35_4)) (Oc2 (.int .i64 x35_4) rfl (run_conv (ds := .int .i64) (k' := .u64) (by kernel_rfl) (by kernel_rfl))) ?_
    obtain ⟨r39_3, hr39_3, hm⟩ := bnd hm
    refine Wy (.own 1) [(1, (Ar 5 1 encU8 r39_3))] (Ocf [] [1] [] 0 (ok_zig_Put y0_2 (W7 x35_4) r39_3 hr39_3) (fun a w => Tryd.call51 a w) rfl trivial) <| Wm (.own 1) rfl <| Wn0 <| Ino <| Tk 12884901921 3 ⟨.own 1::tp 4 (.loc 0 0::tp 26 (.agg [(.i p2.Time), (.i p2.Source), (.i p2.Seq), (.i r24_1)]::.i y33_2::tp 26 [])), [(.box [(.i p2.Time), (.i p2.Source), (.i p2.Seq), (.s p2.Type_), (.l enc_GValue p2.Vals)]), (Ar 5 1 encU8 r39_3)], 0⟩ <| Tx <| Wz (.i (W6 (y33_2 + 1))) (Obn rfl (fun _ => hb_add (k := .i64))) <| Wm (.i (W6 (y33_2 + 1))) rfl <| Wn0 <| RoundK.normal <| Rfz [1] ⟨.l encU8 r39_3::tp 4 (.loc 0 0::tp 26 (.agg [(.i p2.Time), (.i p2.Source), (.i p2.Seq), (.i r24_1)]::.i (W6 (y33_2 + 1))::tp 6 (.i (W6 (y33_2 + 1))::tp 19 []))), [(.box [(.i p2.Time), (.i p2.Source), (.i p2.Seq), (.s p2.Type_), (.l enc_GValue p2.Vals)]), (.fro 5 1 (List.length r39_3) (flatD encU8 r39_3))], 0⟩ ?_
    exact Rounds.weak (Weak.toK 12884901921 0 0 [0]) (ih_2 (fu_2, r39_3, (W6 (y33_2 + 1))) hm (Nat.lt_succ_self _))
   ·
    replace hm := cF hc34_10 hm
    refine AiF hc34_10 <| AWP.exit <| Then.exit <| RoundK.exit <| InBlock.same <| Tk 33 1 ⟨.l encU8 y0_2::tp 4 (.loc 0 0::tp 54 []), [(.box [(.i p2.Time), (.i p2.Source), (.i p2.Seq), (.s p2.Type_), (.l enc_GValue p2.Vals)])], 0⟩ <| Sq <| Sx <| Wz (.loc 0 4) (Ofa rfl) <| Wz (.l enc_GValue p2.Vals) (Old rfl) <| Wz (.i ((List.length p2.Vals : Nat) : Int)) (Oln rfl) <| Wm (.i 0) rfl <| Nk 30786325577729 0 ⟨.l encU8 y0_2::tp 41 (.l enc_GValue p2.Vals::.i ((List.length p2.Vals : Nat) : Int)::.i 0::tp 15 []), [.gone], 0⟩ <| Bk ?_
    refine AWP.loopI (α := Nat × (List UInt8) × Int)
      (fun (fu_6, y0_6, y44_6) => (⟨.l encU8 y0_6::tp 41 (.l enc_GValue p2.Vals::.i ((List.length p2.Vals : Nat) : Int)::.i y44_6::tp 15 []), [], 0⟩ : St))
      (fun (fu_6, y0_6, y44_6) => m_event_Put_l6 p2 fu_6 y0_6 y44_6 = some r)
      (fun (fu_6, y0_6, y44_6) => fu_6) (1152921504606846976, y0_2, 0)
      (Weak.toK 30786325577729 0 0 []) hm ?_
    rintro ⟨fu_6, y0_6, y44_6⟩ n_6 hm ih_6
    try dsimp only at hm ih_6 ⊢
    cases fu_6 with
    | zero => exact absurd hm (by unfold m_event_Put_l6; simp)
    | succ fu_6 =>
     unfold m_event_Put_l6 at hm
     refine Sx <| Wz (.b (decide (y44_6 < ((List.length p2.Vals : Nat) : Int)))) (Obn rfl (fun _ => hb_lss (k := .i64))) <| Nk 65970697666561 0 ⟨.l encU8 y0_6::tp 41 (.l enc_GValue p2.Vals::.i ((List.length p2.Vals : Nat) : Int)::.i y44_6::.b (decide (y44_6 < ((List.length p2.Vals : Nat) : Int)))::tp 14 []), [], 0⟩ <| Sq ?_
     rcases tf_ (decide (y44_6 < ((List.length p2.Vals : Nat) : Int))) with hc45_11 | hc45_11
     ·
      replace hm := cT hc45_11 hm
      refine AiT hc45_11 <| Sk <| Tk 30786325577729 0 ⟨.l encU8 y0_6::tp 41 (.l enc_GValue p2.Vals::.i ((List.length p2.Vals : Nat) : Int)::.i y44_6::tp 15 []), [], 0⟩ <| Sq <| Bk <| Sx ?_
      obtain ⟨x46_7, hx46_7, hm⟩ := bnd hm
      obtain ⟨hx46_7i, hx46_7g⟩ := geti_some hx46_7
      refine Wz (.d (.ref (List.drop ((Int.toNat y44_6) * 4) (flatD enc_GValue p2.Vals)))) (Oia rfl enc_GValue_len hx46_7i hx46_7g) <| Wz (.agg [(.y x46_7.Kind), (.i x46_7.N), (.u x46_7.Bits), (.s x46_7.Text)]) (Lf rfl enc_GValue_len hx46_7g) <| Wy (.loc 0 0) [(0, (.box [(.y 0), (.i 0), (.u 0), (.s ([] : List UInt8))]))] (Oal rfl) <| Wy (.tup []) [(0, (.box [(.y x46_7.Kind), (.i x46_7.N), (.u x46_7.Bits), (.s x46_7.Text)]))] (Ost rfl) <| Nk 30786325585921 1 ⟨.l encU8 y0_6::tp 12 (.loc 0 0::tp 28 (.l enc_GValue p2.Vals::.i ((List.length p2.Vals : Nat) : Int)::.i y44_6::tp 15 [])), [(.box [(.y x46_7.Kind), (.i x46_7.N), (.u x46_7.Bits), (.s x46_7.Text)])], 0⟩ <| Sx <| Wm (.l encU8 y0_6) rfl <| Wz (.agg [(.y x46_7.Kind), (.i x46_7.N), (.u x46_7.Bits), (.s x46_7.Text)]) (Old rfl) ?_
      obtain ⟨r51_8, hr51_8, hm⟩ := bnd hm
      refine Wy (.tup [(.own 1), (.i r51_8.2)]) [(1, (Ar 5 1 encU8 r51_8.1))] (Ocf [] [1] [] 0 (ok_value_Put y0_6 x46_7 r51_8 hr51_8) (fun a w => Tryd.call52 a w) rfl trivial) <| Wm (.tup [(.own 1), (.i r51_8.2)]) rfl <| Wz (.own 1) (Oex rfl) <| Wz (.i r51_8.2) (Oex rfl) <| Wm (.own 1) rfl <| Wm (.i r51_8.2) rfl <| Nk 30786325626880 2 ⟨tp 14 (.own 1::.i r51_8.2::tp 26 (.l enc_GValue p2.Vals::.i ((List.length p2.Vals : Nat) : Int)::.i y44_6::tp 15 [])), [.gone, (Ar 5 1 encU8 r51_8.1)], 0⟩ <| Sq <| Sx <| Wm (.i r51_8.2) rfl <| Wz (.b (decide (r51_8.2 ≠ 0))) (Obn rfl (fun _ => hb_neq (k := .i64))) <| Nk 36059583344590848 2 ⟨tp 14 (.own 1::.i r51_8.2::tp 26 (.l enc_GValue p2.Vals::.i ((List.length p2.Vals : Nat) : Int)::.i y44_6::tp 10 (.b (decide (r51_8.2 ≠ 0))::tp 4 []))), [.gone, (Ar 5 1 encU8 r51_8.1)], 0⟩ ?_
      rcases tf_ (decide (r51_8.2 ≠ 0)) with hc55_12 | hc55_12
      ·
       replace hm := cT hc55_12 hm
       refine AiT hc55_12 <| Sx <| Wm (.i r51_8.2) rfl <| Wm (.d .nil) rfl <| Wm (.i r51_8.2) rfl <| Nn <| Rt <| Tr <| Ir <| Tr <| RoundK.ret <| Ir <| Tr ?_
       obtain rfl := Option.some.inj hm
       exact ret_i []
      ·
       replace hm := cF hc55_12 hm
       refine AiF hc55_12 <| Sk <| Tk 30786325594112 2 ⟨tp 14 (.own 1::tp 27 (.l enc_GValue p2.Vals::.i ((List.length p2.Vals : Nat) : Int)::.i y44_6::tp 15 [])), [.gone, (Ar 5 1 encU8 r51_8.1)], 0⟩ <| Tx <| Wm (.own 1) rfl <| Wm (.own 1) rfl <| Wn0 <| Ino <| Tk 30786325577729 2 ⟨.own 1::tp 41 (.l enc_GValue p2.Vals::.i ((List.length p2.Vals : Nat) : Int)::.i y44_6::tp 15 []), [.gone, (Ar 5 1 encU8 r51_8.1)], 0⟩ <| Tx <| Wz (.i (W6 (y44_6 + 1))) (Obn rfl (fun _ => hb_add (k := .i64))) <| Wm (.i (W6 (y44_6 + 1))) rfl <| Wn0 <| RoundK.normal ?_
       refine Rfz [1] ⟨.l encU8 r51_8.1::tp 41 (.l enc_GValue p2.Vals::.i ((List.length p2.Vals : Nat) : Int)::.i (W6 (y44_6 + 1))::tp 13 (.i (W6 (y44_6 + 1))::tp 1 [])), [.gone, (.fro 5 1 (List.length r51_8.1) (flatD encU8 r51_8.1))], 0⟩ ?_
       exact Rounds.weak (Weak.toK 30786325577729 0 0 []) (ih_6 (fu_6, r51_8.1, (W6 (y44_6 + 1))) hm (Nat.lt_succ_self _))
     ·
      replace hm := cF hc45_11 hm
      refine AiF hc45_11 <| AWP.exit <| Then.exit <| RoundK.exit <| InBlock.same <| Tk 1 0 ⟨.l encU8 y0_6::tp 59 [], [], 0⟩ <| Sx <| Wm (.l encU8 y0_6) rfl <| Wm (.l encU8 y0_6) rfl <| Wm (.i 0) rfl <| Nn <| Rt ?_
      obtain rfl := Option.some.inj hm
      exact ret_i []

theorem ok_script_Put (p0 : (List UInt8)) (p1 : (List GType)) (p2 : GCommand) (r : ((List UInt8) × Int)) (h : m_script_Put p0 p1 p2 = some r) : GCall Tryd.prog 12 [(.l encU8 p0), (.l enc_GType p1), (.agg [(.y p2.Kind), (.s p2.Text), (.i p2.A), (.i p2.B), (.i p2.E.Time), (.i p2.E.Source), (.i p2.E.Seq), (.s p2.E.Type_), (.l enc_GValue p2.E.Vals)])] [] (.tup [(.l encU8 r.1), (.i r.2)]) [] := by
 refine GCall.of_body (n := 62) (rs := [(.tmp 6), (.tmp 7)]) Tryd.func12 rfl rfl rfl <| Ato ⟨.l encU8 p0::.l enc_GType p1::.agg [(.y p2.Kind), (.s p2.Text), (.i p2.A), (.i p2.B), (.i p2.E.Time), (.i p2.E.Source), (.i p2.E.Seq), (.s p2.E.Type_), (.l enc_GValue p2.E.Vals)]::tu 59 [], [], 0⟩ ?_
 have hm := h
 unfold m_script_Put at hm
 refine Sx <| Wy (.loc 0 0) [(0, (.box [(.y p2.Kind), (.s p2.Text), (.i p2.A), (.i p2.B), (.i p2.E.Time), (.i p2.E.Source), (.i p2.E.Seq), (.s p2.E.Type_), (.l enc_GValue p2.E.Vals)]))] (Obx rfl) <| Wm (.d .nil) rfl <| Wm (.i 0) rfl <| Nk 35 1 ⟨.l encU8 p0::.l enc_GType p1::tp 3 (.loc 0 0::tp 56 []), [(.box [(.y p2.Kind), (.s p2.Text), (.i p2.A), (.i p2.B), (.i p2.E.Time), (.i p2.E.Source), (.i p2.E.Seq), (.s p2.E.Type_), (.l enc_GValue p2.E.Vals)])], 0⟩ <| Sq <| Sx <| Wm (.l enc_GType p1) rfl <| Wz (.agg [(.y p2.Kind), (.s p2.Text), (.i p2.A), (.i p2.B), (.i p2.E.Time), (.i p2.E.Source), (.i p2.E.Seq), (.s p2.E.Type_), (.l enc_GValue p2.E.Vals)]) (Old rfl) ?_
 obtain ⟨r12_0, hr12_0, hm⟩ := bnd hm
 refine Wz (.i r12_0) (Ocf [] [] [] 0 (ok_script_Check p1 p2 r12_0 hr12_0) (fun a w => Tryd.call14 a w) rfl trivial) <| Wm (.i r12_0) rfl <| Nk 291 1 ⟨.l encU8 p0::.l enc_GType p1::tp 3 (.loc 0 0::tp 2 (.i r12_0::tp 53 [])), [(.box [(.y p2.Kind), (.s p2.Text), (.i p2.A), (.i p2.B), (.i p2.E.Time), (.i p2.E.Source), (.i p2.E.Seq), (.s p2.E.Type_), (.l enc_GValue p2.E.Vals)])], 0⟩ <| Sx <| Wm (.i r12_0) rfl <| Wz (.b (decide (r12_0 ≠ 0))) (Obn rfl (fun _ => hb_neq (k := .i64))) <| Nk 16675 1 ⟨.l encU8 p0::.l enc_GType p1::tp 3 (.loc 0 0::tp 2 (.i r12_0::tp 5 (.b (decide (r12_0 ≠ 0))::tp 47 []))), [(.box [(.y p2.Kind), (.s p2.Text), (.i p2.A), (.i p2.B), (.i p2.E.Time), (.i p2.E.Source), (.i p2.E.Seq), (.s p2.E.Type_), (.l enc_GValue p2.E.Vals)])], 0⟩ ?_
 rcases tf_ (decide (r12_0 ≠ 0)) with hc14_13 | hc14_13
 ·
  replace hm := cT hc14_13 hm
  refine AiT hc14_13 <| Sx <| Wm (.i r12_0) rfl <| Wm (.d .nil) rfl <| Wm (.i r12_0) rfl <| Nn <| Rt <| Tr ?_
  obtain rfl := Option.some.inj hm
  exact ret_i []
 ·
  replace hm := cF hc14_13 hm
  refine AiF hc14_13 <| Sk <| Tk 35 1 ⟨.l encU8 p0::.l enc_GType p1::tp 3 (.loc 0 0::tp 56 []), [(.box [(.y p2.Kind), (.s p2.Text), (.i p2.A), (.i p2.B), (.i p2.E.Time), (.i p2.E.Source), (.i p2.E.Seq), (.s p2.E.Type_), (.l enc_GValue p2.E.Vals)])], 0⟩ <| Sx <| Wm (.l encU8 p0) rfl <| Wz (.i ((List.length p0 : Nat) : Int)) (Oln rfl) <| Wm (.l encU8 p0) rfl <| Wz (.i ((List.length p0 : Nat) : Int)) (Oln rfl) <| Wz (.i (W6 (((List.length p0 : Nat) : Int) + 1))) (Obn rfl (fun _ => hb_add (k := .i64))) ?_
  obtain ⟨m21_1, hm21_1, hm⟩ := bnd hm; obtain ⟨hm21_1i, hm21_1j, hm21_1l, hm21_1k, hm21_1e⟩ := mkc_some hm21_1
  refine Wy (.own 1) [(1, (Ar 5 1 encU8 m21_1))] (OcB (op_makeC rfl elemOK_31 (by kernel_rfl) (kl := .i64) (kc := .i64) (L := ((List.length p0 : Nat) : Int)) (C := (IntKind.i64.wrap (((List.length p0 : Nat) : Int) + 1))) (by kernel_rfl) (by kernel_rfl) (n := Int.toNat ((List.length p0 : Nat) : Int)) (cp := Int.toNat (IntKind.i64.wrap (((List.length p0 : Nat) : Int) + 1))) hm21_1i hm21_1j hm21_1l (by omega) (by kernel_rfl)) (bl_one (by rw [hm21_1e]; simp) (by rw [hm21_1e]; exact (flat_rep (by kernel_rfl))))) <| Wm (.own 1) rfl <| Nk 547 3 ⟨.l encU8 p0::.l enc_GType p1::tp 3 (.loc 0 0::tp 3 (.own 1::tp 52 [])), [(.box [(.y p2.Kind), (.s p2.Text), (.i p2.A), (.i p2.B), (.i p2.E.Time), (.i p2.E.Source), (.i p2.E.Seq), (.s p2.E.Type_), (.l enc_GValue p2.E.Vals)]), (Ar 5 1 encU8 m21_1)], 0⟩ <| Sx <| Wm (.own 1) rfl <| Wm (.l encU8 p0) rfl ?_
  obtain ⟨c24_2, hc24_2, hm⟩ := bnd hm; obtain ⟨hc24_2e, hc24_2l⟩ := cpy_some hc24_2
  refine Wy (.i ((List.length p0 : Nat) : Int)) [(1, (Ar 5 1 encU8 c24_2))] (OcB (Ocs (by kernel_rfl) (op_copy rfl (e := 5) (sz := 1) (by kernel_rfl) (yd := (.own 1)) (by kernel_rfl) (id := 1) (off := 0) (dn := List.length m21_1) (by kernel_rfl) (n := List.length m21_1) (xs := flatD encU8 m21_1) (by kernel_rfl) (y := (.l encU8 p0)) (by kernel_rfl) (ds := flatD encU8 p0) (soff := 0) (k := List.length p0) (by kernel_rfl) (es := flatD encU8 p0) (flat_all encU8_len) (flatD_length encU8_len _) hc24_2l (cpy_fit encU8_len hc24_2l) (by decide))) (bl_one (cpy_len hc24_2e hc24_2l) (by rw [hc24_2e]; exact cpy_put encU8_len hc24_2l))) <| Nk 546 3 ⟨tp 1 (.l enc_GType p1::tp 3 (.loc 0 0::tp 3 (.own 1::tp 52 []))), [(.box [(.y p2.Kind), (.s p2.Text), (.i p2.A), (.i p2.B), (.i p2.E.Time), (.i p2.E.Source), (.i p2.E.Seq), (.s p2.E.Type_), (.l enc_GValue p2.E.Vals)]), (Ar 5 1 encU8 c24_2)], 0⟩ <| Sx <| Wm (.own 1) rfl <| Wz (.loc 0 0) (Ofa rfl) <| Wz (.y p2.Kind) (Old rfl) <| Wy (.own 2) [(2, (Ar 5 1 encU8 ([p2.Kind] : List UInt8)))] (Obs rfl) ?_
  obtain ⟨a29_3, ha29_3, hm⟩ := bnd hm; obtain ⟨ha29_3e, ha29_3l⟩ := app_some ha29_3
  refine Wy (.own 3) [(1, .gone), (3, (Ar 5 1 encU8 a29_3))] (Oap rfl elemOK_31 encU8_len ha29_3e ha29_3l) <| Wm (.own 3) rfl <| Nk 546 9 ⟨tp 1 (.l enc_GType p1::tp 3 (.loc 0 0::tp 3 (.own 3::tp 52 []))), [(.box [(.y p2.Kind), (.s p2.Text), (.i p2.A), (.i p2.B), (.i p2.E.Time), (.i p2.E.Source), (.i p2.E.Seq), (.s p2.E.Type_), (.l enc_GValue p2.E.Vals)]), .gone, .gone, (Ar 5 1 encU8 a29_3)], 0⟩ <| Sq <| Bk <| Sx <| Wz (.agg [(.y p2.Kind), (.s p2.Text), (.i p2.A), (.i p2.B), (.i p2.E.Time), (.i p2.E.Source), (.i p2.E.Seq), (.s p2.E.Type_), (.l enc_GValue p2.E.Vals)]) (Old rfl) ?_
  obtain ⟨r32_4, hr32_4, hm⟩ := bnd hm
  refine Wz (.b r32_4) (Ocf [] [] [] 0 (ok_script_Command_has p2 1 r32_4 hr32_4) (fun a w => Tryd.call26 a w) rfl trivial) <| Wm (.b r32_4) rfl <| Nk 1073742370 9 ⟨tp 1 (.l enc_GType p1::tp 3 (.loc 0 0::tp 3 (.own 3::tp 20 (.b r32_4::tp 31 [])))), [(.box [(.y p2.Kind), (.s p2.Text), (.i p2.A), (.i p2.B), (.i p2.E.Time), (.i p2.E.Source), (.i p2.E.Seq), (.s p2.E.Type_), (.l enc_GValue p2.E.Vals)]), .gone, .gone, (Ar 5 1 encU8 a29_3)], 0⟩ ?_
  rcases tf_ r32_4 with hc30_14 | hc30_14
  ·
   replace hm := cT hc30_14 hm
   refine AiT hc30_14 <| Sx <| Wm (.own 3) rfl <| Wz (.loc 0 1) (Ofa rfl) <| Wz (.s p2.Text) (Old rfl) ?_
   obtain ⟨r36_5, hr36_5, hm⟩ := bnd hm
   refine Wy (.tup [(.l encU8 r36_5.1), (.i r36_5.2)]) [(3, (.fro 5 1 (List.length a29_3) (flatD encU8 a29_3)))] (Ocf [] [] [3] 0 (ok_octet_Text a29_3 p2.Text r36_5 hr36_5) (fun a w => Tryd.call27 a w) rfl trivial) <| Wz (.l encU8 r36_5.1) (Oex rfl) <| Wz (.i r36_5.2) (Oex rfl) <| Wm (.l encU8 r36_5.1) rfl <| Wm (.i r36_5.2) rfl <| Nn <| Rt <| Ir <| Tr ?_
   obtain rfl := Option.some.inj hm
   exact ret_i []
  ·
   replace hm := cF hc30_14 hm
   refine AiF hc30_14 <| Sx <| Wz (.agg [(.y p2.Kind), (.s p2.Text), (.i p2.A), (.i p2.B), (.i p2.E.Time), (.i p2.E.Source), (.i p2.E.Seq), (.s p2.E.Type_), (.l enc_GValue p2.E.Vals)]) (Old rfl) ?_
   obtain ⟨r41_6, hr41_6, hm⟩ := bnd hm
   refine Wz (.b r41_6) (Ocf [] [] [] 0 (ok_script_Command_has p2 2 r41_6 hr41_6) (fun a w => Tryd.call26 a w) rfl trivial) <| Wm (.b r41_6) rfl <| Nk 549755814434 9 ⟨tp 1 (.l enc_GType p1::tp 3 (.loc 0 0::tp 3 (.own 3::tp 29 (.b r41_6::tp 22 [])))), [(.box [(.y p2.Kind), (.s p2.Text), (.i p2.A), (.i p2.B), (.i p2.E.Time), (.i p2.E.Source), (.i p2.E.Seq), (.s p2.E.Type_), (.l enc_GValue p2.E.Vals)]), .gone, .gone, (Ar 5 1 encU8 a29_3)], 0⟩ ?_
   rcases tf_ r41_6 with hc39_15 | hc39_15
   ·
    replace hm := cT hc39_15 hm
    refine AiT hc39_15 <| Sx <| Wm (.own 3) rfl <| Wm (.l enc_GType p1) rfl <| Wz (.loc 0 4) (Ofa rfl) <| Wz (.agg [(.i p2.E.Time), (.i p2.E.Source), (.i p2.E.Seq), (.s p2.E.Type_), (.l enc_GValue p2.E.Vals)]) (Old rfl) ?_
    obtain ⟨r46_7, hr46_7, hm⟩ := bnd hm
    refine Wy (.tup [(.l encU8 r46_7.1), (.i r46_7.2)]) [(3, (.fro 5 1 (List.length a29_3) (flatD encU8 a29_3)))] (Ocf [] [] [3] 0 (ok_event_Put a29_3 p1 p2.E r46_7 hr46_7) (fun a w => Tryd.call28 a w) rfl trivial) <| Wz (.l encU8 r46_7.1) (Oex rfl) <| Wz (.i r46_7.2) (Oex rfl) <| Wm (.l encU8 r46_7.1) rfl <| Wm (.i r46_7.2) rfl <| Nn <| Rt <| Ir <| Tr ?_
    obtain rfl := Option.some.inj hm
    exact ret_i []
   ·
    replace hm := cF hc39_15 hm
    refine AiF hc39_15 <| Sk <| Ino <| Tk 544 9 ⟨tp 5 (.loc 0 0::tp 3 (.own 3::tp 52 [])), [(.box [(.y p2.Kind), (.s p2.Text), (.i p2.A), (.i p2.B), (.i p2.E.Time), (.i p2.E.Source), (.i p2.E.Seq), (.s p2.E.Type_), (.l enc_GValue p2.E.Vals)]), .gone, .gone, (Ar 5 1 encU8 a29_3)], 0⟩ ?_
    refine AWP.cutJ (α := (List UInt8)) (fun x => match x with | y9_10 => (⟨tp 5 (.loc 0 0::tp 3 (.own 1::tp 52 [])), [(.box [(.y p2.Kind), (.s p2.Text), (.i p2.A), (.i p2.B), (.i p2.E.Time), (.i p2.E.Source), (.i p2.E.Seq), (.s p2.E.Type_), (.l enc_GValue p2.E.Vals)]), (Ar 5 1 encU8 y9_10)], 0⟩ : St)) (fun x => match x with | y9_10 => m_script_Put_j10 p2 y9_10 = some r) ?_ (fun J10 => ?_)
    ·
     rintro y9_10 hm
     try dsimp only at hm ⊢
     unfold m_script_Put_j10 at hm
     refine Sq <| Sx <| Wz (.agg [(.y p2.Kind), (.s p2.Text), (.i p2.A), (.i p2.B), (.i p2.E.Time), (.i p2.E.Source), (.i p2.E.Seq), (.s p2.E.Type_), (.l enc_GValue p2.E.Vals)]) (Old rfl) ?_
     obtain ⟨r56_11, hr56_11, hm⟩ := bnd hm
     refine Wz (.b r56_11) (Ocf [] [] [] 0 (ok_script_Command_has p2 8 r56_11 hr56_11) (fun a w => Tryd.call26 a w) rfl trivial) <| Nk 72057594037928480 3 ⟨tp 5 (.loc 0 0::tp 3 (.own 1::tp 46 (.b r56_11::tp 5 []))), [(.box [(.y p2.Kind), (.s p2.Text), (.i p2.A), (.i p2.B), (.i p2.E.Time), (.i p2.E.Source), (.i p2.E.Seq), (.s p2.E.Type_), (.l enc_GValue p2.E.Vals)]), (Ar 5 1 encU8 y9_10)], 0⟩ ?_
     rcases tf_ r56_11 with hc56_16 | hc56_16
     ·
      replace hm := cT hc56_16 hm
      refine AiT hc56_16 <| Tx <| Wm (.own 1) rfl <| Wz (.loc 0 3) (Ofa rfl) <| Wz (.i p2.B) (Old rfl) ?_
      obtain ⟨r60_12, hr60_12, hm⟩ := bnd hm
      refine Wy (.own 2) [(2, (Ar 5 1 encU8 r60_12))] (Ocp [] [2] [1] 0 (ok_zig_PutInt y9_10 p2.B r60_12 hr60_12) (⟨by simp [A.Plain, A.Plains, D.Plain, byteD], plain_cons (flat_plain encU8_plain) (plain_nil)⟩) (fun a w => Tryd.call29 a w) rfl trivial) <| Wm (.own 2) rfl <| Nk 512 4 ⟨tp 9 (.own 2::tp 52 []), [.gone, .gone, (Ar 5 1 encU8 r60_12)], 0⟩ <| Sx <| Wm (.own 2) rfl <| Wm (.own 2) rfl <| Wm (.i 0) rfl <| Nn <| Afz [2] ⟨tp 6 (.l encU8 r60_12::.i 0::tp 1 (.l encU8 r60_12::tp 51 (.l encU8 r60_12::[]))), [.gone, .gone, (.fro 5 1 (List.length r60_12) (flatD encU8 r60_12))], 0⟩ <| Rt ?_
      obtain rfl := Option.some.inj hm
      exact ret_i []
     ·
      replace hm := cF hc56_16 hm
      refine AiF hc56_16 <| Sk <| Tk 512 2 ⟨tp 9 (.own 1::tp 52 []), [.gone, (Ar 5 1 encU8 y9_10)], 0⟩ <| Sx <| Wm (.own 1) rfl <| Wm (.own 1) rfl <| Wm (.i 0) rfl <| Nn <| Afz [1] ⟨tp 6 (.l encU8 y9_10::.i 0::tp 1 (.l encU8 y9_10::tp 51 (.l encU8 y9_10::[]))), [.gone, (.fro 5 1 (List.length y9_10) (flatD encU8 y9_10))], 0⟩ <| Rt ?_
      obtain rfl := Option.some.inj hm
      exact ret_i []
    refine Sq <| Sx <| Wz (.agg [(.y p2.Kind), (.s p2.Text), (.i p2.A), (.i p2.B), (.i p2.E.Time), (.i p2.E.Source), (.i p2.E.Seq), (.s p2.E.Type_), (.l enc_GValue p2.E.Vals)]) (Old rfl) ?_
    obtain ⟨r50_8, hr50_8, hm⟩ := bnd hm
    refine Wz (.b r50_8) (Ocf [] [] [] 0 (ok_script_Command_has p2 4 r50_8 hr50_8) (fun a w => Tryd.call26 a w) rfl trivial) <| Nk 1125899906843168 9 ⟨tp 5 (.loc 0 0::tp 3 (.own 3::tp 40 (.b r50_8::tp 11 []))), [(.box [(.y p2.Kind), (.s p2.Text), (.i p2.A), (.i p2.B), (.i p2.E.Time), (.i p2.E.Source), (.i p2.E.Seq), (.s p2.E.Type_), (.l enc_GValue p2.E.Vals)]), .gone, .gone, (Ar 5 1 encU8 a29_3)], 0⟩ ?_
    rcases tf_ r50_8 with hc50_17 | hc50_17
    ·
     replace hm := cT hc50_17 hm
     refine AiT hc50_17 <| Tx <| Wm (.own 3) rfl <| Wz (.loc 0 2) (Ofa rfl) <| Wz (.i p2.A) (Old rfl) ?_
     obtain ⟨r54_9, hr54_9, hm⟩ := bnd hm
     refine Wy (.own 4) [(4, (Ar 5 1 encU8 r54_9))] (Ocp [] [4] [3] 0 (ok_zig_PutInt a29_3 p2.A r54_9 hr54_9) (⟨by simp [A.Plain, A.Plains, D.Plain, byteD], plain_cons (flat_plain encU8_plain) (plain_nil)⟩) (fun a w => Tryd.call29 a w) rfl trivial) <| Wm (.own 4) rfl <| Nn ?_
     exact AWP.weak (Weak.toK 544 0 0 [0, 4]) (J10 (r54_9) hm)
    ·
     replace hm := cF hc50_17 hm
     refine AiF hc50_17 <| Sk <| Tn ?_
     exact AWP.weak (Weak.toK 544 0 0 [0, 3]) (J10 (a29_3) hm)

theorem ok_script_Write (p0 : (List GType)) (p1 : (List GCommand)) (r : ((List UInt8) × Int)) (h : m_script_Write p0 p1 = some r) : GCall Tryd.prog 18 [(.l enc_GType p0), (.l enc_GCommand p1)] [] (.tup [(.s r.1), (.i r.2)]) [] := by
 refine GCall.of_body (n := 34) (rs := [(.tmp 4), (.tmp 5)]) Tryd.func18 rfl rfl rfl <| Ato ⟨.l enc_GType p0::.l enc_GCommand p1::tu 32 [], [], 0⟩ ?_
 have hm := h
 unfold m_script_Write at hm
 refine Sx <| Wm (.s ([] : List UInt8)) rfl <| Wm (.i 0) rfl <| Nk 3 0 ⟨.l enc_GType p0::.l enc_GCommand p1::tp 32 [], [], 0⟩ <| Sq <| Sx <| Wm (.l enc_GCommand p1) rfl <| Wz (.i ((List.length p1 : Nat) : Int)) (Oln rfl) <| Wz (.b (decide ((400 : Int) < ((List.length p1 : Nat) : Int)))) (Obn rfl (fun _ => hb_gtr (k := .i64))) <| Nk 8195 0 ⟨.l enc_GType p0::.l enc_GCommand p1::tp 11 (.b (decide ((400 : Int) < ((List.length p1 : Nat) : Int)))::tp 20 []), [], 0⟩ ?_
 rcases tf_ (decide ((400 : Int) < ((List.length p1 : Nat) : Int))) with hc13_6 | hc13_6
 ·
  replace hm := cT hc13_6 hm
  refine AiT hc13_6 <| Sx <| Wm (.s ([] : List UInt8)) rfl <| Wm (.i 5) rfl <| Nn <| Rt <| Tr ?_
  obtain rfl := Option.some.inj hm
  exact ret_i []
 ·
  replace hm := cF hc13_6 hm
  refine AiF hc13_6 <| Sk <| Tk 3 0 ⟨.l enc_GType p0::.l enc_GCommand p1::tp 32 [], [], 0⟩ <| Sx <| Wm (.d .nil) rfl <| Nk 67 0 ⟨.l enc_GType p0::.l enc_GCommand p1::tp 4 (.d .nil::tp 27 []), [], 0⟩ <| Sq <| Sx <| Wm (.l enc_GCommand p1) rfl <| Wz (.i ((List.length p1 : Nat) : Int)) (Oln rfl) <| Wm (.i 0) rfl <| Nk 114753 0 ⟨.l enc_GType p0::tp 5 (.d .nil::tp 7 (.l enc_GCommand p1::.i ((List.length p1 : Nat) : Int)::.i 0::tp 17 [])), [], 0⟩ <| Bk ?_
  refine AWP.loopI (α := Nat × (List UInt8) × Int)
    (fun (fu_2, y6_2, y16_2) => (⟨.l enc_GType p0::tp 5 (.l encU8 y6_2::tp 7 (.l enc_GCommand p1::.i ((List.length p1 : Nat) : Int)::.i y16_2::tp 17 [])), [], 0⟩ : St))
    (fun (fu_2, y6_2, y16_2) => m_script_Write_l2 p0 p1 fu_2 y6_2 y16_2 = some r)
    (fun (fu_2, y6_2, y16_2) => fu_2) (1152921504606846976, ([] : List UInt8), 0)
    (Weak.toK 114753 64 0 []) hm ?_
  rintro ⟨fu_2, y6_2, y16_2⟩ n_2 hm ih_2
  try dsimp only at hm ih_2 ⊢
  cases fu_2 with
  | zero => exact absurd hm (by unfold m_script_Write_l2; simp)
  | succ fu_2 =>
   unfold m_script_Write_l2 at hm
   refine Sx <| Wz (.b (decide (y16_2 < ((List.length p1 : Nat) : Int)))) (Obn rfl (fun _ => hb_lss (k := .i64))) <| Nk 245825 0 ⟨.l enc_GType p0::tp 5 (.l encU8 y6_2::tp 7 (.l enc_GCommand p1::.i ((List.length p1 : Nat) : Int)::.i y16_2::.b (decide (y16_2 < ((List.length p1 : Nat) : Int)))::tp 16 [])), [], 0⟩ <| Sq ?_
   rcases tf_ (decide (y16_2 < ((List.length p1 : Nat) : Int))) with hc17_7 | hc17_7
   ·
    replace hm := cT hc17_7 hm
    refine AiT hc17_7 <| Sk <| Tk 114753 0 ⟨.l enc_GType p0::tp 5 (.l encU8 y6_2::tp 7 (.l enc_GCommand p1::.i ((List.length p1 : Nat) : Int)::.i y16_2::tp 17 [])), [], 0⟩ <| Sq <| Bk <| Sx ?_
    obtain ⟨x18_3, hx18_3, hm⟩ := bnd hm
    obtain ⟨hx18_3i, hx18_3g⟩ := geti_some hx18_3
    refine Wz (.d (.ref (List.drop ((Int.toNat y16_2) * 9) (flatD enc_GCommand p1)))) (Oia rfl enc_GCommand_len hx18_3i hx18_3g) <| Wz (.agg [(.y x18_3.Kind), (.s x18_3.Text), (.i x18_3.A), (.i x18_3.B), (.i x18_3.E.Time), (.i x18_3.E.Source), (.i x18_3.E.Seq), (.s x18_3.E.Type_), (.l enc_GValue x18_3.E.Vals)]) (Lf rfl enc_GCommand_len hx18_3g) <| Wy (.loc 0 0) [(0, (.box [(.y 0), (.s ([] : List UInt8)), (.i 0), (.i 0), (.i 0), (.i 0), (.i 0), (.s ([] : List UInt8)), (.d .nil)]))] (Oal rfl) <| Wy (.tup []) [(0, (.box [(.y x18_3.Kind), (.s x18_3.Text), (.i x18_3.A), (.i x18_3.B), (.i x18_3.E.Time), (.i x18_3.E.Source), (.i x18_3.E.Seq), (.s x18_3.E.Type_), (.l enc_GValue x18_3.E.Vals)]))] (Ost rfl) <| Nk 115009 1 ⟨.l enc_GType p0::tp 5 (.l encU8 y6_2::tp 1 (.loc 0 0::tp 5 (.l enc_GCommand p1::.i ((List.length p1 : Nat) : Int)::.i y16_2::tp 17 []))), [(.box [(.y x18_3.Kind), (.s x18_3.Text), (.i x18_3.A), (.i x18_3.B), (.i x18_3.E.Time), (.i x18_3.E.Source), (.i x18_3.E.Seq), (.s x18_3.E.Type_), (.l enc_GValue x18_3.E.Vals)])], 0⟩ <| Sx <| Wm (.l encU8 y6_2) rfl <| Wm (.l enc_GType p0) rfl <| Wz (.agg [(.y x18_3.Kind), (.s x18_3.Text), (.i x18_3.A), (.i x18_3.B), (.i x18_3.E.Time), (.i x18_3.E.Source), (.i x18_3.E.Seq), (.s x18_3.E.Type_), (.l enc_GValue x18_3.E.Vals)]) (Old rfl) ?_
    obtain ⟨r24_4, hr24_4, hm⟩ := bnd hm
    refine Wz (.tup [(.l encU8 r24_4.1), (.i r24_4.2)]) (Ocf [] [] [] 0 (ok_script_Put y6_2 p0 x18_3 r24_4 hr24_4) (fun a w => Tryd.call12 a w) rfl trivial) <| Wm (.tup [(.l encU8 r24_4.1), (.i r24_4.2)]) rfl <| Wz (.l encU8 r24_4.1) (Oex rfl) <| Wz (.i r24_4.2) (Oex rfl) <| Wm (.l encU8 r24_4.1) rfl <| Wm (.i r24_4.2) rfl <| Nk 116225 0 ⟨.l enc_GType p0::tp 8 (.l encU8 r24_4.1::.i r24_4.2::tp 3 (.l enc_GCommand p1::.i ((List.length p1 : Nat) : Int)::.i y16_2::tp 17 [])), [.gone], 0⟩ <| Sq <| Sx <| Wm (.i r24_4.2) rfl <| Wz (.b (decide (r24_4.2 ≠ 0))) (Obn rfl (fun _ => hb_neq (k := .i64))) <| Nk 268551681 0 ⟨.l enc_GType p0::tp 8 (.l encU8 r24_4.1::.i r24_4.2::tp 3 (.l enc_GCommand p1::.i ((List.length p1 : Nat) : Int)::.i y16_2::tp 11 (.b (decide (r24_4.2 ≠ 0))::tp 5 []))), [.gone], 0⟩ ?_
    rcases tf_ (decide (r24_4.2 ≠ 0)) with hc28_8 | hc28_8
    ·
     replace hm := cT hc28_8 hm
     refine AiT hc28_8 <| Sx <| Wm (.i r24_4.2) rfl <| Wm (.s ([] : List UInt8)) rfl <| Wm (.i r24_4.2) rfl <| Nn <| Rt <| Tr <| Ir <| Tr <| RoundK.ret <| Ir <| Tr ?_
     obtain rfl := Option.some.inj hm
     exact ret_i []
    ·
     replace hm := cF hc28_8 hm
     refine AiF hc28_8 <| Sk <| Tk 115201 0 ⟨.l enc_GType p0::tp 8 (.l encU8 r24_4.1::tp 4 (.l enc_GCommand p1::.i ((List.length p1 : Nat) : Int)::.i y16_2::tp 17 [])), [.gone], 0⟩ <| Tx <| Wm (.l encU8 r24_4.1) rfl <| Wm (.l encU8 r24_4.1) rfl <| Wn0 <| Ino <| Tk 114753 0 ⟨.l enc_GType p0::tp 5 (.l encU8 r24_4.1::tp 7 (.l enc_GCommand p1::.i ((List.length p1 : Nat) : Int)::.i y16_2::tp 17 [])), [.gone], 0⟩ <| Tx <| Wz (.i (W6 (y16_2 + 1))) (Obn rfl (fun _ => hb_add (k := .i64))) <| Wm (.i (W6 (y16_2 + 1))) rfl <| Wn0 <| RoundK.normal ?_
     exact Rounds.weak (Weak.toK 114753 0 0 []) (ih_2 (fu_2, r24_4.1, (W6 (y16_2 + 1))) hm (Nat.lt_succ_self _))
   ·
    replace hm := cF hc17_7 hm
    refine AiF hc17_7 <| AWP.exit <| Then.exit <| RoundK.exit <| InBlock.same <| Tk 64 0 ⟨tp 6 (.l encU8 y6_2::tp 27 []), [], 0⟩ <| Sx <| Wm (.l encU8 y6_2) rfl <| Wz (.s y6_2) (Ocs (by kernel_rfl) (op_str rfl (e := 5) (by kernel_rfl) (by kernel_rfl) (by kernel_rfl) (y := (.l encU8 y6_2)) (by kernel_rfl) (ds := flatD encU8 y6_2) (off := 0) (n := List.length y6_2) (by kernel_rfl) (l := y6_2) flatU8_take rfl)) <| Wm (.s y6_2) rfl <| Wm (.i 0) rfl <| Nn <| Rt ?_
    obtain rfl := Option.some.inj hm
    exact ret_i []

theorem ok_octet_Open (p0 : (List UInt8)) (r : GReader) (h : m_octet_Open p0 = some r) : GCall Tryd.prog 86 [(.s p0)] [] (.agg [(.s r.Text), (.i r.At), (.i r.E)]) [] := by
 refine GCall.of_body (n := 5) (rs := [(.cell 2 148)]) Tryd.func86 rfl rfl rfl <| Ato ⟨.s p0::tu 4 [], [], 0⟩ ?_
 have hm := h
 unfold m_octet_Open at hm
 refine Sx <| Wy (.loc 0 0) [(0, (.box [(.s ([] : List UInt8)), (.i 0), (.i 0)]))] (Oal rfl) <| Nk 5 1 ⟨.s p0::tp 1 (.loc 0 0::tp 2 []), [(.box [(.s ([] : List UInt8)), (.i 0), (.i 0)])], 0⟩ <| Sx <| Wm (.s p0) rfl <| Wz (.agg [(.s p0), (.i 0), (.i 0)]) (Obd rfl) <| Wy (.tup []) [(0, (.box [(.s p0), (.i 0), (.i 0)]))] (Ost rfl) <| Nn <| Rt ?_
 obtain rfl := Option.some.inj hm
 exact ret_i []

theorem ok_octet_Reader_Left (p0 : GReader) (r : Int) (h : m_octet_Reader_Left p0 = some r) : GCall Tryd.prog 105 [(.agg [(.s p0.Text), (.i p0.At), (.i p0.E)])] [] (.i r) [] := by
 refine GCall.of_body (n := 20) (rs := [(.tmp 2)]) Tryd.func105 rfl rfl rfl <| Ato ⟨.agg [(.s p0.Text), (.i p0.At), (.i p0.E)]::tu 19 [], [], 0⟩ ?_
 have hm := h
 unfold m_octet_Reader_Left at hm
 refine Sx <| Wy (.loc 0 0) [(0, (.box [(.s p0.Text), (.i p0.At), (.i p0.E)]))] (Obx rfl) <| Wm (.i 0) rfl <| Nk 2 1 ⟨tp 1 (.loc 0 0::tp 18 []), [(.box [(.s p0.Text), (.i p0.At), (.i p0.E)])], 0⟩ <| Sq <| Sx <| Wz (.loc 0 1) (Ofa rfl) <| Wz (.i p0.At) (Old rfl) <| Wz (.b (decide (p0.At < 0))) (Obn rfl (fun _ => hb_lss (k := .i64))) ?_
 rcases tf_ (decide (p0.At < 0)) with hq6_0 | hq6_0
 ·
  replace hm := cT hq6_0 hm
  refine Wz (.b true) (Oq hq6_0 rfl) <| Wn <| Wn <| Wn <| Wn <| Wn <| Wn <| Wz (.b true) (OpT rfl) <| Nk 8194 1 ⟨tp 1 (.loc 0 0::tp 11 (.b true::tp 6 [])), [(.box [(.s p0.Text), (.i p0.At), (.i p0.E)])], 0⟩ <| AWP.if_ true (by kernel_rfl) <| Sx <| Wm (.i 0) rfl <| Nn <| Rt ?_
  refine Tr ?_
  obtain rfl := Option.some.inj hm
  exact ret_i []
 ·
  replace hm := cF hq6_0 hm
  refine Wz (.b false) (Oq hq6_0 rfl) <| Wz (.loc 0 1) (Ofa rfl) <| Wz (.i p0.At) (Old rfl) <| Wz (.loc 0 0) (Ofa rfl) <| Wz (.s p0.Text) (Old rfl) <| Wz (.i ((List.length p0.Text : Nat) : Int)) (Oln rfl) <| Wz (.b (decide (((List.length p0.Text : Nat) : Int) < p0.At))) (Obn rfl (fun _ => hb_gtr (k := .i64))) <| Wz (.b (decide (((List.length p0.Text : Nat) : Int) < p0.At))) (OpF rfl) <| Nk 8194 1 ⟨tp 1 (.loc 0 0::tp 11 (.b (decide (((List.length p0.Text : Nat) : Int) < p0.At))::tp 6 [])), [(.box [(.s p0.Text), (.i p0.At), (.i p0.E)])], 0⟩ ?_
  rcases tf_ (decide (((List.length p0.Text : Nat) : Int) < p0.At)) with hc13_2 | hc13_2
  ·
   replace hm := cT hc13_2 hm
   refine AiT hc13_2 <| Sx <| Wm (.i 0) rfl <| Nn <| Rt <| Tr ?_
   obtain rfl := Option.some.inj hm
   exact ret_i []
  ·
   replace hm := cF hc13_2 hm
   refine AiF hc13_2 <| Sk <| Tk 2 1 ⟨tp 1 (.loc 0 0::tp 18 []), [(.box [(.s p0.Text), (.i p0.At), (.i p0.E)])], 0⟩ <| Sx <| Wz (.loc 0 0) (Ofa rfl) <| Wz (.s p0.Text) (Old rfl) <| Wz (.i ((List.length p0.Text : Nat) : Int)) (Oln rfl) <| Wz (.loc 0 1) (Ofa rfl) <| Wz (.i p0.At) (Old rfl) <| Wz (.i (W6 (((List.length p0.Text : Nat) : Int) - p0.At))) (Obn rfl (fun _ => hb_sub (k := .i64))) <| Wm (.i (W6 (((List.length p0.Text : Nat) : Int) - p0.At))) rfl <| Nn <| Rt ?_
   obtain rfl := Option.some.inj hm
   exact ret_i []

theorem ok_octet_Reader_fail (p0 : GReader) (p1 : Int) (r : GReader) (h : m_octet_Reader_fail p0 p1 = some r) : GCall Tryd.prog 106 [(.agg [(.s p0.Text), (.i p0.At), (.i p0.E)]), (.i p1)] [] (.agg [(.s r.Text), (.i r.At), (.i r.E)]) [] := by
 refine GCall.of_body (n := 11) (rs := [(.cell 4 148)]) Tryd.func106 rfl rfl rfl <| Ato ⟨.agg [(.s p0.Text), (.i p0.At), (.i p0.E)]::.i p1::tu 9 [], [], 0⟩ ?_
 have hm := h
 unfold m_octet_Reader_fail at hm
 refine Sx <| Wy (.loc 0 0) [(0, (.box [(.s p0.Text), (.i p0.At), (.i p0.E)]))] (Obx rfl) <| Wy (.loc 1 0) [(1, (.box [(.s ([] : List UInt8)), (.i 0), (.i 0)]))] (Oal rfl) <| Nk 22 3 ⟨tp 1 (.i p1::.loc 0 0::tp 1 (.loc 1 0::tp 6 [])), [(.box [(.s p0.Text), (.i p0.At), (.i p0.E)]), (.box [(.s ([] : List UInt8)), (.i 0), (.i 0)])], 0⟩ <| Sq <| Sx <| Wz (.loc 0 2) (Ofa rfl) <| Wz (.i p0.E) (Old rfl) <| Wz (.b (decide (p0.E = 0))) (Obn rfl (fun _ => hb_eql (k := .i64))) <| Nk 150 3 ⟨tp 1 (.i p1::.loc 0 0::tp 1 (.loc 1 0::tp 2 (.b (decide (p0.E = 0))::tp 3 []))), [(.box [(.s p0.Text), (.i p0.At), (.i p0.E)]), (.box [(.s ([] : List UInt8)), (.i 0), (.i 0)])], 0⟩ ?_
 rcases tf_ (decide (p0.E = 0)) with hc7_0 | hc7_0
 ·
  replace hm := cT hc7_0 hm
  refine AiT hc7_0 <| Tx <| Wm (.i p1) rfl <| Wz (.loc 0 2) (Ofa rfl) <| Wy (.tup []) [(0, (.box [(.s p0.Text), (.i p0.At), (.i p1)]))] (Ost rfl) <| Nk 20 3 ⟨tp 2 (.loc 0 0::tp 1 (.loc 1 0::tp 6 [])), [(.box [(.s p0.Text), (.i p0.At), (.i p1)]), (.box [(.s ([] : List UInt8)), (.i 0), (.i 0)])], 0⟩ <| Sx <| Wz (.agg [(.s p0.Text), (.i p0.At), (.i p1)]) (Old rfl) <| Wy (.tup []) [(1, (.box [(.s p0.Text), (.i p0.At), (.i p1)]))] (Ost rfl) <| Nn <| Rt ?_
  obtain rfl := Option.some.inj hm
  exact ret_i []
 ·
  replace hm := cF hc7_0 hm
  refine AiF hc7_0 <| Sk <| Tk 20 3 ⟨tp 2 (.loc 0 0::tp 1 (.loc 1 0::tp 6 [])), [(.box [(.s p0.Text), (.i p0.At), (.i p0.E)]), (.box [(.s ([] : List UInt8)), (.i 0), (.i 0)])], 0⟩ <| Sx <| Wz (.agg [(.s p0.Text), (.i p0.At), (.i p0.E)]) (Old rfl) <| Wy (.tup []) [(1, (.box [(.s p0.Text), (.i p0.At), (.i p0.E)]))] (Ost rfl) <| Nn <| Rt ?_
  obtain rfl := Option.some.inj hm
  exact ret_i []
end Go.Proofs.YtaaooafcijdbmaaDoor.K
