/- what telltalelaw13.ShapeApart needs (1) -/
import Derived.Test.YtdpmojhejidhiaaC0
namespace Go.Proofs.Ytdpmojhejidhiaa.K
open Go.RowKit Go.Lib
set_option linter.unusedVariables false
set_option linter.unusedSimpArgs false
set_option maxRecDepth 20000
set_option maxHeartbeats 4000000

theorem ok_shape_Node_times (p0 : GNode) (r : (List UInt8)) (h : m_shape_Node_times p0 = some r) : GCall Try.prog 32 [(.agg [(.y p0.Kind), (.i p0.Kids), (.i p0.Lo), (.i p0.Hi), (.s p0.Var), (.s p0.Type_), (.l enc_GNode_ p0.Test)])] [] (.s r) [] := by
 refine GCall.of_body (n := 55) (rs := [(.tmp 2)]) Try.func32 rfl rfl rfl <| Ato ⟨.agg [(.y p0.Kind), (.i p0.Kids), (.i p0.Lo), (.i p0.Hi), (.s p0.Var), (.s p0.Type_), (.l enc_GNode_ p0.Test)]::tu 54 [], [], 0⟩ ?_
 have hm := h
 unfold m_shape_Node_times at hm
 refine Sx <| Wy (.loc 0 0) [(0, (.box [(.y p0.Kind), (.i p0.Kids), (.i p0.Lo), (.i p0.Hi), (.s p0.Var), (.s p0.Type_), (.l enc_GNode_ p0.Test)]))] (Obx rfl) <| Wm (.s ([] : List UInt8)) rfl <| Nk 2 1 ⟨tp 1 (.loc 0 0::tp 53 []), [(.box [(.y p0.Kind), (.i p0.Kids), (.i p0.Lo), (.i p0.Hi), (.s p0.Var), (.s p0.Type_), (.l enc_GNode_ p0.Test)])], 0⟩ ?_
 refine AWP.cutJ (α := Unit) (fun x => match x with | () => (⟨tp 1 (.loc 0 0::tp 53 []), [(.box [(.y p0.Kind), (.i p0.Kids), (.i p0.Lo), (.i p0.Hi), (.s p0.Var), (.s p0.Type_), (.l enc_GNode_ p0.Test)])], 0⟩ : St)) (fun x => match x with | () => m_shape_Node_times_j11 p0 = some r) ?_ (fun J11 => ?_)
 ·
  rintro ⟨⟩ hm
  try dsimp only at hm ⊢
  unfold m_shape_Node_times_j11 at hm
  refine Sq <| Adr <| Wz (.loc 0 2) (Ofa rfl) <| Wz (.i p0.Lo) (Old rfl) ?_
  obtain ⟨r47_12, hr47_12, hm⟩ := bnd hm
  refine Wz (.s r47_12) (Ocf [] [] [] 0 (ok_shape_digits p0.Lo r47_12 hr47_12) (fun a w => Try.call33 a w) rfl trivial) ?_
  obtain ⟨t48_12, ht48_12, hm⟩ := bnd hm; obtain ⟨ht48_12e, ht48_12l⟩ := app_some ht48_12
  refine Wz (.s t48_12) (op_bin rfl (a1 := .string (toS ([123] : List UInt8))) (a2 := .string (toS r47_12)) (by kernel_rfl) (by kernel_rfl) (fun _ => hb_sadd ht48_12e ht48_12l)) ?_
  obtain ⟨t49_12, ht49_12, hm⟩ := bnd hm; obtain ⟨ht49_12e, ht49_12l⟩ := app_some ht49_12
  refine Wz (.s t49_12) (op_bin rfl (a1 := .string (toS t48_12)) (a2 := .string (toS ([44] : List UInt8))) (by kernel_rfl) (by kernel_rfl) (fun _ => hb_sadd ht49_12e ht49_12l)) <| Wz (.loc 0 3) (Ofa rfl) <| Wz (.i p0.Hi) (Old rfl) ?_
  obtain ⟨r52_12, hr52_12, hm⟩ := bnd hm
  refine Wz (.s r52_12) (Ocf [] [] [] 0 (ok_shape_digits p0.Hi r52_12 hr52_12) (fun a w => Try.call33 a w) rfl trivial) ?_
  obtain ⟨t53_12, ht53_12, hm⟩ := bnd hm; obtain ⟨ht53_12e, ht53_12l⟩ := app_some ht53_12
  refine Wz (.s t53_12) (op_bin rfl (a1 := .string (toS t49_12)) (a2 := .string (toS r52_12)) (by kernel_rfl) (by kernel_rfl) (fun _ => hb_sadd ht53_12e ht53_12l)) ?_
  obtain ⟨t54_12, ht54_12, hm⟩ := bnd hm; obtain ⟨ht54_12e, ht54_12l⟩ := app_some ht54_12
  refine Wz (.s t54_12) (op_bin rfl (a1 := .string (toS t53_12)) (a2 := .string (toS ([125] : List UInt8))) (by kernel_rfl) (by kernel_rfl) (fun _ => hb_sadd ht54_12e ht54_12l)) <| Wm (.s t54_12) rfl <| Wdr <| Tn <| Rt ?_
  obtain rfl := Option.some.inj hm
  exact ret_i []
 refine Sq <| Bk <| Sx <| Wz (.loc 0 3) (Ofa rfl) <| Wz (.i p0.Hi) (Old rfl) <| Wz (.b (decide (p0.Hi = 1))) (Obn rfl (fun _ => hb_eql (k := .i64))) <| Wm (.b (decide (p0.Hi = 1))) rfl <| Nk 10 1 ⟨tp 1 (.loc 0 0::tp 1 (.b (decide (p0.Hi = 1))::tp 51 [])), [(.box [(.y p0.Kind), (.i p0.Kids), (.i p0.Lo), (.i p0.Hi), (.s p0.Var), (.s p0.Type_), (.l enc_GNode_ p0.Test)])], 0⟩ ?_
 rcases tf_ (decide (p0.Hi = 1)) with hc3_13 | hc3_13
 ·
  replace hm := cT hc3_13 hm
  refine AiT hc3_13 <| Sx <| Wm (.s ([63] : List UInt8)) rfl <| Nn <| Rt <| Ir <| Tr ?_
  obtain rfl := Option.some.inj hm
  exact ret_i []
 ·
  replace hm := cF hc3_13 hm
  refine AiF hc3_13 <| Sx <| Wz (.loc 0 3) (Ofa rfl) <| Wz (.i p0.Hi) (Old rfl) <| Wz (.b (decide (p0.Hi = 0))) (Obn rfl (fun _ => hb_eql (k := .i64))) ?_
  rcases tf_ (decide (p0.Hi = 0)) with hq11_0 | hq11_0
  ·
   replace hm := cT hq11_0 hm
   refine Wz (.b true) (Oq hq11_0 rfl) <| Wz (.loc 0 2) (Ofa rfl) <| Wz (.i p0.Lo) (Old rfl) <| Wz (.b (decide (p0.Lo = 0))) (Obn rfl (fun _ => hb_eql (k := .i64))) <| Wz (.b (decide (p0.Lo = 0))) (OpT rfl) <| Wm (.b (decide (p0.Lo = 0))) rfl <| Nk 130 1 ⟨tp 1 (.loc 0 0::tp 5 (.b (decide (p0.Lo = 0))::tp 47 [])), [(.box [(.y p0.Kind), (.i p0.Kids), (.i p0.Lo), (.i p0.Hi), (.s p0.Var), (.s p0.Type_), (.l enc_GNode_ p0.Test)])], 0⟩ ?_
   rcases tf_ (decide (p0.Lo = 0)) with hc7_14 | hc7_14
   ·
    replace hm := cT hc7_14 hm
    refine AiT hc7_14 <| Sx <| Wm (.s ([42] : List UInt8)) rfl <| Nn <| Rt <| Ir <| Tr ?_
    obtain rfl := Option.some.inj hm
    exact ret_i []
   ·
    replace hm := cF hc7_14 hm
    refine AiF hc7_14 <| Sx <| Wz (.loc 0 3) (Ofa rfl) <| Wz (.i p0.Hi) (Old rfl) <| Wz (.b (decide (p0.Hi = 0))) (Obn rfl (fun _ => hb_eql (k := .i64))) ?_
    rcases tf_ (decide (p0.Hi = 0)) with hq20_1 | hq20_1
    ·
     replace hm := cT hq20_1 hm
     refine Wz (.b true) (Oq hq20_1 rfl) <| Wz (.loc 0 2) (Ofa rfl) <| Wz (.i p0.Lo) (Old rfl) <| Wz (.b (decide (p0.Lo = 1))) (Obn rfl (fun _ => hb_eql (k := .i64))) <| Wz (.b (decide (p0.Lo = 1))) (OpT rfl) <| Wm (.b (decide (p0.Lo = 1))) rfl <| Nk 65538 1 ⟨tp 1 (.loc 0 0::tp 14 (.b (decide (p0.Lo = 1))::tp 38 [])), [(.box [(.y p0.Kind), (.i p0.Kids), (.i p0.Lo), (.i p0.Hi), (.s p0.Var), (.s p0.Type_), (.l enc_GNode_ p0.Test)])], 0⟩ ?_
     rcases tf_ (decide (p0.Lo = 1)) with hc16_15 | hc16_15
     ·
      replace hm := cT hc16_15 hm
      refine AiT hc16_15 <| Sx <| Wm (.s ([43] : List UInt8)) rfl <| Nn <| Rt <| Ir <| Tr ?_
      obtain rfl := Option.some.inj hm
      exact ret_i []
     ·
      replace hm := cF hc16_15 hm
      refine AiF hc16_15 <| Sx <| Wz (.loc 0 3) (Ofa rfl) <| Wz (.i p0.Hi) (Old rfl) <| Wz (.b (decide (p0.Hi = 0))) (Obn rfl (fun _ => hb_eql (k := .i64))) <| Wm (.b (decide (p0.Hi = 0))) rfl <| Nk 33554434 1 ⟨tp 1 (.loc 0 0::tp 23 (.b (decide (p0.Hi = 0))::tp 29 [])), [(.box [(.y p0.Kind), (.i p0.Kids), (.i p0.Lo), (.i p0.Hi), (.s p0.Var), (.s p0.Type_), (.l enc_GNode_ p0.Test)])], 0⟩ ?_
      rcases tf_ (decide (p0.Hi = 0)) with hc25_16 | hc25_16
      ·
       replace hm := cT hc25_16 hm
       refine AiT hc25_16 <| Sx <| Wz (.loc 0 2) (Ofa rfl) <| Wz (.i p0.Lo) (Old rfl) ?_
       obtain ⟨r31_2, hr31_2, hm⟩ := bnd hm
       refine Wz (.s r31_2) (Ocf [] [] [] 0 (ok_shape_digits p0.Lo r31_2 hr31_2) (fun a w => Try.call33 a w) rfl trivial) ?_
       obtain ⟨t32_2, ht32_2, hm⟩ := bnd hm; obtain ⟨ht32_2e, ht32_2l⟩ := app_some ht32_2
       refine Wz (.s t32_2) (op_bin rfl (a1 := .string (toS ([123] : List UInt8))) (a2 := .string (toS r31_2)) (by kernel_rfl) (by kernel_rfl) (fun _ => hb_sadd ht32_2e ht32_2l)) ?_
       obtain ⟨t33_2, ht33_2, hm⟩ := bnd hm; obtain ⟨ht33_2e, ht33_2l⟩ := app_some ht33_2
       refine Wz (.s t33_2) (op_bin rfl (a1 := .string (toS t32_2)) (a2 := .string (toS ([44, 125] : List UInt8))) (by kernel_rfl) (by kernel_rfl) (fun _ => hb_sadd ht33_2e ht33_2l)) <| Wm (.s t33_2) rfl <| Nn <| Rt <| Ir <| Tr ?_
       obtain rfl := Option.some.inj hm
       exact ret_i []
      ·
       replace hm := cF hc25_16 hm
       refine AiF hc25_16 <| Sx <| Wz (.loc 0 3) (Ofa rfl) <| Wz (.i p0.Hi) (Old rfl) <| Wz (.loc 0 2) (Ofa rfl) <| Wz (.i p0.Lo) (Old rfl) <| Wz (.b (decide (p0.Hi = p0.Lo))) (Obn rfl (fun _ => hb_eql (k := .i64))) <| Wm (.b (decide (p0.Hi = p0.Lo))) rfl <| Nk 17179869186 1 ⟨tp 1 (.loc 0 0::tp 32 (.b (decide (p0.Hi = p0.Lo))::tp 20 [])), [(.box [(.y p0.Kind), (.i p0.Kids), (.i p0.Lo), (.i p0.Hi), (.s p0.Var), (.s p0.Type_), (.l enc_GNode_ p0.Test)])], 0⟩ ?_
       rcases tf_ (decide (p0.Hi = p0.Lo)) with hc34_17 | hc34_17
       ·
        replace hm := cT hc34_17 hm
        refine AiT hc34_17 <| Sx <| Wz (.loc 0 2) (Ofa rfl) <| Wz (.i p0.Lo) (Old rfl) ?_
        obtain ⟨r42_3, hr42_3, hm⟩ := bnd hm
        refine Wz (.s r42_3) (Ocf [] [] [] 0 (ok_shape_digits p0.Lo r42_3 hr42_3) (fun a w => Try.call33 a w) rfl trivial) ?_
        obtain ⟨t43_3, ht43_3, hm⟩ := bnd hm; obtain ⟨ht43_3e, ht43_3l⟩ := app_some ht43_3
        refine Wz (.s t43_3) (op_bin rfl (a1 := .string (toS ([123] : List UInt8))) (a2 := .string (toS r42_3)) (by kernel_rfl) (by kernel_rfl) (fun _ => hb_sadd ht43_3e ht43_3l)) ?_
        obtain ⟨t44_3, ht44_3, hm⟩ := bnd hm; obtain ⟨ht44_3e, ht44_3l⟩ := app_some ht44_3
        refine Wz (.s t44_3) (op_bin rfl (a1 := .string (toS t43_3)) (a2 := .string (toS ([125] : List UInt8))) (by kernel_rfl) (by kernel_rfl) (fun _ => hb_sadd ht44_3e ht44_3l)) <| Wm (.s t44_3) rfl <| Nn <| Rt <| Ir <| Tr ?_
        obtain rfl := Option.some.inj hm
        exact ret_i []
       ·
        replace hm := cF hc34_17 hm
        refine AiF hc34_17 <| Sk <| Ino <| Tn ?_
        exact AWP.weak (Weak.toK 2 0 0 [0]) (J11 () hm)
    ·
     replace hm := cF hq20_1 hm
     refine Wz (.b false) (Oq hq20_1 rfl) <| Wn <| Wn <| Wn <| Wz (.b false) (OpF rfl) <| Wm (.b false) rfl <| Nk 65538 1 ⟨tp 1 (.loc 0 0::tp 14 (.b false::tp 38 [])), [(.box [(.y p0.Kind), (.i p0.Kids), (.i p0.Lo), (.i p0.Hi), (.s p0.Var), (.s p0.Type_), (.l enc_GNode_ p0.Test)])], 0⟩ <| AWP.if_ false (by kernel_rfl) <| Sx <| Wz (.loc 0 3) (Ofa rfl) <| Wz (.i p0.Hi) (Old rfl) <| Wz (.b (decide (p0.Hi = 0))) (Obn rfl (fun _ => hb_eql (k := .i64))) <| Wm (.b (decide (p0.Hi = 0))) rfl <| Nk 33554434 1 ⟨tp 1 (.loc 0 0::tp 23 (.b (decide (p0.Hi = 0))::tp 29 [])), [(.box [(.y p0.Kind), (.i p0.Kids), (.i p0.Lo), (.i p0.Hi), (.s p0.Var), (.s p0.Type_), (.l enc_GNode_ p0.Test)])], 0⟩ ?_
     rcases tf_ (decide (p0.Hi = 0)) with hc25_18 | hc25_18
     ·
      replace hm := cT hc25_18 hm
      refine AiT hc25_18 <| Sx <| Wz (.loc 0 2) (Ofa rfl) <| Wz (.i p0.Lo) (Old rfl) ?_
      obtain ⟨r31_4, hr31_4, hm⟩ := bnd hm
      refine Wz (.s r31_4) (Ocf [] [] [] 0 (ok_shape_digits p0.Lo r31_4 hr31_4) (fun a w => Try.call33 a w) rfl trivial) ?_
      obtain ⟨t32_4, ht32_4, hm⟩ := bnd hm; obtain ⟨ht32_4e, ht32_4l⟩ := app_some ht32_4
      refine Wz (.s t32_4) (op_bin rfl (a1 := .string (toS ([123] : List UInt8))) (a2 := .string (toS r31_4)) (by kernel_rfl) (by kernel_rfl) (fun _ => hb_sadd ht32_4e ht32_4l)) ?_
      obtain ⟨t33_4, ht33_4, hm⟩ := bnd hm; obtain ⟨ht33_4e, ht33_4l⟩ := app_some ht33_4
      refine Wz (.s t33_4) (op_bin rfl (a1 := .string (toS t32_4)) (a2 := .string (toS ([44, 125] : List UInt8))) (by kernel_rfl) (by kernel_rfl) (fun _ => hb_sadd ht33_4e ht33_4l)) <| Wm (.s t33_4) rfl <| Nn <| Rt <| Ir <| Tr ?_
      obtain rfl := Option.some.inj hm
      exact ret_i []
     ·
      replace hm := cF hc25_18 hm
      refine AiF hc25_18 <| Sx <| Wz (.loc 0 3) (Ofa rfl) <| Wz (.i p0.Hi) (Old rfl) <| Wz (.loc 0 2) (Ofa rfl) <| Wz (.i p0.Lo) (Old rfl) <| Wz (.b (decide (p0.Hi = p0.Lo))) (Obn rfl (fun _ => hb_eql (k := .i64))) <| Wm (.b (decide (p0.Hi = p0.Lo))) rfl <| Nk 17179869186 1 ⟨tp 1 (.loc 0 0::tp 32 (.b (decide (p0.Hi = p0.Lo))::tp 20 [])), [(.box [(.y p0.Kind), (.i p0.Kids), (.i p0.Lo), (.i p0.Hi), (.s p0.Var), (.s p0.Type_), (.l enc_GNode_ p0.Test)])], 0⟩ ?_
      rcases tf_ (decide (p0.Hi = p0.Lo)) with hc34_19 | hc34_19
      ·
       replace hm := cT hc34_19 hm
       refine AiT hc34_19 <| Sx <| Wz (.loc 0 2) (Ofa rfl) <| Wz (.i p0.Lo) (Old rfl) ?_
       obtain ⟨r42_5, hr42_5, hm⟩ := bnd hm
       refine Wz (.s r42_5) (Ocf [] [] [] 0 (ok_shape_digits p0.Lo r42_5 hr42_5) (fun a w => Try.call33 a w) rfl trivial) ?_
       obtain ⟨t43_5, ht43_5, hm⟩ := bnd hm; obtain ⟨ht43_5e, ht43_5l⟩ := app_some ht43_5
       refine Wz (.s t43_5) (op_bin rfl (a1 := .string (toS ([123] : List UInt8))) (a2 := .string (toS r42_5)) (by kernel_rfl) (by kernel_rfl) (fun _ => hb_sadd ht43_5e ht43_5l)) ?_
       obtain ⟨t44_5, ht44_5, hm⟩ := bnd hm; obtain ⟨ht44_5e, ht44_5l⟩ := app_some ht44_5
       refine Wz (.s t44_5) (op_bin rfl (a1 := .string (toS t43_5)) (a2 := .string (toS ([125] : List UInt8))) (by kernel_rfl) (by kernel_rfl) (fun _ => hb_sadd ht44_5e ht44_5l)) <| Wm (.s t44_5) rfl <| Nn <| Rt <| Ir <| Tr ?_
       obtain rfl := Option.some.inj hm
       exact ret_i []
      ·
       replace hm := cF hc34_19 hm
       refine AiF hc34_19 <| Sk <| Ino <| Tn ?_
       exact AWP.weak (Weak.toK 2 0 0 [0]) (J11 () hm)
  ·
   replace hm := cF hq11_0 hm
   refine Wz (.b false) (Oq hq11_0 rfl) <| Wn <| Wn <| Wn <| Wz (.b false) (OpF rfl) <| Wm (.b false) rfl <| Nk 130 1 ⟨tp 1 (.loc 0 0::tp 5 (.b false::tp 47 [])), [(.box [(.y p0.Kind), (.i p0.Kids), (.i p0.Lo), (.i p0.Hi), (.s p0.Var), (.s p0.Type_), (.l enc_GNode_ p0.Test)])], 0⟩ <| AWP.if_ false (by kernel_rfl) <| Sx <| Wz (.loc 0 3) (Ofa rfl) <| Wz (.i p0.Hi) (Old rfl) <| Wz (.b (decide (p0.Hi = 0))) (Obn rfl (fun _ => hb_eql (k := .i64))) ?_
   rcases tf_ (decide (p0.Hi = 0)) with hq20_6 | hq20_6
   ·
    replace hm := cT hq20_6 hm
    refine Wz (.b true) (Oq hq20_6 rfl) <| Wz (.loc 0 2) (Ofa rfl) <| Wz (.i p0.Lo) (Old rfl) <| Wz (.b (decide (p0.Lo = 1))) (Obn rfl (fun _ => hb_eql (k := .i64))) <| Wz (.b (decide (p0.Lo = 1))) (OpT rfl) <| Wm (.b (decide (p0.Lo = 1))) rfl <| Nk 65538 1 ⟨tp 1 (.loc 0 0::tp 14 (.b (decide (p0.Lo = 1))::tp 38 [])), [(.box [(.y p0.Kind), (.i p0.Kids), (.i p0.Lo), (.i p0.Hi), (.s p0.Var), (.s p0.Type_), (.l enc_GNode_ p0.Test)])], 0⟩ ?_
    rcases tf_ (decide (p0.Lo = 1)) with hc16_20 | hc16_20
    ·
     replace hm := cT hc16_20 hm
     refine AiT hc16_20 <| Sx <| Wm (.s ([43] : List UInt8)) rfl <| Nn <| Rt <| Ir <| Tr ?_
     obtain rfl := Option.some.inj hm
     exact ret_i []
    ·
     replace hm := cF hc16_20 hm
     refine AiF hc16_20 <| Sx <| Wz (.loc 0 3) (Ofa rfl) <| Wz (.i p0.Hi) (Old rfl) <| Wz (.b (decide (p0.Hi = 0))) (Obn rfl (fun _ => hb_eql (k := .i64))) <| Wm (.b (decide (p0.Hi = 0))) rfl <| Nk 33554434 1 ⟨tp 1 (.loc 0 0::tp 23 (.b (decide (p0.Hi = 0))::tp 29 [])), [(.box [(.y p0.Kind), (.i p0.Kids), (.i p0.Lo), (.i p0.Hi), (.s p0.Var), (.s p0.Type_), (.l enc_GNode_ p0.Test)])], 0⟩ ?_
     rcases tf_ (decide (p0.Hi = 0)) with hc25_21 | hc25_21
     ·
      replace hm := cT hc25_21 hm
      refine AiT hc25_21 <| Sx <| Wz (.loc 0 2) (Ofa rfl) <| Wz (.i p0.Lo) (Old rfl) ?_
      obtain ⟨r31_7, hr31_7, hm⟩ := bnd hm
      refine Wz (.s r31_7) (Ocf [] [] [] 0 (ok_shape_digits p0.Lo r31_7 hr31_7) (fun a w => Try.call33 a w) rfl trivial) ?_
      obtain ⟨t32_7, ht32_7, hm⟩ := bnd hm; obtain ⟨ht32_7e, ht32_7l⟩ := app_some ht32_7
      refine Wz (.s t32_7) (op_bin rfl (a1 := .string (toS ([123] : List UInt8))) (a2 := .string (toS r31_7)) (by kernel_rfl) (by kernel_rfl) (fun _ => hb_sadd ht32_7e ht32_7l)) ?_
      obtain ⟨t33_7, ht33_7, hm⟩ := bnd hm; obtain ⟨ht33_7e, ht33_7l⟩ := app_some ht33_7
      refine Wz (.s t33_7) (op_bin rfl (a1 := .string (toS t32_7)) (a2 := .string (toS ([44, 125] : List UInt8))) (by kernel_rfl) (by kernel_rfl) (fun _ => hb_sadd ht33_7e ht33_7l)) <| Wm (.s t33_7) rfl <| Nn <| Rt <| Ir <| Tr ?_
      obtain rfl := Option.some.inj hm
      exact ret_i []
     ·
      replace hm := cF hc25_21 hm
      refine AiF hc25_21 <| Sx <| Wz (.loc 0 3) (Ofa rfl) <| Wz (.i p0.Hi) (Old rfl) <| Wz (.loc 0 2) (Ofa rfl) <| Wz (.i p0.Lo) (Old rfl) <| Wz (.b (decide (p0.Hi = p0.Lo))) (Obn rfl (fun _ => hb_eql (k := .i64))) <| Wm (.b (decide (p0.Hi = p0.Lo))) rfl <| Nk 17179869186 1 ⟨tp 1 (.loc 0 0::tp 32 (.b (decide (p0.Hi = p0.Lo))::tp 20 [])), [(.box [(.y p0.Kind), (.i p0.Kids), (.i p0.Lo), (.i p0.Hi), (.s p0.Var), (.s p0.Type_), (.l enc_GNode_ p0.Test)])], 0⟩ ?_
      rcases tf_ (decide (p0.Hi = p0.Lo)) with hc34_22 | hc34_22
      ·
       replace hm := cT hc34_22 hm
       refine AiT hc34_22 <| Sx <| Wz (.loc 0 2) (Ofa rfl) <| Wz (.i p0.Lo) (Old rfl) ?_
       obtain ⟨r42_8, hr42_8, hm⟩ := bnd hm
       refine Wz (.s r42_8) (Ocf [] [] [] 0 (ok_shape_digits p0.Lo r42_8 hr42_8) (fun a w => Try.call33 a w) rfl trivial) ?_
       obtain ⟨t43_8, ht43_8, hm⟩ := bnd hm; obtain ⟨ht43_8e, ht43_8l⟩ := app_some ht43_8
       refine Wz (.s t43_8) (op_bin rfl (a1 := .string (toS ([123] : List UInt8))) (a2 := .string (toS r42_8)) (by kernel_rfl) (by kernel_rfl) (fun _ => hb_sadd ht43_8e ht43_8l)) ?_
       obtain ⟨t44_8, ht44_8, hm⟩ := bnd hm; obtain ⟨ht44_8e, ht44_8l⟩ := app_some ht44_8
       refine Wz (.s t44_8) (op_bin rfl (a1 := .string (toS t43_8)) (a2 := .string (toS ([125] : List UInt8))) (by kernel_rfl) (by kernel_rfl) (fun _ => hb_sadd ht44_8e ht44_8l)) <| Wm (.s t44_8) rfl <| Nn <| Rt <| Ir <| Tr ?_
       obtain rfl := Option.some.inj hm
       exact ret_i []
      ·
       replace hm := cF hc34_22 hm
       refine AiF hc34_22 <| Sk <| Ino <| Tn ?_
       exact AWP.weak (Weak.toK 2 0 0 [0]) (J11 () hm)
   ·
    replace hm := cF hq20_6 hm
    refine Wz (.b false) (Oq hq20_6 rfl) <| Wn <| Wn <| Wn <| Wz (.b false) (OpF rfl) <| Wm (.b false) rfl <| Nk 65538 1 ⟨tp 1 (.loc 0 0::tp 14 (.b false::tp 38 [])), [(.box [(.y p0.Kind), (.i p0.Kids), (.i p0.Lo), (.i p0.Hi), (.s p0.Var), (.s p0.Type_), (.l enc_GNode_ p0.Test)])], 0⟩ <| AWP.if_ false (by kernel_rfl) <| Sx <| Wz (.loc 0 3) (Ofa rfl) <| Wz (.i p0.Hi) (Old rfl) <| Wz (.b (decide (p0.Hi = 0))) (Obn rfl (fun _ => hb_eql (k := .i64))) <| Wm (.b (decide (p0.Hi = 0))) rfl <| Nk 33554434 1 ⟨tp 1 (.loc 0 0::tp 23 (.b (decide (p0.Hi = 0))::tp 29 [])), [(.box [(.y p0.Kind), (.i p0.Kids), (.i p0.Lo), (.i p0.Hi), (.s p0.Var), (.s p0.Type_), (.l enc_GNode_ p0.Test)])], 0⟩ ?_
    rcases tf_ (decide (p0.Hi = 0)) with hc25_23 | hc25_23
    ·
     replace hm := cT hc25_23 hm
     refine AiT hc25_23 <| Sx <| Wz (.loc 0 2) (Ofa rfl) <| Wz (.i p0.Lo) (Old rfl) ?_
     obtain ⟨r31_9, hr31_9, hm⟩ := bnd hm
     refine Wz (.s r31_9) (Ocf [] [] [] 0 (ok_shape_digits p0.Lo r31_9 hr31_9) (fun a w => Try.call33 a w) rfl trivial) ?_
     obtain ⟨t32_9, ht32_9, hm⟩ := bnd hm; obtain ⟨ht32_9e, ht32_9l⟩ := app_some ht32_9
     refine Wz (.s t32_9) (op_bin rfl (a1 := .string (toS ([123] : List UInt8))) (a2 := .string (toS r31_9)) (by kernel_rfl) (by kernel_rfl) (fun _ => hb_sadd ht32_9e ht32_9l)) ?_
     obtain ⟨t33_9, ht33_9, hm⟩ := bnd hm; obtain ⟨ht33_9e, ht33_9l⟩ := app_some ht33_9
     refine Wz (.s t33_9) (op_bin rfl (a1 := .string (toS t32_9)) (a2 := .string (toS ([44, 125] : List UInt8))) (by kernel_rfl) (by kernel_rfl) (fun _ => hb_sadd ht33_9e ht33_9l)) <| Wm (.s t33_9) rfl <| Nn <| Rt <| Ir <| Tr ?_
     obtain rfl := Option.some.inj hm
     exact ret_i []
    ·
     replace hm := cF hc25_23 hm
     refine AiF hc25_23 <| Sx <| Wz (.loc 0 3) (Ofa rfl) <| Wz (.i p0.Hi) (Old rfl) <| Wz (.loc 0 2) (Ofa rfl) <| Wz (.i p0.Lo) (Old rfl) <| Wz (.b (decide (p0.Hi = p0.Lo))) (Obn rfl (fun _ => hb_eql (k := .i64))) <| Wm (.b (decide (p0.Hi = p0.Lo))) rfl <| Nk 17179869186 1 ⟨tp 1 (.loc 0 0::tp 32 (.b (decide (p0.Hi = p0.Lo))::tp 20 [])), [(.box [(.y p0.Kind), (.i p0.Kids), (.i p0.Lo), (.i p0.Hi), (.s p0.Var), (.s p0.Type_), (.l enc_GNode_ p0.Test)])], 0⟩ ?_
     rcases tf_ (decide (p0.Hi = p0.Lo)) with hc34_24 | hc34_24
     ·
      replace hm := cT hc34_24 hm
      refine AiT hc34_24 <| Sx <| Wz (.loc 0 2) (Ofa rfl) <| Wz (.i p0.Lo) (Old rfl) ?_
      obtain ⟨r42_10, hr42_10, hm⟩ := bnd hm
      refine Wz (.s r42_10) (Ocf [] [] [] 0 (ok_shape_digits p0.Lo r42_10 hr42_10) (fun a w => Try.call33 a w) rfl trivial) ?_
      obtain ⟨t43_10, ht43_10, hm⟩ := bnd hm; obtain ⟨ht43_10e, ht43_10l⟩ := app_some ht43_10
      refine Wz (.s t43_10) (op_bin rfl (a1 := .string (toS ([123] : List UInt8))) (a2 := .string (toS r42_10)) (by kernel_rfl) (by kernel_rfl) (fun _ => hb_sadd ht43_10e ht43_10l)) ?_
      obtain ⟨t44_10, ht44_10, hm⟩ := bnd hm; obtain ⟨ht44_10e, ht44_10l⟩ := app_some ht44_10
      refine Wz (.s t44_10) (op_bin rfl (a1 := .string (toS t43_10)) (a2 := .string (toS ([125] : List UInt8))) (by kernel_rfl) (by kernel_rfl) (fun _ => hb_sadd ht44_10e ht44_10l)) <| Wm (.s t44_10) rfl <| Nn <| Rt <| Ir <| Tr ?_
      obtain rfl := Option.some.inj hm
      exact ret_i []
     ·
      replace hm := cF hc34_24 hm
      refine AiF hc34_24 <| Sk <| Ino <| Tn ?_
      exact AWP.weak (Weak.toK 2 0 0 [0]) (J11 () hm)

theorem ok_shape_Print_1 : ∀ (fuR : Nat) (p0 : UInt8) (p1 : GPattern) (p2 : Int) (r : ((List UInt8) × GPattern × Int)) (h : m_shape_Print_1 fuR p0 p1 p2 = some r), GCall Try.prog 29 [(.y p0), (.loc 0 0), (.loc 1 0), (.loc 2 0)] [(.box [(.l enc_GNode p1.Body), (.i p1.Within), (.s p1.By), (.y p1.Mode)]), (.box [(.i p2)]), (.box [(.clo (.func 29) [] [(.loc 0 0), (.loc 1 0), (.loc 2 0)])])] (.s r.1) [(.box [(.l enc_GNode r.2.1.Body), (.i r.2.1.Within), (.s r.2.1.By), (.y r.2.1.Mode)]), (.box [(.i r.2.2)]), (.box [(.clo (.func 29) [] [(.loc 0 0), (.loc 1 0), (.loc 2 0)])])] := by
 intro fuR; induction fuR with
 | zero => intro p0 p1 p2 r h; exact absurd h (by unfold m_shape_Print_1; simp)
 | succ fuR ih =>
 intro p0 p1 p2 r h
 refine GCall.of_body (n := 63) (rs := [(.tmp 5)]) Try.func29 rfl rfl rfl <| Ato ⟨.y p0::.loc 0 0::.loc 1 0::.loc 2 0::tu 59 [], [(.box [(.l enc_GNode p1.Body), (.i p1.Within), (.s p1.By), (.y p1.Mode)]), (.box [(.i p2)]), (.box [(.clo (.func 29) [] [(.loc 0 0), (.loc 1 0), (.loc 2 0)])])], 3⟩ ?_
 have hm := h
 unfold m_shape_Print_1 at hm
 refine Sx <| Wm (.s ([] : List UInt8)) rfl <| Nk 15 7 ⟨.y p0::.loc 0 0::.loc 1 0::.loc 2 0::tp 59 [], [(.box [(.l enc_GNode p1.Body), (.i p1.Within), (.s p1.By), (.y p1.Mode)]), (.box [(.i p2)]), (.box [(.clo (.func 29) [] [(.loc 0 0), (.loc 1 0), (.loc 2 0)])])], 3⟩ <| Sx <| Wz (.loc 0 0) (Ofa rfl) <| Wz (.l enc_GNode p1.Body) (Old rfl) <| Wz (.i p2) (Old rfl) ?_
 obtain ⟨x12_0, hx12_0, hm⟩ := bnd hm
 obtain ⟨hx12_0i, hx12_0g⟩ := geti_some hx12_0
 refine Wz (.d (.ref (List.drop ((Int.toNat p2) * 7) (flatD enc_GNode p1.Body)))) (Oia rfl enc_GNode_len hx12_0i hx12_0g) <| Wz (.agg [(.y x12_0.Kind), (.i x12_0.Kids), (.i x12_0.Lo), (.i x12_0.Hi), (.s x12_0.Var), (.s x12_0.Type_), (.l enc_GNode_ x12_0.Test)]) (Lf rfl enc_GNode_len hx12_0g) <| Wy (.loc 3 0) [(3, (.box [(.y 0), (.i 0), (.i 0), (.i 0), (.s ([] : List UInt8)), (.s ([] : List UInt8)), (.d .nil)]))] (Oal rfl) <| Wy (.tup []) [(3, (.box [(.y x12_0.Kind), (.i x12_0.Kids), (.i x12_0.Lo), (.i x12_0.Hi), (.s x12_0.Var), (.s x12_0.Type_), (.l enc_GNode_ x12_0.Test)]))] (Ost rfl) <| Nk 77 15 ⟨.y p0::tp 1 (.loc 1 0::.loc 2 0::tp 2 (.loc 3 0::tp 56 [])), [(.box [(.l enc_GNode p1.Body), (.i p1.Within), (.s p1.By), (.y p1.Mode)]), (.box [(.i p2)]), (.box [(.clo (.func 29) [] [(.loc 0 0), (.loc 1 0), (.loc 2 0)])]), (.box [(.y x12_0.Kind), (.i x12_0.Kids), (.i x12_0.Lo), (.i x12_0.Hi), (.s x12_0.Var), (.s x12_0.Type_), (.l enc_GNode_ x12_0.Test)])], 3⟩ <| Sx <| Wz (.i p2) (Old rfl) <| Wz (.i (W6 (p2 + 1))) (Obn rfl (fun _ => hb_add (k := .i64))) <| Wy (.tup []) [(1, (.box [(.i (W6 (p2 + 1)))]))] (Ost rfl) <| Nk 73 15 ⟨.y p0::tp 2 (.loc 2 0::tp 2 (.loc 3 0::tp 56 [])), [(.box [(.l enc_GNode p1.Body), (.i p1.Within), (.s p1.By), (.y p1.Mode)]), (.box [(.i (W6 (p2 + 1)))]), (.box [(.clo (.func 29) [] [(.loc 0 0), (.loc 1 0), (.loc 2 0)])]), (.box [(.y x12_0.Kind), (.i x12_0.Kids), (.i x12_0.Lo), (.i x12_0.Hi), (.s x12_0.Var), (.s x12_0.Type_), (.l enc_GNode_ x12_0.Test)])], 3⟩ <| Sq <| Sx <| Wz (.agg [(.y x12_0.Kind), (.i x12_0.Kids), (.i x12_0.Lo), (.i x12_0.Hi), (.s x12_0.Var), (.s x12_0.Type_), (.l enc_GNode_ x12_0.Test)]) (Old rfl) ?_
 obtain ⟨r17_1, hr17_1, hm⟩ := bnd hm
 refine Wz (.b r17_1) (Ocf [] [] [] 0 (ok_shape_Node_leaf x12_0 r17_1 hr17_1) (fun a w => Try.call30 a w) rfl trivial) <| Nk 131145 15 ⟨.y p0::tp 2 (.loc 2 0::tp 2 (.loc 3 0::tp 10 (.b r17_1::tp 45 []))), [(.box [(.l enc_GNode p1.Body), (.i p1.Within), (.s p1.By), (.y p1.Mode)]), (.box [(.i (W6 (p2 + 1)))]), (.box [(.clo (.func 29) [] [(.loc 0 0), (.loc 1 0), (.loc 2 0)])]), (.box [(.y x12_0.Kind), (.i x12_0.Kids), (.i x12_0.Lo), (.i x12_0.Hi), (.s x12_0.Var), (.s x12_0.Type_), (.l enc_GNode_ x12_0.Test)])], 3⟩ ?_
 rcases tf_ r17_1 with hc17_13 | hc17_13
 ·
  replace hm := cT hc17_13 hm
  refine AiT hc17_13 <| Sx <| Wz (.agg [(.y x12_0.Kind), (.i x12_0.Kids), (.i x12_0.Lo), (.i x12_0.Hi), (.s x12_0.Var), (.s x12_0.Type_), (.l enc_GNode_ x12_0.Test)]) (Old rfl) ?_
  obtain ⟨r19_2, hr19_2, hm⟩ := bnd hm
  refine Wz (.s r19_2) (Ocf [] [] [] 0 (ok_shape_Node_text x12_0 r19_2 hr19_2) (fun a w => Try.call31 a w) rfl trivial) <| Wm (.s r19_2) rfl <| Nn <| Rt <| Tr ?_
  obtain rfl := Option.some.inj hm
  exact ret_i [0, 1, 2]
 ·
  replace hm := cF hc17_13 hm
  refine AiF hc17_13 <| Sk <| Tk 73 15 ⟨.y p0::tp 2 (.loc 2 0::tp 2 (.loc 3 0::tp 56 [])), [(.box [(.l enc_GNode p1.Body), (.i p1.Within), (.s p1.By), (.y p1.Mode)]), (.box [(.i (W6 (p2 + 1)))]), (.box [(.clo (.func 29) [] [(.loc 0 0), (.loc 1 0), (.loc 2 0)])]), (.box [(.y x12_0.Kind), (.i x12_0.Kids), (.i x12_0.Lo), (.i x12_0.Hi), (.s x12_0.Var), (.s x12_0.Type_), (.l enc_GNode_ x12_0.Test)])], 3⟩ <| Sx <| Wm (.s ([59, 32] : List UInt8)) rfl <| Nk 201 15 ⟨.y p0::tp 2 (.loc 2 0::tp 2 (.loc 3 0::.s ([59, 32] : List UInt8)::tp 55 [])), [(.box [(.l enc_GNode p1.Body), (.i p1.Within), (.s p1.By), (.y p1.Mode)]), (.box [(.i (W6 (p2 + 1)))]), (.box [(.clo (.func 29) [] [(.loc 0 0), (.loc 1 0), (.loc 2 0)])]), (.box [(.y x12_0.Kind), (.i x12_0.Kids), (.i x12_0.Lo), (.i x12_0.Hi), (.s x12_0.Var), (.s x12_0.Type_), (.l enc_GNode_ x12_0.Test)])], 3⟩ ?_
  refine AWP.cutJ (α := (List UInt8)) (fun x => match x with | y7_3 => (⟨.y p0::tp 2 (.loc 2 0::tp 2 (.loc 3 0::.s y7_3::tp 55 [])), [(.box [(.l enc_GNode p1.Body), (.i p1.Within), (.s p1.By), (.y p1.Mode)]), (.box [(.i (W6 (p2 + 1)))]), (.box [(.clo (.func 29) [] [(.loc 0 0), (.loc 1 0), (.loc 2 0)])]), (.box [(.y x12_0.Kind), (.i x12_0.Kids), (.i x12_0.Lo), (.i x12_0.Hi), (.s x12_0.Var), (.s x12_0.Type_), (.l enc_GNode_ x12_0.Test)])], 3⟩ : St)) (fun x => match x with | y7_3 => m_shape_Print_1_j3 p0 p1 p2 x12_0 (fun p0 p1 p2 => m_shape_Print_1 fuR p0 p1 p2) y7_3 = some r) ?_ (fun J3 => ?_)
  ·
   rintro y7_3 hm
   try dsimp only at hm ⊢
   unfold m_shape_Print_1_j3 at hm
   refine Sx <| Wz (.clo (.func 29) [] [(.loc 0 0), (.loc 1 0), (.loc 2 0)]) (Old rfl) <| Wz (.loc 3 0) (Ofa rfl) <| Wz (.y x12_0.Kind) (Old rfl) ?_
   obtain ⟨r26_4, hr26_4, hm⟩ := bnd hm
   refine Wy (.s r26_4.1) [(0, (.box [(.l enc_GNode r26_4.2.1.Body), (.i r26_4.2.1.Within), (.s r26_4.2.1.By), (.y r26_4.2.1.Mode)])), (1, (.box [(.i r26_4.2.2)])), (2, (.box [(.clo (.func 29) [] [(.loc 0 0), (.loc 1 0), (.loc 2 0)])]))] (Ocf [0, 1, 2] [] [] 0 (ih x12_0.Kind p1 (W6 (p2 + 1)) r26_4 hr26_4) (fun a w => Try.call29 a w) rfl ⟨rfl, rfl, rfl, trivial⟩) <| Wm (.s r26_4.1) rfl <| Nk 457 15 ⟨.y p0::tp 2 (.loc 2 0::tp 2 (.loc 3 0::.s y7_3::.s r26_4.1::tp 54 [])), [(.box [(.l enc_GNode r26_4.2.1.Body), (.i r26_4.2.1.Within), (.s r26_4.2.1.By), (.y r26_4.2.1.Mode)]), (.box [(.i r26_4.2.2)]), (.box [(.clo (.func 29) [] [(.loc 0 0), (.loc 1 0), (.loc 2 0)])]), (.box [(.y x12_0.Kind), (.i x12_0.Kids), (.i x12_0.Lo), (.i x12_0.Hi), (.s x12_0.Var), (.s x12_0.Type_), (.l enc_GNode_ x12_0.Test)])], 3⟩ <| Sq <| Sx <| Wz (.agg [(.y x12_0.Kind), (.i x12_0.Kids), (.i x12_0.Lo), (.i x12_0.Hi), (.s x12_0.Var), (.s x12_0.Type_), (.l enc_GNode_ x12_0.Test)]) (Old rfl) ?_
   obtain ⟨r28_5, hr28_5, hm⟩ := bnd hm
   refine Wz (.i r28_5) (Ocf [] [] [] 0 (ok_shape_Node_kids x12_0 r28_5 hr28_5) (fun a w => Try.call23 a w) rfl trivial) <| Wz (.i (W6 (r28_5 - 1))) (Obn rfl (fun _ => hb_sub (k := .i64))) <| Wm (.i 0) rfl <| Nk 1610613193 15 ⟨.y p0::tp 2 (.loc 2 0::tp 2 (.loc 3 0::.s y7_3::.s r26_4.1::tp 20 (.i (W6 (r28_5 - 1))::.i 0::tp 32 []))), [(.box [(.l enc_GNode r26_4.2.1.Body), (.i r26_4.2.1.Within), (.s r26_4.2.1.By), (.y r26_4.2.1.Mode)]), (.box [(.i r26_4.2.2)]), (.box [(.clo (.func 29) [] [(.loc 0 0), (.loc 1 0), (.loc 2 0)])]), (.box [(.y x12_0.Kind), (.i x12_0.Kids), (.i x12_0.Lo), (.i x12_0.Hi), (.s x12_0.Var), (.s x12_0.Type_), (.l enc_GNode_ x12_0.Test)])], 3⟩ <| Bk ?_
   refine AWP.loopI (α := Nat × GPattern × Int × (List UInt8) × Int)
     (fun (fu_6, y0_d_6, y1_d_6, y8_6, y30_6) => (⟨.y p0::tp 2 (.loc 2 0::tp 2 (.loc 3 0::.s y7_3::.s y8_6::tp 20 (.i (W6 (r28_5 - 1))::.i y30_6::tp 32 []))), [(.box [(.l enc_GNode y0_d_6.Body), (.i y0_d_6.Within), (.s y0_d_6.By), (.y y0_d_6.Mode)]), (.box [(.i y1_d_6)]), (.box [(.clo (.func 29) [] [(.loc 0 0), (.loc 1 0), (.loc 2 0)])]), (.box [(.y x12_0.Kind), (.i x12_0.Kids), (.i x12_0.Lo), (.i x12_0.Hi), (.s x12_0.Var), (.s x12_0.Type_), (.l enc_GNode_ x12_0.Test)])], 3⟩ : St))
     (fun (fu_6, y0_d_6, y1_d_6, y8_6, y30_6) => m_shape_Print_1_l6 p0 r28_5 x12_0 y7_3 (fun p0 p1 p2 => m_shape_Print_1 fuR p0 p1 p2) fu_6 y0_d_6 y1_d_6 y8_6 y30_6 = some r)
     (fun (fu_6, y0_d_6, y1_d_6, y8_6, y30_6) => fu_6) (1152921504606846976, r26_4.2.1, r26_4.2.2, r26_4.1, 0)
     (Weak.toK 1610613193 0 0 [0, 1, 2, 3]) hm ?_
   rintro ⟨fu_6, y0_d_6, y1_d_6, y8_6, y30_6⟩ n_6 hm ih_6
   try dsimp only at hm ih_6 ⊢
   cases fu_6 with
   | zero => exact absurd hm (by unfold m_shape_Print_1_l6; simp)
   | succ fu_6 =>
    unfold m_shape_Print_1_l6 at hm
    refine Sx <| Wz (.b (decide (y30_6 < (W6 (r28_5 - 1))))) (Obn rfl (fun _ => hb_lss (k := .i64))) <| Nk 3758096841 15 ⟨.y p0::tp 2 (.loc 2 0::tp 2 (.loc 3 0::.s y7_3::.s y8_6::tp 20 (.i (W6 (r28_5 - 1))::.i y30_6::.b (decide (y30_6 < (W6 (r28_5 - 1))))::tp 31 []))), [(.box [(.l enc_GNode y0_d_6.Body), (.i y0_d_6.Within), (.s y0_d_6.By), (.y y0_d_6.Mode)]), (.box [(.i y1_d_6)]), (.box [(.clo (.func 29) [] [(.loc 0 0), (.loc 1 0), (.loc 2 0)])]), (.box [(.y x12_0.Kind), (.i x12_0.Kids), (.i x12_0.Lo), (.i x12_0.Hi), (.s x12_0.Var), (.s x12_0.Type_), (.l enc_GNode_ x12_0.Test)])], 3⟩ <| Sq ?_
    rcases tf_ (decide (y30_6 < (W6 (r28_5 - 1)))) with hc31_14 | hc31_14
    ·
     replace hm := cT hc31_14 hm
     refine AiT hc31_14 <| Sk <| Tk 1610613193 15 ⟨.y p0::tp 2 (.loc 2 0::tp 2 (.loc 3 0::.s y7_3::.s y8_6::tp 20 (.i (W6 (r28_5 - 1))::.i y30_6::tp 32 []))), [(.box [(.l enc_GNode y0_d_6.Body), (.i y0_d_6.Within), (.s y0_d_6.By), (.y y0_d_6.Mode)]), (.box [(.i y1_d_6)]), (.box [(.clo (.func 29) [] [(.loc 0 0), (.loc 1 0), (.loc 2 0)])]), (.box [(.y x12_0.Kind), (.i x12_0.Kids), (.i x12_0.Lo), (.i x12_0.Hi), (.s x12_0.Var), (.s x12_0.Type_), (.l enc_GNode_ x12_0.Test)])], 3⟩ <| Sq <| Bk <| Tx <| Wm (.s y8_6) rfl <| Wm (.s y7_3) rfl <| Wz (.clo (.func 29) [] [(.loc 0 0), (.loc 1 0), (.loc 2 0)]) (Old rfl) <| Wz (.loc 3 0) (Ofa rfl) <| Wz (.y x12_0.Kind) (Old rfl) ?_
     obtain ⟨r37_7, hr37_7, hm⟩ := bnd hm
     refine Wy (.s r37_7.1) [(0, (.box [(.l enc_GNode r37_7.2.1.Body), (.i r37_7.2.1.Within), (.s r37_7.2.1.By), (.y r37_7.2.1.Mode)])), (1, (.box [(.i r37_7.2.2)])), (2, (.box [(.clo (.func 29) [] [(.loc 0 0), (.loc 1 0), (.loc 2 0)])]))] (Ocf [0, 1, 2] [] [] 0 (ih x12_0.Kind y0_d_6 y1_d_6 r37_7 hr37_7) (fun a w => Try.call29 a w) rfl ⟨rfl, rfl, rfl, trivial⟩) ?_
     obtain ⟨t38_7, ht38_7, hm⟩ := bnd hm; obtain ⟨ht38_7e, ht38_7l⟩ := app_some ht38_7
     refine Wz (.s t38_7) (op_bin rfl (a1 := .string (toS y7_3)) (a2 := .string (toS r37_7.1)) (by kernel_rfl) (by kernel_rfl) (fun _ => hb_sadd ht38_7e ht38_7l)) ?_
     obtain ⟨t39_7, ht39_7, hm⟩ := bnd hm; obtain ⟨ht39_7e, ht39_7l⟩ := app_some ht39_7
     refine Wz (.s t39_7) (op_bin rfl (a1 := .string (toS y8_6)) (a2 := .string (toS t38_7)) (by kernel_rfl) (by kernel_rfl) (fun _ => hb_sadd ht39_7e ht39_7l)) <| Wm (.s t39_7) rfl <| Wn0 <| Ino <| Tk 1610613193 15 ⟨.y p0::tp 2 (.loc 2 0::tp 2 (.loc 3 0::.s y7_3::.s t39_7::tp 20 (.i (W6 (r28_5 - 1))::.i y30_6::tp 32 []))), [(.box [(.l enc_GNode r37_7.2.1.Body), (.i r37_7.2.1.Within), (.s r37_7.2.1.By), (.y r37_7.2.1.Mode)]), (.box [(.i r37_7.2.2)]), (.box [(.clo (.func 29) [] [(.loc 0 0), (.loc 1 0), (.loc 2 0)])]), (.box [(.y x12_0.Kind), (.i x12_0.Kids), (.i x12_0.Lo), (.i x12_0.Hi), (.s x12_0.Var), (.s x12_0.Type_), (.l enc_GNode_ x12_0.Test)])], 3⟩ <| Tx <| Wz (.i (W6 (y30_6 + 1))) (Obn rfl (fun _ => hb_add (k := .i64))) <| Wm (.i (W6 (y30_6 + 1))) rfl <| Wn0 <| RoundK.normal ?_
     exact Rounds.weak (Weak.toK 1610613193 0 0 [0, 1, 2, 3]) (ih_6 (fu_6, r37_7.2.1, r37_7.2.2, t39_7, (W6 (y30_6 + 1))) hm (Nat.lt_succ_self _))
    ·
     replace hm := cF hc31_14 hm
     refine AiF hc31_14 <| AWP.exit <| Then.exit <| RoundK.exit <| InBlock.same <| Tk 321 15 ⟨.y p0::tp 5 (.loc 3 0::tp 1 (.s y8_6::tp 54 [])), [(.box [(.l enc_GNode y0_d_6.Body), (.i y0_d_6.Within), (.s y0_d_6.By), (.y y0_d_6.Mode)]), (.box [(.i y1_d_6)]), (.box [(.clo (.func 29) [] [(.loc 0 0), (.loc 1 0), (.loc 2 0)])]), (.box [(.y x12_0.Kind), (.i x12_0.Kids), (.i x12_0.Lo), (.i x12_0.Hi), (.s x12_0.Var), (.s x12_0.Type_), (.l enc_GNode_ x12_0.Test)])], 3⟩ ?_
     refine AWP.cutJ (α := (List UInt8)) (fun x => match x with | y8_9 => (⟨.y p0::tp 5 (.loc 3 0::tp 1 (.s y8_9::tp 54 [])), [(.box [(.l enc_GNode y0_d_6.Body), (.i y0_d_6.Within), (.s y0_d_6.By), (.y y0_d_6.Mode)]), (.box [(.i y1_d_6)]), (.box [(.clo (.func 29) [] [(.loc 0 0), (.loc 1 0), (.loc 2 0)])]), (.box [(.y x12_0.Kind), (.i x12_0.Kids), (.i x12_0.Lo), (.i x12_0.Hi), (.s x12_0.Var), (.s x12_0.Type_), (.l enc_GNode_ x12_0.Test)])], 3⟩ : St)) (fun x => match x with | y8_9 => m_shape_Print_1_j9 p0 x12_0 y0_d_6 y1_d_6 y8_9 = some r) ?_ (fun J9 => ?_)
     ·
      rintro y8_9 hm
      try dsimp only at hm ⊢
      unfold m_shape_Print_1_j9 at hm
      refine Sq <| Sx <| Wm (.y p0) rfl <| Wz (.b (decide (((p0.toNat : Nat) : Int) = 3))) (Ob2 (.int .u8 ((p0.toNat : Nat) : Int)) (.int .u8 3) rfl (fun _ => hb_eql)) ?_
      rcases tf_ (decide (((p0.toNat : Nat) : Int) = 3)) with hq50_10 | hq50_10
      ·
       replace hm := cT hq50_10 hm
       refine Wz (.b true) (Oq hq50_10 rfl) <| Wn <| Wn <| Wn <| Wn <| Wn <| Wn <| Wn <| Wz (.b true) (OpT rfl) <| Nk 288230376151712000 7 ⟨tp 8 (.s y8_9::tp 49 (.b true::tp 4 [])), [(.box [(.l enc_GNode y0_d_6.Body), (.i y0_d_6.Within), (.s y0_d_6.By), (.y y0_d_6.Mode)]), (.box [(.i y1_d_6)]), (.box [(.clo (.func 29) [] [(.loc 0 0), (.loc 1 0), (.loc 2 0)])]), .gone], 3⟩ <| AWP.if_ true (by kernel_rfl) <| Sx <| Wm (.s y8_9) rfl ?_
       obtain ⟨t60_11, ht60_11, hm⟩ := bnd hm; obtain ⟨ht60_11e, ht60_11l⟩ := app_some ht60_11
       refine Wz (.s t60_11) (op_bin rfl (a1 := .string (toS ([40] : List UInt8))) (a2 := .string (toS y8_9)) (by kernel_rfl) (by kernel_rfl) (fun _ => hb_sadd ht60_11e ht60_11l)) ?_
       obtain ⟨t61_11, ht61_11, hm⟩ := bnd hm; obtain ⟨ht61_11e, ht61_11l⟩ := app_some ht61_11
       refine Wz (.s t61_11) (op_bin rfl (a1 := .string (toS t60_11)) (a2 := .string (toS ([41] : List UInt8))) (by kernel_rfl) (by kernel_rfl) (fun _ => hb_sadd ht61_11e ht61_11l)) <| Wm (.s t61_11) rfl <| Nn <| Rt <| Tr ?_
       obtain rfl := Option.some.inj hm
       exact ret_i [0, 1, 2]
      ·
       replace hm := cF hq50_10 hm
       refine Wz (.b false) (Oq hq50_10 rfl) <| Wm (.y p0) rfl <| Wz (.b (decide (((p0.toNat : Nat) : Int) = 1))) (Ob2 (.int .u8 ((p0.toNat : Nat) : Int)) (.int .u8 1) rfl (fun _ => hb_eql)) ?_
       rcases tf_ (decide (((p0.toNat : Nat) : Int) = 1)) with hq53_10 | hq53_10
       ·
        replace hm := cT hq53_10 hm
        refine Wz (.b true) (Oq hq53_10 rfl) <| Wz (.loc 3 0) (Ofa rfl) <| Wz (.y x12_0.Kind) (Old rfl) <| Wz (.b (decide (((x12_0.Kind.toNat : Nat) : Int) = 2))) (Ob2 (.int .u8 ((x12_0.Kind.toNat : Nat) : Int)) (.int .u8 2) rfl (fun _ => hb_eql)) <| Wz (.b (decide (((x12_0.Kind.toNat : Nat) : Int) = 2))) (OpT rfl) <| Wz (.b (decide (((x12_0.Kind.toNat : Nat) : Int) = 2))) (OpF rfl) <| Nk 288230376151712000 7 ⟨tp 8 (.s y8_9::tp 49 (.b (decide (((x12_0.Kind.toNat : Nat) : Int) = 2))::tp 4 [])), [(.box [(.l enc_GNode y0_d_6.Body), (.i y0_d_6.Within), (.s y0_d_6.By), (.y y0_d_6.Mode)]), (.box [(.i y1_d_6)]), (.box [(.clo (.func 29) [] [(.loc 0 0), (.loc 1 0), (.loc 2 0)])]), .gone], 3⟩ ?_
        rcases tf_ (decide (((x12_0.Kind.toNat : Nat) : Int) = 2)) with hc58_15 | hc58_15
        ·
         replace hm := cT hc58_15 hm
         refine AiT hc58_15 <| Sx <| Wm (.s y8_9) rfl ?_
         obtain ⟨t60_12, ht60_12, hm⟩ := bnd hm; obtain ⟨ht60_12e, ht60_12l⟩ := app_some ht60_12
         refine Wz (.s t60_12) (op_bin rfl (a1 := .string (toS ([40] : List UInt8))) (a2 := .string (toS y8_9)) (by kernel_rfl) (by kernel_rfl) (fun _ => hb_sadd ht60_12e ht60_12l)) ?_
         obtain ⟨t61_12, ht61_12, hm⟩ := bnd hm; obtain ⟨ht61_12e, ht61_12l⟩ := app_some ht61_12
         refine Wz (.s t61_12) (op_bin rfl (a1 := .string (toS t60_12)) (a2 := .string (toS ([41] : List UInt8))) (by kernel_rfl) (by kernel_rfl) (fun _ => hb_sadd ht61_12e ht61_12l)) <| Wm (.s t61_12) rfl <| Nn <| Rt <| Tr ?_
         obtain rfl := Option.some.inj hm
         exact ret_i [0, 1, 2]
        ·
         replace hm := cF hc58_15 hm
         refine AiF hc58_15 <| Sk <| Tk 256 7 ⟨tp 8 (.s y8_9::tp 54 []), [(.box [(.l enc_GNode y0_d_6.Body), (.i y0_d_6.Within), (.s y0_d_6.By), (.y y0_d_6.Mode)]), (.box [(.i y1_d_6)]), (.box [(.clo (.func 29) [] [(.loc 0 0), (.loc 1 0), (.loc 2 0)])]), .gone], 3⟩ <| Sx <| Wm (.s y8_9) rfl <| Wm (.s y8_9) rfl <| Nn <| Rt ?_
         obtain rfl := Option.some.inj hm
         exact ret_i [0, 1, 2]
       ·
        replace hm := cF hq53_10 hm
        refine Wz (.b false) (Oq hq53_10 rfl) <| Wn <| Wn <| Wn <| Wz (.b false) (OpF rfl) <| Wz (.b false) (OpF rfl) <| Nk 288230376151712000 7 ⟨tp 8 (.s y8_9::tp 49 (.b false::tp 4 [])), [(.box [(.l enc_GNode y0_d_6.Body), (.i y0_d_6.Within), (.s y0_d_6.By), (.y y0_d_6.Mode)]), (.box [(.i y1_d_6)]), (.box [(.clo (.func 29) [] [(.loc 0 0), (.loc 1 0), (.loc 2 0)])]), .gone], 3⟩ <| AWP.if_ false (by kernel_rfl) <| Sk <| Tk 256 7 ⟨tp 8 (.s y8_9::tp 54 []), [(.box [(.l enc_GNode y0_d_6.Body), (.i y0_d_6.Within), (.s y0_d_6.By), (.y y0_d_6.Mode)]), (.box [(.i y1_d_6)]), (.box [(.clo (.func 29) [] [(.loc 0 0), (.loc 1 0), (.loc 2 0)])]), .gone], 3⟩ <| Sx <| Wm (.s y8_9) rfl <| Wm (.s y8_9) rfl <| Nn ?_
        refine Rt ?_
        obtain rfl := Option.some.inj hm
        exact ret_i [0, 1, 2]
     refine Sq <| Sx <| Wz (.loc 3 0) (Ofa rfl) <| Wz (.y x12_0.Kind) (Old rfl) <| Wz (.b (decide (((x12_0.Kind.toNat : Nat) : Int) = 3))) (Ob2 (.int .u8 ((x12_0.Kind.toNat : Nat) : Int)) (.int .u8 3) rfl (fun _ => hb_eql)) <| Nk 8796093022529 15 ⟨.y p0::tp 5 (.loc 3 0::tp 1 (.s y8_6::tp 34 (.b (decide (((x12_0.Kind.toNat : Nat) : Int) = 3))::tp 19 []))), [(.box [(.l enc_GNode y0_d_6.Body), (.i y0_d_6.Within), (.s y0_d_6.By), (.y y0_d_6.Mode)]), (.box [(.i y1_d_6)]), (.box [(.clo (.func 29) [] [(.loc 0 0), (.loc 1 0), (.loc 2 0)])]), (.box [(.y x12_0.Kind), (.i x12_0.Kids), (.i x12_0.Lo), (.i x12_0.Hi), (.s x12_0.Var), (.s x12_0.Type_), (.l enc_GNode_ x12_0.Test)])], 3⟩ ?_
     rcases tf_ (decide (((x12_0.Kind.toNat : Nat) : Int) = 3)) with hc43_16 | hc43_16
     ·
      replace hm := cT hc43_16 hm
      refine AiT hc43_16 <| Tx <| Wm (.s y8_6) rfl <| Wz (.agg [(.y x12_0.Kind), (.i x12_0.Kids), (.i x12_0.Lo), (.i x12_0.Hi), (.s x12_0.Var), (.s x12_0.Type_), (.l enc_GNode_ x12_0.Test)]) (Old rfl) ?_
      obtain ⟨r46_8, hr46_8, hm⟩ := bnd hm
      refine Wz (.s r46_8) (Ocf [] [] [] 0 (ok_shape_Node_times x12_0 r46_8 hr46_8) (fun a w => Try.call32 a w) rfl trivial) ?_
      obtain ⟨t47_8, ht47_8, hm⟩ := bnd hm; obtain ⟨ht47_8e, ht47_8l⟩ := app_some ht47_8
      refine Wz (.s t47_8) (op_bin rfl (a1 := .string (toS y8_6)) (a2 := .string (toS r46_8)) (by kernel_rfl) (by kernel_rfl) (fun _ => hb_sadd ht47_8e ht47_8l)) <| Wm (.s t47_8) rfl <| Nn ?_
      exact AWP.weak (Weak.toK 321 0 0 [0, 1, 2, 3]) (J9 (t47_8) hm)
     ·
      replace hm := cF hc43_16 hm
      refine AiF hc43_16 <| Sk <| Tn ?_
      exact AWP.weak (Weak.toK 321 0 0 [0, 1, 2, 3]) (J9 (y8_6) hm)
  refine Sq <| Sx <| Wz (.loc 3 0) (Ofa rfl) <| Wz (.y x12_0.Kind) (Old rfl) <| Wz (.b (decide (((x12_0.Kind.toNat : Nat) : Int) = 2))) (Ob2 (.int .u8 ((x12_0.Kind.toNat : Nat) : Int)) (.int .u8 2) rfl (fun _ => hb_eql)) <| Nk 4194505 15 ⟨.y p0::tp 2 (.loc 2 0::tp 2 (.loc 3 0::.s ([59, 32] : List UInt8)::tp 14 (.b (decide (((x12_0.Kind.toNat : Nat) : Int) = 2))::tp 40 []))), [(.box [(.l enc_GNode p1.Body), (.i p1.Within), (.s p1.By), (.y p1.Mode)]), (.box [(.i (W6 (p2 + 1)))]), (.box [(.clo (.func 29) [] [(.loc 0 0), (.loc 1 0), (.loc 2 0)])]), (.box [(.y x12_0.Kind), (.i x12_0.Kids), (.i x12_0.Lo), (.i x12_0.Hi), (.s x12_0.Var), (.s x12_0.Type_), (.l enc_GNode_ x12_0.Test)])], 3⟩ ?_
  rcases tf_ (decide (((x12_0.Kind.toNat : Nat) : Int) = 2)) with hc22_17 | hc22_17
  ·
   replace hm := cT hc22_17 hm
   refine AiT hc22_17 <| Tx <| Wm (.s ([32, 124, 32] : List UInt8)) rfl <| Nn ?_
   exact AWP.weak (Weak.toK 201 0 0 [0, 1, 2, 3]) (J3 (([32, 124, 32] : List UInt8)) hm)
  ·
   replace hm := cF hc22_17 hm
   refine AiF hc22_17 <| Sk <| Tn ?_
   exact AWP.weak (Weak.toK 201 0 0 [0, 1, 2, 3]) (J3 (([59, 32] : List UInt8)) hm)

theorem keep_j9 {a : UInt8} {n : GNode} {p : GPattern} {z : Int} {s : List UInt8} {r : List UInt8 × GPattern × Int} (h : m_shape_Print_1_j9 a n p z s = some r) : r.2.1 = p := by
 unfold m_shape_Print_1_j9 at h
 have two : (Option.bind (app ([40] : List UInt8) s) fun t60 => Option.bind (app t60 ([41] : List UInt8)) fun t61 => some (t61, p, z)) = some r → r.2.1 = p := fun h => by
  obtain ⟨_, _, h⟩ := bnd h
  obtain ⟨_, _, h⟩ := bnd h
  cases h; rfl
 revert h
 cases decide (((a.toNat : Nat) : Int) = 3) <;> cases decide (((a.toNat : Nat) : Int) = 1) <;> cases decide (((n.Kind.toNat : Nat) : Int) = 2) <;> intro h <;> first | exact two h | (cases h; rfl)
theorem keep_l6 {a : UInt8} {kd : Int} {n : GNode} {y7 : List UInt8} {K : UInt8 → GPattern → Int → Option (List UInt8 × GPattern × Int)} (hK : ∀ a p z r, K a p z = some r → r.2.1 = p) : ∀ (fu : Nat) {p : GPattern} {z i : Int} {s : List UInt8} {r : List UInt8 × GPattern × Int}, m_shape_Print_1_l6 a kd n y7 K fu p z s i = some r → r.2.1 = p
 | 0, p, z, i, s, r, h => by cases h
 | fu + 1, p, z, i, s, r, h => by
  unfold m_shape_Print_1_l6 at h
  revert h
  cases decide (i < IntKind.i64.wrap (kd - 1)) with
  | true =>
   intro h
   obtain ⟨x, hx, h⟩ := bnd (show Option.bind _ _ = some r from h)
   obtain ⟨_, _, h⟩ := bnd h
   obtain ⟨_, _, h⟩ := bnd h
   exact (keep_l6 hK fu h).trans (hK _ _ _ _ hx)
  | false =>
   cases decide (((n.Kind.toNat : Nat) : Int) = 3) with
   | true =>
    intro h
    obtain ⟨_, _, h⟩ := bnd (show Option.bind _ _ = some r from h)
    obtain ⟨_, _, h⟩ := bnd h
    exact keep_j9 h
   | false => exact fun h => keep_j9 h
theorem print_keeps : ∀ (fu : Nat) {a : UInt8} {p : GPattern} {z : Int} {r : List UInt8 × GPattern × Int}, m_shape_Print_1 fu a p z = some r → r.2.1 = p
 | 0, a, p, z, r, h => by cases h
 | fu + 1, a, p, z, r, h => by
  unfold m_shape_Print_1 at h
  obtain ⟨n, _, h⟩ := bnd h
  obtain ⟨b, _, h⟩ := bnd h
  have j3 : ∀ y, m_shape_Print_1_j3 a p z n (fun p0 p1 p2 => m_shape_Print_1 fu p0 p1 p2) y = some r → r.2.1 = p := fun y h => by
   unfold m_shape_Print_1_j3 at h
   obtain ⟨x, hx, h⟩ := bnd h
   obtain ⟨_, _, h⟩ := bnd h
   exact (keep_l6 (fun a p z r h => print_keeps fu h) _ h).trans (print_keeps fu hx)
  revert h
  cases b with
  | true =>
   intro h
   obtain ⟨_, _, h⟩ := bnd (show Option.bind _ _ = some r from h)
   cases h; rfl
  | false =>
   cases decide (((n.Kind.toNat : Nat) : Int) = 2) with
   | true => exact fun h => j3 _ h
   | false => exact fun h => j3 _ h

theorem ok_shape_Print (p0 : GPattern) (r : (List UInt8)) (h : m_shape_Print p0 = some r) : GCall Try.prog 13 [(.agg [(.l enc_GNode p0.Body), (.i p0.Within), (.s p0.By), (.y p0.Mode)])] [] (.s r) [] := by
 refine GCall.of_body (n := 31) (rs := [(.tmp 2)]) Try.func13 rfl rfl rfl <| Ato ⟨.agg [(.l enc_GNode p0.Body), (.i p0.Within), (.s p0.By), (.y p0.Mode)]::tu 30 [], [], 0⟩ ?_
 have hm := h
 unfold m_shape_Print at hm
 refine Sx <| Wy (.loc 0 0) [(0, (.box [(.l enc_GNode p0.Body), (.i p0.Within), (.s p0.By), (.y p0.Mode)]))] (Obx rfl) <| Wm (.s ([] : List UInt8)) rfl <| Nk 2 1 ⟨tp 1 (.loc 0 0::tp 29 []), [(.box [(.l enc_GNode p0.Body), (.i p0.Within), (.s p0.By), (.y p0.Mode)])], 0⟩ <| Sq <| Sx <| Wz (.agg [(.l enc_GNode p0.Body), (.i p0.Within), (.s p0.By), (.y p0.Mode)]) (Old rfl) ?_
 obtain ⟨r7_0, hr7_0, hm⟩ := bnd hm
 refine Wz (.i r7_0) (Ocf [] [] [] 0 (ok_shape_Check p0 r7_0 hr7_0) (fun a w => Try.call11 a w) rfl trivial) <| Wz (.b (decide (r7_0 ≠ 0))) (Obn rfl (fun _ => hb_neq (k := .i64))) <| Nk 258 1 ⟨tp 1 (.loc 0 0::tp 6 (.b (decide (r7_0 ≠ 0))::tp 22 [])), [(.box [(.l enc_GNode p0.Body), (.i p0.Within), (.s p0.By), (.y p0.Mode)])], 0⟩ ?_
 rcases tf_ (decide (r7_0 ≠ 0)) with hc8_5 | hc8_5
 ·
  replace hm := cT hc8_5 hm
  refine AiT hc8_5 <| Sx <| Wm (.s ([] : List UInt8)) rfl <| Nn <| Rt <| Tr ?_
  obtain rfl := Option.some.inj hm
  exact ret_i []
 ·
  replace hm := cF hc8_5 hm
  refine AiF hc8_5 <| Sk <| Tk 2 1 ⟨tp 1 (.loc 0 0::tp 29 []), [(.box [(.l enc_GNode p0.Body), (.i p0.Within), (.s p0.By), (.y p0.Mode)])], 0⟩ <| Sx <| Wy (.loc 1 0) [(1, (.box [(.i 0)]))] (Oal rfl) <| Wy (.tup []) [(1, (.box [(.i 0)]))] (Ost rfl) <| Nk 10 3 ⟨tp 1 (.loc 0 0::tp 1 (.loc 1 0::tp 27 [])), [(.box [(.l enc_GNode p0.Body), (.i p0.Within), (.s p0.By), (.y p0.Mode)]), (.box [(.i 0)])], 0⟩ <| Sx <| Wy (.loc 2 0) [(2, (.box [(.d (.lit .nilFunc))]))] (Oal rfl) <| Nk 26 7 ⟨tp 1 (.loc 0 0::tp 1 (.loc 1 0::.loc 2 0::tp 26 [])), [(.box [(.l enc_GNode p0.Body), (.i p0.Within), (.s p0.By), (.y p0.Mode)]), (.box [(.i 0)]), (.box [(.d (.lit .nilFunc))])], 0⟩ <| Sx <| Wz (.clo (.func 29) [] [(.loc 0 0), (.loc 1 0), (.loc 2 0)]) (Ocs (by kernel_rfl) (op_mkfn rfl)) <| Wy (.tup []) [(2, (.box [(.clo (.func 29) [] [(.loc 0 0), (.loc 1 0), (.loc 2 0)])]))] (Ost rfl) <| Nk 18 7 ⟨tp 1 (.loc 0 0::tp 2 (.loc 2 0::tp 26 [])), [(.box [(.l enc_GNode p0.Body), (.i p0.Within), (.s p0.By), (.y p0.Mode)]), (.box [(.i 0)]), (.box [(.clo (.func 29) [] [(.loc 0 0), (.loc 1 0), (.loc 2 0)])])], 0⟩ ?_
  refine Sq <| Adr <| Wz (.clo (.func 29) [] [(.loc 0 0), (.loc 1 0), (.loc 2 0)]) (Old rfl) ?_
  obtain ⟨r11_1, hr11_1, hm⟩ := bnd hm
  obtain ⟨rt, rp, ri⟩ := r11_1
  obtain rfl : p0 = rp := (print_keeps _ hr11_1).symm
  refine Wy (.s rt) [(1, (.box [(.i ri)])), (2, (.box [(.clo (.func 29) [] [(.loc 0 0), (.loc 1 0), (.loc 2 0)])]))] (Osm (id := 0) (xs := [(.l enc_GNode p0.Body), (.i p0.Within), (.s p0.By), (.y p0.Mode)]) (Ocf [0, 1, 2] [] [] 0 (ok_shape_Print_1 1152921504606846976 0 p0 0 (rt, p0, ri) hr11_1) (fun a w => Try.call29 a w) rfl ⟨rfl, rfl, rfl, trivial⟩) rfl (by unfold callR blks; simp)) ?_
  obtain ⟨t12_1, ht12_1, hm⟩ := bnd hm; obtain ⟨ht12_1e, ht12_1l⟩ := app_some ht12_1
  refine Wz (.s t12_1) (op_bin rfl (a1 := .string (toS rt)) (a2 := .string (toS ([32, 119, 105, 116, 104, 105, 110, 32] : List UInt8))) (by kernel_rfl) (by kernel_rfl) (fun _ => hb_sadd ht12_1e ht12_1l)) <| Wz (.loc 0 1) (Ofa rfl) <| Wz (.i p0.Within) (Old rfl) ?_
  obtain ⟨r15_1, hr15_1, hm⟩ := bnd hm
  refine Wz (.s r15_1) (Ocf [] [] [] 0 (ok_shape_digits p0.Within r15_1 hr15_1) (fun a w => Try.call33 a w) rfl trivial) ?_
  obtain ⟨t16_1, ht16_1, hm⟩ := bnd hm; obtain ⟨ht16_1e, ht16_1l⟩ := app_some ht16_1
  refine Wz (.s t16_1) (op_bin rfl (a1 := .string (toS t12_1)) (a2 := .string (toS r15_1)) (by kernel_rfl) (by kernel_rfl) (fun _ => hb_sadd ht16_1e ht16_1l)) <| Wm (.s t16_1) rfl <| Wdr <| Tk 34 1 ⟨tp 1 (.loc 0 0::tp 3 (.s t16_1::tp 25 [])), [(.box [(.l enc_GNode p0.Body), (.i p0.Within), (.s p0.By), (.y p0.Mode)]), .gone, .gone], 0⟩ ?_
  refine AWP.cutJ (α := (List UInt8)) (fun x => match x with | y5_3 => (⟨tp 1 (.loc 0 0::tp 3 (.s y5_3::tp 25 [])), [(.box [(.l enc_GNode p0.Body), (.i p0.Within), (.s p0.By), (.y p0.Mode)])], 0⟩ : St)) (fun x => match x with | y5_3 => m_shape_Print_j3 (rt, p0, ri) y5_3 = some r) ?_ (fun J3 => ?_)
  ·
   rintro y5_3 hm
   try dsimp only at hm ⊢
   unfold m_shape_Print_j3 at hm
   refine Sx <| Wm (.s y5_3) rfl ?_
   obtain ⟨t26_4, ht26_4, hm⟩ := bnd hm; obtain ⟨ht26_4e, ht26_4l⟩ := app_some ht26_4
   refine Wz (.s t26_4) (op_bin rfl (a1 := .string (toS y5_3)) (a2 := .string (toS ([32] : List UInt8))) (by kernel_rfl) (by kernel_rfl) (fun _ => hb_sadd ht26_4e ht26_4l)) <| Wz (.loc 0 3) (Ofa rfl) <| Wz (.y p0.Mode) (Old rfl) ?_
   obtain ⟨r29_4, hr29_4, hm⟩ := bnd hm
   refine Wz (.s r29_4) (Ocf [] [] [] 0 (ok_shape_Word p0.Mode r29_4 hr29_4) (fun a w => Try.call15 a w) rfl trivial) ?_
   obtain ⟨t30_4, ht30_4, hm⟩ := bnd hm; obtain ⟨ht30_4e, ht30_4l⟩ := app_some ht30_4
   refine Wz (.s t30_4) (op_bin rfl (a1 := .string (toS t26_4)) (a2 := .string (toS r29_4)) (by kernel_rfl) (by kernel_rfl) (fun _ => hb_sadd ht30_4e ht30_4l)) <| Wm (.s t30_4) rfl <| Nn <| Rt ?_
   obtain rfl := Option.some.inj hm
   exact ret_i []
  refine Sq <| Sx <| Wz (.loc 0 2) (Ofa rfl) <| Wz (.s p0.By) (Old rfl) <| Wz (.b (decide (p0.By ≠ ([] : List UInt8)))) (Ocs (lit_tf (by simp only [toS_inj, ne_eq])) (op_bin rfl (a1 := .string (toS p0.By)) (a2 := .string (toS ([] : List UInt8))) (by kernel_rfl) (by kernel_rfl) (fun _ => hb_sneq))) <| Nk 524322 1 ⟨tp 1 (.loc 0 0::tp 3 (.s t16_1::tp 13 (.b (decide (p0.By ≠ ([] : List UInt8)))::tp 11 []))), [(.box [(.l enc_GNode p0.Body), (.i p0.Within), (.s p0.By), (.y p0.Mode)]), .gone, .gone], 0⟩ ?_
  rcases tf_ (decide (p0.By ≠ ([] : List UInt8))) with hc19_6 | hc19_6
  ·
   replace hm := cT hc19_6 hm
   refine AiT hc19_6 <| Tx <| Wm (.s t16_1) rfl <| Wz (.loc 0 2) (Ofa rfl) <| Wz (.s p0.By) (Old rfl) ?_
   obtain ⟨t23_2, ht23_2, hm⟩ := bnd hm; obtain ⟨ht23_2e, ht23_2l⟩ := app_some ht23_2
   refine Wz (.s t23_2) (op_bin rfl (a1 := .string (toS ([32, 98, 121, 32] : List UInt8))) (a2 := .string (toS p0.By)) (by kernel_rfl) (by kernel_rfl) (fun _ => hb_sadd ht23_2e ht23_2l)) ?_
   obtain ⟨t24_2, ht24_2, hm⟩ := bnd hm; obtain ⟨ht24_2e, ht24_2l⟩ := app_some ht24_2
   refine Wz (.s t24_2) (op_bin rfl (a1 := .string (toS t16_1)) (a2 := .string (toS t23_2)) (by kernel_rfl) (by kernel_rfl) (fun _ => hb_sadd ht24_2e ht24_2l)) <| Wm (.s t24_2) rfl <| Nn ?_
   exact AWP.weak (Weak.toK 34 0 0 [0]) (J3 (t24_2) hm)
  ·
   replace hm := cF hc19_6 hm
   refine AiF hc19_6 <| Sk <| Tn ?_
   exact AWP.weak (Weak.toK 34 0 0 [0]) (J3 (t16_1) hm)

theorem ok_shape_Size (p0 : (List GNode)) (p1 : Int) (r : Int) (h : m_shape_Size p0 p1 = some r) : GCall Try.prog 9 [(.l enc_GNode p0), (.i p1)] [] (.i r) [] := by
 refine GCall.of_body (n := 35) (rs := [(.tmp 4)]) Try.func9 rfl rfl rfl <| Ato ⟨.l enc_GNode p0::.i p1::tu 33 [], [], 0⟩ ?_
 have hm := h
 unfold m_shape_Size at hm
 refine Sx <| Wm (.i 0) rfl <| Nk 3 0 ⟨.l enc_GNode p0::.i p1::tp 33 [], [], 0⟩ <| Sq <| Sx <| Wm (.i p1) rfl <| Wz (.b (decide (p1 < 0))) (Obn rfl (fun _ => hb_lss (k := .i64))) ?_
 rcases tf_ (decide (p1 < 0)) with hq10_0 | hq10_0
 ·
  replace hm := cT hq10_0 hm
  refine Wz (.b true) (Oq hq10_0 rfl) <| Wn <| Wn <| Wn <| Wn <| Wz (.b true) (OpT rfl) <| Nk 32771 0 ⟨.l enc_GNode p0::.i p1::tp 13 (.b true::tp 19 []), [], 0⟩ <| AWP.if_ true (by kernel_rfl) <| Sx <| Wm (.i 0) rfl <| Nn <| Rt <| Tr ?_
  obtain rfl := Option.some.inj hm
  exact ret_i []
 ·
  replace hm := cF hq10_0 hm
  refine Wz (.b false) (Oq hq10_0 rfl) <| Wm (.i p1) rfl <| Wm (.l enc_GNode p0) rfl <| Wz (.i ((List.length p0 : Nat) : Int)) (Oln rfl) <| Wz (.b (decide (((List.length p0 : Nat) : Int) ≤ p1))) (Obn rfl (fun _ => hb_geq (k := .i64))) <| Wz (.b (decide (((List.length p0 : Nat) : Int) ≤ p1))) (OpF rfl) <| Nk 32771 0 ⟨.l enc_GNode p0::.i p1::tp 13 (.b (decide (((List.length p0 : Nat) : Int) ≤ p1))::tp 19 []), [], 0⟩ ?_
  rcases tf_ (decide (((List.length p0 : Nat) : Int) ≤ p1)) with hc15_5 | hc15_5
  ·
   replace hm := cT hc15_5 hm
   refine AiT hc15_5 <| Sx <| Wm (.i 0) rfl <| Nn <| Rt <| Tr ?_
   obtain rfl := Option.some.inj hm
   exact ret_i []
  ·
   replace hm := cF hc15_5 hm
   refine AiF hc15_5 <| Sk <| Tk 3 0 ⟨.l enc_GNode p0::.i p1::tp 33 [], [], 0⟩ <| Sx <| Wm (.i 1) rfl <| Nk 35 0 ⟨.l enc_GNode p0::.i p1::tp 3 (.i 1::tp 29 []), [], 0⟩ <| Sq <| Sx <| Wm (.l enc_GNode p0) rfl <| Wm (.i p1) rfl ?_
   obtain ⟨s18_1, hs18_1, hm⟩ := bnd hm; obtain ⟨hs18_1a, hs18_1b, hs18_1c, hs18_1d, hs18_1e⟩ := cut_some hs18_1
   refine Wz (.l enc_GNode s18_1) (op_cut rfl (e := 44) (sz := 7) (by kernel_rfl) (l := p0) (enc := enc_GNode) (by kernel_rfl) enc_GNode_len (a := (Int.toNat p1)) (b := (Int.toNat ((List.length p0 : Nat) : Int))) (⟨.i64, p1, by kernel_rfl, hs18_1a⟩) (by exact rfl) hs18_1c hs18_1d hs18_1e) <| Wz (.i ((List.length s18_1 : Nat) : Int)) (Oln rfl) <| Wm (.i 0) rfl <| Nk 1835040 0 ⟨tp 5 (.i 1::tp 12 (.l enc_GNode s18_1::.i ((List.length s18_1 : Nat) : Int)::.i 0::tp 14 [])), [], 0⟩ <| Bk ?_
   refine AWP.loopI (α := Nat × Int × Int)
     (fun (fu_2, y5_2, y20_2) => (⟨tp 5 (.i y5_2::tp 12 (.l enc_GNode s18_1::.i ((List.length s18_1 : Nat) : Int)::.i y20_2::tp 14 [])), [], 0⟩ : St))
     (fun (fu_2, y5_2, y20_2) => m_shape_Size_l2 s18_1 fu_2 y5_2 y20_2 = some r)
     (fun (fu_2, y5_2, y20_2) => fu_2) (1152921504606846976, 1, 0)
     (Weak.toK 1835040 0 0 []) hm ?_
   rintro ⟨fu_2, y5_2, y20_2⟩ n_2 hm ih_2
   try dsimp only at hm ih_2 ⊢
   cases fu_2 with
   | zero => exact absurd hm (by unfold m_shape_Size_l2; simp)
   | succ fu_2 =>
    unfold m_shape_Size_l2 at hm
    refine Sx <| Wz (.b (decide (y20_2 < ((List.length s18_1 : Nat) : Int)))) (Obn rfl (fun _ => hb_lss (k := .i64))) <| Nk 3932192 0 ⟨tp 5 (.i y5_2::tp 12 (.l enc_GNode s18_1::.i ((List.length s18_1 : Nat) : Int)::.i y20_2::.b (decide (y20_2 < ((List.length s18_1 : Nat) : Int)))::tp 13 [])), [], 0⟩ <| Sq ?_
    rcases tf_ (decide (y20_2 < ((List.length s18_1 : Nat) : Int))) with hc21_6 | hc21_6
    ·
     replace hm := cT hc21_6 hm
     refine AiT hc21_6 <| Sk <| Tk 1835040 0 ⟨tp 5 (.i y5_2::tp 12 (.l enc_GNode s18_1::.i ((List.length s18_1 : Nat) : Int)::.i y20_2::tp 14 [])), [], 0⟩ <| Sq <| Bk <| Sx <| Wm (.i y20_2) rfl ?_
     obtain ⟨x23_3, hx23_3, hm⟩ := bnd hm
     obtain ⟨hx23_3i, hx23_3g⟩ := geti_some hx23_3
     refine Wz (.d (.ref (List.drop ((Int.toNat y20_2) * 7) (flatD enc_GNode s18_1)))) (Oia rfl enc_GNode_len hx23_3i hx23_3g) <| Wz (.agg [(.y x23_3.Kind), (.i x23_3.Kids), (.i x23_3.Lo), (.i x23_3.Hi), (.s x23_3.Var), (.s x23_3.Type_), (.l enc_GNode_ x23_3.Test)]) (Lf rfl enc_GNode_len hx23_3g) <| Wy (.loc 0 0) [(0, (.box [(.y 0), (.i 0), (.i 0), (.i 0), (.s ([] : List UInt8)), (.s ([] : List UInt8)), (.d .nil)]))] (Oal rfl) <| Wm (.i y20_2) rfl <| Wy (.tup []) [(0, (.box [(.y x23_3.Kind), (.i x23_3.Kids), (.i x23_3.Lo), (.i x23_3.Hi), (.s x23_3.Var), (.s x23_3.Type_), (.l enc_GNode_ x23_3.Test)]))] (Ost rfl) <| Nk 1835232 1 ⟨tp 5 (.i y5_2::.i y20_2::.loc 0 0::tp 10 (.l enc_GNode s18_1::.i ((List.length s18_1 : Nat) : Int)::.i y20_2::tp 14 [])), [(.box [(.y x23_3.Kind), (.i x23_3.Kids), (.i x23_3.Lo), (.i x23_3.Hi), (.s x23_3.Var), (.s x23_3.Type_), (.l enc_GNode_ x23_3.Test)])], 0⟩ <| Sx <| Wm (.i y5_2) rfl <| Wz (.agg [(.y x23_3.Kind), (.i x23_3.Kids), (.i x23_3.Lo), (.i x23_3.Hi), (.s x23_3.Var), (.s x23_3.Type_), (.l enc_GNode_ x23_3.Test)]) (Old rfl) ?_
     obtain ⟨r27_4, hr27_4, hm⟩ := bnd hm
     refine Wz (.i r27_4) (Ocf [] [] [] 0 (ok_shape_Node_kids x23_3 r27_4 hr27_4) (fun a w => Try.call23 a w) rfl trivial) <| Wz (.i (W6 (r27_4 - 1))) (Obn rfl (fun _ => hb_sub (k := .i64))) <| Wz (.i (W6 (y5_2 + (W6 (r27_4 - 1))))) (Obn rfl (fun _ => hb_add (k := .i64))) <| Wm (.i (W6 (y5_2 + (W6 (r27_4 - 1))))) rfl <| Nk 1835104 0 ⟨tp 5 (.i (W6 (y5_2 + (W6 (r27_4 - 1))))::.i y20_2::tp 11 (.l enc_GNode s18_1::.i ((List.length s18_1 : Nat) : Int)::.i y20_2::tp 14 [])), [.gone], 0⟩ <| Sx <| Wm (.i (W6 (y5_2 + (W6 (r27_4 - 1))))) rfl <| Wz (.b (decide ((W6 (y5_2 + (W6 (r27_4 - 1)))) = 0))) (Obn rfl (fun _ => hb_eql (k := .i64))) <| Nk 2149318752 0 ⟨tp 5 (.i (W6 (y5_2 + (W6 (r27_4 - 1))))::.i y20_2::tp 11 (.l enc_GNode s18_1::.i ((List.length s18_1 : Nat) : Int)::.i y20_2::tp 10 (.b (decide ((W6 (y5_2 + (W6 (r27_4 - 1)))) = 0))::tp 3 []))), [.gone], 0⟩ ?_
     rcases tf_ (decide ((W6 (y5_2 + (W6 (r27_4 - 1)))) = 0)) with hc31_7 | hc31_7
     ·
      replace hm := cT hc31_7 hm
      refine AiT hc31_7 <| Sx <| Wm (.i y20_2) rfl <| Wz (.i (W6 (y20_2 + 1))) (Obn rfl (fun _ => hb_add (k := .i64))) <| Wm (.i (W6 (y20_2 + 1))) rfl <| Nn <| Rt <| Ir <| Tr <| RoundK.ret <| Ir <| Tr ?_
      obtain rfl := Option.some.inj hm
      exact ret_i []
     ·
      replace hm := cF hc31_7 hm
      refine AiF hc31_7 <| Sk <| Ino <| Tk 1835040 0 ⟨tp 5 (.i (W6 (y5_2 + (W6 (r27_4 - 1))))::tp 12 (.l enc_GNode s18_1::.i ((List.length s18_1 : Nat) : Int)::.i y20_2::tp 14 [])), [.gone], 0⟩ <| Tx <| Wz (.i (W6 (y20_2 + 1))) (Obn rfl (fun _ => hb_add (k := .i64))) <| Wm (.i (W6 (y20_2 + 1))) rfl <| Wn0 <| RoundK.normal ?_
      exact Rounds.weak (Weak.toK 1835040 0 0 []) (ih_2 (fu_2, (W6 (y5_2 + (W6 (r27_4 - 1)))), (W6 (y20_2 + 1))) hm (Nat.lt_succ_self _))
    ·
     replace hm := cF hc21_6 hm
     refine AiF hc21_6 <| AWP.exit <| Then.exit <| RoundK.exit <| InBlock.same <| Tk 0 0 ⟨tp 35 [], [], 0⟩ <| Sx <| Wm (.i 0) rfl <| Nn <| Rt ?_
     obtain rfl := Option.some.inj hm
     exact ret_i []

theorem ok_slices_Equal_Node (p0 : (List GNode_)) (p1 : (List GNode_)) (r : Bool) (h : m_slices_Equal_Node p0 p1 = some r) : GCall Try.prog 68 [(.l enc_GNode_ p0), (.l enc_GNode_ p1)] [] (.b r) [] := by
 refine GCall.of_body (n := 26) (rs := [(.tmp 4)]) Try.func68 rfl rfl rfl <| Ato ⟨.l enc_GNode_ p0::.l enc_GNode_ p1::tu 24 [], [], 0⟩ ?_
 have hm := h
 unfold m_slices_Equal_Node at hm
 refine Sx <| Wm (.b false) rfl <| Nk 3 0 ⟨.l enc_GNode_ p0::.l enc_GNode_ p1::tp 24 [], [], 0⟩ <| Sq <| Sx <| Wm (.l enc_GNode_ p0) rfl <| Wz (.i ((List.length p0 : Nat) : Int)) (Oln rfl) <| Wm (.l enc_GNode_ p1) rfl <| Wz (.i ((List.length p1 : Nat) : Int)) (Oln rfl) <| Wz (.b (decide (((List.length p0 : Nat) : Int) ≠ ((List.length p1 : Nat) : Int)))) (Obn rfl (fun _ => hb_neq (k := .i64))) <| Nk 1027 0 ⟨.l enc_GNode_ p0::.l enc_GNode_ p1::tp 8 (.b (decide (((List.length p0 : Nat) : Int) ≠ ((List.length p1 : Nat) : Int)))::tp 15 []), [], 0⟩ ?_
 rcases tf_ (decide (((List.length p0 : Nat) : Int) ≠ ((List.length p1 : Nat) : Int))) with hc10_4 | hc10_4
 ·
  replace hm := cT hc10_4 hm
  refine AiT hc10_4 <| Sx <| Wm (.b false) rfl <| Nn <| Rt <| Tr ?_
  obtain rfl := Option.some.inj hm
  exact ret_i []
 ·
  replace hm := cF hc10_4 hm
  refine AiF hc10_4 <| Sk <| Tk 3 0 ⟨.l enc_GNode_ p0::.l enc_GNode_ p1::tp 24 [], [], 0⟩ <| Sq <| Sx <| Wm (.l enc_GNode_ p0) rfl <| Wz (.i ((List.length p0 : Nat) : Int)) (Oln rfl) <| Wm (.i 0) rfl <| Nk 12291 0 ⟨.l enc_GNode_ p0::.l enc_GNode_ p1::tp 10 (.i ((List.length p0 : Nat) : Int)::.i 0::tp 12 []), [], 0⟩ <| Bk ?_
  refine AWP.loopI (α := Nat × Int)
    (fun (fu_2, y13_2) => (⟨.l enc_GNode_ p0::.l enc_GNode_ p1::tp 10 (.i ((List.length p0 : Nat) : Int)::.i y13_2::tp 12 []), [], 0⟩ : St))
    (fun (fu_2, y13_2) => m_slices_Equal_Node_l2 p0 p1 fu_2 y13_2 = some r)
    (fun (fu_2, y13_2) => fu_2) (1152921504606846976, 0)
    (Weak.toK 12291 0 0 []) hm ?_
  rintro ⟨fu_2, y13_2⟩ n_2 hm ih_2
  try dsimp only at hm ih_2 ⊢
  cases fu_2 with
  | zero => exact absurd hm (by unfold m_slices_Equal_Node_l2; simp)
  | succ fu_2 =>
   unfold m_slices_Equal_Node_l2 at hm
   refine Sx <| Wz (.b (decide (y13_2 < ((List.length p0 : Nat) : Int)))) (Obn rfl (fun _ => hb_lss (k := .i64))) <| Nk 28675 0 ⟨.l enc_GNode_ p0::.l enc_GNode_ p1::tp 10 (.i ((List.length p0 : Nat) : Int)::.i y13_2::.b (decide (y13_2 < ((List.length p0 : Nat) : Int)))::tp 11 []), [], 0⟩ <| Sq ?_
   rcases tf_ (decide (y13_2 < ((List.length p0 : Nat) : Int))) with hc14_5 | hc14_5
   ·
    replace hm := cT hc14_5 hm
    refine AiT hc14_5 <| Sk <| Tk 12291 0 ⟨.l enc_GNode_ p0::.l enc_GNode_ p1::tp 10 (.i ((List.length p0 : Nat) : Int)::.i y13_2::tp 12 []), [], 0⟩ <| Sq <| Bk <| Sx <| Wm (.i y13_2) rfl <| Wm (.i y13_2) rfl <| Nk 12323 0 ⟨.l enc_GNode_ p0::.l enc_GNode_ p1::tp 3 (.i y13_2::tp 6 (.i ((List.length p0 : Nat) : Int)::.i y13_2::tp 12 [])), [], 0⟩ <| Sq <| Adr <| Wm (.l enc_GNode_ p0) rfl <| Wm (.i y13_2) rfl ?_
    obtain ⟨x18_3, hx18_3, hm⟩ := bnd hm
    obtain ⟨hx18_3i, hx18_3g⟩ := geti_some hx18_3
    refine Wz (.d (.ref (List.drop ((Int.toNat y13_2) * 8) (flatD enc_GNode_ p0)))) (Oia rfl enc_GNode__len hx18_3i hx18_3g) <| Wz (.agg [(.y x18_3.Kind), (.y x18_3.Op), (.s x18_3.Var), (.s x18_3.Name), (.y x18_3.Val.Kind), (.i x18_3.Val.N), (.u x18_3.Val.Bits), (.s x18_3.Val.Text)]) (Lf rfl enc_GNode__len hx18_3g) <| Wm (.l enc_GNode_ p1) rfl <| Wm (.i y13_2) rfl ?_
    obtain ⟨x22_3, hx22_3, hm⟩ := bnd hm
    obtain ⟨hx22_3i, hx22_3g⟩ := geti_some hx22_3
    refine Wz (.d (.ref (List.drop ((Int.toNat y13_2) * 8) (flatD enc_GNode_ p1)))) (Oia rfl enc_GNode__len hx22_3i hx22_3g) <| Wz (.agg [(.y x22_3.Kind), (.y x22_3.Op), (.s x22_3.Var), (.s x22_3.Name), (.y x22_3.Val.Kind), (.i x22_3.Val.N), (.u x22_3.Val.Bits), (.s x22_3.Val.Text)]) (Lf rfl enc_GNode__len hx22_3g) ?_
    obtain ⟨v24_3, hv24_3, hm⟩ := bnd hm; replace hv24_3 := Option.some.inj hv24_3
    refine Wz (.b v24_3) (Ocs (Eq.trans (lit_tf (by simp only [toS_inj])) (congrArg (fun z => A.d (.lit (.bool z))) hv24_3)) (op_neq_deep rfl (la := [(.y x18_3.Kind), (.y x18_3.Op), (.s x18_3.Var), (.s x18_3.Name), (.y x18_3.Val.Kind), (.i x18_3.Val.N), (.u x18_3.Val.Bits), (.s x18_3.Val.Text)]) (lb := [(.y x22_3.Kind), (.y x22_3.Op), (.s x22_3.Var), (.s x22_3.Name), (.y x22_3.Val.Kind), (.i x22_3.Val.N), (.u x22_3.Val.Bits), (.s x22_3.Val.Text)]) (us := [.int .u8 ((x18_3.Kind.toNat : Nat) : Int), .int .u8 ((x18_3.Op.toNat : Nat) : Int), .string (toS x18_3.Var), .string (toS x18_3.Name), .int .u8 ((x18_3.Val.Kind.toNat : Nat) : Int), .int .i64 x18_3.Val.N, .int .u64 x18_3.Val.Bits, .string (toS x18_3.Val.Text)]) (vs := [.int .u8 ((x22_3.Kind.toNat : Nat) : Int), .int .u8 ((x22_3.Op.toNat : Nat) : Int), .string (toS x22_3.Var), .string (toS x22_3.Name), .int .u8 ((x22_3.Val.Kind.toNat : Nat) : Int), .int .i64 x22_3.Val.N, .int .u64 x22_3.Val.Bits, .string (toS x22_3.Val.Text)]) (r := (decide (((x18_3.Kind.toNat : Nat) : Int) = ((x22_3.Kind.toNat : Nat) : Int)) && (decide (((x18_3.Op.toNat : Nat) : Int) = ((x22_3.Op.toNat : Nat) : Int)) && (decide ((toS x18_3.Var) = (toS x22_3.Var)) && (decide ((toS x18_3.Name) = (toS x22_3.Name)) && ((decide (((x18_3.Val.Kind.toNat : Nat) : Int) = ((x22_3.Val.Kind.toNat : Nat) : Int)) && (decide (x18_3.Val.N = x22_3.Val.N) && (decide (x18_3.Val.Bits = x22_3.Val.Bits) && (decide ((toS x18_3.Val.Text) = (toS x22_3.Val.Text)) && true)))) && true)))))) (by kernel_rfl) (by kernel_rfl) (by kernel_rfl) (by kernel_rfl) (by kernel_rfl) (by kernel_rfl))) <| Wdr <| Tk 16789507 0 ⟨.l enc_GNode_ p0::.l enc_GNode_ p1::tp 10 (.i ((List.length p0 : Nat) : Int)::.i y13_2::tp 10 (.b v24_3::tp 1 [])), [], 0⟩ ?_
    rcases tf_ v24_3 with hc24_6 | hc24_6
    ·
     replace hm := cT hc24_6 hm
     refine AiT hc24_6 <| Sx <| Wm (.b false) rfl <| Nn <| Rt <| Ir <| Tr <| RoundK.ret <| Ir <| Tr ?_
     obtain rfl := Option.some.inj hm
     exact ret_i []
    ·
     replace hm := cF hc24_6 hm
     refine AiF hc24_6 <| Sk <| Ino <| Tk 12291 0 ⟨.l enc_GNode_ p0::.l enc_GNode_ p1::tp 10 (.i ((List.length p0 : Nat) : Int)::.i y13_2::tp 12 []), [], 0⟩ <| Tx <| Wz (.i (W6 (y13_2 + 1))) (Obn rfl (fun _ => hb_add (k := .i64))) <| Wm (.i (W6 (y13_2 + 1))) rfl <| Wn0 <| RoundK.normal ?_
     exact Rounds.weak (Weak.toK 12291 0 0 []) (ih_2 (fu_2, (W6 (y13_2 + 1))) hm (Nat.lt_succ_self _))
   ·
    replace hm := cF hc14_5 hm
    refine AiF hc14_5 <| AWP.exit <| Then.exit <| RoundK.exit <| InBlock.same <| Tk 0 0 ⟨tp 26 [], [], 0⟩ <| Sx <| Wm (.b true) rfl <| Nn <| Rt ?_
    obtain rfl := Option.some.inj hm
    exact ret_i []

theorem ok_pred_Same (p0 : (List GNode_)) (p1 : (List GNode_)) (r : Bool) (h : m_pred_Same p0 p1 = some r) : GCall Try.prog 56 [(.l enc_GNode_ p0), (.l enc_GNode_ p1)] [] (.b r) [] := by
 refine GCall.of_body (n := 8) (rs := [(.tmp 4)]) Try.func56 rfl rfl rfl <| Ato ⟨.l enc_GNode_ p0::.l enc_GNode_ p1::tu 6 [], [], 0⟩ ?_
 have hm := h
 unfold m_pred_Same at hm
 refine Sx <| Wm (.b false) rfl <| Nk 3 0 ⟨.l enc_GNode_ p0::.l enc_GNode_ p1::tp 6 [], [], 0⟩ <| Sx <| Wm (.l enc_GNode_ p0) rfl <| Wm (.l enc_GNode_ p1) rfl ?_
 obtain ⟨r7_0, hr7_0, hm⟩ := bnd hm
 refine Wz (.b r7_0) (Ocf [] [] [] 0 (ok_slices_Equal_Node p0 p1 r7_0 hr7_0) (fun a w => Try.call68 a w) rfl trivial) <| Wm (.b r7_0) rfl <| Nn <| Rt ?_
 obtain rfl := Option.some.inj hm
 exact ret_i []

theorem ok_shape_same (p0 : GNode) (p1 : GNode) (r : Bool) (h : m_shape_same p0 p1 = some r) : GCall Try.prog 37 [(.agg [(.y p0.Kind), (.i p0.Kids), (.i p0.Lo), (.i p0.Hi), (.s p0.Var), (.s p0.Type_), (.l enc_GNode_ p0.Test)]), (.agg [(.y p1.Kind), (.i p1.Kids), (.i p1.Lo), (.i p1.Hi), (.s p1.Var), (.s p1.Type_), (.l enc_GNode_ p1.Test)])] [] (.b r) [] := by
 refine GCall.of_body (n := 54) (rs := [(.tmp 4)]) Try.func37 rfl rfl rfl <| Ato ⟨.agg [(.y p0.Kind), (.i p0.Kids), (.i p0.Lo), (.i p0.Hi), (.s p0.Var), (.s p0.Type_), (.l enc_GNode_ p0.Test)]::.agg [(.y p1.Kind), (.i p1.Kids), (.i p1.Lo), (.i p1.Hi), (.s p1.Var), (.s p1.Type_), (.l enc_GNode_ p1.Test)]::tu 52 [], [], 0⟩ ?_
 have hm := h
 unfold m_shape_same at hm
 refine Sx <| Wy (.loc 0 0) [(0, (.box [(.y p0.Kind), (.i p0.Kids), (.i p0.Lo), (.i p0.Hi), (.s p0.Var), (.s p0.Type_), (.l enc_GNode_ p0.Test)]))] (Obx rfl) <| Wy (.loc 1 0) [(1, (.box [(.y p1.Kind), (.i p1.Kids), (.i p1.Lo), (.i p1.Hi), (.s p1.Var), (.s p1.Type_), (.l enc_GNode_ p1.Test)]))] (Obx rfl) <| Wm (.b false) rfl <| Nk 12 3 ⟨tp 2 (.loc 0 0::.loc 1 0::tp 50 []), [(.box [(.y p0.Kind), (.i p0.Kids), (.i p0.Lo), (.i p0.Hi), (.s p0.Var), (.s p0.Type_), (.l enc_GNode_ p0.Test)]), (.box [(.y p1.Kind), (.i p1.Kids), (.i p1.Lo), (.i p1.Hi), (.s p1.Var), (.s p1.Type_), (.l enc_GNode_ p1.Test)])], 0⟩ ?_
 refine AWP.cutJ (α := Unit) (fun x => match x with | () => (⟨tp 2 (.loc 0 0::.loc 1 0::tp 1 (.b false::tp 48 [])), [(.box [(.y p0.Kind), (.i p0.Kids), (.i p0.Lo), (.i p0.Hi), (.s p0.Var), (.s p0.Type_), (.l enc_GNode_ p0.Test)]), (.box [(.y p1.Kind), (.i p1.Kids), (.i p1.Lo), (.i p1.Hi), (.s p1.Var), (.s p1.Type_), (.l enc_GNode_ p1.Test)])], 0⟩ : St)) (fun x => match x with | () => m_shape_same_j1  = some r) ?_ (fun J1 => ?_)
 ·
  rintro ⟨⟩ hm
  try dsimp only at hm ⊢
  unfold m_shape_same_j1 at hm
  refine Sx <| Wm (.b false) rfl <| Wm (.b false) rfl <| Wn <| Wn <| Wn <| Wn <| Wn <| Wz (.b false) (OpF rfl) <| Wm (.b false) rfl <| Wn <| Wn <| Wn <| Wn ?_
  refine Wn <| Wz (.b false) (OpF rfl) <| Wm (.b false) rfl <| Wn <| Wn <| Wn <| Wn <| Wn <| Wz (.b false) (OpF rfl) <| Wm (.b false) rfl <| Nn <| Rt ?_
  obtain rfl := Option.some.inj hm
  exact ret_i []
 refine Sx <| Wz (.loc 0 0) (Ofa rfl) <| Wz (.y p0.Kind) (Old rfl) <| Wz (.loc 1 0) (Ofa rfl) <| Wz (.y p1.Kind) (Old rfl) <| Wz (.b (decide (((p0.Kind.toNat : Nat) : Int) = ((p1.Kind.toNat : Nat) : Int)))) (Ob2 (.int .u8 ((p0.Kind.toNat : Nat) : Int)) (.int .u8 ((p1.Kind.toNat : Nat) : Int)) rfl (fun _ => hb_eql)) ?_
 rcases tf_ (decide (((p0.Kind.toNat : Nat) : Int) = ((p1.Kind.toNat : Nat) : Int))) with hq11_0 | hq11_0
 ·
  replace hm := cT hq11_0 hm
  refine Wz (.b true) (Oq hq11_0 rfl) <| Wz (.loc 0 1) (Ofa rfl) <| Wz (.i p0.Kids) (Old rfl) <| Wz (.loc 1 1) (Ofa rfl) <| Wz (.i p1.Kids) (Old rfl) <| Wz (.b (decide (p0.Kids = p1.Kids))) (Obn rfl (fun _ => hb_eql (k := .i64))) <| Wz (.b (decide (p0.Kids = p1.Kids))) (OpT rfl) ?_
  rcases tf_ (decide (p0.Kids = p1.Kids)) with hq18_0 | hq18_0
  ·
   replace hm := cT hq18_0 hm
   refine Wz (.b true) (Oq hq18_0 rfl) <| Wz (.loc 0 2) (Ofa rfl) <| Wz (.i p0.Lo) (Old rfl) <| Wz (.loc 1 2) (Ofa rfl) <| Wz (.i p1.Lo) (Old rfl) <| Wz (.b (decide (p0.Lo = p1.Lo))) (Obn rfl (fun _ => hb_eql (k := .i64))) <| Wz (.b (decide (p0.Lo = p1.Lo))) (OpT rfl) ?_
   rcases tf_ (decide (p0.Lo = p1.Lo)) with hq25_0 | hq25_0
   ·
    replace hm := cT hq25_0 hm
    refine Wz (.b true) (Oq hq25_0 rfl) <| Wz (.loc 0 3) (Ofa rfl) <| Wz (.i p0.Hi) (Old rfl) <| Wz (.loc 1 3) (Ofa rfl) <| Wz (.i p1.Hi) (Old rfl) <| Wz (.b (decide (p0.Hi = p1.Hi))) (Obn rfl (fun _ => hb_eql (k := .i64))) <| Wz (.b (decide (p0.Hi = p1.Hi))) (OpT rfl) <| Wm (.b (decide (p0.Hi = p1.Hi))) rfl <| Nk 44 3 ⟨tp 2 (.loc 0 0::.loc 1 0::tp 1 (.b (decide (p0.Hi = p1.Hi))::tp 48 [])), [(.box [(.y p0.Kind), (.i p0.Kids), (.i p0.Lo), (.i p0.Hi), (.s p0.Var), (.s p0.Type_), (.l enc_GNode_ p0.Test)]), (.box [(.y p1.Kind), (.i p1.Kids), (.i p1.Lo), (.i p1.Hi), (.s p1.Var), (.s p1.Type_), (.l enc_GNode_ p1.Test)])], 0⟩ <| Sx <| Wm (.b (decide (p0.Hi = p1.Hi))) rfl ?_
    rcases tf_ (decide (p0.Hi = p1.Hi)) with hq33_2 | hq33_2
    ·
     replace hm := cT hq33_2 hm
     refine Wz (.b true) (Oq hq33_2 rfl) <| Wz (.loc 0 4) (Ofa rfl) <| Wz (.s p0.Var) (Old rfl) <| Wz (.loc 1 4) (Ofa rfl) <| Wz (.s p1.Var) (Old rfl) <| Wz (.b (decide (p0.Var = p1.Var))) (Ocs (lit_tf (by simp only [toS_inj, ne_eq])) (op_bin rfl (a1 := .string (toS p0.Var)) (a2 := .string (toS p1.Var)) (by kernel_rfl) (by kernel_rfl) (fun _ => hb_seql))) <| Wz (.b (decide (p0.Var = p1.Var))) (OpT rfl) ?_
     rcases tf_ (decide (p0.Var = p1.Var)) with hq40_2 | hq40_2
     ·
      replace hm := cT hq40_2 hm
      refine Wz (.b true) (Oq hq40_2 rfl) <| Wz (.loc 0 5) (Ofa rfl) <| Wz (.s p0.Type_) (Old rfl) <| Wz (.loc 1 5) (Ofa rfl) <| Wz (.s p1.Type_) (Old rfl) <| Wz (.b (decide (p0.Type_ = p1.Type_))) (Ocs (lit_tf (by simp only [toS_inj, ne_eq])) (op_bin rfl (a1 := .string (toS p0.Type_)) (a2 := .string (toS p1.Type_)) (by kernel_rfl) (by kernel_rfl) (fun _ => hb_seql))) <| Wz (.b (decide (p0.Type_ = p1.Type_))) (OpT rfl) ?_
      rcases tf_ (decide (p0.Type_ = p1.Type_)) with hq47_2 | hq47_2
      ·
       replace hm := cT hq47_2 hm
       refine Wz (.b true) (Oq hq47_2 rfl) <| Wz (.loc 0 6) (Ofa rfl) <| Wz (.l enc_GNode_ p0.Test) (Old rfl) <| Wz (.loc 1 6) (Ofa rfl) <| Wz (.l enc_GNode_ p1.Test) (Old rfl) ?_
       obtain ⟨r52_2, hr52_2, hm⟩ := bnd hm
       refine Wz (.b r52_2) (Ocf [] [] [] 0 (ok_pred_Same p0.Test p1.Test r52_2 hr52_2) (fun a w => Try.call56 a w) rfl trivial) <| Wz (.b r52_2) (OpT rfl) <| Wm (.b r52_2) rfl <| Nn <| Rt ?_
       obtain rfl := Option.some.inj hm
       exact ret_i []
      ·
       replace hm := cF hq47_2 hm
       refine Wz (.b false) (Oq hq47_2 rfl) <| Wn <| Wn <| Wn <| Wn <| Wn <| Wz (.b false) (OpF rfl) <| Wm (.b false) rfl <| Nn <| Rt ?_
       obtain rfl := Option.some.inj hm
       exact ret_i []
     ·
      replace hm := cF hq40_2 hm
      refine Wz (.b false) (Oq hq40_2 rfl) <| Wn <| Wn <| Wn <| Wn <| Wn <| Wz (.b false) (OpF rfl) <| Wm (.b false) rfl <| Wn <| Wn <| Wn <| Wn <| Wn <| Wz (.b false) (OpF rfl) ?_
      refine Wm (.b false) rfl <| Nn <| Rt ?_
      obtain rfl := Option.some.inj hm
      exact ret_i []
    ·
     replace hm := cF hq33_2 hm
     refine Wz (.b false) (Oq hq33_2 rfl) <| Wn <| Wn <| Wn <| Wn <| Wn <| Wz (.b false) (OpF rfl) <| Wm (.b false) rfl <| Wn <| Wn <| Wn <| Wn <| Wn <| Wz (.b false) (OpF rfl) ?_
     refine Wm (.b false) rfl <| Wn <| Wn <| Wn <| Wn <| Wn <| Wz (.b false) (OpF rfl) <| Wm (.b false) rfl <| Nn <| Rt ?_
     obtain rfl := Option.some.inj hm
     exact ret_i []
   ·
    replace hm := cF hq25_0 hm
    refine Wz (.b false) (Oq hq25_0 rfl) <| Wn <| Wn <| Wn <| Wn <| Wn <| Wz (.b false) (OpF rfl) <| Wm (.b false) rfl <| Nn ?_
    exact AWP.weak (Weak.toK 44 0 0 [0, 1]) (J1 () hm)
  ·
   replace hm := cF hq18_0 hm
   refine Wz (.b false) (Oq hq18_0 rfl) <| Wn <| Wn <| Wn <| Wn <| Wn <| Wz (.b false) (OpF rfl) <| Wm (.b false) rfl <| Wn <| Wn <| Wn <| Wn <| Wn <| Wz (.b false) (OpF rfl) ?_
   refine Wm (.b false) rfl <| Nn ?_
   exact AWP.weak (Weak.toK 44 0 0 [0, 1]) (J1 () hm)
 ·
  replace hm := cF hq11_0 hm
  refine Wz (.b false) (Oq hq11_0 rfl) <| Wn <| Wn <| Wn <| Wn <| Wn <| Wz (.b false) (OpF rfl) <| Wm (.b false) rfl <| Wn <| Wn <| Wn <| Wn <| Wn <| Wz (.b false) (OpF rfl) ?_
  refine Wm (.b false) rfl <| Wn <| Wn <| Wn <| Wn <| Wn <| Wz (.b false) (OpF rfl) <| Wm (.b false) rfl <| Nn ?_
  exact AWP.weak (Weak.toK 44 0 0 [0, 1]) (J1 () hm)

theorem ok_slices_EqualFunc_Nodeshape_Node_shape_Node_shape_Node__shape_same (p0 : (List GNode)) (p1 : (List GNode)) (r : Bool) (h : m_slices_EqualFunc_Nodeshape_Node_shape_Node_shape_Node__shape_same p0 p1 = some r) : GCall Try.prog 36 [(.l enc_GNode p0), (.l enc_GNode p1), (.clo (.func 37) [] [])] [] (.b r) [] := by
 refine GCall.of_body (n := 32) (rs := [(.tmp 6)]) Try.func36 rfl rfl rfl <| Ato ⟨.l enc_GNode p0::.l enc_GNode p1::.clo (.func 37) [] []::tu 29 [], [], 0⟩ ?_
 have hm := h
 unfold m_slices_EqualFunc_Nodeshape_Node_shape_Node_shape_Node__shape_same at hm
 refine Sx <| Wm (.b false) rfl <| Nk 7 0 ⟨.l enc_GNode p0::.l enc_GNode p1::.clo (.func 37) [] []::tp 29 [], [], 0⟩ <| Sq <| Sx <| Wm (.l enc_GNode p0) rfl <| Wz (.i ((List.length p0 : Nat) : Int)) (Oln rfl) <| Wm (.l enc_GNode p1) rfl <| Wz (.i ((List.length p1 : Nat) : Int)) (Oln rfl) <| Wz (.b (decide (((List.length p0 : Nat) : Int) ≠ ((List.length p1 : Nat) : Int)))) (Obn rfl (fun _ => hb_neq (k := .i64))) <| Nk 16391 0 ⟨.l enc_GNode p0::.l enc_GNode p1::.clo (.func 37) [] []::tp 11 (.b (decide (((List.length p0 : Nat) : Int) ≠ ((List.length p1 : Nat) : Int)))::tp 17 []), [], 0⟩ ?_
 rcases tf_ (decide (((List.length p0 : Nat) : Int) ≠ ((List.length p1 : Nat) : Int))) with hc14_6 | hc14_6
 ·
  replace hm := cT hc14_6 hm
  refine AiT hc14_6 <| Sx <| Wm (.b false) rfl <| Nn <| Rt <| Tr ?_
  obtain rfl := Option.some.inj hm
  exact ret_i []
 ·
  replace hm := cF hc14_6 hm
  refine AiF hc14_6 <| Sk <| Tk 7 0 ⟨.l enc_GNode p0::.l enc_GNode p1::.clo (.func 37) [] []::tp 29 [], [], 0⟩ <| Sq <| Sx <| Wm (.l enc_GNode p0) rfl <| Wz (.i ((List.length p0 : Nat) : Int)) (Oln rfl) <| Wm (.i 0) rfl <| Nk 229382 0 ⟨tp 1 (.l enc_GNode p1::.clo (.func 37) [] []::tp 12 (.l enc_GNode p0::.i ((List.length p0 : Nat) : Int)::.i 0::tp 14 [])), [], 0⟩ <| Bk ?_
  refine AWP.loopI (α := Nat × Int)
    (fun (fu_2, y17_2) => (⟨tp 1 (.l enc_GNode p1::.clo (.func 37) [] []::tp 12 (.l enc_GNode p0::.i ((List.length p0 : Nat) : Int)::.i y17_2::tp 14 [])), [], 0⟩ : St))
    (fun (fu_2, y17_2) => m_slices_EqualFunc_Nodeshape_Node_shape_Node_shape_Node__shape_same_l2 p0 p1 fu_2 y17_2 = some r)
    (fun (fu_2, y17_2) => fu_2) (1152921504606846976, 0)
    (Weak.toK 229382 0 0 []) hm ?_
  rintro ⟨fu_2, y17_2⟩ n_2 hm ih_2
  try dsimp only at hm ih_2 ⊢
  cases fu_2 with
  | zero => exact absurd hm (by unfold m_slices_EqualFunc_Nodeshape_Node_shape_Node_shape_Node__shape_same_l2; simp)
  | succ fu_2 =>
   unfold m_slices_EqualFunc_Nodeshape_Node_shape_Node_shape_Node__shape_same_l2 at hm
   refine Sx <| Wz (.b (decide (y17_2 < ((List.length p0 : Nat) : Int)))) (Obn rfl (fun _ => hb_lss (k := .i64))) <| Nk 491526 0 ⟨tp 1 (.l enc_GNode p1::.clo (.func 37) [] []::tp 12 (.l enc_GNode p0::.i ((List.length p0 : Nat) : Int)::.i y17_2::.b (decide (y17_2 < ((List.length p0 : Nat) : Int)))::tp 13 [])), [], 0⟩ <| Sq ?_
   rcases tf_ (decide (y17_2 < ((List.length p0 : Nat) : Int))) with hc18_7 | hc18_7
   ·
    replace hm := cT hc18_7 hm
    refine AiT hc18_7 <| Sk <| Tk 229382 0 ⟨tp 1 (.l enc_GNode p1::.clo (.func 37) [] []::tp 12 (.l enc_GNode p0::.i ((List.length p0 : Nat) : Int)::.i y17_2::tp 14 [])), [], 0⟩ <| Sq <| Bk <| Sx <| Wm (.i y17_2) rfl ?_
    obtain ⟨x20_3, hx20_3, hm⟩ := bnd hm
    obtain ⟨hx20_3i, hx20_3g⟩ := geti_some hx20_3
    refine Wz (.d (.ref (List.drop ((Int.toNat y17_2) * 7) (flatD enc_GNode p0)))) (Oia rfl enc_GNode_len hx20_3i hx20_3g) <| Wz (.agg [(.y x20_3.Kind), (.i x20_3.Kids), (.i x20_3.Lo), (.i x20_3.Hi), (.s x20_3.Var), (.s x20_3.Type_), (.l enc_GNode_ x20_3.Test)]) (Lf rfl enc_GNode_len hx20_3g) <| Wy (.loc 0 0) [(0, (.box [(.y 0), (.i 0), (.i 0), (.i 0), (.s ([] : List UInt8)), (.s ([] : List UInt8)), (.d .nil)]))] (Oal rfl) <| Wm (.i y17_2) rfl <| Wy (.tup []) [(0, (.box [(.y x20_3.Kind), (.i x20_3.Kids), (.i x20_3.Lo), (.i x20_3.Hi), (.s x20_3.Var), (.s x20_3.Type_), (.l enc_GNode_ x20_3.Test)]))] (Ost rfl) <| Nk 229766 1 ⟨tp 1 (.l enc_GNode p1::.clo (.func 37) [] []::tp 4 (.i y17_2::.loc 0 0::tp 6 (.l enc_GNode p0::.i ((List.length p0 : Nat) : Int)::.i y17_2::tp 14 []))), [(.box [(.y x20_3.Kind), (.i x20_3.Kids), (.i x20_3.Lo), (.i x20_3.Hi), (.s x20_3.Var), (.s x20_3.Type_), (.l enc_GNode_ x20_3.Test)])], 0⟩ <| Sx <| Wm (.l enc_GNode p1) rfl <| Wm (.i y17_2) rfl ?_
    obtain ⟨x24_4, hx24_4, hm⟩ := bnd hm
    obtain ⟨hx24_4i, hx24_4g⟩ := geti_some hx24_4
    refine Wz (.d (.ref (List.drop ((Int.toNat y17_2) * 7) (flatD enc_GNode p1)))) (Oia rfl enc_GNode_len hx24_4i hx24_4g) <| Wz (.agg [(.y x24_4.Kind), (.i x24_4.Kids), (.i x24_4.Lo), (.i x24_4.Hi), (.s x24_4.Var), (.s x24_4.Type_), (.l enc_GNode_ x24_4.Test)]) (Lf rfl enc_GNode_len hx24_4g) <| Wy (.loc 1 0) [(1, (.box [(.y 0), (.i 0), (.i 0), (.i 0), (.s ([] : List UInt8)), (.s ([] : List UInt8)), (.d .nil)]))] (Oal rfl) <| Wy (.tup []) [(1, (.box [(.y x24_4.Kind), (.i x24_4.Kids), (.i x24_4.Lo), (.i x24_4.Hi), (.s x24_4.Var), (.s x24_4.Type_), (.l enc_GNode_ x24_4.Test)]))] (Ost rfl) <| Nk 230150 3 ⟨tp 1 (.l enc_GNode p1::.clo (.func 37) [] []::tp 5 (.loc 0 0::.loc 1 0::tp 5 (.l enc_GNode p0::.i ((List.length p0 : Nat) : Int)::.i y17_2::tp 14 []))), [(.box [(.y x20_3.Kind), (.i x20_3.Kids), (.i x20_3.Lo), (.i x20_3.Hi), (.s x20_3.Var), (.s x20_3.Type_), (.l enc_GNode_ x20_3.Test)]), (.box [(.y x24_4.Kind), (.i x24_4.Kids), (.i x24_4.Lo), (.i x24_4.Hi), (.s x24_4.Var), (.s x24_4.Type_), (.l enc_GNode_ x24_4.Test)])], 0⟩ <| Sx <| Wm (.clo (.func 37) [] []) rfl <| Wz (.agg [(.y x20_3.Kind), (.i x20_3.Kids), (.i x20_3.Lo), (.i x20_3.Hi), (.s x20_3.Var), (.s x20_3.Type_), (.l enc_GNode_ x20_3.Test)]) (Old rfl) <| Wz (.agg [(.y x24_4.Kind), (.i x24_4.Kids), (.i x24_4.Lo), (.i x24_4.Hi), (.s x24_4.Var), (.s x24_4.Type_), (.l enc_GNode_ x24_4.Test)]) (Old rfl) ?_
    obtain ⟨r29_5, hr29_5, hm⟩ := bnd hm
    refine Wz (.b r29_5) (Ocf [] [] [] 0 (ok_shape_same x20_3 x24_4 r29_5 hr29_5) (fun a w => Try.call37 a w) rfl trivial) <| Wz (.b (!r29_5)) (Ocs (by kernel_rfl) (op_un rfl (a1 := .bool r29_5) (by kernel_rfl) (fun _ => hu_not))) <| Nk 1073971206 0 ⟨tp 1 (.l enc_GNode p1::.clo (.func 37) [] []::tp 12 (.l enc_GNode p0::.i ((List.length p0 : Nat) : Int)::.i y17_2::tp 12 (.b (!r29_5)::tp 1 []))), [.gone, .gone], 0⟩ ?_
    rcases tf_ (!r29_5) with hc30_8 | hc30_8
    ·
     replace hm := cT hc30_8 hm
     refine AiT hc30_8 <| Sx <| Wm (.b false) rfl <| Nn <| Rt <| Ir <| Tr <| RoundK.ret <| Ir <| Tr ?_
     obtain rfl := Option.some.inj hm
     exact ret_i []
    ·
     replace hm := cF hc30_8 hm
     refine AiF hc30_8 <| Sk <| Ino <| Tk 229382 0 ⟨tp 1 (.l enc_GNode p1::.clo (.func 37) [] []::tp 12 (.l enc_GNode p0::.i ((List.length p0 : Nat) : Int)::.i y17_2::tp 14 [])), [.gone, .gone], 0⟩ <| Tx <| Wz (.i (W6 (y17_2 + 1))) (Obn rfl (fun _ => hb_add (k := .i64))) <| Wm (.i (W6 (y17_2 + 1))) rfl <| Wn0 <| RoundK.normal ?_
     exact Rounds.weak (Weak.toK 229382 0 0 []) (ih_2 (fu_2, (W6 (y17_2 + 1))) hm (Nat.lt_succ_self _))
   ·
    replace hm := cF hc18_7 hm
    refine AiF hc18_7 <| AWP.exit <| Then.exit <| RoundK.exit <| InBlock.same <| Tk 0 0 ⟨tp 32 [], [], 0⟩ <| Sx <| Wm (.b true) rfl <| Nn <| Rt ?_
    obtain rfl := Option.some.inj hm
    exact ret_i []

theorem ok_shape_Same (p0 : GPattern) (p1 : GPattern) (r : Bool) (h : m_shape_Same p0 p1 = some r) : GCall Try.prog 17 [(.agg [(.l enc_GNode p0.Body), (.i p0.Within), (.s p0.By), (.y p0.Mode)]), (.agg [(.l enc_GNode p1.Body), (.i p1.Within), (.s p1.By), (.y p1.Mode)])] [] (.b r) [] := by
 refine GCall.of_body (n := 31) (rs := [(.tmp 4)]) Try.func17 rfl rfl rfl <| Ato ⟨.agg [(.l enc_GNode p0.Body), (.i p0.Within), (.s p0.By), (.y p0.Mode)]::.agg [(.l enc_GNode p1.Body), (.i p1.Within), (.s p1.By), (.y p1.Mode)]::tu 29 [], [], 0⟩ ?_
 have hm := h
 unfold m_shape_Same at hm
 refine Sx <| Wy (.loc 0 0) [(0, (.box [(.l enc_GNode p0.Body), (.i p0.Within), (.s p0.By), (.y p0.Mode)]))] (Obx rfl) <| Wy (.loc 1 0) [(1, (.box [(.l enc_GNode p1.Body), (.i p1.Within), (.s p1.By), (.y p1.Mode)]))] (Obx rfl) <| Wm (.b false) rfl <| Nk 12 3 ⟨tp 2 (.loc 0 0::.loc 1 0::tp 27 []), [(.box [(.l enc_GNode p0.Body), (.i p0.Within), (.s p0.By), (.y p0.Mode)]), (.box [(.l enc_GNode p1.Body), (.i p1.Within), (.s p1.By), (.y p1.Mode)])], 0⟩ <| Sx <| Wz (.loc 0 1) (Ofa rfl) <| Wz (.i p0.Within) (Old rfl) <| Wz (.loc 1 1) (Ofa rfl) <| Wz (.i p1.Within) (Old rfl) <| Wz (.b (decide (p0.Within = p1.Within))) (Obn rfl (fun _ => hb_eql (k := .i64))) ?_
 rcases tf_ (decide (p0.Within = p1.Within)) with hq10_0 | hq10_0
 ·
  replace hm := cT hq10_0 hm
  refine Wz (.b true) (Oq hq10_0 rfl) <| Wz (.loc 0 2) (Ofa rfl) <| Wz (.s p0.By) (Old rfl) <| Wz (.loc 1 2) (Ofa rfl) <| Wz (.s p1.By) (Old rfl) <| Wz (.b (decide (p0.By = p1.By))) (Ocs (lit_tf (by simp only [toS_inj, ne_eq])) (op_bin rfl (a1 := .string (toS p0.By)) (a2 := .string (toS p1.By)) (by kernel_rfl) (by kernel_rfl) (fun _ => hb_seql))) <| Wz (.b (decide (p0.By = p1.By))) (OpT rfl) ?_
  rcases tf_ (decide (p0.By = p1.By)) with hq17_0 | hq17_0
  ·
   replace hm := cT hq17_0 hm
   refine Wz (.b true) (Oq hq17_0 rfl) <| Wz (.loc 0 3) (Ofa rfl) <| Wz (.y p0.Mode) (Old rfl) <| Wz (.loc 1 3) (Ofa rfl) <| Wz (.y p1.Mode) (Old rfl) <| Wz (.b (decide (((p0.Mode.toNat : Nat) : Int) = ((p1.Mode.toNat : Nat) : Int)))) (Ob2 (.int .u8 ((p0.Mode.toNat : Nat) : Int)) (.int .u8 ((p1.Mode.toNat : Nat) : Int)) rfl (fun _ => hb_eql)) <| Wz (.b (decide (((p0.Mode.toNat : Nat) : Int) = ((p1.Mode.toNat : Nat) : Int)))) (OpT rfl) ?_
   rcases tf_ (decide (((p0.Mode.toNat : Nat) : Int) = ((p1.Mode.toNat : Nat) : Int))) with hq24_0 | hq24_0
   ·
    replace hm := cT hq24_0 hm
    refine Wz (.b true) (Oq hq24_0 rfl) <| Wz (.loc 0 0) (Ofa rfl) <| Wz (.l enc_GNode p0.Body) (Old rfl) <| Wz (.loc 1 0) (Ofa rfl) <| Wz (.l enc_GNode p1.Body) (Old rfl) ?_
    obtain ⟨r29_0, hr29_0, hm⟩ := bnd hm
    refine Wz (.b r29_0) (Ocf [] [] [] 0 (ok_slices_EqualFunc_Nodeshape_Node_shape_Node_shape_Node__shape_same p0.Body p1.Body r29_0 hr29_0) (fun a w => Try.call36 a w) rfl trivial) <| Wz (.b r29_0) (OpT rfl) <| Wm (.b r29_0) rfl <| Nn <| Rt ?_
    obtain rfl := Option.some.inj hm
    exact ret_i []
   ·
    replace hm := cF hq24_0 hm
    refine Wz (.b false) (Oq hq24_0 rfl) <| Wn <| Wn <| Wn <| Wn <| Wn <| Wz (.b false) (OpF rfl) <| Wm (.b false) rfl <| Nn <| Rt ?_
    obtain rfl := Option.some.inj hm
    exact ret_i []
  ·
   replace hm := cF hq17_0 hm
   refine Wz (.b false) (Oq hq17_0 rfl) <| Wn <| Wn <| Wn <| Wn <| Wn <| Wz (.b false) (OpF rfl) <| Wm (.b false) rfl <| Wn <| Wn <| Wn <| Wn <| Wn <| Wz (.b false) (OpF rfl) ?_
   refine Wm (.b false) rfl <| Nn <| Rt ?_
   obtain rfl := Option.some.inj hm
   exact ret_i []
 ·
  replace hm := cF hq10_0 hm
  refine Wz (.b false) (Oq hq10_0 rfl) <| Wn <| Wn <| Wn <| Wn <| Wn <| Wz (.b false) (OpF rfl) <| Wm (.b false) rfl <| Wn <| Wn <| Wn <| Wn <| Wn <| Wz (.b false) (OpF rfl) ?_
  refine Wm (.b false) rfl <| Wn <| Wn <| Wn <| Wn <| Wn <| Wz (.b false) (OpF rfl) <| Wm (.b false) rfl <| Nn <| Rt ?_
  obtain rfl := Option.some.inj hm
  exact ret_i []

theorem ok_telltalelaw13_awake (r : Bool) (h : m_telltalelaw13_awake = some r) : GCall Try.prog 7 [] [] (.b r) [] := by
 refine GCall.of_body (n := 71) (rs := [(.tmp 0)]) Try.func7 rfl rfl rfl <| Ato ⟨tu 71 [], [], 0⟩ ?_
 have hm := h
 unfold m_telltalelaw13_awake at hm
 refine Sx <| Wm (.b false) rfl <| Nk 0 0 ⟨tp 71 [], [], 0⟩ <| Sx ?_
 obtain ⟨r4_0, hr4_0, hm⟩ := bnd hm
 refine Wy (.agg [(.own 0), (.i r4_0.Within), (.s r4_0.By), (.y r4_0.Mode)]) [(0, (Ar 44 7 enc_GNode r4_0.Body))] (Ocf [] [0] [] 0 (ok_telltalelaw13_example  r4_0 hr4_0) (fun a w => Try.call21 a w) rfl trivial) ?_
 obtain ⟨r5_0, hr5_0, hm⟩ := bnd hm
 refine Wy (.agg [(.own 1), (.i r5_0.Within), (.s r5_0.By), (.y r5_0.Mode)]) [(1, (Ar 44 7 enc_GNode r5_0.Body))] (Ocf [] [1] [] 0 (ok_telltalelaw13_example  r5_0 hr5_0) (fun a w => Try.call21 a w) rfl trivial) ?_
 obtain ⟨r6_0, hr6_0, hm⟩ := bnd hm
 refine Wy (.agg [(.own 2), (.i r6_0.Within), (.s r6_0.By), (.y r6_0.Mode)]) [(2, (Ar 44 7 enc_GNode r6_0.Body))] (Ocf [] [2] [] 0 (ok_telltalelaw13_example  r6_0 hr6_0) (fun a w => Try.call21 a w) rfl trivial) <| Wy (.loc 3 0) [(3, (.box [(.d .nil), (.i 0), (.s ([] : List UInt8)), (.y 0)]))] (Oal rfl) <| Wy (.loc 4 0) [(4, (.box [(.d .nil), (.i 0), (.s ([] : List UInt8)), (.y 0)]))] (Oal rfl) <| Wy (.loc 5 0) [(5, (.box [(.d .nil), (.i 0), (.s ([] : List UInt8)), (.y 0)]))] (Oal rfl) <| Wy (.tup []) [(3, (.box [(.own 0), (.i r4_0.Within), (.s r4_0.By), (.y r4_0.Mode)]))] (Ost rfl) <| Wy (.tup []) [(4, (.box [(.own 1), (.i r5_0.Within), (.s r5_0.By), (.y r5_0.Mode)]))] (Ost rfl) <| Wy (.tup []) [(5, (.box [(.own 2), (.i r6_0.Within), (.s r6_0.By), (.y r6_0.Mode)]))] (Ost rfl) <| Nk 14 63 ⟨tp 1 (.loc 3 0::.loc 4 0::.loc 5 0::tp 67 []), [(Ar 44 7 enc_GNode r4_0.Body), (Ar 44 7 enc_GNode r5_0.Body), (Ar 44 7 enc_GNode r6_0.Body), (.box [(.own 0), (.i r4_0.Within), (.s r4_0.By), (.y r4_0.Mode)]), (.box [(.own 1), (.i r5_0.Within), (.s r5_0.By), (.y r5_0.Mode)]), (.box [(.own 2), (.i r6_0.Within), (.s r6_0.By), (.y r6_0.Mode)])], 0⟩ <| Sq <| Adr <| Wz (.loc 4 0) (Ofa rfl) <| Wz (.own 1) (Old rfl) <| Wz (.loc 4 0) (Ofa rfl) <| Wz (.own 1) (Old rfl) ?_
 obtain ⟨x11_1, hx11_1, hm⟩ := bnd hm
 obtain ⟨hx11_1i, hx11_1g⟩ := geti_some hx11_1
 refine Wz (.loc 1 ((Int.toNat 2) * 7)) (Oia rfl enc_GNode_len hx11_1i hx11_1g) <| Wz (.loc 1 ((Int.toNat 2) * 7 + 2)) (Ofa rfl) <| Wy (.tup []) [(1, (Ar 44 7 enc_GNode (List.set r5_0.Body (Int.toNat 2) (GNode.mk x11_1.Kind x11_1.Kids 1 x11_1.Hi x11_1.Var x11_1.Type_ x11_1.Test))))] (Osr 2 rfl enc_GNode_len hx11_1g (GNode.mk x11_1.Kind x11_1.Kids 1 x11_1.Hi x11_1.Var x11_1.Type_ x11_1.Test)) ?_
 obtain ⟨x13_1, hx13_1, hm⟩ := bnd hm
 obtain ⟨hx13_1i, hx13_1g⟩ := geti_some hx13_1
 refine Wz (.loc 1 ((Int.toNat 2) * 7)) (Oia rfl enc_GNode_len hx13_1i hx13_1g) <| Wz (.loc 1 ((Int.toNat 2) * 7 + 3)) (Ofa rfl) <| Wy (.tup []) [(1, (Ar 44 7 enc_GNode (List.set (List.set r5_0.Body (Int.toNat 2) (GNode.mk x11_1.Kind x11_1.Kids 1 x11_1.Hi x11_1.Var x11_1.Type_ x11_1.Test)) (Int.toNat 2) (GNode.mk x13_1.Kind x13_1.Kids x13_1.Lo 1 x13_1.Var x13_1.Type_ x13_1.Test))))] (Osr 3 rfl enc_GNode_len hx13_1g (GNode.mk x13_1.Kind x13_1.Kids x13_1.Lo 1 x13_1.Var x13_1.Type_ x13_1.Test)) <| Wdr <| Tk 14 63 ⟨tp 1 (.loc 3 0::.loc 4 0::.loc 5 0::tp 67 []), [(Ar 44 7 enc_GNode r4_0.Body), (Ar 44 7 enc_GNode (List.set (List.set r5_0.Body (Int.toNat 2) (GNode.mk x11_1.Kind x11_1.Kids 1 x11_1.Hi x11_1.Var x11_1.Type_ x11_1.Test)) (Int.toNat 2) (GNode.mk x13_1.Kind x13_1.Kids x13_1.Lo 1 x13_1.Var x13_1.Type_ x13_1.Test))), (Ar 44 7 enc_GNode r6_0.Body), (.box [(.own 0), (.i r4_0.Within), (.s r4_0.By), (.y r4_0.Mode)]), (.box [(.own 1), (.i r5_0.Within), (.s r5_0.By), (.y r5_0.Mode)]), (.box [(.own 2), (.i r6_0.Within), (.s r6_0.By), (.y r6_0.Mode)])], 0⟩ <| Sx <| Wz (.loc 5 3) (Ofa rfl) <| Wy (.tup []) [(5, (.box [(.own 2), (.i r6_0.Within), (.s r6_0.By), (.y 4)]))] (Ost rfl) <| Nk 14 63 ⟨tp 1 (.loc 3 0::.loc 4 0::.loc 5 0::tp 67 []), [(Ar 44 7 enc_GNode r4_0.Body), (Ar 44 7 enc_GNode (List.set (List.set r5_0.Body (Int.toNat 2) (GNode.mk x11_1.Kind x11_1.Kids 1 x11_1.Hi x11_1.Var x11_1.Type_ x11_1.Test)) (Int.toNat 2) (GNode.mk x13_1.Kind x13_1.Kids x13_1.Lo 1 x13_1.Var x13_1.Type_ x13_1.Test))), (Ar 44 7 enc_GNode r6_0.Body), (.box [(.own 0), (.i r4_0.Within), (.s r4_0.By), (.y r4_0.Mode)]), (.box [(.own 1), (.i r5_0.Within), (.s r5_0.By), (.y r5_0.Mode)]), (.box [(.own 2), (.i r6_0.Within), (.s r6_0.By), (.y 4)])], 0⟩ <| Sq <| Afz [0] ⟨tp 1 (.loc 3 0::.loc 4 0::.loc 5 0::tp 67 []), [(.fro 44 7 (List.length r4_0.Body) (flatD enc_GNode r4_0.Body)), (Ar 44 7 enc_GNode (List.set (List.set r5_0.Body (Int.toNat 2) (GNode.mk x11_1.Kind x11_1.Kids 1 x11_1.Hi x11_1.Var x11_1.Type_ x11_1.Test)) (Int.toNat 2) (GNode.mk x13_1.Kind x13_1.Kids x13_1.Lo 1 x13_1.Var x13_1.Type_ x13_1.Test))), (Ar 44 7 enc_GNode r6_0.Body), (.box [(.l enc_GNode r4_0.Body), (.i r4_0.Within), (.s r4_0.By), (.y r4_0.Mode)]), (.box [(.own 1), (.i r5_0.Within), (.s r5_0.By), (.y r5_0.Mode)]), (.box [(.own 2), (.i r6_0.Within), (.s r6_0.By), (.y 4)])], 0⟩ <| Adr <| Wz (.agg [(.l enc_GNode r4_0.Body), (.i r4_0.Within), (.s r4_0.By), (.y r4_0.Mode)]) (Old rfl) ?_
 obtain ⟨r17_2, hr17_2, hm⟩ := bnd hm
 refine Wz (.i r17_2) (Ocf [] [] [] 0 (ok_shape_Check r4_0 r17_2 hr17_2) (fun a w => Try.call11 a w) rfl trivial) <| Wz (.b (decide (r17_2 = 0))) (Obn rfl (fun _ => hb_eql (k := .i64))) ?_
 rcases tf_ (decide (r17_2 = 0)) with hq19_2 | hq19_2
 ·
  replace hm := cT hq19_2 hm
  refine Wz (.b true) (Oq hq19_2 rfl) <| Wz (.agg [(.l enc_GNode r4_0.Body), (.i r4_0.Within), (.s r4_0.By), (.y r4_0.Mode)]) (Old rfl) ?_
  obtain ⟨r21_2, hr21_2, hm⟩ := bnd hm
  refine Wz (.s r21_2) (Ocf [] [] [] 0 (ok_shape_Print r4_0 r21_2 hr21_2) (fun a w => Try.call13 a w) rfl trivial) ?_
  obtain ⟨v22_2, hv22_2, hm⟩ := bnd hm; replace hv22_2 := Option.some.inj hv22_2
  refine Wz (.b v22_2) (Ocs (Eq.trans (lit_tf (by simp only [toS_inj, ne_eq])) (congrArg (fun z => A.d (.lit (.bool z))) hv22_2)) (op_bin rfl (a1 := .string (toS r21_2)) (a2 := .string (toS ([97, 58, 116, 59, 32, 40, 98, 58, 116, 32, 124, 32, 33, 99, 58, 117, 41, 43, 32, 119, 105, 116, 104, 105, 110, 32, 57, 32, 97, 110, 121] : List UInt8))) (by kernel_rfl) (by kernel_rfl) (fun _ => hb_seql))) <| Wz (.b v22_2) (OpT rfl) ?_
  rcases tf_ v22_2 with hq24_2 | hq24_2
  ·
   replace hm := cT hq24_2 hm
   refine Wz (.b true) (Oq hq24_2 rfl) <| Wz (.agg [(.own 1), (.i r5_0.Within), (.s r5_0.By), (.y r5_0.Mode)]) (Old rfl) ?_
   obtain ⟨r26_2, hr26_2, hm⟩ := bnd hm
   refine Wz (.i r26_2) (Ocp [] [] [1] 0 (ok_shape_Check (GPattern.mk (List.set (List.set r5_0.Body (Int.toNat 2) (GNode.mk x11_1.Kind x11_1.Kids 1 x11_1.Hi x11_1.Var x11_1.Type_ x11_1.Test)) (Int.toNat 2) (GNode.mk x13_1.Kind x13_1.Kids x13_1.Lo 1 x13_1.Var x13_1.Type_ x13_1.Test)) r5_0.Within r5_0.By r5_0.Mode) r26_2 hr26_2) (plain_triv (by simp [A.Plain, A.Plains, D.Plain, byteD])) (fun a w => Try.call11 a w) rfl trivial) <| Wz (.b (decide (r26_2 = 4))) (Obn rfl (fun _ => hb_eql (k := .i64))) <| Wz (.b (decide (r26_2 = 4))) (OpT rfl) ?_
   rcases tf_ (decide (r26_2 = 4)) with hq29_2 | hq29_2
   ·
    replace hm := cT hq29_2 hm
    refine Wz (.b true) (Oq hq29_2 rfl) <| Wz (.agg [(.own 2), (.i r6_0.Within), (.s r6_0.By), (.y 4)]) (Old rfl) ?_
    obtain ⟨r31_2, hr31_2, hm⟩ := bnd hm
    refine Wz (.i r31_2) (Ocp [] [] [2] 0 (ok_shape_Check (GPattern.mk r6_0.Body r6_0.Within r6_0.By 4) r31_2 hr31_2) (plain_triv (by simp [A.Plain, A.Plains, D.Plain, byteD])) (fun a w => Try.call11 a w) rfl trivial) <| Wz (.b (decide (r31_2 = 11))) (Obn rfl (fun _ => hb_eql (k := .i64))) <| Wz (.b (decide (r31_2 = 11))) (OpT rfl) ?_
    rcases tf_ (decide (r31_2 = 11)) with hq34_2 | hq34_2
    ·
     replace hm := cT hq34_2 hm
     refine Wz (.b true) (Oq hq34_2 rfl) <| Wz (.loc 3 0) (Ofa rfl) <| Wz (.l enc_GNode r4_0.Body) (Old rfl) ?_
     obtain ⟨r37_2, hr37_2, hm⟩ := bnd hm
     refine Wz (.i r37_2) (Ocf [] [] [] 0 (ok_shape_Size r4_0.Body 2 r37_2 hr37_2) (fun a w => Try.call9 a w) rfl trivial) <| Wz (.b (decide (r37_2 = 4))) (Obn rfl (fun _ => hb_eql (k := .i64))) <| Wz (.b (decide (r37_2 = 4))) (OpT rfl) ?_
     rcases tf_ (decide (r37_2 = 4)) with hq40_2 | hq40_2
     ·
      replace hm := cT hq40_2 hm
      refine Wz (.b true) (Oq hq40_2 rfl) <| Wz (.loc 3 0) (Ofa rfl) <| Wz (.l enc_GNode r4_0.Body) (Old rfl) ?_
      obtain ⟨s43_2, hs43_2, hm⟩ := bnd hm; obtain ⟨hs43_2a, hs43_2b, hs43_2c, hs43_2d, hs43_2e⟩ := cut_some hs43_2
      refine Wz (.l enc_GNode s43_2) (op_cut rfl (e := 44) (sz := 7) (by kernel_rfl) (l := r4_0.Body) (enc := enc_GNode) (by kernel_rfl) enc_GNode_len (a := (Int.toNat 0)) (b := (Int.toNat 5)) (by exact rfl) (⟨.i64, 5, by kernel_rfl, hs43_2b⟩) hs43_2c hs43_2d hs43_2e) ?_
      obtain ⟨r44_2, hr44_2, hm⟩ := bnd hm
      refine Wz (.i r44_2) (Ocf [] [] [] 0 (ok_shape_Size s43_2 0 r44_2 hr44_2) (fun a w => Try.call9 a w) rfl trivial) <| Wz (.b (decide (r44_2 = 0))) (Obn rfl (fun _ => hb_eql (k := .i64))) <| Wz (.b (decide (r44_2 = 0))) (OpT rfl) ?_
      rcases tf_ (decide (r44_2 = 0)) with hq47_2 | hq47_2
      ·
       replace hm := cT hq47_2 hm
       refine Wz (.b true) (Oq hq47_2 rfl) <| Wz (.agg [(.l enc_GNode r4_0.Body), (.i r4_0.Within), (.s r4_0.By), (.y r4_0.Mode)]) (Old rfl) ?_
       obtain ⟨r49_2, hr49_2, hm⟩ := bnd hm
       refine Wy (.agg [(.own 6), (.i r49_2.Within), (.s r49_2.By), (.y r49_2.Mode)]) [(6, (Ar 44 7 enc_GNode r49_2.Body))] (Ocf [] [6] [] 0 (ok_telltalelaw13_example  r49_2 hr49_2) (fun a w => Try.call21 a w) rfl trivial) ?_
       obtain ⟨r50_2, hr50_2, hm⟩ := bnd hm
       refine Wz (.b r50_2) (Ocp [] [] [6] 0 (ok_shape_Same r4_0 r49_2 r50_2 hr50_2) (plain_triv (by simp [A.Plain, A.Plains, D.Plain, byteD])) (fun a w => Try.call17 a w) rfl trivial) <| Wz (.b r50_2) (OpT rfl) ?_
       rcases tf_ r50_2 with hq52_2 | hq52_2
       ·
        replace hm := cT hq52_2 hm
        refine Wz (.b true) (Oq hq52_2 rfl) <| Wz (.agg [(.l enc_GNode r4_0.Body), (.i r4_0.Within), (.s r4_0.By), (.y r4_0.Mode)]) (Old rfl) <| Wz (.agg [(.own 1), (.i r5_0.Within), (.s r5_0.By), (.y r5_0.Mode)]) (Old rfl) ?_
        obtain ⟨r55_2, hr55_2, hm⟩ := bnd hm
        refine Wz (.b r55_2) (Ocp [] [] [1] 0 (ok_shape_Same r4_0 (GPattern.mk (List.set (List.set r5_0.Body (Int.toNat 2) (GNode.mk x11_1.Kind x11_1.Kids 1 x11_1.Hi x11_1.Var x11_1.Type_ x11_1.Test)) (Int.toNat 2) (GNode.mk x13_1.Kind x13_1.Kids x13_1.Lo 1 x13_1.Var x13_1.Type_ x13_1.Test)) r5_0.Within r5_0.By r5_0.Mode) r55_2 hr55_2) (plain_triv (by simp [A.Plain, A.Plains, D.Plain, byteD])) (fun a w => Try.call17 a w) rfl trivial) <| Wz (.b (!r55_2)) (Ocs (by kernel_rfl) (op_un rfl (a1 := .bool r55_2) (by kernel_rfl) (fun _ => hu_not))) <| Wz (.b (!r55_2)) (OpT rfl) ?_
        rcases tf_ (!r55_2) with hq58_2 | hq58_2
        ·
         replace hm := cT hq58_2 hm
         refine Wz (.b true) (Oq hq58_2 rfl) ?_
         obtain ⟨r59_2, hr59_2, hm⟩ := bnd hm
         refine Wz (.s r59_2) (Ocf [] [] [] 0 (ok_shape_Word 3 r59_2 hr59_2) (fun a w => Try.call15 a w) rfl trivial) <| Wz (.b (decide (r59_2 = ([115, 116, 114, 105, 99, 116] : List UInt8)))) (Ocs (lit_tf (by simp only [toS_inj, ne_eq])) (op_bin rfl (a1 := .string (toS r59_2)) (a2 := .string (toS ([115, 116, 114, 105, 99, 116] : List UInt8))) (by kernel_rfl) (by kernel_rfl) (fun _ => hb_seql))) <| Wz (.b (decide (r59_2 = ([115, 116, 114, 105, 99, 116] : List UInt8)))) (OpT rfl) ?_
         rcases tf_ (decide (r59_2 = ([115, 116, 114, 105, 99, 116] : List UInt8))) with hq62_2 | hq62_2
         ·
          replace hm := cT hq62_2 hm
          refine Wz (.b true) (Oq hq62_2 rfl) <| Wz (.agg [(.own 2), (.i r6_0.Within), (.s r6_0.By), (.y 4)]) (Old rfl) ?_
          obtain ⟨r64_2, hr64_2, hm⟩ := bnd hm
          refine Wz (.s r64_2) (Ocp [] [] [2] 0 (ok_shape_Print (GPattern.mk r6_0.Body r6_0.Within r6_0.By 4) r64_2 hr64_2) (plain_triv (by simp [A.Plain, A.Plains, D.Plain, byteD])) (fun a w => Try.call13 a w) rfl trivial) <| Wz (.b (decide (r64_2 = ([] : List UInt8)))) (Ocs (lit_tf (by simp only [toS_inj, ne_eq])) (op_bin rfl (a1 := .string (toS r64_2)) (a2 := .string (toS ([] : List UInt8))) (by kernel_rfl) (by kernel_rfl) (fun _ => hb_seql))) <| Wz (.b (decide (r64_2 = ([] : List UInt8)))) (OpT rfl) ?_
          rcases tf_ (decide (r64_2 = ([] : List UInt8))) with hq67_2 | hq67_2
          ·
           replace hm := cT hq67_2 hm
           refine Wz (.b true) (Oq hq67_2 rfl) <| Wz (.b true) (OpT rfl) <| Wm (.b true) rfl <| Wz (.b true) (OpT rfl) <| Wm (.b true) rfl <| Wdr <| Tn <| Rt ?_
           obtain rfl := Option.some.inj hm
           exact ret_i []
          ·
           replace hm := cF hq67_2 hm
           refine Wz (.b false) (Oq hq67_2 rfl) <| Wz (.b false) (OpF rfl) <| Wm (.b false) rfl <| Wz (.b false) (OpF rfl) <| Wm (.b false) rfl <| Wdr <| Tn <| Rt ?_
           obtain rfl := Option.some.inj hm
           exact ret_i []
         ·
          replace hm := cF hq62_2 hm
          refine Wz (.b false) (Oq hq62_2 rfl) <| Wn <| Wn <| Wn <| Wz (.b false) (OpF rfl) <| Wm (.b false) rfl <| Wz (.b false) (OpF rfl) <| Wm (.b false) rfl <| Wz (.b false) (OpF rfl) <| Wm (.b false) rfl <| Wdr <| Tn <| Rt ?_
          obtain rfl := Option.some.inj hm
          exact ret_i []
        ·
         replace hm := cF hq58_2 hm
         refine Wz (.b false) (Oq hq58_2 rfl) <| Wn <| Wn <| Wz (.b false) (OpF rfl) <| Wm (.b false) rfl <| Wn <| Wn <| Wn <| Wz (.b false) (OpF rfl) <| Wm (.b false) rfl <| Wz (.b false) (OpF rfl) <| Wm (.b false) rfl <| Wz (.b false) (OpF rfl) <| Wm (.b false) rfl ?_
         refine Wdr <| Tn <| Rt ?_
         obtain rfl := Option.some.inj hm
         exact ret_i []
       ·
        replace hm := cF hq52_2 hm
        refine Wz (.b false) (Oq hq52_2 rfl) <| Wn <| Wn <| Wn <| Wn <| Wz (.b false) (OpF rfl) <| Wm (.b false) rfl <| Wn <| Wn <| Wz (.b false) (OpF rfl) <| Wm (.b false) rfl <| Wn <| Wn <| Wn ?_
        refine Wz (.b false) (OpF rfl) <| Wm (.b false) rfl <| Wz (.b false) (OpF rfl) <| Wm (.b false) rfl <| Wz (.b false) (OpF rfl) <| Wm (.b false) rfl <| Wdr <| Tn <| Rt ?_
        obtain rfl := Option.some.inj hm
        exact ret_i []
      ·
       replace hm := cF hq47_2 hm
       refine Wz (.b false) (Oq hq47_2 rfl) <| Wn <| Wn <| Wn <| Wz (.b false) (OpF rfl) <| Wm (.b false) rfl <| Wn <| Wn <| Wn <| Wn <| Wz (.b false) (OpF rfl) <| Wm (.b false) rfl <| Wn <| Wn ?_
       refine Wz (.b false) (OpF rfl) <| Wm (.b false) rfl <| Wn <| Wn <| Wn <| Wz (.b false) (OpF rfl) <| Wm (.b false) rfl <| Wz (.b false) (OpF rfl) <| Wm (.b false) rfl <| Wz (.b false) (OpF rfl) <| Wm (.b false) rfl <| Wdr <| Tn <| Rt ?_
       obtain rfl := Option.some.inj hm
       exact ret_i []
     ·
      replace hm := cF hq40_2 hm
      refine Wz (.b false) (Oq hq40_2 rfl) <| Wn <| Wn <| Wn <| Wn <| Wn <| Wz (.b false) (OpF rfl) <| Wm (.b false) rfl <| Wn <| Wn <| Wn <| Wz (.b false) (OpF rfl) <| Wm (.b false) rfl <| Wn ?_
      refine Wn <| Wn <| Wn <| Wz (.b false) (OpF rfl) <| Wm (.b false) rfl <| Wn <| Wn <| Wz (.b false) (OpF rfl) <| Wm (.b false) rfl <| Wn <| Wn <| Wn <| Wz (.b false) (OpF rfl) <| Wm (.b false) rfl ?_
      refine Wz (.b false) (OpF rfl) <| Wm (.b false) rfl <| Wz (.b false) (OpF rfl) <| Wm (.b false) rfl <| Wdr <| Tn <| Rt ?_
      obtain rfl := Option.some.inj hm
      exact ret_i []
    ·
     replace hm := cF hq34_2 hm
     refine Wz (.b false) (Oq hq34_2 rfl) <| Wn <| Wn <| Wn <| Wn <| Wz (.b false) (OpF rfl) <| Wm (.b false) rfl <| Wn <| Wn <| Wn <| Wn <| Wn <| Wz (.b false) (OpF rfl) <| Wm (.b false) rfl ?_
     refine Wn <| Wn <| Wn <| Wz (.b false) (OpF rfl) <| Wm (.b false) rfl <| Wn <| Wn <| Wn <| Wn <| Wz (.b false) (OpF rfl) <| Wm (.b false) rfl <| Wn <| Wn <| Wz (.b false) (OpF rfl) ?_
     refine Wm (.b false) rfl <| Wn <| Wn <| Wn <| Wz (.b false) (OpF rfl) <| Wm (.b false) rfl <| Wz (.b false) (OpF rfl) <| Wm (.b false) rfl <| Wz (.b false) (OpF rfl) <| Wm (.b false) rfl <| Wdr <| Tn <| Rt ?_
     obtain rfl := Option.some.inj hm
     exact ret_i []
   ·
    replace hm := cF hq29_2 hm
    refine Wz (.b false) (Oq hq29_2 rfl) <| Wn <| Wn <| Wn <| Wz (.b false) (OpF rfl) <| Wm (.b false) rfl <| Wn <| Wn <| Wn <| Wn <| Wz (.b false) (OpF rfl) <| Wm (.b false) rfl <| Wn <| Wn ?_
    refine Wn <| Wn <| Wn <| Wz (.b false) (OpF rfl) <| Wm (.b false) rfl <| Wn <| Wn <| Wn <| Wz (.b false) (OpF rfl) <| Wm (.b false) rfl <| Wn <| Wn <| Wn <| Wn ?_
    refine Wz (.b false) (OpF rfl) <| Wm (.b false) rfl <| Wn <| Wn <| Wz (.b false) (OpF rfl) <| Wm (.b false) rfl <| Wn <| Wn <| Wn <| Wz (.b false) (OpF rfl) <| Wm (.b false) rfl <| Wz (.b false) (OpF rfl) <| Wm (.b false) rfl <| Wz (.b false) (OpF rfl) ?_
    refine Wm (.b false) rfl <| Wdr <| Tn <| Rt ?_
    obtain rfl := Option.some.inj hm
    exact ret_i []
  ·
   replace hm := cF hq24_2 hm
   refine Wz (.b false) (Oq hq24_2 rfl) <| Wn <| Wn <| Wn <| Wz (.b false) (OpF rfl) <| Wm (.b false) rfl <| Wn <| Wn <| Wn <| Wz (.b false) (OpF rfl) <| Wm (.b false) rfl <| Wn <| Wn <| Wn ?_
   refine Wn <| Wz (.b false) (OpF rfl) <| Wm (.b false) rfl <| Wn <| Wn <| Wn <| Wn <| Wn <| Wz (.b false) (OpF rfl) <| Wm (.b false) rfl <| Wn <| Wn <| Wn <| Wz (.b false) (OpF rfl) ?_
   refine Wm (.b false) rfl <| Wn <| Wn <| Wn <| Wn <| Wz (.b false) (OpF rfl) <| Wm (.b false) rfl <| Wn <| Wn <| Wz (.b false) (OpF rfl) <| Wm (.b false) rfl <| Wn <| Wn <| Wn ?_
   refine Wz (.b false) (OpF rfl) <| Wm (.b false) rfl <| Wz (.b false) (OpF rfl) <| Wm (.b false) rfl <| Wz (.b false) (OpF rfl) <| Wm (.b false) rfl <| Wdr <| Tn <| Rt ?_
   obtain rfl := Option.some.inj hm
   exact ret_i []
 ·
  replace hm := cF hq19_2 hm
  refine Wz (.b false) (Oq hq19_2 rfl) <| Wn <| Wn <| Wn <| Wz (.b false) (OpF rfl) <| Wm (.b false) rfl <| Wn <| Wn <| Wn <| Wz (.b false) (OpF rfl) <| Wm (.b false) rfl <| Wn <| Wn <| Wn ?_
  refine Wz (.b false) (OpF rfl) <| Wm (.b false) rfl <| Wn <| Wn <| Wn <| Wn <| Wz (.b false) (OpF rfl) <| Wm (.b false) rfl <| Wn <| Wn <| Wn <| Wn <| Wn <| Wz (.b false) (OpF rfl) ?_
  refine Wm (.b false) rfl <| Wn <| Wn <| Wn <| Wz (.b false) (OpF rfl) <| Wm (.b false) rfl <| Wn <| Wn <| Wn <| Wn <| Wz (.b false) (OpF rfl) <| Wm (.b false) rfl <| Wn <| Wn ?_
  refine Wz (.b false) (OpF rfl) <| Wm (.b false) rfl <| Wn <| Wn <| Wn <| Wz (.b false) (OpF rfl) <| Wm (.b false) rfl <| Wz (.b false) (OpF rfl) <| Wm (.b false) rfl <| Wz (.b false) (OpF rfl) <| Wm (.b false) rfl <| Wdr <| Tn <| Rt ?_
  obtain rfl := Option.some.inj hm
  exact ret_i []

theorem ok_telltalelaw11_Own (p0 : (List GNode_)) (r : (List GNode_)) (h : m_telltalelaw11_Own p0 = some r) : GCall Try.prog 22 [(.l enc_GNode_ p0)] [] (.own 0) [(Ar 75 8 enc_GNode_ r)] := by
 refine GCall.of_body (n := 31) (rs := [(.tmp 2)]) Try.func22 rfl rfl rfl <| Ato ⟨.l enc_GNode_ p0::tu 30 [], [], 0⟩ ?_
 have hm := h
 unfold m_telltalelaw11_Own at hm
 refine Sx <| Wm (.d .nil) rfl <| Nk 1 0 ⟨.l enc_GNode_ p0::tp 30 [], [], 0⟩ <| Sx <| Wm (.d .nil) rfl <| Nk 9 0 ⟨.l enc_GNode_ p0::tp 2 (.d .nil::tp 27 []), [], 0⟩ <| Sq <| Sx <| Wm (.i 0) rfl <| Nk 25 0 ⟨.l enc_GNode_ p0::tp 2 (.d .nil::.i 0::tp 26 []), [], 0⟩ <| Bk <| Aow 3 75 8 ⟨.l enc_GNode_ p0::tp 2 (.own 0::.i 0::tp 26 []), [(Ar 75 8 enc_GNode_ ([] : List GNode_))], 0⟩ ?_
 refine AWP.loopI (α := Nat × (List GNode_) × Int)
   (fun (fu_0, y3_0, y4_0) => (⟨.l enc_GNode_ p0::tp 2 (.own 0::.i y4_0::tp 26 []), [(Ar 75 8 enc_GNode_ y3_0)], 0⟩ : St))
   (fun (fu_0, y3_0, y4_0) => m_telltalelaw11_Own_l0 p0 fu_0 y3_0 y4_0 = some r)
   (fun (fu_0, y3_0, y4_0) => fu_0) (1152921504606846976, ([] : List GNode_), 0)
   (Weak.toK 25 0 0 [0]) hm ?_
 rintro ⟨fu_0, y3_0, y4_0⟩ n_0 hm ih_0
 try dsimp only at hm ih_0 ⊢
 cases fu_0 with
 | zero => exact absurd hm (by unfold m_telltalelaw11_Own_l0; simp)
 | succ fu_0 =>
  unfold m_telltalelaw11_Own_l0 at hm
  refine Sq <| Sx <| Wm (.i y4_0) rfl <| Wm (.l enc_GNode_ p0) rfl <| Wz (.i ((List.length p0 : Nat) : Int)) (Oln rfl) <| Wz (.b (decide (y4_0 < ((List.length p0 : Nat) : Int)))) (Obn rfl (fun _ => hb_lss (k := .i64))) <| Nk 537 1 ⟨.l enc_GNode_ p0::tp 2 (.own 0::.i y4_0::tp 4 (.b (decide (y4_0 < ((List.length p0 : Nat) : Int)))::tp 21 [])), [(Ar 75 8 enc_GNode_ y3_0)], 0⟩ ?_
  rcases tf_ (decide (y4_0 < ((List.length p0 : Nat) : Int))) with hc9_4 | hc9_4
  ·
   replace hm := cT hc9_4 hm
   refine AiT hc9_4 <| Sk <| Tk 25 1 ⟨.l enc_GNode_ p0::tp 2 (.own 0::.i y4_0::tp 26 []), [(Ar 75 8 enc_GNode_ y3_0)], 0⟩ <| Sq <| Bk <| Sx <| Wm (.l enc_GNode_ p0) rfl <| Wm (.i y4_0) rfl ?_
   obtain ⟨x14_2, hx14_2, hm⟩ := bnd hm
   obtain ⟨hx14_2i, hx14_2g⟩ := geti_some hx14_2
   refine Wz (.d (.ref (List.drop ((Int.toNat y4_0) * 8) (flatD enc_GNode_ p0)))) (Oia rfl enc_GNode__len hx14_2i hx14_2g) <| Wz (.agg [(.y x14_2.Kind), (.y x14_2.Op), (.s x14_2.Var), (.s x14_2.Name), (.y x14_2.Val.Kind), (.i x14_2.Val.N), (.u x14_2.Val.Bits), (.s x14_2.Val.Text)]) (Lf rfl enc_GNode__len hx14_2g) <| Wy (.loc 1 0) [(1, (.box [(.y 0), (.y 0), (.s ([] : List UInt8)), (.s ([] : List UInt8)), (.y 0), (.i 0), (.u 0), (.s ([] : List UInt8))]))] (Oal rfl) <| Wy (.tup []) [(1, (.box [(.y x14_2.Kind), (.y x14_2.Op), (.s x14_2.Var), (.s x14_2.Name), (.y x14_2.Val.Kind), (.i x14_2.Val.N), (.u x14_2.Val.Bits), (.s x14_2.Val.Text)]))] (Ost rfl) <| Nk 57 3 ⟨.l enc_GNode_ p0::tp 2 (.own 0::.i y4_0::.loc 1 0::tp 25 []), [(Ar 75 8 enc_GNode_ y3_0), (.box [(.y x14_2.Kind), (.y x14_2.Op), (.s x14_2.Var), (.s x14_2.Name), (.y x14_2.Val.Kind), (.i x14_2.Val.N), (.u x14_2.Val.Bits), (.s x14_2.Val.Text)])], 0⟩ <| Tx <| Wm (.own 0) rfl <| Wz (.loc 1 0) (Ofa rfl) <| Wz (.y x14_2.Kind) (Old rfl) <| Wz (.loc 1 1) (Ofa rfl) <| Wz (.y x14_2.Op) (Old rfl) <| Wz (.loc 1 2) (Ofa rfl) <| Wz (.s x14_2.Var) (Old rfl) <| Wz (.loc 1 3) (Ofa rfl) ?_
   refine Wz (.s x14_2.Name) (Old rfl) <| Wz (.loc 1 4) (Ofa rfl) <| Wz (.agg [(.y x14_2.Val.Kind), (.i x14_2.Val.N), (.u x14_2.Val.Bits), (.s x14_2.Val.Text)]) (Old rfl) <| Wz (.agg [(.y x14_2.Kind), (.y x14_2.Op), (.s x14_2.Var), (.s x14_2.Name), (.y x14_2.Val.Kind), (.i x14_2.Val.N), (.u x14_2.Val.Bits), (.s x14_2.Val.Text)]) (Obd rfl) <| Wy (.own 2) [(2, (Ar 75 8 enc_GNode_ ([x14_2] : List GNode_)))] (Obs rfl) ?_
   obtain ⟨a29_3, ha29_3, hm⟩ := bnd hm; obtain ⟨ha29_3e, ha29_3l⟩ := app_some ha29_3
   refine Wy (.own 3) [(0, .gone), (3, (Ar 75 8 enc_GNode_ a29_3))] (Oap rfl elemOK_42 enc_GNode__len ha29_3e ha29_3l) <| Wm (.own 3) rfl <| Wn0 <| Ino <| Tk 25 8 ⟨.l enc_GNode_ p0::tp 2 (.own 3::.i y4_0::tp 26 []), [.gone, .gone, .gone, (Ar 75 8 enc_GNode_ a29_3)], 0⟩ <| Tx <| Wm (.i y4_0) rfl <| Wz (.i (W6 (y4_0 + 1))) (Obn rfl (fun _ => hb_add (k := .i64))) <| Wm (.i (W6 (y4_0 + 1))) rfl <| Wn0 <| RoundK.normal ?_
   exact Rounds.weak (Weak.toK 25 0 0 [3]) (ih_0 (fu_0, a29_3, (W6 (y4_0 + 1))) hm (Nat.lt_succ_self _))
  ·
   replace hm := cF hc9_4 hm
   refine AiF hc9_4 <| AWP.exit <| Then.exit <| RoundK.exit <| InBlock.same <| Tk 8 1 ⟨tp 3 (.own 0::tp 27 []), [(Ar 75 8 enc_GNode_ y3_0)], 0⟩ <| Sx <| Wm (.own 0) rfl <| Wm (.own 0) rfl <| Nn <| Rt ?_
   obtain rfl := Option.some.inj hm
   exact ret_i [0]

theorem ok_telltalelaw13_Own (p0 : GPattern) (r : GPattern) (h : m_telltalelaw13_Own p0 = some r) : GCall Try.prog 8 [(.agg [(.l enc_GNode p0.Body), (.i p0.Within), (.s p0.By), (.y p0.Mode)])] [] (.agg [(.own 0), (.i r.Within), (.s r.By), (.y r.Mode)]) [(Ar 44 7 enc_GNode r.Body)] := by
 refine GCall.of_body (n := 47) (rs := [(.cell 2 30)]) Try.func8 rfl rfl rfl <| Ato ⟨.agg [(.l enc_GNode p0.Body), (.i p0.Within), (.s p0.By), (.y p0.Mode)]::tu 46 [], [], 0⟩ ?_
 have hm := h
 unfold m_telltalelaw13_Own at hm
 refine Sx <| Wy (.loc 0 0) [(0, (.box [(.l enc_GNode p0.Body), (.i p0.Within), (.s p0.By), (.y p0.Mode)]))] (Obx rfl) <| Wy (.loc 1 0) [(1, (.box [(.d .nil), (.i 0), (.s ([] : List UInt8)), (.y 0)]))] (Oal rfl) <| Nk 6 3 ⟨tp 1 (.loc 0 0::.loc 1 0::tp 44 []), [(.box [(.l enc_GNode p0.Body), (.i p0.Within), (.s p0.By), (.y p0.Mode)]), (.box [(.d .nil), (.i 0), (.s ([] : List UInt8)), (.y 0)])], 0⟩ <| Sx <| Wz (.loc 0 1) (Ofa rfl) <| Wz (.i p0.Within) (Old rfl) <| Wz (.loc 0 2) (Ofa rfl) <| Wz (.s p0.By) (Old rfl) <| Wz (.loc 0 3) (Ofa rfl) <| Wz (.y p0.Mode) (Old rfl) <| Wz (.agg [(.d .nil), (.i p0.Within), (.s p0.By), (.y p0.Mode)]) (Obd rfl) <| Wy (.loc 2 0) [(2, (.box [(.d .nil), (.i 0), (.s ([] : List UInt8)), (.y 0)]))] (Oal rfl) <| Wy (.tup []) [(2, (.box [(.d .nil), (.i p0.Within), (.s p0.By), (.y p0.Mode)]))] (Ost rfl) ?_
 refine Nk 14 7 ⟨tp 1 (.loc 0 0::.loc 1 0::.loc 2 0::tp 43 []), [(.box [(.l enc_GNode p0.Body), (.i p0.Within), (.s p0.By), (.y p0.Mode)]), (.box [(.d .nil), (.i 0), (.s ([] : List UInt8)), (.y 0)]), (.box [(.d .nil), (.i p0.Within), (.s p0.By), (.y p0.Mode)])], 0⟩ <| Sq <| Sx <| Wm (.i 0) rfl <| Nk 30 7 ⟨tp 1 (.loc 0 0::.loc 1 0::.loc 2 0::.i 0::tp 42 []), [(.box [(.l enc_GNode p0.Body), (.i p0.Within), (.s p0.By), (.y p0.Mode)]), (.box [(.d .nil), (.i 0), (.s ([] : List UInt8)), (.y 0)]), (.box [(.d .nil), (.i p0.Within), (.s p0.By), (.y p0.Mode)])], 0⟩ <| Bk <| Aob 2 0 44 7 ⟨tp 1 (.loc 0 0::.loc 1 0::.loc 2 0::.i 0::tp 42 []), [(.box [(.l enc_GNode p0.Body), (.i p0.Within), (.s p0.By), (.y p0.Mode)]), (.box [(.d .nil), (.i 0), (.s ([] : List UInt8)), (.y 0)]), (.box [(.own 3), (.i p0.Within), (.s p0.By), (.y p0.Mode)]), (Ar 44 7 enc_GNode ([] : List GNode))], 0⟩ ?_
 refine AWP.loopI (α := Nat × (List GNode) × Int)
   (fun (fu_0, y3_d_0_0, y4_0) => (⟨tp 1 (.loc 0 0::.loc 1 0::.loc 2 0::.i y4_0::tp 42 []), [(.box [(.l enc_GNode p0.Body), (.i p0.Within), (.s p0.By), (.y p0.Mode)]), (.box [(.d .nil), (.i 0), (.s ([] : List UInt8)), (.y 0)]), (.box [(.own 3), (.i p0.Within), (.s p0.By), (.y p0.Mode)]), (Ar 44 7 enc_GNode y3_d_0_0)], 0⟩ : St))
   (fun (fu_0, y3_d_0_0, y4_0) => m_telltalelaw13_Own_l0 p0 fu_0 y3_d_0_0 y4_0 = some r)
   (fun (fu_0, y3_d_0_0, y4_0) => fu_0) (1152921504606846976, ([] : List GNode), 0)
   (Weak.toK 30 0 0 [0, 1, 2, 3]) hm ?_
 rintro ⟨fu_0, y3_d_0_0, y4_0⟩ n_0 hm ih_0
 try dsimp only at hm ih_0 ⊢
 cases fu_0 with
 | zero => exact absurd hm (by unfold m_telltalelaw13_Own_l0; simp)
 | succ fu_0 =>
  unfold m_telltalelaw13_Own_l0 at hm
  refine Sq <| Sx <| Wm (.i y4_0) rfl <| Wz (.loc 0 0) (Ofa rfl) <| Wz (.l enc_GNode p0.Body) (Old rfl) <| Wz (.i ((List.length p0.Body : Nat) : Int)) (Oln rfl) <| Wz (.b (decide (y4_0 < ((List.length p0.Body : Nat) : Int)))) (Obn rfl (fun _ => hb_lss (k := .i64))) <| Nk 131102 15 ⟨tp 1 (.loc 0 0::.loc 1 0::.loc 2 0::.i y4_0::tp 12 (.b (decide (y4_0 < ((List.length p0.Body : Nat) : Int)))::tp 29 [])), [(.box [(.l enc_GNode p0.Body), (.i p0.Within), (.s p0.By), (.y p0.Mode)]), (.box [(.d .nil), (.i 0), (.s ([] : List UInt8)), (.y 0)]), (.box [(.own 3), (.i p0.Within), (.s p0.By), (.y p0.Mode)]), (Ar 44 7 enc_GNode y3_d_0_0)], 0⟩ ?_
  rcases tf_ (decide (y4_0 < ((List.length p0.Body : Nat) : Int))) with hc17_4 | hc17_4
  ·
   replace hm := cT hc17_4 hm
   refine AiT hc17_4 <| Sk <| Tk 30 15 ⟨tp 1 (.loc 0 0::.loc 1 0::.loc 2 0::.i y4_0::tp 42 []), [(.box [(.l enc_GNode p0.Body), (.i p0.Within), (.s p0.By), (.y p0.Mode)]), (.box [(.d .nil), (.i 0), (.s ([] : List UInt8)), (.y 0)]), (.box [(.own 3), (.i p0.Within), (.s p0.By), (.y p0.Mode)]), (Ar 44 7 enc_GNode y3_d_0_0)], 0⟩ <| Sq <| Bk <| Sx <| Wz (.loc 0 0) (Ofa rfl) <| Wz (.l enc_GNode p0.Body) (Old rfl) <| Wm (.i y4_0) rfl ?_
   obtain ⟨x23_2, hx23_2, hm⟩ := bnd hm
   obtain ⟨hx23_2i, hx23_2g⟩ := geti_some hx23_2
   refine Wz (.d (.ref (List.drop ((Int.toNat y4_0) * 7) (flatD enc_GNode p0.Body)))) (Oia rfl enc_GNode_len hx23_2i hx23_2g) <| Wz (.agg [(.y x23_2.Kind), (.i x23_2.Kids), (.i x23_2.Lo), (.i x23_2.Hi), (.s x23_2.Var), (.s x23_2.Type_), (.l enc_GNode_ x23_2.Test)]) (Lf rfl enc_GNode_len hx23_2g) <| Wy (.loc 4 0) [(4, (.box [(.y 0), (.i 0), (.i 0), (.i 0), (.s ([] : List UInt8)), (.s ([] : List UInt8)), (.d .nil)]))] (Oal rfl) <| Wy (.tup []) [(4, (.box [(.y x23_2.Kind), (.i x23_2.Kids), (.i x23_2.Lo), (.i x23_2.Hi), (.s x23_2.Var), (.s x23_2.Type_), (.l enc_GNode_ x23_2.Test)]))] (Ost rfl) <| Nk 62 31 ⟨tp 1 (.loc 0 0::.loc 1 0::.loc 2 0::.i y4_0::.loc 4 0::tp 41 []), [(.box [(.l enc_GNode p0.Body), (.i p0.Within), (.s p0.By), (.y p0.Mode)]), (.box [(.d .nil), (.i 0), (.s ([] : List UInt8)), (.y 0)]), (.box [(.own 3), (.i p0.Within), (.s p0.By), (.y p0.Mode)]), (Ar 44 7 enc_GNode y3_d_0_0), (.box [(.y x23_2.Kind), (.i x23_2.Kids), (.i x23_2.Lo), (.i x23_2.Hi), (.s x23_2.Var), (.s x23_2.Type_), (.l enc_GNode_ x23_2.Test)])], 0⟩ <| Adr <| Wz (.loc 2 0) (Ofa rfl) <| Wz (.own 3) (Old rfl) <| Wz (.loc 4 0) (Ofa rfl) <| Wz (.y x23_2.Kind) (Old rfl) <| Wz (.loc 4 1) (Ofa rfl) <| Wz (.i x23_2.Kids) (Old rfl) <| Wz (.loc 4 2) (Ofa rfl) <| Wz (.i x23_2.Lo) (Old rfl) ?_
   refine Wz (.loc 4 3) (Ofa rfl) <| Wz (.i x23_2.Hi) (Old rfl) <| Wz (.loc 4 4) (Ofa rfl) <| Wz (.s x23_2.Var) (Old rfl) <| Wz (.loc 4 5) (Ofa rfl) <| Wz (.s x23_2.Type_) (Old rfl) <| Wz (.loc 4 6) (Ofa rfl) <| Wz (.l enc_GNode_ x23_2.Test) (Old rfl) ?_
   obtain ⟨r41_3, hr41_3, hm⟩ := bnd hm
   refine Wy (.l enc_GNode_ r41_3) [(5, (Ar 75 8 enc_GNode_ r41_3)), (5, (.fro 75 8 (List.length r41_3) (flatD enc_GNode_ r41_3)))] (Ofz [5] (.own 5) [(5, (Ar 75 8 enc_GNode_ r41_3))] (Ocf [] [5] [] 0 (ok_telltalelaw11_Own x23_2.Test r41_3 hr41_3) (fun a w => Try.call22 a w) rfl trivial)) <| Wz (.agg [(.y x23_2.Kind), (.i x23_2.Kids), (.i x23_2.Lo), (.i x23_2.Hi), (.s x23_2.Var), (.s x23_2.Type_), (.l enc_GNode_ r41_3)]) (Obd rfl) <| Wy (.own 6) [(6, (Ar 44 7 enc_GNode ([(GNode.mk x23_2.Kind x23_2.Kids x23_2.Lo x23_2.Hi x23_2.Var x23_2.Type_ r41_3)] : List GNode)))] (Obs rfl) ?_
   obtain ⟨a44_3, ha44_3, hm⟩ := bnd hm; obtain ⟨ha44_3e, ha44_3l⟩ := app_some ha44_3
   refine Wy (.own 7) [(3, .gone), (7, (Ar 44 7 enc_GNode a44_3))] (Oap rfl elemOK_28 enc_GNode_len ha44_3e ha44_3l) <| Wz (.loc 2 0) (Ofa rfl) <| Wy (.tup []) [(2, (.box [(.own 7), (.i p0.Within), (.s p0.By), (.y p0.Mode)]))] (Ost rfl) <| Wdr <| Ino <| Tk 30 135 ⟨tp 1 (.loc 0 0::.loc 1 0::.loc 2 0::.i y4_0::tp 42 []), [(.box [(.l enc_GNode p0.Body), (.i p0.Within), (.s p0.By), (.y p0.Mode)]), (.box [(.d .nil), (.i 0), (.s ([] : List UInt8)), (.y 0)]), (.box [(.own 7), (.i p0.Within), (.s p0.By), (.y p0.Mode)]), .gone, .gone, .gone, .gone, (Ar 44 7 enc_GNode a44_3)], 0⟩ <| Tx <| Wm (.i y4_0) rfl <| Wz (.i (W6 (y4_0 + 1))) (Obn rfl (fun _ => hb_add (k := .i64))) <| Wm (.i (W6 (y4_0 + 1))) rfl <| Wn0 <| RoundK.normal ?_
   exact Rounds.weak (Weak.toK 30 0 0 [0, 1, 2, 7]) (ih_0 (fu_0, a44_3, (W6 (y4_0 + 1))) hm (Nat.lt_succ_self _))
  ·
   replace hm := cF hc17_4 hm
   refine AiF hc17_4 <| AWP.exit <| Then.exit <| RoundK.exit <| InBlock.same <| Tk 12 14 ⟨tp 2 (.loc 1 0::.loc 2 0::tp 43 []), [.gone, (.box [(.d .nil), (.i 0), (.s ([] : List UInt8)), (.y 0)]), (.box [(.own 3), (.i p0.Within), (.s p0.By), (.y p0.Mode)]), (Ar 44 7 enc_GNode y3_d_0_0)], 0⟩ <| Sx <| Wz (.agg [(.own 3), (.i p0.Within), (.s p0.By), (.y p0.Mode)]) (Old rfl) <| Wy (.tup []) [(1, (.box [(.own 3), (.i p0.Within), (.s p0.By), (.y p0.Mode)]))] (Ost rfl) <| Nn <| Rt ?_
   obtain rfl := Option.some.inj hm
   exact ret_i [3]

theorem ok_telltalelaw13_ShapeApart (p0 : GPattern) (p1 : GPattern) (r : Bool) (h : m_telltalelaw13_ShapeApart p0 p1 = some r) : GCall Try.prog 5 [(.agg [(.l enc_GNode p0.Body), (.i p0.Within), (.s p0.By), (.y p0.Mode)]), (.agg [(.l enc_GNode p1.Body), (.i p1.Within), (.s p1.By), (.y p1.Mode)])] [] (.b r) [] := by
 refine GCall.of_body (n := 41) (rs := [(.tmp 4)]) Try.func5 rfl rfl rfl <| Ato ⟨.agg [(.l enc_GNode p0.Body), (.i p0.Within), (.s p0.By), (.y p0.Mode)]::.agg [(.l enc_GNode p1.Body), (.i p1.Within), (.s p1.By), (.y p1.Mode)]::tu 39 [], [], 0⟩ ?_
 have hm := h
 unfold m_telltalelaw13_ShapeApart at hm
 refine Sx <| Wy (.loc 0 0) [(0, (.box [(.l enc_GNode p0.Body), (.i p0.Within), (.s p0.By), (.y p0.Mode)]))] (Obx rfl) <| Wy (.loc 1 0) [(1, (.box [(.l enc_GNode p1.Body), (.i p1.Within), (.s p1.By), (.y p1.Mode)]))] (Obx rfl) <| Wm (.b false) rfl <| Nk 12 3 ⟨tp 2 (.loc 0 0::.loc 1 0::tp 37 []), [(.box [(.l enc_GNode p0.Body), (.i p0.Within), (.s p0.By), (.y p0.Mode)]), (.box [(.l enc_GNode p1.Body), (.i p1.Within), (.s p1.By), (.y p1.Mode)])], 0⟩ <| Sq <| Sx <| Wz (.agg [(.l enc_GNode p0.Body), (.i p0.Within), (.s p0.By), (.y p0.Mode)]) (Old rfl) ?_
 obtain ⟨r8_0, hr8_0, hm⟩ := bnd hm
 refine Wz (.i r8_0) (Ocf [] [] [] 0 (ok_telltalelaw13_Over p0 r8_0 hr8_0) (fun a w => Try.call6 a w) rfl trivial) <| Wz (.b (decide ((0 : Int) < r8_0))) (Obn rfl (fun _ => hb_gtr (k := .i64))) ?_
 rcases tf_ (decide ((0 : Int) < r8_0)) with hq10_0 | hq10_0
 ·
  replace hm := cT hq10_0 hm
  refine Wz (.b true) (Oq hq10_0 rfl) <| Wn <| Wn <| Wn <| Wz (.b true) (OpT rfl) <| Nk 16396 3 ⟨tp 2 (.loc 0 0::.loc 1 0::tp 10 (.b true::tp 26 [])), [(.box [(.l enc_GNode p0.Body), (.i p0.Within), (.s p0.By), (.y p0.Mode)]), (.box [(.l enc_GNode p1.Body), (.i p1.Within), (.s p1.By), (.y p1.Mode)])], 0⟩ <| AWP.if_ true (by kernel_rfl) <| Sx ?_
  obtain ⟨r15_1, hr15_1, hm⟩ := bnd hm
  refine Wz (.b r15_1) (Ocf [] [] [] 0 (ok_telltalelaw13_awake  r15_1 hr15_1) (fun a w => Try.call7 a w) rfl trivial) <| Wm (.b r15_1) rfl <| Nn <| Rt <| Tr ?_
  obtain rfl := Option.some.inj hm
  exact ret_i []
 ·
  replace hm := cF hq10_0 hm
  refine Wz (.b false) (Oq hq10_0 rfl) <| Wz (.agg [(.l enc_GNode p1.Body), (.i p1.Within), (.s p1.By), (.y p1.Mode)]) (Old rfl) ?_
  obtain ⟨r12_0, hr12_0, hm⟩ := bnd hm
  refine Wz (.i r12_0) (Ocf [] [] [] 0 (ok_telltalelaw13_Over p1 r12_0 hr12_0) (fun a w => Try.call6 a w) rfl trivial) <| Wz (.b (decide ((0 : Int) < r12_0))) (Obn rfl (fun _ => hb_gtr (k := .i64))) <| Wz (.b (decide ((0 : Int) < r12_0))) (OpF rfl) <| Nk 16396 3 ⟨tp 2 (.loc 0 0::.loc 1 0::tp 10 (.b (decide ((0 : Int) < r12_0))::tp 26 [])), [(.box [(.l enc_GNode p0.Body), (.i p0.Within), (.s p0.By), (.y p0.Mode)]), (.box [(.l enc_GNode p1.Body), (.i p1.Within), (.s p1.By), (.y p1.Mode)])], 0⟩ ?_
  rcases tf_ (decide ((0 : Int) < r12_0)) with hc14_8 | hc14_8
  ·
   replace hm := cT hc14_8 hm
   refine AiT hc14_8 <| Sx ?_
   obtain ⟨r15_2, hr15_2, hm⟩ := bnd hm
   refine Wz (.b r15_2) (Ocf [] [] [] 0 (ok_telltalelaw13_awake  r15_2 hr15_2) (fun a w => Try.call7 a w) rfl trivial) <| Wm (.b r15_2) rfl <| Nn <| Rt <| Tr ?_
   obtain rfl := Option.some.inj hm
   exact ret_i []
  ·
   replace hm := cF hc14_8 hm
   refine AiF hc14_8 <| Sk <| Tk 12 3 ⟨tp 2 (.loc 0 0::.loc 1 0::tp 37 []), [(.box [(.l enc_GNode p0.Body), (.i p0.Within), (.s p0.By), (.y p0.Mode)]), (.box [(.l enc_GNode p1.Body), (.i p1.Within), (.s p1.By), (.y p1.Mode)])], 0⟩ <| Sq <| Adr <| Wz (.agg [(.l enc_GNode p0.Body), (.i p0.Within), (.s p0.By), (.y p0.Mode)]) (Old rfl) ?_
   obtain ⟨r17_3, hr17_3, hm⟩ := bnd hm
   refine Wy (.agg [(.own 2), (.i r17_3.Within), (.s r17_3.By), (.y r17_3.Mode)]) [(2, (Ar 44 7 enc_GNode r17_3.Body))] (Ocf [] [2] [] 0 (ok_telltalelaw13_Own p0 r17_3 hr17_3) (fun a w => Try.call8 a w) rfl trivial) <| Wz (.agg [(.l enc_GNode p1.Body), (.i p1.Within), (.s p1.By), (.y p1.Mode)]) (Old rfl) ?_
   obtain ⟨r19_3, hr19_3, hm⟩ := bnd hm
   refine Wy (.agg [(.own 3), (.i r19_3.Within), (.s r19_3.By), (.y r19_3.Mode)]) [(3, (Ar 44 7 enc_GNode r19_3.Body))] (Ocf [] [3] [] 0 (ok_telltalelaw13_Own p1 r19_3 hr19_3) (fun a w => Try.call8 a w) rfl trivial) <| Wy (.loc 4 0) [(4, (.box [(.d .nil), (.i 0), (.s ([] : List UInt8)), (.y 0)]))] (Oal rfl) <| Wy (.loc 5 0) [(5, (.box [(.d .nil), (.i 0), (.s ([] : List UInt8)), (.y 0)]))] (Oal rfl) <| Wy (.tup []) [(4, (.box [(.own 2), (.i r17_3.Within), (.s r17_3.By), (.y r17_3.Mode)]))] (Ost rfl) <| Wy (.tup []) [(5, (.box [(.own 3), (.i r19_3.Within), (.s r19_3.By), (.y r19_3.Mode)]))] (Ost rfl) <| Wdr <| Tk 96 60 ⟨tp 5 (.loc 4 0::.loc 5 0::tp 34 []), [.gone, .gone, (Ar 44 7 enc_GNode r17_3.Body), (Ar 44 7 enc_GNode r19_3.Body), (.box [(.own 2), (.i r17_3.Within), (.s r17_3.By), (.y r17_3.Mode)]), (.box [(.own 3), (.i r19_3.Within), (.s r19_3.By), (.y r19_3.Mode)])], 0⟩ <| Sq <| Sx <| Wz (.agg [(.own 2), (.i r17_3.Within), (.s r17_3.By), (.y r17_3.Mode)]) (Old rfl) ?_
   obtain ⟨r21_4, hr21_4, hm⟩ := bnd hm
   refine Wz (.i r21_4) (Ocp [] [] [2] 0 (ok_shape_Check r17_3 r21_4 hr21_4) (plain_triv (by simp [A.Plain, A.Plains, D.Plain, byteD])) (fun a w => Try.call11 a w) rfl trivial) <| Wz (.b (decide (r21_4 ≠ 0))) (Obn rfl (fun _ => hb_neq (k := .i64))) ?_
   rcases tf_ (decide (r21_4 ≠ 0)) with hq23_4 | hq23_4
   ·
    replace hm := cT hq23_4 hm
    refine Wz (.b true) (Oq hq23_4 rfl) <| Wn <| Wn <| Wn <| Wz (.b true) (OpT rfl) <| Nk 134217824 60 ⟨tp 5 (.loc 4 0::.loc 5 0::tp 20 (.b true::tp 13 [])), [.gone, .gone, (Ar 44 7 enc_GNode r17_3.Body), (Ar 44 7 enc_GNode r19_3.Body), (.box [(.own 2), (.i r17_3.Within), (.s r17_3.By), (.y r17_3.Mode)]), (.box [(.own 3), (.i r19_3.Within), (.s r19_3.By), (.y r19_3.Mode)])], 0⟩ <| AWP.if_ true (by kernel_rfl) <| Sx ?_
    obtain ⟨r28_5, hr28_5, hm⟩ := bnd hm
    refine Wz (.b r28_5) (Ocf [] [] [] 0 (ok_telltalelaw13_awake  r28_5 hr28_5) (fun a w => Try.call7 a w) rfl trivial) <| Wm (.b r28_5) rfl <| Nn <| Rt <| Tr ?_
    obtain rfl := Option.some.inj hm
    exact ret_i []
   ·
    replace hm := cF hq23_4 hm
    refine Wz (.b false) (Oq hq23_4 rfl) <| Wz (.agg [(.own 3), (.i r19_3.Within), (.s r19_3.By), (.y r19_3.Mode)]) (Old rfl) ?_
    obtain ⟨r25_4, hr25_4, hm⟩ := bnd hm
    refine Wz (.i r25_4) (Ocp [] [] [3] 0 (ok_shape_Check r19_3 r25_4 hr25_4) (plain_triv (by simp [A.Plain, A.Plains, D.Plain, byteD])) (fun a w => Try.call11 a w) rfl trivial) <| Wz (.b (decide (r25_4 ≠ 0))) (Obn rfl (fun _ => hb_neq (k := .i64))) <| Wz (.b (decide (r25_4 ≠ 0))) (OpF rfl) <| Nk 134217824 60 ⟨tp 5 (.loc 4 0::.loc 5 0::tp 20 (.b (decide (r25_4 ≠ 0))::tp 13 [])), [.gone, .gone, (Ar 44 7 enc_GNode r17_3.Body), (Ar 44 7 enc_GNode r19_3.Body), (.box [(.own 2), (.i r17_3.Within), (.s r17_3.By), (.y r17_3.Mode)]), (.box [(.own 3), (.i r19_3.Within), (.s r19_3.By), (.y r19_3.Mode)])], 0⟩ ?_
    rcases tf_ (decide (r25_4 ≠ 0)) with hc27_9 | hc27_9
    ·
     replace hm := cT hc27_9 hm
     refine AiT hc27_9 <| Sx ?_
     obtain ⟨r28_6, hr28_6, hm⟩ := bnd hm
     refine Wz (.b r28_6) (Ocf [] [] [] 0 (ok_telltalelaw13_awake  r28_6 hr28_6) (fun a w => Try.call7 a w) rfl trivial) <| Wm (.b r28_6) rfl <| Nn <| Rt <| Tr ?_
     obtain rfl := Option.some.inj hm
     exact ret_i []
    ·
     replace hm := cF hc27_9 hm
     refine AiF hc27_9 <| Sk <| Tk 96 60 ⟨tp 5 (.loc 4 0::.loc 5 0::tp 34 []), [.gone, .gone, (Ar 44 7 enc_GNode r17_3.Body), (Ar 44 7 enc_GNode r19_3.Body), (.box [(.own 2), (.i r17_3.Within), (.s r17_3.By), (.y r17_3.Mode)]), (.box [(.own 3), (.i r19_3.Within), (.s r19_3.By), (.y r19_3.Mode)])], 0⟩ <| Sq <| Adr <| Wz (.agg [(.own 2), (.i r17_3.Within), (.s r17_3.By), (.y r17_3.Mode)]) (Old rfl) ?_
     obtain ⟨r30_7, hr30_7, hm⟩ := bnd hm
     refine Wz (.s r30_7) (Ocp [] [] [2] 0 (ok_shape_Print r17_3 r30_7 hr30_7) (plain_triv (by simp [A.Plain, A.Plains, D.Plain, byteD])) (fun a w => Try.call13 a w) rfl trivial) <| Wz (.agg [(.own 3), (.i r19_3.Within), (.s r19_3.By), (.y r19_3.Mode)]) (Old rfl) ?_
     obtain ⟨r32_7, hr32_7, hm⟩ := bnd hm
     refine Wz (.s r32_7) (Ocp [] [] [3] 0 (ok_shape_Print r19_3 r32_7 hr32_7) (plain_triv (by simp [A.Plain, A.Plains, D.Plain, byteD])) (fun a w => Try.call13 a w) rfl trivial) <| Wz (.b (decide (r30_7 = r32_7))) (Ocs (lit_tf (by simp only [toS_inj, ne_eq])) (op_bin rfl (a1 := .string (toS r30_7)) (a2 := .string (toS r32_7)) (by kernel_rfl) (by kernel_rfl) (fun _ => hb_seql))) <| Wz (.agg [(.own 2), (.i r17_3.Within), (.s r17_3.By), (.y r17_3.Mode)]) (Old rfl) <| Wz (.agg [(.own 3), (.i r19_3.Within), (.s r19_3.By), (.y r19_3.Mode)]) (Old rfl) ?_
     obtain ⟨r36_7, hr36_7, hm⟩ := bnd hm
     refine Wz (.b r36_7) (Ocp [] [] [2, 3] 0 (ok_shape_Same r17_3 r19_3 r36_7 hr36_7) (plain_triv (by simp [A.Plain, A.Plains, D.Plain, byteD])) (fun a w => Try.call17 a w) rfl trivial) <| Wz (.b (decide (decide (r30_7 = r32_7) = r36_7))) (Ob2 (.bool (decide (r30_7 = r32_7))) (.bool r36_7) rfl (fun _ => hb_beql (by kernel_rfl))) ?_
     rcases tf_ (decide (decide (r30_7 = r32_7) = r36_7)) with hq38_7 | hq38_7
     ·
      replace hm := cT hq38_7 hm
      refine Wz (.b true) (Oq hq38_7 rfl) ?_
      obtain ⟨r39_7, hr39_7, hm⟩ := bnd hm
      refine Wz (.b r39_7) (Ocf [] [] [] 0 (ok_telltalelaw13_awake  r39_7 hr39_7) (fun a w => Try.call7 a w) rfl trivial) <| Wz (.b r39_7) (OpT rfl) <| Wm (.b r39_7) rfl <| Wdr <| Tn <| Rt ?_
      obtain rfl := Option.some.inj hm
      exact ret_i []
     ·
      replace hm := cF hq38_7 hm
      refine Wz (.b false) (Oq hq38_7 rfl) <| Wn <| Wz (.b false) (OpF rfl) <| Wm (.b false) rfl <| Wdr <| Tn <| Rt ?_
      obtain rfl := Option.some.inj hm
      exact ret_i []
end Go.Proofs.Ytdpmojhejidhiaa.K
