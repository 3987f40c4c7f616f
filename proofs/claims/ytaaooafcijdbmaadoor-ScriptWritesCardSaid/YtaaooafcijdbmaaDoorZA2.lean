/- what telltalelaw37.ScriptWrites needs (2) -/
import Derived.Test.YtaaooafcijdbmaaDoorZA1
import Derived.Test.YtaaooafcijdbmaaDoorZAm
import Derived.ProofKit
import Derived.OpenShut
import Derived.ShutString
import Derived.ChangeOld
import Derived.Carry
import Derived.Lib.BitFns
import Derived.Test.YtaaooafcijdbmaaDoorZOC
set_option linter.unusedVariables false
set_option linter.unusedSimpArgs false
namespace Go.Proofs.YtaaooafcijdbmaaDoor.K
open Go.RowKit Go.Lib
set_option maxRecDepth 20000
set_option maxHeartbeats 4000000

theorem ok_r04_Check (p0 : GValue) (r : Int) (h : m_r04_Check p0 = some r) : GCall Tryd.prog 78 [(.agg [(.y p0.Kind), (.i p0.N), (.u p0.Bits), (.s p0.Text)])] [] (.i r) [] := by
 refine GCall.of_body (n := 87) (rs := [(.tmp 2)]) Tryd.func78 rfl rfl rfl <| Ato ⟨.agg [(.y p0.Kind), (.i p0.N), (.u p0.Bits), (.s p0.Text)]::tu 86 [], [], 0⟩ ?_
 have hm := h
 unfold m_r04_Check at hm
 refine Sx <| Wy (.loc 0 0) [(0, (.box [(.y p0.Kind), (.i p0.N), (.u p0.Bits), (.s p0.Text)]))] (Obx rfl) <| Wm (.i 0) rfl <| Nk 2 1 ⟨tp 1 (.loc 0 0::tp 85 []), [(.box [(.y p0.Kind), (.i p0.N), (.u p0.Bits), (.s p0.Text)])], 0⟩ <| Sq <| Sx <| Wz (.loc 0 0) (Ofa rfl) <| Wz (.y p0.Kind) (Old rfl) <| Wz (.b (decide (((p0.Kind.toNat : Nat) : Int) < 1))) (Ob2 (.int .u8 ((p0.Kind.toNat : Nat) : Int)) (.int .u8 1) rfl (fun _ => hb_lss)) ?_
 rcases tf_ (decide (((p0.Kind.toNat : Nat) : Int) < 1)) with hq6_0 | hq6_0
 ·
  replace hm := cT hq6_0 hm
  refine Wz (.b true) (Oq hq6_0 rfl) <| Wn <| Wn <| Wn <| Wz (.b true) (OpT rfl) <| Nk 1026 1 ⟨tp 1 (.loc 0 0::tp 8 (.b true::tp 76 [])), [(.box [(.y p0.Kind), (.i p0.N), (.u p0.Bits), (.s p0.Text)])], 0⟩ <| AWP.if_ true (by kernel_rfl) <| Sx <| Wm (.i 11) rfl <| Nn <| Rt <| Tr ?_
  obtain rfl := Option.some.inj hm
  exact ret_i []
 ·
  replace hm := cF hq6_0 hm
  refine Wz (.b false) (Oq hq6_0 rfl) <| Wz (.loc 0 0) (Ofa rfl) <| Wz (.y p0.Kind) (Old rfl) <| Wz (.b (decide ((4 : Int) < ((p0.Kind.toNat : Nat) : Int)))) (Ob2 (.int .u8 ((p0.Kind.toNat : Nat) : Int)) (.int .u8 4) rfl (fun _ => hb_gtr)) <| Wz (.b (decide ((4 : Int) < ((p0.Kind.toNat : Nat) : Int)))) (OpF rfl) <| Nk 1026 1 ⟨tp 1 (.loc 0 0::tp 8 (.b (decide ((4 : Int) < ((p0.Kind.toNat : Nat) : Int)))::tp 76 [])), [(.box [(.y p0.Kind), (.i p0.N), (.u p0.Bits), (.s p0.Text)])], 0⟩ ?_
  rcases tf_ (decide ((4 : Int) < ((p0.Kind.toNat : Nat) : Int))) with hc10_14 | hc10_14
  ·
   replace hm := cT hc10_14 hm
   refine AiT hc10_14 <| Sx <| Wm (.i 11) rfl <| Nn <| Rt <| Tr ?_
   obtain rfl := Option.some.inj hm
   exact ret_i []
  ·
   replace hm := cF hc10_14 hm
   refine AiF hc10_14 <| Sk <| Tk 2 1 ⟨tp 1 (.loc 0 0::tp 85 []), [(.box [(.y p0.Kind), (.i p0.N), (.u p0.Bits), (.s p0.Text)])], 0⟩ ?_
   refine AWP.cutJ (α := Unit) (fun x => match x with | () => (⟨tp 1 (.loc 0 0::tp 85 []), [(.box [(.y p0.Kind), (.i p0.N), (.u p0.Bits), (.s p0.Text)])], 0⟩ : St)) (fun x => match x with | () => m_r04_Check_j5 p0 = some r) ?_ (fun J5 => ?_)
   ·
    rintro ⟨⟩ hm
    try dsimp only at hm ⊢
    unfold m_r04_Check_j5 at hm
    refine AWP.cutJ (α := Unit) (fun x => match x with | () => (⟨tp 1 (.loc 0 0::tp 85 []), [(.box [(.y p0.Kind), (.i p0.N), (.u p0.Bits), (.s p0.Text)])], 0⟩ : St)) (fun x => match x with | () => m_r04_Check_j7 p0 = some r) ?_ (fun J7 => ?_)
    ·
     rintro ⟨⟩ hm
     try dsimp only at hm ⊢
     unfold m_r04_Check_j7 at hm
     refine AWP.cutJ (α := Unit) (fun x => match x with | () => (⟨tp 1 (.loc 0 0::tp 85 []), [(.box [(.y p0.Kind), (.i p0.N), (.u p0.Bits), (.s p0.Text)])], 0⟩ : St)) (fun x => match x with | () => m_r04_Check_j9 p0 = some r) ?_ (fun J9 => ?_)
     ·
      rintro ⟨⟩ hm
      try dsimp only at hm ⊢
      unfold m_r04_Check_j9 at hm
      refine Sq ?_
      refine AWP.cutJ (α := Unit) (fun x => match x with | () => (⟨tp 86 (.b true::[]), [], 0⟩ : St)) (fun x => match x with | () => m_r04_Check_j11  = some r) ?_ (fun J11 => ?_)
      ·
       rintro ⟨⟩ hm
       try dsimp only at hm ⊢
       unfold m_r04_Check_j11 at hm
       refine AWP.if_ true (by kernel_rfl) <| Sx <| Wm (.i 2) rfl <| Nn <| Rt <| Tr ?_
       obtain rfl := Option.some.inj hm
       exact ret_i []
      refine AWP.cutJ (α := Unit) (fun x => match x with | () => (⟨tp 86 (.b (decide (p0.Text ≠ ([] : List UInt8)))::[]), [], 0⟩ : St)) (fun x => match x with | () => m_r04_Check_j12 p0 = some r) ?_ (fun J12 => ?_)
      ·
       rintro ⟨⟩ hm
       try dsimp only at hm ⊢
       unfold m_r04_Check_j12 at hm
       rcases tf_ (decide (p0.Text ≠ ([] : List UInt8))) with hc86_12 | hc86_12
       ·
        replace hm := cT hc86_12 hm
        refine AiT hc86_12 <| Sx <| Wm (.i 2) rfl <| Nn <| Rt <| Tr ?_
        obtain rfl := Option.some.inj hm
        exact ret_i []
       ·
        replace hm := cF hc86_12 hm
        refine AiF hc86_12 <| Sk <| Tk 0 0 ⟨tp 87 [], [], 0⟩ <| Sx <| Wm (.i 0) rfl <| Nn <| Rt ?_
        obtain rfl := Option.some.inj hm
        exact ret_i []
      refine AWP.cutJ (α := Unit) (fun x => match x with | () => (⟨tp 86 (.b false::[]), [], 0⟩ : St)) (fun x => match x with | () => m_r04_Check_j13  = some r) ?_ (fun J13 => ?_)
      ·
       rintro ⟨⟩ hm
       try dsimp only at hm ⊢
       unfold m_r04_Check_j13 at hm
       refine AWP.if_ false (by kernel_rfl) <| Sk <| Tk 0 0 ⟨tp 87 [], [], 0⟩ <| Sx <| Wm (.i 0) rfl <| Nn <| Rt ?_
       obtain rfl := Option.some.inj hm
       exact ret_i []
      refine Sx <| Wz (.loc 0 0) (Ofa rfl) <| Wz (.y p0.Kind) (Old rfl) <| Wz (.b (decide ((2 : Int) < ((p0.Kind.toNat : Nat) : Int)))) (Ob2 (.int .u8 ((p0.Kind.toNat : Nat) : Int)) (.int .u8 2) rfl (fun _ => hb_gtr)) ?_
      rcases tf_ (decide ((2 : Int) < ((p0.Kind.toNat : Nat) : Int))) with hq62_10 | hq62_10
      ·
       replace hm := cT hq62_10 hm
       refine Wz (.b true) (Oq hq62_10 rfl) <| Wz (.loc 0 1) (Ofa rfl) <| Wz (.i p0.N) (Old rfl) <| Wz (.b (decide (p0.N ≠ 0))) (Obn rfl (fun _ => hb_neq (k := .i64))) <| Wz (.b (decide (p0.N ≠ 0))) (OpT rfl) ?_
       rcases tf_ (decide (p0.N ≠ 0)) with hq67_10 | hq67_10
       ·
        replace hm := cT hq67_10 hm
        refine Wz (.b true) (Oq hq67_10 rfl) <| Wn <| Wn <| Wn <| Wn <| Wn <| Wn <| Wn <| Wn <| Wz (.b true) (OpT rfl) <| Wm (.b true) rfl <| Wn <| Wn <| Wn ?_
        refine Wn <| Wn <| Wn <| Wn <| Wn <| Wz (.b true) (OpT rfl) <| Nn ?_
        exact AWP.weak (Weak.toK 77371252455336267181195264 0 0 []) (J11 () hm)
       ·
        replace hm := cF hq67_10 hm
        refine Wz (.b false) (Oq hq67_10 rfl) <| Wz (.loc 0 0) (Ofa rfl) <| Wz (.y p0.Kind) (Old rfl) <| Wz (.b (decide (((p0.Kind.toNat : Nat) : Int) ≠ 3))) (Ob2 (.int .u8 ((p0.Kind.toNat : Nat) : Int)) (.int .u8 3) rfl (fun _ => hb_neq)) ?_
        rcases tf_ (decide (((p0.Kind.toNat : Nat) : Int) ≠ 3)) with hq71_10 | hq71_10
        ·
         replace hm := cT hq71_10 hm
         refine Wz (.b true) (Oq hq71_10 rfl) <| Wz (.loc 0 2) (Ofa rfl) <| Wz (.u p0.Bits) (Old rfl) <| Wz (.b (decide (p0.Bits ≠ 0))) (Obn rfl (fun _ => hb_neq (k := .u64))) <| Wz (.b (decide (p0.Bits ≠ 0))) (OpT rfl) <| Wz (.b (decide (p0.Bits ≠ 0))) (OpF rfl) ?_
         rcases tf_ (decide (p0.Bits ≠ 0)) with hq77_10 | hq77_10
         ·
          replace hm := cT hq77_10 hm
          refine Wz (.b true) (Oq hq77_10 rfl) <| Wn <| Wn <| Wn <| Wn <| Wn <| Wn <| Wn <| Wn <| Wz (.b true) (OpT rfl) <| Nn ?_
          exact AWP.weak (Weak.toK 77371252455336267181195264 0 0 []) (J11 () hm)
         ·
          replace hm := cF hq77_10 hm
          refine Wz (.b false) (Oq hq77_10 rfl) <| Wz (.loc 0 0) (Ofa rfl) <| Wz (.y p0.Kind) (Old rfl) <| Wz (.b (decide (((p0.Kind.toNat : Nat) : Int) ≠ 4))) (Ob2 (.int .u8 ((p0.Kind.toNat : Nat) : Int)) (.int .u8 4) rfl (fun _ => hb_neq)) ?_
          rcases tf_ (decide (((p0.Kind.toNat : Nat) : Int) ≠ 4)) with hq81_10 | hq81_10
          ·
           replace hm := cT hq81_10 hm
           refine Wz (.b true) (Oq hq81_10 rfl) <| Wz (.loc 0 3) (Ofa rfl) <| Wz (.s p0.Text) (Old rfl) <| Wz (.b (decide (p0.Text ≠ ([] : List UInt8)))) (Ocs (lit_tf (by simp only [toS_inj, ne_eq])) (op_bin rfl (a1 := .string (toS p0.Text)) (a2 := .string (toS ([] : List UInt8))) (by kernel_rfl) (by kernel_rfl) (fun _ => hb_sneq))) <| Wz (.b (decide (p0.Text ≠ ([] : List UInt8)))) (OpT rfl) <| Wz (.b (decide (p0.Text ≠ ([] : List UInt8)))) (OpF rfl) <| Nn ?_
           exact AWP.weak (Weak.toK 77371252455336267181195264 0 0 []) (J12 () hm)
          ·
           replace hm := cF hq81_10 hm
           refine Wz (.b false) (Oq hq81_10 rfl) <| Wn <| Wn <| Wn <| Wz (.b false) (OpF rfl) <| Wz (.b false) (OpF rfl) <| Nn ?_
           exact AWP.weak (Weak.toK 77371252455336267181195264 0 0 []) (J13 () hm)
        ·
         replace hm := cF hq71_10 hm
         refine Wz (.b false) (Oq hq71_10 rfl) <| Wn <| Wn <| Wn <| Wz (.b false) (OpF rfl) <| Wz (.b false) (OpF rfl) <| Wm (.b false) rfl <| Wz (.loc 0 0) (Ofa rfl) <| Wz (.y p0.Kind) (Old rfl) <| Wz (.b (decide (((p0.Kind.toNat : Nat) : Int) ≠ 4))) (Ob2 (.int .u8 ((p0.Kind.toNat : Nat) : Int)) (.int .u8 4) rfl (fun _ => hb_neq)) ?_
         rcases tf_ (decide (((p0.Kind.toNat : Nat) : Int) ≠ 4)) with hq81_10 | hq81_10
         ·
          replace hm := cT hq81_10 hm
          refine Wz (.b true) (Oq hq81_10 rfl) <| Wz (.loc 0 3) (Ofa rfl) <| Wz (.s p0.Text) (Old rfl) <| Wz (.b (decide (p0.Text ≠ ([] : List UInt8)))) (Ocs (lit_tf (by simp only [toS_inj, ne_eq])) (op_bin rfl (a1 := .string (toS p0.Text)) (a2 := .string (toS ([] : List UInt8))) (by kernel_rfl) (by kernel_rfl) (fun _ => hb_sneq))) <| Wz (.b (decide (p0.Text ≠ ([] : List UInt8)))) (OpT rfl) <| Wz (.b (decide (p0.Text ≠ ([] : List UInt8)))) (OpF rfl) <| Nn ?_
          exact AWP.weak (Weak.toK 77371252455336267181195264 0 0 []) (J12 () hm)
         ·
          replace hm := cF hq81_10 hm
          refine Wz (.b false) (Oq hq81_10 rfl) <| Wn <| Wn <| Wn <| Wz (.b false) (OpF rfl) <| Wz (.b false) (OpF rfl) <| Nn ?_
          exact AWP.weak (Weak.toK 77371252455336267181195264 0 0 []) (J13 () hm)
      ·
       replace hm := cF hq62_10 hm
       refine Wz (.b false) (Oq hq62_10 rfl) <| Wn <| Wn <| Wn <| Wz (.b false) (OpF rfl) <| Wm (.b false) rfl <| Wz (.loc 0 0) (Ofa rfl) <| Wz (.y p0.Kind) (Old rfl) <| Wz (.b (decide (((p0.Kind.toNat : Nat) : Int) ≠ 3))) (Ob2 (.int .u8 ((p0.Kind.toNat : Nat) : Int)) (.int .u8 3) rfl (fun _ => hb_neq)) ?_
       rcases tf_ (decide (((p0.Kind.toNat : Nat) : Int) ≠ 3)) with hq71_10 | hq71_10
       ·
        replace hm := cT hq71_10 hm
        refine Wz (.b true) (Oq hq71_10 rfl) <| Wz (.loc 0 2) (Ofa rfl) <| Wz (.u p0.Bits) (Old rfl) <| Wz (.b (decide (p0.Bits ≠ 0))) (Obn rfl (fun _ => hb_neq (k := .u64))) <| Wz (.b (decide (p0.Bits ≠ 0))) (OpT rfl) <| Wz (.b (decide (p0.Bits ≠ 0))) (OpF rfl) ?_
        rcases tf_ (decide (p0.Bits ≠ 0)) with hq77_10 | hq77_10
        ·
         replace hm := cT hq77_10 hm
         refine Wz (.b true) (Oq hq77_10 rfl) <| Wn <| Wn <| Wn <| Wn <| Wn <| Wn <| Wn <| Wn <| Wz (.b true) (OpT rfl) <| Nn ?_
         exact AWP.weak (Weak.toK 77371252455336267181195264 0 0 []) (J11 () hm)
        ·
         replace hm := cF hq77_10 hm
         refine Wz (.b false) (Oq hq77_10 rfl) <| Wz (.loc 0 0) (Ofa rfl) <| Wz (.y p0.Kind) (Old rfl) <| Wz (.b (decide (((p0.Kind.toNat : Nat) : Int) ≠ 4))) (Ob2 (.int .u8 ((p0.Kind.toNat : Nat) : Int)) (.int .u8 4) rfl (fun _ => hb_neq)) ?_
         rcases tf_ (decide (((p0.Kind.toNat : Nat) : Int) ≠ 4)) with hq81_10 | hq81_10
         ·
          replace hm := cT hq81_10 hm
          refine Wz (.b true) (Oq hq81_10 rfl) <| Wz (.loc 0 3) (Ofa rfl) <| Wz (.s p0.Text) (Old rfl) <| Wz (.b (decide (p0.Text ≠ ([] : List UInt8)))) (Ocs (lit_tf (by simp only [toS_inj, ne_eq])) (op_bin rfl (a1 := .string (toS p0.Text)) (a2 := .string (toS ([] : List UInt8))) (by kernel_rfl) (by kernel_rfl) (fun _ => hb_sneq))) <| Wz (.b (decide (p0.Text ≠ ([] : List UInt8)))) (OpT rfl) <| Wz (.b (decide (p0.Text ≠ ([] : List UInt8)))) (OpF rfl) <| Nn ?_
          exact AWP.weak (Weak.toK 77371252455336267181195264 0 0 []) (J12 () hm)
         ·
          replace hm := cF hq81_10 hm
          refine Wz (.b false) (Oq hq81_10 rfl) <| Wn <| Wn <| Wn <| Wz (.b false) (OpF rfl) <| Wz (.b false) (OpF rfl) <| Nn ?_
          exact AWP.weak (Weak.toK 77371252455336267181195264 0 0 []) (J13 () hm)
       ·
        replace hm := cF hq71_10 hm
        refine Wz (.b false) (Oq hq71_10 rfl) <| Wn <| Wn <| Wn <| Wz (.b false) (OpF rfl) <| Wz (.b false) (OpF rfl) <| Wm (.b false) rfl <| Wz (.loc 0 0) (Ofa rfl) <| Wz (.y p0.Kind) (Old rfl) <| Wz (.b (decide (((p0.Kind.toNat : Nat) : Int) ≠ 4))) (Ob2 (.int .u8 ((p0.Kind.toNat : Nat) : Int)) (.int .u8 4) rfl (fun _ => hb_neq)) ?_
        rcases tf_ (decide (((p0.Kind.toNat : Nat) : Int) ≠ 4)) with hq81_10 | hq81_10
        ·
         replace hm := cT hq81_10 hm
         refine Wz (.b true) (Oq hq81_10 rfl) <| Wz (.loc 0 3) (Ofa rfl) <| Wz (.s p0.Text) (Old rfl) <| Wz (.b (decide (p0.Text ≠ ([] : List UInt8)))) (Ocs (lit_tf (by simp only [toS_inj, ne_eq])) (op_bin rfl (a1 := .string (toS p0.Text)) (a2 := .string (toS ([] : List UInt8))) (by kernel_rfl) (by kernel_rfl) (fun _ => hb_sneq))) <| Wz (.b (decide (p0.Text ≠ ([] : List UInt8)))) (OpT rfl) <| Wz (.b (decide (p0.Text ≠ ([] : List UInt8)))) (OpF rfl) <| Nn ?_
         exact AWP.weak (Weak.toK 77371252455336267181195264 0 0 []) (J12 () hm)
        ·
         replace hm := cF hq81_10 hm
         refine Wz (.b false) (Oq hq81_10 rfl) <| Wn <| Wn <| Wn <| Wz (.b false) (OpF rfl) <| Wz (.b false) (OpF rfl) <| Nn ?_
         exact AWP.weak (Weak.toK 77371252455336267181195264 0 0 []) (J13 () hm)
     refine Sq <| Sx <| Wz (.loc 0 0) (Ofa rfl) <| Wz (.y p0.Kind) (Old rfl) <| Wz (.b (decide (((p0.Kind.toNat : Nat) : Int) = 4))) (Ob2 (.int .u8 ((p0.Kind.toNat : Nat) : Int)) (.int .u8 4) rfl (fun _ => hb_eql)) ?_
     rcases tf_ (decide (((p0.Kind.toNat : Nat) : Int) = 4)) with hq53_8 | hq53_8
     ·
      replace hm := cT hq53_8 hm
      refine Wz (.b true) (Oq hq53_8 rfl) <| Wz (.loc 0 3) (Ofa rfl) <| Wz (.s p0.Text) (Old rfl) <| Wz (.i ((List.length p0.Text : Nat) : Int)) (Oln rfl) <| Wz (.b (decide ((24 : Int) < ((List.length p0.Text : Nat) : Int)))) (Obn rfl (fun _ => hb_gtr (k := .i64))) <| Wz (.b (decide ((24 : Int) < ((List.length p0.Text : Nat) : Int)))) (OpT rfl) <| Nk 288230376151711746 1 ⟨tp 1 (.loc 0 0::tp 56 (.b (decide ((24 : Int) < ((List.length p0.Text : Nat) : Int)))::tp 28 [])), [(.box [(.y p0.Kind), (.i p0.N), (.u p0.Bits), (.s p0.Text)])], 0⟩ ?_
      rcases tf_ (decide ((24 : Int) < ((List.length p0.Text : Nat) : Int))) with hc58_15 | hc58_15
      ·
       replace hm := cT hc58_15 hm
       refine AiT hc58_15 <| Sx <| Wm (.i 5) rfl <| Nn <| Rt <| Tr ?_
       obtain rfl := Option.some.inj hm
       exact ret_i []
      ·
       replace hm := cF hc58_15 hm
       refine AiF hc58_15 <| Sk <| Tn ?_
       exact AWP.weak (Weak.toK 2 0 0 [0]) (J9 () hm)
     ·
      replace hm := cF hq53_8 hm
      refine Wz (.b false) (Oq hq53_8 rfl) <| Wn <| Wn <| Wn <| Wn <| Wz (.b false) (OpF rfl) <| Nk 288230376151711746 1 ⟨tp 1 (.loc 0 0::tp 56 (.b false::tp 28 [])), [(.box [(.y p0.Kind), (.i p0.N), (.u p0.Bits), (.s p0.Text)])], 0⟩ <| AWP.if_ false (by kernel_rfl) <| Sk <| Tn ?_
      exact AWP.weak (Weak.toK 2 0 0 [0]) (J9 () hm)
    refine Sq <| Sq <| Adr <| Wz (.loc 0 0) (Ofa rfl) <| Wz (.y p0.Kind) (Old rfl) <| Wz (.b (decide (((p0.Kind.toNat : Nat) : Int) = 3))) (Ob2 (.int .u8 ((p0.Kind.toNat : Nat) : Int)) (.int .u8 3) rfl (fun _ => hb_eql)) ?_
    rcases tf_ (decide (((p0.Kind.toNat : Nat) : Int) = 3)) with hq42_6 | hq42_6
    ·
     replace hm := cT hq42_6 hm
     refine Wz (.b true) (Oq hq42_6 rfl) <| Wz (.loc 0 2) (Ofa rfl) <| Wz (.u p0.Bits) (Old rfl) ?_
     obtain ⟨r45_6, hr45_6, hm⟩ := bnd hm
     refine Wz (.u r45_6) (Ocf [] [] [] 0 (ok_r03_Clean p0.Bits r45_6 hr45_6) (fun a w => Tryd.call99 a w) rfl trivial) <| Wz (.loc 0 2) (Ofa rfl) <| Wz (.u p0.Bits) (Old rfl) <| Wz (.b (decide (r45_6 ≠ p0.Bits))) (Obn rfl (fun _ => hb_neq (k := .u64))) <| Wz (.b (decide (r45_6 ≠ p0.Bits))) (OpT rfl) <| Wdr <| Tk 562949953421314 1 ⟨tp 1 (.loc 0 0::tp 47 (.b (decide (r45_6 ≠ p0.Bits))::tp 37 [])), [(.box [(.y p0.Kind), (.i p0.N), (.u p0.Bits), (.s p0.Text)])], 0⟩ ?_
     rcases tf_ (decide (r45_6 ≠ p0.Bits)) with hc49_16 | hc49_16
     ·
      replace hm := cT hc49_16 hm
      refine AiT hc49_16 <| Sx <| Wm (.i 4) rfl <| Nn <| Rt <| Tr ?_
      obtain rfl := Option.some.inj hm
      exact ret_i []
     ·
      replace hm := cF hc49_16 hm
      refine AiF hc49_16 <| Sk <| Tn ?_
      exact AWP.weak (Weak.toK 2 0 0 [0]) (J7 () hm)
    ·
     replace hm := cF hq42_6 hm
     refine Wz (.b false) (Oq hq42_6 rfl) <| Wn <| Wn <| Wn <| Wn <| Wn <| Wn <| Wz (.b false) (OpF rfl) <| Wdr <| Tk 562949953421314 1 ⟨tp 1 (.loc 0 0::tp 47 (.b false::tp 37 [])), [(.box [(.y p0.Kind), (.i p0.N), (.u p0.Bits), (.s p0.Text)])], 0⟩ <| AWP.if_ false (by kernel_rfl) <| Sk <| Tn ?_
     exact AWP.weak (Weak.toK 2 0 0 [0]) (J7 () hm)
   refine Sq ?_
   refine AWP.cutJ (α := Unit) (fun x => match x with | () => (⟨tp 1 (.loc 0 0::tp 36 (.b true::tp 48 [])), [(.box [(.y p0.Kind), (.i p0.N), (.u p0.Bits), (.s p0.Text)])], 0⟩ : St)) (fun x => match x with | () => m_r04_Check_j2  = some r) ?_ (fun J2 => ?_)
   ·
    rintro ⟨⟩ hm
    try dsimp only at hm ⊢
    unfold m_r04_Check_j2 at hm
    refine AWP.if_ true (by kernel_rfl) <| Sx <| Wm (.i 8) rfl <| Nn <| Rt <| Tr ?_
    obtain rfl := Option.some.inj hm
    exact ret_i []
   refine AWP.cutJ (α := Unit) (fun x => match x with | () => (⟨tp 1 (.loc 0 0::tp 36 (.b (decide ((1 : Int) < p0.N))::tp 48 [])), [(.box [(.y p0.Kind), (.i p0.N), (.u p0.Bits), (.s p0.Text)])], 0⟩ : St)) (fun x => match x with | () => m_r04_Check_j3 p0 = some r) ?_ (fun J3 => ?_)
   ·
    rintro ⟨⟩ hm
    try dsimp only at hm ⊢
    unfold m_r04_Check_j3 at hm
    rcases tf_ (decide ((1 : Int) < p0.N)) with hc38_3 | hc38_3
    ·
     replace hm := cT hc38_3 hm
     refine AiT hc38_3 <| Sx <| Wm (.i 8) rfl <| Nn <| Rt <| Tr ?_
     obtain rfl := Option.some.inj hm
     exact ret_i []
    ·
     replace hm := cF hc38_3 hm
     refine AiF hc38_3 <| Sk <| Tn ?_
     exact AWP.weak (Weak.toK 2 0 0 [0]) (J5 () hm)
   refine AWP.cutJ (α := Unit) (fun x => match x with | () => (⟨tp 1 (.loc 0 0::tp 36 (.b false::tp 48 [])), [(.box [(.y p0.Kind), (.i p0.N), (.u p0.Bits), (.s p0.Text)])], 0⟩ : St)) (fun x => match x with | () => m_r04_Check_j4 p0 = some r) ?_ (fun J4 => ?_)
   ·
    rintro ⟨⟩ hm
    try dsimp only at hm ⊢
    unfold m_r04_Check_j4 at hm
    refine AWP.if_ false (by kernel_rfl) <| Sk <| Tn ?_
    exact AWP.weak (Weak.toK 2 0 0 [0]) (J5 () hm)
   refine Sx <| Wz (.loc 0 0) (Ofa rfl) <| Wz (.y p0.Kind) (Old rfl) <| Wz (.b (decide (((p0.Kind.toNat : Nat) : Int) = 1))) (Ob2 (.int .u8 ((p0.Kind.toNat : Nat) : Int)) (.int .u8 1) rfl (fun _ => hb_eql)) ?_
   rcases tf_ (decide (((p0.Kind.toNat : Nat) : Int) = 1)) with hq14_1 | hq14_1
   ·
    replace hm := cT hq14_1 hm
    refine Wz (.b true) (Oq hq14_1 rfl) <| Wz (.loc 0 1) (Ofa rfl) <| Wz (.i p0.N) (Old rfl) <| Wz (.b (decide (p0.N < (-4611686018427387904)))) (Obn rfl (fun _ => hb_lss (k := .i64))) ?_
    rcases tf_ (decide (p0.N < (-4611686018427387904))) with hq18_1 | hq18_1
    ·
     replace hm := cT hq18_1 hm
     refine Wz (.b true) (Oq hq18_1 rfl) <| Wn <| Wn <| Wn <| Wz (.b true) (OpT rfl) <| Wz (.b true) (OpT rfl) <| Wm (.b true) rfl <| Wn <| Wn <| Wn <| Wn <| Wn <| Wn <| Wn ?_
     refine Wn <| Wn <| Wn <| Wn <| Wn <| Wn <| Wz (.b true) (OpT rfl) <| Nn ?_
     exact AWP.weak (Weak.toK 274877906946 0 0 [0]) (J2 () hm)
    ·
     replace hm := cF hq18_1 hm
     refine Wz (.b false) (Oq hq18_1 rfl) <| Wz (.loc 0 1) (Ofa rfl) <| Wz (.i p0.N) (Old rfl) <| Wz (.b (decide ((4611686018427387904 : Int) < p0.N))) (Obn rfl (fun _ => hb_gtr (k := .i64))) <| Wz (.b (decide ((4611686018427387904 : Int) < p0.N))) (OpF rfl) <| Wz (.b (decide ((4611686018427387904 : Int) < p0.N))) (OpT rfl) ?_
     rcases tf_ (decide ((4611686018427387904 : Int) < p0.N)) with hq24_1 | hq24_1
     ·
      replace hm := cT hq24_1 hm
      refine Wz (.b true) (Oq hq24_1 rfl) <| Wn <| Wn <| Wn <| Wn <| Wn <| Wn <| Wn <| Wn <| Wn <| Wn <| Wn <| Wn <| Wn ?_
      refine Wz (.b true) (OpT rfl) <| Nn ?_
      exact AWP.weak (Weak.toK 274877906946 0 0 [0]) (J2 () hm)
     ·
      replace hm := cF hq24_1 hm
      refine Wz (.b false) (Oq hq24_1 rfl) <| Wz (.loc 0 0) (Ofa rfl) <| Wz (.y p0.Kind) (Old rfl) <| Wz (.b (decide (((p0.Kind.toNat : Nat) : Int) = 2))) (Ob2 (.int .u8 ((p0.Kind.toNat : Nat) : Int)) (.int .u8 2) rfl (fun _ => hb_eql)) ?_
      rcases tf_ (decide (((p0.Kind.toNat : Nat) : Int) = 2)) with hq28_1 | hq28_1
      ·
       replace hm := cT hq28_1 hm
       refine Wz (.b true) (Oq hq28_1 rfl) <| Wz (.loc 0 1) (Ofa rfl) <| Wz (.i p0.N) (Old rfl) <| Wz (.b (decide (p0.N < 0))) (Obn rfl (fun _ => hb_lss (k := .i64))) ?_
       rcases tf_ (decide (p0.N < 0)) with hq32_1 | hq32_1
       ·
        replace hm := cT hq32_1 hm
        refine Wz (.b true) (Oq hq32_1 rfl) <| Wn <| Wn <| Wn <| Wz (.b true) (OpT rfl) <| Wz (.b true) (OpT rfl) <| Wz (.b true) (OpF rfl) <| Nn ?_
        exact AWP.weak (Weak.toK 274877906946 0 0 [0]) (J2 () hm)
       ·
        replace hm := cF hq32_1 hm
        refine Wz (.b false) (Oq hq32_1 rfl) <| Wz (.loc 0 1) (Ofa rfl) <| Wz (.i p0.N) (Old rfl) <| Wz (.b (decide ((1 : Int) < p0.N))) (Obn rfl (fun _ => hb_gtr (k := .i64))) <| Wz (.b (decide ((1 : Int) < p0.N))) (OpF rfl) <| Wz (.b (decide ((1 : Int) < p0.N))) (OpT rfl) <| Wz (.b (decide ((1 : Int) < p0.N))) (OpF rfl) <| Nn ?_
        exact AWP.weak (Weak.toK 274877906946 0 0 [0]) (J3 () hm)
      ·
       replace hm := cF hq28_1 hm
       refine Wz (.b false) (Oq hq28_1 rfl) <| Wn <| Wn <| Wn <| Wn <| Wn <| Wn <| Wn <| Wn <| Wz (.b false) (OpF rfl) <| Wz (.b false) (OpF rfl) <| Nn ?_
       exact AWP.weak (Weak.toK 274877906946 0 0 [0]) (J4 () hm)
   ·
    replace hm := cF hq14_1 hm
    refine Wz (.b false) (Oq hq14_1 rfl) <| Wn <| Wn <| Wn <| Wn <| Wn <| Wn <| Wn <| Wn <| Wz (.b false) (OpF rfl) <| Wm (.b false) rfl <| Wz (.loc 0 0) (Ofa rfl) <| Wz (.y p0.Kind) (Old rfl) <| Wz (.b (decide (((p0.Kind.toNat : Nat) : Int) = 2))) (Ob2 (.int .u8 ((p0.Kind.toNat : Nat) : Int)) (.int .u8 2) rfl (fun _ => hb_eql)) ?_
    rcases tf_ (decide (((p0.Kind.toNat : Nat) : Int) = 2)) with hq28_1 | hq28_1
    ·
     replace hm := cT hq28_1 hm
     refine Wz (.b true) (Oq hq28_1 rfl) <| Wz (.loc 0 1) (Ofa rfl) <| Wz (.i p0.N) (Old rfl) <| Wz (.b (decide (p0.N < 0))) (Obn rfl (fun _ => hb_lss (k := .i64))) ?_
     rcases tf_ (decide (p0.N < 0)) with hq32_1 | hq32_1
     ·
      replace hm := cT hq32_1 hm
      refine Wz (.b true) (Oq hq32_1 rfl) <| Wn <| Wn <| Wn <| Wz (.b true) (OpT rfl) <| Wz (.b true) (OpT rfl) <| Wz (.b true) (OpF rfl) <| Nn ?_
      exact AWP.weak (Weak.toK 274877906946 0 0 [0]) (J2 () hm)
     ·
      replace hm := cF hq32_1 hm
      refine Wz (.b false) (Oq hq32_1 rfl) <| Wz (.loc 0 1) (Ofa rfl) <| Wz (.i p0.N) (Old rfl) <| Wz (.b (decide ((1 : Int) < p0.N))) (Obn rfl (fun _ => hb_gtr (k := .i64))) <| Wz (.b (decide ((1 : Int) < p0.N))) (OpF rfl) <| Wz (.b (decide ((1 : Int) < p0.N))) (OpT rfl) <| Wz (.b (decide ((1 : Int) < p0.N))) (OpF rfl) <| Nn ?_
      exact AWP.weak (Weak.toK 274877906946 0 0 [0]) (J3 () hm)
    ·
     replace hm := cF hq28_1 hm
     refine Wz (.b false) (Oq hq28_1 rfl) <| Wn <| Wn <| Wn <| Wn <| Wn <| Wn <| Wn <| Wn <| Wz (.b false) (OpF rfl) <| Wz (.b false) (OpF rfl) <| Nn ?_
     exact AWP.weak (Weak.toK 274877906946 0 0 [0]) (J4 () hm)

theorem ok_r06_Fits (p0 : GType) (p1 : (List GValue)) (r : Int) (h : m_r06_Fits p0 p1 = some r) : GCall Tryd.prog 65 [(.agg [(.s p0.Name), (.l enc_GField p0.Fields)]), (.l enc_GValue p1)] [] (.i r) [] := by
 refine GCall.of_body (n := 39) (rs := [(.tmp 4)]) Tryd.func65 rfl rfl rfl <| Ato ⟨.agg [(.s p0.Name), (.l enc_GField p0.Fields)]::.l enc_GValue p1::tu 37 [], [], 0⟩ ?_
 have hm := h
 unfold m_r06_Fits at hm
 refine Sx <| Wy (.loc 0 0) [(0, (.box [(.s p0.Name), (.l enc_GField p0.Fields)]))] (Obx rfl) <| Wm (.i 0) rfl <| Nk 6 1 ⟨tp 1 (.l enc_GValue p1::.loc 0 0::tp 36 []), [(.box [(.s p0.Name), (.l enc_GField p0.Fields)])], 0⟩ <| Sq <| Sx <| Wm (.l enc_GValue p1) rfl <| Wz (.i ((List.length p1 : Nat) : Int)) (Oln rfl) <| Wz (.loc 0 1) (Ofa rfl) <| Wz (.l enc_GField p0.Fields) (Old rfl) <| Wz (.i ((List.length p0.Fields : Nat) : Int)) (Oln rfl) <| Wz (.b (decide (((List.length p1 : Nat) : Int) ≠ ((List.length p0.Fields : Nat) : Int)))) (Obn rfl (fun _ => hb_neq (k := .i64))) <| Nk 4102 1 ⟨tp 1 (.l enc_GValue p1::.loc 0 0::tp 9 (.b (decide (((List.length p1 : Nat) : Int) ≠ ((List.length p0.Fields : Nat) : Int)))::tp 26 [])), [(.box [(.s p0.Name), (.l enc_GField p0.Fields)])], 0⟩ ?_
 rcases tf_ (decide (((List.length p1 : Nat) : Int) ≠ ((List.length p0.Fields : Nat) : Int))) with hc12_5 | hc12_5
 ·
  replace hm := cT hc12_5 hm
  refine AiT hc12_5 <| Sx <| Wm (.i 5) rfl <| Nn <| Rt <| Tr ?_
  obtain rfl := Option.some.inj hm
  exact ret_i []
 ·
  replace hm := cF hc12_5 hm
  refine AiF hc12_5 <| Sk <| Tk 6 1 ⟨tp 1 (.l enc_GValue p1::.loc 0 0::tp 36 []), [(.box [(.s p0.Name), (.l enc_GField p0.Fields)])], 0⟩ <| Sq <| Sx <| Wm (.i 0) rfl <| Nk 38 1 ⟨tp 1 (.l enc_GValue p1::.loc 0 0::tp 2 (.i 0::tp 33 [])), [(.box [(.s p0.Name), (.l enc_GField p0.Fields)])], 0⟩ <| Bk ?_
  refine AWP.loopI (α := Nat × Int)
    (fun (fu_1, y5_1) => (⟨tp 1 (.l enc_GValue p1::.loc 0 0::tp 2 (.i y5_1::tp 33 [])), [(.box [(.s p0.Name), (.l enc_GField p0.Fields)])], 0⟩ : St))
    (fun (fu_1, y5_1) => m_r06_Fits_l1 p0 p1 fu_1 y5_1 = some r)
    (fun (fu_1, y5_1) => fu_1) (1152921504606846976, 0)
    (Weak.toK 38 0 0 [0]) hm ?_
  rintro ⟨fu_1, y5_1⟩ n_1 hm ih_1
  try dsimp only at hm ih_1 ⊢
  cases fu_1 with
  | zero => exact absurd hm (by unfold m_r06_Fits_l1; simp)
  | succ fu_1 =>
   unfold m_r06_Fits_l1 at hm
   refine Sq <| Sx <| Wm (.i y5_1) rfl <| Wm (.l enc_GValue p1) rfl <| Wz (.i ((List.length p1 : Nat) : Int)) (Oln rfl) <| Wz (.b (decide (y5_1 < ((List.length p1 : Nat) : Int)))) (Obn rfl (fun _ => hb_lss (k := .i64))) <| Nk 65574 1 ⟨tp 1 (.l enc_GValue p1::.loc 0 0::tp 2 (.i y5_1::tp 10 (.b (decide (y5_1 < ((List.length p1 : Nat) : Int)))::tp 22 []))), [(.box [(.s p0.Name), (.l enc_GField p0.Fields)])], 0⟩ ?_
   rcases tf_ (decide (y5_1 < ((List.length p1 : Nat) : Int))) with hc16_6 | hc16_6
   ·
    replace hm := cT hc16_6 hm
    refine AiT hc16_6 <| Sk <| Tk 38 1 ⟨tp 1 (.l enc_GValue p1::.loc 0 0::tp 2 (.i y5_1::tp 33 [])), [(.box [(.s p0.Name), (.l enc_GField p0.Fields)])], 0⟩ <| Sq <| Bk <| Sq <| Sx <| Wm (.l enc_GValue p1) rfl <| Wm (.i y5_1) rfl ?_
    obtain ⟨x21_3, hx21_3, hm⟩ := bnd hm
    obtain ⟨hx21_3i, hx21_3g⟩ := geti_some hx21_3
    refine Wz (.d (.ref (List.drop ((Int.toNat y5_1) * 4) (flatD enc_GValue p1)))) (Oia rfl enc_GValue_len hx21_3i hx21_3g) <| Wz (.agg [(.y x21_3.Kind), (.i x21_3.N), (.u x21_3.Bits), (.s x21_3.Text)]) (Lf rfl enc_GValue_len hx21_3g) ?_
    obtain ⟨r23_3, hr23_3, hm⟩ := bnd hm
    refine Wz (.i r23_3) (Ocf [] [] [] 0 (ok_r04_Check x21_3 r23_3 hr23_3) (fun a w => Tryd.call78 a w) rfl trivial) <| Wm (.i r23_3) rfl <| Nk 102 1 ⟨tp 1 (.l enc_GValue p1::.loc 0 0::tp 2 (.i y5_1::.i r23_3::tp 32 [])), [(.box [(.s p0.Name), (.l enc_GField p0.Fields)])], 0⟩ <| Sx <| Wm (.i r23_3) rfl <| Wz (.b (decide (r23_3 ≠ 0))) (Obn rfl (fun _ => hb_neq (k := .i64))) <| Nk 33554534 1 ⟨tp 1 (.l enc_GValue p1::.loc 0 0::tp 2 (.i y5_1::.i r23_3::tp 18 (.b (decide (r23_3 ≠ 0))::tp 13 []))), [(.box [(.s p0.Name), (.l enc_GField p0.Fields)])], 0⟩ ?_
    rcases tf_ (decide (r23_3 ≠ 0)) with hc25_7 | hc25_7
    ·
     replace hm := cT hc25_7 hm
     refine AiT hc25_7 <| Sx <| Wm (.i r23_3) rfl <| Wm (.i r23_3) rfl <| Nn <| Rt <| Tr <| Ir <| Tr <| RoundK.ret <| Ir <| Tr ?_
     obtain rfl := Option.some.inj hm
     exact ret_i []
    ·
     replace hm := cF hc25_7 hm
     refine AiF hc25_7 <| Sk <| Tk 38 1 ⟨tp 1 (.l enc_GValue p1::.loc 0 0::tp 2 (.i y5_1::tp 33 [])), [(.box [(.s p0.Name), (.l enc_GField p0.Fields)])], 0⟩ <| Sq <| Adr <| Wm (.l enc_GValue p1) rfl <| Wm (.i y5_1) rfl ?_
     obtain ⟨x29_4, hx29_4, hm⟩ := bnd hm
     obtain ⟨hx29_4i, hx29_4g⟩ := geti_some hx29_4
     refine Wz (.d (.ref (List.drop ((Int.toNat y5_1) * 4) (flatD enc_GValue p1)))) (Oia rfl enc_GValue_len hx29_4i hx29_4g) <| Wz (.d (.ref (List.drop ((Int.toNat y5_1) * 4) (flatD enc_GValue p1)))) (Ofa rfl) <| Wz (.y x29_4.Kind) (Lf1 rfl enc_GValue_len hx29_4g) <| Wz (.loc 0 1) (Ofa rfl) <| Wz (.l enc_GField p0.Fields) (Old rfl) <| Wm (.i y5_1) rfl ?_
     obtain ⟨x35_4, hx35_4, hm⟩ := bnd hm
     obtain ⟨hx35_4i, hx35_4g⟩ := geti_some hx35_4
     refine Wz (.d (.ref (List.drop ((Int.toNat y5_1) * 2) (flatD enc_GField p0.Fields)))) (Oia rfl enc_GField_len hx35_4i hx35_4g) <| Wz (.d (.ref (List.drop 1 (List.drop ((Int.toNat y5_1) * 2) (flatD enc_GField p0.Fields))))) (Ofa rfl) <| Wz (.y x35_4.Kind) (Lfk1 1 rfl enc_GField_len hx35_4g) <| Wz (.b (decide (((x29_4.Kind.toNat : Nat) : Int) ≠ ((x35_4.Kind.toNat : Nat) : Int)))) (Ob2 (.int .u8 ((x29_4.Kind.toNat : Nat) : Int)) (.int .u8 ((x35_4.Kind.toNat : Nat) : Int)) rfl (fun _ => hb_neq)) <| Wdr <| Tk 274877906982 1 ⟨tp 1 (.l enc_GValue p1::.loc 0 0::tp 2 (.i y5_1::tp 32 (.b (decide (((x29_4.Kind.toNat : Nat) : Int) ≠ ((x35_4.Kind.toNat : Nat) : Int)))::[]))), [(.box [(.s p0.Name), (.l enc_GField p0.Fields)])], 0⟩ ?_
     rcases tf_ (decide (((x29_4.Kind.toNat : Nat) : Int) ≠ ((x35_4.Kind.toNat : Nat) : Int))) with hc38_8 | hc38_8
     ·
      replace hm := cT hc38_8 hm
      refine AiT hc38_8 <| Sx <| Wm (.i 19) rfl <| Nn <| Rt <| Ir <| Tr <| RoundK.ret <| Ir <| Tr ?_
      obtain rfl := Option.some.inj hm
      exact ret_i []
     ·
      replace hm := cF hc38_8 hm
      refine AiF hc38_8 <| Sk <| Ino <| Tk 38 1 ⟨tp 1 (.l enc_GValue p1::.loc 0 0::tp 2 (.i y5_1::tp 33 [])), [(.box [(.s p0.Name), (.l enc_GField p0.Fields)])], 0⟩ <| Tx <| Wm (.i y5_1) rfl <| Wz (.i (W6 (y5_1 + 1))) (Obn rfl (fun _ => hb_add (k := .i64))) <| Wm (.i (W6 (y5_1 + 1))) rfl <| Wn0 <| RoundK.normal ?_
      exact Rounds.weak (Weak.toK 38 0 0 [0]) (ih_1 (fu_1, (W6 (y5_1 + 1))) hm (Nat.lt_succ_self _))
   ·
    replace hm := cF hc16_6 hm
    refine AiF hc16_6 <| AWP.exit <| Then.exit <| RoundK.exit <| InBlock.same <| Tk 0 0 ⟨tp 39 [], [.gone], 0⟩ <| Sx <| Wm (.i 0) rfl <| Nn <| Rt ?_
    obtain rfl := Option.some.inj hm
    exact ret_i []

theorem ok_r07_Check (p0 : (List GType)) (p1 : GEvent) (r : Int) (h : m_r07_Check p0 p1 = some r) : GCall Tryd.prog 39 [(.l enc_GType p0), (.agg [(.i p1.Time), (.i p1.Source), (.i p1.Seq), (.s p1.Type_), (.l enc_GValue p1.Vals)])] [] (.i r) [] := by
 refine GCall.of_body (n := 51) (rs := [(.tmp 4)]) Tryd.func39 rfl rfl rfl <| Ato ⟨.l enc_GType p0::.agg [(.i p1.Time), (.i p1.Source), (.i p1.Seq), (.s p1.Type_), (.l enc_GValue p1.Vals)]::tu 49 [], [], 0⟩ ?_
 have hm := h
 unfold m_r07_Check at hm
 refine Sx <| Wy (.loc 0 0) [(0, (.box [(.i p1.Time), (.i p1.Source), (.i p1.Seq), (.s p1.Type_), (.l enc_GValue p1.Vals)]))] (Obx rfl) <| Wm (.i 0) rfl <| Nk 9 1 ⟨.l enc_GType p0::tp 2 (.loc 0 0::tp 47 []), [(.box [(.i p1.Time), (.i p1.Source), (.i p1.Seq), (.s p1.Type_), (.l enc_GValue p1.Vals)])], 0⟩ <| Sq <| Sx <| Wm (.l enc_GType p0) rfl ?_
 obtain ⟨r8_0, hr8_0, hm⟩ := bnd hm
 refine Wz (.i r8_0) (Ocf [] [] [] 0 (ok_r06_Check p0 r8_0 hr8_0) (fun a w => Tryd.call38 a w) rfl trivial) <| Wz (.b (decide (r8_0 ≠ 0))) (Obn rfl (fun _ => hb_neq (k := .i64))) <| Nk 521 1 ⟨.l enc_GType p0::tp 2 (.loc 0 0::tp 5 (.b (decide (r8_0 ≠ 0))::tp 41 [])), [(.box [(.i p1.Time), (.i p1.Source), (.i p1.Seq), (.s p1.Type_), (.l enc_GValue p1.Vals)])], 0⟩ ?_
 rcases tf_ (decide (r8_0 ≠ 0)) with hc9_5 | hc9_5
 ·
  replace hm := cT hc9_5 hm
  refine AiT hc9_5 <| Sx <| Wm (.i 2) rfl <| Nn <| Rt <| Tr ?_
  obtain rfl := Option.some.inj hm
  exact ret_i []
 ·
  replace hm := cF hc9_5 hm
  refine AiF hc9_5 <| Sk <| Tk 9 1 ⟨.l enc_GType p0::tp 2 (.loc 0 0::tp 47 []), [(.box [(.i p1.Time), (.i p1.Source), (.i p1.Seq), (.s p1.Type_), (.l enc_GValue p1.Vals)])], 0⟩ <| Sq ?_
  refine AWP.cutJ (α := Unit) (fun x => match x with | () => (⟨.l enc_GType p0::tp 2 (.loc 0 0::tp 33 (.b true::tp 13 [])), [(.box [(.i p1.Time), (.i p1.Source), (.i p1.Seq), (.s p1.Type_), (.l enc_GValue p1.Vals)])], 0⟩ : St)) (fun x => match x with | () => m_r07_Check_j2  = some r) ?_ (fun J2 => ?_)
  ·
   rintro ⟨⟩ hm
   try dsimp only at hm ⊢
   unfold m_r07_Check_j2 at hm
   refine AWP.if_ true (by kernel_rfl) <| Sx <| Wm (.i 8) rfl <| Nn <| Rt <| Tr ?_
   obtain rfl := Option.some.inj hm
   exact ret_i []
  refine Sx <| Wz (.loc 0 0) (Ofa rfl) <| Wz (.i p1.Time) (Old rfl) <| Wz (.b (decide (p1.Time < 0))) (Obn rfl (fun _ => hb_lss (k := .i64))) ?_
  rcases tf_ (decide (p1.Time < 0)) with hq13_1 | hq13_1
  ·
   replace hm := cT hq13_1 hm
   refine Wz (.b true) (Oq hq13_1 rfl) <| Wn <| Wn <| Wn <| Wz (.b true) (OpT rfl) <| Wm (.b true) rfl <| Wn <| Wn <| Wn <| Wz (.b true) (OpT rfl) <| Wm (.b true) rfl <| Wn <| Wn <| Wn ?_
   refine Wz (.b true) (OpT rfl) <| Wm (.b true) rfl <| Wn <| Wn <| Wn <| Wz (.b true) (OpT rfl) <| Wm (.b true) rfl <| Wn <| Wn <| Wn <| Wz (.b true) (OpT rfl) <| Nn ?_
   exact AWP.weak (Weak.toK 137438953481 0 0 [0]) (J2 () hm)
  ·
   replace hm := cF hq13_1 hm
   refine Wz (.b false) (Oq hq13_1 rfl) <| Wz (.loc 0 0) (Ofa rfl) <| Wz (.i p1.Time) (Old rfl) <| Wz (.b (decide ((1099511627776 : Int) < p1.Time))) (Obn rfl (fun _ => hb_gtr (k := .i64))) <| Wz (.b (decide ((1099511627776 : Int) < p1.Time))) (OpF rfl) ?_
   rcases tf_ (decide ((1099511627776 : Int) < p1.Time)) with hq18_1 | hq18_1
   ·
    replace hm := cT hq18_1 hm
    refine Wz (.b true) (Oq hq18_1 rfl) <| Wn <| Wn <| Wn <| Wz (.b true) (OpT rfl) <| Wm (.b true) rfl <| Wn <| Wn <| Wn <| Wz (.b true) (OpT rfl) <| Wm (.b true) rfl <| Wn <| Wn <| Wn ?_
    refine Wz (.b true) (OpT rfl) <| Wm (.b true) rfl <| Wn <| Wn <| Wn <| Wz (.b true) (OpT rfl) <| Nn ?_
    exact AWP.weak (Weak.toK 137438953481 0 0 [0]) (J2 () hm)
   ·
    replace hm := cF hq18_1 hm
    refine Wz (.b false) (Oq hq18_1 rfl) <| Wz (.loc 0 1) (Ofa rfl) <| Wz (.i p1.Source) (Old rfl) <| Wz (.b (decide (p1.Source < 0))) (Obn rfl (fun _ => hb_lss (k := .i64))) <| Wz (.b (decide (p1.Source < 0))) (OpF rfl) ?_
    rcases tf_ (decide (p1.Source < 0)) with hq23_1 | hq23_1
    ·
     replace hm := cT hq23_1 hm
     refine Wz (.b true) (Oq hq23_1 rfl) <| Wn <| Wn <| Wn <| Wz (.b true) (OpT rfl) <| Wm (.b true) rfl <| Wn <| Wn <| Wn <| Wz (.b true) (OpT rfl) <| Wm (.b true) rfl <| Wn <| Wn <| Wn ?_
     refine Wz (.b true) (OpT rfl) <| Nn ?_
     exact AWP.weak (Weak.toK 137438953481 0 0 [0]) (J2 () hm)
    ·
     replace hm := cF hq23_1 hm
     refine Wz (.b false) (Oq hq23_1 rfl) <| Wz (.loc 0 1) (Ofa rfl) <| Wz (.i p1.Source) (Old rfl) <| Wz (.b (decide ((16 : Int) ≤ p1.Source))) (Obn rfl (fun _ => hb_geq (k := .i64))) <| Wz (.b (decide ((16 : Int) ≤ p1.Source))) (OpF rfl) ?_
     rcases tf_ (decide ((16 : Int) ≤ p1.Source)) with hq28_1 | hq28_1
     ·
      replace hm := cT hq28_1 hm
      refine Wz (.b true) (Oq hq28_1 rfl) <| Wn <| Wn <| Wn <| Wz (.b true) (OpT rfl) <| Wm (.b true) rfl <| Wn <| Wn <| Wn <| Wz (.b true) (OpT rfl) <| Nn ?_
      exact AWP.weak (Weak.toK 137438953481 0 0 [0]) (J2 () hm)
     ·
      replace hm := cF hq28_1 hm
      refine Wz (.b false) (Oq hq28_1 rfl) <| Wz (.loc 0 2) (Ofa rfl) <| Wz (.i p1.Seq) (Old rfl) <| Wz (.b (decide (p1.Seq < 0))) (Obn rfl (fun _ => hb_lss (k := .i64))) <| Wz (.b (decide (p1.Seq < 0))) (OpF rfl) ?_
      rcases tf_ (decide (p1.Seq < 0)) with hq33_1 | hq33_1
      ·
       replace hm := cT hq33_1 hm
       refine Wz (.b true) (Oq hq33_1 rfl) <| Wn <| Wn <| Wn <| Wz (.b true) (OpT rfl) <| Nn ?_
       exact AWP.weak (Weak.toK 137438953481 0 0 [0]) (J2 () hm)
      ·
       replace hm := cF hq33_1 hm
       refine Wz (.b false) (Oq hq33_1 rfl) <| Wz (.loc 0 2) (Ofa rfl) <| Wz (.i p1.Seq) (Old rfl) <| Wz (.b (decide ((1099511627776 : Int) < p1.Seq))) (Obn rfl (fun _ => hb_gtr (k := .i64))) <| Wz (.b (decide ((1099511627776 : Int) < p1.Seq))) (OpF rfl) <| Nk 137438953481 1 ⟨.l enc_GType p0::tp 2 (.loc 0 0::tp 33 (.b (decide ((1099511627776 : Int) < p1.Seq))::tp 13 [])), [(.box [(.i p1.Time), (.i p1.Source), (.i p1.Seq), (.s p1.Type_), (.l enc_GValue p1.Vals)])], 0⟩ ?_
       rcases tf_ (decide ((1099511627776 : Int) < p1.Seq)) with hc37_6 | hc37_6
       ·
        replace hm := cT hc37_6 hm
        refine AiT hc37_6 <| Sx <| Wm (.i 8) rfl <| Nn <| Rt <| Tr ?_
        obtain rfl := Option.some.inj hm
        exact ret_i []
       ·
        replace hm := cF hc37_6 hm
        refine AiF hc37_6 <| Sk <| Tk 9 1 ⟨.l enc_GType p0::tp 2 (.loc 0 0::tp 47 []), [(.box [(.i p1.Time), (.i p1.Source), (.i p1.Seq), (.s p1.Type_), (.l enc_GValue p1.Vals)])], 0⟩ <| Sx <| Wm (.l enc_GType p0) rfl <| Wz (.loc 0 3) (Ofa rfl) <| Wz (.s p1.Type_) (Old rfl) ?_
        obtain ⟨r42_3, hr42_3, hm⟩ := bnd hm
        refine Wz (.tup [(.agg [(.s r42_3.1.Name), (.l enc_GField r42_3.1.Fields)]), (.b r42_3.2)]) (Ocf [] [] [] 0 (ok_r06_Find p0 p1.Type_ r42_3 hr42_3) (fun a w => Tryd.call64 a w) rfl trivial) <| Wm (.tup [(.agg [(.s r42_3.1.Name), (.l enc_GField r42_3.1.Fields)]), (.b r42_3.2)]) rfl <| Wz (.agg [(.s r42_3.1.Name), (.l enc_GField r42_3.1.Fields)]) (Oex rfl) <| Wz (.b r42_3.2) (Oex rfl) <| Wy (.loc 1 0) [(1, (.box [(.s ([] : List UInt8)), (.d .nil)]))] (Oal rfl) <| Wy (.tup []) [(1, (.box [(.s r42_3.1.Name), (.l enc_GField r42_3.1.Fields)]))] (Ost rfl) <| Wm (.b r42_3.2) rfl <| Nk 104 3 ⟨tp 3 (.loc 0 0::tp 1 (.loc 1 0::.b r42_3.2::tp 44 [])), [(.box [(.i p1.Time), (.i p1.Source), (.i p1.Seq), (.s p1.Type_), (.l enc_GValue p1.Vals)]), (.box [(.s r42_3.1.Name), (.l enc_GField r42_3.1.Fields)])], 0⟩ <| Sq <| Sx <| Wm (.b r42_3.2) rfl <| Wz (.b (!r42_3.2)) (Ocs (by kernel_rfl) (op_un rfl (a1 := .bool r42_3.2) (by kernel_rfl) (fun _ => hu_not))) <| Nk 70368744177704 3 ⟨tp 3 (.loc 0 0::tp 1 (.loc 1 0::tp 40 (.b (!r42_3.2)::tp 4 []))), [(.box [(.i p1.Time), (.i p1.Source), (.i p1.Seq), (.s p1.Type_), (.l enc_GValue p1.Vals)]), (.box [(.s r42_3.1.Name), (.l enc_GField r42_3.1.Fields)])], 0⟩ ?_
        rcases tf_ (!r42_3.2) with hc46_7 | hc46_7
        ·
         replace hm := cT hc46_7 hm
         refine AiT hc46_7 <| Sx <| Wm (.i 6) rfl <| Nn <| Rt <| Tr ?_
         obtain rfl := Option.some.inj hm
         exact ret_i []
        ·
         replace hm := cF hc46_7 hm
         refine AiF hc46_7 <| Sk <| Tk 40 3 ⟨tp 3 (.loc 0 0::tp 1 (.loc 1 0::tp 45 [])), [(.box [(.i p1.Time), (.i p1.Source), (.i p1.Seq), (.s p1.Type_), (.l enc_GValue p1.Vals)]), (.box [(.s r42_3.1.Name), (.l enc_GField r42_3.1.Fields)])], 0⟩ <| Sx <| Wz (.agg [(.s r42_3.1.Name), (.l enc_GField r42_3.1.Fields)]) (Old rfl) <| Wz (.loc 0 4) (Ofa rfl) <| Wz (.l enc_GValue p1.Vals) (Old rfl) ?_
         obtain ⟨r50_4, hr50_4, hm⟩ := bnd hm
         refine Wz (.i r50_4) (Ocf [] [] [] 0 (ok_r06_Fits r42_3.1 p1.Vals r50_4 hr50_4) (fun a w => Tryd.call65 a w) rfl trivial) <| Wm (.i r50_4) rfl <| Nn <| Rt ?_
         obtain rfl := Option.some.inj hm
         exact ret_i []

theorem ok_r07_Same (p0 : GEvent) (p1 : GEvent) (r : Bool) (h : m_r07_Same p0 p1 = some r) : GCall Tryd.prog 40 [(.agg [(.i p0.Time), (.i p0.Source), (.i p0.Seq), (.s p0.Type_), (.l enc_GValue p0.Vals)]), (.agg [(.i p1.Time), (.i p1.Source), (.i p1.Seq), (.s p1.Type_), (.l enc_GValue p1.Vals)])] [] (.b r) [] := by
 refine GCall.of_body (n := 59) (rs := [(.tmp 4)]) Tryd.func40 rfl rfl rfl <| Ato ⟨.agg [(.i p0.Time), (.i p0.Source), (.i p0.Seq), (.s p0.Type_), (.l enc_GValue p0.Vals)]::.agg [(.i p1.Time), (.i p1.Source), (.i p1.Seq), (.s p1.Type_), (.l enc_GValue p1.Vals)]::tu 57 [], [], 0⟩ ?_
 have hm := h
 unfold m_r07_Same at hm
 refine Sx <| Wy (.loc 0 0) [(0, (.box [(.i p0.Time), (.i p0.Source), (.i p0.Seq), (.s p0.Type_), (.l enc_GValue p0.Vals)]))] (Obx rfl) <| Wy (.loc 1 0) [(1, (.box [(.i p1.Time), (.i p1.Source), (.i p1.Seq), (.s p1.Type_), (.l enc_GValue p1.Vals)]))] (Obx rfl) <| Wm (.b false) rfl <| Nk 12 3 ⟨tp 2 (.loc 0 0::.loc 1 0::tp 55 []), [(.box [(.i p0.Time), (.i p0.Source), (.i p0.Seq), (.s p0.Type_), (.l enc_GValue p0.Vals)]), (.box [(.i p1.Time), (.i p1.Source), (.i p1.Seq), (.s p1.Type_), (.l enc_GValue p1.Vals)])], 0⟩ <| Sq ?_
 refine AWP.cutJ (α := Unit) (fun x => match x with | () => (⟨tp 2 (.loc 0 0::.loc 1 0::tp 36 (.b true::tp 18 [])), [(.box [(.i p0.Time), (.i p0.Source), (.i p0.Seq), (.s p0.Type_), (.l enc_GValue p0.Vals)]), (.box [(.i p1.Time), (.i p1.Source), (.i p1.Seq), (.s p1.Type_), (.l enc_GValue p1.Vals)])], 0⟩ : St)) (fun x => match x with | () => m_r07_Same_j1  = some r) ?_ (fun J1 => ?_)
 ·
  rintro ⟨⟩ hm
  try dsimp only at hm ⊢
  unfold m_r07_Same_j1 at hm
  refine AWP.if_ true (by kernel_rfl) <| Sx <| Wm (.b false) rfl <| Nn <| Rt <| Tr ?_
  obtain rfl := Option.some.inj hm
  exact ret_i []
 refine Sx <| Wz (.loc 0 0) (Ofa rfl) <| Wz (.i p0.Time) (Old rfl) <| Wz (.loc 1 0) (Ofa rfl) <| Wz (.i p1.Time) (Old rfl) <| Wz (.b (decide (p0.Time ≠ p1.Time))) (Obn rfl (fun _ => hb_neq (k := .i64))) ?_
 rcases tf_ (decide (p0.Time ≠ p1.Time)) with hq11_0 | hq11_0
 ·
  replace hm := cT hq11_0 hm
  refine Wz (.b true) (Oq hq11_0 rfl) <| Wn <| Wn <| Wn <| Wn <| Wn <| Wz (.b true) (OpT rfl) <| Wm (.b true) rfl <| Wn <| Wn <| Wn <| Wn <| Wn <| Wz (.b true) (OpT rfl) ?_
  refine Wm (.b true) rfl <| Wn <| Wn <| Wn <| Wn <| Wn <| Wz (.b true) (OpT rfl) <| Wm (.b true) rfl <| Wn <| Wn <| Wn <| Wn <| Wn <| Wn ?_
  refine Wn <| Wz (.b true) (OpT rfl) <| Nn ?_
  exact AWP.weak (Weak.toK 1099511627788 0 0 [0, 1]) (J1 () hm)
 ·
  replace hm := cF hq11_0 hm
  refine Wz (.b false) (Oq hq11_0 rfl) <| Wz (.loc 0 1) (Ofa rfl) <| Wz (.i p0.Source) (Old rfl) <| Wz (.loc 1 1) (Ofa rfl) <| Wz (.i p1.Source) (Old rfl) <| Wz (.b (decide (p0.Source ≠ p1.Source))) (Obn rfl (fun _ => hb_neq (k := .i64))) <| Wz (.b (decide (p0.Source ≠ p1.Source))) (OpF rfl) ?_
  rcases tf_ (decide (p0.Source ≠ p1.Source)) with hq18_0 | hq18_0
  ·
   replace hm := cT hq18_0 hm
   refine Wz (.b true) (Oq hq18_0 rfl) <| Wn <| Wn <| Wn <| Wn <| Wn <| Wz (.b true) (OpT rfl) <| Wm (.b true) rfl <| Wn <| Wn <| Wn <| Wn <| Wn <| Wz (.b true) (OpT rfl) ?_
   refine Wm (.b true) rfl <| Wn <| Wn <| Wn <| Wn <| Wn <| Wn <| Wn <| Wz (.b true) (OpT rfl) <| Nn ?_
   exact AWP.weak (Weak.toK 1099511627788 0 0 [0, 1]) (J1 () hm)
  ·
   replace hm := cF hq18_0 hm
   refine Wz (.b false) (Oq hq18_0 rfl) <| Wz (.loc 0 2) (Ofa rfl) <| Wz (.i p0.Seq) (Old rfl) <| Wz (.loc 1 2) (Ofa rfl) <| Wz (.i p1.Seq) (Old rfl) <| Wz (.b (decide (p0.Seq ≠ p1.Seq))) (Obn rfl (fun _ => hb_neq (k := .i64))) <| Wz (.b (decide (p0.Seq ≠ p1.Seq))) (OpF rfl) ?_
   rcases tf_ (decide (p0.Seq ≠ p1.Seq)) with hq25_0 | hq25_0
   ·
    replace hm := cT hq25_0 hm
    refine Wz (.b true) (Oq hq25_0 rfl) <| Wn <| Wn <| Wn <| Wn <| Wn <| Wz (.b true) (OpT rfl) <| Wm (.b true) rfl <| Wn <| Wn <| Wn <| Wn <| Wn <| Wn ?_
    refine Wn <| Wz (.b true) (OpT rfl) <| Nn ?_
    exact AWP.weak (Weak.toK 1099511627788 0 0 [0, 1]) (J1 () hm)
   ·
    replace hm := cF hq25_0 hm
    refine Wz (.b false) (Oq hq25_0 rfl) <| Wz (.loc 0 3) (Ofa rfl) <| Wz (.s p0.Type_) (Old rfl) <| Wz (.loc 1 3) (Ofa rfl) <| Wz (.s p1.Type_) (Old rfl) <| Wz (.b (decide (p0.Type_ ≠ p1.Type_))) (Ocs (lit_tf (by simp only [toS_inj, ne_eq])) (op_bin rfl (a1 := .string (toS p0.Type_)) (a2 := .string (toS p1.Type_)) (by kernel_rfl) (by kernel_rfl) (fun _ => hb_sneq))) <| Wz (.b (decide (p0.Type_ ≠ p1.Type_))) (OpF rfl) ?_
    rcases tf_ (decide (p0.Type_ ≠ p1.Type_)) with hq32_0 | hq32_0
    ·
     replace hm := cT hq32_0 hm
     refine Wz (.b true) (Oq hq32_0 rfl) <| Wn <| Wn <| Wn <| Wn <| Wn <| Wn <| Wn <| Wz (.b true) (OpT rfl) <| Nn ?_
     exact AWP.weak (Weak.toK 1099511627788 0 0 [0, 1]) (J1 () hm)
    ·
     replace hm := cF hq32_0 hm
     refine Wz (.b false) (Oq hq32_0 rfl) <| Wz (.loc 0 4) (Ofa rfl) <| Wz (.l enc_GValue p0.Vals) (Old rfl) <| Wz (.i ((List.length p0.Vals : Nat) : Int)) (Oln rfl) <| Wz (.loc 1 4) (Ofa rfl) <| Wz (.l enc_GValue p1.Vals) (Old rfl) <| Wz (.i ((List.length p1.Vals : Nat) : Int)) (Oln rfl) <| Wz (.b (decide (((List.length p0.Vals : Nat) : Int) ≠ ((List.length p1.Vals : Nat) : Int)))) (Obn rfl (fun _ => hb_neq (k := .i64))) <| Wz (.b (decide (((List.length p0.Vals : Nat) : Int) ≠ ((List.length p1.Vals : Nat) : Int)))) (OpF rfl) <| Nk 1099511627788 3 ⟨tp 2 (.loc 0 0::.loc 1 0::tp 36 (.b (decide (((List.length p0.Vals : Nat) : Int) ≠ ((List.length p1.Vals : Nat) : Int)))::tp 18 [])), [(.box [(.i p0.Time), (.i p0.Source), (.i p0.Seq), (.s p0.Type_), (.l enc_GValue p0.Vals)]), (.box [(.i p1.Time), (.i p1.Source), (.i p1.Seq), (.s p1.Type_), (.l enc_GValue p1.Vals)])], 0⟩ ?_
     rcases tf_ (decide (((List.length p0.Vals : Nat) : Int) ≠ ((List.length p1.Vals : Nat) : Int))) with hc40_5 | hc40_5
     ·
      replace hm := cT hc40_5 hm
      refine AiT hc40_5 <| Sx <| Wm (.b false) rfl <| Nn <| Rt <| Tr ?_
      obtain rfl := Option.some.inj hm
      exact ret_i []
     ·
      replace hm := cF hc40_5 hm
      refine AiF hc40_5 <| Sk <| Tk 12 3 ⟨tp 2 (.loc 0 0::.loc 1 0::tp 55 []), [(.box [(.i p0.Time), (.i p0.Source), (.i p0.Seq), (.s p0.Type_), (.l enc_GValue p0.Vals)]), (.box [(.i p1.Time), (.i p1.Source), (.i p1.Seq), (.s p1.Type_), (.l enc_GValue p1.Vals)])], 0⟩ <| Sq <| Sx <| Wm (.i 0) rfl <| Nk 44 3 ⟨tp 2 (.loc 0 0::.loc 1 0::tp 1 (.i 0::tp 53 [])), [(.box [(.i p0.Time), (.i p0.Source), (.i p0.Seq), (.s p0.Type_), (.l enc_GValue p0.Vals)]), (.box [(.i p1.Time), (.i p1.Source), (.i p1.Seq), (.s p1.Type_), (.l enc_GValue p1.Vals)])], 0⟩ <| Bk ?_
      refine AWP.loopI (α := Nat × Int)
        (fun (fu_2, y5_2) => (⟨tp 2 (.loc 0 0::.loc 1 0::tp 1 (.i y5_2::tp 53 [])), [(.box [(.i p0.Time), (.i p0.Source), (.i p0.Seq), (.s p0.Type_), (.l enc_GValue p0.Vals)]), (.box [(.i p1.Time), (.i p1.Source), (.i p1.Seq), (.s p1.Type_), (.l enc_GValue p1.Vals)])], 0⟩ : St))
        (fun (fu_2, y5_2) => m_r07_Same_l2 p0 p1 fu_2 y5_2 = some r)
        (fun (fu_2, y5_2) => fu_2) (1152921504606846976, 0)
        (Weak.toK 44 0 0 [0, 1]) hm ?_
      rintro ⟨fu_2, y5_2⟩ n_2 hm ih_2
      try dsimp only at hm ih_2 ⊢
      cases fu_2 with
      | zero => exact absurd hm (by unfold m_r07_Same_l2; simp)
      | succ fu_2 =>
       unfold m_r07_Same_l2 at hm
       refine Sq <| Sx <| Wm (.i y5_2) rfl <| Wz (.loc 0 4) (Ofa rfl) <| Wz (.l enc_GValue p0.Vals) (Old rfl) <| Wz (.i ((List.length p0.Vals : Nat) : Int)) (Oln rfl) <| Wz (.b (decide (y5_2 < ((List.length p0.Vals : Nat) : Int)))) (Obn rfl (fun _ => hb_lss (k := .i64))) <| Nk 35184372088876 3 ⟨tp 2 (.loc 0 0::.loc 1 0::tp 1 (.i y5_2::tp 39 (.b (decide (y5_2 < ((List.length p0.Vals : Nat) : Int)))::tp 13 []))), [(.box [(.i p0.Time), (.i p0.Source), (.i p0.Seq), (.s p0.Type_), (.l enc_GValue p0.Vals)]), (.box [(.i p1.Time), (.i p1.Source), (.i p1.Seq), (.s p1.Type_), (.l enc_GValue p1.Vals)])], 0⟩ ?_
       rcases tf_ (decide (y5_2 < ((List.length p0.Vals : Nat) : Int))) with hc45_6 | hc45_6
       ·
        replace hm := cT hc45_6 hm
        refine AiT hc45_6 <| Sk <| Tk 44 3 ⟨tp 2 (.loc 0 0::.loc 1 0::tp 1 (.i y5_2::tp 53 [])), [(.box [(.i p0.Time), (.i p0.Source), (.i p0.Seq), (.s p0.Type_), (.l enc_GValue p0.Vals)]), (.box [(.i p1.Time), (.i p1.Source), (.i p1.Seq), (.s p1.Type_), (.l enc_GValue p1.Vals)])], 0⟩ <| Sq <| Bk <| Sq <| Adr <| Wz (.loc 0 4) (Ofa rfl) <| Wz (.l enc_GValue p0.Vals) (Old rfl) <| Wm (.i y5_2) rfl ?_
        obtain ⟨x51_4, hx51_4, hm⟩ := bnd hm
        obtain ⟨hx51_4i, hx51_4g⟩ := geti_some hx51_4
        refine Wz (.d (.ref (List.drop ((Int.toNat y5_2) * 4) (flatD enc_GValue p0.Vals)))) (Oia rfl enc_GValue_len hx51_4i hx51_4g) <| Wz (.agg [(.y x51_4.Kind), (.i x51_4.N), (.u x51_4.Bits), (.s x51_4.Text)]) (Lf rfl enc_GValue_len hx51_4g) <| Wz (.loc 1 4) (Ofa rfl) <| Wz (.l enc_GValue p1.Vals) (Old rfl) <| Wm (.i y5_2) rfl ?_
        obtain ⟨x56_4, hx56_4, hm⟩ := bnd hm
        obtain ⟨hx56_4i, hx56_4g⟩ := geti_some hx56_4
        refine Wz (.d (.ref (List.drop ((Int.toNat y5_2) * 4) (flatD enc_GValue p1.Vals)))) (Oia rfl enc_GValue_len hx56_4i hx56_4g) <| Wz (.agg [(.y x56_4.Kind), (.i x56_4.N), (.u x56_4.Bits), (.s x56_4.Text)]) (Lf rfl enc_GValue_len hx56_4g) ?_
        obtain ⟨v58_4, hv58_4, hm⟩ := bnd hm; replace hv58_4 := Option.some.inj hv58_4
        refine Wz (.b v58_4) (Ocs (Eq.trans (lit_tf (by simp only [toS_inj])) (congrArg (fun z => A.d (.lit (.bool z))) hv58_4)) (op_neq_struct rfl (la := [(.y x51_4.Kind), (.i x51_4.N), (.u x51_4.Bits), (.s x51_4.Text)]) (lb := [(.y x56_4.Kind), (.i x56_4.N), (.u x56_4.Bits), (.s x56_4.Text)]) (us := [.int .u8 ((x51_4.Kind.toNat : Nat) : Int), .int .i64 x51_4.N, .int .u64 x51_4.Bits, .string (toS x51_4.Text)]) (vs := [.int .u8 ((x56_4.Kind.toNat : Nat) : Int), .int .i64 x56_4.N, .int .u64 x56_4.Bits, .string (toS x56_4.Text)]) (r := (decide (((x51_4.Kind.toNat : Nat) : Int) = ((x56_4.Kind.toNat : Nat) : Int)) && (decide (x51_4.N = x56_4.N) && (decide (x51_4.Bits = x56_4.Bits) && (decide ((toS x51_4.Text) = (toS x56_4.Text)) && true))))) (by kernel_rfl) (by kernel_rfl) (by kernel_rfl) (by kernel_rfl) (by kernel_rfl))) <| Wdr <| Tk 288230376151711788 3 ⟨tp 2 (.loc 0 0::.loc 1 0::tp 1 (.i y5_2::tp 52 (.b v58_4::[]))), [(.box [(.i p0.Time), (.i p0.Source), (.i p0.Seq), (.s p0.Type_), (.l enc_GValue p0.Vals)]), (.box [(.i p1.Time), (.i p1.Source), (.i p1.Seq), (.s p1.Type_), (.l enc_GValue p1.Vals)])], 0⟩ ?_
        rcases tf_ v58_4 with hc58_7 | hc58_7
        ·
         replace hm := cT hc58_7 hm
         refine AiT hc58_7 <| Sx <| Wm (.b false) rfl <| Nn <| Rt <| Ir <| Tr <| RoundK.ret <| Ir <| Tr ?_
         obtain rfl := Option.some.inj hm
         exact ret_i []
        ·
         replace hm := cF hc58_7 hm
         refine AiF hc58_7 <| Sk <| Ino <| Tk 44 3 ⟨tp 2 (.loc 0 0::.loc 1 0::tp 1 (.i y5_2::tp 53 [])), [(.box [(.i p0.Time), (.i p0.Source), (.i p0.Seq), (.s p0.Type_), (.l enc_GValue p0.Vals)]), (.box [(.i p1.Time), (.i p1.Source), (.i p1.Seq), (.s p1.Type_), (.l enc_GValue p1.Vals)])], 0⟩ <| Tx <| Wm (.i y5_2) rfl <| Wz (.i (W6 (y5_2 + 1))) (Obn rfl (fun _ => hb_add (k := .i64))) <| Wm (.i (W6 (y5_2 + 1))) rfl <| Wn0 <| RoundK.normal ?_
         exact Rounds.weak (Weak.toK 44 0 0 [0, 1]) (ih_2 (fu_2, (W6 (y5_2 + 1))) hm (Nat.lt_succ_self _))
       ·
        replace hm := cF hc45_6 hm
        refine AiF hc45_6 <| AWP.exit <| Then.exit <| RoundK.exit <| InBlock.same <| Tk 0 0 ⟨tp 59 [], [.gone, .gone], 0⟩ <| Sx <| Wm (.b true) rfl <| Nn <| Rt ?_
        obtain rfl := Option.some.inj hm
        exact ret_i []

theorem ok_r37_Check (p0 : (List GType)) (p1 : GCommand) (r : Int) (h : m_r37_Check p0 p1 = some r) : GCall Tryd.prog 15 [(.l enc_GType p0), (.agg [(.y p1.Kind), (.s p1.Text), (.i p1.A), (.i p1.B), (.i p1.E.Time), (.i p1.E.Source), (.i p1.E.Seq), (.s p1.E.Type_), (.l enc_GValue p1.E.Vals)])] [] (.i r) [] := by
 refine GCall.of_body (n := 76) (rs := [(.tmp 4)]) Tryd.func15 rfl rfl rfl <| Ato ⟨.l enc_GType p0::.agg [(.y p1.Kind), (.s p1.Text), (.i p1.A), (.i p1.B), (.i p1.E.Time), (.i p1.E.Source), (.i p1.E.Seq), (.s p1.E.Type_), (.l enc_GValue p1.E.Vals)]::tu 74 [], [], 0⟩ ?_
 have hm := h
 unfold m_r37_Check at hm
 refine Sx <| Wy (.loc 0 0) [(0, (.box [(.y p1.Kind), (.s p1.Text), (.i p1.A), (.i p1.B), (.i p1.E.Time), (.i p1.E.Source), (.i p1.E.Seq), (.s p1.E.Type_), (.l enc_GValue p1.E.Vals)]))] (Obx rfl) <| Wm (.i 0) rfl <| Nk 9 1 ⟨.l enc_GType p0::tp 2 (.loc 0 0::tp 72 []), [(.box [(.y p1.Kind), (.s p1.Text), (.i p1.A), (.i p1.B), (.i p1.E.Time), (.i p1.E.Source), (.i p1.E.Seq), (.s p1.E.Type_), (.l enc_GValue p1.E.Vals)])], 0⟩ <| Sq <| Sx <| Wm (.l enc_GType p0) rfl ?_
 obtain ⟨r7_0, hr7_0, hm⟩ := bnd hm
 refine Wz (.i r7_0) (Ocf [] [] [] 0 (ok_r06_Check p0 r7_0 hr7_0) (fun a w => Tryd.call38 a w) rfl trivial) <| Wz (.b (decide (r7_0 ≠ 0))) (Obn rfl (fun _ => hb_neq (k := .i64))) <| Nk 265 1 ⟨.l enc_GType p0::tp 2 (.loc 0 0::tp 4 (.b (decide (r7_0 ≠ 0))::tp 67 [])), [(.box [(.y p1.Kind), (.s p1.Text), (.i p1.A), (.i p1.B), (.i p1.E.Time), (.i p1.E.Source), (.i p1.E.Seq), (.s p1.E.Type_), (.l enc_GValue p1.E.Vals)])], 0⟩ ?_
 rcases tf_ (decide (r7_0 ≠ 0)) with hc8_10 | hc8_10
 ·
  replace hm := cT hc8_10 hm
  refine AiT hc8_10 <| Sx <| Wm (.i 2) rfl <| Nn <| Rt <| Tr ?_
  obtain rfl := Option.some.inj hm
  exact ret_i []
 ·
  replace hm := cF hc8_10 hm
  refine AiF hc8_10 <| Sk <| Tk 9 1 ⟨.l enc_GType p0::tp 2 (.loc 0 0::tp 72 []), [(.box [(.y p1.Kind), (.s p1.Text), (.i p1.A), (.i p1.B), (.i p1.E.Time), (.i p1.E.Source), (.i p1.E.Seq), (.s p1.E.Type_), (.l enc_GValue p1.E.Vals)])], 0⟩ <| Sq <| Sx <| Wz (.loc 0 0) (Ofa rfl) <| Wz (.y p1.Kind) (Old rfl) <| Wz (.b (decide (((p1.Kind.toNat : Nat) : Int) < 1))) (Ob2 (.int .u8 ((p1.Kind.toNat : Nat) : Int)) (.int .u8 1) rfl (fun _ => hb_lss)) ?_
  rcases tf_ (decide (((p1.Kind.toNat : Nat) : Int) < 1)) with hq12_1 | hq12_1
  ·
   replace hm := cT hq12_1 hm
   refine Wz (.b true) (Oq hq12_1 rfl) <| Wn <| Wn <| Wn <| Wz (.b true) (OpT rfl) <| Nk 65545 1 ⟨.l enc_GType p0::tp 2 (.loc 0 0::tp 12 (.b true::tp 59 [])), [(.box [(.y p1.Kind), (.s p1.Text), (.i p1.A), (.i p1.B), (.i p1.E.Time), (.i p1.E.Source), (.i p1.E.Seq), (.s p1.E.Type_), (.l enc_GValue p1.E.Vals)])], 0⟩ <| AWP.if_ true (by kernel_rfl) <| Sx <| Wm (.i 11) rfl <| Nn <| Rt <| Tr ?_
   obtain rfl := Option.some.inj hm
   exact ret_i []
  ·
   replace hm := cF hq12_1 hm
   refine Wz (.b false) (Oq hq12_1 rfl) <| Wz (.loc 0 0) (Ofa rfl) <| Wz (.y p1.Kind) (Old rfl) <| Wz (.b (decide ((7 : Int) < ((p1.Kind.toNat : Nat) : Int)))) (Ob2 (.int .u8 ((p1.Kind.toNat : Nat) : Int)) (.int .u8 7) rfl (fun _ => hb_gtr)) <| Wz (.b (decide ((7 : Int) < ((p1.Kind.toNat : Nat) : Int)))) (OpF rfl) <| Nk 65545 1 ⟨.l enc_GType p0::tp 2 (.loc 0 0::tp 12 (.b (decide ((7 : Int) < ((p1.Kind.toNat : Nat) : Int)))::tp 59 [])), [(.box [(.y p1.Kind), (.s p1.Text), (.i p1.A), (.i p1.B), (.i p1.E.Time), (.i p1.E.Source), (.i p1.E.Seq), (.s p1.E.Type_), (.l enc_GValue p1.E.Vals)])], 0⟩ ?_
   rcases tf_ (decide ((7 : Int) < ((p1.Kind.toNat : Nat) : Int))) with hc16_11 | hc16_11
   ·
    replace hm := cT hc16_11 hm
    refine AiT hc16_11 <| Sx <| Wm (.i 11) rfl <| Nn <| Rt <| Tr ?_
    obtain rfl := Option.some.inj hm
    exact ret_i []
   ·
    replace hm := cF hc16_11 hm
    refine AiF hc16_11 <| Sk <| Tk 9 1 ⟨.l enc_GType p0::tp 2 (.loc 0 0::tp 72 []), [(.box [(.y p1.Kind), (.s p1.Text), (.i p1.A), (.i p1.B), (.i p1.E.Time), (.i p1.E.Source), (.i p1.E.Seq), (.s p1.E.Type_), (.l enc_GValue p1.E.Vals)])], 0⟩ ?_
    refine AWP.cutJ (α := Unit) (fun x => match x with | () => (⟨.l enc_GType p0::tp 2 (.loc 0 0::tp 72 []), [(.box [(.y p1.Kind), (.s p1.Text), (.i p1.A), (.i p1.B), (.i p1.E.Time), (.i p1.E.Source), (.i p1.E.Seq), (.s p1.E.Type_), (.l enc_GValue p1.E.Vals)])], 0⟩ : St)) (fun x => match x with | () => m_r37_Check_j3 p0 p1 = some r) ?_ (fun J3 => ?_)
    ·
     rintro ⟨⟩ hm
     try dsimp only at hm ⊢
     unfold m_r37_Check_j3 at hm
     refine AWP.cutJ (α := Unit) (fun x => match x with | () => (⟨tp 3 (.loc 0 0::tp 72 []), [(.box [(.y p1.Kind), (.s p1.Text), (.i p1.A), (.i p1.B), (.i p1.E.Time), (.i p1.E.Source), (.i p1.E.Seq), (.s p1.E.Type_), (.l enc_GValue p1.E.Vals)])], 0⟩ : St)) (fun x => match x with | () => m_r37_Check_j5 p1 = some r) ?_ (fun J5 => ?_)
     ·
      rintro ⟨⟩ hm
      try dsimp only at hm ⊢
      unfold m_r37_Check_j5 at hm
      refine Sq ?_
      refine AWP.cutJ (α := Unit) (fun x => match x with | () => (⟨tp 75 (.b true::[]), [], 0⟩ : St)) (fun x => match x with | () => m_r37_Check_j7  = some r) ?_ (fun J7 => ?_)
      ·
       rintro ⟨⟩ hm
       try dsimp only at hm ⊢
       unfold m_r37_Check_j7 at hm
       refine AWP.if_ true (by kernel_rfl) <| Sx <| Wm (.i 2) rfl <| Nn <| Rt <| Tr ?_
       obtain rfl := Option.some.inj hm
       exact ret_i []
      refine AWP.cutJ (α := Unit) (fun x => match x with | () => (⟨tp 75 (.b (decide (p1.B ≠ 0))::[]), [], 0⟩ : St)) (fun x => match x with | () => m_r37_Check_j8 p1 = some r) ?_ (fun J8 => ?_)
      ·
       rintro ⟨⟩ hm
       try dsimp only at hm ⊢
       unfold m_r37_Check_j8 at hm
       rcases tf_ (decide (p1.B ≠ 0)) with hc75_8 | hc75_8
       ·
        replace hm := cT hc75_8 hm
        refine AiT hc75_8 <| Sx <| Wm (.i 2) rfl <| Nn <| Rt <| Tr ?_
        obtain rfl := Option.some.inj hm
        exact ret_i []
       ·
        replace hm := cF hc75_8 hm
        refine AiF hc75_8 <| Sk <| Tk 0 0 ⟨tp 76 [], [], 0⟩ <| Sx <| Wm (.i 0) rfl <| Nn <| Rt ?_
        obtain rfl := Option.some.inj hm
        exact ret_i []
      refine AWP.cutJ (α := Unit) (fun x => match x with | () => (⟨tp 75 (.b false::[]), [], 0⟩ : St)) (fun x => match x with | () => m_r37_Check_j9  = some r) ?_ (fun J9 => ?_)
      ·
       rintro ⟨⟩ hm
       try dsimp only at hm ⊢
       unfold m_r37_Check_j9 at hm
       refine AWP.if_ false (by kernel_rfl) <| Sk <| Tk 0 0 ⟨tp 76 [], [], 0⟩ <| Sx <| Wm (.i 0) rfl <| Nn <| Rt ?_
       obtain rfl := Option.some.inj hm
       exact ret_i []
      refine Sx <| Wz (.loc 0 0) (Ofa rfl) <| Wz (.y p1.Kind) (Old rfl) <| Wz (.b (decide (((p1.Kind.toNat : Nat) : Int) ≠ 1))) (Ob2 (.int .u8 ((p1.Kind.toNat : Nat) : Int)) (.int .u8 1) rfl (fun _ => hb_neq)) ?_
      rcases tf_ (decide (((p1.Kind.toNat : Nat) : Int) ≠ 1)) with hq39_6 | hq39_6
      ·
       replace hm := cT hq39_6 hm
       refine Wz (.b true) (Oq hq39_6 rfl) <| Wz (.loc 0 1) (Ofa rfl) <| Wz (.s p1.Text) (Old rfl) <| Wz (.b (decide (p1.Text ≠ ([] : List UInt8)))) (Ocs (lit_tf (by simp only [toS_inj, ne_eq])) (op_bin rfl (a1 := .string (toS p1.Text)) (a2 := .string (toS ([] : List UInt8))) (by kernel_rfl) (by kernel_rfl) (fun _ => hb_sneq))) <| Wz (.b (decide (p1.Text ≠ ([] : List UInt8)))) (OpT rfl) ?_
       rcases tf_ (decide (p1.Text ≠ ([] : List UInt8))) with hq44_6 | hq44_6
       ·
        replace hm := cT hq44_6 hm
        refine Wz (.b true) (Oq hq44_6 rfl) <| Wn <| Wn <| Wn <| Wn <| Wn <| Wn <| Wn <| Wn <| Wn <| Wn <| Wz (.b true) (OpT rfl) <| Wm (.b true) rfl <| Wn ?_
        refine Wn <| Wn <| Wn <| Wn <| Wn <| Wn <| Wn <| Wz (.b true) (OpT rfl) <| Wm (.b true) rfl <| Wn <| Wn <| Wn <| Wn <| Wn ?_
        refine Wn <| Wn <| Wn <| Wz (.b true) (OpT rfl) <| Nn ?_
        exact AWP.weak (Weak.toK 37778931862957161709568 0 0 []) (J7 () hm)
       ·
        replace hm := cF hq44_6 hm
        refine Wz (.b false) (Oq hq44_6 rfl) <| Wz (.loc 0 0) (Ofa rfl) <| Wz (.y p1.Kind) (Old rfl) <| Wz (.b (decide (((p1.Kind.toNat : Nat) : Int) ≠ 3))) (Ob2 (.int .u8 ((p1.Kind.toNat : Nat) : Int)) (.int .u8 3) rfl (fun _ => hb_neq)) ?_
        rcases tf_ (decide (((p1.Kind.toNat : Nat) : Int) ≠ 3)) with hq48_6 | hq48_6
        ·
         replace hm := cT hq48_6 hm
         refine Wz (.b true) (Oq hq48_6 rfl) <| Wz (.loc 0 4) (Ofa rfl) <| Wz (.agg [(.i p1.E.Time), (.i p1.E.Source), (.i p1.E.Seq), (.s p1.E.Type_), (.l enc_GValue p1.E.Vals)]) (Old rfl) <| Wz (.agg [(.i 0), (.i 0), (.i 0), (.s ([] : List UInt8)), (.d .nil)]) (Obd rfl) ?_
         obtain ⟨r52_6, hr52_6, hm⟩ := bnd hm
         refine Wz (.b r52_6) (Ocf [] [] [] 0 (ok_r07_Same p1.E (GEvent.mk 0 0 0 ([] : List UInt8) ([] : List GValue)) r52_6 hr52_6) (fun a w => Tryd.call40 a w) rfl trivial) <| Wz (.b (!r52_6)) (Ocs (by kernel_rfl) (op_un rfl (a1 := .bool r52_6) (by kernel_rfl) (fun _ => hu_not))) <| Wz (.b (!r52_6)) (OpT rfl) <| Wz (.b (!r52_6)) (OpF rfl) ?_
         rcases tf_ (!r52_6) with hq56_6 | hq56_6
         ·
          replace hm := cT hq56_6 hm
          refine Wz (.b true) (Oq hq56_6 rfl) <| Wn <| Wn <| Wn <| Wn <| Wn <| Wn <| Wn <| Wn <| Wz (.b true) (OpT rfl) <| Wm (.b true) rfl <| Wn <| Wn <| Wn ?_
          refine Wn <| Wn <| Wn <| Wn <| Wn <| Wz (.b true) (OpT rfl) <| Nn ?_
          exact AWP.weak (Weak.toK 37778931862957161709568 0 0 []) (J7 () hm)
         ·
          replace hm := cF hq56_6 hm
          refine Wz (.b false) (Oq hq56_6 rfl) <| Wz (.loc 0 0) (Ofa rfl) <| Wz (.y p1.Kind) (Old rfl) <| Wz (.b (decide (((p1.Kind.toNat : Nat) : Int) < 4))) (Ob2 (.int .u8 ((p1.Kind.toNat : Nat) : Int)) (.int .u8 4) rfl (fun _ => hb_lss)) ?_
          rcases tf_ (decide (((p1.Kind.toNat : Nat) : Int) < 4)) with hq60_6 | hq60_6
          ·
           replace hm := cT hq60_6 hm
           refine Wz (.b true) (Oq hq60_6 rfl) <| Wz (.loc 0 2) (Ofa rfl) <| Wz (.i p1.A) (Old rfl) <| Wz (.b (decide (p1.A ≠ 0))) (Obn rfl (fun _ => hb_neq (k := .i64))) <| Wz (.b (decide (p1.A ≠ 0))) (OpT rfl) <| Wz (.b (decide (p1.A ≠ 0))) (OpF rfl) ?_
           rcases tf_ (decide (p1.A ≠ 0)) with hq66_6 | hq66_6
           ·
            replace hm := cT hq66_6 hm
            refine Wz (.b true) (Oq hq66_6 rfl) <| Wn <| Wn <| Wn <| Wn <| Wn <| Wn <| Wn <| Wn <| Wz (.b true) (OpT rfl) <| Nn ?_
            exact AWP.weak (Weak.toK 37778931862957161709568 0 0 []) (J7 () hm)
           ·
            replace hm := cF hq66_6 hm
            refine Wz (.b false) (Oq hq66_6 rfl) <| Wz (.loc 0 0) (Ofa rfl) <| Wz (.y p1.Kind) (Old rfl) <| Wz (.b (decide (((p1.Kind.toNat : Nat) : Int) ≠ 4))) (Ob2 (.int .u8 ((p1.Kind.toNat : Nat) : Int)) (.int .u8 4) rfl (fun _ => hb_neq)) ?_
            rcases tf_ (decide (((p1.Kind.toNat : Nat) : Int) ≠ 4)) with hq70_6 | hq70_6
            ·
             replace hm := cT hq70_6 hm
             refine Wz (.b true) (Oq hq70_6 rfl) <| Wz (.loc 0 3) (Ofa rfl) <| Wz (.i p1.B) (Old rfl) <| Wz (.b (decide (p1.B ≠ 0))) (Obn rfl (fun _ => hb_neq (k := .i64))) <| Wz (.b (decide (p1.B ≠ 0))) (OpT rfl) <| Wz (.b (decide (p1.B ≠ 0))) (OpF rfl) <| Nn ?_
             exact AWP.weak (Weak.toK 37778931862957161709568 0 0 []) (J8 () hm)
            ·
             replace hm := cF hq70_6 hm
             refine Wz (.b false) (Oq hq70_6 rfl) <| Wn <| Wn <| Wn <| Wz (.b false) (OpF rfl) <| Wz (.b false) (OpF rfl) <| Nn ?_
             exact AWP.weak (Weak.toK 37778931862957161709568 0 0 []) (J9 () hm)
          ·
           replace hm := cF hq60_6 hm
           refine Wz (.b false) (Oq hq60_6 rfl) <| Wn <| Wn <| Wn <| Wz (.b false) (OpF rfl) <| Wz (.b false) (OpF rfl) <| Wm (.b false) rfl <| Wz (.loc 0 0) (Ofa rfl) <| Wz (.y p1.Kind) (Old rfl) <| Wz (.b (decide (((p1.Kind.toNat : Nat) : Int) ≠ 4))) (Ob2 (.int .u8 ((p1.Kind.toNat : Nat) : Int)) (.int .u8 4) rfl (fun _ => hb_neq)) ?_
           rcases tf_ (decide (((p1.Kind.toNat : Nat) : Int) ≠ 4)) with hq70_6 | hq70_6
           ·
            replace hm := cT hq70_6 hm
            refine Wz (.b true) (Oq hq70_6 rfl) <| Wz (.loc 0 3) (Ofa rfl) <| Wz (.i p1.B) (Old rfl) <| Wz (.b (decide (p1.B ≠ 0))) (Obn rfl (fun _ => hb_neq (k := .i64))) <| Wz (.b (decide (p1.B ≠ 0))) (OpT rfl) <| Wz (.b (decide (p1.B ≠ 0))) (OpF rfl) <| Nn ?_
            exact AWP.weak (Weak.toK 37778931862957161709568 0 0 []) (J8 () hm)
           ·
            replace hm := cF hq70_6 hm
            refine Wz (.b false) (Oq hq70_6 rfl) <| Wn <| Wn <| Wn <| Wz (.b false) (OpF rfl) <| Wz (.b false) (OpF rfl) <| Nn ?_
            exact AWP.weak (Weak.toK 37778931862957161709568 0 0 []) (J9 () hm)
        ·
         replace hm := cF hq48_6 hm
         refine Wz (.b false) (Oq hq48_6 rfl) <| Wn <| Wn <| Wn <| Wn <| Wn <| Wz (.b false) (OpF rfl) <| Wz (.b false) (OpF rfl) <| Wm (.b false) rfl <| Wz (.loc 0 0) (Ofa rfl) <| Wz (.y p1.Kind) (Old rfl) <| Wz (.b (decide (((p1.Kind.toNat : Nat) : Int) < 4))) (Ob2 (.int .u8 ((p1.Kind.toNat : Nat) : Int)) (.int .u8 4) rfl (fun _ => hb_lss)) ?_
         rcases tf_ (decide (((p1.Kind.toNat : Nat) : Int) < 4)) with hq60_6 | hq60_6
         ·
          replace hm := cT hq60_6 hm
          refine Wz (.b true) (Oq hq60_6 rfl) <| Wz (.loc 0 2) (Ofa rfl) <| Wz (.i p1.A) (Old rfl) <| Wz (.b (decide (p1.A ≠ 0))) (Obn rfl (fun _ => hb_neq (k := .i64))) <| Wz (.b (decide (p1.A ≠ 0))) (OpT rfl) <| Wz (.b (decide (p1.A ≠ 0))) (OpF rfl) ?_
          rcases tf_ (decide (p1.A ≠ 0)) with hq66_6 | hq66_6
          ·
           replace hm := cT hq66_6 hm
           refine Wz (.b true) (Oq hq66_6 rfl) <| Wn <| Wn <| Wn <| Wn <| Wn <| Wn <| Wn <| Wn <| Wz (.b true) (OpT rfl) <| Nn ?_
           exact AWP.weak (Weak.toK 37778931862957161709568 0 0 []) (J7 () hm)
          ·
           replace hm := cF hq66_6 hm
           refine Wz (.b false) (Oq hq66_6 rfl) <| Wz (.loc 0 0) (Ofa rfl) <| Wz (.y p1.Kind) (Old rfl) <| Wz (.b (decide (((p1.Kind.toNat : Nat) : Int) ≠ 4))) (Ob2 (.int .u8 ((p1.Kind.toNat : Nat) : Int)) (.int .u8 4) rfl (fun _ => hb_neq)) ?_
           rcases tf_ (decide (((p1.Kind.toNat : Nat) : Int) ≠ 4)) with hq70_6 | hq70_6
           ·
            replace hm := cT hq70_6 hm
            refine Wz (.b true) (Oq hq70_6 rfl) <| Wz (.loc 0 3) (Ofa rfl) <| Wz (.i p1.B) (Old rfl) <| Wz (.b (decide (p1.B ≠ 0))) (Obn rfl (fun _ => hb_neq (k := .i64))) <| Wz (.b (decide (p1.B ≠ 0))) (OpT rfl) <| Wz (.b (decide (p1.B ≠ 0))) (OpF rfl) <| Nn ?_
            exact AWP.weak (Weak.toK 37778931862957161709568 0 0 []) (J8 () hm)
           ·
            replace hm := cF hq70_6 hm
            refine Wz (.b false) (Oq hq70_6 rfl) <| Wn <| Wn <| Wn <| Wz (.b false) (OpF rfl) <| Wz (.b false) (OpF rfl) <| Nn ?_
            exact AWP.weak (Weak.toK 37778931862957161709568 0 0 []) (J9 () hm)
         ·
          replace hm := cF hq60_6 hm
          refine Wz (.b false) (Oq hq60_6 rfl) <| Wn <| Wn <| Wn <| Wz (.b false) (OpF rfl) <| Wz (.b false) (OpF rfl) <| Wm (.b false) rfl <| Wz (.loc 0 0) (Ofa rfl) <| Wz (.y p1.Kind) (Old rfl) <| Wz (.b (decide (((p1.Kind.toNat : Nat) : Int) ≠ 4))) (Ob2 (.int .u8 ((p1.Kind.toNat : Nat) : Int)) (.int .u8 4) rfl (fun _ => hb_neq)) ?_
          rcases tf_ (decide (((p1.Kind.toNat : Nat) : Int) ≠ 4)) with hq70_6 | hq70_6
          ·
           replace hm := cT hq70_6 hm
           refine Wz (.b true) (Oq hq70_6 rfl) <| Wz (.loc 0 3) (Ofa rfl) <| Wz (.i p1.B) (Old rfl) <| Wz (.b (decide (p1.B ≠ 0))) (Obn rfl (fun _ => hb_neq (k := .i64))) <| Wz (.b (decide (p1.B ≠ 0))) (OpT rfl) <| Wz (.b (decide (p1.B ≠ 0))) (OpF rfl) <| Nn ?_
           exact AWP.weak (Weak.toK 37778931862957161709568 0 0 []) (J8 () hm)
          ·
           replace hm := cF hq70_6 hm
           refine Wz (.b false) (Oq hq70_6 rfl) <| Wn <| Wn <| Wn <| Wz (.b false) (OpF rfl) <| Wz (.b false) (OpF rfl) <| Nn ?_
           exact AWP.weak (Weak.toK 37778931862957161709568 0 0 []) (J9 () hm)
      ·
       replace hm := cF hq39_6 hm
       refine Wz (.b false) (Oq hq39_6 rfl) <| Wn <| Wn <| Wn <| Wz (.b false) (OpF rfl) <| Wm (.b false) rfl <| Wz (.loc 0 0) (Ofa rfl) <| Wz (.y p1.Kind) (Old rfl) <| Wz (.b (decide (((p1.Kind.toNat : Nat) : Int) ≠ 3))) (Ob2 (.int .u8 ((p1.Kind.toNat : Nat) : Int)) (.int .u8 3) rfl (fun _ => hb_neq)) ?_
       rcases tf_ (decide (((p1.Kind.toNat : Nat) : Int) ≠ 3)) with hq48_6 | hq48_6
       ·
        replace hm := cT hq48_6 hm
        refine Wz (.b true) (Oq hq48_6 rfl) <| Wz (.loc 0 4) (Ofa rfl) <| Wz (.agg [(.i p1.E.Time), (.i p1.E.Source), (.i p1.E.Seq), (.s p1.E.Type_), (.l enc_GValue p1.E.Vals)]) (Old rfl) <| Wz (.agg [(.i 0), (.i 0), (.i 0), (.s ([] : List UInt8)), (.d .nil)]) (Obd rfl) ?_
        obtain ⟨r52_6, hr52_6, hm⟩ := bnd hm
        refine Wz (.b r52_6) (Ocf [] [] [] 0 (ok_r07_Same p1.E (GEvent.mk 0 0 0 ([] : List UInt8) ([] : List GValue)) r52_6 hr52_6) (fun a w => Tryd.call40 a w) rfl trivial) <| Wz (.b (!r52_6)) (Ocs (by kernel_rfl) (op_un rfl (a1 := .bool r52_6) (by kernel_rfl) (fun _ => hu_not))) <| Wz (.b (!r52_6)) (OpT rfl) <| Wz (.b (!r52_6)) (OpF rfl) ?_
        rcases tf_ (!r52_6) with hq56_6 | hq56_6
        ·
         replace hm := cT hq56_6 hm
         refine Wz (.b true) (Oq hq56_6 rfl) <| Wn <| Wn <| Wn <| Wn <| Wn <| Wn <| Wn <| Wn <| Wz (.b true) (OpT rfl) <| Wm (.b true) rfl <| Wn <| Wn <| Wn ?_
         refine Wn <| Wn <| Wn <| Wn <| Wn <| Wz (.b true) (OpT rfl) <| Nn ?_
         exact AWP.weak (Weak.toK 37778931862957161709568 0 0 []) (J7 () hm)
        ·
         replace hm := cF hq56_6 hm
         refine Wz (.b false) (Oq hq56_6 rfl) <| Wz (.loc 0 0) (Ofa rfl) <| Wz (.y p1.Kind) (Old rfl) <| Wz (.b (decide (((p1.Kind.toNat : Nat) : Int) < 4))) (Ob2 (.int .u8 ((p1.Kind.toNat : Nat) : Int)) (.int .u8 4) rfl (fun _ => hb_lss)) ?_
         rcases tf_ (decide (((p1.Kind.toNat : Nat) : Int) < 4)) with hq60_6 | hq60_6
         ·
          replace hm := cT hq60_6 hm
          refine Wz (.b true) (Oq hq60_6 rfl) <| Wz (.loc 0 2) (Ofa rfl) <| Wz (.i p1.A) (Old rfl) <| Wz (.b (decide (p1.A ≠ 0))) (Obn rfl (fun _ => hb_neq (k := .i64))) <| Wz (.b (decide (p1.A ≠ 0))) (OpT rfl) <| Wz (.b (decide (p1.A ≠ 0))) (OpF rfl) ?_
          rcases tf_ (decide (p1.A ≠ 0)) with hq66_6 | hq66_6
          ·
           replace hm := cT hq66_6 hm
           refine Wz (.b true) (Oq hq66_6 rfl) <| Wn <| Wn <| Wn <| Wn <| Wn <| Wn <| Wn <| Wn <| Wz (.b true) (OpT rfl) <| Nn ?_
           exact AWP.weak (Weak.toK 37778931862957161709568 0 0 []) (J7 () hm)
          ·
           replace hm := cF hq66_6 hm
           refine Wz (.b false) (Oq hq66_6 rfl) <| Wz (.loc 0 0) (Ofa rfl) <| Wz (.y p1.Kind) (Old rfl) <| Wz (.b (decide (((p1.Kind.toNat : Nat) : Int) ≠ 4))) (Ob2 (.int .u8 ((p1.Kind.toNat : Nat) : Int)) (.int .u8 4) rfl (fun _ => hb_neq)) ?_
           rcases tf_ (decide (((p1.Kind.toNat : Nat) : Int) ≠ 4)) with hq70_6 | hq70_6
           ·
            replace hm := cT hq70_6 hm
            refine Wz (.b true) (Oq hq70_6 rfl) <| Wz (.loc 0 3) (Ofa rfl) <| Wz (.i p1.B) (Old rfl) <| Wz (.b (decide (p1.B ≠ 0))) (Obn rfl (fun _ => hb_neq (k := .i64))) <| Wz (.b (decide (p1.B ≠ 0))) (OpT rfl) <| Wz (.b (decide (p1.B ≠ 0))) (OpF rfl) <| Nn ?_
            exact AWP.weak (Weak.toK 37778931862957161709568 0 0 []) (J8 () hm)
           ·
            replace hm := cF hq70_6 hm
            refine Wz (.b false) (Oq hq70_6 rfl) <| Wn <| Wn <| Wn <| Wz (.b false) (OpF rfl) <| Wz (.b false) (OpF rfl) <| Nn ?_
            exact AWP.weak (Weak.toK 37778931862957161709568 0 0 []) (J9 () hm)
         ·
          replace hm := cF hq60_6 hm
          refine Wz (.b false) (Oq hq60_6 rfl) <| Wn <| Wn <| Wn <| Wz (.b false) (OpF rfl) <| Wz (.b false) (OpF rfl) <| Wm (.b false) rfl <| Wz (.loc 0 0) (Ofa rfl) <| Wz (.y p1.Kind) (Old rfl) <| Wz (.b (decide (((p1.Kind.toNat : Nat) : Int) ≠ 4))) (Ob2 (.int .u8 ((p1.Kind.toNat : Nat) : Int)) (.int .u8 4) rfl (fun _ => hb_neq)) ?_
          rcases tf_ (decide (((p1.Kind.toNat : Nat) : Int) ≠ 4)) with hq70_6 | hq70_6
          ·
           replace hm := cT hq70_6 hm
           refine Wz (.b true) (Oq hq70_6 rfl) <| Wz (.loc 0 3) (Ofa rfl) <| Wz (.i p1.B) (Old rfl) <| Wz (.b (decide (p1.B ≠ 0))) (Obn rfl (fun _ => hb_neq (k := .i64))) <| Wz (.b (decide (p1.B ≠ 0))) (OpT rfl) <| Wz (.b (decide (p1.B ≠ 0))) (OpF rfl) <| Nn ?_
           exact AWP.weak (Weak.toK 37778931862957161709568 0 0 []) (J8 () hm)
          ·
           replace hm := cF hq70_6 hm
           refine Wz (.b false) (Oq hq70_6 rfl) <| Wn <| Wn <| Wn <| Wz (.b false) (OpF rfl) <| Wz (.b false) (OpF rfl) <| Nn ?_
           exact AWP.weak (Weak.toK 37778931862957161709568 0 0 []) (J9 () hm)
       ·
        replace hm := cF hq48_6 hm
        refine Wz (.b false) (Oq hq48_6 rfl) <| Wn <| Wn <| Wn <| Wn <| Wn <| Wz (.b false) (OpF rfl) <| Wz (.b false) (OpF rfl) <| Wm (.b false) rfl <| Wz (.loc 0 0) (Ofa rfl) <| Wz (.y p1.Kind) (Old rfl) <| Wz (.b (decide (((p1.Kind.toNat : Nat) : Int) < 4))) (Ob2 (.int .u8 ((p1.Kind.toNat : Nat) : Int)) (.int .u8 4) rfl (fun _ => hb_lss)) ?_
        rcases tf_ (decide (((p1.Kind.toNat : Nat) : Int) < 4)) with hq60_6 | hq60_6
        ·
         replace hm := cT hq60_6 hm
         refine Wz (.b true) (Oq hq60_6 rfl) <| Wz (.loc 0 2) (Ofa rfl) <| Wz (.i p1.A) (Old rfl) <| Wz (.b (decide (p1.A ≠ 0))) (Obn rfl (fun _ => hb_neq (k := .i64))) <| Wz (.b (decide (p1.A ≠ 0))) (OpT rfl) <| Wz (.b (decide (p1.A ≠ 0))) (OpF rfl) ?_
         rcases tf_ (decide (p1.A ≠ 0)) with hq66_6 | hq66_6
         ·
          replace hm := cT hq66_6 hm
          refine Wz (.b true) (Oq hq66_6 rfl) <| Wn <| Wn <| Wn <| Wn <| Wn <| Wn <| Wn <| Wn <| Wz (.b true) (OpT rfl) <| Nn ?_
          exact AWP.weak (Weak.toK 37778931862957161709568 0 0 []) (J7 () hm)
         ·
          replace hm := cF hq66_6 hm
          refine Wz (.b false) (Oq hq66_6 rfl) <| Wz (.loc 0 0) (Ofa rfl) <| Wz (.y p1.Kind) (Old rfl) <| Wz (.b (decide (((p1.Kind.toNat : Nat) : Int) ≠ 4))) (Ob2 (.int .u8 ((p1.Kind.toNat : Nat) : Int)) (.int .u8 4) rfl (fun _ => hb_neq)) ?_
          rcases tf_ (decide (((p1.Kind.toNat : Nat) : Int) ≠ 4)) with hq70_6 | hq70_6
          ·
           replace hm := cT hq70_6 hm
           refine Wz (.b true) (Oq hq70_6 rfl) <| Wz (.loc 0 3) (Ofa rfl) <| Wz (.i p1.B) (Old rfl) <| Wz (.b (decide (p1.B ≠ 0))) (Obn rfl (fun _ => hb_neq (k := .i64))) <| Wz (.b (decide (p1.B ≠ 0))) (OpT rfl) <| Wz (.b (decide (p1.B ≠ 0))) (OpF rfl) <| Nn ?_
           exact AWP.weak (Weak.toK 37778931862957161709568 0 0 []) (J8 () hm)
          ·
           replace hm := cF hq70_6 hm
           refine Wz (.b false) (Oq hq70_6 rfl) <| Wn <| Wn <| Wn <| Wz (.b false) (OpF rfl) <| Wz (.b false) (OpF rfl) <| Nn ?_
           exact AWP.weak (Weak.toK 37778931862957161709568 0 0 []) (J9 () hm)
        ·
         replace hm := cF hq60_6 hm
         refine Wz (.b false) (Oq hq60_6 rfl) <| Wn <| Wn <| Wn <| Wz (.b false) (OpF rfl) <| Wz (.b false) (OpF rfl) <| Wm (.b false) rfl <| Wz (.loc 0 0) (Ofa rfl) <| Wz (.y p1.Kind) (Old rfl) <| Wz (.b (decide (((p1.Kind.toNat : Nat) : Int) ≠ 4))) (Ob2 (.int .u8 ((p1.Kind.toNat : Nat) : Int)) (.int .u8 4) rfl (fun _ => hb_neq)) ?_
         rcases tf_ (decide (((p1.Kind.toNat : Nat) : Int) ≠ 4)) with hq70_6 | hq70_6
         ·
          replace hm := cT hq70_6 hm
          refine Wz (.b true) (Oq hq70_6 rfl) <| Wz (.loc 0 3) (Ofa rfl) <| Wz (.i p1.B) (Old rfl) <| Wz (.b (decide (p1.B ≠ 0))) (Obn rfl (fun _ => hb_neq (k := .i64))) <| Wz (.b (decide (p1.B ≠ 0))) (OpT rfl) <| Wz (.b (decide (p1.B ≠ 0))) (OpF rfl) <| Nn ?_
          exact AWP.weak (Weak.toK 37778931862957161709568 0 0 []) (J8 () hm)
         ·
          replace hm := cF hq70_6 hm
          refine Wz (.b false) (Oq hq70_6 rfl) <| Wn <| Wn <| Wn <| Wz (.b false) (OpF rfl) <| Wz (.b false) (OpF rfl) <| Nn ?_
          exact AWP.weak (Weak.toK 37778931862957161709568 0 0 []) (J9 () hm)
     refine Sq <| Sx <| Wz (.loc 0 0) (Ofa rfl) <| Wz (.y p1.Kind) (Old rfl) <| Wz (.b (decide (((p1.Kind.toNat : Nat) : Int) = 3))) (Ob2 (.int .u8 ((p1.Kind.toNat : Nat) : Int)) (.int .u8 3) rfl (fun _ => hb_eql)) <| Nk 268435465 1 ⟨.l enc_GType p0::tp 2 (.loc 0 0::tp 24 (.b (decide (((p1.Kind.toNat : Nat) : Int) = 3))::tp 47 [])), [(.box [(.y p1.Kind), (.s p1.Text), (.i p1.A), (.i p1.B), (.i p1.E.Time), (.i p1.E.Source), (.i p1.E.Seq), (.s p1.E.Type_), (.l enc_GValue p1.E.Vals)])], 0⟩ ?_
     rcases tf_ (decide (((p1.Kind.toNat : Nat) : Int) = 3)) with hc28_12 | hc28_12
     ·
      replace hm := cT hc28_12 hm
      refine AiT hc28_12 <| Sx <| Wm (.l enc_GType p0) rfl <| Wz (.loc 0 4) (Ofa rfl) <| Wz (.agg [(.i p1.E.Time), (.i p1.E.Source), (.i p1.E.Seq), (.s p1.E.Type_), (.l enc_GValue p1.E.Vals)]) (Old rfl) ?_
      obtain ⟨r32_4, hr32_4, hm⟩ := bnd hm
      refine Wz (.i r32_4) (Ocf [] [] [] 0 (ok_r07_Check p0 p1.E r32_4 hr32_4) (fun a w => Tryd.call39 a w) rfl trivial) <| Wm (.i r32_4) rfl <| Nk 40 1 ⟨tp 3 (.loc 0 0::tp 1 (.i r32_4::tp 70 [])), [(.box [(.y p1.Kind), (.s p1.Text), (.i p1.A), (.i p1.B), (.i p1.E.Time), (.i p1.E.Source), (.i p1.E.Seq), (.s p1.E.Type_), (.l enc_GValue p1.E.Vals)])], 0⟩ <| Sx <| Wm (.i r32_4) rfl <| Wz (.b (decide (r32_4 ≠ 0))) (Obn rfl (fun _ => hb_neq (k := .i64))) <| Nk 17179869224 1 ⟨tp 3 (.loc 0 0::tp 1 (.i r32_4::tp 28 (.b (decide (r32_4 ≠ 0))::tp 41 []))), [(.box [(.y p1.Kind), (.s p1.Text), (.i p1.A), (.i p1.B), (.i p1.E.Time), (.i p1.E.Source), (.i p1.E.Seq), (.s p1.E.Type_), (.l enc_GValue p1.E.Vals)])], 0⟩ ?_
      rcases tf_ (decide (r32_4 ≠ 0)) with hc34_13 | hc34_13
      ·
       replace hm := cT hc34_13 hm
       refine AiT hc34_13 <| Sx <| Wm (.i r32_4) rfl <| Wm (.i r32_4) rfl <| Nn <| Rt <| Tr ?_
       obtain rfl := Option.some.inj hm
       exact ret_i []
      ·
       replace hm := cF hc34_13 hm
       refine AiF hc34_13 <| Sk <| Tn ?_
       exact AWP.weak (Weak.toK 8 0 0 [0]) (J5 () hm)
     ·
      replace hm := cF hc28_12 hm
      refine AiF hc28_12 <| Sk <| Tn ?_
      exact AWP.weak (Weak.toK 8 0 0 [0]) (J5 () hm)
    refine Sq <| Sx <| Wz (.loc 0 0) (Ofa rfl) <| Wz (.y p1.Kind) (Old rfl) <| Wz (.b (decide (((p1.Kind.toNat : Nat) : Int) = 1))) (Ob2 (.int .u8 ((p1.Kind.toNat : Nat) : Int)) (.int .u8 1) rfl (fun _ => hb_eql)) ?_
    rcases tf_ (decide (((p1.Kind.toNat : Nat) : Int) = 1)) with hq20_2 | hq20_2
    ·
     replace hm := cT hq20_2 hm
     refine Wz (.b true) (Oq hq20_2 rfl) <| Wz (.loc 0 1) (Ofa rfl) <| Wz (.s p1.Text) (Old rfl) <| Wz (.i ((List.length p1.Text : Nat) : Int)) (Oln rfl) <| Wz (.b (decide ((600 : Int) < ((List.length p1.Text : Nat) : Int)))) (Obn rfl (fun _ => hb_gtr (k := .i64))) <| Wz (.b (decide ((600 : Int) < ((List.length p1.Text : Nat) : Int)))) (OpT rfl) <| Nk 33554441 1 ⟨.l enc_GType p0::tp 2 (.loc 0 0::tp 21 (.b (decide ((600 : Int) < ((List.length p1.Text : Nat) : Int)))::tp 50 [])), [(.box [(.y p1.Kind), (.s p1.Text), (.i p1.A), (.i p1.B), (.i p1.E.Time), (.i p1.E.Source), (.i p1.E.Seq), (.s p1.E.Type_), (.l enc_GValue p1.E.Vals)])], 0⟩ ?_
     rcases tf_ (decide ((600 : Int) < ((List.length p1.Text : Nat) : Int))) with hc25_14 | hc25_14
     ·
      replace hm := cT hc25_14 hm
      refine AiT hc25_14 <| Sx <| Wm (.i 5) rfl <| Nn <| Rt <| Tr ?_
      obtain rfl := Option.some.inj hm
      exact ret_i []
     ·
      replace hm := cF hc25_14 hm
      refine AiF hc25_14 <| Sk <| Tn ?_
      exact AWP.weak (Weak.toK 9 0 0 [0]) (J3 () hm)
    ·
     replace hm := cF hq20_2 hm
     refine Wz (.b false) (Oq hq20_2 rfl) <| Wn <| Wn <| Wn <| Wn <| Wz (.b false) (OpF rfl) <| Nk 33554441 1 ⟨.l enc_GType p0::tp 2 (.loc 0 0::tp 21 (.b false::tp 50 [])), [(.box [(.y p1.Kind), (.s p1.Text), (.i p1.A), (.i p1.B), (.i p1.E.Time), (.i p1.E.Source), (.i p1.E.Seq), (.s p1.E.Type_), (.l enc_GValue p1.E.Vals)])], 0⟩ <| AWP.if_ false (by kernel_rfl) <| Sk <| Tn ?_
     exact AWP.weak (Weak.toK 9 0 0 [0]) (J3 () hm)

theorem ok_r01_Num (p0 : (List UInt8)) (p1 : Int) (p2 : Int) (r : ((List UInt8) × Int)) (h : m_r01_Num p0 p1 p2 = some r) : GCall Tryd.prog 54 [(.l encU8 p0), (.i p1), (.i p2)] [] (.tup [(.own 0), (.i r.2)]) [(Ar 5 1 encU8 r.1)] := by
 refine GCall.of_body (n := 38) (rs := [(.tmp 6), (.tmp 7)]) Tryd.func54 rfl rfl rfl <| Ato ⟨.l encU8 p0::.i p1::.i p2::tu 35 [], [], 0⟩ ?_
 have hm := h
 unfold m_r01_Num at hm
 refine Sx <| Wm (.d .nil) rfl <| Wm (.i 0) rfl <| Nk 7 0 ⟨.l encU8 p0::.i p1::.i p2::tp 35 [], [], 0⟩ <| Sq <| Sx <| Wm (.i p1) rfl <| Wz (.b (decide (p1 < 1))) (Obn rfl (fun _ => hb_lss (k := .i64))) ?_
 rcases tf_ (decide (p1 < 1)) with hq12_0 | hq12_0
 ·
  replace hm := cT hq12_0 hm
  refine Wz (.b true) (Oq hq12_0 rfl) <| Wn <| Wn <| Wz (.b true) (OpT rfl) <| Nk 32775 0 ⟨.l encU8 p0::.i p1::.i p2::tp 12 (.b true::tp 22 []), [], 0⟩ <| AWP.if_ true (by kernel_rfl) <| Sx <| Wm (.d .nil) rfl <| Wm (.i 2) rfl <| Nn <| Aow 6 5 1 ⟨.l encU8 p0::.i p1::.i p2::tp 3 (.own 0::.i 2::tp 7 (.b true::tp 22 [])), [(Ar 5 1 encU8 ([] : List UInt8))], 0⟩ <| Rt <| Tr ?_
  obtain rfl := Option.some.inj hm
  exact ret_i [0]
 ·
  replace hm := cF hq12_0 hm
  refine Wz (.b false) (Oq hq12_0 rfl) <| Wm (.i p1) rfl <| Wz (.b (decide ((6 : Int) < p1))) (Obn rfl (fun _ => hb_gtr (k := .i64))) <| Wz (.b (decide ((6 : Int) < p1))) (OpF rfl) <| Nk 32775 0 ⟨.l encU8 p0::.i p1::.i p2::tp 12 (.b (decide ((6 : Int) < p1))::tp 22 []), [], 0⟩ ?_
  rcases tf_ (decide ((6 : Int) < p1)) with hc15_4 | hc15_4
  ·
   replace hm := cT hc15_4 hm
   refine AiT hc15_4 <| Sx <| Wm (.d .nil) rfl <| Wm (.i 2) rfl <| Nn <| Aow 6 5 1 ⟨.l encU8 p0::.i p1::.i p2::tp 3 (.own 0::.i 2::tp 7 (.b (decide ((6 : Int) < p1))::tp 22 [])), [(Ar 5 1 encU8 ([] : List UInt8))], 0⟩ <| Rt <| Tr ?_
   obtain rfl := Option.some.inj hm
   exact ret_i [0]
  ·
   replace hm := cF hc15_4 hm
   refine AiF hc15_4 <| Sk <| Tk 7 0 ⟨.l encU8 p0::.i p1::.i p2::tp 35 [], [], 0⟩ <| Sq <| Sx <| Wm (.i p2) rfl <| Wz (.b (decide (p2 < 0))) (Obn rfl (fun _ => hb_lss (k := .i64))) <| Nk 131079 0 ⟨.l encU8 p0::.i p1::.i p2::tp 14 (.b (decide (p2 < 0))::tp 20 []), [], 0⟩ ?_
   rcases tf_ (decide (p2 < 0)) with hc17_5 | hc17_5
   ·
    replace hm := cT hc17_5 hm
    refine AiT hc17_5 <| Sx <| Wm (.d .nil) rfl <| Wm (.i 8) rfl <| Nn <| Aow 6 5 1 ⟨.l encU8 p0::.i p1::.i p2::tp 3 (.own 0::.i 8::tp 9 (.b (decide (p2 < 0))::tp 20 [])), [(Ar 5 1 encU8 ([] : List UInt8))], 0⟩ <| Rt <| Tr ?_
    obtain rfl := Option.some.inj hm
    exact ret_i [0]
   ·
    replace hm := cF hc17_5 hm
    refine AiF hc17_5 <| Sk <| Tk 7 0 ⟨.l encU8 p0::.i p1::.i p2::tp 35 [], [], 0⟩ <| Sx <| Wm (.d .nil) rfl <| Nk 263 0 ⟨.l encU8 p0::.i p1::.i p2::tp 5 (.d .nil::tp 29 []), [], 0⟩ <| Sq <| Sx <| Wm (.i 0) rfl <| Nk 775 0 ⟨.l encU8 p0::.i p1::.i p2::tp 5 (.d .nil::.i 0::tp 28 []), [], 0⟩ <| Bk <| Aow 8 5 1 ⟨.l encU8 p0::.i p1::.i p2::tp 5 (.own 0::.i 0::tp 28 []), [(Ar 5 1 encU8 ([] : List UInt8))], 0⟩ ?_
    refine AWP.loopI (α := Nat × Int × (List UInt8) × Int)
      (fun (fu_1, y2_1, y8_1, y9_1) => (⟨.l encU8 p0::.i p1::.i y2_1::tp 5 (.own 0::.i y9_1::tp 28 []), [(Ar 5 1 encU8 y8_1)], 0⟩ : St))
      (fun (fu_1, y2_1, y8_1, y9_1) => m_r01_Num_l1 p0 p1 fu_1 y2_1 y8_1 y9_1 = some r)
      (fun (fu_1, y2_1, y8_1, y9_1) => fu_1) (1152921504606846976, p2, ([] : List UInt8), 0)
      (Weak.toK 775 0 0 [0]) hm ?_
    rintro ⟨fu_1, y2_1, y8_1, y9_1⟩ n_1 hm ih_1
    try dsimp only at hm ih_1 ⊢
    cases fu_1 with
    | zero => exact absurd hm (by unfold m_r01_Num_l1; simp)
    | succ fu_1 =>
     unfold m_r01_Num_l1 at hm
     refine Sq <| Sx <| Wm (.i y9_1) rfl <| Wm (.i p1) rfl <| Wz (.b (decide (y9_1 < p1))) (Obn rfl (fun _ => hb_lss (k := .i64))) <| Nk 1049351 1 ⟨.l encU8 p0::.i p1::.i y2_1::tp 5 (.own 0::.i y9_1::tp 10 (.b (decide (y9_1 < p1))::tp 17 [])), [(Ar 5 1 encU8 y8_1)], 0⟩ ?_
     rcases tf_ (decide (y9_1 < p1)) with hc20_6 | hc20_6
     ·
      replace hm := cT hc20_6 hm
      refine AiT hc20_6 <| Sk <| Tk 775 1 ⟨.l encU8 p0::.i p1::.i y2_1::tp 5 (.own 0::.i y9_1::tp 28 []), [(Ar 5 1 encU8 y8_1)], 0⟩ <| Sq <| Bk <| Sx <| Wm (.i y2_1) rfl <| Wz (.i (Int.tmod y2_1 256)) (Ob2 (.int .i64 y2_1) (.int .i64 256) rfl (fun _ => hb_rem (by decide))) <| Wz (.y (toU8 (Int.tmod y2_1 256))) (Ocs (lit_int (u8w _)) (op_convert rfl (a1 := .int .i64 (Int.tmod y2_1 256)) (by kernel_rfl) (run_conv (ds := .int .i64) (k' := .u8) (by kernel_rfl) (by kernel_rfl)))) <| Wy (.own 1) [(1, (Ar 5 1 encU8 ([(toU8 (Int.tmod y2_1 256))] : List UInt8)))] (Obs rfl) <| Wm (.own 0) rfl ?_
      obtain ⟨a28_2, ha28_2, hm⟩ := bnd hm; obtain ⟨ha28_2e, ha28_2l⟩ := app_some ha28_2
      refine Wy (.own 2) [(1, .gone), (2, (Ar 5 1 encU8 a28_2))] (Oap rfl elemOK_31 encU8_len ha28_2e ha28_2l) <| Wm (.own 2) rfl <| Nk 775 4 ⟨.l encU8 p0::.i p1::.i y2_1::tp 5 (.own 2::.i y9_1::tp 28 []), [.gone, .gone, (Ar 5 1 encU8 a28_2)], 0⟩ <| Tx <| Wm (.i y2_1) rfl <| Wz (.i (W6 (Int.tdiv y2_1 256))) (Ob2 (.int .i64 y2_1) (.int .i64 256) rfl (fun _ => hb_quo (by decide))) <| Wm (.i (W6 (Int.tdiv y2_1 256))) rfl <| Wn0 <| Ino <| Tk 775 4 ⟨.l encU8 p0::.i p1::.i (W6 (Int.tdiv y2_1 256))::tp 5 (.own 2::.i y9_1::tp 28 []), [.gone, .gone, (Ar 5 1 encU8 a28_2)], 0⟩ <| Tx <| Wm (.i y9_1) rfl <| Wz (.i (W6 (y9_1 + 1))) (Obn rfl (fun _ => hb_add (k := .i64))) <| Wm (.i (W6 (y9_1 + 1))) rfl ?_
      refine Wn0 <| RoundK.normal ?_
      exact Rounds.weak (Weak.toK 775 0 0 [2]) (ih_1 (fu_1, (W6 (Int.tdiv y2_1 256)), a28_2, (W6 (y9_1 + 1))) hm (Nat.lt_succ_self _))
     ·
      replace hm := cF hc20_6 hm
      refine AiF hc20_6 <| AWP.exit <| Then.exit <| RoundK.exit <| InBlock.same <| Tk 261 1 ⟨.l encU8 p0::tp 1 (.i y2_1::tp 5 (.own 0::tp 29 [])), [(Ar 5 1 encU8 y8_1)], 0⟩ <| Sq <| Sx <| Wm (.i y2_1) rfl <| Wz (.b (decide ((0 : Int) < y2_1))) (Obn rfl (fun _ => hb_gtr (k := .i64))) <| Nk 4294967553 1 ⟨.l encU8 p0::tp 7 (.own 0::tp 23 (.b (decide ((0 : Int) < y2_1))::tp 5 [])), [(Ar 5 1 encU8 y8_1)], 0⟩ ?_
      rcases tf_ (decide ((0 : Int) < y2_1)) with hc32_7 | hc32_7
      ·
       replace hm := cT hc32_7 hm
       refine AiT hc32_7 <| Sx <| Wm (.d .nil) rfl <| Wm (.i 8) rfl <| Nn <| Aow 6 5 1 ⟨.l encU8 p0::tp 5 (.own 1::.i 8::.own 0::tp 23 (.b (decide ((0 : Int) < y2_1))::tp 5 [])), [(Ar 5 1 encU8 y8_1), (Ar 5 1 encU8 ([] : List UInt8))], 0⟩ <| Rt <| Tr ?_
       obtain rfl := Option.some.inj hm
       exact ret_i [1]
      ·
       replace hm := cF hc32_7 hm
       refine AiF hc32_7 <| Sk <| Tk 257 1 ⟨.l encU8 p0::tp 7 (.own 0::tp 29 []), [(Ar 5 1 encU8 y8_1)], 0⟩ <| Sx <| Wy (.own 1) [(1, (Ar 5 1 encU8 ([] : List UInt8)))] (Obs rfl) <| Wm (.l encU8 p0) rfl ?_
       obtain ⟨a35_3, ha35_3, hm⟩ := bnd hm; obtain ⟨ha35_3e, ha35_3l⟩ := app_some ha35_3
       refine Wy (.own 2) [(1, .gone), (2, (Ar 5 1 encU8 a35_3))] (Oap rfl elemOK_31 encU8_len ha35_3e ha35_3l) <| Wm (.own 0) rfl ?_
       obtain ⟨a37_3, ha37_3, hm⟩ := bnd hm; obtain ⟨ha37_3e, ha37_3l⟩ := app_some ha37_3
       refine Wy (.own 3) [(2, .gone), (3, (Ar 5 1 encU8 a37_3))] (Oap rfl elemOK_31 encU8_len ha37_3e ha37_3l) <| Wm (.own 3) rfl <| Wm (.i 0) rfl <| Nn <| Rt ?_
       obtain rfl := Option.some.inj hm
       exact ret_i [3]

theorem ok_r01_Text (p0 : (List UInt8)) (p1 : (List UInt8)) (r : ((List UInt8) × Int)) (h : m_r01_Text p0 p1 = some r) : GCall Tryd.prog 30 [(.l encU8 p0), (.s p1)] [] (.tup [(.own 0), (.i r.2)]) [(Ar 5 1 encU8 r.1)] := by
 refine GCall.of_body (n := 20) (rs := [(.tmp 4), (.tmp 5)]) Tryd.func30 rfl rfl rfl <| Ato ⟨.l encU8 p0::.s p1::tu 18 [], [], 0⟩ ?_
 have hm := h
 unfold m_r01_Text at hm
 refine Sx <| Wm (.d .nil) rfl <| Wm (.i 0) rfl <| Nk 3 0 ⟨.l encU8 p0::.s p1::tp 18 [], [], 0⟩ <| Sx <| Wm (.l encU8 p0) rfl <| Wm (.s p1) rfl <| Wz (.i ((List.length p1 : Nat) : Int)) (Oln rfl) ?_
 obtain ⟨r12_0, hr12_0, hm⟩ := bnd hm
 refine Wy (.tup [(.own 0), (.i r12_0.2)]) [(0, (Ar 5 1 encU8 r12_0.1))] (Ocf [] [0] [] 0 (ok_r01_Num p0 2 ((List.length p1 : Nat) : Int) r12_0 hr12_0) (fun a w => Tryd.call54 a w) rfl trivial) <| Wm (.tup [(.own 0), (.i r12_0.2)]) rfl <| Wz (.own 0) (Oex rfl) <| Wz (.i r12_0.2) (Oex rfl) <| Wm (.own 0) rfl <| Wm (.i r12_0.2) rfl <| Nk 194 1 ⟨tp 1 (.s p1::tp 4 (.own 0::.i r12_0.2::tp 12 [])), [(Ar 5 1 encU8 r12_0.1)], 0⟩ <| Sq <| Sx <| Wm (.i r12_0.2) rfl <| Wz (.b (decide (r12_0.2 ≠ 0))) (Obn rfl (fun _ => hb_neq (k := .i64))) <| Nk 65602 1 ⟨tp 1 (.s p1::tp 4 (.own 0::tp 9 (.b (decide (r12_0.2 ≠ 0))::tp 3 []))), [(Ar 5 1 encU8 r12_0.1)], 0⟩ ?_
 rcases tf_ (decide (r12_0.2 ≠ 0)) with hc16_2 | hc16_2
 ·
  replace hm := cT hc16_2 hm
  refine AiT hc16_2 <| Sx <| Wm (.d .nil) rfl <| Wm (.i 5) rfl <| Nn <| Aow 4 5 1 ⟨tp 1 (.s p1::tp 2 (.own 1::.i 5::.own 0::tp 9 (.b (decide (r12_0.2 ≠ 0))::tp 3 []))), [(Ar 5 1 encU8 r12_0.1), (Ar 5 1 encU8 ([] : List UInt8))], 0⟩ <| Rt <| Tr ?_
  obtain rfl := Option.some.inj hm
  exact ret_i [1]
 ·
  replace hm := cF hc16_2 hm
  refine AiF hc16_2 <| Sk <| Tk 66 1 ⟨tp 1 (.s p1::tp 4 (.own 0::tp 13 [])), [(Ar 5 1 encU8 r12_0.1)], 0⟩ <| Sx <| Wm (.own 0) rfl <| Wm (.s p1) rfl ?_
  obtain ⟨a19_1, ha19_1, hm⟩ := bnd hm; obtain ⟨ha19_1e, ha19_1l⟩ := app_some ha19_1
  refine Wy (.own 1) [(0, .gone), (1, (Ar 5 1 encU8 a19_1))] (OcB (op_appendStr rfl elemOK_31 (by kernel_rfl) (id := 0) (by kernel_rfl) (n := List.length r12_0.1) (xs := flatD encU8 r12_0.1) (by kernel_rfl) (str := toS p1) (by kernel_rfl) (app_str ha19_1l) (by kernel_rfl) (by decide)) (bl_app (by rw [ha19_1e, List.length_append]; rfl) (by rw [ha19_1e, flatD_append, flatU8 p1]; rfl))) <| Wm (.own 1) rfl <| Wm (.i 0) rfl <| Nn <| Rt ?_
  obtain rfl := Option.some.inj hm
  exact ret_i [1]

theorem ok_r02_sevens (p0 : Int) (r : (List Int)) (h : m_r02_sevens p0 = some r) : GCall Tryd.prog 57 [(.u p0)] [] (.own 0) [(.arr 3 1 (List.length r) (flatD (encI .i64) r))] := by
 refine GCall.of_body (n := 21) (rs := [(.tmp 2)]) Tryd.func57 rfl rfl rfl <| Ato ⟨.u p0::tu 20 [], [], 0⟩ ?_
 have hm := h
 unfold m_r02_sevens at hm
 refine Sx <| Wm (.d .nil) rfl <| Nk 1 0 ⟨.u p0::tp 20 [], [], 0⟩ <| Sx <| Wm (.u p0) rfl <| Wz (.u (Int.tmod p0 128)) (Ob2 (.int .u64 p0) (.int .u64 128) rfl (fun _ => hb_rem (by decide))) <| Wz (.i (W6 (Int.tmod p0 128))) (Oc2 (.int .u64 (Int.tmod p0 128)) rfl (run_conv (ds := .int .u64) (k' := .i64) (by kernel_rfl) (by kernel_rfl))) <| Wy (.own 0) [(0, (.arr 3 1 (List.length ([(W6 (Int.tmod p0 128))] : List Int)) (flatD (encI .i64) ([(W6 (Int.tmod p0 128))] : List Int))))] (Obs rfl) <| Wm (.own 0) rfl <| Nk 9 1 ⟨.u p0::tp 2 (.own 0::tp 17 []), [(.arr 3 1 (List.length ([(W6 (Int.tmod p0 128))] : List Int)) (flatD (encI .i64) ([(W6 (Int.tmod p0 128))] : List Int)))], 0⟩ <| Sx <| Wm (.u p0) rfl <| Wz (.u (W7 (Int.tdiv p0 128))) (Ob2 (.int .u64 p0) (.int .u64 128) rfl (fun _ => hb_quo (by decide))) <| Wm (.u (W7 (Int.tdiv p0 128))) rfl ?_
 refine Nk 9 1 ⟨.u (W7 (Int.tdiv p0 128))::tp 2 (.own 0::tp 17 []), [(.arr 3 1 (List.length ([(W6 (Int.tmod p0 128))] : List Int)) (flatD (encI .i64) ([(W6 (Int.tmod p0 128))] : List Int)))], 0⟩ <| Sq <| Bk ?_
 refine AWP.loopI (α := Nat × Int × (List Int))
   (fun (fu_1, y0_1, y3_1) => (⟨.u y0_1::tp 2 (.own 0::tp 17 []), [(.arr 3 1 (List.length y3_1) (flatD (encI .i64) y3_1))], 0⟩ : St))
   (fun (fu_1, y0_1, y3_1) => m_r02_sevens_l1  fu_1 y0_1 y3_1 = some r)
   (fun (fu_1, y0_1, y3_1) => fu_1) (1152921504606846976, (W7 (Int.tdiv p0 128)), ([(W6 (Int.tmod p0 128))] : List Int))
   (Weak.toK 9 0 0 [0]) hm ?_
 rintro ⟨fu_1, y0_1, y3_1⟩ n_1 hm ih_1
 try dsimp only at hm ih_1 ⊢
 cases fu_1 with
 | zero => exact absurd hm (by unfold m_r02_sevens_l1; simp)
 | succ fu_1 =>
  unfold m_r02_sevens_l1 at hm
  refine Sq <| Sx <| Wm (.u y0_1) rfl <| Wz (.b (decide ((0 : Int) < y0_1))) (Obn rfl (fun _ => hb_gtr (k := .u64))) <| Nk 2057 1 ⟨.u y0_1::tp 2 (.own 0::tp 7 (.b (decide ((0 : Int) < y0_1))::tp 9 [])), [(.arr 3 1 (List.length y3_1) (flatD (encI .i64) y3_1))], 0⟩ ?_
  rcases tf_ (decide ((0 : Int) < y0_1)) with hc11_3 | hc11_3
  ·
   replace hm := cT hc11_3 hm
   refine AiT hc11_3 <| Sk <| Tk 9 1 ⟨.u y0_1::tp 2 (.own 0::tp 17 []), [(.arr 3 1 (List.length y3_1) (flatD (encI .i64) y3_1))], 0⟩ <| Bk <| Sx <| Wm (.own 0) rfl <| Wm (.u y0_1) rfl <| Wz (.u (Int.tmod y0_1 128)) (Ob2 (.int .u64 y0_1) (.int .u64 128) rfl (fun _ => hb_rem (by decide))) <| Wz (.i (W6 (Int.tmod y0_1 128))) (Oc2 (.int .u64 (Int.tmod y0_1 128)) rfl (run_conv (ds := .int .u64) (k' := .i64) (by kernel_rfl) (by kernel_rfl))) <| Wy (.own 1) [(1, (.arr 3 1 (List.length ([(W6 (Int.tmod y0_1 128))] : List Int)) (flatD (encI .i64) ([(W6 (Int.tmod y0_1 128))] : List Int))))] (Obs rfl) ?_
   obtain ⟨a17_2, ha17_2, hm⟩ := bnd hm; obtain ⟨ha17_2e, ha17_2l⟩ := app_some ha17_2
   refine Wy (.own 2) [(0, .gone), (2, (.arr 3 1 (List.length a17_2) (flatD (encI .i64) a17_2)))] (Oap rfl elemOK_110 (encI_len (k := .i64)) ha17_2e ha17_2l) <| Wm (.own 2) rfl <| Nk 9 4 ⟨.u y0_1::tp 2 (.own 2::tp 17 []), [.gone, .gone, (.arr 3 1 (List.length a17_2) (flatD (encI .i64) a17_2))], 0⟩ <| Tx <| Wm (.u y0_1) rfl <| Wz (.u (W7 (Int.tdiv y0_1 128))) (Ob2 (.int .u64 y0_1) (.int .u64 128) rfl (fun _ => hb_quo (by decide))) <| Wm (.u (W7 (Int.tdiv y0_1 128))) rfl <| Wn0 <| Ino <| RoundK.normal ?_
   exact Rounds.weak (Weak.toK 9 0 0 [2]) (ih_1 (fu_1, (W7 (Int.tdiv y0_1 128)), a17_2) hm (Nat.lt_succ_self _))
  ·
   replace hm := cF hc11_3 hm
   refine AiF hc11_3 <| AWP.exit <| Then.exit <| RoundK.exit <| InBlock.same <| Tk 8 1 ⟨tp 3 (.own 0::tp 17 []), [(.arr 3 1 (List.length y3_1) (flatD (encI .i64) y3_1))], 0⟩ <| Sx <| Wm (.own 0) rfl <| Wm (.own 0) rfl <| Nn <| Rt ?_
   obtain rfl := Option.some.inj hm
   exact ret_i [0]

theorem ok_r02_Put (p0 : (List UInt8)) (p1 : Int) (r : (List UInt8)) (h : m_r02_Put p0 p1 = some r) : GCall Tryd.prog 32 [(.l encU8 p0), (.u p1)] [] (.own 0) [(Ar 5 1 encU8 r)] := by
 refine GCall.of_body (n := 42) (rs := [(.tmp 4)]) Tryd.func32 rfl rfl rfl <| Ato ⟨.l encU8 p0::.u p1::tu 40 [], [], 0⟩ ?_
 have hm := h
 unfold m_r02_Put at hm
 refine Sx <| Wm (.d .nil) rfl <| Nk 3 0 ⟨.l encU8 p0::.u p1::tp 40 [], [], 0⟩ <| Sx <| Wy (.own 0) [(0, (Ar 5 1 encU8 ([] : List UInt8)))] (Obs rfl) <| Wm (.l encU8 p0) rfl ?_
 obtain ⟨a10_0, ha10_0, hm⟩ := bnd hm; obtain ⟨ha10_0e, ha10_0l⟩ := app_some ha10_0
 refine Wy (.own 1) [(0, .gone), (1, (Ar 5 1 encU8 a10_0))] (Oap rfl elemOK_31 encU8_len ha10_0e ha10_0l) <| Wm (.own 1) rfl <| Nk 34 2 ⟨tp 1 (.u p1::tp 3 (.own 1::tp 36 [])), [.gone, (Ar 5 1 encU8 a10_0)], 0⟩ <| Sx <| Wm (.u p1) rfl ?_
 obtain ⟨r12_1, hr12_1, hm⟩ := bnd hm
 refine Wy (.own 2) [(2, (.arr 3 1 (List.length r12_1) (flatD (encI .i64) r12_1)))] (Ocf [] [2] [] 0 (ok_r02_sevens p1 r12_1 hr12_1) (fun a w => Tryd.call57 a w) rfl trivial) <| Wm (.own 2) rfl <| Nk 96 6 ⟨tp 5 (.own 1::.own 2::tp 35 []), [.gone, (Ar 5 1 encU8 a10_0), (.arr 3 1 (List.length r12_1) (flatD (encI .i64) r12_1))], 0⟩ <| Sq <| Sx <| Wm (.i 0) rfl <| Nk 224 6 ⟨tp 5 (.own 1::.own 2::.i 0::tp 34 []), [.gone, (Ar 5 1 encU8 a10_0), (.arr 3 1 (List.length r12_1) (flatD (encI .i64) r12_1))], 0⟩ <| Bk ?_
 refine AWP.loopI (α := Nat × (List UInt8) × Int)
   (fun (fu_2, y5_2, y7_2) => (⟨tp 5 (.own 0::.own 1::.i y7_2::tp 34 []), [(Ar 5 1 encU8 y5_2), (.arr 3 1 (List.length r12_1) (flatD (encI .i64) r12_1))], 0⟩ : St))
   (fun (fu_2, y5_2, y7_2) => m_r02_Put_l2 r12_1 fu_2 y5_2 y7_2 = some r)
   (fun (fu_2, y5_2, y7_2) => fu_2) (1152921504606846976, a10_0, 0)
   (Weak.toK 224 0 0 [1, 2]) hm ?_
 rintro ⟨fu_2, y5_2, y7_2⟩ n_2 hm ih_2
 try dsimp only at hm ih_2 ⊢
 cases fu_2 with
 | zero => exact absurd hm (by unfold m_r02_Put_l2; simp)
 | succ fu_2 =>
  unfold m_r02_Put_l2 at hm
  refine Sq <| Sx <| Wm (.i y7_2) rfl <| Wm (.own 1) rfl <| Wz (.i ((List.length r12_1 : Nat) : Int)) (Oln rfl) <| Wz (.b (decide (y7_2 < ((List.length r12_1 : Nat) : Int)))) (Obn rfl (fun _ => hb_lss (k := .i64))) <| Nk 65760 3 ⟨tp 5 (.own 0::.own 1::.i y7_2::tp 8 (.b (decide (y7_2 < ((List.length r12_1 : Nat) : Int)))::tp 25 [])), [(Ar 5 1 encU8 y5_2), (.arr 3 1 (List.length r12_1) (flatD (encI .i64) r12_1))], 0⟩ ?_
  rcases tf_ (decide (y7_2 < ((List.length r12_1 : Nat) : Int))) with hc16_7 | hc16_7
  ·
   replace hm := cT hc16_7 hm
   refine AiT hc16_7 <| Sk <| Tk 224 3 ⟨tp 5 (.own 0::.own 1::.i y7_2::tp 34 []), [(Ar 5 1 encU8 y5_2), (.arr 3 1 (List.length r12_1) (flatD (encI .i64) r12_1))], 0⟩ <| Sq <| Bk <| Sx <| Wm (.i y7_2) rfl <| Wm (.own 1) rfl <| Wz (.i ((List.length r12_1 : Nat) : Int)) (Oln rfl) <| Wz (.i (W6 (((List.length r12_1 : Nat) : Int) - 1))) (Obn rfl (fun _ => hb_sub (k := .i64))) <| Wz (.b (decide (y7_2 < (W6 (((List.length r12_1 : Nat) : Int) - 1))))) (Obn rfl (fun _ => hb_lss (k := .i64))) <| Nk 8388832 3 ⟨tp 5 (.own 0::.own 1::.i y7_2::tp 15 (.b (decide (y7_2 < (W6 (((List.length r12_1 : Nat) : Int) - 1))))::tp 18 [])), [(Ar 5 1 encU8 y5_2), (.arr 3 1 (List.length r12_1) (flatD (encI .i64) r12_1))], 0⟩ ?_
   rcases tf_ (decide (y7_2 < (W6 (((List.length r12_1 : Nat) : Int) - 1)))) with hc23_8 | hc23_8
   ·
    replace hm := cT hc23_8 hm
    refine AiT hc23_8 <| Tx <| Wm (.own 0) rfl <| Wm (.own 1) rfl <| Wm (.i y7_2) rfl ?_
    obtain ⟨x27_5, hx27_5, hm⟩ := bnd hm
    obtain ⟨hx27_5i, hx27_5g⟩ := geti_some hx27_5
    refine Wz (.loc 1 ((Int.toNat y7_2) * 1)) (Oia rfl (encI_len (k := .i64)) hx27_5i hx27_5g) <| Wz (.i x27_5) (Lr1 rfl (encI_len (k := .i64)) hx27_5g) <| Wz (.i (W6 (128 + x27_5))) (Obn rfl (fun _ => hb_add (k := .i64))) <| Wz (.y (toU8 (W6 (128 + x27_5)))) (Ocs (lit_int (u8w _)) (op_convert rfl (a1 := .int .i64 (W6 (128 + x27_5))) (by kernel_rfl) (run_conv (ds := .int .i64) (k' := .u8) (by kernel_rfl) (by kernel_rfl)))) <| Wy (.own 2) [(2, (Ar 5 1 encU8 ([(toU8 (W6 (128 + x27_5)))] : List UInt8)))] (Obs rfl) ?_
    obtain ⟨a32_5, ha32_5, hm⟩ := bnd hm; obtain ⟨ha32_5e, ha32_5l⟩ := app_some ha32_5
    refine Wy (.own 3) [(0, .gone), (3, (Ar 5 1 encU8 a32_5))] (Oap rfl elemOK_31 encU8_len ha32_5e ha32_5l) <| Wm (.own 3) rfl <| Wn0 <| Ino <| Tk 224 10 ⟨tp 5 (.own 3::.own 1::.i y7_2::tp 34 []), [.gone, (.arr 3 1 (List.length r12_1) (flatD (encI .i64) r12_1)), .gone, (Ar 5 1 encU8 a32_5)], 0⟩ <| Tx <| Wm (.i y7_2) rfl <| Wz (.i (W6 (y7_2 + 1))) (Obn rfl (fun _ => hb_add (k := .i64))) <| Wm (.i (W6 (y7_2 + 1))) rfl <| Wn0 <| RoundK.normal ?_
    exact Rounds.weak (Weak.toK 224 0 0 [3, 1]) (ih_2 (fu_2, a32_5, (W6 (y7_2 + 1))) hm (Nat.lt_succ_self _))
   ·
    replace hm := cF hc23_8 hm
    refine AiF hc23_8 <| Tx <| Wm (.own 0) rfl <| Wm (.own 1) rfl <| Wm (.i y7_2) rfl ?_
    obtain ⟨x36_6, hx36_6, hm⟩ := bnd hm
    obtain ⟨hx36_6i, hx36_6g⟩ := geti_some hx36_6
    refine Wz (.loc 1 ((Int.toNat y7_2) * 1)) (Oia rfl (encI_len (k := .i64)) hx36_6i hx36_6g) <| Wz (.i x36_6) (Lr1 rfl (encI_len (k := .i64)) hx36_6g) <| Wz (.y (toU8 x36_6)) (Ocs (lit_int (u8w _)) (op_convert rfl (a1 := .int .i64 x36_6) (by kernel_rfl) (run_conv (ds := .int .i64) (k' := .u8) (by kernel_rfl) (by kernel_rfl)))) <| Wy (.own 2) [(2, (Ar 5 1 encU8 ([(toU8 x36_6)] : List UInt8)))] (Obs rfl) ?_
    obtain ⟨a40_6, ha40_6, hm⟩ := bnd hm; obtain ⟨ha40_6e, ha40_6l⟩ := app_some ha40_6
    refine Wy (.own 3) [(0, .gone), (3, (Ar 5 1 encU8 a40_6))] (Oap rfl elemOK_31 encU8_len ha40_6e ha40_6l) <| Wm (.own 3) rfl <| Wn0 <| Ino <| Tk 224 10 ⟨tp 5 (.own 3::.own 1::.i y7_2::tp 34 []), [.gone, (.arr 3 1 (List.length r12_1) (flatD (encI .i64) r12_1)), .gone, (Ar 5 1 encU8 a40_6)], 0⟩ <| Tx <| Wm (.i y7_2) rfl <| Wz (.i (W6 (y7_2 + 1))) (Obn rfl (fun _ => hb_add (k := .i64))) <| Wm (.i (W6 (y7_2 + 1))) rfl <| Wn0 <| RoundK.normal ?_
    exact Rounds.weak (Weak.toK 224 0 0 [3, 1]) (ih_2 (fu_2, a40_6, (W6 (y7_2 + 1))) hm (Nat.lt_succ_self _))
  ·
   replace hm := cF hc16_7 hm
   refine AiF hc16_7 <| AWP.exit <| Then.exit <| RoundK.exit <| InBlock.same <| Tk 32 1 ⟨tp 5 (.own 0::tp 36 []), [(Ar 5 1 encU8 y5_2), .gone], 0⟩ <| Sx <| Wm (.own 0) rfl <| Wm (.own 0) rfl <| Nn <| Rt ?_
   obtain rfl := Option.some.inj hm
   exact ret_i [0]

theorem ok_r07_place (p0 : (List GType)) (p1 : (List UInt8)) (r : Int) (h : m_r07_place p0 p1 = some r) : GCall Tryd.prog 55 [(.l enc_GType p0), (.s p1)] [] (.i r) [] := by
 refine GCall.of_body (n := 20) (rs := [(.tmp 4)]) Tryd.func55 rfl rfl rfl <| Ato ⟨.l enc_GType p0::.s p1::tu 18 [], [], 0⟩ ?_
 have hm := h
 unfold m_r07_place at hm
 refine Sx <| Wm (.i 0) rfl <| Nk 3 0 ⟨.l enc_GType p0::.s p1::tp 18 [], [], 0⟩ <| Sq <| Sx <| Wm (.i 0) rfl <| Nk 35 0 ⟨.l enc_GType p0::.s p1::tp 3 (.i 0::tp 14 []), [], 0⟩ <| Bk ?_
 refine AWP.loopI (α := Nat × Int)
   (fun (fu_0, y5_0) => (⟨.l enc_GType p0::.s p1::tp 3 (.i y5_0::tp 14 []), [], 0⟩ : St))
   (fun (fu_0, y5_0) => m_r07_place_l0 p0 p1 fu_0 y5_0 = some r)
   (fun (fu_0, y5_0) => fu_0) (1152921504606846976, 0)
   (Weak.toK 35 0 0 []) hm ?_
 rintro ⟨fu_0, y5_0⟩ n_0 hm ih_0
 try dsimp only at hm ih_0 ⊢
 cases fu_0 with
 | zero => exact absurd hm (by unfold m_r07_place_l0; simp)
 | succ fu_0 =>
  unfold m_r07_place_l0 at hm
  refine Sq <| Sx <| Wm (.i y5_0) rfl <| Wm (.l enc_GType p0) rfl <| Wz (.i ((List.length p0 : Nat) : Int)) (Oln rfl) <| Wz (.b (decide (y5_0 < ((List.length p0 : Nat) : Int)))) (Obn rfl (fun _ => hb_lss (k := .i64))) <| Nk 547 0 ⟨.l enc_GType p0::.s p1::tp 3 (.i y5_0::tp 3 (.b (decide (y5_0 < ((List.length p0 : Nat) : Int)))::tp 10 [])), [], 0⟩ ?_
  rcases tf_ (decide (y5_0 < ((List.length p0 : Nat) : Int))) with hc9_3 | hc9_3
  ·
   replace hm := cT hc9_3 hm
   refine AiT hc9_3 <| Sk <| Tk 35 0 ⟨.l enc_GType p0::.s p1::tp 3 (.i y5_0::tp 14 []), [], 0⟩ <| Sq <| Bk <| Sx <| Wm (.l enc_GType p0) rfl <| Wm (.i y5_0) rfl ?_
   obtain ⟨x14_2, hx14_2, hm⟩ := bnd hm
   obtain ⟨hx14_2i, hx14_2g⟩ := geti_some hx14_2
   refine Wz (.d (.ref (List.drop ((Int.toNat y5_0) * 2) (flatD enc_GType p0)))) (Oia rfl enc_GType_len hx14_2i hx14_2g) <| Wz (.d (.ref (List.drop ((Int.toNat y5_0) * 2) (flatD enc_GType p0)))) (Ofa rfl) <| Wz (.s x14_2.Name) (Lf1 rfl enc_GType_len hx14_2g) <| Wm (.s p1) rfl <| Wz (.b (decide (x14_2.Name = p1))) (Ocs (lit_tf (by simp only [toS_inj, ne_eq])) (op_bin rfl (a1 := .string (toS x14_2.Name)) (a2 := .string (toS p1)) (by kernel_rfl) (by kernel_rfl) (fun _ => hb_seql))) <| Nk 262179 0 ⟨.l enc_GType p0::.s p1::tp 3 (.i y5_0::tp 12 (.b (decide (x14_2.Name = p1))::tp 1 [])), [], 0⟩ ?_
   rcases tf_ (decide (x14_2.Name = p1)) with hc18_4 | hc18_4
   ·
    replace hm := cT hc18_4 hm
    refine AiT hc18_4 <| Sx <| Wm (.i y5_0) rfl <| Wm (.i y5_0) rfl <| Nn <| Rt <| Ir <| Tr <| RoundK.ret <| Ir <| Tr ?_
    obtain rfl := Option.some.inj hm
    exact ret_i []
   ·
    replace hm := cF hc18_4 hm
    refine AiF hc18_4 <| Sk <| Ino <| Tk 35 0 ⟨.l enc_GType p0::.s p1::tp 3 (.i y5_0::tp 14 []), [], 0⟩ <| Tx <| Wm (.i y5_0) rfl <| Wz (.i (W6 (y5_0 + 1))) (Obn rfl (fun _ => hb_add (k := .i64))) <| Wm (.i (W6 (y5_0 + 1))) rfl <| Wn0 <| RoundK.normal ?_
    exact Rounds.weak (Weak.toK 35 0 0 []) (ih_0 (fu_0, (W6 (y5_0 + 1))) hm (Nat.lt_succ_self _))
  ·
   replace hm := cF hc9_3 hm
   refine AiF hc9_3 <| AWP.exit <| Then.exit <| RoundK.exit <| InBlock.same <| Tk 0 0 ⟨tp 20 [], [], 0⟩ <| Sx <| Wm (.i (-1)) rfl <| Nn <| Rt ?_
   obtain rfl := Option.some.inj hm
   exact ret_i []

theorem ok_r02_Fold (p0 : Int) (r : Int) (h : m_r02_Fold p0 = some r) : GCall Tryd.prog 33 [(.i p0)] [] (.u r) [] := by
 refine GCall.of_body (n := 14) (rs := [(.tmp 2)]) Tryd.func33 rfl rfl rfl <| Ato ⟨.i p0::tu 13 [], [], 0⟩ ?_
 have hm := h
 unfold m_r02_Fold at hm
 refine Sx <| Wm (.u 0) rfl <| Nk 1 0 ⟨.i p0::tp 13 [], [], 0⟩ <| Sq <| Sx <| Wm (.i p0) rfl <| Wz (.b (decide (p0 < 0))) (Obn rfl (fun _ => hb_lss (k := .i64))) <| Nk 17 0 ⟨.i p0::tp 3 (.b (decide (p0 < 0))::tp 9 []), [], 0⟩ ?_
 rcases tf_ (decide (p0 < 0)) with hc4_2 | hc4_2
 ·
  replace hm := cT hc4_2 hm
  refine AiT hc4_2 <| Sx <| Wm (.i p0) rfl <| Wz (.i (W6 (p0 + 1))) (Obn rfl (fun _ => hb_add (k := .i64))) <| Wz (.i (W6 (0 - (W6 (p0 + 1))))) (Ocs (by kernel_rfl) (op_un rfl (a1 := .int .i64 (W6 (p0 + 1))) (by kernel_rfl) (fun _ => hu_neg))) <| Wz (.u (W7 (W6 (0 - (W6 (p0 + 1)))))) (Oc2 (.int .i64 (W6 (0 - (W6 (p0 + 1))))) rfl (run_conv (ds := .int .i64) (k' := .u64) (by kernel_rfl) (by kernel_rfl))) <| Wz (.u (W7 (2 * (W7 (W6 (0 - (W6 (p0 + 1)))))))) (Obn rfl (fun _ => hb_mul (k := .u64))) ?_
  obtain ⟨v10_0, hv10_0, hm⟩ := bnd hm; replace hv10_0 := Option.some.inj hv10_0
  refine Wz (.u v10_0) (Ocs (congrArg (fun z => A.d (.lit (.int .u64 z))) hv10_0) (Obn rfl (fun _ => hb_add (k := .u64)))) <| Wm (.u v10_0) rfl <| Nn <| Rt <| Tr ?_
  obtain rfl := Option.some.inj hm
  exact ret_i []
 ·
  replace hm := cF hc4_2 hm
  refine AiF hc4_2 <| Sk <| Tk 1 0 ⟨.i p0::tp 13 [], [], 0⟩ <| Sx <| Wm (.i p0) rfl <| Wz (.u (W7 p0)) (Oc2 (.int .i64 p0) rfl (run_conv (ds := .int .i64) (k' := .u64) (by kernel_rfl) (by kernel_rfl))) <| Wz (.u (W7 (2 * (W7 p0)))) (Obn rfl (fun _ => hb_mul (k := .u64))) <| Wm (.u (W7 (2 * (W7 p0)))) rfl <| Nn <| Rt ?_
  obtain rfl := Option.some.inj hm
  exact ret_i []

theorem ok_r01_Word (p0 : (List UInt8)) (p1 : Int) (r : (List UInt8)) (h : m_r01_Word p0 p1 = some r) : GCall Tryd.prog 79 [(.l encU8 p0), (.u p1)] [] (.own 0) [(Ar 5 1 encU8 r)] := by
 refine GCall.of_body (n := 24) (rs := [(.tmp 4)]) Tryd.func79 rfl rfl rfl <| Ato ⟨.l encU8 p0::.u p1::tu 22 [], [], 0⟩ ?_
 have hm := h
 unfold m_r01_Word at hm
 refine Sx <| Wm (.d .nil) rfl <| Nk 3 0 ⟨.l encU8 p0::.u p1::tp 22 [], [], 0⟩ <| Sx <| Wm (.d .nil) rfl <| Nk 35 0 ⟨.l encU8 p0::.u p1::tp 3 (.d .nil::tp 18 []), [], 0⟩ <| Sq <| Sx <| Wm (.i 0) rfl <| Nk 99 0 ⟨.l encU8 p0::.u p1::tp 3 (.d .nil::.i 0::tp 17 []), [], 0⟩ <| Bk <| Aow 5 5 1 ⟨.l encU8 p0::.u p1::tp 3 (.own 0::.i 0::tp 17 []), [(Ar 5 1 encU8 ([] : List UInt8))], 0⟩ ?_
 refine AWP.loopI (α := Nat × Int × (List UInt8) × Int)
   (fun (fu_0, y1_0, y5_0, y6_0) => (⟨.l encU8 p0::.u y1_0::tp 3 (.own 0::.i y6_0::tp 17 []), [(Ar 5 1 encU8 y5_0)], 0⟩ : St))
   (fun (fu_0, y1_0, y5_0, y6_0) => m_r01_Word_l0 p0 fu_0 y1_0 y5_0 y6_0 = some r)
   (fun (fu_0, y1_0, y5_0, y6_0) => fu_0) (1152921504606846976, p1, ([] : List UInt8), 0)
   (Weak.toK 99 0 0 [0]) hm ?_
 rintro ⟨fu_0, y1_0, y5_0, y6_0⟩ n_0 hm ih_0
 try dsimp only at hm ih_0 ⊢
 cases fu_0 with
 | zero => exact absurd hm (by unfold m_r01_Word_l0; simp)
 | succ fu_0 =>
  unfold m_r01_Word_l0 at hm
  refine Sq <| Sx <| Wm (.i y6_0) rfl <| Wz (.b (decide (y6_0 < 8))) (Obn rfl (fun _ => hb_lss (k := .i64))) <| Nk 355 1 ⟨.l encU8 p0::.u y1_0::tp 3 (.own 0::.i y6_0::tp 1 (.b (decide (y6_0 < 8))::tp 15 [])), [(Ar 5 1 encU8 y5_0)], 0⟩ ?_
  rcases tf_ (decide (y6_0 < 8)) with hc8_3 | hc8_3
  ·
   replace hm := cT hc8_3 hm
   refine AiT hc8_3 <| Sk <| Tk 99 1 ⟨.l encU8 p0::.u y1_0::tp 3 (.own 0::.i y6_0::tp 17 []), [(Ar 5 1 encU8 y5_0)], 0⟩ <| Sq <| Bk <| Sx <| Wm (.u y1_0) rfl <| Wz (.u (Int.tmod y1_0 256)) (Ob2 (.int .u64 y1_0) (.int .u64 256) rfl (fun _ => hb_rem (by decide))) <| Wz (.y (toU8 (Int.tmod y1_0 256))) (Ocs (lit_int (u8w _)) (op_convert rfl (a1 := .int .u64 (Int.tmod y1_0 256)) (by kernel_rfl) (run_conv (ds := .int .u64) (k' := .u8) (by kernel_rfl) (by kernel_rfl)))) <| Wy (.own 1) [(1, (Ar 5 1 encU8 ([(toU8 (Int.tmod y1_0 256))] : List UInt8)))] (Obs rfl) <| Wm (.own 0) rfl ?_
   obtain ⟨a16_1, ha16_1, hm⟩ := bnd hm; obtain ⟨ha16_1e, ha16_1l⟩ := app_some ha16_1
   refine Wy (.own 2) [(1, .gone), (2, (Ar 5 1 encU8 a16_1))] (Oap rfl elemOK_31 encU8_len ha16_1e ha16_1l) <| Wm (.own 2) rfl <| Nk 99 4 ⟨.l encU8 p0::.u y1_0::tp 3 (.own 2::.i y6_0::tp 17 []), [.gone, .gone, (Ar 5 1 encU8 a16_1)], 0⟩ <| Tx <| Wm (.u y1_0) rfl <| Wz (.u (W7 (Int.tdiv y1_0 256))) (Ob2 (.int .u64 y1_0) (.int .u64 256) rfl (fun _ => hb_quo (by decide))) <| Wm (.u (W7 (Int.tdiv y1_0 256))) rfl <| Wn0 <| Ino <| Tk 99 4 ⟨.l encU8 p0::.u (W7 (Int.tdiv y1_0 256))::tp 3 (.own 2::.i y6_0::tp 17 []), [.gone, .gone, (Ar 5 1 encU8 a16_1)], 0⟩ <| Tx <| Wm (.i y6_0) rfl <| Wz (.i (W6 (y6_0 + 1))) (Obn rfl (fun _ => hb_add (k := .i64))) <| Wm (.i (W6 (y6_0 + 1))) rfl ?_
   refine Wn0 <| RoundK.normal ?_
   exact Rounds.weak (Weak.toK 99 0 0 [2]) (ih_0 (fu_0, (W7 (Int.tdiv y1_0 256)), a16_1, (W6 (y6_0 + 1))) hm (Nat.lt_succ_self _))
  ·
   replace hm := cF hc8_3 hm
   refine AiF hc8_3 <| AWP.exit <| Then.exit <| RoundK.exit <| InBlock.same <| Tk 33 1 ⟨.l encU8 p0::tp 4 (.own 0::tp 18 []), [(Ar 5 1 encU8 y5_0)], 0⟩ <| Sx <| Wy (.own 1) [(1, (Ar 5 1 encU8 ([] : List UInt8)))] (Obs rfl) <| Wm (.l encU8 p0) rfl ?_
   obtain ⟨a21_2, ha21_2, hm⟩ := bnd hm; obtain ⟨ha21_2e, ha21_2l⟩ := app_some ha21_2
   refine Wy (.own 2) [(1, .gone), (2, (Ar 5 1 encU8 a21_2))] (Oap rfl elemOK_31 encU8_len ha21_2e ha21_2l) <| Wm (.own 0) rfl ?_
   obtain ⟨a23_2, ha23_2, hm⟩ := bnd hm; obtain ⟨ha23_2e, ha23_2l⟩ := app_some ha23_2
   refine Wy (.own 3) [(2, .gone), (3, (Ar 5 1 encU8 a23_2))] (Oap rfl elemOK_31 encU8_len ha23_2e ha23_2l) <| Wm (.own 3) rfl <| Nn <| Rt ?_
   obtain rfl := Option.some.inj hm
   exact ret_i [3]

theorem ok_r04_Put (p0 : (List UInt8)) (p1 : GValue) (r : ((List UInt8) × Int)) (h : m_r04_Put p0 p1 = some r) : GCall Tryd.prog 56 [(.l encU8 p0), (.agg [(.y p1.Kind), (.i p1.N), (.u p1.Bits), (.s p1.Text)])] [] (.tup [(.own 0), (.i r.2)]) [(Ar 5 1 encU8 r.1)] := by
 refine GCall.of_body (n := 53) (rs := [(.tmp 4), (.tmp 5)]) Tryd.func56 rfl rfl rfl <| Ato ⟨.l encU8 p0::.agg [(.y p1.Kind), (.i p1.N), (.u p1.Bits), (.s p1.Text)]::tu 51 [], [], 0⟩ ?_
 have hm := h
 unfold m_r04_Put at hm
 refine Sx <| Wy (.loc 0 0) [(0, (.box [(.y p1.Kind), (.i p1.N), (.u p1.Bits), (.s p1.Text)]))] (Obx rfl) <| Wm (.d .nil) rfl <| Wm (.i 0) rfl <| Nk 9 1 ⟨.l encU8 p0::tp 2 (.loc 0 0::tp 49 []), [(.box [(.y p1.Kind), (.i p1.N), (.u p1.Bits), (.s p1.Text)])], 0⟩ <| Sq <| Sx <| Wz (.agg [(.y p1.Kind), (.i p1.N), (.u p1.Bits), (.s p1.Text)]) (Old rfl) ?_
 obtain ⟨r9_0, hr9_0, hm⟩ := bnd hm
 refine Wz (.i r9_0) (Ocf [] [] [] 0 (ok_r04_Check p1 r9_0 hr9_0) (fun a w => Tryd.call78 a w) rfl trivial) <| Wm (.i r9_0) rfl <| Nk 73 1 ⟨.l encU8 p0::tp 2 (.loc 0 0::tp 2 (.i r9_0::tp 46 [])), [(.box [(.y p1.Kind), (.i p1.N), (.u p1.Bits), (.s p1.Text)])], 0⟩ <| Sx <| Wm (.i r9_0) rfl <| Wz (.b (decide (r9_0 ≠ 0))) (Obn rfl (fun _ => hb_neq (k := .i64))) <| Nk 2121 1 ⟨.l encU8 p0::tp 2 (.loc 0 0::tp 2 (.i r9_0::tp 4 (.b (decide (r9_0 ≠ 0))::tp 41 []))), [(.box [(.y p1.Kind), (.i p1.N), (.u p1.Bits), (.s p1.Text)])], 0⟩ ?_
 rcases tf_ (decide (r9_0 ≠ 0)) with hc11_6 | hc11_6
 ·
  replace hm := cT hc11_6 hm
  refine AiT hc11_6 <| Sx <| Wm (.i r9_0) rfl <| Wm (.d .nil) rfl <| Wm (.i r9_0) rfl <| Nn <| Aow 4 5 1 ⟨.l encU8 p0::tp 2 (.loc 0 0::.own 1::.i r9_0::.i r9_0::tp 4 (.b (decide (r9_0 ≠ 0))::.i r9_0::tp 40 [])), [(.box [(.y p1.Kind), (.i p1.N), (.u p1.Bits), (.s p1.Text)]), (Ar 5 1 encU8 ([] : List UInt8))], 0⟩ <| Rt <| Tr ?_
  obtain rfl := Option.some.inj hm
  exact ret_i [1]
 ·
  replace hm := cF hc11_6 hm
  refine AiF hc11_6 <| Sk <| Tk 9 1 ⟨.l encU8 p0::tp 2 (.loc 0 0::tp 49 []), [(.box [(.y p1.Kind), (.i p1.N), (.u p1.Bits), (.s p1.Text)])], 0⟩ <| Sq <| Adr <| Wy (.own 1) [(1, (Ar 5 1 encU8 ([] : List UInt8)))] (Obs rfl) <| Wm (.l encU8 p0) rfl ?_
  obtain ⟨a15_1, ha15_1, hm⟩ := bnd hm; obtain ⟨ha15_1e, ha15_1l⟩ := app_some ha15_1
  refine Wy (.own 2) [(1, .gone), (2, (Ar 5 1 encU8 a15_1))] (Oap rfl elemOK_31 encU8_len ha15_1e ha15_1l) <| Wz (.loc 0 0) (Ofa rfl) <| Wz (.y p1.Kind) (Old rfl) <| Wy (.own 3) [(3, (Ar 5 1 encU8 ([p1.Kind] : List UInt8)))] (Obs rfl) ?_
  obtain ⟨a19_1, ha19_1, hm⟩ := bnd hm; obtain ⟨ha19_1e, ha19_1l⟩ := app_some ha19_1
  refine Wy (.own 4) [(2, .gone), (4, (Ar 5 1 encU8 a19_1))] (Oap rfl elemOK_31 encU8_len ha19_1e ha19_1l) <| Wm (.own 4) rfl <| Wdr <| Tk 136 17 ⟨tp 3 (.loc 0 0::tp 3 (.own 4::tp 45 [])), [(.box [(.y p1.Kind), (.i p1.N), (.u p1.Bits), (.s p1.Text)]), .gone, .gone, .gone, (Ar 5 1 encU8 a19_1)], 0⟩ <| Sq <| Sx <| Wz (.loc 0 0) (Ofa rfl) <| Wz (.y p1.Kind) (Old rfl) <| Wz (.b (decide (((p1.Kind.toNat : Nat) : Int) = 1))) (Ob2 (.int .u8 ((p1.Kind.toNat : Nat) : Int)) (.int .u8 1) rfl (fun _ => hb_eql)) <| Nk 4194440 17 ⟨tp 3 (.loc 0 0::tp 3 (.own 4::tp 14 (.b (decide (((p1.Kind.toNat : Nat) : Int) = 1))::tp 30 []))), [(.box [(.y p1.Kind), (.i p1.N), (.u p1.Bits), (.s p1.Text)]), .gone, .gone, .gone, (Ar 5 1 encU8 a19_1)], 0⟩ ?_
  rcases tf_ (decide (((p1.Kind.toNat : Nat) : Int) = 1)) with hc22_7 | hc22_7
  ·
   replace hm := cT hc22_7 hm
   refine AiT hc22_7 <| Sx <| Wm (.own 4) rfl <| Wz (.loc 0 1) (Ofa rfl) <| Wz (.i p1.N) (Old rfl) ?_
   obtain ⟨r26_2, hr26_2, hm⟩ := bnd hm
   refine Wz (.u r26_2) (Ocf [] [] [] 0 (ok_r02_Fold p1.N r26_2 hr26_2) (fun a w => Tryd.call33 a w) rfl trivial) ?_
   obtain ⟨r27_2, hr27_2, hm⟩ := bnd hm
   refine Wy (.own 5) [(5, (Ar 5 1 encU8 r27_2))] (Ocp [] [5] [4] 0 (ok_r02_Put a19_1 r26_2 r27_2 hr27_2) (⟨by simp [A.Plain, A.Plains, D.Plain, byteD], plain_cons (flat_plain encU8_plain) (plain_nil)⟩) (fun a w => Tryd.call32 a w) rfl trivial) <| Wm (.own 5) rfl <| Wm (.i 0) rfl <| Nn <| Rt <| Tr ?_
   obtain rfl := Option.some.inj hm
   exact ret_i [5]
  ·
   replace hm := cF hc22_7 hm
   refine AiF hc22_7 <| Sk <| Tk 136 17 ⟨tp 3 (.loc 0 0::tp 3 (.own 4::tp 45 [])), [(.box [(.y p1.Kind), (.i p1.N), (.u p1.Bits), (.s p1.Text)]), .gone, .gone, .gone, (Ar 5 1 encU8 a19_1)], 0⟩ <| Sq <| Sx <| Wz (.loc 0 0) (Ofa rfl) <| Wz (.y p1.Kind) (Old rfl) <| Wz (.b (decide (((p1.Kind.toNat : Nat) : Int) = 2))) (Ob2 (.int .u8 ((p1.Kind.toNat : Nat) : Int)) (.int .u8 2) rfl (fun _ => hb_eql)) <| Nk 1073741960 17 ⟨tp 3 (.loc 0 0::tp 3 (.own 4::tp 22 (.b (decide (((p1.Kind.toNat : Nat) : Int) = 2))::tp 22 []))), [(.box [(.y p1.Kind), (.i p1.N), (.u p1.Bits), (.s p1.Text)]), .gone, .gone, .gone, (Ar 5 1 encU8 a19_1)], 0⟩ ?_
   rcases tf_ (decide (((p1.Kind.toNat : Nat) : Int) = 2)) with hc30_8 | hc30_8
   ·
    replace hm := cT hc30_8 hm
    refine AiT hc30_8 <| Sx <| Wm (.own 4) rfl <| Wz (.loc 0 1) (Ofa rfl) <| Wz (.i p1.N) (Old rfl) <| Wz (.y (toU8 p1.N)) (Ocs (lit_int (u8w _)) (op_convert rfl (a1 := .int .i64 p1.N) (by kernel_rfl) (run_conv (ds := .int .i64) (k' := .u8) (by kernel_rfl) (by kernel_rfl)))) <| Wy (.own 5) [(5, (Ar 5 1 encU8 ([(toU8 p1.N)] : List UInt8)))] (Obs rfl) ?_
    obtain ⟨a36_3, ha36_3, hm⟩ := bnd hm; obtain ⟨ha36_3e, ha36_3l⟩ := app_some ha36_3
    refine Wy (.own 6) [(4, .gone), (6, (Ar 5 1 encU8 a36_3))] (Oap rfl elemOK_31 encU8_len ha36_3e ha36_3l) <| Wm (.own 6) rfl <| Wm (.i 0) rfl <| Nn <| Rt <| Tr ?_
    obtain rfl := Option.some.inj hm
    exact ret_i [6]
   ·
    replace hm := cF hc30_8 hm
    refine AiF hc30_8 <| Sk <| Tk 136 17 ⟨tp 3 (.loc 0 0::tp 3 (.own 4::tp 45 [])), [(.box [(.y p1.Kind), (.i p1.N), (.u p1.Bits), (.s p1.Text)]), .gone, .gone, .gone, (Ar 5 1 encU8 a19_1)], 0⟩ <| Sq <| Sx <| Wz (.loc 0 0) (Ofa rfl) <| Wz (.y p1.Kind) (Old rfl) <| Wz (.b (decide (((p1.Kind.toNat : Nat) : Int) = 3))) (Ob2 (.int .u8 ((p1.Kind.toNat : Nat) : Int)) (.int .u8 3) rfl (fun _ => hb_eql)) <| Nk 549755814024 17 ⟨tp 3 (.loc 0 0::tp 3 (.own 4::tp 31 (.b (decide (((p1.Kind.toNat : Nat) : Int) = 3))::tp 13 []))), [(.box [(.y p1.Kind), (.i p1.N), (.u p1.Bits), (.s p1.Text)]), .gone, .gone, .gone, (Ar 5 1 encU8 a19_1)], 0⟩ ?_
    rcases tf_ (decide (((p1.Kind.toNat : Nat) : Int) = 3)) with hc39_9 | hc39_9
    ·
     replace hm := cT hc39_9 hm
     refine AiT hc39_9 <| Sx <| Wm (.own 4) rfl <| Wz (.loc 0 2) (Ofa rfl) <| Wz (.u p1.Bits) (Old rfl) ?_
     obtain ⟨r43_4, hr43_4, hm⟩ := bnd hm
     refine Wy (.own 5) [(5, (Ar 5 1 encU8 r43_4))] (Ocp [] [5] [4] 0 (ok_r01_Word a19_1 p1.Bits r43_4 hr43_4) (⟨by simp [A.Plain, A.Plains, D.Plain, byteD], plain_cons (flat_plain encU8_plain) (plain_nil)⟩) (fun a w => Tryd.call79 a w) rfl trivial) <| Wm (.own 5) rfl <| Wm (.i 0) rfl <| Nn <| Rt <| Tr ?_
     obtain rfl := Option.some.inj hm
     exact ret_i [5]
    ·
     replace hm := cF hc39_9 hm
     refine AiF hc39_9 <| Sk <| Tk 136 17 ⟨tp 3 (.loc 0 0::tp 3 (.own 4::tp 45 [])), [(.box [(.y p1.Kind), (.i p1.N), (.u p1.Bits), (.s p1.Text)]), .gone, .gone, .gone, (Ar 5 1 encU8 a19_1)], 0⟩ <| Sq <| Adr <| Wm (.own 4) rfl <| Wz (.loc 0 3) (Ofa rfl) <| Wz (.s p1.Text) (Old rfl) <| Wz (.i ((List.length p1.Text : Nat) : Int)) (Oln rfl) <| Wz (.u (W7 ((List.length p1.Text : Nat) : Int))) (Oc2 (.int .i64 ((List.length p1.Text : Nat) : Int)) rfl (run_conv (ds := .int .i64) (k' := .u64) (by kernel_rfl) (by kernel_rfl))) ?_
     obtain ⟨r49_5, hr49_5, hm⟩ := bnd hm
     refine Wy (.own 5) [(5, (Ar 5 1 encU8 r49_5))] (Ocp [] [5] [4] 0 (ok_r02_Put a19_1 (IntKind.u64.wrap ((List.length p1.Text : Nat) : Int)) r49_5 hr49_5) (⟨by simp [A.Plain, A.Plains, D.Plain, byteD], plain_cons (flat_plain encU8_plain) (plain_nil)⟩) (fun a w => Tryd.call32 a w) rfl trivial) <| Wz (.loc 0 3) (Ofa rfl) <| Wz (.s p1.Text) (Old rfl) ?_
     obtain ⟨a52_5, ha52_5, hm⟩ := bnd hm; obtain ⟨ha52_5e, ha52_5l⟩ := app_some ha52_5
     refine Wy (.own 6) [(5, .gone), (6, (Ar 5 1 encU8 a52_5))] (OcB (op_appendStr rfl elemOK_31 (by kernel_rfl) (id := 5) (by kernel_rfl) (n := List.length r49_5) (xs := flatD encU8 r49_5) (by kernel_rfl) (str := toS p1.Text) (by kernel_rfl) (app_str ha52_5l) (by kernel_rfl) (by decide)) (bl_app (by rw [ha52_5e, List.length_append]; rfl) (by rw [ha52_5e, flatD_append, flatU8 p1.Text]; rfl))) <| Wm (.own 6) rfl <| Wm (.i 0) rfl <| Wdr <| Tn <| Rt ?_
     obtain rfl := Option.some.inj hm
     exact ret_i [6]

theorem ok_r07_Put (p0 : (List UInt8)) (p1 : (List GType)) (p2 : GEvent) (r : ((List UInt8) × Int)) (h : m_r07_Put p0 p1 p2 = some r) : GCall Tryd.prog 31 [(.l encU8 p0), (.l enc_GType p1), (.agg [(.i p2.Time), (.i p2.Source), (.i p2.Seq), (.s p2.Type_), (.l enc_GValue p2.Vals)])] [] (.tup [(.own 0), (.i r.2)]) [(Ar 5 1 encU8 r.1)] := by
 refine GCall.of_body (n := 56) (rs := [(.tmp 6), (.tmp 7)]) Tryd.func31 rfl rfl rfl <| Ato ⟨.l encU8 p0::.l enc_GType p1::.agg [(.i p2.Time), (.i p2.Source), (.i p2.Seq), (.s p2.Type_), (.l enc_GValue p2.Vals)]::tu 53 [], [], 0⟩ ?_
 have hm := h
 unfold m_r07_Put at hm
 refine Sx <| Wy (.loc 0 0) [(0, (.box [(.i p2.Time), (.i p2.Source), (.i p2.Seq), (.s p2.Type_), (.l enc_GValue p2.Vals)]))] (Obx rfl) <| Wm (.d .nil) rfl <| Wm (.i 0) rfl <| Nk 35 1 ⟨.l encU8 p0::.l enc_GType p1::tp 3 (.loc 0 0::tp 50 []), [(.box [(.i p2.Time), (.i p2.Source), (.i p2.Seq), (.s p2.Type_), (.l enc_GValue p2.Vals)])], 0⟩ <| Sq <| Sx <| Wm (.l enc_GType p1) rfl <| Wz (.agg [(.i p2.Time), (.i p2.Source), (.i p2.Seq), (.s p2.Type_), (.l enc_GValue p2.Vals)]) (Old rfl) ?_
 obtain ⟨r12_0, hr12_0, hm⟩ := bnd hm
 refine Wz (.i r12_0) (Ocf [] [] [] 0 (ok_r07_Check p1 p2 r12_0 hr12_0) (fun a w => Tryd.call39 a w) rfl trivial) <| Wm (.i r12_0) rfl <| Nk 291 1 ⟨.l encU8 p0::.l enc_GType p1::tp 3 (.loc 0 0::tp 2 (.i r12_0::tp 47 [])), [(.box [(.i p2.Time), (.i p2.Source), (.i p2.Seq), (.s p2.Type_), (.l enc_GValue p2.Vals)])], 0⟩ <| Sx <| Wm (.i r12_0) rfl <| Wz (.b (decide (r12_0 ≠ 0))) (Obn rfl (fun _ => hb_neq (k := .i64))) <| Nk 16675 1 ⟨.l encU8 p0::.l enc_GType p1::tp 3 (.loc 0 0::tp 2 (.i r12_0::tp 5 (.b (decide (r12_0 ≠ 0))::tp 41 []))), [(.box [(.i p2.Time), (.i p2.Source), (.i p2.Seq), (.s p2.Type_), (.l enc_GValue p2.Vals)])], 0⟩ ?_
 rcases tf_ (decide (r12_0 ≠ 0)) with hc14_8 | hc14_8
 ·
  replace hm := cT hc14_8 hm
  refine AiT hc14_8 <| Sx <| Wm (.i r12_0) rfl <| Wm (.d .nil) rfl <| Wm (.i r12_0) rfl <| Nn <| Aow 6 5 1 ⟨.l encU8 p0::.l enc_GType p1::tp 3 (.loc 0 0::.own 1::.i r12_0::.i r12_0::tp 5 (.b (decide (r12_0 ≠ 0))::.i r12_0::tp 40 [])), [(.box [(.i p2.Time), (.i p2.Source), (.i p2.Seq), (.s p2.Type_), (.l enc_GValue p2.Vals)]), (Ar 5 1 encU8 ([] : List UInt8))], 0⟩ <| Rt <| Tr ?_
  obtain rfl := Option.some.inj hm
  exact ret_i [1]
 ·
  replace hm := cF hc14_8 hm
  refine AiF hc14_8 <| Sk <| Tk 35 1 ⟨.l encU8 p0::.l enc_GType p1::tp 3 (.loc 0 0::tp 50 []), [(.box [(.i p2.Time), (.i p2.Source), (.i p2.Seq), (.s p2.Type_), (.l enc_GValue p2.Vals)])], 0⟩ <| Sx <| Wm (.l encU8 p0) rfl <| Wz (.loc 0 0) (Ofa rfl) <| Wz (.i p2.Time) (Old rfl) <| Wz (.u (W7 p2.Time)) (Oc2 (.int .i64 p2.Time) rfl (run_conv (ds := .int .i64) (k' := .u64) (by kernel_rfl) (by kernel_rfl))) ?_
  obtain ⟨r20_1, hr20_1, hm⟩ := bnd hm
  refine Wy (.own 1) [(1, (Ar 5 1 encU8 r20_1))] (Ocf [] [1] [] 0 (ok_r02_Put p0 (W7 p2.Time) r20_1 hr20_1) (fun a w => Tryd.call32 a w) rfl trivial) <| Wm (.own 1) rfl <| Nk 35 3 ⟨.own 1::.l enc_GType p1::tp 3 (.loc 0 0::tp 50 []), [(.box [(.i p2.Time), (.i p2.Source), (.i p2.Seq), (.s p2.Type_), (.l enc_GValue p2.Vals)]), (Ar 5 1 encU8 r20_1)], 0⟩ <| Sx <| Wm (.own 1) rfl <| Wz (.loc 0 1) (Ofa rfl) <| Wz (.i p2.Source) (Old rfl) <| Wz (.u (W7 p2.Source)) (Oc2 (.int .i64 p2.Source) rfl (run_conv (ds := .int .i64) (k' := .u64) (by kernel_rfl) (by kernel_rfl))) ?_
  obtain ⟨r25_2, hr25_2, hm⟩ := bnd hm
  refine Wy (.own 2) [(2, (Ar 5 1 encU8 r25_2))] (Ocp [] [2] [1] 0 (ok_r02_Put r20_1 (IntKind.u64.wrap p2.Source) r25_2 hr25_2) (⟨by simp [A.Plain, A.Plains, D.Plain, byteD], plain_cons (flat_plain encU8_plain) (plain_nil)⟩) (fun a w => Tryd.call32 a w) rfl trivial) <| Wm (.own 2) rfl <| Nk 35 5 ⟨.own 2::.l enc_GType p1::tp 3 (.loc 0 0::tp 50 []), [(.box [(.i p2.Time), (.i p2.Source), (.i p2.Seq), (.s p2.Type_), (.l enc_GValue p2.Vals)]), .gone, (Ar 5 1 encU8 r25_2)], 0⟩ <| Sx <| Wm (.own 2) rfl <| Wz (.loc 0 2) (Ofa rfl) <| Wz (.i p2.Seq) (Old rfl) <| Wz (.u (W7 p2.Seq)) (Oc2 (.int .i64 p2.Seq) rfl (run_conv (ds := .int .i64) (k' := .u64) (by kernel_rfl) (by kernel_rfl))) ?_
  obtain ⟨r30_3, hr30_3, hm⟩ := bnd hm
  refine Wy (.own 3) [(3, (Ar 5 1 encU8 r30_3))] (Ocp [] [3] [2] 0 (ok_r02_Put r25_2 (IntKind.u64.wrap p2.Seq) r30_3 hr30_3) (⟨by simp [A.Plain, A.Plains, D.Plain, byteD], plain_cons (flat_plain encU8_plain) (plain_nil)⟩) (fun a w => Tryd.call32 a w) rfl trivial) <| Wm (.own 3) rfl <| Nk 35 9 ⟨.own 3::.l enc_GType p1::tp 3 (.loc 0 0::tp 50 []), [(.box [(.i p2.Time), (.i p2.Source), (.i p2.Seq), (.s p2.Type_), (.l enc_GValue p2.Vals)]), .gone, .gone, (Ar 5 1 encU8 r30_3)], 0⟩ <| Sx <| Wm (.own 3) rfl <| Wm (.l enc_GType p1) rfl <| Wz (.loc 0 3) (Ofa rfl) <| Wz (.s p2.Type_) (Old rfl) ?_
  obtain ⟨r35_4, hr35_4, hm⟩ := bnd hm
  refine Wz (.i r35_4) (Ocf [] [] [] 0 (ok_r07_place p1 p2.Type_ r35_4 hr35_4) (fun a w => Tryd.call55 a w) rfl trivial) <| Wz (.u (W7 r35_4)) (Oc2 (.int .i64 r35_4) rfl (run_conv (ds := .int .i64) (k' := .u64) (by kernel_rfl) (by kernel_rfl))) ?_
  obtain ⟨r37_4, hr37_4, hm⟩ := bnd hm
  refine Wy (.own 4) [(4, (Ar 5 1 encU8 r37_4))] (Ocp [] [4] [3] 0 (ok_r02_Put r30_3 (IntKind.u64.wrap r35_4) r37_4 hr37_4) (⟨by simp [A.Plain, A.Plains, D.Plain, byteD], plain_cons (flat_plain encU8_plain) (plain_nil)⟩) (fun a w => Tryd.call32 a w) rfl trivial) <| Wm (.own 4) rfl <| Nk 33 17 ⟨.own 4::tp 4 (.loc 0 0::tp 50 []), [(.box [(.i p2.Time), (.i p2.Source), (.i p2.Seq), (.s p2.Type_), (.l enc_GValue p2.Vals)]), .gone, .gone, .gone, (Ar 5 1 encU8 r37_4)], 0⟩ <| Sq <| Sx <| Wm (.i 0) rfl <| Nk 545 17 ⟨.own 4::tp 4 (.loc 0 0::tp 3 (.i 0::tp 46 [])), [(.box [(.i p2.Time), (.i p2.Source), (.i p2.Seq), (.s p2.Type_), (.l enc_GValue p2.Vals)]), .gone, .gone, .gone, (Ar 5 1 encU8 r37_4)], 0⟩ <| Bk ?_
  refine AWP.loopI (α := Nat × (List UInt8) × Int)
    (fun (fu_5, y0_5, y9_5) => (⟨.own 0::tp 4 (.loc 1 0::tp 3 (.i y9_5::tp 46 [])), [(Ar 5 1 encU8 y0_5), (.box [(.i p2.Time), (.i p2.Source), (.i p2.Seq), (.s p2.Type_), (.l enc_GValue p2.Vals)])], 0⟩ : St))
    (fun (fu_5, y0_5, y9_5) => m_r07_Put_l5 p2 fu_5 y0_5 y9_5 = some r)
    (fun (fu_5, y0_5, y9_5) => fu_5) (1152921504606846976, r37_4, 0)
    (Weak.toK 545 0 0 [4, 0]) hm ?_
  rintro ⟨fu_5, y0_5, y9_5⟩ n_5 hm ih_5
  try dsimp only at hm ih_5 ⊢
  cases fu_5 with
  | zero => exact absurd hm (by unfold m_r07_Put_l5; simp)
  | succ fu_5 =>
   unfold m_r07_Put_l5 at hm
   refine Sq <| Sx <| Wm (.i y9_5) rfl <| Wz (.loc 1 4) (Ofa rfl) <| Wz (.l enc_GValue p2.Vals) (Old rfl) <| Wz (.i ((List.length p2.Vals : Nat) : Int)) (Oln rfl) <| Wz (.b (decide (y9_5 < ((List.length p2.Vals : Nat) : Int)))) (Obn rfl (fun _ => hb_lss (k := .i64))) <| Nk 4398046511649 3 ⟨.own 0::tp 4 (.loc 1 0::tp 3 (.i y9_5::tp 32 (.b (decide (y9_5 < ((List.length p2.Vals : Nat) : Int)))::tp 13 []))), [(Ar 5 1 encU8 y0_5), (.box [(.i p2.Time), (.i p2.Source), (.i p2.Seq), (.s p2.Type_), (.l enc_GValue p2.Vals)])], 0⟩ ?_
   rcases tf_ (decide (y9_5 < ((List.length p2.Vals : Nat) : Int))) with hc42_9 | hc42_9
   ·
    replace hm := cT hc42_9 hm
    refine AiT hc42_9 <| Sk <| Tk 545 3 ⟨.own 0::tp 4 (.loc 1 0::tp 3 (.i y9_5::tp 46 [])), [(Ar 5 1 encU8 y0_5), (.box [(.i p2.Time), (.i p2.Source), (.i p2.Seq), (.s p2.Type_), (.l enc_GValue p2.Vals)])], 0⟩ <| Sq <| Bk <| Tx <| Wm (.own 0) rfl <| Wz (.loc 1 4) (Ofa rfl) <| Wz (.l enc_GValue p2.Vals) (Old rfl) <| Wm (.i y9_5) rfl ?_
    obtain ⟨x50_7, hx50_7, hm⟩ := bnd hm
    obtain ⟨hx50_7i, hx50_7g⟩ := geti_some hx50_7
    refine Wz (.d (.ref (List.drop ((Int.toNat y9_5) * 4) (flatD enc_GValue p2.Vals)))) (Oia rfl enc_GValue_len hx50_7i hx50_7g) <| Wz (.agg [(.y x50_7.Kind), (.i x50_7.N), (.u x50_7.Bits), (.s x50_7.Text)]) (Lf rfl enc_GValue_len hx50_7g) ?_
    obtain ⟨r52_7, hr52_7, hm⟩ := bnd hm
    refine Wy (.tup [(.own 2), (.i r52_7.2)]) [(2, (Ar 5 1 encU8 r52_7.1))] (Ocp [] [2] [0] 0 (ok_r04_Put y0_5 x50_7 r52_7 hr52_7) (⟨by simp [A.Plain, A.Plains, D.Plain, byteD], plain_cons (flat_plain encU8_plain) (plain_nil)⟩) (fun a w => Tryd.call56 a w) rfl trivial) <| Wm (.tup [(.own 2), (.i r52_7.2)]) rfl <| Wz (.own 2) (Oex rfl) <| Wz (.i r52_7.2) (Oex rfl) <| Wm (.own 2) rfl <| Wn0 <| Ino <| Tk 545 6 ⟨.own 2::tp 4 (.loc 1 0::tp 3 (.i y9_5::tp 46 [])), [.gone, (.box [(.i p2.Time), (.i p2.Source), (.i p2.Seq), (.s p2.Type_), (.l enc_GValue p2.Vals)]), (Ar 5 1 encU8 r52_7.1)], 0⟩ <| Tx <| Wm (.i y9_5) rfl <| Wz (.i (W6 (y9_5 + 1))) (Obn rfl (fun _ => hb_add (k := .i64))) <| Wm (.i (W6 (y9_5 + 1))) rfl <| Wn0 <| RoundK.normal ?_
    exact Rounds.weak (Weak.toK 545 0 0 [2, 1]) (ih_5 (fu_5, r52_7.1, (W6 (y9_5 + 1))) hm (Nat.lt_succ_self _))
   ·
    replace hm := cF hc42_9 hm
    refine AiF hc42_9 <| AWP.exit <| Then.exit <| RoundK.exit <| InBlock.same <| Tk 1 1 ⟨.own 0::tp 55 [], [(Ar 5 1 encU8 y0_5), .gone], 0⟩ <| Sx <| Wm (.own 0) rfl <| Wm (.own 0) rfl <| Wm (.i 0) rfl <| Nn <| Rt ?_
    obtain rfl := Option.some.inj hm
    exact ret_i [0]

theorem ok_r37_Put (p0 : (List UInt8)) (p1 : (List GType)) (p2 : GCommand) (r : ((List UInt8) × Int)) (h : m_r37_Put p0 p1 p2 = some r) : GCall Tryd.prog 13 [(.l encU8 p0), (.l enc_GType p1), (.agg [(.y p2.Kind), (.s p2.Text), (.i p2.A), (.i p2.B), (.i p2.E.Time), (.i p2.E.Source), (.i p2.E.Seq), (.s p2.E.Type_), (.l enc_GValue p2.E.Vals)])] [] (.tup [(.own 0), (.i r.2)]) [(Ar 5 1 encU8 r.1)] := by
 refine GCall.of_body (n := 59) (rs := [(.tmp 6), (.tmp 7)]) Tryd.func13 rfl rfl rfl <| Ato ⟨.l encU8 p0::.l enc_GType p1::.agg [(.y p2.Kind), (.s p2.Text), (.i p2.A), (.i p2.B), (.i p2.E.Time), (.i p2.E.Source), (.i p2.E.Seq), (.s p2.E.Type_), (.l enc_GValue p2.E.Vals)]::tu 56 [], [], 0⟩ ?_
 have hm := h
 unfold m_r37_Put at hm
 refine Sx <| Wy (.loc 0 0) [(0, (.box [(.y p2.Kind), (.s p2.Text), (.i p2.A), (.i p2.B), (.i p2.E.Time), (.i p2.E.Source), (.i p2.E.Seq), (.s p2.E.Type_), (.l enc_GValue p2.E.Vals)]))] (Obx rfl) <| Wm (.d .nil) rfl <| Wm (.i 0) rfl <| Nk 35 1 ⟨.l encU8 p0::.l enc_GType p1::tp 3 (.loc 0 0::tp 53 []), [(.box [(.y p2.Kind), (.s p2.Text), (.i p2.A), (.i p2.B), (.i p2.E.Time), (.i p2.E.Source), (.i p2.E.Seq), (.s p2.E.Type_), (.l enc_GValue p2.E.Vals)])], 0⟩ <| Sq <| Sx <| Wm (.l enc_GType p1) rfl <| Wz (.agg [(.y p2.Kind), (.s p2.Text), (.i p2.A), (.i p2.B), (.i p2.E.Time), (.i p2.E.Source), (.i p2.E.Seq), (.s p2.E.Type_), (.l enc_GValue p2.E.Vals)]) (Old rfl) ?_
 obtain ⟨r12_0, hr12_0, hm⟩ := bnd hm
 refine Wz (.i r12_0) (Ocf [] [] [] 0 (ok_r37_Check p1 p2 r12_0 hr12_0) (fun a w => Tryd.call15 a w) rfl trivial) <| Wm (.i r12_0) rfl <| Nk 291 1 ⟨.l encU8 p0::.l enc_GType p1::tp 3 (.loc 0 0::tp 2 (.i r12_0::tp 50 [])), [(.box [(.y p2.Kind), (.s p2.Text), (.i p2.A), (.i p2.B), (.i p2.E.Time), (.i p2.E.Source), (.i p2.E.Seq), (.s p2.E.Type_), (.l enc_GValue p2.E.Vals)])], 0⟩ <| Sx <| Wm (.i r12_0) rfl <| Wz (.b (decide (r12_0 ≠ 0))) (Obn rfl (fun _ => hb_neq (k := .i64))) <| Nk 16675 1 ⟨.l encU8 p0::.l enc_GType p1::tp 3 (.loc 0 0::tp 2 (.i r12_0::tp 5 (.b (decide (r12_0 ≠ 0))::tp 44 []))), [(.box [(.y p2.Kind), (.s p2.Text), (.i p2.A), (.i p2.B), (.i p2.E.Time), (.i p2.E.Source), (.i p2.E.Seq), (.s p2.E.Type_), (.l enc_GValue p2.E.Vals)])], 0⟩ ?_
 rcases tf_ (decide (r12_0 ≠ 0)) with hc14_7 | hc14_7
 ·
  replace hm := cT hc14_7 hm
  refine AiT hc14_7 <| Sx <| Wm (.i r12_0) rfl <| Wm (.d .nil) rfl <| Wm (.i r12_0) rfl <| Nn <| Aow 6 5 1 ⟨.l encU8 p0::.l enc_GType p1::tp 3 (.loc 0 0::.own 1::.i r12_0::.i r12_0::tp 5 (.b (decide (r12_0 ≠ 0))::.i r12_0::tp 43 [])), [(.box [(.y p2.Kind), (.s p2.Text), (.i p2.A), (.i p2.B), (.i p2.E.Time), (.i p2.E.Source), (.i p2.E.Seq), (.s p2.E.Type_), (.l enc_GValue p2.E.Vals)]), (Ar 5 1 encU8 ([] : List UInt8))], 0⟩ <| Rt <| Tr ?_
  obtain rfl := Option.some.inj hm
  exact ret_i [1]
 ·
  replace hm := cF hc14_7 hm
  refine AiF hc14_7 <| Sk <| Tk 35 1 ⟨.l encU8 p0::.l enc_GType p1::tp 3 (.loc 0 0::tp 53 []), [(.box [(.y p2.Kind), (.s p2.Text), (.i p2.A), (.i p2.B), (.i p2.E.Time), (.i p2.E.Source), (.i p2.E.Seq), (.s p2.E.Type_), (.l enc_GValue p2.E.Vals)])], 0⟩ <| Sq <| Adr <| Wy (.own 1) [(1, (Ar 5 1 encU8 ([] : List UInt8)))] (Obs rfl) <| Wm (.l encU8 p0) rfl ?_
  obtain ⟨a18_1, ha18_1, hm⟩ := bnd hm; obtain ⟨ha18_1e, ha18_1l⟩ := app_some ha18_1
  refine Wy (.own 2) [(1, .gone), (2, (Ar 5 1 encU8 a18_1))] (Oap rfl elemOK_31 encU8_len ha18_1e ha18_1l) <| Wz (.loc 0 0) (Ofa rfl) <| Wz (.y p2.Kind) (Old rfl) <| Wy (.own 3) [(3, (Ar 5 1 encU8 ([p2.Kind] : List UInt8)))] (Obs rfl) ?_
  obtain ⟨a22_1, ha22_1, hm⟩ := bnd hm; obtain ⟨ha22_1e, ha22_1l⟩ := app_some ha22_1
  refine Wy (.own 4) [(2, .gone), (4, (Ar 5 1 encU8 a22_1))] (Oap rfl elemOK_31 encU8_len ha22_1e ha22_1l) <| Wm (.own 4) rfl <| Wdr <| Tk 546 17 ⟨tp 1 (.l enc_GType p1::tp 3 (.loc 0 0::tp 3 (.own 4::tp 49 []))), [(.box [(.y p2.Kind), (.s p2.Text), (.i p2.A), (.i p2.B), (.i p2.E.Time), (.i p2.E.Source), (.i p2.E.Seq), (.s p2.E.Type_), (.l enc_GValue p2.E.Vals)]), .gone, .gone, .gone, (Ar 5 1 encU8 a22_1)], 0⟩ <| Sq <| Sx <| Wz (.loc 0 0) (Ofa rfl) <| Wz (.y p2.Kind) (Old rfl) <| Wz (.b (decide (((p2.Kind.toNat : Nat) : Int) = 1))) (Ob2 (.int .u8 ((p2.Kind.toNat : Nat) : Int)) (.int .u8 1) rfl (fun _ => hb_eql)) <| Nk 33554978 17 ⟨tp 1 (.l enc_GType p1::tp 3 (.loc 0 0::tp 3 (.own 4::tp 15 (.b (decide (((p2.Kind.toNat : Nat) : Int) = 1))::tp 33 [])))), [(.box [(.y p2.Kind), (.s p2.Text), (.i p2.A), (.i p2.B), (.i p2.E.Time), (.i p2.E.Source), (.i p2.E.Seq), (.s p2.E.Type_), (.l enc_GValue p2.E.Vals)]), .gone, .gone, .gone, (Ar 5 1 encU8 a22_1)], 0⟩ ?_
  rcases tf_ (decide (((p2.Kind.toNat : Nat) : Int) = 1)) with hc25_8 | hc25_8
  ·
   replace hm := cT hc25_8 hm
   refine AiT hc25_8 <| Sx <| Wm (.own 4) rfl <| Wz (.loc 0 1) (Ofa rfl) <| Wz (.s p2.Text) (Old rfl) ?_
   obtain ⟨r29_2, hr29_2, hm⟩ := bnd hm
   refine Wy (.tup [(.own 5), (.i r29_2.2)]) [(5, (Ar 5 1 encU8 r29_2.1))] (Ocp [] [5] [4] 0 (ok_r01_Text a22_1 p2.Text r29_2 hr29_2) (⟨by simp [A.Plain, A.Plains, D.Plain, byteD], plain_cons (flat_plain encU8_plain) (plain_nil)⟩) (fun a w => Tryd.call30 a w) rfl trivial) <| Wz (.own 5) (Oex rfl) <| Wz (.i r29_2.2) (Oex rfl) <| Wm (.own 5) rfl <| Wm (.i r29_2.2) rfl <| Nn <| Rt <| Tr ?_
   obtain rfl := Option.some.inj hm
   exact ret_i [5]
  ·
   replace hm := cF hc25_8 hm
   refine AiF hc25_8 <| Sk <| Tk 546 17 ⟨tp 1 (.l enc_GType p1::tp 3 (.loc 0 0::tp 3 (.own 4::tp 49 []))), [(.box [(.y p2.Kind), (.s p2.Text), (.i p2.A), (.i p2.B), (.i p2.E.Time), (.i p2.E.Source), (.i p2.E.Seq), (.s p2.E.Type_), (.l enc_GValue p2.E.Vals)]), .gone, .gone, .gone, (Ar 5 1 encU8 a22_1)], 0⟩ <| Sq <| Sx <| Wz (.loc 0 0) (Ofa rfl) <| Wz (.y p2.Kind) (Old rfl) <| Wz (.b (decide (((p2.Kind.toNat : Nat) : Int) = 3))) (Ob2 (.int .u8 ((p2.Kind.toNat : Nat) : Int)) (.int .u8 3) rfl (fun _ => hb_eql)) <| Nk 17179869730 17 ⟨tp 1 (.l enc_GType p1::tp 3 (.loc 0 0::tp 3 (.own 4::tp 24 (.b (decide (((p2.Kind.toNat : Nat) : Int) = 3))::tp 24 [])))), [(.box [(.y p2.Kind), (.s p2.Text), (.i p2.A), (.i p2.B), (.i p2.E.Time), (.i p2.E.Source), (.i p2.E.Seq), (.s p2.E.Type_), (.l enc_GValue p2.E.Vals)]), .gone, .gone, .gone, (Ar 5 1 encU8 a22_1)], 0⟩ ?_
   rcases tf_ (decide (((p2.Kind.toNat : Nat) : Int) = 3)) with hc34_9 | hc34_9
   ·
    replace hm := cT hc34_9 hm
    refine AiT hc34_9 <| Sx <| Wm (.own 4) rfl <| Wm (.l enc_GType p1) rfl <| Wz (.loc 0 4) (Ofa rfl) <| Wz (.agg [(.i p2.E.Time), (.i p2.E.Source), (.i p2.E.Seq), (.s p2.E.Type_), (.l enc_GValue p2.E.Vals)]) (Old rfl) ?_
    obtain ⟨r39_3, hr39_3, hm⟩ := bnd hm
    refine Wy (.tup [(.own 5), (.i r39_3.2)]) [(5, (Ar 5 1 encU8 r39_3.1))] (Ocp [] [5] [4] 0 (ok_r07_Put a22_1 p1 p2.E r39_3 hr39_3) (⟨by simp [A.Plain, A.Plains, D.Plain, byteD], plain_cons (flat_plain encU8_plain) (plain_nil)⟩) (fun a w => Tryd.call31 a w) rfl trivial) <| Wz (.own 5) (Oex rfl) <| Wz (.i r39_3.2) (Oex rfl) <| Wm (.own 5) rfl <| Wm (.i r39_3.2) rfl <| Nn <| Rt <| Tr ?_
    obtain rfl := Option.some.inj hm
    exact ret_i [5]
   ·
    replace hm := cF hc34_9 hm
    refine AiF hc34_9 <| Sk <| Tk 544 17 ⟨tp 5 (.loc 0 0::tp 3 (.own 4::tp 49 [])), [(.box [(.y p2.Kind), (.s p2.Text), (.i p2.A), (.i p2.B), (.i p2.E.Time), (.i p2.E.Source), (.i p2.E.Seq), (.s p2.E.Type_), (.l enc_GValue p2.E.Vals)]), .gone, .gone, .gone, (Ar 5 1 encU8 a22_1)], 0⟩ ?_
    refine AWP.cutJ (α := (List UInt8)) (fun x => match x with | y9_5 => (⟨tp 5 (.loc 0 0::tp 3 (.own 1::tp 49 [])), [(.box [(.y p2.Kind), (.s p2.Text), (.i p2.A), (.i p2.B), (.i p2.E.Time), (.i p2.E.Source), (.i p2.E.Seq), (.s p2.E.Type_), (.l enc_GValue p2.E.Vals)]), (Ar 5 1 encU8 y9_5)], 0⟩ : St)) (fun x => match x with | y9_5 => m_r37_Put_j5 p2 y9_5 = some r) ?_ (fun J5 => ?_)
    ·
     rintro y9_5 hm
     try dsimp only at hm ⊢
     unfold m_r37_Put_j5 at hm
     refine Sq <| Sx <| Wz (.loc 0 0) (Ofa rfl) <| Wz (.y p2.Kind) (Old rfl) <| Wz (.b (decide (((p2.Kind.toNat : Nat) : Int) = 4))) (Ob2 (.int .u8 ((p2.Kind.toNat : Nat) : Int)) (.int .u8 4) rfl (fun _ => hb_eql)) <| Nk 4503599627371040 3 ⟨tp 5 (.loc 0 0::tp 3 (.own 1::tp 42 (.b (decide (((p2.Kind.toNat : Nat) : Int) = 4))::tp 6 []))), [(.box [(.y p2.Kind), (.s p2.Text), (.i p2.A), (.i p2.B), (.i p2.E.Time), (.i p2.E.Source), (.i p2.E.Seq), (.s p2.E.Type_), (.l enc_GValue p2.E.Vals)]), (Ar 5 1 encU8 y9_5)], 0⟩ ?_
     rcases tf_ (decide (((p2.Kind.toNat : Nat) : Int) = 4)) with hc52_10 | hc52_10
     ·
      replace hm := cT hc52_10 hm
      refine AiT hc52_10 <| Tx <| Wm (.own 1) rfl <| Wz (.loc 0 3) (Ofa rfl) <| Wz (.i p2.B) (Old rfl) ?_
      obtain ⟨r56_6, hr56_6, hm⟩ := bnd hm
      refine Wz (.u r56_6) (Ocf [] [] [] 0 (ok_r02_Fold p2.B r56_6 hr56_6) (fun a w => Tryd.call33 a w) rfl trivial) ?_
      obtain ⟨r57_6, hr57_6, hm⟩ := bnd hm
      refine Wy (.own 2) [(2, (Ar 5 1 encU8 r57_6))] (Ocp [] [2] [1] 0 (ok_r02_Put y9_5 r56_6 r57_6 hr57_6) (⟨by simp [A.Plain, A.Plains, D.Plain, byteD], plain_cons (flat_plain encU8_plain) (plain_nil)⟩) (fun a w => Tryd.call32 a w) rfl trivial) <| Wm (.own 2) rfl <| Nk 512 4 ⟨tp 9 (.own 2::tp 49 []), [.gone, .gone, (Ar 5 1 encU8 r57_6)], 0⟩ <| Sx <| Wm (.own 2) rfl <| Wm (.own 2) rfl <| Wm (.i 0) rfl <| Nn <| Rt ?_
      obtain rfl := Option.some.inj hm
      exact ret_i [2]
     ·
      replace hm := cF hc52_10 hm
      refine AiF hc52_10 <| Sk <| Tk 512 2 ⟨tp 9 (.own 1::tp 49 []), [.gone, (Ar 5 1 encU8 y9_5)], 0⟩ <| Sx <| Wm (.own 1) rfl <| Wm (.own 1) rfl <| Wm (.i 0) rfl <| Nn <| Rt ?_
      obtain rfl := Option.some.inj hm
      exact ret_i [1]
    refine Sq <| Sx <| Wz (.loc 0 0) (Ofa rfl) <| Wz (.y p2.Kind) (Old rfl) <| Wz (.b (decide ((4 : Int) ≤ ((p2.Kind.toNat : Nat) : Int)))) (Ob2 (.int .u8 ((p2.Kind.toNat : Nat) : Int)) (.int .u8 4) rfl (fun _ => hb_geq)) <| Nk 17592186044960 17 ⟨tp 5 (.loc 0 0::tp 3 (.own 4::tp 34 (.b (decide ((4 : Int) ≤ ((p2.Kind.toNat : Nat) : Int)))::tp 14 []))), [(.box [(.y p2.Kind), (.s p2.Text), (.i p2.A), (.i p2.B), (.i p2.E.Time), (.i p2.E.Source), (.i p2.E.Seq), (.s p2.E.Type_), (.l enc_GValue p2.E.Vals)]), .gone, .gone, .gone, (Ar 5 1 encU8 a22_1)], 0⟩ ?_
    rcases tf_ (decide ((4 : Int) ≤ ((p2.Kind.toNat : Nat) : Int))) with hc44_11 | hc44_11
    ·
     replace hm := cT hc44_11 hm
     refine AiT hc44_11 <| Tx <| Wm (.own 4) rfl <| Wz (.loc 0 2) (Ofa rfl) <| Wz (.i p2.A) (Old rfl) ?_
     obtain ⟨r48_4, hr48_4, hm⟩ := bnd hm
     refine Wz (.u r48_4) (Ocf [] [] [] 0 (ok_r02_Fold p2.A r48_4 hr48_4) (fun a w => Tryd.call33 a w) rfl trivial) ?_
     obtain ⟨r49_4, hr49_4, hm⟩ := bnd hm
     refine Wy (.own 5) [(5, (Ar 5 1 encU8 r49_4))] (Ocp [] [5] [4] 0 (ok_r02_Put a22_1 r48_4 r49_4 hr49_4) (⟨by simp [A.Plain, A.Plains, D.Plain, byteD], plain_cons (flat_plain encU8_plain) (plain_nil)⟩) (fun a w => Tryd.call32 a w) rfl trivial) <| Wm (.own 5) rfl <| Nn ?_
     exact AWP.weak (Weak.toK 544 0 0 [0, 5]) (J5 (r49_4) hm)
    ·
     replace hm := cF hc44_11 hm
     refine AiF hc44_11 <| Sk <| Tn ?_
     exact AWP.weak (Weak.toK 544 0 0 [0, 4]) (J5 (a22_1) hm)

theorem ok_r37_Same (p0 : GCommand) (p1 : GCommand) (r : Bool) (h : m_r37_Same p0 p1 = some r) : GCall Tryd.prog 17 [(.agg [(.y p0.Kind), (.s p0.Text), (.i p0.A), (.i p0.B), (.i p0.E.Time), (.i p0.E.Source), (.i p0.E.Seq), (.s p0.E.Type_), (.l enc_GValue p0.E.Vals)]), (.agg [(.y p1.Kind), (.s p1.Text), (.i p1.A), (.i p1.B), (.i p1.E.Time), (.i p1.E.Source), (.i p1.E.Seq), (.s p1.E.Type_), (.l enc_GValue p1.E.Vals)])] [] (.b r) [] := by
 refine GCall.of_body (n := 38) (rs := [(.tmp 4)]) Tryd.func17 rfl rfl rfl <| Ato ⟨.agg [(.y p0.Kind), (.s p0.Text), (.i p0.A), (.i p0.B), (.i p0.E.Time), (.i p0.E.Source), (.i p0.E.Seq), (.s p0.E.Type_), (.l enc_GValue p0.E.Vals)]::.agg [(.y p1.Kind), (.s p1.Text), (.i p1.A), (.i p1.B), (.i p1.E.Time), (.i p1.E.Source), (.i p1.E.Seq), (.s p1.E.Type_), (.l enc_GValue p1.E.Vals)]::tu 36 [], [], 0⟩ ?_
 have hm := h
 unfold m_r37_Same at hm
 refine Sx <| Wy (.loc 0 0) [(0, (.box [(.y p0.Kind), (.s p0.Text), (.i p0.A), (.i p0.B), (.i p0.E.Time), (.i p0.E.Source), (.i p0.E.Seq), (.s p0.E.Type_), (.l enc_GValue p0.E.Vals)]))] (Obx rfl) <| Wy (.loc 1 0) [(1, (.box [(.y p1.Kind), (.s p1.Text), (.i p1.A), (.i p1.B), (.i p1.E.Time), (.i p1.E.Source), (.i p1.E.Seq), (.s p1.E.Type_), (.l enc_GValue p1.E.Vals)]))] (Obx rfl) <| Wm (.b false) rfl <| Nk 12 3 ⟨tp 2 (.loc 0 0::.loc 1 0::tp 34 []), [(.box [(.y p0.Kind), (.s p0.Text), (.i p0.A), (.i p0.B), (.i p0.E.Time), (.i p0.E.Source), (.i p0.E.Seq), (.s p0.E.Type_), (.l enc_GValue p0.E.Vals)]), (.box [(.y p1.Kind), (.s p1.Text), (.i p1.A), (.i p1.B), (.i p1.E.Time), (.i p1.E.Source), (.i p1.E.Seq), (.s p1.E.Type_), (.l enc_GValue p1.E.Vals)])], 0⟩ <| Sx <| Wz (.loc 0 0) (Ofa rfl) <| Wz (.y p0.Kind) (Old rfl) <| Wz (.loc 1 0) (Ofa rfl) <| Wz (.y p1.Kind) (Old rfl) <| Wz (.b (decide (((p0.Kind.toNat : Nat) : Int) = ((p1.Kind.toNat : Nat) : Int)))) (Ob2 (.int .u8 ((p0.Kind.toNat : Nat) : Int)) (.int .u8 ((p1.Kind.toNat : Nat) : Int)) rfl (fun _ => hb_eql)) ?_
 rcases tf_ (decide (((p0.Kind.toNat : Nat) : Int) = ((p1.Kind.toNat : Nat) : Int))) with hq10_0 | hq10_0
 ·
  replace hm := cT hq10_0 hm
  refine Wz (.b true) (Oq hq10_0 rfl) <| Wz (.loc 0 1) (Ofa rfl) <| Wz (.s p0.Text) (Old rfl) <| Wz (.loc 1 1) (Ofa rfl) <| Wz (.s p1.Text) (Old rfl) <| Wz (.b (decide (p0.Text = p1.Text))) (Ocs (lit_tf (by simp only [toS_inj, ne_eq])) (op_bin rfl (a1 := .string (toS p0.Text)) (a2 := .string (toS p1.Text)) (by kernel_rfl) (by kernel_rfl) (fun _ => hb_seql))) <| Wz (.b (decide (p0.Text = p1.Text))) (OpT rfl) ?_
  rcases tf_ (decide (p0.Text = p1.Text)) with hq17_0 | hq17_0
  ·
   replace hm := cT hq17_0 hm
   refine Wz (.b true) (Oq hq17_0 rfl) <| Wz (.loc 0 2) (Ofa rfl) <| Wz (.i p0.A) (Old rfl) <| Wz (.loc 1 2) (Ofa rfl) <| Wz (.i p1.A) (Old rfl) <| Wz (.b (decide (p0.A = p1.A))) (Obn rfl (fun _ => hb_eql (k := .i64))) <| Wz (.b (decide (p0.A = p1.A))) (OpT rfl) ?_
   rcases tf_ (decide (p0.A = p1.A)) with hq24_0 | hq24_0
   ·
    replace hm := cT hq24_0 hm
    refine Wz (.b true) (Oq hq24_0 rfl) <| Wz (.loc 0 3) (Ofa rfl) <| Wz (.i p0.B) (Old rfl) <| Wz (.loc 1 3) (Ofa rfl) <| Wz (.i p1.B) (Old rfl) <| Wz (.b (decide (p0.B = p1.B))) (Obn rfl (fun _ => hb_eql (k := .i64))) <| Wz (.b (decide (p0.B = p1.B))) (OpT rfl) ?_
    rcases tf_ (decide (p0.B = p1.B)) with hq31_0 | hq31_0
    ·
     replace hm := cT hq31_0 hm
     refine Wz (.b true) (Oq hq31_0 rfl) <| Wz (.loc 0 4) (Ofa rfl) <| Wz (.agg [(.i p0.E.Time), (.i p0.E.Source), (.i p0.E.Seq), (.s p0.E.Type_), (.l enc_GValue p0.E.Vals)]) (Old rfl) <| Wz (.loc 1 4) (Ofa rfl) <| Wz (.agg [(.i p1.E.Time), (.i p1.E.Source), (.i p1.E.Seq), (.s p1.E.Type_), (.l enc_GValue p1.E.Vals)]) (Old rfl) ?_
     obtain ⟨r36_0, hr36_0, hm⟩ := bnd hm
     refine Wz (.b r36_0) (Ocf [] [] [] 0 (ok_r07_Same p0.E p1.E r36_0 hr36_0) (fun a w => Tryd.call40 a w) rfl trivial) <| Wz (.b r36_0) (OpT rfl) <| Wm (.b r36_0) rfl <| Nn <| Rt ?_
     obtain rfl := Option.some.inj hm
     exact ret_i []
    ·
     replace hm := cF hq31_0 hm
     refine Wz (.b false) (Oq hq31_0 rfl) <| Wn <| Wn <| Wn <| Wn <| Wn <| Wz (.b false) (OpF rfl) <| Wm (.b false) rfl <| Nn <| Rt ?_
     obtain rfl := Option.some.inj hm
     exact ret_i []
   ·
    replace hm := cF hq24_0 hm
    refine Wz (.b false) (Oq hq24_0 rfl) <| Wn <| Wn <| Wn <| Wn <| Wn <| Wz (.b false) (OpF rfl) <| Wm (.b false) rfl <| Wn <| Wn <| Wn <| Wn <| Wn <| Wz (.b false) (OpF rfl) ?_
    refine Wm (.b false) rfl <| Nn <| Rt ?_
    obtain rfl := Option.some.inj hm
    exact ret_i []
  ·
   replace hm := cF hq17_0 hm
   refine Wz (.b false) (Oq hq17_0 rfl) <| Wn <| Wn <| Wn <| Wn <| Wn <| Wz (.b false) (OpF rfl) <| Wm (.b false) rfl <| Wn <| Wn <| Wn <| Wn <| Wn <| Wz (.b false) (OpF rfl) ?_
   refine Wm (.b false) rfl <| Wn <| Wn <| Wn <| Wn <| Wn <| Wz (.b false) (OpF rfl) <| Wm (.b false) rfl <| Nn <| Rt ?_
   obtain rfl := Option.some.inj hm
   exact ret_i []
 ·
  replace hm := cF hq10_0 hm
  refine Wz (.b false) (Oq hq10_0 rfl) <| Wn <| Wn <| Wn <| Wn <| Wn <| Wz (.b false) (OpF rfl) <| Wm (.b false) rfl <| Wn <| Wn <| Wn <| Wn <| Wn <| Wz (.b false) (OpF rfl) ?_
  refine Wm (.b false) rfl <| Wn <| Wn <| Wn <| Wn <| Wn <| Wz (.b false) (OpF rfl) <| Wm (.b false) rfl <| Wn <| Wn <| Wn <| Wn <| Wn <| Wz (.b false) (OpF rfl) ?_
  refine Wm (.b false) rfl <| Nn <| Rt ?_
  obtain rfl := Option.some.inj hm
  exact ret_i []

theorem ok_r37_Write (p0 : (List GType)) (p1 : (List GCommand)) (r : ((List UInt8) × Int)) (h : m_r37_Write p0 p1 = some r) : GCall Tryd.prog 19 [(.l enc_GType p0), (.l enc_GCommand p1)] [] (.tup [(.s r.1), (.i r.2)]) [] := by
 refine GCall.of_body (n := 35) (rs := [(.tmp 4), (.tmp 5)]) Tryd.func19 rfl rfl rfl <| Ato ⟨.l enc_GType p0::.l enc_GCommand p1::tu 33 [], [], 0⟩ ?_
 have hm := h
 unfold m_r37_Write at hm
 refine Sx <| Wm (.s ([] : List UInt8)) rfl <| Wm (.i 0) rfl <| Nk 3 0 ⟨.l enc_GType p0::.l enc_GCommand p1::tp 33 [], [], 0⟩ <| Sq <| Sx <| Wm (.l enc_GCommand p1) rfl <| Wz (.i ((List.length p1 : Nat) : Int)) (Oln rfl) <| Wz (.b (decide ((400 : Int) < ((List.length p1 : Nat) : Int)))) (Obn rfl (fun _ => hb_gtr (k := .i64))) <| Nk 4099 0 ⟨.l enc_GType p0::.l enc_GCommand p1::tp 10 (.b (decide ((400 : Int) < ((List.length p1 : Nat) : Int)))::tp 22 []), [], 0⟩ ?_
 rcases tf_ (decide ((400 : Int) < ((List.length p1 : Nat) : Int))) with hc12_5 | hc12_5
 ·
  replace hm := cT hc12_5 hm
  refine AiT hc12_5 <| Sx <| Wm (.s ([] : List UInt8)) rfl <| Wm (.i 5) rfl <| Nn <| Rt <| Tr ?_
  obtain rfl := Option.some.inj hm
  exact ret_i []
 ·
  replace hm := cF hc12_5 hm
  refine AiF hc12_5 <| Sk <| Tk 3 0 ⟨.l enc_GType p0::.l enc_GCommand p1::tp 33 [], [], 0⟩ <| Sx <| Wm (.d .nil) rfl <| Nk 67 0 ⟨.l enc_GType p0::.l enc_GCommand p1::tp 4 (.d .nil::tp 28 []), [], 0⟩ <| Sq <| Sx <| Wm (.i 0) rfl <| Nk 195 0 ⟨.l enc_GType p0::.l enc_GCommand p1::tp 4 (.d .nil::.i 0::tp 27 []), [], 0⟩ <| Bk <| Aow 6 5 1 ⟨.l enc_GType p0::.l enc_GCommand p1::tp 4 (.own 0::.i 0::tp 27 []), [(Ar 5 1 encU8 ([] : List UInt8))], 0⟩ ?_
  refine AWP.loopI (α := Nat × (List UInt8) × Int)
    (fun (fu_1, y6_1, y7_1) => (⟨.l enc_GType p0::.l enc_GCommand p1::tp 4 (.own 0::.i y7_1::tp 27 []), [(Ar 5 1 encU8 y6_1)], 0⟩ : St))
    (fun (fu_1, y6_1, y7_1) => m_r37_Write_l1 p0 p1 fu_1 y6_1 y7_1 = some r)
    (fun (fu_1, y6_1, y7_1) => fu_1) (1152921504606846976, ([] : List UInt8), 0)
    (Weak.toK 195 0 0 [0]) hm ?_
  rintro ⟨fu_1, y6_1, y7_1⟩ n_1 hm ih_1
  try dsimp only at hm ih_1 ⊢
  cases fu_1 with
  | zero => exact absurd hm (by unfold m_r37_Write_l1; simp)
  | succ fu_1 =>
   unfold m_r37_Write_l1 at hm
   refine Sq <| Sx <| Wm (.i y7_1) rfl <| Wm (.l enc_GCommand p1) rfl <| Wz (.i ((List.length p1 : Nat) : Int)) (Oln rfl) <| Wz (.b (decide (y7_1 < ((List.length p1 : Nat) : Int)))) (Obn rfl (fun _ => hb_lss (k := .i64))) <| Nk 65731 1 ⟨.l enc_GType p0::.l enc_GCommand p1::tp 4 (.own 0::.i y7_1::tp 8 (.b (decide (y7_1 < ((List.length p1 : Nat) : Int)))::tp 18 [])), [(Ar 5 1 encU8 y6_1)], 0⟩ ?_
   rcases tf_ (decide (y7_1 < ((List.length p1 : Nat) : Int))) with hc16_6 | hc16_6
   ·
    replace hm := cT hc16_6 hm
    refine AiT hc16_6 <| Sk <| Tk 195 1 ⟨.l enc_GType p0::.l enc_GCommand p1::tp 4 (.own 0::.i y7_1::tp 27 []), [(Ar 5 1 encU8 y6_1)], 0⟩ <| Sq <| Bk <| Sx <| Wm (.own 0) rfl <| Wm (.l enc_GType p0) rfl <| Wm (.l enc_GCommand p1) rfl <| Wm (.i y7_1) rfl ?_
    obtain ⟨x24_3, hx24_3, hm⟩ := bnd hm
    obtain ⟨hx24_3i, hx24_3g⟩ := geti_some hx24_3
    refine Wz (.d (.ref (List.drop ((Int.toNat y7_1) * 9) (flatD enc_GCommand p1)))) (Oia rfl enc_GCommand_len hx24_3i hx24_3g) <| Wz (.agg [(.y x24_3.Kind), (.s x24_3.Text), (.i x24_3.A), (.i x24_3.B), (.i x24_3.E.Time), (.i x24_3.E.Source), (.i x24_3.E.Seq), (.s x24_3.E.Type_), (.l enc_GValue x24_3.E.Vals)]) (Lf rfl enc_GCommand_len hx24_3g) ?_
    obtain ⟨r26_3, hr26_3, hm⟩ := bnd hm
    refine Wy (.tup [(.own 1), (.i r26_3.2)]) [(1, (Ar 5 1 encU8 r26_3.1))] (Ocp [] [1] [0] 0 (ok_r37_Put y6_1 p0 x24_3 r26_3 hr26_3) (⟨by simp [A.Plain, A.Plains, D.Plain, byteD], plain_cons (flat_plain encU8_plain) (plain_nil)⟩) (fun a w => Tryd.call13 a w) rfl trivial) <| Wm (.tup [(.own 1), (.i r26_3.2)]) rfl <| Wz (.own 1) (Oex rfl) <| Wz (.i r26_3.2) (Oex rfl) <| Wm (.own 1) rfl <| Wm (.i r26_3.2) rfl <| Nk 899 2 ⟨.l enc_GType p0::.l enc_GCommand p1::tp 5 (.i y7_1::.own 1::.i r26_3.2::tp 25 []), [.gone, (Ar 5 1 encU8 r26_3.1)], 0⟩ <| Sq <| Sx <| Wm (.i r26_3.2) rfl <| Wz (.b (decide (r26_3.2 ≠ 0))) (Obn rfl (fun _ => hb_neq (k := .i64))) <| Nk 1073742723 2 ⟨.l enc_GType p0::.l enc_GCommand p1::tp 5 (.i y7_1::.own 1::.i r26_3.2::tp 20 (.b (decide (r26_3.2 ≠ 0))::tp 4 [])), [.gone, (Ar 5 1 encU8 r26_3.1)], 0⟩ ?_
    rcases tf_ (decide (r26_3.2 ≠ 0)) with hc30_7 | hc30_7
    ·
     replace hm := cT hc30_7 hm
     refine AiT hc30_7 <| Sx <| Wm (.i r26_3.2) rfl <| Wm (.s ([] : List UInt8)) rfl <| Wm (.i r26_3.2) rfl <| Nn <| Rt <| Tr <| Ir <| Tr <| RoundK.ret <| Ir <| Tr ?_
     obtain rfl := Option.some.inj hm
     exact ret_i []
    ·
     replace hm := cF hc30_7 hm
     refine AiF hc30_7 <| Sk <| Tk 387 2 ⟨.l enc_GType p0::.l enc_GCommand p1::tp 5 (.i y7_1::.own 1::tp 26 []), [.gone, (Ar 5 1 encU8 r26_3.1)], 0⟩ <| Tx <| Wm (.own 1) rfl <| Wm (.own 1) rfl <| Wn0 <| Ino <| Tk 195 2 ⟨.l enc_GType p0::.l enc_GCommand p1::tp 4 (.own 1::.i y7_1::tp 27 []), [.gone, (Ar 5 1 encU8 r26_3.1)], 0⟩ <| Tx <| Wm (.i y7_1) rfl <| Wz (.i (W6 (y7_1 + 1))) (Obn rfl (fun _ => hb_add (k := .i64))) <| Wm (.i (W6 (y7_1 + 1))) rfl <| Wn0 ?_
     refine RoundK.normal ?_
     exact Rounds.weak (Weak.toK 195 0 0 [1]) (ih_1 (fu_1, r26_3.1, (W6 (y7_1 + 1))) hm (Nat.lt_succ_self _))
   ·
    replace hm := cF hc16_6 hm
    refine AiF hc16_6 <| AWP.exit <| Then.exit <| RoundK.exit <| InBlock.same <| Tk 64 1 ⟨tp 6 (.own 0::tp 28 []), [(Ar 5 1 encU8 y6_1)], 0⟩ <| Sx <| Wm (.own 0) rfl <| Wz (.s y6_1) (Ocs (by kernel_rfl) (op_str rfl (e := 5) (by kernel_rfl) (by kernel_rfl) (by kernel_rfl) (y := (.own 0)) (by kernel_rfl) (ds := flatD encU8 y6_1) (off := 0) (n := List.length y6_1) (by kernel_rfl) (l := y6_1) flatU8_take rfl)) <| Wm (.s y6_1) rfl <| Wm (.i 0) rfl <| Nn <| Rt ?_
    obtain rfl := Option.some.inj hm
    exact ret_i []

theorem ok_w37_ScriptWrites (p0 : (List GType)) (p1 : (List GCommand)) (r : Bool) (h : m_w37_ScriptWrites p0 p1 = some r) : GCall Tryd.prog 3 [(.l enc_GType p0), (.l enc_GCommand p1)] [] (.b r) [] := by
 refine GCall.of_body (n := 132) (rs := [(.tmp 4)]) Tryd.func3 rfl rfl rfl <| Ato ⟨.l enc_GType p0::.l enc_GCommand p1::tu 130 [], [], 0⟩ ?_
 have hm := h
 unfold m_w37_ScriptWrites at hm
 refine Sx <| Wm (.b false) rfl <| Nk 3 0 ⟨.l enc_GType p0::.l enc_GCommand p1::tp 130 [], [], 0⟩ <| Sq <| Sx <| Wm (.l enc_GType p0) rfl ?_
 obtain ⟨r17_0, hr17_0, hm⟩ := bnd hm
 refine Wz (.i r17_0) (Ocf [] [] [] 0 (ok_w06_Over p0 r17_0 hr17_0) (fun a w => Tryd.call7 a w) rfl trivial) <| Wz (.b (decide ((0 : Int) < r17_0))) (Obn rfl (fun _ => hb_gtr (k := .i64))) ?_
 rcases tf_ (decide ((0 : Int) < r17_0)) with hq19_0 | hq19_0
 ·
  replace hm := cT hq19_0 hm
  refine Wz (.b true) (Oq hq19_0 rfl) <| Wn <| Wn <| Wn <| Wz (.b true) (OpT rfl) <| Nk 8388611 0 ⟨.l enc_GType p0::.l enc_GCommand p1::tp 21 (.b true::tp 108 []), [], 0⟩ <| AWP.if_ true (by kernel_rfl) <| Sx ?_
  obtain ⟨r24_1, hr24_1, hm⟩ := bnd hm
  refine Wz (.b r24_1) (Ocf [] [] [] 0 (ok_w37_awake  r24_1 hr24_1) (fun a w => Tryd.call9 a w) rfl trivial) <| Wm (.b r24_1) rfl <| Nn <| Rt <| Tr ?_
  obtain rfl := Option.some.inj hm
  exact ret_i []
 ·
  replace hm := cF hq19_0 hm
  refine Wz (.b false) (Oq hq19_0 rfl) <| Wm (.l enc_GCommand p1) rfl ?_
  obtain ⟨r21_0, hr21_0, hm⟩ := bnd hm
  refine Wz (.i r21_0) (Ocf [] [] [] 0 (ok_w37_Over p1 20 r21_0 hr21_0) (fun a w => Tryd.call8 a w) rfl trivial) <| Wz (.b (decide ((0 : Int) < r21_0))) (Obn rfl (fun _ => hb_gtr (k := .i64))) <| Wz (.b (decide ((0 : Int) < r21_0))) (OpF rfl) <| Nk 8388611 0 ⟨.l enc_GType p0::.l enc_GCommand p1::tp 21 (.b (decide ((0 : Int) < r21_0))::tp 108 []), [], 0⟩ ?_
  rcases tf_ (decide ((0 : Int) < r21_0)) with hc23_13 | hc23_13
  ·
   replace hm := cT hc23_13 hm
   refine AiT hc23_13 <| Sx ?_
   obtain ⟨r24_2, hr24_2, hm⟩ := bnd hm
   refine Wz (.b r24_2) (Ocf [] [] [] 0 (ok_w37_awake  r24_2 hr24_2) (fun a w => Tryd.call9 a w) rfl trivial) <| Wm (.b r24_2) rfl <| Nn <| Rt <| Tr ?_
   obtain rfl := Option.some.inj hm
   exact ret_i []
  ·
   replace hm := cF hc23_13 hm
   refine AiF hc23_13 <| Sk <| Tk 3 0 ⟨.l enc_GType p0::.l enc_GCommand p1::tp 130 [], [], 0⟩ <| Sx <| Wm (.l enc_GType p0) rfl ?_
   obtain ⟨r26_3, hr26_3, hm⟩ := bnd hm
   refine Wy (.own 0) [(0, (Ar 74 2 enc_GType r26_3))] (Ocf [] [0] [] 0 (ok_w06_Own p0 r26_3 hr26_3) (fun a w => Tryd.call10 a w) rfl trivial) <| Wm (.l enc_GCommand p1) rfl ?_
   obtain ⟨r28_3, hr28_3, hm⟩ := bnd hm
   refine Wy (.own 1) [(1, (Ar 39 9 enc_GCommand r28_3))] (Ocf [] [1] [] 0 (ok_w37_Own p1 r28_3 hr28_3) (fun a w => Tryd.call11 a w) rfl trivial) <| Wm (.own 0) rfl <| Wm (.own 1) rfl <| Nk 99 3 ⟨.l enc_GType p0::.l enc_GCommand p1::tp 3 (.own 0::.own 1::tp 125 []), [(Ar 74 2 enc_GType r26_3), (Ar 39 9 enc_GCommand r28_3)], 0⟩ <| Sq <| Sx <| Wm (.i 0) rfl <| Nk 227 3 ⟨.l enc_GType p0::.l enc_GCommand p1::tp 3 (.own 0::.own 1::.i 0::tp 124 []), [(Ar 74 2 enc_GType r26_3), (Ar 39 9 enc_GCommand r28_3)], 0⟩ <| Bk <| Afz [0] ⟨.l enc_GType p0::.l enc_GCommand p1::tp 3 (.l enc_GType r26_3::.own 1::.i 0::tp 124 []), [(.fro 74 2 (List.length r26_3) (flatD enc_GType r26_3)), (Ar 39 9 enc_GCommand r28_3)], 0⟩ ?_
   refine AWP.loopI (α := Nat × Int)
     (fun (fu_4, y7_4) => (⟨.l enc_GType p0::.l enc_GCommand p1::tp 3 (.l enc_GType r26_3::.own 0::.i y7_4::tp 124 []), [(Ar 39 9 enc_GCommand r28_3)], 0⟩ : St))
     (fun (fu_4, y7_4) => m_w37_ScriptWrites_l4 p0 p1 r26_3 r28_3 fu_4 y7_4 = some r)
     (fun (fu_4, y7_4) => fu_4) (1152921504606846976, 0)
     (Weak.toK 227 0 0 [1]) hm ?_
   rintro ⟨fu_4, y7_4⟩ n_4 hm ih_4
   try dsimp only at hm ih_4 ⊢
   cases fu_4 with
   | zero => exact absurd hm (by unfold m_w37_ScriptWrites_l4; simp)
   | succ fu_4 =>
    unfold m_w37_ScriptWrites_l4 at hm
    refine Sq <| Sx <| Wm (.i y7_4) rfl <| Wm (.l enc_GCommand p1) rfl <| Wz (.i ((List.length p1 : Nat) : Int)) (Oln rfl) <| Wz (.b (decide (y7_4 < ((List.length p1 : Nat) : Int)))) (Obn rfl (fun _ => hb_lss (k := .i64))) <| Nk 4294967523 1 ⟨.l enc_GType p0::.l enc_GCommand p1::tp 3 (.l enc_GType r26_3::.own 0::.i y7_4::tp 24 (.b (decide (y7_4 < ((List.length p1 : Nat) : Int)))::tp 99 [])), [(Ar 39 9 enc_GCommand r28_3)], 0⟩ ?_
    rcases tf_ (decide (y7_4 < ((List.length p1 : Nat) : Int))) with hc32_14 | hc32_14
    ·
     replace hm := cT hc32_14 hm
     refine AiT hc32_14 <| Sk <| Tk 227 1 ⟨.l enc_GType p0::.l enc_GCommand p1::tp 3 (.l enc_GType r26_3::.own 0::.i y7_4::tp 124 []), [(Ar 39 9 enc_GCommand r28_3)], 0⟩ <| Sq <| Bk <| Sx <| Wy (.own 1) [(1, (Ar 5 1 encU8 ([112] : List UInt8)))] (Obs rfl) <| Wy (.own 1) [(1, (Ar 5 1 encU8 ([112] : List UInt8)))] (Omk rfl (by kernel_rfl) (by kernel_rfl) (n := List.length ([112] : List UInt8)) (by decide)) <| Wm (.l enc_GType r26_3) rfl <| Wm (.own 0) rfl <| Wm (.i y7_4) rfl ?_
     obtain ⟨x41_6, hx41_6, hm⟩ := bnd hm
     obtain ⟨hx41_6i, hx41_6g⟩ := geti_some hx41_6
     refine Wz (.loc 0 ((Int.toNat y7_4) * 9)) (Oia rfl enc_GCommand_len hx41_6i hx41_6g) <| Wz (.agg [(.y x41_6.Kind), (.s x41_6.Text), (.i x41_6.A), (.i x41_6.B), (.i x41_6.E.Time), (.i x41_6.E.Source), (.i x41_6.E.Seq), (.s x41_6.E.Type_), (.l enc_GValue x41_6.E.Vals)]) (Lr rfl enc_GCommand_len hx41_6g) ?_
     obtain ⟨r43_6, hr43_6, hm⟩ := bnd hm
     refine Wy (.tup [(.l encU8 r43_6.1), (.i r43_6.2)]) [(1, (.fro 5 1 (List.length ([112] : List UInt8)) (flatD encU8 ([112] : List UInt8))))] (Ocf [] [] [1] 0 (ok_script_Put ([112] : List UInt8) r26_3 x41_6 r43_6 hr43_6) (fun a w => Tryd.call12 a w) rfl trivial) <| Wm (.tup [(.l encU8 r43_6.1), (.i r43_6.2)]) rfl <| Wz (.l encU8 r43_6.1) (Oex rfl) <| Wz (.i r43_6.2) (Oex rfl) <| Wm (.l encU8 r43_6.1) rfl <| Wm (.i r43_6.2) rfl <| Nk 995 1 ⟨.l enc_GType p0::.l enc_GCommand p1::tp 3 (.l enc_GType r26_3::.own 0::.i y7_4::.l encU8 r43_6.1::.i r43_6.2::tp 122 []), [(Ar 39 9 enc_GCommand r28_3), .gone], 0⟩ <| Sx <| Wy (.own 2) [(2, (Ar 5 1 encU8 ([112] : List UInt8)))] (Obs rfl) <| Wy (.own 2) [(2, (Ar 5 1 encU8 ([112] : List UInt8)))] (Omk rfl (by kernel_rfl) (by kernel_rfl) (n := List.length ([112] : List UInt8)) (by decide)) <| Wm (.l enc_GType p0) rfl <| Wm (.l enc_GCommand p1) rfl <| Wm (.i y7_4) rfl ?_
     obtain ⟨x52_7, hx52_7, hm⟩ := bnd hm
     obtain ⟨hx52_7i, hx52_7g⟩ := geti_some hx52_7
     refine Wz (.d (.ref (List.drop ((Int.toNat y7_4) * 9) (flatD enc_GCommand p1)))) (Oia rfl enc_GCommand_len hx52_7i hx52_7g) <| Wz (.agg [(.y x52_7.Kind), (.s x52_7.Text), (.i x52_7.A), (.i x52_7.B), (.i x52_7.E.Time), (.i x52_7.E.Source), (.i x52_7.E.Seq), (.s x52_7.E.Type_), (.l enc_GValue x52_7.E.Vals)]) (Lf rfl enc_GCommand_len hx52_7g) ?_
     obtain ⟨r54_7, hr54_7, hm⟩ := bnd hm
     refine Wy (.tup [(.own 3), (.i r54_7.2)]) [(3, (Ar 5 1 encU8 r54_7.1))] (Ocp [] [3] [2] 0 (ok_r37_Put ([112] : List UInt8) p0 x52_7 r54_7 hr54_7) (⟨by simp [A.Plain, A.Plains, D.Plain, byteD], plain_cons (flat_plain encU8_plain) (plain_nil)⟩) (fun a w => Tryd.call13 a w) rfl trivial) <| Wm (.tup [(.own 3), (.i r54_7.2)]) rfl <| Wz (.own 3) (Oex rfl) <| Wz (.i r54_7.2) (Oex rfl) <| Wm (.own 3) rfl <| Wm (.i r54_7.2) rfl <| Nk 4067 9 ⟨.l enc_GType p0::.l enc_GCommand p1::tp 3 (.l enc_GType r26_3::.own 0::.i y7_4::.l encU8 r43_6.1::.i r43_6.2::.own 3::.i r54_7.2::tp 120 []), [(Ar 39 9 enc_GCommand r28_3), .gone, .gone, (Ar 5 1 encU8 r54_7.1)], 0⟩ ?_
     refine AWP.cutJ (α := Unit) (fun x => match x with | () => (⟨.l enc_GType p0::.l enc_GCommand p1::tp 3 (.l enc_GType r26_3::.own 0::.i y7_4::tp 100 (.b true::tp 23 [])), [(Ar 39 9 enc_GCommand r28_3)], 0⟩ : St)) (fun x => match x with | () => m_w37_ScriptWrites_j9  = some r) ?_ (fun J9 => ?_)
     ·
      rintro ⟨⟩ hm
      try dsimp only at hm ⊢
      unfold m_w37_ScriptWrites_j9 at hm
      refine AWP.if_ true (by kernel_rfl) <| Sx <| Wm (.b false) rfl <| Nn <| Rt <| Ir <| Tr <| RoundK.ret <| Ir <| Tr ?_
      obtain rfl := Option.some.inj hm
      exact ret_i []
     refine Sq <| Adr <| Wm (.l encU8 r43_6.1) rfl <| Wz (.s r43_6.1) (Ocs (by kernel_rfl) (op_str rfl (e := 5) (by kernel_rfl) (by kernel_rfl) (by kernel_rfl) (y := (.l encU8 r43_6.1)) (by kernel_rfl) (ds := flatD encU8 r43_6.1) (off := 0) (n := List.length r43_6.1) (by kernel_rfl) (l := r43_6.1) flatU8_take rfl)) <| Wm (.own 3) rfl <| Wz (.s r54_7.1) (Ocs (by kernel_rfl) (op_str rfl (e := 5) (by kernel_rfl) (by kernel_rfl) (by kernel_rfl) (y := (.own 3)) (by kernel_rfl) (ds := flatD encU8 r54_7.1) (off := 0) (n := List.length r54_7.1) (by kernel_rfl) (l := r54_7.1) flatU8_take rfl)) <| Wz (.b (decide (r43_6.1 ≠ r54_7.1))) (Ocs (lit_tf (by simp only [toS_inj, ne_eq])) (op_bin rfl (a1 := .string (toS r43_6.1)) (a2 := .string (toS r54_7.1)) (by kernel_rfl) (by kernel_rfl) (fun _ => hb_sneq))) ?_
     rcases tf_ (decide (r43_6.1 ≠ r54_7.1)) with hq62_8 | hq62_8
     ·
      replace hm := cT hq62_8 hm
      refine Wz (.b true) (Oq hq62_8 rfl) <| Wn <| Wn <| Wn <| Wz (.b true) (OpT rfl) <| Wm (.b true) rfl <| Wn <| Wn <| Wn <| Wn <| Wn <| Wn <| Wn <| Wn ?_
      refine Wn <| Wn <| Wn <| Wn <| Wn <| Wz (.b true) (OpT rfl) <| Wm (.b true) rfl <| Wn <| Wn <| Wn <| Wn <| Wn <| Wn <| Wn ?_
      refine Wn <| Wn <| Wn <| Wn <| Wn <| Wn <| Wn <| Wn <| Wn <| Wn <| Wn <| Wn <| Wn <| Wn ?_
      refine Wn <| Wn <| Wn <| Wn <| Wz (.b true) (OpT rfl) <| Wdr <| Tn ?_
      exact AWP.weak (Weak.toK 324518553658426726783156020576483 0 0 [0]) (J9 () hm)
     ·
      replace hm := cF hq62_8 hm
      refine Wz (.b false) (Oq hq62_8 rfl) <| Wm (.i r43_6.2) rfl <| Wm (.i r54_7.2) rfl <| Wz (.b (decide (r43_6.2 ≠ r54_7.2))) (Obn rfl (fun _ => hb_neq (k := .i64))) <| Wz (.b (decide (r43_6.2 ≠ r54_7.2))) (OpF rfl) ?_
      rcases tf_ (decide (r43_6.2 ≠ r54_7.2)) with hq67_8 | hq67_8
      ·
       replace hm := cT hq67_8 hm
       refine Wz (.b true) (Oq hq67_8 rfl) <| Wn <| Wn <| Wn <| Wn <| Wn <| Wn <| Wn <| Wn <| Wn <| Wn <| Wn <| Wn <| Wn ?_
       refine Wz (.b true) (OpT rfl) <| Wm (.b true) rfl <| Wn <| Wn <| Wn <| Wn <| Wn <| Wn <| Wn <| Wn <| Wn <| Wn <| Wn <| Wn ?_
       refine Wn <| Wn <| Wn <| Wn <| Wn <| Wn <| Wn <| Wn <| Wn <| Wn <| Wn <| Wn <| Wn <| Wz (.b true) (OpT rfl) ?_
       refine Wdr <| Tn ?_
       exact AWP.weak (Weak.toK 324518553658426726783156020576483 0 0 [0]) (J9 () hm)
      ·
       replace hm := cF hq67_8 hm
       refine Wz (.b false) (Oq hq67_8 rfl) <| Wm (.l enc_GType r26_3) rfl <| Wm (.own 0) rfl <| Wm (.i y7_4) rfl ?_
       obtain ⟨x71_8, hx71_8, hm⟩ := bnd hm
       obtain ⟨hx71_8i, hx71_8g⟩ := geti_some hx71_8
       refine Wz (.loc 0 ((Int.toNat y7_4) * 9)) (Oia rfl enc_GCommand_len hx71_8i hx71_8g) <| Wz (.agg [(.y x71_8.Kind), (.s x71_8.Text), (.i x71_8.A), (.i x71_8.B), (.i x71_8.E.Time), (.i x71_8.E.Source), (.i x71_8.E.Seq), (.s x71_8.E.Type_), (.l enc_GValue x71_8.E.Vals)]) (Lr rfl enc_GCommand_len hx71_8g) ?_
       obtain ⟨r73_8, hr73_8, hm⟩ := bnd hm
       refine Wz (.i r73_8) (Ocf [] [] [] 0 (ok_script_Check r26_3 x71_8 r73_8 hr73_8) (fun a w => Tryd.call14 a w) rfl trivial) <| Wm (.l enc_GType p0) rfl <| Wm (.l enc_GCommand p1) rfl <| Wm (.i y7_4) rfl ?_
       obtain ⟨x77_8, hx77_8, hm⟩ := bnd hm
       obtain ⟨hx77_8i, hx77_8g⟩ := geti_some hx77_8
       refine Wz (.d (.ref (List.drop ((Int.toNat y7_4) * 9) (flatD enc_GCommand p1)))) (Oia rfl enc_GCommand_len hx77_8i hx77_8g) <| Wz (.agg [(.y x77_8.Kind), (.s x77_8.Text), (.i x77_8.A), (.i x77_8.B), (.i x77_8.E.Time), (.i x77_8.E.Source), (.i x77_8.E.Seq), (.s x77_8.E.Type_), (.l enc_GValue x77_8.E.Vals)]) (Lf rfl enc_GCommand_len hx77_8g) ?_
       obtain ⟨r79_8, hr79_8, hm⟩ := bnd hm
       refine Wz (.i r79_8) (Ocf [] [] [] 0 (ok_r37_Check p0 x77_8 r79_8 hr79_8) (fun a w => Tryd.call15 a w) rfl trivial) <| Wz (.b (decide (r73_8 ≠ r79_8))) (Obn rfl (fun _ => hb_neq (k := .i64))) <| Wz (.b (decide (r73_8 ≠ r79_8))) (OpF rfl) ?_
       rcases tf_ (decide (r73_8 ≠ r79_8)) with hq82_8 | hq82_8
       ·
        replace hm := cT hq82_8 hm
        refine Wz (.b true) (Oq hq82_8 rfl) <| Wn <| Wn <| Wn <| Wn <| Wn <| Wn <| Wn <| Wn <| Wn <| Wn <| Wn <| Wn <| Wn ?_
        refine Wn <| Wn <| Wn <| Wn <| Wn <| Wn <| Wn <| Wn <| Wn <| Wn <| Wn <| Wn <| Wz (.b true) (OpT rfl) <| Wdr ?_
        refine Tn ?_
        exact AWP.weak (Weak.toK 324518553658426726783156020576483 0 0 [0]) (J9 () hm)
       ·
        replace hm := cF hq82_8 hm
        refine Wz (.b false) (Oq hq82_8 rfl) <| Wm (.i y7_4) rfl <| Wz (.b (decide ((0 : Int) < y7_4))) (Obn rfl (fun _ => hb_gtr (k := .i64))) ?_
        rcases tf_ (decide ((0 : Int) < y7_4)) with hq85_8 | hq85_8
        ·
         replace hm := cT hq85_8 hm
         refine Wz (.b true) (Oq hq85_8 rfl) <| Wm (.own 0) rfl <| Wm (.i y7_4) rfl <| Wz (.i (W6 (y7_4 - 1))) (Obn rfl (fun _ => hb_sub (k := .i64))) ?_
         obtain ⟨x89_8, hx89_8, hm⟩ := bnd hm
         obtain ⟨hx89_8i, hx89_8g⟩ := geti_some hx89_8
         refine Wz (.loc 0 ((Int.toNat (W6 (y7_4 - 1))) * 9)) (Oia rfl enc_GCommand_len hx89_8i hx89_8g) <| Wz (.agg [(.y x89_8.Kind), (.s x89_8.Text), (.i x89_8.A), (.i x89_8.B), (.i x89_8.E.Time), (.i x89_8.E.Source), (.i x89_8.E.Seq), (.s x89_8.E.Type_), (.l enc_GValue x89_8.E.Vals)]) (Lr rfl enc_GCommand_len hx89_8g) <| Wm (.own 0) rfl <| Wm (.i y7_4) rfl ?_
         obtain ⟨x93_8, hx93_8, hm⟩ := bnd hm
         obtain ⟨hx93_8i, hx93_8g⟩ := geti_some hx93_8
         refine Wz (.loc 0 ((Int.toNat y7_4) * 9)) (Oia rfl enc_GCommand_len hx93_8i hx93_8g) <| Wz (.agg [(.y x93_8.Kind), (.s x93_8.Text), (.i x93_8.A), (.i x93_8.B), (.i x93_8.E.Time), (.i x93_8.E.Source), (.i x93_8.E.Seq), (.s x93_8.E.Type_), (.l enc_GValue x93_8.E.Vals)]) (Lr rfl enc_GCommand_len hx93_8g) ?_
         obtain ⟨r95_8, hr95_8, hm⟩ := bnd hm
         refine Wz (.b r95_8) (Ocf [] [] [] 0 (ok_script_Same x89_8 x93_8 r95_8 hr95_8) (fun a w => Tryd.call16 a w) rfl trivial) <| Wm (.l enc_GCommand p1) rfl <| Wm (.i y7_4) rfl <| Wz (.i (W6 (y7_4 - 1))) (Obn rfl (fun _ => hb_sub (k := .i64))) ?_
         obtain ⟨x99_8, hx99_8, hm⟩ := bnd hm
         obtain ⟨hx99_8i, hx99_8g⟩ := geti_some hx99_8
         refine Wz (.d (.ref (List.drop ((Int.toNat (W6 (y7_4 - 1))) * 9) (flatD enc_GCommand p1)))) (Oia rfl enc_GCommand_len hx99_8i hx99_8g) <| Wz (.agg [(.y x99_8.Kind), (.s x99_8.Text), (.i x99_8.A), (.i x99_8.B), (.i x99_8.E.Time), (.i x99_8.E.Source), (.i x99_8.E.Seq), (.s x99_8.E.Type_), (.l enc_GValue x99_8.E.Vals)]) (Lf rfl enc_GCommand_len hx99_8g) <| Wm (.l enc_GCommand p1) rfl <| Wm (.i y7_4) rfl ?_
         obtain ⟨x103_8, hx103_8, hm⟩ := bnd hm
         obtain ⟨hx103_8i, hx103_8g⟩ := geti_some hx103_8
         refine Wz (.d (.ref (List.drop ((Int.toNat y7_4) * 9) (flatD enc_GCommand p1)))) (Oia rfl enc_GCommand_len hx103_8i hx103_8g) <| Wz (.agg [(.y x103_8.Kind), (.s x103_8.Text), (.i x103_8.A), (.i x103_8.B), (.i x103_8.E.Time), (.i x103_8.E.Source), (.i x103_8.E.Seq), (.s x103_8.E.Type_), (.l enc_GValue x103_8.E.Vals)]) (Lf rfl enc_GCommand_len hx103_8g) ?_
         obtain ⟨r105_8, hr105_8, hm⟩ := bnd hm
         refine Wz (.b r105_8) (Ocf [] [] [] 0 (ok_r37_Same x99_8 x103_8 r105_8 hr105_8) (fun a w => Tryd.call17 a w) rfl trivial) <| Wz (.b (decide (r95_8 ≠ r105_8))) (Ob2 (.bool r95_8) (.bool r105_8) rfl (fun _ => hb_bneq (by kernel_rfl))) <| Wz (.b (decide (r95_8 ≠ r105_8))) (OpT rfl) <| Wz (.b (decide (r95_8 ≠ r105_8))) (OpF rfl) <| Wdr <| Tk 324518553658426726783156020576483 1 ⟨.l enc_GType p0::.l enc_GCommand p1::tp 3 (.l enc_GType r26_3::.own 0::.i y7_4::tp 100 (.b (decide (r95_8 ≠ r105_8))::tp 23 [])), [(Ar 39 9 enc_GCommand r28_3), .gone, .gone, .gone], 0⟩ ?_
         rcases tf_ (decide (r95_8 ≠ r105_8)) with hc108_15 | hc108_15
         ·
          replace hm := cT hc108_15 hm
          refine AiT hc108_15 <| Sx <| Wm (.b false) rfl <| Nn <| Rt <| Ir <| Tr <| RoundK.ret <| Ir <| Tr ?_
          obtain rfl := Option.some.inj hm
          exact ret_i []
         ·
          replace hm := cF hc108_15 hm
          refine AiF hc108_15 <| Sk <| Ino <| Tk 227 1 ⟨.l enc_GType p0::.l enc_GCommand p1::tp 3 (.l enc_GType r26_3::.own 0::.i y7_4::tp 124 []), [(Ar 39 9 enc_GCommand r28_3), .gone, .gone, .gone], 0⟩ <| Tx <| Wm (.i y7_4) rfl <| Wz (.i (W6 (y7_4 + 1))) (Obn rfl (fun _ => hb_add (k := .i64))) <| Wm (.i (W6 (y7_4 + 1))) rfl <| Wn0 <| RoundK.normal ?_
          exact Rounds.weak (Weak.toK 227 0 0 [0]) (ih_4 (fu_4, (W6 (y7_4 + 1))) hm (Nat.lt_succ_self _))
        ·
         replace hm := cF hq85_8 hm
         refine Wz (.b false) (Oq hq85_8 rfl) <| Wn <| Wn <| Wn <| Wn <| Wn <| Wn <| Wn <| Wn <| Wn <| Wn <| Wn <| Wn <| Wn ?_
         refine Wn <| Wn <| Wn <| Wn <| Wn <| Wn <| Wn <| Wn <| Wz (.b false) (OpF rfl) <| Wz (.b false) (OpF rfl) <| Wdr <| Tk 324518553658426726783156020576483 1 ⟨.l enc_GType p0::.l enc_GCommand p1::tp 3 (.l enc_GType r26_3::.own 0::.i y7_4::tp 100 (.b false::tp 23 [])), [(Ar 39 9 enc_GCommand r28_3), .gone, .gone, .gone], 0⟩ <| AWP.if_ false (by kernel_rfl) <| Sk ?_
         refine Ino <| Tk 227 1 ⟨.l enc_GType p0::.l enc_GCommand p1::tp 3 (.l enc_GType r26_3::.own 0::.i y7_4::tp 124 []), [(Ar 39 9 enc_GCommand r28_3), .gone, .gone, .gone], 0⟩ <| Tx <| Wm (.i y7_4) rfl <| Wz (.i (W6 (y7_4 + 1))) (Obn rfl (fun _ => hb_add (k := .i64))) <| Wm (.i (W6 (y7_4 + 1))) rfl <| Wn0 <| RoundK.normal ?_
         exact Rounds.weak (Weak.toK 227 0 0 [0]) (ih_4 (fu_4, (W6 (y7_4 + 1))) hm (Nat.lt_succ_self _))
    ·
     replace hm := cF hc32_14 hm
     refine AiF hc32_14 <| AWP.exit <| Then.exit <| RoundK.exit <| InBlock.same <| Tk 99 1 ⟨.l enc_GType p0::.l enc_GCommand p1::tp 3 (.l enc_GType r26_3::.own 0::tp 125 []), [(Ar 39 9 enc_GCommand r28_3)], 0⟩ <| Sx <| Wm (.l enc_GType r26_3) rfl <| Wm (.own 0) rfl ?_
     obtain ⟨r112_10, hr112_10, hm⟩ := bnd hm
     refine Wz (.tup [(.s r112_10.1), (.i r112_10.2)]) (Ocp [] [] [0] 0 (ok_script_Write r26_3 r28_3 r112_10 hr112_10) (plain_triv (by simp [A.Plain, A.Plains, D.Plain, byteD])) (fun a w => Tryd.call18 a w) rfl trivial) <| Wm (.tup [(.s r112_10.1), (.i r112_10.2)]) rfl <| Wz (.s r112_10.1) (Oex rfl) <| Wz (.i r112_10.2) (Oex rfl) <| Wm (.s r112_10.1) rfl <| Wm (.i r112_10.2) rfl <| Nk 12291 0 ⟨.l enc_GType p0::.l enc_GCommand p1::tp 10 (.s r112_10.1::.i r112_10.2::tp 118 []), [.gone], 0⟩ <| Sx <| Wm (.l enc_GType p0) rfl <| Wm (.l enc_GCommand p1) rfl ?_
     obtain ⟨r118_11, hr118_11, hm⟩ := bnd hm
     refine Wz (.tup [(.s r118_11.1), (.i r118_11.2)]) (Ocf [] [] [] 0 (ok_r37_Write p0 p1 r118_11 hr118_11) (fun a w => Tryd.call19 a w) rfl trivial) <| Wm (.tup [(.s r118_11.1), (.i r118_11.2)]) rfl <| Wz (.s r118_11.1) (Oex rfl) <| Wz (.i r118_11.2) (Oex rfl) <| Wm (.s r118_11.1) rfl <| Wm (.i r118_11.2) rfl <| Nk 61440 0 ⟨tp 12 (.s r112_10.1::.i r112_10.2::.s r118_11.1::.i r118_11.2::tp 116 []), [.gone], 0⟩ <| Sx <| Wm (.s r112_10.1) rfl <| Wm (.s r118_11.1) rfl <| Wz (.b (decide (r112_10.1 = r118_11.1))) (Ocs (lit_tf (by simp only [toS_inj, ne_eq])) (op_bin rfl (a1 := .string (toS r112_10.1)) (a2 := .string (toS r118_11.1)) (by kernel_rfl) (by kernel_rfl) (fun _ => hb_seql))) ?_
     rcases tf_ (decide (r112_10.1 = r118_11.1)) with hq124_12 | hq124_12
     ·
      replace hm := cT hq124_12 hm
      refine Wz (.b true) (Oq hq124_12 rfl) <| Wm (.i r112_10.2) rfl <| Wm (.i r118_11.2) rfl <| Wz (.b (decide (r112_10.2 = r118_11.2))) (Obn rfl (fun _ => hb_eql (k := .i64))) <| Wz (.b (decide (r112_10.2 = r118_11.2))) (OpT rfl) ?_
      rcases tf_ (decide (r112_10.2 = r118_11.2)) with hq129_12 | hq129_12
      ·
       replace hm := cT hq129_12 hm
       refine Wz (.b true) (Oq hq129_12 rfl) ?_
       obtain ⟨r130_12, hr130_12, hm⟩ := bnd hm
       refine Wz (.b r130_12) (Ocf [] [] [] 0 (ok_w37_awake  r130_12 hr130_12) (fun a w => Tryd.call9 a w) rfl trivial) <| Wz (.b r130_12) (OpT rfl) <| Wm (.b r130_12) rfl <| Nn <| Rt ?_
       obtain rfl := Option.some.inj hm
       exact ret_i []
      ·
       replace hm := cF hq129_12 hm
       refine Wz (.b false) (Oq hq129_12 rfl) <| Wn <| Wz (.b false) (OpF rfl) <| Wm (.b false) rfl <| Nn <| Rt ?_
       obtain rfl := Option.some.inj hm
       exact ret_i []
     ·
      replace hm := cF hq124_12 hm
      refine Wz (.b false) (Oq hq124_12 rfl) <| Wn <| Wn <| Wn <| Wz (.b false) (OpF rfl) <| Wm (.b false) rfl <| Wn <| Wz (.b false) (OpF rfl) <| Wm (.b false) rfl <| Nn <| Rt ?_
      obtain rfl := Option.some.inj hm
      exact ret_i []
end Go.Proofs.YtaaooafcijdbmaaDoor.K

namespace Go.Proofs.YtaaooafcijdbmaaDoor
open Go.ChangeShapes Go.WideShapes Go.ChangeAt Go.RowKit
open Go.ChangeMaps (open_string shut_string)

section
variable {H : Type} {enc : TypeId × Value → H} {P : Program}
theorem trodAll_lt {w : World} {base : Nat} {spare : Nat → Bool} {held : Bool} : ∀ {ts : List TypeId} {vs : List Value} {ds : List (DataW H)} {ps : List MemPlace},
    DataW.TrodAll enc P w base spare held ts vs ds ps → ∀ x ∈ ps, x.block < w.heap.size
  | [], _, _, _, h => by obtain ⟨_, _, rfl⟩ := trodAll_nil h; simp
  | t :: ts, _, _, _, h => by
    obtain ⟨v, vs, d, ds, p, q, rfl, rfl, rfl, h0, h1⟩ := trodAll_cons h
    intro x hx
    rcases List.mem_append.1 hx with hx | hx
    · obtain ⟨m, hm⟩ := h0; exact DataW.trod_lt m _ _ _ hm x hx
    · exact trodAll_lt h1 x hx
theorem trodAll_below (hl : laidOutB P = true) {W W' : World} (hb : Below W.heap.size W W') : ∀ {ts : List TypeId} {vs : List Value} {ds : List (DataW H)} {ps : List MemPlace},
    (ts.all fun t => P.readableRec t && decide (t < P.types.size)) = true → DataW.TrodAll enc P W 0 (fun _ => true) true ts vs ds ps → DataW.TrodAll enc P W' 0 (fun b => decide (b < W.heap.size)) true ts vs ds ps
  | [], _, _, _, _, h => by obtain ⟨rfl, rfl, rfl⟩ := trodAll_nil h; exact trodAll_mk0
  | t :: ts, _, _, _, ht, h => by
    have hlt := trodAll_lt h
    obtain ⟨v, vs, d, ds, p, q, rfl, rfl, rfl, h0, h1⟩ := trodAll_cons h
    simp only [List.all_cons, Bool.and_eq_true, decide_eq_true_eq] at ht
    exact trodAll_cons_mk (Below.trod hl ht.1.1 ht.1.2 h0 hb fun x hx => hlt x (by simp [hx])) (trodAll_below hl hb (by simpa using ht.2) h1)

variable {W : World} {base : Nat} {spare : Nat → Bool} {held : Bool} {t : TypeId} {v : Value} {d : DataW H} {ps : List MemPlace}
theorem op_slice_ints {e : TypeId} {k : IntKind} (ht : P.underlying t = some (.slice e)) (he : P.underlying e = some (.int k)) (hc : P.cellsOf e = 1)
    {r : Reach} (hv : Value.okWide P W r base t v) (h : DataW.Trod enc P W 0 (fun _ => true) true t v d ps) :
    ∃ l : List Int, IsSl 1 (l.map (.int k)) v W ∧ ∀ n ∈ l, (Lit.int k n).wf = true := by
  obtain ⟨a, len, cap, rfl⟩ := okWide_slice ht hv
  obtain ⟨fuel, hf⟩ := h
  rcases open_ints ht he hc hf with ⟨hcs, _⟩ | ⟨x, l, c, zs, hcs, _, hl, hm, hz, _, hcell, hwz⟩
  · simp [Value.cells] at hcs
    obtain ⟨rfl, rfl, rfl⟩ := hcs
    exact ⟨[], ⟨none, 0, 0, rfl, by simp, Nat.le_refl _, by simp [maxLen], fun _ => ⟨rfl, rfl⟩, fun p hp => by cases hp⟩, by simp⟩
  · simp [Value.cells] at hcs
    obtain ⟨rfl, rfl, rfl⟩ := hcs
    simp only [if_true] at hz
    refine ⟨zs.take len, ⟨some x, len, cap, rfl, by simp; omega, hl, hm, (fun h => by cases h), fun p hp j u hj => ?_⟩, fun n hn => hwz n (List.mem_of_mem_take hn)⟩
    cases hp
    rw [List.getElem?_map, List.getElem?_take] at hj
    split at hj
    · rename_i hjl
      have hjz : j < zs.length := by omega
      rw [List.getElem?_eq_getElem hjz] at hj
      simp only [Option.map_some, Option.some.injEq] at hj
      rw [hcell j hjz, ← hj, List.getD_eq_getElem?_getD, List.getElem?_eq_getElem hjz]
      rfl
    · cases hj
theorem bytes_of_ints {l : List Int} (hw : ∀ n ∈ l, (Lit.int .u8 n).wf = true) : ∃ b : List UInt8, l.map (.int .u8) = bytesC b ∧ b.length = l.length := by
  refine ⟨l.map fun n => UInt8.ofNat n.toNat, ?_, by simp⟩
  unfold bytesC
  rw [List.map_map]
  refine List.map_congr_left fun n hn => ?_
  have := bounds_u8 (hw n hn)
  simp
  omega
theorem op_bytes {e : TypeId} (ht : P.underlying t = some (.slice e)) (he : P.underlying e = some (.int .u8)) (hc : P.cellsOf e = 1)
    {r : Reach} (hv : Value.okWide P W r base t v) (h : DataW.Trod enc P W 0 (fun _ => true) true t v d ps) : ∃ l : List UInt8, IsBytes l v W := by
  obtain ⟨l, h1, h2⟩ := op_slice_ints ht he hc hv h
  obtain ⟨b, h3, _⟩ := bytes_of_ints h2
  exact ⟨b, by rw [IsBytes, ← h3]; exact h1⟩
end
end Go.Proofs.YtaaooafcijdbmaaDoor

namespace Go.Proofs.YtaaooafcijdbmaaDoor.K
open Go.RowKit Go.Lib
def inK (k : IntKind) (n : Int) : Prop := (Lit.int k n).wf = true
def wfT {α : Type} (_ : α) : Prop := True
def wfS (l : List UInt8) : Prop := l.length ≤ maxLen
def wfL {α : Type} (q : α → Prop) (l : List α) : Prop := l.length ≤ maxLen ∧ ∀ x ∈ l, q x
theorem in_i64 {n : Int} (h : inK .i64 n) : -9223372036854775808 ≤ n ∧ n ≤ 9223372036854775807 := bounds_i64 h
theorem in_u64 {n : Int} (h : inK .u64 n) : 0 ≤ n ∧ n ≤ 18446744073709551615 := by
  simp [inK, Lit.wf, IntKind.min, IntKind.max, IntKind.signed, IntKind.bits] at h
  omega
section
variable {P : Program} {t e : TypeId} {ds : List D}
theorem td_int {k : IntKind} (hu : P.underlying t = some (.int k)) (h : TD P t ds) : ∃ n, ds = encI k n ∧ inK k n := TD.of_int hu h
theorem td_u8 (hu : P.underlying t = some (.int .u8)) (h : TD P t ds) : ∃ b : UInt8, ds = encU8 b ∧ wfT b := by
  obtain ⟨n, rfl, hw⟩ := TD.of_int hu h
  simp [Lit.wf, IntKind.min, IntKind.max, IntKind.signed, IntKind.bits] at hw
  refine ⟨UInt8.ofNat n.toNat, ?_, trivial⟩
  have : (((UInt8.ofNat n.toNat).toNat : Nat) : Int) = n := by
    have h2 : (UInt8.ofNat n.toNat).toNat = n.toNat % 256 := UInt8.toNat_ofNat
    rw [h2]; omega
  unfold encU8 byteD
  rw [this]
theorem td_str (hu : P.underlying t = some .string) (h : TD P t ds) : ∃ l : List UInt8, ds = encS l ∧ wfS l := by
  obtain ⟨s, rfl, hs⟩ := TD.of_str hu h
  exact ⟨s.data.toList, rfl, hs⟩
theorem td_slice {α : Type} {enc : α → List D} {q : α → Prop} (hu : P.underlying t = some (.slice e)) (he : ∀ {r}, TD P e r → ∃ x, r = enc x ∧ q x) (h : TD P t ds) : ∃ l : List α, ds = encL enc l ∧ wfL q l := by
  obtain ⟨l, rfl, h1, h2⟩ := TD.of_slice hu he h
  exact ⟨l, rfl, h1, h2⟩
end
theorem rep_1 {S : Nat → Prop} {w : World} {m : Mp} {x : D} {v : Value} {xs : List D} (h : RepD S w x v) (e : [x] = xs) {y : D} (hy : xs = [y]) : Rep m S w (.d y) v := by
  subst hy
  cases e
  exact rep_d h
end Go.Proofs.YtaaooafcijdbmaaDoor.K

namespace Go.Proofs.YtaaooafcijdbmaaDoor.K
open Go.RowKit Go.Lib
theorem w64 {n : Int} (h1 : -9223372036854775808 ≤ n) (h2 : n ≤ 9223372036854775807) : IntKind.i64.wrap n = n := by
  simp [IntKind.wrap, IntKind.signed, IntKind.bits]; omega
theorem wu64 (n : Int) : IntKind.u64.wrap n = n % 18446744073709551616 := K.wrap_u64 n
theorem maxLen_le {n : Nat} (h : n ≤ maxLen) : n ≤ 9223372036854775807 := by unfold maxLen at h; omega
section
variable {α : Type} {l r : List α} {i n : Nat} {x : α}
/-- One further. -/
theorem inc_ok (h2 : i ≤ 9223372036854775806) : IntKind.i64.wrap ((i : Int) + 1) = ((i + 1 : Nat) : Int) := by
  rw [w64 (by omega) (by omega)]; omega
theorem geti_nat : geti l (i : Int) = l[i]? := by simp [geti]
theorem geti_lt (h : i < l.length) : geti l (i : Int) = some l[i] := by rw [geti_nat, List.getElem?_eq_getElem h]
theorem geti_0 {y : α} : geti (y :: l) 0 = some y := rfl
theorem app_ok (h : l.length + r.length ≤ 1000000000) : app l r = some (l ++ r) := if_pos h
theorem cut_ok {a b : Nat} (h1 : a ≤ b) (h2 : b ≤ l.length) : cut l (a : Int) (b : Int) = some ((l.drop a).take (b - a)) := by unfold cut; rw [if_pos (by omega)]; rfl
theorem obind_some {β : Type} {f : α → Option β} : Option.bind (some x) f = f x := rfl
theorem bind_of {β : Type} {o : Option α} {f : α → Option β} (h : o = some x) : Option.bind o f = f x := by rw [h]; rfl
theorem chk_ok {p : Prop} [Decidable p] {o : Option α} (h : p) : chk p o = o := if_pos h
theorem d_lt {a b : Int} (h : a < b) : decide (a < b) = true := decide_eq_true h
theorem d_nlt {a b : Int} (h : ¬ a < b) : decide (a < b) = false := decide_eq_false h
theorem drop_cons (h : i < l.length) : l.drop i = l[i] :: l.drop (i + 1) := List.drop_eq_getElem_cons h
theorem take_snoc (h : i < l.length) : l.take (i + 1) = l.take i ++ [l[i]] := by rw [List.take_add_one, List.getElem?_eq_getElem h]; rfl
end
/-- A loop that counts up to n: by what it comes to from place i on, in state s. -/
theorem loopG {σ R : Type} {L : Nat → σ → Int → Option R} {n : Nat} {P : Nat → σ → Option R → Prop} (hend : ∀ fu s, P n s (L (fu + 1) s (n : Int)))
    (hstep : ∀ fu s i, i < n → (∀ s', P (i + 1) s' (L fu s' ((i + 1 : Nat) : Int))) → P i s (L (fu + 1) s (i : Int))) : ∀ fu i s, i ≤ n → n - i < fu → P i s (L fu s (i : Int))
  | 0, i, s, _, h => by omega
  | fu + 1, i, s, h1, h2 => by
    rcases Nat.lt_or_ge i n with h | h
    · exact hstep fu s i h fun s' => loopG hend hstep fu (i + 1) s' (by omega) (by omega)
    · obtain rfl : i = n := by omega
      exact hend fu s
/-- The same without a state. -/
theorem loop1 {R : Type} {L : Nat → Int → Option R} {n : Nat} {P : Nat → Option R → Prop} (hend : ∀ fu, P n (L (fu + 1) (n : Int)))
    (hstep : ∀ fu i, i < n → P (i + 1) (L fu ((i + 1 : Nat) : Int)) → P i (L (fu + 1) (i : Int))) (fu i : Nat) (h1 : i ≤ n) (h2 : n - i < fu) : P i (L fu (i : Int)) :=
  loopG (σ := Unit) (L := fun fu _ i => L fu i) (P := fun i _ o => P i o) (fun fu _ => hend fu) (fun fu _ i hi h => hstep fu i hi (h ())) fu i () h1 h2
/-- From the first place on. -/
theorem loop1_0 {R : Type} {L : Nat → Int → Option R} {n : Nat} {P : Nat → Option R → Prop} (hn : n < 1152921504606846976) (hend : ∀ fu, P n (L (fu + 1) (n : Int)))
    (hstep : ∀ fu i, i < n → P (i + 1) (L fu ((i + 1 : Nat) : Int)) → P i (L (fu + 1) (i : Int))) : P 0 (L 1152921504606846976 0) := loop1 hend hstep _ 0 (Nat.zero_le _) (by omega)
theorem loopG_0 {σ R : Type} {L : Nat → σ → Int → Option R} {n : Nat} {P : Nat → σ → Option R → Prop} (hn : n < 1152921504606846976) (hend : ∀ fu s, P n s (L (fu + 1) s (n : Int)))
    (hstep : ∀ fu s i, i < n → (∀ s', P (i + 1) s' (L fu s' ((i + 1 : Nat) : Int))) → P i s (L (fu + 1) s (i : Int))) (s : σ) : P 0 s (L 1152921504606846976 s 0) := loopG hend hstep _ 0 s (Nat.zero_le _) (by omega)
/-- A loop that lays f of each behind what there is. -/
theorem map_loop {α β R : Type} {L : Nat → List β → Int → Option R} {l : List α} {f : α → β} {e : List β → R} (hl : l.length ≤ 400000000)
    (hend : ∀ fu s, L (fu + 1) s (l.length : Int) = some (e s)) (hstep : ∀ fu s i, (h : i < l.length) → s.length ≤ 400000000 → L (fu + 1) s (i : Int) = L fu (s ++ [f l[i]]) ((i + 1 : Nat) : Int)) : L 1152921504606846976 [] 0 = some (e (l.map f)) := by
  have := loopG_0 (L := L) (n := l.length) (P := fun i s o => s.length = i → o = some (e (s ++ (l.drop i).map f))) (by omega) (fun fu s hs => by rw [hend]; simp) (fun fu s i hi ih hs => by
    rw [hstep fu s i hi (by omega), ih (s ++ [f l[i]]) (by simp [hs]), drop_cons hi, List.map_cons, List.append_assoc]; rfl) [] rfl
  simpa using this
end Go.Proofs.YtaaooafcijdbmaaDoor.K

namespace Go.Proofs.YtaaooafcijdbmaaDoor

def zs (u : Nat) : List Nat := if u < 128 then [u] else u % 128 :: zs (u / 128)
termination_by u
decreasing_by omega
theorem zs_lt {u : Nat} (h : u < 128) : zs u = [u] := by rw [zs, if_pos h]
theorem zs_ge {u : Nat} (h : ¬ u < 128) : zs u = u % 128 :: zs (u / 128) := by rw [zs, if_neg h]
def zn (u : Nat) : Nat := (zs u).length
theorem zn_lt {u : Nat} (h : u < 128) : zn u = 1 := by rw [zn, zs_lt h]; rfl
theorem zn_ge {u : Nat} (h : ¬ u < 128) : zn u = zn (u / 128) + 1 := by rw [zn, zs_ge h]; rfl
theorem zn_pos (u : Nat) : 1 ≤ zn u := by
  by_cases h : u < 128
  · rw [zn_lt h]; exact Nat.le_refl _
  · rw [zn_ge h]; omega
theorem zs_get : ∀ (u i : Nat), i < zn u → (zs u)[i]? = some (u / 128 ^ i % 128) := by
  intro u
  induction u using Nat.strongRecOn with
  | ind u ih =>
    intro i hi
    by_cases h : u < 128
    · rw [zn_lt h] at hi
      have : i = 0 := by omega
      subst this
      rw [zs_lt h]
      simp [Nat.mod_eq_of_lt h]
    · rw [zs_ge h]
      cases i with
      | zero => simp
      | succ i =>
        rw [zn_ge h] at hi
        rw [List.getElem?_cons_succ, ih (u / 128) (by omega) i (by omega), Nat.div_div_eq_div_mul, Nat.pow_succ, Nat.mul_comm 128]
theorem zn_le (k : Nat) : ∀ u, u < 128 ^ (k + 1) → zn u ≤ k + 1 := by
  induction k with
  | zero => intro u h; rw [zn_lt (by simpa using h)]; exact Nat.le_refl _
  | succ k ih =>
    intro u h
    by_cases hu : u < 128
    · rw [zn_lt hu]; omega
    · rw [zn_ge hu]
      have := ih (u / 128) (by rw [Nat.pow_succ] at h; omega)
      omega
theorem zn_le10 (u : Nat) (h : u < 18446744073709551616) : zn u ≤ 10 := zn_le 9 u (Nat.lt_of_lt_of_le h (by decide))
/-- The program's way to count: by the bits that a number needs. -/
theorem zn_bits (u : Nat) (h : u < 18446744073709551616) : max 1 ((Lib.bitLen u + 6) / 7) = zn u := by
  induction u using Nat.strongRecOn with
  | ind u ih =>
    by_cases hu : u < 128
    · rw [zn_lt hu]
      have := Lib.bitLen_le u 7 (by omega) (by simpa using hu)
      omega
    · rw [zn_ge hu, ← ih (u / 128) (by omega) (by omega)]
      have := Lib.bitLen_shift 7 u (by simpa using (by omega : 128 ≤ u)) h
      have e : (2 : Nat) ^ 7 = 128 := rfl
      rw [e] at this
      have h0 : 1 ≤ Lib.bitLen (u / 128) := by
        have := Lib.bitLen_half (u / 128) (by omega) (by omega)
        omega
      omega

/-- The byte at a place: the last one says that there is no more. -/
def zbyte (u n i : Nat) : UInt8 := if i + 1 = n then UInt8.ofNat (u / 128 ^ i % 128) else UInt8.ofNat (u / 128 ^ i % 128 + 128)
def zb (u : Nat) : List UInt8 := (List.range (zn u)).map (zbyte u (zn u))
theorem zb_length (u : Nat) : (zb u).length = zn u := by simp [zb]

/-- Folding. -/
def zfold (n : Int) : Nat := if n < 0 then (2 * (-(n + 1)) + 1).toNat else (2 * n).toNat
theorem zfold_lt (n : Int) (h0 : -9223372036854775808 ≤ n) (h1 : n ≤ 9223372036854775807) : zfold n < 18446744073709551616 := by
  unfold zfold; split <;> omega
end Go.Proofs.YtaaooafcijdbmaaDoor
namespace Go.Proofs.YtaaooafcijdbmaaDoor
end Go.Proofs.YtaaooafcijdbmaaDoor
namespace Go.Proofs.YtaaooafcijdbmaaDoor.K
open Go.RowKit Go.Lib
/-! ### doubles -/
theorem ford_self (n : Nat) : FloatKind.f64.format.order n n = if 9218868437227405312 < n % 9223372036854775808 then none else some .eq := by
  show (Ieee.double.read n).order (Ieee.double.read n) = _
  have e1 : Ieee.double.signWeight = 9223372036854775808 := by decide
  have e2 : Ieee.double.infRung = 9218868437227405312 := by decide
  have e3 : Ieee.double.binade = 4503599627370496 := by decide
  have hc : ∀ a : Int, compare a a = .eq := fun a => by simp [compare, compareOfLessAndEq]
  unfold Ieee.Format.read
  simp only [e1, e2, e3]
  by_cases h1 : n % 9223372036854775808 < 4503599627370496
  · rw [if_pos h1, if_neg (by omega)]; simp only [Ieee.Datum.order]; rw [hc]
  · rw [if_neg h1]
    by_cases h2 : n % 9223372036854775808 < 9218868437227405312
    · rw [if_pos h2, if_neg (by omega)]; simp only [Ieee.Datum.order]; rw [hc]
    · rw [if_neg h2]
      by_cases h3 : n % 9223372036854775808 = 9218868437227405312
      · rw [if_pos h3, if_neg (by omega)]
        simp only [Ieee.Datum.order]
        simp [compare, compareOfLessAndEq]
      · rw [if_neg h3, if_pos (by omega)]; rfl
theorem fne_self (n : Nat) : fne n n = decide (9218868437227405312 < n % 9223372036854775808) := by
  unfold fne
  rw [ford_self]
  by_cases h : 9218868437227405312 < n % 9223372036854775808
  · rw [if_pos h, decide_eq_true h]; rfl
  · rw [if_neg h, decide_eq_false h]; rfl
def nan (n : Int) : Bool := decide ((n / 4503599627370496) % 2048 = 2047) && decide (n % 4503599627370496 ≠ 0)
def clean (n : Int) : Int := if nan n = true then 9221120237041090560 else n
def u64B (n : Int) : Prop := 0 ≤ n ∧ n ≤ 18446744073709551615
theorem clean_ok {n : Int} (h : u64B n) : m_real_Clean n = some (clean n) := by
  unfold m_real_Clean m_real_of clean
  obtain ⟨h1, h2⟩ := h
  rw [obind_some, fne_self]
  have : decide (9218868437227405312 < n.toNat % 9223372036854775808) = nan n := by
    unfold nan
    rw [Bool.eq_iff_iff]
    simp only [Bool.and_eq_true, decide_eq_true_eq]
    omega
  rw [this]
  cases nan n <;> rfl
theorem exp3 {n : Int} (h : u64B n) : m_r03_Exp n = some ((n / 4503599627370496) % 2048) := by
  unfold m_r03_Exp
  obtain ⟨h1, h2⟩ := h
  rw [Int.tdiv_eq_ediv_of_nonneg h1, wu64, Int.emod_eq_of_lt (by omega) (by omega), Int.tmod_eq_emod_of_nonneg (by omega), w64 (by omega) (by omega)]
theorem frac3 {n : Int} (h : u64B n) : m_r03_Frac n = some (n % 4503599627370496) := by
  unfold m_r03_Frac
  rw [Int.tmod_eq_emod_of_nonneg h.1]
theorem rclean_ok {n : Int} (h : u64B n) : m_r03_Clean n = some (clean n) := by
  have hk : ∃ k : UInt8, m_r03_Kind n = some k ∧ decide (((k.toNat : Nat) : Int) = 5) = nan n := by
    have hj : ∃ k : UInt8, m_r03_Kind_j1 n = some k ∧ ((k.toNat : Nat) : Int) ≠ 5 := by
      unfold m_r03_Kind_j1
      rw [exp3 h, frac3 h]
      simp only [obind_some]
      cases decide ((n / 4503599627370496) % 2048 = 2047)
      · cases decide ((n / 4503599627370496) % 2048 ≠ 0)
        · cases decide (n % 4503599627370496 ≠ 0)
          · exact ⟨_, rfl, by decide⟩
          · exact ⟨_, rfl, by decide⟩
        · exact ⟨_, rfl, by decide⟩
      · exact ⟨_, rfl, by decide⟩
    obtain ⟨k, hk, hn⟩ := hj
    unfold m_r03_Kind nan
    rw [exp3 h, frac3 h]
    simp only [obind_some]
    rw [hk]
    cases decide ((n / 4503599627370496) % 2048 = 2047)
    · exact ⟨k, rfl, by simpa using hn⟩
    · cases decide (n % 4503599627370496 ≠ 0)
      · exact ⟨k, rfl, by simpa using hn⟩
      · exact ⟨_, rfl, by decide⟩
  obtain ⟨k, e, q⟩ := hk
  unfold m_r03_Clean clean
  rw [e, obind_some, q]
  cases nan n <;> rfl
/-! ### may it be? -/
theorem natbeq (a b : Nat) : Nat.beq a b = decide (a = b) := by
  cases h : Nat.beq a b with
  | true => rw [decide_eq_true (Nat.eq_of_beq_eq_true h)]
  | false => rw [decide_eq_false (Nat.ne_of_beq_eq_false h)]
def chkV (v : GValue) : Int :=
  if v.Kind.toNat = 1 then (if v.N < -4611686018427387904 ∨ 4611686018427387904 < v.N then 8 else if v.Bits = 0 ∧ v.Text = [] then 0 else 2)
  else if v.Kind.toNat = 2 then (if v.N < 0 ∨ 1 < v.N then 8 else if v.Bits = 0 ∧ v.Text = [] then 0 else 2)
  else if v.Kind.toNat = 3 then (if clean v.Bits ≠ v.Bits then 4 else if v.N = 0 ∧ v.Text = [] then 0 else 2)
  else if v.Kind.toNat = 4 then (if 24 < v.Text.length then 5 else if v.N = 0 ∧ v.Bits = 0 then 0 else 2)
  else 11
theorem check_ok {v : GValue} (hb : u64B v.Bits) : m_value_Check v = some (chkV v) := by
  obtain ⟨k, n, b, t⟩ := v
  simp only at hb
  unfold m_value_Check m_value_core chkV
  simp only
  by_cases h1 : k.toNat = 1
  · rw [decide_eq_true (by omega), if_pos h1, cond_true, obind_some]
    unfold m_value_Check_j9 m_value_Check_j11 m_value_number_whole
    rw [show tasI .i64 _ (Value.iface _ (.int .i64 n)) = some (n, true) from rfl, obind_some]
    simp only [isT, inI, Nat.beq_refl, cond_true, decide_true, obind_some]
    by_cases h2 : n < -4611686018427387904
    · simp [h2]
    · by_cases h3 : 4611686018427387904 < n
      · simp [h2, h3]
      · have : ((1 : UInt8).toNat : Int) = ((k.toNat : Nat) : Int) := by rw [h1]; rfl
        by_cases h4 : b = 0
        · by_cases h5 : t = []
          · simp [h2, h3, h4, h5, h1]
          · simp [h2, h3, h4, h5, h1, Ne.symm h5]
        · simp [h2, h3, h4, h1, Ne.symm h4]
  · rw [decide_eq_false (by omega), if_neg h1, cond_false]
    by_cases h2 : k.toNat = 2
    · rw [decide_eq_true (by omega), if_pos h2, cond_true, obind_some]
      unfold m_value_Check_j9 m_value_Check_j11 m_value_flag_whole
      rw [show tasI .i64 _ (Value.iface _ (.int .i64 n)) = some (0, false) from rfl, obind_some, cond_false, show tasI .i64 _ (Value.iface _ (.int .i64 n)) = some (n, true) from rfl, obind_some]
      simp only [isT, natbeq, inI, cond_true, decide_true, obind_some]
      by_cases h3 : n < 0
      · rw [decide_eq_true (by omega), cond_true, decide_eq_true (by omega), cond_true, if_pos (.inl h3)]
      · by_cases h4 : 1 < n
        · rw [decide_eq_true (by omega), cond_true, decide_eq_true (by omega), cond_true, if_pos (.inr h4)]
        · rw [if_neg (by omega)]
          have hn : n = 0 ∨ n = 1 := by omega
          by_cases h5 : b = 0
          · by_cases h6 : t = []
            · rcases hn with rfl | rfl <;> simp [h5, h6, h2]
            · rcases hn with rfl | rfl <;> simp [h5, h6, h2, Ne.symm h6]
          · rcases hn with rfl | rfl <;> simp [h5, h2, Ne.symm h5]
    · rw [decide_eq_false (by omega), if_neg h2, cond_false]
      by_cases h3 : k.toNat = 3
      · rw [decide_eq_true (by omega), if_pos h3, cond_true, obind_some]
        unfold m_value_Check_j9 m_value_Check_j11 m_value_double_whole
        rw [show tasI .i64 _ (Value.iface _ (.int .u64 b)) = some (0, false) from rfl, obind_some, cond_false, show tasI .i64 _ (Value.iface _ (.int .u64 b)) = some (0, false) from rfl, obind_some, cond_false, show tasI .u64 _ (Value.iface _ (.int .u64 b)) = some (b, true) from rfl, obind_some, cond_true, clean_ok hb, obind_some]
        simp only [isT, natbeq, inI, decide_true, obind_some]
        by_cases h4 : clean b = b
        · rw [decide_eq_false (by simp [h4]), cond_false, if_neg (by simp [h4])]
          by_cases h5 : n = 0
          · by_cases h6 : t = []
            · simp [h5, h6, h3]
            · simp [h5, h6, h3, Ne.symm h6]
          · simp [h5, h3, Ne.symm h5]
        · rw [decide_eq_true h4, cond_true, if_pos h4]
      · rw [decide_eq_false (by omega), if_neg h3, cond_false]
        by_cases h4 : k.toNat = 4
        · rw [decide_eq_true (by omega), if_pos h4, cond_true, obind_some]
          unfold m_value_Check_j9 m_value_Check_j11 m_value_words_whole
          rw [show tasI .i64 _ (Value.iface _ (.string (toS t))) = some (0, false) from rfl, obind_some, cond_false, show tasI .i64 _ (Value.iface _ (.string (toS t))) = some (0, false) from rfl, obind_some, cond_false, show tasI .u64 _ (Value.iface _ (.string (toS t))) = some (0, false) from rfl, obind_some, cond_false, show tasS _ (Value.iface _ (.string (toS t))) = some (t, true) from rfl, obind_some, cond_true]
          simp only [isT, natbeq]
          rw [show inS (Value.iface _ (.string (toS t))) = some t from rfl, obind_some, obind_some, obind_some]
          by_cases h5 : 24 < t.length
          · rw [d_lt (by omega), cond_true, if_pos h5]
          · rw [d_nlt (by omega), cond_false, if_neg h5]
            by_cases h6 : n = 0
            · by_cases h7 : b = 0
              · simp [h6, h7, h4]
              · simp [h6, h7, h4, Ne.symm h7]
            · simp [h6, h4, Ne.symm h6]
        · rw [decide_eq_false (by omega), if_neg h4, cond_false]; rfl
theorem rcheck_ok {v : GValue} (hb : u64B v.Bits) : m_r04_Check v = some (chkV v) := by
  obtain ⟨k, n, b, t⟩ := v
  simp only at hb
  unfold m_r04_Check m_r04_Check_j2 m_r04_Check_j3 m_r04_Check_j4 m_r04_Check_j5 m_r04_Check_j7 m_r04_Check_j9 m_r04_Check_j11 m_r04_Check_j12 m_r04_Check_j13 chkV
  simp only [rclean_ok hb, obind_some]
  have hk : k.toNat = 1 ∨ k.toNat = 2 ∨ k.toNat = 3 ∨ k.toNat = 4 ∨ (k.toNat < 1 ∨ 4 < k.toNat) := by omega
  rcases hk with h | h | h | h | h
  · simp only [h]
    by_cases h2 : n < -4611686018427387904
    · simp [h2]
    · by_cases h3 : 4611686018427387904 < n
      · simp [h2, h3]
      · by_cases h4 : b = 0 <;> by_cases h5 : t = [] <;> simp [h2, h3, h4, h5]
  · simp only [h]
    by_cases h2 : n < 0
    · simp [h2]
    · by_cases h3 : 1 < n
      · simp [h2, h3]
      · by_cases h4 : b = 0 <;> by_cases h5 : t = [] <;> simp [h2, h3, h4, h5]
  · simp only [h]
    by_cases h2 : clean b = b
    · by_cases h4 : n = 0 <;> by_cases h5 : t = [] <;> simp [h2, h4, h5]
    · simp [h2]
  · simp only [h]
    by_cases h2 : 24 < t.length
    · have : (24 : Int) < (t.length : Int) := by omega
      simp [h2, this]
    · have : ¬ (24 : Int) < (t.length : Int) := by omega
      by_cases h4 : n = 0 <;> by_cases h5 : b = 0 <;> simp [h2, this, h4, h5]
  · rw [if_neg (by omega), if_neg (by omega), if_neg (by omega), if_neg (by omega)]
    rcases h with h | h
    · rw [d_lt (by omega), cond_true]
    · rw [d_nlt (by omega), cond_false, d_lt (by omega), cond_true]
end Go.Proofs.YtaaooafcijdbmaaDoor.K
namespace Go.Proofs.YtaaooafcijdbmaaDoor.K
open Go.RowKit Go.Lib
theorem tbl_bind {y : Int} {l : List UInt8} {f : UInt8 → Option Int} {r : Option Int} (hl : ∀ k : Fin 256, (l[k.val]?).map (·.toNat) = some (Lib.bitLen k.val)) (h1 : 0 ≤ y) (h2 : y < 256) (hf : ∀ x : UInt8, x.toNat = Lib.bitLen y.toNat → f x = r) : Option.bind (geti l (((toU8 y).toNat : Nat) : Int)) f = r := by
  have e : (toU8 y).toNat = y.toNat := by
    unfold toU8
    rw [UInt8.toNat_ofNat']
    omega
  rw [e, geti_nat]
  have := hl ⟨y.toNat, by omega⟩
  dsimp only at this
  cases hx : l[y.toNat]? with
  | none => rw [hx] at this; cases this
  | some x => rw [hx] at this; exact hf x (by simpa using this)
theorem l64_j2 {y0 y2 : Int} (h1 : 0 ≤ y0) (h2 : y0 < 256) (h3 : 0 ≤ y2) (h4 : y2 ≤ 1000) : m_math_bits_Len64_j2 y0 y2 = some (y2 + ((Lib.bitLen y0.toNat : Nat) : Int)) := by
  unfold m_math_bits_Len64_j2
  refine tbl_bind ?_ h1 h2 fun x q => ?_
  · decide +kernel
  · have := Lib.bitLen_le8 ⟨y0.toNat, by omega⟩
    dsimp only at this
    rw [q, w64 (by omega) (by omega)]
theorem l64_j1 {y0 y2 : Int} (h1 : 0 ≤ y0) (h2 : y0 < 65536) (h3 : 0 ≤ y2) (h4 : y2 ≤ 900) : m_math_bits_Len64_j1 y0 y2 = some (y2 + ((Lib.bitLen y0.toNat : Nat) : Int)) := by
  unfold m_math_bits_Len64_j1
  by_cases h : 256 ≤ y0
  · rw [decide_eq_true h, cond_true, Int.fdiv_eq_ediv_of_nonneg _ (by decide), show (2 : Int) ^ 8 = 256 from rfl, w64 (by omega) (by omega), l64_j2 (by omega) (by omega) (by omega) (by omega)]
    have := Lib.bitLen_shift8 y0.toNat (by omega) (by omega)
    rw [show (y0 / 256).toNat = y0.toNat / 256 by omega, this]
    congr 1; omega
  · rw [decide_eq_false h, cond_false, l64_j2 h1 (by omega) h3 (by omega)]
theorem l64_j0 {y0 y2 : Int} (h1 : 0 ≤ y0) (h2 : y0 < 4294967296) (h3 : 0 ≤ y2) (h4 : y2 ≤ 800) : m_math_bits_Len64_j0 y0 y2 = some (y2 + ((Lib.bitLen y0.toNat : Nat) : Int)) := by
  unfold m_math_bits_Len64_j0
  by_cases h : 65536 ≤ y0
  · rw [decide_eq_true h, cond_true, Int.fdiv_eq_ediv_of_nonneg _ (by decide), show (2 : Int) ^ 16 = 65536 from rfl, w64 (by omega) (by omega), l64_j1 (by omega) (by omega) (by omega) (by omega)]
    have := Lib.bitLen_shift16 y0.toNat (by omega) (by omega)
    rw [show (y0 / 65536).toNat = y0.toNat / 65536 by omega, this]
    congr 1; omega
  · rw [decide_eq_false h, cond_false, l64_j1 h1 (by omega) h3 (by omega)]
theorem len64_ok {u : Nat} (h : u < 18446744073709551616) : m_math_bits_Len64 (u : Int) = some ((Lib.bitLen u : Nat) : Int) := by
  unfold m_math_bits_Len64
  by_cases hh : 4294967296 ≤ u
  · rw [decide_eq_true (by omega), cond_true, Int.fdiv_eq_ediv_of_nonneg _ (by decide), show (2 : Int) ^ 32 = 4294967296 from rfl, l64_j0 (by omega) (by omega) (by omega) (by omega)]
    have := Lib.bitLen_shift32 u (by omega) (by omega)
    rw [show ((u : Int) / 4294967296).toNat = u / 4294967296 by omega, this]
    congr 1
  · rw [decide_eq_false (by omega), cond_false, l64_j0 (by omega) (by omega) (by omega) (by omega)]
    congr 1; rw [Int.toNat_natCast]; omega
theorem bitLen_64 {u : Nat} (h : u < 18446744073709551616) : Lib.bitLen u ≤ 64 := Lib.bitLen_le u 64 (by omega) (by simpa using h)
theorem size_ok {u : Nat} (h : u < 18446744073709551616) : m_zig_Size (u : Int) = some ((zn u : Nat) : Int) := by
  unfold m_zig_Size
  have hb := bitLen_64 h
  rw [len64_ok h, obind_some, w64 (n := ((Lib.bitLen u : Nat) : Int) + 7) (by omega) (by omega), w64 (n := ((Lib.bitLen u : Nat) : Int) + 7 - 1) (by omega) (by omega), Int.tdiv_eq_ediv_of_nonneg (by omega), w64 (by omega) (by omega), ← zn_bits u h]
  congr 1; omega
theorem or128 (x : UInt8) : toU8 (((BitVec.ofInt 8 ((x.toNat : Nat) : Int) ||| BitVec.ofInt 8 128).toNat : Nat) : Int) = UInt8.ofNat (x.toNat % 128 + 128) := by
  have : ∀ k : Fin 256, toU8 (((BitVec.ofInt 8 ((k.val : Nat) : Int) ||| BitVec.ofInt 8 128).toNat : Nat) : Int) = UInt8.ofNat (k.val % 128 + 128) := by decide +kernel
  exact this ⟨x.toNat, x.toNat_lt⟩
theorem not128 (x : UInt8) : toU8 (((BitVec.ofInt 8 ((x.toNat : Nat) : Int) &&& ~~~ BitVec.ofInt 8 128).toNat : Nat) : Int) = UInt8.ofNat (x.toNat % 128) := by
  have : ∀ k : Fin 256, toU8 (((BitVec.ofInt 8 ((k.val : Nat) : Int) &&& ~~~ BitVec.ofInt 8 128).toNat : Nat) : Int) = UInt8.ofNat (k.val % 128) := by decide +kernel
  exact this ⟨x.toNat, x.toNat_lt⟩
theorem toU8_nat (n : Nat) : (toU8 (n : Int)).toNat = n % 256 := by unfold toU8; rw [UInt8.toNat_ofNat']; omega
theorem sh7 (u i : Nat) : Int.fdiv (u : Int) (2 ^ (Int.toNat (((7 * i : Nat)) : Int))) = ((u / 128 ^ i : Nat) : Int) := by
  rw [Int.toNat_natCast, Int.fdiv_eq_ediv_of_nonneg _ (Int.pow_nonneg (by decide))]
  rw [show (128 : Nat) ^ i = 2 ^ (7 * i) by rw [Nat.pow_mul]]
  rw [Int.natCast_ediv]; congr 1
theorem put_ok {b : List UInt8} {u : Nat} (hb : b.length ≤ 100000000) (h : u < 18446744073709551616) : m_zig_Put b (u : Int) = some (b ++ zb u) := by
  have hn := zn_le10 u h
  have hp := zn_pos u
  unfold m_zig_Put
  rw [size_ok h, obind_some, w64 (by omega) (by omega), show mkc 0 (((List.length b : Nat) : Int) + ((zn u : Nat) : Int)) (0 : UInt8) = some [] by
    unfold mkc; rw [if_pos ⟨by omega, by omega, by omega⟩]; rfl]
  rw [obind_some, app_ok (by simp; omega), obind_some, List.nil_append]
  have := loopG_0 (L := fun fu s i => m_zig_Put_l3 (u : Int) ((zn u : Nat) : Int) fu s i) (n := zn u) (P := fun i s o => s.length ≤ b.length + i → o = some (s ++ ((List.range (zn u)).drop i).map (zbyte u (zn u)))) (by omega)
    (fun fu s hs => by
      unfold m_zig_Put_l3
      rw [d_nlt (by omega), cond_false, List.drop_of_length_le (by simp)]; simp)
    (fun fu s i hi ih hs => by
      unfold m_zig_Put_l3 m_zig_Put_j5
      have hr : (List.range (zn u)).drop i = i :: (List.range (zn u)).drop (i + 1) := by
        rw [List.drop_eq_getElem_cons (by simpa using hi), List.getElem_range]
      rw [d_lt (by omega), cond_true, w64 (n := 7 * (i : Int)) (by omega) (by omega), show 7 * (i : Int) = ((7 * i : Nat) : Int) by omega, chk_ok (by omega), sh7, or128, obind_some, not128, w64 (n := ((zn u : Nat) : Int) - 1) (by omega) (by omega), inc_ok (by omega), app_ok (by simp; omega), obind_some, app_ok (by simp; omega), obind_some]
      dsimp only
      rw [ih _ (by simp; omega), ih _ (by simp; omega), hr, List.map_cons]
      have e1 : (toU8 ((u / 128 ^ i : Nat) : Int)).toNat % 128 = u / 128 ^ i % 128 := by rw [toU8_nat]; omega
      rw [e1]
      unfold zbyte
      by_cases hl : i + 1 = zn u
      · rw [decide_eq_true (by omega), cond_true, if_pos hl, List.append_assoc]
        have : (UInt8.ofNat (u / 128 ^ i % 128 + 128)).toNat % 128 = u / 128 ^ i % 128 := by rw [UInt8.toNat_ofNat']; omega
        rw [this]; rfl
      · rw [decide_eq_false (by omega), cond_false, if_neg hl, List.append_assoc]; rfl) b (by omega)
  rw [this]; rfl
/-! ### the document's -/
theorem sevens_l (k : Nat) : ∀ (fu v : Nat) (s : List Int), v < 18446744073709551616 → v < 128 ^ k → k < fu → s.length + k ≤ 1000 → m_r02_sevens_l1 fu (v : Int) s = some (s ++ if v = 0 then [] else (zs v).map fun (n : Nat) => (n : Int)) := by
  induction k with
  | zero =>
    intro fu v s h1 h2 h4 h3
    obtain ⟨fu, rfl⟩ : ∃ f, fu = f + 1 := ⟨fu - 1, by omega⟩
    obtain rfl : v = 0 := by simp at h2; exact h2
    unfold m_r02_sevens_l1
    rw [d_nlt (by omega), cond_false, if_pos rfl, List.append_nil]
  | succ k ih =>
    intro fu v s h1 h2 h4 h3
    obtain ⟨fu, rfl⟩ : ∃ f, fu = f + 1 := ⟨fu - 1, by omega⟩
    unfold m_r02_sevens_l1
    by_cases h0 : v = 0
    · subst h0; rw [d_nlt (by omega), cond_false, if_pos rfl, List.append_nil]
    · rw [d_lt (by omega), cond_true, Int.tmod_eq_emod_of_nonneg (by omega), w64 (by omega) (by omega), app_ok (by simp; omega), obind_some, Int.tdiv_eq_ediv_of_nonneg (by omega), wu64, Int.emod_eq_of_lt (by omega) (by omega), show (v : Int) / 128 = ((v / 128 : Nat) : Int) by omega, show (v : Int) % 128 = ((v % 128 : Nat) : Int) by omega]
      rw [ih fu (v / 128) _ (by omega) (by rw [Nat.pow_succ] at h2; exact Nat.div_lt_of_lt_mul (by rw [Nat.mul_comm]; exact h2)) (by omega) (by simp; omega), if_neg h0, List.append_assoc]
      congr 2
      by_cases hv : v < 128
      · rw [if_pos (by omega), zs_lt hv, Nat.mod_eq_of_lt hv]; rfl
      · rw [if_neg (by omega), zs_ge hv]; rfl
theorem sevens_ok {u : Nat} (h : u < 18446744073709551616) : m_r02_sevens (u : Int) = some ((zs u).map fun (n : Nat) => (n : Int)) := by
  unfold m_r02_sevens
  rw [Int.tmod_eq_emod_of_nonneg (by omega), w64 (by omega) (by omega), Int.tdiv_eq_ediv_of_nonneg (by omega), wu64, Int.emod_eq_of_lt (by omega) (by omega), show (u : Int) / 128 = ((u / 128 : Nat) : Int) by omega, show (u : Int) % 128 = ((u % 128 : Nat) : Int) by omega]
  rw [sevens_l 10 _ _ _ (by omega) (by omega) (by omega) (by simp)]
  congr 1
  by_cases hv : u < 128
  · rw [if_pos (by omega), zs_lt hv, Nat.mod_eq_of_lt hv]; rfl
  · rw [if_neg (by omega), zs_ge hv]; rfl
theorem rput_ok {b : List UInt8} {u : Nat} (hb : b.length ≤ 100000000) (h : u < 18446744073709551616) : m_r02_Put b (u : Int) = some (b ++ zb u) := by
  have hn := zn_le10 u h
  have hp := zn_pos u
  unfold m_r02_Put
  rw [app_ok (by simp; omega), obind_some, sevens_ok h, obind_some, List.nil_append]
  have hlen : ((zs u).map fun (n : Nat) => (n : Int)).length = zn u := by rw [List.length_map]; rfl
  have hget : ∀ i, (hi : i < ((zs u).map fun (n : Nat) => (n : Int)).length) → ((zs u).map fun (n : Nat) => (n : Int))[i] = ((u / 128 ^ i % 128 : Nat) : Int) := fun i hi => by
    rw [hlen] at hi
    have := zs_get u i hi
    rw [List.getElem_map]
    have h2 := List.getElem_of_getElem? this
    obtain ⟨_, h2⟩ := h2
    rw [h2]
  generalize ((zs u).map fun (n : Nat) => (n : Int)) = l at hlen hget
  have := loopG_0 (L := fun fu s i => m_r02_Put_l2 l fu s i) (n := zn u) (P := fun i s o => s.length ≤ b.length + i → o = some (s ++ ((List.range (zn u)).drop i).map (zbyte u (zn u)))) (by omega)
    (fun fu s hs => by
      unfold m_r02_Put_l2
      rw [d_nlt (by omega), cond_false, List.drop_of_length_le (by simp)]; simp)
    (fun fu s i hi ih hs => by
      unfold m_r02_Put_l2
      have hr : (List.range (zn u)).drop i = i :: (List.range (zn u)).drop (i + 1) := by
        rw [List.drop_eq_getElem_cons (by simpa using hi), List.getElem_range]
      have hil : i < l.length := by omega
      rw [d_lt (by omega), cond_true, hlen, w64 (n := ((zn u : Nat) : Int) - 1) (by omega) (by omega), geti_lt hil, obind_some, obind_some, hget i hil, w64 (n := 128 + ((u / 128 ^ i % 128 : Nat) : Int)) (by omega) (by omega), inc_ok (by omega), app_ok (by simp; omega), obind_some, app_ok (by simp; omega), obind_some, ih _ (by simp; omega), ih _ (by simp; omega), hr, List.map_cons]
      unfold zbyte
      have t1 : toU8 ((u / 128 ^ i % 128 : Nat) : Int) = UInt8.ofNat (u / 128 ^ i % 128) := by
        apply UInt8.toNat_inj.1; rw [toU8_nat, UInt8.toNat_ofNat']
      have t2 : toU8 (128 + ((u / 128 ^ i % 128 : Nat) : Int)) = UInt8.ofNat (u / 128 ^ i % 128 + 128) := by
        rw [show (128 : Int) + ((u / 128 ^ i % 128 : Nat) : Int) = ((u / 128 ^ i % 128 + 128 : Nat) : Int) by omega]
        apply UInt8.toNat_inj.1; rw [toU8_nat, UInt8.toNat_ofNat']
      rw [t1, t2]
      by_cases hl : i + 1 = zn u
      · rw [d_nlt (by omega), cond_false, if_pos hl, List.append_assoc]; rfl
      · rw [d_lt (by omega), cond_true, if_neg hl, List.append_assoc]; rfl) b (by omega)
  rw [this]; rfl
/-! ### folding -/
theorem fold_ok {n : Int} (h0 : -9223372036854775808 ≤ n) (h1 : n ≤ 9223372036854775807) : m_zig_Fold n = some ((zfold n : Nat) : Int) := by
  unfold m_zig_Fold zfold
  rw [obind_some]
  have hp : (2 : Int) ^ 63 = 9223372036854775808 := rfl
  have hp1 : (2 : Int) ^ 1 = 2 := rfl
  rw [Int.fdiv_eq_ediv_of_nonneg _ (by decide), hp, hp1]
  by_cases h : n < 0
  · rw [if_pos h, show n / 9223372036854775808 = -1 by omega, show IntKind.u64.wrap (-1) = 18446744073709551615 by decide, show BitVec.ofInt 64 18446744073709551615 = BitVec.allOnes 64 by decide, BitVec.xor_allOnes, wu64, wu64]
    congr 1
    rw [BitVec.toNat_not, BitVec.toNat_ofInt, wu64]
    simp only [Nat.reducePow]
    omega
  · rw [if_neg h, show n / 9223372036854775808 = 0 by omega, show IntKind.u64.wrap 0 = 0 by decide, show BitVec.ofInt 64 0 = 0#64 by decide, BitVec.xor_zero, wu64, wu64]
    congr 1
    rw [BitVec.toNat_ofInt, wu64]
    omega
theorem rfold_ok {n : Int} (h0 : -9223372036854775808 ≤ n) (h1 : n ≤ 9223372036854775807) : m_r02_Fold n = some ((zfold n : Nat) : Int) := by
  unfold m_r02_Fold zfold
  by_cases h : n < 0
  · rw [d_lt h, cond_true, if_pos h, obind_some, w64 (n := n + 1) (by omega) (by omega), w64 (n := 0 - (n + 1)) (by omega) (by omega), wu64, wu64, wu64]
    congr 1; omega
  · rw [d_nlt h, cond_false, if_neg h, wu64, wu64]
    congr 1; omega
theorem putint_ok {b : List UInt8} {n : Int} (hb : b.length ≤ 100000000) (h0 : -9223372036854775808 ≤ n) (h1 : n ≤ 9223372036854775807) : m_zig_PutInt b n = some (b ++ zb (zfold n)) := by
  unfold m_zig_PutInt
  rw [fold_ok h0 h1, obind_some, put_ok hb (zfold_lt n h0 h1)]; rfl
end Go.Proofs.YtaaooafcijdbmaaDoor.K
namespace Go.Proofs.YtaaooafcijdbmaaDoor.K
open Go.RowKit Go.Lib
/-! ### unfolding -/
end Go.Proofs.YtaaooafcijdbmaaDoor.K
namespace Go.Proofs.YtaaooafcijdbmaaDoor.K
open Go.RowKit Go.Lib
/-- A number's k bytes, the highest first. -/
def beB : Nat → Nat → List UInt8
  | 0, _ => []
  | k + 1, u => beB k (u / 256) ++ [UInt8.ofNat (u % 256)]
theorem beB_len : ∀ k u, (beB k u).length = k
  | 0, _ => rfl
  | k + 1, u => by rw [beB, List.length_append, beB_len k]; rfl
theorem toU8_mod {u : Nat} : toU8 (u : Int) = UInt8.ofNat (u % 256) := by
  apply UInt8.toNat_inj.1; rw [toU8_nat, UInt8.toNat_ofNat']; omega
theorem set_mid {b t : List UInt8} {k : Nat} {x : UInt8} : (b ++ (List.replicate (k + 1) 0 ++ t)).set (b.length + k) x = b ++ (List.replicate k 0 ++ x :: t) := by
  rw [List.set_append_right _ _ (by omega), Nat.add_sub_cancel_left, List.replicate_succ', List.append_assoc, List.set_append_right _ _ (by simp)]
  simp
theorem lay_l {b : List UInt8} (hb : b.length ≤ 100000000) : ∀ (k fu u : Nat) (t : List UInt8), k + t.length = 8 → k < fu → u < 18446744073709551616 → m_octet_lay_l1 8 fu (b ++ (List.replicate k 0 ++ t)) (u : Int) ((b.length : Int) + k - 1) = some (b ++ (beB k u ++ t))
  | k, 0, _, _, _, h, _ => by omega
  | 0, fu + 1, u, t, ht, _, hu => by
    unfold m_octet_lay_l1
    rw [w64 (n := ((List.length (b ++ (List.replicate 0 0 ++ t)) : Nat) : Int) - 8) (by simp; omega) (by simp; omega), decide_eq_false (by simp; omega), cond_false]; rfl
  | k + 1, fu + 1, u, t, ht, hf, hu => by
    unfold m_octet_lay_l1
    have hlt : b.length + k < (b ++ (List.replicate (k + 1) 0 ++ t)).length := by simp; omega
    rw [w64 (n := ((List.length (b ++ (List.replicate (k + 1) 0 ++ t)) : Nat) : Int) - 8) (by simp; omega) (by simp; omega), decide_eq_true (by simp; omega), cond_true, show (b.length : Int) + ((k + 1 : Nat) : Int) - 1 = ((b.length + k : Nat) : Int) by omega, geti_lt hlt, obind_some, Int.toNat_natCast, set_mid, toU8_mod, Int.fdiv_eq_ediv_of_nonneg _ (by decide), show (2 : Int) ^ 8 = 256 from rfl, w64 (by omega) (by omega), show (u : Int) / 256 = ((u / 256 : Nat) : Int) by omega, show ((b.length + k : Nat) : Int) - 1 = (b.length : Int) + (k : Int) - 1 by omega]
    rw [lay_l hb k fu (u / 256) (UInt8.ofNat (u % 256) :: t) (by simp; omega) (by omega) (by omega), beB, List.append_assoc]; rfl
theorem word_ok {b : List UInt8} {u : Nat} (hb : b.length ≤ 100000000) (h : u < 18446744073709551616) : m_octet_Word b (u : Int) = some (b ++ beB 8 u) := by
  unfold m_octet_Word m_octet_grown m_octet_lay
  rw [w64 (by omega) (by omega), show mkl (((List.length b : Nat) : Int) + 8) (0 : UInt8) = some (List.replicate (b.length + 8) 0) by
    unfold mkl; rw [if_pos ⟨by omega, by omega⟩]
    congr 2]
  rw [obind_some, show cpy (List.replicate (b.length + 8) (0 : UInt8)) b = some (b ++ (List.replicate 8 0 ++ [])) by
    unfold cpy
    rw [if_pos (by simp)]
    simp]
  rw [obind_some, obind_some, w64 (by simp; omega) (by simp; omega)]
  have := lay_l hb 8 1152921504606846976 u [] (by simp) (by omega) h
  have e : List.length (b ++ (List.replicate 8 (0 : UInt8) ++ [])) = b.length + 8 := by simp
  rw [e, show ((b.length + 8 : Nat) : Int) - 1 = (b.length : Int) + ((8 : Nat) : Int) - 1 by omega, this, obind_some, List.append_nil]
theorem rword_l {b : List UInt8} (hb : b.length ≤ 100000000) : ∀ (k fu u : Nat) (t : List UInt8), k + t.length = 8 → k < fu → u < 18446744073709551616 → m_r01_Word_l0 b fu (u : Int) t (8 - (k : Int)) = some (b ++ (beB k u ++ t))
  | k, 0, _, _, _, h, _ => by omega
  | 0, fu + 1, u, t, ht, _, hu => by
    unfold m_r01_Word_l0
    rw [d_nlt (by omega), cond_false, app_ok (by simp; omega), obind_some, List.nil_append, app_ok (by omega), obind_some]; rfl
  | k + 1, fu + 1, u, t, ht, hf, hu => by
    unfold m_r01_Word_l0
    rw [d_lt (by omega), cond_true, Int.tmod_eq_emod_of_nonneg (by omega), show (u : Int) % 256 = ((u % 256 : Nat) : Int) by omega, toU8_mod, Nat.mod_mod, app_ok (by simp; omega), obind_some, Int.tdiv_eq_ediv_of_nonneg (by omega), wu64, show (u : Int) / 256 = ((u / 256 : Nat) : Int) by omega, Int.emod_eq_of_lt (by omega) (by omega), w64 (by omega) (by omega), show (8 : Int) - ((k + 1 : Nat) : Int) + 1 = 8 - (k : Int) by omega]
    rw [rword_l hb k fu (u / 256) _ (by simp; omega) (by omega) (by omega), beB, List.append_assoc]
theorem rword_ok {b : List UInt8} {u : Nat} (hb : b.length ≤ 100000000) (h : u < 18446744073709551616) : m_r01_Word b (u : Int) = some (b ++ beB 8 u) := by
  unfold m_r01_Word
  have := rword_l hb 8 1152921504606846976 u [] (by simp) (by omega) h
  rw [List.append_nil] at this; exact this
/-- A value's bytes. -/
def bytesV (v : GValue) : List UInt8 :=
  if v.Kind.toNat = 1 then zb (zfold v.N) else if v.Kind.toNat = 2 then [toU8 v.N] else if v.Kind.toNat = 3 then beB 8 v.Bits.toNat else zb v.Text.length ++ v.Text
def putV (b : List UInt8) (v : GValue) : List UInt8 × Int := if chkV v ≠ 0 then ([], chkV v) else (b ++ v.Kind :: bytesV v, 0)
theorem chk_range (v : GValue) : v.Kind.toNat = 1 ∨ v.Kind.toNat = 2 ∨ v.Kind.toNat = 3 ∨ v.Kind.toNat = 4 ∨ chkV v = 11 := by
  unfold chkV
  by_cases h1 : v.Kind.toNat = 1
  · exact .inl h1
  by_cases h2 : v.Kind.toNat = 2
  · exact .inr (.inl h2)
  by_cases h3 : v.Kind.toNat = 3
  · exact .inr (.inr (.inl h3))
  by_cases h4 : v.Kind.toNat = 4
  · exact .inr (.inr (.inr (.inl h4)))
  · rw [if_neg h1, if_neg h2, if_neg h3, if_neg h4]; simp
structure okB (v : GValue) : Prop where
  N : -9223372036854775808 ≤ v.N ∧ v.N ≤ 9223372036854775807
  B : u64B v.Bits
  T : v.Text.length ≤ 1000
theorem vput_ok {b : List UInt8} {v : GValue} (hb : b.length ≤ 1000000) (h : okB v) : m_value_Put b v = some (putV b v) := by
  obtain ⟨hN, hB, hT⟩ := h
  unfold m_value_Put putV
  rw [check_ok hB, obind_some]
  by_cases hc : chkV v = 0
  · rw [decide_eq_false (by simp [hc]), cond_false, if_neg (by simp [hc])]
    rw [w64 (n := ((List.length b : Nat) : Int) + 1) (by omega) (by omega), show mkc ((List.length b : Nat) : Int) (((List.length b : Nat) : Int) + 1) (0 : UInt8) = some (List.replicate b.length 0) by
      unfold mkc; rw [if_pos ⟨by omega, by omega, by omega⟩]; congr 2]
    rw [obind_some, show cpy (List.replicate b.length (0 : UInt8)) b = some b by
      unfold cpy
      rw [if_pos (by simp)]
      simp]
    rw [obind_some, app_ok (by simp; omega), obind_some]
    unfold bytesV
    by_cases k1 : v.Kind.toNat = 1
    · rw [decide_eq_true (by omega), cond_true, if_pos k1, putint_ok (by simp; omega) hN.1 hN.2, obind_some, List.append_assoc]; rfl
    rw [decide_eq_false (by omega), cond_false, if_neg k1]
    by_cases k2 : v.Kind.toNat = 2
    · rw [decide_eq_true (by omega), cond_true, if_pos k2, app_ok (by simp; omega), obind_some, List.append_assoc]; rfl
    rw [decide_eq_false (by omega), cond_false, if_neg k2]
    by_cases k3 : v.Kind.toNat = 3
    · have e : v.Bits = ((v.Bits.toNat : Nat) : Int) := by have := hB.1; omega
      rw [decide_eq_true (by omega), cond_true, if_pos k3, e, word_ok (by simp; omega) (by have := hB.2; omega), obind_some, List.append_assoc, Int.toNat_natCast]; rfl
    rw [decide_eq_false (by omega), cond_false, if_neg k3]
    have hz := zn_le10 v.Text.length (by omega)
    have hzl := zb_length v.Text.length
    rw [wu64, Int.emod_eq_of_lt (by omega) (by omega), put_ok (by simp; omega) (by omega), obind_some, app_ok (by simp; omega), obind_some, List.append_assoc, List.append_assoc]; rfl
  · rw [decide_eq_true (by simp [hc]), cond_true, if_pos (by simp [hc])]
theorem rvput_ok {b : List UInt8} {v : GValue} (hb : b.length ≤ 1000000) (h : okB v) : m_r04_Put b v = some (putV b v) := by
  obtain ⟨hN, hB, hT⟩ := h
  unfold m_r04_Put putV
  rw [rcheck_ok hB, obind_some]
  by_cases hc : chkV v = 0
  · rw [decide_eq_false (by simp [hc]), cond_false, if_neg (by simp [hc])]
    rw [app_ok (by simp; omega), obind_some, List.nil_append, app_ok (by simp; omega), obind_some]
    unfold bytesV
    by_cases k1 : v.Kind.toNat = 1
    · rw [decide_eq_true (by omega), cond_true, if_pos k1, rfold_ok hN.1 hN.2, obind_some, rput_ok (by simp; omega) (zfold_lt _ hN.1 hN.2), obind_some, List.append_assoc]; rfl
    rw [decide_eq_false (by omega), cond_false, if_neg k1]
    by_cases k2 : v.Kind.toNat = 2
    · rw [decide_eq_true (by omega), cond_true, if_pos k2, app_ok (by simp; omega), obind_some, List.append_assoc]; rfl
    rw [decide_eq_false (by omega), cond_false, if_neg k2]
    by_cases k3 : v.Kind.toNat = 3
    · have e : v.Bits = ((v.Bits.toNat : Nat) : Int) := by have := hB.1; omega
      rw [decide_eq_true (by omega), cond_true, if_pos k3, e, rword_ok (by simp; omega) (by have := hB.2; omega), obind_some, List.append_assoc, Int.toNat_natCast]; rfl
    rw [decide_eq_false (by omega), cond_false, if_neg k3]
    have hz := zn_le10 v.Text.length (by omega)
    have hzl := zb_length v.Text.length
    rw [wu64, Int.emod_eq_of_lt (by omega) (by omega), rput_ok (by simp; omega) (by omega), obind_some, app_ok (by simp; omega), obind_some, List.append_assoc, List.append_assoc]; rfl
  · rw [decide_eq_true (by simp [hc]), cond_true, if_pos (by simp [hc])]
end Go.Proofs.YtaaooafcijdbmaaDoor.K
namespace Go.Proofs.YtaaooafcijdbmaaDoor.K
open Go.RowKit Go.Lib
end Go.Proofs.YtaaooafcijdbmaaDoor.K
namespace Go.Proofs.YtaaooafcijdbmaaDoor.K
open Go.RowKit Go.Lib
end Go.Proofs.YtaaooafcijdbmaaDoor.K
namespace Go.Proofs.YtaaooafcijdbmaaDoor.K
open Go.RowKit Go.Lib
theorem chk4 {v : GValue} (k4 : v.Kind.toNat = 4) (h : chkV v = 0) : v.Text.length ≤ 24 ∧ v.N = 0 ∧ v.Bits = 0 := by
  unfold chkV at h
  rw [if_neg (by omega), if_neg (by omega), if_neg (by omega), if_pos k4] at h
  split at h
  · omega
  · split at h
    · exact ⟨by omega, by assumption⟩
    · omega
end Go.Proofs.YtaaooafcijdbmaaDoor.K

namespace Go.Proofs.YtaaooafcijdbmaaDoor.K
open Go.RowKit Go.Lib

structure wf_GField (x : GField) : Prop where
  Name : wfS x.Name
  Kind : wfT x.Kind
theorem td_69 {ds : List D} (h : TD Tryd.prog 69 ds) : ∃ x : GField, ds = enc_GField x ∧ wf_GField x := by
  have h0 := TD.of_struct Tryd.underlying69 h
  obtain ⟨p0, q0, e0, t0, h1⟩ := h0
  obtain ⟨x0, f0, w0⟩ := td_str Tryd.underlying9 t0
  obtain ⟨p1, q1, e1, t1, h2⟩ := h1
  obtain ⟨x1, f1, w1⟩ := td_u8 Tryd.underlying5 t1
  have h2 : q1 = [] := h2
  refine ⟨⟨x0, x1⟩, ?_, ⟨w0, w1⟩⟩
  rw [e0, f0, e1, f1, h2]; rfl
structure wf_GType (x : GType) : Prop where
  Name : wfS x.Name
  Fields : (wfL wf_GField) x.Fields
theorem td_67 {ds : List D} (h : TD Tryd.prog 67 ds) : ∃ x : GType, ds = enc_GType x ∧ wf_GType x := by
  have h0 := TD.of_struct Tryd.underlying67 h
  obtain ⟨p0, q0, e0, t0, h1⟩ := h0
  obtain ⟨x0, f0, w0⟩ := td_str Tryd.underlying9 t0
  obtain ⟨p1, q1, e1, t1, h2⟩ := h1
  obtain ⟨x1, f1, w1⟩ := td_slice (enc := enc_GField) (q := wf_GField) Tryd.underlying65 (fun {r} h => td_69 h) t1
  have h2 : q1 = [] := h2
  refine ⟨⟨x0, x1⟩, ?_, ⟨w0, w1⟩⟩
  rw [e0, f0, e1, f1, h2]; rfl
structure wf_GValue (x : GValue) : Prop where
  Kind : wfT x.Kind
  N : (inK .i64) x.N
  Bits : (inK .u64) x.Bits
  Text : wfS x.Text
theorem td_98 {ds : List D} (h : TD Tryd.prog 98 ds) : ∃ x : GValue, ds = enc_GValue x ∧ wf_GValue x := by
  have h0 := TD.of_struct Tryd.underlying98 h
  obtain ⟨p0, q0, e0, t0, h1⟩ := h0
  obtain ⟨x0, f0, w0⟩ := td_u8 Tryd.underlying5 t0
  obtain ⟨p1, q1, e1, t1, h2⟩ := h1
  obtain ⟨x1, f1, w1⟩ := td_int Tryd.underlying3 t1
  obtain ⟨p2, q2, e2, t2, h3⟩ := h2
  obtain ⟨x2, f2, w2⟩ := td_int Tryd.underlying84 t2
  obtain ⟨p3, q3, e3, t3, h4⟩ := h3
  obtain ⟨x3, f3, w3⟩ := td_str Tryd.underlying9 t3
  have h4 : q3 = [] := h4
  refine ⟨⟨x0, x1, x2, x3⟩, ?_, ⟨w0, w1, w2, w3⟩⟩
  rw [e0, f0, e1, f1, e2, f2, e3, f3, h4]; rfl
structure wf_GEvent (x : GEvent) : Prop where
  Time : (inK .i64) x.Time
  Source : (inK .i64) x.Source
  Seq : (inK .i64) x.Seq
  Type_ : wfS x.Type_
  Vals : (wfL wf_GValue) x.Vals
theorem td_44 {ds : List D} (h : TD Tryd.prog 44 ds) : ∃ x : GEvent, ds = enc_GEvent x ∧ wf_GEvent x := by
  have h0 := TD.of_struct Tryd.underlying44 h
  obtain ⟨p0, q0, e0, t0, h1⟩ := h0
  obtain ⟨x0, f0, w0⟩ := td_int Tryd.underlying3 t0
  obtain ⟨p1, q1, e1, t1, h2⟩ := h1
  obtain ⟨x1, f1, w1⟩ := td_int Tryd.underlying3 t1
  obtain ⟨p2, q2, e2, t2, h3⟩ := h2
  obtain ⟨x2, f2, w2⟩ := td_int Tryd.underlying3 t2
  obtain ⟨p3, q3, e3, t3, h4⟩ := h3
  obtain ⟨x3, f3, w3⟩ := td_str Tryd.underlying9 t3
  obtain ⟨p4, q4, e4, t4, h5⟩ := h4
  obtain ⟨x4, f4, w4⟩ := td_slice (enc := enc_GValue) (q := wf_GValue) Tryd.underlying42 (fun {r} h => td_98 h) t4
  have h5 : q4 = [] := h5
  refine ⟨⟨x0, x1, x2, x3, x4⟩, ?_, ⟨w0, w1, w2, w3, w4⟩⟩
  rw [e0, f0, e1, f1, e2, f2, e3, f3, e4, f4, h5]; rfl
structure wf_GCommand (x : GCommand) : Prop where
  Kind : wfT x.Kind
  Text : wfS x.Text
  A : (inK .i64) x.A
  B : (inK .i64) x.B
  E : wf_GEvent x.E
theorem td_46 {ds : List D} (h : TD Tryd.prog 46 ds) : ∃ x : GCommand, ds = enc_GCommand x ∧ wf_GCommand x := by
  have h0 := TD.of_struct Tryd.underlying46 h
  obtain ⟨p0, q0, e0, t0, h1⟩ := h0
  obtain ⟨x0, f0, w0⟩ := td_u8 Tryd.underlying5 t0
  obtain ⟨p1, q1, e1, t1, h2⟩ := h1
  obtain ⟨x1, f1, w1⟩ := td_str Tryd.underlying9 t1
  obtain ⟨p2, q2, e2, t2, h3⟩ := h2
  obtain ⟨x2, f2, w2⟩ := td_int Tryd.underlying3 t2
  obtain ⟨p3, q3, e3, t3, h4⟩ := h3
  obtain ⟨x3, f3, w3⟩ := td_int Tryd.underlying3 t3
  obtain ⟨p4, q4, e4, t4, h5⟩ := h4
  obtain ⟨x4, f4, w4⟩ := td_44 t4
  have h5 : q4 = [] := h5
  refine ⟨⟨x0, x1, x2, x3, x4⟩, ?_, ⟨w0, w1, w2, w3, w4⟩⟩
  rw [e0, f0, e1, f1, e2, f2, e3, f3, e4, f4, h5]; rfl
end Go.Proofs.YtaaooafcijdbmaaDoor.K
