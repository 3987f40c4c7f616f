/- what telltalelaw13.ShapeTells needs (3) -/
import Derived.Test.YtdpmojhejidhiaaZA2
set_option linter.unusedVariables false
set_option linter.unusedSimpArgs false
namespace Go.Proofs.Ytdpmojhejidhiaa.K
open Go.RowKit Go.Lib
set_option maxRecDepth 20000
set_option maxHeartbeats 4000000

theorem ok_r13_needs (p0 : GNode) (r : Int) (h : m_r13_needs p0 = some r) : GCall Try.prog 47 [(.agg [(.y p0.Kind), (.i p0.Kids), (.i p0.Lo), (.i p0.Hi), (.s p0.Var), (.s p0.Type_), (.l enc_GNode_ p0.Test)])] [] (.i r) [] := by
 refine GCall.of_body (n := 142) (rs := [(.tmp 2)]) Try.func47 rfl rfl rfl <| Ato ⟨.agg [(.y p0.Kind), (.i p0.Kids), (.i p0.Lo), (.i p0.Hi), (.s p0.Var), (.s p0.Type_), (.l enc_GNode_ p0.Test)]::tu 141 [], [], 0⟩ ?_
 have hm := h
 unfold m_r13_needs at hm
 refine Sx <| Wy (.loc 0 0) [(0, (.box [(.y p0.Kind), (.i p0.Kids), (.i p0.Lo), (.i p0.Hi), (.s p0.Var), (.s p0.Type_), (.l enc_GNode_ p0.Test)]))] (Obx rfl) <| Wm (.i 0) rfl <| Nk 2 1 ⟨tp 1 (.loc 0 0::tp 140 []), [(.box [(.y p0.Kind), (.i p0.Kids), (.i p0.Lo), (.i p0.Hi), (.s p0.Var), (.s p0.Type_), (.l enc_GNode_ p0.Test)])], 0⟩ <| Sx <| Wz (.loc 0 0) (Ofa rfl) <| Wz (.y p0.Kind) (Old rfl) <| Wz (.b (decide (((p0.Kind.toNat : Nat) : Int) = 4))) (Ob2 (.int .u8 ((p0.Kind.toNat : Nat) : Int)) (.int .u8 4) rfl (fun _ => hb_eql)) ?_
 rcases br hm with ⟨s3, hm⟩ | ⟨s3, hm⟩
 · refine Wz (.b true) (Oq s3 rfl) <| Wn <| Wn <| Wn <| Wz (.b true) (OpT rfl) <| Wm (.b true) rfl <| Nk 10 1 ⟨tp 1 (.loc 0 0::tp 1 (.b true::tp 138 [])), [(.box [(.y p0.Kind), (.i p0.Kids), (.i p0.Lo), (.i p0.Hi), (.s p0.Var), (.s p0.Type_), (.l enc_GNode_ p0.Test)])], 0⟩ <| Sx <| Wz (.loc 0 0) (Ofa rfl) <| Wz (.y p0.Kind) (Old rfl) <| Wz (.b (decide (((p0.Kind.toNat : Nat) : Int) = 1))) (Ob2 (.int .u8 ((p0.Kind.toNat : Nat) : Int)) (.int .u8 1) rfl (fun _ => hb_eql)) ?_
   rcases br hm with ⟨e3, hm⟩ | ⟨e3, hm⟩
   · refine Wz (.b true) (Oq e3 rfl) <| Wn <| Wn <| Wn <| Wz (.b true) (OpT rfl) <| Wm (.b true) rfl <| Nk 26 1 ⟨tp 1 (.loc 0 0::tp 1 (.b true::.b true::tp 137 [])), [(.box [(.y p0.Kind), (.i p0.Kids), (.i p0.Lo), (.i p0.Hi), (.s p0.Var), (.s p0.Type_), (.l enc_GNode_ p0.Test)])], 0⟩ <| Sq <| Sx <| Wm (.b true) rfl <| Wm (.b true) rfl <| Wz (.loc 0 1) (Ofa rfl) <| Wz (.i p0.Kids) (Old rfl) <| Wz (.b (decide (p0.Kids < 2))) (Obn rfl (fun _ => hb_lss (k := .i64))) ?_
     rcases br hm with ⟨f3, hm⟩ | ⟨f3, hm⟩
     · refine Wz (.b true) (Oq f3 rfl) <| Wn <| Wn <| Wn <| Wz (.b true) (OpT rfl) <| Wz (.b true) (OpT rfl) <| Nk 2147483658 1 ⟨tp 1 (.loc 0 0::tp 1 (.b true::tp 27 (.b true::tp 110 []))), [(.box [(.y p0.Kind), (.i p0.Kids), (.i p0.Lo), (.i p0.Hi), (.s p0.Var), (.s p0.Type_), (.l enc_GNode_ p0.Test)])], 0⟩ <| AWP.if_ true (by kernel_rfl) <| Sx <| Wm (.i 4) rfl <| Nn <| Rt <| Tr ?_
       obtain rfl := sj hm
       exact ret_i []
     refine Wz (.b false) (Oq f3 rfl) <| Wz (.loc 0 1) (Ofa rfl) <| Wz (.i p0.Kids) (Old rfl) <| Wz (.b (decide ((40 : Int) < p0.Kids))) (Obn rfl (fun _ => hb_gtr (k := .i64))) <| Wz (.b (decide ((40 : Int) < p0.Kids))) (OpF rfl) <| Wz (.b (decide ((40 : Int) < p0.Kids))) (OpT rfl) <| Nk 2147483658 1 ⟨tp 1 (.loc 0 0::tp 1 (.b true::tp 27 (.b (decide ((40 : Int) < p0.Kids))::tp 110 []))), [(.box [(.y p0.Kind), (.i p0.Kids), (.i p0.Lo), (.i p0.Hi), (.s p0.Var), (.s p0.Type_), (.l enc_GNode_ p0.Test)])], 0⟩ ?_
     rcases br hm with ⟨h1, hm⟩ | ⟨h1, hm⟩
     · refine AiT h1 <| Sx <| Wm (.i 4) rfl <| Nn <| Rt <| Tr ?_
       obtain rfl := sj hm
       exact ret_i []
     refine AiF h1 <| Sk <| Tk 10 1 ⟨tp 1 (.loc 0 0::tp 1 (.b true::tp 138 [])), [(.box [(.y p0.Kind), (.i p0.Kids), (.i p0.Lo), (.i p0.Hi), (.s p0.Var), (.s p0.Type_), (.l enc_GNode_ p0.Test)])], 0⟩ ?_
     refine AWP.cutJ (α := Unit) (fun x => match x with | () => (⟨tp 1 (.loc 0 0::tp 1 (.b true::tp 138 [])), [(.box [(.y p0.Kind), (.i p0.Kids), (.i p0.Lo), (.i p0.Hi), (.s p0.Var), (.s p0.Type_), (.l enc_GNode_ p0.Test)])], 0⟩ : St)) (fun x => match x with | () => m_r13_needs_j7 p0 = some r) ?_ (fun J7 => ?_)
     ·
      rintro ⟨⟩ hm
      try dsimp only at hm ⊢
      unfold m_r13_needs_j7 at hm
      refine Sq ?_
      refine AWP.cutJ (α := Unit) (fun x => match x with | () => (⟨tp 1 (.loc 0 0::tp 1 (.b true::tp 96 (.b true::tp 41 []))), [(.box [(.y p0.Kind), (.i p0.Kids), (.i p0.Lo), (.i p0.Hi), (.s p0.Var), (.s p0.Type_), (.l enc_GNode_ p0.Test)])], 0⟩ : St)) (fun x => match x with | () => m_r13_needs_j9  = some r) ?_ (fun J9 => ?_)
      ·
       rintro ⟨⟩ hm
       try dsimp only at hm ⊢
       unfold m_r13_needs_j9 at hm
       refine AWP.if_ true (by kernel_rfl) <| Sx <| Wm (.i 4) rfl <| Nn <| Rt <| Tr ?_
       obtain rfl := sj hm
       exact ret_i []
      refine Sx <| Wm (.b true) rfl <| Wm (.b true) rfl <| Wz (.loc 0 4) (Ofa rfl) <| Wz (.s p0.Var) (Old rfl) ?_
      obtain ⟨d3, c4, hm⟩ := bnd hm
      refine Wz (.b d3) (Ocf [] [] [] 0 (ok_r06_Name p0.Var d3 c4) (fun a w => Try.call28 a w) rfl trivial) <| Wz (.b (!d3)) (Ocs (by kernel_rfl) (op_un rfl (a1 := .bool d3) (by kernel_rfl) (fun _ => hu_not))) ?_
      rcases br hm with ⟨g3, hm⟩ | ⟨g3, hm⟩
      · refine Wz (.b true) (Oq g3 rfl) <| Wn <| Wn <| Wn <| Wn <| Wz (.b true) (OpT rfl) <| Wm (.b true) rfl <| Wn <| Wn <| Wn <| Wn <| Wz (.b true) (OpT rfl) <| Wz (.b true) (OpT rfl) <| Nn ?_
        exact AWP.weak (Weak.toK 1267650600228229401496703205386 0 0 [0]) (J9 () hm)
      refine Wz (.b false) (Oq g3 rfl) <| Wz (.loc 0 5) (Ofa rfl) <| Wz (.s p0.Type_) (Old rfl) ?_
      obtain ⟨d1, d4, hm⟩ := bnd hm
      refine Wz (.b d1) (Ocf [] [] [] 0 (ok_r06_Name p0.Type_ d1 d4) (fun a w => Try.call28 a w) rfl trivial) <| Wz (.b (!d1)) (Ocs (by kernel_rfl) (op_un rfl (a1 := .bool d1) (by kernel_rfl) (fun _ => hu_not))) <| Wz (.b (!d1)) (OpF rfl) ?_
      rcases br hm with ⟨h3, hm⟩ | ⟨h3, hm⟩
      · refine Wz (.b true) (Oq h3 rfl) <| Wn <| Wn <| Wn <| Wn <| Wz (.b true) (OpT rfl) <| Wz (.b true) (OpT rfl) <| Nn ?_
        exact AWP.weak (Weak.toK 1267650600228229401496703205386 0 0 [0]) (J9 () hm)
      refine Wz (.b false) (Oq h3 rfl) <| Wz (.loc 0 6) (Ofa rfl) <| Wz (.l enc_GNode_ p0.Test) (Old rfl) ?_
      obtain ⟨i0, e4, hm⟩ := bnd hm
      refine Wz (.i i0) (Ocf [] [] [] 0 (ok_r11_Check p0.Test i0 e4) (fun a w => Try.call59 a w) rfl trivial) <| Wz (.b (decide (i0 ≠ 0))) (Obn rfl (fun _ => hb_neq (k := .i64))) <| Wz (.b (decide (i0 ≠ 0))) (OpF rfl) <| Wz (.b (decide (i0 ≠ 0))) (OpT rfl) <| Nk 1267650600228229401496703205386 1 ⟨tp 1 (.loc 0 0::tp 1 (.b true::tp 96 (.b (decide (i0 ≠ 0))::tp 41 []))), [(.box [(.y p0.Kind), (.i p0.Kids), (.i p0.Lo), (.i p0.Hi), (.s p0.Var), (.s p0.Type_), (.l enc_GNode_ p0.Test)])], 0⟩ ?_
      rcases br hm with ⟨j0, hm⟩ | ⟨j0, hm⟩
      · refine AiT j0 <| Sx <| Wm (.i 4) rfl <| Nn <| Rt <| Tr ?_
        obtain rfl := sj hm
        exact ret_i []
      refine AiF j0 <| Sk <| Tk 10 1 ⟨tp 1 (.loc 0 0::tp 1 (.b true::tp 138 [])), [(.box [(.y p0.Kind), (.i p0.Kids), (.i p0.Lo), (.i p0.Hi), (.s p0.Var), (.s p0.Type_), (.l enc_GNode_ p0.Test)])], 0⟩ <| Sq ?_
      refine AWP.cutJ (α := Unit) (fun x => match x with | () => (⟨tp 141 (.b true::[]), [], 0⟩ : St)) (fun x => match x with | () => m_r13_needs_j11  = some r) ?_ (fun J11 => ?_)
      ·
       rintro ⟨⟩ hm
       try dsimp only at hm ⊢
       unfold m_r13_needs_j11 at hm
       refine AWP.if_ true (by kernel_rfl) <| Sx <| Wm (.i 2) rfl <| Nn <| Rt <| Tr ?_
       obtain rfl := sj hm
       exact ret_i []
      refine AWP.cutJ (α := Unit) (fun x => match x with | () => (⟨tp 141 (.b false::[]), [], 0⟩ : St)) (fun x => match x with | () => m_r13_needs_j12  = some r) ?_ (fun J12 => ?_)
      ·
       rintro ⟨⟩ hm
       try dsimp only at hm ⊢
       unfold m_r13_needs_j12 at hm
       refine AWP.if_ false (by kernel_rfl) <| Sk <| Tk 0 0 ⟨tp 142 [], [], 0⟩ <| Sx <| Wm (.i 0) rfl <| Nn <| Rt ?_
       obtain rfl := sj hm
       exact ret_i []
      refine Sx <| Wm (.b true) rfl <| Wm (.b true) rfl <| Wz (.loc 0 1) (Ofa rfl) <| Wz (.i p0.Kids) (Old rfl) <| Wz (.b (decide (p0.Kids ≠ 0))) (Obn rfl (fun _ => hb_neq (k := .i64))) <| Wz (.b (decide (p0.Kids ≠ 0))) (OpT rfl) ?_
      rcases br hm with ⟨k0, hm⟩ | ⟨k0, hm⟩
      · refine Wz (.b true) (Oq k0 rfl) <| Wn <| Wn <| Wn <| Wn <| Wn <| Wn <| Wn <| Wn <| Wn <| Wn <| Wn <| Wn <| Wn ?_
        refine Wz (.b true) (OpT rfl) <| Wm (.b true) rfl <| Wn <| Wn <| Wn <| Wn <| Wn <| Wn <| Wn <| Wn <| Wn <| Wn <| Wn <| Wn ?_
        refine Wn <| Wn <| Wn <| Wn <| Wn <| Wn <| Wz (.b true) (OpT rfl) <| Nn ?_
        exact AWP.weak (Weak.toK 2787593149816327892691964784081045188247552 0 0 []) (J11 () hm)
      refine Wz (.b false) (Oq k0 rfl) <| Wz (.loc 0 0) (Ofa rfl) <| Wz (.y p0.Kind) (Old rfl) <| Wz (.b (decide (((p0.Kind.toNat : Nat) : Int) ≠ 3))) (Ob2 (.int .u8 ((p0.Kind.toNat : Nat) : Int)) (.int .u8 3) rfl (fun _ => hb_neq)) ?_
      rcases br hm with ⟨l0, hm⟩ | ⟨l0, hm⟩
      · refine Wz (.b true) (Oq l0 rfl) <| Wz (.loc 0 2) (Ofa rfl) <| Wz (.i p0.Lo) (Old rfl) <| Wz (.b (decide (p0.Lo ≠ 0))) (Obn rfl (fun _ => hb_neq (k := .i64))) ?_
        rcases br hm with ⟨m0, hm⟩ | ⟨m0, hm⟩
        · refine Wz (.b true) (Oq m0 rfl) <| Wn <| Wn <| Wn <| Wz (.b true) (OpT rfl) <| Wz (.b true) (OpT rfl) <| Wz (.b true) (OpF rfl) <| Wm (.b true) rfl <| Wn <| Wn <| Wn <| Wn <| Wn <| Wn ?_
          refine Wn <| Wn <| Wn <| Wn <| Wn <| Wn <| Wn <| Wn <| Wn <| Wn <| Wn <| Wn <| Wz (.b true) (OpT rfl) <| Nn ?_
          exact AWP.weak (Weak.toK 2787593149816327892691964784081045188247552 0 0 []) (J11 () hm)
        refine Wz (.b false) (Oq m0 rfl) <| Wz (.loc 0 3) (Ofa rfl) <| Wz (.i p0.Hi) (Old rfl) <| Wz (.b (decide (p0.Hi ≠ 0))) (Obn rfl (fun _ => hb_neq (k := .i64))) <| Wz (.b (decide (p0.Hi ≠ 0))) (OpF rfl) <| Wz (.b (decide (p0.Hi ≠ 0))) (OpT rfl) <| Wz (.b (decide (p0.Hi ≠ 0))) (OpF rfl) ?_
        rcases br hm with ⟨n0, hm⟩ | ⟨n0, hm⟩
        · refine Wz (.b true) (Oq n0 rfl) <| Wn <| Wn <| Wn <| Wn <| Wn <| Wn <| Wn <| Wn <| Wn <| Wn <| Wn <| Wn <| Wn ?_
          refine Wn <| Wn <| Wn <| Wn <| Wn <| Wz (.b true) (OpT rfl) <| Nn ?_
          exact AWP.weak (Weak.toK 2787593149816327892691964784081045188247552 0 0 []) (J11 () hm)
        refine Wz (.b false) (Oq n0 rfl) <| Wm (.b true) rfl <| Wz (.b false) (Ocs (by kernel_rfl) (op_un rfl (a1 := .bool true) (by kernel_rfl) (fun _ => hu_not))) <| Wm (.b false) rfl <| Wn <| Wn <| Wn <| Wn <| Wn <| Wn <| Wn <| Wn <| Wn <| Wn ?_
        refine Wn <| Wn <| Wn <| Wn <| Wz (.b false) (OpF rfl) <| Wz (.b false) (OpF rfl) <| Nn ?_
        exact AWP.weak (Weak.toK 2787593149816327892691964784081045188247552 0 0 []) (J12 () hm)
      refine Wz (.b false) (Oq l0 rfl) <| Wn <| Wn <| Wn <| Wn <| Wn <| Wn <| Wn <| Wn <| Wz (.b false) (OpF rfl) <| Wz (.b false) (OpF rfl) <| Wm (.b false) rfl <| Wm (.b true) rfl <| Wz (.b false) (Ocs (by kernel_rfl) (op_un rfl (a1 := .bool true) (by kernel_rfl) (fun _ => hu_not))) ?_
      refine Wm (.b false) rfl <| Wn <| Wn <| Wn <| Wn <| Wn <| Wn <| Wn <| Wn <| Wn <| Wn <| Wn <| Wn <| Wn ?_
      refine Wn <| Wz (.b false) (OpF rfl) <| Wz (.b false) (OpF rfl) <| Nn ?_
      exact AWP.weak (Weak.toK 2787593149816327892691964784081045188247552 0 0 []) (J12 () hm)
     refine Sq ?_
     refine AWP.cutJ (α := Unit) (fun x => match x with | () => (⟨tp 1 (.loc 0 0::tp 1 (.b true::tp 77 (.b true::tp 60 []))), [(.box [(.y p0.Kind), (.i p0.Kids), (.i p0.Lo), (.i p0.Hi), (.s p0.Var), (.s p0.Type_), (.l enc_GNode_ p0.Test)])], 0⟩ : St)) (fun x => match x with | () => m_r13_needs_j4  = some r) ?_ (fun J4 => ?_)
     ·
      rintro ⟨⟩ hm
      try dsimp only at hm ⊢
      unfold m_r13_needs_j4 at hm
      refine AWP.if_ true (by kernel_rfl) <| Sx <| Wm (.i 4) rfl <| Nn <| Rt <| Tr ?_
      obtain rfl := sj hm
      exact ret_i []
     refine AWP.cutJ (α := Unit) (fun x => match x with | () => (⟨tp 1 (.loc 0 0::tp 1 (.b true::tp 77 (.b (decide (p0.Hi = 1))::tp 60 []))), [(.box [(.y p0.Kind), (.i p0.Kids), (.i p0.Lo), (.i p0.Hi), (.s p0.Var), (.s p0.Type_), (.l enc_GNode_ p0.Test)])], 0⟩ : St)) (fun x => match x with | () => m_r13_needs_j5 p0 = some r) ?_ (fun J5 => ?_)
     ·
      rintro ⟨⟩ hm
      try dsimp only at hm ⊢
      unfold m_r13_needs_j5 at hm
      rcases br hm with ⟨i3, hm⟩ | ⟨i3, hm⟩
      · refine AiT i3 <| Sx <| Wm (.i 4) rfl <| Nn <| Rt <| Tr ?_
        obtain rfl := sj hm
        exact ret_i []
      refine AiF i3 <| Sk <| Tn ?_
      exact AWP.weak (Weak.toK 10 0 0 [0]) (J7 () hm)
     refine AWP.cutJ (α := Unit) (fun x => match x with | () => (⟨tp 1 (.loc 0 0::tp 1 (.b true::tp 77 (.b false::tp 60 []))), [(.box [(.y p0.Kind), (.i p0.Kids), (.i p0.Lo), (.i p0.Hi), (.s p0.Var), (.s p0.Type_), (.l enc_GNode_ p0.Test)])], 0⟩ : St)) (fun x => match x with | () => m_r13_needs_j6 p0 = some r) ?_ (fun J6 => ?_)
     ·
      rintro ⟨⟩ hm
      try dsimp only at hm ⊢
      unfold m_r13_needs_j6 at hm
      refine AWP.if_ false (by kernel_rfl) <| Sk <| Tn ?_
      exact AWP.weak (Weak.toK 10 0 0 [0]) (J7 () hm)
     refine Sx <| Wz (.loc 0 0) (Ofa rfl) <| Wz (.y p0.Kind) (Old rfl) <| Wz (.b (decide (((p0.Kind.toNat : Nat) : Int) = 3))) (Ob2 (.int .u8 ((p0.Kind.toNat : Nat) : Int)) (.int .u8 3) rfl (fun _ => hb_eql)) ?_
     rcases br hm with ⟨j3, hm⟩ | ⟨j3, hm⟩
     · refine Wz (.b true) (Oq j3 rfl) <| Wz (.loc 0 1) (Ofa rfl) <| Wz (.i p0.Kids) (Old rfl) <| Wz (.b (decide (p0.Kids ≠ 1))) (Obn rfl (fun _ => hb_neq (k := .i64))) ?_
       rcases br hm with ⟨k3, hm⟩ | ⟨k3, hm⟩
       · refine Wz (.b true) (Oq k3 rfl) <| Wn <| Wn <| Wn <| Wz (.b true) (OpT rfl) <| Wm (.b true) rfl <| Wn <| Wn <| Wn <| Wz (.b true) (OpT rfl) <| Wm (.b true) rfl <| Wn <| Wn <| Wn ?_
         refine Wz (.b true) (OpT rfl) <| Wm (.b true) rfl <| Wn <| Wn <| Wn <| Wz (.b true) (OpT rfl) <| Wm (.b true) rfl <| Wn <| Wn <| Wn <| Wn <| Wn <| Wn <| Wn ?_
         refine Wn <| Wn <| Wn <| Wz (.b true) (OpT rfl) <| Wm (.b true) rfl <| Wn <| Wn <| Wn <| Wn <| Wn <| Wn <| Wn <| Wn <| Wz (.b true) (OpT rfl) ?_
         refine Wz (.b true) (OpT rfl) <| Nn ?_
         exact AWP.weak (Weak.toK 2417851639229258349412362 0 0 [0]) (J4 () hm)
       refine Wz (.b false) (Oq k3 rfl) <| Wz (.loc 0 2) (Ofa rfl) <| Wz (.i p0.Lo) (Old rfl) <| Wz (.b (decide (p0.Lo < 0))) (Obn rfl (fun _ => hb_lss (k := .i64))) <| Wz (.b (decide (p0.Lo < 0))) (OpF rfl) ?_
       rcases br hm with ⟨l3, hm⟩ | ⟨l3, hm⟩
       · refine Wz (.b true) (Oq l3 rfl) <| Wn <| Wn <| Wn <| Wz (.b true) (OpT rfl) <| Wm (.b true) rfl <| Wn <| Wn <| Wn <| Wz (.b true) (OpT rfl) <| Wm (.b true) rfl <| Wn <| Wn <| Wn ?_
         refine Wz (.b true) (OpT rfl) <| Wm (.b true) rfl <| Wn <| Wn <| Wn <| Wn <| Wn <| Wn <| Wn <| Wn <| Wn <| Wn <| Wz (.b true) (OpT rfl) <| Wm (.b true) rfl ?_
         refine Wn <| Wn <| Wn <| Wn <| Wn <| Wn <| Wn <| Wn <| Wz (.b true) (OpT rfl) <| Wz (.b true) (OpT rfl) <| Nn ?_
         exact AWP.weak (Weak.toK 2417851639229258349412362 0 0 [0]) (J4 () hm)
       refine Wz (.b false) (Oq l3 rfl) <| Wz (.loc 0 2) (Ofa rfl) <| Wz (.i p0.Lo) (Old rfl) <| Wz (.b (decide ((8 : Int) < p0.Lo))) (Obn rfl (fun _ => hb_gtr (k := .i64))) <| Wz (.b (decide ((8 : Int) < p0.Lo))) (OpF rfl) ?_
       rcases br hm with ⟨m3, hm⟩ | ⟨m3, hm⟩
       · refine Wz (.b true) (Oq m3 rfl) <| Wn <| Wn <| Wn <| Wz (.b true) (OpT rfl) <| Wm (.b true) rfl <| Wn <| Wn <| Wn <| Wz (.b true) (OpT rfl) <| Wm (.b true) rfl <| Wn <| Wn <| Wn ?_
         refine Wn <| Wn <| Wn <| Wn <| Wn <| Wn <| Wn <| Wz (.b true) (OpT rfl) <| Wm (.b true) rfl <| Wn <| Wn <| Wn <| Wn <| Wn ?_
         refine Wn <| Wn <| Wn <| Wz (.b true) (OpT rfl) <| Wz (.b true) (OpT rfl) <| Nn ?_
         exact AWP.weak (Weak.toK 2417851639229258349412362 0 0 [0]) (J4 () hm)
       refine Wz (.b false) (Oq m3 rfl) <| Wz (.loc 0 3) (Ofa rfl) <| Wz (.i p0.Hi) (Old rfl) <| Wz (.b (decide (p0.Hi < 0))) (Obn rfl (fun _ => hb_lss (k := .i64))) <| Wz (.b (decide (p0.Hi < 0))) (OpF rfl) ?_
       rcases br hm with ⟨n3, hm⟩ | ⟨n3, hm⟩
       · refine Wz (.b true) (Oq n3 rfl) <| Wn <| Wn <| Wn <| Wz (.b true) (OpT rfl) <| Wm (.b true) rfl <| Wn <| Wn <| Wn <| Wn <| Wn <| Wn <| Wn <| Wn ?_
         refine Wn <| Wn <| Wz (.b true) (OpT rfl) <| Wm (.b true) rfl <| Wn <| Wn <| Wn <| Wn <| Wn <| Wn <| Wn <| Wn <| Wz (.b true) (OpT rfl) <| Wz (.b true) (OpT rfl) ?_
         refine Nn ?_
         exact AWP.weak (Weak.toK 2417851639229258349412362 0 0 [0]) (J4 () hm)
       refine Wz (.b false) (Oq n3 rfl) <| Wz (.loc 0 3) (Ofa rfl) <| Wz (.i p0.Hi) (Old rfl) <| Wz (.b (decide ((8 : Int) < p0.Hi))) (Obn rfl (fun _ => hb_gtr (k := .i64))) <| Wz (.b (decide ((8 : Int) < p0.Hi))) (OpF rfl) ?_
       rcases br hm with ⟨o3, hm⟩ | ⟨o3, hm⟩
       · refine Wz (.b true) (Oq o3 rfl) <| Wn <| Wn <| Wn <| Wn <| Wn <| Wn <| Wn <| Wn <| Wn <| Wn <| Wz (.b true) (OpT rfl) <| Wm (.b true) rfl <| Wn ?_
         refine Wn <| Wn <| Wn <| Wn <| Wn <| Wn <| Wn <| Wz (.b true) (OpT rfl) <| Wz (.b true) (OpT rfl) <| Nn ?_
         exact AWP.weak (Weak.toK 2417851639229258349412362 0 0 [0]) (J4 () hm)
       refine Wz (.b false) (Oq o3 rfl) <| Wz (.loc 0 3) (Ofa rfl) <| Wz (.i p0.Hi) (Old rfl) <| Wz (.b (decide ((0 : Int) < p0.Hi))) (Obn rfl (fun _ => hb_gtr (k := .i64))) ?_
       rcases br hm with ⟨q3, hm⟩ | ⟨q3, hm⟩
       · refine Wz (.b true) (Oq q3 rfl) <| Wz (.loc 0 3) (Ofa rfl) <| Wz (.i p0.Hi) (Old rfl) <| Wz (.loc 0 2) (Ofa rfl) <| Wz (.i p0.Lo) (Old rfl) <| Wz (.b (decide (p0.Hi < p0.Lo))) (Obn rfl (fun _ => hb_lss (k := .i64))) <| Wz (.b (decide (p0.Hi < p0.Lo))) (OpT rfl) <| Wz (.b (decide (p0.Hi < p0.Lo))) (OpF rfl) ?_
         rcases br hm with ⟨r3, hm⟩ | ⟨r3, hm⟩
         · refine Wz (.b true) (Oq r3 rfl) <| Wn <| Wn <| Wn <| Wn <| Wn <| Wn <| Wn <| Wn <| Wz (.b true) (OpT rfl) <| Wz (.b true) (OpT rfl) <| Nn ?_
           exact AWP.weak (Weak.toK 2417851639229258349412362 0 0 [0]) (J4 () hm)
         refine Wz (.b false) (Oq r3 rfl) <| Wz (.loc 0 2) (Ofa rfl) <| Wz (.i p0.Lo) (Old rfl) <| Wz (.b (decide (p0.Lo = 1))) (Obn rfl (fun _ => hb_eql (k := .i64))) ?_
         rcases br hm with ⟨b0, hm⟩ | ⟨b0, hm⟩
         · refine Wz (.b true) (Oq b0 rfl) <| Wz (.loc 0 3) (Ofa rfl) <| Wz (.i p0.Hi) (Old rfl) <| Wz (.b (decide (p0.Hi = 1))) (Obn rfl (fun _ => hb_eql (k := .i64))) <| Wz (.b (decide (p0.Hi = 1))) (OpT rfl) <| Wz (.b (decide (p0.Hi = 1))) (OpF rfl) <| Wz (.b (decide (p0.Hi = 1))) (OpT rfl) <| Nn ?_
           exact AWP.weak (Weak.toK 2417851639229258349412362 0 0 [0]) (J5 () hm)
         refine Wz (.b false) (Oq b0 rfl) <| Wn <| Wn <| Wn <| Wz (.b false) (OpF rfl) <| Wz (.b false) (OpF rfl) <| Wz (.b false) (OpT rfl) <| Nn ?_
         exact AWP.weak (Weak.toK 2417851639229258349412362 0 0 [0]) (J6 () hm)
       refine Wz (.b false) (Oq q3 rfl) <| Wn <| Wn <| Wn <| Wn <| Wn <| Wz (.b false) (OpF rfl) <| Wz (.b false) (OpF rfl) <| Wm (.b false) rfl <| Wz (.loc 0 2) (Ofa rfl) <| Wz (.i p0.Lo) (Old rfl) <| Wz (.b (decide (p0.Lo = 1))) (Obn rfl (fun _ => hb_eql (k := .i64))) ?_
       rcases br hm with ⟨b0, hm⟩ | ⟨b0, hm⟩
       · refine Wz (.b true) (Oq b0 rfl) <| Wz (.loc 0 3) (Ofa rfl) <| Wz (.i p0.Hi) (Old rfl) <| Wz (.b (decide (p0.Hi = 1))) (Obn rfl (fun _ => hb_eql (k := .i64))) <| Wz (.b (decide (p0.Hi = 1))) (OpT rfl) <| Wz (.b (decide (p0.Hi = 1))) (OpF rfl) <| Wz (.b (decide (p0.Hi = 1))) (OpT rfl) <| Nn ?_
         exact AWP.weak (Weak.toK 2417851639229258349412362 0 0 [0]) (J5 () hm)
       refine Wz (.b false) (Oq b0 rfl) <| Wn <| Wn <| Wn <| Wz (.b false) (OpF rfl) <| Wz (.b false) (OpF rfl) <| Wz (.b false) (OpT rfl) <| Nn ?_
       exact AWP.weak (Weak.toK 2417851639229258349412362 0 0 [0]) (J6 () hm)
     refine Wz (.b false) (Oq j3 rfl) <| Wn <| Wn <| Wn <| Wn <| Wn <| Wn <| Wn <| Wn <| Wn <| Wn <| Wn <| Wn <| Wn ?_
     refine Wn <| Wn <| Wn <| Wn <| Wn <| Wn <| Wn <| Wn <| Wn <| Wn <| Wn <| Wn <| Wn <| Wn ?_
     refine Wn <| Wn <| Wn <| Wn <| Wn <| Wn <| Wn <| Wn <| Wn <| Wn <| Wn <| Wn <| Wn <| Wn ?_
     refine Wn <| Wn <| Wn <| Wn <| Wz (.b false) (OpF rfl) <| Nn ?_
     exact AWP.weak (Weak.toK 2417851639229258349412362 0 0 [0]) (J6 () hm)
   refine Wz (.b false) (Oq e3 rfl) <| Wz (.loc 0 0) (Ofa rfl) <| Wz (.y p0.Kind) (Old rfl) <| Wz (.b (decide (((p0.Kind.toNat : Nat) : Int) = 2))) (Ob2 (.int .u8 ((p0.Kind.toNat : Nat) : Int)) (.int .u8 2) rfl (fun _ => hb_eql)) <| Wz (.b (decide (((p0.Kind.toNat : Nat) : Int) = 2))) (OpF rfl) <| Wm (.b (decide (((p0.Kind.toNat : Nat) : Int) = 2))) rfl <| Nk 26 1 ⟨tp 1 (.loc 0 0::tp 1 (.b true::.b (decide (((p0.Kind.toNat : Nat) : Int) = 2))::tp 137 [])), [(.box [(.y p0.Kind), (.i p0.Kids), (.i p0.Lo), (.i p0.Hi), (.s p0.Var), (.s p0.Type_), (.l enc_GNode_ p0.Test)])], 0⟩ ?_
   refine AWP.cutJ (α := Unit) (fun x => match x with | () => (⟨tp 1 (.loc 0 0::tp 1 (.b true::tp 138 [])), [(.box [(.y p0.Kind), (.i p0.Kids), (.i p0.Lo), (.i p0.Hi), (.s p0.Var), (.s p0.Type_), (.l enc_GNode_ p0.Test)])], 0⟩ : St)) (fun x => match x with | () => m_r13_needs_j14 p0 = some r) ?_ (fun J14 => ?_)
   ·
    rintro ⟨⟩ hm
    try dsimp only at hm ⊢
    unfold m_r13_needs_j14 at hm
    refine AWP.cutJ (α := Unit) (fun x => match x with | () => (⟨tp 1 (.loc 0 0::tp 1 (.b true::tp 138 [])), [(.box [(.y p0.Kind), (.i p0.Kids), (.i p0.Lo), (.i p0.Hi), (.s p0.Var), (.s p0.Type_), (.l enc_GNode_ p0.Test)])], 0⟩ : St)) (fun x => match x with | () => m_r13_needs_j19 p0 = some r) ?_ (fun J19 => ?_)
    ·
     rintro ⟨⟩ hm
     try dsimp only at hm ⊢
     unfold m_r13_needs_j19 at hm
     refine Sq ?_
     refine AWP.cutJ (α := Unit) (fun x => match x with | () => (⟨tp 1 (.loc 0 0::tp 1 (.b true::tp 96 (.b true::tp 41 []))), [(.box [(.y p0.Kind), (.i p0.Kids), (.i p0.Lo), (.i p0.Hi), (.s p0.Var), (.s p0.Type_), (.l enc_GNode_ p0.Test)])], 0⟩ : St)) (fun x => match x with | () => m_r13_needs_j21  = some r) ?_ (fun J21 => ?_)
     ·
      rintro ⟨⟩ hm
      try dsimp only at hm ⊢
      unfold m_r13_needs_j21 at hm
      refine AWP.if_ true (by kernel_rfl) <| Sx <| Wm (.i 4) rfl <| Nn <| Rt <| Tr ?_
      obtain rfl := sj hm
      exact ret_i []
     refine Sx <| Wm (.b true) rfl <| Wm (.b true) rfl <| Wz (.loc 0 4) (Ofa rfl) <| Wz (.s p0.Var) (Old rfl) ?_
     obtain ⟨e1, t3, hm⟩ := bnd hm
     refine Wz (.b e1) (Ocf [] [] [] 0 (ok_r06_Name p0.Var e1 t3) (fun a w => Try.call28 a w) rfl trivial) <| Wz (.b (!e1)) (Ocs (by kernel_rfl) (op_un rfl (a1 := .bool e1) (by kernel_rfl) (fun _ => hu_not))) ?_
     rcases br hm with ⟨i1, hm⟩ | ⟨i1, hm⟩
     · refine Wz (.b true) (Oq i1 rfl) <| Wn <| Wn <| Wn <| Wn <| Wz (.b true) (OpT rfl) <| Wm (.b true) rfl <| Wn <| Wn <| Wn <| Wn <| Wz (.b true) (OpT rfl) <| Wz (.b true) (OpT rfl) <| Nn ?_
       exact AWP.weak (Weak.toK 1267650600228229401496703205386 0 0 [0]) (J21 () hm)
     refine Wz (.b false) (Oq i1 rfl) <| Wz (.loc 0 5) (Ofa rfl) <| Wz (.s p0.Type_) (Old rfl) ?_
     obtain ⟨f0, u3, hm⟩ := bnd hm
     refine Wz (.b f0) (Ocf [] [] [] 0 (ok_r06_Name p0.Type_ f0 u3) (fun a w => Try.call28 a w) rfl trivial) <| Wz (.b (!f0)) (Ocs (by kernel_rfl) (op_un rfl (a1 := .bool f0) (by kernel_rfl) (fun _ => hu_not))) <| Wz (.b (!f0)) (OpF rfl) ?_
     rcases br hm with ⟨j1, hm⟩ | ⟨j1, hm⟩
     · refine Wz (.b true) (Oq j1 rfl) <| Wn <| Wn <| Wn <| Wn <| Wz (.b true) (OpT rfl) <| Wz (.b true) (OpT rfl) <| Nn ?_
       exact AWP.weak (Weak.toK 1267650600228229401496703205386 0 0 [0]) (J21 () hm)
     refine Wz (.b false) (Oq j1 rfl) <| Wz (.loc 0 6) (Ofa rfl) <| Wz (.l enc_GNode_ p0.Test) (Old rfl) ?_
     obtain ⟨c0, v3, hm⟩ := bnd hm
     refine Wz (.i c0) (Ocf [] [] [] 0 (ok_r11_Check p0.Test c0 v3) (fun a w => Try.call59 a w) rfl trivial) <| Wz (.b (decide (c0 ≠ 0))) (Obn rfl (fun _ => hb_neq (k := .i64))) <| Wz (.b (decide (c0 ≠ 0))) (OpF rfl) <| Wz (.b (decide (c0 ≠ 0))) (OpT rfl) <| Nk 1267650600228229401496703205386 1 ⟨tp 1 (.loc 0 0::tp 1 (.b true::tp 96 (.b (decide (c0 ≠ 0))::tp 41 []))), [(.box [(.y p0.Kind), (.i p0.Kids), (.i p0.Lo), (.i p0.Hi), (.s p0.Var), (.s p0.Type_), (.l enc_GNode_ p0.Test)])], 0⟩ ?_
     rcases br hm with ⟨o0, hm⟩ | ⟨o0, hm⟩
     · refine AiT o0 <| Sx <| Wm (.i 4) rfl <| Nn <| Rt <| Tr ?_
       obtain rfl := sj hm
       exact ret_i []
     refine AiF o0 <| Sk <| Tk 10 1 ⟨tp 1 (.loc 0 0::tp 1 (.b true::tp 138 [])), [(.box [(.y p0.Kind), (.i p0.Kids), (.i p0.Lo), (.i p0.Hi), (.s p0.Var), (.s p0.Type_), (.l enc_GNode_ p0.Test)])], 0⟩ <| Sq ?_
     refine AWP.cutJ (α := Unit) (fun x => match x with | () => (⟨tp 141 (.b true::[]), [], 0⟩ : St)) (fun x => match x with | () => m_r13_needs_j23  = some r) ?_ (fun J23 => ?_)
     ·
      rintro ⟨⟩ hm
      try dsimp only at hm ⊢
      unfold m_r13_needs_j23 at hm
      refine AWP.if_ true (by kernel_rfl) <| Sx <| Wm (.i 2) rfl <| Nn <| Rt <| Tr ?_
      obtain rfl := sj hm
      exact ret_i []
     refine AWP.cutJ (α := Unit) (fun x => match x with | () => (⟨tp 141 (.b false::[]), [], 0⟩ : St)) (fun x => match x with | () => m_r13_needs_j24  = some r) ?_ (fun J24 => ?_)
     ·
      rintro ⟨⟩ hm
      try dsimp only at hm ⊢
      unfold m_r13_needs_j24 at hm
      refine AWP.if_ false (by kernel_rfl) <| Sk <| Tk 0 0 ⟨tp 142 [], [], 0⟩ <| Sx <| Wm (.i 0) rfl <| Nn <| Rt ?_
      obtain rfl := sj hm
      exact ret_i []
     refine Sx <| Wm (.b true) rfl <| Wm (.b true) rfl <| Wz (.loc 0 1) (Ofa rfl) <| Wz (.i p0.Kids) (Old rfl) <| Wz (.b (decide (p0.Kids ≠ 0))) (Obn rfl (fun _ => hb_neq (k := .i64))) <| Wz (.b (decide (p0.Kids ≠ 0))) (OpT rfl) ?_
     rcases br hm with ⟨q0, hm⟩ | ⟨q0, hm⟩
     · refine Wz (.b true) (Oq q0 rfl) <| Wn <| Wn <| Wn <| Wn <| Wn <| Wn <| Wn <| Wn <| Wn <| Wn <| Wn <| Wn <| Wn ?_
       refine Wz (.b true) (OpT rfl) <| Wm (.b true) rfl <| Wn <| Wn <| Wn <| Wn <| Wn <| Wn <| Wn <| Wn <| Wn <| Wn <| Wn <| Wn ?_
       refine Wn <| Wn <| Wn <| Wn <| Wn <| Wn <| Wz (.b true) (OpT rfl) <| Nn ?_
       exact AWP.weak (Weak.toK 2787593149816327892691964784081045188247552 0 0 []) (J23 () hm)
     refine Wz (.b false) (Oq q0 rfl) <| Wz (.loc 0 0) (Ofa rfl) <| Wz (.y p0.Kind) (Old rfl) <| Wz (.b (decide (((p0.Kind.toNat : Nat) : Int) ≠ 3))) (Ob2 (.int .u8 ((p0.Kind.toNat : Nat) : Int)) (.int .u8 3) rfl (fun _ => hb_neq)) ?_
     rcases br hm with ⟨r0, hm⟩ | ⟨r0, hm⟩
     · refine Wz (.b true) (Oq r0 rfl) <| Wz (.loc 0 2) (Ofa rfl) <| Wz (.i p0.Lo) (Old rfl) <| Wz (.b (decide (p0.Lo ≠ 0))) (Obn rfl (fun _ => hb_neq (k := .i64))) ?_
       rcases br hm with ⟨s0, hm⟩ | ⟨s0, hm⟩
       · refine Wz (.b true) (Oq s0 rfl) <| Wn <| Wn <| Wn <| Wz (.b true) (OpT rfl) <| Wz (.b true) (OpT rfl) <| Wz (.b true) (OpF rfl) <| Wm (.b true) rfl <| Wn <| Wn <| Wn <| Wn <| Wn <| Wn ?_
         refine Wn <| Wn <| Wn <| Wn <| Wn <| Wn <| Wn <| Wn <| Wn <| Wn <| Wn <| Wn <| Wz (.b true) (OpT rfl) <| Nn ?_
         exact AWP.weak (Weak.toK 2787593149816327892691964784081045188247552 0 0 []) (J23 () hm)
       refine Wz (.b false) (Oq s0 rfl) <| Wz (.loc 0 3) (Ofa rfl) <| Wz (.i p0.Hi) (Old rfl) <| Wz (.b (decide (p0.Hi ≠ 0))) (Obn rfl (fun _ => hb_neq (k := .i64))) <| Wz (.b (decide (p0.Hi ≠ 0))) (OpF rfl) <| Wz (.b (decide (p0.Hi ≠ 0))) (OpT rfl) <| Wz (.b (decide (p0.Hi ≠ 0))) (OpF rfl) ?_
       rcases br hm with ⟨t0, hm⟩ | ⟨t0, hm⟩
       · refine Wz (.b true) (Oq t0 rfl) <| Wn <| Wn <| Wn <| Wn <| Wn <| Wn <| Wn <| Wn <| Wn <| Wn <| Wn <| Wn <| Wn ?_
         refine Wn <| Wn <| Wn <| Wn <| Wn <| Wz (.b true) (OpT rfl) <| Nn ?_
         exact AWP.weak (Weak.toK 2787593149816327892691964784081045188247552 0 0 []) (J23 () hm)
       refine Wz (.b false) (Oq t0 rfl) <| Wm (.b true) rfl <| Wz (.b false) (Ocs (by kernel_rfl) (op_un rfl (a1 := .bool true) (by kernel_rfl) (fun _ => hu_not))) <| Wm (.b false) rfl <| Wn <| Wn <| Wn <| Wn <| Wn <| Wn <| Wn <| Wn <| Wn <| Wn ?_
       refine Wn <| Wn <| Wn <| Wn <| Wz (.b false) (OpF rfl) <| Wz (.b false) (OpF rfl) <| Nn ?_
       exact AWP.weak (Weak.toK 2787593149816327892691964784081045188247552 0 0 []) (J24 () hm)
     refine Wz (.b false) (Oq r0 rfl) <| Wn <| Wn <| Wn <| Wn <| Wn <| Wn <| Wn <| Wn <| Wz (.b false) (OpF rfl) <| Wz (.b false) (OpF rfl) <| Wm (.b false) rfl <| Wm (.b true) rfl <| Wz (.b false) (Ocs (by kernel_rfl) (op_un rfl (a1 := .bool true) (by kernel_rfl) (fun _ => hu_not))) ?_
     refine Wm (.b false) rfl <| Wn <| Wn <| Wn <| Wn <| Wn <| Wn <| Wn <| Wn <| Wn <| Wn <| Wn <| Wn <| Wn ?_
     refine Wn <| Wz (.b false) (OpF rfl) <| Wz (.b false) (OpF rfl) <| Nn ?_
     exact AWP.weak (Weak.toK 2787593149816327892691964784081045188247552 0 0 []) (J24 () hm)
    refine Sq ?_
    refine AWP.cutJ (α := Unit) (fun x => match x with | () => (⟨tp 1 (.loc 0 0::tp 1 (.b true::tp 77 (.b true::tp 60 []))), [(.box [(.y p0.Kind), (.i p0.Kids), (.i p0.Lo), (.i p0.Hi), (.s p0.Var), (.s p0.Type_), (.l enc_GNode_ p0.Test)])], 0⟩ : St)) (fun x => match x with | () => m_r13_needs_j16  = some r) ?_ (fun J16 => ?_)
    ·
     rintro ⟨⟩ hm
     try dsimp only at hm ⊢
     unfold m_r13_needs_j16 at hm
     refine AWP.if_ true (by kernel_rfl) <| Sx <| Wm (.i 4) rfl <| Nn <| Rt <| Tr ?_
     obtain rfl := sj hm
     exact ret_i []
    refine AWP.cutJ (α := Unit) (fun x => match x with | () => (⟨tp 1 (.loc 0 0::tp 1 (.b true::tp 77 (.b (decide (p0.Hi = 1))::tp 60 []))), [(.box [(.y p0.Kind), (.i p0.Kids), (.i p0.Lo), (.i p0.Hi), (.s p0.Var), (.s p0.Type_), (.l enc_GNode_ p0.Test)])], 0⟩ : St)) (fun x => match x with | () => m_r13_needs_j17 p0 = some r) ?_ (fun J17 => ?_)
    ·
     rintro ⟨⟩ hm
     try dsimp only at hm ⊢
     unfold m_r13_needs_j17 at hm
     rcases br hm with ⟨k1, hm⟩ | ⟨k1, hm⟩
     · refine AiT k1 <| Sx <| Wm (.i 4) rfl <| Nn <| Rt <| Tr ?_
       obtain rfl := sj hm
       exact ret_i []
     refine AiF k1 <| Sk <| Tn ?_
     exact AWP.weak (Weak.toK 10 0 0 [0]) (J19 () hm)
    refine AWP.cutJ (α := Unit) (fun x => match x with | () => (⟨tp 1 (.loc 0 0::tp 1 (.b true::tp 77 (.b false::tp 60 []))), [(.box [(.y p0.Kind), (.i p0.Kids), (.i p0.Lo), (.i p0.Hi), (.s p0.Var), (.s p0.Type_), (.l enc_GNode_ p0.Test)])], 0⟩ : St)) (fun x => match x with | () => m_r13_needs_j18 p0 = some r) ?_ (fun J18 => ?_)
    ·
     rintro ⟨⟩ hm
     try dsimp only at hm ⊢
     unfold m_r13_needs_j18 at hm
     refine AWP.if_ false (by kernel_rfl) <| Sk <| Tn ?_
     exact AWP.weak (Weak.toK 10 0 0 [0]) (J19 () hm)
    refine Sx <| Wz (.loc 0 0) (Ofa rfl) <| Wz (.y p0.Kind) (Old rfl) <| Wz (.b (decide (((p0.Kind.toNat : Nat) : Int) = 3))) (Ob2 (.int .u8 ((p0.Kind.toNat : Nat) : Int)) (.int .u8 3) rfl (fun _ => hb_eql)) ?_
    rcases br hm with ⟨l1, hm⟩ | ⟨l1, hm⟩
    · refine Wz (.b true) (Oq l1 rfl) <| Wz (.loc 0 1) (Ofa rfl) <| Wz (.i p0.Kids) (Old rfl) <| Wz (.b (decide (p0.Kids ≠ 1))) (Obn rfl (fun _ => hb_neq (k := .i64))) ?_
      rcases br hm with ⟨m1, hm⟩ | ⟨m1, hm⟩
      · refine Wz (.b true) (Oq m1 rfl) <| Wn <| Wn <| Wn <| Wz (.b true) (OpT rfl) <| Wm (.b true) rfl <| Wn <| Wn <| Wn <| Wz (.b true) (OpT rfl) <| Wm (.b true) rfl <| Wn <| Wn <| Wn ?_
        refine Wz (.b true) (OpT rfl) <| Wm (.b true) rfl <| Wn <| Wn <| Wn <| Wz (.b true) (OpT rfl) <| Wm (.b true) rfl <| Wn <| Wn <| Wn <| Wn <| Wn <| Wn <| Wn ?_
        refine Wn <| Wn <| Wn <| Wz (.b true) (OpT rfl) <| Wm (.b true) rfl <| Wn <| Wn <| Wn <| Wn <| Wn <| Wn <| Wn <| Wn <| Wz (.b true) (OpT rfl) ?_
        refine Wz (.b true) (OpT rfl) <| Nn ?_
        exact AWP.weak (Weak.toK 2417851639229258349412362 0 0 [0]) (J16 () hm)
      refine Wz (.b false) (Oq m1 rfl) <| Wz (.loc 0 2) (Ofa rfl) <| Wz (.i p0.Lo) (Old rfl) <| Wz (.b (decide (p0.Lo < 0))) (Obn rfl (fun _ => hb_lss (k := .i64))) <| Wz (.b (decide (p0.Lo < 0))) (OpF rfl) ?_
      rcases br hm with ⟨n1, hm⟩ | ⟨n1, hm⟩
      · refine Wz (.b true) (Oq n1 rfl) <| Wn <| Wn <| Wn <| Wz (.b true) (OpT rfl) <| Wm (.b true) rfl <| Wn <| Wn <| Wn <| Wz (.b true) (OpT rfl) <| Wm (.b true) rfl <| Wn <| Wn <| Wn ?_
        refine Wz (.b true) (OpT rfl) <| Wm (.b true) rfl <| Wn <| Wn <| Wn <| Wn <| Wn <| Wn <| Wn <| Wn <| Wn <| Wn <| Wz (.b true) (OpT rfl) <| Wm (.b true) rfl ?_
        refine Wn <| Wn <| Wn <| Wn <| Wn <| Wn <| Wn <| Wn <| Wz (.b true) (OpT rfl) <| Wz (.b true) (OpT rfl) <| Nn ?_
        exact AWP.weak (Weak.toK 2417851639229258349412362 0 0 [0]) (J16 () hm)
      refine Wz (.b false) (Oq n1 rfl) <| Wz (.loc 0 2) (Ofa rfl) <| Wz (.i p0.Lo) (Old rfl) <| Wz (.b (decide ((8 : Int) < p0.Lo))) (Obn rfl (fun _ => hb_gtr (k := .i64))) <| Wz (.b (decide ((8 : Int) < p0.Lo))) (OpF rfl) ?_
      rcases br hm with ⟨o1, hm⟩ | ⟨o1, hm⟩
      · refine Wz (.b true) (Oq o1 rfl) <| Wn <| Wn <| Wn <| Wz (.b true) (OpT rfl) <| Wm (.b true) rfl <| Wn <| Wn <| Wn <| Wz (.b true) (OpT rfl) <| Wm (.b true) rfl <| Wn <| Wn <| Wn ?_
        refine Wn <| Wn <| Wn <| Wn <| Wn <| Wn <| Wn <| Wz (.b true) (OpT rfl) <| Wm (.b true) rfl <| Wn <| Wn <| Wn <| Wn <| Wn ?_
        refine Wn <| Wn <| Wn <| Wz (.b true) (OpT rfl) <| Wz (.b true) (OpT rfl) <| Nn ?_
        exact AWP.weak (Weak.toK 2417851639229258349412362 0 0 [0]) (J16 () hm)
      refine Wz (.b false) (Oq o1 rfl) <| Wz (.loc 0 3) (Ofa rfl) <| Wz (.i p0.Hi) (Old rfl) <| Wz (.b (decide (p0.Hi < 0))) (Obn rfl (fun _ => hb_lss (k := .i64))) <| Wz (.b (decide (p0.Hi < 0))) (OpF rfl) ?_
      rcases br hm with ⟨q1, hm⟩ | ⟨q1, hm⟩
      · refine Wz (.b true) (Oq q1 rfl) <| Wn <| Wn <| Wn <| Wz (.b true) (OpT rfl) <| Wm (.b true) rfl <| Wn <| Wn <| Wn <| Wn <| Wn <| Wn <| Wn <| Wn ?_
        refine Wn <| Wn <| Wz (.b true) (OpT rfl) <| Wm (.b true) rfl <| Wn <| Wn <| Wn <| Wn <| Wn <| Wn <| Wn <| Wn <| Wz (.b true) (OpT rfl) <| Wz (.b true) (OpT rfl) ?_
        refine Nn ?_
        exact AWP.weak (Weak.toK 2417851639229258349412362 0 0 [0]) (J16 () hm)
      refine Wz (.b false) (Oq q1 rfl) <| Wz (.loc 0 3) (Ofa rfl) <| Wz (.i p0.Hi) (Old rfl) <| Wz (.b (decide ((8 : Int) < p0.Hi))) (Obn rfl (fun _ => hb_gtr (k := .i64))) <| Wz (.b (decide ((8 : Int) < p0.Hi))) (OpF rfl) ?_
      rcases br hm with ⟨r1, hm⟩ | ⟨r1, hm⟩
      · refine Wz (.b true) (Oq r1 rfl) <| Wn <| Wn <| Wn <| Wn <| Wn <| Wn <| Wn <| Wn <| Wn <| Wn <| Wz (.b true) (OpT rfl) <| Wm (.b true) rfl <| Wn ?_
        refine Wn <| Wn <| Wn <| Wn <| Wn <| Wn <| Wn <| Wz (.b true) (OpT rfl) <| Wz (.b true) (OpT rfl) <| Nn ?_
        exact AWP.weak (Weak.toK 2417851639229258349412362 0 0 [0]) (J16 () hm)
      refine Wz (.b false) (Oq r1 rfl) <| Wz (.loc 0 3) (Ofa rfl) <| Wz (.i p0.Hi) (Old rfl) <| Wz (.b (decide ((0 : Int) < p0.Hi))) (Obn rfl (fun _ => hb_gtr (k := .i64))) ?_
      rcases br hm with ⟨s1, hm⟩ | ⟨s1, hm⟩
      · refine Wz (.b true) (Oq s1 rfl) <| Wz (.loc 0 3) (Ofa rfl) <| Wz (.i p0.Hi) (Old rfl) <| Wz (.loc 0 2) (Ofa rfl) <| Wz (.i p0.Lo) (Old rfl) <| Wz (.b (decide (p0.Hi < p0.Lo))) (Obn rfl (fun _ => hb_lss (k := .i64))) <| Wz (.b (decide (p0.Hi < p0.Lo))) (OpT rfl) <| Wz (.b (decide (p0.Hi < p0.Lo))) (OpF rfl) ?_
        rcases br hm with ⟨t1, hm⟩ | ⟨t1, hm⟩
        · refine Wz (.b true) (Oq t1 rfl) <| Wn <| Wn <| Wn <| Wn <| Wn <| Wn <| Wn <| Wn <| Wz (.b true) (OpT rfl) <| Wz (.b true) (OpT rfl) <| Nn ?_
          exact AWP.weak (Weak.toK 2417851639229258349412362 0 0 [0]) (J16 () hm)
        refine Wz (.b false) (Oq t1 rfl) <| Wz (.loc 0 2) (Ofa rfl) <| Wz (.i p0.Lo) (Old rfl) <| Wz (.b (decide (p0.Lo = 1))) (Obn rfl (fun _ => hb_eql (k := .i64))) ?_
        rcases br hm with ⟨v, hm⟩ | ⟨v, hm⟩
        · refine Wz (.b true) (Oq v rfl) <| Wz (.loc 0 3) (Ofa rfl) <| Wz (.i p0.Hi) (Old rfl) <| Wz (.b (decide (p0.Hi = 1))) (Obn rfl (fun _ => hb_eql (k := .i64))) <| Wz (.b (decide (p0.Hi = 1))) (OpT rfl) <| Wz (.b (decide (p0.Hi = 1))) (OpF rfl) <| Wz (.b (decide (p0.Hi = 1))) (OpT rfl) <| Nn ?_
          exact AWP.weak (Weak.toK 2417851639229258349412362 0 0 [0]) (J17 () hm)
        refine Wz (.b false) (Oq v rfl) <| Wn <| Wn <| Wn <| Wz (.b false) (OpF rfl) <| Wz (.b false) (OpF rfl) <| Wz (.b false) (OpT rfl) <| Nn ?_
        exact AWP.weak (Weak.toK 2417851639229258349412362 0 0 [0]) (J18 () hm)
      refine Wz (.b false) (Oq s1 rfl) <| Wn <| Wn <| Wn <| Wn <| Wn <| Wz (.b false) (OpF rfl) <| Wz (.b false) (OpF rfl) <| Wm (.b false) rfl <| Wz (.loc 0 2) (Ofa rfl) <| Wz (.i p0.Lo) (Old rfl) <| Wz (.b (decide (p0.Lo = 1))) (Obn rfl (fun _ => hb_eql (k := .i64))) ?_
      rcases br hm with ⟨v, hm⟩ | ⟨v, hm⟩
      · refine Wz (.b true) (Oq v rfl) <| Wz (.loc 0 3) (Ofa rfl) <| Wz (.i p0.Hi) (Old rfl) <| Wz (.b (decide (p0.Hi = 1))) (Obn rfl (fun _ => hb_eql (k := .i64))) <| Wz (.b (decide (p0.Hi = 1))) (OpT rfl) <| Wz (.b (decide (p0.Hi = 1))) (OpF rfl) <| Wz (.b (decide (p0.Hi = 1))) (OpT rfl) <| Nn ?_
        exact AWP.weak (Weak.toK 2417851639229258349412362 0 0 [0]) (J17 () hm)
      refine Wz (.b false) (Oq v rfl) <| Wn <| Wn <| Wn <| Wz (.b false) (OpF rfl) <| Wz (.b false) (OpF rfl) <| Wz (.b false) (OpT rfl) <| Nn ?_
      exact AWP.weak (Weak.toK 2417851639229258349412362 0 0 [0]) (J18 () hm)
    refine Wz (.b false) (Oq l1 rfl) <| Wn <| Wn <| Wn <| Wn <| Wn <| Wn <| Wn <| Wn <| Wn <| Wn <| Wn <| Wn <| Wn ?_
    refine Wn <| Wn <| Wn <| Wn <| Wn <| Wn <| Wn <| Wn <| Wn <| Wn <| Wn <| Wn <| Wn <| Wn ?_
    refine Wn <| Wn <| Wn <| Wn <| Wn <| Wn <| Wn <| Wn <| Wn <| Wn <| Wn <| Wn <| Wn <| Wn ?_
    refine Wn <| Wn <| Wn <| Wn <| Wz (.b false) (OpF rfl) <| Nn ?_
    exact AWP.weak (Weak.toK 2417851639229258349412362 0 0 [0]) (J18 () hm)
   refine Sq <| Sx <| Wm (.b (decide (((p0.Kind.toNat : Nat) : Int) = 2))) rfl ?_
   rcases br hm with ⟨u1, hm⟩ | ⟨u1, hm⟩
   · refine Wz (.b true) (Oq u1 rfl) <| Wz (.loc 0 1) (Ofa rfl) <| Wz (.i p0.Kids) (Old rfl) <| Wz (.b (decide (p0.Kids < 2))) (Obn rfl (fun _ => hb_lss (k := .i64))) ?_
     rcases br hm with ⟨v1, hm⟩ | ⟨v1, hm⟩
     · refine Wz (.b true) (Oq v1 rfl) <| Wn <| Wn <| Wn <| Wz (.b true) (OpT rfl) <| Wz (.b true) (OpT rfl) <| Nk 2147483658 1 ⟨tp 1 (.loc 0 0::tp 1 (.b true::tp 27 (.b true::tp 110 []))), [(.box [(.y p0.Kind), (.i p0.Kids), (.i p0.Lo), (.i p0.Hi), (.s p0.Var), (.s p0.Type_), (.l enc_GNode_ p0.Test)])], 0⟩ <| AWP.if_ true (by kernel_rfl) <| Sx <| Wm (.i 4) rfl <| Nn <| Rt <| Tr ?_
       obtain rfl := sj hm
       exact ret_i []
     refine Wz (.b false) (Oq v1 rfl) <| Wz (.loc 0 1) (Ofa rfl) <| Wz (.i p0.Kids) (Old rfl) <| Wz (.b (decide ((40 : Int) < p0.Kids))) (Obn rfl (fun _ => hb_gtr (k := .i64))) <| Wz (.b (decide ((40 : Int) < p0.Kids))) (OpF rfl) <| Wz (.b (decide ((40 : Int) < p0.Kids))) (OpT rfl) <| Nk 2147483658 1 ⟨tp 1 (.loc 0 0::tp 1 (.b true::tp 27 (.b (decide ((40 : Int) < p0.Kids))::tp 110 []))), [(.box [(.y p0.Kind), (.i p0.Kids), (.i p0.Lo), (.i p0.Hi), (.s p0.Var), (.s p0.Type_), (.l enc_GNode_ p0.Test)])], 0⟩ ?_
     rcases br hm with ⟨w1, hm⟩ | ⟨w1, hm⟩
     · refine AiT w1 <| Sx <| Wm (.i 4) rfl <| Nn <| Rt <| Tr ?_
       obtain rfl := sj hm
       exact ret_i []
     refine AiF w1 <| Sk <| Tn ?_
     exact AWP.weak (Weak.toK 10 0 0 [0]) (J14 () hm)
   refine Wz (.b false) (Oq u1 rfl) <| Wn <| Wn <| Wn <| Wn <| Wn <| Wn <| Wn <| Wn <| Wz (.b false) (OpF rfl) <| Nk 2147483658 1 ⟨tp 1 (.loc 0 0::tp 1 (.b true::tp 27 (.b false::tp 110 []))), [(.box [(.y p0.Kind), (.i p0.Kids), (.i p0.Lo), (.i p0.Hi), (.s p0.Var), (.s p0.Type_), (.l enc_GNode_ p0.Test)])], 0⟩ <| AWP.if_ false (by kernel_rfl) <| Sk <| Tn ?_
   exact AWP.weak (Weak.toK 10 0 0 [0]) (J14 () hm)
 refine Wz (.b false) (Oq s3 rfl) <| Wz (.loc 0 0) (Ofa rfl) <| Wz (.y p0.Kind) (Old rfl) <| Wz (.b (decide (((p0.Kind.toNat : Nat) : Int) = 5))) (Ob2 (.int .u8 ((p0.Kind.toNat : Nat) : Int)) (.int .u8 5) rfl (fun _ => hb_eql)) <| Wz (.b (decide (((p0.Kind.toNat : Nat) : Int) = 5))) (OpF rfl) <| Wm (.b (decide (((p0.Kind.toNat : Nat) : Int) = 5))) rfl <| Nk 10 1 ⟨tp 1 (.loc 0 0::tp 1 (.b (decide (((p0.Kind.toNat : Nat) : Int) = 5))::tp 138 [])), [(.box [(.y p0.Kind), (.i p0.Kids), (.i p0.Lo), (.i p0.Hi), (.s p0.Var), (.s p0.Type_), (.l enc_GNode_ p0.Test)])], 0⟩ <| Sx <| Wz (.loc 0 0) (Ofa rfl) <| Wz (.y p0.Kind) (Old rfl) <| Wz (.b (decide (((p0.Kind.toNat : Nat) : Int) = 1))) (Ob2 (.int .u8 ((p0.Kind.toNat : Nat) : Int)) (.int .u8 1) rfl (fun _ => hb_eql)) ?_
 rcases br hm with ⟨x1, hm⟩ | ⟨x1, hm⟩
 · refine Wz (.b true) (Oq x1 rfl) <| Wn <| Wn <| Wn <| Wz (.b true) (OpT rfl) <| Wm (.b true) rfl <| Nk 26 1 ⟨tp 1 (.loc 0 0::tp 1 (.b (decide (((p0.Kind.toNat : Nat) : Int) = 5))::.b true::tp 137 [])), [(.box [(.y p0.Kind), (.i p0.Kids), (.i p0.Lo), (.i p0.Hi), (.s p0.Var), (.s p0.Type_), (.l enc_GNode_ p0.Test)])], 0⟩ <| Sq <| Sx <| Wm (.b true) rfl <| Wm (.b true) rfl <| Wz (.loc 0 1) (Ofa rfl) <| Wz (.i p0.Kids) (Old rfl) <| Wz (.b (decide (p0.Kids < 2))) (Obn rfl (fun _ => hb_lss (k := .i64))) ?_
   rcases br hm with ⟨y1, hm⟩ | ⟨y1, hm⟩
   · refine Wz (.b true) (Oq y1 rfl) <| Wn <| Wn <| Wn <| Wz (.b true) (OpT rfl) <| Wz (.b true) (OpT rfl) <| Nk 2147483658 1 ⟨tp 1 (.loc 0 0::tp 1 (.b (decide (((p0.Kind.toNat : Nat) : Int) = 5))::tp 27 (.b true::tp 110 []))), [(.box [(.y p0.Kind), (.i p0.Kids), (.i p0.Lo), (.i p0.Hi), (.s p0.Var), (.s p0.Type_), (.l enc_GNode_ p0.Test)])], 0⟩ <| AWP.if_ true (by kernel_rfl) <| Sx <| Wm (.i 4) rfl <| Nn <| Rt <| Tr ?_
     obtain rfl := sj hm
     exact ret_i []
   refine Wz (.b false) (Oq y1 rfl) <| Wz (.loc 0 1) (Ofa rfl) <| Wz (.i p0.Kids) (Old rfl) <| Wz (.b (decide ((40 : Int) < p0.Kids))) (Obn rfl (fun _ => hb_gtr (k := .i64))) <| Wz (.b (decide ((40 : Int) < p0.Kids))) (OpF rfl) <| Wz (.b (decide ((40 : Int) < p0.Kids))) (OpT rfl) <| Nk 2147483658 1 ⟨tp 1 (.loc 0 0::tp 1 (.b (decide (((p0.Kind.toNat : Nat) : Int) = 5))::tp 27 (.b (decide ((40 : Int) < p0.Kids))::tp 110 []))), [(.box [(.y p0.Kind), (.i p0.Kids), (.i p0.Lo), (.i p0.Hi), (.s p0.Var), (.s p0.Type_), (.l enc_GNode_ p0.Test)])], 0⟩ ?_
   rcases br hm with ⟨z1, hm⟩ | ⟨z1, hm⟩
   · refine AiT z1 <| Sx <| Wm (.i 4) rfl <| Nn <| Rt <| Tr ?_
     obtain rfl := sj hm
     exact ret_i []
   refine AiF z1 <| Sk <| Tk 10 1 ⟨tp 1 (.loc 0 0::tp 1 (.b (decide (((p0.Kind.toNat : Nat) : Int) = 5))::tp 138 [])), [(.box [(.y p0.Kind), (.i p0.Kids), (.i p0.Lo), (.i p0.Hi), (.s p0.Var), (.s p0.Type_), (.l enc_GNode_ p0.Test)])], 0⟩ ?_
   refine AWP.cutJ (α := Unit) (fun x => match x with | () => (⟨tp 1 (.loc 0 0::tp 1 (.b (decide (((p0.Kind.toNat : Nat) : Int) = 5))::tp 138 [])), [(.box [(.y p0.Kind), (.i p0.Kids), (.i p0.Lo), (.i p0.Hi), (.s p0.Var), (.s p0.Type_), (.l enc_GNode_ p0.Test)])], 0⟩ : St)) (fun x => match x with | () => m_r13_needs_j31 p0 = some r) ?_ (fun J31 => ?_)
   ·
    rintro ⟨⟩ hm
    try dsimp only at hm ⊢
    unfold m_r13_needs_j31 at hm
    refine AWP.cutJ (α := Unit) (fun x => match x with | () => (⟨tp 1 (.loc 0 0::tp 1 (.b (decide (((p0.Kind.toNat : Nat) : Int) = 5))::tp 138 [])), [(.box [(.y p0.Kind), (.i p0.Kids), (.i p0.Lo), (.i p0.Hi), (.s p0.Var), (.s p0.Type_), (.l enc_GNode_ p0.Test)])], 0⟩ : St)) (fun x => match x with | () => m_r13_needs_j34 p0 = some r) ?_ (fun J34 => ?_)
    ·
     rintro ⟨⟩ hm
     try dsimp only at hm ⊢
     unfold m_r13_needs_j34 at hm
     refine Sq ?_
     refine AWP.cutJ (α := Unit) (fun x => match x with | () => (⟨tp 141 (.b true::[]), [], 0⟩ : St)) (fun x => match x with | () => m_r13_needs_j36  = some r) ?_ (fun J36 => ?_)
     ·
      rintro ⟨⟩ hm
      try dsimp only at hm ⊢
      unfold m_r13_needs_j36 at hm
      refine AWP.if_ true (by kernel_rfl) <| Sx <| Wm (.i 2) rfl <| Nn <| Rt <| Tr ?_
      obtain rfl := sj hm
      exact ret_i []
     refine AWP.cutJ (α := Unit) (fun x => match x with | () => (⟨tp 141 (.b (decide ((0 : Int) < ((List.length p0.Test : Nat) : Int)))::[]), [], 0⟩ : St)) (fun x => match x with | () => m_r13_needs_j37 p0 = some r) ?_ (fun J37 => ?_)
     ·
      rintro ⟨⟩ hm
      try dsimp only at hm ⊢
      unfold m_r13_needs_j37 at hm
      rcases br hm with ⟨u0, hm⟩ | ⟨u0, hm⟩
      · refine AiT u0 <| Sx <| Wm (.i 2) rfl <| Nn <| Rt <| Tr ?_
        obtain rfl := sj hm
        exact ret_i []
      refine AiF u0 <| Sk <| Tk 0 0 ⟨tp 142 [], [], 0⟩ <| Sx <| Wm (.i 0) rfl <| Nn <| Rt ?_
      obtain rfl := sj hm
      exact ret_i []
     refine AWP.cutJ (α := Unit) (fun x => match x with | () => (⟨tp 141 (.b false::[]), [], 0⟩ : St)) (fun x => match x with | () => m_r13_needs_j38  = some r) ?_ (fun J38 => ?_)
     ·
      rintro ⟨⟩ hm
      try dsimp only at hm ⊢
      unfold m_r13_needs_j38 at hm
      refine AWP.if_ false (by kernel_rfl) <| Sk <| Tk 0 0 ⟨tp 142 [], [], 0⟩ <| Sx <| Wm (.i 0) rfl <| Nn <| Rt ?_
      obtain rfl := sj hm
      exact ret_i []
     refine Sx <| Wm (.b (decide (((p0.Kind.toNat : Nat) : Int) = 5))) rfl ?_
     rcases br hm with ⟨v0, hm⟩ | ⟨v0, hm⟩
     · refine Wz (.b true) (Oq v0 rfl) <| Wz (.loc 0 1) (Ofa rfl) <| Wz (.i p0.Kids) (Old rfl) <| Wz (.b (decide (p0.Kids ≠ 0))) (Obn rfl (fun _ => hb_neq (k := .i64))) <| Wz (.b (decide (p0.Kids ≠ 0))) (OpT rfl) ?_
       rcases br hm with ⟨w0, hm⟩ | ⟨w0, hm⟩
       · refine Wz (.b true) (Oq w0 rfl) <| Wn <| Wn <| Wn <| Wn <| Wn <| Wn <| Wn <| Wn <| Wn <| Wn <| Wn <| Wn <| Wn ?_
         refine Wz (.b true) (OpT rfl) <| Wm (.b true) rfl <| Wn <| Wn <| Wn <| Wn <| Wn <| Wn <| Wn <| Wn <| Wn <| Wn <| Wn <| Wn ?_
         refine Wn <| Wn <| Wn <| Wn <| Wn <| Wn <| Wz (.b true) (OpT rfl) <| Nn ?_
         exact AWP.weak (Weak.toK 2787593149816327892691964784081045188247552 0 0 []) (J36 () hm)
       refine Wz (.b false) (Oq w0 rfl) <| Wz (.loc 0 0) (Ofa rfl) <| Wz (.y p0.Kind) (Old rfl) <| Wz (.b (decide (((p0.Kind.toNat : Nat) : Int) ≠ 3))) (Ob2 (.int .u8 ((p0.Kind.toNat : Nat) : Int)) (.int .u8 3) rfl (fun _ => hb_neq)) ?_
       rcases br hm with ⟨m, hm⟩ | ⟨m, hm⟩
       · refine Wz (.b true) (Oq m rfl) <| Wz (.loc 0 2) (Ofa rfl) <| Wz (.i p0.Lo) (Old rfl) <| Wz (.b (decide (p0.Lo ≠ 0))) (Obn rfl (fun _ => hb_neq (k := .i64))) ?_
         rcases br hm with ⟨o, hm⟩ | ⟨o, hm⟩
         · refine Wz (.b true) (Oq o rfl) <| Wn <| Wn <| Wn <| Wz (.b true) (OpT rfl) <| Wz (.b true) (OpT rfl) <| Wz (.b true) (OpF rfl) <| Wm (.b true) rfl <| Wn <| Wn <| Wn <| Wn <| Wn <| Wn ?_
           refine Wn <| Wn <| Wn <| Wn <| Wn <| Wn <| Wn <| Wn <| Wn <| Wn <| Wn <| Wn <| Wz (.b true) (OpT rfl) <| Nn ?_
           exact AWP.weak (Weak.toK 2787593149816327892691964784081045188247552 0 0 []) (J36 () hm)
         refine Wz (.b false) (Oq o rfl) <| Wz (.loc 0 3) (Ofa rfl) <| Wz (.i p0.Hi) (Old rfl) <| Wz (.b (decide (p0.Hi ≠ 0))) (Obn rfl (fun _ => hb_neq (k := .i64))) <| Wz (.b (decide (p0.Hi ≠ 0))) (OpF rfl) <| Wz (.b (decide (p0.Hi ≠ 0))) (OpT rfl) <| Wz (.b (decide (p0.Hi ≠ 0))) (OpF rfl) ?_
         rcases br hm with ⟨p, hm⟩ | ⟨p, hm⟩
         · refine Wz (.b true) (Oq p rfl) <| Wn <| Wn <| Wn <| Wn <| Wn <| Wn <| Wn <| Wn <| Wn <| Wn <| Wn <| Wn <| Wn ?_
           refine Wn <| Wn <| Wn <| Wn <| Wn <| Wz (.b true) (OpT rfl) <| Nn ?_
           exact AWP.weak (Weak.toK 2787593149816327892691964784081045188247552 0 0 []) (J36 () hm)
         refine Wz (.b false) (Oq p rfl) <| Wm (.b (decide (((p0.Kind.toNat : Nat) : Int) = 5))) rfl <| Wz (.b (!decide (((p0.Kind.toNat : Nat) : Int) = 5))) (Ocs (by kernel_rfl) (op_un rfl (a1 := .bool (decide (((p0.Kind.toNat : Nat) : Int) = 5))) (by kernel_rfl) (fun _ => hu_not))) ?_
         rcases br hm with ⟨c, hm⟩ | ⟨c, hm⟩
         · refine Wz (.b true) (Oq c rfl) <| Wz (.loc 0 4) (Ofa rfl) <| Wz (.s p0.Var) (Old rfl) <| Wz (.b (decide (p0.Var ≠ ([] : List UInt8)))) (Ocs (lit_tf (by simp only [toS_inj, ne_eq])) (op_bin rfl (a1 := .string (toS p0.Var)) (a2 := .string (toS ([] : List UInt8))) (by kernel_rfl) (by kernel_rfl) (fun _ => hb_sneq))) ?_
           rcases br hm with ⟨d, hm⟩ | ⟨d, hm⟩
           · refine Wz (.b true) (Oq d rfl) <| Wn <| Wn <| Wn <| Wz (.b true) (OpT rfl) <| Wm (.b true) rfl <| Wn <| Wn <| Wn <| Wn <| Wz (.b true) (OpT rfl) <| Wz (.b true) (OpT rfl) <| Wz (.b true) (OpF rfl) <| Nn ?_
             exact AWP.weak (Weak.toK 2787593149816327892691964784081045188247552 0 0 []) (J36 () hm)
           refine Wz (.b false) (Oq d rfl) <| Wz (.loc 0 5) (Ofa rfl) <| Wz (.s p0.Type_) (Old rfl) <| Wz (.b (decide (p0.Type_ ≠ ([] : List UInt8)))) (Ocs (lit_tf (by simp only [toS_inj, ne_eq])) (op_bin rfl (a1 := .string (toS p0.Type_)) (a2 := .string (toS ([] : List UInt8))) (by kernel_rfl) (by kernel_rfl) (fun _ => hb_sneq))) <| Wz (.b (decide (p0.Type_ ≠ ([] : List UInt8)))) (OpF rfl) ?_
           rcases br hm with ⟨e, hm⟩ | ⟨e, hm⟩
           · refine Wz (.b true) (Oq e rfl) <| Wn <| Wn <| Wn <| Wn <| Wz (.b true) (OpT rfl) <| Wz (.b true) (OpT rfl) <| Wz (.b true) (OpF rfl) <| Nn ?_
             exact AWP.weak (Weak.toK 2787593149816327892691964784081045188247552 0 0 []) (J36 () hm)
           refine Wz (.b false) (Oq e rfl) <| Wz (.loc 0 6) (Ofa rfl) <| Wz (.l enc_GNode_ p0.Test) (Old rfl) <| Wz (.i ((List.length p0.Test : Nat) : Int)) (Oln rfl) <| Wz (.b (decide ((0 : Int) < ((List.length p0.Test : Nat) : Int)))) (Obn rfl (fun _ => hb_gtr (k := .i64))) <| Wz (.b (decide ((0 : Int) < ((List.length p0.Test : Nat) : Int)))) (OpF rfl) <| Wz (.b (decide ((0 : Int) < ((List.length p0.Test : Nat) : Int)))) (OpT rfl) <| Wz (.b (decide ((0 : Int) < ((List.length p0.Test : Nat) : Int)))) (OpF rfl) <| Nn ?_
           exact AWP.weak (Weak.toK 2787593149816327892691964784081045188247552 0 0 []) (J37 () hm)
         refine Wz (.b false) (Oq c rfl) <| Wn <| Wn <| Wn <| Wn <| Wn <| Wn <| Wn <| Wn <| Wn <| Wn <| Wn <| Wn <| Wn ?_
         refine Wn <| Wz (.b false) (OpF rfl) <| Wz (.b false) (OpF rfl) <| Nn ?_
         exact AWP.weak (Weak.toK 2787593149816327892691964784081045188247552 0 0 []) (J38 () hm)
       refine Wz (.b false) (Oq m rfl) <| Wn <| Wn <| Wn <| Wn <| Wn <| Wn <| Wn <| Wn <| Wz (.b false) (OpF rfl) <| Wz (.b false) (OpF rfl) <| Wm (.b false) rfl <| Wm (.b (decide (((p0.Kind.toNat : Nat) : Int) = 5))) rfl <| Wz (.b (!decide (((p0.Kind.toNat : Nat) : Int) = 5))) (Ocs (by kernel_rfl) (op_un rfl (a1 := .bool (decide (((p0.Kind.toNat : Nat) : Int) = 5))) (by kernel_rfl) (fun _ => hu_not))) ?_
       rcases br hm with ⟨c, hm⟩ | ⟨c, hm⟩
       · refine Wz (.b true) (Oq c rfl) <| Wz (.loc 0 4) (Ofa rfl) <| Wz (.s p0.Var) (Old rfl) <| Wz (.b (decide (p0.Var ≠ ([] : List UInt8)))) (Ocs (lit_tf (by simp only [toS_inj, ne_eq])) (op_bin rfl (a1 := .string (toS p0.Var)) (a2 := .string (toS ([] : List UInt8))) (by kernel_rfl) (by kernel_rfl) (fun _ => hb_sneq))) ?_
         rcases br hm with ⟨d, hm⟩ | ⟨d, hm⟩
         · refine Wz (.b true) (Oq d rfl) <| Wn <| Wn <| Wn <| Wz (.b true) (OpT rfl) <| Wm (.b true) rfl <| Wn <| Wn <| Wn <| Wn <| Wz (.b true) (OpT rfl) <| Wz (.b true) (OpT rfl) <| Wz (.b true) (OpF rfl) <| Nn ?_
           exact AWP.weak (Weak.toK 2787593149816327892691964784081045188247552 0 0 []) (J36 () hm)
         refine Wz (.b false) (Oq d rfl) <| Wz (.loc 0 5) (Ofa rfl) <| Wz (.s p0.Type_) (Old rfl) <| Wz (.b (decide (p0.Type_ ≠ ([] : List UInt8)))) (Ocs (lit_tf (by simp only [toS_inj, ne_eq])) (op_bin rfl (a1 := .string (toS p0.Type_)) (a2 := .string (toS ([] : List UInt8))) (by kernel_rfl) (by kernel_rfl) (fun _ => hb_sneq))) <| Wz (.b (decide (p0.Type_ ≠ ([] : List UInt8)))) (OpF rfl) ?_
         rcases br hm with ⟨e, hm⟩ | ⟨e, hm⟩
         · refine Wz (.b true) (Oq e rfl) <| Wn <| Wn <| Wn <| Wn <| Wz (.b true) (OpT rfl) <| Wz (.b true) (OpT rfl) <| Wz (.b true) (OpF rfl) <| Nn ?_
           exact AWP.weak (Weak.toK 2787593149816327892691964784081045188247552 0 0 []) (J36 () hm)
         refine Wz (.b false) (Oq e rfl) <| Wz (.loc 0 6) (Ofa rfl) <| Wz (.l enc_GNode_ p0.Test) (Old rfl) <| Wz (.i ((List.length p0.Test : Nat) : Int)) (Oln rfl) <| Wz (.b (decide ((0 : Int) < ((List.length p0.Test : Nat) : Int)))) (Obn rfl (fun _ => hb_gtr (k := .i64))) <| Wz (.b (decide ((0 : Int) < ((List.length p0.Test : Nat) : Int)))) (OpF rfl) <| Wz (.b (decide ((0 : Int) < ((List.length p0.Test : Nat) : Int)))) (OpT rfl) <| Wz (.b (decide ((0 : Int) < ((List.length p0.Test : Nat) : Int)))) (OpF rfl) <| Nn ?_
         exact AWP.weak (Weak.toK 2787593149816327892691964784081045188247552 0 0 []) (J37 () hm)
       refine Wz (.b false) (Oq c rfl) <| Wn <| Wn <| Wn <| Wn <| Wn <| Wn <| Wn <| Wn <| Wn <| Wn <| Wn <| Wn <| Wn ?_
       refine Wn <| Wz (.b false) (OpF rfl) <| Wz (.b false) (OpF rfl) <| Nn ?_
       exact AWP.weak (Weak.toK 2787593149816327892691964784081045188247552 0 0 []) (J38 () hm)
     refine Wz (.b false) (Oq v0 rfl) <| Wn <| Wn <| Wn <| Wz (.b false) (OpF rfl) <| Wm (.b false) rfl <| Wz (.loc 0 0) (Ofa rfl) <| Wz (.y p0.Kind) (Old rfl) <| Wz (.b (decide (((p0.Kind.toNat : Nat) : Int) ≠ 3))) (Ob2 (.int .u8 ((p0.Kind.toNat : Nat) : Int)) (.int .u8 3) rfl (fun _ => hb_neq)) ?_
     rcases br hm with ⟨m, hm⟩ | ⟨m, hm⟩
     · refine Wz (.b true) (Oq m rfl) <| Wz (.loc 0 2) (Ofa rfl) <| Wz (.i p0.Lo) (Old rfl) <| Wz (.b (decide (p0.Lo ≠ 0))) (Obn rfl (fun _ => hb_neq (k := .i64))) ?_
       rcases br hm with ⟨o, hm⟩ | ⟨o, hm⟩
       · refine Wz (.b true) (Oq o rfl) <| Wn <| Wn <| Wn <| Wz (.b true) (OpT rfl) <| Wz (.b true) (OpT rfl) <| Wz (.b true) (OpF rfl) <| Wm (.b true) rfl <| Wn <| Wn <| Wn <| Wn <| Wn <| Wn ?_
         refine Wn <| Wn <| Wn <| Wn <| Wn <| Wn <| Wn <| Wn <| Wn <| Wn <| Wn <| Wn <| Wz (.b true) (OpT rfl) <| Nn ?_
         exact AWP.weak (Weak.toK 2787593149816327892691964784081045188247552 0 0 []) (J36 () hm)
       refine Wz (.b false) (Oq o rfl) <| Wz (.loc 0 3) (Ofa rfl) <| Wz (.i p0.Hi) (Old rfl) <| Wz (.b (decide (p0.Hi ≠ 0))) (Obn rfl (fun _ => hb_neq (k := .i64))) <| Wz (.b (decide (p0.Hi ≠ 0))) (OpF rfl) <| Wz (.b (decide (p0.Hi ≠ 0))) (OpT rfl) <| Wz (.b (decide (p0.Hi ≠ 0))) (OpF rfl) ?_
       rcases br hm with ⟨p, hm⟩ | ⟨p, hm⟩
       · refine Wz (.b true) (Oq p rfl) <| Wn <| Wn <| Wn <| Wn <| Wn <| Wn <| Wn <| Wn <| Wn <| Wn <| Wn <| Wn <| Wn ?_
         refine Wn <| Wn <| Wn <| Wn <| Wn <| Wz (.b true) (OpT rfl) <| Nn ?_
         exact AWP.weak (Weak.toK 2787593149816327892691964784081045188247552 0 0 []) (J36 () hm)
       refine Wz (.b false) (Oq p rfl) <| Wm (.b (decide (((p0.Kind.toNat : Nat) : Int) = 5))) rfl <| Wz (.b (!decide (((p0.Kind.toNat : Nat) : Int) = 5))) (Ocs (by kernel_rfl) (op_un rfl (a1 := .bool (decide (((p0.Kind.toNat : Nat) : Int) = 5))) (by kernel_rfl) (fun _ => hu_not))) ?_
       rcases br hm with ⟨c, hm⟩ | ⟨c, hm⟩
       · refine Wz (.b true) (Oq c rfl) <| Wz (.loc 0 4) (Ofa rfl) <| Wz (.s p0.Var) (Old rfl) <| Wz (.b (decide (p0.Var ≠ ([] : List UInt8)))) (Ocs (lit_tf (by simp only [toS_inj, ne_eq])) (op_bin rfl (a1 := .string (toS p0.Var)) (a2 := .string (toS ([] : List UInt8))) (by kernel_rfl) (by kernel_rfl) (fun _ => hb_sneq))) ?_
         rcases br hm with ⟨d, hm⟩ | ⟨d, hm⟩
         · refine Wz (.b true) (Oq d rfl) <| Wn <| Wn <| Wn <| Wz (.b true) (OpT rfl) <| Wm (.b true) rfl <| Wn <| Wn <| Wn <| Wn <| Wz (.b true) (OpT rfl) <| Wz (.b true) (OpT rfl) <| Wz (.b true) (OpF rfl) <| Nn ?_
           exact AWP.weak (Weak.toK 2787593149816327892691964784081045188247552 0 0 []) (J36 () hm)
         refine Wz (.b false) (Oq d rfl) <| Wz (.loc 0 5) (Ofa rfl) <| Wz (.s p0.Type_) (Old rfl) <| Wz (.b (decide (p0.Type_ ≠ ([] : List UInt8)))) (Ocs (lit_tf (by simp only [toS_inj, ne_eq])) (op_bin rfl (a1 := .string (toS p0.Type_)) (a2 := .string (toS ([] : List UInt8))) (by kernel_rfl) (by kernel_rfl) (fun _ => hb_sneq))) <| Wz (.b (decide (p0.Type_ ≠ ([] : List UInt8)))) (OpF rfl) ?_
         rcases br hm with ⟨e, hm⟩ | ⟨e, hm⟩
         · refine Wz (.b true) (Oq e rfl) <| Wn <| Wn <| Wn <| Wn <| Wz (.b true) (OpT rfl) <| Wz (.b true) (OpT rfl) <| Wz (.b true) (OpF rfl) <| Nn ?_
           exact AWP.weak (Weak.toK 2787593149816327892691964784081045188247552 0 0 []) (J36 () hm)
         refine Wz (.b false) (Oq e rfl) <| Wz (.loc 0 6) (Ofa rfl) <| Wz (.l enc_GNode_ p0.Test) (Old rfl) <| Wz (.i ((List.length p0.Test : Nat) : Int)) (Oln rfl) <| Wz (.b (decide ((0 : Int) < ((List.length p0.Test : Nat) : Int)))) (Obn rfl (fun _ => hb_gtr (k := .i64))) <| Wz (.b (decide ((0 : Int) < ((List.length p0.Test : Nat) : Int)))) (OpF rfl) <| Wz (.b (decide ((0 : Int) < ((List.length p0.Test : Nat) : Int)))) (OpT rfl) <| Wz (.b (decide ((0 : Int) < ((List.length p0.Test : Nat) : Int)))) (OpF rfl) <| Nn ?_
         exact AWP.weak (Weak.toK 2787593149816327892691964784081045188247552 0 0 []) (J37 () hm)
       refine Wz (.b false) (Oq c rfl) <| Wn <| Wn <| Wn <| Wn <| Wn <| Wn <| Wn <| Wn <| Wn <| Wn <| Wn <| Wn <| Wn ?_
       refine Wn <| Wz (.b false) (OpF rfl) <| Wz (.b false) (OpF rfl) <| Nn ?_
       exact AWP.weak (Weak.toK 2787593149816327892691964784081045188247552 0 0 []) (J38 () hm)
     refine Wz (.b false) (Oq m rfl) <| Wn <| Wn <| Wn <| Wn <| Wn <| Wn <| Wn <| Wn <| Wz (.b false) (OpF rfl) <| Wz (.b false) (OpF rfl) <| Wm (.b false) rfl <| Wm (.b (decide (((p0.Kind.toNat : Nat) : Int) = 5))) rfl <| Wz (.b (!decide (((p0.Kind.toNat : Nat) : Int) = 5))) (Ocs (by kernel_rfl) (op_un rfl (a1 := .bool (decide (((p0.Kind.toNat : Nat) : Int) = 5))) (by kernel_rfl) (fun _ => hu_not))) ?_
     rcases br hm with ⟨c, hm⟩ | ⟨c, hm⟩
     · refine Wz (.b true) (Oq c rfl) <| Wz (.loc 0 4) (Ofa rfl) <| Wz (.s p0.Var) (Old rfl) <| Wz (.b (decide (p0.Var ≠ ([] : List UInt8)))) (Ocs (lit_tf (by simp only [toS_inj, ne_eq])) (op_bin rfl (a1 := .string (toS p0.Var)) (a2 := .string (toS ([] : List UInt8))) (by kernel_rfl) (by kernel_rfl) (fun _ => hb_sneq))) ?_
       rcases br hm with ⟨d, hm⟩ | ⟨d, hm⟩
       · refine Wz (.b true) (Oq d rfl) <| Wn <| Wn <| Wn <| Wz (.b true) (OpT rfl) <| Wm (.b true) rfl <| Wn <| Wn <| Wn <| Wn <| Wz (.b true) (OpT rfl) <| Wz (.b true) (OpT rfl) <| Wz (.b true) (OpF rfl) <| Nn ?_
         exact AWP.weak (Weak.toK 2787593149816327892691964784081045188247552 0 0 []) (J36 () hm)
       refine Wz (.b false) (Oq d rfl) <| Wz (.loc 0 5) (Ofa rfl) <| Wz (.s p0.Type_) (Old rfl) <| Wz (.b (decide (p0.Type_ ≠ ([] : List UInt8)))) (Ocs (lit_tf (by simp only [toS_inj, ne_eq])) (op_bin rfl (a1 := .string (toS p0.Type_)) (a2 := .string (toS ([] : List UInt8))) (by kernel_rfl) (by kernel_rfl) (fun _ => hb_sneq))) <| Wz (.b (decide (p0.Type_ ≠ ([] : List UInt8)))) (OpF rfl) ?_
       rcases br hm with ⟨e, hm⟩ | ⟨e, hm⟩
       · refine Wz (.b true) (Oq e rfl) <| Wn <| Wn <| Wn <| Wn <| Wz (.b true) (OpT rfl) <| Wz (.b true) (OpT rfl) <| Wz (.b true) (OpF rfl) <| Nn ?_
         exact AWP.weak (Weak.toK 2787593149816327892691964784081045188247552 0 0 []) (J36 () hm)
       refine Wz (.b false) (Oq e rfl) <| Wz (.loc 0 6) (Ofa rfl) <| Wz (.l enc_GNode_ p0.Test) (Old rfl) <| Wz (.i ((List.length p0.Test : Nat) : Int)) (Oln rfl) <| Wz (.b (decide ((0 : Int) < ((List.length p0.Test : Nat) : Int)))) (Obn rfl (fun _ => hb_gtr (k := .i64))) <| Wz (.b (decide ((0 : Int) < ((List.length p0.Test : Nat) : Int)))) (OpF rfl) <| Wz (.b (decide ((0 : Int) < ((List.length p0.Test : Nat) : Int)))) (OpT rfl) <| Wz (.b (decide ((0 : Int) < ((List.length p0.Test : Nat) : Int)))) (OpF rfl) <| Nn ?_
       exact AWP.weak (Weak.toK 2787593149816327892691964784081045188247552 0 0 []) (J37 () hm)
     refine Wz (.b false) (Oq c rfl) <| Wn <| Wn <| Wn <| Wn <| Wn <| Wn <| Wn <| Wn <| Wn <| Wn <| Wn <| Wn <| Wn ?_
     refine Wn <| Wz (.b false) (OpF rfl) <| Wz (.b false) (OpF rfl) <| Nn ?_
     exact AWP.weak (Weak.toK 2787593149816327892691964784081045188247552 0 0 []) (J38 () hm)
    refine Sq ?_
    refine AWP.cutJ (α := Unit) (fun x => match x with | () => (⟨tp 1 (.loc 0 0::tp 1 (.b (decide (((p0.Kind.toNat : Nat) : Int) = 5))::tp 96 (.b true::tp 41 []))), [(.box [(.y p0.Kind), (.i p0.Kids), (.i p0.Lo), (.i p0.Hi), (.s p0.Var), (.s p0.Type_), (.l enc_GNode_ p0.Test)])], 0⟩ : St)) (fun x => match x with | () => m_r13_needs_j33  = some r) ?_ (fun J33 => ?_)
    ·
     rintro ⟨⟩ hm
     try dsimp only at hm ⊢
     unfold m_r13_needs_j33 at hm
     refine AWP.if_ true (by kernel_rfl) <| Sx <| Wm (.i 4) rfl <| Nn <| Rt <| Tr ?_
     obtain rfl := sj hm
     exact ret_i []
    refine Sx <| Wm (.b (decide (((p0.Kind.toNat : Nat) : Int) = 5))) rfl ?_
    rcases br hm with ⟨b2, hm⟩ | ⟨b2, hm⟩
    · refine Wz (.b true) (Oq b2 rfl) <| Wz (.loc 0 4) (Ofa rfl) <| Wz (.s p0.Var) (Old rfl) ?_
      obtain ⟨f1, w3, hm⟩ := bnd hm
      refine Wz (.b f1) (Ocf [] [] [] 0 (ok_r06_Name p0.Var f1 w3) (fun a w => Try.call28 a w) rfl trivial) <| Wz (.b (!f1)) (Ocs (by kernel_rfl) (op_un rfl (a1 := .bool f1) (by kernel_rfl) (fun _ => hu_not))) ?_
      rcases br hm with ⟨c2, hm⟩ | ⟨c2, hm⟩
      · refine Wz (.b true) (Oq c2 rfl) <| Wn <| Wn <| Wn <| Wn <| Wz (.b true) (OpT rfl) <| Wm (.b true) rfl <| Wn <| Wn <| Wn <| Wn <| Wz (.b true) (OpT rfl) <| Wz (.b true) (OpT rfl) <| Nn ?_
        exact AWP.weak (Weak.toK 1267650600228229401496703205386 0 0 [0]) (J33 () hm)
      refine Wz (.b false) (Oq c2 rfl) <| Wz (.loc 0 5) (Ofa rfl) <| Wz (.s p0.Type_) (Old rfl) ?_
      obtain ⟨g0, x3, hm⟩ := bnd hm
      refine Wz (.b g0) (Ocf [] [] [] 0 (ok_r06_Name p0.Type_ g0 x3) (fun a w => Try.call28 a w) rfl trivial) <| Wz (.b (!g0)) (Ocs (by kernel_rfl) (op_un rfl (a1 := .bool g0) (by kernel_rfl) (fun _ => hu_not))) <| Wz (.b (!g0)) (OpF rfl) ?_
      rcases br hm with ⟨d2, hm⟩ | ⟨d2, hm⟩
      · refine Wz (.b true) (Oq d2 rfl) <| Wn <| Wn <| Wn <| Wn <| Wz (.b true) (OpT rfl) <| Wz (.b true) (OpT rfl) <| Nn ?_
        exact AWP.weak (Weak.toK 1267650600228229401496703205386 0 0 [0]) (J33 () hm)
      refine Wz (.b false) (Oq d2 rfl) <| Wz (.loc 0 6) (Ofa rfl) <| Wz (.l enc_GNode_ p0.Test) (Old rfl) ?_
      obtain ⟨d0, y3, hm⟩ := bnd hm
      refine Wz (.i d0) (Ocf [] [] [] 0 (ok_r11_Check p0.Test d0 y3) (fun a w => Try.call59 a w) rfl trivial) <| Wz (.b (decide (d0 ≠ 0))) (Obn rfl (fun _ => hb_neq (k := .i64))) <| Wz (.b (decide (d0 ≠ 0))) (OpF rfl) <| Wz (.b (decide (d0 ≠ 0))) (OpT rfl) <| Nk 1267650600228229401496703205386 1 ⟨tp 1 (.loc 0 0::tp 1 (.b (decide (((p0.Kind.toNat : Nat) : Int) = 5))::tp 96 (.b (decide (d0 ≠ 0))::tp 41 []))), [(.box [(.y p0.Kind), (.i p0.Kids), (.i p0.Lo), (.i p0.Hi), (.s p0.Var), (.s p0.Type_), (.l enc_GNode_ p0.Test)])], 0⟩ ?_
      rcases br hm with ⟨x0, hm⟩ | ⟨x0, hm⟩
      · refine AiT x0 <| Sx <| Wm (.i 4) rfl <| Nn <| Rt <| Tr ?_
        obtain rfl := sj hm
        exact ret_i []
      refine AiF x0 <| Sk <| Tn ?_
      exact AWP.weak (Weak.toK 10 0 0 [0]) (J34 () hm)
    refine Wz (.b false) (Oq b2 rfl) <| Wn <| Wn <| Wn <| Wn <| Wn <| Wn <| Wn <| Wn <| Wn <| Wn <| Wn <| Wn <| Wn ?_
    refine Wn <| Wn <| Wn <| Wz (.b false) (OpF rfl) <| Nk 1267650600228229401496703205386 1 ⟨tp 1 (.loc 0 0::tp 1 (.b (decide (((p0.Kind.toNat : Nat) : Int) = 5))::tp 96 (.b false::tp 41 []))), [(.box [(.y p0.Kind), (.i p0.Kids), (.i p0.Lo), (.i p0.Hi), (.s p0.Var), (.s p0.Type_), (.l enc_GNode_ p0.Test)])], 0⟩ <| AWP.if_ false (by kernel_rfl) <| Sk <| Tn ?_
    exact AWP.weak (Weak.toK 10 0 0 [0]) (J34 () hm)
   refine Sq ?_
   refine AWP.cutJ (α := Unit) (fun x => match x with | () => (⟨tp 1 (.loc 0 0::tp 1 (.b (decide (((p0.Kind.toNat : Nat) : Int) = 5))::tp 77 (.b true::tp 60 []))), [(.box [(.y p0.Kind), (.i p0.Kids), (.i p0.Lo), (.i p0.Hi), (.s p0.Var), (.s p0.Type_), (.l enc_GNode_ p0.Test)])], 0⟩ : St)) (fun x => match x with | () => m_r13_needs_j28  = some r) ?_ (fun J28 => ?_)
   ·
    rintro ⟨⟩ hm
    try dsimp only at hm ⊢
    unfold m_r13_needs_j28 at hm
    refine AWP.if_ true (by kernel_rfl) <| Sx <| Wm (.i 4) rfl <| Nn <| Rt <| Tr ?_
    obtain rfl := sj hm
    exact ret_i []
   refine AWP.cutJ (α := Unit) (fun x => match x with | () => (⟨tp 1 (.loc 0 0::tp 1 (.b (decide (((p0.Kind.toNat : Nat) : Int) = 5))::tp 77 (.b (decide (p0.Hi = 1))::tp 60 []))), [(.box [(.y p0.Kind), (.i p0.Kids), (.i p0.Lo), (.i p0.Hi), (.s p0.Var), (.s p0.Type_), (.l enc_GNode_ p0.Test)])], 0⟩ : St)) (fun x => match x with | () => m_r13_needs_j29 p0 = some r) ?_ (fun J29 => ?_)
   ·
    rintro ⟨⟩ hm
    try dsimp only at hm ⊢
    unfold m_r13_needs_j29 at hm
    rcases br hm with ⟨e2, hm⟩ | ⟨e2, hm⟩
    · refine AiT e2 <| Sx <| Wm (.i 4) rfl <| Nn <| Rt <| Tr ?_
      obtain rfl := sj hm
      exact ret_i []
    refine AiF e2 <| Sk <| Tn ?_
    exact AWP.weak (Weak.toK 10 0 0 [0]) (J31 () hm)
   refine AWP.cutJ (α := Unit) (fun x => match x with | () => (⟨tp 1 (.loc 0 0::tp 1 (.b (decide (((p0.Kind.toNat : Nat) : Int) = 5))::tp 77 (.b false::tp 60 []))), [(.box [(.y p0.Kind), (.i p0.Kids), (.i p0.Lo), (.i p0.Hi), (.s p0.Var), (.s p0.Type_), (.l enc_GNode_ p0.Test)])], 0⟩ : St)) (fun x => match x with | () => m_r13_needs_j30 p0 = some r) ?_ (fun J30 => ?_)
   ·
    rintro ⟨⟩ hm
    try dsimp only at hm ⊢
    unfold m_r13_needs_j30 at hm
    refine AWP.if_ false (by kernel_rfl) <| Sk <| Tn ?_
    exact AWP.weak (Weak.toK 10 0 0 [0]) (J31 () hm)
   refine Sx <| Wz (.loc 0 0) (Ofa rfl) <| Wz (.y p0.Kind) (Old rfl) <| Wz (.b (decide (((p0.Kind.toNat : Nat) : Int) = 3))) (Ob2 (.int .u8 ((p0.Kind.toNat : Nat) : Int)) (.int .u8 3) rfl (fun _ => hb_eql)) ?_
   rcases br hm with ⟨f2, hm⟩ | ⟨f2, hm⟩
   · refine Wz (.b true) (Oq f2 rfl) <| Wz (.loc 0 1) (Ofa rfl) <| Wz (.i p0.Kids) (Old rfl) <| Wz (.b (decide (p0.Kids ≠ 1))) (Obn rfl (fun _ => hb_neq (k := .i64))) ?_
     rcases br hm with ⟨g2, hm⟩ | ⟨g2, hm⟩
     · refine Wz (.b true) (Oq g2 rfl) <| Wn <| Wn <| Wn <| Wz (.b true) (OpT rfl) <| Wm (.b true) rfl <| Wn <| Wn <| Wn <| Wz (.b true) (OpT rfl) <| Wm (.b true) rfl <| Wn <| Wn <| Wn ?_
       refine Wz (.b true) (OpT rfl) <| Wm (.b true) rfl <| Wn <| Wn <| Wn <| Wz (.b true) (OpT rfl) <| Wm (.b true) rfl <| Wn <| Wn <| Wn <| Wn <| Wn <| Wn <| Wn ?_
       refine Wn <| Wn <| Wn <| Wz (.b true) (OpT rfl) <| Wm (.b true) rfl <| Wn <| Wn <| Wn <| Wn <| Wn <| Wn <| Wn <| Wn <| Wz (.b true) (OpT rfl) ?_
       refine Wz (.b true) (OpT rfl) <| Nn ?_
       exact AWP.weak (Weak.toK 2417851639229258349412362 0 0 [0]) (J28 () hm)
     refine Wz (.b false) (Oq g2 rfl) <| Wz (.loc 0 2) (Ofa rfl) <| Wz (.i p0.Lo) (Old rfl) <| Wz (.b (decide (p0.Lo < 0))) (Obn rfl (fun _ => hb_lss (k := .i64))) <| Wz (.b (decide (p0.Lo < 0))) (OpF rfl) ?_
     rcases br hm with ⟨h2, hm⟩ | ⟨h2, hm⟩
     · refine Wz (.b true) (Oq h2 rfl) <| Wn <| Wn <| Wn <| Wz (.b true) (OpT rfl) <| Wm (.b true) rfl <| Wn <| Wn <| Wn <| Wz (.b true) (OpT rfl) <| Wm (.b true) rfl <| Wn <| Wn <| Wn ?_
       refine Wz (.b true) (OpT rfl) <| Wm (.b true) rfl <| Wn <| Wn <| Wn <| Wn <| Wn <| Wn <| Wn <| Wn <| Wn <| Wn <| Wz (.b true) (OpT rfl) <| Wm (.b true) rfl ?_
       refine Wn <| Wn <| Wn <| Wn <| Wn <| Wn <| Wn <| Wn <| Wz (.b true) (OpT rfl) <| Wz (.b true) (OpT rfl) <| Nn ?_
       exact AWP.weak (Weak.toK 2417851639229258349412362 0 0 [0]) (J28 () hm)
     refine Wz (.b false) (Oq h2 rfl) <| Wz (.loc 0 2) (Ofa rfl) <| Wz (.i p0.Lo) (Old rfl) <| Wz (.b (decide ((8 : Int) < p0.Lo))) (Obn rfl (fun _ => hb_gtr (k := .i64))) <| Wz (.b (decide ((8 : Int) < p0.Lo))) (OpF rfl) ?_
     rcases br hm with ⟨i2, hm⟩ | ⟨i2, hm⟩
     · refine Wz (.b true) (Oq i2 rfl) <| Wn <| Wn <| Wn <| Wz (.b true) (OpT rfl) <| Wm (.b true) rfl <| Wn <| Wn <| Wn <| Wz (.b true) (OpT rfl) <| Wm (.b true) rfl <| Wn <| Wn <| Wn ?_
       refine Wn <| Wn <| Wn <| Wn <| Wn <| Wn <| Wn <| Wz (.b true) (OpT rfl) <| Wm (.b true) rfl <| Wn <| Wn <| Wn <| Wn <| Wn ?_
       refine Wn <| Wn <| Wn <| Wz (.b true) (OpT rfl) <| Wz (.b true) (OpT rfl) <| Nn ?_
       exact AWP.weak (Weak.toK 2417851639229258349412362 0 0 [0]) (J28 () hm)
     refine Wz (.b false) (Oq i2 rfl) <| Wz (.loc 0 3) (Ofa rfl) <| Wz (.i p0.Hi) (Old rfl) <| Wz (.b (decide (p0.Hi < 0))) (Obn rfl (fun _ => hb_lss (k := .i64))) <| Wz (.b (decide (p0.Hi < 0))) (OpF rfl) ?_
     rcases br hm with ⟨j2, hm⟩ | ⟨j2, hm⟩
     · refine Wz (.b true) (Oq j2 rfl) <| Wn <| Wn <| Wn <| Wz (.b true) (OpT rfl) <| Wm (.b true) rfl <| Wn <| Wn <| Wn <| Wn <| Wn <| Wn <| Wn <| Wn ?_
       refine Wn <| Wn <| Wz (.b true) (OpT rfl) <| Wm (.b true) rfl <| Wn <| Wn <| Wn <| Wn <| Wn <| Wn <| Wn <| Wn <| Wz (.b true) (OpT rfl) <| Wz (.b true) (OpT rfl) ?_
       refine Nn ?_
       exact AWP.weak (Weak.toK 2417851639229258349412362 0 0 [0]) (J28 () hm)
     refine Wz (.b false) (Oq j2 rfl) <| Wz (.loc 0 3) (Ofa rfl) <| Wz (.i p0.Hi) (Old rfl) <| Wz (.b (decide ((8 : Int) < p0.Hi))) (Obn rfl (fun _ => hb_gtr (k := .i64))) <| Wz (.b (decide ((8 : Int) < p0.Hi))) (OpF rfl) ?_
     rcases br hm with ⟨k2, hm⟩ | ⟨k2, hm⟩
     · refine Wz (.b true) (Oq k2 rfl) <| Wn <| Wn <| Wn <| Wn <| Wn <| Wn <| Wn <| Wn <| Wn <| Wn <| Wz (.b true) (OpT rfl) <| Wm (.b true) rfl <| Wn ?_
       refine Wn <| Wn <| Wn <| Wn <| Wn <| Wn <| Wn <| Wz (.b true) (OpT rfl) <| Wz (.b true) (OpT rfl) <| Nn ?_
       exact AWP.weak (Weak.toK 2417851639229258349412362 0 0 [0]) (J28 () hm)
     refine Wz (.b false) (Oq k2 rfl) <| Wz (.loc 0 3) (Ofa rfl) <| Wz (.i p0.Hi) (Old rfl) <| Wz (.b (decide ((0 : Int) < p0.Hi))) (Obn rfl (fun _ => hb_gtr (k := .i64))) ?_
     rcases br hm with ⟨l2, hm⟩ | ⟨l2, hm⟩
     · refine Wz (.b true) (Oq l2 rfl) <| Wz (.loc 0 3) (Ofa rfl) <| Wz (.i p0.Hi) (Old rfl) <| Wz (.loc 0 2) (Ofa rfl) <| Wz (.i p0.Lo) (Old rfl) <| Wz (.b (decide (p0.Hi < p0.Lo))) (Obn rfl (fun _ => hb_lss (k := .i64))) <| Wz (.b (decide (p0.Hi < p0.Lo))) (OpT rfl) <| Wz (.b (decide (p0.Hi < p0.Lo))) (OpF rfl) ?_
       rcases br hm with ⟨m2, hm⟩ | ⟨m2, hm⟩
       · refine Wz (.b true) (Oq m2 rfl) <| Wn <| Wn <| Wn <| Wn <| Wn <| Wn <| Wn <| Wn <| Wz (.b true) (OpT rfl) <| Wz (.b true) (OpT rfl) <| Nn ?_
         exact AWP.weak (Weak.toK 2417851639229258349412362 0 0 [0]) (J28 () hm)
       refine Wz (.b false) (Oq m2 rfl) <| Wz (.loc 0 2) (Ofa rfl) <| Wz (.i p0.Lo) (Old rfl) <| Wz (.b (decide (p0.Lo = 1))) (Obn rfl (fun _ => hb_eql (k := .i64))) ?_
       rcases br hm with ⟨z, hm⟩ | ⟨z, hm⟩
       · refine Wz (.b true) (Oq z rfl) <| Wz (.loc 0 3) (Ofa rfl) <| Wz (.i p0.Hi) (Old rfl) <| Wz (.b (decide (p0.Hi = 1))) (Obn rfl (fun _ => hb_eql (k := .i64))) <| Wz (.b (decide (p0.Hi = 1))) (OpT rfl) <| Wz (.b (decide (p0.Hi = 1))) (OpF rfl) <| Wz (.b (decide (p0.Hi = 1))) (OpT rfl) <| Nn ?_
         exact AWP.weak (Weak.toK 2417851639229258349412362 0 0 [0]) (J29 () hm)
       refine Wz (.b false) (Oq z rfl) <| Wn <| Wn <| Wn <| Wz (.b false) (OpF rfl) <| Wz (.b false) (OpF rfl) <| Wz (.b false) (OpT rfl) <| Nn ?_
       exact AWP.weak (Weak.toK 2417851639229258349412362 0 0 [0]) (J30 () hm)
     refine Wz (.b false) (Oq l2 rfl) <| Wn <| Wn <| Wn <| Wn <| Wn <| Wz (.b false) (OpF rfl) <| Wz (.b false) (OpF rfl) <| Wm (.b false) rfl <| Wz (.loc 0 2) (Ofa rfl) <| Wz (.i p0.Lo) (Old rfl) <| Wz (.b (decide (p0.Lo = 1))) (Obn rfl (fun _ => hb_eql (k := .i64))) ?_
     rcases br hm with ⟨z, hm⟩ | ⟨z, hm⟩
     · refine Wz (.b true) (Oq z rfl) <| Wz (.loc 0 3) (Ofa rfl) <| Wz (.i p0.Hi) (Old rfl) <| Wz (.b (decide (p0.Hi = 1))) (Obn rfl (fun _ => hb_eql (k := .i64))) <| Wz (.b (decide (p0.Hi = 1))) (OpT rfl) <| Wz (.b (decide (p0.Hi = 1))) (OpF rfl) <| Wz (.b (decide (p0.Hi = 1))) (OpT rfl) <| Nn ?_
       exact AWP.weak (Weak.toK 2417851639229258349412362 0 0 [0]) (J29 () hm)
     refine Wz (.b false) (Oq z rfl) <| Wn <| Wn <| Wn <| Wz (.b false) (OpF rfl) <| Wz (.b false) (OpF rfl) <| Wz (.b false) (OpT rfl) <| Nn ?_
     exact AWP.weak (Weak.toK 2417851639229258349412362 0 0 [0]) (J30 () hm)
   refine Wz (.b false) (Oq f2 rfl) <| Wn <| Wn <| Wn <| Wn <| Wn <| Wn <| Wn <| Wn <| Wn <| Wn <| Wn <| Wn <| Wn ?_
   refine Wn <| Wn <| Wn <| Wn <| Wn <| Wn <| Wn <| Wn <| Wn <| Wn <| Wn <| Wn <| Wn <| Wn ?_
   refine Wn <| Wn <| Wn <| Wn <| Wn <| Wn <| Wn <| Wn <| Wn <| Wn <| Wn <| Wn <| Wn <| Wn ?_
   refine Wn <| Wn <| Wn <| Wn <| Wz (.b false) (OpF rfl) <| Nn ?_
   exact AWP.weak (Weak.toK 2417851639229258349412362 0 0 [0]) (J30 () hm)
 refine Wz (.b false) (Oq x1 rfl) <| Wz (.loc 0 0) (Ofa rfl) <| Wz (.y p0.Kind) (Old rfl) <| Wz (.b (decide (((p0.Kind.toNat : Nat) : Int) = 2))) (Ob2 (.int .u8 ((p0.Kind.toNat : Nat) : Int)) (.int .u8 2) rfl (fun _ => hb_eql)) <| Wz (.b (decide (((p0.Kind.toNat : Nat) : Int) = 2))) (OpF rfl) <| Wm (.b (decide (((p0.Kind.toNat : Nat) : Int) = 2))) rfl <| Nk 26 1 ⟨tp 1 (.loc 0 0::tp 1 (.b (decide (((p0.Kind.toNat : Nat) : Int) = 5))::.b (decide (((p0.Kind.toNat : Nat) : Int) = 2))::tp 137 [])), [(.box [(.y p0.Kind), (.i p0.Kids), (.i p0.Lo), (.i p0.Hi), (.s p0.Var), (.s p0.Type_), (.l enc_GNode_ p0.Test)])], 0⟩ ?_
 refine AWP.cutJ (α := Unit) (fun x => match x with | () => (⟨tp 1 (.loc 0 0::tp 1 (.b (decide (((p0.Kind.toNat : Nat) : Int) = 5))::tp 138 [])), [(.box [(.y p0.Kind), (.i p0.Kids), (.i p0.Lo), (.i p0.Hi), (.s p0.Var), (.s p0.Type_), (.l enc_GNode_ p0.Test)])], 0⟩ : St)) (fun x => match x with | () => m_r13_needs_j40 p0 = some r) ?_ (fun J40 => ?_)
 ·
  rintro ⟨⟩ hm
  try dsimp only at hm ⊢
  unfold m_r13_needs_j40 at hm
  refine AWP.cutJ (α := Unit) (fun x => match x with | () => (⟨tp 1 (.loc 0 0::tp 1 (.b (decide (((p0.Kind.toNat : Nat) : Int) = 5))::tp 138 [])), [(.box [(.y p0.Kind), (.i p0.Kids), (.i p0.Lo), (.i p0.Hi), (.s p0.Var), (.s p0.Type_), (.l enc_GNode_ p0.Test)])], 0⟩ : St)) (fun x => match x with | () => m_r13_needs_j45 p0 = some r) ?_ (fun J45 => ?_)
  ·
   rintro ⟨⟩ hm
   try dsimp only at hm ⊢
   unfold m_r13_needs_j45 at hm
   refine AWP.cutJ (α := Unit) (fun x => match x with | () => (⟨tp 1 (.loc 0 0::tp 1 (.b (decide (((p0.Kind.toNat : Nat) : Int) = 5))::tp 138 [])), [(.box [(.y p0.Kind), (.i p0.Kids), (.i p0.Lo), (.i p0.Hi), (.s p0.Var), (.s p0.Type_), (.l enc_GNode_ p0.Test)])], 0⟩ : St)) (fun x => match x with | () => m_r13_needs_j48 p0 = some r) ?_ (fun J48 => ?_)
   ·
    rintro ⟨⟩ hm
    try dsimp only at hm ⊢
    unfold m_r13_needs_j48 at hm
    refine Sq ?_
    refine AWP.cutJ (α := Unit) (fun x => match x with | () => (⟨tp 141 (.b true::[]), [], 0⟩ : St)) (fun x => match x with | () => m_r13_needs_j50  = some r) ?_ (fun J50 => ?_)
    ·
     rintro ⟨⟩ hm
     try dsimp only at hm ⊢
     unfold m_r13_needs_j50 at hm
     refine AWP.if_ true (by kernel_rfl) <| Sx <| Wm (.i 2) rfl <| Nn <| Rt <| Tr ?_
     obtain rfl := sj hm
     exact ret_i []
    refine AWP.cutJ (α := Unit) (fun x => match x with | () => (⟨tp 141 (.b (decide ((0 : Int) < ((List.length p0.Test : Nat) : Int)))::[]), [], 0⟩ : St)) (fun x => match x with | () => m_r13_needs_j51 p0 = some r) ?_ (fun J51 => ?_)
    ·
     rintro ⟨⟩ hm
     try dsimp only at hm ⊢
     unfold m_r13_needs_j51 at hm
     rcases br hm with ⟨y0, hm⟩ | ⟨y0, hm⟩
     · refine AiT y0 <| Sx <| Wm (.i 2) rfl <| Nn <| Rt <| Tr ?_
       obtain rfl := sj hm
       exact ret_i []
     refine AiF y0 <| Sk <| Tk 0 0 ⟨tp 142 [], [], 0⟩ <| Sx <| Wm (.i 0) rfl <| Nn <| Rt ?_
     obtain rfl := sj hm
     exact ret_i []
    refine AWP.cutJ (α := Unit) (fun x => match x with | () => (⟨tp 141 (.b false::[]), [], 0⟩ : St)) (fun x => match x with | () => m_r13_needs_j52  = some r) ?_ (fun J52 => ?_)
    ·
     rintro ⟨⟩ hm
     try dsimp only at hm ⊢
     unfold m_r13_needs_j52 at hm
     refine AWP.if_ false (by kernel_rfl) <| Sk <| Tk 0 0 ⟨tp 142 [], [], 0⟩ <| Sx <| Wm (.i 0) rfl <| Nn <| Rt ?_
     obtain rfl := sj hm
     exact ret_i []
    refine Sx <| Wm (.b (decide (((p0.Kind.toNat : Nat) : Int) = 5))) rfl ?_
    rcases br hm with ⟨z0, hm⟩ | ⟨z0, hm⟩
    · refine Wz (.b true) (Oq z0 rfl) <| Wz (.loc 0 1) (Ofa rfl) <| Wz (.i p0.Kids) (Old rfl) <| Wz (.b (decide (p0.Kids ≠ 0))) (Obn rfl (fun _ => hb_neq (k := .i64))) <| Wz (.b (decide (p0.Kids ≠ 0))) (OpT rfl) ?_
      rcases br hm with ⟨b1, hm⟩ | ⟨b1, hm⟩
      · refine Wz (.b true) (Oq b1 rfl) <| Wn <| Wn <| Wn <| Wn <| Wn <| Wn <| Wn <| Wn <| Wn <| Wn <| Wn <| Wn <| Wn ?_
        refine Wz (.b true) (OpT rfl) <| Wm (.b true) rfl <| Wn <| Wn <| Wn <| Wn <| Wn <| Wn <| Wn <| Wn <| Wn <| Wn <| Wn <| Wn ?_
        refine Wn <| Wn <| Wn <| Wn <| Wn <| Wn <| Wz (.b true) (OpT rfl) <| Nn ?_
        exact AWP.weak (Weak.toK 2787593149816327892691964784081045188247552 0 0 []) (J50 () hm)
      refine Wz (.b false) (Oq b1 rfl) <| Wz (.loc 0 0) (Ofa rfl) <| Wz (.y p0.Kind) (Old rfl) <| Wz (.b (decide (((p0.Kind.toNat : Nat) : Int) ≠ 3))) (Ob2 (.int .u8 ((p0.Kind.toNat : Nat) : Int)) (.int .u8 3) rfl (fun _ => hb_neq)) ?_
      rcases br hm with ⟨q, hm⟩ | ⟨q, hm⟩
      · refine Wz (.b true) (Oq q rfl) <| Wz (.loc 0 2) (Ofa rfl) <| Wz (.i p0.Lo) (Old rfl) <| Wz (.b (decide (p0.Lo ≠ 0))) (Obn rfl (fun _ => hb_neq (k := .i64))) ?_
        rcases br hm with ⟨t, hm⟩ | ⟨t, hm⟩
        · refine Wz (.b true) (Oq t rfl) <| Wn <| Wn <| Wn <| Wz (.b true) (OpT rfl) <| Wz (.b true) (OpT rfl) <| Wz (.b true) (OpF rfl) <| Wm (.b true) rfl <| Wn <| Wn <| Wn <| Wn <| Wn <| Wn ?_
          refine Wn <| Wn <| Wn <| Wn <| Wn <| Wn <| Wn <| Wn <| Wn <| Wn <| Wn <| Wn <| Wz (.b true) (OpT rfl) <| Nn ?_
          exact AWP.weak (Weak.toK 2787593149816327892691964784081045188247552 0 0 []) (J50 () hm)
        refine Wz (.b false) (Oq t rfl) <| Wz (.loc 0 3) (Ofa rfl) <| Wz (.i p0.Hi) (Old rfl) <| Wz (.b (decide (p0.Hi ≠ 0))) (Obn rfl (fun _ => hb_neq (k := .i64))) <| Wz (.b (decide (p0.Hi ≠ 0))) (OpF rfl) <| Wz (.b (decide (p0.Hi ≠ 0))) (OpT rfl) <| Wz (.b (decide (p0.Hi ≠ 0))) (OpF rfl) ?_
        rcases br hm with ⟨u, hm⟩ | ⟨u, hm⟩
        · refine Wz (.b true) (Oq u rfl) <| Wn <| Wn <| Wn <| Wn <| Wn <| Wn <| Wn <| Wn <| Wn <| Wn <| Wn <| Wn <| Wn ?_
          refine Wn <| Wn <| Wn <| Wn <| Wn <| Wz (.b true) (OpT rfl) <| Nn ?_
          exact AWP.weak (Weak.toK 2787593149816327892691964784081045188247552 0 0 []) (J50 () hm)
        refine Wz (.b false) (Oq u rfl) <| Wm (.b (decide (((p0.Kind.toNat : Nat) : Int) = 5))) rfl <| Wz (.b (!decide (((p0.Kind.toNat : Nat) : Int) = 5))) (Ocs (by kernel_rfl) (op_un rfl (a1 := .bool (decide (((p0.Kind.toNat : Nat) : Int) = 5))) (by kernel_rfl) (fun _ => hu_not))) ?_
        rcases br hm with ⟨f, hm⟩ | ⟨f, hm⟩
        · refine Wz (.b true) (Oq f rfl) <| Wz (.loc 0 4) (Ofa rfl) <| Wz (.s p0.Var) (Old rfl) <| Wz (.b (decide (p0.Var ≠ ([] : List UInt8)))) (Ocs (lit_tf (by simp only [toS_inj, ne_eq])) (op_bin rfl (a1 := .string (toS p0.Var)) (a2 := .string (toS ([] : List UInt8))) (by kernel_rfl) (by kernel_rfl) (fun _ => hb_sneq))) ?_
          rcases br hm with ⟨g, hm⟩ | ⟨g, hm⟩
          · refine Wz (.b true) (Oq g rfl) <| Wn <| Wn <| Wn <| Wz (.b true) (OpT rfl) <| Wm (.b true) rfl <| Wn <| Wn <| Wn <| Wn <| Wz (.b true) (OpT rfl) <| Wz (.b true) (OpT rfl) <| Wz (.b true) (OpF rfl) <| Nn ?_
            exact AWP.weak (Weak.toK 2787593149816327892691964784081045188247552 0 0 []) (J50 () hm)
          refine Wz (.b false) (Oq g rfl) <| Wz (.loc 0 5) (Ofa rfl) <| Wz (.s p0.Type_) (Old rfl) <| Wz (.b (decide (p0.Type_ ≠ ([] : List UInt8)))) (Ocs (lit_tf (by simp only [toS_inj, ne_eq])) (op_bin rfl (a1 := .string (toS p0.Type_)) (a2 := .string (toS ([] : List UInt8))) (by kernel_rfl) (by kernel_rfl) (fun _ => hb_sneq))) <| Wz (.b (decide (p0.Type_ ≠ ([] : List UInt8)))) (OpF rfl) ?_
          rcases br hm with ⟨j, hm⟩ | ⟨j, hm⟩
          · refine Wz (.b true) (Oq j rfl) <| Wn <| Wn <| Wn <| Wn <| Wz (.b true) (OpT rfl) <| Wz (.b true) (OpT rfl) <| Wz (.b true) (OpF rfl) <| Nn ?_
            exact AWP.weak (Weak.toK 2787593149816327892691964784081045188247552 0 0 []) (J50 () hm)
          refine Wz (.b false) (Oq j rfl) <| Wz (.loc 0 6) (Ofa rfl) <| Wz (.l enc_GNode_ p0.Test) (Old rfl) <| Wz (.i ((List.length p0.Test : Nat) : Int)) (Oln rfl) <| Wz (.b (decide ((0 : Int) < ((List.length p0.Test : Nat) : Int)))) (Obn rfl (fun _ => hb_gtr (k := .i64))) <| Wz (.b (decide ((0 : Int) < ((List.length p0.Test : Nat) : Int)))) (OpF rfl) <| Wz (.b (decide ((0 : Int) < ((List.length p0.Test : Nat) : Int)))) (OpT rfl) <| Wz (.b (decide ((0 : Int) < ((List.length p0.Test : Nat) : Int)))) (OpF rfl) <| Nn ?_
          exact AWP.weak (Weak.toK 2787593149816327892691964784081045188247552 0 0 []) (J51 () hm)
        refine Wz (.b false) (Oq f rfl) <| Wn <| Wn <| Wn <| Wn <| Wn <| Wn <| Wn <| Wn <| Wn <| Wn <| Wn <| Wn <| Wn ?_
        refine Wn <| Wz (.b false) (OpF rfl) <| Wz (.b false) (OpF rfl) <| Nn ?_
        exact AWP.weak (Weak.toK 2787593149816327892691964784081045188247552 0 0 []) (J52 () hm)
      refine Wz (.b false) (Oq q rfl) <| Wn <| Wn <| Wn <| Wn <| Wn <| Wn <| Wn <| Wn <| Wz (.b false) (OpF rfl) <| Wz (.b false) (OpF rfl) <| Wm (.b false) rfl <| Wm (.b (decide (((p0.Kind.toNat : Nat) : Int) = 5))) rfl <| Wz (.b (!decide (((p0.Kind.toNat : Nat) : Int) = 5))) (Ocs (by kernel_rfl) (op_un rfl (a1 := .bool (decide (((p0.Kind.toNat : Nat) : Int) = 5))) (by kernel_rfl) (fun _ => hu_not))) ?_
      rcases br hm with ⟨f, hm⟩ | ⟨f, hm⟩
      · refine Wz (.b true) (Oq f rfl) <| Wz (.loc 0 4) (Ofa rfl) <| Wz (.s p0.Var) (Old rfl) <| Wz (.b (decide (p0.Var ≠ ([] : List UInt8)))) (Ocs (lit_tf (by simp only [toS_inj, ne_eq])) (op_bin rfl (a1 := .string (toS p0.Var)) (a2 := .string (toS ([] : List UInt8))) (by kernel_rfl) (by kernel_rfl) (fun _ => hb_sneq))) ?_
        rcases br hm with ⟨g, hm⟩ | ⟨g, hm⟩
        · refine Wz (.b true) (Oq g rfl) <| Wn <| Wn <| Wn <| Wz (.b true) (OpT rfl) <| Wm (.b true) rfl <| Wn <| Wn <| Wn <| Wn <| Wz (.b true) (OpT rfl) <| Wz (.b true) (OpT rfl) <| Wz (.b true) (OpF rfl) <| Nn ?_
          exact AWP.weak (Weak.toK 2787593149816327892691964784081045188247552 0 0 []) (J50 () hm)
        refine Wz (.b false) (Oq g rfl) <| Wz (.loc 0 5) (Ofa rfl) <| Wz (.s p0.Type_) (Old rfl) <| Wz (.b (decide (p0.Type_ ≠ ([] : List UInt8)))) (Ocs (lit_tf (by simp only [toS_inj, ne_eq])) (op_bin rfl (a1 := .string (toS p0.Type_)) (a2 := .string (toS ([] : List UInt8))) (by kernel_rfl) (by kernel_rfl) (fun _ => hb_sneq))) <| Wz (.b (decide (p0.Type_ ≠ ([] : List UInt8)))) (OpF rfl) ?_
        rcases br hm with ⟨j, hm⟩ | ⟨j, hm⟩
        · refine Wz (.b true) (Oq j rfl) <| Wn <| Wn <| Wn <| Wn <| Wz (.b true) (OpT rfl) <| Wz (.b true) (OpT rfl) <| Wz (.b true) (OpF rfl) <| Nn ?_
          exact AWP.weak (Weak.toK 2787593149816327892691964784081045188247552 0 0 []) (J50 () hm)
        refine Wz (.b false) (Oq j rfl) <| Wz (.loc 0 6) (Ofa rfl) <| Wz (.l enc_GNode_ p0.Test) (Old rfl) <| Wz (.i ((List.length p0.Test : Nat) : Int)) (Oln rfl) <| Wz (.b (decide ((0 : Int) < ((List.length p0.Test : Nat) : Int)))) (Obn rfl (fun _ => hb_gtr (k := .i64))) <| Wz (.b (decide ((0 : Int) < ((List.length p0.Test : Nat) : Int)))) (OpF rfl) <| Wz (.b (decide ((0 : Int) < ((List.length p0.Test : Nat) : Int)))) (OpT rfl) <| Wz (.b (decide ((0 : Int) < ((List.length p0.Test : Nat) : Int)))) (OpF rfl) <| Nn ?_
        exact AWP.weak (Weak.toK 2787593149816327892691964784081045188247552 0 0 []) (J51 () hm)
      refine Wz (.b false) (Oq f rfl) <| Wn <| Wn <| Wn <| Wn <| Wn <| Wn <| Wn <| Wn <| Wn <| Wn <| Wn <| Wn <| Wn ?_
      refine Wn <| Wz (.b false) (OpF rfl) <| Wz (.b false) (OpF rfl) <| Nn ?_
      exact AWP.weak (Weak.toK 2787593149816327892691964784081045188247552 0 0 []) (J52 () hm)
    refine Wz (.b false) (Oq z0 rfl) <| Wn <| Wn <| Wn <| Wz (.b false) (OpF rfl) <| Wm (.b false) rfl <| Wz (.loc 0 0) (Ofa rfl) <| Wz (.y p0.Kind) (Old rfl) <| Wz (.b (decide (((p0.Kind.toNat : Nat) : Int) ≠ 3))) (Ob2 (.int .u8 ((p0.Kind.toNat : Nat) : Int)) (.int .u8 3) rfl (fun _ => hb_neq)) ?_
    rcases br hm with ⟨q, hm⟩ | ⟨q, hm⟩
    · refine Wz (.b true) (Oq q rfl) <| Wz (.loc 0 2) (Ofa rfl) <| Wz (.i p0.Lo) (Old rfl) <| Wz (.b (decide (p0.Lo ≠ 0))) (Obn rfl (fun _ => hb_neq (k := .i64))) ?_
      rcases br hm with ⟨t, hm⟩ | ⟨t, hm⟩
      · refine Wz (.b true) (Oq t rfl) <| Wn <| Wn <| Wn <| Wz (.b true) (OpT rfl) <| Wz (.b true) (OpT rfl) <| Wz (.b true) (OpF rfl) <| Wm (.b true) rfl <| Wn <| Wn <| Wn <| Wn <| Wn <| Wn ?_
        refine Wn <| Wn <| Wn <| Wn <| Wn <| Wn <| Wn <| Wn <| Wn <| Wn <| Wn <| Wn <| Wz (.b true) (OpT rfl) <| Nn ?_
        exact AWP.weak (Weak.toK 2787593149816327892691964784081045188247552 0 0 []) (J50 () hm)
      refine Wz (.b false) (Oq t rfl) <| Wz (.loc 0 3) (Ofa rfl) <| Wz (.i p0.Hi) (Old rfl) <| Wz (.b (decide (p0.Hi ≠ 0))) (Obn rfl (fun _ => hb_neq (k := .i64))) <| Wz (.b (decide (p0.Hi ≠ 0))) (OpF rfl) <| Wz (.b (decide (p0.Hi ≠ 0))) (OpT rfl) <| Wz (.b (decide (p0.Hi ≠ 0))) (OpF rfl) ?_
      rcases br hm with ⟨u, hm⟩ | ⟨u, hm⟩
      · refine Wz (.b true) (Oq u rfl) <| Wn <| Wn <| Wn <| Wn <| Wn <| Wn <| Wn <| Wn <| Wn <| Wn <| Wn <| Wn <| Wn ?_
        refine Wn <| Wn <| Wn <| Wn <| Wn <| Wz (.b true) (OpT rfl) <| Nn ?_
        exact AWP.weak (Weak.toK 2787593149816327892691964784081045188247552 0 0 []) (J50 () hm)
      refine Wz (.b false) (Oq u rfl) <| Wm (.b (decide (((p0.Kind.toNat : Nat) : Int) = 5))) rfl <| Wz (.b (!decide (((p0.Kind.toNat : Nat) : Int) = 5))) (Ocs (by kernel_rfl) (op_un rfl (a1 := .bool (decide (((p0.Kind.toNat : Nat) : Int) = 5))) (by kernel_rfl) (fun _ => hu_not))) ?_
      rcases br hm with ⟨f, hm⟩ | ⟨f, hm⟩
      · refine Wz (.b true) (Oq f rfl) <| Wz (.loc 0 4) (Ofa rfl) <| Wz (.s p0.Var) (Old rfl) <| Wz (.b (decide (p0.Var ≠ ([] : List UInt8)))) (Ocs (lit_tf (by simp only [toS_inj, ne_eq])) (op_bin rfl (a1 := .string (toS p0.Var)) (a2 := .string (toS ([] : List UInt8))) (by kernel_rfl) (by kernel_rfl) (fun _ => hb_sneq))) ?_
        rcases br hm with ⟨g, hm⟩ | ⟨g, hm⟩
        · refine Wz (.b true) (Oq g rfl) <| Wn <| Wn <| Wn <| Wz (.b true) (OpT rfl) <| Wm (.b true) rfl <| Wn <| Wn <| Wn <| Wn <| Wz (.b true) (OpT rfl) <| Wz (.b true) (OpT rfl) <| Wz (.b true) (OpF rfl) <| Nn ?_
          exact AWP.weak (Weak.toK 2787593149816327892691964784081045188247552 0 0 []) (J50 () hm)
        refine Wz (.b false) (Oq g rfl) <| Wz (.loc 0 5) (Ofa rfl) <| Wz (.s p0.Type_) (Old rfl) <| Wz (.b (decide (p0.Type_ ≠ ([] : List UInt8)))) (Ocs (lit_tf (by simp only [toS_inj, ne_eq])) (op_bin rfl (a1 := .string (toS p0.Type_)) (a2 := .string (toS ([] : List UInt8))) (by kernel_rfl) (by kernel_rfl) (fun _ => hb_sneq))) <| Wz (.b (decide (p0.Type_ ≠ ([] : List UInt8)))) (OpF rfl) ?_
        rcases br hm with ⟨j, hm⟩ | ⟨j, hm⟩
        · refine Wz (.b true) (Oq j rfl) <| Wn <| Wn <| Wn <| Wn <| Wz (.b true) (OpT rfl) <| Wz (.b true) (OpT rfl) <| Wz (.b true) (OpF rfl) <| Nn ?_
          exact AWP.weak (Weak.toK 2787593149816327892691964784081045188247552 0 0 []) (J50 () hm)
        refine Wz (.b false) (Oq j rfl) <| Wz (.loc 0 6) (Ofa rfl) <| Wz (.l enc_GNode_ p0.Test) (Old rfl) <| Wz (.i ((List.length p0.Test : Nat) : Int)) (Oln rfl) <| Wz (.b (decide ((0 : Int) < ((List.length p0.Test : Nat) : Int)))) (Obn rfl (fun _ => hb_gtr (k := .i64))) <| Wz (.b (decide ((0 : Int) < ((List.length p0.Test : Nat) : Int)))) (OpF rfl) <| Wz (.b (decide ((0 : Int) < ((List.length p0.Test : Nat) : Int)))) (OpT rfl) <| Wz (.b (decide ((0 : Int) < ((List.length p0.Test : Nat) : Int)))) (OpF rfl) <| Nn ?_
        exact AWP.weak (Weak.toK 2787593149816327892691964784081045188247552 0 0 []) (J51 () hm)
      refine Wz (.b false) (Oq f rfl) <| Wn <| Wn <| Wn <| Wn <| Wn <| Wn <| Wn <| Wn <| Wn <| Wn <| Wn <| Wn <| Wn ?_
      refine Wn <| Wz (.b false) (OpF rfl) <| Wz (.b false) (OpF rfl) <| Nn ?_
      exact AWP.weak (Weak.toK 2787593149816327892691964784081045188247552 0 0 []) (J52 () hm)
    refine Wz (.b false) (Oq q rfl) <| Wn <| Wn <| Wn <| Wn <| Wn <| Wn <| Wn <| Wn <| Wz (.b false) (OpF rfl) <| Wz (.b false) (OpF rfl) <| Wm (.b false) rfl <| Wm (.b (decide (((p0.Kind.toNat : Nat) : Int) = 5))) rfl <| Wz (.b (!decide (((p0.Kind.toNat : Nat) : Int) = 5))) (Ocs (by kernel_rfl) (op_un rfl (a1 := .bool (decide (((p0.Kind.toNat : Nat) : Int) = 5))) (by kernel_rfl) (fun _ => hu_not))) ?_
    rcases br hm with ⟨f, hm⟩ | ⟨f, hm⟩
    · refine Wz (.b true) (Oq f rfl) <| Wz (.loc 0 4) (Ofa rfl) <| Wz (.s p0.Var) (Old rfl) <| Wz (.b (decide (p0.Var ≠ ([] : List UInt8)))) (Ocs (lit_tf (by simp only [toS_inj, ne_eq])) (op_bin rfl (a1 := .string (toS p0.Var)) (a2 := .string (toS ([] : List UInt8))) (by kernel_rfl) (by kernel_rfl) (fun _ => hb_sneq))) ?_
      rcases br hm with ⟨g, hm⟩ | ⟨g, hm⟩
      · refine Wz (.b true) (Oq g rfl) <| Wn <| Wn <| Wn <| Wz (.b true) (OpT rfl) <| Wm (.b true) rfl <| Wn <| Wn <| Wn <| Wn <| Wz (.b true) (OpT rfl) <| Wz (.b true) (OpT rfl) <| Wz (.b true) (OpF rfl) <| Nn ?_
        exact AWP.weak (Weak.toK 2787593149816327892691964784081045188247552 0 0 []) (J50 () hm)
      refine Wz (.b false) (Oq g rfl) <| Wz (.loc 0 5) (Ofa rfl) <| Wz (.s p0.Type_) (Old rfl) <| Wz (.b (decide (p0.Type_ ≠ ([] : List UInt8)))) (Ocs (lit_tf (by simp only [toS_inj, ne_eq])) (op_bin rfl (a1 := .string (toS p0.Type_)) (a2 := .string (toS ([] : List UInt8))) (by kernel_rfl) (by kernel_rfl) (fun _ => hb_sneq))) <| Wz (.b (decide (p0.Type_ ≠ ([] : List UInt8)))) (OpF rfl) ?_
      rcases br hm with ⟨j, hm⟩ | ⟨j, hm⟩
      · refine Wz (.b true) (Oq j rfl) <| Wn <| Wn <| Wn <| Wn <| Wz (.b true) (OpT rfl) <| Wz (.b true) (OpT rfl) <| Wz (.b true) (OpF rfl) <| Nn ?_
        exact AWP.weak (Weak.toK 2787593149816327892691964784081045188247552 0 0 []) (J50 () hm)
      refine Wz (.b false) (Oq j rfl) <| Wz (.loc 0 6) (Ofa rfl) <| Wz (.l enc_GNode_ p0.Test) (Old rfl) <| Wz (.i ((List.length p0.Test : Nat) : Int)) (Oln rfl) <| Wz (.b (decide ((0 : Int) < ((List.length p0.Test : Nat) : Int)))) (Obn rfl (fun _ => hb_gtr (k := .i64))) <| Wz (.b (decide ((0 : Int) < ((List.length p0.Test : Nat) : Int)))) (OpF rfl) <| Wz (.b (decide ((0 : Int) < ((List.length p0.Test : Nat) : Int)))) (OpT rfl) <| Wz (.b (decide ((0 : Int) < ((List.length p0.Test : Nat) : Int)))) (OpF rfl) <| Nn ?_
      exact AWP.weak (Weak.toK 2787593149816327892691964784081045188247552 0 0 []) (J51 () hm)
    refine Wz (.b false) (Oq f rfl) <| Wn <| Wn <| Wn <| Wn <| Wn <| Wn <| Wn <| Wn <| Wn <| Wn <| Wn <| Wn <| Wn ?_
    refine Wn <| Wz (.b false) (OpF rfl) <| Wz (.b false) (OpF rfl) <| Nn ?_
    exact AWP.weak (Weak.toK 2787593149816327892691964784081045188247552 0 0 []) (J52 () hm)
   refine Sq ?_
   refine AWP.cutJ (α := Unit) (fun x => match x with | () => (⟨tp 1 (.loc 0 0::tp 1 (.b (decide (((p0.Kind.toNat : Nat) : Int) = 5))::tp 96 (.b true::tp 41 []))), [(.box [(.y p0.Kind), (.i p0.Kids), (.i p0.Lo), (.i p0.Hi), (.s p0.Var), (.s p0.Type_), (.l enc_GNode_ p0.Test)])], 0⟩ : St)) (fun x => match x with | () => m_r13_needs_j47  = some r) ?_ (fun J47 => ?_)
   ·
    rintro ⟨⟩ hm
    try dsimp only at hm ⊢
    unfold m_r13_needs_j47 at hm
    refine AWP.if_ true (by kernel_rfl) <| Sx <| Wm (.i 4) rfl <| Nn <| Rt <| Tr ?_
    obtain rfl := sj hm
    exact ret_i []
   refine Sx <| Wm (.b (decide (((p0.Kind.toNat : Nat) : Int) = 5))) rfl ?_
   rcases br hm with ⟨n2, hm⟩ | ⟨n2, hm⟩
   · refine Wz (.b true) (Oq n2 rfl) <| Wz (.loc 0 4) (Ofa rfl) <| Wz (.s p0.Var) (Old rfl) ?_
     obtain ⟨g1, z3, hm⟩ := bnd hm
     refine Wz (.b g1) (Ocf [] [] [] 0 (ok_r06_Name p0.Var g1 z3) (fun a w => Try.call28 a w) rfl trivial) <| Wz (.b (!g1)) (Ocs (by kernel_rfl) (op_un rfl (a1 := .bool g1) (by kernel_rfl) (fun _ => hu_not))) ?_
     rcases br hm with ⟨o2, hm⟩ | ⟨o2, hm⟩
     · refine Wz (.b true) (Oq o2 rfl) <| Wn <| Wn <| Wn <| Wn <| Wz (.b true) (OpT rfl) <| Wm (.b true) rfl <| Wn <| Wn <| Wn <| Wn <| Wz (.b true) (OpT rfl) <| Wz (.b true) (OpT rfl) <| Nn ?_
       exact AWP.weak (Weak.toK 1267650600228229401496703205386 0 0 [0]) (J47 () hm)
     refine Wz (.b false) (Oq o2 rfl) <| Wz (.loc 0 5) (Ofa rfl) <| Wz (.s p0.Type_) (Old rfl) ?_
     obtain ⟨h0, a4, hm⟩ := bnd hm
     refine Wz (.b h0) (Ocf [] [] [] 0 (ok_r06_Name p0.Type_ h0 a4) (fun a w => Try.call28 a w) rfl trivial) <| Wz (.b (!h0)) (Ocs (by kernel_rfl) (op_un rfl (a1 := .bool h0) (by kernel_rfl) (fun _ => hu_not))) <| Wz (.b (!h0)) (OpF rfl) ?_
     rcases br hm with ⟨q2, hm⟩ | ⟨q2, hm⟩
     · refine Wz (.b true) (Oq q2 rfl) <| Wn <| Wn <| Wn <| Wn <| Wz (.b true) (OpT rfl) <| Wz (.b true) (OpT rfl) <| Nn ?_
       exact AWP.weak (Weak.toK 1267650600228229401496703205386 0 0 [0]) (J47 () hm)
     refine Wz (.b false) (Oq q2 rfl) <| Wz (.loc 0 6) (Ofa rfl) <| Wz (.l enc_GNode_ p0.Test) (Old rfl) ?_
     obtain ⟨e0, b4, hm⟩ := bnd hm
     refine Wz (.i e0) (Ocf [] [] [] 0 (ok_r11_Check p0.Test e0 b4) (fun a w => Try.call59 a w) rfl trivial) <| Wz (.b (decide (e0 ≠ 0))) (Obn rfl (fun _ => hb_neq (k := .i64))) <| Wz (.b (decide (e0 ≠ 0))) (OpF rfl) <| Wz (.b (decide (e0 ≠ 0))) (OpT rfl) <| Nk 1267650600228229401496703205386 1 ⟨tp 1 (.loc 0 0::tp 1 (.b (decide (((p0.Kind.toNat : Nat) : Int) = 5))::tp 96 (.b (decide (e0 ≠ 0))::tp 41 []))), [(.box [(.y p0.Kind), (.i p0.Kids), (.i p0.Lo), (.i p0.Hi), (.s p0.Var), (.s p0.Type_), (.l enc_GNode_ p0.Test)])], 0⟩ ?_
     rcases br hm with ⟨c1, hm⟩ | ⟨c1, hm⟩
     · refine AiT c1 <| Sx <| Wm (.i 4) rfl <| Nn <| Rt <| Tr ?_
       obtain rfl := sj hm
       exact ret_i []
     refine AiF c1 <| Sk <| Tn ?_
     exact AWP.weak (Weak.toK 10 0 0 [0]) (J48 () hm)
   refine Wz (.b false) (Oq n2 rfl) <| Wn <| Wn <| Wn <| Wn <| Wn <| Wn <| Wn <| Wn <| Wn <| Wn <| Wn <| Wn <| Wn ?_
   refine Wn <| Wn <| Wn <| Wz (.b false) (OpF rfl) <| Nk 1267650600228229401496703205386 1 ⟨tp 1 (.loc 0 0::tp 1 (.b (decide (((p0.Kind.toNat : Nat) : Int) = 5))::tp 96 (.b false::tp 41 []))), [(.box [(.y p0.Kind), (.i p0.Kids), (.i p0.Lo), (.i p0.Hi), (.s p0.Var), (.s p0.Type_), (.l enc_GNode_ p0.Test)])], 0⟩ <| AWP.if_ false (by kernel_rfl) <| Sk <| Tn ?_
   exact AWP.weak (Weak.toK 10 0 0 [0]) (J48 () hm)
  refine Sq ?_
  refine AWP.cutJ (α := Unit) (fun x => match x with | () => (⟨tp 1 (.loc 0 0::tp 1 (.b (decide (((p0.Kind.toNat : Nat) : Int) = 5))::tp 77 (.b true::tp 60 []))), [(.box [(.y p0.Kind), (.i p0.Kids), (.i p0.Lo), (.i p0.Hi), (.s p0.Var), (.s p0.Type_), (.l enc_GNode_ p0.Test)])], 0⟩ : St)) (fun x => match x with | () => m_r13_needs_j42  = some r) ?_ (fun J42 => ?_)
  ·
   rintro ⟨⟩ hm
   try dsimp only at hm ⊢
   unfold m_r13_needs_j42 at hm
   refine AWP.if_ true (by kernel_rfl) <| Sx <| Wm (.i 4) rfl <| Nn <| Rt <| Tr ?_
   obtain rfl := sj hm
   exact ret_i []
  refine AWP.cutJ (α := Unit) (fun x => match x with | () => (⟨tp 1 (.loc 0 0::tp 1 (.b (decide (((p0.Kind.toNat : Nat) : Int) = 5))::tp 77 (.b (decide (p0.Hi = 1))::tp 60 []))), [(.box [(.y p0.Kind), (.i p0.Kids), (.i p0.Lo), (.i p0.Hi), (.s p0.Var), (.s p0.Type_), (.l enc_GNode_ p0.Test)])], 0⟩ : St)) (fun x => match x with | () => m_r13_needs_j43 p0 = some r) ?_ (fun J43 => ?_)
  ·
   rintro ⟨⟩ hm
   try dsimp only at hm ⊢
   unfold m_r13_needs_j43 at hm
   rcases br hm with ⟨r2, hm⟩ | ⟨r2, hm⟩
   · refine AiT r2 <| Sx <| Wm (.i 4) rfl <| Nn <| Rt <| Tr ?_
     obtain rfl := sj hm
     exact ret_i []
   refine AiF r2 <| Sk <| Tn ?_
   exact AWP.weak (Weak.toK 10 0 0 [0]) (J45 () hm)
  refine AWP.cutJ (α := Unit) (fun x => match x with | () => (⟨tp 1 (.loc 0 0::tp 1 (.b (decide (((p0.Kind.toNat : Nat) : Int) = 5))::tp 77 (.b false::tp 60 []))), [(.box [(.y p0.Kind), (.i p0.Kids), (.i p0.Lo), (.i p0.Hi), (.s p0.Var), (.s p0.Type_), (.l enc_GNode_ p0.Test)])], 0⟩ : St)) (fun x => match x with | () => m_r13_needs_j44 p0 = some r) ?_ (fun J44 => ?_)
  ·
   rintro ⟨⟩ hm
   try dsimp only at hm ⊢
   unfold m_r13_needs_j44 at hm
   refine AWP.if_ false (by kernel_rfl) <| Sk <| Tn ?_
   exact AWP.weak (Weak.toK 10 0 0 [0]) (J45 () hm)
  refine Sx <| Wz (.loc 0 0) (Ofa rfl) <| Wz (.y p0.Kind) (Old rfl) <| Wz (.b (decide (((p0.Kind.toNat : Nat) : Int) = 3))) (Ob2 (.int .u8 ((p0.Kind.toNat : Nat) : Int)) (.int .u8 3) rfl (fun _ => hb_eql)) ?_
  rcases br hm with ⟨s2, hm⟩ | ⟨s2, hm⟩
  · refine Wz (.b true) (Oq s2 rfl) <| Wz (.loc 0 1) (Ofa rfl) <| Wz (.i p0.Kids) (Old rfl) <| Wz (.b (decide (p0.Kids ≠ 1))) (Obn rfl (fun _ => hb_neq (k := .i64))) ?_
    rcases br hm with ⟨t2, hm⟩ | ⟨t2, hm⟩
    · refine Wz (.b true) (Oq t2 rfl) <| Wn <| Wn <| Wn <| Wz (.b true) (OpT rfl) <| Wm (.b true) rfl <| Wn <| Wn <| Wn <| Wz (.b true) (OpT rfl) <| Wm (.b true) rfl <| Wn <| Wn <| Wn ?_
      refine Wz (.b true) (OpT rfl) <| Wm (.b true) rfl <| Wn <| Wn <| Wn <| Wz (.b true) (OpT rfl) <| Wm (.b true) rfl <| Wn <| Wn <| Wn <| Wn <| Wn <| Wn <| Wn ?_
      refine Wn <| Wn <| Wn <| Wz (.b true) (OpT rfl) <| Wm (.b true) rfl <| Wn <| Wn <| Wn <| Wn <| Wn <| Wn <| Wn <| Wn <| Wz (.b true) (OpT rfl) ?_
      refine Wz (.b true) (OpT rfl) <| Nn ?_
      exact AWP.weak (Weak.toK 2417851639229258349412362 0 0 [0]) (J42 () hm)
    refine Wz (.b false) (Oq t2 rfl) <| Wz (.loc 0 2) (Ofa rfl) <| Wz (.i p0.Lo) (Old rfl) <| Wz (.b (decide (p0.Lo < 0))) (Obn rfl (fun _ => hb_lss (k := .i64))) <| Wz (.b (decide (p0.Lo < 0))) (OpF rfl) ?_
    rcases br hm with ⟨u2, hm⟩ | ⟨u2, hm⟩
    · refine Wz (.b true) (Oq u2 rfl) <| Wn <| Wn <| Wn <| Wz (.b true) (OpT rfl) <| Wm (.b true) rfl <| Wn <| Wn <| Wn <| Wz (.b true) (OpT rfl) <| Wm (.b true) rfl <| Wn <| Wn <| Wn ?_
      refine Wz (.b true) (OpT rfl) <| Wm (.b true) rfl <| Wn <| Wn <| Wn <| Wn <| Wn <| Wn <| Wn <| Wn <| Wn <| Wn <| Wz (.b true) (OpT rfl) <| Wm (.b true) rfl ?_
      refine Wn <| Wn <| Wn <| Wn <| Wn <| Wn <| Wn <| Wn <| Wz (.b true) (OpT rfl) <| Wz (.b true) (OpT rfl) <| Nn ?_
      exact AWP.weak (Weak.toK 2417851639229258349412362 0 0 [0]) (J42 () hm)
    refine Wz (.b false) (Oq u2 rfl) <| Wz (.loc 0 2) (Ofa rfl) <| Wz (.i p0.Lo) (Old rfl) <| Wz (.b (decide ((8 : Int) < p0.Lo))) (Obn rfl (fun _ => hb_gtr (k := .i64))) <| Wz (.b (decide ((8 : Int) < p0.Lo))) (OpF rfl) ?_
    rcases br hm with ⟨v2, hm⟩ | ⟨v2, hm⟩
    · refine Wz (.b true) (Oq v2 rfl) <| Wn <| Wn <| Wn <| Wz (.b true) (OpT rfl) <| Wm (.b true) rfl <| Wn <| Wn <| Wn <| Wz (.b true) (OpT rfl) <| Wm (.b true) rfl <| Wn <| Wn <| Wn ?_
      refine Wn <| Wn <| Wn <| Wn <| Wn <| Wn <| Wn <| Wz (.b true) (OpT rfl) <| Wm (.b true) rfl <| Wn <| Wn <| Wn <| Wn <| Wn ?_
      refine Wn <| Wn <| Wn <| Wz (.b true) (OpT rfl) <| Wz (.b true) (OpT rfl) <| Nn ?_
      exact AWP.weak (Weak.toK 2417851639229258349412362 0 0 [0]) (J42 () hm)
    refine Wz (.b false) (Oq v2 rfl) <| Wz (.loc 0 3) (Ofa rfl) <| Wz (.i p0.Hi) (Old rfl) <| Wz (.b (decide (p0.Hi < 0))) (Obn rfl (fun _ => hb_lss (k := .i64))) <| Wz (.b (decide (p0.Hi < 0))) (OpF rfl) ?_
    rcases br hm with ⟨w2, hm⟩ | ⟨w2, hm⟩
    · refine Wz (.b true) (Oq w2 rfl) <| Wn <| Wn <| Wn <| Wz (.b true) (OpT rfl) <| Wm (.b true) rfl <| Wn <| Wn <| Wn <| Wn <| Wn <| Wn <| Wn <| Wn ?_
      refine Wn <| Wn <| Wz (.b true) (OpT rfl) <| Wm (.b true) rfl <| Wn <| Wn <| Wn <| Wn <| Wn <| Wn <| Wn <| Wn <| Wz (.b true) (OpT rfl) <| Wz (.b true) (OpT rfl) ?_
      refine Nn ?_
      exact AWP.weak (Weak.toK 2417851639229258349412362 0 0 [0]) (J42 () hm)
    refine Wz (.b false) (Oq w2 rfl) <| Wz (.loc 0 3) (Ofa rfl) <| Wz (.i p0.Hi) (Old rfl) <| Wz (.b (decide ((8 : Int) < p0.Hi))) (Obn rfl (fun _ => hb_gtr (k := .i64))) <| Wz (.b (decide ((8 : Int) < p0.Hi))) (OpF rfl) ?_
    rcases br hm with ⟨x2, hm⟩ | ⟨x2, hm⟩
    · refine Wz (.b true) (Oq x2 rfl) <| Wn <| Wn <| Wn <| Wn <| Wn <| Wn <| Wn <| Wn <| Wn <| Wn <| Wz (.b true) (OpT rfl) <| Wm (.b true) rfl <| Wn ?_
      refine Wn <| Wn <| Wn <| Wn <| Wn <| Wn <| Wn <| Wz (.b true) (OpT rfl) <| Wz (.b true) (OpT rfl) <| Nn ?_
      exact AWP.weak (Weak.toK 2417851639229258349412362 0 0 [0]) (J42 () hm)
    refine Wz (.b false) (Oq x2 rfl) <| Wz (.loc 0 3) (Ofa rfl) <| Wz (.i p0.Hi) (Old rfl) <| Wz (.b (decide ((0 : Int) < p0.Hi))) (Obn rfl (fun _ => hb_gtr (k := .i64))) ?_
    rcases br hm with ⟨y2, hm⟩ | ⟨y2, hm⟩
    · refine Wz (.b true) (Oq y2 rfl) <| Wz (.loc 0 3) (Ofa rfl) <| Wz (.i p0.Hi) (Old rfl) <| Wz (.loc 0 2) (Ofa rfl) <| Wz (.i p0.Lo) (Old rfl) <| Wz (.b (decide (p0.Hi < p0.Lo))) (Obn rfl (fun _ => hb_lss (k := .i64))) <| Wz (.b (decide (p0.Hi < p0.Lo))) (OpT rfl) <| Wz (.b (decide (p0.Hi < p0.Lo))) (OpF rfl) ?_
      rcases br hm with ⟨z2, hm⟩ | ⟨z2, hm⟩
      · refine Wz (.b true) (Oq z2 rfl) <| Wn <| Wn <| Wn <| Wn <| Wn <| Wn <| Wn <| Wn <| Wz (.b true) (OpT rfl) <| Wz (.b true) (OpT rfl) <| Nn ?_
        exact AWP.weak (Weak.toK 2417851639229258349412362 0 0 [0]) (J42 () hm)
      refine Wz (.b false) (Oq z2 rfl) <| Wz (.loc 0 2) (Ofa rfl) <| Wz (.i p0.Lo) (Old rfl) <| Wz (.b (decide (p0.Lo = 1))) (Obn rfl (fun _ => hb_eql (k := .i64))) ?_
      rcases br hm with ⟨a0, hm⟩ | ⟨a0, hm⟩
      · refine Wz (.b true) (Oq a0 rfl) <| Wz (.loc 0 3) (Ofa rfl) <| Wz (.i p0.Hi) (Old rfl) <| Wz (.b (decide (p0.Hi = 1))) (Obn rfl (fun _ => hb_eql (k := .i64))) <| Wz (.b (decide (p0.Hi = 1))) (OpT rfl) <| Wz (.b (decide (p0.Hi = 1))) (OpF rfl) <| Wz (.b (decide (p0.Hi = 1))) (OpT rfl) <| Nn ?_
        exact AWP.weak (Weak.toK 2417851639229258349412362 0 0 [0]) (J43 () hm)
      refine Wz (.b false) (Oq a0 rfl) <| Wn <| Wn <| Wn <| Wz (.b false) (OpF rfl) <| Wz (.b false) (OpF rfl) <| Wz (.b false) (OpT rfl) <| Nn ?_
      exact AWP.weak (Weak.toK 2417851639229258349412362 0 0 [0]) (J44 () hm)
    refine Wz (.b false) (Oq y2 rfl) <| Wn <| Wn <| Wn <| Wn <| Wn <| Wz (.b false) (OpF rfl) <| Wz (.b false) (OpF rfl) <| Wm (.b false) rfl <| Wz (.loc 0 2) (Ofa rfl) <| Wz (.i p0.Lo) (Old rfl) <| Wz (.b (decide (p0.Lo = 1))) (Obn rfl (fun _ => hb_eql (k := .i64))) ?_
    rcases br hm with ⟨a0, hm⟩ | ⟨a0, hm⟩
    · refine Wz (.b true) (Oq a0 rfl) <| Wz (.loc 0 3) (Ofa rfl) <| Wz (.i p0.Hi) (Old rfl) <| Wz (.b (decide (p0.Hi = 1))) (Obn rfl (fun _ => hb_eql (k := .i64))) <| Wz (.b (decide (p0.Hi = 1))) (OpT rfl) <| Wz (.b (decide (p0.Hi = 1))) (OpF rfl) <| Wz (.b (decide (p0.Hi = 1))) (OpT rfl) <| Nn ?_
      exact AWP.weak (Weak.toK 2417851639229258349412362 0 0 [0]) (J43 () hm)
    refine Wz (.b false) (Oq a0 rfl) <| Wn <| Wn <| Wn <| Wz (.b false) (OpF rfl) <| Wz (.b false) (OpF rfl) <| Wz (.b false) (OpT rfl) <| Nn ?_
    exact AWP.weak (Weak.toK 2417851639229258349412362 0 0 [0]) (J44 () hm)
  refine Wz (.b false) (Oq s2 rfl) <| Wn <| Wn <| Wn <| Wn <| Wn <| Wn <| Wn <| Wn <| Wn <| Wn <| Wn <| Wn <| Wn ?_
  refine Wn <| Wn <| Wn <| Wn <| Wn <| Wn <| Wn <| Wn <| Wn <| Wn <| Wn <| Wn <| Wn <| Wn ?_
  refine Wn <| Wn <| Wn <| Wn <| Wn <| Wn <| Wn <| Wn <| Wn <| Wn <| Wn <| Wn <| Wn <| Wn ?_
  refine Wn <| Wn <| Wn <| Wn <| Wz (.b false) (OpF rfl) <| Nn ?_
  exact AWP.weak (Weak.toK 2417851639229258349412362 0 0 [0]) (J44 () hm)
 refine Sq <| Sx <| Wm (.b (decide (((p0.Kind.toNat : Nat) : Int) = 2))) rfl ?_
 rcases br hm with ⟨a3, hm⟩ | ⟨a3, hm⟩
 · refine Wz (.b true) (Oq a3 rfl) <| Wz (.loc 0 1) (Ofa rfl) <| Wz (.i p0.Kids) (Old rfl) <| Wz (.b (decide (p0.Kids < 2))) (Obn rfl (fun _ => hb_lss (k := .i64))) ?_
   rcases br hm with ⟨b3, hm⟩ | ⟨b3, hm⟩
   · refine Wz (.b true) (Oq b3 rfl) <| Wn <| Wn <| Wn <| Wz (.b true) (OpT rfl) <| Wz (.b true) (OpT rfl) <| Nk 2147483658 1 ⟨tp 1 (.loc 0 0::tp 1 (.b (decide (((p0.Kind.toNat : Nat) : Int) = 5))::tp 27 (.b true::tp 110 []))), [(.box [(.y p0.Kind), (.i p0.Kids), (.i p0.Lo), (.i p0.Hi), (.s p0.Var), (.s p0.Type_), (.l enc_GNode_ p0.Test)])], 0⟩ <| AWP.if_ true (by kernel_rfl) <| Sx <| Wm (.i 4) rfl <| Nn <| Rt <| Tr ?_
     obtain rfl := sj hm
     exact ret_i []
   refine Wz (.b false) (Oq b3 rfl) <| Wz (.loc 0 1) (Ofa rfl) <| Wz (.i p0.Kids) (Old rfl) <| Wz (.b (decide ((40 : Int) < p0.Kids))) (Obn rfl (fun _ => hb_gtr (k := .i64))) <| Wz (.b (decide ((40 : Int) < p0.Kids))) (OpF rfl) <| Wz (.b (decide ((40 : Int) < p0.Kids))) (OpT rfl) <| Nk 2147483658 1 ⟨tp 1 (.loc 0 0::tp 1 (.b (decide (((p0.Kind.toNat : Nat) : Int) = 5))::tp 27 (.b (decide ((40 : Int) < p0.Kids))::tp 110 []))), [(.box [(.y p0.Kind), (.i p0.Kids), (.i p0.Lo), (.i p0.Hi), (.s p0.Var), (.s p0.Type_), (.l enc_GNode_ p0.Test)])], 0⟩ ?_
   rcases br hm with ⟨c3, hm⟩ | ⟨c3, hm⟩
   · refine AiT c3 <| Sx <| Wm (.i 4) rfl <| Nn <| Rt <| Tr ?_
     obtain rfl := sj hm
     exact ret_i []
   refine AiF c3 <| Sk <| Tn ?_
   exact AWP.weak (Weak.toK 10 0 0 [0]) (J40 () hm)
 refine Wz (.b false) (Oq a3 rfl) <| Wn <| Wn <| Wn <| Wn <| Wn <| Wn <| Wn <| Wn <| Wz (.b false) (OpF rfl) <| Nk 2147483658 1 ⟨tp 1 (.loc 0 0::tp 1 (.b (decide (((p0.Kind.toNat : Nat) : Int) = 5))::tp 27 (.b false::tp 110 []))), [(.box [(.y p0.Kind), (.i p0.Kids), (.i p0.Lo), (.i p0.Hi), (.s p0.Var), (.s p0.Type_), (.l enc_GNode_ p0.Test)])], 0⟩ <| AWP.if_ false (by kernel_rfl) <| Sk <| Tn ?_
 exact AWP.weak (Weak.toK 10 0 0 [0]) (J40 () hm)

theorem ok_r13_tree : ∀ (fuR : Nat) (p0 : (List GNode)) (p1 : Int) (p2 : UInt8) (p3 : Int) (r : (Int × Int)) (h : m_r13_tree fuR p0 p1 p2 p3 = some r), GCall Try.prog 27 [(.l enc_GNode p0), (.i p1), (.y p2), (.i p3)] [] (.tup [(.i r.1), (.i r.2)]) [] := by
 intro fuR; induction fuR with
 | zero => intro p0 p1 p2 p3 r h; exact absurd h (by unfold m_r13_tree; simp)
 | succ fuR ih =>
 intro p0 p1 p2 p3 r h
 refine GCall.of_body (n := 85) (rs := [(.tmp 8), (.tmp 9)]) Try.func27 rfl rfl rfl <| Ato ⟨.l enc_GNode p0::.i p1::.y p2::.i p3::tu 81 [], [], 0⟩ ?_
 have hm := h
 unfold m_r13_tree at hm
 refine Sx <| Wm (.i 0) rfl <| Wm (.i 0) rfl <| Nk 15 0 ⟨.l enc_GNode p0::.i p1::.y p2::.i p3::tp 81 [], [], 0⟩ <| Sq <| Sx <| Wm (.i p1) rfl <| Wm (.l enc_GNode p0) rfl <| Wz (.i ((List.length p0 : Nat) : Int)) (Oln rfl) <| Wz (.b (decide (((List.length p0 : Nat) : Int) ≤ p1))) (Obn rfl (fun _ => hb_geq (k := .i64))) <| Nk 262159 0 ⟨.l enc_GNode p0::.i p1::.y p2::.i p3::tp 14 (.b (decide (((List.length p0 : Nat) : Int) ≤ p1))::tp 66 []), [], 0⟩ ?_
 rcases br hm with ⟨o, hm⟩ | ⟨o, hm⟩
 · refine AiT o <| Sx <| Wm (.i p1) rfl <| Wm (.i p1) rfl <| Wm (.i 3) rfl <| Nn <| Rt <| Tr ?_
   obtain rfl := sj hm
   exact ret_i []
 refine AiF o <| Sk <| Tk 15 0 ⟨.l enc_GNode p0::.i p1::.y p2::.i p3::tp 81 [], [], 0⟩ <| Sq <| Sx <| Wm (.i p3) rfl <| Wz (.b (decide ((16 : Int) ≤ p3))) (Obn rfl (fun _ => hb_geq (k := .i64))) <| Nk 2097167 0 ⟨.l enc_GNode p0::.i p1::.y p2::.i p3::tp 17 (.b (decide ((16 : Int) ≤ p3))::tp 63 []), [], 0⟩ ?_
 rcases br hm with ⟨p, hm⟩ | ⟨p, hm⟩
 · refine AiT p <| Sx <| Wm (.i p1) rfl <| Wm (.i p1) rfl <| Wm (.i 15) rfl <| Nn <| Rt <| Tr ?_
   obtain rfl := sj hm
   exact ret_i []
 refine AiF p <| Sk <| Tk 15 0 ⟨.l enc_GNode p0::.i p1::.y p2::.i p3::tp 81 [], [], 0⟩ <| Sx <| Wm (.l enc_GNode p0) rfl <| Wm (.i p1) rfl ?_
 obtain ⟨c, h0, hm⟩ := bnd hm
 obtain ⟨f0, e0⟩ := geti_some h0
 refine Wz (.d (.ref (List.drop ((Int.toNat p1) * 7) (flatD enc_GNode p0)))) (Oia rfl enc_GNode_len f0 e0) <| Wz (.agg [(.y c.Kind), (.i c.Kids), (.i c.Lo), (.i c.Hi), (.s c.Var), (.s c.Type_), (.l enc_GNode_ c.Test)]) (Lf rfl enc_GNode_len e0) <| Wy (.loc 0 0) [(0, (.box [(.y 0), (.i 0), (.i 0), (.i 0), (.s ([] : List UInt8)), (.s ([] : List UInt8)), (.d .nil)]))] (Oal rfl) <| Wy (.tup []) [(0, (.box [(.y c.Kind), (.i c.Kids), (.i c.Lo), (.i c.Hi), (.s c.Var), (.s c.Type_), (.l enc_GNode_ c.Test)]))] (Ost rfl) <| Nk 1039 1 ⟨.l enc_GNode p0::.i p1::.y p2::.i p3::tp 6 (.loc 0 0::tp 74 []), [(.box [(.y c.Kind), (.i c.Kids), (.i c.Lo), (.i c.Hi), (.s c.Var), (.s c.Type_), (.l enc_GNode_ c.Test)])], 0⟩ ?_
 refine AWP.cutJ (α := Unit) (fun x => match x with | () => (⟨.l enc_GNode p0::.i p1::tp 1 (.i p3::tp 6 (.loc 0 0::tp 74 [])), [(.box [(.y c.Kind), (.i c.Kids), (.i c.Lo), (.i c.Hi), (.s c.Var), (.s c.Type_), (.l enc_GNode_ c.Test)])], 0⟩ : St)) (fun x => match x with | () => m_r13_tree_j6 p0 p1 p3 c (fun p0 p1 p2 p3 => m_r13_tree fuR p0 p1 p2 p3) = some r) ?_ (fun J6 => ?_)
 ·
  rintro ⟨⟩ hm
  try dsimp only at hm ⊢
  unfold m_r13_tree_j6 at hm
  refine Sq <| Sx <| Wz (.agg [(.y c.Kind), (.i c.Kids), (.i c.Lo), (.i c.Hi), (.s c.Var), (.s c.Type_), (.l enc_GNode_ c.Test)]) (Old rfl) ?_
  obtain ⟨g, i0, hm⟩ := bnd hm
  refine Wz (.i g) (Ocf [] [] [] 0 (ok_r13_needs c g i0) (fun a w => Try.call47 a w) rfl trivial) <| Wm (.i g) rfl <| Nk 3083 1 ⟨.l enc_GNode p0::.i p1::tp 1 (.i p3::tp 6 (.loc 0 0::.i g::tp 73 [])), [(.box [(.y c.Kind), (.i c.Kids), (.i c.Lo), (.i c.Hi), (.s c.Var), (.s c.Type_), (.l enc_GNode_ c.Test)])], 0⟩ <| Sx <| Wm (.i g) rfl <| Wz (.b (decide (g ≠ 0))) (Obn rfl (fun _ => hb_neq (k := .i64))) <| Nk 288230376151714827 1 ⟨.l enc_GNode p0::.i p1::tp 1 (.i p3::tp 6 (.loc 0 0::.i g::tp 46 (.b (decide (g ≠ 0))::tp 26 []))), [(.box [(.y c.Kind), (.i c.Kids), (.i c.Lo), (.i c.Hi), (.s c.Var), (.s c.Type_), (.l enc_GNode_ c.Test)])], 0⟩ ?_
  rcases br hm with ⟨q, hm⟩ | ⟨q, hm⟩
  · refine AiT q <| Sx <| Wm (.i p1) rfl <| Wm (.i g) rfl <| Wm (.i p1) rfl <| Wm (.i g) rfl <| Nn <| Rt <| Tr ?_
    obtain rfl := sj hm
    exact ret_i []
  refine AiF q <| Sk <| Tk 1035 1 ⟨.l enc_GNode p0::.i p1::tp 1 (.i p3::tp 6 (.loc 0 0::tp 74 [])), [(.box [(.y c.Kind), (.i c.Kids), (.i c.Lo), (.i c.Hi), (.s c.Var), (.s c.Type_), (.l enc_GNode_ c.Test)])], 0⟩ <| Sx <| Wm (.i p1) rfl <| Wz (.i (W6 (p1 + 1))) (Obn rfl (fun _ => hb_add (k := .i64))) <| Wm (.i (W6 (p1 + 1))) rfl <| Nk 1035 1 ⟨.l enc_GNode p0::.i (W6 (p1 + 1))::tp 1 (.i p3::tp 6 (.loc 0 0::tp 74 [])), [(.box [(.y c.Kind), (.i c.Kids), (.i c.Lo), (.i c.Hi), (.s c.Var), (.s c.Type_), (.l enc_GNode_ c.Test)])], 0⟩ <| Sq <| Sx <| Wm (.i 0) rfl <| Nk 5131 1 ⟨.l enc_GNode p0::.i (W6 (p1 + 1))::tp 1 (.i p3::tp 6 (.loc 0 0::tp 1 (.i 0::tp 72 []))), [(.box [(.y c.Kind), (.i c.Kids), (.i c.Lo), (.i c.Hi), (.s c.Var), (.s c.Type_), (.l enc_GNode_ c.Test)])], 0⟩ <| Bk ?_
  refine AWP.loopI (α := Nat × Int × Int)
    (fun (fu_8, j, f) => (⟨.l enc_GNode p0::.i j::tp 1 (.i p3::tp 6 (.loc 0 0::tp 1 (.i f::tp 72 []))), [(.box [(.y c.Kind), (.i c.Kids), (.i c.Lo), (.i c.Hi), (.s c.Var), (.s c.Type_), (.l enc_GNode_ c.Test)])], 0⟩ : St))
    (fun (fu_8, j, f) => m_r13_tree_l8 p0 p3 c (fun p0 p1 p2 p3 => m_r13_tree fuR p0 p1 p2 p3) fu_8 j f = some r)
    (fun (fu_8, j, f) => fu_8) (1152921504606846976, (W6 (p1 + 1)), 0)
    (Weak.toK 5131 0 0 [0]) hm ?_
  rintro ⟨fu_8, j, f⟩ n_8 hm ih_8
  try dsimp only at hm ih_8 ⊢
  cases fu_8 with
  | zero => exact absurd hm (by unfold m_r13_tree_l8; simp)
  | succ fu_8 =>
   unfold m_r13_tree_l8 at hm
   refine Sq <| Sx <| Wm (.i f) rfl <| Wz (.agg [(.y c.Kind), (.i c.Kids), (.i c.Lo), (.i c.Hi), (.s c.Var), (.s c.Type_), (.l enc_GNode_ c.Test)]) (Old rfl) ?_
   obtain ⟨v, j0, hm⟩ := bnd hm
   refine Wz (.i v) (Ocf [] [] [] 0 (ok_r13_Kids c v j0) (fun a w => Try.call24 a w) rfl trivial) <| Wz (.b (decide (f < v))) (Obn rfl (fun _ => hb_lss (k := .i64))) <| Nk 73786976294838211595 1 ⟨.l enc_GNode p0::.i j::tp 1 (.i p3::tp 6 (.loc 0 0::tp 1 (.i f::tp 53 (.b (decide (f < v))::tp 18 [])))), [(.box [(.y c.Kind), (.i c.Kids), (.i c.Lo), (.i c.Hi), (.s c.Var), (.s c.Type_), (.l enc_GNode_ c.Test)])], 0⟩ ?_
   rcases br hm with ⟨t, hm⟩ | ⟨t, hm⟩
   · refine AiT t <| Sk <| Tk 5131 1 ⟨.l enc_GNode p0::.i j::tp 1 (.i p3::tp 6 (.loc 0 0::tp 1 (.i f::tp 72 []))), [(.box [(.y c.Kind), (.i c.Kids), (.i c.Lo), (.i c.Hi), (.s c.Var), (.s c.Type_), (.l enc_GNode_ c.Test)])], 0⟩ <| Sq <| Bk <| Sx <| Wm (.l enc_GNode p0) rfl <| Wm (.i j) rfl <| Wz (.loc 0 0) (Ofa rfl) <| Wz (.y c.Kind) (Old rfl) <| Wm (.i p3) rfl <| Wz (.i (W6 (p3 + 1))) (Obn rfl (fun _ => hb_add (k := .i64))) ?_
     obtain ⟨e, g0, hm⟩ := bnd hm
     refine Wz (.tup [(.i e.1), (.i e.2)]) (Ocf [] [] [] 0 (ih p0 j c.Kind (W6 (p3 + 1)) e g0) (fun a w => Try.call27 a w) rfl trivial) <| Wm (.tup [(.i e.1), (.i e.2)]) rfl <| Wz (.i e.1) (Oex rfl) <| Wz (.i e.2) (Oex rfl) <| Wm (.i e.1) rfl <| Wm (.i e.2) rfl <| Nk 29705 1 ⟨.l enc_GNode p0::tp 2 (.i p3::tp 6 (.loc 0 0::tp 1 (.i f::.i e.1::.i e.2::tp 70 []))), [(.box [(.y c.Kind), (.i c.Kids), (.i c.Lo), (.i c.Hi), (.s c.Var), (.s c.Type_), (.l enc_GNode_ c.Test)])], 0⟩ <| Sq <| Sx <| Wm (.i e.2) rfl <| Wz (.b (decide (e.2 ≠ 0))) (Obn rfl (fun _ => hb_neq (k := .i64))) <| Nk 1208925819614629174735881 1 ⟨.l enc_GNode p0::tp 2 (.i p3::tp 6 (.loc 0 0::tp 1 (.i f::.i e.1::.i e.2::tp 65 (.b (decide (e.2 ≠ 0))::tp 4 [])))), [(.box [(.y c.Kind), (.i c.Kids), (.i c.Lo), (.i c.Hi), (.s c.Var), (.s c.Type_), (.l enc_GNode_ c.Test)])], 0⟩ ?_
     rcases br hm with ⟨u, hm⟩ | ⟨u, hm⟩
     · refine AiT u <| Sx <| Wm (.i e.1) rfl <| Wm (.i e.2) rfl <| Wm (.i e.1) rfl <| Wm (.i e.2) rfl <| Nn <| Rt <| Tr <| Ir <| Tr <| RoundK.ret <| Ir <| Tr ?_
       obtain rfl := sj hm
       exact ret_i []
     refine AiF u <| Sk <| Tk 13321 1 ⟨.l enc_GNode p0::tp 2 (.i p3::tp 6 (.loc 0 0::tp 1 (.i f::.i e.1::tp 71 []))), [(.box [(.y c.Kind), (.i c.Kids), (.i c.Lo), (.i c.Hi), (.s c.Var), (.s c.Type_), (.l enc_GNode_ c.Test)])], 0⟩ <| Tx <| Wm (.i e.1) rfl <| Wm (.i e.1) rfl <| Wn0 <| Ino <| Tk 5131 1 ⟨.l enc_GNode p0::.i e.1::tp 1 (.i p3::tp 6 (.loc 0 0::tp 1 (.i f::tp 72 []))), [(.box [(.y c.Kind), (.i c.Kids), (.i c.Lo), (.i c.Hi), (.s c.Var), (.s c.Type_), (.l enc_GNode_ c.Test)])], 0⟩ <| Tx <| Wm (.i f) rfl <| Wz (.i (W6 (f + 1))) (Obn rfl (fun _ => hb_add (k := .i64))) <| Wm (.i (W6 (f + 1))) rfl <| Wn0 ?_
     refine RoundK.normal ?_
     exact Rounds.weak (Weak.toK 5131 0 0 [0]) (ih_8 (fu_8, e.1, (W6 (f + 1))) hm (Nat.lt_succ_self _))
   refine AiF t <| AWP.exit <| Then.exit <| RoundK.exit <| InBlock.same <| Tk 2 0 ⟨tp 1 (.i j::tp 83 []), [.gone], 0⟩ <| Sx <| Wm (.i j) rfl <| Wm (.i j) rfl <| Wm (.i 0) rfl <| Nn <| Rt ?_
   obtain rfl := sj hm
   exact ret_i []
 refine Sq ?_
 refine AWP.cutJ (α := Unit) (fun x => match x with | () => (⟨.l enc_GNode p0::.i p1::tp 1 (.i p3::tp 6 (.loc 0 0::tp 42 (.b true::tp 31 []))), [(.box [(.y c.Kind), (.i c.Kids), (.i c.Lo), (.i c.Hi), (.s c.Var), (.s c.Type_), (.l enc_GNode_ c.Test)])], 0⟩ : St)) (fun x => match x with | () => m_r13_tree_j3 p1 = some r) ?_ (fun J3 => ?_)
 ·
  rintro ⟨⟩ hm
  try dsimp only at hm ⊢
  unfold m_r13_tree_j3 at hm
  refine AWP.if_ true (by kernel_rfl) <| Sx <| Wm (.i p1) rfl <| Wm (.i p1) rfl <| Wm (.i 11) rfl <| Nn <| Rt <| Tr ?_
  obtain rfl := sj hm
  exact ret_i []
 refine AWP.cutJ (α := Unit) (fun x => match x with | () => (⟨.l enc_GNode p0::.i p1::tp 1 (.i p3::tp 6 (.loc 0 0::tp 42 (.b (decide (((p2.toNat : Nat) : Int) = 3))::tp 31 []))), [(.box [(.y c.Kind), (.i c.Kids), (.i c.Lo), (.i c.Hi), (.s c.Var), (.s c.Type_), (.l enc_GNode_ c.Test)])], 0⟩ : St)) (fun x => match x with | () => m_r13_tree_j4 p0 p1 p2 p3 c (fun p0 p1 p2 p3 => m_r13_tree fuR p0 p1 p2 p3) = some r) ?_ (fun J4 => ?_)
 ·
  rintro ⟨⟩ hm
  try dsimp only at hm ⊢
  unfold m_r13_tree_j4 at hm
  rcases br hm with ⟨z, hm⟩ | ⟨z, hm⟩
  · refine AiT z <| Sx <| Wm (.i p1) rfl <| Wm (.i p1) rfl <| Wm (.i 11) rfl <| Nn <| Rt <| Tr ?_
    obtain rfl := sj hm
    exact ret_i []
  refine AiF z <| Sk <| Tn ?_
  exact AWP.weak (Weak.toK 1035 0 0 [0]) (J6 () hm)
 refine AWP.cutJ (α := Unit) (fun x => match x with | () => (⟨.l enc_GNode p0::.i p1::tp 1 (.i p3::tp 6 (.loc 0 0::tp 42 (.b false::tp 31 []))), [(.box [(.y c.Kind), (.i c.Kids), (.i c.Lo), (.i c.Hi), (.s c.Var), (.s c.Type_), (.l enc_GNode_ c.Test)])], 0⟩ : St)) (fun x => match x with | () => m_r13_tree_j5 p0 p1 p3 c (fun p0 p1 p2 p3 => m_r13_tree fuR p0 p1 p2 p3) = some r) ?_ (fun J5 => ?_)
 ·
  rintro ⟨⟩ hm
  try dsimp only at hm ⊢
  unfold m_r13_tree_j5 at hm
  refine AWP.if_ false (by kernel_rfl) <| Sk <| Tn ?_
  exact AWP.weak (Weak.toK 1035 0 0 [0]) (J6 () hm)
 refine Sx <| Wz (.loc 0 0) (Ofa rfl) <| Wz (.y c.Kind) (Old rfl) <| Wz (.b (decide (((c.Kind.toNat : Nat) : Int) < 1))) (Ob2 (.int .u8 ((c.Kind.toNat : Nat) : Int)) (.int .u8 1) rfl (fun _ => hb_lss)) ?_
 rcases br hm with ⟨a0, hm⟩ | ⟨a0, hm⟩
 · refine Wz (.b true) (Oq a0 rfl) <| Wn <| Wn <| Wn <| Wz (.b true) (OpT rfl) <| Wm (.b true) rfl <| Wn <| Wn <| Wn <| Wn <| Wn <| Wn <| Wn <| Wn ?_
   refine Wz (.b true) (OpT rfl) <| Wm (.b true) rfl <| Wn <| Wn <| Wn <| Wn <| Wn <| Wn <| Wn <| Wz (.b true) (OpT rfl) <| Nn ?_
   exact AWP.weak (Weak.toK 9007199254742027 0 0 [0]) (J3 () hm)
 refine Wz (.b false) (Oq a0 rfl) <| Wz (.loc 0 0) (Ofa rfl) <| Wz (.y c.Kind) (Old rfl) <| Wz (.b (decide ((5 : Int) < ((c.Kind.toNat : Nat) : Int)))) (Ob2 (.int .u8 ((c.Kind.toNat : Nat) : Int)) (.int .u8 5) rfl (fun _ => hb_gtr)) <| Wz (.b (decide ((5 : Int) < ((c.Kind.toNat : Nat) : Int)))) (OpF rfl) ?_
 rcases br hm with ⟨b0, hm⟩ | ⟨b0, hm⟩
 · refine Wz (.b true) (Oq b0 rfl) <| Wn <| Wn <| Wn <| Wn <| Wn <| Wn <| Wn <| Wn <| Wz (.b true) (OpT rfl) <| Wm (.b true) rfl <| Wn <| Wn <| Wn ?_
   refine Wn <| Wn <| Wn <| Wn <| Wz (.b true) (OpT rfl) <| Nn ?_
   exact AWP.weak (Weak.toK 9007199254742027 0 0 [0]) (J3 () hm)
 refine Wz (.b false) (Oq b0 rfl) <| Wz (.loc 0 0) (Ofa rfl) <| Wz (.y c.Kind) (Old rfl) <| Wm (.y p2) rfl <| Wz (.b (decide (((c.Kind.toNat : Nat) : Int) = ((p2.toNat : Nat) : Int)))) (Ob2 (.int .u8 ((c.Kind.toNat : Nat) : Int)) (.int .u8 ((p2.toNat : Nat) : Int)) rfl (fun _ => hb_eql)) ?_
 rcases br hm with ⟨c0, hm⟩ | ⟨c0, hm⟩
 · refine Wz (.b true) (Oq c0 rfl) <| Wm (.y p2) rfl <| Wz (.b (decide (((p2.toNat : Nat) : Int) ≤ 2))) (Ob2 (.int .u8 ((p2.toNat : Nat) : Int)) (.int .u8 2) rfl (fun _ => hb_leq)) <| Wz (.b (decide (((p2.toNat : Nat) : Int) ≤ 2))) (OpT rfl) <| Wz (.b (decide (((p2.toNat : Nat) : Int) ≤ 2))) (OpF rfl) ?_
   rcases br hm with ⟨d0, hm⟩ | ⟨d0, hm⟩
   · refine Wz (.b true) (Oq d0 rfl) <| Wn <| Wn <| Wn <| Wn <| Wn <| Wn <| Wn <| Wz (.b true) (OpT rfl) <| Nn ?_
     exact AWP.weak (Weak.toK 9007199254742027 0 0 [0]) (J3 () hm)
   refine Wz (.b false) (Oq d0 rfl) <| Wz (.loc 0 0) (Ofa rfl) <| Wz (.y c.Kind) (Old rfl) <| Wz (.b (decide (((c.Kind.toNat : Nat) : Int) = 5))) (Ob2 (.int .u8 ((c.Kind.toNat : Nat) : Int)) (.int .u8 5) rfl (fun _ => hb_eql)) ?_
   rcases br hm with ⟨m, hm⟩ | ⟨m, hm⟩
   · refine Wz (.b true) (Oq m rfl) <| Wm (.y p2) rfl <| Wz (.b (decide (((p2.toNat : Nat) : Int) = 3))) (Ob2 (.int .u8 ((p2.toNat : Nat) : Int)) (.int .u8 3) rfl (fun _ => hb_eql)) <| Wz (.b (decide (((p2.toNat : Nat) : Int) = 3))) (OpT rfl) <| Wz (.b (decide (((p2.toNat : Nat) : Int) = 3))) (OpF rfl) <| Nn ?_
     exact AWP.weak (Weak.toK 9007199254742027 0 0 [0]) (J4 () hm)
   refine Wz (.b false) (Oq m rfl) <| Wn <| Wn <| Wz (.b false) (OpF rfl) <| Wz (.b false) (OpF rfl) <| Nn ?_
   exact AWP.weak (Weak.toK 9007199254742027 0 0 [0]) (J5 () hm)
 refine Wz (.b false) (Oq c0 rfl) <| Wn <| Wn <| Wz (.b false) (OpF rfl) <| Wz (.b false) (OpF rfl) <| Wm (.b false) rfl <| Wz (.loc 0 0) (Ofa rfl) <| Wz (.y c.Kind) (Old rfl) <| Wz (.b (decide (((c.Kind.toNat : Nat) : Int) = 5))) (Ob2 (.int .u8 ((c.Kind.toNat : Nat) : Int)) (.int .u8 5) rfl (fun _ => hb_eql)) ?_
 rcases br hm with ⟨m, hm⟩ | ⟨m, hm⟩
 · refine Wz (.b true) (Oq m rfl) <| Wm (.y p2) rfl <| Wz (.b (decide (((p2.toNat : Nat) : Int) = 3))) (Ob2 (.int .u8 ((p2.toNat : Nat) : Int)) (.int .u8 3) rfl (fun _ => hb_eql)) <| Wz (.b (decide (((p2.toNat : Nat) : Int) = 3))) (OpT rfl) <| Wz (.b (decide (((p2.toNat : Nat) : Int) = 3))) (OpF rfl) <| Nn ?_
   exact AWP.weak (Weak.toK 9007199254742027 0 0 [0]) (J4 () hm)
 refine Wz (.b false) (Oq m rfl) <| Wn <| Wn <| Wz (.b false) (OpF rfl) <| Wz (.b false) (OpF rfl) <| Nn ?_
 exact AWP.weak (Weak.toK 9007199254742027 0 0 [0]) (J5 () hm)

theorem ok_r13_Word (p0 : UInt8) (r : (List UInt8)) (h : m_r13_Word p0 = some r) : GCall Try.prog 16 [(.y p0)] [] (.s r) [] := by
 refine GCall.of_body (n := 9) (rs := [(.tmp 2)]) Try.func16 rfl rfl rfl <| Ato ⟨.y p0::tu 8 [], [], 0⟩ ?_
 have hm := h
 unfold m_r13_Word at hm
 refine Sx <| Wm (.s ([] : List UInt8)) rfl <| Nk 1 0 ⟨.y p0::tp 8 [], [], 0⟩ <| Sq <| Sx <| Wm (.y p0) rfl <| Wz (.b (decide (((p0.toNat : Nat) : Int) = 1))) (Ob2 (.int .u8 ((p0.toNat : Nat) : Int)) (.int .u8 1) rfl (fun _ => hb_eql)) <| Nk 17 0 ⟨.y p0::tp 3 (.b (decide (((p0.toNat : Nat) : Int) = 1))::tp 4 []), [], 0⟩ ?_
 rcases br hm with ⟨c, hm⟩ | ⟨c, hm⟩
 · refine AiT c <| Sx <| Wm (.s ([97, 110, 121] : List UInt8)) rfl <| Nn <| Rt <| Tr ?_
   obtain rfl := sj hm
   exact ret_i []
 refine AiF c <| Sk <| Tk 1 0 ⟨.y p0::tp 8 [], [], 0⟩ <| Sq <| Sx <| Wm (.y p0) rfl <| Wz (.b (decide (((p0.toNat : Nat) : Int) = 2))) (Ob2 (.int .u8 ((p0.toNat : Nat) : Int)) (.int .u8 2) rfl (fun _ => hb_eql)) <| Nk 65 0 ⟨.y p0::tp 5 (.b (decide (((p0.toNat : Nat) : Int) = 2))::tp 2 []), [], 0⟩ ?_
 rcases br hm with ⟨d, hm⟩ | ⟨d, hm⟩
 · refine AiT d <| Sx <| Wm (.s ([110, 101, 120, 116] : List UInt8)) rfl <| Nn <| Rt <| Tr ?_
   obtain rfl := sj hm
   exact ret_i []
 refine AiF d <| Sk <| Tk 1 0 ⟨.y p0::tp 8 [], [], 0⟩ <| Sq <| Sx <| Wm (.y p0) rfl <| Wz (.b (decide (((p0.toNat : Nat) : Int) = 3))) (Ob2 (.int .u8 ((p0.toNat : Nat) : Int)) (.int .u8 3) rfl (fun _ => hb_eql)) <| Nk 256 0 ⟨tp 8 (.b (decide (((p0.toNat : Nat) : Int) = 3))::[]), [], 0⟩ ?_
 rcases br hm with ⟨e, hm⟩ | ⟨e, hm⟩
 · refine AiT e <| Sx <| Wm (.s ([115, 116, 114, 105, 99, 116] : List UInt8)) rfl <| Nn <| Rt <| Tr ?_
   obtain rfl := sj hm
   exact ret_i []
 refine AiF e <| Sk <| Tk 0 0 ⟨tp 9 [], [], 0⟩ <| Sx <| Wm (.s ([] : List UInt8)) rfl <| Nn <| Rt ?_
 obtain rfl := sj hm
 exact ret_i []

theorem ok_r13_Check (p0 : GPattern) (r : Int) (h : m_r13_Check p0 = some r) : GCall Try.prog 12 [(.agg [(.l enc_GNode p0.Body), (.i p0.Within), (.s p0.By), (.y p0.Mode)])] [] (.i r) [] := by
 refine GCall.of_body (n := 44) (rs := [(.tmp 2)]) Try.func12 rfl rfl rfl <| Ato ⟨.agg [(.l enc_GNode p0.Body), (.i p0.Within), (.s p0.By), (.y p0.Mode)]::tu 43 [], [], 0⟩ ?_
 have hm := h
 unfold m_r13_Check at hm
 refine Sx <| Wy (.loc 0 0) [(0, (.box [(.l enc_GNode p0.Body), (.i p0.Within), (.s p0.By), (.y p0.Mode)]))] (Obx rfl) <| Wm (.i 0) rfl <| Nk 2 1 ⟨tp 1 (.loc 0 0::tp 42 []), [(.box [(.l enc_GNode p0.Body), (.i p0.Within), (.s p0.By), (.y p0.Mode)])], 0⟩ <| Sq <| Sx <| Wz (.loc 0 0) (Ofa rfl) <| Wz (.l enc_GNode p0.Body) (Old rfl) <| Wz (.i ((List.length p0.Body : Nat) : Int)) (Oln rfl) <| Wz (.b (decide ((40 : Int) < ((List.length p0.Body : Nat) : Int)))) (Obn rfl (fun _ => hb_gtr (k := .i64))) <| Nk 258 1 ⟨tp 1 (.loc 0 0::tp 6 (.b (decide ((40 : Int) < ((List.length p0.Body : Nat) : Int)))::tp 35 [])), [(.box [(.l enc_GNode p0.Body), (.i p0.Within), (.s p0.By), (.y p0.Mode)])], 0⟩ ?_
 rcases br hm with ⟨t, hm⟩ | ⟨t, hm⟩
 · refine AiT t <| Sx <| Wm (.i 5) rfl <| Nn <| Rt <| Tr ?_
   obtain rfl := sj hm
   exact ret_i []
 refine AiF t <| Sk <| Tk 2 1 ⟨tp 1 (.loc 0 0::tp 42 []), [(.box [(.l enc_GNode p0.Body), (.i p0.Within), (.s p0.By), (.y p0.Mode)])], 0⟩ <| Sx <| Wz (.loc 0 0) (Ofa rfl) <| Wz (.l enc_GNode p0.Body) (Old rfl) ?_
 obtain ⟨c, u, hm⟩ := bnd hm
 refine Wz (.tup [(.i c.1), (.i c.2)]) (Ocf [] [] [] 0 (ok_r13_tree 1152921504606846976 p0.Body 0 0 0 c u) (fun a w => Try.call27 a w) rfl trivial) <| Wm (.tup [(.i c.1), (.i c.2)]) rfl <| Wz (.i c.1) (Oex rfl) <| Wz (.i c.2) (Oex rfl) <| Wm (.i c.1) rfl <| Wm (.i c.2) rfl <| Nk 26 1 ⟨tp 1 (.loc 0 0::tp 1 (.i c.1::.i c.2::tp 39 [])), [(.box [(.l enc_GNode p0.Body), (.i p0.Within), (.s p0.By), (.y p0.Mode)])], 0⟩ <| Sq <| Sx <| Wm (.i c.2) rfl <| Wz (.b (decide (c.2 ≠ 0))) (Obn rfl (fun _ => hb_neq (k := .i64))) <| Nk 65562 1 ⟨tp 1 (.loc 0 0::tp 1 (.i c.1::.i c.2::tp 11 (.b (decide (c.2 ≠ 0))::tp 27 []))), [(.box [(.l enc_GNode p0.Body), (.i p0.Within), (.s p0.By), (.y p0.Mode)])], 0⟩ ?_
 rcases br hm with ⟨m, hm⟩ | ⟨m, hm⟩
 · refine AiT m <| Sx <| Wm (.i c.2) rfl <| Wm (.i c.2) rfl <| Nn <| Rt <| Tr ?_
   obtain rfl := sj hm
   exact ret_i []
 refine AiF m <| Sk <| Tk 10 1 ⟨tp 1 (.loc 0 0::tp 1 (.i c.1::tp 40 [])), [(.box [(.l enc_GNode p0.Body), (.i p0.Within), (.s p0.By), (.y p0.Mode)])], 0⟩ <| Sq <| Sx <| Wm (.i c.1) rfl <| Wz (.loc 0 0) (Ofa rfl) <| Wz (.l enc_GNode p0.Body) (Old rfl) <| Wz (.i ((List.length p0.Body : Nat) : Int)) (Oln rfl) <| Wz (.b (decide (c.1 < ((List.length p0.Body : Nat) : Int)))) (Obn rfl (fun _ => hb_lss (k := .i64))) <| Nk 4194306 1 ⟨tp 1 (.loc 0 0::tp 20 (.b (decide (c.1 < ((List.length p0.Body : Nat) : Int)))::tp 21 [])), [(.box [(.l enc_GNode p0.Body), (.i p0.Within), (.s p0.By), (.y p0.Mode)])], 0⟩ ?_
 rcases br hm with ⟨o, hm⟩ | ⟨o, hm⟩
 · refine AiT o <| Sx <| Wm (.i 5) rfl <| Nn <| Rt <| Tr ?_
   obtain rfl := sj hm
   exact ret_i []
 refine AiF o <| Sk <| Tk 2 1 ⟨tp 1 (.loc 0 0::tp 42 []), [(.box [(.l enc_GNode p0.Body), (.i p0.Within), (.s p0.By), (.y p0.Mode)])], 0⟩ <| Sq <| Sx <| Wz (.loc 0 1) (Ofa rfl) <| Wz (.i p0.Within) (Old rfl) <| Wz (.b (decide (p0.Within < 1))) (Obn rfl (fun _ => hb_lss (k := .i64))) ?_
 rcases br hm with ⟨p, hm⟩ | ⟨p, hm⟩
 · refine Wz (.b true) (Oq p rfl) <| Wn <| Wn <| Wn <| Wz (.b true) (OpT rfl) <| Nk 1073741826 1 ⟨tp 1 (.loc 0 0::tp 28 (.b true::tp 13 [])), [(.box [(.l enc_GNode p0.Body), (.i p0.Within), (.s p0.By), (.y p0.Mode)])], 0⟩ <| AWP.if_ true (by kernel_rfl) <| Sx <| Wm (.i 8) rfl <| Nn <| Rt <| Tr ?_
   obtain rfl := sj hm
   exact ret_i []
 refine Wz (.b false) (Oq p rfl) <| Wz (.loc 0 1) (Ofa rfl) <| Wz (.i p0.Within) (Old rfl) <| Wz (.b (decide ((1073741824 : Int) < p0.Within))) (Obn rfl (fun _ => hb_gtr (k := .i64))) <| Wz (.b (decide ((1073741824 : Int) < p0.Within))) (OpF rfl) <| Nk 1073741826 1 ⟨tp 1 (.loc 0 0::tp 28 (.b (decide ((1073741824 : Int) < p0.Within))::tp 13 [])), [(.box [(.l enc_GNode p0.Body), (.i p0.Within), (.s p0.By), (.y p0.Mode)])], 0⟩ ?_
 rcases br hm with ⟨f, hm⟩ | ⟨f, hm⟩
 · refine AiT f <| Sx <| Wm (.i 8) rfl <| Nn <| Rt <| Tr ?_
   obtain rfl := sj hm
   exact ret_i []
 refine AiF f <| Sk <| Tk 2 1 ⟨tp 1 (.loc 0 0::tp 42 []), [(.box [(.l enc_GNode p0.Body), (.i p0.Within), (.s p0.By), (.y p0.Mode)])], 0⟩ ?_
 refine AWP.cutJ (α := Unit) (fun x => match x with | () => (⟨tp 1 (.loc 0 0::tp 42 []), [(.box [(.l enc_GNode p0.Body), (.i p0.Within), (.s p0.By), (.y p0.Mode)])], 0⟩ : St)) (fun x => match x with | () => m_r13_Check_j5 p0 = some r) ?_ (fun J5 => ?_)
 ·
  rintro ⟨⟩ hm
  try dsimp only at hm ⊢
  unfold m_r13_Check_j5 at hm
  refine Sq <| Sx <| Wz (.loc 0 3) (Ofa rfl) <| Wz (.y p0.Mode) (Old rfl) ?_
  obtain ⟨e, v, hm⟩ := bnd hm
  refine Wz (.s e) (Ocf [] [] [] 0 (ok_r13_Word p0.Mode e v) (fun a w => Try.call16 a w) rfl trivial) <| Wz (.b (decide (e = ([] : List UInt8)))) (Ocs (lit_tf (by simp only [toS_inj, ne_eq])) (op_bin rfl (a1 := .string (toS e)) (a2 := .string (toS ([] : List UInt8))) (by kernel_rfl) (by kernel_rfl) (fun _ => hb_seql))) <| Nk 8796093022208 0 ⟨tp 43 (.b (decide (e = ([] : List UInt8)))::[]), [.gone], 0⟩ ?_
  rcases br hm with ⟨g, hm⟩ | ⟨g, hm⟩
  · refine AiT g <| Sx <| Wm (.i 11) rfl <| Nn <| Rt <| Tr ?_
    obtain rfl := sj hm
    exact ret_i []
  refine AiF g <| Sk <| Tk 0 0 ⟨tp 44 [], [.gone], 0⟩ <| Sx <| Wm (.i 0) rfl <| Nn <| Rt ?_
  obtain rfl := sj hm
  exact ret_i []
 refine Sq <| Sx <| Wz (.loc 0 2) (Ofa rfl) <| Wz (.s p0.By) (Old rfl) <| Wz (.b (decide (p0.By ≠ ([] : List UInt8)))) (Ocs (lit_tf (by simp only [toS_inj, ne_eq])) (op_bin rfl (a1 := .string (toS p0.By)) (a2 := .string (toS ([] : List UInt8))) (by kernel_rfl) (by kernel_rfl) (fun _ => hb_sneq))) ?_
 rcases br hm with ⟨q, hm⟩ | ⟨q, hm⟩
 · refine Wz (.b true) (Oq q rfl) <| Wz (.loc 0 2) (Ofa rfl) <| Wz (.s p0.By) (Old rfl) ?_
   obtain ⟨d, z, hm⟩ := bnd hm
   refine Wz (.b d) (Ocf [] [] [] 0 (ok_r06_Name p0.By d z) (fun a w => Try.call28 a w) rfl trivial) <| Wz (.b (!d)) (Ocs (by kernel_rfl) (op_un rfl (a1 := .bool d) (by kernel_rfl) (fun _ => hu_not))) <| Wz (.b (!d)) (OpT rfl) <| Nk 549755813890 1 ⟨tp 1 (.loc 0 0::tp 37 (.b (!d)::tp 4 [])), [(.box [(.l enc_GNode p0.Body), (.i p0.Within), (.s p0.By), (.y p0.Mode)])], 0⟩ ?_
   rcases br hm with ⟨j, hm⟩ | ⟨j, hm⟩
   · refine AiT j <| Sx <| Wm (.i 4) rfl <| Nn <| Rt <| Tr ?_
     obtain rfl := sj hm
     exact ret_i []
   refine AiF j <| Sk <| Tn ?_
   exact AWP.weak (Weak.toK 2 0 0 [0]) (J5 () hm)
 refine Wz (.b false) (Oq q rfl) <| Wn <| Wn <| Wn <| Wn <| Wz (.b false) (OpF rfl) <| Nk 549755813890 1 ⟨tp 1 (.loc 0 0::tp 37 (.b false::tp 4 [])), [(.box [(.l enc_GNode p0.Body), (.i p0.Within), (.s p0.By), (.y p0.Mode)])], 0⟩ <| AWP.if_ false (by kernel_rfl) <| Sk <| Tn ?_
 exact AWP.weak (Weak.toK 2 0 0 [0]) (J5 () hm)

theorem ok_r10_decimal (p0 : Int) (r : (List UInt8)) (h : m_r10_decimal p0 = some r) : GCall Try.prog 67 [(.i p0)] [] (.s r) [] := by
 refine GCall.of_body (n := 25) (rs := [(.tmp 2)]) Try.func67 rfl rfl rfl <| Ato ⟨.i p0::tu 24 [], [], 0⟩ ?_
 have hm := h
 unfold m_r10_decimal at hm
 refine Sx <| Wm (.s ([] : List UInt8)) rfl <| Nk 1 0 ⟨.i p0::tp 24 [], [], 0⟩ <| Sx <| Wm (.i p0) rfl <| Wz (.i (Int.tmod p0 10)) (Ob2 (.int .i64 p0) (.int .i64 10) rfl (fun _ => hb_rem (by decide))) <| Wm (.i p0) rfl <| Wz (.i (Int.tmod p0 10)) (Ob2 (.int .i64 p0) (.int .i64 10) rfl (fun _ => hb_rem (by decide))) <| Wz (.i (W6 ((Int.tmod p0 10) + 1))) (Obn rfl (fun _ => hb_add (k := .i64))) ?_
 obtain ⟨f, d0, hm⟩ := bnd hm; obtain ⟨w, y, z, a0, b0⟩ := cut_some d0
 refine Wz (.s f) (Ocs (lit_str (toS_cut b0)) (op_slice_str rfl (by kernel_rfl) (s := toS ([48, 49, 50, 51, 52, 53, 54, 55, 56, 57] : List UInt8)) (by kernel_rfl) (l := (Int.toNat (Int.tmod p0 10))) (h := (Int.toNat (W6 ((Int.tmod p0 10) + 1)))) (⟨.i64, (Int.tmod p0 10), by kernel_rfl, w⟩) (⟨.i64, (W6 ((Int.tmod p0 10) + 1)), by kernel_rfl, y⟩) z a0)) <| Wm (.s f) rfl <| Nk 9 0 ⟨.i p0::tp 2 (.s f::tp 21 []), [], 0⟩ <| Sq <| Sx <| Wm (.i p0) rfl <| Wz (.i (W6 (Int.tdiv p0 10))) (Ob2 (.int .i64 p0) (.int .i64 10) rfl (fun _ => hb_quo (by decide))) <| Wm (.i (W6 (Int.tdiv p0 10))) rfl <| Nk 9 0 ⟨.i (W6 (Int.tdiv p0 10))::tp 2 (.s f::tp 21 []), [], 0⟩ <| Bk ?_
 refine AWP.loopI (α := Nat × Int × (List UInt8))
   (fun (fu_1, c, d) => (⟨.i c::tp 2 (.s d::tp 21 []), [], 0⟩ : St))
   (fun (fu_1, c, d) => m_r10_decimal_l1  fu_1 c d = some r)
   (fun (fu_1, c, d) => fu_1) (1152921504606846976, (W6 (Int.tdiv p0 10)), f)
   (Weak.toK 9 0 0 []) hm ?_
 rintro ⟨fu_1, c, d⟩ n_1 hm ih_1
 try dsimp only at hm ih_1 ⊢
 cases fu_1 with
 | zero => exact absurd hm (by unfold m_r10_decimal_l1; simp)
 | succ fu_1 =>
  unfold m_r10_decimal_l1 at hm
  refine Sq <| Sx <| Wm (.i c) rfl <| Wz (.b (decide ((0 : Int) < c))) (Obn rfl (fun _ => hb_gtr (k := .i64))) <| Nk 8201 0 ⟨.i c::tp 2 (.s d::tp 9 (.b (decide ((0 : Int) < c))::tp 11 [])), [], 0⟩ ?_
  rcases br hm with ⟨g, hm⟩ | ⟨g, hm⟩
  · refine AiT g <| Sk <| Tk 9 0 ⟨.i c::tp 2 (.s d::tp 21 []), [], 0⟩ <| Sq <| Bk <| Tx <| Wm (.i c) rfl <| Wz (.i (Int.tmod c 10)) (Ob2 (.int .i64 c) (.int .i64 10) rfl (fun _ => hb_rem (by decide))) <| Wm (.i c) rfl <| Wz (.i (Int.tmod c 10)) (Ob2 (.int .i64 c) (.int .i64 10) rfl (fun _ => hb_rem (by decide))) <| Wz (.i (W6 ((Int.tmod c 10) + 1))) (Obn rfl (fun _ => hb_add (k := .i64))) ?_
    obtain ⟨j, c0, hm⟩ := bnd hm; obtain ⟨m, o, p, q, t⟩ := cut_some c0
    refine Wz (.s j) (Ocs (lit_str (toS_cut t)) (op_slice_str rfl (by kernel_rfl) (s := toS ([48, 49, 50, 51, 52, 53, 54, 55, 56, 57] : List UInt8)) (by kernel_rfl) (l := (Int.toNat (Int.tmod c 10))) (h := (Int.toNat (W6 ((Int.tmod c 10) + 1)))) (⟨.i64, (Int.tmod c 10), by kernel_rfl, m⟩) (⟨.i64, (W6 ((Int.tmod c 10) + 1)), by kernel_rfl, o⟩) p q)) <| Wm (.s d) rfl ?_
    obtain ⟨e, u, v, hm⟩ := bna hm
    refine Wz (.s e) (Osd j d rfl u v) <| Wm (.s e) rfl <| Wn0 <| Ino <| Tk 9 0 ⟨.i c::tp 2 (.s e::tp 21 []), [], 0⟩ <| Tx <| Wm (.i c) rfl <| Wz (.i (W6 (Int.tdiv c 10))) (Ob2 (.int .i64 c) (.int .i64 10) rfl (fun _ => hb_quo (by decide))) <| Wm (.i (W6 (Int.tdiv c 10))) rfl <| Wn0 <| RoundK.normal ?_
    exact Rounds.weak (Weak.toK 9 0 0 []) (ih_1 (fu_1, (W6 (Int.tdiv c 10)), e) hm (Nat.lt_succ_self _))
  refine AiF g <| AWP.exit <| Then.exit <| RoundK.exit <| InBlock.same <| Tk 8 0 ⟨tp 3 (.s d::tp 21 []), [], 0⟩ <| Sx <| Wm (.s d) rfl <| Wm (.s d) rfl <| Nn <| Rt ?_
  obtain rfl := sj hm
  exact ret_i []

theorem ok_r10_Literal (p0 : GValue) (r : (List UInt8)) (h : m_r10_Literal p0 = some r) : GCall Try.prog 54 [(.agg [(.y p0.Kind), (.i p0.N), (.u p0.Bits), (.s p0.Text)])] [] (.s r) [] := by
 refine GCall.of_body (n := 104) (rs := [(.tmp 2)]) Try.func54 rfl rfl rfl <| Ato ⟨.agg [(.y p0.Kind), (.i p0.N), (.u p0.Bits), (.s p0.Text)]::tu 103 [], [], 0⟩ ?_
 have hm := h
 unfold m_r10_Literal at hm
 refine Sx <| Wy (.loc 0 0) [(0, (.box [(.y p0.Kind), (.i p0.N), (.u p0.Bits), (.s p0.Text)]))] (Obx rfl) <| Wm (.s ([] : List UInt8)) rfl <| Nk 2 1 ⟨tp 1 (.loc 0 0::tp 102 []), [(.box [(.y p0.Kind), (.i p0.N), (.u p0.Bits), (.s p0.Text)])], 0⟩ <| Sq <| Sx <| Wz (.agg [(.y p0.Kind), (.i p0.N), (.u p0.Bits), (.s p0.Text)]) (Old rfl) ?_
 obtain ⟨j0, o3, hm⟩ := bnd hm
 refine Wz (.i j0) (Ocf [] [] [] 0 (ok_r04_Check p0 j0 o3) (fun a w => Try.call66 a w) rfl trivial) <| Wz (.b (decide (j0 ≠ 0))) (Obn rfl (fun _ => hb_neq (k := .i64))) <| Nk 2050 1 ⟨tp 1 (.loc 0 0::tp 9 (.b (decide (j0 ≠ 0))::tp 92 [])), [(.box [(.y p0.Kind), (.i p0.N), (.u p0.Bits), (.s p0.Text)])], 0⟩ ?_
 rcases br hm with ⟨t, hm⟩ | ⟨t, hm⟩
 · refine AiT t <| Sx <| Wm (.s ([] : List UInt8)) rfl <| Nn <| Rt <| Tr ?_
   obtain rfl := sj hm
   exact ret_i []
 refine AiF t <| Sk <| Tk 2 1 ⟨tp 1 (.loc 0 0::tp 102 []), [(.box [(.y p0.Kind), (.i p0.N), (.u p0.Bits), (.s p0.Text)])], 0⟩ <| Sq <| Sx <| Wz (.loc 0 0) (Ofa rfl) <| Wz (.y p0.Kind) (Old rfl) <| Wz (.b (decide (((p0.Kind.toNat : Nat) : Int) = 1))) (Ob2 (.int .u8 ((p0.Kind.toNat : Nat) : Int)) (.int .u8 1) rfl (fun _ => hb_eql)) <| Nk 16386 1 ⟨tp 1 (.loc 0 0::tp 12 (.b (decide (((p0.Kind.toNat : Nat) : Int) = 1))::tp 89 [])), [(.box [(.y p0.Kind), (.i p0.N), (.u p0.Bits), (.s p0.Text)])], 0⟩ ?_
 rcases br hm with ⟨v, hm⟩ | ⟨v, hm⟩
 · refine AiT v <| Sq <| Sx <| Wz (.loc 0 1) (Ofa rfl) <| Wz (.i p0.N) (Old rfl) <| Wz (.b (decide (p0.N < 0))) (Obn rfl (fun _ => hb_lss (k := .i64))) <| Nk 131074 1 ⟨tp 1 (.loc 0 0::tp 15 (.b (decide (p0.N < 0))::tp 86 [])), [(.box [(.y p0.Kind), (.i p0.N), (.u p0.Bits), (.s p0.Text)])], 0⟩ ?_
   rcases br hm with ⟨z, hm⟩ | ⟨z, hm⟩
   · refine AiT z <| Sx <| Wz (.loc 0 1) (Ofa rfl) <| Wz (.i p0.N) (Old rfl) <| Wz (.i (W6 (0 - p0.N))) (Ocs (by kernel_rfl) (op_un rfl (a1 := .int .i64 p0.N) (by kernel_rfl) (fun _ => hu_neg))) ?_
     obtain ⟨o0, q3, hm⟩ := bnd hm
     refine Wz (.s o0) (Ocf [] [] [] 0 (ok_r10_decimal (W6 (0 - p0.N)) o0 q3) (fun a w => Try.call67 a w) rfl trivial) ?_
     obtain ⟨t2, w2, x2, hm⟩ := bna hm
     refine Wz (.s t2) (Osd ([45] : List UInt8) o0 rfl w2 x2) <| Wm (.s t2) rfl <| Nn <| Rt <| Tr <| Tr ?_
     obtain rfl := sj hm
     exact ret_i []
   refine AiF z <| Sk <| Tk 2 1 ⟨tp 1 (.loc 0 0::tp 102 []), [(.box [(.y p0.Kind), (.i p0.N), (.u p0.Bits), (.s p0.Text)])], 0⟩ <| Sx <| Wz (.loc 0 1) (Ofa rfl) <| Wz (.i p0.N) (Old rfl) ?_
   obtain ⟨q0, r3, hm⟩ := bnd hm
   refine Wz (.s q0) (Ocf [] [] [] 0 (ok_r10_decimal p0.N q0 r3) (fun a w => Try.call67 a w) rfl trivial) <| Wm (.s q0) rfl <| Nn <| Rt <| Tr ?_
   obtain rfl := sj hm
   exact ret_i []
 refine AiF v <| Sk <| Tk 2 1 ⟨tp 1 (.loc 0 0::tp 102 []), [(.box [(.y p0.Kind), (.i p0.N), (.u p0.Bits), (.s p0.Text)])], 0⟩ <| Sq <| Sx <| Wz (.loc 0 0) (Ofa rfl) <| Wz (.y p0.Kind) (Old rfl) <| Wz (.b (decide (((p0.Kind.toNat : Nat) : Int) = 2))) (Ob2 (.int .u8 ((p0.Kind.toNat : Nat) : Int)) (.int .u8 2) rfl (fun _ => hb_eql)) <| Nk 268435458 1 ⟨tp 1 (.loc 0 0::tp 26 (.b (decide (((p0.Kind.toNat : Nat) : Int) = 2))::tp 75 [])), [(.box [(.y p0.Kind), (.i p0.N), (.u p0.Bits), (.s p0.Text)])], 0⟩ ?_
 rcases br hm with ⟨a0, hm⟩ | ⟨a0, hm⟩
 · refine AiT a0 <| Sq <| Sx <| Wz (.loc 0 1) (Ofa rfl) <| Wz (.i p0.N) (Old rfl) <| Wz (.b (decide (p0.N = 1))) (Obn rfl (fun _ => hb_eql (k := .i64))) <| Nk 2147483648 0 ⟨tp 31 (.b (decide (p0.N = 1))::tp 72 []), [.gone], 0⟩ ?_
   rcases br hm with ⟨b0, hm⟩ | ⟨b0, hm⟩
   · refine AiT b0 <| Sx <| Wm (.s ([116, 114, 117, 101] : List UInt8)) rfl <| Nn <| Rt <| Tr <| Tr ?_
     obtain rfl := sj hm
     exact ret_i []
   refine AiF b0 <| Sk <| Tk 0 0 ⟨tp 104 [], [.gone], 0⟩ <| Sx <| Wm (.s ([102, 97, 108, 115, 101] : List UInt8)) rfl <| Nn <| Rt <| Tr ?_
   obtain rfl := sj hm
   exact ret_i []
 refine AiF a0 <| Sk <| Tk 2 1 ⟨tp 1 (.loc 0 0::tp 102 []), [(.box [(.y p0.Kind), (.i p0.N), (.u p0.Bits), (.s p0.Text)])], 0⟩ <| Sq <| Sx <| Wz (.loc 0 0) (Ofa rfl) <| Wz (.y p0.Kind) (Old rfl) <| Wz (.b (decide (((p0.Kind.toNat : Nat) : Int) = 3))) (Ob2 (.int .u8 ((p0.Kind.toNat : Nat) : Int)) (.int .u8 3) rfl (fun _ => hb_eql)) <| Nk 17179869186 1 ⟨tp 1 (.loc 0 0::tp 32 (.b (decide (((p0.Kind.toNat : Nat) : Int) = 3))::tp 69 [])), [(.box [(.y p0.Kind), (.i p0.N), (.u p0.Bits), (.s p0.Text)])], 0⟩ ?_
 rcases br hm with ⟨c0, hm⟩ | ⟨c0, hm⟩
 · refine AiT c0 <| Sx <| Wm (.s ([] : List UInt8)) rfl <| Nk 10 1 ⟨tp 1 (.loc 0 0::tp 1 (.s ([] : List UInt8)::tp 100 [])), [(.box [(.y p0.Kind), (.i p0.N), (.u p0.Bits), (.s p0.Text)])], 0⟩ <| Sx <| Wz (.loc 0 2) (Ofa rfl) <| Wz (.u p0.Bits) (Old rfl) <| Wm (.u p0.Bits) rfl <| Nk 24 0 ⟨tp 3 (.s ([] : List UInt8)::.u p0.Bits::tp 99 []), [.gone], 0⟩ <| Sq <| Sx <| Wm (.i 0) rfl <| Nk 56 0 ⟨tp 3 (.s ([] : List UInt8)::.u p0.Bits::.i 0::tp 98 []), [.gone], 0⟩ <| Bk ?_
   refine AWP.loopI (α := Nat × (List UInt8) × Int × Int)
     (fun (fu_3, j, e, g) => (⟨tp 3 (.s j::.u e::.i g::tp 98 []), [], 0⟩ : St))
     (fun (fu_3, j, e, g) => m_r10_Literal_l3  fu_3 j e g = some r)
     (fun (fu_3, j, e, g) => fu_3) (1152921504606846976, ([] : List UInt8), p0.Bits, 0)
     (Weak.toK 56 0 0 []) hm ?_
   rintro ⟨fu_3, j, e, g⟩ n_3 hm ih_3
   try dsimp only at hm ih_3 ⊢
   cases fu_3 with
   | zero => exact absurd hm (by unfold m_r10_Literal_l3; simp)
   | succ fu_3 =>
    unfold m_r10_Literal_l3 at hm
    refine Sq <| Sx <| Wm (.i g) rfl <| Wz (.b (decide (g < 16))) (Obn rfl (fun _ => hb_lss (k := .i64))) <| Nk 274877907000 0 ⟨tp 3 (.s j::.u e::.i g::tp 32 (.b (decide (g < 16))::tp 65 [])), [], 0⟩ ?_
    rcases br hm with ⟨d0, hm⟩ | ⟨d0, hm⟩
    · refine AiT d0 <| Sk <| Tk 56 0 ⟨tp 3 (.s j::.u e::.i g::tp 98 []), [], 0⟩ <| Sq <| Bk <| Sx <| Wm (.u e) rfl <| Wz (.u (Int.tmod e 16)) (Ob2 (.int .u64 e) (.int .u64 16) rfl (fun _ => hb_rem (by decide))) <| Wm (.u e) rfl <| Wz (.u (Int.tmod e 16)) (Ob2 (.int .u64 e) (.int .u64 16) rfl (fun _ => hb_rem (by decide))) <| Wz (.u (W7 ((Int.tmod e 16) + 1))) (Obn rfl (fun _ => hb_add (k := .u64))) ?_
      obtain ⟨u2, s3, hm⟩ := bnd hm; obtain ⟨y2, z2, a3, b3, c3⟩ := cut_some s3
      refine Wz (.s u2) (Ocs (lit_str (toS_cut c3)) (op_slice_str rfl (by kernel_rfl) (s := toS ([48, 49, 50, 51, 52, 53, 54, 55, 56, 57, 97, 98, 99, 100, 101, 102] : List UInt8)) (by kernel_rfl) (l := (Int.toNat (Int.tmod e 16))) (h := (Int.toNat (W7 ((Int.tmod e 16) + 1)))) (⟨.u64, (Int.tmod e 16), by kernel_rfl, y2⟩) (⟨.u64, (W7 ((Int.tmod e 16) + 1)), by kernel_rfl, z2⟩) a3 b3)) <| Wm (.s j) rfl ?_
      obtain ⟨p, d3, e3, hm⟩ := bna hm
      refine Wz (.s p) (Osd u2 j rfl d3 e3) <| Wm (.s p) rfl <| Nk 56 0 ⟨tp 3 (.s p::.u e::.i g::tp 98 []), [], 0⟩ <| Tx <| Wm (.u e) rfl <| Wz (.u (W7 (Int.tdiv e 16))) (Ob2 (.int .u64 e) (.int .u64 16) rfl (fun _ => hb_quo (by decide))) <| Wm (.u (W7 (Int.tdiv e 16))) rfl <| Wn0 <| Ino <| Tk 56 0 ⟨tp 3 (.s p::.u (W7 (Int.tdiv e 16))::.i g::tp 98 []), [], 0⟩ <| Tx <| Wm (.i g) rfl <| Wz (.i (W6 (g + 1))) (Obn rfl (fun _ => hb_add (k := .i64))) <| Wm (.i (W6 (g + 1))) rfl ?_
      refine Wn0 <| RoundK.normal ?_
      exact Rounds.weak (Weak.toK 56 0 0 []) (ih_3 (fu_3, p, (W7 (Int.tdiv e 16)), (W6 (g + 1))) hm (Nat.lt_succ_self _))
    refine AiF d0 <| AWP.exit <| Then.exit <| RoundK.exit <| InBlock.same <| Tk 8 0 ⟨tp 3 (.s j::tp 100 []), [], 0⟩ <| Sx <| Wm (.s j) rfl ?_
    obtain ⟨v2, f3, g3, hm⟩ := bna hm
    refine Wz (.s v2) (Osd ([35] : List UInt8) j rfl f3 g3) <| Wm (.s v2) rfl <| Nn <| Rt <| Tr ?_
    obtain rfl := sj hm
    exact ret_i []
 refine AiF c0 <| Sk <| Tk 2 1 ⟨tp 1 (.loc 0 0::tp 102 []), [(.box [(.y p0.Kind), (.i p0.N), (.u p0.Bits), (.s p0.Text)])], 0⟩ <| Sx <| Wm (.s ([39] : List UInt8)) rfl <| Nk 66 1 ⟨tp 1 (.loc 0 0::tp 4 (.s ([39] : List UInt8)::tp 97 [])), [(.box [(.y p0.Kind), (.i p0.N), (.u p0.Bits), (.s p0.Text)])], 0⟩ <| Sq <| Sx <| Wm (.i 0) rfl <| Nk 194 1 ⟨tp 1 (.loc 0 0::tp 4 (.s ([39] : List UInt8)::.i 0::tp 96 [])), [(.box [(.y p0.Kind), (.i p0.N), (.u p0.Bits), (.s p0.Text)])], 0⟩ <| Bk ?_
 refine AWP.loopI (α := Nat × (List UInt8) × Int)
   (fun (fu_6, f, d) => (⟨tp 1 (.loc 0 0::tp 4 (.s f::.i d::tp 96 [])), [(.box [(.y p0.Kind), (.i p0.N), (.u p0.Bits), (.s p0.Text)])], 0⟩ : St))
   (fun (fu_6, f, d) => m_r10_Literal_l6 p0 fu_6 f d = some r)
   (fun (fu_6, f, d) => fu_6) (1152921504606846976, ([39] : List UInt8), 0)
   (Weak.toK 194 0 0 [0]) hm ?_
 rintro ⟨fu_6, f, d⟩ n_6 hm ih_6
 try dsimp only at hm ih_6 ⊢
 cases fu_6 with
 | zero => exact absurd hm (by unfold m_r10_Literal_l6; simp)
 | succ fu_6 =>
  unfold m_r10_Literal_l6 at hm
  refine Sq <| Sx <| Wm (.i d) rfl <| Wz (.loc 0 3) (Ofa rfl) <| Wz (.s p0.Text) (Old rfl) <| Wz (.i ((List.length p0.Text : Nat) : Int)) (Oln rfl) <| Wz (.b (decide (d < ((List.length p0.Text : Nat) : Int)))) (Obn rfl (fun _ => hb_lss (k := .i64))) <| Nk 144115188075856066 1 ⟨tp 1 (.loc 0 0::tp 4 (.s f::.i d::tp 49 (.b (decide (d < ((List.length p0.Text : Nat) : Int)))::tp 46 []))), [(.box [(.y p0.Kind), (.i p0.N), (.u p0.Bits), (.s p0.Text)])], 0⟩ ?_
  rcases br hm with ⟨e0, hm⟩ | ⟨e0, hm⟩
  · refine AiT e0 <| Sk <| Tk 194 1 ⟨tp 1 (.loc 0 0::tp 4 (.s f::.i d::tp 96 [])), [(.box [(.y p0.Kind), (.i p0.N), (.u p0.Bits), (.s p0.Text)])], 0⟩ <| Sq <| Bk <| Sx <| Wz (.loc 0 3) (Ofa rfl) <| Wz (.s p0.Text) (Old rfl) <| Wm (.i d) rfl ?_
    obtain ⟨c, t3, hm⟩ := bnd hm
    obtain ⟨h3, i3⟩ := geti_some t3
    refine Wz (.y c) (Ocs (by kernel_rfl) (op_index_str rfl (by kernel_rfl) (s := toS p0.Text) (by kernel_rfl) (k := .i64) (iv := d) (by kernel_rfl) (i := (Int.toNat d)) (h3) (b := c) (i3))) <| Wm (.y c) rfl <| Nk 450 1 ⟨tp 1 (.loc 0 0::tp 4 (.s f::.i d::.y c::tp 95 [])), [(.box [(.y p0.Kind), (.i p0.N), (.u p0.Bits), (.s p0.Text)])], 0⟩ <| Sx <| Wm (.y c) rfl <| Wz (.b (decide (((c.toNat : Nat) : Int) = 39))) (Ob2 (.int .u8 ((c.toNat : Nat) : Int)) (.int .u8 39) rfl (fun _ => hb_eql)) <| Nk 36893488147419103682 1 ⟨tp 1 (.loc 0 0::tp 4 (.s f::.i d::.y c::tp 56 (.b (decide (((c.toNat : Nat) : Int) = 39))::tp 38 []))), [(.box [(.y p0.Kind), (.i p0.N), (.u p0.Bits), (.s p0.Text)])], 0⟩ ?_
    rcases br hm with ⟨f0, hm⟩ | ⟨f0, hm⟩
    · refine AiT f0 <| Tx <| Wm (.s f) rfl ?_
      obtain ⟨k0, j3, k3, hm⟩ := bna hm
      refine Wz (.s k0) (Osd f ([39, 39] : List UInt8) rfl j3 k3) <| Wm (.s k0) rfl <| Wn0 <| Ino <| Tk 194 1 ⟨tp 1 (.loc 0 0::tp 4 (.s k0::.i d::tp 96 [])), [(.box [(.y p0.Kind), (.i p0.N), (.u p0.Bits), (.s p0.Text)])], 0⟩ <| Tx <| Wm (.i d) rfl <| Wz (.i (W6 (d + 1))) (Obn rfl (fun _ => hb_add (k := .i64))) <| Wm (.i (W6 (d + 1))) rfl <| Wn0 <| RoundK.normal ?_
      exact Rounds.weak (Weak.toK 194 0 0 [0]) (ih_6 (fu_6, k0, (W6 (d + 1))) hm (Nat.lt_succ_self _))
    refine AiF f0 ?_
    refine AWP.cutJ (α := Unit) (fun x => match x with | () => (⟨tp 1 (.loc 0 0::tp 4 (.s f::.i d::.y c::tp 68 (.b false::tp 26 []))), [(.box [(.y p0.Kind), (.i p0.N), (.u p0.Bits), (.s p0.Text)])], 0⟩ : St)) (fun x => match x with | () => m_r10_Literal_j11 c f d (fun f d => m_r10_Literal_l6 p0 fu_6 f d) = some r) ?_ (fun J11 => ?_)
    ·
     rintro ⟨⟩ hm
     try dsimp only at hm ⊢
     unfold m_r10_Literal_j11 at hm
     refine AWP.if_ false (by kernel_rfl) <| Adr <| Wm (.s f) rfl ?_
     obtain ⟨r0, q1, r1, hm⟩ := bna hm
     refine Wz (.s r0) (Osd f ([92] : List UInt8) rfl q1 r1) <| Wm (.y c) rfl <| Wz (.y (toU8 (Int.tdiv ((c.toNat : Nat) : Int) 16))) (Ocs (lit_int (u8w _)) (op_bin rfl (a1 := .int .u8 ((c.toNat : Nat) : Int)) (a2 := .int .u8 16) (by kernel_rfl) (by kernel_rfl) (fun _ => hb_quo (by decide)))) <| Wm (.y c) rfl <| Wz (.y (toU8 (Int.tdiv ((c.toNat : Nat) : Int) 16))) (Ocs (lit_int (u8w _)) (op_bin rfl (a1 := .int .u8 ((c.toNat : Nat) : Int)) (a2 := .int .u8 16) (by kernel_rfl) (by kernel_rfl) (fun _ => hb_quo (by decide)))) <| Wz (.y (toU8 ((((toU8 (Int.tdiv ((c.toNat : Nat) : Int) 16)).toNat : Nat) : Int) + 1))) (Ocs (lit_int (u8w _)) (op_bin rfl (a1 := .int .u8 (((toU8 (Int.tdiv ((c.toNat : Nat) : Int) 16)).toNat : Nat) : Int)) (a2 := .int .u8 1) (by kernel_rfl) (by kernel_rfl) (fun _ => hb_add))) ?_
     obtain ⟨s0, l3, hm⟩ := bnd hm; obtain ⟨s1, t1, u1, v1, w1⟩ := cut_some l3
     refine Wz (.s s0) (Ocs (lit_str (toS_cut w1)) (op_slice_str rfl (by kernel_rfl) (s := toS ([48, 49, 50, 51, 52, 53, 54, 55, 56, 57, 97, 98, 99, 100, 101, 102] : List UInt8)) (by kernel_rfl) (l := (Int.toNat (((toU8 (Int.tdiv ((c.toNat : Nat) : Int) 16)).toNat : Nat) : Int))) (h := (Int.toNat (((toU8 ((((toU8 (Int.tdiv ((c.toNat : Nat) : Int) 16)).toNat : Nat) : Int) + 1)).toNat : Nat) : Int))) (⟨.u8, (((toU8 (Int.tdiv ((c.toNat : Nat) : Int) 16)).toNat : Nat) : Int), by kernel_rfl, s1⟩) (⟨.u8, (((toU8 ((((toU8 (Int.tdiv ((c.toNat : Nat) : Int) 16)).toNat : Nat) : Int) + 1)).toNat : Nat) : Int), by kernel_rfl, t1⟩) u1 v1)) ?_
     obtain ⟨t0, x1, y1, hm⟩ := bna hm
     refine Wz (.s t0) (Osd r0 s0 rfl x1 y1) <| Wm (.y c) rfl <| Wz (.y (toU8 (Int.tmod ((c.toNat : Nat) : Int) 16))) (Ocs (lit_int (u8m (by decide))) (op_bin rfl (a1 := .int .u8 ((c.toNat : Nat) : Int)) (a2 := .int .u8 16) (by kernel_rfl) (by kernel_rfl) (fun _ => hb_rem (by decide)))) <| Wm (.y c) rfl <| Wz (.y (toU8 (Int.tmod ((c.toNat : Nat) : Int) 16))) (Ocs (lit_int (u8m (by decide))) (op_bin rfl (a1 := .int .u8 ((c.toNat : Nat) : Int)) (a2 := .int .u8 16) (by kernel_rfl) (by kernel_rfl) (fun _ => hb_rem (by decide)))) <| Wz (.y (toU8 ((((toU8 (Int.tmod ((c.toNat : Nat) : Int) 16)).toNat : Nat) : Int) + 1))) (Ocs (lit_int (u8w _)) (op_bin rfl (a1 := .int .u8 (((toU8 (Int.tmod ((c.toNat : Nat) : Int) 16)).toNat : Nat) : Int)) (a2 := .int .u8 1) (by kernel_rfl) (by kernel_rfl) (fun _ => hb_add))) ?_
     obtain ⟨l0, z1, hm⟩ := bnd hm; obtain ⟨u0, v0, w0, x0, y0⟩ := cut_some z1
     refine Wz (.s l0) (Ocs (lit_str (toS_cut y0)) (op_slice_str rfl (by kernel_rfl) (s := toS ([48, 49, 50, 51, 52, 53, 54, 55, 56, 57, 97, 98, 99, 100, 101, 102] : List UInt8)) (by kernel_rfl) (l := (Int.toNat (((toU8 (Int.tmod ((c.toNat : Nat) : Int) 16)).toNat : Nat) : Int))) (h := (Int.toNat (((toU8 ((((toU8 (Int.tmod ((c.toNat : Nat) : Int) 16)).toNat : Nat) : Int) + 1)).toNat : Nat) : Int))) (⟨.u8, (((toU8 (Int.tmod ((c.toNat : Nat) : Int) 16)).toNat : Nat) : Int), by kernel_rfl, u0⟩) (⟨.u8, (((toU8 ((((toU8 (Int.tmod ((c.toNat : Nat) : Int) 16)).toNat : Nat) : Int) + 1)).toNat : Nat) : Int), by kernel_rfl, v0⟩) w0 x0)) ?_
     obtain ⟨m, z0, b1, hm⟩ := bna hm
     refine Wz (.s m) (Osd t0 l0 rfl z0 b1) <| Wm (.s m) rfl <| Wdr <| Ino <| Tk 194 1 ⟨tp 1 (.loc 0 0::tp 4 (.s m::.i d::tp 96 [])), [(.box [(.y p0.Kind), (.i p0.N), (.u p0.Bits), (.s p0.Text)])], 0⟩ <| Tx <| Wm (.i d) rfl <| Wz (.i (W6 (d + 1))) (Obn rfl (fun _ => hb_add (k := .i64))) <| Wm (.i (W6 (d + 1))) rfl <| Wn0 <| RoundK.normal ?_
     exact Rounds.weak (Weak.toK 194 0 0 [0]) (ih_6 (fu_6, m, (W6 (d + 1))) hm (Nat.lt_succ_self _))
    refine Sx <| Wm (.y c) rfl <| Wz (.b (decide ((32 : Int) ≤ ((c.toNat : Nat) : Int)))) (Ob2 (.int .u8 ((c.toNat : Nat) : Int)) (.int .u8 32) rfl (fun _ => hb_geq)) ?_
    rcases br hm with ⟨g0, hm⟩ | ⟨g0, hm⟩
    · refine Wz (.b true) (Oq g0 rfl) <| Wm (.y c) rfl <| Wz (.b (decide (((c.toNat : Nat) : Int) ≤ 126))) (Ob2 (.int .u8 ((c.toNat : Nat) : Int)) (.int .u8 126) rfl (fun _ => hb_leq)) <| Wz (.b (decide (((c.toNat : Nat) : Int) ≤ 126))) (OpT rfl) ?_
      rcases br hm with ⟨h0, hm⟩ | ⟨h0, hm⟩
      · refine Wz (.b true) (Oq h0 rfl) <| Wm (.y c) rfl <| Wz (.b (decide (((c.toNat : Nat) : Int) ≠ 92))) (Ob2 (.int .u8 ((c.toNat : Nat) : Int)) (.int .u8 92) rfl (fun _ => hb_neq)) <| Wz (.b (decide (((c.toNat : Nat) : Int) ≠ 92))) (OpT rfl) <| Nk 151115727451828646838722 1 ⟨tp 1 (.loc 0 0::tp 4 (.s f::.i d::.y c::tp 68 (.b (decide (((c.toNat : Nat) : Int) ≠ 92))::tp 26 []))), [(.box [(.y p0.Kind), (.i p0.N), (.u p0.Bits), (.s p0.Text)])], 0⟩ ?_
        rcases br hm with ⟨i0, hm⟩ | ⟨i0, hm⟩
        · refine AiT i0 <| Tx <| Wm (.s f) rfl <| Wz (.loc 0 3) (Ofa rfl) <| Wz (.s p0.Text) (Old rfl) <| Wm (.i d) rfl <| Wm (.i d) rfl <| Wz (.i (W6 (d + 1))) (Obn rfl (fun _ => hb_add (k := .i64))) ?_
          obtain ⟨c1, m3, hm⟩ := bnd hm; obtain ⟨b2, c2, d2, e2, f2⟩ := cut_some m3
          refine Wz (.s c1) (Ocs (lit_str (toS_cut f2)) (op_slice_str rfl (by kernel_rfl) (s := toS p0.Text) (by kernel_rfl) (l := (Int.toNat d)) (h := (Int.toNat (W6 (d + 1)))) (⟨.i64, d, by kernel_rfl, b2⟩) (⟨.i64, (W6 (d + 1)), by kernel_rfl, c2⟩) d2 e2)) ?_
          obtain ⟨q, g2, h2, hm⟩ := bna hm
          refine Wz (.s q) (Osd f c1 rfl g2 h2) <| Wm (.s q) rfl <| Wn0 <| Ino <| Tk 194 1 ⟨tp 1 (.loc 0 0::tp 4 (.s q::.i d::tp 96 [])), [(.box [(.y p0.Kind), (.i p0.N), (.u p0.Bits), (.s p0.Text)])], 0⟩ <| Tx <| Wm (.i d) rfl <| Wz (.i (W6 (d + 1))) (Obn rfl (fun _ => hb_add (k := .i64))) <| Wm (.i (W6 (d + 1))) rfl <| Wn0 <| RoundK.normal ?_
          exact Rounds.weak (Weak.toK 194 0 0 [0]) (ih_6 (fu_6, q, (W6 (d + 1))) hm (Nat.lt_succ_self _))
        refine AiF i0 <| Adr <| Wm (.s f) rfl ?_
        obtain ⟨d1, i2, j2, hm⟩ := bna hm
        refine Wz (.s d1) (Osd f ([92] : List UInt8) rfl i2 j2) <| Wm (.y c) rfl <| Wz (.y (toU8 (Int.tdiv ((c.toNat : Nat) : Int) 16))) (Ocs (lit_int (u8w _)) (op_bin rfl (a1 := .int .u8 ((c.toNat : Nat) : Int)) (a2 := .int .u8 16) (by kernel_rfl) (by kernel_rfl) (fun _ => hb_quo (by decide)))) <| Wm (.y c) rfl <| Wz (.y (toU8 (Int.tdiv ((c.toNat : Nat) : Int) 16))) (Ocs (lit_int (u8w _)) (op_bin rfl (a1 := .int .u8 ((c.toNat : Nat) : Int)) (a2 := .int .u8 16) (by kernel_rfl) (by kernel_rfl) (fun _ => hb_quo (by decide)))) <| Wz (.y (toU8 ((((toU8 (Int.tdiv ((c.toNat : Nat) : Int) 16)).toNat : Nat) : Int) + 1))) (Ocs (lit_int (u8w _)) (op_bin rfl (a1 := .int .u8 (((toU8 (Int.tdiv ((c.toNat : Nat) : Int) 16)).toNat : Nat) : Int)) (a2 := .int .u8 1) (by kernel_rfl) (by kernel_rfl) (fun _ => hb_add))) ?_
        obtain ⟨e1, n3, hm⟩ := bnd hm; obtain ⟨k2, l2, m2, n2, o2⟩ := cut_some n3
        refine Wz (.s e1) (Ocs (lit_str (toS_cut o2)) (op_slice_str rfl (by kernel_rfl) (s := toS ([48, 49, 50, 51, 52, 53, 54, 55, 56, 57, 97, 98, 99, 100, 101, 102] : List UInt8)) (by kernel_rfl) (l := (Int.toNat (((toU8 (Int.tdiv ((c.toNat : Nat) : Int) 16)).toNat : Nat) : Int))) (h := (Int.toNat (((toU8 ((((toU8 (Int.tdiv ((c.toNat : Nat) : Int) 16)).toNat : Nat) : Int) + 1)).toNat : Nat) : Int))) (⟨.u8, (((toU8 (Int.tdiv ((c.toNat : Nat) : Int) 16)).toNat : Nat) : Int), by kernel_rfl, k2⟩) (⟨.u8, (((toU8 ((((toU8 (Int.tdiv ((c.toNat : Nat) : Int) 16)).toNat : Nat) : Int) + 1)).toNat : Nat) : Int), by kernel_rfl, l2⟩) m2 n2)) ?_
        obtain ⟨f1, q2, r2, hm⟩ := bna hm
        refine Wz (.s f1) (Osd d1 e1 rfl q2 r2) <| Wm (.y c) rfl <| Wz (.y (toU8 (Int.tmod ((c.toNat : Nat) : Int) 16))) (Ocs (lit_int (u8m (by decide))) (op_bin rfl (a1 := .int .u8 ((c.toNat : Nat) : Int)) (a2 := .int .u8 16) (by kernel_rfl) (by kernel_rfl) (fun _ => hb_rem (by decide)))) <| Wm (.y c) rfl <| Wz (.y (toU8 (Int.tmod ((c.toNat : Nat) : Int) 16))) (Ocs (lit_int (u8m (by decide))) (op_bin rfl (a1 := .int .u8 ((c.toNat : Nat) : Int)) (a2 := .int .u8 16) (by kernel_rfl) (by kernel_rfl) (fun _ => hb_rem (by decide)))) <| Wz (.y (toU8 ((((toU8 (Int.tmod ((c.toNat : Nat) : Int) 16)).toNat : Nat) : Int) + 1))) (Ocs (lit_int (u8w _)) (op_bin rfl (a1 := .int .u8 (((toU8 (Int.tmod ((c.toNat : Nat) : Int) 16)).toNat : Nat) : Int)) (a2 := .int .u8 1) (by kernel_rfl) (by kernel_rfl) (fun _ => hb_add))) ?_
        obtain ⟨m0, s2, hm⟩ := bnd hm; obtain ⟨g1, h1, i1, j1, k1⟩ := cut_some s2
        refine Wz (.s m0) (Ocs (lit_str (toS_cut k1)) (op_slice_str rfl (by kernel_rfl) (s := toS ([48, 49, 50, 51, 52, 53, 54, 55, 56, 57, 97, 98, 99, 100, 101, 102] : List UInt8)) (by kernel_rfl) (l := (Int.toNat (((toU8 (Int.tmod ((c.toNat : Nat) : Int) 16)).toNat : Nat) : Int))) (h := (Int.toNat (((toU8 ((((toU8 (Int.tmod ((c.toNat : Nat) : Int) 16)).toNat : Nat) : Int) + 1)).toNat : Nat) : Int))) (⟨.u8, (((toU8 (Int.tmod ((c.toNat : Nat) : Int) 16)).toNat : Nat) : Int), by kernel_rfl, g1⟩) (⟨.u8, (((toU8 ((((toU8 (Int.tmod ((c.toNat : Nat) : Int) 16)).toNat : Nat) : Int) + 1)).toNat : Nat) : Int), by kernel_rfl, h1⟩) i1 j1)) ?_
        obtain ⟨o, l1, m1, hm⟩ := bna hm
        refine Wz (.s o) (Osd f1 m0 rfl l1 m1) <| Wm (.s o) rfl <| Wdr <| Ino <| Tk 194 1 ⟨tp 1 (.loc 0 0::tp 4 (.s o::.i d::tp 96 [])), [(.box [(.y p0.Kind), (.i p0.N), (.u p0.Bits), (.s p0.Text)])], 0⟩ <| Tx <| Wm (.i d) rfl <| Wz (.i (W6 (d + 1))) (Obn rfl (fun _ => hb_add (k := .i64))) <| Wm (.i (W6 (d + 1))) rfl <| Wn0 <| RoundK.normal ?_
        exact Rounds.weak (Weak.toK 194 0 0 [0]) (ih_6 (fu_6, o, (W6 (d + 1))) hm (Nat.lt_succ_self _))
      refine Wz (.b false) (Oq h0 rfl) <| Wn <| Wn <| Wz (.b false) (OpF rfl) <| Nn ?_
      exact AWP.weak (Weak.toK 151115727451828646838722 0 0 [0]) (J11 () hm)
    refine Wz (.b false) (Oq g0 rfl) <| Wn <| Wn <| Wz (.b false) (OpF rfl) <| Wm (.b false) rfl <| Wn <| Wn <| Wz (.b false) (OpF rfl) <| Nn ?_
    exact AWP.weak (Weak.toK 151115727451828646838722 0 0 [0]) (J11 () hm)
  refine AiF e0 <| AWP.exit <| Then.exit <| RoundK.exit <| InBlock.same <| Tk 64 0 ⟨tp 6 (.s f::tp 97 []), [.gone], 0⟩ <| Sx <| Wm (.s f) rfl ?_
  obtain ⟨n0, n1, o1, hm⟩ := bna hm
  refine Wz (.s n0) (Osd f ([39] : List UInt8) rfl n1 o1) <| Wm (.s n0) rfl <| Nn <| Rt ?_
  obtain rfl := sj hm
  exact ret_i []

theorem ok_r11_about (p0 : (List UInt8)) (p1 : Bool) (r : (List UInt8)) (h : m_r11_about p0 p1 = some r) : GCall Try.prog 79 [(.s p0), (.b p1)] [] (.s r) [] := by
 refine GCall.of_body (n := 10) (rs := [(.tmp 4)]) Try.func79 rfl rfl rfl <| Ato ⟨.s p0::.b p1::tu 8 [], [], 0⟩ ?_
 have hm := h
 unfold m_r11_about at hm
 refine Sx <| Wm (.s ([] : List UInt8)) rfl <| Nk 3 0 ⟨.s p0::.b p1::tp 8 [], [], 0⟩ <| Sq <| Sx <| Wm (.b p1) rfl <| Nk 33 0 ⟨.s p0::tp 4 (.b p1::tp 4 []), [], 0⟩ ?_
 rcases br hm with ⟨c, hm⟩ | ⟨c, hm⟩
 · refine AiT c <| Sx <| Wm (.s p0) rfl ?_
   obtain ⟨d, e, f, hm⟩ := bna hm
   refine Wz (.s d) (Osd ([40] : List UInt8) p0 rfl e f) ?_
   obtain ⟨g, i, j, hm⟩ := bna hm
   refine Wz (.s g) (Osd d ([41] : List UInt8) rfl i j) <| Wm (.s g) rfl <| Nn <| Rt <| Tr ?_
   obtain rfl := sj hm
   exact ret_i []
 refine AiF c <| Sk <| Tk 1 0 ⟨.s p0::tp 9 [], [], 0⟩ <| Sx <| Wm (.s p0) rfl <| Wm (.s p0) rfl <| Nn <| Rt ?_
 obtain rfl := sj hm
 exact ret_i []

theorem ok_r05_Sign (p0 : UInt8) (r : (List UInt8)) (h : m_r05_Sign p0 = some r) : GCall Try.prog 80 [(.y p0)] [] (.s r) [] := by
 refine GCall.of_body (n := 11) (rs := [(.tmp 2)]) Try.func80 rfl rfl rfl <| Ato ⟨.y p0::tu 10 [], [], 0⟩ ?_
 have hm := h
 unfold m_r05_Sign at hm
 refine Sx <| Wm (.s ([] : List UInt8)) rfl <| Nk 1 0 ⟨.y p0::tp 10 [], [], 0⟩ <| Sx <| Wy (.own 0) [(0, (Ar 9 1 encS ([([] : List UInt8), ([61] : List UInt8), ([33, 61] : List UInt8), ([60] : List UInt8), ([60, 61] : List UInt8), ([62] : List UInt8), ([62, 61] : List UInt8)] : List (List UInt8))))] (Obs rfl) <| Wm (.own 0) rfl <| Nk 9 1 ⟨.y p0::tp 2 (.own 0::tp 7 []), [(Ar 9 1 encS ([([] : List UInt8), ([61] : List UInt8), ([33, 61] : List UInt8), ([60] : List UInt8), ([60, 61] : List UInt8), ([62] : List UInt8), ([62, 61] : List UInt8)] : List (List UInt8)))], 0⟩ <| Sq <| Sx <| Wm (.y p0) rfl <| Wz (.b (decide ((6 : Int) < ((p0.toNat : Nat) : Int)))) (Ob2 (.int .u8 ((p0.toNat : Nat) : Int)) (.int .u8 6) rfl (fun _ => hb_gtr)) <| Nk 73 1 ⟨.y p0::tp 2 (.own 0::tp 2 (.b (decide ((6 : Int) < ((p0.toNat : Nat) : Int)))::tp 4 [])), [(Ar 9 1 encS ([([] : List UInt8), ([61] : List UInt8), ([33, 61] : List UInt8), ([60] : List UInt8), ([60, 61] : List UInt8), ([62] : List UInt8), ([62, 61] : List UInt8)] : List (List UInt8)))], 0⟩ ?_
 rcases br hm with ⟨c, hm⟩ | ⟨c, hm⟩
 · refine AiT c <| Sx <| Wm (.s ([] : List UInt8)) rfl <| Nn <| Rt <| Tr ?_
   obtain rfl := sj hm
   exact ret_i []
 refine AiF c <| Sk <| Tk 9 1 ⟨.y p0::tp 2 (.own 0::tp 7 []), [(Ar 9 1 encS ([([] : List UInt8), ([61] : List UInt8), ([33, 61] : List UInt8), ([60] : List UInt8), ([60, 61] : List UInt8), ([62] : List UInt8), ([62, 61] : List UInt8)] : List (List UInt8)))], 0⟩ <| Sx <| Wm (.own 0) rfl <| Wm (.y p0) rfl ?_
 obtain ⟨e, g, hm⟩ := bnd hm
 obtain ⟨f, d⟩ := geti_some g
 refine Wz (.loc 0 ((Int.toNat ((p0.toNat : Nat) : Int)) * 1)) (Oia rfl encS_len f d) <| Wz (.s e) (Lr1 rfl encS_len d) <| Wm (.s e) rfl <| Nn <| Rt ?_
 obtain rfl := sj hm
 exact ret_i []

theorem ok_r11_text : ∀ (fuR : Nat) (p0 : (List GNode_)) (p1 : Int) (r : ((List UInt8) × Int)) (h : m_r11_text fuR p0 p1 = some r), GCall Try.prog 65 [(.l enc_GNode_ p0), (.i p1)] [] (.tup [(.s r.1), (.i r.2)]) [] := by
 intro fuR; induction fuR with
 | zero => intro p0 p1 r h; exact absurd h (by unfold m_r11_text; simp)
 | succ fuR ih =>
 intro p0 p1 r h
 refine GCall.of_body (n := 135) (rs := [(.tmp 4), (.tmp 5)]) Try.func65 rfl rfl rfl <| Ato ⟨.l enc_GNode_ p0::.i p1::tu 133 [], [], 0⟩ ?_
 have hm := h
 unfold m_r11_text at hm
 refine Sx <| Wm (.s ([] : List UInt8)) rfl <| Wm (.i 0) rfl <| Nk 3 0 ⟨.l enc_GNode_ p0::.i p1::tp 133 [], [], 0⟩ <| Sx <| Wm (.l enc_GNode_ p0) rfl <| Wm (.i p1) rfl ?_
 obtain ⟨c, o2, hm⟩ := bnd hm
 obtain ⟨e2, q0⟩ := geti_some o2
 refine Wz (.d (.ref (List.drop ((Int.toNat p1) * 8) (flatD enc_GNode_ p0)))) (Oia rfl enc_GNode__len e2 q0) <| Wz (.agg [(.y c.Kind), (.y c.Op), (.s c.Var), (.s c.Name), (.y c.Val.Kind), (.i c.Val.N), (.u c.Val.Bits), (.s c.Val.Text)]) (Lf rfl enc_GNode__len q0) <| Wy (.loc 0 0) [(0, (.box [(.y 0), (.y 0), (.s ([] : List UInt8)), (.s ([] : List UInt8)), (.y 0), (.i 0), (.u 0), (.s ([] : List UInt8))]))] (Oal rfl) <| Wy (.tup []) [(0, (.box [(.y c.Kind), (.y c.Op), (.s c.Var), (.s c.Name), (.y c.Val.Kind), (.i c.Val.N), (.u c.Val.Bits), (.s c.Val.Text)]))] (Ost rfl) <| Nk 67 1 ⟨.l enc_GNode_ p0::.i p1::tp 4 (.loc 0 0::tp 128 []), [(.box [(.y c.Kind), (.y c.Op), (.s c.Var), (.s c.Name), (.y c.Val.Kind), (.i c.Val.N), (.u c.Val.Bits), (.s c.Val.Text)])], 0⟩ <| Sq <| Sx <| Wz (.loc 0 0) (Ofa rfl) <| Wz (.y c.Kind) (Old rfl) <| Wz (.b (decide (((c.Kind.toNat : Nat) : Int) = 7))) (Ob2 (.int .u8 ((c.Kind.toNat : Nat) : Int)) (.int .u8 7) rfl (fun _ => hb_eql)) <| Nk 524355 1 ⟨.l enc_GNode_ p0::.i p1::tp 4 (.loc 0 0::tp 12 (.b (decide (((c.Kind.toNat : Nat) : Int) = 7))::tp 115 [])), [(.box [(.y c.Kind), (.y c.Op), (.s c.Var), (.s c.Name), (.y c.Val.Kind), (.i c.Val.N), (.u c.Val.Bits), (.s c.Val.Text)])], 0⟩ ?_
 rcases br hm with ⟨a0, hm⟩ | ⟨a0, hm⟩
 · refine AiT a0 <| Sx <| Wz (.loc 0 3) (Ofa rfl) <| Wz (.s c.Name) (Old rfl) <| Wm (.i p1) rfl <| Wz (.i (W6 (p1 + 1))) (Obn rfl (fun _ => hb_add (k := .i64))) <| Wm (.s c.Name) rfl <| Wm (.i (W6 (p1 + 1))) rfl <| Nn <| Rt <| Tr ?_
   obtain rfl := sj hm
   exact ret_i []
 refine AiF a0 <| Sk <| Tk 67 1 ⟨.l enc_GNode_ p0::.i p1::tp 4 (.loc 0 0::tp 128 []), [(.box [(.y c.Kind), (.y c.Op), (.s c.Var), (.s c.Name), (.y c.Val.Kind), (.i c.Val.N), (.u c.Val.Bits), (.s c.Val.Text)])], 0⟩ <| Sq <| Sx <| Wz (.loc 0 0) (Ofa rfl) <| Wz (.y c.Kind) (Old rfl) <| Wz (.b (decide (((c.Kind.toNat : Nat) : Int) = 8))) (Ob2 (.int .u8 ((c.Kind.toNat : Nat) : Int)) (.int .u8 8) rfl (fun _ => hb_eql)) <| Nk 67108931 1 ⟨.l enc_GNode_ p0::.i p1::tp 4 (.loc 0 0::tp 19 (.b (decide (((c.Kind.toNat : Nat) : Int) = 8))::tp 108 [])), [(.box [(.y c.Kind), (.y c.Op), (.s c.Var), (.s c.Name), (.y c.Val.Kind), (.i c.Val.N), (.u c.Val.Bits), (.s c.Val.Text)])], 0⟩ ?_
 rcases br hm with ⟨b0, hm⟩ | ⟨b0, hm⟩
 · refine AiT b0 <| Sx <| Wz (.loc 0 2) (Ofa rfl) <| Wz (.s c.Var) (Old rfl) ?_
   obtain ⟨c2, f2, g2, hm⟩ := bna hm
   refine Wz (.s c2) (Osd c.Var ([46] : List UInt8) rfl f2 g2) <| Wz (.loc 0 3) (Ofa rfl) <| Wz (.s c.Name) (Old rfl) ?_
   obtain ⟨d2, h2, i2, hm⟩ := bna hm
   refine Wz (.s d2) (Osd c2 c.Name rfl h2 i2) <| Wm (.i p1) rfl <| Wz (.i (W6 (p1 + 1))) (Obn rfl (fun _ => hb_add (k := .i64))) <| Wm (.s d2) rfl <| Wm (.i (W6 (p1 + 1))) rfl <| Nn <| Rt <| Tr ?_
   obtain rfl := sj hm
   exact ret_i []
 refine AiF b0 <| Sk <| Tk 67 1 ⟨.l enc_GNode_ p0::.i p1::tp 4 (.loc 0 0::tp 128 []), [(.box [(.y c.Kind), (.y c.Op), (.s c.Var), (.s c.Name), (.y c.Val.Kind), (.i c.Val.N), (.u c.Val.Bits), (.s c.Val.Text)])], 0⟩ <| Sq <| Sx <| Wz (.loc 0 0) (Ofa rfl) <| Wz (.y c.Kind) (Old rfl) <| Wz (.b (decide (((c.Kind.toNat : Nat) : Int) = 9))) (Ob2 (.int .u8 ((c.Kind.toNat : Nat) : Int)) (.int .u8 9) rfl (fun _ => hb_eql)) <| Nk 137438953539 1 ⟨.l enc_GNode_ p0::.i p1::tp 4 (.loc 0 0::tp 30 (.b (decide (((c.Kind.toNat : Nat) : Int) = 9))::tp 97 [])), [(.box [(.y c.Kind), (.y c.Op), (.s c.Var), (.s c.Name), (.y c.Val.Kind), (.i c.Val.N), (.u c.Val.Bits), (.s c.Val.Text)])], 0⟩ ?_
 rcases br hm with ⟨c0, hm⟩ | ⟨c0, hm⟩
 · refine AiT c0 <| Sx <| Wz (.loc 0 4) (Ofa rfl) <| Wz (.agg [(.y c.Val.Kind), (.i c.Val.N), (.u c.Val.Bits), (.s c.Val.Text)]) (Old rfl) ?_
   obtain ⟨b1, q2, hm⟩ := bnd hm
   refine Wz (.s b1) (Ocf [] [] [] 0 (ok_r10_Literal c.Val b1 q2) (fun a w => Try.call54 a w) rfl trivial) <| Wm (.i p1) rfl <| Wz (.i (W6 (p1 + 1))) (Obn rfl (fun _ => hb_add (k := .i64))) <| Wm (.s b1) rfl <| Wm (.i (W6 (p1 + 1))) rfl <| Nn <| Rt <| Tr ?_
   obtain rfl := sj hm
   exact ret_i []
 refine AiF c0 <| Sk <| Tk 67 1 ⟨.l enc_GNode_ p0::.i p1::tp 4 (.loc 0 0::tp 128 []), [(.box [(.y c.Kind), (.y c.Op), (.s c.Var), (.s c.Name), (.y c.Val.Kind), (.i c.Val.N), (.u c.Val.Bits), (.s c.Val.Text)])], 0⟩ <| Sx <| Wm (.l enc_GNode_ p0) rfl <| Wm (.i p1) rfl <| Wz (.i (W6 (p1 + 1))) (Obn rfl (fun _ => hb_add (k := .i64))) ?_
 obtain ⟨g, r2, hm⟩ := bnd hm
 obtain ⟨j2, r0⟩ := geti_some r2
 refine Wz (.d (.ref (List.drop ((Int.toNat (W6 (p1 + 1))) * 8) (flatD enc_GNode_ p0)))) (Oia rfl enc_GNode__len j2 r0) <| Wz (.d (.ref (List.drop ((Int.toNat (W6 (p1 + 1))) * 8) (flatD enc_GNode_ p0)))) (Ofa rfl) <| Wz (.y g.Kind) (Lf1 rfl enc_GNode__len r0) <| Wm (.y g.Kind) rfl <| Nk 195 1 ⟨.l enc_GNode_ p0::.i p1::tp 4 (.loc 0 0::.y g.Kind::tp 127 []), [(.box [(.y c.Kind), (.y c.Op), (.s c.Var), (.s c.Name), (.y c.Val.Kind), (.i c.Val.N), (.u c.Val.Bits), (.s c.Val.Text)])], 0⟩ <| Sx <| Wm (.l enc_GNode_ p0) rfl <| Wm (.i p1) rfl <| Wz (.i (W6 (p1 + 1))) (Obn rfl (fun _ => hb_add (k := .i64))) ?_
 obtain ⟨f, s2, hm⟩ := bnd hm
 refine Wz (.tup [(.s f.1), (.i f.2)]) (Ocf [] [] [] 0 (ih p0 (W6 (p1 + 1)) f s2) (fun a w => Try.call65 a w) rfl trivial) <| Wm (.tup [(.s f.1), (.i f.2)]) rfl <| Wz (.s f.1) (Oex rfl) <| Wz (.i f.2) (Oex rfl) <| Wm (.s f.1) rfl <| Wm (.i f.2) rfl <| Nk 961 1 ⟨.l enc_GNode_ p0::tp 5 (.loc 0 0::.y g.Kind::.s f.1::.i f.2::tp 125 []), [(.box [(.y c.Kind), (.y c.Op), (.s c.Var), (.s c.Name), (.y c.Val.Kind), (.i c.Val.N), (.u c.Val.Bits), (.s c.Val.Text)])], 0⟩ <| Sq <| Sx <| Wz (.loc 0 0) (Ofa rfl) <| Wz (.y c.Kind) (Old rfl) <| Wz (.b (decide (((c.Kind.toNat : Nat) : Int) = 3))) (Ob2 (.int .u8 ((c.Kind.toNat : Nat) : Int)) (.int .u8 3) rfl (fun _ => hb_eql)) <| Nk 288230376151712705 1 ⟨.l enc_GNode_ p0::tp 5 (.loc 0 0::.y g.Kind::.s f.1::.i f.2::tp 48 (.b (decide (((c.Kind.toNat : Nat) : Int) = 3))::tp 76 [])), [(.box [(.y c.Kind), (.y c.Op), (.s c.Var), (.s c.Name), (.y c.Val.Kind), (.i c.Val.N), (.u c.Val.Bits), (.s c.Val.Text)])], 0⟩ ?_
 rcases br hm with ⟨d0, hm⟩ | ⟨d0, hm⟩
 · refine AiT d0 <| Sx <| Wm (.s f.1) rfl <| Wm (.y g.Kind) rfl <| Wz (.b (decide (((g.Kind.toNat : Nat) : Int) = 1))) (Ob2 (.int .u8 ((g.Kind.toNat : Nat) : Int)) (.int .u8 1) rfl (fun _ => hb_eql)) ?_
   rcases br hm with ⟨k0, hm⟩ | ⟨k0, hm⟩
   · refine Wz (.b true) (Oq k0 rfl) <| Wn <| Wn <| Wz (.b true) (OpT rfl) ?_
     obtain ⟨m, l0, hm⟩ := bnd hm
     refine Wz (.s m) (Ocf [] [] [] 0 (ok_r11_about f.1 true m l0) (fun a w => Try.call79 a w) rfl trivial) ?_
     obtain ⟨v, e0, f0, hm⟩ := bna hm
     refine Wz (.s v) (Osd ([110, 111, 116, 32] : List UInt8) m rfl e0 f0) <| Wm (.i f.2) rfl <| Wm (.s v) rfl <| Wm (.i f.2) rfl <| Nn <| Rt <| Tr ?_
     obtain rfl := sj hm
     exact ret_i []
   refine Wz (.b false) (Oq k0 rfl) <| Wm (.y g.Kind) rfl <| Wz (.b (decide (((g.Kind.toNat : Nat) : Int) = 2))) (Ob2 (.int .u8 ((g.Kind.toNat : Nat) : Int)) (.int .u8 2) rfl (fun _ => hb_eql)) <| Wz (.b (decide (((g.Kind.toNat : Nat) : Int) = 2))) (OpF rfl) ?_
   obtain ⟨m, l0, hm⟩ := bnd hm
   refine Wz (.s m) (Ocf [] [] [] 0 (ok_r11_about f.1 (decide (((g.Kind.toNat : Nat) : Int) = 2)) m l0) (fun a w => Try.call79 a w) rfl trivial) ?_
   obtain ⟨v, e0, f0, hm⟩ := bna hm
   refine Wz (.s v) (Osd ([110, 111, 116, 32] : List UInt8) m rfl e0 f0) <| Wm (.i f.2) rfl <| Wm (.s v) rfl <| Wm (.i f.2) rfl <| Nn <| Rt <| Tr ?_
   obtain rfl := sj hm
   exact ret_i []
 refine AiF d0 <| Sk <| Tk 961 1 ⟨.l enc_GNode_ p0::tp 5 (.loc 0 0::.y g.Kind::.s f.1::.i f.2::tp 125 []), [(.box [(.y c.Kind), (.y c.Op), (.s c.Var), (.s c.Name), (.y c.Val.Kind), (.i c.Val.N), (.u c.Val.Bits), (.s c.Val.Text)])], 0⟩ <| Sx <| Wm (.l enc_GNode_ p0) rfl <| Wm (.i f.2) rfl ?_
 obtain ⟨j, t2, hm⟩ := bnd hm
 obtain ⟨k2, s0⟩ := geti_some t2
 refine Wz (.d (.ref (List.drop ((Int.toNat f.2) * 8) (flatD enc_GNode_ p0)))) (Oia rfl enc_GNode__len k2 s0) <| Wz (.d (.ref (List.drop ((Int.toNat f.2) * 8) (flatD enc_GNode_ p0)))) (Ofa rfl) <| Wz (.y j.Kind) (Lf1 rfl enc_GNode__len s0) <| Wm (.y j.Kind) rfl <| Nk 1985 1 ⟨.l enc_GNode_ p0::tp 5 (.loc 0 0::.y g.Kind::.s f.1::.i f.2::.y j.Kind::tp 124 []), [(.box [(.y c.Kind), (.y c.Op), (.s c.Var), (.s c.Name), (.y c.Val.Kind), (.i c.Val.N), (.u c.Val.Bits), (.s c.Val.Text)])], 0⟩ <| Sx <| Wm (.l enc_GNode_ p0) rfl <| Wm (.i f.2) rfl ?_
 obtain ⟨e, u2, hm⟩ := bnd hm
 refine Wz (.tup [(.s e.1), (.i e.2)]) (Ocf [] [] [] 0 (ih p0 f.2 e u2) (fun a w => Try.call65 a w) rfl trivial) <| Wm (.tup [(.s e.1), (.i e.2)]) rfl <| Wz (.s e.1) (Oex rfl) <| Wz (.i e.2) (Oex rfl) <| Wm (.s e.1) rfl <| Wm (.i e.2) rfl <| Nk 7616 1 ⟨tp 6 (.loc 0 0::.y g.Kind::.s f.1::tp 1 (.y j.Kind::.s e.1::.i e.2::tp 122 [])), [(.box [(.y c.Kind), (.y c.Op), (.s c.Var), (.s c.Name), (.y c.Val.Kind), (.i c.Val.N), (.u c.Val.Bits), (.s c.Val.Text)])], 0⟩ <| Sq <| Sx <| Wz (.loc 0 0) (Ofa rfl) <| Wz (.y c.Kind) (Old rfl) <| Wz (.b (decide (((c.Kind.toNat : Nat) : Int) = 1))) (Ob2 (.int .u8 ((c.Kind.toNat : Nat) : Int)) (.int .u8 1) rfl (fun _ => hb_eql)) <| Nk 4835703278458516698832320 1 ⟨tp 6 (.loc 0 0::.y g.Kind::.s f.1::tp 1 (.y j.Kind::.s e.1::.i e.2::tp 69 (.b (decide (((c.Kind.toNat : Nat) : Int) = 1))::tp 52 []))), [(.box [(.y c.Kind), (.y c.Op), (.s c.Var), (.s c.Name), (.y c.Val.Kind), (.i c.Val.N), (.u c.Val.Bits), (.s c.Val.Text)])], 0⟩ ?_
 rcases br hm with ⟨g0, hm⟩ | ⟨g0, hm⟩
 · refine AiT g0 <| Sx <| Wm (.s f.1) rfl <| Wm (.y g.Kind) rfl <| Wz (.b (decide (((g.Kind.toNat : Nat) : Int) = 2))) (Ob2 (.int .u8 ((g.Kind.toNat : Nat) : Int)) (.int .u8 2) rfl (fun _ => hb_eql)) ?_
   obtain ⟨c1, v2, hm⟩ := bnd hm
   refine Wz (.s c1) (Ocf [] [] [] 0 (ok_r11_about f.1 (decide (((g.Kind.toNat : Nat) : Int) = 2)) c1 v2) (fun a w => Try.call79 a w) rfl trivial) ?_
   obtain ⟨d1, l2, m2, hm⟩ := bna hm
   refine Wz (.s d1) (Osd c1 ([32, 97, 110, 100, 32] : List UInt8) rfl l2 m2) <| Wm (.s e.1) rfl <| Wm (.y j.Kind) rfl <| Wz (.b (decide (((j.Kind.toNat : Nat) : Int) = 1))) (Ob2 (.int .u8 ((j.Kind.toNat : Nat) : Int)) (.int .u8 1) rfl (fun _ => hb_eql)) ?_
   rcases br hm with ⟨m0, hm⟩ | ⟨m0, hm⟩
   · refine Wz (.b true) (Oq m0 rfl) <| Wn <| Wn <| Wz (.b true) (OpT rfl) ?_
     obtain ⟨o, n0, hm⟩ := bnd hm
     refine Wz (.s o) (Ocf [] [] [] 0 (ok_r11_about e.1 true o n0) (fun a w => Try.call79 a w) rfl trivial) ?_
     obtain ⟨z, h0, i0, hm⟩ := bna hm
     refine Wz (.s z) (Osd d1 o rfl h0 i0) <| Wm (.i e.2) rfl <| Wm (.s z) rfl <| Wm (.i e.2) rfl <| Nn <| Rt <| Tr ?_
     obtain rfl := sj hm
     exact ret_i []
   refine Wz (.b false) (Oq m0 rfl) <| Wm (.y j.Kind) rfl <| Wz (.b (decide (((j.Kind.toNat : Nat) : Int) = 2))) (Ob2 (.int .u8 ((j.Kind.toNat : Nat) : Int)) (.int .u8 2) rfl (fun _ => hb_eql)) <| Wz (.b (decide (((j.Kind.toNat : Nat) : Int) = 2))) (OpF rfl) ?_
   obtain ⟨o, n0, hm⟩ := bnd hm
   refine Wz (.s o) (Ocf [] [] [] 0 (ok_r11_about e.1 (decide (((j.Kind.toNat : Nat) : Int) = 2)) o n0) (fun a w => Try.call79 a w) rfl trivial) ?_
   obtain ⟨z, h0, i0, hm⟩ := bna hm
   refine Wz (.s z) (Osd d1 o rfl h0 i0) <| Wm (.i e.2) rfl <| Wm (.s z) rfl <| Wm (.i e.2) rfl <| Nn <| Rt <| Tr ?_
   obtain rfl := sj hm
   exact ret_i []
 refine AiF g0 <| Sk <| Tk 7488 1 ⟨tp 6 (.loc 0 0::tp 1 (.s f.1::tp 1 (.y j.Kind::.s e.1::.i e.2::tp 122 []))), [(.box [(.y c.Kind), (.y c.Op), (.s c.Var), (.s c.Name), (.y c.Val.Kind), (.i c.Val.N), (.u c.Val.Bits), (.s c.Val.Text)])], 0⟩ <| Sq <| Sx <| Wz (.loc 0 0) (Ofa rfl) <| Wz (.y c.Kind) (Old rfl) <| Wz (.b (decide (((c.Kind.toNat : Nat) : Int) = 2))) (Ob2 (.int .u8 ((c.Kind.toNat : Nat) : Int)) (.int .u8 2) rfl (fun _ => hb_eql)) <| Nk 1267650600228229401496703212864 1 ⟨tp 6 (.loc 0 0::tp 1 (.s f.1::tp 1 (.y j.Kind::.s e.1::.i e.2::tp 87 (.b (decide (((c.Kind.toNat : Nat) : Int) = 2))::tp 34 [])))), [(.box [(.y c.Kind), (.y c.Op), (.s c.Var), (.s c.Name), (.y c.Val.Kind), (.i c.Val.N), (.u c.Val.Bits), (.s c.Val.Text)])], 0⟩ ?_
 rcases br hm with ⟨p, hm⟩ | ⟨p, hm⟩
 · refine AiT p <| Sx <| Wm (.s f.1) rfl ?_
   obtain ⟨e1, x1, y1, hm⟩ := bna hm
   refine Wz (.s e1) (Osd f.1 ([32, 111, 114, 32] : List UInt8) rfl x1 y1) <| Wm (.s e.1) rfl <| Wm (.y j.Kind) rfl <| Wz (.b (decide (((j.Kind.toNat : Nat) : Int) = 2))) (Ob2 (.int .u8 ((j.Kind.toNat : Nat) : Int)) (.int .u8 2) rfl (fun _ => hb_eql)) ?_
   obtain ⟨o0, n2, hm⟩ := bnd hm
   refine Wz (.s o0) (Ocf [] [] [] 0 (ok_r11_about e.1 (decide (((j.Kind.toNat : Nat) : Int) = 2)) o0 n2) (fun a w => Try.call79 a w) rfl trivial) ?_
   obtain ⟨f1, z1, a2, hm⟩ := bna hm
   refine Wz (.s f1) (Osd e1 o0 rfl z1 a2) <| Wm (.i e.2) rfl <| Wm (.s f1) rfl <| Wm (.i e.2) rfl <| Nn <| Rt <| Tr ?_
   obtain rfl := sj hm
   exact ret_i []
 refine AiF p <| Sk <| Tk 6464 1 ⟨tp 6 (.loc 0 0::tp 1 (.s f.1::tp 2 (.s e.1::.i e.2::tp 122 []))), [(.box [(.y c.Kind), (.y c.Op), (.s c.Var), (.s c.Name), (.y c.Val.Kind), (.i c.Val.N), (.u c.Val.Bits), (.s c.Val.Text)])], 0⟩ <| Sq <| Sx <| Wz (.loc 0 0) (Ofa rfl) <| Wz (.y c.Kind) (Old rfl) <| Wz (.b (decide (((c.Kind.toNat : Nat) : Int) = 4))) (Ob2 (.int .u8 ((c.Kind.toNat : Nat) : Int)) (.int .u8 4) rfl (fun _ => hb_eql)) <| Nk 2596148429267413814265248164616512 1 ⟨tp 6 (.loc 0 0::tp 1 (.s f.1::tp 2 (.s e.1::.i e.2::tp 98 (.b (decide (((c.Kind.toNat : Nat) : Int) = 4))::tp 23 [])))), [(.box [(.y c.Kind), (.y c.Op), (.s c.Var), (.s c.Name), (.y c.Val.Kind), (.i c.Val.N), (.u c.Val.Bits), (.s c.Val.Text)])], 0⟩ ?_
 rcases br hm with ⟨q, hm⟩ | ⟨q, hm⟩
 · refine AiT q <| Sx <| Wm (.s f.1) rfl ?_
   obtain ⟨t0, g1, h1, hm⟩ := bna hm
   refine Wz (.s t0) (Osd f.1 ([32] : List UInt8) rfl g1 h1) <| Wz (.loc 0 1) (Ofa rfl) <| Wz (.y c.Op) (Old rfl) ?_
   obtain ⟨j0, b2, hm⟩ := bnd hm
   refine Wz (.s j0) (Ocf [] [] [] 0 (ok_r05_Sign c.Op j0 b2) (fun a w => Try.call80 a w) rfl trivial) ?_
   obtain ⟨u0, i1, j1, hm⟩ := bna hm
   refine Wz (.s u0) (Osd t0 j0 rfl i1 j1) ?_
   obtain ⟨v0, k1, l1, hm⟩ := bna hm
   refine Wz (.s v0) (Osd u0 ([32] : List UInt8) rfl k1 l1) <| Wm (.s e.1) rfl ?_
   obtain ⟨w0, m1, n1, hm⟩ := bna hm
   refine Wz (.s w0) (Osd v0 e.1 rfl m1 n1) <| Wm (.i e.2) rfl <| Wm (.s w0) rfl <| Wm (.i e.2) rfl <| Nn <| Rt <| Tr ?_
   obtain rfl := sj hm
   exact ret_i []
 refine AiF q <| Sk <| Tk 6464 1 ⟨tp 6 (.loc 0 0::tp 1 (.s f.1::tp 2 (.s e.1::.i e.2::tp 122 []))), [(.box [(.y c.Kind), (.y c.Op), (.s c.Var), (.s c.Name), (.y c.Val.Kind), (.i c.Val.N), (.u c.Val.Bits), (.s c.Val.Text)])], 0⟩ <| Sq <| Sx <| Wz (.loc 0 0) (Ofa rfl) <| Wz (.y c.Kind) (Old rfl) <| Wz (.b (decide (((c.Kind.toNat : Nat) : Int) = 5))) (Ob2 (.int .u8 ((c.Kind.toNat : Nat) : Int)) (.int .u8 5) rfl (fun _ => hb_eql)) <| Nk 21267647932558653966460912964485519616 0 ⟨tp 8 (.s f.1::tp 2 (.s e.1::.i e.2::tp 111 (.b (decide (((c.Kind.toNat : Nat) : Int) = 5))::tp 10 []))), [.gone], 0⟩ ?_
 rcases br hm with ⟨t, hm⟩ | ⟨t, hm⟩
 · refine AiT t <| Sx <| Wm (.s f.1) rfl ?_
   obtain ⟨x0, o1, q1, hm⟩ := bna hm
   refine Wz (.s x0) (Osd f.1 ([32, 43, 32] : List UInt8) rfl o1 q1) <| Wm (.s e.1) rfl ?_
   obtain ⟨y0, r1, s1, hm⟩ := bna hm
   refine Wz (.s y0) (Osd x0 e.1 rfl r1 s1) <| Wm (.i e.2) rfl <| Wm (.s y0) rfl <| Wm (.i e.2) rfl <| Nn <| Rt <| Tr ?_
   obtain rfl := sj hm
   exact ret_i []
 refine AiF t <| Sk <| Tk 6400 0 ⟨tp 8 (.s f.1::tp 2 (.s e.1::.i e.2::tp 122 [])), [.gone], 0⟩ <| Sx <| Wm (.s f.1) rfl ?_
 obtain ⟨z0, t1, u1, hm⟩ := bna hm
 refine Wz (.s z0) (Osd f.1 ([32, 45, 32] : List UInt8) rfl t1 u1) <| Wm (.s e.1) rfl ?_
 obtain ⟨a1, v1, w1, hm⟩ := bna hm
 refine Wz (.s a1) (Osd z0 e.1 rfl v1 w1) <| Wm (.i e.2) rfl <| Wm (.s a1) rfl <| Wm (.i e.2) rfl <| Nn <| Rt ?_
 obtain rfl := sj hm
 exact ret_i []

theorem ok_r11_Print (p0 : (List GNode_)) (r : (List UInt8)) (h : m_r11_Print p0 = some r) : GCall Try.prog 52 [(.l enc_GNode_ p0)] [] (.s r) [] := by
 refine GCall.of_body (n := 19) (rs := [(.tmp 2)]) Try.func52 rfl rfl rfl <| Ato ⟨.l enc_GNode_ p0::tu 18 [], [], 0⟩ ?_
 have hm := h
 unfold m_r11_Print at hm
 refine Sx <| Wm (.s ([] : List UInt8)) rfl <| Nk 1 0 ⟨.l enc_GNode_ p0::tp 18 [], [], 0⟩ <| Sq <| Sx <| Wm (.l enc_GNode_ p0) rfl <| Wz (.i ((List.length p0 : Nat) : Int)) (Oln rfl) <| Wz (.b (decide (((List.length p0 : Nat) : Int) = 0))) (Obn rfl (fun _ => hb_eql (k := .i64))) ?_
 rcases br hm with ⟨f, hm⟩ | ⟨f, hm⟩
 · refine Wz (.b true) (Oq f rfl) <| Wn <| Wn <| Wn <| Wz (.b true) (OpT rfl) <| Nk 4097 0 ⟨.l enc_GNode_ p0::tp 11 (.b true::tp 6 []), [], 0⟩ <| AWP.if_ true (by kernel_rfl) <| Sx <| Wm (.s ([] : List UInt8)) rfl <| Nn <| Rt <| Tr ?_
   obtain rfl := sj hm
   exact ret_i []
 refine Wz (.b false) (Oq f rfl) <| Wm (.l enc_GNode_ p0) rfl ?_
 obtain ⟨d, g, hm⟩ := bnd hm
 refine Wz (.i d) (Ocf [] [] [] 0 (ok_r11_Check p0 d g) (fun a w => Try.call59 a w) rfl trivial) <| Wz (.b (decide (d ≠ 0))) (Obn rfl (fun _ => hb_neq (k := .i64))) <| Wz (.b (decide (d ≠ 0))) (OpF rfl) <| Nk 4097 0 ⟨.l enc_GNode_ p0::tp 11 (.b (decide (d ≠ 0))::tp 6 []), [], 0⟩ ?_
 rcases br hm with ⟨e, hm⟩ | ⟨e, hm⟩
 · refine AiT e <| Sx <| Wm (.s ([] : List UInt8)) rfl <| Nn <| Rt <| Tr ?_
   obtain rfl := sj hm
   exact ret_i []
 refine AiF e <| Sk <| Tk 1 0 ⟨.l enc_GNode_ p0::tp 18 [], [], 0⟩ <| Sx <| Wm (.l enc_GNode_ p0) rfl ?_
 obtain ⟨c, j, hm⟩ := bnd hm
 refine Wz (.tup [(.s c.1), (.i c.2)]) (Ocf [] [] [] 0 (ok_r11_text 1152921504606846976 p0 0 c j) (fun a w => Try.call65 a w) rfl trivial) <| Wm (.tup [(.s c.1), (.i c.2)]) rfl <| Wz (.s c.1) (Oex rfl) <| Wz (.i c.2) (Oex rfl) <| Wm (.s c.1) rfl <| Wm (.i c.2) rfl <| Nk 8 0 ⟨tp 3 (.s c.1::tp 15 []), [], 0⟩ <| Sx <| Wm (.s c.1) rfl <| Wm (.s c.1) rfl <| Nn <| Rt ?_
 obtain rfl := sj hm
 exact ret_i []

theorem ok_r04_OfInt (p0 : Int) (r : GValue) (h : m_r04_OfInt p0 = some r) : GCall Try.prog 55 [(.i p0)] [] (.agg [(.y r.Kind), (.i r.N), (.u r.Bits), (.s r.Text)]) [] := by
 refine GCall.of_body (n := 7) (rs := [(.cell 2 69)]) Try.func55 rfl rfl rfl <| Ato ⟨.i p0::tu 6 [], [], 0⟩ ?_
 have hm := h
 unfold m_r04_OfInt at hm
 refine Sx <| Wy (.loc 0 0) [(0, (.box [(.y 0), (.i 0), (.u 0), (.s ([] : List UInt8))]))] (Oal rfl) <| Nk 5 1 ⟨.i p0::tp 1 (.loc 0 0::tp 4 []), [(.box [(.y 0), (.i 0), (.u 0), (.s ([] : List UInt8))])], 0⟩ <| Sx <| Wm (.i p0) rfl <| Wz (.i (min 4611686018427387904 p0)) (op_bi2 rfl (a1 := .int .i64 4611686018427387904) (a2 := .int .i64 p0) (by kernel_rfl) (by kernel_rfl) hb_min) <| Wz (.i (max (-4611686018427387904) (min 4611686018427387904 p0))) (op_bi2 rfl (a1 := .int .i64 (-4611686018427387904)) (a2 := .int .i64 (min 4611686018427387904 p0)) (by kernel_rfl) (by kernel_rfl) hb_max) <| Wz (.agg [(.y 1), (.i (max (-4611686018427387904) (min 4611686018427387904 p0))), (.u 0), (.s ([] : List UInt8))]) (Obd rfl) <| Wy (.tup []) [(0, (.box [(.y 1), (.i (max (-4611686018427387904) (min 4611686018427387904 p0))), (.u 0), (.s ([] : List UInt8))]))] (Ost rfl) <| Nn <| Rt ?_
 obtain rfl := sj hm
 exact ret_i []

theorem ok_r13_number (p0 : Int) (r : (List UInt8)) (h : m_r13_number p0 = some r) : GCall Try.prog 35 [(.i p0)] [] (.s r) [] := by
 refine GCall.of_body (n := 6) (rs := [(.tmp 2)]) Try.func35 rfl rfl rfl <| Ato ⟨.i p0::tu 5 [], [], 0⟩ ?_
 have hm := h
 unfold m_r13_number at hm
 refine Sx <| Wm (.s ([] : List UInt8)) rfl <| Nk 1 0 ⟨.i p0::tp 5 [], [], 0⟩ <| Sx <| Wm (.i p0) rfl ?_
 obtain ⟨b, d, hm⟩ := bnd hm
 refine Wz (.agg [(.y b.Kind), (.i b.N), (.u b.Bits), (.s b.Text)]) (Ocf [] [] [] 0 (ok_r04_OfInt p0 b d) (fun a w => Try.call55 a w) rfl trivial) ?_
 obtain ⟨c, e, hm⟩ := bnd hm
 refine Wz (.s c) (Ocf [] [] [] 0 (ok_r10_Literal b c e) (fun a w => Try.call54 a w) rfl trivial) <| Wm (.s c) rfl <| Nn <| Rt ?_
 obtain rfl := sj hm
 exact ret_i []

theorem ok_r13_times (p0 : Int) (p1 : Int) (r : (List UInt8)) (h : m_r13_times p0 p1 = some r) : GCall Try.prog 53 [(.i p0), (.i p1)] [] (.s r) [] := by
 refine GCall.of_body (n := 44) (rs := [(.tmp 4)]) Try.func53 rfl rfl rfl <| Ato ⟨.i p0::.i p1::tu 42 [], [], 0⟩ ?_
 have hm := h
 unfold m_r13_times at hm
 refine Sx <| Wm (.s ([] : List UInt8)) rfl <| Nk 3 0 ⟨.i p0::.i p1::tp 42 [], [], 0⟩ ?_
 refine AWP.cutJ (α := Unit) (fun x => match x with | () => (⟨.i p0::.i p1::tp 42 [], [], 0⟩ : St)) (fun x => match x with | () => m_r13_times_j1 p0 p1 = some r) ?_ (fun J1 => ?_)
 ·
  rintro ⟨⟩ hm
  try dsimp only at hm ⊢
  unfold m_r13_times_j1 at hm
  refine AWP.cutJ (α := Unit) (fun x => match x with | () => (⟨.i p0::.i p1::tp 42 [], [], 0⟩ : St)) (fun x => match x with | () => m_r13_times_j3 p0 p1 = some r) ?_ (fun J3 => ?_)
  ·
   rintro ⟨⟩ hm
   try dsimp only at hm ⊢
   unfold m_r13_times_j3 at hm
   refine AWP.cutJ (α := Unit) (fun x => match x with | () => (⟨.i p0::.i p1::tp 42 [], [], 0⟩ : St)) (fun x => match x with | () => m_r13_times_j5 p0 p1 = some r) ?_ (fun J5 => ?_)
   ·
    rintro ⟨⟩ hm
    try dsimp only at hm ⊢
    unfold m_r13_times_j5 at hm
    refine Sq <| Sx <| Wm (.i p1) rfl <| Wm (.i p0) rfl <| Wz (.b (decide (p1 = p0))) (Obn rfl (fun _ => hb_eql (k := .i64))) <| Nk 33554435 0 ⟨.i p0::.i p1::tp 23 (.b (decide (p1 = p0))::tp 18 []), [], 0⟩ ?_
    rcases br hm with ⟨g, hm⟩ | ⟨g, hm⟩
    · refine AiT g <| Sx <| Wm (.i p0) rfl ?_
      obtain ⟨m, v0, hm⟩ := bnd hm
      refine Wz (.s m) (Ocf [] [] [] 0 (ok_r13_number p0 m v0) (fun a w => Try.call35 a w) rfl trivial) ?_
      obtain ⟨u, e0, f0, hm⟩ := bna hm
      refine Wz (.s u) (Osd ([123] : List UInt8) m rfl e0 f0) ?_
      obtain ⟨v, g0, h0, hm⟩ := bna hm
      refine Wz (.s v) (Osd u ([125] : List UInt8) rfl g0 h0) <| Wm (.s v) rfl <| Nn <| Rt <| Tr ?_
      obtain rfl := sj hm
      exact ret_i []
    refine AiF g <| Sk <| Tk 3 0 ⟨.i p0::.i p1::tp 42 [], [], 0⟩ <| Sq <| Sx <| Wm (.i p1) rfl <| Wz (.b (decide (p1 = 0))) (Obn rfl (fun _ => hb_eql (k := .i64))) <| Nk 2147483651 0 ⟨.i p0::.i p1::tp 29 (.b (decide (p1 = 0))::tp 12 []), [], 0⟩ ?_
    rcases br hm with ⟨c, hm⟩ | ⟨c, hm⟩
    · refine AiT c <| Sx <| Wm (.i p0) rfl ?_
      obtain ⟨o, w0, hm⟩ := bnd hm
      refine Wz (.s o) (Ocf [] [] [] 0 (ok_r13_number p0 o w0) (fun a w => Try.call35 a w) rfl trivial) ?_
      obtain ⟨y, i0, j0, hm⟩ := bna hm
      refine Wz (.s y) (Osd ([123] : List UInt8) o rfl i0 j0) ?_
      obtain ⟨z, k0, l0, hm⟩ := bna hm
      refine Wz (.s z) (Osd y ([44, 125] : List UInt8) rfl k0 l0) <| Wm (.s z) rfl <| Nn <| Rt <| Tr ?_
      obtain rfl := sj hm
      exact ret_i []
    refine AiF c <| Sk <| Tk 3 0 ⟨.i p0::.i p1::tp 42 [], [], 0⟩ <| Sx <| Wm (.i p0) rfl ?_
    obtain ⟨p, x0, hm⟩ := bnd hm
    refine Wz (.s p) (Ocf [] [] [] 0 (ok_r13_number p0 p x0) (fun a w => Try.call35 a w) rfl trivial) ?_
    obtain ⟨a0, m0, n0, hm⟩ := bna hm
    refine Wz (.s a0) (Osd ([123] : List UInt8) p rfl m0 n0) ?_
    obtain ⟨b0, o0, q0, hm⟩ := bna hm
    refine Wz (.s b0) (Osd a0 ([44] : List UInt8) rfl o0 q0) <| Wm (.i p1) rfl ?_
    obtain ⟨q, y0, hm⟩ := bnd hm
    refine Wz (.s q) (Ocf [] [] [] 0 (ok_r13_number p1 q y0) (fun a w => Try.call35 a w) rfl trivial) ?_
    obtain ⟨c0, r0, s0, hm⟩ := bna hm
    refine Wz (.s c0) (Osd b0 q rfl r0 s0) ?_
    obtain ⟨d0, t0, u0, hm⟩ := bna hm
    refine Wz (.s d0) (Osd c0 ([125] : List UInt8) rfl t0 u0) <| Wm (.s d0) rfl <| Nn <| Rt ?_
    obtain rfl := sj hm
    exact ret_i []
   refine Sq <| Sx <| Wm (.i p0) rfl <| Wz (.b (decide (p0 = 0))) (Obn rfl (fun _ => hb_eql (k := .i64))) ?_
   rcases br hm with ⟨j, hm⟩ | ⟨j, hm⟩
   · refine Wz (.b true) (Oq j rfl) <| Wm (.i p1) rfl <| Wz (.b (decide (p1 = 1))) (Obn rfl (fun _ => hb_eql (k := .i64))) <| Wz (.b (decide (p1 = 1))) (OpT rfl) <| Nk 4194307 0 ⟨.i p0::.i p1::tp 20 (.b (decide (p1 = 1))::tp 21 []), [], 0⟩ ?_
     rcases br hm with ⟨d, hm⟩ | ⟨d, hm⟩
     · refine AiT d <| Sx <| Wm (.s ([63] : List UInt8)) rfl <| Nn <| Rt <| Tr ?_
       obtain rfl := sj hm
       exact ret_i []
     refine AiF d <| Sk <| Tn ?_
     exact AWP.weak (Weak.toK 3 0 0 []) (J5 () hm)
   refine Wz (.b false) (Oq j rfl) <| Wn <| Wn <| Wz (.b false) (OpF rfl) <| Nk 4194307 0 ⟨.i p0::.i p1::tp 20 (.b false::tp 21 []), [], 0⟩ <| AWP.if_ false (by kernel_rfl) <| Sk <| Tn ?_
   exact AWP.weak (Weak.toK 3 0 0 []) (J5 () hm)
  refine Sq <| Sx <| Wm (.i p0) rfl <| Wz (.b (decide (p0 = 0))) (Obn rfl (fun _ => hb_eql (k := .i64))) ?_
  rcases br hm with ⟨l, hm⟩ | ⟨l, hm⟩
  · refine Wz (.b true) (Oq l rfl) <| Wm (.i p1) rfl <| Wz (.b (decide (p1 = 0))) (Obn rfl (fun _ => hb_eql (k := .i64))) <| Wz (.b (decide (p1 = 0))) (OpT rfl) <| Nk 65539 0 ⟨.i p0::.i p1::tp 14 (.b (decide (p1 = 0))::tp 27 []), [], 0⟩ ?_
    rcases br hm with ⟨e, hm⟩ | ⟨e, hm⟩
    · refine AiT e <| Sx <| Wm (.s ([42] : List UInt8)) rfl <| Nn <| Rt <| Tr ?_
      obtain rfl := sj hm
      exact ret_i []
    refine AiF e <| Sk <| Tn ?_
    exact AWP.weak (Weak.toK 3 0 0 []) (J3 () hm)
  refine Wz (.b false) (Oq l rfl) <| Wn <| Wn <| Wz (.b false) (OpF rfl) <| Nk 65539 0 ⟨.i p0::.i p1::tp 14 (.b false::tp 27 []), [], 0⟩ <| AWP.if_ false (by kernel_rfl) <| Sk <| Tn ?_
  exact AWP.weak (Weak.toK 3 0 0 []) (J3 () hm)
 refine Sq <| Sx <| Wm (.i p0) rfl <| Wz (.b (decide (p0 = 1))) (Obn rfl (fun _ => hb_eql (k := .i64))) ?_
 rcases br hm with ⟨t, hm⟩ | ⟨t, hm⟩
 · refine Wz (.b true) (Oq t rfl) <| Wm (.i p1) rfl <| Wz (.b (decide (p1 = 0))) (Obn rfl (fun _ => hb_eql (k := .i64))) <| Wz (.b (decide (p1 = 0))) (OpT rfl) <| Nk 1027 0 ⟨.i p0::.i p1::tp 8 (.b (decide (p1 = 0))::tp 33 []), [], 0⟩ ?_
   rcases br hm with ⟨f, hm⟩ | ⟨f, hm⟩
   · refine AiT f <| Sx <| Wm (.s ([43] : List UInt8)) rfl <| Nn <| Rt <| Tr ?_
     obtain rfl := sj hm
     exact ret_i []
   refine AiF f <| Sk <| Tn ?_
   exact AWP.weak (Weak.toK 3 0 0 []) (J1 () hm)
 refine Wz (.b false) (Oq t rfl) <| Wn <| Wn <| Wz (.b false) (OpF rfl) <| Nk 1027 0 ⟨.i p0::.i p1::tp 8 (.b false::tp 33 []), [], 0⟩ <| AWP.if_ false (by kernel_rfl) <| Sk <| Tn ?_
 exact AWP.weak (Weak.toK 3 0 0 []) (J1 () hm)
end Go.Proofs.Ytdpmojhejidhiaa.K
