/- what telltalelaw13.ShapeTells needs (0) -/
import Derived.Test.YtdpmojhejidhiaaZShelf
set_option linter.unusedVariables false
set_option linter.unusedSimpArgs false
namespace Go.Proofs.Ytdpmojhejidhiaa.K
open Go.RowKit Go.Lib
set_option maxRecDepth 20000
set_option maxHeartbeats 4000000

theorem ok_w04_Small (p0 : GValue) (r : Int) (h : m_w04_Small p0 = some r) : GCall Try.prog 39 [(.agg [(.y p0.Kind), (.i p0.N), (.u p0.Bits), (.s p0.Text)])] [] (.i r) [] := by
 refine GCall.of_body (n := 8) (rs := [(.tmp 2)]) Try.func39 rfl rfl rfl <| Ato ⟨.agg [(.y p0.Kind), (.i p0.N), (.u p0.Bits), (.s p0.Text)]::tu 7 [], [], 0⟩ ?_
 have hm := h
 unfold m_w04_Small at hm
 refine Sx <| Wy (.loc 0 0) [(0, (.box [(.y p0.Kind), (.i p0.N), (.u p0.Bits), (.s p0.Text)]))] (Obx rfl) <| Wm (.i 0) rfl <| Nk 2 1 ⟨tp 1 (.loc 0 0::tp 6 []), [(.box [(.y p0.Kind), (.i p0.N), (.u p0.Bits), (.s p0.Text)])], 0⟩ <| Sx <| Wz (.loc 0 3) (Ofa rfl) <| Wz (.s p0.Text) (Old rfl) <| Wz (.i ((List.length p0.Text : Nat) : Int)) (Oln rfl) <| Wz (.i (W6 (((List.length p0.Text : Nat) : Int) - 100))) (Obn rfl (fun _ => hb_sub (k := .i64))) <| Wz (.i (max 0 (W6 (((List.length p0.Text : Nat) : Int) - 100)))) (op_bi2 rfl (a1 := .int .i64 0) (a2 := .int .i64 (W6 (((List.length p0.Text : Nat) : Int) - 100))) (by kernel_rfl) (by kernel_rfl) hb_max) <| Wm (.i (max 0 (W6 (((List.length p0.Text : Nat) : Int) - 100)))) rfl <| Nn <| Rt ?_
 obtain rfl := sj hm
 exact ret_i []

theorem ok_w11_Over (p0 : (List GNode_)) (r : Int) (h : m_w11_Over p0 = some r) : GCall Try.prog 20 [(.l enc_GNode_ p0)] [] (.i r) [] := by
 refine GCall.of_body (n := 38) (rs := [(.tmp 2)]) Try.func20 rfl rfl rfl <| Ato ⟨.l enc_GNode_ p0::tu 37 [], [], 0⟩ ?_
 have hm := h
 unfold m_w11_Over at hm
 refine Sx <| Wm (.i 0) rfl <| Nk 1 0 ⟨.l enc_GNode_ p0::tp 37 [], [], 0⟩ <| Sq <| Sx <| Wm (.l enc_GNode_ p0) rfl <| Wz (.i ((List.length p0 : Nat) : Int)) (Oln rfl) <| Wz (.b (decide ((40 : Int) < ((List.length p0 : Nat) : Int)))) (Obn rfl (fun _ => hb_gtr (k := .i64))) <| Nk 65 0 ⟨.l enc_GNode_ p0::tp 5 (.b (decide ((40 : Int) < ((List.length p0 : Nat) : Int)))::tp 31 []), [], 0⟩ ?_
 rcases br hm with ⟨z, hm⟩ | ⟨z, hm⟩
 · refine AiT z <| Sx <| Wm (.i 1) rfl <| Nn <| Rt <| Tr ?_
   obtain rfl := sj hm
   exact ret_i []
 refine AiF z <| Sk <| Tk 1 0 ⟨.l enc_GNode_ p0::tp 37 [], [], 0⟩ <| Sq <| Sx <| Wm (.i 0) rfl <| Nk 9 0 ⟨.l enc_GNode_ p0::tp 2 (.i 0::tp 34 []), [], 0⟩ <| Bk ?_
 refine AWP.loopI (α := Nat × Int)
   (fun (fu_1, c) => (⟨.l enc_GNode_ p0::tp 2 (.i c::tp 34 []), [], 0⟩ : St))
   (fun (fu_1, c) => m_w11_Over_l1 p0 fu_1 c = some r)
   (fun (fu_1, c) => fu_1) (1152921504606846976, 0)
   (Weak.toK 9 0 0 []) hm ?_
 rintro ⟨fu_1, c⟩ n_1 hm ih_1
 try dsimp only at hm ih_1 ⊢
 cases fu_1 with
 | zero => exact absurd hm (by unfold m_w11_Over_l1; simp)
 | succ fu_1 =>
  unfold m_w11_Over_l1 at hm
  refine Sq <| Sx <| Wm (.i c) rfl <| Wm (.l enc_GNode_ p0) rfl <| Wz (.i ((List.length p0 : Nat) : Int)) (Oln rfl) <| Wz (.b (decide (c < ((List.length p0 : Nat) : Int)))) (Obn rfl (fun _ => hb_lss (k := .i64))) <| Nk 1033 0 ⟨.l enc_GNode_ p0::tp 2 (.i c::tp 6 (.b (decide (c < ((List.length p0 : Nat) : Int)))::tp 27 [])), [], 0⟩ ?_
  rcases br hm with ⟨j, hm⟩ | ⟨j, hm⟩
  · refine AiT j <| Sk <| Tk 9 0 ⟨.l enc_GNode_ p0::tp 2 (.i c::tp 34 []), [], 0⟩ <| Sq <| Bk ?_
    refine AWP.cutJ (α := Unit) (fun x => match x with | () => (⟨.l enc_GNode_ p0::tp 2 (.i c::tp 33 (.b true::[])), [], 0⟩ : St)) (fun x => match x with | () => m_w11_Over_j4  = some r) ?_ (fun J4 => ?_)
    ·
     rintro ⟨⟩ hm
     try dsimp only at hm ⊢
     unfold m_w11_Over_j4 at hm
     refine AWP.if_ true (by kernel_rfl) <| Sx <| Wm (.i 1) rfl <| Nn <| Rt <| Ir <| Tr <| RoundK.ret <| Ir <| Tr ?_
     obtain rfl := sj hm
     exact ret_i []
    refine Sx <| Wm (.l enc_GNode_ p0) rfl <| Wm (.i c) rfl ?_
    obtain ⟨a0, e0, hm⟩ := bnd hm
    obtain ⟨b0, q⟩ := geti_some e0
    refine Wz (.d (.ref (List.drop ((Int.toNat c) * 8) (flatD enc_GNode_ p0)))) (Oia rfl enc_GNode__len b0 q) <| Wz (.d (.ref (List.drop 2 (List.drop ((Int.toNat c) * 8) (flatD enc_GNode_ p0))))) (Ofa rfl) <| Wz (.s a0.Var) (Lfk1 2 rfl enc_GNode__len q) <| Wz (.i ((List.length a0.Var : Nat) : Int)) (Oln rfl) <| Wz (.b (decide ((40 : Int) < ((List.length a0.Var : Nat) : Int)))) (Obn rfl (fun _ => hb_gtr (k := .i64))) ?_
    rcases br hm with ⟨m, hm⟩ | ⟨m, hm⟩
    · refine Wz (.b true) (Oq m rfl) <| Wn <| Wn <| Wn <| Wn <| Wn <| Wn <| Wn <| Wz (.b true) (OpT rfl) <| Wm (.b true) rfl <| Wn <| Wn <| Wn <| Wn ?_
      refine Wn <| Wn <| Wn <| Wz (.b true) (OpT rfl) <| Nn ?_
      exact AWP.weak (Weak.toK 137438953481 0 0 []) (J4 () hm)
    refine Wz (.b false) (Oq m rfl) <| Wm (.l enc_GNode_ p0) rfl <| Wm (.i c) rfl ?_
    obtain ⟨g, f0, hm⟩ := bnd hm
    obtain ⟨c0, t⟩ := geti_some f0
    refine Wz (.d (.ref (List.drop ((Int.toNat c) * 8) (flatD enc_GNode_ p0)))) (Oia rfl enc_GNode__len c0 t) <| Wz (.d (.ref (List.drop 3 (List.drop ((Int.toNat c) * 8) (flatD enc_GNode_ p0))))) (Ofa rfl) <| Wz (.s g.Name) (Lfk1 3 rfl enc_GNode__len t) <| Wz (.i ((List.length g.Name : Nat) : Int)) (Oln rfl) <| Wz (.b (decide ((40 : Int) < ((List.length g.Name : Nat) : Int)))) (Obn rfl (fun _ => hb_gtr (k := .i64))) <| Wz (.b (decide ((40 : Int) < ((List.length g.Name : Nat) : Int)))) (OpF rfl) ?_
    rcases br hm with ⟨o, hm⟩ | ⟨o, hm⟩
    · refine Wz (.b true) (Oq o rfl) <| Wn <| Wn <| Wn <| Wn <| Wn <| Wn <| Wn <| Wz (.b true) (OpT rfl) <| Nn ?_
      exact AWP.weak (Weak.toK 137438953481 0 0 []) (J4 () hm)
    refine Wz (.b false) (Oq o rfl) <| Wm (.l enc_GNode_ p0) rfl <| Wm (.i c) rfl ?_
    obtain ⟨e, g0, hm⟩ := bnd hm
    obtain ⟨d0, v⟩ := geti_some g0
    refine Wz (.d (.ref (List.drop ((Int.toNat c) * 8) (flatD enc_GNode_ p0)))) (Oia rfl enc_GNode__len d0 v) <| Wz (.d (.ref (List.drop 4 (List.drop ((Int.toNat c) * 8) (flatD enc_GNode_ p0))))) (Ofa rfl) <| Wz (.agg [(.y e.Val.Kind), (.i e.Val.N), (.u e.Val.Bits), (.s e.Val.Text)]) (Lfk 4 rfl enc_GNode__len v) ?_
    obtain ⟨f, h0, hm⟩ := bnd hm
    refine Wz (.i f) (Ocf [] [] [] 0 (ok_w04_Small e.Val f h0) (fun a w => Try.call39 a w) rfl trivial) <| Wz (.b (decide ((0 : Int) < f))) (Obn rfl (fun _ => hb_gtr (k := .i64))) <| Wz (.b (decide ((0 : Int) < f))) (OpF rfl) <| Nk 137438953481 0 ⟨.l enc_GNode_ p0::tp 2 (.i c::tp 33 (.b (decide ((0 : Int) < f))::[])), [], 0⟩ ?_
    rcases br hm with ⟨p, hm⟩ | ⟨p, hm⟩
    · refine AiT p <| Sx <| Wm (.i 1) rfl <| Nn <| Rt <| Ir <| Tr <| RoundK.ret <| Ir <| Tr ?_
      obtain rfl := sj hm
      exact ret_i []
    refine AiF p <| Sk <| Ino <| Tk 9 0 ⟨.l enc_GNode_ p0::tp 2 (.i c::tp 34 []), [], 0⟩ <| Tx <| Wm (.i c) rfl <| Wz (.i (W6 (c + 1))) (Obn rfl (fun _ => hb_add (k := .i64))) <| Wm (.i (W6 (c + 1))) rfl <| Wn0 <| RoundK.normal ?_
    exact Rounds.weak (Weak.toK 9 0 0 []) (ih_1 (fu_1, (W6 (c + 1))) hm (Nat.lt_succ_self _))
  refine AiF j <| AWP.exit <| Then.exit <| RoundK.exit <| InBlock.same <| Tk 0 0 ⟨tp 38 [], [], 0⟩ <| Sx <| Wm (.i 0) rfl <| Nn <| Rt ?_
  obtain rfl := sj hm
  exact ret_i []

theorem ok_w13_Over (p0 : GPattern) (r : Int) (h : m_w13_Over p0 = some r) : GCall Try.prog 6 [(.agg [(.l enc_GNode p0.Body), (.i p0.Within), (.s p0.By), (.y p0.Mode)])] [] (.i r) [] := by
 refine GCall.of_body (n := 49) (rs := [(.tmp 2)]) Try.func6 rfl rfl rfl <| Ato ⟨.agg [(.l enc_GNode p0.Body), (.i p0.Within), (.s p0.By), (.y p0.Mode)]::tu 48 [], [], 0⟩ ?_
 have hm := h
 unfold m_w13_Over at hm
 refine Sx <| Wy (.loc 0 0) [(0, (.box [(.l enc_GNode p0.Body), (.i p0.Within), (.s p0.By), (.y p0.Mode)]))] (Obx rfl) <| Wm (.i 0) rfl <| Nk 2 1 ⟨tp 1 (.loc 0 0::tp 47 []), [(.box [(.l enc_GNode p0.Body), (.i p0.Within), (.s p0.By), (.y p0.Mode)])], 0⟩ <| Sq <| Sx <| Wz (.loc 0 0) (Ofa rfl) <| Wz (.l enc_GNode p0.Body) (Old rfl) <| Wz (.i ((List.length p0.Body : Nat) : Int)) (Oln rfl) <| Wz (.b (decide ((50 : Int) < ((List.length p0.Body : Nat) : Int)))) (Obn rfl (fun _ => hb_gtr (k := .i64))) ?_
 rcases br hm with ⟨v, hm⟩ | ⟨v, hm⟩
 · refine Wz (.b true) (Oq v rfl) <| Wn <| Wn <| Wn <| Wn <| Wz (.b true) (OpT rfl) <| Nk 8194 1 ⟨tp 1 (.loc 0 0::tp 11 (.b true::tp 35 [])), [(.box [(.l enc_GNode p0.Body), (.i p0.Within), (.s p0.By), (.y p0.Mode)])], 0⟩ <| AWP.if_ true (by kernel_rfl) <| Sx <| Wm (.i 1) rfl <| Nn <| Rt <| Tr ?_
   obtain rfl := sj hm
   exact ret_i []
 refine Wz (.b false) (Oq v rfl) <| Wz (.loc 0 2) (Ofa rfl) <| Wz (.s p0.By) (Old rfl) <| Wz (.i ((List.length p0.By : Nat) : Int)) (Oln rfl) <| Wz (.b (decide ((40 : Int) < ((List.length p0.By : Nat) : Int)))) (Obn rfl (fun _ => hb_gtr (k := .i64))) <| Wz (.b (decide ((40 : Int) < ((List.length p0.By : Nat) : Int)))) (OpF rfl) <| Nk 8194 1 ⟨tp 1 (.loc 0 0::tp 11 (.b (decide ((40 : Int) < ((List.length p0.By : Nat) : Int)))::tp 35 [])), [(.box [(.l enc_GNode p0.Body), (.i p0.Within), (.s p0.By), (.y p0.Mode)])], 0⟩ ?_
 rcases br hm with ⟨g, hm⟩ | ⟨g, hm⟩
 · refine AiT g <| Sx <| Wm (.i 1) rfl <| Nn <| Rt <| Tr ?_
   obtain rfl := sj hm
   exact ret_i []
 refine AiF g <| Sk <| Tk 2 1 ⟨tp 1 (.loc 0 0::tp 47 []), [(.box [(.l enc_GNode p0.Body), (.i p0.Within), (.s p0.By), (.y p0.Mode)])], 0⟩ <| Sq <| Sx <| Wm (.i 0) rfl <| Nk 10 1 ⟨tp 1 (.loc 0 0::tp 1 (.i 0::tp 45 [])), [(.box [(.l enc_GNode p0.Body), (.i p0.Within), (.s p0.By), (.y p0.Mode)])], 0⟩ <| Bk ?_
 refine AWP.loopI (α := Nat × Int)
   (fun (fu_1, c) => (⟨tp 1 (.loc 0 0::tp 1 (.i c::tp 45 [])), [(.box [(.l enc_GNode p0.Body), (.i p0.Within), (.s p0.By), (.y p0.Mode)])], 0⟩ : St))
   (fun (fu_1, c) => m_w13_Over_l1 p0 fu_1 c = some r)
   (fun (fu_1, c) => fu_1) (1152921504606846976, 0)
   (Weak.toK 10 0 0 [0]) hm ?_
 rintro ⟨fu_1, c⟩ n_1 hm ih_1
 try dsimp only at hm ih_1 ⊢
 cases fu_1 with
 | zero => exact absurd hm (by unfold m_w13_Over_l1; simp)
 | succ fu_1 =>
  unfold m_w13_Over_l1 at hm
  refine Sq <| Sx <| Wm (.i c) rfl <| Wz (.loc 0 0) (Ofa rfl) <| Wz (.l enc_GNode p0.Body) (Old rfl) <| Wz (.i ((List.length p0.Body : Nat) : Int)) (Oln rfl) <| Wz (.b (decide (c < ((List.length p0.Body : Nat) : Int)))) (Obn rfl (fun _ => hb_lss (k := .i64))) <| Nk 262154 1 ⟨tp 1 (.loc 0 0::tp 1 (.i c::tp 14 (.b (decide (c < ((List.length p0.Body : Nat) : Int)))::tp 30 []))), [(.box [(.l enc_GNode p0.Body), (.i p0.Within), (.s p0.By), (.y p0.Mode)])], 0⟩ ?_
  rcases br hm with ⟨j, hm⟩ | ⟨j, hm⟩
  · refine AiT j <| Sk <| Tk 10 1 ⟨tp 1 (.loc 0 0::tp 1 (.i c::tp 45 [])), [(.box [(.l enc_GNode p0.Body), (.i p0.Within), (.s p0.By), (.y p0.Mode)])], 0⟩ <| Sq <| Bk ?_
    refine AWP.cutJ (α := Unit) (fun x => match x with | () => (⟨tp 1 (.loc 0 0::tp 1 (.i c::tp 44 (.b true::[]))), [(.box [(.l enc_GNode p0.Body), (.i p0.Within), (.s p0.By), (.y p0.Mode)])], 0⟩ : St)) (fun x => match x with | () => m_w13_Over_j4  = some r) ?_ (fun J4 => ?_)
    ·
     rintro ⟨⟩ hm
     try dsimp only at hm ⊢
     unfold m_w13_Over_j4 at hm
     refine AWP.if_ true (by kernel_rfl) <| Sx <| Wm (.i 1) rfl <| Nn <| Rt <| Ir <| Tr <| RoundK.ret <| Ir <| Tr ?_
     obtain rfl := sj hm
     exact ret_i []
    refine Sx <| Wz (.loc 0 0) (Ofa rfl) <| Wz (.l enc_GNode p0.Body) (Old rfl) <| Wm (.i c) rfl ?_
    obtain ⟨z, e0, hm⟩ := bnd hm
    obtain ⟨b0, q⟩ := geti_some e0
    refine Wz (.d (.ref (List.drop ((Int.toNat c) * 7) (flatD enc_GNode p0.Body)))) (Oia rfl enc_GNode_len b0 q) <| Wz (.d (.ref (List.drop 4 (List.drop ((Int.toNat c) * 7) (flatD enc_GNode p0.Body))))) (Ofa rfl) <| Wz (.s z.Var) (Lfk1 4 rfl enc_GNode_len q) <| Wz (.i ((List.length z.Var : Nat) : Int)) (Oln rfl) <| Wz (.b (decide ((40 : Int) < ((List.length z.Var : Nat) : Int)))) (Obn rfl (fun _ => hb_gtr (k := .i64))) ?_
    rcases br hm with ⟨m, hm⟩ | ⟨m, hm⟩
    · refine Wz (.b true) (Oq m rfl) <| Wn <| Wn <| Wn <| Wn <| Wn <| Wn <| Wn <| Wn <| Wz (.b true) (OpT rfl) <| Wm (.b true) rfl <| Wn <| Wn <| Wn ?_
      refine Wn <| Wn <| Wn <| Wn <| Wn <| Wz (.b true) (OpT rfl) <| Nn ?_
      exact AWP.weak (Weak.toK 281474976710666 0 0 [0]) (J4 () hm)
    refine Wz (.b false) (Oq m rfl) <| Wz (.loc 0 0) (Ofa rfl) <| Wz (.l enc_GNode p0.Body) (Old rfl) <| Wm (.i c) rfl ?_
    obtain ⟨f, f0, hm⟩ := bnd hm
    obtain ⟨c0, t⟩ := geti_some f0
    refine Wz (.d (.ref (List.drop ((Int.toNat c) * 7) (flatD enc_GNode p0.Body)))) (Oia rfl enc_GNode_len c0 t) <| Wz (.d (.ref (List.drop 5 (List.drop ((Int.toNat c) * 7) (flatD enc_GNode p0.Body))))) (Ofa rfl) <| Wz (.s f.Type_) (Lfk1 5 rfl enc_GNode_len t) <| Wz (.i ((List.length f.Type_ : Nat) : Int)) (Oln rfl) <| Wz (.b (decide ((40 : Int) < ((List.length f.Type_ : Nat) : Int)))) (Obn rfl (fun _ => hb_gtr (k := .i64))) <| Wz (.b (decide ((40 : Int) < ((List.length f.Type_ : Nat) : Int)))) (OpF rfl) ?_
    rcases br hm with ⟨o, hm⟩ | ⟨o, hm⟩
    · refine Wz (.b true) (Oq o rfl) <| Wn <| Wn <| Wn <| Wn <| Wn <| Wn <| Wn <| Wn <| Wz (.b true) (OpT rfl) <| Nn ?_
      exact AWP.weak (Weak.toK 281474976710666 0 0 [0]) (J4 () hm)
    refine Wz (.b false) (Oq o rfl) <| Wz (.loc 0 0) (Ofa rfl) <| Wz (.l enc_GNode p0.Body) (Old rfl) <| Wm (.i c) rfl ?_
    obtain ⟨a0, g0, hm⟩ := bnd hm
    obtain ⟨d0, u⟩ := geti_some g0
    refine Wz (.d (.ref (List.drop ((Int.toNat c) * 7) (flatD enc_GNode p0.Body)))) (Oia rfl enc_GNode_len d0 u) <| Wz (.d (.ref (List.drop 6 (List.drop ((Int.toNat c) * 7) (flatD enc_GNode p0.Body))))) (Ofa rfl) <| Wz (.l enc_GNode_ a0.Test) (Lfk1 6 rfl enc_GNode_len u) ?_
    obtain ⟨e, h0, hm⟩ := bnd hm
    refine Wz (.i e) (Ocf [] [] [] 0 (ok_w11_Over a0.Test e h0) (fun a w => Try.call20 a w) rfl trivial) <| Wz (.b (decide ((0 : Int) < e))) (Obn rfl (fun _ => hb_gtr (k := .i64))) <| Wz (.b (decide ((0 : Int) < e))) (OpF rfl) <| Nk 281474976710666 1 ⟨tp 1 (.loc 0 0::tp 1 (.i c::tp 44 (.b (decide ((0 : Int) < e))::[]))), [(.box [(.l enc_GNode p0.Body), (.i p0.Within), (.s p0.By), (.y p0.Mode)])], 0⟩ ?_
    rcases br hm with ⟨p, hm⟩ | ⟨p, hm⟩
    · refine AiT p <| Sx <| Wm (.i 1) rfl <| Nn <| Rt <| Ir <| Tr <| RoundK.ret <| Ir <| Tr ?_
      obtain rfl := sj hm
      exact ret_i []
    refine AiF p <| Sk <| Ino <| Tk 10 1 ⟨tp 1 (.loc 0 0::tp 1 (.i c::tp 45 [])), [(.box [(.l enc_GNode p0.Body), (.i p0.Within), (.s p0.By), (.y p0.Mode)])], 0⟩ <| Tx <| Wm (.i c) rfl <| Wz (.i (W6 (c + 1))) (Obn rfl (fun _ => hb_add (k := .i64))) <| Wm (.i (W6 (c + 1))) rfl <| Wn0 <| RoundK.normal ?_
    exact Rounds.weak (Weak.toK 10 0 0 [0]) (ih_1 (fu_1, (W6 (c + 1))) hm (Nat.lt_succ_self _))
  refine AiF j <| AWP.exit <| Then.exit <| RoundK.exit <| InBlock.same <| Tk 0 0 ⟨tp 49 [], [.gone], 0⟩ <| Sx <| Wm (.i 0) rfl <| Nn <| Rt ?_
  obtain rfl := sj hm
  exact ret_i []

theorem ok_w13_example (r : GPattern) (h : m_w13_example = some r) : GCall Try.prog 21 [] [] (.agg [(.own 0), (.i r.Within), (.s r.By), (.y r.Mode)]) [(Ar 44 7 enc_GNode r.Body)] := by
 refine GCall.of_body (n := 9) (rs := [(.cell 0 30)]) Try.func21 rfl rfl rfl <| Ato ⟨tu 9 [], [], 0⟩ ?_
 have hm := h
 unfold m_w13_example at hm
 refine Sx <| Wy (.loc 0 0) [(0, (.box [(.d .nil), (.i 0), (.s ([] : List UInt8)), (.y 0)]))] (Oal rfl) <| Nk 1 1 ⟨.loc 0 0::tp 8 [], [(.box [(.d .nil), (.i 0), (.s ([] : List UInt8)), (.y 0)])], 0⟩ <| Sx <| Wz (.agg [(.y 1), (.i 2), (.i 0), (.i 0), (.s ([] : List UInt8)), (.s ([] : List UInt8)), (.d .nil)]) (Obd rfl) <| Wz (.agg [(.y 4), (.i 0), (.i 0), (.i 0), (.s ([97] : List UInt8)), (.s ([116] : List UInt8)), (.d .nil)]) (Obd rfl) <| Wz (.agg [(.y 3), (.i 1), (.i 1), (.i 0), (.s ([] : List UInt8)), (.s ([] : List UInt8)), (.d .nil)]) (Obd rfl) <| Wz (.agg [(.y 2), (.i 2), (.i 0), (.i 0), (.s ([] : List UInt8)), (.s ([] : List UInt8)), (.d .nil)]) (Obd rfl) <| Wz (.agg [(.y 4), (.i 0), (.i 0), (.i 0), (.s ([98] : List UInt8)), (.s ([116] : List UInt8)), (.d .nil)]) (Obd rfl) <| Wz (.agg [(.y 5), (.i 0), (.i 0), (.i 0), (.s ([99] : List UInt8)), (.s ([117] : List UInt8)), (.d .nil)]) (Obd rfl) <| Wy (.own 1) [(1, (Ar 44 7 enc_GNode ([(GNode.mk 1 2 0 0 ([] : List UInt8) ([] : List UInt8) ([] : List GNode_)), (GNode.mk 4 0 0 0 ([97] : List UInt8) ([116] : List UInt8) ([] : List GNode_)), (GNode.mk 3 1 1 0 ([] : List UInt8) ([] : List UInt8) ([] : List GNode_)), (GNode.mk 2 2 0 0 ([] : List UInt8) ([] : List UInt8) ([] : List GNode_)), (GNode.mk 4 0 0 0 ([98] : List UInt8) ([116] : List UInt8) ([] : List GNode_)), (GNode.mk 5 0 0 0 ([99] : List UInt8) ([117] : List UInt8) ([] : List GNode_))] : List GNode)))] (Obs rfl) <| Wz (.agg [(.own 1), (.i 9), (.s ([] : List UInt8)), (.y 1)]) (Obd rfl) <| Wy (.tup []) [(0, (.box [(.own 1), (.i 9), (.s ([] : List UInt8)), (.y 1)]))] (Ost rfl) <| Nn ?_
 refine Rt ?_
 obtain rfl := sj hm
 exact ret_i [1]

theorem ok_shape_Node_list (p0 : GNode) (r : Bool) (h : m_shape_Node_list p0 = some r) : GCall Try.prog 40 [(.agg [(.y p0.Kind), (.i p0.Kids), (.i p0.Lo), (.i p0.Hi), (.s p0.Var), (.s p0.Type_), (.l enc_GNode_ p0.Test)])] [] (.b r) [] := by
 refine GCall.of_body (n := 11) (rs := [(.tmp 2)]) Try.func40 rfl rfl rfl <| Ato ⟨.agg [(.y p0.Kind), (.i p0.Kids), (.i p0.Lo), (.i p0.Hi), (.s p0.Var), (.s p0.Type_), (.l enc_GNode_ p0.Test)]::tu 10 [], [], 0⟩ ?_
 have hm := h
 unfold m_shape_Node_list at hm
 refine Sx <| Wy (.loc 0 0) [(0, (.box [(.y p0.Kind), (.i p0.Kids), (.i p0.Lo), (.i p0.Hi), (.s p0.Var), (.s p0.Type_), (.l enc_GNode_ p0.Test)]))] (Obx rfl) <| Wm (.b false) rfl <| Nk 2 1 ⟨tp 1 (.loc 0 0::tp 9 []), [(.box [(.y p0.Kind), (.i p0.Kids), (.i p0.Lo), (.i p0.Hi), (.s p0.Var), (.s p0.Type_), (.l enc_GNode_ p0.Test)])], 0⟩ <| Sx <| Wz (.loc 0 0) (Ofa rfl) <| Wz (.y p0.Kind) (Old rfl) <| Wz (.b (decide (((p0.Kind.toNat : Nat) : Int) = 1))) (Ob2 (.int .u8 ((p0.Kind.toNat : Nat) : Int)) (.int .u8 1) rfl (fun _ => hb_eql)) ?_
 rcases br hm with ⟨c, hm⟩ | ⟨c, hm⟩
 · refine Wz (.b true) (Oq c rfl) <| Wn <| Wn <| Wn <| Wz (.b true) (OpT rfl) <| Wm (.b true) rfl <| Nn <| Rt ?_
   obtain rfl := sj hm
   exact ret_i []
 refine Wz (.b false) (Oq c rfl) <| Wz (.loc 0 0) (Ofa rfl) <| Wz (.y p0.Kind) (Old rfl) <| Wz (.b (decide (((p0.Kind.toNat : Nat) : Int) = 2))) (Ob2 (.int .u8 ((p0.Kind.toNat : Nat) : Int)) (.int .u8 2) rfl (fun _ => hb_eql)) <| Wz (.b (decide (((p0.Kind.toNat : Nat) : Int) = 2))) (OpF rfl) <| Wm (.b (decide (((p0.Kind.toNat : Nat) : Int) = 2))) rfl <| Nn <| Rt ?_
 obtain rfl := sj hm
 exact ret_i []

theorem ok_shape_Node_stands (p0 : GNode) (p1 : UInt8) (r : Bool) (h : m_shape_Node_stands p0 p1 = some r) : GCall Try.prog 41 [(.agg [(.y p0.Kind), (.i p0.Kids), (.i p0.Lo), (.i p0.Hi), (.s p0.Var), (.s p0.Type_), (.l enc_GNode_ p0.Test)]), (.y p1)] [] (.b r) [] := by
 refine GCall.of_body (n := 28) (rs := [(.tmp 4)]) Try.func41 rfl rfl rfl <| Ato ⟨.agg [(.y p0.Kind), (.i p0.Kids), (.i p0.Lo), (.i p0.Hi), (.s p0.Var), (.s p0.Type_), (.l enc_GNode_ p0.Test)]::.y p1::tu 26 [], [], 0⟩ ?_
 have hm := h
 unfold m_shape_Node_stands at hm
 refine Sx <| Wy (.loc 0 0) [(0, (.box [(.y p0.Kind), (.i p0.Kids), (.i p0.Lo), (.i p0.Hi), (.s p0.Var), (.s p0.Type_), (.l enc_GNode_ p0.Test)]))] (Obx rfl) <| Wm (.b false) rfl <| Nk 6 1 ⟨tp 1 (.y p1::.loc 0 0::tp 25 []), [(.box [(.y p0.Kind), (.i p0.Kids), (.i p0.Lo), (.i p0.Hi), (.s p0.Var), (.s p0.Type_), (.l enc_GNode_ p0.Test)])], 0⟩ <| Sq <| Bk <| Sx <| Wz (.loc 0 0) (Ofa rfl) <| Wz (.y p0.Kind) (Old rfl) <| Wz (.b (decide (((p0.Kind.toNat : Nat) : Int) < 1))) (Ob2 (.int .u8 ((p0.Kind.toNat : Nat) : Int)) (.int .u8 1) rfl (fun _ => hb_lss)) ?_
 rcases br hm with ⟨f, hm⟩ | ⟨f, hm⟩
 · refine Wz (.b true) (Oq f rfl) <| Wn <| Wn <| Wn <| Wz (.b true) (OpT rfl) <| Wm (.b true) rfl <| Nk 38 1 ⟨tp 1 (.y p1::.loc 0 0::tp 2 (.b true::tp 22 [])), [(.box [(.y p0.Kind), (.i p0.Kids), (.i p0.Lo), (.i p0.Hi), (.s p0.Var), (.s p0.Type_), (.l enc_GNode_ p0.Test)])], 0⟩ <| AWP.if_ true (by kernel_rfl) <| Sx <| Wm (.b false) rfl <| Nn <| Rt <| Ir <| Tr ?_
   obtain rfl := sj hm
   exact ret_i []
 refine Wz (.b false) (Oq f rfl) <| Wz (.loc 0 0) (Ofa rfl) <| Wz (.y p0.Kind) (Old rfl) <| Wz (.b (decide ((5 : Int) < ((p0.Kind.toNat : Nat) : Int)))) (Ob2 (.int .u8 ((p0.Kind.toNat : Nat) : Int)) (.int .u8 5) rfl (fun _ => hb_gtr)) <| Wz (.b (decide ((5 : Int) < ((p0.Kind.toNat : Nat) : Int)))) (OpF rfl) <| Wm (.b (decide ((5 : Int) < ((p0.Kind.toNat : Nat) : Int)))) rfl <| Nk 38 1 ⟨tp 1 (.y p1::.loc 0 0::tp 2 (.b (decide ((5 : Int) < ((p0.Kind.toNat : Nat) : Int)))::tp 22 [])), [(.box [(.y p0.Kind), (.i p0.Kids), (.i p0.Lo), (.i p0.Hi), (.s p0.Var), (.s p0.Type_), (.l enc_GNode_ p0.Test)])], 0⟩ ?_
 rcases br hm with ⟨g, hm⟩ | ⟨g, hm⟩
 · refine AiT g <| Sx <| Wm (.b false) rfl <| Nn <| Rt <| Ir <| Tr ?_
   obtain rfl := sj hm
   exact ret_i []
 refine AiF g <| Sx <| Wz (.agg [(.y p0.Kind), (.i p0.Kids), (.i p0.Lo), (.i p0.Hi), (.s p0.Var), (.s p0.Type_), (.l enc_GNode_ p0.Test)]) (Old rfl) ?_
 obtain ⟨c, j, hm⟩ := bnd hm
 refine Wz (.b c) (Ocf [] [] [] 0 (ok_shape_Node_list p0 c j) (fun a w => Try.call40 a w) rfl trivial) <| Wm (.b c) rfl <| Nk 16390 1 ⟨tp 1 (.y p1::.loc 0 0::tp 11 (.b c::tp 13 [])), [(.box [(.y p0.Kind), (.i p0.Kids), (.i p0.Lo), (.i p0.Hi), (.s p0.Var), (.s p0.Type_), (.l enc_GNode_ p0.Test)])], 0⟩ ?_
 rcases br hm with ⟨d, hm⟩ | ⟨d, hm⟩
 · refine AiT d <| Sx <| Wz (.loc 0 0) (Ofa rfl) <| Wz (.y p0.Kind) (Old rfl) <| Wm (.y p1) rfl <| Wz (.b (decide (((p0.Kind.toNat : Nat) : Int) ≠ ((p1.toNat : Nat) : Int)))) (Ob2 (.int .u8 ((p0.Kind.toNat : Nat) : Int)) (.int .u8 ((p1.toNat : Nat) : Int)) rfl (fun _ => hb_neq)) <| Wm (.b (decide (((p0.Kind.toNat : Nat) : Int) ≠ ((p1.toNat : Nat) : Int)))) rfl <| Nn <| Rt <| Ir <| Tr ?_
   obtain rfl := sj hm
   exact ret_i []
 refine AiF d <| Sk <| Ino <| Tk 6 1 ⟨tp 1 (.y p1::.loc 0 0::tp 25 []), [(.box [(.y p0.Kind), (.i p0.Kids), (.i p0.Lo), (.i p0.Hi), (.s p0.Var), (.s p0.Type_), (.l enc_GNode_ p0.Test)])], 0⟩ <| Sx <| Wz (.loc 0 0) (Ofa rfl) <| Wz (.y p0.Kind) (Old rfl) <| Wz (.b (decide (((p0.Kind.toNat : Nat) : Int) ≠ 5))) (Ob2 (.int .u8 ((p0.Kind.toNat : Nat) : Int)) (.int .u8 5) rfl (fun _ => hb_neq)) ?_
 rcases br hm with ⟨e, hm⟩ | ⟨e, hm⟩
 · refine Wz (.b true) (Oq e rfl) <| Wn <| Wn <| Wz (.b true) (OpT rfl) <| Wm (.b true) rfl <| Nn <| Rt ?_
   obtain rfl := sj hm
   exact ret_i []
 refine Wz (.b false) (Oq e rfl) <| Wm (.y p1) rfl <| Wz (.b (decide (((p1.toNat : Nat) : Int) ≠ 3))) (Ob2 (.int .u8 ((p1.toNat : Nat) : Int)) (.int .u8 3) rfl (fun _ => hb_neq)) <| Wz (.b (decide (((p1.toNat : Nat) : Int) ≠ 3))) (OpF rfl) <| Wm (.b (decide (((p1.toNat : Nat) : Int) ≠ 3))) rfl <| Nn <| Rt ?_
 obtain rfl := sj hm
 exact ret_i []

theorem ok_shape_Node_often (p0 : GNode) (r : Bool) (h : m_shape_Node_often p0 = some r) : GCall Try.prog 57 [(.agg [(.y p0.Kind), (.i p0.Kids), (.i p0.Lo), (.i p0.Hi), (.s p0.Var), (.s p0.Type_), (.l enc_GNode_ p0.Test)])] [] (.b r) [] := by
 refine GCall.of_body (n := 41) (rs := [(.tmp 2)]) Try.func57 rfl rfl rfl <| Ato ⟨.agg [(.y p0.Kind), (.i p0.Kids), (.i p0.Lo), (.i p0.Hi), (.s p0.Var), (.s p0.Type_), (.l enc_GNode_ p0.Test)]::tu 40 [], [], 0⟩ ?_
 have hm := h
 unfold m_shape_Node_often at hm
 refine Sx <| Wy (.loc 0 0) [(0, (.box [(.y p0.Kind), (.i p0.Kids), (.i p0.Lo), (.i p0.Hi), (.s p0.Var), (.s p0.Type_), (.l enc_GNode_ p0.Test)]))] (Obx rfl) <| Wm (.b false) rfl <| Nk 2 1 ⟨tp 1 (.loc 0 0::tp 39 []), [(.box [(.y p0.Kind), (.i p0.Kids), (.i p0.Lo), (.i p0.Hi), (.s p0.Var), (.s p0.Type_), (.l enc_GNode_ p0.Test)])], 0⟩ ?_
 refine AWP.cutJ (α := Unit) (fun x => match x with | () => (⟨tp 1 (.loc 0 0::tp 39 []), [(.box [(.y p0.Kind), (.i p0.Kids), (.i p0.Lo), (.i p0.Hi), (.s p0.Var), (.s p0.Type_), (.l enc_GNode_ p0.Test)])], 0⟩ : St)) (fun x => match x with | () => m_shape_Node_often_j2 p0 = some r) ?_ (fun J2 => ?_)
 ·
  rintro ⟨⟩ hm
  try dsimp only at hm ⊢
  unfold m_shape_Node_often_j2 at hm
  refine Sx <| Wz (.loc 0 3) (Ofa rfl) <| Wz (.i p0.Hi) (Old rfl) <| Wz (.b (decide (p0.Hi = 0))) (Obn rfl (fun _ => hb_eql (k := .i64))) ?_
  rcases br hm with ⟨c, hm⟩ | ⟨c, hm⟩
  · refine Wz (.b true) (Oq c rfl) <| Wn <| Wn <| Wn <| Wn <| Wn <| Wz (.b true) (OpT rfl) <| Wm (.b true) rfl <| Nn <| Rt ?_
    obtain rfl := sj hm
    exact ret_i []
  refine Wz (.b false) (Oq c rfl) <| Wz (.loc 0 3) (Ofa rfl) <| Wz (.i p0.Hi) (Old rfl) <| Wz (.loc 0 2) (Ofa rfl) <| Wz (.i p0.Lo) (Old rfl) <| Wz (.b (decide (p0.Lo ≤ p0.Hi))) (Obn rfl (fun _ => hb_geq (k := .i64))) <| Wz (.b (decide (p0.Lo ≤ p0.Hi))) (OpF rfl) <| Wm (.b (decide (p0.Lo ≤ p0.Hi))) rfl <| Nn <| Rt ?_
  obtain rfl := sj hm
  exact ret_i []
 refine Sq ?_
 refine AWP.cutJ (α := Unit) (fun x => match x with | () => (⟨tp 1 (.loc 0 0::tp 28 (.b true::tp 10 [])), [(.box [(.y p0.Kind), (.i p0.Kids), (.i p0.Lo), (.i p0.Hi), (.s p0.Var), (.s p0.Type_), (.l enc_GNode_ p0.Test)])], 0⟩ : St)) (fun x => match x with | () => m_shape_Node_often_j1  = some r) ?_ (fun J1 => ?_)
 ·
  rintro ⟨⟩ hm
  try dsimp only at hm ⊢
  unfold m_shape_Node_often_j1 at hm
  refine AWP.if_ true (by kernel_rfl) <| Sx <| Wm (.b false) rfl <| Nn <| Rt <| Tr ?_
  obtain rfl := sj hm
  exact ret_i []
 refine Sx <| Wz (.loc 0 2) (Ofa rfl) <| Wz (.i p0.Lo) (Old rfl) <| Wz (.b (decide (p0.Lo < 0))) (Obn rfl (fun _ => hb_lss (k := .i64))) ?_
 rcases br hm with ⟨m, hm⟩ | ⟨m, hm⟩
 · refine Wz (.b true) (Oq m rfl) <| Wn <| Wn <| Wn <| Wz (.b true) (OpT rfl) <| Wm (.b true) rfl <| Wn <| Wn <| Wn <| Wz (.b true) (OpT rfl) <| Wm (.b true) rfl <| Wn <| Wn <| Wn ?_
   refine Wz (.b true) (OpT rfl) <| Wm (.b true) rfl <| Wn <| Wn <| Wn <| Wn <| Wn <| Wn <| Wn <| Wn <| Wz (.b true) (OpT rfl) <| Nn ?_
   exact AWP.weak (Weak.toK 1073741826 0 0 [0]) (J1 () hm)
 refine Wz (.b false) (Oq m rfl) <| Wz (.loc 0 2) (Ofa rfl) <| Wz (.i p0.Lo) (Old rfl) <| Wz (.b (decide ((8 : Int) < p0.Lo))) (Obn rfl (fun _ => hb_gtr (k := .i64))) <| Wz (.b (decide ((8 : Int) < p0.Lo))) (OpF rfl) ?_
 rcases br hm with ⟨d, hm⟩ | ⟨d, hm⟩
 · refine Wz (.b true) (Oq d rfl) <| Wn <| Wn <| Wn <| Wz (.b true) (OpT rfl) <| Wm (.b true) rfl <| Wn <| Wn <| Wn <| Wz (.b true) (OpT rfl) <| Wm (.b true) rfl <| Wn <| Wn <| Wn ?_
   refine Wn <| Wn <| Wn <| Wn <| Wn <| Wz (.b true) (OpT rfl) <| Nn ?_
   exact AWP.weak (Weak.toK 1073741826 0 0 [0]) (J1 () hm)
 refine Wz (.b false) (Oq d rfl) <| Wz (.loc 0 3) (Ofa rfl) <| Wz (.i p0.Hi) (Old rfl) <| Wz (.b (decide (p0.Hi < 0))) (Obn rfl (fun _ => hb_lss (k := .i64))) <| Wz (.b (decide (p0.Hi < 0))) (OpF rfl) ?_
 rcases br hm with ⟨e, hm⟩ | ⟨e, hm⟩
 · refine Wz (.b true) (Oq e rfl) <| Wn <| Wn <| Wn <| Wz (.b true) (OpT rfl) <| Wm (.b true) rfl <| Wn <| Wn <| Wn <| Wn <| Wn <| Wn <| Wn <| Wn ?_
   refine Wz (.b true) (OpT rfl) <| Nn ?_
   exact AWP.weak (Weak.toK 1073741826 0 0 [0]) (J1 () hm)
 refine Wz (.b false) (Oq e rfl) <| Wz (.loc 0 3) (Ofa rfl) <| Wz (.i p0.Hi) (Old rfl) <| Wz (.b (decide ((8 : Int) < p0.Hi))) (Obn rfl (fun _ => hb_gtr (k := .i64))) <| Wz (.b (decide ((8 : Int) < p0.Hi))) (OpF rfl) ?_
 rcases br hm with ⟨f, hm⟩ | ⟨f, hm⟩
 · refine Wz (.b true) (Oq f rfl) <| Wn <| Wn <| Wn <| Wn <| Wn <| Wn <| Wn <| Wn <| Wz (.b true) (OpT rfl) <| Nn ?_
   exact AWP.weak (Weak.toK 1073741826 0 0 [0]) (J1 () hm)
 refine Wz (.b false) (Oq f rfl) <| Wz (.loc 0 2) (Ofa rfl) <| Wz (.i p0.Lo) (Old rfl) <| Wz (.b (decide (p0.Lo = 1))) (Obn rfl (fun _ => hb_eql (k := .i64))) ?_
 rcases br hm with ⟨g, hm⟩ | ⟨g, hm⟩
 · refine Wz (.b true) (Oq g rfl) <| Wz (.loc 0 3) (Ofa rfl) <| Wz (.i p0.Hi) (Old rfl) <| Wz (.b (decide (p0.Hi = 1))) (Obn rfl (fun _ => hb_eql (k := .i64))) <| Wz (.b (decide (p0.Hi = 1))) (OpT rfl) <| Wz (.b (decide (p0.Hi = 1))) (OpF rfl) <| Nk 1073741826 1 ⟨tp 1 (.loc 0 0::tp 28 (.b (decide (p0.Hi = 1))::tp 10 [])), [(.box [(.y p0.Kind), (.i p0.Kids), (.i p0.Lo), (.i p0.Hi), (.s p0.Var), (.s p0.Type_), (.l enc_GNode_ p0.Test)])], 0⟩ ?_
   rcases br hm with ⟨j, hm⟩ | ⟨j, hm⟩
   · refine AiT j <| Sx <| Wm (.b false) rfl <| Nn <| Rt <| Tr ?_
     obtain rfl := sj hm
     exact ret_i []
   refine AiF j <| Sk <| Tn ?_
   exact AWP.weak (Weak.toK 2 0 0 [0]) (J2 () hm)
 refine Wz (.b false) (Oq g rfl) <| Wn <| Wn <| Wn <| Wz (.b false) (OpF rfl) <| Wz (.b false) (OpF rfl) <| Nk 1073741826 1 ⟨tp 1 (.loc 0 0::tp 28 (.b false::tp 10 [])), [(.box [(.y p0.Kind), (.i p0.Kids), (.i p0.Lo), (.i p0.Hi), (.s p0.Var), (.s p0.Type_), (.l enc_GNode_ p0.Test)])], 0⟩ <| AWP.if_ false (by kernel_rfl) <| Sk <| Tn ?_
 exact AWP.weak (Weak.toK 2 0 0 [0]) (J2 () hm)

theorem ok_schema_letter (p0 : UInt8) (r : Bool) (h : m_schema_letter p0 = some r) : GCall Try.prog 44 [(.y p0)] [] (.b r) [] := by
 refine GCall.of_body (n := 9) (rs := [(.tmp 2)]) Try.func44 rfl rfl rfl <| Ato ⟨.y p0::tu 8 [], [], 0⟩ ?_
 have hm := h
 unfold m_schema_letter at hm
 refine Sx <| Wm (.b false) rfl <| Nk 1 0 ⟨.y p0::tp 8 [], [], 0⟩ <| Sx <| Wm (.y p0) rfl <| Wz (.b (decide ((97 : Int) ≤ ((p0.toNat : Nat) : Int)))) (Ob2 (.int .u8 97) (.int .u8 ((p0.toNat : Nat) : Int)) rfl (fun _ => hb_leq)) ?_
 rcases br hm with ⟨c, hm⟩ | ⟨c, hm⟩
 · refine Wz (.b true) (Oq c rfl) <| Wm (.y p0) rfl <| Wz (.b (decide (((p0.toNat : Nat) : Int) ≤ 122))) (Ob2 (.int .u8 ((p0.toNat : Nat) : Int)) (.int .u8 122) rfl (fun _ => hb_leq)) <| Wz (.b (decide (((p0.toNat : Nat) : Int) ≤ 122))) (OpT rfl) <| Wm (.b (decide (((p0.toNat : Nat) : Int) ≤ 122))) rfl <| Nn <| Rt ?_
   obtain rfl := sj hm
   exact ret_i []
 refine Wz (.b false) (Oq c rfl) <| Wn <| Wn <| Wz (.b false) (OpF rfl) <| Wm (.b false) rfl <| Nn <| Rt ?_
 obtain rfl := sj hm
 exact ret_i []

theorem ok_schema_Reserved (p0 : (List UInt8)) (r : Bool) (h : m_schema_Reserved p0 = some r) : GCall Try.prog 45 [(.s p0)] [] (.b r) [] := by
 refine GCall.of_body (n := 15) (rs := [(.tmp 2)]) Try.func45 rfl rfl rfl <| Ato ⟨.s p0::tu 14 [], [], 0⟩ ?_
 have hm := h
 unfold m_schema_Reserved at hm
 refine Sx <| Wm (.b false) rfl <| Nk 1 0 ⟨.s p0::tp 14 [], [], 0⟩ <| Sq <| Sx <| Wm (.s p0) rfl <| Nk 8 0 ⟨tp 3 (.s p0::tp 11 []), [], 0⟩ <| Bk ?_
 refine AWP.cutJ (α := Bool) (fun x => match x with | c => (⟨tp 4 (.b c::tp 10 []), [], 0⟩ : St)) (fun x => match x with | c => m_schema_Reserved_j0  c = some r) ?_ (fun J0 => ?_)
 ·
  rintro c hm
  try dsimp only at hm ⊢
  unfold m_schema_Reserved_j0 at hm
  rcases br hm with ⟨d, hm⟩ | ⟨d, hm⟩
  · refine AiT d <| Sx <| Wm (.b true) rfl <| Nn <| Rt <| Ir <| Tr ?_
    obtain rfl := sj hm
    exact ret_i []
  refine AiF d <| Sk <| Ino <| Tk 0 0 ⟨tp 15 [], [], 0⟩ <| Sx <| Wm (.b false) rfl <| Nn <| Rt ?_
  obtain rfl := sj hm
  exact ret_i []
 refine Sq <| Sx <| Wz (.b (decide (p0 = ([119, 105, 116, 104, 105, 110] : List UInt8)))) (Ocs (lit_tf (by simp only [toS_inj, ne_eq])) (op_bin rfl (a1 := .string (toS p0)) (a2 := .string (toS ([119, 105, 116, 104, 105, 110] : List UInt8))) (by kernel_rfl) (by kernel_rfl) (fun _ => hb_seql))) <| Wm (.b (decide (p0 = ([119, 105, 116, 104, 105, 110] : List UInt8)))) rfl <| Nk 24 0 ⟨tp 3 (.s p0::.b (decide (p0 = ([119, 105, 116, 104, 105, 110] : List UInt8)))::tp 10 []), [], 0⟩ ?_
 rcases br hm with ⟨e, hm⟩ | ⟨e, hm⟩
 · refine AiT e <| Sk <| Tn ?_
   exact AWP.weak (Weak.toK 16 0 0 []) (J0 (decide (p0 = ([119, 105, 116, 104, 105, 110] : List UInt8))) hm)
 refine AiF e <| Sx <| Wz (.b (decide (p0 = ([98, 121] : List UInt8)))) (Ocs (lit_tf (by simp only [toS_inj, ne_eq])) (op_bin rfl (a1 := .string (toS p0)) (a2 := .string (toS ([98, 121] : List UInt8))) (by kernel_rfl) (by kernel_rfl) (fun _ => hb_seql))) <| Wm (.b (decide (p0 = ([98, 121] : List UInt8)))) rfl <| Nk 24 0 ⟨tp 3 (.s p0::.b (decide (p0 = ([98, 121] : List UInt8)))::tp 10 []), [], 0⟩ ?_
 rcases br hm with ⟨f, hm⟩ | ⟨f, hm⟩
 · refine AiT f <| Sk <| Tn ?_
   exact AWP.weak (Weak.toK 16 0 0 []) (J0 (decide (p0 = ([98, 121] : List UInt8))) hm)
 refine AiF f <| Sx <| Wz (.b (decide (p0 = ([97, 110, 100] : List UInt8)))) (Ocs (lit_tf (by simp only [toS_inj, ne_eq])) (op_bin rfl (a1 := .string (toS p0)) (a2 := .string (toS ([97, 110, 100] : List UInt8))) (by kernel_rfl) (by kernel_rfl) (fun _ => hb_seql))) <| Wm (.b (decide (p0 = ([97, 110, 100] : List UInt8)))) rfl <| Nk 24 0 ⟨tp 3 (.s p0::.b (decide (p0 = ([97, 110, 100] : List UInt8)))::tp 10 []), [], 0⟩ ?_
 rcases br hm with ⟨g, hm⟩ | ⟨g, hm⟩
 · refine AiT g <| Sk <| Tn ?_
   exact AWP.weak (Weak.toK 16 0 0 []) (J0 (decide (p0 = ([97, 110, 100] : List UInt8))) hm)
 refine AiF g <| Sx <| Wz (.b (decide (p0 = ([111, 114] : List UInt8)))) (Ocs (lit_tf (by simp only [toS_inj, ne_eq])) (op_bin rfl (a1 := .string (toS p0)) (a2 := .string (toS ([111, 114] : List UInt8))) (by kernel_rfl) (by kernel_rfl) (fun _ => hb_seql))) <| Wm (.b (decide (p0 = ([111, 114] : List UInt8)))) rfl <| Nk 24 0 ⟨tp 3 (.s p0::.b (decide (p0 = ([111, 114] : List UInt8)))::tp 10 []), [], 0⟩ ?_
 rcases br hm with ⟨i, hm⟩ | ⟨i, hm⟩
 · refine AiT i <| Sk <| Tn ?_
   exact AWP.weak (Weak.toK 16 0 0 []) (J0 (decide (p0 = ([111, 114] : List UInt8))) hm)
 refine AiF i <| Sx <| Wz (.b (decide (p0 = ([110, 111, 116] : List UInt8)))) (Ocs (lit_tf (by simp only [toS_inj, ne_eq])) (op_bin rfl (a1 := .string (toS p0)) (a2 := .string (toS ([110, 111, 116] : List UInt8))) (by kernel_rfl) (by kernel_rfl) (fun _ => hb_seql))) <| Wm (.b (decide (p0 = ([110, 111, 116] : List UInt8)))) rfl <| Nk 24 0 ⟨tp 3 (.s p0::.b (decide (p0 = ([110, 111, 116] : List UInt8)))::tp 10 []), [], 0⟩ ?_
 rcases br hm with ⟨j, hm⟩ | ⟨j, hm⟩
 · refine AiT j <| Sk <| Tn ?_
   exact AWP.weak (Weak.toK 16 0 0 []) (J0 (decide (p0 = ([110, 111, 116] : List UInt8))) hm)
 refine AiF j <| Sx <| Wz (.b (decide (p0 = ([97, 110, 121] : List UInt8)))) (Ocs (lit_tf (by simp only [toS_inj, ne_eq])) (op_bin rfl (a1 := .string (toS p0)) (a2 := .string (toS ([97, 110, 121] : List UInt8))) (by kernel_rfl) (by kernel_rfl) (fun _ => hb_seql))) <| Wm (.b (decide (p0 = ([97, 110, 121] : List UInt8)))) rfl <| Nk 24 0 ⟨tp 3 (.s p0::.b (decide (p0 = ([97, 110, 121] : List UInt8)))::tp 10 []), [], 0⟩ ?_
 rcases br hm with ⟨k, hm⟩ | ⟨k, hm⟩
 · refine AiT k <| Sk <| Tn ?_
   exact AWP.weak (Weak.toK 16 0 0 []) (J0 (decide (p0 = ([97, 110, 121] : List UInt8))) hm)
 refine AiF k <| Sx <| Wz (.b (decide (p0 = ([110, 101, 120, 116] : List UInt8)))) (Ocs (lit_tf (by simp only [toS_inj, ne_eq])) (op_bin rfl (a1 := .string (toS p0)) (a2 := .string (toS ([110, 101, 120, 116] : List UInt8))) (by kernel_rfl) (by kernel_rfl) (fun _ => hb_seql))) <| Wm (.b (decide (p0 = ([110, 101, 120, 116] : List UInt8)))) rfl <| Nk 24 0 ⟨tp 3 (.s p0::.b (decide (p0 = ([110, 101, 120, 116] : List UInt8)))::tp 10 []), [], 0⟩ ?_
 rcases br hm with ⟨l, hm⟩ | ⟨l, hm⟩
 · refine AiT l <| Sk <| Tn ?_
   exact AWP.weak (Weak.toK 16 0 0 []) (J0 (decide (p0 = ([110, 101, 120, 116] : List UInt8))) hm)
 refine AiF l <| Sx <| Wz (.b (decide (p0 = ([115, 116, 114, 105, 99, 116] : List UInt8)))) (Ocs (lit_tf (by simp only [toS_inj, ne_eq])) (op_bin rfl (a1 := .string (toS p0)) (a2 := .string (toS ([115, 116, 114, 105, 99, 116] : List UInt8))) (by kernel_rfl) (by kernel_rfl) (fun _ => hb_seql))) <| Wm (.b (decide (p0 = ([115, 116, 114, 105, 99, 116] : List UInt8)))) rfl <| Nk 24 0 ⟨tp 3 (.s p0::.b (decide (p0 = ([115, 116, 114, 105, 99, 116] : List UInt8)))::tp 10 []), [], 0⟩ ?_
 rcases br hm with ⟨m, hm⟩ | ⟨m, hm⟩
 · refine AiT m <| Sk <| Tn ?_
   exact AWP.weak (Weak.toK 16 0 0 []) (J0 (decide (p0 = ([115, 116, 114, 105, 99, 116] : List UInt8))) hm)
 refine AiF m <| Sx <| Wz (.b (decide (p0 = ([116, 114, 117, 101] : List UInt8)))) (Ocs (lit_tf (by simp only [toS_inj, ne_eq])) (op_bin rfl (a1 := .string (toS p0)) (a2 := .string (toS ([116, 114, 117, 101] : List UInt8))) (by kernel_rfl) (by kernel_rfl) (fun _ => hb_seql))) <| Wm (.b (decide (p0 = ([116, 114, 117, 101] : List UInt8)))) rfl <| Nk 24 0 ⟨tp 3 (.s p0::.b (decide (p0 = ([116, 114, 117, 101] : List UInt8)))::tp 10 []), [], 0⟩ ?_
 rcases br hm with ⟨o, hm⟩ | ⟨o, hm⟩
 · refine AiT o <| Sk <| Tn ?_
   exact AWP.weak (Weak.toK 16 0 0 []) (J0 (decide (p0 = ([116, 114, 117, 101] : List UInt8))) hm)
 refine AiF o <| Tx <| Wz (.b (decide (p0 = ([102, 97, 108, 115, 101] : List UInt8)))) (Ocs (lit_tf (by simp only [toS_inj, ne_eq])) (op_bin rfl (a1 := .string (toS p0)) (a2 := .string (toS ([102, 97, 108, 115, 101] : List UInt8))) (by kernel_rfl) (by kernel_rfl) (fun _ => hb_seql))) <| Wm (.b (decide (p0 = ([102, 97, 108, 115, 101] : List UInt8)))) rfl <| Nn ?_
 exact AWP.weak (Weak.toK 16 0 0 []) (J0 (decide (p0 = ([102, 97, 108, 115, 101] : List UInt8))) hm)

theorem ok_schema_tail (p0 : UInt8) (r : Bool) (h : m_schema_tail p0 = some r) : GCall Try.prog 46 [(.y p0)] [] (.b r) [] := by
 refine GCall.of_body (n := 17) (rs := [(.tmp 2)]) Try.func46 rfl rfl rfl <| Ato ⟨.y p0::tu 16 [], [], 0⟩ ?_
 have hm := h
 unfold m_schema_tail at hm
 refine Sx <| Wm (.b false) rfl <| Nk 1 0 ⟨.y p0::tp 16 [], [], 0⟩ <| Sx <| Wm (.y p0) rfl ?_
 obtain ⟨f, g, hm⟩ := bnd hm
 refine Wz (.b f) (Ocf [] [] [] 0 (ok_schema_letter p0 f g) (fun a w => Try.call44 a w) rfl trivial) ?_
 rcases br hm with ⟨d, hm⟩ | ⟨d, hm⟩
 · refine Wz (.b true) (Oq d rfl) <| Wn <| Wn <| Wn <| Wn <| Wn <| Wn <| Wz (.b true) (OpT rfl) <| Wm (.b true) rfl <| Wn <| Wn <| Wz (.b true) (OpT rfl) <| Wm (.b true) rfl <| Nn ?_
   refine Rt ?_
   obtain rfl := sj hm
   exact ret_i []
 refine Wz (.b false) (Oq d rfl) <| Wm (.y p0) rfl <| Wz (.b (decide ((48 : Int) ≤ ((p0.toNat : Nat) : Int)))) (Ob2 (.int .u8 48) (.int .u8 ((p0.toNat : Nat) : Int)) rfl (fun _ => hb_leq)) ?_
 rcases br hm with ⟨e, hm⟩ | ⟨e, hm⟩
 · refine Wz (.b true) (Oq e rfl) <| Wm (.y p0) rfl <| Wz (.b (decide (((p0.toNat : Nat) : Int) ≤ 57))) (Ob2 (.int .u8 ((p0.toNat : Nat) : Int)) (.int .u8 57) rfl (fun _ => hb_leq)) <| Wz (.b (decide (((p0.toNat : Nat) : Int) ≤ 57))) (OpT rfl) <| Wz (.b (decide (((p0.toNat : Nat) : Int) ≤ 57))) (OpF rfl) ?_
   rcases br hm with ⟨c, hm⟩ | ⟨c, hm⟩
   · refine Wz (.b true) (Oq c rfl) <| Wn <| Wn <| Wz (.b true) (OpT rfl) <| Wm (.b true) rfl <| Nn <| Rt ?_
     obtain rfl := sj hm
     exact ret_i []
   refine Wz (.b false) (Oq c rfl) <| Wm (.y p0) rfl <| Wz (.b (decide (((p0.toNat : Nat) : Int) = 95))) (Ob2 (.int .u8 ((p0.toNat : Nat) : Int)) (.int .u8 95) rfl (fun _ => hb_eql)) <| Wz (.b (decide (((p0.toNat : Nat) : Int) = 95))) (OpF rfl) <| Wm (.b (decide (((p0.toNat : Nat) : Int) = 95))) rfl <| Nn <| Rt ?_
   obtain rfl := sj hm
   exact ret_i []
 refine Wz (.b false) (Oq e rfl) <| Wn <| Wn <| Wz (.b false) (OpF rfl) <| Wz (.b false) (OpF rfl) <| Wm (.b false) rfl <| Wm (.y p0) rfl <| Wz (.b (decide (((p0.toNat : Nat) : Int) = 95))) (Ob2 (.int .u8 ((p0.toNat : Nat) : Int)) (.int .u8 95) rfl (fun _ => hb_eql)) <| Wz (.b (decide (((p0.toNat : Nat) : Int) = 95))) (OpF rfl) <| Wm (.b (decide (((p0.toNat : Nat) : Int) = 95))) rfl <| Nn <| Rt ?_
 obtain rfl := sj hm
 exact ret_i []

theorem ok_schema_Name (p0 : (List UInt8)) (r : Bool) (h : m_schema_Name p0 = some r) : GCall Try.prog 26 [(.s p0)] [] (.b r) [] := by
 refine GCall.of_body (n := 32) (rs := [(.tmp 2)]) Try.func26 rfl rfl rfl <| Ato ⟨.s p0::tu 31 [], [], 0⟩ ?_
 have hm := h
 unfold m_schema_Name at hm
 refine Sx <| Wm (.b false) rfl <| Nk 1 0 ⟨.s p0::tp 31 [], [], 0⟩ <| Sq ?_
 refine AWP.cutJ (α := Unit) (fun x => match x with | () => (⟨.s p0::tp 19 (.b true::tp 11 []), [], 0⟩ : St)) (fun x => match x with | () => m_schema_Name_j1  = some r) ?_ (fun J1 => ?_)
 ·
  rintro ⟨⟩ hm
  try dsimp only at hm ⊢
  unfold m_schema_Name_j1 at hm
  refine AWP.if_ true (by kernel_rfl) <| Sx <| Wm (.b false) rfl <| Nn <| Rt <| Tr ?_
  obtain rfl := sj hm
  exact ret_i []
 refine Sx <| Wm (.s p0) rfl <| Wz (.b (decide (p0 = ([] : List UInt8)))) (Ocs (lit_tf (by simp only [toS_inj, ne_eq])) (op_bin rfl (a1 := .string (toS p0)) (a2 := .string (toS ([] : List UInt8))) (by kernel_rfl) (by kernel_rfl) (fun _ => hb_seql))) ?_
 rcases br hm with ⟨p, hm⟩ | ⟨p, hm⟩
 · refine Wz (.b true) (Oq p rfl) <| Wn <| Wn <| Wn <| Wz (.b true) (OpT rfl) <| Wm (.b true) rfl <| Wn <| Wn <| Wn <| Wn <| Wz (.b true) (OpT rfl) <| Wm (.b true) rfl <| Wn <| Wn ?_
   refine Wz (.b true) (OpT rfl) <| Nn ?_
   exact AWP.weak (Weak.toK 1048577 0 0 []) (J1 () hm)
 refine Wz (.b false) (Oq p rfl) <| Wm (.s p0) rfl <| Wz (.i ((List.length p0 : Nat) : Int)) (Oln rfl) <| Wz (.b (decide ((12 : Int) < ((List.length p0 : Nat) : Int)))) (Obn rfl (fun _ => hb_gtr (k := .i64))) <| Wz (.b (decide ((12 : Int) < ((List.length p0 : Nat) : Int)))) (OpF rfl) ?_
 rcases br hm with ⟨g, hm⟩ | ⟨g, hm⟩
 · refine Wz (.b true) (Oq g rfl) <| Wn <| Wn <| Wn <| Wn <| Wz (.b true) (OpT rfl) <| Wm (.b true) rfl <| Wn <| Wn <| Wz (.b true) (OpT rfl) <| Nn ?_
   exact AWP.weak (Weak.toK 1048577 0 0 []) (J1 () hm)
 refine Wz (.b false) (Oq g rfl) <| Wm (.s p0) rfl ?_
 obtain ⟨q, b0, hm⟩ := bnd hm
 obtain ⟨u, v⟩ := geti_some b0
 refine Wz (.y q) (Ocs (by kernel_rfl) (op_index_str rfl (by kernel_rfl) (s := toS p0) (by kernel_rfl) (k := .i64) (iv := 0) (by kernel_rfl) (i := (Int.toNat 0)) (u) (b := q) (v))) ?_
 obtain ⟨d, c0, hm⟩ := bnd hm
 refine Wz (.b d) (Ocf [] [] [] 0 (ok_schema_letter q d c0) (fun a w => Try.call44 a w) rfl trivial) <| Wz (.b (!d)) (Ocs (by kernel_rfl) (op_un rfl (a1 := .bool d) (by kernel_rfl) (fun _ => hu_not))) <| Wz (.b (!d)) (OpF rfl) ?_
 rcases br hm with ⟨j, hm⟩ | ⟨j, hm⟩
 · refine Wz (.b true) (Oq j rfl) <| Wn <| Wn <| Wz (.b true) (OpT rfl) <| Nn ?_
   exact AWP.weak (Weak.toK 1048577 0 0 []) (J1 () hm)
 refine Wz (.b false) (Oq j rfl) <| Wm (.s p0) rfl ?_
 obtain ⟨f, d0, hm⟩ := bnd hm
 refine Wz (.b f) (Ocf [] [] [] 0 (ok_schema_Reserved p0 f d0) (fun a w => Try.call45 a w) rfl trivial) <| Wz (.b f) (OpF rfl) <| Nk 1048577 0 ⟨.s p0::tp 19 (.b f::tp 11 []), [], 0⟩ ?_
 rcases br hm with ⟨l, hm⟩ | ⟨l, hm⟩
 · refine AiT l <| Sx <| Wm (.b false) rfl <| Nn <| Rt <| Tr ?_
   obtain rfl := sj hm
   exact ret_i []
 refine AiF l <| Sk <| Tk 1 0 ⟨.s p0::tp 31 [], [], 0⟩ <| Sq <| Sx <| Wm (.i 1) rfl <| Nk 9 0 ⟨.s p0::tp 2 (.i 1::tp 28 []), [], 0⟩ <| Bk ?_
 refine AWP.loopI (α := Nat × Int)
   (fun (fu_2, c) => (⟨.s p0::tp 2 (.i c::tp 28 []), [], 0⟩ : St))
   (fun (fu_2, c) => m_schema_Name_l2 p0 fu_2 c = some r)
   (fun (fu_2, c) => fu_2) (1152921504606846976, 1)
   (Weak.toK 9 0 0 []) hm ?_
 rintro ⟨fu_2, c⟩ n_2 hm ih_2
 try dsimp only at hm ih_2 ⊢
 cases fu_2 with
 | zero => exact absurd hm (by unfold m_schema_Name_l2; simp)
 | succ fu_2 =>
  unfold m_schema_Name_l2 at hm
  refine Sq <| Sx <| Wm (.i c) rfl <| Wm (.s p0) rfl <| Wz (.i ((List.length p0 : Nat) : Int)) (Oln rfl) <| Wz (.b (decide (c < ((List.length p0 : Nat) : Int)))) (Obn rfl (fun _ => hb_lss (k := .i64))) <| Nk 16777225 0 ⟨.s p0::tp 2 (.i c::tp 20 (.b (decide (c < ((List.length p0 : Nat) : Int)))::tp 7 [])), [], 0⟩ ?_
  rcases br hm with ⟨m, hm⟩ | ⟨m, hm⟩
  · refine AiT m <| Sk <| Tk 9 0 ⟨.s p0::tp 2 (.i c::tp 28 []), [], 0⟩ <| Sq <| Bk <| Sx <| Wm (.s p0) rfl <| Wm (.i c) rfl ?_
    obtain ⟨t, e0, hm⟩ := bnd hm
    obtain ⟨z, a0⟩ := geti_some e0
    refine Wz (.y t) (Ocs (by kernel_rfl) (op_index_str rfl (by kernel_rfl) (s := toS p0) (by kernel_rfl) (k := .i64) (iv := c) (by kernel_rfl) (i := (Int.toNat c)) (z) (b := t) (a0))) ?_
    obtain ⟨e, f0, hm⟩ := bnd hm
    refine Wz (.b e) (Ocf [] [] [] 0 (ok_schema_tail t e f0) (fun a w => Try.call46 a w) rfl trivial) <| Wz (.b (!e)) (Ocs (by kernel_rfl) (op_un rfl (a1 := .bool e) (by kernel_rfl) (fun _ => hu_not))) <| Nk 2147483657 0 ⟨.s p0::tp 2 (.i c::tp 27 (.b (!e)::[])), [], 0⟩ ?_
    rcases br hm with ⟨o, hm⟩ | ⟨o, hm⟩
    · refine AiT o <| Sx <| Wm (.b false) rfl <| Nn <| Rt <| Ir <| Tr <| RoundK.ret <| Ir <| Tr ?_
      obtain rfl := sj hm
      exact ret_i []
    refine AiF o <| Sk <| Ino <| Tk 9 0 ⟨.s p0::tp 2 (.i c::tp 28 []), [], 0⟩ <| Tx <| Wm (.i c) rfl <| Wz (.i (W6 (c + 1))) (Obn rfl (fun _ => hb_add (k := .i64))) <| Wm (.i (W6 (c + 1))) rfl <| Wn0 <| RoundK.normal ?_
    exact Rounds.weak (Weak.toK 9 0 0 []) (ih_2 (fu_2, (W6 (c + 1))) hm (Nat.lt_succ_self _))
  refine AiF m <| AWP.exit <| Then.exit <| RoundK.exit <| InBlock.same <| Tk 0 0 ⟨tp 32 [], [], 0⟩ <| Sx <| Wm (.b true) rfl <| Nn <| Rt ?_
  obtain rfl := sj hm
  exact ret_i []

theorem ok_pred_Node_stands (p0 : GNode_) (p1 : Int) (r : Bool) (h : m_pred_Node_stands p0 p1 = some r) : GCall Try.prog 82 [(.agg [(.y p0.Kind), (.y p0.Op), (.s p0.Var), (.s p0.Name), (.y p0.Val.Kind), (.i p0.Val.N), (.u p0.Val.Bits), (.s p0.Val.Text)]), (.i p1)] [] (.b r) [] := by
 refine GCall.of_body (n := 34) (rs := [(.tmp 4)]) Try.func82 rfl rfl rfl <| Ato ⟨.agg [(.y p0.Kind), (.y p0.Op), (.s p0.Var), (.s p0.Name), (.y p0.Val.Kind), (.i p0.Val.N), (.u p0.Val.Bits), (.s p0.Val.Text)]::.i p1::tu 32 [], [], 0⟩ ?_
 have hm := h
 unfold m_pred_Node_stands at hm
 refine Sx <| Wy (.loc 0 0) [(0, (.box [(.y p0.Kind), (.y p0.Op), (.s p0.Var), (.s p0.Name), (.y p0.Val.Kind), (.i p0.Val.N), (.u p0.Val.Bits), (.s p0.Val.Text)]))] (Obx rfl) <| Wm (.b false) rfl <| Nk 6 1 ⟨tp 1 (.i p1::.loc 0 0::tp 31 []), [(.box [(.y p0.Kind), (.y p0.Op), (.s p0.Var), (.s p0.Name), (.y p0.Val.Kind), (.i p0.Val.N), (.u p0.Val.Bits), (.s p0.Val.Text)])], 0⟩ <| Sq <| Sx <| Wm (.i p1) rfl <| Nk 36 1 ⟨tp 2 (.loc 0 0::tp 2 (.i p1::tp 28 [])), [(.box [(.y p0.Kind), (.y p0.Op), (.s p0.Var), (.s p0.Name), (.y p0.Val.Kind), (.i p0.Val.N), (.u p0.Val.Bits), (.s p0.Val.Text)])], 0⟩ <| Bk <| Sx <| Wz (.b (decide (p1 = 0))) (Obn rfl (fun _ => hb_eql (k := .i64))) <| Wm (.b (decide (p1 = 0))) rfl <| Nk 100 1 ⟨tp 2 (.loc 0 0::tp 2 (.i p1::.b (decide (p1 = 0))::tp 27 [])), [(.box [(.y p0.Kind), (.y p0.Op), (.s p0.Var), (.s p0.Name), (.y p0.Val.Kind), (.i p0.Val.N), (.u p0.Val.Bits), (.s p0.Val.Text)])], 0⟩ ?_
 rcases br hm with ⟨g, hm⟩ | ⟨g, hm⟩
 · refine AiT g <| Sx <| Wz (.loc 0 0) (Ofa rfl) <| Wz (.y p0.Kind) (Old rfl) <| Wz (.b (decide ((1 : Int) ≤ ((p0.Kind.toNat : Nat) : Int)))) (Ob2 (.int .u8 1) (.int .u8 ((p0.Kind.toNat : Nat) : Int)) rfl (fun _ => hb_leq)) ?_
   rcases br hm with ⟨c, hm⟩ | ⟨c, hm⟩
   · refine Wz (.b true) (Oq c rfl) <| Wz (.loc 0 0) (Ofa rfl) <| Wz (.y p0.Kind) (Old rfl) <| Wz (.b (decide (((p0.Kind.toNat : Nat) : Int) ≤ 4))) (Ob2 (.int .u8 ((p0.Kind.toNat : Nat) : Int)) (.int .u8 4) rfl (fun _ => hb_leq)) <| Wz (.b (decide (((p0.Kind.toNat : Nat) : Int) ≤ 4))) (OpT rfl) <| Wm (.b (decide (((p0.Kind.toNat : Nat) : Int) ≤ 4))) rfl <| Nn <| Rt <| Ir <| Tr ?_
     obtain rfl := sj hm
     exact ret_i []
   refine Wz (.b false) (Oq c rfl) <| Wn <| Wn <| Wn <| Wz (.b false) (OpF rfl) <| Wm (.b false) rfl <| Nn <| Rt <| Ir <| Tr ?_
   obtain rfl := sj hm
   exact ret_i []
 refine AiF g <| Sx <| Wz (.b (decide (p1 = 1))) (Obn rfl (fun _ => hb_eql (k := .i64))) <| Wm (.b (decide (p1 = 1))) rfl <| Nk 65540 1 ⟨tp 2 (.loc 0 0::tp 13 (.b (decide (p1 = 1))::tp 17 [])), [(.box [(.y p0.Kind), (.y p0.Op), (.s p0.Var), (.s p0.Name), (.y p0.Val.Kind), (.i p0.Val.N), (.u p0.Val.Bits), (.s p0.Val.Text)])], 0⟩ ?_
 rcases br hm with ⟨d, hm⟩ | ⟨d, hm⟩
 · refine AiT d <| Sx <| Wz (.loc 0 0) (Ofa rfl) <| Wz (.y p0.Kind) (Old rfl) <| Wz (.b (decide ((5 : Int) ≤ ((p0.Kind.toNat : Nat) : Int)))) (Ob2 (.int .u8 5) (.int .u8 ((p0.Kind.toNat : Nat) : Int)) rfl (fun _ => hb_leq)) ?_
   rcases br hm with ⟨e, hm⟩ | ⟨e, hm⟩
   · refine Wz (.b true) (Oq e rfl) <| Wz (.loc 0 0) (Ofa rfl) <| Wz (.y p0.Kind) (Old rfl) <| Wz (.b (decide (((p0.Kind.toNat : Nat) : Int) ≤ 9))) (Ob2 (.int .u8 ((p0.Kind.toNat : Nat) : Int)) (.int .u8 9) rfl (fun _ => hb_leq)) <| Wz (.b (decide (((p0.Kind.toNat : Nat) : Int) ≤ 9))) (OpT rfl) <| Wm (.b (decide (((p0.Kind.toNat : Nat) : Int) ≤ 9))) rfl <| Nn <| Rt <| Ir <| Tr ?_
     obtain rfl := sj hm
     exact ret_i []
   refine Wz (.b false) (Oq e rfl) <| Wn <| Wn <| Wn <| Wz (.b false) (OpF rfl) <| Wm (.b false) rfl <| Nn <| Rt <| Ir <| Tr ?_
   obtain rfl := sj hm
   exact ret_i []
 refine AiF d <| Sk <| Ino <| Tk 4 1 ⟨tp 2 (.loc 0 0::tp 31 []), [(.box [(.y p0.Kind), (.y p0.Op), (.s p0.Var), (.s p0.Name), (.y p0.Val.Kind), (.i p0.Val.N), (.u p0.Val.Bits), (.s p0.Val.Text)])], 0⟩ <| Sx <| Wz (.loc 0 0) (Ofa rfl) <| Wz (.y p0.Kind) (Old rfl) <| Wz (.b (decide ((7 : Int) ≤ ((p0.Kind.toNat : Nat) : Int)))) (Ob2 (.int .u8 7) (.int .u8 ((p0.Kind.toNat : Nat) : Int)) rfl (fun _ => hb_leq)) ?_
 rcases br hm with ⟨f, hm⟩ | ⟨f, hm⟩
 · refine Wz (.b true) (Oq f rfl) <| Wz (.loc 0 0) (Ofa rfl) <| Wz (.y p0.Kind) (Old rfl) <| Wz (.b (decide (((p0.Kind.toNat : Nat) : Int) ≤ 9))) (Ob2 (.int .u8 ((p0.Kind.toNat : Nat) : Int)) (.int .u8 9) rfl (fun _ => hb_leq)) <| Wz (.b (decide (((p0.Kind.toNat : Nat) : Int) ≤ 9))) (OpT rfl) <| Wm (.b (decide (((p0.Kind.toNat : Nat) : Int) ≤ 9))) rfl <| Nn <| Rt ?_
   obtain rfl := sj hm
   exact ret_i []
 refine Wz (.b false) (Oq f rfl) <| Wn <| Wn <| Wn <| Wz (.b false) (OpF rfl) <| Wm (.b false) rfl <| Nn <| Rt ?_
 obtain rfl := sj hm
 exact ret_i []

theorem ok_compare_Sign (p0 : UInt8) (r : (List UInt8)) (h : m_compare_Sign p0 = some r) : GCall Try.prog 73 [(.y p0)] [] (.s r) [] := by
 refine GCall.of_body (n := 16) (rs := [(.tmp 2)]) Try.func73 rfl rfl rfl <| Ato ⟨.y p0::tu 15 [], [], 0⟩ ?_
 have hm := h
 unfold m_compare_Sign at hm
 refine Sx <| Wm (.s ([] : List UInt8)) rfl <| Nk 1 0 ⟨.y p0::tp 15 [], [], 0⟩ <| Sq <| Sx <| Wm (.y p0) rfl <| Nk 8 0 ⟨tp 3 (.y p0::tp 12 []), [], 0⟩ <| Bk <| Sx <| Wz (.b (decide (((p0.toNat : Nat) : Int) = 1))) (Ob2 (.int .u8 ((p0.toNat : Nat) : Int)) (.int .u8 1) rfl (fun _ => hb_eql)) <| Wm (.b (decide (((p0.toNat : Nat) : Int) = 1))) rfl <| Nk 24 0 ⟨tp 3 (.y p0::.b (decide (((p0.toNat : Nat) : Int) = 1))::tp 11 []), [], 0⟩ ?_
 rcases br hm with ⟨f, hm⟩ | ⟨f, hm⟩
 · refine AiT f <| Sx <| Wm (.s ([61] : List UInt8)) rfl <| Nn <| Rt <| Ir <| Tr ?_
   obtain rfl := sj hm
   exact ret_i []
 refine AiF f <| Sx <| Wz (.b (decide (((p0.toNat : Nat) : Int) = 2))) (Ob2 (.int .u8 ((p0.toNat : Nat) : Int)) (.int .u8 2) rfl (fun _ => hb_eql)) <| Wm (.b (decide (((p0.toNat : Nat) : Int) = 2))) rfl <| Nk 72 0 ⟨tp 3 (.y p0::tp 2 (.b (decide (((p0.toNat : Nat) : Int) = 2))::tp 9 [])), [], 0⟩ ?_
 rcases br hm with ⟨g, hm⟩ | ⟨g, hm⟩
 · refine AiT g <| Sx <| Wm (.s ([33, 61] : List UInt8)) rfl <| Nn <| Rt <| Ir <| Tr ?_
   obtain rfl := sj hm
   exact ret_i []
 refine AiF g <| Sx <| Wz (.b (decide (((p0.toNat : Nat) : Int) = 3))) (Ob2 (.int .u8 ((p0.toNat : Nat) : Int)) (.int .u8 3) rfl (fun _ => hb_eql)) <| Wm (.b (decide (((p0.toNat : Nat) : Int) = 3))) rfl <| Nk 264 0 ⟨tp 3 (.y p0::tp 4 (.b (decide (((p0.toNat : Nat) : Int) = 3))::tp 7 [])), [], 0⟩ ?_
 rcases br hm with ⟨i, hm⟩ | ⟨i, hm⟩
 · refine AiT i <| Sx <| Wm (.s ([60] : List UInt8)) rfl <| Nn <| Rt <| Ir <| Tr ?_
   obtain rfl := sj hm
   exact ret_i []
 refine AiF i <| Sx <| Wz (.b (decide (((p0.toNat : Nat) : Int) = 4))) (Ob2 (.int .u8 ((p0.toNat : Nat) : Int)) (.int .u8 4) rfl (fun _ => hb_eql)) <| Wm (.b (decide (((p0.toNat : Nat) : Int) = 4))) rfl <| Nk 1032 0 ⟨tp 3 (.y p0::tp 6 (.b (decide (((p0.toNat : Nat) : Int) = 4))::tp 5 [])), [], 0⟩ ?_
 rcases br hm with ⟨c, hm⟩ | ⟨c, hm⟩
 · refine AiT c <| Sx <| Wm (.s ([60, 61] : List UInt8)) rfl <| Nn <| Rt <| Ir <| Tr ?_
   obtain rfl := sj hm
   exact ret_i []
 refine AiF c <| Sx <| Wz (.b (decide (((p0.toNat : Nat) : Int) = 5))) (Ob2 (.int .u8 ((p0.toNat : Nat) : Int)) (.int .u8 5) rfl (fun _ => hb_eql)) <| Wm (.b (decide (((p0.toNat : Nat) : Int) = 5))) rfl <| Nk 4104 0 ⟨tp 3 (.y p0::tp 8 (.b (decide (((p0.toNat : Nat) : Int) = 5))::tp 3 [])), [], 0⟩ ?_
 rcases br hm with ⟨d, hm⟩ | ⟨d, hm⟩
 · refine AiT d <| Sx <| Wm (.s ([62] : List UInt8)) rfl <| Nn <| Rt <| Ir <| Tr ?_
   obtain rfl := sj hm
   exact ret_i []
 refine AiF d <| Sx <| Wz (.b (decide (((p0.toNat : Nat) : Int) = 6))) (Ob2 (.int .u8 ((p0.toNat : Nat) : Int)) (.int .u8 6) rfl (fun _ => hb_eql)) <| Wm (.b (decide (((p0.toNat : Nat) : Int) = 6))) rfl <| Nk 16384 0 ⟨tp 14 (.b (decide (((p0.toNat : Nat) : Int) = 6))::tp 1 []), [], 0⟩ ?_
 rcases br hm with ⟨e, hm⟩ | ⟨e, hm⟩
 · refine AiT e <| Sx <| Wm (.s ([62, 61] : List UInt8)) rfl <| Nn <| Rt <| Ir <| Tr ?_
   obtain rfl := sj hm
   exact ret_i []
 refine AiF e <| Sk <| Ino <| Tk 0 0 ⟨tp 16 [], [], 0⟩ <| Sx <| Wm (.s ([] : List UInt8)) rfl <| Nn <| Rt ?_
 obtain rfl := sj hm
 exact ret_i []

theorem ok_value_core (p0 : GValue) (r : Value) (h : m_value_core p0 = some r) : GCall Try.prog 74 [(.agg [(.y p0.Kind), (.i p0.N), (.u p0.Bits), (.s p0.Text)])] [] (.d (.lit r)) [] := by
 refine GCall.of_body (n := 25) (rs := [(.tmp 2)]) Try.func74 rfl rfl rfl <| Ato ⟨.agg [(.y p0.Kind), (.i p0.N), (.u p0.Bits), (.s p0.Text)]::tu 24 [], [], 0⟩ ?_
 have hm := h
 unfold m_value_core at hm
 refine Sx <| Wy (.loc 0 0) [(0, (.box [(.y p0.Kind), (.i p0.N), (.u p0.Bits), (.s p0.Text)]))] (Obx rfl) <| Wm (.d (.lit Value.nilIface)) rfl <| Nk 2 1 ⟨tp 1 (.loc 0 0::tp 23 []), [(.box [(.y p0.Kind), (.i p0.N), (.u p0.Bits), (.s p0.Text)])], 0⟩ <| Sq <| Sx <| Wz (.loc 0 0) (Ofa rfl) <| Wz (.y p0.Kind) (Old rfl) <| Nk 18 1 ⟨tp 1 (.loc 0 0::tp 2 (.y p0.Kind::tp 20 [])), [(.box [(.y p0.Kind), (.i p0.N), (.u p0.Bits), (.s p0.Text)])], 0⟩ <| Bk <| Sx <| Wz (.b (decide (((p0.Kind.toNat : Nat) : Int) = 1))) (Ob2 (.int .u8 ((p0.Kind.toNat : Nat) : Int)) (.int .u8 1) rfl (fun _ => hb_eql)) <| Wm (.b (decide (((p0.Kind.toNat : Nat) : Int) = 1))) rfl <| Nk 50 1 ⟨tp 1 (.loc 0 0::tp 2 (.y p0.Kind::.b (decide (((p0.Kind.toNat : Nat) : Int) = 1))::tp 19 [])), [(.box [(.y p0.Kind), (.i p0.N), (.u p0.Bits), (.s p0.Text)])], 0⟩ ?_
 rcases br hm with ⟨g, hm⟩ | ⟨g, hm⟩
 · refine AiT g <| Sx <| Wz (.loc 0 1) (Ofa rfl) <| Wz (.i p0.N) (Old rfl) <| Wz (.d (.lit (Value.iface 102 (.int .i64 p0.N)))) (Oif rfl) <| Wm (.d (.lit (Value.iface 102 (.int .i64 p0.N)))) rfl <| Nn <| Rt <| Ir <| Tr ?_
   obtain rfl := sj hm
   exact ret_i []
 refine AiF g <| Sx <| Wz (.b (decide (((p0.Kind.toNat : Nat) : Int) = 2))) (Ob2 (.int .u8 ((p0.Kind.toNat : Nat) : Int)) (.int .u8 2) rfl (fun _ => hb_eql)) <| Wm (.b (decide (((p0.Kind.toNat : Nat) : Int) = 2))) rfl <| Nk 1042 1 ⟨tp 1 (.loc 0 0::tp 2 (.y p0.Kind::tp 5 (.b (decide (((p0.Kind.toNat : Nat) : Int) = 2))::tp 14 []))), [(.box [(.y p0.Kind), (.i p0.N), (.u p0.Bits), (.s p0.Text)])], 0⟩ ?_
 rcases br hm with ⟨c, hm⟩ | ⟨c, hm⟩
 · refine AiT c <| Sx <| Wz (.loc 0 1) (Ofa rfl) <| Wz (.i p0.N) (Old rfl) <| Wz (.d (.lit (Value.iface 103 (.int .i64 p0.N)))) (Oif rfl) <| Wm (.d (.lit (Value.iface 103 (.int .i64 p0.N)))) rfl <| Nn <| Rt <| Ir <| Tr ?_
   obtain rfl := sj hm
   exact ret_i []
 refine AiF c <| Sx <| Wz (.b (decide (((p0.Kind.toNat : Nat) : Int) = 3))) (Ob2 (.int .u8 ((p0.Kind.toNat : Nat) : Int)) (.int .u8 3) rfl (fun _ => hb_eql)) <| Wm (.b (decide (((p0.Kind.toNat : Nat) : Int) = 3))) rfl <| Nk 32786 1 ⟨tp 1 (.loc 0 0::tp 2 (.y p0.Kind::tp 10 (.b (decide (((p0.Kind.toNat : Nat) : Int) = 3))::tp 9 []))), [(.box [(.y p0.Kind), (.i p0.N), (.u p0.Bits), (.s p0.Text)])], 0⟩ ?_
 rcases br hm with ⟨e, hm⟩ | ⟨e, hm⟩
 · refine AiT e <| Sx <| Wz (.loc 0 2) (Ofa rfl) <| Wz (.u p0.Bits) (Old rfl) <| Wz (.d (.lit (Value.iface 104 (.int .u64 p0.Bits)))) (Oif rfl) <| Wm (.d (.lit (Value.iface 104 (.int .u64 p0.Bits)))) rfl <| Nn <| Rt <| Ir <| Tr ?_
   obtain rfl := sj hm
   exact ret_i []
 refine AiF e <| Sx <| Wz (.b (decide (((p0.Kind.toNat : Nat) : Int) = 4))) (Ob2 (.int .u8 ((p0.Kind.toNat : Nat) : Int)) (.int .u8 4) rfl (fun _ => hb_eql)) <| Wm (.b (decide (((p0.Kind.toNat : Nat) : Int) = 4))) rfl <| Nk 1048578 1 ⟨tp 1 (.loc 0 0::tp 18 (.b (decide (((p0.Kind.toNat : Nat) : Int) = 4))::tp 4 [])), [(.box [(.y p0.Kind), (.i p0.N), (.u p0.Bits), (.s p0.Text)])], 0⟩ ?_
 rcases br hm with ⟨f, hm⟩ | ⟨f, hm⟩
 · refine AiT f <| Sx <| Wz (.loc 0 3) (Ofa rfl) <| Wz (.s p0.Text) (Old rfl) <| Wz (.d (.lit (Value.iface 106 (.string (toS p0.Text))))) (Oif rfl) <| Wm (.d (.lit (Value.iface 106 (.string (toS p0.Text))))) rfl <| Nn <| Rt <| Ir <| Tr ?_
   obtain rfl := sj hm
   exact ret_i []
 refine AiF f <| Sk <| Ino <| Tk 0 0 ⟨tp 25 [], [.gone], 0⟩ <| Sx <| Wm (.d (.lit Value.nilIface)) rfl <| Nn <| Rt ?_
 obtain rfl := sj hm
 exact ret_i []

theorem ok_real_of (p0 : Int) (r : Nat) (h : m_real_of p0 = some r) : GCall Try.prog 93 [(.u p0)] [] (.d (.lit (.float .f64 r))) [] := by
 refine GCall.of_body (n := 5) (rs := [(.tmp 2)]) Try.func93 rfl rfl rfl <| Ato ⟨.u p0::tu 4 [], [], 0⟩ ?_
 have hm := h
 unfold m_real_of at hm
 refine Sx <| Wm (.d (.lit (.float .f64 0))) rfl <| Nk 1 0 ⟨.u p0::tp 4 [], [], 0⟩ <| Sx <| Wm (.u p0) rfl <| Wz (.d (.lit (.float .f64 (Int.toNat p0)))) (Ofb (f := 96) (fun _ => by kernel_rfl) rfl) <| Wm (.d (.lit (.float .f64 (Int.toNat p0)))) rfl <| Nn <| Rt ?_
 obtain rfl := sj hm
 exact ret_i []

theorem ok_real_Clean (p0 : Int) (r : Int) (h : m_real_Clean p0 = some r) : GCall Try.prog 75 [(.u p0)] [] (.u r) [] := by
 refine GCall.of_body (n := 10) (rs := [(.tmp 2)]) Try.func75 rfl rfl rfl <| Ato ⟨.u p0::tu 9 [], [], 0⟩ ?_
 have hm := h
 unfold m_real_Clean at hm
 refine Sx <| Wm (.u 0) rfl <| Nk 1 0 ⟨.u p0::tp 9 [], [], 0⟩ <| Sq <| Sx <| Wm (.u p0) rfl ?_
 obtain ⟨c, f, hm⟩ := bnd hm
 refine Wz (.d (.lit (.float .f64 c))) (Ocf [] [] [] 0 (ok_real_of p0 c f) (fun a w => Try.call93 a w) rfl trivial) <| Wm (.d (.lit (.float .f64 c))) rfl <| Nk 9 0 ⟨.u p0::tp 2 (.d (.lit (.float .f64 c))::tp 6 []), [], 0⟩ <| Sx <| Wm (.d (.lit (.float .f64 c))) rfl <| Wm (.d (.lit (.float .f64 c))) rfl <| Wz (.b (fne c c)) (op_bin rfl (a1 := .float .f64 c) (a2 := .float .f64 c) (by kernel_rfl) (by kernel_rfl) (fun _ => hb_fneq)) <| Nk 257 0 ⟨.u p0::tp 7 (.b (fne c c)::tp 1 []), [], 0⟩ ?_
 rcases br hm with ⟨e, hm⟩ | ⟨e, hm⟩
 · refine AiT e <| Sx <| Wm (.u 9221120237041090560) rfl <| Nn <| Rt <| Tr ?_
   obtain rfl := sj hm
   exact ret_i []
 refine AiF e <| Sk <| Tk 1 0 ⟨.u p0::tp 9 [], [], 0⟩ <| Sx <| Wm (.u p0) rfl <| Wm (.u p0) rfl <| Nn <| Rt ?_
 obtain rfl := sj hm
 exact ret_i []

theorem ok_value_number_whole (p0 : Int) (r : GValue) (h : m_value_number_whole p0 = some r) : GCall Try.prog 116 [(.i p0)] [] (.agg [(.y r.Kind), (.i r.N), (.u r.Bits), (.s r.Text)]) [] := by
 refine GCall.of_body (n := 5) (rs := [(.cell 2 73)]) Try.func116 rfl rfl rfl <| Ato ⟨.i p0::tu 4 [], [], 0⟩ ?_
 have hm := h
 unfold m_value_number_whole at hm
 refine Sx <| Wy (.loc 0 0) [(0, (.box [(.y 0), (.i 0), (.u 0), (.s ([] : List UInt8))]))] (Oal rfl) <| Nk 5 1 ⟨.i p0::tp 1 (.loc 0 0::tp 2 []), [(.box [(.y 0), (.i 0), (.u 0), (.s ([] : List UInt8))])], 0⟩ <| Sx <| Wm (.i p0) rfl <| Wz (.agg [(.y 1), (.i p0), (.u 0), (.s ([] : List UInt8))]) (Obd rfl) <| Wy (.tup []) [(0, (.box [(.y 1), (.i p0), (.u 0), (.s ([] : List UInt8))]))] (Ost rfl) <| Nn <| Rt ?_
 obtain rfl := sj hm
 exact ret_i []

theorem ok_value_flag_whole (p0 : Int) (r : GValue) (h : m_value_flag_whole p0 = some r) : GCall Try.prog 117 [(.i p0)] [] (.agg [(.y r.Kind), (.i r.N), (.u r.Bits), (.s r.Text)]) [] := by
 refine GCall.of_body (n := 5) (rs := [(.cell 2 73)]) Try.func117 rfl rfl rfl <| Ato ⟨.i p0::tu 4 [], [], 0⟩ ?_
 have hm := h
 unfold m_value_flag_whole at hm
 refine Sx <| Wy (.loc 0 0) [(0, (.box [(.y 0), (.i 0), (.u 0), (.s ([] : List UInt8))]))] (Oal rfl) <| Nk 5 1 ⟨.i p0::tp 1 (.loc 0 0::tp 2 []), [(.box [(.y 0), (.i 0), (.u 0), (.s ([] : List UInt8))])], 0⟩ <| Sx <| Wm (.i p0) rfl <| Wz (.agg [(.y 2), (.i p0), (.u 0), (.s ([] : List UInt8))]) (Obd rfl) <| Wy (.tup []) [(0, (.box [(.y 2), (.i p0), (.u 0), (.s ([] : List UInt8))]))] (Ost rfl) <| Nn <| Rt ?_
 obtain rfl := sj hm
 exact ret_i []

theorem ok_value_double_whole (p0 : Int) (r : GValue) (h : m_value_double_whole p0 = some r) : GCall Try.prog 118 [(.u p0)] [] (.agg [(.y r.Kind), (.i r.N), (.u r.Bits), (.s r.Text)]) [] := by
 refine GCall.of_body (n := 5) (rs := [(.cell 2 73)]) Try.func118 rfl rfl rfl <| Ato ⟨.u p0::tu 4 [], [], 0⟩ ?_
 have hm := h
 unfold m_value_double_whole at hm
 refine Sx <| Wy (.loc 0 0) [(0, (.box [(.y 0), (.i 0), (.u 0), (.s ([] : List UInt8))]))] (Oal rfl) <| Nk 5 1 ⟨.u p0::tp 1 (.loc 0 0::tp 2 []), [(.box [(.y 0), (.i 0), (.u 0), (.s ([] : List UInt8))])], 0⟩ <| Sx <| Wm (.u p0) rfl <| Wz (.agg [(.y 3), (.i 0), (.u p0), (.s ([] : List UInt8))]) (Obd rfl) <| Wy (.tup []) [(0, (.box [(.y 3), (.i 0), (.u p0), (.s ([] : List UInt8))]))] (Ost rfl) <| Nn <| Rt ?_
 obtain rfl := sj hm
 exact ret_i []

theorem ok_value_words_whole (p0 : (List UInt8)) (r : GValue) (h : m_value_words_whole p0 = some r) : GCall Try.prog 119 [(.s p0)] [] (.agg [(.y r.Kind), (.i r.N), (.u r.Bits), (.s r.Text)]) [] := by
 refine GCall.of_body (n := 5) (rs := [(.cell 2 73)]) Try.func119 rfl rfl rfl <| Ato ⟨.s p0::tu 4 [], [], 0⟩ ?_
 have hm := h
 unfold m_value_words_whole at hm
 refine Sx <| Wy (.loc 0 0) [(0, (.box [(.y 0), (.i 0), (.u 0), (.s ([] : List UInt8))]))] (Oal rfl) <| Nk 5 1 ⟨.s p0::tp 1 (.loc 0 0::tp 2 []), [(.box [(.y 0), (.i 0), (.u 0), (.s ([] : List UInt8))])], 0⟩ <| Sx <| Wm (.s p0) rfl <| Wz (.agg [(.y 4), (.i 0), (.u 0), (.s p0)]) (Obd rfl) <| Wy (.tup []) [(0, (.box [(.y 4), (.i 0), (.u 0), (.s p0)]))] (Ost rfl) <| Nn <| Rt ?_
 obtain rfl := sj hm
 exact ret_i []

theorem ok_value_Check (p0 : GValue) (r : Int) (h : m_value_Check p0 = some r) : GCall Try.prog 61 [(.agg [(.y p0.Kind), (.i p0.N), (.u p0.Bits), (.s p0.Text)])] [] (.i r) [] := by
 refine GCall.of_body (n := 47) (rs := [(.tmp 2)]) Try.func61 rfl rfl rfl <| Ato ⟨.agg [(.y p0.Kind), (.i p0.N), (.u p0.Bits), (.s p0.Text)]::tu 46 [], [], 0⟩ ?_
 have hm := h
 unfold m_value_Check at hm
 refine Sx <| Wy (.loc 0 0) [(0, (.box [(.y p0.Kind), (.i p0.N), (.u p0.Bits), (.s p0.Text)]))] (Obx rfl) <| Wm (.i 0) rfl <| Nk 2 1 ⟨tp 1 (.loc 0 0::tp 45 []), [(.box [(.y p0.Kind), (.i p0.N), (.u p0.Bits), (.s p0.Text)])], 0⟩ <| Sx <| Wz (.agg [(.y p0.Kind), (.i p0.N), (.u p0.Bits), (.s p0.Text)]) (Old rfl) ?_
 obtain ⟨j, e1, hm⟩ := bnd hm
 refine Wz (.d (.lit j)) (Ocf [] [] [] 0 (ok_value_core p0 j e1) (fun a w => Try.call74 a w) rfl trivial) <| Wm (.d (.lit j)) rfl <| Nk 10 1 ⟨tp 1 (.loc 0 0::tp 1 (.d (.lit j)::tp 43 [])), [(.box [(.y p0.Kind), (.i p0.N), (.u p0.Bits), (.s p0.Text)])], 0⟩ ?_
 refine AWP.cutJ (α := Unit) (fun x => match x with | () => (⟨tp 1 (.loc 0 0::tp 1 (.d (.lit j)::tp 43 [])), [(.box [(.y p0.Kind), (.i p0.N), (.u p0.Bits), (.s p0.Text)])], 0⟩ : St)) (fun x => match x with | () => m_value_Check_j9 p0 j = some r) ?_ (fun J9 => ?_)
 ·
  rintro ⟨⟩ hm
  try dsimp only at hm ⊢
  unfold m_value_Check_j9 at hm
  refine Sq ?_
  refine AWP.cutJ (α := Bool) (fun x => match x with | e0 => (⟨tp 46 (.b e0::[]), [], 0⟩ : St)) (fun x => match x with | e0 => m_value_Check_j11  e0 = some r) ?_ (fun J11 => ?_)
  ·
   rintro e0 hm
   try dsimp only at hm ⊢
   unfold m_value_Check_j11 at hm
   rcases br hm with ⟨j0, hm⟩ | ⟨j0, hm⟩
   · refine AiT j0 <| Sx <| Wm (.i 2) rfl <| Nn <| Rt <| Tr ?_
     obtain rfl := sj hm
     exact ret_i []
   refine AiF j0 <| Sk <| Tk 0 0 ⟨tp 47 [], [], 0⟩ <| Sx <| Wm (.i 0) rfl <| Nn <| Rt ?_
   obtain rfl := sj hm
   exact ret_i []
  refine Sq <| Adr <| Wm (.d (.lit j)) rfl ?_
  rcases br hm with ⟨a0, hm⟩ | ⟨a0, hm⟩
  · obtain ⟨f0, w0, hm⟩ := bnd hm
    obtain ⟨c, x0, hm⟩ := bnd hm
    have hi_r44_10_102 := inI_some a0 w0
    refine Wz (.agg [(.y c.Kind), (.i c.N), (.u c.Bits), (.s c.Text)]) (Oiv (t := 102) (u := .int .i64 f0) (ok_value_number_whole f0 c x0) (by simp [A.Plain, A.Plains, D.Plain, byteD]) (fun a w => Try.call116 a w) (fun w => by kernel_rfl) rfl (Eq.trans (by kernel_rfl) (congrArg (fun z => A.d (.lit z)) hi_r44_10_102))) <| Wz (.agg [(.y p0.Kind), (.i p0.N), (.u p0.Bits), (.s p0.Text)]) (Old rfl) ?_
    obtain ⟨p, l, hm⟩ := bnd hm; replace l := Option.some.inj l
    refine Wz (.b p) (Ocs (Eq.trans (lit_tf (by simp only [toS_inj])) (congrArg (fun z => A.d (.lit (.bool z))) l)) (op_neq_struct rfl (la := [(.y c.Kind), (.i c.N), (.u c.Bits), (.s c.Text)]) (lb := [(.y p0.Kind), (.i p0.N), (.u p0.Bits), (.s p0.Text)]) (us := [.int .u8 ((c.Kind.toNat : Nat) : Int), .int .i64 c.N, .int .u64 c.Bits, .string (toS c.Text)]) (vs := [.int .u8 ((p0.Kind.toNat : Nat) : Int), .int .i64 p0.N, .int .u64 p0.Bits, .string (toS p0.Text)]) (r := (decide (((c.Kind.toNat : Nat) : Int) = ((p0.Kind.toNat : Nat) : Int)) && (decide (c.N = p0.N) && (decide (c.Bits = p0.Bits) && (decide ((toS c.Text) = (toS p0.Text)) && true))))) (by kernel_rfl) (by kernel_rfl) (by kernel_rfl) (by kernel_rfl) (by kernel_rfl))) <| Wdr <| Tn ?_
    exact AWP.weak (Weak.toK 70368744177664 0 0 []) (J11 (p) hm)
  rcases br hm with ⟨b0, hm⟩ | ⟨b0, hm⟩
  · obtain ⟨g0, y0, hm⟩ := bnd hm
    obtain ⟨e, z0, hm⟩ := bnd hm
    have hi_r44_10_103 := inI_some b0 y0
    refine Wz (.agg [(.y e.Kind), (.i e.N), (.u e.Bits), (.s e.Text)]) (Oiv (t := 103) (u := .int .i64 g0) (ok_value_flag_whole g0 e z0) (by simp [A.Plain, A.Plains, D.Plain, byteD]) (fun a w => Try.call117 a w) (fun w => by kernel_rfl) rfl (Eq.trans (by kernel_rfl) (congrArg (fun z => A.d (.lit z)) hi_r44_10_103))) <| Wz (.agg [(.y p0.Kind), (.i p0.N), (.u p0.Bits), (.s p0.Text)]) (Old rfl) ?_
    obtain ⟨p, l, hm⟩ := bnd hm; replace l := Option.some.inj l
    refine Wz (.b p) (Ocs (Eq.trans (lit_tf (by simp only [toS_inj])) (congrArg (fun z => A.d (.lit (.bool z))) l)) (op_neq_struct rfl (la := [(.y e.Kind), (.i e.N), (.u e.Bits), (.s e.Text)]) (lb := [(.y p0.Kind), (.i p0.N), (.u p0.Bits), (.s p0.Text)]) (us := [.int .u8 ((e.Kind.toNat : Nat) : Int), .int .i64 e.N, .int .u64 e.Bits, .string (toS e.Text)]) (vs := [.int .u8 ((p0.Kind.toNat : Nat) : Int), .int .i64 p0.N, .int .u64 p0.Bits, .string (toS p0.Text)]) (r := (decide (((e.Kind.toNat : Nat) : Int) = ((p0.Kind.toNat : Nat) : Int)) && (decide (e.N = p0.N) && (decide (e.Bits = p0.Bits) && (decide ((toS e.Text) = (toS p0.Text)) && true))))) (by kernel_rfl) (by kernel_rfl) (by kernel_rfl) (by kernel_rfl) (by kernel_rfl))) <| Wdr <| Tn ?_
    exact AWP.weak (Weak.toK 70368744177664 0 0 []) (J11 (p) hm)
  rcases br hm with ⟨c0, hm⟩ | ⟨c0, hm⟩
  · obtain ⟨h0, a1, hm⟩ := bnd hm
    obtain ⟨f, b1, hm⟩ := bnd hm
    have hi_r44_10_104 := inI_some c0 a1
    refine Wz (.agg [(.y f.Kind), (.i f.N), (.u f.Bits), (.s f.Text)]) (Oiv (t := 104) (u := .int .u64 h0) (ok_value_double_whole h0 f b1) (by simp [A.Plain, A.Plains, D.Plain, byteD]) (fun a w => Try.call118 a w) (fun w => by kernel_rfl) rfl (Eq.trans (by kernel_rfl) (congrArg (fun z => A.d (.lit z)) hi_r44_10_104))) <| Wz (.agg [(.y p0.Kind), (.i p0.N), (.u p0.Bits), (.s p0.Text)]) (Old rfl) ?_
    obtain ⟨p, l, hm⟩ := bnd hm; replace l := Option.some.inj l
    refine Wz (.b p) (Ocs (Eq.trans (lit_tf (by simp only [toS_inj])) (congrArg (fun z => A.d (.lit (.bool z))) l)) (op_neq_struct rfl (la := [(.y f.Kind), (.i f.N), (.u f.Bits), (.s f.Text)]) (lb := [(.y p0.Kind), (.i p0.N), (.u p0.Bits), (.s p0.Text)]) (us := [.int .u8 ((f.Kind.toNat : Nat) : Int), .int .i64 f.N, .int .u64 f.Bits, .string (toS f.Text)]) (vs := [.int .u8 ((p0.Kind.toNat : Nat) : Int), .int .i64 p0.N, .int .u64 p0.Bits, .string (toS p0.Text)]) (r := (decide (((f.Kind.toNat : Nat) : Int) = ((p0.Kind.toNat : Nat) : Int)) && (decide (f.N = p0.N) && (decide (f.Bits = p0.Bits) && (decide ((toS f.Text) = (toS p0.Text)) && true))))) (by kernel_rfl) (by kernel_rfl) (by kernel_rfl) (by kernel_rfl) (by kernel_rfl))) <| Wdr <| Tn ?_
    exact AWP.weak (Weak.toK 70368744177664 0 0 []) (J11 (p) hm)
  rcases br hm with ⟨d0, hm⟩ | ⟨d0, hm⟩
  · obtain ⟨i0, c1, hm⟩ := bnd hm
    obtain ⟨g, d1, hm⟩ := bnd hm
    have hi_r44_10_106 := inS_some d0 c1
    refine Wz (.agg [(.y g.Kind), (.i g.N), (.u g.Bits), (.s g.Text)]) (Oiv (t := 106) (u := .string (toS i0)) (ok_value_words_whole i0 g d1) (by simp [A.Plain, A.Plains, D.Plain, byteD]) (fun a w => Try.call119 a w) (fun w => by kernel_rfl) rfl (Eq.trans (by kernel_rfl) (congrArg (fun z => A.d (.lit z)) hi_r44_10_106))) <| Wz (.agg [(.y p0.Kind), (.i p0.N), (.u p0.Bits), (.s p0.Text)]) (Old rfl) ?_
    obtain ⟨p, l, hm⟩ := bnd hm; replace l := Option.some.inj l
    refine Wz (.b p) (Ocs (Eq.trans (lit_tf (by simp only [toS_inj])) (congrArg (fun z => A.d (.lit (.bool z))) l)) (op_neq_struct rfl (la := [(.y g.Kind), (.i g.N), (.u g.Bits), (.s g.Text)]) (lb := [(.y p0.Kind), (.i p0.N), (.u p0.Bits), (.s p0.Text)]) (us := [.int .u8 ((g.Kind.toNat : Nat) : Int), .int .i64 g.N, .int .u64 g.Bits, .string (toS g.Text)]) (vs := [.int .u8 ((p0.Kind.toNat : Nat) : Int), .int .i64 p0.N, .int .u64 p0.Bits, .string (toS p0.Text)]) (r := (decide (((g.Kind.toNat : Nat) : Int) = ((p0.Kind.toNat : Nat) : Int)) && (decide (g.N = p0.N) && (decide (g.Bits = p0.Bits) && (decide ((toS g.Text) = (toS p0.Text)) && true))))) (by kernel_rfl) (by kernel_rfl) (by kernel_rfl) (by kernel_rfl) (by kernel_rfl))) <| Wdr <| Tn ?_
    exact AWP.weak (Weak.toK 70368744177664 0 0 []) (J11 (p) hm)
  exact nomatch hm
 refine Sq <| Sx <| Wm (.d (.lit j)) rfl <| Nk 2058 1 ⟨tp 1 (.loc 0 0::tp 1 (.d (.lit j)::tp 7 (.d (.lit j)::tp 35 []))), [(.box [(.y p0.Kind), (.i p0.N), (.u p0.Bits), (.s p0.Text)])], 0⟩ <| Bk <| Sx ?_
 obtain ⟨m, f1, hm⟩ := bnd hm
 refine Wz (.tup [(.i m.1), (.b m.2)]) (OtI f1 rfl) <| Wz (.b m.2) (Oex rfl) <| Wz (.i m.1) (Oex rfl) <| Nk 26634 1 ⟨tp 1 (.loc 0 0::tp 1 (.d (.lit j)::tp 7 (.d (.lit j)::tp 1 (.b m.2::.i m.1::tp 32 [])))), [(.box [(.y p0.Kind), (.i p0.N), (.u p0.Bits), (.s p0.Text)])], 0⟩ ?_
 rcases br hm with ⟨k0, hm⟩ | ⟨k0, hm⟩
 · refine AiT k0 <| Sx <| Wm (.i m.1) rfl <| Nk 26 1 ⟨tp 1 (.loc 0 0::tp 1 (.d (.lit j)::.i m.1::tp 42 [])), [(.box [(.y p0.Kind), (.i p0.N), (.u p0.Bits), (.s p0.Text)])], 0⟩ <| Sx <| Wm (.i m.1) rfl <| Wz (.b (decide (m.1 < (-4611686018427387904)))) (Obn rfl (fun _ => hb_lss (k := .i64))) ?_
   rcases br hm with ⟨u0, hm⟩ | ⟨u0, hm⟩
   · refine Wz (.b true) (Oq u0 rfl) <| Wn <| Wn <| Wz (.b true) (OpT rfl) <| Nk 1048586 1 ⟨tp 1 (.loc 0 0::tp 1 (.d (.lit j)::tp 16 (.b true::tp 26 []))), [(.box [(.y p0.Kind), (.i p0.N), (.u p0.Bits), (.s p0.Text)])], 0⟩ <| AWP.if_ true (by kernel_rfl) <| Sx <| Wm (.i 8) rfl <| Nn <| Rt <| Ir <| Tr ?_
     obtain rfl := sj hm
     exact ret_i []
   refine Wz (.b false) (Oq u0 rfl) <| Wm (.i m.1) rfl <| Wz (.b (decide ((4611686018427387904 : Int) < m.1))) (Obn rfl (fun _ => hb_gtr (k := .i64))) <| Wz (.b (decide ((4611686018427387904 : Int) < m.1))) (OpF rfl) <| Nk 1048586 1 ⟨tp 1 (.loc 0 0::tp 1 (.d (.lit j)::tp 16 (.b (decide ((4611686018427387904 : Int) < m.1))::tp 26 []))), [(.box [(.y p0.Kind), (.i p0.N), (.u p0.Bits), (.s p0.Text)])], 0⟩ ?_
   rcases br hm with ⟨l0, hm⟩ | ⟨l0, hm⟩
   · refine AiT l0 <| Sx <| Wm (.i 8) rfl <| Nn <| Rt <| Ir <| Tr ?_
     obtain rfl := sj hm
     exact ret_i []
   refine AiF l0 <| Sk <| Ino <| Tn ?_
   exact AWP.weak (Weak.toK 10 0 0 [0]) (J9 () hm)
 refine AiF k0 <| Sx ?_
 obtain ⟨o, g1, hm⟩ := bnd hm
 refine Wz (.tup [(.i o.1), (.b o.2)]) (OtI g1 rfl) <| Wz (.b o.2) (Oex rfl) <| Wz (.i o.1) (Oex rfl) <| Nk 12584970 1 ⟨tp 1 (.loc 0 0::tp 1 (.d (.lit j)::tp 7 (.d (.lit j)::tp 10 (.b o.2::.i o.1::tp 23 [])))), [(.box [(.y p0.Kind), (.i p0.N), (.u p0.Bits), (.s p0.Text)])], 0⟩ ?_
 rcases br hm with ⟨m0, hm⟩ | ⟨m0, hm⟩
 · refine AiT m0 <| Sx <| Wm (.i o.1) rfl <| Nk 42 1 ⟨tp 1 (.loc 0 0::tp 1 (.d (.lit j)::tp 1 (.i o.1::tp 41 []))), [(.box [(.y p0.Kind), (.i p0.N), (.u p0.Bits), (.s p0.Text)])], 0⟩ <| Sx <| Wm (.i o.1) rfl <| Wz (.b (decide (o.1 ≠ 0))) (Obn rfl (fun _ => hb_neq (k := .i64))) ?_
   rcases br hm with ⟨v0, hm⟩ | ⟨v0, hm⟩
   · refine Wz (.b true) (Oq v0 rfl) <| Wm (.i o.1) rfl <| Wz (.b (decide (o.1 ≠ 1))) (Obn rfl (fun _ => hb_neq (k := .i64))) <| Wz (.b (decide (o.1 ≠ 1))) (OpT rfl) <| Nk 536870922 1 ⟨tp 1 (.loc 0 0::tp 1 (.d (.lit j)::tp 25 (.b (decide (o.1 ≠ 1))::tp 17 []))), [(.box [(.y p0.Kind), (.i p0.N), (.u p0.Bits), (.s p0.Text)])], 0⟩ ?_
     rcases br hm with ⟨n0, hm⟩ | ⟨n0, hm⟩
     · refine AiT n0 <| Sx <| Wm (.i 8) rfl <| Nn <| Rt <| Ir <| Tr ?_
       obtain rfl := sj hm
       exact ret_i []
     refine AiF n0 <| Sk <| Ino <| Tn ?_
     exact AWP.weak (Weak.toK 10 0 0 [0]) (J9 () hm)
   refine Wz (.b false) (Oq v0 rfl) <| Wn <| Wn <| Wz (.b false) (OpF rfl) <| Nk 536870922 1 ⟨tp 1 (.loc 0 0::tp 1 (.d (.lit j)::tp 25 (.b false::tp 17 []))), [(.box [(.y p0.Kind), (.i p0.N), (.u p0.Bits), (.s p0.Text)])], 0⟩ <| AWP.if_ false (by kernel_rfl) <| Sk <| Ino <| Tn ?_
   exact AWP.weak (Weak.toK 10 0 0 [0]) (J9 () hm)
 refine AiF m0 <| Sx ?_
 obtain ⟨q, h1, hm⟩ := bnd hm
 refine Wz (.tup [(.u q.1), (.b q.2)]) (OtI h1 rfl) <| Wz (.b q.2) (Oex rfl) <| Wz (.u q.1) (Oex rfl) <| Nk 6442453002 1 ⟨tp 1 (.loc 0 0::tp 1 (.d (.lit j)::tp 7 (.d (.lit j)::tp 19 (.b q.2::.u q.1::tp 14 [])))), [(.box [(.y p0.Kind), (.i p0.N), (.u p0.Bits), (.s p0.Text)])], 0⟩ ?_
 rcases br hm with ⟨o0, hm⟩ | ⟨o0, hm⟩
 · refine AiT o0 <| Sx <| Wm (.u q.1) rfl <| Nk 74 1 ⟨tp 1 (.loc 0 0::tp 1 (.d (.lit j)::tp 2 (.u q.1::tp 40 []))), [(.box [(.y p0.Kind), (.i p0.N), (.u p0.Bits), (.s p0.Text)])], 0⟩ <| Sx <| Wm (.u q.1) rfl ?_
   obtain ⟨t0, i1, hm⟩ := bnd hm
   refine Wz (.u t0) (Ocf [] [] [] 0 (ok_real_Clean q.1 t0 i1) (fun a w => Try.call75 a w) rfl trivial) <| Wm (.u q.1) rfl <| Wz (.b (decide (t0 ≠ q.1))) (Obn rfl (fun _ => hb_neq (k := .u64))) <| Nk 68719476746 1 ⟨tp 1 (.loc 0 0::tp 1 (.d (.lit j)::tp 32 (.b (decide (t0 ≠ q.1))::tp 10 []))), [(.box [(.y p0.Kind), (.i p0.N), (.u p0.Bits), (.s p0.Text)])], 0⟩ ?_
   rcases br hm with ⟨q0, hm⟩ | ⟨q0, hm⟩
   · refine AiT q0 <| Sx <| Wm (.i 4) rfl <| Nn <| Rt <| Ir <| Tr ?_
     obtain rfl := sj hm
     exact ret_i []
   refine AiF q0 <| Sk <| Ino <| Tn ?_
   exact AWP.weak (Weak.toK 10 0 0 [0]) (J9 () hm)
 refine AiF o0 <| Sx ?_
 obtain ⟨v, j1, hm⟩ := bnd hm
 refine Wz (.tup [(.s v.1), (.b v.2)]) (OtS j1 rfl) <| Wz (.b v.2) (Oex rfl) <| Wz (.s v.1) (Oex rfl) <| Nk 824633722890 1 ⟨tp 1 (.loc 0 0::tp 1 (.d (.lit j)::tp 7 (.d (.lit j)::tp 26 (.b v.2::.s v.1::tp 7 [])))), [(.box [(.y p0.Kind), (.i p0.N), (.u p0.Bits), (.s p0.Text)])], 0⟩ ?_
 rcases br hm with ⟨r0, hm⟩ | ⟨r0, hm⟩
 · refine AiT r0 <| Sx <| Wm (.s v.1) rfl <| Nk 138 1 ⟨tp 1 (.loc 0 0::tp 1 (.d (.lit j)::tp 3 (.s v.1::tp 39 []))), [(.box [(.y p0.Kind), (.i p0.N), (.u p0.Bits), (.s p0.Text)])], 0⟩ <| Sx <| Wm (.s v.1) rfl <| Wz (.i ((List.length v.1 : Nat) : Int)) (Oln rfl) <| Wz (.b (decide ((24 : Int) < ((List.length v.1 : Nat) : Int)))) (Obn rfl (fun _ => hb_gtr (k := .i64))) <| Nk 4398046511114 1 ⟨tp 1 (.loc 0 0::tp 1 (.d (.lit j)::tp 38 (.b (decide ((24 : Int) < ((List.length v.1 : Nat) : Int)))::tp 4 []))), [(.box [(.y p0.Kind), (.i p0.N), (.u p0.Bits), (.s p0.Text)])], 0⟩ ?_
   rcases br hm with ⟨s0, hm⟩ | ⟨s0, hm⟩
   · refine AiT s0 <| Sx <| Wm (.i 5) rfl <| Nn <| Rt <| Ir <| Tr ?_
     obtain rfl := sj hm
     exact ret_i []
   refine AiF s0 <| Sk <| Ino <| Tn ?_
   exact AWP.weak (Weak.toK 10 0 0 [0]) (J9 () hm)
 refine AiF r0 <| Sx <| Wm (.d (.lit j)) rfl <| Nk 0 0 ⟨tp 47 [], [.gone], 0⟩ <| Sx <| Wm (.i 11) rfl <| Nn <| Rt <| Ir <| Tr ?_
 obtain rfl := sj hm
 exact ret_i []

theorem ok_pred_Node_lacks (p0 : GNode_) (r : Bool) (h : m_pred_Node_lacks p0 = some r) : GCall Try.prog 84 [(.agg [(.y p0.Kind), (.y p0.Op), (.s p0.Var), (.s p0.Name), (.y p0.Val.Kind), (.i p0.Val.N), (.u p0.Val.Bits), (.s p0.Val.Text)])] [] (.b r) [] := by
 refine GCall.of_body (n := 35) (rs := [(.tmp 2)]) Try.func84 rfl rfl rfl <| Ato ⟨.agg [(.y p0.Kind), (.y p0.Op), (.s p0.Var), (.s p0.Name), (.y p0.Val.Kind), (.i p0.Val.N), (.u p0.Val.Bits), (.s p0.Val.Text)]::tu 34 [], [], 0⟩ ?_
 have hm := h
 unfold m_pred_Node_lacks at hm
 refine Sx <| Wy (.loc 0 0) [(0, (.box [(.y p0.Kind), (.y p0.Op), (.s p0.Var), (.s p0.Name), (.y p0.Val.Kind), (.i p0.Val.N), (.u p0.Val.Bits), (.s p0.Val.Text)]))] (Obx rfl) <| Wm (.b false) rfl <| Nk 2 1 ⟨tp 1 (.loc 0 0::tp 33 []), [(.box [(.y p0.Kind), (.y p0.Op), (.s p0.Var), (.s p0.Name), (.y p0.Val.Kind), (.i p0.Val.N), (.u p0.Val.Bits), (.s p0.Val.Text)])], 0⟩ <| Sq <| Sx <| Wz (.loc 0 0) (Ofa rfl) <| Wz (.y p0.Kind) (Old rfl) <| Nk 18 1 ⟨tp 1 (.loc 0 0::tp 2 (.y p0.Kind::tp 30 [])), [(.box [(.y p0.Kind), (.y p0.Op), (.s p0.Var), (.s p0.Name), (.y p0.Val.Kind), (.i p0.Val.N), (.u p0.Val.Bits), (.s p0.Val.Text)])], 0⟩ <| Bk <| Sx <| Wz (.b (decide (((p0.Kind.toNat : Nat) : Int) = 4))) (Ob2 (.int .u8 ((p0.Kind.toNat : Nat) : Int)) (.int .u8 4) rfl (fun _ => hb_eql)) <| Wm (.b (decide (((p0.Kind.toNat : Nat) : Int) = 4))) rfl <| Nk 50 1 ⟨tp 1 (.loc 0 0::tp 2 (.y p0.Kind::.b (decide (((p0.Kind.toNat : Nat) : Int) = 4))::tp 29 [])), [(.box [(.y p0.Kind), (.y p0.Op), (.s p0.Var), (.s p0.Name), (.y p0.Val.Kind), (.i p0.Val.N), (.u p0.Val.Bits), (.s p0.Val.Text)])], 0⟩ ?_
 rcases br hm with ⟨p, hm⟩ | ⟨p, hm⟩
 · refine AiT p <| Sx <| Wz (.loc 0 1) (Ofa rfl) <| Wz (.y p0.Op) (Old rfl) ?_
   obtain ⟨g, a0, hm⟩ := bnd hm
   refine Wz (.s g) (Ocf [] [] [] 0 (ok_compare_Sign p0.Op g a0) (fun a w => Try.call73 a w) rfl trivial) <| Wz (.b (decide (g = ([] : List UInt8)))) (Ocs (lit_tf (by simp only [toS_inj, ne_eq])) (op_bin rfl (a1 := .string (toS g)) (a2 := .string (toS ([] : List UInt8))) (by kernel_rfl) (by kernel_rfl) (fun _ => hb_seql))) <| Wm (.b (decide (g = ([] : List UInt8)))) rfl <| Nn <| Rt <| Ir <| Tr ?_
   obtain rfl := sj hm
   exact ret_i []
 refine AiF p <| Sx <| Wz (.b (decide (((p0.Kind.toNat : Nat) : Int) = 7))) (Ob2 (.int .u8 ((p0.Kind.toNat : Nat) : Int)) (.int .u8 7) rfl (fun _ => hb_eql)) <| Wm (.b (decide (((p0.Kind.toNat : Nat) : Int) = 7))) rfl <| Nk 2066 1 ⟨tp 1 (.loc 0 0::tp 2 (.y p0.Kind::tp 6 (.b (decide (((p0.Kind.toNat : Nat) : Int) = 7))::tp 23 []))), [(.box [(.y p0.Kind), (.y p0.Op), (.s p0.Var), (.s p0.Name), (.y p0.Val.Kind), (.i p0.Val.N), (.u p0.Val.Bits), (.s p0.Val.Text)])], 0⟩ ?_
 rcases br hm with ⟨j, hm⟩ | ⟨j, hm⟩
 · refine AiT j <| Sx <| Wz (.loc 0 3) (Ofa rfl) <| Wz (.s p0.Name) (Old rfl) ?_
   obtain ⟨d, q, hm⟩ := bnd hm
   refine Wz (.b d) (Ocf [] [] [] 0 (ok_schema_Name p0.Name d q) (fun a w => Try.call26 a w) rfl trivial) <| Wz (.b (!d)) (Ocs (by kernel_rfl) (op_un rfl (a1 := .bool d) (by kernel_rfl) (fun _ => hu_not))) <| Wm (.b (!d)) rfl <| Nn <| Rt <| Ir <| Tr ?_
   obtain rfl := sj hm
   exact ret_i []
 refine AiF j <| Sx <| Wz (.b (decide (((p0.Kind.toNat : Nat) : Int) = 8))) (Ob2 (.int .u8 ((p0.Kind.toNat : Nat) : Int)) (.int .u8 8) rfl (fun _ => hb_eql)) <| Wm (.b (decide (((p0.Kind.toNat : Nat) : Int) = 8))) rfl <| Nk 131090 1 ⟨tp 1 (.loc 0 0::tp 2 (.y p0.Kind::tp 12 (.b (decide (((p0.Kind.toNat : Nat) : Int) = 8))::tp 17 []))), [(.box [(.y p0.Kind), (.y p0.Op), (.s p0.Var), (.s p0.Name), (.y p0.Val.Kind), (.i p0.Val.N), (.u p0.Val.Bits), (.s p0.Val.Text)])], 0⟩ ?_
 rcases br hm with ⟨l, hm⟩ | ⟨l, hm⟩
 · refine AiT l <| Sx <| Wz (.loc 0 3) (Ofa rfl) <| Wz (.s p0.Name) (Old rfl) ?_
   obtain ⟨e, t, hm⟩ := bnd hm
   refine Wz (.b e) (Ocf [] [] [] 0 (ok_schema_Name p0.Name e t) (fun a w => Try.call26 a w) rfl trivial) <| Wz (.b (!e)) (Ocs (by kernel_rfl) (op_un rfl (a1 := .bool e) (by kernel_rfl) (fun _ => hu_not))) ?_
   rcases br hm with ⟨m, hm⟩ | ⟨m, hm⟩
   · refine Wz (.b true) (Oq m rfl) <| Wn <| Wn <| Wn <| Wn <| Wz (.b true) (OpT rfl) <| Wm (.b true) rfl <| Nn <| Rt <| Ir <| Tr ?_
     obtain rfl := sj hm
     exact ret_i []
   refine Wz (.b false) (Oq m rfl) <| Wz (.loc 0 2) (Ofa rfl) <| Wz (.s p0.Var) (Old rfl) ?_
   obtain ⟨c, v, hm⟩ := bnd hm
   refine Wz (.b c) (Ocf [] [] [] 0 (ok_schema_Name p0.Var c v) (fun a w => Try.call26 a w) rfl trivial) <| Wz (.b (!c)) (Ocs (by kernel_rfl) (op_un rfl (a1 := .bool c) (by kernel_rfl) (fun _ => hu_not))) <| Wz (.b (!c)) (OpF rfl) <| Wm (.b (!c)) rfl <| Nn <| Rt <| Ir <| Tr ?_
   obtain rfl := sj hm
   exact ret_i []
 refine AiF l <| Sx <| Wz (.b (decide (((p0.Kind.toNat : Nat) : Int) = 9))) (Ob2 (.int .u8 ((p0.Kind.toNat : Nat) : Int)) (.int .u8 9) rfl (fun _ => hb_eql)) <| Wm (.b (decide (((p0.Kind.toNat : Nat) : Int) = 9))) rfl <| Nk 536870914 1 ⟨tp 1 (.loc 0 0::tp 27 (.b (decide (((p0.Kind.toNat : Nat) : Int) = 9))::tp 5 [])), [(.box [(.y p0.Kind), (.y p0.Op), (.s p0.Var), (.s p0.Name), (.y p0.Val.Kind), (.i p0.Val.N), (.u p0.Val.Bits), (.s p0.Val.Text)])], 0⟩ ?_
 rcases br hm with ⟨o, hm⟩ | ⟨o, hm⟩
 · refine AiT o <| Sx <| Wz (.loc 0 4) (Ofa rfl) <| Wz (.agg [(.y p0.Val.Kind), (.i p0.Val.N), (.u p0.Val.Bits), (.s p0.Val.Text)]) (Old rfl) ?_
   obtain ⟨f, z, hm⟩ := bnd hm
   refine Wz (.i f) (Ocf [] [] [] 0 (ok_value_Check p0.Val f z) (fun a w => Try.call61 a w) rfl trivial) <| Wz (.b (decide (f ≠ 0))) (Obn rfl (fun _ => hb_neq (k := .i64))) <| Wm (.b (decide (f ≠ 0))) rfl <| Nn <| Rt <| Ir <| Tr ?_
   obtain rfl := sj hm
   exact ret_i []
 refine AiF o <| Sk <| Ino <| Tk 0 0 ⟨tp 35 [], [.gone], 0⟩ <| Sx <| Wm (.b false) rfl <| Nn <| Rt ?_
 obtain rfl := sj hm
 exact ret_i []

theorem ok_pred_is__pred_Node_lacks (p0 : GNode_) (p2 : Int) (r : Int) (h : m_pred_is__pred_Node_lacks p0 p2 = some r) : GCall Try.prog 83 [(.agg [(.y p0.Kind), (.y p0.Op), (.s p0.Var), (.s p0.Name), (.y p0.Val.Kind), (.i p0.Val.N), (.u p0.Val.Bits), (.s p0.Val.Text)]), (.clo (.func 84) [] []), (.i p2)] [] (.i r) [] := by
 refine GCall.of_body (n := 11) (rs := [(.tmp 6)]) Try.func83 rfl rfl rfl <| Ato ⟨.agg [(.y p0.Kind), (.y p0.Op), (.s p0.Var), (.s p0.Name), (.y p0.Val.Kind), (.i p0.Val.N), (.u p0.Val.Bits), (.s p0.Val.Text)]::.clo (.func 84) [] []::.i p2::tu 8 [], [], 0⟩ ?_
 have hm := h
 unfold m_pred_is__pred_Node_lacks at hm
 refine Sx <| Wy (.loc 0 0) [(0, (.box [(.y p0.Kind), (.y p0.Op), (.s p0.Var), (.s p0.Name), (.y p0.Val.Kind), (.i p0.Val.N), (.u p0.Val.Bits), (.s p0.Val.Text)]))] (Obx rfl) <| Wm (.i 0) rfl <| Nk 14 1 ⟨tp 1 (.clo (.func 84) [] []::.i p2::.loc 0 0::tp 7 []), [(.box [(.y p0.Kind), (.y p0.Op), (.s p0.Var), (.s p0.Name), (.y p0.Val.Kind), (.i p0.Val.N), (.u p0.Val.Bits), (.s p0.Val.Text)])], 0⟩ <| Sq <| Sx <| Wm (.clo (.func 84) [] []) rfl <| Wz (.agg [(.y p0.Kind), (.y p0.Op), (.s p0.Var), (.s p0.Name), (.y p0.Val.Kind), (.i p0.Val.N), (.u p0.Val.Bits), (.s p0.Val.Text)]) (Old rfl) ?_
 obtain ⟨d, e, hm⟩ := bnd hm
 refine Wz (.b d) (Ocf [] [] [] 0 (ok_pred_Node_lacks p0 d e) (fun a w => Try.call84 a w) rfl trivial) <| Nk 516 0 ⟨tp 2 (.i p2::tp 6 (.b d::tp 1 [])), [.gone], 0⟩ ?_
 rcases br hm with ⟨c, hm⟩ | ⟨c, hm⟩
 · refine AiT c <| Sx <| Wm (.i p2) rfl <| Wm (.i p2) rfl <| Nn <| Rt <| Tr ?_
   obtain rfl := sj hm
   exact ret_i []
 refine AiF c <| Sk <| Tk 0 0 ⟨tp 11 [], [.gone], 0⟩ <| Sx <| Wm (.i 0) rfl <| Nn <| Rt ?_
 obtain rfl := sj hm
 exact ret_i []

theorem ok_pred_Node_more (p0 : GNode_) (r : Bool) (h : m_pred_Node_more p0 = some r) : GCall Try.prog 85 [(.agg [(.y p0.Kind), (.y p0.Op), (.s p0.Var), (.s p0.Name), (.y p0.Val.Kind), (.i p0.Val.N), (.u p0.Val.Bits), (.s p0.Val.Text)])] [] (.b r) [] := by
 refine GCall.of_body (n := 35) (rs := [(.tmp 2)]) Try.func85 rfl rfl rfl <| Ato ⟨.agg [(.y p0.Kind), (.y p0.Op), (.s p0.Var), (.s p0.Name), (.y p0.Val.Kind), (.i p0.Val.N), (.u p0.Val.Bits), (.s p0.Val.Text)]::tu 34 [], [], 0⟩ ?_
 have hm := h
 unfold m_pred_Node_more at hm
 refine Sx <| Wy (.loc 0 0) [(0, (.box [(.y p0.Kind), (.y p0.Op), (.s p0.Var), (.s p0.Name), (.y p0.Val.Kind), (.i p0.Val.N), (.u p0.Val.Bits), (.s p0.Val.Text)]))] (Obx rfl) <| Wm (.b false) rfl <| Nk 2 1 ⟨tp 1 (.loc 0 0::tp 33 []), [(.box [(.y p0.Kind), (.y p0.Op), (.s p0.Var), (.s p0.Name), (.y p0.Val.Kind), (.i p0.Val.N), (.u p0.Val.Bits), (.s p0.Val.Text)])], 0⟩ <| Sx <| Wz (.loc 0 0) (Ofa rfl) <| Wz (.y p0.Kind) (Old rfl) <| Wz (.agg [(.y p0.Kind), (.y 0), (.s ([] : List UInt8)), (.s ([] : List UInt8)), (.y 0), (.i 0), (.u 0), (.s ([] : List UInt8))]) (Obd rfl) <| Wy (.loc 1 0) [(1, (.box [(.y 0), (.y 0), (.s ([] : List UInt8)), (.s ([] : List UInt8)), (.y 0), (.i 0), (.u 0), (.s ([] : List UInt8))]))] (Oal rfl) <| Wy (.tup []) [(1, (.box [(.y p0.Kind), (.y 0), (.s ([] : List UInt8)), (.s ([] : List UInt8)), (.y 0), (.i 0), (.u 0), (.s ([] : List UInt8))]))] (Ost rfl) <| Nk 10 3 ⟨tp 1 (.loc 0 0::tp 1 (.loc 1 0::tp 31 [])), [(.box [(.y p0.Kind), (.y p0.Op), (.s p0.Var), (.s p0.Name), (.y p0.Val.Kind), (.i p0.Val.N), (.u p0.Val.Bits), (.s p0.Val.Text)]), (.box [(.y p0.Kind), (.y 0), (.s ([] : List UInt8)), (.s ([] : List UInt8)), (.y 0), (.i 0), (.u 0), (.s ([] : List UInt8))])], 0⟩ <| Sq <| Sx <| Wz (.loc 0 0) (Ofa rfl) ?_
 refine Wz (.y p0.Kind) (Old rfl) <| Nk 266 3 ⟨tp 1 (.loc 0 0::tp 1 (.loc 1 0::tp 4 (.y p0.Kind::tp 26 []))), [(.box [(.y p0.Kind), (.y p0.Op), (.s p0.Var), (.s p0.Name), (.y p0.Val.Kind), (.i p0.Val.N), (.u p0.Val.Bits), (.s p0.Val.Text)]), (.box [(.y p0.Kind), (.y 0), (.s ([] : List UInt8)), (.s ([] : List UInt8)), (.y 0), (.i 0), (.u 0), (.s ([] : List UInt8))])], 0⟩ <| Bk <| Sx <| Wz (.b (decide (((p0.Kind.toNat : Nat) : Int) = 4))) (Ob2 (.int .u8 ((p0.Kind.toNat : Nat) : Int)) (.int .u8 4) rfl (fun _ => hb_eql)) <| Wm (.b (decide (((p0.Kind.toNat : Nat) : Int) = 4))) rfl <| Nk 778 3 ⟨tp 1 (.loc 0 0::tp 1 (.loc 1 0::tp 4 (.y p0.Kind::.b (decide (((p0.Kind.toNat : Nat) : Int) = 4))::tp 25 []))), [(.box [(.y p0.Kind), (.y p0.Op), (.s p0.Var), (.s p0.Name), (.y p0.Val.Kind), (.i p0.Val.N), (.u p0.Val.Bits), (.s p0.Val.Text)]), (.box [(.y p0.Kind), (.y 0), (.s ([] : List UInt8)), (.s ([] : List UInt8)), (.y 0), (.i 0), (.u 0), (.s ([] : List UInt8))])], 0⟩ ?_
 rcases br hm with ⟨o, hm⟩ | ⟨o, hm⟩
 · refine AiT o <| Tx <| Wz (.loc 0 1) (Ofa rfl) <| Wz (.y p0.Op) (Old rfl) <| Wz (.loc 1 1) (Ofa rfl) <| Wy (.tup []) [(1, (.box [(.y p0.Kind), (.y p0.Op), (.s ([] : List UInt8)), (.s ([] : List UInt8)), (.y 0), (.i 0), (.u 0), (.s ([] : List UInt8))]))] (Ost rfl) <| Wn0 <| Ino <| Tk 10 3 ⟨tp 1 (.loc 0 0::tp 1 (.loc 1 0::tp 31 [])), [(.box [(.y p0.Kind), (.y p0.Op), (.s p0.Var), (.s p0.Name), (.y p0.Val.Kind), (.i p0.Val.N), (.u p0.Val.Bits), (.s p0.Val.Text)]), (.box [(.y p0.Kind), (.y p0.Op), (.s ([] : List UInt8)), (.s ([] : List UInt8)), (.y 0), (.i 0), (.u 0), (.s ([] : List UInt8))])], 0⟩ <| Sx <| Wz (.agg [(.y p0.Kind), (.y p0.Op), (.s ([] : List UInt8)), (.s ([] : List UInt8)), (.y 0), (.i 0), (.u 0), (.s ([] : List UInt8))]) (Old rfl) <| Wz (.agg [(.y p0.Kind), (.y p0.Op), (.s p0.Var), (.s p0.Name), (.y p0.Val.Kind), (.i p0.Val.N), (.u p0.Val.Bits), (.s p0.Val.Text)]) (Old rfl) ?_
   obtain ⟨p, c, hm⟩ := bnd hm; replace c := Option.some.inj c
   refine Wz (.b p) (Ocs (Eq.trans (lit_tf (by simp only [toS_inj])) (congrArg (fun z => A.d (.lit (.bool z))) c)) (op_neq_deep rfl (la := [(.y p0.Kind), (.y p0.Op), (.s ([] : List UInt8)), (.s ([] : List UInt8)), (.y 0), (.i 0), (.u 0), (.s ([] : List UInt8))]) (lb := [(.y p0.Kind), (.y p0.Op), (.s p0.Var), (.s p0.Name), (.y p0.Val.Kind), (.i p0.Val.N), (.u p0.Val.Bits), (.s p0.Val.Text)]) (us := [.int .u8 ((p0.Kind.toNat : Nat) : Int), .int .u8 ((p0.Op.toNat : Nat) : Int), .string (toS ([] : List UInt8)), .string (toS ([] : List UInt8)), .int .u8 0, .int .i64 0, .int .u64 0, .string (toS ([] : List UInt8))]) (vs := [.int .u8 ((p0.Kind.toNat : Nat) : Int), .int .u8 ((p0.Op.toNat : Nat) : Int), .string (toS p0.Var), .string (toS p0.Name), .int .u8 ((p0.Val.Kind.toNat : Nat) : Int), .int .i64 p0.Val.N, .int .u64 p0.Val.Bits, .string (toS p0.Val.Text)]) (r := (decide (((p0.Kind.toNat : Nat) : Int) = ((p0.Kind.toNat : Nat) : Int)) && (decide (((p0.Op.toNat : Nat) : Int) = ((p0.Op.toNat : Nat) : Int)) && (decide ((toS ([] : List UInt8)) = (toS p0.Var)) && (decide ((toS ([] : List UInt8)) = (toS p0.Name)) && ((decide (0 = ((p0.Val.Kind.toNat : Nat) : Int)) && (decide (0 = p0.Val.N) && (decide (0 = p0.Val.Bits) && (decide ((toS ([] : List UInt8)) = (toS p0.Val.Text)) && true)))) && true)))))) (by kernel_rfl) (by kernel_rfl) (by kernel_rfl) (by kernel_rfl) (by kernel_rfl) (by kernel_rfl))) <| Wm (.b p) rfl <| Nn <| Rt ?_
   obtain rfl := sj hm
   exact ret_i []
 refine AiF o <| Sx <| Wz (.b (decide (((p0.Kind.toNat : Nat) : Int) = 7))) (Ob2 (.int .u8 ((p0.Kind.toNat : Nat) : Int)) (.int .u8 7) rfl (fun _ => hb_eql)) <| Wm (.b (decide (((p0.Kind.toNat : Nat) : Int) = 7))) rfl <| Nk 16650 3 ⟨tp 1 (.loc 0 0::tp 1 (.loc 1 0::tp 4 (.y p0.Kind::tp 5 (.b (decide (((p0.Kind.toNat : Nat) : Int) = 7))::tp 20 [])))), [(.box [(.y p0.Kind), (.y p0.Op), (.s p0.Var), (.s p0.Name), (.y p0.Val.Kind), (.i p0.Val.N), (.u p0.Val.Bits), (.s p0.Val.Text)]), (.box [(.y p0.Kind), (.y 0), (.s ([] : List UInt8)), (.s ([] : List UInt8)), (.y 0), (.i 0), (.u 0), (.s ([] : List UInt8))])], 0⟩ ?_
 rcases br hm with ⟨e, hm⟩ | ⟨e, hm⟩
 · refine AiT e <| Tx <| Wz (.loc 0 3) (Ofa rfl) <| Wz (.s p0.Name) (Old rfl) <| Wz (.loc 1 3) (Ofa rfl) <| Wy (.tup []) [(1, (.box [(.y p0.Kind), (.y 0), (.s ([] : List UInt8)), (.s p0.Name), (.y 0), (.i 0), (.u 0), (.s ([] : List UInt8))]))] (Ost rfl) <| Wn0 <| Ino <| Tk 10 3 ⟨tp 1 (.loc 0 0::tp 1 (.loc 1 0::tp 31 [])), [(.box [(.y p0.Kind), (.y p0.Op), (.s p0.Var), (.s p0.Name), (.y p0.Val.Kind), (.i p0.Val.N), (.u p0.Val.Bits), (.s p0.Val.Text)]), (.box [(.y p0.Kind), (.y 0), (.s ([] : List UInt8)), (.s p0.Name), (.y 0), (.i 0), (.u 0), (.s ([] : List UInt8))])], 0⟩ <| Sx <| Wz (.agg [(.y p0.Kind), (.y 0), (.s ([] : List UInt8)), (.s p0.Name), (.y 0), (.i 0), (.u 0), (.s ([] : List UInt8))]) (Old rfl) <| Wz (.agg [(.y p0.Kind), (.y p0.Op), (.s p0.Var), (.s p0.Name), (.y p0.Val.Kind), (.i p0.Val.N), (.u p0.Val.Bits), (.s p0.Val.Text)]) (Old rfl) ?_
   obtain ⟨q, f, hm⟩ := bnd hm; replace f := Option.some.inj f
   refine Wz (.b q) (Ocs (Eq.trans (lit_tf (by simp only [toS_inj])) (congrArg (fun z => A.d (.lit (.bool z))) f)) (op_neq_deep rfl (la := [(.y p0.Kind), (.y 0), (.s ([] : List UInt8)), (.s p0.Name), (.y 0), (.i 0), (.u 0), (.s ([] : List UInt8))]) (lb := [(.y p0.Kind), (.y p0.Op), (.s p0.Var), (.s p0.Name), (.y p0.Val.Kind), (.i p0.Val.N), (.u p0.Val.Bits), (.s p0.Val.Text)]) (us := [.int .u8 ((p0.Kind.toNat : Nat) : Int), .int .u8 0, .string (toS ([] : List UInt8)), .string (toS p0.Name), .int .u8 0, .int .i64 0, .int .u64 0, .string (toS ([] : List UInt8))]) (vs := [.int .u8 ((p0.Kind.toNat : Nat) : Int), .int .u8 ((p0.Op.toNat : Nat) : Int), .string (toS p0.Var), .string (toS p0.Name), .int .u8 ((p0.Val.Kind.toNat : Nat) : Int), .int .i64 p0.Val.N, .int .u64 p0.Val.Bits, .string (toS p0.Val.Text)]) (r := (decide (((p0.Kind.toNat : Nat) : Int) = ((p0.Kind.toNat : Nat) : Int)) && (decide (0 = ((p0.Op.toNat : Nat) : Int)) && (decide ((toS ([] : List UInt8)) = (toS p0.Var)) && (decide ((toS p0.Name) = (toS p0.Name)) && ((decide (0 = ((p0.Val.Kind.toNat : Nat) : Int)) && (decide (0 = p0.Val.N) && (decide (0 = p0.Val.Bits) && (decide ((toS ([] : List UInt8)) = (toS p0.Val.Text)) && true)))) && true)))))) (by kernel_rfl) (by kernel_rfl) (by kernel_rfl) (by kernel_rfl) (by kernel_rfl) (by kernel_rfl))) <| Wm (.b q) rfl <| Nn <| Rt ?_
   obtain rfl := sj hm
   exact ret_i []
 refine AiF e <| Sx <| Wz (.b (decide (((p0.Kind.toNat : Nat) : Int) = 8))) (Ob2 (.int .u8 ((p0.Kind.toNat : Nat) : Int)) (.int .u8 8) rfl (fun _ => hb_eql)) <| Wm (.b (decide (((p0.Kind.toNat : Nat) : Int) = 8))) rfl <| Nk 524554 3 ⟨tp 1 (.loc 0 0::tp 1 (.loc 1 0::tp 4 (.y p0.Kind::tp 10 (.b (decide (((p0.Kind.toNat : Nat) : Int) = 8))::tp 15 [])))), [(.box [(.y p0.Kind), (.y p0.Op), (.s p0.Var), (.s p0.Name), (.y p0.Val.Kind), (.i p0.Val.N), (.u p0.Val.Bits), (.s p0.Val.Text)]), (.box [(.y p0.Kind), (.y 0), (.s ([] : List UInt8)), (.s ([] : List UInt8)), (.y 0), (.i 0), (.u 0), (.s ([] : List UInt8))])], 0⟩ ?_
 rcases br hm with ⟨g, hm⟩ | ⟨g, hm⟩
 · refine AiT g <| Adr <| Wz (.loc 0 2) (Ofa rfl) <| Wz (.s p0.Var) (Old rfl) <| Wz (.loc 0 3) (Ofa rfl) <| Wz (.s p0.Name) (Old rfl) <| Wz (.loc 1 2) (Ofa rfl) <| Wy (.tup []) [(1, (.box [(.y p0.Kind), (.y 0), (.s p0.Var), (.s ([] : List UInt8)), (.y 0), (.i 0), (.u 0), (.s ([] : List UInt8))]))] (Ost rfl) <| Wz (.loc 1 3) (Ofa rfl) <| Wy (.tup []) [(1, (.box [(.y p0.Kind), (.y 0), (.s p0.Var), (.s p0.Name), (.y 0), (.i 0), (.u 0), (.s ([] : List UInt8))]))] (Ost rfl) <| Wdr <| Ino <| Tk 10 3 ⟨tp 1 (.loc 0 0::tp 1 (.loc 1 0::tp 31 [])), [(.box [(.y p0.Kind), (.y p0.Op), (.s p0.Var), (.s p0.Name), (.y p0.Val.Kind), (.i p0.Val.N), (.u p0.Val.Bits), (.s p0.Val.Text)]), (.box [(.y p0.Kind), (.y 0), (.s p0.Var), (.s p0.Name), (.y 0), (.i 0), (.u 0), (.s ([] : List UInt8))])], 0⟩ <| Sx ?_
   refine Wz (.agg [(.y p0.Kind), (.y 0), (.s p0.Var), (.s p0.Name), (.y 0), (.i 0), (.u 0), (.s ([] : List UInt8))]) (Old rfl) <| Wz (.agg [(.y p0.Kind), (.y p0.Op), (.s p0.Var), (.s p0.Name), (.y p0.Val.Kind), (.i p0.Val.N), (.u p0.Val.Bits), (.s p0.Val.Text)]) (Old rfl) ?_
   obtain ⟨t, j, hm⟩ := bnd hm; replace j := Option.some.inj j
   refine Wz (.b t) (Ocs (Eq.trans (lit_tf (by simp only [toS_inj])) (congrArg (fun z => A.d (.lit (.bool z))) j)) (op_neq_deep rfl (la := [(.y p0.Kind), (.y 0), (.s p0.Var), (.s p0.Name), (.y 0), (.i 0), (.u 0), (.s ([] : List UInt8))]) (lb := [(.y p0.Kind), (.y p0.Op), (.s p0.Var), (.s p0.Name), (.y p0.Val.Kind), (.i p0.Val.N), (.u p0.Val.Bits), (.s p0.Val.Text)]) (us := [.int .u8 ((p0.Kind.toNat : Nat) : Int), .int .u8 0, .string (toS p0.Var), .string (toS p0.Name), .int .u8 0, .int .i64 0, .int .u64 0, .string (toS ([] : List UInt8))]) (vs := [.int .u8 ((p0.Kind.toNat : Nat) : Int), .int .u8 ((p0.Op.toNat : Nat) : Int), .string (toS p0.Var), .string (toS p0.Name), .int .u8 ((p0.Val.Kind.toNat : Nat) : Int), .int .i64 p0.Val.N, .int .u64 p0.Val.Bits, .string (toS p0.Val.Text)]) (r := (decide (((p0.Kind.toNat : Nat) : Int) = ((p0.Kind.toNat : Nat) : Int)) && (decide (0 = ((p0.Op.toNat : Nat) : Int)) && (decide ((toS p0.Var) = (toS p0.Var)) && (decide ((toS p0.Name) = (toS p0.Name)) && ((decide (0 = ((p0.Val.Kind.toNat : Nat) : Int)) && (decide (0 = p0.Val.N) && (decide (0 = p0.Val.Bits) && (decide ((toS ([] : List UInt8)) = (toS p0.Val.Text)) && true)))) && true)))))) (by kernel_rfl) (by kernel_rfl) (by kernel_rfl) (by kernel_rfl) (by kernel_rfl) (by kernel_rfl))) <| Wm (.b t) rfl <| Nn <| Rt ?_
   obtain rfl := sj hm
   exact ret_i []
 refine AiF g <| Sx <| Wz (.b (decide (((p0.Kind.toNat : Nat) : Int) = 9))) (Ob2 (.int .u8 ((p0.Kind.toNat : Nat) : Int)) (.int .u8 9) rfl (fun _ => hb_eql)) <| Wm (.b (decide (((p0.Kind.toNat : Nat) : Int) = 9))) rfl <| Nk 134217738 3 ⟨tp 1 (.loc 0 0::tp 1 (.loc 1 0::tp 23 (.b (decide (((p0.Kind.toNat : Nat) : Int) = 9))::tp 7 []))), [(.box [(.y p0.Kind), (.y p0.Op), (.s p0.Var), (.s p0.Name), (.y p0.Val.Kind), (.i p0.Val.N), (.u p0.Val.Bits), (.s p0.Val.Text)]), (.box [(.y p0.Kind), (.y 0), (.s ([] : List UInt8)), (.s ([] : List UInt8)), (.y 0), (.i 0), (.u 0), (.s ([] : List UInt8))])], 0⟩ ?_
 rcases br hm with ⟨k, hm⟩ | ⟨k, hm⟩
 · refine AiT k <| Tx <| Wz (.loc 0 4) (Ofa rfl) <| Wz (.agg [(.y p0.Val.Kind), (.i p0.Val.N), (.u p0.Val.Bits), (.s p0.Val.Text)]) (Old rfl) <| Wz (.loc 1 4) (Ofa rfl) <| Wy (.tup []) [(1, (.box [(.y p0.Kind), (.y 0), (.s ([] : List UInt8)), (.s ([] : List UInt8)), (.y p0.Val.Kind), (.i p0.Val.N), (.u p0.Val.Bits), (.s p0.Val.Text)]))] (Ost rfl) <| Wn0 <| Ino <| Tk 10 3 ⟨tp 1 (.loc 0 0::tp 1 (.loc 1 0::tp 31 [])), [(.box [(.y p0.Kind), (.y p0.Op), (.s p0.Var), (.s p0.Name), (.y p0.Val.Kind), (.i p0.Val.N), (.u p0.Val.Bits), (.s p0.Val.Text)]), (.box [(.y p0.Kind), (.y 0), (.s ([] : List UInt8)), (.s ([] : List UInt8)), (.y p0.Val.Kind), (.i p0.Val.N), (.u p0.Val.Bits), (.s p0.Val.Text)])], 0⟩ <| Sx <| Wz (.agg [(.y p0.Kind), (.y 0), (.s ([] : List UInt8)), (.s ([] : List UInt8)), (.y p0.Val.Kind), (.i p0.Val.N), (.u p0.Val.Bits), (.s p0.Val.Text)]) (Old rfl) <| Wz (.agg [(.y p0.Kind), (.y p0.Op), (.s p0.Var), (.s p0.Name), (.y p0.Val.Kind), (.i p0.Val.N), (.u p0.Val.Bits), (.s p0.Val.Text)]) (Old rfl) ?_
   obtain ⟨v, l, hm⟩ := bnd hm; replace l := Option.some.inj l
   refine Wz (.b v) (Ocs (Eq.trans (lit_tf (by simp only [toS_inj])) (congrArg (fun z => A.d (.lit (.bool z))) l)) (op_neq_deep rfl (la := [(.y p0.Kind), (.y 0), (.s ([] : List UInt8)), (.s ([] : List UInt8)), (.y p0.Val.Kind), (.i p0.Val.N), (.u p0.Val.Bits), (.s p0.Val.Text)]) (lb := [(.y p0.Kind), (.y p0.Op), (.s p0.Var), (.s p0.Name), (.y p0.Val.Kind), (.i p0.Val.N), (.u p0.Val.Bits), (.s p0.Val.Text)]) (us := [.int .u8 ((p0.Kind.toNat : Nat) : Int), .int .u8 0, .string (toS ([] : List UInt8)), .string (toS ([] : List UInt8)), .int .u8 ((p0.Val.Kind.toNat : Nat) : Int), .int .i64 p0.Val.N, .int .u64 p0.Val.Bits, .string (toS p0.Val.Text)]) (vs := [.int .u8 ((p0.Kind.toNat : Nat) : Int), .int .u8 ((p0.Op.toNat : Nat) : Int), .string (toS p0.Var), .string (toS p0.Name), .int .u8 ((p0.Val.Kind.toNat : Nat) : Int), .int .i64 p0.Val.N, .int .u64 p0.Val.Bits, .string (toS p0.Val.Text)]) (r := (decide (((p0.Kind.toNat : Nat) : Int) = ((p0.Kind.toNat : Nat) : Int)) && (decide (0 = ((p0.Op.toNat : Nat) : Int)) && (decide ((toS ([] : List UInt8)) = (toS p0.Var)) && (decide ((toS ([] : List UInt8)) = (toS p0.Name)) && ((decide (((p0.Val.Kind.toNat : Nat) : Int) = ((p0.Val.Kind.toNat : Nat) : Int)) && (decide (p0.Val.N = p0.Val.N) && (decide (p0.Val.Bits = p0.Val.Bits) && (decide ((toS p0.Val.Text) = (toS p0.Val.Text)) && true)))) && true)))))) (by kernel_rfl) (by kernel_rfl) (by kernel_rfl) (by kernel_rfl) (by kernel_rfl) (by kernel_rfl))) <| Wm (.b v) rfl <| Nn <| Rt ?_
   obtain rfl := sj hm
   exact ret_i []
 refine AiF k <| Sk <| Ino <| Tk 10 3 ⟨tp 1 (.loc 0 0::tp 1 (.loc 1 0::tp 31 [])), [(.box [(.y p0.Kind), (.y p0.Op), (.s p0.Var), (.s p0.Name), (.y p0.Val.Kind), (.i p0.Val.N), (.u p0.Val.Bits), (.s p0.Val.Text)]), (.box [(.y p0.Kind), (.y 0), (.s ([] : List UInt8)), (.s ([] : List UInt8)), (.y 0), (.i 0), (.u 0), (.s ([] : List UInt8))])], 0⟩ <| Sx <| Wz (.agg [(.y p0.Kind), (.y 0), (.s ([] : List UInt8)), (.s ([] : List UInt8)), (.y 0), (.i 0), (.u 0), (.s ([] : List UInt8))]) (Old rfl) <| Wz (.agg [(.y p0.Kind), (.y p0.Op), (.s p0.Var), (.s p0.Name), (.y p0.Val.Kind), (.i p0.Val.N), (.u p0.Val.Bits), (.s p0.Val.Text)]) (Old rfl) ?_
 obtain ⟨w, m, hm⟩ := bnd hm; replace m := Option.some.inj m
 refine Wz (.b w) (Ocs (Eq.trans (lit_tf (by simp only [toS_inj])) (congrArg (fun z => A.d (.lit (.bool z))) m)) (op_neq_deep rfl (la := [(.y p0.Kind), (.y 0), (.s ([] : List UInt8)), (.s ([] : List UInt8)), (.y 0), (.i 0), (.u 0), (.s ([] : List UInt8))]) (lb := [(.y p0.Kind), (.y p0.Op), (.s p0.Var), (.s p0.Name), (.y p0.Val.Kind), (.i p0.Val.N), (.u p0.Val.Bits), (.s p0.Val.Text)]) (us := [.int .u8 ((p0.Kind.toNat : Nat) : Int), .int .u8 0, .string (toS ([] : List UInt8)), .string (toS ([] : List UInt8)), .int .u8 0, .int .i64 0, .int .u64 0, .string (toS ([] : List UInt8))]) (vs := [.int .u8 ((p0.Kind.toNat : Nat) : Int), .int .u8 ((p0.Op.toNat : Nat) : Int), .string (toS p0.Var), .string (toS p0.Name), .int .u8 ((p0.Val.Kind.toNat : Nat) : Int), .int .i64 p0.Val.N, .int .u64 p0.Val.Bits, .string (toS p0.Val.Text)]) (r := (decide (((p0.Kind.toNat : Nat) : Int) = ((p0.Kind.toNat : Nat) : Int)) && (decide (0 = ((p0.Op.toNat : Nat) : Int)) && (decide ((toS ([] : List UInt8)) = (toS p0.Var)) && (decide ((toS ([] : List UInt8)) = (toS p0.Name)) && ((decide (0 = ((p0.Val.Kind.toNat : Nat) : Int)) && (decide (0 = p0.Val.N) && (decide (0 = p0.Val.Bits) && (decide ((toS ([] : List UInt8)) = (toS p0.Val.Text)) && true)))) && true)))))) (by kernel_rfl) (by kernel_rfl) (by kernel_rfl) (by kernel_rfl) (by kernel_rfl) (by kernel_rfl))) <| Wm (.b w) rfl <| Nn <| Rt ?_
 obtain rfl := sj hm
 exact ret_i []

theorem ok_pred_is__pred_Node_more (p0 : GNode_) (p2 : Int) (r : Int) (h : m_pred_is__pred_Node_more p0 p2 = some r) : GCall Try.prog 83 [(.agg [(.y p0.Kind), (.y p0.Op), (.s p0.Var), (.s p0.Name), (.y p0.Val.Kind), (.i p0.Val.N), (.u p0.Val.Bits), (.s p0.Val.Text)]), (.clo (.func 85) [] []), (.i p2)] [] (.i r) [] := by
 refine GCall.of_body (n := 11) (rs := [(.tmp 6)]) Try.func83 rfl rfl rfl <| Ato ⟨.agg [(.y p0.Kind), (.y p0.Op), (.s p0.Var), (.s p0.Name), (.y p0.Val.Kind), (.i p0.Val.N), (.u p0.Val.Bits), (.s p0.Val.Text)]::.clo (.func 85) [] []::.i p2::tu 8 [], [], 0⟩ ?_
 have hm := h
 unfold m_pred_is__pred_Node_more at hm
 refine Sx <| Wy (.loc 0 0) [(0, (.box [(.y p0.Kind), (.y p0.Op), (.s p0.Var), (.s p0.Name), (.y p0.Val.Kind), (.i p0.Val.N), (.u p0.Val.Bits), (.s p0.Val.Text)]))] (Obx rfl) <| Wm (.i 0) rfl <| Nk 14 1 ⟨tp 1 (.clo (.func 85) [] []::.i p2::.loc 0 0::tp 7 []), [(.box [(.y p0.Kind), (.y p0.Op), (.s p0.Var), (.s p0.Name), (.y p0.Val.Kind), (.i p0.Val.N), (.u p0.Val.Bits), (.s p0.Val.Text)])], 0⟩ <| Sq <| Sx <| Wm (.clo (.func 85) [] []) rfl <| Wz (.agg [(.y p0.Kind), (.y p0.Op), (.s p0.Var), (.s p0.Name), (.y p0.Val.Kind), (.i p0.Val.N), (.u p0.Val.Bits), (.s p0.Val.Text)]) (Old rfl) ?_
 obtain ⟨d, e, hm⟩ := bnd hm
 refine Wz (.b d) (Ocf [] [] [] 0 (ok_pred_Node_more p0 d e) (fun a w => Try.call85 a w) rfl trivial) <| Nk 516 0 ⟨tp 2 (.i p2::tp 6 (.b d::tp 1 [])), [.gone], 0⟩ ?_
 rcases br hm with ⟨c, hm⟩ | ⟨c, hm⟩
 · refine AiT c <| Sx <| Wm (.i p2) rfl <| Wm (.i p2) rfl <| Nn <| Rt <| Tr ?_
   obtain rfl := sj hm
   exact ret_i []
 refine AiF c <| Sk <| Tk 0 0 ⟨tp 11 [], [.gone], 0⟩ <| Sx <| Wm (.i 0) rfl <| Nn <| Rt ?_
 obtain rfl := sj hm
 exact ret_i []

theorem ok_pred_Kids (p0 : UInt8) (r : Int) (h : m_pred_Kids p0 = some r) : GCall Try.prog 86 [(.y p0)] [] (.i r) [] := by
 refine GCall.of_body (n := 12) (rs := [(.tmp 2)]) Try.func86 rfl rfl rfl <| Ato ⟨.y p0::tu 11 [], [], 0⟩ ?_
 have hm := h
 unfold m_pred_Kids at hm
 refine Sx <| Wm (.i 0) rfl <| Nk 1 0 ⟨.y p0::tp 11 [], [], 0⟩ <| Sq <| Sx <| Wm (.y p0) rfl <| Nk 8 0 ⟨tp 3 (.y p0::tp 8 []), [], 0⟩ <| Bk ?_
 refine AWP.cutJ (α := Bool) (fun x => match x with | d => (⟨tp 3 (.y p0::.b d::tp 7 []), [], 0⟩ : St)) (fun x => match x with | d => m_pred_Kids_j0 p0 d = some r) ?_ (fun J0 => ?_)
 ·
  rintro d hm
  try dsimp only at hm ⊢
  unfold m_pred_Kids_j0 at hm
  rcases br hm with ⟨e, hm⟩ | ⟨e, hm⟩
  · refine AiT e <| Sx <| Wm (.i 2) rfl <| Nn <| Rt <| Ir <| Tr ?_
    obtain rfl := sj hm
    exact ret_i []
  refine AiF e <| Sx <| Wz (.b (decide (((p0.toNat : Nat) : Int) = 3))) (Ob2 (.int .u8 ((p0.toNat : Nat) : Int)) (.int .u8 3) rfl (fun _ => hb_eql)) <| Wm (.b (decide (((p0.toNat : Nat) : Int) = 3))) rfl <| Nk 1024 0 ⟨tp 10 (.b (decide (((p0.toNat : Nat) : Int) = 3))::tp 1 []), [], 0⟩ ?_
  rcases br hm with ⟨c, hm⟩ | ⟨c, hm⟩
  · refine AiT c <| Sx <| Wm (.i 1) rfl <| Nn <| Rt <| Ir <| Tr ?_
    obtain rfl := sj hm
    exact ret_i []
  refine AiF c <| Sk <| Ino <| Tk 0 0 ⟨tp 12 [], [], 0⟩ <| Sx <| Wm (.i 0) rfl <| Nn <| Rt ?_
  obtain rfl := sj hm
  exact ret_i []
 refine Sq <| Sx <| Wz (.b (decide (((p0.toNat : Nat) : Int) = 1))) (Ob2 (.int .u8 ((p0.toNat : Nat) : Int)) (.int .u8 1) rfl (fun _ => hb_eql)) <| Wm (.b (decide (((p0.toNat : Nat) : Int) = 1))) rfl <| Nk 24 0 ⟨tp 3 (.y p0::.b (decide (((p0.toNat : Nat) : Int) = 1))::tp 7 []), [], 0⟩ ?_
 rcases br hm with ⟨f, hm⟩ | ⟨f, hm⟩
 · refine AiT f <| Sk <| Tn ?_
   exact AWP.weak (Weak.toK 24 0 0 []) (J0 (decide (((p0.toNat : Nat) : Int) = 1)) hm)
 refine AiF f <| Sx <| Wz (.b (decide (((p0.toNat : Nat) : Int) = 2))) (Ob2 (.int .u8 ((p0.toNat : Nat) : Int)) (.int .u8 2) rfl (fun _ => hb_eql)) <| Wm (.b (decide (((p0.toNat : Nat) : Int) = 2))) rfl <| Nk 24 0 ⟨tp 3 (.y p0::.b (decide (((p0.toNat : Nat) : Int) = 2))::tp 7 []), [], 0⟩ ?_
 rcases br hm with ⟨g, hm⟩ | ⟨g, hm⟩
 · refine AiT g <| Sk <| Tn ?_
   exact AWP.weak (Weak.toK 24 0 0 []) (J0 (decide (((p0.toNat : Nat) : Int) = 2)) hm)
 refine AiF g <| Sx <| Wz (.b (decide (((p0.toNat : Nat) : Int) = 4))) (Ob2 (.int .u8 ((p0.toNat : Nat) : Int)) (.int .u8 4) rfl (fun _ => hb_eql)) <| Wm (.b (decide (((p0.toNat : Nat) : Int) = 4))) rfl <| Nk 24 0 ⟨tp 3 (.y p0::.b (decide (((p0.toNat : Nat) : Int) = 4))::tp 7 []), [], 0⟩ ?_
 rcases br hm with ⟨j, hm⟩ | ⟨j, hm⟩
 · refine AiT j <| Sk <| Tn ?_
   exact AWP.weak (Weak.toK 24 0 0 []) (J0 (decide (((p0.toNat : Nat) : Int) = 4)) hm)
 refine AiF j <| Sx <| Wz (.b (decide (((p0.toNat : Nat) : Int) = 5))) (Ob2 (.int .u8 ((p0.toNat : Nat) : Int)) (.int .u8 5) rfl (fun _ => hb_eql)) <| Wm (.b (decide (((p0.toNat : Nat) : Int) = 5))) rfl <| Nk 24 0 ⟨tp 3 (.y p0::.b (decide (((p0.toNat : Nat) : Int) = 5))::tp 7 []), [], 0⟩ ?_
 rcases br hm with ⟨k, hm⟩ | ⟨k, hm⟩
 · refine AiT k <| Sk <| Tn ?_
   exact AWP.weak (Weak.toK 24 0 0 []) (J0 (decide (((p0.toNat : Nat) : Int) = 5)) hm)
 refine AiF k <| Tx <| Wz (.b (decide (((p0.toNat : Nat) : Int) = 6))) (Ob2 (.int .u8 ((p0.toNat : Nat) : Int)) (.int .u8 6) rfl (fun _ => hb_eql)) <| Wm (.b (decide (((p0.toNat : Nat) : Int) = 6))) rfl <| Nn ?_
 exact AWP.weak (Weak.toK 24 0 0 []) (J0 (decide (((p0.toNat : Nat) : Int) = 6)) hm)

theorem ok_pred_Node_kid (p0 : GNode_) (p1 : Int) (r : Int) (h : m_pred_Node_kid p0 p1 = some r) : GCall Try.prog 87 [(.agg [(.y p0.Kind), (.y p0.Op), (.s p0.Var), (.s p0.Name), (.y p0.Val.Kind), (.i p0.Val.N), (.u p0.Val.Bits), (.s p0.Val.Text)]), (.i p1)] [] (.i r) [] := by
 refine GCall.of_body (n := 15) (rs := [(.tmp 4)]) Try.func87 rfl rfl rfl <| Ato ⟨.agg [(.y p0.Kind), (.y p0.Op), (.s p0.Var), (.s p0.Name), (.y p0.Val.Kind), (.i p0.Val.N), (.u p0.Val.Bits), (.s p0.Val.Text)]::.i p1::tu 13 [], [], 0⟩ ?_
 have hm := h
 unfold m_pred_Node_kid at hm
 refine Sx <| Wy (.loc 0 0) [(0, (.box [(.y p0.Kind), (.y p0.Op), (.s p0.Var), (.s p0.Name), (.y p0.Val.Kind), (.i p0.Val.N), (.u p0.Val.Bits), (.s p0.Val.Text)]))] (Obx rfl) <| Wm (.i 0) rfl <| Nk 6 1 ⟨tp 1 (.i p1::.loc 0 0::tp 12 []), [(.box [(.y p0.Kind), (.y p0.Op), (.s p0.Var), (.s p0.Name), (.y p0.Val.Kind), (.i p0.Val.N), (.u p0.Val.Bits), (.s p0.Val.Text)])], 0⟩ <| Sq <| Bk <| Sx <| Wz (.loc 0 0) (Ofa rfl) <| Wz (.y p0.Kind) (Old rfl) <| Wz (.b (decide (((p0.Kind.toNat : Nat) : Int) ≤ 3))) (Ob2 (.int .u8 ((p0.Kind.toNat : Nat) : Int)) (.int .u8 3) rfl (fun _ => hb_leq)) <| Wm (.b (decide (((p0.Kind.toNat : Nat) : Int) ≤ 3))) rfl <| Nk 38 1 ⟨tp 1 (.i p1::.loc 0 0::tp 2 (.b (decide (((p0.Kind.toNat : Nat) : Int) ≤ 3))::tp 9 [])), [(.box [(.y p0.Kind), (.y p0.Op), (.s p0.Var), (.s p0.Name), (.y p0.Val.Kind), (.i p0.Val.N), (.u p0.Val.Bits), (.s p0.Val.Text)])], 0⟩ ?_
 rcases br hm with ⟨c, hm⟩ | ⟨c, hm⟩
 · refine AiT c <| Sx <| Wm (.i 0) rfl <| Nn <| Rt <| Ir <| Tr ?_
   obtain rfl := sj hm
   exact ret_i []
 refine AiF c ?_
 refine AWP.cutJ (α := Bool) (fun x => match x with | d => (⟨tp 9 (.b d::tp 5 []), [], 0⟩ : St)) (fun x => match x with | d => m_pred_Node_kid_j0  d = some r) ?_ (fun J0 => ?_)
 ·
  rintro d hm
  try dsimp only at hm ⊢
  unfold m_pred_Node_kid_j0 at hm
  rcases br hm with ⟨e, hm⟩ | ⟨e, hm⟩
  · refine AiT e <| Sx <| Wm (.i 1) rfl <| Nn <| Rt <| Ir <| Tr ?_
    obtain rfl := sj hm
    exact ret_i []
  refine AiF e <| Sk <| Ino <| Tk 0 0 ⟨tp 15 [], [], 0⟩ <| Sx <| Wm (.i 2) rfl <| Nn <| Rt ?_
  obtain rfl := sj hm
  exact ret_i []
 refine Sq <| Sx <| Wz (.loc 0 0) (Ofa rfl) <| Wz (.y p0.Kind) (Old rfl) <| Wz (.b (decide (((p0.Kind.toNat : Nat) : Int) = 4))) (Ob2 (.int .u8 ((p0.Kind.toNat : Nat) : Int)) (.int .u8 4) rfl (fun _ => hb_eql)) <| Wm (.b (decide (((p0.Kind.toNat : Nat) : Int) = 4))) rfl <| Nk 514 0 ⟨tp 1 (.i p1::tp 7 (.b (decide (((p0.Kind.toNat : Nat) : Int) = 4))::tp 5 [])), [.gone], 0⟩ ?_
 rcases br hm with ⟨f, hm⟩ | ⟨f, hm⟩
 · refine AiT f <| Sk <| Tn ?_
   exact AWP.weak (Weak.toK 512 0 0 []) (J0 (decide (((p0.Kind.toNat : Nat) : Int) = 4)) hm)
 refine AiF f <| Tx <| Wm (.i p1) rfl <| Wz (.b (decide (p1 = 0))) (Obn rfl (fun _ => hb_eql (k := .i64))) <| Wm (.b (decide (p1 = 0))) rfl <| Nn ?_
 exact AWP.weak (Weak.toK 512 0 0 []) (J0 (decide (p1 = 0)) hm)

theorem ok_pred_checker_tree : ∀ (fuR : Nat) (p0 : GTchecker) (p1 : Int) (p2 : Int) (r : (Int × GTchecker)) (h : m_pred_checker_tree fuR p0 p1 p2 = some r), GCall Try.prog 69 [(.loc 0 0), (.i p1), (.i p2)] [(.box [(.l enc_GNode_ p0.l), (.i p0.at_)])] (.i r.1) [(.box [(.l enc_GNode_ r.2.l), (.i r.2.at_)])] := by
 intro fuR; induction fuR with
 | zero => intro p0 p1 p2 r h; exact absurd h (by unfold m_pred_checker_tree; simp)
 | succ fuR ih =>
 intro p0 p1 p2 r h
 refine GCall.of_body (n := 72) (rs := [(.tmp 6)]) Try.func69 rfl rfl rfl <| Ato ⟨.loc 0 0::.i p1::.i p2::tu 69 [], [(.box [(.l enc_GNode_ p0.l), (.i p0.at_)])], 1⟩ ?_
 have hm := h
 unfold m_pred_checker_tree at hm
 refine Sx <| Wm (.i 0) rfl <| Nk 7 1 ⟨.loc 0 0::.i p1::.i p2::tp 69 [], [(.box [(.l enc_GNode_ p0.l), (.i p0.at_)])], 1⟩ <| Sq <| Sq <| Adr <| Wm (.loc 0 0) rfl <| Wz (.loc 0 0) (op_nilCheckLoc rfl (id := 0) (off := 0) (xs := [(.l enc_GNode_ p0.l), (.i p0.at_)]) (by kernel_rfl) (by kernel_rfl)) <| Wz (.loc 0 1) (Ofa rfl) <| Wz (.i p0.at_) (Old rfl) <| Wm (.loc 0 0) rfl <| Wz (.loc 0 0) (op_nilCheckLoc rfl (id := 0) (off := 0) (xs := [(.l enc_GNode_ p0.l), (.i p0.at_)]) (by kernel_rfl) (by kernel_rfl)) <| Wz (.loc 0 0) (Ofa rfl) <| Wz (.l enc_GNode_ p0.l) (Old rfl) ?_
 refine Wz (.i ((List.length p0.l : Nat) : Int)) (Oln rfl) <| Wz (.b (decide (((List.length p0.l : Nat) : Int) ≤ p0.at_))) (Obn rfl (fun _ => hb_geq (k := .i64))) <| Wdr <| Tk 2097159 1 ⟨.loc 0 0::.i p1::.i p2::tp 18 (.b (decide (((List.length p0.l : Nat) : Int) ≤ p0.at_))::tp 50 []), [(.box [(.l enc_GNode_ p0.l), (.i p0.at_)])], 1⟩ ?_
 rcases br hm with ⟨b0, hm⟩ | ⟨b0, hm⟩
 · refine AiT b0 <| Sx <| Wm (.i 3) rfl <| Nn <| Rt <| Tr ?_
   obtain rfl := sj hm
   exact ret_i [0]
 refine AiF b0 <| Sk <| Tk 7 1 ⟨.loc 0 0::.i p1::.i p2::tp 69 [], [(.box [(.l enc_GNode_ p0.l), (.i p0.at_)])], 1⟩ <| Sq <| Adr <| Wm (.loc 0 0) rfl <| Wz (.loc 0 0) (op_nilCheckLoc rfl (id := 0) (off := 0) (xs := [(.l enc_GNode_ p0.l), (.i p0.at_)]) (by kernel_rfl) (by kernel_rfl)) <| Wz (.loc 0 0) (Ofa rfl) <| Wz (.l enc_GNode_ p0.l) (Old rfl) <| Wm (.loc 0 0) rfl <| Wz (.loc 0 0) (op_nilCheckLoc rfl (id := 0) (off := 0) (xs := [(.l enc_GNode_ p0.l), (.i p0.at_)]) (by kernel_rfl) (by kernel_rfl)) <| Wz (.loc 0 1) (Ofa rfl) <| Wz (.i p0.at_) (Old rfl) ?_
 obtain ⟨c, g0, hm⟩ := bnd hm
 obtain ⟨f0, d0⟩ := geti_some g0
 refine Wz (.d (.ref (List.drop ((Int.toNat p0.at_) * 8) (flatD enc_GNode_ p0.l)))) (Oia rfl enc_GNode__len f0 d0) <| Wz (.agg [(.y c.Kind), (.y c.Op), (.s c.Var), (.s c.Name), (.y c.Val.Kind), (.i c.Val.N), (.u c.Val.Bits), (.s c.Val.Text)]) (Lf rfl enc_GNode__len d0) <| Wy (.loc 1 0) [(1, (.box [(.y 0), (.y 0), (.s ([] : List UInt8)), (.s ([] : List UInt8)), (.y 0), (.i 0), (.u 0), (.s ([] : List UInt8))]))] (Oal rfl) <| Wy (.tup []) [(1, (.box [(.y c.Kind), (.y c.Op), (.s c.Var), (.s c.Name), (.y c.Val.Kind), (.i c.Val.N), (.u c.Val.Bits), (.s c.Val.Text)]))] (Ost rfl) <| Wdr <| Tk 135 3 ⟨.loc 0 0::.i p1::.i p2::tp 4 (.loc 1 0::tp 64 []), [(.box [(.l enc_GNode_ p0.l), (.i p0.at_)]), (.box [(.y c.Kind), (.y c.Op), (.s c.Var), (.s c.Name), (.y c.Val.Kind), (.i c.Val.N), (.u c.Val.Bits), (.s c.Val.Text)])], 1⟩ <| Sq <| Sx <| Wm (.i p2) rfl <| Wz (.b (decide ((16 : Int) ≤ p2))) (Obn rfl (fun _ => hb_geq (k := .i64))) <| Nk 8589934727 3 ⟨.loc 0 0::.i p1::.i p2::tp 4 (.loc 1 0::tp 25 (.b (decide ((16 : Int) ≤ p2))::tp 38 [])), [(.box [(.l enc_GNode_ p0.l), (.i p0.at_)]), (.box [(.y c.Kind), (.y c.Op), (.s c.Var), (.s c.Name), (.y c.Val.Kind), (.i c.Val.N), (.u c.Val.Bits), (.s c.Val.Text)])], 1⟩ ?_
 rcases br hm with ⟨c0, hm⟩ | ⟨c0, hm⟩
 · refine AiT c0 <| Sx <| Wm (.i 15) rfl <| Nn <| Rt <| Tr ?_
   obtain rfl := sj hm
   exact ret_i [0]
 refine AiF c0 <| Sk <| Tk 135 3 ⟨.loc 0 0::.i p1::.i p2::tp 4 (.loc 1 0::tp 64 []), [(.box [(.l enc_GNode_ p0.l), (.i p0.at_)]), (.box [(.y c.Kind), (.y c.Op), (.s c.Var), (.s c.Name), (.y c.Val.Kind), (.i c.Val.N), (.u c.Val.Bits), (.s c.Val.Text)])], 1⟩ <| Sq <| Sx <| Wz (.agg [(.y c.Kind), (.y c.Op), (.s c.Var), (.s c.Name), (.y c.Val.Kind), (.i c.Val.N), (.u c.Val.Bits), (.s c.Val.Text)]) (Old rfl) <| Wm (.i p1) rfl ?_
 obtain ⟨p, h0, hm⟩ := bnd hm
 refine Wz (.b p) (Ocf [] [] [] 0 (ok_pred_Node_stands c p1 p h0) (fun a w => Try.call82 a w) rfl trivial) <| Wz (.b (!p)) (Ocs (by kernel_rfl) (op_un rfl (a1 := .bool p) (by kernel_rfl) (fun _ => hu_not))) <| Nk 137438953605 3 ⟨.loc 0 0::tp 1 (.i p2::tp 4 (.loc 1 0::tp 29 (.b (!p)::tp 34 []))), [(.box [(.l enc_GNode_ p0.l), (.i p0.at_)]), (.box [(.y c.Kind), (.y c.Op), (.s c.Var), (.s c.Name), (.y c.Val.Kind), (.i c.Val.N), (.u c.Val.Bits), (.s c.Val.Text)])], 1⟩ ?_
 rcases br hm with ⟨q, hm⟩ | ⟨q, hm⟩
 · refine AiT q <| Sx <| Wm (.i 11) rfl <| Nn <| Rt <| Tr ?_
   obtain rfl := sj hm
   exact ret_i [0]
 refine AiF q <| Sk <| Tk 133 3 ⟨.loc 0 0::tp 1 (.i p2::tp 4 (.loc 1 0::tp 64 [])), [(.box [(.l enc_GNode_ p0.l), (.i p0.at_)]), (.box [(.y c.Kind), (.y c.Op), (.s c.Var), (.s c.Name), (.y c.Val.Kind), (.i c.Val.N), (.u c.Val.Bits), (.s c.Val.Text)])], 1⟩ <| Sq <| Sx <| Wz (.agg [(.y c.Kind), (.y c.Op), (.s c.Var), (.s c.Name), (.y c.Val.Kind), (.i c.Val.N), (.u c.Val.Bits), (.s c.Val.Text)]) (Old rfl) ?_
 obtain ⟨m, i0, hm⟩ := bnd hm
 refine Wz (.i m) (Ocf [] [] [] 0 (ok_pred_is__pred_Node_lacks c 4 m i0) (fun a w => Try.call83 a w) rfl trivial) <| Wm (.i m) rfl <| Nk 389 3 ⟨.loc 0 0::tp 1 (.i p2::tp 4 (.loc 1 0::.i m::tp 63 [])), [(.box [(.l enc_GNode_ p0.l), (.i p0.at_)]), (.box [(.y c.Kind), (.y c.Op), (.s c.Var), (.s c.Name), (.y c.Val.Kind), (.i c.Val.N), (.u c.Val.Bits), (.s c.Val.Text)])], 1⟩ <| Sx <| Wm (.i m) rfl <| Wz (.b (decide (m ≠ 0))) (Obn rfl (fun _ => hb_neq (k := .i64))) <| Nk 2199023255941 3 ⟨.loc 0 0::tp 1 (.i p2::tp 4 (.loc 1 0::.i m::tp 32 (.b (decide (m ≠ 0))::tp 30 []))), [(.box [(.l enc_GNode_ p0.l), (.i p0.at_)]), (.box [(.y c.Kind), (.y c.Op), (.s c.Var), (.s c.Name), (.y c.Val.Kind), (.i c.Val.N), (.u c.Val.Bits), (.s c.Val.Text)])], 1⟩ ?_
 rcases br hm with ⟨t, hm⟩ | ⟨t, hm⟩
 · refine AiT t <| Sx <| Wm (.i m) rfl <| Wm (.i m) rfl <| Nn <| Rt <| Tr ?_
   obtain rfl := sj hm
   exact ret_i [0]
 refine AiF t <| Sk <| Tk 133 3 ⟨.loc 0 0::tp 1 (.i p2::tp 4 (.loc 1 0::tp 64 [])), [(.box [(.l enc_GNode_ p0.l), (.i p0.at_)]), (.box [(.y c.Kind), (.y c.Op), (.s c.Var), (.s c.Name), (.y c.Val.Kind), (.i c.Val.N), (.u c.Val.Bits), (.s c.Val.Text)])], 1⟩ <| Sq <| Sx <| Wz (.agg [(.y c.Kind), (.y c.Op), (.s c.Var), (.s c.Name), (.y c.Val.Kind), (.i c.Val.N), (.u c.Val.Bits), (.s c.Val.Text)]) (Old rfl) ?_
 obtain ⟨o, j0, hm⟩ := bnd hm
 refine Wz (.i o) (Ocf [] [] [] 0 (ok_pred_is__pred_Node_more c 2 o j0) (fun a w => Try.call83 a w) rfl trivial) <| Wm (.i o) rfl <| Nk 645 3 ⟨.loc 0 0::tp 1 (.i p2::tp 4 (.loc 1 0::tp 1 (.i o::tp 62 []))), [(.box [(.l enc_GNode_ p0.l), (.i p0.at_)]), (.box [(.y c.Kind), (.y c.Op), (.s c.Var), (.s c.Name), (.y c.Val.Kind), (.i c.Val.N), (.u c.Val.Bits), (.s c.Val.Text)])], 1⟩ <| Sx <| Wm (.i o) rfl <| Wz (.b (decide (o ≠ 0))) (Obn rfl (fun _ => hb_neq (k := .i64))) <| Nk 70368744178309 3 ⟨.loc 0 0::tp 1 (.i p2::tp 4 (.loc 1 0::tp 1 (.i o::tp 36 (.b (decide (o ≠ 0))::tp 25 [])))), [(.box [(.l enc_GNode_ p0.l), (.i p0.at_)]), (.box [(.y c.Kind), (.y c.Op), (.s c.Var), (.s c.Name), (.y c.Val.Kind), (.i c.Val.N), (.u c.Val.Bits), (.s c.Val.Text)])], 1⟩ ?_
 rcases br hm with ⟨v, hm⟩ | ⟨v, hm⟩
 · refine AiT v <| Sx <| Wm (.i o) rfl <| Wm (.i o) rfl <| Nn <| Rt <| Tr ?_
   obtain rfl := sj hm
   exact ret_i [0]
 refine AiF v <| Sk <| Tk 133 3 ⟨.loc 0 0::tp 1 (.i p2::tp 4 (.loc 1 0::tp 64 [])), [(.box [(.l enc_GNode_ p0.l), (.i p0.at_)]), (.box [(.y c.Kind), (.y c.Op), (.s c.Var), (.s c.Name), (.y c.Val.Kind), (.i c.Val.N), (.u c.Val.Bits), (.s c.Val.Text)])], 1⟩ <| Sx <| Wm (.loc 0 0) rfl <| Wz (.loc 0 0) (op_nilCheckLoc rfl (id := 0) (off := 0) (xs := [(.l enc_GNode_ p0.l), (.i p0.at_)]) (by kernel_rfl) (by kernel_rfl)) <| Wz (.loc 0 1) (Ofa rfl) <| Wz (.i p0.at_) (Old rfl) <| Wz (.i (W6 (p0.at_ + 1))) (Obn rfl (fun _ => hb_add (k := .i64))) <| Wz (.loc 0 0) (op_nilCheckLoc rfl (id := 0) (off := 0) (xs := [(.l enc_GNode_ p0.l), (.i p0.at_)]) (by kernel_rfl) (by kernel_rfl)) <| Wz (.loc 0 1) (Ofa rfl) <| Wy (.tup []) [(0, (.box [(.l enc_GNode_ p0.l), (.i (W6 (p0.at_ + 1)))]))] (Ost rfl) <| Nk 133 3 ⟨.loc 0 0::tp 1 (.i p2::tp 4 (.loc 1 0::tp 64 [])), [(.box [(.l enc_GNode_ p0.l), (.i (W6 (p0.at_ + 1)))]), (.box [(.y c.Kind), (.y c.Op), (.s c.Var), (.s c.Name), (.y c.Val.Kind), (.i c.Val.N), (.u c.Val.Bits), (.s c.Val.Text)])], 1⟩ <| Sq ?_
 refine Sx <| Wz (.loc 1 0) (Ofa rfl) <| Wz (.y c.Kind) (Old rfl) ?_
 obtain ⟨j, k0, hm⟩ := bnd hm
 refine Wz (.i j) (Ocf [] [] [] 0 (ok_pred_Kids c.Kind j k0) (fun a w => Try.call86 a w) rfl trivial) <| Wm (.i 0) rfl <| Nk 432345564227567749 3 ⟨.loc 0 0::tp 1 (.i p2::tp 4 (.loc 1 0::tp 49 (.i j::.i 0::tp 13 []))), [(.box [(.l enc_GNode_ p0.l), (.i (W6 (p0.at_ + 1)))]), (.box [(.y c.Kind), (.y c.Op), (.s c.Var), (.s c.Name), (.y c.Val.Kind), (.i c.Val.N), (.u c.Val.Bits), (.s c.Val.Text)])], 1⟩ <| Bk ?_
 refine AWP.loopI (α := Nat × GTchecker × Int)
   (fun (fu_6, g, e) => (⟨.loc 0 0::tp 1 (.i p2::tp 4 (.loc 1 0::tp 49 (.i j::.i e::tp 13 []))), [(.box [(.l enc_GNode_ g.l), (.i g.at_)]), (.box [(.y c.Kind), (.y c.Op), (.s c.Var), (.s c.Name), (.y c.Val.Kind), (.i c.Val.N), (.u c.Val.Bits), (.s c.Val.Text)])], 1⟩ : St))
   (fun (fu_6, g, e) => m_pred_checker_tree_l6 p2 j c (fun p0 p1 p2 => m_pred_checker_tree fuR p0 p1 p2) fu_6 g e = some r)
   (fun (fu_6, g, e) => fu_6) (1152921504606846976, (GTchecker.mk p0.l (W6 (p0.at_ + 1))), 0)
   (Weak.toK 432345564227567749 0 0 [0, 1]) hm ?_
 rintro ⟨fu_6, g, e⟩ n_6 hm ih_6
 try dsimp only at hm ih_6 ⊢
 cases fu_6 with
 | zero => exact absurd hm (by unfold m_pred_checker_tree_l6; simp)
 | succ fu_6 =>
  unfold m_pred_checker_tree_l6 at hm
  refine Sx <| Wz (.b (decide (e < j))) (Obn rfl (fun _ => hb_lss (k := .i64))) <| Nk 1008806316530991237 3 ⟨.loc 0 0::tp 1 (.i p2::tp 4 (.loc 1 0::tp 49 (.i j::.i e::.b (decide (e < j))::tp 12 []))), [(.box [(.l enc_GNode_ g.l), (.i g.at_)]), (.box [(.y c.Kind), (.y c.Op), (.s c.Var), (.s c.Name), (.y c.Val.Kind), (.i c.Val.N), (.u c.Val.Bits), (.s c.Val.Text)])], 1⟩ <| Sq ?_
  rcases br hm with ⟨z, hm⟩ | ⟨z, hm⟩
  · refine AiT z <| Sk <| Tk 432345564227567749 3 ⟨.loc 0 0::tp 1 (.i p2::tp 4 (.loc 1 0::tp 49 (.i j::.i e::tp 13 []))), [(.box [(.l enc_GNode_ g.l), (.i g.at_)]), (.box [(.y c.Kind), (.y c.Op), (.s c.Var), (.s c.Name), (.y c.Val.Kind), (.i c.Val.N), (.u c.Val.Bits), (.s c.Val.Text)])], 1⟩ <| Sq <| Bk <| Sx <| Wm (.i e) rfl <| Wm (.i e) rfl <| Nk 432345564227568773 3 ⟨.loc 0 0::tp 1 (.i p2::tp 4 (.loc 1 0::tp 2 (.i e::tp 46 (.i j::.i e::tp 13 [])))), [(.box [(.l enc_GNode_ g.l), (.i g.at_)]), (.box [(.y c.Kind), (.y c.Op), (.s c.Var), (.s c.Name), (.y c.Val.Kind), (.i c.Val.N), (.u c.Val.Bits), (.s c.Val.Text)])], 1⟩ <| Sx <| Wm (.loc 0 0) rfl <| Wz (.agg [(.y c.Kind), (.y c.Op), (.s c.Var), (.s c.Name), (.y c.Val.Kind), (.i c.Val.N), (.u c.Val.Bits), (.s c.Val.Text)]) (Old rfl) <| Wm (.i e) rfl ?_
    obtain ⟨e0, l0, hm⟩ := bnd hm
    refine Wz (.i e0) (Ocf [] [] [] 0 (ok_pred_Node_kid c e e0 l0) (fun a w => Try.call87 a w) rfl trivial) <| Wm (.i p2) rfl <| Wz (.i (W6 (p2 + 1))) (Obn rfl (fun _ => hb_add (k := .i64))) ?_
    obtain ⟨f, m0, hm⟩ := bnd hm
    refine Wy (.i f.1) [(0, (.box [(.l enc_GNode_ f.2.l), (.i f.2.at_)]))] (Ocf [0] [] [] 0 (ih g e0 (W6 (p2 + 1)) f m0) (fun a w => Try.call69 a w) rfl ⟨rfl, trivial⟩) <| Wm (.i f.1) rfl <| Nk 432345564227569797 3 ⟨.loc 0 0::tp 1 (.i p2::tp 4 (.loc 1 0::tp 3 (.i f.1::tp 45 (.i j::.i e::tp 13 [])))), [(.box [(.l enc_GNode_ f.2.l), (.i f.2.at_)]), (.box [(.y c.Kind), (.y c.Op), (.s c.Var), (.s c.Name), (.y c.Val.Kind), (.i c.Val.N), (.u c.Val.Bits), (.s c.Val.Text)])], 1⟩ <| Sx <| Wm (.i f.1) rfl <| Wz (.b (decide (f.1 ≠ 0))) (Obn rfl (fun _ => hb_neq (k := .i64))) <| Nk 590728155922933221509 3 ⟨.loc 0 0::tp 1 (.i p2::tp 4 (.loc 1 0::tp 3 (.i f.1::tp 45 (.i j::.i e::tp 10 (.b (decide (f.1 ≠ 0))::tp 2 []))))), [(.box [(.l enc_GNode_ f.2.l), (.i f.2.at_)]), (.box [(.y c.Kind), (.y c.Op), (.s c.Var), (.s c.Name), (.y c.Val.Kind), (.i c.Val.N), (.u c.Val.Bits), (.s c.Val.Text)])], 1⟩ ?_
    rcases br hm with ⟨a0, hm⟩ | ⟨a0, hm⟩
    · refine AiT a0 <| Sx <| Wm (.i f.1) rfl <| Wm (.i f.1) rfl <| Nn <| Rt <| Ir <| Tr <| RoundK.ret <| Ir <| Tr ?_
      obtain rfl := sj hm
      exact ret_i [0]
    refine AiF a0 <| Sk <| Ino <| Tk 432345564227567749 3 ⟨.loc 0 0::tp 1 (.i p2::tp 4 (.loc 1 0::tp 49 (.i j::.i e::tp 13 []))), [(.box [(.l enc_GNode_ f.2.l), (.i f.2.at_)]), (.box [(.y c.Kind), (.y c.Op), (.s c.Var), (.s c.Name), (.y c.Val.Kind), (.i c.Val.N), (.u c.Val.Bits), (.s c.Val.Text)])], 1⟩ <| Tx <| Wz (.i (W6 (e + 1))) (Obn rfl (fun _ => hb_add (k := .i64))) <| Wm (.i (W6 (e + 1))) rfl <| Wn0 <| RoundK.normal ?_
    exact Rounds.weak (Weak.toK 432345564227567749 0 0 [0, 1]) (ih_6 (fu_6, f.2, (W6 (e + 1))) hm (Nat.lt_succ_self _))
  refine AiF z <| AWP.exit <| Then.exit <| RoundK.exit <| InBlock.same <| Tk 0 1 ⟨tp 72 [], [(.box [(.l enc_GNode_ g.l), (.i g.at_)]), .gone], 1⟩ <| Sx <| Wm (.i 0) rfl <| Nn <| Rt ?_
  obtain rfl := sj hm
  exact ret_i [0]

theorem ok_pred_Check (p0 : (List GNode_)) (r : Int) (h : m_pred_Check p0 = some r) : GCall Try.prog 58 [(.l enc_GNode_ p0)] [] (.i r) [] := by
 refine GCall.of_body (n := 26) (rs := [(.tmp 2)]) Try.func58 rfl rfl rfl <| Ato ⟨.l enc_GNode_ p0::tu 25 [], [], 0⟩ ?_
 have hm := h
 unfold m_pred_Check at hm
 refine Sx <| Wm (.i 0) rfl <| Nk 1 0 ⟨.l enc_GNode_ p0::tp 25 [], [], 0⟩ <| Sq <| Sx <| Wm (.l enc_GNode_ p0) rfl <| Wz (.i ((List.length p0 : Nat) : Int)) (Oln rfl) <| Wz (.b (decide ((30 : Int) < ((List.length p0 : Nat) : Int)))) (Obn rfl (fun _ => hb_gtr (k := .i64))) <| Nk 129 0 ⟨.l enc_GNode_ p0::tp 6 (.b (decide ((30 : Int) < ((List.length p0 : Nat) : Int)))::tp 18 []), [], 0⟩ ?_
 rcases br hm with ⟨g, hm⟩ | ⟨g, hm⟩
 · refine AiT g <| Sx <| Wm (.i 5) rfl <| Nn <| Rt <| Tr ?_
   obtain rfl := sj hm
   exact ret_i []
 refine AiF g <| Sk <| Tk 1 0 ⟨.l enc_GNode_ p0::tp 25 [], [], 0⟩ <| Sq <| Sx <| Wm (.l enc_GNode_ p0) rfl <| Wz (.i ((List.length p0 : Nat) : Int)) (Oln rfl) <| Wz (.b (decide (((List.length p0 : Nat) : Int) = 0))) (Obn rfl (fun _ => hb_eql (k := .i64))) <| Nk 1025 0 ⟨.l enc_GNode_ p0::tp 9 (.b (decide (((List.length p0 : Nat) : Int) = 0))::tp 15 []), [], 0⟩ ?_
 rcases br hm with ⟨d, hm⟩ | ⟨d, hm⟩
 · refine AiT d <| Sx <| Wm (.i 0) rfl <| Nn <| Rt <| Tr ?_
   obtain rfl := sj hm
   exact ret_i []
 refine AiF d <| Sk <| Tk 1 0 ⟨.l enc_GNode_ p0::tp 25 [], [], 0⟩ <| Sx <| Wm (.l enc_GNode_ p0) rfl <| Wz (.agg [(.l enc_GNode_ p0), (.i 0)]) (Obd rfl) <| Wy (.loc 0 0) [(0, (.box [(.l enc_GNode_ p0), (.i 0)]))] (Obx rfl) <| Wm (.loc 0 0) rfl <| Nk 9 1 ⟨.l enc_GNode_ p0::tp 2 (.loc 0 0::tp 22 []), [(.box [(.l enc_GNode_ p0), (.i 0)])], 0⟩ <| Sq <| Sx <| Wm (.loc 0 0) rfl ?_
 obtain ⟨c, j, hm⟩ := bnd hm
 refine Wy (.i c.1) [(0, (.box [(.l enc_GNode_ c.2.l), (.i c.2.at_)]))] (Ocf [0] [] [] 0 (ok_pred_checker_tree 1152921504606846976 (GTchecker.mk p0 0) 0 0 c j) (fun a w => Try.call69 a w) rfl ⟨rfl, trivial⟩) <| Wm (.i c.1) rfl <| Nk 25 1 ⟨.l enc_GNode_ p0::tp 2 (.loc 0 0::.i c.1::tp 21 []), [(.box [(.l enc_GNode_ c.2.l), (.i c.2.at_)])], 0⟩ <| Sx <| Wm (.i c.1) rfl <| Wz (.b (decide (c.1 ≠ 0))) (Obn rfl (fun _ => hb_neq (k := .i64))) <| Nk 131097 1 ⟨.l enc_GNode_ p0::tp 2 (.loc 0 0::.i c.1::tp 12 (.b (decide (c.1 ≠ 0))::tp 8 [])), [(.box [(.l enc_GNode_ c.2.l), (.i c.2.at_)])], 0⟩ ?_
 rcases br hm with ⟨e, hm⟩ | ⟨e, hm⟩
 · refine AiT e <| Sx <| Wm (.i c.1) rfl <| Wm (.i c.1) rfl <| Nn <| Rt <| Tr ?_
   obtain rfl := sj hm
   exact ret_i []
 refine AiF e <| Sk <| Tk 9 1 ⟨.l enc_GNode_ p0::tp 2 (.loc 0 0::tp 22 []), [(.box [(.l enc_GNode_ c.2.l), (.i c.2.at_)])], 0⟩ <| Sq <| Sx <| Wm (.loc 0 0) rfl <| Wz (.loc 0 0) (op_nilCheckLoc rfl (id := 0) (off := 0) (xs := [(.l enc_GNode_ c.2.l), (.i c.2.at_)]) (by kernel_rfl) (by kernel_rfl)) <| Wz (.loc 0 1) (Ofa rfl) <| Wz (.i c.2.at_) (Old rfl) <| Wm (.l enc_GNode_ p0) rfl <| Wz (.i ((List.length p0 : Nat) : Int)) (Oln rfl) <| Wz (.b (decide (c.2.at_ < ((List.length p0 : Nat) : Int)))) (Obn rfl (fun _ => hb_lss (k := .i64))) <| Nk 33554432 0 ⟨tp 25 (.b (decide (c.2.at_ < ((List.length p0 : Nat) : Int)))::[]), [.gone], 0⟩ ?_
 rcases br hm with ⟨f, hm⟩ | ⟨f, hm⟩
 · refine AiT f <| Sx <| Wm (.i 5) rfl <| Nn <| Rt <| Tr ?_
   obtain rfl := sj hm
   exact ret_i []
 refine AiF f <| Sk <| Tk 0 0 ⟨tp 26 [], [.gone], 0⟩ <| Sx <| Wm (.i 0) rfl <| Nn <| Rt ?_
 obtain rfl := sj hm
 exact ret_i []

theorem ok_shape_Node_lacks (p0 : GNode) (r : Bool) (h : m_shape_Node_lacks p0 = some r) : GCall Try.prog 42 [(.agg [(.y p0.Kind), (.i p0.Kids), (.i p0.Lo), (.i p0.Hi), (.s p0.Var), (.s p0.Type_), (.l enc_GNode_ p0.Test)])] [] (.b r) [] := by
 refine GCall.of_body (n := 42) (rs := [(.tmp 2)]) Try.func42 rfl rfl rfl <| Ato ⟨.agg [(.y p0.Kind), (.i p0.Kids), (.i p0.Lo), (.i p0.Hi), (.s p0.Var), (.s p0.Type_), (.l enc_GNode_ p0.Test)]::tu 41 [], [], 0⟩ ?_
 have hm := h
 unfold m_shape_Node_lacks at hm
 refine Sx <| Wy (.loc 0 0) [(0, (.box [(.y p0.Kind), (.i p0.Kids), (.i p0.Lo), (.i p0.Hi), (.s p0.Var), (.s p0.Type_), (.l enc_GNode_ p0.Test)]))] (Obx rfl) <| Wm (.b false) rfl <| Nk 2 1 ⟨tp 1 (.loc 0 0::tp 40 []), [(.box [(.y p0.Kind), (.i p0.Kids), (.i p0.Lo), (.i p0.Hi), (.s p0.Var), (.s p0.Type_), (.l enc_GNode_ p0.Test)])], 0⟩ <| Sq <| Bk <| Sx <| Wz (.agg [(.y p0.Kind), (.i p0.Kids), (.i p0.Lo), (.i p0.Hi), (.s p0.Var), (.s p0.Type_), (.l enc_GNode_ p0.Test)]) (Old rfl) ?_
 obtain ⟨p, b0, hm⟩ := bnd hm
 refine Wz (.b p) (Ocf [] [] [] 0 (ok_shape_Node_list p0 p b0) (fun a w => Try.call40 a w) rfl trivial) <| Wm (.b p) rfl <| Nk 10 1 ⟨tp 1 (.loc 0 0::tp 1 (.b p::tp 38 [])), [(.box [(.y p0.Kind), (.i p0.Kids), (.i p0.Lo), (.i p0.Hi), (.s p0.Var), (.s p0.Type_), (.l enc_GNode_ p0.Test)])], 0⟩ ?_
 rcases br hm with ⟨q, hm⟩ | ⟨q, hm⟩
 · refine AiT q <| Sx <| Wz (.loc 0 1) (Ofa rfl) <| Wz (.i p0.Kids) (Old rfl) <| Wz (.b (decide (p0.Kids < 2))) (Obn rfl (fun _ => hb_lss (k := .i64))) ?_
   rcases br hm with ⟨t, hm⟩ | ⟨t, hm⟩
   · refine Wz (.b true) (Oq t rfl) <| Wn <| Wn <| Wn <| Wz (.b true) (OpT rfl) <| Wm (.b true) rfl <| Nn <| Rt <| Ir <| Tr ?_
     obtain rfl := sj hm
     exact ret_i []
   refine Wz (.b false) (Oq t rfl) <| Wz (.loc 0 1) (Ofa rfl) <| Wz (.i p0.Kids) (Old rfl) <| Wz (.b (decide ((40 : Int) < p0.Kids))) (Obn rfl (fun _ => hb_gtr (k := .i64))) <| Wz (.b (decide ((40 : Int) < p0.Kids))) (OpF rfl) <| Wm (.b (decide ((40 : Int) < p0.Kids))) rfl <| Nn <| Rt <| Ir <| Tr ?_
   obtain rfl := sj hm
   exact ret_i []
 refine AiF q <| Sx <| Wz (.loc 0 0) (Ofa rfl) <| Wz (.y p0.Kind) (Old rfl) <| Wz (.b (decide (((p0.Kind.toNat : Nat) : Int) = 3))) (Ob2 (.int .u8 ((p0.Kind.toNat : Nat) : Int)) (.int .u8 3) rfl (fun _ => hb_eql)) <| Wm (.b (decide (((p0.Kind.toNat : Nat) : Int) = 3))) rfl <| Nk 16386 1 ⟨tp 1 (.loc 0 0::tp 12 (.b (decide (((p0.Kind.toNat : Nat) : Int) = 3))::tp 27 [])), [(.box [(.y p0.Kind), (.i p0.Kids), (.i p0.Lo), (.i p0.Hi), (.s p0.Var), (.s p0.Type_), (.l enc_GNode_ p0.Test)])], 0⟩ ?_
 rcases br hm with ⟨g, hm⟩ | ⟨g, hm⟩
 · refine AiT g <| Sx <| Wz (.loc 0 1) (Ofa rfl) <| Wz (.i p0.Kids) (Old rfl) <| Wz (.b (decide (p0.Kids ≠ 1))) (Obn rfl (fun _ => hb_neq (k := .i64))) ?_
   rcases br hm with ⟨j, hm⟩ | ⟨j, hm⟩
   · refine Wz (.b true) (Oq j rfl) <| Wn <| Wn <| Wn <| Wz (.b true) (OpT rfl) <| Wm (.b true) rfl <| Nn <| Rt <| Ir <| Tr ?_
     obtain rfl := sj hm
     exact ret_i []
   refine Wz (.b false) (Oq j rfl) <| Wz (.agg [(.y p0.Kind), (.i p0.Kids), (.i p0.Lo), (.i p0.Hi), (.s p0.Var), (.s p0.Type_), (.l enc_GNode_ p0.Test)]) (Old rfl) ?_
   obtain ⟨c, u, hm⟩ := bnd hm
   refine Wz (.b c) (Ocf [] [] [] 0 (ok_shape_Node_often p0 c u) (fun a w => Try.call57 a w) rfl trivial) <| Wz (.b (!c)) (Ocs (by kernel_rfl) (op_un rfl (a1 := .bool c) (by kernel_rfl) (fun _ => hu_not))) <| Wz (.b (!c)) (OpF rfl) <| Wm (.b (!c)) rfl <| Nn <| Rt <| Ir <| Tr ?_
   obtain rfl := sj hm
   exact ret_i []
 refine AiF g <| Sk <| Ino <| Tk 2 1 ⟨tp 1 (.loc 0 0::tp 40 []), [(.box [(.y p0.Kind), (.i p0.Kids), (.i p0.Lo), (.i p0.Hi), (.s p0.Var), (.s p0.Type_), (.l enc_GNode_ p0.Test)])], 0⟩ <| Sx <| Wz (.loc 0 4) (Ofa rfl) <| Wz (.s p0.Var) (Old rfl) ?_
 obtain ⟨f, v, hm⟩ := bnd hm
 refine Wz (.b f) (Ocf [] [] [] 0 (ok_schema_Name p0.Var f v) (fun a w => Try.call26 a w) rfl trivial) <| Wz (.b (!f)) (Ocs (by kernel_rfl) (op_un rfl (a1 := .bool f) (by kernel_rfl) (fun _ => hu_not))) ?_
 rcases br hm with ⟨m, hm⟩ | ⟨m, hm⟩
 · refine Wz (.b true) (Oq m rfl) <| Wn <| Wn <| Wn <| Wn <| Wz (.b true) (OpT rfl) <| Wm (.b true) rfl <| Wn <| Wn <| Wn <| Wn <| Wz (.b true) (OpT rfl) <| Wm (.b true) rfl <| Nn ?_
   refine Rt ?_
   obtain rfl := sj hm
   exact ret_i []
 refine Wz (.b false) (Oq m rfl) <| Wz (.loc 0 5) (Ofa rfl) <| Wz (.s p0.Type_) (Old rfl) ?_
 obtain ⟨d, z, hm⟩ := bnd hm
 refine Wz (.b d) (Ocf [] [] [] 0 (ok_schema_Name p0.Type_ d z) (fun a w => Try.call26 a w) rfl trivial) <| Wz (.b (!d)) (Ocs (by kernel_rfl) (op_un rfl (a1 := .bool d) (by kernel_rfl) (fun _ => hu_not))) <| Wz (.b (!d)) (OpF rfl) ?_
 rcases br hm with ⟨o, hm⟩ | ⟨o, hm⟩
 · refine Wz (.b true) (Oq o rfl) <| Wn <| Wn <| Wn <| Wn <| Wz (.b true) (OpT rfl) <| Wm (.b true) rfl <| Nn <| Rt ?_
   obtain rfl := sj hm
   exact ret_i []
 refine Wz (.b false) (Oq o rfl) <| Wz (.loc 0 6) (Ofa rfl) <| Wz (.l enc_GNode_ p0.Test) (Old rfl) ?_
 obtain ⟨e, a0, hm⟩ := bnd hm
 refine Wz (.i e) (Ocf [] [] [] 0 (ok_pred_Check p0.Test e a0) (fun a w => Try.call58 a w) rfl trivial) <| Wz (.b (decide (e ≠ 0))) (Obn rfl (fun _ => hb_neq (k := .i64))) <| Wz (.b (decide (e ≠ 0))) (OpF rfl) <| Wm (.b (decide (e ≠ 0))) rfl <| Nn <| Rt ?_
 obtain rfl := sj hm
 exact ret_i []

theorem ok_shape_Node_leaf (p0 : GNode) (r : Bool) (h : m_shape_Node_leaf p0 = some r) : GCall Try.prog 30 [(.agg [(.y p0.Kind), (.i p0.Kids), (.i p0.Lo), (.i p0.Hi), (.s p0.Var), (.s p0.Type_), (.l enc_GNode_ p0.Test)])] [] (.b r) [] := by
 refine GCall.of_body (n := 11) (rs := [(.tmp 2)]) Try.func30 rfl rfl rfl <| Ato ⟨.agg [(.y p0.Kind), (.i p0.Kids), (.i p0.Lo), (.i p0.Hi), (.s p0.Var), (.s p0.Type_), (.l enc_GNode_ p0.Test)]::tu 10 [], [], 0⟩ ?_
 have hm := h
 unfold m_shape_Node_leaf at hm
 refine Sx <| Wy (.loc 0 0) [(0, (.box [(.y p0.Kind), (.i p0.Kids), (.i p0.Lo), (.i p0.Hi), (.s p0.Var), (.s p0.Type_), (.l enc_GNode_ p0.Test)]))] (Obx rfl) <| Wm (.b false) rfl <| Nk 2 1 ⟨tp 1 (.loc 0 0::tp 9 []), [(.box [(.y p0.Kind), (.i p0.Kids), (.i p0.Lo), (.i p0.Hi), (.s p0.Var), (.s p0.Type_), (.l enc_GNode_ p0.Test)])], 0⟩ <| Sx <| Wz (.loc 0 0) (Ofa rfl) <| Wz (.y p0.Kind) (Old rfl) <| Wz (.b (decide (((p0.Kind.toNat : Nat) : Int) = 4))) (Ob2 (.int .u8 ((p0.Kind.toNat : Nat) : Int)) (.int .u8 4) rfl (fun _ => hb_eql)) ?_
 rcases br hm with ⟨c, hm⟩ | ⟨c, hm⟩
 · refine Wz (.b true) (Oq c rfl) <| Wn <| Wn <| Wn <| Wz (.b true) (OpT rfl) <| Wm (.b true) rfl <| Nn <| Rt ?_
   obtain rfl := sj hm
   exact ret_i []
 refine Wz (.b false) (Oq c rfl) <| Wz (.loc 0 0) (Ofa rfl) <| Wz (.y p0.Kind) (Old rfl) <| Wz (.b (decide (((p0.Kind.toNat : Nat) : Int) = 5))) (Ob2 (.int .u8 ((p0.Kind.toNat : Nat) : Int)) (.int .u8 5) rfl (fun _ => hb_eql)) <| Wz (.b (decide (((p0.Kind.toNat : Nat) : Int) = 5))) (OpF rfl) <| Wm (.b (decide (((p0.Kind.toNat : Nat) : Int) = 5))) rfl <| Nn <| Rt ?_
 obtain rfl := sj hm
 exact ret_i []

theorem ok_shape_Node_more (p0 : GNode) (r : Bool) (h : m_shape_Node_more p0 = some r) : GCall Try.prog 43 [(.agg [(.y p0.Kind), (.i p0.Kids), (.i p0.Lo), (.i p0.Hi), (.s p0.Var), (.s p0.Type_), (.l enc_GNode_ p0.Test)])] [] (.b r) [] := by
 refine GCall.of_body (n := 44) (rs := [(.tmp 2)]) Try.func43 rfl rfl rfl <| Ato ⟨.agg [(.y p0.Kind), (.i p0.Kids), (.i p0.Lo), (.i p0.Hi), (.s p0.Var), (.s p0.Type_), (.l enc_GNode_ p0.Test)]::tu 43 [], [], 0⟩ ?_
 have hm := h
 unfold m_shape_Node_more at hm
 refine Sx <| Wy (.loc 0 0) [(0, (.box [(.y p0.Kind), (.i p0.Kids), (.i p0.Lo), (.i p0.Hi), (.s p0.Var), (.s p0.Type_), (.l enc_GNode_ p0.Test)]))] (Obx rfl) <| Wm (.b false) rfl <| Nk 2 1 ⟨tp 1 (.loc 0 0::tp 42 []), [(.box [(.y p0.Kind), (.i p0.Kids), (.i p0.Lo), (.i p0.Hi), (.s p0.Var), (.s p0.Type_), (.l enc_GNode_ p0.Test)])], 0⟩ <| Sx <| Wz (.loc 0 2) (Ofa rfl) <| Wz (.i p0.Lo) (Old rfl) <| Wz (.b (decide (p0.Lo ≠ 0))) (Obn rfl (fun _ => hb_neq (k := .i64))) ?_
 rcases br hm with ⟨a0, hm⟩ | ⟨a0, hm⟩
 · refine Wz (.b true) (Oq a0 rfl) <| Wn <| Wn <| Wn <| Wz (.b true) (OpT rfl) <| Wm (.b true) rfl <| Nk 10 1 ⟨tp 1 (.loc 0 0::tp 1 (.b true::tp 40 [])), [(.box [(.y p0.Kind), (.i p0.Kids), (.i p0.Lo), (.i p0.Hi), (.s p0.Var), (.s p0.Type_), (.l enc_GNode_ p0.Test)])], 0⟩ ?_
   refine AWP.cutJ (α := Unit) (fun x => match x with | () => (⟨tp 1 (.loc 0 0::tp 1 (.b true::.b true::tp 39 [])), [(.box [(.y p0.Kind), (.i p0.Kids), (.i p0.Lo), (.i p0.Hi), (.s p0.Var), (.s p0.Type_), (.l enc_GNode_ p0.Test)])], 0⟩ : St)) (fun x => match x with | () => m_shape_Node_more_j2 p0 = some r) ?_ (fun J2 => ?_)
   ·
    rintro ⟨⟩ hm
    try dsimp only at hm ⊢
    unfold m_shape_Node_more_j2 at hm
    refine Sq <| Sx <| Wz (.agg [(.y p0.Kind), (.i p0.Kids), (.i p0.Lo), (.i p0.Hi), (.s p0.Var), (.s p0.Type_), (.l enc_GNode_ p0.Test)]) (Old rfl) ?_
    obtain ⟨b0, f0, hm⟩ := bnd hm
    refine Wz (.b b0) (Ocf [] [] [] 0 (ok_shape_Node_leaf p0 b0 f0) (fun a w => Try.call30 a w) rfl trivial) <| Nk 268435482 1 ⟨tp 1 (.loc 0 0::tp 1 (.b true::.b true::tp 23 (.b b0::tp 15 []))), [(.box [(.y p0.Kind), (.i p0.Kids), (.i p0.Lo), (.i p0.Hi), (.s p0.Var), (.s p0.Type_), (.l enc_GNode_ p0.Test)])], 0⟩ ?_
    rcases br hm with ⟨c, hm⟩ | ⟨c, hm⟩
    · refine AiT c <| Sx <| Wm (.b true) rfl <| Wm (.b true) rfl <| Wn <| Wn <| Wn <| Wz (.b true) (OpT rfl) <| Wm (.b true) rfl <| Nn <| Rt <| Tr ?_
      obtain rfl := sj hm
      exact ret_i []
    refine AiF c <| Sk <| Tk 26 1 ⟨tp 1 (.loc 0 0::tp 1 (.b true::.b true::tp 39 [])), [(.box [(.y p0.Kind), (.i p0.Kids), (.i p0.Lo), (.i p0.Hi), (.s p0.Var), (.s p0.Type_), (.l enc_GNode_ p0.Test)])], 0⟩ <| Sx <| Wm (.b true) rfl <| Wm (.b true) rfl <| Wn <| Wn <| Wn <| Wn <| Wn <| Wn <| Wz (.b true) (OpT rfl) <| Wm (.b true) rfl ?_
    refine Nn <| Rt ?_
    obtain rfl := sj hm
    exact ret_i []
   refine Sx <| Wz (.loc 0 4) (Ofa rfl) <| Wz (.s p0.Var) (Old rfl) <| Wz (.b (decide (p0.Var ≠ ([] : List UInt8)))) (Ocs (lit_tf (by simp only [toS_inj, ne_eq])) (op_bin rfl (a1 := .string (toS p0.Var)) (a2 := .string (toS ([] : List UInt8))) (by kernel_rfl) (by kernel_rfl) (fun _ => hb_sneq))) ?_
   rcases br hm with ⟨o, hm⟩ | ⟨o, hm⟩
   · refine Wz (.b true) (Oq o rfl) <| Wn <| Wn <| Wn <| Wz (.b true) (OpT rfl) <| Wm (.b true) rfl <| Wn <| Wn <| Wn <| Wn <| Wz (.b true) (OpT rfl) <| Wm (.b true) rfl <| Nn ?_
     exact AWP.weak (Weak.toK 26 0 0 [0]) (J2 () hm)
   refine Wz (.b false) (Oq o rfl) <| Wz (.loc 0 5) (Ofa rfl) <| Wz (.s p0.Type_) (Old rfl) <| Wz (.b (decide (p0.Type_ ≠ ([] : List UInt8)))) (Ocs (lit_tf (by simp only [toS_inj, ne_eq])) (op_bin rfl (a1 := .string (toS p0.Type_)) (a2 := .string (toS ([] : List UInt8))) (by kernel_rfl) (by kernel_rfl) (fun _ => hb_sneq))) <| Wz (.b (decide (p0.Type_ ≠ ([] : List UInt8)))) (OpF rfl) ?_
   rcases br hm with ⟨p, hm⟩ | ⟨p, hm⟩
   · refine Wz (.b true) (Oq p rfl) <| Wn <| Wn <| Wn <| Wn <| Wz (.b true) (OpT rfl) <| Wm (.b true) rfl <| Nn ?_
     exact AWP.weak (Weak.toK 26 0 0 [0]) (J2 () hm)
   refine Wz (.b false) (Oq p rfl) <| Wz (.loc 0 6) (Ofa rfl) <| Wz (.l enc_GNode_ p0.Test) (Old rfl) <| Wz (.i ((List.length p0.Test : Nat) : Int)) (Oln rfl) <| Wz (.b (decide ((0 : Int) < ((List.length p0.Test : Nat) : Int)))) (Obn rfl (fun _ => hb_gtr (k := .i64))) <| Wz (.b (decide ((0 : Int) < ((List.length p0.Test : Nat) : Int)))) (OpF rfl) <| Wm (.b (decide ((0 : Int) < ((List.length p0.Test : Nat) : Int)))) rfl <| Nk 26 1 ⟨tp 1 (.loc 0 0::tp 1 (.b true::.b (decide ((0 : Int) < ((List.length p0.Test : Nat) : Int)))::tp 39 [])), [(.box [(.y p0.Kind), (.i p0.Kids), (.i p0.Lo), (.i p0.Hi), (.s p0.Var), (.s p0.Type_), (.l enc_GNode_ p0.Test)])], 0⟩ <| Sq <| Sx <| Wz (.agg [(.y p0.Kind), (.i p0.Kids), (.i p0.Lo), (.i p0.Hi), (.s p0.Var), (.s p0.Type_), (.l enc_GNode_ p0.Test)]) (Old rfl) ?_
   obtain ⟨c0, g0, hm⟩ := bnd hm
   refine Wz (.b c0) (Ocf [] [] [] 0 (ok_shape_Node_leaf p0 c0 g0) (fun a w => Try.call30 a w) rfl trivial) <| Nk 268435482 1 ⟨tp 1 (.loc 0 0::tp 1 (.b true::.b (decide ((0 : Int) < ((List.length p0.Test : Nat) : Int)))::tp 23 (.b c0::tp 15 []))), [(.box [(.y p0.Kind), (.i p0.Kids), (.i p0.Lo), (.i p0.Hi), (.s p0.Var), (.s p0.Type_), (.l enc_GNode_ p0.Test)])], 0⟩ ?_
   rcases br hm with ⟨d, hm⟩ | ⟨d, hm⟩
   · refine AiT d <| Sx <| Wm (.b true) rfl <| Wm (.b true) rfl <| Wn <| Wn <| Wn <| Wz (.b true) (OpT rfl) <| Wm (.b true) rfl <| Nn <| Rt <| Tr ?_
     obtain rfl := sj hm
     exact ret_i []
   refine AiF d <| Sk <| Tk 26 1 ⟨tp 1 (.loc 0 0::tp 1 (.b true::.b (decide ((0 : Int) < ((List.length p0.Test : Nat) : Int)))::tp 39 [])), [(.box [(.y p0.Kind), (.i p0.Kids), (.i p0.Lo), (.i p0.Hi), (.s p0.Var), (.s p0.Type_), (.l enc_GNode_ p0.Test)])], 0⟩ <| Sx <| Wm (.b (decide ((0 : Int) < ((List.length p0.Test : Nat) : Int)))) rfl ?_
   rcases br hm with ⟨q, hm⟩ | ⟨q, hm⟩
   · refine Wz (.b true) (Oq q rfl) <| Wn <| Wn <| Wn <| Wn <| Wn <| Wn <| Wz (.b true) (OpT rfl) <| Wm (.b true) rfl <| Nn <| Rt ?_
     obtain rfl := sj hm
     exact ret_i []
   refine Wz (.b false) (Oq q rfl) <| Wm (.b true) rfl <| Wm (.b true) rfl <| Wz (.loc 0 0) (Ofa rfl) <| Wz (.y p0.Kind) (Old rfl) <| Wz (.b (decide (((p0.Kind.toNat : Nat) : Int) ≠ 3))) (Ob2 (.int .u8 ((p0.Kind.toNat : Nat) : Int)) (.int .u8 3) rfl (fun _ => hb_neq)) <| Wz (.b (decide (((p0.Kind.toNat : Nat) : Int) ≠ 3))) (OpT rfl) <| Wz (.b (decide (((p0.Kind.toNat : Nat) : Int) ≠ 3))) (OpF rfl) <| Wm (.b (decide (((p0.Kind.toNat : Nat) : Int) ≠ 3))) rfl <| Nn <| Rt ?_
   obtain rfl := sj hm
   exact ret_i []
 refine Wz (.b false) (Oq a0 rfl) <| Wz (.loc 0 3) (Ofa rfl) <| Wz (.i p0.Hi) (Old rfl) <| Wz (.b (decide (p0.Hi ≠ 0))) (Obn rfl (fun _ => hb_neq (k := .i64))) <| Wz (.b (decide (p0.Hi ≠ 0))) (OpF rfl) <| Wm (.b (decide (p0.Hi ≠ 0))) rfl <| Nk 10 1 ⟨tp 1 (.loc 0 0::tp 1 (.b (decide (p0.Hi ≠ 0))::tp 40 [])), [(.box [(.y p0.Kind), (.i p0.Kids), (.i p0.Lo), (.i p0.Hi), (.s p0.Var), (.s p0.Type_), (.l enc_GNode_ p0.Test)])], 0⟩ ?_
 refine AWP.cutJ (α := Unit) (fun x => match x with | () => (⟨tp 1 (.loc 0 0::tp 1 (.b (decide (p0.Hi ≠ 0))::.b true::tp 39 [])), [(.box [(.y p0.Kind), (.i p0.Kids), (.i p0.Lo), (.i p0.Hi), (.s p0.Var), (.s p0.Type_), (.l enc_GNode_ p0.Test)])], 0⟩ : St)) (fun x => match x with | () => m_shape_Node_more_j7 p0 = some r) ?_ (fun J7 => ?_)
 ·
  rintro ⟨⟩ hm
  try dsimp only at hm ⊢
  unfold m_shape_Node_more_j7 at hm
  refine Sq <| Sx <| Wz (.agg [(.y p0.Kind), (.i p0.Kids), (.i p0.Lo), (.i p0.Hi), (.s p0.Var), (.s p0.Type_), (.l enc_GNode_ p0.Test)]) (Old rfl) ?_
  obtain ⟨d0, h0, hm⟩ := bnd hm
  refine Wz (.b d0) (Ocf [] [] [] 0 (ok_shape_Node_leaf p0 d0 h0) (fun a w => Try.call30 a w) rfl trivial) <| Nk 268435482 1 ⟨tp 1 (.loc 0 0::tp 1 (.b (decide (p0.Hi ≠ 0))::.b true::tp 23 (.b d0::tp 15 []))), [(.box [(.y p0.Kind), (.i p0.Kids), (.i p0.Lo), (.i p0.Hi), (.s p0.Var), (.s p0.Type_), (.l enc_GNode_ p0.Test)])], 0⟩ ?_
  rcases br hm with ⟨e, hm⟩ | ⟨e, hm⟩
  · refine AiT e <| Sx <| Wm (.b (decide (p0.Hi ≠ 0))) rfl ?_
    rcases br hm with ⟨t, hm⟩ | ⟨t, hm⟩
    · refine Wz (.b true) (Oq t rfl) <| Wn <| Wn <| Wn <| Wz (.b true) (OpT rfl) <| Wm (.b true) rfl <| Nn <| Rt <| Tr ?_
      obtain rfl := sj hm
      exact ret_i []
    refine Wz (.b false) (Oq t rfl) <| Wz (.loc 0 1) (Ofa rfl) <| Wz (.i p0.Kids) (Old rfl) <| Wz (.b (decide (p0.Kids ≠ 0))) (Obn rfl (fun _ => hb_neq (k := .i64))) <| Wz (.b (decide (p0.Kids ≠ 0))) (OpF rfl) <| Wm (.b (decide (p0.Kids ≠ 0))) rfl <| Nn <| Rt <| Tr ?_
    obtain rfl := sj hm
    exact ret_i []
  refine AiF e <| Sk <| Tk 26 1 ⟨tp 1 (.loc 0 0::tp 1 (.b (decide (p0.Hi ≠ 0))::.b true::tp 39 [])), [(.box [(.y p0.Kind), (.i p0.Kids), (.i p0.Lo), (.i p0.Hi), (.s p0.Var), (.s p0.Type_), (.l enc_GNode_ p0.Test)])], 0⟩ <| Sx <| Wm (.b true) rfl <| Wm (.b true) rfl <| Wn <| Wn <| Wn <| Wn <| Wn <| Wn <| Wz (.b true) (OpT rfl) <| Wm (.b true) rfl ?_
  refine Nn <| Rt ?_
  obtain rfl := sj hm
  exact ret_i []
 refine Sx <| Wz (.loc 0 4) (Ofa rfl) <| Wz (.s p0.Var) (Old rfl) <| Wz (.b (decide (p0.Var ≠ ([] : List UInt8)))) (Ocs (lit_tf (by simp only [toS_inj, ne_eq])) (op_bin rfl (a1 := .string (toS p0.Var)) (a2 := .string (toS ([] : List UInt8))) (by kernel_rfl) (by kernel_rfl) (fun _ => hb_sneq))) ?_
 rcases br hm with ⟨u, hm⟩ | ⟨u, hm⟩
 · refine Wz (.b true) (Oq u rfl) <| Wn <| Wn <| Wn <| Wz (.b true) (OpT rfl) <| Wm (.b true) rfl <| Wn <| Wn <| Wn <| Wn <| Wz (.b true) (OpT rfl) <| Wm (.b true) rfl <| Nn ?_
   exact AWP.weak (Weak.toK 26 0 0 [0]) (J7 () hm)
 refine Wz (.b false) (Oq u rfl) <| Wz (.loc 0 5) (Ofa rfl) <| Wz (.s p0.Type_) (Old rfl) <| Wz (.b (decide (p0.Type_ ≠ ([] : List UInt8)))) (Ocs (lit_tf (by simp only [toS_inj, ne_eq])) (op_bin rfl (a1 := .string (toS p0.Type_)) (a2 := .string (toS ([] : List UInt8))) (by kernel_rfl) (by kernel_rfl) (fun _ => hb_sneq))) <| Wz (.b (decide (p0.Type_ ≠ ([] : List UInt8)))) (OpF rfl) ?_
 rcases br hm with ⟨v, hm⟩ | ⟨v, hm⟩
 · refine Wz (.b true) (Oq v rfl) <| Wn <| Wn <| Wn <| Wn <| Wz (.b true) (OpT rfl) <| Wm (.b true) rfl <| Nn ?_
   exact AWP.weak (Weak.toK 26 0 0 [0]) (J7 () hm)
 refine Wz (.b false) (Oq v rfl) <| Wz (.loc 0 6) (Ofa rfl) <| Wz (.l enc_GNode_ p0.Test) (Old rfl) <| Wz (.i ((List.length p0.Test : Nat) : Int)) (Oln rfl) <| Wz (.b (decide ((0 : Int) < ((List.length p0.Test : Nat) : Int)))) (Obn rfl (fun _ => hb_gtr (k := .i64))) <| Wz (.b (decide ((0 : Int) < ((List.length p0.Test : Nat) : Int)))) (OpF rfl) <| Wm (.b (decide ((0 : Int) < ((List.length p0.Test : Nat) : Int)))) rfl <| Nk 26 1 ⟨tp 1 (.loc 0 0::tp 1 (.b (decide (p0.Hi ≠ 0))::.b (decide ((0 : Int) < ((List.length p0.Test : Nat) : Int)))::tp 39 [])), [(.box [(.y p0.Kind), (.i p0.Kids), (.i p0.Lo), (.i p0.Hi), (.s p0.Var), (.s p0.Type_), (.l enc_GNode_ p0.Test)])], 0⟩ <| Sq <| Sx <| Wz (.agg [(.y p0.Kind), (.i p0.Kids), (.i p0.Lo), (.i p0.Hi), (.s p0.Var), (.s p0.Type_), (.l enc_GNode_ p0.Test)]) (Old rfl) ?_
 obtain ⟨z, e0, hm⟩ := bnd hm
 refine Wz (.b z) (Ocf [] [] [] 0 (ok_shape_Node_leaf p0 z e0) (fun a w => Try.call30 a w) rfl trivial) <| Nk 268435482 1 ⟨tp 1 (.loc 0 0::tp 1 (.b (decide (p0.Hi ≠ 0))::.b (decide ((0 : Int) < ((List.length p0.Test : Nat) : Int)))::tp 23 (.b z::tp 15 []))), [(.box [(.y p0.Kind), (.i p0.Kids), (.i p0.Lo), (.i p0.Hi), (.s p0.Var), (.s p0.Type_), (.l enc_GNode_ p0.Test)])], 0⟩ ?_
 rcases br hm with ⟨f, hm⟩ | ⟨f, hm⟩
 · refine AiT f <| Sx <| Wm (.b (decide (p0.Hi ≠ 0))) rfl ?_
   rcases br hm with ⟨g, hm⟩ | ⟨g, hm⟩
   · refine Wz (.b true) (Oq g rfl) <| Wn <| Wn <| Wn <| Wz (.b true) (OpT rfl) <| Wm (.b true) rfl <| Nn <| Rt <| Tr ?_
     obtain rfl := sj hm
     exact ret_i []
   refine Wz (.b false) (Oq g rfl) <| Wz (.loc 0 1) (Ofa rfl) <| Wz (.i p0.Kids) (Old rfl) <| Wz (.b (decide (p0.Kids ≠ 0))) (Obn rfl (fun _ => hb_neq (k := .i64))) <| Wz (.b (decide (p0.Kids ≠ 0))) (OpF rfl) <| Wm (.b (decide (p0.Kids ≠ 0))) rfl <| Nn <| Rt <| Tr ?_
   obtain rfl := sj hm
   exact ret_i []
 refine AiF f <| Sk <| Tk 26 1 ⟨tp 1 (.loc 0 0::tp 1 (.b (decide (p0.Hi ≠ 0))::.b (decide ((0 : Int) < ((List.length p0.Test : Nat) : Int)))::tp 39 [])), [(.box [(.y p0.Kind), (.i p0.Kids), (.i p0.Lo), (.i p0.Hi), (.s p0.Var), (.s p0.Type_), (.l enc_GNode_ p0.Test)])], 0⟩ <| Sx <| Wm (.b (decide ((0 : Int) < ((List.length p0.Test : Nat) : Int)))) rfl ?_
 rcases br hm with ⟨j, hm⟩ | ⟨j, hm⟩
 · refine Wz (.b true) (Oq j rfl) <| Wn <| Wn <| Wn <| Wn <| Wn <| Wn <| Wz (.b true) (OpT rfl) <| Wm (.b true) rfl <| Nn <| Rt ?_
   obtain rfl := sj hm
   exact ret_i []
 refine Wz (.b false) (Oq j rfl) <| Wm (.b (decide (p0.Hi ≠ 0))) rfl ?_
 rcases br hm with ⟨m, hm⟩ | ⟨m, hm⟩
 · refine Wz (.b true) (Oq m rfl) <| Wz (.loc 0 0) (Ofa rfl) <| Wz (.y p0.Kind) (Old rfl) <| Wz (.b (decide (((p0.Kind.toNat : Nat) : Int) ≠ 3))) (Ob2 (.int .u8 ((p0.Kind.toNat : Nat) : Int)) (.int .u8 3) rfl (fun _ => hb_neq)) <| Wz (.b (decide (((p0.Kind.toNat : Nat) : Int) ≠ 3))) (OpT rfl) <| Wz (.b (decide (((p0.Kind.toNat : Nat) : Int) ≠ 3))) (OpF rfl) <| Wm (.b (decide (((p0.Kind.toNat : Nat) : Int) ≠ 3))) rfl <| Nn <| Rt ?_
   obtain rfl := sj hm
   exact ret_i []
 refine Wz (.b false) (Oq m rfl) <| Wn <| Wn <| Wn <| Wz (.b false) (OpF rfl) <| Wz (.b false) (OpF rfl) <| Wm (.b false) rfl <| Nn <| Rt ?_
 obtain rfl := sj hm
 exact ret_i []

theorem ok_shape_Node_kids (p0 : GNode) (r : Int) (h : m_shape_Node_kids p0 = some r) : GCall Try.prog 23 [(.agg [(.y p0.Kind), (.i p0.Kids), (.i p0.Lo), (.i p0.Hi), (.s p0.Var), (.s p0.Type_), (.l enc_GNode_ p0.Test)])] [] (.i r) [] := by
 refine GCall.of_body (n := 14) (rs := [(.tmp 2)]) Try.func23 rfl rfl rfl <| Ato ⟨.agg [(.y p0.Kind), (.i p0.Kids), (.i p0.Lo), (.i p0.Hi), (.s p0.Var), (.s p0.Type_), (.l enc_GNode_ p0.Test)]::tu 13 [], [], 0⟩ ?_
 have hm := h
 unfold m_shape_Node_kids at hm
 refine Sx <| Wy (.loc 0 0) [(0, (.box [(.y p0.Kind), (.i p0.Kids), (.i p0.Lo), (.i p0.Hi), (.s p0.Var), (.s p0.Type_), (.l enc_GNode_ p0.Test)]))] (Obx rfl) <| Wm (.i 0) rfl <| Nk 2 1 ⟨tp 1 (.loc 0 0::tp 12 []), [(.box [(.y p0.Kind), (.i p0.Kids), (.i p0.Lo), (.i p0.Hi), (.s p0.Var), (.s p0.Type_), (.l enc_GNode_ p0.Test)])], 0⟩ <| Sq <| Bk <| Sx <| Wz (.agg [(.y p0.Kind), (.i p0.Kids), (.i p0.Lo), (.i p0.Hi), (.s p0.Var), (.s p0.Type_), (.l enc_GNode_ p0.Test)]) (Old rfl) ?_
 obtain ⟨d, f, hm⟩ := bnd hm
 refine Wz (.b d) (Ocf [] [] [] 0 (ok_shape_Node_list p0 d f) (fun a w => Try.call40 a w) rfl trivial) <| Wm (.b d) rfl <| Nk 10 1 ⟨tp 1 (.loc 0 0::tp 1 (.b d::tp 10 [])), [(.box [(.y p0.Kind), (.i p0.Kids), (.i p0.Lo), (.i p0.Hi), (.s p0.Var), (.s p0.Type_), (.l enc_GNode_ p0.Test)])], 0⟩ ?_
 rcases br hm with ⟨e, hm⟩ | ⟨e, hm⟩
 · refine AiT e <| Sx <| Wz (.loc 0 1) (Ofa rfl) <| Wz (.i p0.Kids) (Old rfl) <| Wz (.i (min p0.Kids 40)) (op_bi2 rfl (a1 := .int .i64 p0.Kids) (a2 := .int .i64 40) (by kernel_rfl) (by kernel_rfl) hb_min) <| Wz (.i (max 0 (min p0.Kids 40))) (op_bi2 rfl (a1 := .int .i64 0) (a2 := .int .i64 (min p0.Kids 40)) (by kernel_rfl) (by kernel_rfl) hb_max) <| Wm (.i (max 0 (min p0.Kids 40))) rfl <| Nn <| Rt <| Ir <| Tr ?_
   obtain rfl := sj hm
   exact ret_i []
 refine AiF e <| Sx <| Wz (.loc 0 0) (Ofa rfl) <| Wz (.y p0.Kind) (Old rfl) <| Wz (.b (decide (((p0.Kind.toNat : Nat) : Int) = 3))) (Ob2 (.int .u8 ((p0.Kind.toNat : Nat) : Int)) (.int .u8 3) rfl (fun _ => hb_eql)) <| Wm (.b (decide (((p0.Kind.toNat : Nat) : Int) = 3))) rfl <| Nk 1024 0 ⟨tp 10 (.b (decide (((p0.Kind.toNat : Nat) : Int) = 3))::tp 3 []), [.gone], 0⟩ ?_
 rcases br hm with ⟨c, hm⟩ | ⟨c, hm⟩
 · refine AiT c <| Sx <| Wm (.i 1) rfl <| Nn <| Rt <| Ir <| Tr ?_
   obtain rfl := sj hm
   exact ret_i []
 refine AiF c <| Sk <| Ino <| Tk 0 0 ⟨tp 14 [], [.gone], 0⟩ <| Sx <| Wm (.i 0) rfl <| Nn <| Rt ?_
 obtain rfl := sj hm
 exact ret_i []

theorem ok_shape_tree : ∀ (fuR : Nat) (p0 : (List GNode)) (p1 : UInt8) (p2 : Int) (r : ((List GNode) × Int)) (h : m_shape_tree fuR p0 p1 p2 = some r), GCall Try.prog 25 [(.l enc_GNode p0), (.y p1), (.i p2)] [] (.tup [(.l enc_GNode r.1), (.i r.2)]) [] := by
 intro fuR; induction fuR with
 | zero => intro p0 p1 p2 r h; exact absurd h (by unfold m_shape_tree; simp)
 | succ fuR ih =>
 intro p0 p1 p2 r h
 refine GCall.of_body (n := 60) (rs := [(.tmp 6), (.tmp 7)]) Try.func25 rfl rfl rfl <| Ato ⟨.l enc_GNode p0::.y p1::.i p2::tu 57 [], [], 0⟩ ?_
 have hm := h
 unfold m_shape_tree at hm
 refine Sx <| Wm (.d .nil) rfl <| Wm (.i 0) rfl <| Nk 7 0 ⟨.l enc_GNode p0::.y p1::.i p2::tp 57 [], [], 0⟩ <| Sq <| Bk <| Sx <| Wm (.l enc_GNode p0) rfl <| Wz (.i ((List.length p0 : Nat) : Int)) (Oln rfl) <| Wz (.b (decide (((List.length p0 : Nat) : Int) = 0))) (Obn rfl (fun _ => hb_eql (k := .i64))) <| Wm (.b (decide (((List.length p0 : Nat) : Int) = 0))) rfl <| Nk 4103 0 ⟨.l enc_GNode p0::.y p1::.i p2::tp 9 (.b (decide (((List.length p0 : Nat) : Int) = 0))::tp 47 []), [], 0⟩ ?_
 rcases br hm with ⟨f0, hm⟩ | ⟨f0, hm⟩
 · refine AiT f0 <| Sx <| Wm (.d .nil) rfl <| Wm (.i 3) rfl <| Nn <| Rt <| Ir <| Tr ?_
   obtain rfl := sj hm
   exact ret_i []
 refine AiF f0 <| Sx <| Wm (.i p2) rfl <| Wz (.b (decide ((16 : Int) ≤ p2))) (Obn rfl (fun _ => hb_geq (k := .i64))) <| Wm (.b (decide ((16 : Int) ≤ p2))) rfl <| Nk 65543 0 ⟨.l enc_GNode p0::.y p1::.i p2::tp 13 (.b (decide ((16 : Int) ≤ p2))::tp 43 []), [], 0⟩ ?_
 rcases br hm with ⟨g0, hm⟩ | ⟨g0, hm⟩
 · refine AiT g0 <| Sx <| Wm (.d .nil) rfl <| Wm (.i 15) rfl <| Nn <| Rt <| Ir <| Tr ?_
   obtain rfl := sj hm
   exact ret_i []
 refine AiF g0 <| Sx <| Wm (.l enc_GNode p0) rfl ?_
 obtain ⟨o, u0, hm⟩ := bnd hm
 obtain ⟨l0, h0⟩ := geti_some u0
 refine Wz (.d (.ref (List.drop ((Int.toNat 0) * 7) (flatD enc_GNode p0)))) (Oia rfl enc_GNode_len l0 h0) <| Wz (.agg [(.y o.Kind), (.i o.Kids), (.i o.Lo), (.i o.Hi), (.s o.Var), (.s o.Type_), (.l enc_GNode_ o.Test)]) (Lf rfl enc_GNode_len h0) <| Wm (.y p1) rfl ?_
 obtain ⟨t, v0, hm⟩ := bnd hm
 refine Wz (.b t) (Ocf [] [] [] 0 (ok_shape_Node_stands o p1 t v0) (fun a w => Try.call41 a w) rfl trivial) <| Wz (.b (!t)) (Ocs (by kernel_rfl) (op_un rfl (a1 := .bool t) (by kernel_rfl) (fun _ => hu_not))) <| Wm (.b (!t)) rfl <| Nk 524293 0 ⟨.l enc_GNode p0::tp 1 (.i p2::tp 16 (.b (!t)::tp 40 [])), [], 0⟩ ?_
 rcases br hm with ⟨v, hm⟩ | ⟨v, hm⟩
 · refine AiT v <| Sx <| Wm (.d .nil) rfl <| Wm (.i 11) rfl <| Nn <| Rt <| Ir <| Tr ?_
   obtain rfl := sj hm
   exact ret_i []
 refine AiF v <| Sx <| Wm (.l enc_GNode p0) rfl ?_
 obtain ⟨p, w0, hm⟩ := bnd hm
 obtain ⟨m0, i0⟩ := geti_some w0
 refine Wz (.d (.ref (List.drop ((Int.toNat 0) * 7) (flatD enc_GNode p0)))) (Oia rfl enc_GNode_len m0 i0) <| Wz (.agg [(.y p.Kind), (.i p.Kids), (.i p.Lo), (.i p.Hi), (.s p.Var), (.s p.Type_), (.l enc_GNode_ p.Test)]) (Lf rfl enc_GNode_len i0) ?_
 obtain ⟨d0, x0, hm⟩ := bnd hm
 refine Wz (.b d0) (Ocf [] [] [] 0 (ok_shape_Node_lacks p d0 x0) (fun a w => Try.call42 a w) rfl trivial) <| Wm (.b d0) rfl <| Nk 67108869 0 ⟨.l enc_GNode p0::tp 1 (.i p2::tp 23 (.b d0::tp 33 [])), [], 0⟩ ?_
 rcases br hm with ⟨z, hm⟩ | ⟨z, hm⟩
 · refine AiT z <| Sx <| Wm (.d .nil) rfl <| Wm (.i 4) rfl <| Nn <| Rt <| Ir <| Tr ?_
   obtain rfl := sj hm
   exact ret_i []
 refine AiF z <| Sx <| Wm (.l enc_GNode p0) rfl ?_
 obtain ⟨q, y0, hm⟩ := bnd hm
 obtain ⟨n0, j0⟩ := geti_some y0
 refine Wz (.d (.ref (List.drop ((Int.toNat 0) * 7) (flatD enc_GNode p0)))) (Oia rfl enc_GNode_len n0 j0) <| Wz (.agg [(.y q.Kind), (.i q.Kids), (.i q.Lo), (.i q.Hi), (.s q.Var), (.s q.Type_), (.l enc_GNode_ q.Test)]) (Lf rfl enc_GNode_len j0) ?_
 obtain ⟨e0, z0, hm⟩ := bnd hm
 refine Wz (.b e0) (Ocf [] [] [] 0 (ok_shape_Node_more q e0 z0) (fun a w => Try.call43 a w) rfl trivial) <| Wm (.b e0) rfl <| Nk 2147483653 0 ⟨.l enc_GNode p0::tp 1 (.i p2::tp 28 (.b e0::tp 28 [])), [], 0⟩ ?_
 rcases br hm with ⟨a0, hm⟩ | ⟨a0, hm⟩
 · refine AiT a0 <| Sx <| Wm (.d .nil) rfl <| Wm (.i 2) rfl <| Nn <| Rt <| Ir <| Tr ?_
   obtain rfl := sj hm
   exact ret_i []
 refine AiF a0 <| Sk <| Ino <| Tk 5 0 ⟨.l enc_GNode p0::tp 1 (.i p2::tp 57 []), [], 0⟩ <| Sq <| Adr <| Wm (.l enc_GNode p0) rfl ?_
 obtain ⟨c, b1, hm⟩ := bnd hm
 obtain ⟨o0, k0⟩ := geti_some b1
 refine Wz (.d (.ref (List.drop ((Int.toNat 0) * 7) (flatD enc_GNode p0)))) (Oia rfl enc_GNode_len o0 k0) <| Wz (.agg [(.y c.Kind), (.i c.Kids), (.i c.Lo), (.i c.Hi), (.s c.Var), (.s c.Type_), (.l enc_GNode_ c.Test)]) (Lf rfl enc_GNode_len k0) <| Wm (.l enc_GNode p0) rfl ?_
 obtain ⟨u, c1, hm⟩ := bnd hm; obtain ⟨q0, f1, r0, s0, t0⟩ := cut_some c1
 refine Wz (.l enc_GNode u) (op_cut rfl (e := 44) (sz := 7) (by kernel_rfl) (l := p0) (enc := enc_GNode) (by kernel_rfl) enc_GNode_len (a := (Int.toNat 1)) (b := (Int.toNat ((List.length p0 : Nat) : Int))) (⟨.i64, 1, by kernel_rfl, q0⟩) (by exact rfl) r0 s0 t0) <| Wy (.loc 0 0) [(0, (.box [(.y 0), (.i 0), (.i 0), (.i 0), (.s ([] : List UInt8)), (.s ([] : List UInt8)), (.d .nil)]))] (Oal rfl) <| Wy (.tup []) [(0, (.box [(.y c.Kind), (.i c.Kids), (.i c.Lo), (.i c.Hi), (.s c.Var), (.s c.Type_), (.l enc_GNode_ c.Test)]))] (Ost rfl) <| Wm (.l enc_GNode u) rfl <| Wdr <| Tk 772 1 ⟨tp 2 (.i p2::tp 5 (.loc 0 0::.l enc_GNode u::tp 50 [])), [(.box [(.y c.Kind), (.i c.Kids), (.i c.Lo), (.i c.Hi), (.s c.Var), (.s c.Type_), (.l enc_GNode_ c.Test)])], 0⟩ <| Sq <| Sx <| Wz (.agg [(.y c.Kind), (.i c.Kids), (.i c.Lo), (.i c.Hi), (.s c.Var), (.s c.Type_), (.l enc_GNode_ c.Test)]) (Old rfl) ?_
 obtain ⟨j, d1, hm⟩ := bnd hm
 refine Wz (.i j) (Ocf [] [] [] 0 (ok_shape_Node_kids c j d1) (fun a w => Try.call23 a w) rfl trivial) <| Wm (.i 0) rfl <| Nk 13194139534084 1 ⟨tp 2 (.i p2::tp 5 (.loc 0 0::.l enc_GNode u::tp 32 (.i j::.i 0::tp 16 []))), [(.box [(.y c.Kind), (.i c.Kids), (.i c.Lo), (.i c.Hi), (.s c.Var), (.s c.Type_), (.l enc_GNode_ c.Test)])], 0⟩ <| Bk ?_
 refine AWP.loopI (α := Nat × (List GNode) × Int)
   (fun (fu_6, m, g) => (⟨tp 2 (.i p2::tp 5 (.loc 0 0::.l enc_GNode m::tp 32 (.i j::.i g::tp 16 []))), [(.box [(.y c.Kind), (.i c.Kids), (.i c.Lo), (.i c.Hi), (.s c.Var), (.s c.Type_), (.l enc_GNode_ c.Test)])], 0⟩ : St))
   (fun (fu_6, m, g) => m_shape_tree_l6 p2 j c (fun p0 p1 p2 => m_shape_tree fuR p0 p1 p2) fu_6 m g = some r)
   (fun (fu_6, m, g) => fu_6) (1152921504606846976, u, 0)
   (Weak.toK 13194139534084 0 0 [0]) hm ?_
 rintro ⟨fu_6, m, g⟩ n_6 hm ih_6
 try dsimp only at hm ih_6 ⊢
 cases fu_6 with
 | zero => exact absurd hm (by unfold m_shape_tree_l6; simp)
 | succ fu_6 =>
  unfold m_shape_tree_l6 at hm
  refine Sx <| Wz (.b (decide (g < j))) (Obn rfl (fun _ => hb_lss (k := .i64))) <| Nk 30786325578500 1 ⟨tp 2 (.i p2::tp 5 (.loc 0 0::.l enc_GNode m::tp 32 (.i j::.i g::.b (decide (g < j))::tp 15 []))), [(.box [(.y c.Kind), (.i c.Kids), (.i c.Lo), (.i c.Hi), (.s c.Var), (.s c.Type_), (.l enc_GNode_ c.Test)])], 0⟩ <| Sq ?_
  rcases br hm with ⟨b0, hm⟩ | ⟨b0, hm⟩
  · refine AiT b0 <| Sk <| Tk 13194139534084 1 ⟨tp 2 (.i p2::tp 5 (.loc 0 0::.l enc_GNode m::tp 32 (.i j::.i g::tp 16 []))), [(.box [(.y c.Kind), (.i c.Kids), (.i c.Lo), (.i c.Hi), (.s c.Var), (.s c.Type_), (.l enc_GNode_ c.Test)])], 0⟩ <| Sq <| Bk <| Sx <| Wm (.l enc_GNode m) rfl <| Wz (.loc 0 0) (Ofa rfl) <| Wz (.y c.Kind) (Old rfl) <| Wm (.i p2) rfl <| Wz (.i (W6 (p2 + 1))) (Obn rfl (fun _ => hb_add (k := .i64))) ?_
    obtain ⟨f, e1, hm⟩ := bnd hm
    refine Wz (.tup [(.l enc_GNode f.1), (.i f.2)]) (Ocf [] [] [] 0 (ih m c.Kind (W6 (p2 + 1)) f e1) (fun a w => Try.call25 a w) rfl trivial) <| Wm (.tup [(.l enc_GNode f.1), (.i f.2)]) rfl <| Wz (.l enc_GNode f.1) (Oex rfl) <| Wz (.i f.2) (Oex rfl) <| Wm (.l enc_GNode f.1) rfl <| Wm (.i f.2) rfl <| Nk 13194139536644 1 ⟨tp 2 (.i p2::tp 5 (.loc 0 0::tp 1 (.l enc_GNode f.1::.i f.2::tp 30 (.i j::.i g::tp 16 [])))), [(.box [(.y c.Kind), (.i c.Kids), (.i c.Lo), (.i c.Hi), (.s c.Var), (.s c.Type_), (.l enc_GNode_ c.Test)])], 0⟩ <| Sq <| Sx <| Wm (.i f.2) rfl <| Wz (.b (decide (f.2 ≠ 0))) (Obn rfl (fun _ => hb_neq (k := .i64))) <| Nk 36041991158500612 1 ⟨tp 2 (.i p2::tp 5 (.loc 0 0::tp 1 (.l enc_GNode f.1::.i f.2::tp 30 (.i j::.i g::tp 11 (.b (decide (f.2 ≠ 0))::tp 4 []))))), [(.box [(.y c.Kind), (.i c.Kids), (.i c.Lo), (.i c.Hi), (.s c.Var), (.s c.Type_), (.l enc_GNode_ c.Test)])], 0⟩ ?_
    rcases br hm with ⟨c0, hm⟩ | ⟨c0, hm⟩
    · refine AiT c0 <| Sx <| Wm (.i f.2) rfl <| Wm (.d .nil) rfl <| Wm (.i f.2) rfl <| Nn <| Rt <| Tr <| Ir <| Tr <| RoundK.ret <| Ir <| Tr ?_
      obtain rfl := sj hm
      exact ret_i []
    refine AiF c0 <| Sk <| Tk 13194139534596 1 ⟨tp 2 (.i p2::tp 5 (.loc 0 0::tp 1 (.l enc_GNode f.1::tp 31 (.i j::.i g::tp 16 [])))), [(.box [(.y c.Kind), (.i c.Kids), (.i c.Lo), (.i c.Hi), (.s c.Var), (.s c.Type_), (.l enc_GNode_ c.Test)])], 0⟩ <| Tx <| Wm (.l enc_GNode f.1) rfl <| Wm (.l enc_GNode f.1) rfl <| Wn0 <| Ino <| Tk 13194139534084 1 ⟨tp 2 (.i p2::tp 5 (.loc 0 0::.l enc_GNode f.1::tp 32 (.i j::.i g::tp 16 []))), [(.box [(.y c.Kind), (.i c.Kids), (.i c.Lo), (.i c.Hi), (.s c.Var), (.s c.Type_), (.l enc_GNode_ c.Test)])], 0⟩ <| Tx <| Wz (.i (W6 (g + 1))) (Obn rfl (fun _ => hb_add (k := .i64))) <| Wm (.i (W6 (g + 1))) rfl <| Wn0 <| RoundK.normal ?_
    exact Rounds.weak (Weak.toK 13194139534084 0 0 [0]) (ih_6 (fu_6, f.1, (W6 (g + 1))) hm (Nat.lt_succ_self _))
  refine AiF b0 <| AWP.exit <| Then.exit <| RoundK.exit <| InBlock.same <| Tk 512 0 ⟨tp 9 (.l enc_GNode m::tp 50 []), [.gone], 0⟩ <| Sx <| Wm (.l enc_GNode m) rfl <| Wm (.l enc_GNode m) rfl <| Wm (.i 0) rfl <| Nn <| Rt ?_
  obtain rfl := sj hm
  exact ret_i []

theorem ok_shape_Word (p0 : UInt8) (r : (List UInt8)) (h : m_shape_Word p0 = some r) : GCall Try.prog 15 [(.y p0)] [] (.s r) [] := by
 refine GCall.of_body (n := 10) (rs := [(.tmp 2)]) Try.func15 rfl rfl rfl <| Ato ⟨.y p0::tu 9 [], [], 0⟩ ?_
 have hm := h
 unfold m_shape_Word at hm
 refine Sx <| Wm (.s ([] : List UInt8)) rfl <| Nk 1 0 ⟨.y p0::tp 9 [], [], 0⟩ <| Sq <| Sx <| Wm (.y p0) rfl <| Nk 8 0 ⟨tp 3 (.y p0::tp 6 []), [], 0⟩ <| Bk <| Sx <| Wz (.b (decide (((p0.toNat : Nat) : Int) = 1))) (Ob2 (.int .u8 ((p0.toNat : Nat) : Int)) (.int .u8 1) rfl (fun _ => hb_eql)) <| Wm (.b (decide (((p0.toNat : Nat) : Int) = 1))) rfl <| Nk 24 0 ⟨tp 3 (.y p0::.b (decide (((p0.toNat : Nat) : Int) = 1))::tp 5 []), [], 0⟩ ?_
 rcases br hm with ⟨c, hm⟩ | ⟨c, hm⟩
 · refine AiT c <| Sx <| Wm (.s ([97, 110, 121] : List UInt8)) rfl <| Nn <| Rt <| Ir <| Tr ?_
   obtain rfl := sj hm
   exact ret_i []
 refine AiF c <| Sx <| Wz (.b (decide (((p0.toNat : Nat) : Int) = 2))) (Ob2 (.int .u8 ((p0.toNat : Nat) : Int)) (.int .u8 2) rfl (fun _ => hb_eql)) <| Wm (.b (decide (((p0.toNat : Nat) : Int) = 2))) rfl <| Nk 72 0 ⟨tp 3 (.y p0::tp 2 (.b (decide (((p0.toNat : Nat) : Int) = 2))::tp 3 [])), [], 0⟩ ?_
 rcases br hm with ⟨d, hm⟩ | ⟨d, hm⟩
 · refine AiT d <| Sx <| Wm (.s ([110, 101, 120, 116] : List UInt8)) rfl <| Nn <| Rt <| Ir <| Tr ?_
   obtain rfl := sj hm
   exact ret_i []
 refine AiF d <| Sx <| Wz (.b (decide (((p0.toNat : Nat) : Int) = 3))) (Ob2 (.int .u8 ((p0.toNat : Nat) : Int)) (.int .u8 3) rfl (fun _ => hb_eql)) <| Wm (.b (decide (((p0.toNat : Nat) : Int) = 3))) rfl <| Nk 256 0 ⟨tp 8 (.b (decide (((p0.toNat : Nat) : Int) = 3))::tp 1 []), [], 0⟩ ?_
 rcases br hm with ⟨e, hm⟩ | ⟨e, hm⟩
 · refine AiT e <| Sx <| Wm (.s ([115, 116, 114, 105, 99, 116] : List UInt8)) rfl <| Nn <| Rt <| Ir <| Tr ?_
   obtain rfl := sj hm
   exact ret_i []
 refine AiF e <| Sk <| Ino <| Tk 0 0 ⟨tp 10 [], [], 0⟩ <| Sx <| Wm (.s ([] : List UInt8)) rfl <| Nn <| Rt ?_
 obtain rfl := sj hm
 exact ret_i []

theorem ok_shape_Check (p0 : GPattern) (r : Int) (h : m_shape_Check p0 = some r) : GCall Try.prog 11 [(.agg [(.l enc_GNode p0.Body), (.i p0.Within), (.s p0.By), (.y p0.Mode)])] [] (.i r) [] := by
 refine GCall.of_body (n := 47) (rs := [(.tmp 2)]) Try.func11 rfl rfl rfl <| Ato ⟨.agg [(.l enc_GNode p0.Body), (.i p0.Within), (.s p0.By), (.y p0.Mode)]::tu 46 [], [], 0⟩ ?_
 have hm := h
 unfold m_shape_Check at hm
 refine Sx <| Wy (.loc 0 0) [(0, (.box [(.l enc_GNode p0.Body), (.i p0.Within), (.s p0.By), (.y p0.Mode)]))] (Obx rfl) <| Wm (.i 0) rfl <| Nk 2 1 ⟨tp 1 (.loc 0 0::tp 45 []), [(.box [(.l enc_GNode p0.Body), (.i p0.Within), (.s p0.By), (.y p0.Mode)])], 0⟩ <| Sq <| Sx <| Wz (.loc 0 0) (Ofa rfl) <| Wz (.l enc_GNode p0.Body) (Old rfl) <| Wz (.i ((List.length p0.Body : Nat) : Int)) (Oln rfl) <| Wz (.b (decide ((40 : Int) < ((List.length p0.Body : Nat) : Int)))) (Obn rfl (fun _ => hb_gtr (k := .i64))) <| Nk 258 1 ⟨tp 1 (.loc 0 0::tp 6 (.b (decide ((40 : Int) < ((List.length p0.Body : Nat) : Int)))::tp 38 [])), [(.box [(.l enc_GNode p0.Body), (.i p0.Within), (.s p0.By), (.y p0.Mode)])], 0⟩ ?_
 rcases br hm with ⟨v, hm⟩ | ⟨v, hm⟩
 · refine AiT v <| Sx <| Wm (.i 5) rfl <| Nn <| Rt <| Tr ?_
   obtain rfl := sj hm
   exact ret_i []
 refine AiF v <| Sk <| Tk 2 1 ⟨tp 1 (.loc 0 0::tp 45 []), [(.box [(.l enc_GNode p0.Body), (.i p0.Within), (.s p0.By), (.y p0.Mode)])], 0⟩ <| Sx <| Wz (.loc 0 0) (Ofa rfl) <| Wz (.l enc_GNode p0.Body) (Old rfl) ?_
 obtain ⟨c, z, hm⟩ := bnd hm
 refine Wz (.tup [(.l enc_GNode c.1), (.i c.2)]) (Ocf [] [] [] 0 (ok_shape_tree 1152921504606846976 p0.Body 0 0 c z) (fun a w => Try.call25 a w) rfl trivial) <| Wm (.tup [(.l enc_GNode c.1), (.i c.2)]) rfl <| Wz (.l enc_GNode c.1) (Oex rfl) <| Wz (.i c.2) (Oex rfl) <| Wm (.l enc_GNode c.1) rfl <| Wm (.i c.2) rfl <| Nk 26 1 ⟨tp 1 (.loc 0 0::tp 1 (.l enc_GNode c.1::.i c.2::tp 42 [])), [(.box [(.l enc_GNode p0.Body), (.i p0.Within), (.s p0.By), (.y p0.Mode)])], 0⟩ <| Sq <| Bk <| Sx <| Wm (.i c.2) rfl <| Wz (.b (decide (c.2 ≠ 0))) (Obn rfl (fun _ => hb_neq (k := .i64))) <| Wm (.b (decide (c.2 ≠ 0))) rfl <| Nk 32794 1 ⟨tp 1 (.loc 0 0::tp 1 (.l enc_GNode c.1::.i c.2::tp 10 (.b (decide (c.2 ≠ 0))::tp 31 []))), [(.box [(.l enc_GNode p0.Body), (.i p0.Within), (.s p0.By), (.y p0.Mode)])], 0⟩ ?_
 rcases br hm with ⟨p, hm⟩ | ⟨p, hm⟩
 · refine AiT p <| Sx <| Wm (.i c.2) rfl <| Wm (.i c.2) rfl <| Nn <| Rt <| Ir <| Tr ?_
   obtain rfl := sj hm
   exact ret_i []
 refine AiF p <| Sx <| Wm (.l enc_GNode c.1) rfl <| Wz (.i ((List.length c.1 : Nat) : Int)) (Oln rfl) <| Wz (.b (decide ((0 : Int) < ((List.length c.1 : Nat) : Int)))) (Obn rfl (fun _ => hb_gtr (k := .i64))) <| Wm (.b (decide ((0 : Int) < ((List.length c.1 : Nat) : Int)))) rfl <| Nk 524290 1 ⟨tp 1 (.loc 0 0::tp 17 (.b (decide ((0 : Int) < ((List.length c.1 : Nat) : Int)))::tp 27 [])), [(.box [(.l enc_GNode p0.Body), (.i p0.Within), (.s p0.By), (.y p0.Mode)])], 0⟩ ?_
 rcases br hm with ⟨q, hm⟩ | ⟨q, hm⟩
 · refine AiT q <| Sx <| Wm (.i 5) rfl <| Nn <| Rt <| Ir <| Tr ?_
   obtain rfl := sj hm
   exact ret_i []
 refine AiF q <| Sx <| Wz (.loc 0 1) (Ofa rfl) <| Wz (.i p0.Within) (Old rfl) <| Wz (.b (decide (p0.Within < 1))) (Obn rfl (fun _ => hb_lss (k := .i64))) ?_
 rcases br hm with ⟨t, hm⟩ | ⟨t, hm⟩
 · refine Wz (.b true) (Oq t rfl) <| Wn <| Wn <| Wn <| Wz (.b true) (OpT rfl) <| Wm (.b true) rfl <| Nk 8388610 1 ⟨tp 1 (.loc 0 0::tp 21 (.b true::tp 23 [])), [(.box [(.l enc_GNode p0.Body), (.i p0.Within), (.s p0.By), (.y p0.Mode)])], 0⟩ <| AWP.if_ true (by kernel_rfl) <| Sx <| Wm (.i 8) rfl <| Nn <| Rt <| Ir <| Tr ?_
   obtain rfl := sj hm
   exact ret_i []
 refine Wz (.b false) (Oq t rfl) <| Wz (.loc 0 1) (Ofa rfl) <| Wz (.i p0.Within) (Old rfl) <| Wz (.b (decide ((1073741824 : Int) < p0.Within))) (Obn rfl (fun _ => hb_gtr (k := .i64))) <| Wz (.b (decide ((1073741824 : Int) < p0.Within))) (OpF rfl) <| Wm (.b (decide ((1073741824 : Int) < p0.Within))) rfl <| Nk 8388610 1 ⟨tp 1 (.loc 0 0::tp 21 (.b (decide ((1073741824 : Int) < p0.Within))::tp 23 [])), [(.box [(.l enc_GNode p0.Body), (.i p0.Within), (.s p0.By), (.y p0.Mode)])], 0⟩ ?_
 rcases br hm with ⟨g, hm⟩ | ⟨g, hm⟩
 · refine AiT g <| Sx <| Wm (.i 8) rfl <| Nn <| Rt <| Ir <| Tr ?_
   obtain rfl := sj hm
   exact ret_i []
 refine AiF g <| Sx <| Wz (.loc 0 2) (Ofa rfl) <| Wz (.s p0.By) (Old rfl) <| Wz (.b (decide (p0.By ≠ ([] : List UInt8)))) (Ocs (lit_tf (by simp only [toS_inj, ne_eq])) (op_bin rfl (a1 := .string (toS p0.By)) (a2 := .string (toS ([] : List UInt8))) (by kernel_rfl) (by kernel_rfl) (fun _ => hb_sneq))) ?_
 rcases br hm with ⟨u, hm⟩ | ⟨u, hm⟩
 · refine Wz (.b true) (Oq u rfl) <| Wz (.loc 0 2) (Ofa rfl) <| Wz (.s p0.By) (Old rfl) ?_
   obtain ⟨d, a0, hm⟩ := bnd hm
   refine Wz (.b d) (Ocf [] [] [] 0 (ok_schema_Name p0.By d a0) (fun a w => Try.call26 a w) rfl trivial) <| Wz (.b (!d)) (Ocs (by kernel_rfl) (op_un rfl (a1 := .bool d) (by kernel_rfl) (fun _ => hu_not))) <| Wz (.b (!d)) (OpT rfl) <| Wm (.b (!d)) rfl <| Nk 4294967298 1 ⟨tp 1 (.loc 0 0::tp 30 (.b (!d)::tp 14 [])), [(.box [(.l enc_GNode p0.Body), (.i p0.Within), (.s p0.By), (.y p0.Mode)])], 0⟩ ?_
   rcases br hm with ⟨j, hm⟩ | ⟨j, hm⟩
   · refine AiT j <| Sx <| Wm (.i 4) rfl <| Nn <| Rt <| Ir <| Tr ?_
     obtain rfl := sj hm
     exact ret_i []
   refine AiF j <| Sx <| Wz (.loc 0 3) (Ofa rfl) <| Wz (.y p0.Mode) (Old rfl) ?_
   obtain ⟨e, b0, hm⟩ := bnd hm
   refine Wz (.s e) (Ocf [] [] [] 0 (ok_shape_Word p0.Mode e b0) (fun a w => Try.call15 a w) rfl trivial) <| Wz (.b (decide (e = ([] : List UInt8)))) (Ocs (lit_tf (by simp only [toS_inj, ne_eq])) (op_bin rfl (a1 := .string (toS e)) (a2 := .string (toS ([] : List UInt8))) (by kernel_rfl) (by kernel_rfl) (fun _ => hb_seql))) <| Wm (.b (decide (e = ([] : List UInt8)))) rfl <| Nk 4398046511104 0 ⟨tp 42 (.b (decide (e = ([] : List UInt8)))::tp 4 []), [.gone], 0⟩ ?_
   rcases br hm with ⟨m, hm⟩ | ⟨m, hm⟩
   · refine AiT m <| Sx <| Wm (.i 11) rfl <| Nn <| Rt <| Ir <| Tr ?_
     obtain rfl := sj hm
     exact ret_i []
   refine AiF m <| Sk <| Ino <| Tk 0 0 ⟨tp 47 [], [.gone], 0⟩ <| Sx <| Wm (.i 0) rfl <| Nn <| Rt ?_
   obtain rfl := sj hm
   exact ret_i []
 refine Wz (.b false) (Oq u rfl) <| Wn <| Wn <| Wn <| Wn <| Wz (.b false) (OpF rfl) <| Wm (.b false) rfl <| Nk 4294967298 1 ⟨tp 1 (.loc 0 0::tp 30 (.b false::tp 14 [])), [(.box [(.l enc_GNode p0.Body), (.i p0.Within), (.s p0.By), (.y p0.Mode)])], 0⟩ <| AWP.if_ false (by kernel_rfl) <| Sx <| Wz (.loc 0 3) (Ofa rfl) <| Wz (.y p0.Mode) (Old rfl) ?_
 obtain ⟨f, c0, hm⟩ := bnd hm
 refine Wz (.s f) (Ocf [] [] [] 0 (ok_shape_Word p0.Mode f c0) (fun a w => Try.call15 a w) rfl trivial) <| Wz (.b (decide (f = ([] : List UInt8)))) (Ocs (lit_tf (by simp only [toS_inj, ne_eq])) (op_bin rfl (a1 := .string (toS f)) (a2 := .string (toS ([] : List UInt8))) (by kernel_rfl) (by kernel_rfl) (fun _ => hb_seql))) <| Wm (.b (decide (f = ([] : List UInt8)))) rfl <| Nk 4398046511104 0 ⟨tp 42 (.b (decide (f = ([] : List UInt8)))::tp 4 []), [.gone], 0⟩ ?_
 rcases br hm with ⟨o, hm⟩ | ⟨o, hm⟩
 · refine AiT o <| Sx <| Wm (.i 11) rfl <| Nn <| Rt <| Ir <| Tr ?_
   obtain rfl := sj hm
   exact ret_i []
 refine AiF o <| Sk <| Ino <| Tk 0 0 ⟨tp 47 [], [.gone], 0⟩ <| Sx <| Wm (.i 0) rfl <| Nn <| Rt ?_
 obtain rfl := sj hm
 exact ret_i []

theorem ok_pred_bound (p0 : UInt8) (r : Int) (h : m_pred_bound p0 = some r) : GCall Try.prog 92 [(.y p0)] [] (.i r) [] := by
 refine GCall.of_body (n := 8) (rs := [(.tmp 2)]) Try.func92 rfl rfl rfl <| Ato ⟨.y p0::tu 7 [], [], 0⟩ ?_
 have hm := h
 unfold m_pred_bound at hm
 refine Sx <| Wm (.i 0) rfl <| Nk 1 0 ⟨.y p0::tp 7 [], [], 0⟩ <| Sq <| Sx <| Wm (.y p0) rfl <| Nk 8 0 ⟨tp 3 (.y p0::tp 4 []), [], 0⟩ <| Bk <| Sx <| Wz (.b (decide (((p0.toNat : Nat) : Int) = 2))) (Ob2 (.int .u8 ((p0.toNat : Nat) : Int)) (.int .u8 2) rfl (fun _ => hb_eql)) <| Wm (.b (decide (((p0.toNat : Nat) : Int) = 2))) rfl <| Nk 24 0 ⟨tp 3 (.y p0::.b (decide (((p0.toNat : Nat) : Int) = 2))::tp 3 []), [], 0⟩ ?_
 rcases br hm with ⟨c, hm⟩ | ⟨c, hm⟩
 · refine AiT c <| Sx <| Wm (.i 1) rfl <| Nn <| Rt <| Ir <| Tr ?_
   obtain rfl := sj hm
   exact ret_i []
 refine AiF c <| Sx <| Wz (.b (decide (((p0.toNat : Nat) : Int) = 1))) (Ob2 (.int .u8 ((p0.toNat : Nat) : Int)) (.int .u8 1) rfl (fun _ => hb_eql)) <| Wm (.b (decide (((p0.toNat : Nat) : Int) = 1))) rfl <| Nk 64 0 ⟨tp 6 (.b (decide (((p0.toNat : Nat) : Int) = 1))::tp 1 []), [], 0⟩ ?_
 rcases br hm with ⟨d, hm⟩ | ⟨d, hm⟩
 · refine AiT d <| Sx <| Wm (.i 2) rfl <| Nn <| Rt <| Ir <| Tr ?_
   obtain rfl := sj hm
   exact ret_i []
 refine AiF d <| Sk <| Ino <| Tk 0 0 ⟨tp 8 [], [], 0⟩ <| Sx <| Wm (.i 3) rfl <| Nn <| Rt ?_
 obtain rfl := sj hm
 exact ret_i []

theorem ok_pred_printer_within (rec_m_pred_printer_tree : GTchecker → Option ((List UInt8) × GTchecker)) (hrec_m_pred_printer_tree : ∀ (p0 : GTchecker) (r : ((List UInt8) × GTchecker)), rec_m_pred_printer_tree p0 = some r → GCall Try.prog 60 [(.loc 0 0)] [(.box [(.l enc_GNode_ p0.l), (.i p0.at_)])] (.s r.1) [(.box [(.l enc_GNode_ r.2.l), (.i r.2.at_)])]) (p0 : GTchecker) (p1 : Int) (r : ((List UInt8) × GTchecker)) (h : m_pred_printer_within rec_m_pred_printer_tree p0 p1 = some r) : GCall Try.prog 72 [(.loc 0 0), (.i p1)] [(.box [(.l enc_GNode_ p0.l), (.i p0.at_)])] (.s r.1) [(.box [(.l enc_GNode_ r.2.l), (.i r.2.at_)])] := by
 refine GCall.of_body (n := 25) (rs := [(.tmp 4)]) Try.func72 rfl rfl rfl <| Ato ⟨.loc 0 0::.i p1::tu 23 [], [(.box [(.l enc_GNode_ p0.l), (.i p0.at_)])], 1⟩ ?_
 have hm := h
 unfold m_pred_printer_within at hm
 refine Sx <| Wm (.s ([] : List UInt8)) rfl <| Nk 3 1 ⟨.loc 0 0::.i p1::tp 23 [], [(.box [(.l enc_GNode_ p0.l), (.i p0.at_)])], 1⟩ <| Sq <| Sq <| Adr <| Wm (.loc 0 0) rfl <| Wz (.loc 0 0) (op_nilCheckLoc rfl (id := 0) (off := 0) (xs := [(.l enc_GNode_ p0.l), (.i p0.at_)]) (by kernel_rfl) (by kernel_rfl)) <| Wz (.loc 0 0) (Ofa rfl) <| Wz (.l enc_GNode_ p0.l) (Old rfl) <| Wm (.loc 0 0) rfl <| Wz (.loc 0 0) (op_nilCheckLoc rfl (id := 0) (off := 0) (xs := [(.l enc_GNode_ p0.l), (.i p0.at_)]) (by kernel_rfl) (by kernel_rfl)) <| Wz (.loc 0 1) (Ofa rfl) <| Wz (.i p0.at_) (Old rfl) ?_
 obtain ⟨m, a0, hm⟩ := bnd hm
 obtain ⟨q, j⟩ := geti_some a0
 refine Wz (.d (.ref (List.drop ((Int.toNat p0.at_) * 8) (flatD enc_GNode_ p0.l)))) (Oia rfl enc_GNode__len q j) <| Wz (.d (.ref (List.drop ((Int.toNat p0.at_) * 8) (flatD enc_GNode_ p0.l)))) (Ofa rfl) <| Wz (.y m.Kind) (Lf1 rfl enc_GNode__len j) ?_
 obtain ⟨f, b0, hm⟩ := bnd hm
 refine Wz (.i f) (Ocf [] [] [] 0 (ok_pred_bound m.Kind f b0) (fun a w => Try.call92 a w) rfl trivial) <| Wm (.i p1) rfl <| Wz (.b (decide (f < p1))) (Obn rfl (fun _ => hb_lss (k := .i64))) <| Wdr <| Tk 262145 1 ⟨.loc 0 0::tp 17 (.b (decide (f < p1))::tp 6 []), [(.box [(.l enc_GNode_ p0.l), (.i p0.at_)])], 1⟩ ?_
 rcases br hm with ⟨g, hm⟩ | ⟨g, hm⟩
 · refine AiT g <| Sx <| Wm (.loc 0 0) rfl ?_
   obtain ⟨c, c0, hm⟩ := bnd hm
   refine Wy (.s c.1) [(0, (.box [(.l enc_GNode_ c.2.l), (.i c.2.at_)]))] (Ocf [0] [] [] 0 (hrec_m_pred_printer_tree p0 c c0) (fun a w => Try.call60 a w) rfl ⟨rfl, trivial⟩) ?_
   obtain ⟨o, t, u, hm⟩ := bna hm
   refine Wz (.s o) (Osd ([40] : List UInt8) c.1 rfl t u) ?_
   obtain ⟨p, v, z, hm⟩ := bna hm
   refine Wz (.s p) (Osd o ([41] : List UInt8) rfl v z) <| Wm (.s p) rfl <| Nn <| Rt <| Tr ?_
   obtain rfl := sj hm
   exact ret_i [0]
 refine AiF g <| Sk <| Tk 1 1 ⟨.loc 0 0::tp 24 [], [(.box [(.l enc_GNode_ p0.l), (.i p0.at_)])], 1⟩ <| Sx <| Wm (.loc 0 0) rfl ?_
 obtain ⟨e, d0, hm⟩ := bnd hm
 refine Wy (.s e.1) [(0, (.box [(.l enc_GNode_ e.2.l), (.i e.2.at_)]))] (Ocf [0] [] [] 0 (hrec_m_pred_printer_tree p0 e d0) (fun a w => Try.call60 a w) rfl ⟨rfl, trivial⟩) <| Wm (.s e.1) rfl <| Nn <| Rt ?_
 obtain rfl := sj hm
 exact ret_i [0]

theorem ok_pred_printer_two (rec_m_pred_printer_tree : GTchecker → Option ((List UInt8) × GTchecker)) (hrec_m_pred_printer_tree : ∀ (p0 : GTchecker) (r : ((List UInt8) × GTchecker)), rec_m_pred_printer_tree p0 = some r → GCall Try.prog 60 [(.loc 0 0)] [(.box [(.l enc_GNode_ p0.l), (.i p0.at_)])] (.s r.1) [(.box [(.l enc_GNode_ r.2.l), (.i r.2.at_)])]) (p0 : GTchecker) (p1 : (List UInt8)) (p2 : Int) (p3 : Int) (r : ((List UInt8) × GTchecker)) (h : m_pred_printer_two rec_m_pred_printer_tree p0 p1 p2 p3 = some r) : GCall Try.prog 71 [(.loc 0 0), (.s p1), (.i p2), (.i p3)] [(.box [(.l enc_GNode_ p0.l), (.i p0.at_)])] (.s r.1) [(.box [(.l enc_GNode_ r.2.l), (.i r.2.at_)])] := by
 refine GCall.of_body (n := 22) (rs := [(.tmp 8)]) Try.func71 rfl rfl rfl <| Ato ⟨.loc 0 0::.s p1::.i p2::.i p3::tu 18 [], [(.box [(.l enc_GNode_ p0.l), (.i p0.at_)])], 1⟩ ?_
 have hm := h
 unfold m_pred_printer_two at hm
 refine Sx <| Wm (.s ([] : List UInt8)) rfl <| Nk 15 1 ⟨.loc 0 0::.s p1::.i p2::.i p3::tp 18 [], [(.box [(.l enc_GNode_ p0.l), (.i p0.at_)])], 1⟩ <| Sx <| Wm (.loc 0 0) rfl <| Wm (.i p2) rfl ?_
 obtain ⟨b, v, hm⟩ := bnd hm
 refine Wy (.s b.1) [(0, (.box [(.l enc_GNode_ b.2.l), (.i b.2.at_)]))] (Ocf [0] [] [] 0 (ok_pred_printer_within rec_m_pred_printer_tree hrec_m_pred_printer_tree p0 p2 b v) (fun a w => Try.call72 a w) rfl ⟨rfl, trivial⟩) <| Wm (.s b.1) rfl <| Nk 523 1 ⟨.loc 0 0::.s p1::tp 1 (.i p3::tp 5 (.s b.1::tp 12 [])), [(.box [(.l enc_GNode_ b.2.l), (.i b.2.at_)])], 1⟩ <| Sx <| Wm (.s b.1) rfl ?_
 obtain ⟨d, j, k, hm⟩ := bna hm
 refine Wz (.s d) (Osd b.1 ([32] : List UInt8) rfl j k) <| Wm (.s p1) rfl ?_
 obtain ⟨e, m, o, hm⟩ := bna hm
 refine Wz (.s e) (Osd d p1 rfl m o) ?_
 obtain ⟨f, p, q, hm⟩ := bna hm
 refine Wz (.s f) (Osd e ([32] : List UInt8) rfl p q) <| Wm (.loc 0 0) rfl <| Wm (.i p3) rfl ?_
 obtain ⟨c, y, hm⟩ := bnd hm
 refine Wy (.s c.1) [(0, (.box [(.l enc_GNode_ c.2.l), (.i c.2.at_)]))] (Ocf [0] [] [] 0 (ok_pred_printer_within rec_m_pred_printer_tree hrec_m_pred_printer_tree b.2 p3 c y) (fun a w => Try.call72 a w) rfl ⟨rfl, trivial⟩) ?_
 obtain ⟨g, t, u, hm⟩ := bna hm
 refine Wz (.s g) (Osd f c.1 rfl t u) <| Wm (.s g) rfl <| Nn <| Rt ?_
 obtain rfl := sj hm
 exact ret_i [0]

theorem ok_lex_whole (p0 : Int) (r : (List UInt8)) (h : m_lex_whole p0 = some r) : GCall Try.prog 62 [(.i p0)] [] (.s r) [] := by
 refine GCall.of_body (n := 32) (rs := [(.tmp 2)]) Try.func62 rfl rfl rfl <| Ato ⟨.i p0::tu 31 [], [], 0⟩ ?_
 have hm := h
 unfold m_lex_whole at hm
 refine Sx <| Wm (.s ([] : List UInt8)) rfl <| Nk 1 0 ⟨.i p0::tp 31 [], [], 0⟩ <| Sx <| Wy (.loc 0 0) [(0, (Ar 108 1 encU8 (List.replicate 21 0 : List UInt8)))] (OaA rfl) <| Nk 9 1 ⟨.i p0::tp 2 (.loc 0 0::tp 28 []), [(Ar 108 1 encU8 (List.replicate 21 0 : List UInt8))], 0⟩ <| Sx <| Wm (.i 21) rfl <| Nk 25 1 ⟨.i p0::tp 2 (.loc 0 0::.i 21::tp 27 []), [(Ar 108 1 encU8 (List.replicate 21 0 : List UInt8))], 0⟩ <| Sx <| Wm (.i p0) rfl <| Wm (.i p0) rfl <| Wz (.i (W6 (0 - p0))) (Ocs (by kernel_rfl) (op_un rfl (a1 := .int .i64 p0) (by kernel_rfl) (fun _ => hu_neg))) <| Wz (.i (max p0 (W6 (0 - p0)))) (op_bi2 rfl (a1 := .int .i64 p0) (a2 := .int .i64 (W6 (0 - p0))) (by kernel_rfl) (by kernel_rfl) hb_max) ?_
 refine Wz (.u (W7 (max p0 (W6 (0 - p0))))) (Oc2 (.int .i64 (max p0 (W6 (0 - p0)))) rfl (run_conv (ds := .int .i64) (k' := .u64) (by kernel_rfl) (by kernel_rfl))) <| Wm (.u (W7 (max p0 (W6 (0 - p0))))) rfl <| Nk 57 1 ⟨.i p0::tp 2 (.loc 0 0::.i 21::.u (W7 (max p0 (W6 (0 - p0))))::tp 26 []), [(Ar 108 1 encU8 (List.replicate 21 0 : List UInt8))], 0⟩ <| Sq <| Bk ?_
 refine AWP.loopI (α := Nat × (List UInt8) × Int × Int)
   (fun (fu_1, f, c, d) => (⟨.i p0::tp 2 (.loc 0 0::.i c::.u d::tp 26 []), [(Ar 108 1 encU8 f)], 0⟩ : St))
   (fun (fu_1, f, c, d) => m_lex_whole_l1 p0 fu_1 f c d = some r)
   (fun (fu_1, f, c, d) => fu_1) (1152921504606846976, (List.replicate 21 0 : List UInt8), 21, (W7 (max p0 (W6 (0 - p0)))))
   (Weak.toK 57 0 0 [0]) hm ?_
 rintro ⟨fu_1, f, c, d⟩ n_1 hm ih_1
 try dsimp only at hm ih_1 ⊢
 cases fu_1 with
 | zero => exact absurd hm (by unfold m_lex_whole_l1; simp)
 | succ fu_1 =>
  unfold m_lex_whole_l1 at hm
  refine Bk <| Sx <| Wm (.i c) rfl <| Wz (.i (W6 (c - 1))) (Obn rfl (fun _ => hb_sub (k := .i64))) <| Wm (.i (W6 (c - 1))) rfl <| Nk 57 1 ⟨.i p0::tp 2 (.loc 0 0::.i (W6 (c - 1))::.u d::tp 26 []), [(Ar 108 1 encU8 f)], 0⟩ <| Sx <| Wm (.i (W6 (c - 1))) rfl <| Wm (.u d) rfl <| Wz (.u (Int.tmod d 10)) (Ob2 (.int .u64 d) (.int .u64 10) rfl (fun _ => hb_rem (by decide))) <| Wz (.y (toU8 (Int.tmod d 10))) (Ocs (lit_int (u8w _)) (op_convert rfl (a1 := .int .u64 (Int.tmod d 10)) (by kernel_rfl) (run_conv (ds := .int .u64) (k' := .u8) (by kernel_rfl) (by kernel_rfl)))) <| Wz (.y (toU8 (48 + (((toU8 (Int.tmod d 10)).toNat : Nat) : Int)))) (Ocs (lit_int (u8w _)) (op_bin rfl (a1 := .int .u8 48) (a2 := .int .u8 (((toU8 (Int.tmod d 10)).toNat : Nat) : Int)) (by kernel_rfl) (by kernel_rfl) (fun _ => hb_add))) ?_
  obtain ⟨z, hm⟩ := chk_some hm
  obtain ⟨d0, a0, hm⟩ := bnd hm
  obtain ⟨v, q⟩ := geti_some a0
  refine Wz (.loc 0 ((Int.toNat (IntKind.i64.wrap (c - 1))) * 1)) (OiR rfl (n := 21) v (by rw [← z]; exact getlt q)) <| Wy (.tup []) [(0, (Ar 108 1 encU8 (List.set f (Int.toNat (W6 (c - 1))) (toU8 (48 + (((toU8 (Int.tmod d 10)).toNat : Nat) : Int))))))] (Osr 0 rfl encU8_len q (toU8 (48 + (((toU8 (Int.tmod d 10)).toNat : Nat) : Int)))) <| Nk 57 1 ⟨.i p0::tp 2 (.loc 0 0::.i (W6 (c - 1))::.u d::tp 26 []), [(Ar 108 1 encU8 (List.set f (Int.toNat (W6 (c - 1))) (toU8 (48 + (((toU8 (Int.tmod d 10)).toNat : Nat) : Int)))))], 0⟩ <| Sx <| Wm (.u d) rfl <| Wz (.u (W7 (Int.tdiv d 10))) (Ob2 (.int .u64 d) (.int .u64 10) rfl (fun _ => hb_quo (by decide))) <| Wm (.u (W7 (Int.tdiv d 10))) rfl <| Nk 57 1 ⟨.i p0::tp 2 (.loc 0 0::.i (W6 (c - 1))::.u (W7 (Int.tdiv d 10))::tp 26 []), [(Ar 108 1 encU8 (List.set f (Int.toNat (W6 (c - 1))) (toU8 (48 + (((toU8 (Int.tmod d 10)).toNat : Nat) : Int)))))], 0⟩ <| Sx <| Wm (.u (W7 (Int.tdiv d 10))) rfl <| Wz (.b (decide ((W7 (Int.tdiv d 10)) = 0))) (Obn rfl (fun _ => hb_eql (k := .u64))) <| Nk 4194361 1 ⟨.i p0::tp 2 (.loc 0 0::.i (W6 (c - 1))::.u (W7 (Int.tdiv d 10))::tp 16 (.b (decide ((W7 (Int.tdiv d 10)) = 0))::tp 9 [])), [(Ar 108 1 encU8 (List.set f (Int.toNat (W6 (c - 1))) (toU8 (48 + (((toU8 (Int.tmod d 10)).toNat : Nat) : Int)))))], 0⟩ ?_
  rcases br hm with ⟨o, hm⟩ | ⟨o, hm⟩
  · refine AiT o <| AWP.exit <| InBlock.other (by rfl) <| RoundK.exit <| InBlock.same <| Tk 25 1 ⟨.i p0::tp 2 (.loc 0 0::.i (W6 (c - 1))::tp 27 []), [(Ar 108 1 encU8 (List.set f (Int.toNat (W6 (c - 1))) (toU8 (48 + (((toU8 (Int.tmod d 10)).toNat : Nat) : Int)))))], 0⟩ ?_
    refine AWP.cutJ (α := (List UInt8) × Int) (fun (g, j) => (⟨tp 3 (.loc 0 0::.i j::tp 27 []), [(Ar 108 1 encU8 g)], 0⟩ : St)) (fun (g, j) => m_lex_whole_j4  g j = some r) ?_ (fun J4 => ?_)
    ·
     rintro ⟨g, j⟩ hm
     try dsimp only at hm ⊢
     unfold m_lex_whole_j4 at hm
     refine Sx <| Wm (.i j) rfl ?_
     obtain ⟨m, hm⟩ := chk_some hm
     refine Wz (.sub 0 ((Int.toNat j) * 1) (List.length g - (Int.toNat j))) (Osa rfl (n := 21) (e := 108) (xs := flatD encU8 g) m.1 (toNat_eq m.2.1) (toNat_lt' m.2.1 m.2.2)) <| Wz (.s (List.drop (Int.toNat j) g)) (Ocs (by kernel_rfl) (op_str rfl (e := 5) (by kernel_rfl) (by kernel_rfl) (by kernel_rfl) (y := (.sub 0 ((Int.toNat j) * 1) (List.length g - (Int.toNat j)))) (by kernel_rfl) (ds := flatD encU8 g) (off := (Int.toNat j) * 1) (n := List.length g - (Int.toNat j)) (by kernel_rfl) (l := List.drop (Int.toNat j) g) flatU8_drop List.length_drop)) <| Wm (.s (List.drop (Int.toNat j) g)) rfl <| Nn <| Rt ?_
     obtain rfl := sj hm
     exact ret_i []
    refine Sq <| Sx <| Wm (.i p0) rfl <| Wz (.b (decide (p0 < 0))) (Obn rfl (fun _ => hb_lss (k := .i64))) <| Nk 16777240 1 ⟨tp 3 (.loc 0 0::.i (W6 (c - 1))::tp 19 (.b (decide (p0 < 0))::tp 7 [])), [(Ar 108 1 encU8 (List.set f (Int.toNat (W6 (c - 1))) (toU8 (48 + (((toU8 (Int.tmod d 10)).toNat : Nat) : Int)))))], 0⟩ ?_
    rcases br hm with ⟨p, hm⟩ | ⟨p, hm⟩
    · refine AiT p <| Sx <| Wm (.i (W6 (c - 1))) rfl <| Wz (.i (W6 ((W6 (c - 1)) - 1))) (Obn rfl (fun _ => hb_sub (k := .i64))) <| Wm (.i (W6 ((W6 (c - 1)) - 1))) rfl <| Nk 24 1 ⟨tp 3 (.loc 0 0::.i (W6 ((W6 (c - 1)) - 1))::tp 27 []), [(Ar 108 1 encU8 (List.set f (Int.toNat (W6 (c - 1))) (toU8 (48 + (((toU8 (Int.tmod d 10)).toNat : Nat) : Int)))))], 0⟩ <| Tx <| Wm (.i (W6 ((W6 (c - 1)) - 1))) rfl ?_
      obtain ⟨b0, hm⟩ := chk_some hm
      obtain ⟨e0, c0, hm⟩ := bnd hm
      obtain ⟨w, t⟩ := geti_some c0
      refine Wz (.loc 0 ((Int.toNat (IntKind.i64.wrap ((IntKind.i64.wrap (c - 1)) - 1))) * 1)) (OiR rfl (n := 21) w (by rw [← b0]; exact getlt t)) <| Wy (.tup []) [(0, (Ar 108 1 encU8 (List.set (List.set f (Int.toNat (W6 (c - 1))) (toU8 (48 + (((toU8 (Int.tmod d 10)).toNat : Nat) : Int)))) (Int.toNat (W6 ((W6 (c - 1)) - 1))) 45)))] (Osr 0 rfl encU8_len t 45) <| Nn ?_
      exact AWP.weak (Weak.toK 24 0 0 [0]) (J4 ((List.set (List.set f (Int.toNat (W6 (c - 1))) (toU8 (48 + (((toU8 (Int.tmod d 10)).toNat : Nat) : Int)))) (Int.toNat (W6 ((W6 (c - 1)) - 1))) 45), (W6 ((W6 (c - 1)) - 1))) hm)
    refine AiF p <| Sk <| Tn ?_
    exact AWP.weak (Weak.toK 24 0 0 [0]) (J4 ((List.set f (Int.toNat (W6 (c - 1))) (toU8 (48 + (((toU8 (Int.tmod d 10)).toNat : Nat) : Int)))), (W6 (c - 1))) hm)
  refine AiF o <| Sk <| Ino <| RoundK.normal ?_
  exact Rounds.weak (Weak.toK 57 0 0 [0]) (ih_1 (fu_1, (List.set f (Int.toNat (W6 (c - 1))) (toU8 (48 + (((toU8 (Int.tmod d 10)).toNat : Nat) : Int)))), (W6 (c - 1)), (W7 (Int.tdiv d 10))) hm (Nat.lt_succ_self _))

theorem ok_lex_bits (p0 : Int) (r : (List UInt8)) (h : m_lex_bits p0 = some r) : GCall Try.prog 63 [(.u p0)] [] (.s r) [] := by
 refine GCall.of_body (n := 19) (rs := [(.tmp 2)]) Try.func63 rfl rfl rfl <| Ato ⟨.u p0::tu 18 [], [], 0⟩ ?_
 have hm := h
 unfold m_lex_bits at hm
 refine Sx <| Wm (.s ([] : List UInt8)) rfl <| Nk 1 0 ⟨.u p0::tp 18 [], [], 0⟩ <| Sx <| Wy (.loc 0 0) [(0, (Ar 110 1 encU8 (List.replicate 17 0 : List UInt8)))] (OaA rfl) <| Nk 9 1 ⟨.u p0::tp 2 (.loc 0 0::tp 15 []), [(Ar 110 1 encU8 (List.replicate 17 0 : List UInt8))], 0⟩ <| Sx ?_
 obtain ⟨c0, hm⟩ := chk_some hm
 obtain ⟨f0, d0, hm⟩ := bnd hm
 obtain ⟨v, o⟩ := geti_some d0
 refine Wz (.loc 0 ((Int.toNat 0) * 1)) (OiR rfl (n := 17) v (by rw [← c0]; exact getlt o)) <| Wy (.tup []) [(0, (Ar 110 1 encU8 (List.set (List.replicate 17 0 : List UInt8) (Int.toNat 0) 35)))] (Osr 0 rfl encU8_len o 35) <| Nk 9 1 ⟨.u p0::tp 2 (.loc 0 0::tp 15 []), [(Ar 110 1 encU8 (List.set (List.replicate 17 0 : List UInt8) (Int.toNat 0) 35))], 0⟩ <| Sq <| Sx <| Wm (.i 16) rfl <| Nk 25 1 ⟨.u p0::tp 2 (.loc 0 0::.i 16::tp 14 []), [(Ar 110 1 encU8 (List.set (List.replicate 17 0 : List UInt8) (Int.toNat 0) 35))], 0⟩ <| Bk ?_
 refine AWP.loopI (α := Nat × Int × (List UInt8) × Int)
   (fun (fu_1, f, c, d) => (⟨.u f::tp 2 (.loc 0 0::.i d::tp 14 []), [(Ar 110 1 encU8 c)], 0⟩ : St))
   (fun (fu_1, f, c, d) => m_lex_bits_l1  fu_1 f c d = some r)
   (fun (fu_1, f, c, d) => fu_1) (1152921504606846976, p0, (List.set (List.replicate 17 0 : List UInt8) (Int.toNat 0) 35), 16)
   (Weak.toK 25 0 0 [0]) hm ?_
 rintro ⟨fu_1, f, c, d⟩ n_1 hm ih_1
 try dsimp only at hm ih_1 ⊢
 cases fu_1 with
 | zero => exact absurd hm (by unfold m_lex_bits_l1; simp)
 | succ fu_1 =>
  unfold m_lex_bits_l1 at hm
  refine Sq <| Sx <| Wm (.i d) rfl <| Wz (.b (decide ((0 : Int) < d))) (Obn rfl (fun _ => hb_gtr (k := .i64))) <| Nk 153 1 ⟨.u f::tp 2 (.loc 0 0::.i d::tp 2 (.b (decide ((0 : Int) < d))::tp 11 [])), [(Ar 110 1 encU8 c)], 0⟩ ?_
  rcases br hm with ⟨m, hm⟩ | ⟨m, hm⟩
  · refine AiT m <| Sk <| Tk 25 1 ⟨.u f::tp 2 (.loc 0 0::.i d::tp 14 []), [(Ar 110 1 encU8 c)], 0⟩ <| Sq <| Bk <| Sx <| Wm (.i d) rfl <| Wm (.u f) rfl <| Wz (.u (W7 (((BitVec.ofInt 64 f &&& BitVec.ofInt 64 15).toNat : Int)))) (Ob2 (.int .u64 f) (.int .u64 15) rfl (fun _ => hb_and)) ?_
    obtain ⟨g, w, hm⟩ := bnd hm
    obtain ⟨p, q⟩ := geti_some w
    refine Wz (.y g) (Ocs (by kernel_rfl) (op_index_str rfl (by kernel_rfl) (s := toS ([48, 49, 50, 51, 52, 53, 54, 55, 56, 57, 97, 98, 99, 100, 101, 102] : List UInt8)) (by kernel_rfl) (k := .u64) (iv := (W7 (((BitVec.ofInt 64 f &&& BitVec.ofInt 64 15).toNat : Int)))) (by kernel_rfl) (i := (Int.toNat (W7 (((BitVec.ofInt 64 f &&& BitVec.ofInt 64 15).toNat : Int))))) (p) (b := g) (q))) ?_
    obtain ⟨z, hm⟩ := chk_some hm
    obtain ⟨e0, a0, hm⟩ := bnd hm
    obtain ⟨t, j⟩ := geti_some a0
    refine Wz (.loc 0 ((Int.toNat d) * 1)) (OiR rfl (n := 17) t (by rw [← z]; exact getlt j)) <| Wy (.tup []) [(0, (Ar 110 1 encU8 (List.set c (Int.toNat d) g)))] (Osr 0 rfl encU8_len j g) <| Nk 25 1 ⟨.u f::tp 2 (.loc 0 0::.i d::tp 14 []), [(Ar 110 1 encU8 (List.set c (Int.toNat d) g))], 0⟩ <| Tx <| Wm (.u f) rfl <| Wz (.u (Int.fdiv f (2 ^ 4))) (Ob2 (.int .u64 f) (.int .u64 4) rfl (fun _ => hb_shr (n := 4) (by decide) rfl)) <| Wm (.u (Int.fdiv f (2 ^ 4))) rfl <| Wn0 <| Ino <| Tk 25 1 ⟨.u (Int.fdiv f (2 ^ 4))::tp 2 (.loc 0 0::.i d::tp 14 []), [(Ar 110 1 encU8 (List.set c (Int.toNat d) g))], 0⟩ <| Tx <| Wm (.i d) rfl <| Wz (.i (W6 (d - 1))) (Obn rfl (fun _ => hb_sub (k := .i64))) <| Wm (.i (W6 (d - 1))) rfl ?_
    refine Wn0 <| RoundK.normal ?_
    exact Rounds.weak (Weak.toK 25 0 0 [0]) (ih_1 (fu_1, (Int.fdiv f (2 ^ 4)), (List.set c (Int.toNat d) g), (W6 (d - 1))) hm (Nat.lt_succ_self _))
  refine AiF m <| AWP.exit <| Then.exit <| RoundK.exit <| InBlock.same <| Tk 8 1 ⟨tp 3 (.loc 0 0::tp 15 []), [(Ar 110 1 encU8 c)], 0⟩ <| Sx ?_
  obtain ⟨b0, hm⟩ := chk_some hm
  refine Wz (.sub 0 (0 * 1) (List.length c - 0)) (Osa0 rfl (n := 17) (e := 110) (xs := flatD encU8 c) b0.1) <| Wz (.s (List.drop 0 c)) (Ocs (by kernel_rfl) (op_str rfl (e := 5) (by kernel_rfl) (by kernel_rfl) (by kernel_rfl) (y := (.sub 0 (0 * 1) (List.length c - 0))) (by kernel_rfl) (ds := flatD encU8 c) (off := 0 * 1) (n := List.length c - 0) (by kernel_rfl) (l := List.drop 0 c) flatU8_drop List.length_drop)) <| Wm (.s (List.drop 0 c)) rfl <| Nn <| Rt ?_
  obtain rfl := sj hm
  exact ret_i []

theorem ok_lex_text (p0 : (List UInt8)) (r : (List UInt8)) (h : m_lex_text p0 = some r) : GCall Try.prog 64 [(.s p0)] [] (.s r) [] := by
  unfold m_lex_text at h
  obtain ⟨hl, h⟩ := chk_some h
  cases h
  exact call_text p0 hl

theorem ok_lex_Literal (p0 : GValue) (r : (List UInt8)) (h : m_lex_Literal p0 = some r) : GCall Try.prog 50 [(.agg [(.y p0.Kind), (.i p0.N), (.u p0.Bits), (.s p0.Text)])] [] (.s r) [] := by
 refine GCall.of_body (n := 26) (rs := [(.tmp 2)]) Try.func50 rfl rfl rfl <| Ato ⟨.agg [(.y p0.Kind), (.i p0.N), (.u p0.Bits), (.s p0.Text)]::tu 25 [], [], 0⟩ ?_
 have hm := h
 unfold m_lex_Literal at hm
 refine Sx <| Wy (.loc 0 0) [(0, (.box [(.y p0.Kind), (.i p0.N), (.u p0.Bits), (.s p0.Text)]))] (Obx rfl) <| Wm (.s ([] : List UInt8)) rfl <| Nk 2 1 ⟨tp 1 (.loc 0 0::tp 24 []), [(.box [(.y p0.Kind), (.i p0.N), (.u p0.Bits), (.s p0.Text)])], 0⟩ <| Sq <| Sx <| Wz (.agg [(.y p0.Kind), (.i p0.N), (.u p0.Bits), (.s p0.Text)]) (Old rfl) ?_
 obtain ⟨f, v, hm⟩ := bnd hm
 refine Wz (.i f) (Ocf [] [] [] 0 (ok_value_Check p0 f v) (fun a w => Try.call61 a w) rfl trivial) <| Wz (.b (decide (f ≠ 0))) (Obn rfl (fun _ => hb_neq (k := .i64))) <| Nk 34 1 ⟨tp 1 (.loc 0 0::tp 3 (.b (decide (f ≠ 0))::tp 20 [])), [(.box [(.y p0.Kind), (.i p0.N), (.u p0.Bits), (.s p0.Text)])], 0⟩ ?_
 rcases br hm with ⟨g, hm⟩ | ⟨g, hm⟩
 · refine AiT g <| Sx <| Wm (.s ([] : List UInt8)) rfl <| Nn <| Rt <| Tr ?_
   obtain rfl := sj hm
   exact ret_i []
 refine AiF g <| Sk <| Tk 2 1 ⟨tp 1 (.loc 0 0::tp 24 []), [(.box [(.y p0.Kind), (.i p0.N), (.u p0.Bits), (.s p0.Text)])], 0⟩ <| Sq <| Sx <| Wz (.loc 0 0) (Ofa rfl) <| Wz (.y p0.Kind) (Old rfl) <| Nk 130 1 ⟨tp 1 (.loc 0 0::tp 5 (.y p0.Kind::tp 18 [])), [(.box [(.y p0.Kind), (.i p0.N), (.u p0.Bits), (.s p0.Text)])], 0⟩ <| Bk <| Sx <| Wz (.b (decide (((p0.Kind.toNat : Nat) : Int) = 1))) (Ob2 (.int .u8 ((p0.Kind.toNat : Nat) : Int)) (.int .u8 1) rfl (fun _ => hb_eql)) <| Wm (.b (decide (((p0.Kind.toNat : Nat) : Int) = 1))) rfl <| Nk 386 1 ⟨tp 1 (.loc 0 0::tp 5 (.y p0.Kind::.b (decide (((p0.Kind.toNat : Nat) : Int) = 1))::tp 17 [])), [(.box [(.y p0.Kind), (.i p0.N), (.u p0.Bits), (.s p0.Text)])], 0⟩ ?_
 rcases br hm with ⟨j, hm⟩ | ⟨j, hm⟩
 · refine AiT j <| Sx <| Wz (.loc 0 1) (Ofa rfl) <| Wz (.i p0.N) (Old rfl) ?_
   obtain ⟨l, p, hm⟩ := bnd hm
   refine Wz (.s l) (Ocf [] [] [] 0 (ok_lex_whole p0.N l p) (fun a w => Try.call62 a w) rfl trivial) <| Wm (.s l) rfl <| Nn <| Rt <| Ir <| Tr ?_
   obtain rfl := sj hm
   exact ret_i []
 refine AiF j <| Sx <| Wz (.b (decide (((p0.Kind.toNat : Nat) : Int) = 2))) (Ob2 (.int .u8 ((p0.Kind.toNat : Nat) : Int)) (.int .u8 2) rfl (fun _ => hb_eql)) <| Wm (.b (decide (((p0.Kind.toNat : Nat) : Int) = 2))) rfl <| Nk 8322 1 ⟨tp 1 (.loc 0 0::tp 5 (.y p0.Kind::tp 5 (.b (decide (((p0.Kind.toNat : Nat) : Int) = 2))::tp 12 []))), [(.box [(.y p0.Kind), (.i p0.N), (.u p0.Bits), (.s p0.Text)])], 0⟩ ?_
 rcases br hm with ⟨c, hm⟩ | ⟨c, hm⟩
 · refine AiT c <| Sq <| Sx <| Wz (.loc 0 1) (Ofa rfl) <| Wz (.i p0.N) (Old rfl) <| Wz (.b (decide (p0.N = 0))) (Obn rfl (fun _ => hb_eql (k := .i64))) <| Nk 131072 0 ⟨tp 17 (.b (decide (p0.N = 0))::tp 8 []), [.gone], 0⟩ ?_
   rcases br hm with ⟨d, hm⟩ | ⟨d, hm⟩
   · refine AiT d <| Sx <| Wm (.s ([102, 97, 108, 115, 101] : List UInt8)) rfl <| Nn <| Rt <| Tr <| Ir <| Tr ?_
     obtain rfl := sj hm
     exact ret_i []
   refine AiF d <| Sk <| Tk 0 0 ⟨tp 26 [], [.gone], 0⟩ <| Sx <| Wm (.s ([116, 114, 117, 101] : List UInt8)) rfl <| Nn <| Rt <| Ir <| Tr ?_
   obtain rfl := sj hm
   exact ret_i []
 refine AiF c <| Sx <| Wz (.b (decide (((p0.Kind.toNat : Nat) : Int) = 3))) (Ob2 (.int .u8 ((p0.Kind.toNat : Nat) : Int)) (.int .u8 3) rfl (fun _ => hb_eql)) <| Wm (.b (decide (((p0.Kind.toNat : Nat) : Int) = 3))) rfl <| Nk 262146 1 ⟨tp 1 (.loc 0 0::tp 16 (.b (decide (((p0.Kind.toNat : Nat) : Int) = 3))::tp 7 [])), [(.box [(.y p0.Kind), (.i p0.N), (.u p0.Bits), (.s p0.Text)])], 0⟩ ?_
 rcases br hm with ⟨e, hm⟩ | ⟨e, hm⟩
 · refine AiT e <| Sx <| Wz (.loc 0 2) (Ofa rfl) <| Wz (.u p0.Bits) (Old rfl) ?_
   obtain ⟨m, q, hm⟩ := bnd hm
   refine Wz (.s m) (Ocf [] [] [] 0 (ok_lex_bits p0.Bits m q) (fun a w => Try.call63 a w) rfl trivial) <| Wm (.s m) rfl <| Nn <| Rt <| Ir <| Tr ?_
   obtain rfl := sj hm
   exact ret_i []
 refine AiF e <| Sk <| Ino <| Tk 2 1 ⟨tp 1 (.loc 0 0::tp 24 []), [(.box [(.y p0.Kind), (.i p0.N), (.u p0.Bits), (.s p0.Text)])], 0⟩ <| Sx <| Wz (.loc 0 3) (Ofa rfl) <| Wz (.s p0.Text) (Old rfl) ?_
 obtain ⟨o, t, hm⟩ := bnd hm
 refine Wz (.s o) (Ocf [] [] [] 0 (ok_lex_text p0.Text o t) (fun a w => Try.call64 a w) rfl trivial) <| Wm (.s o) rfl <| Nn <| Rt ?_
 obtain rfl := sj hm
 exact ret_i []

theorem ok_pred_printer_tree : ∀ (fuR : Nat) (p0 : GTchecker) (r : ((List UInt8) × GTchecker)) (h : m_pred_printer_tree fuR p0 = some r), GCall Try.prog 60 [(.loc 0 0)] [(.box [(.l enc_GNode_ p0.l), (.i p0.at_)])] (.s r.1) [(.box [(.l enc_GNode_ r.2.l), (.i r.2.at_)])] := by
 intro fuR; induction fuR with
 | zero => intro p0 r h; exact absurd h (by unfold m_pred_printer_tree; simp)
 | succ fuR ih =>
 intro p0 r h
 refine GCall.of_body (n := 66) (rs := [(.tmp 2)]) Try.func60 rfl rfl rfl <| Ato ⟨.loc 0 0::tu 65 [], [(.box [(.l enc_GNode_ p0.l), (.i p0.at_)])], 1⟩ ?_
 have hm := h
 unfold m_pred_printer_tree at hm
 refine Sx <| Wm (.s ([] : List UInt8)) rfl <| Nk 1 1 ⟨.loc 0 0::tp 65 [], [(.box [(.l enc_GNode_ p0.l), (.i p0.at_)])], 1⟩ <| Sq <| Adr <| Wm (.loc 0 0) rfl <| Wz (.loc 0 0) (op_nilCheckLoc rfl (id := 0) (off := 0) (xs := [(.l enc_GNode_ p0.l), (.i p0.at_)]) (by kernel_rfl) (by kernel_rfl)) <| Wz (.loc 0 0) (Ofa rfl) <| Wz (.l enc_GNode_ p0.l) (Old rfl) <| Wm (.loc 0 0) rfl <| Wz (.loc 0 0) (op_nilCheckLoc rfl (id := 0) (off := 0) (xs := [(.l enc_GNode_ p0.l), (.i p0.at_)]) (by kernel_rfl) (by kernel_rfl)) <| Wz (.loc 0 1) (Ofa rfl) <| Wz (.i p0.at_) (Old rfl) ?_
 obtain ⟨c, r0, hm⟩ := bnd hm
 obtain ⟨j0, d0⟩ := geti_some r0
 refine Wz (.d (.ref (List.drop ((Int.toNat p0.at_) * 8) (flatD enc_GNode_ p0.l)))) (Oia rfl enc_GNode__len j0 d0) <| Wz (.agg [(.y c.Kind), (.y c.Op), (.s c.Var), (.s c.Name), (.y c.Val.Kind), (.i c.Val.N), (.u c.Val.Bits), (.s c.Val.Text)]) (Lf rfl enc_GNode__len d0) <| Wy (.loc 1 0) [(1, (.box [(.y 0), (.y 0), (.s ([] : List UInt8)), (.s ([] : List UInt8)), (.y 0), (.i 0), (.u 0), (.s ([] : List UInt8))]))] (Oal rfl) <| Wy (.tup []) [(1, (.box [(.y c.Kind), (.y c.Op), (.s c.Var), (.s c.Name), (.y c.Val.Kind), (.i c.Val.N), (.u c.Val.Bits), (.s c.Val.Text)]))] (Ost rfl) <| Wdr <| Tk 9 3 ⟨.loc 0 0::tp 2 (.loc 1 0::tp 62 []), [(.box [(.l enc_GNode_ p0.l), (.i p0.at_)]), (.box [(.y c.Kind), (.y c.Op), (.s c.Var), (.s c.Name), (.y c.Val.Kind), (.i c.Val.N), (.u c.Val.Bits), (.s c.Val.Text)])], 1⟩ <| Sx <| Wm (.loc 0 0) rfl <| Wz (.loc 0 0) (op_nilCheckLoc rfl (id := 0) (off := 0) (xs := [(.l enc_GNode_ p0.l), (.i p0.at_)]) (by kernel_rfl) (by kernel_rfl)) <| Wz (.loc 0 1) (Ofa rfl) <| Wz (.i p0.at_) (Old rfl) <| Wz (.i (W6 (p0.at_ + 1))) (Obn rfl (fun _ => hb_add (k := .i64))) <| Wz (.loc 0 0) (op_nilCheckLoc rfl (id := 0) (off := 0) (xs := [(.l enc_GNode_ p0.l), (.i p0.at_)]) (by kernel_rfl) (by kernel_rfl)) <| Wz (.loc 0 1) (Ofa rfl) ?_
 refine Wy (.tup []) [(0, (.box [(.l enc_GNode_ p0.l), (.i (W6 (p0.at_ + 1)))]))] (Ost rfl) <| Nk 9 3 ⟨.loc 0 0::tp 2 (.loc 1 0::tp 62 []), [(.box [(.l enc_GNode_ p0.l), (.i (W6 (p0.at_ + 1)))]), (.box [(.y c.Kind), (.y c.Op), (.s c.Var), (.s c.Name), (.y c.Val.Kind), (.i c.Val.N), (.u c.Val.Bits), (.s c.Val.Text)])], 1⟩ <| Sq <| Sx <| Wz (.loc 1 0) (Ofa rfl) <| Wz (.y c.Kind) (Old rfl) <| Nk 4194313 3 ⟨.loc 0 0::tp 2 (.loc 1 0::tp 18 (.y c.Kind::tp 43 [])), [(.box [(.l enc_GNode_ p0.l), (.i (W6 (p0.at_ + 1)))]), (.box [(.y c.Kind), (.y c.Op), (.s c.Var), (.s c.Name), (.y c.Val.Kind), (.i c.Val.N), (.u c.Val.Bits), (.s c.Val.Text)])], 1⟩ <| Bk <| Sx <| Wz (.b (decide (((c.Kind.toNat : Nat) : Int) = 2))) (Ob2 (.int .u8 ((c.Kind.toNat : Nat) : Int)) (.int .u8 2) rfl (fun _ => hb_eql)) <| Wm (.b (decide (((c.Kind.toNat : Nat) : Int) = 2))) rfl <| Nk 12582921 3 ⟨.loc 0 0::tp 2 (.loc 1 0::tp 18 (.y c.Kind::.b (decide (((c.Kind.toNat : Nat) : Int) = 2))::tp 42 [])), [(.box [(.l enc_GNode_ p0.l), (.i (W6 (p0.at_ + 1)))]), (.box [(.y c.Kind), (.y c.Op), (.s c.Var), (.s c.Name), (.y c.Val.Kind), (.i c.Val.N), (.u c.Val.Bits), (.s c.Val.Text)])], 1⟩ ?_
 rcases br hm with ⟨c0, hm⟩ | ⟨c0, hm⟩
 · refine AiT c0 <| Sx <| Wm (.loc 0 0) rfl ?_
   obtain ⟨e, s0, hm⟩ := bnd hm
   refine Wy (.s e.1) [(0, (.box [(.l enc_GNode_ e.2.l), (.i e.2.at_)]))] (Ocf [0] [] [] 0 (ok_pred_printer_two (fun p0 => m_pred_printer_tree fuR p0) (fun p0 r h => ih p0 r h) (GTchecker.mk p0.l (W6 (p0.at_ + 1))) ([111, 114] : List UInt8) 1 2 e s0) (fun a w => Try.call71 a w) rfl ⟨rfl, trivial⟩) <| Wm (.s e.1) rfl <| Nn <| Rt <| Ir <| Tr ?_
   obtain rfl := sj hm
   exact ret_i [0]
 refine AiF c0 <| Sx <| Wz (.b (decide (((c.Kind.toNat : Nat) : Int) = 1))) (Ob2 (.int .u8 ((c.Kind.toNat : Nat) : Int)) (.int .u8 1) rfl (fun _ => hb_eql)) <| Wm (.b (decide (((c.Kind.toNat : Nat) : Int) = 1))) rfl <| Nk 138412041 3 ⟨.loc 0 0::tp 2 (.loc 1 0::tp 18 (.y c.Kind::tp 4 (.b (decide (((c.Kind.toNat : Nat) : Int) = 1))::tp 38 []))), [(.box [(.l enc_GNode_ p0.l), (.i (W6 (p0.at_ + 1)))]), (.box [(.y c.Kind), (.y c.Op), (.s c.Var), (.s c.Name), (.y c.Val.Kind), (.i c.Val.N), (.u c.Val.Bits), (.s c.Val.Text)])], 1⟩ ?_
 rcases br hm with ⟨p, hm⟩ | ⟨p, hm⟩
 · refine AiT p <| Sx <| Wm (.loc 0 0) rfl ?_
   obtain ⟨f, t0, hm⟩ := bnd hm
   refine Wy (.s f.1) [(0, (.box [(.l enc_GNode_ f.2.l), (.i f.2.at_)]))] (Ocf [0] [] [] 0 (ok_pred_printer_two (fun p0 => m_pred_printer_tree fuR p0) (fun p0 r h => ih p0 r h) (GTchecker.mk p0.l (W6 (p0.at_ + 1))) ([97, 110, 100] : List UInt8) 2 3 f t0) (fun a w => Try.call71 a w) rfl ⟨rfl, trivial⟩) <| Wm (.s f.1) rfl <| Nn <| Rt <| Ir <| Tr ?_
   obtain rfl := sj hm
   exact ret_i [0]
 refine AiF p <| Sx <| Wz (.b (decide (((c.Kind.toNat : Nat) : Int) = 3))) (Ob2 (.int .u8 ((c.Kind.toNat : Nat) : Int)) (.int .u8 3) rfl (fun _ => hb_eql)) <| Wm (.b (decide (((c.Kind.toNat : Nat) : Int) = 3))) rfl <| Nk 2151677961 3 ⟨.loc 0 0::tp 2 (.loc 1 0::tp 18 (.y c.Kind::tp 8 (.b (decide (((c.Kind.toNat : Nat) : Int) = 3))::tp 34 []))), [(.box [(.l enc_GNode_ p0.l), (.i (W6 (p0.at_ + 1)))]), (.box [(.y c.Kind), (.y c.Op), (.s c.Var), (.s c.Name), (.y c.Val.Kind), (.i c.Val.N), (.u c.Val.Bits), (.s c.Val.Text)])], 1⟩ ?_
 rcases br hm with ⟨q, hm⟩ | ⟨q, hm⟩
 · refine AiT q <| Sx <| Wm (.loc 0 0) rfl ?_
   obtain ⟨g, u0, hm⟩ := bnd hm
   refine Wy (.s g.1) [(0, (.box [(.l enc_GNode_ g.2.l), (.i g.2.at_)]))] (Ocf [0] [] [] 0 (ok_pred_printer_within (fun p0 => m_pred_printer_tree fuR p0) (fun p0 r h => ih p0 r h) (GTchecker.mk p0.l (W6 (p0.at_ + 1))) 3 g u0) (fun a w => Try.call72 a w) rfl ⟨rfl, trivial⟩) ?_
   obtain ⟨g0, k0, l0, hm⟩ := bna hm
   refine Wz (.s g0) (Osd ([110, 111, 116, 32] : List UInt8) g.1 rfl k0 l0) <| Wm (.s g0) rfl <| Nn <| Rt <| Ir <| Tr ?_
   obtain rfl := sj hm
   exact ret_i [0]
 refine AiF q <| Sx <| Wz (.b (decide (((c.Kind.toNat : Nat) : Int) = 4))) (Ob2 (.int .u8 ((c.Kind.toNat : Nat) : Int)) (.int .u8 4) rfl (fun _ => hb_eql)) <| Wm (.b (decide (((c.Kind.toNat : Nat) : Int) = 4))) rfl <| Nk 68723671049 3 ⟨.loc 0 0::tp 2 (.loc 1 0::tp 18 (.y c.Kind::tp 13 (.b (decide (((c.Kind.toNat : Nat) : Int) = 4))::tp 29 []))), [(.box [(.l enc_GNode_ p0.l), (.i (W6 (p0.at_ + 1)))]), (.box [(.y c.Kind), (.y c.Op), (.s c.Var), (.s c.Name), (.y c.Val.Kind), (.i c.Val.N), (.u c.Val.Bits), (.s c.Val.Text)])], 1⟩ ?_
 rcases br hm with ⟨t, hm⟩ | ⟨t, hm⟩
 · refine AiT t <| Sx <| Wm (.loc 0 0) rfl <| Wz (.loc 1 1) (Ofa rfl) <| Wz (.y c.Op) (Old rfl) ?_
   obtain ⟨e0, v0, hm⟩ := bnd hm
   refine Wz (.s e0) (Ocf [] [] [] 0 (ok_compare_Sign c.Op e0 v0) (fun a w => Try.call73 a w) rfl trivial) ?_
   obtain ⟨j, w0, hm⟩ := bnd hm
   refine Wy (.s j.1) [(0, (.box [(.l enc_GNode_ j.2.l), (.i j.2.at_)]))] (Ocf [0] [] [] 0 (ok_pred_printer_two (fun p0 => m_pred_printer_tree fuR p0) (fun p0 r h => ih p0 r h) (GTchecker.mk p0.l (W6 (p0.at_ + 1))) e0 0 0 j w0) (fun a w => Try.call71 a w) rfl ⟨rfl, trivial⟩) <| Wm (.s j.1) rfl <| Nn <| Rt <| Ir <| Tr ?_
   obtain rfl := sj hm
   exact ret_i [0]
 refine AiF t <| Sx <| Wz (.b (decide (((c.Kind.toNat : Nat) : Int) = 5))) (Ob2 (.int .u8 ((c.Kind.toNat : Nat) : Int)) (.int .u8 5) rfl (fun _ => hb_eql)) <| Wm (.b (decide (((c.Kind.toNat : Nat) : Int) = 5))) rfl <| Nk 8796097216521 3 ⟨.loc 0 0::tp 2 (.loc 1 0::tp 18 (.y c.Kind::tp 20 (.b (decide (((c.Kind.toNat : Nat) : Int) = 5))::tp 22 []))), [(.box [(.l enc_GNode_ p0.l), (.i (W6 (p0.at_ + 1)))]), (.box [(.y c.Kind), (.y c.Op), (.s c.Var), (.s c.Name), (.y c.Val.Kind), (.i c.Val.N), (.u c.Val.Bits), (.s c.Val.Text)])], 1⟩ ?_
 rcases br hm with ⟨v, hm⟩ | ⟨v, hm⟩
 · refine AiT v <| Sx <| Wm (.loc 0 0) rfl ?_
   obtain ⟨m, x0, hm⟩ := bnd hm
   refine Wy (.s m.1) [(0, (.box [(.l enc_GNode_ m.2.l), (.i m.2.at_)]))] (Ocf [0] [] [] 0 (ok_pred_printer_two (fun p0 => m_pred_printer_tree fuR p0) (fun p0 r h => ih p0 r h) (GTchecker.mk p0.l (W6 (p0.at_ + 1))) ([43] : List UInt8) 0 0 m x0) (fun a w => Try.call71 a w) rfl ⟨rfl, trivial⟩) <| Wm (.s m.1) rfl <| Nn <| Rt <| Ir <| Tr ?_
   obtain rfl := sj hm
   exact ret_i [0]
 refine AiF v <| Sx <| Wz (.b (decide (((c.Kind.toNat : Nat) : Int) = 6))) (Ob2 (.int .u8 ((c.Kind.toNat : Nat) : Int)) (.int .u8 6) rfl (fun _ => hb_eql)) <| Wm (.b (decide (((c.Kind.toNat : Nat) : Int) = 6))) rfl <| Nk 140737492549641 3 ⟨.loc 0 0::tp 2 (.loc 1 0::tp 18 (.y c.Kind::tp 24 (.b (decide (((c.Kind.toNat : Nat) : Int) = 6))::tp 18 []))), [(.box [(.l enc_GNode_ p0.l), (.i (W6 (p0.at_ + 1)))]), (.box [(.y c.Kind), (.y c.Op), (.s c.Var), (.s c.Name), (.y c.Val.Kind), (.i c.Val.N), (.u c.Val.Bits), (.s c.Val.Text)])], 1⟩ ?_
 rcases br hm with ⟨z, hm⟩ | ⟨z, hm⟩
 · refine AiT z <| Sx <| Wm (.loc 0 0) rfl ?_
   obtain ⟨o, y0, hm⟩ := bnd hm
   refine Wy (.s o.1) [(0, (.box [(.l enc_GNode_ o.2.l), (.i o.2.at_)]))] (Ocf [0] [] [] 0 (ok_pred_printer_two (fun p0 => m_pred_printer_tree fuR p0) (fun p0 r h => ih p0 r h) (GTchecker.mk p0.l (W6 (p0.at_ + 1))) ([45] : List UInt8) 0 0 o y0) (fun a w => Try.call71 a w) rfl ⟨rfl, trivial⟩) <| Wm (.s o.1) rfl <| Nn <| Rt <| Ir <| Tr ?_
   obtain rfl := sj hm
   exact ret_i [0]
 refine AiF z <| Sx <| Wz (.b (decide (((c.Kind.toNat : Nat) : Int) = 7))) (Ob2 (.int .u8 ((c.Kind.toNat : Nat) : Int)) (.int .u8 7) rfl (fun _ => hb_eql)) <| Wm (.b (decide (((c.Kind.toNat : Nat) : Int) = 7))) rfl <| Nk 2251799817879560 3 ⟨tp 3 (.loc 1 0::tp 18 (.y c.Kind::tp 28 (.b (decide (((c.Kind.toNat : Nat) : Int) = 7))::tp 14 []))), [(.box [(.l enc_GNode_ p0.l), (.i (W6 (p0.at_ + 1)))]), (.box [(.y c.Kind), (.y c.Op), (.s c.Var), (.s c.Name), (.y c.Val.Kind), (.i c.Val.N), (.u c.Val.Bits), (.s c.Val.Text)])], 1⟩ ?_
 rcases br hm with ⟨a0, hm⟩ | ⟨a0, hm⟩
 · refine AiT a0 <| Sx <| Wz (.loc 1 3) (Ofa rfl) <| Wz (.s c.Name) (Old rfl) <| Wm (.s c.Name) rfl <| Nn <| Rt <| Ir <| Tr ?_
   obtain rfl := sj hm
   exact ret_i [0]
 refine AiF a0 <| Sx <| Wz (.b (decide (((c.Kind.toNat : Nat) : Int) = 8))) (Ob2 (.int .u8 ((c.Kind.toNat : Nat) : Int)) (.int .u8 8) rfl (fun _ => hb_eql)) <| Wm (.b (decide (((c.Kind.toNat : Nat) : Int) = 8))) rfl <| Nk 36028797018963976 3 ⟨tp 3 (.loc 1 0::tp 51 (.b (decide (((c.Kind.toNat : Nat) : Int) = 8))::tp 10 [])), [(.box [(.l enc_GNode_ p0.l), (.i (W6 (p0.at_ + 1)))]), (.box [(.y c.Kind), (.y c.Op), (.s c.Var), (.s c.Name), (.y c.Val.Kind), (.i c.Val.N), (.u c.Val.Bits), (.s c.Val.Text)])], 1⟩ ?_
 rcases br hm with ⟨b0, hm⟩ | ⟨b0, hm⟩
 · refine AiT b0 <| Sx <| Wz (.loc 1 2) (Ofa rfl) <| Wz (.s c.Var) (Old rfl) ?_
   obtain ⟨h0, m0, n0, hm⟩ := bna hm
   refine Wz (.s h0) (Osd c.Var ([46] : List UInt8) rfl m0 n0) <| Wz (.loc 1 3) (Ofa rfl) <| Wz (.s c.Name) (Old rfl) ?_
   obtain ⟨i0, o0, q0, hm⟩ := bna hm
   refine Wz (.s i0) (Osd h0 c.Name rfl o0 q0) <| Wm (.s i0) rfl <| Nn <| Rt <| Ir <| Tr ?_
   obtain rfl := sj hm
   exact ret_i [0]
 refine AiF b0 <| Sk <| Ino <| Tk 8 3 ⟨tp 3 (.loc 1 0::tp 62 []), [(.box [(.l enc_GNode_ p0.l), (.i (W6 (p0.at_ + 1)))]), (.box [(.y c.Kind), (.y c.Op), (.s c.Var), (.s c.Name), (.y c.Val.Kind), (.i c.Val.N), (.u c.Val.Bits), (.s c.Val.Text)])], 1⟩ <| Sx <| Wz (.loc 1 4) (Ofa rfl) <| Wz (.agg [(.y c.Val.Kind), (.i c.Val.N), (.u c.Val.Bits), (.s c.Val.Text)]) (Old rfl) ?_
 obtain ⟨f0, z0, hm⟩ := bnd hm
 refine Wz (.s f0) (Ocf [] [] [] 0 (ok_lex_Literal c.Val f0 z0) (fun a w => Try.call50 a w) rfl trivial) <| Wm (.s f0) rfl <| Nn <| Rt ?_
 obtain rfl := sj hm
 exact ret_i [0]

theorem ok_pred_Print (p0 : (List GNode_)) (r : (List UInt8)) (h : m_pred_Print p0 = some r) : GCall Try.prog 49 [(.l enc_GNode_ p0)] [] (.s r) [] := by
 refine GCall.of_body (n := 17) (rs := [(.tmp 2)]) Try.func49 rfl rfl rfl <| Ato ⟨.l enc_GNode_ p0::tu 16 [], [], 0⟩ ?_
 have hm := h
 unfold m_pred_Print at hm
 refine Sx <| Wm (.s ([] : List UInt8)) rfl <| Nk 1 0 ⟨.l enc_GNode_ p0::tp 16 [], [], 0⟩ <| Sq <| Sx <| Wm (.l enc_GNode_ p0) rfl <| Wz (.i ((List.length p0 : Nat) : Int)) (Oln rfl) <| Wz (.b (decide (((List.length p0 : Nat) : Int) = 0))) (Obn rfl (fun _ => hb_eql (k := .i64))) ?_
 rcases br hm with ⟨f, hm⟩ | ⟨f, hm⟩
 · refine Wz (.b true) (Oq f rfl) <| Wn <| Wn <| Wn <| Wz (.b true) (OpT rfl) <| Nk 2049 0 ⟨.l enc_GNode_ p0::tp 10 (.b true::tp 5 []), [], 0⟩ <| AWP.if_ true (by kernel_rfl) <| Sx <| Wm (.s ([] : List UInt8)) rfl <| Nn <| Rt <| Tr ?_
   obtain rfl := sj hm
   exact ret_i []
 refine Wz (.b false) (Oq f rfl) <| Wm (.l enc_GNode_ p0) rfl ?_
 obtain ⟨d, j, hm⟩ := bnd hm
 refine Wz (.i d) (Ocf [] [] [] 0 (ok_pred_Check p0 d j) (fun a w => Try.call58 a w) rfl trivial) <| Wz (.b (decide (d ≠ 0))) (Obn rfl (fun _ => hb_neq (k := .i64))) <| Wz (.b (decide (d ≠ 0))) (OpF rfl) <| Nk 2049 0 ⟨.l enc_GNode_ p0::tp 10 (.b (decide (d ≠ 0))::tp 5 []), [], 0⟩ ?_
 rcases br hm with ⟨e, hm⟩ | ⟨e, hm⟩
 · refine AiT e <| Sx <| Wm (.s ([] : List UInt8)) rfl <| Nn <| Rt <| Tr ?_
   obtain rfl := sj hm
   exact ret_i []
 refine AiF e <| Sk <| Tk 1 0 ⟨.l enc_GNode_ p0::tp 16 [], [], 0⟩ <| Sx <| Wm (.l enc_GNode_ p0) rfl <| Wz (.agg [(.l enc_GNode_ p0), (.i 0)]) (Obd rfl) <| Wy (.loc 0 0) [(0, (.box [(.l enc_GNode_ p0), (.i 0)]))] (Obx rfl) <| Wm (.loc 0 0) rfl <| Nk 8 1 ⟨tp 3 (.loc 0 0::tp 13 []), [(.box [(.l enc_GNode_ p0), (.i 0)])], 0⟩ <| Sx <| Wm (.loc 0 0) rfl ?_
 obtain ⟨c, g, hm⟩ := bnd hm
 refine Wy (.s c.1) [(0, (.box [(.l enc_GNode_ c.2.l), (.i c.2.at_)]))] (Ocf [0] [] [] 0 (ok_pred_printer_tree 1152921504606846976 (GTchecker.mk p0 0) c g) (fun a w => Try.call60 a w) rfl ⟨rfl, trivial⟩) <| Wm (.s c.1) rfl <| Nn <| Rt ?_
 obtain rfl := sj hm
 exact ret_i []

theorem ok_shape_Node_text (p0 : GNode) (r : (List UInt8)) (h : m_shape_Node_text p0 = some r) : GCall Try.prog 31 [(.agg [(.y p0.Kind), (.i p0.Kids), (.i p0.Lo), (.i p0.Hi), (.s p0.Var), (.s p0.Type_), (.l enc_GNode_ p0.Test)])] [] (.s r) [] := by
 refine GCall.of_body (n := 27) (rs := [(.tmp 2)]) Try.func31 rfl rfl rfl <| Ato ⟨.agg [(.y p0.Kind), (.i p0.Kids), (.i p0.Lo), (.i p0.Hi), (.s p0.Var), (.s p0.Type_), (.l enc_GNode_ p0.Test)]::tu 26 [], [], 0⟩ ?_
 have hm := h
 unfold m_shape_Node_text at hm
 refine Sx <| Wy (.loc 0 0) [(0, (.box [(.y p0.Kind), (.i p0.Kids), (.i p0.Lo), (.i p0.Hi), (.s p0.Var), (.s p0.Type_), (.l enc_GNode_ p0.Test)]))] (Obx rfl) <| Wm (.s ([] : List UInt8)) rfl <| Nk 2 1 ⟨tp 1 (.loc 0 0::tp 25 []), [(.box [(.y p0.Kind), (.i p0.Kids), (.i p0.Lo), (.i p0.Hi), (.s p0.Var), (.s p0.Type_), (.l enc_GNode_ p0.Test)])], 0⟩ <| Sx <| Wz (.loc 0 4) (Ofa rfl) <| Wz (.s p0.Var) (Old rfl) ?_
 obtain ⟨d0, e0, f0, hm⟩ := bna hm
 refine Wz (.s d0) (Osd p0.Var ([58] : List UInt8) rfl e0 f0) <| Wz (.loc 0 5) (Ofa rfl) <| Wz (.s p0.Type_) (Old rfl) ?_
 obtain ⟨d, g0, h0, hm⟩ := bna hm
 refine Wz (.s d) (Osd d0 p0.Type_ rfl g0 h0) <| Wm (.s d) rfl <| Nk 10 1 ⟨tp 1 (.loc 0 0::tp 1 (.s d::tp 23 [])), [(.box [(.y p0.Kind), (.i p0.Kids), (.i p0.Lo), (.i p0.Hi), (.s p0.Var), (.s p0.Type_), (.l enc_GNode_ p0.Test)])], 0⟩ ?_
 refine AWP.cutJ (α := (List UInt8)) (fun x => match x with | c => (⟨tp 1 (.loc 0 0::tp 1 (.s c::tp 23 [])), [(.box [(.y p0.Kind), (.i p0.Kids), (.i p0.Lo), (.i p0.Hi), (.s p0.Var), (.s p0.Type_), (.l enc_GNode_ p0.Test)])], 0⟩ : St)) (fun x => match x with | c => m_shape_Node_text_j2 p0 c = some r) ?_ (fun J2 => ?_)
 ·
  rintro c hm
  try dsimp only at hm ⊢
  unfold m_shape_Node_text_j2 at hm
  refine Sq <| Sx <| Wz (.loc 0 6) (Ofa rfl) <| Wz (.l enc_GNode_ p0.Test) (Old rfl) <| Wz (.i ((List.length p0.Test : Nat) : Int)) (Oln rfl) <| Wz (.b (decide ((0 : Int) < ((List.length p0.Test : Nat) : Int)))) (Obn rfl (fun _ => hb_gtr (k := .i64))) <| Nk 262154 1 ⟨tp 1 (.loc 0 0::tp 1 (.s c::tp 14 (.b (decide ((0 : Int) < ((List.length p0.Test : Nat) : Int)))::tp 8 []))), [(.box [(.y p0.Kind), (.i p0.Kids), (.i p0.Lo), (.i p0.Hi), (.s p0.Var), (.s p0.Type_), (.l enc_GNode_ p0.Test)])], 0⟩ ?_
  rcases br hm with ⟨f, hm⟩ | ⟨f, hm⟩
  · refine AiT f <| Tx <| Wm (.s c) rfl <| Wz (.loc 0 6) (Ofa rfl) <| Wz (.l enc_GNode_ p0.Test) (Old rfl) ?_
    obtain ⟨j, i0, hm⟩ := bnd hm
    refine Wz (.s j) (Ocf [] [] [] 0 (ok_pred_Print p0.Test j i0) (fun a w => Try.call49 a w) rfl trivial) ?_
    obtain ⟨o, q, t, hm⟩ := bna hm
    refine Wz (.s o) (Osd ([91] : List UInt8) j rfl q t) ?_
    obtain ⟨p, u, v, hm⟩ := bna hm
    refine Wz (.s p) (Osd o ([93] : List UInt8) rfl u v) ?_
    obtain ⟨e, z, a0, hm⟩ := bna hm
    refine Wz (.s e) (Osd c p rfl z a0) <| Wm (.s e) rfl <| Nk 8 0 ⟨tp 3 (.s e::tp 23 []), [.gone], 0⟩ <| Sx <| Wm (.s e) rfl <| Wm (.s e) rfl <| Nn <| Rt ?_
    obtain rfl := sj hm
    exact ret_i []
  refine AiF f <| Sk <| Tk 8 0 ⟨tp 3 (.s c::tp 23 []), [.gone], 0⟩ <| Sx <| Wm (.s c) rfl <| Wm (.s c) rfl <| Nn <| Rt ?_
  obtain rfl := sj hm
  exact ret_i []
 refine Sq <| Sx <| Wz (.loc 0 0) (Ofa rfl) <| Wz (.y p0.Kind) (Old rfl) <| Wz (.b (decide (((p0.Kind.toNat : Nat) : Int) = 5))) (Ob2 (.int .u8 ((p0.Kind.toNat : Nat) : Int)) (.int .u8 5) rfl (fun _ => hb_eql)) <| Nk 4106 1 ⟨tp 1 (.loc 0 0::tp 1 (.s d::tp 8 (.b (decide (((p0.Kind.toNat : Nat) : Int) = 5))::tp 14 []))), [(.box [(.y p0.Kind), (.i p0.Kids), (.i p0.Lo), (.i p0.Hi), (.s p0.Var), (.s p0.Type_), (.l enc_GNode_ p0.Test)])], 0⟩ ?_
 rcases br hm with ⟨g, hm⟩ | ⟨g, hm⟩
 · refine AiT g <| Tx <| Wm (.s d) rfl ?_
   obtain ⟨m, b0, c0, hm⟩ := bna hm
   refine Wz (.s m) (Osd ([33] : List UInt8) d rfl b0 c0) <| Wm (.s m) rfl <| Nn ?_
   exact AWP.weak (Weak.toK 10 0 0 [0]) (J2 (m) hm)
 refine AiF g <| Sk <| Tn ?_
 exact AWP.weak (Weak.toK 10 0 0 [0]) (J2 (d) hm)

theorem ok_value_OfInt (p0 : Int) (r : GValue) (h : m_value_OfInt p0 = some r) : GCall Try.prog 51 [(.i p0)] [] (.agg [(.y r.Kind), (.i r.N), (.u r.Bits), (.s r.Text)]) [] := by
 refine GCall.of_body (n := 7) (rs := [(.cell 2 73)]) Try.func51 rfl rfl rfl <| Ato ⟨.i p0::tu 6 [], [], 0⟩ ?_
 have hm := h
 unfold m_value_OfInt at hm
 refine Sx <| Wy (.loc 0 0) [(0, (.box [(.y 0), (.i 0), (.u 0), (.s ([] : List UInt8))]))] (Oal rfl) <| Nk 5 1 ⟨.i p0::tp 1 (.loc 0 0::tp 4 []), [(.box [(.y 0), (.i 0), (.u 0), (.s ([] : List UInt8))])], 0⟩ <| Sx <| Wm (.i p0) rfl <| Wz (.i (min p0 4611686018427387904)) (op_bi2 rfl (a1 := .int .i64 p0) (a2 := .int .i64 4611686018427387904) (by kernel_rfl) (by kernel_rfl) hb_min) <| Wz (.i (max (-4611686018427387904) (min p0 4611686018427387904))) (op_bi2 rfl (a1 := .int .i64 (-4611686018427387904)) (a2 := .int .i64 (min p0 4611686018427387904)) (by kernel_rfl) (by kernel_rfl) hb_max) <| Wz (.agg [(.y 1), (.i (max (-4611686018427387904) (min p0 4611686018427387904))), (.u 0), (.s ([] : List UInt8))]) (Obd rfl) <| Wy (.tup []) [(0, (.box [(.y 1), (.i (max (-4611686018427387904) (min p0 4611686018427387904))), (.u 0), (.s ([] : List UInt8))]))] (Ost rfl) <| Nn <| Rt ?_
 obtain rfl := sj hm
 exact ret_i []

theorem ok_shape_digits (p0 : Int) (r : (List UInt8)) (h : m_shape_digits p0 = some r) : GCall Try.prog 33 [(.i p0)] [] (.s r) [] := by
 refine GCall.of_body (n := 6) (rs := [(.tmp 2)]) Try.func33 rfl rfl rfl <| Ato ⟨.i p0::tu 5 [], [], 0⟩ ?_
 have hm := h
 unfold m_shape_digits at hm
 refine Sx <| Wm (.s ([] : List UInt8)) rfl <| Nk 1 0 ⟨.i p0::tp 5 [], [], 0⟩ <| Sx <| Wm (.i p0) rfl ?_
 obtain ⟨b, d, hm⟩ := bnd hm
 refine Wz (.agg [(.y b.Kind), (.i b.N), (.u b.Bits), (.s b.Text)]) (Ocf [] [] [] 0 (ok_value_OfInt p0 b d) (fun a w => Try.call51 a w) rfl trivial) ?_
 obtain ⟨c, e, hm⟩ := bnd hm
 refine Wz (.s c) (Ocf [] [] [] 0 (ok_lex_Literal b c e) (fun a w => Try.call50 a w) rfl trivial) <| Wm (.s c) rfl <| Nn <| Rt ?_
 obtain rfl := sj hm
 exact ret_i []
end Go.Proofs.Ytdpmojhejidhiaa.K
