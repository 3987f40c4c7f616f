/- what telltalelaw13.ShapeTells needs (1) -/
import Derived.Test.YtdpmojhejidhiaaZA0
set_option linter.unusedVariables false
set_option linter.unusedSimpArgs false
namespace Go.Proofs.Ytdpmojhejidhiaa.K
open Go.RowKit Go.Lib
set_option maxRecDepth 20000
set_option maxHeartbeats 4000000

theorem ok_shape_Node_times (p0 : GNode) (r : (List UInt8)) (h : m_shape_Node_times p0 = some r) : GCall Try.prog 32 [(.agg [(.y p0.Kind), (.i p0.Kids), (.i p0.Lo), (.i p0.Hi), (.s p0.Var), (.s p0.Type_), (.l enc_GNode_ p0.Test)])] [] (.s r) [] := by
 refine GCall.of_body (n := 55) (rs := [(.tmp 2)]) Try.func32 rfl rfl rfl <| Ato ⟨.agg [(.y p0.Kind), (.i p0.Kids), (.i p0.Lo), (.i p0.Hi), (.s p0.Var), (.s p0.Type_), (.l enc_GNode_ p0.Test)]::tu 54 [], [], 0⟩ ?_
 have hm := h
 unfold m_shape_Node_times at hm
 refine Sx <| Wy (.loc 0 0) [(0, (.box [(.y p0.Kind), (.i p0.Kids), (.i p0.Lo), (.i p0.Hi), (.s p0.Var), (.s p0.Type_), (.l enc_GNode_ p0.Test)]))] (Obx rfl) <| Wm (.s ([] : List UInt8)) rfl <| Nk 2 1 ⟨tp 1 (.loc 0 0::tp 53 []), [(.box [(.y p0.Kind), (.i p0.Kids), (.i p0.Lo), (.i p0.Hi), (.s p0.Var), (.s p0.Type_), (.l enc_GNode_ p0.Test)])], 0⟩ ?_
 refine AWP.cutJ (α := Unit) (fun x => match x with | () => (⟨tp 1 (.loc 0 0::tp 53 []), [(.box [(.y p0.Kind), (.i p0.Kids), (.i p0.Lo), (.i p0.Hi), (.s p0.Var), (.s p0.Type_), (.l enc_GNode_ p0.Test)])], 0⟩ : St)) (fun x => match x with | () => m_shape_Node_times_j11 p0 = some r) ?_ (fun J11 => ?_)
 ·
  rintro ⟨⟩ hm
  try dsimp only at hm ⊢
  unfold m_shape_Node_times_j11 at hm
  refine Sq <| Adr <| Wz (.loc 0 2) (Ofa rfl) <| Wz (.i p0.Lo) (Old rfl) ?_
  obtain ⟨t, t1, hm⟩ := bnd hm
  refine Wz (.s t) (Ocf [] [] [] 0 (ok_shape_digits p0.Lo t t1) (fun a w => Try.call33 a w) rfl trivial) ?_
  obtain ⟨l0, s0, t0, hm⟩ := bna hm
  refine Wz (.s l0) (Osd ([123] : List UInt8) t rfl s0 t0) ?_
  obtain ⟨m0, u0, v0, hm⟩ := bna hm
  refine Wz (.s m0) (Osd l0 ([44] : List UInt8) rfl u0 v0) <| Wz (.loc 0 3) (Ofa rfl) <| Wz (.i p0.Hi) (Old rfl) ?_
  obtain ⟨u, u1, hm⟩ := bnd hm
  refine Wz (.s u) (Ocf [] [] [] 0 (ok_shape_digits p0.Hi u u1) (fun a w => Try.call33 a w) rfl trivial) ?_
  obtain ⟨n0, w0, x0, hm⟩ := bna hm
  refine Wz (.s n0) (Osd m0 u rfl w0 x0) ?_
  obtain ⟨o0, y0, z0, hm⟩ := bna hm
  refine Wz (.s o0) (Osd n0 ([125] : List UInt8) rfl y0 z0) <| Wm (.s o0) rfl <| Wdr <| Tn <| Rt ?_
  obtain rfl := sj hm
  exact ret_i []
 refine Sq <| Bk <| Sx <| Wz (.loc 0 3) (Ofa rfl) <| Wz (.i p0.Hi) (Old rfl) <| Wz (.b (decide (p0.Hi = 1))) (Obn rfl (fun _ => hb_eql (k := .i64))) <| Wm (.b (decide (p0.Hi = 1))) rfl <| Nk 10 1 ⟨tp 1 (.loc 0 0::tp 1 (.b (decide (p0.Hi = 1))::tp 51 [])), [(.box [(.y p0.Kind), (.i p0.Kids), (.i p0.Lo), (.i p0.Hi), (.s p0.Var), (.s p0.Type_), (.l enc_GNode_ p0.Test)])], 0⟩ ?_
 rcases br hm with ⟨v, hm⟩ | ⟨v, hm⟩
 · refine AiT v <| Sx <| Wm (.s ([63] : List UInt8)) rfl <| Nn <| Rt <| Ir <| Tr ?_
   obtain rfl := sj hm
   exact ret_i []
 refine AiF v <| Sx <| Wz (.loc 0 3) (Ofa rfl) <| Wz (.i p0.Hi) (Old rfl) <| Wz (.b (decide (p0.Hi = 0))) (Obn rfl (fun _ => hb_eql (k := .i64))) ?_
 rcases br hm with ⟨z, hm⟩ | ⟨z, hm⟩
 · refine Wz (.b true) (Oq z rfl) <| Wz (.loc 0 2) (Ofa rfl) <| Wz (.i p0.Lo) (Old rfl) <| Wz (.b (decide (p0.Lo = 0))) (Obn rfl (fun _ => hb_eql (k := .i64))) <| Wz (.b (decide (p0.Lo = 0))) (OpT rfl) <| Wm (.b (decide (p0.Lo = 0))) rfl <| Nk 130 1 ⟨tp 1 (.loc 0 0::tp 5 (.b (decide (p0.Lo = 0))::tp 47 [])), [(.box [(.y p0.Kind), (.i p0.Kids), (.i p0.Lo), (.i p0.Hi), (.s p0.Var), (.s p0.Type_), (.l enc_GNode_ p0.Test)])], 0⟩ ?_
   rcases br hm with ⟨a0, hm⟩ | ⟨a0, hm⟩
   · refine AiT a0 <| Sx <| Wm (.s ([42] : List UInt8)) rfl <| Nn <| Rt <| Ir <| Tr ?_
     obtain rfl := sj hm
     exact ret_i []
   refine AiF a0 <| Sx <| Wz (.loc 0 3) (Ofa rfl) <| Wz (.i p0.Hi) (Old rfl) <| Wz (.b (decide (p0.Hi = 0))) (Obn rfl (fun _ => hb_eql (k := .i64))) ?_
   rcases br hm with ⟨b0, hm⟩ | ⟨b0, hm⟩
   · refine Wz (.b true) (Oq b0 rfl) <| Wz (.loc 0 2) (Ofa rfl) <| Wz (.i p0.Lo) (Old rfl) <| Wz (.b (decide (p0.Lo = 1))) (Obn rfl (fun _ => hb_eql (k := .i64))) <| Wz (.b (decide (p0.Lo = 1))) (OpT rfl) <| Wm (.b (decide (p0.Lo = 1))) rfl <| Nk 65538 1 ⟨tp 1 (.loc 0 0::tp 14 (.b (decide (p0.Lo = 1))::tp 38 [])), [(.box [(.y p0.Kind), (.i p0.Kids), (.i p0.Lo), (.i p0.Hi), (.s p0.Var), (.s p0.Type_), (.l enc_GNode_ p0.Test)])], 0⟩ ?_
     rcases br hm with ⟨c, hm⟩ | ⟨c, hm⟩
     · refine AiT c <| Sx <| Wm (.s ([43] : List UInt8)) rfl <| Nn <| Rt <| Ir <| Tr ?_
       obtain rfl := sj hm
       exact ret_i []
     refine AiF c <| Sx <| Wz (.loc 0 3) (Ofa rfl) <| Wz (.i p0.Hi) (Old rfl) <| Wz (.b (decide (p0.Hi = 0))) (Obn rfl (fun _ => hb_eql (k := .i64))) <| Wm (.b (decide (p0.Hi = 0))) rfl <| Nk 33554434 1 ⟨tp 1 (.loc 0 0::tp 23 (.b (decide (p0.Hi = 0))::tp 29 [])), [(.box [(.y p0.Kind), (.i p0.Kids), (.i p0.Lo), (.i p0.Hi), (.s p0.Var), (.s p0.Type_), (.l enc_GNode_ p0.Test)])], 0⟩ ?_
     rcases br hm with ⟨d, hm⟩ | ⟨d, hm⟩
     · refine AiT d <| Sx <| Wz (.loc 0 2) (Ofa rfl) <| Wz (.i p0.Lo) (Old rfl) ?_
       obtain ⟨e0, z2, hm⟩ := bnd hm
       refine Wz (.s e0) (Ocf [] [] [] 0 (ok_shape_digits p0.Lo e0 z2) (fun a w => Try.call33 a w) rfl trivial) ?_
       obtain ⟨e1, v1, w1, hm⟩ := bna hm
       refine Wz (.s e1) (Osd ([123] : List UInt8) e0 rfl v1 w1) ?_
       obtain ⟨f1, x1, y1, hm⟩ := bna hm
       refine Wz (.s f1) (Osd e1 ([44, 125] : List UInt8) rfl x1 y1) <| Wm (.s f1) rfl <| Nn <| Rt <| Ir <| Tr ?_
       obtain rfl := sj hm
       exact ret_i []
     refine AiF d <| Sx <| Wz (.loc 0 3) (Ofa rfl) <| Wz (.i p0.Hi) (Old rfl) <| Wz (.loc 0 2) (Ofa rfl) <| Wz (.i p0.Lo) (Old rfl) <| Wz (.b (decide (p0.Hi = p0.Lo))) (Obn rfl (fun _ => hb_eql (k := .i64))) <| Wm (.b (decide (p0.Hi = p0.Lo))) rfl <| Nk 17179869186 1 ⟨tp 1 (.loc 0 0::tp 32 (.b (decide (p0.Hi = p0.Lo))::tp 20 [])), [(.box [(.y p0.Kind), (.i p0.Kids), (.i p0.Lo), (.i p0.Hi), (.s p0.Var), (.s p0.Type_), (.l enc_GNode_ p0.Test)])], 0⟩ ?_
     rcases br hm with ⟨e, hm⟩ | ⟨e, hm⟩
     · refine AiT e <| Sx <| Wz (.loc 0 2) (Ofa rfl) <| Wz (.i p0.Lo) (Old rfl) ?_
       obtain ⟨f0, a3, hm⟩ := bnd hm
       refine Wz (.s f0) (Ocf [] [] [] 0 (ok_shape_digits p0.Lo f0 a3) (fun a w => Try.call33 a w) rfl trivial) ?_
       obtain ⟨g1, z1, a2, hm⟩ := bna hm
       refine Wz (.s g1) (Osd ([123] : List UInt8) f0 rfl z1 a2) ?_
       obtain ⟨h1, b2, c2, hm⟩ := bna hm
       refine Wz (.s h1) (Osd g1 ([125] : List UInt8) rfl b2 c2) <| Wm (.s h1) rfl <| Nn <| Rt <| Ir <| Tr ?_
       obtain rfl := sj hm
       exact ret_i []
     refine AiF e <| Sk <| Ino <| Tn ?_
     exact AWP.weak (Weak.toK 2 0 0 [0]) (J11 () hm)
   refine Wz (.b false) (Oq b0 rfl) <| Wn <| Wn <| Wn <| Wz (.b false) (OpF rfl) <| Wm (.b false) rfl <| Nk 65538 1 ⟨tp 1 (.loc 0 0::tp 14 (.b false::tp 38 [])), [(.box [(.y p0.Kind), (.i p0.Kids), (.i p0.Lo), (.i p0.Hi), (.s p0.Var), (.s p0.Type_), (.l enc_GNode_ p0.Test)])], 0⟩ <| AWP.if_ false (by kernel_rfl) <| Sx <| Wz (.loc 0 3) (Ofa rfl) <| Wz (.i p0.Hi) (Old rfl) <| Wz (.b (decide (p0.Hi = 0))) (Obn rfl (fun _ => hb_eql (k := .i64))) <| Wm (.b (decide (p0.Hi = 0))) rfl <| Nk 33554434 1 ⟨tp 1 (.loc 0 0::tp 23 (.b (decide (p0.Hi = 0))::tp 29 [])), [(.box [(.y p0.Kind), (.i p0.Kids), (.i p0.Lo), (.i p0.Hi), (.s p0.Var), (.s p0.Type_), (.l enc_GNode_ p0.Test)])], 0⟩ ?_
   rcases br hm with ⟨f, hm⟩ | ⟨f, hm⟩
   · refine AiT f <| Sx <| Wz (.loc 0 2) (Ofa rfl) <| Wz (.i p0.Lo) (Old rfl) ?_
     obtain ⟨g0, b3, hm⟩ := bnd hm
     refine Wz (.s g0) (Ocf [] [] [] 0 (ok_shape_digits p0.Lo g0 b3) (fun a w => Try.call33 a w) rfl trivial) ?_
     obtain ⟨i1, d2, e2, hm⟩ := bna hm
     refine Wz (.s i1) (Osd ([123] : List UInt8) g0 rfl d2 e2) ?_
     obtain ⟨j1, f2, g2, hm⟩ := bna hm
     refine Wz (.s j1) (Osd i1 ([44, 125] : List UInt8) rfl f2 g2) <| Wm (.s j1) rfl <| Nn <| Rt <| Ir <| Tr ?_
     obtain rfl := sj hm
     exact ret_i []
   refine AiF f <| Sx <| Wz (.loc 0 3) (Ofa rfl) <| Wz (.i p0.Hi) (Old rfl) <| Wz (.loc 0 2) (Ofa rfl) <| Wz (.i p0.Lo) (Old rfl) <| Wz (.b (decide (p0.Hi = p0.Lo))) (Obn rfl (fun _ => hb_eql (k := .i64))) <| Wm (.b (decide (p0.Hi = p0.Lo))) rfl <| Nk 17179869186 1 ⟨tp 1 (.loc 0 0::tp 32 (.b (decide (p0.Hi = p0.Lo))::tp 20 [])), [(.box [(.y p0.Kind), (.i p0.Kids), (.i p0.Lo), (.i p0.Hi), (.s p0.Var), (.s p0.Type_), (.l enc_GNode_ p0.Test)])], 0⟩ ?_
   rcases br hm with ⟨g, hm⟩ | ⟨g, hm⟩
   · refine AiT g <| Sx <| Wz (.loc 0 2) (Ofa rfl) <| Wz (.i p0.Lo) (Old rfl) ?_
     obtain ⟨h0, c3, hm⟩ := bnd hm
     refine Wz (.s h0) (Ocf [] [] [] 0 (ok_shape_digits p0.Lo h0 c3) (fun a w => Try.call33 a w) rfl trivial) ?_
     obtain ⟨k1, h2, i2, hm⟩ := bna hm
     refine Wz (.s k1) (Osd ([123] : List UInt8) h0 rfl h2 i2) ?_
     obtain ⟨l1, j2, k2, hm⟩ := bna hm
     refine Wz (.s l1) (Osd k1 ([125] : List UInt8) rfl j2 k2) <| Wm (.s l1) rfl <| Nn <| Rt <| Ir <| Tr ?_
     obtain rfl := sj hm
     exact ret_i []
   refine AiF g <| Sk <| Ino <| Tn ?_
   exact AWP.weak (Weak.toK 2 0 0 [0]) (J11 () hm)
 refine Wz (.b false) (Oq z rfl) <| Wn <| Wn <| Wn <| Wz (.b false) (OpF rfl) <| Wm (.b false) rfl <| Nk 130 1 ⟨tp 1 (.loc 0 0::tp 5 (.b false::tp 47 [])), [(.box [(.y p0.Kind), (.i p0.Kids), (.i p0.Lo), (.i p0.Hi), (.s p0.Var), (.s p0.Type_), (.l enc_GNode_ p0.Test)])], 0⟩ <| AWP.if_ false (by kernel_rfl) <| Sx <| Wz (.loc 0 3) (Ofa rfl) <| Wz (.i p0.Hi) (Old rfl) <| Wz (.b (decide (p0.Hi = 0))) (Obn rfl (fun _ => hb_eql (k := .i64))) ?_
 rcases br hm with ⟨c0, hm⟩ | ⟨c0, hm⟩
 · refine Wz (.b true) (Oq c0 rfl) <| Wz (.loc 0 2) (Ofa rfl) <| Wz (.i p0.Lo) (Old rfl) <| Wz (.b (decide (p0.Lo = 1))) (Obn rfl (fun _ => hb_eql (k := .i64))) <| Wz (.b (decide (p0.Lo = 1))) (OpT rfl) <| Wm (.b (decide (p0.Lo = 1))) rfl <| Nk 65538 1 ⟨tp 1 (.loc 0 0::tp 14 (.b (decide (p0.Lo = 1))::tp 38 [])), [(.box [(.y p0.Kind), (.i p0.Kids), (.i p0.Lo), (.i p0.Hi), (.s p0.Var), (.s p0.Type_), (.l enc_GNode_ p0.Test)])], 0⟩ ?_
   rcases br hm with ⟨j, hm⟩ | ⟨j, hm⟩
   · refine AiT j <| Sx <| Wm (.s ([43] : List UInt8)) rfl <| Nn <| Rt <| Ir <| Tr ?_
     obtain rfl := sj hm
     exact ret_i []
   refine AiF j <| Sx <| Wz (.loc 0 3) (Ofa rfl) <| Wz (.i p0.Hi) (Old rfl) <| Wz (.b (decide (p0.Hi = 0))) (Obn rfl (fun _ => hb_eql (k := .i64))) <| Wm (.b (decide (p0.Hi = 0))) rfl <| Nk 33554434 1 ⟨tp 1 (.loc 0 0::tp 23 (.b (decide (p0.Hi = 0))::tp 29 [])), [(.box [(.y p0.Kind), (.i p0.Kids), (.i p0.Lo), (.i p0.Hi), (.s p0.Var), (.s p0.Type_), (.l enc_GNode_ p0.Test)])], 0⟩ ?_
   rcases br hm with ⟨m, hm⟩ | ⟨m, hm⟩
   · refine AiT m <| Sx <| Wz (.loc 0 2) (Ofa rfl) <| Wz (.i p0.Lo) (Old rfl) ?_
     obtain ⟨i0, d3, hm⟩ := bnd hm
     refine Wz (.s i0) (Ocf [] [] [] 0 (ok_shape_digits p0.Lo i0 d3) (fun a w => Try.call33 a w) rfl trivial) ?_
     obtain ⟨m1, l2, m2, hm⟩ := bna hm
     refine Wz (.s m1) (Osd ([123] : List UInt8) i0 rfl l2 m2) ?_
     obtain ⟨n1, n2, o2, hm⟩ := bna hm
     refine Wz (.s n1) (Osd m1 ([44, 125] : List UInt8) rfl n2 o2) <| Wm (.s n1) rfl <| Nn <| Rt <| Ir <| Tr ?_
     obtain rfl := sj hm
     exact ret_i []
   refine AiF m <| Sx <| Wz (.loc 0 3) (Ofa rfl) <| Wz (.i p0.Hi) (Old rfl) <| Wz (.loc 0 2) (Ofa rfl) <| Wz (.i p0.Lo) (Old rfl) <| Wz (.b (decide (p0.Hi = p0.Lo))) (Obn rfl (fun _ => hb_eql (k := .i64))) <| Wm (.b (decide (p0.Hi = p0.Lo))) rfl <| Nk 17179869186 1 ⟨tp 1 (.loc 0 0::tp 32 (.b (decide (p0.Hi = p0.Lo))::tp 20 [])), [(.box [(.y p0.Kind), (.i p0.Kids), (.i p0.Lo), (.i p0.Hi), (.s p0.Var), (.s p0.Type_), (.l enc_GNode_ p0.Test)])], 0⟩ ?_
   rcases br hm with ⟨o, hm⟩ | ⟨o, hm⟩
   · refine AiT o <| Sx <| Wz (.loc 0 2) (Ofa rfl) <| Wz (.i p0.Lo) (Old rfl) ?_
     obtain ⟨j0, e3, hm⟩ := bnd hm
     refine Wz (.s j0) (Ocf [] [] [] 0 (ok_shape_digits p0.Lo j0 e3) (fun a w => Try.call33 a w) rfl trivial) ?_
     obtain ⟨o1, q2, r2, hm⟩ := bna hm
     refine Wz (.s o1) (Osd ([123] : List UInt8) j0 rfl q2 r2) ?_
     obtain ⟨q1, s2, t2, hm⟩ := bna hm
     refine Wz (.s q1) (Osd o1 ([125] : List UInt8) rfl s2 t2) <| Wm (.s q1) rfl <| Nn <| Rt <| Ir <| Tr ?_
     obtain rfl := sj hm
     exact ret_i []
   refine AiF o <| Sk <| Ino <| Tn ?_
   exact AWP.weak (Weak.toK 2 0 0 [0]) (J11 () hm)
 refine Wz (.b false) (Oq c0 rfl) <| Wn <| Wn <| Wn <| Wz (.b false) (OpF rfl) <| Wm (.b false) rfl <| Nk 65538 1 ⟨tp 1 (.loc 0 0::tp 14 (.b false::tp 38 [])), [(.box [(.y p0.Kind), (.i p0.Kids), (.i p0.Lo), (.i p0.Hi), (.s p0.Var), (.s p0.Type_), (.l enc_GNode_ p0.Test)])], 0⟩ <| AWP.if_ false (by kernel_rfl) <| Sx <| Wz (.loc 0 3) (Ofa rfl) <| Wz (.i p0.Hi) (Old rfl) <| Wz (.b (decide (p0.Hi = 0))) (Obn rfl (fun _ => hb_eql (k := .i64))) <| Wm (.b (decide (p0.Hi = 0))) rfl <| Nk 33554434 1 ⟨tp 1 (.loc 0 0::tp 23 (.b (decide (p0.Hi = 0))::tp 29 [])), [(.box [(.y p0.Kind), (.i p0.Kids), (.i p0.Lo), (.i p0.Hi), (.s p0.Var), (.s p0.Type_), (.l enc_GNode_ p0.Test)])], 0⟩ ?_
 rcases br hm with ⟨p, hm⟩ | ⟨p, hm⟩
 · refine AiT p <| Sx <| Wz (.loc 0 2) (Ofa rfl) <| Wz (.i p0.Lo) (Old rfl) ?_
   obtain ⟨k0, f3, hm⟩ := bnd hm
   refine Wz (.s k0) (Ocf [] [] [] 0 (ok_shape_digits p0.Lo k0 f3) (fun a w => Try.call33 a w) rfl trivial) ?_
   obtain ⟨r1, u2, v2, hm⟩ := bna hm
   refine Wz (.s r1) (Osd ([123] : List UInt8) k0 rfl u2 v2) ?_
   obtain ⟨s1, w2, x2, hm⟩ := bna hm
   refine Wz (.s s1) (Osd r1 ([44, 125] : List UInt8) rfl w2 x2) <| Wm (.s s1) rfl <| Nn <| Rt <| Ir <| Tr ?_
   obtain rfl := sj hm
   exact ret_i []
 refine AiF p <| Sx <| Wz (.loc 0 3) (Ofa rfl) <| Wz (.i p0.Hi) (Old rfl) <| Wz (.loc 0 2) (Ofa rfl) <| Wz (.i p0.Lo) (Old rfl) <| Wz (.b (decide (p0.Hi = p0.Lo))) (Obn rfl (fun _ => hb_eql (k := .i64))) <| Wm (.b (decide (p0.Hi = p0.Lo))) rfl <| Nk 17179869186 1 ⟨tp 1 (.loc 0 0::tp 32 (.b (decide (p0.Hi = p0.Lo))::tp 20 [])), [(.box [(.y p0.Kind), (.i p0.Kids), (.i p0.Lo), (.i p0.Hi), (.s p0.Var), (.s p0.Type_), (.l enc_GNode_ p0.Test)])], 0⟩ ?_
 rcases br hm with ⟨q, hm⟩ | ⟨q, hm⟩
 · refine AiT q <| Sx <| Wz (.loc 0 2) (Ofa rfl) <| Wz (.i p0.Lo) (Old rfl) ?_
   obtain ⟨d0, y2, hm⟩ := bnd hm
   refine Wz (.s d0) (Ocf [] [] [] 0 (ok_shape_digits p0.Lo d0 y2) (fun a w => Try.call33 a w) rfl trivial) ?_
   obtain ⟨q0, a1, b1, hm⟩ := bna hm
   refine Wz (.s q0) (Osd ([123] : List UInt8) d0 rfl a1 b1) ?_
   obtain ⟨r0, c1, d1, hm⟩ := bna hm
   refine Wz (.s r0) (Osd q0 ([125] : List UInt8) rfl c1 d1) <| Wm (.s r0) rfl <| Nn <| Rt <| Ir <| Tr ?_
   obtain rfl := sj hm
   exact ret_i []
 refine AiF q <| Sk <| Ino <| Tn ?_
 exact AWP.weak (Weak.toK 2 0 0 [0]) (J11 () hm)

theorem ok_shape_Print_1 : ∀ (fuR : Nat) (p0 : UInt8) (p1 : GPattern) (p2 : Int) (r : ((List UInt8) × GPattern × Int)) (h : m_shape_Print_1 fuR p0 p1 p2 = some r), GCall Try.prog 29 [(.y p0), (.loc 0 0), (.loc 1 0), (.loc 2 0)] [(.box [(.l enc_GNode p1.Body), (.i p1.Within), (.s p1.By), (.y p1.Mode)]), (.box [(.i p2)]), (.box [(.clo (.func 29) [] [(.loc 0 0), (.loc 1 0), (.loc 2 0)])])] (.s r.1) [(.box [(.l enc_GNode r.2.1.Body), (.i r.2.1.Within), (.s r.2.1.By), (.y r.2.1.Mode)]), (.box [(.i r.2.2)]), (.box [(.clo (.func 29) [] [(.loc 0 0), (.loc 1 0), (.loc 2 0)])])] := by
 intro fuR; induction fuR with
 | zero => intro p0 p1 p2 r h; exact absurd h (by unfold m_shape_Print_1; simp)
 | succ fuR ih =>
 intro p0 p1 p2 r h
 refine GCall.of_body (n := 63) (rs := [(.tmp 5)]) Try.func29 rfl rfl rfl <| Ato ⟨.y p0::.loc 0 0::.loc 1 0::.loc 2 0::tu 59 [], [(.box [(.l enc_GNode p1.Body), (.i p1.Within), (.s p1.By), (.y p1.Mode)]), (.box [(.i p2)]), (.box [(.clo (.func 29) [] [(.loc 0 0), (.loc 1 0), (.loc 2 0)])])], 3⟩ ?_
 have hm := h
 unfold m_shape_Print_1 at hm
 refine Sx <| Wm (.s ([] : List UInt8)) rfl <| Nk 15 7 ⟨.y p0::.loc 0 0::.loc 1 0::.loc 2 0::tp 59 [], [(.box [(.l enc_GNode p1.Body), (.i p1.Within), (.s p1.By), (.y p1.Mode)]), (.box [(.i p2)]), (.box [(.clo (.func 29) [] [(.loc 0 0), (.loc 1 0), (.loc 2 0)])])], 3⟩ <| Sx <| Wz (.loc 0 0) (Ofa rfl) <| Wz (.l enc_GNode p1.Body) (Old rfl) <| Wz (.i p2) (Old rfl) ?_
 obtain ⟨c, f1, hm⟩ := bnd hm
 obtain ⟨y0, f0⟩ := geti_some f1
 refine Wz (.d (.ref (List.drop ((Int.toNat p2) * 7) (flatD enc_GNode p1.Body)))) (Oia rfl enc_GNode_len y0 f0) <| Wz (.agg [(.y c.Kind), (.i c.Kids), (.i c.Lo), (.i c.Hi), (.s c.Var), (.s c.Type_), (.l enc_GNode_ c.Test)]) (Lf rfl enc_GNode_len f0) <| Wy (.loc 3 0) [(3, (.box [(.y 0), (.i 0), (.i 0), (.i 0), (.s ([] : List UInt8)), (.s ([] : List UInt8)), (.d .nil)]))] (Oal rfl) <| Wy (.tup []) [(3, (.box [(.y c.Kind), (.i c.Kids), (.i c.Lo), (.i c.Hi), (.s c.Var), (.s c.Type_), (.l enc_GNode_ c.Test)]))] (Ost rfl) <| Nk 77 15 ⟨.y p0::tp 1 (.loc 1 0::.loc 2 0::tp 2 (.loc 3 0::tp 56 [])), [(.box [(.l enc_GNode p1.Body), (.i p1.Within), (.s p1.By), (.y p1.Mode)]), (.box [(.i p2)]), (.box [(.clo (.func 29) [] [(.loc 0 0), (.loc 1 0), (.loc 2 0)])]), (.box [(.y c.Kind), (.i c.Kids), (.i c.Lo), (.i c.Hi), (.s c.Var), (.s c.Type_), (.l enc_GNode_ c.Test)])], 3⟩ <| Sx <| Wz (.i p2) (Old rfl) <| Wz (.i (W6 (p2 + 1))) (Obn rfl (fun _ => hb_add (k := .i64))) <| Wy (.tup []) [(1, (.box [(.i (W6 (p2 + 1)))]))] (Ost rfl) <| Nk 73 15 ⟨.y p0::tp 2 (.loc 2 0::tp 2 (.loc 3 0::tp 56 [])), [(.box [(.l enc_GNode p1.Body), (.i p1.Within), (.s p1.By), (.y p1.Mode)]), (.box [(.i (W6 (p2 + 1)))]), (.box [(.clo (.func 29) [] [(.loc 0 0), (.loc 1 0), (.loc 2 0)])]), (.box [(.y c.Kind), (.i c.Kids), (.i c.Lo), (.i c.Hi), (.s c.Var), (.s c.Type_), (.l enc_GNode_ c.Test)])], 3⟩ <| Sq <| Sx <| Wz (.agg [(.y c.Kind), (.i c.Kids), (.i c.Lo), (.i c.Hi), (.s c.Var), (.s c.Type_), (.l enc_GNode_ c.Test)]) (Old rfl) ?_
 obtain ⟨g0, g1, hm⟩ := bnd hm
 refine Wz (.b g0) (Ocf [] [] [] 0 (ok_shape_Node_leaf c g0 g1) (fun a w => Try.call30 a w) rfl trivial) <| Nk 131145 15 ⟨.y p0::tp 2 (.loc 2 0::tp 2 (.loc 3 0::tp 10 (.b g0::tp 45 []))), [(.box [(.l enc_GNode p1.Body), (.i p1.Within), (.s p1.By), (.y p1.Mode)]), (.box [(.i (W6 (p2 + 1)))]), (.box [(.clo (.func 29) [] [(.loc 0 0), (.loc 1 0), (.loc 2 0)])]), (.box [(.y c.Kind), (.i c.Kids), (.i c.Lo), (.i c.Hi), (.s c.Var), (.s c.Type_), (.l enc_GNode_ c.Test)])], 3⟩ ?_
 rcases br hm with ⟨u, hm⟩ | ⟨u, hm⟩
 · refine AiT u <| Sx <| Wz (.agg [(.y c.Kind), (.i c.Kids), (.i c.Lo), (.i c.Hi), (.s c.Var), (.s c.Type_), (.l enc_GNode_ c.Test)]) (Old rfl) ?_
   obtain ⟨h0, h1, hm⟩ := bnd hm
   refine Wz (.s h0) (Ocf [] [] [] 0 (ok_shape_Node_text c h0 h1) (fun a w => Try.call31 a w) rfl trivial) <| Wm (.s h0) rfl <| Nn <| Rt <| Tr ?_
   obtain rfl := sj hm
   exact ret_i [0, 1, 2]
 refine AiF u <| Sk <| Tk 73 15 ⟨.y p0::tp 2 (.loc 2 0::tp 2 (.loc 3 0::tp 56 [])), [(.box [(.l enc_GNode p1.Body), (.i p1.Within), (.s p1.By), (.y p1.Mode)]), (.box [(.i (W6 (p2 + 1)))]), (.box [(.clo (.func 29) [] [(.loc 0 0), (.loc 1 0), (.loc 2 0)])]), (.box [(.y c.Kind), (.i c.Kids), (.i c.Lo), (.i c.Hi), (.s c.Var), (.s c.Type_), (.l enc_GNode_ c.Test)])], 3⟩ <| Sx <| Wm (.s ([59, 32] : List UInt8)) rfl <| Nk 201 15 ⟨.y p0::tp 2 (.loc 2 0::tp 2 (.loc 3 0::.s ([59, 32] : List UInt8)::tp 55 [])), [(.box [(.l enc_GNode p1.Body), (.i p1.Within), (.s p1.By), (.y p1.Mode)]), (.box [(.i (W6 (p2 + 1)))]), (.box [(.clo (.func 29) [] [(.loc 0 0), (.loc 1 0), (.loc 2 0)])]), (.box [(.y c.Kind), (.i c.Kids), (.i c.Lo), (.i c.Hi), (.s c.Var), (.s c.Type_), (.l enc_GNode_ c.Test)])], 3⟩ ?_
 refine AWP.cutJ (α := (List UInt8)) (fun x => match x with | t => (⟨.y p0::tp 2 (.loc 2 0::tp 2 (.loc 3 0::.s t::tp 55 [])), [(.box [(.l enc_GNode p1.Body), (.i p1.Within), (.s p1.By), (.y p1.Mode)]), (.box [(.i (W6 (p2 + 1)))]), (.box [(.clo (.func 29) [] [(.loc 0 0), (.loc 1 0), (.loc 2 0)])]), (.box [(.y c.Kind), (.i c.Kids), (.i c.Lo), (.i c.Hi), (.s c.Var), (.s c.Type_), (.l enc_GNode_ c.Test)])], 3⟩ : St)) (fun x => match x with | t => m_shape_Print_1_j3 p0 p1 p2 c (fun p0 p1 p2 => m_shape_Print_1 fuR p0 p1 p2) t = some r) ?_ (fun J3 => ?_)
 ·
  rintro t hm
  try dsimp only at hm ⊢
  unfold m_shape_Print_1_j3 at hm
  refine Sx <| Wz (.clo (.func 29) [] [(.loc 0 0), (.loc 1 0), (.loc 2 0)]) (Old rfl) <| Wz (.loc 3 0) (Ofa rfl) <| Wz (.y c.Kind) (Old rfl) ?_
  obtain ⟨f, i1, hm⟩ := bnd hm
  refine Wy (.s f.1) [(0, (.box [(.l enc_GNode f.2.1.Body), (.i f.2.1.Within), (.s f.2.1.By), (.y f.2.1.Mode)])), (1, (.box [(.i f.2.2)])), (2, (.box [(.clo (.func 29) [] [(.loc 0 0), (.loc 1 0), (.loc 2 0)])]))] (Ocf [0, 1, 2] [] [] 0 (ih c.Kind p1 (W6 (p2 + 1)) f i1) (fun a w => Try.call29 a w) rfl ⟨rfl, rfl, rfl, trivial⟩) <| Wm (.s f.1) rfl <| Nk 457 15 ⟨.y p0::tp 2 (.loc 2 0::tp 2 (.loc 3 0::.s t::.s f.1::tp 54 [])), [(.box [(.l enc_GNode f.2.1.Body), (.i f.2.1.Within), (.s f.2.1.By), (.y f.2.1.Mode)]), (.box [(.i f.2.2)]), (.box [(.clo (.func 29) [] [(.loc 0 0), (.loc 1 0), (.loc 2 0)])]), (.box [(.y c.Kind), (.i c.Kids), (.i c.Lo), (.i c.Hi), (.s c.Var), (.s c.Type_), (.l enc_GNode_ c.Test)])], 3⟩ <| Sq <| Sx <| Wz (.agg [(.y c.Kind), (.i c.Kids), (.i c.Lo), (.i c.Hi), (.s c.Var), (.s c.Type_), (.l enc_GNode_ c.Test)]) (Old rfl) ?_
  obtain ⟨p, j1, hm⟩ := bnd hm
  refine Wz (.i p) (Ocf [] [] [] 0 (ok_shape_Node_kids c p j1) (fun a w => Try.call23 a w) rfl trivial) <| Wz (.i (W6 (p - 1))) (Obn rfl (fun _ => hb_sub (k := .i64))) <| Wm (.i 0) rfl <| Nk 1610613193 15 ⟨.y p0::tp 2 (.loc 2 0::tp 2 (.loc 3 0::.s t::.s f.1::tp 20 (.i (W6 (p - 1))::.i 0::tp 32 []))), [(.box [(.l enc_GNode f.2.1.Body), (.i f.2.1.Within), (.s f.2.1.By), (.y f.2.1.Mode)]), (.box [(.i f.2.2)]), (.box [(.clo (.func 29) [] [(.loc 0 0), (.loc 1 0), (.loc 2 0)])]), (.box [(.y c.Kind), (.i c.Kids), (.i c.Lo), (.i c.Hi), (.s c.Var), (.s c.Type_), (.l enc_GNode_ c.Test)])], 3⟩ <| Bk ?_
  refine AWP.loopI (α := Nat × GPattern × Int × (List UInt8) × Int)
    (fun (fu_6, e, g, q, o) => (⟨.y p0::tp 2 (.loc 2 0::tp 2 (.loc 3 0::.s t::.s q::tp 20 (.i (W6 (p - 1))::.i o::tp 32 []))), [(.box [(.l enc_GNode e.Body), (.i e.Within), (.s e.By), (.y e.Mode)]), (.box [(.i g)]), (.box [(.clo (.func 29) [] [(.loc 0 0), (.loc 1 0), (.loc 2 0)])]), (.box [(.y c.Kind), (.i c.Kids), (.i c.Lo), (.i c.Hi), (.s c.Var), (.s c.Type_), (.l enc_GNode_ c.Test)])], 3⟩ : St))
    (fun (fu_6, e, g, q, o) => m_shape_Print_1_l6 p0 p c t (fun p0 p1 p2 => m_shape_Print_1 fuR p0 p1 p2) fu_6 e g q o = some r)
    (fun (fu_6, e, g, q, o) => fu_6) (1152921504606846976, f.2.1, f.2.2, f.1, 0)
    (Weak.toK 1610613193 0 0 [0, 1, 2, 3]) hm ?_
  rintro ⟨fu_6, e, g, q, o⟩ n_6 hm ih_6
  try dsimp only at hm ih_6 ⊢
  cases fu_6 with
  | zero => exact absurd hm (by unfold m_shape_Print_1_l6; simp)
  | succ fu_6 =>
   unfold m_shape_Print_1_l6 at hm
   refine Sx <| Wz (.b (decide (o < (W6 (p - 1))))) (Obn rfl (fun _ => hb_lss (k := .i64))) <| Nk 3758096841 15 ⟨.y p0::tp 2 (.loc 2 0::tp 2 (.loc 3 0::.s t::.s q::tp 20 (.i (W6 (p - 1))::.i o::.b (decide (o < (W6 (p - 1))))::tp 31 []))), [(.box [(.l enc_GNode e.Body), (.i e.Within), (.s e.By), (.y e.Mode)]), (.box [(.i g)]), (.box [(.clo (.func 29) [] [(.loc 0 0), (.loc 1 0), (.loc 2 0)])]), (.box [(.y c.Kind), (.i c.Kids), (.i c.Lo), (.i c.Hi), (.s c.Var), (.s c.Type_), (.l enc_GNode_ c.Test)])], 3⟩ <| Sq ?_
   rcases br hm with ⟨v, hm⟩ | ⟨v, hm⟩
   · refine AiT v <| Sk <| Tk 1610613193 15 ⟨.y p0::tp 2 (.loc 2 0::tp 2 (.loc 3 0::.s t::.s q::tp 20 (.i (W6 (p - 1))::.i o::tp 32 []))), [(.box [(.l enc_GNode e.Body), (.i e.Within), (.s e.By), (.y e.Mode)]), (.box [(.i g)]), (.box [(.clo (.func 29) [] [(.loc 0 0), (.loc 1 0), (.loc 2 0)])]), (.box [(.y c.Kind), (.i c.Kids), (.i c.Lo), (.i c.Hi), (.s c.Var), (.s c.Type_), (.l enc_GNode_ c.Test)])], 3⟩ <| Sq <| Bk <| Tx <| Wm (.s q) rfl <| Wm (.s t) rfl <| Wz (.clo (.func 29) [] [(.loc 0 0), (.loc 1 0), (.loc 2 0)]) (Old rfl) <| Wz (.loc 3 0) (Ofa rfl) <| Wz (.y c.Kind) (Old rfl) ?_
     obtain ⟨j, k1, hm⟩ := bnd hm
     refine Wy (.s j.1) [(0, (.box [(.l enc_GNode j.2.1.Body), (.i j.2.1.Within), (.s j.2.1.By), (.y j.2.1.Mode)])), (1, (.box [(.i j.2.2)])), (2, (.box [(.clo (.func 29) [] [(.loc 0 0), (.loc 1 0), (.loc 2 0)])]))] (Ocf [0, 1, 2] [] [] 0 (ih c.Kind e g j k1) (fun a w => Try.call29 a w) rfl ⟨rfl, rfl, rfl, trivial⟩) ?_
     obtain ⟨x0, z0, a1, hm⟩ := bna hm
     refine Wz (.s x0) (Osd t j.1 rfl z0 a1) ?_
     obtain ⟨e0, b1, c1, hm⟩ := bna hm
     refine Wz (.s e0) (Osd q x0 rfl b1 c1) <| Wm (.s e0) rfl <| Wn0 <| Ino <| Tk 1610613193 15 ⟨.y p0::tp 2 (.loc 2 0::tp 2 (.loc 3 0::.s t::.s e0::tp 20 (.i (W6 (p - 1))::.i o::tp 32 []))), [(.box [(.l enc_GNode j.2.1.Body), (.i j.2.1.Within), (.s j.2.1.By), (.y j.2.1.Mode)]), (.box [(.i j.2.2)]), (.box [(.clo (.func 29) [] [(.loc 0 0), (.loc 1 0), (.loc 2 0)])]), (.box [(.y c.Kind), (.i c.Kids), (.i c.Lo), (.i c.Hi), (.s c.Var), (.s c.Type_), (.l enc_GNode_ c.Test)])], 3⟩ <| Tx <| Wz (.i (W6 (o + 1))) (Obn rfl (fun _ => hb_add (k := .i64))) <| Wm (.i (W6 (o + 1))) rfl <| Wn0 <| RoundK.normal ?_
     exact Rounds.weak (Weak.toK 1610613193 0 0 [0, 1, 2, 3]) (ih_6 (fu_6, j.2.1, j.2.2, e0, (W6 (o + 1))) hm (Nat.lt_succ_self _))
   refine AiF v <| AWP.exit <| Then.exit <| RoundK.exit <| InBlock.same <| Tk 321 15 ⟨.y p0::tp 5 (.loc 3 0::tp 1 (.s q::tp 54 [])), [(.box [(.l enc_GNode e.Body), (.i e.Within), (.s e.By), (.y e.Mode)]), (.box [(.i g)]), (.box [(.clo (.func 29) [] [(.loc 0 0), (.loc 1 0), (.loc 2 0)])]), (.box [(.y c.Kind), (.i c.Kids), (.i c.Lo), (.i c.Hi), (.s c.Var), (.s c.Type_), (.l enc_GNode_ c.Test)])], 3⟩ ?_
   refine AWP.cutJ (α := (List UInt8)) (fun x => match x with | m => (⟨.y p0::tp 5 (.loc 3 0::tp 1 (.s m::tp 54 [])), [(.box [(.l enc_GNode e.Body), (.i e.Within), (.s e.By), (.y e.Mode)]), (.box [(.i g)]), (.box [(.clo (.func 29) [] [(.loc 0 0), (.loc 1 0), (.loc 2 0)])]), (.box [(.y c.Kind), (.i c.Kids), (.i c.Lo), (.i c.Hi), (.s c.Var), (.s c.Type_), (.l enc_GNode_ c.Test)])], 3⟩ : St)) (fun x => match x with | m => m_shape_Print_1_j9 p0 c e g m = some r) ?_ (fun J9 => ?_)
   ·
    rintro m hm
    try dsimp only at hm ⊢
    unfold m_shape_Print_1_j9 at hm
    refine Sq <| Sx <| Wm (.y p0) rfl <| Wz (.b (decide (((p0.toNat : Nat) : Int) = 3))) (Ob2 (.int .u8 ((p0.toNat : Nat) : Int)) (.int .u8 3) rfl (fun _ => hb_eql)) ?_
    rcases br hm with ⟨z, hm⟩ | ⟨z, hm⟩
    · refine Wz (.b true) (Oq z rfl) <| Wn <| Wn <| Wn <| Wn <| Wn <| Wn <| Wn <| Wz (.b true) (OpT rfl) <| Nk 288230376151712000 7 ⟨tp 8 (.s m::tp 49 (.b true::tp 4 [])), [(.box [(.l enc_GNode e.Body), (.i e.Within), (.s e.By), (.y e.Mode)]), (.box [(.i g)]), (.box [(.clo (.func 29) [] [(.loc 0 0), (.loc 1 0), (.loc 2 0)])]), .gone], 3⟩ <| AWP.if_ true (by kernel_rfl) <| Sx <| Wm (.s m) rfl ?_
      obtain ⟨k0, o0, q0, hm⟩ := bna hm
      refine Wz (.s k0) (Osd ([40] : List UInt8) m rfl o0 q0) ?_
      obtain ⟨l0, r0, s0, hm⟩ := bna hm
      refine Wz (.s l0) (Osd k0 ([41] : List UInt8) rfl r0 s0) <| Wm (.s l0) rfl <| Nn <| Rt <| Tr ?_
      obtain rfl := sj hm
      exact ret_i [0, 1, 2]
    refine Wz (.b false) (Oq z rfl) <| Wm (.y p0) rfl <| Wz (.b (decide (((p0.toNat : Nat) : Int) = 1))) (Ob2 (.int .u8 ((p0.toNat : Nat) : Int)) (.int .u8 1) rfl (fun _ => hb_eql)) ?_
    rcases br hm with ⟨a0, hm⟩ | ⟨a0, hm⟩
    · refine Wz (.b true) (Oq a0 rfl) <| Wz (.loc 3 0) (Ofa rfl) <| Wz (.y c.Kind) (Old rfl) <| Wz (.b (decide (((c.Kind.toNat : Nat) : Int) = 2))) (Ob2 (.int .u8 ((c.Kind.toNat : Nat) : Int)) (.int .u8 2) rfl (fun _ => hb_eql)) <| Wz (.b (decide (((c.Kind.toNat : Nat) : Int) = 2))) (OpT rfl) <| Wz (.b (decide (((c.Kind.toNat : Nat) : Int) = 2))) (OpF rfl) <| Nk 288230376151712000 7 ⟨tp 8 (.s m::tp 49 (.b (decide (((c.Kind.toNat : Nat) : Int) = 2))::tp 4 [])), [(.box [(.l enc_GNode e.Body), (.i e.Within), (.s e.By), (.y e.Mode)]), (.box [(.i g)]), (.box [(.clo (.func 29) [] [(.loc 0 0), (.loc 1 0), (.loc 2 0)])]), .gone], 3⟩ ?_
      rcases br hm with ⟨b0, hm⟩ | ⟨b0, hm⟩
      · refine AiT b0 <| Sx <| Wm (.s m) rfl ?_
        obtain ⟨m0, t0, u0, hm⟩ := bna hm
        refine Wz (.s m0) (Osd ([40] : List UInt8) m rfl t0 u0) ?_
        obtain ⟨n0, v0, w0, hm⟩ := bna hm
        refine Wz (.s n0) (Osd m0 ([41] : List UInt8) rfl v0 w0) <| Wm (.s n0) rfl <| Nn <| Rt <| Tr ?_
        obtain rfl := sj hm
        exact ret_i [0, 1, 2]
      refine AiF b0 <| Sk <| Tk 256 7 ⟨tp 8 (.s m::tp 54 []), [(.box [(.l enc_GNode e.Body), (.i e.Within), (.s e.By), (.y e.Mode)]), (.box [(.i g)]), (.box [(.clo (.func 29) [] [(.loc 0 0), (.loc 1 0), (.loc 2 0)])]), .gone], 3⟩ <| Sx <| Wm (.s m) rfl <| Wm (.s m) rfl <| Nn <| Rt ?_
      obtain rfl := sj hm
      exact ret_i [0, 1, 2]
    refine Wz (.b false) (Oq a0 rfl) <| Wn <| Wn <| Wn <| Wz (.b false) (OpF rfl) <| Wz (.b false) (OpF rfl) <| Nk 288230376151712000 7 ⟨tp 8 (.s m::tp 49 (.b false::tp 4 [])), [(.box [(.l enc_GNode e.Body), (.i e.Within), (.s e.By), (.y e.Mode)]), (.box [(.i g)]), (.box [(.clo (.func 29) [] [(.loc 0 0), (.loc 1 0), (.loc 2 0)])]), .gone], 3⟩ <| AWP.if_ false (by kernel_rfl) <| Sk <| Tk 256 7 ⟨tp 8 (.s m::tp 54 []), [(.box [(.l enc_GNode e.Body), (.i e.Within), (.s e.By), (.y e.Mode)]), (.box [(.i g)]), (.box [(.clo (.func 29) [] [(.loc 0 0), (.loc 1 0), (.loc 2 0)])]), .gone], 3⟩ <| Sx <| Wm (.s m) rfl <| Wm (.s m) rfl <| Nn ?_
    refine Rt ?_
    obtain rfl := sj hm
    exact ret_i [0, 1, 2]
   refine Sq <| Sx <| Wz (.loc 3 0) (Ofa rfl) <| Wz (.y c.Kind) (Old rfl) <| Wz (.b (decide (((c.Kind.toNat : Nat) : Int) = 3))) (Ob2 (.int .u8 ((c.Kind.toNat : Nat) : Int)) (.int .u8 3) rfl (fun _ => hb_eql)) <| Nk 8796093022529 15 ⟨.y p0::tp 5 (.loc 3 0::tp 1 (.s q::tp 34 (.b (decide (((c.Kind.toNat : Nat) : Int) = 3))::tp 19 []))), [(.box [(.l enc_GNode e.Body), (.i e.Within), (.s e.By), (.y e.Mode)]), (.box [(.i g)]), (.box [(.clo (.func 29) [] [(.loc 0 0), (.loc 1 0), (.loc 2 0)])]), (.box [(.y c.Kind), (.i c.Kids), (.i c.Lo), (.i c.Hi), (.s c.Var), (.s c.Type_), (.l enc_GNode_ c.Test)])], 3⟩ ?_
   rcases br hm with ⟨c0, hm⟩ | ⟨c0, hm⟩
   · refine AiT c0 <| Tx <| Wm (.s q) rfl <| Wz (.agg [(.y c.Kind), (.i c.Kids), (.i c.Lo), (.i c.Hi), (.s c.Var), (.s c.Type_), (.l enc_GNode_ c.Test)]) (Old rfl) ?_
     obtain ⟨i0, l1, hm⟩ := bnd hm
     refine Wz (.s i0) (Ocf [] [] [] 0 (ok_shape_Node_times c i0 l1) (fun a w => Try.call32 a w) rfl trivial) ?_
     obtain ⟨j0, d1, e1, hm⟩ := bna hm
     refine Wz (.s j0) (Osd q i0 rfl d1 e1) <| Wm (.s j0) rfl <| Nn ?_
     exact AWP.weak (Weak.toK 321 0 0 [0, 1, 2, 3]) (J9 (j0) hm)
   refine AiF c0 <| Sk <| Tn ?_
   exact AWP.weak (Weak.toK 321 0 0 [0, 1, 2, 3]) (J9 (q) hm)
 refine Sq <| Sx <| Wz (.loc 3 0) (Ofa rfl) <| Wz (.y c.Kind) (Old rfl) <| Wz (.b (decide (((c.Kind.toNat : Nat) : Int) = 2))) (Ob2 (.int .u8 ((c.Kind.toNat : Nat) : Int)) (.int .u8 2) rfl (fun _ => hb_eql)) <| Nk 4194505 15 ⟨.y p0::tp 2 (.loc 2 0::tp 2 (.loc 3 0::.s ([59, 32] : List UInt8)::tp 14 (.b (decide (((c.Kind.toNat : Nat) : Int) = 2))::tp 40 []))), [(.box [(.l enc_GNode p1.Body), (.i p1.Within), (.s p1.By), (.y p1.Mode)]), (.box [(.i (W6 (p2 + 1)))]), (.box [(.clo (.func 29) [] [(.loc 0 0), (.loc 1 0), (.loc 2 0)])]), (.box [(.y c.Kind), (.i c.Kids), (.i c.Lo), (.i c.Hi), (.s c.Var), (.s c.Type_), (.l enc_GNode_ c.Test)])], 3⟩ ?_
 rcases br hm with ⟨d0, hm⟩ | ⟨d0, hm⟩
 · refine AiT d0 <| Tx <| Wm (.s ([32, 124, 32] : List UInt8)) rfl <| Nn ?_
   exact AWP.weak (Weak.toK 201 0 0 [0, 1, 2, 3]) (J3 (([32, 124, 32] : List UInt8)) hm)
 refine AiF d0 <| Sk <| Tn ?_
 exact AWP.weak (Weak.toK 201 0 0 [0, 1, 2, 3]) (J3 (([59, 32] : List UInt8)) hm)

theorem keep_j9 {a : UInt8} {n : GNode} {p : GPattern} {z : Int} {s : List UInt8} {r : List UInt8 × GPattern × Int} (h : m_shape_Print_1_j9 a n p z s = some r) : r.2.1 = p := by
 unfold m_shape_Print_1_j9 at h
 have two : (Option.bind (app ([40] : List UInt8) s) fun t60 => Option.bind (app t60 ([41] : List UInt8)) fun t61 => some (t61, p, z)) = some r → r.2.1 = p := fun h => by
  obtain ⟨_, _, h⟩ := bnd h
  obtain ⟨_, _, h⟩ := bnd h
  cases h; rfl
 revert h
 cases decide (((a.toNat : Nat) : Int) = 3) <;> cases decide (((a.toNat : Nat) : Int) = 1) <;> cases decide (((n.Kind.toNat : Nat) : Int) = 2) <;> intro h <;> first | exact two h | (cases h; rfl)
theorem keep_l6 {a : UInt8} {kd : Int} {n : GNode} {y7 : List UInt8} {K : UInt8 → GPattern → Int → Option (List UInt8 × GPattern × Int)} (hK : ∀ a p z r, K a p z = some r → r.2.1 = p) : ∀ (fu : Nat) {p : GPattern} {z i : Int} {s : List UInt8} {r : List UInt8 × GPattern × Int}, m_shape_Print_1_l6 a kd n y7 K fu p z s i = some r → r.2.1 = p
 | 0, p, z, i, s, r, h => by cases h
 | fu + 1, p, z, i, s, r, h => by
  unfold m_shape_Print_1_l6 at h
  revert h
  cases decide (i < IntKind.i64.wrap (kd - 1)) with
  | true =>
   intro h
   obtain ⟨x, hx, h⟩ := bnd (show Option.bind _ _ = some r from h)
   obtain ⟨_, _, h⟩ := bnd h
   obtain ⟨_, _, h⟩ := bnd h
   exact (keep_l6 hK fu h).trans (hK _ _ _ _ hx)
  | false =>
   cases decide (((n.Kind.toNat : Nat) : Int) = 3) with
   | true =>
    intro h
    obtain ⟨_, _, h⟩ := bnd (show Option.bind _ _ = some r from h)
    obtain ⟨_, _, h⟩ := bnd h
    exact keep_j9 h
   | false => exact fun h => keep_j9 h
theorem print_keeps : ∀ (fu : Nat) {a : UInt8} {p : GPattern} {z : Int} {r : List UInt8 × GPattern × Int}, m_shape_Print_1 fu a p z = some r → r.2.1 = p
 | 0, a, p, z, r, h => by cases h
 | fu + 1, a, p, z, r, h => by
  unfold m_shape_Print_1 at h
  obtain ⟨n, _, h⟩ := bnd h
  obtain ⟨b, _, h⟩ := bnd h
  have j3 : ∀ y, m_shape_Print_1_j3 a p z n (fun p0 p1 p2 => m_shape_Print_1 fu p0 p1 p2) y = some r → r.2.1 = p := fun y h => by
   unfold m_shape_Print_1_j3 at h
   obtain ⟨x, hx, h⟩ := bnd h
   obtain ⟨_, _, h⟩ := bnd h
   exact (keep_l6 (fun a p z r h => print_keeps fu h) _ h).trans (print_keeps fu hx)
  revert h
  cases b with
  | true =>
   intro h
   obtain ⟨_, _, h⟩ := bnd (show Option.bind _ _ = some r from h)
   cases h; rfl
  | false =>
   cases decide (((n.Kind.toNat : Nat) : Int) = 2) with
   | true => exact fun h => j3 _ h
   | false => exact fun h => j3 _ h

theorem ok_shape_Print (p0 : GPattern) (r : (List UInt8)) (h : m_shape_Print p0 = some r) : GCall Try.prog 13 [(.agg [(.l enc_GNode p0.Body), (.i p0.Within), (.s p0.By), (.y p0.Mode)])] [] (.s r) [] := by
 refine GCall.of_body (n := 31) (rs := [(.tmp 2)]) Try.func13 rfl rfl rfl <| Ato ⟨.agg [(.l enc_GNode p0.Body), (.i p0.Within), (.s p0.By), (.y p0.Mode)]::tu 30 [], [], 0⟩ ?_
 have hm := h
 unfold m_shape_Print at hm
 refine Sx <| Wy (.loc 0 0) [(0, (.box [(.l enc_GNode p0.Body), (.i p0.Within), (.s p0.By), (.y p0.Mode)]))] (Obx rfl) <| Wm (.s ([] : List UInt8)) rfl <| Nk 2 1 ⟨tp 1 (.loc 0 0::tp 29 []), [(.box [(.l enc_GNode p0.Body), (.i p0.Within), (.s p0.By), (.y p0.Mode)])], 0⟩ <| Sq <| Sx <| Wz (.agg [(.l enc_GNode p0.Body), (.i p0.Within), (.s p0.By), (.y p0.Mode)]) (Old rfl) ?_
 obtain ⟨g, o0, hm⟩ := bnd hm
 refine Wz (.i g) (Ocf [] [] [] 0 (ok_shape_Check p0 g o0) (fun a w => Try.call11 a w) rfl trivial) <| Wz (.b (decide (g ≠ 0))) (Obn rfl (fun _ => hb_neq (k := .i64))) <| Nk 258 1 ⟨tp 1 (.loc 0 0::tp 6 (.b (decide (g ≠ 0))::tp 22 [])), [(.box [(.l enc_GNode p0.Body), (.i p0.Within), (.s p0.By), (.y p0.Mode)])], 0⟩ ?_
 rcases br hm with ⟨j, hm⟩ | ⟨j, hm⟩
 · refine AiT j <| Sx <| Wm (.s ([] : List UInt8)) rfl <| Nn <| Rt <| Tr ?_
   obtain rfl := sj hm
   exact ret_i []
 refine AiF j <| Sk <| Tk 2 1 ⟨tp 1 (.loc 0 0::tp 29 []), [(.box [(.l enc_GNode p0.Body), (.i p0.Within), (.s p0.By), (.y p0.Mode)])], 0⟩ <| Sx <| Wy (.loc 1 0) [(1, (.box [(.i 0)]))] (Oal rfl) <| Wy (.tup []) [(1, (.box [(.i 0)]))] (Ost rfl) <| Nk 10 3 ⟨tp 1 (.loc 0 0::tp 1 (.loc 1 0::tp 27 [])), [(.box [(.l enc_GNode p0.Body), (.i p0.Within), (.s p0.By), (.y p0.Mode)]), (.box [(.i 0)])], 0⟩ <| Sx <| Wy (.loc 2 0) [(2, (.box [(.d (.lit .nilFunc))]))] (Oal rfl) <| Nk 26 7 ⟨tp 1 (.loc 0 0::tp 1 (.loc 1 0::.loc 2 0::tp 26 [])), [(.box [(.l enc_GNode p0.Body), (.i p0.Within), (.s p0.By), (.y p0.Mode)]), (.box [(.i 0)]), (.box [(.d (.lit .nilFunc))])], 0⟩ <| Sx <| Wz (.clo (.func 29) [] [(.loc 0 0), (.loc 1 0), (.loc 2 0)]) (Ocs (by kernel_rfl) (op_mkfn rfl)) <| Wy (.tup []) [(2, (.box [(.clo (.func 29) [] [(.loc 0 0), (.loc 1 0), (.loc 2 0)])]))] (Ost rfl) <| Nk 18 7 ⟨tp 1 (.loc 0 0::tp 2 (.loc 2 0::tp 26 [])), [(.box [(.l enc_GNode p0.Body), (.i p0.Within), (.s p0.By), (.y p0.Mode)]), (.box [(.i 0)]), (.box [(.clo (.func 29) [] [(.loc 0 0), (.loc 1 0), (.loc 2 0)])])], 0⟩ ?_
 refine Sq <| Adr <| Wz (.clo (.func 29) [] [(.loc 0 0), (.loc 1 0), (.loc 2 0)]) (Old rfl) ?_
 obtain ⟨q0, q, hm⟩ := bnd hm
 obtain ⟨rt, rp, ri⟩ := q0
 obtain rfl : p0 = rp := (print_keeps _ q).symm
 refine Wy (.s rt) [(1, (.box [(.i ri)])), (2, (.box [(.clo (.func 29) [] [(.loc 0 0), (.loc 1 0), (.loc 2 0)])]))] (Osm (id := 0) (xs := [(.l enc_GNode p0.Body), (.i p0.Within), (.s p0.By), (.y p0.Mode)]) (Ocf [0, 1, 2] [] [] 0 (ok_shape_Print_1 1152921504606846976 0 p0 0 (rt, p0, ri) q) (fun a w => Try.call29 a w) rfl ⟨rfl, rfl, rfl, trivial⟩) rfl (by unfold callR blks; simp)) ?_
 obtain ⟨t, a0, b0, hm⟩ := bna hm
 refine Wz (.s t) (Osd rt ([32, 119, 105, 116, 104, 105, 110, 32] : List UInt8) rfl a0 b0) <| Wz (.loc 0 1) (Ofa rfl) <| Wz (.i p0.Within) (Old rfl) ?_
 obtain ⟨m, m0, hm⟩ := bnd hm
 refine Wz (.s m) (Ocf [] [] [] 0 (ok_shape_digits p0.Within m m0) (fun a w => Try.call33 a w) rfl trivial) ?_
 obtain ⟨c, c0, d0, hm⟩ := bna hm
 refine Wz (.s c) (Osd t m rfl c0 d0) <| Wm (.s c) rfl <| Wdr <| Tk 34 1 ⟨tp 1 (.loc 0 0::tp 3 (.s c::tp 25 [])), [(.box [(.l enc_GNode p0.Body), (.i p0.Within), (.s p0.By), (.y p0.Mode)]), .gone, .gone], 0⟩ ?_
 refine AWP.cutJ (α := (List UInt8)) (fun x => match x with | e => (⟨tp 1 (.loc 0 0::tp 3 (.s e::tp 25 [])), [(.box [(.l enc_GNode p0.Body), (.i p0.Within), (.s p0.By), (.y p0.Mode)])], 0⟩ : St)) (fun x => match x with | e => m_shape_Print_j3 (rt, p0, ri) e = some r) ?_ (fun J3 => ?_)
 ·
  rintro e hm
  try dsimp only at hm ⊢
  unfold m_shape_Print_j3 at hm
  refine Sx <| Wm (.s e) rfl ?_
  obtain ⟨u, e0, f0, hm⟩ := bna hm
  refine Wz (.s u) (Osd e ([32] : List UInt8) rfl e0 f0) <| Wz (.loc 0 3) (Ofa rfl) <| Wz (.y p0.Mode) (Old rfl) ?_
  obtain ⟨o, n0, hm⟩ := bnd hm
  refine Wz (.s o) (Ocf [] [] [] 0 (ok_shape_Word p0.Mode o n0) (fun a w => Try.call15 a w) rfl trivial) ?_
  obtain ⟨v, g0, h0, hm⟩ := bna hm
  refine Wz (.s v) (Osd u o rfl g0 h0) <| Wm (.s v) rfl <| Nn <| Rt ?_
  obtain rfl := sj hm
  exact ret_i []
 refine Sq <| Sx <| Wz (.loc 0 2) (Ofa rfl) <| Wz (.s p0.By) (Old rfl) <| Wz (.b (decide (p0.By ≠ ([] : List UInt8)))) (Ocs (lit_tf (by simp only [toS_inj, ne_eq])) (op_bin rfl (a1 := .string (toS p0.By)) (a2 := .string (toS ([] : List UInt8))) (by kernel_rfl) (by kernel_rfl) (fun _ => hb_sneq))) <| Nk 524322 1 ⟨tp 1 (.loc 0 0::tp 3 (.s c::tp 13 (.b (decide (p0.By ≠ ([] : List UInt8)))::tp 11 []))), [(.box [(.l enc_GNode p0.Body), (.i p0.Within), (.s p0.By), (.y p0.Mode)]), .gone, .gone], 0⟩ ?_
 rcases br hm with ⟨f, hm⟩ | ⟨f, hm⟩
 · refine AiT f <| Tx <| Wm (.s c) rfl <| Wz (.loc 0 2) (Ofa rfl) <| Wz (.s p0.By) (Old rfl) ?_
   obtain ⟨z, i0, j0, hm⟩ := bna hm
   refine Wz (.s z) (Osd ([32, 98, 121, 32] : List UInt8) p0.By rfl i0 j0) ?_
   obtain ⟨p, k0, l0, hm⟩ := bna hm
   refine Wz (.s p) (Osd c z rfl k0 l0) <| Wm (.s p) rfl <| Nn ?_
   exact AWP.weak (Weak.toK 34 0 0 [0]) (J3 (p) hm)
 refine AiF f <| Sk <| Tn ?_
 exact AWP.weak (Weak.toK 34 0 0 [0]) (J3 (c) hm)

theorem ok_shape_Size (p0 : (List GNode)) (p1 : Int) (r : Int) (h : m_shape_Size p0 p1 = some r) : GCall Try.prog 9 [(.l enc_GNode p0), (.i p1)] [] (.i r) [] := by
 refine GCall.of_body (n := 35) (rs := [(.tmp 4)]) Try.func9 rfl rfl rfl <| Ato ⟨.l enc_GNode p0::.i p1::tu 33 [], [], 0⟩ ?_
 have hm := h
 unfold m_shape_Size at hm
 refine Sx <| Wm (.i 0) rfl <| Nk 3 0 ⟨.l enc_GNode p0::.i p1::tp 33 [], [], 0⟩ <| Sq <| Sx <| Wm (.i p1) rfl <| Wz (.b (decide (p1 < 0))) (Obn rfl (fun _ => hb_lss (k := .i64))) ?_
 rcases br hm with ⟨o, hm⟩ | ⟨o, hm⟩
 · refine Wz (.b true) (Oq o rfl) <| Wn <| Wn <| Wn <| Wn <| Wz (.b true) (OpT rfl) <| Nk 32771 0 ⟨.l enc_GNode p0::.i p1::tp 13 (.b true::tp 19 []), [], 0⟩ <| AWP.if_ true (by kernel_rfl) <| Sx <| Wm (.i 0) rfl <| Nn <| Rt <| Tr ?_
   obtain rfl := sj hm
   exact ret_i []
 refine Wz (.b false) (Oq o rfl) <| Wm (.i p1) rfl <| Wm (.l enc_GNode p0) rfl <| Wz (.i ((List.length p0 : Nat) : Int)) (Oln rfl) <| Wz (.b (decide (((List.length p0 : Nat) : Int) ≤ p1))) (Obn rfl (fun _ => hb_geq (k := .i64))) <| Wz (.b (decide (((List.length p0 : Nat) : Int) ≤ p1))) (OpF rfl) <| Nk 32771 0 ⟨.l enc_GNode p0::.i p1::tp 13 (.b (decide (((List.length p0 : Nat) : Int) ≤ p1))::tp 19 []), [], 0⟩ ?_
 rcases br hm with ⟨p, hm⟩ | ⟨p, hm⟩
 · refine AiT p <| Sx <| Wm (.i 0) rfl <| Nn <| Rt <| Tr ?_
   obtain rfl := sj hm
   exact ret_i []
 refine AiF p <| Sk <| Tk 3 0 ⟨.l enc_GNode p0::.i p1::tp 33 [], [], 0⟩ <| Sx <| Wm (.i 1) rfl <| Nk 35 0 ⟨.l enc_GNode p0::.i p1::tp 3 (.i 1::tp 29 []), [], 0⟩ <| Sq <| Sx <| Wm (.l enc_GNode p0) rfl <| Wm (.i p1) rfl ?_
 obtain ⟨g, d0, hm⟩ := bnd hm; obtain ⟨v, g0, z, a0, b0⟩ := cut_some d0
 refine Wz (.l enc_GNode g) (op_cut rfl (e := 44) (sz := 7) (by kernel_rfl) (l := p0) (enc := enc_GNode) (by kernel_rfl) enc_GNode_len (a := (Int.toNat p1)) (b := (Int.toNat ((List.length p0 : Nat) : Int))) (⟨.i64, p1, by kernel_rfl, v⟩) (by exact rfl) z a0 b0) <| Wz (.i ((List.length g : Nat) : Int)) (Oln rfl) <| Wm (.i 0) rfl <| Nk 1835040 0 ⟨tp 5 (.i 1::tp 12 (.l enc_GNode g::.i ((List.length g : Nat) : Int)::.i 0::tp 14 [])), [], 0⟩ <| Bk ?_
 refine AWP.loopI (α := Nat × Int × Int)
   (fun (fu_2, j, f) => (⟨tp 5 (.i j::tp 12 (.l enc_GNode g::.i ((List.length g : Nat) : Int)::.i f::tp 14 [])), [], 0⟩ : St))
   (fun (fu_2, j, f) => m_shape_Size_l2 g fu_2 j f = some r)
   (fun (fu_2, j, f) => fu_2) (1152921504606846976, 1, 0)
   (Weak.toK 1835040 0 0 []) hm ?_
 rintro ⟨fu_2, j, f⟩ n_2 hm ih_2
 try dsimp only at hm ih_2 ⊢
 cases fu_2 with
 | zero => exact absurd hm (by unfold m_shape_Size_l2; simp)
 | succ fu_2 =>
  unfold m_shape_Size_l2 at hm
  refine Sx <| Wz (.b (decide (f < ((List.length g : Nat) : Int)))) (Obn rfl (fun _ => hb_lss (k := .i64))) <| Nk 3932192 0 ⟨tp 5 (.i j::tp 12 (.l enc_GNode g::.i ((List.length g : Nat) : Int)::.i f::.b (decide (f < ((List.length g : Nat) : Int)))::tp 13 [])), [], 0⟩ <| Sq ?_
  rcases br hm with ⟨q, hm⟩ | ⟨q, hm⟩
  · refine AiT q <| Sk <| Tk 1835040 0 ⟨tp 5 (.i j::tp 12 (.l enc_GNode g::.i ((List.length g : Nat) : Int)::.i f::tp 14 [])), [], 0⟩ <| Sq <| Bk <| Sx <| Wm (.i f) rfl ?_
    obtain ⟨c, e0, hm⟩ := bnd hm
    obtain ⟨c0, u⟩ := geti_some e0
    refine Wz (.d (.ref (List.drop ((Int.toNat f) * 7) (flatD enc_GNode g)))) (Oia rfl enc_GNode_len c0 u) <| Wz (.agg [(.y c.Kind), (.i c.Kids), (.i c.Lo), (.i c.Hi), (.s c.Var), (.s c.Type_), (.l enc_GNode_ c.Test)]) (Lf rfl enc_GNode_len u) <| Wy (.loc 0 0) [(0, (.box [(.y 0), (.i 0), (.i 0), (.i 0), (.s ([] : List UInt8)), (.s ([] : List UInt8)), (.d .nil)]))] (Oal rfl) <| Wm (.i f) rfl <| Wy (.tup []) [(0, (.box [(.y c.Kind), (.i c.Kids), (.i c.Lo), (.i c.Hi), (.s c.Var), (.s c.Type_), (.l enc_GNode_ c.Test)]))] (Ost rfl) <| Nk 1835232 1 ⟨tp 5 (.i j::.i f::.loc 0 0::tp 10 (.l enc_GNode g::.i ((List.length g : Nat) : Int)::.i f::tp 14 [])), [(.box [(.y c.Kind), (.i c.Kids), (.i c.Lo), (.i c.Hi), (.s c.Var), (.s c.Type_), (.l enc_GNode_ c.Test)])], 0⟩ <| Sx <| Wm (.i j) rfl <| Wz (.agg [(.y c.Kind), (.i c.Kids), (.i c.Lo), (.i c.Hi), (.s c.Var), (.s c.Type_), (.l enc_GNode_ c.Test)]) (Old rfl) ?_
    obtain ⟨m, f0, hm⟩ := bnd hm
    refine Wz (.i m) (Ocf [] [] [] 0 (ok_shape_Node_kids c m f0) (fun a w => Try.call23 a w) rfl trivial) <| Wz (.i (W6 (m - 1))) (Obn rfl (fun _ => hb_sub (k := .i64))) <| Wz (.i (W6 (j + (W6 (m - 1))))) (Obn rfl (fun _ => hb_add (k := .i64))) <| Wm (.i (W6 (j + (W6 (m - 1))))) rfl <| Nk 1835104 0 ⟨tp 5 (.i (W6 (j + (W6 (m - 1))))::.i f::tp 11 (.l enc_GNode g::.i ((List.length g : Nat) : Int)::.i f::tp 14 [])), [.gone], 0⟩ <| Sx <| Wm (.i (W6 (j + (W6 (m - 1))))) rfl <| Wz (.b (decide ((W6 (j + (W6 (m - 1)))) = 0))) (Obn rfl (fun _ => hb_eql (k := .i64))) <| Nk 2149318752 0 ⟨tp 5 (.i (W6 (j + (W6 (m - 1))))::.i f::tp 11 (.l enc_GNode g::.i ((List.length g : Nat) : Int)::.i f::tp 10 (.b (decide ((W6 (j + (W6 (m - 1)))) = 0))::tp 3 []))), [.gone], 0⟩ ?_
    rcases br hm with ⟨t, hm⟩ | ⟨t, hm⟩
    · refine AiT t <| Sx <| Wm (.i f) rfl <| Wz (.i (W6 (f + 1))) (Obn rfl (fun _ => hb_add (k := .i64))) <| Wm (.i (W6 (f + 1))) rfl <| Nn <| Rt <| Ir <| Tr <| RoundK.ret <| Ir <| Tr ?_
      obtain rfl := sj hm
      exact ret_i []
    refine AiF t <| Sk <| Ino <| Tk 1835040 0 ⟨tp 5 (.i (W6 (j + (W6 (m - 1))))::tp 12 (.l enc_GNode g::.i ((List.length g : Nat) : Int)::.i f::tp 14 [])), [.gone], 0⟩ <| Tx <| Wz (.i (W6 (f + 1))) (Obn rfl (fun _ => hb_add (k := .i64))) <| Wm (.i (W6 (f + 1))) rfl <| Wn0 <| RoundK.normal ?_
    exact Rounds.weak (Weak.toK 1835040 0 0 []) (ih_2 (fu_2, (W6 (j + (W6 (m - 1)))), (W6 (f + 1))) hm (Nat.lt_succ_self _))
  refine AiF q <| AWP.exit <| Then.exit <| RoundK.exit <| InBlock.same <| Tk 0 0 ⟨tp 35 [], [], 0⟩ <| Sx <| Wm (.i 0) rfl <| Nn <| Rt ?_
  obtain rfl := sj hm
  exact ret_i []

theorem ok_slices_Equal_Node (p0 : (List GNode_)) (p1 : (List GNode_)) (r : Bool) (h : m_slices_Equal_Node p0 p1 = some r) : GCall Try.prog 68 [(.l enc_GNode_ p0), (.l enc_GNode_ p1)] [] (.b r) [] := by
 refine GCall.of_body (n := 26) (rs := [(.tmp 4)]) Try.func68 rfl rfl rfl <| Ato ⟨.l enc_GNode_ p0::.l enc_GNode_ p1::tu 24 [], [], 0⟩ ?_
 have hm := h
 unfold m_slices_Equal_Node at hm
 refine Sx <| Wm (.b false) rfl <| Nk 3 0 ⟨.l enc_GNode_ p0::.l enc_GNode_ p1::tp 24 [], [], 0⟩ <| Sq <| Sx <| Wm (.l enc_GNode_ p0) rfl <| Wz (.i ((List.length p0 : Nat) : Int)) (Oln rfl) <| Wm (.l enc_GNode_ p1) rfl <| Wz (.i ((List.length p1 : Nat) : Int)) (Oln rfl) <| Wz (.b (decide (((List.length p0 : Nat) : Int) ≠ ((List.length p1 : Nat) : Int)))) (Obn rfl (fun _ => hb_neq (k := .i64))) <| Nk 1027 0 ⟨.l enc_GNode_ p0::.l enc_GNode_ p1::tp 8 (.b (decide (((List.length p0 : Nat) : Int) ≠ ((List.length p1 : Nat) : Int)))::tp 15 []), [], 0⟩ ?_
 rcases br hm with ⟨g, hm⟩ | ⟨g, hm⟩
 · refine AiT g <| Sx <| Wm (.b false) rfl <| Nn <| Rt <| Tr ?_
   obtain rfl := sj hm
   exact ret_i []
 refine AiF g <| Sk <| Tk 3 0 ⟨.l enc_GNode_ p0::.l enc_GNode_ p1::tp 24 [], [], 0⟩ <| Sq <| Sx <| Wm (.l enc_GNode_ p0) rfl <| Wz (.i ((List.length p0 : Nat) : Int)) (Oln rfl) <| Wm (.i 0) rfl <| Nk 12291 0 ⟨.l enc_GNode_ p0::.l enc_GNode_ p1::tp 10 (.i ((List.length p0 : Nat) : Int)::.i 0::tp 12 []), [], 0⟩ <| Bk ?_
 refine AWP.loopI (α := Nat × Int)
   (fun (fu_2, f) => (⟨.l enc_GNode_ p0::.l enc_GNode_ p1::tp 10 (.i ((List.length p0 : Nat) : Int)::.i f::tp 12 []), [], 0⟩ : St))
   (fun (fu_2, f) => m_slices_Equal_Node_l2 p0 p1 fu_2 f = some r)
   (fun (fu_2, f) => fu_2) (1152921504606846976, 0)
   (Weak.toK 12291 0 0 []) hm ?_
 rintro ⟨fu_2, f⟩ n_2 hm ih_2
 try dsimp only at hm ih_2 ⊢
 cases fu_2 with
 | zero => exact absurd hm (by unfold m_slices_Equal_Node_l2; simp)
 | succ fu_2 =>
  unfold m_slices_Equal_Node_l2 at hm
  refine Sx <| Wz (.b (decide (f < ((List.length p0 : Nat) : Int)))) (Obn rfl (fun _ => hb_lss (k := .i64))) <| Nk 28675 0 ⟨.l enc_GNode_ p0::.l enc_GNode_ p1::tp 10 (.i ((List.length p0 : Nat) : Int)::.i f::.b (decide (f < ((List.length p0 : Nat) : Int)))::tp 11 []), [], 0⟩ <| Sq ?_
  rcases br hm with ⟨j, hm⟩ | ⟨j, hm⟩
  · refine AiT j <| Sk <| Tk 12291 0 ⟨.l enc_GNode_ p0::.l enc_GNode_ p1::tp 10 (.i ((List.length p0 : Nat) : Int)::.i f::tp 12 []), [], 0⟩ <| Sq <| Bk <| Sx <| Wm (.i f) rfl <| Wm (.i f) rfl <| Nk 12323 0 ⟨.l enc_GNode_ p0::.l enc_GNode_ p1::tp 3 (.i f::tp 6 (.i ((List.length p0 : Nat) : Int)::.i f::tp 12 [])), [], 0⟩ <| Sq <| Adr <| Wm (.l enc_GNode_ p0) rfl <| Wm (.i f) rfl ?_
    obtain ⟨c, a0, hm⟩ := bnd hm
    obtain ⟨v, p⟩ := geti_some a0
    refine Wz (.d (.ref (List.drop ((Int.toNat f) * 8) (flatD enc_GNode_ p0)))) (Oia rfl enc_GNode__len v p) <| Wz (.agg [(.y c.Kind), (.y c.Op), (.s c.Var), (.s c.Name), (.y c.Val.Kind), (.i c.Val.N), (.u c.Val.Bits), (.s c.Val.Text)]) (Lf rfl enc_GNode__len p) <| Wm (.l enc_GNode_ p1) rfl <| Wm (.i f) rfl ?_
    obtain ⟨e, b0, hm⟩ := bnd hm
    obtain ⟨w, q⟩ := geti_some b0
    refine Wz (.d (.ref (List.drop ((Int.toNat f) * 8) (flatD enc_GNode_ p1)))) (Oia rfl enc_GNode__len w q) <| Wz (.agg [(.y e.Kind), (.y e.Op), (.s e.Var), (.s e.Name), (.y e.Val.Kind), (.i e.Val.N), (.u e.Val.Bits), (.s e.Val.Text)]) (Lf rfl enc_GNode__len q) ?_
    obtain ⟨t, m, hm⟩ := bnd hm; replace m := Option.some.inj m
    refine Wz (.b t) (Ocs (Eq.trans (lit_tf (by simp only [toS_inj])) (congrArg (fun z => A.d (.lit (.bool z))) m)) (op_neq_deep rfl (la := [(.y c.Kind), (.y c.Op), (.s c.Var), (.s c.Name), (.y c.Val.Kind), (.i c.Val.N), (.u c.Val.Bits), (.s c.Val.Text)]) (lb := [(.y e.Kind), (.y e.Op), (.s e.Var), (.s e.Name), (.y e.Val.Kind), (.i e.Val.N), (.u e.Val.Bits), (.s e.Val.Text)]) (us := [.int .u8 ((c.Kind.toNat : Nat) : Int), .int .u8 ((c.Op.toNat : Nat) : Int), .string (toS c.Var), .string (toS c.Name), .int .u8 ((c.Val.Kind.toNat : Nat) : Int), .int .i64 c.Val.N, .int .u64 c.Val.Bits, .string (toS c.Val.Text)]) (vs := [.int .u8 ((e.Kind.toNat : Nat) : Int), .int .u8 ((e.Op.toNat : Nat) : Int), .string (toS e.Var), .string (toS e.Name), .int .u8 ((e.Val.Kind.toNat : Nat) : Int), .int .i64 e.Val.N, .int .u64 e.Val.Bits, .string (toS e.Val.Text)]) (r := (decide (((c.Kind.toNat : Nat) : Int) = ((e.Kind.toNat : Nat) : Int)) && (decide (((c.Op.toNat : Nat) : Int) = ((e.Op.toNat : Nat) : Int)) && (decide ((toS c.Var) = (toS e.Var)) && (decide ((toS c.Name) = (toS e.Name)) && ((decide (((c.Val.Kind.toNat : Nat) : Int) = ((e.Val.Kind.toNat : Nat) : Int)) && (decide (c.Val.N = e.Val.N) && (decide (c.Val.Bits = e.Val.Bits) && (decide ((toS c.Val.Text) = (toS e.Val.Text)) && true)))) && true)))))) (by kernel_rfl) (by kernel_rfl) (by kernel_rfl) (by kernel_rfl) (by kernel_rfl) (by kernel_rfl))) <| Wdr <| Tk 16789507 0 ⟨.l enc_GNode_ p0::.l enc_GNode_ p1::tp 10 (.i ((List.length p0 : Nat) : Int)::.i f::tp 10 (.b t::tp 1 [])), [], 0⟩ ?_
    rcases br hm with ⟨o, hm⟩ | ⟨o, hm⟩
    · refine AiT o <| Sx <| Wm (.b false) rfl <| Nn <| Rt <| Ir <| Tr <| RoundK.ret <| Ir <| Tr ?_
      obtain rfl := sj hm
      exact ret_i []
    refine AiF o <| Sk <| Ino <| Tk 12291 0 ⟨.l enc_GNode_ p0::.l enc_GNode_ p1::tp 10 (.i ((List.length p0 : Nat) : Int)::.i f::tp 12 []), [], 0⟩ <| Tx <| Wz (.i (W6 (f + 1))) (Obn rfl (fun _ => hb_add (k := .i64))) <| Wm (.i (W6 (f + 1))) rfl <| Wn0 <| RoundK.normal ?_
    exact Rounds.weak (Weak.toK 12291 0 0 []) (ih_2 (fu_2, (W6 (f + 1))) hm (Nat.lt_succ_self _))
  refine AiF j <| AWP.exit <| Then.exit <| RoundK.exit <| InBlock.same <| Tk 0 0 ⟨tp 26 [], [], 0⟩ <| Sx <| Wm (.b true) rfl <| Nn <| Rt ?_
  obtain rfl := sj hm
  exact ret_i []

theorem ok_pred_Same (p0 : (List GNode_)) (p1 : (List GNode_)) (r : Bool) (h : m_pred_Same p0 p1 = some r) : GCall Try.prog 56 [(.l enc_GNode_ p0), (.l enc_GNode_ p1)] [] (.b r) [] := by
 refine GCall.of_body (n := 8) (rs := [(.tmp 4)]) Try.func56 rfl rfl rfl <| Ato ⟨.l enc_GNode_ p0::.l enc_GNode_ p1::tu 6 [], [], 0⟩ ?_
 have hm := h
 unfold m_pred_Same at hm
 refine Sx <| Wm (.b false) rfl <| Nk 3 0 ⟨.l enc_GNode_ p0::.l enc_GNode_ p1::tp 6 [], [], 0⟩ <| Sx <| Wm (.l enc_GNode_ p0) rfl <| Wm (.l enc_GNode_ p1) rfl ?_
 obtain ⟨c, d, hm⟩ := bnd hm
 refine Wz (.b c) (Ocf [] [] [] 0 (ok_slices_Equal_Node p0 p1 c d) (fun a w => Try.call68 a w) rfl trivial) <| Wm (.b c) rfl <| Nn <| Rt ?_
 obtain rfl := sj hm
 exact ret_i []

theorem ok_shape_same (p0 : GNode) (p1 : GNode) (r : Bool) (h : m_shape_same p0 p1 = some r) : GCall Try.prog 37 [(.agg [(.y p0.Kind), (.i p0.Kids), (.i p0.Lo), (.i p0.Hi), (.s p0.Var), (.s p0.Type_), (.l enc_GNode_ p0.Test)]), (.agg [(.y p1.Kind), (.i p1.Kids), (.i p1.Lo), (.i p1.Hi), (.s p1.Var), (.s p1.Type_), (.l enc_GNode_ p1.Test)])] [] (.b r) [] := by
 refine GCall.of_body (n := 54) (rs := [(.tmp 4)]) Try.func37 rfl rfl rfl <| Ato ⟨.agg [(.y p0.Kind), (.i p0.Kids), (.i p0.Lo), (.i p0.Hi), (.s p0.Var), (.s p0.Type_), (.l enc_GNode_ p0.Test)]::.agg [(.y p1.Kind), (.i p1.Kids), (.i p1.Lo), (.i p1.Hi), (.s p1.Var), (.s p1.Type_), (.l enc_GNode_ p1.Test)]::tu 52 [], [], 0⟩ ?_
 have hm := h
 unfold m_shape_same at hm
 refine Sx <| Wy (.loc 0 0) [(0, (.box [(.y p0.Kind), (.i p0.Kids), (.i p0.Lo), (.i p0.Hi), (.s p0.Var), (.s p0.Type_), (.l enc_GNode_ p0.Test)]))] (Obx rfl) <| Wy (.loc 1 0) [(1, (.box [(.y p1.Kind), (.i p1.Kids), (.i p1.Lo), (.i p1.Hi), (.s p1.Var), (.s p1.Type_), (.l enc_GNode_ p1.Test)]))] (Obx rfl) <| Wm (.b false) rfl <| Nk 12 3 ⟨tp 2 (.loc 0 0::.loc 1 0::tp 50 []), [(.box [(.y p0.Kind), (.i p0.Kids), (.i p0.Lo), (.i p0.Hi), (.s p0.Var), (.s p0.Type_), (.l enc_GNode_ p0.Test)]), (.box [(.y p1.Kind), (.i p1.Kids), (.i p1.Lo), (.i p1.Hi), (.s p1.Var), (.s p1.Type_), (.l enc_GNode_ p1.Test)])], 0⟩ ?_
 refine AWP.cutJ (α := Unit) (fun x => match x with | () => (⟨tp 2 (.loc 0 0::.loc 1 0::tp 1 (.b false::tp 48 [])), [(.box [(.y p0.Kind), (.i p0.Kids), (.i p0.Lo), (.i p0.Hi), (.s p0.Var), (.s p0.Type_), (.l enc_GNode_ p0.Test)]), (.box [(.y p1.Kind), (.i p1.Kids), (.i p1.Lo), (.i p1.Hi), (.s p1.Var), (.s p1.Type_), (.l enc_GNode_ p1.Test)])], 0⟩ : St)) (fun x => match x with | () => m_shape_same_j1  = some r) ?_ (fun J1 => ?_)
 ·
  rintro ⟨⟩ hm
  try dsimp only at hm ⊢
  unfold m_shape_same_j1 at hm
  refine Sx <| Wm (.b false) rfl <| Wm (.b false) rfl <| Wn <| Wn <| Wn <| Wn <| Wn <| Wz (.b false) (OpF rfl) <| Wm (.b false) rfl <| Wn <| Wn <| Wn <| Wn ?_
  refine Wn <| Wz (.b false) (OpF rfl) <| Wm (.b false) rfl <| Wn <| Wn <| Wn <| Wn <| Wn <| Wz (.b false) (OpF rfl) <| Wm (.b false) rfl <| Nn <| Rt ?_
  obtain rfl := sj hm
  exact ret_i []
 refine Sx <| Wz (.loc 0 0) (Ofa rfl) <| Wz (.y p0.Kind) (Old rfl) <| Wz (.loc 1 0) (Ofa rfl) <| Wz (.y p1.Kind) (Old rfl) <| Wz (.b (decide (((p0.Kind.toNat : Nat) : Int) = ((p1.Kind.toNat : Nat) : Int)))) (Ob2 (.int .u8 ((p0.Kind.toNat : Nat) : Int)) (.int .u8 ((p1.Kind.toNat : Nat) : Int)) rfl (fun _ => hb_eql)) ?_
 rcases br hm with ⟨d, hm⟩ | ⟨d, hm⟩
 · refine Wz (.b true) (Oq d rfl) <| Wz (.loc 0 1) (Ofa rfl) <| Wz (.i p0.Kids) (Old rfl) <| Wz (.loc 1 1) (Ofa rfl) <| Wz (.i p1.Kids) (Old rfl) <| Wz (.b (decide (p0.Kids = p1.Kids))) (Obn rfl (fun _ => hb_eql (k := .i64))) <| Wz (.b (decide (p0.Kids = p1.Kids))) (OpT rfl) ?_
   rcases br hm with ⟨e, hm⟩ | ⟨e, hm⟩
   · refine Wz (.b true) (Oq e rfl) <| Wz (.loc 0 2) (Ofa rfl) <| Wz (.i p0.Lo) (Old rfl) <| Wz (.loc 1 2) (Ofa rfl) <| Wz (.i p1.Lo) (Old rfl) <| Wz (.b (decide (p0.Lo = p1.Lo))) (Obn rfl (fun _ => hb_eql (k := .i64))) <| Wz (.b (decide (p0.Lo = p1.Lo))) (OpT rfl) ?_
     rcases br hm with ⟨f, hm⟩ | ⟨f, hm⟩
     · refine Wz (.b true) (Oq f rfl) <| Wz (.loc 0 3) (Ofa rfl) <| Wz (.i p0.Hi) (Old rfl) <| Wz (.loc 1 3) (Ofa rfl) <| Wz (.i p1.Hi) (Old rfl) <| Wz (.b (decide (p0.Hi = p1.Hi))) (Obn rfl (fun _ => hb_eql (k := .i64))) <| Wz (.b (decide (p0.Hi = p1.Hi))) (OpT rfl) <| Wm (.b (decide (p0.Hi = p1.Hi))) rfl <| Nk 44 3 ⟨tp 2 (.loc 0 0::.loc 1 0::tp 1 (.b (decide (p0.Hi = p1.Hi))::tp 48 [])), [(.box [(.y p0.Kind), (.i p0.Kids), (.i p0.Lo), (.i p0.Hi), (.s p0.Var), (.s p0.Type_), (.l enc_GNode_ p0.Test)]), (.box [(.y p1.Kind), (.i p1.Kids), (.i p1.Lo), (.i p1.Hi), (.s p1.Var), (.s p1.Type_), (.l enc_GNode_ p1.Test)])], 0⟩ <| Sx <| Wm (.b (decide (p0.Hi = p1.Hi))) rfl ?_
       rcases br hm with ⟨g, hm⟩ | ⟨g, hm⟩
       · refine Wz (.b true) (Oq g rfl) <| Wz (.loc 0 4) (Ofa rfl) <| Wz (.s p0.Var) (Old rfl) <| Wz (.loc 1 4) (Ofa rfl) <| Wz (.s p1.Var) (Old rfl) <| Wz (.b (decide (p0.Var = p1.Var))) (Ocs (lit_tf (by simp only [toS_inj, ne_eq])) (op_bin rfl (a1 := .string (toS p0.Var)) (a2 := .string (toS p1.Var)) (by kernel_rfl) (by kernel_rfl) (fun _ => hb_seql))) <| Wz (.b (decide (p0.Var = p1.Var))) (OpT rfl) ?_
         rcases br hm with ⟨j, hm⟩ | ⟨j, hm⟩
         · refine Wz (.b true) (Oq j rfl) <| Wz (.loc 0 5) (Ofa rfl) <| Wz (.s p0.Type_) (Old rfl) <| Wz (.loc 1 5) (Ofa rfl) <| Wz (.s p1.Type_) (Old rfl) <| Wz (.b (decide (p0.Type_ = p1.Type_))) (Ocs (lit_tf (by simp only [toS_inj, ne_eq])) (op_bin rfl (a1 := .string (toS p0.Type_)) (a2 := .string (toS p1.Type_)) (by kernel_rfl) (by kernel_rfl) (fun _ => hb_seql))) <| Wz (.b (decide (p0.Type_ = p1.Type_))) (OpT rfl) ?_
           rcases br hm with ⟨m, hm⟩ | ⟨m, hm⟩
           · refine Wz (.b true) (Oq m rfl) <| Wz (.loc 0 6) (Ofa rfl) <| Wz (.l enc_GNode_ p0.Test) (Old rfl) <| Wz (.loc 1 6) (Ofa rfl) <| Wz (.l enc_GNode_ p1.Test) (Old rfl) ?_
             obtain ⟨c, o, hm⟩ := bnd hm
             refine Wz (.b c) (Ocf [] [] [] 0 (ok_pred_Same p0.Test p1.Test c o) (fun a w => Try.call56 a w) rfl trivial) <| Wz (.b c) (OpT rfl) <| Wm (.b c) rfl <| Nn <| Rt ?_
             obtain rfl := sj hm
             exact ret_i []
           refine Wz (.b false) (Oq m rfl) <| Wn <| Wn <| Wn <| Wn <| Wn <| Wz (.b false) (OpF rfl) <| Wm (.b false) rfl <| Nn <| Rt ?_
           obtain rfl := sj hm
           exact ret_i []
         refine Wz (.b false) (Oq j rfl) <| Wn <| Wn <| Wn <| Wn <| Wn <| Wz (.b false) (OpF rfl) <| Wm (.b false) rfl <| Wn <| Wn <| Wn <| Wn <| Wn <| Wz (.b false) (OpF rfl) ?_
         refine Wm (.b false) rfl <| Nn <| Rt ?_
         obtain rfl := sj hm
         exact ret_i []
       refine Wz (.b false) (Oq g rfl) <| Wn <| Wn <| Wn <| Wn <| Wn <| Wz (.b false) (OpF rfl) <| Wm (.b false) rfl <| Wn <| Wn <| Wn <| Wn <| Wn <| Wz (.b false) (OpF rfl) ?_
       refine Wm (.b false) rfl <| Wn <| Wn <| Wn <| Wn <| Wn <| Wz (.b false) (OpF rfl) <| Wm (.b false) rfl <| Nn <| Rt ?_
       obtain rfl := sj hm
       exact ret_i []
     refine Wz (.b false) (Oq f rfl) <| Wn <| Wn <| Wn <| Wn <| Wn <| Wz (.b false) (OpF rfl) <| Wm (.b false) rfl <| Nn ?_
     exact AWP.weak (Weak.toK 44 0 0 [0, 1]) (J1 () hm)
   refine Wz (.b false) (Oq e rfl) <| Wn <| Wn <| Wn <| Wn <| Wn <| Wz (.b false) (OpF rfl) <| Wm (.b false) rfl <| Wn <| Wn <| Wn <| Wn <| Wn <| Wz (.b false) (OpF rfl) ?_
   refine Wm (.b false) rfl <| Nn ?_
   exact AWP.weak (Weak.toK 44 0 0 [0, 1]) (J1 () hm)
 refine Wz (.b false) (Oq d rfl) <| Wn <| Wn <| Wn <| Wn <| Wn <| Wz (.b false) (OpF rfl) <| Wm (.b false) rfl <| Wn <| Wn <| Wn <| Wn <| Wn <| Wz (.b false) (OpF rfl) ?_
 refine Wm (.b false) rfl <| Wn <| Wn <| Wn <| Wn <| Wn <| Wz (.b false) (OpF rfl) <| Wm (.b false) rfl <| Nn ?_
 exact AWP.weak (Weak.toK 44 0 0 [0, 1]) (J1 () hm)

theorem ok_slices_EqualFunc_Nodeshape_Node_shape_Node_shape_Node__shape_same (p0 : (List GNode)) (p1 : (List GNode)) (r : Bool) (h : m_slices_EqualFunc_Nodeshape_Node_shape_Node_shape_Node__shape_same p0 p1 = some r) : GCall Try.prog 36 [(.l enc_GNode p0), (.l enc_GNode p1), (.clo (.func 37) [] [])] [] (.b r) [] := by
 refine GCall.of_body (n := 32) (rs := [(.tmp 6)]) Try.func36 rfl rfl rfl <| Ato ⟨.l enc_GNode p0::.l enc_GNode p1::.clo (.func 37) [] []::tu 29 [], [], 0⟩ ?_
 have hm := h
 unfold m_slices_EqualFunc_Nodeshape_Node_shape_Node_shape_Node__shape_same at hm
 refine Sx <| Wm (.b false) rfl <| Nk 7 0 ⟨.l enc_GNode p0::.l enc_GNode p1::.clo (.func 37) [] []::tp 29 [], [], 0⟩ <| Sq <| Sx <| Wm (.l enc_GNode p0) rfl <| Wz (.i ((List.length p0 : Nat) : Int)) (Oln rfl) <| Wm (.l enc_GNode p1) rfl <| Wz (.i ((List.length p1 : Nat) : Int)) (Oln rfl) <| Wz (.b (decide (((List.length p0 : Nat) : Int) ≠ ((List.length p1 : Nat) : Int)))) (Obn rfl (fun _ => hb_neq (k := .i64))) <| Nk 16391 0 ⟨.l enc_GNode p0::.l enc_GNode p1::.clo (.func 37) [] []::tp 11 (.b (decide (((List.length p0 : Nat) : Int) ≠ ((List.length p1 : Nat) : Int)))::tp 17 []), [], 0⟩ ?_
 rcases br hm with ⟨j, hm⟩ | ⟨j, hm⟩
 · refine AiT j <| Sx <| Wm (.b false) rfl <| Nn <| Rt <| Tr ?_
   obtain rfl := sj hm
   exact ret_i []
 refine AiF j <| Sk <| Tk 7 0 ⟨.l enc_GNode p0::.l enc_GNode p1::.clo (.func 37) [] []::tp 29 [], [], 0⟩ <| Sq <| Sx <| Wm (.l enc_GNode p0) rfl <| Wz (.i ((List.length p0 : Nat) : Int)) (Oln rfl) <| Wm (.i 0) rfl <| Nk 229382 0 ⟨tp 1 (.l enc_GNode p1::.clo (.func 37) [] []::tp 12 (.l enc_GNode p0::.i ((List.length p0 : Nat) : Int)::.i 0::tp 14 [])), [], 0⟩ <| Bk ?_
 refine AWP.loopI (α := Nat × Int)
   (fun (fu_2, f) => (⟨tp 1 (.l enc_GNode p1::.clo (.func 37) [] []::tp 12 (.l enc_GNode p0::.i ((List.length p0 : Nat) : Int)::.i f::tp 14 [])), [], 0⟩ : St))
   (fun (fu_2, f) => m_slices_EqualFunc_Nodeshape_Node_shape_Node_shape_Node__shape_same_l2 p0 p1 fu_2 f = some r)
   (fun (fu_2, f) => fu_2) (1152921504606846976, 0)
   (Weak.toK 229382 0 0 []) hm ?_
 rintro ⟨fu_2, f⟩ n_2 hm ih_2
 try dsimp only at hm ih_2 ⊢
 cases fu_2 with
 | zero => exact absurd hm (by unfold m_slices_EqualFunc_Nodeshape_Node_shape_Node_shape_Node__shape_same_l2; simp)
 | succ fu_2 =>
  unfold m_slices_EqualFunc_Nodeshape_Node_shape_Node_shape_Node__shape_same_l2 at hm
  refine Sx <| Wz (.b (decide (f < ((List.length p0 : Nat) : Int)))) (Obn rfl (fun _ => hb_lss (k := .i64))) <| Nk 491526 0 ⟨tp 1 (.l enc_GNode p1::.clo (.func 37) [] []::tp 12 (.l enc_GNode p0::.i ((List.length p0 : Nat) : Int)::.i f::.b (decide (f < ((List.length p0 : Nat) : Int)))::tp 13 [])), [], 0⟩ <| Sq ?_
  rcases br hm with ⟨m, hm⟩ | ⟨m, hm⟩
  · refine AiT m <| Sk <| Tk 229382 0 ⟨tp 1 (.l enc_GNode p1::.clo (.func 37) [] []::tp 12 (.l enc_GNode p0::.i ((List.length p0 : Nat) : Int)::.i f::tp 14 [])), [], 0⟩ <| Sq <| Bk <| Sx <| Wm (.i f) rfl ?_
    obtain ⟨c, v, hm⟩ := bnd hm
    obtain ⟨t, p⟩ := geti_some v
    refine Wz (.d (.ref (List.drop ((Int.toNat f) * 7) (flatD enc_GNode p0)))) (Oia rfl enc_GNode_len t p) <| Wz (.agg [(.y c.Kind), (.i c.Kids), (.i c.Lo), (.i c.Hi), (.s c.Var), (.s c.Type_), (.l enc_GNode_ c.Test)]) (Lf rfl enc_GNode_len p) <| Wy (.loc 0 0) [(0, (.box [(.y 0), (.i 0), (.i 0), (.i 0), (.s ([] : List UInt8)), (.s ([] : List UInt8)), (.d .nil)]))] (Oal rfl) <| Wm (.i f) rfl <| Wy (.tup []) [(0, (.box [(.y c.Kind), (.i c.Kids), (.i c.Lo), (.i c.Hi), (.s c.Var), (.s c.Type_), (.l enc_GNode_ c.Test)]))] (Ost rfl) <| Nk 229766 1 ⟨tp 1 (.l enc_GNode p1::.clo (.func 37) [] []::tp 4 (.i f::.loc 0 0::tp 6 (.l enc_GNode p0::.i ((List.length p0 : Nat) : Int)::.i f::tp 14 []))), [(.box [(.y c.Kind), (.i c.Kids), (.i c.Lo), (.i c.Hi), (.s c.Var), (.s c.Type_), (.l enc_GNode_ c.Test)])], 0⟩ <| Sx <| Wm (.l enc_GNode p1) rfl <| Wm (.i f) rfl ?_
    obtain ⟨e, z, hm⟩ := bnd hm
    obtain ⟨u, q⟩ := geti_some z
    refine Wz (.d (.ref (List.drop ((Int.toNat f) * 7) (flatD enc_GNode p1)))) (Oia rfl enc_GNode_len u q) <| Wz (.agg [(.y e.Kind), (.i e.Kids), (.i e.Lo), (.i e.Hi), (.s e.Var), (.s e.Type_), (.l enc_GNode_ e.Test)]) (Lf rfl enc_GNode_len q) <| Wy (.loc 1 0) [(1, (.box [(.y 0), (.i 0), (.i 0), (.i 0), (.s ([] : List UInt8)), (.s ([] : List UInt8)), (.d .nil)]))] (Oal rfl) <| Wy (.tup []) [(1, (.box [(.y e.Kind), (.i e.Kids), (.i e.Lo), (.i e.Hi), (.s e.Var), (.s e.Type_), (.l enc_GNode_ e.Test)]))] (Ost rfl) <| Nk 230150 3 ⟨tp 1 (.l enc_GNode p1::.clo (.func 37) [] []::tp 5 (.loc 0 0::.loc 1 0::tp 5 (.l enc_GNode p0::.i ((List.length p0 : Nat) : Int)::.i f::tp 14 []))), [(.box [(.y c.Kind), (.i c.Kids), (.i c.Lo), (.i c.Hi), (.s c.Var), (.s c.Type_), (.l enc_GNode_ c.Test)]), (.box [(.y e.Kind), (.i e.Kids), (.i e.Lo), (.i e.Hi), (.s e.Var), (.s e.Type_), (.l enc_GNode_ e.Test)])], 0⟩ <| Sx <| Wm (.clo (.func 37) [] []) rfl <| Wz (.agg [(.y c.Kind), (.i c.Kids), (.i c.Lo), (.i c.Hi), (.s c.Var), (.s c.Type_), (.l enc_GNode_ c.Test)]) (Old rfl) <| Wz (.agg [(.y e.Kind), (.i e.Kids), (.i e.Lo), (.i e.Hi), (.s e.Var), (.s e.Type_), (.l enc_GNode_ e.Test)]) (Old rfl) ?_
    obtain ⟨g, a0, hm⟩ := bnd hm
    refine Wz (.b g) (Ocf [] [] [] 0 (ok_shape_same c e g a0) (fun a w => Try.call37 a w) rfl trivial) <| Wz (.b (!g)) (Ocs (by kernel_rfl) (op_un rfl (a1 := .bool g) (by kernel_rfl) (fun _ => hu_not))) <| Nk 1073971206 0 ⟨tp 1 (.l enc_GNode p1::.clo (.func 37) [] []::tp 12 (.l enc_GNode p0::.i ((List.length p0 : Nat) : Int)::.i f::tp 12 (.b (!g)::tp 1 []))), [.gone, .gone], 0⟩ ?_
    rcases br hm with ⟨o, hm⟩ | ⟨o, hm⟩
    · refine AiT o <| Sx <| Wm (.b false) rfl <| Nn <| Rt <| Ir <| Tr <| RoundK.ret <| Ir <| Tr ?_
      obtain rfl := sj hm
      exact ret_i []
    refine AiF o <| Sk <| Ino <| Tk 229382 0 ⟨tp 1 (.l enc_GNode p1::.clo (.func 37) [] []::tp 12 (.l enc_GNode p0::.i ((List.length p0 : Nat) : Int)::.i f::tp 14 [])), [.gone, .gone], 0⟩ <| Tx <| Wz (.i (W6 (f + 1))) (Obn rfl (fun _ => hb_add (k := .i64))) <| Wm (.i (W6 (f + 1))) rfl <| Wn0 <| RoundK.normal ?_
    exact Rounds.weak (Weak.toK 229382 0 0 []) (ih_2 (fu_2, (W6 (f + 1))) hm (Nat.lt_succ_self _))
  refine AiF m <| AWP.exit <| Then.exit <| RoundK.exit <| InBlock.same <| Tk 0 0 ⟨tp 32 [], [], 0⟩ <| Sx <| Wm (.b true) rfl <| Nn <| Rt ?_
  obtain rfl := sj hm
  exact ret_i []

theorem ok_shape_Same (p0 : GPattern) (p1 : GPattern) (r : Bool) (h : m_shape_Same p0 p1 = some r) : GCall Try.prog 17 [(.agg [(.l enc_GNode p0.Body), (.i p0.Within), (.s p0.By), (.y p0.Mode)]), (.agg [(.l enc_GNode p1.Body), (.i p1.Within), (.s p1.By), (.y p1.Mode)])] [] (.b r) [] := by
 refine GCall.of_body (n := 31) (rs := [(.tmp 4)]) Try.func17 rfl rfl rfl <| Ato ⟨.agg [(.l enc_GNode p0.Body), (.i p0.Within), (.s p0.By), (.y p0.Mode)]::.agg [(.l enc_GNode p1.Body), (.i p1.Within), (.s p1.By), (.y p1.Mode)]::tu 29 [], [], 0⟩ ?_
 have hm := h
 unfold m_shape_Same at hm
 refine Sx <| Wy (.loc 0 0) [(0, (.box [(.l enc_GNode p0.Body), (.i p0.Within), (.s p0.By), (.y p0.Mode)]))] (Obx rfl) <| Wy (.loc 1 0) [(1, (.box [(.l enc_GNode p1.Body), (.i p1.Within), (.s p1.By), (.y p1.Mode)]))] (Obx rfl) <| Wm (.b false) rfl <| Nk 12 3 ⟨tp 2 (.loc 0 0::.loc 1 0::tp 27 []), [(.box [(.l enc_GNode p0.Body), (.i p0.Within), (.s p0.By), (.y p0.Mode)]), (.box [(.l enc_GNode p1.Body), (.i p1.Within), (.s p1.By), (.y p1.Mode)])], 0⟩ <| Sx <| Wz (.loc 0 1) (Ofa rfl) <| Wz (.i p0.Within) (Old rfl) <| Wz (.loc 1 1) (Ofa rfl) <| Wz (.i p1.Within) (Old rfl) <| Wz (.b (decide (p0.Within = p1.Within))) (Obn rfl (fun _ => hb_eql (k := .i64))) ?_
 rcases br hm with ⟨d, hm⟩ | ⟨d, hm⟩
 · refine Wz (.b true) (Oq d rfl) <| Wz (.loc 0 2) (Ofa rfl) <| Wz (.s p0.By) (Old rfl) <| Wz (.loc 1 2) (Ofa rfl) <| Wz (.s p1.By) (Old rfl) <| Wz (.b (decide (p0.By = p1.By))) (Ocs (lit_tf (by simp only [toS_inj, ne_eq])) (op_bin rfl (a1 := .string (toS p0.By)) (a2 := .string (toS p1.By)) (by kernel_rfl) (by kernel_rfl) (fun _ => hb_seql))) <| Wz (.b (decide (p0.By = p1.By))) (OpT rfl) ?_
   rcases br hm with ⟨e, hm⟩ | ⟨e, hm⟩
   · refine Wz (.b true) (Oq e rfl) <| Wz (.loc 0 3) (Ofa rfl) <| Wz (.y p0.Mode) (Old rfl) <| Wz (.loc 1 3) (Ofa rfl) <| Wz (.y p1.Mode) (Old rfl) <| Wz (.b (decide (((p0.Mode.toNat : Nat) : Int) = ((p1.Mode.toNat : Nat) : Int)))) (Ob2 (.int .u8 ((p0.Mode.toNat : Nat) : Int)) (.int .u8 ((p1.Mode.toNat : Nat) : Int)) rfl (fun _ => hb_eql)) <| Wz (.b (decide (((p0.Mode.toNat : Nat) : Int) = ((p1.Mode.toNat : Nat) : Int)))) (OpT rfl) ?_
     rcases br hm with ⟨f, hm⟩ | ⟨f, hm⟩
     · refine Wz (.b true) (Oq f rfl) <| Wz (.loc 0 0) (Ofa rfl) <| Wz (.l enc_GNode p0.Body) (Old rfl) <| Wz (.loc 1 0) (Ofa rfl) <| Wz (.l enc_GNode p1.Body) (Old rfl) ?_
       obtain ⟨c, g, hm⟩ := bnd hm
       refine Wz (.b c) (Ocf [] [] [] 0 (ok_slices_EqualFunc_Nodeshape_Node_shape_Node_shape_Node__shape_same p0.Body p1.Body c g) (fun a w => Try.call36 a w) rfl trivial) <| Wz (.b c) (OpT rfl) <| Wm (.b c) rfl <| Nn <| Rt ?_
       obtain rfl := sj hm
       exact ret_i []
     refine Wz (.b false) (Oq f rfl) <| Wn <| Wn <| Wn <| Wn <| Wn <| Wz (.b false) (OpF rfl) <| Wm (.b false) rfl <| Nn <| Rt ?_
     obtain rfl := sj hm
     exact ret_i []
   refine Wz (.b false) (Oq e rfl) <| Wn <| Wn <| Wn <| Wn <| Wn <| Wz (.b false) (OpF rfl) <| Wm (.b false) rfl <| Wn <| Wn <| Wn <| Wn <| Wn <| Wz (.b false) (OpF rfl) ?_
   refine Wm (.b false) rfl <| Nn <| Rt ?_
   obtain rfl := sj hm
   exact ret_i []
 refine Wz (.b false) (Oq d rfl) <| Wn <| Wn <| Wn <| Wn <| Wn <| Wz (.b false) (OpF rfl) <| Wm (.b false) rfl <| Wn <| Wn <| Wn <| Wn <| Wn <| Wz (.b false) (OpF rfl) ?_
 refine Wm (.b false) rfl <| Wn <| Wn <| Wn <| Wn <| Wn <| Wz (.b false) (OpF rfl) <| Wm (.b false) rfl <| Nn <| Rt ?_
 obtain rfl := sj hm
 exact ret_i []

theorem ok_w13_awake (r : Bool) (h : m_w13_awake = some r) : GCall Try.prog 7 [] [] (.b r) [] := by
 refine GCall.of_body (n := 71) (rs := [(.tmp 0)]) Try.func7 rfl rfl rfl <| Ato ⟨tu 71 [], [], 0⟩ ?_
 have hm := h
 unfold m_w13_awake at hm
 refine Sx <| Wm (.b false) rfl <| Nk 0 0 ⟨tp 71 [], [], 0⟩ <| Sx ?_
 obtain ⟨g, r1, hm⟩ := bnd hm
 refine Wy (.agg [(.own 0), (.i g.Within), (.s g.By), (.y g.Mode)]) [(0, (Ar 44 7 enc_GNode g.Body))] (Ocf [] [0] [] 0 (ok_w13_example  g r1) (fun a w => Try.call21 a w) rfl trivial) ?_
 obtain ⟨j, s1, hm⟩ := bnd hm
 refine Wy (.agg [(.own 1), (.i j.Within), (.s j.By), (.y j.Mode)]) [(1, (Ar 44 7 enc_GNode j.Body))] (Ocf [] [1] [] 0 (ok_w13_example  j s1) (fun a w => Try.call21 a w) rfl trivial) ?_
 obtain ⟨m, t1, hm⟩ := bnd hm
 refine Wy (.agg [(.own 2), (.i m.Within), (.s m.By), (.y m.Mode)]) [(2, (Ar 44 7 enc_GNode m.Body))] (Ocf [] [2] [] 0 (ok_w13_example  m t1) (fun a w => Try.call21 a w) rfl trivial) <| Wy (.loc 3 0) [(3, (.box [(.d .nil), (.i 0), (.s ([] : List UInt8)), (.y 0)]))] (Oal rfl) <| Wy (.loc 4 0) [(4, (.box [(.d .nil), (.i 0), (.s ([] : List UInt8)), (.y 0)]))] (Oal rfl) <| Wy (.loc 5 0) [(5, (.box [(.d .nil), (.i 0), (.s ([] : List UInt8)), (.y 0)]))] (Oal rfl) <| Wy (.tup []) [(3, (.box [(.own 0), (.i g.Within), (.s g.By), (.y g.Mode)]))] (Ost rfl) <| Wy (.tup []) [(4, (.box [(.own 1), (.i j.Within), (.s j.By), (.y j.Mode)]))] (Ost rfl) <| Wy (.tup []) [(5, (.box [(.own 2), (.i m.Within), (.s m.By), (.y m.Mode)]))] (Ost rfl) <| Nk 14 63 ⟨tp 1 (.loc 3 0::.loc 4 0::.loc 5 0::tp 67 []), [(Ar 44 7 enc_GNode g.Body), (Ar 44 7 enc_GNode j.Body), (Ar 44 7 enc_GNode m.Body), (.box [(.own 0), (.i g.Within), (.s g.By), (.y g.Mode)]), (.box [(.own 1), (.i j.Within), (.s j.By), (.y j.Mode)]), (.box [(.own 2), (.i m.Within), (.s m.By), (.y m.Mode)])], 0⟩ <| Sq <| Adr <| Wz (.loc 4 0) (Ofa rfl) <| Wz (.own 1) (Old rfl) <| Wz (.loc 4 0) (Ofa rfl) <| Wz (.own 1) (Old rfl) ?_
 obtain ⟨c, c1, hm⟩ := bnd hm
 obtain ⟨v0, n0⟩ := geti_some c1
 refine Wz (.loc 1 ((Int.toNat 2) * 7)) (Oia rfl enc_GNode_len v0 n0) <| Wz (.loc 1 ((Int.toNat 2) * 7 + 2)) (Ofa rfl) <| Wy (.tup []) [(1, (Ar 44 7 enc_GNode (List.set j.Body (Int.toNat 2) (GNode.mk c.Kind c.Kids 1 c.Hi c.Var c.Type_ c.Test))))] (Osr 2 rfl enc_GNode_len n0 (GNode.mk c.Kind c.Kids 1 c.Hi c.Var c.Type_ c.Test)) ?_
 obtain ⟨f, d1, hm⟩ := bnd hm
 obtain ⟨w0, o0⟩ := geti_some d1
 refine Wz (.loc 1 ((Int.toNat 2) * 7)) (Oia rfl enc_GNode_len w0 o0) <| Wz (.loc 1 ((Int.toNat 2) * 7 + 3)) (Ofa rfl) <| Wy (.tup []) [(1, (Ar 44 7 enc_GNode (List.set (List.set j.Body (Int.toNat 2) (GNode.mk c.Kind c.Kids 1 c.Hi c.Var c.Type_ c.Test)) (Int.toNat 2) (GNode.mk f.Kind f.Kids f.Lo 1 f.Var f.Type_ f.Test))))] (Osr 3 rfl enc_GNode_len o0 (GNode.mk f.Kind f.Kids f.Lo 1 f.Var f.Type_ f.Test)) <| Wdr <| Tk 14 63 ⟨tp 1 (.loc 3 0::.loc 4 0::.loc 5 0::tp 67 []), [(Ar 44 7 enc_GNode g.Body), (Ar 44 7 enc_GNode (List.set (List.set j.Body (Int.toNat 2) (GNode.mk c.Kind c.Kids 1 c.Hi c.Var c.Type_ c.Test)) (Int.toNat 2) (GNode.mk f.Kind f.Kids f.Lo 1 f.Var f.Type_ f.Test))), (Ar 44 7 enc_GNode m.Body), (.box [(.own 0), (.i g.Within), (.s g.By), (.y g.Mode)]), (.box [(.own 1), (.i j.Within), (.s j.By), (.y j.Mode)]), (.box [(.own 2), (.i m.Within), (.s m.By), (.y m.Mode)])], 0⟩ <| Sx <| Wz (.loc 5 3) (Ofa rfl) <| Wy (.tup []) [(5, (.box [(.own 2), (.i m.Within), (.s m.By), (.y 4)]))] (Ost rfl) <| Nk 14 63 ⟨tp 1 (.loc 3 0::.loc 4 0::.loc 5 0::tp 67 []), [(Ar 44 7 enc_GNode g.Body), (Ar 44 7 enc_GNode (List.set (List.set j.Body (Int.toNat 2) (GNode.mk c.Kind c.Kids 1 c.Hi c.Var c.Type_ c.Test)) (Int.toNat 2) (GNode.mk f.Kind f.Kids f.Lo 1 f.Var f.Type_ f.Test))), (Ar 44 7 enc_GNode m.Body), (.box [(.own 0), (.i g.Within), (.s g.By), (.y g.Mode)]), (.box [(.own 1), (.i j.Within), (.s j.By), (.y j.Mode)]), (.box [(.own 2), (.i m.Within), (.s m.By), (.y 4)])], 0⟩ <| Sq <| Afz [0] ⟨tp 1 (.loc 3 0::.loc 4 0::.loc 5 0::tp 67 []), [(.fro 44 7 (List.length g.Body) (flatD enc_GNode g.Body)), (Ar 44 7 enc_GNode (List.set (List.set j.Body (Int.toNat 2) (GNode.mk c.Kind c.Kids 1 c.Hi c.Var c.Type_ c.Test)) (Int.toNat 2) (GNode.mk f.Kind f.Kids f.Lo 1 f.Var f.Type_ f.Test))), (Ar 44 7 enc_GNode m.Body), (.box [(.l enc_GNode g.Body), (.i g.Within), (.s g.By), (.y g.Mode)]), (.box [(.own 1), (.i j.Within), (.s j.By), (.y j.Mode)]), (.box [(.own 2), (.i m.Within), (.s m.By), (.y 4)])], 0⟩ <| Adr <| Wz (.agg [(.l enc_GNode g.Body), (.i g.Within), (.s g.By), (.y g.Mode)]) (Old rfl) ?_
 obtain ⟨q0, e1, hm⟩ := bnd hm
 refine Wz (.i q0) (Ocf [] [] [] 0 (ok_shape_Check g q0 e1) (fun a w => Try.call11 a w) rfl trivial) <| Wz (.b (decide (q0 = 0))) (Obn rfl (fun _ => hb_eql (k := .i64))) ?_
 rcases br hm with ⟨c0, hm⟩ | ⟨c0, hm⟩
 · refine Wz (.b true) (Oq c0 rfl) <| Wz (.agg [(.l enc_GNode g.Body), (.i g.Within), (.s g.By), (.y g.Mode)]) (Old rfl) ?_
   obtain ⟨r0, f1, hm⟩ := bnd hm
   refine Wz (.s r0) (Ocf [] [] [] 0 (ok_shape_Print g r0 f1) (fun a w => Try.call13 a w) rfl trivial) ?_
   obtain ⟨t0, d0, hm⟩ := bnd hm; replace d0 := Option.some.inj d0
   refine Wz (.b t0) (Ocs (Eq.trans (lit_tf (by simp only [toS_inj, ne_eq])) (congrArg (fun z => A.d (.lit (.bool z))) d0)) (op_bin rfl (a1 := .string (toS r0)) (a2 := .string (toS ([97, 58, 116, 59, 32, 40, 98, 58, 116, 32, 124, 32, 33, 99, 58, 117, 41, 43, 32, 119, 105, 116, 104, 105, 110, 32, 57, 32, 97, 110, 121] : List UInt8))) (by kernel_rfl) (by kernel_rfl) (fun _ => hb_seql))) <| Wz (.b t0) (OpT rfl) ?_
   rcases br hm with ⟨e0, hm⟩ | ⟨e0, hm⟩
   · refine Wz (.b true) (Oq e0 rfl) <| Wz (.agg [(.own 1), (.i j.Within), (.s j.By), (.y j.Mode)]) (Old rfl) ?_
     obtain ⟨u, g1, hm⟩ := bnd hm
     refine Wz (.i u) (Ocp [] [] [1] 0 (ok_shape_Check (GPattern.mk (List.set (List.set j.Body (Int.toNat 2) (GNode.mk c.Kind c.Kids 1 c.Hi c.Var c.Type_ c.Test)) (Int.toNat 2) (GNode.mk f.Kind f.Kids f.Lo 1 f.Var f.Type_ f.Test)) j.Within j.By j.Mode) u g1) (plain_triv (by simp [A.Plain, A.Plains, D.Plain, byteD])) (fun a w => Try.call11 a w) rfl trivial) <| Wz (.b (decide (u = 4))) (Obn rfl (fun _ => hb_eql (k := .i64))) <| Wz (.b (decide (u = 4))) (OpT rfl) ?_
     rcases br hm with ⟨f0, hm⟩ | ⟨f0, hm⟩
     · refine Wz (.b true) (Oq f0 rfl) <| Wz (.agg [(.own 2), (.i m.Within), (.s m.By), (.y 4)]) (Old rfl) ?_
       obtain ⟨v, h1, hm⟩ := bnd hm
       refine Wz (.i v) (Ocp [] [] [2] 0 (ok_shape_Check (GPattern.mk m.Body m.Within m.By 4) v h1) (plain_triv (by simp [A.Plain, A.Plains, D.Plain, byteD])) (fun a w => Try.call11 a w) rfl trivial) <| Wz (.b (decide (v = 11))) (Obn rfl (fun _ => hb_eql (k := .i64))) <| Wz (.b (decide (v = 11))) (OpT rfl) ?_
       rcases br hm with ⟨g0, hm⟩ | ⟨g0, hm⟩
       · refine Wz (.b true) (Oq g0 rfl) <| Wz (.loc 3 0) (Ofa rfl) <| Wz (.l enc_GNode g.Body) (Old rfl) ?_
         obtain ⟨a0, i1, hm⟩ := bnd hm
         refine Wz (.i a0) (Ocf [] [] [] 0 (ok_shape_Size g.Body 2 a0 i1) (fun a w => Try.call9 a w) rfl trivial) <| Wz (.b (decide (a0 = 4))) (Obn rfl (fun _ => hb_eql (k := .i64))) <| Wz (.b (decide (a0 = 4))) (OpT rfl) ?_
         rcases br hm with ⟨h0, hm⟩ | ⟨h0, hm⟩
         · refine Wz (.b true) (Oq h0 rfl) <| Wz (.loc 3 0) (Ofa rfl) <| Wz (.l enc_GNode g.Body) (Old rfl) ?_
           obtain ⟨u0, j1, hm⟩ := bnd hm; obtain ⟨u1, x0, y0, z0, b1⟩ := cut_some j1
           refine Wz (.l enc_GNode u0) (op_cut rfl (e := 44) (sz := 7) (by kernel_rfl) (l := g.Body) (enc := enc_GNode) (by kernel_rfl) enc_GNode_len (a := (Int.toNat 0)) (b := (Int.toNat 5)) (by exact rfl) (⟨.i64, 5, by kernel_rfl, x0⟩) y0 z0 b1) ?_
           obtain ⟨b0, k1, hm⟩ := bnd hm
           refine Wz (.i b0) (Ocf [] [] [] 0 (ok_shape_Size u0 0 b0 k1) (fun a w => Try.call9 a w) rfl trivial) <| Wz (.b (decide (b0 = 0))) (Obn rfl (fun _ => hb_eql (k := .i64))) <| Wz (.b (decide (b0 = 0))) (OpT rfl) ?_
           rcases br hm with ⟨i0, hm⟩ | ⟨i0, hm⟩
           · refine Wz (.b true) (Oq i0 rfl) <| Wz (.agg [(.l enc_GNode g.Body), (.i g.Within), (.s g.By), (.y g.Mode)]) (Old rfl) ?_
             obtain ⟨o, l1, hm⟩ := bnd hm
             refine Wy (.agg [(.own 6), (.i o.Within), (.s o.By), (.y o.Mode)]) [(6, (Ar 44 7 enc_GNode o.Body))] (Ocf [] [6] [] 0 (ok_w13_example  o l1) (fun a w => Try.call21 a w) rfl trivial) ?_
             obtain ⟨s0, m1, hm⟩ := bnd hm
             refine Wz (.b s0) (Ocp [] [] [6] 0 (ok_shape_Same g o s0 m1) (plain_triv (by simp [A.Plain, A.Plains, D.Plain, byteD])) (fun a w => Try.call17 a w) rfl trivial) <| Wz (.b s0) (OpT rfl) ?_
             rcases br hm with ⟨j0, hm⟩ | ⟨j0, hm⟩
             · refine Wz (.b true) (Oq j0 rfl) <| Wz (.agg [(.l enc_GNode g.Body), (.i g.Within), (.s g.By), (.y g.Mode)]) (Old rfl) <| Wz (.agg [(.own 1), (.i j.Within), (.s j.By), (.y j.Mode)]) (Old rfl) ?_
               obtain ⟨p, n1, hm⟩ := bnd hm
               refine Wz (.b p) (Ocp [] [] [1] 0 (ok_shape_Same g (GPattern.mk (List.set (List.set j.Body (Int.toNat 2) (GNode.mk c.Kind c.Kids 1 c.Hi c.Var c.Type_ c.Test)) (Int.toNat 2) (GNode.mk f.Kind f.Kids f.Lo 1 f.Var f.Type_ f.Test)) j.Within j.By j.Mode) p n1) (plain_triv (by simp [A.Plain, A.Plains, D.Plain, byteD])) (fun a w => Try.call17 a w) rfl trivial) <| Wz (.b (!p)) (Ocs (by kernel_rfl) (op_un rfl (a1 := .bool p) (by kernel_rfl) (fun _ => hu_not))) <| Wz (.b (!p)) (OpT rfl) ?_
               rcases br hm with ⟨k0, hm⟩ | ⟨k0, hm⟩
               · refine Wz (.b true) (Oq k0 rfl) ?_
                 obtain ⟨q, o1, hm⟩ := bnd hm
                 refine Wz (.s q) (Ocf [] [] [] 0 (ok_shape_Word 3 q o1) (fun a w => Try.call15 a w) rfl trivial) <| Wz (.b (decide (q = ([115, 116, 114, 105, 99, 116] : List UInt8)))) (Ocs (lit_tf (by simp only [toS_inj, ne_eq])) (op_bin rfl (a1 := .string (toS q)) (a2 := .string (toS ([115, 116, 114, 105, 99, 116] : List UInt8))) (by kernel_rfl) (by kernel_rfl) (fun _ => hb_seql))) <| Wz (.b (decide (q = ([115, 116, 114, 105, 99, 116] : List UInt8)))) (OpT rfl) ?_
                 rcases br hm with ⟨l0, hm⟩ | ⟨l0, hm⟩
                 · refine Wz (.b true) (Oq l0 rfl) <| Wz (.agg [(.own 2), (.i m.Within), (.s m.By), (.y 4)]) (Old rfl) ?_
                   obtain ⟨t, q1, hm⟩ := bnd hm
                   refine Wz (.s t) (Ocp [] [] [2] 0 (ok_shape_Print (GPattern.mk m.Body m.Within m.By 4) t q1) (plain_triv (by simp [A.Plain, A.Plains, D.Plain, byteD])) (fun a w => Try.call13 a w) rfl trivial) <| Wz (.b (decide (t = ([] : List UInt8)))) (Ocs (lit_tf (by simp only [toS_inj, ne_eq])) (op_bin rfl (a1 := .string (toS t)) (a2 := .string (toS ([] : List UInt8))) (by kernel_rfl) (by kernel_rfl) (fun _ => hb_seql))) <| Wz (.b (decide (t = ([] : List UInt8)))) (OpT rfl) ?_
                   rcases br hm with ⟨m0, hm⟩ | ⟨m0, hm⟩
                   · refine Wz (.b true) (Oq m0 rfl) <| Wz (.b true) (OpT rfl) <| Wm (.b true) rfl <| Wz (.b true) (OpT rfl) <| Wm (.b true) rfl <| Wdr <| Tn <| Rt ?_
                     obtain rfl := sj hm
                     exact ret_i []
                   refine Wz (.b false) (Oq m0 rfl) <| Wz (.b false) (OpF rfl) <| Wm (.b false) rfl <| Wz (.b false) (OpF rfl) <| Wm (.b false) rfl <| Wdr <| Tn <| Rt ?_
                   obtain rfl := sj hm
                   exact ret_i []
                 refine Wz (.b false) (Oq l0 rfl) <| Wn <| Wn <| Wn <| Wz (.b false) (OpF rfl) <| Wm (.b false) rfl <| Wz (.b false) (OpF rfl) <| Wm (.b false) rfl <| Wz (.b false) (OpF rfl) <| Wm (.b false) rfl <| Wdr <| Tn <| Rt ?_
                 obtain rfl := sj hm
                 exact ret_i []
               refine Wz (.b false) (Oq k0 rfl) <| Wn <| Wn <| Wz (.b false) (OpF rfl) <| Wm (.b false) rfl <| Wn <| Wn <| Wn <| Wz (.b false) (OpF rfl) <| Wm (.b false) rfl <| Wz (.b false) (OpF rfl) <| Wm (.b false) rfl <| Wz (.b false) (OpF rfl) <| Wm (.b false) rfl ?_
               refine Wdr <| Tn <| Rt ?_
               obtain rfl := sj hm
               exact ret_i []
             refine Wz (.b false) (Oq j0 rfl) <| Wn <| Wn <| Wn <| Wn <| Wz (.b false) (OpF rfl) <| Wm (.b false) rfl <| Wn <| Wn <| Wz (.b false) (OpF rfl) <| Wm (.b false) rfl <| Wn <| Wn <| Wn ?_
             refine Wz (.b false) (OpF rfl) <| Wm (.b false) rfl <| Wz (.b false) (OpF rfl) <| Wm (.b false) rfl <| Wz (.b false) (OpF rfl) <| Wm (.b false) rfl <| Wdr <| Tn <| Rt ?_
             obtain rfl := sj hm
             exact ret_i []
           refine Wz (.b false) (Oq i0 rfl) <| Wn <| Wn <| Wn <| Wz (.b false) (OpF rfl) <| Wm (.b false) rfl <| Wn <| Wn <| Wn <| Wn <| Wz (.b false) (OpF rfl) <| Wm (.b false) rfl <| Wn <| Wn ?_
           refine Wz (.b false) (OpF rfl) <| Wm (.b false) rfl <| Wn <| Wn <| Wn <| Wz (.b false) (OpF rfl) <| Wm (.b false) rfl <| Wz (.b false) (OpF rfl) <| Wm (.b false) rfl <| Wz (.b false) (OpF rfl) <| Wm (.b false) rfl <| Wdr <| Tn <| Rt ?_
           obtain rfl := sj hm
           exact ret_i []
         refine Wz (.b false) (Oq h0 rfl) <| Wn <| Wn <| Wn <| Wn <| Wn <| Wz (.b false) (OpF rfl) <| Wm (.b false) rfl <| Wn <| Wn <| Wn <| Wz (.b false) (OpF rfl) <| Wm (.b false) rfl <| Wn ?_
         refine Wn <| Wn <| Wn <| Wz (.b false) (OpF rfl) <| Wm (.b false) rfl <| Wn <| Wn <| Wz (.b false) (OpF rfl) <| Wm (.b false) rfl <| Wn <| Wn <| Wn <| Wz (.b false) (OpF rfl) <| Wm (.b false) rfl ?_
         refine Wz (.b false) (OpF rfl) <| Wm (.b false) rfl <| Wz (.b false) (OpF rfl) <| Wm (.b false) rfl <| Wdr <| Tn <| Rt ?_
         obtain rfl := sj hm
         exact ret_i []
       refine Wz (.b false) (Oq g0 rfl) <| Wn <| Wn <| Wn <| Wn <| Wz (.b false) (OpF rfl) <| Wm (.b false) rfl <| Wn <| Wn <| Wn <| Wn <| Wn <| Wz (.b false) (OpF rfl) <| Wm (.b false) rfl ?_
       refine Wn <| Wn <| Wn <| Wz (.b false) (OpF rfl) <| Wm (.b false) rfl <| Wn <| Wn <| Wn <| Wn <| Wz (.b false) (OpF rfl) <| Wm (.b false) rfl <| Wn <| Wn <| Wz (.b false) (OpF rfl) ?_
       refine Wm (.b false) rfl <| Wn <| Wn <| Wn <| Wz (.b false) (OpF rfl) <| Wm (.b false) rfl <| Wz (.b false) (OpF rfl) <| Wm (.b false) rfl <| Wz (.b false) (OpF rfl) <| Wm (.b false) rfl <| Wdr <| Tn <| Rt ?_
       obtain rfl := sj hm
       exact ret_i []
     refine Wz (.b false) (Oq f0 rfl) <| Wn <| Wn <| Wn <| Wz (.b false) (OpF rfl) <| Wm (.b false) rfl <| Wn <| Wn <| Wn <| Wn <| Wz (.b false) (OpF rfl) <| Wm (.b false) rfl <| Wn <| Wn ?_
     refine Wn <| Wn <| Wn <| Wz (.b false) (OpF rfl) <| Wm (.b false) rfl <| Wn <| Wn <| Wn <| Wz (.b false) (OpF rfl) <| Wm (.b false) rfl <| Wn <| Wn <| Wn <| Wn ?_
     refine Wz (.b false) (OpF rfl) <| Wm (.b false) rfl <| Wn <| Wn <| Wz (.b false) (OpF rfl) <| Wm (.b false) rfl <| Wn <| Wn <| Wn <| Wz (.b false) (OpF rfl) <| Wm (.b false) rfl <| Wz (.b false) (OpF rfl) <| Wm (.b false) rfl <| Wz (.b false) (OpF rfl) ?_
     refine Wm (.b false) rfl <| Wdr <| Tn <| Rt ?_
     obtain rfl := sj hm
     exact ret_i []
   refine Wz (.b false) (Oq e0 rfl) <| Wn <| Wn <| Wn <| Wz (.b false) (OpF rfl) <| Wm (.b false) rfl <| Wn <| Wn <| Wn <| Wz (.b false) (OpF rfl) <| Wm (.b false) rfl <| Wn <| Wn <| Wn ?_
   refine Wn <| Wz (.b false) (OpF rfl) <| Wm (.b false) rfl <| Wn <| Wn <| Wn <| Wn <| Wn <| Wz (.b false) (OpF rfl) <| Wm (.b false) rfl <| Wn <| Wn <| Wn <| Wz (.b false) (OpF rfl) ?_
   refine Wm (.b false) rfl <| Wn <| Wn <| Wn <| Wn <| Wz (.b false) (OpF rfl) <| Wm (.b false) rfl <| Wn <| Wn <| Wz (.b false) (OpF rfl) <| Wm (.b false) rfl <| Wn <| Wn <| Wn ?_
   refine Wz (.b false) (OpF rfl) <| Wm (.b false) rfl <| Wz (.b false) (OpF rfl) <| Wm (.b false) rfl <| Wz (.b false) (OpF rfl) <| Wm (.b false) rfl <| Wdr <| Tn <| Rt ?_
   obtain rfl := sj hm
   exact ret_i []
 refine Wz (.b false) (Oq c0 rfl) <| Wn <| Wn <| Wn <| Wz (.b false) (OpF rfl) <| Wm (.b false) rfl <| Wn <| Wn <| Wn <| Wz (.b false) (OpF rfl) <| Wm (.b false) rfl <| Wn <| Wn <| Wn ?_
 refine Wz (.b false) (OpF rfl) <| Wm (.b false) rfl <| Wn <| Wn <| Wn <| Wn <| Wz (.b false) (OpF rfl) <| Wm (.b false) rfl <| Wn <| Wn <| Wn <| Wn <| Wn <| Wz (.b false) (OpF rfl) ?_
 refine Wm (.b false) rfl <| Wn <| Wn <| Wn <| Wz (.b false) (OpF rfl) <| Wm (.b false) rfl <| Wn <| Wn <| Wn <| Wn <| Wz (.b false) (OpF rfl) <| Wm (.b false) rfl <| Wn <| Wn ?_
 refine Wz (.b false) (OpF rfl) <| Wm (.b false) rfl <| Wn <| Wn <| Wn <| Wz (.b false) (OpF rfl) <| Wm (.b false) rfl <| Wz (.b false) (OpF rfl) <| Wm (.b false) rfl <| Wz (.b false) (OpF rfl) <| Wm (.b false) rfl <| Wdr <| Tn <| Rt ?_
 obtain rfl := sj hm
 exact ret_i []

theorem ok_w11_Own (p0 : (List GNode_)) (r : (List GNode_)) (h : m_w11_Own p0 = some r) : GCall Try.prog 22 [(.l enc_GNode_ p0)] [] (.own 0) [(Ar 75 8 enc_GNode_ r)] := by
 refine GCall.of_body (n := 31) (rs := [(.tmp 2)]) Try.func22 rfl rfl rfl <| Ato ⟨.l enc_GNode_ p0::tu 30 [], [], 0⟩ ?_
 have hm := h
 unfold m_w11_Own at hm
 refine Sx <| Wm (.d .nil) rfl <| Nk 1 0 ⟨.l enc_GNode_ p0::tp 30 [], [], 0⟩ <| Sx <| Wm (.d .nil) rfl <| Nk 9 0 ⟨.l enc_GNode_ p0::tp 2 (.d .nil::tp 27 []), [], 0⟩ <| Sq <| Sx <| Wm (.i 0) rfl <| Nk 25 0 ⟨.l enc_GNode_ p0::tp 2 (.d .nil::.i 0::tp 26 []), [], 0⟩ <| Bk <| Aow 3 75 8 ⟨.l enc_GNode_ p0::tp 2 (.own 0::.i 0::tp 26 []), [(Ar 75 8 enc_GNode_ ([] : List GNode_))], 0⟩ ?_
 refine AWP.loopI (α := Nat × (List GNode_) × Int)
   (fun (fu_0, f, e) => (⟨.l enc_GNode_ p0::tp 2 (.own 0::.i e::tp 26 []), [(Ar 75 8 enc_GNode_ f)], 0⟩ : St))
   (fun (fu_0, f, e) => m_w11_Own_l0 p0 fu_0 f e = some r)
   (fun (fu_0, f, e) => fu_0) (1152921504606846976, ([] : List GNode_), 0)
   (Weak.toK 25 0 0 [0]) hm ?_
 rintro ⟨fu_0, f, e⟩ n_0 hm ih_0
 try dsimp only at hm ih_0 ⊢
 cases fu_0 with
 | zero => exact absurd hm (by unfold m_w11_Own_l0; simp)
 | succ fu_0 =>
  unfold m_w11_Own_l0 at hm
  refine Sq <| Sx <| Wm (.i e) rfl <| Wm (.l enc_GNode_ p0) rfl <| Wz (.i ((List.length p0 : Nat) : Int)) (Oln rfl) <| Wz (.b (decide (e < ((List.length p0 : Nat) : Int)))) (Obn rfl (fun _ => hb_lss (k := .i64))) <| Nk 537 1 ⟨.l enc_GNode_ p0::tp 2 (.own 0::.i e::tp 4 (.b (decide (e < ((List.length p0 : Nat) : Int)))::tp 21 [])), [(Ar 75 8 enc_GNode_ f)], 0⟩ ?_
  rcases br hm with ⟨j, hm⟩ | ⟨j, hm⟩
  · refine AiT j <| Sk <| Tk 25 1 ⟨.l enc_GNode_ p0::tp 2 (.own 0::.i e::tp 26 []), [(Ar 75 8 enc_GNode_ f)], 0⟩ <| Sq <| Bk <| Sx <| Wm (.l enc_GNode_ p0) rfl <| Wm (.i e) rfl ?_
    obtain ⟨c, t, hm⟩ := bnd hm
    obtain ⟨o, g⟩ := geti_some t
    refine Wz (.d (.ref (List.drop ((Int.toNat e) * 8) (flatD enc_GNode_ p0)))) (Oia rfl enc_GNode__len o g) <| Wz (.agg [(.y c.Kind), (.y c.Op), (.s c.Var), (.s c.Name), (.y c.Val.Kind), (.i c.Val.N), (.u c.Val.Bits), (.s c.Val.Text)]) (Lf rfl enc_GNode__len g) <| Wy (.loc 1 0) [(1, (.box [(.y 0), (.y 0), (.s ([] : List UInt8)), (.s ([] : List UInt8)), (.y 0), (.i 0), (.u 0), (.s ([] : List UInt8))]))] (Oal rfl) <| Wy (.tup []) [(1, (.box [(.y c.Kind), (.y c.Op), (.s c.Var), (.s c.Name), (.y c.Val.Kind), (.i c.Val.N), (.u c.Val.Bits), (.s c.Val.Text)]))] (Ost rfl) <| Nk 57 3 ⟨.l enc_GNode_ p0::tp 2 (.own 0::.i e::.loc 1 0::tp 25 []), [(Ar 75 8 enc_GNode_ f), (.box [(.y c.Kind), (.y c.Op), (.s c.Var), (.s c.Name), (.y c.Val.Kind), (.i c.Val.N), (.u c.Val.Bits), (.s c.Val.Text)])], 0⟩ <| Tx <| Wm (.own 0) rfl <| Wz (.loc 1 0) (Ofa rfl) <| Wz (.y c.Kind) (Old rfl) <| Wz (.loc 1 1) (Ofa rfl) <| Wz (.y c.Op) (Old rfl) <| Wz (.loc 1 2) (Ofa rfl) <| Wz (.s c.Var) (Old rfl) <| Wz (.loc 1 3) (Ofa rfl) ?_
    refine Wz (.s c.Name) (Old rfl) <| Wz (.loc 1 4) (Ofa rfl) <| Wz (.agg [(.y c.Val.Kind), (.i c.Val.N), (.u c.Val.Bits), (.s c.Val.Text)]) (Old rfl) <| Wz (.agg [(.y c.Kind), (.y c.Op), (.s c.Var), (.s c.Name), (.y c.Val.Kind), (.i c.Val.N), (.u c.Val.Bits), (.s c.Val.Text)]) (Obd rfl) <| Wy (.own 2) [(2, (Ar 75 8 enc_GNode_ ([c] : List GNode_)))] (Obs rfl) ?_
    obtain ⟨m, p, q, hm⟩ := bna hm
    refine Wy (.own 3) [(0, .gone), (3, (Ar 75 8 enc_GNode_ m))] (Oap rfl elemOK_42 enc_GNode__len p q) <| Wm (.own 3) rfl <| Wn0 <| Ino <| Tk 25 8 ⟨.l enc_GNode_ p0::tp 2 (.own 3::.i e::tp 26 []), [.gone, .gone, .gone, (Ar 75 8 enc_GNode_ m)], 0⟩ <| Tx <| Wm (.i e) rfl <| Wz (.i (W6 (e + 1))) (Obn rfl (fun _ => hb_add (k := .i64))) <| Wm (.i (W6 (e + 1))) rfl <| Wn0 <| RoundK.normal ?_
    exact Rounds.weak (Weak.toK 25 0 0 [3]) (ih_0 (fu_0, m, (W6 (e + 1))) hm (Nat.lt_succ_self _))
  refine AiF j <| AWP.exit <| Then.exit <| RoundK.exit <| InBlock.same <| Tk 8 1 ⟨tp 3 (.own 0::tp 27 []), [(Ar 75 8 enc_GNode_ f)], 0⟩ <| Sx <| Wm (.own 0) rfl <| Wm (.own 0) rfl <| Nn <| Rt ?_
  obtain rfl := sj hm
  exact ret_i [0]

theorem ok_w13_Own (p0 : GPattern) (r : GPattern) (h : m_w13_Own p0 = some r) : GCall Try.prog 8 [(.agg [(.l enc_GNode p0.Body), (.i p0.Within), (.s p0.By), (.y p0.Mode)])] [] (.agg [(.own 0), (.i r.Within), (.s r.By), (.y r.Mode)]) [(Ar 44 7 enc_GNode r.Body)] := by
 refine GCall.of_body (n := 47) (rs := [(.cell 2 30)]) Try.func8 rfl rfl rfl <| Ato ⟨.agg [(.l enc_GNode p0.Body), (.i p0.Within), (.s p0.By), (.y p0.Mode)]::tu 46 [], [], 0⟩ ?_
 have hm := h
 unfold m_w13_Own at hm
 refine Sx <| Wy (.loc 0 0) [(0, (.box [(.l enc_GNode p0.Body), (.i p0.Within), (.s p0.By), (.y p0.Mode)]))] (Obx rfl) <| Wy (.loc 1 0) [(1, (.box [(.d .nil), (.i 0), (.s ([] : List UInt8)), (.y 0)]))] (Oal rfl) <| Nk 6 3 ⟨tp 1 (.loc 0 0::.loc 1 0::tp 44 []), [(.box [(.l enc_GNode p0.Body), (.i p0.Within), (.s p0.By), (.y p0.Mode)]), (.box [(.d .nil), (.i 0), (.s ([] : List UInt8)), (.y 0)])], 0⟩ <| Sx <| Wz (.loc 0 1) (Ofa rfl) <| Wz (.i p0.Within) (Old rfl) <| Wz (.loc 0 2) (Ofa rfl) <| Wz (.s p0.By) (Old rfl) <| Wz (.loc 0 3) (Ofa rfl) <| Wz (.y p0.Mode) (Old rfl) <| Wz (.agg [(.d .nil), (.i p0.Within), (.s p0.By), (.y p0.Mode)]) (Obd rfl) <| Wy (.loc 2 0) [(2, (.box [(.d .nil), (.i 0), (.s ([] : List UInt8)), (.y 0)]))] (Oal rfl) <| Wy (.tup []) [(2, (.box [(.d .nil), (.i p0.Within), (.s p0.By), (.y p0.Mode)]))] (Ost rfl) ?_
 refine Nk 14 7 ⟨tp 1 (.loc 0 0::.loc 1 0::.loc 2 0::tp 43 []), [(.box [(.l enc_GNode p0.Body), (.i p0.Within), (.s p0.By), (.y p0.Mode)]), (.box [(.d .nil), (.i 0), (.s ([] : List UInt8)), (.y 0)]), (.box [(.d .nil), (.i p0.Within), (.s p0.By), (.y p0.Mode)])], 0⟩ <| Sq <| Sx <| Wm (.i 0) rfl <| Nk 30 7 ⟨tp 1 (.loc 0 0::.loc 1 0::.loc 2 0::.i 0::tp 42 []), [(.box [(.l enc_GNode p0.Body), (.i p0.Within), (.s p0.By), (.y p0.Mode)]), (.box [(.d .nil), (.i 0), (.s ([] : List UInt8)), (.y 0)]), (.box [(.d .nil), (.i p0.Within), (.s p0.By), (.y p0.Mode)])], 0⟩ <| Bk <| Aob 2 0 44 7 ⟨tp 1 (.loc 0 0::.loc 1 0::.loc 2 0::.i 0::tp 42 []), [(.box [(.l enc_GNode p0.Body), (.i p0.Within), (.s p0.By), (.y p0.Mode)]), (.box [(.d .nil), (.i 0), (.s ([] : List UInt8)), (.y 0)]), (.box [(.own 3), (.i p0.Within), (.s p0.By), (.y p0.Mode)]), (Ar 44 7 enc_GNode ([] : List GNode))], 0⟩ ?_
 refine AWP.loopI (α := Nat × (List GNode) × Int)
   (fun (fu_0, e, f) => (⟨tp 1 (.loc 0 0::.loc 1 0::.loc 2 0::.i f::tp 42 []), [(.box [(.l enc_GNode p0.Body), (.i p0.Within), (.s p0.By), (.y p0.Mode)]), (.box [(.d .nil), (.i 0), (.s ([] : List UInt8)), (.y 0)]), (.box [(.own 3), (.i p0.Within), (.s p0.By), (.y p0.Mode)]), (Ar 44 7 enc_GNode e)], 0⟩ : St))
   (fun (fu_0, e, f) => m_w13_Own_l0 p0 fu_0 e f = some r)
   (fun (fu_0, e, f) => fu_0) (1152921504606846976, ([] : List GNode), 0)
   (Weak.toK 30 0 0 [0, 1, 2, 3]) hm ?_
 rintro ⟨fu_0, e, f⟩ n_0 hm ih_0
 try dsimp only at hm ih_0 ⊢
 cases fu_0 with
 | zero => exact absurd hm (by unfold m_w13_Own_l0; simp)
 | succ fu_0 =>
  unfold m_w13_Own_l0 at hm
  refine Sq <| Sx <| Wm (.i f) rfl <| Wz (.loc 0 0) (Ofa rfl) <| Wz (.l enc_GNode p0.Body) (Old rfl) <| Wz (.i ((List.length p0.Body : Nat) : Int)) (Oln rfl) <| Wz (.b (decide (f < ((List.length p0.Body : Nat) : Int)))) (Obn rfl (fun _ => hb_lss (k := .i64))) <| Nk 131102 15 ⟨tp 1 (.loc 0 0::.loc 1 0::.loc 2 0::.i f::tp 12 (.b (decide (f < ((List.length p0.Body : Nat) : Int)))::tp 29 [])), [(.box [(.l enc_GNode p0.Body), (.i p0.Within), (.s p0.By), (.y p0.Mode)]), (.box [(.d .nil), (.i 0), (.s ([] : List UInt8)), (.y 0)]), (.box [(.own 3), (.i p0.Within), (.s p0.By), (.y p0.Mode)]), (Ar 44 7 enc_GNode e)], 0⟩ ?_
  rcases br hm with ⟨j, hm⟩ | ⟨j, hm⟩
  · refine AiT j <| Sk <| Tk 30 15 ⟨tp 1 (.loc 0 0::.loc 1 0::.loc 2 0::.i f::tp 42 []), [(.box [(.l enc_GNode p0.Body), (.i p0.Within), (.s p0.By), (.y p0.Mode)]), (.box [(.d .nil), (.i 0), (.s ([] : List UInt8)), (.y 0)]), (.box [(.own 3), (.i p0.Within), (.s p0.By), (.y p0.Mode)]), (Ar 44 7 enc_GNode e)], 0⟩ <| Sq <| Bk <| Sx <| Wz (.loc 0 0) (Ofa rfl) <| Wz (.l enc_GNode p0.Body) (Old rfl) <| Wm (.i f) rfl ?_
    obtain ⟨c, u, hm⟩ := bnd hm
    obtain ⟨p, m⟩ := geti_some u
    refine Wz (.d (.ref (List.drop ((Int.toNat f) * 7) (flatD enc_GNode p0.Body)))) (Oia rfl enc_GNode_len p m) <| Wz (.agg [(.y c.Kind), (.i c.Kids), (.i c.Lo), (.i c.Hi), (.s c.Var), (.s c.Type_), (.l enc_GNode_ c.Test)]) (Lf rfl enc_GNode_len m) <| Wy (.loc 4 0) [(4, (.box [(.y 0), (.i 0), (.i 0), (.i 0), (.s ([] : List UInt8)), (.s ([] : List UInt8)), (.d .nil)]))] (Oal rfl) <| Wy (.tup []) [(4, (.box [(.y c.Kind), (.i c.Kids), (.i c.Lo), (.i c.Hi), (.s c.Var), (.s c.Type_), (.l enc_GNode_ c.Test)]))] (Ost rfl) <| Nk 62 31 ⟨tp 1 (.loc 0 0::.loc 1 0::.loc 2 0::.i f::.loc 4 0::tp 41 []), [(.box [(.l enc_GNode p0.Body), (.i p0.Within), (.s p0.By), (.y p0.Mode)]), (.box [(.d .nil), (.i 0), (.s ([] : List UInt8)), (.y 0)]), (.box [(.own 3), (.i p0.Within), (.s p0.By), (.y p0.Mode)]), (Ar 44 7 enc_GNode e), (.box [(.y c.Kind), (.i c.Kids), (.i c.Lo), (.i c.Hi), (.s c.Var), (.s c.Type_), (.l enc_GNode_ c.Test)])], 0⟩ <| Adr <| Wz (.loc 2 0) (Ofa rfl) <| Wz (.own 3) (Old rfl) <| Wz (.loc 4 0) (Ofa rfl) <| Wz (.y c.Kind) (Old rfl) <| Wz (.loc 4 1) (Ofa rfl) <| Wz (.i c.Kids) (Old rfl) <| Wz (.loc 4 2) (Ofa rfl) <| Wz (.i c.Lo) (Old rfl) ?_
    refine Wz (.loc 4 3) (Ofa rfl) <| Wz (.i c.Hi) (Old rfl) <| Wz (.loc 4 4) (Ofa rfl) <| Wz (.s c.Var) (Old rfl) <| Wz (.loc 4 5) (Ofa rfl) <| Wz (.s c.Type_) (Old rfl) <| Wz (.loc 4 6) (Ofa rfl) <| Wz (.l enc_GNode_ c.Test) (Old rfl) ?_
    obtain ⟨g, v, hm⟩ := bnd hm
    refine Wy (.l enc_GNode_ g) [(5, (Ar 75 8 enc_GNode_ g)), (5, (.fro 75 8 (List.length g) (flatD enc_GNode_ g)))] (Ofz [5] (.own 5) [(5, (Ar 75 8 enc_GNode_ g))] (Ocf [] [5] [] 0 (ok_w11_Own c.Test g v) (fun a w => Try.call22 a w) rfl trivial)) <| Wz (.agg [(.y c.Kind), (.i c.Kids), (.i c.Lo), (.i c.Hi), (.s c.Var), (.s c.Type_), (.l enc_GNode_ g)]) (Obd rfl) <| Wy (.own 6) [(6, (Ar 44 7 enc_GNode ([(GNode.mk c.Kind c.Kids c.Lo c.Hi c.Var c.Type_ g)] : List GNode)))] (Obs rfl) ?_
    obtain ⟨o, q, t, hm⟩ := bna hm
    refine Wy (.own 7) [(3, .gone), (7, (Ar 44 7 enc_GNode o))] (Oap rfl elemOK_28 enc_GNode_len q t) <| Wz (.loc 2 0) (Ofa rfl) <| Wy (.tup []) [(2, (.box [(.own 7), (.i p0.Within), (.s p0.By), (.y p0.Mode)]))] (Ost rfl) <| Wdr <| Ino <| Tk 30 135 ⟨tp 1 (.loc 0 0::.loc 1 0::.loc 2 0::.i f::tp 42 []), [(.box [(.l enc_GNode p0.Body), (.i p0.Within), (.s p0.By), (.y p0.Mode)]), (.box [(.d .nil), (.i 0), (.s ([] : List UInt8)), (.y 0)]), (.box [(.own 7), (.i p0.Within), (.s p0.By), (.y p0.Mode)]), .gone, .gone, .gone, .gone, (Ar 44 7 enc_GNode o)], 0⟩ <| Tx <| Wm (.i f) rfl <| Wz (.i (W6 (f + 1))) (Obn rfl (fun _ => hb_add (k := .i64))) <| Wm (.i (W6 (f + 1))) rfl <| Wn0 <| RoundK.normal ?_
    exact Rounds.weak (Weak.toK 30 0 0 [0, 1, 2, 7]) (ih_0 (fu_0, o, (W6 (f + 1))) hm (Nat.lt_succ_self _))
  refine AiF j <| AWP.exit <| Then.exit <| RoundK.exit <| InBlock.same <| Tk 12 14 ⟨tp 2 (.loc 1 0::.loc 2 0::tp 43 []), [.gone, (.box [(.d .nil), (.i 0), (.s ([] : List UInt8)), (.y 0)]), (.box [(.own 3), (.i p0.Within), (.s p0.By), (.y p0.Mode)]), (Ar 44 7 enc_GNode e)], 0⟩ <| Sx <| Wz (.agg [(.own 3), (.i p0.Within), (.s p0.By), (.y p0.Mode)]) (Old rfl) <| Wy (.tup []) [(1, (.box [(.own 3), (.i p0.Within), (.s p0.By), (.y p0.Mode)]))] (Ost rfl) <| Nn <| Rt ?_
  obtain rfl := sj hm
  exact ret_i [3]

theorem ok_r13_Kids (p0 : GNode) (r : Int) (h : m_r13_Kids p0 = some r) : GCall Try.prog 24 [(.agg [(.y p0.Kind), (.i p0.Kids), (.i p0.Lo), (.i p0.Hi), (.s p0.Var), (.s p0.Type_), (.l enc_GNode_ p0.Test)])] [] (.i r) [] := by
 refine GCall.of_body (n := 18) (rs := [(.tmp 2)]) Try.func24 rfl rfl rfl <| Ato ⟨.agg [(.y p0.Kind), (.i p0.Kids), (.i p0.Lo), (.i p0.Hi), (.s p0.Var), (.s p0.Type_), (.l enc_GNode_ p0.Test)]::tu 17 [], [], 0⟩ ?_
 have hm := h
 unfold m_r13_Kids at hm
 refine Sx <| Wy (.loc 0 0) [(0, (.box [(.y p0.Kind), (.i p0.Kids), (.i p0.Lo), (.i p0.Hi), (.s p0.Var), (.s p0.Type_), (.l enc_GNode_ p0.Test)]))] (Obx rfl) <| Wm (.i 0) rfl <| Nk 2 1 ⟨tp 1 (.loc 0 0::tp 16 []), [(.box [(.y p0.Kind), (.i p0.Kids), (.i p0.Lo), (.i p0.Hi), (.s p0.Var), (.s p0.Type_), (.l enc_GNode_ p0.Test)])], 0⟩ <| Sq <| Sx <| Wz (.loc 0 0) (Ofa rfl) <| Wz (.y p0.Kind) (Old rfl) <| Wz (.b (decide (((p0.Kind.toNat : Nat) : Int) = 1))) (Ob2 (.int .u8 ((p0.Kind.toNat : Nat) : Int)) (.int .u8 1) rfl (fun _ => hb_eql)) ?_
 rcases br hm with ⟨e, hm⟩ | ⟨e, hm⟩
 · refine Wz (.b true) (Oq e rfl) <| Wn <| Wn <| Wn <| Wz (.b true) (OpT rfl) <| Nk 1026 1 ⟨tp 1 (.loc 0 0::tp 8 (.b true::tp 7 [])), [(.box [(.y p0.Kind), (.i p0.Kids), (.i p0.Lo), (.i p0.Hi), (.s p0.Var), (.s p0.Type_), (.l enc_GNode_ p0.Test)])], 0⟩ <| AWP.if_ true (by kernel_rfl) <| Sx <| Wz (.loc 0 1) (Ofa rfl) <| Wz (.i p0.Kids) (Old rfl) <| Wz (.i (min 40 p0.Kids)) (op_bi2 rfl (a1 := .int .i64 40) (a2 := .int .i64 p0.Kids) (by kernel_rfl) (by kernel_rfl) hb_min) <| Wz (.i (max 0 (min 40 p0.Kids))) (op_bi2 rfl (a1 := .int .i64 0) (a2 := .int .i64 (min 40 p0.Kids)) (by kernel_rfl) (by kernel_rfl) hb_max) <| Wm (.i (max 0 (min 40 p0.Kids))) rfl <| Nn ?_
   refine Rt <| Tr ?_
   obtain rfl := sj hm
   exact ret_i []
 refine Wz (.b false) (Oq e rfl) <| Wz (.loc 0 0) (Ofa rfl) <| Wz (.y p0.Kind) (Old rfl) <| Wz (.b (decide (((p0.Kind.toNat : Nat) : Int) = 2))) (Ob2 (.int .u8 ((p0.Kind.toNat : Nat) : Int)) (.int .u8 2) rfl (fun _ => hb_eql)) <| Wz (.b (decide (((p0.Kind.toNat : Nat) : Int) = 2))) (OpF rfl) <| Nk 1026 1 ⟨tp 1 (.loc 0 0::tp 8 (.b (decide (((p0.Kind.toNat : Nat) : Int) = 2))::tp 7 [])), [(.box [(.y p0.Kind), (.i p0.Kids), (.i p0.Lo), (.i p0.Hi), (.s p0.Var), (.s p0.Type_), (.l enc_GNode_ p0.Test)])], 0⟩ ?_
 rcases br hm with ⟨c, hm⟩ | ⟨c, hm⟩
 · refine AiT c <| Sx <| Wz (.loc 0 1) (Ofa rfl) <| Wz (.i p0.Kids) (Old rfl) <| Wz (.i (min 40 p0.Kids)) (op_bi2 rfl (a1 := .int .i64 40) (a2 := .int .i64 p0.Kids) (by kernel_rfl) (by kernel_rfl) hb_min) <| Wz (.i (max 0 (min 40 p0.Kids))) (op_bi2 rfl (a1 := .int .i64 0) (a2 := .int .i64 (min 40 p0.Kids)) (by kernel_rfl) (by kernel_rfl) hb_max) <| Wm (.i (max 0 (min 40 p0.Kids))) rfl <| Nn <| Rt <| Tr ?_
   obtain rfl := sj hm
   exact ret_i []
 refine AiF c <| Sk <| Tk 2 1 ⟨tp 1 (.loc 0 0::tp 16 []), [(.box [(.y p0.Kind), (.i p0.Kids), (.i p0.Lo), (.i p0.Hi), (.s p0.Var), (.s p0.Type_), (.l enc_GNode_ p0.Test)])], 0⟩ <| Sq <| Sx <| Wz (.loc 0 0) (Ofa rfl) <| Wz (.y p0.Kind) (Old rfl) <| Wz (.b (decide (((p0.Kind.toNat : Nat) : Int) = 3))) (Ob2 (.int .u8 ((p0.Kind.toNat : Nat) : Int)) (.int .u8 3) rfl (fun _ => hb_eql)) <| Nk 131072 0 ⟨tp 17 (.b (decide (((p0.Kind.toNat : Nat) : Int) = 3))::[]), [.gone], 0⟩ ?_
 rcases br hm with ⟨d, hm⟩ | ⟨d, hm⟩
 · refine AiT d <| Sx <| Wm (.i 1) rfl <| Nn <| Rt <| Tr ?_
   obtain rfl := sj hm
   exact ret_i []
 refine AiF d <| Sk <| Tk 0 0 ⟨tp 18 [], [.gone], 0⟩ <| Sx <| Wm (.i 0) rfl <| Nn <| Rt ?_
 obtain rfl := sj hm
 exact ret_i []

theorem ok_r13_Size (p0 : (List GNode)) (p1 : Int) (r : Int) (h : m_r13_Size p0 p1 = some r) : GCall Try.prog 10 [(.l enc_GNode p0), (.i p1)] [] (.i r) [] := by
 refine GCall.of_body (n := 35) (rs := [(.tmp 4)]) Try.func10 rfl rfl rfl <| Ato ⟨.l enc_GNode p0::.i p1::tu 33 [], [], 0⟩ ?_
 have hm := h
 unfold m_r13_Size at hm
 refine Sx <| Wm (.i 0) rfl <| Nk 3 0 ⟨.l enc_GNode p0::.i p1::tp 33 [], [], 0⟩ <| Sq <| Sx <| Wm (.i p1) rfl <| Wz (.b (decide (p1 < 0))) (Obn rfl (fun _ => hb_lss (k := .i64))) ?_
 rcases br hm with ⟨q, hm⟩ | ⟨q, hm⟩
 · refine Wz (.b true) (Oq q rfl) <| Wn <| Wn <| Wn <| Wn <| Wz (.b true) (OpT rfl) <| Nk 16387 0 ⟨.l enc_GNode p0::.i p1::tp 12 (.b true::tp 20 []), [], 0⟩ <| AWP.if_ true (by kernel_rfl) <| Sx <| Wm (.i 0) rfl <| Nn <| Rt <| Tr ?_
   obtain rfl := sj hm
   exact ret_i []
 refine Wz (.b false) (Oq q rfl) <| Wm (.i p1) rfl <| Wm (.l enc_GNode p0) rfl <| Wz (.i ((List.length p0 : Nat) : Int)) (Oln rfl) <| Wz (.b (decide (((List.length p0 : Nat) : Int) ≤ p1))) (Obn rfl (fun _ => hb_geq (k := .i64))) <| Wz (.b (decide (((List.length p0 : Nat) : Int) ≤ p1))) (OpF rfl) <| Nk 16387 0 ⟨.l enc_GNode p0::.i p1::tp 12 (.b (decide (((List.length p0 : Nat) : Int) ≤ p1))::tp 20 []), [], 0⟩ ?_
 rcases br hm with ⟨j, hm⟩ | ⟨j, hm⟩
 · refine AiT j <| Sx <| Wm (.i 0) rfl <| Nn <| Rt <| Tr ?_
   obtain rfl := sj hm
   exact ret_i []
 refine AiF j <| Sk <| Tk 3 0 ⟨.l enc_GNode p0::.i p1::tp 33 [], [], 0⟩ <| Sx <| Wm (.i p1) rfl <| Wm (.i 1) rfl <| Wm (.i p1) rfl <| Nk 99 0 ⟨.l enc_GNode p0::.i p1::tp 3 (.i 1::.i p1::tp 28 []), [], 0⟩ <| Sq <| Bk ?_
 refine AWP.loopI (α := Nat × Int × Int)
   (fun (fu_1, e, c) => (⟨.l enc_GNode p0::.i p1::tp 3 (.i e::.i c::tp 28 []), [], 0⟩ : St))
   (fun (fu_1, e, c) => m_r13_Size_l1 p0 p1 fu_1 e c = some r)
   (fun (fu_1, e, c) => fu_1) (1152921504606846976, 1, p1)
   (Weak.toK 99 0 0 []) hm ?_
 rintro ⟨fu_1, e, c⟩ n_1 hm ih_1
 try dsimp only at hm ih_1 ⊢
 cases fu_1 with
 | zero => exact absurd hm (by unfold m_r13_Size_l1; simp)
 | succ fu_1 =>
  unfold m_r13_Size_l1 at hm
  refine Sq <| Sx <| Wm (.i e) rfl <| Wz (.b (decide ((0 : Int) < e))) (Obn rfl (fun _ => hb_gtr (k := .i64))) <| Nk 131171 0 ⟨.l enc_GNode p0::.i p1::tp 3 (.i e::.i c::tp 10 (.b (decide ((0 : Int) < e))::tp 17 [])), [], 0⟩ ?_
  rcases br hm with ⟨m, hm⟩ | ⟨m, hm⟩
  · refine AiT m <| Sk <| Tk 99 0 ⟨.l enc_GNode p0::.i p1::tp 3 (.i e::.i c::tp 28 []), [], 0⟩ <| Bk <| Sq <| Sx <| Wm (.i c) rfl <| Wm (.l enc_GNode p0) rfl <| Wz (.i ((List.length p0 : Nat) : Int)) (Oln rfl) <| Wz (.b (decide (((List.length p0 : Nat) : Int) ≤ c))) (Obn rfl (fun _ => hb_geq (k := .i64))) <| Nk 2097251 0 ⟨.l enc_GNode p0::.i p1::tp 3 (.i e::.i c::tp 14 (.b (decide (((List.length p0 : Nat) : Int) ≤ c))::tp 13 [])), [], 0⟩ ?_
    rcases br hm with ⟨o, hm⟩ | ⟨o, hm⟩
    · refine AiT o <| Sx <| Wm (.i 0) rfl <| Nn <| Rt <| Tr <| Ir <| RoundK.ret <| Ir <| Tr ?_
      obtain rfl := sj hm
      exact ret_i []
    refine AiF o <| Sk <| Tk 99 0 ⟨.l enc_GNode p0::.i p1::tp 3 (.i e::.i c::tp 28 []), [], 0⟩ <| Sx <| Wm (.i e) rfl <| Wz (.i (W6 (e - 1))) (Obn rfl (fun _ => hb_sub (k := .i64))) <| Wm (.l enc_GNode p0) rfl <| Wm (.i c) rfl ?_
    obtain ⟨f, u, hm⟩ := bnd hm
    obtain ⟨t, p⟩ := geti_some u
    refine Wz (.d (.ref (List.drop ((Int.toNat c) * 7) (flatD enc_GNode p0)))) (Oia rfl enc_GNode_len t p) <| Wz (.agg [(.y f.Kind), (.i f.Kids), (.i f.Lo), (.i f.Hi), (.s f.Var), (.s f.Type_), (.l enc_GNode_ f.Test)]) (Lf rfl enc_GNode_len p) ?_
    obtain ⟨g, v, hm⟩ := bnd hm
    refine Wz (.i g) (Ocf [] [] [] 0 (ok_r13_Kids f g v) (fun a w => Try.call24 a w) rfl trivial) <| Wz (.i (W6 ((W6 (e - 1)) + g))) (Obn rfl (fun _ => hb_add (k := .i64))) <| Wm (.i (W6 ((W6 (e - 1)) + g))) rfl <| Nk 99 0 ⟨.l enc_GNode p0::.i p1::tp 3 (.i (W6 ((W6 (e - 1)) + g))::.i c::tp 28 []), [], 0⟩ <| Tx <| Wm (.i c) rfl <| Wz (.i (W6 (c + 1))) (Obn rfl (fun _ => hb_add (k := .i64))) <| Wm (.i (W6 (c + 1))) rfl <| Wn0 <| Ino <| RoundK.normal ?_
    exact Rounds.weak (Weak.toK 99 0 0 []) (ih_1 (fu_1, (W6 ((W6 (e - 1)) + g)), (W6 (c + 1))) hm (Nat.lt_succ_self _))
  refine AiF m <| AWP.exit <| Then.exit <| RoundK.exit <| InBlock.same <| Tk 66 0 ⟨tp 1 (.i p1::tp 4 (.i c::tp 28 [])), [], 0⟩ <| Sx <| Wm (.i c) rfl <| Wm (.i p1) rfl <| Wz (.i (W6 (c - p1))) (Obn rfl (fun _ => hb_sub (k := .i64))) <| Wm (.i (W6 (c - p1))) rfl <| Nn <| Rt ?_
  obtain rfl := sj hm
  exact ret_i []

theorem ok_r06_Reserved (p0 : (List UInt8)) (r : Bool) (h : m_r06_Reserved p0 = some r) : GCall Try.prog 48 [(.s p0)] [] (.b r) [] := by
 refine GCall.of_body (n := 18) (rs := [(.tmp 2)]) Try.func48 rfl rfl rfl <| Ato ⟨.s p0::tu 17 [], [], 0⟩ ?_
 have hm := h
 unfold m_r06_Reserved at hm
 refine Sx <| Wm (.b false) rfl <| Nk 1 0 ⟨.s p0::tp 17 [], [], 0⟩ <| Sx <| Wy (.own 0) [(0, (Ar 9 1 encS ([([119, 105, 116, 104, 105, 110] : List UInt8), ([98, 121] : List UInt8), ([97, 110, 100] : List UInt8), ([111, 114] : List UInt8), ([110, 111, 116] : List UInt8), ([97, 110, 121] : List UInt8), ([110, 101, 120, 116] : List UInt8), ([115, 116, 114, 105, 99, 116] : List UInt8), ([116, 114, 117, 101] : List UInt8), ([102, 97, 108, 115, 101] : List UInt8)] : List (List UInt8))))] (Obs rfl) <| Wm (.own 0) rfl <| Nk 9 1 ⟨.s p0::tp 2 (.own 0::tp 14 []), [(Ar 9 1 encS ([([119, 105, 116, 104, 105, 110] : List UInt8), ([98, 121] : List UInt8), ([97, 110, 100] : List UInt8), ([111, 114] : List UInt8), ([110, 111, 116] : List UInt8), ([97, 110, 121] : List UInt8), ([110, 101, 120, 116] : List UInt8), ([115, 116, 114, 105, 99, 116] : List UInt8), ([116, 114, 117, 101] : List UInt8), ([102, 97, 108, 115, 101] : List UInt8)] : List (List UInt8)))], 0⟩ <| Sq <| Sx <| Wm (.i 0) rfl <| Nk 25 1 ⟨.s p0::tp 2 (.own 0::.i 0::tp 13 []), [(Ar 9 1 encS ([([119, 105, 116, 104, 105, 110] : List UInt8), ([98, 121] : List UInt8), ([97, 110, 100] : List UInt8), ([111, 114] : List UInt8), ([110, 111, 116] : List UInt8), ([97, 110, 121] : List UInt8), ([110, 101, 120, 116] : List UInt8), ([115, 116, 114, 105, 99, 116] : List UInt8), ([116, 114, 117, 101] : List UInt8), ([102, 97, 108, 115, 101] : List UInt8)] : List (List UInt8)))], 0⟩ <| Bk ?_
 refine AWP.loopI (α := Nat × Int)
   (fun (fu_0, c) => (⟨.s p0::tp 2 (.own 0::.i c::tp 13 []), [(Ar 9 1 encS ([([119, 105, 116, 104, 105, 110] : List UInt8), ([98, 121] : List UInt8), ([97, 110, 100] : List UInt8), ([111, 114] : List UInt8), ([110, 111, 116] : List UInt8), ([97, 110, 121] : List UInt8), ([110, 101, 120, 116] : List UInt8), ([115, 116, 114, 105, 99, 116] : List UInt8), ([116, 114, 117, 101] : List UInt8), ([102, 97, 108, 115, 101] : List UInt8)] : List (List UInt8)))], 0⟩ : St))
   (fun (fu_0, c) => m_r06_Reserved_l0 p0 fu_0 c = some r)
   (fun (fu_0, c) => fu_0) (1152921504606846976, 0)
   (Weak.toK 25 0 0 [0]) hm ?_
 rintro ⟨fu_0, c⟩ n_0 hm ih_0
 try dsimp only at hm ih_0 ⊢
 cases fu_0 with
 | zero => exact absurd hm (by unfold m_r06_Reserved_l0; simp)
 | succ fu_0 =>
  unfold m_r06_Reserved_l0 at hm
  refine Sq <| Sx <| Wm (.i c) rfl <| Wm (.own 0) rfl ?_
  obtain ⟨m, j, hm⟩ := bnd hm; replace j := Option.some.inj j
  refine Wz (.i m) (Ocs (congrArg (fun z => A.d (.lit (.int .i64 z))) j) (Oln rfl)) <| Wz (.b (decide (c < m))) (Obn rfl (fun _ => hb_lss (k := .i64))) <| Nk 537 1 ⟨.s p0::tp 2 (.own 0::.i c::tp 4 (.b (decide (c < m))::tp 8 [])), [(Ar 9 1 encS ([([119, 105, 116, 104, 105, 110] : List UInt8), ([98, 121] : List UInt8), ([97, 110, 100] : List UInt8), ([111, 114] : List UInt8), ([110, 111, 116] : List UInt8), ([97, 110, 121] : List UInt8), ([110, 101, 120, 116] : List UInt8), ([115, 116, 114, 105, 99, 116] : List UInt8), ([116, 114, 117, 101] : List UInt8), ([102, 97, 108, 115, 101] : List UInt8)] : List (List UInt8)))], 0⟩ ?_
  rcases br hm with ⟨l, hm⟩ | ⟨l, hm⟩
  · refine AiT l <| Sk <| Tk 25 1 ⟨.s p0::tp 2 (.own 0::.i c::tp 13 []), [(Ar 9 1 encS ([([119, 105, 116, 104, 105, 110] : List UInt8), ([98, 121] : List UInt8), ([97, 110, 100] : List UInt8), ([111, 114] : List UInt8), ([110, 111, 116] : List UInt8), ([97, 110, 121] : List UInt8), ([110, 101, 120, 116] : List UInt8), ([115, 116, 114, 105, 99, 116] : List UInt8), ([116, 114, 117, 101] : List UInt8), ([102, 97, 108, 115, 101] : List UInt8)] : List (List UInt8)))], 0⟩ <| Sq <| Bk <| Sx <| Wm (.own 0) rfl <| Wm (.i c) rfl ?_
    obtain ⟨e, p, hm⟩ := bnd hm
    obtain ⟨o, g⟩ := geti_some p
    refine Wz (.loc 0 ((Int.toNat c) * 1)) (Oia rfl encS_len o g) <| Wz (.s e) (Lr1 rfl encS_len g) <| Wm (.s p0) rfl <| Wz (.b (decide (e = p0))) (Ocs (lit_tf (by simp only [toS_inj, ne_eq])) (op_bin rfl (a1 := .string (toS e)) (a2 := .string (toS p0)) (by kernel_rfl) (by kernel_rfl) (fun _ => hb_seql))) <| Nk 131097 1 ⟨.s p0::tp 2 (.own 0::.i c::tp 12 (.b (decide (e = p0))::[])), [(Ar 9 1 encS ([([119, 105, 116, 104, 105, 110] : List UInt8), ([98, 121] : List UInt8), ([97, 110, 100] : List UInt8), ([111, 114] : List UInt8), ([110, 111, 116] : List UInt8), ([97, 110, 121] : List UInt8), ([110, 101, 120, 116] : List UInt8), ([115, 116, 114, 105, 99, 116] : List UInt8), ([116, 114, 117, 101] : List UInt8), ([102, 97, 108, 115, 101] : List UInt8)] : List (List UInt8)))], 0⟩ ?_
    rcases br hm with ⟨f, hm⟩ | ⟨f, hm⟩
    · refine AiT f <| Sx <| Wm (.b true) rfl <| Nn <| Rt <| Ir <| Tr <| RoundK.ret <| Ir <| Tr ?_
      obtain rfl := sj hm
      exact ret_i []
    refine AiF f <| Sk <| Ino <| Tk 25 1 ⟨.s p0::tp 2 (.own 0::.i c::tp 13 []), [(Ar 9 1 encS ([([119, 105, 116, 104, 105, 110] : List UInt8), ([98, 121] : List UInt8), ([97, 110, 100] : List UInt8), ([111, 114] : List UInt8), ([110, 111, 116] : List UInt8), ([97, 110, 121] : List UInt8), ([110, 101, 120, 116] : List UInt8), ([115, 116, 114, 105, 99, 116] : List UInt8), ([116, 114, 117, 101] : List UInt8), ([102, 97, 108, 115, 101] : List UInt8)] : List (List UInt8)))], 0⟩ <| Tx <| Wm (.i c) rfl <| Wz (.i (W6 (c + 1))) (Obn rfl (fun _ => hb_add (k := .i64))) <| Wm (.i (W6 (c + 1))) rfl <| Wn0 <| RoundK.normal ?_
    exact Rounds.weak (Weak.toK 25 0 0 [0]) (ih_0 (fu_0, (W6 (c + 1))) hm (Nat.lt_succ_self _))
  refine AiF l <| AWP.exit <| Then.exit <| RoundK.exit <| InBlock.same <| Tk 0 0 ⟨tp 18 [], [.gone], 0⟩ <| Sx <| Wm (.b false) rfl <| Nn <| Rt ?_
  obtain rfl := sj hm
  exact ret_i []

theorem ok_r06_Name (p0 : (List UInt8)) (r : Bool) (h : m_r06_Name p0 = some r) : GCall Try.prog 28 [(.s p0)] [] (.b r) [] := by
 refine GCall.of_body (n := 60) (rs := [(.tmp 2)]) Try.func28 rfl rfl rfl <| Ato ⟨.s p0::tu 59 [], [], 0⟩ ?_
 have hm := h
 unfold m_r06_Name at hm
 refine Sx <| Wm (.b false) rfl <| Nk 1 0 ⟨.s p0::tp 59 [], [], 0⟩ <| Sq ?_
 refine AWP.cutJ (α := Unit) (fun x => match x with | () => (⟨.s p0::tp 16 (.b true::tp 42 []), [], 0⟩ : St)) (fun x => match x with | () => m_r06_Name_j1  = some r) ?_ (fun J1 => ?_)
 ·
  rintro ⟨⟩ hm
  try dsimp only at hm ⊢
  unfold m_r06_Name_j1 at hm
  refine AWP.if_ true (by kernel_rfl) <| Sx <| Wm (.b false) rfl <| Nn <| Rt <| Tr ?_
  obtain rfl := sj hm
  exact ret_i []
 refine Sx <| Wm (.s p0) rfl <| Wz (.i ((List.length p0 : Nat) : Int)) (Oln rfl) <| Wz (.b (decide (((List.length p0 : Nat) : Int) < 1))) (Obn rfl (fun _ => hb_lss (k := .i64))) ?_
 rcases br hm with ⟨u0, hm⟩ | ⟨u0, hm⟩
 · refine Wz (.b true) (Oq u0 rfl) <| Wn <| Wn <| Wn <| Wz (.b true) (OpT rfl) <| Wm (.b true) rfl <| Wn <| Wn <| Wz (.b true) (OpT rfl) <| Nn ?_
   exact AWP.weak (Weak.toK 131073 0 0 []) (J1 () hm)
 refine Wz (.b false) (Oq u0 rfl) <| Wm (.s p0) rfl <| Wz (.i ((List.length p0 : Nat) : Int)) (Oln rfl) <| Wz (.b (decide ((12 : Int) < ((List.length p0 : Nat) : Int)))) (Obn rfl (fun _ => hb_gtr (k := .i64))) <| Wz (.b (decide ((12 : Int) < ((List.length p0 : Nat) : Int)))) (OpF rfl) ?_
 rcases br hm with ⟨h0, hm⟩ | ⟨h0, hm⟩
 · refine Wz (.b true) (Oq h0 rfl) <| Wn <| Wn <| Wz (.b true) (OpT rfl) <| Nn ?_
   exact AWP.weak (Weak.toK 131073 0 0 []) (J1 () hm)
 refine Wz (.b false) (Oq h0 rfl) <| Wm (.s p0) rfl ?_
 obtain ⟨d0, i1, hm⟩ := bnd hm
 refine Wz (.b d0) (Ocf [] [] [] 0 (ok_r06_Reserved p0 d0 i1) (fun a w => Try.call48 a w) rfl trivial) <| Wz (.b d0) (OpF rfl) <| Nk 131073 0 ⟨.s p0::tp 16 (.b d0::tp 42 []), [], 0⟩ ?_
 rcases br hm with ⟨o, hm⟩ | ⟨o, hm⟩
 · refine AiT o <| Sx <| Wm (.b false) rfl <| Nn <| Rt <| Tr ?_
   obtain rfl := sj hm
   exact ret_i []
 refine AiF o <| Sk <| Tk 1 0 ⟨.s p0::tp 59 [], [], 0⟩ <| Sq <| Sx <| Wm (.i 0) rfl <| Nk 9 0 ⟨.s p0::tp 2 (.i 0::tp 56 []), [], 0⟩ <| Bk ?_
 refine AWP.loopI (α := Nat × Int)
   (fun (fu_2, c) => (⟨.s p0::tp 2 (.i c::tp 56 []), [], 0⟩ : St))
   (fun (fu_2, c) => m_r06_Name_l2 p0 fu_2 c = some r)
   (fun (fu_2, c) => fu_2) (1152921504606846976, 0)
   (Weak.toK 9 0 0 []) hm ?_
 rintro ⟨fu_2, c⟩ n_2 hm ih_2
 try dsimp only at hm ih_2 ⊢
 cases fu_2 with
 | zero => exact absurd hm (by unfold m_r06_Name_l2; simp)
 | succ fu_2 =>
  unfold m_r06_Name_l2 at hm
  refine Sq <| Sx <| Wm (.i c) rfl <| Wm (.s p0) rfl <| Wz (.i ((List.length p0 : Nat) : Int)) (Oln rfl) <| Wz (.b (decide (c < ((List.length p0 : Nat) : Int)))) (Obn rfl (fun _ => hb_lss (k := .i64))) <| Nk 2097161 0 ⟨.s p0::tp 2 (.i c::tp 17 (.b (decide (c < ((List.length p0 : Nat) : Int)))::tp 38 [])), [], 0⟩ ?_
  rcases br hm with ⟨p, hm⟩ | ⟨p, hm⟩
  · refine AiT p <| Sk <| Tk 9 0 ⟨.s p0::tp 2 (.i c::tp 56 []), [], 0⟩ <| Sq <| Bk <| Sx <| Wm (.s p0) rfl <| Wm (.i c) rfl ?_
    obtain ⟨e0, j1, hm⟩ := bnd hm
    obtain ⟨v0, w0⟩ := geti_some j1
    refine Wz (.y e0) (Ocs (by kernel_rfl) (op_index_str rfl (by kernel_rfl) (s := toS p0) (by kernel_rfl) (k := .i64) (iv := c) (by kernel_rfl) (i := (Int.toNat c)) (v0) (b := e0) (w0))) <| Wz (.b (decide ((97 : Int) ≤ ((e0.toNat : Nat) : Int)))) (Ob2 (.int .u8 ((e0.toNat : Nat) : Int)) (.int .u8 97) rfl (fun _ => hb_geq)) ?_
    rcases br hm with ⟨i0, hm⟩ | ⟨i0, hm⟩
    · refine Wz (.b true) (Oq i0 rfl) <| Wm (.s p0) rfl <| Wm (.i c) rfl ?_
      obtain ⟨d, k1, hm⟩ := bnd hm
      obtain ⟨x0, y0⟩ := geti_some k1
      refine Wz (.y d) (Ocs (by kernel_rfl) (op_index_str rfl (by kernel_rfl) (s := toS p0) (by kernel_rfl) (k := .i64) (iv := c) (by kernel_rfl) (i := (Int.toNat c)) (x0) (b := d) (y0))) <| Wz (.b (decide (((d.toNat : Nat) : Int) ≤ 122))) (Ob2 (.int .u8 ((d.toNat : Nat) : Int)) (.int .u8 122) rfl (fun _ => hb_leq)) <| Wz (.b (decide (((d.toNat : Nat) : Int) ≤ 122))) (OpT rfl) <| Wm (.b (decide (((d.toNat : Nat) : Int) ≤ 122))) rfl <| Nk 25 0 ⟨.s p0::tp 2 (.i c::.b (decide (((d.toNat : Nat) : Int) ≤ 122))::tp 55 []), [], 0⟩ ?_
      refine AWP.cutJ (α := Bool) (fun x => match x with | j => (⟨.s p0::tp 2 (.i c::.b (decide (((d.toNat : Nat) : Int) ≤ 122))::.b j::tp 54 []), [], 0⟩ : St)) (fun x => match x with | j => m_r06_Name_j6 d c (fun c => m_r06_Name_l2 p0 fu_2 c) j = some r) ?_ (fun J6 => ?_)
      ·
       rintro j hm
       try dsimp only at hm ⊢
       unfold m_r06_Name_j6 at hm
       refine Sx <| Wm (.b (decide (((d.toNat : Nat) : Int) ≤ 122))) rfl <| Wz (.b (!decide (((d.toNat : Nat) : Int) ≤ 122))) (Ocs (by kernel_rfl) (op_un rfl (a1 := .bool (decide (((d.toNat : Nat) : Int) ≤ 122))) (by kernel_rfl) (fun _ => hu_not))) ?_
       rcases br hm with ⟨j0, hm⟩ | ⟨j0, hm⟩
       · refine Wz (.b true) (Oq j0 rfl) <| Wm (.i c) rfl <| Wz (.b (decide (c = 0))) (Obn rfl (fun _ => hb_eql (k := .i64))) ?_
         rcases br hm with ⟨k0, hm⟩ | ⟨k0, hm⟩
         · refine Wz (.b true) (Oq k0 rfl) <| Wn <| Wn <| Wz (.b true) (OpT rfl) <| Wz (.b true) (OpT rfl) <| Nk 576460752303423497 0 ⟨.s p0::tp 2 (.i c::tp 55 (.b true::[])), [], 0⟩ <| AWP.if_ true (by kernel_rfl) <| Sx <| Wm (.b false) rfl <| Nn <| Rt <| Ir <| Tr <| RoundK.ret ?_
           refine Ir <| Tr ?_
           obtain rfl := sj hm
           exact ret_i []
         refine Wz (.b false) (Oq k0 rfl) <| Wm (.b j) rfl <| Wz (.b (!j)) (Ocs (by kernel_rfl) (op_un rfl (a1 := .bool j) (by kernel_rfl) (fun _ => hu_not))) <| Wz (.b (!j)) (OpF rfl) <| Wz (.b (!j)) (OpT rfl) <| Nk 576460752303423497 0 ⟨.s p0::tp 2 (.i c::tp 55 (.b (!j)::[])), [], 0⟩ ?_
         rcases br hm with ⟨q, hm⟩ | ⟨q, hm⟩
         · refine AiT q <| Sx <| Wm (.b false) rfl <| Nn <| Rt <| Ir <| Tr <| RoundK.ret <| Ir <| Tr ?_
           obtain rfl := sj hm
           exact ret_i []
         refine AiF q <| Sk <| Ino <| Tk 9 0 ⟨.s p0::tp 2 (.i c::tp 56 []), [], 0⟩ <| Tx <| Wm (.i c) rfl <| Wz (.i (W6 (c + 1))) (Obn rfl (fun _ => hb_add (k := .i64))) <| Wm (.i (W6 (c + 1))) rfl <| Wn0 <| RoundK.normal ?_
         exact Rounds.weak (Weak.toK 9 0 0 []) (ih_2 (fu_2, (W6 (c + 1))) hm (Nat.lt_succ_self _))
       refine Wz (.b false) (Oq j0 rfl) <| Wn <| Wn <| Wn <| Wn <| Wn <| Wn <| Wz (.b false) (OpF rfl) <| Nk 576460752303423497 0 ⟨.s p0::tp 2 (.i c::tp 55 (.b false::[])), [], 0⟩ <| AWP.if_ false (by kernel_rfl) <| Sk <| Ino <| Tk 9 0 ⟨.s p0::tp 2 (.i c::tp 56 []), [], 0⟩ <| Tx ?_
       refine Wm (.i c) rfl <| Wz (.i (W6 (c + 1))) (Obn rfl (fun _ => hb_add (k := .i64))) <| Wm (.i (W6 (c + 1))) rfl <| Wn0 <| RoundK.normal ?_
       exact Rounds.weak (Weak.toK 9 0 0 []) (ih_2 (fu_2, (W6 (c + 1))) hm (Nat.lt_succ_self _))
      refine Sx <| Wm (.s p0) rfl <| Wm (.i c) rfl ?_
      obtain ⟨f0, l1, hm⟩ := bnd hm
      obtain ⟨z0, b1⟩ := geti_some l1
      refine Wz (.y f0) (Ocs (by kernel_rfl) (op_index_str rfl (by kernel_rfl) (s := toS p0) (by kernel_rfl) (k := .i64) (iv := c) (by kernel_rfl) (i := (Int.toNat c)) (z0) (b := f0) (b1))) <| Wz (.b (decide ((48 : Int) ≤ ((f0.toNat : Nat) : Int)))) (Ob2 (.int .u8 ((f0.toNat : Nat) : Int)) (.int .u8 48) rfl (fun _ => hb_geq)) ?_
      rcases br hm with ⟨l0, hm⟩ | ⟨l0, hm⟩
      · refine Wz (.b true) (Oq l0 rfl) <| Wm (.s p0) rfl <| Wm (.i c) rfl ?_
        obtain ⟨l, m1, hm⟩ := bnd hm
        obtain ⟨c1, d1⟩ := geti_some m1
        refine Wz (.y l) (Ocs (by kernel_rfl) (op_index_str rfl (by kernel_rfl) (s := toS p0) (by kernel_rfl) (k := .i64) (iv := c) (by kernel_rfl) (i := (Int.toNat c)) (c1) (b := l) (d1))) <| Wz (.b (decide (((l.toNat : Nat) : Int) ≤ 57))) (Ob2 (.int .u8 ((l.toNat : Nat) : Int)) (.int .u8 57) rfl (fun _ => hb_leq)) <| Wz (.b (decide (((l.toNat : Nat) : Int) ≤ 57))) (OpT rfl) ?_
        rcases br hm with ⟨m0, hm⟩ | ⟨m0, hm⟩
        · refine Wz (.b true) (Oq m0 rfl) <| Wn <| Wn <| Wn <| Wn <| Wz (.b true) (OpT rfl) <| Wm (.b true) rfl <| Nk 57 0 ⟨.s p0::tp 2 (.i c::.b (decide (((d.toNat : Nat) : Int) ≤ 122))::.b true::tp 54 []), [], 0⟩ ?_
          refine AWP.cutJ (α := Unit) (fun x => match x with | () => (⟨.s p0::tp 2 (.i c::tp 55 (.b false::[])), [], 0⟩ : St)) (fun x => match x with | () => m_r06_Name_j11 c (fun c => m_r06_Name_l2 p0 fu_2 c) = some r) ?_ (fun J11 => ?_)
          ·
           rintro ⟨⟩ hm
           try dsimp only at hm ⊢
           unfold m_r06_Name_j11 at hm
           refine AWP.if_ false (by kernel_rfl) <| Sk <| Ino <| Tk 9 0 ⟨.s p0::tp 2 (.i c::tp 56 []), [], 0⟩ <| Tx <| Wm (.i c) rfl <| Wz (.i (W6 (c + 1))) (Obn rfl (fun _ => hb_add (k := .i64))) <| Wm (.i (W6 (c + 1))) rfl <| Wn0 <| RoundK.normal ?_
           exact Rounds.weak (Weak.toK 9 0 0 []) (ih_2 (fu_2, (W6 (c + 1))) hm (Nat.lt_succ_self _))
          refine Sx <| Wm (.b (decide (((d.toNat : Nat) : Int) ≤ 122))) rfl <| Wz (.b (!decide (((d.toNat : Nat) : Int) ≤ 122))) (Ocs (by kernel_rfl) (op_un rfl (a1 := .bool (decide (((d.toNat : Nat) : Int) ≤ 122))) (by kernel_rfl) (fun _ => hu_not))) ?_
          rcases br hm with ⟨n0, hm⟩ | ⟨n0, hm⟩
          · refine Wz (.b true) (Oq n0 rfl) <| Wm (.i c) rfl <| Wz (.b (decide (c = 0))) (Obn rfl (fun _ => hb_eql (k := .i64))) ?_
            rcases br hm with ⟨o0, hm⟩ | ⟨o0, hm⟩
            · refine Wz (.b true) (Oq o0 rfl) <| Wn <| Wn <| Wz (.b true) (OpT rfl) <| Wz (.b true) (OpT rfl) <| Nk 576460752303423497 0 ⟨.s p0::tp 2 (.i c::tp 55 (.b true::[])), [], 0⟩ <| AWP.if_ true (by kernel_rfl) <| Sx <| Wm (.b false) rfl <| Nn <| Rt <| Ir <| Tr <| RoundK.ret ?_
              refine Ir <| Tr ?_
              obtain rfl := sj hm
              exact ret_i []
            refine Wz (.b false) (Oq o0 rfl) <| Wm (.b true) rfl <| Wz (.b false) (Ocs (by kernel_rfl) (op_un rfl (a1 := .bool true) (by kernel_rfl) (fun _ => hu_not))) <| Wz (.b false) (OpF rfl) <| Wz (.b false) (OpT rfl) <| Nn ?_
            exact AWP.weak (Weak.toK 576460752303423497 0 0 []) (J11 () hm)
          refine Wz (.b false) (Oq n0 rfl) <| Wn <| Wn <| Wn <| Wn <| Wn <| Wn <| Wz (.b false) (OpF rfl) <| Nn ?_
          exact AWP.weak (Weak.toK 576460752303423497 0 0 []) (J11 () hm)
        refine Wz (.b false) (Oq m0 rfl) <| Wm (.s p0) rfl <| Wm (.i c) rfl ?_
        obtain ⟨e, q0, hm⟩ := bnd hm
        obtain ⟨t, u⟩ := geti_some q0
        refine Wz (.y e) (Ocs (by kernel_rfl) (op_index_str rfl (by kernel_rfl) (s := toS p0) (by kernel_rfl) (k := .i64) (iv := c) (by kernel_rfl) (i := (Int.toNat c)) (t) (b := e) (u))) <| Wz (.b (decide (((e.toNat : Nat) : Int) = 95))) (Ob2 (.int .u8 ((e.toNat : Nat) : Int)) (.int .u8 95) rfl (fun _ => hb_eql)) <| Wz (.b (decide (((e.toNat : Nat) : Int) = 95))) (OpF rfl) <| Wm (.b (decide (((e.toNat : Nat) : Int) = 95))) rfl <| Nn ?_
        exact AWP.weak (Weak.toK 57 0 0 []) (J6 (decide (((e.toNat : Nat) : Int) = 95)) hm)
      refine Wz (.b false) (Oq l0 rfl) <| Wn <| Wn <| Wn <| Wn <| Wz (.b false) (OpF rfl) <| Wm (.b false) rfl <| Wm (.s p0) rfl <| Wm (.i c) rfl ?_
      obtain ⟨e, q0, hm⟩ := bnd hm
      obtain ⟨t, u⟩ := geti_some q0
      refine Wz (.y e) (Ocs (by kernel_rfl) (op_index_str rfl (by kernel_rfl) (s := toS p0) (by kernel_rfl) (k := .i64) (iv := c) (by kernel_rfl) (i := (Int.toNat c)) (t) (b := e) (u))) <| Wz (.b (decide (((e.toNat : Nat) : Int) = 95))) (Ob2 (.int .u8 ((e.toNat : Nat) : Int)) (.int .u8 95) rfl (fun _ => hb_eql)) <| Wz (.b (decide (((e.toNat : Nat) : Int) = 95))) (OpF rfl) <| Wm (.b (decide (((e.toNat : Nat) : Int) = 95))) rfl <| Nn ?_
      exact AWP.weak (Weak.toK 57 0 0 []) (J6 (decide (((e.toNat : Nat) : Int) = 95)) hm)
    refine Wz (.b false) (Oq i0 rfl) <| Wn <| Wn <| Wn <| Wn <| Wz (.b false) (OpF rfl) <| Wm (.b false) rfl <| Nk 25 0 ⟨.s p0::tp 2 (.i c::.b false::tp 55 []), [], 0⟩ ?_
    refine AWP.cutJ (α := Bool) (fun x => match x with | g => (⟨.s p0::tp 2 (.i c::.b false::.b g::tp 54 []), [], 0⟩ : St)) (fun x => match x with | g => m_r06_Name_j10 c (fun c => m_r06_Name_l2 p0 fu_2 c) g = some r) ?_ (fun J10 => ?_)
    ·
     rintro g hm
     try dsimp only at hm ⊢
     unfold m_r06_Name_j10 at hm
     refine Sx <| Wm (.b false) rfl <| Wz (.b true) (Ocs (by kernel_rfl) (op_un rfl (a1 := .bool false) (by kernel_rfl) (fun _ => hu_not))) <| Wm (.b true) rfl <| Wm (.i c) rfl <| Wz (.b (decide (c = 0))) (Obn rfl (fun _ => hb_eql (k := .i64))) ?_
     rcases br hm with ⟨v, hm⟩ | ⟨v, hm⟩
     · refine Wz (.b true) (Oq v rfl) <| Wn <| Wn <| Wz (.b true) (OpT rfl) <| Wz (.b true) (OpT rfl) <| Nk 576460752303423497 0 ⟨.s p0::tp 2 (.i c::tp 55 (.b true::[])), [], 0⟩ <| AWP.if_ true (by kernel_rfl) <| Sx <| Wm (.b false) rfl <| Nn <| Rt <| Ir <| Tr <| RoundK.ret ?_
       refine Ir <| Tr ?_
       obtain rfl := sj hm
       exact ret_i []
     refine Wz (.b false) (Oq v rfl) <| Wm (.b g) rfl <| Wz (.b (!g)) (Ocs (by kernel_rfl) (op_un rfl (a1 := .bool g) (by kernel_rfl) (fun _ => hu_not))) <| Wz (.b (!g)) (OpF rfl) <| Wz (.b (!g)) (OpT rfl) <| Nk 576460752303423497 0 ⟨.s p0::tp 2 (.i c::tp 55 (.b (!g)::[])), [], 0⟩ ?_
     rcases br hm with ⟨z, hm⟩ | ⟨z, hm⟩
     · refine AiT z <| Sx <| Wm (.b false) rfl <| Nn <| Rt <| Ir <| Tr <| RoundK.ret <| Ir <| Tr ?_
       obtain rfl := sj hm
       exact ret_i []
     refine AiF z <| Sk <| Ino <| Tk 9 0 ⟨.s p0::tp 2 (.i c::tp 56 []), [], 0⟩ <| Tx <| Wm (.i c) rfl <| Wz (.i (W6 (c + 1))) (Obn rfl (fun _ => hb_add (k := .i64))) <| Wm (.i (W6 (c + 1))) rfl <| Wn0 <| RoundK.normal ?_
     exact Rounds.weak (Weak.toK 9 0 0 []) (ih_2 (fu_2, (W6 (c + 1))) hm (Nat.lt_succ_self _))
    refine Sx <| Wm (.s p0) rfl <| Wm (.i c) rfl ?_
    obtain ⟨g0, n1, hm⟩ := bnd hm
    obtain ⟨e1, f1⟩ := geti_some n1
    refine Wz (.y g0) (Ocs (by kernel_rfl) (op_index_str rfl (by kernel_rfl) (s := toS p0) (by kernel_rfl) (k := .i64) (iv := c) (by kernel_rfl) (i := (Int.toNat c)) (e1) (b := g0) (f1))) <| Wz (.b (decide ((48 : Int) ≤ ((g0.toNat : Nat) : Int)))) (Ob2 (.int .u8 ((g0.toNat : Nat) : Int)) (.int .u8 48) rfl (fun _ => hb_geq)) ?_
    rcases br hm with ⟨r0, hm⟩ | ⟨r0, hm⟩
    · refine Wz (.b true) (Oq r0 rfl) <| Wm (.s p0) rfl <| Wm (.i c) rfl ?_
      obtain ⟨m, o1, hm⟩ := bnd hm
      obtain ⟨g1, h1⟩ := geti_some o1
      refine Wz (.y m) (Ocs (by kernel_rfl) (op_index_str rfl (by kernel_rfl) (s := toS p0) (by kernel_rfl) (k := .i64) (iv := c) (by kernel_rfl) (i := (Int.toNat c)) (g1) (b := m) (h1))) <| Wz (.b (decide (((m.toNat : Nat) : Int) ≤ 57))) (Ob2 (.int .u8 ((m.toNat : Nat) : Int)) (.int .u8 57) rfl (fun _ => hb_leq)) <| Wz (.b (decide (((m.toNat : Nat) : Int) ≤ 57))) (OpT rfl) ?_
      rcases br hm with ⟨s0, hm⟩ | ⟨s0, hm⟩
      · refine Wz (.b true) (Oq s0 rfl) <| Wn <| Wn <| Wn <| Wn <| Wz (.b true) (OpT rfl) <| Wm (.b true) rfl <| Nk 57 0 ⟨.s p0::tp 2 (.i c::.b false::.b true::tp 54 []), [], 0⟩ <| Sx <| Wm (.b false) rfl <| Wz (.b true) (Ocs (by kernel_rfl) (op_un rfl (a1 := .bool false) (by kernel_rfl) (fun _ => hu_not))) <| Wm (.b true) rfl <| Wm (.i c) rfl <| Wz (.b (decide (c = 0))) (Obn rfl (fun _ => hb_eql (k := .i64))) ?_
        rcases br hm with ⟨a0, hm⟩ | ⟨a0, hm⟩
        · refine Wz (.b true) (Oq a0 rfl) <| Wn <| Wn <| Wz (.b true) (OpT rfl) <| Wz (.b true) (OpT rfl) <| Nk 576460752303423497 0 ⟨.s p0::tp 2 (.i c::tp 55 (.b true::[])), [], 0⟩ <| AWP.if_ true (by kernel_rfl) <| Sx <| Wm (.b false) rfl <| Nn <| Rt <| Ir <| Tr <| RoundK.ret ?_
          refine Ir <| Tr ?_
          obtain rfl := sj hm
          exact ret_i []
        refine Wz (.b false) (Oq a0 rfl) <| Wm (.b true) rfl <| Wz (.b false) (Ocs (by kernel_rfl) (op_un rfl (a1 := .bool true) (by kernel_rfl) (fun _ => hu_not))) <| Wz (.b false) (OpF rfl) <| Wz (.b false) (OpT rfl) <| Nk 576460752303423497 0 ⟨.s p0::tp 2 (.i c::tp 55 (.b false::[])), [], 0⟩ <| AWP.if_ false (by kernel_rfl) <| Sk <| Ino <| Tk 9 0 ⟨.s p0::tp 2 (.i c::tp 56 []), [], 0⟩ <| Tx <| Wm (.i c) rfl <| Wz (.i (W6 (c + 1))) (Obn rfl (fun _ => hb_add (k := .i64))) <| Wm (.i (W6 (c + 1))) rfl ?_
        refine Wn0 <| RoundK.normal ?_
        exact Rounds.weak (Weak.toK 9 0 0 []) (ih_2 (fu_2, (W6 (c + 1))) hm (Nat.lt_succ_self _))
      refine Wz (.b false) (Oq s0 rfl) <| Wm (.s p0) rfl <| Wm (.i c) rfl ?_
      obtain ⟨f, t0, hm⟩ := bnd hm
      obtain ⟨b0, c0⟩ := geti_some t0
      refine Wz (.y f) (Ocs (by kernel_rfl) (op_index_str rfl (by kernel_rfl) (s := toS p0) (by kernel_rfl) (k := .i64) (iv := c) (by kernel_rfl) (i := (Int.toNat c)) (b0) (b := f) (c0))) <| Wz (.b (decide (((f.toNat : Nat) : Int) = 95))) (Ob2 (.int .u8 ((f.toNat : Nat) : Int)) (.int .u8 95) rfl (fun _ => hb_eql)) <| Wz (.b (decide (((f.toNat : Nat) : Int) = 95))) (OpF rfl) <| Wm (.b (decide (((f.toNat : Nat) : Int) = 95))) rfl <| Nn ?_
      exact AWP.weak (Weak.toK 57 0 0 []) (J10 (decide (((f.toNat : Nat) : Int) = 95)) hm)
    refine Wz (.b false) (Oq r0 rfl) <| Wn <| Wn <| Wn <| Wn <| Wz (.b false) (OpF rfl) <| Wm (.b false) rfl <| Wm (.s p0) rfl <| Wm (.i c) rfl ?_
    obtain ⟨f, t0, hm⟩ := bnd hm
    obtain ⟨b0, c0⟩ := geti_some t0
    refine Wz (.y f) (Ocs (by kernel_rfl) (op_index_str rfl (by kernel_rfl) (s := toS p0) (by kernel_rfl) (k := .i64) (iv := c) (by kernel_rfl) (i := (Int.toNat c)) (b0) (b := f) (c0))) <| Wz (.b (decide (((f.toNat : Nat) : Int) = 95))) (Ob2 (.int .u8 ((f.toNat : Nat) : Int)) (.int .u8 95) rfl (fun _ => hb_eql)) <| Wz (.b (decide (((f.toNat : Nat) : Int) = 95))) (OpF rfl) <| Wm (.b (decide (((f.toNat : Nat) : Int) = 95))) rfl <| Nn ?_
    exact AWP.weak (Weak.toK 57 0 0 []) (J10 (decide (((f.toNat : Nat) : Int) = 95)) hm)
  refine AiF p <| AWP.exit <| Then.exit <| RoundK.exit <| InBlock.same <| Tk 0 0 ⟨tp 60 [], [], 0⟩ <| Sx <| Wm (.b true) rfl <| Nn <| Rt ?_
  obtain rfl := sj hm
  exact ret_i []

theorem ok_r11_may (p0 : UInt8) (p1 : Int) (r : Bool) (h : m_r11_may p0 p1 = some r) : GCall Try.prog 88 [(.y p0), (.i p1)] [] (.b r) [] := by
 refine GCall.of_body (n := 27) (rs := [(.tmp 4)]) Try.func88 rfl rfl rfl <| Ato ⟨.y p0::.i p1::tu 25 [], [], 0⟩ ?_
 have hm := h
 unfold m_r11_may at hm
 refine Sx <| Wm (.b false) rfl <| Nk 3 0 ⟨.y p0::.i p1::tp 25 [], [], 0⟩ <| Sq <| Sx <| Wm (.i p1) rfl <| Wz (.b (decide (p1 = 1))) (Obn rfl (fun _ => hb_eql (k := .i64))) <| Nk 67 0 ⟨.y p0::.i p1::tp 4 (.b (decide (p1 = 1))::tp 20 []), [], 0⟩ ?_
 rcases br hm with ⟨f, hm⟩ | ⟨f, hm⟩
 · refine AiT f <| Sx <| Wm (.y p0) rfl <| Wz (.b (decide ((1 : Int) ≤ ((p0.toNat : Nat) : Int)))) (Ob2 (.int .u8 ((p0.toNat : Nat) : Int)) (.int .u8 1) rfl (fun _ => hb_geq)) ?_
   rcases br hm with ⟨g, hm⟩ | ⟨g, hm⟩
   · refine Wz (.b true) (Oq g rfl) <| Wm (.y p0) rfl <| Wz (.b (decide (((p0.toNat : Nat) : Int) ≤ 4))) (Ob2 (.int .u8 ((p0.toNat : Nat) : Int)) (.int .u8 4) rfl (fun _ => hb_leq)) <| Wz (.b (decide (((p0.toNat : Nat) : Int) ≤ 4))) (OpT rfl) <| Wm (.b (decide (((p0.toNat : Nat) : Int) ≤ 4))) rfl <| Nn <| Rt <| Tr ?_
     obtain rfl := sj hm
     exact ret_i []
   refine Wz (.b false) (Oq g rfl) <| Wn <| Wn <| Wz (.b false) (OpF rfl) <| Wm (.b false) rfl <| Nn <| Rt <| Tr ?_
   obtain rfl := sj hm
   exact ret_i []
 refine AiF f <| Sk <| Tk 3 0 ⟨.y p0::.i p1::tp 25 [], [], 0⟩ <| Sq <| Sx <| Wm (.i p1) rfl <| Wz (.b (decide (p1 = 2))) (Obn rfl (fun _ => hb_eql (k := .i64))) <| Nk 16385 0 ⟨.y p0::tp 13 (.b (decide (p1 = 2))::tp 12 []), [], 0⟩ ?_
 rcases br hm with ⟨c, hm⟩ | ⟨c, hm⟩
 · refine AiT c <| Sx <| Wm (.y p0) rfl <| Wz (.b (decide ((5 : Int) ≤ ((p0.toNat : Nat) : Int)))) (Ob2 (.int .u8 ((p0.toNat : Nat) : Int)) (.int .u8 5) rfl (fun _ => hb_geq)) ?_
   rcases br hm with ⟨d, hm⟩ | ⟨d, hm⟩
   · refine Wz (.b true) (Oq d rfl) <| Wm (.y p0) rfl <| Wz (.b (decide (((p0.toNat : Nat) : Int) ≤ 9))) (Ob2 (.int .u8 ((p0.toNat : Nat) : Int)) (.int .u8 9) rfl (fun _ => hb_leq)) <| Wz (.b (decide (((p0.toNat : Nat) : Int) ≤ 9))) (OpT rfl) <| Wm (.b (decide (((p0.toNat : Nat) : Int) ≤ 9))) rfl <| Nn <| Rt <| Tr ?_
     obtain rfl := sj hm
     exact ret_i []
   refine Wz (.b false) (Oq d rfl) <| Wn <| Wn <| Wz (.b false) (OpF rfl) <| Wm (.b false) rfl <| Nn <| Rt <| Tr ?_
   obtain rfl := sj hm
   exact ret_i []
 refine AiF c <| Sk <| Tk 1 0 ⟨.y p0::tp 26 [], [], 0⟩ <| Sx <| Wm (.y p0) rfl <| Wz (.b (decide ((7 : Int) ≤ ((p0.toNat : Nat) : Int)))) (Ob2 (.int .u8 ((p0.toNat : Nat) : Int)) (.int .u8 7) rfl (fun _ => hb_geq)) ?_
 rcases br hm with ⟨e, hm⟩ | ⟨e, hm⟩
 · refine Wz (.b true) (Oq e rfl) <| Wm (.y p0) rfl <| Wz (.b (decide (((p0.toNat : Nat) : Int) ≤ 9))) (Ob2 (.int .u8 ((p0.toNat : Nat) : Int)) (.int .u8 9) rfl (fun _ => hb_leq)) <| Wz (.b (decide (((p0.toNat : Nat) : Int) ≤ 9))) (OpT rfl) <| Wm (.b (decide (((p0.toNat : Nat) : Int) ≤ 9))) rfl <| Nn <| Rt ?_
   obtain rfl := sj hm
   exact ret_i []
 refine Wz (.b false) (Oq e rfl) <| Wn <| Wn <| Wz (.b false) (OpF rfl) <| Wm (.b false) rfl <| Nn <| Rt ?_
 obtain rfl := sj hm
 exact ret_i []

theorem ok_r03_Exp (p0 : Int) (r : Int) (h : m_r03_Exp p0 = some r) : GCall Try.prog 98 [(.u p0)] [] (.i r) [] := by
 refine GCall.of_body (n := 7) (rs := [(.tmp 2)]) Try.func98 rfl rfl rfl <| Ato ⟨.u p0::tu 6 [], [], 0⟩ ?_
 have hm := h
 unfold m_r03_Exp at hm
 refine Sx <| Wm (.i 0) rfl <| Nk 1 0 ⟨.u p0::tp 6 [], [], 0⟩ <| Sx <| Wm (.u p0) rfl <| Wz (.u (W7 (Int.tdiv p0 4503599627370496))) (Ob2 (.int .u64 p0) (.int .u64 4503599627370496) rfl (fun _ => hb_quo (by decide))) <| Wz (.u (Int.tmod (W7 (Int.tdiv p0 4503599627370496)) 2048)) (Ob2 (.int .u64 (W7 (Int.tdiv p0 4503599627370496))) (.int .u64 2048) rfl (fun _ => hb_rem (by decide))) <| Wz (.i (W6 (Int.tmod (W7 (Int.tdiv p0 4503599627370496)) 2048))) (Oc2 (.int .u64 (Int.tmod (W7 (Int.tdiv p0 4503599627370496)) 2048)) rfl (run_conv (ds := .int .u64) (k' := .i64) (by kernel_rfl) (by kernel_rfl))) <| Wm (.i (W6 (Int.tmod (W7 (Int.tdiv p0 4503599627370496)) 2048))) rfl <| Nn <| Rt ?_
 obtain rfl := sj hm
 exact ret_i []

theorem ok_r03_Frac (p0 : Int) (r : Int) (h : m_r03_Frac p0 = some r) : GCall Try.prog 99 [(.u p0)] [] (.u r) [] := by
 refine GCall.of_body (n := 5) (rs := [(.tmp 2)]) Try.func99 rfl rfl rfl <| Ato ⟨.u p0::tu 4 [], [], 0⟩ ?_
 have hm := h
 unfold m_r03_Frac at hm
 refine Sx <| Wm (.u 0) rfl <| Nk 1 0 ⟨.u p0::tp 4 [], [], 0⟩ <| Sx <| Wm (.u p0) rfl <| Wz (.u (Int.tmod p0 4503599627370496)) (Ob2 (.int .u64 p0) (.int .u64 4503599627370496) rfl (fun _ => hb_rem (by decide))) <| Wm (.u (Int.tmod p0 4503599627370496)) rfl <| Nn <| Rt ?_
 obtain rfl := sj hm
 exact ret_i []

theorem ok_r03_Kind (p0 : Int) (r : UInt8) (h : m_r03_Kind p0 = some r) : GCall Try.prog 95 [(.u p0)] [] (.y r) [] := by
 refine GCall.of_body (n := 20) (rs := [(.tmp 2)]) Try.func95 rfl rfl rfl <| Ato ⟨.u p0::tu 19 [], [], 0⟩ ?_
 have hm := h
 unfold m_r03_Kind at hm
 refine Sx <| Wm (.y 0) rfl <| Nk 1 0 ⟨.u p0::tp 19 [], [], 0⟩ ?_
 refine AWP.cutJ (α := Unit) (fun x => match x with | () => (⟨.u p0::tp 19 [], [], 0⟩ : St)) (fun x => match x with | () => m_r03_Kind_j1 p0 = some r) ?_ (fun J1 => ?_)
 ·
  rintro ⟨⟩ hm
  try dsimp only at hm ⊢
  unfold m_r03_Kind_j1 at hm
  refine Sq <| Sx <| Wm (.u p0) rfl ?_
  obtain ⟨c, q, hm⟩ := bnd hm
  refine Wz (.i c) (Ocf [] [] [] 0 (ok_r03_Exp p0 c q) (fun a w => Try.call98 a w) rfl trivial) <| Wz (.b (decide (c = 2047))) (Obn rfl (fun _ => hb_eql (k := .i64))) <| Nk 8193 0 ⟨.u p0::tp 12 (.b (decide (c = 2047))::tp 6 []), [], 0⟩ ?_
  rcases br hm with ⟨f, hm⟩ | ⟨f, hm⟩
  · refine AiT f <| Sx <| Wm (.y 4) rfl <| Nn <| Rt <| Tr ?_
    obtain rfl := sj hm
    exact ret_i []
  refine AiF f <| Sk <| Tk 1 0 ⟨.u p0::tp 19 [], [], 0⟩ <| Sq <| Sx <| Wm (.u p0) rfl ?_
  obtain ⟨d, s, hm⟩ := bnd hm
  refine Wz (.i d) (Ocf [] [] [] 0 (ok_r03_Exp p0 d s) (fun a w => Try.call98 a w) rfl trivial) <| Wz (.b (decide (d ≠ 0))) (Obn rfl (fun _ => hb_neq (k := .i64))) <| Nk 65537 0 ⟨.u p0::tp 15 (.b (decide (d ≠ 0))::tp 3 []), [], 0⟩ ?_
  rcases br hm with ⟨g, hm⟩ | ⟨g, hm⟩
  · refine AiT g <| Sx <| Wm (.y 3) rfl <| Nn <| Rt <| Tr ?_
    obtain rfl := sj hm
    exact ret_i []
  refine AiF g <| Sk <| Tk 1 0 ⟨.u p0::tp 19 [], [], 0⟩ <| Sq <| Sx <| Wm (.u p0) rfl ?_
  obtain ⟨e, t, hm⟩ := bnd hm
  refine Wz (.u e) (Ocf [] [] [] 0 (ok_r03_Frac p0 e t) (fun a w => Try.call99 a w) rfl trivial) <| Wz (.b (decide (e ≠ 0))) (Obn rfl (fun _ => hb_neq (k := .u64))) <| Nk 524288 0 ⟨tp 19 (.b (decide (e ≠ 0))::[]), [], 0⟩ ?_
  rcases br hm with ⟨j, hm⟩ | ⟨j, hm⟩
  · refine AiT j <| Sx <| Wm (.y 2) rfl <| Nn <| Rt <| Tr ?_
    obtain rfl := sj hm
    exact ret_i []
  refine AiF j <| Sk <| Tk 0 0 ⟨tp 20 [], [], 0⟩ <| Sx <| Wm (.y 1) rfl <| Nn <| Rt ?_
  obtain rfl := sj hm
  exact ret_i []
 refine Sq <| Sx <| Wm (.u p0) rfl ?_
 obtain ⟨p, v, hm⟩ := bnd hm
 refine Wz (.i p) (Ocf [] [] [] 0 (ok_r03_Exp p0 p v) (fun a w => Try.call98 a w) rfl trivial) <| Wz (.b (decide (p = 2047))) (Obn rfl (fun _ => hb_eql (k := .i64))) ?_
 rcases br hm with ⟨o, hm⟩ | ⟨o, hm⟩
 · refine Wz (.b true) (Oq o rfl) <| Wm (.u p0) rfl ?_
   obtain ⟨l, z, hm⟩ := bnd hm
   refine Wz (.u l) (Ocf [] [] [] 0 (ok_r03_Frac p0 l z) (fun a w => Try.call99 a w) rfl trivial) <| Wz (.b (decide (l ≠ 0))) (Obn rfl (fun _ => hb_neq (k := .u64))) <| Wz (.b (decide (l ≠ 0))) (OpT rfl) <| Nk 1025 0 ⟨.u p0::tp 9 (.b (decide (l ≠ 0))::tp 9 []), [], 0⟩ ?_
   rcases br hm with ⟨m, hm⟩ | ⟨m, hm⟩
   · refine AiT m <| Sx <| Wm (.y 5) rfl <| Nn <| Rt <| Tr ?_
     obtain rfl := sj hm
     exact ret_i []
   refine AiF m <| Sk <| Tn ?_
   exact AWP.weak (Weak.toK 1 0 0 []) (J1 () hm)
 refine Wz (.b false) (Oq o rfl) <| Wn <| Wn <| Wn <| Wz (.b false) (OpF rfl) <| Nk 1025 0 ⟨.u p0::tp 9 (.b false::tp 9 []), [], 0⟩ <| AWP.if_ false (by kernel_rfl) <| Sk <| Tn ?_
 exact AWP.weak (Weak.toK 1 0 0 []) (J1 () hm)

theorem ok_r03_Clean (p0 : Int) (r : Int) (h : m_r03_Clean p0 = some r) : GCall Try.prog 81 [(.u p0)] [] (.u r) [] := by
 refine GCall.of_body (n := 7) (rs := [(.tmp 2)]) Try.func81 rfl rfl rfl <| Ato ⟨.u p0::tu 6 [], [], 0⟩ ?_
 have hm := h
 unfold m_r03_Clean at hm
 refine Sx <| Wm (.u 0) rfl <| Nk 1 0 ⟨.u p0::tp 6 [], [], 0⟩ <| Sq <| Sx <| Wm (.u p0) rfl ?_
 obtain ⟨c, e, hm⟩ := bnd hm
 refine Wz (.y c) (Ocf [] [] [] 0 (ok_r03_Kind p0 c e) (fun a w => Try.call95 a w) rfl trivial) <| Wz (.b (decide (((c.toNat : Nat) : Int) = 5))) (Ob2 (.int .u8 ((c.toNat : Nat) : Int)) (.int .u8 5) rfl (fun _ => hb_eql)) <| Nk 33 0 ⟨.u p0::tp 4 (.b (decide (((c.toNat : Nat) : Int) = 5))::tp 1 []), [], 0⟩ ?_
 rcases br hm with ⟨d, hm⟩ | ⟨d, hm⟩
 · refine AiT d <| Sx <| Wm (.u 9221120237041090560) rfl <| Nn <| Rt <| Tr ?_
   obtain rfl := sj hm
   exact ret_i []
 refine AiF d <| Sk <| Tk 1 0 ⟨.u p0::tp 6 [], [], 0⟩ <| Sx <| Wm (.u p0) rfl <| Wm (.u p0) rfl <| Nn <| Rt ?_
 obtain rfl := sj hm
 exact ret_i []

theorem ok_r04_Check (p0 : GValue) (r : Int) (h : m_r04_Check p0 = some r) : GCall Try.prog 66 [(.agg [(.y p0.Kind), (.i p0.N), (.u p0.Bits), (.s p0.Text)])] [] (.i r) [] := by
 refine GCall.of_body (n := 87) (rs := [(.tmp 2)]) Try.func66 rfl rfl rfl <| Ato ⟨.agg [(.y p0.Kind), (.i p0.N), (.u p0.Bits), (.s p0.Text)]::tu 86 [], [], 0⟩ ?_
 have hm := h
 unfold m_r04_Check at hm
 refine Sx <| Wy (.loc 0 0) [(0, (.box [(.y p0.Kind), (.i p0.N), (.u p0.Bits), (.s p0.Text)]))] (Obx rfl) <| Wm (.i 0) rfl <| Nk 2 1 ⟨tp 1 (.loc 0 0::tp 85 []), [(.box [(.y p0.Kind), (.i p0.N), (.u p0.Bits), (.s p0.Text)])], 0⟩ <| Sq <| Sx <| Wz (.loc 0 0) (Ofa rfl) <| Wz (.y p0.Kind) (Old rfl) <| Wz (.b (decide (((p0.Kind.toNat : Nat) : Int) < 1))) (Ob2 (.int .u8 ((p0.Kind.toNat : Nat) : Int)) (.int .u8 1) rfl (fun _ => hb_lss)) ?_
 rcases br hm with ⟨e0, hm⟩ | ⟨e0, hm⟩
 · refine Wz (.b true) (Oq e0 rfl) <| Wn <| Wn <| Wn <| Wz (.b true) (OpT rfl) <| Nk 1026 1 ⟨tp 1 (.loc 0 0::tp 8 (.b true::tp 76 [])), [(.box [(.y p0.Kind), (.i p0.N), (.u p0.Bits), (.s p0.Text)])], 0⟩ <| AWP.if_ true (by kernel_rfl) <| Sx <| Wm (.i 11) rfl <| Nn <| Rt <| Tr ?_
   obtain rfl := sj hm
   exact ret_i []
 refine Wz (.b false) (Oq e0 rfl) <| Wz (.loc 0 0) (Ofa rfl) <| Wz (.y p0.Kind) (Old rfl) <| Wz (.b (decide ((4 : Int) < ((p0.Kind.toNat : Nat) : Int)))) (Ob2 (.int .u8 ((p0.Kind.toNat : Nat) : Int)) (.int .u8 4) rfl (fun _ => hb_gtr)) <| Wz (.b (decide ((4 : Int) < ((p0.Kind.toNat : Nat) : Int)))) (OpF rfl) <| Nk 1026 1 ⟨tp 1 (.loc 0 0::tp 8 (.b (decide ((4 : Int) < ((p0.Kind.toNat : Nat) : Int)))::tp 76 [])), [(.box [(.y p0.Kind), (.i p0.N), (.u p0.Bits), (.s p0.Text)])], 0⟩ ?_
 rcases br hm with ⟨l, hm⟩ | ⟨l, hm⟩
 · refine AiT l <| Sx <| Wm (.i 11) rfl <| Nn <| Rt <| Tr ?_
   obtain rfl := sj hm
   exact ret_i []
 refine AiF l <| Sk <| Tk 2 1 ⟨tp 1 (.loc 0 0::tp 85 []), [(.box [(.y p0.Kind), (.i p0.N), (.u p0.Bits), (.s p0.Text)])], 0⟩ ?_
 refine AWP.cutJ (α := Unit) (fun x => match x with | () => (⟨tp 1 (.loc 0 0::tp 85 []), [(.box [(.y p0.Kind), (.i p0.N), (.u p0.Bits), (.s p0.Text)])], 0⟩ : St)) (fun x => match x with | () => m_r04_Check_j5 p0 = some r) ?_ (fun J5 => ?_)
 ·
  rintro ⟨⟩ hm
  try dsimp only at hm ⊢
  unfold m_r04_Check_j5 at hm
  refine AWP.cutJ (α := Unit) (fun x => match x with | () => (⟨tp 1 (.loc 0 0::tp 85 []), [(.box [(.y p0.Kind), (.i p0.N), (.u p0.Bits), (.s p0.Text)])], 0⟩ : St)) (fun x => match x with | () => m_r04_Check_j7 p0 = some r) ?_ (fun J7 => ?_)
  ·
   rintro ⟨⟩ hm
   try dsimp only at hm ⊢
   unfold m_r04_Check_j7 at hm
   refine AWP.cutJ (α := Unit) (fun x => match x with | () => (⟨tp 1 (.loc 0 0::tp 85 []), [(.box [(.y p0.Kind), (.i p0.N), (.u p0.Bits), (.s p0.Text)])], 0⟩ : St)) (fun x => match x with | () => m_r04_Check_j9 p0 = some r) ?_ (fun J9 => ?_)
   ·
    rintro ⟨⟩ hm
    try dsimp only at hm ⊢
    unfold m_r04_Check_j9 at hm
    refine Sq ?_
    refine AWP.cutJ (α := Unit) (fun x => match x with | () => (⟨tp 86 (.b true::[]), [], 0⟩ : St)) (fun x => match x with | () => m_r04_Check_j11  = some r) ?_ (fun J11 => ?_)
    ·
     rintro ⟨⟩ hm
     try dsimp only at hm ⊢
     unfold m_r04_Check_j11 at hm
     refine AWP.if_ true (by kernel_rfl) <| Sx <| Wm (.i 2) rfl <| Nn <| Rt <| Tr ?_
     obtain rfl := sj hm
     exact ret_i []
    refine AWP.cutJ (α := Unit) (fun x => match x with | () => (⟨tp 86 (.b (decide (p0.Text ≠ ([] : List UInt8)))::[]), [], 0⟩ : St)) (fun x => match x with | () => m_r04_Check_j12 p0 = some r) ?_ (fun J12 => ?_)
    ·
     rintro ⟨⟩ hm
     try dsimp only at hm ⊢
     unfold m_r04_Check_j12 at hm
     rcases br hm with ⟨m, hm⟩ | ⟨m, hm⟩
     · refine AiT m <| Sx <| Wm (.i 2) rfl <| Nn <| Rt <| Tr ?_
       obtain rfl := sj hm
       exact ret_i []
     refine AiF m <| Sk <| Tk 0 0 ⟨tp 87 [], [], 0⟩ <| Sx <| Wm (.i 0) rfl <| Nn <| Rt ?_
     obtain rfl := sj hm
     exact ret_i []
    refine AWP.cutJ (α := Unit) (fun x => match x with | () => (⟨tp 86 (.b false::[]), [], 0⟩ : St)) (fun x => match x with | () => m_r04_Check_j13  = some r) ?_ (fun J13 => ?_)
    ·
     rintro ⟨⟩ hm
     try dsimp only at hm ⊢
     unfold m_r04_Check_j13 at hm
     refine AWP.if_ false (by kernel_rfl) <| Sk <| Tk 0 0 ⟨tp 87 [], [], 0⟩ <| Sx <| Wm (.i 0) rfl <| Nn <| Rt ?_
     obtain rfl := sj hm
     exact ret_i []
    refine Sx <| Wz (.loc 0 0) (Ofa rfl) <| Wz (.y p0.Kind) (Old rfl) <| Wz (.b (decide ((2 : Int) < ((p0.Kind.toNat : Nat) : Int)))) (Ob2 (.int .u8 ((p0.Kind.toNat : Nat) : Int)) (.int .u8 2) rfl (fun _ => hb_gtr)) ?_
    rcases br hm with ⟨o, hm⟩ | ⟨o, hm⟩
    · refine Wz (.b true) (Oq o rfl) <| Wz (.loc 0 1) (Ofa rfl) <| Wz (.i p0.N) (Old rfl) <| Wz (.b (decide (p0.N ≠ 0))) (Obn rfl (fun _ => hb_neq (k := .i64))) <| Wz (.b (decide (p0.N ≠ 0))) (OpT rfl) ?_
      rcases br hm with ⟨p, hm⟩ | ⟨p, hm⟩
      · refine Wz (.b true) (Oq p rfl) <| Wn <| Wn <| Wn <| Wn <| Wn <| Wn <| Wn <| Wn <| Wz (.b true) (OpT rfl) <| Wm (.b true) rfl <| Wn <| Wn <| Wn ?_
        refine Wn <| Wn <| Wn <| Wn <| Wn <| Wz (.b true) (OpT rfl) <| Nn ?_
        exact AWP.weak (Weak.toK 77371252455336267181195264 0 0 []) (J11 () hm)
      refine Wz (.b false) (Oq p rfl) <| Wz (.loc 0 0) (Ofa rfl) <| Wz (.y p0.Kind) (Old rfl) <| Wz (.b (decide (((p0.Kind.toNat : Nat) : Int) ≠ 3))) (Ob2 (.int .u8 ((p0.Kind.toNat : Nat) : Int)) (.int .u8 3) rfl (fun _ => hb_neq)) ?_
      rcases br hm with ⟨d, hm⟩ | ⟨d, hm⟩
      · refine Wz (.b true) (Oq d rfl) <| Wz (.loc 0 2) (Ofa rfl) <| Wz (.u p0.Bits) (Old rfl) <| Wz (.b (decide (p0.Bits ≠ 0))) (Obn rfl (fun _ => hb_neq (k := .u64))) <| Wz (.b (decide (p0.Bits ≠ 0))) (OpT rfl) <| Wz (.b (decide (p0.Bits ≠ 0))) (OpF rfl) ?_
        rcases br hm with ⟨e, hm⟩ | ⟨e, hm⟩
        · refine Wz (.b true) (Oq e rfl) <| Wn <| Wn <| Wn <| Wn <| Wn <| Wn <| Wn <| Wn <| Wz (.b true) (OpT rfl) <| Nn ?_
          exact AWP.weak (Weak.toK 77371252455336267181195264 0 0 []) (J11 () hm)
        refine Wz (.b false) (Oq e rfl) <| Wz (.loc 0 0) (Ofa rfl) <| Wz (.y p0.Kind) (Old rfl) <| Wz (.b (decide (((p0.Kind.toNat : Nat) : Int) ≠ 4))) (Ob2 (.int .u8 ((p0.Kind.toNat : Nat) : Int)) (.int .u8 4) rfl (fun _ => hb_neq)) ?_
        rcases br hm with ⟨c, hm⟩ | ⟨c, hm⟩
        · refine Wz (.b true) (Oq c rfl) <| Wz (.loc 0 3) (Ofa rfl) <| Wz (.s p0.Text) (Old rfl) <| Wz (.b (decide (p0.Text ≠ ([] : List UInt8)))) (Ocs (lit_tf (by simp only [toS_inj, ne_eq])) (op_bin rfl (a1 := .string (toS p0.Text)) (a2 := .string (toS ([] : List UInt8))) (by kernel_rfl) (by kernel_rfl) (fun _ => hb_sneq))) <| Wz (.b (decide (p0.Text ≠ ([] : List UInt8)))) (OpT rfl) <| Wz (.b (decide (p0.Text ≠ ([] : List UInt8)))) (OpF rfl) <| Nn ?_
          exact AWP.weak (Weak.toK 77371252455336267181195264 0 0 []) (J12 () hm)
        refine Wz (.b false) (Oq c rfl) <| Wn <| Wn <| Wn <| Wz (.b false) (OpF rfl) <| Wz (.b false) (OpF rfl) <| Nn ?_
        exact AWP.weak (Weak.toK 77371252455336267181195264 0 0 []) (J13 () hm)
      refine Wz (.b false) (Oq d rfl) <| Wn <| Wn <| Wn <| Wz (.b false) (OpF rfl) <| Wz (.b false) (OpF rfl) <| Wm (.b false) rfl <| Wz (.loc 0 0) (Ofa rfl) <| Wz (.y p0.Kind) (Old rfl) <| Wz (.b (decide (((p0.Kind.toNat : Nat) : Int) ≠ 4))) (Ob2 (.int .u8 ((p0.Kind.toNat : Nat) : Int)) (.int .u8 4) rfl (fun _ => hb_neq)) ?_
      rcases br hm with ⟨c, hm⟩ | ⟨c, hm⟩
      · refine Wz (.b true) (Oq c rfl) <| Wz (.loc 0 3) (Ofa rfl) <| Wz (.s p0.Text) (Old rfl) <| Wz (.b (decide (p0.Text ≠ ([] : List UInt8)))) (Ocs (lit_tf (by simp only [toS_inj, ne_eq])) (op_bin rfl (a1 := .string (toS p0.Text)) (a2 := .string (toS ([] : List UInt8))) (by kernel_rfl) (by kernel_rfl) (fun _ => hb_sneq))) <| Wz (.b (decide (p0.Text ≠ ([] : List UInt8)))) (OpT rfl) <| Wz (.b (decide (p0.Text ≠ ([] : List UInt8)))) (OpF rfl) <| Nn ?_
        exact AWP.weak (Weak.toK 77371252455336267181195264 0 0 []) (J12 () hm)
      refine Wz (.b false) (Oq c rfl) <| Wn <| Wn <| Wn <| Wz (.b false) (OpF rfl) <| Wz (.b false) (OpF rfl) <| Nn ?_
      exact AWP.weak (Weak.toK 77371252455336267181195264 0 0 []) (J13 () hm)
    refine Wz (.b false) (Oq o rfl) <| Wn <| Wn <| Wn <| Wz (.b false) (OpF rfl) <| Wm (.b false) rfl <| Wz (.loc 0 0) (Ofa rfl) <| Wz (.y p0.Kind) (Old rfl) <| Wz (.b (decide (((p0.Kind.toNat : Nat) : Int) ≠ 3))) (Ob2 (.int .u8 ((p0.Kind.toNat : Nat) : Int)) (.int .u8 3) rfl (fun _ => hb_neq)) ?_
    rcases br hm with ⟨d, hm⟩ | ⟨d, hm⟩
    · refine Wz (.b true) (Oq d rfl) <| Wz (.loc 0 2) (Ofa rfl) <| Wz (.u p0.Bits) (Old rfl) <| Wz (.b (decide (p0.Bits ≠ 0))) (Obn rfl (fun _ => hb_neq (k := .u64))) <| Wz (.b (decide (p0.Bits ≠ 0))) (OpT rfl) <| Wz (.b (decide (p0.Bits ≠ 0))) (OpF rfl) ?_
      rcases br hm with ⟨e, hm⟩ | ⟨e, hm⟩
      · refine Wz (.b true) (Oq e rfl) <| Wn <| Wn <| Wn <| Wn <| Wn <| Wn <| Wn <| Wn <| Wz (.b true) (OpT rfl) <| Nn ?_
        exact AWP.weak (Weak.toK 77371252455336267181195264 0 0 []) (J11 () hm)
      refine Wz (.b false) (Oq e rfl) <| Wz (.loc 0 0) (Ofa rfl) <| Wz (.y p0.Kind) (Old rfl) <| Wz (.b (decide (((p0.Kind.toNat : Nat) : Int) ≠ 4))) (Ob2 (.int .u8 ((p0.Kind.toNat : Nat) : Int)) (.int .u8 4) rfl (fun _ => hb_neq)) ?_
      rcases br hm with ⟨c, hm⟩ | ⟨c, hm⟩
      · refine Wz (.b true) (Oq c rfl) <| Wz (.loc 0 3) (Ofa rfl) <| Wz (.s p0.Text) (Old rfl) <| Wz (.b (decide (p0.Text ≠ ([] : List UInt8)))) (Ocs (lit_tf (by simp only [toS_inj, ne_eq])) (op_bin rfl (a1 := .string (toS p0.Text)) (a2 := .string (toS ([] : List UInt8))) (by kernel_rfl) (by kernel_rfl) (fun _ => hb_sneq))) <| Wz (.b (decide (p0.Text ≠ ([] : List UInt8)))) (OpT rfl) <| Wz (.b (decide (p0.Text ≠ ([] : List UInt8)))) (OpF rfl) <| Nn ?_
        exact AWP.weak (Weak.toK 77371252455336267181195264 0 0 []) (J12 () hm)
      refine Wz (.b false) (Oq c rfl) <| Wn <| Wn <| Wn <| Wz (.b false) (OpF rfl) <| Wz (.b false) (OpF rfl) <| Nn ?_
      exact AWP.weak (Weak.toK 77371252455336267181195264 0 0 []) (J13 () hm)
    refine Wz (.b false) (Oq d rfl) <| Wn <| Wn <| Wn <| Wz (.b false) (OpF rfl) <| Wz (.b false) (OpF rfl) <| Wm (.b false) rfl <| Wz (.loc 0 0) (Ofa rfl) <| Wz (.y p0.Kind) (Old rfl) <| Wz (.b (decide (((p0.Kind.toNat : Nat) : Int) ≠ 4))) (Ob2 (.int .u8 ((p0.Kind.toNat : Nat) : Int)) (.int .u8 4) rfl (fun _ => hb_neq)) ?_
    rcases br hm with ⟨c, hm⟩ | ⟨c, hm⟩
    · refine Wz (.b true) (Oq c rfl) <| Wz (.loc 0 3) (Ofa rfl) <| Wz (.s p0.Text) (Old rfl) <| Wz (.b (decide (p0.Text ≠ ([] : List UInt8)))) (Ocs (lit_tf (by simp only [toS_inj, ne_eq])) (op_bin rfl (a1 := .string (toS p0.Text)) (a2 := .string (toS ([] : List UInt8))) (by kernel_rfl) (by kernel_rfl) (fun _ => hb_sneq))) <| Wz (.b (decide (p0.Text ≠ ([] : List UInt8)))) (OpT rfl) <| Wz (.b (decide (p0.Text ≠ ([] : List UInt8)))) (OpF rfl) <| Nn ?_
      exact AWP.weak (Weak.toK 77371252455336267181195264 0 0 []) (J12 () hm)
    refine Wz (.b false) (Oq c rfl) <| Wn <| Wn <| Wn <| Wz (.b false) (OpF rfl) <| Wz (.b false) (OpF rfl) <| Nn ?_
    exact AWP.weak (Weak.toK 77371252455336267181195264 0 0 []) (J13 () hm)
   refine Sq <| Sx <| Wz (.loc 0 0) (Ofa rfl) <| Wz (.y p0.Kind) (Old rfl) <| Wz (.b (decide (((p0.Kind.toNat : Nat) : Int) = 4))) (Ob2 (.int .u8 ((p0.Kind.toNat : Nat) : Int)) (.int .u8 4) rfl (fun _ => hb_eql)) ?_
   rcases br hm with ⟨v, hm⟩ | ⟨v, hm⟩
   · refine Wz (.b true) (Oq v rfl) <| Wz (.loc 0 3) (Ofa rfl) <| Wz (.s p0.Text) (Old rfl) <| Wz (.i ((List.length p0.Text : Nat) : Int)) (Oln rfl) <| Wz (.b (decide ((24 : Int) < ((List.length p0.Text : Nat) : Int)))) (Obn rfl (fun _ => hb_gtr (k := .i64))) <| Wz (.b (decide ((24 : Int) < ((List.length p0.Text : Nat) : Int)))) (OpT rfl) <| Nk 288230376151711746 1 ⟨tp 1 (.loc 0 0::tp 56 (.b (decide ((24 : Int) < ((List.length p0.Text : Nat) : Int)))::tp 28 [])), [(.box [(.y p0.Kind), (.i p0.N), (.u p0.Bits), (.s p0.Text)])], 0⟩ ?_
     rcases br hm with ⟨q, hm⟩ | ⟨q, hm⟩
     · refine AiT q <| Sx <| Wm (.i 5) rfl <| Nn <| Rt <| Tr ?_
       obtain rfl := sj hm
       exact ret_i []
     refine AiF q <| Sk <| Tn ?_
     exact AWP.weak (Weak.toK 2 0 0 [0]) (J9 () hm)
   refine Wz (.b false) (Oq v rfl) <| Wn <| Wn <| Wn <| Wn <| Wz (.b false) (OpF rfl) <| Nk 288230376151711746 1 ⟨tp 1 (.loc 0 0::tp 56 (.b false::tp 28 [])), [(.box [(.y p0.Kind), (.i p0.N), (.u p0.Bits), (.s p0.Text)])], 0⟩ <| AWP.if_ false (by kernel_rfl) <| Sk <| Tn ?_
   exact AWP.weak (Weak.toK 2 0 0 [0]) (J9 () hm)
  refine Sq <| Sq <| Adr <| Wz (.loc 0 0) (Ofa rfl) <| Wz (.y p0.Kind) (Old rfl) <| Wz (.b (decide (((p0.Kind.toNat : Nat) : Int) = 3))) (Ob2 (.int .u8 ((p0.Kind.toNat : Nat) : Int)) (.int .u8 3) rfl (fun _ => hb_eql)) ?_
  rcases br hm with ⟨z, hm⟩ | ⟨z, hm⟩
  · refine Wz (.b true) (Oq z rfl) <| Wz (.loc 0 2) (Ofa rfl) <| Wz (.u p0.Bits) (Old rfl) ?_
    obtain ⟨j, f0, hm⟩ := bnd hm
    refine Wz (.u j) (Ocf [] [] [] 0 (ok_r03_Clean p0.Bits j f0) (fun a w => Try.call81 a w) rfl trivial) <| Wz (.loc 0 2) (Ofa rfl) <| Wz (.u p0.Bits) (Old rfl) <| Wz (.b (decide (j ≠ p0.Bits))) (Obn rfl (fun _ => hb_neq (k := .u64))) <| Wz (.b (decide (j ≠ p0.Bits))) (OpT rfl) <| Wdr <| Tk 562949953421314 1 ⟨tp 1 (.loc 0 0::tp 47 (.b (decide (j ≠ p0.Bits))::tp 37 [])), [(.box [(.y p0.Kind), (.i p0.N), (.u p0.Bits), (.s p0.Text)])], 0⟩ ?_
    rcases br hm with ⟨t, hm⟩ | ⟨t, hm⟩
    · refine AiT t <| Sx <| Wm (.i 4) rfl <| Nn <| Rt <| Tr ?_
      obtain rfl := sj hm
      exact ret_i []
    refine AiF t <| Sk <| Tn ?_
    exact AWP.weak (Weak.toK 2 0 0 [0]) (J7 () hm)
  refine Wz (.b false) (Oq z rfl) <| Wn <| Wn <| Wn <| Wn <| Wn <| Wn <| Wz (.b false) (OpF rfl) <| Wdr <| Tk 562949953421314 1 ⟨tp 1 (.loc 0 0::tp 47 (.b false::tp 37 [])), [(.box [(.y p0.Kind), (.i p0.N), (.u p0.Bits), (.s p0.Text)])], 0⟩ <| AWP.if_ false (by kernel_rfl) <| Sk <| Tn ?_
  exact AWP.weak (Weak.toK 2 0 0 [0]) (J7 () hm)
 refine Sq ?_
 refine AWP.cutJ (α := Unit) (fun x => match x with | () => (⟨tp 1 (.loc 0 0::tp 36 (.b true::tp 48 [])), [(.box [(.y p0.Kind), (.i p0.N), (.u p0.Bits), (.s p0.Text)])], 0⟩ : St)) (fun x => match x with | () => m_r04_Check_j2  = some r) ?_ (fun J2 => ?_)
 ·
  rintro ⟨⟩ hm
  try dsimp only at hm ⊢
  unfold m_r04_Check_j2 at hm
  refine AWP.if_ true (by kernel_rfl) <| Sx <| Wm (.i 8) rfl <| Nn <| Rt <| Tr ?_
  obtain rfl := sj hm
  exact ret_i []
 refine AWP.cutJ (α := Unit) (fun x => match x with | () => (⟨tp 1 (.loc 0 0::tp 36 (.b (decide ((1 : Int) < p0.N))::tp 48 [])), [(.box [(.y p0.Kind), (.i p0.N), (.u p0.Bits), (.s p0.Text)])], 0⟩ : St)) (fun x => match x with | () => m_r04_Check_j3 p0 = some r) ?_ (fun J3 => ?_)
 ·
  rintro ⟨⟩ hm
  try dsimp only at hm ⊢
  unfold m_r04_Check_j3 at hm
  rcases br hm with ⟨a0, hm⟩ | ⟨a0, hm⟩
  · refine AiT a0 <| Sx <| Wm (.i 8) rfl <| Nn <| Rt <| Tr ?_
    obtain rfl := sj hm
    exact ret_i []
  refine AiF a0 <| Sk <| Tn ?_
  exact AWP.weak (Weak.toK 2 0 0 [0]) (J5 () hm)
 refine AWP.cutJ (α := Unit) (fun x => match x with | () => (⟨tp 1 (.loc 0 0::tp 36 (.b false::tp 48 [])), [(.box [(.y p0.Kind), (.i p0.N), (.u p0.Bits), (.s p0.Text)])], 0⟩ : St)) (fun x => match x with | () => m_r04_Check_j4 p0 = some r) ?_ (fun J4 => ?_)
 ·
  rintro ⟨⟩ hm
  try dsimp only at hm ⊢
  unfold m_r04_Check_j4 at hm
  refine AWP.if_ false (by kernel_rfl) <| Sk <| Tn ?_
  exact AWP.weak (Weak.toK 2 0 0 [0]) (J5 () hm)
 refine Sx <| Wz (.loc 0 0) (Ofa rfl) <| Wz (.y p0.Kind) (Old rfl) <| Wz (.b (decide (((p0.Kind.toNat : Nat) : Int) = 1))) (Ob2 (.int .u8 ((p0.Kind.toNat : Nat) : Int)) (.int .u8 1) rfl (fun _ => hb_eql)) ?_
 rcases br hm with ⟨b0, hm⟩ | ⟨b0, hm⟩
 · refine Wz (.b true) (Oq b0 rfl) <| Wz (.loc 0 1) (Ofa rfl) <| Wz (.i p0.N) (Old rfl) <| Wz (.b (decide (p0.N < (-4611686018427387904)))) (Obn rfl (fun _ => hb_lss (k := .i64))) ?_
   rcases br hm with ⟨c0, hm⟩ | ⟨c0, hm⟩
   · refine Wz (.b true) (Oq c0 rfl) <| Wn <| Wn <| Wn <| Wz (.b true) (OpT rfl) <| Wz (.b true) (OpT rfl) <| Wm (.b true) rfl <| Wn <| Wn <| Wn <| Wn <| Wn <| Wn <| Wn ?_
     refine Wn <| Wn <| Wn <| Wn <| Wn <| Wn <| Wz (.b true) (OpT rfl) <| Nn ?_
     exact AWP.weak (Weak.toK 274877906946 0 0 [0]) (J2 () hm)
   refine Wz (.b false) (Oq c0 rfl) <| Wz (.loc 0 1) (Ofa rfl) <| Wz (.i p0.N) (Old rfl) <| Wz (.b (decide ((4611686018427387904 : Int) < p0.N))) (Obn rfl (fun _ => hb_gtr (k := .i64))) <| Wz (.b (decide ((4611686018427387904 : Int) < p0.N))) (OpF rfl) <| Wz (.b (decide ((4611686018427387904 : Int) < p0.N))) (OpT rfl) ?_
   rcases br hm with ⟨d0, hm⟩ | ⟨d0, hm⟩
   · refine Wz (.b true) (Oq d0 rfl) <| Wn <| Wn <| Wn <| Wn <| Wn <| Wn <| Wn <| Wn <| Wn <| Wn <| Wn <| Wn <| Wn ?_
     refine Wz (.b true) (OpT rfl) <| Nn ?_
     exact AWP.weak (Weak.toK 274877906946 0 0 [0]) (J2 () hm)
   refine Wz (.b false) (Oq d0 rfl) <| Wz (.loc 0 0) (Ofa rfl) <| Wz (.y p0.Kind) (Old rfl) <| Wz (.b (decide (((p0.Kind.toNat : Nat) : Int) = 2))) (Ob2 (.int .u8 ((p0.Kind.toNat : Nat) : Int)) (.int .u8 2) rfl (fun _ => hb_eql)) ?_
   rcases br hm with ⟨f, hm⟩ | ⟨f, hm⟩
   · refine Wz (.b true) (Oq f rfl) <| Wz (.loc 0 1) (Ofa rfl) <| Wz (.i p0.N) (Old rfl) <| Wz (.b (decide (p0.N < 0))) (Obn rfl (fun _ => hb_lss (k := .i64))) ?_
     rcases br hm with ⟨g, hm⟩ | ⟨g, hm⟩
     · refine Wz (.b true) (Oq g rfl) <| Wn <| Wn <| Wn <| Wz (.b true) (OpT rfl) <| Wz (.b true) (OpT rfl) <| Wz (.b true) (OpF rfl) <| Nn ?_
       exact AWP.weak (Weak.toK 274877906946 0 0 [0]) (J2 () hm)
     refine Wz (.b false) (Oq g rfl) <| Wz (.loc 0 1) (Ofa rfl) <| Wz (.i p0.N) (Old rfl) <| Wz (.b (decide ((1 : Int) < p0.N))) (Obn rfl (fun _ => hb_gtr (k := .i64))) <| Wz (.b (decide ((1 : Int) < p0.N))) (OpF rfl) <| Wz (.b (decide ((1 : Int) < p0.N))) (OpT rfl) <| Wz (.b (decide ((1 : Int) < p0.N))) (OpF rfl) <| Nn ?_
     exact AWP.weak (Weak.toK 274877906946 0 0 [0]) (J3 () hm)
   refine Wz (.b false) (Oq f rfl) <| Wn <| Wn <| Wn <| Wn <| Wn <| Wn <| Wn <| Wn <| Wz (.b false) (OpF rfl) <| Wz (.b false) (OpF rfl) <| Nn ?_
   exact AWP.weak (Weak.toK 274877906946 0 0 [0]) (J4 () hm)
 refine Wz (.b false) (Oq b0 rfl) <| Wn <| Wn <| Wn <| Wn <| Wn <| Wn <| Wn <| Wn <| Wz (.b false) (OpF rfl) <| Wm (.b false) rfl <| Wz (.loc 0 0) (Ofa rfl) <| Wz (.y p0.Kind) (Old rfl) <| Wz (.b (decide (((p0.Kind.toNat : Nat) : Int) = 2))) (Ob2 (.int .u8 ((p0.Kind.toNat : Nat) : Int)) (.int .u8 2) rfl (fun _ => hb_eql)) ?_
 rcases br hm with ⟨f, hm⟩ | ⟨f, hm⟩
 · refine Wz (.b true) (Oq f rfl) <| Wz (.loc 0 1) (Ofa rfl) <| Wz (.i p0.N) (Old rfl) <| Wz (.b (decide (p0.N < 0))) (Obn rfl (fun _ => hb_lss (k := .i64))) ?_
   rcases br hm with ⟨g, hm⟩ | ⟨g, hm⟩
   · refine Wz (.b true) (Oq g rfl) <| Wn <| Wn <| Wn <| Wz (.b true) (OpT rfl) <| Wz (.b true) (OpT rfl) <| Wz (.b true) (OpF rfl) <| Nn ?_
     exact AWP.weak (Weak.toK 274877906946 0 0 [0]) (J2 () hm)
   refine Wz (.b false) (Oq g rfl) <| Wz (.loc 0 1) (Ofa rfl) <| Wz (.i p0.N) (Old rfl) <| Wz (.b (decide ((1 : Int) < p0.N))) (Obn rfl (fun _ => hb_gtr (k := .i64))) <| Wz (.b (decide ((1 : Int) < p0.N))) (OpF rfl) <| Wz (.b (decide ((1 : Int) < p0.N))) (OpT rfl) <| Wz (.b (decide ((1 : Int) < p0.N))) (OpF rfl) <| Nn ?_
   exact AWP.weak (Weak.toK 274877906946 0 0 [0]) (J3 () hm)
 refine Wz (.b false) (Oq f rfl) <| Wn <| Wn <| Wn <| Wn <| Wn <| Wn <| Wn <| Wn <| Wz (.b false) (OpF rfl) <| Wz (.b false) (OpF rfl) <| Nn ?_
 exact AWP.weak (Weak.toK 274877906946 0 0 [0]) (J4 () hm)
end Go.Proofs.Ytdpmojhejidhiaa.K
