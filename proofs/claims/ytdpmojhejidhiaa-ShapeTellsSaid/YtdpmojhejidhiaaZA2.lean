/- what telltalelaw13.ShapeTells needs (2) -/
import Derived.Test.YtdpmojhejidhiaaZA1
set_option linter.unusedVariables false
set_option linter.unusedSimpArgs false
namespace Go.Proofs.Ytdpmojhejidhiaa.K
open Go.RowKit Go.Lib
set_option maxRecDepth 20000
set_option maxHeartbeats 4000000

theorem ok_r11_needs (p0 : GNode_) (r : Int) (h : m_r11_needs p0 = some r) : GCall Try.prog 89 [(.agg [(.y p0.Kind), (.y p0.Op), (.s p0.Var), (.s p0.Name), (.y p0.Val.Kind), (.i p0.Val.N), (.u p0.Val.Bits), (.s p0.Val.Text)])] [] (.i r) [] := by
 refine GCall.of_body (n := 102) (rs := [(.tmp 2)]) Try.func89 rfl rfl rfl <| Ato ⟨.agg [(.y p0.Kind), (.y p0.Op), (.s p0.Var), (.s p0.Name), (.y p0.Val.Kind), (.i p0.Val.N), (.u p0.Val.Bits), (.s p0.Val.Text)]::tu 101 [], [], 0⟩ ?_
 have hm := h
 unfold m_r11_needs at hm
 refine Sx <| Wy (.loc 0 0) [(0, (.box [(.y p0.Kind), (.y p0.Op), (.s p0.Var), (.s p0.Name), (.y p0.Val.Kind), (.i p0.Val.N), (.u p0.Val.Bits), (.s p0.Val.Text)]))] (Obx rfl) <| Wm (.i 0) rfl <| Nk 2 1 ⟨tp 1 (.loc 0 0::tp 100 []), [(.box [(.y p0.Kind), (.y p0.Op), (.s p0.Var), (.s p0.Name), (.y p0.Val.Kind), (.i p0.Val.N), (.u p0.Val.Bits), (.s p0.Val.Text)])], 0⟩ <| Sx <| Wz (.agg [(.y 0), (.i 0), (.u 0), (.s ([] : List UInt8))]) (Obd rfl) <| Wy (.loc 1 0) [(1, (.box [(.y 0), (.i 0), (.u 0), (.s ([] : List UInt8))]))] (Oal rfl) <| Wy (.tup []) [(1, (.box [(.y 0), (.i 0), (.u 0), (.s ([] : List UInt8))]))] (Ost rfl) <| Nk 10 3 ⟨tp 1 (.loc 0 0::tp 1 (.loc 1 0::tp 98 [])), [(.box [(.y p0.Kind), (.y p0.Op), (.s p0.Var), (.s p0.Name), (.y p0.Val.Kind), (.i p0.Val.N), (.u p0.Val.Bits), (.s p0.Val.Text)]), (.box [(.y 0), (.i 0), (.u 0), (.s ([] : List UInt8))])], 0⟩ ?_
 refine AWP.cutJ (α := Unit) (fun x => match x with | () => (⟨tp 1 (.loc 0 0::tp 1 (.loc 1 0::.b true::tp 97 [])), [(.box [(.y p0.Kind), (.y p0.Op), (.s p0.Var), (.s p0.Name), (.y p0.Val.Kind), (.i p0.Val.N), (.u p0.Val.Bits), (.s p0.Val.Text)]), (.box [(.y 0), (.i 0), (.u 0), (.s ([] : List UInt8))])], 0⟩ : St)) (fun x => match x with | () => m_r11_needs_j1  = some r) ?_ (fun J1 => ?_)
 ·
  rintro ⟨⟩ hm
  try dsimp only at hm ⊢
  unfold m_r11_needs_j1 at hm
  refine Sq <| Sx <| Wm (.b true) rfl <| Nk 144115188075855882 3 ⟨tp 1 (.loc 0 0::tp 1 (.loc 1 0::tp 53 (.b true::tp 44 []))), [(.box [(.y p0.Kind), (.y p0.Op), (.s p0.Var), (.s p0.Name), (.y p0.Val.Kind), (.i p0.Val.N), (.u p0.Val.Bits), (.s p0.Val.Text)]), (.box [(.y 0), (.i 0), (.u 0), (.s ([] : List UInt8))])], 0⟩ <| AWP.if_ true (by kernel_rfl) <| Sx <| Wm (.i 4) rfl <| Nn <| Rt <| Tr ?_
  obtain rfl := sj hm
  exact ret_i []
 refine AWP.cutJ (α := Bool) (fun x => match x with | u0 => (⟨tp 1 (.loc 0 0::tp 1 (.loc 1 0::.b u0::tp 97 [])), [(.box [(.y p0.Kind), (.y p0.Op), (.s p0.Var), (.s p0.Name), (.y p0.Val.Kind), (.i p0.Val.N), (.u p0.Val.Bits), (.s p0.Val.Text)]), (.box [(.y 0), (.i 0), (.u 0), (.s ([] : List UInt8))])], 0⟩ : St)) (fun x => match x with | u0 => m_r11_needs_j2 p0 u0 = some r) ?_ (fun J2 => ?_)
 ·
  rintro u0 hm
  try dsimp only at hm ⊢
  unfold m_r11_needs_j2 at hm
  refine Sq <| Sx <| Wm (.b u0) rfl <| Nk 144115188075855882 3 ⟨tp 1 (.loc 0 0::tp 1 (.loc 1 0::tp 53 (.b u0::tp 44 []))), [(.box [(.y p0.Kind), (.y p0.Op), (.s p0.Var), (.s p0.Name), (.y p0.Val.Kind), (.i p0.Val.N), (.u p0.Val.Bits), (.s p0.Val.Text)]), (.box [(.y 0), (.i 0), (.u 0), (.s ([] : List UInt8))])], 0⟩ ?_
  rcases br hm with ⟨v0, hm⟩ | ⟨v0, hm⟩
  · refine AiT v0 <| Sx <| Wm (.i 4) rfl <| Nn <| Rt <| Tr ?_
    obtain rfl := sj hm
    exact ret_i []
  refine AiF v0 <| Sk <| Tk 10 3 ⟨tp 1 (.loc 0 0::tp 1 (.loc 1 0::tp 98 [])), [(.box [(.y p0.Kind), (.y p0.Op), (.s p0.Var), (.s p0.Name), (.y p0.Val.Kind), (.i p0.Val.N), (.u p0.Val.Bits), (.s p0.Val.Text)]), (.box [(.y 0), (.i 0), (.u 0), (.s ([] : List UInt8))])], 0⟩ <| Sq ?_
  refine AWP.cutJ (α := Unit) (fun x => match x with | () => (⟨tp 101 (.b true::[]), [], 0⟩ : St)) (fun x => match x with | () => m_r11_needs_j5  = some r) ?_ (fun J5 => ?_)
  ·
   rintro ⟨⟩ hm
   try dsimp only at hm ⊢
   unfold m_r11_needs_j5 at hm
   refine AWP.if_ true (by kernel_rfl) <| Sx <| Wm (.i 2) rfl <| Nn <| Rt <| Tr ?_
   obtain rfl := sj hm
   exact ret_i []
  refine AWP.cutJ (α := Bool) (fun x => match x with | t0 => (⟨tp 101 (.b t0::[]), [], 0⟩ : St)) (fun x => match x with | t0 => m_r11_needs_j6  t0 = some r) ?_ (fun J6 => ?_)
  ·
   rintro t0 hm
   try dsimp only at hm ⊢
   unfold m_r11_needs_j6 at hm
   rcases br hm with ⟨w0, hm⟩ | ⟨w0, hm⟩
   · refine AiT w0 <| Sx <| Wm (.i 2) rfl <| Nn <| Rt <| Tr ?_
     obtain rfl := sj hm
     exact ret_i []
   refine AiF w0 <| Sk <| Tk 0 0 ⟨tp 102 [], [], 0⟩ <| Sx <| Wm (.i 0) rfl <| Nn <| Rt ?_
   obtain rfl := sj hm
   exact ret_i []
  refine AWP.cutJ (α := Unit) (fun x => match x with | () => (⟨tp 101 (.b false::[]), [], 0⟩ : St)) (fun x => match x with | () => m_r11_needs_j7  = some r) ?_ (fun J7 => ?_)
  ·
   rintro ⟨⟩ hm
   try dsimp only at hm ⊢
   unfold m_r11_needs_j7 at hm
   refine AWP.if_ false (by kernel_rfl) <| Sk <| Tk 0 0 ⟨tp 102 [], [], 0⟩ <| Sx <| Wm (.i 0) rfl <| Nn <| Rt ?_
   obtain rfl := sj hm
   exact ret_i []
  refine Sx <| Wz (.loc 0 0) (Ofa rfl) <| Wz (.y p0.Kind) (Old rfl) <| Wz (.b (decide (((p0.Kind.toNat : Nat) : Int) ≠ 4))) (Ob2 (.int .u8 ((p0.Kind.toNat : Nat) : Int)) (.int .u8 4) rfl (fun _ => hb_neq)) ?_
  rcases br hm with ⟨x0, hm⟩ | ⟨x0, hm⟩
  · refine Wz (.b true) (Oq x0 rfl) <| Wz (.loc 0 1) (Ofa rfl) <| Wz (.y p0.Op) (Old rfl) <| Wz (.b (decide (((p0.Op.toNat : Nat) : Int) ≠ 0))) (Ob2 (.int .u8 ((p0.Op.toNat : Nat) : Int)) (.int .u8 0) rfl (fun _ => hb_neq)) <| Wz (.b (decide (((p0.Op.toNat : Nat) : Int) ≠ 0))) (OpT rfl) ?_
    rcases br hm with ⟨y0, hm⟩ | ⟨y0, hm⟩
    · refine Wz (.b true) (Oq y0 rfl) <| Wn <| Wn <| Wn <| Wn <| Wn <| Wn <| Wn <| Wn <| Wn <| Wn <| Wn <| Wn <| Wn ?_
      refine Wz (.b true) (OpT rfl) <| Wm (.b true) rfl <| Wn <| Wn <| Wn <| Wn <| Wn <| Wn <| Wn <| Wn <| Wz (.b true) (OpT rfl) <| Wm (.b true) rfl <| Wn <| Wn ?_
      refine Wn <| Wn <| Wn <| Wn <| Wn <| Wn <| Wn <| Wz (.b true) (OpT rfl) <| Nn ?_
      exact AWP.weak (Weak.toK 2535301200456458802993406410752 0 0 []) (J5 () hm)
    refine Wz (.b false) (Oq y0 rfl) <| Wz (.loc 0 0) (Ofa rfl) <| Wz (.y p0.Kind) (Old rfl) <| Wz (.b (decide (((p0.Kind.toNat : Nat) : Int) ≠ 7))) (Ob2 (.int .u8 ((p0.Kind.toNat : Nat) : Int)) (.int .u8 7) rfl (fun _ => hb_neq)) ?_
    rcases br hm with ⟨h0, hm⟩ | ⟨h0, hm⟩
    · refine Wz (.b true) (Oq h0 rfl) <| Wz (.loc 0 0) (Ofa rfl) <| Wz (.y p0.Kind) (Old rfl) <| Wz (.b (decide (((p0.Kind.toNat : Nat) : Int) ≠ 8))) (Ob2 (.int .u8 ((p0.Kind.toNat : Nat) : Int)) (.int .u8 8) rfl (fun _ => hb_neq)) <| Wz (.b (decide (((p0.Kind.toNat : Nat) : Int) ≠ 8))) (OpT rfl) ?_
      rcases br hm with ⟨i0, hm⟩ | ⟨i0, hm⟩
      · refine Wz (.b true) (Oq i0 rfl) <| Wz (.loc 0 3) (Ofa rfl) <| Wz (.s p0.Name) (Old rfl) <| Wz (.b (decide (p0.Name ≠ ([] : List UInt8)))) (Ocs (lit_tf (by simp only [toS_inj, ne_eq])) (op_bin rfl (a1 := .string (toS p0.Name)) (a2 := .string (toS ([] : List UInt8))) (by kernel_rfl) (by kernel_rfl) (fun _ => hb_sneq))) <| Wz (.b (decide (p0.Name ≠ ([] : List UInt8)))) (OpT rfl) <| Wz (.b (decide (p0.Name ≠ ([] : List UInt8)))) (OpF rfl) ?_
        rcases br hm with ⟨j0, hm⟩ | ⟨j0, hm⟩
        · refine Wz (.b true) (Oq j0 rfl) <| Wn <| Wn <| Wn <| Wn <| Wn <| Wn <| Wn <| Wn <| Wz (.b true) (OpT rfl) <| Wm (.b true) rfl <| Wn <| Wn <| Wn ?_
          refine Wn <| Wn <| Wn <| Wn <| Wn <| Wn <| Wz (.b true) (OpT rfl) <| Nn ?_
          exact AWP.weak (Weak.toK 2535301200456458802993406410752 0 0 []) (J5 () hm)
        refine Wz (.b false) (Oq j0 rfl) <| Wz (.loc 0 0) (Ofa rfl) <| Wz (.y p0.Kind) (Old rfl) <| Wz (.b (decide (((p0.Kind.toNat : Nat) : Int) ≠ 8))) (Ob2 (.int .u8 ((p0.Kind.toNat : Nat) : Int)) (.int .u8 8) rfl (fun _ => hb_neq)) ?_
        rcases br hm with ⟨q, hm⟩ | ⟨q, hm⟩
        · refine Wz (.b true) (Oq q rfl) <| Wz (.loc 0 2) (Ofa rfl) <| Wz (.s p0.Var) (Old rfl) <| Wz (.b (decide (p0.Var ≠ ([] : List UInt8)))) (Ocs (lit_tf (by simp only [toS_inj, ne_eq])) (op_bin rfl (a1 := .string (toS p0.Var)) (a2 := .string (toS ([] : List UInt8))) (by kernel_rfl) (by kernel_rfl) (fun _ => hb_sneq))) <| Wz (.b (decide (p0.Var ≠ ([] : List UInt8)))) (OpT rfl) <| Wz (.b (decide (p0.Var ≠ ([] : List UInt8)))) (OpF rfl) ?_
          rcases br hm with ⟨t, hm⟩ | ⟨t, hm⟩
          · refine Wz (.b true) (Oq t rfl) <| Wn <| Wn <| Wn <| Wn <| Wn <| Wn <| Wn <| Wn <| Wn <| Wz (.b true) (OpT rfl) <| Nn ?_
            exact AWP.weak (Weak.toK 2535301200456458802993406410752 0 0 []) (J5 () hm)
          refine Wz (.b false) (Oq t rfl) <| Wz (.loc 0 0) (Ofa rfl) <| Wz (.y p0.Kind) (Old rfl) <| Wz (.b (decide (((p0.Kind.toNat : Nat) : Int) ≠ 9))) (Ob2 (.int .u8 ((p0.Kind.toNat : Nat) : Int)) (.int .u8 9) rfl (fun _ => hb_neq)) ?_
          rcases br hm with ⟨g, hm⟩ | ⟨g, hm⟩
          · refine Wz (.b true) (Oq g rfl) <| Wz (.loc 0 4) (Ofa rfl) <| Wz (.agg [(.y p0.Val.Kind), (.i p0.Val.N), (.u p0.Val.Bits), (.s p0.Val.Text)]) (Old rfl) <| Wz (.agg [(.y 0), (.i 0), (.u 0), (.s ([] : List UInt8))]) (Old rfl) ?_
            obtain ⟨e, j, hm⟩ := bnd hm; replace j := Option.some.inj j
            refine Wz (.b e) (Ocs (Eq.trans (lit_tf (by simp only [toS_inj])) (congrArg (fun z => A.d (.lit (.bool z))) j)) (op_neq_struct rfl (la := [(.y p0.Val.Kind), (.i p0.Val.N), (.u p0.Val.Bits), (.s p0.Val.Text)]) (lb := [(.y 0), (.i 0), (.u 0), (.s ([] : List UInt8))]) (us := [.int .u8 ((p0.Val.Kind.toNat : Nat) : Int), .int .i64 p0.Val.N, .int .u64 p0.Val.Bits, .string (toS p0.Val.Text)]) (vs := [.int .u8 0, .int .i64 0, .int .u64 0, .string (toS ([] : List UInt8))]) (r := (decide (((p0.Val.Kind.toNat : Nat) : Int) = 0) && (decide (p0.Val.N = 0) && (decide (p0.Val.Bits = 0) && (decide ((toS p0.Val.Text) = (toS ([] : List UInt8))) && true))))) (by kernel_rfl) (by kernel_rfl) (by kernel_rfl) (by kernel_rfl) (by kernel_rfl))) <| Wz (.b e) (OpT rfl) <| Wz (.b e) (OpF rfl) <| Nn ?_
            exact AWP.weak (Weak.toK 2535301200456458802993406410752 0 0 []) (J6 (e) hm)
          refine Wz (.b false) (Oq g rfl) <| Wn <| Wn <| Wn <| Wn <| Wz (.b false) (OpF rfl) <| Wz (.b false) (OpF rfl) <| Nn ?_
          exact AWP.weak (Weak.toK 2535301200456458802993406410752 0 0 []) (J7 () hm)
        refine Wz (.b false) (Oq q rfl) <| Wn <| Wn <| Wn <| Wz (.b false) (OpF rfl) <| Wz (.b false) (OpF rfl) <| Wm (.b false) rfl <| Wz (.loc 0 0) (Ofa rfl) <| Wz (.y p0.Kind) (Old rfl) <| Wz (.b (decide (((p0.Kind.toNat : Nat) : Int) ≠ 9))) (Ob2 (.int .u8 ((p0.Kind.toNat : Nat) : Int)) (.int .u8 9) rfl (fun _ => hb_neq)) ?_
        rcases br hm with ⟨g, hm⟩ | ⟨g, hm⟩
        · refine Wz (.b true) (Oq g rfl) <| Wz (.loc 0 4) (Ofa rfl) <| Wz (.agg [(.y p0.Val.Kind), (.i p0.Val.N), (.u p0.Val.Bits), (.s p0.Val.Text)]) (Old rfl) <| Wz (.agg [(.y 0), (.i 0), (.u 0), (.s ([] : List UInt8))]) (Old rfl) ?_
          obtain ⟨e, j, hm⟩ := bnd hm; replace j := Option.some.inj j
          refine Wz (.b e) (Ocs (Eq.trans (lit_tf (by simp only [toS_inj])) (congrArg (fun z => A.d (.lit (.bool z))) j)) (op_neq_struct rfl (la := [(.y p0.Val.Kind), (.i p0.Val.N), (.u p0.Val.Bits), (.s p0.Val.Text)]) (lb := [(.y 0), (.i 0), (.u 0), (.s ([] : List UInt8))]) (us := [.int .u8 ((p0.Val.Kind.toNat : Nat) : Int), .int .i64 p0.Val.N, .int .u64 p0.Val.Bits, .string (toS p0.Val.Text)]) (vs := [.int .u8 0, .int .i64 0, .int .u64 0, .string (toS ([] : List UInt8))]) (r := (decide (((p0.Val.Kind.toNat : Nat) : Int) = 0) && (decide (p0.Val.N = 0) && (decide (p0.Val.Bits = 0) && (decide ((toS p0.Val.Text) = (toS ([] : List UInt8))) && true))))) (by kernel_rfl) (by kernel_rfl) (by kernel_rfl) (by kernel_rfl) (by kernel_rfl))) <| Wz (.b e) (OpT rfl) <| Wz (.b e) (OpF rfl) <| Nn ?_
          exact AWP.weak (Weak.toK 2535301200456458802993406410752 0 0 []) (J6 (e) hm)
        refine Wz (.b false) (Oq g rfl) <| Wn <| Wn <| Wn <| Wn <| Wz (.b false) (OpF rfl) <| Wz (.b false) (OpF rfl) <| Nn ?_
        exact AWP.weak (Weak.toK 2535301200456458802993406410752 0 0 []) (J7 () hm)
      refine Wz (.b false) (Oq i0 rfl) <| Wn <| Wn <| Wn <| Wz (.b false) (OpF rfl) <| Wz (.b false) (OpF rfl) <| Wm (.b false) rfl <| Wz (.loc 0 0) (Ofa rfl) <| Wz (.y p0.Kind) (Old rfl) <| Wz (.b (decide (((p0.Kind.toNat : Nat) : Int) ≠ 8))) (Ob2 (.int .u8 ((p0.Kind.toNat : Nat) : Int)) (.int .u8 8) rfl (fun _ => hb_neq)) ?_
      rcases br hm with ⟨q, hm⟩ | ⟨q, hm⟩
      · refine Wz (.b true) (Oq q rfl) <| Wz (.loc 0 2) (Ofa rfl) <| Wz (.s p0.Var) (Old rfl) <| Wz (.b (decide (p0.Var ≠ ([] : List UInt8)))) (Ocs (lit_tf (by simp only [toS_inj, ne_eq])) (op_bin rfl (a1 := .string (toS p0.Var)) (a2 := .string (toS ([] : List UInt8))) (by kernel_rfl) (by kernel_rfl) (fun _ => hb_sneq))) <| Wz (.b (decide (p0.Var ≠ ([] : List UInt8)))) (OpT rfl) <| Wz (.b (decide (p0.Var ≠ ([] : List UInt8)))) (OpF rfl) ?_
        rcases br hm with ⟨t, hm⟩ | ⟨t, hm⟩
        · refine Wz (.b true) (Oq t rfl) <| Wn <| Wn <| Wn <| Wn <| Wn <| Wn <| Wn <| Wn <| Wn <| Wz (.b true) (OpT rfl) <| Nn ?_
          exact AWP.weak (Weak.toK 2535301200456458802993406410752 0 0 []) (J5 () hm)
        refine Wz (.b false) (Oq t rfl) <| Wz (.loc 0 0) (Ofa rfl) <| Wz (.y p0.Kind) (Old rfl) <| Wz (.b (decide (((p0.Kind.toNat : Nat) : Int) ≠ 9))) (Ob2 (.int .u8 ((p0.Kind.toNat : Nat) : Int)) (.int .u8 9) rfl (fun _ => hb_neq)) ?_
        rcases br hm with ⟨g, hm⟩ | ⟨g, hm⟩
        · refine Wz (.b true) (Oq g rfl) <| Wz (.loc 0 4) (Ofa rfl) <| Wz (.agg [(.y p0.Val.Kind), (.i p0.Val.N), (.u p0.Val.Bits), (.s p0.Val.Text)]) (Old rfl) <| Wz (.agg [(.y 0), (.i 0), (.u 0), (.s ([] : List UInt8))]) (Old rfl) ?_
          obtain ⟨e, j, hm⟩ := bnd hm; replace j := Option.some.inj j
          refine Wz (.b e) (Ocs (Eq.trans (lit_tf (by simp only [toS_inj])) (congrArg (fun z => A.d (.lit (.bool z))) j)) (op_neq_struct rfl (la := [(.y p0.Val.Kind), (.i p0.Val.N), (.u p0.Val.Bits), (.s p0.Val.Text)]) (lb := [(.y 0), (.i 0), (.u 0), (.s ([] : List UInt8))]) (us := [.int .u8 ((p0.Val.Kind.toNat : Nat) : Int), .int .i64 p0.Val.N, .int .u64 p0.Val.Bits, .string (toS p0.Val.Text)]) (vs := [.int .u8 0, .int .i64 0, .int .u64 0, .string (toS ([] : List UInt8))]) (r := (decide (((p0.Val.Kind.toNat : Nat) : Int) = 0) && (decide (p0.Val.N = 0) && (decide (p0.Val.Bits = 0) && (decide ((toS p0.Val.Text) = (toS ([] : List UInt8))) && true))))) (by kernel_rfl) (by kernel_rfl) (by kernel_rfl) (by kernel_rfl) (by kernel_rfl))) <| Wz (.b e) (OpT rfl) <| Wz (.b e) (OpF rfl) <| Nn ?_
          exact AWP.weak (Weak.toK 2535301200456458802993406410752 0 0 []) (J6 (e) hm)
        refine Wz (.b false) (Oq g rfl) <| Wn <| Wn <| Wn <| Wn <| Wz (.b false) (OpF rfl) <| Wz (.b false) (OpF rfl) <| Nn ?_
        exact AWP.weak (Weak.toK 2535301200456458802993406410752 0 0 []) (J7 () hm)
      refine Wz (.b false) (Oq q rfl) <| Wn <| Wn <| Wn <| Wz (.b false) (OpF rfl) <| Wz (.b false) (OpF rfl) <| Wm (.b false) rfl <| Wz (.loc 0 0) (Ofa rfl) <| Wz (.y p0.Kind) (Old rfl) <| Wz (.b (decide (((p0.Kind.toNat : Nat) : Int) ≠ 9))) (Ob2 (.int .u8 ((p0.Kind.toNat : Nat) : Int)) (.int .u8 9) rfl (fun _ => hb_neq)) ?_
      rcases br hm with ⟨g, hm⟩ | ⟨g, hm⟩
      · refine Wz (.b true) (Oq g rfl) <| Wz (.loc 0 4) (Ofa rfl) <| Wz (.agg [(.y p0.Val.Kind), (.i p0.Val.N), (.u p0.Val.Bits), (.s p0.Val.Text)]) (Old rfl) <| Wz (.agg [(.y 0), (.i 0), (.u 0), (.s ([] : List UInt8))]) (Old rfl) ?_
        obtain ⟨e, j, hm⟩ := bnd hm; replace j := Option.some.inj j
        refine Wz (.b e) (Ocs (Eq.trans (lit_tf (by simp only [toS_inj])) (congrArg (fun z => A.d (.lit (.bool z))) j)) (op_neq_struct rfl (la := [(.y p0.Val.Kind), (.i p0.Val.N), (.u p0.Val.Bits), (.s p0.Val.Text)]) (lb := [(.y 0), (.i 0), (.u 0), (.s ([] : List UInt8))]) (us := [.int .u8 ((p0.Val.Kind.toNat : Nat) : Int), .int .i64 p0.Val.N, .int .u64 p0.Val.Bits, .string (toS p0.Val.Text)]) (vs := [.int .u8 0, .int .i64 0, .int .u64 0, .string (toS ([] : List UInt8))]) (r := (decide (((p0.Val.Kind.toNat : Nat) : Int) = 0) && (decide (p0.Val.N = 0) && (decide (p0.Val.Bits = 0) && (decide ((toS p0.Val.Text) = (toS ([] : List UInt8))) && true))))) (by kernel_rfl) (by kernel_rfl) (by kernel_rfl) (by kernel_rfl) (by kernel_rfl))) <| Wz (.b e) (OpT rfl) <| Wz (.b e) (OpF rfl) <| Nn ?_
        exact AWP.weak (Weak.toK 2535301200456458802993406410752 0 0 []) (J6 (e) hm)
      refine Wz (.b false) (Oq g rfl) <| Wn <| Wn <| Wn <| Wn <| Wz (.b false) (OpF rfl) <| Wz (.b false) (OpF rfl) <| Nn ?_
      exact AWP.weak (Weak.toK 2535301200456458802993406410752 0 0 []) (J7 () hm)
    refine Wz (.b false) (Oq h0 rfl) <| Wn <| Wn <| Wn <| Wz (.b false) (OpF rfl) <| Wm (.b false) rfl <| Wn <| Wn <| Wn <| Wz (.b false) (OpF rfl) <| Wz (.b false) (OpF rfl) <| Wm (.b false) rfl <| Wz (.loc 0 0) (Ofa rfl) <| Wz (.y p0.Kind) (Old rfl) ?_
    refine Wz (.b (decide (((p0.Kind.toNat : Nat) : Int) ≠ 8))) (Ob2 (.int .u8 ((p0.Kind.toNat : Nat) : Int)) (.int .u8 8) rfl (fun _ => hb_neq)) ?_
    rcases br hm with ⟨q, hm⟩ | ⟨q, hm⟩
    · refine Wz (.b true) (Oq q rfl) <| Wz (.loc 0 2) (Ofa rfl) <| Wz (.s p0.Var) (Old rfl) <| Wz (.b (decide (p0.Var ≠ ([] : List UInt8)))) (Ocs (lit_tf (by simp only [toS_inj, ne_eq])) (op_bin rfl (a1 := .string (toS p0.Var)) (a2 := .string (toS ([] : List UInt8))) (by kernel_rfl) (by kernel_rfl) (fun _ => hb_sneq))) <| Wz (.b (decide (p0.Var ≠ ([] : List UInt8)))) (OpT rfl) <| Wz (.b (decide (p0.Var ≠ ([] : List UInt8)))) (OpF rfl) ?_
      rcases br hm with ⟨t, hm⟩ | ⟨t, hm⟩
      · refine Wz (.b true) (Oq t rfl) <| Wn <| Wn <| Wn <| Wn <| Wn <| Wn <| Wn <| Wn <| Wn <| Wz (.b true) (OpT rfl) <| Nn ?_
        exact AWP.weak (Weak.toK 2535301200456458802993406410752 0 0 []) (J5 () hm)
      refine Wz (.b false) (Oq t rfl) <| Wz (.loc 0 0) (Ofa rfl) <| Wz (.y p0.Kind) (Old rfl) <| Wz (.b (decide (((p0.Kind.toNat : Nat) : Int) ≠ 9))) (Ob2 (.int .u8 ((p0.Kind.toNat : Nat) : Int)) (.int .u8 9) rfl (fun _ => hb_neq)) ?_
      rcases br hm with ⟨g, hm⟩ | ⟨g, hm⟩
      · refine Wz (.b true) (Oq g rfl) <| Wz (.loc 0 4) (Ofa rfl) <| Wz (.agg [(.y p0.Val.Kind), (.i p0.Val.N), (.u p0.Val.Bits), (.s p0.Val.Text)]) (Old rfl) <| Wz (.agg [(.y 0), (.i 0), (.u 0), (.s ([] : List UInt8))]) (Old rfl) ?_
        obtain ⟨e, j, hm⟩ := bnd hm; replace j := Option.some.inj j
        refine Wz (.b e) (Ocs (Eq.trans (lit_tf (by simp only [toS_inj])) (congrArg (fun z => A.d (.lit (.bool z))) j)) (op_neq_struct rfl (la := [(.y p0.Val.Kind), (.i p0.Val.N), (.u p0.Val.Bits), (.s p0.Val.Text)]) (lb := [(.y 0), (.i 0), (.u 0), (.s ([] : List UInt8))]) (us := [.int .u8 ((p0.Val.Kind.toNat : Nat) : Int), .int .i64 p0.Val.N, .int .u64 p0.Val.Bits, .string (toS p0.Val.Text)]) (vs := [.int .u8 0, .int .i64 0, .int .u64 0, .string (toS ([] : List UInt8))]) (r := (decide (((p0.Val.Kind.toNat : Nat) : Int) = 0) && (decide (p0.Val.N = 0) && (decide (p0.Val.Bits = 0) && (decide ((toS p0.Val.Text) = (toS ([] : List UInt8))) && true))))) (by kernel_rfl) (by kernel_rfl) (by kernel_rfl) (by kernel_rfl) (by kernel_rfl))) <| Wz (.b e) (OpT rfl) <| Wz (.b e) (OpF rfl) <| Nn ?_
        exact AWP.weak (Weak.toK 2535301200456458802993406410752 0 0 []) (J6 (e) hm)
      refine Wz (.b false) (Oq g rfl) <| Wn <| Wn <| Wn <| Wn <| Wz (.b false) (OpF rfl) <| Wz (.b false) (OpF rfl) <| Nn ?_
      exact AWP.weak (Weak.toK 2535301200456458802993406410752 0 0 []) (J7 () hm)
    refine Wz (.b false) (Oq q rfl) <| Wn <| Wn <| Wn <| Wz (.b false) (OpF rfl) <| Wz (.b false) (OpF rfl) <| Wm (.b false) rfl <| Wz (.loc 0 0) (Ofa rfl) <| Wz (.y p0.Kind) (Old rfl) <| Wz (.b (decide (((p0.Kind.toNat : Nat) : Int) ≠ 9))) (Ob2 (.int .u8 ((p0.Kind.toNat : Nat) : Int)) (.int .u8 9) rfl (fun _ => hb_neq)) ?_
    rcases br hm with ⟨g, hm⟩ | ⟨g, hm⟩
    · refine Wz (.b true) (Oq g rfl) <| Wz (.loc 0 4) (Ofa rfl) <| Wz (.agg [(.y p0.Val.Kind), (.i p0.Val.N), (.u p0.Val.Bits), (.s p0.Val.Text)]) (Old rfl) <| Wz (.agg [(.y 0), (.i 0), (.u 0), (.s ([] : List UInt8))]) (Old rfl) ?_
      obtain ⟨e, j, hm⟩ := bnd hm; replace j := Option.some.inj j
      refine Wz (.b e) (Ocs (Eq.trans (lit_tf (by simp only [toS_inj])) (congrArg (fun z => A.d (.lit (.bool z))) j)) (op_neq_struct rfl (la := [(.y p0.Val.Kind), (.i p0.Val.N), (.u p0.Val.Bits), (.s p0.Val.Text)]) (lb := [(.y 0), (.i 0), (.u 0), (.s ([] : List UInt8))]) (us := [.int .u8 ((p0.Val.Kind.toNat : Nat) : Int), .int .i64 p0.Val.N, .int .u64 p0.Val.Bits, .string (toS p0.Val.Text)]) (vs := [.int .u8 0, .int .i64 0, .int .u64 0, .string (toS ([] : List UInt8))]) (r := (decide (((p0.Val.Kind.toNat : Nat) : Int) = 0) && (decide (p0.Val.N = 0) && (decide (p0.Val.Bits = 0) && (decide ((toS p0.Val.Text) = (toS ([] : List UInt8))) && true))))) (by kernel_rfl) (by kernel_rfl) (by kernel_rfl) (by kernel_rfl) (by kernel_rfl))) <| Wz (.b e) (OpT rfl) <| Wz (.b e) (OpF rfl) <| Nn ?_
      exact AWP.weak (Weak.toK 2535301200456458802993406410752 0 0 []) (J6 (e) hm)
    refine Wz (.b false) (Oq g rfl) <| Wn <| Wn <| Wn <| Wn <| Wz (.b false) (OpF rfl) <| Wz (.b false) (OpF rfl) <| Nn ?_
    exact AWP.weak (Weak.toK 2535301200456458802993406410752 0 0 []) (J7 () hm)
  refine Wz (.b false) (Oq x0 rfl) <| Wn <| Wn <| Wn <| Wz (.b false) (OpF rfl) <| Wm (.b false) rfl <| Wz (.loc 0 0) (Ofa rfl) <| Wz (.y p0.Kind) (Old rfl) <| Wz (.b (decide (((p0.Kind.toNat : Nat) : Int) ≠ 7))) (Ob2 (.int .u8 ((p0.Kind.toNat : Nat) : Int)) (.int .u8 7) rfl (fun _ => hb_neq)) ?_
  rcases br hm with ⟨h0, hm⟩ | ⟨h0, hm⟩
  · refine Wz (.b true) (Oq h0 rfl) <| Wz (.loc 0 0) (Ofa rfl) <| Wz (.y p0.Kind) (Old rfl) <| Wz (.b (decide (((p0.Kind.toNat : Nat) : Int) ≠ 8))) (Ob2 (.int .u8 ((p0.Kind.toNat : Nat) : Int)) (.int .u8 8) rfl (fun _ => hb_neq)) <| Wz (.b (decide (((p0.Kind.toNat : Nat) : Int) ≠ 8))) (OpT rfl) ?_
    rcases br hm with ⟨i0, hm⟩ | ⟨i0, hm⟩
    · refine Wz (.b true) (Oq i0 rfl) <| Wz (.loc 0 3) (Ofa rfl) <| Wz (.s p0.Name) (Old rfl) <| Wz (.b (decide (p0.Name ≠ ([] : List UInt8)))) (Ocs (lit_tf (by simp only [toS_inj, ne_eq])) (op_bin rfl (a1 := .string (toS p0.Name)) (a2 := .string (toS ([] : List UInt8))) (by kernel_rfl) (by kernel_rfl) (fun _ => hb_sneq))) <| Wz (.b (decide (p0.Name ≠ ([] : List UInt8)))) (OpT rfl) <| Wz (.b (decide (p0.Name ≠ ([] : List UInt8)))) (OpF rfl) ?_
      rcases br hm with ⟨j0, hm⟩ | ⟨j0, hm⟩
      · refine Wz (.b true) (Oq j0 rfl) <| Wn <| Wn <| Wn <| Wn <| Wn <| Wn <| Wn <| Wn <| Wz (.b true) (OpT rfl) <| Wm (.b true) rfl <| Wn <| Wn <| Wn ?_
        refine Wn <| Wn <| Wn <| Wn <| Wn <| Wn <| Wz (.b true) (OpT rfl) <| Nn ?_
        exact AWP.weak (Weak.toK 2535301200456458802993406410752 0 0 []) (J5 () hm)
      refine Wz (.b false) (Oq j0 rfl) <| Wz (.loc 0 0) (Ofa rfl) <| Wz (.y p0.Kind) (Old rfl) <| Wz (.b (decide (((p0.Kind.toNat : Nat) : Int) ≠ 8))) (Ob2 (.int .u8 ((p0.Kind.toNat : Nat) : Int)) (.int .u8 8) rfl (fun _ => hb_neq)) ?_
      rcases br hm with ⟨q, hm⟩ | ⟨q, hm⟩
      · refine Wz (.b true) (Oq q rfl) <| Wz (.loc 0 2) (Ofa rfl) <| Wz (.s p0.Var) (Old rfl) <| Wz (.b (decide (p0.Var ≠ ([] : List UInt8)))) (Ocs (lit_tf (by simp only [toS_inj, ne_eq])) (op_bin rfl (a1 := .string (toS p0.Var)) (a2 := .string (toS ([] : List UInt8))) (by kernel_rfl) (by kernel_rfl) (fun _ => hb_sneq))) <| Wz (.b (decide (p0.Var ≠ ([] : List UInt8)))) (OpT rfl) <| Wz (.b (decide (p0.Var ≠ ([] : List UInt8)))) (OpF rfl) ?_
        rcases br hm with ⟨t, hm⟩ | ⟨t, hm⟩
        · refine Wz (.b true) (Oq t rfl) <| Wn <| Wn <| Wn <| Wn <| Wn <| Wn <| Wn <| Wn <| Wn <| Wz (.b true) (OpT rfl) <| Nn ?_
          exact AWP.weak (Weak.toK 2535301200456458802993406410752 0 0 []) (J5 () hm)
        refine Wz (.b false) (Oq t rfl) <| Wz (.loc 0 0) (Ofa rfl) <| Wz (.y p0.Kind) (Old rfl) <| Wz (.b (decide (((p0.Kind.toNat : Nat) : Int) ≠ 9))) (Ob2 (.int .u8 ((p0.Kind.toNat : Nat) : Int)) (.int .u8 9) rfl (fun _ => hb_neq)) ?_
        rcases br hm with ⟨g, hm⟩ | ⟨g, hm⟩
        · refine Wz (.b true) (Oq g rfl) <| Wz (.loc 0 4) (Ofa rfl) <| Wz (.agg [(.y p0.Val.Kind), (.i p0.Val.N), (.u p0.Val.Bits), (.s p0.Val.Text)]) (Old rfl) <| Wz (.agg [(.y 0), (.i 0), (.u 0), (.s ([] : List UInt8))]) (Old rfl) ?_
          obtain ⟨e, j, hm⟩ := bnd hm; replace j := Option.some.inj j
          refine Wz (.b e) (Ocs (Eq.trans (lit_tf (by simp only [toS_inj])) (congrArg (fun z => A.d (.lit (.bool z))) j)) (op_neq_struct rfl (la := [(.y p0.Val.Kind), (.i p0.Val.N), (.u p0.Val.Bits), (.s p0.Val.Text)]) (lb := [(.y 0), (.i 0), (.u 0), (.s ([] : List UInt8))]) (us := [.int .u8 ((p0.Val.Kind.toNat : Nat) : Int), .int .i64 p0.Val.N, .int .u64 p0.Val.Bits, .string (toS p0.Val.Text)]) (vs := [.int .u8 0, .int .i64 0, .int .u64 0, .string (toS ([] : List UInt8))]) (r := (decide (((p0.Val.Kind.toNat : Nat) : Int) = 0) && (decide (p0.Val.N = 0) && (decide (p0.Val.Bits = 0) && (decide ((toS p0.Val.Text) = (toS ([] : List UInt8))) && true))))) (by kernel_rfl) (by kernel_rfl) (by kernel_rfl) (by kernel_rfl) (by kernel_rfl))) <| Wz (.b e) (OpT rfl) <| Wz (.b e) (OpF rfl) <| Nn ?_
          exact AWP.weak (Weak.toK 2535301200456458802993406410752 0 0 []) (J6 (e) hm)
        refine Wz (.b false) (Oq g rfl) <| Wn <| Wn <| Wn <| Wn <| Wz (.b false) (OpF rfl) <| Wz (.b false) (OpF rfl) <| Nn ?_
        exact AWP.weak (Weak.toK 2535301200456458802993406410752 0 0 []) (J7 () hm)
      refine Wz (.b false) (Oq q rfl) <| Wn <| Wn <| Wn <| Wz (.b false) (OpF rfl) <| Wz (.b false) (OpF rfl) <| Wm (.b false) rfl <| Wz (.loc 0 0) (Ofa rfl) <| Wz (.y p0.Kind) (Old rfl) <| Wz (.b (decide (((p0.Kind.toNat : Nat) : Int) ≠ 9))) (Ob2 (.int .u8 ((p0.Kind.toNat : Nat) : Int)) (.int .u8 9) rfl (fun _ => hb_neq)) ?_
      rcases br hm with ⟨g, hm⟩ | ⟨g, hm⟩
      · refine Wz (.b true) (Oq g rfl) <| Wz (.loc 0 4) (Ofa rfl) <| Wz (.agg [(.y p0.Val.Kind), (.i p0.Val.N), (.u p0.Val.Bits), (.s p0.Val.Text)]) (Old rfl) <| Wz (.agg [(.y 0), (.i 0), (.u 0), (.s ([] : List UInt8))]) (Old rfl) ?_
        obtain ⟨e, j, hm⟩ := bnd hm; replace j := Option.some.inj j
        refine Wz (.b e) (Ocs (Eq.trans (lit_tf (by simp only [toS_inj])) (congrArg (fun z => A.d (.lit (.bool z))) j)) (op_neq_struct rfl (la := [(.y p0.Val.Kind), (.i p0.Val.N), (.u p0.Val.Bits), (.s p0.Val.Text)]) (lb := [(.y 0), (.i 0), (.u 0), (.s ([] : List UInt8))]) (us := [.int .u8 ((p0.Val.Kind.toNat : Nat) : Int), .int .i64 p0.Val.N, .int .u64 p0.Val.Bits, .string (toS p0.Val.Text)]) (vs := [.int .u8 0, .int .i64 0, .int .u64 0, .string (toS ([] : List UInt8))]) (r := (decide (((p0.Val.Kind.toNat : Nat) : Int) = 0) && (decide (p0.Val.N = 0) && (decide (p0.Val.Bits = 0) && (decide ((toS p0.Val.Text) = (toS ([] : List UInt8))) && true))))) (by kernel_rfl) (by kernel_rfl) (by kernel_rfl) (by kernel_rfl) (by kernel_rfl))) <| Wz (.b e) (OpT rfl) <| Wz (.b e) (OpF rfl) <| Nn ?_
        exact AWP.weak (Weak.toK 2535301200456458802993406410752 0 0 []) (J6 (e) hm)
      refine Wz (.b false) (Oq g rfl) <| Wn <| Wn <| Wn <| Wn <| Wz (.b false) (OpF rfl) <| Wz (.b false) (OpF rfl) <| Nn ?_
      exact AWP.weak (Weak.toK 2535301200456458802993406410752 0 0 []) (J7 () hm)
    refine Wz (.b false) (Oq i0 rfl) <| Wn <| Wn <| Wn <| Wz (.b false) (OpF rfl) <| Wz (.b false) (OpF rfl) <| Wm (.b false) rfl <| Wz (.loc 0 0) (Ofa rfl) <| Wz (.y p0.Kind) (Old rfl) <| Wz (.b (decide (((p0.Kind.toNat : Nat) : Int) ≠ 8))) (Ob2 (.int .u8 ((p0.Kind.toNat : Nat) : Int)) (.int .u8 8) rfl (fun _ => hb_neq)) ?_
    rcases br hm with ⟨q, hm⟩ | ⟨q, hm⟩
    · refine Wz (.b true) (Oq q rfl) <| Wz (.loc 0 2) (Ofa rfl) <| Wz (.s p0.Var) (Old rfl) <| Wz (.b (decide (p0.Var ≠ ([] : List UInt8)))) (Ocs (lit_tf (by simp only [toS_inj, ne_eq])) (op_bin rfl (a1 := .string (toS p0.Var)) (a2 := .string (toS ([] : List UInt8))) (by kernel_rfl) (by kernel_rfl) (fun _ => hb_sneq))) <| Wz (.b (decide (p0.Var ≠ ([] : List UInt8)))) (OpT rfl) <| Wz (.b (decide (p0.Var ≠ ([] : List UInt8)))) (OpF rfl) ?_
      rcases br hm with ⟨t, hm⟩ | ⟨t, hm⟩
      · refine Wz (.b true) (Oq t rfl) <| Wn <| Wn <| Wn <| Wn <| Wn <| Wn <| Wn <| Wn <| Wn <| Wz (.b true) (OpT rfl) <| Nn ?_
        exact AWP.weak (Weak.toK 2535301200456458802993406410752 0 0 []) (J5 () hm)
      refine Wz (.b false) (Oq t rfl) <| Wz (.loc 0 0) (Ofa rfl) <| Wz (.y p0.Kind) (Old rfl) <| Wz (.b (decide (((p0.Kind.toNat : Nat) : Int) ≠ 9))) (Ob2 (.int .u8 ((p0.Kind.toNat : Nat) : Int)) (.int .u8 9) rfl (fun _ => hb_neq)) ?_
      rcases br hm with ⟨g, hm⟩ | ⟨g, hm⟩
      · refine Wz (.b true) (Oq g rfl) <| Wz (.loc 0 4) (Ofa rfl) <| Wz (.agg [(.y p0.Val.Kind), (.i p0.Val.N), (.u p0.Val.Bits), (.s p0.Val.Text)]) (Old rfl) <| Wz (.agg [(.y 0), (.i 0), (.u 0), (.s ([] : List UInt8))]) (Old rfl) ?_
        obtain ⟨e, j, hm⟩ := bnd hm; replace j := Option.some.inj j
        refine Wz (.b e) (Ocs (Eq.trans (lit_tf (by simp only [toS_inj])) (congrArg (fun z => A.d (.lit (.bool z))) j)) (op_neq_struct rfl (la := [(.y p0.Val.Kind), (.i p0.Val.N), (.u p0.Val.Bits), (.s p0.Val.Text)]) (lb := [(.y 0), (.i 0), (.u 0), (.s ([] : List UInt8))]) (us := [.int .u8 ((p0.Val.Kind.toNat : Nat) : Int), .int .i64 p0.Val.N, .int .u64 p0.Val.Bits, .string (toS p0.Val.Text)]) (vs := [.int .u8 0, .int .i64 0, .int .u64 0, .string (toS ([] : List UInt8))]) (r := (decide (((p0.Val.Kind.toNat : Nat) : Int) = 0) && (decide (p0.Val.N = 0) && (decide (p0.Val.Bits = 0) && (decide ((toS p0.Val.Text) = (toS ([] : List UInt8))) && true))))) (by kernel_rfl) (by kernel_rfl) (by kernel_rfl) (by kernel_rfl) (by kernel_rfl))) <| Wz (.b e) (OpT rfl) <| Wz (.b e) (OpF rfl) <| Nn ?_
        exact AWP.weak (Weak.toK 2535301200456458802993406410752 0 0 []) (J6 (e) hm)
      refine Wz (.b false) (Oq g rfl) <| Wn <| Wn <| Wn <| Wn <| Wz (.b false) (OpF rfl) <| Wz (.b false) (OpF rfl) <| Nn ?_
      exact AWP.weak (Weak.toK 2535301200456458802993406410752 0 0 []) (J7 () hm)
    refine Wz (.b false) (Oq q rfl) <| Wn <| Wn <| Wn <| Wz (.b false) (OpF rfl) <| Wz (.b false) (OpF rfl) <| Wm (.b false) rfl <| Wz (.loc 0 0) (Ofa rfl) <| Wz (.y p0.Kind) (Old rfl) <| Wz (.b (decide (((p0.Kind.toNat : Nat) : Int) ≠ 9))) (Ob2 (.int .u8 ((p0.Kind.toNat : Nat) : Int)) (.int .u8 9) rfl (fun _ => hb_neq)) ?_
    rcases br hm with ⟨g, hm⟩ | ⟨g, hm⟩
    · refine Wz (.b true) (Oq g rfl) <| Wz (.loc 0 4) (Ofa rfl) <| Wz (.agg [(.y p0.Val.Kind), (.i p0.Val.N), (.u p0.Val.Bits), (.s p0.Val.Text)]) (Old rfl) <| Wz (.agg [(.y 0), (.i 0), (.u 0), (.s ([] : List UInt8))]) (Old rfl) ?_
      obtain ⟨e, j, hm⟩ := bnd hm; replace j := Option.some.inj j
      refine Wz (.b e) (Ocs (Eq.trans (lit_tf (by simp only [toS_inj])) (congrArg (fun z => A.d (.lit (.bool z))) j)) (op_neq_struct rfl (la := [(.y p0.Val.Kind), (.i p0.Val.N), (.u p0.Val.Bits), (.s p0.Val.Text)]) (lb := [(.y 0), (.i 0), (.u 0), (.s ([] : List UInt8))]) (us := [.int .u8 ((p0.Val.Kind.toNat : Nat) : Int), .int .i64 p0.Val.N, .int .u64 p0.Val.Bits, .string (toS p0.Val.Text)]) (vs := [.int .u8 0, .int .i64 0, .int .u64 0, .string (toS ([] : List UInt8))]) (r := (decide (((p0.Val.Kind.toNat : Nat) : Int) = 0) && (decide (p0.Val.N = 0) && (decide (p0.Val.Bits = 0) && (decide ((toS p0.Val.Text) = (toS ([] : List UInt8))) && true))))) (by kernel_rfl) (by kernel_rfl) (by kernel_rfl) (by kernel_rfl) (by kernel_rfl))) <| Wz (.b e) (OpT rfl) <| Wz (.b e) (OpF rfl) <| Nn ?_
      exact AWP.weak (Weak.toK 2535301200456458802993406410752 0 0 []) (J6 (e) hm)
    refine Wz (.b false) (Oq g rfl) <| Wn <| Wn <| Wn <| Wn <| Wz (.b false) (OpF rfl) <| Wz (.b false) (OpF rfl) <| Nn ?_
    exact AWP.weak (Weak.toK 2535301200456458802993406410752 0 0 []) (J7 () hm)
  refine Wz (.b false) (Oq h0 rfl) <| Wn <| Wn <| Wn <| Wz (.b false) (OpF rfl) <| Wm (.b false) rfl <| Wn <| Wn <| Wn <| Wz (.b false) (OpF rfl) <| Wz (.b false) (OpF rfl) <| Wm (.b false) rfl <| Wz (.loc 0 0) (Ofa rfl) <| Wz (.y p0.Kind) (Old rfl) ?_
  refine Wz (.b (decide (((p0.Kind.toNat : Nat) : Int) ≠ 8))) (Ob2 (.int .u8 ((p0.Kind.toNat : Nat) : Int)) (.int .u8 8) rfl (fun _ => hb_neq)) ?_
  rcases br hm with ⟨q, hm⟩ | ⟨q, hm⟩
  · refine Wz (.b true) (Oq q rfl) <| Wz (.loc 0 2) (Ofa rfl) <| Wz (.s p0.Var) (Old rfl) <| Wz (.b (decide (p0.Var ≠ ([] : List UInt8)))) (Ocs (lit_tf (by simp only [toS_inj, ne_eq])) (op_bin rfl (a1 := .string (toS p0.Var)) (a2 := .string (toS ([] : List UInt8))) (by kernel_rfl) (by kernel_rfl) (fun _ => hb_sneq))) <| Wz (.b (decide (p0.Var ≠ ([] : List UInt8)))) (OpT rfl) <| Wz (.b (decide (p0.Var ≠ ([] : List UInt8)))) (OpF rfl) ?_
    rcases br hm with ⟨t, hm⟩ | ⟨t, hm⟩
    · refine Wz (.b true) (Oq t rfl) <| Wn <| Wn <| Wn <| Wn <| Wn <| Wn <| Wn <| Wn <| Wn <| Wz (.b true) (OpT rfl) <| Nn ?_
      exact AWP.weak (Weak.toK 2535301200456458802993406410752 0 0 []) (J5 () hm)
    refine Wz (.b false) (Oq t rfl) <| Wz (.loc 0 0) (Ofa rfl) <| Wz (.y p0.Kind) (Old rfl) <| Wz (.b (decide (((p0.Kind.toNat : Nat) : Int) ≠ 9))) (Ob2 (.int .u8 ((p0.Kind.toNat : Nat) : Int)) (.int .u8 9) rfl (fun _ => hb_neq)) ?_
    rcases br hm with ⟨g, hm⟩ | ⟨g, hm⟩
    · refine Wz (.b true) (Oq g rfl) <| Wz (.loc 0 4) (Ofa rfl) <| Wz (.agg [(.y p0.Val.Kind), (.i p0.Val.N), (.u p0.Val.Bits), (.s p0.Val.Text)]) (Old rfl) <| Wz (.agg [(.y 0), (.i 0), (.u 0), (.s ([] : List UInt8))]) (Old rfl) ?_
      obtain ⟨e, j, hm⟩ := bnd hm; replace j := Option.some.inj j
      refine Wz (.b e) (Ocs (Eq.trans (lit_tf (by simp only [toS_inj])) (congrArg (fun z => A.d (.lit (.bool z))) j)) (op_neq_struct rfl (la := [(.y p0.Val.Kind), (.i p0.Val.N), (.u p0.Val.Bits), (.s p0.Val.Text)]) (lb := [(.y 0), (.i 0), (.u 0), (.s ([] : List UInt8))]) (us := [.int .u8 ((p0.Val.Kind.toNat : Nat) : Int), .int .i64 p0.Val.N, .int .u64 p0.Val.Bits, .string (toS p0.Val.Text)]) (vs := [.int .u8 0, .int .i64 0, .int .u64 0, .string (toS ([] : List UInt8))]) (r := (decide (((p0.Val.Kind.toNat : Nat) : Int) = 0) && (decide (p0.Val.N = 0) && (decide (p0.Val.Bits = 0) && (decide ((toS p0.Val.Text) = (toS ([] : List UInt8))) && true))))) (by kernel_rfl) (by kernel_rfl) (by kernel_rfl) (by kernel_rfl) (by kernel_rfl))) <| Wz (.b e) (OpT rfl) <| Wz (.b e) (OpF rfl) <| Nn ?_
      exact AWP.weak (Weak.toK 2535301200456458802993406410752 0 0 []) (J6 (e) hm)
    refine Wz (.b false) (Oq g rfl) <| Wn <| Wn <| Wn <| Wn <| Wz (.b false) (OpF rfl) <| Wz (.b false) (OpF rfl) <| Nn ?_
    exact AWP.weak (Weak.toK 2535301200456458802993406410752 0 0 []) (J7 () hm)
  refine Wz (.b false) (Oq q rfl) <| Wn <| Wn <| Wn <| Wz (.b false) (OpF rfl) <| Wz (.b false) (OpF rfl) <| Wm (.b false) rfl <| Wz (.loc 0 0) (Ofa rfl) <| Wz (.y p0.Kind) (Old rfl) <| Wz (.b (decide (((p0.Kind.toNat : Nat) : Int) ≠ 9))) (Ob2 (.int .u8 ((p0.Kind.toNat : Nat) : Int)) (.int .u8 9) rfl (fun _ => hb_neq)) ?_
  rcases br hm with ⟨g, hm⟩ | ⟨g, hm⟩
  · refine Wz (.b true) (Oq g rfl) <| Wz (.loc 0 4) (Ofa rfl) <| Wz (.agg [(.y p0.Val.Kind), (.i p0.Val.N), (.u p0.Val.Bits), (.s p0.Val.Text)]) (Old rfl) <| Wz (.agg [(.y 0), (.i 0), (.u 0), (.s ([] : List UInt8))]) (Old rfl) ?_
    obtain ⟨e, j, hm⟩ := bnd hm; replace j := Option.some.inj j
    refine Wz (.b e) (Ocs (Eq.trans (lit_tf (by simp only [toS_inj])) (congrArg (fun z => A.d (.lit (.bool z))) j)) (op_neq_struct rfl (la := [(.y p0.Val.Kind), (.i p0.Val.N), (.u p0.Val.Bits), (.s p0.Val.Text)]) (lb := [(.y 0), (.i 0), (.u 0), (.s ([] : List UInt8))]) (us := [.int .u8 ((p0.Val.Kind.toNat : Nat) : Int), .int .i64 p0.Val.N, .int .u64 p0.Val.Bits, .string (toS p0.Val.Text)]) (vs := [.int .u8 0, .int .i64 0, .int .u64 0, .string (toS ([] : List UInt8))]) (r := (decide (((p0.Val.Kind.toNat : Nat) : Int) = 0) && (decide (p0.Val.N = 0) && (decide (p0.Val.Bits = 0) && (decide ((toS p0.Val.Text) = (toS ([] : List UInt8))) && true))))) (by kernel_rfl) (by kernel_rfl) (by kernel_rfl) (by kernel_rfl) (by kernel_rfl))) <| Wz (.b e) (OpT rfl) <| Wz (.b e) (OpF rfl) <| Nn ?_
    exact AWP.weak (Weak.toK 2535301200456458802993406410752 0 0 []) (J6 (e) hm)
  refine Wz (.b false) (Oq g rfl) <| Wn <| Wn <| Wn <| Wn <| Wz (.b false) (OpF rfl) <| Wz (.b false) (OpF rfl) <| Nn ?_
  exact AWP.weak (Weak.toK 2535301200456458802993406410752 0 0 []) (J7 () hm)
 refine AWP.cutJ (α := Unit) (fun x => match x with | () => (⟨tp 1 (.loc 0 0::tp 1 (.loc 1 0::.b false::tp 97 [])), [(.box [(.y p0.Kind), (.y p0.Op), (.s p0.Var), (.s p0.Name), (.y p0.Val.Kind), (.i p0.Val.N), (.u p0.Val.Bits), (.s p0.Val.Text)]), (.box [(.y 0), (.i 0), (.u 0), (.s ([] : List UInt8))])], 0⟩ : St)) (fun x => match x with | () => m_r11_needs_j3 p0 = some r) ?_ (fun J3 => ?_)
 ·
  rintro ⟨⟩ hm
  try dsimp only at hm ⊢
  unfold m_r11_needs_j3 at hm
  refine Sq <| Sx <| Wm (.b false) rfl <| Nk 144115188075855882 3 ⟨tp 1 (.loc 0 0::tp 1 (.loc 1 0::tp 53 (.b false::tp 44 []))), [(.box [(.y p0.Kind), (.y p0.Op), (.s p0.Var), (.s p0.Name), (.y p0.Val.Kind), (.i p0.Val.N), (.u p0.Val.Bits), (.s p0.Val.Text)]), (.box [(.y 0), (.i 0), (.u 0), (.s ([] : List UInt8))])], 0⟩ <| AWP.if_ false (by kernel_rfl) <| Sk <| Tk 10 3 ⟨tp 1 (.loc 0 0::tp 1 (.loc 1 0::tp 98 [])), [(.box [(.y p0.Kind), (.y p0.Op), (.s p0.Var), (.s p0.Name), (.y p0.Val.Kind), (.i p0.Val.N), (.u p0.Val.Bits), (.s p0.Val.Text)]), (.box [(.y 0), (.i 0), (.u 0), (.s ([] : List UInt8))])], 0⟩ <| Sq ?_
  refine AWP.cutJ (α := Unit) (fun x => match x with | () => (⟨tp 101 (.b true::[]), [], 0⟩ : St)) (fun x => match x with | () => m_r11_needs_j9  = some r) ?_ (fun J9 => ?_)
  ·
   rintro ⟨⟩ hm
   try dsimp only at hm ⊢
   unfold m_r11_needs_j9 at hm
   refine AWP.if_ true (by kernel_rfl) <| Sx <| Wm (.i 2) rfl <| Nn <| Rt <| Tr ?_
   obtain rfl := sj hm
   exact ret_i []
  refine AWP.cutJ (α := Bool) (fun x => match x with | r0 => (⟨tp 101 (.b r0::[]), [], 0⟩ : St)) (fun x => match x with | r0 => m_r11_needs_j10  r0 = some r) ?_ (fun J10 => ?_)
  ·
   rintro r0 hm
   try dsimp only at hm ⊢
   unfold m_r11_needs_j10 at hm
   rcases br hm with ⟨s0, hm⟩ | ⟨s0, hm⟩
   · refine AiT s0 <| Sx <| Wm (.i 2) rfl <| Nn <| Rt <| Tr ?_
     obtain rfl := sj hm
     exact ret_i []
   refine AiF s0 <| Sk <| Tk 0 0 ⟨tp 102 [], [], 0⟩ <| Sx <| Wm (.i 0) rfl <| Nn <| Rt ?_
   obtain rfl := sj hm
   exact ret_i []
  refine AWP.cutJ (α := Unit) (fun x => match x with | () => (⟨tp 101 (.b false::[]), [], 0⟩ : St)) (fun x => match x with | () => m_r11_needs_j11  = some r) ?_ (fun J11 => ?_)
  ·
   rintro ⟨⟩ hm
   try dsimp only at hm ⊢
   unfold m_r11_needs_j11 at hm
   refine AWP.if_ false (by kernel_rfl) <| Sk <| Tk 0 0 ⟨tp 102 [], [], 0⟩ <| Sx <| Wm (.i 0) rfl <| Nn <| Rt ?_
   obtain rfl := sj hm
   exact ret_i []
  refine Sx <| Wz (.loc 0 0) (Ofa rfl) <| Wz (.y p0.Kind) (Old rfl) <| Wz (.b (decide (((p0.Kind.toNat : Nat) : Int) ≠ 4))) (Ob2 (.int .u8 ((p0.Kind.toNat : Nat) : Int)) (.int .u8 4) rfl (fun _ => hb_neq)) ?_
  rcases br hm with ⟨z0, hm⟩ | ⟨z0, hm⟩
  · refine Wz (.b true) (Oq z0 rfl) <| Wz (.loc 0 1) (Ofa rfl) <| Wz (.y p0.Op) (Old rfl) <| Wz (.b (decide (((p0.Op.toNat : Nat) : Int) ≠ 0))) (Ob2 (.int .u8 ((p0.Op.toNat : Nat) : Int)) (.int .u8 0) rfl (fun _ => hb_neq)) <| Wz (.b (decide (((p0.Op.toNat : Nat) : Int) ≠ 0))) (OpT rfl) ?_
    rcases br hm with ⟨b1, hm⟩ | ⟨b1, hm⟩
    · refine Wz (.b true) (Oq b1 rfl) <| Wn <| Wn <| Wn <| Wn <| Wn <| Wn <| Wn <| Wn <| Wn <| Wn <| Wn <| Wn <| Wn ?_
      refine Wz (.b true) (OpT rfl) <| Wm (.b true) rfl <| Wn <| Wn <| Wn <| Wn <| Wn <| Wn <| Wn <| Wn <| Wz (.b true) (OpT rfl) <| Wm (.b true) rfl <| Wn <| Wn ?_
      refine Wn <| Wn <| Wn <| Wn <| Wn <| Wn <| Wn <| Wz (.b true) (OpT rfl) <| Nn ?_
      exact AWP.weak (Weak.toK 2535301200456458802993406410752 0 0 []) (J9 () hm)
    refine Wz (.b false) (Oq b1 rfl) <| Wz (.loc 0 0) (Ofa rfl) <| Wz (.y p0.Kind) (Old rfl) <| Wz (.b (decide (((p0.Kind.toNat : Nat) : Int) ≠ 7))) (Ob2 (.int .u8 ((p0.Kind.toNat : Nat) : Int)) (.int .u8 7) rfl (fun _ => hb_neq)) ?_
    rcases br hm with ⟨k0, hm⟩ | ⟨k0, hm⟩
    · refine Wz (.b true) (Oq k0 rfl) <| Wz (.loc 0 0) (Ofa rfl) <| Wz (.y p0.Kind) (Old rfl) <| Wz (.b (decide (((p0.Kind.toNat : Nat) : Int) ≠ 8))) (Ob2 (.int .u8 ((p0.Kind.toNat : Nat) : Int)) (.int .u8 8) rfl (fun _ => hb_neq)) <| Wz (.b (decide (((p0.Kind.toNat : Nat) : Int) ≠ 8))) (OpT rfl) ?_
      rcases br hm with ⟨l0, hm⟩ | ⟨l0, hm⟩
      · refine Wz (.b true) (Oq l0 rfl) <| Wz (.loc 0 3) (Ofa rfl) <| Wz (.s p0.Name) (Old rfl) <| Wz (.b (decide (p0.Name ≠ ([] : List UInt8)))) (Ocs (lit_tf (by simp only [toS_inj, ne_eq])) (op_bin rfl (a1 := .string (toS p0.Name)) (a2 := .string (toS ([] : List UInt8))) (by kernel_rfl) (by kernel_rfl) (fun _ => hb_sneq))) <| Wz (.b (decide (p0.Name ≠ ([] : List UInt8)))) (OpT rfl) <| Wz (.b (decide (p0.Name ≠ ([] : List UInt8)))) (OpF rfl) ?_
        rcases br hm with ⟨m0, hm⟩ | ⟨m0, hm⟩
        · refine Wz (.b true) (Oq m0 rfl) <| Wn <| Wn <| Wn <| Wn <| Wn <| Wn <| Wn <| Wn <| Wz (.b true) (OpT rfl) <| Wm (.b true) rfl <| Wn <| Wn <| Wn ?_
          refine Wn <| Wn <| Wn <| Wn <| Wn <| Wn <| Wz (.b true) (OpT rfl) <| Nn ?_
          exact AWP.weak (Weak.toK 2535301200456458802993406410752 0 0 []) (J9 () hm)
        refine Wz (.b false) (Oq m0 rfl) <| Wz (.loc 0 0) (Ofa rfl) <| Wz (.y p0.Kind) (Old rfl) <| Wz (.b (decide (((p0.Kind.toNat : Nat) : Int) ≠ 8))) (Ob2 (.int .u8 ((p0.Kind.toNat : Nat) : Int)) (.int .u8 8) rfl (fun _ => hb_neq)) ?_
        rcases br hm with ⟨v, hm⟩ | ⟨v, hm⟩
        · refine Wz (.b true) (Oq v rfl) <| Wz (.loc 0 2) (Ofa rfl) <| Wz (.s p0.Var) (Old rfl) <| Wz (.b (decide (p0.Var ≠ ([] : List UInt8)))) (Ocs (lit_tf (by simp only [toS_inj, ne_eq])) (op_bin rfl (a1 := .string (toS p0.Var)) (a2 := .string (toS ([] : List UInt8))) (by kernel_rfl) (by kernel_rfl) (fun _ => hb_sneq))) <| Wz (.b (decide (p0.Var ≠ ([] : List UInt8)))) (OpT rfl) <| Wz (.b (decide (p0.Var ≠ ([] : List UInt8)))) (OpF rfl) ?_
          rcases br hm with ⟨a0, hm⟩ | ⟨a0, hm⟩
          · refine Wz (.b true) (Oq a0 rfl) <| Wn <| Wn <| Wn <| Wn <| Wn <| Wn <| Wn <| Wn <| Wn <| Wz (.b true) (OpT rfl) <| Nn ?_
            exact AWP.weak (Weak.toK 2535301200456458802993406410752 0 0 []) (J9 () hm)
          refine Wz (.b false) (Oq a0 rfl) <| Wz (.loc 0 0) (Ofa rfl) <| Wz (.y p0.Kind) (Old rfl) <| Wz (.b (decide (((p0.Kind.toNat : Nat) : Int) ≠ 9))) (Ob2 (.int .u8 ((p0.Kind.toNat : Nat) : Int)) (.int .u8 9) rfl (fun _ => hb_neq)) ?_
          rcases br hm with ⟨l, hm⟩ | ⟨l, hm⟩
          · refine Wz (.b true) (Oq l rfl) <| Wz (.loc 0 4) (Ofa rfl) <| Wz (.agg [(.y p0.Val.Kind), (.i p0.Val.N), (.u p0.Val.Bits), (.s p0.Val.Text)]) (Old rfl) <| Wz (.agg [(.y 0), (.i 0), (.u 0), (.s ([] : List UInt8))]) (Old rfl) ?_
            obtain ⟨f, m, hm⟩ := bnd hm; replace m := Option.some.inj m
            refine Wz (.b f) (Ocs (Eq.trans (lit_tf (by simp only [toS_inj])) (congrArg (fun z => A.d (.lit (.bool z))) m)) (op_neq_struct rfl (la := [(.y p0.Val.Kind), (.i p0.Val.N), (.u p0.Val.Bits), (.s p0.Val.Text)]) (lb := [(.y 0), (.i 0), (.u 0), (.s ([] : List UInt8))]) (us := [.int .u8 ((p0.Val.Kind.toNat : Nat) : Int), .int .i64 p0.Val.N, .int .u64 p0.Val.Bits, .string (toS p0.Val.Text)]) (vs := [.int .u8 0, .int .i64 0, .int .u64 0, .string (toS ([] : List UInt8))]) (r := (decide (((p0.Val.Kind.toNat : Nat) : Int) = 0) && (decide (p0.Val.N = 0) && (decide (p0.Val.Bits = 0) && (decide ((toS p0.Val.Text) = (toS ([] : List UInt8))) && true))))) (by kernel_rfl) (by kernel_rfl) (by kernel_rfl) (by kernel_rfl) (by kernel_rfl))) <| Wz (.b f) (OpT rfl) <| Wz (.b f) (OpF rfl) <| Nn ?_
            exact AWP.weak (Weak.toK 2535301200456458802993406410752 0 0 []) (J10 (f) hm)
          refine Wz (.b false) (Oq l rfl) <| Wn <| Wn <| Wn <| Wn <| Wz (.b false) (OpF rfl) <| Wz (.b false) (OpF rfl) <| Nn ?_
          exact AWP.weak (Weak.toK 2535301200456458802993406410752 0 0 []) (J11 () hm)
        refine Wz (.b false) (Oq v rfl) <| Wn <| Wn <| Wn <| Wz (.b false) (OpF rfl) <| Wz (.b false) (OpF rfl) <| Wm (.b false) rfl <| Wz (.loc 0 0) (Ofa rfl) <| Wz (.y p0.Kind) (Old rfl) <| Wz (.b (decide (((p0.Kind.toNat : Nat) : Int) ≠ 9))) (Ob2 (.int .u8 ((p0.Kind.toNat : Nat) : Int)) (.int .u8 9) rfl (fun _ => hb_neq)) ?_
        rcases br hm with ⟨l, hm⟩ | ⟨l, hm⟩
        · refine Wz (.b true) (Oq l rfl) <| Wz (.loc 0 4) (Ofa rfl) <| Wz (.agg [(.y p0.Val.Kind), (.i p0.Val.N), (.u p0.Val.Bits), (.s p0.Val.Text)]) (Old rfl) <| Wz (.agg [(.y 0), (.i 0), (.u 0), (.s ([] : List UInt8))]) (Old rfl) ?_
          obtain ⟨f, m, hm⟩ := bnd hm; replace m := Option.some.inj m
          refine Wz (.b f) (Ocs (Eq.trans (lit_tf (by simp only [toS_inj])) (congrArg (fun z => A.d (.lit (.bool z))) m)) (op_neq_struct rfl (la := [(.y p0.Val.Kind), (.i p0.Val.N), (.u p0.Val.Bits), (.s p0.Val.Text)]) (lb := [(.y 0), (.i 0), (.u 0), (.s ([] : List UInt8))]) (us := [.int .u8 ((p0.Val.Kind.toNat : Nat) : Int), .int .i64 p0.Val.N, .int .u64 p0.Val.Bits, .string (toS p0.Val.Text)]) (vs := [.int .u8 0, .int .i64 0, .int .u64 0, .string (toS ([] : List UInt8))]) (r := (decide (((p0.Val.Kind.toNat : Nat) : Int) = 0) && (decide (p0.Val.N = 0) && (decide (p0.Val.Bits = 0) && (decide ((toS p0.Val.Text) = (toS ([] : List UInt8))) && true))))) (by kernel_rfl) (by kernel_rfl) (by kernel_rfl) (by kernel_rfl) (by kernel_rfl))) <| Wz (.b f) (OpT rfl) <| Wz (.b f) (OpF rfl) <| Nn ?_
          exact AWP.weak (Weak.toK 2535301200456458802993406410752 0 0 []) (J10 (f) hm)
        refine Wz (.b false) (Oq l rfl) <| Wn <| Wn <| Wn <| Wn <| Wz (.b false) (OpF rfl) <| Wz (.b false) (OpF rfl) <| Nn ?_
        exact AWP.weak (Weak.toK 2535301200456458802993406410752 0 0 []) (J11 () hm)
      refine Wz (.b false) (Oq l0 rfl) <| Wn <| Wn <| Wn <| Wz (.b false) (OpF rfl) <| Wz (.b false) (OpF rfl) <| Wm (.b false) rfl <| Wz (.loc 0 0) (Ofa rfl) <| Wz (.y p0.Kind) (Old rfl) <| Wz (.b (decide (((p0.Kind.toNat : Nat) : Int) ≠ 8))) (Ob2 (.int .u8 ((p0.Kind.toNat : Nat) : Int)) (.int .u8 8) rfl (fun _ => hb_neq)) ?_
      rcases br hm with ⟨v, hm⟩ | ⟨v, hm⟩
      · refine Wz (.b true) (Oq v rfl) <| Wz (.loc 0 2) (Ofa rfl) <| Wz (.s p0.Var) (Old rfl) <| Wz (.b (decide (p0.Var ≠ ([] : List UInt8)))) (Ocs (lit_tf (by simp only [toS_inj, ne_eq])) (op_bin rfl (a1 := .string (toS p0.Var)) (a2 := .string (toS ([] : List UInt8))) (by kernel_rfl) (by kernel_rfl) (fun _ => hb_sneq))) <| Wz (.b (decide (p0.Var ≠ ([] : List UInt8)))) (OpT rfl) <| Wz (.b (decide (p0.Var ≠ ([] : List UInt8)))) (OpF rfl) ?_
        rcases br hm with ⟨a0, hm⟩ | ⟨a0, hm⟩
        · refine Wz (.b true) (Oq a0 rfl) <| Wn <| Wn <| Wn <| Wn <| Wn <| Wn <| Wn <| Wn <| Wn <| Wz (.b true) (OpT rfl) <| Nn ?_
          exact AWP.weak (Weak.toK 2535301200456458802993406410752 0 0 []) (J9 () hm)
        refine Wz (.b false) (Oq a0 rfl) <| Wz (.loc 0 0) (Ofa rfl) <| Wz (.y p0.Kind) (Old rfl) <| Wz (.b (decide (((p0.Kind.toNat : Nat) : Int) ≠ 9))) (Ob2 (.int .u8 ((p0.Kind.toNat : Nat) : Int)) (.int .u8 9) rfl (fun _ => hb_neq)) ?_
        rcases br hm with ⟨l, hm⟩ | ⟨l, hm⟩
        · refine Wz (.b true) (Oq l rfl) <| Wz (.loc 0 4) (Ofa rfl) <| Wz (.agg [(.y p0.Val.Kind), (.i p0.Val.N), (.u p0.Val.Bits), (.s p0.Val.Text)]) (Old rfl) <| Wz (.agg [(.y 0), (.i 0), (.u 0), (.s ([] : List UInt8))]) (Old rfl) ?_
          obtain ⟨f, m, hm⟩ := bnd hm; replace m := Option.some.inj m
          refine Wz (.b f) (Ocs (Eq.trans (lit_tf (by simp only [toS_inj])) (congrArg (fun z => A.d (.lit (.bool z))) m)) (op_neq_struct rfl (la := [(.y p0.Val.Kind), (.i p0.Val.N), (.u p0.Val.Bits), (.s p0.Val.Text)]) (lb := [(.y 0), (.i 0), (.u 0), (.s ([] : List UInt8))]) (us := [.int .u8 ((p0.Val.Kind.toNat : Nat) : Int), .int .i64 p0.Val.N, .int .u64 p0.Val.Bits, .string (toS p0.Val.Text)]) (vs := [.int .u8 0, .int .i64 0, .int .u64 0, .string (toS ([] : List UInt8))]) (r := (decide (((p0.Val.Kind.toNat : Nat) : Int) = 0) && (decide (p0.Val.N = 0) && (decide (p0.Val.Bits = 0) && (decide ((toS p0.Val.Text) = (toS ([] : List UInt8))) && true))))) (by kernel_rfl) (by kernel_rfl) (by kernel_rfl) (by kernel_rfl) (by kernel_rfl))) <| Wz (.b f) (OpT rfl) <| Wz (.b f) (OpF rfl) <| Nn ?_
          exact AWP.weak (Weak.toK 2535301200456458802993406410752 0 0 []) (J10 (f) hm)
        refine Wz (.b false) (Oq l rfl) <| Wn <| Wn <| Wn <| Wn <| Wz (.b false) (OpF rfl) <| Wz (.b false) (OpF rfl) <| Nn ?_
        exact AWP.weak (Weak.toK 2535301200456458802993406410752 0 0 []) (J11 () hm)
      refine Wz (.b false) (Oq v rfl) <| Wn <| Wn <| Wn <| Wz (.b false) (OpF rfl) <| Wz (.b false) (OpF rfl) <| Wm (.b false) rfl <| Wz (.loc 0 0) (Ofa rfl) <| Wz (.y p0.Kind) (Old rfl) <| Wz (.b (decide (((p0.Kind.toNat : Nat) : Int) ≠ 9))) (Ob2 (.int .u8 ((p0.Kind.toNat : Nat) : Int)) (.int .u8 9) rfl (fun _ => hb_neq)) ?_
      rcases br hm with ⟨l, hm⟩ | ⟨l, hm⟩
      · refine Wz (.b true) (Oq l rfl) <| Wz (.loc 0 4) (Ofa rfl) <| Wz (.agg [(.y p0.Val.Kind), (.i p0.Val.N), (.u p0.Val.Bits), (.s p0.Val.Text)]) (Old rfl) <| Wz (.agg [(.y 0), (.i 0), (.u 0), (.s ([] : List UInt8))]) (Old rfl) ?_
        obtain ⟨f, m, hm⟩ := bnd hm; replace m := Option.some.inj m
        refine Wz (.b f) (Ocs (Eq.trans (lit_tf (by simp only [toS_inj])) (congrArg (fun z => A.d (.lit (.bool z))) m)) (op_neq_struct rfl (la := [(.y p0.Val.Kind), (.i p0.Val.N), (.u p0.Val.Bits), (.s p0.Val.Text)]) (lb := [(.y 0), (.i 0), (.u 0), (.s ([] : List UInt8))]) (us := [.int .u8 ((p0.Val.Kind.toNat : Nat) : Int), .int .i64 p0.Val.N, .int .u64 p0.Val.Bits, .string (toS p0.Val.Text)]) (vs := [.int .u8 0, .int .i64 0, .int .u64 0, .string (toS ([] : List UInt8))]) (r := (decide (((p0.Val.Kind.toNat : Nat) : Int) = 0) && (decide (p0.Val.N = 0) && (decide (p0.Val.Bits = 0) && (decide ((toS p0.Val.Text) = (toS ([] : List UInt8))) && true))))) (by kernel_rfl) (by kernel_rfl) (by kernel_rfl) (by kernel_rfl) (by kernel_rfl))) <| Wz (.b f) (OpT rfl) <| Wz (.b f) (OpF rfl) <| Nn ?_
        exact AWP.weak (Weak.toK 2535301200456458802993406410752 0 0 []) (J10 (f) hm)
      refine Wz (.b false) (Oq l rfl) <| Wn <| Wn <| Wn <| Wn <| Wz (.b false) (OpF rfl) <| Wz (.b false) (OpF rfl) <| Nn ?_
      exact AWP.weak (Weak.toK 2535301200456458802993406410752 0 0 []) (J11 () hm)
    refine Wz (.b false) (Oq k0 rfl) <| Wn <| Wn <| Wn <| Wz (.b false) (OpF rfl) <| Wm (.b false) rfl <| Wn <| Wn <| Wn <| Wz (.b false) (OpF rfl) <| Wz (.b false) (OpF rfl) <| Wm (.b false) rfl <| Wz (.loc 0 0) (Ofa rfl) <| Wz (.y p0.Kind) (Old rfl) ?_
    refine Wz (.b (decide (((p0.Kind.toNat : Nat) : Int) ≠ 8))) (Ob2 (.int .u8 ((p0.Kind.toNat : Nat) : Int)) (.int .u8 8) rfl (fun _ => hb_neq)) ?_
    rcases br hm with ⟨v, hm⟩ | ⟨v, hm⟩
    · refine Wz (.b true) (Oq v rfl) <| Wz (.loc 0 2) (Ofa rfl) <| Wz (.s p0.Var) (Old rfl) <| Wz (.b (decide (p0.Var ≠ ([] : List UInt8)))) (Ocs (lit_tf (by simp only [toS_inj, ne_eq])) (op_bin rfl (a1 := .string (toS p0.Var)) (a2 := .string (toS ([] : List UInt8))) (by kernel_rfl) (by kernel_rfl) (fun _ => hb_sneq))) <| Wz (.b (decide (p0.Var ≠ ([] : List UInt8)))) (OpT rfl) <| Wz (.b (decide (p0.Var ≠ ([] : List UInt8)))) (OpF rfl) ?_
      rcases br hm with ⟨a0, hm⟩ | ⟨a0, hm⟩
      · refine Wz (.b true) (Oq a0 rfl) <| Wn <| Wn <| Wn <| Wn <| Wn <| Wn <| Wn <| Wn <| Wn <| Wz (.b true) (OpT rfl) <| Nn ?_
        exact AWP.weak (Weak.toK 2535301200456458802993406410752 0 0 []) (J9 () hm)
      refine Wz (.b false) (Oq a0 rfl) <| Wz (.loc 0 0) (Ofa rfl) <| Wz (.y p0.Kind) (Old rfl) <| Wz (.b (decide (((p0.Kind.toNat : Nat) : Int) ≠ 9))) (Ob2 (.int .u8 ((p0.Kind.toNat : Nat) : Int)) (.int .u8 9) rfl (fun _ => hb_neq)) ?_
      rcases br hm with ⟨l, hm⟩ | ⟨l, hm⟩
      · refine Wz (.b true) (Oq l rfl) <| Wz (.loc 0 4) (Ofa rfl) <| Wz (.agg [(.y p0.Val.Kind), (.i p0.Val.N), (.u p0.Val.Bits), (.s p0.Val.Text)]) (Old rfl) <| Wz (.agg [(.y 0), (.i 0), (.u 0), (.s ([] : List UInt8))]) (Old rfl) ?_
        obtain ⟨f, m, hm⟩ := bnd hm; replace m := Option.some.inj m
        refine Wz (.b f) (Ocs (Eq.trans (lit_tf (by simp only [toS_inj])) (congrArg (fun z => A.d (.lit (.bool z))) m)) (op_neq_struct rfl (la := [(.y p0.Val.Kind), (.i p0.Val.N), (.u p0.Val.Bits), (.s p0.Val.Text)]) (lb := [(.y 0), (.i 0), (.u 0), (.s ([] : List UInt8))]) (us := [.int .u8 ((p0.Val.Kind.toNat : Nat) : Int), .int .i64 p0.Val.N, .int .u64 p0.Val.Bits, .string (toS p0.Val.Text)]) (vs := [.int .u8 0, .int .i64 0, .int .u64 0, .string (toS ([] : List UInt8))]) (r := (decide (((p0.Val.Kind.toNat : Nat) : Int) = 0) && (decide (p0.Val.N = 0) && (decide (p0.Val.Bits = 0) && (decide ((toS p0.Val.Text) = (toS ([] : List UInt8))) && true))))) (by kernel_rfl) (by kernel_rfl) (by kernel_rfl) (by kernel_rfl) (by kernel_rfl))) <| Wz (.b f) (OpT rfl) <| Wz (.b f) (OpF rfl) <| Nn ?_
        exact AWP.weak (Weak.toK 2535301200456458802993406410752 0 0 []) (J10 (f) hm)
      refine Wz (.b false) (Oq l rfl) <| Wn <| Wn <| Wn <| Wn <| Wz (.b false) (OpF rfl) <| Wz (.b false) (OpF rfl) <| Nn ?_
      exact AWP.weak (Weak.toK 2535301200456458802993406410752 0 0 []) (J11 () hm)
    refine Wz (.b false) (Oq v rfl) <| Wn <| Wn <| Wn <| Wz (.b false) (OpF rfl) <| Wz (.b false) (OpF rfl) <| Wm (.b false) rfl <| Wz (.loc 0 0) (Ofa rfl) <| Wz (.y p0.Kind) (Old rfl) <| Wz (.b (decide (((p0.Kind.toNat : Nat) : Int) ≠ 9))) (Ob2 (.int .u8 ((p0.Kind.toNat : Nat) : Int)) (.int .u8 9) rfl (fun _ => hb_neq)) ?_
    rcases br hm with ⟨l, hm⟩ | ⟨l, hm⟩
    · refine Wz (.b true) (Oq l rfl) <| Wz (.loc 0 4) (Ofa rfl) <| Wz (.agg [(.y p0.Val.Kind), (.i p0.Val.N), (.u p0.Val.Bits), (.s p0.Val.Text)]) (Old rfl) <| Wz (.agg [(.y 0), (.i 0), (.u 0), (.s ([] : List UInt8))]) (Old rfl) ?_
      obtain ⟨f, m, hm⟩ := bnd hm; replace m := Option.some.inj m
      refine Wz (.b f) (Ocs (Eq.trans (lit_tf (by simp only [toS_inj])) (congrArg (fun z => A.d (.lit (.bool z))) m)) (op_neq_struct rfl (la := [(.y p0.Val.Kind), (.i p0.Val.N), (.u p0.Val.Bits), (.s p0.Val.Text)]) (lb := [(.y 0), (.i 0), (.u 0), (.s ([] : List UInt8))]) (us := [.int .u8 ((p0.Val.Kind.toNat : Nat) : Int), .int .i64 p0.Val.N, .int .u64 p0.Val.Bits, .string (toS p0.Val.Text)]) (vs := [.int .u8 0, .int .i64 0, .int .u64 0, .string (toS ([] : List UInt8))]) (r := (decide (((p0.Val.Kind.toNat : Nat) : Int) = 0) && (decide (p0.Val.N = 0) && (decide (p0.Val.Bits = 0) && (decide ((toS p0.Val.Text) = (toS ([] : List UInt8))) && true))))) (by kernel_rfl) (by kernel_rfl) (by kernel_rfl) (by kernel_rfl) (by kernel_rfl))) <| Wz (.b f) (OpT rfl) <| Wz (.b f) (OpF rfl) <| Nn ?_
      exact AWP.weak (Weak.toK 2535301200456458802993406410752 0 0 []) (J10 (f) hm)
    refine Wz (.b false) (Oq l rfl) <| Wn <| Wn <| Wn <| Wn <| Wz (.b false) (OpF rfl) <| Wz (.b false) (OpF rfl) <| Nn ?_
    exact AWP.weak (Weak.toK 2535301200456458802993406410752 0 0 []) (J11 () hm)
  refine Wz (.b false) (Oq z0 rfl) <| Wn <| Wn <| Wn <| Wz (.b false) (OpF rfl) <| Wm (.b false) rfl <| Wz (.loc 0 0) (Ofa rfl) <| Wz (.y p0.Kind) (Old rfl) <| Wz (.b (decide (((p0.Kind.toNat : Nat) : Int) ≠ 7))) (Ob2 (.int .u8 ((p0.Kind.toNat : Nat) : Int)) (.int .u8 7) rfl (fun _ => hb_neq)) ?_
  rcases br hm with ⟨k0, hm⟩ | ⟨k0, hm⟩
  · refine Wz (.b true) (Oq k0 rfl) <| Wz (.loc 0 0) (Ofa rfl) <| Wz (.y p0.Kind) (Old rfl) <| Wz (.b (decide (((p0.Kind.toNat : Nat) : Int) ≠ 8))) (Ob2 (.int .u8 ((p0.Kind.toNat : Nat) : Int)) (.int .u8 8) rfl (fun _ => hb_neq)) <| Wz (.b (decide (((p0.Kind.toNat : Nat) : Int) ≠ 8))) (OpT rfl) ?_
    rcases br hm with ⟨l0, hm⟩ | ⟨l0, hm⟩
    · refine Wz (.b true) (Oq l0 rfl) <| Wz (.loc 0 3) (Ofa rfl) <| Wz (.s p0.Name) (Old rfl) <| Wz (.b (decide (p0.Name ≠ ([] : List UInt8)))) (Ocs (lit_tf (by simp only [toS_inj, ne_eq])) (op_bin rfl (a1 := .string (toS p0.Name)) (a2 := .string (toS ([] : List UInt8))) (by kernel_rfl) (by kernel_rfl) (fun _ => hb_sneq))) <| Wz (.b (decide (p0.Name ≠ ([] : List UInt8)))) (OpT rfl) <| Wz (.b (decide (p0.Name ≠ ([] : List UInt8)))) (OpF rfl) ?_
      rcases br hm with ⟨m0, hm⟩ | ⟨m0, hm⟩
      · refine Wz (.b true) (Oq m0 rfl) <| Wn <| Wn <| Wn <| Wn <| Wn <| Wn <| Wn <| Wn <| Wz (.b true) (OpT rfl) <| Wm (.b true) rfl <| Wn <| Wn <| Wn ?_
        refine Wn <| Wn <| Wn <| Wn <| Wn <| Wn <| Wz (.b true) (OpT rfl) <| Nn ?_
        exact AWP.weak (Weak.toK 2535301200456458802993406410752 0 0 []) (J9 () hm)
      refine Wz (.b false) (Oq m0 rfl) <| Wz (.loc 0 0) (Ofa rfl) <| Wz (.y p0.Kind) (Old rfl) <| Wz (.b (decide (((p0.Kind.toNat : Nat) : Int) ≠ 8))) (Ob2 (.int .u8 ((p0.Kind.toNat : Nat) : Int)) (.int .u8 8) rfl (fun _ => hb_neq)) ?_
      rcases br hm with ⟨v, hm⟩ | ⟨v, hm⟩
      · refine Wz (.b true) (Oq v rfl) <| Wz (.loc 0 2) (Ofa rfl) <| Wz (.s p0.Var) (Old rfl) <| Wz (.b (decide (p0.Var ≠ ([] : List UInt8)))) (Ocs (lit_tf (by simp only [toS_inj, ne_eq])) (op_bin rfl (a1 := .string (toS p0.Var)) (a2 := .string (toS ([] : List UInt8))) (by kernel_rfl) (by kernel_rfl) (fun _ => hb_sneq))) <| Wz (.b (decide (p0.Var ≠ ([] : List UInt8)))) (OpT rfl) <| Wz (.b (decide (p0.Var ≠ ([] : List UInt8)))) (OpF rfl) ?_
        rcases br hm with ⟨a0, hm⟩ | ⟨a0, hm⟩
        · refine Wz (.b true) (Oq a0 rfl) <| Wn <| Wn <| Wn <| Wn <| Wn <| Wn <| Wn <| Wn <| Wn <| Wz (.b true) (OpT rfl) <| Nn ?_
          exact AWP.weak (Weak.toK 2535301200456458802993406410752 0 0 []) (J9 () hm)
        refine Wz (.b false) (Oq a0 rfl) <| Wz (.loc 0 0) (Ofa rfl) <| Wz (.y p0.Kind) (Old rfl) <| Wz (.b (decide (((p0.Kind.toNat : Nat) : Int) ≠ 9))) (Ob2 (.int .u8 ((p0.Kind.toNat : Nat) : Int)) (.int .u8 9) rfl (fun _ => hb_neq)) ?_
        rcases br hm with ⟨l, hm⟩ | ⟨l, hm⟩
        · refine Wz (.b true) (Oq l rfl) <| Wz (.loc 0 4) (Ofa rfl) <| Wz (.agg [(.y p0.Val.Kind), (.i p0.Val.N), (.u p0.Val.Bits), (.s p0.Val.Text)]) (Old rfl) <| Wz (.agg [(.y 0), (.i 0), (.u 0), (.s ([] : List UInt8))]) (Old rfl) ?_
          obtain ⟨f, m, hm⟩ := bnd hm; replace m := Option.some.inj m
          refine Wz (.b f) (Ocs (Eq.trans (lit_tf (by simp only [toS_inj])) (congrArg (fun z => A.d (.lit (.bool z))) m)) (op_neq_struct rfl (la := [(.y p0.Val.Kind), (.i p0.Val.N), (.u p0.Val.Bits), (.s p0.Val.Text)]) (lb := [(.y 0), (.i 0), (.u 0), (.s ([] : List UInt8))]) (us := [.int .u8 ((p0.Val.Kind.toNat : Nat) : Int), .int .i64 p0.Val.N, .int .u64 p0.Val.Bits, .string (toS p0.Val.Text)]) (vs := [.int .u8 0, .int .i64 0, .int .u64 0, .string (toS ([] : List UInt8))]) (r := (decide (((p0.Val.Kind.toNat : Nat) : Int) = 0) && (decide (p0.Val.N = 0) && (decide (p0.Val.Bits = 0) && (decide ((toS p0.Val.Text) = (toS ([] : List UInt8))) && true))))) (by kernel_rfl) (by kernel_rfl) (by kernel_rfl) (by kernel_rfl) (by kernel_rfl))) <| Wz (.b f) (OpT rfl) <| Wz (.b f) (OpF rfl) <| Nn ?_
          exact AWP.weak (Weak.toK 2535301200456458802993406410752 0 0 []) (J10 (f) hm)
        refine Wz (.b false) (Oq l rfl) <| Wn <| Wn <| Wn <| Wn <| Wz (.b false) (OpF rfl) <| Wz (.b false) (OpF rfl) <| Nn ?_
        exact AWP.weak (Weak.toK 2535301200456458802993406410752 0 0 []) (J11 () hm)
      refine Wz (.b false) (Oq v rfl) <| Wn <| Wn <| Wn <| Wz (.b false) (OpF rfl) <| Wz (.b false) (OpF rfl) <| Wm (.b false) rfl <| Wz (.loc 0 0) (Ofa rfl) <| Wz (.y p0.Kind) (Old rfl) <| Wz (.b (decide (((p0.Kind.toNat : Nat) : Int) ≠ 9))) (Ob2 (.int .u8 ((p0.Kind.toNat : Nat) : Int)) (.int .u8 9) rfl (fun _ => hb_neq)) ?_
      rcases br hm with ⟨l, hm⟩ | ⟨l, hm⟩
      · refine Wz (.b true) (Oq l rfl) <| Wz (.loc 0 4) (Ofa rfl) <| Wz (.agg [(.y p0.Val.Kind), (.i p0.Val.N), (.u p0.Val.Bits), (.s p0.Val.Text)]) (Old rfl) <| Wz (.agg [(.y 0), (.i 0), (.u 0), (.s ([] : List UInt8))]) (Old rfl) ?_
        obtain ⟨f, m, hm⟩ := bnd hm; replace m := Option.some.inj m
        refine Wz (.b f) (Ocs (Eq.trans (lit_tf (by simp only [toS_inj])) (congrArg (fun z => A.d (.lit (.bool z))) m)) (op_neq_struct rfl (la := [(.y p0.Val.Kind), (.i p0.Val.N), (.u p0.Val.Bits), (.s p0.Val.Text)]) (lb := [(.y 0), (.i 0), (.u 0), (.s ([] : List UInt8))]) (us := [.int .u8 ((p0.Val.Kind.toNat : Nat) : Int), .int .i64 p0.Val.N, .int .u64 p0.Val.Bits, .string (toS p0.Val.Text)]) (vs := [.int .u8 0, .int .i64 0, .int .u64 0, .string (toS ([] : List UInt8))]) (r := (decide (((p0.Val.Kind.toNat : Nat) : Int) = 0) && (decide (p0.Val.N = 0) && (decide (p0.Val.Bits = 0) && (decide ((toS p0.Val.Text) = (toS ([] : List UInt8))) && true))))) (by kernel_rfl) (by kernel_rfl) (by kernel_rfl) (by kernel_rfl) (by kernel_rfl))) <| Wz (.b f) (OpT rfl) <| Wz (.b f) (OpF rfl) <| Nn ?_
        exact AWP.weak (Weak.toK 2535301200456458802993406410752 0 0 []) (J10 (f) hm)
      refine Wz (.b false) (Oq l rfl) <| Wn <| Wn <| Wn <| Wn <| Wz (.b false) (OpF rfl) <| Wz (.b false) (OpF rfl) <| Nn ?_
      exact AWP.weak (Weak.toK 2535301200456458802993406410752 0 0 []) (J11 () hm)
    refine Wz (.b false) (Oq l0 rfl) <| Wn <| Wn <| Wn <| Wz (.b false) (OpF rfl) <| Wz (.b false) (OpF rfl) <| Wm (.b false) rfl <| Wz (.loc 0 0) (Ofa rfl) <| Wz (.y p0.Kind) (Old rfl) <| Wz (.b (decide (((p0.Kind.toNat : Nat) : Int) ≠ 8))) (Ob2 (.int .u8 ((p0.Kind.toNat : Nat) : Int)) (.int .u8 8) rfl (fun _ => hb_neq)) ?_
    rcases br hm with ⟨v, hm⟩ | ⟨v, hm⟩
    · refine Wz (.b true) (Oq v rfl) <| Wz (.loc 0 2) (Ofa rfl) <| Wz (.s p0.Var) (Old rfl) <| Wz (.b (decide (p0.Var ≠ ([] : List UInt8)))) (Ocs (lit_tf (by simp only [toS_inj, ne_eq])) (op_bin rfl (a1 := .string (toS p0.Var)) (a2 := .string (toS ([] : List UInt8))) (by kernel_rfl) (by kernel_rfl) (fun _ => hb_sneq))) <| Wz (.b (decide (p0.Var ≠ ([] : List UInt8)))) (OpT rfl) <| Wz (.b (decide (p0.Var ≠ ([] : List UInt8)))) (OpF rfl) ?_
      rcases br hm with ⟨a0, hm⟩ | ⟨a0, hm⟩
      · refine Wz (.b true) (Oq a0 rfl) <| Wn <| Wn <| Wn <| Wn <| Wn <| Wn <| Wn <| Wn <| Wn <| Wz (.b true) (OpT rfl) <| Nn ?_
        exact AWP.weak (Weak.toK 2535301200456458802993406410752 0 0 []) (J9 () hm)
      refine Wz (.b false) (Oq a0 rfl) <| Wz (.loc 0 0) (Ofa rfl) <| Wz (.y p0.Kind) (Old rfl) <| Wz (.b (decide (((p0.Kind.toNat : Nat) : Int) ≠ 9))) (Ob2 (.int .u8 ((p0.Kind.toNat : Nat) : Int)) (.int .u8 9) rfl (fun _ => hb_neq)) ?_
      rcases br hm with ⟨l, hm⟩ | ⟨l, hm⟩
      · refine Wz (.b true) (Oq l rfl) <| Wz (.loc 0 4) (Ofa rfl) <| Wz (.agg [(.y p0.Val.Kind), (.i p0.Val.N), (.u p0.Val.Bits), (.s p0.Val.Text)]) (Old rfl) <| Wz (.agg [(.y 0), (.i 0), (.u 0), (.s ([] : List UInt8))]) (Old rfl) ?_
        obtain ⟨f, m, hm⟩ := bnd hm; replace m := Option.some.inj m
        refine Wz (.b f) (Ocs (Eq.trans (lit_tf (by simp only [toS_inj])) (congrArg (fun z => A.d (.lit (.bool z))) m)) (op_neq_struct rfl (la := [(.y p0.Val.Kind), (.i p0.Val.N), (.u p0.Val.Bits), (.s p0.Val.Text)]) (lb := [(.y 0), (.i 0), (.u 0), (.s ([] : List UInt8))]) (us := [.int .u8 ((p0.Val.Kind.toNat : Nat) : Int), .int .i64 p0.Val.N, .int .u64 p0.Val.Bits, .string (toS p0.Val.Text)]) (vs := [.int .u8 0, .int .i64 0, .int .u64 0, .string (toS ([] : List UInt8))]) (r := (decide (((p0.Val.Kind.toNat : Nat) : Int) = 0) && (decide (p0.Val.N = 0) && (decide (p0.Val.Bits = 0) && (decide ((toS p0.Val.Text) = (toS ([] : List UInt8))) && true))))) (by kernel_rfl) (by kernel_rfl) (by kernel_rfl) (by kernel_rfl) (by kernel_rfl))) <| Wz (.b f) (OpT rfl) <| Wz (.b f) (OpF rfl) <| Nn ?_
        exact AWP.weak (Weak.toK 2535301200456458802993406410752 0 0 []) (J10 (f) hm)
      refine Wz (.b false) (Oq l rfl) <| Wn <| Wn <| Wn <| Wn <| Wz (.b false) (OpF rfl) <| Wz (.b false) (OpF rfl) <| Nn ?_
      exact AWP.weak (Weak.toK 2535301200456458802993406410752 0 0 []) (J11 () hm)
    refine Wz (.b false) (Oq v rfl) <| Wn <| Wn <| Wn <| Wz (.b false) (OpF rfl) <| Wz (.b false) (OpF rfl) <| Wm (.b false) rfl <| Wz (.loc 0 0) (Ofa rfl) <| Wz (.y p0.Kind) (Old rfl) <| Wz (.b (decide (((p0.Kind.toNat : Nat) : Int) ≠ 9))) (Ob2 (.int .u8 ((p0.Kind.toNat : Nat) : Int)) (.int .u8 9) rfl (fun _ => hb_neq)) ?_
    rcases br hm with ⟨l, hm⟩ | ⟨l, hm⟩
    · refine Wz (.b true) (Oq l rfl) <| Wz (.loc 0 4) (Ofa rfl) <| Wz (.agg [(.y p0.Val.Kind), (.i p0.Val.N), (.u p0.Val.Bits), (.s p0.Val.Text)]) (Old rfl) <| Wz (.agg [(.y 0), (.i 0), (.u 0), (.s ([] : List UInt8))]) (Old rfl) ?_
      obtain ⟨f, m, hm⟩ := bnd hm; replace m := Option.some.inj m
      refine Wz (.b f) (Ocs (Eq.trans (lit_tf (by simp only [toS_inj])) (congrArg (fun z => A.d (.lit (.bool z))) m)) (op_neq_struct rfl (la := [(.y p0.Val.Kind), (.i p0.Val.N), (.u p0.Val.Bits), (.s p0.Val.Text)]) (lb := [(.y 0), (.i 0), (.u 0), (.s ([] : List UInt8))]) (us := [.int .u8 ((p0.Val.Kind.toNat : Nat) : Int), .int .i64 p0.Val.N, .int .u64 p0.Val.Bits, .string (toS p0.Val.Text)]) (vs := [.int .u8 0, .int .i64 0, .int .u64 0, .string (toS ([] : List UInt8))]) (r := (decide (((p0.Val.Kind.toNat : Nat) : Int) = 0) && (decide (p0.Val.N = 0) && (decide (p0.Val.Bits = 0) && (decide ((toS p0.Val.Text) = (toS ([] : List UInt8))) && true))))) (by kernel_rfl) (by kernel_rfl) (by kernel_rfl) (by kernel_rfl) (by kernel_rfl))) <| Wz (.b f) (OpT rfl) <| Wz (.b f) (OpF rfl) <| Nn ?_
      exact AWP.weak (Weak.toK 2535301200456458802993406410752 0 0 []) (J10 (f) hm)
    refine Wz (.b false) (Oq l rfl) <| Wn <| Wn <| Wn <| Wn <| Wz (.b false) (OpF rfl) <| Wz (.b false) (OpF rfl) <| Nn ?_
    exact AWP.weak (Weak.toK 2535301200456458802993406410752 0 0 []) (J11 () hm)
  refine Wz (.b false) (Oq k0 rfl) <| Wn <| Wn <| Wn <| Wz (.b false) (OpF rfl) <| Wm (.b false) rfl <| Wn <| Wn <| Wn <| Wz (.b false) (OpF rfl) <| Wz (.b false) (OpF rfl) <| Wm (.b false) rfl <| Wz (.loc 0 0) (Ofa rfl) <| Wz (.y p0.Kind) (Old rfl) ?_
  refine Wz (.b (decide (((p0.Kind.toNat : Nat) : Int) ≠ 8))) (Ob2 (.int .u8 ((p0.Kind.toNat : Nat) : Int)) (.int .u8 8) rfl (fun _ => hb_neq)) ?_
  rcases br hm with ⟨v, hm⟩ | ⟨v, hm⟩
  · refine Wz (.b true) (Oq v rfl) <| Wz (.loc 0 2) (Ofa rfl) <| Wz (.s p0.Var) (Old rfl) <| Wz (.b (decide (p0.Var ≠ ([] : List UInt8)))) (Ocs (lit_tf (by simp only [toS_inj, ne_eq])) (op_bin rfl (a1 := .string (toS p0.Var)) (a2 := .string (toS ([] : List UInt8))) (by kernel_rfl) (by kernel_rfl) (fun _ => hb_sneq))) <| Wz (.b (decide (p0.Var ≠ ([] : List UInt8)))) (OpT rfl) <| Wz (.b (decide (p0.Var ≠ ([] : List UInt8)))) (OpF rfl) ?_
    rcases br hm with ⟨a0, hm⟩ | ⟨a0, hm⟩
    · refine Wz (.b true) (Oq a0 rfl) <| Wn <| Wn <| Wn <| Wn <| Wn <| Wn <| Wn <| Wn <| Wn <| Wz (.b true) (OpT rfl) <| Nn ?_
      exact AWP.weak (Weak.toK 2535301200456458802993406410752 0 0 []) (J9 () hm)
    refine Wz (.b false) (Oq a0 rfl) <| Wz (.loc 0 0) (Ofa rfl) <| Wz (.y p0.Kind) (Old rfl) <| Wz (.b (decide (((p0.Kind.toNat : Nat) : Int) ≠ 9))) (Ob2 (.int .u8 ((p0.Kind.toNat : Nat) : Int)) (.int .u8 9) rfl (fun _ => hb_neq)) ?_
    rcases br hm with ⟨l, hm⟩ | ⟨l, hm⟩
    · refine Wz (.b true) (Oq l rfl) <| Wz (.loc 0 4) (Ofa rfl) <| Wz (.agg [(.y p0.Val.Kind), (.i p0.Val.N), (.u p0.Val.Bits), (.s p0.Val.Text)]) (Old rfl) <| Wz (.agg [(.y 0), (.i 0), (.u 0), (.s ([] : List UInt8))]) (Old rfl) ?_
      obtain ⟨f, m, hm⟩ := bnd hm; replace m := Option.some.inj m
      refine Wz (.b f) (Ocs (Eq.trans (lit_tf (by simp only [toS_inj])) (congrArg (fun z => A.d (.lit (.bool z))) m)) (op_neq_struct rfl (la := [(.y p0.Val.Kind), (.i p0.Val.N), (.u p0.Val.Bits), (.s p0.Val.Text)]) (lb := [(.y 0), (.i 0), (.u 0), (.s ([] : List UInt8))]) (us := [.int .u8 ((p0.Val.Kind.toNat : Nat) : Int), .int .i64 p0.Val.N, .int .u64 p0.Val.Bits, .string (toS p0.Val.Text)]) (vs := [.int .u8 0, .int .i64 0, .int .u64 0, .string (toS ([] : List UInt8))]) (r := (decide (((p0.Val.Kind.toNat : Nat) : Int) = 0) && (decide (p0.Val.N = 0) && (decide (p0.Val.Bits = 0) && (decide ((toS p0.Val.Text) = (toS ([] : List UInt8))) && true))))) (by kernel_rfl) (by kernel_rfl) (by kernel_rfl) (by kernel_rfl) (by kernel_rfl))) <| Wz (.b f) (OpT rfl) <| Wz (.b f) (OpF rfl) <| Nn ?_
      exact AWP.weak (Weak.toK 2535301200456458802993406410752 0 0 []) (J10 (f) hm)
    refine Wz (.b false) (Oq l rfl) <| Wn <| Wn <| Wn <| Wn <| Wz (.b false) (OpF rfl) <| Wz (.b false) (OpF rfl) <| Nn ?_
    exact AWP.weak (Weak.toK 2535301200456458802993406410752 0 0 []) (J11 () hm)
  refine Wz (.b false) (Oq v rfl) <| Wn <| Wn <| Wn <| Wz (.b false) (OpF rfl) <| Wz (.b false) (OpF rfl) <| Wm (.b false) rfl <| Wz (.loc 0 0) (Ofa rfl) <| Wz (.y p0.Kind) (Old rfl) <| Wz (.b (decide (((p0.Kind.toNat : Nat) : Int) ≠ 9))) (Ob2 (.int .u8 ((p0.Kind.toNat : Nat) : Int)) (.int .u8 9) rfl (fun _ => hb_neq)) ?_
  rcases br hm with ⟨l, hm⟩ | ⟨l, hm⟩
  · refine Wz (.b true) (Oq l rfl) <| Wz (.loc 0 4) (Ofa rfl) <| Wz (.agg [(.y p0.Val.Kind), (.i p0.Val.N), (.u p0.Val.Bits), (.s p0.Val.Text)]) (Old rfl) <| Wz (.agg [(.y 0), (.i 0), (.u 0), (.s ([] : List UInt8))]) (Old rfl) ?_
    obtain ⟨f, m, hm⟩ := bnd hm; replace m := Option.some.inj m
    refine Wz (.b f) (Ocs (Eq.trans (lit_tf (by simp only [toS_inj])) (congrArg (fun z => A.d (.lit (.bool z))) m)) (op_neq_struct rfl (la := [(.y p0.Val.Kind), (.i p0.Val.N), (.u p0.Val.Bits), (.s p0.Val.Text)]) (lb := [(.y 0), (.i 0), (.u 0), (.s ([] : List UInt8))]) (us := [.int .u8 ((p0.Val.Kind.toNat : Nat) : Int), .int .i64 p0.Val.N, .int .u64 p0.Val.Bits, .string (toS p0.Val.Text)]) (vs := [.int .u8 0, .int .i64 0, .int .u64 0, .string (toS ([] : List UInt8))]) (r := (decide (((p0.Val.Kind.toNat : Nat) : Int) = 0) && (decide (p0.Val.N = 0) && (decide (p0.Val.Bits = 0) && (decide ((toS p0.Val.Text) = (toS ([] : List UInt8))) && true))))) (by kernel_rfl) (by kernel_rfl) (by kernel_rfl) (by kernel_rfl) (by kernel_rfl))) <| Wz (.b f) (OpT rfl) <| Wz (.b f) (OpF rfl) <| Nn ?_
    exact AWP.weak (Weak.toK 2535301200456458802993406410752 0 0 []) (J10 (f) hm)
  refine Wz (.b false) (Oq l rfl) <| Wn <| Wn <| Wn <| Wn <| Wz (.b false) (OpF rfl) <| Wz (.b false) (OpF rfl) <| Nn ?_
  exact AWP.weak (Weak.toK 2535301200456458802993406410752 0 0 []) (J11 () hm)
 refine Sx <| Wz (.loc 0 0) (Ofa rfl) <| Wz (.y p0.Kind) (Old rfl) <| Wz (.b (decide (((p0.Kind.toNat : Nat) : Int) = 4))) (Ob2 (.int .u8 ((p0.Kind.toNat : Nat) : Int)) (.int .u8 4) rfl (fun _ => hb_eql)) ?_
 rcases br hm with ⟨e1, hm⟩ | ⟨e1, hm⟩
 · refine Wz (.b true) (Oq e1 rfl) <| Wz (.loc 0 1) (Ofa rfl) <| Wz (.y p0.Op) (Old rfl) <| Wz (.b (decide (((p0.Op.toNat : Nat) : Int) < 1))) (Ob2 (.int .u8 ((p0.Op.toNat : Nat) : Int)) (.int .u8 1) rfl (fun _ => hb_lss)) ?_
   rcases br hm with ⟨c1, hm⟩ | ⟨c1, hm⟩
   · refine Wz (.b true) (Oq c1 rfl) <| Wn <| Wn <| Wn <| Wz (.b true) (OpT rfl) <| Wz (.b true) (OpT rfl) <| Wm (.b true) rfl <| Wn <| Wn <| Wn <| Wn <| Wn <| Wn <| Wn ?_
     refine Wn <| Wn <| Wn <| Wn <| Wn <| Wn <| Wn <| Wz (.b true) (OpT rfl) <| Wm (.b true) rfl <| Wn <| Wn <| Wn <| Wn <| Wn ?_
     refine Wn <| Wn <| Wn <| Wn <| Wz (.b true) (OpT rfl) <| Wm (.b true) rfl <| Wn <| Wn <| Wn <| Wn <| Wn <| Wn <| Wn <| Wn ?_
     refine Wn <| Wz (.b true) (OpT rfl) <| Wm (.b true) rfl <| Nn ?_
     exact AWP.weak (Weak.toK 26 0 0 [0, 1]) (J1 () hm)
   refine Wz (.b false) (Oq c1 rfl) <| Wz (.loc 0 1) (Ofa rfl) <| Wz (.y p0.Op) (Old rfl) <| Wz (.b (decide ((6 : Int) < ((p0.Op.toNat : Nat) : Int)))) (Ob2 (.int .u8 ((p0.Op.toNat : Nat) : Int)) (.int .u8 6) rfl (fun _ => hb_gtr)) <| Wz (.b (decide ((6 : Int) < ((p0.Op.toNat : Nat) : Int)))) (OpF rfl) <| Wz (.b (decide ((6 : Int) < ((p0.Op.toNat : Nat) : Int)))) (OpT rfl) ?_
   rcases br hm with ⟨d1, hm⟩ | ⟨d1, hm⟩
   · refine Wz (.b true) (Oq d1 rfl) <| Wn <| Wn <| Wn <| Wn <| Wn <| Wn <| Wn <| Wn <| Wn <| Wn <| Wn <| Wn <| Wn ?_
     refine Wn <| Wz (.b true) (OpT rfl) <| Wm (.b true) rfl <| Wn <| Wn <| Wn <| Wn <| Wn <| Wn <| Wn <| Wn <| Wn <| Wz (.b true) (OpT rfl) <| Wm (.b true) rfl ?_
     refine Wn <| Wn <| Wn <| Wn <| Wn <| Wn <| Wn <| Wn <| Wn <| Wz (.b true) (OpT rfl) <| Wm (.b true) rfl <| Nn ?_
     exact AWP.weak (Weak.toK 26 0 0 [0, 1]) (J1 () hm)
   refine Wz (.b false) (Oq d1 rfl) <| Wz (.loc 0 0) (Ofa rfl) <| Wz (.y p0.Kind) (Old rfl) <| Wz (.b (decide (((p0.Kind.toNat : Nat) : Int) = 7))) (Ob2 (.int .u8 ((p0.Kind.toNat : Nat) : Int)) (.int .u8 7) rfl (fun _ => hb_eql)) ?_
   rcases br hm with ⟨n0, hm⟩ | ⟨n0, hm⟩
   · refine Wz (.b true) (Oq n0 rfl) <| Wn <| Wn <| Wn <| Wz (.b true) (OpT rfl) <| Wm (.b true) rfl <| Wz (.loc 0 3) (Ofa rfl) <| Wz (.s p0.Name) (Old rfl) ?_
     obtain ⟨e0, o0, hm⟩ := bnd hm
     refine Wz (.b e0) (Ocf [] [] [] 0 (ok_r06_Name p0.Name e0 o0) (fun a w => Try.call28 a w) rfl trivial) <| Wz (.b (!e0)) (Ocs (by kernel_rfl) (op_un rfl (a1 := .bool e0) (by kernel_rfl) (fun _ => hu_not))) <| Wz (.b (!e0)) (OpT rfl) <| Wz (.b (!e0)) (OpF rfl) ?_
     rcases br hm with ⟨f0, hm⟩ | ⟨f0, hm⟩
     · refine Wz (.b true) (Oq f0 rfl) <| Wn <| Wn <| Wn <| Wn <| Wn <| Wn <| Wn <| Wn <| Wn <| Wz (.b true) (OpT rfl) <| Wm (.b true) rfl <| Wn <| Wn ?_
       refine Wn <| Wn <| Wn <| Wn <| Wn <| Wn <| Wn <| Wz (.b true) (OpT rfl) <| Wm (.b true) rfl <| Nn ?_
       exact AWP.weak (Weak.toK 26 0 0 [0, 1]) (J1 () hm)
     refine Wz (.b false) (Oq f0 rfl) <| Wz (.loc 0 0) (Ofa rfl) <| Wz (.y p0.Kind) (Old rfl) <| Wz (.b (decide (((p0.Kind.toNat : Nat) : Int) = 8))) (Ob2 (.int .u8 ((p0.Kind.toNat : Nat) : Int)) (.int .u8 8) rfl (fun _ => hb_eql)) ?_
     rcases br hm with ⟨b0, hm⟩ | ⟨b0, hm⟩
     · refine Wz (.b true) (Oq b0 rfl) <| Wz (.loc 0 2) (Ofa rfl) <| Wz (.s p0.Var) (Old rfl) ?_
       obtain ⟨p, g0, hm⟩ := bnd hm
       refine Wz (.b p) (Ocf [] [] [] 0 (ok_r06_Name p0.Var p g0) (fun a w => Try.call28 a w) rfl trivial) <| Wz (.b (!p)) (Ocs (by kernel_rfl) (op_un rfl (a1 := .bool p) (by kernel_rfl) (fun _ => hu_not))) <| Wz (.b (!p)) (OpT rfl) <| Wz (.b (!p)) (OpF rfl) ?_
       rcases br hm with ⟨c0, hm⟩ | ⟨c0, hm⟩
       · refine Wz (.b true) (Oq c0 rfl) <| Wn <| Wn <| Wn <| Wn <| Wn <| Wn <| Wn <| Wn <| Wn <| Wz (.b true) (OpT rfl) <| Wm (.b true) rfl <| Nn ?_
         exact AWP.weak (Weak.toK 26 0 0 [0, 1]) (J1 () hm)
       refine Wz (.b false) (Oq c0 rfl) <| Wz (.loc 0 0) (Ofa rfl) <| Wz (.y p0.Kind) (Old rfl) <| Wz (.b (decide (((p0.Kind.toNat : Nat) : Int) = 9))) (Ob2 (.int .u8 ((p0.Kind.toNat : Nat) : Int)) (.int .u8 9) rfl (fun _ => hb_eql)) ?_
       rcases br hm with ⟨o, hm⟩ | ⟨o, hm⟩
       · refine Wz (.b true) (Oq o rfl) <| Wz (.loc 0 4) (Ofa rfl) <| Wz (.agg [(.y p0.Val.Kind), (.i p0.Val.N), (.u p0.Val.Bits), (.s p0.Val.Text)]) (Old rfl) ?_
         obtain ⟨c, d0, hm⟩ := bnd hm
         refine Wz (.i c) (Ocf [] [] [] 0 (ok_r04_Check p0.Val c d0) (fun a w => Try.call66 a w) rfl trivial) <| Wz (.b (decide (c ≠ 0))) (Obn rfl (fun _ => hb_neq (k := .i64))) <| Wz (.b (decide (c ≠ 0))) (OpT rfl) <| Wz (.b (decide (c ≠ 0))) (OpF rfl) <| Wm (.b (decide (c ≠ 0))) rfl <| Nn ?_
         exact AWP.weak (Weak.toK 26 0 0 [0, 1]) (J2 (decide (c ≠ 0)) hm)
       refine Wz (.b false) (Oq o rfl) <| Wn <| Wn <| Wn <| Wn <| Wz (.b false) (OpF rfl) <| Wz (.b false) (OpF rfl) <| Wm (.b false) rfl <| Nn ?_
       exact AWP.weak (Weak.toK 26 0 0 [0, 1]) (J3 () hm)
     refine Wz (.b false) (Oq b0 rfl) <| Wn <| Wn <| Wn <| Wn <| Wz (.b false) (OpF rfl) <| Wz (.b false) (OpF rfl) <| Wm (.b false) rfl <| Wz (.loc 0 0) (Ofa rfl) <| Wz (.y p0.Kind) (Old rfl) <| Wz (.b (decide (((p0.Kind.toNat : Nat) : Int) = 9))) (Ob2 (.int .u8 ((p0.Kind.toNat : Nat) : Int)) (.int .u8 9) rfl (fun _ => hb_eql)) ?_
     rcases br hm with ⟨o, hm⟩ | ⟨o, hm⟩
     · refine Wz (.b true) (Oq o rfl) <| Wz (.loc 0 4) (Ofa rfl) <| Wz (.agg [(.y p0.Val.Kind), (.i p0.Val.N), (.u p0.Val.Bits), (.s p0.Val.Text)]) (Old rfl) ?_
       obtain ⟨c, d0, hm⟩ := bnd hm
       refine Wz (.i c) (Ocf [] [] [] 0 (ok_r04_Check p0.Val c d0) (fun a w => Try.call66 a w) rfl trivial) <| Wz (.b (decide (c ≠ 0))) (Obn rfl (fun _ => hb_neq (k := .i64))) <| Wz (.b (decide (c ≠ 0))) (OpT rfl) <| Wz (.b (decide (c ≠ 0))) (OpF rfl) <| Wm (.b (decide (c ≠ 0))) rfl <| Nn ?_
       exact AWP.weak (Weak.toK 26 0 0 [0, 1]) (J2 (decide (c ≠ 0)) hm)
     refine Wz (.b false) (Oq o rfl) <| Wn <| Wn <| Wn <| Wn <| Wz (.b false) (OpF rfl) <| Wz (.b false) (OpF rfl) <| Wm (.b false) rfl <| Nn ?_
     exact AWP.weak (Weak.toK 26 0 0 [0, 1]) (J3 () hm)
   refine Wz (.b false) (Oq n0 rfl) <| Wz (.loc 0 0) (Ofa rfl) <| Wz (.y p0.Kind) (Old rfl) <| Wz (.b (decide (((p0.Kind.toNat : Nat) : Int) = 8))) (Ob2 (.int .u8 ((p0.Kind.toNat : Nat) : Int)) (.int .u8 8) rfl (fun _ => hb_eql)) <| Wz (.b (decide (((p0.Kind.toNat : Nat) : Int) = 8))) (OpF rfl) ?_
   rcases br hm with ⟨q0, hm⟩ | ⟨q0, hm⟩
   · refine Wz (.b true) (Oq q0 rfl) <| Wz (.loc 0 3) (Ofa rfl) <| Wz (.s p0.Name) (Old rfl) ?_
     obtain ⟨e0, o0, hm⟩ := bnd hm
     refine Wz (.b e0) (Ocf [] [] [] 0 (ok_r06_Name p0.Name e0 o0) (fun a w => Try.call28 a w) rfl trivial) <| Wz (.b (!e0)) (Ocs (by kernel_rfl) (op_un rfl (a1 := .bool e0) (by kernel_rfl) (fun _ => hu_not))) <| Wz (.b (!e0)) (OpT rfl) <| Wz (.b (!e0)) (OpF rfl) ?_
     rcases br hm with ⟨f0, hm⟩ | ⟨f0, hm⟩
     · refine Wz (.b true) (Oq f0 rfl) <| Wn <| Wn <| Wn <| Wn <| Wn <| Wn <| Wn <| Wn <| Wn <| Wz (.b true) (OpT rfl) <| Wm (.b true) rfl <| Wn <| Wn ?_
       refine Wn <| Wn <| Wn <| Wn <| Wn <| Wn <| Wn <| Wz (.b true) (OpT rfl) <| Wm (.b true) rfl <| Nn ?_
       exact AWP.weak (Weak.toK 26 0 0 [0, 1]) (J1 () hm)
     refine Wz (.b false) (Oq f0 rfl) <| Wz (.loc 0 0) (Ofa rfl) <| Wz (.y p0.Kind) (Old rfl) <| Wz (.b (decide (((p0.Kind.toNat : Nat) : Int) = 8))) (Ob2 (.int .u8 ((p0.Kind.toNat : Nat) : Int)) (.int .u8 8) rfl (fun _ => hb_eql)) ?_
     rcases br hm with ⟨b0, hm⟩ | ⟨b0, hm⟩
     · refine Wz (.b true) (Oq b0 rfl) <| Wz (.loc 0 2) (Ofa rfl) <| Wz (.s p0.Var) (Old rfl) ?_
       obtain ⟨p, g0, hm⟩ := bnd hm
       refine Wz (.b p) (Ocf [] [] [] 0 (ok_r06_Name p0.Var p g0) (fun a w => Try.call28 a w) rfl trivial) <| Wz (.b (!p)) (Ocs (by kernel_rfl) (op_un rfl (a1 := .bool p) (by kernel_rfl) (fun _ => hu_not))) <| Wz (.b (!p)) (OpT rfl) <| Wz (.b (!p)) (OpF rfl) ?_
       rcases br hm with ⟨c0, hm⟩ | ⟨c0, hm⟩
       · refine Wz (.b true) (Oq c0 rfl) <| Wn <| Wn <| Wn <| Wn <| Wn <| Wn <| Wn <| Wn <| Wn <| Wz (.b true) (OpT rfl) <| Wm (.b true) rfl <| Nn ?_
         exact AWP.weak (Weak.toK 26 0 0 [0, 1]) (J1 () hm)
       refine Wz (.b false) (Oq c0 rfl) <| Wz (.loc 0 0) (Ofa rfl) <| Wz (.y p0.Kind) (Old rfl) <| Wz (.b (decide (((p0.Kind.toNat : Nat) : Int) = 9))) (Ob2 (.int .u8 ((p0.Kind.toNat : Nat) : Int)) (.int .u8 9) rfl (fun _ => hb_eql)) ?_
       rcases br hm with ⟨o, hm⟩ | ⟨o, hm⟩
       · refine Wz (.b true) (Oq o rfl) <| Wz (.loc 0 4) (Ofa rfl) <| Wz (.agg [(.y p0.Val.Kind), (.i p0.Val.N), (.u p0.Val.Bits), (.s p0.Val.Text)]) (Old rfl) ?_
         obtain ⟨c, d0, hm⟩ := bnd hm
         refine Wz (.i c) (Ocf [] [] [] 0 (ok_r04_Check p0.Val c d0) (fun a w => Try.call66 a w) rfl trivial) <| Wz (.b (decide (c ≠ 0))) (Obn rfl (fun _ => hb_neq (k := .i64))) <| Wz (.b (decide (c ≠ 0))) (OpT rfl) <| Wz (.b (decide (c ≠ 0))) (OpF rfl) <| Wm (.b (decide (c ≠ 0))) rfl <| Nn ?_
         exact AWP.weak (Weak.toK 26 0 0 [0, 1]) (J2 (decide (c ≠ 0)) hm)
       refine Wz (.b false) (Oq o rfl) <| Wn <| Wn <| Wn <| Wn <| Wz (.b false) (OpF rfl) <| Wz (.b false) (OpF rfl) <| Wm (.b false) rfl <| Nn ?_
       exact AWP.weak (Weak.toK 26 0 0 [0, 1]) (J3 () hm)
     refine Wz (.b false) (Oq b0 rfl) <| Wn <| Wn <| Wn <| Wn <| Wz (.b false) (OpF rfl) <| Wz (.b false) (OpF rfl) <| Wm (.b false) rfl <| Wz (.loc 0 0) (Ofa rfl) <| Wz (.y p0.Kind) (Old rfl) <| Wz (.b (decide (((p0.Kind.toNat : Nat) : Int) = 9))) (Ob2 (.int .u8 ((p0.Kind.toNat : Nat) : Int)) (.int .u8 9) rfl (fun _ => hb_eql)) ?_
     rcases br hm with ⟨o, hm⟩ | ⟨o, hm⟩
     · refine Wz (.b true) (Oq o rfl) <| Wz (.loc 0 4) (Ofa rfl) <| Wz (.agg [(.y p0.Val.Kind), (.i p0.Val.N), (.u p0.Val.Bits), (.s p0.Val.Text)]) (Old rfl) ?_
       obtain ⟨c, d0, hm⟩ := bnd hm
       refine Wz (.i c) (Ocf [] [] [] 0 (ok_r04_Check p0.Val c d0) (fun a w => Try.call66 a w) rfl trivial) <| Wz (.b (decide (c ≠ 0))) (Obn rfl (fun _ => hb_neq (k := .i64))) <| Wz (.b (decide (c ≠ 0))) (OpT rfl) <| Wz (.b (decide (c ≠ 0))) (OpF rfl) <| Wm (.b (decide (c ≠ 0))) rfl <| Nn ?_
       exact AWP.weak (Weak.toK 26 0 0 [0, 1]) (J2 (decide (c ≠ 0)) hm)
     refine Wz (.b false) (Oq o rfl) <| Wn <| Wn <| Wn <| Wn <| Wz (.b false) (OpF rfl) <| Wz (.b false) (OpF rfl) <| Wm (.b false) rfl <| Nn ?_
     exact AWP.weak (Weak.toK 26 0 0 [0, 1]) (J3 () hm)
   refine Wz (.b false) (Oq q0 rfl) <| Wn <| Wn <| Wn <| Wn <| Wz (.b false) (OpF rfl) <| Wz (.b false) (OpF rfl) <| Wm (.b false) rfl <| Wz (.loc 0 0) (Ofa rfl) <| Wz (.y p0.Kind) (Old rfl) <| Wz (.b (decide (((p0.Kind.toNat : Nat) : Int) = 8))) (Ob2 (.int .u8 ((p0.Kind.toNat : Nat) : Int)) (.int .u8 8) rfl (fun _ => hb_eql)) ?_
   rcases br hm with ⟨b0, hm⟩ | ⟨b0, hm⟩
   · refine Wz (.b true) (Oq b0 rfl) <| Wz (.loc 0 2) (Ofa rfl) <| Wz (.s p0.Var) (Old rfl) ?_
     obtain ⟨p, g0, hm⟩ := bnd hm
     refine Wz (.b p) (Ocf [] [] [] 0 (ok_r06_Name p0.Var p g0) (fun a w => Try.call28 a w) rfl trivial) <| Wz (.b (!p)) (Ocs (by kernel_rfl) (op_un rfl (a1 := .bool p) (by kernel_rfl) (fun _ => hu_not))) <| Wz (.b (!p)) (OpT rfl) <| Wz (.b (!p)) (OpF rfl) ?_
     rcases br hm with ⟨c0, hm⟩ | ⟨c0, hm⟩
     · refine Wz (.b true) (Oq c0 rfl) <| Wn <| Wn <| Wn <| Wn <| Wn <| Wn <| Wn <| Wn <| Wn <| Wz (.b true) (OpT rfl) <| Wm (.b true) rfl <| Nn ?_
       exact AWP.weak (Weak.toK 26 0 0 [0, 1]) (J1 () hm)
     refine Wz (.b false) (Oq c0 rfl) <| Wz (.loc 0 0) (Ofa rfl) <| Wz (.y p0.Kind) (Old rfl) <| Wz (.b (decide (((p0.Kind.toNat : Nat) : Int) = 9))) (Ob2 (.int .u8 ((p0.Kind.toNat : Nat) : Int)) (.int .u8 9) rfl (fun _ => hb_eql)) ?_
     rcases br hm with ⟨o, hm⟩ | ⟨o, hm⟩
     · refine Wz (.b true) (Oq o rfl) <| Wz (.loc 0 4) (Ofa rfl) <| Wz (.agg [(.y p0.Val.Kind), (.i p0.Val.N), (.u p0.Val.Bits), (.s p0.Val.Text)]) (Old rfl) ?_
       obtain ⟨c, d0, hm⟩ := bnd hm
       refine Wz (.i c) (Ocf [] [] [] 0 (ok_r04_Check p0.Val c d0) (fun a w => Try.call66 a w) rfl trivial) <| Wz (.b (decide (c ≠ 0))) (Obn rfl (fun _ => hb_neq (k := .i64))) <| Wz (.b (decide (c ≠ 0))) (OpT rfl) <| Wz (.b (decide (c ≠ 0))) (OpF rfl) <| Wm (.b (decide (c ≠ 0))) rfl <| Nn ?_
       exact AWP.weak (Weak.toK 26 0 0 [0, 1]) (J2 (decide (c ≠ 0)) hm)
     refine Wz (.b false) (Oq o rfl) <| Wn <| Wn <| Wn <| Wn <| Wz (.b false) (OpF rfl) <| Wz (.b false) (OpF rfl) <| Wm (.b false) rfl <| Nn ?_
     exact AWP.weak (Weak.toK 26 0 0 [0, 1]) (J3 () hm)
   refine Wz (.b false) (Oq b0 rfl) <| Wn <| Wn <| Wn <| Wn <| Wz (.b false) (OpF rfl) <| Wz (.b false) (OpF rfl) <| Wm (.b false) rfl <| Wz (.loc 0 0) (Ofa rfl) <| Wz (.y p0.Kind) (Old rfl) <| Wz (.b (decide (((p0.Kind.toNat : Nat) : Int) = 9))) (Ob2 (.int .u8 ((p0.Kind.toNat : Nat) : Int)) (.int .u8 9) rfl (fun _ => hb_eql)) ?_
   rcases br hm with ⟨o, hm⟩ | ⟨o, hm⟩
   · refine Wz (.b true) (Oq o rfl) <| Wz (.loc 0 4) (Ofa rfl) <| Wz (.agg [(.y p0.Val.Kind), (.i p0.Val.N), (.u p0.Val.Bits), (.s p0.Val.Text)]) (Old rfl) ?_
     obtain ⟨c, d0, hm⟩ := bnd hm
     refine Wz (.i c) (Ocf [] [] [] 0 (ok_r04_Check p0.Val c d0) (fun a w => Try.call66 a w) rfl trivial) <| Wz (.b (decide (c ≠ 0))) (Obn rfl (fun _ => hb_neq (k := .i64))) <| Wz (.b (decide (c ≠ 0))) (OpT rfl) <| Wz (.b (decide (c ≠ 0))) (OpF rfl) <| Wm (.b (decide (c ≠ 0))) rfl <| Nn ?_
     exact AWP.weak (Weak.toK 26 0 0 [0, 1]) (J2 (decide (c ≠ 0)) hm)
   refine Wz (.b false) (Oq o rfl) <| Wn <| Wn <| Wn <| Wn <| Wz (.b false) (OpF rfl) <| Wz (.b false) (OpF rfl) <| Wm (.b false) rfl <| Nn ?_
   exact AWP.weak (Weak.toK 26 0 0 [0, 1]) (J3 () hm)
 refine Wz (.b false) (Oq e1 rfl) <| Wn <| Wn <| Wn <| Wn <| Wn <| Wn <| Wn <| Wn <| Wz (.b false) (OpF rfl) <| Wm (.b false) rfl <| Wz (.loc 0 0) (Ofa rfl) <| Wz (.y p0.Kind) (Old rfl) <| Wz (.b (decide (((p0.Kind.toNat : Nat) : Int) = 7))) (Ob2 (.int .u8 ((p0.Kind.toNat : Nat) : Int)) (.int .u8 7) rfl (fun _ => hb_eql)) ?_
 rcases br hm with ⟨n0, hm⟩ | ⟨n0, hm⟩
 · refine Wz (.b true) (Oq n0 rfl) <| Wn <| Wn <| Wn <| Wz (.b true) (OpT rfl) <| Wm (.b true) rfl <| Wz (.loc 0 3) (Ofa rfl) <| Wz (.s p0.Name) (Old rfl) ?_
   obtain ⟨e0, o0, hm⟩ := bnd hm
   refine Wz (.b e0) (Ocf [] [] [] 0 (ok_r06_Name p0.Name e0 o0) (fun a w => Try.call28 a w) rfl trivial) <| Wz (.b (!e0)) (Ocs (by kernel_rfl) (op_un rfl (a1 := .bool e0) (by kernel_rfl) (fun _ => hu_not))) <| Wz (.b (!e0)) (OpT rfl) <| Wz (.b (!e0)) (OpF rfl) ?_
   rcases br hm with ⟨f0, hm⟩ | ⟨f0, hm⟩
   · refine Wz (.b true) (Oq f0 rfl) <| Wn <| Wn <| Wn <| Wn <| Wn <| Wn <| Wn <| Wn <| Wn <| Wz (.b true) (OpT rfl) <| Wm (.b true) rfl <| Wn <| Wn ?_
     refine Wn <| Wn <| Wn <| Wn <| Wn <| Wn <| Wn <| Wz (.b true) (OpT rfl) <| Wm (.b true) rfl <| Nn ?_
     exact AWP.weak (Weak.toK 26 0 0 [0, 1]) (J1 () hm)
   refine Wz (.b false) (Oq f0 rfl) <| Wz (.loc 0 0) (Ofa rfl) <| Wz (.y p0.Kind) (Old rfl) <| Wz (.b (decide (((p0.Kind.toNat : Nat) : Int) = 8))) (Ob2 (.int .u8 ((p0.Kind.toNat : Nat) : Int)) (.int .u8 8) rfl (fun _ => hb_eql)) ?_
   rcases br hm with ⟨b0, hm⟩ | ⟨b0, hm⟩
   · refine Wz (.b true) (Oq b0 rfl) <| Wz (.loc 0 2) (Ofa rfl) <| Wz (.s p0.Var) (Old rfl) ?_
     obtain ⟨p, g0, hm⟩ := bnd hm
     refine Wz (.b p) (Ocf [] [] [] 0 (ok_r06_Name p0.Var p g0) (fun a w => Try.call28 a w) rfl trivial) <| Wz (.b (!p)) (Ocs (by kernel_rfl) (op_un rfl (a1 := .bool p) (by kernel_rfl) (fun _ => hu_not))) <| Wz (.b (!p)) (OpT rfl) <| Wz (.b (!p)) (OpF rfl) ?_
     rcases br hm with ⟨c0, hm⟩ | ⟨c0, hm⟩
     · refine Wz (.b true) (Oq c0 rfl) <| Wn <| Wn <| Wn <| Wn <| Wn <| Wn <| Wn <| Wn <| Wn <| Wz (.b true) (OpT rfl) <| Wm (.b true) rfl <| Nn ?_
       exact AWP.weak (Weak.toK 26 0 0 [0, 1]) (J1 () hm)
     refine Wz (.b false) (Oq c0 rfl) <| Wz (.loc 0 0) (Ofa rfl) <| Wz (.y p0.Kind) (Old rfl) <| Wz (.b (decide (((p0.Kind.toNat : Nat) : Int) = 9))) (Ob2 (.int .u8 ((p0.Kind.toNat : Nat) : Int)) (.int .u8 9) rfl (fun _ => hb_eql)) ?_
     rcases br hm with ⟨o, hm⟩ | ⟨o, hm⟩
     · refine Wz (.b true) (Oq o rfl) <| Wz (.loc 0 4) (Ofa rfl) <| Wz (.agg [(.y p0.Val.Kind), (.i p0.Val.N), (.u p0.Val.Bits), (.s p0.Val.Text)]) (Old rfl) ?_
       obtain ⟨c, d0, hm⟩ := bnd hm
       refine Wz (.i c) (Ocf [] [] [] 0 (ok_r04_Check p0.Val c d0) (fun a w => Try.call66 a w) rfl trivial) <| Wz (.b (decide (c ≠ 0))) (Obn rfl (fun _ => hb_neq (k := .i64))) <| Wz (.b (decide (c ≠ 0))) (OpT rfl) <| Wz (.b (decide (c ≠ 0))) (OpF rfl) <| Wm (.b (decide (c ≠ 0))) rfl <| Nn ?_
       exact AWP.weak (Weak.toK 26 0 0 [0, 1]) (J2 (decide (c ≠ 0)) hm)
     refine Wz (.b false) (Oq o rfl) <| Wn <| Wn <| Wn <| Wn <| Wz (.b false) (OpF rfl) <| Wz (.b false) (OpF rfl) <| Wm (.b false) rfl <| Nn ?_
     exact AWP.weak (Weak.toK 26 0 0 [0, 1]) (J3 () hm)
   refine Wz (.b false) (Oq b0 rfl) <| Wn <| Wn <| Wn <| Wn <| Wz (.b false) (OpF rfl) <| Wz (.b false) (OpF rfl) <| Wm (.b false) rfl <| Wz (.loc 0 0) (Ofa rfl) <| Wz (.y p0.Kind) (Old rfl) <| Wz (.b (decide (((p0.Kind.toNat : Nat) : Int) = 9))) (Ob2 (.int .u8 ((p0.Kind.toNat : Nat) : Int)) (.int .u8 9) rfl (fun _ => hb_eql)) ?_
   rcases br hm with ⟨o, hm⟩ | ⟨o, hm⟩
   · refine Wz (.b true) (Oq o rfl) <| Wz (.loc 0 4) (Ofa rfl) <| Wz (.agg [(.y p0.Val.Kind), (.i p0.Val.N), (.u p0.Val.Bits), (.s p0.Val.Text)]) (Old rfl) ?_
     obtain ⟨c, d0, hm⟩ := bnd hm
     refine Wz (.i c) (Ocf [] [] [] 0 (ok_r04_Check p0.Val c d0) (fun a w => Try.call66 a w) rfl trivial) <| Wz (.b (decide (c ≠ 0))) (Obn rfl (fun _ => hb_neq (k := .i64))) <| Wz (.b (decide (c ≠ 0))) (OpT rfl) <| Wz (.b (decide (c ≠ 0))) (OpF rfl) <| Wm (.b (decide (c ≠ 0))) rfl <| Nn ?_
     exact AWP.weak (Weak.toK 26 0 0 [0, 1]) (J2 (decide (c ≠ 0)) hm)
   refine Wz (.b false) (Oq o rfl) <| Wn <| Wn <| Wn <| Wn <| Wz (.b false) (OpF rfl) <| Wz (.b false) (OpF rfl) <| Wm (.b false) rfl <| Nn ?_
   exact AWP.weak (Weak.toK 26 0 0 [0, 1]) (J3 () hm)
 refine Wz (.b false) (Oq n0 rfl) <| Wz (.loc 0 0) (Ofa rfl) <| Wz (.y p0.Kind) (Old rfl) <| Wz (.b (decide (((p0.Kind.toNat : Nat) : Int) = 8))) (Ob2 (.int .u8 ((p0.Kind.toNat : Nat) : Int)) (.int .u8 8) rfl (fun _ => hb_eql)) <| Wz (.b (decide (((p0.Kind.toNat : Nat) : Int) = 8))) (OpF rfl) ?_
 rcases br hm with ⟨q0, hm⟩ | ⟨q0, hm⟩
 · refine Wz (.b true) (Oq q0 rfl) <| Wz (.loc 0 3) (Ofa rfl) <| Wz (.s p0.Name) (Old rfl) ?_
   obtain ⟨e0, o0, hm⟩ := bnd hm
   refine Wz (.b e0) (Ocf [] [] [] 0 (ok_r06_Name p0.Name e0 o0) (fun a w => Try.call28 a w) rfl trivial) <| Wz (.b (!e0)) (Ocs (by kernel_rfl) (op_un rfl (a1 := .bool e0) (by kernel_rfl) (fun _ => hu_not))) <| Wz (.b (!e0)) (OpT rfl) <| Wz (.b (!e0)) (OpF rfl) ?_
   rcases br hm with ⟨f0, hm⟩ | ⟨f0, hm⟩
   · refine Wz (.b true) (Oq f0 rfl) <| Wn <| Wn <| Wn <| Wn <| Wn <| Wn <| Wn <| Wn <| Wn <| Wz (.b true) (OpT rfl) <| Wm (.b true) rfl <| Wn <| Wn ?_
     refine Wn <| Wn <| Wn <| Wn <| Wn <| Wn <| Wn <| Wz (.b true) (OpT rfl) <| Wm (.b true) rfl <| Nn ?_
     exact AWP.weak (Weak.toK 26 0 0 [0, 1]) (J1 () hm)
   refine Wz (.b false) (Oq f0 rfl) <| Wz (.loc 0 0) (Ofa rfl) <| Wz (.y p0.Kind) (Old rfl) <| Wz (.b (decide (((p0.Kind.toNat : Nat) : Int) = 8))) (Ob2 (.int .u8 ((p0.Kind.toNat : Nat) : Int)) (.int .u8 8) rfl (fun _ => hb_eql)) ?_
   rcases br hm with ⟨b0, hm⟩ | ⟨b0, hm⟩
   · refine Wz (.b true) (Oq b0 rfl) <| Wz (.loc 0 2) (Ofa rfl) <| Wz (.s p0.Var) (Old rfl) ?_
     obtain ⟨p, g0, hm⟩ := bnd hm
     refine Wz (.b p) (Ocf [] [] [] 0 (ok_r06_Name p0.Var p g0) (fun a w => Try.call28 a w) rfl trivial) <| Wz (.b (!p)) (Ocs (by kernel_rfl) (op_un rfl (a1 := .bool p) (by kernel_rfl) (fun _ => hu_not))) <| Wz (.b (!p)) (OpT rfl) <| Wz (.b (!p)) (OpF rfl) ?_
     rcases br hm with ⟨c0, hm⟩ | ⟨c0, hm⟩
     · refine Wz (.b true) (Oq c0 rfl) <| Wn <| Wn <| Wn <| Wn <| Wn <| Wn <| Wn <| Wn <| Wn <| Wz (.b true) (OpT rfl) <| Wm (.b true) rfl <| Nn ?_
       exact AWP.weak (Weak.toK 26 0 0 [0, 1]) (J1 () hm)
     refine Wz (.b false) (Oq c0 rfl) <| Wz (.loc 0 0) (Ofa rfl) <| Wz (.y p0.Kind) (Old rfl) <| Wz (.b (decide (((p0.Kind.toNat : Nat) : Int) = 9))) (Ob2 (.int .u8 ((p0.Kind.toNat : Nat) : Int)) (.int .u8 9) rfl (fun _ => hb_eql)) ?_
     rcases br hm with ⟨o, hm⟩ | ⟨o, hm⟩
     · refine Wz (.b true) (Oq o rfl) <| Wz (.loc 0 4) (Ofa rfl) <| Wz (.agg [(.y p0.Val.Kind), (.i p0.Val.N), (.u p0.Val.Bits), (.s p0.Val.Text)]) (Old rfl) ?_
       obtain ⟨c, d0, hm⟩ := bnd hm
       refine Wz (.i c) (Ocf [] [] [] 0 (ok_r04_Check p0.Val c d0) (fun a w => Try.call66 a w) rfl trivial) <| Wz (.b (decide (c ≠ 0))) (Obn rfl (fun _ => hb_neq (k := .i64))) <| Wz (.b (decide (c ≠ 0))) (OpT rfl) <| Wz (.b (decide (c ≠ 0))) (OpF rfl) <| Wm (.b (decide (c ≠ 0))) rfl <| Nn ?_
       exact AWP.weak (Weak.toK 26 0 0 [0, 1]) (J2 (decide (c ≠ 0)) hm)
     refine Wz (.b false) (Oq o rfl) <| Wn <| Wn <| Wn <| Wn <| Wz (.b false) (OpF rfl) <| Wz (.b false) (OpF rfl) <| Wm (.b false) rfl <| Nn ?_
     exact AWP.weak (Weak.toK 26 0 0 [0, 1]) (J3 () hm)
   refine Wz (.b false) (Oq b0 rfl) <| Wn <| Wn <| Wn <| Wn <| Wz (.b false) (OpF rfl) <| Wz (.b false) (OpF rfl) <| Wm (.b false) rfl <| Wz (.loc 0 0) (Ofa rfl) <| Wz (.y p0.Kind) (Old rfl) <| Wz (.b (decide (((p0.Kind.toNat : Nat) : Int) = 9))) (Ob2 (.int .u8 ((p0.Kind.toNat : Nat) : Int)) (.int .u8 9) rfl (fun _ => hb_eql)) ?_
   rcases br hm with ⟨o, hm⟩ | ⟨o, hm⟩
   · refine Wz (.b true) (Oq o rfl) <| Wz (.loc 0 4) (Ofa rfl) <| Wz (.agg [(.y p0.Val.Kind), (.i p0.Val.N), (.u p0.Val.Bits), (.s p0.Val.Text)]) (Old rfl) ?_
     obtain ⟨c, d0, hm⟩ := bnd hm
     refine Wz (.i c) (Ocf [] [] [] 0 (ok_r04_Check p0.Val c d0) (fun a w => Try.call66 a w) rfl trivial) <| Wz (.b (decide (c ≠ 0))) (Obn rfl (fun _ => hb_neq (k := .i64))) <| Wz (.b (decide (c ≠ 0))) (OpT rfl) <| Wz (.b (decide (c ≠ 0))) (OpF rfl) <| Wm (.b (decide (c ≠ 0))) rfl <| Nn ?_
     exact AWP.weak (Weak.toK 26 0 0 [0, 1]) (J2 (decide (c ≠ 0)) hm)
   refine Wz (.b false) (Oq o rfl) <| Wn <| Wn <| Wn <| Wn <| Wz (.b false) (OpF rfl) <| Wz (.b false) (OpF rfl) <| Wm (.b false) rfl <| Nn ?_
   exact AWP.weak (Weak.toK 26 0 0 [0, 1]) (J3 () hm)
 refine Wz (.b false) (Oq q0 rfl) <| Wn <| Wn <| Wn <| Wn <| Wz (.b false) (OpF rfl) <| Wz (.b false) (OpF rfl) <| Wm (.b false) rfl <| Wz (.loc 0 0) (Ofa rfl) <| Wz (.y p0.Kind) (Old rfl) <| Wz (.b (decide (((p0.Kind.toNat : Nat) : Int) = 8))) (Ob2 (.int .u8 ((p0.Kind.toNat : Nat) : Int)) (.int .u8 8) rfl (fun _ => hb_eql)) ?_
 rcases br hm with ⟨b0, hm⟩ | ⟨b0, hm⟩
 · refine Wz (.b true) (Oq b0 rfl) <| Wz (.loc 0 2) (Ofa rfl) <| Wz (.s p0.Var) (Old rfl) ?_
   obtain ⟨p, g0, hm⟩ := bnd hm
   refine Wz (.b p) (Ocf [] [] [] 0 (ok_r06_Name p0.Var p g0) (fun a w => Try.call28 a w) rfl trivial) <| Wz (.b (!p)) (Ocs (by kernel_rfl) (op_un rfl (a1 := .bool p) (by kernel_rfl) (fun _ => hu_not))) <| Wz (.b (!p)) (OpT rfl) <| Wz (.b (!p)) (OpF rfl) ?_
   rcases br hm with ⟨c0, hm⟩ | ⟨c0, hm⟩
   · refine Wz (.b true) (Oq c0 rfl) <| Wn <| Wn <| Wn <| Wn <| Wn <| Wn <| Wn <| Wn <| Wn <| Wz (.b true) (OpT rfl) <| Wm (.b true) rfl <| Nn ?_
     exact AWP.weak (Weak.toK 26 0 0 [0, 1]) (J1 () hm)
   refine Wz (.b false) (Oq c0 rfl) <| Wz (.loc 0 0) (Ofa rfl) <| Wz (.y p0.Kind) (Old rfl) <| Wz (.b (decide (((p0.Kind.toNat : Nat) : Int) = 9))) (Ob2 (.int .u8 ((p0.Kind.toNat : Nat) : Int)) (.int .u8 9) rfl (fun _ => hb_eql)) ?_
   rcases br hm with ⟨o, hm⟩ | ⟨o, hm⟩
   · refine Wz (.b true) (Oq o rfl) <| Wz (.loc 0 4) (Ofa rfl) <| Wz (.agg [(.y p0.Val.Kind), (.i p0.Val.N), (.u p0.Val.Bits), (.s p0.Val.Text)]) (Old rfl) ?_
     obtain ⟨c, d0, hm⟩ := bnd hm
     refine Wz (.i c) (Ocf [] [] [] 0 (ok_r04_Check p0.Val c d0) (fun a w => Try.call66 a w) rfl trivial) <| Wz (.b (decide (c ≠ 0))) (Obn rfl (fun _ => hb_neq (k := .i64))) <| Wz (.b (decide (c ≠ 0))) (OpT rfl) <| Wz (.b (decide (c ≠ 0))) (OpF rfl) <| Wm (.b (decide (c ≠ 0))) rfl <| Nn ?_
     exact AWP.weak (Weak.toK 26 0 0 [0, 1]) (J2 (decide (c ≠ 0)) hm)
   refine Wz (.b false) (Oq o rfl) <| Wn <| Wn <| Wn <| Wn <| Wz (.b false) (OpF rfl) <| Wz (.b false) (OpF rfl) <| Wm (.b false) rfl <| Nn ?_
   exact AWP.weak (Weak.toK 26 0 0 [0, 1]) (J3 () hm)
 refine Wz (.b false) (Oq b0 rfl) <| Wn <| Wn <| Wn <| Wn <| Wz (.b false) (OpF rfl) <| Wz (.b false) (OpF rfl) <| Wm (.b false) rfl <| Wz (.loc 0 0) (Ofa rfl) <| Wz (.y p0.Kind) (Old rfl) <| Wz (.b (decide (((p0.Kind.toNat : Nat) : Int) = 9))) (Ob2 (.int .u8 ((p0.Kind.toNat : Nat) : Int)) (.int .u8 9) rfl (fun _ => hb_eql)) ?_
 rcases br hm with ⟨o, hm⟩ | ⟨o, hm⟩
 · refine Wz (.b true) (Oq o rfl) <| Wz (.loc 0 4) (Ofa rfl) <| Wz (.agg [(.y p0.Val.Kind), (.i p0.Val.N), (.u p0.Val.Bits), (.s p0.Val.Text)]) (Old rfl) ?_
   obtain ⟨c, d0, hm⟩ := bnd hm
   refine Wz (.i c) (Ocf [] [] [] 0 (ok_r04_Check p0.Val c d0) (fun a w => Try.call66 a w) rfl trivial) <| Wz (.b (decide (c ≠ 0))) (Obn rfl (fun _ => hb_neq (k := .i64))) <| Wz (.b (decide (c ≠ 0))) (OpT rfl) <| Wz (.b (decide (c ≠ 0))) (OpF rfl) <| Wm (.b (decide (c ≠ 0))) rfl <| Nn ?_
   exact AWP.weak (Weak.toK 26 0 0 [0, 1]) (J2 (decide (c ≠ 0)) hm)
 refine Wz (.b false) (Oq o rfl) <| Wn <| Wn <| Wn <| Wn <| Wz (.b false) (OpF rfl) <| Wz (.b false) (OpF rfl) <| Wm (.b false) rfl <| Nn ?_
 exact AWP.weak (Weak.toK 26 0 0 [0, 1]) (J3 () hm)

theorem ok_r11_Kids (p0 : UInt8) (r : Int) (h : m_r11_Kids p0 = some r) : GCall Try.prog 90 [(.y p0)] [] (.i r) [] := by
 refine GCall.of_body (n := 23) (rs := [(.tmp 2)]) Try.func90 rfl rfl rfl <| Ato ⟨.y p0::tu 22 [], [], 0⟩ ?_
 have hm := h
 unfold m_r11_Kids at hm
 refine Sx <| Wm (.i 0) rfl <| Nk 1 0 ⟨.y p0::tp 22 [], [], 0⟩ <| Sq ?_
 refine AWP.cutJ (α := Unit) (fun x => match x with | () => (⟨.y p0::tp 19 (.b true::tp 2 []), [], 0⟩ : St)) (fun x => match x with | () => m_r11_Kids_j1  = some r) ?_ (fun J1 => ?_)
 ·
  rintro ⟨⟩ hm
  try dsimp only at hm ⊢
  unfold m_r11_Kids_j1 at hm
  refine AWP.if_ true (by kernel_rfl) <| Sx <| Wm (.i 2) rfl <| Nn <| Rt <| Tr ?_
  obtain rfl := sj hm
  exact ret_i []
 refine Sx <| Wm (.y p0) rfl <| Wz (.b (decide (((p0.toNat : Nat) : Int) = 1))) (Ob2 (.int .u8 ((p0.toNat : Nat) : Int)) (.int .u8 1) rfl (fun _ => hb_eql)) ?_
 rcases br hm with ⟨g, hm⟩ | ⟨g, hm⟩
 · refine Wz (.b true) (Oq g rfl) <| Wn <| Wn <| Wz (.b true) (OpT rfl) <| Wm (.b true) rfl <| Wn <| Wn <| Wz (.b true) (OpT rfl) <| Wm (.b true) rfl <| Wn <| Wn <| Wz (.b true) (OpT rfl) <| Wm (.b true) rfl <| Wn ?_
   refine Wn <| Wz (.b true) (OpT rfl) <| Nn ?_
   exact AWP.weak (Weak.toK 1048577 0 0 []) (J1 () hm)
 refine Wz (.b false) (Oq g rfl) <| Wm (.y p0) rfl <| Wz (.b (decide (((p0.toNat : Nat) : Int) = 2))) (Ob2 (.int .u8 ((p0.toNat : Nat) : Int)) (.int .u8 2) rfl (fun _ => hb_eql)) <| Wz (.b (decide (((p0.toNat : Nat) : Int) = 2))) (OpF rfl) ?_
 rcases br hm with ⟨j, hm⟩ | ⟨j, hm⟩
 · refine Wz (.b true) (Oq j rfl) <| Wn <| Wn <| Wz (.b true) (OpT rfl) <| Wm (.b true) rfl <| Wn <| Wn <| Wz (.b true) (OpT rfl) <| Wm (.b true) rfl <| Wn <| Wn <| Wz (.b true) (OpT rfl) <| Nn ?_
   exact AWP.weak (Weak.toK 1048577 0 0 []) (J1 () hm)
 refine Wz (.b false) (Oq j rfl) <| Wm (.y p0) rfl <| Wz (.b (decide (((p0.toNat : Nat) : Int) = 4))) (Ob2 (.int .u8 ((p0.toNat : Nat) : Int)) (.int .u8 4) rfl (fun _ => hb_eql)) <| Wz (.b (decide (((p0.toNat : Nat) : Int) = 4))) (OpF rfl) ?_
 rcases br hm with ⟨c, hm⟩ | ⟨c, hm⟩
 · refine Wz (.b true) (Oq c rfl) <| Wn <| Wn <| Wz (.b true) (OpT rfl) <| Wm (.b true) rfl <| Wn <| Wn <| Wz (.b true) (OpT rfl) <| Nn ?_
   exact AWP.weak (Weak.toK 1048577 0 0 []) (J1 () hm)
 refine Wz (.b false) (Oq c rfl) <| Wm (.y p0) rfl <| Wz (.b (decide (((p0.toNat : Nat) : Int) = 5))) (Ob2 (.int .u8 ((p0.toNat : Nat) : Int)) (.int .u8 5) rfl (fun _ => hb_eql)) <| Wz (.b (decide (((p0.toNat : Nat) : Int) = 5))) (OpF rfl) ?_
 rcases br hm with ⟨d, hm⟩ | ⟨d, hm⟩
 · refine Wz (.b true) (Oq d rfl) <| Wn <| Wn <| Wz (.b true) (OpT rfl) <| Nn ?_
   exact AWP.weak (Weak.toK 1048577 0 0 []) (J1 () hm)
 refine Wz (.b false) (Oq d rfl) <| Wm (.y p0) rfl <| Wz (.b (decide (((p0.toNat : Nat) : Int) = 6))) (Ob2 (.int .u8 ((p0.toNat : Nat) : Int)) (.int .u8 6) rfl (fun _ => hb_eql)) <| Wz (.b (decide (((p0.toNat : Nat) : Int) = 6))) (OpF rfl) <| Nk 1048577 0 ⟨.y p0::tp 19 (.b (decide (((p0.toNat : Nat) : Int) = 6))::tp 2 []), [], 0⟩ ?_
 rcases br hm with ⟨e, hm⟩ | ⟨e, hm⟩
 · refine AiT e <| Sx <| Wm (.i 2) rfl <| Nn <| Rt <| Tr ?_
   obtain rfl := sj hm
   exact ret_i []
 refine AiF e <| Sk <| Tk 1 0 ⟨.y p0::tp 22 [], [], 0⟩ <| Sq <| Sx <| Wm (.y p0) rfl <| Wz (.b (decide (((p0.toNat : Nat) : Int) = 3))) (Ob2 (.int .u8 ((p0.toNat : Nat) : Int)) (.int .u8 3) rfl (fun _ => hb_eql)) <| Nk 4194304 0 ⟨tp 22 (.b (decide (((p0.toNat : Nat) : Int) = 3))::[]), [], 0⟩ ?_
 rcases br hm with ⟨f, hm⟩ | ⟨f, hm⟩
 · refine AiT f <| Sx <| Wm (.i 1) rfl <| Nn <| Rt <| Tr ?_
   obtain rfl := sj hm
   exact ret_i []
 refine AiF f <| Sk <| Tk 0 0 ⟨tp 23 [], [], 0⟩ <| Sx <| Wm (.i 0) rfl <| Nn <| Rt ?_
 obtain rfl := sj hm
 exact ret_i []

theorem ok_r11_kid (p0 : UInt8) (p1 : Int) (r : Int) (h : m_r11_kid p0 p1 = some r) : GCall Try.prog 91 [(.y p0), (.i p1)] [] (.i r) [] := by
 refine GCall.of_body (n := 13) (rs := [(.tmp 4)]) Try.func91 rfl rfl rfl <| Ato ⟨.y p0::.i p1::tu 11 [], [], 0⟩ ?_
 have hm := h
 unfold m_r11_kid at hm
 refine Sx <| Wm (.i 0) rfl <| Nk 3 0 ⟨.y p0::.i p1::tp 11 [], [], 0⟩ <| Sq <| Sx <| Wm (.y p0) rfl <| Wz (.b (decide (((p0.toNat : Nat) : Int) ≤ 3))) (Ob2 (.int .u8 ((p0.toNat : Nat) : Int)) (.int .u8 3) rfl (fun _ => hb_leq)) <| Nk 67 0 ⟨.y p0::.i p1::tp 4 (.b (decide (((p0.toNat : Nat) : Int) ≤ 3))::tp 6 []), [], 0⟩ ?_
 rcases br hm with ⟨d, hm⟩ | ⟨d, hm⟩
 · refine AiT d <| Sx <| Wm (.i 1) rfl <| Nn <| Rt <| Tr ?_
   obtain rfl := sj hm
   exact ret_i []
 refine AiF d <| Sk <| Tk 3 0 ⟨.y p0::.i p1::tp 11 [], [], 0⟩ <| Sq <| Sx <| Wm (.y p0) rfl <| Wz (.b (decide (((p0.toNat : Nat) : Int) = 4))) (Ob2 (.int .u8 ((p0.toNat : Nat) : Int)) (.int .u8 4) rfl (fun _ => hb_eql)) ?_
 rcases br hm with ⟨e, hm⟩ | ⟨e, hm⟩
 · refine Wz (.b true) (Oq e rfl) <| Wn <| Wn <| Wz (.b true) (OpT rfl) <| Nk 4096 0 ⟨tp 12 (.b true::[]), [], 0⟩ <| AWP.if_ true (by kernel_rfl) <| Sx <| Wm (.i 2) rfl <| Nn <| Rt <| Tr ?_
   obtain rfl := sj hm
   exact ret_i []
 refine Wz (.b false) (Oq e rfl) <| Wm (.i p1) rfl <| Wz (.b (decide (p1 = 0))) (Obn rfl (fun _ => hb_eql (k := .i64))) <| Wz (.b (decide (p1 = 0))) (OpF rfl) <| Nk 4096 0 ⟨tp 12 (.b (decide (p1 = 0))::[]), [], 0⟩ ?_
 rcases br hm with ⟨c, hm⟩ | ⟨c, hm⟩
 · refine AiT c <| Sx <| Wm (.i 2) rfl <| Nn <| Rt <| Tr ?_
   obtain rfl := sj hm
   exact ret_i []
 refine AiF c <| Sk <| Tk 0 0 ⟨tp 13 [], [], 0⟩ <| Sx <| Wm (.i 3) rfl <| Nn <| Rt ?_
 obtain rfl := sj hm
 exact ret_i []

theorem ok_r11_tree : ∀ (fuR : Nat) (p0 : (List GNode_)) (p1 : Int) (p2 : Int) (p3 : Int) (r : (Int × Int)) (h : m_r11_tree fuR p0 p1 p2 p3 = some r), GCall Try.prog 70 [(.l enc_GNode_ p0), (.i p1), (.i p2), (.i p3)] [] (.tup [(.i r.1), (.i r.2)]) [] := by
 intro fuR; induction fuR with
 | zero => intro p0 p1 p2 p3 r h; exact absurd h (by unfold m_r11_tree; simp)
 | succ fuR ih =>
 intro p0 p1 p2 p3 r h
 refine GCall.of_body (n := 66) (rs := [(.tmp 8), (.tmp 9)]) Try.func70 rfl rfl rfl <| Ato ⟨.l enc_GNode_ p0::.i p1::.i p2::.i p3::tu 62 [], [], 0⟩ ?_
 have hm := h
 unfold m_r11_tree at hm
 refine Sx <| Wm (.i 0) rfl <| Wm (.i 0) rfl <| Nk 15 0 ⟨.l enc_GNode_ p0::.i p1::.i p2::.i p3::tp 62 [], [], 0⟩ <| Sq <| Sx <| Wm (.i p1) rfl <| Wm (.l enc_GNode_ p0) rfl <| Wz (.i ((List.length p0 : Nat) : Int)) (Oln rfl) <| Wz (.b (decide (((List.length p0 : Nat) : Int) ≤ p1))) (Obn rfl (fun _ => hb_geq (k := .i64))) <| Nk 262159 0 ⟨.l enc_GNode_ p0::.i p1::.i p2::.i p3::tp 14 (.b (decide (((List.length p0 : Nat) : Int) ≤ p1))::tp 47 []), [], 0⟩ ?_
 rcases br hm with ⟨v, hm⟩ | ⟨v, hm⟩
 · refine AiT v <| Sx <| Wm (.i p1) rfl <| Wm (.i p1) rfl <| Wm (.i 3) rfl <| Nn <| Rt <| Tr ?_
   obtain rfl := sj hm
   exact ret_i []
 refine AiF v <| Sk <| Tk 15 0 ⟨.l enc_GNode_ p0::.i p1::.i p2::.i p3::tp 62 [], [], 0⟩ <| Sq <| Sx <| Wm (.i p3) rfl <| Wz (.b (decide ((16 : Int) ≤ p3))) (Obn rfl (fun _ => hb_geq (k := .i64))) <| Nk 2097167 0 ⟨.l enc_GNode_ p0::.i p1::.i p2::.i p3::tp 17 (.b (decide ((16 : Int) ≤ p3))::tp 44 []), [], 0⟩ ?_
 rcases br hm with ⟨z, hm⟩ | ⟨z, hm⟩
 · refine AiT z <| Sx <| Wm (.i p1) rfl <| Wm (.i p1) rfl <| Wm (.i 15) rfl <| Nn <| Rt <| Tr ?_
   obtain rfl := sj hm
   exact ret_i []
 refine AiF z <| Sk <| Tk 15 0 ⟨.l enc_GNode_ p0::.i p1::.i p2::.i p3::tp 62 [], [], 0⟩ <| Sx <| Wm (.l enc_GNode_ p0) rfl <| Wm (.i p1) rfl ?_
 obtain ⟨c, e0, hm⟩ := bnd hm
 obtain ⟨d0, b0⟩ := geti_some e0
 refine Wz (.d (.ref (List.drop ((Int.toNat p1) * 8) (flatD enc_GNode_ p0)))) (Oia rfl enc_GNode__len d0 b0) <| Wz (.agg [(.y c.Kind), (.y c.Op), (.s c.Var), (.s c.Name), (.y c.Val.Kind), (.i c.Val.N), (.u c.Val.Bits), (.s c.Val.Text)]) (Lf rfl enc_GNode__len b0) <| Wy (.loc 0 0) [(0, (.box [(.y 0), (.y 0), (.s ([] : List UInt8)), (.s ([] : List UInt8)), (.y 0), (.i 0), (.u 0), (.s ([] : List UInt8))]))] (Oal rfl) <| Wy (.tup []) [(0, (.box [(.y c.Kind), (.y c.Op), (.s c.Var), (.s c.Name), (.y c.Val.Kind), (.i c.Val.N), (.u c.Val.Bits), (.s c.Val.Text)]))] (Ost rfl) <| Nk 1039 1 ⟨.l enc_GNode_ p0::.i p1::.i p2::.i p3::tp 6 (.loc 0 0::tp 55 []), [(.box [(.y c.Kind), (.y c.Op), (.s c.Var), (.s c.Name), (.y c.Val.Kind), (.i c.Val.N), (.u c.Val.Bits), (.s c.Val.Text)])], 0⟩ <| Sq <| Sx <| Wz (.loc 0 0) (Ofa rfl) <| Wz (.y c.Kind) (Old rfl) <| Wm (.i p2) rfl ?_
 obtain ⟨m, f0, hm⟩ := bnd hm
 refine Wz (.b m) (Ocf [] [] [] 0 (ok_r11_may c.Kind p2 m f0) (fun a w => Try.call88 a w) rfl trivial) <| Wz (.b (!m)) (Ocs (by kernel_rfl) (op_un rfl (a1 := .bool m) (by kernel_rfl) (fun _ => hu_not))) <| Nk 2147484683 1 ⟨.l enc_GNode_ p0::.i p1::tp 1 (.i p3::tp 6 (.loc 0 0::tp 20 (.b (!m)::tp 34 []))), [(.box [(.y c.Kind), (.y c.Op), (.s c.Var), (.s c.Name), (.y c.Val.Kind), (.i c.Val.N), (.u c.Val.Bits), (.s c.Val.Text)])], 0⟩ ?_
 rcases br hm with ⟨a0, hm⟩ | ⟨a0, hm⟩
 · refine AiT a0 <| Sx <| Wm (.i p1) rfl <| Wm (.i p1) rfl <| Wm (.i 11) rfl <| Nn <| Rt <| Tr ?_
   obtain rfl := sj hm
   exact ret_i []
 refine AiF a0 <| Sk <| Tk 1035 1 ⟨.l enc_GNode_ p0::.i p1::tp 1 (.i p3::tp 6 (.loc 0 0::tp 55 [])), [(.box [(.y c.Kind), (.y c.Op), (.s c.Var), (.s c.Name), (.y c.Val.Kind), (.i c.Val.N), (.u c.Val.Bits), (.s c.Val.Text)])], 0⟩ <| Sq <| Sx <| Wz (.agg [(.y c.Kind), (.y c.Op), (.s c.Var), (.s c.Name), (.y c.Val.Kind), (.i c.Val.N), (.u c.Val.Bits), (.s c.Val.Text)]) (Old rfl) ?_
 obtain ⟨g, g0, hm⟩ := bnd hm
 refine Wz (.i g) (Ocf [] [] [] 0 (ok_r11_needs c g g0) (fun a w => Try.call89 a w) rfl trivial) <| Wm (.i g) rfl <| Nk 3083 1 ⟨.l enc_GNode_ p0::.i p1::tp 1 (.i p3::tp 6 (.loc 0 0::.i g::tp 54 [])), [(.box [(.y c.Kind), (.y c.Op), (.s c.Var), (.s c.Name), (.y c.Val.Kind), (.i c.Val.N), (.u c.Val.Bits), (.s c.Val.Text)])], 0⟩ <| Sx <| Wm (.i g) rfl <| Wz (.b (decide (g ≠ 0))) (Obn rfl (fun _ => hb_neq (k := .i64))) <| Nk 68719479819 1 ⟨.l enc_GNode_ p0::.i p1::tp 1 (.i p3::tp 6 (.loc 0 0::.i g::tp 24 (.b (decide (g ≠ 0))::tp 29 []))), [(.box [(.y c.Kind), (.y c.Op), (.s c.Var), (.s c.Name), (.y c.Val.Kind), (.i c.Val.N), (.u c.Val.Bits), (.s c.Val.Text)])], 0⟩ ?_
 rcases br hm with ⟨o, hm⟩ | ⟨o, hm⟩
 · refine AiT o <| Sx <| Wm (.i p1) rfl <| Wm (.i g) rfl <| Wm (.i p1) rfl <| Wm (.i g) rfl <| Nn <| Rt <| Tr ?_
   obtain rfl := sj hm
   exact ret_i []
 refine AiF o <| Sk <| Tk 1035 1 ⟨.l enc_GNode_ p0::.i p1::tp 1 (.i p3::tp 6 (.loc 0 0::tp 55 [])), [(.box [(.y c.Kind), (.y c.Op), (.s c.Var), (.s c.Name), (.y c.Val.Kind), (.i c.Val.N), (.u c.Val.Bits), (.s c.Val.Text)])], 0⟩ <| Sx <| Wm (.i p1) rfl <| Wz (.i (W6 (p1 + 1))) (Obn rfl (fun _ => hb_add (k := .i64))) <| Wm (.i (W6 (p1 + 1))) rfl <| Nk 1035 1 ⟨.l enc_GNode_ p0::.i (W6 (p1 + 1))::tp 1 (.i p3::tp 6 (.loc 0 0::tp 55 [])), [(.box [(.y c.Kind), (.y c.Op), (.s c.Var), (.s c.Name), (.y c.Val.Kind), (.i c.Val.N), (.u c.Val.Bits), (.s c.Val.Text)])], 0⟩ <| Sq <| Sx <| Wm (.i 0) rfl <| Nk 5131 1 ⟨.l enc_GNode_ p0::.i (W6 (p1 + 1))::tp 1 (.i p3::tp 6 (.loc 0 0::tp 1 (.i 0::tp 53 []))), [(.box [(.y c.Kind), (.y c.Op), (.s c.Var), (.s c.Name), (.y c.Val.Kind), (.i c.Val.N), (.u c.Val.Bits), (.s c.Val.Text)])], 0⟩ <| Bk ?_
 refine AWP.loopI (α := Nat × Int × Int)
   (fun (fu_4, j, f) => (⟨.l enc_GNode_ p0::.i j::tp 1 (.i p3::tp 6 (.loc 0 0::tp 1 (.i f::tp 53 []))), [(.box [(.y c.Kind), (.y c.Op), (.s c.Var), (.s c.Name), (.y c.Val.Kind), (.i c.Val.N), (.u c.Val.Bits), (.s c.Val.Text)])], 0⟩ : St))
   (fun (fu_4, j, f) => m_r11_tree_l4 p0 p3 c (fun p0 p1 p2 p3 => m_r11_tree fuR p0 p1 p2 p3) fu_4 j f = some r)
   (fun (fu_4, j, f) => fu_4) (1152921504606846976, (W6 (p1 + 1)), 0)
   (Weak.toK 5131 0 0 [0]) hm ?_
 rintro ⟨fu_4, j, f⟩ n_4 hm ih_4
 try dsimp only at hm ih_4 ⊢
 cases fu_4 with
 | zero => exact absurd hm (by unfold m_r11_tree_l4; simp)
 | succ fu_4 =>
  unfold m_r11_tree_l4 at hm
  refine Sq <| Sx <| Wm (.i f) rfl <| Wz (.loc 0 0) (Ofa rfl) <| Wz (.y c.Kind) (Old rfl) ?_
  obtain ⟨t, h0, hm⟩ := bnd hm
  refine Wz (.i t) (Ocf [] [] [] 0 (ok_r11_Kids c.Kind t h0) (fun a w => Try.call90 a w) rfl trivial) <| Wz (.b (decide (f < t))) (Obn rfl (fun _ => hb_lss (k := .i64))) <| Nk 35184372093963 1 ⟨.l enc_GNode_ p0::.i j::tp 1 (.i p3::tp 6 (.loc 0 0::tp 1 (.i f::tp 32 (.b (decide (f < t))::tp 20 [])))), [(.box [(.y c.Kind), (.y c.Op), (.s c.Var), (.s c.Name), (.y c.Val.Kind), (.i c.Val.N), (.u c.Val.Bits), (.s c.Val.Text)])], 0⟩ ?_
  rcases br hm with ⟨p, hm⟩ | ⟨p, hm⟩
  · refine AiT p <| Sk <| Tk 5131 1 ⟨.l enc_GNode_ p0::.i j::tp 1 (.i p3::tp 6 (.loc 0 0::tp 1 (.i f::tp 53 []))), [(.box [(.y c.Kind), (.y c.Op), (.s c.Var), (.s c.Name), (.y c.Val.Kind), (.i c.Val.N), (.u c.Val.Bits), (.s c.Val.Text)])], 0⟩ <| Sq <| Bk <| Sx <| Wm (.l enc_GNode_ p0) rfl <| Wm (.i j) rfl <| Wz (.loc 0 0) (Ofa rfl) <| Wz (.y c.Kind) (Old rfl) <| Wm (.i f) rfl ?_
    obtain ⟨c0, i0, hm⟩ := bnd hm
    refine Wz (.i c0) (Ocf [] [] [] 0 (ok_r11_kid c.Kind f c0 i0) (fun a w => Try.call91 a w) rfl trivial) <| Wm (.i p3) rfl <| Wz (.i (W6 (p3 + 1))) (Obn rfl (fun _ => hb_add (k := .i64))) ?_
    obtain ⟨e, j0, hm⟩ := bnd hm
    refine Wz (.tup [(.i e.1), (.i e.2)]) (Ocf [] [] [] 0 (ih p0 j c0 (W6 (p3 + 1)) e j0) (fun a w => Try.call70 a w) rfl trivial) <| Wm (.tup [(.i e.1), (.i e.2)]) rfl <| Wz (.i e.1) (Oex rfl) <| Wz (.i e.2) (Oex rfl) <| Wm (.i e.1) rfl <| Wm (.i e.2) rfl <| Nk 29705 1 ⟨.l enc_GNode_ p0::tp 2 (.i p3::tp 6 (.loc 0 0::tp 1 (.i f::.i e.1::.i e.2::tp 51 []))), [(.box [(.y c.Kind), (.y c.Op), (.s c.Var), (.s c.Name), (.y c.Val.Kind), (.i c.Val.N), (.u c.Val.Bits), (.s c.Val.Text)])], 0⟩ <| Sq <| Sx <| Wm (.i e.2) rfl <| Wz (.b (decide (e.2 ≠ 0))) (Obn rfl (fun _ => hb_neq (k := .i64))) <| Nk 2305843009213723657 1 ⟨.l enc_GNode_ p0::tp 2 (.i p3::tp 6 (.loc 0 0::tp 1 (.i f::.i e.1::.i e.2::tp 46 (.b (decide (e.2 ≠ 0))::tp 4 [])))), [(.box [(.y c.Kind), (.y c.Op), (.s c.Var), (.s c.Name), (.y c.Val.Kind), (.i c.Val.N), (.u c.Val.Bits), (.s c.Val.Text)])], 0⟩ ?_
    rcases br hm with ⟨q, hm⟩ | ⟨q, hm⟩
    · refine AiT q <| Sx <| Wm (.i e.1) rfl <| Wm (.i e.2) rfl <| Wm (.i e.1) rfl <| Wm (.i e.2) rfl <| Nn <| Rt <| Tr <| Ir <| Tr <| RoundK.ret <| Ir <| Tr ?_
      obtain rfl := sj hm
      exact ret_i []
    refine AiF q <| Sk <| Tk 13321 1 ⟨.l enc_GNode_ p0::tp 2 (.i p3::tp 6 (.loc 0 0::tp 1 (.i f::.i e.1::tp 52 []))), [(.box [(.y c.Kind), (.y c.Op), (.s c.Var), (.s c.Name), (.y c.Val.Kind), (.i c.Val.N), (.u c.Val.Bits), (.s c.Val.Text)])], 0⟩ <| Tx <| Wm (.i e.1) rfl <| Wm (.i e.1) rfl <| Wn0 <| Ino <| Tk 5131 1 ⟨.l enc_GNode_ p0::.i e.1::tp 1 (.i p3::tp 6 (.loc 0 0::tp 1 (.i f::tp 53 []))), [(.box [(.y c.Kind), (.y c.Op), (.s c.Var), (.s c.Name), (.y c.Val.Kind), (.i c.Val.N), (.u c.Val.Bits), (.s c.Val.Text)])], 0⟩ <| Tx <| Wm (.i f) rfl <| Wz (.i (W6 (f + 1))) (Obn rfl (fun _ => hb_add (k := .i64))) <| Wm (.i (W6 (f + 1))) rfl <| Wn0 ?_
    refine RoundK.normal ?_
    exact Rounds.weak (Weak.toK 5131 0 0 [0]) (ih_4 (fu_4, e.1, (W6 (f + 1))) hm (Nat.lt_succ_self _))
  refine AiF p <| AWP.exit <| Then.exit <| RoundK.exit <| InBlock.same <| Tk 2 0 ⟨tp 1 (.i j::tp 64 []), [.gone], 0⟩ <| Sx <| Wm (.i j) rfl <| Wm (.i j) rfl <| Wm (.i 0) rfl <| Nn <| Rt ?_
  obtain rfl := sj hm
  exact ret_i []

theorem ok_r11_Check (p0 : (List GNode_)) (r : Int) (h : m_r11_Check p0 = some r) : GCall Try.prog 59 [(.l enc_GNode_ p0)] [] (.i r) [] := by
 refine GCall.of_body (n := 23) (rs := [(.tmp 2)]) Try.func59 rfl rfl rfl <| Ato ⟨.l enc_GNode_ p0::tu 22 [], [], 0⟩ ?_
 have hm := h
 unfold m_r11_Check at hm
 refine Sx <| Wm (.i 0) rfl <| Nk 1 0 ⟨.l enc_GNode_ p0::tp 22 [], [], 0⟩ <| Sq <| Sx <| Wm (.l enc_GNode_ p0) rfl <| Wz (.i ((List.length p0 : Nat) : Int)) (Oln rfl) <| Wz (.b (decide ((30 : Int) < ((List.length p0 : Nat) : Int)))) (Obn rfl (fun _ => hb_gtr (k := .i64))) <| Nk 129 0 ⟨.l enc_GNode_ p0::tp 6 (.b (decide ((30 : Int) < ((List.length p0 : Nat) : Int)))::tp 15 []), [], 0⟩ ?_
 rcases br hm with ⟨g, hm⟩ | ⟨g, hm⟩
 · refine AiT g <| Sx <| Wm (.i 5) rfl <| Nn <| Rt <| Tr ?_
   obtain rfl := sj hm
   exact ret_i []
 refine AiF g <| Sk <| Tk 1 0 ⟨.l enc_GNode_ p0::tp 22 [], [], 0⟩ <| Sq <| Sx <| Wm (.l enc_GNode_ p0) rfl <| Wz (.i ((List.length p0 : Nat) : Int)) (Oln rfl) <| Wz (.b (decide (((List.length p0 : Nat) : Int) = 0))) (Obn rfl (fun _ => hb_eql (k := .i64))) <| Nk 1025 0 ⟨.l enc_GNode_ p0::tp 9 (.b (decide (((List.length p0 : Nat) : Int) = 0))::tp 12 []), [], 0⟩ ?_
 rcases br hm with ⟨d, hm⟩ | ⟨d, hm⟩
 · refine AiT d <| Sx <| Wm (.i 0) rfl <| Nn <| Rt <| Tr ?_
   obtain rfl := sj hm
   exact ret_i []
 refine AiF d <| Sk <| Tk 1 0 ⟨.l enc_GNode_ p0::tp 22 [], [], 0⟩ <| Sx <| Wm (.l enc_GNode_ p0) rfl ?_
 obtain ⟨c, j, hm⟩ := bnd hm
 refine Wz (.tup [(.i c.1), (.i c.2)]) (Ocf [] [] [] 0 (ok_r11_tree 1152921504606846976 p0 0 1 0 c j) (fun a w => Try.call70 a w) rfl trivial) <| Wm (.tup [(.i c.1), (.i c.2)]) rfl <| Wz (.i c.1) (Oex rfl) <| Wz (.i c.2) (Oex rfl) <| Wm (.i c.1) rfl <| Wm (.i c.2) rfl <| Nk 25 0 ⟨.l enc_GNode_ p0::tp 2 (.i c.1::.i c.2::tp 18 []), [], 0⟩ <| Sq <| Sx <| Wm (.i c.2) rfl <| Wz (.b (decide (c.2 ≠ 0))) (Obn rfl (fun _ => hb_neq (k := .i64))) <| Nk 131097 0 ⟨.l enc_GNode_ p0::tp 2 (.i c.1::.i c.2::tp 12 (.b (decide (c.2 ≠ 0))::tp 5 [])), [], 0⟩ ?_
 rcases br hm with ⟨e, hm⟩ | ⟨e, hm⟩
 · refine AiT e <| Sx <| Wm (.i c.2) rfl <| Wm (.i c.2) rfl <| Nn <| Rt <| Tr ?_
   obtain rfl := sj hm
   exact ret_i []
 refine AiF e <| Sk <| Tk 9 0 ⟨.l enc_GNode_ p0::tp 2 (.i c.1::tp 19 []), [], 0⟩ <| Sq <| Sx <| Wm (.i c.1) rfl <| Wm (.l enc_GNode_ p0) rfl <| Wz (.i ((List.length p0 : Nat) : Int)) (Oln rfl) <| Wz (.b (decide (c.1 < ((List.length p0 : Nat) : Int)))) (Obn rfl (fun _ => hb_lss (k := .i64))) <| Nk 4194304 0 ⟨tp 22 (.b (decide (c.1 < ((List.length p0 : Nat) : Int)))::[]), [], 0⟩ ?_
 rcases br hm with ⟨f, hm⟩ | ⟨f, hm⟩
 · refine AiT f <| Sx <| Wm (.i 5) rfl <| Nn <| Rt <| Tr ?_
   obtain rfl := sj hm
   exact ret_i []
 refine AiF f <| Sk <| Tk 0 0 ⟨tp 23 [], [], 0⟩ <| Sx <| Wm (.i 0) rfl <| Nn <| Rt ?_
 obtain rfl := sj hm
 exact ret_i []
end Go.Proofs.Ytdpmojhejidhiaa.K
