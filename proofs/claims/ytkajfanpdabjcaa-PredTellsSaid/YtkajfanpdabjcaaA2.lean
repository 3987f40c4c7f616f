/- what telltalelaw11.PredTells needs (2) -/
import Derived.Test.YtkajfanpdabjcaaA1
namespace Go.Proofs.Ytkajfanpdabjcaa.K
open Go.RowKit Go.Lib
set_option linter.unusedVariables false
set_option linter.unusedSimpArgs false
set_option maxRecDepth 20000
set_option maxHeartbeats 4000000

theorem ok_telltaleref11_Vars (p0 : (List GNode_)) (r : (List (List UInt8))) (h : m_telltaleref11_Vars p0 = some r) : GCall Try.prog 20 [(.l enc_GNode_ p0)] [] (.own 0) [(Ar 9 1 encS r)] := by
 refine GCall.of_body (n := 25) (rs := [(.tmp 2)]) Try.func20 rfl rfl rfl <| Ato ⟨.l enc_GNode_ p0::tu 24 [], [], 0⟩ ?_
 have hm := h
 unfold m_telltaleref11_Vars at hm
 refine Sx <| Wm (.d .nil) rfl <| Nk 1 0 ⟨.l enc_GNode_ p0::tp 24 [], [], 0⟩ <| Sx <| Wm (.d .nil) rfl <| Nk 9 0 ⟨.l enc_GNode_ p0::tp 2 (.d .nil::tp 21 []), [], 0⟩ <| Sq <| Sx <| Wm (.i 0) rfl <| Nk 25 0 ⟨.l enc_GNode_ p0::tp 2 (.d .nil::.i 0::tp 20 []), [], 0⟩ <| Bk <| Aow 3 9 1 ⟨.l enc_GNode_ p0::tp 2 (.own 0::.i 0::tp 20 []), [(Ar 9 1 encS ([] : List (List UInt8)))], 0⟩ ?_
 refine AWP.loopI (α := Nat × (List (List UInt8)) × Int)
   (fun (fu_0, y3_0, y4_0) => (⟨.l enc_GNode_ p0::tp 2 (.own 0::.i y4_0::tp 20 []), [(Ar 9 1 encS y3_0)], 0⟩ : St))
   (fun (fu_0, y3_0, y4_0) => m_telltaleref11_Vars_l0 p0 fu_0 y3_0 y4_0 = some r)
   (fun (fu_0, y3_0, y4_0) => fu_0) (1152921504606846976, ([] : List (List UInt8)), 0)
   (Weak.toK 25 0 0 [0]) hm ?_
 rintro ⟨fu_0, y3_0, y4_0⟩ n_0 hm ih_0
 try dsimp only at hm ih_0 ⊢
 cases fu_0 with
 | zero => exact absurd hm (by unfold m_telltaleref11_Vars_l0; simp)
 | succ fu_0 =>
  unfold m_telltaleref11_Vars_l0 at hm
  refine Sq <| Sx <| Wm (.i y4_0) rfl <| Wm (.l enc_GNode_ p0) rfl <| Wz (.i ((List.length p0 : Nat) : Int)) (Oln rfl) <| Wz (.b (decide (y4_0 < ((List.length p0 : Nat) : Int)))) (Obn rfl (fun _ => hb_lss (k := .i64))) <| Nk 281 1 ⟨.l enc_GNode_ p0::tp 2 (.own 0::.i y4_0::tp 3 (.b (decide (y4_0 < ((List.length p0 : Nat) : Int)))::tp 16 [])), [(Ar 9 1 encS y3_0)], 0⟩ ?_
  rcases tf_ (decide (y4_0 < ((List.length p0 : Nat) : Int))) with hc8_4 | hc8_4
  ·
   replace hm := cT hc8_4 hm
   refine AiT hc8_4 <| Sk <| Tk 25 1 ⟨.l enc_GNode_ p0::tp 2 (.own 0::.i y4_0::tp 20 []), [(Ar 9 1 encS y3_0)], 0⟩ <| Sq <| Bk <| Sx <| Wm (.l enc_GNode_ p0) rfl <| Wm (.i y4_0) rfl ?_
   obtain ⟨x13_2, hx13_2, hm⟩ := bnd hm
   obtain ⟨hx13_2i, hx13_2g⟩ := geti_some hx13_2
   refine Wz (.d (.ref (List.drop ((Int.toNat y4_0) * 8) (flatD enc_GNode_ p0)))) (Oia rfl enc_GNode__len hx13_2i hx13_2g) <| Wz (.d (.ref (List.drop ((Int.toNat y4_0) * 8) (flatD enc_GNode_ p0)))) (Ofa rfl) <| Wz (.y x13_2.Kind) (Lf1 rfl enc_GNode__len hx13_2g) <| Wz (.b (decide (((x13_2.Kind.toNat : Nat) : Int) = 8))) (Ob2 (.int .u8 ((x13_2.Kind.toNat : Nat) : Int)) (.int .u8 8) rfl (fun _ => hb_eql)) <| Nk 65561 1 ⟨.l enc_GNode_ p0::tp 2 (.own 0::.i y4_0::tp 11 (.b (decide (((x13_2.Kind.toNat : Nat) : Int) = 8))::tp 8 [])), [(Ar 9 1 encS y3_0)], 0⟩ ?_
   rcases tf_ (decide (((x13_2.Kind.toNat : Nat) : Int) = 8)) with hc16_5 | hc16_5
   ·
    replace hm := cT hc16_5 hm
    refine AiT hc16_5 <| Tx <| Wm (.own 0) rfl <| Wm (.l enc_GNode_ p0) rfl <| Wm (.i y4_0) rfl ?_
    obtain ⟨x20_3, hx20_3, hm⟩ := bnd hm
    obtain ⟨hx20_3i, hx20_3g⟩ := geti_some hx20_3
    refine Wz (.d (.ref (List.drop ((Int.toNat y4_0) * 8) (flatD enc_GNode_ p0)))) (Oia rfl enc_GNode__len hx20_3i hx20_3g) <| Wz (.d (.ref (List.drop 2 (List.drop ((Int.toNat y4_0) * 8) (flatD enc_GNode_ p0))))) (Ofa rfl) <| Wz (.s x20_3.Var) (Lfk1 2 rfl enc_GNode__len hx20_3g) ?_
    obtain ⟨r23_3, hr23_3, hm⟩ := bnd hm
    refine Wy (.own 1) [(1, (Ar 9 1 encS r23_3))] (Ocp [] [1] [0] 0 (ok_telltaleref11_Into y3_0 x20_3.Var r23_3 hr23_3) (⟨by simp [A.Plain, A.Plains, D.Plain, byteD], plain_cons (flat_plain encS_plain) (plain_nil)⟩) (fun a w => Try.call23 a w) rfl trivial) <| Wm (.own 1) rfl <| Wn0 <| Ino <| Tk 25 2 ⟨.l enc_GNode_ p0::tp 2 (.own 1::.i y4_0::tp 20 []), [.gone, (Ar 9 1 encS r23_3)], 0⟩ <| Tx <| Wm (.i y4_0) rfl <| Wz (.i (W6 (y4_0 + 1))) (Obn rfl (fun _ => hb_add (k := .i64))) <| Wm (.i (W6 (y4_0 + 1))) rfl <| Wn0 <| RoundK.normal ?_
    exact Rounds.weak (Weak.toK 25 0 0 [1]) (ih_0 (fu_0, r23_3, (W6 (y4_0 + 1))) hm (Nat.lt_succ_self _))
   ·
    replace hm := cF hc16_5 hm
    refine AiF hc16_5 <| Sk <| Ino <| Tk 25 1 ⟨.l enc_GNode_ p0::tp 2 (.own 0::.i y4_0::tp 20 []), [(Ar 9 1 encS y3_0)], 0⟩ <| Tx <| Wm (.i y4_0) rfl <| Wz (.i (W6 (y4_0 + 1))) (Obn rfl (fun _ => hb_add (k := .i64))) <| Wm (.i (W6 (y4_0 + 1))) rfl <| Wn0 <| RoundK.normal ?_
    exact Rounds.weak (Weak.toK 25 0 0 [0]) (ih_0 (fu_0, y3_0, (W6 (y4_0 + 1))) hm (Nat.lt_succ_self _))
  ·
   replace hm := cF hc8_4 hm
   refine AiF hc8_4 <| AWP.exit <| Then.exit <| RoundK.exit <| InBlock.same <| Tk 8 1 ⟨tp 3 (.own 0::tp 21 []), [(Ar 9 1 encS y3_0)], 0⟩ <| Sx <| Wm (.own 0) rfl <| Wm (.own 0) rfl <| Nn <| Rt ?_
   obtain rfl := Option.some.inj hm
   exact ret_i [0]

theorem ok_telltaleref11_SameTexts (p0 : (List (List UInt8))) (p1 : (List (List UInt8))) (r : Bool) (h : m_telltaleref11_SameTexts p0 p1 = some r) : GCall Try.prog 18 [(.l encS p0), (.l encS p1)] [] (.b r) [] := by
 refine GCall.of_body (n := 26) (rs := [(.tmp 4)]) Try.func18 rfl rfl rfl <| Ato ⟨.l encS p0::.l encS p1::tu 24 [], [], 0⟩ ?_
 have hm := h
 unfold m_telltaleref11_SameTexts at hm
 refine Sx <| Wm (.b false) rfl <| Nk 3 0 ⟨.l encS p0::.l encS p1::tp 24 [], [], 0⟩ <| Sq <| Sx <| Wm (.l encS p0) rfl <| Wz (.i ((List.length p0 : Nat) : Int)) (Oln rfl) <| Wm (.l encS p1) rfl <| Wz (.i ((List.length p1 : Nat) : Int)) (Oln rfl) <| Wz (.b (decide (((List.length p0 : Nat) : Int) ≠ ((List.length p1 : Nat) : Int)))) (Obn rfl (fun _ => hb_neq (k := .i64))) <| Nk 1027 0 ⟨.l encS p0::.l encS p1::tp 8 (.b (decide (((List.length p0 : Nat) : Int) ≠ ((List.length p1 : Nat) : Int)))::tp 15 []), [], 0⟩ ?_
 rcases tf_ (decide (((List.length p0 : Nat) : Int) ≠ ((List.length p1 : Nat) : Int))) with hc10_4 | hc10_4
 ·
  replace hm := cT hc10_4 hm
  refine AiT hc10_4 <| Sx <| Wm (.b false) rfl <| Nn <| Rt <| Tr ?_
  obtain rfl := Option.some.inj hm
  exact ret_i []
 ·
  replace hm := cF hc10_4 hm
  refine AiF hc10_4 <| Sk <| Tk 3 0 ⟨.l encS p0::.l encS p1::tp 24 [], [], 0⟩ <| Sq <| Sx <| Wm (.i 0) rfl <| Nk 35 0 ⟨.l encS p0::.l encS p1::tp 3 (.i 0::tp 20 []), [], 0⟩ <| Bk ?_
  refine AWP.loopI (α := Nat × Int)
    (fun (fu_1, y5_1) => (⟨.l encS p0::.l encS p1::tp 3 (.i y5_1::tp 20 []), [], 0⟩ : St))
    (fun (fu_1, y5_1) => m_telltaleref11_SameTexts_l1 p0 p1 fu_1 y5_1 = some r)
    (fun (fu_1, y5_1) => fu_1) (1152921504606846976, 0)
    (Weak.toK 35 0 0 []) hm ?_
  rintro ⟨fu_1, y5_1⟩ n_1 hm ih_1
  try dsimp only at hm ih_1 ⊢
  cases fu_1 with
  | zero => exact absurd hm (by unfold m_telltaleref11_SameTexts_l1; simp)
  | succ fu_1 =>
   unfold m_telltaleref11_SameTexts_l1 at hm
   refine Sq <| Sx <| Wm (.i y5_1) rfl <| Wm (.l encS p0) rfl <| Wz (.i ((List.length p0 : Nat) : Int)) (Oln rfl) <| Wz (.b (decide (y5_1 < ((List.length p0 : Nat) : Int)))) (Obn rfl (fun _ => hb_lss (k := .i64))) <| Nk 16419 0 ⟨.l encS p0::.l encS p1::tp 3 (.i y5_1::tp 8 (.b (decide (y5_1 < ((List.length p0 : Nat) : Int)))::tp 11 [])), [], 0⟩ ?_
   rcases tf_ (decide (y5_1 < ((List.length p0 : Nat) : Int))) with hc14_5 | hc14_5
   ·
    replace hm := cT hc14_5 hm
    refine AiT hc14_5 <| Sk <| Tk 35 0 ⟨.l encS p0::.l encS p1::tp 3 (.i y5_1::tp 20 []), [], 0⟩ <| Sq <| Bk <| Sq <| Adr <| Wm (.l encS p0) rfl <| Wm (.i y5_1) rfl ?_
    obtain ⟨x19_3, hx19_3, hm⟩ := bnd hm
    obtain ⟨hx19_3i, hx19_3g⟩ := geti_some hx19_3
    refine Wz (.d (.ref (List.drop ((Int.toNat y5_1) * 1) (flatD encS p0)))) (Oia rfl encS_len hx19_3i hx19_3g) <| Wz (.s x19_3) (Lf1 rfl encS_len hx19_3g) <| Wm (.l encS p1) rfl <| Wm (.i y5_1) rfl ?_
    obtain ⟨x23_3, hx23_3, hm⟩ := bnd hm
    obtain ⟨hx23_3i, hx23_3g⟩ := geti_some hx23_3
    refine Wz (.d (.ref (List.drop ((Int.toNat y5_1) * 1) (flatD encS p1)))) (Oia rfl encS_len hx23_3i hx23_3g) <| Wz (.s x23_3) (Lf1 rfl encS_len hx23_3g) <| Wz (.b (decide (x19_3 ≠ x23_3))) (Ocs (lit_tf (by simp only [toS_inj, ne_eq])) (op_bin rfl (a1 := .string (toS x19_3)) (a2 := .string (toS x23_3)) (by kernel_rfl) (by kernel_rfl) (fun _ => hb_sneq))) <| Wdr <| Tk 33554467 0 ⟨.l encS p0::.l encS p1::tp 3 (.i y5_1::tp 19 (.b (decide (x19_3 ≠ x23_3))::[])), [], 0⟩ ?_
    rcases tf_ (decide (x19_3 ≠ x23_3)) with hc25_6 | hc25_6
    ·
     replace hm := cT hc25_6 hm
     refine AiT hc25_6 <| Sx <| Wm (.b false) rfl <| Nn <| Rt <| Ir <| Tr <| RoundK.ret <| Ir <| Tr ?_
     obtain rfl := Option.some.inj hm
     exact ret_i []
    ·
     replace hm := cF hc25_6 hm
     refine AiF hc25_6 <| Sk <| Ino <| Tk 35 0 ⟨.l encS p0::.l encS p1::tp 3 (.i y5_1::tp 20 []), [], 0⟩ <| Tx <| Wm (.i y5_1) rfl <| Wz (.i (W6 (y5_1 + 1))) (Obn rfl (fun _ => hb_add (k := .i64))) <| Wm (.i (W6 (y5_1 + 1))) rfl <| Wn0 <| RoundK.normal ?_
     exact Rounds.weak (Weak.toK 35 0 0 []) (ih_1 (fu_1, (W6 (y5_1 + 1))) hm (Nat.lt_succ_self _))
   ·
    replace hm := cF hc14_5 hm
    refine AiF hc14_5 <| AWP.exit <| Then.exit <| RoundK.exit <| InBlock.same <| Tk 0 0 ⟨tp 26 [], [], 0⟩ <| Sx <| Wm (.b true) rfl <| Nn <| Rt ?_
    obtain rfl := Option.some.inj hm
    exact ret_i []

theorem ok_telltaleref11_Same (p0 : (List GNode_)) (p1 : (List GNode_)) (r : Bool) (h : m_telltaleref11_Same p0 p1 = some r) : GCall Try.prog 22 [(.l enc_GNode_ p0), (.l enc_GNode_ p1)] [] (.b r) [] := by
 refine GCall.of_body (n := 26) (rs := [(.tmp 4)]) Try.func22 rfl rfl rfl <| Ato ⟨.l enc_GNode_ p0::.l enc_GNode_ p1::tu 24 [], [], 0⟩ ?_
 have hm := h
 unfold m_telltaleref11_Same at hm
 refine Sx <| Wm (.b false) rfl <| Nk 3 0 ⟨.l enc_GNode_ p0::.l enc_GNode_ p1::tp 24 [], [], 0⟩ <| Sq <| Sx <| Wm (.l enc_GNode_ p0) rfl <| Wz (.i ((List.length p0 : Nat) : Int)) (Oln rfl) <| Wm (.l enc_GNode_ p1) rfl <| Wz (.i ((List.length p1 : Nat) : Int)) (Oln rfl) <| Wz (.b (decide (((List.length p0 : Nat) : Int) ≠ ((List.length p1 : Nat) : Int)))) (Obn rfl (fun _ => hb_neq (k := .i64))) <| Nk 1027 0 ⟨.l enc_GNode_ p0::.l enc_GNode_ p1::tp 8 (.b (decide (((List.length p0 : Nat) : Int) ≠ ((List.length p1 : Nat) : Int)))::tp 15 []), [], 0⟩ ?_
 rcases tf_ (decide (((List.length p0 : Nat) : Int) ≠ ((List.length p1 : Nat) : Int))) with hc10_4 | hc10_4
 ·
  replace hm := cT hc10_4 hm
  refine AiT hc10_4 <| Sx <| Wm (.b false) rfl <| Nn <| Rt <| Tr ?_
  obtain rfl := Option.some.inj hm
  exact ret_i []
 ·
  replace hm := cF hc10_4 hm
  refine AiF hc10_4 <| Sk <| Tk 3 0 ⟨.l enc_GNode_ p0::.l enc_GNode_ p1::tp 24 [], [], 0⟩ <| Sq <| Sx <| Wm (.i 0) rfl <| Nk 35 0 ⟨.l enc_GNode_ p0::.l enc_GNode_ p1::tp 3 (.i 0::tp 20 []), [], 0⟩ <| Bk ?_
  refine AWP.loopI (α := Nat × Int)
    (fun (fu_1, y5_1) => (⟨.l enc_GNode_ p0::.l enc_GNode_ p1::tp 3 (.i y5_1::tp 20 []), [], 0⟩ : St))
    (fun (fu_1, y5_1) => m_telltaleref11_Same_l1 p0 p1 fu_1 y5_1 = some r)
    (fun (fu_1, y5_1) => fu_1) (1152921504606846976, 0)
    (Weak.toK 35 0 0 []) hm ?_
  rintro ⟨fu_1, y5_1⟩ n_1 hm ih_1
  try dsimp only at hm ih_1 ⊢
  cases fu_1 with
  | zero => exact absurd hm (by unfold m_telltaleref11_Same_l1; simp)
  | succ fu_1 =>
   unfold m_telltaleref11_Same_l1 at hm
   refine Sq <| Sx <| Wm (.i y5_1) rfl <| Wm (.l enc_GNode_ p0) rfl <| Wz (.i ((List.length p0 : Nat) : Int)) (Oln rfl) <| Wz (.b (decide (y5_1 < ((List.length p0 : Nat) : Int)))) (Obn rfl (fun _ => hb_lss (k := .i64))) <| Nk 16419 0 ⟨.l enc_GNode_ p0::.l enc_GNode_ p1::tp 3 (.i y5_1::tp 8 (.b (decide (y5_1 < ((List.length p0 : Nat) : Int)))::tp 11 [])), [], 0⟩ ?_
   rcases tf_ (decide (y5_1 < ((List.length p0 : Nat) : Int))) with hc14_5 | hc14_5
   ·
    replace hm := cT hc14_5 hm
    refine AiT hc14_5 <| Sk <| Tk 35 0 ⟨.l enc_GNode_ p0::.l enc_GNode_ p1::tp 3 (.i y5_1::tp 20 []), [], 0⟩ <| Sq <| Bk <| Sq <| Adr <| Wm (.l enc_GNode_ p0) rfl <| Wm (.i y5_1) rfl ?_
    obtain ⟨x19_3, hx19_3, hm⟩ := bnd hm
    obtain ⟨hx19_3i, hx19_3g⟩ := geti_some hx19_3
    refine Wz (.d (.ref (List.drop ((Int.toNat y5_1) * 8) (flatD enc_GNode_ p0)))) (Oia rfl enc_GNode__len hx19_3i hx19_3g) <| Wz (.agg [(.y x19_3.Kind), (.y x19_3.Op), (.s x19_3.Var), (.s x19_3.Name), (.y x19_3.Val.Kind), (.i x19_3.Val.N), (.u x19_3.Val.Bits), (.s x19_3.Val.Text)]) (Lf rfl enc_GNode__len hx19_3g) <| Wm (.l enc_GNode_ p1) rfl <| Wm (.i y5_1) rfl ?_
    obtain ⟨x23_3, hx23_3, hm⟩ := bnd hm
    obtain ⟨hx23_3i, hx23_3g⟩ := geti_some hx23_3
    refine Wz (.d (.ref (List.drop ((Int.toNat y5_1) * 8) (flatD enc_GNode_ p1)))) (Oia rfl enc_GNode__len hx23_3i hx23_3g) <| Wz (.agg [(.y x23_3.Kind), (.y x23_3.Op), (.s x23_3.Var), (.s x23_3.Name), (.y x23_3.Val.Kind), (.i x23_3.Val.N), (.u x23_3.Val.Bits), (.s x23_3.Val.Text)]) (Lf rfl enc_GNode__len hx23_3g) ?_
    obtain ⟨v25_3, hv25_3, hm⟩ := bnd hm; replace hv25_3 := Option.some.inj hv25_3
    refine Wz (.b v25_3) (Ocs (Eq.trans (lit_tf (by simp only [toS_inj])) (congrArg (fun z => A.d (.lit (.bool z))) hv25_3)) (op_neq_deep rfl (la := [(.y x19_3.Kind), (.y x19_3.Op), (.s x19_3.Var), (.s x19_3.Name), (.y x19_3.Val.Kind), (.i x19_3.Val.N), (.u x19_3.Val.Bits), (.s x19_3.Val.Text)]) (lb := [(.y x23_3.Kind), (.y x23_3.Op), (.s x23_3.Var), (.s x23_3.Name), (.y x23_3.Val.Kind), (.i x23_3.Val.N), (.u x23_3.Val.Bits), (.s x23_3.Val.Text)]) (us := [.int .u8 ((x19_3.Kind.toNat : Nat) : Int), .int .u8 ((x19_3.Op.toNat : Nat) : Int), .string (toS x19_3.Var), .string (toS x19_3.Name), .int .u8 ((x19_3.Val.Kind.toNat : Nat) : Int), .int .i64 x19_3.Val.N, .int .u64 x19_3.Val.Bits, .string (toS x19_3.Val.Text)]) (vs := [.int .u8 ((x23_3.Kind.toNat : Nat) : Int), .int .u8 ((x23_3.Op.toNat : Nat) : Int), .string (toS x23_3.Var), .string (toS x23_3.Name), .int .u8 ((x23_3.Val.Kind.toNat : Nat) : Int), .int .i64 x23_3.Val.N, .int .u64 x23_3.Val.Bits, .string (toS x23_3.Val.Text)]) (r := (decide (((x19_3.Kind.toNat : Nat) : Int) = ((x23_3.Kind.toNat : Nat) : Int)) && (decide (((x19_3.Op.toNat : Nat) : Int) = ((x23_3.Op.toNat : Nat) : Int)) && (decide ((toS x19_3.Var) = (toS x23_3.Var)) && (decide ((toS x19_3.Name) = (toS x23_3.Name)) && ((decide (((x19_3.Val.Kind.toNat : Nat) : Int) = ((x23_3.Val.Kind.toNat : Nat) : Int)) && (decide (x19_3.Val.N = x23_3.Val.N) && (decide (x19_3.Val.Bits = x23_3.Val.Bits) && (decide ((toS x19_3.Val.Text) = (toS x23_3.Val.Text)) && true)))) && true)))))) (by kernel_rfl) (by kernel_rfl) (by kernel_rfl) (by kernel_rfl) (by kernel_rfl) (by kernel_rfl))) <| Wdr <| Tk 33554467 0 ⟨.l enc_GNode_ p0::.l enc_GNode_ p1::tp 3 (.i y5_1::tp 19 (.b v25_3::[])), [], 0⟩ ?_
    rcases tf_ v25_3 with hc25_6 | hc25_6
    ·
     replace hm := cT hc25_6 hm
     refine AiT hc25_6 <| Sx <| Wm (.b false) rfl <| Nn <| Rt <| Ir <| Tr <| RoundK.ret <| Ir <| Tr ?_
     obtain rfl := Option.some.inj hm
     exact ret_i []
    ·
     replace hm := cF hc25_6 hm
     refine AiF hc25_6 <| Sk <| Ino <| Tk 35 0 ⟨.l enc_GNode_ p0::.l enc_GNode_ p1::tp 3 (.i y5_1::tp 20 []), [], 0⟩ <| Tx <| Wm (.i y5_1) rfl <| Wz (.i (W6 (y5_1 + 1))) (Obn rfl (fun _ => hb_add (k := .i64))) <| Wm (.i (W6 (y5_1 + 1))) rfl <| Wn0 <| RoundK.normal ?_
     exact Rounds.weak (Weak.toK 35 0 0 []) (ih_1 (fu_1, (W6 (y5_1 + 1))) hm (Nat.lt_succ_self _))
   ·
    replace hm := cF hc14_5 hm
    refine AiF hc14_5 <| AWP.exit <| Then.exit <| RoundK.exit <| InBlock.same <| Tk 0 0 ⟨tp 26 [], [], 0⟩ <| Sx <| Wm (.b true) rfl <| Nn <| Rt ?_
    obtain rfl := Option.some.inj hm
    exact ret_i []

theorem ok_telltalelaw11_PredTells (p0 : GArr2_List_GNode) (p1 : Int) (r : Bool) (h : m_telltalelaw11_PredTells p0 p1 = some r) : GCall Try.prog 3 [(.agg [(.l enc_GNode_ p0.a0), (.l enc_GNode_ p0.a1)]), (.i p1)] [] (.b r) [] := by
 refine GCall.of_body (n := 100) (rs := [(.tmp 4)]) Try.func3 rfl rfl rfl <| Ato ⟨.agg [(.l enc_GNode_ p0.a0), (.l enc_GNode_ p0.a1)]::.i p1::tu 98 [], [], 0⟩ ?_
 have hm := h
 unfold m_telltalelaw11_PredTells at hm
 refine Sx <| Wy (.loc 0 0) [(0, (.box [(.l enc_GNode_ p0.a0), (.l enc_GNode_ p0.a1)]))] (Obx rfl) <| Wm (.b false) rfl <| Nk 6 1 ⟨tp 1 (.i p1::.loc 0 0::tp 97 []), [(.box [(.l enc_GNode_ p0.a0), (.l enc_GNode_ p0.a1)])], 0⟩ <| Sq <| Sx <| Wz (.loc 0 0) (Ocs (by kernel_rfl) (op_iaddr_arr rfl (n := 2) (sz := 1) (y := (.loc 0 0)) (by kernel_rfl) (by kernel_rfl) (by kernel_rfl) (k := .i64) (iv := 0) (by kernel_rfl) (i := 0) (by rfl) (by decide))) <| Wz (.l enc_GNode_ p0.a0) (Old rfl) ?_
 obtain ⟨r10_0, hr10_0, hm⟩ := bnd hm
 refine Wz (.i r10_0) (Ocf [] [] [] 0 (ok_telltalelaw11_Over p0.a0 r10_0 hr10_0) (fun a w => Try.call7 a w) rfl trivial) <| Wz (.b (decide ((0 : Int) < r10_0))) (Obn rfl (fun _ => hb_gtr (k := .i64))) ?_
 rcases tf_ (decide ((0 : Int) < r10_0)) with hq12_0 | hq12_0
 ·
  replace hm := cT hq12_0 hm
  refine Wz (.b true) (Oq hq12_0 rfl) <| Wn <| Wn <| Wn <| Wn <| Wz (.b true) (OpT rfl) <| Nk 131078 1 ⟨tp 1 (.i p1::.loc 0 0::tp 14 (.b true::tp 82 [])), [(.box [(.l enc_GNode_ p0.a0), (.l enc_GNode_ p0.a1)])], 0⟩ <| AWP.if_ true (by kernel_rfl) <| Sx ?_
  obtain ⟨r18_1, hr18_1, hm⟩ := bnd hm
  refine Wz (.b r18_1) (Ocf [] [] [] 0 (ok_telltalelaw11_awake  r18_1 hr18_1) (fun a w => Try.call8 a w) rfl trivial) <| Wm (.b r18_1) rfl <| Nn <| Rt <| Tr ?_
  obtain rfl := Option.some.inj hm
  exact ret_i []
 ·
  replace hm := cF hq12_0 hm
  refine Wz (.b false) (Oq hq12_0 rfl) <| Wz (.loc 0 1) (Ocs (by kernel_rfl) (op_iaddr_arr rfl (n := 2) (sz := 1) (y := (.loc 0 0)) (by kernel_rfl) (by kernel_rfl) (by kernel_rfl) (k := .i64) (iv := 1) (by kernel_rfl) (i := 1) (by rfl) (by decide))) <| Wz (.l enc_GNode_ p0.a1) (Old rfl) ?_
  obtain ⟨r15_0, hr15_0, hm⟩ := bnd hm
  refine Wz (.i r15_0) (Ocf [] [] [] 0 (ok_telltalelaw11_Over p0.a1 r15_0 hr15_0) (fun a w => Try.call7 a w) rfl trivial) <| Wz (.b (decide ((0 : Int) < r15_0))) (Obn rfl (fun _ => hb_gtr (k := .i64))) <| Wz (.b (decide ((0 : Int) < r15_0))) (OpF rfl) <| Nk 131078 1 ⟨tp 1 (.i p1::.loc 0 0::tp 14 (.b (decide ((0 : Int) < r15_0))::tp 82 [])), [(.box [(.l enc_GNode_ p0.a0), (.l enc_GNode_ p0.a1)])], 0⟩ ?_
  rcases tf_ (decide ((0 : Int) < r15_0)) with hc17_8 | hc17_8
  ·
   replace hm := cT hc17_8 hm
   refine AiT hc17_8 <| Sx ?_
   obtain ⟨r18_2, hr18_2, hm⟩ := bnd hm
   refine Wz (.b r18_2) (Ocf [] [] [] 0 (ok_telltalelaw11_awake  r18_2 hr18_2) (fun a w => Try.call8 a w) rfl trivial) <| Wm (.b r18_2) rfl <| Nn <| Rt <| Tr ?_
   obtain rfl := Option.some.inj hm
   exact ret_i []
  ·
   replace hm := cF hc17_8 hm
   refine AiF hc17_8 <| Sk <| Tk 6 1 ⟨tp 1 (.i p1::.loc 0 0::tp 97 []), [(.box [(.l enc_GNode_ p0.a0), (.l enc_GNode_ p0.a1)])], 0⟩ <| Sq <| Adr <| Wz (.loc 0 0) (Ocs (by kernel_rfl) (op_iaddr_arr rfl (n := 2) (sz := 1) (y := (.loc 0 0)) (by kernel_rfl) (by kernel_rfl) (by kernel_rfl) (k := .i64) (iv := 0) (by kernel_rfl) (i := 0) (by rfl) (by decide))) <| Wz (.l enc_GNode_ p0.a0) (Old rfl) ?_
   obtain ⟨r21_3, hr21_3, hm⟩ := bnd hm
   refine Wy (.own 1) [(1, (Ar 33 8 enc_GNode_ r21_3))] (Ocf [] [1] [] 0 (ok_telltalelaw11_Own p0.a0 r21_3 hr21_3) (fun a w => Try.call9 a w) rfl trivial) <| Wz (.loc 0 1) (Ocs (by kernel_rfl) (op_iaddr_arr rfl (n := 2) (sz := 1) (y := (.loc 0 0)) (by kernel_rfl) (by kernel_rfl) (by kernel_rfl) (k := .i64) (iv := 1) (by kernel_rfl) (i := 1) (by rfl) (by decide))) <| Wz (.l enc_GNode_ p0.a1) (Old rfl) ?_
   obtain ⟨r24_3, hr24_3, hm⟩ := bnd hm
   refine Wy (.own 2) [(2, (Ar 33 8 enc_GNode_ r24_3))] (Ocf [] [2] [] 0 (ok_telltalelaw11_Own p0.a1 r24_3 hr24_3) (fun a w => Try.call9 a w) rfl trivial) <| Wm (.own 1) rfl <| Wm (.own 2) rfl <| Wdr <| Tk 102 7 ⟨tp 1 (.i p1::.loc 0 0::tp 2 (.own 1::.own 2::tp 93 [])), [(.box [(.l enc_GNode_ p0.a0), (.l enc_GNode_ p0.a1)]), (Ar 33 8 enc_GNode_ r21_3), (Ar 33 8 enc_GNode_ r24_3)], 0⟩ <| Sq <| Sx <| Wm (.i 0) rfl <| Nk 230 7 ⟨tp 1 (.i p1::.loc 0 0::tp 2 (.own 1::.own 2::.i 0::tp 92 [])), [(.box [(.l enc_GNode_ p0.a0), (.l enc_GNode_ p0.a1)]), (Ar 33 8 enc_GNode_ r21_3), (Ar 33 8 enc_GNode_ r24_3)], 0⟩ <| Bk ?_
   refine AWP.loopI (α := Nat × Int)
     (fun (fu_4, y7_4) => (⟨tp 1 (.i p1::.loc 0 0::tp 2 (.own 1::.own 2::.i y7_4::tp 92 [])), [(.box [(.l enc_GNode_ p0.a0), (.l enc_GNode_ p0.a1)]), (Ar 33 8 enc_GNode_ r21_3), (Ar 33 8 enc_GNode_ r24_3)], 0⟩ : St))
     (fun (fu_4, y7_4) => m_telltalelaw11_PredTells_l4 p0 p1 r21_3 r24_3 fu_4 y7_4 = some r)
     (fun (fu_4, y7_4) => fu_4) (1152921504606846976, 0)
     (Weak.toK 230 0 0 [0, 1, 2]) hm ?_
   rintro ⟨fu_4, y7_4⟩ n_4 hm ih_4
   try dsimp only at hm ih_4 ⊢
   cases fu_4 with
   | zero => exact absurd hm (by unfold m_telltalelaw11_PredTells_l4; simp)
   | succ fu_4 =>
    unfold m_telltalelaw11_PredTells_l4 at hm
    refine Sq <| Sx <| Wm (.i y7_4) rfl <| Wm (.own 1) rfl <| Wz (.i ((List.length r21_3 : Nat) : Int)) (Oln rfl) <| Wz (.b (decide (y7_4 < ((List.length r21_3 : Nat) : Int)))) (Obn rfl (fun _ => hb_lss (k := .i64))) <| Nk 268435686 7 ⟨tp 1 (.i p1::.loc 0 0::tp 2 (.own 1::.own 2::.i y7_4::tp 20 (.b (decide (y7_4 < ((List.length r21_3 : Nat) : Int)))::tp 71 []))), [(.box [(.l enc_GNode_ p0.a0), (.l enc_GNode_ p0.a1)]), (Ar 33 8 enc_GNode_ r21_3), (Ar 33 8 enc_GNode_ r24_3)], 0⟩ ?_
    rcases tf_ (decide (y7_4 < ((List.length r21_3 : Nat) : Int))) with hc28_9 | hc28_9
    ·
     replace hm := cT hc28_9 hm
     refine AiT hc28_9 <| Sk <| Tk 230 7 ⟨tp 1 (.i p1::.loc 0 0::tp 2 (.own 1::.own 2::.i y7_4::tp 92 [])), [(.box [(.l enc_GNode_ p0.a0), (.l enc_GNode_ p0.a1)]), (Ar 33 8 enc_GNode_ r21_3), (Ar 33 8 enc_GNode_ r24_3)], 0⟩ <| Sq <| Bk <| Sq <| Adr <| Wm (.own 1) rfl <| Wm (.i y7_4) rfl ?_
     obtain ⟨x33_6, hx33_6, hm⟩ := bnd hm
     obtain ⟨hx33_6i, hx33_6g⟩ := geti_some hx33_6
     refine Wz (.loc 1 ((Int.toNat y7_4) * 8)) (Oia rfl enc_GNode__len hx33_6i hx33_6g) <| Wz (.loc 1 ((Int.toNat y7_4) * 8)) (Ofa rfl) <| Wz (.y x33_6.Kind) (Lr1 rfl enc_GNode__len hx33_6g) ?_
     obtain ⟨r36_6, hr36_6, hm⟩ := bnd hm
     refine Wz (.i r36_6) (Ocf [] [] [] 0 (ok_pred_Kids x33_6.Kind r36_6 hr36_6) (fun a w => Try.call10 a w) rfl trivial) <| Wm (.own 1) rfl <| Wm (.i y7_4) rfl ?_
     obtain ⟨x39_6, hx39_6, hm⟩ := bnd hm
     obtain ⟨hx39_6i, hx39_6g⟩ := geti_some hx39_6
     refine Wz (.loc 1 ((Int.toNat y7_4) * 8)) (Oia rfl enc_GNode__len hx39_6i hx39_6g) <| Wz (.loc 1 ((Int.toNat y7_4) * 8)) (Ofa rfl) <| Wz (.y x39_6.Kind) (Lr1 rfl enc_GNode__len hx39_6g) ?_
     obtain ⟨r42_6, hr42_6, hm⟩ := bnd hm
     refine Wz (.i r42_6) (Ocf [] [] [] 0 (ok_telltaleref11_Kids x39_6.Kind r42_6 hr42_6) (fun a w => Try.call11 a w) rfl trivial) <| Wz (.b (decide (r36_6 ≠ r42_6))) (Obn rfl (fun _ => hb_neq (k := .i64))) ?_
     rcases tf_ (decide (r36_6 ≠ r42_6)) with hq44_6 | hq44_6
     ·
      replace hm := cT hq44_6 hm
      refine Wz (.b true) (Oq hq44_6 rfl) <| Wn <| Wn <| Wn <| Wn <| Wn <| Wn <| Wn <| Wn <| Wz (.b true) (OpT rfl) <| Wdr <| Tk 9007199254741222 7 ⟨tp 1 (.i p1::.loc 0 0::tp 2 (.own 1::.own 2::.i y7_4::tp 45 (.b true::tp 46 []))), [(.box [(.l enc_GNode_ p0.a0), (.l enc_GNode_ p0.a1)]), (Ar 33 8 enc_GNode_ r21_3), (Ar 33 8 enc_GNode_ r24_3)], 0⟩ <| AWP.if_ true (by kernel_rfl) <| Sx ?_
      refine Wm (.b false) rfl <| Nn <| Rt <| Ir <| Tr <| RoundK.ret <| Ir <| Tr ?_
      obtain rfl := Option.some.inj hm
      exact ret_i []
     ·
      replace hm := cF hq44_6 hm
      refine Wz (.b false) (Oq hq44_6 rfl) <| Wm (.own 1) rfl <| Wm (.i y7_4) rfl ?_
      obtain ⟨r47_6, hr47_6, hm⟩ := bnd hm
      refine Wz (.i r47_6) (Ocp [] [] [1] 0 (ok_pred_Size r21_3 y7_4 r47_6 hr47_6) (plain_triv (by simp [A.Plain, A.Plains, D.Plain, byteD])) (fun a w => Try.call12 a w) rfl trivial) <| Wz (.loc 0 0) (Ocs (by kernel_rfl) (op_iaddr_arr rfl (n := 2) (sz := 1) (y := (.loc 0 0)) (by kernel_rfl) (by kernel_rfl) (by kernel_rfl) (k := .i64) (iv := 0) (by kernel_rfl) (i := 0) (by rfl) (by decide))) <| Wz (.l enc_GNode_ p0.a0) (Old rfl) <| Wm (.i y7_4) rfl ?_
      obtain ⟨r51_6, hr51_6, hm⟩ := bnd hm
      refine Wz (.i r51_6) (Ocf [] [] [] 0 (ok_telltaleref11_Size p0.a0 y7_4 r51_6 hr51_6) (fun a w => Try.call13 a w) rfl trivial) <| Wz (.b (decide (r47_6 ≠ r51_6))) (Obn rfl (fun _ => hb_neq (k := .i64))) <| Wz (.b (decide (r47_6 ≠ r51_6))) (OpF rfl) <| Wdr <| Tk 9007199254741222 7 ⟨tp 1 (.i p1::.loc 0 0::tp 2 (.own 1::.own 2::.i y7_4::tp 45 (.b (decide (r47_6 ≠ r51_6))::tp 46 []))), [(.box [(.l enc_GNode_ p0.a0), (.l enc_GNode_ p0.a1)]), (Ar 33 8 enc_GNode_ r21_3), (Ar 33 8 enc_GNode_ r24_3)], 0⟩ ?_
      rcases tf_ (decide (r47_6 ≠ r51_6)) with hc53_10 | hc53_10
      ·
       replace hm := cT hc53_10 hm
       refine AiT hc53_10 <| Sx <| Wm (.b false) rfl <| Nn <| Rt <| Ir <| Tr <| RoundK.ret <| Ir <| Tr ?_
       obtain rfl := Option.some.inj hm
       exact ret_i []
      ·
       replace hm := cF hc53_10 hm
       refine AiF hc53_10 <| Sk <| Ino <| Tk 230 7 ⟨tp 1 (.i p1::.loc 0 0::tp 2 (.own 1::.own 2::.i y7_4::tp 92 [])), [(.box [(.l enc_GNode_ p0.a0), (.l enc_GNode_ p0.a1)]), (Ar 33 8 enc_GNode_ r21_3), (Ar 33 8 enc_GNode_ r24_3)], 0⟩ <| Tx <| Wm (.i y7_4) rfl <| Wz (.i (W6 (y7_4 + 1))) (Obn rfl (fun _ => hb_add (k := .i64))) <| Wm (.i (W6 (y7_4 + 1))) rfl <| Wn0 <| RoundK.normal ?_
       exact Rounds.weak (Weak.toK 230 0 0 [0, 1, 2]) (ih_4 (fu_4, (W6 (y7_4 + 1))) hm (Nat.lt_succ_self _))
    ·
     replace hm := cF hc28_9 hm
     refine AiF hc28_9 <| AWP.exit <| Then.exit <| RoundK.exit <| InBlock.same <| Tk 102 7 ⟨tp 1 (.i p1::.loc 0 0::tp 2 (.own 1::.own 2::tp 93 [])), [(.box [(.l enc_GNode_ p0.a0), (.l enc_GNode_ p0.a1)]), (Ar 33 8 enc_GNode_ r21_3), (Ar 33 8 enc_GNode_ r24_3)], 0⟩ <| Sq <| Adr <| Wm (.own 1) rfl ?_
     obtain ⟨r55_7, hr55_7, hm⟩ := bnd hm
     refine Wz (.i r55_7) (Ocp [] [] [1] 0 (ok_pred_Check r21_3 r55_7 hr55_7) (plain_triv (by simp [A.Plain, A.Plains, D.Plain, byteD])) (fun a w => Try.call14 a w) rfl trivial) <| Wz (.loc 0 0) (Ocs (by kernel_rfl) (op_iaddr_arr rfl (n := 2) (sz := 1) (y := (.loc 0 0)) (by kernel_rfl) (by kernel_rfl) (by kernel_rfl) (k := .i64) (iv := 0) (by kernel_rfl) (i := 0) (by rfl) (by decide))) <| Wz (.l enc_GNode_ p0.a0) (Old rfl) ?_
     obtain ⟨r58_7, hr58_7, hm⟩ := bnd hm
     refine Wz (.i r58_7) (Ocf [] [] [] 0 (ok_telltaleref11_Check p0.a0 r58_7 hr58_7) (fun a w => Try.call15 a w) rfl trivial) <| Wz (.b (decide (r55_7 = r58_7))) (Obn rfl (fun _ => hb_eql (k := .i64))) ?_
     rcases tf_ (decide (r55_7 = r58_7)) with hq60_7 | hq60_7
     ·
      replace hm := cT hq60_7 hm
      refine Wz (.b true) (Oq hq60_7 rfl) <| Wm (.own 1) rfl ?_
      obtain ⟨r62_7, hr62_7, hm⟩ := bnd hm
      refine Wz (.s r62_7) (Ocp [] [] [1] 0 (ok_pred_Print r21_3 r62_7 hr62_7) (plain_triv (by simp [A.Plain, A.Plains, D.Plain, byteD])) (fun a w => Try.call16 a w) rfl trivial) <| Wz (.loc 0 0) (Ocs (by kernel_rfl) (op_iaddr_arr rfl (n := 2) (sz := 1) (y := (.loc 0 0)) (by kernel_rfl) (by kernel_rfl) (by kernel_rfl) (k := .i64) (iv := 0) (by kernel_rfl) (i := 0) (by rfl) (by decide))) <| Wz (.l enc_GNode_ p0.a0) (Old rfl) ?_
      obtain ⟨r65_7, hr65_7, hm⟩ := bnd hm
      refine Wz (.s r65_7) (Ocf [] [] [] 0 (ok_telltaleref11_Print p0.a0 r65_7 hr65_7) (fun a w => Try.call17 a w) rfl trivial) <| Wz (.b (decide (r62_7 = r65_7))) (Ocs (lit_tf (by simp only [toS_inj, ne_eq])) (op_bin rfl (a1 := .string (toS r62_7)) (a2 := .string (toS r65_7)) (by kernel_rfl) (by kernel_rfl) (fun _ => hb_seql))) <| Wz (.b (decide (r62_7 = r65_7))) (OpT rfl) ?_
      rcases tf_ (decide (r62_7 = r65_7)) with hq68_7 | hq68_7
      ·
       replace hm := cT hq68_7 hm
       refine Wz (.b true) (Oq hq68_7 rfl) <| Wm (.own 1) rfl ?_
       obtain ⟨r70_7, hr70_7, hm⟩ := bnd hm
       refine Wy (.l encS r70_7) [(1, (.fro 33 8 (List.length r21_3) (flatD enc_GNode_ r21_3)))] (Ocf [] [] [1] 0 (ok_pred_Vars r21_3 r70_7 hr70_7) (fun a w => Try.call19 a w) rfl trivial) <| Wz (.loc 0 0) (Ocs (by kernel_rfl) (op_iaddr_arr rfl (n := 2) (sz := 1) (y := (.loc 0 0)) (by kernel_rfl) (by kernel_rfl) (by kernel_rfl) (k := .i64) (iv := 0) (by kernel_rfl) (i := 0) (by rfl) (by decide))) <| Wz (.l enc_GNode_ p0.a0) (Old rfl) ?_
       obtain ⟨r73_7, hr73_7, hm⟩ := bnd hm
       refine Wy (.own 3) [(3, (Ar 9 1 encS r73_7))] (Ocf [] [3] [] 0 (ok_telltaleref11_Vars p0.a0 r73_7 hr73_7) (fun a w => Try.call20 a w) rfl trivial) ?_
       obtain ⟨r74_7, hr74_7, hm⟩ := bnd hm
       refine Wz (.b r74_7) (Ocp [] [] [3] 0 (ok_telltaleref11_SameTexts r70_7 r73_7 r74_7 hr74_7) (plain_triv (by simp [A.Plain, A.Plains, D.Plain, byteD])) (fun a w => Try.call18 a w) rfl trivial) <| Wz (.b r74_7) (OpT rfl) ?_
       rcases tf_ r74_7 with hq76_7 | hq76_7
       ·
        replace hm := cT hq76_7 hm
        refine Wz (.b true) (Oq hq76_7 rfl) <| Wm (.own 1) rfl <| Wm (.i p1) rfl ?_
        obtain ⟨r79_7, hr79_7, hm⟩ := bnd hm
        refine Wz (.i r79_7) (Ocp [] [] [1] 0 (ok_pred_Size r21_3 p1 r79_7 hr79_7) (plain_triv (by simp [A.Plain, A.Plains, D.Plain, byteD])) (fun a w => Try.call12 a w) rfl trivial) <| Wz (.loc 0 0) (Ocs (by kernel_rfl) (op_iaddr_arr rfl (n := 2) (sz := 1) (y := (.loc 0 0)) (by kernel_rfl) (by kernel_rfl) (by kernel_rfl) (k := .i64) (iv := 0) (by kernel_rfl) (i := 0) (by rfl) (by decide))) <| Wz (.l enc_GNode_ p0.a0) (Old rfl) <| Wm (.i p1) rfl ?_
        obtain ⟨r83_7, hr83_7, hm⟩ := bnd hm
        refine Wz (.i r83_7) (Ocf [] [] [] 0 (ok_telltaleref11_Size p0.a0 p1 r83_7 hr83_7) (fun a w => Try.call13 a w) rfl trivial) <| Wz (.b (decide (r79_7 = r83_7))) (Obn rfl (fun _ => hb_eql (k := .i64))) <| Wz (.b (decide (r79_7 = r83_7))) (OpT rfl) ?_
        rcases tf_ (decide (r79_7 = r83_7)) with hq86_7 | hq86_7
        ·
         replace hm := cT hq86_7 hm
         refine Wz (.b true) (Oq hq86_7 rfl) <| Wm (.own 1) rfl <| Wm (.own 2) rfl ?_
         obtain ⟨r89_7, hr89_7, hm⟩ := bnd hm
         refine Wz (.b r89_7) (Ocp [] [] [1, 2] 0 (ok_pred_Same r21_3 r24_3 r89_7 hr89_7) (plain_triv (by simp [A.Plain, A.Plains, D.Plain, byteD])) (fun a w => Try.call21 a w) rfl trivial) <| Wz (.loc 0 0) (Ocs (by kernel_rfl) (op_iaddr_arr rfl (n := 2) (sz := 1) (y := (.loc 0 0)) (by kernel_rfl) (by kernel_rfl) (by kernel_rfl) (k := .i64) (iv := 0) (by kernel_rfl) (i := 0) (by rfl) (by decide))) <| Wz (.l enc_GNode_ p0.a0) (Old rfl) <| Wz (.loc 0 1) (Ocs (by kernel_rfl) (op_iaddr_arr rfl (n := 2) (sz := 1) (y := (.loc 0 0)) (by kernel_rfl) (by kernel_rfl) (by kernel_rfl) (k := .i64) (iv := 1) (by kernel_rfl) (i := 1) (by rfl) (by decide))) <| Wz (.l enc_GNode_ p0.a1) (Old rfl) ?_
         obtain ⟨r94_7, hr94_7, hm⟩ := bnd hm
         refine Wz (.b r94_7) (Ocf [] [] [] 0 (ok_telltaleref11_Same p0.a0 p0.a1 r94_7 hr94_7) (fun a w => Try.call22 a w) rfl trivial) <| Wz (.b (decide (r89_7 = r94_7))) (Ob2 (.bool r89_7) (.bool r94_7) rfl (fun _ => hb_beql (by kernel_rfl))) <| Wz (.b (decide (r89_7 = r94_7))) (OpT rfl) ?_
         rcases tf_ (decide (r89_7 = r94_7)) with hq97_7 | hq97_7
         ·
          replace hm := cT hq97_7 hm
          refine Wz (.b true) (Oq hq97_7 rfl) ?_
          obtain ⟨r98_7, hr98_7, hm⟩ := bnd hm
          refine Wz (.b r98_7) (Ocf [] [] [] 0 (ok_telltalelaw11_awake  r98_7 hr98_7) (fun a w => Try.call8 a w) rfl trivial) <| Wz (.b r98_7) (OpT rfl) <| Wm (.b r98_7) rfl <| Wdr <| Tn <| Rt ?_
          obtain rfl := Option.some.inj hm
          exact ret_i []
         ·
          replace hm := cF hq97_7 hm
          refine Wz (.b false) (Oq hq97_7 rfl) <| Wn <| Wz (.b false) (OpF rfl) <| Wm (.b false) rfl <| Wdr <| Tn <| Rt ?_
          obtain rfl := Option.some.inj hm
          exact ret_i []
        ·
         replace hm := cF hq86_7 hm
         refine Wz (.b false) (Oq hq86_7 rfl) <| Wn <| Wn <| Wn <| Wn <| Wn <| Wn <| Wn <| Wn <| Wn <| Wz (.b false) (OpF rfl) <| Wm (.b false) rfl <| Wn <| Wz (.b false) (OpF rfl) ?_
         refine Wm (.b false) rfl <| Wdr <| Tn <| Rt ?_
         obtain rfl := Option.some.inj hm
         exact ret_i []
       ·
        replace hm := cF hq76_7 hm
        refine Wz (.b false) (Oq hq76_7 rfl) <| Wn <| Wn <| Wn <| Wn <| Wn <| Wn <| Wn <| Wn <| Wz (.b false) (OpF rfl) <| Wm (.b false) rfl <| Wn <| Wn <| Wn ?_
        refine Wn <| Wn <| Wn <| Wn <| Wn <| Wn <| Wz (.b false) (OpF rfl) <| Wm (.b false) rfl <| Wn <| Wz (.b false) (OpF rfl) <| Wm (.b false) rfl <| Wdr <| Tn <| Rt ?_
        obtain rfl := Option.some.inj hm
        exact ret_i []
      ·
       replace hm := cF hq68_7 hm
       refine Wz (.b false) (Oq hq68_7 rfl) <| Wn <| Wn <| Wn <| Wn <| Wn <| Wn <| Wz (.b false) (OpF rfl) <| Wm (.b false) rfl <| Wn <| Wn <| Wn <| Wn <| Wn ?_
       refine Wn <| Wn <| Wn <| Wz (.b false) (OpF rfl) <| Wm (.b false) rfl <| Wn <| Wn <| Wn <| Wn <| Wn <| Wn <| Wn <| Wn <| Wn ?_
       refine Wz (.b false) (OpF rfl) <| Wm (.b false) rfl <| Wn <| Wz (.b false) (OpF rfl) <| Wm (.b false) rfl <| Wdr <| Tn <| Rt ?_
       obtain rfl := Option.some.inj hm
       exact ret_i []
     ·
      replace hm := cF hq60_7 hm
      refine Wz (.b false) (Oq hq60_7 rfl) <| Wn <| Wn <| Wn <| Wn <| Wn <| Wn <| Wz (.b false) (OpF rfl) <| Wm (.b false) rfl <| Wn <| Wn <| Wn <| Wn <| Wn ?_
      refine Wn <| Wz (.b false) (OpF rfl) <| Wm (.b false) rfl <| Wn <| Wn <| Wn <| Wn <| Wn <| Wn <| Wn <| Wn <| Wz (.b false) (OpF rfl) <| Wm (.b false) rfl <| Wn ?_
      refine Wn <| Wn <| Wn <| Wn <| Wn <| Wn <| Wn <| Wn <| Wz (.b false) (OpF rfl) <| Wm (.b false) rfl <| Wn <| Wz (.b false) (OpF rfl) <| Wm (.b false) rfl <| Wdr ?_
      refine Tn <| Rt ?_
      obtain rfl := Option.some.inj hm
      exact ret_i []
end Go.Proofs.Ytkajfanpdabjcaa.K
