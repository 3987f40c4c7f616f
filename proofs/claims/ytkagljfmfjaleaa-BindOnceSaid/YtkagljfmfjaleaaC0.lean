/- what telltalelaw19.BindOnce needs (0) -/
import Derived.Test.YtkagljfmfjaleaaLM
namespace Go.Proofs.Ytkagljfmfjaleaa.K
open Go.RowKit Go.Lib
set_option linter.unusedVariables false
set_option linter.unusedSimpArgs false
set_option maxRecDepth 20000
set_option maxHeartbeats 4000000

theorem ok_telltalelaw04_Small (p0 : GValue) (r : Int) (h : m_telltalelaw04_Small p0 = some r) : GCall Try.prog 59 [(.agg [(.y p0.Kind), (.i p0.N), (.u p0.Bits), (.s p0.Text)])] [] (.i r) [] := by
 refine GCall.of_body (n := 8) (rs := [(.tmp 2)]) Try.func59 rfl rfl rfl <| Ato ⟨.agg [(.y p0.Kind), (.i p0.N), (.u p0.Bits), (.s p0.Text)]::tu 7 [], [], 0⟩ ?_
 have hm := h
 unfold m_telltalelaw04_Small at hm
 refine Sx <| Wy (.loc 0 0) [(0, (.box [(.y p0.Kind), (.i p0.N), (.u p0.Bits), (.s p0.Text)]))] (Obx rfl) <| Wm (.i 0) rfl <| Nk 2 1 ⟨tp 1 (.loc 0 0::tp 6 []), [(.box [(.y p0.Kind), (.i p0.N), (.u p0.Bits), (.s p0.Text)])], 0⟩ <| Sx <| Wz (.loc 0 3) (Ofa rfl) <| Wz (.s p0.Text) (Old rfl) <| Wz (.i ((List.length p0.Text : Nat) : Int)) (Oln rfl) <| Wz (.i (W6 (((List.length p0.Text : Nat) : Int) - 100))) (Obn rfl (fun _ => hb_sub (k := .i64))) <| Wz (.i (max 0 (W6 (((List.length p0.Text : Nat) : Int) - 100)))) (op_bi2 rfl (a1 := .int .i64 0) (a2 := .int .i64 (W6 (((List.length p0.Text : Nat) : Int) - 100))) (by kernel_rfl) (by kernel_rfl) hb_max) <| Wm (.i (max 0 (W6 (((List.length p0.Text : Nat) : Int) - 100)))) rfl <| Nn <| Rt ?_
 obtain rfl := Option.some.inj hm
 exact ret_i []

theorem ok_telltalelaw07_Over (p0 : (List GEvent)) (p1 : Int) (r : Int) (h : m_telltalelaw07_Over p0 p1 = some r) : GCall Try.prog 36 [(.l enc_GEvent p0), (.i p1)] [] (.i r) [] := by
 refine GCall.of_body (n := 53) (rs := [(.tmp 4)]) Try.func36 rfl rfl rfl <| Ato ⟨.l enc_GEvent p0::.i p1::tu 51 [], [], 0⟩ ?_
 have hm := h
 unfold m_telltalelaw07_Over at hm
 refine Sx <| Wm (.i 0) rfl <| Nk 3 0 ⟨.l enc_GEvent p0::.i p1::tp 51 [], [], 0⟩ <| Sq <| Sx <| Wm (.l enc_GEvent p0) rfl <| Wz (.i ((List.length p0 : Nat) : Int)) (Oln rfl) <| Wm (.i p1) rfl <| Wz (.b (decide (p1 < ((List.length p0 : Nat) : Int)))) (Obn rfl (fun _ => hb_gtr (k := .i64))) <| Nk 1025 0 ⟨.l enc_GEvent p0::tp 9 (.b (decide (p1 < ((List.length p0 : Nat) : Int)))::tp 42 []), [], 0⟩ ?_
 rcases tf_ (decide (p1 < ((List.length p0 : Nat) : Int))) with hc10_7 | hc10_7
 ·
  replace hm := cT hc10_7 hm
  refine AiT hc10_7 <| Sx <| Wm (.i 1) rfl <| Nn <| Rt <| Tr ?_
  obtain rfl := Option.some.inj hm
  exact ret_i []
 ·
  replace hm := cF hc10_7 hm
  refine AiF hc10_7 <| Sk <| Tk 1 0 ⟨.l enc_GEvent p0::tp 52 [], [], 0⟩ <| Sq <| Sx <| Wm (.i 0) rfl <| Nk 33 0 ⟨.l enc_GEvent p0::tp 4 (.i 0::tp 47 []), [], 0⟩ <| Bk ?_
  refine AWP.loopI (α := Nat × Int)
    (fun (fu_1, y5_1) => (⟨.l enc_GEvent p0::tp 4 (.i y5_1::tp 47 []), [], 0⟩ : St))
    (fun (fu_1, y5_1) => m_telltalelaw07_Over_l1 p0 fu_1 y5_1 = some r)
    (fun (fu_1, y5_1) => fu_1) (1152921504606846976, 0)
    (Weak.toK 33 0 0 []) hm ?_
  rintro ⟨fu_1, y5_1⟩ n_1 hm ih_1
  try dsimp only at hm ih_1 ⊢
  cases fu_1 with
  | zero => exact absurd hm (by unfold m_telltalelaw07_Over_l1; simp)
  | succ fu_1 =>
   unfold m_telltalelaw07_Over_l1 at hm
   refine Sq <| Sx <| Wm (.i y5_1) rfl <| Wm (.l enc_GEvent p0) rfl <| Wz (.i ((List.length p0 : Nat) : Int)) (Oln rfl) <| Wz (.b (decide (y5_1 < ((List.length p0 : Nat) : Int)))) (Obn rfl (fun _ => hb_lss (k := .i64))) <| Nk 16417 0 ⟨.l enc_GEvent p0::tp 4 (.i y5_1::tp 8 (.b (decide (y5_1 < ((List.length p0 : Nat) : Int)))::tp 38 [])), [], 0⟩ ?_
   rcases tf_ (decide (y5_1 < ((List.length p0 : Nat) : Int))) with hc14_8 | hc14_8
   ·
    replace hm := cT hc14_8 hm
    refine AiT hc14_8 <| Sk <| Tk 33 0 ⟨.l enc_GEvent p0::tp 4 (.i y5_1::tp 47 []), [], 0⟩ <| Sq <| Bk <| Sq <| Sx <| Wm (.l enc_GEvent p0) rfl <| Wm (.i y5_1) rfl ?_
    obtain ⟨x19_3, hx19_3, hm⟩ := bnd hm
    obtain ⟨hx19_3i, hx19_3g⟩ := geti_some hx19_3
    refine Wz (.d (.ref (List.drop ((Int.toNat y5_1) * 5) (flatD enc_GEvent p0)))) (Oia rfl enc_GEvent_len hx19_3i hx19_3g) <| Wz (.d (.ref (List.drop 3 (List.drop ((Int.toNat y5_1) * 5) (flatD enc_GEvent p0))))) (Ofa rfl) <| Wz (.s x19_3.Type_) (Lfk1 3 rfl enc_GEvent_len hx19_3g) <| Wz (.i ((List.length x19_3.Type_ : Nat) : Int)) (Oln rfl) <| Wz (.b (decide ((40 : Int) < ((List.length x19_3.Type_ : Nat) : Int)))) (Obn rfl (fun _ => hb_gtr (k := .i64))) ?_
    rcases tf_ (decide ((40 : Int) < ((List.length x19_3.Type_ : Nat) : Int))) with hq24_3 | hq24_3
    ·
     replace hm := cT hq24_3 hm
     refine Wz (.b true) (Oq hq24_3 rfl) <| Wn <| Wn <| Wn <| Wn <| Wn <| Wn <| Wn <| Wz (.b true) (OpT rfl) <| Nk 4294967329 0 ⟨.l enc_GEvent p0::tp 4 (.i y5_1::tp 26 (.b true::tp 20 [])), [], 0⟩ <| AWP.if_ true (by kernel_rfl) <| Sx <| Wm (.i 1) rfl <| Nn ?_
     refine Rt <| Tr <| Ir <| Tr <| RoundK.ret <| Ir <| Tr ?_
     obtain rfl := Option.some.inj hm
     exact ret_i []
    ·
     replace hm := cF hq24_3 hm
     refine Wz (.b false) (Oq hq24_3 rfl) <| Wm (.l enc_GEvent p0) rfl <| Wm (.i y5_1) rfl ?_
     obtain ⟨x27_3, hx27_3, hm⟩ := bnd hm
     obtain ⟨hx27_3i, hx27_3g⟩ := geti_some hx27_3
     refine Wz (.d (.ref (List.drop ((Int.toNat y5_1) * 5) (flatD enc_GEvent p0)))) (Oia rfl enc_GEvent_len hx27_3i hx27_3g) <| Wz (.d (.ref (List.drop 4 (List.drop ((Int.toNat y5_1) * 5) (flatD enc_GEvent p0))))) (Ofa rfl) <| Wz (.l enc_GValue x27_3.Vals) (Lfk1 4 rfl enc_GEvent_len hx27_3g) <| Wz (.i ((List.length x27_3.Vals : Nat) : Int)) (Oln rfl) <| Wz (.b (decide ((12 : Int) < ((List.length x27_3.Vals : Nat) : Int)))) (Obn rfl (fun _ => hb_gtr (k := .i64))) <| Wz (.b (decide ((12 : Int) < ((List.length x27_3.Vals : Nat) : Int)))) (OpF rfl) <| Nk 4294967329 0 ⟨.l enc_GEvent p0::tp 4 (.i y5_1::tp 26 (.b (decide ((12 : Int) < ((List.length x27_3.Vals : Nat) : Int)))::tp 20 [])), [], 0⟩ ?_
     rcases tf_ (decide ((12 : Int) < ((List.length x27_3.Vals : Nat) : Int))) with hc32_9 | hc32_9
     ·
      replace hm := cT hc32_9 hm
      refine AiT hc32_9 <| Sx <| Wm (.i 1) rfl <| Nn <| Rt <| Tr <| Ir <| Tr <| RoundK.ret <| Ir <| Tr ?_
      obtain rfl := Option.some.inj hm
      exact ret_i []
     ·
      replace hm := cF hc32_9 hm
      refine AiF hc32_9 <| Sk <| Tk 33 0 ⟨.l enc_GEvent p0::tp 4 (.i y5_1::tp 47 []), [], 0⟩ <| Sx <| Wm (.i 0) rfl <| Nk 97 0 ⟨.l enc_GEvent p0::tp 4 (.i y5_1::.i 0::tp 46 []), [], 0⟩ <| Bk ?_
      refine AWP.loopI (α := Nat × Int)
        (fun (fu_4, y6_4) => (⟨.l enc_GEvent p0::tp 4 (.i y5_1::.i y6_4::tp 46 []), [], 0⟩ : St))
        (fun (fu_4, y6_4) => m_telltalelaw07_Over_l4 p0 y5_1 (fun y5_1 => m_telltalelaw07_Over_l1 p0 fu_1 y5_1) fu_4 y6_4 = some r)
        (fun (fu_4, y6_4) => fu_4) (1152921504606846976, 0)
        (Weak.toK 97 0 0 []) hm ?_
      rintro ⟨fu_4, y6_4⟩ n_4 hm ih_4
      try dsimp only at hm ih_4 ⊢
      cases fu_4 with
      | zero => exact absurd hm (by unfold m_telltalelaw07_Over_l4; simp)
      | succ fu_4 =>
       unfold m_telltalelaw07_Over_l4 at hm
       refine Sq <| Sx <| Wm (.i y6_4) rfl <| Wm (.l enc_GEvent p0) rfl <| Wm (.i y5_1) rfl ?_
       obtain ⟨x36_5, hx36_5, hm⟩ := bnd hm
       obtain ⟨hx36_5i, hx36_5g⟩ := geti_some hx36_5
       refine Wz (.d (.ref (List.drop ((Int.toNat y5_1) * 5) (flatD enc_GEvent p0)))) (Oia rfl enc_GEvent_len hx36_5i hx36_5g) <| Wz (.d (.ref (List.drop 4 (List.drop ((Int.toNat y5_1) * 5) (flatD enc_GEvent p0))))) (Ofa rfl) <| Wz (.l enc_GValue x36_5.Vals) (Lfk1 4 rfl enc_GEvent_len hx36_5g) <| Wz (.i ((List.length x36_5.Vals : Nat) : Int)) (Oln rfl) <| Wz (.b (decide (y6_4 < ((List.length x36_5.Vals : Nat) : Int)))) (Obn rfl (fun _ => hb_lss (k := .i64))) <| Nk 1099511627873 0 ⟨.l enc_GEvent p0::tp 4 (.i y5_1::.i y6_4::tp 33 (.b (decide (y6_4 < ((List.length x36_5.Vals : Nat) : Int)))::tp 12 [])), [], 0⟩ ?_
       rcases tf_ (decide (y6_4 < ((List.length x36_5.Vals : Nat) : Int))) with hc40_10 | hc40_10
       ·
        replace hm := cT hc40_10 hm
        refine AiT hc40_10 <| Sk <| Tk 97 0 ⟨.l enc_GEvent p0::tp 4 (.i y5_1::.i y6_4::tp 46 []), [], 0⟩ <| Sq <| Bk <| Sx <| Wm (.l enc_GEvent p0) rfl <| Wm (.i y5_1) rfl ?_
        obtain ⟨x45_6, hx45_6, hm⟩ := bnd hm
        obtain ⟨hx45_6i, hx45_6g⟩ := geti_some hx45_6
        refine Wz (.d (.ref (List.drop ((Int.toNat y5_1) * 5) (flatD enc_GEvent p0)))) (Oia rfl enc_GEvent_len hx45_6i hx45_6g) <| Wz (.d (.ref (List.drop 4 (List.drop ((Int.toNat y5_1) * 5) (flatD enc_GEvent p0))))) (Ofa rfl) <| Wz (.l enc_GValue x45_6.Vals) (Lfk1 4 rfl enc_GEvent_len hx45_6g) <| Wm (.i y6_4) rfl ?_
        obtain ⟨x49_6, hx49_6, hm⟩ := bnd hm
        obtain ⟨hx49_6i, hx49_6g⟩ := geti_some hx49_6
        refine Wz (.d (.ref (List.drop ((Int.toNat y6_4) * 4) (flatD enc_GValue x45_6.Vals)))) (Oia rfl enc_GValue_len hx49_6i hx49_6g) <| Wz (.agg [(.y x49_6.Kind), (.i x49_6.N), (.u x49_6.Bits), (.s x49_6.Text)]) (Lf rfl enc_GValue_len hx49_6g) ?_
        obtain ⟨r51_6, hr51_6, hm⟩ := bnd hm
        refine Wz (.i r51_6) (Ocf [] [] [] 0 (ok_telltalelaw04_Small x49_6 r51_6 hr51_6) (fun a w => Try.call59 a w) rfl trivial) <| Wz (.b (decide ((0 : Int) < r51_6))) (Obn rfl (fun _ => hb_gtr (k := .i64))) <| Nk 4503599627370593 0 ⟨.l enc_GEvent p0::tp 4 (.i y5_1::.i y6_4::tp 45 (.b (decide ((0 : Int) < r51_6))::[])), [], 0⟩ ?_
        rcases tf_ (decide ((0 : Int) < r51_6)) with hc52_11 | hc52_11
        ·
         replace hm := cT hc52_11 hm
         refine AiT hc52_11 <| Sx <| Wm (.i 1) rfl <| Nn <| Rt <| Ir <| Tr <| RoundK.ret <| Ir <| Ir <| Tr <| RoundK.ret <| Ir <| Tr ?_
         obtain rfl := Option.some.inj hm
         exact ret_i []
        ·
         replace hm := cF hc52_11 hm
         refine AiF hc52_11 <| Sk <| Ino <| Tk 97 0 ⟨.l enc_GEvent p0::tp 4 (.i y5_1::.i y6_4::tp 46 []), [], 0⟩ <| Tx <| Wm (.i y6_4) rfl <| Wz (.i (W6 (y6_4 + 1))) (Obn rfl (fun _ => hb_add (k := .i64))) <| Wm (.i (W6 (y6_4 + 1))) rfl <| Wn0 <| RoundK.normal ?_
         exact Rounds.weak (Weak.toK 97 0 0 []) (ih_4 (fu_4, (W6 (y6_4 + 1))) hm (Nat.lt_succ_self _))
       ·
        replace hm := cF hc40_10 hm
        refine AiF hc40_10 <| AWP.exit <| Then.exit <| RoundK.exit <| InBlock.same <| Ino <| Tk 33 0 ⟨.l enc_GEvent p0::tp 4 (.i y5_1::tp 47 []), [], 0⟩ <| Tx <| Wm (.i y5_1) rfl <| Wz (.i (W6 (y5_1 + 1))) (Obn rfl (fun _ => hb_add (k := .i64))) <| Wm (.i (W6 (y5_1 + 1))) rfl <| Wn0 <| RoundK.normal ?_
        exact Rounds.weak (Weak.toK 33 0 0 []) (ih_1 (fu_1, (W6 (y5_1 + 1))) hm (Nat.lt_succ_self _))
   ·
    replace hm := cF hc14_8 hm
    refine AiF hc14_8 <| AWP.exit <| Then.exit <| RoundK.exit <| InBlock.same <| Tk 0 0 ⟨tp 53 [], [], 0⟩ <| Sx <| Wm (.i 0) rfl <| Nn <| Rt ?_
    obtain rfl := Option.some.inj hm
    exact ret_i []

theorem ok_telltalelaw19_Long (p0 : (List GPair)) (r : Int) (h : m_telltalelaw19_Long p0 = some r) : GCall Try.prog 7 [(.l enc_GPair p0)] [] (.i r) [] := by
 refine GCall.of_body (n := 30) (rs := [(.tmp 2)]) Try.func7 rfl rfl rfl <| Ato ⟨.l enc_GPair p0::tu 29 [], [], 0⟩ ?_
 have hm := h
 unfold m_telltalelaw19_Long at hm
 refine Sx <| Wm (.i 0) rfl <| Nk 1 0 ⟨.l enc_GPair p0::tp 29 [], [], 0⟩ <| Sq <| Sx <| Wm (.l enc_GPair p0) rfl <| Wz (.i ((List.length p0 : Nat) : Int)) (Oln rfl) <| Wz (.b (decide ((20 : Int) < ((List.length p0 : Nat) : Int)))) (Obn rfl (fun _ => hb_gtr (k := .i64))) <| Nk 65 0 ⟨.l enc_GPair p0::tp 5 (.b (decide ((20 : Int) < ((List.length p0 : Nat) : Int)))::tp 23 []), [], 0⟩ ?_
 rcases tf_ (decide ((20 : Int) < ((List.length p0 : Nat) : Int))) with hc6_4 | hc6_4
 ·
  replace hm := cT hc6_4 hm
  refine AiT hc6_4 <| Sx <| Wm (.i 1) rfl <| Nn <| Rt <| Tr ?_
  obtain rfl := Option.some.inj hm
  exact ret_i []
 ·
  replace hm := cF hc6_4 hm
  refine AiF hc6_4 <| Sk <| Tk 1 0 ⟨.l enc_GPair p0::tp 29 [], [], 0⟩ <| Sq <| Sx <| Wm (.i 0) rfl <| Nk 9 0 ⟨.l enc_GPair p0::tp 2 (.i 0::tp 26 []), [], 0⟩ <| Bk ?_
  refine AWP.loopI (α := Nat × Int)
    (fun (fu_1, y3_1) => (⟨.l enc_GPair p0::tp 2 (.i y3_1::tp 26 []), [], 0⟩ : St))
    (fun (fu_1, y3_1) => m_telltalelaw19_Long_l1 p0 fu_1 y3_1 = some r)
    (fun (fu_1, y3_1) => fu_1) (1152921504606846976, 0)
    (Weak.toK 9 0 0 []) hm ?_
  rintro ⟨fu_1, y3_1⟩ n_1 hm ih_1
  try dsimp only at hm ih_1 ⊢
  cases fu_1 with
  | zero => exact absurd hm (by unfold m_telltalelaw19_Long_l1; simp)
  | succ fu_1 =>
   unfold m_telltalelaw19_Long_l1 at hm
   refine Sq <| Sx <| Wm (.i y3_1) rfl <| Wm (.l enc_GPair p0) rfl <| Wz (.i ((List.length p0 : Nat) : Int)) (Oln rfl) <| Wz (.b (decide (y3_1 < ((List.length p0 : Nat) : Int)))) (Obn rfl (fun _ => hb_lss (k := .i64))) <| Nk 1033 0 ⟨.l enc_GPair p0::tp 2 (.i y3_1::tp 6 (.b (decide (y3_1 < ((List.length p0 : Nat) : Int)))::tp 19 [])), [], 0⟩ ?_
   rcases tf_ (decide (y3_1 < ((List.length p0 : Nat) : Int))) with hc10_5 | hc10_5
   ·
    replace hm := cT hc10_5 hm
    refine AiT hc10_5 <| Sk <| Tk 9 0 ⟨.l enc_GPair p0::tp 2 (.i y3_1::tp 26 []), [], 0⟩ <| Sq <| Bk <| Sx <| Wm (.l enc_GPair p0) rfl <| Wm (.i y3_1) rfl ?_
    obtain ⟨x15_3, hx15_3, hm⟩ := bnd hm
    obtain ⟨hx15_3i, hx15_3g⟩ := geti_some hx15_3
    refine Wz (.d (.ref (List.drop ((Int.toNat y3_1) * 6) (flatD enc_GPair p0)))) (Oia rfl enc_GPair_len hx15_3i hx15_3g) <| Wz (.d (.ref (List.drop ((Int.toNat y3_1) * 6) (flatD enc_GPair p0)))) (Ofa rfl) <| Wz (.s x15_3.Var) (Lf1 rfl enc_GPair_len hx15_3g) <| Wz (.i ((List.length x15_3.Var : Nat) : Int)) (Oln rfl) <| Wz (.b (decide ((40 : Int) < ((List.length x15_3.Var : Nat) : Int)))) (Obn rfl (fun _ => hb_gtr (k := .i64))) ?_
    rcases tf_ (decide ((40 : Int) < ((List.length x15_3.Var : Nat) : Int))) with hq20_3 | hq20_3
    ·
     replace hm := cT hq20_3 hm
     refine Wz (.b true) (Oq hq20_3 rfl) <| Wn <| Wn <| Wn <| Wn <| Wn <| Wn <| Wn <| Wn <| Wz (.b true) (OpT rfl) <| Nk 536870921 0 ⟨.l enc_GPair p0::tp 2 (.i y3_1::tp 25 (.b true::[])), [], 0⟩ <| AWP.if_ true (by kernel_rfl) <| Sx <| Wm (.i 1) rfl ?_
     refine Nn <| Rt <| Ir <| Tr <| RoundK.ret <| Ir <| Tr ?_
     obtain rfl := Option.some.inj hm
     exact ret_i []
    ·
     replace hm := cF hq20_3 hm
     refine Wz (.b false) (Oq hq20_3 rfl) <| Wm (.l enc_GPair p0) rfl <| Wm (.i y3_1) rfl ?_
     obtain ⟨x23_3, hx23_3, hm⟩ := bnd hm
     obtain ⟨hx23_3i, hx23_3g⟩ := geti_some hx23_3
     refine Wz (.d (.ref (List.drop ((Int.toNat y3_1) * 6) (flatD enc_GPair p0)))) (Oia rfl enc_GPair_len hx23_3i hx23_3g) <| Wz (.d (.ref (List.drop 1 (List.drop ((Int.toNat y3_1) * 6) (flatD enc_GPair p0))))) (Ofa rfl) <| Wz (.agg [(.i x23_3.E.Time), (.i x23_3.E.Source), (.i x23_3.E.Seq), (.s x23_3.E.Type_), (.l enc_GValue x23_3.E.Vals)]) (Lfk 1 rfl enc_GPair_len hx23_3g) <| Wy (.own 0) [(0, (Ar 26 5 enc_GEvent ([x23_3.E] : List GEvent)))] (Obs rfl) ?_
     obtain ⟨r27_3, hr27_3, hm⟩ := bnd hm
     refine Wz (.i r27_3) (Ocp [] [] [0] 0 (ok_telltalelaw07_Over ([x23_3.E] : List GEvent) 1 r27_3 hr27_3) (plain_triv (by simp [A.Plain, A.Plains, D.Plain, byteD])) (fun a w => Try.call36 a w) rfl trivial) <| Wz (.b (decide ((0 : Int) < r27_3))) (Obn rfl (fun _ => hb_gtr (k := .i64))) <| Wz (.b (decide ((0 : Int) < r27_3))) (OpF rfl) <| Nk 536870921 0 ⟨.l enc_GPair p0::tp 2 (.i y3_1::tp 25 (.b (decide ((0 : Int) < r27_3))::[])), [.gone], 0⟩ ?_
     rcases tf_ (decide ((0 : Int) < r27_3)) with hc29_6 | hc29_6
     ·
      replace hm := cT hc29_6 hm
      refine AiT hc29_6 <| Sx <| Wm (.i 1) rfl <| Nn <| Rt <| Ir <| Tr <| RoundK.ret <| Ir <| Tr ?_
      obtain rfl := Option.some.inj hm
      exact ret_i []
     ·
      replace hm := cF hc29_6 hm
      refine AiF hc29_6 <| Sk <| Ino <| Tk 9 0 ⟨.l enc_GPair p0::tp 2 (.i y3_1::tp 26 []), [.gone], 0⟩ <| Tx <| Wm (.i y3_1) rfl <| Wz (.i (W6 (y3_1 + 1))) (Obn rfl (fun _ => hb_add (k := .i64))) <| Wm (.i (W6 (y3_1 + 1))) rfl <| Wn0 <| RoundK.normal ?_
      exact Rounds.weak (Weak.toK 9 0 0 []) (ih_1 (fu_1, (W6 (y3_1 + 1))) hm (Nat.lt_succ_self _))
   ·
    replace hm := cF hc10_5 hm
    refine AiF hc10_5 <| AWP.exit <| Then.exit <| RoundK.exit <| InBlock.same <| Tk 0 0 ⟨tp 30 [], [], 0⟩ <| Sx <| Wm (.i 0) rfl <| Nn <| Rt ?_
    obtain rfl := Option.some.inj hm
    exact ret_i []

theorem ok_bind_Add (p0 : (List GPair)) (p1 : (List UInt8)) (p2 : GEvent) (r : (List GPair)) (h : m_bind_Add p0 p1 p2 = some r) : GCall Try.prog 12 [(.l enc_GPair p0), (.s p1), (.agg [(.i p2.Time), (.i p2.Source), (.i p2.Seq), (.s p2.Type_), (.l enc_GValue p2.Vals)])] [] (.own 0) [(Ar 45 6 enc_GPair r)] := by
 refine GCall.of_body (n := 18) (rs := [(.tmp 6)]) Try.func12 rfl rfl rfl <| Ato ⟨.l enc_GPair p0::.s p1::.agg [(.i p2.Time), (.i p2.Source), (.i p2.Seq), (.s p2.Type_), (.l enc_GValue p2.Vals)]::tu 15 [], [], 0⟩ ?_
 have hm := h
 unfold m_bind_Add at hm
 refine Sx <| Wy (.loc 0 0) [(0, (.box [(.i p2.Time), (.i p2.Source), (.i p2.Seq), (.s p2.Type_), (.l enc_GValue p2.Vals)]))] (Obx rfl) <| Wm (.d .nil) rfl <| Nk 35 1 ⟨.l enc_GPair p0::.s p1::tp 3 (.loc 0 0::tp 12 []), [(.box [(.i p2.Time), (.i p2.Source), (.i p2.Seq), (.s p2.Type_), (.l enc_GValue p2.Vals)])], 0⟩ <| Sq <| Adr <| Wm (.l enc_GPair p0) rfl <| Wm (.l enc_GPair p0) rfl <| Wz (.i ((List.length p0 : Nat) : Int)) (Oln rfl) <| Wm (.l enc_GPair p0) rfl <| Wz (.i ((List.length p0 : Nat) : Int)) (Oln rfl) <| Wz (.d (.slc (List.length p0) (flatD enc_GPair p0))) (Oct rfl enc_GPair_len) <| Wm (.s p1) rfl <| Wz (.agg [(.i p2.Time), (.i p2.Source), (.i p2.Seq), (.s p2.Type_), (.l enc_GValue p2.Vals)]) (Old rfl) ?_
 refine Wz (.agg [(.s p1), (.i p2.Time), (.i p2.Source), (.i p2.Seq), (.s p2.Type_), (.l enc_GValue p2.Vals)]) (Obd rfl) <| Wy (.own 1) [(1, (Ar 45 6 enc_GPair ([(GPair.mk p1 p2)] : List GPair)))] (Obs rfl) ?_
 obtain ⟨a17_0, ha17_0, hm⟩ := bnd hm; obtain ⟨ha17_0e, ha17_0l⟩ := app_some ha17_0
 refine Wy (.own 2) [(2, (Ar 45 6 enc_GPair a17_0))] (Oac rfl elemOK_31 enc_GPair_len ha17_0e ha17_0l (by simp)) <| Wm (.own 2) rfl <| Wdr <| Tn <| Rt ?_
 obtain rfl := Option.some.inj hm
 exact ret_i [2]

theorem ok_bind_Last (p0 : (List GPair)) (p1 : (List UInt8)) (r : (GEvent × Bool)) (h : m_bind_Last p0 p1 = some r) : GCall Try.prog 10 [(.l enc_GPair p0), (.s p1)] [] (.tup [(.agg [(.i r.1.Time), (.i r.1.Source), (.i r.1.Seq), (.s r.1.Type_), (.l enc_GValue r.1.Vals)]), (.b r.2)]) [] := by
  intro m S w vs hH hR
  simp only [Reps] at hR
  obtain ⟨v0, r0, rfl, h0, v1, r1, rfl, h1, rfl⟩ := hR
  simp only [Rep] at h0 h1
  unfold RepD at h0 h1
  obtain ⟨a, cap, rfl, hcap, hmax, hnil, hcs⟩ := h0
  obtain ⟨rfl, _⟩ := h1
  have hat := RepDs.at _ _ _ hcs
  unfold m_bind_Last at h
  obtain ⟨hlen, h⟩ := chk_some h
  have hD : ∀ k j (x : GPair) (d : D), p0[k]? = some x → j < 6 → (enc_GPair x)[j]? = some d → ∃ p u, a = some p ∧ w.cell? (p.add (k * 6 + j)) = some u ∧ S p.block ∧ RepD S w d u := fun k j x d hx hj hd => by
    obtain ⟨p, u, e1, e2, e3, _, e5⟩ := hat (k * 6 + j) d (by rw [flat_cell enc_GPair_len p0 k j x hx hj, hd])
    rw [Nat.zero_add] at e2
    exact ⟨p, u, e1, e2, e3, e5⟩
  have hV : ∀ k, ∃ t : Option Addr × Nat × Nat, ∀ x, p0[k]? = some x → ∀ p, a = some p → w.cell? (p.add (k * 6 + 5)) = some (.slice t.1 t.2.1 t.2.2) ∧ RepD S w (.sl (List.length x.E.Vals) (flatD enc_GValue x.E.Vals)) (.slice t.1 t.2.1 t.2.2) := fun k => by
    cases hx : p0[k]? with
    | none => exact ⟨(none, 0, 0), fun x h => by cases h⟩
    | some x =>
      obtain ⟨p, u, e1, e2, _, e5⟩ := hD k 5 x _ hx (by decide) rfl
      have e6 := e5
      unfold RepD at e6
      obtain ⟨b, cp, rfl, _⟩ := e6
      exact ⟨(b, _, cp), fun y hy q hq => by cases hy; rw [e1] at hq; cases hq; exact ⟨e2, e5⟩⟩
  obtain ⟨t, ht⟩ := Classical.skolem.1 hV
  have gD : ∀ k (hk : k < p0.length), p0.getD k default = p0[k] := fun k hk => by rw [List.getD_eq_getElem?_getD, List.getElem?_eq_getElem hk]; rfl
  let c : Nat → Nat → Value := fun k j => match j with
    | 0 => .string (toS (p0.getD k default).Var)
    | 1 => .int .i64 (p0.getD k default).E.Time
    | 2 => .int .i64 (p0.getD k default).E.Source
    | 3 => .int .i64 (p0.getD k default).E.Seq
    | 4 => .string (toS (p0.getD k default).E.Type_)
    | _ => .slice (t k).1 (t k).2.1 (t k).2.2
  have hP : B.Pairs w.heap.size w a p0.length c := ⟨fun ha => (hnil ha).1, fun p hp hl => ⟨?_, fun k j hk hj => ?_⟩⟩
  · have hl3 := B.last_in Fence.wide 3 trivial trivial trivial rfl (by omega) a p0.length cap c (fun k => toS (p0.getD k default).Var) (fun k => toS (p0.getD k default).E.Type_) (fun k => (p0.getD k default).E.Time) (fun k => (p0.getD k default).E.Source) (fun k => (p0.getD k default).E.Seq) (fun k => (t k).1) (fun k => (t k).2.1) (fun k => (t k).2.2) (toS p1) (fun _ => rfl) (fun _ => rfl) (fun _ => rfl) (fun _ => rfl) (fun _ => rfl) (fun _ => rfl) (by omega) w hP
    refine Calls.mono (callsIn_wide.1 hl3) fun e w' ⟨hq, hb⟩ => ?_
    have hk := Keeps.below hH hb
    have hI : ∀ n : Int, RepD S w' (.lit (.int .i64 n)) (.int .i64 n) := fun n => by unfold RepD; exact ⟨rfl, rfl⟩
    have hSt : ∀ l : List UInt8, RepD S w' (.lit (.string (toS l))) (.string (toS l)) := fun l => by unfold RepD; exact ⟨rfl, rfl⟩
    have hBo : ∀ b : Bool, RepD S w' (.lit (.bool b)) (.bool b) := fun b => by unfold RepD; exact ⟨rfl, rfl⟩
    have all : ∀ (x : GEvent) (b : Bool) (v : Value), r = (x, b) → RepD S w' (.sl (List.length x.Vals) (flatD enc_GValue x.Vals)) v → Rep m S w' (.tup [(.agg [(.i r.1.Time), (.i r.1.Source), (.i r.1.Seq), (.s r.1.Type_), (.l enc_GValue r.1.Vals)]), (.b r.2)]) (.tuple #[.agg #[.int .i64 x.Time, .int .i64 x.Source, .int .i64 x.Seq, .string (toS x.Type_), v], .bool b]) := fun x b v hr hv => by
      subst hr
      simp only [Rep, Reps]
      exact ⟨_, rfl, _, _, rfl, ⟨_, rfl, _, _, rfl, hI _, _, _, rfl, hI _, _, _, rfl, hI _, _, _, rfl, hSt _, _, _, rfl, hv, rfl⟩, _, _, rfl, hBo _, rfl⟩
    rcases hq with ⟨rfl, hno⟩ | ⟨k, hkl, hkn, hlast, rfl⟩
    · have hf : p0.reverse.find? (fun p => decide (p.Var = p1)) = none := by
        rw [List.find?_eq_none]
        intro x hx
        obtain ⟨k, hk, rfl⟩ := List.mem_iff_getElem.1 (List.mem_reverse.1 hx)
        have h1 := hno k hk
        simp only [gD k hk] at h1
        simp only [decide_eq_true_eq]
        exact fun e => h1 (by rw [e])
      rw [hf] at h
      refine ⟨_, m, S, rfl, Hold.below hH hb, all _ _ _ (Option.some.inj h).symm ?_⟩
      unfold RepD
      exact ⟨none, 0, rfl, Nat.le_refl _, by decide, fun _ => ⟨rfl, rfl⟩, by simp [flatD, RepDs]⟩
    · have hf : p0.reverse.find? (fun p => decide (p.Var = p1)) = some p0[k] := by
        rw [List.find?_eq_some_iff_append]
        simp only [gD k hkl] at hkn
        refine ⟨by simpa using toS_inj.1 hkn, (p0.drop (k + 1)).reverse, (p0.take k).reverse, ?_, fun x hx => ?_⟩
        · have e : p0 = p0.take k ++ p0[k] :: p0.drop (k + 1) := by rw [← List.drop_eq_getElem_cons hkl, List.take_append_drop]
          conv => lhs; rw [e]
          simp
        · obtain ⟨j, hj, rfl⟩ := List.mem_iff_getElem.1 (List.mem_reverse.1 hx)
          rw [List.length_drop] at hj
          have h1 := hlast (k + 1 + j) (by omega) (by omega)
          simp only [gD (k + 1 + j) (by omega)] at h1
          simp only [List.getElem_drop, Bool.not_eq_true', decide_eq_false_iff_not]
          exact fun e => h1 (by rw [e])
      rw [hf] at h
      obtain ⟨p, _, rfl, _⟩ := hD k 0 _ _ (List.getElem?_eq_getElem hkl) (by decide) rfl
      have hpa := ht k _ (List.getElem?_eq_getElem hkl) p rfl
      refine ⟨_, m, S, rfl, Hold.below hH hb, ?_⟩
      rw [gD k hkl]
      exact all _ _ _ (Option.some.inj h).symm (RepD.mono (fun _ h => h) hk _ _ hpa.2)
  · obtain ⟨q, u, e1, _, e3, _⟩ := hD 0 0 p0[0] _ (by rw [List.getElem?_eq_getElem hl]) (by decide) rfl
    rw [hp] at e1; cases e1
    exact (hH.s _ e3).2
  · have hx : p0[k]? = some p0[k] := List.getElem?_eq_getElem hk
    have one : ∀ j d, j < 6 → (enc_GPair p0[k])[j]? = some d → ∃ u, w.cell? (p.add (k * 6 + j)) = some u ∧ RepD S w d u := fun j d hj hd => by
      obtain ⟨q, u, e1, e2, _, e5⟩ := hD k j _ d hx hj hd
      rw [hp] at e1; cases e1
      exact ⟨u, e2, e5⟩
    match j, hj with
    | 0, _ => obtain ⟨u, e2, e5⟩ := one 0 _ (by decide) rfl; unfold RepD at e5; rw [e2, e5.1]; simp only [c, gD k hk]
    | 1, _ => obtain ⟨u, e2, e5⟩ := one 1 _ (by decide) rfl; unfold RepD at e5; rw [e2, e5.1]; simp only [c, gD k hk]
    | 2, _ => obtain ⟨u, e2, e5⟩ := one 2 _ (by decide) rfl; unfold RepD at e5; rw [e2, e5.1]; simp only [c, gD k hk]
    | 3, _ => obtain ⟨u, e2, e5⟩ := one 3 _ (by decide) rfl; unfold RepD at e5; rw [e2, e5.1]; simp only [c, gD k hk]
    | 4, _ => obtain ⟨u, e2, e5⟩ := one 4 _ (by decide) rfl; unfold RepD at e5; rw [e2, e5.1]; simp only [c, gD k hk]
    | 5, _ => exact (ht k _ hx p hp).1

theorem ok_bind_Span (p0 : (List GPair)) (r : (Int × Int × Bool)) (h : m_bind_Span p0 = some r) : GCall Try.prog 14 [(.l enc_GPair p0)] [] (.tup [(.i r.1), (.i r.2.1), (.b r.2.2)]) [] := by
 refine GCall.of_body (n := 21) (rs := [(.tmp 2), (.tmp 3), (.tmp 4)]) Try.func14 rfl rfl rfl <| Ato ⟨.l enc_GPair p0::tu 20 [], [], 0⟩ ?_
 have hm := h
 unfold m_bind_Span at hm
 refine Sx <| Wm (.i 0) rfl <| Wm (.i 0) rfl <| Wm (.b false) rfl <| Nk 1 0 ⟨.l enc_GPair p0::tp 20 [], [], 0⟩ <| Sq <| Sx <| Wm (.l enc_GPair p0) rfl <| Wz (.i ((List.length p0 : Nat) : Int)) (Oln rfl) <| Wz (.b (decide (((List.length p0 : Nat) : Int) = 0))) (Obn rfl (fun _ => hb_eql (k := .i64))) <| Nk 129 0 ⟨.l enc_GPair p0::tp 6 (.b (decide (((List.length p0 : Nat) : Int) = 0))::tp 13 []), [], 0⟩ ?_
 rcases tf_ (decide (((List.length p0 : Nat) : Int) = 0)) with hc7_2 | hc7_2
 ·
  replace hm := cT hc7_2 hm
  refine AiT hc7_2 <| Sx <| Wm (.i 0) rfl <| Wm (.i 0) rfl <| Wm (.b false) rfl <| Nn <| Rt <| Tr ?_
  obtain rfl := Option.some.inj hm
  exact ret_i []
 ·
  replace hm := cF hc7_2 hm
  refine AiF hc7_2 <| Sk <| Tk 1 0 ⟨.l enc_GPair p0::tp 20 [], [], 0⟩ <| Sq <| Adr <| Wm (.l enc_GPair p0) rfl ?_
  obtain ⟨x9_1, hx9_1, hm⟩ := bnd hm
  obtain ⟨hx9_1i, hx9_1g⟩ := geti_some hx9_1
  refine Wz (.d (.ref (List.drop ((Int.toNat 0) * 6) (flatD enc_GPair p0)))) (Oia rfl enc_GPair_len hx9_1i hx9_1g) <| Wz (.d (.ref (List.drop 1 (List.drop ((Int.toNat 0) * 6) (flatD enc_GPair p0))))) (Ofa rfl) <| Wz (.d (.ref (List.drop 1 (List.drop ((Int.toNat 0) * 6) (flatD enc_GPair p0))))) (Ofa rfl) <| Wz (.i x9_1.E.Time) (Lfk1 1 rfl enc_GPair_len hx9_1g) <| Wm (.l enc_GPair p0) rfl <| Wm (.l enc_GPair p0) rfl <| Wz (.i ((List.length p0 : Nat) : Int)) (Oln rfl) <| Wz (.i (W6 (((List.length p0 : Nat) : Int) - 1))) (Obn rfl (fun _ => hb_sub (k := .i64))) ?_
  obtain ⟨x17_1, hx17_1, hm⟩ := bnd hm
  obtain ⟨hx17_1i, hx17_1g⟩ := geti_some hx17_1
  refine Wz (.d (.ref (List.drop ((Int.toNat (W6 (((List.length p0 : Nat) : Int) - 1))) * 6) (flatD enc_GPair p0)))) (Oia rfl enc_GPair_len hx17_1i hx17_1g) <| Wz (.d (.ref (List.drop 1 (List.drop ((Int.toNat (W6 (((List.length p0 : Nat) : Int) - 1))) * 6) (flatD enc_GPair p0))))) (Ofa rfl) <| Wz (.d (.ref (List.drop 1 (List.drop ((Int.toNat (W6 (((List.length p0 : Nat) : Int) - 1))) * 6) (flatD enc_GPair p0))))) (Ofa rfl) <| Wz (.i x17_1.E.Time) (Lfk1 1 rfl enc_GPair_len hx17_1g) <| Wm (.i x9_1.E.Time) rfl <| Wm (.i x17_1.E.Time) rfl <| Wm (.b true) rfl <| Wdr <| Tn <| Rt ?_
  obtain rfl := Option.some.inj hm
  exact ret_i []

theorem ok_cmp_isNaN_int (p0 : Int) (r : Bool) (h : m_cmp_isNaN_int p0 = some r) : GCall Try.prog 61 [(.i p0)] [] (.b r) [] := by
 refine GCall.of_body (n := 6) (rs := [(.tmp 2)]) Try.func61 rfl rfl rfl <| Ato ⟨.i p0::tu 5 [], [], 0⟩ ?_
 have hm := h
 unfold m_cmp_isNaN_int at hm
 refine Sx <| Wm (.b false) rfl <| Nk 1 0 ⟨.i p0::tp 5 [], [], 0⟩ <| Sx <| Wm (.i p0) rfl <| Wm (.i p0) rfl <| Wz (.b (decide (p0 ≠ p0))) (Obn rfl (fun _ => hb_neq (k := .i64))) <| Wm (.b (decide (p0 ≠ p0))) rfl <| Nn <| Rt ?_
 obtain rfl := Option.some.inj hm
 exact ret_i []

theorem ok_cmp_Compare_int (p0 : Int) (p1 : Int) (r : Int) (h : m_cmp_Compare_int p0 p1 = some r) : GCall Try.prog 46 [(.i p0), (.i p1)] [] (.i r) [] := by
 refine GCall.of_body (n := 20) (rs := [(.tmp 4)]) Try.func46 rfl rfl rfl <| Ato ⟨.i p0::.i p1::tu 18 [], [], 0⟩ ?_
 have hm := h
 unfold m_cmp_Compare_int at hm
 refine Sx <| Wm (.i 0) rfl <| Nk 3 0 ⟨.i p0::.i p1::tp 18 [], [], 0⟩ <| Sx <| Wm (.i p0) rfl ?_
 obtain ⟨r8_0, hr8_0, hm⟩ := bnd hm
 refine Wz (.b r8_0) (Ocf [] [] [] 0 (ok_cmp_isNaN_int p0 r8_0 hr8_0) (fun a w => Try.call61 a w) rfl trivial) <| Wm (.b r8_0) rfl <| Nk 35 0 ⟨.i p0::.i p1::tp 3 (.b r8_0::tp 14 []), [], 0⟩ <| Sx <| Wm (.i p1) rfl ?_
 obtain ⟨r10_1, hr10_1, hm⟩ := bnd hm
 refine Wz (.b r10_1) (Ocf [] [] [] 0 (ok_cmp_isNaN_int p1 r10_1 hr10_1) (fun a w => Try.call61 a w) rfl trivial) <| Wm (.b r10_1) rfl <| Nk 99 0 ⟨.i p0::.i p1::tp 3 (.b r8_0::.b r10_1::tp 13 []), [], 0⟩ <| Sq <| Sx <| Wm (.b r8_0) rfl <| Nk 2115 0 ⟨.i p0::.i p1::tp 4 (.b r10_1::tp 4 (.b r8_0::tp 8 [])), [], 0⟩ ?_
 rcases tf_ r8_0 with hc11_2 | hc11_2
 ·
  replace hm := cT hc11_2 hm
  refine AiT hc11_2 <| Sq <| Sx <| Wm (.b r10_1) rfl <| Nk 4096 0 ⟨tp 12 (.b r10_1::tp 7 []), [], 0⟩ ?_
  rcases tf_ r10_1 with hc12_3 | hc12_3
  ·
   replace hm := cT hc12_3 hm
   refine AiT hc12_3 <| Sx <| Wm (.i 0) rfl <| Nn <| Rt <| Tr <| Tr ?_
   obtain rfl := Option.some.inj hm
   exact ret_i []
  ·
   replace hm := cF hc12_3 hm
   refine AiF hc12_3 <| Sk <| Tk 0 0 ⟨tp 20 [], [], 0⟩ <| Sx <| Wm (.i (-1)) rfl <| Nn <| Rt <| Tr ?_
   obtain rfl := Option.some.inj hm
   exact ret_i []
 ·
  replace hm := cF hc11_2 hm
  refine AiF hc11_2 <| Sk <| Tk 67 0 ⟨.i p0::.i p1::tp 4 (.b r10_1::tp 13 []), [], 0⟩ <| Sq <| Sx <| Wm (.b r10_1) rfl <| Nk 8195 0 ⟨.i p0::.i p1::tp 11 (.b r10_1::tp 6 []), [], 0⟩ ?_
  rcases tf_ r10_1 with hc13_4 | hc13_4
  ·
   replace hm := cT hc13_4 hm
   refine AiT hc13_4 <| Sx <| Wm (.i 1) rfl <| Nn <| Rt <| Tr ?_
   obtain rfl := Option.some.inj hm
   exact ret_i []
  ·
   replace hm := cF hc13_4 hm
   refine AiF hc13_4 <| Sk <| Tk 3 0 ⟨.i p0::.i p1::tp 18 [], [], 0⟩ <| Sq <| Sx <| Wm (.i p0) rfl <| Wm (.i p1) rfl <| Wz (.b (decide (p0 < p1))) (Obn rfl (fun _ => hb_lss (k := .i64))) <| Nk 65539 0 ⟨.i p0::.i p1::tp 14 (.b (decide (p0 < p1))::tp 3 []), [], 0⟩ ?_
   rcases tf_ (decide (p0 < p1)) with hc16_5 | hc16_5
   ·
    replace hm := cT hc16_5 hm
    refine AiT hc16_5 <| Sx <| Wm (.i (-1)) rfl <| Nn <| Rt <| Tr ?_
    obtain rfl := Option.some.inj hm
    exact ret_i []
   ·
    replace hm := cF hc16_5 hm
    refine AiF hc16_5 <| Sk <| Tk 3 0 ⟨.i p0::.i p1::tp 18 [], [], 0⟩ <| Sq <| Sx <| Wm (.i p0) rfl <| Wm (.i p1) rfl <| Wz (.b (decide (p1 < p0))) (Obn rfl (fun _ => hb_gtr (k := .i64))) <| Nk 524288 0 ⟨tp 19 (.b (decide (p1 < p0))::[]), [], 0⟩ ?_
    rcases tf_ (decide (p1 < p0)) with hc19_6 | hc19_6
    ·
     replace hm := cT hc19_6 hm
     refine AiT hc19_6 <| Sx <| Wm (.i 1) rfl <| Nn <| Rt <| Tr ?_
     obtain rfl := Option.some.inj hm
     exact ret_i []
    ·
     replace hm := cF hc19_6 hm
     refine AiF hc19_6 <| Sk <| Tk 0 0 ⟨tp 20 [], [], 0⟩ <| Sx <| Wm (.i 0) rfl <| Nn <| Rt ?_
     obtain rfl := Option.some.inj hm
     exact ret_i []

theorem ok_cmp_isNaN_string (p0 : (List UInt8)) (r : Bool) (h : m_cmp_isNaN_string p0 = some r) : GCall Try.prog 62 [(.s p0)] [] (.b r) [] := by
 refine GCall.of_body (n := 6) (rs := [(.tmp 2)]) Try.func62 rfl rfl rfl <| Ato ⟨.s p0::tu 5 [], [], 0⟩ ?_
 have hm := h
 unfold m_cmp_isNaN_string at hm
 refine Sx <| Wm (.b false) rfl <| Nk 1 0 ⟨.s p0::tp 5 [], [], 0⟩ <| Sx <| Wm (.s p0) rfl <| Wm (.s p0) rfl <| Wz (.b (decide (p0 ≠ p0))) (Ocs (lit_tf (by simp only [toS_inj, ne_eq])) (op_bin rfl (a1 := .string (toS p0)) (a2 := .string (toS p0)) (by kernel_rfl) (by kernel_rfl) (fun _ => hb_sneq))) <| Wm (.b (decide (p0 ≠ p0))) rfl <| Nn <| Rt ?_
 obtain rfl := Option.some.inj hm
 exact ret_i []

theorem ok_cmp_Compare_string (p0 : (List UInt8)) (p1 : (List UInt8)) (r : Int) (h : m_cmp_Compare_string p0 p1 = some r) : GCall Try.prog 47 [(.s p0), (.s p1)] [] (.i r) [] := by
 refine GCall.of_body (n := 20) (rs := [(.tmp 4)]) Try.func47 rfl rfl rfl <| Ato ⟨.s p0::.s p1::tu 18 [], [], 0⟩ ?_
 have hm := h
 unfold m_cmp_Compare_string at hm
 refine Sx <| Wm (.i 0) rfl <| Nk 3 0 ⟨.s p0::.s p1::tp 18 [], [], 0⟩ <| Sx <| Wm (.s p0) rfl ?_
 obtain ⟨r8_0, hr8_0, hm⟩ := bnd hm
 refine Wz (.b r8_0) (Ocf [] [] [] 0 (ok_cmp_isNaN_string p0 r8_0 hr8_0) (fun a w => Try.call62 a w) rfl trivial) <| Wm (.b r8_0) rfl <| Nk 35 0 ⟨.s p0::.s p1::tp 3 (.b r8_0::tp 14 []), [], 0⟩ <| Sx <| Wm (.s p1) rfl ?_
 obtain ⟨r10_1, hr10_1, hm⟩ := bnd hm
 refine Wz (.b r10_1) (Ocf [] [] [] 0 (ok_cmp_isNaN_string p1 r10_1 hr10_1) (fun a w => Try.call62 a w) rfl trivial) <| Wm (.b r10_1) rfl <| Nk 99 0 ⟨.s p0::.s p1::tp 3 (.b r8_0::.b r10_1::tp 13 []), [], 0⟩ <| Sq <| Sx <| Wm (.b r8_0) rfl <| Nk 2115 0 ⟨.s p0::.s p1::tp 4 (.b r10_1::tp 4 (.b r8_0::tp 8 [])), [], 0⟩ ?_
 rcases tf_ r8_0 with hc11_2 | hc11_2
 ·
  replace hm := cT hc11_2 hm
  refine AiT hc11_2 <| Sq <| Sx <| Wm (.b r10_1) rfl <| Nk 4096 0 ⟨tp 12 (.b r10_1::tp 7 []), [], 0⟩ ?_
  rcases tf_ r10_1 with hc12_3 | hc12_3
  ·
   replace hm := cT hc12_3 hm
   refine AiT hc12_3 <| Sx <| Wm (.i 0) rfl <| Nn <| Rt <| Tr <| Tr ?_
   obtain rfl := Option.some.inj hm
   exact ret_i []
  ·
   replace hm := cF hc12_3 hm
   refine AiF hc12_3 <| Sk <| Tk 0 0 ⟨tp 20 [], [], 0⟩ <| Sx <| Wm (.i (-1)) rfl <| Nn <| Rt <| Tr ?_
   obtain rfl := Option.some.inj hm
   exact ret_i []
 ·
  replace hm := cF hc11_2 hm
  refine AiF hc11_2 <| Sk <| Tk 67 0 ⟨.s p0::.s p1::tp 4 (.b r10_1::tp 13 []), [], 0⟩ <| Sq <| Sx <| Wm (.b r10_1) rfl <| Nk 8195 0 ⟨.s p0::.s p1::tp 11 (.b r10_1::tp 6 []), [], 0⟩ ?_
  rcases tf_ r10_1 with hc13_4 | hc13_4
  ·
   replace hm := cT hc13_4 hm
   refine AiT hc13_4 <| Sx <| Wm (.i 1) rfl <| Nn <| Rt <| Tr ?_
   obtain rfl := Option.some.inj hm
   exact ret_i []
  ·
   replace hm := cF hc13_4 hm
   refine AiF hc13_4 <| Sk <| Tk 3 0 ⟨.s p0::.s p1::tp 18 [], [], 0⟩ <| Sq <| Sx <| Wm (.s p0) rfl <| Wm (.s p1) rfl <| Wz (.b (ltS p0 p1)) (op_bin rfl (a1 := .string (toS p0)) (a2 := .string (toS p1)) (by kernel_rfl) (by kernel_rfl) (fun _ => hb_tlss)) <| Nk 65539 0 ⟨.s p0::.s p1::tp 14 (.b (ltS p0 p1)::tp 3 []), [], 0⟩ ?_
   rcases tf_ (ltS p0 p1) with hc16_5 | hc16_5
   ·
    replace hm := cT hc16_5 hm
    refine AiT hc16_5 <| Sx <| Wm (.i (-1)) rfl <| Nn <| Rt <| Tr ?_
    obtain rfl := Option.some.inj hm
    exact ret_i []
   ·
    replace hm := cF hc16_5 hm
    refine AiF hc16_5 <| Sk <| Tk 3 0 ⟨.s p0::.s p1::tp 18 [], [], 0⟩ <| Sq <| Sx <| Wm (.s p0) rfl <| Wm (.s p1) rfl <| Wz (.b (gtS p0 p1)) (op_bin rfl (a1 := .string (toS p0)) (a2 := .string (toS p1)) (by kernel_rfl) (by kernel_rfl) (fun _ => hb_tgtr)) <| Nk 524288 0 ⟨tp 19 (.b (gtS p0 p1)::[]), [], 0⟩ ?_
    rcases tf_ (gtS p0 p1) with hc19_6 | hc19_6
    ·
     replace hm := cT hc19_6 hm
     refine AiT hc19_6 <| Sx <| Wm (.i 1) rfl <| Nn <| Rt <| Tr ?_
     obtain rfl := Option.some.inj hm
     exact ret_i []
    ·
     replace hm := cF hc19_6 hm
     refine AiF hc19_6 <| Sk <| Tk 0 0 ⟨tp 20 [], [], 0⟩ <| Sx <| Wm (.i 0) rfl <| Nn <| Rt ?_
     obtain rfl := Option.some.inj hm
     exact ret_i []

theorem ok_event_Event_ID (p0 : GEvent) (r : GID) (h : m_event_Event_ID p0 = some r) : GCall Try.prog 39 [(.agg [(.i p0.Time), (.i p0.Source), (.i p0.Seq), (.s p0.Type_), (.l enc_GValue p0.Vals)])] [] (.agg [(.i r.Time), (.i r.Source), (.i r.Seq)]) [] := by
 refine GCall.of_body (n := 10) (rs := [(.cell 2 91)]) Try.func39 rfl rfl rfl <| Ato ⟨.agg [(.i p0.Time), (.i p0.Source), (.i p0.Seq), (.s p0.Type_), (.l enc_GValue p0.Vals)]::tu 9 [], [], 0⟩ ?_
 have hm := h
 unfold m_event_Event_ID at hm
 refine Sx <| Wy (.loc 0 0) [(0, (.box [(.i p0.Time), (.i p0.Source), (.i p0.Seq), (.s p0.Type_), (.l enc_GValue p0.Vals)]))] (Obx rfl) <| Wy (.loc 1 0) [(1, (.box [(.i 0), (.i 0), (.i 0)]))] (Oal rfl) <| Nk 6 3 ⟨tp 1 (.loc 0 0::.loc 1 0::tp 7 []), [(.box [(.i p0.Time), (.i p0.Source), (.i p0.Seq), (.s p0.Type_), (.l enc_GValue p0.Vals)]), (.box [(.i 0), (.i 0), (.i 0)])], 0⟩ <| Sx <| Wz (.loc 0 0) (Ofa rfl) <| Wz (.i p0.Time) (Old rfl) <| Wz (.loc 0 1) (Ofa rfl) <| Wz (.i p0.Source) (Old rfl) <| Wz (.loc 0 2) (Ofa rfl) <| Wz (.i p0.Seq) (Old rfl) <| Wz (.agg [(.i p0.Time), (.i p0.Source), (.i p0.Seq)]) (Obd rfl) <| Wy (.tup []) [(1, (.box [(.i p0.Time), (.i p0.Source), (.i p0.Seq)]))] (Ost rfl) <| Nn ?_
 refine Rt ?_
 obtain rfl := Option.some.inj hm
 exact ret_i []

theorem ok_cmp_Or_int (p0 : (List Int)) (r : Int) (h : m_cmp_Or_int p0 = some r) : GCall Try.prog 45 [(.l (encI .i64) p0)] [] (.i r) [] := by
 refine GCall.of_body (n := 18) (rs := [(.tmp 2)]) Try.func45 rfl rfl rfl <| Ato ⟨.l (encI .i64) p0::tu 17 [], [], 0⟩ ?_
 have hm := h
 unfold m_cmp_Or_int at hm
 refine Sx <| Wm (.i 0) rfl <| Nk 1 0 ⟨.l (encI .i64) p0::tp 17 [], [], 0⟩ <| Sx <| Wm (.i 0) rfl <| Nk 9 0 ⟨.l (encI .i64) p0::tp 2 (.i 0::tp 14 []), [], 0⟩ <| Sq <| Sx <| Wm (.l (encI .i64) p0) rfl <| Wz (.i ((List.length p0 : Nat) : Int)) (Oln rfl) <| Wm (.i 0) rfl <| Nk 456 0 ⟨tp 3 (.i 0::tp 2 (.l (encI .i64) p0::.i ((List.length p0 : Nat) : Int)::.i 0::tp 9 [])), [], 0⟩ <| Bk ?_
 refine AWP.loopI (α := Nat × Int)
   (fun (fu_1, y8_1) => (⟨tp 3 (.i 0::tp 2 (.l (encI .i64) p0::.i ((List.length p0 : Nat) : Int)::.i y8_1::tp 9 [])), [], 0⟩ : St))
   (fun (fu_1, y8_1) => m_cmp_Or_int_l1 p0 fu_1 y8_1 = some r)
   (fun (fu_1, y8_1) => fu_1) (1152921504606846976, 0)
   (Weak.toK 456 0 0 []) hm ?_
 rintro ⟨fu_1, y8_1⟩ n_1 hm ih_1
 try dsimp only at hm ih_1 ⊢
 cases fu_1 with
 | zero => exact absurd hm (by unfold m_cmp_Or_int_l1; simp)
 | succ fu_1 =>
  unfold m_cmp_Or_int_l1 at hm
  refine Sx <| Wz (.b (decide (y8_1 < ((List.length p0 : Nat) : Int)))) (Obn rfl (fun _ => hb_lss (k := .i64))) <| Nk 968 0 ⟨tp 3 (.i 0::tp 2 (.l (encI .i64) p0::.i ((List.length p0 : Nat) : Int)::.i y8_1::.b (decide (y8_1 < ((List.length p0 : Nat) : Int)))::tp 8 [])), [], 0⟩ <| Sq ?_
  rcases tf_ (decide (y8_1 < ((List.length p0 : Nat) : Int))) with hc9_3 | hc9_3
  ·
   replace hm := cT hc9_3 hm
   refine AiT hc9_3 <| Sk <| Tk 456 0 ⟨tp 3 (.i 0::tp 2 (.l (encI .i64) p0::.i ((List.length p0 : Nat) : Int)::.i y8_1::tp 9 [])), [], 0⟩ <| Sq <| Bk <| Sx ?_
   obtain ⟨x10_2, hx10_2, hm⟩ := bnd hm
   obtain ⟨hx10_2i, hx10_2g⟩ := geti_some hx10_2
   refine Wz (.d (.ref (List.drop ((Int.toNat y8_1) * 1) (flatD (encI .i64) p0)))) (Oia rfl (encI_len (k := .i64)) hx10_2i hx10_2g) <| Wz (.i x10_2) (Lf1 rfl (encI_len (k := .i64)) hx10_2g) <| Wm (.i x10_2) rfl <| Nk 488 0 ⟨tp 3 (.i 0::tp 1 (.i x10_2::.l (encI .i64) p0::.i ((List.length p0 : Nat) : Int)::.i y8_1::tp 9 [])), [], 0⟩ <| Sx <| Wm (.i x10_2) rfl <| Wm (.i 0) rfl <| Wz (.b (decide (x10_2 ≠ 0))) (Obn rfl (fun _ => hb_neq (k := .i64))) <| Nk 16872 0 ⟨tp 3 (.i 0::tp 1 (.i x10_2::.l (encI .i64) p0::.i ((List.length p0 : Nat) : Int)::.i y8_1::tp 5 (.b (decide (x10_2 ≠ 0))::tp 3 []))), [], 0⟩ ?_
   rcases tf_ (decide (x10_2 ≠ 0)) with hc14_4 | hc14_4
   ·
    replace hm := cT hc14_4 hm
    refine AiT hc14_4 <| Sx <| Wm (.i x10_2) rfl <| Wm (.i x10_2) rfl <| Nn <| Rt <| Ir <| Tr <| RoundK.ret <| Ir <| Tr ?_
    obtain rfl := Option.some.inj hm
    exact ret_i []
   ·
    replace hm := cF hc14_4 hm
    refine AiF hc14_4 <| Sk <| Ino <| Tk 456 0 ⟨tp 3 (.i 0::tp 2 (.l (encI .i64) p0::.i ((List.length p0 : Nat) : Int)::.i y8_1::tp 9 [])), [], 0⟩ <| Tx <| Wz (.i (W6 (y8_1 + 1))) (Obn rfl (fun _ => hb_add (k := .i64))) <| Wm (.i (W6 (y8_1 + 1))) rfl <| Wn0 <| RoundK.normal ?_
    exact Rounds.weak (Weak.toK 456 0 0 []) (ih_1 (fu_1, (W6 (y8_1 + 1))) hm (Nat.lt_succ_self _))
  ·
   replace hm := cF hc9_3 hm
   refine AiF hc9_3 <| AWP.exit <| Then.exit <| RoundK.exit <| InBlock.same <| Tk 8 0 ⟨tp 3 (.i 0::tp 14 []), [], 0⟩ <| Sx <| Wm (.i 0) rfl <| Wm (.i 0) rfl <| Nn <| Rt ?_
   obtain rfl := Option.some.inj hm
   exact ret_i []

theorem ok_bind_order (p0 : GPair) (p1 : GPair) (r : Int) (h : m_bind_order p0 p1 = some r) : GCall Try.prog 43 [(.agg [(.s p0.Var), (.i p0.E.Time), (.i p0.E.Source), (.i p0.E.Seq), (.s p0.E.Type_), (.l enc_GValue p0.E.Vals)]), (.agg [(.s p1.Var), (.i p1.E.Time), (.i p1.E.Source), (.i p1.E.Seq), (.s p1.E.Type_), (.l enc_GValue p1.E.Vals)])] [] (.i r) [] := by
 refine GCall.of_body (n := 35) (rs := [(.tmp 4)]) Try.func43 rfl rfl rfl <| Ato ⟨.agg [(.s p0.Var), (.i p0.E.Time), (.i p0.E.Source), (.i p0.E.Seq), (.s p0.E.Type_), (.l enc_GValue p0.E.Vals)]::.agg [(.s p1.Var), (.i p1.E.Time), (.i p1.E.Source), (.i p1.E.Seq), (.s p1.E.Type_), (.l enc_GValue p1.E.Vals)]::tu 33 [], [], 0⟩ ?_
 have hm := h
 unfold m_bind_order at hm
 refine Sx <| Wy (.loc 0 0) [(0, (.box [(.s p0.Var), (.i p0.E.Time), (.i p0.E.Source), (.i p0.E.Seq), (.s p0.E.Type_), (.l enc_GValue p0.E.Vals)]))] (Obx rfl) <| Wy (.loc 1 0) [(1, (.box [(.s p1.Var), (.i p1.E.Time), (.i p1.E.Source), (.i p1.E.Seq), (.s p1.E.Type_), (.l enc_GValue p1.E.Vals)]))] (Obx rfl) <| Wm (.i 0) rfl <| Nk 12 3 ⟨tp 2 (.loc 0 0::.loc 1 0::tp 31 []), [(.box [(.s p0.Var), (.i p0.E.Time), (.i p0.E.Source), (.i p0.E.Seq), (.s p0.E.Type_), (.l enc_GValue p0.E.Vals)]), (.box [(.s p1.Var), (.i p1.E.Time), (.i p1.E.Source), (.i p1.E.Seq), (.s p1.E.Type_), (.l enc_GValue p1.E.Vals)])], 0⟩ <| Sq <| Adr <| Wz (.loc 0 1) (Ofa rfl) <| Wz (.agg [(.i p0.E.Time), (.i p0.E.Source), (.i p0.E.Seq), (.s p0.E.Type_), (.l enc_GValue p0.E.Vals)]) (Old rfl) ?_
 obtain ⟨r9_0, hr9_0, hm⟩ := bnd hm
 refine Wz (.agg [(.i r9_0.Time), (.i r9_0.Source), (.i r9_0.Seq)]) (Ocf [] [] [] 0 (ok_event_Event_ID p0.E r9_0 hr9_0) (fun a w => Try.call39 a w) rfl trivial) <| Wz (.loc 1 1) (Ofa rfl) <| Wz (.agg [(.i p1.E.Time), (.i p1.E.Source), (.i p1.E.Seq), (.s p1.E.Type_), (.l enc_GValue p1.E.Vals)]) (Old rfl) ?_
 obtain ⟨r12_0, hr12_0, hm⟩ := bnd hm
 refine Wz (.agg [(.i r12_0.Time), (.i r12_0.Source), (.i r12_0.Seq)]) (Ocf [] [] [] 0 (ok_event_Event_ID p1.E r12_0 hr12_0) (fun a w => Try.call39 a w) rfl trivial) <| Wy (.loc 2 0) [(2, (.box [(.i 0), (.i 0), (.i 0)]))] (Oal rfl) <| Wy (.loc 3 0) [(3, (.box [(.i 0), (.i 0), (.i 0)]))] (Oal rfl) <| Wy (.tup []) [(2, (.box [(.i r9_0.Time), (.i r9_0.Source), (.i r9_0.Seq)]))] (Ost rfl) <| Wy (.tup []) [(3, (.box [(.i r12_0.Time), (.i r12_0.Source), (.i r12_0.Seq)]))] (Ost rfl) <| Wdr <| Tk 108 15 ⟨tp 2 (.loc 0 0::.loc 1 0::tp 1 (.loc 2 0::.loc 3 0::tp 28 [])), [(.box [(.s p0.Var), (.i p0.E.Time), (.i p0.E.Source), (.i p0.E.Seq), (.s p0.E.Type_), (.l enc_GValue p0.E.Vals)]), (.box [(.s p1.Var), (.i p1.E.Time), (.i p1.E.Source), (.i p1.E.Seq), (.s p1.E.Type_), (.l enc_GValue p1.E.Vals)]), (.box [(.i r9_0.Time), (.i r9_0.Source), (.i r9_0.Seq)]), (.box [(.i r12_0.Time), (.i r12_0.Source), (.i r12_0.Seq)])], 0⟩ <| Sq <| Adr <| Wz (.loc 2 0) (Ofa rfl) <| Wz (.i r9_0.Time) (Old rfl) <| Wz (.loc 3 0) (Ofa rfl) <| Wz (.i r12_0.Time) (Old rfl) ?_
 obtain ⟨r17_1, hr17_1, hm⟩ := bnd hm
 refine Wz (.i r17_1) (Ocf [] [] [] 0 (ok_cmp_Compare_int r9_0.Time r12_0.Time r17_1 hr17_1) (fun a w => Try.call46 a w) rfl trivial) <| Wz (.loc 2 1) (Ofa rfl) <| Wz (.i r9_0.Source) (Old rfl) <| Wz (.loc 3 1) (Ofa rfl) <| Wz (.i r12_0.Source) (Old rfl) ?_
 obtain ⟨r22_1, hr22_1, hm⟩ := bnd hm
 refine Wz (.i r22_1) (Ocf [] [] [] 0 (ok_cmp_Compare_int r9_0.Source r12_0.Source r22_1 hr22_1) (fun a w => Try.call46 a w) rfl trivial) <| Wz (.loc 2 2) (Ofa rfl) <| Wz (.i r9_0.Seq) (Old rfl) <| Wz (.loc 3 2) (Ofa rfl) <| Wz (.i r12_0.Seq) (Old rfl) ?_
 obtain ⟨r27_1, hr27_1, hm⟩ := bnd hm
 refine Wz (.i r27_1) (Ocf [] [] [] 0 (ok_cmp_Compare_int r9_0.Seq r12_0.Seq r27_1 hr27_1) (fun a w => Try.call46 a w) rfl trivial) <| Wz (.loc 0 0) (Ofa rfl) <| Wz (.s p0.Var) (Old rfl) <| Wz (.loc 1 0) (Ofa rfl) <| Wz (.s p1.Var) (Old rfl) ?_
 obtain ⟨r32_1, hr32_1, hm⟩ := bnd hm
 refine Wz (.i r32_1) (Ocf [] [] [] 0 (ok_cmp_Compare_string p0.Var p1.Var r32_1 hr32_1) (fun a w => Try.call47 a w) rfl trivial) <| Wy (.own 4) [(4, (.arr 3 1 (List.length ([r17_1, r22_1, r27_1, r32_1] : List Int)) (flatD (encI .i64) ([r17_1, r22_1, r27_1, r32_1] : List Int))))] (Obs rfl) ?_
 obtain ⟨r34_1, hr34_1, hm⟩ := bnd hm
 refine Wz (.i r34_1) (Ocp [] [] [4] 0 (ok_cmp_Or_int ([r17_1, r22_1, r27_1, r32_1] : List Int) r34_1 hr34_1) (plain_triv (by simp [A.Plain, A.Plains, D.Plain, byteD])) (fun a w => Try.call45 a w) rfl trivial) <| Wm (.i r34_1) rfl <| Wdr <| Tn <| Rt ?_
 obtain rfl := Option.some.inj hm
 exact ret_i []

theorem ok_slices_CompareFunc_Pairbind_Pair_bind_Pair_bind_Pair__bind_order (p0 : (List GPair)) (p1 : (List GPair)) (r : Int) (h : m_slices_CompareFunc_Pairbind_Pair_bind_Pair_bind_Pair__bind_order p0 p1 = some r) : GCall Try.prog 42 [(.l enc_GPair p0), (.l enc_GPair p1), (.clo (.func 43) [] [])] [] (.i r) [] := by
 refine GCall.of_body (n := 39) (rs := [(.tmp 6)]) Try.func42 rfl rfl rfl <| Ato ⟨.l enc_GPair p0::.l enc_GPair p1::.clo (.func 43) [] []::tu 36 [], [], 0⟩ ?_
 have hm := h
 unfold m_slices_CompareFunc_Pairbind_Pair_bind_Pair_bind_Pair__bind_order at hm
 refine Sx <| Wm (.i 0) rfl <| Nk 7 0 ⟨.l enc_GPair p0::.l enc_GPair p1::.clo (.func 43) [] []::tp 36 [], [], 0⟩ <| Sq <| Sx <| Wm (.l enc_GPair p0) rfl <| Wz (.i ((List.length p0 : Nat) : Int)) (Oln rfl) <| Wm (.i 0) rfl <| Nk 14343 0 ⟨.l enc_GPair p0::.l enc_GPair p1::.clo (.func 43) [] []::tp 8 (.l enc_GPair p0::.i ((List.length p0 : Nat) : Int)::.i 0::tp 25 []), [], 0⟩ <| Bk ?_
 refine AWP.loopI (α := Nat × Int)
   (fun (fu_1, y13_1) => (⟨.l enc_GPair p0::.l enc_GPair p1::.clo (.func 43) [] []::tp 8 (.l enc_GPair p0::.i ((List.length p0 : Nat) : Int)::.i y13_1::tp 25 []), [], 0⟩ : St))
   (fun (fu_1, y13_1) => m_slices_CompareFunc_Pairbind_Pair_bind_Pair_bind_Pair__bind_order_l1 p0 p1 fu_1 y13_1 = some r)
   (fun (fu_1, y13_1) => fu_1) (1152921504606846976, 0)
   (Weak.toK 14343 0 0 []) hm ?_
 rintro ⟨fu_1, y13_1⟩ n_1 hm ih_1
 try dsimp only at hm ih_1 ⊢
 cases fu_1 with
 | zero => exact absurd hm (by unfold m_slices_CompareFunc_Pairbind_Pair_bind_Pair_bind_Pair__bind_order_l1; simp)
 | succ fu_1 =>
  unfold m_slices_CompareFunc_Pairbind_Pair_bind_Pair_bind_Pair__bind_order_l1 at hm
  refine Sx <| Wz (.b (decide (y13_1 < ((List.length p0 : Nat) : Int)))) (Obn rfl (fun _ => hb_lss (k := .i64))) <| Nk 30727 0 ⟨.l enc_GPair p0::.l enc_GPair p1::.clo (.func 43) [] []::tp 8 (.l enc_GPair p0::.i ((List.length p0 : Nat) : Int)::.i y13_1::.b (decide (y13_1 < ((List.length p0 : Nat) : Int)))::tp 24 []), [], 0⟩ <| Sq ?_
  rcases tf_ (decide (y13_1 < ((List.length p0 : Nat) : Int))) with hc14_7 | hc14_7
  ·
   replace hm := cT hc14_7 hm
   refine AiT hc14_7 <| Sk <| Tk 14343 0 ⟨.l enc_GPair p0::.l enc_GPair p1::.clo (.func 43) [] []::tp 8 (.l enc_GPair p0::.i ((List.length p0 : Nat) : Int)::.i y13_1::tp 25 []), [], 0⟩ <| Sq <| Bk <| Sx <| Wm (.i y13_1) rfl ?_
   obtain ⟨x16_2, hx16_2, hm⟩ := bnd hm
   obtain ⟨hx16_2i, hx16_2g⟩ := geti_some hx16_2
   refine Wz (.d (.ref (List.drop ((Int.toNat y13_1) * 6) (flatD enc_GPair p0)))) (Oia rfl enc_GPair_len hx16_2i hx16_2g) <| Wz (.agg [(.s x16_2.Var), (.i x16_2.E.Time), (.i x16_2.E.Source), (.i x16_2.E.Seq), (.s x16_2.E.Type_), (.l enc_GValue x16_2.E.Vals)]) (Lf rfl enc_GPair_len hx16_2g) <| Wy (.loc 0 0) [(0, (.box [(.s ([] : List UInt8)), (.i 0), (.i 0), (.i 0), (.s ([] : List UInt8)), (.d .nil)]))] (Oal rfl) <| Wm (.i y13_1) rfl <| Wy (.tup []) [(0, (.box [(.s x16_2.Var), (.i x16_2.E.Time), (.i x16_2.E.Source), (.i x16_2.E.Seq), (.s x16_2.E.Type_), (.l enc_GValue x16_2.E.Vals)]))] (Ost rfl) <| Nk 14727 1 ⟨.l enc_GPair p0::.l enc_GPair p1::.clo (.func 43) [] []::tp 4 (.i y13_1::.loc 0 0::tp 2 (.l enc_GPair p0::.i ((List.length p0 : Nat) : Int)::.i y13_1::tp 25 [])), [(.box [(.s x16_2.Var), (.i x16_2.E.Time), (.i x16_2.E.Source), (.i x16_2.E.Seq), (.s x16_2.E.Type_), (.l enc_GValue x16_2.E.Vals)])], 0⟩ <| Sq <| Sx <| Wm (.i y13_1) rfl <| Wm (.l enc_GPair p1) rfl <| Wz (.i ((List.length p1 : Nat) : Int)) (Oln rfl) <| Wz (.b (decide (((List.length p1 : Nat) : Int) ≤ y13_1))) (Obn rfl (fun _ => hb_geq (k := .i64))) <| Nk 2111879 1 ⟨.l enc_GPair p0::.l enc_GPair p1::.clo (.func 43) [] []::tp 4 (.i y13_1::.loc 0 0::tp 2 (.l enc_GPair p0::.i ((List.length p0 : Nat) : Int)::.i y13_1::tp 7 (.b (decide (((List.length p1 : Nat) : Int) ≤ y13_1))::tp 17 []))), [(.box [(.s x16_2.Var), (.i x16_2.E.Time), (.i x16_2.E.Source), (.i x16_2.E.Seq), (.s x16_2.E.Type_), (.l enc_GValue x16_2.E.Vals)])], 0⟩ ?_
   rcases tf_ (decide (((List.length p1 : Nat) : Int) ≤ y13_1)) with hc21_8 | hc21_8
   ·
    replace hm := cT hc21_8 hm
    refine AiT hc21_8 <| Sx <| Wm (.i 1) rfl <| Nn <| Rt <| Tr <| Ir <| Tr <| RoundK.ret <| Ir <| Tr ?_
    obtain rfl := Option.some.inj hm
    exact ret_i []
   ·
    replace hm := cF hc21_8 hm
    refine AiF hc21_8 <| Sk <| Tk 14727 1 ⟨.l enc_GPair p0::.l enc_GPair p1::.clo (.func 43) [] []::tp 4 (.i y13_1::.loc 0 0::tp 2 (.l enc_GPair p0::.i ((List.length p0 : Nat) : Int)::.i y13_1::tp 25 [])), [(.box [(.s x16_2.Var), (.i x16_2.E.Time), (.i x16_2.E.Source), (.i x16_2.E.Seq), (.s x16_2.E.Type_), (.l enc_GValue x16_2.E.Vals)])], 0⟩ <| Sx <| Wm (.l enc_GPair p1) rfl <| Wm (.i y13_1) rfl ?_
    obtain ⟨x24_4, hx24_4, hm⟩ := bnd hm
    obtain ⟨hx24_4i, hx24_4g⟩ := geti_some hx24_4
    refine Wz (.d (.ref (List.drop ((Int.toNat y13_1) * 6) (flatD enc_GPair p1)))) (Oia rfl enc_GPair_len hx24_4i hx24_4g) <| Wz (.agg [(.s x24_4.Var), (.i x24_4.E.Time), (.i x24_4.E.Source), (.i x24_4.E.Seq), (.s x24_4.E.Type_), (.l enc_GValue x24_4.E.Vals)]) (Lf rfl enc_GPair_len hx24_4g) <| Wy (.loc 1 0) [(1, (.box [(.s ([] : List UInt8)), (.i 0), (.i 0), (.i 0), (.s ([] : List UInt8)), (.d .nil)]))] (Oal rfl) <| Wy (.tup []) [(1, (.box [(.s x24_4.Var), (.i x24_4.E.Time), (.i x24_4.E.Source), (.i x24_4.E.Seq), (.s x24_4.E.Type_), (.l enc_GValue x24_4.E.Vals)]))] (Ost rfl) <| Nk 15111 3 ⟨.l enc_GPair p0::.l enc_GPair p1::.clo (.func 43) [] []::tp 5 (.loc 0 0::.loc 1 0::tp 1 (.l enc_GPair p0::.i ((List.length p0 : Nat) : Int)::.i y13_1::tp 25 [])), [(.box [(.s x16_2.Var), (.i x16_2.E.Time), (.i x16_2.E.Source), (.i x16_2.E.Seq), (.s x16_2.E.Type_), (.l enc_GValue x16_2.E.Vals)]), (.box [(.s x24_4.Var), (.i x24_4.E.Time), (.i x24_4.E.Source), (.i x24_4.E.Seq), (.s x24_4.E.Type_), (.l enc_GValue x24_4.E.Vals)])], 0⟩ <| Sx <| Wm (.clo (.func 43) [] []) rfl <| Wz (.agg [(.s x16_2.Var), (.i x16_2.E.Time), (.i x16_2.E.Source), (.i x16_2.E.Seq), (.s x16_2.E.Type_), (.l enc_GValue x16_2.E.Vals)]) (Old rfl) <| Wz (.agg [(.s x24_4.Var), (.i x24_4.E.Time), (.i x24_4.E.Source), (.i x24_4.E.Seq), (.s x24_4.E.Type_), (.l enc_GValue x24_4.E.Vals)]) (Old rfl) ?_
    obtain ⟨r29_5, hr29_5, hm⟩ := bnd hm
    refine Wz (.i r29_5) (Ocf [] [] [] 0 (ok_bind_order x16_2 x24_4 r29_5 hr29_5) (fun a w => Try.call43 a w) rfl trivial) <| Wm (.i r29_5) rfl <| Nk 15367 0 ⟨.l enc_GPair p0::.l enc_GPair p1::.clo (.func 43) [] []::tp 7 (.i r29_5::.l enc_GPair p0::.i ((List.length p0 : Nat) : Int)::.i y13_1::tp 25 []), [.gone, .gone], 0⟩ <| Sx <| Wm (.i r29_5) rfl <| Wz (.b (decide (r29_5 ≠ 0))) (Obn rfl (fun _ => hb_neq (k := .i64))) <| Nk 2147499015 0 ⟨.l enc_GPair p0::.l enc_GPair p1::.clo (.func 43) [] []::tp 7 (.i r29_5::.l enc_GPair p0::.i ((List.length p0 : Nat) : Int)::.i y13_1::tp 17 (.b (decide (r29_5 ≠ 0))::tp 7 [])), [.gone, .gone], 0⟩ ?_
    rcases tf_ (decide (r29_5 ≠ 0)) with hc31_9 | hc31_9
    ·
     replace hm := cT hc31_9 hm
     refine AiT hc31_9 <| Sx <| Wm (.i r29_5) rfl <| Wm (.i r29_5) rfl <| Nn <| Rt <| Ir <| Tr <| RoundK.ret <| Ir <| Tr ?_
     obtain rfl := Option.some.inj hm
     exact ret_i []
    ·
     replace hm := cF hc31_9 hm
     refine AiF hc31_9 <| Sk <| Ino <| Tk 14343 0 ⟨.l enc_GPair p0::.l enc_GPair p1::.clo (.func 43) [] []::tp 8 (.l enc_GPair p0::.i ((List.length p0 : Nat) : Int)::.i y13_1::tp 25 []), [.gone, .gone], 0⟩ <| Tx <| Wz (.i (W6 (y13_1 + 1))) (Obn rfl (fun _ => hb_add (k := .i64))) <| Wm (.i (W6 (y13_1 + 1))) rfl <| Wn0 <| RoundK.normal ?_
     exact Rounds.weak (Weak.toK 14343 0 0 []) (ih_1 (fu_1, (W6 (y13_1 + 1))) hm (Nat.lt_succ_self _))
  ·
   replace hm := cF hc14_7 hm
   refine AiF hc14_7 <| AWP.exit <| Then.exit <| RoundK.exit <| InBlock.same <| Tk 3 0 ⟨.l enc_GPair p0::.l enc_GPair p1::tp 37 [], [], 0⟩ <| Sq <| Sx <| Wm (.l enc_GPair p0) rfl <| Wz (.i ((List.length p0 : Nat) : Int)) (Oln rfl) <| Wm (.l enc_GPair p1) rfl <| Wz (.i ((List.length p1 : Nat) : Int)) (Oln rfl) <| Wz (.b (decide (((List.length p0 : Nat) : Int) < ((List.length p1 : Nat) : Int)))) (Obn rfl (fun _ => hb_lss (k := .i64))) <| Nk 274877906944 0 ⟨tp 38 (.b (decide (((List.length p0 : Nat) : Int) < ((List.length p1 : Nat) : Int)))::[]), [], 0⟩ ?_
   rcases tf_ (decide (((List.length p0 : Nat) : Int) < ((List.length p1 : Nat) : Int))) with hc38_10 | hc38_10
   ·
    replace hm := cT hc38_10 hm
    refine AiT hc38_10 <| Sx <| Wm (.i (-1)) rfl <| Nn <| Rt <| Tr ?_
    obtain rfl := Option.some.inj hm
    exact ret_i []
   ·
    replace hm := cF hc38_10 hm
    refine AiF hc38_10 <| Sk <| Tk 0 0 ⟨tp 39 [], [], 0⟩ <| Sx <| Wm (.i 0) rfl <| Nn <| Rt ?_
    obtain rfl := Option.some.inj hm
    exact ret_i []

theorem ok_bind_Rank (p0 : (List GPair)) (p1 : (List GPair)) (r : Int) (h : m_bind_Rank p0 p1 = some r) : GCall Try.prog 22 [(.l enc_GPair p0), (.l enc_GPair p1)] [] (.i r) [] := by
 refine GCall.of_body (n := 8) (rs := [(.tmp 4)]) Try.func22 rfl rfl rfl <| Ato ⟨.l enc_GPair p0::.l enc_GPair p1::tu 6 [], [], 0⟩ ?_
 have hm := h
 unfold m_bind_Rank at hm
 refine Sx <| Wm (.i 0) rfl <| Nk 3 0 ⟨.l enc_GPair p0::.l enc_GPair p1::tp 6 [], [], 0⟩ <| Sx <| Wm (.l enc_GPair p0) rfl <| Wm (.l enc_GPair p1) rfl ?_
 obtain ⟨r7_0, hr7_0, hm⟩ := bnd hm
 refine Wz (.i r7_0) (Ocf [] [] [] 0 (ok_slices_CompareFunc_Pairbind_Pair_bind_Pair_bind_Pair__bind_order p0 p1 r7_0 hr7_0) (fun a w => Try.call42 a w) rfl trivial) <| Wm (.i r7_0) rfl <| Nn <| Rt ?_
 obtain rfl := Option.some.inj hm
 exact ret_i []

theorem ok_bind_Before (p0 : GMatch) (p1 : GMatch) (r : Int) (h : m_bind_Before p0 p1 = some r) : GCall Try.prog 26 [(.agg [(.i p0.Pattern), (.s p0.Key), (.l enc_GPair p0.Bound)]), (.agg [(.i p1.Pattern), (.s p1.Key), (.l enc_GPair p1.Bound)])] [] (.i r) [] := by
 refine GCall.of_body (n := 22) (rs := [(.tmp 4)]) Try.func26 rfl rfl rfl <| Ato ⟨.agg [(.i p0.Pattern), (.s p0.Key), (.l enc_GPair p0.Bound)]::.agg [(.i p1.Pattern), (.s p1.Key), (.l enc_GPair p1.Bound)]::tu 20 [], [], 0⟩ ?_
 have hm := h
 unfold m_bind_Before at hm
 refine Sx <| Wy (.loc 0 0) [(0, (.box [(.i p0.Pattern), (.s p0.Key), (.l enc_GPair p0.Bound)]))] (Obx rfl) <| Wy (.loc 1 0) [(1, (.box [(.i p1.Pattern), (.s p1.Key), (.l enc_GPair p1.Bound)]))] (Obx rfl) <| Wm (.i 0) rfl <| Nk 12 3 ⟨tp 2 (.loc 0 0::.loc 1 0::tp 18 []), [(.box [(.i p0.Pattern), (.s p0.Key), (.l enc_GPair p0.Bound)]), (.box [(.i p1.Pattern), (.s p1.Key), (.l enc_GPair p1.Bound)])], 0⟩ <| Sq <| Adr <| Wz (.loc 0 0) (Ofa rfl) <| Wz (.i p0.Pattern) (Old rfl) <| Wz (.loc 1 0) (Ofa rfl) <| Wz (.i p1.Pattern) (Old rfl) ?_
 obtain ⟨r9_0, hr9_0, hm⟩ := bnd hm
 refine Wz (.i r9_0) (Ocf [] [] [] 0 (ok_cmp_Compare_int p0.Pattern p1.Pattern r9_0 hr9_0) (fun a w => Try.call46 a w) rfl trivial) <| Wz (.loc 0 1) (Ofa rfl) <| Wz (.s p0.Key) (Old rfl) <| Wz (.loc 1 1) (Ofa rfl) <| Wz (.s p1.Key) (Old rfl) ?_
 obtain ⟨r14_0, hr14_0, hm⟩ := bnd hm
 refine Wz (.i r14_0) (Ocf [] [] [] 0 (ok_cmp_Compare_string p0.Key p1.Key r14_0 hr14_0) (fun a w => Try.call47 a w) rfl trivial) <| Wz (.loc 0 2) (Ofa rfl) <| Wz (.l enc_GPair p0.Bound) (Old rfl) <| Wz (.loc 1 2) (Ofa rfl) <| Wz (.l enc_GPair p1.Bound) (Old rfl) ?_
 obtain ⟨r19_0, hr19_0, hm⟩ := bnd hm
 refine Wz (.i r19_0) (Ocf [] [] [] 0 (ok_bind_Rank p0.Bound p1.Bound r19_0 hr19_0) (fun a w => Try.call22 a w) rfl trivial) <| Wy (.own 2) [(2, (.arr 3 1 (List.length ([r9_0, r14_0, r19_0] : List Int)) (flatD (encI .i64) ([r9_0, r14_0, r19_0] : List Int))))] (Obs rfl) ?_
 obtain ⟨r21_0, hr21_0, hm⟩ := bnd hm
 refine Wz (.i r21_0) (Ocp [] [] [2] 0 (ok_cmp_Or_int ([r9_0, r14_0, r19_0] : List Int) r21_0 hr21_0) (plain_triv (by simp [A.Plain, A.Plains, D.Plain, byteD])) (fun a w => Try.call45 a w) rfl trivial) <| Wm (.i r21_0) rfl <| Wdr <| Tn <| Rt ?_
 obtain rfl := Option.some.inj hm
 exact ret_i []

theorem ok_slices_Clone_Match (p0 : (List GMatch)) (r : (List GMatch)) (h : m_slices_Clone_Match p0 = some r) : GCall Try.prog 51 [(.l enc_GMatch p0)] [] (.own 0) [(Ar 61 3 enc_GMatch r)] := by
 refine GCall.of_body (n := 8) (rs := [(.tmp 2)]) Try.func51 rfl rfl rfl <| Ato ⟨.l enc_GMatch p0::tu 7 [], [], 0⟩ ?_
 have hm := h
 unfold m_slices_Clone_Match at hm
 refine Sx <| Wm (.d .nil) rfl <| Nk 1 0 ⟨.l enc_GMatch p0::tp 7 [], [], 0⟩ <| Sq <| Sx <| Wm (.l enc_GMatch p0) rfl <| Wz (.ab (List.length p0 = 0)) (op_eqnil rfl (e := 61) (by kernel_rfl) (ya := (.l enc_GMatch p0)) (by kernel_rfl) (ds := flatD enc_GMatch p0) (off := 0) (by kernel_rfl) (by kernel_rfl)) <| Nk 17 0 ⟨.l enc_GMatch p0::tp 3 (.ab (List.length p0 = 0)::tp 3 []), [], 0⟩ ?_
 refine AWP.condU (p := List.length p0 = 0) (by kernel_rfl) (fun hnil => ?_) ?_
 ·
  refine Sx <| Wm (.d .nil) rfl <| Nn <| Aow 2 61 3 ⟨.l enc_GMatch p0::tp 1 (.own 0::tp 1 (.ab (List.length p0 = 0)::tp 3 [])), [(Ar 61 3 enc_GMatch ([] : List GMatch))], 0⟩ <| Rt <| Tr ?_
  obtain rfl := nil_app hm (List.eq_nil_of_length_eq_zero hnil)
  exact ret_i [0]
 refine Sk <| Tk 1 0 ⟨.l enc_GMatch p0::tp 7 [], [], 0⟩ <| Sx <| Wy (.own 0) [(0, (Ar 61 3 enc_GMatch ([] : List GMatch)))] (Obs rfl) <| Wm (.l enc_GMatch p0) rfl ?_
 obtain ⟨a7_0, ha7_0, hm⟩ := bnd hm; obtain ⟨ha7_0e, ha7_0l⟩ := app_some ha7_0
 refine Wy (.own 1) [(0, .gone), (1, (Ar 61 3 enc_GMatch a7_0))] (Oap rfl elemOK_66 enc_GMatch_len ha7_0e ha7_0l) <| Wm (.own 1) rfl <| Nn <| Rt ?_
 obtain rfl := Option.some.inj hm
 exact ret_i [1]

theorem ok_bind_Put (p0 : (List GMatch)) (p1 : GMatch) (r : ((List GMatch) × Bool)) (h : m_bind_Put p0 p1 = some r) : GCall Try.prog 30 [(.l enc_GMatch p0), (.agg [(.i p1.Pattern), (.s p1.Key), (.l enc_GPair p1.Bound)])] [] (.tup [(.own 0), (.b r.2)]) [(Ar 61 3 enc_GMatch r.1)] := by
 refine GCall.of_body (n := 56) (rs := [(.tmp 4), (.tmp 5)]) Try.func30 rfl rfl rfl <| Ato ⟨.l enc_GMatch p0::.agg [(.i p1.Pattern), (.s p1.Key), (.l enc_GPair p1.Bound)]::tu 54 [], [], 0⟩ ?_
 have hm := h
 unfold m_bind_Put at hm
 refine Sx <| Wy (.loc 0 0) [(0, (.box [(.i p1.Pattern), (.s p1.Key), (.l enc_GPair p1.Bound)]))] (Obx rfl) <| Wm (.d .nil) rfl <| Wm (.b false) rfl <| Nk 9 1 ⟨.l enc_GMatch p0::tp 2 (.loc 0 0::tp 52 []), [(.box [(.i p1.Pattern), (.s p1.Key), (.l enc_GPair p1.Bound)])], 0⟩ <| Sx <| Wm (.l enc_GMatch p0) rfl <| Wz (.i ((List.length p0 : Nat) : Int)) (Oln rfl) <| Wm (.i ((List.length p0 : Nat) : Int)) rfl <| Nk 73 1 ⟨.l enc_GMatch p0::tp 2 (.loc 0 0::tp 2 (.i ((List.length p0 : Nat) : Int)::tp 49 [])), [(.box [(.i p1.Pattern), (.s p1.Key), (.l enc_GPair p1.Bound)])], 0⟩ <| Sq <| Sx <| Wm (.l enc_GMatch p0) rfl <| Wz (.i ((List.length p0 : Nat) : Int)) (Oln rfl) ?_
 refine Wm (.i 0) rfl <| Nk 57417 1 ⟨.l enc_GMatch p0::tp 2 (.loc 0 0::tp 2 (.i ((List.length p0 : Nat) : Int)::tp 6 (.l enc_GMatch p0::.i ((List.length p0 : Nat) : Int)::.i 0::tp 40 []))), [(.box [(.i p1.Pattern), (.s p1.Key), (.l enc_GPair p1.Bound)])], 0⟩ <| Bk ?_
 refine AWP.loopI (α := Nat × Int × Int)
   (fun (fu_2, y6_2, y15_2) => (⟨.l enc_GMatch p0::tp 2 (.loc 0 0::tp 2 (.i y6_2::tp 6 (.l enc_GMatch p0::.i ((List.length p0 : Nat) : Int)::.i y15_2::tp 40 []))), [(.box [(.i p1.Pattern), (.s p1.Key), (.l enc_GPair p1.Bound)])], 0⟩ : St))
   (fun (fu_2, y6_2, y15_2) => m_bind_Put_l2 p0 p1 fu_2 y6_2 y15_2 = some r)
   (fun (fu_2, y6_2, y15_2) => fu_2) (1152921504606846976, ((List.length p0 : Nat) : Int), 0)
   (Weak.toK 57417 0 0 [0]) hm ?_
 rintro ⟨fu_2, y6_2, y15_2⟩ n_2 hm ih_2
 try dsimp only at hm ih_2 ⊢
 cases fu_2 with
 | zero => exact absurd hm (by unfold m_bind_Put_l2; simp)
 | succ fu_2 =>
  unfold m_bind_Put_l2 at hm
  refine Sx <| Wz (.b (decide (y15_2 < ((List.length p0 : Nat) : Int)))) (Obn rfl (fun _ => hb_lss (k := .i64))) <| Nk 122953 1 ⟨.l enc_GMatch p0::tp 2 (.loc 0 0::tp 2 (.i y6_2::tp 6 (.l enc_GMatch p0::.i ((List.length p0 : Nat) : Int)::.i y15_2::.b (decide (y15_2 < ((List.length p0 : Nat) : Int)))::tp 39 []))), [(.box [(.i p1.Pattern), (.s p1.Key), (.l enc_GPair p1.Bound)])], 0⟩ <| Sq ?_
  rcases tf_ (decide (y15_2 < ((List.length p0 : Nat) : Int))) with hc16_10 | hc16_10
  ·
   replace hm := cT hc16_10 hm
   refine AiT hc16_10 <| Sk <| Tk 57417 1 ⟨.l enc_GMatch p0::tp 2 (.loc 0 0::tp 2 (.i y6_2::tp 6 (.l enc_GMatch p0::.i ((List.length p0 : Nat) : Int)::.i y15_2::tp 40 []))), [(.box [(.i p1.Pattern), (.s p1.Key), (.l enc_GPair p1.Bound)])], 0⟩ <| Sq <| Bk <| Sx <| Wm (.i y15_2) rfl ?_
   obtain ⟨x18_3, hx18_3, hm⟩ := bnd hm
   obtain ⟨hx18_3i, hx18_3g⟩ := geti_some hx18_3
   refine Wz (.d (.ref (List.drop ((Int.toNat y15_2) * 3) (flatD enc_GMatch p0)))) (Oia rfl enc_GMatch_len hx18_3i hx18_3g) <| Wz (.agg [(.i x18_3.Pattern), (.s x18_3.Key), (.l enc_GPair x18_3.Bound)]) (Lf rfl enc_GMatch_len hx18_3g) <| Wy (.loc 1 0) [(1, (.box [(.i 0), (.s ([] : List UInt8)), (.d .nil)]))] (Oal rfl) <| Wm (.i y15_2) rfl <| Wy (.tup []) [(1, (.box [(.i x18_3.Pattern), (.s x18_3.Key), (.l enc_GPair x18_3.Bound)]))] (Ost rfl) <| Nk 57801 3 ⟨.l enc_GMatch p0::tp 2 (.loc 0 0::tp 2 (.i y6_2::.i y15_2::.loc 1 0::tp 4 (.l enc_GMatch p0::.i ((List.length p0 : Nat) : Int)::.i y15_2::tp 40 []))), [(.box [(.i p1.Pattern), (.s p1.Key), (.l enc_GPair p1.Bound)]), (.box [(.i x18_3.Pattern), (.s x18_3.Key), (.l enc_GPair x18_3.Bound)])], 0⟩ <| Sx <| Wz (.agg [(.i x18_3.Pattern), (.s x18_3.Key), (.l enc_GPair x18_3.Bound)]) (Old rfl) <| Wz (.agg [(.i p1.Pattern), (.s p1.Key), (.l enc_GPair p1.Bound)]) (Old rfl) ?_
   obtain ⟨r22_4, hr22_4, hm⟩ := bnd hm
   refine Wz (.i r22_4) (Ocf [] [] [] 0 (ok_bind_Before x18_3 p1 r22_4 hr22_4) (fun a w => Try.call26 a w) rfl trivial) <| Wm (.i r22_4) rfl <| Nk 58057 1 ⟨.l enc_GMatch p0::tp 2 (.loc 0 0::tp 2 (.i y6_2::.i y15_2::tp 1 (.i r22_4::tp 3 (.l enc_GMatch p0::.i ((List.length p0 : Nat) : Int)::.i y15_2::tp 40 [])))), [(.box [(.i p1.Pattern), (.s p1.Key), (.l enc_GPair p1.Bound)]), .gone], 0⟩ <| Bk <| Sx <| Wm (.i r22_4) rfl <| Wz (.b (decide (r22_4 = 0))) (Obn rfl (fun _ => hb_eql (k := .i64))) <| Wm (.b (decide (r22_4 = 0))) rfl <| Nk 8446665 1 ⟨.l enc_GMatch p0::tp 2 (.loc 0 0::tp 2 (.i y6_2::.i y15_2::tp 1 (.i r22_4::tp 3 (.l enc_GMatch p0::.i ((List.length p0 : Nat) : Int)::.i y15_2::tp 7 (.b (decide (r22_4 = 0))::tp 32 []))))), [(.box [(.i p1.Pattern), (.s p1.Key), (.l enc_GPair p1.Bound)]), .gone], 0⟩ ?_
   rcases tf_ (decide (r22_4 = 0)) with hc23_11 | hc23_11
   ·
    replace hm := cT hc23_11 hm
    refine AiT hc23_11 <| Sx <| Wm (.l enc_GMatch p0) rfl ?_
    obtain ⟨r27_5, hr27_5, hm⟩ := bnd hm
    refine Wy (.own 2) [(2, (Ar 61 3 enc_GMatch r27_5))] (Ocf [] [2] [] 0 (ok_slices_Clone_Match p0 r27_5 hr27_5) (fun a w => Try.call51 a w) rfl trivial) <| Wm (.own 2) rfl <| Wm (.b false) rfl <| Nn <| Rt <| Ir <| Ir <| Tr <| RoundK.ret <| Ir <| Tr ?_
    obtain rfl := Option.some.inj hm
    exact ret_i [2]
   ·
    replace hm := cF hc23_11 hm
    refine AiF hc23_11 <| Sx <| Wm (.i r22_4) rfl <| Wz (.b (decide ((0 : Int) < r22_4))) (Obn rfl (fun _ => hb_gtr (k := .i64))) ?_
    rcases tf_ (decide ((0 : Int) < r22_4)) with hq31_6 | hq31_6
    ·
     replace hm := cT hq31_6 hm
     refine Wz (.b true) (Oq hq31_6 rfl) <| Wm (.i y6_2) rfl <| Wm (.l enc_GMatch p0) rfl <| Wz (.i ((List.length p0 : Nat) : Int)) (Oln rfl) <| Wz (.b (decide (y6_2 = ((List.length p0 : Nat) : Int)))) (Obn rfl (fun _ => hb_eql (k := .i64))) <| Wz (.b (decide (y6_2 = ((List.length p0 : Nat) : Int)))) (OpT rfl) <| Wm (.b (decide (y6_2 = ((List.length p0 : Nat) : Int)))) rfl <| Nk 268493001 1 ⟨.l enc_GMatch p0::tp 2 (.loc 0 0::tp 2 (.i y6_2::.i y15_2::tp 5 (.l enc_GMatch p0::.i ((List.length p0 : Nat) : Int)::.i y15_2::tp 12 (.b (decide (y6_2 = ((List.length p0 : Nat) : Int)))::tp 27 [])))), [(.box [(.i p1.Pattern), (.s p1.Key), (.l enc_GPair p1.Bound)]), .gone], 0⟩ ?_
     rcases tf_ (decide (y6_2 = ((List.length p0 : Nat) : Int))) with hc28_12 | hc28_12
     ·
      replace hm := cT hc28_12 hm
      refine AiT hc28_12 <| Tx <| Wm (.i y15_2) rfl <| Wm (.i y15_2) rfl <| Wn0 <| Ino <| Ino <| Tk 57417 1 ⟨.l enc_GMatch p0::tp 2 (.loc 0 0::tp 2 (.i y15_2::tp 6 (.l enc_GMatch p0::.i ((List.length p0 : Nat) : Int)::.i y15_2::tp 40 []))), [(.box [(.i p1.Pattern), (.s p1.Key), (.l enc_GPair p1.Bound)]), .gone], 0⟩ <| Tx <| Wz (.i (W6 (y15_2 + 1))) (Obn rfl (fun _ => hb_add (k := .i64))) <| Wm (.i (W6 (y15_2 + 1))) rfl <| Wn0 <| RoundK.normal ?_
      exact Rounds.weak (Weak.toK 57417 0 0 [0]) (ih_2 (fu_2, y15_2, (W6 (y15_2 + 1))) hm (Nat.lt_succ_self _))
     ·
      replace hm := cF hc28_12 hm
      refine AiF hc28_12 <| Sk <| Ino <| Ino <| Tk 57417 1 ⟨.l enc_GMatch p0::tp 2 (.loc 0 0::tp 2 (.i y6_2::tp 6 (.l enc_GMatch p0::.i ((List.length p0 : Nat) : Int)::.i y15_2::tp 40 []))), [(.box [(.i p1.Pattern), (.s p1.Key), (.l enc_GPair p1.Bound)]), .gone], 0⟩ <| Tx <| Wz (.i (W6 (y15_2 + 1))) (Obn rfl (fun _ => hb_add (k := .i64))) <| Wm (.i (W6 (y15_2 + 1))) rfl <| Wn0 <| RoundK.normal ?_
      exact Rounds.weak (Weak.toK 57417 0 0 [0]) (ih_2 (fu_2, y6_2, (W6 (y15_2 + 1))) hm (Nat.lt_succ_self _))
    ·
     replace hm := cF hq31_6 hm
     refine Wz (.b false) (Oq hq31_6 rfl) <| Wn <| Wn <| Wn <| Wn <| Wz (.b false) (OpF rfl) <| Wm (.b false) rfl <| Nk 268493001 1 ⟨.l enc_GMatch p0::tp 2 (.loc 0 0::tp 2 (.i y6_2::.i y15_2::tp 5 (.l enc_GMatch p0::.i ((List.length p0 : Nat) : Int)::.i y15_2::tp 12 (.b false::tp 27 [])))), [(.box [(.i p1.Pattern), (.s p1.Key), (.l enc_GPair p1.Bound)]), .gone], 0⟩ <| AWP.if_ false (by kernel_rfl) <| Sk <| Ino <| Ino <| Tk 57417 1 ⟨.l enc_GMatch p0::tp 2 (.loc 0 0::tp 2 (.i y6_2::tp 6 (.l enc_GMatch p0::.i ((List.length p0 : Nat) : Int)::.i y15_2::tp 40 []))), [(.box [(.i p1.Pattern), (.s p1.Key), (.l enc_GPair p1.Bound)]), .gone], 0⟩ <| Tx ?_
     refine Wz (.i (W6 (y15_2 + 1))) (Obn rfl (fun _ => hb_add (k := .i64))) <| Wm (.i (W6 (y15_2 + 1))) rfl <| Wn0 <| RoundK.normal ?_
     exact Rounds.weak (Weak.toK 57417 0 0 [0]) (ih_2 (fu_2, y6_2, (W6 (y15_2 + 1))) hm (Nat.lt_succ_self _))
  ·
   replace hm := cF hc16_10 hm
   refine AiF hc16_10 <| AWP.exit <| Then.exit <| RoundK.exit <| InBlock.same <| Tk 73 1 ⟨.l enc_GMatch p0::tp 2 (.loc 0 0::tp 2 (.i y6_2::tp 49 [])), [(.box [(.i p1.Pattern), (.s p1.Key), (.l enc_GPair p1.Bound)])], 0⟩ <| Sx <| Wm (.l enc_GMatch p0) rfl <| Wz (.i ((List.length p0 : Nat) : Int)) (Oln rfl) <| Wz (.i (W6 (((List.length p0 : Nat) : Int) + 1))) (Obn rfl (fun _ => hb_add (k := .i64))) ?_
   obtain ⟨m42_7, hm42_7, hm⟩ := bnd hm; obtain ⟨hm42_7i, hm42_7j, hm42_7l, hm42_7k, hm42_7e⟩ := mkc_some hm42_7
   refine Wy (.own 1) [(1, (Ar 61 3 enc_GMatch m42_7))] (OcB (op_makeC rfl elemOK_66 (by kernel_rfl) (kl := .i64) (kc := .i64) (L := 0) (C := (IntKind.i64.wrap (((List.length p0 : Nat) : Int) + 1))) (by kernel_rfl) (by kernel_rfl) (n := Int.toNat 0) (cp := Int.toNat (IntKind.i64.wrap (((List.length p0 : Nat) : Int) + 1))) hm42_7i hm42_7j hm42_7l (by omega) (by kernel_rfl)) (bl_one (by rw [hm42_7e]; simp) (by rw [hm42_7e]; exact (flat_rep (by kernel_rfl))))) <| Wm (.own 1) rfl <| Nk 1097 3 ⟨.l enc_GMatch p0::tp 2 (.loc 0 0::tp 2 (.i y6_2::tp 3 (.own 1::tp 45 []))), [(.box [(.i p1.Pattern), (.s p1.Key), (.l enc_GPair p1.Bound)]), (Ar 61 3 enc_GMatch m42_7)], 0⟩ <| Sq <| Adr <| Wm (.own 1) rfl <| Wm (.l enc_GMatch p0) rfl <| Wm (.i y6_2) rfl ?_
   obtain ⟨s46_8, hs46_8, hm⟩ := bnd hm; obtain ⟨hs46_8a, hs46_8b, hs46_8c, hs46_8d, hs46_8e⟩ := cut_some hs46_8
   refine Wz (.l enc_GMatch s46_8) (op_cut rfl (e := 61) (sz := 3) (by kernel_rfl) (l := p0) (enc := enc_GMatch) (by kernel_rfl) enc_GMatch_len (a := (Int.toNat 0)) (b := (Int.toNat y6_2)) (by exact rfl) (⟨.i64, y6_2, by kernel_rfl, hs46_8b⟩) hs46_8c hs46_8d hs46_8e) ?_
   obtain ⟨a47_8, ha47_8, hm⟩ := bnd hm; obtain ⟨ha47_8e, ha47_8l⟩ := app_some ha47_8
   refine Wy (.own 2) [(1, .gone), (2, (Ar 61 3 enc_GMatch a47_8))] (Oap rfl elemOK_66 enc_GMatch_len ha47_8e ha47_8l) <| Wz (.agg [(.i p1.Pattern), (.s p1.Key), (.l enc_GPair p1.Bound)]) (Old rfl) <| Wy (.own 3) [(3, (Ar 61 3 enc_GMatch ([p1] : List GMatch)))] (Obs rfl) ?_
   obtain ⟨a50_8, ha50_8, hm⟩ := bnd hm; obtain ⟨ha50_8e, ha50_8l⟩ := app_some ha50_8
   refine Wy (.own 4) [(2, .gone), (4, (Ar 61 3 enc_GMatch a50_8))] (Oap rfl elemOK_66 enc_GMatch_len ha50_8e ha50_8l) <| Wm (.own 4) rfl <| Wdr <| Tk 1089 16 ⟨.l enc_GMatch p0::tp 5 (.i y6_2::tp 3 (.own 4::tp 45 [])), [.gone, .gone, .gone, .gone, (Ar 61 3 enc_GMatch a50_8)], 0⟩ <| Sx <| Wm (.own 4) rfl <| Wm (.l enc_GMatch p0) rfl <| Wm (.i y6_2) rfl ?_
   obtain ⟨s54_9, hs54_9, hm⟩ := bnd hm; obtain ⟨hs54_9a, hs54_9b, hs54_9c, hs54_9d, hs54_9e⟩ := cut_some hs54_9
   refine Wz (.l enc_GMatch s54_9) (op_cut rfl (e := 61) (sz := 3) (by kernel_rfl) (l := p0) (enc := enc_GMatch) (by kernel_rfl) enc_GMatch_len (a := (Int.toNat y6_2)) (b := (Int.toNat ((List.length p0 : Nat) : Int))) (⟨.i64, y6_2, by kernel_rfl, hs54_9a⟩) (by exact rfl) hs54_9c hs54_9d hs54_9e) ?_
   obtain ⟨a55_9, ha55_9, hm⟩ := bnd hm; obtain ⟨ha55_9e, ha55_9l⟩ := app_some ha55_9
   refine Wy (.own 5) [(4, .gone), (5, (Ar 61 3 enc_GMatch a55_9))] (Oap rfl elemOK_66 enc_GMatch_len ha55_9e ha55_9l) <| Wm (.own 5) rfl <| Wm (.b true) rfl <| Nn <| Rt ?_
   obtain rfl := Option.some.inj hm
   exact ret_i [5]

theorem ok_event_ID_Less (p0 : GID) (p1 : GID) (r : Bool) (h : m_event_ID_Less p0 p1 = some r) : GCall Try.prog 40 [(.agg [(.i p0.Time), (.i p0.Source), (.i p0.Seq)]), (.agg [(.i p1.Time), (.i p1.Source), (.i p1.Seq)])] [] (.b r) [] := by
 refine GCall.of_body (n := 32) (rs := [(.tmp 4)]) Try.func40 rfl rfl rfl <| Ato ⟨.agg [(.i p0.Time), (.i p0.Source), (.i p0.Seq)]::.agg [(.i p1.Time), (.i p1.Source), (.i p1.Seq)]::tu 30 [], [], 0⟩ ?_
 have hm := h
 unfold m_event_ID_Less at hm
 refine Sx <| Wy (.loc 0 0) [(0, (.box [(.i p0.Time), (.i p0.Source), (.i p0.Seq)]))] (Obx rfl) <| Wy (.loc 1 0) [(1, (.box [(.i p1.Time), (.i p1.Source), (.i p1.Seq)]))] (Obx rfl) <| Wm (.b false) rfl <| Nk 12 3 ⟨tp 2 (.loc 0 0::.loc 1 0::tp 28 []), [(.box [(.i p0.Time), (.i p0.Source), (.i p0.Seq)]), (.box [(.i p1.Time), (.i p1.Source), (.i p1.Seq)])], 0⟩ <| Sq <| Bk <| Sx <| Wz (.loc 0 0) (Ofa rfl) <| Wz (.i p0.Time) (Old rfl) <| Wz (.loc 1 0) (Ofa rfl) <| Wz (.i p1.Time) (Old rfl) <| Wz (.b (decide (p0.Time ≠ p1.Time))) (Obn rfl (fun _ => hb_neq (k := .i64))) <| Wm (.b (decide (p0.Time ≠ p1.Time))) rfl ?_
 refine Nk 44 3 ⟨tp 2 (.loc 0 0::.loc 1 0::tp 1 (.b (decide (p0.Time ≠ p1.Time))::tp 26 [])), [(.box [(.i p0.Time), (.i p0.Source), (.i p0.Seq)]), (.box [(.i p1.Time), (.i p1.Source), (.i p1.Seq)])], 0⟩ ?_
 rcases tf_ (decide (p0.Time ≠ p1.Time)) with hc5_0 | hc5_0
 ·
  replace hm := cT hc5_0 hm
  refine AiT hc5_0 <| Sx <| Wz (.loc 0 0) (Ofa rfl) <| Wz (.i p0.Time) (Old rfl) <| Wz (.loc 1 0) (Ofa rfl) <| Wz (.i p1.Time) (Old rfl) <| Wz (.b (decide (p0.Time < p1.Time))) (Obn rfl (fun _ => hb_lss (k := .i64))) <| Wm (.b (decide (p0.Time < p1.Time))) rfl <| Nn <| Rt <| Ir <| Tr ?_
  obtain rfl := Option.some.inj hm
  exact ret_i []
 ·
  replace hm := cF hc5_0 hm
  refine AiF hc5_0 <| Sx <| Wz (.loc 0 1) (Ofa rfl) <| Wz (.i p0.Source) (Old rfl) <| Wz (.loc 1 1) (Ofa rfl) <| Wz (.i p1.Source) (Old rfl) <| Wz (.b (decide (p0.Source ≠ p1.Source))) (Obn rfl (fun _ => hb_neq (k := .i64))) <| Wm (.b (decide (p0.Source ≠ p1.Source))) rfl <| Nk 65548 3 ⟨tp 2 (.loc 0 0::.loc 1 0::tp 12 (.b (decide (p0.Source ≠ p1.Source))::tp 15 [])), [(.box [(.i p0.Time), (.i p0.Source), (.i p0.Seq)]), (.box [(.i p1.Time), (.i p1.Source), (.i p1.Seq)])], 0⟩ ?_
  rcases tf_ (decide (p0.Source ≠ p1.Source)) with hc16_1 | hc16_1
  ·
   replace hm := cT hc16_1 hm
   refine AiT hc16_1 <| Sx <| Wz (.loc 0 1) (Ofa rfl) <| Wz (.i p0.Source) (Old rfl) <| Wz (.loc 1 1) (Ofa rfl) <| Wz (.i p1.Source) (Old rfl) <| Wz (.b (decide (p0.Source < p1.Source))) (Obn rfl (fun _ => hb_lss (k := .i64))) <| Wm (.b (decide (p0.Source < p1.Source))) rfl <| Nn <| Rt <| Ir <| Tr ?_
   obtain rfl := Option.some.inj hm
   exact ret_i []
  ·
   replace hm := cF hc16_1 hm
   refine AiF hc16_1 <| Sk <| Ino <| Tk 12 3 ⟨tp 2 (.loc 0 0::.loc 1 0::tp 28 []), [(.box [(.i p0.Time), (.i p0.Source), (.i p0.Seq)]), (.box [(.i p1.Time), (.i p1.Source), (.i p1.Seq)])], 0⟩ <| Sx <| Wz (.loc 0 2) (Ofa rfl) <| Wz (.i p0.Seq) (Old rfl) <| Wz (.loc 1 2) (Ofa rfl) <| Wz (.i p1.Seq) (Old rfl) <| Wz (.b (decide (p0.Seq < p1.Seq))) (Obn rfl (fun _ => hb_lss (k := .i64))) <| Wm (.b (decide (p0.Seq < p1.Seq))) rfl <| Nn <| Rt ?_
   obtain rfl := Option.some.inj hm
   exact ret_i []

theorem ok_bind_Rising (p0 : (List GPair)) (r : Bool) (h : m_bind_Rising p0 = some r) : GCall Try.prog 20 [(.l enc_GPair p0)] [] (.b r) [] := by
 refine GCall.of_body (n := 25) (rs := [(.tmp 2)]) Try.func20 rfl rfl rfl <| Ato ⟨.l enc_GPair p0::tu 24 [], [], 0⟩ ?_
 have hm := h
 unfold m_bind_Rising at hm
 refine Sx <| Wm (.b false) rfl <| Nk 1 0 ⟨.l enc_GPair p0::tp 24 [], [], 0⟩ <| Sq <| Sx <| Wm (.i 1) rfl <| Nk 9 0 ⟨.l enc_GPair p0::tp 2 (.i 1::tp 21 []), [], 0⟩ <| Bk ?_
 refine AWP.loopI (α := Nat × Int)
   (fun (fu_0, y3_0) => (⟨.l enc_GPair p0::tp 2 (.i y3_0::tp 21 []), [], 0⟩ : St))
   (fun (fu_0, y3_0) => m_bind_Rising_l0 p0 fu_0 y3_0 = some r)
   (fun (fu_0, y3_0) => fu_0) (1152921504606846976, 1)
   (Weak.toK 9 0 0 []) hm ?_
 rintro ⟨fu_0, y3_0⟩ n_0 hm ih_0
 try dsimp only at hm ih_0 ⊢
 cases fu_0 with
 | zero => exact absurd hm (by unfold m_bind_Rising_l0; simp)
 | succ fu_0 =>
  unfold m_bind_Rising_l0 at hm
  refine Sq <| Sx <| Wm (.i y3_0) rfl <| Wm (.l enc_GPair p0) rfl <| Wz (.i ((List.length p0 : Nat) : Int)) (Oln rfl) <| Wz (.b (decide (y3_0 < ((List.length p0 : Nat) : Int)))) (Obn rfl (fun _ => hb_lss (k := .i64))) <| Nk 137 0 ⟨.l enc_GPair p0::tp 2 (.i y3_0::tp 3 (.b (decide (y3_0 < ((List.length p0 : Nat) : Int)))::tp 17 [])), [], 0⟩ ?_
  rcases tf_ (decide (y3_0 < ((List.length p0 : Nat) : Int))) with hc7_3 | hc7_3
  ·
   replace hm := cT hc7_3 hm
   refine AiT hc7_3 <| Sk <| Tk 9 0 ⟨.l enc_GPair p0::tp 2 (.i y3_0::tp 21 []), [], 0⟩ <| Sq <| Bk <| Sq <| Adr <| Wm (.l enc_GPair p0) rfl <| Wm (.i y3_0) rfl <| Wz (.i (W6 (y3_0 - 1))) (Obn rfl (fun _ => hb_sub (k := .i64))) ?_
   obtain ⟨x13_2, hx13_2, hm⟩ := bnd hm
   obtain ⟨hx13_2i, hx13_2g⟩ := geti_some hx13_2
   refine Wz (.d (.ref (List.drop ((Int.toNat (W6 (y3_0 - 1))) * 6) (flatD enc_GPair p0)))) (Oia rfl enc_GPair_len hx13_2i hx13_2g) <| Wz (.d (.ref (List.drop 1 (List.drop ((Int.toNat (W6 (y3_0 - 1))) * 6) (flatD enc_GPair p0))))) (Ofa rfl) <| Wz (.agg [(.i x13_2.E.Time), (.i x13_2.E.Source), (.i x13_2.E.Seq), (.s x13_2.E.Type_), (.l enc_GValue x13_2.E.Vals)]) (Lfk 1 rfl enc_GPair_len hx13_2g) ?_
   obtain ⟨r16_2, hr16_2, hm⟩ := bnd hm
   refine Wz (.agg [(.i r16_2.Time), (.i r16_2.Source), (.i r16_2.Seq)]) (Ocf [] [] [] 0 (ok_event_Event_ID x13_2.E r16_2 hr16_2) (fun a w => Try.call39 a w) rfl trivial) <| Wm (.l enc_GPair p0) rfl <| Wm (.i y3_0) rfl ?_
   obtain ⟨x19_2, hx19_2, hm⟩ := bnd hm
   obtain ⟨hx19_2i, hx19_2g⟩ := geti_some hx19_2
   refine Wz (.d (.ref (List.drop ((Int.toNat y3_0) * 6) (flatD enc_GPair p0)))) (Oia rfl enc_GPair_len hx19_2i hx19_2g) <| Wz (.d (.ref (List.drop 1 (List.drop ((Int.toNat y3_0) * 6) (flatD enc_GPair p0))))) (Ofa rfl) <| Wz (.agg [(.i x19_2.E.Time), (.i x19_2.E.Source), (.i x19_2.E.Seq), (.s x19_2.E.Type_), (.l enc_GValue x19_2.E.Vals)]) (Lfk 1 rfl enc_GPair_len hx19_2g) ?_
   obtain ⟨r22_2, hr22_2, hm⟩ := bnd hm
   refine Wz (.agg [(.i r22_2.Time), (.i r22_2.Source), (.i r22_2.Seq)]) (Ocf [] [] [] 0 (ok_event_Event_ID x19_2.E r22_2 hr22_2) (fun a w => Try.call39 a w) rfl trivial) ?_
   obtain ⟨r23_2, hr23_2, hm⟩ := bnd hm
   refine Wz (.b r23_2) (Ocf [] [] [] 0 (ok_event_ID_Less r16_2 r22_2 r23_2 hr23_2) (fun a w => Try.call40 a w) rfl trivial) <| Wz (.b (!r23_2)) (Ocs (by kernel_rfl) (op_un rfl (a1 := .bool r23_2) (by kernel_rfl) (fun _ => hu_not))) <| Wdr <| Tk 16777225 0 ⟨.l enc_GPair p0::tp 2 (.i y3_0::tp 20 (.b (!r23_2)::[])), [], 0⟩ ?_
   rcases tf_ (!r23_2) with hc24_4 | hc24_4
   ·
    replace hm := cT hc24_4 hm
    refine AiT hc24_4 <| Sx <| Wm (.b false) rfl <| Nn <| Rt <| Ir <| Tr <| RoundK.ret <| Ir <| Tr ?_
    obtain rfl := Option.some.inj hm
    exact ret_i []
   ·
    replace hm := cF hc24_4 hm
    refine AiF hc24_4 <| Sk <| Ino <| Tk 9 0 ⟨.l enc_GPair p0::tp 2 (.i y3_0::tp 21 []), [], 0⟩ <| Tx <| Wm (.i y3_0) rfl <| Wz (.i (W6 (y3_0 + 1))) (Obn rfl (fun _ => hb_add (k := .i64))) <| Wm (.i (W6 (y3_0 + 1))) rfl <| Wn0 <| RoundK.normal ?_
    exact Rounds.weak (Weak.toK 9 0 0 []) (ih_0 (fu_0, (W6 (y3_0 + 1))) hm (Nat.lt_succ_self _))
  ·
   replace hm := cF hc7_3 hm
   refine AiF hc7_3 <| AWP.exit <| Then.exit <| RoundK.exit <| InBlock.same <| Tk 0 0 ⟨tp 25 [], [], 0⟩ <| Sx <| Wm (.b true) rfl <| Nn <| Rt ?_
   obtain rfl := Option.some.inj hm
   exact ret_i []

theorem ok_zig_Fold (p0 : Int) (r : Int) (h : m_zig_Fold p0 = some r) : GCall Try.prog 64 [(.i p0)] [] (.u r) [] := by
 refine GCall.of_body (n := 10) (rs := [(.tmp 2)]) Try.func64 rfl rfl rfl <| Ato ⟨.i p0::tu 9 [], [], 0⟩ ?_
 have hm := h
 unfold m_zig_Fold at hm
 refine Sx <| Wm (.u 0) rfl <| Nk 1 0 ⟨.i p0::tp 9 [], [], 0⟩ <| Sx <| Wm (.i p0) rfl <| Wz (.u (W7 p0)) (Oc2 (.int .i64 p0) rfl (run_conv (ds := .int .i64) (k' := .u64) (by kernel_rfl) (by kernel_rfl))) <| Wz (.u (W7 ((W7 p0) * 2 ^ 1))) (Ob2 (.int .u64 (W7 p0)) (.int .u64 1) rfl (fun _ => hb_shl (n := 1) (by decide) rfl)) <| Wm (.i p0) rfl <| Wz (.i (Int.fdiv p0 (2 ^ 63))) (Ob2 (.int .i64 p0) (.int .u64 63) rfl (fun _ => hb_shr (n := 63) (by decide) rfl)) <| Wz (.u (W7 (Int.fdiv p0 (2 ^ 63)))) (Oc2 (.int .i64 (Int.fdiv p0 (2 ^ 63))) rfl (run_conv (ds := .int .i64) (k' := .u64) (by kernel_rfl) (by kernel_rfl))) ?_
 obtain ⟨v9_0, hv9_0, hm⟩ := bnd hm; replace hv9_0 := Option.some.inj hv9_0
 refine Wz (.u v9_0) (Ocs (Eq.trans (by kernel_rfl) (congrArg (fun z => A.d (.lit (.int .u64 z))) hv9_0)) (op_bin rfl (a1 := .int .u64 (W7 ((W7 p0) * 2 ^ 1))) (a2 := .int .u64 (W7 (Int.fdiv p0 (2 ^ 63)))) (by kernel_rfl) (by kernel_rfl) (fun _ => hb_xor))) <| Wm (.u v9_0) rfl <| Nn <| Rt ?_
 obtain rfl := Option.some.inj hm
 exact ret_i []

theorem ok_math_bits_Len64 (p0 : Int) (r : Int) (h : m_math_bits_Len64 p0 = some r) : GCall Try.prog 68 [(.u p0)] [] (.i r) [] := by
 refine GCall.of_body (n := 25) (rs := [(.tmp 2)]) Try.func68 rfl rfl rfl <| Ato ⟨.u p0::tu 24 [], [], 0⟩ ?_
 have hm := h
 unfold m_math_bits_Len64 at hm
 refine Sx <| Wm (.i 0) rfl <| Nk 5 0 ⟨.u p0::tp 1 (.i 0::tp 22 []), [], 0⟩ ?_
 refine AWP.cutJ (α := Int × Int) (fun (y0_0, y2_0) => (⟨.u y0_0::tp 1 (.i y2_0::tp 22 []), [], 0⟩ : St)) (fun (y0_0, y2_0) => m_math_bits_Len64_j0  y0_0 y2_0 = some r) ?_ (fun J0 => ?_)
 ·
  rintro ⟨y0_0, y2_0⟩ hm
  try dsimp only at hm ⊢
  unfold m_math_bits_Len64_j0 at hm
  refine AWP.cutJ (α := Int × Int) (fun (y0_1, y2_1) => (⟨.u y0_1::tp 1 (.i y2_1::tp 22 []), [], 0⟩ : St)) (fun (y0_1, y2_1) => m_math_bits_Len64_j1  y0_1 y2_1 = some r) ?_ (fun J1 => ?_)
  ·
   rintro ⟨y0_1, y2_1⟩ hm
   try dsimp only at hm ⊢
   unfold m_math_bits_Len64_j1 at hm
   refine AWP.cutJ (α := Int × Int) (fun (y0_2, y2_2) => (⟨.u y0_2::tp 1 (.i y2_2::tp 22 []), [], 0⟩ : St)) (fun (y0_2, y2_2) => m_math_bits_Len64_j2  y0_2 y2_2 = some r) ?_ (fun J2 => ?_)
   ·
    rintro ⟨y0_2, y2_2⟩ hm
    try dsimp only at hm ⊢
    unfold m_math_bits_Len64_j2 at hm
    refine Sx <| Wm (.i y2_2) rfl <| Wm (.u y0_2) rfl <| Wz (.y (toU8 y0_2)) (Ocs (lit_int (u8w _)) (op_convert rfl (a1 := .int .u64 y0_2) (by kernel_rfl) (run_conv (ds := .int .u64) (k' := .u8) (by kernel_rfl) (by kernel_rfl)))) ?_
    obtain ⟨x22_3, hx22_3, hm⟩ := bnd hm
    obtain ⟨hx22_3i, hx22_3g⟩ := geti_some hx22_3
    refine Wz (.y x22_3) (Ocs (by kernel_rfl) (op_index_str rfl (by kernel_rfl) (s := toS ([0, 1, 2, 2, 3, 3, 3, 3, 4, 4, 4, 4, 4, 4, 4, 4, 5, 5, 5, 5, 5, 5, 5, 5, 5, 5, 5, 5, 5, 5, 5, 5, 6, 6, 6, 6, 6, 6, 6, 6, 6, 6, 6, 6, 6, 6, 6, 6, 6, 6, 6, 6, 6, 6, 6, 6, 6, 6, 6, 6, 6, 6, 6, 6, 7, 7, 7, 7, 7, 7, 7, 7, 7, 7, 7, 7, 7, 7, 7, 7, 7, 7, 7, 7, 7, 7, 7, 7, 7, 7, 7, 7, 7, 7, 7, 7, 7, 7, 7, 7, 7, 7, 7, 7, 7, 7, 7, 7, 7, 7, 7, 7, 7, 7, 7, 7, 7, 7, 7, 7, 7, 7, 7, 7, 7, 7, 7, 7, 8, 8, 8, 8, 8, 8, 8, 8, 8, 8, 8, 8, 8, 8, 8, 8, 8, 8, 8, 8, 8, 8, 8, 8, 8, 8, 8, 8, 8, 8, 8, 8, 8, 8, 8, 8, 8, 8, 8, 8, 8, 8, 8, 8, 8, 8, 8, 8, 8, 8, 8, 8, 8, 8, 8, 8, 8, 8, 8, 8, 8, 8, 8, 8, 8, 8, 8, 8, 8, 8, 8, 8, 8, 8, 8, 8, 8, 8, 8, 8, 8, 8, 8, 8, 8, 8, 8, 8, 8, 8, 8, 8, 8, 8, 8, 8, 8, 8, 8, 8, 8, 8, 8, 8, 8, 8, 8, 8, 8, 8, 8, 8, 8, 8, 8, 8, 8, 8, 8, 8, 8, 8, 8, 8, 8, 8, 8, 8] : List UInt8)) (by kernel_rfl) (k := .u8) (iv := (((toU8 y0_2).toNat : Nat) : Int)) (by kernel_rfl) (i := (Int.toNat (((toU8 y0_2).toNat : Nat) : Int))) (hx22_3i) (b := x22_3) (hx22_3g))) <| Wz (.i ((x22_3.toNat : Nat) : Int)) (Ocs (lit_int (wrap_of_u8 (by decide) _)) (op_convert rfl (a1 := .int .u8 ((x22_3.toNat : Nat) : Int)) (by kernel_rfl) (run_conv (ds := .int .u8) (k' := .i64) (by kernel_rfl) (by kernel_rfl)))) <| Wz (.i (W6 (y2_2 + ((x22_3.toNat : Nat) : Int)))) (Obn rfl (fun _ => hb_add (k := .i64))) <| Wm (.i (W6 (y2_2 + ((x22_3.toNat : Nat) : Int)))) rfl <| Nn <| Rt ?_
    obtain rfl := Option.some.inj hm
    exact ret_i []
   refine Sq <| Sx <| Wm (.u y0_1) rfl <| Wz (.b (decide ((256 : Int) ≤ y0_1))) (Obn rfl (fun _ => hb_geq (k := .u64))) <| Nk 16389 0 ⟨.u y0_1::tp 1 (.i y2_1::tp 11 (.b (decide ((256 : Int) ≤ y0_1))::tp 10 [])), [], 0⟩ ?_
   rcases tf_ (decide ((256 : Int) ≤ y0_1)) with hc14_4 | hc14_4
   ·
    replace hm := cT hc14_4 hm
    refine AiT hc14_4 <| Sx <| Wm (.u y0_1) rfl <| Wz (.u (Int.fdiv y0_1 (2 ^ 8))) (Ob2 (.int .u64 y0_1) (.int .u64 8) rfl (fun _ => hb_shr (n := 8) (by decide) rfl)) <| Wm (.u (Int.fdiv y0_1 (2 ^ 8))) rfl <| Nk 5 0 ⟨.u (Int.fdiv y0_1 (2 ^ 8))::tp 1 (.i y2_1::tp 22 []), [], 0⟩ <| Tx <| Wm (.i y2_1) rfl <| Wz (.i (W6 (y2_1 + 8))) (Obn rfl (fun _ => hb_add (k := .i64))) <| Wm (.i (W6 (y2_1 + 8))) rfl <| Nn ?_
    exact AWP.weak (Weak.toK 5 0 0 []) (J2 ((Int.fdiv y0_1 (2 ^ 8)), (W6 (y2_1 + 8))) hm)
   ·
    replace hm := cF hc14_4 hm
    refine AiF hc14_4 <| Sk <| Tn ?_
    exact AWP.weak (Weak.toK 5 0 0 []) (J2 (y0_1, y2_1) hm)
  refine Sq <| Sx <| Wm (.u y0_0) rfl <| Wz (.b (decide ((65536 : Int) ≤ y0_0))) (Obn rfl (fun _ => hb_geq (k := .u64))) <| Nk 261 0 ⟨.u y0_0::tp 1 (.i y2_0::tp 5 (.b (decide ((65536 : Int) ≤ y0_0))::tp 16 [])), [], 0⟩ ?_
  rcases tf_ (decide ((65536 : Int) ≤ y0_0)) with hc8_5 | hc8_5
  ·
   replace hm := cT hc8_5 hm
   refine AiT hc8_5 <| Sx <| Wm (.u y0_0) rfl <| Wz (.u (Int.fdiv y0_0 (2 ^ 16))) (Ob2 (.int .u64 y0_0) (.int .u64 16) rfl (fun _ => hb_shr (n := 16) (by decide) rfl)) <| Wm (.u (Int.fdiv y0_0 (2 ^ 16))) rfl <| Nk 5 0 ⟨.u (Int.fdiv y0_0 (2 ^ 16))::tp 1 (.i y2_0::tp 22 []), [], 0⟩ <| Tx <| Wm (.i y2_0) rfl <| Wz (.i (W6 (y2_0 + 16))) (Obn rfl (fun _ => hb_add (k := .i64))) <| Wm (.i (W6 (y2_0 + 16))) rfl <| Nn ?_
   exact AWP.weak (Weak.toK 5 0 0 []) (J1 ((Int.fdiv y0_0 (2 ^ 16)), (W6 (y2_0 + 16))) hm)
  ·
   replace hm := cF hc8_5 hm
   refine AiF hc8_5 <| Sk <| Tn ?_
   exact AWP.weak (Weak.toK 5 0 0 []) (J1 (y0_0, y2_0) hm)
 refine Sq <| Sx <| Wm (.u p0) rfl <| Wz (.b (decide ((4294967296 : Int) ≤ p0))) (Obn rfl (fun _ => hb_geq (k := .u64))) <| Nk 21 0 ⟨.u p0::tp 1 (.i 0::tp 1 (.b (decide ((4294967296 : Int) ≤ p0))::tp 20 [])), [], 0⟩ ?_
 rcases tf_ (decide ((4294967296 : Int) ≤ p0)) with hc4_6 | hc4_6
 ·
  replace hm := cT hc4_6 hm
  refine AiT hc4_6 <| Sx <| Wm (.u p0) rfl <| Wz (.u (Int.fdiv p0 (2 ^ 32))) (Ob2 (.int .u64 p0) (.int .u64 32) rfl (fun _ => hb_shr (n := 32) (by decide) rfl)) <| Wm (.u (Int.fdiv p0 (2 ^ 32))) rfl <| Nk 1 0 ⟨.u (Int.fdiv p0 (2 ^ 32))::tp 24 [], [], 0⟩ <| Tx <| Wm (.i 32) rfl <| Nn ?_
  exact AWP.weak (Weak.toK 5 0 0 []) (J0 ((Int.fdiv p0 (2 ^ 32)), 32) hm)
 ·
  replace hm := cF hc4_6 hm
  refine AiF hc4_6 <| Sk <| Tn ?_
  exact AWP.weak (Weak.toK 5 0 0 []) (J0 (p0, 0) hm)

theorem ok_zig_Size (p0 : Int) (r : Int) (h : m_zig_Size p0 = some r) : GCall Try.prog 65 [(.u p0)] [] (.i r) [] := by
 refine GCall.of_body (n := 9) (rs := [(.tmp 2)]) Try.func65 rfl rfl rfl <| Ato ⟨.u p0::tu 8 [], [], 0⟩ ?_
 have hm := h
 unfold m_zig_Size at hm
 refine Sx <| Wm (.i 0) rfl <| Nk 1 0 ⟨.u p0::tp 8 [], [], 0⟩ <| Sx <| Wm (.u p0) rfl ?_
 obtain ⟨r4_0, hr4_0, hm⟩ := bnd hm
 refine Wz (.i r4_0) (Ocf [] [] [] 0 (ok_math_bits_Len64 p0 r4_0 hr4_0) (fun a w => Try.call68 a w) rfl trivial) <| Wz (.i (W6 (r4_0 + 7))) (Obn rfl (fun _ => hb_add (k := .i64))) <| Wz (.i (W6 ((W6 (r4_0 + 7)) - 1))) (Obn rfl (fun _ => hb_sub (k := .i64))) <| Wz (.i (W6 (Int.tdiv (W6 ((W6 (r4_0 + 7)) - 1)) 7))) (Ob2 (.int .i64 (W6 ((W6 (r4_0 + 7)) - 1))) (.int .i64 7) rfl (fun _ => hb_quo (by decide))) <| Wz (.i (max 1 (W6 (Int.tdiv (W6 ((W6 (r4_0 + 7)) - 1)) 7)))) (op_bi2 rfl (a1 := .int .i64 1) (a2 := .int .i64 (W6 (Int.tdiv (W6 ((W6 (r4_0 + 7)) - 1)) 7))) (by kernel_rfl) (by kernel_rfl) hb_max) <| Wm (.i (max 1 (W6 (Int.tdiv (W6 ((W6 (r4_0 + 7)) - 1)) 7)))) rfl <| Nn <| Rt ?_
 obtain rfl := Option.some.inj hm
 exact ret_i []

theorem ok_zig_Put (p0 : (List UInt8)) (p1 : Int) (r : (List UInt8)) (h : m_zig_Put p0 p1 = some r) : GCall Try.prog 54 [(.l encU8 p0), (.u p1)] [] (.own 0) [(Ar 5 1 encU8 r)] := by
 refine GCall.of_body (n := 41) (rs := [(.tmp 4)]) Try.func54 rfl rfl rfl <| Ato ⟨.l encU8 p0::.u p1::tu 39 [], [], 0⟩ ?_
 have hm := h
 unfold m_zig_Put at hm
 refine Sx <| Wm (.d .nil) rfl <| Nk 3 0 ⟨.l encU8 p0::.u p1::tp 39 [], [], 0⟩ <| Sx <| Wm (.u p1) rfl ?_
 obtain ⟨r10_0, hr10_0, hm⟩ := bnd hm
 refine Wz (.i r10_0) (Ocf [] [] [] 0 (ok_zig_Size p1 r10_0 hr10_0) (fun a w => Try.call65 a w) rfl trivial) <| Wm (.i r10_0) rfl <| Nk 35 0 ⟨.l encU8 p0::.u p1::tp 3 (.i r10_0::tp 35 []), [], 0⟩ <| Sx <| Wm (.l encU8 p0) rfl <| Wz (.i ((List.length p0 : Nat) : Int)) (Oln rfl) <| Wm (.i r10_0) rfl <| Wz (.i (W6 (((List.length p0 : Nat) : Int) + r10_0))) (Obn rfl (fun _ => hb_add (k := .i64))) ?_
 obtain ⟨m15_1, hm15_1, hm⟩ := bnd hm; obtain ⟨hm15_1i, hm15_1j, hm15_1l, hm15_1k, hm15_1e⟩ := mkc_some hm15_1
 refine Wy (.own 0) [(0, (Ar 5 1 encU8 m15_1))] (OcB (op_makeC rfl elemOK_104 (by kernel_rfl) (kl := .i64) (kc := .i64) (L := 0) (C := (IntKind.i64.wrap (((List.length p0 : Nat) : Int) + r10_0))) (by kernel_rfl) (by kernel_rfl) (n := Int.toNat 0) (cp := Int.toNat (IntKind.i64.wrap (((List.length p0 : Nat) : Int) + r10_0))) hm15_1i hm15_1j hm15_1l (by omega) (by kernel_rfl)) (bl_one (by rw [hm15_1e]; simp) (by rw [hm15_1e]; exact (flat_rep (by kernel_rfl))))) <| Wm (.own 0) rfl <| Nk 99 1 ⟨.l encU8 p0::.u p1::tp 3 (.i r10_0::.own 0::tp 34 []), [(Ar 5 1 encU8 m15_1)], 0⟩ <| Sx <| Wm (.own 0) rfl <| Wm (.l encU8 p0) rfl ?_
 obtain ⟨a18_2, ha18_2, hm⟩ := bnd hm; obtain ⟨ha18_2e, ha18_2l⟩ := app_some ha18_2
 refine Wy (.own 1) [(0, .gone), (1, (Ar 5 1 encU8 a18_2))] (Oap rfl elemOK_104 encU8_len ha18_2e ha18_2l) <| Wm (.own 1) rfl <| Nk 98 2 ⟨tp 1 (.u p1::tp 3 (.i r10_0::.own 1::tp 34 [])), [.gone, (Ar 5 1 encU8 a18_2)], 0⟩ <| Sq <| Sx <| Wm (.i r10_0) rfl <| Wm (.i 0) rfl <| Nk 1572962 2 ⟨tp 1 (.u p1::tp 3 (.i r10_0::.own 1::tp 12 (.i r10_0::.i 0::tp 20 []))), [.gone, (Ar 5 1 encU8 a18_2)], 0⟩ <| Bk ?_
 refine AWP.loopI (α := Nat × (List UInt8) × Int)
   (fun (fu_3, y6_3, y20_3) => (⟨tp 1 (.u p1::tp 3 (.i r10_0::.own 0::tp 12 (.i r10_0::.i y20_3::tp 20 []))), [(Ar 5 1 encU8 y6_3)], 0⟩ : St))
   (fun (fu_3, y6_3, y20_3) => m_zig_Put_l3 p1 r10_0 fu_3 y6_3 y20_3 = some r)
   (fun (fu_3, y6_3, y20_3) => fu_3) (1152921504606846976, a18_2, 0)
   (Weak.toK 1572962 0 0 [1]) hm ?_
 rintro ⟨fu_3, y6_3, y20_3⟩ n_3 hm ih_3
 try dsimp only at hm ih_3 ⊢
 cases fu_3 with
 | zero => exact absurd hm (by unfold m_zig_Put_l3; simp)
 | succ fu_3 =>
  unfold m_zig_Put_l3 at hm
  refine Sx <| Wz (.b (decide (y20_3 < r10_0))) (Obn rfl (fun _ => hb_lss (k := .i64))) <| Nk 3670114 1 ⟨tp 1 (.u p1::tp 3 (.i r10_0::.own 0::tp 12 (.i r10_0::.i y20_3::.b (decide (y20_3 < r10_0))::tp 19 []))), [(Ar 5 1 encU8 y6_3)], 0⟩ <| Sq ?_
  rcases tf_ (decide (y20_3 < r10_0)) with hc21_6 | hc21_6
  ·
   replace hm := cT hc21_6 hm
   refine AiT hc21_6 <| Sk <| Tk 1572962 1 ⟨tp 1 (.u p1::tp 3 (.i r10_0::.own 0::tp 12 (.i r10_0::.i y20_3::tp 20 []))), [(Ar 5 1 encU8 y6_3)], 0⟩ <| Sq <| Bk <| Sx <| Wm (.i y20_3) rfl <| Wm (.i y20_3) rfl <| Nk 1573090 1 ⟨tp 1 (.u p1::tp 3 (.i r10_0::.own 0::.i y20_3::tp 11 (.i r10_0::.i y20_3::tp 20 []))), [(Ar 5 1 encU8 y6_3)], 0⟩ <| Sx <| Wm (.u p1) rfl <| Wm (.i y20_3) rfl <| Wz (.i (W6 (7 * y20_3))) (Obn rfl (fun _ => hb_mul (k := .i64))) ?_
   obtain ⟨hs26_4, hm⟩ := chk_some hm
   refine Wz (.u (Int.fdiv p1 (2 ^ (Int.toNat (W6 (7 * y20_3)))))) (Ob2 (.int .u64 p1) (.int .i64 (W6 (7 * y20_3))) rfl (fun _ => hb_shr (n := (Int.toNat (W6 (7 * y20_3)))) (sh_le hs26_4.2) (sh_eq hs26_4.1))) <| Wz (.y (toU8 (Int.fdiv p1 (2 ^ (Int.toNat (W6 (7 * y20_3))))))) (Ocs (lit_int (u8w _)) (op_convert rfl (a1 := .int .u64 (Int.fdiv p1 (2 ^ (Int.toNat (W6 (7 * y20_3)))))) (by kernel_rfl) (run_conv (ds := .int .u64) (k' := .u8) (by kernel_rfl) (by kernel_rfl)))) ?_
   obtain ⟨v28_4, hv28_4, hm⟩ := bnd hm; replace hv28_4 := Option.some.inj hv28_4
   refine Wz (.y v28_4) (Ocs (Eq.trans (lit_int (u8w _)) (congrArg (fun z => A.d (byteD z)) hv28_4)) (op_bin rfl (a1 := .int .u8 (((toU8 (Int.fdiv p1 (2 ^ (Int.toNat (W6 (7 * y20_3)))))).toNat : Nat) : Int)) (a2 := .int .u8 128) (by kernel_rfl) (by kernel_rfl) (fun _ => hb_or))) <| Wm (.y v28_4) rfl <| Nk 1573346 1 ⟨tp 1 (.u p1::tp 3 (.i r10_0::.own 0::.i y20_3::.y v28_4::tp 10 (.i r10_0::.i y20_3::tp 20 []))), [(Ar 5 1 encU8 y6_3)], 0⟩ ?_
   refine AWP.cutJ (α := UInt8) (fun x => match x with | y8_5 => (⟨tp 1 (.u p1::tp 3 (.i r10_0::.own 0::tp 1 (.y y8_5::tp 10 (.i r10_0::.i y20_3::tp 20 [])))), [(Ar 5 1 encU8 y6_3)], 0⟩ : St)) (fun x => match x with | y8_5 => m_zig_Put_j5 y20_3 y6_3 (fun y6_3 y20_3 => m_zig_Put_l3 p1 r10_0 fu_3 y6_3 y20_3) y8_5 = some r) ?_ (fun J5 => ?_)
   ·
    rintro y8_5 hm
    try dsimp only at hm ⊢
    unfold m_zig_Put_j5 at hm
    refine Tx <| Wm (.own 0) rfl <| Wm (.y y8_5) rfl <| Wy (.own 1) [(1, (Ar 5 1 encU8 ([y8_5] : List UInt8)))] (Obs rfl) ?_
    obtain ⟨a38_5, ha38_5, hm⟩ := bnd hm; obtain ⟨ha38_5e, ha38_5l⟩ := app_some ha38_5
    refine Wy (.own 2) [(0, .gone), (2, (Ar 5 1 encU8 a38_5))] (Oap rfl elemOK_104 encU8_len ha38_5e ha38_5l) <| Wm (.own 2) rfl <| Wn0 <| Ino <| Tk 1572962 4 ⟨tp 1 (.u p1::tp 3 (.i r10_0::.own 2::tp 12 (.i r10_0::.i y20_3::tp 20 []))), [.gone, .gone, (Ar 5 1 encU8 a38_5)], 0⟩ <| Tx <| Wz (.i (W6 (y20_3 + 1))) (Obn rfl (fun _ => hb_add (k := .i64))) <| Wm (.i (W6 (y20_3 + 1))) rfl <| Wn0 <| RoundK.normal ?_
    exact Rounds.weak (Weak.toK 1572962 0 0 [2]) (ih_3 (fu_3, a38_5, (W6 (y20_3 + 1))) hm (Nat.lt_succ_self _))
   refine Sq <| Sx <| Wm (.i y20_3) rfl <| Wm (.i r10_0) rfl <| Wz (.i (W6 (r10_0 - 1))) (Obn rfl (fun _ => hb_sub (k := .i64))) <| Wz (.b (decide (y20_3 = (W6 (r10_0 - 1))))) (Obn rfl (fun _ => hb_eql (k := .i64))) <| Nk 4296540514 1 ⟨tp 1 (.u p1::tp 3 (.i r10_0::.own 0::tp 1 (.y v28_4::tp 10 (.i r10_0::.i y20_3::tp 11 (.b (decide (y20_3 = (W6 (r10_0 - 1))))::tp 8 []))))), [(Ar 5 1 encU8 y6_3)], 0⟩ ?_
   rcases tf_ (decide (y20_3 = (W6 (r10_0 - 1)))) with hc32_7 | hc32_7
   ·
    replace hm := cT hc32_7 hm
    refine AiT hc32_7 <| Tx <| Wm (.y v28_4) rfl <| Wz (.y (toU8 (((BitVec.ofInt 8 ((v28_4.toNat : Nat) : Int) &&& ~~~ BitVec.ofInt 8 128).toNat : Int)))) (Ocs (lit_int (u8w _)) (op_bin rfl (a1 := .int .u8 ((v28_4.toNat : Nat) : Int)) (a2 := .int .u8 128) (by kernel_rfl) (by kernel_rfl) (fun _ => hb_andNot))) <| Wm (.y (toU8 (((BitVec.ofInt 8 ((v28_4.toNat : Nat) : Int) &&& ~~~ BitVec.ofInt 8 128).toNat : Int)))) rfl <| Nn ?_
    exact AWP.weak (Weak.toK 1573218 0 0 [0]) (J5 ((toU8 (((BitVec.ofInt 8 ((v28_4.toNat : Nat) : Int) &&& ~~~ BitVec.ofInt 8 128).toNat : Int)))) hm)
   ·
    replace hm := cF hc32_7 hm
    refine AiF hc32_7 <| Sk <| Tn ?_
    exact AWP.weak (Weak.toK 1573218 0 0 [0]) (J5 (v28_4) hm)
  ·
   replace hm := cF hc21_6 hm
   refine AiF hc21_6 <| AWP.exit <| Then.exit <| RoundK.exit <| InBlock.same <| Tk 64 1 ⟨tp 6 (.own 0::tp 34 []), [(Ar 5 1 encU8 y6_3)], 0⟩ <| Sx <| Wm (.own 0) rfl <| Wm (.own 0) rfl <| Nn <| Rt ?_
   obtain rfl := Option.some.inj hm
   exact ret_i [0]

theorem ok_zig_PutInt (p0 : (List UInt8)) (p1 : Int) (r : (List UInt8)) (h : m_zig_PutInt p0 p1 = some r) : GCall Try.prog 53 [(.l encU8 p0), (.i p1)] [] (.own 0) [(Ar 5 1 encU8 r)] := by
 refine GCall.of_body (n := 9) (rs := [(.tmp 4)]) Try.func53 rfl rfl rfl <| Ato ⟨.l encU8 p0::.i p1::tu 7 [], [], 0⟩ ?_
 have hm := h
 unfold m_zig_PutInt at hm
 refine Sx <| Wm (.d .nil) rfl <| Nk 3 0 ⟨.l encU8 p0::.i p1::tp 7 [], [], 0⟩ <| Sx <| Wm (.l encU8 p0) rfl <| Wm (.i p1) rfl ?_
 obtain ⟨r7_0, hr7_0, hm⟩ := bnd hm
 refine Wz (.u r7_0) (Ocf [] [] [] 0 (ok_zig_Fold p1 r7_0 hr7_0) (fun a w => Try.call64 a w) rfl trivial) ?_
 obtain ⟨r8_0, hr8_0, hm⟩ := bnd hm
 refine Wy (.own 0) [(0, (Ar 5 1 encU8 r8_0))] (Ocf [] [0] [] 0 (ok_zig_Put p0 r7_0 r8_0 hr8_0) (fun a w => Try.call54 a w) rfl trivial) <| Wm (.own 0) rfl <| Nn <| Rt ?_
 obtain rfl := Option.some.inj hm
 exact ret_i [0]

theorem ok_bind_text (p0 : (List UInt8)) (p1 : (List UInt8)) (r : (List UInt8)) (h : m_bind_text p0 p1 = some r) : GCall Try.prog 52 [(.l encU8 p0), (.s p1)] [] (.own 0) [(Ar 5 1 encU8 r)] := by
 refine GCall.of_body (n := 12) (rs := [(.tmp 4)]) Try.func52 rfl rfl rfl <| Ato ⟨.l encU8 p0::.s p1::tu 10 [], [], 0⟩ ?_
 have hm := h
 unfold m_bind_text at hm
 refine Sx <| Wm (.d .nil) rfl <| Nk 3 0 ⟨.l encU8 p0::.s p1::tp 10 [], [], 0⟩ <| Sx <| Wm (.l encU8 p0) rfl <| Wm (.s p1) rfl <| Wz (.i ((List.length p1 : Nat) : Int)) (Oln rfl) <| Wz (.u (W7 ((List.length p1 : Nat) : Int))) (Oc2 (.int .i64 ((List.length p1 : Nat) : Int)) rfl (run_conv (ds := .int .i64) (k' := .u64) (by kernel_rfl) (by kernel_rfl))) ?_
 obtain ⟨r9_0, hr9_0, hm⟩ := bnd hm
 refine Wy (.own 0) [(0, (Ar 5 1 encU8 r9_0))] (Ocf [] [0] [] 0 (ok_zig_Put p0 (W7 ((List.length p1 : Nat) : Int)) r9_0 hr9_0) (fun a w => Try.call54 a w) rfl trivial) <| Wm (.s p1) rfl ?_
 obtain ⟨a11_0, ha11_0, hm⟩ := bnd hm; obtain ⟨ha11_0e, ha11_0l⟩ := app_some ha11_0
 refine Wy (.own 1) [(0, .gone), (1, (Ar 5 1 encU8 a11_0))] (OcB (op_appendStr rfl elemOK_104 (by kernel_rfl) (id := 0) (by kernel_rfl) (n := List.length r9_0) (xs := flatD encU8 r9_0) (by kernel_rfl) (str := toS p1) (by kernel_rfl) (app_str ha11_0l) (by kernel_rfl) (by decide)) (bl_app (by rw [ha11_0e, List.length_append]; rfl) (by rw [ha11_0e, flatD_append, flatU8 p1]; rfl))) <| Wm (.own 1) rfl <| Nn <| Rt ?_
 obtain rfl := Option.some.inj hm
 exact ret_i [1]

theorem ok_bind_Ident (p0 : GMatch) (r : (List UInt8)) (h : m_bind_Ident p0 = some r) : GCall Try.prog 32 [(.agg [(.i p0.Pattern), (.s p0.Key), (.l enc_GPair p0.Bound)])] [] (.s r) [] := by
 refine GCall.of_body (n := 51) (rs := [(.tmp 2)]) Try.func32 rfl rfl rfl <| Ato ⟨.agg [(.i p0.Pattern), (.s p0.Key), (.l enc_GPair p0.Bound)]::tu 50 [], [], 0⟩ ?_
 have hm := h
 unfold m_bind_Ident at hm
 refine Sx <| Wy (.loc 0 0) [(0, (.box [(.i p0.Pattern), (.s p0.Key), (.l enc_GPair p0.Bound)]))] (Obx rfl) <| Wm (.s ([] : List UInt8)) rfl <| Nk 2 1 ⟨tp 1 (.loc 0 0::tp 49 []), [(.box [(.i p0.Pattern), (.s p0.Key), (.l enc_GPair p0.Bound)])], 0⟩ <| Sq <| Adr <| Wz (.loc 0 0) (Ofa rfl) <| Wz (.i p0.Pattern) (Old rfl) ?_
 obtain ⟨r10_0, hr10_0, hm⟩ := bnd hm
 refine Wy (.own 1) [(1, (Ar 5 1 encU8 r10_0))] (Ocf [] [1] [] 0 (ok_zig_PutInt ([] : List UInt8) p0.Pattern r10_0 hr10_0) (fun a w => Try.call53 a w) rfl trivial) <| Wz (.loc 0 1) (Ofa rfl) <| Wz (.s p0.Key) (Old rfl) ?_
 obtain ⟨r13_0, hr13_0, hm⟩ := bnd hm
 refine Wy (.own 2) [(2, (Ar 5 1 encU8 r13_0))] (Ocp [] [2] [1] 0 (ok_bind_text r10_0 p0.Key r13_0 hr13_0) (⟨by simp [A.Plain, A.Plains, D.Plain, byteD], plain_cons (flat_plain encU8_plain) (plain_nil)⟩) (fun a w => Try.call52 a w) rfl trivial) <| Wm (.own 2) rfl <| Wdr <| Tk 10 5 ⟨tp 1 (.loc 0 0::tp 1 (.own 2::tp 47 [])), [(.box [(.i p0.Pattern), (.s p0.Key), (.l enc_GPair p0.Bound)]), .gone, (Ar 5 1 encU8 r13_0)], 0⟩ <| Sx <| Wm (.own 2) rfl <| Wz (.loc 0 2) (Ofa rfl) <| Wz (.l enc_GPair p0.Bound) (Old rfl) <| Wz (.i ((List.length p0.Bound : Nat) : Int)) (Oln rfl) <| Wz (.u (W7 ((List.length p0.Bound : Nat) : Int))) (Oc2 (.int .i64 ((List.length p0.Bound : Nat) : Int)) rfl (run_conv (ds := .int .i64) (k' := .u64) (by kernel_rfl) (by kernel_rfl))) ?_
 obtain ⟨r19_1, hr19_1, hm⟩ := bnd hm
 refine Wy (.own 3) [(3, (Ar 5 1 encU8 r19_1))] (Ocp [] [3] [2] 0 (ok_zig_Put r13_0 (IntKind.u64.wrap ((List.length p0.Bound : Nat) : Int)) r19_1 hr19_1) (⟨by simp [A.Plain, A.Plains, D.Plain, byteD], plain_cons (flat_plain encU8_plain) (plain_nil)⟩) (fun a w => Try.call54 a w) rfl trivial) <| Wm (.own 3) rfl <| Nk 10 9 ⟨tp 1 (.loc 0 0::tp 1 (.own 3::tp 47 [])), [(.box [(.i p0.Pattern), (.s p0.Key), (.l enc_GPair p0.Bound)]), .gone, .gone, (Ar 5 1 encU8 r19_1)], 0⟩ <| Sq <| Sx <| Wz (.loc 0 2) (Ofa rfl) <| Wz (.l enc_GPair p0.Bound) (Old rfl) <| Wz (.i ((List.length p0.Bound : Nat) : Int)) (Oln rfl) <| Wm (.i 0) rfl <| Nk 14680072 8 ⟨tp 3 (.own 3::tp 17 (.l enc_GPair p0.Bound::.i ((List.length p0.Bound : Nat) : Int)::.i 0::tp 27 [])), [.gone, .gone, .gone, (Ar 5 1 encU8 r19_1)], 0⟩ <| Bk ?_
 refine AWP.loopI (α := Nat × (List UInt8) × Int)
   (fun (fu_3, y3_3, y23_3) => (⟨tp 3 (.own 0::tp 17 (.l enc_GPair p0.Bound::.i ((List.length p0.Bound : Nat) : Int)::.i y23_3::tp 27 [])), [(Ar 5 1 encU8 y3_3)], 0⟩ : St))
   (fun (fu_3, y3_3, y23_3) => m_bind_Ident_l3 p0 fu_3 y3_3 y23_3 = some r)
   (fun (fu_3, y3_3, y23_3) => fu_3) (1152921504606846976, r19_1, 0)
   (Weak.toK 14680072 0 0 [3]) hm ?_
 rintro ⟨fu_3, y3_3, y23_3⟩ n_3 hm ih_3
 try dsimp only at hm ih_3 ⊢
 cases fu_3 with
 | zero => exact absurd hm (by unfold m_bind_Ident_l3; simp)
 | succ fu_3 =>
  unfold m_bind_Ident_l3 at hm
  refine Sx <| Wz (.b (decide (y23_3 < ((List.length p0.Bound : Nat) : Int)))) (Obn rfl (fun _ => hb_lss (k := .i64))) <| Nk 31457288 1 ⟨tp 3 (.own 0::tp 17 (.l enc_GPair p0.Bound::.i ((List.length p0.Bound : Nat) : Int)::.i y23_3::.b (decide (y23_3 < ((List.length p0.Bound : Nat) : Int)))::tp 26 [])), [(Ar 5 1 encU8 y3_3)], 0⟩ <| Sq ?_
  rcases tf_ (decide (y23_3 < ((List.length p0.Bound : Nat) : Int))) with hc24_10 | hc24_10
  ·
   replace hm := cT hc24_10 hm
   refine AiT hc24_10 <| Sk <| Tk 14680072 1 ⟨tp 3 (.own 0::tp 17 (.l enc_GPair p0.Bound::.i ((List.length p0.Bound : Nat) : Int)::.i y23_3::tp 27 [])), [(Ar 5 1 encU8 y3_3)], 0⟩ <| Sq <| Bk <| Sx ?_
   obtain ⟨x25_4, hx25_4, hm⟩ := bnd hm
   obtain ⟨hx25_4i, hx25_4g⟩ := geti_some hx25_4
   refine Wz (.d (.ref (List.drop ((Int.toNat y23_3) * 6) (flatD enc_GPair p0.Bound)))) (Oia rfl enc_GPair_len hx25_4i hx25_4g) <| Wz (.agg [(.s x25_4.Var), (.i x25_4.E.Time), (.i x25_4.E.Source), (.i x25_4.E.Seq), (.s x25_4.E.Type_), (.l enc_GValue x25_4.E.Vals)]) (Lf rfl enc_GPair_len hx25_4g) <| Wy (.loc 1 0) [(1, (.box [(.s ([] : List UInt8)), (.i 0), (.i 0), (.i 0), (.s ([] : List UInt8)), (.d .nil)]))] (Oal rfl) <| Wy (.tup []) [(1, (.box [(.s x25_4.Var), (.i x25_4.E.Time), (.i x25_4.E.Source), (.i x25_4.E.Seq), (.s x25_4.E.Type_), (.l enc_GValue x25_4.E.Vals)]))] (Ost rfl) <| Nk 14680104 3 ⟨tp 3 (.own 0::tp 1 (.loc 1 0::tp 15 (.l enc_GPair p0.Bound::.i ((List.length p0.Bound : Nat) : Int)::.i y23_3::tp 27 []))), [(Ar 5 1 encU8 y3_3), (.box [(.s x25_4.Var), (.i x25_4.E.Time), (.i x25_4.E.Source), (.i x25_4.E.Seq), (.s x25_4.E.Type_), (.l enc_GValue x25_4.E.Vals)])], 0⟩ <| Sx <| Wm (.own 0) rfl <| Wz (.loc 1 0) (Ofa rfl) <| Wz (.s x25_4.Var) (Old rfl) ?_
   obtain ⟨r30_5, hr30_5, hm⟩ := bnd hm
   refine Wy (.own 2) [(2, (Ar 5 1 encU8 r30_5))] (Ocp [] [2] [0] 0 (ok_bind_text y3_3 x25_4.Var r30_5 hr30_5) (⟨by simp [A.Plain, A.Plains, D.Plain, byteD], plain_cons (flat_plain encU8_plain) (plain_nil)⟩) (fun a w => Try.call52 a w) rfl trivial) <| Wm (.own 2) rfl <| Nk 14680104 6 ⟨tp 3 (.own 2::tp 1 (.loc 1 0::tp 15 (.l enc_GPair p0.Bound::.i ((List.length p0.Bound : Nat) : Int)::.i y23_3::tp 27 []))), [.gone, (.box [(.s x25_4.Var), (.i x25_4.E.Time), (.i x25_4.E.Source), (.i x25_4.E.Seq), (.s x25_4.E.Type_), (.l enc_GValue x25_4.E.Vals)]), (Ar 5 1 encU8 r30_5)], 0⟩ <| Sx <| Wz (.loc 1 1) (Ofa rfl) <| Wz (.loc 1 1) (Ofa rfl) <| Wz (.i x25_4.E.Time) (Old rfl) <| Wz (.loc 1 1) (Ofa rfl) <| Wz (.loc 1 2) (Ofa rfl) <| Wz (.i x25_4.E.Source) (Old rfl) <| Wz (.loc 1 1) (Ofa rfl) <| Wz (.loc 1 3) (Ofa rfl) <| Wz (.i x25_4.E.Seq) (Old rfl) <| Wz (.agg [(.i x25_4.E.Time), (.i x25_4.E.Source), (.i x25_4.E.Seq)]) (ObA rfl (e := 3) (n := 3) (sz := 1) (by kernel_rfl) (by kernel_rfl)) ?_
   refine Wm (.i 0) rfl <| Nk 3298549563400 4 ⟨tp 3 (.own 2::tp 17 (.l enc_GPair p0.Bound::.i ((List.length p0.Bound : Nat) : Int)::.i y23_3::tp 16 (.agg [(.i x25_4.E.Time), (.i x25_4.E.Source), (.i x25_4.E.Seq)]::.i 0::tp 9 []))), [.gone, .gone, (Ar 5 1 encU8 r30_5)], 0⟩ <| Bk ?_
   refine AWP.loopI (α := Nat × (List UInt8) × Int)
     (fun (fu_6, y3_6, y41_6) => (⟨tp 3 (.own 0::tp 17 (.l enc_GPair p0.Bound::.i ((List.length p0.Bound : Nat) : Int)::.i y23_3::tp 16 (.agg [(.i x25_4.E.Time), (.i x25_4.E.Source), (.i x25_4.E.Seq)]::.i y41_6::tp 9 []))), [(Ar 5 1 encU8 y3_6)], 0⟩ : St))
     (fun (fu_6, y3_6, y41_6) => m_bind_Ident_l6 x25_4 y23_3 (fun y3_3 y23_3 => m_bind_Ident_l3 p0 fu_3 y3_3 y23_3) fu_6 y3_6 y41_6 = some r)
     (fun (fu_6, y3_6, y41_6) => fu_6) (1152921504606846976, r30_5, 0)
     (Weak.toK 3298549563400 0 0 [2]) hm ?_
   rintro ⟨fu_6, y3_6, y41_6⟩ n_6 hm ih_6
   try dsimp only at hm ih_6 ⊢
   cases fu_6 with
   | zero => exact absurd hm (by unfold m_bind_Ident_l6; simp)
   | succ fu_6 =>
    unfold m_bind_Ident_l6 at hm
    refine Sx <| Wz (.b (decide (y41_6 < 3))) (Obn rfl (fun _ => hb_lss (k := .i64))) <| Nk 7696596074504 1 ⟨tp 3 (.own 0::tp 17 (.l enc_GPair p0.Bound::.i ((List.length p0.Bound : Nat) : Int)::.i y23_3::tp 16 (.agg [(.i x25_4.E.Time), (.i x25_4.E.Source), (.i x25_4.E.Seq)]::.i y41_6::.b (decide (y41_6 < 3))::tp 8 []))), [(Ar 5 1 encU8 y3_6)], 0⟩ <| Sq ?_
    rcases tf_ (decide (y41_6 < 3)) with hc42_11 | hc42_11
    ·
     replace hm := cT hc42_11 hm
     refine AiT hc42_11 <| Sk <| Tk 3298549563400 1 ⟨tp 3 (.own 0::tp 17 (.l enc_GPair p0.Bound::.i ((List.length p0.Bound : Nat) : Int)::.i y23_3::tp 16 (.agg [(.i x25_4.E.Time), (.i x25_4.E.Source), (.i x25_4.E.Seq)]::.i y41_6::tp 9 []))), [(Ar 5 1 encU8 y3_6)], 0⟩ <| Sq <| Bk <| Sx ?_
     obtain ⟨x43_8, hx43_8, hm⟩ := bnd hm
     obtain ⟨hx43_8i, hx43_8g⟩ := geti_some hx43_8
     refine Wz (.i x43_8) (op_index_arr rfl (e := 3) (n := 3) (by kernel_rfl) (sz := 1) (by kernel_rfl) (xs := (flatD (encI .i64) ([x25_4.E.Time, x25_4.E.Source, x25_4.E.Seq] : List Int)).map A.d) (by kernel_rfl) (k := .i64) (iv := y41_6) (by kernel_rfl) (i := (Int.toNat y41_6)) (hx43_8i) (getlt hx43_8g) ((loadA_scalar (by kernel_rfl)).trans (flat_row_at (l := ([x25_4.E.Time, x25_4.E.Source, x25_4.E.Seq] : List Int)) (sz := 1) (encI_len (k := .i64)) (hx43_8g) (by kernel_rfl)))) <| Wm (.i x43_8) rfl <| Nk 3298549563528 1 ⟨tp 3 (.own 0::tp 3 (.i x43_8::tp 13 (.l enc_GPair p0.Bound::.i ((List.length p0.Bound : Nat) : Int)::.i y23_3::tp 16 (.agg [(.i x25_4.E.Time), (.i x25_4.E.Source), (.i x25_4.E.Seq)]::.i y41_6::tp 9 [])))), [(Ar 5 1 encU8 y3_6)], 0⟩ <| Tx <| Wm (.own 0) rfl <| Wm (.i x43_8) rfl ?_
     obtain ⟨r46_7, hr46_7, hm⟩ := bnd hm
     refine Wy (.own 1) [(1, (Ar 5 1 encU8 r46_7))] (Ocp [] [1] [0] 0 (ok_zig_PutInt y3_6 x43_8 r46_7 hr46_7) (⟨by simp [A.Plain, A.Plains, D.Plain, byteD], plain_cons (flat_plain encU8_plain) (plain_nil)⟩) (fun a w => Try.call53 a w) rfl trivial) <| Wm (.own 1) rfl <| Wn0 <| Ino <| Tk 3298549563400 2 ⟨tp 3 (.own 1::tp 17 (.l enc_GPair p0.Bound::.i ((List.length p0.Bound : Nat) : Int)::.i y23_3::tp 16 (.agg [(.i x25_4.E.Time), (.i x25_4.E.Source), (.i x25_4.E.Seq)]::.i y41_6::tp 9 []))), [.gone, (Ar 5 1 encU8 r46_7)], 0⟩ <| Tx <| Wz (.i (W6 (y41_6 + 1))) (Obn rfl (fun _ => hb_add (k := .i64))) <| Wm (.i (W6 (y41_6 + 1))) rfl <| Wn0 <| RoundK.normal ?_
     exact Rounds.weak (Weak.toK 3298549563400 0 0 [1]) (ih_6 (fu_6, r46_7, (W6 (y41_6 + 1))) hm (Nat.lt_succ_self _))
    ·
     replace hm := cF hc42_11 hm
     refine AiF hc42_11 <| AWP.exit <| Then.exit <| RoundK.exit <| InBlock.same <| Ino <| Tk 14680072 1 ⟨tp 3 (.own 0::tp 17 (.l enc_GPair p0.Bound::.i ((List.length p0.Bound : Nat) : Int)::.i y23_3::tp 27 [])), [(Ar 5 1 encU8 y3_6)], 0⟩ <| Tx <| Wz (.i (W6 (y23_3 + 1))) (Obn rfl (fun _ => hb_add (k := .i64))) <| Wm (.i (W6 (y23_3 + 1))) rfl <| Wn0 <| RoundK.normal ?_
     exact Rounds.weak (Weak.toK 14680072 0 0 [0]) (ih_3 (fu_3, y3_6, (W6 (y23_3 + 1))) hm (Nat.lt_succ_self _))
  ·
   replace hm := cF hc24_10 hm
   refine AiF hc24_10 <| AWP.exit <| Then.exit <| RoundK.exit <| InBlock.same <| Tk 8 1 ⟨tp 3 (.own 0::tp 47 []), [(Ar 5 1 encU8 y3_3)], 0⟩ <| Sx <| Wm (.own 0) rfl <| Wz (.s y3_3) (Ocs (by kernel_rfl) (op_str rfl (e := 5) (by kernel_rfl) (by kernel_rfl) (by kernel_rfl) (y := (.own 0)) (by kernel_rfl) (ds := flatD encU8 y3_3) (off := 0) (n := List.length y3_3) (by kernel_rfl) (l := y3_3) flatU8_take rfl)) <| Wm (.s y3_3) rfl <| Nn <| Rt ?_
   obtain rfl := Option.some.inj hm
   exact ret_i []

theorem ok_slices_Equal_Value (p0 : (List GValue)) (p1 : (List GValue)) (r : Bool) (h : m_slices_Equal_Value p0 p1 = some r) : GCall Try.prog 63 [(.l enc_GValue p0), (.l enc_GValue p1)] [] (.b r) [] := by
 refine GCall.of_body (n := 26) (rs := [(.tmp 4)]) Try.func63 rfl rfl rfl <| Ato ⟨.l enc_GValue p0::.l enc_GValue p1::tu 24 [], [], 0⟩ ?_
 have hm := h
 unfold m_slices_Equal_Value at hm
 refine Sx <| Wm (.b false) rfl <| Nk 3 0 ⟨.l enc_GValue p0::.l enc_GValue p1::tp 24 [], [], 0⟩ <| Sq <| Sx <| Wm (.l enc_GValue p0) rfl <| Wz (.i ((List.length p0 : Nat) : Int)) (Oln rfl) <| Wm (.l enc_GValue p1) rfl <| Wz (.i ((List.length p1 : Nat) : Int)) (Oln rfl) <| Wz (.b (decide (((List.length p0 : Nat) : Int) ≠ ((List.length p1 : Nat) : Int)))) (Obn rfl (fun _ => hb_neq (k := .i64))) <| Nk 1027 0 ⟨.l enc_GValue p0::.l enc_GValue p1::tp 8 (.b (decide (((List.length p0 : Nat) : Int) ≠ ((List.length p1 : Nat) : Int)))::tp 15 []), [], 0⟩ ?_
 rcases tf_ (decide (((List.length p0 : Nat) : Int) ≠ ((List.length p1 : Nat) : Int))) with hc10_4 | hc10_4
 ·
  replace hm := cT hc10_4 hm
  refine AiT hc10_4 <| Sx <| Wm (.b false) rfl <| Nn <| Rt <| Tr ?_
  obtain rfl := Option.some.inj hm
  exact ret_i []
 ·
  replace hm := cF hc10_4 hm
  refine AiF hc10_4 <| Sk <| Tk 3 0 ⟨.l enc_GValue p0::.l enc_GValue p1::tp 24 [], [], 0⟩ <| Sq <| Sx <| Wm (.l enc_GValue p0) rfl <| Wz (.i ((List.length p0 : Nat) : Int)) (Oln rfl) <| Wm (.i 0) rfl <| Nk 12291 0 ⟨.l enc_GValue p0::.l enc_GValue p1::tp 10 (.i ((List.length p0 : Nat) : Int)::.i 0::tp 12 []), [], 0⟩ <| Bk ?_
  refine AWP.loopI (α := Nat × Int)
    (fun (fu_2, y13_2) => (⟨.l enc_GValue p0::.l enc_GValue p1::tp 10 (.i ((List.length p0 : Nat) : Int)::.i y13_2::tp 12 []), [], 0⟩ : St))
    (fun (fu_2, y13_2) => m_slices_Equal_Value_l2 p0 p1 fu_2 y13_2 = some r)
    (fun (fu_2, y13_2) => fu_2) (1152921504606846976, 0)
    (Weak.toK 12291 0 0 []) hm ?_
  rintro ⟨fu_2, y13_2⟩ n_2 hm ih_2
  try dsimp only at hm ih_2 ⊢
  cases fu_2 with
  | zero => exact absurd hm (by unfold m_slices_Equal_Value_l2; simp)
  | succ fu_2 =>
   unfold m_slices_Equal_Value_l2 at hm
   refine Sx <| Wz (.b (decide (y13_2 < ((List.length p0 : Nat) : Int)))) (Obn rfl (fun _ => hb_lss (k := .i64))) <| Nk 28675 0 ⟨.l enc_GValue p0::.l enc_GValue p1::tp 10 (.i ((List.length p0 : Nat) : Int)::.i y13_2::.b (decide (y13_2 < ((List.length p0 : Nat) : Int)))::tp 11 []), [], 0⟩ <| Sq ?_
   rcases tf_ (decide (y13_2 < ((List.length p0 : Nat) : Int))) with hc14_5 | hc14_5
   ·
    replace hm := cT hc14_5 hm
    refine AiT hc14_5 <| Sk <| Tk 12291 0 ⟨.l enc_GValue p0::.l enc_GValue p1::tp 10 (.i ((List.length p0 : Nat) : Int)::.i y13_2::tp 12 []), [], 0⟩ <| Sq <| Bk <| Sx <| Wm (.i y13_2) rfl <| Wm (.i y13_2) rfl <| Nk 12323 0 ⟨.l enc_GValue p0::.l enc_GValue p1::tp 3 (.i y13_2::tp 6 (.i ((List.length p0 : Nat) : Int)::.i y13_2::tp 12 [])), [], 0⟩ <| Sq <| Adr <| Wm (.l enc_GValue p0) rfl <| Wm (.i y13_2) rfl ?_
    obtain ⟨x18_3, hx18_3, hm⟩ := bnd hm
    obtain ⟨hx18_3i, hx18_3g⟩ := geti_some hx18_3
    refine Wz (.d (.ref (List.drop ((Int.toNat y13_2) * 4) (flatD enc_GValue p0)))) (Oia rfl enc_GValue_len hx18_3i hx18_3g) <| Wz (.agg [(.y x18_3.Kind), (.i x18_3.N), (.u x18_3.Bits), (.s x18_3.Text)]) (Lf rfl enc_GValue_len hx18_3g) <| Wm (.l enc_GValue p1) rfl <| Wm (.i y13_2) rfl ?_
    obtain ⟨x22_3, hx22_3, hm⟩ := bnd hm
    obtain ⟨hx22_3i, hx22_3g⟩ := geti_some hx22_3
    refine Wz (.d (.ref (List.drop ((Int.toNat y13_2) * 4) (flatD enc_GValue p1)))) (Oia rfl enc_GValue_len hx22_3i hx22_3g) <| Wz (.agg [(.y x22_3.Kind), (.i x22_3.N), (.u x22_3.Bits), (.s x22_3.Text)]) (Lf rfl enc_GValue_len hx22_3g) ?_
    obtain ⟨v24_3, hv24_3, hm⟩ := bnd hm; replace hv24_3 := Option.some.inj hv24_3
    refine Wz (.b v24_3) (Ocs (Eq.trans (lit_tf (by simp only [toS_inj])) (congrArg (fun z => A.d (.lit (.bool z))) hv24_3)) (op_neq_struct rfl (la := [(.y x18_3.Kind), (.i x18_3.N), (.u x18_3.Bits), (.s x18_3.Text)]) (lb := [(.y x22_3.Kind), (.i x22_3.N), (.u x22_3.Bits), (.s x22_3.Text)]) (us := [.int .u8 ((x18_3.Kind.toNat : Nat) : Int), .int .i64 x18_3.N, .int .u64 x18_3.Bits, .string (toS x18_3.Text)]) (vs := [.int .u8 ((x22_3.Kind.toNat : Nat) : Int), .int .i64 x22_3.N, .int .u64 x22_3.Bits, .string (toS x22_3.Text)]) (r := (decide (((x18_3.Kind.toNat : Nat) : Int) = ((x22_3.Kind.toNat : Nat) : Int)) && (decide (x18_3.N = x22_3.N) && (decide (x18_3.Bits = x22_3.Bits) && (decide ((toS x18_3.Text) = (toS x22_3.Text)) && true))))) (by kernel_rfl) (by kernel_rfl) (by kernel_rfl) (by kernel_rfl) (by kernel_rfl))) <| Wdr <| Tk 16789507 0 ⟨.l enc_GValue p0::.l enc_GValue p1::tp 10 (.i ((List.length p0 : Nat) : Int)::.i y13_2::tp 10 (.b v24_3::tp 1 [])), [], 0⟩ ?_
    rcases tf_ v24_3 with hc24_6 | hc24_6
    ·
     replace hm := cT hc24_6 hm
     refine AiT hc24_6 <| Sx <| Wm (.b false) rfl <| Nn <| Rt <| Ir <| Tr <| RoundK.ret <| Ir <| Tr ?_
     obtain rfl := Option.some.inj hm
     exact ret_i []
    ·
     replace hm := cF hc24_6 hm
     refine AiF hc24_6 <| Sk <| Ino <| Tk 12291 0 ⟨.l enc_GValue p0::.l enc_GValue p1::tp 10 (.i ((List.length p0 : Nat) : Int)::.i y13_2::tp 12 []), [], 0⟩ <| Tx <| Wz (.i (W6 (y13_2 + 1))) (Obn rfl (fun _ => hb_add (k := .i64))) <| Wm (.i (W6 (y13_2 + 1))) rfl <| Wn0 <| RoundK.normal ?_
     exact Rounds.weak (Weak.toK 12291 0 0 []) (ih_2 (fu_2, (W6 (y13_2 + 1))) hm (Nat.lt_succ_self _))
   ·
    replace hm := cF hc14_5 hm
    refine AiF hc14_5 <| AWP.exit <| Then.exit <| RoundK.exit <| InBlock.same <| Tk 0 0 ⟨tp 26 [], [], 0⟩ <| Sx <| Wm (.b true) rfl <| Nn <| Rt ?_
    obtain rfl := Option.some.inj hm
    exact ret_i []

theorem ok_event_Same (p0 : GEvent) (p1 : GEvent) (r : Bool) (h : m_event_Same p0 p1 = some r) : GCall Try.prog 50 [(.agg [(.i p0.Time), (.i p0.Source), (.i p0.Seq), (.s p0.Type_), (.l enc_GValue p0.Vals)]), (.agg [(.i p1.Time), (.i p1.Source), (.i p1.Seq), (.s p1.Type_), (.l enc_GValue p1.Vals)])] [] (.b r) [] := by
 refine GCall.of_body (n := 24) (rs := [(.tmp 4)]) Try.func50 rfl rfl rfl <| Ato ⟨.agg [(.i p0.Time), (.i p0.Source), (.i p0.Seq), (.s p0.Type_), (.l enc_GValue p0.Vals)]::.agg [(.i p1.Time), (.i p1.Source), (.i p1.Seq), (.s p1.Type_), (.l enc_GValue p1.Vals)]::tu 22 [], [], 0⟩ ?_
 have hm := h
 unfold m_event_Same at hm
 refine Sx <| Wy (.loc 0 0) [(0, (.box [(.i p0.Time), (.i p0.Source), (.i p0.Seq), (.s p0.Type_), (.l enc_GValue p0.Vals)]))] (Obx rfl) <| Wy (.loc 1 0) [(1, (.box [(.i p1.Time), (.i p1.Source), (.i p1.Seq), (.s p1.Type_), (.l enc_GValue p1.Vals)]))] (Obx rfl) <| Wm (.b false) rfl <| Nk 12 3 ⟨tp 2 (.loc 0 0::.loc 1 0::tp 20 []), [(.box [(.i p0.Time), (.i p0.Source), (.i p0.Seq), (.s p0.Type_), (.l enc_GValue p0.Vals)]), (.box [(.i p1.Time), (.i p1.Source), (.i p1.Seq), (.s p1.Type_), (.l enc_GValue p1.Vals)])], 0⟩ <| Sq <| Adr <| Wz (.agg [(.i p0.Time), (.i p0.Source), (.i p0.Seq), (.s p0.Type_), (.l enc_GValue p0.Vals)]) (Old rfl) ?_
 obtain ⟨r6_0, hr6_0, hm⟩ := bnd hm
 refine Wz (.agg [(.i r6_0.Time), (.i r6_0.Source), (.i r6_0.Seq)]) (Ocf [] [] [] 0 (ok_event_Event_ID p0 r6_0 hr6_0) (fun a w => Try.call39 a w) rfl trivial) <| Wz (.agg [(.i p1.Time), (.i p1.Source), (.i p1.Seq), (.s p1.Type_), (.l enc_GValue p1.Vals)]) (Old rfl) ?_
 obtain ⟨r8_0, hr8_0, hm⟩ := bnd hm
 refine Wz (.agg [(.i r8_0.Time), (.i r8_0.Source), (.i r8_0.Seq)]) (Ocf [] [] [] 0 (ok_event_Event_ID p1 r8_0 hr8_0) (fun a w => Try.call39 a w) rfl trivial) ?_
 obtain ⟨v9_0, hv9_0, hm⟩ := bnd hm; replace hv9_0 := Option.some.inj hv9_0
 refine Wz (.b v9_0) (Ocs (Eq.trans (by kernel_rfl) (congrArg (fun z => A.d (.lit (.bool z))) hv9_0)) (op_eql_struct rfl (la := [(.i r6_0.Time), (.i r6_0.Source), (.i r6_0.Seq)]) (lb := [(.i r8_0.Time), (.i r8_0.Source), (.i r8_0.Seq)]) (us := [.int .i64 r6_0.Time, .int .i64 r6_0.Source, .int .i64 r6_0.Seq]) (vs := [.int .i64 r8_0.Time, .int .i64 r8_0.Source, .int .i64 r8_0.Seq]) (r := (decide (r6_0.Time = r8_0.Time) && (decide (r6_0.Source = r8_0.Source) && (decide (r6_0.Seq = r8_0.Seq) && true)))) (by kernel_rfl) (by kernel_rfl) (by kernel_rfl) (by kernel_rfl) (by kernel_rfl))) ?_
 rcases tf_ v9_0 with hq10_0 | hq10_0
 ·
  replace hm := cT hq10_0 hm
  refine Wz (.b true) (Oq hq10_0 rfl) <| Wz (.loc 0 3) (Ofa rfl) <| Wz (.s p0.Type_) (Old rfl) <| Wz (.loc 1 3) (Ofa rfl) <| Wz (.s p1.Type_) (Old rfl) <| Wz (.b (decide (p0.Type_ = p1.Type_))) (Ocs (lit_tf (by simp only [toS_inj, ne_eq])) (op_bin rfl (a1 := .string (toS p0.Type_)) (a2 := .string (toS p1.Type_)) (by kernel_rfl) (by kernel_rfl) (fun _ => hb_seql))) <| Wz (.b (decide (p0.Type_ = p1.Type_))) (OpT rfl) ?_
  rcases tf_ (decide (p0.Type_ = p1.Type_)) with hq17_0 | hq17_0
  ·
   replace hm := cT hq17_0 hm
   refine Wz (.b true) (Oq hq17_0 rfl) <| Wz (.loc 0 4) (Ofa rfl) <| Wz (.l enc_GValue p0.Vals) (Old rfl) <| Wz (.loc 1 4) (Ofa rfl) <| Wz (.l enc_GValue p1.Vals) (Old rfl) ?_
   obtain ⟨r22_0, hr22_0, hm⟩ := bnd hm
   refine Wz (.b r22_0) (Ocf [] [] [] 0 (ok_slices_Equal_Value p0.Vals p1.Vals r22_0 hr22_0) (fun a w => Try.call63 a w) rfl trivial) <| Wz (.b r22_0) (OpT rfl) <| Wm (.b r22_0) rfl <| Wdr <| Tn <| Rt ?_
   obtain rfl := Option.some.inj hm
   exact ret_i []
  ·
   replace hm := cF hq17_0 hm
   refine Wz (.b false) (Oq hq17_0 rfl) <| Wn <| Wn <| Wn <| Wn <| Wn <| Wz (.b false) (OpF rfl) <| Wm (.b false) rfl <| Wdr <| Tn <| Rt ?_
   obtain rfl := Option.some.inj hm
   exact ret_i []
 ·
  replace hm := cF hq10_0 hm
  refine Wz (.b false) (Oq hq10_0 rfl) <| Wn <| Wn <| Wn <| Wn <| Wn <| Wz (.b false) (OpF rfl) <| Wm (.b false) rfl <| Wn <| Wn <| Wn <| Wn <| Wn <| Wz (.b false) (OpF rfl) ?_
  refine Wm (.b false) rfl <| Wdr <| Tn <| Rt ?_
  obtain rfl := Option.some.inj hm
  exact ret_i []

theorem ok_bind_Same_1 (p0 : GPair) (p1 : GPair) (r : Bool) (h : m_bind_Same_1 p0 p1 = some r) : GCall Try.prog 49 [(.agg [(.s p0.Var), (.i p0.E.Time), (.i p0.E.Source), (.i p0.E.Seq), (.s p0.E.Type_), (.l enc_GValue p0.E.Vals)]), (.agg [(.s p1.Var), (.i p1.E.Time), (.i p1.E.Source), (.i p1.E.Seq), (.s p1.E.Type_), (.l enc_GValue p1.E.Vals)])] [] (.b r) [] := by
 refine GCall.of_body (n := 17) (rs := [(.tmp 4)]) Try.func49 rfl rfl rfl <| Ato ⟨.agg [(.s p0.Var), (.i p0.E.Time), (.i p0.E.Source), (.i p0.E.Seq), (.s p0.E.Type_), (.l enc_GValue p0.E.Vals)]::.agg [(.s p1.Var), (.i p1.E.Time), (.i p1.E.Source), (.i p1.E.Seq), (.s p1.E.Type_), (.l enc_GValue p1.E.Vals)]::tu 15 [], [], 0⟩ ?_
 have hm := h
 unfold m_bind_Same_1 at hm
 refine Sx <| Wy (.loc 0 0) [(0, (.box [(.s p0.Var), (.i p0.E.Time), (.i p0.E.Source), (.i p0.E.Seq), (.s p0.E.Type_), (.l enc_GValue p0.E.Vals)]))] (Obx rfl) <| Wy (.loc 1 0) [(1, (.box [(.s p1.Var), (.i p1.E.Time), (.i p1.E.Source), (.i p1.E.Seq), (.s p1.E.Type_), (.l enc_GValue p1.E.Vals)]))] (Obx rfl) <| Wm (.b false) rfl <| Nk 12 3 ⟨tp 2 (.loc 0 0::.loc 1 0::tp 13 []), [(.box [(.s p0.Var), (.i p0.E.Time), (.i p0.E.Source), (.i p0.E.Seq), (.s p0.E.Type_), (.l enc_GValue p0.E.Vals)]), (.box [(.s p1.Var), (.i p1.E.Time), (.i p1.E.Source), (.i p1.E.Seq), (.s p1.E.Type_), (.l enc_GValue p1.E.Vals)])], 0⟩ <| Sx <| Wz (.loc 0 0) (Ofa rfl) <| Wz (.s p0.Var) (Old rfl) <| Wz (.loc 1 0) (Ofa rfl) <| Wz (.s p1.Var) (Old rfl) <| Wz (.b (decide (p0.Var = p1.Var))) (Ocs (lit_tf (by simp only [toS_inj, ne_eq])) (op_bin rfl (a1 := .string (toS p0.Var)) (a2 := .string (toS p1.Var)) (by kernel_rfl) (by kernel_rfl) (fun _ => hb_seql))) ?_
 rcases tf_ (decide (p0.Var = p1.Var)) with hq10_0 | hq10_0
 ·
  replace hm := cT hq10_0 hm
  refine Wz (.b true) (Oq hq10_0 rfl) <| Wz (.loc 0 1) (Ofa rfl) <| Wz (.agg [(.i p0.E.Time), (.i p0.E.Source), (.i p0.E.Seq), (.s p0.E.Type_), (.l enc_GValue p0.E.Vals)]) (Old rfl) <| Wz (.loc 1 1) (Ofa rfl) <| Wz (.agg [(.i p1.E.Time), (.i p1.E.Source), (.i p1.E.Seq), (.s p1.E.Type_), (.l enc_GValue p1.E.Vals)]) (Old rfl) ?_
  obtain ⟨r15_0, hr15_0, hm⟩ := bnd hm
  refine Wz (.b r15_0) (Ocf [] [] [] 0 (ok_event_Same p0.E p1.E r15_0 hr15_0) (fun a w => Try.call50 a w) rfl trivial) <| Wz (.b r15_0) (OpT rfl) <| Wm (.b r15_0) rfl <| Nn <| Rt ?_
  obtain rfl := Option.some.inj hm
  exact ret_i []
 ·
  replace hm := cF hq10_0 hm
  refine Wz (.b false) (Oq hq10_0 rfl) <| Wn <| Wn <| Wn <| Wn <| Wn <| Wz (.b false) (OpF rfl) <| Wm (.b false) rfl <| Nn <| Rt ?_
  obtain rfl := Option.some.inj hm
  exact ret_i []

theorem ok_slices_EqualFunc_Pairbind_Pair_bind_Pair_bind_Pair__bind_Same_1 (p0 : (List GPair)) (p1 : (List GPair)) (r : Bool) (h : m_slices_EqualFunc_Pairbind_Pair_bind_Pair_bind_Pair__bind_Same_1 p0 p1 = some r) : GCall Try.prog 48 [(.l enc_GPair p0), (.l enc_GPair p1), (.clo (.func 49) [] [])] [] (.b r) [] := by
 refine GCall.of_body (n := 32) (rs := [(.tmp 6)]) Try.func48 rfl rfl rfl <| Ato ⟨.l enc_GPair p0::.l enc_GPair p1::.clo (.func 49) [] []::tu 29 [], [], 0⟩ ?_
 have hm := h
 unfold m_slices_EqualFunc_Pairbind_Pair_bind_Pair_bind_Pair__bind_Same_1 at hm
 refine Sx <| Wm (.b false) rfl <| Nk 7 0 ⟨.l enc_GPair p0::.l enc_GPair p1::.clo (.func 49) [] []::tp 29 [], [], 0⟩ <| Sq <| Sx <| Wm (.l enc_GPair p0) rfl <| Wz (.i ((List.length p0 : Nat) : Int)) (Oln rfl) <| Wm (.l enc_GPair p1) rfl <| Wz (.i ((List.length p1 : Nat) : Int)) (Oln rfl) <| Wz (.b (decide (((List.length p0 : Nat) : Int) ≠ ((List.length p1 : Nat) : Int)))) (Obn rfl (fun _ => hb_neq (k := .i64))) <| Nk 16391 0 ⟨.l enc_GPair p0::.l enc_GPair p1::.clo (.func 49) [] []::tp 11 (.b (decide (((List.length p0 : Nat) : Int) ≠ ((List.length p1 : Nat) : Int)))::tp 17 []), [], 0⟩ ?_
 rcases tf_ (decide (((List.length p0 : Nat) : Int) ≠ ((List.length p1 : Nat) : Int))) with hc14_6 | hc14_6
 ·
  replace hm := cT hc14_6 hm
  refine AiT hc14_6 <| Sx <| Wm (.b false) rfl <| Nn <| Rt <| Tr ?_
  obtain rfl := Option.some.inj hm
  exact ret_i []
 ·
  replace hm := cF hc14_6 hm
  refine AiF hc14_6 <| Sk <| Tk 7 0 ⟨.l enc_GPair p0::.l enc_GPair p1::.clo (.func 49) [] []::tp 29 [], [], 0⟩ <| Sq <| Sx <| Wm (.l enc_GPair p0) rfl <| Wz (.i ((List.length p0 : Nat) : Int)) (Oln rfl) <| Wm (.i 0) rfl <| Nk 229382 0 ⟨tp 1 (.l enc_GPair p1::.clo (.func 49) [] []::tp 12 (.l enc_GPair p0::.i ((List.length p0 : Nat) : Int)::.i 0::tp 14 [])), [], 0⟩ <| Bk ?_
  refine AWP.loopI (α := Nat × Int)
    (fun (fu_2, y17_2) => (⟨tp 1 (.l enc_GPair p1::.clo (.func 49) [] []::tp 12 (.l enc_GPair p0::.i ((List.length p0 : Nat) : Int)::.i y17_2::tp 14 [])), [], 0⟩ : St))
    (fun (fu_2, y17_2) => m_slices_EqualFunc_Pairbind_Pair_bind_Pair_bind_Pair__bind_Same_1_l2 p0 p1 fu_2 y17_2 = some r)
    (fun (fu_2, y17_2) => fu_2) (1152921504606846976, 0)
    (Weak.toK 229382 0 0 []) hm ?_
  rintro ⟨fu_2, y17_2⟩ n_2 hm ih_2
  try dsimp only at hm ih_2 ⊢
  cases fu_2 with
  | zero => exact absurd hm (by unfold m_slices_EqualFunc_Pairbind_Pair_bind_Pair_bind_Pair__bind_Same_1_l2; simp)
  | succ fu_2 =>
   unfold m_slices_EqualFunc_Pairbind_Pair_bind_Pair_bind_Pair__bind_Same_1_l2 at hm
   refine Sx <| Wz (.b (decide (y17_2 < ((List.length p0 : Nat) : Int)))) (Obn rfl (fun _ => hb_lss (k := .i64))) <| Nk 491526 0 ⟨tp 1 (.l enc_GPair p1::.clo (.func 49) [] []::tp 12 (.l enc_GPair p0::.i ((List.length p0 : Nat) : Int)::.i y17_2::.b (decide (y17_2 < ((List.length p0 : Nat) : Int)))::tp 13 [])), [], 0⟩ <| Sq ?_
   rcases tf_ (decide (y17_2 < ((List.length p0 : Nat) : Int))) with hc18_7 | hc18_7
   ·
    replace hm := cT hc18_7 hm
    refine AiT hc18_7 <| Sk <| Tk 229382 0 ⟨tp 1 (.l enc_GPair p1::.clo (.func 49) [] []::tp 12 (.l enc_GPair p0::.i ((List.length p0 : Nat) : Int)::.i y17_2::tp 14 [])), [], 0⟩ <| Sq <| Bk <| Sx <| Wm (.i y17_2) rfl ?_
    obtain ⟨x20_3, hx20_3, hm⟩ := bnd hm
    obtain ⟨hx20_3i, hx20_3g⟩ := geti_some hx20_3
    refine Wz (.d (.ref (List.drop ((Int.toNat y17_2) * 6) (flatD enc_GPair p0)))) (Oia rfl enc_GPair_len hx20_3i hx20_3g) <| Wz (.agg [(.s x20_3.Var), (.i x20_3.E.Time), (.i x20_3.E.Source), (.i x20_3.E.Seq), (.s x20_3.E.Type_), (.l enc_GValue x20_3.E.Vals)]) (Lf rfl enc_GPair_len hx20_3g) <| Wy (.loc 0 0) [(0, (.box [(.s ([] : List UInt8)), (.i 0), (.i 0), (.i 0), (.s ([] : List UInt8)), (.d .nil)]))] (Oal rfl) <| Wm (.i y17_2) rfl <| Wy (.tup []) [(0, (.box [(.s x20_3.Var), (.i x20_3.E.Time), (.i x20_3.E.Source), (.i x20_3.E.Seq), (.s x20_3.E.Type_), (.l enc_GValue x20_3.E.Vals)]))] (Ost rfl) <| Nk 229766 1 ⟨tp 1 (.l enc_GPair p1::.clo (.func 49) [] []::tp 4 (.i y17_2::.loc 0 0::tp 6 (.l enc_GPair p0::.i ((List.length p0 : Nat) : Int)::.i y17_2::tp 14 []))), [(.box [(.s x20_3.Var), (.i x20_3.E.Time), (.i x20_3.E.Source), (.i x20_3.E.Seq), (.s x20_3.E.Type_), (.l enc_GValue x20_3.E.Vals)])], 0⟩ <| Sx <| Wm (.l enc_GPair p1) rfl <| Wm (.i y17_2) rfl ?_
    obtain ⟨x24_4, hx24_4, hm⟩ := bnd hm
    obtain ⟨hx24_4i, hx24_4g⟩ := geti_some hx24_4
    refine Wz (.d (.ref (List.drop ((Int.toNat y17_2) * 6) (flatD enc_GPair p1)))) (Oia rfl enc_GPair_len hx24_4i hx24_4g) <| Wz (.agg [(.s x24_4.Var), (.i x24_4.E.Time), (.i x24_4.E.Source), (.i x24_4.E.Seq), (.s x24_4.E.Type_), (.l enc_GValue x24_4.E.Vals)]) (Lf rfl enc_GPair_len hx24_4g) <| Wy (.loc 1 0) [(1, (.box [(.s ([] : List UInt8)), (.i 0), (.i 0), (.i 0), (.s ([] : List UInt8)), (.d .nil)]))] (Oal rfl) <| Wy (.tup []) [(1, (.box [(.s x24_4.Var), (.i x24_4.E.Time), (.i x24_4.E.Source), (.i x24_4.E.Seq), (.s x24_4.E.Type_), (.l enc_GValue x24_4.E.Vals)]))] (Ost rfl) <| Nk 230150 3 ⟨tp 1 (.l enc_GPair p1::.clo (.func 49) [] []::tp 5 (.loc 0 0::.loc 1 0::tp 5 (.l enc_GPair p0::.i ((List.length p0 : Nat) : Int)::.i y17_2::tp 14 []))), [(.box [(.s x20_3.Var), (.i x20_3.E.Time), (.i x20_3.E.Source), (.i x20_3.E.Seq), (.s x20_3.E.Type_), (.l enc_GValue x20_3.E.Vals)]), (.box [(.s x24_4.Var), (.i x24_4.E.Time), (.i x24_4.E.Source), (.i x24_4.E.Seq), (.s x24_4.E.Type_), (.l enc_GValue x24_4.E.Vals)])], 0⟩ <| Sx <| Wm (.clo (.func 49) [] []) rfl <| Wz (.agg [(.s x20_3.Var), (.i x20_3.E.Time), (.i x20_3.E.Source), (.i x20_3.E.Seq), (.s x20_3.E.Type_), (.l enc_GValue x20_3.E.Vals)]) (Old rfl) <| Wz (.agg [(.s x24_4.Var), (.i x24_4.E.Time), (.i x24_4.E.Source), (.i x24_4.E.Seq), (.s x24_4.E.Type_), (.l enc_GValue x24_4.E.Vals)]) (Old rfl) ?_
    obtain ⟨r29_5, hr29_5, hm⟩ := bnd hm
    refine Wz (.b r29_5) (Ocf [] [] [] 0 (ok_bind_Same_1 x20_3 x24_4 r29_5 hr29_5) (fun a w => Try.call49 a w) rfl trivial) <| Wz (.b (!r29_5)) (Ocs (by kernel_rfl) (op_un rfl (a1 := .bool r29_5) (by kernel_rfl) (fun _ => hu_not))) <| Nk 1073971206 0 ⟨tp 1 (.l enc_GPair p1::.clo (.func 49) [] []::tp 12 (.l enc_GPair p0::.i ((List.length p0 : Nat) : Int)::.i y17_2::tp 12 (.b (!r29_5)::tp 1 []))), [.gone, .gone], 0⟩ ?_
    rcases tf_ (!r29_5) with hc30_8 | hc30_8
    ·
     replace hm := cT hc30_8 hm
     refine AiT hc30_8 <| Sx <| Wm (.b false) rfl <| Nn <| Rt <| Ir <| Tr <| RoundK.ret <| Ir <| Tr ?_
     obtain rfl := Option.some.inj hm
     exact ret_i []
    ·
     replace hm := cF hc30_8 hm
     refine AiF hc30_8 <| Sk <| Ino <| Tk 229382 0 ⟨tp 1 (.l enc_GPair p1::.clo (.func 49) [] []::tp 12 (.l enc_GPair p0::.i ((List.length p0 : Nat) : Int)::.i y17_2::tp 14 [])), [.gone, .gone], 0⟩ <| Tx <| Wz (.i (W6 (y17_2 + 1))) (Obn rfl (fun _ => hb_add (k := .i64))) <| Wm (.i (W6 (y17_2 + 1))) rfl <| Wn0 <| RoundK.normal ?_
     exact Rounds.weak (Weak.toK 229382 0 0 []) (ih_2 (fu_2, (W6 (y17_2 + 1))) hm (Nat.lt_succ_self _))
   ·
    replace hm := cF hc18_7 hm
    refine AiF hc18_7 <| AWP.exit <| Then.exit <| RoundK.exit <| InBlock.same <| Tk 0 0 ⟨tp 32 [], [], 0⟩ <| Sx <| Wm (.b true) rfl <| Nn <| Rt ?_
    obtain rfl := Option.some.inj hm
    exact ret_i []

theorem ok_bind_Same (p0 : GMatch) (p1 : GMatch) (r : Bool) (h : m_bind_Same p0 p1 = some r) : GCall Try.prog 28 [(.agg [(.i p0.Pattern), (.s p0.Key), (.l enc_GPair p0.Bound)]), (.agg [(.i p1.Pattern), (.s p1.Key), (.l enc_GPair p1.Bound)])] [] (.b r) [] := by
 refine GCall.of_body (n := 24) (rs := [(.tmp 4)]) Try.func28 rfl rfl rfl <| Ato ⟨.agg [(.i p0.Pattern), (.s p0.Key), (.l enc_GPair p0.Bound)]::.agg [(.i p1.Pattern), (.s p1.Key), (.l enc_GPair p1.Bound)]::tu 22 [], [], 0⟩ ?_
 have hm := h
 unfold m_bind_Same at hm
 refine Sx <| Wy (.loc 0 0) [(0, (.box [(.i p0.Pattern), (.s p0.Key), (.l enc_GPair p0.Bound)]))] (Obx rfl) <| Wy (.loc 1 0) [(1, (.box [(.i p1.Pattern), (.s p1.Key), (.l enc_GPair p1.Bound)]))] (Obx rfl) <| Wm (.b false) rfl <| Nk 12 3 ⟨tp 2 (.loc 0 0::.loc 1 0::tp 20 []), [(.box [(.i p0.Pattern), (.s p0.Key), (.l enc_GPair p0.Bound)]), (.box [(.i p1.Pattern), (.s p1.Key), (.l enc_GPair p1.Bound)])], 0⟩ <| Sx <| Wz (.loc 0 0) (Ofa rfl) <| Wz (.i p0.Pattern) (Old rfl) <| Wz (.loc 1 0) (Ofa rfl) <| Wz (.i p1.Pattern) (Old rfl) <| Wz (.b (decide (p0.Pattern = p1.Pattern))) (Obn rfl (fun _ => hb_eql (k := .i64))) ?_
 rcases tf_ (decide (p0.Pattern = p1.Pattern)) with hq10_0 | hq10_0
 ·
  replace hm := cT hq10_0 hm
  refine Wz (.b true) (Oq hq10_0 rfl) <| Wz (.loc 0 1) (Ofa rfl) <| Wz (.s p0.Key) (Old rfl) <| Wz (.loc 1 1) (Ofa rfl) <| Wz (.s p1.Key) (Old rfl) <| Wz (.b (decide (p0.Key = p1.Key))) (Ocs (lit_tf (by simp only [toS_inj, ne_eq])) (op_bin rfl (a1 := .string (toS p0.Key)) (a2 := .string (toS p1.Key)) (by kernel_rfl) (by kernel_rfl) (fun _ => hb_seql))) <| Wz (.b (decide (p0.Key = p1.Key))) (OpT rfl) ?_
  rcases tf_ (decide (p0.Key = p1.Key)) with hq17_0 | hq17_0
  ·
   replace hm := cT hq17_0 hm
   refine Wz (.b true) (Oq hq17_0 rfl) <| Wz (.loc 0 2) (Ofa rfl) <| Wz (.l enc_GPair p0.Bound) (Old rfl) <| Wz (.loc 1 2) (Ofa rfl) <| Wz (.l enc_GPair p1.Bound) (Old rfl) ?_
   obtain ⟨r22_0, hr22_0, hm⟩ := bnd hm
   refine Wz (.b r22_0) (Ocf [] [] [] 0 (ok_slices_EqualFunc_Pairbind_Pair_bind_Pair_bind_Pair__bind_Same_1 p0.Bound p1.Bound r22_0 hr22_0) (fun a w => Try.call48 a w) rfl trivial) <| Wz (.b r22_0) (OpT rfl) <| Wm (.b r22_0) rfl <| Nn <| Rt ?_
   obtain rfl := Option.some.inj hm
   exact ret_i []
  ·
   replace hm := cF hq17_0 hm
   refine Wz (.b false) (Oq hq17_0 rfl) <| Wn <| Wn <| Wn <| Wn <| Wn <| Wz (.b false) (OpF rfl) <| Wm (.b false) rfl <| Nn <| Rt ?_
   obtain rfl := Option.some.inj hm
   exact ret_i []
 ·
  replace hm := cF hq10_0 hm
  refine Wz (.b false) (Oq hq10_0 rfl) <| Wn <| Wn <| Wn <| Wn <| Wn <| Wz (.b false) (OpF rfl) <| Wm (.b false) rfl <| Wn <| Wn <| Wn <| Wn <| Wn <| Wz (.b false) (OpF rfl) ?_
  refine Wm (.b false) rfl <| Nn <| Rt ?_
  obtain rfl := Option.some.inj hm
  exact ret_i []

theorem ok_telltaleref02_Fold (p0 : Int) (r : Int) (h : m_telltaleref02_Fold p0 = some r) : GCall Try.prog 66 [(.i p0)] [] (.u r) [] := by
 refine GCall.of_body (n := 14) (rs := [(.tmp 2)]) Try.func66 rfl rfl rfl <| Ato ⟨.i p0::tu 13 [], [], 0⟩ ?_
 have hm := h
 unfold m_telltaleref02_Fold at hm
 refine Sx <| Wm (.u 0) rfl <| Nk 1 0 ⟨.i p0::tp 13 [], [], 0⟩ <| Sq <| Sx <| Wm (.i p0) rfl <| Wz (.b (decide (p0 < 0))) (Obn rfl (fun _ => hb_lss (k := .i64))) <| Nk 17 0 ⟨.i p0::tp 3 (.b (decide (p0 < 0))::tp 9 []), [], 0⟩ ?_
 rcases tf_ (decide (p0 < 0)) with hc4_2 | hc4_2
 ·
  replace hm := cT hc4_2 hm
  refine AiT hc4_2 <| Sx <| Wm (.i p0) rfl <| Wz (.i (W6 (p0 + 1))) (Obn rfl (fun _ => hb_add (k := .i64))) <| Wz (.i (W6 (0 - (W6 (p0 + 1))))) (Ocs (by kernel_rfl) (op_un rfl (a1 := .int .i64 (W6 (p0 + 1))) (by kernel_rfl) (fun _ => hu_neg))) <| Wz (.u (W7 (W6 (0 - (W6 (p0 + 1)))))) (Oc2 (.int .i64 (W6 (0 - (W6 (p0 + 1))))) rfl (run_conv (ds := .int .i64) (k' := .u64) (by kernel_rfl) (by kernel_rfl))) <| Wz (.u (W7 (2 * (W7 (W6 (0 - (W6 (p0 + 1)))))))) (Obn rfl (fun _ => hb_mul (k := .u64))) ?_
  obtain ⟨v10_0, hv10_0, hm⟩ := bnd hm; replace hv10_0 := Option.some.inj hv10_0
  refine Wz (.u v10_0) (Ocs (congrArg (fun z => A.d (.lit (.int .u64 z))) hv10_0) (Obn rfl (fun _ => hb_add (k := .u64)))) <| Wm (.u v10_0) rfl <| Nn <| Rt <| Tr ?_
  obtain rfl := Option.some.inj hm
  exact ret_i []
 ·
  replace hm := cF hc4_2 hm
  refine AiF hc4_2 <| Sk <| Tk 1 0 ⟨.i p0::tp 13 [], [], 0⟩ <| Sx <| Wm (.i p0) rfl <| Wz (.u (W7 p0)) (Oc2 (.int .i64 p0) rfl (run_conv (ds := .int .i64) (k' := .u64) (by kernel_rfl) (by kernel_rfl))) <| Wz (.u (W7 (2 * (W7 p0)))) (Obn rfl (fun _ => hb_mul (k := .u64))) <| Wm (.u (W7 (2 * (W7 p0)))) rfl <| Nn <| Rt ?_
  obtain rfl := Option.some.inj hm
  exact ret_i []

theorem ok_telltaleref02_sevens (p0 : Int) (r : (List Int)) (h : m_telltaleref02_sevens p0 = some r) : GCall Try.prog 67 [(.u p0)] [] (.own 0) [(.arr 3 1 (List.length r) (flatD (encI .i64) r))] := by
 refine GCall.of_body (n := 21) (rs := [(.tmp 2)]) Try.func67 rfl rfl rfl <| Ato ⟨.u p0::tu 20 [], [], 0⟩ ?_
 have hm := h
 unfold m_telltaleref02_sevens at hm
 refine Sx <| Wm (.d .nil) rfl <| Nk 1 0 ⟨.u p0::tp 20 [], [], 0⟩ <| Sx <| Wm (.u p0) rfl <| Wz (.u (Int.tmod p0 128)) (Ob2 (.int .u64 p0) (.int .u64 128) rfl (fun _ => hb_rem (by decide))) <| Wz (.i (W6 (Int.tmod p0 128))) (Oc2 (.int .u64 (Int.tmod p0 128)) rfl (run_conv (ds := .int .u64) (k' := .i64) (by kernel_rfl) (by kernel_rfl))) <| Wy (.own 0) [(0, (.arr 3 1 (List.length ([(W6 (Int.tmod p0 128))] : List Int)) (flatD (encI .i64) ([(W6 (Int.tmod p0 128))] : List Int))))] (Obs rfl) <| Wm (.own 0) rfl <| Nk 9 1 ⟨.u p0::tp 2 (.own 0::tp 17 []), [(.arr 3 1 (List.length ([(W6 (Int.tmod p0 128))] : List Int)) (flatD (encI .i64) ([(W6 (Int.tmod p0 128))] : List Int)))], 0⟩ <| Sx <| Wm (.u p0) rfl <| Wz (.u (W7 (Int.tdiv p0 128))) (Ob2 (.int .u64 p0) (.int .u64 128) rfl (fun _ => hb_quo (by decide))) <| Wm (.u (W7 (Int.tdiv p0 128))) rfl ?_
 refine Nk 9 1 ⟨.u (W7 (Int.tdiv p0 128))::tp 2 (.own 0::tp 17 []), [(.arr 3 1 (List.length ([(W6 (Int.tmod p0 128))] : List Int)) (flatD (encI .i64) ([(W6 (Int.tmod p0 128))] : List Int)))], 0⟩ <| Sq <| Bk ?_
 refine AWP.loopI (α := Nat × Int × (List Int))
   (fun (fu_1, y0_1, y3_1) => (⟨.u y0_1::tp 2 (.own 0::tp 17 []), [(.arr 3 1 (List.length y3_1) (flatD (encI .i64) y3_1))], 0⟩ : St))
   (fun (fu_1, y0_1, y3_1) => m_telltaleref02_sevens_l1  fu_1 y0_1 y3_1 = some r)
   (fun (fu_1, y0_1, y3_1) => fu_1) (1152921504606846976, (W7 (Int.tdiv p0 128)), ([(W6 (Int.tmod p0 128))] : List Int))
   (Weak.toK 9 0 0 [0]) hm ?_
 rintro ⟨fu_1, y0_1, y3_1⟩ n_1 hm ih_1
 try dsimp only at hm ih_1 ⊢
 cases fu_1 with
 | zero => exact absurd hm (by unfold m_telltaleref02_sevens_l1; simp)
 | succ fu_1 =>
  unfold m_telltaleref02_sevens_l1 at hm
  refine Sq <| Sx <| Wm (.u y0_1) rfl <| Wz (.b (decide ((0 : Int) < y0_1))) (Obn rfl (fun _ => hb_gtr (k := .u64))) <| Nk 2057 1 ⟨.u y0_1::tp 2 (.own 0::tp 7 (.b (decide ((0 : Int) < y0_1))::tp 9 [])), [(.arr 3 1 (List.length y3_1) (flatD (encI .i64) y3_1))], 0⟩ ?_
  rcases tf_ (decide ((0 : Int) < y0_1)) with hc11_3 | hc11_3
  ·
   replace hm := cT hc11_3 hm
   refine AiT hc11_3 <| Sk <| Tk 9 1 ⟨.u y0_1::tp 2 (.own 0::tp 17 []), [(.arr 3 1 (List.length y3_1) (flatD (encI .i64) y3_1))], 0⟩ <| Bk <| Sx <| Wm (.own 0) rfl <| Wm (.u y0_1) rfl <| Wz (.u (Int.tmod y0_1 128)) (Ob2 (.int .u64 y0_1) (.int .u64 128) rfl (fun _ => hb_rem (by decide))) <| Wz (.i (W6 (Int.tmod y0_1 128))) (Oc2 (.int .u64 (Int.tmod y0_1 128)) rfl (run_conv (ds := .int .u64) (k' := .i64) (by kernel_rfl) (by kernel_rfl))) <| Wy (.own 1) [(1, (.arr 3 1 (List.length ([(W6 (Int.tmod y0_1 128))] : List Int)) (flatD (encI .i64) ([(W6 (Int.tmod y0_1 128))] : List Int))))] (Obs rfl) ?_
   obtain ⟨a17_2, ha17_2, hm⟩ := bnd hm; obtain ⟨ha17_2e, ha17_2l⟩ := app_some ha17_2
   refine Wy (.own 2) [(0, .gone), (2, (.arr 3 1 (List.length a17_2) (flatD (encI .i64) a17_2)))] (Oap rfl elemOK_112 (encI_len (k := .i64)) ha17_2e ha17_2l) <| Wm (.own 2) rfl <| Nk 9 4 ⟨.u y0_1::tp 2 (.own 2::tp 17 []), [.gone, .gone, (.arr 3 1 (List.length a17_2) (flatD (encI .i64) a17_2))], 0⟩ <| Tx <| Wm (.u y0_1) rfl <| Wz (.u (W7 (Int.tdiv y0_1 128))) (Ob2 (.int .u64 y0_1) (.int .u64 128) rfl (fun _ => hb_quo (by decide))) <| Wm (.u (W7 (Int.tdiv y0_1 128))) rfl <| Wn0 <| Ino <| RoundK.normal ?_
   exact Rounds.weak (Weak.toK 9 0 0 [2]) (ih_1 (fu_1, (W7 (Int.tdiv y0_1 128)), a17_2) hm (Nat.lt_succ_self _))
  ·
   replace hm := cF hc11_3 hm
   refine AiF hc11_3 <| AWP.exit <| Then.exit <| RoundK.exit <| InBlock.same <| Tk 8 1 ⟨tp 3 (.own 0::tp 17 []), [(.arr 3 1 (List.length y3_1) (flatD (encI .i64) y3_1))], 0⟩ <| Sx <| Wm (.own 0) rfl <| Wm (.own 0) rfl <| Nn <| Rt ?_
   obtain rfl := Option.some.inj hm
   exact ret_i [0]

theorem ok_telltaleref02_Put (p0 : (List UInt8)) (p1 : Int) (r : (List UInt8)) (h : m_telltaleref02_Put p0 p1 = some r) : GCall Try.prog 57 [(.l encU8 p0), (.u p1)] [] (.own 0) [(Ar 5 1 encU8 r)] := by
 refine GCall.of_body (n := 42) (rs := [(.tmp 4)]) Try.func57 rfl rfl rfl <| Ato ⟨.l encU8 p0::.u p1::tu 40 [], [], 0⟩ ?_
 have hm := h
 unfold m_telltaleref02_Put at hm
 refine Sx <| Wm (.d .nil) rfl <| Nk 3 0 ⟨.l encU8 p0::.u p1::tp 40 [], [], 0⟩ <| Sx <| Wy (.own 0) [(0, (Ar 5 1 encU8 ([] : List UInt8)))] (Obs rfl) <| Wm (.l encU8 p0) rfl ?_
 obtain ⟨a10_0, ha10_0, hm⟩ := bnd hm; obtain ⟨ha10_0e, ha10_0l⟩ := app_some ha10_0
 refine Wy (.own 1) [(0, .gone), (1, (Ar 5 1 encU8 a10_0))] (Oap rfl elemOK_104 encU8_len ha10_0e ha10_0l) <| Wm (.own 1) rfl <| Nk 34 2 ⟨tp 1 (.u p1::tp 3 (.own 1::tp 36 [])), [.gone, (Ar 5 1 encU8 a10_0)], 0⟩ <| Sx <| Wm (.u p1) rfl ?_
 obtain ⟨r12_1, hr12_1, hm⟩ := bnd hm
 refine Wy (.own 2) [(2, (.arr 3 1 (List.length r12_1) (flatD (encI .i64) r12_1)))] (Ocf [] [2] [] 0 (ok_telltaleref02_sevens p1 r12_1 hr12_1) (fun a w => Try.call67 a w) rfl trivial) <| Wm (.own 2) rfl <| Nk 96 6 ⟨tp 5 (.own 1::.own 2::tp 35 []), [.gone, (Ar 5 1 encU8 a10_0), (.arr 3 1 (List.length r12_1) (flatD (encI .i64) r12_1))], 0⟩ <| Sq <| Sx <| Wm (.i 0) rfl <| Nk 224 6 ⟨tp 5 (.own 1::.own 2::.i 0::tp 34 []), [.gone, (Ar 5 1 encU8 a10_0), (.arr 3 1 (List.length r12_1) (flatD (encI .i64) r12_1))], 0⟩ <| Bk ?_
 refine AWP.loopI (α := Nat × (List UInt8) × Int)
   (fun (fu_2, y5_2, y7_2) => (⟨tp 5 (.own 0::.own 1::.i y7_2::tp 34 []), [(Ar 5 1 encU8 y5_2), (.arr 3 1 (List.length r12_1) (flatD (encI .i64) r12_1))], 0⟩ : St))
   (fun (fu_2, y5_2, y7_2) => m_telltaleref02_Put_l2 r12_1 fu_2 y5_2 y7_2 = some r)
   (fun (fu_2, y5_2, y7_2) => fu_2) (1152921504606846976, a10_0, 0)
   (Weak.toK 224 0 0 [1, 2]) hm ?_
 rintro ⟨fu_2, y5_2, y7_2⟩ n_2 hm ih_2
 try dsimp only at hm ih_2 ⊢
 cases fu_2 with
 | zero => exact absurd hm (by unfold m_telltaleref02_Put_l2; simp)
 | succ fu_2 =>
  unfold m_telltaleref02_Put_l2 at hm
  refine Sq <| Sx <| Wm (.i y7_2) rfl <| Wm (.own 1) rfl <| Wz (.i ((List.length r12_1 : Nat) : Int)) (Oln rfl) <| Wz (.b (decide (y7_2 < ((List.length r12_1 : Nat) : Int)))) (Obn rfl (fun _ => hb_lss (k := .i64))) <| Nk 65760 3 ⟨tp 5 (.own 0::.own 1::.i y7_2::tp 8 (.b (decide (y7_2 < ((List.length r12_1 : Nat) : Int)))::tp 25 [])), [(Ar 5 1 encU8 y5_2), (.arr 3 1 (List.length r12_1) (flatD (encI .i64) r12_1))], 0⟩ ?_
  rcases tf_ (decide (y7_2 < ((List.length r12_1 : Nat) : Int))) with hc16_7 | hc16_7
  ·
   replace hm := cT hc16_7 hm
   refine AiT hc16_7 <| Sk <| Tk 224 3 ⟨tp 5 (.own 0::.own 1::.i y7_2::tp 34 []), [(Ar 5 1 encU8 y5_2), (.arr 3 1 (List.length r12_1) (flatD (encI .i64) r12_1))], 0⟩ <| Sq <| Bk <| Sx <| Wm (.i y7_2) rfl <| Wm (.own 1) rfl <| Wz (.i ((List.length r12_1 : Nat) : Int)) (Oln rfl) <| Wz (.i (W6 (((List.length r12_1 : Nat) : Int) - 1))) (Obn rfl (fun _ => hb_sub (k := .i64))) <| Wz (.b (decide (y7_2 < (W6 (((List.length r12_1 : Nat) : Int) - 1))))) (Obn rfl (fun _ => hb_lss (k := .i64))) <| Nk 8388832 3 ⟨tp 5 (.own 0::.own 1::.i y7_2::tp 15 (.b (decide (y7_2 < (W6 (((List.length r12_1 : Nat) : Int) - 1))))::tp 18 [])), [(Ar 5 1 encU8 y5_2), (.arr 3 1 (List.length r12_1) (flatD (encI .i64) r12_1))], 0⟩ ?_
   rcases tf_ (decide (y7_2 < (W6 (((List.length r12_1 : Nat) : Int) - 1)))) with hc23_8 | hc23_8
   ·
    replace hm := cT hc23_8 hm
    refine AiT hc23_8 <| Tx <| Wm (.own 0) rfl <| Wm (.own 1) rfl <| Wm (.i y7_2) rfl ?_
    obtain ⟨x27_5, hx27_5, hm⟩ := bnd hm
    obtain ⟨hx27_5i, hx27_5g⟩ := geti_some hx27_5
    refine Wz (.loc 1 ((Int.toNat y7_2) * 1)) (Oia rfl (encI_len (k := .i64)) hx27_5i hx27_5g) <| Wz (.i x27_5) (Lr1 rfl (encI_len (k := .i64)) hx27_5g) <| Wz (.i (W6 (128 + x27_5))) (Obn rfl (fun _ => hb_add (k := .i64))) <| Wz (.y (toU8 (W6 (128 + x27_5)))) (Ocs (lit_int (u8w _)) (op_convert rfl (a1 := .int .i64 (W6 (128 + x27_5))) (by kernel_rfl) (run_conv (ds := .int .i64) (k' := .u8) (by kernel_rfl) (by kernel_rfl)))) <| Wy (.own 2) [(2, (Ar 5 1 encU8 ([(toU8 (W6 (128 + x27_5)))] : List UInt8)))] (Obs rfl) ?_
    obtain ⟨a32_5, ha32_5, hm⟩ := bnd hm; obtain ⟨ha32_5e, ha32_5l⟩ := app_some ha32_5
    refine Wy (.own 3) [(0, .gone), (3, (Ar 5 1 encU8 a32_5))] (Oap rfl elemOK_104 encU8_len ha32_5e ha32_5l) <| Wm (.own 3) rfl <| Wn0 <| Ino <| Tk 224 10 ⟨tp 5 (.own 3::.own 1::.i y7_2::tp 34 []), [.gone, (.arr 3 1 (List.length r12_1) (flatD (encI .i64) r12_1)), .gone, (Ar 5 1 encU8 a32_5)], 0⟩ <| Tx <| Wm (.i y7_2) rfl <| Wz (.i (W6 (y7_2 + 1))) (Obn rfl (fun _ => hb_add (k := .i64))) <| Wm (.i (W6 (y7_2 + 1))) rfl <| Wn0 <| RoundK.normal ?_
    exact Rounds.weak (Weak.toK 224 0 0 [3, 1]) (ih_2 (fu_2, a32_5, (W6 (y7_2 + 1))) hm (Nat.lt_succ_self _))
   ·
    replace hm := cF hc23_8 hm
    refine AiF hc23_8 <| Tx <| Wm (.own 0) rfl <| Wm (.own 1) rfl <| Wm (.i y7_2) rfl ?_
    obtain ⟨x36_6, hx36_6, hm⟩ := bnd hm
    obtain ⟨hx36_6i, hx36_6g⟩ := geti_some hx36_6
    refine Wz (.loc 1 ((Int.toNat y7_2) * 1)) (Oia rfl (encI_len (k := .i64)) hx36_6i hx36_6g) <| Wz (.i x36_6) (Lr1 rfl (encI_len (k := .i64)) hx36_6g) <| Wz (.y (toU8 x36_6)) (Ocs (lit_int (u8w _)) (op_convert rfl (a1 := .int .i64 x36_6) (by kernel_rfl) (run_conv (ds := .int .i64) (k' := .u8) (by kernel_rfl) (by kernel_rfl)))) <| Wy (.own 2) [(2, (Ar 5 1 encU8 ([(toU8 x36_6)] : List UInt8)))] (Obs rfl) ?_
    obtain ⟨a40_6, ha40_6, hm⟩ := bnd hm; obtain ⟨ha40_6e, ha40_6l⟩ := app_some ha40_6
    refine Wy (.own 3) [(0, .gone), (3, (Ar 5 1 encU8 a40_6))] (Oap rfl elemOK_104 encU8_len ha40_6e ha40_6l) <| Wm (.own 3) rfl <| Wn0 <| Ino <| Tk 224 10 ⟨tp 5 (.own 3::.own 1::.i y7_2::tp 34 []), [.gone, (.arr 3 1 (List.length r12_1) (flatD (encI .i64) r12_1)), .gone, (Ar 5 1 encU8 a40_6)], 0⟩ <| Tx <| Wm (.i y7_2) rfl <| Wz (.i (W6 (y7_2 + 1))) (Obn rfl (fun _ => hb_add (k := .i64))) <| Wm (.i (W6 (y7_2 + 1))) rfl <| Wn0 <| RoundK.normal ?_
    exact Rounds.weak (Weak.toK 224 0 0 [3, 1]) (ih_2 (fu_2, a40_6, (W6 (y7_2 + 1))) hm (Nat.lt_succ_self _))
  ·
   replace hm := cF hc16_7 hm
   refine AiF hc16_7 <| AWP.exit <| Then.exit <| RoundK.exit <| InBlock.same <| Tk 32 1 ⟨tp 5 (.own 0::tp 36 []), [(Ar 5 1 encU8 y5_2), .gone], 0⟩ <| Sx <| Wm (.own 0) rfl <| Wm (.own 0) rfl <| Nn <| Rt ?_
   obtain rfl := Option.some.inj hm
   exact ret_i [0]

theorem ok_telltaleref19_number (p0 : (List UInt8)) (p1 : Int) (r : (List UInt8)) (h : m_telltaleref19_number p0 p1 = some r) : GCall Try.prog 56 [(.l encU8 p0), (.i p1)] [] (.own 0) [(Ar 5 1 encU8 r)] := by
 refine GCall.of_body (n := 9) (rs := [(.tmp 4)]) Try.func56 rfl rfl rfl <| Ato ⟨.l encU8 p0::.i p1::tu 7 [], [], 0⟩ ?_
 have hm := h
 unfold m_telltaleref19_number at hm
 refine Sx <| Wm (.d .nil) rfl <| Nk 3 0 ⟨.l encU8 p0::.i p1::tp 7 [], [], 0⟩ <| Sx <| Wm (.l encU8 p0) rfl <| Wm (.i p1) rfl ?_
 obtain ⟨r7_0, hr7_0, hm⟩ := bnd hm
 refine Wz (.u r7_0) (Ocf [] [] [] 0 (ok_telltaleref02_Fold p1 r7_0 hr7_0) (fun a w => Try.call66 a w) rfl trivial) ?_
 obtain ⟨r8_0, hr8_0, hm⟩ := bnd hm
 refine Wy (.own 0) [(0, (Ar 5 1 encU8 r8_0))] (Ocf [] [0] [] 0 (ok_telltaleref02_Put p0 r7_0 r8_0 hr8_0) (fun a w => Try.call57 a w) rfl trivial) <| Wm (.own 0) rfl <| Nn <| Rt ?_
 obtain rfl := Option.some.inj hm
 exact ret_i [0]

theorem ok_telltaleref19_text (p0 : (List UInt8)) (p1 : (List UInt8)) (r : (List UInt8)) (h : m_telltaleref19_text p0 p1 = some r) : GCall Try.prog 55 [(.l encU8 p0), (.s p1)] [] (.own 0) [(Ar 5 1 encU8 r)] := by
 refine GCall.of_body (n := 12) (rs := [(.tmp 4)]) Try.func55 rfl rfl rfl <| Ato ⟨.l encU8 p0::.s p1::tu 10 [], [], 0⟩ ?_
 have hm := h
 unfold m_telltaleref19_text at hm
 refine Sx <| Wm (.d .nil) rfl <| Nk 3 0 ⟨.l encU8 p0::.s p1::tp 10 [], [], 0⟩ <| Sx <| Wm (.l encU8 p0) rfl <| Wm (.s p1) rfl <| Wz (.i ((List.length p1 : Nat) : Int)) (Oln rfl) <| Wz (.u (W7 ((List.length p1 : Nat) : Int))) (Oc2 (.int .i64 ((List.length p1 : Nat) : Int)) rfl (run_conv (ds := .int .i64) (k' := .u64) (by kernel_rfl) (by kernel_rfl))) ?_
 obtain ⟨r9_0, hr9_0, hm⟩ := bnd hm
 refine Wy (.own 0) [(0, (Ar 5 1 encU8 r9_0))] (Ocf [] [0] [] 0 (ok_telltaleref02_Put p0 (W7 ((List.length p1 : Nat) : Int)) r9_0 hr9_0) (fun a w => Try.call57 a w) rfl trivial) <| Wm (.s p1) rfl ?_
 obtain ⟨a11_0, ha11_0, hm⟩ := bnd hm; obtain ⟨ha11_0e, ha11_0l⟩ := app_some ha11_0
 refine Wy (.own 1) [(0, .gone), (1, (Ar 5 1 encU8 a11_0))] (OcB (op_appendStr rfl elemOK_104 (by kernel_rfl) (id := 0) (by kernel_rfl) (n := List.length r9_0) (xs := flatD encU8 r9_0) (by kernel_rfl) (str := toS p1) (by kernel_rfl) (app_str ha11_0l) (by kernel_rfl) (by decide)) (bl_app (by rw [ha11_0e, List.length_append]; rfl) (by rw [ha11_0e, flatD_append, flatU8 p1]; rfl))) <| Wm (.own 1) rfl <| Nn <| Rt ?_
 obtain rfl := Option.some.inj hm
 exact ret_i [1]

theorem ok_telltaleref19_Ident (p0 : GMatch) (r : (List UInt8)) (h : m_telltaleref19_Ident p0 = some r) : GCall Try.prog 33 [(.agg [(.i p0.Pattern), (.s p0.Key), (.l enc_GPair p0.Bound)])] [] (.s r) [] := by
 refine GCall.of_body (n := 50) (rs := [(.tmp 2)]) Try.func33 rfl rfl rfl <| Ato ⟨.agg [(.i p0.Pattern), (.s p0.Key), (.l enc_GPair p0.Bound)]::tu 49 [], [], 0⟩ ?_
 have hm := h
 unfold m_telltaleref19_Ident at hm
 refine Sx <| Wy (.loc 0 0) [(0, (.box [(.i p0.Pattern), (.s p0.Key), (.l enc_GPair p0.Bound)]))] (Obx rfl) <| Wm (.s ([] : List UInt8)) rfl <| Nk 2 1 ⟨tp 1 (.loc 0 0::tp 48 []), [(.box [(.i p0.Pattern), (.s p0.Key), (.l enc_GPair p0.Bound)])], 0⟩ <| Sq <| Adr <| Wz (.loc 0 0) (Ofa rfl) <| Wz (.i p0.Pattern) (Old rfl) ?_
 obtain ⟨r8_0, hr8_0, hm⟩ := bnd hm
 refine Wy (.own 1) [(1, (Ar 5 1 encU8 r8_0))] (Ocf [] [1] [] 0 (ok_telltaleref19_number ([] : List UInt8) p0.Pattern r8_0 hr8_0) (fun a w => Try.call56 a w) rfl trivial) <| Wz (.loc 0 1) (Ofa rfl) <| Wz (.s p0.Key) (Old rfl) ?_
 obtain ⟨r11_0, hr11_0, hm⟩ := bnd hm
 refine Wy (.own 2) [(2, (Ar 5 1 encU8 r11_0))] (Ocp [] [2] [1] 0 (ok_telltaleref19_text r8_0 p0.Key r11_0 hr11_0) (⟨by simp [A.Plain, A.Plains, D.Plain, byteD], plain_cons (flat_plain encU8_plain) (plain_nil)⟩) (fun a w => Try.call55 a w) rfl trivial) <| Wm (.own 2) rfl <| Wdr <| Tk 10 5 ⟨tp 1 (.loc 0 0::tp 1 (.own 2::tp 46 [])), [(.box [(.i p0.Pattern), (.s p0.Key), (.l enc_GPair p0.Bound)]), .gone, (Ar 5 1 encU8 r11_0)], 0⟩ <| Sx <| Wm (.own 2) rfl <| Wz (.loc 0 2) (Ofa rfl) <| Wz (.l enc_GPair p0.Bound) (Old rfl) <| Wz (.i ((List.length p0.Bound : Nat) : Int)) (Oln rfl) <| Wz (.u (W7 ((List.length p0.Bound : Nat) : Int))) (Oc2 (.int .i64 ((List.length p0.Bound : Nat) : Int)) rfl (run_conv (ds := .int .i64) (k' := .u64) (by kernel_rfl) (by kernel_rfl))) ?_
 obtain ⟨r17_1, hr17_1, hm⟩ := bnd hm
 refine Wy (.own 3) [(3, (Ar 5 1 encU8 r17_1))] (Ocp [] [3] [2] 0 (ok_telltaleref02_Put r11_0 (IntKind.u64.wrap ((List.length p0.Bound : Nat) : Int)) r17_1 hr17_1) (⟨by simp [A.Plain, A.Plains, D.Plain, byteD], plain_cons (flat_plain encU8_plain) (plain_nil)⟩) (fun a w => Try.call57 a w) rfl trivial) <| Wm (.own 3) rfl <| Nk 10 9 ⟨tp 1 (.loc 0 0::tp 1 (.own 3::tp 46 [])), [(.box [(.i p0.Pattern), (.s p0.Key), (.l enc_GPair p0.Bound)]), .gone, .gone, (Ar 5 1 encU8 r17_1)], 0⟩ <| Sq <| Sx <| Wm (.i 0) rfl <| Nk 26 9 ⟨tp 1 (.loc 0 0::tp 1 (.own 3::.i 0::tp 45 [])), [(.box [(.i p0.Pattern), (.s p0.Key), (.l enc_GPair p0.Bound)]), .gone, .gone, (Ar 5 1 encU8 r17_1)], 0⟩ <| Bk ?_
 refine AWP.loopI (α := Nat × (List UInt8) × Int)
   (fun (fu_2, y3_2, y4_2) => (⟨tp 1 (.loc 0 0::tp 1 (.own 1::.i y4_2::tp 45 [])), [(.box [(.i p0.Pattern), (.s p0.Key), (.l enc_GPair p0.Bound)]), (Ar 5 1 encU8 y3_2)], 0⟩ : St))
   (fun (fu_2, y3_2, y4_2) => m_telltaleref19_Ident_l2 p0 fu_2 y3_2 y4_2 = some r)
   (fun (fu_2, y3_2, y4_2) => fu_2) (1152921504606846976, r17_1, 0)
   (Weak.toK 26 0 0 [0, 3]) hm ?_
 rintro ⟨fu_2, y3_2, y4_2⟩ n_2 hm ih_2
 try dsimp only at hm ih_2 ⊢
 cases fu_2 with
 | zero => exact absurd hm (by unfold m_telltaleref19_Ident_l2; simp)
 | succ fu_2 =>
  unfold m_telltaleref19_Ident_l2 at hm
  refine Sq <| Sx <| Wm (.i y4_2) rfl <| Wz (.loc 0 2) (Ofa rfl) <| Wz (.l enc_GPair p0.Bound) (Old rfl) <| Wz (.i ((List.length p0.Bound : Nat) : Int)) (Oln rfl) <| Wz (.b (decide (y4_2 < ((List.length p0.Bound : Nat) : Int)))) (Obn rfl (fun _ => hb_lss (k := .i64))) <| Nk 4194330 3 ⟨tp 1 (.loc 0 0::tp 1 (.own 1::.i y4_2::tp 17 (.b (decide (y4_2 < ((List.length p0.Bound : Nat) : Int)))::tp 27 []))), [(.box [(.i p0.Pattern), (.s p0.Key), (.l enc_GPair p0.Bound)]), (Ar 5 1 encU8 y3_2)], 0⟩ ?_
  rcases tf_ (decide (y4_2 < ((List.length p0.Bound : Nat) : Int))) with hc22_7 | hc22_7
  ·
   replace hm := cT hc22_7 hm
   refine AiT hc22_7 <| Sk <| Tk 26 3 ⟨tp 1 (.loc 0 0::tp 1 (.own 1::.i y4_2::tp 45 [])), [(.box [(.i p0.Pattern), (.s p0.Key), (.l enc_GPair p0.Bound)]), (Ar 5 1 encU8 y3_2)], 0⟩ <| Sq <| Bk <| Sx <| Wz (.loc 0 2) (Ofa rfl) <| Wz (.l enc_GPair p0.Bound) (Old rfl) <| Wm (.i y4_2) rfl ?_
   obtain ⟨x28_4, hx28_4, hm⟩ := bnd hm
   obtain ⟨hx28_4i, hx28_4g⟩ := geti_some hx28_4
   refine Wz (.d (.ref (List.drop ((Int.toNat y4_2) * 6) (flatD enc_GPair p0.Bound)))) (Oia rfl enc_GPair_len hx28_4i hx28_4g) <| Wz (.d (.ref (List.drop 1 (List.drop ((Int.toNat y4_2) * 6) (flatD enc_GPair p0.Bound))))) (Ofa rfl) <| Wz (.agg [(.i x28_4.E.Time), (.i x28_4.E.Source), (.i x28_4.E.Seq), (.s x28_4.E.Type_), (.l enc_GValue x28_4.E.Vals)]) (Lfk 1 rfl enc_GPair_len hx28_4g) <| Wy (.loc 2 0) [(2, (.box [(.i 0), (.i 0), (.i 0), (.s ([] : List UInt8)), (.d .nil)]))] (Oal rfl) <| Wy (.tup []) [(2, (.box [(.i x28_4.E.Time), (.i x28_4.E.Source), (.i x28_4.E.Seq), (.s x28_4.E.Type_), (.l enc_GValue x28_4.E.Vals)]))] (Ost rfl) <| Nk 58 7 ⟨tp 1 (.loc 0 0::tp 1 (.own 1::.i y4_2::.loc 2 0::tp 44 [])), [(.box [(.i p0.Pattern), (.s p0.Key), (.l enc_GPair p0.Bound)]), (Ar 5 1 encU8 y3_2), (.box [(.i x28_4.E.Time), (.i x28_4.E.Source), (.i x28_4.E.Seq), (.s x28_4.E.Type_), (.l enc_GValue x28_4.E.Vals)])], 0⟩ <| Adr <| Wm (.own 1) rfl <| Wz (.loc 0 2) (Ofa rfl) <| Wz (.l enc_GPair p0.Bound) (Old rfl) <| Wm (.i y4_2) rfl ?_
   obtain ⟨x35_5, hx35_5, hm⟩ := bnd hm
   obtain ⟨hx35_5i, hx35_5g⟩ := geti_some hx35_5
   refine Wz (.d (.ref (List.drop ((Int.toNat y4_2) * 6) (flatD enc_GPair p0.Bound)))) (Oia rfl enc_GPair_len hx35_5i hx35_5g) <| Wz (.d (.ref (List.drop ((Int.toNat y4_2) * 6) (flatD enc_GPair p0.Bound)))) (Ofa rfl) <| Wz (.s x35_5.Var) (Lf1 rfl enc_GPair_len hx35_5g) ?_
   obtain ⟨r38_5, hr38_5, hm⟩ := bnd hm
   refine Wy (.own 3) [(3, (Ar 5 1 encU8 r38_5))] (Ocp [] [3] [1] 0 (ok_telltaleref19_text y3_2 x35_5.Var r38_5 hr38_5) (⟨by simp [A.Plain, A.Plains, D.Plain, byteD], plain_cons (flat_plain encU8_plain) (plain_nil)⟩) (fun a w => Try.call55 a w) rfl trivial) <| Wz (.loc 2 0) (Ofa rfl) <| Wz (.i x28_4.E.Time) (Old rfl) ?_
   obtain ⟨r41_5, hr41_5, hm⟩ := bnd hm
   refine Wy (.own 4) [(4, (Ar 5 1 encU8 r41_5))] (Ocp [] [4] [3] 0 (ok_telltaleref19_number r38_5 x28_4.E.Time r41_5 hr41_5) (⟨by simp [A.Plain, A.Plains, D.Plain, byteD], plain_cons (flat_plain encU8_plain) (plain_nil)⟩) (fun a w => Try.call56 a w) rfl trivial) <| Wz (.loc 2 1) (Ofa rfl) <| Wz (.i x28_4.E.Source) (Old rfl) ?_
   obtain ⟨r44_5, hr44_5, hm⟩ := bnd hm
   refine Wy (.own 5) [(5, (Ar 5 1 encU8 r44_5))] (Ocp [] [5] [4] 0 (ok_telltaleref19_number r41_5 x28_4.E.Source r44_5 hr44_5) (⟨by simp [A.Plain, A.Plains, D.Plain, byteD], plain_cons (flat_plain encU8_plain) (plain_nil)⟩) (fun a w => Try.call56 a w) rfl trivial) <| Wz (.loc 2 2) (Ofa rfl) <| Wz (.i x28_4.E.Seq) (Old rfl) ?_
   obtain ⟨r47_5, hr47_5, hm⟩ := bnd hm
   refine Wy (.own 6) [(6, (Ar 5 1 encU8 r47_5))] (Ocp [] [6] [5] 0 (ok_telltaleref19_number r44_5 x28_4.E.Seq r47_5 hr47_5) (⟨by simp [A.Plain, A.Plains, D.Plain, byteD], plain_cons (flat_plain encU8_plain) (plain_nil)⟩) (fun a w => Try.call56 a w) rfl trivial) <| Wm (.own 6) rfl <| Wdr <| Ino <| Tk 26 65 ⟨tp 1 (.loc 0 0::tp 1 (.own 6::.i y4_2::tp 45 [])), [(.box [(.i p0.Pattern), (.s p0.Key), (.l enc_GPair p0.Bound)]), .gone, .gone, .gone, .gone, .gone, (Ar 5 1 encU8 r47_5)], 0⟩ <| Tx <| Wm (.i y4_2) rfl <| Wz (.i (W6 (y4_2 + 1))) (Obn rfl (fun _ => hb_add (k := .i64))) <| Wm (.i (W6 (y4_2 + 1))) rfl <| Wn0 <| RoundK.normal ?_
   exact Rounds.weak (Weak.toK 26 0 0 [0, 6]) (ih_2 (fu_2, r47_5, (W6 (y4_2 + 1))) hm (Nat.lt_succ_self _))
  ·
   replace hm := cF hc22_7 hm
   refine AiF hc22_7 <| AWP.exit <| Then.exit <| RoundK.exit <| InBlock.same <| Tk 8 2 ⟨tp 3 (.own 1::tp 46 []), [.gone, (Ar 5 1 encU8 y3_2)], 0⟩ <| Sx <| Wm (.own 1) rfl <| Wz (.s y3_2) (Ocs (by kernel_rfl) (op_str rfl (e := 5) (by kernel_rfl) (by kernel_rfl) (by kernel_rfl) (y := (.own 1)) (by kernel_rfl) (ds := flatD encU8 y3_2) (off := 0) (n := List.length y3_2) (by kernel_rfl) (l := y3_2) flatU8_take rfl)) <| Wm (.s y3_2) rfl <| Nn <| Rt ?_
   obtain rfl := Option.some.inj hm
   exact ret_i []

theorem ok_telltalelaw19_awake (r : Bool) (h : m_telltalelaw19_awake = some r) : GCall Try.prog 8 [] [] (.b r) [] := by
 refine GCall.of_body (n := 112) (rs := [(.tmp 0)]) Try.func8 rfl rfl rfl <| Ato ⟨tu 112 [], [], 0⟩ ?_
 have hm := h
 unfold m_telltalelaw19_awake at hm
 refine Sx <| Wm (.b false) rfl <| Nk 0 0 ⟨tp 112 [], [], 0⟩ <| Sx <| Wz (.agg [(.i 1), (.i 0), (.i 0), (.s ([] : List UInt8)), (.d .nil)]) (Obd rfl) ?_
 obtain ⟨r13_0, hr13_0, hm⟩ := bnd hm
 refine Wy (.own 0) [(0, (Ar 45 6 enc_GPair r13_0))] (Ocf [] [0] [] 0 (ok_bind_Add ([] : List GPair) ([120] : List UInt8) (GEvent.mk 1 0 0 ([] : List UInt8) ([] : List GValue)) r13_0 hr13_0) (fun a w => Try.call12 a w) rfl trivial) <| Wz (.agg [(.i 2), (.i 0), (.i 0), (.s ([] : List UInt8)), (.d .nil)]) (Obd rfl) ?_
 obtain ⟨r15_0, hr15_0, hm⟩ := bnd hm
 refine Wy (.own 1) [(1, (Ar 45 6 enc_GPair r15_0)), (0, (.fro 45 6 (List.length r13_0) (flatD enc_GPair r13_0)))] (Ocf [] [1] [0] 0 (ok_bind_Add r13_0 ([121] : List UInt8) (GEvent.mk 2 0 0 ([] : List UInt8) ([] : List GValue)) r15_0 hr15_0) (fun a w => Try.call12 a w) rfl trivial) <| Wz (.agg [(.i 5), (.i 0), (.i 0), (.s ([] : List UInt8)), (.d .nil)]) (Obd rfl) ?_
 obtain ⟨r17_0, hr17_0, hm⟩ := bnd hm
 refine Wy (.own 2) [(2, (Ar 45 6 enc_GPair r17_0)), (1, (.fro 45 6 (List.length r15_0) (flatD enc_GPair r15_0)))] (Ocf [] [2] [1] 0 (ok_bind_Add r15_0 ([120] : List UInt8) (GEvent.mk 5 0 0 ([] : List UInt8) ([] : List GValue)) r17_0 hr17_0) (fun a w => Try.call12 a w) rfl trivial) <| Wm (.own 2) rfl <| Nk 2 4 ⟨tp 1 (.own 2::tp 110 []), [.gone, .gone, (Ar 45 6 enc_GPair r17_0)], 0⟩ <| Sx <| Wm (.own 2) rfl ?_
 obtain ⟨r20_1, hr20_1, hm⟩ := bnd hm
 refine Wy (.tup [(.agg [(.i r20_1.1.Time), (.i r20_1.1.Source), (.i r20_1.1.Seq), (.s r20_1.1.Type_), (.l enc_GValue r20_1.1.Vals)]), (.b r20_1.2)]) [(2, (.fro 45 6 (List.length r17_0) (flatD enc_GPair r17_0)))] (Ocf [] [] [2] 0 (ok_bind_Last r17_0 ([120] : List UInt8) r20_1 hr20_1) (fun a w => Try.call10 a w) rfl trivial) <| Wm (.tup [(.agg [(.i r20_1.1.Time), (.i r20_1.1.Source), (.i r20_1.1.Seq), (.s r20_1.1.Type_), (.l enc_GValue r20_1.1.Vals)]), (.b r20_1.2)]) rfl <| Wz (.agg [(.i r20_1.1.Time), (.i r20_1.1.Source), (.i r20_1.1.Seq), (.s r20_1.1.Type_), (.l enc_GValue r20_1.1.Vals)]) (Oex rfl) <| Wz (.b r20_1.2) (Oex rfl) <| Wy (.loc 3 0) [(3, (.box [(.i 0), (.i 0), (.i 0), (.s ([] : List UInt8)), (.d .nil)]))] (Oal rfl) <| Wy (.tup []) [(3, (.box [(.i r20_1.1.Time), (.i r20_1.1.Source), (.i r20_1.1.Seq), (.s r20_1.1.Type_), (.l enc_GValue r20_1.1.Vals)]))] (Ost rfl) <| Wm (.b r20_1.2) rfl <| Nk 14 12 ⟨tp 1 (.own 2::.loc 3 0::.b r20_1.2::tp 108 []), [.gone, .gone, (.fro 45 6 (List.length r17_0) (flatD enc_GPair r17_0)), (.box [(.i r20_1.1.Time), (.i r20_1.1.Source), (.i r20_1.1.Seq), (.s r20_1.1.Type_), (.l enc_GValue r20_1.1.Vals)])], 0⟩ <| Sx <| Wm (.own 2) rfl ?_
 obtain ⟨r25_2, hr25_2, hm⟩ := bnd hm
 refine Wz (.tup [(.i r25_2.1), (.i r25_2.2.1), (.b r25_2.2.2)]) (Ocp [] [] [2] 0 (ok_bind_Span r17_0 r25_2 hr25_2) (plain_triv (by simp [A.Plain, A.Plains, D.Plain, byteD])) (fun a w => Try.call14 a w) rfl trivial) <| Wm (.tup [(.i r25_2.1), (.i r25_2.2.1), (.b r25_2.2.2)]) rfl <| Wz (.i r25_2.1) (Oex rfl) <| Wz (.i r25_2.2.1) (Oex rfl) <| Wz (.b r25_2.2.2) (Oex rfl) <| Wm (.i r25_2.1) rfl <| Wm (.i r25_2.2.1) rfl <| Wm (.b r25_2.2.2) rfl <| Nk 126 12 ⟨tp 1 (.own 2::.loc 3 0::.b r20_1.2::.i r25_2.1::.i r25_2.2.1::.b r25_2.2.2::tp 105 []), [.gone, .gone, (.fro 45 6 (List.length r17_0) (flatD enc_GPair r17_0)), (.box [(.i r20_1.1.Time), (.i r20_1.1.Source), (.i r20_1.1.Seq), (.s r20_1.1.Type_), (.l enc_GValue r20_1.1.Vals)])], 0⟩ <| Sq <| Sx <| Wm (.own 2) rfl <| Wz (.i ((List.length r17_0 : Nat) : Int)) (Oln rfl) <| Wz (.b (decide (((List.length r17_0 : Nat) : Int) ≠ 3))) (Obn rfl (fun _ => hb_neq (k := .i64))) ?_
 refine Nk 2147483774 12 ⟨tp 1 (.own 2::.loc 3 0::.b r20_1.2::.i r25_2.1::.i r25_2.2.1::.b r25_2.2.2::tp 24 (.b (decide (((List.length r17_0 : Nat) : Int) ≠ 3))::tp 80 [])), [.gone, .gone, (.fro 45 6 (List.length r17_0) (flatD enc_GPair r17_0)), (.box [(.i r20_1.1.Time), (.i r20_1.1.Source), (.i r20_1.1.Seq), (.s r20_1.1.Type_), (.l enc_GValue r20_1.1.Vals)])], 0⟩ ?_
 rcases tf_ (decide (((List.length r17_0 : Nat) : Int) ≠ 3)) with hc31_8 | hc31_8
 ·
  replace hm := cT hc31_8 hm
  refine AiT hc31_8 <| Sx <| Wm (.b false) rfl <| Nn <| Rt <| Tr ?_
  obtain rfl := Option.some.inj hm
  exact ret_i []
 ·
  replace hm := cF hc31_8 hm
  refine AiF hc31_8 <| Sk <| Tk 126 12 ⟨tp 1 (.own 2::.loc 3 0::.b r20_1.2::.i r25_2.1::.i r25_2.2.1::.b r25_2.2.2::tp 105 []), [.gone, .gone, (.fro 45 6 (List.length r17_0) (flatD enc_GPair r17_0)), (.box [(.i r20_1.1.Time), (.i r20_1.1.Source), (.i r20_1.1.Seq), (.s r20_1.1.Type_), (.l enc_GValue r20_1.1.Vals)])], 0⟩ <| Sq <| Afz [2] ⟨tp 1 (.l enc_GPair r17_0::.loc 3 0::.b r20_1.2::.i r25_2.1::.i r25_2.2.1::.b r25_2.2.2::tp 105 []), [.gone, .gone, (.fro 45 6 (List.length r17_0) (flatD enc_GPair r17_0)), (.box [(.i r20_1.1.Time), (.i r20_1.1.Source), (.i r20_1.1.Seq), (.s r20_1.1.Type_), (.l enc_GValue r20_1.1.Vals)])], 0⟩ <| Tx <| Wm (.l enc_GPair r17_0) rfl ?_
  obtain ⟨s33_4, hs33_4, hm⟩ := bnd hm; obtain ⟨hs33_4a, hs33_4b, hs33_4c, hs33_4d, hs33_4e⟩ := cut_some hs33_4
  refine Wz (.l enc_GPair s33_4) (op_cut rfl (e := 45) (sz := 6) (by kernel_rfl) (l := r17_0) (enc := enc_GPair) (by kernel_rfl) enc_GPair_len (a := (Int.toNat 0)) (b := (Int.toNat 1)) (by exact rfl) (⟨.i64, 1, by kernel_rfl, hs33_4b⟩) hs33_4c hs33_4d hs33_4e) <| Wz (.agg [(.i 0), (.s ([107] : List UInt8)), (.l enc_GPair s33_4)]) (Obd rfl) <| Wy (.loc 4 0) [(4, (.box [(.i 0), (.s ([] : List UInt8)), (.d .nil)]))] (Oal rfl) <| Wy (.tup []) [(4, (.box [(.i 0), (.s ([107] : List UInt8)), (.l enc_GPair s33_4)]))] (Ost rfl) <| Nk 254 24 ⟨tp 1 (.l enc_GPair r17_0::.loc 3 0::.b r20_1.2::.i r25_2.1::.i r25_2.2.1::.b r25_2.2.2::.loc 4 0::tp 104 []), [.gone, .gone, .gone, (.box [(.i r20_1.1.Time), (.i r20_1.1.Source), (.i r20_1.1.Seq), (.s r20_1.1.Type_), (.l enc_GValue r20_1.1.Vals)]), (.box [(.i 0), (.s ([107] : List UInt8)), (.l enc_GPair s33_4)])], 0⟩ <| Sx <| Wz (.agg [(.i 0), (.s ([107] : List UInt8)), (.l enc_GPair s33_4)]) (Old rfl) ?_
  obtain ⟨r37_5, hr37_5, hm⟩ := bnd hm
  refine Wy (.tup [(.own 5), (.b r37_5.2)]) [(5, (Ar 61 3 enc_GMatch r37_5.1))] (Ocf [] [5] [] 0 (ok_bind_Put ([] : List GMatch) (GMatch.mk 0 ([107] : List UInt8) s33_4) r37_5 hr37_5) (fun a w => Try.call30 a w) rfl trivial) <| Wm (.tup [(.own 5), (.b r37_5.2)]) rfl <| Wz (.own 5) (Oex rfl) <| Wz (.b r37_5.2) (Oex rfl) <| Wm (.own 5) rfl <| Wm (.b r37_5.2) rfl <| Nk 1022 56 ⟨tp 1 (.l enc_GPair r17_0::.loc 3 0::.b r20_1.2::.i r25_2.1::.i r25_2.2.1::.b r25_2.2.2::.loc 4 0::.own 5::.b r37_5.2::tp 102 []), [.gone, .gone, .gone, (.box [(.i r20_1.1.Time), (.i r20_1.1.Source), (.i r20_1.1.Seq), (.s r20_1.1.Type_), (.l enc_GValue r20_1.1.Vals)]), (.box [(.i 0), (.s ([107] : List UInt8)), (.l enc_GPair s33_4)]), (Ar 61 3 enc_GMatch r37_5.1)], 0⟩ <| Sx <| Wm (.own 5) rfl <| Wz (.agg [(.i 0), (.s ([107] : List UInt8)), (.l enc_GPair s33_4)]) (Old rfl) ?_
  obtain ⟨r43_6, hr43_6, hm⟩ := bnd hm
  refine Wy (.tup [(.own 6), (.b r43_6.2)]) [(6, (Ar 61 3 enc_GMatch r43_6.1)), (5, (.fro 61 3 (List.length r37_5.1) (flatD enc_GMatch r37_5.1)))] (Ocf [] [6] [5] 0 (ok_bind_Put r37_5.1 (GMatch.mk 0 ([107] : List UInt8) s33_4) r43_6 hr43_6) (fun a w => Try.call30 a w) rfl trivial) <| Wm (.tup [(.own 6), (.b r43_6.2)]) rfl <| Wz (.own 6) (Oex rfl) <| Wz (.b r43_6.2) (Oex rfl) <| Wm (.own 6) rfl <| Wm (.b r43_6.2) rfl <| Nk 3070 56 ⟨tp 1 (.l enc_GPair r17_0::.loc 3 0::.b r20_1.2::.i r25_2.1::.i r25_2.2.1::.b r25_2.2.2::.loc 4 0::.own 5::.b r37_5.2::tp 1 (.b r43_6.2::tp 100 [])), [.gone, .gone, .gone, (.box [(.i r20_1.1.Time), (.i r20_1.1.Source), (.i r20_1.1.Seq), (.s r20_1.1.Type_), (.l enc_GValue r20_1.1.Vals)]), (.box [(.i 0), (.s ([107] : List UInt8)), (.l enc_GPair s33_4)]), (.fro 61 3 (List.length r37_5.1) (flatD enc_GMatch r37_5.1)), .gone], 0⟩ <| Sx <| Wm (.l enc_GPair r17_0) rfl <| Wz (.i ((List.length r17_0 : Nat) : Int)) (Oln rfl) <| Wz (.b (decide (((List.length r17_0 : Nat) : Int) = 3))) (Obn rfl (fun _ => hb_eql (k := .i64))) ?_
  rcases tf_ (decide (((List.length r17_0 : Nat) : Int) = 3)) with hq49_7 | hq49_7
  ·
   replace hm := cT hq49_7 hm
   refine Wz (.b true) (Oq hq49_7 rfl) <| Wm (.b r20_1.2) rfl <| Wz (.b r20_1.2) (OpT rfl) ?_
   rcases tf_ r20_1.2 with hq52_7 | hq52_7
   ·
    replace hm := cT hq52_7 hm
    refine Wz (.b true) (Oq hq52_7 rfl) <| Wz (.loc 3 0) (Ofa rfl) <| Wz (.i r20_1.1.Time) (Old rfl) <| Wz (.b (decide (r20_1.1.Time = 5))) (Obn rfl (fun _ => hb_eql (k := .i64))) <| Wz (.b (decide (r20_1.1.Time = 5))) (OpT rfl) ?_
    rcases tf_ (decide (r20_1.1.Time = 5)) with hq57_7 | hq57_7
    ·
     replace hm := cT hq57_7 hm
     refine Wz (.b true) (Oq hq57_7 rfl) <| Wm (.i r25_2.1) rfl <| Wz (.b (decide (r25_2.1 = 1))) (Obn rfl (fun _ => hb_eql (k := .i64))) <| Wz (.b (decide (r25_2.1 = 1))) (OpT rfl) ?_
     rcases tf_ (decide (r25_2.1 = 1)) with hq61_7 | hq61_7
     ·
      replace hm := cT hq61_7 hm
      refine Wz (.b true) (Oq hq61_7 rfl) <| Wm (.i r25_2.2.1) rfl <| Wz (.b (decide (r25_2.2.1 = 5))) (Obn rfl (fun _ => hb_eql (k := .i64))) <| Wz (.b (decide (r25_2.2.1 = 5))) (OpT rfl) ?_
      rcases tf_ (decide (r25_2.2.1 = 5)) with hq65_7 | hq65_7
      ·
       replace hm := cT hq65_7 hm
       refine Wz (.b true) (Oq hq65_7 rfl) <| Wm (.b r25_2.2.2) rfl <| Wz (.b r25_2.2.2) (OpT rfl) ?_
       rcases tf_ r25_2.2.2 with hq68_7 | hq68_7
       ·
        replace hm := cT hq68_7 hm
        refine Wz (.b true) (Oq hq68_7 rfl) <| Wm (.l enc_GPair r17_0) rfl ?_
        obtain ⟨r70_7, hr70_7, hm⟩ := bnd hm
        refine Wz (.b r70_7) (Ocf [] [] [] 0 (ok_bind_Rising r17_0 r70_7 hr70_7) (fun a w => Try.call20 a w) rfl trivial) <| Wz (.b r70_7) (OpT rfl) ?_
        rcases tf_ r70_7 with hq72_7 | hq72_7
        ·
         replace hm := cT hq72_7 hm
         refine Wz (.b true) (Oq hq72_7 rfl) <| Wm (.l enc_GPair r17_0) rfl ?_
         obtain ⟨s74_7, hs74_7, hm⟩ := bnd hm; obtain ⟨hs74_7a, hs74_7b, hs74_7c, hs74_7d, hs74_7e⟩ := cut_some hs74_7
         refine Wz (.l enc_GPair s74_7) (op_cut rfl (e := 45) (sz := 6) (by kernel_rfl) (l := r17_0) (enc := enc_GPair) (by kernel_rfl) enc_GPair_len (a := (Int.toNat 0)) (b := (Int.toNat 2)) (by exact rfl) (⟨.i64, 2, by kernel_rfl, hs74_7b⟩) hs74_7c hs74_7d hs74_7e) <| Wm (.l enc_GPair r17_0) rfl ?_
         obtain ⟨r76_7, hr76_7, hm⟩ := bnd hm
         refine Wz (.i r76_7) (Ocf [] [] [] 0 (ok_bind_Rank s74_7 r17_0 r76_7 hr76_7) (fun a w => Try.call22 a w) rfl trivial) <| Wz (.b (decide (r76_7 = (-1)))) (Obn rfl (fun _ => hb_eql (k := .i64))) <| Wz (.b (decide (r76_7 = (-1)))) (OpT rfl) ?_
         rcases tf_ (decide (r76_7 = (-1))) with hq79_7 | hq79_7
         ·
          replace hm := cT hq79_7 hm
          refine Wz (.b true) (Oq hq79_7 rfl) <| Wm (.own 5) rfl <| Wz (.i ((List.length r37_5.1 : Nat) : Int)) (Oln rfl) <| Wz (.b (decide (((List.length r37_5.1 : Nat) : Int) = 1))) (Obn rfl (fun _ => hb_eql (k := .i64))) <| Wz (.b (decide (((List.length r37_5.1 : Nat) : Int) = 1))) (OpT rfl) ?_
          rcases tf_ (decide (((List.length r37_5.1 : Nat) : Int) = 1)) with hq84_7 | hq84_7
          ·
           replace hm := cT hq84_7 hm
           refine Wz (.b true) (Oq hq84_7 rfl) <| Wm (.b r37_5.2) rfl <| Wz (.b r37_5.2) (OpT rfl) ?_
           rcases tf_ r37_5.2 with hq87_7 | hq87_7
           ·
            replace hm := cT hq87_7 hm
            refine Wz (.b true) (Oq hq87_7 rfl) <| Wm (.b r43_6.2) rfl <| Wz (.b (!r43_6.2)) (Ocs (by kernel_rfl) (op_un rfl (a1 := .bool r43_6.2) (by kernel_rfl) (fun _ => hu_not))) <| Wz (.b (!r43_6.2)) (OpT rfl) ?_
            rcases tf_ (!r43_6.2) with hq91_7 | hq91_7
            ·
             replace hm := cT hq91_7 hm
             refine Wz (.b true) (Oq hq91_7 rfl) <| Wz (.agg [(.i 0), (.s ([107] : List UInt8)), (.l enc_GPair s33_4)]) (Old rfl) ?_
             obtain ⟨r93_7, hr93_7, hm⟩ := bnd hm
             refine Wz (.s r93_7) (Ocf [] [] [] 0 (ok_bind_Ident (GMatch.mk 0 ([107] : List UInt8) s33_4) r93_7 hr93_7) (fun a w => Try.call32 a w) rfl trivial) <| Wz (.b (decide (r93_7 = ([0, 1, 107, 1, 1, 120, 2, 0, 0] : List UInt8)))) (Ocs (lit_tf (by simp only [toS_inj, ne_eq])) (op_bin rfl (a1 := .string (toS r93_7)) (a2 := .string (toS ([0, 1, 107, 1, 1, 120, 2, 0, 0] : List UInt8))) (by kernel_rfl) (by kernel_rfl) (fun _ => hb_seql))) <| Wz (.b (decide (r93_7 = ([0, 1, 107, 1, 1, 120, 2, 0, 0] : List UInt8)))) (OpT rfl) ?_
             rcases tf_ (decide (r93_7 = ([0, 1, 107, 1, 1, 120, 2, 0, 0] : List UInt8))) with hq96_7 | hq96_7
             ·
              replace hm := cT hq96_7 hm
              refine Wz (.b true) (Oq hq96_7 rfl) <| Wz (.agg [(.i 0), (.s ([107] : List UInt8)), (.l enc_GPair s33_4)]) (Old rfl) <| Wz (.agg [(.i 1), (.s ([] : List UInt8)), (.d .nil)]) (Obd rfl) ?_
              obtain ⟨r99_7, hr99_7, hm⟩ := bnd hm
              refine Wz (.i r99_7) (Ocf [] [] [] 0 (ok_bind_Before (GMatch.mk 0 ([107] : List UInt8) s33_4) (GMatch.mk 1 ([] : List UInt8) ([] : List GPair)) r99_7 hr99_7) (fun a w => Try.call26 a w) rfl trivial) <| Wz (.b (decide (r99_7 = (-1)))) (Obn rfl (fun _ => hb_eql (k := .i64))) <| Wz (.b (decide (r99_7 = (-1)))) (OpT rfl) ?_
              rcases tf_ (decide (r99_7 = (-1))) with hq102_7 | hq102_7
              ·
               replace hm := cT hq102_7 hm
               refine Wz (.b true) (Oq hq102_7 rfl) <| Wz (.agg [(.i 0), (.s ([107] : List UInt8)), (.l enc_GPair s33_4)]) (Old rfl) <| Wz (.agg [(.i 0), (.s ([107] : List UInt8)), (.l enc_GPair s33_4)]) (Old rfl) ?_
               obtain ⟨r105_7, hr105_7, hm⟩ := bnd hm
               refine Wz (.b r105_7) (Ocf [] [] [] 0 (ok_bind_Same (GMatch.mk 0 ([107] : List UInt8) s33_4) (GMatch.mk 0 ([107] : List UInt8) s33_4) r105_7 hr105_7) (fun a w => Try.call28 a w) rfl trivial) <| Wz (.b r105_7) (OpT rfl) ?_
               rcases tf_ r105_7 with hq107_7 | hq107_7
               ·
                replace hm := cT hq107_7 hm
                refine Wz (.b true) (Oq hq107_7 rfl) <| Wz (.agg [(.i 0), (.s ([] : List UInt8)), (.d .nil)]) (Obd rfl) ?_
                obtain ⟨r109_7, hr109_7, hm⟩ := bnd hm
                refine Wz (.s r109_7) (Ocf [] [] [] 0 (ok_telltaleref19_Ident (GMatch.mk 0 ([] : List UInt8) ([] : List GPair)) r109_7 hr109_7) (fun a w => Try.call33 a w) rfl trivial) <| Wz (.b (decide (r109_7 = ([0, 0, 0] : List UInt8)))) (Ocs (lit_tf (by simp only [toS_inj, ne_eq])) (op_bin rfl (a1 := .string (toS r109_7)) (a2 := .string (toS ([0, 0, 0] : List UInt8))) (by kernel_rfl) (by kernel_rfl) (fun _ => hb_seql))) <| Wz (.b (decide (r109_7 = ([0, 0, 0] : List UInt8)))) (OpT rfl) <| Wm (.b (decide (r109_7 = ([0, 0, 0] : List UInt8)))) rfl <| Nn <| Rt ?_
                obtain rfl := Option.some.inj hm
                exact ret_i []
               ·
                replace hm := cF hq107_7 hm
                refine Wz (.b false) (Oq hq107_7 rfl) <| Wn <| Wn <| Wn <| Wz (.b false) (OpF rfl) <| Wm (.b false) rfl <| Nn <| Rt ?_
                obtain rfl := Option.some.inj hm
                exact ret_i []
              ·
               replace hm := cF hq102_7 hm
               refine Wz (.b false) (Oq hq102_7 rfl) <| Wn <| Wn <| Wn <| Wz (.b false) (OpF rfl) <| Wm (.b false) rfl <| Wn <| Wn <| Wn <| Wz (.b false) (OpF rfl) <| Wm (.b false) rfl <| Nn <| Rt ?_
               obtain rfl := Option.some.inj hm
               exact ret_i []
             ·
              replace hm := cF hq96_7 hm
              refine Wz (.b false) (Oq hq96_7 rfl) <| Wn <| Wn <| Wn <| Wn <| Wz (.b false) (OpF rfl) <| Wm (.b false) rfl <| Wn <| Wn <| Wn <| Wz (.b false) (OpF rfl) <| Wm (.b false) rfl <| Wn <| Wn ?_
              refine Wn <| Wz (.b false) (OpF rfl) <| Wm (.b false) rfl <| Nn <| Rt ?_
              obtain rfl := Option.some.inj hm
              exact ret_i []
            ·
             replace hm := cF hq91_7 hm
             refine Wz (.b false) (Oq hq91_7 rfl) <| Wn <| Wn <| Wn <| Wz (.b false) (OpF rfl) <| Wm (.b false) rfl <| Wn <| Wn <| Wn <| Wn <| Wz (.b false) (OpF rfl) <| Wm (.b false) rfl <| Wn <| Wn ?_
             refine Wn <| Wz (.b false) (OpF rfl) <| Wm (.b false) rfl <| Wn <| Wn <| Wn <| Wz (.b false) (OpF rfl) <| Wm (.b false) rfl <| Nn <| Rt ?_
             obtain rfl := Option.some.inj hm
             exact ret_i []
           ·
            replace hm := cF hq87_7 hm
            refine Wz (.b false) (Oq hq87_7 rfl) <| Wn <| Wn <| Wz (.b false) (OpF rfl) <| Wm (.b false) rfl <| Wn <| Wn <| Wn <| Wz (.b false) (OpF rfl) <| Wm (.b false) rfl <| Wn <| Wn <| Wn <| Wn ?_
            refine Wz (.b false) (OpF rfl) <| Wm (.b false) rfl <| Wn <| Wn <| Wn <| Wz (.b false) (OpF rfl) <| Wm (.b false) rfl <| Wn <| Wn <| Wn <| Wz (.b false) (OpF rfl) <| Wm (.b false) rfl <| Nn <| Rt ?_
            obtain rfl := Option.some.inj hm
            exact ret_i []
          ·
           replace hm := cF hq84_7 hm
           refine Wz (.b false) (Oq hq84_7 rfl) <| Wn <| Wz (.b false) (OpF rfl) <| Wm (.b false) rfl <| Wn <| Wn <| Wz (.b false) (OpF rfl) <| Wm (.b false) rfl <| Wn <| Wn <| Wn <| Wz (.b false) (OpF rfl) <| Wm (.b false) rfl <| Wn ?_
           refine Wn <| Wn <| Wn <| Wz (.b false) (OpF rfl) <| Wm (.b false) rfl <| Wn <| Wn <| Wn <| Wz (.b false) (OpF rfl) <| Wm (.b false) rfl <| Wn <| Wn <| Wn <| Wz (.b false) (OpF rfl) ?_
           refine Wm (.b false) rfl <| Nn <| Rt ?_
           obtain rfl := Option.some.inj hm
           exact ret_i []
         ·
          replace hm := cF hq79_7 hm
          refine Wz (.b false) (Oq hq79_7 rfl) <| Wn <| Wn <| Wn <| Wz (.b false) (OpF rfl) <| Wm (.b false) rfl <| Wn <| Wz (.b false) (OpF rfl) <| Wm (.b false) rfl <| Wn <| Wn <| Wz (.b false) (OpF rfl) <| Wm (.b false) rfl <| Wn ?_
          refine Wn <| Wn <| Wz (.b false) (OpF rfl) <| Wm (.b false) rfl <| Wn <| Wn <| Wn <| Wn <| Wz (.b false) (OpF rfl) <| Wm (.b false) rfl <| Wn <| Wn <| Wn <| Wz (.b false) (OpF rfl) ?_
          refine Wm (.b false) rfl <| Wn <| Wn <| Wn <| Wz (.b false) (OpF rfl) <| Wm (.b false) rfl <| Nn <| Rt ?_
          obtain rfl := Option.some.inj hm
          exact ret_i []
        ·
         replace hm := cF hq72_7 hm
         refine Wz (.b false) (Oq hq72_7 rfl) <| Wn <| Wn <| Wn <| Wn <| Wn <| Wz (.b false) (OpF rfl) <| Wm (.b false) rfl <| Wn <| Wn <| Wn <| Wz (.b false) (OpF rfl) <| Wm (.b false) rfl <| Wn ?_
         refine Wz (.b false) (OpF rfl) <| Wm (.b false) rfl <| Wn <| Wn <| Wz (.b false) (OpF rfl) <| Wm (.b false) rfl <| Wn <| Wn <| Wn <| Wz (.b false) (OpF rfl) <| Wm (.b false) rfl <| Wn <| Wn <| Wn ?_
         refine Wn <| Wz (.b false) (OpF rfl) <| Wm (.b false) rfl <| Wn <| Wn <| Wn <| Wz (.b false) (OpF rfl) <| Wm (.b false) rfl <| Wn <| Wn <| Wn <| Wz (.b false) (OpF rfl) <| Wm (.b false) rfl <| Nn ?_
         refine Rt ?_
         obtain rfl := Option.some.inj hm
         exact ret_i []
       ·
        replace hm := cF hq68_7 hm
        refine Wz (.b false) (Oq hq68_7 rfl) <| Wn <| Wn <| Wz (.b false) (OpF rfl) <| Wm (.b false) rfl <| Wn <| Wn <| Wn <| Wn <| Wn <| Wz (.b false) (OpF rfl) <| Wm (.b false) rfl <| Wn <| Wn ?_
        refine Wn <| Wz (.b false) (OpF rfl) <| Wm (.b false) rfl <| Wn <| Wz (.b false) (OpF rfl) <| Wm (.b false) rfl <| Wn <| Wn <| Wz (.b false) (OpF rfl) <| Wm (.b false) rfl <| Wn <| Wn <| Wn <| Wz (.b false) (OpF rfl) ?_
        refine Wm (.b false) rfl <| Wn <| Wn <| Wn <| Wn <| Wz (.b false) (OpF rfl) <| Wm (.b false) rfl <| Wn <| Wn <| Wn <| Wz (.b false) (OpF rfl) <| Wm (.b false) rfl <| Wn <| Wn ?_
        refine Wn <| Wz (.b false) (OpF rfl) <| Wm (.b false) rfl <| Nn <| Rt ?_
        obtain rfl := Option.some.inj hm
        exact ret_i []
      ·
       replace hm := cF hq65_7 hm
       refine Wz (.b false) (Oq hq65_7 rfl) <| Wn <| Wz (.b false) (OpF rfl) <| Wm (.b false) rfl <| Wn <| Wn <| Wz (.b false) (OpF rfl) <| Wm (.b false) rfl <| Wn <| Wn <| Wn <| Wn <| Wn <| Wz (.b false) (OpF rfl) ?_
       refine Wm (.b false) rfl <| Wn <| Wn <| Wn <| Wz (.b false) (OpF rfl) <| Wm (.b false) rfl <| Wn <| Wz (.b false) (OpF rfl) <| Wm (.b false) rfl <| Wn <| Wn <| Wz (.b false) (OpF rfl) <| Wm (.b false) rfl <| Wn ?_
       refine Wn <| Wn <| Wz (.b false) (OpF rfl) <| Wm (.b false) rfl <| Wn <| Wn <| Wn <| Wn <| Wz (.b false) (OpF rfl) <| Wm (.b false) rfl <| Wn <| Wn <| Wn <| Wz (.b false) (OpF rfl) ?_
       refine Wm (.b false) rfl <| Wn <| Wn <| Wn <| Wz (.b false) (OpF rfl) <| Wm (.b false) rfl <| Nn <| Rt ?_
       obtain rfl := Option.some.inj hm
       exact ret_i []
     ·
      replace hm := cF hq61_7 hm
      refine Wz (.b false) (Oq hq61_7 rfl) <| Wn <| Wn <| Wz (.b false) (OpF rfl) <| Wm (.b false) rfl <| Wn <| Wz (.b false) (OpF rfl) <| Wm (.b false) rfl <| Wn <| Wn <| Wz (.b false) (OpF rfl) <| Wm (.b false) rfl <| Wn <| Wn ?_
      refine Wn <| Wn <| Wn <| Wz (.b false) (OpF rfl) <| Wm (.b false) rfl <| Wn <| Wn <| Wn <| Wz (.b false) (OpF rfl) <| Wm (.b false) rfl <| Wn <| Wz (.b false) (OpF rfl) <| Wm (.b false) rfl <| Wn ?_
      refine Wn <| Wz (.b false) (OpF rfl) <| Wm (.b false) rfl <| Wn <| Wn <| Wn <| Wz (.b false) (OpF rfl) <| Wm (.b false) rfl <| Wn <| Wn <| Wn <| Wn <| Wz (.b false) (OpF rfl) <| Wm (.b false) rfl ?_
      refine Wn <| Wn <| Wn <| Wz (.b false) (OpF rfl) <| Wm (.b false) rfl <| Wn <| Wn <| Wn <| Wz (.b false) (OpF rfl) <| Wm (.b false) rfl <| Nn <| Rt ?_
      obtain rfl := Option.some.inj hm
      exact ret_i []
    ·
     replace hm := cF hq57_7 hm
     refine Wz (.b false) (Oq hq57_7 rfl) <| Wn <| Wn <| Wz (.b false) (OpF rfl) <| Wm (.b false) rfl <| Wn <| Wn <| Wz (.b false) (OpF rfl) <| Wm (.b false) rfl <| Wn <| Wz (.b false) (OpF rfl) <| Wm (.b false) rfl <| Wn <| Wn ?_
     refine Wz (.b false) (OpF rfl) <| Wm (.b false) rfl <| Wn <| Wn <| Wn <| Wn <| Wn <| Wz (.b false) (OpF rfl) <| Wm (.b false) rfl <| Wn <| Wn <| Wn <| Wz (.b false) (OpF rfl) <| Wm (.b false) rfl ?_
     refine Wn <| Wz (.b false) (OpF rfl) <| Wm (.b false) rfl <| Wn <| Wn <| Wz (.b false) (OpF rfl) <| Wm (.b false) rfl <| Wn <| Wn <| Wn <| Wz (.b false) (OpF rfl) <| Wm (.b false) rfl <| Wn <| Wn ?_
     refine Wn <| Wn <| Wz (.b false) (OpF rfl) <| Wm (.b false) rfl <| Wn <| Wn <| Wn <| Wz (.b false) (OpF rfl) <| Wm (.b false) rfl <| Wn <| Wn <| Wn <| Wz (.b false) (OpF rfl) <| Wm (.b false) rfl ?_
     refine Nn <| Rt ?_
     obtain rfl := Option.some.inj hm
     exact ret_i []
   ·
    replace hm := cF hq52_7 hm
    refine Wz (.b false) (Oq hq52_7 rfl) <| Wn <| Wn <| Wn <| Wz (.b false) (OpF rfl) <| Wm (.b false) rfl <| Wn <| Wn <| Wz (.b false) (OpF rfl) <| Wm (.b false) rfl <| Wn <| Wn <| Wz (.b false) (OpF rfl) <| Wm (.b false) rfl ?_
    refine Wn <| Wz (.b false) (OpF rfl) <| Wm (.b false) rfl <| Wn <| Wn <| Wz (.b false) (OpF rfl) <| Wm (.b false) rfl <| Wn <| Wn <| Wn <| Wn <| Wn <| Wz (.b false) (OpF rfl) <| Wm (.b false) rfl ?_
    refine Wn <| Wn <| Wn <| Wz (.b false) (OpF rfl) <| Wm (.b false) rfl <| Wn <| Wz (.b false) (OpF rfl) <| Wm (.b false) rfl <| Wn <| Wn <| Wz (.b false) (OpF rfl) <| Wm (.b false) rfl <| Wn <| Wn ?_
    refine Wn <| Wz (.b false) (OpF rfl) <| Wm (.b false) rfl <| Wn <| Wn <| Wn <| Wn <| Wz (.b false) (OpF rfl) <| Wm (.b false) rfl <| Wn <| Wn <| Wn <| Wz (.b false) (OpF rfl) <| Wm (.b false) rfl ?_
    refine Wn <| Wn <| Wn <| Wz (.b false) (OpF rfl) <| Wm (.b false) rfl <| Nn <| Rt ?_
    obtain rfl := Option.some.inj hm
    exact ret_i []
  ·
   replace hm := cF hq49_7 hm
   refine Wz (.b false) (Oq hq49_7 rfl) <| Wn <| Wz (.b false) (OpF rfl) <| Wm (.b false) rfl <| Wn <| Wn <| Wn <| Wz (.b false) (OpF rfl) <| Wm (.b false) rfl <| Wn <| Wn <| Wz (.b false) (OpF rfl) <| Wm (.b false) rfl <| Wn ?_
   refine Wn <| Wz (.b false) (OpF rfl) <| Wm (.b false) rfl <| Wn <| Wz (.b false) (OpF rfl) <| Wm (.b false) rfl <| Wn <| Wn <| Wz (.b false) (OpF rfl) <| Wm (.b false) rfl <| Wn <| Wn <| Wn <| Wn ?_
   refine Wn <| Wz (.b false) (OpF rfl) <| Wm (.b false) rfl <| Wn <| Wn <| Wn <| Wz (.b false) (OpF rfl) <| Wm (.b false) rfl <| Wn <| Wz (.b false) (OpF rfl) <| Wm (.b false) rfl <| Wn <| Wn <| Wz (.b false) (OpF rfl) ?_
   refine Wm (.b false) rfl <| Wn <| Wn <| Wn <| Wz (.b false) (OpF rfl) <| Wm (.b false) rfl <| Wn <| Wn <| Wn <| Wn <| Wz (.b false) (OpF rfl) <| Wm (.b false) rfl <| Wn <| Wn ?_
   refine Wn <| Wz (.b false) (OpF rfl) <| Wm (.b false) rfl <| Wn <| Wn <| Wn <| Wz (.b false) (OpF rfl) <| Wm (.b false) rfl <| Nn <| Rt ?_
   obtain rfl := Option.some.inj hm
   exact ret_i []

theorem ok_telltalelaw06_Vals (p0 : (List GValue)) (r : (List GValue)) (h : m_telltalelaw06_Vals p0 = some r) : GCall Try.prog 38 [(.l enc_GValue p0)] [] (.own 0) [(Ar 89 4 enc_GValue r)] := by
 refine GCall.of_body (n := 19) (rs := [(.tmp 2)]) Try.func38 rfl rfl rfl <| Ato ⟨.l enc_GValue p0::tu 18 [], [], 0⟩ ?_
 have hm := h
 unfold m_telltalelaw06_Vals at hm
 refine Sx <| Wm (.d .nil) rfl <| Nk 1 0 ⟨.l enc_GValue p0::tp 18 [], [], 0⟩ <| Sx <| Wm (.d .nil) rfl <| Nk 9 0 ⟨.l enc_GValue p0::tp 2 (.d .nil::tp 15 []), [], 0⟩ <| Sq <| Sx <| Wm (.i 0) rfl <| Nk 25 0 ⟨.l enc_GValue p0::tp 2 (.d .nil::.i 0::tp 14 []), [], 0⟩ <| Bk <| Aow 3 89 4 ⟨.l enc_GValue p0::tp 2 (.own 0::.i 0::tp 14 []), [(Ar 89 4 enc_GValue ([] : List GValue))], 0⟩ ?_
 refine AWP.loopI (α := Nat × (List GValue) × Int)
   (fun (fu_0, y3_0, y4_0) => (⟨.l enc_GValue p0::tp 2 (.own 0::.i y4_0::tp 14 []), [(Ar 89 4 enc_GValue y3_0)], 0⟩ : St))
   (fun (fu_0, y3_0, y4_0) => m_telltalelaw06_Vals_l0 p0 fu_0 y3_0 y4_0 = some r)
   (fun (fu_0, y3_0, y4_0) => fu_0) (1152921504606846976, ([] : List GValue), 0)
   (Weak.toK 25 0 0 [0]) hm ?_
 rintro ⟨fu_0, y3_0, y4_0⟩ n_0 hm ih_0
 try dsimp only at hm ih_0 ⊢
 cases fu_0 with
 | zero => exact absurd hm (by unfold m_telltalelaw06_Vals_l0; simp)
 | succ fu_0 =>
  unfold m_telltalelaw06_Vals_l0 at hm
  refine Sq <| Sx <| Wm (.i y4_0) rfl <| Wm (.l enc_GValue p0) rfl <| Wz (.i ((List.length p0 : Nat) : Int)) (Oln rfl) <| Wz (.b (decide (y4_0 < ((List.length p0 : Nat) : Int)))) (Obn rfl (fun _ => hb_lss (k := .i64))) <| Nk 281 1 ⟨.l enc_GValue p0::tp 2 (.own 0::.i y4_0::tp 3 (.b (decide (y4_0 < ((List.length p0 : Nat) : Int)))::tp 10 [])), [(Ar 89 4 enc_GValue y3_0)], 0⟩ ?_
  rcases tf_ (decide (y4_0 < ((List.length p0 : Nat) : Int))) with hc8_3 | hc8_3
  ·
   replace hm := cT hc8_3 hm
   refine AiT hc8_3 <| Sk <| Tk 25 1 ⟨.l enc_GValue p0::tp 2 (.own 0::.i y4_0::tp 14 []), [(Ar 89 4 enc_GValue y3_0)], 0⟩ <| Sq <| Bk <| Tx <| Wm (.own 0) rfl <| Wm (.l enc_GValue p0) rfl <| Wm (.i y4_0) rfl ?_
   obtain ⟨x14_2, hx14_2, hm⟩ := bnd hm
   obtain ⟨hx14_2i, hx14_2g⟩ := geti_some hx14_2
   refine Wz (.d (.ref (List.drop ((Int.toNat y4_0) * 4) (flatD enc_GValue p0)))) (Oia rfl enc_GValue_len hx14_2i hx14_2g) <| Wz (.agg [(.y x14_2.Kind), (.i x14_2.N), (.u x14_2.Bits), (.s x14_2.Text)]) (Lf rfl enc_GValue_len hx14_2g) <| Wy (.own 1) [(1, (Ar 89 4 enc_GValue ([x14_2] : List GValue)))] (Obs rfl) ?_
   obtain ⟨a17_2, ha17_2, hm⟩ := bnd hm; obtain ⟨ha17_2e, ha17_2l⟩ := app_some ha17_2
   refine Wy (.own 2) [(0, .gone), (2, (Ar 89 4 enc_GValue a17_2))] (Oap rfl elemOK_33 enc_GValue_len ha17_2e ha17_2l) <| Wm (.own 2) rfl <| Wn0 <| Ino <| Tk 25 4 ⟨.l enc_GValue p0::tp 2 (.own 2::.i y4_0::tp 14 []), [.gone, .gone, (Ar 89 4 enc_GValue a17_2)], 0⟩ <| Tx <| Wm (.i y4_0) rfl <| Wz (.i (W6 (y4_0 + 1))) (Obn rfl (fun _ => hb_add (k := .i64))) <| Wm (.i (W6 (y4_0 + 1))) rfl <| Wn0 <| RoundK.normal ?_
   exact Rounds.weak (Weak.toK 25 0 0 [2]) (ih_0 (fu_0, a17_2, (W6 (y4_0 + 1))) hm (Nat.lt_succ_self _))
  ·
   replace hm := cF hc8_3 hm
   refine AiF hc8_3 <| AWP.exit <| Then.exit <| RoundK.exit <| InBlock.same <| Tk 8 1 ⟨tp 3 (.own 0::tp 15 []), [(Ar 89 4 enc_GValue y3_0)], 0⟩ <| Sx <| Wm (.own 0) rfl <| Wm (.own 0) rfl <| Nn <| Rt ?_
   obtain rfl := Option.some.inj hm
   exact ret_i [0]

theorem ok_telltalelaw07_Own (p0 : GEvent) (r : GEvent) (h : m_telltalelaw07_Own p0 = some r) : GCall Try.prog 13 [(.agg [(.i p0.Time), (.i p0.Source), (.i p0.Seq), (.s p0.Type_), (.l enc_GValue p0.Vals)])] [] (.agg [(.i r.Time), (.i r.Source), (.i r.Seq), (.s r.Type_), (.own 0)]) [(Ar 89 4 enc_GValue r.Vals)] := by
 refine GCall.of_body (n := 15) (rs := [(.cell 2 35)]) Try.func13 rfl rfl rfl <| Ato ⟨.agg [(.i p0.Time), (.i p0.Source), (.i p0.Seq), (.s p0.Type_), (.l enc_GValue p0.Vals)]::tu 14 [], [], 0⟩ ?_
 have hm := h
 unfold m_telltalelaw07_Own at hm
 refine Sx <| Wy (.loc 0 0) [(0, (.box [(.i p0.Time), (.i p0.Source), (.i p0.Seq), (.s p0.Type_), (.l enc_GValue p0.Vals)]))] (Obx rfl) <| Wy (.loc 1 0) [(1, (.box [(.i 0), (.i 0), (.i 0), (.s ([] : List UInt8)), (.d .nil)]))] (Oal rfl) <| Nk 6 3 ⟨tp 1 (.loc 0 0::.loc 1 0::tp 12 []), [(.box [(.i p0.Time), (.i p0.Source), (.i p0.Seq), (.s p0.Type_), (.l enc_GValue p0.Vals)]), (.box [(.i 0), (.i 0), (.i 0), (.s ([] : List UInt8)), (.d .nil)])], 0⟩ <| Sq <| Adr <| Wz (.loc 0 0) (Ofa rfl) <| Wz (.i p0.Time) (Old rfl) <| Wz (.loc 0 1) (Ofa rfl) <| Wz (.i p0.Source) (Old rfl) <| Wz (.loc 0 2) (Ofa rfl) <| Wz (.i p0.Seq) (Old rfl) <| Wz (.loc 0 3) (Ofa rfl) <| Wz (.s p0.Type_) (Old rfl) ?_
 refine Wz (.loc 0 4) (Ofa rfl) <| Wz (.l enc_GValue p0.Vals) (Old rfl) ?_
 obtain ⟨r13_0, hr13_0, hm⟩ := bnd hm
 refine Wy (.own 2) [(2, (Ar 89 4 enc_GValue r13_0))] (Ocf [] [2] [] 0 (ok_telltalelaw06_Vals p0.Vals r13_0 hr13_0) (fun a w => Try.call38 a w) rfl trivial) <| Wz (.agg [(.i p0.Time), (.i p0.Source), (.i p0.Seq), (.s p0.Type_), (.own 2)]) (Obd rfl) <| Wy (.tup []) [(1, (.box [(.i p0.Time), (.i p0.Source), (.i p0.Seq), (.s p0.Type_), (.own 2)]))] (Ost rfl) <| Wdr <| Tn <| Rt ?_
 obtain rfl := Option.some.inj hm
 exact ret_i [2]

theorem ok_telltalelaw19_Pairs (p0 : (List GPair)) (r : (List GPair)) (h : m_telltalelaw19_Pairs p0 = some r) : GCall Try.prog 9 [(.l enc_GPair p0)] [] (.own 0) [(Ar 45 6 enc_GPair r)] := by
 refine GCall.of_body (n := 27) (rs := [(.tmp 2)]) Try.func9 rfl rfl rfl <| Ato ⟨.l enc_GPair p0::tu 26 [], [], 0⟩ ?_
 have hm := h
 unfold m_telltalelaw19_Pairs at hm
 refine Sx <| Wm (.d .nil) rfl <| Nk 1 0 ⟨.l enc_GPair p0::tp 26 [], [], 0⟩ <| Sx <| Wm (.d .nil) rfl <| Nk 9 0 ⟨.l enc_GPair p0::tp 2 (.d .nil::tp 23 []), [], 0⟩ <| Sq <| Sx <| Wm (.i 0) rfl <| Nk 25 0 ⟨.l enc_GPair p0::tp 2 (.d .nil::.i 0::tp 22 []), [], 0⟩ <| Bk <| Aow 3 45 6 ⟨.l enc_GPair p0::tp 2 (.own 0::.i 0::tp 22 []), [(Ar 45 6 enc_GPair ([] : List GPair))], 0⟩ ?_
 refine AWP.loopI (α := Nat × (List GPair) × Int)
   (fun (fu_0, y3_0, y4_0) => (⟨.l enc_GPair p0::tp 2 (.own 0::.i y4_0::tp 22 []), [(Ar 45 6 enc_GPair y3_0)], 0⟩ : St))
   (fun (fu_0, y3_0, y4_0) => m_telltalelaw19_Pairs_l0 p0 fu_0 y3_0 y4_0 = some r)
   (fun (fu_0, y3_0, y4_0) => fu_0) (1152921504606846976, ([] : List GPair), 0)
   (Weak.toK 25 0 0 [0]) hm ?_
 rintro ⟨fu_0, y3_0, y4_0⟩ n_0 hm ih_0
 try dsimp only at hm ih_0 ⊢
 cases fu_0 with
 | zero => exact absurd hm (by unfold m_telltalelaw19_Pairs_l0; simp)
 | succ fu_0 =>
  unfold m_telltalelaw19_Pairs_l0 at hm
  refine Sq <| Sx <| Wm (.i y4_0) rfl <| Wm (.l enc_GPair p0) rfl <| Wz (.i ((List.length p0 : Nat) : Int)) (Oln rfl) <| Wz (.b (decide (y4_0 < ((List.length p0 : Nat) : Int)))) (Obn rfl (fun _ => hb_lss (k := .i64))) <| Nk 281 1 ⟨.l enc_GPair p0::tp 2 (.own 0::.i y4_0::tp 3 (.b (decide (y4_0 < ((List.length p0 : Nat) : Int)))::tp 18 [])), [(Ar 45 6 enc_GPair y3_0)], 0⟩ ?_
  rcases tf_ (decide (y4_0 < ((List.length p0 : Nat) : Int))) with hc8_3 | hc8_3
  ·
   replace hm := cT hc8_3 hm
   refine AiT hc8_3 <| Sk <| Tk 25 1 ⟨.l enc_GPair p0::tp 2 (.own 0::.i y4_0::tp 22 []), [(Ar 45 6 enc_GPair y3_0)], 0⟩ <| Sq <| Bk <| Adr <| Wm (.own 0) rfl <| Wm (.l enc_GPair p0) rfl <| Wm (.i y4_0) rfl ?_
   obtain ⟨x14_2, hx14_2, hm⟩ := bnd hm
   obtain ⟨hx14_2i, hx14_2g⟩ := geti_some hx14_2
   refine Wz (.d (.ref (List.drop ((Int.toNat y4_0) * 6) (flatD enc_GPair p0)))) (Oia rfl enc_GPair_len hx14_2i hx14_2g) <| Wz (.d (.ref (List.drop ((Int.toNat y4_0) * 6) (flatD enc_GPair p0)))) (Ofa rfl) <| Wz (.s x14_2.Var) (Lf1 rfl enc_GPair_len hx14_2g) <| Wm (.l enc_GPair p0) rfl <| Wm (.i y4_0) rfl ?_
   obtain ⟨x19_2, hx19_2, hm⟩ := bnd hm
   obtain ⟨hx19_2i, hx19_2g⟩ := geti_some hx19_2
   refine Wz (.d (.ref (List.drop ((Int.toNat y4_0) * 6) (flatD enc_GPair p0)))) (Oia rfl enc_GPair_len hx19_2i hx19_2g) <| Wz (.d (.ref (List.drop 1 (List.drop ((Int.toNat y4_0) * 6) (flatD enc_GPair p0))))) (Ofa rfl) <| Wz (.agg [(.i x19_2.E.Time), (.i x19_2.E.Source), (.i x19_2.E.Seq), (.s x19_2.E.Type_), (.l enc_GValue x19_2.E.Vals)]) (Lfk 1 rfl enc_GPair_len hx19_2g) ?_
   obtain ⟨r22_2, hr22_2, hm⟩ := bnd hm
   refine Wy (.agg [(.i r22_2.Time), (.i r22_2.Source), (.i r22_2.Seq), (.s r22_2.Type_), (.l enc_GValue r22_2.Vals)]) [(1, (Ar 89 4 enc_GValue r22_2.Vals)), (1, (.fro 89 4 (List.length r22_2.Vals) (flatD enc_GValue r22_2.Vals)))] (Ofz [1] (.agg [(.i r22_2.Time), (.i r22_2.Source), (.i r22_2.Seq), (.s r22_2.Type_), (.own 1)]) [(1, (Ar 89 4 enc_GValue r22_2.Vals))] (Ocf [] [1] [] 0 (ok_telltalelaw07_Own x19_2.E r22_2 hr22_2) (fun a w => Try.call13 a w) rfl trivial)) <| Wz (.agg [(.s x14_2.Var), (.i r22_2.Time), (.i r22_2.Source), (.i r22_2.Seq), (.s r22_2.Type_), (.l enc_GValue r22_2.Vals)]) (Obd rfl) <| Wy (.own 2) [(2, (Ar 45 6 enc_GPair ([(GPair.mk x14_2.Var r22_2)] : List GPair)))] (Obs rfl) ?_
   obtain ⟨a25_2, ha25_2, hm⟩ := bnd hm; obtain ⟨ha25_2e, ha25_2l⟩ := app_some ha25_2
   refine Wy (.own 3) [(0, .gone), (3, (Ar 45 6 enc_GPair a25_2))] (Oap rfl elemOK_31 enc_GPair_len ha25_2e ha25_2l) <| Wm (.own 3) rfl <| Wdr <| Ino <| Tk 25 8 ⟨.l enc_GPair p0::tp 2 (.own 3::.i y4_0::tp 22 []), [.gone, .gone, .gone, (Ar 45 6 enc_GPair a25_2)], 0⟩ <| Tx <| Wm (.i y4_0) rfl <| Wz (.i (W6 (y4_0 + 1))) (Obn rfl (fun _ => hb_add (k := .i64))) <| Wm (.i (W6 (y4_0 + 1))) rfl <| Wn0 <| RoundK.normal ?_
   exact Rounds.weak (Weak.toK 25 0 0 [3]) (ih_0 (fu_0, a25_2, (W6 (y4_0 + 1))) hm (Nat.lt_succ_self _))
  ·
   replace hm := cF hc8_3 hm
   refine AiF hc8_3 <| AWP.exit <| Then.exit <| RoundK.exit <| InBlock.same <| Tk 8 1 ⟨tp 3 (.own 0::tp 23 []), [(Ar 45 6 enc_GPair y3_0)], 0⟩ <| Sx <| Wm (.own 0) rfl <| Wm (.own 0) rfl <| Nn <| Rt ?_
   obtain rfl := Option.some.inj hm
   exact ret_i [0]

theorem ok_telltalelaw19_Over (p0 : GMatch) (r : Int) (h : m_telltalelaw19_Over p0 = some r) : GCall Try.prog 24 [(.agg [(.i p0.Pattern), (.s p0.Key), (.l enc_GPair p0.Bound)])] [] (.i r) [] := by
 refine GCall.of_body (n := 10) (rs := [(.tmp 2)]) Try.func24 rfl rfl rfl <| Ato ⟨.agg [(.i p0.Pattern), (.s p0.Key), (.l enc_GPair p0.Bound)]::tu 9 [], [], 0⟩ ?_
 have hm := h
 unfold m_telltalelaw19_Over at hm
 refine Sx <| Wy (.loc 0 0) [(0, (.box [(.i p0.Pattern), (.s p0.Key), (.l enc_GPair p0.Bound)]))] (Obx rfl) <| Wm (.i 0) rfl <| Nk 2 1 ⟨tp 1 (.loc 0 0::tp 8 []), [(.box [(.i p0.Pattern), (.s p0.Key), (.l enc_GPair p0.Bound)])], 0⟩ <| Sq <| Sx <| Wz (.loc 0 1) (Ofa rfl) <| Wz (.s p0.Key) (Old rfl) <| Wz (.i ((List.length p0.Key : Nat) : Int)) (Oln rfl) <| Wz (.b (decide ((60 : Int) < ((List.length p0.Key : Nat) : Int)))) (Obn rfl (fun _ => hb_gtr (k := .i64))) <| Nk 66 1 ⟨tp 1 (.loc 0 0::tp 4 (.b (decide ((60 : Int) < ((List.length p0.Key : Nat) : Int)))::tp 3 [])), [(.box [(.i p0.Pattern), (.s p0.Key), (.l enc_GPair p0.Bound)])], 0⟩ ?_
 rcases tf_ (decide ((60 : Int) < ((List.length p0.Key : Nat) : Int))) with hc6_2 | hc6_2
 ·
  replace hm := cT hc6_2 hm
  refine AiT hc6_2 <| Sx <| Wm (.i 1) rfl <| Nn <| Rt <| Tr ?_
  obtain rfl := Option.some.inj hm
  exact ret_i []
 ·
  replace hm := cF hc6_2 hm
  refine AiF hc6_2 <| Sk <| Tk 2 1 ⟨tp 1 (.loc 0 0::tp 8 []), [(.box [(.i p0.Pattern), (.s p0.Key), (.l enc_GPair p0.Bound)])], 0⟩ <| Sx <| Wz (.loc 0 2) (Ofa rfl) <| Wz (.l enc_GPair p0.Bound) (Old rfl) ?_
  obtain ⟨r9_1, hr9_1, hm⟩ := bnd hm
  refine Wz (.i r9_1) (Ocf [] [] [] 0 (ok_telltalelaw19_Long p0.Bound r9_1 hr9_1) (fun a w => Try.call7 a w) rfl trivial) <| Wm (.i r9_1) rfl <| Nn <| Rt ?_
  obtain rfl := Option.some.inj hm
  exact ret_i []

theorem ok_telltalelaw19_Own (p0 : GMatch) (r : GMatch) (h : m_telltalelaw19_Own p0 = some r) : GCall Try.prog 25 [(.agg [(.i p0.Pattern), (.s p0.Key), (.l enc_GPair p0.Bound)])] [] (.agg [(.i r.Pattern), (.s r.Key), (.own 0)]) [(Ar 45 6 enc_GPair r.Bound)] := by
 refine GCall.of_body (n := 11) (rs := [(.cell 2 61)]) Try.func25 rfl rfl rfl <| Ato ⟨.agg [(.i p0.Pattern), (.s p0.Key), (.l enc_GPair p0.Bound)]::tu 10 [], [], 0⟩ ?_
 have hm := h
 unfold m_telltalelaw19_Own at hm
 refine Sx <| Wy (.loc 0 0) [(0, (.box [(.i p0.Pattern), (.s p0.Key), (.l enc_GPair p0.Bound)]))] (Obx rfl) <| Wy (.loc 1 0) [(1, (.box [(.i 0), (.s ([] : List UInt8)), (.d .nil)]))] (Oal rfl) <| Nk 6 3 ⟨tp 1 (.loc 0 0::.loc 1 0::tp 8 []), [(.box [(.i p0.Pattern), (.s p0.Key), (.l enc_GPair p0.Bound)]), (.box [(.i 0), (.s ([] : List UInt8)), (.d .nil)])], 0⟩ <| Sq <| Adr <| Wz (.loc 0 0) (Ofa rfl) <| Wz (.i p0.Pattern) (Old rfl) <| Wz (.loc 0 1) (Ofa rfl) <| Wz (.s p0.Key) (Old rfl) <| Wz (.loc 0 2) (Ofa rfl) <| Wz (.l enc_GPair p0.Bound) (Old rfl) ?_
 obtain ⟨r9_0, hr9_0, hm⟩ := bnd hm
 refine Wy (.own 2) [(2, (Ar 45 6 enc_GPair r9_0))] (Ocf [] [2] [] 0 (ok_telltalelaw19_Pairs p0.Bound r9_0 hr9_0) (fun a w => Try.call9 a w) rfl trivial) <| Wz (.agg [(.i p0.Pattern), (.s p0.Key), (.own 2)]) (Obd rfl) <| Wy (.tup []) [(1, (.box [(.i p0.Pattern), (.s p0.Key), (.own 2)]))] (Ost rfl) <| Wdr <| Tn <| Rt ?_
 obtain rfl := Option.some.inj hm
 exact ret_i [2]

theorem ok_telltalelaw19_BindOnce (p0 : (List GMatch)) (r : Bool) (h : m_telltalelaw19_BindOnce p0 = some r) : GCall Try.prog 6 [(.l enc_GMatch p0)] [] (.b r) [] := by
 refine GCall.of_body (n := 134) (rs := [(.tmp 2)]) Try.func6 rfl rfl rfl <| Ato ⟨.l enc_GMatch p0::tu 133 [], [], 0⟩ ?_
 have hm := h
 unfold m_telltalelaw19_BindOnce at hm
 refine Sx <| Wm (.b false) rfl <| Nk 1 0 ⟨.l enc_GMatch p0::tp 133 [], [], 0⟩ <| Sq <| Sx <| Wm (.l enc_GMatch p0) rfl <| Wz (.i ((List.length p0 : Nat) : Int)) (Oln rfl) <| Wz (.b (decide ((12 : Int) < ((List.length p0 : Nat) : Int)))) (Obn rfl (fun _ => hb_gtr (k := .i64))) <| Nk 65537 0 ⟨.l enc_GMatch p0::tp 15 (.b (decide ((12 : Int) < ((List.length p0 : Nat) : Int)))::tp 117 []), [], 0⟩ ?_
 rcases tf_ (decide ((12 : Int) < ((List.length p0 : Nat) : Int))) with hc16_21 | hc16_21
 ·
  replace hm := cT hc16_21 hm
  refine AiT hc16_21 <| Sx ?_
  obtain ⟨r17_1, hr17_1, hm⟩ := bnd hm
  refine Wz (.b r17_1) (Ocf [] [] [] 0 (ok_telltalelaw19_awake  r17_1 hr17_1) (fun a w => Try.call8 a w) rfl trivial) <| Wm (.b r17_1) rfl <| Nn <| Rt <| Tr ?_
  obtain rfl := Option.some.inj hm
  exact ret_i []
 ·
  replace hm := cF hc16_21 hm
  refine AiF hc16_21 <| Sk <| Tk 1 0 ⟨.l enc_GMatch p0::tp 133 [], [], 0⟩ <| Sx <| Wm (.d .nil) rfl <| Wm (.d .nil) rfl <| Nk 25 0 ⟨.l enc_GMatch p0::tp 2 (.d .nil::.d .nil::tp 129 []), [], 0⟩ <| Sq <| Sx <| Wm (.i 0) rfl <| Nk 57 0 ⟨.l enc_GMatch p0::tp 2 (.d .nil::.d .nil::.i 0::tp 128 []), [], 0⟩ <| Bk <| Aow 3 61 3 ⟨.l enc_GMatch p0::tp 2 (.own 0::.d .nil::.i 0::tp 128 []), [(Ar 61 3 enc_GMatch ([] : List GMatch))], 0⟩ ?_
  refine AWP.loopI (α := Nat × (List GMatch) × Int)
    (fun (fu_2, y3_2, y5_2) => (⟨.l enc_GMatch p0::tp 2 (.own 0::.d .nil::.i y5_2::tp 128 []), [(Ar 61 3 enc_GMatch y3_2)], 0⟩ : St))
    (fun (fu_2, y3_2, y5_2) => m_telltalelaw19_BindOnce_l2 p0 fu_2 y3_2 y5_2 = some r)
    (fun (fu_2, y3_2, y5_2) => fu_2) (1152921504606846976, ([] : List GMatch), 0)
    (Weak.toK 57 0 0 [0]) hm ?_
  rintro ⟨fu_2, y3_2, y5_2⟩ n_2 hm ih_2
  try dsimp only at hm ih_2 ⊢
  cases fu_2 with
  | zero => exact absurd hm (by unfold m_telltalelaw19_BindOnce_l2; simp)
  | succ fu_2 =>
   unfold m_telltalelaw19_BindOnce_l2 at hm
   refine Sq <| Sx <| Wm (.i y5_2) rfl <| Wm (.l enc_GMatch p0) rfl <| Wz (.i ((List.length p0 : Nat) : Int)) (Oln rfl) <| Wz (.b (decide (y5_2 < ((List.length p0 : Nat) : Int)))) (Obn rfl (fun _ => hb_lss (k := .i64))) <| Nk 2097209 1 ⟨.l enc_GMatch p0::tp 2 (.own 0::.d .nil::.i y5_2::tp 15 (.b (decide (y5_2 < ((List.length p0 : Nat) : Int)))::tp 112 [])), [(Ar 61 3 enc_GMatch y3_2)], 0⟩ ?_
   rcases tf_ (decide (y5_2 < ((List.length p0 : Nat) : Int))) with hc21_22 | hc21_22
   ·
    replace hm := cT hc21_22 hm
    refine AiT hc21_22 <| Sk <| Tk 57 1 ⟨.l enc_GMatch p0::tp 2 (.own 0::.d .nil::.i y5_2::tp 128 []), [(Ar 61 3 enc_GMatch y3_2)], 0⟩ <| Sq <| Bk <| Sq <| Sx <| Wm (.l enc_GMatch p0) rfl <| Wm (.i y5_2) rfl ?_
    obtain ⟨x26_4, hx26_4, hm⟩ := bnd hm
    obtain ⟨hx26_4i, hx26_4g⟩ := geti_some hx26_4
    refine Wz (.d (.ref (List.drop ((Int.toNat y5_2) * 3) (flatD enc_GMatch p0)))) (Oia rfl enc_GMatch_len hx26_4i hx26_4g) <| Wz (.agg [(.i x26_4.Pattern), (.s x26_4.Key), (.l enc_GPair x26_4.Bound)]) (Lf rfl enc_GMatch_len hx26_4g) ?_
    obtain ⟨r28_4, hr28_4, hm⟩ := bnd hm
    refine Wz (.i r28_4) (Ocf [] [] [] 0 (ok_telltalelaw19_Over x26_4 r28_4 hr28_4) (fun a w => Try.call24 a w) rfl trivial) <| Wz (.b (decide ((0 : Int) < r28_4))) (Obn rfl (fun _ => hb_gtr (k := .i64))) <| Nk 536870969 1 ⟨.l enc_GMatch p0::tp 2 (.own 0::.d .nil::.i y5_2::tp 23 (.b (decide ((0 : Int) < r28_4))::tp 104 [])), [(Ar 61 3 enc_GMatch y3_2)], 0⟩ ?_
    rcases tf_ (decide ((0 : Int) < r28_4)) with hc29_23 | hc29_23
    ·
     replace hm := cT hc29_23 hm
     refine AiT hc29_23 <| Sx ?_
     obtain ⟨r30_5, hr30_5, hm⟩ := bnd hm
     refine Wz (.b r30_5) (Ocf [] [] [] 0 (ok_telltalelaw19_awake  r30_5 hr30_5) (fun a w => Try.call8 a w) rfl trivial) <| Wm (.b r30_5) rfl <| Nn <| Rt <| Tr <| Ir <| Tr <| RoundK.ret <| Ir <| Tr ?_
     obtain rfl := Option.some.inj hm
     exact ret_i []
    ·
     replace hm := cF hc29_23 hm
     refine AiF hc29_23 <| Sk <| Tk 57 1 ⟨.l enc_GMatch p0::tp 2 (.own 0::.d .nil::.i y5_2::tp 128 []), [(Ar 61 3 enc_GMatch y3_2)], 0⟩ <| Sx <| Wm (.own 0) rfl <| Wz (.i ((List.length y3_2 : Nat) : Int)) (Oln rfl) <| Wm (.i ((List.length y3_2 : Nat) : Int)) rfl <| Nk 121 1 ⟨.l enc_GMatch p0::tp 2 (.own 0::.d .nil::.i y5_2::.i ((List.length y3_2 : Nat) : Int)::tp 127 []), [(Ar 61 3 enc_GMatch y3_2)], 0⟩ <| Sx <| Wm (.own 0) rfl <| Wm (.l enc_GMatch p0) rfl <| Wm (.i y5_2) rfl ?_
     obtain ⟨x37_7, hx37_7, hm⟩ := bnd hm
     obtain ⟨hx37_7i, hx37_7g⟩ := geti_some hx37_7
     refine Wz (.d (.ref (List.drop ((Int.toNat y5_2) * 3) (flatD enc_GMatch p0)))) (Oia rfl enc_GMatch_len hx37_7i hx37_7g) <| Wz (.agg [(.i x37_7.Pattern), (.s x37_7.Key), (.l enc_GPair x37_7.Bound)]) (Lf rfl enc_GMatch_len hx37_7g) ?_
     obtain ⟨r39_7, hr39_7, hm⟩ := bnd hm
     refine Wy (.agg [(.i r39_7.Pattern), (.s r39_7.Key), (.own 1)]) [(1, (Ar 45 6 enc_GPair r39_7.Bound))] (Ocf [] [1] [] 0 (ok_telltalelaw19_Own x37_7 r39_7 hr39_7) (fun a w => Try.call25 a w) rfl trivial) ?_
     obtain ⟨r40_7, hr40_7, hm⟩ := bnd hm
     refine Wy (.tup [(.own 2), (.b r40_7.2)]) [(2, (Ar 61 3 enc_GMatch r40_7.1)), (0, (.fro 61 3 (List.length y3_2) (flatD enc_GMatch y3_2))), (1, (.fro 45 6 (List.length r39_7.Bound) (flatD enc_GPair r39_7.Bound)))] (Ocf [] [2] [0, 1] 0 (ok_bind_Put y3_2 r39_7 r40_7 hr40_7) (fun a w => Try.call30 a w) rfl trivial) <| Wm (.tup [(.own 2), (.b r40_7.2)]) rfl <| Wz (.own 2) (Oex rfl) <| Wz (.b r40_7.2) (Oex rfl) <| Wm (.own 2) rfl <| Wm (.b r40_7.2) rfl <| Nk 497 4 ⟨.l enc_GMatch p0::tp 3 (.d .nil::.i y5_2::.i ((List.length y3_2 : Nat) : Int)::.own 2::.b r40_7.2::tp 125 []), [.gone, .gone, (Ar 61 3 enc_GMatch r40_7.1)], 0⟩ <| Sq <| Sx <| Wm (.b r40_7.2) rfl <| Wm (.own 2) rfl <| Wz (.i ((List.length r40_7.1 : Nat) : Int)) (Oln rfl) <| Wm (.i ((List.length y3_2 : Nat) : Int)) rfl <| Wz (.i (W6 (((List.length y3_2 : Nat) : Int) + 1))) (Obn rfl (fun _ => hb_add (k := .i64))) ?_
     refine Wz (.b (decide (((List.length r40_7.1 : Nat) : Int) = (W6 (((List.length y3_2 : Nat) : Int) + 1))))) (Obn rfl (fun _ => hb_eql (k := .i64))) ?_
     obtain ⟨v49_8, hv49_8, hm⟩ := bnd hm; replace hv49_8 := Option.some.inj hv49_8
     refine Wz (.b v49_8) (Ocs (Eq.trans (by kernel_rfl) (congrArg (fun z => A.d (.lit (.bool z))) hv49_8)) (op_bin rfl (a1 := .bool r40_7.2) (a2 := .bool (decide (((List.length r40_7.1 : Nat) : Int) = (W6 (((List.length y3_2 : Nat) : Int) + 1))))) (by kernel_rfl) (by kernel_rfl) (fun _ => hb_bneq (by kernel_rfl)))) ?_
     rcases tf_ v49_8 with hq50_8 | hq50_8
     ·
      replace hm := cT hq50_8 hm
      refine Wz (.b true) (Oq hq50_8 rfl) <| Wn <| Wn <| Wn <| Wn <| Wn <| Wn <| Wn <| Wn <| Wz (.b true) (OpT rfl) <| Nk 576460752303423665 4 ⟨.l enc_GMatch p0::tp 3 (.d .nil::.i y5_2::tp 1 (.own 2::tp 51 (.b true::tp 74 []))), [.gone, .gone, (Ar 61 3 enc_GMatch r40_7.1)], 0⟩ <| AWP.if_ true (by kernel_rfl) <| Sx <| Wm (.b false) rfl ?_
      refine Nn <| Rt <| Tr <| Ir <| Tr <| RoundK.ret <| Ir <| Tr ?_
      obtain rfl := Option.some.inj hm
      exact ret_i []
     ·
      replace hm := cF hq50_8 hm
      refine Wz (.b false) (Oq hq50_8 rfl) <| Wm (.b r40_7.2) rfl <| Wz (.b (!r40_7.2)) (Ocs (by kernel_rfl) (op_un rfl (a1 := .bool r40_7.2) (by kernel_rfl) (fun _ => hu_not))) ?_
      rcases tf_ (!r40_7.2) with hq53_8 | hq53_8
      ·
       replace hm := cT hq53_8 hm
       refine Wz (.b true) (Oq hq53_8 rfl) <| Wm (.own 2) rfl <| Wz (.i ((List.length r40_7.1 : Nat) : Int)) (Oln rfl) <| Wm (.i ((List.length y3_2 : Nat) : Int)) rfl <| Wz (.b (decide (((List.length r40_7.1 : Nat) : Int) ≠ ((List.length y3_2 : Nat) : Int)))) (Obn rfl (fun _ => hb_neq (k := .i64))) <| Wz (.b (decide (((List.length r40_7.1 : Nat) : Int) ≠ ((List.length y3_2 : Nat) : Int)))) (OpT rfl) <| Wz (.b (decide (((List.length r40_7.1 : Nat) : Int) ≠ ((List.length y3_2 : Nat) : Int)))) (OpF rfl) <| Nk 576460752303423665 4 ⟨.l enc_GMatch p0::tp 3 (.d .nil::.i y5_2::tp 1 (.own 2::tp 51 (.b (decide (((List.length r40_7.1 : Nat) : Int) ≠ ((List.length y3_2 : Nat) : Int)))::tp 74 []))), [.gone, .gone, (Ar 61 3 enc_GMatch r40_7.1)], 0⟩ ?_
       rcases tf_ (decide (((List.length r40_7.1 : Nat) : Int) ≠ ((List.length y3_2 : Nat) : Int))) with hc59_24 | hc59_24
       ·
        replace hm := cT hc59_24 hm
        refine AiT hc59_24 <| Sx <| Wm (.b false) rfl <| Nn <| Rt <| Tr <| Ir <| Tr <| RoundK.ret <| Ir <| Tr ?_
        obtain rfl := Option.some.inj hm
        exact ret_i []
       ·
        replace hm := cF hc59_24 hm
        refine AiF hc59_24 <| Sk <| Tk 177 4 ⟨.l enc_GMatch p0::tp 3 (.d .nil::.i y5_2::tp 1 (.own 2::tp 126 [])), [.gone, .gone, (Ar 61 3 enc_GMatch r40_7.1)], 0⟩ <| Tx <| Wm (.own 2) rfl <| Wm (.own 2) rfl <| Wn0 <| Ino <| Tk 57 4 ⟨.l enc_GMatch p0::tp 2 (.own 2::.d .nil::.i y5_2::tp 128 []), [.gone, .gone, (Ar 61 3 enc_GMatch r40_7.1)], 0⟩ <| Tx <| Wm (.i y5_2) rfl <| Wz (.i (W6 (y5_2 + 1))) (Obn rfl (fun _ => hb_add (k := .i64))) <| Wm (.i (W6 (y5_2 + 1))) rfl <| Wn0 ?_
        refine RoundK.normal ?_
        exact Rounds.weak (Weak.toK 57 0 0 [2]) (ih_2 (fu_2, r40_7.1, (W6 (y5_2 + 1))) hm (Nat.lt_succ_self _))
      ·
       replace hm := cF hq53_8 hm
       refine Wz (.b false) (Oq hq53_8 rfl) <| Wn <| Wn <| Wn <| Wn <| Wz (.b false) (OpF rfl) <| Wz (.b false) (OpF rfl) <| Nk 576460752303423665 4 ⟨.l enc_GMatch p0::tp 3 (.d .nil::.i y5_2::tp 1 (.own 2::tp 51 (.b false::tp 74 []))), [.gone, .gone, (Ar 61 3 enc_GMatch r40_7.1)], 0⟩ <| AWP.if_ false (by kernel_rfl) <| Sk <| Tk 177 4 ⟨.l enc_GMatch p0::tp 3 (.d .nil::.i y5_2::tp 1 (.own 2::tp 126 [])), [.gone, .gone, (Ar 61 3 enc_GMatch r40_7.1)], 0⟩ <| Tx <| Wm (.own 2) rfl <| Wm (.own 2) rfl ?_
       refine Wn0 <| Ino <| Tk 57 4 ⟨.l enc_GMatch p0::tp 2 (.own 2::.d .nil::.i y5_2::tp 128 []), [.gone, .gone, (Ar 61 3 enc_GMatch r40_7.1)], 0⟩ <| Tx <| Wm (.i y5_2) rfl <| Wz (.i (W6 (y5_2 + 1))) (Obn rfl (fun _ => hb_add (k := .i64))) <| Wm (.i (W6 (y5_2 + 1))) rfl <| Wn0 <| RoundK.normal ?_
       exact Rounds.weak (Weak.toK 57 0 0 [2]) (ih_2 (fu_2, r40_7.1, (W6 (y5_2 + 1))) hm (Nat.lt_succ_self _))
   ·
    replace hm := cF hc21_22 hm
    refine AiF hc21_22 <| AWP.exit <| Then.exit <| RoundK.exit <| InBlock.same <| Tk 25 1 ⟨.l enc_GMatch p0::tp 2 (.own 0::.d .nil::tp 129 []), [(Ar 61 3 enc_GMatch y3_2)], 0⟩ <| Sq <| Sx <| Wm (.l enc_GMatch p0) rfl <| Wz (.i ((List.length p0 : Nat) : Int)) (Oln rfl) <| Wz (.i (W6 (((List.length p0 : Nat) : Int) - 1))) (Obn rfl (fun _ => hb_sub (k := .i64))) <| Wm (.i (W6 (((List.length p0 : Nat) : Int) - 1))) rfl <| Nk 537 1 ⟨.l enc_GMatch p0::tp 2 (.own 0::.d .nil::tp 4 (.i (W6 (((List.length p0 : Nat) : Int) - 1))::tp 124 [])), [(Ar 61 3 enc_GMatch y3_2)], 0⟩ <| Bk ?_
    refine Aow 4 61 3 ⟨.l enc_GMatch p0::tp 2 (.own 0::.own 1::tp 4 (.i (W6 (((List.length p0 : Nat) : Int) - 1))::tp 124 [])), [(Ar 61 3 enc_GMatch y3_2), (Ar 61 3 enc_GMatch ([] : List GMatch))], 0⟩ ?_
    refine AWP.loopI (α := Nat × (List GMatch) × Int)
      (fun (fu_10, y4_10, y9_10) => (⟨.l enc_GMatch p0::tp 2 (.own 0::.own 1::tp 4 (.i y9_10::tp 124 [])), [(Ar 61 3 enc_GMatch y3_2), (Ar 61 3 enc_GMatch y4_10)], 0⟩ : St))
      (fun (fu_10, y4_10, y9_10) => m_telltalelaw19_BindOnce_l10 p0 y3_2 fu_10 y4_10 y9_10 = some r)
      (fun (fu_10, y4_10, y9_10) => fu_10) (1152921504606846976, ([] : List GMatch), (W6 (((List.length p0 : Nat) : Int) - 1)))
      (Weak.toK 537 0 0 [0, 1]) hm ?_
    rintro ⟨fu_10, y4_10, y9_10⟩ n_10 hm ih_10
    try dsimp only at hm ih_10 ⊢
    cases fu_10 with
    | zero => exact absurd hm (by unfold m_telltalelaw19_BindOnce_l10; simp)
    | succ fu_10 =>
     unfold m_telltalelaw19_BindOnce_l10 at hm
     refine Sq <| Sx <| Wm (.i y9_10) rfl <| Wz (.b (decide ((0 : Int) ≤ y9_10))) (Obn rfl (fun _ => hb_geq (k := .i64))) <| Nk 36893488147419103769 3 ⟨.l enc_GMatch p0::tp 2 (.own 0::.own 1::tp 4 (.i y9_10::tp 55 (.b (decide ((0 : Int) ≤ y9_10))::tp 68 []))), [(Ar 61 3 enc_GMatch y3_2), (Ar 61 3 enc_GMatch y4_10)], 0⟩ ?_
     rcases tf_ (decide ((0 : Int) ≤ y9_10)) with hc65_25 | hc65_25
     ·
      replace hm := cT hc65_25 hm
      refine AiT hc65_25 <| Sk <| Tk 537 3 ⟨.l enc_GMatch p0::tp 2 (.own 0::.own 1::tp 4 (.i y9_10::tp 124 [])), [(Ar 61 3 enc_GMatch y3_2), (Ar 61 3 enc_GMatch y4_10)], 0⟩ <| Sq <| Bk <| Tx <| Wm (.own 1) rfl <| Wm (.l enc_GMatch p0) rfl <| Wm (.i y9_10) rfl ?_
      obtain ⟨x72_11, hx72_11, hm⟩ := bnd hm
      obtain ⟨hx72_11i, hx72_11g⟩ := geti_some hx72_11
      refine Wz (.d (.ref (List.drop ((Int.toNat y9_10) * 3) (flatD enc_GMatch p0)))) (Oia rfl enc_GMatch_len hx72_11i hx72_11g) <| Wz (.agg [(.i x72_11.Pattern), (.s x72_11.Key), (.l enc_GPair x72_11.Bound)]) (Lf rfl enc_GMatch_len hx72_11g) ?_
      obtain ⟨r74_11, hr74_11, hm⟩ := bnd hm
      refine Wy (.agg [(.i r74_11.Pattern), (.s r74_11.Key), (.own 2)]) [(2, (Ar 45 6 enc_GPair r74_11.Bound))] (Ocf [] [2] [] 0 (ok_telltalelaw19_Own x72_11 r74_11 hr74_11) (fun a w => Try.call25 a w) rfl trivial) ?_
      obtain ⟨r75_11, hr75_11, hm⟩ := bnd hm
      refine Wy (.tup [(.own 3), (.b r75_11.2)]) [(3, (Ar 61 3 enc_GMatch r75_11.1)), (1, (.fro 61 3 (List.length y4_10) (flatD enc_GMatch y4_10))), (2, (.fro 45 6 (List.length r74_11.Bound) (flatD enc_GPair r74_11.Bound)))] (Ocf [] [3] [1, 2] 0 (ok_bind_Put y4_10 r74_11 r75_11 hr75_11) (fun a w => Try.call30 a w) rfl trivial) <| Wm (.tup [(.own 3), (.b r75_11.2)]) rfl <| Wz (.own 3) (Oex rfl) <| Wz (.b r75_11.2) (Oex rfl) <| Wm (.own 3) rfl <| Wn0 <| Ino <| Tk 537 9 ⟨.l enc_GMatch p0::tp 2 (.own 0::.own 3::tp 4 (.i y9_10::tp 124 [])), [(Ar 61 3 enc_GMatch y3_2), .gone, .gone, (Ar 61 3 enc_GMatch r75_11.1)], 0⟩ <| Tx <| Wm (.i y9_10) rfl <| Wz (.i (W6 (y9_10 - 1))) (Obn rfl (fun _ => hb_sub (k := .i64))) <| Wm (.i (W6 (y9_10 - 1))) rfl <| Wn0 <| RoundK.normal ?_
      exact Rounds.weak (Weak.toK 537 0 0 [0, 3]) (ih_10 (fu_10, r75_11.1, (W6 (y9_10 - 1))) hm (Nat.lt_succ_self _))
     ·
      replace hm := cF hc65_25 hm
      refine AiF hc65_25 <| AWP.exit <| Then.exit <| RoundK.exit <| InBlock.same <| Tk 25 3 ⟨.l enc_GMatch p0::tp 2 (.own 0::.own 1::tp 129 []), [(Ar 61 3 enc_GMatch y3_2), (Ar 61 3 enc_GMatch y4_10)], 0⟩ <| Sq <| Sx <| Wm (.own 0) rfl <| Wz (.i ((List.length y3_2 : Nat) : Int)) (Oln rfl) <| Wm (.own 1) rfl <| Wz (.i ((List.length y4_10 : Nat) : Int)) (Oln rfl) <| Wz (.b (decide (((List.length y3_2 : Nat) : Int) ≠ ((List.length y4_10 : Nat) : Int)))) (Obn rfl (fun _ => hb_neq (k := .i64))) <| Nk 4835703278458516698824729 3 ⟨.l enc_GMatch p0::tp 2 (.own 0::.own 1::tp 77 (.b (decide (((List.length y3_2 : Nat) : Int) ≠ ((List.length y4_10 : Nat) : Int)))::tp 51 [])), [(Ar 61 3 enc_GMatch y3_2), (Ar 61 3 enc_GMatch y4_10)], 0⟩ ?_
      rcases tf_ (decide (((List.length y3_2 : Nat) : Int) ≠ ((List.length y4_10 : Nat) : Int))) with hc82_26 | hc82_26
      ·
       replace hm := cT hc82_26 hm
       refine AiT hc82_26 <| Sx <| Wm (.b false) rfl <| Nn <| Rt <| Tr ?_
       obtain rfl := Option.some.inj hm
       exact ret_i []
      ·
       replace hm := cF hc82_26 hm
       refine AiF hc82_26 <| Sk <| Tk 25 3 ⟨.l enc_GMatch p0::tp 2 (.own 0::.own 1::tp 129 []), [(Ar 61 3 enc_GMatch y3_2), (Ar 61 3 enc_GMatch y4_10)], 0⟩ <| Sq <| Sx <| Wm (.i 0) rfl <| Nk 1049 3 ⟨.l enc_GMatch p0::tp 2 (.own 0::.own 1::tp 5 (.i 0::tp 123 [])), [(Ar 61 3 enc_GMatch y3_2), (Ar 61 3 enc_GMatch y4_10)], 0⟩ <| Bk ?_
       refine AWP.loopI (α := Nat × Int)
         (fun (fu_13, y10_13) => (⟨.l enc_GMatch p0::tp 2 (.own 0::.own 1::tp 5 (.i y10_13::tp 123 [])), [(Ar 61 3 enc_GMatch y3_2), (Ar 61 3 enc_GMatch y4_10)], 0⟩ : St))
         (fun (fu_13, y10_13) => m_telltalelaw19_BindOnce_l13 p0 y3_2 y4_10 fu_13 y10_13 = some r)
         (fun (fu_13, y10_13) => fu_13) (1152921504606846976, 0)
         (Weak.toK 1049 0 0 [0, 1]) hm ?_
       rintro ⟨fu_13, y10_13⟩ n_13 hm ih_13
       try dsimp only at hm ih_13 ⊢
       cases fu_13 with
       | zero => exact absurd hm (by unfold m_telltalelaw19_BindOnce_l13; simp)
       | succ fu_13 =>
        unfold m_telltalelaw19_BindOnce_l13 at hm
        refine Sq <| Sx <| Wm (.i y10_13) rfl <| Wm (.own 0) rfl <| Wz (.i ((List.length y3_2 : Nat) : Int)) (Oln rfl) <| Wz (.b (decide (y10_13 < ((List.length y3_2 : Nat) : Int)))) (Obn rfl (fun _ => hb_lss (k := .i64))) <| Nk 77371252455336267181196313 3 ⟨.l enc_GMatch p0::tp 2 (.own 0::.own 1::tp 5 (.i y10_13::tp 75 (.b (decide (y10_13 < ((List.length y3_2 : Nat) : Int)))::tp 47 []))), [(Ar 61 3 enc_GMatch y3_2), (Ar 61 3 enc_GMatch y4_10)], 0⟩ ?_
        rcases tf_ (decide (y10_13 < ((List.length y3_2 : Nat) : Int))) with hc86_27 | hc86_27
        ·
         replace hm := cT hc86_27 hm
         refine AiT hc86_27 <| Sk <| Tk 1049 3 ⟨.l enc_GMatch p0::tp 2 (.own 0::.own 1::tp 5 (.i y10_13::tp 123 [])), [(Ar 61 3 enc_GMatch y3_2), (Ar 61 3 enc_GMatch y4_10)], 0⟩ <| Sq <| Bk ?_
         refine AWP.cutJ (α := Bool) (fun x => match x with | y115_16 => (⟨.l enc_GMatch p0::tp 2 (.own 0::.own 1::tp 5 (.i y10_13::tp 104 (.b y115_16::tp 18 []))), [(Ar 61 3 enc_GMatch y3_2), (Ar 61 3 enc_GMatch y4_10)], 0⟩ : St)) (fun x => match x with | y115_16 => m_telltalelaw19_BindOnce_j16 y10_13 (fun y10_13 => m_telltalelaw19_BindOnce_l13 p0 y3_2 y4_10 fu_13 y10_13) y115_16 = some r) ?_ (fun J16 => ?_)
         ·
          rintro y115_16 hm
          try dsimp only at hm ⊢
          unfold m_telltalelaw19_BindOnce_j16 at hm
          rcases tf_ y115_16 with hc115_16 | hc115_16
          ·
           replace hm := cT hc115_16 hm
           refine AiT hc115_16 <| Sx <| Wm (.b false) rfl <| Nn <| Rt <| Ir <| Tr <| RoundK.ret <| Ir <| Tr ?_
           obtain rfl := Option.some.inj hm
           exact ret_i []
          ·
           replace hm := cF hc115_16 hm
           refine AiF hc115_16 <| Sk <| Ino <| Tk 1049 3 ⟨.l enc_GMatch p0::tp 2 (.own 0::.own 1::tp 5 (.i y10_13::tp 123 [])), [(Ar 61 3 enc_GMatch y3_2), (Ar 61 3 enc_GMatch y4_10)], 0⟩ <| Tx <| Wm (.i y10_13) rfl <| Wz (.i (W6 (y10_13 + 1))) (Obn rfl (fun _ => hb_add (k := .i64))) <| Wm (.i (W6 (y10_13 + 1))) rfl <| Wn0 <| RoundK.normal ?_
           exact Rounds.weak (Weak.toK 1049 0 0 [0, 1]) (ih_13 (fu_13, (W6 (y10_13 + 1))) hm (Nat.lt_succ_self _))
         refine Sq <| Adr <| Wm (.i y10_13) rfl <| Wz (.b (decide ((0 : Int) < y10_13))) (Obn rfl (fun _ => hb_gtr (k := .i64))) ?_
         rcases tf_ (decide ((0 : Int) < y10_13)) with hq91_15 | hq91_15
         ·
          replace hm := cT hq91_15 hm
          refine Wz (.b true) (Oq hq91_15 rfl) <| Wm (.own 0) rfl <| Wm (.i y10_13) rfl <| Wz (.i (W6 (y10_13 - 1))) (Obn rfl (fun _ => hb_sub (k := .i64))) ?_
          obtain ⟨x95_15, hx95_15, hm⟩ := bnd hm
          obtain ⟨hx95_15i, hx95_15g⟩ := geti_some hx95_15
          refine Wz (.loc 0 ((Int.toNat (W6 (y10_13 - 1))) * 3)) (Oia rfl enc_GMatch_len hx95_15i hx95_15g) <| Wz (.agg [(.i x95_15.Pattern), (.s x95_15.Key), (.l enc_GPair x95_15.Bound)]) (Lr rfl enc_GMatch_len hx95_15g) <| Wm (.own 0) rfl <| Wm (.i y10_13) rfl ?_
          obtain ⟨x99_15, hx99_15, hm⟩ := bnd hm
          obtain ⟨hx99_15i, hx99_15g⟩ := geti_some hx99_15
          refine Wz (.loc 0 ((Int.toNat y10_13) * 3)) (Oia rfl enc_GMatch_len hx99_15i hx99_15g) <| Wz (.agg [(.i x99_15.Pattern), (.s x99_15.Key), (.l enc_GPair x99_15.Bound)]) (Lr rfl enc_GMatch_len hx99_15g) ?_
          obtain ⟨r101_15, hr101_15, hm⟩ := bnd hm
          refine Wz (.i r101_15) (Ocf [] [] [] 0 (ok_bind_Before x95_15 x99_15 r101_15 hr101_15) (fun a w => Try.call26 a w) rfl trivial) <| Wz (.b (decide ((0 : Int) ≤ r101_15))) (Obn rfl (fun _ => hb_geq (k := .i64))) <| Wz (.b (decide ((0 : Int) ≤ r101_15))) (OpT rfl) ?_
          rcases tf_ (decide ((0 : Int) ≤ r101_15)) with hq104_15 | hq104_15
          ·
           replace hm := cT hq104_15 hm
           refine Wz (.b true) (Oq hq104_15 rfl) <| Wn <| Wn <| Wn <| Wn <| Wn <| Wn <| Wn <| Wn <| Wn <| Wn <| Wz (.b true) (OpT rfl) <| Wdr <| Tk 41538374868278621028243970633761817 3 ⟨.l enc_GMatch p0::tp 2 (.own 0::.own 1::tp 5 (.i y10_13::tp 104 (.b true::tp 18 []))), [(Ar 61 3 enc_GMatch y3_2), (Ar 61 3 enc_GMatch y4_10)], 0⟩ ?_
           refine AWP.if_ true (by kernel_rfl) <| Sx <| Wm (.b false) rfl <| Nn <| Rt <| Ir <| Tr <| RoundK.ret <| Ir <| Tr ?_
           obtain rfl := Option.some.inj hm
           exact ret_i []
          ·
           replace hm := cF hq104_15 hm
           refine Wz (.b false) (Oq hq104_15 rfl) <| Wm (.own 0) rfl <| Wm (.i y10_13) rfl ?_
           obtain ⟨x107_15, hx107_15, hm⟩ := bnd hm
           obtain ⟨hx107_15i, hx107_15g⟩ := geti_some hx107_15
           refine Wz (.loc 0 ((Int.toNat y10_13) * 3)) (Oia rfl enc_GMatch_len hx107_15i hx107_15g) <| Wz (.agg [(.i x107_15.Pattern), (.s x107_15.Key), (.l enc_GPair x107_15.Bound)]) (Lr rfl enc_GMatch_len hx107_15g) <| Wm (.own 1) rfl <| Wm (.i y10_13) rfl ?_
           obtain ⟨x111_15, hx111_15, hm⟩ := bnd hm
           obtain ⟨hx111_15i, hx111_15g⟩ := geti_some hx111_15
           refine Wz (.loc 1 ((Int.toNat y10_13) * 3)) (Oia rfl enc_GMatch_len hx111_15i hx111_15g) <| Wz (.agg [(.i x111_15.Pattern), (.s x111_15.Key), (.l enc_GPair x111_15.Bound)]) (Lr rfl enc_GMatch_len hx111_15g) ?_
           obtain ⟨r113_15, hr113_15, hm⟩ := bnd hm
           refine Wz (.i r113_15) (Ocf [] [] [] 0 (ok_bind_Before x107_15 x111_15 r113_15 hr113_15) (fun a w => Try.call26 a w) rfl trivial) <| Wz (.b (decide (r113_15 ≠ 0))) (Obn rfl (fun _ => hb_neq (k := .i64))) <| Wz (.b (decide (r113_15 ≠ 0))) (OpF rfl) <| Wdr <| Tn ?_
           exact AWP.weak (Weak.toK 41538374868278621028243970633761817 0 0 [0, 1]) (J16 (decide (r113_15 ≠ 0)) hm)
         ·
          replace hm := cF hq91_15 hm
          refine Wz (.b false) (Oq hq91_15 rfl) <| Wn <| Wn <| Wn <| Wn <| Wn <| Wn <| Wn <| Wn <| Wn <| Wn <| Wn <| Wz (.b false) (OpF rfl) <| Wm (.b false) rfl ?_
          refine Wm (.own 0) rfl <| Wm (.i y10_13) rfl ?_
          obtain ⟨x107_15, hx107_15, hm⟩ := bnd hm
          obtain ⟨hx107_15i, hx107_15g⟩ := geti_some hx107_15
          refine Wz (.loc 0 ((Int.toNat y10_13) * 3)) (Oia rfl enc_GMatch_len hx107_15i hx107_15g) <| Wz (.agg [(.i x107_15.Pattern), (.s x107_15.Key), (.l enc_GPair x107_15.Bound)]) (Lr rfl enc_GMatch_len hx107_15g) <| Wm (.own 1) rfl <| Wm (.i y10_13) rfl ?_
          obtain ⟨x111_15, hx111_15, hm⟩ := bnd hm
          obtain ⟨hx111_15i, hx111_15g⟩ := geti_some hx111_15
          refine Wz (.loc 1 ((Int.toNat y10_13) * 3)) (Oia rfl enc_GMatch_len hx111_15i hx111_15g) <| Wz (.agg [(.i x111_15.Pattern), (.s x111_15.Key), (.l enc_GPair x111_15.Bound)]) (Lr rfl enc_GMatch_len hx111_15g) ?_
          obtain ⟨r113_15, hr113_15, hm⟩ := bnd hm
          refine Wz (.i r113_15) (Ocf [] [] [] 0 (ok_bind_Before x107_15 x111_15 r113_15 hr113_15) (fun a w => Try.call26 a w) rfl trivial) <| Wz (.b (decide (r113_15 ≠ 0))) (Obn rfl (fun _ => hb_neq (k := .i64))) <| Wz (.b (decide (r113_15 ≠ 0))) (OpF rfl) <| Wdr <| Tn ?_
          exact AWP.weak (Weak.toK 41538374868278621028243970633761817 0 0 [0, 1]) (J16 (decide (r113_15 ≠ 0)) hm)
        ·
         replace hm := cF hc86_27 hm
         refine AiF hc86_27 <| AWP.exit <| Then.exit <| RoundK.exit <| InBlock.same <| Tk 9 1 ⟨.l enc_GMatch p0::tp 2 (.own 0::tp 130 []), [(Ar 61 3 enc_GMatch y3_2), .gone], 0⟩ <| Sq <| Sx <| Wm (.i 0) rfl <| Nk 2057 1 ⟨.l enc_GMatch p0::tp 2 (.own 0::tp 7 (.i 0::tp 122 [])), [(Ar 61 3 enc_GMatch y3_2), .gone], 0⟩ <| Bk <| Afz [0] ⟨.l enc_GMatch p0::tp 2 (.l enc_GMatch y3_2::tp 7 (.i 0::tp 122 [])), [(.fro 61 3 (List.length y3_2) (flatD enc_GMatch y3_2)), .gone], 0⟩ ?_
         refine AWP.loopI (α := Nat × Int)
           (fun (fu_17, y11_17) => (⟨.l enc_GMatch p0::tp 2 (.l enc_GMatch y3_2::tp 7 (.i y11_17::tp 122 [])), [], 0⟩ : St))
           (fun (fu_17, y11_17) => m_telltalelaw19_BindOnce_l17 p0 y3_2 fu_17 y11_17 = some r)
           (fun (fu_17, y11_17) => fu_17) (1152921504606846976, 0)
           (Weak.toK 2057 0 0 []) hm ?_
         rintro ⟨fu_17, y11_17⟩ n_17 hm ih_17
         try dsimp only at hm ih_17 ⊢
         cases fu_17 with
         | zero => exact absurd hm (by unfold m_telltalelaw19_BindOnce_l17; simp)
         | succ fu_17 =>
          unfold m_telltalelaw19_BindOnce_l17 at hm
          refine Sq <| Sx <| Wm (.i y11_17) rfl <| Wm (.l enc_GMatch p0) rfl <| Wz (.i ((List.length p0 : Nat) : Int)) (Oln rfl) <| Wz (.b (decide (y11_17 < ((List.length p0 : Nat) : Int)))) (Obn rfl (fun _ => hb_lss (k := .i64))) <| Nk 664613997892457936451903530140174345 0 ⟨.l enc_GMatch p0::tp 2 (.l enc_GMatch y3_2::tp 7 (.i y11_17::tp 107 (.b (decide (y11_17 < ((List.length p0 : Nat) : Int)))::tp 14 []))), [], 0⟩ ?_
          rcases tf_ (decide (y11_17 < ((List.length p0 : Nat) : Int))) with hc119_28 | hc119_28
          ·
           replace hm := cT hc119_28 hm
           refine AiT hc119_28 <| Sk <| Tk 2057 0 ⟨.l enc_GMatch p0::tp 2 (.l enc_GMatch y3_2::tp 7 (.i y11_17::tp 122 [])), [], 0⟩ <| Sq <| Bk <| Sx <| Wm (.l enc_GMatch y3_2) rfl <| Wm (.l enc_GMatch p0) rfl <| Wm (.i y11_17) rfl ?_
           obtain ⟨x126_19, hx126_19, hm⟩ := bnd hm
           obtain ⟨hx126_19i, hx126_19g⟩ := geti_some hx126_19
           refine Wz (.d (.ref (List.drop ((Int.toNat y11_17) * 3) (flatD enc_GMatch p0)))) (Oia rfl enc_GMatch_len hx126_19i hx126_19g) <| Wz (.agg [(.i x126_19.Pattern), (.s x126_19.Key), (.l enc_GPair x126_19.Bound)]) (Lf rfl enc_GMatch_len hx126_19g) ?_
           obtain ⟨r128_19, hr128_19, hm⟩ := bnd hm
           refine Wy (.agg [(.i r128_19.Pattern), (.s r128_19.Key), (.own 0)]) [(0, (Ar 45 6 enc_GPair r128_19.Bound))] (Ocf [] [0] [] 0 (ok_telltalelaw19_Own x126_19 r128_19 hr128_19) (fun a w => Try.call25 a w) rfl trivial) ?_
           obtain ⟨r129_19, hr129_19, hm⟩ := bnd hm
           refine Wy (.tup [(.own 1), (.b r129_19.2)]) [(1, (Ar 61 3 enc_GMatch r129_19.1)), (0, (.fro 45 6 (List.length r128_19.Bound) (flatD enc_GPair r128_19.Bound)))] (Ocf [] [1] [0] 0 (ok_bind_Put y3_2 r128_19 r129_19 hr129_19) (fun a w => Try.call30 a w) rfl trivial) <| Wm (.tup [(.own 1), (.b r129_19.2)]) rfl <| Wz (.own 1) (Oex rfl) <| Wz (.b r129_19.2) (Oex rfl) <| Wm (.own 1) rfl <| Wm (.b r129_19.2) rfl <| Nk 10249 0 ⟨.l enc_GMatch p0::tp 2 (.l enc_GMatch y3_2::tp 7 (.i y11_17::tp 1 (.b r129_19.2::tp 120 []))), [.gone, .gone], 0⟩ <| Sx <| Wm (.b r129_19.2) rfl <| Nk 5444517870735015415413993718908291385353 0 ⟨.l enc_GMatch p0::tp 2 (.l enc_GMatch y3_2::tp 7 (.i y11_17::tp 120 (.b r129_19.2::tp 1 []))), [.gone, .gone], 0⟩ ?_
           rcases tf_ r129_19.2 with hc132_29 | hc132_29
           ·
            replace hm := cT hc132_29 hm
            refine AiT hc132_29 <| Sx <| Wm (.b false) rfl <| Nn <| Rt <| Ir <| Tr <| RoundK.ret <| Ir <| Tr ?_
            obtain rfl := Option.some.inj hm
            exact ret_i []
           ·
            replace hm := cF hc132_29 hm
            refine AiF hc132_29 <| Sk <| Ino <| Tk 2057 0 ⟨.l enc_GMatch p0::tp 2 (.l enc_GMatch y3_2::tp 7 (.i y11_17::tp 122 [])), [.gone, .gone], 0⟩ <| Tx <| Wm (.i y11_17) rfl <| Wz (.i (W6 (y11_17 + 1))) (Obn rfl (fun _ => hb_add (k := .i64))) <| Wm (.i (W6 (y11_17 + 1))) rfl <| Wn0 <| RoundK.normal ?_
            exact Rounds.weak (Weak.toK 2057 0 0 []) (ih_17 (fu_17, (W6 (y11_17 + 1))) hm (Nat.lt_succ_self _))
          ·
           replace hm := cF hc119_28 hm
           refine AiF hc119_28 <| AWP.exit <| Then.exit <| RoundK.exit <| InBlock.same <| Tk 0 0 ⟨tp 134 [], [], 0⟩ <| Sx ?_
           obtain ⟨r133_20, hr133_20, hm⟩ := bnd hm
           refine Wz (.b r133_20) (Ocf [] [] [] 0 (ok_telltalelaw19_awake  r133_20 hr133_20) (fun a w => Try.call8 a w) rfl trivial) <| Wm (.b r133_20) rfl <| Nn <| Rt ?_
           obtain rfl := Option.some.inj hm
           exact ret_i []
end Go.Proofs.Ytkagljfmfjaleaa.K
