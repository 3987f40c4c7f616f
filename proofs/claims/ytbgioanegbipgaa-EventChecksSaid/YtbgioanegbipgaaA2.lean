/- what telltalelaw07.EventChecks needs (2) -/
import Derived.Test.YtbgioanegbipgaaA1
namespace Go.Proofs.Ytbgioanegbipgaa.K
open Go.RowKit Go.Lib
set_option linter.unusedVariables false
set_option linter.unusedSimpArgs false
set_option maxRecDepth 20000
set_option maxHeartbeats 4000000

theorem ok_telltaleref06_Fits (p0 : GType) (p1 : (List GValue)) (r : Int) (h : m_telltaleref06_Fits p0 p1 = some r) : GCall Try.prog 51 [(.agg [(.s p0.Name), (.l enc_GField p0.Fields)]), (.l enc_GValue p1)] [] (.i r) [] := by
 refine GCall.of_body (n := 39) (rs := [(.tmp 4)]) Try.func51 rfl rfl rfl <| Ato ⟨.agg [(.s p0.Name), (.l enc_GField p0.Fields)]::.l enc_GValue p1::tu 37 [], [], 0⟩ ?_
 have hm := h
 unfold m_telltaleref06_Fits at hm
 refine Sx <| Wy (.loc 0 0) [(0, (.box [(.s p0.Name), (.l enc_GField p0.Fields)]))] (Obx rfl) <| Wm (.i 0) rfl <| Nk 6 1 ⟨tp 1 (.l enc_GValue p1::.loc 0 0::tp 36 []), [(.box [(.s p0.Name), (.l enc_GField p0.Fields)])], 0⟩ <| Sq <| Sx <| Wm (.l enc_GValue p1) rfl <| Wz (.i ((List.length p1 : Nat) : Int)) (Oln rfl) <| Wz (.loc 0 1) (Ofa rfl) <| Wz (.l enc_GField p0.Fields) (Old rfl) <| Wz (.i ((List.length p0.Fields : Nat) : Int)) (Oln rfl) <| Wz (.b (decide (((List.length p1 : Nat) : Int) ≠ ((List.length p0.Fields : Nat) : Int)))) (Obn rfl (fun _ => hb_neq (k := .i64))) <| Nk 4102 1 ⟨tp 1 (.l enc_GValue p1::.loc 0 0::tp 9 (.b (decide (((List.length p1 : Nat) : Int) ≠ ((List.length p0.Fields : Nat) : Int)))::tp 26 [])), [(.box [(.s p0.Name), (.l enc_GField p0.Fields)])], 0⟩ ?_
 rcases tf_ (decide (((List.length p1 : Nat) : Int) ≠ ((List.length p0.Fields : Nat) : Int))) with hc12_5 | hc12_5
 ·
  replace hm := cT hc12_5 hm
  refine AiT hc12_5 <| Sx <| Wm (.i 5) rfl <| Nn <| Rt <| Tr ?_
  obtain rfl := Option.some.inj hm
  exact ret_i []
 ·
  replace hm := cF hc12_5 hm
  refine AiF hc12_5 <| Sk <| Tk 6 1 ⟨tp 1 (.l enc_GValue p1::.loc 0 0::tp 36 []), [(.box [(.s p0.Name), (.l enc_GField p0.Fields)])], 0⟩ <| Sq <| Sx <| Wm (.i 0) rfl <| Nk 38 1 ⟨tp 1 (.l enc_GValue p1::.loc 0 0::tp 2 (.i 0::tp 33 [])), [(.box [(.s p0.Name), (.l enc_GField p0.Fields)])], 0⟩ <| Bk ?_
  refine AWP.loopI (α := Nat × Int)
    (fun (fu_1, y5_1) => (⟨tp 1 (.l enc_GValue p1::.loc 0 0::tp 2 (.i y5_1::tp 33 [])), [(.box [(.s p0.Name), (.l enc_GField p0.Fields)])], 0⟩ : St))
    (fun (fu_1, y5_1) => m_telltaleref06_Fits_l1 p0 p1 fu_1 y5_1 = some r)
    (fun (fu_1, y5_1) => fu_1) (1152921504606846976, 0)
    (Weak.toK 38 0 0 [0]) hm ?_
  rintro ⟨fu_1, y5_1⟩ n_1 hm ih_1
  try dsimp only at hm ih_1 ⊢
  cases fu_1 with
  | zero => exact absurd hm (by unfold m_telltaleref06_Fits_l1; simp)
  | succ fu_1 =>
   unfold m_telltaleref06_Fits_l1 at hm
   refine Sq <| Sx <| Wm (.i y5_1) rfl <| Wm (.l enc_GValue p1) rfl <| Wz (.i ((List.length p1 : Nat) : Int)) (Oln rfl) <| Wz (.b (decide (y5_1 < ((List.length p1 : Nat) : Int)))) (Obn rfl (fun _ => hb_lss (k := .i64))) <| Nk 65574 1 ⟨tp 1 (.l enc_GValue p1::.loc 0 0::tp 2 (.i y5_1::tp 10 (.b (decide (y5_1 < ((List.length p1 : Nat) : Int)))::tp 22 []))), [(.box [(.s p0.Name), (.l enc_GField p0.Fields)])], 0⟩ ?_
   rcases tf_ (decide (y5_1 < ((List.length p1 : Nat) : Int))) with hc16_6 | hc16_6
   ·
    replace hm := cT hc16_6 hm
    refine AiT hc16_6 <| Sk <| Tk 38 1 ⟨tp 1 (.l enc_GValue p1::.loc 0 0::tp 2 (.i y5_1::tp 33 [])), [(.box [(.s p0.Name), (.l enc_GField p0.Fields)])], 0⟩ <| Sq <| Bk <| Sq <| Sx <| Wm (.l enc_GValue p1) rfl <| Wm (.i y5_1) rfl ?_
    obtain ⟨x21_3, hx21_3, hm⟩ := bnd hm
    obtain ⟨hx21_3i, hx21_3g⟩ := geti_some hx21_3
    refine Wz (.d (.ref (List.drop ((Int.toNat y5_1) * 4) (flatD enc_GValue p1)))) (Oia rfl enc_GValue_len hx21_3i hx21_3g) <| Wz (.agg [(.y x21_3.Kind), (.i x21_3.N), (.u x21_3.Bits), (.s x21_3.Text)]) (Lf rfl enc_GValue_len hx21_3g) ?_
    obtain ⟨r23_3, hr23_3, hm⟩ := bnd hm
    refine Wz (.i r23_3) (Ocf [] [] [] 0 (ok_telltaleref04_Check x21_3 r23_3 hr23_3) (fun a w => Try.call67 a w) rfl trivial) <| Wm (.i r23_3) rfl <| Nk 102 1 ⟨tp 1 (.l enc_GValue p1::.loc 0 0::tp 2 (.i y5_1::.i r23_3::tp 32 [])), [(.box [(.s p0.Name), (.l enc_GField p0.Fields)])], 0⟩ <| Sx <| Wm (.i r23_3) rfl <| Wz (.b (decide (r23_3 ≠ 0))) (Obn rfl (fun _ => hb_neq (k := .i64))) <| Nk 33554534 1 ⟨tp 1 (.l enc_GValue p1::.loc 0 0::tp 2 (.i y5_1::.i r23_3::tp 18 (.b (decide (r23_3 ≠ 0))::tp 13 []))), [(.box [(.s p0.Name), (.l enc_GField p0.Fields)])], 0⟩ ?_
    rcases tf_ (decide (r23_3 ≠ 0)) with hc25_7 | hc25_7
    ·
     replace hm := cT hc25_7 hm
     refine AiT hc25_7 <| Sx <| Wm (.i r23_3) rfl <| Wm (.i r23_3) rfl <| Nn <| Rt <| Tr <| Ir <| Tr <| RoundK.ret <| Ir <| Tr ?_
     obtain rfl := Option.some.inj hm
     exact ret_i []
    ·
     replace hm := cF hc25_7 hm
     refine AiF hc25_7 <| Sk <| Tk 38 1 ⟨tp 1 (.l enc_GValue p1::.loc 0 0::tp 2 (.i y5_1::tp 33 [])), [(.box [(.s p0.Name), (.l enc_GField p0.Fields)])], 0⟩ <| Sq <| Adr <| Wm (.l enc_GValue p1) rfl <| Wm (.i y5_1) rfl ?_
     obtain ⟨x29_4, hx29_4, hm⟩ := bnd hm
     obtain ⟨hx29_4i, hx29_4g⟩ := geti_some hx29_4
     refine Wz (.d (.ref (List.drop ((Int.toNat y5_1) * 4) (flatD enc_GValue p1)))) (Oia rfl enc_GValue_len hx29_4i hx29_4g) <| Wz (.d (.ref (List.drop ((Int.toNat y5_1) * 4) (flatD enc_GValue p1)))) (Ofa rfl) <| Wz (.y x29_4.Kind) (Lf1 rfl enc_GValue_len hx29_4g) <| Wz (.loc 0 1) (Ofa rfl) <| Wz (.l enc_GField p0.Fields) (Old rfl) <| Wm (.i y5_1) rfl ?_
     obtain ⟨x35_4, hx35_4, hm⟩ := bnd hm
     obtain ⟨hx35_4i, hx35_4g⟩ := geti_some hx35_4
     refine Wz (.d (.ref (List.drop ((Int.toNat y5_1) * 2) (flatD enc_GField p0.Fields)))) (Oia rfl enc_GField_len hx35_4i hx35_4g) <| Wz (.d (.ref (List.drop 1 (List.drop ((Int.toNat y5_1) * 2) (flatD enc_GField p0.Fields))))) (Ofa rfl) <| Wz (.y x35_4.Kind) (Lfk1 1 rfl enc_GField_len hx35_4g) <| Wz (.b (decide (((x29_4.Kind.toNat : Nat) : Int) ≠ ((x35_4.Kind.toNat : Nat) : Int)))) (Ob2 (.int .u8 ((x29_4.Kind.toNat : Nat) : Int)) (.int .u8 ((x35_4.Kind.toNat : Nat) : Int)) rfl (fun _ => hb_neq)) <| Wdr <| Tk 274877906982 1 ⟨tp 1 (.l enc_GValue p1::.loc 0 0::tp 2 (.i y5_1::tp 32 (.b (decide (((x29_4.Kind.toNat : Nat) : Int) ≠ ((x35_4.Kind.toNat : Nat) : Int)))::[]))), [(.box [(.s p0.Name), (.l enc_GField p0.Fields)])], 0⟩ ?_
     rcases tf_ (decide (((x29_4.Kind.toNat : Nat) : Int) ≠ ((x35_4.Kind.toNat : Nat) : Int))) with hc38_8 | hc38_8
     ·
      replace hm := cT hc38_8 hm
      refine AiT hc38_8 <| Sx <| Wm (.i 19) rfl <| Nn <| Rt <| Ir <| Tr <| RoundK.ret <| Ir <| Tr ?_
      obtain rfl := Option.some.inj hm
      exact ret_i []
     ·
      replace hm := cF hc38_8 hm
      refine AiF hc38_8 <| Sk <| Ino <| Tk 38 1 ⟨tp 1 (.l enc_GValue p1::.loc 0 0::tp 2 (.i y5_1::tp 33 [])), [(.box [(.s p0.Name), (.l enc_GField p0.Fields)])], 0⟩ <| Tx <| Wm (.i y5_1) rfl <| Wz (.i (W6 (y5_1 + 1))) (Obn rfl (fun _ => hb_add (k := .i64))) <| Wm (.i (W6 (y5_1 + 1))) rfl <| Wn0 <| RoundK.normal ?_
      exact Rounds.weak (Weak.toK 38 0 0 [0]) (ih_1 (fu_1, (W6 (y5_1 + 1))) hm (Nat.lt_succ_self _))
   ·
    replace hm := cF hc16_6 hm
    refine AiF hc16_6 <| AWP.exit <| Then.exit <| RoundK.exit <| InBlock.same <| Tk 0 0 ⟨tp 39 [], [.gone], 0⟩ <| Sx <| Wm (.i 0) rfl <| Nn <| Rt ?_
    obtain rfl := Option.some.inj hm
    exact ret_i []

theorem ok_telltaleref07_Check (p0 : (List GType)) (p1 : GEvent) (r : Int) (h : m_telltaleref07_Check p0 p1 = some r) : GCall Try.prog 17 [(.l enc_GType p0), (.agg [(.i p1.Time), (.i p1.Source), (.i p1.Seq), (.s p1.Type_), (.l enc_GValue p1.Vals)])] [] (.i r) [] := by
 refine GCall.of_body (n := 51) (rs := [(.tmp 4)]) Try.func17 rfl rfl rfl <| Ato ⟨.l enc_GType p0::.agg [(.i p1.Time), (.i p1.Source), (.i p1.Seq), (.s p1.Type_), (.l enc_GValue p1.Vals)]::tu 49 [], [], 0⟩ ?_
 have hm := h
 unfold m_telltaleref07_Check at hm
 refine Sx <| Wy (.loc 0 0) [(0, (.box [(.i p1.Time), (.i p1.Source), (.i p1.Seq), (.s p1.Type_), (.l enc_GValue p1.Vals)]))] (Obx rfl) <| Wm (.i 0) rfl <| Nk 9 1 ⟨.l enc_GType p0::tp 2 (.loc 0 0::tp 47 []), [(.box [(.i p1.Time), (.i p1.Source), (.i p1.Seq), (.s p1.Type_), (.l enc_GValue p1.Vals)])], 0⟩ <| Sq <| Sx <| Wm (.l enc_GType p0) rfl ?_
 obtain ⟨r8_0, hr8_0, hm⟩ := bnd hm
 refine Wz (.i r8_0) (Ocf [] [] [] 0 (ok_telltaleref06_Check p0 r8_0 hr8_0) (fun a w => Try.call50 a w) rfl trivial) <| Wz (.b (decide (r8_0 ≠ 0))) (Obn rfl (fun _ => hb_neq (k := .i64))) <| Nk 521 1 ⟨.l enc_GType p0::tp 2 (.loc 0 0::tp 5 (.b (decide (r8_0 ≠ 0))::tp 41 [])), [(.box [(.i p1.Time), (.i p1.Source), (.i p1.Seq), (.s p1.Type_), (.l enc_GValue p1.Vals)])], 0⟩ ?_
 rcases tf_ (decide (r8_0 ≠ 0)) with hc9_5 | hc9_5
 ·
  replace hm := cT hc9_5 hm
  refine AiT hc9_5 <| Sx <| Wm (.i 2) rfl <| Nn <| Rt <| Tr ?_
  obtain rfl := Option.some.inj hm
  exact ret_i []
 ·
  replace hm := cF hc9_5 hm
  refine AiF hc9_5 <| Sk <| Tk 9 1 ⟨.l enc_GType p0::tp 2 (.loc 0 0::tp 47 []), [(.box [(.i p1.Time), (.i p1.Source), (.i p1.Seq), (.s p1.Type_), (.l enc_GValue p1.Vals)])], 0⟩ <| Sq ?_
  refine AWP.cutJ (α := Unit) (fun x => match x with | () => (⟨.l enc_GType p0::tp 2 (.loc 0 0::tp 33 (.b true::tp 13 [])), [(.box [(.i p1.Time), (.i p1.Source), (.i p1.Seq), (.s p1.Type_), (.l enc_GValue p1.Vals)])], 0⟩ : St)) (fun x => match x with | () => m_telltaleref07_Check_j2  = some r) ?_ (fun J2 => ?_)
  ·
   rintro ⟨⟩ hm
   try dsimp only at hm ⊢
   unfold m_telltaleref07_Check_j2 at hm
   refine AWP.if_ true (by kernel_rfl) <| Sx <| Wm (.i 8) rfl <| Nn <| Rt <| Tr ?_
   obtain rfl := Option.some.inj hm
   exact ret_i []
  refine Sx <| Wz (.loc 0 0) (Ofa rfl) <| Wz (.i p1.Time) (Old rfl) <| Wz (.b (decide (p1.Time < 0))) (Obn rfl (fun _ => hb_lss (k := .i64))) ?_
  rcases tf_ (decide (p1.Time < 0)) with hq13_1 | hq13_1
  ·
   replace hm := cT hq13_1 hm
   refine Wz (.b true) (Oq hq13_1 rfl) <| Wn <| Wn <| Wn <| Wz (.b true) (OpT rfl) <| Wm (.b true) rfl <| Wn <| Wn <| Wn <| Wz (.b true) (OpT rfl) <| Wm (.b true) rfl <| Wn <| Wn <| Wn ?_
   refine Wz (.b true) (OpT rfl) <| Wm (.b true) rfl <| Wn <| Wn <| Wn <| Wz (.b true) (OpT rfl) <| Wm (.b true) rfl <| Wn <| Wn <| Wn <| Wz (.b true) (OpT rfl) <| Nn ?_
   exact AWP.weak (Weak.toK 137438953481 0 0 [0]) (J2 () hm)
  ·
   replace hm := cF hq13_1 hm
   refine Wz (.b false) (Oq hq13_1 rfl) <| Wz (.loc 0 0) (Ofa rfl) <| Wz (.i p1.Time) (Old rfl) <| Wz (.b (decide ((1099511627776 : Int) < p1.Time))) (Obn rfl (fun _ => hb_gtr (k := .i64))) <| Wz (.b (decide ((1099511627776 : Int) < p1.Time))) (OpF rfl) ?_
   rcases tf_ (decide ((1099511627776 : Int) < p1.Time)) with hq18_1 | hq18_1
   ·
    replace hm := cT hq18_1 hm
    refine Wz (.b true) (Oq hq18_1 rfl) <| Wn <| Wn <| Wn <| Wz (.b true) (OpT rfl) <| Wm (.b true) rfl <| Wn <| Wn <| Wn <| Wz (.b true) (OpT rfl) <| Wm (.b true) rfl <| Wn <| Wn <| Wn ?_
    refine Wz (.b true) (OpT rfl) <| Wm (.b true) rfl <| Wn <| Wn <| Wn <| Wz (.b true) (OpT rfl) <| Nn ?_
    exact AWP.weak (Weak.toK 137438953481 0 0 [0]) (J2 () hm)
   ·
    replace hm := cF hq18_1 hm
    refine Wz (.b false) (Oq hq18_1 rfl) <| Wz (.loc 0 1) (Ofa rfl) <| Wz (.i p1.Source) (Old rfl) <| Wz (.b (decide (p1.Source < 0))) (Obn rfl (fun _ => hb_lss (k := .i64))) <| Wz (.b (decide (p1.Source < 0))) (OpF rfl) ?_
    rcases tf_ (decide (p1.Source < 0)) with hq23_1 | hq23_1
    ·
     replace hm := cT hq23_1 hm
     refine Wz (.b true) (Oq hq23_1 rfl) <| Wn <| Wn <| Wn <| Wz (.b true) (OpT rfl) <| Wm (.b true) rfl <| Wn <| Wn <| Wn <| Wz (.b true) (OpT rfl) <| Wm (.b true) rfl <| Wn <| Wn <| Wn ?_
     refine Wz (.b true) (OpT rfl) <| Nn ?_
     exact AWP.weak (Weak.toK 137438953481 0 0 [0]) (J2 () hm)
    ·
     replace hm := cF hq23_1 hm
     refine Wz (.b false) (Oq hq23_1 rfl) <| Wz (.loc 0 1) (Ofa rfl) <| Wz (.i p1.Source) (Old rfl) <| Wz (.b (decide ((16 : Int) ≤ p1.Source))) (Obn rfl (fun _ => hb_geq (k := .i64))) <| Wz (.b (decide ((16 : Int) ≤ p1.Source))) (OpF rfl) ?_
     rcases tf_ (decide ((16 : Int) ≤ p1.Source)) with hq28_1 | hq28_1
     ·
      replace hm := cT hq28_1 hm
      refine Wz (.b true) (Oq hq28_1 rfl) <| Wn <| Wn <| Wn <| Wz (.b true) (OpT rfl) <| Wm (.b true) rfl <| Wn <| Wn <| Wn <| Wz (.b true) (OpT rfl) <| Nn ?_
      exact AWP.weak (Weak.toK 137438953481 0 0 [0]) (J2 () hm)
     ·
      replace hm := cF hq28_1 hm
      refine Wz (.b false) (Oq hq28_1 rfl) <| Wz (.loc 0 2) (Ofa rfl) <| Wz (.i p1.Seq) (Old rfl) <| Wz (.b (decide (p1.Seq < 0))) (Obn rfl (fun _ => hb_lss (k := .i64))) <| Wz (.b (decide (p1.Seq < 0))) (OpF rfl) ?_
      rcases tf_ (decide (p1.Seq < 0)) with hq33_1 | hq33_1
      ·
       replace hm := cT hq33_1 hm
       refine Wz (.b true) (Oq hq33_1 rfl) <| Wn <| Wn <| Wn <| Wz (.b true) (OpT rfl) <| Nn ?_
       exact AWP.weak (Weak.toK 137438953481 0 0 [0]) (J2 () hm)
      ·
       replace hm := cF hq33_1 hm
       refine Wz (.b false) (Oq hq33_1 rfl) <| Wz (.loc 0 2) (Ofa rfl) <| Wz (.i p1.Seq) (Old rfl) <| Wz (.b (decide ((1099511627776 : Int) < p1.Seq))) (Obn rfl (fun _ => hb_gtr (k := .i64))) <| Wz (.b (decide ((1099511627776 : Int) < p1.Seq))) (OpF rfl) <| Nk 137438953481 1 ⟨.l enc_GType p0::tp 2 (.loc 0 0::tp 33 (.b (decide ((1099511627776 : Int) < p1.Seq))::tp 13 [])), [(.box [(.i p1.Time), (.i p1.Source), (.i p1.Seq), (.s p1.Type_), (.l enc_GValue p1.Vals)])], 0⟩ ?_
       rcases tf_ (decide ((1099511627776 : Int) < p1.Seq)) with hc37_6 | hc37_6
       ·
        replace hm := cT hc37_6 hm
        refine AiT hc37_6 <| Sx <| Wm (.i 8) rfl <| Nn <| Rt <| Tr ?_
        obtain rfl := Option.some.inj hm
        exact ret_i []
       ·
        replace hm := cF hc37_6 hm
        refine AiF hc37_6 <| Sk <| Tk 9 1 ⟨.l enc_GType p0::tp 2 (.loc 0 0::tp 47 []), [(.box [(.i p1.Time), (.i p1.Source), (.i p1.Seq), (.s p1.Type_), (.l enc_GValue p1.Vals)])], 0⟩ <| Sx <| Wm (.l enc_GType p0) rfl <| Wz (.loc 0 3) (Ofa rfl) <| Wz (.s p1.Type_) (Old rfl) ?_
        obtain ⟨r42_3, hr42_3, hm⟩ := bnd hm
        refine Wz (.tup [(.agg [(.s r42_3.1.Name), (.l enc_GField r42_3.1.Fields)]), (.b r42_3.2)]) (Ocf [] [] [] 0 (ok_telltaleref06_Find p0 p1.Type_ r42_3 hr42_3) (fun a w => Try.call45 a w) rfl trivial) <| Wm (.tup [(.agg [(.s r42_3.1.Name), (.l enc_GField r42_3.1.Fields)]), (.b r42_3.2)]) rfl <| Wz (.agg [(.s r42_3.1.Name), (.l enc_GField r42_3.1.Fields)]) (Oex rfl) <| Wz (.b r42_3.2) (Oex rfl) <| Wy (.loc 1 0) [(1, (.box [(.s ([] : List UInt8)), (.d .nil)]))] (Oal rfl) <| Wy (.tup []) [(1, (.box [(.s r42_3.1.Name), (.l enc_GField r42_3.1.Fields)]))] (Ost rfl) <| Wm (.b r42_3.2) rfl <| Nk 104 3 ⟨tp 3 (.loc 0 0::tp 1 (.loc 1 0::.b r42_3.2::tp 44 [])), [(.box [(.i p1.Time), (.i p1.Source), (.i p1.Seq), (.s p1.Type_), (.l enc_GValue p1.Vals)]), (.box [(.s r42_3.1.Name), (.l enc_GField r42_3.1.Fields)])], 0⟩ <| Sq <| Sx <| Wm (.b r42_3.2) rfl <| Wz (.b (!r42_3.2)) (Ocs (by kernel_rfl) (op_un rfl (a1 := .bool r42_3.2) (by kernel_rfl) (fun _ => hu_not))) <| Nk 70368744177704 3 ⟨tp 3 (.loc 0 0::tp 1 (.loc 1 0::tp 40 (.b (!r42_3.2)::tp 4 []))), [(.box [(.i p1.Time), (.i p1.Source), (.i p1.Seq), (.s p1.Type_), (.l enc_GValue p1.Vals)]), (.box [(.s r42_3.1.Name), (.l enc_GField r42_3.1.Fields)])], 0⟩ ?_
        rcases tf_ (!r42_3.2) with hc46_7 | hc46_7
        ·
         replace hm := cT hc46_7 hm
         refine AiT hc46_7 <| Sx <| Wm (.i 6) rfl <| Nn <| Rt <| Tr ?_
         obtain rfl := Option.some.inj hm
         exact ret_i []
        ·
         replace hm := cF hc46_7 hm
         refine AiF hc46_7 <| Sk <| Tk 40 3 ⟨tp 3 (.loc 0 0::tp 1 (.loc 1 0::tp 45 [])), [(.box [(.i p1.Time), (.i p1.Source), (.i p1.Seq), (.s p1.Type_), (.l enc_GValue p1.Vals)]), (.box [(.s r42_3.1.Name), (.l enc_GField r42_3.1.Fields)])], 0⟩ <| Sx <| Wz (.agg [(.s r42_3.1.Name), (.l enc_GField r42_3.1.Fields)]) (Old rfl) <| Wz (.loc 0 4) (Ofa rfl) <| Wz (.l enc_GValue p1.Vals) (Old rfl) ?_
         obtain ⟨r50_4, hr50_4, hm⟩ := bnd hm
         refine Wz (.i r50_4) (Ocf [] [] [] 0 (ok_telltaleref06_Fits r42_3.1 p1.Vals r50_4 hr50_4) (fun a w => Try.call51 a w) rfl trivial) <| Wm (.i r50_4) rfl <| Nn <| Rt ?_
         obtain rfl := Option.some.inj hm
         exact ret_i []

theorem ok_telltaleref02_sevens (p0 : Int) (r : (List Int)) (h : m_telltaleref02_sevens p0 = some r) : GCall Try.prog 66 [(.u p0)] [] (.own 0) [(.arr 3 1 (List.length r) (flatD (encI .i64) r))] := by
 refine GCall.of_body (n := 21) (rs := [(.tmp 2)]) Try.func66 rfl rfl rfl <| Ato ⟨.u p0::tu 20 [], [], 0⟩ ?_
 have hm := h
 unfold m_telltaleref02_sevens at hm
 refine Sx <| Wm (.d .nil) rfl <| Nk 1 0 ⟨.u p0::tp 20 [], [], 0⟩ <| Sx <| Wm (.u p0) rfl <| Wz (.u (Int.tmod p0 128)) (Ob2 (.int .u64 p0) (.int .u64 128) rfl (fun _ => hb_rem (by decide))) <| Wz (.i (W6 (Int.tmod p0 128))) (Oc2 (.int .u64 (Int.tmod p0 128)) rfl (run_conv (ds := .int .u64) (k' := .i64) (by kernel_rfl) (by kernel_rfl))) <| Wy (.own 0) [(0, (.arr 3 1 (List.length ([(W6 (Int.tmod p0 128))] : List Int)) (flatD (encI .i64) ([(W6 (Int.tmod p0 128))] : List Int))))] (Obs rfl) <| Wm (.own 0) rfl <| Nk 9 1 ⟨.u p0::tp 2 (.own 0::tp 17 []), [(.arr 3 1 (List.length ([(W6 (Int.tmod p0 128))] : List Int)) (flatD (encI .i64) ([(W6 (Int.tmod p0 128))] : List Int)))], 0⟩ <| Sx <| Wm (.u p0) rfl <| Wz (.u (W7 (Int.tdiv p0 128))) (Ob2 (.int .u64 p0) (.int .u64 128) rfl (fun _ => hb_quo (by decide))) <| Wm (.u (W7 (Int.tdiv p0 128))) rfl ?_
 refine Nk 9 1 ⟨.u (W7 (Int.tdiv p0 128))::tp 2 (.own 0::tp 17 []), [(.arr 3 1 (List.length ([(W6 (Int.tmod p0 128))] : List Int)) (flatD (encI .i64) ([(W6 (Int.tmod p0 128))] : List Int)))], 0⟩ <| Sq <| Bk ?_
 refine AWP.loopI (α := Nat × Int × (List Int))
   (fun (fu_1, y0_1, y3_1) => (⟨.u y0_1::tp 2 (.own 0::tp 17 []), [(.arr 3 1 (List.length y3_1) (flatD (encI .i64) y3_1))], 0⟩ : St))
   (fun (fu_1, y0_1, y3_1) => m_telltaleref02_sevens_l1  fu_1 y0_1 y3_1 = some r)
   (fun (fu_1, y0_1, y3_1) => fu_1) (1152921504606846976, (W7 (Int.tdiv p0 128)), ([(W6 (Int.tmod p0 128))] : List Int))
   (Weak.toK 9 0 0 [0]) hm ?_
 rintro ⟨fu_1, y0_1, y3_1⟩ n_1 hm ih_1
 try dsimp only at hm ih_1 ⊢
 cases fu_1 with
 | zero => exact absurd hm (by unfold m_telltaleref02_sevens_l1; simp)
 | succ fu_1 =>
  unfold m_telltaleref02_sevens_l1 at hm
  refine Sq <| Sx <| Wm (.u y0_1) rfl <| Wz (.b (decide ((0 : Int) < y0_1))) (Obn rfl (fun _ => hb_gtr (k := .u64))) <| Nk 2057 1 ⟨.u y0_1::tp 2 (.own 0::tp 7 (.b (decide ((0 : Int) < y0_1))::tp 9 [])), [(.arr 3 1 (List.length y3_1) (flatD (encI .i64) y3_1))], 0⟩ ?_
  rcases tf_ (decide ((0 : Int) < y0_1)) with hc11_3 | hc11_3
  ·
   replace hm := cT hc11_3 hm
   refine AiT hc11_3 <| Sk <| Tk 9 1 ⟨.u y0_1::tp 2 (.own 0::tp 17 []), [(.arr 3 1 (List.length y3_1) (flatD (encI .i64) y3_1))], 0⟩ <| Bk <| Sx <| Wm (.own 0) rfl <| Wm (.u y0_1) rfl <| Wz (.u (Int.tmod y0_1 128)) (Ob2 (.int .u64 y0_1) (.int .u64 128) rfl (fun _ => hb_rem (by decide))) <| Wz (.i (W6 (Int.tmod y0_1 128))) (Oc2 (.int .u64 (Int.tmod y0_1 128)) rfl (run_conv (ds := .int .u64) (k' := .i64) (by kernel_rfl) (by kernel_rfl))) <| Wy (.own 1) [(1, (.arr 3 1 (List.length ([(W6 (Int.tmod y0_1 128))] : List Int)) (flatD (encI .i64) ([(W6 (Int.tmod y0_1 128))] : List Int))))] (Obs rfl) ?_
   obtain ⟨a17_2, ha17_2, hm⟩ := bnd hm; obtain ⟨ha17_2e, ha17_2l⟩ := app_some ha17_2
   refine Wy (.own 2) [(0, .gone), (2, (.arr 3 1 (List.length a17_2) (flatD (encI .i64) a17_2)))] (Oap rfl elemOK_123 (encI_len (k := .i64)) ha17_2e ha17_2l) <| Wm (.own 2) rfl <| Nk 9 4 ⟨.u y0_1::tp 2 (.own 2::tp 17 []), [.gone, .gone, (.arr 3 1 (List.length a17_2) (flatD (encI .i64) a17_2))], 0⟩ <| Tx <| Wm (.u y0_1) rfl <| Wz (.u (W7 (Int.tdiv y0_1 128))) (Ob2 (.int .u64 y0_1) (.int .u64 128) rfl (fun _ => hb_quo (by decide))) <| Wm (.u (W7 (Int.tdiv y0_1 128))) rfl <| Wn0 <| Ino <| RoundK.normal ?_
   exact Rounds.weak (Weak.toK 9 0 0 [2]) (ih_1 (fu_1, (W7 (Int.tdiv y0_1 128)), a17_2) hm (Nat.lt_succ_self _))
  ·
   replace hm := cF hc11_3 hm
   refine AiF hc11_3 <| AWP.exit <| Then.exit <| RoundK.exit <| InBlock.same <| Tk 8 1 ⟨tp 3 (.own 0::tp 17 []), [(.arr 3 1 (List.length y3_1) (flatD (encI .i64) y3_1))], 0⟩ <| Sx <| Wm (.own 0) rfl <| Wm (.own 0) rfl <| Nn <| Rt ?_
   obtain rfl := Option.some.inj hm
   exact ret_i [0]

theorem ok_telltaleref02_Put (p0 : (List UInt8)) (p1 : Int) (r : (List UInt8)) (h : m_telltaleref02_Put p0 p1 = some r) : GCall Try.prog 40 [(.l encU8 p0), (.u p1)] [] (.own 0) [(Ar 5 1 encU8 r)] := by
 refine GCall.of_body (n := 42) (rs := [(.tmp 4)]) Try.func40 rfl rfl rfl <| Ato ⟨.l encU8 p0::.u p1::tu 40 [], [], 0⟩ ?_
 have hm := h
 unfold m_telltaleref02_Put at hm
 refine Sx <| Wm (.d .nil) rfl <| Nk 3 0 ⟨.l encU8 p0::.u p1::tp 40 [], [], 0⟩ <| Sx <| Wy (.own 0) [(0, (Ar 5 1 encU8 ([] : List UInt8)))] (Obs rfl) <| Wm (.l encU8 p0) rfl ?_
 obtain ⟨a10_0, ha10_0, hm⟩ := bnd hm; obtain ⟨ha10_0e, ha10_0l⟩ := app_some ha10_0
 refine Wy (.own 1) [(0, .gone), (1, (Ar 5 1 encU8 a10_0))] (Oap rfl elemOK_36 encU8_len ha10_0e ha10_0l) <| Wm (.own 1) rfl <| Nk 34 2 ⟨tp 1 (.u p1::tp 3 (.own 1::tp 36 [])), [.gone, (Ar 5 1 encU8 a10_0)], 0⟩ <| Sx <| Wm (.u p1) rfl ?_
 obtain ⟨r12_1, hr12_1, hm⟩ := bnd hm
 refine Wy (.own 2) [(2, (.arr 3 1 (List.length r12_1) (flatD (encI .i64) r12_1)))] (Ocf [] [2] [] 0 (ok_telltaleref02_sevens p1 r12_1 hr12_1) (fun a w => Try.call66 a w) rfl trivial) <| Wm (.own 2) rfl <| Nk 96 6 ⟨tp 5 (.own 1::.own 2::tp 35 []), [.gone, (Ar 5 1 encU8 a10_0), (.arr 3 1 (List.length r12_1) (flatD (encI .i64) r12_1))], 0⟩ <| Sq <| Sx <| Wm (.i 0) rfl <| Nk 224 6 ⟨tp 5 (.own 1::.own 2::.i 0::tp 34 []), [.gone, (Ar 5 1 encU8 a10_0), (.arr 3 1 (List.length r12_1) (flatD (encI .i64) r12_1))], 0⟩ <| Bk ?_
 refine AWP.loopI (α := Nat × (List UInt8) × Int)
   (fun (fu_2, y5_2, y7_2) => (⟨tp 5 (.own 0::.own 1::.i y7_2::tp 34 []), [(Ar 5 1 encU8 y5_2), (.arr 3 1 (List.length r12_1) (flatD (encI .i64) r12_1))], 0⟩ : St))
   (fun (fu_2, y5_2, y7_2) => m_telltaleref02_Put_l2 r12_1 fu_2 y5_2 y7_2 = some r)
   (fun (fu_2, y5_2, y7_2) => fu_2) (1152921504606846976, a10_0, 0)
   (Weak.toK 224 0 0 [1, 2]) hm ?_
 rintro ⟨fu_2, y5_2, y7_2⟩ n_2 hm ih_2
 try dsimp only at hm ih_2 ⊢
 cases fu_2 with
 | zero => exact absurd hm (by unfold m_telltaleref02_Put_l2; simp)
 | succ fu_2 =>
  unfold m_telltaleref02_Put_l2 at hm
  refine Sq <| Sx <| Wm (.i y7_2) rfl <| Wm (.own 1) rfl <| Wz (.i ((List.length r12_1 : Nat) : Int)) (Oln rfl) <| Wz (.b (decide (y7_2 < ((List.length r12_1 : Nat) : Int)))) (Obn rfl (fun _ => hb_lss (k := .i64))) <| Nk 65760 3 ⟨tp 5 (.own 0::.own 1::.i y7_2::tp 8 (.b (decide (y7_2 < ((List.length r12_1 : Nat) : Int)))::tp 25 [])), [(Ar 5 1 encU8 y5_2), (.arr 3 1 (List.length r12_1) (flatD (encI .i64) r12_1))], 0⟩ ?_
  rcases tf_ (decide (y7_2 < ((List.length r12_1 : Nat) : Int))) with hc16_7 | hc16_7
  ·
   replace hm := cT hc16_7 hm
   refine AiT hc16_7 <| Sk <| Tk 224 3 ⟨tp 5 (.own 0::.own 1::.i y7_2::tp 34 []), [(Ar 5 1 encU8 y5_2), (.arr 3 1 (List.length r12_1) (flatD (encI .i64) r12_1))], 0⟩ <| Sq <| Bk <| Sx <| Wm (.i y7_2) rfl <| Wm (.own 1) rfl <| Wz (.i ((List.length r12_1 : Nat) : Int)) (Oln rfl) <| Wz (.i (W6 (((List.length r12_1 : Nat) : Int) - 1))) (Obn rfl (fun _ => hb_sub (k := .i64))) <| Wz (.b (decide (y7_2 < (W6 (((List.length r12_1 : Nat) : Int) - 1))))) (Obn rfl (fun _ => hb_lss (k := .i64))) <| Nk 8388832 3 ⟨tp 5 (.own 0::.own 1::.i y7_2::tp 15 (.b (decide (y7_2 < (W6 (((List.length r12_1 : Nat) : Int) - 1))))::tp 18 [])), [(Ar 5 1 encU8 y5_2), (.arr 3 1 (List.length r12_1) (flatD (encI .i64) r12_1))], 0⟩ ?_
   rcases tf_ (decide (y7_2 < (W6 (((List.length r12_1 : Nat) : Int) - 1)))) with hc23_8 | hc23_8
   ·
    replace hm := cT hc23_8 hm
    refine AiT hc23_8 <| Tx <| Wm (.own 0) rfl <| Wm (.own 1) rfl <| Wm (.i y7_2) rfl ?_
    obtain ⟨x27_5, hx27_5, hm⟩ := bnd hm
    obtain ⟨hx27_5i, hx27_5g⟩ := geti_some hx27_5
    refine Wz (.loc 1 ((Int.toNat y7_2) * 1)) (Oia rfl (encI_len (k := .i64)) hx27_5i hx27_5g) <| Wz (.i x27_5) (Lr1 rfl (encI_len (k := .i64)) hx27_5g) <| Wz (.i (W6 (128 + x27_5))) (Obn rfl (fun _ => hb_add (k := .i64))) <| Wz (.y (toU8 (W6 (128 + x27_5)))) (Ocs (lit_int (u8w _)) (op_convert rfl (a1 := .int .i64 (W6 (128 + x27_5))) (by kernel_rfl) (run_conv (ds := .int .i64) (k' := .u8) (by kernel_rfl) (by kernel_rfl)))) <| Wy (.own 2) [(2, (Ar 5 1 encU8 ([(toU8 (W6 (128 + x27_5)))] : List UInt8)))] (Obs rfl) ?_
    obtain ⟨a32_5, ha32_5, hm⟩ := bnd hm; obtain ⟨ha32_5e, ha32_5l⟩ := app_some ha32_5
    refine Wy (.own 3) [(0, .gone), (3, (Ar 5 1 encU8 a32_5))] (Oap rfl elemOK_36 encU8_len ha32_5e ha32_5l) <| Wm (.own 3) rfl <| Wn0 <| Ino <| Tk 224 10 ⟨tp 5 (.own 3::.own 1::.i y7_2::tp 34 []), [.gone, (.arr 3 1 (List.length r12_1) (flatD (encI .i64) r12_1)), .gone, (Ar 5 1 encU8 a32_5)], 0⟩ <| Tx <| Wm (.i y7_2) rfl <| Wz (.i (W6 (y7_2 + 1))) (Obn rfl (fun _ => hb_add (k := .i64))) <| Wm (.i (W6 (y7_2 + 1))) rfl <| Wn0 <| RoundK.normal ?_
    exact Rounds.weak (Weak.toK 224 0 0 [3, 1]) (ih_2 (fu_2, a32_5, (W6 (y7_2 + 1))) hm (Nat.lt_succ_self _))
   ·
    replace hm := cF hc23_8 hm
    refine AiF hc23_8 <| Tx <| Wm (.own 0) rfl <| Wm (.own 1) rfl <| Wm (.i y7_2) rfl ?_
    obtain ⟨x36_6, hx36_6, hm⟩ := bnd hm
    obtain ⟨hx36_6i, hx36_6g⟩ := geti_some hx36_6
    refine Wz (.loc 1 ((Int.toNat y7_2) * 1)) (Oia rfl (encI_len (k := .i64)) hx36_6i hx36_6g) <| Wz (.i x36_6) (Lr1 rfl (encI_len (k := .i64)) hx36_6g) <| Wz (.y (toU8 x36_6)) (Ocs (lit_int (u8w _)) (op_convert rfl (a1 := .int .i64 x36_6) (by kernel_rfl) (run_conv (ds := .int .i64) (k' := .u8) (by kernel_rfl) (by kernel_rfl)))) <| Wy (.own 2) [(2, (Ar 5 1 encU8 ([(toU8 x36_6)] : List UInt8)))] (Obs rfl) ?_
    obtain ⟨a40_6, ha40_6, hm⟩ := bnd hm; obtain ⟨ha40_6e, ha40_6l⟩ := app_some ha40_6
    refine Wy (.own 3) [(0, .gone), (3, (Ar 5 1 encU8 a40_6))] (Oap rfl elemOK_36 encU8_len ha40_6e ha40_6l) <| Wm (.own 3) rfl <| Wn0 <| Ino <| Tk 224 10 ⟨tp 5 (.own 3::.own 1::.i y7_2::tp 34 []), [.gone, (.arr 3 1 (List.length r12_1) (flatD (encI .i64) r12_1)), .gone, (Ar 5 1 encU8 a40_6)], 0⟩ <| Tx <| Wm (.i y7_2) rfl <| Wz (.i (W6 (y7_2 + 1))) (Obn rfl (fun _ => hb_add (k := .i64))) <| Wm (.i (W6 (y7_2 + 1))) rfl <| Wn0 <| RoundK.normal ?_
    exact Rounds.weak (Weak.toK 224 0 0 [3, 1]) (ih_2 (fu_2, a40_6, (W6 (y7_2 + 1))) hm (Nat.lt_succ_self _))
  ·
   replace hm := cF hc16_7 hm
   refine AiF hc16_7 <| AWP.exit <| Then.exit <| RoundK.exit <| InBlock.same <| Tk 32 1 ⟨tp 5 (.own 0::tp 36 []), [(Ar 5 1 encU8 y5_2), .gone], 0⟩ <| Sx <| Wm (.own 0) rfl <| Wm (.own 0) rfl <| Nn <| Rt ?_
   obtain rfl := Option.some.inj hm
   exact ret_i [0]

theorem ok_telltaleref07_place (p0 : (List GType)) (p1 : (List UInt8)) (r : Int) (h : m_telltaleref07_place p0 p1 = some r) : GCall Try.prog 41 [(.l enc_GType p0), (.s p1)] [] (.i r) [] := by
 refine GCall.of_body (n := 20) (rs := [(.tmp 4)]) Try.func41 rfl rfl rfl <| Ato ⟨.l enc_GType p0::.s p1::tu 18 [], [], 0⟩ ?_
 have hm := h
 unfold m_telltaleref07_place at hm
 refine Sx <| Wm (.i 0) rfl <| Nk 3 0 ⟨.l enc_GType p0::.s p1::tp 18 [], [], 0⟩ <| Sq <| Sx <| Wm (.i 0) rfl <| Nk 35 0 ⟨.l enc_GType p0::.s p1::tp 3 (.i 0::tp 14 []), [], 0⟩ <| Bk ?_
 refine AWP.loopI (α := Nat × Int)
   (fun (fu_0, y5_0) => (⟨.l enc_GType p0::.s p1::tp 3 (.i y5_0::tp 14 []), [], 0⟩ : St))
   (fun (fu_0, y5_0) => m_telltaleref07_place_l0 p0 p1 fu_0 y5_0 = some r)
   (fun (fu_0, y5_0) => fu_0) (1152921504606846976, 0)
   (Weak.toK 35 0 0 []) hm ?_
 rintro ⟨fu_0, y5_0⟩ n_0 hm ih_0
 try dsimp only at hm ih_0 ⊢
 cases fu_0 with
 | zero => exact absurd hm (by unfold m_telltaleref07_place_l0; simp)
 | succ fu_0 =>
  unfold m_telltaleref07_place_l0 at hm
  refine Sq <| Sx <| Wm (.i y5_0) rfl <| Wm (.l enc_GType p0) rfl <| Wz (.i ((List.length p0 : Nat) : Int)) (Oln rfl) <| Wz (.b (decide (y5_0 < ((List.length p0 : Nat) : Int)))) (Obn rfl (fun _ => hb_lss (k := .i64))) <| Nk 547 0 ⟨.l enc_GType p0::.s p1::tp 3 (.i y5_0::tp 3 (.b (decide (y5_0 < ((List.length p0 : Nat) : Int)))::tp 10 [])), [], 0⟩ ?_
  rcases tf_ (decide (y5_0 < ((List.length p0 : Nat) : Int))) with hc9_3 | hc9_3
  ·
   replace hm := cT hc9_3 hm
   refine AiT hc9_3 <| Sk <| Tk 35 0 ⟨.l enc_GType p0::.s p1::tp 3 (.i y5_0::tp 14 []), [], 0⟩ <| Sq <| Bk <| Sx <| Wm (.l enc_GType p0) rfl <| Wm (.i y5_0) rfl ?_
   obtain ⟨x14_2, hx14_2, hm⟩ := bnd hm
   obtain ⟨hx14_2i, hx14_2g⟩ := geti_some hx14_2
   refine Wz (.d (.ref (List.drop ((Int.toNat y5_0) * 2) (flatD enc_GType p0)))) (Oia rfl enc_GType_len hx14_2i hx14_2g) <| Wz (.d (.ref (List.drop ((Int.toNat y5_0) * 2) (flatD enc_GType p0)))) (Ofa rfl) <| Wz (.s x14_2.Name) (Lf1 rfl enc_GType_len hx14_2g) <| Wm (.s p1) rfl <| Wz (.b (decide (x14_2.Name = p1))) (Ocs (lit_tf (by simp only [toS_inj, ne_eq])) (op_bin rfl (a1 := .string (toS x14_2.Name)) (a2 := .string (toS p1)) (by kernel_rfl) (by kernel_rfl) (fun _ => hb_seql))) <| Nk 262179 0 ⟨.l enc_GType p0::.s p1::tp 3 (.i y5_0::tp 12 (.b (decide (x14_2.Name = p1))::tp 1 [])), [], 0⟩ ?_
   rcases tf_ (decide (x14_2.Name = p1)) with hc18_4 | hc18_4
   ·
    replace hm := cT hc18_4 hm
    refine AiT hc18_4 <| Sx <| Wm (.i y5_0) rfl <| Wm (.i y5_0) rfl <| Nn <| Rt <| Ir <| Tr <| RoundK.ret <| Ir <| Tr ?_
    obtain rfl := Option.some.inj hm
    exact ret_i []
   ·
    replace hm := cF hc18_4 hm
    refine AiF hc18_4 <| Sk <| Ino <| Tk 35 0 ⟨.l enc_GType p0::.s p1::tp 3 (.i y5_0::tp 14 []), [], 0⟩ <| Tx <| Wm (.i y5_0) rfl <| Wz (.i (W6 (y5_0 + 1))) (Obn rfl (fun _ => hb_add (k := .i64))) <| Wm (.i (W6 (y5_0 + 1))) rfl <| Wn0 <| RoundK.normal ?_
    exact Rounds.weak (Weak.toK 35 0 0 []) (ih_0 (fu_0, (W6 (y5_0 + 1))) hm (Nat.lt_succ_self _))
  ·
   replace hm := cF hc9_3 hm
   refine AiF hc9_3 <| AWP.exit <| Then.exit <| RoundK.exit <| InBlock.same <| Tk 0 0 ⟨tp 20 [], [], 0⟩ <| Sx <| Wm (.i (-1)) rfl <| Nn <| Rt ?_
   obtain rfl := Option.some.inj hm
   exact ret_i []

theorem ok_telltaleref02_Fold (p0 : Int) (r : Int) (h : m_telltaleref02_Fold p0 = some r) : GCall Try.prog 68 [(.i p0)] [] (.u r) [] := by
 refine GCall.of_body (n := 14) (rs := [(.tmp 2)]) Try.func68 rfl rfl rfl <| Ato ⟨.i p0::tu 13 [], [], 0⟩ ?_
 have hm := h
 unfold m_telltaleref02_Fold at hm
 refine Sx <| Wm (.u 0) rfl <| Nk 1 0 ⟨.i p0::tp 13 [], [], 0⟩ <| Sq <| Sx <| Wm (.i p0) rfl <| Wz (.b (decide (p0 < 0))) (Obn rfl (fun _ => hb_lss (k := .i64))) <| Nk 17 0 ⟨.i p0::tp 3 (.b (decide (p0 < 0))::tp 9 []), [], 0⟩ ?_
 rcases tf_ (decide (p0 < 0)) with hc4_2 | hc4_2
 ·
  replace hm := cT hc4_2 hm
  refine AiT hc4_2 <| Sx <| Wm (.i p0) rfl <| Wz (.i (W6 (p0 + 1))) (Obn rfl (fun _ => hb_add (k := .i64))) <| Wz (.i (W6 (0 - (W6 (p0 + 1))))) (Ocs (by kernel_rfl) (op_un rfl (a1 := .int .i64 (W6 (p0 + 1))) (by kernel_rfl) (fun _ => hu_neg))) <| Wz (.u (W7 (W6 (0 - (W6 (p0 + 1)))))) (Oc2 (.int .i64 (W6 (0 - (W6 (p0 + 1))))) rfl (run_conv (ds := .int .i64) (k' := .u64) (by kernel_rfl) (by kernel_rfl))) <| Wz (.u (W7 (2 * (W7 (W6 (0 - (W6 (p0 + 1)))))))) (Obn rfl (fun _ => hb_mul (k := .u64))) ?_
  obtain ⟨v10_0, hv10_0, hm⟩ := bnd hm; replace hv10_0 := Option.some.inj hv10_0
  refine Wz (.u v10_0) (Ocs (congrArg (fun z => A.d (.lit (.int .u64 z))) hv10_0) (Obn rfl (fun _ => hb_add (k := .u64)))) <| Wm (.u v10_0) rfl <| Nn <| Rt <| Tr ?_
  obtain rfl := Option.some.inj hm
  exact ret_i []
 ·
  replace hm := cF hc4_2 hm
  refine AiF hc4_2 <| Sk <| Tk 1 0 ⟨.i p0::tp 13 [], [], 0⟩ <| Sx <| Wm (.i p0) rfl <| Wz (.u (W7 p0)) (Oc2 (.int .i64 p0) rfl (run_conv (ds := .int .i64) (k' := .u64) (by kernel_rfl) (by kernel_rfl))) <| Wz (.u (W7 (2 * (W7 p0)))) (Obn rfl (fun _ => hb_mul (k := .u64))) <| Wm (.u (W7 (2 * (W7 p0)))) rfl <| Nn <| Rt ?_
  obtain rfl := Option.some.inj hm
  exact ret_i []

theorem ok_telltaleref01_Word (p0 : (List UInt8)) (p1 : Int) (r : (List UInt8)) (h : m_telltaleref01_Word p0 p1 = some r) : GCall Try.prog 69 [(.l encU8 p0), (.u p1)] [] (.own 0) [(Ar 5 1 encU8 r)] := by
 refine GCall.of_body (n := 24) (rs := [(.tmp 4)]) Try.func69 rfl rfl rfl <| Ato ⟨.l encU8 p0::.u p1::tu 22 [], [], 0⟩ ?_
 have hm := h
 unfold m_telltaleref01_Word at hm
 refine Sx <| Wm (.d .nil) rfl <| Nk 3 0 ⟨.l encU8 p0::.u p1::tp 22 [], [], 0⟩ <| Sx <| Wm (.d .nil) rfl <| Nk 35 0 ⟨.l encU8 p0::.u p1::tp 3 (.d .nil::tp 18 []), [], 0⟩ <| Sq <| Sx <| Wm (.i 0) rfl <| Nk 99 0 ⟨.l encU8 p0::.u p1::tp 3 (.d .nil::.i 0::tp 17 []), [], 0⟩ <| Bk <| Aow 5 5 1 ⟨.l encU8 p0::.u p1::tp 3 (.own 0::.i 0::tp 17 []), [(Ar 5 1 encU8 ([] : List UInt8))], 0⟩ ?_
 refine AWP.loopI (α := Nat × Int × (List UInt8) × Int)
   (fun (fu_0, y1_0, y5_0, y6_0) => (⟨.l encU8 p0::.u y1_0::tp 3 (.own 0::.i y6_0::tp 17 []), [(Ar 5 1 encU8 y5_0)], 0⟩ : St))
   (fun (fu_0, y1_0, y5_0, y6_0) => m_telltaleref01_Word_l0 p0 fu_0 y1_0 y5_0 y6_0 = some r)
   (fun (fu_0, y1_0, y5_0, y6_0) => fu_0) (1152921504606846976, p1, ([] : List UInt8), 0)
   (Weak.toK 99 0 0 [0]) hm ?_
 rintro ⟨fu_0, y1_0, y5_0, y6_0⟩ n_0 hm ih_0
 try dsimp only at hm ih_0 ⊢
 cases fu_0 with
 | zero => exact absurd hm (by unfold m_telltaleref01_Word_l0; simp)
 | succ fu_0 =>
  unfold m_telltaleref01_Word_l0 at hm
  refine Sq <| Sx <| Wm (.i y6_0) rfl <| Wz (.b (decide (y6_0 < 8))) (Obn rfl (fun _ => hb_lss (k := .i64))) <| Nk 355 1 ⟨.l encU8 p0::.u y1_0::tp 3 (.own 0::.i y6_0::tp 1 (.b (decide (y6_0 < 8))::tp 15 [])), [(Ar 5 1 encU8 y5_0)], 0⟩ ?_
  rcases tf_ (decide (y6_0 < 8)) with hc8_3 | hc8_3
  ·
   replace hm := cT hc8_3 hm
   refine AiT hc8_3 <| Sk <| Tk 99 1 ⟨.l encU8 p0::.u y1_0::tp 3 (.own 0::.i y6_0::tp 17 []), [(Ar 5 1 encU8 y5_0)], 0⟩ <| Sq <| Bk <| Sx <| Wm (.u y1_0) rfl <| Wz (.u (Int.tmod y1_0 256)) (Ob2 (.int .u64 y1_0) (.int .u64 256) rfl (fun _ => hb_rem (by decide))) <| Wz (.y (toU8 (Int.tmod y1_0 256))) (Ocs (lit_int (u8w _)) (op_convert rfl (a1 := .int .u64 (Int.tmod y1_0 256)) (by kernel_rfl) (run_conv (ds := .int .u64) (k' := .u8) (by kernel_rfl) (by kernel_rfl)))) <| Wy (.own 1) [(1, (Ar 5 1 encU8 ([(toU8 (Int.tmod y1_0 256))] : List UInt8)))] (Obs rfl) <| Wm (.own 0) rfl ?_
   obtain ⟨a16_1, ha16_1, hm⟩ := bnd hm; obtain ⟨ha16_1e, ha16_1l⟩ := app_some ha16_1
   refine Wy (.own 2) [(1, .gone), (2, (Ar 5 1 encU8 a16_1))] (Oap rfl elemOK_36 encU8_len ha16_1e ha16_1l) <| Wm (.own 2) rfl <| Nk 99 4 ⟨.l encU8 p0::.u y1_0::tp 3 (.own 2::.i y6_0::tp 17 []), [.gone, .gone, (Ar 5 1 encU8 a16_1)], 0⟩ <| Tx <| Wm (.u y1_0) rfl <| Wz (.u (W7 (Int.tdiv y1_0 256))) (Ob2 (.int .u64 y1_0) (.int .u64 256) rfl (fun _ => hb_quo (by decide))) <| Wm (.u (W7 (Int.tdiv y1_0 256))) rfl <| Wn0 <| Ino <| Tk 99 4 ⟨.l encU8 p0::.u (W7 (Int.tdiv y1_0 256))::tp 3 (.own 2::.i y6_0::tp 17 []), [.gone, .gone, (Ar 5 1 encU8 a16_1)], 0⟩ <| Tx <| Wm (.i y6_0) rfl <| Wz (.i (W6 (y6_0 + 1))) (Obn rfl (fun _ => hb_add (k := .i64))) <| Wm (.i (W6 (y6_0 + 1))) rfl ?_
   refine Wn0 <| RoundK.normal ?_
   exact Rounds.weak (Weak.toK 99 0 0 [2]) (ih_0 (fu_0, (W7 (Int.tdiv y1_0 256)), a16_1, (W6 (y6_0 + 1))) hm (Nat.lt_succ_self _))
  ·
   replace hm := cF hc8_3 hm
   refine AiF hc8_3 <| AWP.exit <| Then.exit <| RoundK.exit <| InBlock.same <| Tk 33 1 ⟨.l encU8 p0::tp 4 (.own 0::tp 18 []), [(Ar 5 1 encU8 y5_0)], 0⟩ <| Sx <| Wy (.own 1) [(1, (Ar 5 1 encU8 ([] : List UInt8)))] (Obs rfl) <| Wm (.l encU8 p0) rfl ?_
   obtain ⟨a21_2, ha21_2, hm⟩ := bnd hm; obtain ⟨ha21_2e, ha21_2l⟩ := app_some ha21_2
   refine Wy (.own 2) [(1, .gone), (2, (Ar 5 1 encU8 a21_2))] (Oap rfl elemOK_36 encU8_len ha21_2e ha21_2l) <| Wm (.own 0) rfl ?_
   obtain ⟨a23_2, ha23_2, hm⟩ := bnd hm; obtain ⟨ha23_2e, ha23_2l⟩ := app_some ha23_2
   refine Wy (.own 3) [(2, .gone), (3, (Ar 5 1 encU8 a23_2))] (Oap rfl elemOK_36 encU8_len ha23_2e ha23_2l) <| Wm (.own 3) rfl <| Nn <| Rt ?_
   obtain rfl := Option.some.inj hm
   exact ret_i [3]

theorem ok_telltaleref04_Put (p0 : (List UInt8)) (p1 : GValue) (r : ((List UInt8) × Int)) (h : m_telltaleref04_Put p0 p1 = some r) : GCall Try.prog 42 [(.l encU8 p0), (.agg [(.y p1.Kind), (.i p1.N), (.u p1.Bits), (.s p1.Text)])] [] (.tup [(.own 0), (.i r.2)]) [(Ar 5 1 encU8 r.1)] := by
 refine GCall.of_body (n := 53) (rs := [(.tmp 4), (.tmp 5)]) Try.func42 rfl rfl rfl <| Ato ⟨.l encU8 p0::.agg [(.y p1.Kind), (.i p1.N), (.u p1.Bits), (.s p1.Text)]::tu 51 [], [], 0⟩ ?_
 have hm := h
 unfold m_telltaleref04_Put at hm
 refine Sx <| Wy (.loc 0 0) [(0, (.box [(.y p1.Kind), (.i p1.N), (.u p1.Bits), (.s p1.Text)]))] (Obx rfl) <| Wm (.d .nil) rfl <| Wm (.i 0) rfl <| Nk 9 1 ⟨.l encU8 p0::tp 2 (.loc 0 0::tp 49 []), [(.box [(.y p1.Kind), (.i p1.N), (.u p1.Bits), (.s p1.Text)])], 0⟩ <| Sq <| Sx <| Wz (.agg [(.y p1.Kind), (.i p1.N), (.u p1.Bits), (.s p1.Text)]) (Old rfl) ?_
 obtain ⟨r9_0, hr9_0, hm⟩ := bnd hm
 refine Wz (.i r9_0) (Ocf [] [] [] 0 (ok_telltaleref04_Check p1 r9_0 hr9_0) (fun a w => Try.call67 a w) rfl trivial) <| Wm (.i r9_0) rfl <| Nk 73 1 ⟨.l encU8 p0::tp 2 (.loc 0 0::tp 2 (.i r9_0::tp 46 [])), [(.box [(.y p1.Kind), (.i p1.N), (.u p1.Bits), (.s p1.Text)])], 0⟩ <| Sx <| Wm (.i r9_0) rfl <| Wz (.b (decide (r9_0 ≠ 0))) (Obn rfl (fun _ => hb_neq (k := .i64))) <| Nk 2121 1 ⟨.l encU8 p0::tp 2 (.loc 0 0::tp 2 (.i r9_0::tp 4 (.b (decide (r9_0 ≠ 0))::tp 41 []))), [(.box [(.y p1.Kind), (.i p1.N), (.u p1.Bits), (.s p1.Text)])], 0⟩ ?_
 rcases tf_ (decide (r9_0 ≠ 0)) with hc11_6 | hc11_6
 ·
  replace hm := cT hc11_6 hm
  refine AiT hc11_6 <| Sx <| Wm (.i r9_0) rfl <| Wm (.d .nil) rfl <| Wm (.i r9_0) rfl <| Nn <| Aow 4 5 1 ⟨.l encU8 p0::tp 2 (.loc 0 0::.own 1::.i r9_0::.i r9_0::tp 4 (.b (decide (r9_0 ≠ 0))::.i r9_0::tp 40 [])), [(.box [(.y p1.Kind), (.i p1.N), (.u p1.Bits), (.s p1.Text)]), (Ar 5 1 encU8 ([] : List UInt8))], 0⟩ <| Rt <| Tr ?_
  obtain rfl := Option.some.inj hm
  exact ret_i [1]
 ·
  replace hm := cF hc11_6 hm
  refine AiF hc11_6 <| Sk <| Tk 9 1 ⟨.l encU8 p0::tp 2 (.loc 0 0::tp 49 []), [(.box [(.y p1.Kind), (.i p1.N), (.u p1.Bits), (.s p1.Text)])], 0⟩ <| Sq <| Adr <| Wy (.own 1) [(1, (Ar 5 1 encU8 ([] : List UInt8)))] (Obs rfl) <| Wm (.l encU8 p0) rfl ?_
  obtain ⟨a15_1, ha15_1, hm⟩ := bnd hm; obtain ⟨ha15_1e, ha15_1l⟩ := app_some ha15_1
  refine Wy (.own 2) [(1, .gone), (2, (Ar 5 1 encU8 a15_1))] (Oap rfl elemOK_36 encU8_len ha15_1e ha15_1l) <| Wz (.loc 0 0) (Ofa rfl) <| Wz (.y p1.Kind) (Old rfl) <| Wy (.own 3) [(3, (Ar 5 1 encU8 ([p1.Kind] : List UInt8)))] (Obs rfl) ?_
  obtain ⟨a19_1, ha19_1, hm⟩ := bnd hm; obtain ⟨ha19_1e, ha19_1l⟩ := app_some ha19_1
  refine Wy (.own 4) [(2, .gone), (4, (Ar 5 1 encU8 a19_1))] (Oap rfl elemOK_36 encU8_len ha19_1e ha19_1l) <| Wm (.own 4) rfl <| Wdr <| Tk 136 17 ⟨tp 3 (.loc 0 0::tp 3 (.own 4::tp 45 [])), [(.box [(.y p1.Kind), (.i p1.N), (.u p1.Bits), (.s p1.Text)]), .gone, .gone, .gone, (Ar 5 1 encU8 a19_1)], 0⟩ <| Sq <| Sx <| Wz (.loc 0 0) (Ofa rfl) <| Wz (.y p1.Kind) (Old rfl) <| Wz (.b (decide (((p1.Kind.toNat : Nat) : Int) = 1))) (Ob2 (.int .u8 ((p1.Kind.toNat : Nat) : Int)) (.int .u8 1) rfl (fun _ => hb_eql)) <| Nk 4194440 17 ⟨tp 3 (.loc 0 0::tp 3 (.own 4::tp 14 (.b (decide (((p1.Kind.toNat : Nat) : Int) = 1))::tp 30 []))), [(.box [(.y p1.Kind), (.i p1.N), (.u p1.Bits), (.s p1.Text)]), .gone, .gone, .gone, (Ar 5 1 encU8 a19_1)], 0⟩ ?_
  rcases tf_ (decide (((p1.Kind.toNat : Nat) : Int) = 1)) with hc22_7 | hc22_7
  ·
   replace hm := cT hc22_7 hm
   refine AiT hc22_7 <| Sx <| Wm (.own 4) rfl <| Wz (.loc 0 1) (Ofa rfl) <| Wz (.i p1.N) (Old rfl) ?_
   obtain ⟨r26_2, hr26_2, hm⟩ := bnd hm
   refine Wz (.u r26_2) (Ocf [] [] [] 0 (ok_telltaleref02_Fold p1.N r26_2 hr26_2) (fun a w => Try.call68 a w) rfl trivial) ?_
   obtain ⟨r27_2, hr27_2, hm⟩ := bnd hm
   refine Wy (.own 5) [(5, (Ar 5 1 encU8 r27_2))] (Ocp [] [5] [4] 0 (ok_telltaleref02_Put a19_1 r26_2 r27_2 hr27_2) (⟨by simp [A.Plain, A.Plains, D.Plain, byteD], plain_cons (flat_plain encU8_plain) (plain_nil)⟩) (fun a w => Try.call40 a w) rfl trivial) <| Wm (.own 5) rfl <| Wm (.i 0) rfl <| Nn <| Rt <| Tr ?_
   obtain rfl := Option.some.inj hm
   exact ret_i [5]
  ·
   replace hm := cF hc22_7 hm
   refine AiF hc22_7 <| Sk <| Tk 136 17 ⟨tp 3 (.loc 0 0::tp 3 (.own 4::tp 45 [])), [(.box [(.y p1.Kind), (.i p1.N), (.u p1.Bits), (.s p1.Text)]), .gone, .gone, .gone, (Ar 5 1 encU8 a19_1)], 0⟩ <| Sq <| Sx <| Wz (.loc 0 0) (Ofa rfl) <| Wz (.y p1.Kind) (Old rfl) <| Wz (.b (decide (((p1.Kind.toNat : Nat) : Int) = 2))) (Ob2 (.int .u8 ((p1.Kind.toNat : Nat) : Int)) (.int .u8 2) rfl (fun _ => hb_eql)) <| Nk 1073741960 17 ⟨tp 3 (.loc 0 0::tp 3 (.own 4::tp 22 (.b (decide (((p1.Kind.toNat : Nat) : Int) = 2))::tp 22 []))), [(.box [(.y p1.Kind), (.i p1.N), (.u p1.Bits), (.s p1.Text)]), .gone, .gone, .gone, (Ar 5 1 encU8 a19_1)], 0⟩ ?_
   rcases tf_ (decide (((p1.Kind.toNat : Nat) : Int) = 2)) with hc30_8 | hc30_8
   ·
    replace hm := cT hc30_8 hm
    refine AiT hc30_8 <| Sx <| Wm (.own 4) rfl <| Wz (.loc 0 1) (Ofa rfl) <| Wz (.i p1.N) (Old rfl) <| Wz (.y (toU8 p1.N)) (Ocs (lit_int (u8w _)) (op_convert rfl (a1 := .int .i64 p1.N) (by kernel_rfl) (run_conv (ds := .int .i64) (k' := .u8) (by kernel_rfl) (by kernel_rfl)))) <| Wy (.own 5) [(5, (Ar 5 1 encU8 ([(toU8 p1.N)] : List UInt8)))] (Obs rfl) ?_
    obtain ⟨a36_3, ha36_3, hm⟩ := bnd hm; obtain ⟨ha36_3e, ha36_3l⟩ := app_some ha36_3
    refine Wy (.own 6) [(4, .gone), (6, (Ar 5 1 encU8 a36_3))] (Oap rfl elemOK_36 encU8_len ha36_3e ha36_3l) <| Wm (.own 6) rfl <| Wm (.i 0) rfl <| Nn <| Rt <| Tr ?_
    obtain rfl := Option.some.inj hm
    exact ret_i [6]
   ·
    replace hm := cF hc30_8 hm
    refine AiF hc30_8 <| Sk <| Tk 136 17 ⟨tp 3 (.loc 0 0::tp 3 (.own 4::tp 45 [])), [(.box [(.y p1.Kind), (.i p1.N), (.u p1.Bits), (.s p1.Text)]), .gone, .gone, .gone, (Ar 5 1 encU8 a19_1)], 0⟩ <| Sq <| Sx <| Wz (.loc 0 0) (Ofa rfl) <| Wz (.y p1.Kind) (Old rfl) <| Wz (.b (decide (((p1.Kind.toNat : Nat) : Int) = 3))) (Ob2 (.int .u8 ((p1.Kind.toNat : Nat) : Int)) (.int .u8 3) rfl (fun _ => hb_eql)) <| Nk 549755814024 17 ⟨tp 3 (.loc 0 0::tp 3 (.own 4::tp 31 (.b (decide (((p1.Kind.toNat : Nat) : Int) = 3))::tp 13 []))), [(.box [(.y p1.Kind), (.i p1.N), (.u p1.Bits), (.s p1.Text)]), .gone, .gone, .gone, (Ar 5 1 encU8 a19_1)], 0⟩ ?_
    rcases tf_ (decide (((p1.Kind.toNat : Nat) : Int) = 3)) with hc39_9 | hc39_9
    ·
     replace hm := cT hc39_9 hm
     refine AiT hc39_9 <| Sx <| Wm (.own 4) rfl <| Wz (.loc 0 2) (Ofa rfl) <| Wz (.u p1.Bits) (Old rfl) ?_
     obtain ⟨r43_4, hr43_4, hm⟩ := bnd hm
     refine Wy (.own 5) [(5, (Ar 5 1 encU8 r43_4))] (Ocp [] [5] [4] 0 (ok_telltaleref01_Word a19_1 p1.Bits r43_4 hr43_4) (⟨by simp [A.Plain, A.Plains, D.Plain, byteD], plain_cons (flat_plain encU8_plain) (plain_nil)⟩) (fun a w => Try.call69 a w) rfl trivial) <| Wm (.own 5) rfl <| Wm (.i 0) rfl <| Nn <| Rt <| Tr ?_
     obtain rfl := Option.some.inj hm
     exact ret_i [5]
    ·
     replace hm := cF hc39_9 hm
     refine AiF hc39_9 <| Sk <| Tk 136 17 ⟨tp 3 (.loc 0 0::tp 3 (.own 4::tp 45 [])), [(.box [(.y p1.Kind), (.i p1.N), (.u p1.Bits), (.s p1.Text)]), .gone, .gone, .gone, (Ar 5 1 encU8 a19_1)], 0⟩ <| Sq <| Adr <| Wm (.own 4) rfl <| Wz (.loc 0 3) (Ofa rfl) <| Wz (.s p1.Text) (Old rfl) <| Wz (.i ((List.length p1.Text : Nat) : Int)) (Oln rfl) <| Wz (.u (W7 ((List.length p1.Text : Nat) : Int))) (Oc2 (.int .i64 ((List.length p1.Text : Nat) : Int)) rfl (run_conv (ds := .int .i64) (k' := .u64) (by kernel_rfl) (by kernel_rfl))) ?_
     obtain ⟨r49_5, hr49_5, hm⟩ := bnd hm
     refine Wy (.own 5) [(5, (Ar 5 1 encU8 r49_5))] (Ocp [] [5] [4] 0 (ok_telltaleref02_Put a19_1 (IntKind.u64.wrap ((List.length p1.Text : Nat) : Int)) r49_5 hr49_5) (⟨by simp [A.Plain, A.Plains, D.Plain, byteD], plain_cons (flat_plain encU8_plain) (plain_nil)⟩) (fun a w => Try.call40 a w) rfl trivial) <| Wz (.loc 0 3) (Ofa rfl) <| Wz (.s p1.Text) (Old rfl) ?_
     obtain ⟨a52_5, ha52_5, hm⟩ := bnd hm; obtain ⟨ha52_5e, ha52_5l⟩ := app_some ha52_5
     refine Wy (.own 6) [(5, .gone), (6, (Ar 5 1 encU8 a52_5))] (OcB (op_appendStr rfl elemOK_36 (by kernel_rfl) (id := 5) (by kernel_rfl) (n := List.length r49_5) (xs := flatD encU8 r49_5) (by kernel_rfl) (str := toS p1.Text) (by kernel_rfl) (app_str ha52_5l) (by kernel_rfl) (by decide)) (bl_app (by rw [ha52_5e, List.length_append]; rfl) (by rw [ha52_5e, flatD_append, flatU8 p1.Text]; rfl))) <| Wm (.own 6) rfl <| Wm (.i 0) rfl <| Wdr <| Tn <| Rt ?_
     obtain rfl := Option.some.inj hm
     exact ret_i [6]

theorem ok_telltaleref07_Put (p0 : (List UInt8)) (p1 : (List GType)) (p2 : GEvent) (r : ((List UInt8) × Int)) (h : m_telltaleref07_Put p0 p1 p2 = some r) : GCall Try.prog 13 [(.l encU8 p0), (.l enc_GType p1), (.agg [(.i p2.Time), (.i p2.Source), (.i p2.Seq), (.s p2.Type_), (.l enc_GValue p2.Vals)])] [] (.tup [(.own 0), (.i r.2)]) [(Ar 5 1 encU8 r.1)] := by
 refine GCall.of_body (n := 56) (rs := [(.tmp 6), (.tmp 7)]) Try.func13 rfl rfl rfl <| Ato ⟨.l encU8 p0::.l enc_GType p1::.agg [(.i p2.Time), (.i p2.Source), (.i p2.Seq), (.s p2.Type_), (.l enc_GValue p2.Vals)]::tu 53 [], [], 0⟩ ?_
 have hm := h
 unfold m_telltaleref07_Put at hm
 refine Sx <| Wy (.loc 0 0) [(0, (.box [(.i p2.Time), (.i p2.Source), (.i p2.Seq), (.s p2.Type_), (.l enc_GValue p2.Vals)]))] (Obx rfl) <| Wm (.d .nil) rfl <| Wm (.i 0) rfl <| Nk 35 1 ⟨.l encU8 p0::.l enc_GType p1::tp 3 (.loc 0 0::tp 50 []), [(.box [(.i p2.Time), (.i p2.Source), (.i p2.Seq), (.s p2.Type_), (.l enc_GValue p2.Vals)])], 0⟩ <| Sq <| Sx <| Wm (.l enc_GType p1) rfl <| Wz (.agg [(.i p2.Time), (.i p2.Source), (.i p2.Seq), (.s p2.Type_), (.l enc_GValue p2.Vals)]) (Old rfl) ?_
 obtain ⟨r12_0, hr12_0, hm⟩ := bnd hm
 refine Wz (.i r12_0) (Ocf [] [] [] 0 (ok_telltaleref07_Check p1 p2 r12_0 hr12_0) (fun a w => Try.call17 a w) rfl trivial) <| Wm (.i r12_0) rfl <| Nk 291 1 ⟨.l encU8 p0::.l enc_GType p1::tp 3 (.loc 0 0::tp 2 (.i r12_0::tp 47 [])), [(.box [(.i p2.Time), (.i p2.Source), (.i p2.Seq), (.s p2.Type_), (.l enc_GValue p2.Vals)])], 0⟩ <| Sx <| Wm (.i r12_0) rfl <| Wz (.b (decide (r12_0 ≠ 0))) (Obn rfl (fun _ => hb_neq (k := .i64))) <| Nk 16675 1 ⟨.l encU8 p0::.l enc_GType p1::tp 3 (.loc 0 0::tp 2 (.i r12_0::tp 5 (.b (decide (r12_0 ≠ 0))::tp 41 []))), [(.box [(.i p2.Time), (.i p2.Source), (.i p2.Seq), (.s p2.Type_), (.l enc_GValue p2.Vals)])], 0⟩ ?_
 rcases tf_ (decide (r12_0 ≠ 0)) with hc14_8 | hc14_8
 ·
  replace hm := cT hc14_8 hm
  refine AiT hc14_8 <| Sx <| Wm (.i r12_0) rfl <| Wm (.d .nil) rfl <| Wm (.i r12_0) rfl <| Nn <| Aow 6 5 1 ⟨.l encU8 p0::.l enc_GType p1::tp 3 (.loc 0 0::.own 1::.i r12_0::.i r12_0::tp 5 (.b (decide (r12_0 ≠ 0))::.i r12_0::tp 40 [])), [(.box [(.i p2.Time), (.i p2.Source), (.i p2.Seq), (.s p2.Type_), (.l enc_GValue p2.Vals)]), (Ar 5 1 encU8 ([] : List UInt8))], 0⟩ <| Rt <| Tr ?_
  obtain rfl := Option.some.inj hm
  exact ret_i [1]
 ·
  replace hm := cF hc14_8 hm
  refine AiF hc14_8 <| Sk <| Tk 35 1 ⟨.l encU8 p0::.l enc_GType p1::tp 3 (.loc 0 0::tp 50 []), [(.box [(.i p2.Time), (.i p2.Source), (.i p2.Seq), (.s p2.Type_), (.l enc_GValue p2.Vals)])], 0⟩ <| Sx <| Wm (.l encU8 p0) rfl <| Wz (.loc 0 0) (Ofa rfl) <| Wz (.i p2.Time) (Old rfl) <| Wz (.u (W7 p2.Time)) (Oc2 (.int .i64 p2.Time) rfl (run_conv (ds := .int .i64) (k' := .u64) (by kernel_rfl) (by kernel_rfl))) ?_
  obtain ⟨r20_1, hr20_1, hm⟩ := bnd hm
  refine Wy (.own 1) [(1, (Ar 5 1 encU8 r20_1))] (Ocf [] [1] [] 0 (ok_telltaleref02_Put p0 (W7 p2.Time) r20_1 hr20_1) (fun a w => Try.call40 a w) rfl trivial) <| Wm (.own 1) rfl <| Nk 35 3 ⟨.own 1::.l enc_GType p1::tp 3 (.loc 0 0::tp 50 []), [(.box [(.i p2.Time), (.i p2.Source), (.i p2.Seq), (.s p2.Type_), (.l enc_GValue p2.Vals)]), (Ar 5 1 encU8 r20_1)], 0⟩ <| Sx <| Wm (.own 1) rfl <| Wz (.loc 0 1) (Ofa rfl) <| Wz (.i p2.Source) (Old rfl) <| Wz (.u (W7 p2.Source)) (Oc2 (.int .i64 p2.Source) rfl (run_conv (ds := .int .i64) (k' := .u64) (by kernel_rfl) (by kernel_rfl))) ?_
  obtain ⟨r25_2, hr25_2, hm⟩ := bnd hm
  refine Wy (.own 2) [(2, (Ar 5 1 encU8 r25_2))] (Ocp [] [2] [1] 0 (ok_telltaleref02_Put r20_1 (IntKind.u64.wrap p2.Source) r25_2 hr25_2) (⟨by simp [A.Plain, A.Plains, D.Plain, byteD], plain_cons (flat_plain encU8_plain) (plain_nil)⟩) (fun a w => Try.call40 a w) rfl trivial) <| Wm (.own 2) rfl <| Nk 35 5 ⟨.own 2::.l enc_GType p1::tp 3 (.loc 0 0::tp 50 []), [(.box [(.i p2.Time), (.i p2.Source), (.i p2.Seq), (.s p2.Type_), (.l enc_GValue p2.Vals)]), .gone, (Ar 5 1 encU8 r25_2)], 0⟩ <| Sx <| Wm (.own 2) rfl <| Wz (.loc 0 2) (Ofa rfl) <| Wz (.i p2.Seq) (Old rfl) <| Wz (.u (W7 p2.Seq)) (Oc2 (.int .i64 p2.Seq) rfl (run_conv (ds := .int .i64) (k' := .u64) (by kernel_rfl) (by kernel_rfl))) ?_
  obtain ⟨r30_3, hr30_3, hm⟩ := bnd hm
  refine Wy (.own 3) [(3, (Ar 5 1 encU8 r30_3))] (Ocp [] [3] [2] 0 (ok_telltaleref02_Put r25_2 (IntKind.u64.wrap p2.Seq) r30_3 hr30_3) (⟨by simp [A.Plain, A.Plains, D.Plain, byteD], plain_cons (flat_plain encU8_plain) (plain_nil)⟩) (fun a w => Try.call40 a w) rfl trivial) <| Wm (.own 3) rfl <| Nk 35 9 ⟨.own 3::.l enc_GType p1::tp 3 (.loc 0 0::tp 50 []), [(.box [(.i p2.Time), (.i p2.Source), (.i p2.Seq), (.s p2.Type_), (.l enc_GValue p2.Vals)]), .gone, .gone, (Ar 5 1 encU8 r30_3)], 0⟩ <| Sx <| Wm (.own 3) rfl <| Wm (.l enc_GType p1) rfl <| Wz (.loc 0 3) (Ofa rfl) <| Wz (.s p2.Type_) (Old rfl) ?_
  obtain ⟨r35_4, hr35_4, hm⟩ := bnd hm
  refine Wz (.i r35_4) (Ocf [] [] [] 0 (ok_telltaleref07_place p1 p2.Type_ r35_4 hr35_4) (fun a w => Try.call41 a w) rfl trivial) <| Wz (.u (W7 r35_4)) (Oc2 (.int .i64 r35_4) rfl (run_conv (ds := .int .i64) (k' := .u64) (by kernel_rfl) (by kernel_rfl))) ?_
  obtain ⟨r37_4, hr37_4, hm⟩ := bnd hm
  refine Wy (.own 4) [(4, (Ar 5 1 encU8 r37_4))] (Ocp [] [4] [3] 0 (ok_telltaleref02_Put r30_3 (IntKind.u64.wrap r35_4) r37_4 hr37_4) (⟨by simp [A.Plain, A.Plains, D.Plain, byteD], plain_cons (flat_plain encU8_plain) (plain_nil)⟩) (fun a w => Try.call40 a w) rfl trivial) <| Wm (.own 4) rfl <| Nk 33 17 ⟨.own 4::tp 4 (.loc 0 0::tp 50 []), [(.box [(.i p2.Time), (.i p2.Source), (.i p2.Seq), (.s p2.Type_), (.l enc_GValue p2.Vals)]), .gone, .gone, .gone, (Ar 5 1 encU8 r37_4)], 0⟩ <| Sq <| Sx <| Wm (.i 0) rfl <| Nk 545 17 ⟨.own 4::tp 4 (.loc 0 0::tp 3 (.i 0::tp 46 [])), [(.box [(.i p2.Time), (.i p2.Source), (.i p2.Seq), (.s p2.Type_), (.l enc_GValue p2.Vals)]), .gone, .gone, .gone, (Ar 5 1 encU8 r37_4)], 0⟩ <| Bk ?_
  refine AWP.loopI (α := Nat × (List UInt8) × Int)
    (fun (fu_5, y0_5, y9_5) => (⟨.own 0::tp 4 (.loc 1 0::tp 3 (.i y9_5::tp 46 [])), [(Ar 5 1 encU8 y0_5), (.box [(.i p2.Time), (.i p2.Source), (.i p2.Seq), (.s p2.Type_), (.l enc_GValue p2.Vals)])], 0⟩ : St))
    (fun (fu_5, y0_5, y9_5) => m_telltaleref07_Put_l5 p2 fu_5 y0_5 y9_5 = some r)
    (fun (fu_5, y0_5, y9_5) => fu_5) (1152921504606846976, r37_4, 0)
    (Weak.toK 545 0 0 [4, 0]) hm ?_
  rintro ⟨fu_5, y0_5, y9_5⟩ n_5 hm ih_5
  try dsimp only at hm ih_5 ⊢
  cases fu_5 with
  | zero => exact absurd hm (by unfold m_telltaleref07_Put_l5; simp)
  | succ fu_5 =>
   unfold m_telltaleref07_Put_l5 at hm
   refine Sq <| Sx <| Wm (.i y9_5) rfl <| Wz (.loc 1 4) (Ofa rfl) <| Wz (.l enc_GValue p2.Vals) (Old rfl) <| Wz (.i ((List.length p2.Vals : Nat) : Int)) (Oln rfl) <| Wz (.b (decide (y9_5 < ((List.length p2.Vals : Nat) : Int)))) (Obn rfl (fun _ => hb_lss (k := .i64))) <| Nk 4398046511649 3 ⟨.own 0::tp 4 (.loc 1 0::tp 3 (.i y9_5::tp 32 (.b (decide (y9_5 < ((List.length p2.Vals : Nat) : Int)))::tp 13 []))), [(Ar 5 1 encU8 y0_5), (.box [(.i p2.Time), (.i p2.Source), (.i p2.Seq), (.s p2.Type_), (.l enc_GValue p2.Vals)])], 0⟩ ?_
   rcases tf_ (decide (y9_5 < ((List.length p2.Vals : Nat) : Int))) with hc42_9 | hc42_9
   ·
    replace hm := cT hc42_9 hm
    refine AiT hc42_9 <| Sk <| Tk 545 3 ⟨.own 0::tp 4 (.loc 1 0::tp 3 (.i y9_5::tp 46 [])), [(Ar 5 1 encU8 y0_5), (.box [(.i p2.Time), (.i p2.Source), (.i p2.Seq), (.s p2.Type_), (.l enc_GValue p2.Vals)])], 0⟩ <| Sq <| Bk <| Tx <| Wm (.own 0) rfl <| Wz (.loc 1 4) (Ofa rfl) <| Wz (.l enc_GValue p2.Vals) (Old rfl) <| Wm (.i y9_5) rfl ?_
    obtain ⟨x50_7, hx50_7, hm⟩ := bnd hm
    obtain ⟨hx50_7i, hx50_7g⟩ := geti_some hx50_7
    refine Wz (.d (.ref (List.drop ((Int.toNat y9_5) * 4) (flatD enc_GValue p2.Vals)))) (Oia rfl enc_GValue_len hx50_7i hx50_7g) <| Wz (.agg [(.y x50_7.Kind), (.i x50_7.N), (.u x50_7.Bits), (.s x50_7.Text)]) (Lf rfl enc_GValue_len hx50_7g) ?_
    obtain ⟨r52_7, hr52_7, hm⟩ := bnd hm
    refine Wy (.tup [(.own 2), (.i r52_7.2)]) [(2, (Ar 5 1 encU8 r52_7.1))] (Ocp [] [2] [0] 0 (ok_telltaleref04_Put y0_5 x50_7 r52_7 hr52_7) (⟨by simp [A.Plain, A.Plains, D.Plain, byteD], plain_cons (flat_plain encU8_plain) (plain_nil)⟩) (fun a w => Try.call42 a w) rfl trivial) <| Wm (.tup [(.own 2), (.i r52_7.2)]) rfl <| Wz (.own 2) (Oex rfl) <| Wz (.i r52_7.2) (Oex rfl) <| Wm (.own 2) rfl <| Wn0 <| Ino <| Tk 545 6 ⟨.own 2::tp 4 (.loc 1 0::tp 3 (.i y9_5::tp 46 [])), [.gone, (.box [(.i p2.Time), (.i p2.Source), (.i p2.Seq), (.s p2.Type_), (.l enc_GValue p2.Vals)]), (Ar 5 1 encU8 r52_7.1)], 0⟩ <| Tx <| Wm (.i y9_5) rfl <| Wz (.i (W6 (y9_5 + 1))) (Obn rfl (fun _ => hb_add (k := .i64))) <| Wm (.i (W6 (y9_5 + 1))) rfl <| Wn0 <| RoundK.normal ?_
    exact Rounds.weak (Weak.toK 545 0 0 [2, 1]) (ih_5 (fu_5, r52_7.1, (W6 (y9_5 + 1))) hm (Nat.lt_succ_self _))
   ·
    replace hm := cF hc42_9 hm
    refine AiF hc42_9 <| AWP.exit <| Then.exit <| RoundK.exit <| InBlock.same <| Tk 1 1 ⟨.own 0::tp 55 [], [(Ar 5 1 encU8 y0_5), .gone], 0⟩ <| Sx <| Wm (.own 0) rfl <| Wm (.own 0) rfl <| Wm (.i 0) rfl <| Nn <| Rt ?_
    obtain rfl := Option.some.inj hm
    exact ret_i [0]

theorem ok_telltaleref06_At (p0 : GType) (p1 : (List UInt8)) (r : (Int × UInt8)) (h : m_telltaleref06_At p0 p1 = some r) : GCall Try.prog 46 [(.agg [(.s p0.Name), (.l enc_GField p0.Fields)]), (.s p1)] [] (.tup [(.i r.1), (.y r.2)]) [] := by
 refine GCall.of_body (n := 29) (rs := [(.tmp 4), (.tmp 5)]) Try.func46 rfl rfl rfl <| Ato ⟨.agg [(.s p0.Name), (.l enc_GField p0.Fields)]::.s p1::tu 27 [], [], 0⟩ ?_
 have hm := h
 unfold m_telltaleref06_At at hm
 refine Sx <| Wy (.loc 0 0) [(0, (.box [(.s p0.Name), (.l enc_GField p0.Fields)]))] (Obx rfl) <| Wm (.i 0) rfl <| Wm (.y 0) rfl <| Nk 6 1 ⟨tp 1 (.s p1::.loc 0 0::tp 26 []), [(.box [(.s p0.Name), (.l enc_GField p0.Fields)])], 0⟩ <| Sq <| Sx <| Wm (.i 0) rfl <| Nk 70 1 ⟨tp 1 (.s p1::.loc 0 0::tp 3 (.i 0::tp 22 [])), [(.box [(.s p0.Name), (.l enc_GField p0.Fields)])], 0⟩ <| Bk ?_
 refine AWP.loopI (α := Nat × Int)
   (fun (fu_0, y6_0) => (⟨tp 1 (.s p1::.loc 0 0::tp 3 (.i y6_0::tp 22 [])), [(.box [(.s p0.Name), (.l enc_GField p0.Fields)])], 0⟩ : St))
   (fun (fu_0, y6_0) => m_telltaleref06_At_l0 p0 p1 fu_0 y6_0 = some r)
   (fun (fu_0, y6_0) => fu_0) (1152921504606846976, 0)
   (Weak.toK 70 0 0 [0]) hm ?_
 rintro ⟨fu_0, y6_0⟩ n_0 hm ih_0
 try dsimp only at hm ih_0 ⊢
 cases fu_0 with
 | zero => exact absurd hm (by unfold m_telltaleref06_At_l0; simp)
 | succ fu_0 =>
  unfold m_telltaleref06_At_l0 at hm
  refine Sq <| Sx <| Wm (.i y6_0) rfl <| Wz (.loc 0 1) (Ofa rfl) <| Wz (.l enc_GField p0.Fields) (Old rfl) <| Wz (.i ((List.length p0.Fields : Nat) : Int)) (Oln rfl) <| Wz (.b (decide (y6_0 < ((List.length p0.Fields : Nat) : Int)))) (Obn rfl (fun _ => hb_lss (k := .i64))) <| Nk 2118 1 ⟨tp 1 (.s p1::.loc 0 0::tp 3 (.i y6_0::tp 4 (.b (decide (y6_0 < ((List.length p0.Fields : Nat) : Int)))::tp 17 []))), [(.box [(.s p0.Name), (.l enc_GField p0.Fields)])], 0⟩ ?_
  rcases tf_ (decide (y6_0 < ((List.length p0.Fields : Nat) : Int))) with hc11_4 | hc11_4
  ·
   replace hm := cT hc11_4 hm
   refine AiT hc11_4 <| Sk <| Tk 70 1 ⟨tp 1 (.s p1::.loc 0 0::tp 3 (.i y6_0::tp 22 [])), [(.box [(.s p0.Name), (.l enc_GField p0.Fields)])], 0⟩ <| Sq <| Bk <| Sx <| Wz (.loc 0 1) (Ofa rfl) <| Wz (.l enc_GField p0.Fields) (Old rfl) <| Wm (.i y6_0) rfl ?_
   obtain ⟨x17_2, hx17_2, hm⟩ := bnd hm
   obtain ⟨hx17_2i, hx17_2g⟩ := geti_some hx17_2
   refine Wz (.d (.ref (List.drop ((Int.toNat y6_0) * 2) (flatD enc_GField p0.Fields)))) (Oia rfl enc_GField_len hx17_2i hx17_2g) <| Wz (.d (.ref (List.drop ((Int.toNat y6_0) * 2) (flatD enc_GField p0.Fields)))) (Ofa rfl) <| Wz (.s x17_2.Name) (Lf1 rfl enc_GField_len hx17_2g) <| Wm (.s p1) rfl <| Wz (.b (decide (x17_2.Name = p1))) (Ocs (lit_tf (by simp only [toS_inj, ne_eq])) (op_bin rfl (a1 := .string (toS x17_2.Name)) (a2 := .string (toS p1)) (by kernel_rfl) (by kernel_rfl) (fun _ => hb_seql))) <| Nk 2097222 1 ⟨tp 1 (.s p1::.loc 0 0::tp 3 (.i y6_0::tp 14 (.b (decide (x17_2.Name = p1))::tp 7 []))), [(.box [(.s p0.Name), (.l enc_GField p0.Fields)])], 0⟩ ?_
   rcases tf_ (decide (x17_2.Name = p1)) with hc21_5 | hc21_5
   ·
    replace hm := cT hc21_5 hm
    refine AiT hc21_5 <| Sq <| Adr <| Wm (.i y6_0) rfl <| Wz (.loc 0 1) (Ofa rfl) <| Wz (.l enc_GField p0.Fields) (Old rfl) <| Wm (.i y6_0) rfl ?_
    obtain ⟨x26_3, hx26_3, hm⟩ := bnd hm
    obtain ⟨hx26_3i, hx26_3g⟩ := geti_some hx26_3
    refine Wz (.d (.ref (List.drop ((Int.toNat y6_0) * 2) (flatD enc_GField p0.Fields)))) (Oia rfl enc_GField_len hx26_3i hx26_3g) <| Wz (.d (.ref (List.drop 1 (List.drop ((Int.toNat y6_0) * 2) (flatD enc_GField p0.Fields))))) (Ofa rfl) <| Wz (.y x26_3.Kind) (Lfk1 1 rfl enc_GField_len hx26_3g) <| Wm (.i y6_0) rfl <| Wm (.y x26_3.Kind) rfl <| Wdr <| Tn <| Rt <| Ir <| Tr <| RoundK.ret <| Ir <| Tr ?_
    obtain rfl := Option.some.inj hm
    exact ret_i []
   ·
    replace hm := cF hc21_5 hm
    refine AiF hc21_5 <| Sk <| Ino <| Tk 70 1 ⟨tp 1 (.s p1::.loc 0 0::tp 3 (.i y6_0::tp 22 [])), [(.box [(.s p0.Name), (.l enc_GField p0.Fields)])], 0⟩ <| Tx <| Wm (.i y6_0) rfl <| Wz (.i (W6 (y6_0 + 1))) (Obn rfl (fun _ => hb_add (k := .i64))) <| Wm (.i (W6 (y6_0 + 1))) rfl <| Wn0 <| RoundK.normal ?_
    exact Rounds.weak (Weak.toK 70 0 0 [0]) (ih_0 (fu_0, (W6 (y6_0 + 1))) hm (Nat.lt_succ_self _))
  ·
   replace hm := cF hc11_4 hm
   refine AiF hc11_4 <| AWP.exit <| Then.exit <| RoundK.exit <| InBlock.same <| Tk 0 0 ⟨tp 29 [], [.gone], 0⟩ <| Sx <| Wm (.i (-1)) rfl <| Wm (.y 0) rfl <| Nn <| Rt ?_
   obtain rfl := Option.some.inj hm
   exact ret_i []

theorem ok_telltaleref07_Value (p0 : (List GType)) (p1 : GEvent) (p2 : (List UInt8)) (r : (GValue × Bool)) (h : m_telltaleref07_Value p0 p1 p2 = some r) : GCall Try.prog 15 [(.l enc_GType p0), (.agg [(.i p1.Time), (.i p1.Source), (.i p1.Seq), (.s p1.Type_), (.l enc_GValue p1.Vals)]), (.s p2)] [] (.tup [(.agg [(.y r.1.Kind), (.i r.1.N), (.u r.1.Bits), (.s r.1.Text)]), (.b r.2)]) [] := by
 refine GCall.of_body (n := 40) (rs := [(.cell 6 47), (.tmp 7)]) Try.func15 rfl rfl rfl <| Ato ⟨.l enc_GType p0::.agg [(.i p1.Time), (.i p1.Source), (.i p1.Seq), (.s p1.Type_), (.l enc_GValue p1.Vals)]::.s p2::tu 37 [], [], 0⟩ ?_
 have hm := h
 unfold m_telltaleref07_Value at hm
 refine Sx <| Wy (.loc 0 0) [(0, (.box [(.i p1.Time), (.i p1.Source), (.i p1.Seq), (.s p1.Type_), (.l enc_GValue p1.Vals)]))] (Obx rfl) <| Wy (.loc 1 0) [(1, (.box [(.y 0), (.i 0), (.u 0), (.s ([] : List UInt8))]))] (Oal rfl) <| Wm (.b false) rfl <| Nk 85 3 ⟨.l enc_GType p0::tp 1 (.s p2::tp 1 (.loc 0 0::tp 1 (.loc 1 0::tp 33 []))), [(.box [(.i p1.Time), (.i p1.Source), (.i p1.Seq), (.s p1.Type_), (.l enc_GValue p1.Vals)]), (.box [(.y 0), (.i 0), (.u 0), (.s ([] : List UInt8))])], 0⟩ <| Sx <| Wm (.l enc_GType p0) rfl <| Wz (.loc 0 3) (Ofa rfl) <| Wz (.s p1.Type_) (Old rfl) ?_
 obtain ⟨r16_0, hr16_0, hm⟩ := bnd hm
 refine Wz (.tup [(.agg [(.s r16_0.1.Name), (.l enc_GField r16_0.1.Fields)]), (.b r16_0.2)]) (Ocf [] [] [] 0 (ok_telltaleref06_Find p0 p1.Type_ r16_0 hr16_0) (fun a w => Try.call45 a w) rfl trivial) <| Wm (.tup [(.agg [(.s r16_0.1.Name), (.l enc_GField r16_0.1.Fields)]), (.b r16_0.2)]) rfl <| Wz (.agg [(.s r16_0.1.Name), (.l enc_GField r16_0.1.Fields)]) (Oex rfl) <| Wz (.b r16_0.2) (Oex rfl) <| Wy (.loc 2 0) [(2, (.box [(.s ([] : List UInt8)), (.d .nil)]))] (Oal rfl) <| Wy (.tup []) [(2, (.box [(.s r16_0.1.Name), (.l enc_GField r16_0.1.Fields)]))] (Ost rfl) <| Wm (.b r16_0.2) rfl <| Nk 340 7 ⟨tp 2 (.s p2::tp 1 (.loc 0 0::tp 1 (.loc 1 0::tp 1 (.loc 2 0::tp 31 [])))), [(.box [(.i p1.Time), (.i p1.Source), (.i p1.Seq), (.s p1.Type_), (.l enc_GValue p1.Vals)]), (.box [(.y 0), (.i 0), (.u 0), (.s ([] : List UInt8))]), (.box [(.s r16_0.1.Name), (.l enc_GField r16_0.1.Fields)])], 0⟩ <| Sx <| Wz (.agg [(.s r16_0.1.Name), (.l enc_GField r16_0.1.Fields)]) (Old rfl) <| Wm (.s p2) rfl ?_
 obtain ⟨r22_1, hr22_1, hm⟩ := bnd hm
 refine Wz (.tup [(.i r22_1.1), (.y r22_1.2)]) (Ocf [] [] [] 0 (ok_telltaleref06_At r16_0.1 p2 r22_1 hr22_1) (fun a w => Try.call46 a w) rfl trivial) <| Wm (.tup [(.i r22_1.1), (.y r22_1.2)]) rfl <| Wz (.i r22_1.1) (Oex rfl) <| Wz (.y r22_1.2) (Oex rfl) <| Wm (.i r22_1.1) rfl <| Wm (.y r22_1.2) rfl <| Nk 1104 3 ⟨tp 4 (.loc 0 0::tp 1 (.loc 1 0::tp 3 (.i r22_1.1::tp 29 []))), [(.box [(.i p1.Time), (.i p1.Source), (.i p1.Seq), (.s p1.Type_), (.l enc_GValue p1.Vals)]), (.box [(.y 0), (.i 0), (.u 0), (.s ([] : List UInt8))]), .gone], 0⟩ <| Sq <| Sx <| Wm (.i r22_1.1) rfl <| Wz (.b (decide (r22_1.1 < 0))) (Obn rfl (fun _ => hb_lss (k := .i64))) ?_
 rcases tf_ (decide (r22_1.1 < 0)) with hq27_2 | hq27_2
 ·
  replace hm := cT hq27_2 hm
  refine Wz (.b true) (Oq hq27_2 rfl) <| Wn <| Wn <| Wn <| Wn <| Wn <| Wz (.b true) (OpT rfl) <| Nk 8589935696 3 ⟨tp 4 (.loc 0 0::tp 1 (.loc 1 0::tp 3 (.i r22_1.1::tp 22 (.b true::tp 6 [])))), [(.box [(.i p1.Time), (.i p1.Source), (.i p1.Seq), (.s p1.Type_), (.l enc_GValue p1.Vals)]), (.box [(.y 0), (.i 0), (.u 0), (.s ([] : List UInt8))]), .gone], 0⟩ <| AWP.if_ true (by kernel_rfl) <| Sx <| Wz (.agg [(.y 0), (.i 0), (.u 0), (.s ([] : List UInt8))]) (Obd rfl) <| Wy (.tup []) [(1, (.box [(.y 0), (.i 0), (.u 0), (.s ([] : List UInt8))]))] (Ost rfl) <| Wm (.b false) rfl <| Nn ?_
  refine Rt <| Tr ?_
  obtain rfl := Option.some.inj hm
  exact ret_i []
 ·
  replace hm := cF hq27_2 hm
  refine Wz (.b false) (Oq hq27_2 rfl) <| Wm (.i r22_1.1) rfl <| Wz (.loc 0 4) (Ofa rfl) <| Wz (.l enc_GValue p1.Vals) (Old rfl) <| Wz (.i ((List.length p1.Vals : Nat) : Int)) (Oln rfl) <| Wz (.b (decide (((List.length p1.Vals : Nat) : Int) ≤ r22_1.1))) (Obn rfl (fun _ => hb_geq (k := .i64))) <| Wz (.b (decide (((List.length p1.Vals : Nat) : Int) ≤ r22_1.1))) (OpF rfl) <| Nk 8589935696 3 ⟨tp 4 (.loc 0 0::tp 1 (.loc 1 0::tp 3 (.i r22_1.1::tp 22 (.b (decide (((List.length p1.Vals : Nat) : Int) ≤ r22_1.1))::tp 6 [])))), [(.box [(.i p1.Time), (.i p1.Source), (.i p1.Seq), (.s p1.Type_), (.l enc_GValue p1.Vals)]), (.box [(.y 0), (.i 0), (.u 0), (.s ([] : List UInt8))]), .gone], 0⟩ ?_
  rcases tf_ (decide (((List.length p1.Vals : Nat) : Int) ≤ r22_1.1)) with hc33_4 | hc33_4
  ·
   replace hm := cT hc33_4 hm
   refine AiT hc33_4 <| Sx <| Wz (.agg [(.y 0), (.i 0), (.u 0), (.s ([] : List UInt8))]) (Obd rfl) <| Wy (.tup []) [(1, (.box [(.y 0), (.i 0), (.u 0), (.s ([] : List UInt8))]))] (Ost rfl) <| Wm (.b false) rfl <| Nn <| Rt <| Tr ?_
   obtain rfl := Option.some.inj hm
   exact ret_i []
  ·
   replace hm := cF hc33_4 hm
   refine AiF hc33_4 <| Sk <| Tk 1104 3 ⟨tp 4 (.loc 0 0::tp 1 (.loc 1 0::tp 3 (.i r22_1.1::tp 29 []))), [(.box [(.i p1.Time), (.i p1.Source), (.i p1.Seq), (.s p1.Type_), (.l enc_GValue p1.Vals)]), (.box [(.y 0), (.i 0), (.u 0), (.s ([] : List UInt8))]), .gone], 0⟩ <| Sx <| Wz (.loc 0 4) (Ofa rfl) <| Wz (.l enc_GValue p1.Vals) (Old rfl) <| Wm (.i r22_1.1) rfl ?_
   obtain ⟨x38_3, hx38_3, hm⟩ := bnd hm
   obtain ⟨hx38_3i, hx38_3g⟩ := geti_some hx38_3
   refine Wz (.d (.ref (List.drop ((Int.toNat r22_1.1) * 4) (flatD enc_GValue p1.Vals)))) (Oia rfl enc_GValue_len hx38_3i hx38_3g) <| Wz (.agg [(.y x38_3.Kind), (.i x38_3.N), (.u x38_3.Bits), (.s x38_3.Text)]) (Lf rfl enc_GValue_len hx38_3g) <| Wy (.tup []) [(1, (.box [(.y x38_3.Kind), (.i x38_3.N), (.u x38_3.Bits), (.s x38_3.Text)]))] (Ost rfl) <| Wm (.b true) rfl <| Nn <| Rt ?_
   obtain rfl := Option.some.inj hm
   exact ret_i []

theorem ok_telltalelaw07_EventChecks (p0 : (List GType)) (p1 : GEvent) (p2 : (List UInt8)) (r : Bool) (h : m_telltalelaw07_EventChecks p0 p1 p2 = some r) : GCall Try.prog 3 [(.l enc_GType p0), (.agg [(.i p1.Time), (.i p1.Source), (.i p1.Seq), (.s p1.Type_), (.l enc_GValue p1.Vals)]), (.s p2)] [] (.b r) [] := by
 refine GCall.of_body (n := 98) (rs := [(.tmp 6)]) Try.func3 rfl rfl rfl <| Ato ⟨.l enc_GType p0::.agg [(.i p1.Time), (.i p1.Source), (.i p1.Seq), (.s p1.Type_), (.l enc_GValue p1.Vals)]::.s p2::tu 95 [], [], 0⟩ ?_
 have hm := h
 unfold m_telltalelaw07_EventChecks at hm
 refine Sx <| Wy (.loc 0 0) [(0, (.box [(.i p1.Time), (.i p1.Source), (.i p1.Seq), (.s p1.Type_), (.l enc_GValue p1.Vals)]))] (Obx rfl) <| Wm (.b false) rfl <| Nk 21 1 ⟨.l enc_GType p0::tp 1 (.s p2::tp 1 (.loc 0 0::tp 93 [])), [(.box [(.i p1.Time), (.i p1.Source), (.i p1.Seq), (.s p1.Type_), (.l enc_GValue p1.Vals)])], 0⟩ <| Sq ?_
 refine AWP.cutJ (α := Unit) (fun x => match x with | () => (⟨.l enc_GType p0::tp 1 (.s p2::tp 1 (.loc 0 0::tp 25 (.b true::tp 67 []))), [(.box [(.i p1.Time), (.i p1.Source), (.i p1.Seq), (.s p1.Type_), (.l enc_GValue p1.Vals)])], 0⟩ : St)) (fun x => match x with | () => m_telltalelaw07_EventChecks_j1  = some r) ?_ (fun J1 => ?_)
 ·
  rintro ⟨⟩ hm
  try dsimp only at hm ⊢
  unfold m_telltalelaw07_EventChecks_j1 at hm
  refine AWP.if_ true (by kernel_rfl) <| Sx ?_
  obtain ⟨r31_2, hr31_2, hm⟩ := bnd hm
  refine Wz (.b r31_2) (Ocf [] [] [] 0 (ok_telltalelaw07_awake  r31_2 hr31_2) (fun a w => Try.call9 a w) rfl trivial) <| Wm (.b r31_2) rfl <| Nn <| Rt <| Tr ?_
  obtain rfl := Option.some.inj hm
  exact ret_i []
 refine Sx <| Wm (.l enc_GType p0) rfl ?_
 obtain ⟨r18_0, hr18_0, hm⟩ := bnd hm
 refine Wz (.i r18_0) (Ocf [] [] [] 0 (ok_telltalelaw06_Over p0 r18_0 hr18_0) (fun a w => Try.call7 a w) rfl trivial) <| Wz (.b (decide ((0 : Int) < r18_0))) (Obn rfl (fun _ => hb_gtr (k := .i64))) ?_
 rcases tf_ (decide ((0 : Int) < r18_0)) with hq20_0 | hq20_0
 ·
  replace hm := cT hq20_0 hm
  refine Wz (.b true) (Oq hq20_0 rfl) <| Wn <| Wn <| Wn <| Wn <| Wz (.b true) (OpT rfl) <| Wm (.b true) rfl <| Wn <| Wn <| Wn <| Wz (.b true) (OpT rfl) <| Nn ?_
  exact AWP.weak (Weak.toK 1073741845 0 0 [0]) (J1 () hm)
 ·
  replace hm := cF hq20_0 hm
  refine Wz (.b false) (Oq hq20_0 rfl) <| Wz (.agg [(.i p1.Time), (.i p1.Source), (.i p1.Seq), (.s p1.Type_), (.l enc_GValue p1.Vals)]) (Old rfl) <| Wy (.own 1) [(1, (Ar 25 5 enc_GEvent ([p1] : List GEvent)))] (Obs rfl) ?_
  obtain ⟨r23_0, hr23_0, hm⟩ := bnd hm
  refine Wz (.i r23_0) (Ocp [] [] [1] 0 (ok_telltalelaw07_Over ([p1] : List GEvent) 1 r23_0 hr23_0) (plain_triv (by simp [A.Plain, A.Plains, D.Plain, byteD])) (fun a w => Try.call8 a w) rfl trivial) <| Wz (.b (decide ((0 : Int) < r23_0))) (Obn rfl (fun _ => hb_gtr (k := .i64))) <| Wz (.b (decide ((0 : Int) < r23_0))) (OpF rfl) ?_
  rcases tf_ (decide ((0 : Int) < r23_0)) with hq26_0 | hq26_0
  ·
   replace hm := cT hq26_0 hm
   refine Wz (.b true) (Oq hq26_0 rfl) <| Wn <| Wn <| Wn <| Wz (.b true) (OpT rfl) <| Nn ?_
   exact AWP.weak (Weak.toK 1073741845 0 0 [0]) (J1 () hm)
  ·
   replace hm := cF hq26_0 hm
   refine Wz (.b false) (Oq hq26_0 rfl) <| Wm (.s p2) rfl <| Wz (.i ((List.length p2 : Nat) : Int)) (Oln rfl) <| Wz (.b (decide ((40 : Int) < ((List.length p2 : Nat) : Int)))) (Obn rfl (fun _ => hb_gtr (k := .i64))) <| Wz (.b (decide ((40 : Int) < ((List.length p2 : Nat) : Int)))) (OpF rfl) <| Nk 1073741845 1 ⟨.l enc_GType p0::tp 1 (.s p2::tp 1 (.loc 0 0::tp 25 (.b (decide ((40 : Int) < ((List.length p2 : Nat) : Int)))::tp 67 []))), [(.box [(.i p1.Time), (.i p1.Source), (.i p1.Seq), (.s p1.Type_), (.l enc_GValue p1.Vals)]), .gone], 0⟩ ?_
   rcases tf_ (decide ((40 : Int) < ((List.length p2 : Nat) : Int))) with hc30_10 | hc30_10
   ·
    replace hm := cT hc30_10 hm
    refine AiT hc30_10 <| Sx ?_
    obtain ⟨r31_3, hr31_3, hm⟩ := bnd hm
    refine Wz (.b r31_3) (Ocf [] [] [] 0 (ok_telltalelaw07_awake  r31_3 hr31_3) (fun a w => Try.call9 a w) rfl trivial) <| Wm (.b r31_3) rfl <| Nn <| Rt <| Tr ?_
    obtain rfl := Option.some.inj hm
    exact ret_i []
   ·
    replace hm := cF hc30_10 hm
    refine AiF hc30_10 <| Sk <| Tk 21 1 ⟨.l enc_GType p0::tp 1 (.s p2::tp 1 (.loc 0 0::tp 93 [])), [(.box [(.i p1.Time), (.i p1.Source), (.i p1.Seq), (.s p1.Type_), (.l enc_GValue p1.Vals)]), .gone], 0⟩ <| Sq <| Adr <| Wm (.l enc_GType p0) rfl ?_
    obtain ⟨r33_4, hr33_4, hm⟩ := bnd hm
    refine Wy (.own 2) [(2, (Ar 83 2 enc_GType r33_4))] (Ocf [] [2] [] 0 (ok_telltalelaw06_Own p0 r33_4 hr33_4) (fun a w => Try.call10 a w) rfl trivial) <| Wz (.agg [(.i p1.Time), (.i p1.Source), (.i p1.Seq), (.s p1.Type_), (.l enc_GValue p1.Vals)]) (Old rfl) ?_
    obtain ⟨r35_4, hr35_4, hm⟩ := bnd hm
    refine Wy (.agg [(.i r35_4.Time), (.i r35_4.Source), (.i r35_4.Seq), (.s r35_4.Type_), (.own 3)]) [(3, (Ar 44 4 enc_GValue r35_4.Vals))] (Ocf [] [3] [] 0 (ok_telltalelaw07_Own p1 r35_4 hr35_4) (fun a w => Try.call11 a w) rfl trivial) <| Wy (.loc 4 0) [(4, (.box [(.i 0), (.i 0), (.i 0), (.s ([] : List UInt8)), (.d .nil)]))] (Oal rfl) <| Wm (.own 2) rfl <| Wy (.tup []) [(4, (.box [(.i r35_4.Time), (.i r35_4.Source), (.i r35_4.Seq), (.s r35_4.Type_), (.own 3)]))] (Ost rfl) <| Wdr <| Tk 405 29 ⟨.l enc_GType p0::tp 1 (.s p2::tp 1 (.loc 0 0::tp 2 (.own 2::.loc 4 0::tp 89 []))), [(.box [(.i p1.Time), (.i p1.Source), (.i p1.Seq), (.s p1.Type_), (.l enc_GValue p1.Vals)]), .gone, (Ar 83 2 enc_GType r33_4), (Ar 44 4 enc_GValue r35_4.Vals), (.box [(.i r35_4.Time), (.i r35_4.Source), (.i r35_4.Seq), (.s r35_4.Type_), (.own 3)])], 0⟩ <| Sx <| Wy (.own 5) [(5, (Ar 5 1 encU8 ([112] : List UInt8)))] (Obs rfl) <| Wy (.own 5) [(5, (Ar 5 1 encU8 ([112] : List UInt8)))] (Omk rfl (by kernel_rfl) (by kernel_rfl) (n := List.length ([112] : List UInt8)) (by decide)) <| Wm (.own 2) rfl <| Wz (.agg [(.i r35_4.Time), (.i r35_4.Source), (.i r35_4.Seq), (.s r35_4.Type_), (.own 3)]) (Old rfl) ?_
    obtain ⟨r41_5, hr41_5, hm⟩ := bnd hm
    refine Wy (.tup [(.l encU8 r41_5.1), (.i r41_5.2)]) [(5, (.fro 5 1 (List.length ([112] : List UInt8)) (flatD encU8 ([112] : List UInt8)))), (2, (.fro 83 2 (List.length r33_4) (flatD enc_GType r33_4))), (3, (.fro 44 4 (List.length r35_4.Vals) (flatD enc_GValue r35_4.Vals)))] (Ocf [] [] [5, 2, 3] 0 (ok_event_Put ([112] : List UInt8) r33_4 r35_4 r41_5 hr41_5) (fun a w => Try.call12 a w) rfl trivial) <| Wm (.tup [(.l encU8 r41_5.1), (.i r41_5.2)]) rfl <| Wz (.l encU8 r41_5.1) (Oex rfl) <| Wz (.i r41_5.2) (Oex rfl) <| Wm (.l encU8 r41_5.1) rfl <| Wm (.i r41_5.2) rfl <| Nk 1941 29 ⟨.l enc_GType p0::tp 1 (.s p2::tp 1 (.loc 0 0::tp 2 (.own 2::.loc 4 0::.l encU8 r41_5.1::.i r41_5.2::tp 87 []))), [(.box [(.i p1.Time), (.i p1.Source), (.i p1.Seq), (.s p1.Type_), (.l enc_GValue p1.Vals)]), .gone, (.fro 83 2 (List.length r33_4) (flatD enc_GType r33_4)), (.fro 44 4 (List.length r35_4.Vals) (flatD enc_GValue r35_4.Vals)), (.box [(.i r35_4.Time), (.i r35_4.Source), (.i r35_4.Seq), (.s r35_4.Type_), (.own 3)]), .gone], 0⟩ <| Sx <| Wy (.own 6) [(6, (Ar 5 1 encU8 ([112] : List UInt8)))] (Obs rfl) <| Wy (.own 6) [(6, (Ar 5 1 encU8 ([112] : List UInt8)))] (Omk rfl (by kernel_rfl) (by kernel_rfl) (n := List.length ([112] : List UInt8)) (by decide)) <| Wm (.l enc_GType p0) rfl <| Wz (.agg [(.i p1.Time), (.i p1.Source), (.i p1.Seq), (.s p1.Type_), (.l enc_GValue p1.Vals)]) (Old rfl) ?_
    obtain ⟨r49_6, hr49_6, hm⟩ := bnd hm
    refine Wy (.tup [(.own 7), (.i r49_6.2)]) [(7, (Ar 5 1 encU8 r49_6.1))] (Ocp [] [7] [6] 0 (ok_telltaleref07_Put ([112] : List UInt8) p0 p1 r49_6 hr49_6) (⟨by simp [A.Plain, A.Plains, D.Plain, byteD], plain_cons (flat_plain encU8_plain) (plain_nil)⟩) (fun a w => Try.call13 a w) rfl trivial) <| Wm (.tup [(.own 7), (.i r49_6.2)]) rfl <| Wz (.own 7) (Oex rfl) <| Wz (.i r49_6.2) (Oex rfl) <| Wm (.own 7) rfl <| Wm (.i r49_6.2) rfl <| Nk 8085 157 ⟨.l enc_GType p0::tp 1 (.s p2::tp 1 (.loc 0 0::tp 2 (.own 2::.loc 4 0::.l encU8 r41_5.1::.i r41_5.2::.own 7::.i r49_6.2::tp 85 []))), [(.box [(.i p1.Time), (.i p1.Source), (.i p1.Seq), (.s p1.Type_), (.l enc_GValue p1.Vals)]), .gone, (.fro 83 2 (List.length r33_4) (flatD enc_GType r33_4)), (.fro 44 4 (List.length r35_4.Vals) (flatD enc_GValue r35_4.Vals)), (.box [(.i r35_4.Time), (.i r35_4.Source), (.i r35_4.Seq), (.s r35_4.Type_), (.own 3)]), .gone, .gone, (Ar 5 1 encU8 r49_6.1)], 0⟩ <| Sx <| Wz (.agg [(.i r35_4.Time), (.i r35_4.Source), (.i r35_4.Seq), (.s r35_4.Type_), (.own 3)]) (Old rfl) <| Wm (.own 2) rfl <| Wm (.s p2) rfl ?_
    obtain ⟨r56_7, hr56_7, hm⟩ := bnd hm
    refine Wz (.tup [(.agg [(.y r56_7.1.Kind), (.i r56_7.1.N), (.u r56_7.1.Bits), (.s r56_7.1.Text)]), (.b r56_7.2)]) (Ocp [] [] [3, 2] 0 (ok_event_Event_Value r35_4 r33_4 p2 r56_7 hr56_7) (plain_triv (by simp [A.Plain, A.Plains, D.Plain, byteD])) (fun a w => Try.call14 a w) rfl trivial) <| Wm (.tup [(.agg [(.y r56_7.1.Kind), (.i r56_7.1.N), (.u r56_7.1.Bits), (.s r56_7.1.Text)]), (.b r56_7.2)]) rfl <| Wz (.agg [(.y r56_7.1.Kind), (.i r56_7.1.N), (.u r56_7.1.Bits), (.s r56_7.1.Text)]) (Oex rfl) <| Wz (.b r56_7.2) (Oex rfl) <| Wy (.loc 8 0) [(8, (.box [(.y 0), (.i 0), (.u 0), (.s ([] : List UInt8))]))] (Oal rfl) <| Wy (.tup []) [(8, (.box [(.y r56_7.1.Kind), (.i r56_7.1.N), (.u r56_7.1.Bits), (.s r56_7.1.Text)]))] (Ost rfl) <| Wm (.b r56_7.2) rfl <| Nk 32661 413 ⟨.l enc_GType p0::tp 1 (.s p2::tp 1 (.loc 0 0::tp 2 (.own 2::.loc 4 0::.l encU8 r41_5.1::.i r41_5.2::.own 7::.i r49_6.2::.loc 8 0::.b r56_7.2::tp 83 []))), [(.box [(.i p1.Time), (.i p1.Source), (.i p1.Seq), (.s p1.Type_), (.l enc_GValue p1.Vals)]), .gone, (.fro 83 2 (List.length r33_4) (flatD enc_GType r33_4)), (.fro 44 4 (List.length r35_4.Vals) (flatD enc_GValue r35_4.Vals)), (.box [(.i r35_4.Time), (.i r35_4.Source), (.i r35_4.Seq), (.s r35_4.Type_), (.own 3)]), .gone, .gone, (Ar 5 1 encU8 r49_6.1), (.box [(.y r56_7.1.Kind), (.i r56_7.1.N), (.u r56_7.1.Bits), (.s r56_7.1.Text)])], 0⟩ <| Sx <| Wm (.l enc_GType p0) rfl <| Wz (.agg [(.i p1.Time), (.i p1.Source), (.i p1.Seq), (.s p1.Type_), (.l enc_GValue p1.Vals)]) (Old rfl) <| Wm (.s p2) rfl ?_
    obtain ⟨r63_8, hr63_8, hm⟩ := bnd hm
    refine Wz (.tup [(.agg [(.y r63_8.1.Kind), (.i r63_8.1.N), (.u r63_8.1.Bits), (.s r63_8.1.Text)]), (.b r63_8.2)]) (Ocf [] [] [] 0 (ok_telltaleref07_Value p0 p1 p2 r63_8 hr63_8) (fun a w => Try.call15 a w) rfl trivial) <| Wm (.tup [(.agg [(.y r63_8.1.Kind), (.i r63_8.1.N), (.u r63_8.1.Bits), (.s r63_8.1.Text)]), (.b r63_8.2)]) rfl <| Wz (.agg [(.y r63_8.1.Kind), (.i r63_8.1.N), (.u r63_8.1.Bits), (.s r63_8.1.Text)]) (Oex rfl) <| Wz (.b r63_8.2) (Oex rfl) <| Wy (.loc 9 0) [(9, (.box [(.y 0), (.i 0), (.u 0), (.s ([] : List UInt8))]))] (Oal rfl) <| Wy (.tup []) [(9, (.box [(.y r63_8.1.Kind), (.i r63_8.1.N), (.u r63_8.1.Bits), (.s r63_8.1.Text)]))] (Ost rfl) <| Wm (.b r63_8.2) rfl <| Nk 130961 925 ⟨.l enc_GType p0::tp 3 (.loc 0 0::tp 2 (.own 2::.loc 4 0::.l encU8 r41_5.1::.i r41_5.2::.own 7::.i r49_6.2::.loc 8 0::.b r56_7.2::.loc 9 0::.b r63_8.2::tp 81 [])), [(.box [(.i p1.Time), (.i p1.Source), (.i p1.Seq), (.s p1.Type_), (.l enc_GValue p1.Vals)]), .gone, (.fro 83 2 (List.length r33_4) (flatD enc_GType r33_4)), (.fro 44 4 (List.length r35_4.Vals) (flatD enc_GValue r35_4.Vals)), (.box [(.i r35_4.Time), (.i r35_4.Source), (.i r35_4.Seq), (.s r35_4.Type_), (.own 3)]), .gone, .gone, (Ar 5 1 encU8 r49_6.1), (.box [(.y r56_7.1.Kind), (.i r56_7.1.N), (.u r56_7.1.Bits), (.s r56_7.1.Text)]), (.box [(.y r63_8.1.Kind), (.i r63_8.1.N), (.u r63_8.1.Bits), (.s r63_8.1.Text)])], 0⟩ <| Sq <| Adr <| Wm (.own 2) rfl <| Wz (.agg [(.i r35_4.Time), (.i r35_4.Source), (.i r35_4.Seq), (.s r35_4.Type_), (.own 3)]) (Old rfl) ?_
    obtain ⟨r68_9, hr68_9, hm⟩ := bnd hm
    refine Wz (.i r68_9) (Ocp [] [] [2, 3] 0 (ok_event_Check r33_4 r35_4 r68_9 hr68_9) (plain_triv (by simp [A.Plain, A.Plains, D.Plain, byteD])) (fun a w => Try.call16 a w) rfl trivial) <| Wm (.l enc_GType p0) rfl <| Wz (.agg [(.i p1.Time), (.i p1.Source), (.i p1.Seq), (.s p1.Type_), (.l enc_GValue p1.Vals)]) (Old rfl) ?_
    obtain ⟨r71_9, hr71_9, hm⟩ := bnd hm
    refine Wz (.i r71_9) (Ocf [] [] [] 0 (ok_telltaleref07_Check p0 p1 r71_9 hr71_9) (fun a w => Try.call17 a w) rfl trivial) <| Wz (.b (decide (r68_9 = r71_9))) (Obn rfl (fun _ => hb_eql (k := .i64))) ?_
    rcases tf_ (decide (r68_9 = r71_9)) with hq73_9 | hq73_9
    ·
     replace hm := cT hq73_9 hm
     refine Wz (.b true) (Oq hq73_9 rfl) <| Wm (.l encU8 r41_5.1) rfl <| Wz (.s r41_5.1) (Ocs (by kernel_rfl) (op_str rfl (e := 5) (by kernel_rfl) (by kernel_rfl) (by kernel_rfl) (y := (.l encU8 r41_5.1)) (by kernel_rfl) (ds := flatD encU8 r41_5.1) (off := 0) (n := List.length r41_5.1) (by kernel_rfl) (l := r41_5.1) flatU8_take rfl)) <| Wm (.own 7) rfl <| Wz (.s r49_6.1) (Ocs (by kernel_rfl) (op_str rfl (e := 5) (by kernel_rfl) (by kernel_rfl) (by kernel_rfl) (y := (.own 7)) (by kernel_rfl) (ds := flatD encU8 r49_6.1) (off := 0) (n := List.length r49_6.1) (by kernel_rfl) (l := r49_6.1) flatU8_take rfl)) <| Wz (.b (decide (r41_5.1 = r49_6.1))) (Ocs (lit_tf (by simp only [toS_inj, ne_eq])) (op_bin rfl (a1 := .string (toS r41_5.1)) (a2 := .string (toS r49_6.1)) (by kernel_rfl) (by kernel_rfl) (fun _ => hb_seql))) <| Wz (.b (decide (r41_5.1 = r49_6.1))) (OpT rfl) ?_
     rcases tf_ (decide (r41_5.1 = r49_6.1)) with hq80_9 | hq80_9
     ·
      replace hm := cT hq80_9 hm
      refine Wz (.b true) (Oq hq80_9 rfl) <| Wm (.i r41_5.2) rfl <| Wm (.i r49_6.2) rfl <| Wz (.b (decide (r41_5.2 = r49_6.2))) (Obn rfl (fun _ => hb_eql (k := .i64))) <| Wz (.b (decide (r41_5.2 = r49_6.2))) (OpT rfl) ?_
      rcases tf_ (decide (r41_5.2 = r49_6.2)) with hq85_9 | hq85_9
      ·
       replace hm := cT hq85_9 hm
       refine Wz (.b true) (Oq hq85_9 rfl) <| Wz (.agg [(.y r56_7.1.Kind), (.i r56_7.1.N), (.u r56_7.1.Bits), (.s r56_7.1.Text)]) (Old rfl) <| Wz (.agg [(.y r63_8.1.Kind), (.i r63_8.1.N), (.u r63_8.1.Bits), (.s r63_8.1.Text)]) (Old rfl) ?_
       obtain ⟨v88_9, hv88_9, hm⟩ := bnd hm; replace hv88_9 := Option.some.inj hv88_9
       refine Wz (.b v88_9) (Ocs (Eq.trans (lit_tf (by simp only [toS_inj])) (congrArg (fun z => A.d (.lit (.bool z))) hv88_9)) (op_eql_struct rfl (la := [(.y r56_7.1.Kind), (.i r56_7.1.N), (.u r56_7.1.Bits), (.s r56_7.1.Text)]) (lb := [(.y r63_8.1.Kind), (.i r63_8.1.N), (.u r63_8.1.Bits), (.s r63_8.1.Text)]) (us := [.int .u8 ((r56_7.1.Kind.toNat : Nat) : Int), .int .i64 r56_7.1.N, .int .u64 r56_7.1.Bits, .string (toS r56_7.1.Text)]) (vs := [.int .u8 ((r63_8.1.Kind.toNat : Nat) : Int), .int .i64 r63_8.1.N, .int .u64 r63_8.1.Bits, .string (toS r63_8.1.Text)]) (r := (decide (((r56_7.1.Kind.toNat : Nat) : Int) = ((r63_8.1.Kind.toNat : Nat) : Int)) && (decide (r56_7.1.N = r63_8.1.N) && (decide (r56_7.1.Bits = r63_8.1.Bits) && (decide ((toS r56_7.1.Text) = (toS r63_8.1.Text)) && true))))) (by kernel_rfl) (by kernel_rfl) (by kernel_rfl) (by kernel_rfl) (by kernel_rfl))) <| Wz (.b v88_9) (OpT rfl) ?_
       rcases tf_ v88_9 with hq90_9 | hq90_9
       ·
        replace hm := cT hq90_9 hm
        refine Wz (.b true) (Oq hq90_9 rfl) <| Wm (.b r56_7.2) rfl <| Wm (.b r63_8.2) rfl <| Wz (.b (decide (r56_7.2 = r63_8.2))) (Ob2 (.bool r56_7.2) (.bool r63_8.2) rfl (fun _ => hb_beql (by kernel_rfl))) <| Wz (.b (decide (r56_7.2 = r63_8.2))) (OpT rfl) ?_
        rcases tf_ (decide (r56_7.2 = r63_8.2)) with hq95_9 | hq95_9
        ·
         replace hm := cT hq95_9 hm
         refine Wz (.b true) (Oq hq95_9 rfl) ?_
         obtain ⟨r96_9, hr96_9, hm⟩ := bnd hm
         refine Wz (.b r96_9) (Ocf [] [] [] 0 (ok_telltalelaw07_awake  r96_9 hr96_9) (fun a w => Try.call9 a w) rfl trivial) <| Wz (.b r96_9) (OpT rfl) <| Wm (.b r96_9) rfl <| Wdr <| Tn <| Rt ?_
         obtain rfl := Option.some.inj hm
         exact ret_i []
        ·
         replace hm := cF hq95_9 hm
         refine Wz (.b false) (Oq hq95_9 rfl) <| Wn <| Wz (.b false) (OpF rfl) <| Wm (.b false) rfl <| Wdr <| Tn <| Rt ?_
         obtain rfl := Option.some.inj hm
         exact ret_i []
       ·
        replace hm := cF hq90_9 hm
        refine Wz (.b false) (Oq hq90_9 rfl) <| Wn <| Wn <| Wn <| Wz (.b false) (OpF rfl) <| Wm (.b false) rfl <| Wn <| Wz (.b false) (OpF rfl) <| Wm (.b false) rfl <| Wdr <| Tn <| Rt ?_
        obtain rfl := Option.some.inj hm
        exact ret_i []
      ·
       replace hm := cF hq85_9 hm
       refine Wz (.b false) (Oq hq85_9 rfl) <| Wn <| Wn <| Wn <| Wz (.b false) (OpF rfl) <| Wm (.b false) rfl <| Wn <| Wn <| Wn <| Wz (.b false) (OpF rfl) <| Wm (.b false) rfl <| Wn <| Wz (.b false) (OpF rfl) <| Wm (.b false) rfl ?_
       refine Wdr <| Tn <| Rt ?_
       obtain rfl := Option.some.inj hm
       exact ret_i []
     ·
      replace hm := cF hq80_9 hm
      refine Wz (.b false) (Oq hq80_9 rfl) <| Wn <| Wn <| Wn <| Wz (.b false) (OpF rfl) <| Wm (.b false) rfl <| Wn <| Wn <| Wn <| Wz (.b false) (OpF rfl) <| Wm (.b false) rfl <| Wn <| Wn <| Wn ?_
      refine Wz (.b false) (OpF rfl) <| Wm (.b false) rfl <| Wn <| Wz (.b false) (OpF rfl) <| Wm (.b false) rfl <| Wdr <| Tn <| Rt ?_
      obtain rfl := Option.some.inj hm
      exact ret_i []
    ·
     replace hm := cF hq73_9 hm
     refine Wz (.b false) (Oq hq73_9 rfl) <| Wn <| Wn <| Wn <| Wn <| Wn <| Wz (.b false) (OpF rfl) <| Wm (.b false) rfl <| Wn <| Wn <| Wn <| Wz (.b false) (OpF rfl) <| Wm (.b false) rfl <| Wn ?_
     refine Wn <| Wn <| Wz (.b false) (OpF rfl) <| Wm (.b false) rfl <| Wn <| Wn <| Wn <| Wz (.b false) (OpF rfl) <| Wm (.b false) rfl <| Wn <| Wz (.b false) (OpF rfl) <| Wm (.b false) rfl <| Wdr <| Tn ?_
     refine Rt ?_
     obtain rfl := Option.some.inj hm
     exact ret_i []
end Go.Proofs.Ytbgioanegbipgaa.K
