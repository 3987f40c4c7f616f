/- what telltalelaw11.PredTells needs (1) -/
import Derived.Test.YtkajfanpdabjcaaA0
namespace Go.Proofs.Ytkajfanpdabjcaa.K
open Go.RowKit Go.Lib
set_option linter.unusedVariables false
set_option linter.unusedSimpArgs false
set_option maxRecDepth 20000
set_option maxHeartbeats 4000000

theorem ok_telltaleref06_Name (p0 : (List UInt8)) (r : Bool) (h : m_telltaleref06_Name p0 = some r) : GCall Try.prog 54 [(.s p0)] [] (.b r) [] := by
 refine GCall.of_body (n := 60) (rs := [(.tmp 2)]) Try.func54 rfl rfl rfl <| Ato ⟨.s p0::tu 59 [], [], 0⟩ ?_
 have hm := h
 unfold m_telltaleref06_Name at hm
 refine Sx <| Wm (.b false) rfl <| Nk 1 0 ⟨.s p0::tp 59 [], [], 0⟩ <| Sq ?_
 refine AWP.cutJ (α := Unit) (fun x => match x with | () => (⟨.s p0::tp 16 (.b true::tp 42 []), [], 0⟩ : St)) (fun x => match x with | () => m_telltaleref06_Name_j1  = some r) ?_ (fun J1 => ?_)
 ·
  rintro ⟨⟩ hm
  try dsimp only at hm ⊢
  unfold m_telltaleref06_Name_j1 at hm
  refine AWP.if_ true (by kernel_rfl) <| Sx <| Wm (.b false) rfl <| Nn <| Rt <| Tr ?_
  obtain rfl := Option.some.inj hm
  exact ret_i []
 refine Sx <| Wm (.s p0) rfl <| Wz (.i ((List.length p0 : Nat) : Int)) (Oln rfl) <| Wz (.b (decide (((List.length p0 : Nat) : Int) < 1))) (Obn rfl (fun _ => hb_lss (k := .i64))) ?_
 rcases tf_ (decide (((List.length p0 : Nat) : Int) < 1)) with hq9_0 | hq9_0
 ·
  replace hm := cT hq9_0 hm
  refine Wz (.b true) (Oq hq9_0 rfl) <| Wn <| Wn <| Wn <| Wz (.b true) (OpT rfl) <| Wm (.b true) rfl <| Wn <| Wn <| Wz (.b true) (OpT rfl) <| Nn ?_
  exact AWP.weak (Weak.toK 131073 0 0 []) (J1 () hm)
 ·
  replace hm := cF hq9_0 hm
  refine Wz (.b false) (Oq hq9_0 rfl) <| Wm (.s p0) rfl <| Wz (.i ((List.length p0 : Nat) : Int)) (Oln rfl) <| Wz (.b (decide ((12 : Int) < ((List.length p0 : Nat) : Int)))) (Obn rfl (fun _ => hb_gtr (k := .i64))) <| Wz (.b (decide ((12 : Int) < ((List.length p0 : Nat) : Int)))) (OpF rfl) ?_
  rcases tf_ (decide ((12 : Int) < ((List.length p0 : Nat) : Int))) with hq14_0 | hq14_0
  ·
   replace hm := cT hq14_0 hm
   refine Wz (.b true) (Oq hq14_0 rfl) <| Wn <| Wn <| Wz (.b true) (OpT rfl) <| Nn ?_
   exact AWP.weak (Weak.toK 131073 0 0 []) (J1 () hm)
  ·
   replace hm := cF hq14_0 hm
   refine Wz (.b false) (Oq hq14_0 rfl) <| Wm (.s p0) rfl ?_
   obtain ⟨r16_0, hr16_0, hm⟩ := bnd hm
   refine Wz (.b r16_0) (Ocf [] [] [] 0 (ok_telltaleref06_Reserved p0 r16_0 hr16_0) (fun a w => Try.call77 a w) rfl trivial) <| Wz (.b r16_0) (OpF rfl) <| Nk 131073 0 ⟨.s p0::tp 16 (.b r16_0::tp 42 []), [], 0⟩ ?_
   rcases tf_ r16_0 with hc17_14 | hc17_14
   ·
    replace hm := cT hc17_14 hm
    refine AiT hc17_14 <| Sx <| Wm (.b false) rfl <| Nn <| Rt <| Tr ?_
    obtain rfl := Option.some.inj hm
    exact ret_i []
   ·
    replace hm := cF hc17_14 hm
    refine AiF hc17_14 <| Sk <| Tk 1 0 ⟨.s p0::tp 59 [], [], 0⟩ <| Sq <| Sx <| Wm (.i 0) rfl <| Nk 9 0 ⟨.s p0::tp 2 (.i 0::tp 56 []), [], 0⟩ <| Bk ?_
    refine AWP.loopI (α := Nat × Int)
      (fun (fu_2, y3_2) => (⟨.s p0::tp 2 (.i y3_2::tp 56 []), [], 0⟩ : St))
      (fun (fu_2, y3_2) => m_telltaleref06_Name_l2 p0 fu_2 y3_2 = some r)
      (fun (fu_2, y3_2) => fu_2) (1152921504606846976, 0)
      (Weak.toK 9 0 0 []) hm ?_
    rintro ⟨fu_2, y3_2⟩ n_2 hm ih_2
    try dsimp only at hm ih_2 ⊢
    cases fu_2 with
    | zero => exact absurd hm (by unfold m_telltaleref06_Name_l2; simp)
    | succ fu_2 =>
     unfold m_telltaleref06_Name_l2 at hm
     refine Sq <| Sx <| Wm (.i y3_2) rfl <| Wm (.s p0) rfl <| Wz (.i ((List.length p0 : Nat) : Int)) (Oln rfl) <| Wz (.b (decide (y3_2 < ((List.length p0 : Nat) : Int)))) (Obn rfl (fun _ => hb_lss (k := .i64))) <| Nk 2097161 0 ⟨.s p0::tp 2 (.i y3_2::tp 17 (.b (decide (y3_2 < ((List.length p0 : Nat) : Int)))::tp 38 [])), [], 0⟩ ?_
     rcases tf_ (decide (y3_2 < ((List.length p0 : Nat) : Int))) with hc21_15 | hc21_15
     ·
      replace hm := cT hc21_15 hm
      refine AiT hc21_15 <| Sk <| Tk 9 0 ⟨.s p0::tp 2 (.i y3_2::tp 56 []), [], 0⟩ <| Sq <| Bk <| Sx <| Wm (.s p0) rfl <| Wm (.i y3_2) rfl ?_
      obtain ⟨x26_4, hx26_4, hm⟩ := bnd hm
      obtain ⟨hx26_4i, hx26_4g⟩ := geti_some hx26_4
      refine Wz (.y x26_4) (Ocs (by kernel_rfl) (op_index_str rfl (by kernel_rfl) (s := toS p0) (by kernel_rfl) (k := .i64) (iv := y3_2) (by kernel_rfl) (i := (Int.toNat y3_2)) (hx26_4i) (b := x26_4) (hx26_4g))) <| Wz (.b (decide ((97 : Int) ≤ ((x26_4.toNat : Nat) : Int)))) (Ob2 (.int .u8 ((x26_4.toNat : Nat) : Int)) (.int .u8 97) rfl (fun _ => hb_geq)) ?_
      rcases tf_ (decide ((97 : Int) ≤ ((x26_4.toNat : Nat) : Int))) with hq28_4 | hq28_4
      ·
       replace hm := cT hq28_4 hm
       refine Wz (.b true) (Oq hq28_4 rfl) <| Wm (.s p0) rfl <| Wm (.i y3_2) rfl ?_
       obtain ⟨x31_4, hx31_4, hm⟩ := bnd hm
       obtain ⟨hx31_4i, hx31_4g⟩ := geti_some hx31_4
       refine Wz (.y x31_4) (Ocs (by kernel_rfl) (op_index_str rfl (by kernel_rfl) (s := toS p0) (by kernel_rfl) (k := .i64) (iv := y3_2) (by kernel_rfl) (i := (Int.toNat y3_2)) (hx31_4i) (b := x31_4) (hx31_4g))) <| Wz (.b (decide (((x31_4.toNat : Nat) : Int) ≤ 122))) (Ob2 (.int .u8 ((x31_4.toNat : Nat) : Int)) (.int .u8 122) rfl (fun _ => hb_leq)) <| Wz (.b (decide (((x31_4.toNat : Nat) : Int) ≤ 122))) (OpT rfl) <| Wm (.b (decide (((x31_4.toNat : Nat) : Int) ≤ 122))) rfl <| Nk 25 0 ⟨.s p0::tp 2 (.i y3_2::.b (decide (((x31_4.toNat : Nat) : Int) ≤ 122))::tp 55 []), [], 0⟩ ?_
       refine AWP.cutJ (α := Bool) (fun x => match x with | y5_6 => (⟨.s p0::tp 2 (.i y3_2::.b (decide (((x31_4.toNat : Nat) : Int) ≤ 122))::.b y5_6::tp 54 []), [], 0⟩ : St)) (fun x => match x with | y5_6 => m_telltaleref06_Name_j6 x31_4 y3_2 (fun y3_2 => m_telltaleref06_Name_l2 p0 fu_2 y3_2) y5_6 = some r) ?_ (fun J6 => ?_)
       ·
        rintro y5_6 hm
        try dsimp only at hm ⊢
        unfold m_telltaleref06_Name_j6 at hm
        refine Sx <| Wm (.b (decide (((x31_4.toNat : Nat) : Int) ≤ 122))) rfl <| Wz (.b (!decide (((x31_4.toNat : Nat) : Int) ≤ 122))) (Ocs (by kernel_rfl) (op_un rfl (a1 := .bool (decide (((x31_4.toNat : Nat) : Int) ≤ 122))) (by kernel_rfl) (fun _ => hu_not))) ?_
        rcases tf_ (!decide (((x31_4.toNat : Nat) : Int) ≤ 122)) with hq52_8 | hq52_8
        ·
         replace hm := cT hq52_8 hm
         refine Wz (.b true) (Oq hq52_8 rfl) <| Wm (.i y3_2) rfl <| Wz (.b (decide (y3_2 = 0))) (Obn rfl (fun _ => hb_eql (k := .i64))) ?_
         rcases tf_ (decide (y3_2 = 0)) with hq55_8 | hq55_8
         ·
          replace hm := cT hq55_8 hm
          refine Wz (.b true) (Oq hq55_8 rfl) <| Wn <| Wn <| Wz (.b true) (OpT rfl) <| Wz (.b true) (OpT rfl) <| Nk 576460752303423497 0 ⟨.s p0::tp 2 (.i y3_2::tp 55 (.b true::[])), [], 0⟩ <| AWP.if_ true (by kernel_rfl) <| Sx <| Wm (.b false) rfl <| Nn <| Rt <| Ir <| Tr <| RoundK.ret ?_
          refine Ir <| Tr ?_
          obtain rfl := Option.some.inj hm
          exact ret_i []
         ·
          replace hm := cF hq55_8 hm
          refine Wz (.b false) (Oq hq55_8 rfl) <| Wm (.b y5_6) rfl <| Wz (.b (!y5_6)) (Ocs (by kernel_rfl) (op_un rfl (a1 := .bool y5_6) (by kernel_rfl) (fun _ => hu_not))) <| Wz (.b (!y5_6)) (OpF rfl) <| Wz (.b (!y5_6)) (OpT rfl) <| Nk 576460752303423497 0 ⟨.s p0::tp 2 (.i y3_2::tp 55 (.b (!y5_6)::[])), [], 0⟩ ?_
          rcases tf_ (!y5_6) with hc59_16 | hc59_16
          ·
           replace hm := cT hc59_16 hm
           refine AiT hc59_16 <| Sx <| Wm (.b false) rfl <| Nn <| Rt <| Ir <| Tr <| RoundK.ret <| Ir <| Tr ?_
           obtain rfl := Option.some.inj hm
           exact ret_i []
          ·
           replace hm := cF hc59_16 hm
           refine AiF hc59_16 <| Sk <| Ino <| Tk 9 0 ⟨.s p0::tp 2 (.i y3_2::tp 56 []), [], 0⟩ <| Tx <| Wm (.i y3_2) rfl <| Wz (.i (W6 (y3_2 + 1))) (Obn rfl (fun _ => hb_add (k := .i64))) <| Wm (.i (W6 (y3_2 + 1))) rfl <| Wn0 <| RoundK.normal ?_
           exact Rounds.weak (Weak.toK 9 0 0 []) (ih_2 (fu_2, (W6 (y3_2 + 1))) hm (Nat.lt_succ_self _))
        ·
         replace hm := cF hq52_8 hm
         refine Wz (.b false) (Oq hq52_8 rfl) <| Wn <| Wn <| Wn <| Wn <| Wn <| Wn <| Wz (.b false) (OpF rfl) <| Nk 576460752303423497 0 ⟨.s p0::tp 2 (.i y3_2::tp 55 (.b false::[])), [], 0⟩ <| AWP.if_ false (by kernel_rfl) <| Sk <| Ino <| Tk 9 0 ⟨.s p0::tp 2 (.i y3_2::tp 56 []), [], 0⟩ <| Tx ?_
         refine Wm (.i y3_2) rfl <| Wz (.i (W6 (y3_2 + 1))) (Obn rfl (fun _ => hb_add (k := .i64))) <| Wm (.i (W6 (y3_2 + 1))) rfl <| Wn0 <| RoundK.normal ?_
         exact Rounds.weak (Weak.toK 9 0 0 []) (ih_2 (fu_2, (W6 (y3_2 + 1))) hm (Nat.lt_succ_self _))
       refine Sx <| Wm (.s p0) rfl <| Wm (.i y3_2) rfl ?_
       obtain ⟨x36_5, hx36_5, hm⟩ := bnd hm
       obtain ⟨hx36_5i, hx36_5g⟩ := geti_some hx36_5
       refine Wz (.y x36_5) (Ocs (by kernel_rfl) (op_index_str rfl (by kernel_rfl) (s := toS p0) (by kernel_rfl) (k := .i64) (iv := y3_2) (by kernel_rfl) (i := (Int.toNat y3_2)) (hx36_5i) (b := x36_5) (hx36_5g))) <| Wz (.b (decide ((48 : Int) ≤ ((x36_5.toNat : Nat) : Int)))) (Ob2 (.int .u8 ((x36_5.toNat : Nat) : Int)) (.int .u8 48) rfl (fun _ => hb_geq)) ?_
       rcases tf_ (decide ((48 : Int) ≤ ((x36_5.toNat : Nat) : Int))) with hq38_5 | hq38_5
       ·
        replace hm := cT hq38_5 hm
        refine Wz (.b true) (Oq hq38_5 rfl) <| Wm (.s p0) rfl <| Wm (.i y3_2) rfl ?_
        obtain ⟨x41_5, hx41_5, hm⟩ := bnd hm
        obtain ⟨hx41_5i, hx41_5g⟩ := geti_some hx41_5
        refine Wz (.y x41_5) (Ocs (by kernel_rfl) (op_index_str rfl (by kernel_rfl) (s := toS p0) (by kernel_rfl) (k := .i64) (iv := y3_2) (by kernel_rfl) (i := (Int.toNat y3_2)) (hx41_5i) (b := x41_5) (hx41_5g))) <| Wz (.b (decide (((x41_5.toNat : Nat) : Int) ≤ 57))) (Ob2 (.int .u8 ((x41_5.toNat : Nat) : Int)) (.int .u8 57) rfl (fun _ => hb_leq)) <| Wz (.b (decide (((x41_5.toNat : Nat) : Int) ≤ 57))) (OpT rfl) ?_
        rcases tf_ (decide (((x41_5.toNat : Nat) : Int) ≤ 57)) with hq44_5 | hq44_5
        ·
         replace hm := cT hq44_5 hm
         refine Wz (.b true) (Oq hq44_5 rfl) <| Wn <| Wn <| Wn <| Wn <| Wz (.b true) (OpT rfl) <| Wm (.b true) rfl <| Nk 57 0 ⟨.s p0::tp 2 (.i y3_2::.b (decide (((x31_4.toNat : Nat) : Int) ≤ 122))::.b true::tp 54 []), [], 0⟩ ?_
         refine AWP.cutJ (α := Unit) (fun x => match x with | () => (⟨.s p0::tp 2 (.i y3_2::tp 55 (.b false::[])), [], 0⟩ : St)) (fun x => match x with | () => m_telltaleref06_Name_j11 y3_2 (fun y3_2 => m_telltaleref06_Name_l2 p0 fu_2 y3_2) = some r) ?_ (fun J11 => ?_)
         ·
          rintro ⟨⟩ hm
          try dsimp only at hm ⊢
          unfold m_telltaleref06_Name_j11 at hm
          refine AWP.if_ false (by kernel_rfl) <| Sk <| Ino <| Tk 9 0 ⟨.s p0::tp 2 (.i y3_2::tp 56 []), [], 0⟩ <| Tx <| Wm (.i y3_2) rfl <| Wz (.i (W6 (y3_2 + 1))) (Obn rfl (fun _ => hb_add (k := .i64))) <| Wm (.i (W6 (y3_2 + 1))) rfl <| Wn0 <| RoundK.normal ?_
          exact Rounds.weak (Weak.toK 9 0 0 []) (ih_2 (fu_2, (W6 (y3_2 + 1))) hm (Nat.lt_succ_self _))
         refine Sx <| Wm (.b (decide (((x31_4.toNat : Nat) : Int) ≤ 122))) rfl <| Wz (.b (!decide (((x31_4.toNat : Nat) : Int) ≤ 122))) (Ocs (by kernel_rfl) (op_un rfl (a1 := .bool (decide (((x31_4.toNat : Nat) : Int) ≤ 122))) (by kernel_rfl) (fun _ => hu_not))) ?_
         rcases tf_ (!decide (((x31_4.toNat : Nat) : Int) ≤ 122)) with hq52_7 | hq52_7
         ·
          replace hm := cT hq52_7 hm
          refine Wz (.b true) (Oq hq52_7 rfl) <| Wm (.i y3_2) rfl <| Wz (.b (decide (y3_2 = 0))) (Obn rfl (fun _ => hb_eql (k := .i64))) ?_
          rcases tf_ (decide (y3_2 = 0)) with hq55_7 | hq55_7
          ·
           replace hm := cT hq55_7 hm
           refine Wz (.b true) (Oq hq55_7 rfl) <| Wn <| Wn <| Wz (.b true) (OpT rfl) <| Wz (.b true) (OpT rfl) <| Nk 576460752303423497 0 ⟨.s p0::tp 2 (.i y3_2::tp 55 (.b true::[])), [], 0⟩ <| AWP.if_ true (by kernel_rfl) <| Sx <| Wm (.b false) rfl <| Nn <| Rt <| Ir <| Tr <| RoundK.ret ?_
           refine Ir <| Tr ?_
           obtain rfl := Option.some.inj hm
           exact ret_i []
          ·
           replace hm := cF hq55_7 hm
           refine Wz (.b false) (Oq hq55_7 rfl) <| Wm (.b true) rfl <| Wz (.b false) (Ocs (by kernel_rfl) (op_un rfl (a1 := .bool true) (by kernel_rfl) (fun _ => hu_not))) <| Wz (.b false) (OpF rfl) <| Wz (.b false) (OpT rfl) <| Nn ?_
           exact AWP.weak (Weak.toK 576460752303423497 0 0 []) (J11 () hm)
         ·
          replace hm := cF hq52_7 hm
          refine Wz (.b false) (Oq hq52_7 rfl) <| Wn <| Wn <| Wn <| Wn <| Wn <| Wn <| Wz (.b false) (OpF rfl) <| Nn ?_
          exact AWP.weak (Weak.toK 576460752303423497 0 0 []) (J11 () hm)
        ·
         replace hm := cF hq44_5 hm
         refine Wz (.b false) (Oq hq44_5 rfl) <| Wm (.s p0) rfl <| Wm (.i y3_2) rfl ?_
         obtain ⟨x47_5, hx47_5, hm⟩ := bnd hm
         obtain ⟨hx47_5i, hx47_5g⟩ := geti_some hx47_5
         refine Wz (.y x47_5) (Ocs (by kernel_rfl) (op_index_str rfl (by kernel_rfl) (s := toS p0) (by kernel_rfl) (k := .i64) (iv := y3_2) (by kernel_rfl) (i := (Int.toNat y3_2)) (hx47_5i) (b := x47_5) (hx47_5g))) <| Wz (.b (decide (((x47_5.toNat : Nat) : Int) = 95))) (Ob2 (.int .u8 ((x47_5.toNat : Nat) : Int)) (.int .u8 95) rfl (fun _ => hb_eql)) <| Wz (.b (decide (((x47_5.toNat : Nat) : Int) = 95))) (OpF rfl) <| Wm (.b (decide (((x47_5.toNat : Nat) : Int) = 95))) rfl <| Nn ?_
         exact AWP.weak (Weak.toK 57 0 0 []) (J6 (decide (((x47_5.toNat : Nat) : Int) = 95)) hm)
       ·
        replace hm := cF hq38_5 hm
        refine Wz (.b false) (Oq hq38_5 rfl) <| Wn <| Wn <| Wn <| Wn <| Wz (.b false) (OpF rfl) <| Wm (.b false) rfl <| Wm (.s p0) rfl <| Wm (.i y3_2) rfl ?_
        obtain ⟨x47_5, hx47_5, hm⟩ := bnd hm
        obtain ⟨hx47_5i, hx47_5g⟩ := geti_some hx47_5
        refine Wz (.y x47_5) (Ocs (by kernel_rfl) (op_index_str rfl (by kernel_rfl) (s := toS p0) (by kernel_rfl) (k := .i64) (iv := y3_2) (by kernel_rfl) (i := (Int.toNat y3_2)) (hx47_5i) (b := x47_5) (hx47_5g))) <| Wz (.b (decide (((x47_5.toNat : Nat) : Int) = 95))) (Ob2 (.int .u8 ((x47_5.toNat : Nat) : Int)) (.int .u8 95) rfl (fun _ => hb_eql)) <| Wz (.b (decide (((x47_5.toNat : Nat) : Int) = 95))) (OpF rfl) <| Wm (.b (decide (((x47_5.toNat : Nat) : Int) = 95))) rfl <| Nn ?_
        exact AWP.weak (Weak.toK 57 0 0 []) (J6 (decide (((x47_5.toNat : Nat) : Int) = 95)) hm)
      ·
       replace hm := cF hq28_4 hm
       refine Wz (.b false) (Oq hq28_4 rfl) <| Wn <| Wn <| Wn <| Wn <| Wz (.b false) (OpF rfl) <| Wm (.b false) rfl <| Nk 25 0 ⟨.s p0::tp 2 (.i y3_2::.b false::tp 55 []), [], 0⟩ ?_
       refine AWP.cutJ (α := Bool) (fun x => match x with | y5_10 => (⟨.s p0::tp 2 (.i y3_2::.b false::.b y5_10::tp 54 []), [], 0⟩ : St)) (fun x => match x with | y5_10 => m_telltaleref06_Name_j10 y3_2 (fun y3_2 => m_telltaleref06_Name_l2 p0 fu_2 y3_2) y5_10 = some r) ?_ (fun J10 => ?_)
       ·
        rintro y5_10 hm
        try dsimp only at hm ⊢
        unfold m_telltaleref06_Name_j10 at hm
        refine Sx <| Wm (.b false) rfl <| Wz (.b true) (Ocs (by kernel_rfl) (op_un rfl (a1 := .bool false) (by kernel_rfl) (fun _ => hu_not))) <| Wm (.b true) rfl <| Wm (.i y3_2) rfl <| Wz (.b (decide (y3_2 = 0))) (Obn rfl (fun _ => hb_eql (k := .i64))) ?_
        rcases tf_ (decide (y3_2 = 0)) with hq55_13 | hq55_13
        ·
         replace hm := cT hq55_13 hm
         refine Wz (.b true) (Oq hq55_13 rfl) <| Wn <| Wn <| Wz (.b true) (OpT rfl) <| Wz (.b true) (OpT rfl) <| Nk 576460752303423497 0 ⟨.s p0::tp 2 (.i y3_2::tp 55 (.b true::[])), [], 0⟩ <| AWP.if_ true (by kernel_rfl) <| Sx <| Wm (.b false) rfl <| Nn <| Rt <| Ir <| Tr <| RoundK.ret ?_
         refine Ir <| Tr ?_
         obtain rfl := Option.some.inj hm
         exact ret_i []
        ·
         replace hm := cF hq55_13 hm
         refine Wz (.b false) (Oq hq55_13 rfl) <| Wm (.b y5_10) rfl <| Wz (.b (!y5_10)) (Ocs (by kernel_rfl) (op_un rfl (a1 := .bool y5_10) (by kernel_rfl) (fun _ => hu_not))) <| Wz (.b (!y5_10)) (OpF rfl) <| Wz (.b (!y5_10)) (OpT rfl) <| Nk 576460752303423497 0 ⟨.s p0::tp 2 (.i y3_2::tp 55 (.b (!y5_10)::[])), [], 0⟩ ?_
         rcases tf_ (!y5_10) with hc59_17 | hc59_17
         ·
          replace hm := cT hc59_17 hm
          refine AiT hc59_17 <| Sx <| Wm (.b false) rfl <| Nn <| Rt <| Ir <| Tr <| RoundK.ret <| Ir <| Tr ?_
          obtain rfl := Option.some.inj hm
          exact ret_i []
         ·
          replace hm := cF hc59_17 hm
          refine AiF hc59_17 <| Sk <| Ino <| Tk 9 0 ⟨.s p0::tp 2 (.i y3_2::tp 56 []), [], 0⟩ <| Tx <| Wm (.i y3_2) rfl <| Wz (.i (W6 (y3_2 + 1))) (Obn rfl (fun _ => hb_add (k := .i64))) <| Wm (.i (W6 (y3_2 + 1))) rfl <| Wn0 <| RoundK.normal ?_
          exact Rounds.weak (Weak.toK 9 0 0 []) (ih_2 (fu_2, (W6 (y3_2 + 1))) hm (Nat.lt_succ_self _))
       refine Sx <| Wm (.s p0) rfl <| Wm (.i y3_2) rfl ?_
       obtain ⟨x36_9, hx36_9, hm⟩ := bnd hm
       obtain ⟨hx36_9i, hx36_9g⟩ := geti_some hx36_9
       refine Wz (.y x36_9) (Ocs (by kernel_rfl) (op_index_str rfl (by kernel_rfl) (s := toS p0) (by kernel_rfl) (k := .i64) (iv := y3_2) (by kernel_rfl) (i := (Int.toNat y3_2)) (hx36_9i) (b := x36_9) (hx36_9g))) <| Wz (.b (decide ((48 : Int) ≤ ((x36_9.toNat : Nat) : Int)))) (Ob2 (.int .u8 ((x36_9.toNat : Nat) : Int)) (.int .u8 48) rfl (fun _ => hb_geq)) ?_
       rcases tf_ (decide ((48 : Int) ≤ ((x36_9.toNat : Nat) : Int))) with hq38_9 | hq38_9
       ·
        replace hm := cT hq38_9 hm
        refine Wz (.b true) (Oq hq38_9 rfl) <| Wm (.s p0) rfl <| Wm (.i y3_2) rfl ?_
        obtain ⟨x41_9, hx41_9, hm⟩ := bnd hm
        obtain ⟨hx41_9i, hx41_9g⟩ := geti_some hx41_9
        refine Wz (.y x41_9) (Ocs (by kernel_rfl) (op_index_str rfl (by kernel_rfl) (s := toS p0) (by kernel_rfl) (k := .i64) (iv := y3_2) (by kernel_rfl) (i := (Int.toNat y3_2)) (hx41_9i) (b := x41_9) (hx41_9g))) <| Wz (.b (decide (((x41_9.toNat : Nat) : Int) ≤ 57))) (Ob2 (.int .u8 ((x41_9.toNat : Nat) : Int)) (.int .u8 57) rfl (fun _ => hb_leq)) <| Wz (.b (decide (((x41_9.toNat : Nat) : Int) ≤ 57))) (OpT rfl) ?_
        rcases tf_ (decide (((x41_9.toNat : Nat) : Int) ≤ 57)) with hq44_9 | hq44_9
        ·
         replace hm := cT hq44_9 hm
         refine Wz (.b true) (Oq hq44_9 rfl) <| Wn <| Wn <| Wn <| Wn <| Wz (.b true) (OpT rfl) <| Wm (.b true) rfl <| Nk 57 0 ⟨.s p0::tp 2 (.i y3_2::.b false::.b true::tp 54 []), [], 0⟩ <| Sx <| Wm (.b false) rfl <| Wz (.b true) (Ocs (by kernel_rfl) (op_un rfl (a1 := .bool false) (by kernel_rfl) (fun _ => hu_not))) <| Wm (.b true) rfl <| Wm (.i y3_2) rfl <| Wz (.b (decide (y3_2 = 0))) (Obn rfl (fun _ => hb_eql (k := .i64))) ?_
         rcases tf_ (decide (y3_2 = 0)) with hq55_12 | hq55_12
         ·
          replace hm := cT hq55_12 hm
          refine Wz (.b true) (Oq hq55_12 rfl) <| Wn <| Wn <| Wz (.b true) (OpT rfl) <| Wz (.b true) (OpT rfl) <| Nk 576460752303423497 0 ⟨.s p0::tp 2 (.i y3_2::tp 55 (.b true::[])), [], 0⟩ <| AWP.if_ true (by kernel_rfl) <| Sx <| Wm (.b false) rfl <| Nn <| Rt <| Ir <| Tr <| RoundK.ret ?_
          refine Ir <| Tr ?_
          obtain rfl := Option.some.inj hm
          exact ret_i []
         ·
          replace hm := cF hq55_12 hm
          refine Wz (.b false) (Oq hq55_12 rfl) <| Wm (.b true) rfl <| Wz (.b false) (Ocs (by kernel_rfl) (op_un rfl (a1 := .bool true) (by kernel_rfl) (fun _ => hu_not))) <| Wz (.b false) (OpF rfl) <| Wz (.b false) (OpT rfl) <| Nk 576460752303423497 0 ⟨.s p0::tp 2 (.i y3_2::tp 55 (.b false::[])), [], 0⟩ <| AWP.if_ false (by kernel_rfl) <| Sk <| Ino <| Tk 9 0 ⟨.s p0::tp 2 (.i y3_2::tp 56 []), [], 0⟩ <| Tx <| Wm (.i y3_2) rfl <| Wz (.i (W6 (y3_2 + 1))) (Obn rfl (fun _ => hb_add (k := .i64))) <| Wm (.i (W6 (y3_2 + 1))) rfl ?_
          refine Wn0 <| RoundK.normal ?_
          exact Rounds.weak (Weak.toK 9 0 0 []) (ih_2 (fu_2, (W6 (y3_2 + 1))) hm (Nat.lt_succ_self _))
        ·
         replace hm := cF hq44_9 hm
         refine Wz (.b false) (Oq hq44_9 rfl) <| Wm (.s p0) rfl <| Wm (.i y3_2) rfl ?_
         obtain ⟨x47_9, hx47_9, hm⟩ := bnd hm
         obtain ⟨hx47_9i, hx47_9g⟩ := geti_some hx47_9
         refine Wz (.y x47_9) (Ocs (by kernel_rfl) (op_index_str rfl (by kernel_rfl) (s := toS p0) (by kernel_rfl) (k := .i64) (iv := y3_2) (by kernel_rfl) (i := (Int.toNat y3_2)) (hx47_9i) (b := x47_9) (hx47_9g))) <| Wz (.b (decide (((x47_9.toNat : Nat) : Int) = 95))) (Ob2 (.int .u8 ((x47_9.toNat : Nat) : Int)) (.int .u8 95) rfl (fun _ => hb_eql)) <| Wz (.b (decide (((x47_9.toNat : Nat) : Int) = 95))) (OpF rfl) <| Wm (.b (decide (((x47_9.toNat : Nat) : Int) = 95))) rfl <| Nn ?_
         exact AWP.weak (Weak.toK 57 0 0 []) (J10 (decide (((x47_9.toNat : Nat) : Int) = 95)) hm)
       ·
        replace hm := cF hq38_9 hm
        refine Wz (.b false) (Oq hq38_9 rfl) <| Wn <| Wn <| Wn <| Wn <| Wz (.b false) (OpF rfl) <| Wm (.b false) rfl <| Wm (.s p0) rfl <| Wm (.i y3_2) rfl ?_
        obtain ⟨x47_9, hx47_9, hm⟩ := bnd hm
        obtain ⟨hx47_9i, hx47_9g⟩ := geti_some hx47_9
        refine Wz (.y x47_9) (Ocs (by kernel_rfl) (op_index_str rfl (by kernel_rfl) (s := toS p0) (by kernel_rfl) (k := .i64) (iv := y3_2) (by kernel_rfl) (i := (Int.toNat y3_2)) (hx47_9i) (b := x47_9) (hx47_9g))) <| Wz (.b (decide (((x47_9.toNat : Nat) : Int) = 95))) (Ob2 (.int .u8 ((x47_9.toNat : Nat) : Int)) (.int .u8 95) rfl (fun _ => hb_eql)) <| Wz (.b (decide (((x47_9.toNat : Nat) : Int) = 95))) (OpF rfl) <| Wm (.b (decide (((x47_9.toNat : Nat) : Int) = 95))) rfl <| Nn ?_
        exact AWP.weak (Weak.toK 57 0 0 []) (J10 (decide (((x47_9.toNat : Nat) : Int) = 95)) hm)
     ·
      replace hm := cF hc21_15 hm
      refine AiF hc21_15 <| AWP.exit <| Then.exit <| RoundK.exit <| InBlock.same <| Tk 0 0 ⟨tp 60 [], [], 0⟩ <| Sx <| Wm (.b true) rfl <| Nn <| Rt ?_
      obtain rfl := Option.some.inj hm
      exact ret_i []

theorem ok_telltaleref03_Exp (p0 : Int) (r : Int) (h : m_telltaleref03_Exp p0 = some r) : GCall Try.prog 93 [(.u p0)] [] (.i r) [] := by
 refine GCall.of_body (n := 7) (rs := [(.tmp 2)]) Try.func93 rfl rfl rfl <| Ato ⟨.u p0::tu 6 [], [], 0⟩ ?_
 have hm := h
 unfold m_telltaleref03_Exp at hm
 refine Sx <| Wm (.i 0) rfl <| Nk 1 0 ⟨.u p0::tp 6 [], [], 0⟩ <| Sx <| Wm (.u p0) rfl <| Wz (.u (W7 (Int.tdiv p0 4503599627370496))) (Ob2 (.int .u64 p0) (.int .u64 4503599627370496) rfl (fun _ => hb_quo (by decide))) <| Wz (.u (Int.tmod (W7 (Int.tdiv p0 4503599627370496)) 2048)) (Ob2 (.int .u64 (W7 (Int.tdiv p0 4503599627370496))) (.int .u64 2048) rfl (fun _ => hb_rem (by decide))) <| Wz (.i (W6 (Int.tmod (W7 (Int.tdiv p0 4503599627370496)) 2048))) (Oc2 (.int .u64 (Int.tmod (W7 (Int.tdiv p0 4503599627370496)) 2048)) rfl (run_conv (ds := .int .u64) (k' := .i64) (by kernel_rfl) (by kernel_rfl))) <| Wm (.i (W6 (Int.tmod (W7 (Int.tdiv p0 4503599627370496)) 2048))) rfl <| Nn <| Rt ?_
 obtain rfl := Option.some.inj hm
 exact ret_i []

theorem ok_telltaleref03_Frac (p0 : Int) (r : Int) (h : m_telltaleref03_Frac p0 = some r) : GCall Try.prog 94 [(.u p0)] [] (.u r) [] := by
 refine GCall.of_body (n := 5) (rs := [(.tmp 2)]) Try.func94 rfl rfl rfl <| Ato ⟨.u p0::tu 4 [], [], 0⟩ ?_
 have hm := h
 unfold m_telltaleref03_Frac at hm
 refine Sx <| Wm (.u 0) rfl <| Nk 1 0 ⟨.u p0::tp 4 [], [], 0⟩ <| Sx <| Wm (.u p0) rfl <| Wz (.u (Int.tmod p0 4503599627370496)) (Ob2 (.int .u64 p0) (.int .u64 4503599627370496) rfl (fun _ => hb_rem (by decide))) <| Wm (.u (Int.tmod p0 4503599627370496)) rfl <| Nn <| Rt ?_
 obtain rfl := Option.some.inj hm
 exact ret_i []

theorem ok_telltaleref03_Kind (p0 : Int) (r : UInt8) (h : m_telltaleref03_Kind p0 = some r) : GCall Try.prog 89 [(.u p0)] [] (.y r) [] := by
 refine GCall.of_body (n := 20) (rs := [(.tmp 2)]) Try.func89 rfl rfl rfl <| Ato ⟨.u p0::tu 19 [], [], 0⟩ ?_
 have hm := h
 unfold m_telltaleref03_Kind at hm
 refine Sx <| Wm (.y 0) rfl <| Nk 1 0 ⟨.u p0::tp 19 [], [], 0⟩ ?_
 refine AWP.cutJ (α := Unit) (fun x => match x with | () => (⟨.u p0::tp 19 [], [], 0⟩ : St)) (fun x => match x with | () => m_telltaleref03_Kind_j1 p0 = some r) ?_ (fun J1 => ?_)
 ·
  rintro ⟨⟩ hm
  try dsimp only at hm ⊢
  unfold m_telltaleref03_Kind_j1 at hm
  refine Sq <| Sx <| Wm (.u p0) rfl ?_
  obtain ⟨r12_2, hr12_2, hm⟩ := bnd hm
  refine Wz (.i r12_2) (Ocf [] [] [] 0 (ok_telltaleref03_Exp p0 r12_2 hr12_2) (fun a w => Try.call93 a w) rfl trivial) <| Wz (.b (decide (r12_2 = 2047))) (Obn rfl (fun _ => hb_eql (k := .i64))) <| Nk 8193 0 ⟨.u p0::tp 12 (.b (decide (r12_2 = 2047))::tp 6 []), [], 0⟩ ?_
  rcases tf_ (decide (r12_2 = 2047)) with hc13_5 | hc13_5
  ·
   replace hm := cT hc13_5 hm
   refine AiT hc13_5 <| Sx <| Wm (.y 4) rfl <| Nn <| Rt <| Tr ?_
   obtain rfl := Option.some.inj hm
   exact ret_i []
  ·
   replace hm := cF hc13_5 hm
   refine AiF hc13_5 <| Sk <| Tk 1 0 ⟨.u p0::tp 19 [], [], 0⟩ <| Sq <| Sx <| Wm (.u p0) rfl ?_
   obtain ⟨r15_3, hr15_3, hm⟩ := bnd hm
   refine Wz (.i r15_3) (Ocf [] [] [] 0 (ok_telltaleref03_Exp p0 r15_3 hr15_3) (fun a w => Try.call93 a w) rfl trivial) <| Wz (.b (decide (r15_3 ≠ 0))) (Obn rfl (fun _ => hb_neq (k := .i64))) <| Nk 65537 0 ⟨.u p0::tp 15 (.b (decide (r15_3 ≠ 0))::tp 3 []), [], 0⟩ ?_
   rcases tf_ (decide (r15_3 ≠ 0)) with hc16_6 | hc16_6
   ·
    replace hm := cT hc16_6 hm
    refine AiT hc16_6 <| Sx <| Wm (.y 3) rfl <| Nn <| Rt <| Tr ?_
    obtain rfl := Option.some.inj hm
    exact ret_i []
   ·
    replace hm := cF hc16_6 hm
    refine AiF hc16_6 <| Sk <| Tk 1 0 ⟨.u p0::tp 19 [], [], 0⟩ <| Sq <| Sx <| Wm (.u p0) rfl ?_
    obtain ⟨r18_4, hr18_4, hm⟩ := bnd hm
    refine Wz (.u r18_4) (Ocf [] [] [] 0 (ok_telltaleref03_Frac p0 r18_4 hr18_4) (fun a w => Try.call94 a w) rfl trivial) <| Wz (.b (decide (r18_4 ≠ 0))) (Obn rfl (fun _ => hb_neq (k := .u64))) <| Nk 524288 0 ⟨tp 19 (.b (decide (r18_4 ≠ 0))::[]), [], 0⟩ ?_
    rcases tf_ (decide (r18_4 ≠ 0)) with hc19_7 | hc19_7
    ·
     replace hm := cT hc19_7 hm
     refine AiT hc19_7 <| Sx <| Wm (.y 2) rfl <| Nn <| Rt <| Tr ?_
     obtain rfl := Option.some.inj hm
     exact ret_i []
    ·
     replace hm := cF hc19_7 hm
     refine AiF hc19_7 <| Sk <| Tk 0 0 ⟨tp 20 [], [], 0⟩ <| Sx <| Wm (.y 1) rfl <| Nn <| Rt ?_
     obtain rfl := Option.some.inj hm
     exact ret_i []
 refine Sq <| Sx <| Wm (.u p0) rfl ?_
 obtain ⟨r4_0, hr4_0, hm⟩ := bnd hm
 refine Wz (.i r4_0) (Ocf [] [] [] 0 (ok_telltaleref03_Exp p0 r4_0 hr4_0) (fun a w => Try.call93 a w) rfl trivial) <| Wz (.b (decide (r4_0 = 2047))) (Obn rfl (fun _ => hb_eql (k := .i64))) ?_
 rcases tf_ (decide (r4_0 = 2047)) with hq6_0 | hq6_0
 ·
  replace hm := cT hq6_0 hm
  refine Wz (.b true) (Oq hq6_0 rfl) <| Wm (.u p0) rfl ?_
  obtain ⟨r8_0, hr8_0, hm⟩ := bnd hm
  refine Wz (.u r8_0) (Ocf [] [] [] 0 (ok_telltaleref03_Frac p0 r8_0 hr8_0) (fun a w => Try.call94 a w) rfl trivial) <| Wz (.b (decide (r8_0 ≠ 0))) (Obn rfl (fun _ => hb_neq (k := .u64))) <| Wz (.b (decide (r8_0 ≠ 0))) (OpT rfl) <| Nk 1025 0 ⟨.u p0::tp 9 (.b (decide (r8_0 ≠ 0))::tp 9 []), [], 0⟩ ?_
  rcases tf_ (decide (r8_0 ≠ 0)) with hc10_8 | hc10_8
  ·
   replace hm := cT hc10_8 hm
   refine AiT hc10_8 <| Sx <| Wm (.y 5) rfl <| Nn <| Rt <| Tr ?_
   obtain rfl := Option.some.inj hm
   exact ret_i []
  ·
   replace hm := cF hc10_8 hm
   refine AiF hc10_8 <| Sk <| Tn ?_
   exact AWP.weak (Weak.toK 1 0 0 []) (J1 () hm)
 ·
  replace hm := cF hq6_0 hm
  refine Wz (.b false) (Oq hq6_0 rfl) <| Wn <| Wn <| Wn <| Wz (.b false) (OpF rfl) <| Nk 1025 0 ⟨.u p0::tp 9 (.b false::tp 9 []), [], 0⟩ <| AWP.if_ false (by kernel_rfl) <| Sk <| Tn ?_
  exact AWP.weak (Weak.toK 1 0 0 []) (J1 () hm)

theorem ok_telltaleref03_Clean (p0 : Int) (r : Int) (h : m_telltaleref03_Clean p0 = some r) : GCall Try.prog 78 [(.u p0)] [] (.u r) [] := by
 refine GCall.of_body (n := 7) (rs := [(.tmp 2)]) Try.func78 rfl rfl rfl <| Ato ⟨.u p0::tu 6 [], [], 0⟩ ?_
 have hm := h
 unfold m_telltaleref03_Clean at hm
 refine Sx <| Wm (.u 0) rfl <| Nk 1 0 ⟨.u p0::tp 6 [], [], 0⟩ <| Sq <| Sx <| Wm (.u p0) rfl ?_
 obtain ⟨r4_0, hr4_0, hm⟩ := bnd hm
 refine Wz (.y r4_0) (Ocf [] [] [] 0 (ok_telltaleref03_Kind p0 r4_0 hr4_0) (fun a w => Try.call89 a w) rfl trivial) <| Wz (.b (decide (((r4_0.toNat : Nat) : Int) = 5))) (Ob2 (.int .u8 ((r4_0.toNat : Nat) : Int)) (.int .u8 5) rfl (fun _ => hb_eql)) <| Nk 33 0 ⟨.u p0::tp 4 (.b (decide (((r4_0.toNat : Nat) : Int) = 5))::tp 1 []), [], 0⟩ ?_
 rcases tf_ (decide (((r4_0.toNat : Nat) : Int) = 5)) with hc5_1 | hc5_1
 ·
  replace hm := cT hc5_1 hm
  refine AiT hc5_1 <| Sx <| Wm (.u 9221120237041090560) rfl <| Nn <| Rt <| Tr ?_
  obtain rfl := Option.some.inj hm
  exact ret_i []
 ·
  replace hm := cF hc5_1 hm
  refine AiF hc5_1 <| Sk <| Tk 1 0 ⟨.u p0::tp 6 [], [], 0⟩ <| Sx <| Wm (.u p0) rfl <| Wm (.u p0) rfl <| Nn <| Rt ?_
  obtain rfl := Option.some.inj hm
  exact ret_i []

theorem ok_telltaleref04_Check (p0 : GValue) (r : Int) (h : m_telltaleref04_Check p0 = some r) : GCall Try.prog 55 [(.agg [(.y p0.Kind), (.i p0.N), (.u p0.Bits), (.s p0.Text)])] [] (.i r) [] := by
 refine GCall.of_body (n := 87) (rs := [(.tmp 2)]) Try.func55 rfl rfl rfl <| Ato ⟨.agg [(.y p0.Kind), (.i p0.N), (.u p0.Bits), (.s p0.Text)]::tu 86 [], [], 0⟩ ?_
 have hm := h
 unfold m_telltaleref04_Check at hm
 refine Sx <| Wy (.loc 0 0) [(0, (.box [(.y p0.Kind), (.i p0.N), (.u p0.Bits), (.s p0.Text)]))] (Obx rfl) <| Wm (.i 0) rfl <| Nk 2 1 ⟨tp 1 (.loc 0 0::tp 85 []), [(.box [(.y p0.Kind), (.i p0.N), (.u p0.Bits), (.s p0.Text)])], 0⟩ <| Sq <| Sx <| Wz (.loc 0 0) (Ofa rfl) <| Wz (.y p0.Kind) (Old rfl) <| Wz (.b (decide (((p0.Kind.toNat : Nat) : Int) < 1))) (Ob2 (.int .u8 ((p0.Kind.toNat : Nat) : Int)) (.int .u8 1) rfl (fun _ => hb_lss)) ?_
 rcases tf_ (decide (((p0.Kind.toNat : Nat) : Int) < 1)) with hq6_0 | hq6_0
 ·
  replace hm := cT hq6_0 hm
  refine Wz (.b true) (Oq hq6_0 rfl) <| Wn <| Wn <| Wn <| Wz (.b true) (OpT rfl) <| Nk 1026 1 ⟨tp 1 (.loc 0 0::tp 8 (.b true::tp 76 [])), [(.box [(.y p0.Kind), (.i p0.N), (.u p0.Bits), (.s p0.Text)])], 0⟩ <| AWP.if_ true (by kernel_rfl) <| Sx <| Wm (.i 11) rfl <| Nn <| Rt <| Tr ?_
  obtain rfl := Option.some.inj hm
  exact ret_i []
 ·
  replace hm := cF hq6_0 hm
  refine Wz (.b false) (Oq hq6_0 rfl) <| Wz (.loc 0 0) (Ofa rfl) <| Wz (.y p0.Kind) (Old rfl) <| Wz (.b (decide ((4 : Int) < ((p0.Kind.toNat : Nat) : Int)))) (Ob2 (.int .u8 ((p0.Kind.toNat : Nat) : Int)) (.int .u8 4) rfl (fun _ => hb_gtr)) <| Wz (.b (decide ((4 : Int) < ((p0.Kind.toNat : Nat) : Int)))) (OpF rfl) <| Nk 1026 1 ⟨tp 1 (.loc 0 0::tp 8 (.b (decide ((4 : Int) < ((p0.Kind.toNat : Nat) : Int)))::tp 76 [])), [(.box [(.y p0.Kind), (.i p0.N), (.u p0.Bits), (.s p0.Text)])], 0⟩ ?_
  rcases tf_ (decide ((4 : Int) < ((p0.Kind.toNat : Nat) : Int))) with hc10_14 | hc10_14
  ·
   replace hm := cT hc10_14 hm
   refine AiT hc10_14 <| Sx <| Wm (.i 11) rfl <| Nn <| Rt <| Tr ?_
   obtain rfl := Option.some.inj hm
   exact ret_i []
  ·
   replace hm := cF hc10_14 hm
   refine AiF hc10_14 <| Sk <| Tk 2 1 ⟨tp 1 (.loc 0 0::tp 85 []), [(.box [(.y p0.Kind), (.i p0.N), (.u p0.Bits), (.s p0.Text)])], 0⟩ ?_
   refine AWP.cutJ (α := Unit) (fun x => match x with | () => (⟨tp 1 (.loc 0 0::tp 85 []), [(.box [(.y p0.Kind), (.i p0.N), (.u p0.Bits), (.s p0.Text)])], 0⟩ : St)) (fun x => match x with | () => m_telltaleref04_Check_j5 p0 = some r) ?_ (fun J5 => ?_)
   ·
    rintro ⟨⟩ hm
    try dsimp only at hm ⊢
    unfold m_telltaleref04_Check_j5 at hm
    refine AWP.cutJ (α := Unit) (fun x => match x with | () => (⟨tp 1 (.loc 0 0::tp 85 []), [(.box [(.y p0.Kind), (.i p0.N), (.u p0.Bits), (.s p0.Text)])], 0⟩ : St)) (fun x => match x with | () => m_telltaleref04_Check_j7 p0 = some r) ?_ (fun J7 => ?_)
    ·
     rintro ⟨⟩ hm
     try dsimp only at hm ⊢
     unfold m_telltaleref04_Check_j7 at hm
     refine AWP.cutJ (α := Unit) (fun x => match x with | () => (⟨tp 1 (.loc 0 0::tp 85 []), [(.box [(.y p0.Kind), (.i p0.N), (.u p0.Bits), (.s p0.Text)])], 0⟩ : St)) (fun x => match x with | () => m_telltaleref04_Check_j9 p0 = some r) ?_ (fun J9 => ?_)
     ·
      rintro ⟨⟩ hm
      try dsimp only at hm ⊢
      unfold m_telltaleref04_Check_j9 at hm
      refine Sq ?_
      refine AWP.cutJ (α := Unit) (fun x => match x with | () => (⟨tp 86 (.b true::[]), [], 0⟩ : St)) (fun x => match x with | () => m_telltaleref04_Check_j11  = some r) ?_ (fun J11 => ?_)
      ·
       rintro ⟨⟩ hm
       try dsimp only at hm ⊢
       unfold m_telltaleref04_Check_j11 at hm
       refine AWP.if_ true (by kernel_rfl) <| Sx <| Wm (.i 2) rfl <| Nn <| Rt <| Tr ?_
       obtain rfl := Option.some.inj hm
       exact ret_i []
      refine AWP.cutJ (α := Unit) (fun x => match x with | () => (⟨tp 86 (.b (decide (p0.Text ≠ ([] : List UInt8)))::[]), [], 0⟩ : St)) (fun x => match x with | () => m_telltaleref04_Check_j12 p0 = some r) ?_ (fun J12 => ?_)
      ·
       rintro ⟨⟩ hm
       try dsimp only at hm ⊢
       unfold m_telltaleref04_Check_j12 at hm
       rcases tf_ (decide (p0.Text ≠ ([] : List UInt8))) with hc86_12 | hc86_12
       ·
        replace hm := cT hc86_12 hm
        refine AiT hc86_12 <| Sx <| Wm (.i 2) rfl <| Nn <| Rt <| Tr ?_
        obtain rfl := Option.some.inj hm
        exact ret_i []
       ·
        replace hm := cF hc86_12 hm
        refine AiF hc86_12 <| Sk <| Tk 0 0 ⟨tp 87 [], [], 0⟩ <| Sx <| Wm (.i 0) rfl <| Nn <| Rt ?_
        obtain rfl := Option.some.inj hm
        exact ret_i []
      refine AWP.cutJ (α := Unit) (fun x => match x with | () => (⟨tp 86 (.b false::[]), [], 0⟩ : St)) (fun x => match x with | () => m_telltaleref04_Check_j13  = some r) ?_ (fun J13 => ?_)
      ·
       rintro ⟨⟩ hm
       try dsimp only at hm ⊢
       unfold m_telltaleref04_Check_j13 at hm
       refine AWP.if_ false (by kernel_rfl) <| Sk <| Tk 0 0 ⟨tp 87 [], [], 0⟩ <| Sx <| Wm (.i 0) rfl <| Nn <| Rt ?_
       obtain rfl := Option.some.inj hm
       exact ret_i []
      refine Sx <| Wz (.loc 0 0) (Ofa rfl) <| Wz (.y p0.Kind) (Old rfl) <| Wz (.b (decide ((2 : Int) < ((p0.Kind.toNat : Nat) : Int)))) (Ob2 (.int .u8 ((p0.Kind.toNat : Nat) : Int)) (.int .u8 2) rfl (fun _ => hb_gtr)) ?_
      rcases tf_ (decide ((2 : Int) < ((p0.Kind.toNat : Nat) : Int))) with hq62_10 | hq62_10
      ·
       replace hm := cT hq62_10 hm
       refine Wz (.b true) (Oq hq62_10 rfl) <| Wz (.loc 0 1) (Ofa rfl) <| Wz (.i p0.N) (Old rfl) <| Wz (.b (decide (p0.N ≠ 0))) (Obn rfl (fun _ => hb_neq (k := .i64))) <| Wz (.b (decide (p0.N ≠ 0))) (OpT rfl) ?_
       rcases tf_ (decide (p0.N ≠ 0)) with hq67_10 | hq67_10
       ·
        replace hm := cT hq67_10 hm
        refine Wz (.b true) (Oq hq67_10 rfl) <| Wn <| Wn <| Wn <| Wn <| Wn <| Wn <| Wn <| Wn <| Wz (.b true) (OpT rfl) <| Wm (.b true) rfl <| Wn <| Wn <| Wn ?_
        refine Wn <| Wn <| Wn <| Wn <| Wn <| Wz (.b true) (OpT rfl) <| Nn ?_
        exact AWP.weak (Weak.toK 77371252455336267181195264 0 0 []) (J11 () hm)
       ·
        replace hm := cF hq67_10 hm
        refine Wz (.b false) (Oq hq67_10 rfl) <| Wz (.loc 0 0) (Ofa rfl) <| Wz (.y p0.Kind) (Old rfl) <| Wz (.b (decide (((p0.Kind.toNat : Nat) : Int) ≠ 3))) (Ob2 (.int .u8 ((p0.Kind.toNat : Nat) : Int)) (.int .u8 3) rfl (fun _ => hb_neq)) ?_
        rcases tf_ (decide (((p0.Kind.toNat : Nat) : Int) ≠ 3)) with hq71_10 | hq71_10
        ·
         replace hm := cT hq71_10 hm
         refine Wz (.b true) (Oq hq71_10 rfl) <| Wz (.loc 0 2) (Ofa rfl) <| Wz (.u p0.Bits) (Old rfl) <| Wz (.b (decide (p0.Bits ≠ 0))) (Obn rfl (fun _ => hb_neq (k := .u64))) <| Wz (.b (decide (p0.Bits ≠ 0))) (OpT rfl) <| Wz (.b (decide (p0.Bits ≠ 0))) (OpF rfl) ?_
         rcases tf_ (decide (p0.Bits ≠ 0)) with hq77_10 | hq77_10
         ·
          replace hm := cT hq77_10 hm
          refine Wz (.b true) (Oq hq77_10 rfl) <| Wn <| Wn <| Wn <| Wn <| Wn <| Wn <| Wn <| Wn <| Wz (.b true) (OpT rfl) <| Nn ?_
          exact AWP.weak (Weak.toK 77371252455336267181195264 0 0 []) (J11 () hm)
         ·
          replace hm := cF hq77_10 hm
          refine Wz (.b false) (Oq hq77_10 rfl) <| Wz (.loc 0 0) (Ofa rfl) <| Wz (.y p0.Kind) (Old rfl) <| Wz (.b (decide (((p0.Kind.toNat : Nat) : Int) ≠ 4))) (Ob2 (.int .u8 ((p0.Kind.toNat : Nat) : Int)) (.int .u8 4) rfl (fun _ => hb_neq)) ?_
          rcases tf_ (decide (((p0.Kind.toNat : Nat) : Int) ≠ 4)) with hq81_10 | hq81_10
          ·
           replace hm := cT hq81_10 hm
           refine Wz (.b true) (Oq hq81_10 rfl) <| Wz (.loc 0 3) (Ofa rfl) <| Wz (.s p0.Text) (Old rfl) <| Wz (.b (decide (p0.Text ≠ ([] : List UInt8)))) (Ocs (lit_tf (by simp only [toS_inj, ne_eq])) (op_bin rfl (a1 := .string (toS p0.Text)) (a2 := .string (toS ([] : List UInt8))) (by kernel_rfl) (by kernel_rfl) (fun _ => hb_sneq))) <| Wz (.b (decide (p0.Text ≠ ([] : List UInt8)))) (OpT rfl) <| Wz (.b (decide (p0.Text ≠ ([] : List UInt8)))) (OpF rfl) <| Nn ?_
           exact AWP.weak (Weak.toK 77371252455336267181195264 0 0 []) (J12 () hm)
          ·
           replace hm := cF hq81_10 hm
           refine Wz (.b false) (Oq hq81_10 rfl) <| Wn <| Wn <| Wn <| Wz (.b false) (OpF rfl) <| Wz (.b false) (OpF rfl) <| Nn ?_
           exact AWP.weak (Weak.toK 77371252455336267181195264 0 0 []) (J13 () hm)
        ·
         replace hm := cF hq71_10 hm
         refine Wz (.b false) (Oq hq71_10 rfl) <| Wn <| Wn <| Wn <| Wz (.b false) (OpF rfl) <| Wz (.b false) (OpF rfl) <| Wm (.b false) rfl <| Wz (.loc 0 0) (Ofa rfl) <| Wz (.y p0.Kind) (Old rfl) <| Wz (.b (decide (((p0.Kind.toNat : Nat) : Int) ≠ 4))) (Ob2 (.int .u8 ((p0.Kind.toNat : Nat) : Int)) (.int .u8 4) rfl (fun _ => hb_neq)) ?_
         rcases tf_ (decide (((p0.Kind.toNat : Nat) : Int) ≠ 4)) with hq81_10 | hq81_10
         ·
          replace hm := cT hq81_10 hm
          refine Wz (.b true) (Oq hq81_10 rfl) <| Wz (.loc 0 3) (Ofa rfl) <| Wz (.s p0.Text) (Old rfl) <| Wz (.b (decide (p0.Text ≠ ([] : List UInt8)))) (Ocs (lit_tf (by simp only [toS_inj, ne_eq])) (op_bin rfl (a1 := .string (toS p0.Text)) (a2 := .string (toS ([] : List UInt8))) (by kernel_rfl) (by kernel_rfl) (fun _ => hb_sneq))) <| Wz (.b (decide (p0.Text ≠ ([] : List UInt8)))) (OpT rfl) <| Wz (.b (decide (p0.Text ≠ ([] : List UInt8)))) (OpF rfl) <| Nn ?_
          exact AWP.weak (Weak.toK 77371252455336267181195264 0 0 []) (J12 () hm)
         ·
          replace hm := cF hq81_10 hm
          refine Wz (.b false) (Oq hq81_10 rfl) <| Wn <| Wn <| Wn <| Wz (.b false) (OpF rfl) <| Wz (.b false) (OpF rfl) <| Nn ?_
          exact AWP.weak (Weak.toK 77371252455336267181195264 0 0 []) (J13 () hm)
      ·
       replace hm := cF hq62_10 hm
       refine Wz (.b false) (Oq hq62_10 rfl) <| Wn <| Wn <| Wn <| Wz (.b false) (OpF rfl) <| Wm (.b false) rfl <| Wz (.loc 0 0) (Ofa rfl) <| Wz (.y p0.Kind) (Old rfl) <| Wz (.b (decide (((p0.Kind.toNat : Nat) : Int) ≠ 3))) (Ob2 (.int .u8 ((p0.Kind.toNat : Nat) : Int)) (.int .u8 3) rfl (fun _ => hb_neq)) ?_
       rcases tf_ (decide (((p0.Kind.toNat : Nat) : Int) ≠ 3)) with hq71_10 | hq71_10
       ·
        replace hm := cT hq71_10 hm
        refine Wz (.b true) (Oq hq71_10 rfl) <| Wz (.loc 0 2) (Ofa rfl) <| Wz (.u p0.Bits) (Old rfl) <| Wz (.b (decide (p0.Bits ≠ 0))) (Obn rfl (fun _ => hb_neq (k := .u64))) <| Wz (.b (decide (p0.Bits ≠ 0))) (OpT rfl) <| Wz (.b (decide (p0.Bits ≠ 0))) (OpF rfl) ?_
        rcases tf_ (decide (p0.Bits ≠ 0)) with hq77_10 | hq77_10
        ·
         replace hm := cT hq77_10 hm
         refine Wz (.b true) (Oq hq77_10 rfl) <| Wn <| Wn <| Wn <| Wn <| Wn <| Wn <| Wn <| Wn <| Wz (.b true) (OpT rfl) <| Nn ?_
         exact AWP.weak (Weak.toK 77371252455336267181195264 0 0 []) (J11 () hm)
        ·
         replace hm := cF hq77_10 hm
         refine Wz (.b false) (Oq hq77_10 rfl) <| Wz (.loc 0 0) (Ofa rfl) <| Wz (.y p0.Kind) (Old rfl) <| Wz (.b (decide (((p0.Kind.toNat : Nat) : Int) ≠ 4))) (Ob2 (.int .u8 ((p0.Kind.toNat : Nat) : Int)) (.int .u8 4) rfl (fun _ => hb_neq)) ?_
         rcases tf_ (decide (((p0.Kind.toNat : Nat) : Int) ≠ 4)) with hq81_10 | hq81_10
         ·
          replace hm := cT hq81_10 hm
          refine Wz (.b true) (Oq hq81_10 rfl) <| Wz (.loc 0 3) (Ofa rfl) <| Wz (.s p0.Text) (Old rfl) <| Wz (.b (decide (p0.Text ≠ ([] : List UInt8)))) (Ocs (lit_tf (by simp only [toS_inj, ne_eq])) (op_bin rfl (a1 := .string (toS p0.Text)) (a2 := .string (toS ([] : List UInt8))) (by kernel_rfl) (by kernel_rfl) (fun _ => hb_sneq))) <| Wz (.b (decide (p0.Text ≠ ([] : List UInt8)))) (OpT rfl) <| Wz (.b (decide (p0.Text ≠ ([] : List UInt8)))) (OpF rfl) <| Nn ?_
          exact AWP.weak (Weak.toK 77371252455336267181195264 0 0 []) (J12 () hm)
         ·
          replace hm := cF hq81_10 hm
          refine Wz (.b false) (Oq hq81_10 rfl) <| Wn <| Wn <| Wn <| Wz (.b false) (OpF rfl) <| Wz (.b false) (OpF rfl) <| Nn ?_
          exact AWP.weak (Weak.toK 77371252455336267181195264 0 0 []) (J13 () hm)
       ·
        replace hm := cF hq71_10 hm
        refine Wz (.b false) (Oq hq71_10 rfl) <| Wn <| Wn <| Wn <| Wz (.b false) (OpF rfl) <| Wz (.b false) (OpF rfl) <| Wm (.b false) rfl <| Wz (.loc 0 0) (Ofa rfl) <| Wz (.y p0.Kind) (Old rfl) <| Wz (.b (decide (((p0.Kind.toNat : Nat) : Int) ≠ 4))) (Ob2 (.int .u8 ((p0.Kind.toNat : Nat) : Int)) (.int .u8 4) rfl (fun _ => hb_neq)) ?_
        rcases tf_ (decide (((p0.Kind.toNat : Nat) : Int) ≠ 4)) with hq81_10 | hq81_10
        ·
         replace hm := cT hq81_10 hm
         refine Wz (.b true) (Oq hq81_10 rfl) <| Wz (.loc 0 3) (Ofa rfl) <| Wz (.s p0.Text) (Old rfl) <| Wz (.b (decide (p0.Text ≠ ([] : List UInt8)))) (Ocs (lit_tf (by simp only [toS_inj, ne_eq])) (op_bin rfl (a1 := .string (toS p0.Text)) (a2 := .string (toS ([] : List UInt8))) (by kernel_rfl) (by kernel_rfl) (fun _ => hb_sneq))) <| Wz (.b (decide (p0.Text ≠ ([] : List UInt8)))) (OpT rfl) <| Wz (.b (decide (p0.Text ≠ ([] : List UInt8)))) (OpF rfl) <| Nn ?_
         exact AWP.weak (Weak.toK 77371252455336267181195264 0 0 []) (J12 () hm)
        ·
         replace hm := cF hq81_10 hm
         refine Wz (.b false) (Oq hq81_10 rfl) <| Wn <| Wn <| Wn <| Wz (.b false) (OpF rfl) <| Wz (.b false) (OpF rfl) <| Nn ?_
         exact AWP.weak (Weak.toK 77371252455336267181195264 0 0 []) (J13 () hm)
     refine Sq <| Sx <| Wz (.loc 0 0) (Ofa rfl) <| Wz (.y p0.Kind) (Old rfl) <| Wz (.b (decide (((p0.Kind.toNat : Nat) : Int) = 4))) (Ob2 (.int .u8 ((p0.Kind.toNat : Nat) : Int)) (.int .u8 4) rfl (fun _ => hb_eql)) ?_
     rcases tf_ (decide (((p0.Kind.toNat : Nat) : Int) = 4)) with hq53_8 | hq53_8
     ·
      replace hm := cT hq53_8 hm
      refine Wz (.b true) (Oq hq53_8 rfl) <| Wz (.loc 0 3) (Ofa rfl) <| Wz (.s p0.Text) (Old rfl) <| Wz (.i ((List.length p0.Text : Nat) : Int)) (Oln rfl) <| Wz (.b (decide ((24 : Int) < ((List.length p0.Text : Nat) : Int)))) (Obn rfl (fun _ => hb_gtr (k := .i64))) <| Wz (.b (decide ((24 : Int) < ((List.length p0.Text : Nat) : Int)))) (OpT rfl) <| Nk 288230376151711746 1 ⟨tp 1 (.loc 0 0::tp 56 (.b (decide ((24 : Int) < ((List.length p0.Text : Nat) : Int)))::tp 28 [])), [(.box [(.y p0.Kind), (.i p0.N), (.u p0.Bits), (.s p0.Text)])], 0⟩ ?_
      rcases tf_ (decide ((24 : Int) < ((List.length p0.Text : Nat) : Int))) with hc58_15 | hc58_15
      ·
       replace hm := cT hc58_15 hm
       refine AiT hc58_15 <| Sx <| Wm (.i 5) rfl <| Nn <| Rt <| Tr ?_
       obtain rfl := Option.some.inj hm
       exact ret_i []
      ·
       replace hm := cF hc58_15 hm
       refine AiF hc58_15 <| Sk <| Tn ?_
       exact AWP.weak (Weak.toK 2 0 0 [0]) (J9 () hm)
     ·
      replace hm := cF hq53_8 hm
      refine Wz (.b false) (Oq hq53_8 rfl) <| Wn <| Wn <| Wn <| Wn <| Wz (.b false) (OpF rfl) <| Nk 288230376151711746 1 ⟨tp 1 (.loc 0 0::tp 56 (.b false::tp 28 [])), [(.box [(.y p0.Kind), (.i p0.N), (.u p0.Bits), (.s p0.Text)])], 0⟩ <| AWP.if_ false (by kernel_rfl) <| Sk <| Tn ?_
      exact AWP.weak (Weak.toK 2 0 0 [0]) (J9 () hm)
    refine Sq <| Sq <| Adr <| Wz (.loc 0 0) (Ofa rfl) <| Wz (.y p0.Kind) (Old rfl) <| Wz (.b (decide (((p0.Kind.toNat : Nat) : Int) = 3))) (Ob2 (.int .u8 ((p0.Kind.toNat : Nat) : Int)) (.int .u8 3) rfl (fun _ => hb_eql)) ?_
    rcases tf_ (decide (((p0.Kind.toNat : Nat) : Int) = 3)) with hq42_6 | hq42_6
    ·
     replace hm := cT hq42_6 hm
     refine Wz (.b true) (Oq hq42_6 rfl) <| Wz (.loc 0 2) (Ofa rfl) <| Wz (.u p0.Bits) (Old rfl) ?_
     obtain ⟨r45_6, hr45_6, hm⟩ := bnd hm
     refine Wz (.u r45_6) (Ocf [] [] [] 0 (ok_telltaleref03_Clean p0.Bits r45_6 hr45_6) (fun a w => Try.call78 a w) rfl trivial) <| Wz (.loc 0 2) (Ofa rfl) <| Wz (.u p0.Bits) (Old rfl) <| Wz (.b (decide (r45_6 ≠ p0.Bits))) (Obn rfl (fun _ => hb_neq (k := .u64))) <| Wz (.b (decide (r45_6 ≠ p0.Bits))) (OpT rfl) <| Wdr <| Tk 562949953421314 1 ⟨tp 1 (.loc 0 0::tp 47 (.b (decide (r45_6 ≠ p0.Bits))::tp 37 [])), [(.box [(.y p0.Kind), (.i p0.N), (.u p0.Bits), (.s p0.Text)])], 0⟩ ?_
     rcases tf_ (decide (r45_6 ≠ p0.Bits)) with hc49_16 | hc49_16
     ·
      replace hm := cT hc49_16 hm
      refine AiT hc49_16 <| Sx <| Wm (.i 4) rfl <| Nn <| Rt <| Tr ?_
      obtain rfl := Option.some.inj hm
      exact ret_i []
     ·
      replace hm := cF hc49_16 hm
      refine AiF hc49_16 <| Sk <| Tn ?_
      exact AWP.weak (Weak.toK 2 0 0 [0]) (J7 () hm)
    ·
     replace hm := cF hq42_6 hm
     refine Wz (.b false) (Oq hq42_6 rfl) <| Wn <| Wn <| Wn <| Wn <| Wn <| Wn <| Wz (.b false) (OpF rfl) <| Wdr <| Tk 562949953421314 1 ⟨tp 1 (.loc 0 0::tp 47 (.b false::tp 37 [])), [(.box [(.y p0.Kind), (.i p0.N), (.u p0.Bits), (.s p0.Text)])], 0⟩ <| AWP.if_ false (by kernel_rfl) <| Sk <| Tn ?_
     exact AWP.weak (Weak.toK 2 0 0 [0]) (J7 () hm)
   refine Sq ?_
   refine AWP.cutJ (α := Unit) (fun x => match x with | () => (⟨tp 1 (.loc 0 0::tp 36 (.b true::tp 48 [])), [(.box [(.y p0.Kind), (.i p0.N), (.u p0.Bits), (.s p0.Text)])], 0⟩ : St)) (fun x => match x with | () => m_telltaleref04_Check_j2  = some r) ?_ (fun J2 => ?_)
   ·
    rintro ⟨⟩ hm
    try dsimp only at hm ⊢
    unfold m_telltaleref04_Check_j2 at hm
    refine AWP.if_ true (by kernel_rfl) <| Sx <| Wm (.i 8) rfl <| Nn <| Rt <| Tr ?_
    obtain rfl := Option.some.inj hm
    exact ret_i []
   refine AWP.cutJ (α := Unit) (fun x => match x with | () => (⟨tp 1 (.loc 0 0::tp 36 (.b (decide ((1 : Int) < p0.N))::tp 48 [])), [(.box [(.y p0.Kind), (.i p0.N), (.u p0.Bits), (.s p0.Text)])], 0⟩ : St)) (fun x => match x with | () => m_telltaleref04_Check_j3 p0 = some r) ?_ (fun J3 => ?_)
   ·
    rintro ⟨⟩ hm
    try dsimp only at hm ⊢
    unfold m_telltaleref04_Check_j3 at hm
    rcases tf_ (decide ((1 : Int) < p0.N)) with hc38_3 | hc38_3
    ·
     replace hm := cT hc38_3 hm
     refine AiT hc38_3 <| Sx <| Wm (.i 8) rfl <| Nn <| Rt <| Tr ?_
     obtain rfl := Option.some.inj hm
     exact ret_i []
    ·
     replace hm := cF hc38_3 hm
     refine AiF hc38_3 <| Sk <| Tn ?_
     exact AWP.weak (Weak.toK 2 0 0 [0]) (J5 () hm)
   refine AWP.cutJ (α := Unit) (fun x => match x with | () => (⟨tp 1 (.loc 0 0::tp 36 (.b false::tp 48 [])), [(.box [(.y p0.Kind), (.i p0.N), (.u p0.Bits), (.s p0.Text)])], 0⟩ : St)) (fun x => match x with | () => m_telltaleref04_Check_j4 p0 = some r) ?_ (fun J4 => ?_)
   ·
    rintro ⟨⟩ hm
    try dsimp only at hm ⊢
    unfold m_telltaleref04_Check_j4 at hm
    refine AWP.if_ false (by kernel_rfl) <| Sk <| Tn ?_
    exact AWP.weak (Weak.toK 2 0 0 [0]) (J5 () hm)
   refine Sx <| Wz (.loc 0 0) (Ofa rfl) <| Wz (.y p0.Kind) (Old rfl) <| Wz (.b (decide (((p0.Kind.toNat : Nat) : Int) = 1))) (Ob2 (.int .u8 ((p0.Kind.toNat : Nat) : Int)) (.int .u8 1) rfl (fun _ => hb_eql)) ?_
   rcases tf_ (decide (((p0.Kind.toNat : Nat) : Int) = 1)) with hq14_1 | hq14_1
   ·
    replace hm := cT hq14_1 hm
    refine Wz (.b true) (Oq hq14_1 rfl) <| Wz (.loc 0 1) (Ofa rfl) <| Wz (.i p0.N) (Old rfl) <| Wz (.b (decide (p0.N < (-4611686018427387904)))) (Obn rfl (fun _ => hb_lss (k := .i64))) ?_
    rcases tf_ (decide (p0.N < (-4611686018427387904))) with hq18_1 | hq18_1
    ·
     replace hm := cT hq18_1 hm
     refine Wz (.b true) (Oq hq18_1 rfl) <| Wn <| Wn <| Wn <| Wz (.b true) (OpT rfl) <| Wz (.b true) (OpT rfl) <| Wm (.b true) rfl <| Wn <| Wn <| Wn <| Wn <| Wn <| Wn <| Wn ?_
     refine Wn <| Wn <| Wn <| Wn <| Wn <| Wn <| Wz (.b true) (OpT rfl) <| Nn ?_
     exact AWP.weak (Weak.toK 274877906946 0 0 [0]) (J2 () hm)
    ·
     replace hm := cF hq18_1 hm
     refine Wz (.b false) (Oq hq18_1 rfl) <| Wz (.loc 0 1) (Ofa rfl) <| Wz (.i p0.N) (Old rfl) <| Wz (.b (decide ((4611686018427387904 : Int) < p0.N))) (Obn rfl (fun _ => hb_gtr (k := .i64))) <| Wz (.b (decide ((4611686018427387904 : Int) < p0.N))) (OpF rfl) <| Wz (.b (decide ((4611686018427387904 : Int) < p0.N))) (OpT rfl) ?_
     rcases tf_ (decide ((4611686018427387904 : Int) < p0.N)) with hq24_1 | hq24_1
     ·
      replace hm := cT hq24_1 hm
      refine Wz (.b true) (Oq hq24_1 rfl) <| Wn <| Wn <| Wn <| Wn <| Wn <| Wn <| Wn <| Wn <| Wn <| Wn <| Wn <| Wn <| Wn ?_
      refine Wz (.b true) (OpT rfl) <| Nn ?_
      exact AWP.weak (Weak.toK 274877906946 0 0 [0]) (J2 () hm)
     ·
      replace hm := cF hq24_1 hm
      refine Wz (.b false) (Oq hq24_1 rfl) <| Wz (.loc 0 0) (Ofa rfl) <| Wz (.y p0.Kind) (Old rfl) <| Wz (.b (decide (((p0.Kind.toNat : Nat) : Int) = 2))) (Ob2 (.int .u8 ((p0.Kind.toNat : Nat) : Int)) (.int .u8 2) rfl (fun _ => hb_eql)) ?_
      rcases tf_ (decide (((p0.Kind.toNat : Nat) : Int) = 2)) with hq28_1 | hq28_1
      ·
       replace hm := cT hq28_1 hm
       refine Wz (.b true) (Oq hq28_1 rfl) <| Wz (.loc 0 1) (Ofa rfl) <| Wz (.i p0.N) (Old rfl) <| Wz (.b (decide (p0.N < 0))) (Obn rfl (fun _ => hb_lss (k := .i64))) ?_
       rcases tf_ (decide (p0.N < 0)) with hq32_1 | hq32_1
       ·
        replace hm := cT hq32_1 hm
        refine Wz (.b true) (Oq hq32_1 rfl) <| Wn <| Wn <| Wn <| Wz (.b true) (OpT rfl) <| Wz (.b true) (OpT rfl) <| Wz (.b true) (OpF rfl) <| Nn ?_
        exact AWP.weak (Weak.toK 274877906946 0 0 [0]) (J2 () hm)
       ·
        replace hm := cF hq32_1 hm
        refine Wz (.b false) (Oq hq32_1 rfl) <| Wz (.loc 0 1) (Ofa rfl) <| Wz (.i p0.N) (Old rfl) <| Wz (.b (decide ((1 : Int) < p0.N))) (Obn rfl (fun _ => hb_gtr (k := .i64))) <| Wz (.b (decide ((1 : Int) < p0.N))) (OpF rfl) <| Wz (.b (decide ((1 : Int) < p0.N))) (OpT rfl) <| Wz (.b (decide ((1 : Int) < p0.N))) (OpF rfl) <| Nn ?_
        exact AWP.weak (Weak.toK 274877906946 0 0 [0]) (J3 () hm)
      ·
       replace hm := cF hq28_1 hm
       refine Wz (.b false) (Oq hq28_1 rfl) <| Wn <| Wn <| Wn <| Wn <| Wn <| Wn <| Wn <| Wn <| Wz (.b false) (OpF rfl) <| Wz (.b false) (OpF rfl) <| Nn ?_
       exact AWP.weak (Weak.toK 274877906946 0 0 [0]) (J4 () hm)
   ·
    replace hm := cF hq14_1 hm
    refine Wz (.b false) (Oq hq14_1 rfl) <| Wn <| Wn <| Wn <| Wn <| Wn <| Wn <| Wn <| Wn <| Wz (.b false) (OpF rfl) <| Wm (.b false) rfl <| Wz (.loc 0 0) (Ofa rfl) <| Wz (.y p0.Kind) (Old rfl) <| Wz (.b (decide (((p0.Kind.toNat : Nat) : Int) = 2))) (Ob2 (.int .u8 ((p0.Kind.toNat : Nat) : Int)) (.int .u8 2) rfl (fun _ => hb_eql)) ?_
    rcases tf_ (decide (((p0.Kind.toNat : Nat) : Int) = 2)) with hq28_1 | hq28_1
    ·
     replace hm := cT hq28_1 hm
     refine Wz (.b true) (Oq hq28_1 rfl) <| Wz (.loc 0 1) (Ofa rfl) <| Wz (.i p0.N) (Old rfl) <| Wz (.b (decide (p0.N < 0))) (Obn rfl (fun _ => hb_lss (k := .i64))) ?_
     rcases tf_ (decide (p0.N < 0)) with hq32_1 | hq32_1
     ·
      replace hm := cT hq32_1 hm
      refine Wz (.b true) (Oq hq32_1 rfl) <| Wn <| Wn <| Wn <| Wz (.b true) (OpT rfl) <| Wz (.b true) (OpT rfl) <| Wz (.b true) (OpF rfl) <| Nn ?_
      exact AWP.weak (Weak.toK 274877906946 0 0 [0]) (J2 () hm)
     ·
      replace hm := cF hq32_1 hm
      refine Wz (.b false) (Oq hq32_1 rfl) <| Wz (.loc 0 1) (Ofa rfl) <| Wz (.i p0.N) (Old rfl) <| Wz (.b (decide ((1 : Int) < p0.N))) (Obn rfl (fun _ => hb_gtr (k := .i64))) <| Wz (.b (decide ((1 : Int) < p0.N))) (OpF rfl) <| Wz (.b (decide ((1 : Int) < p0.N))) (OpT rfl) <| Wz (.b (decide ((1 : Int) < p0.N))) (OpF rfl) <| Nn ?_
      exact AWP.weak (Weak.toK 274877906946 0 0 [0]) (J3 () hm)
    ·
     replace hm := cF hq28_1 hm
     refine Wz (.b false) (Oq hq28_1 rfl) <| Wn <| Wn <| Wn <| Wn <| Wn <| Wn <| Wn <| Wn <| Wz (.b false) (OpF rfl) <| Wz (.b false) (OpF rfl) <| Nn ?_
     exact AWP.weak (Weak.toK 274877906946 0 0 [0]) (J4 () hm)

theorem ok_telltaleref11_needs (p0 : GNode_) (r : Int) (h : m_telltaleref11_needs p0 = some r) : GCall Try.prog 41 [(.agg [(.y p0.Kind), (.y p0.Op), (.s p0.Var), (.s p0.Name), (.y p0.Val.Kind), (.i p0.Val.N), (.u p0.Val.Bits), (.s p0.Val.Text)])] [] (.i r) [] := by
 refine GCall.of_body (n := 102) (rs := [(.tmp 2)]) Try.func41 rfl rfl rfl <| Ato ⟨.agg [(.y p0.Kind), (.y p0.Op), (.s p0.Var), (.s p0.Name), (.y p0.Val.Kind), (.i p0.Val.N), (.u p0.Val.Bits), (.s p0.Val.Text)]::tu 101 [], [], 0⟩ ?_
 have hm := h
 unfold m_telltaleref11_needs at hm
 refine Sx <| Wy (.loc 0 0) [(0, (.box [(.y p0.Kind), (.y p0.Op), (.s p0.Var), (.s p0.Name), (.y p0.Val.Kind), (.i p0.Val.N), (.u p0.Val.Bits), (.s p0.Val.Text)]))] (Obx rfl) <| Wm (.i 0) rfl <| Nk 2 1 ⟨tp 1 (.loc 0 0::tp 100 []), [(.box [(.y p0.Kind), (.y p0.Op), (.s p0.Var), (.s p0.Name), (.y p0.Val.Kind), (.i p0.Val.N), (.u p0.Val.Bits), (.s p0.Val.Text)])], 0⟩ <| Sx <| Wz (.agg [(.y 0), (.i 0), (.u 0), (.s ([] : List UInt8))]) (Obd rfl) <| Wy (.loc 1 0) [(1, (.box [(.y 0), (.i 0), (.u 0), (.s ([] : List UInt8))]))] (Oal rfl) <| Wy (.tup []) [(1, (.box [(.y 0), (.i 0), (.u 0), (.s ([] : List UInt8))]))] (Ost rfl) <| Nk 10 3 ⟨tp 1 (.loc 0 0::tp 1 (.loc 1 0::tp 98 [])), [(.box [(.y p0.Kind), (.y p0.Op), (.s p0.Var), (.s p0.Name), (.y p0.Val.Kind), (.i p0.Val.N), (.u p0.Val.Bits), (.s p0.Val.Text)]), (.box [(.y 0), (.i 0), (.u 0), (.s ([] : List UInt8))])], 0⟩ ?_
 refine AWP.cutJ (α := Unit) (fun x => match x with | () => (⟨tp 1 (.loc 0 0::tp 1 (.loc 1 0::.b true::tp 97 [])), [(.box [(.y p0.Kind), (.y p0.Op), (.s p0.Var), (.s p0.Name), (.y p0.Val.Kind), (.i p0.Val.N), (.u p0.Val.Bits), (.s p0.Val.Text)]), (.box [(.y 0), (.i 0), (.u 0), (.s ([] : List UInt8))])], 0⟩ : St)) (fun x => match x with | () => m_telltaleref11_needs_j1  = some r) ?_ (fun J1 => ?_)
 ·
  rintro ⟨⟩ hm
  try dsimp only at hm ⊢
  unfold m_telltaleref11_needs_j1 at hm
  refine Sq <| Sx <| Wm (.b true) rfl <| Nk 144115188075855882 3 ⟨tp 1 (.loc 0 0::tp 1 (.loc 1 0::tp 53 (.b true::tp 44 []))), [(.box [(.y p0.Kind), (.y p0.Op), (.s p0.Var), (.s p0.Name), (.y p0.Val.Kind), (.i p0.Val.N), (.u p0.Val.Bits), (.s p0.Val.Text)]), (.box [(.y 0), (.i 0), (.u 0), (.s ([] : List UInt8))])], 0⟩ <| AWP.if_ true (by kernel_rfl) <| Sx <| Wm (.i 4) rfl <| Nn <| Rt <| Tr ?_
  obtain rfl := Option.some.inj hm
  exact ret_i []
 refine AWP.cutJ (α := Bool) (fun x => match x with | y4_2 => (⟨tp 1 (.loc 0 0::tp 1 (.loc 1 0::.b y4_2::tp 97 [])), [(.box [(.y p0.Kind), (.y p0.Op), (.s p0.Var), (.s p0.Name), (.y p0.Val.Kind), (.i p0.Val.N), (.u p0.Val.Bits), (.s p0.Val.Text)]), (.box [(.y 0), (.i 0), (.u 0), (.s ([] : List UInt8))])], 0⟩ : St)) (fun x => match x with | y4_2 => m_telltaleref11_needs_j2 p0 y4_2 = some r) ?_ (fun J2 => ?_)
 ·
  rintro y4_2 hm
  try dsimp only at hm ⊢
  unfold m_telltaleref11_needs_j2 at hm
  refine Sq <| Sx <| Wm (.b y4_2) rfl <| Nk 144115188075855882 3 ⟨tp 1 (.loc 0 0::tp 1 (.loc 1 0::tp 53 (.b y4_2::tp 44 []))), [(.box [(.y p0.Kind), (.y p0.Op), (.s p0.Var), (.s p0.Name), (.y p0.Val.Kind), (.i p0.Val.N), (.u p0.Val.Bits), (.s p0.Val.Text)]), (.box [(.y 0), (.i 0), (.u 0), (.s ([] : List UInt8))])], 0⟩ ?_
  rcases tf_ y4_2 with hc57_12 | hc57_12
  ·
   replace hm := cT hc57_12 hm
   refine AiT hc57_12 <| Sx <| Wm (.i 4) rfl <| Nn <| Rt <| Tr ?_
   obtain rfl := Option.some.inj hm
   exact ret_i []
  ·
   replace hm := cF hc57_12 hm
   refine AiF hc57_12 <| Sk <| Tk 10 3 ⟨tp 1 (.loc 0 0::tp 1 (.loc 1 0::tp 98 [])), [(.box [(.y p0.Kind), (.y p0.Op), (.s p0.Var), (.s p0.Name), (.y p0.Val.Kind), (.i p0.Val.N), (.u p0.Val.Bits), (.s p0.Val.Text)]), (.box [(.y 0), (.i 0), (.u 0), (.s ([] : List UInt8))])], 0⟩ <| Sq ?_
   refine AWP.cutJ (α := Unit) (fun x => match x with | () => (⟨tp 101 (.b true::[]), [], 0⟩ : St)) (fun x => match x with | () => m_telltaleref11_needs_j5  = some r) ?_ (fun J5 => ?_)
   ·
    rintro ⟨⟩ hm
    try dsimp only at hm ⊢
    unfold m_telltaleref11_needs_j5 at hm
    refine AWP.if_ true (by kernel_rfl) <| Sx <| Wm (.i 2) rfl <| Nn <| Rt <| Tr ?_
    obtain rfl := Option.some.inj hm
    exact ret_i []
   refine AWP.cutJ (α := Bool) (fun x => match x with | y101_6 => (⟨tp 101 (.b y101_6::[]), [], 0⟩ : St)) (fun x => match x with | y101_6 => m_telltaleref11_needs_j6  y101_6 = some r) ?_ (fun J6 => ?_)
   ·
    rintro y101_6 hm
    try dsimp only at hm ⊢
    unfold m_telltaleref11_needs_j6 at hm
    rcases tf_ y101_6 with hc101_6 | hc101_6
    ·
     replace hm := cT hc101_6 hm
     refine AiT hc101_6 <| Sx <| Wm (.i 2) rfl <| Nn <| Rt <| Tr ?_
     obtain rfl := Option.some.inj hm
     exact ret_i []
    ·
     replace hm := cF hc101_6 hm
     refine AiF hc101_6 <| Sk <| Tk 0 0 ⟨tp 102 [], [], 0⟩ <| Sx <| Wm (.i 0) rfl <| Nn <| Rt ?_
     obtain rfl := Option.some.inj hm
     exact ret_i []
   refine AWP.cutJ (α := Unit) (fun x => match x with | () => (⟨tp 101 (.b false::[]), [], 0⟩ : St)) (fun x => match x with | () => m_telltaleref11_needs_j7  = some r) ?_ (fun J7 => ?_)
   ·
    rintro ⟨⟩ hm
    try dsimp only at hm ⊢
    unfold m_telltaleref11_needs_j7 at hm
    refine AWP.if_ false (by kernel_rfl) <| Sk <| Tk 0 0 ⟨tp 102 [], [], 0⟩ <| Sx <| Wm (.i 0) rfl <| Nn <| Rt ?_
    obtain rfl := Option.some.inj hm
    exact ret_i []
   refine Sx <| Wz (.loc 0 0) (Ofa rfl) <| Wz (.y p0.Kind) (Old rfl) <| Wz (.b (decide (((p0.Kind.toNat : Nat) : Int) ≠ 4))) (Ob2 (.int .u8 ((p0.Kind.toNat : Nat) : Int)) (.int .u8 4) rfl (fun _ => hb_neq)) ?_
   rcases tf_ (decide (((p0.Kind.toNat : Nat) : Int) ≠ 4)) with hq61_4 | hq61_4
   ·
    replace hm := cT hq61_4 hm
    refine Wz (.b true) (Oq hq61_4 rfl) <| Wz (.loc 0 1) (Ofa rfl) <| Wz (.y p0.Op) (Old rfl) <| Wz (.b (decide (((p0.Op.toNat : Nat) : Int) ≠ 0))) (Ob2 (.int .u8 ((p0.Op.toNat : Nat) : Int)) (.int .u8 0) rfl (fun _ => hb_neq)) <| Wz (.b (decide (((p0.Op.toNat : Nat) : Int) ≠ 0))) (OpT rfl) ?_
    rcases tf_ (decide (((p0.Op.toNat : Nat) : Int) ≠ 0)) with hq66_4 | hq66_4
    ·
     replace hm := cT hq66_4 hm
     refine Wz (.b true) (Oq hq66_4 rfl) <| Wn <| Wn <| Wn <| Wn <| Wn <| Wn <| Wn <| Wn <| Wn <| Wn <| Wn <| Wn <| Wn ?_
     refine Wz (.b true) (OpT rfl) <| Wm (.b true) rfl <| Wn <| Wn <| Wn <| Wn <| Wn <| Wn <| Wn <| Wn <| Wz (.b true) (OpT rfl) <| Wm (.b true) rfl <| Wn <| Wn ?_
     refine Wn <| Wn <| Wn <| Wn <| Wn <| Wn <| Wn <| Wz (.b true) (OpT rfl) <| Nn ?_
     exact AWP.weak (Weak.toK 2535301200456458802993406410752 0 0 []) (J5 () hm)
    ·
     replace hm := cF hq66_4 hm
     refine Wz (.b false) (Oq hq66_4 rfl) <| Wz (.loc 0 0) (Ofa rfl) <| Wz (.y p0.Kind) (Old rfl) <| Wz (.b (decide (((p0.Kind.toNat : Nat) : Int) ≠ 7))) (Ob2 (.int .u8 ((p0.Kind.toNat : Nat) : Int)) (.int .u8 7) rfl (fun _ => hb_neq)) ?_
     rcases tf_ (decide (((p0.Kind.toNat : Nat) : Int) ≠ 7)) with hq70_4 | hq70_4
     ·
      replace hm := cT hq70_4 hm
      refine Wz (.b true) (Oq hq70_4 rfl) <| Wz (.loc 0 0) (Ofa rfl) <| Wz (.y p0.Kind) (Old rfl) <| Wz (.b (decide (((p0.Kind.toNat : Nat) : Int) ≠ 8))) (Ob2 (.int .u8 ((p0.Kind.toNat : Nat) : Int)) (.int .u8 8) rfl (fun _ => hb_neq)) <| Wz (.b (decide (((p0.Kind.toNat : Nat) : Int) ≠ 8))) (OpT rfl) ?_
      rcases tf_ (decide (((p0.Kind.toNat : Nat) : Int) ≠ 8)) with hq75_4 | hq75_4
      ·
       replace hm := cT hq75_4 hm
       refine Wz (.b true) (Oq hq75_4 rfl) <| Wz (.loc 0 3) (Ofa rfl) <| Wz (.s p0.Name) (Old rfl) <| Wz (.b (decide (p0.Name ≠ ([] : List UInt8)))) (Ocs (lit_tf (by simp only [toS_inj, ne_eq])) (op_bin rfl (a1 := .string (toS p0.Name)) (a2 := .string (toS ([] : List UInt8))) (by kernel_rfl) (by kernel_rfl) (fun _ => hb_sneq))) <| Wz (.b (decide (p0.Name ≠ ([] : List UInt8)))) (OpT rfl) <| Wz (.b (decide (p0.Name ≠ ([] : List UInt8)))) (OpF rfl) ?_
       rcases tf_ (decide (p0.Name ≠ ([] : List UInt8))) with hq81_4 | hq81_4
       ·
        replace hm := cT hq81_4 hm
        refine Wz (.b true) (Oq hq81_4 rfl) <| Wn <| Wn <| Wn <| Wn <| Wn <| Wn <| Wn <| Wn <| Wz (.b true) (OpT rfl) <| Wm (.b true) rfl <| Wn <| Wn <| Wn ?_
        refine Wn <| Wn <| Wn <| Wn <| Wn <| Wn <| Wz (.b true) (OpT rfl) <| Nn ?_
        exact AWP.weak (Weak.toK 2535301200456458802993406410752 0 0 []) (J5 () hm)
       ·
        replace hm := cF hq81_4 hm
        refine Wz (.b false) (Oq hq81_4 rfl) <| Wz (.loc 0 0) (Ofa rfl) <| Wz (.y p0.Kind) (Old rfl) <| Wz (.b (decide (((p0.Kind.toNat : Nat) : Int) ≠ 8))) (Ob2 (.int .u8 ((p0.Kind.toNat : Nat) : Int)) (.int .u8 8) rfl (fun _ => hb_neq)) ?_
        rcases tf_ (decide (((p0.Kind.toNat : Nat) : Int) ≠ 8)) with hq85_4 | hq85_4
        ·
         replace hm := cT hq85_4 hm
         refine Wz (.b true) (Oq hq85_4 rfl) <| Wz (.loc 0 2) (Ofa rfl) <| Wz (.s p0.Var) (Old rfl) <| Wz (.b (decide (p0.Var ≠ ([] : List UInt8)))) (Ocs (lit_tf (by simp only [toS_inj, ne_eq])) (op_bin rfl (a1 := .string (toS p0.Var)) (a2 := .string (toS ([] : List UInt8))) (by kernel_rfl) (by kernel_rfl) (fun _ => hb_sneq))) <| Wz (.b (decide (p0.Var ≠ ([] : List UInt8)))) (OpT rfl) <| Wz (.b (decide (p0.Var ≠ ([] : List UInt8)))) (OpF rfl) ?_
         rcases tf_ (decide (p0.Var ≠ ([] : List UInt8))) with hq91_4 | hq91_4
         ·
          replace hm := cT hq91_4 hm
          refine Wz (.b true) (Oq hq91_4 rfl) <| Wn <| Wn <| Wn <| Wn <| Wn <| Wn <| Wn <| Wn <| Wn <| Wz (.b true) (OpT rfl) <| Nn ?_
          exact AWP.weak (Weak.toK 2535301200456458802993406410752 0 0 []) (J5 () hm)
         ·
          replace hm := cF hq91_4 hm
          refine Wz (.b false) (Oq hq91_4 rfl) <| Wz (.loc 0 0) (Ofa rfl) <| Wz (.y p0.Kind) (Old rfl) <| Wz (.b (decide (((p0.Kind.toNat : Nat) : Int) ≠ 9))) (Ob2 (.int .u8 ((p0.Kind.toNat : Nat) : Int)) (.int .u8 9) rfl (fun _ => hb_neq)) ?_
          rcases tf_ (decide (((p0.Kind.toNat : Nat) : Int) ≠ 9)) with hq95_4 | hq95_4
          ·
           replace hm := cT hq95_4 hm
           refine Wz (.b true) (Oq hq95_4 rfl) <| Wz (.loc 0 4) (Ofa rfl) <| Wz (.agg [(.y p0.Val.Kind), (.i p0.Val.N), (.u p0.Val.Bits), (.s p0.Val.Text)]) (Old rfl) <| Wz (.agg [(.y 0), (.i 0), (.u 0), (.s ([] : List UInt8))]) (Old rfl) ?_
           obtain ⟨v99_4, hv99_4, hm⟩ := bnd hm; replace hv99_4 := Option.some.inj hv99_4
           refine Wz (.b v99_4) (Ocs (Eq.trans (lit_tf (by simp only [toS_inj])) (congrArg (fun z => A.d (.lit (.bool z))) hv99_4)) (op_neq_struct rfl (la := [(.y p0.Val.Kind), (.i p0.Val.N), (.u p0.Val.Bits), (.s p0.Val.Text)]) (lb := [(.y 0), (.i 0), (.u 0), (.s ([] : List UInt8))]) (us := [.int .u8 ((p0.Val.Kind.toNat : Nat) : Int), .int .i64 p0.Val.N, .int .u64 p0.Val.Bits, .string (toS p0.Val.Text)]) (vs := [.int .u8 0, .int .i64 0, .int .u64 0, .string (toS ([] : List UInt8))]) (r := (decide (((p0.Val.Kind.toNat : Nat) : Int) = 0) && (decide (p0.Val.N = 0) && (decide (p0.Val.Bits = 0) && (decide ((toS p0.Val.Text) = (toS ([] : List UInt8))) && true))))) (by kernel_rfl) (by kernel_rfl) (by kernel_rfl) (by kernel_rfl) (by kernel_rfl))) <| Wz (.b v99_4) (OpT rfl) <| Wz (.b v99_4) (OpF rfl) <| Nn ?_
           exact AWP.weak (Weak.toK 2535301200456458802993406410752 0 0 []) (J6 (v99_4) hm)
          ·
           replace hm := cF hq95_4 hm
           refine Wz (.b false) (Oq hq95_4 rfl) <| Wn <| Wn <| Wn <| Wn <| Wz (.b false) (OpF rfl) <| Wz (.b false) (OpF rfl) <| Nn ?_
           exact AWP.weak (Weak.toK 2535301200456458802993406410752 0 0 []) (J7 () hm)
        ·
         replace hm := cF hq85_4 hm
         refine Wz (.b false) (Oq hq85_4 rfl) <| Wn <| Wn <| Wn <| Wz (.b false) (OpF rfl) <| Wz (.b false) (OpF rfl) <| Wm (.b false) rfl <| Wz (.loc 0 0) (Ofa rfl) <| Wz (.y p0.Kind) (Old rfl) <| Wz (.b (decide (((p0.Kind.toNat : Nat) : Int) ≠ 9))) (Ob2 (.int .u8 ((p0.Kind.toNat : Nat) : Int)) (.int .u8 9) rfl (fun _ => hb_neq)) ?_
         rcases tf_ (decide (((p0.Kind.toNat : Nat) : Int) ≠ 9)) with hq95_4 | hq95_4
         ·
          replace hm := cT hq95_4 hm
          refine Wz (.b true) (Oq hq95_4 rfl) <| Wz (.loc 0 4) (Ofa rfl) <| Wz (.agg [(.y p0.Val.Kind), (.i p0.Val.N), (.u p0.Val.Bits), (.s p0.Val.Text)]) (Old rfl) <| Wz (.agg [(.y 0), (.i 0), (.u 0), (.s ([] : List UInt8))]) (Old rfl) ?_
          obtain ⟨v99_4, hv99_4, hm⟩ := bnd hm; replace hv99_4 := Option.some.inj hv99_4
          refine Wz (.b v99_4) (Ocs (Eq.trans (lit_tf (by simp only [toS_inj])) (congrArg (fun z => A.d (.lit (.bool z))) hv99_4)) (op_neq_struct rfl (la := [(.y p0.Val.Kind), (.i p0.Val.N), (.u p0.Val.Bits), (.s p0.Val.Text)]) (lb := [(.y 0), (.i 0), (.u 0), (.s ([] : List UInt8))]) (us := [.int .u8 ((p0.Val.Kind.toNat : Nat) : Int), .int .i64 p0.Val.N, .int .u64 p0.Val.Bits, .string (toS p0.Val.Text)]) (vs := [.int .u8 0, .int .i64 0, .int .u64 0, .string (toS ([] : List UInt8))]) (r := (decide (((p0.Val.Kind.toNat : Nat) : Int) = 0) && (decide (p0.Val.N = 0) && (decide (p0.Val.Bits = 0) && (decide ((toS p0.Val.Text) = (toS ([] : List UInt8))) && true))))) (by kernel_rfl) (by kernel_rfl) (by kernel_rfl) (by kernel_rfl) (by kernel_rfl))) <| Wz (.b v99_4) (OpT rfl) <| Wz (.b v99_4) (OpF rfl) <| Nn ?_
          exact AWP.weak (Weak.toK 2535301200456458802993406410752 0 0 []) (J6 (v99_4) hm)
         ·
          replace hm := cF hq95_4 hm
          refine Wz (.b false) (Oq hq95_4 rfl) <| Wn <| Wn <| Wn <| Wn <| Wz (.b false) (OpF rfl) <| Wz (.b false) (OpF rfl) <| Nn ?_
          exact AWP.weak (Weak.toK 2535301200456458802993406410752 0 0 []) (J7 () hm)
      ·
       replace hm := cF hq75_4 hm
       refine Wz (.b false) (Oq hq75_4 rfl) <| Wn <| Wn <| Wn <| Wz (.b false) (OpF rfl) <| Wz (.b false) (OpF rfl) <| Wm (.b false) rfl <| Wz (.loc 0 0) (Ofa rfl) <| Wz (.y p0.Kind) (Old rfl) <| Wz (.b (decide (((p0.Kind.toNat : Nat) : Int) ≠ 8))) (Ob2 (.int .u8 ((p0.Kind.toNat : Nat) : Int)) (.int .u8 8) rfl (fun _ => hb_neq)) ?_
       rcases tf_ (decide (((p0.Kind.toNat : Nat) : Int) ≠ 8)) with hq85_4 | hq85_4
       ·
        replace hm := cT hq85_4 hm
        refine Wz (.b true) (Oq hq85_4 rfl) <| Wz (.loc 0 2) (Ofa rfl) <| Wz (.s p0.Var) (Old rfl) <| Wz (.b (decide (p0.Var ≠ ([] : List UInt8)))) (Ocs (lit_tf (by simp only [toS_inj, ne_eq])) (op_bin rfl (a1 := .string (toS p0.Var)) (a2 := .string (toS ([] : List UInt8))) (by kernel_rfl) (by kernel_rfl) (fun _ => hb_sneq))) <| Wz (.b (decide (p0.Var ≠ ([] : List UInt8)))) (OpT rfl) <| Wz (.b (decide (p0.Var ≠ ([] : List UInt8)))) (OpF rfl) ?_
        rcases tf_ (decide (p0.Var ≠ ([] : List UInt8))) with hq91_4 | hq91_4
        ·
         replace hm := cT hq91_4 hm
         refine Wz (.b true) (Oq hq91_4 rfl) <| Wn <| Wn <| Wn <| Wn <| Wn <| Wn <| Wn <| Wn <| Wn <| Wz (.b true) (OpT rfl) <| Nn ?_
         exact AWP.weak (Weak.toK 2535301200456458802993406410752 0 0 []) (J5 () hm)
        ·
         replace hm := cF hq91_4 hm
         refine Wz (.b false) (Oq hq91_4 rfl) <| Wz (.loc 0 0) (Ofa rfl) <| Wz (.y p0.Kind) (Old rfl) <| Wz (.b (decide (((p0.Kind.toNat : Nat) : Int) ≠ 9))) (Ob2 (.int .u8 ((p0.Kind.toNat : Nat) : Int)) (.int .u8 9) rfl (fun _ => hb_neq)) ?_
         rcases tf_ (decide (((p0.Kind.toNat : Nat) : Int) ≠ 9)) with hq95_4 | hq95_4
         ·
          replace hm := cT hq95_4 hm
          refine Wz (.b true) (Oq hq95_4 rfl) <| Wz (.loc 0 4) (Ofa rfl) <| Wz (.agg [(.y p0.Val.Kind), (.i p0.Val.N), (.u p0.Val.Bits), (.s p0.Val.Text)]) (Old rfl) <| Wz (.agg [(.y 0), (.i 0), (.u 0), (.s ([] : List UInt8))]) (Old rfl) ?_
          obtain ⟨v99_4, hv99_4, hm⟩ := bnd hm; replace hv99_4 := Option.some.inj hv99_4
          refine Wz (.b v99_4) (Ocs (Eq.trans (lit_tf (by simp only [toS_inj])) (congrArg (fun z => A.d (.lit (.bool z))) hv99_4)) (op_neq_struct rfl (la := [(.y p0.Val.Kind), (.i p0.Val.N), (.u p0.Val.Bits), (.s p0.Val.Text)]) (lb := [(.y 0), (.i 0), (.u 0), (.s ([] : List UInt8))]) (us := [.int .u8 ((p0.Val.Kind.toNat : Nat) : Int), .int .i64 p0.Val.N, .int .u64 p0.Val.Bits, .string (toS p0.Val.Text)]) (vs := [.int .u8 0, .int .i64 0, .int .u64 0, .string (toS ([] : List UInt8))]) (r := (decide (((p0.Val.Kind.toNat : Nat) : Int) = 0) && (decide (p0.Val.N = 0) && (decide (p0.Val.Bits = 0) && (decide ((toS p0.Val.Text) = (toS ([] : List UInt8))) && true))))) (by kernel_rfl) (by kernel_rfl) (by kernel_rfl) (by kernel_rfl) (by kernel_rfl))) <| Wz (.b v99_4) (OpT rfl) <| Wz (.b v99_4) (OpF rfl) <| Nn ?_
          exact AWP.weak (Weak.toK 2535301200456458802993406410752 0 0 []) (J6 (v99_4) hm)
         ·
          replace hm := cF hq95_4 hm
          refine Wz (.b false) (Oq hq95_4 rfl) <| Wn <| Wn <| Wn <| Wn <| Wz (.b false) (OpF rfl) <| Wz (.b false) (OpF rfl) <| Nn ?_
          exact AWP.weak (Weak.toK 2535301200456458802993406410752 0 0 []) (J7 () hm)
       ·
        replace hm := cF hq85_4 hm
        refine Wz (.b false) (Oq hq85_4 rfl) <| Wn <| Wn <| Wn <| Wz (.b false) (OpF rfl) <| Wz (.b false) (OpF rfl) <| Wm (.b false) rfl <| Wz (.loc 0 0) (Ofa rfl) <| Wz (.y p0.Kind) (Old rfl) <| Wz (.b (decide (((p0.Kind.toNat : Nat) : Int) ≠ 9))) (Ob2 (.int .u8 ((p0.Kind.toNat : Nat) : Int)) (.int .u8 9) rfl (fun _ => hb_neq)) ?_
        rcases tf_ (decide (((p0.Kind.toNat : Nat) : Int) ≠ 9)) with hq95_4 | hq95_4
        ·
         replace hm := cT hq95_4 hm
         refine Wz (.b true) (Oq hq95_4 rfl) <| Wz (.loc 0 4) (Ofa rfl) <| Wz (.agg [(.y p0.Val.Kind), (.i p0.Val.N), (.u p0.Val.Bits), (.s p0.Val.Text)]) (Old rfl) <| Wz (.agg [(.y 0), (.i 0), (.u 0), (.s ([] : List UInt8))]) (Old rfl) ?_
         obtain ⟨v99_4, hv99_4, hm⟩ := bnd hm; replace hv99_4 := Option.some.inj hv99_4
         refine Wz (.b v99_4) (Ocs (Eq.trans (lit_tf (by simp only [toS_inj])) (congrArg (fun z => A.d (.lit (.bool z))) hv99_4)) (op_neq_struct rfl (la := [(.y p0.Val.Kind), (.i p0.Val.N), (.u p0.Val.Bits), (.s p0.Val.Text)]) (lb := [(.y 0), (.i 0), (.u 0), (.s ([] : List UInt8))]) (us := [.int .u8 ((p0.Val.Kind.toNat : Nat) : Int), .int .i64 p0.Val.N, .int .u64 p0.Val.Bits, .string (toS p0.Val.Text)]) (vs := [.int .u8 0, .int .i64 0, .int .u64 0, .string (toS ([] : List UInt8))]) (r := (decide (((p0.Val.Kind.toNat : Nat) : Int) = 0) && (decide (p0.Val.N = 0) && (decide (p0.Val.Bits = 0) && (decide ((toS p0.Val.Text) = (toS ([] : List UInt8))) && true))))) (by kernel_rfl) (by kernel_rfl) (by kernel_rfl) (by kernel_rfl) (by kernel_rfl))) <| Wz (.b v99_4) (OpT rfl) <| Wz (.b v99_4) (OpF rfl) <| Nn ?_
         exact AWP.weak (Weak.toK 2535301200456458802993406410752 0 0 []) (J6 (v99_4) hm)
        ·
         replace hm := cF hq95_4 hm
         refine Wz (.b false) (Oq hq95_4 rfl) <| Wn <| Wn <| Wn <| Wn <| Wz (.b false) (OpF rfl) <| Wz (.b false) (OpF rfl) <| Nn ?_
         exact AWP.weak (Weak.toK 2535301200456458802993406410752 0 0 []) (J7 () hm)
     ·
      replace hm := cF hq70_4 hm
      refine Wz (.b false) (Oq hq70_4 rfl) <| Wn <| Wn <| Wn <| Wz (.b false) (OpF rfl) <| Wm (.b false) rfl <| Wn <| Wn <| Wn <| Wz (.b false) (OpF rfl) <| Wz (.b false) (OpF rfl) <| Wm (.b false) rfl <| Wz (.loc 0 0) (Ofa rfl) <| Wz (.y p0.Kind) (Old rfl) ?_
      refine Wz (.b (decide (((p0.Kind.toNat : Nat) : Int) ≠ 8))) (Ob2 (.int .u8 ((p0.Kind.toNat : Nat) : Int)) (.int .u8 8) rfl (fun _ => hb_neq)) ?_
      rcases tf_ (decide (((p0.Kind.toNat : Nat) : Int) ≠ 8)) with hq85_4 | hq85_4
      ·
       replace hm := cT hq85_4 hm
       refine Wz (.b true) (Oq hq85_4 rfl) <| Wz (.loc 0 2) (Ofa rfl) <| Wz (.s p0.Var) (Old rfl) <| Wz (.b (decide (p0.Var ≠ ([] : List UInt8)))) (Ocs (lit_tf (by simp only [toS_inj, ne_eq])) (op_bin rfl (a1 := .string (toS p0.Var)) (a2 := .string (toS ([] : List UInt8))) (by kernel_rfl) (by kernel_rfl) (fun _ => hb_sneq))) <| Wz (.b (decide (p0.Var ≠ ([] : List UInt8)))) (OpT rfl) <| Wz (.b (decide (p0.Var ≠ ([] : List UInt8)))) (OpF rfl) ?_
       rcases tf_ (decide (p0.Var ≠ ([] : List UInt8))) with hq91_4 | hq91_4
       ·
        replace hm := cT hq91_4 hm
        refine Wz (.b true) (Oq hq91_4 rfl) <| Wn <| Wn <| Wn <| Wn <| Wn <| Wn <| Wn <| Wn <| Wn <| Wz (.b true) (OpT rfl) <| Nn ?_
        exact AWP.weak (Weak.toK 2535301200456458802993406410752 0 0 []) (J5 () hm)
       ·
        replace hm := cF hq91_4 hm
        refine Wz (.b false) (Oq hq91_4 rfl) <| Wz (.loc 0 0) (Ofa rfl) <| Wz (.y p0.Kind) (Old rfl) <| Wz (.b (decide (((p0.Kind.toNat : Nat) : Int) ≠ 9))) (Ob2 (.int .u8 ((p0.Kind.toNat : Nat) : Int)) (.int .u8 9) rfl (fun _ => hb_neq)) ?_
        rcases tf_ (decide (((p0.Kind.toNat : Nat) : Int) ≠ 9)) with hq95_4 | hq95_4
        ·
         replace hm := cT hq95_4 hm
         refine Wz (.b true) (Oq hq95_4 rfl) <| Wz (.loc 0 4) (Ofa rfl) <| Wz (.agg [(.y p0.Val.Kind), (.i p0.Val.N), (.u p0.Val.Bits), (.s p0.Val.Text)]) (Old rfl) <| Wz (.agg [(.y 0), (.i 0), (.u 0), (.s ([] : List UInt8))]) (Old rfl) ?_
         obtain ⟨v99_4, hv99_4, hm⟩ := bnd hm; replace hv99_4 := Option.some.inj hv99_4
         refine Wz (.b v99_4) (Ocs (Eq.trans (lit_tf (by simp only [toS_inj])) (congrArg (fun z => A.d (.lit (.bool z))) hv99_4)) (op_neq_struct rfl (la := [(.y p0.Val.Kind), (.i p0.Val.N), (.u p0.Val.Bits), (.s p0.Val.Text)]) (lb := [(.y 0), (.i 0), (.u 0), (.s ([] : List UInt8))]) (us := [.int .u8 ((p0.Val.Kind.toNat : Nat) : Int), .int .i64 p0.Val.N, .int .u64 p0.Val.Bits, .string (toS p0.Val.Text)]) (vs := [.int .u8 0, .int .i64 0, .int .u64 0, .string (toS ([] : List UInt8))]) (r := (decide (((p0.Val.Kind.toNat : Nat) : Int) = 0) && (decide (p0.Val.N = 0) && (decide (p0.Val.Bits = 0) && (decide ((toS p0.Val.Text) = (toS ([] : List UInt8))) && true))))) (by kernel_rfl) (by kernel_rfl) (by kernel_rfl) (by kernel_rfl) (by kernel_rfl))) <| Wz (.b v99_4) (OpT rfl) <| Wz (.b v99_4) (OpF rfl) <| Nn ?_
         exact AWP.weak (Weak.toK 2535301200456458802993406410752 0 0 []) (J6 (v99_4) hm)
        ·
         replace hm := cF hq95_4 hm
         refine Wz (.b false) (Oq hq95_4 rfl) <| Wn <| Wn <| Wn <| Wn <| Wz (.b false) (OpF rfl) <| Wz (.b false) (OpF rfl) <| Nn ?_
         exact AWP.weak (Weak.toK 2535301200456458802993406410752 0 0 []) (J7 () hm)
      ·
       replace hm := cF hq85_4 hm
       refine Wz (.b false) (Oq hq85_4 rfl) <| Wn <| Wn <| Wn <| Wz (.b false) (OpF rfl) <| Wz (.b false) (OpF rfl) <| Wm (.b false) rfl <| Wz (.loc 0 0) (Ofa rfl) <| Wz (.y p0.Kind) (Old rfl) <| Wz (.b (decide (((p0.Kind.toNat : Nat) : Int) ≠ 9))) (Ob2 (.int .u8 ((p0.Kind.toNat : Nat) : Int)) (.int .u8 9) rfl (fun _ => hb_neq)) ?_
       rcases tf_ (decide (((p0.Kind.toNat : Nat) : Int) ≠ 9)) with hq95_4 | hq95_4
       ·
        replace hm := cT hq95_4 hm
        refine Wz (.b true) (Oq hq95_4 rfl) <| Wz (.loc 0 4) (Ofa rfl) <| Wz (.agg [(.y p0.Val.Kind), (.i p0.Val.N), (.u p0.Val.Bits), (.s p0.Val.Text)]) (Old rfl) <| Wz (.agg [(.y 0), (.i 0), (.u 0), (.s ([] : List UInt8))]) (Old rfl) ?_
        obtain ⟨v99_4, hv99_4, hm⟩ := bnd hm; replace hv99_4 := Option.some.inj hv99_4
        refine Wz (.b v99_4) (Ocs (Eq.trans (lit_tf (by simp only [toS_inj])) (congrArg (fun z => A.d (.lit (.bool z))) hv99_4)) (op_neq_struct rfl (la := [(.y p0.Val.Kind), (.i p0.Val.N), (.u p0.Val.Bits), (.s p0.Val.Text)]) (lb := [(.y 0), (.i 0), (.u 0), (.s ([] : List UInt8))]) (us := [.int .u8 ((p0.Val.Kind.toNat : Nat) : Int), .int .i64 p0.Val.N, .int .u64 p0.Val.Bits, .string (toS p0.Val.Text)]) (vs := [.int .u8 0, .int .i64 0, .int .u64 0, .string (toS ([] : List UInt8))]) (r := (decide (((p0.Val.Kind.toNat : Nat) : Int) = 0) && (decide (p0.Val.N = 0) && (decide (p0.Val.Bits = 0) && (decide ((toS p0.Val.Text) = (toS ([] : List UInt8))) && true))))) (by kernel_rfl) (by kernel_rfl) (by kernel_rfl) (by kernel_rfl) (by kernel_rfl))) <| Wz (.b v99_4) (OpT rfl) <| Wz (.b v99_4) (OpF rfl) <| Nn ?_
        exact AWP.weak (Weak.toK 2535301200456458802993406410752 0 0 []) (J6 (v99_4) hm)
       ·
        replace hm := cF hq95_4 hm
        refine Wz (.b false) (Oq hq95_4 rfl) <| Wn <| Wn <| Wn <| Wn <| Wz (.b false) (OpF rfl) <| Wz (.b false) (OpF rfl) <| Nn ?_
        exact AWP.weak (Weak.toK 2535301200456458802993406410752 0 0 []) (J7 () hm)
   ·
    replace hm := cF hq61_4 hm
    refine Wz (.b false) (Oq hq61_4 rfl) <| Wn <| Wn <| Wn <| Wz (.b false) (OpF rfl) <| Wm (.b false) rfl <| Wz (.loc 0 0) (Ofa rfl) <| Wz (.y p0.Kind) (Old rfl) <| Wz (.b (decide (((p0.Kind.toNat : Nat) : Int) ≠ 7))) (Ob2 (.int .u8 ((p0.Kind.toNat : Nat) : Int)) (.int .u8 7) rfl (fun _ => hb_neq)) ?_
    rcases tf_ (decide (((p0.Kind.toNat : Nat) : Int) ≠ 7)) with hq70_4 | hq70_4
    ·
     replace hm := cT hq70_4 hm
     refine Wz (.b true) (Oq hq70_4 rfl) <| Wz (.loc 0 0) (Ofa rfl) <| Wz (.y p0.Kind) (Old rfl) <| Wz (.b (decide (((p0.Kind.toNat : Nat) : Int) ≠ 8))) (Ob2 (.int .u8 ((p0.Kind.toNat : Nat) : Int)) (.int .u8 8) rfl (fun _ => hb_neq)) <| Wz (.b (decide (((p0.Kind.toNat : Nat) : Int) ≠ 8))) (OpT rfl) ?_
     rcases tf_ (decide (((p0.Kind.toNat : Nat) : Int) ≠ 8)) with hq75_4 | hq75_4
     ·
      replace hm := cT hq75_4 hm
      refine Wz (.b true) (Oq hq75_4 rfl) <| Wz (.loc 0 3) (Ofa rfl) <| Wz (.s p0.Name) (Old rfl) <| Wz (.b (decide (p0.Name ≠ ([] : List UInt8)))) (Ocs (lit_tf (by simp only [toS_inj, ne_eq])) (op_bin rfl (a1 := .string (toS p0.Name)) (a2 := .string (toS ([] : List UInt8))) (by kernel_rfl) (by kernel_rfl) (fun _ => hb_sneq))) <| Wz (.b (decide (p0.Name ≠ ([] : List UInt8)))) (OpT rfl) <| Wz (.b (decide (p0.Name ≠ ([] : List UInt8)))) (OpF rfl) ?_
      rcases tf_ (decide (p0.Name ≠ ([] : List UInt8))) with hq81_4 | hq81_4
      ·
       replace hm := cT hq81_4 hm
       refine Wz (.b true) (Oq hq81_4 rfl) <| Wn <| Wn <| Wn <| Wn <| Wn <| Wn <| Wn <| Wn <| Wz (.b true) (OpT rfl) <| Wm (.b true) rfl <| Wn <| Wn <| Wn ?_
       refine Wn <| Wn <| Wn <| Wn <| Wn <| Wn <| Wz (.b true) (OpT rfl) <| Nn ?_
       exact AWP.weak (Weak.toK 2535301200456458802993406410752 0 0 []) (J5 () hm)
      ·
       replace hm := cF hq81_4 hm
       refine Wz (.b false) (Oq hq81_4 rfl) <| Wz (.loc 0 0) (Ofa rfl) <| Wz (.y p0.Kind) (Old rfl) <| Wz (.b (decide (((p0.Kind.toNat : Nat) : Int) ≠ 8))) (Ob2 (.int .u8 ((p0.Kind.toNat : Nat) : Int)) (.int .u8 8) rfl (fun _ => hb_neq)) ?_
       rcases tf_ (decide (((p0.Kind.toNat : Nat) : Int) ≠ 8)) with hq85_4 | hq85_4
       ·
        replace hm := cT hq85_4 hm
        refine Wz (.b true) (Oq hq85_4 rfl) <| Wz (.loc 0 2) (Ofa rfl) <| Wz (.s p0.Var) (Old rfl) <| Wz (.b (decide (p0.Var ≠ ([] : List UInt8)))) (Ocs (lit_tf (by simp only [toS_inj, ne_eq])) (op_bin rfl (a1 := .string (toS p0.Var)) (a2 := .string (toS ([] : List UInt8))) (by kernel_rfl) (by kernel_rfl) (fun _ => hb_sneq))) <| Wz (.b (decide (p0.Var ≠ ([] : List UInt8)))) (OpT rfl) <| Wz (.b (decide (p0.Var ≠ ([] : List UInt8)))) (OpF rfl) ?_
        rcases tf_ (decide (p0.Var ≠ ([] : List UInt8))) with hq91_4 | hq91_4
        ·
         replace hm := cT hq91_4 hm
         refine Wz (.b true) (Oq hq91_4 rfl) <| Wn <| Wn <| Wn <| Wn <| Wn <| Wn <| Wn <| Wn <| Wn <| Wz (.b true) (OpT rfl) <| Nn ?_
         exact AWP.weak (Weak.toK 2535301200456458802993406410752 0 0 []) (J5 () hm)
        ·
         replace hm := cF hq91_4 hm
         refine Wz (.b false) (Oq hq91_4 rfl) <| Wz (.loc 0 0) (Ofa rfl) <| Wz (.y p0.Kind) (Old rfl) <| Wz (.b (decide (((p0.Kind.toNat : Nat) : Int) ≠ 9))) (Ob2 (.int .u8 ((p0.Kind.toNat : Nat) : Int)) (.int .u8 9) rfl (fun _ => hb_neq)) ?_
         rcases tf_ (decide (((p0.Kind.toNat : Nat) : Int) ≠ 9)) with hq95_4 | hq95_4
         ·
          replace hm := cT hq95_4 hm
          refine Wz (.b true) (Oq hq95_4 rfl) <| Wz (.loc 0 4) (Ofa rfl) <| Wz (.agg [(.y p0.Val.Kind), (.i p0.Val.N), (.u p0.Val.Bits), (.s p0.Val.Text)]) (Old rfl) <| Wz (.agg [(.y 0), (.i 0), (.u 0), (.s ([] : List UInt8))]) (Old rfl) ?_
          obtain ⟨v99_4, hv99_4, hm⟩ := bnd hm; replace hv99_4 := Option.some.inj hv99_4
          refine Wz (.b v99_4) (Ocs (Eq.trans (lit_tf (by simp only [toS_inj])) (congrArg (fun z => A.d (.lit (.bool z))) hv99_4)) (op_neq_struct rfl (la := [(.y p0.Val.Kind), (.i p0.Val.N), (.u p0.Val.Bits), (.s p0.Val.Text)]) (lb := [(.y 0), (.i 0), (.u 0), (.s ([] : List UInt8))]) (us := [.int .u8 ((p0.Val.Kind.toNat : Nat) : Int), .int .i64 p0.Val.N, .int .u64 p0.Val.Bits, .string (toS p0.Val.Text)]) (vs := [.int .u8 0, .int .i64 0, .int .u64 0, .string (toS ([] : List UInt8))]) (r := (decide (((p0.Val.Kind.toNat : Nat) : Int) = 0) && (decide (p0.Val.N = 0) && (decide (p0.Val.Bits = 0) && (decide ((toS p0.Val.Text) = (toS ([] : List UInt8))) && true))))) (by kernel_rfl) (by kernel_rfl) (by kernel_rfl) (by kernel_rfl) (by kernel_rfl))) <| Wz (.b v99_4) (OpT rfl) <| Wz (.b v99_4) (OpF rfl) <| Nn ?_
          exact AWP.weak (Weak.toK 2535301200456458802993406410752 0 0 []) (J6 (v99_4) hm)
         ·
          replace hm := cF hq95_4 hm
          refine Wz (.b false) (Oq hq95_4 rfl) <| Wn <| Wn <| Wn <| Wn <| Wz (.b false) (OpF rfl) <| Wz (.b false) (OpF rfl) <| Nn ?_
          exact AWP.weak (Weak.toK 2535301200456458802993406410752 0 0 []) (J7 () hm)
       ·
        replace hm := cF hq85_4 hm
        refine Wz (.b false) (Oq hq85_4 rfl) <| Wn <| Wn <| Wn <| Wz (.b false) (OpF rfl) <| Wz (.b false) (OpF rfl) <| Wm (.b false) rfl <| Wz (.loc 0 0) (Ofa rfl) <| Wz (.y p0.Kind) (Old rfl) <| Wz (.b (decide (((p0.Kind.toNat : Nat) : Int) ≠ 9))) (Ob2 (.int .u8 ((p0.Kind.toNat : Nat) : Int)) (.int .u8 9) rfl (fun _ => hb_neq)) ?_
        rcases tf_ (decide (((p0.Kind.toNat : Nat) : Int) ≠ 9)) with hq95_4 | hq95_4
        ·
         replace hm := cT hq95_4 hm
         refine Wz (.b true) (Oq hq95_4 rfl) <| Wz (.loc 0 4) (Ofa rfl) <| Wz (.agg [(.y p0.Val.Kind), (.i p0.Val.N), (.u p0.Val.Bits), (.s p0.Val.Text)]) (Old rfl) <| Wz (.agg [(.y 0), (.i 0), (.u 0), (.s ([] : List UInt8))]) (Old rfl) ?_
         obtain ⟨v99_4, hv99_4, hm⟩ := bnd hm; replace hv99_4 := Option.some.inj hv99_4
         refine Wz (.b v99_4) (Ocs (Eq.trans (lit_tf (by simp only [toS_inj])) (congrArg (fun z => A.d (.lit (.bool z))) hv99_4)) (op_neq_struct rfl (la := [(.y p0.Val.Kind), (.i p0.Val.N), (.u p0.Val.Bits), (.s p0.Val.Text)]) (lb := [(.y 0), (.i 0), (.u 0), (.s ([] : List UInt8))]) (us := [.int .u8 ((p0.Val.Kind.toNat : Nat) : Int), .int .i64 p0.Val.N, .int .u64 p0.Val.Bits, .string (toS p0.Val.Text)]) (vs := [.int .u8 0, .int .i64 0, .int .u64 0, .string (toS ([] : List UInt8))]) (r := (decide (((p0.Val.Kind.toNat : Nat) : Int) = 0) && (decide (p0.Val.N = 0) && (decide (p0.Val.Bits = 0) && (decide ((toS p0.Val.Text) = (toS ([] : List UInt8))) && true))))) (by kernel_rfl) (by kernel_rfl) (by kernel_rfl) (by kernel_rfl) (by kernel_rfl))) <| Wz (.b v99_4) (OpT rfl) <| Wz (.b v99_4) (OpF rfl) <| Nn ?_
         exact AWP.weak (Weak.toK 2535301200456458802993406410752 0 0 []) (J6 (v99_4) hm)
        ·
         replace hm := cF hq95_4 hm
         refine Wz (.b false) (Oq hq95_4 rfl) <| Wn <| Wn <| Wn <| Wn <| Wz (.b false) (OpF rfl) <| Wz (.b false) (OpF rfl) <| Nn ?_
         exact AWP.weak (Weak.toK 2535301200456458802993406410752 0 0 []) (J7 () hm)
     ·
      replace hm := cF hq75_4 hm
      refine Wz (.b false) (Oq hq75_4 rfl) <| Wn <| Wn <| Wn <| Wz (.b false) (OpF rfl) <| Wz (.b false) (OpF rfl) <| Wm (.b false) rfl <| Wz (.loc 0 0) (Ofa rfl) <| Wz (.y p0.Kind) (Old rfl) <| Wz (.b (decide (((p0.Kind.toNat : Nat) : Int) ≠ 8))) (Ob2 (.int .u8 ((p0.Kind.toNat : Nat) : Int)) (.int .u8 8) rfl (fun _ => hb_neq)) ?_
      rcases tf_ (decide (((p0.Kind.toNat : Nat) : Int) ≠ 8)) with hq85_4 | hq85_4
      ·
       replace hm := cT hq85_4 hm
       refine Wz (.b true) (Oq hq85_4 rfl) <| Wz (.loc 0 2) (Ofa rfl) <| Wz (.s p0.Var) (Old rfl) <| Wz (.b (decide (p0.Var ≠ ([] : List UInt8)))) (Ocs (lit_tf (by simp only [toS_inj, ne_eq])) (op_bin rfl (a1 := .string (toS p0.Var)) (a2 := .string (toS ([] : List UInt8))) (by kernel_rfl) (by kernel_rfl) (fun _ => hb_sneq))) <| Wz (.b (decide (p0.Var ≠ ([] : List UInt8)))) (OpT rfl) <| Wz (.b (decide (p0.Var ≠ ([] : List UInt8)))) (OpF rfl) ?_
       rcases tf_ (decide (p0.Var ≠ ([] : List UInt8))) with hq91_4 | hq91_4
       ·
        replace hm := cT hq91_4 hm
        refine Wz (.b true) (Oq hq91_4 rfl) <| Wn <| Wn <| Wn <| Wn <| Wn <| Wn <| Wn <| Wn <| Wn <| Wz (.b true) (OpT rfl) <| Nn ?_
        exact AWP.weak (Weak.toK 2535301200456458802993406410752 0 0 []) (J5 () hm)
       ·
        replace hm := cF hq91_4 hm
        refine Wz (.b false) (Oq hq91_4 rfl) <| Wz (.loc 0 0) (Ofa rfl) <| Wz (.y p0.Kind) (Old rfl) <| Wz (.b (decide (((p0.Kind.toNat : Nat) : Int) ≠ 9))) (Ob2 (.int .u8 ((p0.Kind.toNat : Nat) : Int)) (.int .u8 9) rfl (fun _ => hb_neq)) ?_
        rcases tf_ (decide (((p0.Kind.toNat : Nat) : Int) ≠ 9)) with hq95_4 | hq95_4
        ·
         replace hm := cT hq95_4 hm
         refine Wz (.b true) (Oq hq95_4 rfl) <| Wz (.loc 0 4) (Ofa rfl) <| Wz (.agg [(.y p0.Val.Kind), (.i p0.Val.N), (.u p0.Val.Bits), (.s p0.Val.Text)]) (Old rfl) <| Wz (.agg [(.y 0), (.i 0), (.u 0), (.s ([] : List UInt8))]) (Old rfl) ?_
         obtain ⟨v99_4, hv99_4, hm⟩ := bnd hm; replace hv99_4 := Option.some.inj hv99_4
         refine Wz (.b v99_4) (Ocs (Eq.trans (lit_tf (by simp only [toS_inj])) (congrArg (fun z => A.d (.lit (.bool z))) hv99_4)) (op_neq_struct rfl (la := [(.y p0.Val.Kind), (.i p0.Val.N), (.u p0.Val.Bits), (.s p0.Val.Text)]) (lb := [(.y 0), (.i 0), (.u 0), (.s ([] : List UInt8))]) (us := [.int .u8 ((p0.Val.Kind.toNat : Nat) : Int), .int .i64 p0.Val.N, .int .u64 p0.Val.Bits, .string (toS p0.Val.Text)]) (vs := [.int .u8 0, .int .i64 0, .int .u64 0, .string (toS ([] : List UInt8))]) (r := (decide (((p0.Val.Kind.toNat : Nat) : Int) = 0) && (decide (p0.Val.N = 0) && (decide (p0.Val.Bits = 0) && (decide ((toS p0.Val.Text) = (toS ([] : List UInt8))) && true))))) (by kernel_rfl) (by kernel_rfl) (by kernel_rfl) (by kernel_rfl) (by kernel_rfl))) <| Wz (.b v99_4) (OpT rfl) <| Wz (.b v99_4) (OpF rfl) <| Nn ?_
         exact AWP.weak (Weak.toK 2535301200456458802993406410752 0 0 []) (J6 (v99_4) hm)
        ·
         replace hm := cF hq95_4 hm
         refine Wz (.b false) (Oq hq95_4 rfl) <| Wn <| Wn <| Wn <| Wn <| Wz (.b false) (OpF rfl) <| Wz (.b false) (OpF rfl) <| Nn ?_
         exact AWP.weak (Weak.toK 2535301200456458802993406410752 0 0 []) (J7 () hm)
      ·
       replace hm := cF hq85_4 hm
       refine Wz (.b false) (Oq hq85_4 rfl) <| Wn <| Wn <| Wn <| Wz (.b false) (OpF rfl) <| Wz (.b false) (OpF rfl) <| Wm (.b false) rfl <| Wz (.loc 0 0) (Ofa rfl) <| Wz (.y p0.Kind) (Old rfl) <| Wz (.b (decide (((p0.Kind.toNat : Nat) : Int) ≠ 9))) (Ob2 (.int .u8 ((p0.Kind.toNat : Nat) : Int)) (.int .u8 9) rfl (fun _ => hb_neq)) ?_
       rcases tf_ (decide (((p0.Kind.toNat : Nat) : Int) ≠ 9)) with hq95_4 | hq95_4
       ·
        replace hm := cT hq95_4 hm
        refine Wz (.b true) (Oq hq95_4 rfl) <| Wz (.loc 0 4) (Ofa rfl) <| Wz (.agg [(.y p0.Val.Kind), (.i p0.Val.N), (.u p0.Val.Bits), (.s p0.Val.Text)]) (Old rfl) <| Wz (.agg [(.y 0), (.i 0), (.u 0), (.s ([] : List UInt8))]) (Old rfl) ?_
        obtain ⟨v99_4, hv99_4, hm⟩ := bnd hm; replace hv99_4 := Option.some.inj hv99_4
        refine Wz (.b v99_4) (Ocs (Eq.trans (lit_tf (by simp only [toS_inj])) (congrArg (fun z => A.d (.lit (.bool z))) hv99_4)) (op_neq_struct rfl (la := [(.y p0.Val.Kind), (.i p0.Val.N), (.u p0.Val.Bits), (.s p0.Val.Text)]) (lb := [(.y 0), (.i 0), (.u 0), (.s ([] : List UInt8))]) (us := [.int .u8 ((p0.Val.Kind.toNat : Nat) : Int), .int .i64 p0.Val.N, .int .u64 p0.Val.Bits, .string (toS p0.Val.Text)]) (vs := [.int .u8 0, .int .i64 0, .int .u64 0, .string (toS ([] : List UInt8))]) (r := (decide (((p0.Val.Kind.toNat : Nat) : Int) = 0) && (decide (p0.Val.N = 0) && (decide (p0.Val.Bits = 0) && (decide ((toS p0.Val.Text) = (toS ([] : List UInt8))) && true))))) (by kernel_rfl) (by kernel_rfl) (by kernel_rfl) (by kernel_rfl) (by kernel_rfl))) <| Wz (.b v99_4) (OpT rfl) <| Wz (.b v99_4) (OpF rfl) <| Nn ?_
        exact AWP.weak (Weak.toK 2535301200456458802993406410752 0 0 []) (J6 (v99_4) hm)
       ·
        replace hm := cF hq95_4 hm
        refine Wz (.b false) (Oq hq95_4 rfl) <| Wn <| Wn <| Wn <| Wn <| Wz (.b false) (OpF rfl) <| Wz (.b false) (OpF rfl) <| Nn ?_
        exact AWP.weak (Weak.toK 2535301200456458802993406410752 0 0 []) (J7 () hm)
    ·
     replace hm := cF hq70_4 hm
     refine Wz (.b false) (Oq hq70_4 rfl) <| Wn <| Wn <| Wn <| Wz (.b false) (OpF rfl) <| Wm (.b false) rfl <| Wn <| Wn <| Wn <| Wz (.b false) (OpF rfl) <| Wz (.b false) (OpF rfl) <| Wm (.b false) rfl <| Wz (.loc 0 0) (Ofa rfl) <| Wz (.y p0.Kind) (Old rfl) ?_
     refine Wz (.b (decide (((p0.Kind.toNat : Nat) : Int) ≠ 8))) (Ob2 (.int .u8 ((p0.Kind.toNat : Nat) : Int)) (.int .u8 8) rfl (fun _ => hb_neq)) ?_
     rcases tf_ (decide (((p0.Kind.toNat : Nat) : Int) ≠ 8)) with hq85_4 | hq85_4
     ·
      replace hm := cT hq85_4 hm
      refine Wz (.b true) (Oq hq85_4 rfl) <| Wz (.loc 0 2) (Ofa rfl) <| Wz (.s p0.Var) (Old rfl) <| Wz (.b (decide (p0.Var ≠ ([] : List UInt8)))) (Ocs (lit_tf (by simp only [toS_inj, ne_eq])) (op_bin rfl (a1 := .string (toS p0.Var)) (a2 := .string (toS ([] : List UInt8))) (by kernel_rfl) (by kernel_rfl) (fun _ => hb_sneq))) <| Wz (.b (decide (p0.Var ≠ ([] : List UInt8)))) (OpT rfl) <| Wz (.b (decide (p0.Var ≠ ([] : List UInt8)))) (OpF rfl) ?_
      rcases tf_ (decide (p0.Var ≠ ([] : List UInt8))) with hq91_4 | hq91_4
      ·
       replace hm := cT hq91_4 hm
       refine Wz (.b true) (Oq hq91_4 rfl) <| Wn <| Wn <| Wn <| Wn <| Wn <| Wn <| Wn <| Wn <| Wn <| Wz (.b true) (OpT rfl) <| Nn ?_
       exact AWP.weak (Weak.toK 2535301200456458802993406410752 0 0 []) (J5 () hm)
      ·
       replace hm := cF hq91_4 hm
       refine Wz (.b false) (Oq hq91_4 rfl) <| Wz (.loc 0 0) (Ofa rfl) <| Wz (.y p0.Kind) (Old rfl) <| Wz (.b (decide (((p0.Kind.toNat : Nat) : Int) ≠ 9))) (Ob2 (.int .u8 ((p0.Kind.toNat : Nat) : Int)) (.int .u8 9) rfl (fun _ => hb_neq)) ?_
       rcases tf_ (decide (((p0.Kind.toNat : Nat) : Int) ≠ 9)) with hq95_4 | hq95_4
       ·
        replace hm := cT hq95_4 hm
        refine Wz (.b true) (Oq hq95_4 rfl) <| Wz (.loc 0 4) (Ofa rfl) <| Wz (.agg [(.y p0.Val.Kind), (.i p0.Val.N), (.u p0.Val.Bits), (.s p0.Val.Text)]) (Old rfl) <| Wz (.agg [(.y 0), (.i 0), (.u 0), (.s ([] : List UInt8))]) (Old rfl) ?_
        obtain ⟨v99_4, hv99_4, hm⟩ := bnd hm; replace hv99_4 := Option.some.inj hv99_4
        refine Wz (.b v99_4) (Ocs (Eq.trans (lit_tf (by simp only [toS_inj])) (congrArg (fun z => A.d (.lit (.bool z))) hv99_4)) (op_neq_struct rfl (la := [(.y p0.Val.Kind), (.i p0.Val.N), (.u p0.Val.Bits), (.s p0.Val.Text)]) (lb := [(.y 0), (.i 0), (.u 0), (.s ([] : List UInt8))]) (us := [.int .u8 ((p0.Val.Kind.toNat : Nat) : Int), .int .i64 p0.Val.N, .int .u64 p0.Val.Bits, .string (toS p0.Val.Text)]) (vs := [.int .u8 0, .int .i64 0, .int .u64 0, .string (toS ([] : List UInt8))]) (r := (decide (((p0.Val.Kind.toNat : Nat) : Int) = 0) && (decide (p0.Val.N = 0) && (decide (p0.Val.Bits = 0) && (decide ((toS p0.Val.Text) = (toS ([] : List UInt8))) && true))))) (by kernel_rfl) (by kernel_rfl) (by kernel_rfl) (by kernel_rfl) (by kernel_rfl))) <| Wz (.b v99_4) (OpT rfl) <| Wz (.b v99_4) (OpF rfl) <| Nn ?_
        exact AWP.weak (Weak.toK 2535301200456458802993406410752 0 0 []) (J6 (v99_4) hm)
       ·
        replace hm := cF hq95_4 hm
        refine Wz (.b false) (Oq hq95_4 rfl) <| Wn <| Wn <| Wn <| Wn <| Wz (.b false) (OpF rfl) <| Wz (.b false) (OpF rfl) <| Nn ?_
        exact AWP.weak (Weak.toK 2535301200456458802993406410752 0 0 []) (J7 () hm)
     ·
      replace hm := cF hq85_4 hm
      refine Wz (.b false) (Oq hq85_4 rfl) <| Wn <| Wn <| Wn <| Wz (.b false) (OpF rfl) <| Wz (.b false) (OpF rfl) <| Wm (.b false) rfl <| Wz (.loc 0 0) (Ofa rfl) <| Wz (.y p0.Kind) (Old rfl) <| Wz (.b (decide (((p0.Kind.toNat : Nat) : Int) ≠ 9))) (Ob2 (.int .u8 ((p0.Kind.toNat : Nat) : Int)) (.int .u8 9) rfl (fun _ => hb_neq)) ?_
      rcases tf_ (decide (((p0.Kind.toNat : Nat) : Int) ≠ 9)) with hq95_4 | hq95_4
      ·
       replace hm := cT hq95_4 hm
       refine Wz (.b true) (Oq hq95_4 rfl) <| Wz (.loc 0 4) (Ofa rfl) <| Wz (.agg [(.y p0.Val.Kind), (.i p0.Val.N), (.u p0.Val.Bits), (.s p0.Val.Text)]) (Old rfl) <| Wz (.agg [(.y 0), (.i 0), (.u 0), (.s ([] : List UInt8))]) (Old rfl) ?_
       obtain ⟨v99_4, hv99_4, hm⟩ := bnd hm; replace hv99_4 := Option.some.inj hv99_4
       refine Wz (.b v99_4) (Ocs (Eq.trans (lit_tf (by simp only [toS_inj])) (congrArg (fun z => A.d (.lit (.bool z))) hv99_4)) (op_neq_struct rfl (la := [(.y p0.Val.Kind), (.i p0.Val.N), (.u p0.Val.Bits), (.s p0.Val.Text)]) (lb := [(.y 0), (.i 0), (.u 0), (.s ([] : List UInt8))]) (us := [.int .u8 ((p0.Val.Kind.toNat : Nat) : Int), .int .i64 p0.Val.N, .int .u64 p0.Val.Bits, .string (toS p0.Val.Text)]) (vs := [.int .u8 0, .int .i64 0, .int .u64 0, .string (toS ([] : List UInt8))]) (r := (decide (((p0.Val.Kind.toNat : Nat) : Int) = 0) && (decide (p0.Val.N = 0) && (decide (p0.Val.Bits = 0) && (decide ((toS p0.Val.Text) = (toS ([] : List UInt8))) && true))))) (by kernel_rfl) (by kernel_rfl) (by kernel_rfl) (by kernel_rfl) (by kernel_rfl))) <| Wz (.b v99_4) (OpT rfl) <| Wz (.b v99_4) (OpF rfl) <| Nn ?_
       exact AWP.weak (Weak.toK 2535301200456458802993406410752 0 0 []) (J6 (v99_4) hm)
      ·
       replace hm := cF hq95_4 hm
       refine Wz (.b false) (Oq hq95_4 rfl) <| Wn <| Wn <| Wn <| Wn <| Wz (.b false) (OpF rfl) <| Wz (.b false) (OpF rfl) <| Nn ?_
       exact AWP.weak (Weak.toK 2535301200456458802993406410752 0 0 []) (J7 () hm)
 refine AWP.cutJ (α := Unit) (fun x => match x with | () => (⟨tp 1 (.loc 0 0::tp 1 (.loc 1 0::.b false::tp 97 [])), [(.box [(.y p0.Kind), (.y p0.Op), (.s p0.Var), (.s p0.Name), (.y p0.Val.Kind), (.i p0.Val.N), (.u p0.Val.Bits), (.s p0.Val.Text)]), (.box [(.y 0), (.i 0), (.u 0), (.s ([] : List UInt8))])], 0⟩ : St)) (fun x => match x with | () => m_telltaleref11_needs_j3 p0 = some r) ?_ (fun J3 => ?_)
 ·
  rintro ⟨⟩ hm
  try dsimp only at hm ⊢
  unfold m_telltaleref11_needs_j3 at hm
  refine Sq <| Sx <| Wm (.b false) rfl <| Nk 144115188075855882 3 ⟨tp 1 (.loc 0 0::tp 1 (.loc 1 0::tp 53 (.b false::tp 44 []))), [(.box [(.y p0.Kind), (.y p0.Op), (.s p0.Var), (.s p0.Name), (.y p0.Val.Kind), (.i p0.Val.N), (.u p0.Val.Bits), (.s p0.Val.Text)]), (.box [(.y 0), (.i 0), (.u 0), (.s ([] : List UInt8))])], 0⟩ <| AWP.if_ false (by kernel_rfl) <| Sk <| Tk 10 3 ⟨tp 1 (.loc 0 0::tp 1 (.loc 1 0::tp 98 [])), [(.box [(.y p0.Kind), (.y p0.Op), (.s p0.Var), (.s p0.Name), (.y p0.Val.Kind), (.i p0.Val.N), (.u p0.Val.Bits), (.s p0.Val.Text)]), (.box [(.y 0), (.i 0), (.u 0), (.s ([] : List UInt8))])], 0⟩ <| Sq ?_
  refine AWP.cutJ (α := Unit) (fun x => match x with | () => (⟨tp 101 (.b true::[]), [], 0⟩ : St)) (fun x => match x with | () => m_telltaleref11_needs_j9  = some r) ?_ (fun J9 => ?_)
  ·
   rintro ⟨⟩ hm
   try dsimp only at hm ⊢
   unfold m_telltaleref11_needs_j9 at hm
   refine AWP.if_ true (by kernel_rfl) <| Sx <| Wm (.i 2) rfl <| Nn <| Rt <| Tr ?_
   obtain rfl := Option.some.inj hm
   exact ret_i []
  refine AWP.cutJ (α := Bool) (fun x => match x with | y101_10 => (⟨tp 101 (.b y101_10::[]), [], 0⟩ : St)) (fun x => match x with | y101_10 => m_telltaleref11_needs_j10  y101_10 = some r) ?_ (fun J10 => ?_)
  ·
   rintro y101_10 hm
   try dsimp only at hm ⊢
   unfold m_telltaleref11_needs_j10 at hm
   rcases tf_ y101_10 with hc101_10 | hc101_10
   ·
    replace hm := cT hc101_10 hm
    refine AiT hc101_10 <| Sx <| Wm (.i 2) rfl <| Nn <| Rt <| Tr ?_
    obtain rfl := Option.some.inj hm
    exact ret_i []
   ·
    replace hm := cF hc101_10 hm
    refine AiF hc101_10 <| Sk <| Tk 0 0 ⟨tp 102 [], [], 0⟩ <| Sx <| Wm (.i 0) rfl <| Nn <| Rt ?_
    obtain rfl := Option.some.inj hm
    exact ret_i []
  refine AWP.cutJ (α := Unit) (fun x => match x with | () => (⟨tp 101 (.b false::[]), [], 0⟩ : St)) (fun x => match x with | () => m_telltaleref11_needs_j11  = some r) ?_ (fun J11 => ?_)
  ·
   rintro ⟨⟩ hm
   try dsimp only at hm ⊢
   unfold m_telltaleref11_needs_j11 at hm
   refine AWP.if_ false (by kernel_rfl) <| Sk <| Tk 0 0 ⟨tp 102 [], [], 0⟩ <| Sx <| Wm (.i 0) rfl <| Nn <| Rt ?_
   obtain rfl := Option.some.inj hm
   exact ret_i []
  refine Sx <| Wz (.loc 0 0) (Ofa rfl) <| Wz (.y p0.Kind) (Old rfl) <| Wz (.b (decide (((p0.Kind.toNat : Nat) : Int) ≠ 4))) (Ob2 (.int .u8 ((p0.Kind.toNat : Nat) : Int)) (.int .u8 4) rfl (fun _ => hb_neq)) ?_
  rcases tf_ (decide (((p0.Kind.toNat : Nat) : Int) ≠ 4)) with hq61_8 | hq61_8
  ·
   replace hm := cT hq61_8 hm
   refine Wz (.b true) (Oq hq61_8 rfl) <| Wz (.loc 0 1) (Ofa rfl) <| Wz (.y p0.Op) (Old rfl) <| Wz (.b (decide (((p0.Op.toNat : Nat) : Int) ≠ 0))) (Ob2 (.int .u8 ((p0.Op.toNat : Nat) : Int)) (.int .u8 0) rfl (fun _ => hb_neq)) <| Wz (.b (decide (((p0.Op.toNat : Nat) : Int) ≠ 0))) (OpT rfl) ?_
   rcases tf_ (decide (((p0.Op.toNat : Nat) : Int) ≠ 0)) with hq66_8 | hq66_8
   ·
    replace hm := cT hq66_8 hm
    refine Wz (.b true) (Oq hq66_8 rfl) <| Wn <| Wn <| Wn <| Wn <| Wn <| Wn <| Wn <| Wn <| Wn <| Wn <| Wn <| Wn <| Wn ?_
    refine Wz (.b true) (OpT rfl) <| Wm (.b true) rfl <| Wn <| Wn <| Wn <| Wn <| Wn <| Wn <| Wn <| Wn <| Wz (.b true) (OpT rfl) <| Wm (.b true) rfl <| Wn <| Wn ?_
    refine Wn <| Wn <| Wn <| Wn <| Wn <| Wn <| Wn <| Wz (.b true) (OpT rfl) <| Nn ?_
    exact AWP.weak (Weak.toK 2535301200456458802993406410752 0 0 []) (J9 () hm)
   ·
    replace hm := cF hq66_8 hm
    refine Wz (.b false) (Oq hq66_8 rfl) <| Wz (.loc 0 0) (Ofa rfl) <| Wz (.y p0.Kind) (Old rfl) <| Wz (.b (decide (((p0.Kind.toNat : Nat) : Int) ≠ 7))) (Ob2 (.int .u8 ((p0.Kind.toNat : Nat) : Int)) (.int .u8 7) rfl (fun _ => hb_neq)) ?_
    rcases tf_ (decide (((p0.Kind.toNat : Nat) : Int) ≠ 7)) with hq70_8 | hq70_8
    ·
     replace hm := cT hq70_8 hm
     refine Wz (.b true) (Oq hq70_8 rfl) <| Wz (.loc 0 0) (Ofa rfl) <| Wz (.y p0.Kind) (Old rfl) <| Wz (.b (decide (((p0.Kind.toNat : Nat) : Int) ≠ 8))) (Ob2 (.int .u8 ((p0.Kind.toNat : Nat) : Int)) (.int .u8 8) rfl (fun _ => hb_neq)) <| Wz (.b (decide (((p0.Kind.toNat : Nat) : Int) ≠ 8))) (OpT rfl) ?_
     rcases tf_ (decide (((p0.Kind.toNat : Nat) : Int) ≠ 8)) with hq75_8 | hq75_8
     ·
      replace hm := cT hq75_8 hm
      refine Wz (.b true) (Oq hq75_8 rfl) <| Wz (.loc 0 3) (Ofa rfl) <| Wz (.s p0.Name) (Old rfl) <| Wz (.b (decide (p0.Name ≠ ([] : List UInt8)))) (Ocs (lit_tf (by simp only [toS_inj, ne_eq])) (op_bin rfl (a1 := .string (toS p0.Name)) (a2 := .string (toS ([] : List UInt8))) (by kernel_rfl) (by kernel_rfl) (fun _ => hb_sneq))) <| Wz (.b (decide (p0.Name ≠ ([] : List UInt8)))) (OpT rfl) <| Wz (.b (decide (p0.Name ≠ ([] : List UInt8)))) (OpF rfl) ?_
      rcases tf_ (decide (p0.Name ≠ ([] : List UInt8))) with hq81_8 | hq81_8
      ·
       replace hm := cT hq81_8 hm
       refine Wz (.b true) (Oq hq81_8 rfl) <| Wn <| Wn <| Wn <| Wn <| Wn <| Wn <| Wn <| Wn <| Wz (.b true) (OpT rfl) <| Wm (.b true) rfl <| Wn <| Wn <| Wn ?_
       refine Wn <| Wn <| Wn <| Wn <| Wn <| Wn <| Wz (.b true) (OpT rfl) <| Nn ?_
       exact AWP.weak (Weak.toK 2535301200456458802993406410752 0 0 []) (J9 () hm)
      ·
       replace hm := cF hq81_8 hm
       refine Wz (.b false) (Oq hq81_8 rfl) <| Wz (.loc 0 0) (Ofa rfl) <| Wz (.y p0.Kind) (Old rfl) <| Wz (.b (decide (((p0.Kind.toNat : Nat) : Int) ≠ 8))) (Ob2 (.int .u8 ((p0.Kind.toNat : Nat) : Int)) (.int .u8 8) rfl (fun _ => hb_neq)) ?_
       rcases tf_ (decide (((p0.Kind.toNat : Nat) : Int) ≠ 8)) with hq85_8 | hq85_8
       ·
        replace hm := cT hq85_8 hm
        refine Wz (.b true) (Oq hq85_8 rfl) <| Wz (.loc 0 2) (Ofa rfl) <| Wz (.s p0.Var) (Old rfl) <| Wz (.b (decide (p0.Var ≠ ([] : List UInt8)))) (Ocs (lit_tf (by simp only [toS_inj, ne_eq])) (op_bin rfl (a1 := .string (toS p0.Var)) (a2 := .string (toS ([] : List UInt8))) (by kernel_rfl) (by kernel_rfl) (fun _ => hb_sneq))) <| Wz (.b (decide (p0.Var ≠ ([] : List UInt8)))) (OpT rfl) <| Wz (.b (decide (p0.Var ≠ ([] : List UInt8)))) (OpF rfl) ?_
        rcases tf_ (decide (p0.Var ≠ ([] : List UInt8))) with hq91_8 | hq91_8
        ·
         replace hm := cT hq91_8 hm
         refine Wz (.b true) (Oq hq91_8 rfl) <| Wn <| Wn <| Wn <| Wn <| Wn <| Wn <| Wn <| Wn <| Wn <| Wz (.b true) (OpT rfl) <| Nn ?_
         exact AWP.weak (Weak.toK 2535301200456458802993406410752 0 0 []) (J9 () hm)
        ·
         replace hm := cF hq91_8 hm
         refine Wz (.b false) (Oq hq91_8 rfl) <| Wz (.loc 0 0) (Ofa rfl) <| Wz (.y p0.Kind) (Old rfl) <| Wz (.b (decide (((p0.Kind.toNat : Nat) : Int) ≠ 9))) (Ob2 (.int .u8 ((p0.Kind.toNat : Nat) : Int)) (.int .u8 9) rfl (fun _ => hb_neq)) ?_
         rcases tf_ (decide (((p0.Kind.toNat : Nat) : Int) ≠ 9)) with hq95_8 | hq95_8
         ·
          replace hm := cT hq95_8 hm
          refine Wz (.b true) (Oq hq95_8 rfl) <| Wz (.loc 0 4) (Ofa rfl) <| Wz (.agg [(.y p0.Val.Kind), (.i p0.Val.N), (.u p0.Val.Bits), (.s p0.Val.Text)]) (Old rfl) <| Wz (.agg [(.y 0), (.i 0), (.u 0), (.s ([] : List UInt8))]) (Old rfl) ?_
          obtain ⟨v99_8, hv99_8, hm⟩ := bnd hm; replace hv99_8 := Option.some.inj hv99_8
          refine Wz (.b v99_8) (Ocs (Eq.trans (lit_tf (by simp only [toS_inj])) (congrArg (fun z => A.d (.lit (.bool z))) hv99_8)) (op_neq_struct rfl (la := [(.y p0.Val.Kind), (.i p0.Val.N), (.u p0.Val.Bits), (.s p0.Val.Text)]) (lb := [(.y 0), (.i 0), (.u 0), (.s ([] : List UInt8))]) (us := [.int .u8 ((p0.Val.Kind.toNat : Nat) : Int), .int .i64 p0.Val.N, .int .u64 p0.Val.Bits, .string (toS p0.Val.Text)]) (vs := [.int .u8 0, .int .i64 0, .int .u64 0, .string (toS ([] : List UInt8))]) (r := (decide (((p0.Val.Kind.toNat : Nat) : Int) = 0) && (decide (p0.Val.N = 0) && (decide (p0.Val.Bits = 0) && (decide ((toS p0.Val.Text) = (toS ([] : List UInt8))) && true))))) (by kernel_rfl) (by kernel_rfl) (by kernel_rfl) (by kernel_rfl) (by kernel_rfl))) <| Wz (.b v99_8) (OpT rfl) <| Wz (.b v99_8) (OpF rfl) <| Nn ?_
          exact AWP.weak (Weak.toK 2535301200456458802993406410752 0 0 []) (J10 (v99_8) hm)
         ·
          replace hm := cF hq95_8 hm
          refine Wz (.b false) (Oq hq95_8 rfl) <| Wn <| Wn <| Wn <| Wn <| Wz (.b false) (OpF rfl) <| Wz (.b false) (OpF rfl) <| Nn ?_
          exact AWP.weak (Weak.toK 2535301200456458802993406410752 0 0 []) (J11 () hm)
       ·
        replace hm := cF hq85_8 hm
        refine Wz (.b false) (Oq hq85_8 rfl) <| Wn <| Wn <| Wn <| Wz (.b false) (OpF rfl) <| Wz (.b false) (OpF rfl) <| Wm (.b false) rfl <| Wz (.loc 0 0) (Ofa rfl) <| Wz (.y p0.Kind) (Old rfl) <| Wz (.b (decide (((p0.Kind.toNat : Nat) : Int) ≠ 9))) (Ob2 (.int .u8 ((p0.Kind.toNat : Nat) : Int)) (.int .u8 9) rfl (fun _ => hb_neq)) ?_
        rcases tf_ (decide (((p0.Kind.toNat : Nat) : Int) ≠ 9)) with hq95_8 | hq95_8
        ·
         replace hm := cT hq95_8 hm
         refine Wz (.b true) (Oq hq95_8 rfl) <| Wz (.loc 0 4) (Ofa rfl) <| Wz (.agg [(.y p0.Val.Kind), (.i p0.Val.N), (.u p0.Val.Bits), (.s p0.Val.Text)]) (Old rfl) <| Wz (.agg [(.y 0), (.i 0), (.u 0), (.s ([] : List UInt8))]) (Old rfl) ?_
         obtain ⟨v99_8, hv99_8, hm⟩ := bnd hm; replace hv99_8 := Option.some.inj hv99_8
         refine Wz (.b v99_8) (Ocs (Eq.trans (lit_tf (by simp only [toS_inj])) (congrArg (fun z => A.d (.lit (.bool z))) hv99_8)) (op_neq_struct rfl (la := [(.y p0.Val.Kind), (.i p0.Val.N), (.u p0.Val.Bits), (.s p0.Val.Text)]) (lb := [(.y 0), (.i 0), (.u 0), (.s ([] : List UInt8))]) (us := [.int .u8 ((p0.Val.Kind.toNat : Nat) : Int), .int .i64 p0.Val.N, .int .u64 p0.Val.Bits, .string (toS p0.Val.Text)]) (vs := [.int .u8 0, .int .i64 0, .int .u64 0, .string (toS ([] : List UInt8))]) (r := (decide (((p0.Val.Kind.toNat : Nat) : Int) = 0) && (decide (p0.Val.N = 0) && (decide (p0.Val.Bits = 0) && (decide ((toS p0.Val.Text) = (toS ([] : List UInt8))) && true))))) (by kernel_rfl) (by kernel_rfl) (by kernel_rfl) (by kernel_rfl) (by kernel_rfl))) <| Wz (.b v99_8) (OpT rfl) <| Wz (.b v99_8) (OpF rfl) <| Nn ?_
         exact AWP.weak (Weak.toK 2535301200456458802993406410752 0 0 []) (J10 (v99_8) hm)
        ·
         replace hm := cF hq95_8 hm
         refine Wz (.b false) (Oq hq95_8 rfl) <| Wn <| Wn <| Wn <| Wn <| Wz (.b false) (OpF rfl) <| Wz (.b false) (OpF rfl) <| Nn ?_
         exact AWP.weak (Weak.toK 2535301200456458802993406410752 0 0 []) (J11 () hm)
     ·
      replace hm := cF hq75_8 hm
      refine Wz (.b false) (Oq hq75_8 rfl) <| Wn <| Wn <| Wn <| Wz (.b false) (OpF rfl) <| Wz (.b false) (OpF rfl) <| Wm (.b false) rfl <| Wz (.loc 0 0) (Ofa rfl) <| Wz (.y p0.Kind) (Old rfl) <| Wz (.b (decide (((p0.Kind.toNat : Nat) : Int) ≠ 8))) (Ob2 (.int .u8 ((p0.Kind.toNat : Nat) : Int)) (.int .u8 8) rfl (fun _ => hb_neq)) ?_
      rcases tf_ (decide (((p0.Kind.toNat : Nat) : Int) ≠ 8)) with hq85_8 | hq85_8
      ·
       replace hm := cT hq85_8 hm
       refine Wz (.b true) (Oq hq85_8 rfl) <| Wz (.loc 0 2) (Ofa rfl) <| Wz (.s p0.Var) (Old rfl) <| Wz (.b (decide (p0.Var ≠ ([] : List UInt8)))) (Ocs (lit_tf (by simp only [toS_inj, ne_eq])) (op_bin rfl (a1 := .string (toS p0.Var)) (a2 := .string (toS ([] : List UInt8))) (by kernel_rfl) (by kernel_rfl) (fun _ => hb_sneq))) <| Wz (.b (decide (p0.Var ≠ ([] : List UInt8)))) (OpT rfl) <| Wz (.b (decide (p0.Var ≠ ([] : List UInt8)))) (OpF rfl) ?_
       rcases tf_ (decide (p0.Var ≠ ([] : List UInt8))) with hq91_8 | hq91_8
       ·
        replace hm := cT hq91_8 hm
        refine Wz (.b true) (Oq hq91_8 rfl) <| Wn <| Wn <| Wn <| Wn <| Wn <| Wn <| Wn <| Wn <| Wn <| Wz (.b true) (OpT rfl) <| Nn ?_
        exact AWP.weak (Weak.toK 2535301200456458802993406410752 0 0 []) (J9 () hm)
       ·
        replace hm := cF hq91_8 hm
        refine Wz (.b false) (Oq hq91_8 rfl) <| Wz (.loc 0 0) (Ofa rfl) <| Wz (.y p0.Kind) (Old rfl) <| Wz (.b (decide (((p0.Kind.toNat : Nat) : Int) ≠ 9))) (Ob2 (.int .u8 ((p0.Kind.toNat : Nat) : Int)) (.int .u8 9) rfl (fun _ => hb_neq)) ?_
        rcases tf_ (decide (((p0.Kind.toNat : Nat) : Int) ≠ 9)) with hq95_8 | hq95_8
        ·
         replace hm := cT hq95_8 hm
         refine Wz (.b true) (Oq hq95_8 rfl) <| Wz (.loc 0 4) (Ofa rfl) <| Wz (.agg [(.y p0.Val.Kind), (.i p0.Val.N), (.u p0.Val.Bits), (.s p0.Val.Text)]) (Old rfl) <| Wz (.agg [(.y 0), (.i 0), (.u 0), (.s ([] : List UInt8))]) (Old rfl) ?_
         obtain ⟨v99_8, hv99_8, hm⟩ := bnd hm; replace hv99_8 := Option.some.inj hv99_8
         refine Wz (.b v99_8) (Ocs (Eq.trans (lit_tf (by simp only [toS_inj])) (congrArg (fun z => A.d (.lit (.bool z))) hv99_8)) (op_neq_struct rfl (la := [(.y p0.Val.Kind), (.i p0.Val.N), (.u p0.Val.Bits), (.s p0.Val.Text)]) (lb := [(.y 0), (.i 0), (.u 0), (.s ([] : List UInt8))]) (us := [.int .u8 ((p0.Val.Kind.toNat : Nat) : Int), .int .i64 p0.Val.N, .int .u64 p0.Val.Bits, .string (toS p0.Val.Text)]) (vs := [.int .u8 0, .int .i64 0, .int .u64 0, .string (toS ([] : List UInt8))]) (r := (decide (((p0.Val.Kind.toNat : Nat) : Int) = 0) && (decide (p0.Val.N = 0) && (decide (p0.Val.Bits = 0) && (decide ((toS p0.Val.Text) = (toS ([] : List UInt8))) && true))))) (by kernel_rfl) (by kernel_rfl) (by kernel_rfl) (by kernel_rfl) (by kernel_rfl))) <| Wz (.b v99_8) (OpT rfl) <| Wz (.b v99_8) (OpF rfl) <| Nn ?_
         exact AWP.weak (Weak.toK 2535301200456458802993406410752 0 0 []) (J10 (v99_8) hm)
        ·
         replace hm := cF hq95_8 hm
         refine Wz (.b false) (Oq hq95_8 rfl) <| Wn <| Wn <| Wn <| Wn <| Wz (.b false) (OpF rfl) <| Wz (.b false) (OpF rfl) <| Nn ?_
         exact AWP.weak (Weak.toK 2535301200456458802993406410752 0 0 []) (J11 () hm)
      ·
       replace hm := cF hq85_8 hm
       refine Wz (.b false) (Oq hq85_8 rfl) <| Wn <| Wn <| Wn <| Wz (.b false) (OpF rfl) <| Wz (.b false) (OpF rfl) <| Wm (.b false) rfl <| Wz (.loc 0 0) (Ofa rfl) <| Wz (.y p0.Kind) (Old rfl) <| Wz (.b (decide (((p0.Kind.toNat : Nat) : Int) ≠ 9))) (Ob2 (.int .u8 ((p0.Kind.toNat : Nat) : Int)) (.int .u8 9) rfl (fun _ => hb_neq)) ?_
       rcases tf_ (decide (((p0.Kind.toNat : Nat) : Int) ≠ 9)) with hq95_8 | hq95_8
       ·
        replace hm := cT hq95_8 hm
        refine Wz (.b true) (Oq hq95_8 rfl) <| Wz (.loc 0 4) (Ofa rfl) <| Wz (.agg [(.y p0.Val.Kind), (.i p0.Val.N), (.u p0.Val.Bits), (.s p0.Val.Text)]) (Old rfl) <| Wz (.agg [(.y 0), (.i 0), (.u 0), (.s ([] : List UInt8))]) (Old rfl) ?_
        obtain ⟨v99_8, hv99_8, hm⟩ := bnd hm; replace hv99_8 := Option.some.inj hv99_8
        refine Wz (.b v99_8) (Ocs (Eq.trans (lit_tf (by simp only [toS_inj])) (congrArg (fun z => A.d (.lit (.bool z))) hv99_8)) (op_neq_struct rfl (la := [(.y p0.Val.Kind), (.i p0.Val.N), (.u p0.Val.Bits), (.s p0.Val.Text)]) (lb := [(.y 0), (.i 0), (.u 0), (.s ([] : List UInt8))]) (us := [.int .u8 ((p0.Val.Kind.toNat : Nat) : Int), .int .i64 p0.Val.N, .int .u64 p0.Val.Bits, .string (toS p0.Val.Text)]) (vs := [.int .u8 0, .int .i64 0, .int .u64 0, .string (toS ([] : List UInt8))]) (r := (decide (((p0.Val.Kind.toNat : Nat) : Int) = 0) && (decide (p0.Val.N = 0) && (decide (p0.Val.Bits = 0) && (decide ((toS p0.Val.Text) = (toS ([] : List UInt8))) && true))))) (by kernel_rfl) (by kernel_rfl) (by kernel_rfl) (by kernel_rfl) (by kernel_rfl))) <| Wz (.b v99_8) (OpT rfl) <| Wz (.b v99_8) (OpF rfl) <| Nn ?_
        exact AWP.weak (Weak.toK 2535301200456458802993406410752 0 0 []) (J10 (v99_8) hm)
       ·
        replace hm := cF hq95_8 hm
        refine Wz (.b false) (Oq hq95_8 rfl) <| Wn <| Wn <| Wn <| Wn <| Wz (.b false) (OpF rfl) <| Wz (.b false) (OpF rfl) <| Nn ?_
        exact AWP.weak (Weak.toK 2535301200456458802993406410752 0 0 []) (J11 () hm)
    ·
     replace hm := cF hq70_8 hm
     refine Wz (.b false) (Oq hq70_8 rfl) <| Wn <| Wn <| Wn <| Wz (.b false) (OpF rfl) <| Wm (.b false) rfl <| Wn <| Wn <| Wn <| Wz (.b false) (OpF rfl) <| Wz (.b false) (OpF rfl) <| Wm (.b false) rfl <| Wz (.loc 0 0) (Ofa rfl) <| Wz (.y p0.Kind) (Old rfl) ?_
     refine Wz (.b (decide (((p0.Kind.toNat : Nat) : Int) ≠ 8))) (Ob2 (.int .u8 ((p0.Kind.toNat : Nat) : Int)) (.int .u8 8) rfl (fun _ => hb_neq)) ?_
     rcases tf_ (decide (((p0.Kind.toNat : Nat) : Int) ≠ 8)) with hq85_8 | hq85_8
     ·
      replace hm := cT hq85_8 hm
      refine Wz (.b true) (Oq hq85_8 rfl) <| Wz (.loc 0 2) (Ofa rfl) <| Wz (.s p0.Var) (Old rfl) <| Wz (.b (decide (p0.Var ≠ ([] : List UInt8)))) (Ocs (lit_tf (by simp only [toS_inj, ne_eq])) (op_bin rfl (a1 := .string (toS p0.Var)) (a2 := .string (toS ([] : List UInt8))) (by kernel_rfl) (by kernel_rfl) (fun _ => hb_sneq))) <| Wz (.b (decide (p0.Var ≠ ([] : List UInt8)))) (OpT rfl) <| Wz (.b (decide (p0.Var ≠ ([] : List UInt8)))) (OpF rfl) ?_
      rcases tf_ (decide (p0.Var ≠ ([] : List UInt8))) with hq91_8 | hq91_8
      ·
       replace hm := cT hq91_8 hm
       refine Wz (.b true) (Oq hq91_8 rfl) <| Wn <| Wn <| Wn <| Wn <| Wn <| Wn <| Wn <| Wn <| Wn <| Wz (.b true) (OpT rfl) <| Nn ?_
       exact AWP.weak (Weak.toK 2535301200456458802993406410752 0 0 []) (J9 () hm)
      ·
       replace hm := cF hq91_8 hm
       refine Wz (.b false) (Oq hq91_8 rfl) <| Wz (.loc 0 0) (Ofa rfl) <| Wz (.y p0.Kind) (Old rfl) <| Wz (.b (decide (((p0.Kind.toNat : Nat) : Int) ≠ 9))) (Ob2 (.int .u8 ((p0.Kind.toNat : Nat) : Int)) (.int .u8 9) rfl (fun _ => hb_neq)) ?_
       rcases tf_ (decide (((p0.Kind.toNat : Nat) : Int) ≠ 9)) with hq95_8 | hq95_8
       ·
        replace hm := cT hq95_8 hm
        refine Wz (.b true) (Oq hq95_8 rfl) <| Wz (.loc 0 4) (Ofa rfl) <| Wz (.agg [(.y p0.Val.Kind), (.i p0.Val.N), (.u p0.Val.Bits), (.s p0.Val.Text)]) (Old rfl) <| Wz (.agg [(.y 0), (.i 0), (.u 0), (.s ([] : List UInt8))]) (Old rfl) ?_
        obtain ⟨v99_8, hv99_8, hm⟩ := bnd hm; replace hv99_8 := Option.some.inj hv99_8
        refine Wz (.b v99_8) (Ocs (Eq.trans (lit_tf (by simp only [toS_inj])) (congrArg (fun z => A.d (.lit (.bool z))) hv99_8)) (op_neq_struct rfl (la := [(.y p0.Val.Kind), (.i p0.Val.N), (.u p0.Val.Bits), (.s p0.Val.Text)]) (lb := [(.y 0), (.i 0), (.u 0), (.s ([] : List UInt8))]) (us := [.int .u8 ((p0.Val.Kind.toNat : Nat) : Int), .int .i64 p0.Val.N, .int .u64 p0.Val.Bits, .string (toS p0.Val.Text)]) (vs := [.int .u8 0, .int .i64 0, .int .u64 0, .string (toS ([] : List UInt8))]) (r := (decide (((p0.Val.Kind.toNat : Nat) : Int) = 0) && (decide (p0.Val.N = 0) && (decide (p0.Val.Bits = 0) && (decide ((toS p0.Val.Text) = (toS ([] : List UInt8))) && true))))) (by kernel_rfl) (by kernel_rfl) (by kernel_rfl) (by kernel_rfl) (by kernel_rfl))) <| Wz (.b v99_8) (OpT rfl) <| Wz (.b v99_8) (OpF rfl) <| Nn ?_
        exact AWP.weak (Weak.toK 2535301200456458802993406410752 0 0 []) (J10 (v99_8) hm)
       ·
        replace hm := cF hq95_8 hm
        refine Wz (.b false) (Oq hq95_8 rfl) <| Wn <| Wn <| Wn <| Wn <| Wz (.b false) (OpF rfl) <| Wz (.b false) (OpF rfl) <| Nn ?_
        exact AWP.weak (Weak.toK 2535301200456458802993406410752 0 0 []) (J11 () hm)
     ·
      replace hm := cF hq85_8 hm
      refine Wz (.b false) (Oq hq85_8 rfl) <| Wn <| Wn <| Wn <| Wz (.b false) (OpF rfl) <| Wz (.b false) (OpF rfl) <| Wm (.b false) rfl <| Wz (.loc 0 0) (Ofa rfl) <| Wz (.y p0.Kind) (Old rfl) <| Wz (.b (decide (((p0.Kind.toNat : Nat) : Int) ≠ 9))) (Ob2 (.int .u8 ((p0.Kind.toNat : Nat) : Int)) (.int .u8 9) rfl (fun _ => hb_neq)) ?_
      rcases tf_ (decide (((p0.Kind.toNat : Nat) : Int) ≠ 9)) with hq95_8 | hq95_8
      ·
       replace hm := cT hq95_8 hm
       refine Wz (.b true) (Oq hq95_8 rfl) <| Wz (.loc 0 4) (Ofa rfl) <| Wz (.agg [(.y p0.Val.Kind), (.i p0.Val.N), (.u p0.Val.Bits), (.s p0.Val.Text)]) (Old rfl) <| Wz (.agg [(.y 0), (.i 0), (.u 0), (.s ([] : List UInt8))]) (Old rfl) ?_
       obtain ⟨v99_8, hv99_8, hm⟩ := bnd hm; replace hv99_8 := Option.some.inj hv99_8
       refine Wz (.b v99_8) (Ocs (Eq.trans (lit_tf (by simp only [toS_inj])) (congrArg (fun z => A.d (.lit (.bool z))) hv99_8)) (op_neq_struct rfl (la := [(.y p0.Val.Kind), (.i p0.Val.N), (.u p0.Val.Bits), (.s p0.Val.Text)]) (lb := [(.y 0), (.i 0), (.u 0), (.s ([] : List UInt8))]) (us := [.int .u8 ((p0.Val.Kind.toNat : Nat) : Int), .int .i64 p0.Val.N, .int .u64 p0.Val.Bits, .string (toS p0.Val.Text)]) (vs := [.int .u8 0, .int .i64 0, .int .u64 0, .string (toS ([] : List UInt8))]) (r := (decide (((p0.Val.Kind.toNat : Nat) : Int) = 0) && (decide (p0.Val.N = 0) && (decide (p0.Val.Bits = 0) && (decide ((toS p0.Val.Text) = (toS ([] : List UInt8))) && true))))) (by kernel_rfl) (by kernel_rfl) (by kernel_rfl) (by kernel_rfl) (by kernel_rfl))) <| Wz (.b v99_8) (OpT rfl) <| Wz (.b v99_8) (OpF rfl) <| Nn ?_
       exact AWP.weak (Weak.toK 2535301200456458802993406410752 0 0 []) (J10 (v99_8) hm)
      ·
       replace hm := cF hq95_8 hm
       refine Wz (.b false) (Oq hq95_8 rfl) <| Wn <| Wn <| Wn <| Wn <| Wz (.b false) (OpF rfl) <| Wz (.b false) (OpF rfl) <| Nn ?_
       exact AWP.weak (Weak.toK 2535301200456458802993406410752 0 0 []) (J11 () hm)
  ·
   replace hm := cF hq61_8 hm
   refine Wz (.b false) (Oq hq61_8 rfl) <| Wn <| Wn <| Wn <| Wz (.b false) (OpF rfl) <| Wm (.b false) rfl <| Wz (.loc 0 0) (Ofa rfl) <| Wz (.y p0.Kind) (Old rfl) <| Wz (.b (decide (((p0.Kind.toNat : Nat) : Int) ≠ 7))) (Ob2 (.int .u8 ((p0.Kind.toNat : Nat) : Int)) (.int .u8 7) rfl (fun _ => hb_neq)) ?_
   rcases tf_ (decide (((p0.Kind.toNat : Nat) : Int) ≠ 7)) with hq70_8 | hq70_8
   ·
    replace hm := cT hq70_8 hm
    refine Wz (.b true) (Oq hq70_8 rfl) <| Wz (.loc 0 0) (Ofa rfl) <| Wz (.y p0.Kind) (Old rfl) <| Wz (.b (decide (((p0.Kind.toNat : Nat) : Int) ≠ 8))) (Ob2 (.int .u8 ((p0.Kind.toNat : Nat) : Int)) (.int .u8 8) rfl (fun _ => hb_neq)) <| Wz (.b (decide (((p0.Kind.toNat : Nat) : Int) ≠ 8))) (OpT rfl) ?_
    rcases tf_ (decide (((p0.Kind.toNat : Nat) : Int) ≠ 8)) with hq75_8 | hq75_8
    ·
     replace hm := cT hq75_8 hm
     refine Wz (.b true) (Oq hq75_8 rfl) <| Wz (.loc 0 3) (Ofa rfl) <| Wz (.s p0.Name) (Old rfl) <| Wz (.b (decide (p0.Name ≠ ([] : List UInt8)))) (Ocs (lit_tf (by simp only [toS_inj, ne_eq])) (op_bin rfl (a1 := .string (toS p0.Name)) (a2 := .string (toS ([] : List UInt8))) (by kernel_rfl) (by kernel_rfl) (fun _ => hb_sneq))) <| Wz (.b (decide (p0.Name ≠ ([] : List UInt8)))) (OpT rfl) <| Wz (.b (decide (p0.Name ≠ ([] : List UInt8)))) (OpF rfl) ?_
     rcases tf_ (decide (p0.Name ≠ ([] : List UInt8))) with hq81_8 | hq81_8
     ·
      replace hm := cT hq81_8 hm
      refine Wz (.b true) (Oq hq81_8 rfl) <| Wn <| Wn <| Wn <| Wn <| Wn <| Wn <| Wn <| Wn <| Wz (.b true) (OpT rfl) <| Wm (.b true) rfl <| Wn <| Wn <| Wn ?_
      refine Wn <| Wn <| Wn <| Wn <| Wn <| Wn <| Wz (.b true) (OpT rfl) <| Nn ?_
      exact AWP.weak (Weak.toK 2535301200456458802993406410752 0 0 []) (J9 () hm)
     ·
      replace hm := cF hq81_8 hm
      refine Wz (.b false) (Oq hq81_8 rfl) <| Wz (.loc 0 0) (Ofa rfl) <| Wz (.y p0.Kind) (Old rfl) <| Wz (.b (decide (((p0.Kind.toNat : Nat) : Int) ≠ 8))) (Ob2 (.int .u8 ((p0.Kind.toNat : Nat) : Int)) (.int .u8 8) rfl (fun _ => hb_neq)) ?_
      rcases tf_ (decide (((p0.Kind.toNat : Nat) : Int) ≠ 8)) with hq85_8 | hq85_8
      ·
       replace hm := cT hq85_8 hm
       refine Wz (.b true) (Oq hq85_8 rfl) <| Wz (.loc 0 2) (Ofa rfl) <| Wz (.s p0.Var) (Old rfl) <| Wz (.b (decide (p0.Var ≠ ([] : List UInt8)))) (Ocs (lit_tf (by simp only [toS_inj, ne_eq])) (op_bin rfl (a1 := .string (toS p0.Var)) (a2 := .string (toS ([] : List UInt8))) (by kernel_rfl) (by kernel_rfl) (fun _ => hb_sneq))) <| Wz (.b (decide (p0.Var ≠ ([] : List UInt8)))) (OpT rfl) <| Wz (.b (decide (p0.Var ≠ ([] : List UInt8)))) (OpF rfl) ?_
       rcases tf_ (decide (p0.Var ≠ ([] : List UInt8))) with hq91_8 | hq91_8
       ·
        replace hm := cT hq91_8 hm
        refine Wz (.b true) (Oq hq91_8 rfl) <| Wn <| Wn <| Wn <| Wn <| Wn <| Wn <| Wn <| Wn <| Wn <| Wz (.b true) (OpT rfl) <| Nn ?_
        exact AWP.weak (Weak.toK 2535301200456458802993406410752 0 0 []) (J9 () hm)
       ·
        replace hm := cF hq91_8 hm
        refine Wz (.b false) (Oq hq91_8 rfl) <| Wz (.loc 0 0) (Ofa rfl) <| Wz (.y p0.Kind) (Old rfl) <| Wz (.b (decide (((p0.Kind.toNat : Nat) : Int) ≠ 9))) (Ob2 (.int .u8 ((p0.Kind.toNat : Nat) : Int)) (.int .u8 9) rfl (fun _ => hb_neq)) ?_
        rcases tf_ (decide (((p0.Kind.toNat : Nat) : Int) ≠ 9)) with hq95_8 | hq95_8
        ·
         replace hm := cT hq95_8 hm
         refine Wz (.b true) (Oq hq95_8 rfl) <| Wz (.loc 0 4) (Ofa rfl) <| Wz (.agg [(.y p0.Val.Kind), (.i p0.Val.N), (.u p0.Val.Bits), (.s p0.Val.Text)]) (Old rfl) <| Wz (.agg [(.y 0), (.i 0), (.u 0), (.s ([] : List UInt8))]) (Old rfl) ?_
         obtain ⟨v99_8, hv99_8, hm⟩ := bnd hm; replace hv99_8 := Option.some.inj hv99_8
         refine Wz (.b v99_8) (Ocs (Eq.trans (lit_tf (by simp only [toS_inj])) (congrArg (fun z => A.d (.lit (.bool z))) hv99_8)) (op_neq_struct rfl (la := [(.y p0.Val.Kind), (.i p0.Val.N), (.u p0.Val.Bits), (.s p0.Val.Text)]) (lb := [(.y 0), (.i 0), (.u 0), (.s ([] : List UInt8))]) (us := [.int .u8 ((p0.Val.Kind.toNat : Nat) : Int), .int .i64 p0.Val.N, .int .u64 p0.Val.Bits, .string (toS p0.Val.Text)]) (vs := [.int .u8 0, .int .i64 0, .int .u64 0, .string (toS ([] : List UInt8))]) (r := (decide (((p0.Val.Kind.toNat : Nat) : Int) = 0) && (decide (p0.Val.N = 0) && (decide (p0.Val.Bits = 0) && (decide ((toS p0.Val.Text) = (toS ([] : List UInt8))) && true))))) (by kernel_rfl) (by kernel_rfl) (by kernel_rfl) (by kernel_rfl) (by kernel_rfl))) <| Wz (.b v99_8) (OpT rfl) <| Wz (.b v99_8) (OpF rfl) <| Nn ?_
         exact AWP.weak (Weak.toK 2535301200456458802993406410752 0 0 []) (J10 (v99_8) hm)
        ·
         replace hm := cF hq95_8 hm
         refine Wz (.b false) (Oq hq95_8 rfl) <| Wn <| Wn <| Wn <| Wn <| Wz (.b false) (OpF rfl) <| Wz (.b false) (OpF rfl) <| Nn ?_
         exact AWP.weak (Weak.toK 2535301200456458802993406410752 0 0 []) (J11 () hm)
      ·
       replace hm := cF hq85_8 hm
       refine Wz (.b false) (Oq hq85_8 rfl) <| Wn <| Wn <| Wn <| Wz (.b false) (OpF rfl) <| Wz (.b false) (OpF rfl) <| Wm (.b false) rfl <| Wz (.loc 0 0) (Ofa rfl) <| Wz (.y p0.Kind) (Old rfl) <| Wz (.b (decide (((p0.Kind.toNat : Nat) : Int) ≠ 9))) (Ob2 (.int .u8 ((p0.Kind.toNat : Nat) : Int)) (.int .u8 9) rfl (fun _ => hb_neq)) ?_
       rcases tf_ (decide (((p0.Kind.toNat : Nat) : Int) ≠ 9)) with hq95_8 | hq95_8
       ·
        replace hm := cT hq95_8 hm
        refine Wz (.b true) (Oq hq95_8 rfl) <| Wz (.loc 0 4) (Ofa rfl) <| Wz (.agg [(.y p0.Val.Kind), (.i p0.Val.N), (.u p0.Val.Bits), (.s p0.Val.Text)]) (Old rfl) <| Wz (.agg [(.y 0), (.i 0), (.u 0), (.s ([] : List UInt8))]) (Old rfl) ?_
        obtain ⟨v99_8, hv99_8, hm⟩ := bnd hm; replace hv99_8 := Option.some.inj hv99_8
        refine Wz (.b v99_8) (Ocs (Eq.trans (lit_tf (by simp only [toS_inj])) (congrArg (fun z => A.d (.lit (.bool z))) hv99_8)) (op_neq_struct rfl (la := [(.y p0.Val.Kind), (.i p0.Val.N), (.u p0.Val.Bits), (.s p0.Val.Text)]) (lb := [(.y 0), (.i 0), (.u 0), (.s ([] : List UInt8))]) (us := [.int .u8 ((p0.Val.Kind.toNat : Nat) : Int), .int .i64 p0.Val.N, .int .u64 p0.Val.Bits, .string (toS p0.Val.Text)]) (vs := [.int .u8 0, .int .i64 0, .int .u64 0, .string (toS ([] : List UInt8))]) (r := (decide (((p0.Val.Kind.toNat : Nat) : Int) = 0) && (decide (p0.Val.N = 0) && (decide (p0.Val.Bits = 0) && (decide ((toS p0.Val.Text) = (toS ([] : List UInt8))) && true))))) (by kernel_rfl) (by kernel_rfl) (by kernel_rfl) (by kernel_rfl) (by kernel_rfl))) <| Wz (.b v99_8) (OpT rfl) <| Wz (.b v99_8) (OpF rfl) <| Nn ?_
        exact AWP.weak (Weak.toK 2535301200456458802993406410752 0 0 []) (J10 (v99_8) hm)
       ·
        replace hm := cF hq95_8 hm
        refine Wz (.b false) (Oq hq95_8 rfl) <| Wn <| Wn <| Wn <| Wn <| Wz (.b false) (OpF rfl) <| Wz (.b false) (OpF rfl) <| Nn ?_
        exact AWP.weak (Weak.toK 2535301200456458802993406410752 0 0 []) (J11 () hm)
    ·
     replace hm := cF hq75_8 hm
     refine Wz (.b false) (Oq hq75_8 rfl) <| Wn <| Wn <| Wn <| Wz (.b false) (OpF rfl) <| Wz (.b false) (OpF rfl) <| Wm (.b false) rfl <| Wz (.loc 0 0) (Ofa rfl) <| Wz (.y p0.Kind) (Old rfl) <| Wz (.b (decide (((p0.Kind.toNat : Nat) : Int) ≠ 8))) (Ob2 (.int .u8 ((p0.Kind.toNat : Nat) : Int)) (.int .u8 8) rfl (fun _ => hb_neq)) ?_
     rcases tf_ (decide (((p0.Kind.toNat : Nat) : Int) ≠ 8)) with hq85_8 | hq85_8
     ·
      replace hm := cT hq85_8 hm
      refine Wz (.b true) (Oq hq85_8 rfl) <| Wz (.loc 0 2) (Ofa rfl) <| Wz (.s p0.Var) (Old rfl) <| Wz (.b (decide (p0.Var ≠ ([] : List UInt8)))) (Ocs (lit_tf (by simp only [toS_inj, ne_eq])) (op_bin rfl (a1 := .string (toS p0.Var)) (a2 := .string (toS ([] : List UInt8))) (by kernel_rfl) (by kernel_rfl) (fun _ => hb_sneq))) <| Wz (.b (decide (p0.Var ≠ ([] : List UInt8)))) (OpT rfl) <| Wz (.b (decide (p0.Var ≠ ([] : List UInt8)))) (OpF rfl) ?_
      rcases tf_ (decide (p0.Var ≠ ([] : List UInt8))) with hq91_8 | hq91_8
      ·
       replace hm := cT hq91_8 hm
       refine Wz (.b true) (Oq hq91_8 rfl) <| Wn <| Wn <| Wn <| Wn <| Wn <| Wn <| Wn <| Wn <| Wn <| Wz (.b true) (OpT rfl) <| Nn ?_
       exact AWP.weak (Weak.toK 2535301200456458802993406410752 0 0 []) (J9 () hm)
      ·
       replace hm := cF hq91_8 hm
       refine Wz (.b false) (Oq hq91_8 rfl) <| Wz (.loc 0 0) (Ofa rfl) <| Wz (.y p0.Kind) (Old rfl) <| Wz (.b (decide (((p0.Kind.toNat : Nat) : Int) ≠ 9))) (Ob2 (.int .u8 ((p0.Kind.toNat : Nat) : Int)) (.int .u8 9) rfl (fun _ => hb_neq)) ?_
       rcases tf_ (decide (((p0.Kind.toNat : Nat) : Int) ≠ 9)) with hq95_8 | hq95_8
       ·
        replace hm := cT hq95_8 hm
        refine Wz (.b true) (Oq hq95_8 rfl) <| Wz (.loc 0 4) (Ofa rfl) <| Wz (.agg [(.y p0.Val.Kind), (.i p0.Val.N), (.u p0.Val.Bits), (.s p0.Val.Text)]) (Old rfl) <| Wz (.agg [(.y 0), (.i 0), (.u 0), (.s ([] : List UInt8))]) (Old rfl) ?_
        obtain ⟨v99_8, hv99_8, hm⟩ := bnd hm; replace hv99_8 := Option.some.inj hv99_8
        refine Wz (.b v99_8) (Ocs (Eq.trans (lit_tf (by simp only [toS_inj])) (congrArg (fun z => A.d (.lit (.bool z))) hv99_8)) (op_neq_struct rfl (la := [(.y p0.Val.Kind), (.i p0.Val.N), (.u p0.Val.Bits), (.s p0.Val.Text)]) (lb := [(.y 0), (.i 0), (.u 0), (.s ([] : List UInt8))]) (us := [.int .u8 ((p0.Val.Kind.toNat : Nat) : Int), .int .i64 p0.Val.N, .int .u64 p0.Val.Bits, .string (toS p0.Val.Text)]) (vs := [.int .u8 0, .int .i64 0, .int .u64 0, .string (toS ([] : List UInt8))]) (r := (decide (((p0.Val.Kind.toNat : Nat) : Int) = 0) && (decide (p0.Val.N = 0) && (decide (p0.Val.Bits = 0) && (decide ((toS p0.Val.Text) = (toS ([] : List UInt8))) && true))))) (by kernel_rfl) (by kernel_rfl) (by kernel_rfl) (by kernel_rfl) (by kernel_rfl))) <| Wz (.b v99_8) (OpT rfl) <| Wz (.b v99_8) (OpF rfl) <| Nn ?_
        exact AWP.weak (Weak.toK 2535301200456458802993406410752 0 0 []) (J10 (v99_8) hm)
       ·
        replace hm := cF hq95_8 hm
        refine Wz (.b false) (Oq hq95_8 rfl) <| Wn <| Wn <| Wn <| Wn <| Wz (.b false) (OpF rfl) <| Wz (.b false) (OpF rfl) <| Nn ?_
        exact AWP.weak (Weak.toK 2535301200456458802993406410752 0 0 []) (J11 () hm)
     ·
      replace hm := cF hq85_8 hm
      refine Wz (.b false) (Oq hq85_8 rfl) <| Wn <| Wn <| Wn <| Wz (.b false) (OpF rfl) <| Wz (.b false) (OpF rfl) <| Wm (.b false) rfl <| Wz (.loc 0 0) (Ofa rfl) <| Wz (.y p0.Kind) (Old rfl) <| Wz (.b (decide (((p0.Kind.toNat : Nat) : Int) ≠ 9))) (Ob2 (.int .u8 ((p0.Kind.toNat : Nat) : Int)) (.int .u8 9) rfl (fun _ => hb_neq)) ?_
      rcases tf_ (decide (((p0.Kind.toNat : Nat) : Int) ≠ 9)) with hq95_8 | hq95_8
      ·
       replace hm := cT hq95_8 hm
       refine Wz (.b true) (Oq hq95_8 rfl) <| Wz (.loc 0 4) (Ofa rfl) <| Wz (.agg [(.y p0.Val.Kind), (.i p0.Val.N), (.u p0.Val.Bits), (.s p0.Val.Text)]) (Old rfl) <| Wz (.agg [(.y 0), (.i 0), (.u 0), (.s ([] : List UInt8))]) (Old rfl) ?_
       obtain ⟨v99_8, hv99_8, hm⟩ := bnd hm; replace hv99_8 := Option.some.inj hv99_8
       refine Wz (.b v99_8) (Ocs (Eq.trans (lit_tf (by simp only [toS_inj])) (congrArg (fun z => A.d (.lit (.bool z))) hv99_8)) (op_neq_struct rfl (la := [(.y p0.Val.Kind), (.i p0.Val.N), (.u p0.Val.Bits), (.s p0.Val.Text)]) (lb := [(.y 0), (.i 0), (.u 0), (.s ([] : List UInt8))]) (us := [.int .u8 ((p0.Val.Kind.toNat : Nat) : Int), .int .i64 p0.Val.N, .int .u64 p0.Val.Bits, .string (toS p0.Val.Text)]) (vs := [.int .u8 0, .int .i64 0, .int .u64 0, .string (toS ([] : List UInt8))]) (r := (decide (((p0.Val.Kind.toNat : Nat) : Int) = 0) && (decide (p0.Val.N = 0) && (decide (p0.Val.Bits = 0) && (decide ((toS p0.Val.Text) = (toS ([] : List UInt8))) && true))))) (by kernel_rfl) (by kernel_rfl) (by kernel_rfl) (by kernel_rfl) (by kernel_rfl))) <| Wz (.b v99_8) (OpT rfl) <| Wz (.b v99_8) (OpF rfl) <| Nn ?_
       exact AWP.weak (Weak.toK 2535301200456458802993406410752 0 0 []) (J10 (v99_8) hm)
      ·
       replace hm := cF hq95_8 hm
       refine Wz (.b false) (Oq hq95_8 rfl) <| Wn <| Wn <| Wn <| Wn <| Wz (.b false) (OpF rfl) <| Wz (.b false) (OpF rfl) <| Nn ?_
       exact AWP.weak (Weak.toK 2535301200456458802993406410752 0 0 []) (J11 () hm)
   ·
    replace hm := cF hq70_8 hm
    refine Wz (.b false) (Oq hq70_8 rfl) <| Wn <| Wn <| Wn <| Wz (.b false) (OpF rfl) <| Wm (.b false) rfl <| Wn <| Wn <| Wn <| Wz (.b false) (OpF rfl) <| Wz (.b false) (OpF rfl) <| Wm (.b false) rfl <| Wz (.loc 0 0) (Ofa rfl) <| Wz (.y p0.Kind) (Old rfl) ?_
    refine Wz (.b (decide (((p0.Kind.toNat : Nat) : Int) ≠ 8))) (Ob2 (.int .u8 ((p0.Kind.toNat : Nat) : Int)) (.int .u8 8) rfl (fun _ => hb_neq)) ?_
    rcases tf_ (decide (((p0.Kind.toNat : Nat) : Int) ≠ 8)) with hq85_8 | hq85_8
    ·
     replace hm := cT hq85_8 hm
     refine Wz (.b true) (Oq hq85_8 rfl) <| Wz (.loc 0 2) (Ofa rfl) <| Wz (.s p0.Var) (Old rfl) <| Wz (.b (decide (p0.Var ≠ ([] : List UInt8)))) (Ocs (lit_tf (by simp only [toS_inj, ne_eq])) (op_bin rfl (a1 := .string (toS p0.Var)) (a2 := .string (toS ([] : List UInt8))) (by kernel_rfl) (by kernel_rfl) (fun _ => hb_sneq))) <| Wz (.b (decide (p0.Var ≠ ([] : List UInt8)))) (OpT rfl) <| Wz (.b (decide (p0.Var ≠ ([] : List UInt8)))) (OpF rfl) ?_
     rcases tf_ (decide (p0.Var ≠ ([] : List UInt8))) with hq91_8 | hq91_8
     ·
      replace hm := cT hq91_8 hm
      refine Wz (.b true) (Oq hq91_8 rfl) <| Wn <| Wn <| Wn <| Wn <| Wn <| Wn <| Wn <| Wn <| Wn <| Wz (.b true) (OpT rfl) <| Nn ?_
      exact AWP.weak (Weak.toK 2535301200456458802993406410752 0 0 []) (J9 () hm)
     ·
      replace hm := cF hq91_8 hm
      refine Wz (.b false) (Oq hq91_8 rfl) <| Wz (.loc 0 0) (Ofa rfl) <| Wz (.y p0.Kind) (Old rfl) <| Wz (.b (decide (((p0.Kind.toNat : Nat) : Int) ≠ 9))) (Ob2 (.int .u8 ((p0.Kind.toNat : Nat) : Int)) (.int .u8 9) rfl (fun _ => hb_neq)) ?_
      rcases tf_ (decide (((p0.Kind.toNat : Nat) : Int) ≠ 9)) with hq95_8 | hq95_8
      ·
       replace hm := cT hq95_8 hm
       refine Wz (.b true) (Oq hq95_8 rfl) <| Wz (.loc 0 4) (Ofa rfl) <| Wz (.agg [(.y p0.Val.Kind), (.i p0.Val.N), (.u p0.Val.Bits), (.s p0.Val.Text)]) (Old rfl) <| Wz (.agg [(.y 0), (.i 0), (.u 0), (.s ([] : List UInt8))]) (Old rfl) ?_
       obtain ⟨v99_8, hv99_8, hm⟩ := bnd hm; replace hv99_8 := Option.some.inj hv99_8
       refine Wz (.b v99_8) (Ocs (Eq.trans (lit_tf (by simp only [toS_inj])) (congrArg (fun z => A.d (.lit (.bool z))) hv99_8)) (op_neq_struct rfl (la := [(.y p0.Val.Kind), (.i p0.Val.N), (.u p0.Val.Bits), (.s p0.Val.Text)]) (lb := [(.y 0), (.i 0), (.u 0), (.s ([] : List UInt8))]) (us := [.int .u8 ((p0.Val.Kind.toNat : Nat) : Int), .int .i64 p0.Val.N, .int .u64 p0.Val.Bits, .string (toS p0.Val.Text)]) (vs := [.int .u8 0, .int .i64 0, .int .u64 0, .string (toS ([] : List UInt8))]) (r := (decide (((p0.Val.Kind.toNat : Nat) : Int) = 0) && (decide (p0.Val.N = 0) && (decide (p0.Val.Bits = 0) && (decide ((toS p0.Val.Text) = (toS ([] : List UInt8))) && true))))) (by kernel_rfl) (by kernel_rfl) (by kernel_rfl) (by kernel_rfl) (by kernel_rfl))) <| Wz (.b v99_8) (OpT rfl) <| Wz (.b v99_8) (OpF rfl) <| Nn ?_
       exact AWP.weak (Weak.toK 2535301200456458802993406410752 0 0 []) (J10 (v99_8) hm)
      ·
       replace hm := cF hq95_8 hm
       refine Wz (.b false) (Oq hq95_8 rfl) <| Wn <| Wn <| Wn <| Wn <| Wz (.b false) (OpF rfl) <| Wz (.b false) (OpF rfl) <| Nn ?_
       exact AWP.weak (Weak.toK 2535301200456458802993406410752 0 0 []) (J11 () hm)
    ·
     replace hm := cF hq85_8 hm
     refine Wz (.b false) (Oq hq85_8 rfl) <| Wn <| Wn <| Wn <| Wz (.b false) (OpF rfl) <| Wz (.b false) (OpF rfl) <| Wm (.b false) rfl <| Wz (.loc 0 0) (Ofa rfl) <| Wz (.y p0.Kind) (Old rfl) <| Wz (.b (decide (((p0.Kind.toNat : Nat) : Int) ≠ 9))) (Ob2 (.int .u8 ((p0.Kind.toNat : Nat) : Int)) (.int .u8 9) rfl (fun _ => hb_neq)) ?_
     rcases tf_ (decide (((p0.Kind.toNat : Nat) : Int) ≠ 9)) with hq95_8 | hq95_8
     ·
      replace hm := cT hq95_8 hm
      refine Wz (.b true) (Oq hq95_8 rfl) <| Wz (.loc 0 4) (Ofa rfl) <| Wz (.agg [(.y p0.Val.Kind), (.i p0.Val.N), (.u p0.Val.Bits), (.s p0.Val.Text)]) (Old rfl) <| Wz (.agg [(.y 0), (.i 0), (.u 0), (.s ([] : List UInt8))]) (Old rfl) ?_
      obtain ⟨v99_8, hv99_8, hm⟩ := bnd hm; replace hv99_8 := Option.some.inj hv99_8
      refine Wz (.b v99_8) (Ocs (Eq.trans (lit_tf (by simp only [toS_inj])) (congrArg (fun z => A.d (.lit (.bool z))) hv99_8)) (op_neq_struct rfl (la := [(.y p0.Val.Kind), (.i p0.Val.N), (.u p0.Val.Bits), (.s p0.Val.Text)]) (lb := [(.y 0), (.i 0), (.u 0), (.s ([] : List UInt8))]) (us := [.int .u8 ((p0.Val.Kind.toNat : Nat) : Int), .int .i64 p0.Val.N, .int .u64 p0.Val.Bits, .string (toS p0.Val.Text)]) (vs := [.int .u8 0, .int .i64 0, .int .u64 0, .string (toS ([] : List UInt8))]) (r := (decide (((p0.Val.Kind.toNat : Nat) : Int) = 0) && (decide (p0.Val.N = 0) && (decide (p0.Val.Bits = 0) && (decide ((toS p0.Val.Text) = (toS ([] : List UInt8))) && true))))) (by kernel_rfl) (by kernel_rfl) (by kernel_rfl) (by kernel_rfl) (by kernel_rfl))) <| Wz (.b v99_8) (OpT rfl) <| Wz (.b v99_8) (OpF rfl) <| Nn ?_
      exact AWP.weak (Weak.toK 2535301200456458802993406410752 0 0 []) (J10 (v99_8) hm)
     ·
      replace hm := cF hq95_8 hm
      refine Wz (.b false) (Oq hq95_8 rfl) <| Wn <| Wn <| Wn <| Wn <| Wz (.b false) (OpF rfl) <| Wz (.b false) (OpF rfl) <| Nn ?_
      exact AWP.weak (Weak.toK 2535301200456458802993406410752 0 0 []) (J11 () hm)
 refine Sx <| Wz (.loc 0 0) (Ofa rfl) <| Wz (.y p0.Kind) (Old rfl) <| Wz (.b (decide (((p0.Kind.toNat : Nat) : Int) = 4))) (Ob2 (.int .u8 ((p0.Kind.toNat : Nat) : Int)) (.int .u8 4) rfl (fun _ => hb_eql)) ?_
 rcases tf_ (decide (((p0.Kind.toNat : Nat) : Int) = 4)) with hq9_0 | hq9_0
 ·
  replace hm := cT hq9_0 hm
  refine Wz (.b true) (Oq hq9_0 rfl) <| Wz (.loc 0 1) (Ofa rfl) <| Wz (.y p0.Op) (Old rfl) <| Wz (.b (decide (((p0.Op.toNat : Nat) : Int) < 1))) (Ob2 (.int .u8 ((p0.Op.toNat : Nat) : Int)) (.int .u8 1) rfl (fun _ => hb_lss)) ?_
  rcases tf_ (decide (((p0.Op.toNat : Nat) : Int) < 1)) with hq13_0 | hq13_0
  ·
   replace hm := cT hq13_0 hm
   refine Wz (.b true) (Oq hq13_0 rfl) <| Wn <| Wn <| Wn <| Wz (.b true) (OpT rfl) <| Wz (.b true) (OpT rfl) <| Wm (.b true) rfl <| Wn <| Wn <| Wn <| Wn <| Wn <| Wn <| Wn ?_
   refine Wn <| Wn <| Wn <| Wn <| Wn <| Wn <| Wn <| Wz (.b true) (OpT rfl) <| Wm (.b true) rfl <| Wn <| Wn <| Wn <| Wn <| Wn ?_
   refine Wn <| Wn <| Wn <| Wn <| Wz (.b true) (OpT rfl) <| Wm (.b true) rfl <| Wn <| Wn <| Wn <| Wn <| Wn <| Wn <| Wn <| Wn ?_
   refine Wn <| Wz (.b true) (OpT rfl) <| Wm (.b true) rfl <| Nn ?_
   exact AWP.weak (Weak.toK 26 0 0 [0, 1]) (J1 () hm)
  ·
   replace hm := cF hq13_0 hm
   refine Wz (.b false) (Oq hq13_0 rfl) <| Wz (.loc 0 1) (Ofa rfl) <| Wz (.y p0.Op) (Old rfl) <| Wz (.b (decide ((6 : Int) < ((p0.Op.toNat : Nat) : Int)))) (Ob2 (.int .u8 ((p0.Op.toNat : Nat) : Int)) (.int .u8 6) rfl (fun _ => hb_gtr)) <| Wz (.b (decide ((6 : Int) < ((p0.Op.toNat : Nat) : Int)))) (OpF rfl) <| Wz (.b (decide ((6 : Int) < ((p0.Op.toNat : Nat) : Int)))) (OpT rfl) ?_
   rcases tf_ (decide ((6 : Int) < ((p0.Op.toNat : Nat) : Int))) with hq19_0 | hq19_0
   ·
    replace hm := cT hq19_0 hm
    refine Wz (.b true) (Oq hq19_0 rfl) <| Wn <| Wn <| Wn <| Wn <| Wn <| Wn <| Wn <| Wn <| Wn <| Wn <| Wn <| Wn <| Wn ?_
    refine Wn <| Wz (.b true) (OpT rfl) <| Wm (.b true) rfl <| Wn <| Wn <| Wn <| Wn <| Wn <| Wn <| Wn <| Wn <| Wn <| Wz (.b true) (OpT rfl) <| Wm (.b true) rfl ?_
    refine Wn <| Wn <| Wn <| Wn <| Wn <| Wn <| Wn <| Wn <| Wn <| Wz (.b true) (OpT rfl) <| Wm (.b true) rfl <| Nn ?_
    exact AWP.weak (Weak.toK 26 0 0 [0, 1]) (J1 () hm)
   ·
    replace hm := cF hq19_0 hm
    refine Wz (.b false) (Oq hq19_0 rfl) <| Wz (.loc 0 0) (Ofa rfl) <| Wz (.y p0.Kind) (Old rfl) <| Wz (.b (decide (((p0.Kind.toNat : Nat) : Int) = 7))) (Ob2 (.int .u8 ((p0.Kind.toNat : Nat) : Int)) (.int .u8 7) rfl (fun _ => hb_eql)) ?_
    rcases tf_ (decide (((p0.Kind.toNat : Nat) : Int) = 7)) with hq23_0 | hq23_0
    ·
     replace hm := cT hq23_0 hm
     refine Wz (.b true) (Oq hq23_0 rfl) <| Wn <| Wn <| Wn <| Wz (.b true) (OpT rfl) <| Wm (.b true) rfl <| Wz (.loc 0 3) (Ofa rfl) <| Wz (.s p0.Name) (Old rfl) ?_
     obtain ⟨r31_0, hr31_0, hm⟩ := bnd hm
     refine Wz (.b r31_0) (Ocf [] [] [] 0 (ok_telltaleref06_Name p0.Name r31_0 hr31_0) (fun a w => Try.call54 a w) rfl trivial) <| Wz (.b (!r31_0)) (Ocs (by kernel_rfl) (op_un rfl (a1 := .bool r31_0) (by kernel_rfl) (fun _ => hu_not))) <| Wz (.b (!r31_0)) (OpT rfl) <| Wz (.b (!r31_0)) (OpF rfl) ?_
     rcases tf_ (!r31_0) with hq35_0 | hq35_0
     ·
      replace hm := cT hq35_0 hm
      refine Wz (.b true) (Oq hq35_0 rfl) <| Wn <| Wn <| Wn <| Wn <| Wn <| Wn <| Wn <| Wn <| Wn <| Wz (.b true) (OpT rfl) <| Wm (.b true) rfl <| Wn <| Wn ?_
      refine Wn <| Wn <| Wn <| Wn <| Wn <| Wn <| Wn <| Wz (.b true) (OpT rfl) <| Wm (.b true) rfl <| Nn ?_
      exact AWP.weak (Weak.toK 26 0 0 [0, 1]) (J1 () hm)
     ·
      replace hm := cF hq35_0 hm
      refine Wz (.b false) (Oq hq35_0 rfl) <| Wz (.loc 0 0) (Ofa rfl) <| Wz (.y p0.Kind) (Old rfl) <| Wz (.b (decide (((p0.Kind.toNat : Nat) : Int) = 8))) (Ob2 (.int .u8 ((p0.Kind.toNat : Nat) : Int)) (.int .u8 8) rfl (fun _ => hb_eql)) ?_
      rcases tf_ (decide (((p0.Kind.toNat : Nat) : Int) = 8)) with hq39_0 | hq39_0
      ·
       replace hm := cT hq39_0 hm
       refine Wz (.b true) (Oq hq39_0 rfl) <| Wz (.loc 0 2) (Ofa rfl) <| Wz (.s p0.Var) (Old rfl) ?_
       obtain ⟨r42_0, hr42_0, hm⟩ := bnd hm
       refine Wz (.b r42_0) (Ocf [] [] [] 0 (ok_telltaleref06_Name p0.Var r42_0 hr42_0) (fun a w => Try.call54 a w) rfl trivial) <| Wz (.b (!r42_0)) (Ocs (by kernel_rfl) (op_un rfl (a1 := .bool r42_0) (by kernel_rfl) (fun _ => hu_not))) <| Wz (.b (!r42_0)) (OpT rfl) <| Wz (.b (!r42_0)) (OpF rfl) ?_
       rcases tf_ (!r42_0) with hq46_0 | hq46_0
       ·
        replace hm := cT hq46_0 hm
        refine Wz (.b true) (Oq hq46_0 rfl) <| Wn <| Wn <| Wn <| Wn <| Wn <| Wn <| Wn <| Wn <| Wn <| Wz (.b true) (OpT rfl) <| Wm (.b true) rfl <| Nn ?_
        exact AWP.weak (Weak.toK 26 0 0 [0, 1]) (J1 () hm)
       ·
        replace hm := cF hq46_0 hm
        refine Wz (.b false) (Oq hq46_0 rfl) <| Wz (.loc 0 0) (Ofa rfl) <| Wz (.y p0.Kind) (Old rfl) <| Wz (.b (decide (((p0.Kind.toNat : Nat) : Int) = 9))) (Ob2 (.int .u8 ((p0.Kind.toNat : Nat) : Int)) (.int .u8 9) rfl (fun _ => hb_eql)) ?_
        rcases tf_ (decide (((p0.Kind.toNat : Nat) : Int) = 9)) with hq50_0 | hq50_0
        ·
         replace hm := cT hq50_0 hm
         refine Wz (.b true) (Oq hq50_0 rfl) <| Wz (.loc 0 4) (Ofa rfl) <| Wz (.agg [(.y p0.Val.Kind), (.i p0.Val.N), (.u p0.Val.Bits), (.s p0.Val.Text)]) (Old rfl) ?_
         obtain ⟨r53_0, hr53_0, hm⟩ := bnd hm
         refine Wz (.i r53_0) (Ocf [] [] [] 0 (ok_telltaleref04_Check p0.Val r53_0 hr53_0) (fun a w => Try.call55 a w) rfl trivial) <| Wz (.b (decide (r53_0 ≠ 0))) (Obn rfl (fun _ => hb_neq (k := .i64))) <| Wz (.b (decide (r53_0 ≠ 0))) (OpT rfl) <| Wz (.b (decide (r53_0 ≠ 0))) (OpF rfl) <| Wm (.b (decide (r53_0 ≠ 0))) rfl <| Nn ?_
         exact AWP.weak (Weak.toK 26 0 0 [0, 1]) (J2 (decide (r53_0 ≠ 0)) hm)
        ·
         replace hm := cF hq50_0 hm
         refine Wz (.b false) (Oq hq50_0 rfl) <| Wn <| Wn <| Wn <| Wn <| Wz (.b false) (OpF rfl) <| Wz (.b false) (OpF rfl) <| Wm (.b false) rfl <| Nn ?_
         exact AWP.weak (Weak.toK 26 0 0 [0, 1]) (J3 () hm)
      ·
       replace hm := cF hq39_0 hm
       refine Wz (.b false) (Oq hq39_0 rfl) <| Wn <| Wn <| Wn <| Wn <| Wz (.b false) (OpF rfl) <| Wz (.b false) (OpF rfl) <| Wm (.b false) rfl <| Wz (.loc 0 0) (Ofa rfl) <| Wz (.y p0.Kind) (Old rfl) <| Wz (.b (decide (((p0.Kind.toNat : Nat) : Int) = 9))) (Ob2 (.int .u8 ((p0.Kind.toNat : Nat) : Int)) (.int .u8 9) rfl (fun _ => hb_eql)) ?_
       rcases tf_ (decide (((p0.Kind.toNat : Nat) : Int) = 9)) with hq50_0 | hq50_0
       ·
        replace hm := cT hq50_0 hm
        refine Wz (.b true) (Oq hq50_0 rfl) <| Wz (.loc 0 4) (Ofa rfl) <| Wz (.agg [(.y p0.Val.Kind), (.i p0.Val.N), (.u p0.Val.Bits), (.s p0.Val.Text)]) (Old rfl) ?_
        obtain ⟨r53_0, hr53_0, hm⟩ := bnd hm
        refine Wz (.i r53_0) (Ocf [] [] [] 0 (ok_telltaleref04_Check p0.Val r53_0 hr53_0) (fun a w => Try.call55 a w) rfl trivial) <| Wz (.b (decide (r53_0 ≠ 0))) (Obn rfl (fun _ => hb_neq (k := .i64))) <| Wz (.b (decide (r53_0 ≠ 0))) (OpT rfl) <| Wz (.b (decide (r53_0 ≠ 0))) (OpF rfl) <| Wm (.b (decide (r53_0 ≠ 0))) rfl <| Nn ?_
        exact AWP.weak (Weak.toK 26 0 0 [0, 1]) (J2 (decide (r53_0 ≠ 0)) hm)
       ·
        replace hm := cF hq50_0 hm
        refine Wz (.b false) (Oq hq50_0 rfl) <| Wn <| Wn <| Wn <| Wn <| Wz (.b false) (OpF rfl) <| Wz (.b false) (OpF rfl) <| Wm (.b false) rfl <| Nn ?_
        exact AWP.weak (Weak.toK 26 0 0 [0, 1]) (J3 () hm)
    ·
     replace hm := cF hq23_0 hm
     refine Wz (.b false) (Oq hq23_0 rfl) <| Wz (.loc 0 0) (Ofa rfl) <| Wz (.y p0.Kind) (Old rfl) <| Wz (.b (decide (((p0.Kind.toNat : Nat) : Int) = 8))) (Ob2 (.int .u8 ((p0.Kind.toNat : Nat) : Int)) (.int .u8 8) rfl (fun _ => hb_eql)) <| Wz (.b (decide (((p0.Kind.toNat : Nat) : Int) = 8))) (OpF rfl) ?_
     rcases tf_ (decide (((p0.Kind.toNat : Nat) : Int) = 8)) with hq28_0 | hq28_0
     ·
      replace hm := cT hq28_0 hm
      refine Wz (.b true) (Oq hq28_0 rfl) <| Wz (.loc 0 3) (Ofa rfl) <| Wz (.s p0.Name) (Old rfl) ?_
      obtain ⟨r31_0, hr31_0, hm⟩ := bnd hm
      refine Wz (.b r31_0) (Ocf [] [] [] 0 (ok_telltaleref06_Name p0.Name r31_0 hr31_0) (fun a w => Try.call54 a w) rfl trivial) <| Wz (.b (!r31_0)) (Ocs (by kernel_rfl) (op_un rfl (a1 := .bool r31_0) (by kernel_rfl) (fun _ => hu_not))) <| Wz (.b (!r31_0)) (OpT rfl) <| Wz (.b (!r31_0)) (OpF rfl) ?_
      rcases tf_ (!r31_0) with hq35_0 | hq35_0
      ·
       replace hm := cT hq35_0 hm
       refine Wz (.b true) (Oq hq35_0 rfl) <| Wn <| Wn <| Wn <| Wn <| Wn <| Wn <| Wn <| Wn <| Wn <| Wz (.b true) (OpT rfl) <| Wm (.b true) rfl <| Wn <| Wn ?_
       refine Wn <| Wn <| Wn <| Wn <| Wn <| Wn <| Wn <| Wz (.b true) (OpT rfl) <| Wm (.b true) rfl <| Nn ?_
       exact AWP.weak (Weak.toK 26 0 0 [0, 1]) (J1 () hm)
      ·
       replace hm := cF hq35_0 hm
       refine Wz (.b false) (Oq hq35_0 rfl) <| Wz (.loc 0 0) (Ofa rfl) <| Wz (.y p0.Kind) (Old rfl) <| Wz (.b (decide (((p0.Kind.toNat : Nat) : Int) = 8))) (Ob2 (.int .u8 ((p0.Kind.toNat : Nat) : Int)) (.int .u8 8) rfl (fun _ => hb_eql)) ?_
       rcases tf_ (decide (((p0.Kind.toNat : Nat) : Int) = 8)) with hq39_0 | hq39_0
       ·
        replace hm := cT hq39_0 hm
        refine Wz (.b true) (Oq hq39_0 rfl) <| Wz (.loc 0 2) (Ofa rfl) <| Wz (.s p0.Var) (Old rfl) ?_
        obtain ⟨r42_0, hr42_0, hm⟩ := bnd hm
        refine Wz (.b r42_0) (Ocf [] [] [] 0 (ok_telltaleref06_Name p0.Var r42_0 hr42_0) (fun a w => Try.call54 a w) rfl trivial) <| Wz (.b (!r42_0)) (Ocs (by kernel_rfl) (op_un rfl (a1 := .bool r42_0) (by kernel_rfl) (fun _ => hu_not))) <| Wz (.b (!r42_0)) (OpT rfl) <| Wz (.b (!r42_0)) (OpF rfl) ?_
        rcases tf_ (!r42_0) with hq46_0 | hq46_0
        ·
         replace hm := cT hq46_0 hm
         refine Wz (.b true) (Oq hq46_0 rfl) <| Wn <| Wn <| Wn <| Wn <| Wn <| Wn <| Wn <| Wn <| Wn <| Wz (.b true) (OpT rfl) <| Wm (.b true) rfl <| Nn ?_
         exact AWP.weak (Weak.toK 26 0 0 [0, 1]) (J1 () hm)
        ·
         replace hm := cF hq46_0 hm
         refine Wz (.b false) (Oq hq46_0 rfl) <| Wz (.loc 0 0) (Ofa rfl) <| Wz (.y p0.Kind) (Old rfl) <| Wz (.b (decide (((p0.Kind.toNat : Nat) : Int) = 9))) (Ob2 (.int .u8 ((p0.Kind.toNat : Nat) : Int)) (.int .u8 9) rfl (fun _ => hb_eql)) ?_
         rcases tf_ (decide (((p0.Kind.toNat : Nat) : Int) = 9)) with hq50_0 | hq50_0
         ·
          replace hm := cT hq50_0 hm
          refine Wz (.b true) (Oq hq50_0 rfl) <| Wz (.loc 0 4) (Ofa rfl) <| Wz (.agg [(.y p0.Val.Kind), (.i p0.Val.N), (.u p0.Val.Bits), (.s p0.Val.Text)]) (Old rfl) ?_
          obtain ⟨r53_0, hr53_0, hm⟩ := bnd hm
          refine Wz (.i r53_0) (Ocf [] [] [] 0 (ok_telltaleref04_Check p0.Val r53_0 hr53_0) (fun a w => Try.call55 a w) rfl trivial) <| Wz (.b (decide (r53_0 ≠ 0))) (Obn rfl (fun _ => hb_neq (k := .i64))) <| Wz (.b (decide (r53_0 ≠ 0))) (OpT rfl) <| Wz (.b (decide (r53_0 ≠ 0))) (OpF rfl) <| Wm (.b (decide (r53_0 ≠ 0))) rfl <| Nn ?_
          exact AWP.weak (Weak.toK 26 0 0 [0, 1]) (J2 (decide (r53_0 ≠ 0)) hm)
         ·
          replace hm := cF hq50_0 hm
          refine Wz (.b false) (Oq hq50_0 rfl) <| Wn <| Wn <| Wn <| Wn <| Wz (.b false) (OpF rfl) <| Wz (.b false) (OpF rfl) <| Wm (.b false) rfl <| Nn ?_
          exact AWP.weak (Weak.toK 26 0 0 [0, 1]) (J3 () hm)
       ·
        replace hm := cF hq39_0 hm
        refine Wz (.b false) (Oq hq39_0 rfl) <| Wn <| Wn <| Wn <| Wn <| Wz (.b false) (OpF rfl) <| Wz (.b false) (OpF rfl) <| Wm (.b false) rfl <| Wz (.loc 0 0) (Ofa rfl) <| Wz (.y p0.Kind) (Old rfl) <| Wz (.b (decide (((p0.Kind.toNat : Nat) : Int) = 9))) (Ob2 (.int .u8 ((p0.Kind.toNat : Nat) : Int)) (.int .u8 9) rfl (fun _ => hb_eql)) ?_
        rcases tf_ (decide (((p0.Kind.toNat : Nat) : Int) = 9)) with hq50_0 | hq50_0
        ·
         replace hm := cT hq50_0 hm
         refine Wz (.b true) (Oq hq50_0 rfl) <| Wz (.loc 0 4) (Ofa rfl) <| Wz (.agg [(.y p0.Val.Kind), (.i p0.Val.N), (.u p0.Val.Bits), (.s p0.Val.Text)]) (Old rfl) ?_
         obtain ⟨r53_0, hr53_0, hm⟩ := bnd hm
         refine Wz (.i r53_0) (Ocf [] [] [] 0 (ok_telltaleref04_Check p0.Val r53_0 hr53_0) (fun a w => Try.call55 a w) rfl trivial) <| Wz (.b (decide (r53_0 ≠ 0))) (Obn rfl (fun _ => hb_neq (k := .i64))) <| Wz (.b (decide (r53_0 ≠ 0))) (OpT rfl) <| Wz (.b (decide (r53_0 ≠ 0))) (OpF rfl) <| Wm (.b (decide (r53_0 ≠ 0))) rfl <| Nn ?_
         exact AWP.weak (Weak.toK 26 0 0 [0, 1]) (J2 (decide (r53_0 ≠ 0)) hm)
        ·
         replace hm := cF hq50_0 hm
         refine Wz (.b false) (Oq hq50_0 rfl) <| Wn <| Wn <| Wn <| Wn <| Wz (.b false) (OpF rfl) <| Wz (.b false) (OpF rfl) <| Wm (.b false) rfl <| Nn ?_
         exact AWP.weak (Weak.toK 26 0 0 [0, 1]) (J3 () hm)
     ·
      replace hm := cF hq28_0 hm
      refine Wz (.b false) (Oq hq28_0 rfl) <| Wn <| Wn <| Wn <| Wn <| Wz (.b false) (OpF rfl) <| Wz (.b false) (OpF rfl) <| Wm (.b false) rfl <| Wz (.loc 0 0) (Ofa rfl) <| Wz (.y p0.Kind) (Old rfl) <| Wz (.b (decide (((p0.Kind.toNat : Nat) : Int) = 8))) (Ob2 (.int .u8 ((p0.Kind.toNat : Nat) : Int)) (.int .u8 8) rfl (fun _ => hb_eql)) ?_
      rcases tf_ (decide (((p0.Kind.toNat : Nat) : Int) = 8)) with hq39_0 | hq39_0
      ·
       replace hm := cT hq39_0 hm
       refine Wz (.b true) (Oq hq39_0 rfl) <| Wz (.loc 0 2) (Ofa rfl) <| Wz (.s p0.Var) (Old rfl) ?_
       obtain ⟨r42_0, hr42_0, hm⟩ := bnd hm
       refine Wz (.b r42_0) (Ocf [] [] [] 0 (ok_telltaleref06_Name p0.Var r42_0 hr42_0) (fun a w => Try.call54 a w) rfl trivial) <| Wz (.b (!r42_0)) (Ocs (by kernel_rfl) (op_un rfl (a1 := .bool r42_0) (by kernel_rfl) (fun _ => hu_not))) <| Wz (.b (!r42_0)) (OpT rfl) <| Wz (.b (!r42_0)) (OpF rfl) ?_
       rcases tf_ (!r42_0) with hq46_0 | hq46_0
       ·
        replace hm := cT hq46_0 hm
        refine Wz (.b true) (Oq hq46_0 rfl) <| Wn <| Wn <| Wn <| Wn <| Wn <| Wn <| Wn <| Wn <| Wn <| Wz (.b true) (OpT rfl) <| Wm (.b true) rfl <| Nn ?_
        exact AWP.weak (Weak.toK 26 0 0 [0, 1]) (J1 () hm)
       ·
        replace hm := cF hq46_0 hm
        refine Wz (.b false) (Oq hq46_0 rfl) <| Wz (.loc 0 0) (Ofa rfl) <| Wz (.y p0.Kind) (Old rfl) <| Wz (.b (decide (((p0.Kind.toNat : Nat) : Int) = 9))) (Ob2 (.int .u8 ((p0.Kind.toNat : Nat) : Int)) (.int .u8 9) rfl (fun _ => hb_eql)) ?_
        rcases tf_ (decide (((p0.Kind.toNat : Nat) : Int) = 9)) with hq50_0 | hq50_0
        ·
         replace hm := cT hq50_0 hm
         refine Wz (.b true) (Oq hq50_0 rfl) <| Wz (.loc 0 4) (Ofa rfl) <| Wz (.agg [(.y p0.Val.Kind), (.i p0.Val.N), (.u p0.Val.Bits), (.s p0.Val.Text)]) (Old rfl) ?_
         obtain ⟨r53_0, hr53_0, hm⟩ := bnd hm
         refine Wz (.i r53_0) (Ocf [] [] [] 0 (ok_telltaleref04_Check p0.Val r53_0 hr53_0) (fun a w => Try.call55 a w) rfl trivial) <| Wz (.b (decide (r53_0 ≠ 0))) (Obn rfl (fun _ => hb_neq (k := .i64))) <| Wz (.b (decide (r53_0 ≠ 0))) (OpT rfl) <| Wz (.b (decide (r53_0 ≠ 0))) (OpF rfl) <| Wm (.b (decide (r53_0 ≠ 0))) rfl <| Nn ?_
         exact AWP.weak (Weak.toK 26 0 0 [0, 1]) (J2 (decide (r53_0 ≠ 0)) hm)
        ·
         replace hm := cF hq50_0 hm
         refine Wz (.b false) (Oq hq50_0 rfl) <| Wn <| Wn <| Wn <| Wn <| Wz (.b false) (OpF rfl) <| Wz (.b false) (OpF rfl) <| Wm (.b false) rfl <| Nn ?_
         exact AWP.weak (Weak.toK 26 0 0 [0, 1]) (J3 () hm)
      ·
       replace hm := cF hq39_0 hm
       refine Wz (.b false) (Oq hq39_0 rfl) <| Wn <| Wn <| Wn <| Wn <| Wz (.b false) (OpF rfl) <| Wz (.b false) (OpF rfl) <| Wm (.b false) rfl <| Wz (.loc 0 0) (Ofa rfl) <| Wz (.y p0.Kind) (Old rfl) <| Wz (.b (decide (((p0.Kind.toNat : Nat) : Int) = 9))) (Ob2 (.int .u8 ((p0.Kind.toNat : Nat) : Int)) (.int .u8 9) rfl (fun _ => hb_eql)) ?_
       rcases tf_ (decide (((p0.Kind.toNat : Nat) : Int) = 9)) with hq50_0 | hq50_0
       ·
        replace hm := cT hq50_0 hm
        refine Wz (.b true) (Oq hq50_0 rfl) <| Wz (.loc 0 4) (Ofa rfl) <| Wz (.agg [(.y p0.Val.Kind), (.i p0.Val.N), (.u p0.Val.Bits), (.s p0.Val.Text)]) (Old rfl) ?_
        obtain ⟨r53_0, hr53_0, hm⟩ := bnd hm
        refine Wz (.i r53_0) (Ocf [] [] [] 0 (ok_telltaleref04_Check p0.Val r53_0 hr53_0) (fun a w => Try.call55 a w) rfl trivial) <| Wz (.b (decide (r53_0 ≠ 0))) (Obn rfl (fun _ => hb_neq (k := .i64))) <| Wz (.b (decide (r53_0 ≠ 0))) (OpT rfl) <| Wz (.b (decide (r53_0 ≠ 0))) (OpF rfl) <| Wm (.b (decide (r53_0 ≠ 0))) rfl <| Nn ?_
        exact AWP.weak (Weak.toK 26 0 0 [0, 1]) (J2 (decide (r53_0 ≠ 0)) hm)
       ·
        replace hm := cF hq50_0 hm
        refine Wz (.b false) (Oq hq50_0 rfl) <| Wn <| Wn <| Wn <| Wn <| Wz (.b false) (OpF rfl) <| Wz (.b false) (OpF rfl) <| Wm (.b false) rfl <| Nn ?_
        exact AWP.weak (Weak.toK 26 0 0 [0, 1]) (J3 () hm)
 ·
  replace hm := cF hq9_0 hm
  refine Wz (.b false) (Oq hq9_0 rfl) <| Wn <| Wn <| Wn <| Wn <| Wn <| Wn <| Wn <| Wn <| Wz (.b false) (OpF rfl) <| Wm (.b false) rfl <| Wz (.loc 0 0) (Ofa rfl) <| Wz (.y p0.Kind) (Old rfl) <| Wz (.b (decide (((p0.Kind.toNat : Nat) : Int) = 7))) (Ob2 (.int .u8 ((p0.Kind.toNat : Nat) : Int)) (.int .u8 7) rfl (fun _ => hb_eql)) ?_
  rcases tf_ (decide (((p0.Kind.toNat : Nat) : Int) = 7)) with hq23_0 | hq23_0
  ·
   replace hm := cT hq23_0 hm
   refine Wz (.b true) (Oq hq23_0 rfl) <| Wn <| Wn <| Wn <| Wz (.b true) (OpT rfl) <| Wm (.b true) rfl <| Wz (.loc 0 3) (Ofa rfl) <| Wz (.s p0.Name) (Old rfl) ?_
   obtain ⟨r31_0, hr31_0, hm⟩ := bnd hm
   refine Wz (.b r31_0) (Ocf [] [] [] 0 (ok_telltaleref06_Name p0.Name r31_0 hr31_0) (fun a w => Try.call54 a w) rfl trivial) <| Wz (.b (!r31_0)) (Ocs (by kernel_rfl) (op_un rfl (a1 := .bool r31_0) (by kernel_rfl) (fun _ => hu_not))) <| Wz (.b (!r31_0)) (OpT rfl) <| Wz (.b (!r31_0)) (OpF rfl) ?_
   rcases tf_ (!r31_0) with hq35_0 | hq35_0
   ·
    replace hm := cT hq35_0 hm
    refine Wz (.b true) (Oq hq35_0 rfl) <| Wn <| Wn <| Wn <| Wn <| Wn <| Wn <| Wn <| Wn <| Wn <| Wz (.b true) (OpT rfl) <| Wm (.b true) rfl <| Wn <| Wn ?_
    refine Wn <| Wn <| Wn <| Wn <| Wn <| Wn <| Wn <| Wz (.b true) (OpT rfl) <| Wm (.b true) rfl <| Nn ?_
    exact AWP.weak (Weak.toK 26 0 0 [0, 1]) (J1 () hm)
   ·
    replace hm := cF hq35_0 hm
    refine Wz (.b false) (Oq hq35_0 rfl) <| Wz (.loc 0 0) (Ofa rfl) <| Wz (.y p0.Kind) (Old rfl) <| Wz (.b (decide (((p0.Kind.toNat : Nat) : Int) = 8))) (Ob2 (.int .u8 ((p0.Kind.toNat : Nat) : Int)) (.int .u8 8) rfl (fun _ => hb_eql)) ?_
    rcases tf_ (decide (((p0.Kind.toNat : Nat) : Int) = 8)) with hq39_0 | hq39_0
    ·
     replace hm := cT hq39_0 hm
     refine Wz (.b true) (Oq hq39_0 rfl) <| Wz (.loc 0 2) (Ofa rfl) <| Wz (.s p0.Var) (Old rfl) ?_
     obtain ⟨r42_0, hr42_0, hm⟩ := bnd hm
     refine Wz (.b r42_0) (Ocf [] [] [] 0 (ok_telltaleref06_Name p0.Var r42_0 hr42_0) (fun a w => Try.call54 a w) rfl trivial) <| Wz (.b (!r42_0)) (Ocs (by kernel_rfl) (op_un rfl (a1 := .bool r42_0) (by kernel_rfl) (fun _ => hu_not))) <| Wz (.b (!r42_0)) (OpT rfl) <| Wz (.b (!r42_0)) (OpF rfl) ?_
     rcases tf_ (!r42_0) with hq46_0 | hq46_0
     ·
      replace hm := cT hq46_0 hm
      refine Wz (.b true) (Oq hq46_0 rfl) <| Wn <| Wn <| Wn <| Wn <| Wn <| Wn <| Wn <| Wn <| Wn <| Wz (.b true) (OpT rfl) <| Wm (.b true) rfl <| Nn ?_
      exact AWP.weak (Weak.toK 26 0 0 [0, 1]) (J1 () hm)
     ·
      replace hm := cF hq46_0 hm
      refine Wz (.b false) (Oq hq46_0 rfl) <| Wz (.loc 0 0) (Ofa rfl) <| Wz (.y p0.Kind) (Old rfl) <| Wz (.b (decide (((p0.Kind.toNat : Nat) : Int) = 9))) (Ob2 (.int .u8 ((p0.Kind.toNat : Nat) : Int)) (.int .u8 9) rfl (fun _ => hb_eql)) ?_
      rcases tf_ (decide (((p0.Kind.toNat : Nat) : Int) = 9)) with hq50_0 | hq50_0
      ·
       replace hm := cT hq50_0 hm
       refine Wz (.b true) (Oq hq50_0 rfl) <| Wz (.loc 0 4) (Ofa rfl) <| Wz (.agg [(.y p0.Val.Kind), (.i p0.Val.N), (.u p0.Val.Bits), (.s p0.Val.Text)]) (Old rfl) ?_
       obtain ⟨r53_0, hr53_0, hm⟩ := bnd hm
       refine Wz (.i r53_0) (Ocf [] [] [] 0 (ok_telltaleref04_Check p0.Val r53_0 hr53_0) (fun a w => Try.call55 a w) rfl trivial) <| Wz (.b (decide (r53_0 ≠ 0))) (Obn rfl (fun _ => hb_neq (k := .i64))) <| Wz (.b (decide (r53_0 ≠ 0))) (OpT rfl) <| Wz (.b (decide (r53_0 ≠ 0))) (OpF rfl) <| Wm (.b (decide (r53_0 ≠ 0))) rfl <| Nn ?_
       exact AWP.weak (Weak.toK 26 0 0 [0, 1]) (J2 (decide (r53_0 ≠ 0)) hm)
      ·
       replace hm := cF hq50_0 hm
       refine Wz (.b false) (Oq hq50_0 rfl) <| Wn <| Wn <| Wn <| Wn <| Wz (.b false) (OpF rfl) <| Wz (.b false) (OpF rfl) <| Wm (.b false) rfl <| Nn ?_
       exact AWP.weak (Weak.toK 26 0 0 [0, 1]) (J3 () hm)
    ·
     replace hm := cF hq39_0 hm
     refine Wz (.b false) (Oq hq39_0 rfl) <| Wn <| Wn <| Wn <| Wn <| Wz (.b false) (OpF rfl) <| Wz (.b false) (OpF rfl) <| Wm (.b false) rfl <| Wz (.loc 0 0) (Ofa rfl) <| Wz (.y p0.Kind) (Old rfl) <| Wz (.b (decide (((p0.Kind.toNat : Nat) : Int) = 9))) (Ob2 (.int .u8 ((p0.Kind.toNat : Nat) : Int)) (.int .u8 9) rfl (fun _ => hb_eql)) ?_
     rcases tf_ (decide (((p0.Kind.toNat : Nat) : Int) = 9)) with hq50_0 | hq50_0
     ·
      replace hm := cT hq50_0 hm
      refine Wz (.b true) (Oq hq50_0 rfl) <| Wz (.loc 0 4) (Ofa rfl) <| Wz (.agg [(.y p0.Val.Kind), (.i p0.Val.N), (.u p0.Val.Bits), (.s p0.Val.Text)]) (Old rfl) ?_
      obtain ⟨r53_0, hr53_0, hm⟩ := bnd hm
      refine Wz (.i r53_0) (Ocf [] [] [] 0 (ok_telltaleref04_Check p0.Val r53_0 hr53_0) (fun a w => Try.call55 a w) rfl trivial) <| Wz (.b (decide (r53_0 ≠ 0))) (Obn rfl (fun _ => hb_neq (k := .i64))) <| Wz (.b (decide (r53_0 ≠ 0))) (OpT rfl) <| Wz (.b (decide (r53_0 ≠ 0))) (OpF rfl) <| Wm (.b (decide (r53_0 ≠ 0))) rfl <| Nn ?_
      exact AWP.weak (Weak.toK 26 0 0 [0, 1]) (J2 (decide (r53_0 ≠ 0)) hm)
     ·
      replace hm := cF hq50_0 hm
      refine Wz (.b false) (Oq hq50_0 rfl) <| Wn <| Wn <| Wn <| Wn <| Wz (.b false) (OpF rfl) <| Wz (.b false) (OpF rfl) <| Wm (.b false) rfl <| Nn ?_
      exact AWP.weak (Weak.toK 26 0 0 [0, 1]) (J3 () hm)
  ·
   replace hm := cF hq23_0 hm
   refine Wz (.b false) (Oq hq23_0 rfl) <| Wz (.loc 0 0) (Ofa rfl) <| Wz (.y p0.Kind) (Old rfl) <| Wz (.b (decide (((p0.Kind.toNat : Nat) : Int) = 8))) (Ob2 (.int .u8 ((p0.Kind.toNat : Nat) : Int)) (.int .u8 8) rfl (fun _ => hb_eql)) <| Wz (.b (decide (((p0.Kind.toNat : Nat) : Int) = 8))) (OpF rfl) ?_
   rcases tf_ (decide (((p0.Kind.toNat : Nat) : Int) = 8)) with hq28_0 | hq28_0
   ·
    replace hm := cT hq28_0 hm
    refine Wz (.b true) (Oq hq28_0 rfl) <| Wz (.loc 0 3) (Ofa rfl) <| Wz (.s p0.Name) (Old rfl) ?_
    obtain ⟨r31_0, hr31_0, hm⟩ := bnd hm
    refine Wz (.b r31_0) (Ocf [] [] [] 0 (ok_telltaleref06_Name p0.Name r31_0 hr31_0) (fun a w => Try.call54 a w) rfl trivial) <| Wz (.b (!r31_0)) (Ocs (by kernel_rfl) (op_un rfl (a1 := .bool r31_0) (by kernel_rfl) (fun _ => hu_not))) <| Wz (.b (!r31_0)) (OpT rfl) <| Wz (.b (!r31_0)) (OpF rfl) ?_
    rcases tf_ (!r31_0) with hq35_0 | hq35_0
    ·
     replace hm := cT hq35_0 hm
     refine Wz (.b true) (Oq hq35_0 rfl) <| Wn <| Wn <| Wn <| Wn <| Wn <| Wn <| Wn <| Wn <| Wn <| Wz (.b true) (OpT rfl) <| Wm (.b true) rfl <| Wn <| Wn ?_
     refine Wn <| Wn <| Wn <| Wn <| Wn <| Wn <| Wn <| Wz (.b true) (OpT rfl) <| Wm (.b true) rfl <| Nn ?_
     exact AWP.weak (Weak.toK 26 0 0 [0, 1]) (J1 () hm)
    ·
     replace hm := cF hq35_0 hm
     refine Wz (.b false) (Oq hq35_0 rfl) <| Wz (.loc 0 0) (Ofa rfl) <| Wz (.y p0.Kind) (Old rfl) <| Wz (.b (decide (((p0.Kind.toNat : Nat) : Int) = 8))) (Ob2 (.int .u8 ((p0.Kind.toNat : Nat) : Int)) (.int .u8 8) rfl (fun _ => hb_eql)) ?_
     rcases tf_ (decide (((p0.Kind.toNat : Nat) : Int) = 8)) with hq39_0 | hq39_0
     ·
      replace hm := cT hq39_0 hm
      refine Wz (.b true) (Oq hq39_0 rfl) <| Wz (.loc 0 2) (Ofa rfl) <| Wz (.s p0.Var) (Old rfl) ?_
      obtain ⟨r42_0, hr42_0, hm⟩ := bnd hm
      refine Wz (.b r42_0) (Ocf [] [] [] 0 (ok_telltaleref06_Name p0.Var r42_0 hr42_0) (fun a w => Try.call54 a w) rfl trivial) <| Wz (.b (!r42_0)) (Ocs (by kernel_rfl) (op_un rfl (a1 := .bool r42_0) (by kernel_rfl) (fun _ => hu_not))) <| Wz (.b (!r42_0)) (OpT rfl) <| Wz (.b (!r42_0)) (OpF rfl) ?_
      rcases tf_ (!r42_0) with hq46_0 | hq46_0
      ·
       replace hm := cT hq46_0 hm
       refine Wz (.b true) (Oq hq46_0 rfl) <| Wn <| Wn <| Wn <| Wn <| Wn <| Wn <| Wn <| Wn <| Wn <| Wz (.b true) (OpT rfl) <| Wm (.b true) rfl <| Nn ?_
       exact AWP.weak (Weak.toK 26 0 0 [0, 1]) (J1 () hm)
      ·
       replace hm := cF hq46_0 hm
       refine Wz (.b false) (Oq hq46_0 rfl) <| Wz (.loc 0 0) (Ofa rfl) <| Wz (.y p0.Kind) (Old rfl) <| Wz (.b (decide (((p0.Kind.toNat : Nat) : Int) = 9))) (Ob2 (.int .u8 ((p0.Kind.toNat : Nat) : Int)) (.int .u8 9) rfl (fun _ => hb_eql)) ?_
       rcases tf_ (decide (((p0.Kind.toNat : Nat) : Int) = 9)) with hq50_0 | hq50_0
       ·
        replace hm := cT hq50_0 hm
        refine Wz (.b true) (Oq hq50_0 rfl) <| Wz (.loc 0 4) (Ofa rfl) <| Wz (.agg [(.y p0.Val.Kind), (.i p0.Val.N), (.u p0.Val.Bits), (.s p0.Val.Text)]) (Old rfl) ?_
        obtain ⟨r53_0, hr53_0, hm⟩ := bnd hm
        refine Wz (.i r53_0) (Ocf [] [] [] 0 (ok_telltaleref04_Check p0.Val r53_0 hr53_0) (fun a w => Try.call55 a w) rfl trivial) <| Wz (.b (decide (r53_0 ≠ 0))) (Obn rfl (fun _ => hb_neq (k := .i64))) <| Wz (.b (decide (r53_0 ≠ 0))) (OpT rfl) <| Wz (.b (decide (r53_0 ≠ 0))) (OpF rfl) <| Wm (.b (decide (r53_0 ≠ 0))) rfl <| Nn ?_
        exact AWP.weak (Weak.toK 26 0 0 [0, 1]) (J2 (decide (r53_0 ≠ 0)) hm)
       ·
        replace hm := cF hq50_0 hm
        refine Wz (.b false) (Oq hq50_0 rfl) <| Wn <| Wn <| Wn <| Wn <| Wz (.b false) (OpF rfl) <| Wz (.b false) (OpF rfl) <| Wm (.b false) rfl <| Nn ?_
        exact AWP.weak (Weak.toK 26 0 0 [0, 1]) (J3 () hm)
     ·
      replace hm := cF hq39_0 hm
      refine Wz (.b false) (Oq hq39_0 rfl) <| Wn <| Wn <| Wn <| Wn <| Wz (.b false) (OpF rfl) <| Wz (.b false) (OpF rfl) <| Wm (.b false) rfl <| Wz (.loc 0 0) (Ofa rfl) <| Wz (.y p0.Kind) (Old rfl) <| Wz (.b (decide (((p0.Kind.toNat : Nat) : Int) = 9))) (Ob2 (.int .u8 ((p0.Kind.toNat : Nat) : Int)) (.int .u8 9) rfl (fun _ => hb_eql)) ?_
      rcases tf_ (decide (((p0.Kind.toNat : Nat) : Int) = 9)) with hq50_0 | hq50_0
      ·
       replace hm := cT hq50_0 hm
       refine Wz (.b true) (Oq hq50_0 rfl) <| Wz (.loc 0 4) (Ofa rfl) <| Wz (.agg [(.y p0.Val.Kind), (.i p0.Val.N), (.u p0.Val.Bits), (.s p0.Val.Text)]) (Old rfl) ?_
       obtain ⟨r53_0, hr53_0, hm⟩ := bnd hm
       refine Wz (.i r53_0) (Ocf [] [] [] 0 (ok_telltaleref04_Check p0.Val r53_0 hr53_0) (fun a w => Try.call55 a w) rfl trivial) <| Wz (.b (decide (r53_0 ≠ 0))) (Obn rfl (fun _ => hb_neq (k := .i64))) <| Wz (.b (decide (r53_0 ≠ 0))) (OpT rfl) <| Wz (.b (decide (r53_0 ≠ 0))) (OpF rfl) <| Wm (.b (decide (r53_0 ≠ 0))) rfl <| Nn ?_
       exact AWP.weak (Weak.toK 26 0 0 [0, 1]) (J2 (decide (r53_0 ≠ 0)) hm)
      ·
       replace hm := cF hq50_0 hm
       refine Wz (.b false) (Oq hq50_0 rfl) <| Wn <| Wn <| Wn <| Wn <| Wz (.b false) (OpF rfl) <| Wz (.b false) (OpF rfl) <| Wm (.b false) rfl <| Nn ?_
       exact AWP.weak (Weak.toK 26 0 0 [0, 1]) (J3 () hm)
   ·
    replace hm := cF hq28_0 hm
    refine Wz (.b false) (Oq hq28_0 rfl) <| Wn <| Wn <| Wn <| Wn <| Wz (.b false) (OpF rfl) <| Wz (.b false) (OpF rfl) <| Wm (.b false) rfl <| Wz (.loc 0 0) (Ofa rfl) <| Wz (.y p0.Kind) (Old rfl) <| Wz (.b (decide (((p0.Kind.toNat : Nat) : Int) = 8))) (Ob2 (.int .u8 ((p0.Kind.toNat : Nat) : Int)) (.int .u8 8) rfl (fun _ => hb_eql)) ?_
    rcases tf_ (decide (((p0.Kind.toNat : Nat) : Int) = 8)) with hq39_0 | hq39_0
    ·
     replace hm := cT hq39_0 hm
     refine Wz (.b true) (Oq hq39_0 rfl) <| Wz (.loc 0 2) (Ofa rfl) <| Wz (.s p0.Var) (Old rfl) ?_
     obtain ⟨r42_0, hr42_0, hm⟩ := bnd hm
     refine Wz (.b r42_0) (Ocf [] [] [] 0 (ok_telltaleref06_Name p0.Var r42_0 hr42_0) (fun a w => Try.call54 a w) rfl trivial) <| Wz (.b (!r42_0)) (Ocs (by kernel_rfl) (op_un rfl (a1 := .bool r42_0) (by kernel_rfl) (fun _ => hu_not))) <| Wz (.b (!r42_0)) (OpT rfl) <| Wz (.b (!r42_0)) (OpF rfl) ?_
     rcases tf_ (!r42_0) with hq46_0 | hq46_0
     ·
      replace hm := cT hq46_0 hm
      refine Wz (.b true) (Oq hq46_0 rfl) <| Wn <| Wn <| Wn <| Wn <| Wn <| Wn <| Wn <| Wn <| Wn <| Wz (.b true) (OpT rfl) <| Wm (.b true) rfl <| Nn ?_
      exact AWP.weak (Weak.toK 26 0 0 [0, 1]) (J1 () hm)
     ·
      replace hm := cF hq46_0 hm
      refine Wz (.b false) (Oq hq46_0 rfl) <| Wz (.loc 0 0) (Ofa rfl) <| Wz (.y p0.Kind) (Old rfl) <| Wz (.b (decide (((p0.Kind.toNat : Nat) : Int) = 9))) (Ob2 (.int .u8 ((p0.Kind.toNat : Nat) : Int)) (.int .u8 9) rfl (fun _ => hb_eql)) ?_
      rcases tf_ (decide (((p0.Kind.toNat : Nat) : Int) = 9)) with hq50_0 | hq50_0
      ·
       replace hm := cT hq50_0 hm
       refine Wz (.b true) (Oq hq50_0 rfl) <| Wz (.loc 0 4) (Ofa rfl) <| Wz (.agg [(.y p0.Val.Kind), (.i p0.Val.N), (.u p0.Val.Bits), (.s p0.Val.Text)]) (Old rfl) ?_
       obtain ⟨r53_0, hr53_0, hm⟩ := bnd hm
       refine Wz (.i r53_0) (Ocf [] [] [] 0 (ok_telltaleref04_Check p0.Val r53_0 hr53_0) (fun a w => Try.call55 a w) rfl trivial) <| Wz (.b (decide (r53_0 ≠ 0))) (Obn rfl (fun _ => hb_neq (k := .i64))) <| Wz (.b (decide (r53_0 ≠ 0))) (OpT rfl) <| Wz (.b (decide (r53_0 ≠ 0))) (OpF rfl) <| Wm (.b (decide (r53_0 ≠ 0))) rfl <| Nn ?_
       exact AWP.weak (Weak.toK 26 0 0 [0, 1]) (J2 (decide (r53_0 ≠ 0)) hm)
      ·
       replace hm := cF hq50_0 hm
       refine Wz (.b false) (Oq hq50_0 rfl) <| Wn <| Wn <| Wn <| Wn <| Wz (.b false) (OpF rfl) <| Wz (.b false) (OpF rfl) <| Wm (.b false) rfl <| Nn ?_
       exact AWP.weak (Weak.toK 26 0 0 [0, 1]) (J3 () hm)
    ·
     replace hm := cF hq39_0 hm
     refine Wz (.b false) (Oq hq39_0 rfl) <| Wn <| Wn <| Wn <| Wn <| Wz (.b false) (OpF rfl) <| Wz (.b false) (OpF rfl) <| Wm (.b false) rfl <| Wz (.loc 0 0) (Ofa rfl) <| Wz (.y p0.Kind) (Old rfl) <| Wz (.b (decide (((p0.Kind.toNat : Nat) : Int) = 9))) (Ob2 (.int .u8 ((p0.Kind.toNat : Nat) : Int)) (.int .u8 9) rfl (fun _ => hb_eql)) ?_
     rcases tf_ (decide (((p0.Kind.toNat : Nat) : Int) = 9)) with hq50_0 | hq50_0
     ·
      replace hm := cT hq50_0 hm
      refine Wz (.b true) (Oq hq50_0 rfl) <| Wz (.loc 0 4) (Ofa rfl) <| Wz (.agg [(.y p0.Val.Kind), (.i p0.Val.N), (.u p0.Val.Bits), (.s p0.Val.Text)]) (Old rfl) ?_
      obtain ⟨r53_0, hr53_0, hm⟩ := bnd hm
      refine Wz (.i r53_0) (Ocf [] [] [] 0 (ok_telltaleref04_Check p0.Val r53_0 hr53_0) (fun a w => Try.call55 a w) rfl trivial) <| Wz (.b (decide (r53_0 ≠ 0))) (Obn rfl (fun _ => hb_neq (k := .i64))) <| Wz (.b (decide (r53_0 ≠ 0))) (OpT rfl) <| Wz (.b (decide (r53_0 ≠ 0))) (OpF rfl) <| Wm (.b (decide (r53_0 ≠ 0))) rfl <| Nn ?_
      exact AWP.weak (Weak.toK 26 0 0 [0, 1]) (J2 (decide (r53_0 ≠ 0)) hm)
     ·
      replace hm := cF hq50_0 hm
      refine Wz (.b false) (Oq hq50_0 rfl) <| Wn <| Wn <| Wn <| Wn <| Wz (.b false) (OpF rfl) <| Wz (.b false) (OpF rfl) <| Wm (.b false) rfl <| Nn ?_
      exact AWP.weak (Weak.toK 26 0 0 [0, 1]) (J3 () hm)

theorem ok_telltaleref11_kid (p0 : UInt8) (p1 : Int) (r : Int) (h : m_telltaleref11_kid p0 p1 = some r) : GCall Try.prog 42 [(.y p0), (.i p1)] [] (.i r) [] := by
 refine GCall.of_body (n := 13) (rs := [(.tmp 4)]) Try.func42 rfl rfl rfl <| Ato ⟨.y p0::.i p1::tu 11 [], [], 0⟩ ?_
 have hm := h
 unfold m_telltaleref11_kid at hm
 refine Sx <| Wm (.i 0) rfl <| Nk 3 0 ⟨.y p0::.i p1::tp 11 [], [], 0⟩ <| Sq <| Sx <| Wm (.y p0) rfl <| Wz (.b (decide (((p0.toNat : Nat) : Int) ≤ 3))) (Ob2 (.int .u8 ((p0.toNat : Nat) : Int)) (.int .u8 3) rfl (fun _ => hb_leq)) <| Nk 67 0 ⟨.y p0::.i p1::tp 4 (.b (decide (((p0.toNat : Nat) : Int) ≤ 3))::tp 6 []), [], 0⟩ ?_
 rcases tf_ (decide (((p0.toNat : Nat) : Int) ≤ 3)) with hc6_1 | hc6_1
 ·
  replace hm := cT hc6_1 hm
  refine AiT hc6_1 <| Sx <| Wm (.i 1) rfl <| Nn <| Rt <| Tr ?_
  obtain rfl := Option.some.inj hm
  exact ret_i []
 ·
  replace hm := cF hc6_1 hm
  refine AiF hc6_1 <| Sk <| Tk 3 0 ⟨.y p0::.i p1::tp 11 [], [], 0⟩ <| Sq <| Sx <| Wm (.y p0) rfl <| Wz (.b (decide (((p0.toNat : Nat) : Int) = 4))) (Ob2 (.int .u8 ((p0.toNat : Nat) : Int)) (.int .u8 4) rfl (fun _ => hb_eql)) ?_
  rcases tf_ (decide (((p0.toNat : Nat) : Int) = 4)) with hq9_0 | hq9_0
  ·
   replace hm := cT hq9_0 hm
   refine Wz (.b true) (Oq hq9_0 rfl) <| Wn <| Wn <| Wz (.b true) (OpT rfl) <| Nk 4096 0 ⟨tp 12 (.b true::[]), [], 0⟩ <| AWP.if_ true (by kernel_rfl) <| Sx <| Wm (.i 2) rfl <| Nn <| Rt <| Tr ?_
   obtain rfl := Option.some.inj hm
   exact ret_i []
  ·
   replace hm := cF hq9_0 hm
   refine Wz (.b false) (Oq hq9_0 rfl) <| Wm (.i p1) rfl <| Wz (.b (decide (p1 = 0))) (Obn rfl (fun _ => hb_eql (k := .i64))) <| Wz (.b (decide (p1 = 0))) (OpF rfl) <| Nk 4096 0 ⟨tp 12 (.b (decide (p1 = 0))::[]), [], 0⟩ ?_
   rcases tf_ (decide (p1 = 0)) with hc12_2 | hc12_2
   ·
    replace hm := cT hc12_2 hm
    refine AiT hc12_2 <| Sx <| Wm (.i 2) rfl <| Nn <| Rt <| Tr ?_
    obtain rfl := Option.some.inj hm
    exact ret_i []
   ·
    replace hm := cF hc12_2 hm
    refine AiF hc12_2 <| Sk <| Tk 0 0 ⟨tp 13 [], [], 0⟩ <| Sx <| Wm (.i 3) rfl <| Nn <| Rt ?_
    obtain rfl := Option.some.inj hm
    exact ret_i []

theorem ok_telltaleref11_tree : ∀ (fuR : Nat) (p0 : (List GNode_)) (p1 : Int) (p2 : Int) (p3 : Int) (r : (Int × Int)) (h : m_telltaleref11_tree fuR p0 p1 p2 p3 = some r), GCall Try.prog 27 [(.l enc_GNode_ p0), (.i p1), (.i p2), (.i p3)] [] (.tup [(.i r.1), (.i r.2)]) [] := by
 intro fuR; induction fuR with
 | zero => intro p0 p1 p2 p3 r h; exact absurd h (by unfold m_telltaleref11_tree; simp)
 | succ fuR ih =>
 intro p0 p1 p2 p3 r h
 refine GCall.of_body (n := 66) (rs := [(.tmp 8), (.tmp 9)]) Try.func27 rfl rfl rfl <| Ato ⟨.l enc_GNode_ p0::.i p1::.i p2::.i p3::tu 62 [], [], 0⟩ ?_
 have hm := h
 unfold m_telltaleref11_tree at hm
 refine Sx <| Wm (.i 0) rfl <| Wm (.i 0) rfl <| Nk 15 0 ⟨.l enc_GNode_ p0::.i p1::.i p2::.i p3::tp 62 [], [], 0⟩ <| Sq <| Sx <| Wm (.i p1) rfl <| Wm (.l enc_GNode_ p0) rfl <| Wz (.i ((List.length p0 : Nat) : Int)) (Oln rfl) <| Wz (.b (decide (((List.length p0 : Nat) : Int) ≤ p1))) (Obn rfl (fun _ => hb_geq (k := .i64))) <| Nk 262159 0 ⟨.l enc_GNode_ p0::.i p1::.i p2::.i p3::tp 14 (.b (decide (((List.length p0 : Nat) : Int) ≤ p1))::tp 47 []), [], 0⟩ ?_
 rcases tf_ (decide (((List.length p0 : Nat) : Int) ≤ p1)) with hc18_7 | hc18_7
 ·
  replace hm := cT hc18_7 hm
  refine AiT hc18_7 <| Sx <| Wm (.i p1) rfl <| Wm (.i p1) rfl <| Wm (.i 3) rfl <| Nn <| Rt <| Tr ?_
  obtain rfl := Option.some.inj hm
  exact ret_i []
 ·
  replace hm := cF hc18_7 hm
  refine AiF hc18_7 <| Sk <| Tk 15 0 ⟨.l enc_GNode_ p0::.i p1::.i p2::.i p3::tp 62 [], [], 0⟩ <| Sq <| Sx <| Wm (.i p3) rfl <| Wz (.b (decide ((16 : Int) ≤ p3))) (Obn rfl (fun _ => hb_geq (k := .i64))) <| Nk 2097167 0 ⟨.l enc_GNode_ p0::.i p1::.i p2::.i p3::tp 17 (.b (decide ((16 : Int) ≤ p3))::tp 44 []), [], 0⟩ ?_
  rcases tf_ (decide ((16 : Int) ≤ p3)) with hc21_8 | hc21_8
  ·
   replace hm := cT hc21_8 hm
   refine AiT hc21_8 <| Sx <| Wm (.i p1) rfl <| Wm (.i p1) rfl <| Wm (.i 15) rfl <| Nn <| Rt <| Tr ?_
   obtain rfl := Option.some.inj hm
   exact ret_i []
  ·
   replace hm := cF hc21_8 hm
   refine AiF hc21_8 <| Sk <| Tk 15 0 ⟨.l enc_GNode_ p0::.i p1::.i p2::.i p3::tp 62 [], [], 0⟩ <| Sx <| Wm (.l enc_GNode_ p0) rfl <| Wm (.i p1) rfl ?_
   obtain ⟨x25_1, hx25_1, hm⟩ := bnd hm
   obtain ⟨hx25_1i, hx25_1g⟩ := geti_some hx25_1
   refine Wz (.d (.ref (List.drop ((Int.toNat p1) * 8) (flatD enc_GNode_ p0)))) (Oia rfl enc_GNode__len hx25_1i hx25_1g) <| Wz (.agg [(.y x25_1.Kind), (.y x25_1.Op), (.s x25_1.Var), (.s x25_1.Name), (.y x25_1.Val.Kind), (.i x25_1.Val.N), (.u x25_1.Val.Bits), (.s x25_1.Val.Text)]) (Lf rfl enc_GNode__len hx25_1g) <| Wy (.loc 0 0) [(0, (.box [(.y 0), (.y 0), (.s ([] : List UInt8)), (.s ([] : List UInt8)), (.y 0), (.i 0), (.u 0), (.s ([] : List UInt8))]))] (Oal rfl) <| Wy (.tup []) [(0, (.box [(.y x25_1.Kind), (.y x25_1.Op), (.s x25_1.Var), (.s x25_1.Name), (.y x25_1.Val.Kind), (.i x25_1.Val.N), (.u x25_1.Val.Bits), (.s x25_1.Val.Text)]))] (Ost rfl) <| Nk 1039 1 ⟨.l enc_GNode_ p0::.i p1::.i p2::.i p3::tp 6 (.loc 0 0::tp 55 []), [(.box [(.y x25_1.Kind), (.y x25_1.Op), (.s x25_1.Var), (.s x25_1.Name), (.y x25_1.Val.Kind), (.i x25_1.Val.N), (.u x25_1.Val.Bits), (.s x25_1.Val.Text)])], 0⟩ <| Sq <| Sx <| Wz (.loc 0 0) (Ofa rfl) <| Wz (.y x25_1.Kind) (Old rfl) <| Wm (.i p2) rfl ?_
   obtain ⟨r30_2, hr30_2, hm⟩ := bnd hm
   refine Wz (.b r30_2) (Ocf [] [] [] 0 (ok_telltaleref11_may x25_1.Kind p2 r30_2 hr30_2) (fun a w => Try.call40 a w) rfl trivial) <| Wz (.b (!r30_2)) (Ocs (by kernel_rfl) (op_un rfl (a1 := .bool r30_2) (by kernel_rfl) (fun _ => hu_not))) <| Nk 2147484683 1 ⟨.l enc_GNode_ p0::.i p1::tp 1 (.i p3::tp 6 (.loc 0 0::tp 20 (.b (!r30_2)::tp 34 []))), [(.box [(.y x25_1.Kind), (.y x25_1.Op), (.s x25_1.Var), (.s x25_1.Name), (.y x25_1.Val.Kind), (.i x25_1.Val.N), (.u x25_1.Val.Bits), (.s x25_1.Val.Text)])], 0⟩ ?_
   rcases tf_ (!r30_2) with hc31_9 | hc31_9
   ·
    replace hm := cT hc31_9 hm
    refine AiT hc31_9 <| Sx <| Wm (.i p1) rfl <| Wm (.i p1) rfl <| Wm (.i 11) rfl <| Nn <| Rt <| Tr ?_
    obtain rfl := Option.some.inj hm
    exact ret_i []
   ·
    replace hm := cF hc31_9 hm
    refine AiF hc31_9 <| Sk <| Tk 1035 1 ⟨.l enc_GNode_ p0::.i p1::tp 1 (.i p3::tp 6 (.loc 0 0::tp 55 [])), [(.box [(.y x25_1.Kind), (.y x25_1.Op), (.s x25_1.Var), (.s x25_1.Name), (.y x25_1.Val.Kind), (.i x25_1.Val.N), (.u x25_1.Val.Bits), (.s x25_1.Val.Text)])], 0⟩ <| Sq <| Sx <| Wz (.agg [(.y x25_1.Kind), (.y x25_1.Op), (.s x25_1.Var), (.s x25_1.Name), (.y x25_1.Val.Kind), (.i x25_1.Val.N), (.u x25_1.Val.Bits), (.s x25_1.Val.Text)]) (Old rfl) ?_
    obtain ⟨r34_3, hr34_3, hm⟩ := bnd hm
    refine Wz (.i r34_3) (Ocf [] [] [] 0 (ok_telltaleref11_needs x25_1 r34_3 hr34_3) (fun a w => Try.call41 a w) rfl trivial) <| Wm (.i r34_3) rfl <| Nk 3083 1 ⟨.l enc_GNode_ p0::.i p1::tp 1 (.i p3::tp 6 (.loc 0 0::.i r34_3::tp 54 [])), [(.box [(.y x25_1.Kind), (.y x25_1.Op), (.s x25_1.Var), (.s x25_1.Name), (.y x25_1.Val.Kind), (.i x25_1.Val.N), (.u x25_1.Val.Bits), (.s x25_1.Val.Text)])], 0⟩ <| Sx <| Wm (.i r34_3) rfl <| Wz (.b (decide (r34_3 ≠ 0))) (Obn rfl (fun _ => hb_neq (k := .i64))) <| Nk 68719479819 1 ⟨.l enc_GNode_ p0::.i p1::tp 1 (.i p3::tp 6 (.loc 0 0::.i r34_3::tp 24 (.b (decide (r34_3 ≠ 0))::tp 29 []))), [(.box [(.y x25_1.Kind), (.y x25_1.Op), (.s x25_1.Var), (.s x25_1.Name), (.y x25_1.Val.Kind), (.i x25_1.Val.N), (.u x25_1.Val.Bits), (.s x25_1.Val.Text)])], 0⟩ ?_
    rcases tf_ (decide (r34_3 ≠ 0)) with hc36_10 | hc36_10
    ·
     replace hm := cT hc36_10 hm
     refine AiT hc36_10 <| Sx <| Wm (.i p1) rfl <| Wm (.i r34_3) rfl <| Wm (.i p1) rfl <| Wm (.i r34_3) rfl <| Nn <| Rt <| Tr ?_
     obtain rfl := Option.some.inj hm
     exact ret_i []
    ·
     replace hm := cF hc36_10 hm
     refine AiF hc36_10 <| Sk <| Tk 1035 1 ⟨.l enc_GNode_ p0::.i p1::tp 1 (.i p3::tp 6 (.loc 0 0::tp 55 [])), [(.box [(.y x25_1.Kind), (.y x25_1.Op), (.s x25_1.Var), (.s x25_1.Name), (.y x25_1.Val.Kind), (.i x25_1.Val.N), (.u x25_1.Val.Bits), (.s x25_1.Val.Text)])], 0⟩ <| Sx <| Wm (.i p1) rfl <| Wz (.i (W6 (p1 + 1))) (Obn rfl (fun _ => hb_add (k := .i64))) <| Wm (.i (W6 (p1 + 1))) rfl <| Nk 1035 1 ⟨.l enc_GNode_ p0::.i (W6 (p1 + 1))::tp 1 (.i p3::tp 6 (.loc 0 0::tp 55 [])), [(.box [(.y x25_1.Kind), (.y x25_1.Op), (.s x25_1.Var), (.s x25_1.Name), (.y x25_1.Val.Kind), (.i x25_1.Val.N), (.u x25_1.Val.Bits), (.s x25_1.Val.Text)])], 0⟩ <| Sq <| Sx <| Wm (.i 0) rfl <| Nk 5131 1 ⟨.l enc_GNode_ p0::.i (W6 (p1 + 1))::tp 1 (.i p3::tp 6 (.loc 0 0::tp 1 (.i 0::tp 53 []))), [(.box [(.y x25_1.Kind), (.y x25_1.Op), (.s x25_1.Var), (.s x25_1.Name), (.y x25_1.Val.Kind), (.i x25_1.Val.N), (.u x25_1.Val.Bits), (.s x25_1.Val.Text)])], 0⟩ <| Bk ?_
     refine AWP.loopI (α := Nat × Int × Int)
       (fun (fu_4, y1_4, y12_4) => (⟨.l enc_GNode_ p0::.i y1_4::tp 1 (.i p3::tp 6 (.loc 0 0::tp 1 (.i y12_4::tp 53 []))), [(.box [(.y x25_1.Kind), (.y x25_1.Op), (.s x25_1.Var), (.s x25_1.Name), (.y x25_1.Val.Kind), (.i x25_1.Val.N), (.u x25_1.Val.Bits), (.s x25_1.Val.Text)])], 0⟩ : St))
       (fun (fu_4, y1_4, y12_4) => m_telltaleref11_tree_l4 p0 p3 x25_1 (fun p0 p1 p2 p3 => m_telltaleref11_tree fuR p0 p1 p2 p3) fu_4 y1_4 y12_4 = some r)
       (fun (fu_4, y1_4, y12_4) => fu_4) (1152921504606846976, (W6 (p1 + 1)), 0)
       (Weak.toK 5131 0 0 [0]) hm ?_
     rintro ⟨fu_4, y1_4, y12_4⟩ n_4 hm ih_4
     try dsimp only at hm ih_4 ⊢
     cases fu_4 with
     | zero => exact absurd hm (by unfold m_telltaleref11_tree_l4; simp)
     | succ fu_4 =>
      unfold m_telltaleref11_tree_l4 at hm
      refine Sq <| Sx <| Wm (.i y12_4) rfl <| Wz (.loc 0 0) (Ofa rfl) <| Wz (.y x25_1.Kind) (Old rfl) ?_
      obtain ⟨r44_5, hr44_5, hm⟩ := bnd hm
      refine Wz (.i r44_5) (Ocf [] [] [] 0 (ok_telltaleref11_Kids x25_1.Kind r44_5 hr44_5) (fun a w => Try.call11 a w) rfl trivial) <| Wz (.b (decide (y12_4 < r44_5))) (Obn rfl (fun _ => hb_lss (k := .i64))) <| Nk 35184372093963 1 ⟨.l enc_GNode_ p0::.i y1_4::tp 1 (.i p3::tp 6 (.loc 0 0::tp 1 (.i y12_4::tp 32 (.b (decide (y12_4 < r44_5))::tp 20 [])))), [(.box [(.y x25_1.Kind), (.y x25_1.Op), (.s x25_1.Var), (.s x25_1.Name), (.y x25_1.Val.Kind), (.i x25_1.Val.N), (.u x25_1.Val.Bits), (.s x25_1.Val.Text)])], 0⟩ ?_
      rcases tf_ (decide (y12_4 < r44_5)) with hc45_11 | hc45_11
      ·
       replace hm := cT hc45_11 hm
       refine AiT hc45_11 <| Sk <| Tk 5131 1 ⟨.l enc_GNode_ p0::.i y1_4::tp 1 (.i p3::tp 6 (.loc 0 0::tp 1 (.i y12_4::tp 53 []))), [(.box [(.y x25_1.Kind), (.y x25_1.Op), (.s x25_1.Var), (.s x25_1.Name), (.y x25_1.Val.Kind), (.i x25_1.Val.N), (.u x25_1.Val.Bits), (.s x25_1.Val.Text)])], 0⟩ <| Sq <| Bk <| Sx <| Wm (.l enc_GNode_ p0) rfl <| Wm (.i y1_4) rfl <| Wz (.loc 0 0) (Ofa rfl) <| Wz (.y x25_1.Kind) (Old rfl) <| Wm (.i y12_4) rfl ?_
       obtain ⟨r54_6, hr54_6, hm⟩ := bnd hm
       refine Wz (.i r54_6) (Ocf [] [] [] 0 (ok_telltaleref11_kid x25_1.Kind y12_4 r54_6 hr54_6) (fun a w => Try.call42 a w) rfl trivial) <| Wm (.i p3) rfl <| Wz (.i (W6 (p3 + 1))) (Obn rfl (fun _ => hb_add (k := .i64))) ?_
       obtain ⟨r57_6, hr57_6, hm⟩ := bnd hm
       refine Wz (.tup [(.i r57_6.1), (.i r57_6.2)]) (Ocf [] [] [] 0 (ih p0 y1_4 r54_6 (W6 (p3 + 1)) r57_6 hr57_6) (fun a w => Try.call27 a w) rfl trivial) <| Wm (.tup [(.i r57_6.1), (.i r57_6.2)]) rfl <| Wz (.i r57_6.1) (Oex rfl) <| Wz (.i r57_6.2) (Oex rfl) <| Wm (.i r57_6.1) rfl <| Wm (.i r57_6.2) rfl <| Nk 29705 1 ⟨.l enc_GNode_ p0::tp 2 (.i p3::tp 6 (.loc 0 0::tp 1 (.i y12_4::.i r57_6.1::.i r57_6.2::tp 51 []))), [(.box [(.y x25_1.Kind), (.y x25_1.Op), (.s x25_1.Var), (.s x25_1.Name), (.y x25_1.Val.Kind), (.i x25_1.Val.N), (.u x25_1.Val.Bits), (.s x25_1.Val.Text)])], 0⟩ <| Sq <| Sx <| Wm (.i r57_6.2) rfl <| Wz (.b (decide (r57_6.2 ≠ 0))) (Obn rfl (fun _ => hb_neq (k := .i64))) <| Nk 2305843009213723657 1 ⟨.l enc_GNode_ p0::tp 2 (.i p3::tp 6 (.loc 0 0::tp 1 (.i y12_4::.i r57_6.1::.i r57_6.2::tp 46 (.b (decide (r57_6.2 ≠ 0))::tp 4 [])))), [(.box [(.y x25_1.Kind), (.y x25_1.Op), (.s x25_1.Var), (.s x25_1.Name), (.y x25_1.Val.Kind), (.i x25_1.Val.N), (.u x25_1.Val.Bits), (.s x25_1.Val.Text)])], 0⟩ ?_
       rcases tf_ (decide (r57_6.2 ≠ 0)) with hc61_12 | hc61_12
       ·
        replace hm := cT hc61_12 hm
        refine AiT hc61_12 <| Sx <| Wm (.i r57_6.1) rfl <| Wm (.i r57_6.2) rfl <| Wm (.i r57_6.1) rfl <| Wm (.i r57_6.2) rfl <| Nn <| Rt <| Tr <| Ir <| Tr <| RoundK.ret <| Ir <| Tr ?_
        obtain rfl := Option.some.inj hm
        exact ret_i []
       ·
        replace hm := cF hc61_12 hm
        refine AiF hc61_12 <| Sk <| Tk 13321 1 ⟨.l enc_GNode_ p0::tp 2 (.i p3::tp 6 (.loc 0 0::tp 1 (.i y12_4::.i r57_6.1::tp 52 []))), [(.box [(.y x25_1.Kind), (.y x25_1.Op), (.s x25_1.Var), (.s x25_1.Name), (.y x25_1.Val.Kind), (.i x25_1.Val.N), (.u x25_1.Val.Bits), (.s x25_1.Val.Text)])], 0⟩ <| Tx <| Wm (.i r57_6.1) rfl <| Wm (.i r57_6.1) rfl <| Wn0 <| Ino <| Tk 5131 1 ⟨.l enc_GNode_ p0::.i r57_6.1::tp 1 (.i p3::tp 6 (.loc 0 0::tp 1 (.i y12_4::tp 53 []))), [(.box [(.y x25_1.Kind), (.y x25_1.Op), (.s x25_1.Var), (.s x25_1.Name), (.y x25_1.Val.Kind), (.i x25_1.Val.N), (.u x25_1.Val.Bits), (.s x25_1.Val.Text)])], 0⟩ <| Tx <| Wm (.i y12_4) rfl <| Wz (.i (W6 (y12_4 + 1))) (Obn rfl (fun _ => hb_add (k := .i64))) <| Wm (.i (W6 (y12_4 + 1))) rfl <| Wn0 ?_
        refine RoundK.normal ?_
        exact Rounds.weak (Weak.toK 5131 0 0 [0]) (ih_4 (fu_4, r57_6.1, (W6 (y12_4 + 1))) hm (Nat.lt_succ_self _))
      ·
       replace hm := cF hc45_11 hm
       refine AiF hc45_11 <| AWP.exit <| Then.exit <| RoundK.exit <| InBlock.same <| Tk 2 0 ⟨tp 1 (.i y1_4::tp 64 []), [.gone], 0⟩ <| Sx <| Wm (.i y1_4) rfl <| Wm (.i y1_4) rfl <| Wm (.i 0) rfl <| Nn <| Rt ?_
       obtain rfl := Option.some.inj hm
       exact ret_i []

theorem ok_telltaleref11_Check (p0 : (List GNode_)) (r : Int) (h : m_telltaleref11_Check p0 = some r) : GCall Try.prog 15 [(.l enc_GNode_ p0)] [] (.i r) [] := by
 refine GCall.of_body (n := 23) (rs := [(.tmp 2)]) Try.func15 rfl rfl rfl <| Ato ⟨.l enc_GNode_ p0::tu 22 [], [], 0⟩ ?_
 have hm := h
 unfold m_telltaleref11_Check at hm
 refine Sx <| Wm (.i 0) rfl <| Nk 1 0 ⟨.l enc_GNode_ p0::tp 22 [], [], 0⟩ <| Sq <| Sx <| Wm (.l enc_GNode_ p0) rfl <| Wz (.i ((List.length p0 : Nat) : Int)) (Oln rfl) <| Wz (.b (decide ((30 : Int) < ((List.length p0 : Nat) : Int)))) (Obn rfl (fun _ => hb_gtr (k := .i64))) <| Nk 129 0 ⟨.l enc_GNode_ p0::tp 6 (.b (decide ((30 : Int) < ((List.length p0 : Nat) : Int)))::tp 15 []), [], 0⟩ ?_
 rcases tf_ (decide ((30 : Int) < ((List.length p0 : Nat) : Int))) with hc7_4 | hc7_4
 ·
  replace hm := cT hc7_4 hm
  refine AiT hc7_4 <| Sx <| Wm (.i 5) rfl <| Nn <| Rt <| Tr ?_
  obtain rfl := Option.some.inj hm
  exact ret_i []
 ·
  replace hm := cF hc7_4 hm
  refine AiF hc7_4 <| Sk <| Tk 1 0 ⟨.l enc_GNode_ p0::tp 22 [], [], 0⟩ <| Sq <| Sx <| Wm (.l enc_GNode_ p0) rfl <| Wz (.i ((List.length p0 : Nat) : Int)) (Oln rfl) <| Wz (.b (decide (((List.length p0 : Nat) : Int) = 0))) (Obn rfl (fun _ => hb_eql (k := .i64))) <| Nk 1025 0 ⟨.l enc_GNode_ p0::tp 9 (.b (decide (((List.length p0 : Nat) : Int) = 0))::tp 12 []), [], 0⟩ ?_
  rcases tf_ (decide (((List.length p0 : Nat) : Int) = 0)) with hc10_5 | hc10_5
  ·
   replace hm := cT hc10_5 hm
   refine AiT hc10_5 <| Sx <| Wm (.i 0) rfl <| Nn <| Rt <| Tr ?_
   obtain rfl := Option.some.inj hm
   exact ret_i []
  ·
   replace hm := cF hc10_5 hm
   refine AiF hc10_5 <| Sk <| Tk 1 0 ⟨.l enc_GNode_ p0::tp 22 [], [], 0⟩ <| Sx <| Wm (.l enc_GNode_ p0) rfl ?_
   obtain ⟨r13_2, hr13_2, hm⟩ := bnd hm
   refine Wz (.tup [(.i r13_2.1), (.i r13_2.2)]) (Ocf [] [] [] 0 (ok_telltaleref11_tree 1152921504606846976 p0 0 1 0 r13_2 hr13_2) (fun a w => Try.call27 a w) rfl trivial) <| Wm (.tup [(.i r13_2.1), (.i r13_2.2)]) rfl <| Wz (.i r13_2.1) (Oex rfl) <| Wz (.i r13_2.2) (Oex rfl) <| Wm (.i r13_2.1) rfl <| Wm (.i r13_2.2) rfl <| Nk 25 0 ⟨.l enc_GNode_ p0::tp 2 (.i r13_2.1::.i r13_2.2::tp 18 []), [], 0⟩ <| Sq <| Sx <| Wm (.i r13_2.2) rfl <| Wz (.b (decide (r13_2.2 ≠ 0))) (Obn rfl (fun _ => hb_neq (k := .i64))) <| Nk 131097 0 ⟨.l enc_GNode_ p0::tp 2 (.i r13_2.1::.i r13_2.2::tp 12 (.b (decide (r13_2.2 ≠ 0))::tp 5 [])), [], 0⟩ ?_
   rcases tf_ (decide (r13_2.2 ≠ 0)) with hc17_6 | hc17_6
   ·
    replace hm := cT hc17_6 hm
    refine AiT hc17_6 <| Sx <| Wm (.i r13_2.2) rfl <| Wm (.i r13_2.2) rfl <| Nn <| Rt <| Tr ?_
    obtain rfl := Option.some.inj hm
    exact ret_i []
   ·
    replace hm := cF hc17_6 hm
    refine AiF hc17_6 <| Sk <| Tk 9 0 ⟨.l enc_GNode_ p0::tp 2 (.i r13_2.1::tp 19 []), [], 0⟩ <| Sq <| Sx <| Wm (.i r13_2.1) rfl <| Wm (.l enc_GNode_ p0) rfl <| Wz (.i ((List.length p0 : Nat) : Int)) (Oln rfl) <| Wz (.b (decide (r13_2.1 < ((List.length p0 : Nat) : Int)))) (Obn rfl (fun _ => hb_lss (k := .i64))) <| Nk 4194304 0 ⟨tp 22 (.b (decide (r13_2.1 < ((List.length p0 : Nat) : Int)))::[]), [], 0⟩ ?_
    rcases tf_ (decide (r13_2.1 < ((List.length p0 : Nat) : Int))) with hc22_7 | hc22_7
    ·
     replace hm := cT hc22_7 hm
     refine AiT hc22_7 <| Sx <| Wm (.i 5) rfl <| Nn <| Rt <| Tr ?_
     obtain rfl := Option.some.inj hm
     exact ret_i []
    ·
     replace hm := cF hc22_7 hm
     refine AiF hc22_7 <| Sk <| Tk 0 0 ⟨tp 23 [], [], 0⟩ <| Sx <| Wm (.i 0) rfl <| Nn <| Rt ?_
     obtain rfl := Option.some.inj hm
     exact ret_i []

theorem ok_telltaleref10_decimal (p0 : Int) (r : (List UInt8)) (h : m_telltaleref10_decimal p0 = some r) : GCall Try.prog 60 [(.i p0)] [] (.s r) [] := by
 refine GCall.of_body (n := 25) (rs := [(.tmp 2)]) Try.func60 rfl rfl rfl <| Ato ⟨.i p0::tu 24 [], [], 0⟩ ?_
 have hm := h
 unfold m_telltaleref10_decimal at hm
 refine Sx <| Wm (.s ([] : List UInt8)) rfl <| Nk 1 0 ⟨.i p0::tp 24 [], [], 0⟩ <| Sx <| Wm (.i p0) rfl <| Wz (.i (Int.tmod p0 10)) (Ob2 (.int .i64 p0) (.int .i64 10) rfl (fun _ => hb_rem (by decide))) <| Wm (.i p0) rfl <| Wz (.i (Int.tmod p0 10)) (Ob2 (.int .i64 p0) (.int .i64 10) rfl (fun _ => hb_rem (by decide))) <| Wz (.i (W6 ((Int.tmod p0 10) + 1))) (Obn rfl (fun _ => hb_add (k := .i64))) ?_
 obtain ⟨s9_0, hs9_0, hm⟩ := bnd hm; obtain ⟨hs9_0a, hs9_0b, hs9_0c, hs9_0d, hs9_0e⟩ := cut_some hs9_0
 refine Wz (.s s9_0) (Ocs (lit_str (toS_cut hs9_0e)) (op_slice_str rfl (by kernel_rfl) (s := toS ([48, 49, 50, 51, 52, 53, 54, 55, 56, 57] : List UInt8)) (by kernel_rfl) (l := (Int.toNat (Int.tmod p0 10))) (h := (Int.toNat (W6 ((Int.tmod p0 10) + 1)))) (⟨.i64, (Int.tmod p0 10), by kernel_rfl, hs9_0a⟩) (⟨.i64, (W6 ((Int.tmod p0 10) + 1)), by kernel_rfl, hs9_0b⟩) hs9_0c hs9_0d)) <| Wm (.s s9_0) rfl <| Nk 9 0 ⟨.i p0::tp 2 (.s s9_0::tp 21 []), [], 0⟩ <| Sq <| Sx <| Wm (.i p0) rfl <| Wz (.i (W6 (Int.tdiv p0 10))) (Ob2 (.int .i64 p0) (.int .i64 10) rfl (fun _ => hb_quo (by decide))) <| Wm (.i (W6 (Int.tdiv p0 10))) rfl <| Nk 9 0 ⟨.i (W6 (Int.tdiv p0 10))::tp 2 (.s s9_0::tp 21 []), [], 0⟩ <| Bk ?_
 refine AWP.loopI (α := Nat × Int × (List UInt8))
   (fun (fu_1, y0_1, y3_1) => (⟨.i y0_1::tp 2 (.s y3_1::tp 21 []), [], 0⟩ : St))
   (fun (fu_1, y0_1, y3_1) => m_telltaleref10_decimal_l1  fu_1 y0_1 y3_1 = some r)
   (fun (fu_1, y0_1, y3_1) => fu_1) (1152921504606846976, (W6 (Int.tdiv p0 10)), s9_0)
   (Weak.toK 9 0 0 []) hm ?_
 rintro ⟨fu_1, y0_1, y3_1⟩ n_1 hm ih_1
 try dsimp only at hm ih_1 ⊢
 cases fu_1 with
 | zero => exact absurd hm (by unfold m_telltaleref10_decimal_l1; simp)
 | succ fu_1 =>
  unfold m_telltaleref10_decimal_l1 at hm
  refine Sq <| Sx <| Wm (.i y0_1) rfl <| Wz (.b (decide ((0 : Int) < y0_1))) (Obn rfl (fun _ => hb_gtr (k := .i64))) <| Nk 8201 0 ⟨.i y0_1::tp 2 (.s y3_1::tp 9 (.b (decide ((0 : Int) < y0_1))::tp 11 [])), [], 0⟩ ?_
  rcases tf_ (decide ((0 : Int) < y0_1)) with hc13_3 | hc13_3
  ·
   replace hm := cT hc13_3 hm
   refine AiT hc13_3 <| Sk <| Tk 9 0 ⟨.i y0_1::tp 2 (.s y3_1::tp 21 []), [], 0⟩ <| Sq <| Bk <| Tx <| Wm (.i y0_1) rfl <| Wz (.i (Int.tmod y0_1 10)) (Ob2 (.int .i64 y0_1) (.int .i64 10) rfl (fun _ => hb_rem (by decide))) <| Wm (.i y0_1) rfl <| Wz (.i (Int.tmod y0_1 10)) (Ob2 (.int .i64 y0_1) (.int .i64 10) rfl (fun _ => hb_rem (by decide))) <| Wz (.i (W6 ((Int.tmod y0_1 10) + 1))) (Obn rfl (fun _ => hb_add (k := .i64))) ?_
   obtain ⟨s21_2, hs21_2, hm⟩ := bnd hm; obtain ⟨hs21_2a, hs21_2b, hs21_2c, hs21_2d, hs21_2e⟩ := cut_some hs21_2
   refine Wz (.s s21_2) (Ocs (lit_str (toS_cut hs21_2e)) (op_slice_str rfl (by kernel_rfl) (s := toS ([48, 49, 50, 51, 52, 53, 54, 55, 56, 57] : List UInt8)) (by kernel_rfl) (l := (Int.toNat (Int.tmod y0_1 10))) (h := (Int.toNat (W6 ((Int.tmod y0_1 10) + 1)))) (⟨.i64, (Int.tmod y0_1 10), by kernel_rfl, hs21_2a⟩) (⟨.i64, (W6 ((Int.tmod y0_1 10) + 1)), by kernel_rfl, hs21_2b⟩) hs21_2c hs21_2d)) <| Wm (.s y3_1) rfl ?_
   obtain ⟨t23_2, ht23_2, hm⟩ := bnd hm; obtain ⟨ht23_2e, ht23_2l⟩ := app_some ht23_2
   refine Wz (.s t23_2) (op_bin rfl (a1 := .string (toS s21_2)) (a2 := .string (toS y3_1)) (by kernel_rfl) (by kernel_rfl) (fun _ => hb_sadd ht23_2e ht23_2l)) <| Wm (.s t23_2) rfl <| Wn0 <| Ino <| Tk 9 0 ⟨.i y0_1::tp 2 (.s t23_2::tp 21 []), [], 0⟩ <| Tx <| Wm (.i y0_1) rfl <| Wz (.i (W6 (Int.tdiv y0_1 10))) (Ob2 (.int .i64 y0_1) (.int .i64 10) rfl (fun _ => hb_quo (by decide))) <| Wm (.i (W6 (Int.tdiv y0_1 10))) rfl <| Wn0 <| RoundK.normal ?_
   exact Rounds.weak (Weak.toK 9 0 0 []) (ih_1 (fu_1, (W6 (Int.tdiv y0_1 10)), t23_2) hm (Nat.lt_succ_self _))
  ·
   replace hm := cF hc13_3 hm
   refine AiF hc13_3 <| AWP.exit <| Then.exit <| RoundK.exit <| InBlock.same <| Tk 8 0 ⟨tp 3 (.s y3_1::tp 21 []), [], 0⟩ <| Sx <| Wm (.s y3_1) rfl <| Wm (.s y3_1) rfl <| Nn <| Rt ?_
   obtain rfl := Option.some.inj hm
   exact ret_i []

theorem ok_telltaleref10_Literal (p0 : GValue) (r : (List UInt8)) (h : m_telltaleref10_Literal p0 = some r) : GCall Try.prog 47 [(.agg [(.y p0.Kind), (.i p0.N), (.u p0.Bits), (.s p0.Text)])] [] (.s r) [] := by
 refine GCall.of_body (n := 104) (rs := [(.tmp 2)]) Try.func47 rfl rfl rfl <| Ato ⟨.agg [(.y p0.Kind), (.i p0.N), (.u p0.Bits), (.s p0.Text)]::tu 103 [], [], 0⟩ ?_
 have hm := h
 unfold m_telltaleref10_Literal at hm
 refine Sx <| Wy (.loc 0 0) [(0, (.box [(.y p0.Kind), (.i p0.N), (.u p0.Bits), (.s p0.Text)]))] (Obx rfl) <| Wm (.s ([] : List UInt8)) rfl <| Nk 2 1 ⟨tp 1 (.loc 0 0::tp 102 []), [(.box [(.y p0.Kind), (.i p0.N), (.u p0.Bits), (.s p0.Text)])], 0⟩ <| Sq <| Sx <| Wz (.agg [(.y p0.Kind), (.i p0.N), (.u p0.Bits), (.s p0.Text)]) (Old rfl) ?_
 obtain ⟨r10_0, hr10_0, hm⟩ := bnd hm
 refine Wz (.i r10_0) (Ocf [] [] [] 0 (ok_telltaleref04_Check p0 r10_0 hr10_0) (fun a w => Try.call55 a w) rfl trivial) <| Wz (.b (decide (r10_0 ≠ 0))) (Obn rfl (fun _ => hb_neq (k := .i64))) <| Nk 2050 1 ⟨tp 1 (.loc 0 0::tp 9 (.b (decide (r10_0 ≠ 0))::tp 92 [])), [(.box [(.y p0.Kind), (.i p0.N), (.u p0.Bits), (.s p0.Text)])], 0⟩ ?_
 rcases tf_ (decide (r10_0 ≠ 0)) with hc11_16 | hc11_16
 ·
  replace hm := cT hc11_16 hm
  refine AiT hc11_16 <| Sx <| Wm (.s ([] : List UInt8)) rfl <| Nn <| Rt <| Tr ?_
  obtain rfl := Option.some.inj hm
  exact ret_i []
 ·
  replace hm := cF hc11_16 hm
  refine AiF hc11_16 <| Sk <| Tk 2 1 ⟨tp 1 (.loc 0 0::tp 102 []), [(.box [(.y p0.Kind), (.i p0.N), (.u p0.Bits), (.s p0.Text)])], 0⟩ <| Sq <| Sx <| Wz (.loc 0 0) (Ofa rfl) <| Wz (.y p0.Kind) (Old rfl) <| Wz (.b (decide (((p0.Kind.toNat : Nat) : Int) = 1))) (Ob2 (.int .u8 ((p0.Kind.toNat : Nat) : Int)) (.int .u8 1) rfl (fun _ => hb_eql)) <| Nk 16386 1 ⟨tp 1 (.loc 0 0::tp 12 (.b (decide (((p0.Kind.toNat : Nat) : Int) = 1))::tp 89 [])), [(.box [(.y p0.Kind), (.i p0.N), (.u p0.Bits), (.s p0.Text)])], 0⟩ ?_
  rcases tf_ (decide (((p0.Kind.toNat : Nat) : Int) = 1)) with hc14_17 | hc14_17
  ·
   replace hm := cT hc14_17 hm
   refine AiT hc14_17 <| Sq <| Sx <| Wz (.loc 0 1) (Ofa rfl) <| Wz (.i p0.N) (Old rfl) <| Wz (.b (decide (p0.N < 0))) (Obn rfl (fun _ => hb_lss (k := .i64))) <| Nk 131074 1 ⟨tp 1 (.loc 0 0::tp 15 (.b (decide (p0.N < 0))::tp 86 [])), [(.box [(.y p0.Kind), (.i p0.N), (.u p0.Bits), (.s p0.Text)])], 0⟩ ?_
   rcases tf_ (decide (p0.N < 0)) with hc17_18 | hc17_18
   ·
    replace hm := cT hc17_18 hm
    refine AiT hc17_18 <| Sx <| Wz (.loc 0 1) (Ofa rfl) <| Wz (.i p0.N) (Old rfl) <| Wz (.i (W6 (0 - p0.N))) (Ocs (by kernel_rfl) (op_un rfl (a1 := .int .i64 p0.N) (by kernel_rfl) (fun _ => hu_neg))) ?_
    obtain ⟨r21_1, hr21_1, hm⟩ := bnd hm
    refine Wz (.s r21_1) (Ocf [] [] [] 0 (ok_telltaleref10_decimal (W6 (0 - p0.N)) r21_1 hr21_1) (fun a w => Try.call60 a w) rfl trivial) ?_
    obtain ⟨t22_1, ht22_1, hm⟩ := bnd hm; obtain ⟨ht22_1e, ht22_1l⟩ := app_some ht22_1
    refine Wz (.s t22_1) (op_bin rfl (a1 := .string (toS ([45] : List UInt8))) (a2 := .string (toS r21_1)) (by kernel_rfl) (by kernel_rfl) (fun _ => hb_sadd ht22_1e ht22_1l)) <| Wm (.s t22_1) rfl <| Nn <| Rt <| Tr <| Tr ?_
    obtain rfl := Option.some.inj hm
    exact ret_i []
   ·
    replace hm := cF hc17_18 hm
    refine AiF hc17_18 <| Sk <| Tk 2 1 ⟨tp 1 (.loc 0 0::tp 102 []), [(.box [(.y p0.Kind), (.i p0.N), (.u p0.Bits), (.s p0.Text)])], 0⟩ <| Sx <| Wz (.loc 0 1) (Ofa rfl) <| Wz (.i p0.N) (Old rfl) ?_
    obtain ⟨r25_2, hr25_2, hm⟩ := bnd hm
    refine Wz (.s r25_2) (Ocf [] [] [] 0 (ok_telltaleref10_decimal p0.N r25_2 hr25_2) (fun a w => Try.call60 a w) rfl trivial) <| Wm (.s r25_2) rfl <| Nn <| Rt <| Tr ?_
    obtain rfl := Option.some.inj hm
    exact ret_i []
  ·
   replace hm := cF hc14_17 hm
   refine AiF hc14_17 <| Sk <| Tk 2 1 ⟨tp 1 (.loc 0 0::tp 102 []), [(.box [(.y p0.Kind), (.i p0.N), (.u p0.Bits), (.s p0.Text)])], 0⟩ <| Sq <| Sx <| Wz (.loc 0 0) (Ofa rfl) <| Wz (.y p0.Kind) (Old rfl) <| Wz (.b (decide (((p0.Kind.toNat : Nat) : Int) = 2))) (Ob2 (.int .u8 ((p0.Kind.toNat : Nat) : Int)) (.int .u8 2) rfl (fun _ => hb_eql)) <| Nk 268435458 1 ⟨tp 1 (.loc 0 0::tp 26 (.b (decide (((p0.Kind.toNat : Nat) : Int) = 2))::tp 75 [])), [(.box [(.y p0.Kind), (.i p0.N), (.u p0.Bits), (.s p0.Text)])], 0⟩ ?_
   rcases tf_ (decide (((p0.Kind.toNat : Nat) : Int) = 2)) with hc28_19 | hc28_19
   ·
    replace hm := cT hc28_19 hm
    refine AiT hc28_19 <| Sq <| Sx <| Wz (.loc 0 1) (Ofa rfl) <| Wz (.i p0.N) (Old rfl) <| Wz (.b (decide (p0.N = 1))) (Obn rfl (fun _ => hb_eql (k := .i64))) <| Nk 2147483648 0 ⟨tp 31 (.b (decide (p0.N = 1))::tp 72 []), [.gone], 0⟩ ?_
    rcases tf_ (decide (p0.N = 1)) with hc31_20 | hc31_20
    ·
     replace hm := cT hc31_20 hm
     refine AiT hc31_20 <| Sx <| Wm (.s ([116, 114, 117, 101] : List UInt8)) rfl <| Nn <| Rt <| Tr <| Tr ?_
     obtain rfl := Option.some.inj hm
     exact ret_i []
    ·
     replace hm := cF hc31_20 hm
     refine AiF hc31_20 <| Sk <| Tk 0 0 ⟨tp 104 [], [.gone], 0⟩ <| Sx <| Wm (.s ([102, 97, 108, 115, 101] : List UInt8)) rfl <| Nn <| Rt <| Tr ?_
     obtain rfl := Option.some.inj hm
     exact ret_i []
   ·
    replace hm := cF hc28_19 hm
    refine AiF hc28_19 <| Sk <| Tk 2 1 ⟨tp 1 (.loc 0 0::tp 102 []), [(.box [(.y p0.Kind), (.i p0.N), (.u p0.Bits), (.s p0.Text)])], 0⟩ <| Sq <| Sx <| Wz (.loc 0 0) (Ofa rfl) <| Wz (.y p0.Kind) (Old rfl) <| Wz (.b (decide (((p0.Kind.toNat : Nat) : Int) = 3))) (Ob2 (.int .u8 ((p0.Kind.toNat : Nat) : Int)) (.int .u8 3) rfl (fun _ => hb_eql)) <| Nk 17179869186 1 ⟨tp 1 (.loc 0 0::tp 32 (.b (decide (((p0.Kind.toNat : Nat) : Int) = 3))::tp 69 [])), [(.box [(.y p0.Kind), (.i p0.N), (.u p0.Bits), (.s p0.Text)])], 0⟩ ?_
    rcases tf_ (decide (((p0.Kind.toNat : Nat) : Int) = 3)) with hc34_21 | hc34_21
    ·
     replace hm := cT hc34_21 hm
     refine AiT hc34_21 <| Sx <| Wm (.s ([] : List UInt8)) rfl <| Nk 10 1 ⟨tp 1 (.loc 0 0::tp 1 (.s ([] : List UInt8)::tp 100 [])), [(.box [(.y p0.Kind), (.i p0.N), (.u p0.Bits), (.s p0.Text)])], 0⟩ <| Sx <| Wz (.loc 0 2) (Ofa rfl) <| Wz (.u p0.Bits) (Old rfl) <| Wm (.u p0.Bits) rfl <| Nk 24 0 ⟨tp 3 (.s ([] : List UInt8)::.u p0.Bits::tp 99 []), [.gone], 0⟩ <| Sq <| Sx <| Wm (.i 0) rfl <| Nk 56 0 ⟨tp 3 (.s ([] : List UInt8)::.u p0.Bits::.i 0::tp 98 []), [.gone], 0⟩ <| Bk ?_
     refine AWP.loopI (α := Nat × (List UInt8) × Int × Int)
       (fun (fu_3, y3_3, y4_3, y5_3) => (⟨tp 3 (.s y3_3::.u y4_3::.i y5_3::tp 98 []), [], 0⟩ : St))
       (fun (fu_3, y3_3, y4_3, y5_3) => m_telltaleref10_Literal_l3  fu_3 y3_3 y4_3 y5_3 = some r)
       (fun (fu_3, y3_3, y4_3, y5_3) => fu_3) (1152921504606846976, ([] : List UInt8), p0.Bits, 0)
       (Weak.toK 56 0 0 []) hm ?_
     rintro ⟨fu_3, y3_3, y4_3, y5_3⟩ n_3 hm ih_3
     try dsimp only at hm ih_3 ⊢
     cases fu_3 with
     | zero => exact absurd hm (by unfold m_telltaleref10_Literal_l3; simp)
     | succ fu_3 =>
      unfold m_telltaleref10_Literal_l3 at hm
      refine Sq <| Sx <| Wm (.i y5_3) rfl <| Wz (.b (decide (y5_3 < 16))) (Obn rfl (fun _ => hb_lss (k := .i64))) <| Nk 274877907000 0 ⟨tp 3 (.s y3_3::.u y4_3::.i y5_3::tp 32 (.b (decide (y5_3 < 16))::tp 65 [])), [], 0⟩ ?_
      rcases tf_ (decide (y5_3 < 16)) with hc38_22 | hc38_22
      ·
       replace hm := cT hc38_22 hm
       refine AiT hc38_22 <| Sk <| Tk 56 0 ⟨tp 3 (.s y3_3::.u y4_3::.i y5_3::tp 98 []), [], 0⟩ <| Sq <| Bk <| Sx <| Wm (.u y4_3) rfl <| Wz (.u (Int.tmod y4_3 16)) (Ob2 (.int .u64 y4_3) (.int .u64 16) rfl (fun _ => hb_rem (by decide))) <| Wm (.u y4_3) rfl <| Wz (.u (Int.tmod y4_3 16)) (Ob2 (.int .u64 y4_3) (.int .u64 16) rfl (fun _ => hb_rem (by decide))) <| Wz (.u (W7 ((Int.tmod y4_3 16) + 1))) (Obn rfl (fun _ => hb_add (k := .u64))) ?_
       obtain ⟨s46_4, hs46_4, hm⟩ := bnd hm; obtain ⟨hs46_4a, hs46_4b, hs46_4c, hs46_4d, hs46_4e⟩ := cut_some hs46_4
       refine Wz (.s s46_4) (Ocs (lit_str (toS_cut hs46_4e)) (op_slice_str rfl (by kernel_rfl) (s := toS ([48, 49, 50, 51, 52, 53, 54, 55, 56, 57, 97, 98, 99, 100, 101, 102] : List UInt8)) (by kernel_rfl) (l := (Int.toNat (Int.tmod y4_3 16))) (h := (Int.toNat (W7 ((Int.tmod y4_3 16) + 1)))) (⟨.u64, (Int.tmod y4_3 16), by kernel_rfl, hs46_4a⟩) (⟨.u64, (W7 ((Int.tmod y4_3 16) + 1)), by kernel_rfl, hs46_4b⟩) hs46_4c hs46_4d)) <| Wm (.s y3_3) rfl ?_
       obtain ⟨t48_4, ht48_4, hm⟩ := bnd hm; obtain ⟨ht48_4e, ht48_4l⟩ := app_some ht48_4
       refine Wz (.s t48_4) (op_bin rfl (a1 := .string (toS s46_4)) (a2 := .string (toS y3_3)) (by kernel_rfl) (by kernel_rfl) (fun _ => hb_sadd ht48_4e ht48_4l)) <| Wm (.s t48_4) rfl <| Nk 56 0 ⟨tp 3 (.s t48_4::.u y4_3::.i y5_3::tp 98 []), [], 0⟩ <| Tx <| Wm (.u y4_3) rfl <| Wz (.u (W7 (Int.tdiv y4_3 16))) (Ob2 (.int .u64 y4_3) (.int .u64 16) rfl (fun _ => hb_quo (by decide))) <| Wm (.u (W7 (Int.tdiv y4_3 16))) rfl <| Wn0 <| Ino <| Tk 56 0 ⟨tp 3 (.s t48_4::.u (W7 (Int.tdiv y4_3 16))::.i y5_3::tp 98 []), [], 0⟩ <| Tx <| Wm (.i y5_3) rfl <| Wz (.i (W6 (y5_3 + 1))) (Obn rfl (fun _ => hb_add (k := .i64))) <| Wm (.i (W6 (y5_3 + 1))) rfl ?_
       refine Wn0 <| RoundK.normal ?_
       exact Rounds.weak (Weak.toK 56 0 0 []) (ih_3 (fu_3, t48_4, (W7 (Int.tdiv y4_3 16)), (W6 (y5_3 + 1))) hm (Nat.lt_succ_self _))
      ·
       replace hm := cF hc38_22 hm
       refine AiF hc38_22 <| AWP.exit <| Then.exit <| RoundK.exit <| InBlock.same <| Tk 8 0 ⟨tp 3 (.s y3_3::tp 100 []), [], 0⟩ <| Sx <| Wm (.s y3_3) rfl ?_
       obtain ⟨t52_5, ht52_5, hm⟩ := bnd hm; obtain ⟨ht52_5e, ht52_5l⟩ := app_some ht52_5
       refine Wz (.s t52_5) (op_bin rfl (a1 := .string (toS ([35] : List UInt8))) (a2 := .string (toS y3_3)) (by kernel_rfl) (by kernel_rfl) (fun _ => hb_sadd ht52_5e ht52_5l)) <| Wm (.s t52_5) rfl <| Nn <| Rt <| Tr ?_
       obtain rfl := Option.some.inj hm
       exact ret_i []
    ·
     replace hm := cF hc34_21 hm
     refine AiF hc34_21 <| Sk <| Tk 2 1 ⟨tp 1 (.loc 0 0::tp 102 []), [(.box [(.y p0.Kind), (.i p0.N), (.u p0.Bits), (.s p0.Text)])], 0⟩ <| Sx <| Wm (.s ([39] : List UInt8)) rfl <| Nk 66 1 ⟨tp 1 (.loc 0 0::tp 4 (.s ([39] : List UInt8)::tp 97 [])), [(.box [(.y p0.Kind), (.i p0.N), (.u p0.Bits), (.s p0.Text)])], 0⟩ <| Sq <| Sx <| Wm (.i 0) rfl <| Nk 194 1 ⟨tp 1 (.loc 0 0::tp 4 (.s ([39] : List UInt8)::.i 0::tp 96 [])), [(.box [(.y p0.Kind), (.i p0.N), (.u p0.Bits), (.s p0.Text)])], 0⟩ <| Bk ?_
     refine AWP.loopI (α := Nat × (List UInt8) × Int)
       (fun (fu_6, y6_6, y7_6) => (⟨tp 1 (.loc 0 0::tp 4 (.s y6_6::.i y7_6::tp 96 [])), [(.box [(.y p0.Kind), (.i p0.N), (.u p0.Bits), (.s p0.Text)])], 0⟩ : St))
       (fun (fu_6, y6_6, y7_6) => m_telltaleref10_Literal_l6 p0 fu_6 y6_6 y7_6 = some r)
       (fun (fu_6, y6_6, y7_6) => fu_6) (1152921504606846976, ([39] : List UInt8), 0)
       (Weak.toK 194 0 0 [0]) hm ?_
     rintro ⟨fu_6, y6_6, y7_6⟩ n_6 hm ih_6
     try dsimp only at hm ih_6 ⊢
     cases fu_6 with
     | zero => exact absurd hm (by unfold m_telltaleref10_Literal_l6; simp)
     | succ fu_6 =>
      unfold m_telltaleref10_Literal_l6 at hm
      refine Sq <| Sx <| Wm (.i y7_6) rfl <| Wz (.loc 0 3) (Ofa rfl) <| Wz (.s p0.Text) (Old rfl) <| Wz (.i ((List.length p0.Text : Nat) : Int)) (Oln rfl) <| Wz (.b (decide (y7_6 < ((List.length p0.Text : Nat) : Int)))) (Obn rfl (fun _ => hb_lss (k := .i64))) <| Nk 144115188075856066 1 ⟨tp 1 (.loc 0 0::tp 4 (.s y6_6::.i y7_6::tp 49 (.b (decide (y7_6 < ((List.length p0.Text : Nat) : Int)))::tp 46 []))), [(.box [(.y p0.Kind), (.i p0.N), (.u p0.Bits), (.s p0.Text)])], 0⟩ ?_
      rcases tf_ (decide (y7_6 < ((List.length p0.Text : Nat) : Int))) with hc57_23 | hc57_23
      ·
       replace hm := cT hc57_23 hm
       refine AiT hc57_23 <| Sk <| Tk 194 1 ⟨tp 1 (.loc 0 0::tp 4 (.s y6_6::.i y7_6::tp 96 [])), [(.box [(.y p0.Kind), (.i p0.N), (.u p0.Bits), (.s p0.Text)])], 0⟩ <| Sq <| Bk <| Sx <| Wz (.loc 0 3) (Ofa rfl) <| Wz (.s p0.Text) (Old rfl) <| Wm (.i y7_6) rfl ?_
       obtain ⟨x63_8, hx63_8, hm⟩ := bnd hm
       obtain ⟨hx63_8i, hx63_8g⟩ := geti_some hx63_8
       refine Wz (.y x63_8) (Ocs (by kernel_rfl) (op_index_str rfl (by kernel_rfl) (s := toS p0.Text) (by kernel_rfl) (k := .i64) (iv := y7_6) (by kernel_rfl) (i := (Int.toNat y7_6)) (hx63_8i) (b := x63_8) (hx63_8g))) <| Wm (.y x63_8) rfl <| Nk 450 1 ⟨tp 1 (.loc 0 0::tp 4 (.s y6_6::.i y7_6::.y x63_8::tp 95 [])), [(.box [(.y p0.Kind), (.i p0.N), (.u p0.Bits), (.s p0.Text)])], 0⟩ <| Sx <| Wm (.y x63_8) rfl <| Wz (.b (decide (((x63_8.toNat : Nat) : Int) = 39))) (Ob2 (.int .u8 ((x63_8.toNat : Nat) : Int)) (.int .u8 39) rfl (fun _ => hb_eql)) <| Nk 36893488147419103682 1 ⟨tp 1 (.loc 0 0::tp 4 (.s y6_6::.i y7_6::.y x63_8::tp 56 (.b (decide (((x63_8.toNat : Nat) : Int) = 39))::tp 38 []))), [(.box [(.y p0.Kind), (.i p0.N), (.u p0.Bits), (.s p0.Text)])], 0⟩ ?_
       rcases tf_ (decide (((x63_8.toNat : Nat) : Int) = 39)) with hc65_24 | hc65_24
       ·
        replace hm := cT hc65_24 hm
        refine AiT hc65_24 <| Tx <| Wm (.s y6_6) rfl ?_
        obtain ⟨t67_9, ht67_9, hm⟩ := bnd hm; obtain ⟨ht67_9e, ht67_9l⟩ := app_some ht67_9
        refine Wz (.s t67_9) (op_bin rfl (a1 := .string (toS y6_6)) (a2 := .string (toS ([39, 39] : List UInt8))) (by kernel_rfl) (by kernel_rfl) (fun _ => hb_sadd ht67_9e ht67_9l)) <| Wm (.s t67_9) rfl <| Wn0 <| Ino <| Tk 194 1 ⟨tp 1 (.loc 0 0::tp 4 (.s t67_9::.i y7_6::tp 96 [])), [(.box [(.y p0.Kind), (.i p0.N), (.u p0.Bits), (.s p0.Text)])], 0⟩ <| Tx <| Wm (.i y7_6) rfl <| Wz (.i (W6 (y7_6 + 1))) (Obn rfl (fun _ => hb_add (k := .i64))) <| Wm (.i (W6 (y7_6 + 1))) rfl <| Wn0 <| RoundK.normal ?_
        exact Rounds.weak (Weak.toK 194 0 0 [0]) (ih_6 (fu_6, t67_9, (W6 (y7_6 + 1))) hm (Nat.lt_succ_self _))
       ·
        replace hm := cF hc65_24 hm
        refine AiF hc65_24 ?_
        refine AWP.cutJ (α := Unit) (fun x => match x with | () => (⟨tp 1 (.loc 0 0::tp 4 (.s y6_6::.i y7_6::.y x63_8::tp 68 (.b false::tp 26 []))), [(.box [(.y p0.Kind), (.i p0.N), (.u p0.Bits), (.s p0.Text)])], 0⟩ : St)) (fun x => match x with | () => m_telltaleref10_Literal_j11 x63_8 y6_6 y7_6 (fun y6_6 y7_6 => m_telltaleref10_Literal_l6 p0 fu_6 y6_6 y7_6) = some r) ?_ (fun J11 => ?_)
        ·
         rintro ⟨⟩ hm
         try dsimp only at hm ⊢
         unfold m_telltaleref10_Literal_j11 at hm
         refine AWP.if_ false (by kernel_rfl) <| Adr <| Wm (.s y6_6) rfl ?_
         obtain ⟨t87_14, ht87_14, hm⟩ := bnd hm; obtain ⟨ht87_14e, ht87_14l⟩ := app_some ht87_14
         refine Wz (.s t87_14) (op_bin rfl (a1 := .string (toS y6_6)) (a2 := .string (toS ([92] : List UInt8))) (by kernel_rfl) (by kernel_rfl) (fun _ => hb_sadd ht87_14e ht87_14l)) <| Wm (.y x63_8) rfl <| Wz (.y (toU8 (Int.tdiv ((x63_8.toNat : Nat) : Int) 16))) (Ocs (lit_int (u8w _)) (op_bin rfl (a1 := .int .u8 ((x63_8.toNat : Nat) : Int)) (a2 := .int .u8 16) (by kernel_rfl) (by kernel_rfl) (fun _ => hb_quo (by decide)))) <| Wm (.y x63_8) rfl <| Wz (.y (toU8 (Int.tdiv ((x63_8.toNat : Nat) : Int) 16))) (Ocs (lit_int (u8w _)) (op_bin rfl (a1 := .int .u8 ((x63_8.toNat : Nat) : Int)) (a2 := .int .u8 16) (by kernel_rfl) (by kernel_rfl) (fun _ => hb_quo (by decide)))) <| Wz (.y (toU8 ((((toU8 (Int.tdiv ((x63_8.toNat : Nat) : Int) 16)).toNat : Nat) : Int) + 1))) (Ocs (lit_int (u8w _)) (op_bin rfl (a1 := .int .u8 (((toU8 (Int.tdiv ((x63_8.toNat : Nat) : Int) 16)).toNat : Nat) : Int)) (a2 := .int .u8 1) (by kernel_rfl) (by kernel_rfl) (fun _ => hb_add))) ?_
         obtain ⟨s93_14, hs93_14, hm⟩ := bnd hm; obtain ⟨hs93_14a, hs93_14b, hs93_14c, hs93_14d, hs93_14e⟩ := cut_some hs93_14
         refine Wz (.s s93_14) (Ocs (lit_str (toS_cut hs93_14e)) (op_slice_str rfl (by kernel_rfl) (s := toS ([48, 49, 50, 51, 52, 53, 54, 55, 56, 57, 97, 98, 99, 100, 101, 102] : List UInt8)) (by kernel_rfl) (l := (Int.toNat (((toU8 (Int.tdiv ((x63_8.toNat : Nat) : Int) 16)).toNat : Nat) : Int))) (h := (Int.toNat (((toU8 ((((toU8 (Int.tdiv ((x63_8.toNat : Nat) : Int) 16)).toNat : Nat) : Int) + 1)).toNat : Nat) : Int))) (⟨.u8, (((toU8 (Int.tdiv ((x63_8.toNat : Nat) : Int) 16)).toNat : Nat) : Int), by kernel_rfl, hs93_14a⟩) (⟨.u8, (((toU8 ((((toU8 (Int.tdiv ((x63_8.toNat : Nat) : Int) 16)).toNat : Nat) : Int) + 1)).toNat : Nat) : Int), by kernel_rfl, hs93_14b⟩) hs93_14c hs93_14d)) ?_
         obtain ⟨t94_14, ht94_14, hm⟩ := bnd hm; obtain ⟨ht94_14e, ht94_14l⟩ := app_some ht94_14
         refine Wz (.s t94_14) (op_bin rfl (a1 := .string (toS t87_14)) (a2 := .string (toS s93_14)) (by kernel_rfl) (by kernel_rfl) (fun _ => hb_sadd ht94_14e ht94_14l)) <| Wm (.y x63_8) rfl <| Wz (.y (toU8 (Int.tmod ((x63_8.toNat : Nat) : Int) 16))) (Ocs (lit_int (u8m (by decide))) (op_bin rfl (a1 := .int .u8 ((x63_8.toNat : Nat) : Int)) (a2 := .int .u8 16) (by kernel_rfl) (by kernel_rfl) (fun _ => hb_rem (by decide)))) <| Wm (.y x63_8) rfl <| Wz (.y (toU8 (Int.tmod ((x63_8.toNat : Nat) : Int) 16))) (Ocs (lit_int (u8m (by decide))) (op_bin rfl (a1 := .int .u8 ((x63_8.toNat : Nat) : Int)) (a2 := .int .u8 16) (by kernel_rfl) (by kernel_rfl) (fun _ => hb_rem (by decide)))) <| Wz (.y (toU8 ((((toU8 (Int.tmod ((x63_8.toNat : Nat) : Int) 16)).toNat : Nat) : Int) + 1))) (Ocs (lit_int (u8w _)) (op_bin rfl (a1 := .int .u8 (((toU8 (Int.tmod ((x63_8.toNat : Nat) : Int) 16)).toNat : Nat) : Int)) (a2 := .int .u8 1) (by kernel_rfl) (by kernel_rfl) (fun _ => hb_add))) ?_
         obtain ⟨s100_14, hs100_14, hm⟩ := bnd hm; obtain ⟨hs100_14a, hs100_14b, hs100_14c, hs100_14d, hs100_14e⟩ := cut_some hs100_14
         refine Wz (.s s100_14) (Ocs (lit_str (toS_cut hs100_14e)) (op_slice_str rfl (by kernel_rfl) (s := toS ([48, 49, 50, 51, 52, 53, 54, 55, 56, 57, 97, 98, 99, 100, 101, 102] : List UInt8)) (by kernel_rfl) (l := (Int.toNat (((toU8 (Int.tmod ((x63_8.toNat : Nat) : Int) 16)).toNat : Nat) : Int))) (h := (Int.toNat (((toU8 ((((toU8 (Int.tmod ((x63_8.toNat : Nat) : Int) 16)).toNat : Nat) : Int) + 1)).toNat : Nat) : Int))) (⟨.u8, (((toU8 (Int.tmod ((x63_8.toNat : Nat) : Int) 16)).toNat : Nat) : Int), by kernel_rfl, hs100_14a⟩) (⟨.u8, (((toU8 ((((toU8 (Int.tmod ((x63_8.toNat : Nat) : Int) 16)).toNat : Nat) : Int) + 1)).toNat : Nat) : Int), by kernel_rfl, hs100_14b⟩) hs100_14c hs100_14d)) ?_
         obtain ⟨t101_14, ht101_14, hm⟩ := bnd hm; obtain ⟨ht101_14e, ht101_14l⟩ := app_some ht101_14
         refine Wz (.s t101_14) (op_bin rfl (a1 := .string (toS t94_14)) (a2 := .string (toS s100_14)) (by kernel_rfl) (by kernel_rfl) (fun _ => hb_sadd ht101_14e ht101_14l)) <| Wm (.s t101_14) rfl <| Wdr <| Ino <| Tk 194 1 ⟨tp 1 (.loc 0 0::tp 4 (.s t101_14::.i y7_6::tp 96 [])), [(.box [(.y p0.Kind), (.i p0.N), (.u p0.Bits), (.s p0.Text)])], 0⟩ <| Tx <| Wm (.i y7_6) rfl <| Wz (.i (W6 (y7_6 + 1))) (Obn rfl (fun _ => hb_add (k := .i64))) <| Wm (.i (W6 (y7_6 + 1))) rfl <| Wn0 <| RoundK.normal ?_
         exact Rounds.weak (Weak.toK 194 0 0 [0]) (ih_6 (fu_6, t101_14, (W6 (y7_6 + 1))) hm (Nat.lt_succ_self _))
        refine Sx <| Wm (.y x63_8) rfl <| Wz (.b (decide ((32 : Int) ≤ ((x63_8.toNat : Nat) : Int)))) (Ob2 (.int .u8 ((x63_8.toNat : Nat) : Int)) (.int .u8 32) rfl (fun _ => hb_geq)) ?_
        rcases tf_ (decide ((32 : Int) ≤ ((x63_8.toNat : Nat) : Int))) with hq70_10 | hq70_10
        ·
         replace hm := cT hq70_10 hm
         refine Wz (.b true) (Oq hq70_10 rfl) <| Wm (.y x63_8) rfl <| Wz (.b (decide (((x63_8.toNat : Nat) : Int) ≤ 126))) (Ob2 (.int .u8 ((x63_8.toNat : Nat) : Int)) (.int .u8 126) rfl (fun _ => hb_leq)) <| Wz (.b (decide (((x63_8.toNat : Nat) : Int) ≤ 126))) (OpT rfl) ?_
         rcases tf_ (decide (((x63_8.toNat : Nat) : Int) ≤ 126)) with hq74_10 | hq74_10
         ·
          replace hm := cT hq74_10 hm
          refine Wz (.b true) (Oq hq74_10 rfl) <| Wm (.y x63_8) rfl <| Wz (.b (decide (((x63_8.toNat : Nat) : Int) ≠ 92))) (Ob2 (.int .u8 ((x63_8.toNat : Nat) : Int)) (.int .u8 92) rfl (fun _ => hb_neq)) <| Wz (.b (decide (((x63_8.toNat : Nat) : Int) ≠ 92))) (OpT rfl) <| Nk 151115727451828646838722 1 ⟨tp 1 (.loc 0 0::tp 4 (.s y6_6::.i y7_6::.y x63_8::tp 68 (.b (decide (((x63_8.toNat : Nat) : Int) ≠ 92))::tp 26 []))), [(.box [(.y p0.Kind), (.i p0.N), (.u p0.Bits), (.s p0.Text)])], 0⟩ ?_
          rcases tf_ (decide (((x63_8.toNat : Nat) : Int) ≠ 92)) with hc77_25 | hc77_25
          ·
           replace hm := cT hc77_25 hm
           refine AiT hc77_25 <| Tx <| Wm (.s y6_6) rfl <| Wz (.loc 0 3) (Ofa rfl) <| Wz (.s p0.Text) (Old rfl) <| Wm (.i y7_6) rfl <| Wm (.i y7_6) rfl <| Wz (.i (W6 (y7_6 + 1))) (Obn rfl (fun _ => hb_add (k := .i64))) ?_
           obtain ⟨s84_12, hs84_12, hm⟩ := bnd hm; obtain ⟨hs84_12a, hs84_12b, hs84_12c, hs84_12d, hs84_12e⟩ := cut_some hs84_12
           refine Wz (.s s84_12) (Ocs (lit_str (toS_cut hs84_12e)) (op_slice_str rfl (by kernel_rfl) (s := toS p0.Text) (by kernel_rfl) (l := (Int.toNat y7_6)) (h := (Int.toNat (W6 (y7_6 + 1)))) (⟨.i64, y7_6, by kernel_rfl, hs84_12a⟩) (⟨.i64, (W6 (y7_6 + 1)), by kernel_rfl, hs84_12b⟩) hs84_12c hs84_12d)) ?_
           obtain ⟨t85_12, ht85_12, hm⟩ := bnd hm; obtain ⟨ht85_12e, ht85_12l⟩ := app_some ht85_12
           refine Wz (.s t85_12) (op_bin rfl (a1 := .string (toS y6_6)) (a2 := .string (toS s84_12)) (by kernel_rfl) (by kernel_rfl) (fun _ => hb_sadd ht85_12e ht85_12l)) <| Wm (.s t85_12) rfl <| Wn0 <| Ino <| Tk 194 1 ⟨tp 1 (.loc 0 0::tp 4 (.s t85_12::.i y7_6::tp 96 [])), [(.box [(.y p0.Kind), (.i p0.N), (.u p0.Bits), (.s p0.Text)])], 0⟩ <| Tx <| Wm (.i y7_6) rfl <| Wz (.i (W6 (y7_6 + 1))) (Obn rfl (fun _ => hb_add (k := .i64))) <| Wm (.i (W6 (y7_6 + 1))) rfl <| Wn0 <| RoundK.normal ?_
           exact Rounds.weak (Weak.toK 194 0 0 [0]) (ih_6 (fu_6, t85_12, (W6 (y7_6 + 1))) hm (Nat.lt_succ_self _))
          ·
           replace hm := cF hc77_25 hm
           refine AiF hc77_25 <| Adr <| Wm (.s y6_6) rfl ?_
           obtain ⟨t87_13, ht87_13, hm⟩ := bnd hm; obtain ⟨ht87_13e, ht87_13l⟩ := app_some ht87_13
           refine Wz (.s t87_13) (op_bin rfl (a1 := .string (toS y6_6)) (a2 := .string (toS ([92] : List UInt8))) (by kernel_rfl) (by kernel_rfl) (fun _ => hb_sadd ht87_13e ht87_13l)) <| Wm (.y x63_8) rfl <| Wz (.y (toU8 (Int.tdiv ((x63_8.toNat : Nat) : Int) 16))) (Ocs (lit_int (u8w _)) (op_bin rfl (a1 := .int .u8 ((x63_8.toNat : Nat) : Int)) (a2 := .int .u8 16) (by kernel_rfl) (by kernel_rfl) (fun _ => hb_quo (by decide)))) <| Wm (.y x63_8) rfl <| Wz (.y (toU8 (Int.tdiv ((x63_8.toNat : Nat) : Int) 16))) (Ocs (lit_int (u8w _)) (op_bin rfl (a1 := .int .u8 ((x63_8.toNat : Nat) : Int)) (a2 := .int .u8 16) (by kernel_rfl) (by kernel_rfl) (fun _ => hb_quo (by decide)))) <| Wz (.y (toU8 ((((toU8 (Int.tdiv ((x63_8.toNat : Nat) : Int) 16)).toNat : Nat) : Int) + 1))) (Ocs (lit_int (u8w _)) (op_bin rfl (a1 := .int .u8 (((toU8 (Int.tdiv ((x63_8.toNat : Nat) : Int) 16)).toNat : Nat) : Int)) (a2 := .int .u8 1) (by kernel_rfl) (by kernel_rfl) (fun _ => hb_add))) ?_
           obtain ⟨s93_13, hs93_13, hm⟩ := bnd hm; obtain ⟨hs93_13a, hs93_13b, hs93_13c, hs93_13d, hs93_13e⟩ := cut_some hs93_13
           refine Wz (.s s93_13) (Ocs (lit_str (toS_cut hs93_13e)) (op_slice_str rfl (by kernel_rfl) (s := toS ([48, 49, 50, 51, 52, 53, 54, 55, 56, 57, 97, 98, 99, 100, 101, 102] : List UInt8)) (by kernel_rfl) (l := (Int.toNat (((toU8 (Int.tdiv ((x63_8.toNat : Nat) : Int) 16)).toNat : Nat) : Int))) (h := (Int.toNat (((toU8 ((((toU8 (Int.tdiv ((x63_8.toNat : Nat) : Int) 16)).toNat : Nat) : Int) + 1)).toNat : Nat) : Int))) (⟨.u8, (((toU8 (Int.tdiv ((x63_8.toNat : Nat) : Int) 16)).toNat : Nat) : Int), by kernel_rfl, hs93_13a⟩) (⟨.u8, (((toU8 ((((toU8 (Int.tdiv ((x63_8.toNat : Nat) : Int) 16)).toNat : Nat) : Int) + 1)).toNat : Nat) : Int), by kernel_rfl, hs93_13b⟩) hs93_13c hs93_13d)) ?_
           obtain ⟨t94_13, ht94_13, hm⟩ := bnd hm; obtain ⟨ht94_13e, ht94_13l⟩ := app_some ht94_13
           refine Wz (.s t94_13) (op_bin rfl (a1 := .string (toS t87_13)) (a2 := .string (toS s93_13)) (by kernel_rfl) (by kernel_rfl) (fun _ => hb_sadd ht94_13e ht94_13l)) <| Wm (.y x63_8) rfl <| Wz (.y (toU8 (Int.tmod ((x63_8.toNat : Nat) : Int) 16))) (Ocs (lit_int (u8m (by decide))) (op_bin rfl (a1 := .int .u8 ((x63_8.toNat : Nat) : Int)) (a2 := .int .u8 16) (by kernel_rfl) (by kernel_rfl) (fun _ => hb_rem (by decide)))) <| Wm (.y x63_8) rfl <| Wz (.y (toU8 (Int.tmod ((x63_8.toNat : Nat) : Int) 16))) (Ocs (lit_int (u8m (by decide))) (op_bin rfl (a1 := .int .u8 ((x63_8.toNat : Nat) : Int)) (a2 := .int .u8 16) (by kernel_rfl) (by kernel_rfl) (fun _ => hb_rem (by decide)))) <| Wz (.y (toU8 ((((toU8 (Int.tmod ((x63_8.toNat : Nat) : Int) 16)).toNat : Nat) : Int) + 1))) (Ocs (lit_int (u8w _)) (op_bin rfl (a1 := .int .u8 (((toU8 (Int.tmod ((x63_8.toNat : Nat) : Int) 16)).toNat : Nat) : Int)) (a2 := .int .u8 1) (by kernel_rfl) (by kernel_rfl) (fun _ => hb_add))) ?_
           obtain ⟨s100_13, hs100_13, hm⟩ := bnd hm; obtain ⟨hs100_13a, hs100_13b, hs100_13c, hs100_13d, hs100_13e⟩ := cut_some hs100_13
           refine Wz (.s s100_13) (Ocs (lit_str (toS_cut hs100_13e)) (op_slice_str rfl (by kernel_rfl) (s := toS ([48, 49, 50, 51, 52, 53, 54, 55, 56, 57, 97, 98, 99, 100, 101, 102] : List UInt8)) (by kernel_rfl) (l := (Int.toNat (((toU8 (Int.tmod ((x63_8.toNat : Nat) : Int) 16)).toNat : Nat) : Int))) (h := (Int.toNat (((toU8 ((((toU8 (Int.tmod ((x63_8.toNat : Nat) : Int) 16)).toNat : Nat) : Int) + 1)).toNat : Nat) : Int))) (⟨.u8, (((toU8 (Int.tmod ((x63_8.toNat : Nat) : Int) 16)).toNat : Nat) : Int), by kernel_rfl, hs100_13a⟩) (⟨.u8, (((toU8 ((((toU8 (Int.tmod ((x63_8.toNat : Nat) : Int) 16)).toNat : Nat) : Int) + 1)).toNat : Nat) : Int), by kernel_rfl, hs100_13b⟩) hs100_13c hs100_13d)) ?_
           obtain ⟨t101_13, ht101_13, hm⟩ := bnd hm; obtain ⟨ht101_13e, ht101_13l⟩ := app_some ht101_13
           refine Wz (.s t101_13) (op_bin rfl (a1 := .string (toS t94_13)) (a2 := .string (toS s100_13)) (by kernel_rfl) (by kernel_rfl) (fun _ => hb_sadd ht101_13e ht101_13l)) <| Wm (.s t101_13) rfl <| Wdr <| Ino <| Tk 194 1 ⟨tp 1 (.loc 0 0::tp 4 (.s t101_13::.i y7_6::tp 96 [])), [(.box [(.y p0.Kind), (.i p0.N), (.u p0.Bits), (.s p0.Text)])], 0⟩ <| Tx <| Wm (.i y7_6) rfl <| Wz (.i (W6 (y7_6 + 1))) (Obn rfl (fun _ => hb_add (k := .i64))) <| Wm (.i (W6 (y7_6 + 1))) rfl <| Wn0 <| RoundK.normal ?_
           exact Rounds.weak (Weak.toK 194 0 0 [0]) (ih_6 (fu_6, t101_13, (W6 (y7_6 + 1))) hm (Nat.lt_succ_self _))
         ·
          replace hm := cF hq74_10 hm
          refine Wz (.b false) (Oq hq74_10 rfl) <| Wn <| Wn <| Wz (.b false) (OpF rfl) <| Nn ?_
          exact AWP.weak (Weak.toK 151115727451828646838722 0 0 [0]) (J11 () hm)
        ·
         replace hm := cF hq70_10 hm
         refine Wz (.b false) (Oq hq70_10 rfl) <| Wn <| Wn <| Wz (.b false) (OpF rfl) <| Wm (.b false) rfl <| Wn <| Wn <| Wz (.b false) (OpF rfl) <| Nn ?_
         exact AWP.weak (Weak.toK 151115727451828646838722 0 0 [0]) (J11 () hm)
      ·
       replace hm := cF hc57_23 hm
       refine AiF hc57_23 <| AWP.exit <| Then.exit <| RoundK.exit <| InBlock.same <| Tk 64 0 ⟨tp 6 (.s y6_6::tp 97 []), [.gone], 0⟩ <| Sx <| Wm (.s y6_6) rfl ?_
       obtain ⟨t103_15, ht103_15, hm⟩ := bnd hm; obtain ⟨ht103_15e, ht103_15l⟩ := app_some ht103_15
       refine Wz (.s t103_15) (op_bin rfl (a1 := .string (toS y6_6)) (a2 := .string (toS ([39] : List UInt8))) (by kernel_rfl) (by kernel_rfl) (fun _ => hb_sadd ht103_15e ht103_15l)) <| Wm (.s t103_15) rfl <| Nn <| Rt ?_
       obtain rfl := Option.some.inj hm
       exact ret_i []

theorem ok_telltaleref11_about (p0 : (List UInt8)) (p1 : Bool) (r : (List UInt8)) (h : m_telltaleref11_about p0 p1 = some r) : GCall Try.prog 48 [(.s p0), (.b p1)] [] (.s r) [] := by
 refine GCall.of_body (n := 10) (rs := [(.tmp 4)]) Try.func48 rfl rfl rfl <| Ato ⟨.s p0::.b p1::tu 8 [], [], 0⟩ ?_
 have hm := h
 unfold m_telltaleref11_about at hm
 refine Sx <| Wm (.s ([] : List UInt8)) rfl <| Nk 3 0 ⟨.s p0::.b p1::tp 8 [], [], 0⟩ <| Sq <| Sx <| Wm (.b p1) rfl <| Nk 33 0 ⟨.s p0::tp 4 (.b p1::tp 4 []), [], 0⟩ ?_
 rcases tf_ p1 with hc5_1 | hc5_1
 ·
  replace hm := cT hc5_1 hm
  refine AiT hc5_1 <| Sx <| Wm (.s p0) rfl ?_
  obtain ⟨t7_0, ht7_0, hm⟩ := bnd hm; obtain ⟨ht7_0e, ht7_0l⟩ := app_some ht7_0
  refine Wz (.s t7_0) (op_bin rfl (a1 := .string (toS ([40] : List UInt8))) (a2 := .string (toS p0)) (by kernel_rfl) (by kernel_rfl) (fun _ => hb_sadd ht7_0e ht7_0l)) ?_
  obtain ⟨t8_0, ht8_0, hm⟩ := bnd hm; obtain ⟨ht8_0e, ht8_0l⟩ := app_some ht8_0
  refine Wz (.s t8_0) (op_bin rfl (a1 := .string (toS t7_0)) (a2 := .string (toS ([41] : List UInt8))) (by kernel_rfl) (by kernel_rfl) (fun _ => hb_sadd ht8_0e ht8_0l)) <| Wm (.s t8_0) rfl <| Nn <| Rt <| Tr ?_
  obtain rfl := Option.some.inj hm
  exact ret_i []
 ·
  replace hm := cF hc5_1 hm
  refine AiF hc5_1 <| Sk <| Tk 1 0 ⟨.s p0::tp 9 [], [], 0⟩ <| Sx <| Wm (.s p0) rfl <| Wm (.s p0) rfl <| Nn <| Rt ?_
  obtain rfl := Option.some.inj hm
  exact ret_i []

theorem ok_telltaleref05_Sign (p0 : UInt8) (r : (List UInt8)) (h : m_telltaleref05_Sign p0 = some r) : GCall Try.prog 49 [(.y p0)] [] (.s r) [] := by
 refine GCall.of_body (n := 11) (rs := [(.tmp 2)]) Try.func49 rfl rfl rfl <| Ato ⟨.y p0::tu 10 [], [], 0⟩ ?_
 have hm := h
 unfold m_telltaleref05_Sign at hm
 refine Sx <| Wm (.s ([] : List UInt8)) rfl <| Nk 1 0 ⟨.y p0::tp 10 [], [], 0⟩ <| Sx <| Wy (.own 0) [(0, (Ar 9 1 encS ([([] : List UInt8), ([61] : List UInt8), ([33, 61] : List UInt8), ([60] : List UInt8), ([60, 61] : List UInt8), ([62] : List UInt8), ([62, 61] : List UInt8)] : List (List UInt8))))] (Obs rfl) <| Wm (.own 0) rfl <| Nk 9 1 ⟨.y p0::tp 2 (.own 0::tp 7 []), [(Ar 9 1 encS ([([] : List UInt8), ([61] : List UInt8), ([33, 61] : List UInt8), ([60] : List UInt8), ([60, 61] : List UInt8), ([62] : List UInt8), ([62, 61] : List UInt8)] : List (List UInt8)))], 0⟩ <| Sq <| Sx <| Wm (.y p0) rfl <| Wz (.b (decide ((6 : Int) < ((p0.toNat : Nat) : Int)))) (Ob2 (.int .u8 ((p0.toNat : Nat) : Int)) (.int .u8 6) rfl (fun _ => hb_gtr)) <| Nk 73 1 ⟨.y p0::tp 2 (.own 0::tp 2 (.b (decide ((6 : Int) < ((p0.toNat : Nat) : Int)))::tp 4 [])), [(Ar 9 1 encS ([([] : List UInt8), ([61] : List UInt8), ([33, 61] : List UInt8), ([60] : List UInt8), ([60, 61] : List UInt8), ([62] : List UInt8), ([62, 61] : List UInt8)] : List (List UInt8)))], 0⟩ ?_
 rcases tf_ (decide ((6 : Int) < ((p0.toNat : Nat) : Int))) with hc6_1 | hc6_1
 ·
  replace hm := cT hc6_1 hm
  refine AiT hc6_1 <| Sx <| Wm (.s ([] : List UInt8)) rfl <| Nn <| Rt <| Tr ?_
  obtain rfl := Option.some.inj hm
  exact ret_i []
 ·
  replace hm := cF hc6_1 hm
  refine AiF hc6_1 <| Sk <| Tk 9 1 ⟨.y p0::tp 2 (.own 0::tp 7 []), [(Ar 9 1 encS ([([] : List UInt8), ([61] : List UInt8), ([33, 61] : List UInt8), ([60] : List UInt8), ([60, 61] : List UInt8), ([62] : List UInt8), ([62, 61] : List UInt8)] : List (List UInt8)))], 0⟩ <| Sx <| Wm (.own 0) rfl <| Wm (.y p0) rfl ?_
  obtain ⟨x9_0, hx9_0, hm⟩ := bnd hm
  obtain ⟨hx9_0i, hx9_0g⟩ := geti_some hx9_0
  refine Wz (.loc 0 ((Int.toNat ((p0.toNat : Nat) : Int)) * 1)) (Oia rfl encS_len hx9_0i hx9_0g) <| Wz (.s x9_0) (Lr1 rfl encS_len hx9_0g) <| Wm (.s x9_0) rfl <| Nn <| Rt ?_
  obtain rfl := Option.some.inj hm
  exact ret_i []

theorem ok_telltaleref11_text : ∀ (fuR : Nat) (p0 : (List GNode_)) (p1 : Int) (r : ((List UInt8) × Int)) (h : m_telltaleref11_text fuR p0 p1 = some r), GCall Try.prog 29 [(.l enc_GNode_ p0), (.i p1)] [] (.tup [(.s r.1), (.i r.2)]) [] := by
 intro fuR; induction fuR with
 | zero => intro p0 p1 r h; exact absurd h (by unfold m_telltaleref11_text; simp)
 | succ fuR ih =>
 intro p0 p1 r h
 refine GCall.of_body (n := 135) (rs := [(.tmp 4), (.tmp 5)]) Try.func29 rfl rfl rfl <| Ato ⟨.l enc_GNode_ p0::.i p1::tu 133 [], [], 0⟩ ?_
 have hm := h
 unfold m_telltaleref11_text at hm
 refine Sx <| Wm (.s ([] : List UInt8)) rfl <| Wm (.i 0) rfl <| Nk 3 0 ⟨.l enc_GNode_ p0::.i p1::tp 133 [], [], 0⟩ <| Sx <| Wm (.l enc_GNode_ p0) rfl <| Wm (.i p1) rfl ?_
 obtain ⟨x15_0, hx15_0, hm⟩ := bnd hm
 obtain ⟨hx15_0i, hx15_0g⟩ := geti_some hx15_0
 refine Wz (.d (.ref (List.drop ((Int.toNat p1) * 8) (flatD enc_GNode_ p0)))) (Oia rfl enc_GNode__len hx15_0i hx15_0g) <| Wz (.agg [(.y x15_0.Kind), (.y x15_0.Op), (.s x15_0.Var), (.s x15_0.Name), (.y x15_0.Val.Kind), (.i x15_0.Val.N), (.u x15_0.Val.Bits), (.s x15_0.Val.Text)]) (Lf rfl enc_GNode__len hx15_0g) <| Wy (.loc 0 0) [(0, (.box [(.y 0), (.y 0), (.s ([] : List UInt8)), (.s ([] : List UInt8)), (.y 0), (.i 0), (.u 0), (.s ([] : List UInt8))]))] (Oal rfl) <| Wy (.tup []) [(0, (.box [(.y x15_0.Kind), (.y x15_0.Op), (.s x15_0.Var), (.s x15_0.Name), (.y x15_0.Val.Kind), (.i x15_0.Val.N), (.u x15_0.Val.Bits), (.s x15_0.Val.Text)]))] (Ost rfl) <| Nk 67 1 ⟨.l enc_GNode_ p0::.i p1::tp 4 (.loc 0 0::tp 128 []), [(.box [(.y x15_0.Kind), (.y x15_0.Op), (.s x15_0.Var), (.s x15_0.Name), (.y x15_0.Val.Kind), (.i x15_0.Val.N), (.u x15_0.Val.Bits), (.s x15_0.Val.Text)])], 0⟩ <| Sq <| Sx <| Wz (.loc 0 0) (Ofa rfl) <| Wz (.y x15_0.Kind) (Old rfl) <| Wz (.b (decide (((x15_0.Kind.toNat : Nat) : Int) = 7))) (Ob2 (.int .u8 ((x15_0.Kind.toNat : Nat) : Int)) (.int .u8 7) rfl (fun _ => hb_eql)) <| Nk 524355 1 ⟨.l enc_GNode_ p0::.i p1::tp 4 (.loc 0 0::tp 12 (.b (decide (((x15_0.Kind.toNat : Nat) : Int) = 7))::tp 115 [])), [(.box [(.y x15_0.Kind), (.y x15_0.Op), (.s x15_0.Var), (.s x15_0.Name), (.y x15_0.Val.Kind), (.i x15_0.Val.N), (.u x15_0.Val.Bits), (.s x15_0.Val.Text)])], 0⟩ ?_
 rcases tf_ (decide (((x15_0.Kind.toNat : Nat) : Int) = 7)) with hc19_13 | hc19_13
 ·
  replace hm := cT hc19_13 hm
  refine AiT hc19_13 <| Sx <| Wz (.loc 0 3) (Ofa rfl) <| Wz (.s x15_0.Name) (Old rfl) <| Wm (.i p1) rfl <| Wz (.i (W6 (p1 + 1))) (Obn rfl (fun _ => hb_add (k := .i64))) <| Wm (.s x15_0.Name) rfl <| Wm (.i (W6 (p1 + 1))) rfl <| Nn <| Rt <| Tr ?_
  obtain rfl := Option.some.inj hm
  exact ret_i []
 ·
  replace hm := cF hc19_13 hm
  refine AiF hc19_13 <| Sk <| Tk 67 1 ⟨.l enc_GNode_ p0::.i p1::tp 4 (.loc 0 0::tp 128 []), [(.box [(.y x15_0.Kind), (.y x15_0.Op), (.s x15_0.Var), (.s x15_0.Name), (.y x15_0.Val.Kind), (.i x15_0.Val.N), (.u x15_0.Val.Bits), (.s x15_0.Val.Text)])], 0⟩ <| Sq <| Sx <| Wz (.loc 0 0) (Ofa rfl) <| Wz (.y x15_0.Kind) (Old rfl) <| Wz (.b (decide (((x15_0.Kind.toNat : Nat) : Int) = 8))) (Ob2 (.int .u8 ((x15_0.Kind.toNat : Nat) : Int)) (.int .u8 8) rfl (fun _ => hb_eql)) <| Nk 67108931 1 ⟨.l enc_GNode_ p0::.i p1::tp 4 (.loc 0 0::tp 19 (.b (decide (((x15_0.Kind.toNat : Nat) : Int) = 8))::tp 108 [])), [(.box [(.y x15_0.Kind), (.y x15_0.Op), (.s x15_0.Var), (.s x15_0.Name), (.y x15_0.Val.Kind), (.i x15_0.Val.N), (.u x15_0.Val.Bits), (.s x15_0.Val.Text)])], 0⟩ ?_
  rcases tf_ (decide (((x15_0.Kind.toNat : Nat) : Int) = 8)) with hc26_14 | hc26_14
  ·
   replace hm := cT hc26_14 hm
   refine AiT hc26_14 <| Sx <| Wz (.loc 0 2) (Ofa rfl) <| Wz (.s x15_0.Var) (Old rfl) ?_
   obtain ⟨t29_1, ht29_1, hm⟩ := bnd hm; obtain ⟨ht29_1e, ht29_1l⟩ := app_some ht29_1
   refine Wz (.s t29_1) (op_bin rfl (a1 := .string (toS x15_0.Var)) (a2 := .string (toS ([46] : List UInt8))) (by kernel_rfl) (by kernel_rfl) (fun _ => hb_sadd ht29_1e ht29_1l)) <| Wz (.loc 0 3) (Ofa rfl) <| Wz (.s x15_0.Name) (Old rfl) ?_
   obtain ⟨t32_1, ht32_1, hm⟩ := bnd hm; obtain ⟨ht32_1e, ht32_1l⟩ := app_some ht32_1
   refine Wz (.s t32_1) (op_bin rfl (a1 := .string (toS t29_1)) (a2 := .string (toS x15_0.Name)) (by kernel_rfl) (by kernel_rfl) (fun _ => hb_sadd ht32_1e ht32_1l)) <| Wm (.i p1) rfl <| Wz (.i (W6 (p1 + 1))) (Obn rfl (fun _ => hb_add (k := .i64))) <| Wm (.s t32_1) rfl <| Wm (.i (W6 (p1 + 1))) rfl <| Nn <| Rt <| Tr ?_
   obtain rfl := Option.some.inj hm
   exact ret_i []
  ·
   replace hm := cF hc26_14 hm
   refine AiF hc26_14 <| Sk <| Tk 67 1 ⟨.l enc_GNode_ p0::.i p1::tp 4 (.loc 0 0::tp 128 []), [(.box [(.y x15_0.Kind), (.y x15_0.Op), (.s x15_0.Var), (.s x15_0.Name), (.y x15_0.Val.Kind), (.i x15_0.Val.N), (.u x15_0.Val.Bits), (.s x15_0.Val.Text)])], 0⟩ <| Sq <| Sx <| Wz (.loc 0 0) (Ofa rfl) <| Wz (.y x15_0.Kind) (Old rfl) <| Wz (.b (decide (((x15_0.Kind.toNat : Nat) : Int) = 9))) (Ob2 (.int .u8 ((x15_0.Kind.toNat : Nat) : Int)) (.int .u8 9) rfl (fun _ => hb_eql)) <| Nk 137438953539 1 ⟨.l enc_GNode_ p0::.i p1::tp 4 (.loc 0 0::tp 30 (.b (decide (((x15_0.Kind.toNat : Nat) : Int) = 9))::tp 97 [])), [(.box [(.y x15_0.Kind), (.y x15_0.Op), (.s x15_0.Var), (.s x15_0.Name), (.y x15_0.Val.Kind), (.i x15_0.Val.N), (.u x15_0.Val.Bits), (.s x15_0.Val.Text)])], 0⟩ ?_
   rcases tf_ (decide (((x15_0.Kind.toNat : Nat) : Int) = 9)) with hc37_15 | hc37_15
   ·
    replace hm := cT hc37_15 hm
    refine AiT hc37_15 <| Sx <| Wz (.loc 0 4) (Ofa rfl) <| Wz (.agg [(.y x15_0.Val.Kind), (.i x15_0.Val.N), (.u x15_0.Val.Bits), (.s x15_0.Val.Text)]) (Old rfl) ?_
    obtain ⟨r40_2, hr40_2, hm⟩ := bnd hm
    refine Wz (.s r40_2) (Ocf [] [] [] 0 (ok_telltaleref10_Literal x15_0.Val r40_2 hr40_2) (fun a w => Try.call47 a w) rfl trivial) <| Wm (.i p1) rfl <| Wz (.i (W6 (p1 + 1))) (Obn rfl (fun _ => hb_add (k := .i64))) <| Wm (.s r40_2) rfl <| Wm (.i (W6 (p1 + 1))) rfl <| Nn <| Rt <| Tr ?_
    obtain rfl := Option.some.inj hm
    exact ret_i []
   ·
    replace hm := cF hc37_15 hm
    refine AiF hc37_15 <| Sk <| Tk 67 1 ⟨.l enc_GNode_ p0::.i p1::tp 4 (.loc 0 0::tp 128 []), [(.box [(.y x15_0.Kind), (.y x15_0.Op), (.s x15_0.Var), (.s x15_0.Name), (.y x15_0.Val.Kind), (.i x15_0.Val.N), (.u x15_0.Val.Bits), (.s x15_0.Val.Text)])], 0⟩ <| Sx <| Wm (.l enc_GNode_ p0) rfl <| Wm (.i p1) rfl <| Wz (.i (W6 (p1 + 1))) (Obn rfl (fun _ => hb_add (k := .i64))) ?_
    obtain ⟨x46_3, hx46_3, hm⟩ := bnd hm
    obtain ⟨hx46_3i, hx46_3g⟩ := geti_some hx46_3
    refine Wz (.d (.ref (List.drop ((Int.toNat (W6 (p1 + 1))) * 8) (flatD enc_GNode_ p0)))) (Oia rfl enc_GNode__len hx46_3i hx46_3g) <| Wz (.d (.ref (List.drop ((Int.toNat (W6 (p1 + 1))) * 8) (flatD enc_GNode_ p0)))) (Ofa rfl) <| Wz (.y x46_3.Kind) (Lf1 rfl enc_GNode__len hx46_3g) <| Wm (.y x46_3.Kind) rfl <| Nk 195 1 ⟨.l enc_GNode_ p0::.i p1::tp 4 (.loc 0 0::.y x46_3.Kind::tp 127 []), [(.box [(.y x15_0.Kind), (.y x15_0.Op), (.s x15_0.Var), (.s x15_0.Name), (.y x15_0.Val.Kind), (.i x15_0.Val.N), (.u x15_0.Val.Bits), (.s x15_0.Val.Text)])], 0⟩ <| Sx <| Wm (.l enc_GNode_ p0) rfl <| Wm (.i p1) rfl <| Wz (.i (W6 (p1 + 1))) (Obn rfl (fun _ => hb_add (k := .i64))) ?_
    obtain ⟨r53_4, hr53_4, hm⟩ := bnd hm
    refine Wz (.tup [(.s r53_4.1), (.i r53_4.2)]) (Ocf [] [] [] 0 (ih p0 (W6 (p1 + 1)) r53_4 hr53_4) (fun a w => Try.call29 a w) rfl trivial) <| Wm (.tup [(.s r53_4.1), (.i r53_4.2)]) rfl <| Wz (.s r53_4.1) (Oex rfl) <| Wz (.i r53_4.2) (Oex rfl) <| Wm (.s r53_4.1) rfl <| Wm (.i r53_4.2) rfl <| Nk 961 1 ⟨.l enc_GNode_ p0::tp 5 (.loc 0 0::.y x46_3.Kind::.s r53_4.1::.i r53_4.2::tp 125 []), [(.box [(.y x15_0.Kind), (.y x15_0.Op), (.s x15_0.Var), (.s x15_0.Name), (.y x15_0.Val.Kind), (.i x15_0.Val.N), (.u x15_0.Val.Bits), (.s x15_0.Val.Text)])], 0⟩ <| Sq <| Sx <| Wz (.loc 0 0) (Ofa rfl) <| Wz (.y x15_0.Kind) (Old rfl) <| Wz (.b (decide (((x15_0.Kind.toNat : Nat) : Int) = 3))) (Ob2 (.int .u8 ((x15_0.Kind.toNat : Nat) : Int)) (.int .u8 3) rfl (fun _ => hb_eql)) <| Nk 288230376151712705 1 ⟨.l enc_GNode_ p0::tp 5 (.loc 0 0::.y x46_3.Kind::.s r53_4.1::.i r53_4.2::tp 48 (.b (decide (((x15_0.Kind.toNat : Nat) : Int) = 3))::tp 76 [])), [(.box [(.y x15_0.Kind), (.y x15_0.Op), (.s x15_0.Var), (.s x15_0.Name), (.y x15_0.Val.Kind), (.i x15_0.Val.N), (.u x15_0.Val.Bits), (.s x15_0.Val.Text)])], 0⟩ ?_
    rcases tf_ (decide (((x15_0.Kind.toNat : Nat) : Int) = 3)) with hc58_16 | hc58_16
    ·
     replace hm := cT hc58_16 hm
     refine AiT hc58_16 <| Sx <| Wm (.s r53_4.1) rfl <| Wm (.y x46_3.Kind) rfl <| Wz (.b (decide (((x46_3.Kind.toNat : Nat) : Int) = 1))) (Ob2 (.int .u8 ((x46_3.Kind.toNat : Nat) : Int)) (.int .u8 1) rfl (fun _ => hb_eql)) ?_
     rcases tf_ (decide (((x46_3.Kind.toNat : Nat) : Int) = 1)) with hq62_5 | hq62_5
     ·
      replace hm := cT hq62_5 hm
      refine Wz (.b true) (Oq hq62_5 rfl) <| Wn <| Wn <| Wz (.b true) (OpT rfl) ?_
      obtain ⟨r66_5, hr66_5, hm⟩ := bnd hm
      refine Wz (.s r66_5) (Ocf [] [] [] 0 (ok_telltaleref11_about r53_4.1 true r66_5 hr66_5) (fun a w => Try.call48 a w) rfl trivial) ?_
      obtain ⟨t67_5, ht67_5, hm⟩ := bnd hm; obtain ⟨ht67_5e, ht67_5l⟩ := app_some ht67_5
      refine Wz (.s t67_5) (op_bin rfl (a1 := .string (toS ([110, 111, 116, 32] : List UInt8))) (a2 := .string (toS r66_5)) (by kernel_rfl) (by kernel_rfl) (fun _ => hb_sadd ht67_5e ht67_5l)) <| Wm (.i r53_4.2) rfl <| Wm (.s t67_5) rfl <| Wm (.i r53_4.2) rfl <| Nn <| Rt <| Tr ?_
      obtain rfl := Option.some.inj hm
      exact ret_i []
     ·
      replace hm := cF hq62_5 hm
      refine Wz (.b false) (Oq hq62_5 rfl) <| Wm (.y x46_3.Kind) rfl <| Wz (.b (decide (((x46_3.Kind.toNat : Nat) : Int) = 2))) (Ob2 (.int .u8 ((x46_3.Kind.toNat : Nat) : Int)) (.int .u8 2) rfl (fun _ => hb_eql)) <| Wz (.b (decide (((x46_3.Kind.toNat : Nat) : Int) = 2))) (OpF rfl) ?_
      obtain ⟨r66_5, hr66_5, hm⟩ := bnd hm
      refine Wz (.s r66_5) (Ocf [] [] [] 0 (ok_telltaleref11_about r53_4.1 (decide (((x46_3.Kind.toNat : Nat) : Int) = 2)) r66_5 hr66_5) (fun a w => Try.call48 a w) rfl trivial) ?_
      obtain ⟨t67_5, ht67_5, hm⟩ := bnd hm; obtain ⟨ht67_5e, ht67_5l⟩ := app_some ht67_5
      refine Wz (.s t67_5) (op_bin rfl (a1 := .string (toS ([110, 111, 116, 32] : List UInt8))) (a2 := .string (toS r66_5)) (by kernel_rfl) (by kernel_rfl) (fun _ => hb_sadd ht67_5e ht67_5l)) <| Wm (.i r53_4.2) rfl <| Wm (.s t67_5) rfl <| Wm (.i r53_4.2) rfl <| Nn <| Rt <| Tr ?_
      obtain rfl := Option.some.inj hm
      exact ret_i []
    ·
     replace hm := cF hc58_16 hm
     refine AiF hc58_16 <| Sk <| Tk 961 1 ⟨.l enc_GNode_ p0::tp 5 (.loc 0 0::.y x46_3.Kind::.s r53_4.1::.i r53_4.2::tp 125 []), [(.box [(.y x15_0.Kind), (.y x15_0.Op), (.s x15_0.Var), (.s x15_0.Name), (.y x15_0.Val.Kind), (.i x15_0.Val.N), (.u x15_0.Val.Bits), (.s x15_0.Val.Text)])], 0⟩ <| Sx <| Wm (.l enc_GNode_ p0) rfl <| Wm (.i r53_4.2) rfl ?_
     obtain ⟨x71_6, hx71_6, hm⟩ := bnd hm
     obtain ⟨hx71_6i, hx71_6g⟩ := geti_some hx71_6
     refine Wz (.d (.ref (List.drop ((Int.toNat r53_4.2) * 8) (flatD enc_GNode_ p0)))) (Oia rfl enc_GNode__len hx71_6i hx71_6g) <| Wz (.d (.ref (List.drop ((Int.toNat r53_4.2) * 8) (flatD enc_GNode_ p0)))) (Ofa rfl) <| Wz (.y x71_6.Kind) (Lf1 rfl enc_GNode__len hx71_6g) <| Wm (.y x71_6.Kind) rfl <| Nk 1985 1 ⟨.l enc_GNode_ p0::tp 5 (.loc 0 0::.y x46_3.Kind::.s r53_4.1::.i r53_4.2::.y x71_6.Kind::tp 124 []), [(.box [(.y x15_0.Kind), (.y x15_0.Op), (.s x15_0.Var), (.s x15_0.Name), (.y x15_0.Val.Kind), (.i x15_0.Val.N), (.u x15_0.Val.Bits), (.s x15_0.Val.Text)])], 0⟩ <| Sx <| Wm (.l enc_GNode_ p0) rfl <| Wm (.i r53_4.2) rfl ?_
     obtain ⟨r77_7, hr77_7, hm⟩ := bnd hm
     refine Wz (.tup [(.s r77_7.1), (.i r77_7.2)]) (Ocf [] [] [] 0 (ih p0 r53_4.2 r77_7 hr77_7) (fun a w => Try.call29 a w) rfl trivial) <| Wm (.tup [(.s r77_7.1), (.i r77_7.2)]) rfl <| Wz (.s r77_7.1) (Oex rfl) <| Wz (.i r77_7.2) (Oex rfl) <| Wm (.s r77_7.1) rfl <| Wm (.i r77_7.2) rfl <| Nk 7616 1 ⟨tp 6 (.loc 0 0::.y x46_3.Kind::.s r53_4.1::tp 1 (.y x71_6.Kind::.s r77_7.1::.i r77_7.2::tp 122 [])), [(.box [(.y x15_0.Kind), (.y x15_0.Op), (.s x15_0.Var), (.s x15_0.Name), (.y x15_0.Val.Kind), (.i x15_0.Val.N), (.u x15_0.Val.Bits), (.s x15_0.Val.Text)])], 0⟩ <| Sq <| Sx <| Wz (.loc 0 0) (Ofa rfl) <| Wz (.y x15_0.Kind) (Old rfl) <| Wz (.b (decide (((x15_0.Kind.toNat : Nat) : Int) = 1))) (Ob2 (.int .u8 ((x15_0.Kind.toNat : Nat) : Int)) (.int .u8 1) rfl (fun _ => hb_eql)) <| Nk 4835703278458516698832320 1 ⟨tp 6 (.loc 0 0::.y x46_3.Kind::.s r53_4.1::tp 1 (.y x71_6.Kind::.s r77_7.1::.i r77_7.2::tp 69 (.b (decide (((x15_0.Kind.toNat : Nat) : Int) = 1))::tp 52 []))), [(.box [(.y x15_0.Kind), (.y x15_0.Op), (.s x15_0.Var), (.s x15_0.Name), (.y x15_0.Val.Kind), (.i x15_0.Val.N), (.u x15_0.Val.Bits), (.s x15_0.Val.Text)])], 0⟩ ?_
     rcases tf_ (decide (((x15_0.Kind.toNat : Nat) : Int) = 1)) with hc82_17 | hc82_17
     ·
      replace hm := cT hc82_17 hm
      refine AiT hc82_17 <| Sx <| Wm (.s r53_4.1) rfl <| Wm (.y x46_3.Kind) rfl <| Wz (.b (decide (((x46_3.Kind.toNat : Nat) : Int) = 2))) (Ob2 (.int .u8 ((x46_3.Kind.toNat : Nat) : Int)) (.int .u8 2) rfl (fun _ => hb_eql)) ?_
      obtain ⟨r86_8, hr86_8, hm⟩ := bnd hm
      refine Wz (.s r86_8) (Ocf [] [] [] 0 (ok_telltaleref11_about r53_4.1 (decide (((x46_3.Kind.toNat : Nat) : Int) = 2)) r86_8 hr86_8) (fun a w => Try.call48 a w) rfl trivial) ?_
      obtain ⟨t87_8, ht87_8, hm⟩ := bnd hm; obtain ⟨ht87_8e, ht87_8l⟩ := app_some ht87_8
      refine Wz (.s t87_8) (op_bin rfl (a1 := .string (toS r86_8)) (a2 := .string (toS ([32, 97, 110, 100, 32] : List UInt8))) (by kernel_rfl) (by kernel_rfl) (fun _ => hb_sadd ht87_8e ht87_8l)) <| Wm (.s r77_7.1) rfl <| Wm (.y x71_6.Kind) rfl <| Wz (.b (decide (((x71_6.Kind.toNat : Nat) : Int) = 1))) (Ob2 (.int .u8 ((x71_6.Kind.toNat : Nat) : Int)) (.int .u8 1) rfl (fun _ => hb_eql)) ?_
      rcases tf_ (decide (((x71_6.Kind.toNat : Nat) : Int) = 1)) with hq91_8 | hq91_8
      ·
       replace hm := cT hq91_8 hm
       refine Wz (.b true) (Oq hq91_8 rfl) <| Wn <| Wn <| Wz (.b true) (OpT rfl) ?_
       obtain ⟨r95_8, hr95_8, hm⟩ := bnd hm
       refine Wz (.s r95_8) (Ocf [] [] [] 0 (ok_telltaleref11_about r77_7.1 true r95_8 hr95_8) (fun a w => Try.call48 a w) rfl trivial) ?_
       obtain ⟨t96_8, ht96_8, hm⟩ := bnd hm; obtain ⟨ht96_8e, ht96_8l⟩ := app_some ht96_8
       refine Wz (.s t96_8) (op_bin rfl (a1 := .string (toS t87_8)) (a2 := .string (toS r95_8)) (by kernel_rfl) (by kernel_rfl) (fun _ => hb_sadd ht96_8e ht96_8l)) <| Wm (.i r77_7.2) rfl <| Wm (.s t96_8) rfl <| Wm (.i r77_7.2) rfl <| Nn <| Rt <| Tr ?_
       obtain rfl := Option.some.inj hm
       exact ret_i []
      ·
       replace hm := cF hq91_8 hm
       refine Wz (.b false) (Oq hq91_8 rfl) <| Wm (.y x71_6.Kind) rfl <| Wz (.b (decide (((x71_6.Kind.toNat : Nat) : Int) = 2))) (Ob2 (.int .u8 ((x71_6.Kind.toNat : Nat) : Int)) (.int .u8 2) rfl (fun _ => hb_eql)) <| Wz (.b (decide (((x71_6.Kind.toNat : Nat) : Int) = 2))) (OpF rfl) ?_
       obtain ⟨r95_8, hr95_8, hm⟩ := bnd hm
       refine Wz (.s r95_8) (Ocf [] [] [] 0 (ok_telltaleref11_about r77_7.1 (decide (((x71_6.Kind.toNat : Nat) : Int) = 2)) r95_8 hr95_8) (fun a w => Try.call48 a w) rfl trivial) ?_
       obtain ⟨t96_8, ht96_8, hm⟩ := bnd hm; obtain ⟨ht96_8e, ht96_8l⟩ := app_some ht96_8
       refine Wz (.s t96_8) (op_bin rfl (a1 := .string (toS t87_8)) (a2 := .string (toS r95_8)) (by kernel_rfl) (by kernel_rfl) (fun _ => hb_sadd ht96_8e ht96_8l)) <| Wm (.i r77_7.2) rfl <| Wm (.s t96_8) rfl <| Wm (.i r77_7.2) rfl <| Nn <| Rt <| Tr ?_
       obtain rfl := Option.some.inj hm
       exact ret_i []
     ·
      replace hm := cF hc82_17 hm
      refine AiF hc82_17 <| Sk <| Tk 7488 1 ⟨tp 6 (.loc 0 0::tp 1 (.s r53_4.1::tp 1 (.y x71_6.Kind::.s r77_7.1::.i r77_7.2::tp 122 []))), [(.box [(.y x15_0.Kind), (.y x15_0.Op), (.s x15_0.Var), (.s x15_0.Name), (.y x15_0.Val.Kind), (.i x15_0.Val.N), (.u x15_0.Val.Bits), (.s x15_0.Val.Text)])], 0⟩ <| Sq <| Sx <| Wz (.loc 0 0) (Ofa rfl) <| Wz (.y x15_0.Kind) (Old rfl) <| Wz (.b (decide (((x15_0.Kind.toNat : Nat) : Int) = 2))) (Ob2 (.int .u8 ((x15_0.Kind.toNat : Nat) : Int)) (.int .u8 2) rfl (fun _ => hb_eql)) <| Nk 1267650600228229401496703212864 1 ⟨tp 6 (.loc 0 0::tp 1 (.s r53_4.1::tp 1 (.y x71_6.Kind::.s r77_7.1::.i r77_7.2::tp 87 (.b (decide (((x15_0.Kind.toNat : Nat) : Int) = 2))::tp 34 [])))), [(.box [(.y x15_0.Kind), (.y x15_0.Op), (.s x15_0.Var), (.s x15_0.Name), (.y x15_0.Val.Kind), (.i x15_0.Val.N), (.u x15_0.Val.Bits), (.s x15_0.Val.Text)])], 0⟩ ?_
      rcases tf_ (decide (((x15_0.Kind.toNat : Nat) : Int) = 2)) with hc100_18 | hc100_18
      ·
       replace hm := cT hc100_18 hm
       refine AiT hc100_18 <| Sx <| Wm (.s r53_4.1) rfl ?_
       obtain ⟨t102_9, ht102_9, hm⟩ := bnd hm; obtain ⟨ht102_9e, ht102_9l⟩ := app_some ht102_9
       refine Wz (.s t102_9) (op_bin rfl (a1 := .string (toS r53_4.1)) (a2 := .string (toS ([32, 111, 114, 32] : List UInt8))) (by kernel_rfl) (by kernel_rfl) (fun _ => hb_sadd ht102_9e ht102_9l)) <| Wm (.s r77_7.1) rfl <| Wm (.y x71_6.Kind) rfl <| Wz (.b (decide (((x71_6.Kind.toNat : Nat) : Int) = 2))) (Ob2 (.int .u8 ((x71_6.Kind.toNat : Nat) : Int)) (.int .u8 2) rfl (fun _ => hb_eql)) ?_
       obtain ⟨r106_9, hr106_9, hm⟩ := bnd hm
       refine Wz (.s r106_9) (Ocf [] [] [] 0 (ok_telltaleref11_about r77_7.1 (decide (((x71_6.Kind.toNat : Nat) : Int) = 2)) r106_9 hr106_9) (fun a w => Try.call48 a w) rfl trivial) ?_
       obtain ⟨t107_9, ht107_9, hm⟩ := bnd hm; obtain ⟨ht107_9e, ht107_9l⟩ := app_some ht107_9
       refine Wz (.s t107_9) (op_bin rfl (a1 := .string (toS t102_9)) (a2 := .string (toS r106_9)) (by kernel_rfl) (by kernel_rfl) (fun _ => hb_sadd ht107_9e ht107_9l)) <| Wm (.i r77_7.2) rfl <| Wm (.s t107_9) rfl <| Wm (.i r77_7.2) rfl <| Nn <| Rt <| Tr ?_
       obtain rfl := Option.some.inj hm
       exact ret_i []
      ·
       replace hm := cF hc100_18 hm
       refine AiF hc100_18 <| Sk <| Tk 6464 1 ⟨tp 6 (.loc 0 0::tp 1 (.s r53_4.1::tp 2 (.s r77_7.1::.i r77_7.2::tp 122 []))), [(.box [(.y x15_0.Kind), (.y x15_0.Op), (.s x15_0.Var), (.s x15_0.Name), (.y x15_0.Val.Kind), (.i x15_0.Val.N), (.u x15_0.Val.Bits), (.s x15_0.Val.Text)])], 0⟩ <| Sq <| Sx <| Wz (.loc 0 0) (Ofa rfl) <| Wz (.y x15_0.Kind) (Old rfl) <| Wz (.b (decide (((x15_0.Kind.toNat : Nat) : Int) = 4))) (Ob2 (.int .u8 ((x15_0.Kind.toNat : Nat) : Int)) (.int .u8 4) rfl (fun _ => hb_eql)) <| Nk 2596148429267413814265248164616512 1 ⟨tp 6 (.loc 0 0::tp 1 (.s r53_4.1::tp 2 (.s r77_7.1::.i r77_7.2::tp 98 (.b (decide (((x15_0.Kind.toNat : Nat) : Int) = 4))::tp 23 [])))), [(.box [(.y x15_0.Kind), (.y x15_0.Op), (.s x15_0.Var), (.s x15_0.Name), (.y x15_0.Val.Kind), (.i x15_0.Val.N), (.u x15_0.Val.Bits), (.s x15_0.Val.Text)])], 0⟩ ?_
       rcases tf_ (decide (((x15_0.Kind.toNat : Nat) : Int) = 4)) with hc111_19 | hc111_19
       ·
        replace hm := cT hc111_19 hm
        refine AiT hc111_19 <| Sx <| Wm (.s r53_4.1) rfl ?_
        obtain ⟨t113_10, ht113_10, hm⟩ := bnd hm; obtain ⟨ht113_10e, ht113_10l⟩ := app_some ht113_10
        refine Wz (.s t113_10) (op_bin rfl (a1 := .string (toS r53_4.1)) (a2 := .string (toS ([32] : List UInt8))) (by kernel_rfl) (by kernel_rfl) (fun _ => hb_sadd ht113_10e ht113_10l)) <| Wz (.loc 0 1) (Ofa rfl) <| Wz (.y x15_0.Op) (Old rfl) ?_
        obtain ⟨r116_10, hr116_10, hm⟩ := bnd hm
        refine Wz (.s r116_10) (Ocf [] [] [] 0 (ok_telltaleref05_Sign x15_0.Op r116_10 hr116_10) (fun a w => Try.call49 a w) rfl trivial) ?_
        obtain ⟨t117_10, ht117_10, hm⟩ := bnd hm; obtain ⟨ht117_10e, ht117_10l⟩ := app_some ht117_10
        refine Wz (.s t117_10) (op_bin rfl (a1 := .string (toS t113_10)) (a2 := .string (toS r116_10)) (by kernel_rfl) (by kernel_rfl) (fun _ => hb_sadd ht117_10e ht117_10l)) ?_
        obtain ⟨t118_10, ht118_10, hm⟩ := bnd hm; obtain ⟨ht118_10e, ht118_10l⟩ := app_some ht118_10
        refine Wz (.s t118_10) (op_bin rfl (a1 := .string (toS t117_10)) (a2 := .string (toS ([32] : List UInt8))) (by kernel_rfl) (by kernel_rfl) (fun _ => hb_sadd ht118_10e ht118_10l)) <| Wm (.s r77_7.1) rfl ?_
        obtain ⟨t120_10, ht120_10, hm⟩ := bnd hm; obtain ⟨ht120_10e, ht120_10l⟩ := app_some ht120_10
        refine Wz (.s t120_10) (op_bin rfl (a1 := .string (toS t118_10)) (a2 := .string (toS r77_7.1)) (by kernel_rfl) (by kernel_rfl) (fun _ => hb_sadd ht120_10e ht120_10l)) <| Wm (.i r77_7.2) rfl <| Wm (.s t120_10) rfl <| Wm (.i r77_7.2) rfl <| Nn <| Rt <| Tr ?_
        obtain rfl := Option.some.inj hm
        exact ret_i []
       ·
        replace hm := cF hc111_19 hm
        refine AiF hc111_19 <| Sk <| Tk 6464 1 ⟨tp 6 (.loc 0 0::tp 1 (.s r53_4.1::tp 2 (.s r77_7.1::.i r77_7.2::tp 122 []))), [(.box [(.y x15_0.Kind), (.y x15_0.Op), (.s x15_0.Var), (.s x15_0.Name), (.y x15_0.Val.Kind), (.i x15_0.Val.N), (.u x15_0.Val.Bits), (.s x15_0.Val.Text)])], 0⟩ <| Sq <| Sx <| Wz (.loc 0 0) (Ofa rfl) <| Wz (.y x15_0.Kind) (Old rfl) <| Wz (.b (decide (((x15_0.Kind.toNat : Nat) : Int) = 5))) (Ob2 (.int .u8 ((x15_0.Kind.toNat : Nat) : Int)) (.int .u8 5) rfl (fun _ => hb_eql)) <| Nk 21267647932558653966460912964485519616 0 ⟨tp 8 (.s r53_4.1::tp 2 (.s r77_7.1::.i r77_7.2::tp 111 (.b (decide (((x15_0.Kind.toNat : Nat) : Int) = 5))::tp 10 []))), [.gone], 0⟩ ?_
        rcases tf_ (decide (((x15_0.Kind.toNat : Nat) : Int) = 5)) with hc124_20 | hc124_20
        ·
         replace hm := cT hc124_20 hm
         refine AiT hc124_20 <| Sx <| Wm (.s r53_4.1) rfl ?_
         obtain ⟨t126_11, ht126_11, hm⟩ := bnd hm; obtain ⟨ht126_11e, ht126_11l⟩ := app_some ht126_11
         refine Wz (.s t126_11) (op_bin rfl (a1 := .string (toS r53_4.1)) (a2 := .string (toS ([32, 43, 32] : List UInt8))) (by kernel_rfl) (by kernel_rfl) (fun _ => hb_sadd ht126_11e ht126_11l)) <| Wm (.s r77_7.1) rfl ?_
         obtain ⟨t128_11, ht128_11, hm⟩ := bnd hm; obtain ⟨ht128_11e, ht128_11l⟩ := app_some ht128_11
         refine Wz (.s t128_11) (op_bin rfl (a1 := .string (toS t126_11)) (a2 := .string (toS r77_7.1)) (by kernel_rfl) (by kernel_rfl) (fun _ => hb_sadd ht128_11e ht128_11l)) <| Wm (.i r77_7.2) rfl <| Wm (.s t128_11) rfl <| Wm (.i r77_7.2) rfl <| Nn <| Rt <| Tr ?_
         obtain rfl := Option.some.inj hm
         exact ret_i []
        ·
         replace hm := cF hc124_20 hm
         refine AiF hc124_20 <| Sk <| Tk 6400 0 ⟨tp 8 (.s r53_4.1::tp 2 (.s r77_7.1::.i r77_7.2::tp 122 [])), [.gone], 0⟩ <| Sx <| Wm (.s r53_4.1) rfl ?_
         obtain ⟨t131_12, ht131_12, hm⟩ := bnd hm; obtain ⟨ht131_12e, ht131_12l⟩ := app_some ht131_12
         refine Wz (.s t131_12) (op_bin rfl (a1 := .string (toS r53_4.1)) (a2 := .string (toS ([32, 45, 32] : List UInt8))) (by kernel_rfl) (by kernel_rfl) (fun _ => hb_sadd ht131_12e ht131_12l)) <| Wm (.s r77_7.1) rfl ?_
         obtain ⟨t133_12, ht133_12, hm⟩ := bnd hm; obtain ⟨ht133_12e, ht133_12l⟩ := app_some ht133_12
         refine Wz (.s t133_12) (op_bin rfl (a1 := .string (toS t131_12)) (a2 := .string (toS r77_7.1)) (by kernel_rfl) (by kernel_rfl) (fun _ => hb_sadd ht133_12e ht133_12l)) <| Wm (.i r77_7.2) rfl <| Wm (.s t133_12) rfl <| Wm (.i r77_7.2) rfl <| Nn <| Rt ?_
         obtain rfl := Option.some.inj hm
         exact ret_i []

theorem ok_telltaleref11_Print (p0 : (List GNode_)) (r : (List UInt8)) (h : m_telltaleref11_Print p0 = some r) : GCall Try.prog 17 [(.l enc_GNode_ p0)] [] (.s r) [] := by
 refine GCall.of_body (n := 19) (rs := [(.tmp 2)]) Try.func17 rfl rfl rfl <| Ato ⟨.l enc_GNode_ p0::tu 18 [], [], 0⟩ ?_
 have hm := h
 unfold m_telltaleref11_Print at hm
 refine Sx <| Wm (.s ([] : List UInt8)) rfl <| Nk 1 0 ⟨.l enc_GNode_ p0::tp 18 [], [], 0⟩ <| Sq <| Sx <| Wm (.l enc_GNode_ p0) rfl <| Wz (.i ((List.length p0 : Nat) : Int)) (Oln rfl) <| Wz (.b (decide (((List.length p0 : Nat) : Int) = 0))) (Obn rfl (fun _ => hb_eql (k := .i64))) ?_
 rcases tf_ (decide (((List.length p0 : Nat) : Int) = 0)) with hq8_0 | hq8_0
 ·
  replace hm := cT hq8_0 hm
  refine Wz (.b true) (Oq hq8_0 rfl) <| Wn <| Wn <| Wn <| Wz (.b true) (OpT rfl) <| Nk 4097 0 ⟨.l enc_GNode_ p0::tp 11 (.b true::tp 6 []), [], 0⟩ <| AWP.if_ true (by kernel_rfl) <| Sx <| Wm (.s ([] : List UInt8)) rfl <| Nn <| Rt <| Tr ?_
  obtain rfl := Option.some.inj hm
  exact ret_i []
 ·
  replace hm := cF hq8_0 hm
  refine Wz (.b false) (Oq hq8_0 rfl) <| Wm (.l enc_GNode_ p0) rfl ?_
  obtain ⟨r10_0, hr10_0, hm⟩ := bnd hm
  refine Wz (.i r10_0) (Ocf [] [] [] 0 (ok_telltaleref11_Check p0 r10_0 hr10_0) (fun a w => Try.call15 a w) rfl trivial) <| Wz (.b (decide (r10_0 ≠ 0))) (Obn rfl (fun _ => hb_neq (k := .i64))) <| Wz (.b (decide (r10_0 ≠ 0))) (OpF rfl) <| Nk 4097 0 ⟨.l enc_GNode_ p0::tp 11 (.b (decide (r10_0 ≠ 0))::tp 6 []), [], 0⟩ ?_
  rcases tf_ (decide (r10_0 ≠ 0)) with hc12_2 | hc12_2
  ·
   replace hm := cT hc12_2 hm
   refine AiT hc12_2 <| Sx <| Wm (.s ([] : List UInt8)) rfl <| Nn <| Rt <| Tr ?_
   obtain rfl := Option.some.inj hm
   exact ret_i []
  ·
   replace hm := cF hc12_2 hm
   refine AiF hc12_2 <| Sk <| Tk 1 0 ⟨.l enc_GNode_ p0::tp 18 [], [], 0⟩ <| Sx <| Wm (.l enc_GNode_ p0) rfl ?_
   obtain ⟨r15_1, hr15_1, hm⟩ := bnd hm
   refine Wz (.tup [(.s r15_1.1), (.i r15_1.2)]) (Ocf [] [] [] 0 (ok_telltaleref11_text 1152921504606846976 p0 0 r15_1 hr15_1) (fun a w => Try.call29 a w) rfl trivial) <| Wm (.tup [(.s r15_1.1), (.i r15_1.2)]) rfl <| Wz (.s r15_1.1) (Oex rfl) <| Wz (.i r15_1.2) (Oex rfl) <| Wm (.s r15_1.1) rfl <| Wm (.i r15_1.2) rfl <| Nk 8 0 ⟨tp 3 (.s r15_1.1::tp 15 []), [], 0⟩ <| Sx <| Wm (.s r15_1.1) rfl <| Wm (.s r15_1.1) rfl <| Nn <| Rt ?_
   obtain rfl := Option.some.inj hm
   exact ret_i []

theorem ok_telltaleref11_Into (p0 : (List (List UInt8))) (p1 : (List UInt8)) (r : (List (List UInt8))) (h : m_telltaleref11_Into p0 p1 = some r) : GCall Try.prog 23 [(.l encS p0), (.s p1)] [] (.own 0) [(Ar 9 1 encS r)] := by
 refine GCall.of_body (n := 47) (rs := [(.tmp 4)]) Try.func23 rfl rfl rfl <| Ato ⟨.l encS p0::.s p1::tu 45 [], [], 0⟩ ?_
 have hm := h
 unfold m_telltaleref11_Into at hm
 refine Sx <| Wm (.d .nil) rfl <| Nk 3 0 ⟨.l encS p0::.s p1::tp 45 [], [], 0⟩ <| Sx <| Wm (.d .nil) rfl <| Nk 35 0 ⟨.l encS p0::.s p1::tp 3 (.d .nil::tp 41 []), [], 0⟩ <| Sx <| Wm (.i 0) rfl <| Nk 99 0 ⟨.l encS p0::.s p1::tp 3 (.d .nil::.i 0::tp 40 []), [], 0⟩ ?_
 refine AWP.cutJ (α := Int) (fun x => match x with | y6_2 => (⟨.l encS p0::.s p1::tp 3 (.d .nil::.i y6_2::tp 40 []), [], 0⟩ : St)) (fun x => match x with | y6_2 => m_telltaleref11_Into_j2 p0 p1 y6_2 = some r) ?_ (fun J2 => ?_)
 ·
  rintro y6_2 hm
  try dsimp only at hm ⊢
  unfold m_telltaleref11_Into_j2 at hm
  refine Sx <| Wm (.d .nil) rfl <| Wm (.l encS p0) rfl <| Wm (.i y6_2) rfl ?_
  obtain ⟨s24_3, hs24_3, hm⟩ := bnd hm; obtain ⟨hs24_3a, hs24_3b, hs24_3c, hs24_3d, hs24_3e⟩ := cut_some hs24_3
  refine Wz (.l encS s24_3) (op_cut rfl (e := 9) (sz := 1) (by kernel_rfl) (l := p0) (enc := encS) (by kernel_rfl) encS_len (a := (Int.toNat 0)) (b := (Int.toNat y6_2)) (by exact rfl) (⟨.i64, y6_2, by kernel_rfl, hs24_3b⟩) hs24_3c hs24_3d hs24_3e) ?_
  obtain ⟨a25_3, ha25_3, hm⟩ := bnd hm; obtain ⟨ha25_3e, ha25_3l⟩ := app_some ha25_3
  refine Wy (.own 0) [(0, (Ar 9 1 encS a25_3))] (Oan rfl elemOK_41 encS_len ha25_3e ha25_3l) <| Wm (.own 0) rfl <| Nk 99 1 ⟨.l encS p0::.s p1::tp 3 (.own 0::.i y6_2::tp 40 []), [(Ar 9 1 encS a25_3)], 0⟩ ?_
  refine AWP.cutJ (α := (List (List UInt8))) (fun x => match x with | y5_7 => (⟨.l encS p0::tp 4 (.own 0::.i y6_2::tp 40 []), [(Ar 9 1 encS y5_7)], 0⟩ : St)) (fun x => match x with | y5_7 => m_telltaleref11_Into_j7 p0 y6_2 y5_7 = some r) ?_ (fun J7 => ?_)
  ·
   rintro y5_7 hm
   try dsimp only at hm ⊢
   unfold m_telltaleref11_Into_j7 at hm
   refine Sx <| Wm (.own 0) rfl <| Wm (.l encS p0) rfl <| Wm (.i y6_2) rfl ?_
   obtain ⟨s45_8, hs45_8, hm⟩ := bnd hm; obtain ⟨hs45_8a, hs45_8b, hs45_8c, hs45_8d, hs45_8e⟩ := cut_some hs45_8
   refine Wz (.l encS s45_8) (op_cut rfl (e := 9) (sz := 1) (by kernel_rfl) (l := p0) (enc := encS) (by kernel_rfl) encS_len (a := (Int.toNat y6_2)) (b := (Int.toNat ((List.length p0 : Nat) : Int))) (⟨.i64, y6_2, by kernel_rfl, hs45_8a⟩) (by exact rfl) hs45_8c hs45_8d hs45_8e) ?_
   obtain ⟨a46_8, ha46_8, hm⟩ := bnd hm; obtain ⟨ha46_8e, ha46_8l⟩ := app_some ha46_8
   refine Wy (.own 1) [(0, .gone), (1, (Ar 9 1 encS a46_8))] (Oap rfl elemOK_41 encS_len ha46_8e ha46_8l) <| Wm (.own 1) rfl <| Nn <| Rt ?_
   obtain rfl := Option.some.inj hm
   exact ret_i [1]
  refine Sq <| Sx <| Wm (.i y6_2) rfl <| Wm (.l encS p0) rfl <| Wz (.i ((List.length p0 : Nat) : Int)) (Oln rfl) <| Wz (.b (decide (y6_2 = ((List.length p0 : Nat) : Int)))) (Obn rfl (fun _ => hb_eql (k := .i64))) ?_
  rcases tf_ (decide (y6_2 = ((List.length p0 : Nat) : Int))) with hq30_4 | hq30_4
  ·
   replace hm := cT hq30_4 hm
   refine Wz (.b true) (Oq hq30_4 rfl) <| Wn <| Wn <| Wn <| Wn <| Wn <| Wn <| Wz (.b true) (OpT rfl) <| Nk 137438953571 1 ⟨.l encS p0::.s p1::tp 3 (.own 0::.i y6_2::tp 30 (.b true::tp 9 [])), [(Ar 9 1 encS a25_3)], 0⟩ <| AWP.if_ true (by kernel_rfl) <| Tx <| Wm (.own 0) rfl <| Wm (.s p1) rfl <| Wy (.own 1) [(1, (Ar 9 1 encS ([p1] : List (List UInt8))))] (Obs rfl) ?_
   obtain ⟨a41_5, ha41_5, hm⟩ := bnd hm; obtain ⟨ha41_5e, ha41_5l⟩ := app_some ha41_5
   refine Wy (.own 2) [(0, .gone), (2, (Ar 9 1 encS a41_5))] (Oap rfl elemOK_41 encS_len ha41_5e ha41_5l) <| Wm (.own 2) rfl <| Nn ?_
   exact AWP.weak (Weak.toK 97 0 0 [2]) (J7 (a41_5) hm)
  ·
   replace hm := cF hq30_4 hm
   refine Wz (.b false) (Oq hq30_4 rfl) <| Wm (.l encS p0) rfl <| Wm (.i y6_2) rfl ?_
   obtain ⟨x33_4, hx33_4, hm⟩ := bnd hm
   obtain ⟨hx33_4i, hx33_4g⟩ := geti_some hx33_4
   refine Wz (.d (.ref (List.drop ((Int.toNat y6_2) * 1) (flatD encS p0)))) (Oia rfl encS_len hx33_4i hx33_4g) <| Wz (.s x33_4) (Lf1 rfl encS_len hx33_4g) <| Wm (.s p1) rfl <| Wz (.b (decide (x33_4 ≠ p1))) (Ocs (lit_tf (by simp only [toS_inj, ne_eq])) (op_bin rfl (a1 := .string (toS x33_4)) (a2 := .string (toS p1)) (by kernel_rfl) (by kernel_rfl) (fun _ => hb_sneq))) <| Wz (.b (decide (x33_4 ≠ p1))) (OpF rfl) <| Nk 137438953571 1 ⟨.l encS p0::.s p1::tp 3 (.own 0::.i y6_2::tp 30 (.b (decide (x33_4 ≠ p1))::tp 9 [])), [(Ar 9 1 encS a25_3)], 0⟩ ?_
   rcases tf_ (decide (x33_4 ≠ p1)) with hc37_9 | hc37_9
   ·
    replace hm := cT hc37_9 hm
    refine AiT hc37_9 <| Tx <| Wm (.own 0) rfl <| Wm (.s p1) rfl <| Wy (.own 1) [(1, (Ar 9 1 encS ([p1] : List (List UInt8))))] (Obs rfl) ?_
    obtain ⟨a41_6, ha41_6, hm⟩ := bnd hm; obtain ⟨ha41_6e, ha41_6l⟩ := app_some ha41_6
    refine Wy (.own 2) [(0, .gone), (2, (Ar 9 1 encS a41_6))] (Oap rfl elemOK_41 encS_len ha41_6e ha41_6l) <| Wm (.own 2) rfl <| Nn ?_
    exact AWP.weak (Weak.toK 97 0 0 [2]) (J7 (a41_6) hm)
   ·
    replace hm := cF hc37_9 hm
    refine AiF hc37_9 <| Sk <| Tn ?_
    exact AWP.weak (Weak.toK 97 0 0 [0]) (J7 (a25_3) hm)
 refine Sq <| Bk ?_
 refine AWP.loopI (α := Nat × Int)
   (fun (fu_0, y6_0) => (⟨.l encS p0::.s p1::tp 3 (.d .nil::.i y6_0::tp 40 []), [], 0⟩ : St))
   (fun (fu_0, y6_0) => m_telltaleref11_Into_l0 p0 p1 fu_0 y6_0 = some r)
   (fun (fu_0, y6_0) => fu_0) (1152921504606846976, 0)
   (Weak.toK 99 0 0 []) hm ?_
 rintro ⟨fu_0, y6_0⟩ n_0 hm ih_0
 try dsimp only at hm ih_0 ⊢
 cases fu_0 with
 | zero => exact absurd hm (by unfold m_telltaleref11_Into_l0; simp)
 | succ fu_0 =>
  unfold m_telltaleref11_Into_l0 at hm
  refine Sq <| Sx <| Wm (.i y6_0) rfl <| Wm (.l encS p0) rfl <| Wz (.i ((List.length p0 : Nat) : Int)) (Oln rfl) <| Wz (.b (decide (y6_0 < ((List.length p0 : Nat) : Int)))) (Obn rfl (fun _ => hb_lss (k := .i64))) ?_
  rcases tf_ (decide (y6_0 < ((List.length p0 : Nat) : Int))) with hq11_1 | hq11_1
  ·
   replace hm := cT hq11_1 hm
   refine Wz (.b true) (Oq hq11_1 rfl) <| Wm (.l encS p0) rfl <| Wm (.i y6_0) rfl ?_
   obtain ⟨x14_1, hx14_1, hm⟩ := bnd hm
   obtain ⟨hx14_1i, hx14_1g⟩ := geti_some hx14_1
   refine Wz (.d (.ref (List.drop ((Int.toNat y6_0) * 1) (flatD encS p0)))) (Oia rfl encS_len hx14_1i hx14_1g) <| Wz (.s x14_1) (Lf1 rfl encS_len hx14_1g) <| Wm (.s p1) rfl <| Wz (.b (ltS x14_1 p1)) (op_bin rfl (a1 := .string (toS x14_1)) (a2 := .string (toS p1)) (by kernel_rfl) (by kernel_rfl) (fun _ => hb_tlss)) <| Wz (.b (ltS x14_1 p1)) (OpT rfl) <| Nk 262243 0 ⟨.l encS p0::.s p1::tp 3 (.d .nil::.i y6_0::tp 11 (.b (ltS x14_1 p1)::tp 28 [])), [], 0⟩ ?_
   rcases tf_ (ltS x14_1 p1) with hc18_10 | hc18_10
   ·
    replace hm := cT hc18_10 hm
    refine AiT hc18_10 <| Sk <| Tk 99 0 ⟨.l encS p0::.s p1::tp 3 (.d .nil::.i y6_0::tp 40 []), [], 0⟩ <| Bk <| Tx <| Wm (.i y6_0) rfl <| Wz (.i (W6 (y6_0 + 1))) (Obn rfl (fun _ => hb_add (k := .i64))) <| Wm (.i (W6 (y6_0 + 1))) rfl <| Wn0 <| Ino <| RoundK.normal ?_
    exact Rounds.weak (Weak.toK 99 0 0 []) (ih_0 (fu_0, (W6 (y6_0 + 1))) hm (Nat.lt_succ_self _))
   ·
    replace hm := cF hc18_10 hm
    refine AiF hc18_10 <| AWP.exit <| Then.exit <| RoundK.exit <| InBlock.same <| Tn ?_
    exact AWP.weak (Weak.toK 99 0 0 []) (J2 (y6_0) hm)
  ·
   replace hm := cF hq11_1 hm
   refine Wz (.b false) (Oq hq11_1 rfl) <| Wn <| Wn <| Wn <| Wn <| Wn <| Wn <| Wz (.b false) (OpF rfl) <| Nk 262243 0 ⟨.l encS p0::.s p1::tp 3 (.d .nil::.i y6_0::tp 11 (.b false::tp 28 [])), [], 0⟩ <| AWP.if_ false (by kernel_rfl) <| AWP.exit <| Then.exit <| RoundK.exit <| InBlock.same ?_
   refine Tn ?_
   exact AWP.weak (Weak.toK 99 0 0 []) (J2 (y6_0) hm)
end Go.Proofs.Ytkajfanpdabjcaa.K
