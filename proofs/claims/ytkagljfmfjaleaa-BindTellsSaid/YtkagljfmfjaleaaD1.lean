/- what telltalelaw19.BindTells needs (1) -/
import Derived.Test.YtkagljfmfjaleaaD0
namespace Go.Proofs.Ytkagljfmfjaleaa.K
open Go.RowKit Go.Lib
set_option linter.unusedVariables false
set_option linter.unusedSimpArgs false
set_option maxRecDepth 20000
set_option maxHeartbeats 4000000

theorem ok_telltalelaw19_BindTells (p0 : GArr2_List_GPair) (p1 : GPair) (r : Bool) (h : m_telltalelaw19_BindTells p0 p1 = some r) : GCall Try.prog 3 [(.agg [(.l enc_GPair p0.a0), (.l enc_GPair p0.a1)]), (.agg [(.s p1.Var), (.i p1.E.Time), (.i p1.E.Source), (.i p1.E.Seq), (.s p1.E.Type_), (.l enc_GValue p1.E.Vals)])] [] (.b r) [] := by
 refine GCall.of_body (n := 174) (rs := [(.tmp 4)]) Try.func3 rfl rfl rfl <| Ato ⟨.agg [(.l enc_GPair p0.a0), (.l enc_GPair p0.a1)]::.agg [(.s p1.Var), (.i p1.E.Time), (.i p1.E.Source), (.i p1.E.Seq), (.s p1.E.Type_), (.l enc_GValue p1.E.Vals)]::tu 172 [], [], 0⟩ ?_
 have hm := h
 unfold m_telltalelaw19_BindTells at hm
 refine Sx <| Wy (.loc 0 0) [(0, (.box [(.l enc_GPair p0.a0), (.l enc_GPair p0.a1)]))] (Obx rfl) <| Wy (.loc 1 0) [(1, (.box [(.s p1.Var), (.i p1.E.Time), (.i p1.E.Source), (.i p1.E.Seq), (.s p1.E.Type_), (.l enc_GValue p1.E.Vals)]))] (Obx rfl) <| Wm (.b false) rfl <| Nk 12 3 ⟨tp 2 (.loc 0 0::.loc 1 0::tp 170 []), [(.box [(.l enc_GPair p0.a0), (.l enc_GPair p0.a1)]), (.box [(.s p1.Var), (.i p1.E.Time), (.i p1.E.Source), (.i p1.E.Seq), (.s p1.E.Type_), (.l enc_GValue p1.E.Vals)])], 0⟩ <| Sq ?_
 refine AWP.cutJ (α := Unit) (fun x => match x with | () => (⟨tp 2 (.loc 0 0::.loc 1 0::tp 29 (.b true::tp 140 [])), [(.box [(.l enc_GPair p0.a0), (.l enc_GPair p0.a1)]), (.box [(.s p1.Var), (.i p1.E.Time), (.i p1.E.Source), (.i p1.E.Seq), (.s p1.E.Type_), (.l enc_GValue p1.E.Vals)])], 0⟩ : St)) (fun x => match x with | () => m_telltalelaw19_BindTells_j1  = some r) ?_ (fun J1 => ?_)
 ·
  rintro ⟨⟩ hm
  try dsimp only at hm ⊢
  unfold m_telltalelaw19_BindTells_j1 at hm
  refine AWP.if_ true (by kernel_rfl) <| Sx ?_
  obtain ⟨r34_2, hr34_2, hm⟩ := bnd hm
  refine Wz (.b r34_2) (Ocf [] [] [] 0 (ok_telltalelaw19_awake  r34_2 hr34_2) (fun a w => Try.call8 a w) rfl trivial) <| Wm (.b r34_2) rfl <| Nn <| Rt <| Tr ?_
  obtain rfl := Option.some.inj hm
  exact ret_i []
 refine Sx <| Wz (.loc 0 0) (Ocs (by kernel_rfl) (op_iaddr_arr rfl (n := 2) (sz := 1) (y := (.loc 0 0)) (by kernel_rfl) (by kernel_rfl) (by kernel_rfl) (k := .i64) (iv := 0) (by kernel_rfl) (i := 0) (by rfl) (by decide))) <| Wz (.l enc_GPair p0.a0) (Old rfl) ?_
 obtain ⟨r20_0, hr20_0, hm⟩ := bnd hm
 refine Wz (.i r20_0) (Ocf [] [] [] 0 (ok_telltalelaw19_Long p0.a0 r20_0 hr20_0) (fun a w => Try.call7 a w) rfl trivial) <| Wz (.b (decide ((0 : Int) < r20_0))) (Obn rfl (fun _ => hb_gtr (k := .i64))) ?_
 rcases tf_ (decide ((0 : Int) < r20_0)) with hq22_0 | hq22_0
 ·
  replace hm := cT hq22_0 hm
  refine Wz (.b true) (Oq hq22_0 rfl) <| Wn <| Wn <| Wn <| Wn <| Wz (.b true) (OpT rfl) <| Wm (.b true) rfl <| Wn <| Wn <| Wn <| Wn <| Wz (.b true) (OpT rfl) <| Nn ?_
  exact AWP.weak (Weak.toK 8589934604 0 0 [0, 1]) (J1 () hm)
 ·
  replace hm := cF hq22_0 hm
  refine Wz (.b false) (Oq hq22_0 rfl) <| Wz (.loc 0 1) (Ocs (by kernel_rfl) (op_iaddr_arr rfl (n := 2) (sz := 1) (y := (.loc 0 0)) (by kernel_rfl) (by kernel_rfl) (by kernel_rfl) (k := .i64) (iv := 1) (by kernel_rfl) (i := 1) (by rfl) (by decide))) <| Wz (.l enc_GPair p0.a1) (Old rfl) ?_
  obtain ⟨r25_0, hr25_0, hm⟩ := bnd hm
  refine Wz (.i r25_0) (Ocf [] [] [] 0 (ok_telltalelaw19_Long p0.a1 r25_0 hr25_0) (fun a w => Try.call7 a w) rfl trivial) <| Wz (.b (decide ((0 : Int) < r25_0))) (Obn rfl (fun _ => hb_gtr (k := .i64))) <| Wz (.b (decide ((0 : Int) < r25_0))) (OpF rfl) ?_
  rcases tf_ (decide ((0 : Int) < r25_0)) with hq28_0 | hq28_0
  ·
   replace hm := cT hq28_0 hm
   refine Wz (.b true) (Oq hq28_0 rfl) <| Wn <| Wn <| Wn <| Wn <| Wz (.b true) (OpT rfl) <| Nn ?_
   exact AWP.weak (Weak.toK 8589934604 0 0 [0, 1]) (J1 () hm)
  ·
   replace hm := cF hq28_0 hm
   refine Wz (.b false) (Oq hq28_0 rfl) <| Wz (.agg [(.s p1.Var), (.i p1.E.Time), (.i p1.E.Source), (.i p1.E.Seq), (.s p1.E.Type_), (.l enc_GValue p1.E.Vals)]) (Old rfl) <| Wy (.own 2) [(2, (Ar 28 6 enc_GPair ([p1] : List GPair)))] (Obs rfl) ?_
   obtain ⟨r31_0, hr31_0, hm⟩ := bnd hm
   refine Wz (.i r31_0) (Ocp [] [] [2] 0 (ok_telltalelaw19_Long ([p1] : List GPair) r31_0 hr31_0) (plain_triv (by simp [A.Plain, A.Plains, D.Plain, byteD])) (fun a w => Try.call7 a w) rfl trivial) <| Wz (.b (decide ((0 : Int) < r31_0))) (Obn rfl (fun _ => hb_gtr (k := .i64))) <| Wz (.b (decide ((0 : Int) < r31_0))) (OpF rfl) <| Nk 8589934604 3 ⟨tp 2 (.loc 0 0::.loc 1 0::tp 29 (.b (decide ((0 : Int) < r31_0))::tp 140 [])), [(.box [(.l enc_GPair p0.a0), (.l enc_GPair p0.a1)]), (.box [(.s p1.Var), (.i p1.E.Time), (.i p1.E.Source), (.i p1.E.Seq), (.s p1.E.Type_), (.l enc_GValue p1.E.Vals)]), .gone], 0⟩ ?_
   rcases tf_ (decide ((0 : Int) < r31_0)) with hc33_17 | hc33_17
   ·
    replace hm := cT hc33_17 hm
    refine AiT hc33_17 <| Sx ?_
    obtain ⟨r34_3, hr34_3, hm⟩ := bnd hm
    refine Wz (.b r34_3) (Ocf [] [] [] 0 (ok_telltalelaw19_awake  r34_3 hr34_3) (fun a w => Try.call8 a w) rfl trivial) <| Wm (.b r34_3) rfl <| Nn <| Rt <| Tr ?_
    obtain rfl := Option.some.inj hm
    exact ret_i []
   ·
    replace hm := cF hc33_17 hm
    refine AiF hc33_17 <| Sk <| Tk 12 3 ⟨tp 2 (.loc 0 0::.loc 1 0::tp 170 []), [(.box [(.l enc_GPair p0.a0), (.l enc_GPair p0.a1)]), (.box [(.s p1.Var), (.i p1.E.Time), (.i p1.E.Source), (.i p1.E.Seq), (.s p1.E.Type_), (.l enc_GValue p1.E.Vals)]), .gone], 0⟩ <| Sq <| Adr <| Wz (.loc 0 0) (Ocs (by kernel_rfl) (op_iaddr_arr rfl (n := 2) (sz := 1) (y := (.loc 0 0)) (by kernel_rfl) (by kernel_rfl) (by kernel_rfl) (k := .i64) (iv := 0) (by kernel_rfl) (i := 0) (by rfl) (by decide))) <| Wz (.l enc_GPair p0.a0) (Old rfl) ?_
    obtain ⟨r37_4, hr37_4, hm⟩ := bnd hm
    refine Wy (.own 3) [(3, (Ar 45 6 enc_GPair r37_4))] (Ocf [] [3] [] 0 (ok_telltalelaw19_Pairs p0.a0 r37_4 hr37_4) (fun a w => Try.call9 a w) rfl trivial) <| Wz (.loc 0 1) (Ocs (by kernel_rfl) (op_iaddr_arr rfl (n := 2) (sz := 1) (y := (.loc 0 0)) (by kernel_rfl) (by kernel_rfl) (by kernel_rfl) (k := .i64) (iv := 1) (by kernel_rfl) (i := 1) (by rfl) (by decide))) <| Wz (.l enc_GPair p0.a1) (Old rfl) ?_
    obtain ⟨r40_4, hr40_4, hm⟩ := bnd hm
    refine Wy (.own 4) [(4, (Ar 45 6 enc_GPair r40_4))] (Ocf [] [4] [] 0 (ok_telltalelaw19_Pairs p0.a1 r40_4 hr40_4) (fun a w => Try.call9 a w) rfl trivial) <| Wm (.own 3) rfl <| Wm (.own 4) rfl <| Wdr <| Tk 108 27 ⟨tp 2 (.loc 0 0::.loc 1 0::tp 1 (.own 3::.own 4::tp 167 [])), [(.box [(.l enc_GPair p0.a0), (.l enc_GPair p0.a1)]), (.box [(.s p1.Var), (.i p1.E.Time), (.i p1.E.Source), (.i p1.E.Seq), (.s p1.E.Type_), (.l enc_GValue p1.E.Vals)]), .gone, (Ar 45 6 enc_GPair r37_4), (Ar 45 6 enc_GPair r40_4)], 0⟩ <| Sx <| Wm (.own 3) rfl <| Wz (.loc 1 0) (Ofa rfl) <| Wz (.s p1.Var) (Old rfl) ?_
    obtain ⟨r45_5, hr45_5, hm⟩ := bnd hm
    refine Wy (.tup [(.agg [(.i r45_5.1.Time), (.i r45_5.1.Source), (.i r45_5.1.Seq), (.s r45_5.1.Type_), (.l enc_GValue r45_5.1.Vals)]), (.b r45_5.2)]) [(3, (.fro 45 6 (List.length r37_4) (flatD enc_GPair r37_4)))] (Ocf [] [] [3] 0 (ok_bind_Last r37_4 p1.Var r45_5 hr45_5) (fun a w => Try.call10 a w) rfl trivial) <| Wm (.tup [(.agg [(.i r45_5.1.Time), (.i r45_5.1.Source), (.i r45_5.1.Seq), (.s r45_5.1.Type_), (.l enc_GValue r45_5.1.Vals)]), (.b r45_5.2)]) rfl <| Wz (.agg [(.i r45_5.1.Time), (.i r45_5.1.Source), (.i r45_5.1.Seq), (.s r45_5.1.Type_), (.l enc_GValue r45_5.1.Vals)]) (Oex rfl) <| Wz (.b r45_5.2) (Oex rfl) <| Wy (.loc 5 0) [(5, (.box [(.i 0), (.i 0), (.i 0), (.s ([] : List UInt8)), (.d .nil)]))] (Oal rfl) <| Wy (.tup []) [(5, (.box [(.i r45_5.1.Time), (.i r45_5.1.Source), (.i r45_5.1.Seq), (.s r45_5.1.Type_), (.l enc_GValue r45_5.1.Vals)]))] (Ost rfl) <| Wm (.b r45_5.2) rfl <| Nk 492 59 ⟨tp 2 (.loc 0 0::.loc 1 0::tp 1 (.own 3::.own 4::.loc 5 0::.b r45_5.2::tp 165 [])), [(.box [(.l enc_GPair p0.a0), (.l enc_GPair p0.a1)]), (.box [(.s p1.Var), (.i p1.E.Time), (.i p1.E.Source), (.i p1.E.Seq), (.s p1.E.Type_), (.l enc_GValue p1.E.Vals)]), .gone, (.fro 45 6 (List.length r37_4) (flatD enc_GPair r37_4)), (Ar 45 6 enc_GPair r40_4), (.box [(.i r45_5.1.Time), (.i r45_5.1.Source), (.i r45_5.1.Seq), (.s r45_5.1.Type_), (.l enc_GValue r45_5.1.Vals)])], 0⟩ <| Sx <| Wz (.loc 0 0) (Ocs (by kernel_rfl) (op_iaddr_arr rfl (n := 2) (sz := 1) (y := (.loc 0 0)) (by kernel_rfl) (by kernel_rfl) (by kernel_rfl) (k := .i64) (iv := 0) (by kernel_rfl) (i := 0) (by rfl) (by decide))) <| Wz (.l enc_GPair p0.a0) (Old rfl) <| Wz (.loc 1 0) (Ofa rfl) <| Wz (.s p1.Var) (Old rfl) ?_
    obtain ⟨r53_6, hr53_6, hm⟩ := bnd hm
    refine Wz (.tup [(.agg [(.i r53_6.1.Time), (.i r53_6.1.Source), (.i r53_6.1.Seq), (.s r53_6.1.Type_), (.l enc_GValue r53_6.1.Vals)]), (.b r53_6.2)]) (Ocf [] [] [] 0 (ok_telltaleref19_Last p0.a0 p1.Var r53_6 hr53_6) (fun a w => Try.call11 a w) rfl trivial) <| Wm (.tup [(.agg [(.i r53_6.1.Time), (.i r53_6.1.Source), (.i r53_6.1.Seq), (.s r53_6.1.Type_), (.l enc_GValue r53_6.1.Vals)]), (.b r53_6.2)]) rfl <| Wz (.agg [(.i r53_6.1.Time), (.i r53_6.1.Source), (.i r53_6.1.Seq), (.s r53_6.1.Type_), (.l enc_GValue r53_6.1.Vals)]) (Oex rfl) <| Wz (.b r53_6.2) (Oex rfl) <| Wy (.loc 6 0) [(6, (.box [(.i 0), (.i 0), (.i 0), (.s ([] : List UInt8)), (.d .nil)]))] (Oal rfl) <| Wy (.tup []) [(6, (.box [(.i r53_6.1.Time), (.i r53_6.1.Source), (.i r53_6.1.Seq), (.s r53_6.1.Type_), (.l enc_GValue r53_6.1.Vals)]))] (Ost rfl) <| Wm (.b r53_6.2) rfl <| Nk 2028 123 ⟨tp 2 (.loc 0 0::.loc 1 0::tp 1 (.own 3::.own 4::.loc 5 0::.b r45_5.2::.loc 6 0::.b r53_6.2::tp 163 [])), [(.box [(.l enc_GPair p0.a0), (.l enc_GPair p0.a1)]), (.box [(.s p1.Var), (.i p1.E.Time), (.i p1.E.Source), (.i p1.E.Seq), (.s p1.E.Type_), (.l enc_GValue p1.E.Vals)]), .gone, (.fro 45 6 (List.length r37_4) (flatD enc_GPair r37_4)), (Ar 45 6 enc_GPair r40_4), (.box [(.i r45_5.1.Time), (.i r45_5.1.Source), (.i r45_5.1.Seq), (.s r45_5.1.Type_), (.l enc_GValue r45_5.1.Vals)]), (.box [(.i r53_6.1.Time), (.i r53_6.1.Source), (.i r53_6.1.Seq), (.s r53_6.1.Type_), (.l enc_GValue r53_6.1.Vals)])], 0⟩ <| Sq <| Adr <| Wm (.own 3) rfl <| Wz (.loc 1 0) (Ofa rfl) <| Wz (.s p1.Var) (Old rfl) <| Wz (.loc 1 1) (Ofa rfl) ?_
    refine Wz (.agg [(.i p1.E.Time), (.i p1.E.Source), (.i p1.E.Seq), (.s p1.E.Type_), (.l enc_GValue p1.E.Vals)]) (Old rfl) ?_
    obtain ⟨r61_7, hr61_7, hm⟩ := bnd hm
    refine Wy (.agg [(.i r61_7.Time), (.i r61_7.Source), (.i r61_7.Seq), (.s r61_7.Type_), (.own 7)]) [(7, (Ar 89 4 enc_GValue r61_7.Vals))] (Ocf [] [7] [] 0 (ok_telltalelaw07_Own p1.E r61_7 hr61_7) (fun a w => Try.call13 a w) rfl trivial) ?_
    obtain ⟨r62_7, hr62_7, hm⟩ := bnd hm
    refine Wy (.own 8) [(8, (Ar 45 6 enc_GPair r62_7)), (3, (.fro 45 6 (List.length r37_4) (flatD enc_GPair r37_4))), (7, (.fro 89 4 (List.length r61_7.Vals) (flatD enc_GValue r61_7.Vals)))] (Ocf [] [8] [3, 7] 0 (ok_bind_Add r37_4 p1.Var r61_7 r62_7 hr62_7) (fun a w => Try.call12 a w) rfl trivial) <| Wm (.own 8) rfl <| Wdr <| Tk 4076 379 ⟨tp 2 (.loc 0 0::.loc 1 0::tp 1 (.own 3::.own 4::.loc 5 0::.b r45_5.2::.loc 6 0::.b r53_6.2::.own 8::tp 162 [])), [(.box [(.l enc_GPair p0.a0), (.l enc_GPair p0.a1)]), (.box [(.s p1.Var), (.i p1.E.Time), (.i p1.E.Source), (.i p1.E.Seq), (.s p1.E.Type_), (.l enc_GValue p1.E.Vals)]), .gone, (.fro 45 6 (List.length r37_4) (flatD enc_GPair r37_4)), (Ar 45 6 enc_GPair r40_4), (.box [(.i r45_5.1.Time), (.i r45_5.1.Source), (.i r45_5.1.Seq), (.s r45_5.1.Type_), (.l enc_GValue r45_5.1.Vals)]), (.box [(.i r53_6.1.Time), (.i r53_6.1.Source), (.i r53_6.1.Seq), (.s r53_6.1.Type_), (.l enc_GValue r53_6.1.Vals)]), .gone, (Ar 45 6 enc_GPair r62_7)], 0⟩ <| Sx <| Wm (.own 3) rfl <| Wz (.agg [(.i 0), (.i 0), (.i 0), (.s ([] : List UInt8)), (.d .nil)]) (Obd rfl) ?_
    obtain ⟨r65_8, hr65_8, hm⟩ := bnd hm
    refine Wy (.own 9) [(9, (Ar 45 6 enc_GPair r65_8)), (3, (.fro 45 6 (List.length r37_4) (flatD enc_GPair r37_4)))] (Ocf [] [9] [3] 0 (ok_bind_Add r37_4 ([111, 116, 104, 101, 114] : List UInt8) (GEvent.mk 0 0 0 ([] : List UInt8) ([] : List GValue)) r65_8 hr65_8) (fun a w => Try.call12 a w) rfl trivial) <| Wm (.own 9) rfl <| Nk 8172 891 ⟨tp 2 (.loc 0 0::.loc 1 0::tp 1 (.own 3::.own 4::.loc 5 0::.b r45_5.2::.loc 6 0::.b r53_6.2::.own 8::.own 9::tp 161 [])), [(.box [(.l enc_GPair p0.a0), (.l enc_GPair p0.a1)]), (.box [(.s p1.Var), (.i p1.E.Time), (.i p1.E.Source), (.i p1.E.Seq), (.s p1.E.Type_), (.l enc_GValue p1.E.Vals)]), .gone, (.fro 45 6 (List.length r37_4) (flatD enc_GPair r37_4)), (Ar 45 6 enc_GPair r40_4), (.box [(.i r45_5.1.Time), (.i r45_5.1.Source), (.i r45_5.1.Seq), (.s r45_5.1.Type_), (.l enc_GValue r45_5.1.Vals)]), (.box [(.i r53_6.1.Time), (.i r53_6.1.Source), (.i r53_6.1.Seq), (.s r53_6.1.Type_), (.l enc_GValue r53_6.1.Vals)]), .gone, (Ar 45 6 enc_GPair r62_7), (Ar 45 6 enc_GPair r65_8)], 0⟩ <| Sx <| Wm (.own 3) rfl ?_
    obtain ⟨r68_9, hr68_9, hm⟩ := bnd hm
    refine Wz (.tup [(.i r68_9.1), (.i r68_9.2.1), (.b r68_9.2.2)]) (Ocp [] [] [3] 0 (ok_bind_Span r37_4 r68_9 hr68_9) (plain_triv (by simp [A.Plain, A.Plains, D.Plain, byteD])) (fun a w => Try.call14 a w) rfl trivial) <| Wm (.tup [(.i r68_9.1), (.i r68_9.2.1), (.b r68_9.2.2)]) rfl <| Wz (.i r68_9.1) (Oex rfl) <| Wz (.i r68_9.2.1) (Oex rfl) <| Wz (.b r68_9.2.2) (Oex rfl) <| Wm (.i r68_9.1) rfl <| Wm (.i r68_9.2.1) rfl <| Wm (.b r68_9.2.2) rfl <| Nk 65516 891 ⟨tp 2 (.loc 0 0::.loc 1 0::tp 1 (.own 3::.own 4::.loc 5 0::.b r45_5.2::.loc 6 0::.b r53_6.2::.own 8::.own 9::.i r68_9.1::.i r68_9.2.1::.b r68_9.2.2::tp 158 [])), [(.box [(.l enc_GPair p0.a0), (.l enc_GPair p0.a1)]), (.box [(.s p1.Var), (.i p1.E.Time), (.i p1.E.Source), (.i p1.E.Seq), (.s p1.E.Type_), (.l enc_GValue p1.E.Vals)]), .gone, (.fro 45 6 (List.length r37_4) (flatD enc_GPair r37_4)), (Ar 45 6 enc_GPair r40_4), (.box [(.i r45_5.1.Time), (.i r45_5.1.Source), (.i r45_5.1.Seq), (.s r45_5.1.Type_), (.l enc_GValue r45_5.1.Vals)]), (.box [(.i r53_6.1.Time), (.i r53_6.1.Source), (.i r53_6.1.Seq), (.s r53_6.1.Type_), (.l enc_GValue r53_6.1.Vals)]), .gone, (Ar 45 6 enc_GPair r62_7), (Ar 45 6 enc_GPair r65_8)], 0⟩ ?_
    refine AWP.cutJ (α := Unit) (fun x => match x with | () => (⟨tp 2 (.loc 0 0::.loc 1 0::tp 1 (.l enc_GPair r37_4::.own 2::.loc 3 0::.b r45_5.2::.loc 4 0::.b r53_6.2::.own 5::.own 6::tp 161 [])), [(.box [(.l enc_GPair p0.a0), (.l enc_GPair p0.a1)]), (.box [(.s p1.Var), (.i p1.E.Time), (.i p1.E.Source), (.i p1.E.Seq), (.s p1.E.Type_), (.l enc_GValue p1.E.Vals)]), (Ar 45 6 enc_GPair r40_4), (.box [(.i r45_5.1.Time), (.i r45_5.1.Source), (.i r45_5.1.Seq), (.s r45_5.1.Type_), (.l enc_GValue r45_5.1.Vals)]), (.box [(.i r53_6.1.Time), (.i r53_6.1.Source), (.i r53_6.1.Seq), (.s r53_6.1.Type_), (.l enc_GValue r53_6.1.Vals)]), (Ar 45 6 enc_GPair r62_7), (Ar 45 6 enc_GPair r65_8)], 0⟩ : St)) (fun x => match x with | () => m_telltalelaw19_BindTells_j14 p0 p1 r37_4 r40_4 r45_5 r53_6 r62_7 r65_8 = some r) ?_ (fun J14 => ?_)
    ·
     rintro ⟨⟩ hm
     try dsimp only at hm ⊢
     unfold m_telltalelaw19_BindTells_j14 at hm
     refine Sq <| Adr <| Wm (.own 5) rfl ?_
     obtain ⟨r112_15, hr112_15, hm⟩ := bnd hm
     refine Wy (.own 7) [(7, (Ar 28 6 enc_GPair r112_15)), (5, (.fro 45 6 (List.length r62_7) (flatD enc_GPair r62_7)))] (Ocf [] [7] [5] 0 (ok_telltalelaw19_BackPairs r62_7 r112_15 hr112_15) (fun a w => Try.call15 a w) rfl trivial) <| Wz (.agg [(.i 0), (.s ([] : List UInt8)), (.own 7)]) (Obd rfl) <| Wz (.loc 0 0) (Ocs (by kernel_rfl) (op_iaddr_arr rfl (n := 2) (sz := 1) (y := (.loc 0 0)) (by kernel_rfl) (by kernel_rfl) (by kernel_rfl) (k := .i64) (iv := 0) (by kernel_rfl) (i := 0) (by rfl) (by decide))) <| Wz (.l enc_GPair p0.a0) (Old rfl) <| Wz (.loc 1 0) (Ofa rfl) <| Wz (.s p1.Var) (Old rfl) <| Wz (.loc 1 1) (Ofa rfl) <| Wz (.agg [(.i p1.E.Time), (.i p1.E.Source), (.i p1.E.Seq), (.s p1.E.Type_), (.l enc_GValue p1.E.Vals)]) (Old rfl) ?_
     obtain ⟨r120_15, hr120_15, hm⟩ := bnd hm
     refine Wy (.own 8) [(8, (Ar 28 6 enc_GPair r120_15))] (Ocf [] [8] [] 0 (ok_telltaleref19_Add p0.a0 p1.Var p1.E r120_15 hr120_15) (fun a w => Try.call16 a w) rfl trivial) <| Wz (.agg [(.i 0), (.s ([] : List UInt8)), (.own 8)]) (Obd rfl) <| Wy (.loc 9 0) [(9, (.box [(.i 0), (.s ([] : List UInt8)), (.d .nil)]))] (Oal rfl) <| Wy (.loc 10 0) [(10, (.box [(.i 0), (.s ([] : List UInt8)), (.d .nil)]))] (Oal rfl) <| Wy (.tup []) [(9, (.box [(.i 0), (.s ([] : List UInt8)), (.own 7)]))] (Ost rfl) <| Wy (.tup []) [(10, (.box [(.i 0), (.s ([] : List UInt8)), (.own 8)]))] (Ost rfl) <| Wdr <| Tk 204772 2045 ⟨tp 2 (.loc 0 0::tp 2 (.l enc_GPair r37_4::.own 2::.loc 3 0::.b r45_5.2::.loc 4 0::.b r53_6.2::.own 5::.own 6::tp 3 (.loc 9 0::.loc 10 0::tp 156 []))), [(.box [(.l enc_GPair p0.a0), (.l enc_GPair p0.a1)]), .gone, (Ar 45 6 enc_GPair r40_4), (.box [(.i r45_5.1.Time), (.i r45_5.1.Source), (.i r45_5.1.Seq), (.s r45_5.1.Type_), (.l enc_GValue r45_5.1.Vals)]), (.box [(.i r53_6.1.Time), (.i r53_6.1.Source), (.i r53_6.1.Seq), (.s r53_6.1.Type_), (.l enc_GValue r53_6.1.Vals)]), (.fro 45 6 (List.length r62_7) (flatD enc_GPair r62_7)), (Ar 45 6 enc_GPair r65_8), (Ar 28 6 enc_GPair r112_15), (Ar 28 6 enc_GPair r120_15), (.box [(.i 0), (.s ([] : List UInt8)), (.own 7)]), (.box [(.i 0), (.s ([] : List UInt8)), (.own 8)])], 0⟩ <| Sq <| Adr <| Wz (.agg [(.i r45_5.1.Time), (.i r45_5.1.Source), (.i r45_5.1.Seq), (.s r45_5.1.Type_), (.l enc_GValue r45_5.1.Vals)]) (Old rfl) ?_
     obtain ⟨r123_16, hr123_16, hm⟩ := bnd hm
     refine Wy (.agg [(.i r123_16.Time), (.i r123_16.Source), (.i r123_16.Seq), (.s r123_16.Type_), (.own 11)]) [(11, (Ar 88 4 enc_GValue r123_16.Vals))] (Ocf [] [11] [] 0 (ok_telltalelaw07_Back r45_5.1 r123_16 hr123_16) (fun a w => Try.call18 a w) rfl trivial) <| Wz (.agg [(.i r53_6.1.Time), (.i r53_6.1.Source), (.i r53_6.1.Seq), (.s r53_6.1.Type_), (.l enc_GValue r53_6.1.Vals)]) (Old rfl) ?_
     obtain ⟨r125_16, hr125_16, hm⟩ := bnd hm
     refine Wz (.b r125_16) (Ocp [] [] [11] 0 (ok_telltaleref07_Same r123_16 r53_6.1 r125_16 hr125_16) (plain_triv (by simp [A.Plain, A.Plains, D.Plain, byteD])) (fun a w => Try.call17 a w) rfl trivial) ?_
     rcases tf_ r125_16 with hq126_16 | hq126_16
     ·
      replace hm := cT hq126_16 hm
      refine Wz (.b true) (Oq hq126_16 rfl) <| Wm (.b r45_5.2) rfl <| Wm (.b r53_6.2) rfl <| Wz (.b (decide (r45_5.2 = r53_6.2))) (Ob2 (.bool r45_5.2) (.bool r53_6.2) rfl (fun _ => hb_beql (by kernel_rfl))) <| Wz (.b (decide (r45_5.2 = r53_6.2))) (OpT rfl) ?_
      rcases tf_ (decide (r45_5.2 = r53_6.2)) with hq131_16 | hq131_16
      ·
       replace hm := cT hq131_16 hm
       refine Wz (.b true) (Oq hq131_16 rfl) <| Wz (.agg [(.i 0), (.s ([] : List UInt8)), (.own 7)]) (Old rfl) <| Wz (.agg [(.i 0), (.s ([] : List UInt8)), (.own 8)]) (Old rfl) ?_
       obtain ⟨r134_16, hr134_16, hm⟩ := bnd hm
       refine Wz (.b r134_16) (Ocp [] [] [7, 8] 0 (ok_telltaleref19_Same (GMatch.mk 0 ([] : List UInt8) r112_15) (GMatch.mk 0 ([] : List UInt8) r120_15) r134_16 hr134_16) (plain_triv (by simp [A.Plain, A.Plains, D.Plain, byteD])) (fun a w => Try.call19 a w) rfl trivial) <| Wz (.b r134_16) (OpT rfl) ?_
       rcases tf_ r134_16 with hq136_16 | hq136_16
       ·
        replace hm := cT hq136_16 hm
        refine Wz (.b true) (Oq hq136_16 rfl) <| Wm (.own 6) rfl <| Wz (.i ((List.length r65_8 : Nat) : Int)) (Oln rfl) <| Wm (.own 5) rfl <| Wz (.i ((List.length r62_7 : Nat) : Int)) (Oln rfl) <| Wz (.b (decide (((List.length r65_8 : Nat) : Int) = ((List.length r62_7 : Nat) : Int)))) (Obn rfl (fun _ => hb_eql (k := .i64))) <| Wz (.b (decide (((List.length r65_8 : Nat) : Int) = ((List.length r62_7 : Nat) : Int)))) (OpT rfl) ?_
        rcases tf_ (decide (((List.length r65_8 : Nat) : Int) = ((List.length r62_7 : Nat) : Int))) with hq143_16 | hq143_16
        ·
         replace hm := cT hq143_16 hm
         refine Wz (.b true) (Oq hq143_16 rfl) <| Wm (.l enc_GPair r37_4) rfl ?_
         obtain ⟨r145_16, hr145_16, hm⟩ := bnd hm
         refine Wy (.own 12) [(12, (Ar 28 6 enc_GPair r145_16))] (Ocf [] [12] [] 0 (ok_telltalelaw19_BackPairs r37_4 r145_16 hr145_16) (fun a w => Try.call15 a w) rfl trivial) <| Wz (.agg [(.i 0), (.s ([] : List UInt8)), (.own 12)]) (Obd rfl) <| Wz (.loc 0 0) (Ocs (by kernel_rfl) (op_iaddr_arr rfl (n := 2) (sz := 1) (y := (.loc 0 0)) (by kernel_rfl) (by kernel_rfl) (by kernel_rfl) (k := .i64) (iv := 0) (by kernel_rfl) (i := 0) (by rfl) (by decide))) <| Wz (.l enc_GPair p0.a0) (Old rfl) <| Wz (.agg [(.i 0), (.s ([] : List UInt8)), (.l enc_GPair p0.a0)]) (Obd rfl) ?_
         obtain ⟨r150_16, hr150_16, hm⟩ := bnd hm
         refine Wz (.b r150_16) (Ocp [] [] [12] 0 (ok_telltaleref19_Same (GMatch.mk 0 ([] : List UInt8) r145_16) (GMatch.mk 0 ([] : List UInt8) p0.a0) r150_16 hr150_16) (plain_triv (by simp [A.Plain, A.Plains, D.Plain, byteD])) (fun a w => Try.call19 a w) rfl trivial) <| Wz (.b r150_16) (OpT rfl) ?_
         rcases tf_ r150_16 with hq152_16 | hq152_16
         ·
          replace hm := cT hq152_16 hm
          refine Wz (.b true) (Oq hq152_16 rfl) <| Wm (.l enc_GPair r37_4) rfl ?_
          obtain ⟨r154_16, hr154_16, hm⟩ := bnd hm
          refine Wz (.b r154_16) (Ocf [] [] [] 0 (ok_bind_Rising r37_4 r154_16 hr154_16) (fun a w => Try.call20 a w) rfl trivial) <| Wz (.loc 0 0) (Ocs (by kernel_rfl) (op_iaddr_arr rfl (n := 2) (sz := 1) (y := (.loc 0 0)) (by kernel_rfl) (by kernel_rfl) (by kernel_rfl) (k := .i64) (iv := 0) (by kernel_rfl) (i := 0) (by rfl) (by decide))) <| Wz (.l enc_GPair p0.a0) (Old rfl) ?_
          obtain ⟨r157_16, hr157_16, hm⟩ := bnd hm
          refine Wz (.b r157_16) (Ocf [] [] [] 0 (ok_telltaleref19_Rising p0.a0 r157_16 hr157_16) (fun a w => Try.call21 a w) rfl trivial) <| Wz (.b (decide (r154_16 = r157_16))) (Ob2 (.bool r154_16) (.bool r157_16) rfl (fun _ => hb_beql (by kernel_rfl))) <| Wz (.b (decide (r154_16 = r157_16))) (OpT rfl) ?_
          rcases tf_ (decide (r154_16 = r157_16)) with hq160_16 | hq160_16
          ·
           replace hm := cT hq160_16 hm
           refine Wz (.b true) (Oq hq160_16 rfl) <| Wm (.l enc_GPair r37_4) rfl <| Wm (.own 2) rfl ?_
           obtain ⟨r163_16, hr163_16, hm⟩ := bnd hm
           refine Wz (.i r163_16) (Ocp [] [] [2] 0 (ok_bind_Rank r37_4 r40_4 r163_16 hr163_16) (plain_triv (by simp [A.Plain, A.Plains, D.Plain, byteD])) (fun a w => Try.call22 a w) rfl trivial) <| Wz (.loc 0 0) (Ocs (by kernel_rfl) (op_iaddr_arr rfl (n := 2) (sz := 1) (y := (.loc 0 0)) (by kernel_rfl) (by kernel_rfl) (by kernel_rfl) (k := .i64) (iv := 0) (by kernel_rfl) (i := 0) (by rfl) (by decide))) <| Wz (.l enc_GPair p0.a0) (Old rfl) <| Wz (.loc 0 1) (Ocs (by kernel_rfl) (op_iaddr_arr rfl (n := 2) (sz := 1) (y := (.loc 0 0)) (by kernel_rfl) (by kernel_rfl) (by kernel_rfl) (k := .i64) (iv := 1) (by kernel_rfl) (i := 1) (by rfl) (by decide))) <| Wz (.l enc_GPair p0.a1) (Old rfl) ?_
           obtain ⟨r168_16, hr168_16, hm⟩ := bnd hm
           refine Wz (.i r168_16) (Ocf [] [] [] 0 (ok_telltaleref19_Rank p0.a0 p0.a1 r168_16 hr168_16) (fun a w => Try.call23 a w) rfl trivial) <| Wz (.b (decide (r163_16 = r168_16))) (Obn rfl (fun _ => hb_eql (k := .i64))) <| Wz (.b (decide (r163_16 = r168_16))) (OpT rfl) ?_
           rcases tf_ (decide (r163_16 = r168_16)) with hq171_16 | hq171_16
           ·
            replace hm := cT hq171_16 hm
            refine Wz (.b true) (Oq hq171_16 rfl) ?_
            obtain ⟨r172_16, hr172_16, hm⟩ := bnd hm
            refine Wz (.b r172_16) (Ocf [] [] [] 0 (ok_telltalelaw19_awake  r172_16 hr172_16) (fun a w => Try.call8 a w) rfl trivial) <| Wz (.b r172_16) (OpT rfl) <| Wm (.b r172_16) rfl <| Wdr <| Tn <| Rt ?_
            obtain rfl := Option.some.inj hm
            exact ret_i []
           ·
            replace hm := cF hq171_16 hm
            refine Wz (.b false) (Oq hq171_16 rfl) <| Wn <| Wz (.b false) (OpF rfl) <| Wm (.b false) rfl <| Wdr <| Tn <| Rt ?_
            obtain rfl := Option.some.inj hm
            exact ret_i []
          ·
           replace hm := cF hq160_16 hm
           refine Wz (.b false) (Oq hq160_16 rfl) <| Wn <| Wn <| Wn <| Wn <| Wn <| Wn <| Wn <| Wn <| Wn <| Wz (.b false) (OpF rfl) <| Wm (.b false) rfl <| Wn <| Wz (.b false) (OpF rfl) ?_
           refine Wm (.b false) rfl <| Wdr <| Tn <| Rt ?_
           obtain rfl := Option.some.inj hm
           exact ret_i []
         ·
          replace hm := cF hq152_16 hm
          refine Wz (.b false) (Oq hq152_16 rfl) <| Wn <| Wn <| Wn <| Wn <| Wn <| Wn <| Wz (.b false) (OpF rfl) <| Wm (.b false) rfl <| Wn <| Wn <| Wn <| Wn <| Wn ?_
          refine Wn <| Wn <| Wn <| Wn <| Wz (.b false) (OpF rfl) <| Wm (.b false) rfl <| Wn <| Wz (.b false) (OpF rfl) <| Wm (.b false) rfl <| Wdr <| Tn <| Rt ?_
          obtain rfl := Option.some.inj hm
          exact ret_i []
        ·
         replace hm := cF hq143_16 hm
         refine Wz (.b false) (Oq hq143_16 rfl) <| Wn <| Wn <| Wn <| Wn <| Wn <| Wn <| Wn <| Wz (.b false) (OpF rfl) <| Wm (.b false) rfl <| Wn <| Wn <| Wn <| Wn ?_
         refine Wn <| Wn <| Wz (.b false) (OpF rfl) <| Wm (.b false) rfl <| Wn <| Wn <| Wn <| Wn <| Wn <| Wn <| Wn <| Wn <| Wn <| Wz (.b false) (OpF rfl) ?_
         refine Wm (.b false) rfl <| Wn <| Wz (.b false) (OpF rfl) <| Wm (.b false) rfl <| Wdr <| Tn <| Rt ?_
         obtain rfl := Option.some.inj hm
         exact ret_i []
       ·
        replace hm := cF hq136_16 hm
        refine Wz (.b false) (Oq hq136_16 rfl) <| Wn <| Wn <| Wn <| Wn <| Wn <| Wz (.b false) (OpF rfl) <| Wm (.b false) rfl <| Wn <| Wn <| Wn <| Wn <| Wn <| Wn ?_
        refine Wn <| Wz (.b false) (OpF rfl) <| Wm (.b false) rfl <| Wn <| Wn <| Wn <| Wn <| Wn <| Wn <| Wz (.b false) (OpF rfl) <| Wm (.b false) rfl <| Wn <| Wn <| Wn ?_
        refine Wn <| Wn <| Wn <| Wn <| Wn <| Wn <| Wz (.b false) (OpF rfl) <| Wm (.b false) rfl <| Wn <| Wz (.b false) (OpF rfl) <| Wm (.b false) rfl <| Wdr <| Tn <| Rt ?_
        obtain rfl := Option.some.inj hm
        exact ret_i []
      ·
       replace hm := cF hq131_16 hm
       refine Wz (.b false) (Oq hq131_16 rfl) <| Wn <| Wn <| Wn <| Wz (.b false) (OpF rfl) <| Wm (.b false) rfl <| Wn <| Wn <| Wn <| Wn <| Wn <| Wz (.b false) (OpF rfl) <| Wm (.b false) rfl <| Wn ?_
       refine Wn <| Wn <| Wn <| Wn <| Wn <| Wn <| Wz (.b false) (OpF rfl) <| Wm (.b false) rfl <| Wn <| Wn <| Wn <| Wn <| Wn <| Wn ?_
       refine Wz (.b false) (OpF rfl) <| Wm (.b false) rfl <| Wn <| Wn <| Wn <| Wn <| Wn <| Wn <| Wn <| Wn <| Wn <| Wz (.b false) (OpF rfl) <| Wm (.b false) rfl <| Wn ?_
       refine Wz (.b false) (OpF rfl) <| Wm (.b false) rfl <| Wdr <| Tn <| Rt ?_
       obtain rfl := Option.some.inj hm
       exact ret_i []
     ·
      replace hm := cF hq126_16 hm
      refine Wz (.b false) (Oq hq126_16 rfl) <| Wn <| Wn <| Wn <| Wz (.b false) (OpF rfl) <| Wm (.b false) rfl <| Wn <| Wn <| Wn <| Wz (.b false) (OpF rfl) <| Wm (.b false) rfl <| Wn <| Wn <| Wn ?_
      refine Wn <| Wn <| Wz (.b false) (OpF rfl) <| Wm (.b false) rfl <| Wn <| Wn <| Wn <| Wn <| Wn <| Wn <| Wn <| Wz (.b false) (OpF rfl) <| Wm (.b false) rfl <| Wn ?_
      refine Wn <| Wn <| Wn <| Wn <| Wn <| Wz (.b false) (OpF rfl) <| Wm (.b false) rfl <| Wn <| Wn <| Wn <| Wn <| Wn <| Wn <| Wn ?_
      refine Wn <| Wn <| Wz (.b false) (OpF rfl) <| Wm (.b false) rfl <| Wn <| Wz (.b false) (OpF rfl) <| Wm (.b false) rfl <| Wdr <| Tn <| Rt ?_
      obtain rfl := Option.some.inj hm
      exact ret_i []
    refine Sq ?_
    refine AWP.cutJ (α := Unit) (fun x => match x with | () => (⟨tp 2 (.loc 0 0::.loc 1 0::tp 1 (.l enc_GPair r37_4::.own 2::.loc 3 0::.b r45_5.2::.loc 4 0::.b r53_6.2::.own 5::.own 6::tp 97 (.b true::tp 63 []))), [(.box [(.l enc_GPair p0.a0), (.l enc_GPair p0.a1)]), (.box [(.s p1.Var), (.i p1.E.Time), (.i p1.E.Source), (.i p1.E.Seq), (.s p1.E.Type_), (.l enc_GValue p1.E.Vals)]), (Ar 45 6 enc_GPair r40_4), (.box [(.i r45_5.1.Time), (.i r45_5.1.Source), (.i r45_5.1.Seq), (.s r45_5.1.Type_), (.l enc_GValue r45_5.1.Vals)]), (.box [(.i r53_6.1.Time), (.i r53_6.1.Source), (.i r53_6.1.Seq), (.s r53_6.1.Type_), (.l enc_GValue r53_6.1.Vals)]), (Ar 45 6 enc_GPair r62_7), (Ar 45 6 enc_GPair r65_8)], 0⟩ : St)) (fun x => match x with | () => m_telltalelaw19_BindTells_j11  = some r) ?_ (fun J11 => ?_)
    ·
     rintro ⟨⟩ hm
     try dsimp only at hm ⊢
     unfold m_telltalelaw19_BindTells_j11 at hm
     refine AWP.if_ true (by kernel_rfl) <| Sx <| Wm (.b false) rfl <| Nn <| Rt <| Tr ?_
     obtain rfl := Option.some.inj hm
     exact ret_i []
    refine AWP.cutJ (α := Unit) (fun x => match x with | () => (⟨tp 2 (.loc 0 0::.loc 1 0::tp 1 (.l enc_GPair r37_4::.own 2::.loc 3 0::.b r45_5.2::.loc 4 0::.b r53_6.2::.own 5::.own 6::tp 97 (.b (decide ((W6 (r68_9.1 + r68_9.2.1)) ≠ 0))::tp 63 []))), [(.box [(.l enc_GPair p0.a0), (.l enc_GPair p0.a1)]), (.box [(.s p1.Var), (.i p1.E.Time), (.i p1.E.Source), (.i p1.E.Seq), (.s p1.E.Type_), (.l enc_GValue p1.E.Vals)]), (Ar 45 6 enc_GPair r40_4), (.box [(.i r45_5.1.Time), (.i r45_5.1.Source), (.i r45_5.1.Seq), (.s r45_5.1.Type_), (.l enc_GValue r45_5.1.Vals)]), (.box [(.i r53_6.1.Time), (.i r53_6.1.Source), (.i r53_6.1.Seq), (.s r53_6.1.Type_), (.l enc_GValue r53_6.1.Vals)]), (Ar 45 6 enc_GPair r62_7), (Ar 45 6 enc_GPair r65_8)], 0⟩ : St)) (fun x => match x with | () => m_telltalelaw19_BindTells_j12 p0 p1 r37_4 r40_4 r45_5 r53_6 r62_7 r65_8 r68_9 = some r) ?_ (fun J12 => ?_)
    ·
     rintro ⟨⟩ hm
     try dsimp only at hm ⊢
     unfold m_telltalelaw19_BindTells_j12 at hm
     rcases tf_ (decide ((W6 (r68_9.1 + r68_9.2.1)) ≠ 0)) with hc110_12 | hc110_12
     ·
      replace hm := cT hc110_12 hm
      refine AiT hc110_12 <| Sx <| Wm (.b false) rfl <| Nn <| Rt <| Tr ?_
      obtain rfl := Option.some.inj hm
      exact ret_i []
     ·
      replace hm := cF hc110_12 hm
      refine AiF hc110_12 <| Sk <| Tn ?_
      exact AWP.weak (Weak.toK 8172 0 0 [0, 1, 2, 3, 4, 5, 6]) (J14 () hm)
    refine AWP.cutJ (α := Unit) (fun x => match x with | () => (⟨tp 2 (.loc 0 0::.loc 1 0::tp 1 (.l enc_GPair r37_4::.own 2::.loc 3 0::.b r45_5.2::.loc 4 0::.b r53_6.2::.own 5::.own 6::tp 97 (.b false::tp 63 []))), [(.box [(.l enc_GPair p0.a0), (.l enc_GPair p0.a1)]), (.box [(.s p1.Var), (.i p1.E.Time), (.i p1.E.Source), (.i p1.E.Seq), (.s p1.E.Type_), (.l enc_GValue p1.E.Vals)]), (Ar 45 6 enc_GPair r40_4), (.box [(.i r45_5.1.Time), (.i r45_5.1.Source), (.i r45_5.1.Seq), (.s r45_5.1.Type_), (.l enc_GValue r45_5.1.Vals)]), (.box [(.i r53_6.1.Time), (.i r53_6.1.Source), (.i r53_6.1.Seq), (.s r53_6.1.Type_), (.l enc_GValue r53_6.1.Vals)]), (Ar 45 6 enc_GPair r62_7), (Ar 45 6 enc_GPair r65_8)], 0⟩ : St)) (fun x => match x with | () => m_telltalelaw19_BindTells_j13 p0 p1 r37_4 r40_4 r45_5 r53_6 r62_7 r65_8 = some r) ?_ (fun J13 => ?_)
    ·
     rintro ⟨⟩ hm
     try dsimp only at hm ⊢
     unfold m_telltalelaw19_BindTells_j13 at hm
     refine AWP.if_ false (by kernel_rfl) <| Sk <| Tn ?_
     exact AWP.weak (Weak.toK 8172 0 0 [0, 1, 2, 3, 4, 5, 6]) (J14 () hm)
    refine Sx <| Wm (.b r68_9.2.2) rfl <| Wm (.own 3) rfl <| Wz (.i ((List.length r37_4 : Nat) : Int)) (Oln rfl) <| Wz (.b (decide ((0 : Int) < ((List.length r37_4 : Nat) : Int)))) (Obn rfl (fun _ => hb_gtr (k := .i64))) <| Wz (.b (decide (r68_9.2.2 ≠ decide ((0 : Int) < ((List.length r37_4 : Nat) : Int))))) (Ob2 (.bool r68_9.2.2) (.bool (decide ((0 : Int) < ((List.length r37_4 : Nat) : Int)))) rfl (fun _ => hb_bneq (by kernel_rfl))) ?_
    rcases tf_ (decide (r68_9.2.2 ≠ decide ((0 : Int) < ((List.length r37_4 : Nat) : Int)))) with hq77_10 | hq77_10
    ·
     replace hm := cT hq77_10 hm
     refine Wz (.b true) (Oq hq77_10 rfl) <| Wn <| Wn <| Wn <| Wn <| Wn <| Wn <| Wn <| Wn <| Wn <| Wn <| Wn <| Wn <| Wn ?_
     refine Wn <| Wn <| Wn <| Wn <| Wn <| Wn <| Wn <| Wn <| Wn <| Wz (.b true) (OpT rfl) <| Wm (.b true) rfl <| Wn <| Wn <| Wn ?_
     refine Wn <| Wn <| Wn <| Wn <| Wn <| Wz (.b true) (OpT rfl) <| Nn <| Afz [3] ⟨tp 2 (.loc 0 0::.loc 1 0::tp 1 (.l enc_GPair r37_4::.own 4::.loc 5 0::.b r45_5.2::.loc 6 0::.b r53_6.2::.own 8::.own 9::.i r68_9.1::.i r68_9.2.1::.b r68_9.2.2::tp 56 (.b r68_9.2.2::.l enc_GPair r37_4::.i ((List.length r37_4 : Nat) : Int)::.b (decide ((0 : Int) < ((List.length r37_4 : Nat) : Int)))::.b (decide (r68_9.2.2 ≠ decide ((0 : Int) < ((List.length r37_4 : Nat) : Int))))::.b true::tu 22 (.b true::.b true::tu 8 (.b true::tp 63 []))))), [(.box [(.l enc_GPair p0.a0), (.l enc_GPair p0.a1)]), (.box [(.s p1.Var), (.i p1.E.Time), (.i p1.E.Source), (.i p1.E.Seq), (.s p1.E.Type_), (.l enc_GValue p1.E.Vals)]), .gone, (.fro 45 6 (List.length r37_4) (flatD enc_GPair r37_4)), (Ar 45 6 enc_GPair r40_4), (.box [(.i r45_5.1.Time), (.i r45_5.1.Source), (.i r45_5.1.Seq), (.s r45_5.1.Type_), (.l enc_GValue r45_5.1.Vals)]), (.box [(.i r53_6.1.Time), (.i r53_6.1.Source), (.i r53_6.1.Seq), (.s r53_6.1.Type_), (.l enc_GValue r53_6.1.Vals)]), .gone, (Ar 45 6 enc_GPair r62_7), (Ar 45 6 enc_GPair r65_8)], 0⟩ ?_
     exact AWP.weak (Weak.toK 1298074214633706907132624082313196 0 0 [0, 1, 4, 5, 6, 8, 9]) (J11 () hm)
    ·
     replace hm := cF hq77_10 hm
     refine Wz (.b false) (Oq hq77_10 rfl) <| Wm (.b r68_9.2.2) rfl ?_
     rcases tf_ r68_9.2.2 with hq79_10 | hq79_10
     ·
      replace hm := cT hq79_10 hm
      refine Wz (.b true) (Oq hq79_10 rfl) <| Wm (.i r68_9.1) rfl <| Wm (.own 3) rfl ?_
      obtain ⟨x82_10, hx82_10, hm⟩ := bnd hm
      obtain ⟨hx82_10i, hx82_10g⟩ := geti_some hx82_10
      refine Wz (.loc 3 ((Int.toNat 0) * 6)) (Oia rfl enc_GPair_len hx82_10i hx82_10g) <| Wz (.loc 3 ((Int.toNat 0) * 6 + 1)) (Ofa rfl) <| Wz (.loc 3 ((Int.toNat 0) * 6 + 1)) (Ofa rfl) <| Wz (.i x82_10.E.Time) (Lrk1 1 rfl enc_GPair_len hx82_10g) <| Wz (.b (decide (r68_9.1 ≠ x82_10.E.Time))) (Obn rfl (fun _ => hb_neq (k := .i64))) ?_
      rcases tf_ (decide (r68_9.1 ≠ x82_10.E.Time)) with hq87_10 | hq87_10
      ·
       replace hm := cT hq87_10 hm
       refine Wz (.b true) (Oq hq87_10 rfl) <| Wn <| Wn <| Wn <| Wn <| Wn <| Wn <| Wn <| Wn <| Wn <| Wn <| Wz (.b true) (OpT rfl) <| Wz (.b true) (OpT rfl) <| Wz (.b true) (OpF rfl) ?_
       refine Wm (.b true) rfl <| Wn <| Wn <| Wn <| Wn <| Wn <| Wn <| Wn <| Wn <| Wz (.b true) (OpT rfl) <| Nk 1298074214633706907132624082313196 891 ⟨tp 2 (.loc 0 0::.loc 1 0::tp 1 (.own 3::.own 4::.loc 5 0::.b r45_5.2::.loc 6 0::.b r53_6.2::.own 8::.own 9::tp 97 (.b true::tp 63 []))), [(.box [(.l enc_GPair p0.a0), (.l enc_GPair p0.a1)]), (.box [(.s p1.Var), (.i p1.E.Time), (.i p1.E.Source), (.i p1.E.Seq), (.s p1.E.Type_), (.l enc_GValue p1.E.Vals)]), .gone, (.fro 45 6 (List.length r37_4) (flatD enc_GPair r37_4)), (Ar 45 6 enc_GPair r40_4), (.box [(.i r45_5.1.Time), (.i r45_5.1.Source), (.i r45_5.1.Seq), (.s r45_5.1.Type_), (.l enc_GValue r45_5.1.Vals)]), (.box [(.i r53_6.1.Time), (.i r53_6.1.Source), (.i r53_6.1.Seq), (.s r53_6.1.Type_), (.l enc_GValue r53_6.1.Vals)]), .gone, (Ar 45 6 enc_GPair r62_7), (Ar 45 6 enc_GPair r65_8)], 0⟩ <| Afz [3] ⟨tp 2 (.loc 0 0::.loc 1 0::tp 1 (.l enc_GPair r37_4::.own 4::.loc 5 0::.b r45_5.2::.loc 6 0::.b r53_6.2::.own 8::.own 9::tp 97 (.b true::tp 63 []))), [(.box [(.l enc_GPair p0.a0), (.l enc_GPair p0.a1)]), (.box [(.s p1.Var), (.i p1.E.Time), (.i p1.E.Source), (.i p1.E.Seq), (.s p1.E.Type_), (.l enc_GValue p1.E.Vals)]), .gone, (.fro 45 6 (List.length r37_4) (flatD enc_GPair r37_4)), (Ar 45 6 enc_GPair r40_4), (.box [(.i r45_5.1.Time), (.i r45_5.1.Source), (.i r45_5.1.Seq), (.s r45_5.1.Type_), (.l enc_GValue r45_5.1.Vals)]), (.box [(.i r53_6.1.Time), (.i r53_6.1.Source), (.i r53_6.1.Seq), (.s r53_6.1.Type_), (.l enc_GValue r53_6.1.Vals)]), .gone, (Ar 45 6 enc_GPair r62_7), (Ar 45 6 enc_GPair r65_8)], 0⟩ ?_
       exact AWP.weak (Weak.toK 1298074214633706907132624082313196 0 0 [0, 1, 4, 5, 6, 8, 9]) (J11 () hm)
      ·
       replace hm := cF hq87_10 hm
       refine Wz (.b false) (Oq hq87_10 rfl) <| Wm (.i r68_9.2.1) rfl <| Wm (.own 3) rfl <| Wm (.own 3) rfl <| Wz (.i ((List.length r37_4 : Nat) : Int)) (Oln rfl) <| Wz (.i (W6 (((List.length r37_4 : Nat) : Int) - 1))) (Obn rfl (fun _ => hb_sub (k := .i64))) ?_
       obtain ⟨x93_10, hx93_10, hm⟩ := bnd hm
       obtain ⟨hx93_10i, hx93_10g⟩ := geti_some hx93_10
       refine Wz (.loc 3 ((Int.toNat (W6 (((List.length r37_4 : Nat) : Int) - 1))) * 6)) (Oia rfl enc_GPair_len hx93_10i hx93_10g) <| Wz (.loc 3 ((Int.toNat (W6 (((List.length r37_4 : Nat) : Int) - 1))) * 6 + 1)) (Ofa rfl) <| Wz (.loc 3 ((Int.toNat (W6 (((List.length r37_4 : Nat) : Int) - 1))) * 6 + 1)) (Ofa rfl) <| Wz (.i x93_10.E.Time) (Lrk1 1 rfl enc_GPair_len hx93_10g) <| Wz (.b (decide (r68_9.2.1 ≠ x93_10.E.Time))) (Obn rfl (fun _ => hb_neq (k := .i64))) <| Wz (.b (decide (r68_9.2.1 ≠ x93_10.E.Time))) (OpF rfl) <| Wz (.b (decide (r68_9.2.1 ≠ x93_10.E.Time))) (OpT rfl) <| Wz (.b (decide (r68_9.2.1 ≠ x93_10.E.Time))) (OpF rfl) ?_
       rcases tf_ (decide (r68_9.2.1 ≠ x93_10.E.Time)) with hq101_10 | hq101_10
       ·
        replace hm := cT hq101_10 hm
        refine Wz (.b true) (Oq hq101_10 rfl) <| Wn <| Wn <| Wn <| Wn <| Wn <| Wn <| Wn <| Wn <| Wz (.b true) (OpT rfl) <| Nk 1298074214633706907132624082313196 891 ⟨tp 2 (.loc 0 0::.loc 1 0::tp 1 (.own 3::.own 4::.loc 5 0::.b r45_5.2::.loc 6 0::.b r53_6.2::.own 8::.own 9::tp 97 (.b true::tp 63 []))), [(.box [(.l enc_GPair p0.a0), (.l enc_GPair p0.a1)]), (.box [(.s p1.Var), (.i p1.E.Time), (.i p1.E.Source), (.i p1.E.Seq), (.s p1.E.Type_), (.l enc_GValue p1.E.Vals)]), .gone, (.fro 45 6 (List.length r37_4) (flatD enc_GPair r37_4)), (Ar 45 6 enc_GPair r40_4), (.box [(.i r45_5.1.Time), (.i r45_5.1.Source), (.i r45_5.1.Seq), (.s r45_5.1.Type_), (.l enc_GValue r45_5.1.Vals)]), (.box [(.i r53_6.1.Time), (.i r53_6.1.Source), (.i r53_6.1.Seq), (.s r53_6.1.Type_), (.l enc_GValue r53_6.1.Vals)]), .gone, (Ar 45 6 enc_GPair r62_7), (Ar 45 6 enc_GPair r65_8)], 0⟩ <| Afz [3] ⟨tp 2 (.loc 0 0::.loc 1 0::tp 1 (.l enc_GPair r37_4::.own 4::.loc 5 0::.b r45_5.2::.loc 6 0::.b r53_6.2::.own 8::.own 9::tp 97 (.b true::tp 63 []))), [(.box [(.l enc_GPair p0.a0), (.l enc_GPair p0.a1)]), (.box [(.s p1.Var), (.i p1.E.Time), (.i p1.E.Source), (.i p1.E.Seq), (.s p1.E.Type_), (.l enc_GValue p1.E.Vals)]), .gone, (.fro 45 6 (List.length r37_4) (flatD enc_GPair r37_4)), (Ar 45 6 enc_GPair r40_4), (.box [(.i r45_5.1.Time), (.i r45_5.1.Source), (.i r45_5.1.Seq), (.s r45_5.1.Type_), (.l enc_GValue r45_5.1.Vals)]), (.box [(.i r53_6.1.Time), (.i r53_6.1.Source), (.i r53_6.1.Seq), (.s r53_6.1.Type_), (.l enc_GValue r53_6.1.Vals)]), .gone, (Ar 45 6 enc_GPair r62_7), (Ar 45 6 enc_GPair r65_8)], 0⟩ ?_
        exact AWP.weak (Weak.toK 1298074214633706907132624082313196 0 0 [0, 1, 4, 5, 6, 8, 9]) (J11 () hm)
       ·
        replace hm := cF hq101_10 hm
        refine Wz (.b false) (Oq hq101_10 rfl) <| Wm (.b r68_9.2.2) rfl <| Wz (.b (!r68_9.2.2)) (Ocs (by kernel_rfl) (op_un rfl (a1 := .bool r68_9.2.2) (by kernel_rfl) (fun _ => hu_not))) ?_
        rcases tf_ (!r68_9.2.2) with hq104_10 | hq104_10
        ·
         replace hm := cT hq104_10 hm
         refine Wz (.b true) (Oq hq104_10 rfl) <| Wm (.i r68_9.1) rfl <| Wm (.i r68_9.2.1) rfl <| Wz (.i (W6 (r68_9.1 + r68_9.2.1))) (Obn rfl (fun _ => hb_add (k := .i64))) <| Wz (.b (decide ((W6 (r68_9.1 + r68_9.2.1)) ≠ 0))) (Obn rfl (fun _ => hb_neq (k := .i64))) <| Wz (.b (decide ((W6 (r68_9.1 + r68_9.2.1)) ≠ 0))) (OpT rfl) <| Wz (.b (decide ((W6 (r68_9.1 + r68_9.2.1)) ≠ 0))) (OpF rfl) <| Nk 1298074214633706907132624082313196 891 ⟨tp 2 (.loc 0 0::.loc 1 0::tp 1 (.own 3::.own 4::.loc 5 0::.b r45_5.2::.loc 6 0::.b r53_6.2::.own 8::.own 9::tp 97 (.b (decide ((W6 (r68_9.1 + r68_9.2.1)) ≠ 0))::tp 63 []))), [(.box [(.l enc_GPair p0.a0), (.l enc_GPair p0.a1)]), (.box [(.s p1.Var), (.i p1.E.Time), (.i p1.E.Source), (.i p1.E.Seq), (.s p1.E.Type_), (.l enc_GValue p1.E.Vals)]), .gone, (.fro 45 6 (List.length r37_4) (flatD enc_GPair r37_4)), (Ar 45 6 enc_GPair r40_4), (.box [(.i r45_5.1.Time), (.i r45_5.1.Source), (.i r45_5.1.Seq), (.s r45_5.1.Type_), (.l enc_GValue r45_5.1.Vals)]), (.box [(.i r53_6.1.Time), (.i r53_6.1.Source), (.i r53_6.1.Seq), (.s r53_6.1.Type_), (.l enc_GValue r53_6.1.Vals)]), .gone, (Ar 45 6 enc_GPair r62_7), (Ar 45 6 enc_GPair r65_8)], 0⟩ <| Afz [3] ⟨tp 2 (.loc 0 0::.loc 1 0::tp 1 (.l enc_GPair r37_4::.own 4::.loc 5 0::.b r45_5.2::.loc 6 0::.b r53_6.2::.own 8::.own 9::tp 97 (.b (decide ((W6 (r68_9.1 + r68_9.2.1)) ≠ 0))::tp 63 []))), [(.box [(.l enc_GPair p0.a0), (.l enc_GPair p0.a1)]), (.box [(.s p1.Var), (.i p1.E.Time), (.i p1.E.Source), (.i p1.E.Seq), (.s p1.E.Type_), (.l enc_GValue p1.E.Vals)]), .gone, (.fro 45 6 (List.length r37_4) (flatD enc_GPair r37_4)), (Ar 45 6 enc_GPair r40_4), (.box [(.i r45_5.1.Time), (.i r45_5.1.Source), (.i r45_5.1.Seq), (.s r45_5.1.Type_), (.l enc_GValue r45_5.1.Vals)]), (.box [(.i r53_6.1.Time), (.i r53_6.1.Source), (.i r53_6.1.Seq), (.s r53_6.1.Type_), (.l enc_GValue r53_6.1.Vals)]), .gone, (Ar 45 6 enc_GPair r62_7), (Ar 45 6 enc_GPair r65_8)], 0⟩ ?_
         exact AWP.weak (Weak.toK 1298074214633706907132624082313196 0 0 [0, 1, 4, 5, 6, 8, 9]) (J12 () hm)
        ·
         replace hm := cF hq104_10 hm
         refine Wz (.b false) (Oq hq104_10 rfl) <| Wn <| Wn <| Wn <| Wn <| Wz (.b false) (OpF rfl) <| Wz (.b false) (OpF rfl) <| Nk 1298074214633706907132624082313196 891 ⟨tp 2 (.loc 0 0::.loc 1 0::tp 1 (.own 3::.own 4::.loc 5 0::.b r45_5.2::.loc 6 0::.b r53_6.2::.own 8::.own 9::tp 97 (.b false::tp 63 []))), [(.box [(.l enc_GPair p0.a0), (.l enc_GPair p0.a1)]), (.box [(.s p1.Var), (.i p1.E.Time), (.i p1.E.Source), (.i p1.E.Seq), (.s p1.E.Type_), (.l enc_GValue p1.E.Vals)]), .gone, (.fro 45 6 (List.length r37_4) (flatD enc_GPair r37_4)), (Ar 45 6 enc_GPair r40_4), (.box [(.i r45_5.1.Time), (.i r45_5.1.Source), (.i r45_5.1.Seq), (.s r45_5.1.Type_), (.l enc_GValue r45_5.1.Vals)]), (.box [(.i r53_6.1.Time), (.i r53_6.1.Source), (.i r53_6.1.Seq), (.s r53_6.1.Type_), (.l enc_GValue r53_6.1.Vals)]), .gone, (Ar 45 6 enc_GPair r62_7), (Ar 45 6 enc_GPair r65_8)], 0⟩ <| Afz [3] ⟨tp 2 (.loc 0 0::.loc 1 0::tp 1 (.l enc_GPair r37_4::.own 4::.loc 5 0::.b r45_5.2::.loc 6 0::.b r53_6.2::.own 8::.own 9::tp 97 (.b false::tp 63 []))), [(.box [(.l enc_GPair p0.a0), (.l enc_GPair p0.a1)]), (.box [(.s p1.Var), (.i p1.E.Time), (.i p1.E.Source), (.i p1.E.Seq), (.s p1.E.Type_), (.l enc_GValue p1.E.Vals)]), .gone, (.fro 45 6 (List.length r37_4) (flatD enc_GPair r37_4)), (Ar 45 6 enc_GPair r40_4), (.box [(.i r45_5.1.Time), (.i r45_5.1.Source), (.i r45_5.1.Seq), (.s r45_5.1.Type_), (.l enc_GValue r45_5.1.Vals)]), (.box [(.i r53_6.1.Time), (.i r53_6.1.Source), (.i r53_6.1.Seq), (.s r53_6.1.Type_), (.l enc_GValue r53_6.1.Vals)]), .gone, (Ar 45 6 enc_GPair r62_7), (Ar 45 6 enc_GPair r65_8)], 0⟩ ?_
         exact AWP.weak (Weak.toK 1298074214633706907132624082313196 0 0 [0, 1, 4, 5, 6, 8, 9]) (J13 () hm)
     ·
      replace hm := cF hq79_10 hm
      refine Wz (.b false) (Oq hq79_10 rfl) <| Wn <| Wn <| Wn <| Wn <| Wn <| Wn <| Wn <| Wn <| Wn <| Wn <| Wn <| Wn <| Wn ?_
      refine Wn <| Wn <| Wn <| Wn <| Wn <| Wn <| Wz (.b false) (OpF rfl) <| Wz (.b false) (OpF rfl) <| Wm (.b false) rfl <| Wm (.b r68_9.2.2) rfl <| Wz (.b (!r68_9.2.2)) (Ocs (by kernel_rfl) (op_un rfl (a1 := .bool r68_9.2.2) (by kernel_rfl) (fun _ => hu_not))) ?_
      rcases tf_ (!r68_9.2.2) with hq104_10 | hq104_10
      ·
       replace hm := cT hq104_10 hm
       refine Wz (.b true) (Oq hq104_10 rfl) <| Wm (.i r68_9.1) rfl <| Wm (.i r68_9.2.1) rfl <| Wz (.i (W6 (r68_9.1 + r68_9.2.1))) (Obn rfl (fun _ => hb_add (k := .i64))) <| Wz (.b (decide ((W6 (r68_9.1 + r68_9.2.1)) ≠ 0))) (Obn rfl (fun _ => hb_neq (k := .i64))) <| Wz (.b (decide ((W6 (r68_9.1 + r68_9.2.1)) ≠ 0))) (OpT rfl) <| Wz (.b (decide ((W6 (r68_9.1 + r68_9.2.1)) ≠ 0))) (OpF rfl) <| Nn <| Afz [3] ⟨tp 2 (.loc 0 0::.loc 1 0::tp 1 (.l enc_GPair r37_4::.own 4::.loc 5 0::.b r45_5.2::.loc 6 0::.b r53_6.2::.own 8::.own 9::.i r68_9.1::.i r68_9.2.1::.b r68_9.2.2::tp 56 (.b r68_9.2.2::.l enc_GPair r37_4::.i ((List.length r37_4 : Nat) : Int)::.b (decide ((0 : Int) < ((List.length r37_4 : Nat) : Int)))::.b (decide (r68_9.2.2 ≠ decide ((0 : Int) < ((List.length r37_4 : Nat) : Int))))::.b false::.b r68_9.2.2::.b false::tu 19 (.b false::.b false::.b false::.b r68_9.2.2::.b (!r68_9.2.2)::.b true::.i r68_9.1::.i r68_9.2.1::.i (W6 (r68_9.1 + r68_9.2.1))::.b (decide ((W6 (r68_9.1 + r68_9.2.1)) ≠ 0))::.b (decide ((W6 (r68_9.1 + r68_9.2.1)) ≠ 0))::.b (decide ((W6 (r68_9.1 + r68_9.2.1)) ≠ 0))::tp 63 [])))), [(.box [(.l enc_GPair p0.a0), (.l enc_GPair p0.a1)]), (.box [(.s p1.Var), (.i p1.E.Time), (.i p1.E.Source), (.i p1.E.Seq), (.s p1.E.Type_), (.l enc_GValue p1.E.Vals)]), .gone, (.fro 45 6 (List.length r37_4) (flatD enc_GPair r37_4)), (Ar 45 6 enc_GPair r40_4), (.box [(.i r45_5.1.Time), (.i r45_5.1.Source), (.i r45_5.1.Seq), (.s r45_5.1.Type_), (.l enc_GValue r45_5.1.Vals)]), (.box [(.i r53_6.1.Time), (.i r53_6.1.Source), (.i r53_6.1.Seq), (.s r53_6.1.Type_), (.l enc_GValue r53_6.1.Vals)]), .gone, (Ar 45 6 enc_GPair r62_7), (Ar 45 6 enc_GPair r65_8)], 0⟩ ?_
       exact AWP.weak (Weak.toK 1298074214633706907132624082313196 0 0 [0, 1, 4, 5, 6, 8, 9]) (J12 () hm)
      ·
       replace hm := cF hq104_10 hm
       refine Wz (.b false) (Oq hq104_10 rfl) <| Wn <| Wn <| Wn <| Wn <| Wz (.b false) (OpF rfl) <| Wz (.b false) (OpF rfl) <| Nn <| Afz [3] ⟨tp 2 (.loc 0 0::.loc 1 0::tp 1 (.l enc_GPair r37_4::.own 4::.loc 5 0::.b r45_5.2::.loc 6 0::.b r53_6.2::.own 8::.own 9::.i r68_9.1::.i r68_9.2.1::.b r68_9.2.2::tp 56 (.b r68_9.2.2::.l enc_GPair r37_4::.i ((List.length r37_4 : Nat) : Int)::.b (decide ((0 : Int) < ((List.length r37_4 : Nat) : Int)))::.b (decide (r68_9.2.2 ≠ decide ((0 : Int) < ((List.length r37_4 : Nat) : Int))))::.b false::.b r68_9.2.2::.b false::tu 19 (.b false::.b false::.b false::.b r68_9.2.2::.b (!r68_9.2.2)::.b false::tu 4 (.b false::.b false::tp 63 []))))), [(.box [(.l enc_GPair p0.a0), (.l enc_GPair p0.a1)]), (.box [(.s p1.Var), (.i p1.E.Time), (.i p1.E.Source), (.i p1.E.Seq), (.s p1.E.Type_), (.l enc_GValue p1.E.Vals)]), .gone, (.fro 45 6 (List.length r37_4) (flatD enc_GPair r37_4)), (Ar 45 6 enc_GPair r40_4), (.box [(.i r45_5.1.Time), (.i r45_5.1.Source), (.i r45_5.1.Seq), (.s r45_5.1.Type_), (.l enc_GValue r45_5.1.Vals)]), (.box [(.i r53_6.1.Time), (.i r53_6.1.Source), (.i r53_6.1.Seq), (.s r53_6.1.Type_), (.l enc_GValue r53_6.1.Vals)]), .gone, (Ar 45 6 enc_GPair r62_7), (Ar 45 6 enc_GPair r65_8)], 0⟩ ?_
       exact AWP.weak (Weak.toK 1298074214633706907132624082313196 0 0 [0, 1, 4, 5, 6, 8, 9]) (J13 () hm)
end Go.Proofs.Ytkagljfmfjaleaa.K
