/- what telltalelaw19.BindMatches needs (1) -/
import Derived.Test.YtkagljfmfjaleaaA0
namespace Go.Proofs.Ytkagljfmfjaleaa.K
open Go.RowKit Go.Lib
set_option linter.unusedVariables false
set_option linter.unusedSimpArgs false
set_option maxRecDepth 20000
set_option maxHeartbeats 4000000

theorem ok_telltaleref19_Put (p0 : (List GMatch)) (p1 : GMatch) (r : ((List GMatch) × Bool)) (h : m_telltaleref19_Put p0 p1 = some r) : GCall Try.prog 31 [(.l enc_GMatch p0), (.agg [(.i p1.Pattern), (.s p1.Key), (.l enc_GPair p1.Bound)])] [] (.tup [(.l enc_GMatch r.1), (.b r.2)]) [] := by
 refine GCall.of_body (n := 51) (rs := [(.tmp 4), (.tmp 5)]) Try.func31 rfl rfl rfl <| Ato ⟨.l enc_GMatch p0::.agg [(.i p1.Pattern), (.s p1.Key), (.l enc_GPair p1.Bound)]::tu 49 [], [], 0⟩ ?_
 have hm := h
 unfold m_telltaleref19_Put at hm
 refine Sx <| Wy (.loc 0 0) [(0, (.box [(.i p1.Pattern), (.s p1.Key), (.l enc_GPair p1.Bound)]))] (Obx rfl) <| Wm (.d .nil) rfl <| Wm (.b false) rfl <| Nk 9 1 ⟨.l enc_GMatch p0::tp 2 (.loc 0 0::tp 47 []), [(.box [(.i p1.Pattern), (.s p1.Key), (.l enc_GPair p1.Bound)])], 0⟩ <| Sq <| Sx <| Wm (.i 0) rfl <| Nk 73 1 ⟨.l enc_GMatch p0::tp 2 (.loc 0 0::tp 2 (.i 0::tp 44 [])), [(.box [(.i p1.Pattern), (.s p1.Key), (.l enc_GPair p1.Bound)])], 0⟩ <| Bk ?_
 refine AWP.loopI (α := Nat × Int)
   (fun (fu_0, y6_0) => (⟨.l enc_GMatch p0::tp 2 (.loc 0 0::tp 2 (.i y6_0::tp 44 [])), [(.box [(.i p1.Pattern), (.s p1.Key), (.l enc_GPair p1.Bound)])], 0⟩ : St))
   (fun (fu_0, y6_0) => m_telltaleref19_Put_l0 p0 p1 fu_0 y6_0 = some r)
   (fun (fu_0, y6_0) => fu_0) (1152921504606846976, 0)
   (Weak.toK 73 0 0 [0]) hm ?_
 rintro ⟨fu_0, y6_0⟩ n_0 hm ih_0
 try dsimp only at hm ih_0 ⊢
 cases fu_0 with
 | zero => exact absurd hm (by unfold m_telltaleref19_Put_l0; simp)
 | succ fu_0 =>
  unfold m_telltaleref19_Put_l0 at hm
  refine Sq <| Sx <| Wm (.i y6_0) rfl <| Wm (.l enc_GMatch p0) rfl <| Wz (.i ((List.length p0 : Nat) : Int)) (Oln rfl) <| Wz (.b (decide (y6_0 < ((List.length p0 : Nat) : Int)))) (Obn rfl (fun _ => hb_lss (k := .i64))) <| Nk 4169 1 ⟨.l enc_GMatch p0::tp 2 (.loc 0 0::tp 2 (.i y6_0::tp 5 (.b (decide (y6_0 < ((List.length p0 : Nat) : Int)))::tp 38 []))), [(.box [(.i p1.Pattern), (.s p1.Key), (.l enc_GPair p1.Bound)])], 0⟩ ?_
  rcases tf_ (decide (y6_0 < ((List.length p0 : Nat) : Int))) with hc12_8 | hc12_8
  ·
   replace hm := cT hc12_8 hm
   refine AiT hc12_8 <| Sk <| Tk 73 1 ⟨.l enc_GMatch p0::tp 2 (.loc 0 0::tp 2 (.i y6_0::tp 44 [])), [(.box [(.i p1.Pattern), (.s p1.Key), (.l enc_GPair p1.Bound)])], 0⟩ <| Sq <| Bk <| Sq <| Adr <| Wm (.l enc_GMatch p0) rfl <| Wm (.i y6_0) rfl ?_
   obtain ⟨x17_2, hx17_2, hm⟩ := bnd hm
   obtain ⟨hx17_2i, hx17_2g⟩ := geti_some hx17_2
   refine Wz (.d (.ref (List.drop ((Int.toNat y6_0) * 3) (flatD enc_GMatch p0)))) (Oia rfl enc_GMatch_len hx17_2i hx17_2g) <| Wz (.agg [(.i x17_2.Pattern), (.s x17_2.Key), (.l enc_GPair x17_2.Bound)]) (Lf rfl enc_GMatch_len hx17_2g) <| Wz (.agg [(.i p1.Pattern), (.s p1.Key), (.l enc_GPair p1.Bound)]) (Old rfl) ?_
   obtain ⟨r20_2, hr20_2, hm⟩ := bnd hm
   refine Wz (.i r20_2) (Ocf [] [] [] 0 (ok_telltaleref19_Before x17_2 p1 r20_2 hr20_2) (fun a w => Try.call27 a w) rfl trivial) <| Wz (.b (decide (r20_2 = 0))) (Obn rfl (fun _ => hb_eql (k := .i64))) <| Wdr <| Tk 2097225 1 ⟨.l enc_GMatch p0::tp 2 (.loc 0 0::tp 2 (.i y6_0::tp 14 (.b (decide (r20_2 = 0))::tp 29 []))), [(.box [(.i p1.Pattern), (.s p1.Key), (.l enc_GPair p1.Bound)])], 0⟩ ?_
   rcases tf_ (decide (r20_2 = 0)) with hc21_9 | hc21_9
   ·
    replace hm := cT hc21_9 hm
    refine AiT hc21_9 <| Sx <| Wm (.l enc_GMatch p0) rfl <| Wm (.l enc_GMatch p0) rfl <| Wm (.b false) rfl <| Nn <| Rt <| Ir <| Tr <| RoundK.ret <| Ir <| Tr ?_
    obtain rfl := Option.some.inj hm
    exact ret_i []
   ·
    replace hm := cF hc21_9 hm
    refine AiF hc21_9 <| Sk <| Ino <| Tk 73 1 ⟨.l enc_GMatch p0::tp 2 (.loc 0 0::tp 2 (.i y6_0::tp 44 [])), [(.box [(.i p1.Pattern), (.s p1.Key), (.l enc_GPair p1.Bound)])], 0⟩ <| Tx <| Wm (.i y6_0) rfl <| Wz (.i (W6 (y6_0 + 1))) (Obn rfl (fun _ => hb_add (k := .i64))) <| Wm (.i (W6 (y6_0 + 1))) rfl <| Wn0 <| RoundK.normal ?_
    exact Rounds.weak (Weak.toK 73 0 0 [0]) (ih_0 (fu_0, (W6 (y6_0 + 1))) hm (Nat.lt_succ_self _))
  ·
   replace hm := cF hc12_8 hm
   refine AiF hc12_8 <| AWP.exit <| Then.exit <| RoundK.exit <| InBlock.same <| Tk 9 1 ⟨.l enc_GMatch p0::tp 2 (.loc 0 0::tp 47 []), [(.box [(.i p1.Pattern), (.s p1.Key), (.l enc_GPair p1.Bound)])], 0⟩ <| Sx <| Wm (.i 0) rfl <| Nk 137 1 ⟨.l enc_GMatch p0::tp 2 (.loc 0 0::tp 3 (.i 0::tp 43 [])), [(.box [(.i p1.Pattern), (.s p1.Key), (.l enc_GPair p1.Bound)])], 0⟩ ?_
   refine AWP.cutJ (α := Int) (fun x => match x with | y7_5 => (⟨.l enc_GMatch p0::tp 2 (.loc 0 0::tp 3 (.i y7_5::tp 43 [])), [(.box [(.i p1.Pattern), (.s p1.Key), (.l enc_GPair p1.Bound)])], 0⟩ : St)) (fun x => match x with | y7_5 => m_telltaleref19_Put_j5 p0 p1 y7_5 = some r) ?_ (fun J5 => ?_)
   ·
    rintro y7_5 hm
    try dsimp only at hm ⊢
    unfold m_telltaleref19_Put_j5 at hm
    refine Sq <| Adr <| Wy (.own 1) [(1, (Ar 48 3 enc_GMatch ([] : List GMatch)))] (Obs rfl) <| Wm (.l enc_GMatch p0) rfl <| Wm (.i y7_5) rfl ?_
    obtain ⟨s41_6, hs41_6, hm⟩ := bnd hm; obtain ⟨hs41_6a, hs41_6b, hs41_6c, hs41_6d, hs41_6e⟩ := cut_some hs41_6
    refine Wz (.l enc_GMatch s41_6) (op_cut rfl (e := 48) (sz := 3) (by kernel_rfl) (l := p0) (enc := enc_GMatch) (by kernel_rfl) enc_GMatch_len (a := (Int.toNat 0)) (b := (Int.toNat y7_5)) (by exact rfl) (⟨.i64, y7_5, by kernel_rfl, hs41_6b⟩) hs41_6c hs41_6d hs41_6e) ?_
    obtain ⟨a42_6, ha42_6, hm⟩ := bnd hm; obtain ⟨ha42_6e, ha42_6l⟩ := app_some ha42_6
    refine Wy (.own 2) [(1, .gone), (2, (Ar 48 3 enc_GMatch a42_6))] (Oap rfl elemOK_58 enc_GMatch_len ha42_6e ha42_6l) <| Wz (.agg [(.i p1.Pattern), (.s p1.Key), (.l enc_GPair p1.Bound)]) (Old rfl) <| Wy (.own 3) [(3, (Ar 48 3 enc_GMatch ([p1] : List GMatch)))] (Obs rfl) ?_
    obtain ⟨a45_6, ha45_6, hm⟩ := bnd hm; obtain ⟨ha45_6e, ha45_6l⟩ := app_some ha45_6
    refine Wy (.own 4) [(2, .gone), (4, (Ar 48 3 enc_GMatch a45_6))] (Oap rfl elemOK_58 enc_GMatch_len ha45_6e ha45_6l) <| Wm (.own 4) rfl <| Wdr <| Tk 385 16 ⟨.l enc_GMatch p0::tp 6 (.i y7_5::.own 4::tp 42 []), [.gone, .gone, .gone, .gone, (Ar 48 3 enc_GMatch a45_6)], 0⟩ <| Sx <| Wm (.own 4) rfl <| Wm (.l enc_GMatch p0) rfl <| Wm (.i y7_5) rfl ?_
    obtain ⟨s49_7, hs49_7, hm⟩ := bnd hm; obtain ⟨hs49_7a, hs49_7b, hs49_7c, hs49_7d, hs49_7e⟩ := cut_some hs49_7
    refine Wz (.l enc_GMatch s49_7) (op_cut rfl (e := 48) (sz := 3) (by kernel_rfl) (l := p0) (enc := enc_GMatch) (by kernel_rfl) enc_GMatch_len (a := (Int.toNat y7_5)) (b := (Int.toNat ((List.length p0 : Nat) : Int))) (⟨.i64, y7_5, by kernel_rfl, hs49_7a⟩) (by exact rfl) hs49_7c hs49_7d hs49_7e) ?_
    obtain ⟨a50_7, ha50_7, hm⟩ := bnd hm; obtain ⟨ha50_7e, ha50_7l⟩ := app_some ha50_7
    refine Wy (.own 5) [(4, .gone), (5, (Ar 48 3 enc_GMatch a50_7))] (Oap rfl elemOK_58 enc_GMatch_len ha50_7e ha50_7l) <| Wm (.own 5) rfl <| Wm (.b true) rfl <| Nn <| Afz [5] ⟨.l enc_GMatch p0::tp 3 (.l enc_GMatch a50_7::.b true::tp 1 (.i y7_5::.own 4::tp 37 (.own 4::.l enc_GMatch p0::.i y7_5::.l enc_GMatch s49_7::.l enc_GMatch a50_7::[]))), [.gone, .gone, .gone, .gone, .gone, (.fro 48 3 (List.length a50_7) (flatD enc_GMatch a50_7))], 0⟩ <| Rt ?_
    obtain rfl := Option.some.inj hm
    exact ret_i []
   refine Sq <| Bk ?_
   refine AWP.loopI (α := Nat × Int)
     (fun (fu_3, y7_3) => (⟨.l enc_GMatch p0::tp 2 (.loc 0 0::tp 3 (.i y7_3::tp 43 [])), [(.box [(.i p1.Pattern), (.s p1.Key), (.l enc_GPair p1.Bound)])], 0⟩ : St))
     (fun (fu_3, y7_3) => m_telltaleref19_Put_l3 p0 p1 fu_3 y7_3 = some r)
     (fun (fu_3, y7_3) => fu_3) (1152921504606846976, 0)
     (Weak.toK 137 0 0 [0]) hm ?_
   rintro ⟨fu_3, y7_3⟩ n_3 hm ih_3
   try dsimp only at hm ih_3 ⊢
   cases fu_3 with
   | zero => exact absurd hm (by unfold m_telltaleref19_Put_l3; simp)
   | succ fu_3 =>
    unfold m_telltaleref19_Put_l3 at hm
    refine Sq <| Sq <| Adr <| Wm (.i y7_3) rfl <| Wm (.l enc_GMatch p0) rfl <| Wz (.i ((List.length p0 : Nat) : Int)) (Oln rfl) <| Wz (.b (decide (y7_3 < ((List.length p0 : Nat) : Int)))) (Obn rfl (fun _ => hb_lss (k := .i64))) ?_
    rcases tf_ (decide (y7_3 < ((List.length p0 : Nat) : Int))) with hq27_4 | hq27_4
    ·
     replace hm := cT hq27_4 hm
     refine Wz (.b true) (Oq hq27_4 rfl) <| Wm (.l enc_GMatch p0) rfl <| Wm (.i y7_3) rfl ?_
     obtain ⟨x30_4, hx30_4, hm⟩ := bnd hm
     obtain ⟨hx30_4i, hx30_4g⟩ := geti_some hx30_4
     refine Wz (.d (.ref (List.drop ((Int.toNat y7_3) * 3) (flatD enc_GMatch p0)))) (Oia rfl enc_GMatch_len hx30_4i hx30_4g) <| Wz (.agg [(.i x30_4.Pattern), (.s x30_4.Key), (.l enc_GPair x30_4.Bound)]) (Lf rfl enc_GMatch_len hx30_4g) <| Wz (.agg [(.i p1.Pattern), (.s p1.Key), (.l enc_GPair p1.Bound)]) (Old rfl) ?_
     obtain ⟨r33_4, hr33_4, hm⟩ := bnd hm
     refine Wz (.i r33_4) (Ocf [] [] [] 0 (ok_telltaleref19_Before x30_4 p1 r33_4 hr33_4) (fun a w => Try.call27 a w) rfl trivial) <| Wz (.b (decide (r33_4 < 0))) (Obn rfl (fun _ => hb_lss (k := .i64))) <| Wz (.b (decide (r33_4 < 0))) (OpT rfl) <| Wdr <| Tk 34359738505 1 ⟨.l enc_GMatch p0::tp 2 (.loc 0 0::tp 3 (.i y7_3::tp 27 (.b (decide (r33_4 < 0))::tp 15 []))), [(.box [(.i p1.Pattern), (.s p1.Key), (.l enc_GPair p1.Bound)])], 0⟩ ?_
     rcases tf_ (decide (r33_4 < 0)) with hc35_10 | hc35_10
     ·
      replace hm := cT hc35_10 hm
      refine AiT hc35_10 <| Sk <| Tk 137 1 ⟨.l enc_GMatch p0::tp 2 (.loc 0 0::tp 3 (.i y7_3::tp 43 [])), [(.box [(.i p1.Pattern), (.s p1.Key), (.l enc_GPair p1.Bound)])], 0⟩ <| Bk <| Tx <| Wm (.i y7_3) rfl <| Wz (.i (W6 (y7_3 + 1))) (Obn rfl (fun _ => hb_add (k := .i64))) <| Wm (.i (W6 (y7_3 + 1))) rfl <| Wn0 <| Ino <| RoundK.normal ?_
      exact Rounds.weak (Weak.toK 137 0 0 [0]) (ih_3 (fu_3, (W6 (y7_3 + 1))) hm (Nat.lt_succ_self _))
     ·
      replace hm := cF hc35_10 hm
      refine AiF hc35_10 <| AWP.exit <| Then.exit <| RoundK.exit <| InBlock.same <| Tn ?_
      exact AWP.weak (Weak.toK 137 0 0 [0]) (J5 (y7_3) hm)
    ·
     replace hm := cF hq27_4 hm
     refine Wz (.b false) (Oq hq27_4 rfl) <| Wn <| Wn <| Wn <| Wn <| Wn <| Wn <| Wn <| Wz (.b false) (OpF rfl) <| Wdr <| Tk 34359738505 1 ⟨.l enc_GMatch p0::tp 2 (.loc 0 0::tp 3 (.i y7_3::tp 27 (.b false::tp 15 []))), [(.box [(.i p1.Pattern), (.s p1.Key), (.l enc_GPair p1.Bound)])], 0⟩ <| AWP.if_ false (by kernel_rfl) <| AWP.exit <| Then.exit ?_
     refine RoundK.exit <| InBlock.same <| Tn ?_
     exact AWP.weak (Weak.toK 137 0 0 [0]) (J5 (y7_3) hm)

theorem ok_telltalelaw19_Back (p0 : GMatch) (r : GMatch) (h : m_telltalelaw19_Back p0 = some r) : GCall Try.prog 58 [(.agg [(.i p0.Pattern), (.s p0.Key), (.l enc_GPair p0.Bound)])] [] (.agg [(.i r.Pattern), (.s r.Key), (.own 0)]) [(Ar 28 6 enc_GPair r.Bound)] := by
 refine GCall.of_body (n := 11) (rs := [(.cell 2 48)]) Try.func58 rfl rfl rfl <| Ato ⟨.agg [(.i p0.Pattern), (.s p0.Key), (.l enc_GPair p0.Bound)]::tu 10 [], [], 0⟩ ?_
 have hm := h
 unfold m_telltalelaw19_Back at hm
 refine Sx <| Wy (.loc 0 0) [(0, (.box [(.i p0.Pattern), (.s p0.Key), (.l enc_GPair p0.Bound)]))] (Obx rfl) <| Wy (.loc 1 0) [(1, (.box [(.i 0), (.s ([] : List UInt8)), (.d .nil)]))] (Oal rfl) <| Nk 6 3 ⟨tp 1 (.loc 0 0::.loc 1 0::tp 8 []), [(.box [(.i p0.Pattern), (.s p0.Key), (.l enc_GPair p0.Bound)]), (.box [(.i 0), (.s ([] : List UInt8)), (.d .nil)])], 0⟩ <| Sq <| Adr <| Wz (.loc 0 0) (Ofa rfl) <| Wz (.i p0.Pattern) (Old rfl) <| Wz (.loc 0 1) (Ofa rfl) <| Wz (.s p0.Key) (Old rfl) <| Wz (.loc 0 2) (Ofa rfl) <| Wz (.l enc_GPair p0.Bound) (Old rfl) ?_
 obtain ⟨r9_0, hr9_0, hm⟩ := bnd hm
 refine Wy (.own 2) [(2, (Ar 28 6 enc_GPair r9_0))] (Ocf [] [2] [] 0 (ok_telltalelaw19_BackPairs p0.Bound r9_0 hr9_0) (fun a w => Try.call15 a w) rfl trivial) <| Wz (.agg [(.i p0.Pattern), (.s p0.Key), (.own 2)]) (Obd rfl) <| Wy (.tup []) [(1, (.box [(.i p0.Pattern), (.s p0.Key), (.own 2)]))] (Ost rfl) <| Wdr <| Tn <| Rt ?_
 obtain rfl := Option.some.inj hm
 exact ret_i [2]

theorem ok_telltalelaw19_BackAll (p0 : (List GMatch)) (r : (List GMatch)) (h : m_telltalelaw19_BackAll p0 = some r) : GCall Try.prog 35 [(.l enc_GMatch p0)] [] (.own 0) [(Ar 48 3 enc_GMatch r)] := by
 refine GCall.of_body (n := 20) (rs := [(.tmp 2)]) Try.func35 rfl rfl rfl <| Ato ⟨.l enc_GMatch p0::tu 19 [], [], 0⟩ ?_
 have hm := h
 unfold m_telltalelaw19_BackAll at hm
 refine Sx <| Wm (.d .nil) rfl <| Nk 1 0 ⟨.l enc_GMatch p0::tp 19 [], [], 0⟩ <| Sx <| Wm (.d .nil) rfl <| Nk 9 0 ⟨.l enc_GMatch p0::tp 2 (.d .nil::tp 16 []), [], 0⟩ <| Sq <| Sx <| Wm (.i 0) rfl <| Nk 25 0 ⟨.l enc_GMatch p0::tp 2 (.d .nil::.i 0::tp 15 []), [], 0⟩ <| Bk <| Aow 3 48 3 ⟨.l enc_GMatch p0::tp 2 (.own 0::.i 0::tp 15 []), [(Ar 48 3 enc_GMatch ([] : List GMatch))], 0⟩ ?_
 refine AWP.loopI (α := Nat × (List GMatch) × Int)
   (fun (fu_0, y3_0, y4_0) => (⟨.l enc_GMatch p0::tp 2 (.own 0::.i y4_0::tp 15 []), [(Ar 48 3 enc_GMatch y3_0)], 0⟩ : St))
   (fun (fu_0, y3_0, y4_0) => m_telltalelaw19_BackAll_l0 p0 fu_0 y3_0 y4_0 = some r)
   (fun (fu_0, y3_0, y4_0) => fu_0) (1152921504606846976, ([] : List GMatch), 0)
   (Weak.toK 25 0 0 [0]) hm ?_
 rintro ⟨fu_0, y3_0, y4_0⟩ n_0 hm ih_0
 try dsimp only at hm ih_0 ⊢
 cases fu_0 with
 | zero => exact absurd hm (by unfold m_telltalelaw19_BackAll_l0; simp)
 | succ fu_0 =>
  unfold m_telltalelaw19_BackAll_l0 at hm
  refine Sq <| Sx <| Wm (.i y4_0) rfl <| Wm (.l enc_GMatch p0) rfl <| Wz (.i ((List.length p0 : Nat) : Int)) (Oln rfl) <| Wz (.b (decide (y4_0 < ((List.length p0 : Nat) : Int)))) (Obn rfl (fun _ => hb_lss (k := .i64))) <| Nk 281 1 ⟨.l enc_GMatch p0::tp 2 (.own 0::.i y4_0::tp 3 (.b (decide (y4_0 < ((List.length p0 : Nat) : Int)))::tp 11 [])), [(Ar 48 3 enc_GMatch y3_0)], 0⟩ ?_
  rcases tf_ (decide (y4_0 < ((List.length p0 : Nat) : Int))) with hc8_3 | hc8_3
  ·
   replace hm := cT hc8_3 hm
   refine AiT hc8_3 <| Sk <| Tk 25 1 ⟨.l enc_GMatch p0::tp 2 (.own 0::.i y4_0::tp 15 []), [(Ar 48 3 enc_GMatch y3_0)], 0⟩ <| Sq <| Bk <| Tx <| Wm (.own 0) rfl <| Wm (.l enc_GMatch p0) rfl <| Wm (.i y4_0) rfl ?_
   obtain ⟨x14_2, hx14_2, hm⟩ := bnd hm
   obtain ⟨hx14_2i, hx14_2g⟩ := geti_some hx14_2
   refine Wz (.d (.ref (List.drop ((Int.toNat y4_0) * 3) (flatD enc_GMatch p0)))) (Oia rfl enc_GMatch_len hx14_2i hx14_2g) <| Wz (.agg [(.i x14_2.Pattern), (.s x14_2.Key), (.l enc_GPair x14_2.Bound)]) (Lf rfl enc_GMatch_len hx14_2g) ?_
   obtain ⟨r16_2, hr16_2, hm⟩ := bnd hm
   refine Wy (.agg [(.i r16_2.Pattern), (.s r16_2.Key), (.l enc_GPair r16_2.Bound)]) [(1, (Ar 28 6 enc_GPair r16_2.Bound)), (1, (.fro 28 6 (List.length r16_2.Bound) (flatD enc_GPair r16_2.Bound)))] (Ofz [1] (.agg [(.i r16_2.Pattern), (.s r16_2.Key), (.own 1)]) [(1, (Ar 28 6 enc_GPair r16_2.Bound))] (Ocf [] [1] [] 0 (ok_telltalelaw19_Back x14_2 r16_2 hr16_2) (fun a w => Try.call58 a w) rfl trivial)) <| Wy (.own 2) [(2, (Ar 48 3 enc_GMatch ([r16_2] : List GMatch)))] (Obs rfl) ?_
   obtain ⟨a18_2, ha18_2, hm⟩ := bnd hm; obtain ⟨ha18_2e, ha18_2l⟩ := app_some ha18_2
   refine Wy (.own 3) [(0, .gone), (3, (Ar 48 3 enc_GMatch a18_2))] (Oap rfl elemOK_58 enc_GMatch_len ha18_2e ha18_2l) <| Wm (.own 3) rfl <| Wn0 <| Ino <| Tk 25 8 ⟨.l enc_GMatch p0::tp 2 (.own 3::.i y4_0::tp 15 []), [.gone, .gone, .gone, (Ar 48 3 enc_GMatch a18_2)], 0⟩ <| Tx <| Wm (.i y4_0) rfl <| Wz (.i (W6 (y4_0 + 1))) (Obn rfl (fun _ => hb_add (k := .i64))) <| Wm (.i (W6 (y4_0 + 1))) rfl <| Wn0 <| RoundK.normal ?_
   exact Rounds.weak (Weak.toK 25 0 0 [3]) (ih_0 (fu_0, a18_2, (W6 (y4_0 + 1))) hm (Nat.lt_succ_self _))
  ·
   replace hm := cF hc8_3 hm
   refine AiF hc8_3 <| AWP.exit <| Then.exit <| RoundK.exit <| InBlock.same <| Tk 8 1 ⟨tp 3 (.own 0::tp 16 []), [(Ar 48 3 enc_GMatch y3_0)], 0⟩ <| Sx <| Wm (.own 0) rfl <| Wm (.own 0) rfl <| Nn <| Rt ?_
   obtain rfl := Option.some.inj hm
   exact ret_i [0]

theorem ok_telltaleref19_SameAll (p0 : (List GMatch)) (p1 : (List GMatch)) (r : Bool) (h : m_telltaleref19_SameAll p0 p1 = some r) : GCall Try.prog 34 [(.l enc_GMatch p0), (.l enc_GMatch p1)] [] (.b r) [] := by
 refine GCall.of_body (n := 27) (rs := [(.tmp 4)]) Try.func34 rfl rfl rfl <| Ato ⟨.l enc_GMatch p0::.l enc_GMatch p1::tu 25 [], [], 0⟩ ?_
 have hm := h
 unfold m_telltaleref19_SameAll at hm
 refine Sx <| Wm (.b false) rfl <| Nk 3 0 ⟨.l enc_GMatch p0::.l enc_GMatch p1::tp 25 [], [], 0⟩ <| Sq <| Sx <| Wm (.l enc_GMatch p0) rfl <| Wz (.i ((List.length p0 : Nat) : Int)) (Oln rfl) <| Wm (.l enc_GMatch p1) rfl <| Wz (.i ((List.length p1 : Nat) : Int)) (Oln rfl) <| Wz (.b (decide (((List.length p0 : Nat) : Int) ≠ ((List.length p1 : Nat) : Int)))) (Obn rfl (fun _ => hb_neq (k := .i64))) <| Nk 1027 0 ⟨.l enc_GMatch p0::.l enc_GMatch p1::tp 8 (.b (decide (((List.length p0 : Nat) : Int) ≠ ((List.length p1 : Nat) : Int)))::tp 16 []), [], 0⟩ ?_
 rcases tf_ (decide (((List.length p0 : Nat) : Int) ≠ ((List.length p1 : Nat) : Int))) with hc10_4 | hc10_4
 ·
  replace hm := cT hc10_4 hm
  refine AiT hc10_4 <| Sx <| Wm (.b false) rfl <| Nn <| Rt <| Tr ?_
  obtain rfl := Option.some.inj hm
  exact ret_i []
 ·
  replace hm := cF hc10_4 hm
  refine AiF hc10_4 <| Sk <| Tk 3 0 ⟨.l enc_GMatch p0::.l enc_GMatch p1::tp 25 [], [], 0⟩ <| Sq <| Sx <| Wm (.i 0) rfl <| Nk 35 0 ⟨.l enc_GMatch p0::.l enc_GMatch p1::tp 3 (.i 0::tp 21 []), [], 0⟩ <| Bk ?_
  refine AWP.loopI (α := Nat × Int)
    (fun (fu_1, y5_1) => (⟨.l enc_GMatch p0::.l enc_GMatch p1::tp 3 (.i y5_1::tp 21 []), [], 0⟩ : St))
    (fun (fu_1, y5_1) => m_telltaleref19_SameAll_l1 p0 p1 fu_1 y5_1 = some r)
    (fun (fu_1, y5_1) => fu_1) (1152921504606846976, 0)
    (Weak.toK 35 0 0 []) hm ?_
  rintro ⟨fu_1, y5_1⟩ n_1 hm ih_1
  try dsimp only at hm ih_1 ⊢
  cases fu_1 with
  | zero => exact absurd hm (by unfold m_telltaleref19_SameAll_l1; simp)
  | succ fu_1 =>
   unfold m_telltaleref19_SameAll_l1 at hm
   refine Sq <| Sx <| Wm (.i y5_1) rfl <| Wm (.l enc_GMatch p0) rfl <| Wz (.i ((List.length p0 : Nat) : Int)) (Oln rfl) <| Wz (.b (decide (y5_1 < ((List.length p0 : Nat) : Int)))) (Obn rfl (fun _ => hb_lss (k := .i64))) <| Nk 16419 0 ⟨.l enc_GMatch p0::.l enc_GMatch p1::tp 3 (.i y5_1::tp 8 (.b (decide (y5_1 < ((List.length p0 : Nat) : Int)))::tp 12 [])), [], 0⟩ ?_
   rcases tf_ (decide (y5_1 < ((List.length p0 : Nat) : Int))) with hc14_5 | hc14_5
   ·
    replace hm := cT hc14_5 hm
    refine AiT hc14_5 <| Sk <| Tk 35 0 ⟨.l enc_GMatch p0::.l enc_GMatch p1::tp 3 (.i y5_1::tp 21 []), [], 0⟩ <| Sq <| Bk <| Sq <| Adr <| Wm (.l enc_GMatch p0) rfl <| Wm (.i y5_1) rfl ?_
    obtain ⟨x19_3, hx19_3, hm⟩ := bnd hm
    obtain ⟨hx19_3i, hx19_3g⟩ := geti_some hx19_3
    refine Wz (.d (.ref (List.drop ((Int.toNat y5_1) * 3) (flatD enc_GMatch p0)))) (Oia rfl enc_GMatch_len hx19_3i hx19_3g) <| Wz (.agg [(.i x19_3.Pattern), (.s x19_3.Key), (.l enc_GPair x19_3.Bound)]) (Lf rfl enc_GMatch_len hx19_3g) <| Wm (.l enc_GMatch p1) rfl <| Wm (.i y5_1) rfl ?_
    obtain ⟨x23_3, hx23_3, hm⟩ := bnd hm
    obtain ⟨hx23_3i, hx23_3g⟩ := geti_some hx23_3
    refine Wz (.d (.ref (List.drop ((Int.toNat y5_1) * 3) (flatD enc_GMatch p1)))) (Oia rfl enc_GMatch_len hx23_3i hx23_3g) <| Wz (.agg [(.i x23_3.Pattern), (.s x23_3.Key), (.l enc_GPair x23_3.Bound)]) (Lf rfl enc_GMatch_len hx23_3g) ?_
    obtain ⟨r25_3, hr25_3, hm⟩ := bnd hm
    refine Wz (.b r25_3) (Ocf [] [] [] 0 (ok_telltaleref19_Same x19_3 x23_3 r25_3 hr25_3) (fun a w => Try.call19 a w) rfl trivial) <| Wz (.b (!r25_3)) (Ocs (by kernel_rfl) (op_un rfl (a1 := .bool r25_3) (by kernel_rfl) (fun _ => hu_not))) <| Wdr <| Tk 67108899 0 ⟨.l enc_GMatch p0::.l enc_GMatch p1::tp 3 (.i y5_1::tp 20 (.b (!r25_3)::[])), [], 0⟩ ?_
    rcases tf_ (!r25_3) with hc26_6 | hc26_6
    ·
     replace hm := cT hc26_6 hm
     refine AiT hc26_6 <| Sx <| Wm (.b false) rfl <| Nn <| Rt <| Ir <| Tr <| RoundK.ret <| Ir <| Tr ?_
     obtain rfl := Option.some.inj hm
     exact ret_i []
    ·
     replace hm := cF hc26_6 hm
     refine AiF hc26_6 <| Sk <| Ino <| Tk 35 0 ⟨.l enc_GMatch p0::.l enc_GMatch p1::tp 3 (.i y5_1::tp 21 []), [], 0⟩ <| Tx <| Wm (.i y5_1) rfl <| Wz (.i (W6 (y5_1 + 1))) (Obn rfl (fun _ => hb_add (k := .i64))) <| Wm (.i (W6 (y5_1 + 1))) rfl <| Wn0 <| RoundK.normal ?_
     exact Rounds.weak (Weak.toK 35 0 0 []) (ih_1 (fu_1, (W6 (y5_1 + 1))) hm (Nat.lt_succ_self _))
   ·
    replace hm := cF hc14_5 hm
    refine AiF hc14_5 <| AWP.exit <| Then.exit <| RoundK.exit <| InBlock.same <| Tk 0 0 ⟨tp 27 [], [], 0⟩ <| Sx <| Wm (.b true) rfl <| Nn <| Rt ?_
    obtain rfl := Option.some.inj hm
    exact ret_i []

theorem ok_telltalelaw19_BindMatches (p0 : (List GMatch)) (p1 : GMatch) (r : Bool) (h : m_telltalelaw19_BindMatches p0 p1 = some r) : GCall Try.prog 4 [(.l enc_GMatch p0), (.agg [(.i p1.Pattern), (.s p1.Key), (.l enc_GPair p1.Bound)])] [] (.b r) [] := by
 refine GCall.of_body (n := 103) (rs := [(.tmp 4)]) Try.func4 rfl rfl rfl <| Ato ⟨.l enc_GMatch p0::.agg [(.i p1.Pattern), (.s p1.Key), (.l enc_GPair p1.Bound)]::tu 101 [], [], 0⟩ ?_
 have hm := h
 unfold m_telltalelaw19_BindMatches at hm
 refine Sx <| Wy (.loc 0 0) [(0, (.box [(.i p1.Pattern), (.s p1.Key), (.l enc_GPair p1.Bound)]))] (Obx rfl) <| Wm (.b false) rfl <| Nk 9 1 ⟨.l enc_GMatch p0::tp 2 (.loc 0 0::tp 99 []), [(.box [(.i p1.Pattern), (.s p1.Key), (.l enc_GPair p1.Bound)])], 0⟩ <| Sq <| Sx <| Wm (.l enc_GMatch p0) rfl <| Wz (.i ((List.length p0 : Nat) : Int)) (Oln rfl) <| Wz (.b (decide ((12 : Int) < ((List.length p0 : Nat) : Int)))) (Obn rfl (fun _ => hb_gtr (k := .i64))) ?_
 rcases tf_ (decide ((12 : Int) < ((List.length p0 : Nat) : Int))) with hq16_0 | hq16_0
 ·
  replace hm := cT hq16_0 hm
  refine Wz (.b true) (Oq hq16_0 rfl) <| Wn <| Wn <| Wn <| Wz (.b true) (OpT rfl) <| Nk 1048585 1 ⟨.l enc_GMatch p0::tp 2 (.loc 0 0::tp 16 (.b true::tp 82 [])), [(.box [(.i p1.Pattern), (.s p1.Key), (.l enc_GPair p1.Bound)])], 0⟩ <| AWP.if_ true (by kernel_rfl) <| Sx ?_
  obtain ⟨r21_1, hr21_1, hm⟩ := bnd hm
  refine Wz (.b r21_1) (Ocf [] [] [] 0 (ok_telltalelaw19_awake  r21_1 hr21_1) (fun a w => Try.call8 a w) rfl trivial) <| Wm (.b r21_1) rfl <| Nn <| Rt <| Tr ?_
  obtain rfl := Option.some.inj hm
  exact ret_i []
 ·
  replace hm := cF hq16_0 hm
  refine Wz (.b false) (Oq hq16_0 rfl) <| Wz (.agg [(.i p1.Pattern), (.s p1.Key), (.l enc_GPair p1.Bound)]) (Old rfl) ?_
  obtain ⟨r18_0, hr18_0, hm⟩ := bnd hm
  refine Wz (.i r18_0) (Ocf [] [] [] 0 (ok_telltalelaw19_Over p1 r18_0 hr18_0) (fun a w => Try.call24 a w) rfl trivial) <| Wz (.b (decide ((0 : Int) < r18_0))) (Obn rfl (fun _ => hb_gtr (k := .i64))) <| Wz (.b (decide ((0 : Int) < r18_0))) (OpF rfl) <| Nk 1048585 1 ⟨.l enc_GMatch p0::tp 2 (.loc 0 0::tp 16 (.b (decide ((0 : Int) < r18_0))::tp 82 [])), [(.box [(.i p1.Pattern), (.s p1.Key), (.l enc_GPair p1.Bound)])], 0⟩ ?_
  rcases tf_ (decide ((0 : Int) < r18_0)) with hc20_14 | hc20_14
  ·
   replace hm := cT hc20_14 hm
   refine AiT hc20_14 <| Sx ?_
   obtain ⟨r21_2, hr21_2, hm⟩ := bnd hm
   refine Wz (.b r21_2) (Ocf [] [] [] 0 (ok_telltalelaw19_awake  r21_2 hr21_2) (fun a w => Try.call8 a w) rfl trivial) <| Wm (.b r21_2) rfl <| Nn <| Rt <| Tr ?_
   obtain rfl := Option.some.inj hm
   exact ret_i []
  ·
   replace hm := cF hc20_14 hm
   refine AiF hc20_14 <| Sk <| Tk 9 1 ⟨.l enc_GMatch p0::tp 2 (.loc 0 0::tp 99 []), [(.box [(.i p1.Pattern), (.s p1.Key), (.l enc_GPair p1.Bound)])], 0⟩ <| Sx <| Wz (.agg [(.i p1.Pattern), (.s p1.Key), (.l enc_GPair p1.Bound)]) (Old rfl) ?_
   obtain ⟨r23_3, hr23_3, hm⟩ := bnd hm
   refine Wy (.agg [(.i r23_3.Pattern), (.s r23_3.Key), (.own 1)]) [(1, (Ar 45 6 enc_GPair r23_3.Bound))] (Ocf [] [1] [] 0 (ok_telltalelaw19_Own p1 r23_3 hr23_3) (fun a w => Try.call25 a w) rfl trivial) <| Wy (.loc 2 0) [(2, (.box [(.i 0), (.s ([] : List UInt8)), (.d .nil)]))] (Oal rfl) <| Wy (.tup []) [(2, (.box [(.i r23_3.Pattern), (.s r23_3.Key), (.own 1)]))] (Ost rfl) <| Nk 41 7 ⟨.l enc_GMatch p0::tp 2 (.loc 0 0::tp 1 (.loc 2 0::tp 97 [])), [(.box [(.i p1.Pattern), (.s p1.Key), (.l enc_GPair p1.Bound)]), (Ar 45 6 enc_GPair r23_3.Bound), (.box [(.i r23_3.Pattern), (.s r23_3.Key), (.own 1)])], 0⟩ <| Sq <| Sx <| Wm (.i 0) rfl <| Nk 105 7 ⟨.l enc_GMatch p0::tp 2 (.loc 0 0::tp 1 (.loc 2 0::.i 0::tp 96 [])), [(.box [(.i p1.Pattern), (.s p1.Key), (.l enc_GPair p1.Bound)]), (Ar 45 6 enc_GPair r23_3.Bound), (.box [(.i r23_3.Pattern), (.s r23_3.Key), (.own 1)])], 0⟩ <| Bk ?_
   refine AWP.loopI (α := Nat × Int)
     (fun (fu_4, y6_4) => (⟨.l enc_GMatch p0::tp 2 (.loc 0 0::tp 1 (.loc 1 0::.i y6_4::tp 96 [])), [(.box [(.i p1.Pattern), (.s p1.Key), (.l enc_GPair p1.Bound)]), (.box [(.i r23_3.Pattern), (.s r23_3.Key), (.own 2)]), (Ar 45 6 enc_GPair r23_3.Bound)], 0⟩ : St))
     (fun (fu_4, y6_4) => m_telltalelaw19_BindMatches_l4 p0 p1 r23_3 fu_4 y6_4 = some r)
     (fun (fu_4, y6_4) => fu_4) (1152921504606846976, 0)
     (Weak.toK 105 0 0 [0, 2, 1]) hm ?_
   rintro ⟨fu_4, y6_4⟩ n_4 hm ih_4
   try dsimp only at hm ih_4 ⊢
   cases fu_4 with
   | zero => exact absurd hm (by unfold m_telltalelaw19_BindMatches_l4; simp)
   | succ fu_4 =>
    unfold m_telltalelaw19_BindMatches_l4 at hm
    refine Sq <| Sx <| Wm (.i y6_4) rfl <| Wm (.l enc_GMatch p0) rfl <| Wz (.i ((List.length p0 : Nat) : Int)) (Oln rfl) <| Wz (.b (decide (y6_4 < ((List.length p0 : Nat) : Int)))) (Obn rfl (fun _ => hb_lss (k := .i64))) <| Nk 134217833 7 ⟨.l enc_GMatch p0::tp 2 (.loc 0 0::tp 1 (.loc 1 0::.i y6_4::tp 20 (.b (decide (y6_4 < ((List.length p0 : Nat) : Int)))::tp 75 []))), [(.box [(.i p1.Pattern), (.s p1.Key), (.l enc_GPair p1.Bound)]), (.box [(.i r23_3.Pattern), (.s r23_3.Key), (.own 2)]), (Ar 45 6 enc_GPair r23_3.Bound)], 0⟩ ?_
    rcases tf_ (decide (y6_4 < ((List.length p0 : Nat) : Int))) with hc27_15 | hc27_15
    ·
     replace hm := cT hc27_15 hm
     refine AiT hc27_15 <| Sk <| Tk 105 7 ⟨.l enc_GMatch p0::tp 2 (.loc 0 0::tp 1 (.loc 1 0::.i y6_4::tp 96 [])), [(.box [(.i p1.Pattern), (.s p1.Key), (.l enc_GPair p1.Bound)]), (.box [(.i r23_3.Pattern), (.s r23_3.Key), (.own 2)]), (Ar 45 6 enc_GPair r23_3.Bound)], 0⟩ <| Sq <| Bk <| Sq <| Sx <| Wm (.l enc_GMatch p0) rfl <| Wm (.i y6_4) rfl ?_
     obtain ⟨x32_6, hx32_6, hm⟩ := bnd hm
     obtain ⟨hx32_6i, hx32_6g⟩ := geti_some hx32_6
     refine Wz (.d (.ref (List.drop ((Int.toNat y6_4) * 3) (flatD enc_GMatch p0)))) (Oia rfl enc_GMatch_len hx32_6i hx32_6g) <| Wz (.agg [(.i x32_6.Pattern), (.s x32_6.Key), (.l enc_GPair x32_6.Bound)]) (Lf rfl enc_GMatch_len hx32_6g) ?_
     obtain ⟨r34_6, hr34_6, hm⟩ := bnd hm
     refine Wz (.i r34_6) (Ocf [] [] [] 0 (ok_telltalelaw19_Over x32_6 r34_6 hr34_6) (fun a w => Try.call24 a w) rfl trivial) <| Wz (.b (decide ((0 : Int) < r34_6))) (Obn rfl (fun _ => hb_gtr (k := .i64))) <| Nk 34359738473 7 ⟨.l enc_GMatch p0::tp 2 (.loc 0 0::tp 1 (.loc 1 0::.i y6_4::tp 28 (.b (decide ((0 : Int) < r34_6))::tp 67 []))), [(.box [(.i p1.Pattern), (.s p1.Key), (.l enc_GPair p1.Bound)]), (.box [(.i r23_3.Pattern), (.s r23_3.Key), (.own 2)]), (Ar 45 6 enc_GPair r23_3.Bound)], 0⟩ ?_
     rcases tf_ (decide ((0 : Int) < r34_6)) with hc35_16 | hc35_16
     ·
      replace hm := cT hc35_16 hm
      refine AiT hc35_16 <| Sx ?_
      obtain ⟨r36_7, hr36_7, hm⟩ := bnd hm
      refine Wz (.b r36_7) (Ocf [] [] [] 0 (ok_telltalelaw19_awake  r36_7 hr36_7) (fun a w => Try.call8 a w) rfl trivial) <| Wm (.b r36_7) rfl <| Nn <| Rt <| Tr <| Ir <| Tr <| RoundK.ret <| Ir <| Tr ?_
      obtain rfl := Option.some.inj hm
      exact ret_i []
     ·
      replace hm := cF hc35_16 hm
      refine AiF hc35_16 <| Sk <| Tk 105 7 ⟨.l enc_GMatch p0::tp 2 (.loc 0 0::tp 1 (.loc 1 0::.i y6_4::tp 96 [])), [(.box [(.i p1.Pattern), (.s p1.Key), (.l enc_GPair p1.Bound)]), (.box [(.i r23_3.Pattern), (.s r23_3.Key), (.own 2)]), (Ar 45 6 enc_GPair r23_3.Bound)], 0⟩ <| Sx <| Wm (.l enc_GMatch p0) rfl <| Wm (.i y6_4) rfl ?_
      obtain ⟨x39_8, hx39_8, hm⟩ := bnd hm
      obtain ⟨hx39_8i, hx39_8g⟩ := geti_some hx39_8
      refine Wz (.d (.ref (List.drop ((Int.toNat y6_4) * 3) (flatD enc_GMatch p0)))) (Oia rfl enc_GMatch_len hx39_8i hx39_8g) <| Wz (.agg [(.i x39_8.Pattern), (.s x39_8.Key), (.l enc_GPair x39_8.Bound)]) (Lf rfl enc_GMatch_len hx39_8g) ?_
      obtain ⟨r41_8, hr41_8, hm⟩ := bnd hm
      refine Wy (.agg [(.i r41_8.Pattern), (.s r41_8.Key), (.own 3)]) [(3, (Ar 45 6 enc_GPair r41_8.Bound))] (Ocf [] [3] [] 0 (ok_telltalelaw19_Own x39_8 r41_8 hr41_8) (fun a w => Try.call25 a w) rfl trivial) <| Wy (.loc 4 0) [(4, (.box [(.i 0), (.s ([] : List UInt8)), (.d .nil)]))] (Oal rfl) <| Wy (.tup []) [(4, (.box [(.i r41_8.Pattern), (.s r41_8.Key), (.own 3)]))] (Ost rfl) <| Nk 233 31 ⟨.l enc_GMatch p0::tp 2 (.loc 0 0::tp 1 (.loc 1 0::.i y6_4::.loc 4 0::tp 95 [])), [(.box [(.i p1.Pattern), (.s p1.Key), (.l enc_GPair p1.Bound)]), (.box [(.i r23_3.Pattern), (.s r23_3.Key), (.own 2)]), (Ar 45 6 enc_GPair r23_3.Bound), (Ar 45 6 enc_GPair r41_8.Bound), (.box [(.i r41_8.Pattern), (.s r41_8.Key), (.own 3)])], 0⟩ <| Sq <| Adr <| Wz (.agg [(.i r41_8.Pattern), (.s r41_8.Key), (.own 3)]) (Old rfl) <| Wz (.agg [(.i r23_3.Pattern), (.s r23_3.Key), (.own 2)]) (Old rfl) ?_
      obtain ⟨r44_9, hr44_9, hm⟩ := bnd hm
      refine Wz (.i r44_9) (Ocp [] [] [3, 2] 0 (ok_bind_Before r41_8 r23_3 r44_9 hr44_9) (plain_triv (by simp [A.Plain, A.Plains, D.Plain, byteD])) (fun a w => Try.call26 a w) rfl trivial) <| Wm (.l enc_GMatch p0) rfl <| Wm (.i y6_4) rfl ?_
      obtain ⟨x47_9, hx47_9, hm⟩ := bnd hm
      obtain ⟨hx47_9i, hx47_9g⟩ := geti_some hx47_9
      refine Wz (.d (.ref (List.drop ((Int.toNat y6_4) * 3) (flatD enc_GMatch p0)))) (Oia rfl enc_GMatch_len hx47_9i hx47_9g) <| Wz (.agg [(.i x47_9.Pattern), (.s x47_9.Key), (.l enc_GPair x47_9.Bound)]) (Lf rfl enc_GMatch_len hx47_9g) <| Wz (.agg [(.i p1.Pattern), (.s p1.Key), (.l enc_GPair p1.Bound)]) (Old rfl) ?_
      obtain ⟨r50_9, hr50_9, hm⟩ := bnd hm
      refine Wz (.i r50_9) (Ocf [] [] [] 0 (ok_telltaleref19_Before x47_9 p1 r50_9 hr50_9) (fun a w => Try.call27 a w) rfl trivial) <| Wz (.b (decide (r44_9 ≠ r50_9))) (Obn rfl (fun _ => hb_neq (k := .i64))) ?_
      rcases tf_ (decide (r44_9 ≠ r50_9)) with hq52_9 | hq52_9
      ·
       replace hm := cT hq52_9 hm
       refine Wz (.b true) (Oq hq52_9 rfl) <| Wn <| Wn <| Wn <| Wn <| Wn <| Wn <| Wn <| Wn <| Wn <| Wn <| Wz (.b true) (OpT rfl) <| Wdr <| Tk 9223372036854775913 7 ⟨.l enc_GMatch p0::tp 2 (.loc 0 0::tp 1 (.loc 1 0::.i y6_4::tp 56 (.b true::tp 39 []))), [(.box [(.i p1.Pattern), (.s p1.Key), (.l enc_GPair p1.Bound)]), (.box [(.i r23_3.Pattern), (.s r23_3.Key), (.own 2)]), (Ar 45 6 enc_GPair r23_3.Bound), .gone, .gone], 0⟩ ?_
       refine AWP.if_ true (by kernel_rfl) <| Sx <| Wm (.b false) rfl <| Nn <| Rt <| Ir <| Tr <| RoundK.ret <| Ir <| Tr ?_
       obtain rfl := Option.some.inj hm
       exact ret_i []
      ·
       replace hm := cF hq52_9 hm
       refine Wz (.b false) (Oq hq52_9 rfl) <| Wz (.agg [(.i r41_8.Pattern), (.s r41_8.Key), (.own 3)]) (Old rfl) <| Wz (.agg [(.i r23_3.Pattern), (.s r23_3.Key), (.own 2)]) (Old rfl) ?_
       obtain ⟨r55_9, hr55_9, hm⟩ := bnd hm
       refine Wz (.b r55_9) (Ocp [] [] [3, 2] 0 (ok_bind_Same r41_8 r23_3 r55_9 hr55_9) (plain_triv (by simp [A.Plain, A.Plains, D.Plain, byteD])) (fun a w => Try.call28 a w) rfl trivial) <| Wm (.l enc_GMatch p0) rfl <| Wm (.i y6_4) rfl ?_
       obtain ⟨x58_9, hx58_9, hm⟩ := bnd hm
       obtain ⟨hx58_9i, hx58_9g⟩ := geti_some hx58_9
       refine Wz (.d (.ref (List.drop ((Int.toNat y6_4) * 3) (flatD enc_GMatch p0)))) (Oia rfl enc_GMatch_len hx58_9i hx58_9g) <| Wz (.agg [(.i x58_9.Pattern), (.s x58_9.Key), (.l enc_GPair x58_9.Bound)]) (Lf rfl enc_GMatch_len hx58_9g) <| Wz (.agg [(.i p1.Pattern), (.s p1.Key), (.l enc_GPair p1.Bound)]) (Old rfl) ?_
       obtain ⟨r61_9, hr61_9, hm⟩ := bnd hm
       refine Wz (.b r61_9) (Ocf [] [] [] 0 (ok_telltaleref19_Same x58_9 p1 r61_9 hr61_9) (fun a w => Try.call19 a w) rfl trivial) <| Wz (.b (decide (r55_9 ≠ r61_9))) (Ob2 (.bool r55_9) (.bool r61_9) rfl (fun _ => hb_bneq (by kernel_rfl))) <| Wz (.b (decide (r55_9 ≠ r61_9))) (OpF rfl) <| Wdr <| Tk 9223372036854775913 7 ⟨.l enc_GMatch p0::tp 2 (.loc 0 0::tp 1 (.loc 1 0::.i y6_4::tp 56 (.b (decide (r55_9 ≠ r61_9))::tp 39 []))), [(.box [(.i p1.Pattern), (.s p1.Key), (.l enc_GPair p1.Bound)]), (.box [(.i r23_3.Pattern), (.s r23_3.Key), (.own 2)]), (Ar 45 6 enc_GPair r23_3.Bound), .gone, .gone], 0⟩ ?_
       rcases tf_ (decide (r55_9 ≠ r61_9)) with hc63_17 | hc63_17
       ·
        replace hm := cT hc63_17 hm
        refine AiT hc63_17 <| Sx <| Wm (.b false) rfl <| Nn <| Rt <| Ir <| Tr <| RoundK.ret <| Ir <| Tr ?_
        obtain rfl := Option.some.inj hm
        exact ret_i []
       ·
        replace hm := cF hc63_17 hm
        refine AiF hc63_17 <| Sk <| Ino <| Tk 105 7 ⟨.l enc_GMatch p0::tp 2 (.loc 0 0::tp 1 (.loc 1 0::.i y6_4::tp 96 [])), [(.box [(.i p1.Pattern), (.s p1.Key), (.l enc_GPair p1.Bound)]), (.box [(.i r23_3.Pattern), (.s r23_3.Key), (.own 2)]), (Ar 45 6 enc_GPair r23_3.Bound), .gone, .gone], 0⟩ <| Tx <| Wm (.i y6_4) rfl <| Wz (.i (W6 (y6_4 + 1))) (Obn rfl (fun _ => hb_add (k := .i64))) <| Wm (.i (W6 (y6_4 + 1))) rfl <| Wn0 <| RoundK.normal ?_
        exact Rounds.weak (Weak.toK 105 0 0 [0, 1, 2]) (ih_4 (fu_4, (W6 (y6_4 + 1))) hm (Nat.lt_succ_self _))
    ·
     replace hm := cF hc27_15 hm
     refine AiF hc27_15 <| AWP.exit <| Then.exit <| RoundK.exit <| InBlock.same <| Tk 41 7 ⟨.l enc_GMatch p0::tp 2 (.loc 0 0::tp 1 (.loc 1 0::tp 97 [])), [(.box [(.i p1.Pattern), (.s p1.Key), (.l enc_GPair p1.Bound)]), (.box [(.i r23_3.Pattern), (.s r23_3.Key), (.own 2)]), (Ar 45 6 enc_GPair r23_3.Bound)], 0⟩ <| Sx <| Wm (.l enc_GMatch p0) rfl ?_
     obtain ⟨r65_10, hr65_10, hm⟩ := bnd hm
     refine Wy (.own 3) [(3, (Ar 61 3 enc_GMatch r65_10))] (Ocf [] [3] [] 0 (ok_telltalelaw19_All p0 r65_10 hr65_10) (fun a w => Try.call29 a w) rfl trivial) <| Wm (.own 3) rfl <| Nk 297 15 ⟨.l enc_GMatch p0::tp 2 (.loc 0 0::tp 1 (.loc 1 0::tp 2 (.own 3::tp 94 []))), [(.box [(.i p1.Pattern), (.s p1.Key), (.l enc_GPair p1.Bound)]), (.box [(.i r23_3.Pattern), (.s r23_3.Key), (.own 2)]), (Ar 45 6 enc_GPair r23_3.Bound), (Ar 61 3 enc_GMatch r65_10)], 0⟩ <| Sx <| Wm (.own 3) rfl <| Wz (.agg [(.i r23_3.Pattern), (.s r23_3.Key), (.own 2)]) (Old rfl) ?_
     obtain ⟨r69_11, hr69_11, hm⟩ := bnd hm
     refine Wy (.tup [(.own 4), (.b r69_11.2)]) [(4, (Ar 61 3 enc_GMatch r69_11.1)), (3, (.fro 61 3 (List.length r65_10) (flatD enc_GMatch r65_10))), (2, (.fro 45 6 (List.length r23_3.Bound) (flatD enc_GPair r23_3.Bound)))] (Ocf [] [4] [3, 2] 0 (ok_bind_Put r65_10 r23_3 r69_11 hr69_11) (fun a w => Try.call30 a w) rfl trivial) <| Wm (.tup [(.own 4), (.b r69_11.2)]) rfl <| Wz (.own 4) (Oex rfl) <| Wz (.b r69_11.2) (Oex rfl) <| Wm (.own 4) rfl <| Wm (.b r69_11.2) rfl <| Nk 1833 31 ⟨.l enc_GMatch p0::tp 2 (.loc 0 0::tp 1 (.loc 1 0::tp 2 (.own 3::.own 4::.b r69_11.2::tp 92 []))), [(.box [(.i p1.Pattern), (.s p1.Key), (.l enc_GPair p1.Bound)]), (.box [(.i r23_3.Pattern), (.s r23_3.Key), (.own 2)]), (.fro 45 6 (List.length r23_3.Bound) (flatD enc_GPair r23_3.Bound)), (.fro 61 3 (List.length r65_10) (flatD enc_GMatch r65_10)), (Ar 61 3 enc_GMatch r69_11.1)], 0⟩ <| Sx <| Wm (.l enc_GMatch p0) rfl <| Wz (.agg [(.i p1.Pattern), (.s p1.Key), (.l enc_GPair p1.Bound)]) (Old rfl) ?_
     obtain ⟨r75_12, hr75_12, hm⟩ := bnd hm
     refine Wz (.tup [(.l enc_GMatch r75_12.1), (.b r75_12.2)]) (Ocf [] [] [] 0 (ok_telltaleref19_Put p0 p1 r75_12 hr75_12) (fun a w => Try.call31 a w) rfl trivial) <| Wm (.tup [(.l enc_GMatch r75_12.1), (.b r75_12.2)]) rfl <| Wz (.l enc_GMatch r75_12.1) (Oex rfl) <| Wz (.b r75_12.2) (Oex rfl) <| Wm (.l enc_GMatch r75_12.1) rfl <| Wm (.b r75_12.2) rfl <| Nk 7977 31 ⟨.l enc_GMatch p0::tp 2 (.loc 0 0::tp 1 (.loc 1 0::tp 2 (.own 3::.own 4::.b r69_11.2::.l enc_GMatch r75_12.1::.b r75_12.2::tp 90 []))), [(.box [(.i p1.Pattern), (.s p1.Key), (.l enc_GPair p1.Bound)]), (.box [(.i r23_3.Pattern), (.s r23_3.Key), (.own 2)]), (.fro 45 6 (List.length r23_3.Bound) (flatD enc_GPair r23_3.Bound)), (.fro 61 3 (List.length r65_10) (flatD enc_GMatch r65_10)), (Ar 61 3 enc_GMatch r69_11.1)], 0⟩ <| Sq <| Adr <| Wz (.agg [(.i r23_3.Pattern), (.s r23_3.Key), (.own 2)]) (Old rfl) ?_
     obtain ⟨r79_13, hr79_13, hm⟩ := bnd hm
     refine Wz (.s r79_13) (Ocp [] [] [2] 0 (ok_bind_Ident r23_3 r79_13 hr79_13) (plain_triv (by simp [A.Plain, A.Plains, D.Plain, byteD])) (fun a w => Try.call32 a w) rfl trivial) <| Wz (.agg [(.i p1.Pattern), (.s p1.Key), (.l enc_GPair p1.Bound)]) (Old rfl) ?_
     obtain ⟨r81_13, hr81_13, hm⟩ := bnd hm
     refine Wz (.s r81_13) (Ocf [] [] [] 0 (ok_telltaleref19_Ident p1 r81_13 hr81_13) (fun a w => Try.call33 a w) rfl trivial) <| Wz (.b (decide (r79_13 = r81_13))) (Ocs (lit_tf (by simp only [toS_inj, ne_eq])) (op_bin rfl (a1 := .string (toS r79_13)) (a2 := .string (toS r81_13)) (by kernel_rfl) (by kernel_rfl) (fun _ => hb_seql))) ?_
     rcases tf_ (decide (r79_13 = r81_13)) with hq83_13 | hq83_13
     ·
      replace hm := cT hq83_13 hm
      refine Wz (.b true) (Oq hq83_13 rfl) <| Wm (.b r69_11.2) rfl <| Wm (.b r75_12.2) rfl <| Wz (.b (decide (r69_11.2 = r75_12.2))) (Ob2 (.bool r69_11.2) (.bool r75_12.2) rfl (fun _ => hb_beql (by kernel_rfl))) <| Wz (.b (decide (r69_11.2 = r75_12.2))) (OpT rfl) ?_
      rcases tf_ (decide (r69_11.2 = r75_12.2)) with hq88_13 | hq88_13
      ·
       replace hm := cT hq88_13 hm
       refine Wz (.b true) (Oq hq88_13 rfl) <| Wm (.own 4) rfl ?_
       obtain ⟨r90_13, hr90_13, hm⟩ := bnd hm
       refine Wy (.own 5) [(5, (Ar 48 3 enc_GMatch r90_13)), (4, (.fro 61 3 (List.length r69_11.1) (flatD enc_GMatch r69_11.1)))] (Ocf [] [5] [4] 0 (ok_telltalelaw19_BackAll r69_11.1 r90_13 hr90_13) (fun a w => Try.call35 a w) rfl trivial) <| Wm (.l enc_GMatch r75_12.1) rfl ?_
       obtain ⟨r92_13, hr92_13, hm⟩ := bnd hm
       refine Wz (.b r92_13) (Ocp [] [] [5] 0 (ok_telltaleref19_SameAll r90_13 r75_12.1 r92_13 hr92_13) (plain_triv (by simp [A.Plain, A.Plains, D.Plain, byteD])) (fun a w => Try.call34 a w) rfl trivial) <| Wz (.b r92_13) (OpT rfl) ?_
       rcases tf_ r92_13 with hq94_13 | hq94_13
       ·
        replace hm := cT hq94_13 hm
        refine Wz (.b true) (Oq hq94_13 rfl) <| Wm (.own 3) rfl ?_
        obtain ⟨r96_13, hr96_13, hm⟩ := bnd hm
        refine Wy (.own 6) [(6, (Ar 48 3 enc_GMatch r96_13)), (3, (.fro 61 3 (List.length r65_10) (flatD enc_GMatch r65_10)))] (Ocf [] [6] [3] 0 (ok_telltalelaw19_BackAll r65_10 r96_13 hr96_13) (fun a w => Try.call35 a w) rfl trivial) <| Wm (.l enc_GMatch p0) rfl ?_
        obtain ⟨r98_13, hr98_13, hm⟩ := bnd hm
        refine Wz (.b r98_13) (Ocp [] [] [6] 0 (ok_telltaleref19_SameAll r96_13 p0 r98_13 hr98_13) (plain_triv (by simp [A.Plain, A.Plains, D.Plain, byteD])) (fun a w => Try.call34 a w) rfl trivial) <| Wz (.b r98_13) (OpT rfl) ?_
        rcases tf_ r98_13 with hq100_13 | hq100_13
        ·
         replace hm := cT hq100_13 hm
         refine Wz (.b true) (Oq hq100_13 rfl) ?_
         obtain ⟨r101_13, hr101_13, hm⟩ := bnd hm
         refine Wz (.b r101_13) (Ocf [] [] [] 0 (ok_telltalelaw19_awake  r101_13 hr101_13) (fun a w => Try.call8 a w) rfl trivial) <| Wz (.b r101_13) (OpT rfl) <| Wm (.b r101_13) rfl <| Wdr <| Tn <| Rt ?_
         obtain rfl := Option.some.inj hm
         exact ret_i []
        ·
         replace hm := cF hq100_13 hm
         refine Wz (.b false) (Oq hq100_13 rfl) <| Wn <| Wz (.b false) (OpF rfl) <| Wm (.b false) rfl <| Wdr <| Tn <| Rt ?_
         obtain rfl := Option.some.inj hm
         exact ret_i []
       ·
        replace hm := cF hq94_13 hm
        refine Wz (.b false) (Oq hq94_13 rfl) <| Wn <| Wn <| Wn <| Wn <| Wz (.b false) (OpF rfl) <| Wm (.b false) rfl <| Wn <| Wz (.b false) (OpF rfl) <| Wm (.b false) rfl <| Wdr <| Tn <| Rt ?_
        obtain rfl := Option.some.inj hm
        exact ret_i []
      ·
       replace hm := cF hq88_13 hm
       refine Wz (.b false) (Oq hq88_13 rfl) <| Wn <| Wn <| Wn <| Wn <| Wz (.b false) (OpF rfl) <| Wm (.b false) rfl <| Wn <| Wn <| Wn <| Wn <| Wz (.b false) (OpF rfl) <| Wm (.b false) rfl <| Wn ?_
       refine Wz (.b false) (OpF rfl) <| Wm (.b false) rfl <| Wdr <| Tn <| Rt ?_
       obtain rfl := Option.some.inj hm
       exact ret_i []
     ·
      replace hm := cF hq83_13 hm
      refine Wz (.b false) (Oq hq83_13 rfl) <| Wn <| Wn <| Wn <| Wz (.b false) (OpF rfl) <| Wm (.b false) rfl <| Wn <| Wn <| Wn <| Wn <| Wz (.b false) (OpF rfl) <| Wm (.b false) rfl <| Wn <| Wn ?_
      refine Wn <| Wn <| Wz (.b false) (OpF rfl) <| Wm (.b false) rfl <| Wn <| Wz (.b false) (OpF rfl) <| Wm (.b false) rfl <| Wdr <| Tn <| Rt ?_
      obtain rfl := Option.some.inj hm
      exact ret_i []
end Go.Proofs.Ytkagljfmfjaleaa.K
