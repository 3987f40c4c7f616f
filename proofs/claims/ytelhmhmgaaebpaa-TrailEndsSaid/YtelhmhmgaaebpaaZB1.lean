/- what telltalelaw22.TrailEnds needs (1) -/
import Derived.Test.YtelhmhmgaaebpaaZB0
set_option linter.unusedVariables false
set_option linter.unusedSimpArgs false
namespace Go.Proofs.Ytelhmhmgaaebpaa.K
open Go.RowKit Go.Lib
set_option maxRecDepth 20000
set_option maxHeartbeats 4000000

theorem ok_trail_Trail_Add (p0 : GTrail) (p1 : GWait) (r : (GTrail × Int)) (h : m_trail_Trail_Add p0 p1 = some r) : GCall Try.prog 10 [(.agg [(.i p0.Cap), (.l enc_GWait p0.L)]), (.agg [(.l enc_GPair p1.Bound), (.l (encI .u32) p1.Sets), (.i p1.End)])] [] (.tup [(.agg [(.i r.1.Cap), (.own 0)]), (.i r.2)]) [(Ar 42 3 enc_GWait r.1.L)] := by
 refine GCall.of_body (n := 64) (rs := [(.cell 4 35), (.tmp 5)]) Try.func10 rfl rfl rfl <| Ato ⟨.agg [(.i p0.Cap), (.l enc_GWait p0.L)]::.agg [(.l enc_GPair p1.Bound), (.l (encI .u32) p1.Sets), (.i p1.End)]::tu 62 [], [], 0⟩ ?_
 have hm := h
 unfold m_trail_Trail_Add at hm
 refine Sx <| Wy (.loc 0 0) [(0, (.box [(.i p0.Cap), (.l enc_GWait p0.L)]))] (Obx rfl) <| Wy (.loc 1 0) [(1, (.box [(.l enc_GPair p1.Bound), (.l (encI .u32) p1.Sets), (.i p1.End)]))] (Obx rfl) <| Wy (.loc 2 0) [(2, (.box [(.i 0), (.d .nil)]))] (Oal rfl) <| Wm (.i 0) rfl <| Nk 28 7 ⟨tp 2 (.loc 0 0::.loc 1 0::.loc 2 0::tp 59 []), [(.box [(.i p0.Cap), (.l enc_GWait p0.L)]), (.box [(.l enc_GPair p1.Bound), (.l (encI .u32) p1.Sets), (.i p1.End)]), (.box [(.i 0), (.d .nil)])], 0⟩ <| Sq <| Adr <| Wz (.loc 0 0) (Ofa rfl) <| Wz (.i p0.Cap) (Old rfl) <| Wz (.loc 0 1) (Ofa rfl) <| Wz (.l enc_GWait p0.L) (Old rfl) ?_
 obtain ⟨r13_0, hr13_0, hm⟩ := bnd hm
 refine Wy (.own 3) [(3, (Ar 42 3 enc_GWait r13_0))] (Ocf [] [3] [] 0 (ok_trail_copied p0.L r13_0 hr13_0) (fun a w => Try.call24 a w) rfl trivial) <| Wz (.agg [(.i p0.Cap), (.own 3)]) (Obd rfl) <| Wy (.loc 4 0) [(4, (.box [(.i 0), (.d .nil)]))] (Oal rfl) <| Wy (.tup []) [(4, (.box [(.i p0.Cap), (.own 3)]))] (Ost rfl) <| Wdr <| Tk 92 31 ⟨tp 2 (.loc 0 0::.loc 1 0::.loc 2 0::tp 1 (.loc 4 0::tp 57 [])), [(.box [(.i p0.Cap), (.l enc_GWait p0.L)]), (.box [(.l enc_GPair p1.Bound), (.l (encI .u32) p1.Sets), (.i p1.End)]), (.box [(.i 0), (.d .nil)]), (Ar 42 3 enc_GWait r13_0), (.box [(.i p0.Cap), (.own 3)])], 0⟩ <| Sq <| Sx <| Wz (.loc 1 1) (Ofa rfl) <| Wz (.l (encI .u32) p1.Sets) (Old rfl) <| Wz (.i ((List.length p1.Sets : Nat) : Int)) (Oln rfl) <| Wz (.b (decide (((List.length p1.Sets : Nat) : Int) = 0))) (Obn rfl (fun _ => hb_eql (k := .i64))) <| Nk 262236 31 ⟨tp 2 (.loc 0 0::.loc 1 0::.loc 2 0::tp 1 (.loc 4 0::tp 11 (.b (decide (((List.length p1.Sets : Nat) : Int) = 0))::tp 45 []))), [(.box [(.i p0.Cap), (.l enc_GWait p0.L)]), (.box [(.l enc_GPair p1.Bound), (.l (encI .u32) p1.Sets), (.i p1.End)]), (.box [(.i 0), (.d .nil)]), (Ar 42 3 enc_GWait r13_0), (.box [(.i p0.Cap), (.own 3)])], 0⟩ ?_
 rcases tf_ (decide (((List.length p1.Sets : Nat) : Int) = 0)) with hc18_6 | hc18_6
 ·
  replace hm := cT hc18_6 hm
  refine AiT hc18_6 <| Sx <| Wz (.agg [(.i p0.Cap), (.own 3)]) (Old rfl) <| Wy (.tup []) [(2, (.box [(.i p0.Cap), (.own 3)]))] (Ost rfl) <| Wm (.i 2) rfl <| Nn <| Rt <| Tr ?_
  obtain rfl := Option.some.inj hm
  exact ret_i [3]
 ·
  replace hm := cF hc18_6 hm
  refine AiF hc18_6 <| Sk <| Tk 92 31 ⟨tp 2 (.loc 0 0::.loc 1 0::.loc 2 0::tp 1 (.loc 4 0::tp 57 [])), [(.box [(.i p0.Cap), (.l enc_GWait p0.L)]), (.box [(.l enc_GPair p1.Bound), (.l (encI .u32) p1.Sets), (.i p1.End)]), (.box [(.i 0), (.d .nil)]), (Ar 42 3 enc_GWait r13_0), (.box [(.i p0.Cap), (.own 3)])], 0⟩ <| Sx <| Wz (.clo (.func 25) [] [(.loc 1 0)]) (Ocs (by kernel_rfl) (op_mkfn rfl)) <| Wm (.clo (.func 25) [] [(.loc 1 0)]) rfl <| Nk 220 31 ⟨tp 2 (.loc 0 0::.loc 1 0::.loc 2 0::tp 1 (.loc 4 0::.clo (.func 25) [] [(.loc 1 0)]::tp 56 [])), [(.box [(.i p0.Cap), (.l enc_GWait p0.L)]), (.box [(.l enc_GPair p1.Bound), (.l (encI .u32) p1.Sets), (.i p1.End)]), (.box [(.i 0), (.d .nil)]), (Ar 42 3 enc_GWait r13_0), (.box [(.i p0.Cap), (.own 3)])], 0⟩ <| Sq <| Sx <| Wz (.loc 4 1) (Ofa rfl) <| Wz (.own 3) (Old rfl) <| Wm (.clo (.func 25) [] [(.loc 1 0)]) rfl ?_
  obtain ⟨r24_2, hr24_2, hm⟩ := bnd hm
  refine Wz (.i r24_2) (Ocp [] [] [3, 1] 0 (ok_slices_IndexFunc_Wait__trail_Trail_Add_1 r13_0 p1 r24_2 hr24_2) (plain_triv (by simp [A.Plain, A.Plains, D.Plain, byteD])) (fun a w => Try.call26 a w) rfl trivial) <| Wm (.i r24_2) rfl <| Nk 348 31 ⟨tp 2 (.loc 0 0::.loc 1 0::.loc 2 0::tp 1 (.loc 4 0::tp 1 (.i r24_2::tp 55 []))), [(.box [(.i p0.Cap), (.l enc_GWait p0.L)]), (.box [(.l enc_GPair p1.Bound), (.l (encI .u32) p1.Sets), (.i p1.End)]), (.box [(.i 0), (.d .nil)]), (Ar 42 3 enc_GWait r13_0), (.box [(.i p0.Cap), (.own 3)])], 0⟩ <| Sx <| Wm (.i r24_2) rfl <| Wz (.b (decide ((0 : Int) ≤ r24_2))) (Obn rfl (fun _ => hb_geq (k := .i64))) <| Nk 67109212 31 ⟨tp 2 (.loc 0 0::.loc 1 0::.loc 2 0::tp 1 (.loc 4 0::tp 1 (.i r24_2::tp 17 (.b (decide ((0 : Int) ≤ r24_2))::tp 37 [])))), [(.box [(.i p0.Cap), (.l enc_GWait p0.L)]), (.box [(.l enc_GPair p1.Bound), (.l (encI .u32) p1.Sets), (.i p1.End)]), (.box [(.i 0), (.d .nil)]), (Ar 42 3 enc_GWait r13_0), (.box [(.i p0.Cap), (.own 3)])], 0⟩ ?_
  rcases tf_ (decide ((0 : Int) ≤ r24_2)) with hc26_7 | hc26_7
  ·
   replace hm := cT hc26_7 hm
   refine AiT hc26_7 <| Sq <| Adr <| Wz (.loc 4 1) (Ofa rfl) <| Wz (.own 3) (Old rfl) <| Wm (.i r24_2) rfl <| Wz (.loc 4 1) (Ofa rfl) <| Wz (.own 3) (Old rfl) <| Wm (.i r24_2) rfl ?_
   obtain ⟨x33_3, hx33_3, hm⟩ := bnd hm
   obtain ⟨hx33_3i, hx33_3g⟩ := geti_some hx33_3
   refine Wz (.loc 3 ((Int.toNat r24_2) * 3)) (Oia rfl enc_GWait_len hx33_3i hx33_3g) <| Wz (.loc 3 ((Int.toNat r24_2) * 3 + 1)) (Ofa rfl) <| Wz (.l (encI .u32) x33_3.Sets) (Lrk1 1 rfl enc_GWait_len hx33_3g) <| Wz (.loc 1 1) (Ofa rfl) <| Wz (.l (encI .u32) p1.Sets) (Old rfl) ?_
   obtain ⟨r38_3, hr38_3, hm⟩ := bnd hm
   refine Wz (.l (encI .u32) r38_3) (Ocf [] [] [] 0 (ok_trail_Merge x33_3.Sets p1.Sets r38_3 hr38_3) (fun a w => Try.call6 a w) rfl trivial) ?_
   obtain ⟨x39_3, hx39_3, hm⟩ := bnd hm
   obtain ⟨hx39_3i, hx39_3g⟩ := geti_some hx39_3
   refine Wz (.loc 3 ((Int.toNat r24_2) * 3)) (Oia rfl enc_GWait_len hx39_3i hx39_3g) <| Wz (.loc 3 ((Int.toNat r24_2) * 3 + 1)) (Ofa rfl) <| Wy (.tup []) [(3, (Ar 42 3 enc_GWait (List.set r13_0 (Int.toNat r24_2) (GWait.mk x39_3.Bound r38_3 x39_3.End))))] (Osr 1 rfl enc_GWait_len hx39_3g (GWait.mk x39_3.Bound r38_3 x39_3.End)) <| Wdr <| Tk 80 28 ⟨tp 4 (.loc 2 0::tp 1 (.loc 4 0::tp 57 [])), [.gone, .gone, (.box [(.i 0), (.d .nil)]), (Ar 42 3 enc_GWait (List.set r13_0 (Int.toNat r24_2) (GWait.mk x39_3.Bound r38_3 x39_3.End))), (.box [(.i p0.Cap), (.own 3)])], 0⟩ <| Sx <| Wz (.agg [(.i p0.Cap), (.own 3)]) (Old rfl) <| Wy (.tup []) [(2, (.box [(.i p0.Cap), (.own 3)]))] (Ost rfl) <| Wm (.i 0) rfl <| Nn <| Rt <| Tr ?_
   obtain rfl := Option.some.inj hm
   exact ret_i [3]
  ·
   replace hm := cF hc26_7 hm
   refine AiF hc26_7 <| Sk <| Tk 92 31 ⟨tp 2 (.loc 0 0::.loc 1 0::.loc 2 0::tp 1 (.loc 4 0::tp 57 [])), [(.box [(.i p0.Cap), (.l enc_GWait p0.L)]), (.box [(.l enc_GPair p1.Bound), (.l (encI .u32) p1.Sets), (.i p1.End)]), (.box [(.i 0), (.d .nil)]), (Ar 42 3 enc_GWait r13_0), (.box [(.i p0.Cap), (.own 3)])], 0⟩ <| Sq <| Sx <| Wz (.loc 4 1) (Ofa rfl) <| Wz (.own 3) (Old rfl) <| Wz (.i ((List.length r13_0 : Nat) : Int)) (Oln rfl) <| Wz (.loc 0 0) (Ofa rfl) <| Wz (.i p0.Cap) (Old rfl) <| Wz (.b (decide (p0.Cap ≤ ((List.length r13_0 : Nat) : Int)))) (Obn rfl (fun _ => hb_geq (k := .i64))) <| Nk 140737488355416 30 ⟨tp 3 (.loc 1 0::.loc 2 0::tp 1 (.loc 4 0::tp 40 (.b (decide (p0.Cap ≤ ((List.length r13_0 : Nat) : Int)))::tp 16 []))), [.gone, (.box [(.l enc_GPair p1.Bound), (.l (encI .u32) p1.Sets), (.i p1.End)]), (.box [(.i 0), (.d .nil)]), (Ar 42 3 enc_GWait r13_0), (.box [(.i p0.Cap), (.own 3)])], 0⟩ ?_
   rcases tf_ (decide (p0.Cap ≤ ((List.length r13_0 : Nat) : Int))) with hc47_8 | hc47_8
   ·
    replace hm := cT hc47_8 hm
    refine AiT hc47_8 <| Sx <| Wz (.agg [(.i p0.Cap), (.own 3)]) (Old rfl) <| Wy (.tup []) [(2, (.box [(.i p0.Cap), (.own 3)]))] (Ost rfl) <| Wm (.i 7) rfl <| Nn <| Rt <| Tr ?_
    obtain rfl := Option.some.inj hm
    exact ret_i [3]
   ·
    replace hm := cF hc47_8 hm
    refine AiF hc47_8 <| Sk <| Tk 88 30 ⟨tp 3 (.loc 1 0::.loc 2 0::tp 1 (.loc 4 0::tp 57 [])), [.gone, (.box [(.l enc_GPair p1.Bound), (.l (encI .u32) p1.Sets), (.i p1.End)]), (.box [(.i 0), (.d .nil)]), (Ar 42 3 enc_GWait r13_0), (.box [(.i p0.Cap), (.own 3)])], 0⟩ <| Sq <| Adr <| Wz (.loc 4 1) (Ofa rfl) <| Wz (.own 3) (Old rfl) <| Wz (.loc 1 0) (Ofa rfl) <| Wz (.l enc_GPair p1.Bound) (Old rfl) ?_
    obtain ⟨r53_5, hr53_5, hm⟩ := bnd hm
    refine Wy (.l enc_GPair r53_5) [(5, (Ar 71 6 enc_GPair r53_5)), (5, (.fro 71 6 (List.length r53_5) (flatD enc_GPair r53_5)))] (Ofz [5] (.own 5) [(5, (Ar 71 6 enc_GPair r53_5))] (Ocf [] [5] [] 0 (ok_slices_Clone_Pair p1.Bound r53_5 hr53_5) (fun a w => Try.call27 a w) rfl trivial)) <| Wz (.loc 1 1) (Ofa rfl) <| Wz (.l (encI .u32) p1.Sets) (Old rfl) ?_
    obtain ⟨r56_5, hr56_5, hm⟩ := bnd hm
    refine Wz (.l (encI .u32) r56_5) (Ocf [] [] [] 0 (ok_trail_Merge ([] : List Int) p1.Sets r56_5 hr56_5) (fun a w => Try.call6 a w) rfl trivial) <| Wz (.loc 1 2) (Ofa rfl) <| Wz (.i p1.End) (Old rfl) <| Wz (.agg [(.l enc_GPair r53_5), (.l (encI .u32) r56_5), (.i p1.End)]) (Obd rfl) <| Wy (.own 6) [(6, (Ar 42 3 enc_GWait ([(GWait.mk r53_5 r56_5 p1.End)] : List GWait)))] (Obs rfl) ?_
    obtain ⟨a61_5, ha61_5, hm⟩ := bnd hm; obtain ⟨ha61_5e, ha61_5l⟩ := app_some ha61_5
    refine Wy (.own 7) [(3, .gone), (7, (Ar 42 3 enc_GWait a61_5))] (Oap rfl elemOK_33 enc_GWait_len ha61_5e ha61_5l) <| Wz (.loc 4 1) (Ofa rfl) <| Wy (.tup []) [(4, (.box [(.i p0.Cap), (.own 7)]))] (Ost rfl) <| Wdr <| Tk 80 148 ⟨tp 4 (.loc 2 0::tp 1 (.loc 4 0::tp 57 [])), [.gone, .gone, (.box [(.i 0), (.d .nil)]), .gone, (.box [(.i p0.Cap), (.own 7)]), .gone, .gone, (Ar 42 3 enc_GWait a61_5)], 0⟩ <| Sx <| Wz (.agg [(.i p0.Cap), (.own 7)]) (Old rfl) <| Wy (.tup []) [(2, (.box [(.i p0.Cap), (.own 7)]))] (Ost rfl) <| Wm (.i 0) rfl <| Nn <| Rt ?_
    obtain rfl := Option.some.inj hm
    exact ret_i [7]

theorem ok_trail_Trail_Hit_1 (p0 : Int) (p1 : Int) (r : Bool) (h : m_trail_Trail_Hit_1 p0 p1 = some r) : GCall Try.prog 30 [(.d (.lit (.int .u32 p0))), (.d (.ref [(.lit (.int .u32 p1))]))] [] (.b r) [] := by
 refine GCall.of_body (n := 8) (rs := [(.tmp 3)]) Try.func30 rfl rfl rfl <| Ato ⟨.d (.lit (.int .u32 p0))::.d (.ref [(.lit (.int .u32 p1))])::tu 6 [], [], 0⟩ ?_
 have hm := h
 unfold m_trail_Trail_Hit_1 at hm
 refine Sx <| Wm (.b false) rfl <| Nk 3 0 ⟨.d (.lit (.int .u32 p0))::.d (.ref [(.lit (.int .u32 p1))])::tp 6 [], [], 0⟩ <| Sx <| Wm (.d (.lit (.int .u32 p0))) rfl <| Wz (.d (.lit (.int .u32 p1))) (Old rfl) <| Wz (.d (.lit (.int .u32 (IntKind.u32.wrap (((BitVec.ofInt 32 p0 &&& BitVec.ofInt 32 p1).toNat : Int)))))) (Ob2 (.int .u32 p0) (.int .u32 p1) rfl (fun _ => hb_and)) <| Wz (.b (decide ((IntKind.u32.wrap (((BitVec.ofInt 32 p0 &&& BitVec.ofInt 32 p1).toNat : Int))) ≠ 0))) (Obn rfl (fun _ => hb_neq (k := .u32))) <| Wm (.b (decide ((IntKind.u32.wrap (((BitVec.ofInt 32 p0 &&& BitVec.ofInt 32 p1).toNat : Int))) ≠ 0))) rfl <| Nn <| Rt ?_
 obtain rfl := Option.some.inj hm
 exact ret_i []

theorem ok_slices_IndexFunc_uint32__trail_Trail_Hit_1 (p0 : (List Int)) (p1c0 : Int) (r : Int) (h : m_slices_IndexFunc_uint32__trail_Trail_Hit_1 p0 p1c0 = some r) : GCall Try.prog 47 [(.l (encI .u32) p0), (.clo (.func 30) [] [(.d (.ref [(.lit (.int .u32 p1c0))]))])] [] (.i r) [] := by
 refine GCall.of_body (n := 19) (rs := [(.tmp 4)]) Try.func47 rfl rfl rfl <| Ato ⟨.l (encI .u32) p0::.clo (.func 30) [] [(.d (.ref [(.lit (.int .u32 p1c0))]))]::tu 17 [], [], 0⟩ ?_
 have hm := h
 unfold m_slices_IndexFunc_uint32__trail_Trail_Hit_1 at hm
 refine Sx <| Wm (.i 0) rfl <| Nk 3 0 ⟨.l (encI .u32) p0::.clo (.func 30) [] [(.d (.ref [(.lit (.int .u32 p1c0))]))]::tp 17 [], [], 0⟩ <| Sq <| Sx <| Wm (.l (encI .u32) p0) rfl <| Wz (.i ((List.length p0 : Nat) : Int)) (Oln rfl) <| Wm (.i 0) rfl <| Nk 387 0 ⟨.l (encI .u32) p0::.clo (.func 30) [] [(.d (.ref [(.lit (.int .u32 p1c0))]))]::tp 5 (.i ((List.length p0 : Nat) : Int)::.i 0::tp 10 []), [], 0⟩ <| Bk ?_
 refine AWP.loopI (α := Nat × Int)
   (fun (fu_1, y8_1) => (⟨.l (encI .u32) p0::.clo (.func 30) [] [(.d (.ref [(.lit (.int .u32 p1c0))]))]::tp 5 (.i ((List.length p0 : Nat) : Int)::.i y8_1::tp 10 []), [], 0⟩ : St))
   (fun (fu_1, y8_1) => m_slices_IndexFunc_uint32__trail_Trail_Hit_1_l1 p0 p1c0 fu_1 y8_1 = some r)
   (fun (fu_1, y8_1) => fu_1) (1152921504606846976, 0)
   (Weak.toK 387 0 0 []) hm ?_
 rintro ⟨fu_1, y8_1⟩ n_1 hm ih_1
 try dsimp only at hm ih_1 ⊢
 cases fu_1 with
 | zero => exact absurd hm (by unfold m_slices_IndexFunc_uint32__trail_Trail_Hit_1_l1; simp)
 | succ fu_1 =>
  unfold m_slices_IndexFunc_uint32__trail_Trail_Hit_1_l1 at hm
  refine Sx <| Wz (.b (decide (y8_1 < ((List.length p0 : Nat) : Int)))) (Obn rfl (fun _ => hb_lss (k := .i64))) <| Nk 899 0 ⟨.l (encI .u32) p0::.clo (.func 30) [] [(.d (.ref [(.lit (.int .u32 p1c0))]))]::tp 5 (.i ((List.length p0 : Nat) : Int)::.i y8_1::.b (decide (y8_1 < ((List.length p0 : Nat) : Int)))::tp 9 []), [], 0⟩ <| Sq ?_
  rcases tf_ (decide (y8_1 < ((List.length p0 : Nat) : Int))) with hc9_3 | hc9_3
  ·
   replace hm := cT hc9_3 hm
   refine AiT hc9_3 <| Sk <| Tk 387 0 ⟨.l (encI .u32) p0::.clo (.func 30) [] [(.d (.ref [(.lit (.int .u32 p1c0))]))]::tp 5 (.i ((List.length p0 : Nat) : Int)::.i y8_1::tp 10 []), [], 0⟩ <| Sq <| Bk <| Sx <| Wm (.i y8_1) rfl <| Wm (.i y8_1) rfl <| Nk 419 0 ⟨.l (encI .u32) p0::.clo (.func 30) [] [(.d (.ref [(.lit (.int .u32 p1c0))]))]::tp 3 (.i y8_1::tp 1 (.i ((List.length p0 : Nat) : Int)::.i y8_1::tp 10 [])), [], 0⟩ <| Sx <| Wm (.clo (.func 30) [] [(.d (.ref [(.lit (.int .u32 p1c0))]))]) rfl <| Wm (.l (encI .u32) p0) rfl <| Wm (.i y8_1) rfl ?_
   obtain ⟨x14_2, hx14_2, hm⟩ := bnd hm
   obtain ⟨hx14_2i, hx14_2g⟩ := geti_some hx14_2
   refine Wz (.d (.ref (List.drop ((Int.toNat y8_1) * 1) (flatD (encI .u32) p0)))) (Oia rfl (encI_len (k := .u32)) hx14_2i hx14_2g) <| Wz (.d (.lit (.int .u32 x14_2))) (Lf1 rfl (encI_len (k := .u32)) hx14_2g) ?_
   obtain ⟨r16_2, hr16_2, hm⟩ := bnd hm
   refine Wz (.b r16_2) (Ocf [] [] [] 0 (ok_trail_Trail_Hit_1 x14_2 p1c0 r16_2 hr16_2) (fun a w => Try.call30 a w) rfl trivial) <| Nk 65955 0 ⟨.l (encI .u32) p0::.clo (.func 30) [] [(.d (.ref [(.lit (.int .u32 p1c0))]))]::tp 3 (.i y8_1::tp 1 (.i ((List.length p0 : Nat) : Int)::.i y8_1::tp 7 (.b r16_2::tp 2 []))), [], 0⟩ ?_
   rcases tf_ r16_2 with hc16_4 | hc16_4
   ·
    replace hm := cT hc16_4 hm
    refine AiT hc16_4 <| Sx <| Wm (.i y8_1) rfl <| Wm (.i y8_1) rfl <| Nn <| Rt <| Ir <| Tr <| RoundK.ret <| Ir <| Tr ?_
    obtain rfl := Option.some.inj hm
    exact ret_i []
   ·
    replace hm := cF hc16_4 hm
    refine AiF hc16_4 <| Sk <| Ino <| Tk 387 0 ⟨.l (encI .u32) p0::.clo (.func 30) [] [(.d (.ref [(.lit (.int .u32 p1c0))]))]::tp 5 (.i ((List.length p0 : Nat) : Int)::.i y8_1::tp 10 []), [], 0⟩ <| Tx <| Wz (.i (W6 (y8_1 + 1))) (Obn rfl (fun _ => hb_add (k := .i64))) <| Wm (.i (W6 (y8_1 + 1))) rfl <| Wn0 <| RoundK.normal ?_
    exact Rounds.weak (Weak.toK 387 0 0 []) (ih_1 (fu_1, (W6 (y8_1 + 1))) hm (Nat.lt_succ_self _))
  ·
   replace hm := cF hc9_3 hm
   refine AiF hc9_3 <| AWP.exit <| Then.exit <| RoundK.exit <| InBlock.same <| Tk 0 0 ⟨tp 19 [], [], 0⟩ <| Sx <| Wm (.i (-1)) rfl <| Nn <| Rt ?_
   obtain rfl := Option.some.inj hm
   exact ret_i []

theorem ok_slices_DeleteFunc_uint32__trail_Trail_Hit_1 (p0 : (List Int)) (p1c0 : Int) (r : (List Int)) (h : m_slices_DeleteFunc_uint32__trail_Trail_Hit_1 p0 p1c0 = some r) : GCall Try.prog 29 [(.own 0), (.clo (.func 30) [] [(.d (.ref [(.lit (.int .u32 p1c0))]))])] [(.arr 25 1 (List.length p0) (flatD (encI .u32) p0))] (.l (encI .u32) r) [.gone] := by
 refine GCall.of_body (n := 42) (rs := [(.tmp 4)]) Try.func29 rfl rfl rfl <| Ato ⟨.own 0::.clo (.func 30) [] [(.d (.ref [(.lit (.int .u32 p1c0))]))]::tu 40 [], [(.arr 25 1 (List.length p0) (flatD (encI .u32) p0))], 1⟩ ?_
 have hm := h
 unfold m_slices_DeleteFunc_uint32__trail_Trail_Hit_1 at hm
 refine Sx <| Wm (.d .nil) rfl <| Nk 3 1 ⟨.own 0::.clo (.func 30) [] [(.d (.ref [(.lit (.int .u32 p1c0))]))]::tp 40 [], [(.arr 25 1 (List.length p0) (flatD (encI .u32) p0))], 1⟩ <| Sx <| Wm (.own 0) rfl <| Wm (.clo (.func 30) [] [(.d (.ref [(.lit (.int .u32 p1c0))]))]) rfl ?_
 obtain ⟨r10_0, hr10_0, hm⟩ := bnd hm
 refine Wz (.i r10_0) (Ocp [] [] [0] 0 (ok_slices_IndexFunc_uint32__trail_Trail_Hit_1 p0 p1c0 r10_0 hr10_0) (plain_triv (by simp [A.Plain, A.Plains, D.Plain, byteD])) (fun a w => Try.call47 a w) rfl trivial) <| Wm (.i r10_0) rfl <| Nk 35 1 ⟨.own 0::.clo (.func 30) [] [(.d (.ref [(.lit (.int .u32 p1c0))]))]::tp 3 (.i r10_0::tp 36 []), [(.arr 25 1 (List.length p0) (flatD (encI .u32) p0))], 1⟩ <| Sq <| Sx <| Wm (.i r10_0) rfl <| Wz (.b (decide (r10_0 = (-1)))) (Obn rfl (fun _ => hb_eql (k := .i64))) <| Nk 4131 1 ⟨.own 0::.clo (.func 30) [] [(.d (.ref [(.lit (.int .u32 p1c0))]))]::tp 3 (.i r10_0::tp 6 (.b (decide (r10_0 = (-1)))::tp 29 [])), [(.arr 25 1 (List.length p0) (flatD (encI .u32) p0))], 1⟩ ?_
 rcases tf_ (decide (r10_0 = (-1))) with hc12_8 | hc12_8
 ·
  replace hm := cT hc12_8 hm
  refine AiT hc12_8 <| Sx <| Wm (.own 0) rfl <| Wm (.own 0) rfl <| Nn <| Afz [0] ⟨.l (encI .u32) p0::.clo (.func 30) [] [(.d (.ref [(.lit (.int .u32 p1c0))]))]::tp 2 (.l (encI .u32) p0::.i r10_0::tp 6 (.b (decide (r10_0 = (-1)))::.l (encI .u32) p0::tp 28 [])), [(.fro 25 1 (List.length p0) (flatD (encI .u32) p0))], 1⟩ <| Ago 0 ⟨.l (encI .u32) p0::.clo (.func 30) [] [(.d (.ref [(.lit (.int .u32 p1c0))]))]::tp 2 (.l (encI .u32) p0::.i r10_0::tp 6 (.b (decide (r10_0 = (-1)))::.l (encI .u32) p0::tp 28 [])), [.gone], 1⟩ <| Rt <| Tr ?_
  obtain rfl := Option.some.inj hm
  exact ret_i [0]
 ·
  replace hm := cF hc12_8 hm
  refine AiF hc12_8 <| Sk <| Tk 35 1 ⟨.own 0::.clo (.func 30) [] [(.d (.ref [(.lit (.int .u32 p1c0))]))]::tp 3 (.i r10_0::tp 36 []), [(.arr 25 1 (List.length p0) (flatD (encI .u32) p0))], 1⟩ <| Sq <| Sx <| Wm (.i r10_0) rfl <| Wz (.i (W6 (r10_0 + 1))) (Obn rfl (fun _ => hb_add (k := .i64))) <| Wm (.i (W6 (r10_0 + 1))) rfl <| Nk 99 1 ⟨.own 0::.clo (.func 30) [] [(.d (.ref [(.lit (.int .u32 p1c0))]))]::tp 3 (.i r10_0::.i (W6 (r10_0 + 1))::tp 35 []), [(.arr 25 1 (List.length p0) (flatD (encI .u32) p0))], 1⟩ <| Bk ?_
  refine AWP.loopI (α := Nat × (List Int) × Int × Int)
    (fun (fu_1, y0_1, y5_1, y6_1) => (⟨.own 0::.clo (.func 30) [] [(.d (.ref [(.lit (.int .u32 p1c0))]))]::tp 3 (.i y5_1::.i y6_1::tp 35 []), [(.arr 25 1 (List.length y0_1) (flatD (encI .u32) y0_1))], 1⟩ : St))
    (fun (fu_1, y0_1, y5_1, y6_1) => m_slices_DeleteFunc_uint32__trail_Trail_Hit_1_l1 p1c0 fu_1 y0_1 y5_1 y6_1 = some r)
    (fun (fu_1, y0_1, y5_1, y6_1) => fu_1) (1152921504606846976, p0, r10_0, (W6 (r10_0 + 1)))
    (Weak.toK 99 0 0 [0]) hm ?_
  rintro ⟨fu_1, y0_1, y5_1, y6_1⟩ n_1 hm ih_1
  try dsimp only at hm ih_1 ⊢
  cases fu_1 with
  | zero => exact absurd hm (by unfold m_slices_DeleteFunc_uint32__trail_Trail_Hit_1_l1; simp)
  | succ fu_1 =>
   unfold m_slices_DeleteFunc_uint32__trail_Trail_Hit_1_l1 at hm
   refine Sq <| Sx <| Wm (.i y6_1) rfl <| Wm (.own 0) rfl <| Wz (.i ((List.length y0_1 : Nat) : Int)) (Oln rfl) <| Wz (.b (decide (y6_1 < ((List.length y0_1 : Nat) : Int)))) (Obn rfl (fun _ => hb_lss (k := .i64))) <| Nk 524387 1 ⟨.own 0::.clo (.func 30) [] [(.d (.ref [(.lit (.int .u32 p1c0))]))]::tp 3 (.i y5_1::.i y6_1::tp 12 (.b (decide (y6_1 < ((List.length y0_1 : Nat) : Int)))::tp 22 [])), [(.arr 25 1 (List.length y0_1) (flatD (encI .u32) y0_1))], 1⟩ ?_
   rcases tf_ (decide (y6_1 < ((List.length y0_1 : Nat) : Int))) with hc19_9 | hc19_9
   ·
    replace hm := cT hc19_9 hm
    refine AiT hc19_9 <| Sk <| Tk 99 1 ⟨.own 0::.clo (.func 30) [] [(.d (.ref [(.lit (.int .u32 p1c0))]))]::tp 3 (.i y5_1::.i y6_1::tp 35 []), [(.arr 25 1 (List.length y0_1) (flatD (encI .u32) y0_1))], 1⟩ <| Sq <| Bk <| Sx <| Wm (.own 0) rfl <| Wm (.i y6_1) rfl ?_
    obtain ⟨x24_3, hx24_3, hm⟩ := bnd hm
    obtain ⟨hx24_3i, hx24_3g⟩ := geti_some hx24_3
    refine Wz (.loc 0 ((Int.toNat y6_1) * 1)) (Oia rfl (encI_len (k := .u32)) hx24_3i hx24_3g) <| Wz (.d (.lit (.int .u32 x24_3))) (Lr1 rfl (encI_len (k := .u32)) hx24_3g) <| Wm (.d (.lit (.int .u32 x24_3))) rfl <| Nk 227 1 ⟨.own 0::.clo (.func 30) [] [(.d (.ref [(.lit (.int .u32 p1c0))]))]::tp 3 (.i y5_1::.i y6_1::.d (.lit (.int .u32 x24_3))::tp 34 []), [(.arr 25 1 (List.length y0_1) (flatD (encI .u32) y0_1))], 1⟩ <| Sx <| Wm (.clo (.func 30) [] [(.d (.ref [(.lit (.int .u32 p1c0))]))]) rfl <| Wm (.d (.lit (.int .u32 x24_3))) rfl ?_
    obtain ⟨r28_4, hr28_4, hm⟩ := bnd hm
    refine Wz (.b r28_4) (Ocf [] [] [] 0 (ok_trail_Trail_Hit_1 x24_3 p1c0 r28_4 hr28_4) (fun a w => Try.call30 a w) rfl trivial) <| Wz (.b (!r28_4)) (Ocs (by kernel_rfl) (op_un rfl (a1 := .bool r28_4) (by kernel_rfl) (fun _ => hu_not))) <| Nk 536871139 1 ⟨.own 0::.clo (.func 30) [] [(.d (.ref [(.lit (.int .u32 p1c0))]))]::tp 3 (.i y5_1::.i y6_1::.d (.lit (.int .u32 x24_3))::tp 21 (.b (!r28_4)::tp 12 [])), [(.arr 25 1 (List.length y0_1) (flatD (encI .u32) y0_1))], 1⟩ ?_
    rcases tf_ (!r28_4) with hc29_10 | hc29_10
    ·
     replace hm := cT hc29_10 hm
     refine AiT hc29_10 <| Sx <| Wm (.own 0) rfl <| Wm (.i y5_1) rfl <| Wm (.d (.lit (.int .u32 x24_3))) rfl ?_
     obtain ⟨x33_5, hx33_5, hm⟩ := bnd hm
     obtain ⟨hx33_5i, hx33_5g⟩ := geti_some hx33_5
     refine Wz (.loc 0 ((Int.toNat y5_1) * 1)) (Oia rfl (encI_len (k := .u32)) hx33_5i hx33_5g) <| Wy (.tup []) [(0, (.arr 25 1 (List.length (List.set y0_1 (Int.toNat y5_1) x24_3)) (flatD (encI .u32) (List.set y0_1 (Int.toNat y5_1) x24_3))))] (Osr 0 rfl (encI_len (k := .u32)) hx33_5g x24_3) <| Nk 99 1 ⟨.own 0::.clo (.func 30) [] [(.d (.ref [(.lit (.int .u32 p1c0))]))]::tp 3 (.i y5_1::.i y6_1::tp 35 []), [(.arr 25 1 (List.length (List.set y0_1 (Int.toNat y5_1) x24_3)) (flatD (encI .u32) (List.set y0_1 (Int.toNat y5_1) x24_3)))], 1⟩ <| Tx <| Wm (.i y5_1) rfl <| Wz (.i (W6 (y5_1 + 1))) (Obn rfl (fun _ => hb_add (k := .i64))) <| Wm (.i (W6 (y5_1 + 1))) rfl <| Wn0 <| Ino <| Tk 99 1 ⟨.own 0::.clo (.func 30) [] [(.d (.ref [(.lit (.int .u32 p1c0))]))]::tp 3 (.i (W6 (y5_1 + 1))::.i y6_1::tp 35 []), [(.arr 25 1 (List.length (List.set y0_1 (Int.toNat y5_1) x24_3)) (flatD (encI .u32) (List.set y0_1 (Int.toNat y5_1) x24_3)))], 1⟩ <| Tx <| Wm (.i y6_1) rfl <| Wz (.i (W6 (y6_1 + 1))) (Obn rfl (fun _ => hb_add (k := .i64))) <| Wm (.i (W6 (y6_1 + 1))) rfl ?_
     refine Wn0 <| RoundK.normal ?_
     exact Rounds.weak (Weak.toK 99 0 0 [0]) (ih_1 (fu_1, (List.set y0_1 (Int.toNat y5_1) x24_3), (W6 (y5_1 + 1)), (W6 (y6_1 + 1))) hm (Nat.lt_succ_self _))
    ·
     replace hm := cF hc29_10 hm
     refine AiF hc29_10 <| Sk <| Ino <| Tk 99 1 ⟨.own 0::.clo (.func 30) [] [(.d (.ref [(.lit (.int .u32 p1c0))]))]::tp 3 (.i y5_1::.i y6_1::tp 35 []), [(.arr 25 1 (List.length y0_1) (flatD (encI .u32) y0_1))], 1⟩ <| Tx <| Wm (.i y6_1) rfl <| Wz (.i (W6 (y6_1 + 1))) (Obn rfl (fun _ => hb_add (k := .i64))) <| Wm (.i (W6 (y6_1 + 1))) rfl <| Wn0 <| RoundK.normal ?_
     exact Rounds.weak (Weak.toK 99 0 0 [0]) (ih_1 (fu_1, y0_1, y5_1, (W6 (y6_1 + 1))) hm (Nat.lt_succ_self _))
   ·
    replace hm := cF hc19_9 hm
    refine AiF hc19_9 <| AWP.exit <| Then.exit <| RoundK.exit <| InBlock.same <| Tk 33 1 ⟨.own 0::tp 4 (.i y5_1::tp 36 []), [(.arr 25 1 (List.length y0_1) (flatD (encI .u32) y0_1))], 1⟩ <| Sx <| Wm (.own 0) rfl <| Wm (.i y5_1) rfl ?_
    obtain ⟨hb38_6, hm⟩ := chk_some hm
    refine Wz (.sub 0 ((Int.toNat y5_1) * 1) (List.length y0_1 - (Int.toNat y5_1) - 1 + 1)) (Osb rfl (e := 25) (k := .i64) (iv := y5_1) (encI_len (k := .u32)) (by omega) (by omega)) <| Wy (.tup []) [(0, (.arr 25 1 (List.length (clr y0_1 (Int.toNat y5_1) (0 : Int))) (flatD (encI .u32) (clr y0_1 (Int.toNat y5_1) (0 : Int)))))] (Ocl rfl elemOK_22 (encI_len (k := .u32)) (by omega)) <| Nk 33 1 ⟨.own 0::tp 4 (.i y5_1::tp 36 []), [(.arr 25 1 (List.length (clr y0_1 (Int.toNat y5_1) (0 : Int))) (flatD (encI .u32) (clr y0_1 (Int.toNat y5_1) (0 : Int))))], 1⟩ <| Sq <| Afz [0] ⟨.l (encI .u32) (clr y0_1 (Int.toNat y5_1) (0 : Int))::tp 4 (.i y5_1::tp 36 []), [(.fro 25 1 (List.length (clr y0_1 (Int.toNat y5_1) (0 : Int))) (flatD (encI .u32) (clr y0_1 (Int.toNat y5_1) (0 : Int))))], 1⟩ <| Tx <| Wm (.l (encI .u32) (clr y0_1 (Int.toNat y5_1) (0 : Int))) rfl <| Wm (.i y5_1) rfl ?_
    obtain ⟨s41_7, hs41_7, hm⟩ := bnd hm; obtain ⟨hs41_7a, hs41_7b, hs41_7c, hs41_7d, hs41_7e⟩ := cut_some hs41_7
    refine Wz (.l (encI .u32) s41_7) (op_cut rfl (e := 25) (sz := 1) (by kernel_rfl) (l := (clr y0_1 (Int.toNat y5_1) (0 : Int))) (enc := (encI .u32)) (by kernel_rfl) (encI_len (k := .u32)) (a := (Int.toNat 0)) (b := (Int.toNat y5_1)) (by exact rfl) (⟨.i64, y5_1, by kernel_rfl, hs41_7b⟩) hs41_7c hs41_7d hs41_7e) <| Wm (.l (encI .u32) s41_7) rfl <| Nn <| Ago 0 ⟨.l (encI .u32) (clr y0_1 (Int.toNat y5_1) (0 : Int))::tp 3 (.l (encI .u32) s41_7::.i y5_1::tp 33 (.l (encI .u32) (clr y0_1 (Int.toNat y5_1) (0 : Int))::.i y5_1::.l (encI .u32) s41_7::[])), [.gone], 1⟩ <| Rt ?_
    obtain rfl := Option.some.inj hm
    exact ret_i [0]

theorem copied_pre (p0 : List GWait) (r : List GWait) : ∀ (fu : Nat) (y3 : List GWait) (y8 : Int), m_trail_copied_l1 p0 fu y3 y8 = some r → ∃ t, r = y3 ++ t
  | 0, y3, y8, h => by unfold m_trail_copied_l1 at h; cases h
  | fu + 1, y3, y8, h => by
    unfold m_trail_copied_l1 at h
    rcases tf_ (decide (y8 < ((List.length p0 : Nat) : Int))) with hc | hc
    · replace h := cT hc h
      obtain ⟨x, hx, h⟩ := bnd h
      obtain ⟨r1, hr1, h⟩ := bnd h
      obtain ⟨r2, hr2, h⟩ := bnd h
      obtain ⟨a, ha, h⟩ := bnd h
      obtain ⟨hae, _⟩ := app_some ha
      obtain ⟨t, ht⟩ := copied_pre p0 r fu a _ h
      exact ⟨_, by rw [ht, hae, List.append_assoc]⟩
    · replace h := cF hc h
      cases h
      exact ⟨[], by simp⟩
theorem okg_copied (p0 : (List GWait)) (j : Nat) (r : (List GWait)) (h : m_trail_copied p0 = some r) (xj : GWait) (hxj : r[j]? = some xj) : GCall Try.prog 24 [(.l enc_GWait p0)] [] (.own 0) [(.rows 42 3 (List.length r) (flatD enc_GWait r) (j * 3 + 1) (.own 1)), (.arr 25 1 (List.length xj.Sets) (flatD (encI .u32) xj.Sets))] := by
 refine GCall.of_body (n := 26) (rs := [(.tmp 2)]) Try.func24 rfl rfl rfl <| Ato ⟨.l enc_GWait p0::tu 25 [], [], 0⟩ ?_
 have hm := h
 unfold m_trail_copied at hm
 refine Sx <| Wm (.d .nil) rfl <| Nk 1 0 ⟨.l enc_GWait p0::tp 25 [], [], 0⟩ <| Sx <| Wm (.d .nil) rfl <| Nk 9 0 ⟨.l enc_GWait p0::tp 2 (.d .nil::tp 22 []), [], 0⟩ <| Sq <| Sx <| Wm (.l enc_GWait p0) rfl <| Wz (.i ((List.length p0 : Nat) : Int)) (Oln rfl) <| Wm (.i 0) rfl <| Nk 456 0 ⟨tp 3 (.d .nil::tp 2 (.l enc_GWait p0::.i ((List.length p0 : Nat) : Int)::.i 0::tp 17 [])), [], 0⟩ <| Bk <| Aow 3 42 3 ⟨tp 3 (.own 0::tp 2 (.l enc_GWait p0::.i ((List.length p0 : Nat) : Int)::.i 0::tp 17 [])), [(Ar 42 3 enc_GWait ([] : List GWait))], 0⟩ ?_
 refine AWP.loopI (α := (Nat × (List GWait) × Int) ⊕ (Nat × (List GWait) × Int))
   (fun x => match x with
     | .inl (fu_1, y3_1, y8_1) => (⟨tp 3 (.own 0::tp 2 (.l enc_GWait p0::.i ((List.length p0 : Nat) : Int)::.i y8_1::tp 17 [])), [(Ar 42 3 enc_GWait y3_1)], 0⟩ : St)
     | .inr (fu_1, y3_1, y8_1) => (⟨tp 3 (.own 0::tp 2 (.l enc_GWait p0::.i ((List.length p0 : Nat) : Int)::.i y8_1::tp 17 [])), [(.rows 42 3 (List.length y3_1) (flatD enc_GWait y3_1) (j * 3 + 1) (.own 1)), (.arr 25 1 (List.length xj.Sets) (flatD (encI .u32) xj.Sets))], 0⟩ : St))
   (fun x => match x with
     | .inl (fu_1, y3_1, y8_1) => m_trail_copied_l1 p0 fu_1 y3_1 y8_1 = some r ∧ y3_1.length ≤ j
     | .inr (fu_1, y3_1, y8_1) => m_trail_copied_l1 p0 fu_1 y3_1 y8_1 = some r ∧ j < y3_1.length)
   (fun x => match x with | .inl (fu_1, y3_1, y8_1) => fu_1 | .inr (fu_1, y3_1, y8_1) => fu_1) (.inl (1152921504606846976, ([] : List GWait), 0))
   (Weak.toK 456 0 0 [0]) ⟨hm, Nat.zero_le _⟩ ?_
 rintro (⟨fu_1, y3_1, y8_1⟩ | ⟨fu_1, y3_1, y8_1⟩) n_1 ⟨hm, hj⟩ ih_1
 · try dsimp only at hm ih_1 ⊢
   cases fu_1 with
   | zero => exact absurd hm (by unfold m_trail_copied_l1; simp)
   | succ fu_1 =>
    have hm0 := hm
    unfold m_trail_copied_l1 at hm
    refine Sx <| Wz (.b (decide (y8_1 < ((List.length p0 : Nat) : Int)))) (Obn rfl (fun _ => hb_lss (k := .i64))) <| Nk 968 1 ⟨tp 3 (.own 0::tp 2 (.l enc_GWait p0::.i ((List.length p0 : Nat) : Int)::.i y8_1::.b (decide (y8_1 < ((List.length p0 : Nat) : Int)))::tp 16 [])), [(Ar 42 3 enc_GWait y3_1)], 0⟩ <| Sq ?_
    rcases tf_ (decide (y8_1 < ((List.length p0 : Nat) : Int))) with hc9_4 | hc9_4
    ·
     replace hm := cT hc9_4 hm
     refine AiT hc9_4 <| Sk <| Tk 456 1 ⟨tp 3 (.own 0::tp 2 (.l enc_GWait p0::.i ((List.length p0 : Nat) : Int)::.i y8_1::tp 17 [])), [(Ar 42 3 enc_GWait y3_1)], 0⟩ <| Sq <| Bk <| Sx ?_
     obtain ⟨x10_2, hx10_2, hm⟩ := bnd hm
     obtain ⟨hx10_2i, hx10_2g⟩ := geti_some hx10_2
     refine Wz (.d (.ref (List.drop ((Int.toNat y8_1) * 3) (flatD enc_GWait p0)))) (Oia rfl enc_GWait_len hx10_2i hx10_2g) <| Wz (.agg [(.l enc_GPair x10_2.Bound), (.l (encI .u32) x10_2.Sets), (.i x10_2.End)]) (Lf rfl enc_GWait_len hx10_2g) <| Wy (.loc 1 0) [(1, (.box [(.d .nil), (.d .nil), (.i 0)]))] (Oal rfl) <| Wy (.tup []) [(1, (.box [(.l enc_GPair x10_2.Bound), (.l (encI .u32) x10_2.Sets), (.i x10_2.End)]))] (Ost rfl) <| Nk 488 3 ⟨tp 3 (.own 0::tp 1 (.loc 1 0::.l enc_GWait p0::.i ((List.length p0 : Nat) : Int)::.i y8_1::tp 17 [])), [(Ar 42 3 enc_GWait y3_1), (.box [(.l enc_GPair x10_2.Bound), (.l (encI .u32) x10_2.Sets), (.i x10_2.End)])], 0⟩ ?_
     obtain ⟨r15_3, hr15_3, hm⟩ := bnd hm
     obtain ⟨r18_3, hr18_3, hm⟩ := bnd hm
     obtain ⟨a23_3, ha23_3, hm⟩ := bnd hm; obtain ⟨ha23_3e, ha23_3l⟩ := app_some ha23_3
     by_cases hjy : y3_1.length = j
     ·
      -- the wait whose sets stay own
      obtain ⟨t0, ht0⟩ := copied_pre p0 r fu_1 a23_3 _ hm
      have hxe : xj = GWait.mk r15_3 r18_3 x10_2.End := by
        rw [ht0, ha23_3e, List.append_assoc, List.getElem?_append_right (by omega), hjy, Nat.sub_self] at hxj
        simpa using hxj.symm
      have hxs : xj.Sets = r18_3 := by rw [hxe]
      refine Adr <| Wm (.own 0) rfl <| Wz (.loc 1 0) (Ofa rfl) <| Wz (.l enc_GPair x10_2.Bound) (Old rfl) <| Wy (.l enc_GPair r15_3) [(2, (Ar 71 6 enc_GPair r15_3)), (2, (.fro 71 6 (List.length r15_3) (flatD enc_GPair r15_3)))] (Ofz [2] (.own 2) [(2, (Ar 71 6 enc_GPair r15_3))] (Ocf [] [2] [] 0 (ok_slices_Clone_Pair x10_2.Bound r15_3 hr15_3) (fun a w => Try.call27 a w) rfl trivial)) <| Wz (.loc 1 1) (Ofa rfl) <| Wz (.l (encI .u32) x10_2.Sets) (Old rfl) <| Wy (.own 3) [(3, (.arr 25 1 (List.length r18_3) (flatD (encI .u32) r18_3)))] (Ocf [] [3] [] 0 (ok_slices_Clone_uint32 x10_2.Sets r18_3 hr18_3) (fun a w => Try.call45 a w) rfl trivial) <| Wz (.loc 1 2) (Ofa rfl) <| Wz (.i x10_2.End) (Old rfl) <| Wz (.agg [(.l enc_GPair r15_3), (.own 3), (.i x10_2.End)]) (Obd rfl) <| Wy (.own 4) [(4, (.rows 42 3 1 (enc_GWait (GWait.mk r15_3 r18_3 x10_2.End)) 1 (.own 3)))] (op_buildSliceH rfl (e := 42) (sz := 3) (zs := [(.d .nil), (.d .nil), (.i 0)]) (ys := [(.l enc_GPair r15_3), (.own 3), (.i x10_2.End)]) (by kernel_rfl) (by kernel_rfl) (by rfl) (by decide) (by rfl) (by kernel_rfl) (by kernel_rfl) (by rfl) (by kernel_rfl)) <| Wy (.own 5) [(0, .gone), (5, (.rows 42 3 (List.length y3_1 + 1) (flatD enc_GWait (y3_1 ++ [GWait.mk r15_3 r18_3 x10_2.End])) (List.length y3_1 * 3 + 1) (.own 3)))] (op_appendH rfl elemOK_33 (id := 0) (xid := 4) (n := List.length y3_1) (k := 1) (xs := (flatD enc_GWait y3_1).map .d) (ys := ((enc_GWait (GWait.mk r15_3 r18_3 x10_2.End)).map .d).set 1 (.own 3)) (by kernel_rfl) (by kernel_rfl) (by kernel_rfl) (by kernel_rfl) (hole_new enc_GWait_len y3_1 _ 1 (.own 3)) (app_bytes1 ha23_3l (by decide)) (by kernel_rfl) (by decide)) <| Wm (.own 5) rfl ?_
      refine Wdr <| Ino <| Tk 456 40 ⟨tp 3 (.own 5::tp 2 (.l enc_GWait p0::.i ((List.length p0 : Nat) : Int)::.i y8_1::tp 17 [])), [.gone, .gone, .gone, (.arr 25 1 (List.length r18_3) (flatD (encI .u32) r18_3)), .gone, (.rows 42 3 (List.length y3_1 + 1) (flatD enc_GWait (y3_1 ++ [GWait.mk r15_3 r18_3 x10_2.End])) (List.length y3_1 * 3 + 1) (.own 3))], 0⟩ <| Tx <| Wz (.i (W6 (y8_1 + 1))) (Obn rfl (fun _ => hb_add (k := .i64))) <| Wm (.i (W6 (y8_1 + 1))) rfl <| Wn0 <| RoundK.normal ?_
      have hal : y3_1.length + 1 = a23_3.length := by rw [ha23_3e]; simp
      rw [hal, ← ha23_3e, hjy, ← hxs]
      exact Rounds.weak (Weak.toK 456 0 0 [5, 3]) (ih_1 (.inr (fu_1, a23_3, (IntKind.i64.wrap (y8_1 + 1)))) ⟨hm, by omega⟩ (Nat.lt_succ_self _))
     ·
      refine Adr <| Wm (.own 0) rfl <| Wz (.loc 1 0) (Ofa rfl) <| Wz (.l enc_GPair x10_2.Bound) (Old rfl) <| Wy (.l enc_GPair r15_3) [(2, (Ar 71 6 enc_GPair r15_3)), (2, (.fro 71 6 (List.length r15_3) (flatD enc_GPair r15_3)))] (Ofz [2] (.own 2) [(2, (Ar 71 6 enc_GPair r15_3))] (Ocf [] [2] [] 0 (ok_slices_Clone_Pair x10_2.Bound r15_3 hr15_3) (fun a w => Try.call27 a w) rfl trivial)) <| Wz (.loc 1 1) (Ofa rfl) <| Wz (.l (encI .u32) x10_2.Sets) (Old rfl) <| Wy (.l (encI .u32) r18_3) [(3, (.arr 25 1 (List.length r18_3) (flatD (encI .u32) r18_3))), (3, (.fro 25 1 (List.length r18_3) (flatD (encI .u32) r18_3)))] (Ofz [3] (.own 3) [(3, (.arr 25 1 (List.length r18_3) (flatD (encI .u32) r18_3)))] (Ocf [] [3] [] 0 (ok_slices_Clone_uint32 x10_2.Sets r18_3 hr18_3) (fun a w => Try.call45 a w) rfl trivial)) <| Wz (.loc 1 2) (Ofa rfl) <| Wz (.i x10_2.End) (Old rfl) <| Wz (.agg [(.l enc_GPair r15_3), (.l (encI .u32) r18_3), (.i x10_2.End)]) (Obd rfl) <| Wy (.own 4) [(4, (Ar 42 3 enc_GWait ([(GWait.mk r15_3 r18_3 x10_2.End)] : List GWait)))] (Obs rfl) <| Wy (.own 5) [(0, .gone), (5, (Ar 42 3 enc_GWait a23_3))] (Oap rfl elemOK_33 enc_GWait_len ha23_3e ha23_3l) <| Wm (.own 5) rfl ?_
      refine Wdr <| Ino <| Tk 456 32 ⟨tp 3 (.own 5::tp 2 (.l enc_GWait p0::.i ((List.length p0 : Nat) : Int)::.i y8_1::tp 17 [])), [.gone, .gone, .gone, .gone, .gone, (Ar 42 3 enc_GWait a23_3)], 0⟩ <| Tx <| Wz (.i (W6 (y8_1 + 1))) (Obn rfl (fun _ => hb_add (k := .i64))) <| Wm (.i (W6 (y8_1 + 1))) rfl <| Wn0 <| RoundK.normal ?_
      exact Rounds.weak (Weak.toK 456 0 0 [5]) (ih_1 (.inl (fu_1, a23_3, (IntKind.i64.wrap (y8_1 + 1)))) ⟨hm, by rw [ha23_3e, List.length_append]; simp; omega⟩ (Nat.lt_succ_self _))
    ·
     replace hm := cF hc9_4 hm
     exfalso
     cases hm
     rw [List.getElem?_eq_none hj] at hxj
     cases hxj
 · try dsimp only at hm ih_1 ⊢
   cases fu_1 with
   | zero => exact absurd hm (by unfold m_trail_copied_l1; simp)
   | succ fu_1 =>
    unfold m_trail_copied_l1 at hm
    refine Sx <| Wz (.b (decide (y8_1 < ((List.length p0 : Nat) : Int)))) (Obn rfl (fun _ => hb_lss (k := .i64))) <| Nk 968 3 ⟨tp 3 (.own 0::tp 2 (.l enc_GWait p0::.i ((List.length p0 : Nat) : Int)::.i y8_1::.b (decide (y8_1 < ((List.length p0 : Nat) : Int)))::tp 16 [])), [(.rows 42 3 (List.length y3_1) (flatD enc_GWait y3_1) (j * 3 + 1) (.own 1)), (.arr 25 1 (List.length xj.Sets) (flatD (encI .u32) xj.Sets))], 0⟩ <| Sq ?_
    rcases tf_ (decide (y8_1 < ((List.length p0 : Nat) : Int))) with hc9_4 | hc9_4
    ·
     replace hm := cT hc9_4 hm
     refine AiT hc9_4 <| Sk <| Tk 456 3 ⟨tp 3 (.own 0::tp 2 (.l enc_GWait p0::.i ((List.length p0 : Nat) : Int)::.i y8_1::tp 17 [])), [(.rows 42 3 (List.length y3_1) (flatD enc_GWait y3_1) (j * 3 + 1) (.own 1)), (.arr 25 1 (List.length xj.Sets) (flatD (encI .u32) xj.Sets))], 0⟩ <| Sq <| Bk <| Sx ?_
     obtain ⟨x10_2, hx10_2, hm⟩ := bnd hm
     obtain ⟨hx10_2i, hx10_2g⟩ := geti_some hx10_2
     refine Wz (.d (.ref (List.drop ((Int.toNat y8_1) * 3) (flatD enc_GWait p0)))) (Oia rfl enc_GWait_len hx10_2i hx10_2g) <| Wz (.agg [(.l enc_GPair x10_2.Bound), (.l (encI .u32) x10_2.Sets), (.i x10_2.End)]) (Lf rfl enc_GWait_len hx10_2g) <| Wy (.loc 2 0) [(2, (.box [(.d .nil), (.d .nil), (.i 0)]))] (Oal rfl) <| Wy (.tup []) [(2, (.box [(.l enc_GPair x10_2.Bound), (.l (encI .u32) x10_2.Sets), (.i x10_2.End)]))] (Ost rfl) <| Nk 488 7 ⟨tp 3 (.own 0::tp 1 (.loc 2 0::.l enc_GWait p0::.i ((List.length p0 : Nat) : Int)::.i y8_1::tp 17 [])), [(.rows 42 3 (List.length y3_1) (flatD enc_GWait y3_1) (j * 3 + 1) (.own 1)), (.arr 25 1 (List.length xj.Sets) (flatD (encI .u32) xj.Sets)), (.box [(.l enc_GPair x10_2.Bound), (.l (encI .u32) x10_2.Sets), (.i x10_2.End)])], 0⟩ ?_
     obtain ⟨r15_3, hr15_3, hm⟩ := bnd hm
     obtain ⟨r18_3, hr18_3, hm⟩ := bnd hm
     obtain ⟨a23_3, ha23_3, hm⟩ := bnd hm; obtain ⟨ha23_3e, ha23_3l⟩ := app_some ha23_3
     refine Adr <| Wm (.own 0) rfl <| Wz (.loc 2 0) (Ofa rfl) <| Wz (.l enc_GPair x10_2.Bound) (Old rfl) <| Wy (.l enc_GPair r15_3) [(3, (Ar 71 6 enc_GPair r15_3)), (3, (.fro 71 6 (List.length r15_3) (flatD enc_GPair r15_3)))] (Ofz [3] (.own 3) [(3, (Ar 71 6 enc_GPair r15_3))] (Ocf [] [3] [] 0 (ok_slices_Clone_Pair x10_2.Bound r15_3 hr15_3) (fun a w => Try.call27 a w) rfl trivial)) <| Wz (.loc 2 1) (Ofa rfl) <| Wz (.l (encI .u32) x10_2.Sets) (Old rfl) <| Wy (.l (encI .u32) r18_3) [(4, (.arr 25 1 (List.length r18_3) (flatD (encI .u32) r18_3))), (4, (.fro 25 1 (List.length r18_3) (flatD (encI .u32) r18_3)))] (Ofz [4] (.own 4) [(4, (.arr 25 1 (List.length r18_3) (flatD (encI .u32) r18_3)))] (Ocf [] [4] [] 0 (ok_slices_Clone_uint32 x10_2.Sets r18_3 hr18_3) (fun a w => Try.call45 a w) rfl trivial)) <| Wz (.loc 2 2) (Ofa rfl) <| Wz (.i x10_2.End) (Old rfl) <| Wz (.agg [(.l enc_GPair r15_3), (.l (encI .u32) r18_3), (.i x10_2.End)]) (Obd rfl) <| Wy (.own 5) [(5, (Ar 42 3 enc_GWait ([(GWait.mk r15_3 r18_3 x10_2.End)] : List GWait)))] (Obs rfl) <| Wy (.own 6) [(0, .gone), (6, (.rows 42 3 (List.length y3_1 + 1) (flatD enc_GWait (y3_1 ++ [GWait.mk r15_3 r18_3 x10_2.End])) (j * 3 + 1) (.own 1)))] (op_appendH rfl elemOK_33 (id := 0) (xid := 5) (n := List.length y3_1) (k := 1) (xs := ((flatD enc_GWait y3_1).map .d).set (j * 3 + 1) (.own 1)) (ys := (flatD enc_GWait ([(GWait.mk r15_3 r18_3 x10_2.End)] : List GWait)).map .d) (by kernel_rfl) (by kernel_rfl) (by kernel_rfl) (by kernel_rfl) (hole_old enc_GWait_len _ hj (by decide) (.own 1)) (app_bytes1 ha23_3l (by decide)) (by kernel_rfl) (by decide)) <| Wm (.own 6) rfl ?_
     refine Wdr <| Ino <| Tk 456 66 ⟨tp 3 (.own 6::tp 2 (.l enc_GWait p0::.i ((List.length p0 : Nat) : Int)::.i y8_1::tp 17 [])), [.gone, (.arr 25 1 (List.length xj.Sets) (flatD (encI .u32) xj.Sets)), .gone, .gone, .gone, .gone, (.rows 42 3 (List.length y3_1 + 1) (flatD enc_GWait (y3_1 ++ [GWait.mk r15_3 r18_3 x10_2.End])) (j * 3 + 1) (.own 1))], 0⟩ <| Tx <| Wz (.i (W6 (y8_1 + 1))) (Obn rfl (fun _ => hb_add (k := .i64))) <| Wm (.i (W6 (y8_1 + 1))) rfl <| Wn0 <| RoundK.normal ?_
     have hal : y3_1.length + 1 = a23_3.length := by rw [ha23_3e]; simp
     rw [hal, ← ha23_3e]
     exact Rounds.weak (Weak.toK 456 0 0 [6, 1]) (ih_1 (.inr (fu_1, a23_3, (IntKind.i64.wrap (y8_1 + 1)))) ⟨hm, by omega⟩ (Nat.lt_succ_self _))
    ·
     replace hm := cF hc9_4 hm
     refine AiF hc9_4 <| AWP.exit <| Then.exit <| RoundK.exit <| InBlock.same <| Tk 8 3 ⟨tp 3 (.own 0::tp 22 []), [(.rows 42 3 (List.length y3_1) (flatD enc_GWait y3_1) (j * 3 + 1) (.own 1)), (.arr 25 1 (List.length xj.Sets) (flatD (encI .u32) xj.Sets))], 0⟩ <| Sx <| Wm (.own 0) rfl <| Wm (.own 0) rfl <| Nn <| Rt ?_
     obtain rfl := Option.some.inj hm
     exact ret_i [0, 1]
theorem fill_eq {l : List GWait} {i : Nat} {x : GWait} {s : List Int} (h : l[i]? = some x) : [(3, Blk.arr 42 3 (List.length l) ((flatD enc_GWait l).set (i * 3 + 1) (D.nn (.sl (List.length s) (flatD (encI .u32) s)))))] = [(3, Blk.arr 42 3 (List.length (List.set l i (GWait.mk x.Bound s x.End))) (flatD enc_GWait (List.set l i (GWait.mk x.Bound s x.End))))] := by
  rw [set_cell enc_GWait_len h (by decide) (y := GWait.mk x.Bound s x.End) rfl, List.length_set]
theorem copied_len {p0 r : List GWait} : ∀ (fu : Nat) (y3 : List GWait) (y8 : Int), y3.length ≤ 1000000000 → m_trail_copied_l1 p0 fu y3 y8 = some r → r.length ≤ 1000000000
  | 0, y3, y8, _, h => by unfold m_trail_copied_l1 at h; cases h
  | fu + 1, y3, y8, hl, h => by
    unfold m_trail_copied_l1 at h
    rcases tf_ (decide (y8 < ((List.length p0 : Nat) : Int))) with hc | hc
    · replace h := cT hc h
      obtain ⟨x, hx, h⟩ := bnd h
      obtain ⟨r1, hr1, h⟩ := bnd h
      obtain ⟨r2, hr2, h⟩ := bnd h
      obtain ⟨a, ha, h⟩ := bnd h
      obtain ⟨hae, hal⟩ := app_some ha
      exact copied_len fu a _ (by rw [hae, List.length_append]; simpa using hal) h
    · replace h := cF hc h
      cases h; exact hl
theorem copied_small {p0 r : List GWait} (h : m_trail_copied p0 = some r) : r.length ≤ 1000000000 := copied_len _ _ _ (by simp) h
theorem call_del1 (l : List GWait) (p1 : Int) (hip : p1 = ((Int.toNat p1 : Nat) : Int)) (hlt : Int.toNat p1 < l.length) (hs : l.length ≤ 1000000000) :
    GCall Try.prog 31 [.own 0, .i p1, .i (W6 (p1 + 1))] [.arr 42 3 (List.length l) (flatD enc_GWait l)] (.own 1) [.gone, .arr 42 3 (List.length (List.eraseIdx l (Int.toNat p1))) (flatD enc_GWait (List.eraseIdx l (Int.toNat p1)))] := by
  have h := call_delete elemOK_33 (by decide) enc_GWait_len l (Int.toNat p1) hlt
  have e : IntKind.wrap .i64 (p1 + 1) = p1 + 1 := by simp [IntKind.wrap, IntKind.signed, IntKind.bits]; omega
  rw [← hip] at h
  show GCall Try.prog 31 [.own 0, .d (.lit (.int .i64 p1)), .d (.lit (.int .i64 (IntKind.wrap .i64 (p1 + 1))))] [.arr 42 3 (List.length l) (flatD enc_GWait l)] (.own 1) [.gone, .arr 42 3 (List.length (List.eraseIdx l (Int.toNat p1))) (flatD enc_GWait (List.eraseIdx l (Int.toNat p1)))]
  rw [e]
  exact h
theorem ok_trail_Trail_Hit (p0 : GTrail) (p1 : Int) (p2 : Int) (r : GTrail) (h : m_trail_Trail_Hit p0 p1 p2 = some r) : GCall Try.prog 12 [(.agg [(.i p0.Cap), (.l enc_GWait p0.L)]), (.i p1), (.d (.lit (.int .u32 p2)))] [] (.agg [(.i r.Cap), (.l enc_GWait r.L)]) [] := by
 refine GCall.of_body (n := 53) (rs := [(.cell 6 35)]) Try.func12 rfl rfl rfl <| Ato ⟨.agg [(.i p0.Cap), (.l enc_GWait p0.L)]::.i p1::.d (.lit (.int .u32 p2))::tu 50 [], [], 0⟩ ?_
 have hm := h
 unfold m_trail_Trail_Hit at hm
 refine Sx <| Wy (.loc 0 0) [(0, (.box [(.i p0.Cap), (.l enc_GWait p0.L)]))] (Obx rfl) <| Wy (.loc 1 0) [(1, (.box [(.d (.lit (.int .u32 p2)))]))] (Obx rfl) <| Wy (.loc 2 0) [(2, (.box [(.i 0), (.d .nil)]))] (Oal rfl) <| Nk 106 7 ⟨tp 1 (.i p1::tp 1 (.loc 0 0::tp 1 (.loc 1 0::.loc 2 0::tp 46 []))), [(.box [(.i p0.Cap), (.l enc_GWait p0.L)]), (.box [(.d (.lit (.int .u32 p2)))]), (.box [(.i 0), (.d .nil)])], 0⟩ <| Sq <| Adr <| Wz (.loc 0 0) (Ofa rfl) <| Wz (.i p0.Cap) (Old rfl) <| Wz (.loc 0 1) (Ofa rfl) <| Wz (.l enc_GWait p0.L) (Old rfl) ?_
 obtain ⟨r12_0, hr12_0, hm⟩ := bnd hm
 by_cases hin : 0 ≤ p1 ∧ p1 < ((List.length r12_0 : Nat) : Int)
 · have hip : p1 = ((Int.toNat p1 : Nat) : Int) := by omega
   have hlt : Int.toNat p1 < List.length r12_0 := by omega
   obtain ⟨xj, hxj⟩ : ∃ x, r12_0[Int.toNat p1]? = some x := ⟨_, List.getElem?_eq_getElem hlt⟩
   have hcell : Int.toNat p1 * 3 + 1 < (flatD enc_GWait r12_0).length := hole_lt enc_GWait_len hlt (by decide)
   have hsm := copied_small hr12_0
   refine Wy (.own 3) [(3, (.rows 42 3 (List.length r12_0) (flatD enc_GWait r12_0) (Int.toNat p1 * 3 + 1) (.own 4))), (4, (.arr 25 1 (List.length xj.Sets) (flatD (encI .u32) xj.Sets)))] (Ocf [] [3, 4] [] 0 (okg_copied p0.L (Int.toNat p1) r12_0 hr12_0 xj hxj) (fun a w => Try.call24 a w) rfl trivial) <| Wz (.agg [(.i p0.Cap), (.own 3)]) (Obd rfl) <| Wy (.loc 5 0) [(5, (.box [(.i 0), (.d .nil)]))] (Oal rfl) <| Wy (.tup []) [(5, (.box [(.i p0.Cap), (.own 3)]))] (Ost rfl) <| Wdr <| Tk 226 62 ⟨tp 1 (.i p1::tp 3 (.loc 1 0::.loc 2 0::.loc 5 0::tp 45 [])), [.gone, (.box [(.d (.lit (.int .u32 p2)))]), (.box [(.i 0), (.d .nil)]), (.rows 42 3 (List.length r12_0) (flatD enc_GWait r12_0) (Int.toNat p1 * 3 + 1) (.own 4)), (.arr 25 1 (List.length xj.Sets) (flatD (encI .u32) xj.Sets)), (.box [(.i p0.Cap), (.own 3)])], 0⟩ <| Sq <| Sx <| Wm (.i p1) rfl <| Wz (.b (decide (p1 < 0))) (Obn rfl (fun _ => hb_lss (k := .i64))) ?_
   rcases tf_ (decide (p1 < 0)) with hq16_1 | hq16_1
   ·
    exact absurd hin.1 (Int.not_le.2 (of_decide_eq_true hq16_1))
   ·
    replace hm := cF hq16_1 hm
    refine Wz (.b false) (Oq hq16_1 rfl) <| Wm (.i p1) rfl <| Wz (.loc 5 1) (Ofa rfl) <| Wz (.own 3) (Old rfl) <| Wz (.i ((List.length r12_0 : Nat) : Int)) (op_lenR rfl (e' := 42) (id := 3) (e := 42) (sz := 3) (xs := (((flatD enc_GWait r12_0).map .d).set (Int.toNat p1 * 3 + 1) (.own 4))) (by kernel_rfl) (by kernel_rfl) (by kernel_rfl)) <| Wz (.b (decide (((List.length r12_0 : Nat) : Int) ≤ p1))) (Obn rfl (fun _ => hb_geq (k := .i64))) <| Wz (.b (decide (((List.length r12_0 : Nat) : Int) ≤ p1))) (OpF rfl) <| Nk 4194530 62 ⟨tp 1 (.i p1::tp 3 (.loc 1 0::.loc 2 0::.loc 5 0::tp 14 (.b (decide (((List.length r12_0 : Nat) : Int) ≤ p1))::tp 30 []))), [.gone, (.box [(.d (.lit (.int .u32 p2)))]), (.box [(.i 0), (.d .nil)]), (.rows 42 3 (List.length r12_0) (flatD enc_GWait r12_0) (Int.toNat p1 * 3 + 1) (.own 4)), (.arr 25 1 (List.length xj.Sets) (flatD (encI .u32) xj.Sets)), (.box [(.i p0.Cap), (.own 3)])], 0⟩ ?_
    rcases tf_ (decide (((List.length r12_0 : Nat) : Int) ≤ p1)) with hc22_5 | hc22_5
    ·
     exact absurd hin.2 (Int.not_lt.2 (of_decide_eq_true hc22_5))
    ·
     replace hm := cF hc22_5 hm
     refine AiF hc22_5 <| Sk <| Tk 226 62 ⟨tp 1 (.i p1::tp 3 (.loc 1 0::.loc 2 0::.loc 5 0::tp 45 [])), [.gone, (.box [(.d (.lit (.int .u32 p2)))]), (.box [(.i 0), (.d .nil)]), (.rows 42 3 (List.length r12_0) (flatD enc_GWait r12_0) (Int.toNat p1 * 3 + 1) (.own 4)), (.arr 25 1 (List.length xj.Sets) (flatD (encI .u32) xj.Sets)), (.box [(.i p0.Cap), (.own 3)])], 0⟩ <| Sq <| Adr <| Wz (.loc 5 1) (Ofa rfl) <| Wz (.own 3) (Old rfl) <| Wm (.i p1) rfl <| Wz (.loc 5 1) (Ofa rfl) <| Wz (.own 3) (Old rfl) <| Wm (.i p1) rfl ?_
     obtain ⟨x30_2, hx30_2, hm⟩ := bnd hm
     obtain ⟨hx30_2i, hx30_2g⟩ := geti_some hx30_2
     refine Wz (.loc 3 ((Int.toNat p1) * 3)) (op_iaddrR rfl (id := 3) (e := 42) (e' := 42) (sz := 3) (n := List.length r12_0) (xs := (((flatD enc_GWait r12_0).map .d).set (Int.toNat p1 * 3 + 1) (.own 4))) (k := .i64) (iv := p1) (i := Int.toNat p1) (by kernel_rfl) (by kernel_rfl) (by kernel_rfl) (by kernel_rfl) hip hlt) <| Wz (.loc 3 ((Int.toNat p1) * 3 + 1)) (Ofa rfl) <| Wz (.own 4) (op_load_at (.own 4) rfl (y := .loc 3 (Int.toNat p1 * 3 + 1)) (xs := (((flatD enc_GWait r12_0).map .d).set (Int.toNat p1 * 3 + 1) (.own 4))) (off := Int.toNat p1 * 3 + 1) (by kernel_rfl) (by kernel_rfl) (by kernel_rfl) (hole_get hcell)) <| Wz (.clo (.func 30) [] [(.loc 1 0)]) (Ocs (by kernel_rfl) (op_mkfn rfl)) ?_
     obtain ⟨r34_2, hr34_2, hm⟩ := bnd hm
     have hxe : xj = x30_2 := Option.some.inj (hxj.symm.trans hx30_2g)
     have hr34x : m_slices_DeleteFunc_uint32__trail_Trail_Hit_1 xj.Sets p2 = some r34_2 := by rw [hxe]; exact hr34_2
     refine Wy (.l (encI .u32) r34_2) [(4, .gone), (1, .gone)] (Ocf [4] [] [1] 0 (ok_slices_DeleteFunc_uint32__trail_Trail_Hit_1 xj.Sets p2 r34_2 hr34x) (fun a w => Try.call29 a w) rfl ⟨rfl, trivial⟩) ?_
     obtain ⟨x35_2, hx35_2, hm⟩ := bnd hm
     obtain ⟨hx35_2i, hx35_2g⟩ := geti_some hx35_2
     refine Wz (.loc 3 ((Int.toNat p1) * 3)) (op_iaddrR rfl (id := 3) (e := 42) (e' := 42) (sz := 3) (n := List.length r12_0) (xs := (((flatD enc_GWait r12_0).map .d).set (Int.toNat p1 * 3 + 1) (.own 4))) (k := .i64) (iv := p1) (i := Int.toNat p1) (by kernel_rfl) (by kernel_rfl) (by kernel_rfl) (by kernel_rfl) hip hlt) <| Wz (.loc 3 ((Int.toNat p1) * 3 + 1)) (Ofa rfl) <| Wy (.tup []) [(3, (Ar 42 3 enc_GWait (List.set r12_0 (Int.toNat p1) (GWait.mk x35_2.Bound r34_2 x35_2.End))))] (OcB (op_fillHole rfl (id := 3) (e := 42) (sz := 3) (n := List.length r12_0) (k := Int.toNat p1 * 3 + 1) (ds := flatD enc_GWait r12_0) (a := .own 4) (z := .sl (List.length r34_2) (flatD (encI .u32) r34_2)) (by kernel_rfl) (by kernel_rfl) (by kernel_rfl) (by kernel_rfl) (by kernel_rfl) hcell) (fill_eq hx35_2g)) <| Wdr <| Tk 194 44 ⟨tp 1 (.i p1::tp 4 (.loc 2 0::.loc 5 0::tp 45 [])), [.gone, .gone, (.box [(.i 0), (.d .nil)]), (Ar 42 3 enc_GWait (List.set r12_0 (Int.toNat p1) (GWait.mk x35_2.Bound r34_2 x35_2.End))), .gone, (.box [(.i p0.Cap), (.own 3)])], 0⟩ <| Sq <| Sx <| Wz (.loc 5 1) (Ofa rfl) <| Wz (.own 3) (Old rfl) <| Wm (.i p1) rfl ?_
     obtain ⟨x40_3, hx40_3, hm⟩ := bnd hm
     obtain ⟨hx40_3i, hx40_3g⟩ := geti_some hx40_3
     refine Wz (.loc 3 ((Int.toNat p1) * 3)) (Oia rfl enc_GWait_len hx40_3i hx40_3g) <| Wz (.loc 3 ((Int.toNat p1) * 3 + 1)) (Ofa rfl) <| Wz (.l (encI .u32) x40_3.Sets) (Lrk1 1 rfl enc_GWait_len hx40_3g) <| Wz (.i ((List.length x40_3.Sets : Nat) : Int)) (Oln rfl) <| Wz (.b (decide (((List.length x40_3.Sets : Nat) : Int) = 0))) (Obn rfl (fun _ => hb_eql (k := .i64))) <| Nk 17592186044610 44 ⟨tp 1 (.i p1::tp 4 (.loc 2 0::.loc 5 0::tp 36 (.b (decide (((List.length x40_3.Sets : Nat) : Int) = 0))::tp 8 []))), [.gone, .gone, (.box [(.i 0), (.d .nil)]), (Ar 42 3 enc_GWait (List.set r12_0 (Int.toNat p1) (GWait.mk x35_2.Bound r34_2 x35_2.End))), .gone, (.box [(.i p0.Cap), (.own 3)])], 0⟩ ?_
     have hdel := call_del1 (List.set r12_0 (Int.toNat p1) (GWait.mk x35_2.Bound r34_2 x35_2.End)) p1 hip (by rw [List.length_set]; exact hlt) (by rw [List.length_set]; exact hsm)
     rcases tf_ (decide (((List.length x40_3.Sets : Nat) : Int) = 0)) with hc44_6 | hc44_6
     ·
      replace hm := cT hc44_6 hm
      refine AiT hc44_6 <| Tx <| Wz (.loc 5 1) (Ofa rfl) <| Wz (.own 3) (Old rfl) <| Wm (.i p1) rfl <| Wm (.i p1) rfl <| Wz (.i (W6 (p1 + 1))) (Obn rfl (fun _ => hb_add (k := .i64))) <| Wy (.l enc_GWait (List.eraseIdx (List.set r12_0 (Int.toNat p1) (GWait.mk x35_2.Bound r34_2 x35_2.End)) (Int.toNat p1))) [(3, .gone), (6, (Ar 42 3 enc_GWait (List.eraseIdx (List.set r12_0 (Int.toNat p1) (GWait.mk x35_2.Bound r34_2 x35_2.End)) (Int.toNat p1)))), (6, (.fro 42 3 (List.length (List.eraseIdx (List.set r12_0 (Int.toNat p1) (GWait.mk x35_2.Bound r34_2 x35_2.End)) (Int.toNat p1))) (flatD enc_GWait (List.eraseIdx (List.set r12_0 (Int.toNat p1) (GWait.mk x35_2.Bound r34_2 x35_2.End)) (Int.toNat p1)))))] (Ofz [6] (.own 6) [(3, .gone), (6, (Ar 42 3 enc_GWait (List.eraseIdx (List.set r12_0 (Int.toNat p1) (GWait.mk x35_2.Bound r34_2 x35_2.End)) (Int.toNat p1))))] (Ocf [3] [6] [] 0 hdel (fun a w => Try.call31 a w) rfl ⟨rfl, trivial⟩)) <| Wz (.loc 5 1) (Ofa rfl) <| Wy (.tup []) [(5, (.box [(.i p0.Cap), (.l enc_GWait (List.eraseIdx (List.set r12_0 (Int.toNat p1) (GWait.mk x35_2.Bound r34_2 x35_2.End)) (Int.toNat p1)))]))] (Ost rfl) <| Nk 192 36 ⟨tp 6 (.loc 2 0::.loc 5 0::tp 45 []), [.gone, .gone, (.box [(.i 0), (.d .nil)]), .gone, .gone, (.box [(.i p0.Cap), (.l enc_GWait (List.eraseIdx (List.set r12_0 (Int.toNat p1) (GWait.mk x35_2.Bound r34_2 x35_2.End)) (Int.toNat p1)))]), .gone], 0⟩ <| Sx <| Wz (.agg [(.i p0.Cap), (.l enc_GWait (List.eraseIdx (List.set r12_0 (Int.toNat p1) (GWait.mk x35_2.Bound r34_2 x35_2.End)) (Int.toNat p1)))]) (Old rfl) <| Wy (.tup []) [(2, (.box [(.i p0.Cap), (.l enc_GWait (List.eraseIdx (List.set r12_0 (Int.toNat p1) (GWait.mk x35_2.Bound r34_2 x35_2.End)) (Int.toNat p1)))]))] (Ost rfl) ?_
      refine Nn <| Rt ?_
      obtain rfl := Option.some.inj hm
      exact ret_i []
     ·
      replace hm := cF hc44_6 hm
      refine AiF hc44_6 <| Sk <| Tk 192 44 ⟨tp 6 (.loc 2 0::.loc 5 0::tp 45 []), [.gone, .gone, (.box [(.i 0), (.d .nil)]), (Ar 42 3 enc_GWait (List.set r12_0 (Int.toNat p1) (GWait.mk x35_2.Bound r34_2 x35_2.End))), .gone, (.box [(.i p0.Cap), (.own 3)])], 0⟩ <| Sx <| Wz (.agg [(.i p0.Cap), (.own 3)]) (Old rfl) <| Wy (.tup []) [(2, (.box [(.i p0.Cap), (.own 3)]))] (Ost rfl) <| Nn <| Afz [3] ⟨tp 6 (.loc 2 0::.loc 5 0::tp 44 (.agg [(.i p0.Cap), (.l enc_GWait (List.set r12_0 (Int.toNat p1) (GWait.mk x35_2.Bound r34_2 x35_2.End)))]::[])), [.gone, .gone, (.box [(.i p0.Cap), (.l enc_GWait (List.set r12_0 (Int.toNat p1) (GWait.mk x35_2.Bound r34_2 x35_2.End)))]), (.fro 42 3 (List.length (List.set r12_0 (Int.toNat p1) (GWait.mk x35_2.Bound r34_2 x35_2.End))) (flatD enc_GWait (List.set r12_0 (Int.toNat p1) (GWait.mk x35_2.Bound r34_2 x35_2.End)))), .gone, (.box [(.i p0.Cap), (.l enc_GWait (List.set r12_0 (Int.toNat p1) (GWait.mk x35_2.Bound r34_2 x35_2.End)))])], 0⟩ <| Rt ?_
      obtain rfl := Option.some.inj hm
      exact ret_i []
 ·
  refine Wy (.own 3) [(3, (Ar 42 3 enc_GWait r12_0))] (Ocf [] [3] [] 0 (ok_trail_copied p0.L r12_0 hr12_0) (fun a w => Try.call24 a w) rfl trivial) <| Wz (.agg [(.i p0.Cap), (.own 3)]) (Obd rfl) <| Wy (.loc 4 0) [(4, (.box [(.i 0), (.d .nil)]))] (Oal rfl) <| Wy (.tup []) [(4, (.box [(.i p0.Cap), (.own 3)]))] (Ost rfl) <| Wdr <| Tk 226 30 ⟨tp 1 (.i p1::tp 3 (.loc 1 0::.loc 2 0::.loc 4 0::tp 45 [])), [.gone, (.box [(.d (.lit (.int .u32 p2)))]), (.box [(.i 0), (.d .nil)]), (Ar 42 3 enc_GWait r12_0), (.box [(.i p0.Cap), (.own 3)])], 0⟩ <| Sq <| Sx <| Wm (.i p1) rfl <| Wz (.b (decide (p1 < 0))) (Obn rfl (fun _ => hb_lss (k := .i64))) ?_
  rcases tf_ (decide (p1 < 0)) with hq16_1 | hq16_1
  ·
   replace hm := cT hq16_1 hm
   refine Wz (.b true) (Oq hq16_1 rfl) <| Wn <| Wn <| Wn <| Wn <| Wn <| Wz (.b true) (OpT rfl) <| Nk 4194530 30 ⟨tp 1 (.i p1::tp 3 (.loc 1 0::.loc 2 0::.loc 4 0::tp 14 (.b true::tp 30 []))), [.gone, (.box [(.d (.lit (.int .u32 p2)))]), (.box [(.i 0), (.d .nil)]), (Ar 42 3 enc_GWait r12_0), (.box [(.i p0.Cap), (.own 3)])], 0⟩ <| AWP.if_ true (by kernel_rfl) <| Sx <| Wz (.agg [(.i p0.Cap), (.own 3)]) (Old rfl) <| Wy (.tup []) [(2, (.box [(.i p0.Cap), (.own 3)]))] (Ost rfl) <| Nn <| Afz [3] ⟨tp 1 (.i p1::tp 3 (.loc 1 0::.loc 2 0::.loc 4 0::tp 14 (.b true::.agg [(.i p0.Cap), (.l enc_GWait r12_0)]::tp 29 []))), [.gone, (.box [(.d (.lit (.int .u32 p2)))]), (.box [(.i p0.Cap), (.l enc_GWait r12_0)]), (.fro 42 3 (List.length r12_0) (flatD enc_GWait r12_0)), (.box [(.i p0.Cap), (.l enc_GWait r12_0)])], 0⟩ ?_
   refine Rt <| Tr ?_
   obtain rfl := Option.some.inj hm
   exact ret_i []
  ·
   replace hm := cF hq16_1 hm
   refine Wz (.b false) (Oq hq16_1 rfl) <| Wm (.i p1) rfl <| Wz (.loc 4 1) (Ofa rfl) <| Wz (.own 3) (Old rfl) <| Wz (.i ((List.length r12_0 : Nat) : Int)) (Oln rfl) <| Wz (.b (decide (((List.length r12_0 : Nat) : Int) ≤ p1))) (Obn rfl (fun _ => hb_geq (k := .i64))) <| Wz (.b (decide (((List.length r12_0 : Nat) : Int) ≤ p1))) (OpF rfl) <| Nk 4194530 30 ⟨tp 1 (.i p1::tp 3 (.loc 1 0::.loc 2 0::.loc 4 0::tp 14 (.b (decide (((List.length r12_0 : Nat) : Int) ≤ p1))::tp 30 []))), [.gone, (.box [(.d (.lit (.int .u32 p2)))]), (.box [(.i 0), (.d .nil)]), (Ar 42 3 enc_GWait r12_0), (.box [(.i p0.Cap), (.own 3)])], 0⟩ ?_
   rcases tf_ (decide (((List.length r12_0 : Nat) : Int) ≤ p1)) with hc22_5 | hc22_5
   ·
    replace hm := cT hc22_5 hm
    refine AiT hc22_5 <| Sx <| Wz (.agg [(.i p0.Cap), (.own 3)]) (Old rfl) <| Wy (.tup []) [(2, (.box [(.i p0.Cap), (.own 3)]))] (Ost rfl) <| Nn <| Afz [3] ⟨tp 1 (.i p1::tp 3 (.loc 1 0::.loc 2 0::.loc 4 0::tp 14 (.b (decide (((List.length r12_0 : Nat) : Int) ≤ p1))::.agg [(.i p0.Cap), (.l enc_GWait r12_0)]::tp 29 []))), [.gone, (.box [(.d (.lit (.int .u32 p2)))]), (.box [(.i p0.Cap), (.l enc_GWait r12_0)]), (.fro 42 3 (List.length r12_0) (flatD enc_GWait r12_0)), (.box [(.i p0.Cap), (.l enc_GWait r12_0)])], 0⟩ <| Rt <| Tr ?_
    obtain rfl := Option.some.inj hm
    exact ret_i []
   ·
    exact absurd ⟨Int.not_lt.1 (of_decide_eq_false hq16_1), Int.not_le.1 (of_decide_eq_false hc22_5)⟩ hin

theorem ok_trail_Trail_Ripe_1 (p0 : GWait) (p1 : GWait) (r : Int) (h : m_trail_Trail_Ripe_1 p0 p1 = some r) : GCall Try.prog 33 [(.agg [(.l enc_GPair p0.Bound), (.l (encI .u32) p0.Sets), (.i p0.End)]), (.agg [(.l enc_GPair p1.Bound), (.l (encI .u32) p1.Sets), (.i p1.End)])] [] (.i r) [] := by
 refine GCall.of_body (n := 17) (rs := [(.tmp 4)]) Try.func33 rfl rfl rfl <| Ato ⟨.agg [(.l enc_GPair p0.Bound), (.l (encI .u32) p0.Sets), (.i p0.End)]::.agg [(.l enc_GPair p1.Bound), (.l (encI .u32) p1.Sets), (.i p1.End)]::tu 15 [], [], 0⟩ ?_
 have hm := h
 unfold m_trail_Trail_Ripe_1 at hm
 refine Sx <| Wy (.loc 0 0) [(0, (.box [(.l enc_GPair p0.Bound), (.l (encI .u32) p0.Sets), (.i p0.End)]))] (Obx rfl) <| Wy (.loc 1 0) [(1, (.box [(.l enc_GPair p1.Bound), (.l (encI .u32) p1.Sets), (.i p1.End)]))] (Obx rfl) <| Wm (.i 0) rfl <| Nk 12 3 ⟨tp 2 (.loc 0 0::.loc 1 0::tp 13 []), [(.box [(.l enc_GPair p0.Bound), (.l (encI .u32) p0.Sets), (.i p0.End)]), (.box [(.l enc_GPair p1.Bound), (.l (encI .u32) p1.Sets), (.i p1.End)])], 0⟩ <| Sq <| Adr <| Wz (.loc 0 2) (Ofa rfl) <| Wz (.i p0.End) (Old rfl) <| Wz (.loc 1 2) (Ofa rfl) <| Wz (.i p1.End) (Old rfl) ?_
 obtain ⟨r9_0, hr9_0, hm⟩ := bnd hm
 refine Wz (.i r9_0) (Ocf [] [] [] 0 (ok_cmp_Compare_int p0.End p1.End r9_0 hr9_0) (fun a w => Try.call35 a w) rfl trivial) <| Wz (.loc 0 0) (Ofa rfl) <| Wz (.l enc_GPair p0.Bound) (Old rfl) <| Wz (.loc 1 0) (Ofa rfl) <| Wz (.l enc_GPair p1.Bound) (Old rfl) ?_
 obtain ⟨r14_0, hr14_0, hm⟩ := bnd hm
 refine Wz (.i r14_0) (Ocf [] [] [] 0 (ok_bind_Rank p0.Bound p1.Bound r14_0 hr14_0) (fun a w => Try.call15 a w) rfl trivial) <| Wy (.own 2) [(2, (.arr 3 1 (List.length ([r9_0, r14_0] : List Int)) (flatD (encI .i64) ([r9_0, r14_0] : List Int))))] (Obs rfl) ?_
 obtain ⟨r16_0, hr16_0, hm⟩ := bnd hm
 refine Wz (.i r16_0) (Ocp [] [] [2] 0 (ok_cmp_Or_int ([r9_0, r14_0] : List Int) r16_0 hr16_0) (plain_triv (by simp [A.Plain, A.Plains, D.Plain, byteD])) (fun a w => Try.call34 a w) rfl trivial) <| Wm (.i r16_0) rfl <| Wdr <| Tn <| Rt ?_
 obtain rfl := Option.some.inj hm
 exact ret_i []

theorem ok_slices_insertionSortCmpFunc_trail_Wait__trail_Trail_Ripe_1 (p0 : (List GWait)) (p1 : Int) (p2 : Int) (r : (List GWait)) (h : m_slices_insertionSortCmpFunc_trail_Wait__trail_Trail_Ripe_1 p0 p1 p2 = some r) : GCall Try.prog 65 [(.own 0), (.i p1), (.i p2), (.clo (.func 33) [] [])] [(Ar 42 3 enc_GWait p0)] (.tup []) [(Ar 42 3 enc_GWait r)] := by
 refine GCall.of_body (n := 53) (rs := []) Try.func65 rfl rfl rfl <| Ato ⟨.own 0::.i p1::.i p2::.clo (.func 33) [] []::tu 49 [], [(Ar 42 3 enc_GWait p0)], 1⟩ ?_
 have hm := h
 unfold m_slices_insertionSortCmpFunc_trail_Wait__trail_Trail_Ripe_1 at hm
 refine Sx <| Wm (.i p1) rfl <| Wz (.i (W6 (p1 + 1))) (Obn rfl (fun _ => hb_add (k := .i64))) <| Wm (.i (W6 (p1 + 1))) rfl <| Nk 271 1 ⟨.own 0::.i p1::.i p2::.clo (.func 33) [] []::tp 4 (.i (W6 (p1 + 1))::tp 44 []), [(Ar 42 3 enc_GWait p0)], 1⟩ <| Bk ?_
 refine AWP.loopI (α := Nat × (List GWait) × Int)
   (fun (fu_0, y0_0, y8_0) => (⟨.own 0::.i p1::.i p2::.clo (.func 33) [] []::tp 4 (.i y8_0::tp 44 []), [(Ar 42 3 enc_GWait y0_0)], 1⟩ : St))
   (fun (fu_0, y0_0, y8_0) => m_slices_insertionSortCmpFunc_trail_Wait__trail_Trail_Ripe_1_l0 p1 p2 fu_0 y0_0 y8_0 = some r)
   (fun (fu_0, y0_0, y8_0) => fu_0) (1152921504606846976, p0, (W6 (p1 + 1)))
   (Weak.toK 271 0 0 [0]) hm ?_
 rintro ⟨fu_0, y0_0, y8_0⟩ n_0 hm ih_0
 try dsimp only at hm ih_0 ⊢
 cases fu_0 with
 | zero => exact absurd hm (by unfold m_slices_insertionSortCmpFunc_trail_Wait__trail_Trail_Ripe_1_l0; simp)
 | succ fu_0 =>
  unfold m_slices_insertionSortCmpFunc_trail_Wait__trail_Trail_Ripe_1_l0 at hm
  refine Sq <| Sx <| Wm (.i y8_0) rfl <| Wm (.i p2) rfl <| Wz (.b (decide (y8_0 < p2))) (Obn rfl (fun _ => hb_lss (k := .i64))) <| Nk 16655 1 ⟨.own 0::.i p1::.i p2::.clo (.func 33) [] []::tp 4 (.i y8_0::tp 5 (.b (decide (y8_0 < p2))::tp 38 [])), [(Ar 42 3 enc_GWait y0_0)], 1⟩ ?_
  rcases tf_ (decide (y8_0 < p2)) with hc14_4 | hc14_4
  ·
   replace hm := cT hc14_4 hm
   refine AiT hc14_4 <| Sk <| Tk 271 1 ⟨.own 0::.i p1::.i p2::.clo (.func 33) [] []::tp 4 (.i y8_0::tp 44 []), [(Ar 42 3 enc_GWait y0_0)], 1⟩ <| Sq <| Bk <| Sx <| Wm (.i y8_0) rfl <| Wm (.i y8_0) rfl <| Nk 783 1 ⟨.own 0::.i p1::.i p2::.clo (.func 33) [] []::tp 4 (.i y8_0::.i y8_0::tp 43 []), [(Ar 42 3 enc_GWait y0_0)], 1⟩ <| Bk ?_
   refine AWP.loopI (α := Nat × (List GWait) × Int)
     (fun (fu_1, y0_1, y9_1) => (⟨.own 0::.i p1::.i p2::.clo (.func 33) [] []::tp 4 (.i y8_0::.i y9_1::tp 43 []), [(Ar 42 3 enc_GWait y0_1)], 1⟩ : St))
     (fun (fu_1, y0_1, y9_1) => m_slices_insertionSortCmpFunc_trail_Wait__trail_Trail_Ripe_1_l1 p1 y8_0 (fun y0_0 y8_0 => m_slices_insertionSortCmpFunc_trail_Wait__trail_Trail_Ripe_1_l0 p1 p2 fu_0 y0_0 y8_0) fu_1 y0_1 y9_1 = some r)
     (fun (fu_1, y0_1, y9_1) => fu_1) (1152921504606846976, y0_0, y8_0)
     (Weak.toK 783 0 0 [0]) hm ?_
   rintro ⟨fu_1, y0_1, y9_1⟩ n_1 hm ih_1
   try dsimp only at hm ih_1 ⊢
   cases fu_1 with
   | zero => exact absurd hm (by unfold m_slices_insertionSortCmpFunc_trail_Wait__trail_Trail_Ripe_1_l1; simp)
   | succ fu_1 =>
    unfold m_slices_insertionSortCmpFunc_trail_Wait__trail_Trail_Ripe_1_l1 at hm
    refine Sq <| Sq <| Adr <| Wm (.i y9_1) rfl <| Wm (.i p1) rfl <| Wz (.b (decide (p1 < y9_1))) (Obn rfl (fun _ => hb_gtr (k := .i64))) ?_
    rcases tf_ (decide (p1 < y9_1)) with hq21_2 | hq21_2
    ·
     replace hm := cT hq21_2 hm
     refine Wz (.b true) (Oq hq21_2 rfl) <| Wm (.clo (.func 33) [] []) rfl <| Wm (.own 0) rfl <| Wm (.i y9_1) rfl ?_
     obtain ⟨x25_2, hx25_2, hm⟩ := bnd hm
     obtain ⟨hx25_2i, hx25_2g⟩ := geti_some hx25_2
     refine Wz (.loc 0 ((Int.toNat y9_1) * 3)) (Oia rfl enc_GWait_len hx25_2i hx25_2g) <| Wz (.agg [(.l enc_GPair x25_2.Bound), (.l (encI .u32) x25_2.Sets), (.i x25_2.End)]) (Lr rfl enc_GWait_len hx25_2g) <| Wm (.own 0) rfl <| Wm (.i y9_1) rfl <| Wz (.i (W6 (y9_1 - 1))) (Obn rfl (fun _ => hb_sub (k := .i64))) ?_
     obtain ⟨x30_2, hx30_2, hm⟩ := bnd hm
     obtain ⟨hx30_2i, hx30_2g⟩ := geti_some hx30_2
     refine Wz (.loc 0 ((Int.toNat (W6 (y9_1 - 1))) * 3)) (Oia rfl enc_GWait_len hx30_2i hx30_2g) <| Wz (.agg [(.l enc_GPair x30_2.Bound), (.l (encI .u32) x30_2.Sets), (.i x30_2.End)]) (Lr rfl enc_GWait_len hx30_2g) ?_
     obtain ⟨r32_2, hr32_2, hm⟩ := bnd hm
     refine Wz (.i r32_2) (Ocf [] [] [] 0 (ok_trail_Trail_Ripe_1 x25_2 x30_2 r32_2 hr32_2) (fun a w => Try.call33 a w) rfl trivial) <| Wz (.b (decide (r32_2 < 0))) (Obn rfl (fun _ => hb_lss (k := .i64))) <| Wz (.b (decide (r32_2 < 0))) (OpT rfl) <| Wdr <| Tk 17179869967 1 ⟨.own 0::.i p1::.i p2::.clo (.func 33) [] []::tp 4 (.i y8_0::.i y9_1::tp 24 (.b (decide (r32_2 < 0))::tp 18 [])), [(Ar 42 3 enc_GWait y0_1)], 1⟩ ?_
     rcases tf_ (decide (r32_2 < 0)) with hc34_5 | hc34_5
     ·
      replace hm := cT hc34_5 hm
      refine AiT hc34_5 <| Sk <| Tk 783 1 ⟨.own 0::.i p1::.i p2::.clo (.func 33) [] []::tp 4 (.i y8_0::.i y9_1::tp 43 []), [(Ar 42 3 enc_GWait y0_1)], 1⟩ <| Sq <| Bk <| Adr <| Wm (.own 0) rfl <| Wm (.i y9_1) rfl <| Wm (.own 0) rfl <| Wm (.i y9_1) rfl <| Wz (.i (W6 (y9_1 - 1))) (Obn rfl (fun _ => hb_sub (k := .i64))) <| Wm (.own 0) rfl <| Wm (.i y9_1) rfl <| Wz (.i (W6 (y9_1 - 1))) (Obn rfl (fun _ => hb_sub (k := .i64))) ?_
      obtain ⟨x45_3, hx45_3, hm⟩ := bnd hm
      obtain ⟨hx45_3i, hx45_3g⟩ := geti_some hx45_3
      refine Wz (.loc 0 ((Int.toNat (W6 (y9_1 - 1))) * 3)) (Oia rfl enc_GWait_len hx45_3i hx45_3g) <| Wz (.agg [(.l enc_GPair x45_3.Bound), (.l (encI .u32) x45_3.Sets), (.i x45_3.End)]) (Lr rfl enc_GWait_len hx45_3g) <| Wm (.own 0) rfl <| Wm (.i y9_1) rfl ?_
      obtain ⟨x49_3, hx49_3, hm⟩ := bnd hm
      obtain ⟨hx49_3i, hx49_3g⟩ := geti_some hx49_3
      refine Wz (.loc 0 ((Int.toNat y9_1) * 3)) (Oia rfl enc_GWait_len hx49_3i hx49_3g) <| Wz (.agg [(.l enc_GPair x49_3.Bound), (.l (encI .u32) x49_3.Sets), (.i x49_3.End)]) (Lr rfl enc_GWait_len hx49_3g) ?_
      obtain ⟨x51_3, hx51_3, hm⟩ := bnd hm
      obtain ⟨hx51_3i, hx51_3g⟩ := geti_some hx51_3
      refine Wz (.loc 0 ((Int.toNat y9_1) * 3)) (Oia rfl enc_GWait_len hx51_3i hx51_3g) <| Wy (.tup []) [(0, (Ar 42 3 enc_GWait (List.set y0_1 (Int.toNat y9_1) x45_3)))] (Osr 0 rfl enc_GWait_len hx51_3g x45_3) ?_
      obtain ⟨x52_3, hx52_3, hm⟩ := bnd hm
      obtain ⟨hx52_3i, hx52_3g⟩ := geti_some hx52_3
      refine Wz (.loc 0 ((Int.toNat (W6 (y9_1 - 1))) * 3)) (Oia rfl enc_GWait_len hx52_3i hx52_3g) <| Wy (.tup []) [(0, (Ar 42 3 enc_GWait (List.set (List.set y0_1 (Int.toNat y9_1) x45_3) (Int.toNat (W6 (y9_1 - 1))) x49_3)))] (Osr 0 rfl enc_GWait_len hx52_3g x49_3) <| Wdr <| Ino <| Tk 783 1 ⟨.own 0::.i p1::.i p2::.clo (.func 33) [] []::tp 4 (.i y8_0::.i y9_1::tp 43 []), [(Ar 42 3 enc_GWait (List.set (List.set y0_1 (Int.toNat y9_1) x45_3) (Int.toNat (W6 (y9_1 - 1))) x49_3))], 1⟩ <| Tx <| Wm (.i y9_1) rfl <| Wz (.i (W6 (y9_1 - 1))) (Obn rfl (fun _ => hb_sub (k := .i64))) <| Wm (.i (W6 (y9_1 - 1))) rfl <| Wn0 <| RoundK.normal ?_
      exact Rounds.weak (Weak.toK 783 0 0 [0]) (ih_1 (fu_1, (List.set (List.set y0_1 (Int.toNat y9_1) x45_3) (Int.toNat (W6 (y9_1 - 1))) x49_3), (W6 (y9_1 - 1))) hm (Nat.lt_succ_self _))
     ·
      replace hm := cF hc34_5 hm
      refine AiF hc34_5 <| AWP.exit <| Then.exit <| RoundK.exit <| InBlock.same <| Ino <| Tk 271 1 ⟨.own 0::.i p1::.i p2::.clo (.func 33) [] []::tp 4 (.i y8_0::tp 44 []), [(Ar 42 3 enc_GWait y0_1)], 1⟩ <| Tx <| Wm (.i y8_0) rfl <| Wz (.i (W6 (y8_0 + 1))) (Obn rfl (fun _ => hb_add (k := .i64))) <| Wm (.i (W6 (y8_0 + 1))) rfl <| Wn0 <| RoundK.normal ?_
      exact Rounds.weak (Weak.toK 271 0 0 [0]) (ih_0 (fu_0, y0_1, (W6 (y8_0 + 1))) hm (Nat.lt_succ_self _))
    ·
     replace hm := cF hq21_2 hm
     refine Wz (.b false) (Oq hq21_2 rfl) <| Wn <| Wn <| Wn <| Wn <| Wn <| Wn <| Wn <| Wn <| Wn <| Wn <| Wn <| Wn <| Wz (.b false) (OpF rfl) ?_
     refine Wdr <| Tk 17179869967 1 ⟨.own 0::.i p1::.i p2::.clo (.func 33) [] []::tp 4 (.i y8_0::.i y9_1::tp 24 (.b false::tp 18 [])), [(Ar 42 3 enc_GWait y0_1)], 1⟩ <| AWP.if_ false (by kernel_rfl) <| AWP.exit <| Then.exit <| RoundK.exit <| InBlock.same <| Ino <| Tk 271 1 ⟨.own 0::.i p1::.i p2::.clo (.func 33) [] []::tp 4 (.i y8_0::tp 44 []), [(Ar 42 3 enc_GWait y0_1)], 1⟩ <| Tx <| Wm (.i y8_0) rfl <| Wz (.i (W6 (y8_0 + 1))) (Obn rfl (fun _ => hb_add (k := .i64))) <| Wm (.i (W6 (y8_0 + 1))) rfl <| Wn0 ?_
     refine RoundK.normal ?_
     exact Rounds.weak (Weak.toK 271 0 0 [0]) (ih_0 (fu_0, y0_1, (W6 (y8_0 + 1))) hm (Nat.lt_succ_self _))
  ·
   replace hm := cF hc14_4 hm
   refine AiF hc14_4 <| AWP.exit <| Then.exit <| RoundK.exit <| InBlock.same ?_
   obtain rfl := Option.some.inj hm
   exact ret_n [0]

theorem ok_slices_swapRangeCmpFunc_trail_Wait__trail_Trail_Ripe_1 (p0 : (List GWait)) (p1 : Int) (p2 : Int) (p3 : Int) (r : (List GWait)) (h : m_slices_swapRangeCmpFunc_trail_Wait__trail_Trail_Ripe_1 p0 p1 p2 p3 = some r) : GCall Try.prog 76 [(.own 0), (.i p1), (.i p2), (.i p3), (.clo (.func 33) [] [])] [(Ar 42 3 enc_GWait p0)] (.tup []) [(Ar 42 3 enc_GWait r)] := by
 refine GCall.of_body (n := 38) (rs := []) Try.func76 rfl rfl rfl <| Ato ⟨.own 0::.i p1::.i p2::.i p3::.clo (.func 33) [] []::tu 33 [], [(Ar 42 3 enc_GWait p0)], 1⟩ ?_
 have hm := h
 unfold m_slices_swapRangeCmpFunc_trail_Wait__trail_Trail_Ripe_1 at hm
 refine Sx <| Wm (.i 0) rfl <| Nk 1039 1 ⟨.own 0::.i p1::.i p2::.i p3::tp 6 (.i 0::tp 27 []), [(Ar 42 3 enc_GWait p0)], 1⟩ <| Bk ?_
 refine AWP.loopI (α := Nat × (List GWait) × Int)
   (fun (fu_0, y0_0, y10_0) => (⟨.own 0::.i p1::.i p2::.i p3::tp 6 (.i y10_0::tp 27 []), [(Ar 42 3 enc_GWait y0_0)], 1⟩ : St))
   (fun (fu_0, y0_0, y10_0) => m_slices_swapRangeCmpFunc_trail_Wait__trail_Trail_Ripe_1_l0 p1 p2 p3 fu_0 y0_0 y10_0 = some r)
   (fun (fu_0, y0_0, y10_0) => fu_0) (1152921504606846976, p0, 0)
   (Weak.toK 1039 0 0 [0]) hm ?_
 rintro ⟨fu_0, y0_0, y10_0⟩ n_0 hm ih_0
 try dsimp only at hm ih_0 ⊢
 cases fu_0 with
 | zero => exact absurd hm (by unfold m_slices_swapRangeCmpFunc_trail_Wait__trail_Trail_Ripe_1_l0; simp)
 | succ fu_0 =>
  unfold m_slices_swapRangeCmpFunc_trail_Wait__trail_Trail_Ripe_1_l0 at hm
  refine Sq <| Sx <| Wm (.i y10_0) rfl <| Wm (.i p3) rfl <| Wz (.b (decide (y10_0 < p3))) (Obn rfl (fun _ => hb_lss (k := .i64))) <| Nk 9231 1 ⟨.own 0::.i p1::.i p2::.i p3::tp 6 (.i y10_0::tp 2 (.b (decide (y10_0 < p3))::tp 24 [])), [(Ar 42 3 enc_GWait y0_0)], 1⟩ ?_
  rcases tf_ (decide (y10_0 < p3)) with hc13_2 | hc13_2
  ·
   replace hm := cT hc13_2 hm
   refine AiT hc13_2 <| Sk <| Tk 1039 1 ⟨.own 0::.i p1::.i p2::.i p3::tp 6 (.i y10_0::tp 27 []), [(Ar 42 3 enc_GWait y0_0)], 1⟩ <| Sq <| Bk <| Adr <| Wm (.own 0) rfl <| Wm (.i p1) rfl <| Wm (.i y10_0) rfl <| Wz (.i (W6 (p1 + y10_0))) (Obn rfl (fun _ => hb_add (k := .i64))) <| Wm (.own 0) rfl <| Wm (.i p2) rfl <| Wm (.i y10_0) rfl <| Wz (.i (W6 (p2 + y10_0))) (Obn rfl (fun _ => hb_add (k := .i64))) ?_
   refine Wm (.own 0) rfl <| Wm (.i p2) rfl <| Wm (.i y10_0) rfl <| Wz (.i (W6 (p2 + y10_0))) (Obn rfl (fun _ => hb_add (k := .i64))) ?_
   obtain ⟨x28_1, hx28_1, hm⟩ := bnd hm
   obtain ⟨hx28_1i, hx28_1g⟩ := geti_some hx28_1
   refine Wz (.loc 0 ((Int.toNat (W6 (p2 + y10_0))) * 3)) (Oia rfl enc_GWait_len hx28_1i hx28_1g) <| Wz (.agg [(.l enc_GPair x28_1.Bound), (.l (encI .u32) x28_1.Sets), (.i x28_1.End)]) (Lr rfl enc_GWait_len hx28_1g) <| Wm (.own 0) rfl <| Wm (.i p1) rfl <| Wm (.i y10_0) rfl <| Wz (.i (W6 (p1 + y10_0))) (Obn rfl (fun _ => hb_add (k := .i64))) ?_
   obtain ⟨x34_1, hx34_1, hm⟩ := bnd hm
   obtain ⟨hx34_1i, hx34_1g⟩ := geti_some hx34_1
   refine Wz (.loc 0 ((Int.toNat (W6 (p1 + y10_0))) * 3)) (Oia rfl enc_GWait_len hx34_1i hx34_1g) <| Wz (.agg [(.l enc_GPair x34_1.Bound), (.l (encI .u32) x34_1.Sets), (.i x34_1.End)]) (Lr rfl enc_GWait_len hx34_1g) ?_
   obtain ⟨x36_1, hx36_1, hm⟩ := bnd hm
   obtain ⟨hx36_1i, hx36_1g⟩ := geti_some hx36_1
   refine Wz (.loc 0 ((Int.toNat (W6 (p1 + y10_0))) * 3)) (Oia rfl enc_GWait_len hx36_1i hx36_1g) <| Wy (.tup []) [(0, (Ar 42 3 enc_GWait (List.set y0_0 (Int.toNat (W6 (p1 + y10_0))) x28_1)))] (Osr 0 rfl enc_GWait_len hx36_1g x28_1) ?_
   obtain ⟨x37_1, hx37_1, hm⟩ := bnd hm
   obtain ⟨hx37_1i, hx37_1g⟩ := geti_some hx37_1
   refine Wz (.loc 0 ((Int.toNat (W6 (p2 + y10_0))) * 3)) (Oia rfl enc_GWait_len hx37_1i hx37_1g) <| Wy (.tup []) [(0, (Ar 42 3 enc_GWait (List.set (List.set y0_0 (Int.toNat (W6 (p1 + y10_0))) x28_1) (Int.toNat (W6 (p2 + y10_0))) x34_1)))] (Osr 0 rfl enc_GWait_len hx37_1g x34_1) <| Wdr <| Ino <| Tk 1039 1 ⟨.own 0::.i p1::.i p2::.i p3::tp 6 (.i y10_0::tp 27 []), [(Ar 42 3 enc_GWait (List.set (List.set y0_0 (Int.toNat (W6 (p1 + y10_0))) x28_1) (Int.toNat (W6 (p2 + y10_0))) x34_1))], 1⟩ <| Tx <| Wm (.i y10_0) rfl <| Wz (.i (W6 (y10_0 + 1))) (Obn rfl (fun _ => hb_add (k := .i64))) <| Wm (.i (W6 (y10_0 + 1))) rfl <| Wn0 <| RoundK.normal ?_
   exact Rounds.weak (Weak.toK 1039 0 0 [0]) (ih_0 (fu_0, (List.set (List.set y0_0 (Int.toNat (W6 (p1 + y10_0))) x28_1) (Int.toNat (W6 (p2 + y10_0))) x34_1), (W6 (y10_0 + 1))) hm (Nat.lt_succ_self _))
  ·
   replace hm := cF hc13_2 hm
   refine AiF hc13_2 <| AWP.exit <| Then.exit <| RoundK.exit <| InBlock.same ?_
   obtain rfl := Option.some.inj hm
   exact ret_n [0]

theorem ok_slices_rotateCmpFunc_trail_Wait__trail_Trail_Ripe_1 (p0 : (List GWait)) (p1 : Int) (p2 : Int) (p3 : Int) (r : (List GWait)) (h : m_slices_rotateCmpFunc_trail_Wait__trail_Trail_Ripe_1 p0 p1 p2 p3 = some r) : GCall Try.prog 74 [(.own 0), (.i p1), (.i p2), (.i p3), (.clo (.func 33) [] [])] [(Ar 42 3 enc_GWait p0)] (.tup []) [(Ar 42 3 enc_GWait r)] := by
 refine GCall.of_body (n := 58) (rs := []) Try.func74 rfl rfl rfl <| Ato ⟨.own 0::.i p1::.i p2::.i p3::.clo (.func 33) [] []::tu 53 [], [(Ar 42 3 enc_GWait p0)], 1⟩ ?_
 have hm := h
 unfold m_slices_rotateCmpFunc_trail_Wait__trail_Trail_Ripe_1 at hm
 refine Sx <| Wm (.i p2) rfl <| Wm (.i p1) rfl <| Wz (.i (W6 (p2 - p1))) (Obn rfl (fun _ => hb_sub (k := .i64))) <| Wm (.i (W6 (p2 - p1))) rfl <| Nk 1053 1 ⟨.own 0::tp 1 (.i p2::.i p3::.clo (.func 33) [] []::tp 5 (.i (W6 (p2 - p1))::tp 47 [])), [(Ar 42 3 enc_GWait p0)], 1⟩ <| Sx <| Wm (.i p3) rfl <| Wm (.i p2) rfl <| Wz (.i (W6 (p3 - p2))) (Obn rfl (fun _ => hb_sub (k := .i64))) <| Wm (.i (W6 (p3 - p2))) rfl <| Nk 3093 1 ⟨.own 0::tp 1 (.i p2::tp 1 (.clo (.func 33) [] []::tp 5 (.i (W6 (p2 - p1))::.i (W6 (p3 - p2))::tp 46 []))), [(Ar 42 3 enc_GWait p0)], 1⟩ <| Sq <| Bk ?_
 refine AWP.loopI (α := Nat × (List GWait) × Int × Int)
   (fun (fu_0, y0_0, y10_0, y11_0) => (⟨.own 0::tp 1 (.i p2::tp 1 (.clo (.func 33) [] []::tp 5 (.i y10_0::.i y11_0::tp 46 []))), [(Ar 42 3 enc_GWait y0_0)], 1⟩ : St))
   (fun (fu_0, y0_0, y10_0, y11_0) => m_slices_rotateCmpFunc_trail_Wait__trail_Trail_Ripe_1_l0 p2 fu_0 y0_0 y10_0 y11_0 = some r)
   (fun (fu_0, y0_0, y10_0, y11_0) => fu_0) (1152921504606846976, p0, (W6 (p2 - p1)), (W6 (p3 - p2)))
   (Weak.toK 3093 0 0 [0]) hm ?_
 rintro ⟨fu_0, y0_0, y10_0, y11_0⟩ n_0 hm ih_0
 try dsimp only at hm ih_0 ⊢
 cases fu_0 with
 | zero => exact absurd hm (by unfold m_slices_rotateCmpFunc_trail_Wait__trail_Trail_Ripe_1_l0; simp)
 | succ fu_0 =>
  unfold m_slices_rotateCmpFunc_trail_Wait__trail_Trail_Ripe_1_l0 at hm
  refine Sq <| Sx <| Wm (.i y10_0) rfl <| Wm (.i y11_0) rfl <| Wz (.b (decide (y10_0 ≠ y11_0))) (Obn rfl (fun _ => hb_neq (k := .i64))) <| Nk 1051669 1 ⟨.own 0::tp 1 (.i p2::tp 1 (.clo (.func 33) [] []::tp 5 (.i y10_0::.i y11_0::tp 8 (.b (decide (y10_0 ≠ y11_0))::tp 37 [])))), [(Ar 42 3 enc_GWait y0_0)], 1⟩ ?_
  rcases tf_ (decide (y10_0 ≠ y11_0)) with hc20_4 | hc20_4
  ·
   replace hm := cT hc20_4 hm
   refine AiT hc20_4 <| Sk <| Tk 3093 1 ⟨.own 0::tp 1 (.i p2::tp 1 (.clo (.func 33) [] []::tp 5 (.i y10_0::.i y11_0::tp 46 []))), [(Ar 42 3 enc_GWait y0_0)], 1⟩ <| Bk <| Sx <| Wm (.i y10_0) rfl <| Wm (.i y11_0) rfl <| Wz (.b (decide (y11_0 < y10_0))) (Obn rfl (fun _ => hb_gtr (k := .i64))) <| Nk 8391701 1 ⟨.own 0::tp 1 (.i p2::tp 1 (.clo (.func 33) [] []::tp 5 (.i y10_0::.i y11_0::tp 11 (.b (decide (y11_0 < y10_0))::tp 34 [])))), [(Ar 42 3 enc_GWait y0_0)], 1⟩ ?_
   rcases tf_ (decide (y11_0 < y10_0)) with hc23_5 | hc23_5
   ·
    replace hm := cT hc23_5 hm
    refine AiT hc23_5 <| Sx <| Wm (.own 0) rfl <| Wm (.i p2) rfl <| Wm (.i y10_0) rfl <| Wz (.i (W6 (p2 - y10_0))) (Obn rfl (fun _ => hb_sub (k := .i64))) <| Wm (.i p2) rfl <| Wm (.i y11_0) rfl <| Wm (.clo (.func 33) [] []) rfl ?_
    obtain ⟨r31_1, hr31_1, hm⟩ := bnd hm
    refine Wy (.tup []) [(0, (Ar 42 3 enc_GWait r31_1))] (Ocf [0] [] [] 0 (ok_slices_swapRangeCmpFunc_trail_Wait__trail_Trail_Ripe_1 y0_0 (W6 (p2 - y10_0)) p2 y11_0 r31_1 hr31_1) (fun a w => Try.call76 a w) rfl ⟨rfl, trivial⟩) <| Nk 3093 1 ⟨.own 0::tp 1 (.i p2::tp 1 (.clo (.func 33) [] []::tp 5 (.i y10_0::.i y11_0::tp 46 []))), [(Ar 42 3 enc_GWait r31_1)], 1⟩ <| Tx <| Wm (.i y10_0) rfl <| Wm (.i y11_0) rfl <| Wz (.i (W6 (y10_0 - y11_0))) (Obn rfl (fun _ => hb_sub (k := .i64))) <| Wm (.i (W6 (y10_0 - y11_0))) rfl <| Wn0 <| Ino <| RoundK.normal ?_
    exact Rounds.weak (Weak.toK 3093 0 0 [0]) (ih_0 (fu_0, r31_1, (W6 (y10_0 - y11_0)), y11_0) hm (Nat.lt_succ_self _))
   ·
    replace hm := cF hc23_5 hm
    refine AiF hc23_5 <| Sx <| Wm (.own 0) rfl <| Wm (.i p2) rfl <| Wm (.i y10_0) rfl <| Wz (.i (W6 (p2 - y10_0))) (Obn rfl (fun _ => hb_sub (k := .i64))) <| Wm (.i p2) rfl <| Wm (.i y11_0) rfl <| Wz (.i (W6 (p2 + y11_0))) (Obn rfl (fun _ => hb_add (k := .i64))) <| Wm (.i y10_0) rfl <| Wz (.i (W6 ((W6 (p2 + y11_0)) - y10_0))) (Obn rfl (fun _ => hb_sub (k := .i64))) <| Wm (.i y10_0) rfl <| Wm (.clo (.func 33) [] []) rfl ?_
    obtain ⟨r46_2, hr46_2, hm⟩ := bnd hm
    refine Wy (.tup []) [(0, (Ar 42 3 enc_GWait r46_2))] (Ocf [0] [] [] 0 (ok_slices_swapRangeCmpFunc_trail_Wait__trail_Trail_Ripe_1 y0_0 (W6 (p2 - y10_0)) (W6 ((W6 (p2 + y11_0)) - y10_0)) y10_0 r46_2 hr46_2) (fun a w => Try.call76 a w) rfl ⟨rfl, trivial⟩) <| Nk 3093 1 ⟨.own 0::tp 1 (.i p2::tp 1 (.clo (.func 33) [] []::tp 5 (.i y10_0::.i y11_0::tp 46 []))), [(Ar 42 3 enc_GWait r46_2)], 1⟩ <| Tx <| Wm (.i y11_0) rfl <| Wm (.i y10_0) rfl <| Wz (.i (W6 (y11_0 - y10_0))) (Obn rfl (fun _ => hb_sub (k := .i64))) <| Wm (.i (W6 (y11_0 - y10_0))) rfl <| Wn0 <| Ino <| RoundK.normal ?_
    exact Rounds.weak (Weak.toK 3093 0 0 [0]) (ih_0 (fu_0, r46_2, y10_0, (W6 (y11_0 - y10_0))) hm (Nat.lt_succ_self _))
  ·
   replace hm := cF hc20_4 hm
   refine AiF hc20_4 <| AWP.exit <| Then.exit <| RoundK.exit <| InBlock.same <| Tk 1045 1 ⟨.own 0::tp 1 (.i p2::tp 1 (.clo (.func 33) [] []::tp 5 (.i y10_0::tp 47 []))), [(Ar 42 3 enc_GWait y0_0)], 1⟩ <| Tx <| Wm (.own 0) rfl <| Wm (.i p2) rfl <| Wm (.i y10_0) rfl <| Wz (.i (W6 (p2 - y10_0))) (Obn rfl (fun _ => hb_sub (k := .i64))) <| Wm (.i p2) rfl <| Wm (.i y10_0) rfl <| Wm (.clo (.func 33) [] []) rfl ?_
   obtain ⟨r57_3, hr57_3, hm⟩ := bnd hm
   refine Wy (.tup []) [(0, (Ar 42 3 enc_GWait r57_3))] (Ocf [0] [] [] 0 (ok_slices_swapRangeCmpFunc_trail_Wait__trail_Trail_Ripe_1 y0_0 (W6 (p2 - y10_0)) p2 y10_0 r57_3 hr57_3) (fun a w => Try.call76 a w) rfl ⟨rfl, trivial⟩) <| Wn0 ?_
   obtain rfl := Option.some.inj hm
   exact ret_n [0]

theorem ok_slices_symMergeCmpFunc_trail_Wait__trail_Trail_Ripe_1 : ∀ (fuR : Nat) (p0 : (List GWait)) (p1 : Int) (p2 : Int) (p3 : Int) (r : (List GWait)) (h : m_slices_symMergeCmpFunc_trail_Wait__trail_Trail_Ripe_1 fuR p0 p1 p2 p3 = some r), GCall Try.prog 66 [(.own 0), (.i p1), (.i p2), (.i p3), (.clo (.func 33) [] [])] [(Ar 42 3 enc_GWait p0)] (.tup []) [(Ar 42 3 enc_GWait r)] := by
 intro fuR; induction fuR with
 | zero => intro p0 p1 p2 p3 r h; exact absurd h (by unfold m_slices_symMergeCmpFunc_trail_Wait__trail_Trail_Ripe_1; simp)
 | succ fuR ih =>
 intro p0 p1 p2 p3 r h
 refine GCall.of_body (n := 220) (rs := []) Try.func66 rfl rfl rfl <| Ato ⟨.own 0::.i p1::.i p2::.i p3::.clo (.func 33) [] []::tu 215 [], [(Ar 42 3 enc_GWait p0)], 1⟩ ?_
 have hm := h
 unfold m_slices_symMergeCmpFunc_trail_Wait__trail_Trail_Ripe_1 at hm
 refine Sq <| Sx <| Wm (.i p2) rfl <| Wm (.i p1) rfl <| Wz (.i (W6 (p2 - p1))) (Obn rfl (fun _ => hb_sub (k := .i64))) <| Wz (.b (decide ((W6 (p2 - p1)) = 1))) (Obn rfl (fun _ => hb_eql (k := .i64))) <| Nk 268435487 1 ⟨.own 0::.i p1::.i p2::.i p3::.clo (.func 33) [] []::tp 23 (.b (decide ((W6 (p2 - p1)) = 1))::tp 191 []), [(Ar 42 3 enc_GWait p0)], 1⟩ ?_
 rcases tf_ (decide ((W6 (p2 - p1)) = 1)) with hc28_27 | hc28_27
 ·
  replace hm := cT hc28_27 hm
  refine AiT hc28_27 <| Sx <| Wm (.i p2) rfl <| Wm (.i p2) rfl <| Nk 1051 1 ⟨.own 0::.i p1::tp 1 (.i p3::.clo (.func 33) [] []::tp 5 (.i p2::tp 209 [])), [(Ar 42 3 enc_GWait p0)], 1⟩ <| Sx <| Wm (.i p3) rfl <| Wm (.i p3) rfl <| Nk 3091 1 ⟨.own 0::.i p1::tp 2 (.clo (.func 33) [] []::tp 5 (.i p2::.i p3::tp 208 [])), [(Ar 42 3 enc_GWait p0)], 1⟩ <| Sq <| Bk ?_
  refine AWP.loopI (α := Nat × Int × Int)
    (fun (fu_0, y10_0, y11_0) => (⟨.own 0::.i p1::tp 2 (.clo (.func 33) [] []::tp 5 (.i y10_0::.i y11_0::tp 208 [])), [(Ar 42 3 enc_GWait p0)], 1⟩ : St))
    (fun (fu_0, y10_0, y11_0) => m_slices_symMergeCmpFunc_trail_Wait__trail_Trail_Ripe_1_l0 p0 p1 fu_0 y10_0 y11_0 = some r)
    (fun (fu_0, y10_0, y11_0) => fu_0) (1152921504606846976, p2, p3)
    (Weak.toK 3091 0 0 [0]) hm ?_
  rintro ⟨fu_0, y10_0, y11_0⟩ n_0 hm ih_0
  try dsimp only at hm ih_0 ⊢
  cases fu_0 with
  | zero => exact absurd hm (by unfold m_slices_symMergeCmpFunc_trail_Wait__trail_Trail_Ripe_1_l0; simp)
  | succ fu_0 =>
   unfold m_slices_symMergeCmpFunc_trail_Wait__trail_Trail_Ripe_1_l0 at hm
   refine Sq <| Sx <| Wm (.i y10_0) rfl <| Wm (.i y11_0) rfl <| Wz (.b (decide (y10_0 < y11_0))) (Obn rfl (fun _ => hb_lss (k := .i64))) <| Nk 8589937683 1 ⟨.own 0::.i p1::tp 2 (.clo (.func 33) [] []::tp 5 (.i y10_0::.i y11_0::tp 21 (.b (decide (y10_0 < y11_0))::tp 186 []))), [(Ar 42 3 enc_GWait p0)], 1⟩ ?_
   rcases tf_ (decide (y10_0 < y11_0)) with hc33_28 | hc33_28
   ·
    replace hm := cT hc33_28 hm
    refine AiT hc33_28 <| Sk <| Tk 3091 1 ⟨.own 0::.i p1::tp 2 (.clo (.func 33) [] []::tp 5 (.i y10_0::.i y11_0::tp 208 [])), [(Ar 42 3 enc_GWait p0)], 1⟩ <| Bk <| Sx <| Wm (.i y10_0) rfl <| Wm (.i y11_0) rfl <| Wz (.i (W6 (y10_0 + y11_0))) (Obn rfl (fun _ => hb_add (k := .i64))) <| Wz (.u (W7 (W6 (y10_0 + y11_0)))) (Oc2 (.int .i64 (W6 (y10_0 + y11_0))) rfl (run_conv (ds := .int .i64) (k' := .u64) (by kernel_rfl) (by kernel_rfl))) <| Wz (.u (Int.fdiv (W7 (W6 (y10_0 + y11_0))) (2 ^ 1))) (Ob2 (.int .u64 (W7 (W6 (y10_0 + y11_0)))) (.int .u64 1) rfl (fun _ => hb_shr (n := 1) (by decide) rfl)) <| Wz (.i (W6 (Int.fdiv (W7 (W6 (y10_0 + y11_0))) (2 ^ 1)))) (Oc2 (.int .u64 (Int.fdiv (W7 (W6 (y10_0 + y11_0))) (2 ^ 1))) rfl (run_conv (ds := .int .u64) (k' := .i64) (by kernel_rfl) (by kernel_rfl))) <| Wm (.i (W6 (Int.fdiv (W7 (W6 (y10_0 + y11_0))) (2 ^ 1)))) rfl <| Nk 7187 1 ⟨.own 0::.i p1::tp 2 (.clo (.func 33) [] []::tp 5 (.i y10_0::.i y11_0::.i (W6 (Int.fdiv (W7 (W6 (y10_0 + y11_0))) (2 ^ 1)))::tp 207 [])), [(Ar 42 3 enc_GWait p0)], 1⟩ <| Sq ?_
    refine Adr <| Wm (.clo (.func 33) [] []) rfl <| Wm (.own 0) rfl <| Wm (.i (W6 (Int.fdiv (W7 (W6 (y10_0 + y11_0))) (2 ^ 1)))) rfl ?_
    obtain ⟨x43_2, hx43_2, hm⟩ := bnd hm
    obtain ⟨hx43_2i, hx43_2g⟩ := geti_some hx43_2
    refine Wz (.loc 0 ((Int.toNat (W6 (Int.fdiv (W7 (W6 (y10_0 + y11_0))) (2 ^ 1)))) * 3)) (Oia rfl enc_GWait_len hx43_2i hx43_2g) <| Wz (.agg [(.l enc_GPair x43_2.Bound), (.l (encI .u32) x43_2.Sets), (.i x43_2.End)]) (Lr rfl enc_GWait_len hx43_2g) <| Wm (.own 0) rfl <| Wm (.i p1) rfl ?_
    obtain ⟨x47_2, hx47_2, hm⟩ := bnd hm
    obtain ⟨hx47_2i, hx47_2g⟩ := geti_some hx47_2
    refine Wz (.loc 0 ((Int.toNat p1) * 3)) (Oia rfl enc_GWait_len hx47_2i hx47_2g) <| Wz (.agg [(.l enc_GPair x47_2.Bound), (.l (encI .u32) x47_2.Sets), (.i x47_2.End)]) (Lr rfl enc_GWait_len hx47_2g) ?_
    obtain ⟨r49_2, hr49_2, hm⟩ := bnd hm
    refine Wz (.i r49_2) (Ocf [] [] [] 0 (ok_trail_Trail_Ripe_1 x43_2 x47_2 r49_2 hr49_2) (fun a w => Try.call33 a w) rfl trivial) <| Wz (.b (decide (r49_2 < 0))) (Obn rfl (fun _ => hb_lss (k := .i64))) <| Wdr <| Tk 1125899906849811 1 ⟨.own 0::.i p1::tp 2 (.clo (.func 33) [] []::tp 5 (.i y10_0::.i y11_0::.i (W6 (Int.fdiv (W7 (W6 (y10_0 + y11_0))) (2 ^ 1)))::tp 37 (.b (decide (r49_2 < 0))::tp 169 []))), [(Ar 42 3 enc_GWait p0)], 1⟩ ?_
    rcases tf_ (decide (r49_2 < 0)) with hc50_29 | hc50_29
    ·
     replace hm := cT hc50_29 hm
     refine AiT hc50_29 <| Tx <| Wm (.i (W6 (Int.fdiv (W7 (W6 (y10_0 + y11_0))) (2 ^ 1)))) rfl ?_
     obtain ⟨v52_3, hv52_3, hm⟩ := bnd hm; replace hv52_3 := Option.some.inj hv52_3
     refine Wz (.i v52_3) (Ocs (congrArg (fun z => A.d (.lit (.int .i64 z))) hv52_3) (Obn rfl (fun _ => hb_add (k := .i64)))) <| Wm (.i v52_3) rfl <| Wn0 <| Ino <| RoundK.normal ?_
     exact Rounds.weak (Weak.toK 3091 0 0 [0]) (ih_0 (fu_0, v52_3, y11_0) hm (Nat.lt_succ_self _))
    ·
     replace hm := cF hc50_29 hm
     refine AiF hc50_29 <| Tx <| Wm (.i (W6 (Int.fdiv (W7 (W6 (y10_0 + y11_0))) (2 ^ 1)))) rfl <| Wm (.i (W6 (Int.fdiv (W7 (W6 (y10_0 + y11_0))) (2 ^ 1)))) rfl <| Wn0 <| Ino <| RoundK.normal ?_
     exact Rounds.weak (Weak.toK 3091 0 0 [0]) (ih_0 (fu_0, y10_0, (W6 (Int.fdiv (W7 (W6 (y10_0 + y11_0))) (2 ^ 1)))) hm (Nat.lt_succ_self _))
   ·
    replace hm := cF hc33_28 hm
    refine AiF hc33_28 <| AWP.exit <| Then.exit <| RoundK.exit <| InBlock.same <| Tk 1027 1 ⟨.own 0::.i p1::tp 8 (.i y10_0::tp 209 []), [(Ar 42 3 enc_GWait p0)], 1⟩ <| Sq <| Sx <| Wm (.i p1) rfl <| Wm (.i p1) rfl <| Nk 9217 1 ⟨.own 0::tp 9 (.i y10_0::tp 2 (.i p1::tp 206 [])), [(Ar 42 3 enc_GWait p0)], 1⟩ <| Bk ?_
    refine AWP.loopI (α := Nat × (List GWait) × Int)
      (fun (fu_4, y0_4, y13_4) => (⟨.own 0::tp 9 (.i y10_0::tp 2 (.i y13_4::tp 206 [])), [(Ar 42 3 enc_GWait y0_4)], 1⟩ : St))
      (fun (fu_4, y0_4, y13_4) => m_slices_symMergeCmpFunc_trail_Wait__trail_Trail_Ripe_1_l4 y10_0 fu_4 y0_4 y13_4 = some r)
      (fun (fu_4, y0_4, y13_4) => fu_4) (1152921504606846976, p0, p1)
      (Weak.toK 9217 0 0 [0]) hm ?_
    rintro ⟨fu_4, y0_4, y13_4⟩ n_4 hm ih_4
    try dsimp only at hm ih_4 ⊢
    cases fu_4 with
    | zero => exact absurd hm (by unfold m_slices_symMergeCmpFunc_trail_Wait__trail_Trail_Ripe_1_l4; simp)
    | succ fu_4 =>
     unfold m_slices_symMergeCmpFunc_trail_Wait__trail_Trail_Ripe_1_l4 at hm
     refine Sq <| Sx <| Wm (.i y13_4) rfl <| Wm (.i y10_0) rfl <| Wz (.i (W6 (y10_0 - 1))) (Obn rfl (fun _ => hb_sub (k := .i64))) <| Wz (.b (decide (y13_4 < (W6 (y10_0 - 1))))) (Obn rfl (fun _ => hb_lss (k := .i64))) <| Nk 288230376151720961 1 ⟨.own 0::tp 9 (.i y10_0::tp 2 (.i y13_4::tp 44 (.b (decide (y13_4 < (W6 (y10_0 - 1))))::tp 161 []))), [(Ar 42 3 enc_GWait y0_4)], 1⟩ ?_
     rcases tf_ (decide (y13_4 < (W6 (y10_0 - 1)))) with hc58_30 | hc58_30
     ·
      replace hm := cT hc58_30 hm
      refine AiT hc58_30 <| Sk <| Tk 9217 1 ⟨.own 0::tp 9 (.i y10_0::tp 2 (.i y13_4::tp 206 [])), [(Ar 42 3 enc_GWait y0_4)], 1⟩ <| Sq <| Bk <| Adr <| Wm (.own 0) rfl <| Wm (.i y13_4) rfl <| Wm (.own 0) rfl <| Wm (.i y13_4) rfl <| Wz (.i (W6 (y13_4 + 1))) (Obn rfl (fun _ => hb_add (k := .i64))) <| Wm (.own 0) rfl <| Wm (.i y13_4) rfl <| Wz (.i (W6 (y13_4 + 1))) (Obn rfl (fun _ => hb_add (k := .i64))) ?_
      obtain ⟨x69_5, hx69_5, hm⟩ := bnd hm
      obtain ⟨hx69_5i, hx69_5g⟩ := geti_some hx69_5
      refine Wz (.loc 0 ((Int.toNat (W6 (y13_4 + 1))) * 3)) (Oia rfl enc_GWait_len hx69_5i hx69_5g) <| Wz (.agg [(.l enc_GPair x69_5.Bound), (.l (encI .u32) x69_5.Sets), (.i x69_5.End)]) (Lr rfl enc_GWait_len hx69_5g) <| Wm (.own 0) rfl <| Wm (.i y13_4) rfl ?_
      obtain ⟨x73_5, hx73_5, hm⟩ := bnd hm
      obtain ⟨hx73_5i, hx73_5g⟩ := geti_some hx73_5
      refine Wz (.loc 0 ((Int.toNat y13_4) * 3)) (Oia rfl enc_GWait_len hx73_5i hx73_5g) <| Wz (.agg [(.l enc_GPair x73_5.Bound), (.l (encI .u32) x73_5.Sets), (.i x73_5.End)]) (Lr rfl enc_GWait_len hx73_5g) ?_
      obtain ⟨x75_5, hx75_5, hm⟩ := bnd hm
      obtain ⟨hx75_5i, hx75_5g⟩ := geti_some hx75_5
      refine Wz (.loc 0 ((Int.toNat y13_4) * 3)) (Oia rfl enc_GWait_len hx75_5i hx75_5g) <| Wy (.tup []) [(0, (Ar 42 3 enc_GWait (List.set y0_4 (Int.toNat y13_4) x69_5)))] (Osr 0 rfl enc_GWait_len hx75_5g x69_5) ?_
      obtain ⟨x76_5, hx76_5, hm⟩ := bnd hm
      obtain ⟨hx76_5i, hx76_5g⟩ := geti_some hx76_5
      refine Wz (.loc 0 ((Int.toNat (W6 (y13_4 + 1))) * 3)) (Oia rfl enc_GWait_len hx76_5i hx76_5g) <| Wy (.tup []) [(0, (Ar 42 3 enc_GWait (List.set (List.set y0_4 (Int.toNat y13_4) x69_5) (Int.toNat (W6 (y13_4 + 1))) x73_5)))] (Osr 0 rfl enc_GWait_len hx76_5g x73_5) <| Wdr <| Ino <| Tk 9217 1 ⟨.own 0::tp 9 (.i y10_0::tp 2 (.i y13_4::tp 206 [])), [(Ar 42 3 enc_GWait (List.set (List.set y0_4 (Int.toNat y13_4) x69_5) (Int.toNat (W6 (y13_4 + 1))) x73_5))], 1⟩ <| Tx <| Wm (.i y13_4) rfl <| Wz (.i (W6 (y13_4 + 1))) (Obn rfl (fun _ => hb_add (k := .i64))) <| Wm (.i (W6 (y13_4 + 1))) rfl <| Wn0 <| RoundK.normal ?_
      exact Rounds.weak (Weak.toK 9217 0 0 [0]) (ih_4 (fu_4, (List.set (List.set y0_4 (Int.toNat y13_4) x69_5) (Int.toNat (W6 (y13_4 + 1))) x73_5), (W6 (y13_4 + 1))) hm (Nat.lt_succ_self _))
     ·
      replace hm := cF hc58_30 hm
      refine AiF hc58_30 <| AWP.exit <| Then.exit <| RoundK.exit <| InBlock.same <| Tn <| Rt <| Tr ?_
      obtain rfl := Option.some.inj hm
      exact ret_i [0]
 ·
  replace hm := cF hc28_27 hm
  refine AiF hc28_27 <| Sk <| Tk 31 1 ⟨.own 0::.i p1::.i p2::.i p3::.clo (.func 33) [] []::tp 215 [], [(Ar 42 3 enc_GWait p0)], 1⟩ <| Sq <| Sx <| Wm (.i p3) rfl <| Wm (.i p2) rfl <| Wz (.i (W6 (p3 - p2))) (Obn rfl (fun _ => hb_sub (k := .i64))) <| Wz (.b (decide ((W6 (p3 - p2)) = 1))) (Obn rfl (fun _ => hb_eql (k := .i64))) <| Nk 1208925819614629174706207 1 ⟨.own 0::.i p1::.i p2::.i p3::.clo (.func 33) [] []::tp 75 (.b (decide ((W6 (p3 - p2)) = 1))::tp 139 []), [(Ar 42 3 enc_GWait p0)], 1⟩ ?_
  rcases tf_ (decide ((W6 (p3 - p2)) = 1)) with hc80_31 | hc80_31
  ·
   replace hm := cT hc80_31 hm
   refine AiT hc80_31 <| Sx <| Wm (.i p1) rfl <| Wm (.i p1) rfl <| Nk 16405 1 ⟨.own 0::tp 1 (.i p2::tp 1 (.clo (.func 33) [] []::tp 9 (.i p1::tp 205 []))), [(Ar 42 3 enc_GWait p0)], 1⟩ <| Sx <| Wm (.i p2) rfl <| Wm (.i p2) rfl <| Nk 49173 1 ⟨.own 0::tp 1 (.i p2::tp 1 (.clo (.func 33) [] []::tp 9 (.i p1::.i p2::tp 204 []))), [(Ar 42 3 enc_GWait p0)], 1⟩ <| Sq <| Bk ?_
   refine AWP.loopI (α := Nat × Int × Int)
     (fun (fu_6, y14_6, y15_6) => (⟨.own 0::tp 1 (.i p2::tp 1 (.clo (.func 33) [] []::tp 9 (.i y14_6::.i y15_6::tp 204 []))), [(Ar 42 3 enc_GWait p0)], 1⟩ : St))
     (fun (fu_6, y14_6, y15_6) => m_slices_symMergeCmpFunc_trail_Wait__trail_Trail_Ripe_1_l6 p0 p2 fu_6 y14_6 y15_6 = some r)
     (fun (fu_6, y14_6, y15_6) => fu_6) (1152921504606846976, p1, p2)
     (Weak.toK 49173 0 0 [0]) hm ?_
   rintro ⟨fu_6, y14_6, y15_6⟩ n_6 hm ih_6
   try dsimp only at hm ih_6 ⊢
   cases fu_6 with
   | zero => exact absurd hm (by unfold m_slices_symMergeCmpFunc_trail_Wait__trail_Trail_Ripe_1_l6; simp)
   | succ fu_6 =>
    unfold m_slices_symMergeCmpFunc_trail_Wait__trail_Trail_Ripe_1_l6 at hm
    refine Sq <| Sx <| Wm (.i y14_6) rfl <| Wm (.i y15_6) rfl <| Wz (.b (decide (y14_6 < y15_6))) (Obn rfl (fun _ => hb_lss (k := .i64))) <| Nk 38685626227668133590646805 1 ⟨.own 0::tp 1 (.i p2::tp 1 (.clo (.func 33) [] []::tp 9 (.i y14_6::.i y15_6::tp 69 (.b (decide (y14_6 < y15_6))::tp 134 [])))), [(Ar 42 3 enc_GWait p0)], 1⟩ ?_
    rcases tf_ (decide (y14_6 < y15_6)) with hc85_32 | hc85_32
    ·
     replace hm := cT hc85_32 hm
     refine AiT hc85_32 <| Sk <| Tk 49173 1 ⟨.own 0::tp 1 (.i p2::tp 1 (.clo (.func 33) [] []::tp 9 (.i y14_6::.i y15_6::tp 204 []))), [(Ar 42 3 enc_GWait p0)], 1⟩ <| Bk <| Sx <| Wm (.i y14_6) rfl <| Wm (.i y15_6) rfl <| Wz (.i (W6 (y14_6 + y15_6))) (Obn rfl (fun _ => hb_add (k := .i64))) <| Wz (.u (W7 (W6 (y14_6 + y15_6)))) (Oc2 (.int .i64 (W6 (y14_6 + y15_6))) rfl (run_conv (ds := .int .i64) (k' := .u64) (by kernel_rfl) (by kernel_rfl))) <| Wz (.u (Int.fdiv (W7 (W6 (y14_6 + y15_6))) (2 ^ 1))) (Ob2 (.int .u64 (W7 (W6 (y14_6 + y15_6)))) (.int .u64 1) rfl (fun _ => hb_shr (n := 1) (by decide) rfl)) <| Wz (.i (W6 (Int.fdiv (W7 (W6 (y14_6 + y15_6))) (2 ^ 1)))) (Oc2 (.int .u64 (Int.fdiv (W7 (W6 (y14_6 + y15_6))) (2 ^ 1))) rfl (run_conv (ds := .int .u64) (k' := .i64) (by kernel_rfl) (by kernel_rfl))) <| Wm (.i (W6 (Int.fdiv (W7 (W6 (y14_6 + y15_6))) (2 ^ 1)))) rfl <| Nk 114709 1 ⟨.own 0::tp 1 (.i p2::tp 1 (.clo (.func 33) [] []::tp 9 (.i y14_6::.i y15_6::.i (W6 (Int.fdiv (W7 (W6 (y14_6 + y15_6))) (2 ^ 1)))::tp 203 []))), [(Ar 42 3 enc_GWait p0)], 1⟩ <| Sq ?_
     refine Adr <| Wm (.clo (.func 33) [] []) rfl <| Wm (.own 0) rfl <| Wm (.i p2) rfl ?_
     obtain ⟨x95_8, hx95_8, hm⟩ := bnd hm
     obtain ⟨hx95_8i, hx95_8g⟩ := geti_some hx95_8
     refine Wz (.loc 0 ((Int.toNat p2) * 3)) (Oia rfl enc_GWait_len hx95_8i hx95_8g) <| Wz (.agg [(.l enc_GPair x95_8.Bound), (.l (encI .u32) x95_8.Sets), (.i x95_8.End)]) (Lr rfl enc_GWait_len hx95_8g) <| Wm (.own 0) rfl <| Wm (.i (W6 (Int.fdiv (W7 (W6 (y14_6 + y15_6))) (2 ^ 1)))) rfl ?_
     obtain ⟨x99_8, hx99_8, hm⟩ := bnd hm
     obtain ⟨hx99_8i, hx99_8g⟩ := geti_some hx99_8
     refine Wz (.loc 0 ((Int.toNat (W6 (Int.fdiv (W7 (W6 (y14_6 + y15_6))) (2 ^ 1)))) * 3)) (Oia rfl enc_GWait_len hx99_8i hx99_8g) <| Wz (.agg [(.l enc_GPair x99_8.Bound), (.l (encI .u32) x99_8.Sets), (.i x99_8.End)]) (Lr rfl enc_GWait_len hx99_8g) ?_
     obtain ⟨r101_8, hr101_8, hm⟩ := bnd hm
     refine Wz (.i r101_8) (Ocf [] [] [] 0 (ok_trail_Trail_Ripe_1 x95_8 x99_8 r101_8 hr101_8) (fun a w => Try.call33 a w) rfl trivial) <| Wz (.b (decide (r101_8 < 0))) (Obn rfl (fun _ => hb_lss (k := .i64))) <| Wz (.b (!decide (r101_8 < 0))) (Ocs (by kernel_rfl) (op_un rfl (a1 := .bool (decide (r101_8 < 0))) (by kernel_rfl) (fun _ => hu_not))) <| Wdr <| Tk 10141204801825835211973625757717 1 ⟨.own 0::tp 1 (.i p2::tp 1 (.clo (.func 33) [] []::tp 9 (.i y14_6::.i y15_6::.i (W6 (Int.fdiv (W7 (W6 (y14_6 + y15_6))) (2 ^ 1)))::tp 86 (.b (!decide (r101_8 < 0))::tp 116 [])))), [(Ar 42 3 enc_GWait p0)], 1⟩ ?_
     rcases tf_ (!decide (r101_8 < 0)) with hc103_33 | hc103_33
     ·
      replace hm := cT hc103_33 hm
      refine AiT hc103_33 <| Tx <| Wm (.i (W6 (Int.fdiv (W7 (W6 (y14_6 + y15_6))) (2 ^ 1)))) rfl ?_
      obtain ⟨v105_9, hv105_9, hm⟩ := bnd hm; replace hv105_9 := Option.some.inj hv105_9
      refine Wz (.i v105_9) (Ocs (congrArg (fun z => A.d (.lit (.int .i64 z))) hv105_9) (Obn rfl (fun _ => hb_add (k := .i64)))) <| Wm (.i v105_9) rfl <| Wn0 <| Ino <| RoundK.normal ?_
      exact Rounds.weak (Weak.toK 49173 0 0 [0]) (ih_6 (fu_6, v105_9, y15_6) hm (Nat.lt_succ_self _))
     ·
      replace hm := cF hc103_33 hm
      refine AiF hc103_33 <| Tx <| Wm (.i (W6 (Int.fdiv (W7 (W6 (y14_6 + y15_6))) (2 ^ 1)))) rfl <| Wm (.i (W6 (Int.fdiv (W7 (W6 (y14_6 + y15_6))) (2 ^ 1)))) rfl <| Wn0 <| Ino <| RoundK.normal ?_
      exact Rounds.weak (Weak.toK 49173 0 0 [0]) (ih_6 (fu_6, y14_6, (W6 (Int.fdiv (W7 (W6 (y14_6 + y15_6))) (2 ^ 1)))) hm (Nat.lt_succ_self _))
    ·
     replace hm := cF hc85_32 hm
     refine AiF hc85_32 <| AWP.exit <| Then.exit <| RoundK.exit <| InBlock.same <| Tk 16389 1 ⟨.own 0::tp 1 (.i p2::tp 11 (.i y14_6::tp 205 [])), [(Ar 42 3 enc_GWait p0)], 1⟩ <| Sq <| Sx <| Wm (.i p2) rfl <| Wm (.i p2) rfl <| Nk 147457 1 ⟨.own 0::tp 13 (.i y14_6::tp 2 (.i p2::tp 202 [])), [(Ar 42 3 enc_GWait p0)], 1⟩ <| Bk ?_
     refine AWP.loopI (α := Nat × (List GWait) × Int)
       (fun (fu_10, y0_10, y17_10) => (⟨.own 0::tp 13 (.i y14_6::tp 2 (.i y17_10::tp 202 [])), [(Ar 42 3 enc_GWait y0_10)], 1⟩ : St))
       (fun (fu_10, y0_10, y17_10) => m_slices_symMergeCmpFunc_trail_Wait__trail_Trail_Ripe_1_l10 y14_6 fu_10 y0_10 y17_10 = some r)
       (fun (fu_10, y0_10, y17_10) => fu_10) (1152921504606846976, p0, p2)
       (Weak.toK 147457 0 0 [0]) hm ?_
     rintro ⟨fu_10, y0_10, y17_10⟩ n_10 hm ih_10
     try dsimp only at hm ih_10 ⊢
     cases fu_10 with
     | zero => exact absurd hm (by unfold m_slices_symMergeCmpFunc_trail_Wait__trail_Trail_Ripe_1_l10; simp)
     | succ fu_10 =>
      unfold m_slices_symMergeCmpFunc_trail_Wait__trail_Trail_Ripe_1_l10 at hm
      refine Sq <| Sx <| Wm (.i y17_10) rfl <| Wm (.i y14_6) rfl <| Wz (.b (decide (y14_6 < y17_10))) (Obn rfl (fun _ => hb_gtr (k := .i64))) <| Nk 1298074214633706907132624082452481 1 ⟨.own 0::tp 13 (.i y14_6::tp 2 (.i y17_10::tp 92 (.b (decide (y14_6 < y17_10))::tp 109 []))), [(Ar 42 3 enc_GWait y0_10)], 1⟩ ?_
      rcases tf_ (decide (y14_6 < y17_10)) with hc110_34 | hc110_34
      ·
       replace hm := cT hc110_34 hm
       refine AiT hc110_34 <| Sk <| Tk 147457 1 ⟨.own 0::tp 13 (.i y14_6::tp 2 (.i y17_10::tp 202 [])), [(Ar 42 3 enc_GWait y0_10)], 1⟩ <| Sq <| Bk <| Adr <| Wm (.own 0) rfl <| Wm (.i y17_10) rfl <| Wm (.own 0) rfl <| Wm (.i y17_10) rfl <| Wz (.i (W6 (y17_10 - 1))) (Obn rfl (fun _ => hb_sub (k := .i64))) <| Wm (.own 0) rfl <| Wm (.i y17_10) rfl <| Wz (.i (W6 (y17_10 - 1))) (Obn rfl (fun _ => hb_sub (k := .i64))) ?_
       obtain ⟨x121_11, hx121_11, hm⟩ := bnd hm
       obtain ⟨hx121_11i, hx121_11g⟩ := geti_some hx121_11
       refine Wz (.loc 0 ((Int.toNat (W6 (y17_10 - 1))) * 3)) (Oia rfl enc_GWait_len hx121_11i hx121_11g) <| Wz (.agg [(.l enc_GPair x121_11.Bound), (.l (encI .u32) x121_11.Sets), (.i x121_11.End)]) (Lr rfl enc_GWait_len hx121_11g) <| Wm (.own 0) rfl <| Wm (.i y17_10) rfl ?_
       obtain ⟨x125_11, hx125_11, hm⟩ := bnd hm
       obtain ⟨hx125_11i, hx125_11g⟩ := geti_some hx125_11
       refine Wz (.loc 0 ((Int.toNat y17_10) * 3)) (Oia rfl enc_GWait_len hx125_11i hx125_11g) <| Wz (.agg [(.l enc_GPair x125_11.Bound), (.l (encI .u32) x125_11.Sets), (.i x125_11.End)]) (Lr rfl enc_GWait_len hx125_11g) ?_
       obtain ⟨x127_11, hx127_11, hm⟩ := bnd hm
       obtain ⟨hx127_11i, hx127_11g⟩ := geti_some hx127_11
       refine Wz (.loc 0 ((Int.toNat y17_10) * 3)) (Oia rfl enc_GWait_len hx127_11i hx127_11g) <| Wy (.tup []) [(0, (Ar 42 3 enc_GWait (List.set y0_10 (Int.toNat y17_10) x121_11)))] (Osr 0 rfl enc_GWait_len hx127_11g x121_11) ?_
       obtain ⟨x128_11, hx128_11, hm⟩ := bnd hm
       obtain ⟨hx128_11i, hx128_11g⟩ := geti_some hx128_11
       refine Wz (.loc 0 ((Int.toNat (W6 (y17_10 - 1))) * 3)) (Oia rfl enc_GWait_len hx128_11i hx128_11g) <| Wy (.tup []) [(0, (Ar 42 3 enc_GWait (List.set (List.set y0_10 (Int.toNat y17_10) x121_11) (Int.toNat (W6 (y17_10 - 1))) x125_11)))] (Osr 0 rfl enc_GWait_len hx128_11g x125_11) <| Wdr <| Ino <| Tk 147457 1 ⟨.own 0::tp 13 (.i y14_6::tp 2 (.i y17_10::tp 202 [])), [(Ar 42 3 enc_GWait (List.set (List.set y0_10 (Int.toNat y17_10) x121_11) (Int.toNat (W6 (y17_10 - 1))) x125_11))], 1⟩ <| Tx <| Wm (.i y17_10) rfl <| Wz (.i (W6 (y17_10 - 1))) (Obn rfl (fun _ => hb_sub (k := .i64))) <| Wm (.i (W6 (y17_10 - 1))) rfl <| Wn0 <| RoundK.normal ?_
       exact Rounds.weak (Weak.toK 147457 0 0 [0]) (ih_10 (fu_10, (List.set (List.set y0_10 (Int.toNat y17_10) x121_11) (Int.toNat (W6 (y17_10 - 1))) x125_11), (W6 (y17_10 - 1))) hm (Nat.lt_succ_self _))
      ·
       replace hm := cF hc110_34 hm
       refine AiF hc110_34 <| AWP.exit <| Then.exit <| RoundK.exit <| InBlock.same <| Tn <| Rt <| Tr ?_
       obtain rfl := Option.some.inj hm
       exact ret_i [0]
  ·
   replace hm := cF hc80_31 hm
   refine AiF hc80_31 <| Sk <| Tk 31 1 ⟨.own 0::.i p1::.i p2::.i p3::.clo (.func 33) [] []::tp 215 [], [(Ar 42 3 enc_GWait p0)], 1⟩ <| Sx <| Wm (.i p1) rfl <| Wm (.i p3) rfl <| Wz (.i (W6 (p1 + p3))) (Obn rfl (fun _ => hb_add (k := .i64))) <| Wz (.u (W7 (W6 (p1 + p3)))) (Oc2 (.int .i64 (W6 (p1 + p3))) rfl (run_conv (ds := .int .i64) (k' := .u64) (by kernel_rfl) (by kernel_rfl))) <| Wz (.u (Int.fdiv (W7 (W6 (p1 + p3))) (2 ^ 1))) (Ob2 (.int .u64 (W7 (W6 (p1 + p3)))) (.int .u64 1) rfl (fun _ => hb_shr (n := 1) (by decide) rfl)) <| Wz (.i (W6 (Int.fdiv (W7 (W6 (p1 + p3))) (2 ^ 1)))) (Oc2 (.int .u64 (Int.fdiv (W7 (W6 (p1 + p3))) (2 ^ 1))) rfl (run_conv (ds := .int .u64) (k' := .i64) (by kernel_rfl) (by kernel_rfl))) <| Wm (.i (W6 (Int.fdiv (W7 (W6 (p1 + p3))) (2 ^ 1)))) rfl <| Nk 262175 1 ⟨.own 0::.i p1::.i p2::.i p3::.clo (.func 33) [] []::tp 13 (.i (W6 (Int.fdiv (W7 (W6 (p1 + p3))) (2 ^ 1)))::tp 201 []), [(Ar 42 3 enc_GWait p0)], 1⟩ <| Sx <| Wm (.i (W6 (Int.fdiv (W7 (W6 (p1 + p3))) (2 ^ 1)))) rfl ?_
   refine Wm (.i p2) rfl ?_
   obtain ⟨v137_13, hv137_13, hm⟩ := bnd hm; replace hv137_13 := Option.some.inj hv137_13
   refine Wz (.i v137_13) (Ocs (congrArg (fun z => A.d (.lit (.int .i64 z))) hv137_13) (Obn rfl (fun _ => hb_add (k := .i64)))) <| Wm (.i v137_13) rfl <| Nk 786463 1 ⟨.own 0::.i p1::.i p2::.i p3::.clo (.func 33) [] []::tp 13 (.i (W6 (Int.fdiv (W7 (W6 (p1 + p3))) (2 ^ 1)))::.i v137_13::tp 200 []), [(Ar 42 3 enc_GWait p0)], 1⟩ <| Sx <| Wm (.i 0) rfl <| Wm (.i 0) rfl <| Nk 786463 1 ⟨.own 0::.i p1::.i p2::.i p3::.clo (.func 33) [] []::tp 13 (.i (W6 (Int.fdiv (W7 (W6 (p1 + p3))) (2 ^ 1)))::.i v137_13::tp 200 []), [(Ar 42 3 enc_GWait p0)], 1⟩ ?_
   refine AWP.cutJ (α := Int × Int) (fun (y20_14, y21_14) => (⟨.own 0::.i p1::.i p2::.i p3::.clo (.func 33) [] []::tp 13 (.i (W6 (Int.fdiv (W7 (W6 (p1 + p3))) (2 ^ 1)))::.i v137_13::.i y20_14::.i y21_14::tp 198 []), [(Ar 42 3 enc_GWait p0)], 1⟩ : St)) (fun (y20_14, y21_14) => m_slices_symMergeCmpFunc_trail_Wait__trail_Trail_Ripe_1_j14 p0 p1 p2 p3 v137_13 (fun p0 p1 p2 p3 => m_slices_symMergeCmpFunc_trail_Wait__trail_Trail_Ripe_1 fuR p0 p1 p2 p3) y20_14 y21_14 = some r) ?_ (fun J14 => ?_)
   ·
    rintro ⟨y20_14, y21_14⟩ hm
    try dsimp only at hm ⊢
    unfold m_slices_symMergeCmpFunc_trail_Wait__trail_Trail_Ripe_1_j14 at hm
    refine Sx <| Wm (.i v137_13) rfl <| Wz (.i (W6 (v137_13 - 1))) (Obn rfl (fun _ => hb_sub (k := .i64))) <| Wm (.i (W6 (v137_13 - 1))) rfl <| Nk 8126495 1 ⟨.own 0::.i p1::.i p2::.i p3::.clo (.func 33) [] []::tp 13 (.i (W6 (Int.fdiv (W7 (W6 (p1 + p3))) (2 ^ 1)))::.i v137_13::.i y20_14::.i y21_14::.i (W6 (v137_13 - 1))::tp 197 []), [(Ar 42 3 enc_GWait p0)], 1⟩ <| Sq <| Bk ?_
    refine AWP.loopI (α := Nat × Int × Int)
      (fun (fu_15, y20_15, y21_15) => (⟨.own 0::.i p1::.i p2::.i p3::.clo (.func 33) [] []::tp 13 (.i (W6 (Int.fdiv (W7 (W6 (p1 + p3))) (2 ^ 1)))::.i v137_13::.i y20_15::.i y21_15::.i (W6 (v137_13 - 1))::tp 197 []), [(Ar 42 3 enc_GWait p0)], 1⟩ : St))
      (fun (fu_15, y20_15, y21_15) => m_slices_symMergeCmpFunc_trail_Wait__trail_Trail_Ripe_1_l15 p0 p1 p2 p3 v137_13 (fun p0 p1 p2 p3 => m_slices_symMergeCmpFunc_trail_Wait__trail_Trail_Ripe_1 fuR p0 p1 p2 p3) fu_15 y20_15 y21_15 = some r)
      (fun (fu_15, y20_15, y21_15) => fu_15) (1152921504606846976, y20_14, y21_14)
      (Weak.toK 8126495 0 0 [0]) hm ?_
    rintro ⟨fu_15, y20_15, y21_15⟩ n_15 hm ih_15
    try dsimp only at hm ih_15 ⊢
    cases fu_15 with
    | zero => exact absurd hm (by unfold m_slices_symMergeCmpFunc_trail_Wait__trail_Trail_Ripe_1_l15; simp)
    | succ fu_15 =>
     unfold m_slices_symMergeCmpFunc_trail_Wait__trail_Trail_Ripe_1_l15 at hm
     refine Sq <| Sx <| Wm (.i y20_15) rfl <| Wm (.i y21_15) rfl <| Wz (.b (decide (y20_15 < y21_15))) (Obn rfl (fun _ => hb_lss (k := .i64))) <| Nk 2854495385411919762116571938898990272773619743 1 ⟨.own 0::.i p1::.i p2::.i p3::.clo (.func 33) [] []::tp 13 (.i (W6 (Int.fdiv (W7 (W6 (p1 + p3))) (2 ^ 1)))::.i v137_13::.i y20_15::.i y21_15::.i (W6 (v137_13 - 1))::tp 128 (.b (decide (y20_15 < y21_15))::tp 68 [])), [(Ar 42 3 enc_GWait p0)], 1⟩ ?_
     rcases tf_ (decide (y20_15 < y21_15)) with hc151_35 | hc151_35
     ·
      replace hm := cT hc151_35 hm
      refine AiT hc151_35 <| Sk <| Tk 8126495 1 ⟨.own 0::.i p1::.i p2::.i p3::.clo (.func 33) [] []::tp 13 (.i (W6 (Int.fdiv (W7 (W6 (p1 + p3))) (2 ^ 1)))::.i v137_13::.i y20_15::.i y21_15::.i (W6 (v137_13 - 1))::tp 197 []), [(Ar 42 3 enc_GWait p0)], 1⟩ <| Bk <| Sx <| Wm (.i y20_15) rfl <| Wm (.i y21_15) rfl <| Wz (.i (W6 (y20_15 + y21_15))) (Obn rfl (fun _ => hb_add (k := .i64))) <| Wz (.u (W7 (W6 (y20_15 + y21_15)))) (Oc2 (.int .i64 (W6 (y20_15 + y21_15))) rfl (run_conv (ds := .int .i64) (k' := .u64) (by kernel_rfl) (by kernel_rfl))) <| Wz (.u (Int.fdiv (W7 (W6 (y20_15 + y21_15))) (2 ^ 1))) (Ob2 (.int .u64 (W7 (W6 (y20_15 + y21_15)))) (.int .u64 1) rfl (fun _ => hb_shr (n := 1) (by decide) rfl)) <| Wz (.i (W6 (Int.fdiv (W7 (W6 (y20_15 + y21_15))) (2 ^ 1)))) (Oc2 (.int .u64 (Int.fdiv (W7 (W6 (y20_15 + y21_15))) (2 ^ 1))) rfl (run_conv (ds := .int .u64) (k' := .i64) (by kernel_rfl) (by kernel_rfl))) <| Wm (.i (W6 (Int.fdiv (W7 (W6 (y20_15 + y21_15))) (2 ^ 1)))) rfl <| Nk 16515103 1 ⟨.own 0::.i p1::.i p2::.i p3::.clo (.func 33) [] []::tp 13 (.i (W6 (Int.fdiv (W7 (W6 (p1 + p3))) (2 ^ 1)))::.i v137_13::.i y20_15::.i y21_15::.i (W6 (v137_13 - 1))::.i (W6 (Int.fdiv (W7 (W6 (y20_15 + y21_15))) (2 ^ 1)))::tp 196 []), [(Ar 42 3 enc_GWait p0)], 1⟩ <| Sq ?_
      refine Adr <| Wm (.clo (.func 33) [] []) rfl <| Wm (.own 0) rfl <| Wm (.i (W6 (v137_13 - 1))) rfl <| Wm (.i (W6 (Int.fdiv (W7 (W6 (y20_15 + y21_15))) (2 ^ 1)))) rfl ?_
      obtain ⟨v162_17, hv162_17, hm⟩ := bnd hm; replace hv162_17 := Option.some.inj hv162_17
      refine Wz (.i v162_17) (Ocs (congrArg (fun z => A.d (.lit (.int .i64 z))) hv162_17) (Obn rfl (fun _ => hb_sub (k := .i64)))) ?_
      obtain ⟨x163_17, hx163_17, hm⟩ := bnd hm
      obtain ⟨hx163_17i, hx163_17g⟩ := geti_some hx163_17
      refine Wz (.loc 0 ((Int.toNat v162_17) * 3)) (Oia rfl enc_GWait_len hx163_17i hx163_17g) <| Wz (.agg [(.l enc_GPair x163_17.Bound), (.l (encI .u32) x163_17.Sets), (.i x163_17.End)]) (Lr rfl enc_GWait_len hx163_17g) <| Wm (.own 0) rfl <| Wm (.i (W6 (Int.fdiv (W7 (W6 (y20_15 + y21_15))) (2 ^ 1)))) rfl ?_
      obtain ⟨x167_17, hx167_17, hm⟩ := bnd hm
      obtain ⟨hx167_17i, hx167_17g⟩ := geti_some hx167_17
      refine Wz (.loc 0 ((Int.toNat (W6 (Int.fdiv (W7 (W6 (y20_15 + y21_15))) (2 ^ 1)))) * 3)) (Oia rfl enc_GWait_len hx167_17i hx167_17g) <| Wz (.agg [(.l enc_GPair x167_17.Bound), (.l (encI .u32) x167_17.Sets), (.i x167_17.End)]) (Lr rfl enc_GWait_len hx167_17g) ?_
      obtain ⟨r169_17, hr169_17, hm⟩ := bnd hm
      refine Wz (.i r169_17) (Ocf [] [] [] 0 (ok_trail_Trail_Ripe_1 x163_17 x167_17 r169_17 hr169_17) (fun a w => Try.call33 a w) rfl trivial) <| Wz (.b (decide (r169_17 < 0))) (Obn rfl (fun _ => hb_lss (k := .i64))) <| Wz (.b (!decide (r169_17 < 0))) (Ocs (by kernel_rfl) (op_un rfl (a1 := .bool (decide (r169_17 < 0))) (by kernel_rfl) (fun _ => hu_not))) <| Wdr <| Tk 2993155353253689176481146537402947624255349864529951 1 ⟨.own 0::.i p1::.i p2::.i p3::.clo (.func 33) [] []::tp 13 (.i (W6 (Int.fdiv (W7 (W6 (p1 + p3))) (2 ^ 1)))::.i v137_13::.i y20_15::.i y21_15::.i (W6 (v137_13 - 1))::.i (W6 (Int.fdiv (W7 (W6 (y20_15 + y21_15))) (2 ^ 1)))::tp 147 (.b (!decide (r169_17 < 0))::tp 48 [])), [(Ar 42 3 enc_GWait p0)], 1⟩ ?_
      rcases tf_ (!decide (r169_17 < 0)) with hc171_36 | hc171_36
      ·
       replace hm := cT hc171_36 hm
       refine AiT hc171_36 <| Tx <| Wm (.i (W6 (Int.fdiv (W7 (W6 (y20_15 + y21_15))) (2 ^ 1)))) rfl ?_
       obtain ⟨v173_18, hv173_18, hm⟩ := bnd hm; replace hv173_18 := Option.some.inj hv173_18
       refine Wz (.i v173_18) (Ocs (congrArg (fun z => A.d (.lit (.int .i64 z))) hv173_18) (Obn rfl (fun _ => hb_add (k := .i64)))) <| Wm (.i v173_18) rfl <| Wn0 <| Ino <| RoundK.normal ?_
       exact Rounds.weak (Weak.toK 8126495 0 0 [0]) (ih_15 (fu_15, v173_18, y21_15) hm (Nat.lt_succ_self _))
      ·
       replace hm := cF hc171_36 hm
       refine AiF hc171_36 <| Tx <| Wm (.i (W6 (Int.fdiv (W7 (W6 (y20_15 + y21_15))) (2 ^ 1)))) rfl <| Wm (.i (W6 (Int.fdiv (W7 (W6 (y20_15 + y21_15))) (2 ^ 1)))) rfl <| Wn0 <| Ino <| RoundK.normal ?_
       exact Rounds.weak (Weak.toK 8126495 0 0 [0]) (ih_15 (fu_15, y20_15, (W6 (Int.fdiv (W7 (W6 (y20_15 + y21_15))) (2 ^ 1)))) hm (Nat.lt_succ_self _))
     ·
      replace hm := cF hc151_35 hm
      refine AiF hc151_35 <| AWP.exit <| Then.exit <| RoundK.exit <| InBlock.same <| Tk 1835039 1 ⟨.own 0::.i p1::.i p2::.i p3::.clo (.func 33) [] []::tp 13 (.i (W6 (Int.fdiv (W7 (W6 (p1 + p3))) (2 ^ 1)))::.i v137_13::.i y20_15::tp 199 []), [(Ar 42 3 enc_GWait p0)], 1⟩ <| Sx <| Wm (.i v137_13) rfl <| Wm (.i y20_15) rfl <| Wz (.i (W6 (v137_13 - y20_15))) (Obn rfl (fun _ => hb_sub (k := .i64))) <| Wm (.i (W6 (v137_13 - y20_15))) rfl <| Nk 18087967 1 ⟨.own 0::.i p1::.i p2::.i p3::.clo (.func 33) [] []::tp 13 (.i (W6 (Int.fdiv (W7 (W6 (p1 + p3))) (2 ^ 1)))::tp 1 (.i y20_15::tp 3 (.i (W6 (v137_13 - y20_15))::tp 195 []))), [(Ar 42 3 enc_GWait p0)], 1⟩ ?_
      refine AWP.cutJ (α := (List GWait)) (fun x => match x with | y0_21 => (⟨.own 0::.i p1::tp 1 (.i p3::.clo (.func 33) [] []::tp 13 (.i (W6 (Int.fdiv (W7 (W6 (p1 + p3))) (2 ^ 1)))::tp 1 (.i y20_15::tp 3 (.i (W6 (v137_13 - y20_15))::tp 195 [])))), [(Ar 42 3 enc_GWait y0_21)], 1⟩ : St)) (fun x => match x with | y0_21 => m_slices_symMergeCmpFunc_trail_Wait__trail_Trail_Ripe_1_j21 p1 p3 v137_13 y20_15 (fun p0 p1 p2 p3 => m_slices_symMergeCmpFunc_trail_Wait__trail_Trail_Ripe_1 fuR p0 p1 p2 p3) y0_21 = some r) ?_ (fun J21 => ?_)
      ·
       rintro y0_21 hm
       try dsimp only at hm ⊢
       unfold m_slices_symMergeCmpFunc_trail_Wait__trail_Trail_Ripe_1_j21 at hm
       refine AWP.cutJ (α := (List GWait)) (fun x => match x with | y0_24 => (⟨.own 0::tp 2 (.i p3::.clo (.func 33) [] []::tp 13 (.i (W6 (Int.fdiv (W7 (W6 (p1 + p3))) (2 ^ 1)))::tp 5 (.i (W6 (v137_13 - y20_15))::tp 195 []))), [(Ar 42 3 enc_GWait y0_24)], 1⟩ : St)) (fun x => match x with | y0_24 => m_slices_symMergeCmpFunc_trail_Wait__trail_Trail_Ripe_1_j24 p1 p3 v137_13 y20_15 (fun p0 p1 p2 p3 => m_slices_symMergeCmpFunc_trail_Wait__trail_Trail_Ripe_1 fuR p0 p1 p2 p3) y0_24 = some r) ?_ (fun J24 => ?_)
       ·
        rintro y0_24 hm
        try dsimp only at hm ⊢
        unfold m_slices_symMergeCmpFunc_trail_Wait__trail_Trail_Ripe_1_j24 at hm
        refine Sx <| Wm (.i (W6 (Int.fdiv (W7 (W6 (p1 + p3))) (2 ^ 1)))) rfl <| Wm (.i (W6 (v137_13 - y20_15))) rfl ?_
        obtain ⟨v208_25, hv208_25, hm⟩ := bnd hm; replace hv208_25 := Option.some.inj hv208_25
        refine Wz (.b v208_25) (Ocs (congrArg (fun z => A.d (.lit (.bool z))) hv208_25) (Obn rfl (fun _ => hb_lss (k := .i64)))) ?_
        rcases tf_ v208_25 with hq209_25 | hq209_25
        ·
         replace hm := cT hq209_25 hm
         refine Wz (.b true) (Oq hq209_25 rfl) <| Wm (.i (W6 (v137_13 - y20_15))) rfl <| Wm (.i p3) rfl <| Wz (.b (decide ((W6 (v137_13 - y20_15)) < p3))) (Obn rfl (fun _ => hb_lss (k := .i64))) <| Wz (.b (decide ((W6 (v137_13 - y20_15)) < p3))) (OpT rfl) <| Nk 13164036458569648337239753460458804039861886925068638906805911577 1 ⟨.own 0::tp 2 (.i p3::.clo (.func 33) [] []::tp 13 (.i (W6 (Int.fdiv (W7 (W6 (p1 + p3))) (2 ^ 1)))::tp 5 (.i (W6 (v137_13 - y20_15))::tp 188 (.b (decide ((W6 (v137_13 - y20_15)) < p3))::tp 6 [])))), [(Ar 42 3 enc_GWait y0_24)], 1⟩ ?_
         rcases tf_ (decide ((W6 (v137_13 - y20_15)) < p3)) with hc213_37 | hc213_37
         ·
          replace hm := cT hc213_37 hm
          refine AiT hc213_37 <| Tx <| Wm (.own 0) rfl <| Wm (.i (W6 (Int.fdiv (W7 (W6 (p1 + p3))) (2 ^ 1)))) rfl <| Wm (.i (W6 (v137_13 - y20_15))) rfl <| Wm (.i p3) rfl <| Wm (.clo (.func 33) [] []) rfl ?_
          obtain ⟨r219_26, hr219_26, hm⟩ := bnd hm
          refine Wy (.tup []) [(0, (Ar 42 3 enc_GWait r219_26))] (Ocf [0] [] [] 0 (ih y0_24 (W6 (Int.fdiv (W7 (W6 (p1 + p3))) (2 ^ 1))) (W6 (v137_13 - y20_15)) p3 r219_26 hr219_26) (fun a w => Try.call66 a w) rfl ⟨rfl, trivial⟩) <| Wn0 ?_
          obtain rfl := Option.some.inj hm
          exact ret_n [0]
         ·
          replace hm := cF hc213_37 hm
          refine AiF hc213_37 <| Sk ?_
          obtain rfl := Option.some.inj hm
          exact ret_n [0]
        ·
         replace hm := cF hq209_25 hm
         refine Wz (.b false) (Oq hq209_25 rfl) <| Wn <| Wn <| Wn <| Wz (.b false) (OpF rfl) <| Nk 13164036458569648337239753460458804039861886925068638906805911577 1 ⟨.own 0::tp 2 (.i p3::.clo (.func 33) [] []::tp 13 (.i (W6 (Int.fdiv (W7 (W6 (p1 + p3))) (2 ^ 1)))::tp 5 (.i (W6 (v137_13 - y20_15))::tp 188 (.b false::tp 6 [])))), [(Ar 42 3 enc_GWait y0_24)], 1⟩ <| AWP.if_ false (by kernel_rfl) <| Sk ?_
         obtain rfl := Option.some.inj hm
         exact ret_n [0]
       refine Sq <| Sx <| Wm (.i p1) rfl <| Wm (.i y20_15) rfl <| Wz (.b (decide (p1 < y20_15))) (Obn rfl (fun _ => hb_lss (k := .i64))) ?_
       rcases tf_ (decide (p1 < y20_15)) with hq195_22 | hq195_22
       ·
        replace hm := cT hq195_22 hm
        refine Wz (.b true) (Oq hq195_22 rfl) <| Wm (.i y20_15) rfl <| Wm (.i (W6 (Int.fdiv (W7 (W6 (p1 + p3))) (2 ^ 1)))) rfl <| Wz (.b (decide (y20_15 < (W6 (Int.fdiv (W7 (W6 (p1 + p3))) (2 ^ 1)))))) (Obn rfl (fun _ => hb_lss (k := .i64))) <| Wz (.b (decide (y20_15 < (W6 (Int.fdiv (W7 (W6 (p1 + p3))) (2 ^ 1)))))) (OpT rfl) <| Nk 803469022129495137770981046170581301261101496891396435738651 1 ⟨.own 0::.i p1::tp 1 (.i p3::.clo (.func 33) [] []::tp 13 (.i (W6 (Int.fdiv (W7 (W6 (p1 + p3))) (2 ^ 1)))::tp 1 (.i y20_15::tp 3 (.i (W6 (v137_13 - y20_15))::tp 174 (.b (decide (y20_15 < (W6 (Int.fdiv (W7 (W6 (p1 + p3))) (2 ^ 1)))))::tp 20 []))))), [(Ar 42 3 enc_GWait y0_21)], 1⟩ ?_
        rcases tf_ (decide (y20_15 < (W6 (Int.fdiv (W7 (W6 (p1 + p3))) (2 ^ 1))))) with hc199_38 | hc199_38
        ·
         replace hm := cT hc199_38 hm
         refine AiT hc199_38 <| Tx <| Wm (.own 0) rfl <| Wm (.i p1) rfl <| Wm (.i y20_15) rfl <| Wm (.i (W6 (Int.fdiv (W7 (W6 (p1 + p3))) (2 ^ 1)))) rfl <| Wm (.clo (.func 33) [] []) rfl ?_
         obtain ⟨r205_23, hr205_23, hm⟩ := bnd hm
         refine Wy (.tup []) [(0, (Ar 42 3 enc_GWait r205_23))] (Ocf [0] [] [] 0 (ih y0_21 p1 y20_15 (W6 (Int.fdiv (W7 (W6 (p1 + p3))) (2 ^ 1))) r205_23 hr205_23) (fun a w => Try.call66 a w) rfl ⟨rfl, trivial⟩) <| Nn ?_
         exact AWP.weak (Weak.toK 17039385 0 0 [0]) (J24 (r205_23) hm)
        ·
         replace hm := cF hc199_38 hm
         refine AiF hc199_38 <| Sk <| Tn ?_
         exact AWP.weak (Weak.toK 17039385 0 0 [0]) (J24 (y0_21) hm)
       ·
        replace hm := cF hq195_22 hm
        refine Wz (.b false) (Oq hq195_22 rfl) <| Wn <| Wn <| Wn <| Wz (.b false) (OpF rfl) <| Nk 803469022129495137770981046170581301261101496891396435738651 1 ⟨.own 0::.i p1::tp 1 (.i p3::.clo (.func 33) [] []::tp 13 (.i (W6 (Int.fdiv (W7 (W6 (p1 + p3))) (2 ^ 1)))::tp 1 (.i y20_15::tp 3 (.i (W6 (v137_13 - y20_15))::tp 174 (.b false::tp 20 []))))), [(Ar 42 3 enc_GWait y0_21)], 1⟩ <| AWP.if_ false (by kernel_rfl) <| Sk <| Tn ?_
        exact AWP.weak (Weak.toK 17039385 0 0 [0]) (J24 (y0_21) hm)
      refine Sq <| Sx <| Wm (.i y20_15) rfl <| Wm (.i p2) rfl <| Wz (.b (decide (y20_15 < p2))) (Obn rfl (fun _ => hb_lss (k := .i64))) ?_
      rcases tf_ (decide (y20_15 < p2)) with hq181_19 | hq181_19
      ·
       replace hm := cT hq181_19 hm
       refine Wz (.b true) (Oq hq181_19 rfl) <| Wm (.i p2) rfl <| Wm (.i (W6 (v137_13 - y20_15))) rfl <| Wz (.b (decide (p2 < (W6 (v137_13 - y20_15))))) (Obn rfl (fun _ => hb_lss (k := .i64))) <| Wz (.b (decide (p2 < (W6 (v137_13 - y20_15))))) (OpT rfl) <| Nk 49039857307708443467467104868809893875799651909893357599 1 ⟨.own 0::.i p1::.i p2::.i p3::.clo (.func 33) [] []::tp 13 (.i (W6 (Int.fdiv (W7 (W6 (p1 + p3))) (2 ^ 1)))::tp 1 (.i y20_15::tp 3 (.i (W6 (v137_13 - y20_15))::tp 160 (.b (decide (p2 < (W6 (v137_13 - y20_15))))::tp 34 [])))), [(Ar 42 3 enc_GWait p0)], 1⟩ ?_
       rcases tf_ (decide (p2 < (W6 (v137_13 - y20_15)))) with hc185_39 | hc185_39
       ·
        replace hm := cT hc185_39 hm
        refine AiT hc185_39 <| Tx <| Wm (.own 0) rfl <| Wm (.i y20_15) rfl <| Wm (.i p2) rfl <| Wm (.i (W6 (v137_13 - y20_15))) rfl <| Wm (.clo (.func 33) [] []) rfl ?_
        obtain ⟨r191_20, hr191_20, hm⟩ := bnd hm
        refine Wy (.tup []) [(0, (Ar 42 3 enc_GWait r191_20))] (Ocf [0] [] [] 0 (ok_slices_rotateCmpFunc_trail_Wait__trail_Trail_Ripe_1 p0 y20_15 p2 (W6 (v137_13 - y20_15)) r191_20 hr191_20) (fun a w => Try.call74 a w) rfl ⟨rfl, trivial⟩) <| Nn ?_
        exact AWP.weak (Weak.toK 18087963 0 0 [0]) (J21 (r191_20) hm)
       ·
        replace hm := cF hc185_39 hm
        refine AiF hc185_39 <| Sk <| Tn ?_
        exact AWP.weak (Weak.toK 18087963 0 0 [0]) (J21 (p0) hm)
      ·
       replace hm := cF hq181_19 hm
       refine Wz (.b false) (Oq hq181_19 rfl) <| Wn <| Wn <| Wn <| Wz (.b false) (OpF rfl) <| Nk 49039857307708443467467104868809893875799651909893357599 1 ⟨.own 0::.i p1::.i p2::.i p3::.clo (.func 33) [] []::tp 13 (.i (W6 (Int.fdiv (W7 (W6 (p1 + p3))) (2 ^ 1)))::tp 1 (.i y20_15::tp 3 (.i (W6 (v137_13 - y20_15))::tp 160 (.b false::tp 34 [])))), [(Ar 42 3 enc_GWait p0)], 1⟩ <| AWP.if_ false (by kernel_rfl) <| Sk <| Tn ?_
       exact AWP.weak (Weak.toK 18087963 0 0 [0]) (J21 (p0) hm)
   refine Sq <| Sx <| Wm (.i p2) rfl <| Wm (.i (W6 (Int.fdiv (W7 (W6 (p1 + p3))) (2 ^ 1)))) rfl <| Wz (.b (decide ((W6 (Int.fdiv (W7 (W6 (p1 + p3))) (2 ^ 1))) < p2))) (Obn rfl (fun _ => hb_gtr (k := .i64))) <| Nk 1393796574908163946345982392040522594910239 1 ⟨.own 0::.i p1::.i p2::.i p3::.clo (.func 33) [] []::tp 13 (.i (W6 (Int.fdiv (W7 (W6 (p1 + p3))) (2 ^ 1)))::.i v137_13::tp 120 (.b (decide ((W6 (Int.fdiv (W7 (W6 (p1 + p3))) (2 ^ 1))) < p2))::tp 79 [])), [(Ar 42 3 enc_GWait p0)], 1⟩ ?_
   rcases tf_ (decide ((W6 (Int.fdiv (W7 (W6 (p1 + p3))) (2 ^ 1))) < p2)) with hc140_40 | hc140_40
   ·
    replace hm := cT hc140_40 hm
    refine AiT hc140_40 <| Sx <| Wm (.i v137_13) rfl <| Wm (.i p3) rfl <| Wz (.i (W6 (v137_13 - p3))) (Obn rfl (fun _ => hb_sub (k := .i64))) <| Wm (.i (W6 (v137_13 - p3))) rfl <| Nk 1835039 1 ⟨.own 0::.i p1::.i p2::.i p3::.clo (.func 33) [] []::tp 13 (.i (W6 (Int.fdiv (W7 (W6 (p1 + p3))) (2 ^ 1)))::.i v137_13::.i (W6 (v137_13 - p3))::tp 199 []), [(Ar 42 3 enc_GWait p0)], 1⟩ <| Tx <| Wm (.i (W6 (Int.fdiv (W7 (W6 (p1 + p3))) (2 ^ 1)))) rfl <| Wm (.i (W6 (Int.fdiv (W7 (W6 (p1 + p3))) (2 ^ 1)))) rfl <| Nn ?_
    exact AWP.weak (Weak.toK 3932191 0 0 [0]) (J14 ((W6 (v137_13 - p3)), (W6 (Int.fdiv (W7 (W6 (p1 + p3))) (2 ^ 1)))) hm)
   ·
    replace hm := cF hc140_40 hm
    refine AiF hc140_40 <| Sx <| Wm (.i p1) rfl <| Wm (.i p1) rfl <| Nk 1835039 1 ⟨.own 0::.i p1::.i p2::.i p3::.clo (.func 33) [] []::tp 13 (.i (W6 (Int.fdiv (W7 (W6 (p1 + p3))) (2 ^ 1)))::.i v137_13::.i p1::tp 199 []), [(Ar 42 3 enc_GWait p0)], 1⟩ <| Tx <| Wm (.i p2) rfl <| Wm (.i p2) rfl <| Nn ?_
    exact AWP.weak (Weak.toK 3932191 0 0 [0]) (J14 (p1, p2) hm)

theorem ok_slices_stableCmpFunc_trail_Wait__trail_Trail_Ripe_1 (p0 : (List GWait)) (p1 : Int) (r : (List GWait)) (h : m_slices_stableCmpFunc_trail_Wait__trail_Trail_Ripe_1 p0 p1 = some r) : GCall Try.prog 48 [(.own 0), (.i p1), (.clo (.func 33) [] [])] [(Ar 42 3 enc_GWait p0)] (.tup []) [(Ar 42 3 enc_GWait r)] := by
 refine GCall.of_body (n := 63) (rs := []) Try.func48 rfl rfl rfl <| Ato ⟨.own 0::.i p1::.clo (.func 33) [] []::tu 60 [], [(Ar 42 3 enc_GWait p0)], 1⟩ ?_
 have hm := h
 unfold m_slices_stableCmpFunc_trail_Wait__trail_Trail_Ripe_1 at hm
 refine Sx <| Wm (.i 20) rfl <| Nk 71 1 ⟨.own 0::.i p1::.clo (.func 33) [] []::tp 3 (.i 20::tp 56 []), [(Ar 42 3 enc_GWait p0)], 1⟩ <| Sx <| Wm (.i 20) rfl <| Wm (.i 0) rfl <| Wm (.i 20) rfl <| Nk 455 1 ⟨.own 0::.i p1::.clo (.func 33) [] []::tp 3 (.i 20::.i 0::.i 20::tp 54 []), [(Ar 42 3 enc_GWait p0)], 1⟩ <| Sq <| Bk ?_
 refine AWP.loopI (α := Nat × (List GWait) × Int × Int)
   (fun (fu_0, y0_0, y7_0, y8_0) => (⟨.own 0::.i p1::.clo (.func 33) [] []::tp 3 (.i 20::.i y7_0::.i y8_0::tp 54 []), [(Ar 42 3 enc_GWait y0_0)], 1⟩ : St))
   (fun (fu_0, y0_0, y7_0, y8_0) => m_slices_stableCmpFunc_trail_Wait__trail_Trail_Ripe_1_l0 p1 fu_0 y0_0 y7_0 y8_0 = some r)
   (fun (fu_0, y0_0, y7_0, y8_0) => fu_0) (1152921504606846976, p0, 0, 20)
   (Weak.toK 455 0 0 [0]) hm ?_
 rintro ⟨fu_0, y0_0, y7_0, y8_0⟩ n_0 hm ih_0
 try dsimp only at hm ih_0 ⊢
 cases fu_0 with
 | zero => exact absurd hm (by unfold m_slices_stableCmpFunc_trail_Wait__trail_Trail_Ripe_1_l0; simp)
 | succ fu_0 =>
  unfold m_slices_stableCmpFunc_trail_Wait__trail_Trail_Ripe_1_l0 at hm
  refine Sq <| Sx <| Wm (.i y8_0) rfl <| Wm (.i p1) rfl <| Wz (.b (decide (y8_0 ≤ p1))) (Obn rfl (fun _ => hb_leq (k := .i64))) <| Nk 8647 1 ⟨.own 0::.i p1::.clo (.func 33) [] []::tp 3 (.i 20::.i y7_0::.i y8_0::tp 4 (.b (decide (y8_0 ≤ p1))::tp 49 [])), [(Ar 42 3 enc_GWait y0_0)], 1⟩ ?_
  rcases tf_ (decide (y8_0 ≤ p1)) with hc13_7 | hc13_7
  ·
   replace hm := cT hc13_7 hm
   refine AiT hc13_7 <| Sk <| Tk 455 1 ⟨.own 0::.i p1::.clo (.func 33) [] []::tp 3 (.i 20::.i y7_0::.i y8_0::tp 54 []), [(Ar 42 3 enc_GWait y0_0)], 1⟩ <| Bk <| Sx <| Wm (.own 0) rfl <| Wm (.i y7_0) rfl <| Wm (.i y8_0) rfl <| Wm (.clo (.func 33) [] []) rfl ?_
   obtain ⟨r18_1, hr18_1, hm⟩ := bnd hm
   refine Wy (.tup []) [(0, (Ar 42 3 enc_GWait r18_1))] (Ocf [0] [] [] 0 (ok_slices_insertionSortCmpFunc_trail_Wait__trail_Trail_Ripe_1 y0_0 y7_0 y8_0 r18_1 hr18_1) (fun a w => Try.call65 a w) rfl ⟨rfl, trivial⟩) <| Nk 327 1 ⟨.own 0::.i p1::.clo (.func 33) [] []::tp 3 (.i 20::tp 1 (.i y8_0::tp 54 [])), [(Ar 42 3 enc_GWait r18_1)], 1⟩ <| Sx <| Wm (.i y8_0) rfl <| Wm (.i y8_0) rfl <| Nk 455 1 ⟨.own 0::.i p1::.clo (.func 33) [] []::tp 3 (.i 20::.i y8_0::.i y8_0::tp 54 []), [(Ar 42 3 enc_GWait r18_1)], 1⟩ <| Tx <| Wm (.i y8_0) rfl <| Wm (.i 20) rfl <| Wz (.i (W6 (y8_0 + 20))) (Obn rfl (fun _ => hb_add (k := .i64))) <| Wm (.i (W6 (y8_0 + 20))) rfl <| Wn0 <| Ino <| RoundK.normal ?_
   exact Rounds.weak (Weak.toK 455 0 0 [0]) (ih_0 (fu_0, r18_1, y8_0, (W6 (y8_0 + 20))) hm (Nat.lt_succ_self _))
  ·
   replace hm := cF hc13_7 hm
   refine AiF hc13_7 <| AWP.exit <| Then.exit <| RoundK.exit <| InBlock.same <| Tk 199 1 ⟨.own 0::.i p1::.clo (.func 33) [] []::tp 3 (.i 20::.i y7_0::tp 55 []), [(Ar 42 3 enc_GWait y0_0)], 1⟩ <| Sx <| Wm (.own 0) rfl <| Wm (.i y7_0) rfl <| Wm (.i p1) rfl <| Wm (.clo (.func 33) [] []) rfl ?_
   obtain ⟨r27_2, hr27_2, hm⟩ := bnd hm
   refine Wy (.tup []) [(0, (Ar 42 3 enc_GWait r27_2))] (Ocf [0] [] [] 0 (ok_slices_insertionSortCmpFunc_trail_Wait__trail_Trail_Ripe_1 y0_0 y7_0 p1 r27_2 hr27_2) (fun a w => Try.call65 a w) rfl ⟨rfl, trivial⟩) <| Nk 71 1 ⟨.own 0::.i p1::.clo (.func 33) [] []::tp 3 (.i 20::tp 56 []), [(Ar 42 3 enc_GWait r27_2)], 1⟩ <| Bk ?_
   refine AWP.loopI (α := Nat × (List GWait) × Int)
     (fun (fu_3, y0_3, y6_3) => (⟨.own 0::.i p1::.clo (.func 33) [] []::tp 3 (.i y6_3::tp 56 []), [(Ar 42 3 enc_GWait y0_3)], 1⟩ : St))
     (fun (fu_3, y0_3, y6_3) => m_slices_stableCmpFunc_trail_Wait__trail_Trail_Ripe_1_l3 p1 fu_3 y0_3 y6_3 = some r)
     (fun (fu_3, y0_3, y6_3) => fu_3) (1152921504606846976, r27_2, 20)
     (Weak.toK 71 0 0 [0]) hm ?_
   rintro ⟨fu_3, y0_3, y6_3⟩ n_3 hm ih_3
   try dsimp only at hm ih_3 ⊢
   cases fu_3 with
   | zero => exact absurd hm (by unfold m_slices_stableCmpFunc_trail_Wait__trail_Trail_Ripe_1_l3; simp)
   | succ fu_3 =>
    unfold m_slices_stableCmpFunc_trail_Wait__trail_Trail_Ripe_1_l3 at hm
    refine Sq <| Sx <| Wm (.i y6_3) rfl <| Wm (.i p1) rfl <| Wz (.b (decide (y6_3 < p1))) (Obn rfl (fun _ => hb_lss (k := .i64))) <| Nk 1073741895 1 ⟨.own 0::.i p1::.clo (.func 33) [] []::tp 3 (.i y6_3::tp 23 (.b (decide (y6_3 < p1))::tp 32 [])), [(Ar 42 3 enc_GWait y0_3)], 1⟩ ?_
    rcases tf_ (decide (y6_3 < p1)) with hc30_8 | hc30_8
    ·
     replace hm := cT hc30_8 hm
     refine AiT hc30_8 <| Sk <| Tk 71 1 ⟨.own 0::.i p1::.clo (.func 33) [] []::tp 3 (.i y6_3::tp 56 []), [(Ar 42 3 enc_GWait y0_3)], 1⟩ <| Bk <| Sx <| Wm (.i y6_3) rfl <| Wz (.i (W6 (2 * y6_3))) (Obn rfl (fun _ => hb_mul (k := .i64))) <| Wm (.i 0) rfl <| Wm (.i (W6 (2 * y6_3))) rfl <| Nk 455 1 ⟨.own 0::.i p1::.clo (.func 33) [] []::tp 3 (.i y6_3::.i 0::.i (W6 (2 * y6_3))::tp 54 []), [(Ar 42 3 enc_GWait y0_3)], 1⟩ <| Sq <| Bk ?_
     refine AWP.loopI (α := Nat × (List GWait) × Int × Int)
       (fun (fu_4, y0_4, y7_4, y8_4) => (⟨.own 0::.i p1::.clo (.func 33) [] []::tp 3 (.i y6_3::.i y7_4::.i y8_4::tp 54 []), [(Ar 42 3 enc_GWait y0_4)], 1⟩ : St))
       (fun (fu_4, y0_4, y7_4, y8_4) => m_slices_stableCmpFunc_trail_Wait__trail_Trail_Ripe_1_l4 p1 y6_3 (fun y0_3 y6_3 => m_slices_stableCmpFunc_trail_Wait__trail_Trail_Ripe_1_l3 p1 fu_3 y0_3 y6_3) fu_4 y0_4 y7_4 y8_4 = some r)
       (fun (fu_4, y0_4, y7_4, y8_4) => fu_4) (1152921504606846976, y0_3, 0, (W6 (2 * y6_3)))
       (Weak.toK 455 0 0 [0]) hm ?_
     rintro ⟨fu_4, y0_4, y7_4, y8_4⟩ n_4 hm ih_4
     try dsimp only at hm ih_4 ⊢
     cases fu_4 with
     | zero => exact absurd hm (by unfold m_slices_stableCmpFunc_trail_Wait__trail_Trail_Ripe_1_l4; simp)
     | succ fu_4 =>
      unfold m_slices_stableCmpFunc_trail_Wait__trail_Trail_Ripe_1_l4 at hm
      refine Sq <| Sx <| Wm (.i y8_4) rfl <| Wm (.i p1) rfl <| Wz (.b (decide (y8_4 ≤ p1))) (Obn rfl (fun _ => hb_leq (k := .i64))) <| Nk 34359738823 1 ⟨.own 0::.i p1::.clo (.func 33) [] []::tp 3 (.i y6_3::.i y7_4::.i y8_4::tp 26 (.b (decide (y8_4 ≤ p1))::tp 27 [])), [(Ar 42 3 enc_GWait y0_4)], 1⟩ ?_
      rcases tf_ (decide (y8_4 ≤ p1)) with hc35_9 | hc35_9
      ·
       replace hm := cT hc35_9 hm
       refine AiT hc35_9 <| Sk <| Tk 455 1 ⟨.own 0::.i p1::.clo (.func 33) [] []::tp 3 (.i y6_3::.i y7_4::.i y8_4::tp 54 []), [(Ar 42 3 enc_GWait y0_4)], 1⟩ <| Bk <| Sx <| Wm (.own 0) rfl <| Wm (.i y7_4) rfl <| Wm (.i y7_4) rfl <| Wm (.i y6_3) rfl <| Wz (.i (W6 (y7_4 + y6_3))) (Obn rfl (fun _ => hb_add (k := .i64))) <| Wm (.i y8_4) rfl <| Wm (.clo (.func 33) [] []) rfl ?_
       obtain ⟨r43_5, hr43_5, hm⟩ := bnd hm
       refine Wy (.tup []) [(0, (Ar 42 3 enc_GWait r43_5))] (Ocf [0] [] [] 0 (ok_slices_symMergeCmpFunc_trail_Wait__trail_Trail_Ripe_1 1152921504606846976 y0_4 y7_4 (W6 (y7_4 + y6_3)) y8_4 r43_5 hr43_5) (fun a w => Try.call66 a w) rfl ⟨rfl, trivial⟩) <| Nk 327 1 ⟨.own 0::.i p1::.clo (.func 33) [] []::tp 3 (.i y6_3::tp 1 (.i y8_4::tp 54 [])), [(Ar 42 3 enc_GWait r43_5)], 1⟩ <| Sx <| Wm (.i y8_4) rfl <| Wm (.i y8_4) rfl <| Nk 455 1 ⟨.own 0::.i p1::.clo (.func 33) [] []::tp 3 (.i y6_3::.i y8_4::.i y8_4::tp 54 []), [(Ar 42 3 enc_GWait r43_5)], 1⟩ <| Tx <| Wm (.i y8_4) rfl <| Wm (.i y6_3) rfl <| Wz (.i (W6 (2 * y6_3))) (Obn rfl (fun _ => hb_mul (k := .i64))) <| Wz (.i (W6 (y8_4 + (W6 (2 * y6_3))))) (Obn rfl (fun _ => hb_add (k := .i64))) <| Wm (.i (W6 (y8_4 + (W6 (2 * y6_3))))) rfl <| Wn0 <| Ino ?_
       refine RoundK.normal ?_
       exact Rounds.weak (Weak.toK 455 0 0 [0]) (ih_4 (fu_4, r43_5, y8_4, (W6 (y8_4 + (W6 (2 * y6_3))))) hm (Nat.lt_succ_self _))
      ·
       replace hm := cF hc35_9 hm
       refine AiF hc35_9 <| AWP.exit <| Then.exit <| RoundK.exit <| InBlock.same <| Tk 199 1 ⟨.own 0::.i p1::.clo (.func 33) [] []::tp 3 (.i y6_3::.i y7_4::tp 55 []), [(Ar 42 3 enc_GWait y0_4)], 1⟩ <| Sq <| Sx <| Wm (.i y7_4) rfl <| Wm (.i y6_3) rfl <| Wz (.i (W6 (y7_4 + y6_3))) (Obn rfl (fun _ => hb_add (k := .i64))) <| Wm (.i (W6 (y7_4 + y6_3))) rfl <| Nk 711 1 ⟨.own 0::.i p1::.clo (.func 33) [] []::tp 3 (.i y6_3::.i y7_4::tp 1 (.i (W6 (y7_4 + y6_3))::tp 53 [])), [(Ar 42 3 enc_GWait y0_4)], 1⟩ <| Sx ?_
       refine Wm (.i (W6 (y7_4 + y6_3))) rfl <| Wm (.i p1) rfl <| Wz (.b (decide ((W6 (y7_4 + y6_3)) < p1))) (Obn rfl (fun _ => hb_lss (k := .i64))) <| Nk 18014398509482695 1 ⟨.own 0::.i p1::.clo (.func 33) [] []::tp 3 (.i y6_3::.i y7_4::tp 1 (.i (W6 (y7_4 + y6_3))::tp 44 (.b (decide ((W6 (y7_4 + y6_3)) < p1))::tp 8 []))), [(Ar 42 3 enc_GWait y0_4)], 1⟩ ?_
       rcases tf_ (decide ((W6 (y7_4 + y6_3)) < p1)) with hc54_10 | hc54_10
       ·
        replace hm := cT hc54_10 hm
        refine AiT hc54_10 <| Tx <| Wm (.own 0) rfl <| Wm (.i y7_4) rfl <| Wm (.i (W6 (y7_4 + y6_3))) rfl <| Wm (.i p1) rfl <| Wm (.clo (.func 33) [] []) rfl ?_
        obtain ⟨r60_6, hr60_6, hm⟩ := bnd hm
        refine Wy (.tup []) [(0, (Ar 42 3 enc_GWait r60_6))] (Ocf [0] [] [] 0 (ok_slices_symMergeCmpFunc_trail_Wait__trail_Trail_Ripe_1 1152921504606846976 y0_4 y7_4 (W6 (y7_4 + y6_3)) p1 r60_6 hr60_6) (fun a w => Try.call66 a w) rfl ⟨rfl, trivial⟩) <| Nk 71 1 ⟨.own 0::.i p1::.clo (.func 33) [] []::tp 3 (.i y6_3::tp 56 []), [(Ar 42 3 enc_GWait r60_6)], 1⟩ <| Tx <| Wm (.i y6_3) rfl <| Wz (.i (W6 (y6_3 * 2))) (Obn rfl (fun _ => hb_mul (k := .i64))) <| Wm (.i (W6 (y6_3 * 2))) rfl <| Wn0 <| Ino <| RoundK.normal ?_
        exact Rounds.weak (Weak.toK 71 0 0 [0]) (ih_3 (fu_3, r60_6, (W6 (y6_3 * 2))) hm (Nat.lt_succ_self _))
       ·
        replace hm := cF hc54_10 hm
        refine AiF hc54_10 <| Sk <| Tk 71 1 ⟨.own 0::.i p1::.clo (.func 33) [] []::tp 3 (.i y6_3::tp 56 []), [(Ar 42 3 enc_GWait y0_4)], 1⟩ <| Tx <| Wm (.i y6_3) rfl <| Wz (.i (W6 (y6_3 * 2))) (Obn rfl (fun _ => hb_mul (k := .i64))) <| Wm (.i (W6 (y6_3 * 2))) rfl <| Wn0 <| Ino <| RoundK.normal ?_
        exact Rounds.weak (Weak.toK 71 0 0 [0]) (ih_3 (fu_3, y0_4, (W6 (y6_3 * 2))) hm (Nat.lt_succ_self _))
    ·
     replace hm := cF hc30_8 hm
     refine AiF hc30_8 <| AWP.exit <| Then.exit <| RoundK.exit <| InBlock.same ?_
     obtain rfl := Option.some.inj hm
     exact ret_n [0]

theorem ok_slices_SortStableFunc_Wait__trail_Trail_Ripe_1 (p0 : (List GWait)) (r : (List GWait)) (h : m_slices_SortStableFunc_Wait__trail_Trail_Ripe_1 p0 = some r) : GCall Try.prog 32 [(.own 0), (.clo (.func 33) [] [])] [(Ar 42 3 enc_GWait p0)] (.tup []) [(Ar 42 3 enc_GWait r)] := by
 refine GCall.of_body (n := 9) (rs := []) Try.func32 rfl rfl rfl <| Ato ⟨.own 0::.clo (.func 33) [] []::tu 7 [], [(Ar 42 3 enc_GWait p0)], 1⟩ ?_
 have hm := h
 unfold m_slices_SortStableFunc_Wait__trail_Trail_Ripe_1 at hm
 refine Tx <| Wm (.own 0) rfl <| Wm (.own 0) rfl <| Wz (.i ((List.length p0 : Nat) : Int)) (Oln rfl) <| Wm (.clo (.func 33) [] []) rfl ?_
 obtain ⟨r8_0, hr8_0, hm⟩ := bnd hm
 refine Wy (.tup []) [(0, (Ar 42 3 enc_GWait r8_0))] (Ocf [0] [] [] 0 (ok_slices_stableCmpFunc_trail_Wait__trail_Trail_Ripe_1 p0 ((List.length p0 : Nat) : Int) r8_0 hr8_0) (fun a w => Try.call48 a w) rfl ⟨rfl, trivial⟩) <| Wn0 ?_
 obtain rfl := Option.some.inj hm
 exact ret_n [0]

theorem ok_trail_Trail_Ripe (p0 : GTrail) (p1 : Int) (r : ((List GWait) × GTrail)) (h : m_trail_Trail_Ripe p0 p1 = some r) : GCall Try.prog 13 [(.agg [(.i p0.Cap), (.l enc_GWait p0.L)]), (.i p1)] [] (.tup [(.own 0), (.agg [(.i r.2.Cap), (.own 1)])]) [(Ar 42 3 enc_GWait r.1), (Ar 42 3 enc_GWait r.2.L)] := by
 refine GCall.of_body (n := 40) (rs := [(.tmp 4), (.cell 5 35)]) Try.func13 rfl rfl rfl <| Ato ⟨.agg [(.i p0.Cap), (.l enc_GWait p0.L)]::.i p1::tu 38 [], [], 0⟩ ?_
 have hm := h
 unfold m_trail_Trail_Ripe at hm
 refine Sx <| Wy (.loc 0 0) [(0, (.box [(.i p0.Cap), (.l enc_GWait p0.L)]))] (Obx rfl) <| Wm (.d .nil) rfl <| Wy (.loc 1 0) [(1, (.box [(.i 0), (.d .nil)]))] (Oal rfl) <| Nk 38 3 ⟨tp 1 (.i p1::.loc 0 0::tp 2 (.loc 1 0::tp 34 [])), [(.box [(.i p0.Cap), (.l enc_GWait p0.L)]), (.box [(.i 0), (.d .nil)])], 0⟩ <| Sx <| Wm (.d .nil) rfl <| Nk 102 3 ⟨tp 1 (.i p1::.loc 0 0::tp 2 (.loc 1 0::.d .nil::tp 33 [])), [(.box [(.i p0.Cap), (.l enc_GWait p0.L)]), (.box [(.i 0), (.d .nil)])], 0⟩ <| Sx <| Wz (.loc 0 0) (Ofa rfl) <| Wz (.i p0.Cap) (Old rfl) <| Wz (.agg [(.i p0.Cap), (.d .nil)]) (Obd rfl) <| Wy (.loc 2 0) [(2, (.box [(.i 0), (.d .nil)]))] (Oal rfl) <| Wy (.tup []) [(2, (.box [(.i p0.Cap), (.d .nil)]))] (Ost rfl) ?_
 refine Nk 230 7 ⟨tp 1 (.i p1::.loc 0 0::tp 2 (.loc 1 0::.d .nil::.loc 2 0::tp 32 [])), [(.box [(.i p0.Cap), (.l enc_GWait p0.L)]), (.box [(.i 0), (.d .nil)]), (.box [(.i p0.Cap), (.d .nil)])], 0⟩ <| Sq <| Sx <| Wz (.loc 0 1) (Ofa rfl) <| Wz (.l enc_GWait p0.L) (Old rfl) ?_
 obtain ⟨r15_0, hr15_0, hm⟩ := bnd hm
 refine Wy (.own 3) [(3, (Ar 42 3 enc_GWait r15_0))] (Ocf [] [3] [] 0 (ok_trail_copied p0.L r15_0 hr15_0) (fun a w => Try.call24 a w) rfl trivial) <| Wz (.i ((List.length r15_0 : Nat) : Int)) (Oln rfl) <| Wm (.i 0) rfl <| Nk 229602 14 ⟨tp 1 (.i p1::tp 3 (.loc 1 0::.d .nil::.loc 2 0::tp 7 (.own 3::.i ((List.length r15_0 : Nat) : Int)::.i 0::tp 22 []))), [.gone, (.box [(.i 0), (.d .nil)]), (.box [(.i p0.Cap), (.d .nil)]), (Ar 42 3 enc_GWait r15_0)], 0⟩ <| Bk <| Aow 6 42 3 ⟨tp 1 (.i p1::tp 3 (.loc 1 0::.own 4::.loc 2 0::tp 7 (.own 3::.i ((List.length r15_0 : Nat) : Int)::.i 0::tp 22 []))), [.gone, (.box [(.i 0), (.d .nil)]), (.box [(.i p0.Cap), (.d .nil)]), (Ar 42 3 enc_GWait r15_0), (Ar 42 3 enc_GWait ([] : List GWait))], 0⟩ <| Aob 2 1 42 3 ⟨tp 1 (.i p1::tp 3 (.loc 1 0::.own 4::.loc 2 0::tp 7 (.own 3::.i ((List.length r15_0 : Nat) : Int)::.i 0::tp 22 []))), [.gone, (.box [(.i 0), (.d .nil)]), (.box [(.i p0.Cap), (.own 5)]), (Ar 42 3 enc_GWait r15_0), (Ar 42 3 enc_GWait ([] : List GWait)), (Ar 42 3 enc_GWait ([] : List GWait))], 0⟩ ?_
 refine AWP.loopI (α := Nat × (List GWait) × (List GWait) × Int)
   (fun (fu_1, y6_1, y7_d_1_1, y17_1) => (⟨tp 1 (.i p1::tp 3 (.loc 0 0::.own 1::.loc 2 0::tp 7 (.own 4::.i ((List.length r15_0 : Nat) : Int)::.i y17_1::tp 22 []))), [(.box [(.i 0), (.d .nil)]), (Ar 42 3 enc_GWait y6_1), (.box [(.i p0.Cap), (.own 3)]), (Ar 42 3 enc_GWait y7_d_1_1), (Ar 42 3 enc_GWait r15_0)], 0⟩ : St))
   (fun (fu_1, y6_1, y7_d_1_1, y17_1) => m_trail_Trail_Ripe_l1 p0 p1 r15_0 fu_1 y6_1 y7_d_1_1 y17_1 = some r)
   (fun (fu_1, y6_1, y7_d_1_1, y17_1) => fu_1) (1152921504606846976, ([] : List GWait), ([] : List GWait), 0)
   (Weak.toK 229602 0 0 [1, 4, 2, 5, 3]) hm ?_
 rintro ⟨fu_1, y6_1, y7_d_1_1, y17_1⟩ n_1 hm ih_1
 try dsimp only at hm ih_1 ⊢
 cases fu_1 with
 | zero => exact absurd hm (by unfold m_trail_Trail_Ripe_l1; simp)
 | succ fu_1 =>
  unfold m_trail_Trail_Ripe_l1 at hm
  refine Sx <| Wz (.b (decide (y17_1 < ((List.length r15_0 : Nat) : Int)))) (Obn rfl (fun _ => hb_lss (k := .i64))) <| Nk 491746 31 ⟨tp 1 (.i p1::tp 3 (.loc 0 0::.own 1::.loc 2 0::tp 7 (.own 4::.i ((List.length r15_0 : Nat) : Int)::.i y17_1::.b (decide (y17_1 < ((List.length r15_0 : Nat) : Int)))::tp 21 []))), [(.box [(.i 0), (.d .nil)]), (Ar 42 3 enc_GWait y6_1), (.box [(.i p0.Cap), (.own 3)]), (Ar 42 3 enc_GWait y7_d_1_1), (Ar 42 3 enc_GWait r15_0)], 0⟩ <| Sq ?_
  rcases tf_ (decide (y17_1 < ((List.length r15_0 : Nat) : Int))) with hc18_6 | hc18_6
  ·
   replace hm := cT hc18_6 hm
   refine AiT hc18_6 <| Sk <| Tk 229602 31 ⟨tp 1 (.i p1::tp 3 (.loc 0 0::.own 1::.loc 2 0::tp 7 (.own 4::.i ((List.length r15_0 : Nat) : Int)::.i y17_1::tp 22 []))), [(.box [(.i 0), (.d .nil)]), (Ar 42 3 enc_GWait y6_1), (.box [(.i p0.Cap), (.own 3)]), (Ar 42 3 enc_GWait y7_d_1_1), (Ar 42 3 enc_GWait r15_0)], 0⟩ <| Sq <| Bk <| Sx ?_
   obtain ⟨x19_2, hx19_2, hm⟩ := bnd hm
   obtain ⟨hx19_2i, hx19_2g⟩ := geti_some hx19_2
   refine Wz (.loc 4 ((Int.toNat y17_1) * 3)) (Oia rfl enc_GWait_len hx19_2i hx19_2g) <| Wz (.agg [(.l enc_GPair x19_2.Bound), (.l (encI .u32) x19_2.Sets), (.i x19_2.End)]) (Lr rfl enc_GWait_len hx19_2g) <| Wy (.loc 5 0) [(5, (.box [(.d .nil), (.d .nil), (.i 0)]))] (Oal rfl) <| Wy (.tup []) [(5, (.box [(.l enc_GPair x19_2.Bound), (.l (encI .u32) x19_2.Sets), (.i x19_2.End)]))] (Ost rfl) <| Nk 230114 63 ⟨tp 1 (.i p1::tp 3 (.loc 0 0::.own 1::.loc 2 0::tp 1 (.loc 5 0::tp 5 (.own 4::.i ((List.length r15_0 : Nat) : Int)::.i y17_1::tp 22 [])))), [(.box [(.i 0), (.d .nil)]), (Ar 42 3 enc_GWait y6_1), (.box [(.i p0.Cap), (.own 3)]), (Ar 42 3 enc_GWait y7_d_1_1), (Ar 42 3 enc_GWait r15_0), (.box [(.l enc_GPair x19_2.Bound), (.l (encI .u32) x19_2.Sets), (.i x19_2.End)])], 0⟩ <| Sx <| Wz (.loc 5 2) (Ofa rfl) <| Wz (.i x19_2.End) (Old rfl) <| Wm (.i p1) rfl <| Wz (.b (decide (x19_2.End < p1))) (Obn rfl (fun _ => hb_lss (k := .i64))) <| Nk 17007330 63 ⟨tp 1 (.i p1::tp 3 (.loc 0 0::.own 1::.loc 2 0::tp 1 (.loc 5 0::tp 5 (.own 4::.i ((List.length r15_0 : Nat) : Int)::.i y17_1::tp 6 (.b (decide (x19_2.End < p1))::tp 15 []))))), [(.box [(.i 0), (.d .nil)]), (Ar 42 3 enc_GWait y6_1), (.box [(.i p0.Cap), (.own 3)]), (Ar 42 3 enc_GWait y7_d_1_1), (Ar 42 3 enc_GWait r15_0), (.box [(.l enc_GPair x19_2.Bound), (.l (encI .u32) x19_2.Sets), (.i x19_2.End)])], 0⟩ ?_
   rcases tf_ (decide (x19_2.End < p1)) with hc24_7 | hc24_7
   ·
    replace hm := cT hc24_7 hm
    refine AiT hc24_7 <| Tx <| Wm (.own 1) rfl <| Wz (.agg [(.l enc_GPair x19_2.Bound), (.l (encI .u32) x19_2.Sets), (.i x19_2.End)]) (Old rfl) <| Wy (.own 6) [(6, (Ar 42 3 enc_GWait ([x19_2] : List GWait)))] (Obs rfl) ?_
    obtain ⟨a28_3, ha28_3, hm⟩ := bnd hm; obtain ⟨ha28_3e, ha28_3l⟩ := app_some ha28_3
    refine Wy (.own 7) [(1, .gone), (7, (Ar 42 3 enc_GWait a28_3))] (Oap rfl elemOK_33 enc_GWait_len ha28_3e ha28_3l) <| Wm (.own 7) rfl <| Wn0 <| Ino <| Tk 229602 157 ⟨tp 1 (.i p1::tp 3 (.loc 0 0::.own 7::.loc 2 0::tp 7 (.own 4::.i ((List.length r15_0 : Nat) : Int)::.i y17_1::tp 22 []))), [(.box [(.i 0), (.d .nil)]), .gone, (.box [(.i p0.Cap), (.own 3)]), (Ar 42 3 enc_GWait y7_d_1_1), (Ar 42 3 enc_GWait r15_0), .gone, .gone, (Ar 42 3 enc_GWait a28_3)], 0⟩ <| Tx <| Wz (.i (W6 (y17_1 + 1))) (Obn rfl (fun _ => hb_add (k := .i64))) <| Wm (.i (W6 (y17_1 + 1))) rfl <| Wn0 <| RoundK.normal ?_
    exact Rounds.weak (Weak.toK 229602 0 0 [0, 7, 2, 3, 4]) (ih_1 (fu_1, a28_3, y7_d_1_1, (W6 (y17_1 + 1))) hm (Nat.lt_succ_self _))
   ·
    replace hm := cF hc24_7 hm
    refine AiF hc24_7 <| Tx <| Wz (.loc 2 1) (Ofa rfl) <| Wz (.own 3) (Old rfl) <| Wz (.agg [(.l enc_GPair x19_2.Bound), (.l (encI .u32) x19_2.Sets), (.i x19_2.End)]) (Old rfl) <| Wy (.own 6) [(6, (Ar 42 3 enc_GWait ([x19_2] : List GWait)))] (Obs rfl) ?_
    obtain ⟨a33_4, ha33_4, hm⟩ := bnd hm; obtain ⟨ha33_4e, ha33_4l⟩ := app_some ha33_4
    refine Wy (.own 7) [(3, .gone), (7, (Ar 42 3 enc_GWait a33_4))] (Oap rfl elemOK_33 enc_GWait_len ha33_4e ha33_4l) <| Wz (.loc 2 1) (Ofa rfl) <| Wy (.tup []) [(2, (.box [(.i p0.Cap), (.own 7)]))] (Ost rfl) <| Wn0 <| Ino <| Tk 229602 151 ⟨tp 1 (.i p1::tp 3 (.loc 0 0::.own 1::.loc 2 0::tp 7 (.own 4::.i ((List.length r15_0 : Nat) : Int)::.i y17_1::tp 22 []))), [(.box [(.i 0), (.d .nil)]), (Ar 42 3 enc_GWait y6_1), (.box [(.i p0.Cap), (.own 7)]), .gone, (Ar 42 3 enc_GWait r15_0), .gone, .gone, (Ar 42 3 enc_GWait a33_4)], 0⟩ <| Tx <| Wz (.i (W6 (y17_1 + 1))) (Obn rfl (fun _ => hb_add (k := .i64))) <| Wm (.i (W6 (y17_1 + 1))) rfl <| Wn0 <| RoundK.normal ?_
    exact Rounds.weak (Weak.toK 229602 0 0 [0, 1, 2, 7, 4]) (ih_1 (fu_1, y6_1, a33_4, (W6 (y17_1 + 1))) hm (Nat.lt_succ_self _))
  ·
   replace hm := cF hc18_6 hm
   refine AiF hc18_6 <| AWP.exit <| Then.exit <| RoundK.exit <| InBlock.same <| Tk 224 15 ⟨tp 5 (.loc 0 0::.own 1::.loc 2 0::tp 32 []), [(.box [(.i 0), (.d .nil)]), (Ar 42 3 enc_GWait y6_1), (.box [(.i p0.Cap), (.own 3)]), (Ar 42 3 enc_GWait y7_d_1_1), .gone], 0⟩ <| Sx <| Wm (.own 1) rfl ?_
   obtain ⟨r37_5, hr37_5, hm⟩ := bnd hm
   refine Wy (.tup []) [(1, (Ar 42 3 enc_GWait r37_5))] (Ocf [1] [] [] 0 (ok_slices_SortStableFunc_Wait__trail_Trail_Ripe_1 y6_1 r37_5 hr37_5) (fun a w => Try.call32 a w) rfl ⟨rfl, trivial⟩) <| Nk 224 15 ⟨tp 5 (.loc 0 0::.own 1::.loc 2 0::tp 32 []), [(.box [(.i 0), (.d .nil)]), (Ar 42 3 enc_GWait r37_5), (.box [(.i p0.Cap), (.own 3)]), (Ar 42 3 enc_GWait y7_d_1_1), .gone], 0⟩ <| Sq <| Adr <| Wm (.own 1) rfl <| Wz (.agg [(.i p0.Cap), (.own 3)]) (Old rfl) <| Wm (.own 1) rfl <| Wy (.tup []) [(0, (.box [(.i p0.Cap), (.own 3)]))] (Ost rfl) <| Wdr <| Tn <| Rt ?_
   obtain rfl := Option.some.inj hm
   exact ret_i [1, 3]

theorem ok_trail_Trail_Least (p0 : GTrail) (r : (Int × Bool)) (h : m_trail_Trail_Least p0 = some r) : GCall Try.prog 16 [(.agg [(.i p0.Cap), (.l enc_GWait p0.L)])] [] (.tup [(.i r.1), (.b r.2)]) [] := by
 refine GCall.of_body (n := 28) (rs := [(.tmp 2), (.tmp 3)]) Try.func16 rfl rfl rfl <| Ato ⟨.agg [(.i p0.Cap), (.l enc_GWait p0.L)]::tu 27 [], [], 0⟩ ?_
 have hm := h
 unfold m_trail_Trail_Least at hm
 refine Sx <| Wy (.loc 0 0) [(0, (.box [(.i p0.Cap), (.l enc_GWait p0.L)]))] (Obx rfl) <| Wm (.i 0) rfl <| Wm (.b false) rfl <| Nk 2 1 ⟨tp 1 (.loc 0 0::tp 26 []), [(.box [(.i p0.Cap), (.l enc_GWait p0.L)])], 0⟩ <| Sx <| Wm (.i 0) rfl <| Wm (.b false) rfl <| Nk 50 1 ⟨tp 1 (.loc 0 0::tp 2 (.i 0::.b false::tp 22 [])), [(.box [(.i p0.Cap), (.l enc_GWait p0.L)])], 0⟩ <| Sq <| Sx <| Wz (.loc 0 1) (Ofa rfl) <| Wz (.l enc_GWait p0.L) (Old rfl) <| Wz (.i ((List.length p0.L : Nat) : Int)) (Oln rfl) ?_
 refine Wm (.i 0) rfl <| Nk 3632 0 ⟨tp 4 (.i 0::.b false::tp 3 (.l enc_GWait p0.L::.i ((List.length p0.L : Nat) : Int)::.i 0::tp 16 [])), [.gone], 0⟩ <| Bk ?_
 refine AWP.loopI (α := Nat × Int × Bool × Int)
   (fun (fu_1, y4_1, y5_1, y11_1) => (⟨tp 4 (.i y4_1::.b y5_1::tp 3 (.l enc_GWait p0.L::.i ((List.length p0.L : Nat) : Int)::.i y11_1::tp 16 [])), [], 0⟩ : St))
   (fun (fu_1, y4_1, y5_1, y11_1) => m_trail_Trail_Least_l1 p0 fu_1 y4_1 y5_1 y11_1 = some r)
   (fun (fu_1, y4_1, y5_1, y11_1) => fu_1) (1152921504606846976, 0, false, 0)
   (Weak.toK 3632 0 0 []) hm ?_
 rintro ⟨fu_1, y4_1, y5_1, y11_1⟩ n_1 hm ih_1
 try dsimp only at hm ih_1 ⊢
 cases fu_1 with
 | zero => exact absurd hm (by unfold m_trail_Trail_Least_l1; simp)
 | succ fu_1 =>
  unfold m_trail_Trail_Least_l1 at hm
  refine Sx <| Wz (.b (decide (y11_1 < ((List.length p0.L : Nat) : Int)))) (Obn rfl (fun _ => hb_lss (k := .i64))) <| Nk 7728 0 ⟨tp 4 (.i y4_1::.b y5_1::tp 3 (.l enc_GWait p0.L::.i ((List.length p0.L : Nat) : Int)::.i y11_1::.b (decide (y11_1 < ((List.length p0.L : Nat) : Int)))::tp 15 [])), [], 0⟩ <| Sq ?_
  rcases tf_ (decide (y11_1 < ((List.length p0.L : Nat) : Int))) with hc12_4 | hc12_4
  ·
   replace hm := cT hc12_4 hm
   refine AiT hc12_4 <| Sk <| Tk 3632 0 ⟨tp 4 (.i y4_1::.b y5_1::tp 3 (.l enc_GWait p0.L::.i ((List.length p0.L : Nat) : Int)::.i y11_1::tp 16 [])), [], 0⟩ <| Sq <| Bk <| Sx ?_
   obtain ⟨x13_2, hx13_2, hm⟩ := bnd hm
   obtain ⟨hx13_2i, hx13_2g⟩ := geti_some hx13_2
   refine Wz (.d (.ref (List.drop ((Int.toNat y11_1) * 3) (flatD enc_GWait p0.L)))) (Oia rfl enc_GWait_len hx13_2i hx13_2g) <| Wz (.agg [(.l enc_GPair x13_2.Bound), (.l (encI .u32) x13_2.Sets), (.i x13_2.End)]) (Lf rfl enc_GWait_len hx13_2g) <| Wy (.loc 0 0) [(0, (.box [(.d .nil), (.d .nil), (.i 0)]))] (Oal rfl) <| Wy (.tup []) [(0, (.box [(.l enc_GPair x13_2.Bound), (.l (encI .u32) x13_2.Sets), (.i x13_2.End)]))] (Ost rfl) <| Nk 3760 1 ⟨tp 4 (.i y4_1::.b y5_1::tp 1 (.loc 0 0::tp 1 (.l enc_GWait p0.L::.i ((List.length p0.L : Nat) : Int)::.i y11_1::tp 16 []))), [(.box [(.l enc_GPair x13_2.Bound), (.l (encI .u32) x13_2.Sets), (.i x13_2.End)])], 0⟩ <| Sx <| Wm (.b y5_1) rfl <| Wz (.b (!y5_1)) (Ocs (by kernel_rfl) (op_un rfl (a1 := .bool y5_1) (by kernel_rfl) (fun _ => hu_not))) ?_
   rcases tf_ (!y5_1) with hq17_3 | hq17_3
   ·
    replace hm := cT hq17_3 hm
    refine Wz (.b true) (Oq hq17_3 rfl) <| Wn <| Wn <| Wn <| Wn <| Wz (.b true) (OpT rfl) <| Nk 4198064 1 ⟨tp 4 (.i y4_1::.b y5_1::tp 1 (.loc 0 0::tp 1 (.l enc_GWait p0.L::.i ((List.length p0.L : Nat) : Int)::.i y11_1::tp 10 (.b true::tp 5 [])))), [(.box [(.l enc_GPair x13_2.Bound), (.l (encI .u32) x13_2.Sets), (.i x13_2.End)])], 0⟩ <| AWP.if_ true (by kernel_rfl) <| Tx <| Wz (.loc 0 2) (Ofa rfl) <| Wz (.i x13_2.End) (Old rfl) <| Wm (.i x13_2.End) rfl <| Wm (.b true) rfl <| Wn0 ?_
    refine Ino <| Tk 3632 0 ⟨tp 4 (.i x13_2.End::.b true::tp 3 (.l enc_GWait p0.L::.i ((List.length p0.L : Nat) : Int)::.i y11_1::tp 16 [])), [.gone], 0⟩ <| Tx <| Wz (.i (W6 (y11_1 + 1))) (Obn rfl (fun _ => hb_add (k := .i64))) <| Wm (.i (W6 (y11_1 + 1))) rfl <| Wn0 <| RoundK.normal ?_
    exact Rounds.weak (Weak.toK 3632 0 0 []) (ih_1 (fu_1, x13_2.End, true, (W6 (y11_1 + 1))) hm (Nat.lt_succ_self _))
   ·
    replace hm := cF hq17_3 hm
    refine Wz (.b false) (Oq hq17_3 rfl) <| Wz (.loc 0 2) (Ofa rfl) <| Wz (.i x13_2.End) (Old rfl) <| Wm (.i y4_1) rfl <| Wz (.b (decide (x13_2.End < y4_1))) (Obn rfl (fun _ => hb_lss (k := .i64))) <| Wz (.b (decide (x13_2.End < y4_1))) (OpF rfl) <| Nk 4198064 1 ⟨tp 4 (.i y4_1::.b y5_1::tp 1 (.loc 0 0::tp 1 (.l enc_GWait p0.L::.i ((List.length p0.L : Nat) : Int)::.i y11_1::tp 10 (.b (decide (x13_2.End < y4_1))::tp 5 [])))), [(.box [(.l enc_GPair x13_2.Bound), (.l (encI .u32) x13_2.Sets), (.i x13_2.End)])], 0⟩ ?_
    rcases tf_ (decide (x13_2.End < y4_1)) with hc22_5 | hc22_5
    ·
     replace hm := cT hc22_5 hm
     refine AiT hc22_5 <| Tx <| Wz (.loc 0 2) (Ofa rfl) <| Wz (.i x13_2.End) (Old rfl) <| Wm (.i x13_2.End) rfl <| Wm (.b true) rfl <| Wn0 <| Ino <| Tk 3632 0 ⟨tp 4 (.i x13_2.End::.b true::tp 3 (.l enc_GWait p0.L::.i ((List.length p0.L : Nat) : Int)::.i y11_1::tp 16 [])), [.gone], 0⟩ <| Tx <| Wz (.i (W6 (y11_1 + 1))) (Obn rfl (fun _ => hb_add (k := .i64))) <| Wm (.i (W6 (y11_1 + 1))) rfl <| Wn0 <| RoundK.normal ?_
     exact Rounds.weak (Weak.toK 3632 0 0 []) (ih_1 (fu_1, x13_2.End, true, (W6 (y11_1 + 1))) hm (Nat.lt_succ_self _))
    ·
     replace hm := cF hc22_5 hm
     refine AiF hc22_5 <| Sk <| Ino <| Tk 3632 0 ⟨tp 4 (.i y4_1::.b y5_1::tp 3 (.l enc_GWait p0.L::.i ((List.length p0.L : Nat) : Int)::.i y11_1::tp 16 [])), [.gone], 0⟩ <| Tx <| Wz (.i (W6 (y11_1 + 1))) (Obn rfl (fun _ => hb_add (k := .i64))) <| Wm (.i (W6 (y11_1 + 1))) rfl <| Wn0 <| RoundK.normal ?_
     exact Rounds.weak (Weak.toK 3632 0 0 []) (ih_1 (fu_1, y4_1, y5_1, (W6 (y11_1 + 1))) hm (Nat.lt_succ_self _))
  ·
   replace hm := cF hc12_4 hm
   refine AiF hc12_4 <| AWP.exit <| Then.exit <| RoundK.exit <| InBlock.same <| Tk 48 0 ⟨tp 4 (.i y4_1::.b y5_1::tp 22 []), [], 0⟩ <| Sx <| Wm (.i y4_1) rfl <| Wm (.b y5_1) rfl <| Wm (.i y4_1) rfl <| Wm (.b y5_1) rfl <| Nn <| Rt ?_
   obtain rfl := Option.some.inj hm
   exact ret_i []

theorem ok_trail_Watched (p0 : (List Int)) (r : Int) (h : m_trail_Watched p0 = some r) : GCall Try.prog 18 [(.l (encI .u32) p0)] [] (.d (.lit (.int .u32 r))) [] := by
 refine GCall.of_body (n := 17) (rs := [(.tmp 2)]) Try.func18 rfl rfl rfl <| Ato ⟨.l (encI .u32) p0::tu 16 [], [], 0⟩ ?_
 have hm := h
 unfold m_trail_Watched at hm
 refine Sx <| Wm (.d (.lit (.int .u32 0))) rfl <| Nk 1 0 ⟨.l (encI .u32) p0::tp 16 [], [], 0⟩ <| Sx <| Wm (.d (.lit (.int .u32 0))) rfl <| Nk 9 0 ⟨.l (encI .u32) p0::tp 2 (.d (.lit (.int .u32 0))::tp 13 []), [], 0⟩ <| Sq <| Sx <| Wm (.l (encI .u32) p0) rfl <| Wz (.i ((List.length p0 : Nat) : Int)) (Oln rfl) <| Wm (.i 0) rfl <| Nk 456 0 ⟨tp 3 (.d (.lit (.int .u32 0))::tp 2 (.l (encI .u32) p0::.i ((List.length p0 : Nat) : Int)::.i 0::tp 8 [])), [], 0⟩ <| Bk ?_
 refine AWP.loopI (α := Nat × Int × Int)
   (fun (fu_1, y3_1, y8_1) => (⟨tp 3 (.d (.lit (.int .u32 y3_1))::tp 2 (.l (encI .u32) p0::.i ((List.length p0 : Nat) : Int)::.i y8_1::tp 8 [])), [], 0⟩ : St))
   (fun (fu_1, y3_1, y8_1) => m_trail_Watched_l1 p0 fu_1 y3_1 y8_1 = some r)
   (fun (fu_1, y3_1, y8_1) => fu_1) (1152921504606846976, 0, 0)
   (Weak.toK 456 0 0 []) hm ?_
 rintro ⟨fu_1, y3_1, y8_1⟩ n_1 hm ih_1
 try dsimp only at hm ih_1 ⊢
 cases fu_1 with
 | zero => exact absurd hm (by unfold m_trail_Watched_l1; simp)
 | succ fu_1 =>
  unfold m_trail_Watched_l1 at hm
  refine Sx <| Wz (.b (decide (y8_1 < ((List.length p0 : Nat) : Int)))) (Obn rfl (fun _ => hb_lss (k := .i64))) <| Nk 968 0 ⟨tp 3 (.d (.lit (.int .u32 y3_1))::tp 2 (.l (encI .u32) p0::.i ((List.length p0 : Nat) : Int)::.i y8_1::.b (decide (y8_1 < ((List.length p0 : Nat) : Int)))::tp 7 [])), [], 0⟩ <| Sq ?_
  rcases tf_ (decide (y8_1 < ((List.length p0 : Nat) : Int))) with hc9_3 | hc9_3
  ·
   replace hm := cT hc9_3 hm
   refine AiT hc9_3 <| Sk <| Tk 456 0 ⟨tp 3 (.d (.lit (.int .u32 y3_1))::tp 2 (.l (encI .u32) p0::.i ((List.length p0 : Nat) : Int)::.i y8_1::tp 8 [])), [], 0⟩ <| Sq <| Bk <| Sx ?_
   obtain ⟨x10_2, hx10_2, hm⟩ := bnd hm
   obtain ⟨hx10_2i, hx10_2g⟩ := geti_some hx10_2
   refine Wz (.d (.ref (List.drop ((Int.toNat y8_1) * 1) (flatD (encI .u32) p0)))) (Oia rfl (encI_len (k := .u32)) hx10_2i hx10_2g) <| Wz (.d (.lit (.int .u32 x10_2))) (Lf1 rfl (encI_len (k := .u32)) hx10_2g) <| Wm (.d (.lit (.int .u32 x10_2))) rfl <| Nk 488 0 ⟨tp 3 (.d (.lit (.int .u32 y3_1))::tp 1 (.d (.lit (.int .u32 x10_2))::.l (encI .u32) p0::.i ((List.length p0 : Nat) : Int)::.i y8_1::tp 8 [])), [], 0⟩ <| Tx <| Wm (.d (.lit (.int .u32 y3_1))) rfl <| Wm (.d (.lit (.int .u32 x10_2))) rfl <| Wz (.d (.lit (.int .u32 (IntKind.u32.wrap (((BitVec.ofInt 32 y3_1 ||| BitVec.ofInt 32 x10_2).toNat : Int)))))) (Ob2 (.int .u32 y3_1) (.int .u32 x10_2) rfl (fun _ => hb_or)) <| Wm (.d (.lit (.int .u32 (IntKind.u32.wrap (((BitVec.ofInt 32 y3_1 ||| BitVec.ofInt 32 x10_2).toNat : Int)))))) rfl <| Wn0 <| Ino <| Tk 456 0 ⟨tp 3 (.d (.lit (.int .u32 (IntKind.u32.wrap (((BitVec.ofInt 32 y3_1 ||| BitVec.ofInt 32 x10_2).toNat : Int)))))::tp 2 (.l (encI .u32) p0::.i ((List.length p0 : Nat) : Int)::.i y8_1::tp 8 [])), [], 0⟩ <| Tx <| Wz (.i (W6 (y8_1 + 1))) (Obn rfl (fun _ => hb_add (k := .i64))) ?_
   refine Wm (.i (W6 (y8_1 + 1))) rfl <| Wn0 <| RoundK.normal ?_
   exact Rounds.weak (Weak.toK 456 0 0 []) (ih_1 (fu_1, (IntKind.u32.wrap (((BitVec.ofInt 32 y3_1 ||| BitVec.ofInt 32 x10_2).toNat : Int))), (W6 (y8_1 + 1))) hm (Nat.lt_succ_self _))
  ·
   replace hm := cF hc9_3 hm
   refine AiF hc9_3 <| AWP.exit <| Then.exit <| RoundK.exit <| InBlock.same <| Tk 8 0 ⟨tp 3 (.d (.lit (.int .u32 y3_1))::tp 13 []), [], 0⟩ <| Sx <| Wm (.d (.lit (.int .u32 y3_1))) rfl <| Wm (.d (.lit (.int .u32 y3_1))) rfl <| Nn <| Rt ?_
   obtain rfl := Option.some.inj hm
   exact ret_i []

theorem ok_slices_Equal_uint32 (p0 : (List Int)) (p1 : (List Int)) (r : Bool) (h : m_slices_Equal_uint32 p0 p1 = some r) : GCall Try.prog 38 [(.l (encI .u32) p0), (.l (encI .u32) p1)] [] (.b r) [] := by
 refine GCall.of_body (n := 26) (rs := [(.tmp 4)]) Try.func38 rfl rfl rfl <| Ato ⟨.l (encI .u32) p0::.l (encI .u32) p1::tu 24 [], [], 0⟩ ?_
 have hm := h
 unfold m_slices_Equal_uint32 at hm
 refine Sx <| Wm (.b false) rfl <| Nk 3 0 ⟨.l (encI .u32) p0::.l (encI .u32) p1::tp 24 [], [], 0⟩ <| Sq <| Sx <| Wm (.l (encI .u32) p0) rfl <| Wz (.i ((List.length p0 : Nat) : Int)) (Oln rfl) <| Wm (.l (encI .u32) p1) rfl <| Wz (.i ((List.length p1 : Nat) : Int)) (Oln rfl) <| Wz (.b (decide (((List.length p0 : Nat) : Int) ≠ ((List.length p1 : Nat) : Int)))) (Obn rfl (fun _ => hb_neq (k := .i64))) <| Nk 1027 0 ⟨.l (encI .u32) p0::.l (encI .u32) p1::tp 8 (.b (decide (((List.length p0 : Nat) : Int) ≠ ((List.length p1 : Nat) : Int)))::tp 15 []), [], 0⟩ ?_
 rcases tf_ (decide (((List.length p0 : Nat) : Int) ≠ ((List.length p1 : Nat) : Int))) with hc10_4 | hc10_4
 ·
  replace hm := cT hc10_4 hm
  refine AiT hc10_4 <| Sx <| Wm (.b false) rfl <| Nn <| Rt <| Tr ?_
  obtain rfl := Option.some.inj hm
  exact ret_i []
 ·
  replace hm := cF hc10_4 hm
  refine AiF hc10_4 <| Sk <| Tk 3 0 ⟨.l (encI .u32) p0::.l (encI .u32) p1::tp 24 [], [], 0⟩ <| Sq <| Sx <| Wm (.l (encI .u32) p0) rfl <| Wz (.i ((List.length p0 : Nat) : Int)) (Oln rfl) <| Wm (.i 0) rfl <| Nk 12291 0 ⟨.l (encI .u32) p0::.l (encI .u32) p1::tp 10 (.i ((List.length p0 : Nat) : Int)::.i 0::tp 12 []), [], 0⟩ <| Bk ?_
  refine AWP.loopI (α := Nat × Int)
    (fun (fu_2, y13_2) => (⟨.l (encI .u32) p0::.l (encI .u32) p1::tp 10 (.i ((List.length p0 : Nat) : Int)::.i y13_2::tp 12 []), [], 0⟩ : St))
    (fun (fu_2, y13_2) => m_slices_Equal_uint32_l2 p0 p1 fu_2 y13_2 = some r)
    (fun (fu_2, y13_2) => fu_2) (1152921504606846976, 0)
    (Weak.toK 12291 0 0 []) hm ?_
  rintro ⟨fu_2, y13_2⟩ n_2 hm ih_2
  try dsimp only at hm ih_2 ⊢
  cases fu_2 with
  | zero => exact absurd hm (by unfold m_slices_Equal_uint32_l2; simp)
  | succ fu_2 =>
   unfold m_slices_Equal_uint32_l2 at hm
   refine Sx <| Wz (.b (decide (y13_2 < ((List.length p0 : Nat) : Int)))) (Obn rfl (fun _ => hb_lss (k := .i64))) <| Nk 28675 0 ⟨.l (encI .u32) p0::.l (encI .u32) p1::tp 10 (.i ((List.length p0 : Nat) : Int)::.i y13_2::.b (decide (y13_2 < ((List.length p0 : Nat) : Int)))::tp 11 []), [], 0⟩ <| Sq ?_
   rcases tf_ (decide (y13_2 < ((List.length p0 : Nat) : Int))) with hc14_5 | hc14_5
   ·
    replace hm := cT hc14_5 hm
    refine AiT hc14_5 <| Sk <| Tk 12291 0 ⟨.l (encI .u32) p0::.l (encI .u32) p1::tp 10 (.i ((List.length p0 : Nat) : Int)::.i y13_2::tp 12 []), [], 0⟩ <| Sq <| Bk <| Sx <| Wm (.i y13_2) rfl <| Wm (.i y13_2) rfl <| Nk 12323 0 ⟨.l (encI .u32) p0::.l (encI .u32) p1::tp 3 (.i y13_2::tp 6 (.i ((List.length p0 : Nat) : Int)::.i y13_2::tp 12 [])), [], 0⟩ <| Sq <| Adr <| Wm (.l (encI .u32) p0) rfl <| Wm (.i y13_2) rfl ?_
    obtain ⟨x18_3, hx18_3, hm⟩ := bnd hm
    obtain ⟨hx18_3i, hx18_3g⟩ := geti_some hx18_3
    refine Wz (.d (.ref (List.drop ((Int.toNat y13_2) * 1) (flatD (encI .u32) p0)))) (Oia rfl (encI_len (k := .u32)) hx18_3i hx18_3g) <| Wz (.d (.lit (.int .u32 x18_3))) (Lf1 rfl (encI_len (k := .u32)) hx18_3g) <| Wm (.l (encI .u32) p1) rfl <| Wm (.i y13_2) rfl ?_
    obtain ⟨x22_3, hx22_3, hm⟩ := bnd hm
    obtain ⟨hx22_3i, hx22_3g⟩ := geti_some hx22_3
    refine Wz (.d (.ref (List.drop ((Int.toNat y13_2) * 1) (flatD (encI .u32) p1)))) (Oia rfl (encI_len (k := .u32)) hx22_3i hx22_3g) <| Wz (.d (.lit (.int .u32 x22_3))) (Lf1 rfl (encI_len (k := .u32)) hx22_3g) <| Wz (.b (decide (x18_3 ≠ x22_3))) (Obn rfl (fun _ => hb_neq (k := .u32))) <| Wdr <| Tk 16789507 0 ⟨.l (encI .u32) p0::.l (encI .u32) p1::tp 10 (.i ((List.length p0 : Nat) : Int)::.i y13_2::tp 10 (.b (decide (x18_3 ≠ x22_3))::tp 1 [])), [], 0⟩ ?_
    rcases tf_ (decide (x18_3 ≠ x22_3)) with hc24_6 | hc24_6
    ·
     replace hm := cT hc24_6 hm
     refine AiT hc24_6 <| Sx <| Wm (.b false) rfl <| Nn <| Rt <| Ir <| Tr <| RoundK.ret <| Ir <| Tr ?_
     obtain rfl := Option.some.inj hm
     exact ret_i []
    ·
     replace hm := cF hc24_6 hm
     refine AiF hc24_6 <| Sk <| Ino <| Tk 12291 0 ⟨.l (encI .u32) p0::.l (encI .u32) p1::tp 10 (.i ((List.length p0 : Nat) : Int)::.i y13_2::tp 12 []), [], 0⟩ <| Tx <| Wz (.i (W6 (y13_2 + 1))) (Obn rfl (fun _ => hb_add (k := .i64))) <| Wm (.i (W6 (y13_2 + 1))) rfl <| Wn0 <| RoundK.normal ?_
     exact Rounds.weak (Weak.toK 12291 0 0 []) (ih_2 (fu_2, (W6 (y13_2 + 1))) hm (Nat.lt_succ_self _))
   ·
    replace hm := cF hc14_5 hm
    refine AiF hc14_5 <| AWP.exit <| Then.exit <| RoundK.exit <| InBlock.same <| Tk 0 0 ⟨tp 26 [], [], 0⟩ <| Sx <| Wm (.b true) rfl <| Nn <| Rt ?_
    obtain rfl := Option.some.inj hm
    exact ret_i []

theorem ok_trail_Same_1 (p0 : GWait) (p1 : GWait) (r : Bool) (h : m_trail_Same_1 p0 p1 = some r) : GCall Try.prog 37 [(.agg [(.l enc_GPair p0.Bound), (.l (encI .u32) p0.Sets), (.i p0.End)]), (.agg [(.l enc_GPair p1.Bound), (.l (encI .u32) p1.Sets), (.i p1.End)])] [] (.b r) [] := by
 refine GCall.of_body (n := 25) (rs := [(.tmp 4)]) Try.func37 rfl rfl rfl <| Ato ⟨.agg [(.l enc_GPair p0.Bound), (.l (encI .u32) p0.Sets), (.i p0.End)]::.agg [(.l enc_GPair p1.Bound), (.l (encI .u32) p1.Sets), (.i p1.End)]::tu 23 [], [], 0⟩ ?_
 have hm := h
 unfold m_trail_Same_1 at hm
 refine Sx <| Wy (.loc 0 0) [(0, (.box [(.l enc_GPair p0.Bound), (.l (encI .u32) p0.Sets), (.i p0.End)]))] (Obx rfl) <| Wy (.loc 1 0) [(1, (.box [(.l enc_GPair p1.Bound), (.l (encI .u32) p1.Sets), (.i p1.End)]))] (Obx rfl) <| Wm (.b false) rfl <| Nk 12 3 ⟨tp 2 (.loc 0 0::.loc 1 0::tp 21 []), [(.box [(.l enc_GPair p0.Bound), (.l (encI .u32) p0.Sets), (.i p0.End)]), (.box [(.l enc_GPair p1.Bound), (.l (encI .u32) p1.Sets), (.i p1.End)])], 0⟩ <| Sx <| Wz (.loc 0 2) (Ofa rfl) <| Wz (.i p0.End) (Old rfl) <| Wz (.loc 1 2) (Ofa rfl) <| Wz (.i p1.End) (Old rfl) <| Wz (.b (decide (p0.End = p1.End))) (Obn rfl (fun _ => hb_eql (k := .i64))) ?_
 rcases tf_ (decide (p0.End = p1.End)) with hq10_0 | hq10_0
 ·
  replace hm := cT hq10_0 hm
  refine Wz (.b true) (Oq hq10_0 rfl) <| Wz (.loc 0 1) (Ofa rfl) <| Wz (.l (encI .u32) p0.Sets) (Old rfl) <| Wz (.loc 1 1) (Ofa rfl) <| Wz (.l (encI .u32) p1.Sets) (Old rfl) ?_
  obtain ⟨r15_0, hr15_0, hm⟩ := bnd hm
  refine Wz (.b r15_0) (Ocf [] [] [] 0 (ok_slices_Equal_uint32 p0.Sets p1.Sets r15_0 hr15_0) (fun a w => Try.call38 a w) rfl trivial) <| Wz (.b r15_0) (OpT rfl) ?_
  rcases tf_ r15_0 with hq17_0 | hq17_0
  ·
   replace hm := cT hq17_0 hm
   refine Wz (.b true) (Oq hq17_0 rfl) <| Wz (.loc 0 0) (Ofa rfl) <| Wz (.l enc_GPair p0.Bound) (Old rfl) <| Wz (.loc 1 0) (Ofa rfl) <| Wz (.l enc_GPair p1.Bound) (Old rfl) ?_
   obtain ⟨r22_0, hr22_0, hm⟩ := bnd hm
   refine Wz (.i r22_0) (Ocf [] [] [] 0 (ok_bind_Rank p0.Bound p1.Bound r22_0 hr22_0) (fun a w => Try.call15 a w) rfl trivial) <| Wz (.b (decide (r22_0 = 0))) (Obn rfl (fun _ => hb_eql (k := .i64))) <| Wz (.b (decide (r22_0 = 0))) (OpT rfl) <| Wm (.b (decide (r22_0 = 0))) rfl <| Nn <| Rt ?_
   obtain rfl := Option.some.inj hm
   exact ret_i []
  ·
   replace hm := cF hq17_0 hm
   refine Wz (.b false) (Oq hq17_0 rfl) <| Wn <| Wn <| Wn <| Wn <| Wn <| Wn <| Wz (.b false) (OpF rfl) <| Wm (.b false) rfl <| Nn <| Rt ?_
   obtain rfl := Option.some.inj hm
   exact ret_i []
 ·
  replace hm := cF hq10_0 hm
  refine Wz (.b false) (Oq hq10_0 rfl) <| Wn <| Wn <| Wn <| Wn <| Wn <| Wz (.b false) (OpF rfl) <| Wm (.b false) rfl <| Wn <| Wn <| Wn <| Wn <| Wn <| Wn ?_
  refine Wz (.b false) (OpF rfl) <| Wm (.b false) rfl <| Nn <| Rt ?_
  obtain rfl := Option.some.inj hm
  exact ret_i []

theorem ok_slices_EqualFunc_Waittrail_Wait_trail_Wait_trail_Wait__trail_Same_1 (p0 : (List GWait)) (p1 : (List GWait)) (r : Bool) (h : m_slices_EqualFunc_Waittrail_Wait_trail_Wait_trail_Wait__trail_Same_1 p0 p1 = some r) : GCall Try.prog 36 [(.l enc_GWait p0), (.l enc_GWait p1), (.clo (.func 37) [] [])] [] (.b r) [] := by
 refine GCall.of_body (n := 32) (rs := [(.tmp 6)]) Try.func36 rfl rfl rfl <| Ato ⟨.l enc_GWait p0::.l enc_GWait p1::.clo (.func 37) [] []::tu 29 [], [], 0⟩ ?_
 have hm := h
 unfold m_slices_EqualFunc_Waittrail_Wait_trail_Wait_trail_Wait__trail_Same_1 at hm
 refine Sx <| Wm (.b false) rfl <| Nk 7 0 ⟨.l enc_GWait p0::.l enc_GWait p1::.clo (.func 37) [] []::tp 29 [], [], 0⟩ <| Sq <| Sx <| Wm (.l enc_GWait p0) rfl <| Wz (.i ((List.length p0 : Nat) : Int)) (Oln rfl) <| Wm (.l enc_GWait p1) rfl <| Wz (.i ((List.length p1 : Nat) : Int)) (Oln rfl) <| Wz (.b (decide (((List.length p0 : Nat) : Int) ≠ ((List.length p1 : Nat) : Int)))) (Obn rfl (fun _ => hb_neq (k := .i64))) <| Nk 16391 0 ⟨.l enc_GWait p0::.l enc_GWait p1::.clo (.func 37) [] []::tp 11 (.b (decide (((List.length p0 : Nat) : Int) ≠ ((List.length p1 : Nat) : Int)))::tp 17 []), [], 0⟩ ?_
 rcases tf_ (decide (((List.length p0 : Nat) : Int) ≠ ((List.length p1 : Nat) : Int))) with hc14_6 | hc14_6
 ·
  replace hm := cT hc14_6 hm
  refine AiT hc14_6 <| Sx <| Wm (.b false) rfl <| Nn <| Rt <| Tr ?_
  obtain rfl := Option.some.inj hm
  exact ret_i []
 ·
  replace hm := cF hc14_6 hm
  refine AiF hc14_6 <| Sk <| Tk 7 0 ⟨.l enc_GWait p0::.l enc_GWait p1::.clo (.func 37) [] []::tp 29 [], [], 0⟩ <| Sq <| Sx <| Wm (.l enc_GWait p0) rfl <| Wz (.i ((List.length p0 : Nat) : Int)) (Oln rfl) <| Wm (.i 0) rfl <| Nk 229382 0 ⟨tp 1 (.l enc_GWait p1::.clo (.func 37) [] []::tp 12 (.l enc_GWait p0::.i ((List.length p0 : Nat) : Int)::.i 0::tp 14 [])), [], 0⟩ <| Bk ?_
  refine AWP.loopI (α := Nat × Int)
    (fun (fu_2, y17_2) => (⟨tp 1 (.l enc_GWait p1::.clo (.func 37) [] []::tp 12 (.l enc_GWait p0::.i ((List.length p0 : Nat) : Int)::.i y17_2::tp 14 [])), [], 0⟩ : St))
    (fun (fu_2, y17_2) => m_slices_EqualFunc_Waittrail_Wait_trail_Wait_trail_Wait__trail_Same_1_l2 p0 p1 fu_2 y17_2 = some r)
    (fun (fu_2, y17_2) => fu_2) (1152921504606846976, 0)
    (Weak.toK 229382 0 0 []) hm ?_
  rintro ⟨fu_2, y17_2⟩ n_2 hm ih_2
  try dsimp only at hm ih_2 ⊢
  cases fu_2 with
  | zero => exact absurd hm (by unfold m_slices_EqualFunc_Waittrail_Wait_trail_Wait_trail_Wait__trail_Same_1_l2; simp)
  | succ fu_2 =>
   unfold m_slices_EqualFunc_Waittrail_Wait_trail_Wait_trail_Wait__trail_Same_1_l2 at hm
   refine Sx <| Wz (.b (decide (y17_2 < ((List.length p0 : Nat) : Int)))) (Obn rfl (fun _ => hb_lss (k := .i64))) <| Nk 491526 0 ⟨tp 1 (.l enc_GWait p1::.clo (.func 37) [] []::tp 12 (.l enc_GWait p0::.i ((List.length p0 : Nat) : Int)::.i y17_2::.b (decide (y17_2 < ((List.length p0 : Nat) : Int)))::tp 13 [])), [], 0⟩ <| Sq ?_
   rcases tf_ (decide (y17_2 < ((List.length p0 : Nat) : Int))) with hc18_7 | hc18_7
   ·
    replace hm := cT hc18_7 hm
    refine AiT hc18_7 <| Sk <| Tk 229382 0 ⟨tp 1 (.l enc_GWait p1::.clo (.func 37) [] []::tp 12 (.l enc_GWait p0::.i ((List.length p0 : Nat) : Int)::.i y17_2::tp 14 [])), [], 0⟩ <| Sq <| Bk <| Sx <| Wm (.i y17_2) rfl ?_
    obtain ⟨x20_3, hx20_3, hm⟩ := bnd hm
    obtain ⟨hx20_3i, hx20_3g⟩ := geti_some hx20_3
    refine Wz (.d (.ref (List.drop ((Int.toNat y17_2) * 3) (flatD enc_GWait p0)))) (Oia rfl enc_GWait_len hx20_3i hx20_3g) <| Wz (.agg [(.l enc_GPair x20_3.Bound), (.l (encI .u32) x20_3.Sets), (.i x20_3.End)]) (Lf rfl enc_GWait_len hx20_3g) <| Wy (.loc 0 0) [(0, (.box [(.d .nil), (.d .nil), (.i 0)]))] (Oal rfl) <| Wm (.i y17_2) rfl <| Wy (.tup []) [(0, (.box [(.l enc_GPair x20_3.Bound), (.l (encI .u32) x20_3.Sets), (.i x20_3.End)]))] (Ost rfl) <| Nk 229766 1 ⟨tp 1 (.l enc_GWait p1::.clo (.func 37) [] []::tp 4 (.i y17_2::.loc 0 0::tp 6 (.l enc_GWait p0::.i ((List.length p0 : Nat) : Int)::.i y17_2::tp 14 []))), [(.box [(.l enc_GPair x20_3.Bound), (.l (encI .u32) x20_3.Sets), (.i x20_3.End)])], 0⟩ <| Sx <| Wm (.l enc_GWait p1) rfl <| Wm (.i y17_2) rfl ?_
    obtain ⟨x24_4, hx24_4, hm⟩ := bnd hm
    obtain ⟨hx24_4i, hx24_4g⟩ := geti_some hx24_4
    refine Wz (.d (.ref (List.drop ((Int.toNat y17_2) * 3) (flatD enc_GWait p1)))) (Oia rfl enc_GWait_len hx24_4i hx24_4g) <| Wz (.agg [(.l enc_GPair x24_4.Bound), (.l (encI .u32) x24_4.Sets), (.i x24_4.End)]) (Lf rfl enc_GWait_len hx24_4g) <| Wy (.loc 1 0) [(1, (.box [(.d .nil), (.d .nil), (.i 0)]))] (Oal rfl) <| Wy (.tup []) [(1, (.box [(.l enc_GPair x24_4.Bound), (.l (encI .u32) x24_4.Sets), (.i x24_4.End)]))] (Ost rfl) <| Nk 230150 3 ⟨tp 1 (.l enc_GWait p1::.clo (.func 37) [] []::tp 5 (.loc 0 0::.loc 1 0::tp 5 (.l enc_GWait p0::.i ((List.length p0 : Nat) : Int)::.i y17_2::tp 14 []))), [(.box [(.l enc_GPair x20_3.Bound), (.l (encI .u32) x20_3.Sets), (.i x20_3.End)]), (.box [(.l enc_GPair x24_4.Bound), (.l (encI .u32) x24_4.Sets), (.i x24_4.End)])], 0⟩ <| Sx <| Wm (.clo (.func 37) [] []) rfl <| Wz (.agg [(.l enc_GPair x20_3.Bound), (.l (encI .u32) x20_3.Sets), (.i x20_3.End)]) (Old rfl) <| Wz (.agg [(.l enc_GPair x24_4.Bound), (.l (encI .u32) x24_4.Sets), (.i x24_4.End)]) (Old rfl) ?_
    obtain ⟨r29_5, hr29_5, hm⟩ := bnd hm
    refine Wz (.b r29_5) (Ocf [] [] [] 0 (ok_trail_Same_1 x20_3 x24_4 r29_5 hr29_5) (fun a w => Try.call37 a w) rfl trivial) <| Wz (.b (!r29_5)) (Ocs (by kernel_rfl) (op_un rfl (a1 := .bool r29_5) (by kernel_rfl) (fun _ => hu_not))) <| Nk 1073971206 0 ⟨tp 1 (.l enc_GWait p1::.clo (.func 37) [] []::tp 12 (.l enc_GWait p0::.i ((List.length p0 : Nat) : Int)::.i y17_2::tp 12 (.b (!r29_5)::tp 1 []))), [.gone, .gone], 0⟩ ?_
    rcases tf_ (!r29_5) with hc30_8 | hc30_8
    ·
     replace hm := cT hc30_8 hm
     refine AiT hc30_8 <| Sx <| Wm (.b false) rfl <| Nn <| Rt <| Ir <| Tr <| RoundK.ret <| Ir <| Tr ?_
     obtain rfl := Option.some.inj hm
     exact ret_i []
    ·
     replace hm := cF hc30_8 hm
     refine AiF hc30_8 <| Sk <| Ino <| Tk 229382 0 ⟨tp 1 (.l enc_GWait p1::.clo (.func 37) [] []::tp 12 (.l enc_GWait p0::.i ((List.length p0 : Nat) : Int)::.i y17_2::tp 14 [])), [.gone, .gone], 0⟩ <| Tx <| Wz (.i (W6 (y17_2 + 1))) (Obn rfl (fun _ => hb_add (k := .i64))) <| Wm (.i (W6 (y17_2 + 1))) rfl <| Wn0 <| RoundK.normal ?_
     exact Rounds.weak (Weak.toK 229382 0 0 []) (ih_2 (fu_2, (W6 (y17_2 + 1))) hm (Nat.lt_succ_self _))
   ·
    replace hm := cF hc18_7 hm
    refine AiF hc18_7 <| AWP.exit <| Then.exit <| RoundK.exit <| InBlock.same <| Tk 0 0 ⟨tp 32 [], [], 0⟩ <| Sx <| Wm (.b true) rfl <| Nn <| Rt ?_
    obtain rfl := Option.some.inj hm
    exact ret_i []

theorem ok_trail_Same (p0 : GTrail) (p1 : GTrail) (r : Bool) (h : m_trail_Same p0 p1 = some r) : GCall Try.prog 14 [(.agg [(.i p0.Cap), (.l enc_GWait p0.L)]), (.agg [(.i p1.Cap), (.l enc_GWait p1.L)])] [] (.b r) [] := by
 refine GCall.of_body (n := 17) (rs := [(.tmp 4)]) Try.func14 rfl rfl rfl <| Ato ⟨.agg [(.i p0.Cap), (.l enc_GWait p0.L)]::.agg [(.i p1.Cap), (.l enc_GWait p1.L)]::tu 15 [], [], 0⟩ ?_
 have hm := h
 unfold m_trail_Same at hm
 refine Sx <| Wy (.loc 0 0) [(0, (.box [(.i p0.Cap), (.l enc_GWait p0.L)]))] (Obx rfl) <| Wy (.loc 1 0) [(1, (.box [(.i p1.Cap), (.l enc_GWait p1.L)]))] (Obx rfl) <| Wm (.b false) rfl <| Nk 12 3 ⟨tp 2 (.loc 0 0::.loc 1 0::tp 13 []), [(.box [(.i p0.Cap), (.l enc_GWait p0.L)]), (.box [(.i p1.Cap), (.l enc_GWait p1.L)])], 0⟩ <| Sx <| Wz (.loc 0 0) (Ofa rfl) <| Wz (.i p0.Cap) (Old rfl) <| Wz (.loc 1 0) (Ofa rfl) <| Wz (.i p1.Cap) (Old rfl) <| Wz (.b (decide (p0.Cap = p1.Cap))) (Obn rfl (fun _ => hb_eql (k := .i64))) ?_
 rcases tf_ (decide (p0.Cap = p1.Cap)) with hq10_0 | hq10_0
 ·
  replace hm := cT hq10_0 hm
  refine Wz (.b true) (Oq hq10_0 rfl) <| Wz (.loc 0 1) (Ofa rfl) <| Wz (.l enc_GWait p0.L) (Old rfl) <| Wz (.loc 1 1) (Ofa rfl) <| Wz (.l enc_GWait p1.L) (Old rfl) ?_
  obtain ⟨r15_0, hr15_0, hm⟩ := bnd hm
  refine Wz (.b r15_0) (Ocf [] [] [] 0 (ok_slices_EqualFunc_Waittrail_Wait_trail_Wait_trail_Wait__trail_Same_1 p0.L p1.L r15_0 hr15_0) (fun a w => Try.call36 a w) rfl trivial) <| Wz (.b r15_0) (OpT rfl) <| Wm (.b r15_0) rfl <| Nn <| Rt ?_
  obtain rfl := Option.some.inj hm
  exact ret_i []
 ·
  replace hm := cF hq10_0 hm
  refine Wz (.b false) (Oq hq10_0 rfl) <| Wn <| Wn <| Wn <| Wn <| Wn <| Wz (.b false) (OpF rfl) <| Wm (.b false) rfl <| Nn <| Rt ?_
  obtain rfl := Option.some.inj hm
  exact ret_i []

theorem ok_w22_awake (r : Bool) (h : m_w22_awake = some r) : GCall Try.prog 5 [] [] (.b r) [] := by
 refine GCall.of_body (n := 162) (rs := [(.tmp 0)]) Try.func5 rfl rfl rfl <| Ato ⟨tu 162 [], [], 0⟩ ?_
 have hm := h
 unfold m_w22_awake at hm
 refine Sx <| Wm (.b false) rfl <| Nk 0 0 ⟨tp 162 [], [], 0⟩ <| Sx ?_
 obtain ⟨r17_0, hr17_0, hm⟩ := bnd hm
 refine Wz (.tup [(.agg [(.i r17_0.1.Cap), (.l enc_GWait r17_0.1.L)]), (.i r17_0.2)]) (Ocf [] [] [] 0 (ok_trail_New 2 r17_0 hr17_0) (fun a w => Try.call9 a w) rfl trivial) <| Wm (.tup [(.agg [(.i r17_0.1.Cap), (.l enc_GWait r17_0.1.L)]), (.i r17_0.2)]) rfl <| Wz (.agg [(.i r17_0.1.Cap), (.l enc_GWait r17_0.1.L)]) (Oex rfl) <| Wz (.i r17_0.2) (Oex rfl) <| Wy (.loc 0 0) [(0, (.box [(.i 0), (.d .nil)]))] (Oal rfl) <| Wy (.tup []) [(0, (.box [(.i r17_0.1.Cap), (.l enc_GWait r17_0.1.L)]))] (Ost rfl) <| Wm (.i r17_0.2) rfl <| Nk 6 1 ⟨tp 1 (.loc 0 0::.i r17_0.2::tp 159 []), [(.box [(.i r17_0.1.Cap), (.l enc_GWait r17_0.1.L)])], 0⟩ <| Sq <| Adr <| Wz (.agg [(.i r17_0.1.Cap), (.l enc_GWait r17_0.1.L)]) (Old rfl) ?_
 obtain ⟨r22_1, hr22_1, hm⟩ := bnd hm
 refine Wy (.own 1) [(1, (Ar 71 6 enc_GPair r22_1))] (Ocf [] [1] [] 0 (ok_w22_at 1 r22_1 hr22_1) (fun a w => Try.call17 a w) rfl trivial) <| Wy (.own 2) [(2, (.arr 25 1 (List.length ([6, 1, 6] : List Int)) (flatD (encI .u32) ([6, 1, 6] : List Int))))] (Obs rfl) <| Wz (.agg [(.own 1), (.own 2), (.i 9)]) (Obd rfl) ?_
 obtain ⟨r25_1, hr25_1, hm⟩ := bnd hm
 refine Wy (.tup [(.agg [(.i r25_1.1.Cap), (.own 3)]), (.i r25_1.2)]) [(3, (Ar 42 3 enc_GWait r25_1.1.L)), (1, (.fro 71 6 (List.length r22_1) (flatD enc_GPair r22_1))), (2, (.fro 25 1 (List.length ([6, 1, 6] : List Int)) (flatD (encI .u32) ([6, 1, 6] : List Int))))] (Ocf [] [3] [1, 2] 0 (ok_trail_Trail_Add r17_0.1 (GWait.mk r22_1 ([6, 1, 6] : List Int) 9) r25_1 hr25_1) (fun a w => Try.call10 a w) rfl trivial) <| Wm (.tup [(.agg [(.i r25_1.1.Cap), (.own 3)]), (.i r25_1.2)]) rfl <| Wz (.agg [(.i r25_1.1.Cap), (.own 3)]) (Oex rfl) <| Wz (.i r25_1.2) (Oex rfl) <| Wy (.loc 4 0) [(4, (.box [(.i 0), (.d .nil)]))] (Oal rfl) <| Wy (.tup []) [(4, (.box [(.i r25_1.1.Cap), (.own 3)]))] (Ost rfl) <| Wm (.i r25_1.2) rfl <| Wdr <| Tk 28 24 ⟨tp 2 (.i r17_0.2::.loc 4 0::.i r25_1.2::tp 157 []), [.gone, .gone, .gone, (Ar 42 3 enc_GWait r25_1.1.L), (.box [(.i r25_1.1.Cap), (.own 3)])], 0⟩ <| Sq <| Adr <| Wz (.agg [(.i r25_1.1.Cap), (.own 3)]) (Old rfl) ?_
 obtain ⟨r30_2, hr30_2, hm⟩ := bnd hm
 refine Wy (.own 5) [(5, (Ar 71 6 enc_GPair r30_2))] (Ocf [] [5] [] 0 (ok_w22_at 2 r30_2 hr30_2) (fun a w => Try.call17 a w) rfl trivial) <| Wy (.own 6) [(6, (.arr 25 1 (List.length ([2] : List Int)) (flatD (encI .u32) ([2] : List Int))))] (Obs rfl) <| Wz (.agg [(.own 5), (.own 6), (.i 5)]) (Obd rfl) ?_
 obtain ⟨r33_2, hr33_2, hm⟩ := bnd hm
 refine Wy (.tup [(.agg [(.i r33_2.1.Cap), (.own 7)]), (.i r33_2.2)]) [(7, (Ar 42 3 enc_GWait r33_2.1.L)), (3, (.fro 42 3 (List.length r25_1.1.L) (flatD enc_GWait r25_1.1.L))), (5, (.fro 71 6 (List.length r30_2) (flatD enc_GPair r30_2))), (6, (.fro 25 1 (List.length ([2] : List Int)) (flatD (encI .u32) ([2] : List Int))))] (Ocf [] [7] [3, 5, 6] 0 (ok_trail_Trail_Add r25_1.1 (GWait.mk r30_2 ([2] : List Int) 5) r33_2 hr33_2) (fun a w => Try.call10 a w) rfl trivial) <| Wm (.tup [(.agg [(.i r33_2.1.Cap), (.own 7)]), (.i r33_2.2)]) rfl <| Wz (.agg [(.i r33_2.1.Cap), (.own 7)]) (Oex rfl) <| Wz (.i r33_2.2) (Oex rfl) <| Wy (.loc 8 0) [(8, (.box [(.i 0), (.d .nil)]))] (Oal rfl) <| Wy (.tup []) [(8, (.box [(.i r33_2.1.Cap), (.own 7)]))] (Ost rfl) <| Wm (.i r33_2.2) rfl <| Wdr <| Tk 124 408 ⟨tp 2 (.i r17_0.2::.loc 4 0::.i r25_1.2::.loc 8 0::.i r33_2.2::tp 155 []), [.gone, .gone, .gone, (.fro 42 3 (List.length r25_1.1.L) (flatD enc_GWait r25_1.1.L)), (.box [(.i r25_1.1.Cap), (.own 3)]), .gone, .gone, (Ar 42 3 enc_GWait r33_2.1.L), (.box [(.i r33_2.1.Cap), (.own 7)])], 0⟩ <| Sq <| Adr <| Wz (.agg [(.i r33_2.1.Cap), (.own 7)]) (Old rfl) ?_
 obtain ⟨r38_3, hr38_3, hm⟩ := bnd hm
 refine Wy (.own 9) [(9, (Ar 71 6 enc_GPair r38_3))] (Ocf [] [9] [] 0 (ok_w22_at 3 r38_3 hr38_3) (fun a w => Try.call17 a w) rfl trivial) <| Wy (.own 10) [(10, (.arr 25 1 (List.length ([2] : List Int)) (flatD (encI .u32) ([2] : List Int))))] (Obs rfl) <| Wz (.agg [(.own 9), (.own 10), (.i 5)]) (Obd rfl) ?_
 obtain ⟨r41_3, hr41_3, hm⟩ := bnd hm
 refine Wy (.tup [(.agg [(.i r41_3.1.Cap), (.own 11)]), (.i r41_3.2)]) [(11, (Ar 42 3 enc_GWait r41_3.1.L)), (7, (.fro 42 3 (List.length r33_2.1.L) (flatD enc_GWait r33_2.1.L))), (9, (.fro 71 6 (List.length r38_3) (flatD enc_GPair r38_3))), (10, (.fro 25 1 (List.length ([2] : List Int)) (flatD (encI .u32) ([2] : List Int))))] (Ocf [] [11] [7, 9, 10] 0 (ok_trail_Trail_Add r33_2.1 (GWait.mk r38_3 ([2] : List Int) 5) r41_3 hr41_3) (fun a w => Try.call10 a w) rfl trivial) <| Wm (.tup [(.agg [(.i r41_3.1.Cap), (.own 11)]), (.i r41_3.2)]) rfl <| Wz (.agg [(.i r41_3.1.Cap), (.own 11)]) (Oex rfl) <| Wz (.i r41_3.2) (Oex rfl) <| Wy (.loc 12 0) [(12, (.box [(.i 0), (.d .nil)]))] (Oal rfl) <| Wy (.tup []) [(12, (.box [(.i r41_3.1.Cap), (.own 11)]))] (Ost rfl) <| Wm (.i r41_3.2) rfl <| Wdr <| Tk 380 408 ⟨tp 2 (.i r17_0.2::.loc 4 0::.i r25_1.2::.loc 8 0::.i r33_2.2::tp 1 (.i r41_3.2::tp 153 [])), [.gone, .gone, .gone, (.fro 42 3 (List.length r25_1.1.L) (flatD enc_GWait r25_1.1.L)), (.box [(.i r25_1.1.Cap), (.own 3)]), .gone, .gone, (.fro 42 3 (List.length r33_2.1.L) (flatD enc_GWait r33_2.1.L)), (.box [(.i r33_2.1.Cap), (.own 7)]), .gone, .gone, .gone, .gone], 0⟩ <| Sq <| Adr <| Wz (.agg [(.i r33_2.1.Cap), (.own 7)]) (Old rfl) ?_
 obtain ⟨r46_4, hr46_4, hm⟩ := bnd hm
 refine Wy (.own 13) [(13, (Ar 71 6 enc_GPair r46_4))] (Ocf [] [13] [] 0 (ok_w22_at 1 r46_4 hr46_4) (fun a w => Try.call17 a w) rfl trivial) <| Wz (.agg [(.own 13), (.d .nil), (.i 0)]) (Obd rfl) ?_
 obtain ⟨r48_4, hr48_4, hm⟩ := bnd hm
 refine Wy (.tup [(.agg [(.i r48_4.1.Cap), (.own 14)]), (.i r48_4.2)]) [(14, (Ar 42 3 enc_GWait r48_4.1.L)), (7, (.fro 42 3 (List.length r33_2.1.L) (flatD enc_GWait r33_2.1.L))), (13, (.fro 71 6 (List.length r46_4) (flatD enc_GPair r46_4)))] (Ocf [] [14] [7, 13] 0 (ok_trail_Trail_Add r33_2.1 (GWait.mk r46_4 ([] : List Int) 0) r48_4 hr48_4) (fun a w => Try.call10 a w) rfl trivial) <| Wm (.tup [(.agg [(.i r48_4.1.Cap), (.own 14)]), (.i r48_4.2)]) rfl <| Wz (.agg [(.i r48_4.1.Cap), (.own 14)]) (Oex rfl) <| Wz (.i r48_4.2) (Oex rfl) <| Wy (.loc 15 0) [(15, (.box [(.i 0), (.d .nil)]))] (Oal rfl) <| Wy (.tup []) [(15, (.box [(.i r48_4.1.Cap), (.own 14)]))] (Ost rfl) <| Wm (.i r48_4.2) rfl <| Wdr <| Tk 1404 408 ⟨tp 2 (.i r17_0.2::.loc 4 0::.i r25_1.2::.loc 8 0::.i r33_2.2::tp 1 (.i r41_3.2::tp 1 (.i r48_4.2::tp 151 []))), [.gone, .gone, .gone, (.fro 42 3 (List.length r25_1.1.L) (flatD enc_GWait r25_1.1.L)), (.box [(.i r25_1.1.Cap), (.own 3)]), .gone, .gone, (.fro 42 3 (List.length r33_2.1.L) (flatD enc_GWait r33_2.1.L)), (.box [(.i r33_2.1.Cap), (.own 7)]), .gone, .gone, .gone, .gone, .gone, .gone, .gone], 0⟩ <| Sx <| Wz (.agg [(.i r33_2.1.Cap), (.own 7)]) (Old rfl) ?_
 obtain ⟨r52_5, hr52_5, hm⟩ := bnd hm
 refine Wy (.agg [(.i r52_5.Cap), (.l enc_GWait r52_5.L)]) [(7, (.fro 42 3 (List.length r33_2.1.L) (flatD enc_GWait r33_2.1.L)))] (Ocf [] [] [7] 0 (ok_trail_Trail_Hit r33_2.1 0 2 r52_5 hr52_5) (fun a w => Try.call12 a w) rfl trivial) <| Wy (.loc 16 0) [(16, (.box [(.i 0), (.d .nil)]))] (Oal rfl) <| Wy (.tup []) [(16, (.box [(.i r52_5.Cap), (.l enc_GWait r52_5.L)]))] (Ost rfl) <| Nk 3452 65944 ⟨tp 2 (.i r17_0.2::.loc 4 0::.i r25_1.2::.loc 8 0::.i r33_2.2::tp 1 (.i r41_3.2::tp 1 (.i r48_4.2::.loc 16 0::tp 150 []))), [.gone, .gone, .gone, (.fro 42 3 (List.length r25_1.1.L) (flatD enc_GWait r25_1.1.L)), (.box [(.i r25_1.1.Cap), (.own 3)]), .gone, .gone, (.fro 42 3 (List.length r33_2.1.L) (flatD enc_GWait r33_2.1.L)), (.box [(.i r33_2.1.Cap), (.own 7)]), .gone, .gone, .gone, .gone, .gone, .gone, .gone, (.box [(.i r52_5.Cap), (.l enc_GWait r52_5.L)])], 0⟩ <| Sx <| Wz (.agg [(.i r52_5.Cap), (.l enc_GWait r52_5.L)]) (Old rfl) ?_
 obtain ⟨r55_6, hr55_6, hm⟩ := bnd hm
 refine Wy (.tup [(.own 17), (.agg [(.i r55_6.2.Cap), (.own 18)])]) [(17, (Ar 42 3 enc_GWait r55_6.1)), (18, (Ar 42 3 enc_GWait r55_6.2.L))] (Ocf [] [17, 18] [] 0 (ok_trail_Trail_Ripe r52_5 6 r55_6 hr55_6) (fun a w => Try.call13 a w) rfl trivial) <| Wm (.tup [(.own 17), (.agg [(.i r55_6.2.Cap), (.own 18)])]) rfl <| Wz (.own 17) (Oex rfl) <| Wz (.agg [(.i r55_6.2.Cap), (.own 18)]) (Oex rfl) <| Wy (.loc 19 0) [(19, (.box [(.i 0), (.d .nil)]))] (Oal rfl) <| Wm (.own 17) rfl <| Wy (.tup []) [(19, (.box [(.i r55_6.2.Cap), (.own 18)]))] (Ost rfl) <| Nk 15740 983448 ⟨tp 2 (.i r17_0.2::.loc 4 0::.i r25_1.2::.loc 8 0::.i r33_2.2::tp 1 (.i r41_3.2::tp 1 (.i r48_4.2::.loc 16 0::.own 17::.loc 19 0::tp 148 []))), [.gone, .gone, .gone, (.fro 42 3 (List.length r25_1.1.L) (flatD enc_GWait r25_1.1.L)), (.box [(.i r25_1.1.Cap), (.own 3)]), .gone, .gone, (.fro 42 3 (List.length r33_2.1.L) (flatD enc_GWait r33_2.1.L)), (.box [(.i r33_2.1.Cap), (.own 7)]), .gone, .gone, .gone, .gone, .gone, .gone, .gone, (.box [(.i r52_5.Cap), (.l enc_GWait r52_5.L)]), (Ar 42 3 enc_GWait r55_6.1), (Ar 42 3 enc_GWait r55_6.2.L), (.box [(.i r55_6.2.Cap), (.own 18)])], 0⟩ <| Sx <| Wz (.agg [(.i r33_2.1.Cap), (.own 7)]) (Old rfl) ?_
 obtain ⟨r60_7, hr60_7, hm⟩ := bnd hm
 refine Wz (.tup [(.i r60_7.1), (.b r60_7.2)]) (Ocp [] [] [7] 0 (ok_trail_Trail_Least r33_2.1 r60_7 hr60_7) (plain_triv (by simp [A.Plain, A.Plains, D.Plain, byteD])) (fun a w => Try.call16 a w) rfl trivial) <| Wm (.tup [(.i r60_7.1), (.b r60_7.2)]) rfl <| Wz (.i r60_7.1) (Oex rfl) <| Wz (.b r60_7.2) (Oex rfl) <| Wm (.i r60_7.1) rfl <| Wm (.b r60_7.2) rfl <| Nk 64892 983448 ⟨tp 2 (.i r17_0.2::.loc 4 0::.i r25_1.2::.loc 8 0::.i r33_2.2::tp 1 (.i r41_3.2::tp 1 (.i r48_4.2::.loc 16 0::.own 17::.loc 19 0::.i r60_7.1::.b r60_7.2::tp 146 []))), [.gone, .gone, .gone, (.fro 42 3 (List.length r25_1.1.L) (flatD enc_GWait r25_1.1.L)), (.box [(.i r25_1.1.Cap), (.own 3)]), .gone, .gone, (.fro 42 3 (List.length r33_2.1.L) (flatD enc_GWait r33_2.1.L)), (.box [(.i r33_2.1.Cap), (.own 7)]), .gone, .gone, .gone, .gone, .gone, .gone, .gone, (.box [(.i r52_5.Cap), (.l enc_GWait r52_5.L)]), (Ar 42 3 enc_GWait r55_6.1), (Ar 42 3 enc_GWait r55_6.2.L), (.box [(.i r55_6.2.Cap), (.own 18)])], 0⟩ <| Sq ?_
 refine AWP.cutJ (α := Unit) (fun x => match x with | () => (⟨tp 3 (.loc 0 0::tp 1 (.loc 1 0::tp 5 (.loc 2 0::.own 3::.loc 4 0::.i r60_7.1::.b r60_7.2::tp 81 (.b true::tp 64 [])))), [(.box [(.i r25_1.1.Cap), (.l enc_GWait r25_1.1.L)]), (.box [(.i r33_2.1.Cap), (.l enc_GWait r33_2.1.L)]), (.box [(.i r52_5.Cap), (.l enc_GWait r52_5.L)]), (Ar 42 3 enc_GWait r55_6.1), (.box [(.i r55_6.2.Cap), (.own 5)]), (Ar 42 3 enc_GWait r55_6.2.L)], 0⟩ : St)) (fun x => match x with | () => m_w22_awake_j9  = some r) ?_ (fun J9 => ?_)
 ·
  rintro ⟨⟩ hm
  try dsimp only at hm ⊢
  unfold m_w22_awake_j9 at hm
  refine AWP.if_ true (by kernel_rfl) <| Sx <| Wm (.b false) rfl <| Nn <| Rt <| Tr ?_
  obtain rfl := Option.some.inj hm
  exact ret_i []
 refine Sx <| Wm (.i r17_0.2) rfl <| Wz (.b (decide (r17_0.2 ≠ 0))) (Obn rfl (fun _ => hb_neq (k := .i64))) ?_
 rcases tf_ (decide (r17_0.2 ≠ 0)) with hq65_8 | hq65_8
 ·
  replace hm := cT hq65_8 hm
  refine Wz (.b true) (Oq hq65_8 rfl) <| Wn <| Wn <| Wz (.b true) (OpT rfl) <| Wm (.b true) rfl <| Wn <| Wn <| Wz (.b true) (OpT rfl) <| Wm (.b true) rfl <| Wn <| Wn <| Wz (.b true) (OpT rfl) <| Wm (.b true) rfl <| Wn ?_
  refine Wn <| Wz (.b true) (OpT rfl) <| Wm (.b true) rfl <| Wn <| Wn <| Wn <| Wn <| Wz (.b true) (OpT rfl) <| Wm (.b true) rfl <| Wn <| Wn <| Wn <| Wz (.b true) (OpT rfl) <| Wm (.b true) rfl ?_
  refine Wn <| Wn <| Wn <| Wn <| Wz (.b true) (OpT rfl) <| Nn <| Afz [3, 7] ⟨tp 2 (.i r17_0.2::.loc 4 0::.i r25_1.2::.loc 8 0::.i r33_2.2::tp 1 (.i r41_3.2::tp 1 (.i r48_4.2::.loc 16 0::.own 17::.loc 19 0::.i r60_7.1::.b r60_7.2::tp 47 (.i r17_0.2::.b (decide (r17_0.2 ≠ 0))::.b true::tu 2 (.b true::.b true::tu 2 (.b true::.b true::tu 2 (.b true::.b true::tu 2 (.b true::.b true::tu 4 (.b true::.b true::tu 3 (.b true::.b true::tu 4 (.b true::tp 64 []))))))))))), [.gone, .gone, .gone, (.fro 42 3 (List.length r25_1.1.L) (flatD enc_GWait r25_1.1.L)), (.box [(.i r25_1.1.Cap), (.l enc_GWait r25_1.1.L)]), .gone, .gone, (.fro 42 3 (List.length r33_2.1.L) (flatD enc_GWait r33_2.1.L)), (.box [(.i r33_2.1.Cap), (.l enc_GWait r33_2.1.L)]), .gone, .gone, .gone, .gone, .gone, .gone, .gone, (.box [(.i r52_5.Cap), (.l enc_GWait r52_5.L)]), (Ar 42 3 enc_GWait r55_6.1), (Ar 42 3 enc_GWait r55_6.2.L), (.box [(.i r55_6.2.Cap), (.own 18)])], 0⟩ ?_
  exact AWP.weak (Weak.toK 158456325028528675187087964200 0 0 [4, 8, 16, 17, 19, 18]) (J9 () hm)
 ·
  replace hm := cF hq65_8 hm
  refine Wz (.b false) (Oq hq65_8 rfl) <| Wm (.i r25_1.2) rfl <| Wz (.b (decide (r25_1.2 ≠ 0))) (Obn rfl (fun _ => hb_neq (k := .i64))) <| Wz (.b (decide (r25_1.2 ≠ 0))) (OpF rfl) ?_
  rcases tf_ (decide (r25_1.2 ≠ 0)) with hq69_8 | hq69_8
  ·
   replace hm := cT hq69_8 hm
   refine Wz (.b true) (Oq hq69_8 rfl) <| Wn <| Wn <| Wz (.b true) (OpT rfl) <| Wm (.b true) rfl <| Wn <| Wn <| Wz (.b true) (OpT rfl) <| Wm (.b true) rfl <| Wn <| Wn <| Wz (.b true) (OpT rfl) <| Wm (.b true) rfl <| Wn ?_
   refine Wn <| Wn <| Wn <| Wz (.b true) (OpT rfl) <| Wm (.b true) rfl <| Wn <| Wn <| Wn <| Wz (.b true) (OpT rfl) <| Wm (.b true) rfl <| Wn <| Wn <| Wn <| Wn ?_
   refine Wz (.b true) (OpT rfl) <| Nn <| Afz [3, 7] ⟨tp 2 (.i r17_0.2::.loc 4 0::.i r25_1.2::.loc 8 0::.i r33_2.2::tp 1 (.i r41_3.2::tp 1 (.i r48_4.2::.loc 16 0::.own 17::.loc 19 0::.i r60_7.1::.b r60_7.2::tp 47 (.i r17_0.2::.b (decide (r17_0.2 ≠ 0))::.b false::.i r25_1.2::.b (decide (r25_1.2 ≠ 0))::.b (decide (r25_1.2 ≠ 0))::.b true::tu 2 (.b true::.b true::tu 2 (.b true::.b true::tu 2 (.b true::.b true::tu 4 (.b true::.b true::tu 3 (.b true::.b true::tu 4 (.b true::tp 64 [])))))))))), [.gone, .gone, .gone, (.fro 42 3 (List.length r25_1.1.L) (flatD enc_GWait r25_1.1.L)), (.box [(.i r25_1.1.Cap), (.l enc_GWait r25_1.1.L)]), .gone, .gone, (.fro 42 3 (List.length r33_2.1.L) (flatD enc_GWait r33_2.1.L)), (.box [(.i r33_2.1.Cap), (.l enc_GWait r33_2.1.L)]), .gone, .gone, .gone, .gone, .gone, .gone, .gone, (.box [(.i r52_5.Cap), (.l enc_GWait r52_5.L)]), (Ar 42 3 enc_GWait r55_6.1), (Ar 42 3 enc_GWait r55_6.2.L), (.box [(.i r55_6.2.Cap), (.own 18)])], 0⟩ ?_
   exact AWP.weak (Weak.toK 158456325028528675187087964200 0 0 [4, 8, 16, 17, 19, 18]) (J9 () hm)
  ·
   replace hm := cF hq69_8 hm
   refine Wz (.b false) (Oq hq69_8 rfl) <| Wm (.i r33_2.2) rfl <| Wz (.b (decide (r33_2.2 ≠ 0))) (Obn rfl (fun _ => hb_neq (k := .i64))) <| Wz (.b (decide (r33_2.2 ≠ 0))) (OpF rfl) ?_
   rcases tf_ (decide (r33_2.2 ≠ 0)) with hq73_8 | hq73_8
   ·
    replace hm := cT hq73_8 hm
    refine Wz (.b true) (Oq hq73_8 rfl) <| Wn <| Wn <| Wz (.b true) (OpT rfl) <| Wm (.b true) rfl <| Wn <| Wn <| Wz (.b true) (OpT rfl) <| Wm (.b true) rfl <| Wn <| Wn <| Wn <| Wn <| Wz (.b true) (OpT rfl) ?_
    refine Wm (.b true) rfl <| Wn <| Wn <| Wn <| Wz (.b true) (OpT rfl) <| Wm (.b true) rfl <| Wn <| Wn <| Wn <| Wn <| Wz (.b true) (OpT rfl) <| Nn <| Afz [3, 7] ⟨tp 2 (.i r17_0.2::.loc 4 0::.i r25_1.2::.loc 8 0::.i r33_2.2::tp 1 (.i r41_3.2::tp 1 (.i r48_4.2::.loc 16 0::.own 17::.loc 19 0::.i r60_7.1::.b r60_7.2::tp 47 (.i r17_0.2::.b (decide (r17_0.2 ≠ 0))::.b false::.i r25_1.2::.b (decide (r25_1.2 ≠ 0))::.b (decide (r25_1.2 ≠ 0))::.b false::.i r33_2.2::.b (decide (r33_2.2 ≠ 0))::.b (decide (r33_2.2 ≠ 0))::.b true::tu 2 (.b true::.b true::tu 2 (.b true::.b true::tu 4 (.b true::.b true::tu 3 (.b true::.b true::tu 4 (.b true::tp 64 []))))))))), [.gone, .gone, .gone, (.fro 42 3 (List.length r25_1.1.L) (flatD enc_GWait r25_1.1.L)), (.box [(.i r25_1.1.Cap), (.l enc_GWait r25_1.1.L)]), .gone, .gone, (.fro 42 3 (List.length r33_2.1.L) (flatD enc_GWait r33_2.1.L)), (.box [(.i r33_2.1.Cap), (.l enc_GWait r33_2.1.L)]), .gone, .gone, .gone, .gone, .gone, .gone, .gone, (.box [(.i r52_5.Cap), (.l enc_GWait r52_5.L)]), (Ar 42 3 enc_GWait r55_6.1), (Ar 42 3 enc_GWait r55_6.2.L), (.box [(.i r55_6.2.Cap), (.own 18)])], 0⟩ ?_
    exact AWP.weak (Weak.toK 158456325028528675187087964200 0 0 [4, 8, 16, 17, 19, 18]) (J9 () hm)
   ·
    replace hm := cF hq73_8 hm
    refine Wz (.b false) (Oq hq73_8 rfl) <| Wm (.i r41_3.2) rfl <| Wz (.b (decide (r41_3.2 ≠ 7))) (Obn rfl (fun _ => hb_neq (k := .i64))) <| Wz (.b (decide (r41_3.2 ≠ 7))) (OpF rfl) ?_
    rcases tf_ (decide (r41_3.2 ≠ 7)) with hq77_8 | hq77_8
    ·
     replace hm := cT hq77_8 hm
     refine Wz (.b true) (Oq hq77_8 rfl) <| Wn <| Wn <| Wz (.b true) (OpT rfl) <| Wm (.b true) rfl <| Wn <| Wn <| Wn <| Wn <| Wz (.b true) (OpT rfl) <| Wm (.b true) rfl <| Wn <| Wn <| Wn ?_
     refine Wz (.b true) (OpT rfl) <| Wm (.b true) rfl <| Wn <| Wn <| Wn <| Wn <| Wz (.b true) (OpT rfl) <| Nn <| Afz [3, 7] ⟨tp 2 (.i r17_0.2::.loc 4 0::.i r25_1.2::.loc 8 0::.i r33_2.2::tp 1 (.i r41_3.2::tp 1 (.i r48_4.2::.loc 16 0::.own 17::.loc 19 0::.i r60_7.1::.b r60_7.2::tp 47 (.i r17_0.2::.b (decide (r17_0.2 ≠ 0))::.b false::.i r25_1.2::.b (decide (r25_1.2 ≠ 0))::.b (decide (r25_1.2 ≠ 0))::.b false::.i r33_2.2::.b (decide (r33_2.2 ≠ 0))::.b (decide (r33_2.2 ≠ 0))::.b false::.i r41_3.2::.b (decide (r41_3.2 ≠ 7))::.b (decide (r41_3.2 ≠ 7))::.b true::tu 2 (.b true::.b true::tu 4 (.b true::.b true::tu 3 (.b true::.b true::tu 4 (.b true::tp 64 [])))))))), [.gone, .gone, .gone, (.fro 42 3 (List.length r25_1.1.L) (flatD enc_GWait r25_1.1.L)), (.box [(.i r25_1.1.Cap), (.l enc_GWait r25_1.1.L)]), .gone, .gone, (.fro 42 3 (List.length r33_2.1.L) (flatD enc_GWait r33_2.1.L)), (.box [(.i r33_2.1.Cap), (.l enc_GWait r33_2.1.L)]), .gone, .gone, .gone, .gone, .gone, .gone, .gone, (.box [(.i r52_5.Cap), (.l enc_GWait r52_5.L)]), (Ar 42 3 enc_GWait r55_6.1), (Ar 42 3 enc_GWait r55_6.2.L), (.box [(.i r55_6.2.Cap), (.own 18)])], 0⟩ ?_
     exact AWP.weak (Weak.toK 158456325028528675187087964200 0 0 [4, 8, 16, 17, 19, 18]) (J9 () hm)
    ·
     replace hm := cF hq77_8 hm
     refine Wz (.b false) (Oq hq77_8 rfl) <| Wm (.i r48_4.2) rfl <| Wz (.b (decide (r48_4.2 ≠ 2))) (Obn rfl (fun _ => hb_neq (k := .i64))) <| Wz (.b (decide (r48_4.2 ≠ 2))) (OpF rfl) ?_
     rcases tf_ (decide (r48_4.2 ≠ 2)) with hq81_8 | hq81_8
     ·
      replace hm := cT hq81_8 hm
      refine Wz (.b true) (Oq hq81_8 rfl) <| Wn <| Wn <| Wn <| Wn <| Wz (.b true) (OpT rfl) <| Wm (.b true) rfl <| Wn <| Wn <| Wn <| Wz (.b true) (OpT rfl) <| Wm (.b true) rfl <| Wn <| Wn ?_
      refine Wn <| Wn <| Wz (.b true) (OpT rfl) <| Nn <| Afz [3, 7] ⟨tp 2 (.i r17_0.2::.loc 4 0::.i r25_1.2::.loc 8 0::.i r33_2.2::tp 1 (.i r41_3.2::tp 1 (.i r48_4.2::.loc 16 0::.own 17::.loc 19 0::.i r60_7.1::.b r60_7.2::tp 47 (.i r17_0.2::.b (decide (r17_0.2 ≠ 0))::.b false::.i r25_1.2::.b (decide (r25_1.2 ≠ 0))::.b (decide (r25_1.2 ≠ 0))::.b false::.i r33_2.2::.b (decide (r33_2.2 ≠ 0))::.b (decide (r33_2.2 ≠ 0))::.b false::.i r41_3.2::.b (decide (r41_3.2 ≠ 7))::.b (decide (r41_3.2 ≠ 7))::.b false::.i r48_4.2::.b (decide (r48_4.2 ≠ 2))::.b (decide (r48_4.2 ≠ 2))::.b true::tu 4 (.b true::.b true::tu 3 (.b true::.b true::tu 4 (.b true::tp 64 []))))))), [.gone, .gone, .gone, (.fro 42 3 (List.length r25_1.1.L) (flatD enc_GWait r25_1.1.L)), (.box [(.i r25_1.1.Cap), (.l enc_GWait r25_1.1.L)]), .gone, .gone, (.fro 42 3 (List.length r33_2.1.L) (flatD enc_GWait r33_2.1.L)), (.box [(.i r33_2.1.Cap), (.l enc_GWait r33_2.1.L)]), .gone, .gone, .gone, .gone, .gone, .gone, .gone, (.box [(.i r52_5.Cap), (.l enc_GWait r52_5.L)]), (Ar 42 3 enc_GWait r55_6.1), (Ar 42 3 enc_GWait r55_6.2.L), (.box [(.i r55_6.2.Cap), (.own 18)])], 0⟩ ?_
      exact AWP.weak (Weak.toK 158456325028528675187087964200 0 0 [4, 8, 16, 17, 19, 18]) (J9 () hm)
     ·
      replace hm := cF hq81_8 hm
      refine Wz (.b false) (Oq hq81_8 rfl) <| Wz (.loc 16 1) (Ofa rfl) <| Wz (.l enc_GWait r52_5.L) (Old rfl) <| Wz (.i ((List.length r52_5.L : Nat) : Int)) (Oln rfl) <| Wz (.b (decide (((List.length r52_5.L : Nat) : Int) ≠ 2))) (Obn rfl (fun _ => hb_neq (k := .i64))) <| Wz (.b (decide (((List.length r52_5.L : Nat) : Int) ≠ 2))) (OpF rfl) ?_
      rcases tf_ (decide (((List.length r52_5.L : Nat) : Int) ≠ 2)) with hq87_8 | hq87_8
      ·
       replace hm := cT hq87_8 hm
       refine Wz (.b true) (Oq hq87_8 rfl) <| Wn <| Wn <| Wn <| Wz (.b true) (OpT rfl) <| Wm (.b true) rfl <| Wn <| Wn <| Wn <| Wn <| Wz (.b true) (OpT rfl) <| Nn <| Afz [3, 7] ⟨tp 2 (.i r17_0.2::.loc 4 0::.i r25_1.2::.loc 8 0::.i r33_2.2::tp 1 (.i r41_3.2::tp 1 (.i r48_4.2::.loc 16 0::.own 17::.loc 19 0::.i r60_7.1::.b r60_7.2::tp 47 (.i r17_0.2::.b (decide (r17_0.2 ≠ 0))::.b false::.i r25_1.2::.b (decide (r25_1.2 ≠ 0))::.b (decide (r25_1.2 ≠ 0))::.b false::.i r33_2.2::.b (decide (r33_2.2 ≠ 0))::.b (decide (r33_2.2 ≠ 0))::.b false::.i r41_3.2::.b (decide (r41_3.2 ≠ 7))::.b (decide (r41_3.2 ≠ 7))::.b false::.i r48_4.2::.b (decide (r48_4.2 ≠ 2))::.b (decide (r48_4.2 ≠ 2))::.b false::.loc 16 1::.l enc_GWait r52_5.L::.i ((List.length r52_5.L : Nat) : Int)::.b (decide (((List.length r52_5.L : Nat) : Int) ≠ 2))::.b (decide (((List.length r52_5.L : Nat) : Int) ≠ 2))::.b true::tu 3 (.b true::.b true::tu 4 (.b true::tp 64 [])))))), [.gone, .gone, .gone, (.fro 42 3 (List.length r25_1.1.L) (flatD enc_GWait r25_1.1.L)), (.box [(.i r25_1.1.Cap), (.l enc_GWait r25_1.1.L)]), .gone, .gone, (.fro 42 3 (List.length r33_2.1.L) (flatD enc_GWait r33_2.1.L)), (.box [(.i r33_2.1.Cap), (.l enc_GWait r33_2.1.L)]), .gone, .gone, .gone, .gone, .gone, .gone, .gone, (.box [(.i r52_5.Cap), (.l enc_GWait r52_5.L)]), (Ar 42 3 enc_GWait r55_6.1), (Ar 42 3 enc_GWait r55_6.2.L), (.box [(.i r55_6.2.Cap), (.own 18)])], 0⟩ ?_
       exact AWP.weak (Weak.toK 158456325028528675187087964200 0 0 [4, 8, 16, 17, 19, 18]) (J9 () hm)
      ·
       replace hm := cF hq87_8 hm
       refine Wz (.b false) (Oq hq87_8 rfl) <| Wm (.own 17) rfl <| Wz (.i ((List.length r55_6.1 : Nat) : Int)) (Oln rfl) <| Wz (.b (decide (((List.length r55_6.1 : Nat) : Int) ≠ 1))) (Obn rfl (fun _ => hb_neq (k := .i64))) <| Wz (.b (decide (((List.length r55_6.1 : Nat) : Int) ≠ 1))) (OpF rfl) ?_
       rcases tf_ (decide (((List.length r55_6.1 : Nat) : Int) ≠ 1)) with hq92_8 | hq92_8
       ·
        replace hm := cT hq92_8 hm
        refine Wz (.b true) (Oq hq92_8 rfl) <| Wn <| Wn <| Wn <| Wn <| Wz (.b true) (OpT rfl) <| Nn <| Afz [3, 7] ⟨tp 2 (.i r17_0.2::.loc 4 0::.i r25_1.2::.loc 8 0::.i r33_2.2::tp 1 (.i r41_3.2::tp 1 (.i r48_4.2::.loc 16 0::.own 17::.loc 19 0::.i r60_7.1::.b r60_7.2::tp 47 (.i r17_0.2::.b (decide (r17_0.2 ≠ 0))::.b false::.i r25_1.2::.b (decide (r25_1.2 ≠ 0))::.b (decide (r25_1.2 ≠ 0))::.b false::.i r33_2.2::.b (decide (r33_2.2 ≠ 0))::.b (decide (r33_2.2 ≠ 0))::.b false::.i r41_3.2::.b (decide (r41_3.2 ≠ 7))::.b (decide (r41_3.2 ≠ 7))::.b false::.i r48_4.2::.b (decide (r48_4.2 ≠ 2))::.b (decide (r48_4.2 ≠ 2))::.b false::.loc 16 1::.l enc_GWait r52_5.L::.i ((List.length r52_5.L : Nat) : Int)::.b (decide (((List.length r52_5.L : Nat) : Int) ≠ 2))::.b (decide (((List.length r52_5.L : Nat) : Int) ≠ 2))::.b false::.own 17::.i ((List.length r55_6.1 : Nat) : Int)::.b (decide (((List.length r55_6.1 : Nat) : Int) ≠ 1))::.b (decide (((List.length r55_6.1 : Nat) : Int) ≠ 1))::.b true::tu 4 (.b true::tp 64 []))))), [.gone, .gone, .gone, (.fro 42 3 (List.length r25_1.1.L) (flatD enc_GWait r25_1.1.L)), (.box [(.i r25_1.1.Cap), (.l enc_GWait r25_1.1.L)]), .gone, .gone, (.fro 42 3 (List.length r33_2.1.L) (flatD enc_GWait r33_2.1.L)), (.box [(.i r33_2.1.Cap), (.l enc_GWait r33_2.1.L)]), .gone, .gone, .gone, .gone, .gone, .gone, .gone, (.box [(.i r52_5.Cap), (.l enc_GWait r52_5.L)]), (Ar 42 3 enc_GWait r55_6.1), (Ar 42 3 enc_GWait r55_6.2.L), (.box [(.i r55_6.2.Cap), (.own 18)])], 0⟩ ?_
        exact AWP.weak (Weak.toK 158456325028528675187087964200 0 0 [4, 8, 16, 17, 19, 18]) (J9 () hm)
       ·
        replace hm := cF hq92_8 hm
        refine Wz (.b false) (Oq hq92_8 rfl) <| Wz (.loc 19 1) (Ofa rfl) <| Wz (.own 18) (Old rfl) <| Wz (.i ((List.length r55_6.2.L : Nat) : Int)) (Oln rfl) <| Wz (.b (decide (((List.length r55_6.2.L : Nat) : Int) ≠ 1))) (Obn rfl (fun _ => hb_neq (k := .i64))) <| Wz (.b (decide (((List.length r55_6.2.L : Nat) : Int) ≠ 1))) (OpF rfl) <| Nk 158456325028528675187087964200 983448 ⟨tp 3 (.loc 4 0::tp 1 (.loc 8 0::tp 5 (.loc 16 0::.own 17::.loc 19 0::.i r60_7.1::.b r60_7.2::tp 81 (.b (decide (((List.length r55_6.2.L : Nat) : Int) ≠ 1))::tp 64 [])))), [.gone, .gone, .gone, (.fro 42 3 (List.length r25_1.1.L) (flatD enc_GWait r25_1.1.L)), (.box [(.i r25_1.1.Cap), (.own 3)]), .gone, .gone, (.fro 42 3 (List.length r33_2.1.L) (flatD enc_GWait r33_2.1.L)), (.box [(.i r33_2.1.Cap), (.own 7)]), .gone, .gone, .gone, .gone, .gone, .gone, .gone, (.box [(.i r52_5.Cap), (.l enc_GWait r52_5.L)]), (Ar 42 3 enc_GWait r55_6.1), (Ar 42 3 enc_GWait r55_6.2.L), (.box [(.i r55_6.2.Cap), (.own 18)])], 0⟩ ?_
        rcases tf_ (decide (((List.length r55_6.2.L : Nat) : Int) ≠ 1)) with hc97_11 | hc97_11
        ·
         replace hm := cT hc97_11 hm
         refine AiT hc97_11 <| Sx <| Wm (.b false) rfl <| Nn <| Rt <| Tr ?_
         obtain rfl := Option.some.inj hm
         exact ret_i []
        ·
         replace hm := cF hc97_11 hm
         refine AiF hc97_11 <| Sk <| Tk 63528 983448 ⟨tp 3 (.loc 4 0::tp 1 (.loc 8 0::tp 5 (.loc 16 0::.own 17::.loc 19 0::.i r60_7.1::.b r60_7.2::tp 146 []))), [.gone, .gone, .gone, (.fro 42 3 (List.length r25_1.1.L) (flatD enc_GWait r25_1.1.L)), (.box [(.i r25_1.1.Cap), (.own 3)]), .gone, .gone, (.fro 42 3 (List.length r33_2.1.L) (flatD enc_GWait r33_2.1.L)), (.box [(.i r33_2.1.Cap), (.own 7)]), .gone, .gone, .gone, .gone, .gone, .gone, .gone, (.box [(.i r52_5.Cap), (.l enc_GWait r52_5.L)]), (Ar 42 3 enc_GWait r55_6.1), (Ar 42 3 enc_GWait r55_6.2.L), (.box [(.i r55_6.2.Cap), (.own 18)])], 0⟩ <| Sx <| Wz (.loc 16 1) (Ofa rfl) <| Wz (.l enc_GWait r52_5.L) (Old rfl) ?_
         obtain ⟨x100_10, hx100_10, hm⟩ := bnd hm
         obtain ⟨hx100_10i, hx100_10g⟩ := geti_some hx100_10
         refine Wz (.d (.ref (List.drop ((Int.toNat 0) * 3) (flatD enc_GWait r52_5.L)))) (Oia rfl enc_GWait_len hx100_10i hx100_10g) <| Wz (.d (.ref (List.drop 1 (List.drop ((Int.toNat 0) * 3) (flatD enc_GWait r52_5.L))))) (Ofa rfl) <| Wz (.l (encI .u32) x100_10.Sets) (Lfk1 1 rfl enc_GWait_len hx100_10g) <| Wz (.i ((List.length x100_10.Sets : Nat) : Int)) (Oln rfl) <| Wz (.b (decide (((List.length x100_10.Sets : Nat) : Int) = 1))) (Obn rfl (fun _ => hb_eql (k := .i64))) ?_
         rcases tf_ (decide (((List.length x100_10.Sets : Nat) : Int) = 1)) with hq105_10 | hq105_10
         ·
          replace hm := cT hq105_10 hm
          refine Wz (.b true) (Oq hq105_10 rfl) <| Wz (.loc 16 1) (Ofa rfl) <| Wz (.l enc_GWait r52_5.L) (Old rfl) ?_
          obtain ⟨x108_10, hx108_10, hm⟩ := bnd hm
          obtain ⟨hx108_10i, hx108_10g⟩ := geti_some hx108_10
          refine Wz (.d (.ref (List.drop ((Int.toNat 0) * 3) (flatD enc_GWait r52_5.L)))) (Oia rfl enc_GWait_len hx108_10i hx108_10g) <| Wz (.d (.ref (List.drop 1 (List.drop ((Int.toNat 0) * 3) (flatD enc_GWait r52_5.L))))) (Ofa rfl) <| Wz (.l (encI .u32) x108_10.Sets) (Lfk1 1 rfl enc_GWait_len hx108_10g) ?_
          obtain ⟨x111_10, hx111_10, hm⟩ := bnd hm
          obtain ⟨hx111_10i, hx111_10g⟩ := geti_some hx111_10
          refine Wz (.d (.ref (List.drop ((Int.toNat 0) * 1) (flatD (encI .u32) x108_10.Sets)))) (Oia rfl (encI_len (k := .u32)) hx111_10i hx111_10g) <| Wz (.d (.lit (.int .u32 x111_10))) (Lf1 rfl (encI_len (k := .u32)) hx111_10g) <| Wz (.b (decide (x111_10 = 1))) (Obn rfl (fun _ => hb_eql (k := .u32))) <| Wz (.b (decide (x111_10 = 1))) (OpT rfl) ?_
          rcases tf_ (decide (x111_10 = 1)) with hq115_10 | hq115_10
          ·
           replace hm := cT hq115_10 hm
           refine Wz (.b true) (Oq hq115_10 rfl) <| Wm (.own 17) rfl ?_
           obtain ⟨x117_10, hx117_10, hm⟩ := bnd hm
           obtain ⟨hx117_10i, hx117_10g⟩ := geti_some hx117_10
           refine Wz (.loc 17 ((Int.toNat 0) * 3)) (Oia rfl enc_GWait_len hx117_10i hx117_10g) <| Wz (.loc 17 ((Int.toNat 0) * 3 + 2)) (Ofa rfl) <| Wz (.i x117_10.End) (Lrk1 2 rfl enc_GWait_len hx117_10g) <| Wz (.b (decide (x117_10.End = 5))) (Obn rfl (fun _ => hb_eql (k := .i64))) <| Wz (.b (decide (x117_10.End = 5))) (OpT rfl) ?_
           rcases tf_ (decide (x117_10.End = 5)) with hq122_10 | hq122_10
           ·
            replace hm := cT hq122_10 hm
            refine Wz (.b true) (Oq hq122_10 rfl) <| Wz (.loc 19 1) (Ofa rfl) <| Wz (.own 18) (Old rfl) ?_
            obtain ⟨x125_10, hx125_10, hm⟩ := bnd hm
            obtain ⟨hx125_10i, hx125_10g⟩ := geti_some hx125_10
            refine Wz (.loc 18 ((Int.toNat 0) * 3)) (Oia rfl enc_GWait_len hx125_10i hx125_10g) <| Wz (.loc 18 ((Int.toNat 0) * 3 + 2)) (Ofa rfl) <| Wz (.i x125_10.End) (Lrk1 2 rfl enc_GWait_len hx125_10g) <| Wz (.b (decide (x125_10.End = 9))) (Obn rfl (fun _ => hb_eql (k := .i64))) <| Wz (.b (decide (x125_10.End = 9))) (OpT rfl) ?_
            rcases tf_ (decide (x125_10.End = 9)) with hq130_10 | hq130_10
            ·
             replace hm := cT hq130_10 hm
             refine Wz (.b true) (Oq hq130_10 rfl) <| Wm (.i r60_7.1) rfl <| Wz (.b (decide (r60_7.1 = 5))) (Obn rfl (fun _ => hb_eql (k := .i64))) <| Wz (.b (decide (r60_7.1 = 5))) (OpT rfl) ?_
             rcases tf_ (decide (r60_7.1 = 5)) with hq134_10 | hq134_10
             ·
              replace hm := cT hq134_10 hm
              refine Wz (.b true) (Oq hq134_10 rfl) <| Wm (.b r60_7.2) rfl <| Wz (.b r60_7.2) (OpT rfl) ?_
              rcases tf_ r60_7.2 with hq137_10 | hq137_10
              ·
               replace hm := cT hq137_10 hm
               refine Wz (.b true) (Oq hq137_10 rfl) <| Wz (.agg [(.i r52_5.Cap), (.l enc_GWait r52_5.L)]) (Old rfl) ?_
               obtain ⟨r139_10, hr139_10, hm⟩ := bnd hm
               refine Wz (.agg [(.i r139_10.Cap), (.l enc_GWait r139_10.L)]) (Ocf [] [] [] 0 (ok_trail_Trail_Hit r52_5 0 1 r139_10 hr139_10) (fun a w => Try.call12 a w) rfl trivial) <| Wz (.l enc_GWait r139_10.L) (Ofd rfl) <| Wz (.i ((List.length r139_10.L : Nat) : Int)) (Oln rfl) <| Wz (.b (decide (((List.length r139_10.L : Nat) : Int) = 1))) (Obn rfl (fun _ => hb_eql (k := .i64))) <| Wz (.b (decide (((List.length r139_10.L : Nat) : Int) = 1))) (OpT rfl) ?_
               rcases tf_ (decide (((List.length r139_10.L : Nat) : Int) = 1)) with hq144_10 | hq144_10
               ·
                replace hm := cT hq144_10 hm
                refine Wz (.b true) (Oq hq144_10 rfl) <| Wy (.own 20) [(20, (.arr 25 1 (List.length ([1, 6] : List Int)) (flatD (encI .u32) ([1, 6] : List Int))))] (Obs rfl) ?_
                obtain ⟨r146_10, hr146_10, hm⟩ := bnd hm
                refine Wz (.d (.lit (.int .u32 r146_10))) (Ocp [] [] [20] 0 (ok_trail_Watched ([1, 6] : List Int) r146_10 hr146_10) (plain_triv (by simp [A.Plain, A.Plains, D.Plain, byteD])) (fun a w => Try.call18 a w) rfl trivial) <| Wz (.b (decide (r146_10 = 7))) (Obn rfl (fun _ => hb_eql (k := .u32))) <| Wz (.b (decide (r146_10 = 7))) (OpT rfl) ?_
                rcases tf_ (decide (r146_10 = 7)) with hq149_10 | hq149_10
                ·
                 replace hm := cT hq149_10 hm
                 refine Wz (.b true) (Oq hq149_10 rfl) <| Wz (.agg [(.i r33_2.1.Cap), (.own 7)]) (Old rfl) <| Wz (.agg [(.i r33_2.1.Cap), (.own 7)]) (Old rfl) ?_
                 obtain ⟨r152_10, hr152_10, hm⟩ := bnd hm
                 refine Wz (.b r152_10) (Ocp [] [] [7] 0 (ok_trail_Same r33_2.1 r33_2.1 r152_10 hr152_10) (plain_triv (by simp [A.Plain, A.Plains, D.Plain, byteD])) (fun a w => Try.call14 a w) rfl trivial) <| Wz (.b r152_10) (OpT rfl) ?_
                 rcases tf_ r152_10 with hq154_10 | hq154_10
                 ·
                  replace hm := cT hq154_10 hm
                  refine Wz (.b true) (Oq hq154_10 rfl) <| Wz (.agg [(.i r25_1.1.Cap), (.own 3)]) (Old rfl) <| Wz (.agg [(.i r33_2.1.Cap), (.own 7)]) (Old rfl) ?_
                  obtain ⟨r157_10, hr157_10, hm⟩ := bnd hm
                  refine Wz (.b r157_10) (Ocp [] [] [3, 7] 0 (ok_trail_Same r25_1.1 r33_2.1 r157_10 hr157_10) (plain_triv (by simp [A.Plain, A.Plains, D.Plain, byteD])) (fun a w => Try.call14 a w) rfl trivial) <| Wz (.b (!r157_10)) (Ocs (by kernel_rfl) (op_un rfl (a1 := .bool r157_10) (by kernel_rfl) (fun _ => hu_not))) <| Wz (.b (!r157_10)) (OpT rfl) ?_
                  rcases tf_ (!r157_10) with hq160_10 | hq160_10
                  ·
                   replace hm := cT hq160_10 hm
                   refine Wz (.b true) (Oq hq160_10 rfl) <| Wz (.b true) (OpT rfl) <| Wm (.b true) rfl <| Nn <| Rt ?_
                   obtain rfl := Option.some.inj hm
                   exact ret_i []
                  ·
                   replace hm := cF hq160_10 hm
                   refine Wz (.b false) (Oq hq160_10 rfl) <| Wz (.b false) (OpF rfl) <| Wm (.b false) rfl <| Nn <| Rt ?_
                   obtain rfl := Option.some.inj hm
                   exact ret_i []
                 ·
                  replace hm := cF hq154_10 hm
                  refine Wz (.b false) (Oq hq154_10 rfl) <| Wn <| Wn <| Wn <| Wn <| Wz (.b false) (OpF rfl) <| Wm (.b false) rfl <| Wz (.b false) (OpF rfl) <| Wm (.b false) rfl <| Nn <| Rt ?_
                  obtain rfl := Option.some.inj hm
                  exact ret_i []
                ·
                 replace hm := cF hq149_10 hm
                 refine Wz (.b false) (Oq hq149_10 rfl) <| Wn <| Wn <| Wn <| Wz (.b false) (OpF rfl) <| Wm (.b false) rfl <| Wn <| Wn <| Wn <| Wn <| Wz (.b false) (OpF rfl) <| Wm (.b false) rfl <| Wz (.b false) (OpF rfl) <| Wm (.b false) rfl ?_
                 refine Nn <| Rt ?_
                 obtain rfl := Option.some.inj hm
                 exact ret_i []
               ·
                replace hm := cF hq144_10 hm
                refine Wz (.b false) (Oq hq144_10 rfl) <| Wn <| Wn <| Wn <| Wz (.b false) (OpF rfl) <| Wm (.b false) rfl <| Wn <| Wn <| Wn <| Wz (.b false) (OpF rfl) <| Wm (.b false) rfl <| Wn <| Wn <| Wn ?_
                refine Wn <| Wz (.b false) (OpF rfl) <| Wm (.b false) rfl <| Wz (.b false) (OpF rfl) <| Wm (.b false) rfl <| Nn <| Rt ?_
                obtain rfl := Option.some.inj hm
                exact ret_i []
              ·
               replace hm := cF hq137_10 hm
               refine Wz (.b false) (Oq hq137_10 rfl) <| Wn <| Wn <| Wn <| Wn <| Wn <| Wz (.b false) (OpF rfl) <| Wm (.b false) rfl <| Wn <| Wn <| Wn <| Wz (.b false) (OpF rfl) <| Wm (.b false) rfl <| Wn ?_
               refine Wn <| Wn <| Wz (.b false) (OpF rfl) <| Wm (.b false) rfl <| Wn <| Wn <| Wn <| Wn <| Wz (.b false) (OpF rfl) <| Wm (.b false) rfl <| Wz (.b false) (OpF rfl) <| Wm (.b false) rfl <| Nn <| Rt ?_
               obtain rfl := Option.some.inj hm
               exact ret_i []
             ·
              replace hm := cF hq134_10 hm
              refine Wz (.b false) (Oq hq134_10 rfl) <| Wn <| Wz (.b false) (OpF rfl) <| Wm (.b false) rfl <| Wn <| Wn <| Wn <| Wn <| Wn <| Wz (.b false) (OpF rfl) <| Wm (.b false) rfl <| Wn <| Wn <| Wn ?_
              refine Wz (.b false) (OpF rfl) <| Wm (.b false) rfl <| Wn <| Wn <| Wn <| Wz (.b false) (OpF rfl) <| Wm (.b false) rfl <| Wn <| Wn <| Wn <| Wn <| Wz (.b false) (OpF rfl) <| Wm (.b false) rfl <| Wz (.b false) (OpF rfl) ?_
              refine Wm (.b false) rfl <| Nn <| Rt ?_
              obtain rfl := Option.some.inj hm
              exact ret_i []
            ·
             replace hm := cF hq130_10 hm
             refine Wz (.b false) (Oq hq130_10 rfl) <| Wn <| Wn <| Wz (.b false) (OpF rfl) <| Wm (.b false) rfl <| Wn <| Wz (.b false) (OpF rfl) <| Wm (.b false) rfl <| Wn <| Wn <| Wn <| Wn <| Wn <| Wz (.b false) (OpF rfl) ?_
             refine Wm (.b false) rfl <| Wn <| Wn <| Wn <| Wz (.b false) (OpF rfl) <| Wm (.b false) rfl <| Wn <| Wn <| Wn <| Wz (.b false) (OpF rfl) <| Wm (.b false) rfl <| Wn <| Wn <| Wn ?_
             refine Wn <| Wz (.b false) (OpF rfl) <| Wm (.b false) rfl <| Wz (.b false) (OpF rfl) <| Wm (.b false) rfl <| Nn <| Rt ?_
             obtain rfl := Option.some.inj hm
             exact ret_i []
           ·
            replace hm := cF hq122_10 hm
            refine Wz (.b false) (Oq hq122_10 rfl) <| Wn <| Wn <| Wn <| Wn <| Wn <| Wn <| Wz (.b false) (OpF rfl) <| Wm (.b false) rfl <| Wn <| Wn <| Wz (.b false) (OpF rfl) <| Wm (.b false) rfl <| Wn ?_
            refine Wz (.b false) (OpF rfl) <| Wm (.b false) rfl <| Wn <| Wn <| Wn <| Wn <| Wn <| Wz (.b false) (OpF rfl) <| Wm (.b false) rfl <| Wn <| Wn <| Wn <| Wz (.b false) (OpF rfl) <| Wm (.b false) rfl ?_
            refine Wn <| Wn <| Wn <| Wz (.b false) (OpF rfl) <| Wm (.b false) rfl <| Wn <| Wn <| Wn <| Wn <| Wz (.b false) (OpF rfl) <| Wm (.b false) rfl <| Wz (.b false) (OpF rfl) <| Wm (.b false) rfl <| Nn ?_
            refine Rt ?_
            obtain rfl := Option.some.inj hm
            exact ret_i []
          ·
           replace hm := cF hq115_10 hm
           refine Wz (.b false) (Oq hq115_10 rfl) <| Wn <| Wn <| Wn <| Wn <| Wn <| Wz (.b false) (OpF rfl) <| Wm (.b false) rfl <| Wn <| Wn <| Wn <| Wn <| Wn <| Wn ?_
           refine Wz (.b false) (OpF rfl) <| Wm (.b false) rfl <| Wn <| Wn <| Wz (.b false) (OpF rfl) <| Wm (.b false) rfl <| Wn <| Wz (.b false) (OpF rfl) <| Wm (.b false) rfl <| Wn <| Wn <| Wn <| Wn <| Wn ?_
           refine Wz (.b false) (OpF rfl) <| Wm (.b false) rfl <| Wn <| Wn <| Wn <| Wz (.b false) (OpF rfl) <| Wm (.b false) rfl <| Wn <| Wn <| Wn <| Wz (.b false) (OpF rfl) <| Wm (.b false) rfl <| Wn <| Wn ?_
           refine Wn <| Wn <| Wz (.b false) (OpF rfl) <| Wm (.b false) rfl <| Wz (.b false) (OpF rfl) <| Wm (.b false) rfl <| Nn <| Rt ?_
           obtain rfl := Option.some.inj hm
           exact ret_i []
         ·
          replace hm := cF hq105_10 hm
          refine Wz (.b false) (Oq hq105_10 rfl) <| Wn <| Wn <| Wn <| Wn <| Wn <| Wn <| Wn <| Wn <| Wz (.b false) (OpF rfl) <| Wm (.b false) rfl <| Wn <| Wn <| Wn ?_
          refine Wn <| Wn <| Wz (.b false) (OpF rfl) <| Wm (.b false) rfl <| Wn <| Wn <| Wn <| Wn <| Wn <| Wn <| Wz (.b false) (OpF rfl) <| Wm (.b false) rfl <| Wn <| Wn ?_
          refine Wz (.b false) (OpF rfl) <| Wm (.b false) rfl <| Wn <| Wz (.b false) (OpF rfl) <| Wm (.b false) rfl <| Wn <| Wn <| Wn <| Wn <| Wn <| Wz (.b false) (OpF rfl) <| Wm (.b false) rfl <| Wn <| Wn ?_
          refine Wn <| Wz (.b false) (OpF rfl) <| Wm (.b false) rfl <| Wn <| Wn <| Wn <| Wz (.b false) (OpF rfl) <| Wm (.b false) rfl <| Wn <| Wn <| Wn <| Wn <| Wz (.b false) (OpF rfl) <| Wm (.b false) rfl ?_
          refine Wz (.b false) (OpF rfl) <| Wm (.b false) rfl <| Nn <| Rt ?_
          obtain rfl := Option.some.inj hm
          exact ret_i []

theorem ok_w04_Small (p0 : GValue) (r : Int) (h : m_w04_Small p0 = some r) : GCall Try.prog 63 [(.agg [(.y p0.Kind), (.i p0.N), (.u p0.Bits), (.s p0.Text)])] [] (.i r) [] := by
 refine GCall.of_body (n := 8) (rs := [(.tmp 2)]) Try.func63 rfl rfl rfl <| Ato ⟨.agg [(.y p0.Kind), (.i p0.N), (.u p0.Bits), (.s p0.Text)]::tu 7 [], [], 0⟩ ?_
 have hm := h
 unfold m_w04_Small at hm
 refine Sx <| Wy (.loc 0 0) [(0, (.box [(.y p0.Kind), (.i p0.N), (.u p0.Bits), (.s p0.Text)]))] (Obx rfl) <| Wm (.i 0) rfl <| Nk 2 1 ⟨tp 1 (.loc 0 0::tp 6 []), [(.box [(.y p0.Kind), (.i p0.N), (.u p0.Bits), (.s p0.Text)])], 0⟩ <| Sx <| Wz (.loc 0 3) (Ofa rfl) <| Wz (.s p0.Text) (Old rfl) <| Wz (.i ((List.length p0.Text : Nat) : Int)) (Oln rfl) <| Wz (.i (W6 (((List.length p0.Text : Nat) : Int) - 100))) (Obn rfl (fun _ => hb_sub (k := .i64))) <| Wz (.i (max 0 (W6 (((List.length p0.Text : Nat) : Int) - 100)))) (op_bi2 rfl (a1 := .int .i64 0) (a2 := .int .i64 (W6 (((List.length p0.Text : Nat) : Int) - 100))) (by kernel_rfl) (by kernel_rfl) hb_max) <| Wm (.i (max 0 (W6 (((List.length p0.Text : Nat) : Int) - 100)))) rfl <| Nn <| Rt ?_
 obtain rfl := Option.some.inj hm
 exact ret_i []

theorem ok_w07_Over (p0 : (List GEvent)) (p1 : Int) (r : Int) (h : m_w07_Over p0 p1 = some r) : GCall Try.prog 44 [(.l enc_GEvent p0), (.i p1)] [] (.i r) [] := by
 refine GCall.of_body (n := 53) (rs := [(.tmp 4)]) Try.func44 rfl rfl rfl <| Ato ⟨.l enc_GEvent p0::.i p1::tu 51 [], [], 0⟩ ?_
 have hm := h
 unfold m_w07_Over at hm
 refine Sx <| Wm (.i 0) rfl <| Nk 3 0 ⟨.l enc_GEvent p0::.i p1::tp 51 [], [], 0⟩ <| Sq <| Sx <| Wm (.l enc_GEvent p0) rfl <| Wz (.i ((List.length p0 : Nat) : Int)) (Oln rfl) <| Wm (.i p1) rfl <| Wz (.b (decide (p1 < ((List.length p0 : Nat) : Int)))) (Obn rfl (fun _ => hb_gtr (k := .i64))) <| Nk 1025 0 ⟨.l enc_GEvent p0::tp 9 (.b (decide (p1 < ((List.length p0 : Nat) : Int)))::tp 42 []), [], 0⟩ ?_
 rcases tf_ (decide (p1 < ((List.length p0 : Nat) : Int))) with hc10_7 | hc10_7
 ·
  replace hm := cT hc10_7 hm
  refine AiT hc10_7 <| Sx <| Wm (.i 1) rfl <| Nn <| Rt <| Tr ?_
  obtain rfl := Option.some.inj hm
  exact ret_i []
 ·
  replace hm := cF hc10_7 hm
  refine AiF hc10_7 <| Sk <| Tk 1 0 ⟨.l enc_GEvent p0::tp 52 [], [], 0⟩ <| Sq <| Sx <| Wm (.i 0) rfl <| Nk 33 0 ⟨.l enc_GEvent p0::tp 4 (.i 0::tp 47 []), [], 0⟩ <| Bk ?_
  refine AWP.loopI (α := Nat × Int)
    (fun (fu_1, y5_1) => (⟨.l enc_GEvent p0::tp 4 (.i y5_1::tp 47 []), [], 0⟩ : St))
    (fun (fu_1, y5_1) => m_w07_Over_l1 p0 fu_1 y5_1 = some r)
    (fun (fu_1, y5_1) => fu_1) (1152921504606846976, 0)
    (Weak.toK 33 0 0 []) hm ?_
  rintro ⟨fu_1, y5_1⟩ n_1 hm ih_1
  try dsimp only at hm ih_1 ⊢
  cases fu_1 with
  | zero => exact absurd hm (by unfold m_w07_Over_l1; simp)
  | succ fu_1 =>
   unfold m_w07_Over_l1 at hm
   refine Sq <| Sx <| Wm (.i y5_1) rfl <| Wm (.l enc_GEvent p0) rfl <| Wz (.i ((List.length p0 : Nat) : Int)) (Oln rfl) <| Wz (.b (decide (y5_1 < ((List.length p0 : Nat) : Int)))) (Obn rfl (fun _ => hb_lss (k := .i64))) <| Nk 16417 0 ⟨.l enc_GEvent p0::tp 4 (.i y5_1::tp 8 (.b (decide (y5_1 < ((List.length p0 : Nat) : Int)))::tp 38 [])), [], 0⟩ ?_
   rcases tf_ (decide (y5_1 < ((List.length p0 : Nat) : Int))) with hc14_8 | hc14_8
   ·
    replace hm := cT hc14_8 hm
    refine AiT hc14_8 <| Sk <| Tk 33 0 ⟨.l enc_GEvent p0::tp 4 (.i y5_1::tp 47 []), [], 0⟩ <| Sq <| Bk <| Sq <| Sx <| Wm (.l enc_GEvent p0) rfl <| Wm (.i y5_1) rfl ?_
    obtain ⟨x19_3, hx19_3, hm⟩ := bnd hm
    obtain ⟨hx19_3i, hx19_3g⟩ := geti_some hx19_3
    refine Wz (.d (.ref (List.drop ((Int.toNat y5_1) * 5) (flatD enc_GEvent p0)))) (Oia rfl enc_GEvent_len hx19_3i hx19_3g) <| Wz (.d (.ref (List.drop 3 (List.drop ((Int.toNat y5_1) * 5) (flatD enc_GEvent p0))))) (Ofa rfl) <| Wz (.s x19_3.Type_) (Lfk1 3 rfl enc_GEvent_len hx19_3g) <| Wz (.i ((List.length x19_3.Type_ : Nat) : Int)) (Oln rfl) <| Wz (.b (decide ((40 : Int) < ((List.length x19_3.Type_ : Nat) : Int)))) (Obn rfl (fun _ => hb_gtr (k := .i64))) ?_
    rcases tf_ (decide ((40 : Int) < ((List.length x19_3.Type_ : Nat) : Int))) with hq24_3 | hq24_3
    ·
     replace hm := cT hq24_3 hm
     refine Wz (.b true) (Oq hq24_3 rfl) <| Wn <| Wn <| Wn <| Wn <| Wn <| Wn <| Wn <| Wz (.b true) (OpT rfl) <| Nk 4294967329 0 ⟨.l enc_GEvent p0::tp 4 (.i y5_1::tp 26 (.b true::tp 20 [])), [], 0⟩ <| AWP.if_ true (by kernel_rfl) <| Sx <| Wm (.i 1) rfl <| Nn ?_
     refine Rt <| Tr <| Ir <| Tr <| RoundK.ret <| Ir <| Tr ?_
     obtain rfl := Option.some.inj hm
     exact ret_i []
    ·
     replace hm := cF hq24_3 hm
     refine Wz (.b false) (Oq hq24_3 rfl) <| Wm (.l enc_GEvent p0) rfl <| Wm (.i y5_1) rfl ?_
     obtain ⟨x27_3, hx27_3, hm⟩ := bnd hm
     obtain ⟨hx27_3i, hx27_3g⟩ := geti_some hx27_3
     refine Wz (.d (.ref (List.drop ((Int.toNat y5_1) * 5) (flatD enc_GEvent p0)))) (Oia rfl enc_GEvent_len hx27_3i hx27_3g) <| Wz (.d (.ref (List.drop 4 (List.drop ((Int.toNat y5_1) * 5) (flatD enc_GEvent p0))))) (Ofa rfl) <| Wz (.l enc_GValue x27_3.Vals) (Lfk1 4 rfl enc_GEvent_len hx27_3g) <| Wz (.i ((List.length x27_3.Vals : Nat) : Int)) (Oln rfl) <| Wz (.b (decide ((12 : Int) < ((List.length x27_3.Vals : Nat) : Int)))) (Obn rfl (fun _ => hb_gtr (k := .i64))) <| Wz (.b (decide ((12 : Int) < ((List.length x27_3.Vals : Nat) : Int)))) (OpF rfl) <| Nk 4294967329 0 ⟨.l enc_GEvent p0::tp 4 (.i y5_1::tp 26 (.b (decide ((12 : Int) < ((List.length x27_3.Vals : Nat) : Int)))::tp 20 [])), [], 0⟩ ?_
     rcases tf_ (decide ((12 : Int) < ((List.length x27_3.Vals : Nat) : Int))) with hc32_9 | hc32_9
     ·
      replace hm := cT hc32_9 hm
      refine AiT hc32_9 <| Sx <| Wm (.i 1) rfl <| Nn <| Rt <| Tr <| Ir <| Tr <| RoundK.ret <| Ir <| Tr ?_
      obtain rfl := Option.some.inj hm
      exact ret_i []
     ·
      replace hm := cF hc32_9 hm
      refine AiF hc32_9 <| Sk <| Tk 33 0 ⟨.l enc_GEvent p0::tp 4 (.i y5_1::tp 47 []), [], 0⟩ <| Sx <| Wm (.i 0) rfl <| Nk 97 0 ⟨.l enc_GEvent p0::tp 4 (.i y5_1::.i 0::tp 46 []), [], 0⟩ <| Bk ?_
      refine AWP.loopI (α := Nat × Int)
        (fun (fu_4, y6_4) => (⟨.l enc_GEvent p0::tp 4 (.i y5_1::.i y6_4::tp 46 []), [], 0⟩ : St))
        (fun (fu_4, y6_4) => m_w07_Over_l4 p0 y5_1 (fun y5_1 => m_w07_Over_l1 p0 fu_1 y5_1) fu_4 y6_4 = some r)
        (fun (fu_4, y6_4) => fu_4) (1152921504606846976, 0)
        (Weak.toK 97 0 0 []) hm ?_
      rintro ⟨fu_4, y6_4⟩ n_4 hm ih_4
      try dsimp only at hm ih_4 ⊢
      cases fu_4 with
      | zero => exact absurd hm (by unfold m_w07_Over_l4; simp)
      | succ fu_4 =>
       unfold m_w07_Over_l4 at hm
       refine Sq <| Sx <| Wm (.i y6_4) rfl <| Wm (.l enc_GEvent p0) rfl <| Wm (.i y5_1) rfl ?_
       obtain ⟨x36_5, hx36_5, hm⟩ := bnd hm
       obtain ⟨hx36_5i, hx36_5g⟩ := geti_some hx36_5
       refine Wz (.d (.ref (List.drop ((Int.toNat y5_1) * 5) (flatD enc_GEvent p0)))) (Oia rfl enc_GEvent_len hx36_5i hx36_5g) <| Wz (.d (.ref (List.drop 4 (List.drop ((Int.toNat y5_1) * 5) (flatD enc_GEvent p0))))) (Ofa rfl) <| Wz (.l enc_GValue x36_5.Vals) (Lfk1 4 rfl enc_GEvent_len hx36_5g) <| Wz (.i ((List.length x36_5.Vals : Nat) : Int)) (Oln rfl) <| Wz (.b (decide (y6_4 < ((List.length x36_5.Vals : Nat) : Int)))) (Obn rfl (fun _ => hb_lss (k := .i64))) <| Nk 1099511627873 0 ⟨.l enc_GEvent p0::tp 4 (.i y5_1::.i y6_4::tp 33 (.b (decide (y6_4 < ((List.length x36_5.Vals : Nat) : Int)))::tp 12 [])), [], 0⟩ ?_
       rcases tf_ (decide (y6_4 < ((List.length x36_5.Vals : Nat) : Int))) with hc40_10 | hc40_10
       ·
        replace hm := cT hc40_10 hm
        refine AiT hc40_10 <| Sk <| Tk 97 0 ⟨.l enc_GEvent p0::tp 4 (.i y5_1::.i y6_4::tp 46 []), [], 0⟩ <| Sq <| Bk <| Sx <| Wm (.l enc_GEvent p0) rfl <| Wm (.i y5_1) rfl ?_
        obtain ⟨x45_6, hx45_6, hm⟩ := bnd hm
        obtain ⟨hx45_6i, hx45_6g⟩ := geti_some hx45_6
        refine Wz (.d (.ref (List.drop ((Int.toNat y5_1) * 5) (flatD enc_GEvent p0)))) (Oia rfl enc_GEvent_len hx45_6i hx45_6g) <| Wz (.d (.ref (List.drop 4 (List.drop ((Int.toNat y5_1) * 5) (flatD enc_GEvent p0))))) (Ofa rfl) <| Wz (.l enc_GValue x45_6.Vals) (Lfk1 4 rfl enc_GEvent_len hx45_6g) <| Wm (.i y6_4) rfl ?_
        obtain ⟨x49_6, hx49_6, hm⟩ := bnd hm
        obtain ⟨hx49_6i, hx49_6g⟩ := geti_some hx49_6
        refine Wz (.d (.ref (List.drop ((Int.toNat y6_4) * 4) (flatD enc_GValue x45_6.Vals)))) (Oia rfl enc_GValue_len hx49_6i hx49_6g) <| Wz (.agg [(.y x49_6.Kind), (.i x49_6.N), (.u x49_6.Bits), (.s x49_6.Text)]) (Lf rfl enc_GValue_len hx49_6g) ?_
        obtain ⟨r51_6, hr51_6, hm⟩ := bnd hm
        refine Wz (.i r51_6) (Ocf [] [] [] 0 (ok_w04_Small x49_6 r51_6 hr51_6) (fun a w => Try.call63 a w) rfl trivial) <| Wz (.b (decide ((0 : Int) < r51_6))) (Obn rfl (fun _ => hb_gtr (k := .i64))) <| Nk 4503599627370593 0 ⟨.l enc_GEvent p0::tp 4 (.i y5_1::.i y6_4::tp 45 (.b (decide ((0 : Int) < r51_6))::[])), [], 0⟩ ?_
        rcases tf_ (decide ((0 : Int) < r51_6)) with hc52_11 | hc52_11
        ·
         replace hm := cT hc52_11 hm
         refine AiT hc52_11 <| Sx <| Wm (.i 1) rfl <| Nn <| Rt <| Ir <| Tr <| RoundK.ret <| Ir <| Ir <| Tr <| RoundK.ret <| Ir <| Tr ?_
         obtain rfl := Option.some.inj hm
         exact ret_i []
        ·
         replace hm := cF hc52_11 hm
         refine AiF hc52_11 <| Sk <| Ino <| Tk 97 0 ⟨.l enc_GEvent p0::tp 4 (.i y5_1::.i y6_4::tp 46 []), [], 0⟩ <| Tx <| Wm (.i y6_4) rfl <| Wz (.i (W6 (y6_4 + 1))) (Obn rfl (fun _ => hb_add (k := .i64))) <| Wm (.i (W6 (y6_4 + 1))) rfl <| Wn0 <| RoundK.normal ?_
         exact Rounds.weak (Weak.toK 97 0 0 []) (ih_4 (fu_4, (W6 (y6_4 + 1))) hm (Nat.lt_succ_self _))
       ·
        replace hm := cF hc40_10 hm
        refine AiF hc40_10 <| AWP.exit <| Then.exit <| RoundK.exit <| InBlock.same <| Ino <| Tk 33 0 ⟨.l enc_GEvent p0::tp 4 (.i y5_1::tp 47 []), [], 0⟩ <| Tx <| Wm (.i y5_1) rfl <| Wz (.i (W6 (y5_1 + 1))) (Obn rfl (fun _ => hb_add (k := .i64))) <| Wm (.i (W6 (y5_1 + 1))) rfl <| Wn0 <| RoundK.normal ?_
        exact Rounds.weak (Weak.toK 33 0 0 []) (ih_1 (fu_1, (W6 (y5_1 + 1))) hm (Nat.lt_succ_self _))
   ·
    replace hm := cF hc14_8 hm
    refine AiF hc14_8 <| AWP.exit <| Then.exit <| RoundK.exit <| InBlock.same <| Tk 0 0 ⟨tp 53 [], [], 0⟩ <| Sx <| Wm (.i 0) rfl <| Nn <| Rt ?_
    obtain rfl := Option.some.inj hm
    exact ret_i []

theorem ok_w19_Long (p0 : (List GPair)) (r : Int) (h : m_w19_Long p0 = some r) : GCall Try.prog 23 [(.l enc_GPair p0)] [] (.i r) [] := by
 refine GCall.of_body (n := 30) (rs := [(.tmp 2)]) Try.func23 rfl rfl rfl <| Ato ⟨.l enc_GPair p0::tu 29 [], [], 0⟩ ?_
 have hm := h
 unfold m_w19_Long at hm
 refine Sx <| Wm (.i 0) rfl <| Nk 1 0 ⟨.l enc_GPair p0::tp 29 [], [], 0⟩ <| Sq <| Sx <| Wm (.l enc_GPair p0) rfl <| Wz (.i ((List.length p0 : Nat) : Int)) (Oln rfl) <| Wz (.b (decide ((20 : Int) < ((List.length p0 : Nat) : Int)))) (Obn rfl (fun _ => hb_gtr (k := .i64))) <| Nk 65 0 ⟨.l enc_GPair p0::tp 5 (.b (decide ((20 : Int) < ((List.length p0 : Nat) : Int)))::tp 23 []), [], 0⟩ ?_
 rcases tf_ (decide ((20 : Int) < ((List.length p0 : Nat) : Int))) with hc6_4 | hc6_4
 ·
  replace hm := cT hc6_4 hm
  refine AiT hc6_4 <| Sx <| Wm (.i 1) rfl <| Nn <| Rt <| Tr ?_
  obtain rfl := Option.some.inj hm
  exact ret_i []
 ·
  replace hm := cF hc6_4 hm
  refine AiF hc6_4 <| Sk <| Tk 1 0 ⟨.l enc_GPair p0::tp 29 [], [], 0⟩ <| Sq <| Sx <| Wm (.i 0) rfl <| Nk 9 0 ⟨.l enc_GPair p0::tp 2 (.i 0::tp 26 []), [], 0⟩ <| Bk ?_
  refine AWP.loopI (α := Nat × Int)
    (fun (fu_1, y3_1) => (⟨.l enc_GPair p0::tp 2 (.i y3_1::tp 26 []), [], 0⟩ : St))
    (fun (fu_1, y3_1) => m_w19_Long_l1 p0 fu_1 y3_1 = some r)
    (fun (fu_1, y3_1) => fu_1) (1152921504606846976, 0)
    (Weak.toK 9 0 0 []) hm ?_
  rintro ⟨fu_1, y3_1⟩ n_1 hm ih_1
  try dsimp only at hm ih_1 ⊢
  cases fu_1 with
  | zero => exact absurd hm (by unfold m_w19_Long_l1; simp)
  | succ fu_1 =>
   unfold m_w19_Long_l1 at hm
   refine Sq <| Sx <| Wm (.i y3_1) rfl <| Wm (.l enc_GPair p0) rfl <| Wz (.i ((List.length p0 : Nat) : Int)) (Oln rfl) <| Wz (.b (decide (y3_1 < ((List.length p0 : Nat) : Int)))) (Obn rfl (fun _ => hb_lss (k := .i64))) <| Nk 1033 0 ⟨.l enc_GPair p0::tp 2 (.i y3_1::tp 6 (.b (decide (y3_1 < ((List.length p0 : Nat) : Int)))::tp 19 [])), [], 0⟩ ?_
   rcases tf_ (decide (y3_1 < ((List.length p0 : Nat) : Int))) with hc10_5 | hc10_5
   ·
    replace hm := cT hc10_5 hm
    refine AiT hc10_5 <| Sk <| Tk 9 0 ⟨.l enc_GPair p0::tp 2 (.i y3_1::tp 26 []), [], 0⟩ <| Sq <| Bk <| Sx <| Wm (.l enc_GPair p0) rfl <| Wm (.i y3_1) rfl ?_
    obtain ⟨x15_3, hx15_3, hm⟩ := bnd hm
    obtain ⟨hx15_3i, hx15_3g⟩ := geti_some hx15_3
    refine Wz (.d (.ref (List.drop ((Int.toNat y3_1) * 6) (flatD enc_GPair p0)))) (Oia rfl enc_GPair_len hx15_3i hx15_3g) <| Wz (.d (.ref (List.drop ((Int.toNat y3_1) * 6) (flatD enc_GPair p0)))) (Ofa rfl) <| Wz (.s x15_3.Var) (Lf1 rfl enc_GPair_len hx15_3g) <| Wz (.i ((List.length x15_3.Var : Nat) : Int)) (Oln rfl) <| Wz (.b (decide ((40 : Int) < ((List.length x15_3.Var : Nat) : Int)))) (Obn rfl (fun _ => hb_gtr (k := .i64))) ?_
    rcases tf_ (decide ((40 : Int) < ((List.length x15_3.Var : Nat) : Int))) with hq20_3 | hq20_3
    ·
     replace hm := cT hq20_3 hm
     refine Wz (.b true) (Oq hq20_3 rfl) <| Wn <| Wn <| Wn <| Wn <| Wn <| Wn <| Wn <| Wn <| Wz (.b true) (OpT rfl) <| Nk 536870921 0 ⟨.l enc_GPair p0::tp 2 (.i y3_1::tp 25 (.b true::[])), [], 0⟩ <| AWP.if_ true (by kernel_rfl) <| Sx <| Wm (.i 1) rfl ?_
     refine Nn <| Rt <| Ir <| Tr <| RoundK.ret <| Ir <| Tr ?_
     obtain rfl := Option.some.inj hm
     exact ret_i []
    ·
     replace hm := cF hq20_3 hm
     refine Wz (.b false) (Oq hq20_3 rfl) <| Wm (.l enc_GPair p0) rfl <| Wm (.i y3_1) rfl ?_
     obtain ⟨x23_3, hx23_3, hm⟩ := bnd hm
     obtain ⟨hx23_3i, hx23_3g⟩ := geti_some hx23_3
     refine Wz (.d (.ref (List.drop ((Int.toNat y3_1) * 6) (flatD enc_GPair p0)))) (Oia rfl enc_GPair_len hx23_3i hx23_3g) <| Wz (.d (.ref (List.drop 1 (List.drop ((Int.toNat y3_1) * 6) (flatD enc_GPair p0))))) (Ofa rfl) <| Wz (.agg [(.i x23_3.E.Time), (.i x23_3.E.Source), (.i x23_3.E.Seq), (.s x23_3.E.Type_), (.l enc_GValue x23_3.E.Vals)]) (Lfk 1 rfl enc_GPair_len hx23_3g) <| Wy (.own 0) [(0, (Ar 91 5 enc_GEvent ([x23_3.E] : List GEvent)))] (Obs rfl) ?_
     obtain ⟨r27_3, hr27_3, hm⟩ := bnd hm
     refine Wz (.i r27_3) (Ocp [] [] [0] 0 (ok_w07_Over ([x23_3.E] : List GEvent) 1 r27_3 hr27_3) (plain_triv (by simp [A.Plain, A.Plains, D.Plain, byteD])) (fun a w => Try.call44 a w) rfl trivial) <| Wz (.b (decide ((0 : Int) < r27_3))) (Obn rfl (fun _ => hb_gtr (k := .i64))) <| Wz (.b (decide ((0 : Int) < r27_3))) (OpF rfl) <| Nk 536870921 0 ⟨.l enc_GPair p0::tp 2 (.i y3_1::tp 25 (.b (decide ((0 : Int) < r27_3))::[])), [.gone], 0⟩ ?_
     rcases tf_ (decide ((0 : Int) < r27_3)) with hc29_6 | hc29_6
     ·
      replace hm := cT hc29_6 hm
      refine AiT hc29_6 <| Sx <| Wm (.i 1) rfl <| Nn <| Rt <| Ir <| Tr <| RoundK.ret <| Ir <| Tr ?_
      obtain rfl := Option.some.inj hm
      exact ret_i []
     ·
      replace hm := cF hc29_6 hm
      refine AiF hc29_6 <| Sk <| Ino <| Tk 9 0 ⟨.l enc_GPair p0::tp 2 (.i y3_1::tp 26 []), [.gone], 0⟩ <| Tx <| Wm (.i y3_1) rfl <| Wz (.i (W6 (y3_1 + 1))) (Obn rfl (fun _ => hb_add (k := .i64))) <| Wm (.i (W6 (y3_1 + 1))) rfl <| Wn0 <| RoundK.normal ?_
      exact Rounds.weak (Weak.toK 9 0 0 []) (ih_1 (fu_1, (W6 (y3_1 + 1))) hm (Nat.lt_succ_self _))
   ·
    replace hm := cF hc10_5 hm
    refine AiF hc10_5 <| AWP.exit <| Then.exit <| RoundK.exit <| InBlock.same <| Tk 0 0 ⟨tp 30 [], [], 0⟩ <| Sx <| Wm (.i 0) rfl <| Nn <| Rt ?_
    obtain rfl := Option.some.inj hm
    exact ret_i []

theorem ok_w22_Over (p0 : GTrail) (r : Int) (h : m_w22_Over p0 = some r) : GCall Try.prog 8 [(.agg [(.i p0.Cap), (.l enc_GWait p0.L)])] [] (.i r) [] := by
 refine GCall.of_body (n := 33) (rs := [(.tmp 2)]) Try.func8 rfl rfl rfl <| Ato ⟨.agg [(.i p0.Cap), (.l enc_GWait p0.L)]::tu 32 [], [], 0⟩ ?_
 have hm := h
 unfold m_w22_Over at hm
 refine Sx <| Wy (.loc 0 0) [(0, (.box [(.i p0.Cap), (.l enc_GWait p0.L)]))] (Obx rfl) <| Wm (.i 0) rfl <| Nk 2 1 ⟨tp 1 (.loc 0 0::tp 31 []), [(.box [(.i p0.Cap), (.l enc_GWait p0.L)])], 0⟩ <| Sq <| Sx <| Wz (.loc 0 1) (Ofa rfl) <| Wz (.l enc_GWait p0.L) (Old rfl) <| Wz (.i ((List.length p0.L : Nat) : Int)) (Oln rfl) <| Wz (.b (decide ((12 : Int) < ((List.length p0.L : Nat) : Int)))) (Obn rfl (fun _ => hb_gtr (k := .i64))) <| Nk 130 1 ⟨tp 1 (.loc 0 0::tp 5 (.b (decide ((12 : Int) < ((List.length p0.L : Nat) : Int)))::tp 25 [])), [(.box [(.i p0.Cap), (.l enc_GWait p0.L)])], 0⟩ ?_
 rcases tf_ (decide ((12 : Int) < ((List.length p0.L : Nat) : Int))) with hc7_4 | hc7_4
 ·
  replace hm := cT hc7_4 hm
  refine AiT hc7_4 <| Sx <| Wm (.i 1) rfl <| Nn <| Rt <| Tr ?_
  obtain rfl := Option.some.inj hm
  exact ret_i []
 ·
  replace hm := cF hc7_4 hm
  refine AiF hc7_4 <| Sk <| Tk 2 1 ⟨tp 1 (.loc 0 0::tp 31 []), [(.box [(.i p0.Cap), (.l enc_GWait p0.L)])], 0⟩ <| Sq <| Sx <| Wm (.i 0) rfl <| Nk 10 1 ⟨tp 1 (.loc 0 0::tp 1 (.i 0::tp 29 [])), [(.box [(.i p0.Cap), (.l enc_GWait p0.L)])], 0⟩ <| Bk ?_
  refine AWP.loopI (α := Nat × Int)
    (fun (fu_1, y3_1) => (⟨tp 1 (.loc 0 0::tp 1 (.i y3_1::tp 29 [])), [(.box [(.i p0.Cap), (.l enc_GWait p0.L)])], 0⟩ : St))
    (fun (fu_1, y3_1) => m_w22_Over_l1 p0 fu_1 y3_1 = some r)
    (fun (fu_1, y3_1) => fu_1) (1152921504606846976, 0)
    (Weak.toK 10 0 0 [0]) hm ?_
  rintro ⟨fu_1, y3_1⟩ n_1 hm ih_1
  try dsimp only at hm ih_1 ⊢
  cases fu_1 with
  | zero => exact absurd hm (by unfold m_w22_Over_l1; simp)
  | succ fu_1 =>
   unfold m_w22_Over_l1 at hm
   refine Sq <| Sx <| Wm (.i y3_1) rfl <| Wz (.loc 0 1) (Ofa rfl) <| Wz (.l enc_GWait p0.L) (Old rfl) <| Wz (.i ((List.length p0.L : Nat) : Int)) (Oln rfl) <| Wz (.b (decide (y3_1 < ((List.length p0.L : Nat) : Int)))) (Obn rfl (fun _ => hb_lss (k := .i64))) <| Nk 4106 1 ⟨tp 1 (.loc 0 0::tp 1 (.i y3_1::tp 8 (.b (decide (y3_1 < ((List.length p0.L : Nat) : Int)))::tp 20 []))), [(.box [(.i p0.Cap), (.l enc_GWait p0.L)])], 0⟩ ?_
   rcases tf_ (decide (y3_1 < ((List.length p0.L : Nat) : Int))) with hc12_5 | hc12_5
   ·
    replace hm := cT hc12_5 hm
    refine AiT hc12_5 <| Sk <| Tk 10 1 ⟨tp 1 (.loc 0 0::tp 1 (.i y3_1::tp 29 [])), [(.box [(.i p0.Cap), (.l enc_GWait p0.L)])], 0⟩ <| Sq <| Bk <| Sx <| Wz (.loc 0 1) (Ofa rfl) <| Wz (.l enc_GWait p0.L) (Old rfl) <| Wm (.i y3_1) rfl ?_
    obtain ⟨x18_3, hx18_3, hm⟩ := bnd hm
    obtain ⟨hx18_3i, hx18_3g⟩ := geti_some hx18_3
    refine Wz (.d (.ref (List.drop ((Int.toNat y3_1) * 3) (flatD enc_GWait p0.L)))) (Oia rfl enc_GWait_len hx18_3i hx18_3g) <| Wz (.d (.ref (List.drop ((Int.toNat y3_1) * 3) (flatD enc_GWait p0.L)))) (Ofa rfl) <| Wz (.l enc_GPair x18_3.Bound) (Lf1 rfl enc_GWait_len hx18_3g) ?_
    obtain ⟨r21_3, hr21_3, hm⟩ := bnd hm
    refine Wz (.i r21_3) (Ocf [] [] [] 0 (ok_w19_Long x18_3.Bound r21_3 hr21_3) (fun a w => Try.call23 a w) rfl trivial) <| Wz (.b (decide ((0 : Int) < r21_3))) (Obn rfl (fun _ => hb_gtr (k := .i64))) ?_
    rcases tf_ (decide ((0 : Int) < r21_3)) with hq23_3 | hq23_3
    ·
     replace hm := cT hq23_3 hm
     refine Wz (.b true) (Oq hq23_3 rfl) <| Wn <| Wn <| Wn <| Wn <| Wn <| Wn <| Wn <| Wn <| Wz (.b true) (OpT rfl) <| Nk 4294967306 1 ⟨tp 1 (.loc 0 0::tp 1 (.i y3_1::tp 28 (.b true::[]))), [(.box [(.i p0.Cap), (.l enc_GWait p0.L)])], 0⟩ <| AWP.if_ true (by kernel_rfl) <| Sx <| Wm (.i 1) rfl ?_
     refine Nn <| Rt <| Ir <| Tr <| RoundK.ret <| Ir <| Tr ?_
     obtain rfl := Option.some.inj hm
     exact ret_i []
    ·
     replace hm := cF hq23_3 hm
     refine Wz (.b false) (Oq hq23_3 rfl) <| Wz (.loc 0 1) (Ofa rfl) <| Wz (.l enc_GWait p0.L) (Old rfl) <| Wm (.i y3_1) rfl ?_
     obtain ⟨x27_3, hx27_3, hm⟩ := bnd hm
     obtain ⟨hx27_3i, hx27_3g⟩ := geti_some hx27_3
     refine Wz (.d (.ref (List.drop ((Int.toNat y3_1) * 3) (flatD enc_GWait p0.L)))) (Oia rfl enc_GWait_len hx27_3i hx27_3g) <| Wz (.d (.ref (List.drop 1 (List.drop ((Int.toNat y3_1) * 3) (flatD enc_GWait p0.L))))) (Ofa rfl) <| Wz (.l (encI .u32) x27_3.Sets) (Lfk1 1 rfl enc_GWait_len hx27_3g) <| Wz (.i ((List.length x27_3.Sets : Nat) : Int)) (Oln rfl) <| Wz (.b (decide ((20 : Int) < ((List.length x27_3.Sets : Nat) : Int)))) (Obn rfl (fun _ => hb_gtr (k := .i64))) <| Wz (.b (decide ((20 : Int) < ((List.length x27_3.Sets : Nat) : Int)))) (OpF rfl) <| Nk 4294967306 1 ⟨tp 1 (.loc 0 0::tp 1 (.i y3_1::tp 28 (.b (decide ((20 : Int) < ((List.length x27_3.Sets : Nat) : Int)))::[]))), [(.box [(.i p0.Cap), (.l enc_GWait p0.L)])], 0⟩ ?_
     rcases tf_ (decide ((20 : Int) < ((List.length x27_3.Sets : Nat) : Int))) with hc32_6 | hc32_6
     ·
      replace hm := cT hc32_6 hm
      refine AiT hc32_6 <| Sx <| Wm (.i 1) rfl <| Nn <| Rt <| Ir <| Tr <| RoundK.ret <| Ir <| Tr ?_
      obtain rfl := Option.some.inj hm
      exact ret_i []
     ·
      replace hm := cF hc32_6 hm
      refine AiF hc32_6 <| Sk <| Ino <| Tk 10 1 ⟨tp 1 (.loc 0 0::tp 1 (.i y3_1::tp 29 [])), [(.box [(.i p0.Cap), (.l enc_GWait p0.L)])], 0⟩ <| Tx <| Wm (.i y3_1) rfl <| Wz (.i (W6 (y3_1 + 1))) (Obn rfl (fun _ => hb_add (k := .i64))) <| Wm (.i (W6 (y3_1 + 1))) rfl <| Wn0 <| RoundK.normal ?_
      exact Rounds.weak (Weak.toK 10 0 0 [0]) (ih_1 (fu_1, (W6 (y3_1 + 1))) hm (Nat.lt_succ_self _))
   ·
    replace hm := cF hc12_5 hm
    refine AiF hc12_5 <| AWP.exit <| Then.exit <| RoundK.exit <| InBlock.same <| Tk 0 0 ⟨tp 33 [], [.gone], 0⟩ <| Sx <| Wm (.i 0) rfl <| Nn <| Rt ?_
    obtain rfl := Option.some.inj hm
    exact ret_i []

theorem ok_w06_Vals (p0 : (List GValue)) (r : (List GValue)) (h : m_w06_Vals p0 = some r) : GCall Try.prog 64 [(.l enc_GValue p0)] [] (.own 0) [(Ar 129 4 enc_GValue r)] := by
 refine GCall.of_body (n := 19) (rs := [(.tmp 2)]) Try.func64 rfl rfl rfl <| Ato ⟨.l enc_GValue p0::tu 18 [], [], 0⟩ ?_
 have hm := h
 unfold m_w06_Vals at hm
 refine Sx <| Wm (.d .nil) rfl <| Nk 1 0 ⟨.l enc_GValue p0::tp 18 [], [], 0⟩ <| Sx <| Wm (.d .nil) rfl <| Nk 9 0 ⟨.l enc_GValue p0::tp 2 (.d .nil::tp 15 []), [], 0⟩ <| Sq <| Sx <| Wm (.i 0) rfl <| Nk 25 0 ⟨.l enc_GValue p0::tp 2 (.d .nil::.i 0::tp 14 []), [], 0⟩ <| Bk <| Aow 3 129 4 ⟨.l enc_GValue p0::tp 2 (.own 0::.i 0::tp 14 []), [(Ar 129 4 enc_GValue ([] : List GValue))], 0⟩ ?_
 refine AWP.loopI (α := Nat × (List GValue) × Int)
   (fun (fu_0, y3_0, y4_0) => (⟨.l enc_GValue p0::tp 2 (.own 0::.i y4_0::tp 14 []), [(Ar 129 4 enc_GValue y3_0)], 0⟩ : St))
   (fun (fu_0, y3_0, y4_0) => m_w06_Vals_l0 p0 fu_0 y3_0 y4_0 = some r)
   (fun (fu_0, y3_0, y4_0) => fu_0) (1152921504606846976, ([] : List GValue), 0)
   (Weak.toK 25 0 0 [0]) hm ?_
 rintro ⟨fu_0, y3_0, y4_0⟩ n_0 hm ih_0
 try dsimp only at hm ih_0 ⊢
 cases fu_0 with
 | zero => exact absurd hm (by unfold m_w06_Vals_l0; simp)
 | succ fu_0 =>
  unfold m_w06_Vals_l0 at hm
  refine Sq <| Sx <| Wm (.i y4_0) rfl <| Wm (.l enc_GValue p0) rfl <| Wz (.i ((List.length p0 : Nat) : Int)) (Oln rfl) <| Wz (.b (decide (y4_0 < ((List.length p0 : Nat) : Int)))) (Obn rfl (fun _ => hb_lss (k := .i64))) <| Nk 281 1 ⟨.l enc_GValue p0::tp 2 (.own 0::.i y4_0::tp 3 (.b (decide (y4_0 < ((List.length p0 : Nat) : Int)))::tp 10 [])), [(Ar 129 4 enc_GValue y3_0)], 0⟩ ?_
  rcases tf_ (decide (y4_0 < ((List.length p0 : Nat) : Int))) with hc8_3 | hc8_3
  ·
   replace hm := cT hc8_3 hm
   refine AiT hc8_3 <| Sk <| Tk 25 1 ⟨.l enc_GValue p0::tp 2 (.own 0::.i y4_0::tp 14 []), [(Ar 129 4 enc_GValue y3_0)], 0⟩ <| Sq <| Bk <| Tx <| Wm (.own 0) rfl <| Wm (.l enc_GValue p0) rfl <| Wm (.i y4_0) rfl ?_
   obtain ⟨x14_2, hx14_2, hm⟩ := bnd hm
   obtain ⟨hx14_2i, hx14_2g⟩ := geti_some hx14_2
   refine Wz (.d (.ref (List.drop ((Int.toNat y4_0) * 4) (flatD enc_GValue p0)))) (Oia rfl enc_GValue_len hx14_2i hx14_2g) <| Wz (.agg [(.y x14_2.Kind), (.i x14_2.N), (.u x14_2.Bits), (.s x14_2.Text)]) (Lf rfl enc_GValue_len hx14_2g) <| Wy (.own 1) [(1, (Ar 129 4 enc_GValue ([x14_2] : List GValue)))] (Obs rfl) ?_
   obtain ⟨a17_2, ha17_2, hm⟩ := bnd hm; obtain ⟨ha17_2e, ha17_2l⟩ := app_some ha17_2
   refine Wy (.own 2) [(0, .gone), (2, (Ar 129 4 enc_GValue a17_2))] (Oap rfl elemOK_67 enc_GValue_len ha17_2e ha17_2l) <| Wm (.own 2) rfl <| Wn0 <| Ino <| Tk 25 4 ⟨.l enc_GValue p0::tp 2 (.own 2::.i y4_0::tp 14 []), [.gone, .gone, (Ar 129 4 enc_GValue a17_2)], 0⟩ <| Tx <| Wm (.i y4_0) rfl <| Wz (.i (W6 (y4_0 + 1))) (Obn rfl (fun _ => hb_add (k := .i64))) <| Wm (.i (W6 (y4_0 + 1))) rfl <| Wn0 <| RoundK.normal ?_
   exact Rounds.weak (Weak.toK 25 0 0 [2]) (ih_0 (fu_0, a17_2, (W6 (y4_0 + 1))) hm (Nat.lt_succ_self _))
  ·
   replace hm := cF hc8_3 hm
   refine AiF hc8_3 <| AWP.exit <| Then.exit <| RoundK.exit <| InBlock.same <| Tk 8 1 ⟨tp 3 (.own 0::tp 15 []), [(Ar 129 4 enc_GValue y3_0)], 0⟩ <| Sx <| Wm (.own 0) rfl <| Wm (.own 0) rfl <| Nn <| Rt ?_
   obtain rfl := Option.some.inj hm
   exact ret_i [0]

theorem ok_w07_Own (p0 : GEvent) (r : GEvent) (h : m_w07_Own p0 = some r) : GCall Try.prog 46 [(.agg [(.i p0.Time), (.i p0.Source), (.i p0.Seq), (.s p0.Type_), (.l enc_GValue p0.Vals)])] [] (.agg [(.i r.Time), (.i r.Source), (.i r.Seq), (.s r.Type_), (.own 0)]) [(Ar 129 4 enc_GValue r.Vals)] := by
 refine GCall.of_body (n := 15) (rs := [(.cell 2 69)]) Try.func46 rfl rfl rfl <| Ato ⟨.agg [(.i p0.Time), (.i p0.Source), (.i p0.Seq), (.s p0.Type_), (.l enc_GValue p0.Vals)]::tu 14 [], [], 0⟩ ?_
 have hm := h
 unfold m_w07_Own at hm
 refine Sx <| Wy (.loc 0 0) [(0, (.box [(.i p0.Time), (.i p0.Source), (.i p0.Seq), (.s p0.Type_), (.l enc_GValue p0.Vals)]))] (Obx rfl) <| Wy (.loc 1 0) [(1, (.box [(.i 0), (.i 0), (.i 0), (.s ([] : List UInt8)), (.d .nil)]))] (Oal rfl) <| Nk 6 3 ⟨tp 1 (.loc 0 0::.loc 1 0::tp 12 []), [(.box [(.i p0.Time), (.i p0.Source), (.i p0.Seq), (.s p0.Type_), (.l enc_GValue p0.Vals)]), (.box [(.i 0), (.i 0), (.i 0), (.s ([] : List UInt8)), (.d .nil)])], 0⟩ <| Sq <| Adr <| Wz (.loc 0 0) (Ofa rfl) <| Wz (.i p0.Time) (Old rfl) <| Wz (.loc 0 1) (Ofa rfl) <| Wz (.i p0.Source) (Old rfl) <| Wz (.loc 0 2) (Ofa rfl) <| Wz (.i p0.Seq) (Old rfl) <| Wz (.loc 0 3) (Ofa rfl) <| Wz (.s p0.Type_) (Old rfl) ?_
 refine Wz (.loc 0 4) (Ofa rfl) <| Wz (.l enc_GValue p0.Vals) (Old rfl) ?_
 obtain ⟨r13_0, hr13_0, hm⟩ := bnd hm
 refine Wy (.own 2) [(2, (Ar 129 4 enc_GValue r13_0))] (Ocf [] [2] [] 0 (ok_w06_Vals p0.Vals r13_0 hr13_0) (fun a w => Try.call64 a w) rfl trivial) <| Wz (.agg [(.i p0.Time), (.i p0.Source), (.i p0.Seq), (.s p0.Type_), (.own 2)]) (Obd rfl) <| Wy (.tup []) [(1, (.box [(.i p0.Time), (.i p0.Source), (.i p0.Seq), (.s p0.Type_), (.own 2)]))] (Ost rfl) <| Wdr <| Tn <| Rt ?_
 obtain rfl := Option.some.inj hm
 exact ret_i [2]

theorem ok_w19_Pairs (p0 : (List GPair)) (r : (List GPair)) (h : m_w19_Pairs p0 = some r) : GCall Try.prog 28 [(.l enc_GPair p0)] [] (.own 0) [(Ar 71 6 enc_GPair r)] := by
 refine GCall.of_body (n := 27) (rs := [(.tmp 2)]) Try.func28 rfl rfl rfl <| Ato ⟨.l enc_GPair p0::tu 26 [], [], 0⟩ ?_
 have hm := h
 unfold m_w19_Pairs at hm
 refine Sx <| Wm (.d .nil) rfl <| Nk 1 0 ⟨.l enc_GPair p0::tp 26 [], [], 0⟩ <| Sx <| Wm (.d .nil) rfl <| Nk 9 0 ⟨.l enc_GPair p0::tp 2 (.d .nil::tp 23 []), [], 0⟩ <| Sq <| Sx <| Wm (.i 0) rfl <| Nk 25 0 ⟨.l enc_GPair p0::tp 2 (.d .nil::.i 0::tp 22 []), [], 0⟩ <| Bk <| Aow 3 71 6 ⟨.l enc_GPair p0::tp 2 (.own 0::.i 0::tp 22 []), [(Ar 71 6 enc_GPair ([] : List GPair))], 0⟩ ?_
 refine AWP.loopI (α := Nat × (List GPair) × Int)
   (fun (fu_0, y3_0, y4_0) => (⟨.l enc_GPair p0::tp 2 (.own 0::.i y4_0::tp 22 []), [(Ar 71 6 enc_GPair y3_0)], 0⟩ : St))
   (fun (fu_0, y3_0, y4_0) => m_w19_Pairs_l0 p0 fu_0 y3_0 y4_0 = some r)
   (fun (fu_0, y3_0, y4_0) => fu_0) (1152921504606846976, ([] : List GPair), 0)
   (Weak.toK 25 0 0 [0]) hm ?_
 rintro ⟨fu_0, y3_0, y4_0⟩ n_0 hm ih_0
 try dsimp only at hm ih_0 ⊢
 cases fu_0 with
 | zero => exact absurd hm (by unfold m_w19_Pairs_l0; simp)
 | succ fu_0 =>
  unfold m_w19_Pairs_l0 at hm
  refine Sq <| Sx <| Wm (.i y4_0) rfl <| Wm (.l enc_GPair p0) rfl <| Wz (.i ((List.length p0 : Nat) : Int)) (Oln rfl) <| Wz (.b (decide (y4_0 < ((List.length p0 : Nat) : Int)))) (Obn rfl (fun _ => hb_lss (k := .i64))) <| Nk 281 1 ⟨.l enc_GPair p0::tp 2 (.own 0::.i y4_0::tp 3 (.b (decide (y4_0 < ((List.length p0 : Nat) : Int)))::tp 18 [])), [(Ar 71 6 enc_GPair y3_0)], 0⟩ ?_
  rcases tf_ (decide (y4_0 < ((List.length p0 : Nat) : Int))) with hc8_3 | hc8_3
  ·
   replace hm := cT hc8_3 hm
   refine AiT hc8_3 <| Sk <| Tk 25 1 ⟨.l enc_GPair p0::tp 2 (.own 0::.i y4_0::tp 22 []), [(Ar 71 6 enc_GPair y3_0)], 0⟩ <| Sq <| Bk <| Adr <| Wm (.own 0) rfl <| Wm (.l enc_GPair p0) rfl <| Wm (.i y4_0) rfl ?_
   obtain ⟨x14_2, hx14_2, hm⟩ := bnd hm
   obtain ⟨hx14_2i, hx14_2g⟩ := geti_some hx14_2
   refine Wz (.d (.ref (List.drop ((Int.toNat y4_0) * 6) (flatD enc_GPair p0)))) (Oia rfl enc_GPair_len hx14_2i hx14_2g) <| Wz (.d (.ref (List.drop ((Int.toNat y4_0) * 6) (flatD enc_GPair p0)))) (Ofa rfl) <| Wz (.s x14_2.Var) (Lf1 rfl enc_GPair_len hx14_2g) <| Wm (.l enc_GPair p0) rfl <| Wm (.i y4_0) rfl ?_
   obtain ⟨x19_2, hx19_2, hm⟩ := bnd hm
   obtain ⟨hx19_2i, hx19_2g⟩ := geti_some hx19_2
   refine Wz (.d (.ref (List.drop ((Int.toNat y4_0) * 6) (flatD enc_GPair p0)))) (Oia rfl enc_GPair_len hx19_2i hx19_2g) <| Wz (.d (.ref (List.drop 1 (List.drop ((Int.toNat y4_0) * 6) (flatD enc_GPair p0))))) (Ofa rfl) <| Wz (.agg [(.i x19_2.E.Time), (.i x19_2.E.Source), (.i x19_2.E.Seq), (.s x19_2.E.Type_), (.l enc_GValue x19_2.E.Vals)]) (Lfk 1 rfl enc_GPair_len hx19_2g) ?_
   obtain ⟨r22_2, hr22_2, hm⟩ := bnd hm
   refine Wy (.agg [(.i r22_2.Time), (.i r22_2.Source), (.i r22_2.Seq), (.s r22_2.Type_), (.l enc_GValue r22_2.Vals)]) [(1, (Ar 129 4 enc_GValue r22_2.Vals)), (1, (.fro 129 4 (List.length r22_2.Vals) (flatD enc_GValue r22_2.Vals)))] (Ofz [1] (.agg [(.i r22_2.Time), (.i r22_2.Source), (.i r22_2.Seq), (.s r22_2.Type_), (.own 1)]) [(1, (Ar 129 4 enc_GValue r22_2.Vals))] (Ocf [] [1] [] 0 (ok_w07_Own x19_2.E r22_2 hr22_2) (fun a w => Try.call46 a w) rfl trivial)) <| Wz (.agg [(.s x14_2.Var), (.i r22_2.Time), (.i r22_2.Source), (.i r22_2.Seq), (.s r22_2.Type_), (.l enc_GValue r22_2.Vals)]) (Obd rfl) <| Wy (.own 2) [(2, (Ar 71 6 enc_GPair ([(GPair.mk x14_2.Var r22_2)] : List GPair)))] (Obs rfl) ?_
   obtain ⟨a25_2, ha25_2, hm⟩ := bnd hm; obtain ⟨ha25_2e, ha25_2l⟩ := app_some ha25_2
   refine Wy (.own 3) [(0, .gone), (3, (Ar 71 6 enc_GPair a25_2))] (Oap rfl elemOK_40 enc_GPair_len ha25_2e ha25_2l) <| Wm (.own 3) rfl <| Wdr <| Ino <| Tk 25 8 ⟨.l enc_GPair p0::tp 2 (.own 3::.i y4_0::tp 22 []), [.gone, .gone, .gone, (Ar 71 6 enc_GPair a25_2)], 0⟩ <| Tx <| Wm (.i y4_0) rfl <| Wz (.i (W6 (y4_0 + 1))) (Obn rfl (fun _ => hb_add (k := .i64))) <| Wm (.i (W6 (y4_0 + 1))) rfl <| Wn0 <| RoundK.normal ?_
   exact Rounds.weak (Weak.toK 25 0 0 [3]) (ih_0 (fu_0, a25_2, (W6 (y4_0 + 1))) hm (Nat.lt_succ_self _))
  ·
   replace hm := cF hc8_3 hm
   refine AiF hc8_3 <| AWP.exit <| Then.exit <| RoundK.exit <| InBlock.same <| Tk 8 1 ⟨tp 3 (.own 0::tp 23 []), [(Ar 71 6 enc_GPair y3_0)], 0⟩ <| Sx <| Wm (.own 0) rfl <| Wm (.own 0) rfl <| Nn <| Rt ?_
   obtain rfl := Option.some.inj hm
   exact ret_i [0]

theorem ok_w22_Own (p0 : GWait) (r : GWait) (h : m_w22_Own p0 = some r) : GCall Try.prog 11 [(.agg [(.l enc_GPair p0.Bound), (.l (encI .u32) p0.Sets), (.i p0.End)])] [] (.agg [(.own 0), (.own 1), (.i r.End)]) [(Ar 71 6 enc_GPair r.Bound), (.arr 25 1 (List.length r.Sets) (flatD (encI .u32) r.Sets))] := by
 refine GCall.of_body (n := 13) (rs := [(.cell 2 42)]) Try.func11 rfl rfl rfl <| Ato ⟨.agg [(.l enc_GPair p0.Bound), (.l (encI .u32) p0.Sets), (.i p0.End)]::tu 12 [], [], 0⟩ ?_
 have hm := h
 unfold m_w22_Own at hm
 refine Sx <| Wy (.loc 0 0) [(0, (.box [(.l enc_GPair p0.Bound), (.l (encI .u32) p0.Sets), (.i p0.End)]))] (Obx rfl) <| Wy (.loc 1 0) [(1, (.box [(.d .nil), (.d .nil), (.i 0)]))] (Oal rfl) <| Nk 6 3 ⟨tp 1 (.loc 0 0::.loc 1 0::tp 10 []), [(.box [(.l enc_GPair p0.Bound), (.l (encI .u32) p0.Sets), (.i p0.End)]), (.box [(.d .nil), (.d .nil), (.i 0)])], 0⟩ <| Sq <| Adr <| Wz (.loc 0 0) (Ofa rfl) <| Wz (.l enc_GPair p0.Bound) (Old rfl) ?_
 obtain ⟨r5_0, hr5_0, hm⟩ := bnd hm
 refine Wy (.own 2) [(2, (Ar 71 6 enc_GPair r5_0))] (Ocf [] [2] [] 0 (ok_w19_Pairs p0.Bound r5_0 hr5_0) (fun a w => Try.call28 a w) rfl trivial) <| Wy (.own 3) [(3, (.arr 25 1 (List.length ([] : List Int)) (flatD (encI .u32) ([] : List Int))))] (Obs rfl) <| Wz (.loc 0 1) (Ofa rfl) <| Wz (.l (encI .u32) p0.Sets) (Old rfl) ?_
 obtain ⟨a9_0, ha9_0, hm⟩ := bnd hm; obtain ⟨ha9_0e, ha9_0l⟩ := app_some ha9_0
 refine Wy (.own 4) [(3, .gone), (4, (.arr 25 1 (List.length a9_0) (flatD (encI .u32) a9_0)))] (Oap rfl elemOK_22 (encI_len (k := .u32)) ha9_0e ha9_0l) <| Wz (.loc 0 2) (Ofa rfl) <| Wz (.i p0.End) (Old rfl) <| Wz (.agg [(.own 2), (.own 4), (.i p0.End)]) (Obd rfl) <| Wy (.tup []) [(1, (.box [(.own 2), (.own 4), (.i p0.End)]))] (Ost rfl) <| Wdr <| Tn <| Rt ?_
 obtain rfl := Option.some.inj hm
 exact ret_i [2, 4]
end Go.Proofs.Ytelhmhmgaaebpaa.K
