/- what telltalelaw22.TrailEnds needs (0) -/
import Derived.Test.YtelhmhmgaaebpaaZLM
set_option linter.unusedVariables false
set_option linter.unusedSimpArgs false
namespace Go.Proofs.Ytelhmhmgaaebpaa.K
open Go.RowKit Go.Lib
set_option maxRecDepth 20000
set_option maxHeartbeats 4000000

theorem ok_trail_New (p0 : Int) (r : (GTrail × Int)) (h : m_trail_New p0 = some r) : GCall Try.prog 9 [(.i p0)] [] (.tup [(.agg [(.i r.1.Cap), (.l enc_GWait r.1.L)]), (.i r.2)]) [] := by
 refine GCall.of_body (n := 13) (rs := [(.cell 2 35), (.tmp 3)]) Try.func9 rfl rfl rfl <| Ato ⟨.i p0::tu 12 [], [], 0⟩ ?_
 have hm := h
 unfold m_trail_New at hm
 refine Sx <| Wy (.loc 0 0) [(0, (.box [(.i 0), (.d .nil)]))] (Oal rfl) <| Wm (.i 0) rfl <| Nk 5 1 ⟨.i p0::tp 1 (.loc 0 0::tp 10 []), [(.box [(.i 0), (.d .nil)])], 0⟩ <| Sq <| Sx <| Wm (.i p0) rfl <| Wz (.b (decide (p0 < 1))) (Obn rfl (fun _ => hb_lss (k := .i64))) ?_
 rcases tf_ (decide (p0 < 1)) with hq6_0 | hq6_0
 ·
  replace hm := cT hq6_0 hm
  refine Wz (.b true) (Oq hq6_0 rfl) <| Wn <| Wn <| Wz (.b true) (OpT rfl) <| Nk 517 1 ⟨.i p0::tp 1 (.loc 0 0::tp 6 (.b true::tp 3 [])), [(.box [(.i 0), (.d .nil)])], 0⟩ <| AWP.if_ true (by kernel_rfl) <| Sx <| Wz (.agg [(.i 0), (.d .nil)]) (Obd rfl) <| Wy (.tup []) [(0, (.box [(.i 0), (.d .nil)]))] (Ost rfl) <| Wm (.i 2) rfl <| Nn <| Rt <| Tr ?_
  obtain rfl := Option.some.inj hm
  exact ret_i []
 ·
  replace hm := cF hq6_0 hm
  refine Wz (.b false) (Oq hq6_0 rfl) <| Wm (.i p0) rfl <| Wz (.b (decide ((4096 : Int) < p0))) (Obn rfl (fun _ => hb_gtr (k := .i64))) <| Wz (.b (decide ((4096 : Int) < p0))) (OpF rfl) <| Nk 517 1 ⟨.i p0::tp 1 (.loc 0 0::tp 6 (.b (decide ((4096 : Int) < p0))::tp 3 [])), [(.box [(.i 0), (.d .nil)])], 0⟩ ?_
  rcases tf_ (decide ((4096 : Int) < p0)) with hc9_1 | hc9_1
  ·
   replace hm := cT hc9_1 hm
   refine AiT hc9_1 <| Sx <| Wz (.agg [(.i 0), (.d .nil)]) (Obd rfl) <| Wy (.tup []) [(0, (.box [(.i 0), (.d .nil)]))] (Ost rfl) <| Wm (.i 2) rfl <| Nn <| Rt <| Tr ?_
   obtain rfl := Option.some.inj hm
   exact ret_i []
  ·
   replace hm := cF hc9_1 hm
   refine AiF hc9_1 <| Sk <| Tk 5 1 ⟨.i p0::tp 1 (.loc 0 0::tp 10 []), [(.box [(.i 0), (.d .nil)])], 0⟩ <| Sx <| Wm (.i p0) rfl <| Wz (.agg [(.i p0), (.d .nil)]) (Obd rfl) <| Wy (.tup []) [(0, (.box [(.i p0), (.d .nil)]))] (Ost rfl) <| Wm (.i 0) rfl <| Nn <| Rt ?_
   obtain rfl := Option.some.inj hm
   exact ret_i []

theorem ok_w22_at (p0 : Int) (r : (List GPair)) (h : m_w22_at p0 = some r) : GCall Try.prog 17 [(.i p0)] [] (.own 0) [(Ar 71 6 enc_GPair r)] := by
 refine GCall.of_body (n := 7) (rs := [(.tmp 2)]) Try.func17 rfl rfl rfl <| Ato ⟨.i p0::tu 6 [], [], 0⟩ ?_
 have hm := h
 unfold m_w22_at at hm
 refine Sx <| Wm (.d .nil) rfl <| Nk 1 0 ⟨.i p0::tp 6 [], [], 0⟩ <| Sx <| Wm (.i p0) rfl <| Wz (.agg [(.i p0), (.i 0), (.i 0), (.s ([] : List UInt8)), (.d .nil)]) (Obd rfl) <| Wz (.agg [(.s ([120] : List UInt8)), (.i p0), (.i 0), (.i 0), (.s ([] : List UInt8)), (.d .nil)]) (Obd rfl) <| Wy (.own 0) [(0, (Ar 71 6 enc_GPair ([(GPair.mk ([120] : List UInt8) (GEvent.mk p0 0 0 ([] : List UInt8) ([] : List GValue)))] : List GPair)))] (Obs rfl) <| Wm (.own 0) rfl <| Nn <| Rt ?_
 obtain rfl := Option.some.inj hm
 exact ret_i [0]

theorem ok_slices_Clone_Pair (p0 : (List GPair)) (r : (List GPair)) (h : m_slices_Clone_Pair p0 = some r) : GCall Try.prog 27 [(.l enc_GPair p0)] [] (.own 0) [(Ar 71 6 enc_GPair r)] := by
 refine GCall.of_body (n := 8) (rs := [(.tmp 2)]) Try.func27 rfl rfl rfl <| Ato ⟨.l enc_GPair p0::tu 7 [], [], 0⟩ ?_
 have hm := h
 unfold m_slices_Clone_Pair at hm
 refine Sx <| Wm (.d .nil) rfl <| Nk 1 0 ⟨.l enc_GPair p0::tp 7 [], [], 0⟩ <| Sq <| Sx <| Wm (.l enc_GPair p0) rfl <| Wz (.ab (List.length p0 = 0)) (op_eqnil rfl (e := 71) (by kernel_rfl) (ya := (.l enc_GPair p0)) (by kernel_rfl) (ds := flatD enc_GPair p0) (off := 0) (by kernel_rfl) (by kernel_rfl)) <| Nk 17 0 ⟨.l enc_GPair p0::tp 3 (.ab (List.length p0 = 0)::tp 3 []), [], 0⟩ ?_
 refine AWP.condU (p := List.length p0 = 0) (by kernel_rfl) (fun hnil => ?_) ?_
 ·
  refine Sx <| Wm (.d .nil) rfl <| Nn <| Aow 2 71 6 ⟨.l enc_GPair p0::tp 1 (.own 0::tp 1 (.ab (List.length p0 = 0)::tp 3 [])), [(Ar 71 6 enc_GPair ([] : List GPair))], 0⟩ <| Rt <| Tr ?_
  obtain rfl := nil_app hm (List.eq_nil_of_length_eq_zero hnil)
  exact ret_i [0]
 refine Sk <| Tk 1 0 ⟨.l enc_GPair p0::tp 7 [], [], 0⟩ <| Sx <| Wy (.own 0) [(0, (Ar 71 6 enc_GPair ([] : List GPair)))] (Obs rfl) <| Wm (.l enc_GPair p0) rfl ?_
 obtain ⟨a7_0, ha7_0, hm⟩ := bnd hm; obtain ⟨ha7_0e, ha7_0l⟩ := app_some ha7_0
 refine Wy (.own 1) [(0, .gone), (1, (Ar 71 6 enc_GPair a7_0))] (Oap rfl elemOK_40 enc_GPair_len ha7_0e ha7_0l) <| Wm (.own 1) rfl <| Nn <| Rt ?_
 obtain rfl := Option.some.inj hm
 exact ret_i [1]

theorem ok_slices_Clone_uint32 (p0 : (List Int)) (r : (List Int)) (h : m_slices_Clone_uint32 p0 = some r) : GCall Try.prog 45 [(.l (encI .u32) p0)] [] (.own 0) [(.arr 25 1 (List.length r) (flatD (encI .u32) r))] := by
 refine GCall.of_body (n := 8) (rs := [(.tmp 2)]) Try.func45 rfl rfl rfl <| Ato ⟨.l (encI .u32) p0::tu 7 [], [], 0⟩ ?_
 have hm := h
 unfold m_slices_Clone_uint32 at hm
 refine Sx <| Wm (.d .nil) rfl <| Nk 1 0 ⟨.l (encI .u32) p0::tp 7 [], [], 0⟩ <| Sq <| Sx <| Wm (.l (encI .u32) p0) rfl <| Wz (.ab (List.length p0 = 0)) (op_eqnil rfl (e := 25) (by kernel_rfl) (ya := (.l (encI .u32) p0)) (by kernel_rfl) (ds := flatD (encI .u32) p0) (off := 0) (by kernel_rfl) (by kernel_rfl)) <| Nk 17 0 ⟨.l (encI .u32) p0::tp 3 (.ab (List.length p0 = 0)::tp 3 []), [], 0⟩ ?_
 refine AWP.condU (p := List.length p0 = 0) (by kernel_rfl) (fun hnil => ?_) ?_
 ·
  refine Sx <| Wm (.d .nil) rfl <| Nn <| Aow 2 25 1 ⟨.l (encI .u32) p0::tp 1 (.own 0::tp 1 (.ab (List.length p0 = 0)::tp 3 [])), [(.arr 25 1 (List.length ([] : List Int)) (flatD (encI .u32) ([] : List Int)))], 0⟩ <| Rt <| Tr ?_
  obtain rfl := nil_app hm (List.eq_nil_of_length_eq_zero hnil)
  exact ret_i [0]
 refine Sk <| Tk 1 0 ⟨.l (encI .u32) p0::tp 7 [], [], 0⟩ <| Sx <| Wy (.own 0) [(0, (.arr 25 1 (List.length ([] : List Int)) (flatD (encI .u32) ([] : List Int))))] (Obs rfl) <| Wm (.l (encI .u32) p0) rfl ?_
 obtain ⟨a7_0, ha7_0, hm⟩ := bnd hm; obtain ⟨ha7_0e, ha7_0l⟩ := app_some ha7_0
 refine Wy (.own 1) [(0, .gone), (1, (.arr 25 1 (List.length a7_0) (flatD (encI .u32) a7_0)))] (Oap rfl elemOK_22 (encI_len (k := .u32)) ha7_0e ha7_0l) <| Wm (.own 1) rfl <| Nn <| Rt ?_
 obtain rfl := Option.some.inj hm
 exact ret_i [1]

theorem ok_trail_copied (p0 : (List GWait)) (r : (List GWait)) (h : m_trail_copied p0 = some r) : GCall Try.prog 24 [(.l enc_GWait p0)] [] (.own 0) [(Ar 42 3 enc_GWait r)] := by
 refine GCall.of_body (n := 26) (rs := [(.tmp 2)]) Try.func24 rfl rfl rfl <| Ato ⟨.l enc_GWait p0::tu 25 [], [], 0⟩ ?_
 have hm := h
 unfold m_trail_copied at hm
 refine Sx <| Wm (.d .nil) rfl <| Nk 1 0 ⟨.l enc_GWait p0::tp 25 [], [], 0⟩ <| Sx <| Wm (.d .nil) rfl <| Nk 9 0 ⟨.l enc_GWait p0::tp 2 (.d .nil::tp 22 []), [], 0⟩ <| Sq <| Sx <| Wm (.l enc_GWait p0) rfl <| Wz (.i ((List.length p0 : Nat) : Int)) (Oln rfl) <| Wm (.i 0) rfl <| Nk 456 0 ⟨tp 3 (.d .nil::tp 2 (.l enc_GWait p0::.i ((List.length p0 : Nat) : Int)::.i 0::tp 17 [])), [], 0⟩ <| Bk <| Aow 3 42 3 ⟨tp 3 (.own 0::tp 2 (.l enc_GWait p0::.i ((List.length p0 : Nat) : Int)::.i 0::tp 17 [])), [(Ar 42 3 enc_GWait ([] : List GWait))], 0⟩ ?_
 refine AWP.loopI (α := Nat × (List GWait) × Int)
   (fun (fu_1, y3_1, y8_1) => (⟨tp 3 (.own 0::tp 2 (.l enc_GWait p0::.i ((List.length p0 : Nat) : Int)::.i y8_1::tp 17 [])), [(Ar 42 3 enc_GWait y3_1)], 0⟩ : St))
   (fun (fu_1, y3_1, y8_1) => m_trail_copied_l1 p0 fu_1 y3_1 y8_1 = some r)
   (fun (fu_1, y3_1, y8_1) => fu_1) (1152921504606846976, ([] : List GWait), 0)
   (Weak.toK 456 0 0 [0]) hm ?_
 rintro ⟨fu_1, y3_1, y8_1⟩ n_1 hm ih_1
 try dsimp only at hm ih_1 ⊢
 cases fu_1 with
 | zero => exact absurd hm (by unfold m_trail_copied_l1; simp)
 | succ fu_1 =>
  unfold m_trail_copied_l1 at hm
  refine Sx <| Wz (.b (decide (y8_1 < ((List.length p0 : Nat) : Int)))) (Obn rfl (fun _ => hb_lss (k := .i64))) <| Nk 968 1 ⟨tp 3 (.own 0::tp 2 (.l enc_GWait p0::.i ((List.length p0 : Nat) : Int)::.i y8_1::.b (decide (y8_1 < ((List.length p0 : Nat) : Int)))::tp 16 [])), [(Ar 42 3 enc_GWait y3_1)], 0⟩ <| Sq ?_
  rcases tf_ (decide (y8_1 < ((List.length p0 : Nat) : Int))) with hc9_4 | hc9_4
  ·
   replace hm := cT hc9_4 hm
   refine AiT hc9_4 <| Sk <| Tk 456 1 ⟨tp 3 (.own 0::tp 2 (.l enc_GWait p0::.i ((List.length p0 : Nat) : Int)::.i y8_1::tp 17 [])), [(Ar 42 3 enc_GWait y3_1)], 0⟩ <| Sq <| Bk <| Sx ?_
   obtain ⟨x10_2, hx10_2, hm⟩ := bnd hm
   obtain ⟨hx10_2i, hx10_2g⟩ := geti_some hx10_2
   refine Wz (.d (.ref (List.drop ((Int.toNat y8_1) * 3) (flatD enc_GWait p0)))) (Oia rfl enc_GWait_len hx10_2i hx10_2g) <| Wz (.agg [(.l enc_GPair x10_2.Bound), (.l (encI .u32) x10_2.Sets), (.i x10_2.End)]) (Lf rfl enc_GWait_len hx10_2g) <| Wy (.loc 1 0) [(1, (.box [(.d .nil), (.d .nil), (.i 0)]))] (Oal rfl) <| Wy (.tup []) [(1, (.box [(.l enc_GPair x10_2.Bound), (.l (encI .u32) x10_2.Sets), (.i x10_2.End)]))] (Ost rfl) <| Nk 488 3 ⟨tp 3 (.own 0::tp 1 (.loc 1 0::.l enc_GWait p0::.i ((List.length p0 : Nat) : Int)::.i y8_1::tp 17 [])), [(Ar 42 3 enc_GWait y3_1), (.box [(.l enc_GPair x10_2.Bound), (.l (encI .u32) x10_2.Sets), (.i x10_2.End)])], 0⟩ <| Adr <| Wm (.own 0) rfl <| Wz (.loc 1 0) (Ofa rfl) <| Wz (.l enc_GPair x10_2.Bound) (Old rfl) ?_
   obtain ⟨r15_3, hr15_3, hm⟩ := bnd hm
   refine Wy (.l enc_GPair r15_3) [(2, (Ar 71 6 enc_GPair r15_3)), (2, (.fro 71 6 (List.length r15_3) (flatD enc_GPair r15_3)))] (Ofz [2] (.own 2) [(2, (Ar 71 6 enc_GPair r15_3))] (Ocf [] [2] [] 0 (ok_slices_Clone_Pair x10_2.Bound r15_3 hr15_3) (fun a w => Try.call27 a w) rfl trivial)) <| Wz (.loc 1 1) (Ofa rfl) <| Wz (.l (encI .u32) x10_2.Sets) (Old rfl) ?_
   obtain ⟨r18_3, hr18_3, hm⟩ := bnd hm
   refine Wy (.l (encI .u32) r18_3) [(3, (.arr 25 1 (List.length r18_3) (flatD (encI .u32) r18_3))), (3, (.fro 25 1 (List.length r18_3) (flatD (encI .u32) r18_3)))] (Ofz [3] (.own 3) [(3, (.arr 25 1 (List.length r18_3) (flatD (encI .u32) r18_3)))] (Ocf [] [3] [] 0 (ok_slices_Clone_uint32 x10_2.Sets r18_3 hr18_3) (fun a w => Try.call45 a w) rfl trivial)) <| Wz (.loc 1 2) (Ofa rfl) <| Wz (.i x10_2.End) (Old rfl) <| Wz (.agg [(.l enc_GPair r15_3), (.l (encI .u32) r18_3), (.i x10_2.End)]) (Obd rfl) <| Wy (.own 4) [(4, (Ar 42 3 enc_GWait ([(GWait.mk r15_3 r18_3 x10_2.End)] : List GWait)))] (Obs rfl) ?_
   obtain ⟨a23_3, ha23_3, hm⟩ := bnd hm; obtain ⟨ha23_3e, ha23_3l⟩ := app_some ha23_3
   refine Wy (.own 5) [(0, .gone), (5, (Ar 42 3 enc_GWait a23_3))] (Oap rfl elemOK_33 enc_GWait_len ha23_3e ha23_3l) <| Wm (.own 5) rfl <| Wdr <| Ino <| Tk 456 32 ⟨tp 3 (.own 5::tp 2 (.l enc_GWait p0::.i ((List.length p0 : Nat) : Int)::.i y8_1::tp 17 [])), [.gone, .gone, .gone, .gone, .gone, (Ar 42 3 enc_GWait a23_3)], 0⟩ <| Tx <| Wz (.i (W6 (y8_1 + 1))) (Obn rfl (fun _ => hb_add (k := .i64))) <| Wm (.i (W6 (y8_1 + 1))) rfl <| Wn0 <| RoundK.normal ?_
   exact Rounds.weak (Weak.toK 456 0 0 [5]) (ih_1 (fu_1, a23_3, (W6 (y8_1 + 1))) hm (Nat.lt_succ_self _))
  ·
   replace hm := cF hc9_4 hm
   refine AiF hc9_4 <| AWP.exit <| Then.exit <| RoundK.exit <| InBlock.same <| Tk 8 1 ⟨tp 3 (.own 0::tp 22 []), [(Ar 42 3 enc_GWait y3_1)], 0⟩ <| Sx <| Wm (.own 0) rfl <| Wm (.own 0) rfl <| Nn <| Rt ?_
   obtain rfl := Option.some.inj hm
   exact ret_i [0]

theorem ok_event_Event_ID (p0 : GEvent) (r : GID) (h : m_event_Event_ID p0 = some r) : GCall Try.prog 50 [(.agg [(.i p0.Time), (.i p0.Source), (.i p0.Seq), (.s p0.Type_), (.l enc_GValue p0.Vals)])] [] (.agg [(.i r.Time), (.i r.Source), (.i r.Seq)]) [] := by
 refine GCall.of_body (n := 10) (rs := [(.cell 2 102)]) Try.func50 rfl rfl rfl <| Ato ⟨.agg [(.i p0.Time), (.i p0.Source), (.i p0.Seq), (.s p0.Type_), (.l enc_GValue p0.Vals)]::tu 9 [], [], 0⟩ ?_
 have hm := h
 unfold m_event_Event_ID at hm
 refine Sx <| Wy (.loc 0 0) [(0, (.box [(.i p0.Time), (.i p0.Source), (.i p0.Seq), (.s p0.Type_), (.l enc_GValue p0.Vals)]))] (Obx rfl) <| Wy (.loc 1 0) [(1, (.box [(.i 0), (.i 0), (.i 0)]))] (Oal rfl) <| Nk 6 3 ⟨tp 1 (.loc 0 0::.loc 1 0::tp 7 []), [(.box [(.i p0.Time), (.i p0.Source), (.i p0.Seq), (.s p0.Type_), (.l enc_GValue p0.Vals)]), (.box [(.i 0), (.i 0), (.i 0)])], 0⟩ <| Sx <| Wz (.loc 0 0) (Ofa rfl) <| Wz (.i p0.Time) (Old rfl) <| Wz (.loc 0 1) (Ofa rfl) <| Wz (.i p0.Source) (Old rfl) <| Wz (.loc 0 2) (Ofa rfl) <| Wz (.i p0.Seq) (Old rfl) <| Wz (.agg [(.i p0.Time), (.i p0.Source), (.i p0.Seq)]) (Obd rfl) <| Wy (.tup []) [(1, (.box [(.i p0.Time), (.i p0.Source), (.i p0.Seq)]))] (Ost rfl) <| Nn ?_
 refine Rt ?_
 obtain rfl := Option.some.inj hm
 exact ret_i []

theorem ok_cmp_isNaN_int (p0 : Int) (r : Bool) (h : m_cmp_isNaN_int p0 = some r) : GCall Try.prog 49 [(.i p0)] [] (.b r) [] := by
 refine GCall.of_body (n := 6) (rs := [(.tmp 2)]) Try.func49 rfl rfl rfl <| Ato ⟨.i p0::tu 5 [], [], 0⟩ ?_
 have hm := h
 unfold m_cmp_isNaN_int at hm
 refine Sx <| Wm (.b false) rfl <| Nk 1 0 ⟨.i p0::tp 5 [], [], 0⟩ <| Sx <| Wm (.i p0) rfl <| Wm (.i p0) rfl <| Wz (.b (decide (p0 ≠ p0))) (Obn rfl (fun _ => hb_neq (k := .i64))) <| Wm (.b (decide (p0 ≠ p0))) rfl <| Nn <| Rt ?_
 obtain rfl := Option.some.inj hm
 exact ret_i []

theorem ok_cmp_Compare_int (p0 : Int) (p1 : Int) (r : Int) (h : m_cmp_Compare_int p0 p1 = some r) : GCall Try.prog 35 [(.i p0), (.i p1)] [] (.i r) [] := by
 refine GCall.of_body (n := 20) (rs := [(.tmp 4)]) Try.func35 rfl rfl rfl <| Ato ⟨.i p0::.i p1::tu 18 [], [], 0⟩ ?_
 have hm := h
 unfold m_cmp_Compare_int at hm
 refine Sx <| Wm (.i 0) rfl <| Nk 3 0 ⟨.i p0::.i p1::tp 18 [], [], 0⟩ <| Sx <| Wm (.i p0) rfl ?_
 obtain ⟨r8_0, hr8_0, hm⟩ := bnd hm
 refine Wz (.b r8_0) (Ocf [] [] [] 0 (ok_cmp_isNaN_int p0 r8_0 hr8_0) (fun a w => Try.call49 a w) rfl trivial) <| Wm (.b r8_0) rfl <| Nk 35 0 ⟨.i p0::.i p1::tp 3 (.b r8_0::tp 14 []), [], 0⟩ <| Sx <| Wm (.i p1) rfl ?_
 obtain ⟨r10_1, hr10_1, hm⟩ := bnd hm
 refine Wz (.b r10_1) (Ocf [] [] [] 0 (ok_cmp_isNaN_int p1 r10_1 hr10_1) (fun a w => Try.call49 a w) rfl trivial) <| Wm (.b r10_1) rfl <| Nk 99 0 ⟨.i p0::.i p1::tp 3 (.b r8_0::.b r10_1::tp 13 []), [], 0⟩ <| Sq <| Sx <| Wm (.b r8_0) rfl <| Nk 2115 0 ⟨.i p0::.i p1::tp 4 (.b r10_1::tp 4 (.b r8_0::tp 8 [])), [], 0⟩ ?_
 rcases tf_ r8_0 with hc11_2 | hc11_2
 ·
  replace hm := cT hc11_2 hm
  refine AiT hc11_2 <| Sq <| Sx <| Wm (.b r10_1) rfl <| Nk 4096 0 ⟨tp 12 (.b r10_1::tp 7 []), [], 0⟩ ?_
  rcases tf_ r10_1 with hc12_3 | hc12_3
  ·
   replace hm := cT hc12_3 hm
   refine AiT hc12_3 <| Sx <| Wm (.i 0) rfl <| Nn <| Rt <| Tr <| Tr ?_
   obtain rfl := Option.some.inj hm
   exact ret_i []
  ·
   replace hm := cF hc12_3 hm
   refine AiF hc12_3 <| Sk <| Tk 0 0 ⟨tp 20 [], [], 0⟩ <| Sx <| Wm (.i (-1)) rfl <| Nn <| Rt <| Tr ?_
   obtain rfl := Option.some.inj hm
   exact ret_i []
 ·
  replace hm := cF hc11_2 hm
  refine AiF hc11_2 <| Sk <| Tk 67 0 ⟨.i p0::.i p1::tp 4 (.b r10_1::tp 13 []), [], 0⟩ <| Sq <| Sx <| Wm (.b r10_1) rfl <| Nk 8195 0 ⟨.i p0::.i p1::tp 11 (.b r10_1::tp 6 []), [], 0⟩ ?_
  rcases tf_ r10_1 with hc13_4 | hc13_4
  ·
   replace hm := cT hc13_4 hm
   refine AiT hc13_4 <| Sx <| Wm (.i 1) rfl <| Nn <| Rt <| Tr ?_
   obtain rfl := Option.some.inj hm
   exact ret_i []
  ·
   replace hm := cF hc13_4 hm
   refine AiF hc13_4 <| Sk <| Tk 3 0 ⟨.i p0::.i p1::tp 18 [], [], 0⟩ <| Sq <| Sx <| Wm (.i p0) rfl <| Wm (.i p1) rfl <| Wz (.b (decide (p0 < p1))) (Obn rfl (fun _ => hb_lss (k := .i64))) <| Nk 65539 0 ⟨.i p0::.i p1::tp 14 (.b (decide (p0 < p1))::tp 3 []), [], 0⟩ ?_
   rcases tf_ (decide (p0 < p1)) with hc16_5 | hc16_5
   ·
    replace hm := cT hc16_5 hm
    refine AiT hc16_5 <| Sx <| Wm (.i (-1)) rfl <| Nn <| Rt <| Tr ?_
    obtain rfl := Option.some.inj hm
    exact ret_i []
   ·
    replace hm := cF hc16_5 hm
    refine AiF hc16_5 <| Sk <| Tk 3 0 ⟨.i p0::.i p1::tp 18 [], [], 0⟩ <| Sq <| Sx <| Wm (.i p0) rfl <| Wm (.i p1) rfl <| Wz (.b (decide (p1 < p0))) (Obn rfl (fun _ => hb_gtr (k := .i64))) <| Nk 524288 0 ⟨tp 19 (.b (decide (p1 < p0))::[]), [], 0⟩ ?_
    rcases tf_ (decide (p1 < p0)) with hc19_6 | hc19_6
    ·
     replace hm := cT hc19_6 hm
     refine AiT hc19_6 <| Sx <| Wm (.i 1) rfl <| Nn <| Rt <| Tr ?_
     obtain rfl := Option.some.inj hm
     exact ret_i []
    ·
     replace hm := cF hc19_6 hm
     refine AiF hc19_6 <| Sk <| Tk 0 0 ⟨tp 20 [], [], 0⟩ <| Sx <| Wm (.i 0) rfl <| Nn <| Rt ?_
     obtain rfl := Option.some.inj hm
     exact ret_i []

theorem ok_cmp_isNaN_string (p0 : (List UInt8)) (r : Bool) (h : m_cmp_isNaN_string p0 = some r) : GCall Try.prog 67 [(.s p0)] [] (.b r) [] := by
 refine GCall.of_body (n := 6) (rs := [(.tmp 2)]) Try.func67 rfl rfl rfl <| Ato ⟨.s p0::tu 5 [], [], 0⟩ ?_
 have hm := h
 unfold m_cmp_isNaN_string at hm
 refine Sx <| Wm (.b false) rfl <| Nk 1 0 ⟨.s p0::tp 5 [], [], 0⟩ <| Sx <| Wm (.s p0) rfl <| Wm (.s p0) rfl <| Wz (.b (decide (p0 ≠ p0))) (Ocs (lit_tf (by simp only [toS_inj, ne_eq])) (op_bin rfl (a1 := .string (toS p0)) (a2 := .string (toS p0)) (by kernel_rfl) (by kernel_rfl) (fun _ => hb_sneq))) <| Wm (.b (decide (p0 ≠ p0))) rfl <| Nn <| Rt ?_
 obtain rfl := Option.some.inj hm
 exact ret_i []

theorem ok_cmp_Compare_string (p0 : (List UInt8)) (p1 : (List UInt8)) (r : Int) (h : m_cmp_Compare_string p0 p1 = some r) : GCall Try.prog 51 [(.s p0), (.s p1)] [] (.i r) [] := by
 refine GCall.of_body (n := 20) (rs := [(.tmp 4)]) Try.func51 rfl rfl rfl <| Ato ⟨.s p0::.s p1::tu 18 [], [], 0⟩ ?_
 have hm := h
 unfold m_cmp_Compare_string at hm
 refine Sx <| Wm (.i 0) rfl <| Nk 3 0 ⟨.s p0::.s p1::tp 18 [], [], 0⟩ <| Sx <| Wm (.s p0) rfl ?_
 obtain ⟨r8_0, hr8_0, hm⟩ := bnd hm
 refine Wz (.b r8_0) (Ocf [] [] [] 0 (ok_cmp_isNaN_string p0 r8_0 hr8_0) (fun a w => Try.call67 a w) rfl trivial) <| Wm (.b r8_0) rfl <| Nk 35 0 ⟨.s p0::.s p1::tp 3 (.b r8_0::tp 14 []), [], 0⟩ <| Sx <| Wm (.s p1) rfl ?_
 obtain ⟨r10_1, hr10_1, hm⟩ := bnd hm
 refine Wz (.b r10_1) (Ocf [] [] [] 0 (ok_cmp_isNaN_string p1 r10_1 hr10_1) (fun a w => Try.call67 a w) rfl trivial) <| Wm (.b r10_1) rfl <| Nk 99 0 ⟨.s p0::.s p1::tp 3 (.b r8_0::.b r10_1::tp 13 []), [], 0⟩ <| Sq <| Sx <| Wm (.b r8_0) rfl <| Nk 2115 0 ⟨.s p0::.s p1::tp 4 (.b r10_1::tp 4 (.b r8_0::tp 8 [])), [], 0⟩ ?_
 rcases tf_ r8_0 with hc11_2 | hc11_2
 ·
  replace hm := cT hc11_2 hm
  refine AiT hc11_2 <| Sq <| Sx <| Wm (.b r10_1) rfl <| Nk 4096 0 ⟨tp 12 (.b r10_1::tp 7 []), [], 0⟩ ?_
  rcases tf_ r10_1 with hc12_3 | hc12_3
  ·
   replace hm := cT hc12_3 hm
   refine AiT hc12_3 <| Sx <| Wm (.i 0) rfl <| Nn <| Rt <| Tr <| Tr ?_
   obtain rfl := Option.some.inj hm
   exact ret_i []
  ·
   replace hm := cF hc12_3 hm
   refine AiF hc12_3 <| Sk <| Tk 0 0 ⟨tp 20 [], [], 0⟩ <| Sx <| Wm (.i (-1)) rfl <| Nn <| Rt <| Tr ?_
   obtain rfl := Option.some.inj hm
   exact ret_i []
 ·
  replace hm := cF hc11_2 hm
  refine AiF hc11_2 <| Sk <| Tk 67 0 ⟨.s p0::.s p1::tp 4 (.b r10_1::tp 13 []), [], 0⟩ <| Sq <| Sx <| Wm (.b r10_1) rfl <| Nk 8195 0 ⟨.s p0::.s p1::tp 11 (.b r10_1::tp 6 []), [], 0⟩ ?_
  rcases tf_ r10_1 with hc13_4 | hc13_4
  ·
   replace hm := cT hc13_4 hm
   refine AiT hc13_4 <| Sx <| Wm (.i 1) rfl <| Nn <| Rt <| Tr ?_
   obtain rfl := Option.some.inj hm
   exact ret_i []
  ·
   replace hm := cF hc13_4 hm
   refine AiF hc13_4 <| Sk <| Tk 3 0 ⟨.s p0::.s p1::tp 18 [], [], 0⟩ <| Sq <| Sx <| Wm (.s p0) rfl <| Wm (.s p1) rfl <| Wz (.b (ltS p0 p1)) (op_bin rfl (a1 := .string (toS p0)) (a2 := .string (toS p1)) (by kernel_rfl) (by kernel_rfl) (fun _ => hb_tlss)) <| Nk 65539 0 ⟨.s p0::.s p1::tp 14 (.b (ltS p0 p1)::tp 3 []), [], 0⟩ ?_
   rcases tf_ (ltS p0 p1) with hc16_5 | hc16_5
   ·
    replace hm := cT hc16_5 hm
    refine AiT hc16_5 <| Sx <| Wm (.i (-1)) rfl <| Nn <| Rt <| Tr ?_
    obtain rfl := Option.some.inj hm
    exact ret_i []
   ·
    replace hm := cF hc16_5 hm
    refine AiF hc16_5 <| Sk <| Tk 3 0 ⟨.s p0::.s p1::tp 18 [], [], 0⟩ <| Sq <| Sx <| Wm (.s p0) rfl <| Wm (.s p1) rfl <| Wz (.b (gtS p0 p1)) (op_bin rfl (a1 := .string (toS p0)) (a2 := .string (toS p1)) (by kernel_rfl) (by kernel_rfl) (fun _ => hb_tgtr)) <| Nk 524288 0 ⟨tp 19 (.b (gtS p0 p1)::[]), [], 0⟩ ?_
    rcases tf_ (gtS p0 p1) with hc19_6 | hc19_6
    ·
     replace hm := cT hc19_6 hm
     refine AiT hc19_6 <| Sx <| Wm (.i 1) rfl <| Nn <| Rt <| Tr ?_
     obtain rfl := Option.some.inj hm
     exact ret_i []
    ·
     replace hm := cF hc19_6 hm
     refine AiF hc19_6 <| Sk <| Tk 0 0 ⟨tp 20 [], [], 0⟩ <| Sx <| Wm (.i 0) rfl <| Nn <| Rt ?_
     obtain rfl := Option.some.inj hm
     exact ret_i []

theorem ok_cmp_Or_int (p0 : (List Int)) (r : Int) (h : m_cmp_Or_int p0 = some r) : GCall Try.prog 34 [(.l (encI .i64) p0)] [] (.i r) [] := by
 refine GCall.of_body (n := 18) (rs := [(.tmp 2)]) Try.func34 rfl rfl rfl <| Ato ⟨.l (encI .i64) p0::tu 17 [], [], 0⟩ ?_
 have hm := h
 unfold m_cmp_Or_int at hm
 refine Sx <| Wm (.i 0) rfl <| Nk 1 0 ⟨.l (encI .i64) p0::tp 17 [], [], 0⟩ <| Sx <| Wm (.i 0) rfl <| Nk 9 0 ⟨.l (encI .i64) p0::tp 2 (.i 0::tp 14 []), [], 0⟩ <| Sq <| Sx <| Wm (.l (encI .i64) p0) rfl <| Wz (.i ((List.length p0 : Nat) : Int)) (Oln rfl) <| Wm (.i 0) rfl <| Nk 456 0 ⟨tp 3 (.i 0::tp 2 (.l (encI .i64) p0::.i ((List.length p0 : Nat) : Int)::.i 0::tp 9 [])), [], 0⟩ <| Bk ?_
 refine AWP.loopI (α := Nat × Int)
   (fun (fu_1, y8_1) => (⟨tp 3 (.i 0::tp 2 (.l (encI .i64) p0::.i ((List.length p0 : Nat) : Int)::.i y8_1::tp 9 [])), [], 0⟩ : St))
   (fun (fu_1, y8_1) => m_cmp_Or_int_l1 p0 fu_1 y8_1 = some r)
   (fun (fu_1, y8_1) => fu_1) (1152921504606846976, 0)
   (Weak.toK 456 0 0 []) hm ?_
 rintro ⟨fu_1, y8_1⟩ n_1 hm ih_1
 try dsimp only at hm ih_1 ⊢
 cases fu_1 with
 | zero => exact absurd hm (by unfold m_cmp_Or_int_l1; simp)
 | succ fu_1 =>
  unfold m_cmp_Or_int_l1 at hm
  refine Sx <| Wz (.b (decide (y8_1 < ((List.length p0 : Nat) : Int)))) (Obn rfl (fun _ => hb_lss (k := .i64))) <| Nk 968 0 ⟨tp 3 (.i 0::tp 2 (.l (encI .i64) p0::.i ((List.length p0 : Nat) : Int)::.i y8_1::.b (decide (y8_1 < ((List.length p0 : Nat) : Int)))::tp 8 [])), [], 0⟩ <| Sq ?_
  rcases tf_ (decide (y8_1 < ((List.length p0 : Nat) : Int))) with hc9_3 | hc9_3
  ·
   replace hm := cT hc9_3 hm
   refine AiT hc9_3 <| Sk <| Tk 456 0 ⟨tp 3 (.i 0::tp 2 (.l (encI .i64) p0::.i ((List.length p0 : Nat) : Int)::.i y8_1::tp 9 [])), [], 0⟩ <| Sq <| Bk <| Sx ?_
   obtain ⟨x10_2, hx10_2, hm⟩ := bnd hm
   obtain ⟨hx10_2i, hx10_2g⟩ := geti_some hx10_2
   refine Wz (.d (.ref (List.drop ((Int.toNat y8_1) * 1) (flatD (encI .i64) p0)))) (Oia rfl (encI_len (k := .i64)) hx10_2i hx10_2g) <| Wz (.i x10_2) (Lf1 rfl (encI_len (k := .i64)) hx10_2g) <| Wm (.i x10_2) rfl <| Nk 488 0 ⟨tp 3 (.i 0::tp 1 (.i x10_2::.l (encI .i64) p0::.i ((List.length p0 : Nat) : Int)::.i y8_1::tp 9 [])), [], 0⟩ <| Sx <| Wm (.i x10_2) rfl <| Wm (.i 0) rfl <| Wz (.b (decide (x10_2 ≠ 0))) (Obn rfl (fun _ => hb_neq (k := .i64))) <| Nk 16872 0 ⟨tp 3 (.i 0::tp 1 (.i x10_2::.l (encI .i64) p0::.i ((List.length p0 : Nat) : Int)::.i y8_1::tp 5 (.b (decide (x10_2 ≠ 0))::tp 3 []))), [], 0⟩ ?_
   rcases tf_ (decide (x10_2 ≠ 0)) with hc14_4 | hc14_4
   ·
    replace hm := cT hc14_4 hm
    refine AiT hc14_4 <| Sx <| Wm (.i x10_2) rfl <| Wm (.i x10_2) rfl <| Nn <| Rt <| Ir <| Tr <| RoundK.ret <| Ir <| Tr ?_
    obtain rfl := Option.some.inj hm
    exact ret_i []
   ·
    replace hm := cF hc14_4 hm
    refine AiF hc14_4 <| Sk <| Ino <| Tk 456 0 ⟨tp 3 (.i 0::tp 2 (.l (encI .i64) p0::.i ((List.length p0 : Nat) : Int)::.i y8_1::tp 9 [])), [], 0⟩ <| Tx <| Wz (.i (W6 (y8_1 + 1))) (Obn rfl (fun _ => hb_add (k := .i64))) <| Wm (.i (W6 (y8_1 + 1))) rfl <| Wn0 <| RoundK.normal ?_
    exact Rounds.weak (Weak.toK 456 0 0 []) (ih_1 (fu_1, (W6 (y8_1 + 1))) hm (Nat.lt_succ_self _))
  ·
   replace hm := cF hc9_3 hm
   refine AiF hc9_3 <| AWP.exit <| Then.exit <| RoundK.exit <| InBlock.same <| Tk 8 0 ⟨tp 3 (.i 0::tp 14 []), [], 0⟩ <| Sx <| Wm (.i 0) rfl <| Wm (.i 0) rfl <| Nn <| Rt ?_
   obtain rfl := Option.some.inj hm
   exact ret_i []

theorem ok_bind_order (p0 : GPair) (p1 : GPair) (r : Int) (h : m_bind_order p0 p1 = some r) : GCall Try.prog 40 [(.agg [(.s p0.Var), (.i p0.E.Time), (.i p0.E.Source), (.i p0.E.Seq), (.s p0.E.Type_), (.l enc_GValue p0.E.Vals)]), (.agg [(.s p1.Var), (.i p1.E.Time), (.i p1.E.Source), (.i p1.E.Seq), (.s p1.E.Type_), (.l enc_GValue p1.E.Vals)])] [] (.i r) [] := by
 refine GCall.of_body (n := 35) (rs := [(.tmp 4)]) Try.func40 rfl rfl rfl <| Ato ⟨.agg [(.s p0.Var), (.i p0.E.Time), (.i p0.E.Source), (.i p0.E.Seq), (.s p0.E.Type_), (.l enc_GValue p0.E.Vals)]::.agg [(.s p1.Var), (.i p1.E.Time), (.i p1.E.Source), (.i p1.E.Seq), (.s p1.E.Type_), (.l enc_GValue p1.E.Vals)]::tu 33 [], [], 0⟩ ?_
 have hm := h
 unfold m_bind_order at hm
 refine Sx <| Wy (.loc 0 0) [(0, (.box [(.s p0.Var), (.i p0.E.Time), (.i p0.E.Source), (.i p0.E.Seq), (.s p0.E.Type_), (.l enc_GValue p0.E.Vals)]))] (Obx rfl) <| Wy (.loc 1 0) [(1, (.box [(.s p1.Var), (.i p1.E.Time), (.i p1.E.Source), (.i p1.E.Seq), (.s p1.E.Type_), (.l enc_GValue p1.E.Vals)]))] (Obx rfl) <| Wm (.i 0) rfl <| Nk 12 3 ⟨tp 2 (.loc 0 0::.loc 1 0::tp 31 []), [(.box [(.s p0.Var), (.i p0.E.Time), (.i p0.E.Source), (.i p0.E.Seq), (.s p0.E.Type_), (.l enc_GValue p0.E.Vals)]), (.box [(.s p1.Var), (.i p1.E.Time), (.i p1.E.Source), (.i p1.E.Seq), (.s p1.E.Type_), (.l enc_GValue p1.E.Vals)])], 0⟩ <| Sq <| Adr <| Wz (.loc 0 1) (Ofa rfl) <| Wz (.agg [(.i p0.E.Time), (.i p0.E.Source), (.i p0.E.Seq), (.s p0.E.Type_), (.l enc_GValue p0.E.Vals)]) (Old rfl) ?_
 obtain ⟨r9_0, hr9_0, hm⟩ := bnd hm
 refine Wz (.agg [(.i r9_0.Time), (.i r9_0.Source), (.i r9_0.Seq)]) (Ocf [] [] [] 0 (ok_event_Event_ID p0.E r9_0 hr9_0) (fun a w => Try.call50 a w) rfl trivial) <| Wz (.loc 1 1) (Ofa rfl) <| Wz (.agg [(.i p1.E.Time), (.i p1.E.Source), (.i p1.E.Seq), (.s p1.E.Type_), (.l enc_GValue p1.E.Vals)]) (Old rfl) ?_
 obtain ⟨r12_0, hr12_0, hm⟩ := bnd hm
 refine Wz (.agg [(.i r12_0.Time), (.i r12_0.Source), (.i r12_0.Seq)]) (Ocf [] [] [] 0 (ok_event_Event_ID p1.E r12_0 hr12_0) (fun a w => Try.call50 a w) rfl trivial) <| Wy (.loc 2 0) [(2, (.box [(.i 0), (.i 0), (.i 0)]))] (Oal rfl) <| Wy (.loc 3 0) [(3, (.box [(.i 0), (.i 0), (.i 0)]))] (Oal rfl) <| Wy (.tup []) [(2, (.box [(.i r9_0.Time), (.i r9_0.Source), (.i r9_0.Seq)]))] (Ost rfl) <| Wy (.tup []) [(3, (.box [(.i r12_0.Time), (.i r12_0.Source), (.i r12_0.Seq)]))] (Ost rfl) <| Wdr <| Tk 108 15 ⟨tp 2 (.loc 0 0::.loc 1 0::tp 1 (.loc 2 0::.loc 3 0::tp 28 [])), [(.box [(.s p0.Var), (.i p0.E.Time), (.i p0.E.Source), (.i p0.E.Seq), (.s p0.E.Type_), (.l enc_GValue p0.E.Vals)]), (.box [(.s p1.Var), (.i p1.E.Time), (.i p1.E.Source), (.i p1.E.Seq), (.s p1.E.Type_), (.l enc_GValue p1.E.Vals)]), (.box [(.i r9_0.Time), (.i r9_0.Source), (.i r9_0.Seq)]), (.box [(.i r12_0.Time), (.i r12_0.Source), (.i r12_0.Seq)])], 0⟩ <| Sq <| Adr <| Wz (.loc 2 0) (Ofa rfl) <| Wz (.i r9_0.Time) (Old rfl) <| Wz (.loc 3 0) (Ofa rfl) <| Wz (.i r12_0.Time) (Old rfl) ?_
 obtain ⟨r17_1, hr17_1, hm⟩ := bnd hm
 refine Wz (.i r17_1) (Ocf [] [] [] 0 (ok_cmp_Compare_int r9_0.Time r12_0.Time r17_1 hr17_1) (fun a w => Try.call35 a w) rfl trivial) <| Wz (.loc 2 1) (Ofa rfl) <| Wz (.i r9_0.Source) (Old rfl) <| Wz (.loc 3 1) (Ofa rfl) <| Wz (.i r12_0.Source) (Old rfl) ?_
 obtain ⟨r22_1, hr22_1, hm⟩ := bnd hm
 refine Wz (.i r22_1) (Ocf [] [] [] 0 (ok_cmp_Compare_int r9_0.Source r12_0.Source r22_1 hr22_1) (fun a w => Try.call35 a w) rfl trivial) <| Wz (.loc 2 2) (Ofa rfl) <| Wz (.i r9_0.Seq) (Old rfl) <| Wz (.loc 3 2) (Ofa rfl) <| Wz (.i r12_0.Seq) (Old rfl) ?_
 obtain ⟨r27_1, hr27_1, hm⟩ := bnd hm
 refine Wz (.i r27_1) (Ocf [] [] [] 0 (ok_cmp_Compare_int r9_0.Seq r12_0.Seq r27_1 hr27_1) (fun a w => Try.call35 a w) rfl trivial) <| Wz (.loc 0 0) (Ofa rfl) <| Wz (.s p0.Var) (Old rfl) <| Wz (.loc 1 0) (Ofa rfl) <| Wz (.s p1.Var) (Old rfl) ?_
 obtain ⟨r32_1, hr32_1, hm⟩ := bnd hm
 refine Wz (.i r32_1) (Ocf [] [] [] 0 (ok_cmp_Compare_string p0.Var p1.Var r32_1 hr32_1) (fun a w => Try.call51 a w) rfl trivial) <| Wy (.own 4) [(4, (.arr 3 1 (List.length ([r17_1, r22_1, r27_1, r32_1] : List Int)) (flatD (encI .i64) ([r17_1, r22_1, r27_1, r32_1] : List Int))))] (Obs rfl) ?_
 obtain ⟨r34_1, hr34_1, hm⟩ := bnd hm
 refine Wz (.i r34_1) (Ocp [] [] [4] 0 (ok_cmp_Or_int ([r17_1, r22_1, r27_1, r32_1] : List Int) r34_1 hr34_1) (plain_triv (by simp [A.Plain, A.Plains, D.Plain, byteD])) (fun a w => Try.call34 a w) rfl trivial) <| Wm (.i r34_1) rfl <| Wdr <| Tn <| Rt ?_
 obtain rfl := Option.some.inj hm
 exact ret_i []

theorem ok_slices_CompareFunc_Pairbind_Pair_bind_Pair_bind_Pair__bind_order (p0 : (List GPair)) (p1 : (List GPair)) (r : Int) (h : m_slices_CompareFunc_Pairbind_Pair_bind_Pair_bind_Pair__bind_order p0 p1 = some r) : GCall Try.prog 39 [(.l enc_GPair p0), (.l enc_GPair p1), (.clo (.func 40) [] [])] [] (.i r) [] := by
 refine GCall.of_body (n := 39) (rs := [(.tmp 6)]) Try.func39 rfl rfl rfl <| Ato ⟨.l enc_GPair p0::.l enc_GPair p1::.clo (.func 40) [] []::tu 36 [], [], 0⟩ ?_
 have hm := h
 unfold m_slices_CompareFunc_Pairbind_Pair_bind_Pair_bind_Pair__bind_order at hm
 refine Sx <| Wm (.i 0) rfl <| Nk 7 0 ⟨.l enc_GPair p0::.l enc_GPair p1::.clo (.func 40) [] []::tp 36 [], [], 0⟩ <| Sq <| Sx <| Wm (.l enc_GPair p0) rfl <| Wz (.i ((List.length p0 : Nat) : Int)) (Oln rfl) <| Wm (.i 0) rfl <| Nk 14343 0 ⟨.l enc_GPair p0::.l enc_GPair p1::.clo (.func 40) [] []::tp 8 (.l enc_GPair p0::.i ((List.length p0 : Nat) : Int)::.i 0::tp 25 []), [], 0⟩ <| Bk ?_
 refine AWP.loopI (α := Nat × Int)
   (fun (fu_1, y13_1) => (⟨.l enc_GPair p0::.l enc_GPair p1::.clo (.func 40) [] []::tp 8 (.l enc_GPair p0::.i ((List.length p0 : Nat) : Int)::.i y13_1::tp 25 []), [], 0⟩ : St))
   (fun (fu_1, y13_1) => m_slices_CompareFunc_Pairbind_Pair_bind_Pair_bind_Pair__bind_order_l1 p0 p1 fu_1 y13_1 = some r)
   (fun (fu_1, y13_1) => fu_1) (1152921504606846976, 0)
   (Weak.toK 14343 0 0 []) hm ?_
 rintro ⟨fu_1, y13_1⟩ n_1 hm ih_1
 try dsimp only at hm ih_1 ⊢
 cases fu_1 with
 | zero => exact absurd hm (by unfold m_slices_CompareFunc_Pairbind_Pair_bind_Pair_bind_Pair__bind_order_l1; simp)
 | succ fu_1 =>
  unfold m_slices_CompareFunc_Pairbind_Pair_bind_Pair_bind_Pair__bind_order_l1 at hm
  refine Sx <| Wz (.b (decide (y13_1 < ((List.length p0 : Nat) : Int)))) (Obn rfl (fun _ => hb_lss (k := .i64))) <| Nk 30727 0 ⟨.l enc_GPair p0::.l enc_GPair p1::.clo (.func 40) [] []::tp 8 (.l enc_GPair p0::.i ((List.length p0 : Nat) : Int)::.i y13_1::.b (decide (y13_1 < ((List.length p0 : Nat) : Int)))::tp 24 []), [], 0⟩ <| Sq ?_
  rcases tf_ (decide (y13_1 < ((List.length p0 : Nat) : Int))) with hc14_7 | hc14_7
  ·
   replace hm := cT hc14_7 hm
   refine AiT hc14_7 <| Sk <| Tk 14343 0 ⟨.l enc_GPair p0::.l enc_GPair p1::.clo (.func 40) [] []::tp 8 (.l enc_GPair p0::.i ((List.length p0 : Nat) : Int)::.i y13_1::tp 25 []), [], 0⟩ <| Sq <| Bk <| Sx <| Wm (.i y13_1) rfl ?_
   obtain ⟨x16_2, hx16_2, hm⟩ := bnd hm
   obtain ⟨hx16_2i, hx16_2g⟩ := geti_some hx16_2
   refine Wz (.d (.ref (List.drop ((Int.toNat y13_1) * 6) (flatD enc_GPair p0)))) (Oia rfl enc_GPair_len hx16_2i hx16_2g) <| Wz (.agg [(.s x16_2.Var), (.i x16_2.E.Time), (.i x16_2.E.Source), (.i x16_2.E.Seq), (.s x16_2.E.Type_), (.l enc_GValue x16_2.E.Vals)]) (Lf rfl enc_GPair_len hx16_2g) <| Wy (.loc 0 0) [(0, (.box [(.s ([] : List UInt8)), (.i 0), (.i 0), (.i 0), (.s ([] : List UInt8)), (.d .nil)]))] (Oal rfl) <| Wm (.i y13_1) rfl <| Wy (.tup []) [(0, (.box [(.s x16_2.Var), (.i x16_2.E.Time), (.i x16_2.E.Source), (.i x16_2.E.Seq), (.s x16_2.E.Type_), (.l enc_GValue x16_2.E.Vals)]))] (Ost rfl) <| Nk 14727 1 ⟨.l enc_GPair p0::.l enc_GPair p1::.clo (.func 40) [] []::tp 4 (.i y13_1::.loc 0 0::tp 2 (.l enc_GPair p0::.i ((List.length p0 : Nat) : Int)::.i y13_1::tp 25 [])), [(.box [(.s x16_2.Var), (.i x16_2.E.Time), (.i x16_2.E.Source), (.i x16_2.E.Seq), (.s x16_2.E.Type_), (.l enc_GValue x16_2.E.Vals)])], 0⟩ <| Sq <| Sx <| Wm (.i y13_1) rfl <| Wm (.l enc_GPair p1) rfl <| Wz (.i ((List.length p1 : Nat) : Int)) (Oln rfl) <| Wz (.b (decide (((List.length p1 : Nat) : Int) ≤ y13_1))) (Obn rfl (fun _ => hb_geq (k := .i64))) <| Nk 2111879 1 ⟨.l enc_GPair p0::.l enc_GPair p1::.clo (.func 40) [] []::tp 4 (.i y13_1::.loc 0 0::tp 2 (.l enc_GPair p0::.i ((List.length p0 : Nat) : Int)::.i y13_1::tp 7 (.b (decide (((List.length p1 : Nat) : Int) ≤ y13_1))::tp 17 []))), [(.box [(.s x16_2.Var), (.i x16_2.E.Time), (.i x16_2.E.Source), (.i x16_2.E.Seq), (.s x16_2.E.Type_), (.l enc_GValue x16_2.E.Vals)])], 0⟩ ?_
   rcases tf_ (decide (((List.length p1 : Nat) : Int) ≤ y13_1)) with hc21_8 | hc21_8
   ·
    replace hm := cT hc21_8 hm
    refine AiT hc21_8 <| Sx <| Wm (.i 1) rfl <| Nn <| Rt <| Tr <| Ir <| Tr <| RoundK.ret <| Ir <| Tr ?_
    obtain rfl := Option.some.inj hm
    exact ret_i []
   ·
    replace hm := cF hc21_8 hm
    refine AiF hc21_8 <| Sk <| Tk 14727 1 ⟨.l enc_GPair p0::.l enc_GPair p1::.clo (.func 40) [] []::tp 4 (.i y13_1::.loc 0 0::tp 2 (.l enc_GPair p0::.i ((List.length p0 : Nat) : Int)::.i y13_1::tp 25 [])), [(.box [(.s x16_2.Var), (.i x16_2.E.Time), (.i x16_2.E.Source), (.i x16_2.E.Seq), (.s x16_2.E.Type_), (.l enc_GValue x16_2.E.Vals)])], 0⟩ <| Sx <| Wm (.l enc_GPair p1) rfl <| Wm (.i y13_1) rfl ?_
    obtain ⟨x24_4, hx24_4, hm⟩ := bnd hm
    obtain ⟨hx24_4i, hx24_4g⟩ := geti_some hx24_4
    refine Wz (.d (.ref (List.drop ((Int.toNat y13_1) * 6) (flatD enc_GPair p1)))) (Oia rfl enc_GPair_len hx24_4i hx24_4g) <| Wz (.agg [(.s x24_4.Var), (.i x24_4.E.Time), (.i x24_4.E.Source), (.i x24_4.E.Seq), (.s x24_4.E.Type_), (.l enc_GValue x24_4.E.Vals)]) (Lf rfl enc_GPair_len hx24_4g) <| Wy (.loc 1 0) [(1, (.box [(.s ([] : List UInt8)), (.i 0), (.i 0), (.i 0), (.s ([] : List UInt8)), (.d .nil)]))] (Oal rfl) <| Wy (.tup []) [(1, (.box [(.s x24_4.Var), (.i x24_4.E.Time), (.i x24_4.E.Source), (.i x24_4.E.Seq), (.s x24_4.E.Type_), (.l enc_GValue x24_4.E.Vals)]))] (Ost rfl) <| Nk 15111 3 ⟨.l enc_GPair p0::.l enc_GPair p1::.clo (.func 40) [] []::tp 5 (.loc 0 0::.loc 1 0::tp 1 (.l enc_GPair p0::.i ((List.length p0 : Nat) : Int)::.i y13_1::tp 25 [])), [(.box [(.s x16_2.Var), (.i x16_2.E.Time), (.i x16_2.E.Source), (.i x16_2.E.Seq), (.s x16_2.E.Type_), (.l enc_GValue x16_2.E.Vals)]), (.box [(.s x24_4.Var), (.i x24_4.E.Time), (.i x24_4.E.Source), (.i x24_4.E.Seq), (.s x24_4.E.Type_), (.l enc_GValue x24_4.E.Vals)])], 0⟩ <| Sx <| Wm (.clo (.func 40) [] []) rfl <| Wz (.agg [(.s x16_2.Var), (.i x16_2.E.Time), (.i x16_2.E.Source), (.i x16_2.E.Seq), (.s x16_2.E.Type_), (.l enc_GValue x16_2.E.Vals)]) (Old rfl) <| Wz (.agg [(.s x24_4.Var), (.i x24_4.E.Time), (.i x24_4.E.Source), (.i x24_4.E.Seq), (.s x24_4.E.Type_), (.l enc_GValue x24_4.E.Vals)]) (Old rfl) ?_
    obtain ⟨r29_5, hr29_5, hm⟩ := bnd hm
    refine Wz (.i r29_5) (Ocf [] [] [] 0 (ok_bind_order x16_2 x24_4 r29_5 hr29_5) (fun a w => Try.call40 a w) rfl trivial) <| Wm (.i r29_5) rfl <| Nk 15367 0 ⟨.l enc_GPair p0::.l enc_GPair p1::.clo (.func 40) [] []::tp 7 (.i r29_5::.l enc_GPair p0::.i ((List.length p0 : Nat) : Int)::.i y13_1::tp 25 []), [.gone, .gone], 0⟩ <| Sx <| Wm (.i r29_5) rfl <| Wz (.b (decide (r29_5 ≠ 0))) (Obn rfl (fun _ => hb_neq (k := .i64))) <| Nk 2147499015 0 ⟨.l enc_GPair p0::.l enc_GPair p1::.clo (.func 40) [] []::tp 7 (.i r29_5::.l enc_GPair p0::.i ((List.length p0 : Nat) : Int)::.i y13_1::tp 17 (.b (decide (r29_5 ≠ 0))::tp 7 [])), [.gone, .gone], 0⟩ ?_
    rcases tf_ (decide (r29_5 ≠ 0)) with hc31_9 | hc31_9
    ·
     replace hm := cT hc31_9 hm
     refine AiT hc31_9 <| Sx <| Wm (.i r29_5) rfl <| Wm (.i r29_5) rfl <| Nn <| Rt <| Ir <| Tr <| RoundK.ret <| Ir <| Tr ?_
     obtain rfl := Option.some.inj hm
     exact ret_i []
    ·
     replace hm := cF hc31_9 hm
     refine AiF hc31_9 <| Sk <| Ino <| Tk 14343 0 ⟨.l enc_GPair p0::.l enc_GPair p1::.clo (.func 40) [] []::tp 8 (.l enc_GPair p0::.i ((List.length p0 : Nat) : Int)::.i y13_1::tp 25 []), [.gone, .gone], 0⟩ <| Tx <| Wz (.i (W6 (y13_1 + 1))) (Obn rfl (fun _ => hb_add (k := .i64))) <| Wm (.i (W6 (y13_1 + 1))) rfl <| Wn0 <| RoundK.normal ?_
     exact Rounds.weak (Weak.toK 14343 0 0 []) (ih_1 (fu_1, (W6 (y13_1 + 1))) hm (Nat.lt_succ_self _))
  ·
   replace hm := cF hc14_7 hm
   refine AiF hc14_7 <| AWP.exit <| Then.exit <| RoundK.exit <| InBlock.same <| Tk 3 0 ⟨.l enc_GPair p0::.l enc_GPair p1::tp 37 [], [], 0⟩ <| Sq <| Sx <| Wm (.l enc_GPair p0) rfl <| Wz (.i ((List.length p0 : Nat) : Int)) (Oln rfl) <| Wm (.l enc_GPair p1) rfl <| Wz (.i ((List.length p1 : Nat) : Int)) (Oln rfl) <| Wz (.b (decide (((List.length p0 : Nat) : Int) < ((List.length p1 : Nat) : Int)))) (Obn rfl (fun _ => hb_lss (k := .i64))) <| Nk 274877906944 0 ⟨tp 38 (.b (decide (((List.length p0 : Nat) : Int) < ((List.length p1 : Nat) : Int)))::[]), [], 0⟩ ?_
   rcases tf_ (decide (((List.length p0 : Nat) : Int) < ((List.length p1 : Nat) : Int))) with hc38_10 | hc38_10
   ·
    replace hm := cT hc38_10 hm
    refine AiT hc38_10 <| Sx <| Wm (.i (-1)) rfl <| Nn <| Rt <| Tr ?_
    obtain rfl := Option.some.inj hm
    exact ret_i []
   ·
    replace hm := cF hc38_10 hm
    refine AiF hc38_10 <| Sk <| Tk 0 0 ⟨tp 39 [], [], 0⟩ <| Sx <| Wm (.i 0) rfl <| Nn <| Rt ?_
    obtain rfl := Option.some.inj hm
    exact ret_i []

theorem ok_bind_Rank (p0 : (List GPair)) (p1 : (List GPair)) (r : Int) (h : m_bind_Rank p0 p1 = some r) : GCall Try.prog 15 [(.l enc_GPair p0), (.l enc_GPair p1)] [] (.i r) [] := by
 refine GCall.of_body (n := 8) (rs := [(.tmp 4)]) Try.func15 rfl rfl rfl <| Ato ⟨.l enc_GPair p0::.l enc_GPair p1::tu 6 [], [], 0⟩ ?_
 have hm := h
 unfold m_bind_Rank at hm
 refine Sx <| Wm (.i 0) rfl <| Nk 3 0 ⟨.l enc_GPair p0::.l enc_GPair p1::tp 6 [], [], 0⟩ <| Sx <| Wm (.l enc_GPair p0) rfl <| Wm (.l enc_GPair p1) rfl ?_
 obtain ⟨r7_0, hr7_0, hm⟩ := bnd hm
 refine Wz (.i r7_0) (Ocf [] [] [] 0 (ok_slices_CompareFunc_Pairbind_Pair_bind_Pair_bind_Pair__bind_order p0 p1 r7_0 hr7_0) (fun a w => Try.call39 a w) rfl trivial) <| Wm (.i r7_0) rfl <| Nn <| Rt ?_
 obtain rfl := Option.some.inj hm
 exact ret_i []

theorem ok_trail_Trail_Add_1 (p0 : GWait) (p1 : GWait) (r : Bool) (h : m_trail_Trail_Add_1 p0 p1 = some r) : GCall Try.prog 25 [(.agg [(.l enc_GPair p0.Bound), (.l (encI .u32) p0.Sets), (.i p0.End)]), (.d (.ref [(.sl (List.length p1.Bound) (flatD enc_GPair p1.Bound)), (.sl (List.length p1.Sets) (flatD (encI .u32) p1.Sets)), (.lit (.int .i64 p1.End))]))] [] (.b r) [] := by
 refine GCall.of_body (n := 10) (rs := [(.tmp 3)]) Try.func25 rfl rfl rfl <| Ato ⟨.agg [(.l enc_GPair p0.Bound), (.l (encI .u32) p0.Sets), (.i p0.End)]::.d (.ref [(.sl (List.length p1.Bound) (flatD enc_GPair p1.Bound)), (.sl (List.length p1.Sets) (flatD (encI .u32) p1.Sets)), (.lit (.int .i64 p1.End))])::tu 8 [], [], 0⟩ ?_
 have hm := h
 unfold m_trail_Trail_Add_1 at hm
 refine Sx <| Wy (.loc 0 0) [(0, (.box [(.l enc_GPair p0.Bound), (.l (encI .u32) p0.Sets), (.i p0.End)]))] (Obx rfl) <| Wm (.b false) rfl <| Nk 6 1 ⟨tp 1 (.d (.ref [(.sl (List.length p1.Bound) (flatD enc_GPair p1.Bound)), (.sl (List.length p1.Sets) (flatD (encI .u32) p1.Sets)), (.lit (.int .i64 p1.End))])::.loc 0 0::tp 7 []), [(.box [(.l enc_GPair p0.Bound), (.l (encI .u32) p0.Sets), (.i p0.End)])], 0⟩ <| Sx <| Wz (.loc 0 0) (Ofa rfl) <| Wz (.l enc_GPair p0.Bound) (Old rfl) <| Wz (.d (.ref [(.sl (List.length p1.Bound) (flatD enc_GPair p1.Bound)), (.sl (List.length p1.Sets) (flatD (encI .u32) p1.Sets)), (.lit (.int .i64 p1.End))])) (Ofa rfl) <| Wz (.l enc_GPair p1.Bound) (Old rfl) ?_
 obtain ⟨r8_0, hr8_0, hm⟩ := bnd hm
 refine Wz (.i r8_0) (Ocf [] [] [] 0 (ok_bind_Rank p0.Bound p1.Bound r8_0 hr8_0) (fun a w => Try.call15 a w) rfl trivial) <| Wz (.b (decide (r8_0 = 0))) (Obn rfl (fun _ => hb_eql (k := .i64))) <| Wm (.b (decide (r8_0 = 0))) rfl <| Nn <| Rt ?_
 obtain rfl := Option.some.inj hm
 exact ret_i []

theorem ok_slices_IndexFunc_Wait__trail_Trail_Add_1 (p0 : (List GWait)) (p1c0 : GWait) (r : Int) (h : m_slices_IndexFunc_Wait__trail_Trail_Add_1 p0 p1c0 = some r) : GCall Try.prog 26 [(.l enc_GWait p0), (.clo (.func 25) [] [(.d (.ref [(.sl (List.length p1c0.Bound) (flatD enc_GPair p1c0.Bound)), (.sl (List.length p1c0.Sets) (flatD (encI .u32) p1c0.Sets)), (.lit (.int .i64 p1c0.End))]))])] [] (.i r) [] := by
 refine GCall.of_body (n := 19) (rs := [(.tmp 4)]) Try.func26 rfl rfl rfl <| Ato ⟨.l enc_GWait p0::.clo (.func 25) [] [(.d (.ref [(.sl (List.length p1c0.Bound) (flatD enc_GPair p1c0.Bound)), (.sl (List.length p1c0.Sets) (flatD (encI .u32) p1c0.Sets)), (.lit (.int .i64 p1c0.End))]))]::tu 17 [], [], 0⟩ ?_
 have hm := h
 unfold m_slices_IndexFunc_Wait__trail_Trail_Add_1 at hm
 refine Sx <| Wm (.i 0) rfl <| Nk 3 0 ⟨.l enc_GWait p0::.clo (.func 25) [] [(.d (.ref [(.sl (List.length p1c0.Bound) (flatD enc_GPair p1c0.Bound)), (.sl (List.length p1c0.Sets) (flatD (encI .u32) p1c0.Sets)), (.lit (.int .i64 p1c0.End))]))]::tp 17 [], [], 0⟩ <| Sq <| Sx <| Wm (.l enc_GWait p0) rfl <| Wz (.i ((List.length p0 : Nat) : Int)) (Oln rfl) <| Wm (.i 0) rfl <| Nk 387 0 ⟨.l enc_GWait p0::.clo (.func 25) [] [(.d (.ref [(.sl (List.length p1c0.Bound) (flatD enc_GPair p1c0.Bound)), (.sl (List.length p1c0.Sets) (flatD (encI .u32) p1c0.Sets)), (.lit (.int .i64 p1c0.End))]))]::tp 5 (.i ((List.length p0 : Nat) : Int)::.i 0::tp 10 []), [], 0⟩ <| Bk ?_
 refine AWP.loopI (α := Nat × Int)
   (fun (fu_1, y8_1) => (⟨.l enc_GWait p0::.clo (.func 25) [] [(.d (.ref [(.sl (List.length p1c0.Bound) (flatD enc_GPair p1c0.Bound)), (.sl (List.length p1c0.Sets) (flatD (encI .u32) p1c0.Sets)), (.lit (.int .i64 p1c0.End))]))]::tp 5 (.i ((List.length p0 : Nat) : Int)::.i y8_1::tp 10 []), [], 0⟩ : St))
   (fun (fu_1, y8_1) => m_slices_IndexFunc_Wait__trail_Trail_Add_1_l1 p0 p1c0 fu_1 y8_1 = some r)
   (fun (fu_1, y8_1) => fu_1) (1152921504606846976, 0)
   (Weak.toK 387 0 0 []) hm ?_
 rintro ⟨fu_1, y8_1⟩ n_1 hm ih_1
 try dsimp only at hm ih_1 ⊢
 cases fu_1 with
 | zero => exact absurd hm (by unfold m_slices_IndexFunc_Wait__trail_Trail_Add_1_l1; simp)
 | succ fu_1 =>
  unfold m_slices_IndexFunc_Wait__trail_Trail_Add_1_l1 at hm
  refine Sx <| Wz (.b (decide (y8_1 < ((List.length p0 : Nat) : Int)))) (Obn rfl (fun _ => hb_lss (k := .i64))) <| Nk 899 0 ⟨.l enc_GWait p0::.clo (.func 25) [] [(.d (.ref [(.sl (List.length p1c0.Bound) (flatD enc_GPair p1c0.Bound)), (.sl (List.length p1c0.Sets) (flatD (encI .u32) p1c0.Sets)), (.lit (.int .i64 p1c0.End))]))]::tp 5 (.i ((List.length p0 : Nat) : Int)::.i y8_1::.b (decide (y8_1 < ((List.length p0 : Nat) : Int)))::tp 9 []), [], 0⟩ <| Sq ?_
  rcases tf_ (decide (y8_1 < ((List.length p0 : Nat) : Int))) with hc9_3 | hc9_3
  ·
   replace hm := cT hc9_3 hm
   refine AiT hc9_3 <| Sk <| Tk 387 0 ⟨.l enc_GWait p0::.clo (.func 25) [] [(.d (.ref [(.sl (List.length p1c0.Bound) (flatD enc_GPair p1c0.Bound)), (.sl (List.length p1c0.Sets) (flatD (encI .u32) p1c0.Sets)), (.lit (.int .i64 p1c0.End))]))]::tp 5 (.i ((List.length p0 : Nat) : Int)::.i y8_1::tp 10 []), [], 0⟩ <| Sq <| Bk <| Sx <| Wm (.i y8_1) rfl <| Wm (.i y8_1) rfl <| Nk 419 0 ⟨.l enc_GWait p0::.clo (.func 25) [] [(.d (.ref [(.sl (List.length p1c0.Bound) (flatD enc_GPair p1c0.Bound)), (.sl (List.length p1c0.Sets) (flatD (encI .u32) p1c0.Sets)), (.lit (.int .i64 p1c0.End))]))]::tp 3 (.i y8_1::tp 1 (.i ((List.length p0 : Nat) : Int)::.i y8_1::tp 10 [])), [], 0⟩ <| Sx <| Wm (.clo (.func 25) [] [(.d (.ref [(.sl (List.length p1c0.Bound) (flatD enc_GPair p1c0.Bound)), (.sl (List.length p1c0.Sets) (flatD (encI .u32) p1c0.Sets)), (.lit (.int .i64 p1c0.End))]))]) rfl <| Wm (.l enc_GWait p0) rfl <| Wm (.i y8_1) rfl ?_
   obtain ⟨x14_2, hx14_2, hm⟩ := bnd hm
   obtain ⟨hx14_2i, hx14_2g⟩ := geti_some hx14_2
   refine Wz (.d (.ref (List.drop ((Int.toNat y8_1) * 3) (flatD enc_GWait p0)))) (Oia rfl enc_GWait_len hx14_2i hx14_2g) <| Wz (.agg [(.l enc_GPair x14_2.Bound), (.l (encI .u32) x14_2.Sets), (.i x14_2.End)]) (Lf rfl enc_GWait_len hx14_2g) ?_
   obtain ⟨r16_2, hr16_2, hm⟩ := bnd hm
   refine Wz (.b r16_2) (Ocf [] [] [] 0 (ok_trail_Trail_Add_1 x14_2 p1c0 r16_2 hr16_2) (fun a w => Try.call25 a w) rfl trivial) <| Nk 65955 0 ⟨.l enc_GWait p0::.clo (.func 25) [] [(.d (.ref [(.sl (List.length p1c0.Bound) (flatD enc_GPair p1c0.Bound)), (.sl (List.length p1c0.Sets) (flatD (encI .u32) p1c0.Sets)), (.lit (.int .i64 p1c0.End))]))]::tp 3 (.i y8_1::tp 1 (.i ((List.length p0 : Nat) : Int)::.i y8_1::tp 7 (.b r16_2::tp 2 []))), [], 0⟩ ?_
   rcases tf_ r16_2 with hc16_4 | hc16_4
   ·
    replace hm := cT hc16_4 hm
    refine AiT hc16_4 <| Sx <| Wm (.i y8_1) rfl <| Wm (.i y8_1) rfl <| Nn <| Rt <| Ir <| Tr <| RoundK.ret <| Ir <| Tr ?_
    obtain rfl := Option.some.inj hm
    exact ret_i []
   ·
    replace hm := cF hc16_4 hm
    refine AiF hc16_4 <| Sk <| Ino <| Tk 387 0 ⟨.l enc_GWait p0::.clo (.func 25) [] [(.d (.ref [(.sl (List.length p1c0.Bound) (flatD enc_GPair p1c0.Bound)), (.sl (List.length p1c0.Sets) (flatD (encI .u32) p1c0.Sets)), (.lit (.int .i64 p1c0.End))]))]::tp 5 (.i ((List.length p0 : Nat) : Int)::.i y8_1::tp 10 []), [], 0⟩ <| Tx <| Wz (.i (W6 (y8_1 + 1))) (Obn rfl (fun _ => hb_add (k := .i64))) <| Wm (.i (W6 (y8_1 + 1))) rfl <| Wn0 <| RoundK.normal ?_
    exact Rounds.weak (Weak.toK 387 0 0 []) (ih_1 (fu_1, (W6 (y8_1 + 1))) hm (Nat.lt_succ_self _))
  ·
   replace hm := cF hc9_3 hm
   refine AiF hc9_3 <| AWP.exit <| Then.exit <| RoundK.exit <| InBlock.same <| Tk 0 0 ⟨tp 19 [], [], 0⟩ <| Sx <| Wm (.i (-1)) rfl <| Nn <| Rt ?_
   obtain rfl := Option.some.inj hm
   exact ret_i []

theorem ok_slices_Grow_uint32 (p1 : Int) (r : (List Int)) (h : m_slices_Grow_uint32 p1 = some r) : GCall Try.prog 41 [(.d .nil), (.i p1)] [] (.own 0) [(.arr 25 1 (List.length r) (flatD (encI .u32) r))] := by
 refine GCall.of_body (n := 27) (rs := [(.tmp 4)]) Try.func41 rfl rfl rfl <| Ato ⟨.d .nil::.i p1::tu 25 [], [], 0⟩ ?_
 have hm := h
 unfold m_slices_Grow_uint32 at hm
 refine Sx <| Wm (.d .nil) rfl <| Nk 3 0 ⟨.d .nil::.i p1::tp 25 [], [], 0⟩ <| Sq <| Sx <| Wm (.i p1) rfl <| Wz (.b (decide (p1 < 0))) (Obn rfl (fun _ => hb_lss (k := .i64))) <| Nk 67 0 ⟨.d .nil::.i p1::tp 4 (.b (decide (p1 < 0))::tp 20 []), [], 0⟩ ?_
 rcases tf_ (decide (p1 < 0)) with hc6_2 | hc6_2
 ·
  replace hm := cT hc6_2 hm
  refine AiT hc6_2 <| Tx <| Wz (.d (.lit (Value.iface 9 (.string (toS ([99, 97, 110, 110, 111, 116, 32, 98, 101, 32, 110, 101, 103, 97, 116, 105, 118, 101] : List UInt8)))))) (Oif rfl) ?_
  exact nomatch hm
 ·
  replace hm := cF hc6_2 hm
  refine AiF hc6_2 <| Sk <| Tk 3 0 ⟨.d .nil::.i p1::tp 25 [], [], 0⟩ <| Sq <| Sx <| Wm (.i p1) rfl <| Wm (.d .nil) rfl <| Wz (.i 0) (Ocap rfl (e := 25) (by kernel_rfl)) <| Wm (.d .nil) rfl <| Wz (.i 0) (Oln rfl) <| Wz (.i 0) (Ob2 (.int .i64 0) (.int .i64 0) rfl (fun _ => hb_sub)) <| Wz (.i (W6 (p1 - 0))) (Obn rfl (fun _ => hb_sub (k := .i64))) <| Wm (.i (W6 (p1 - 0))) rfl <| Nk 3 0 ⟨.d .nil::.i (W6 (p1 - 0))::tp 25 [], [], 0⟩ ?_
  refine Sx <| Wm (.i (W6 (p1 - 0))) rfl <| Wz (.b (decide ((0 : Int) < (W6 (p1 - 0))))) (Obn rfl (fun _ => hb_gtr (k := .i64))) <| Nk 65539 0 ⟨.d .nil::.i (W6 (p1 - 0))::tp 14 (.b (decide ((0 : Int) < (W6 (p1 - 0))))::tp 10 []), [], 0⟩ ?_
  rcases tf_ (decide ((0 : Int) < (W6 (p1 - 0)))) with hc16_3 | hc16_3
  ·
   replace hm := cT hc16_3 hm
   refine AiT hc16_3 <| Tx <| Wm (.d .nil) rfl <| Wm (.d .nil) rfl <| Wz (.i 0) (Ocap rfl (e := 25) (by kernel_rfl)) <| Wz (.d .nil) (Ocn rfl (k := .i64) (by kernel_rfl)) <| Wm (.i (W6 (p1 - 0))) rfl ?_
   obtain ⟨a22_1, ha22_1, hm⟩ := bnd hm; obtain ⟨ha22_1i, ha22_1l, ha22_1e⟩ := mk_some ha22_1
   obtain ⟨ha22_1p, hm⟩ := chk_some hm
   refine Wy (.own 0) [(0, (.arr 25 1 (List.length a22_1) (flatD (encI .u32) a22_1)))] (OcB (OapZ rfl elemOK_22 (kn := .i64) (kq := .i64) (by kernel_rfl) (by kernel_rfl) (L := (IntKind.i64.wrap (p1 - 0))) (n := Int.toNat (IntKind.i64.wrap (p1 - 0))) ha22_1i ha22_1p ha22_1l) (bl_one (by rw [ha22_1e]; simp) (by rw [ha22_1e]; exact (flat_rep (by kernel_rfl))))) <| Wm (.d .nil) rfl <| Wz (.i 0) (Oln rfl) ?_
   obtain ⟨s25_1, hs25_1, hm⟩ := bnd hm; obtain ⟨hs25_1a, hs25_1b, hs25_1c, hs25_1d, hs25_1e⟩ := cut_some hs25_1
   refine Wy (.own 1) [(0, .gone), (1, (.arr 25 1 (List.length s25_1) (flatD (encI .u32) s25_1)))] (OcB (op_sliceTo rfl (id := 0) (e := 25) (sz := 1) (n := List.length a22_1) (xs := flatD (encI .u32) a22_1) (by kernel_rfl) (by kernel_rfl) (by kernel_rfl) (k := .i64) (hv := 0) (by kernel_rfl) (h := (Int.toNat 0)) hs25_1b hs25_1d (by kernel_rfl) (by decide)) (bl_app (cut_len0 hs25_1e hs25_1d) (cut_take0 (encI_len (k := .u32)) hs25_1e))) <| Wm (.own 1) rfl <| Nk 1 2 ⟨.own 1::tp 26 [], [.gone, (.arr 25 1 (List.length s25_1) (flatD (encI .u32) s25_1))], 0⟩ <| Sx <| Wm (.own 1) rfl <| Wm (.own 1) rfl <| Nn <| Rt ?_
   obtain rfl := Option.some.inj hm
   exact ret_i [1]
  ·
   replace hm := cF hc16_3 hm
   refine AiF hc16_3 <| Sk <| Tk 1 0 ⟨.d .nil::tp 26 [], [], 0⟩ <| Sx <| Wm (.d .nil) rfl <| Wm (.d .nil) rfl <| Nn <| Aow 4 25 1 ⟨.d .nil::tp 3 (.own 0::tp 21 (.d .nil::[])), [(.arr 25 1 (List.length ([] : List Int)) (flatD (encI .u32) ([] : List Int)))], 0⟩ <| Rt ?_
   obtain rfl := Option.some.inj hm
   exact ret_i [0]

theorem ok_slices_Concat_uint32 (p0 : (List (List Int))) (r : (List Int)) (h : m_slices_Concat_uint32 p0 = some r) : GCall Try.prog 19 [(.l (encL (encI .u32)) p0)] [] (.own 0) [(.arr 25 1 (List.length r) (flatD (encI .u32) r))] := by
 refine GCall.of_body (n := 36) (rs := [(.tmp 2)]) Try.func19 rfl rfl rfl <| Ato ⟨.l (encL (encI .u32)) p0::tu 35 [], [], 0⟩ ?_
 have hm := h
 unfold m_slices_Concat_uint32 at hm
 refine Sx <| Wm (.d .nil) rfl <| Nk 1 0 ⟨.l (encL (encI .u32)) p0::tp 35 [], [], 0⟩ <| Sx <| Wm (.i 0) rfl <| Nk 9 0 ⟨.l (encL (encI .u32)) p0::tp 2 (.i 0::tp 32 []), [], 0⟩ <| Sq <| Sx <| Wm (.l (encL (encI .u32)) p0) rfl <| Wz (.i ((List.length p0 : Nat) : Int)) (Oln rfl) <| Wm (.i 0) rfl <| Nk 3593 0 ⟨.l (encL (encI .u32)) p0::tp 2 (.i 0::tp 5 (.l (encL (encI .u32)) p0::.i ((List.length p0 : Nat) : Int)::.i 0::tp 24 [])), [], 0⟩ <| Bk ?_
 refine AWP.loopI (α := Nat × Int × Int)
   (fun (fu_1, y3_1, y11_1) => (⟨.l (encL (encI .u32)) p0::tp 2 (.i y3_1::tp 5 (.l (encL (encI .u32)) p0::.i ((List.length p0 : Nat) : Int)::.i y11_1::tp 24 [])), [], 0⟩ : St))
   (fun (fu_1, y3_1, y11_1) => m_slices_Concat_uint32_l1 p0 fu_1 y3_1 y11_1 = some r)
   (fun (fu_1, y3_1, y11_1) => fu_1) (1152921504606846976, 0, 0)
   (Weak.toK 3593 0 0 []) hm ?_
 rintro ⟨fu_1, y3_1, y11_1⟩ n_1 hm ih_1
 try dsimp only at hm ih_1 ⊢
 cases fu_1 with
 | zero => exact absurd hm (by unfold m_slices_Concat_uint32_l1; simp)
 | succ fu_1 =>
  unfold m_slices_Concat_uint32_l1 at hm
  refine Sx <| Wz (.b (decide (y11_1 < ((List.length p0 : Nat) : Int)))) (Obn rfl (fun _ => hb_lss (k := .i64))) <| Nk 7689 0 ⟨.l (encL (encI .u32)) p0::tp 2 (.i y3_1::tp 5 (.l (encL (encI .u32)) p0::.i ((List.length p0 : Nat) : Int)::.i y11_1::.b (decide (y11_1 < ((List.length p0 : Nat) : Int)))::tp 23 [])), [], 0⟩ <| Sq ?_
  rcases tf_ (decide (y11_1 < ((List.length p0 : Nat) : Int))) with hc12_9 | hc12_9
  ·
   replace hm := cT hc12_9 hm
   refine AiT hc12_9 <| Sk <| Tk 3593 0 ⟨.l (encL (encI .u32)) p0::tp 2 (.i y3_1::tp 5 (.l (encL (encI .u32)) p0::.i ((List.length p0 : Nat) : Int)::.i y11_1::tp 24 [])), [], 0⟩ <| Sq <| Bk <| Sx ?_
   obtain ⟨x13_2, hx13_2, hm⟩ := bnd hm
   obtain ⟨hx13_2i, hx13_2g⟩ := geti_some hx13_2
   refine Wz (.d (.ref (List.drop ((Int.toNat y11_1) * 1) (flatD (encL (encI .u32)) p0)))) (Oia rfl (encL_len (enc := (encI .u32))) hx13_2i hx13_2g) <| Wz (.l (encI .u32) x13_2) (Lf1 rfl (encL_len (enc := (encI .u32))) hx13_2g) <| Wm (.l (encI .u32) x13_2) rfl <| Nk 3625 0 ⟨.l (encL (encI .u32)) p0::tp 2 (.i y3_1::tp 1 (.l (encI .u32) x13_2::tp 3 (.l (encL (encI .u32)) p0::.i ((List.length p0 : Nat) : Int)::.i y11_1::tp 24 []))), [], 0⟩ <| Sx <| Wm (.i y3_1) rfl <| Wm (.l (encI .u32) x13_2) rfl <| Wz (.i ((List.length x13_2 : Nat) : Int)) (Oln rfl) <| Wz (.i (W6 (y3_1 + ((List.length x13_2 : Nat) : Int)))) (Obn rfl (fun _ => hb_add (k := .i64))) <| Wm (.i (W6 (y3_1 + ((List.length x13_2 : Nat) : Int)))) rfl <| Nk 3593 0 ⟨.l (encL (encI .u32)) p0::tp 2 (.i (W6 (y3_1 + ((List.length x13_2 : Nat) : Int)))::tp 5 (.l (encL (encI .u32)) p0::.i ((List.length p0 : Nat) : Int)::.i y11_1::tp 24 [])), [], 0⟩ <| Sx <| Wm (.i (W6 (y3_1 + ((List.length x13_2 : Nat) : Int)))) rfl <| Wz (.b (decide ((W6 (y3_1 + ((List.length x13_2 : Nat) : Int))) < 0))) (Obn rfl (fun _ => hb_lss (k := .i64))) ?_
   refine Nk 1052169 0 ⟨.l (encL (encI .u32)) p0::tp 2 (.i (W6 (y3_1 + ((List.length x13_2 : Nat) : Int)))::tp 5 (.l (encL (encI .u32)) p0::.i ((List.length p0 : Nat) : Int)::.i y11_1::tp 8 (.b (decide ((W6 (y3_1 + ((List.length x13_2 : Nat) : Int))) < 0))::tp 15 []))), [], 0⟩ ?_
   rcases tf_ (decide ((W6 (y3_1 + ((List.length x13_2 : Nat) : Int))) < 0)) with hc20_10 | hc20_10
   ·
    replace hm := cT hc20_10 hm
    refine AiT hc20_10 <| Tx <| Wz (.d (.lit (Value.iface 9 (.string (toS ([108, 101, 110, 32, 111, 117, 116, 32, 111, 102, 32, 114, 97, 110, 103, 101] : List UInt8)))))) (Oif rfl) ?_
    exact nomatch hm
   ·
    replace hm := cF hc20_10 hm
    refine AiF hc20_10 <| Sk <| Ino <| Tk 3593 0 ⟨.l (encL (encI .u32)) p0::tp 2 (.i (W6 (y3_1 + ((List.length x13_2 : Nat) : Int)))::tp 5 (.l (encL (encI .u32)) p0::.i ((List.length p0 : Nat) : Int)::.i y11_1::tp 24 [])), [], 0⟩ <| Tx <| Wz (.i (W6 (y11_1 + 1))) (Obn rfl (fun _ => hb_add (k := .i64))) <| Wm (.i (W6 (y11_1 + 1))) rfl <| Wn0 <| RoundK.normal ?_
    exact Rounds.weak (Weak.toK 3593 0 0 []) (ih_1 (fu_1, (W6 (y3_1 + ((List.length x13_2 : Nat) : Int))), (W6 (y11_1 + 1))) hm (Nat.lt_succ_self _))
  ·
   replace hm := cF hc12_9 hm
   refine AiF hc12_9 <| AWP.exit <| Then.exit <| RoundK.exit <| InBlock.same <| Tk 9 0 ⟨.l (encL (encI .u32)) p0::tp 2 (.i y3_1::tp 32 []), [], 0⟩ <| Sx <| Wm (.i y3_1) rfl ?_
   obtain ⟨r24_4, hr24_4, hm⟩ := bnd hm
   refine Wy (.own 0) [(0, (.arr 25 1 (List.length r24_4) (flatD (encI .u32) r24_4)))] (Ocf [] [0] [] 1 (ok_slices_Grow_uint32 y3_1 r24_4 hr24_4) (fun a w => Try.call41 a w) rfl trivial) <| Wm (.own 0) rfl <| Nk 65 1 ⟨.l (encL (encI .u32)) p0::tp 5 (.own 0::tp 29 []), [(.arr 25 1 (List.length r24_4) (flatD (encI .u32) r24_4))], 0⟩ <| Sq <| Sx <| Wm (.l (encL (encI .u32)) p0) rfl <| Wz (.i ((List.length p0 : Nat) : Int)) (Oln rfl) <| Wm (.i 0) rfl <| Nk 234881088 1 ⟨tp 6 (.own 0::tp 18 (.l (encL (encI .u32)) p0::.i ((List.length p0 : Nat) : Int)::.i 0::tp 8 [])), [(.arr 25 1 (List.length r24_4) (flatD (encI .u32) r24_4))], 0⟩ <| Bk ?_
   refine AWP.loopI (α := Nat × (List Int) × Int)
     (fun (fu_6, y6_6, y27_6) => (⟨tp 6 (.own 0::tp 18 (.l (encL (encI .u32)) p0::.i ((List.length p0 : Nat) : Int)::.i y27_6::tp 8 [])), [(.arr 25 1 (List.length y6_6) (flatD (encI .u32) y6_6))], 0⟩ : St))
     (fun (fu_6, y6_6, y27_6) => m_slices_Concat_uint32_l6 p0 fu_6 y6_6 y27_6 = some r)
     (fun (fu_6, y6_6, y27_6) => fu_6) (1152921504606846976, r24_4, 0)
     (Weak.toK 234881088 0 0 [0]) hm ?_
   rintro ⟨fu_6, y6_6, y27_6⟩ n_6 hm ih_6
   try dsimp only at hm ih_6 ⊢
   cases fu_6 with
   | zero => exact absurd hm (by unfold m_slices_Concat_uint32_l6; simp)
   | succ fu_6 =>
    unfold m_slices_Concat_uint32_l6 at hm
    refine Sx <| Wz (.b (decide (y27_6 < ((List.length p0 : Nat) : Int)))) (Obn rfl (fun _ => hb_lss (k := .i64))) <| Nk 503316544 1 ⟨tp 6 (.own 0::tp 18 (.l (encL (encI .u32)) p0::.i ((List.length p0 : Nat) : Int)::.i y27_6::.b (decide (y27_6 < ((List.length p0 : Nat) : Int)))::tp 7 [])), [(.arr 25 1 (List.length y6_6) (flatD (encI .u32) y6_6))], 0⟩ <| Sq ?_
    rcases tf_ (decide (y27_6 < ((List.length p0 : Nat) : Int))) with hc28_11 | hc28_11
    ·
     replace hm := cT hc28_11 hm
     refine AiT hc28_11 <| Sk <| Tk 234881088 1 ⟨tp 6 (.own 0::tp 18 (.l (encL (encI .u32)) p0::.i ((List.length p0 : Nat) : Int)::.i y27_6::tp 8 [])), [(.arr 25 1 (List.length y6_6) (flatD (encI .u32) y6_6))], 0⟩ <| Sq <| Bk <| Sx ?_
     obtain ⟨x29_7, hx29_7, hm⟩ := bnd hm
     obtain ⟨hx29_7i, hx29_7g⟩ := geti_some hx29_7
     refine Wz (.d (.ref (List.drop ((Int.toNat y27_6) * 1) (flatD (encL (encI .u32)) p0)))) (Oia rfl (encL_len (enc := (encI .u32))) hx29_7i hx29_7g) <| Wz (.l (encI .u32) x29_7) (Lf1 rfl (encL_len (enc := (encI .u32))) hx29_7g) <| Wm (.l (encI .u32) x29_7) rfl <| Nk 234881344 1 ⟨tp 6 (.own 0::tp 1 (.l (encI .u32) x29_7::tp 16 (.l (encL (encI .u32)) p0::.i ((List.length p0 : Nat) : Int)::.i y27_6::tp 8 []))), [(.arr 25 1 (List.length y6_6) (flatD (encI .u32) y6_6))], 0⟩ <| Tx <| Wm (.own 0) rfl <| Wm (.l (encI .u32) x29_7) rfl ?_
     obtain ⟨a33_8, ha33_8, hm⟩ := bnd hm; obtain ⟨ha33_8e, ha33_8l⟩ := app_some ha33_8
     refine Wy (.own 1) [(0, .gone), (1, (.arr 25 1 (List.length a33_8) (flatD (encI .u32) a33_8)))] (Oap rfl elemOK_22 (encI_len (k := .u32)) ha33_8e ha33_8l) <| Wm (.own 1) rfl <| Wn0 <| Ino <| Tk 234881088 2 ⟨tp 6 (.own 1::tp 18 (.l (encL (encI .u32)) p0::.i ((List.length p0 : Nat) : Int)::.i y27_6::tp 8 [])), [.gone, (.arr 25 1 (List.length a33_8) (flatD (encI .u32) a33_8))], 0⟩ <| Tx <| Wz (.i (W6 (y27_6 + 1))) (Obn rfl (fun _ => hb_add (k := .i64))) <| Wm (.i (W6 (y27_6 + 1))) rfl <| Wn0 <| RoundK.normal ?_
     exact Rounds.weak (Weak.toK 234881088 0 0 [1]) (ih_6 (fu_6, a33_8, (W6 (y27_6 + 1))) hm (Nat.lt_succ_self _))
    ·
     replace hm := cF hc28_11 hm
     refine AiF hc28_11 <| AWP.exit <| Then.exit <| RoundK.exit <| InBlock.same <| Tk 64 1 ⟨tp 6 (.own 0::tp 29 []), [(.arr 25 1 (List.length y6_6) (flatD (encI .u32) y6_6))], 0⟩ <| Sx <| Wm (.own 0) rfl <| Wm (.own 0) rfl <| Nn <| Rt ?_
     obtain rfl := Option.some.inj hm
     exact ret_i [0]

theorem ok_math_bits_Len64 (p0 : Int) (r : Int) (h : m_math_bits_Len64 p0 = some r) : GCall Try.prog 62 [(.u p0)] [] (.i r) [] := by
 refine GCall.of_body (n := 25) (rs := [(.tmp 2)]) Try.func62 rfl rfl rfl <| Ato ⟨.u p0::tu 24 [], [], 0⟩ ?_
 have hm := h
 unfold m_math_bits_Len64 at hm
 refine Sx <| Wm (.i 0) rfl <| Nk 5 0 ⟨.u p0::tp 1 (.i 0::tp 22 []), [], 0⟩ ?_
 refine AWP.cutJ (α := Int × Int) (fun (y0_0, y2_0) => (⟨.u y0_0::tp 1 (.i y2_0::tp 22 []), [], 0⟩ : St)) (fun (y0_0, y2_0) => m_math_bits_Len64_j0  y0_0 y2_0 = some r) ?_ (fun J0 => ?_)
 ·
  rintro ⟨y0_0, y2_0⟩ hm
  try dsimp only at hm ⊢
  unfold m_math_bits_Len64_j0 at hm
  refine AWP.cutJ (α := Int × Int) (fun (y0_1, y2_1) => (⟨.u y0_1::tp 1 (.i y2_1::tp 22 []), [], 0⟩ : St)) (fun (y0_1, y2_1) => m_math_bits_Len64_j1  y0_1 y2_1 = some r) ?_ (fun J1 => ?_)
  ·
   rintro ⟨y0_1, y2_1⟩ hm
   try dsimp only at hm ⊢
   unfold m_math_bits_Len64_j1 at hm
   refine AWP.cutJ (α := Int × Int) (fun (y0_2, y2_2) => (⟨.u y0_2::tp 1 (.i y2_2::tp 22 []), [], 0⟩ : St)) (fun (y0_2, y2_2) => m_math_bits_Len64_j2  y0_2 y2_2 = some r) ?_ (fun J2 => ?_)
   ·
    rintro ⟨y0_2, y2_2⟩ hm
    try dsimp only at hm ⊢
    unfold m_math_bits_Len64_j2 at hm
    refine Sx <| Wm (.i y2_2) rfl <| Wm (.u y0_2) rfl <| Wz (.y (toU8 y0_2)) (Ocs (lit_int (u8w _)) (op_convert rfl (a1 := .int .u64 y0_2) (by kernel_rfl) (run_conv (ds := .int .u64) (k' := .u8) (by kernel_rfl) (by kernel_rfl)))) ?_
    obtain ⟨x22_3, hx22_3, hm⟩ := bnd hm
    obtain ⟨hx22_3i, hx22_3g⟩ := geti_some hx22_3
    refine Wz (.y x22_3) (Ocs (by kernel_rfl) (op_index_str rfl (by kernel_rfl) (s := toS ([0, 1, 2, 2, 3, 3, 3, 3, 4, 4, 4, 4, 4, 4, 4, 4, 5, 5, 5, 5, 5, 5, 5, 5, 5, 5, 5, 5, 5, 5, 5, 5, 6, 6, 6, 6, 6, 6, 6, 6, 6, 6, 6, 6, 6, 6, 6, 6, 6, 6, 6, 6, 6, 6, 6, 6, 6, 6, 6, 6, 6, 6, 6, 6, 7, 7, 7, 7, 7, 7, 7, 7, 7, 7, 7, 7, 7, 7, 7, 7, 7, 7, 7, 7, 7, 7, 7, 7, 7, 7, 7, 7, 7, 7, 7, 7, 7, 7, 7, 7, 7, 7, 7, 7, 7, 7, 7, 7, 7, 7, 7, 7, 7, 7, 7, 7, 7, 7, 7, 7, 7, 7, 7, 7, 7, 7, 7, 7, 8, 8, 8, 8, 8, 8, 8, 8, 8, 8, 8, 8, 8, 8, 8, 8, 8, 8, 8, 8, 8, 8, 8, 8, 8, 8, 8, 8, 8, 8, 8, 8, 8, 8, 8, 8, 8, 8, 8, 8, 8, 8, 8, 8, 8, 8, 8, 8, 8, 8, 8, 8, 8, 8, 8, 8, 8, 8, 8, 8, 8, 8, 8, 8, 8, 8, 8, 8, 8, 8, 8, 8, 8, 8, 8, 8, 8, 8, 8, 8, 8, 8, 8, 8, 8, 8, 8, 8, 8, 8, 8, 8, 8, 8, 8, 8, 8, 8, 8, 8, 8, 8, 8, 8, 8, 8, 8, 8, 8, 8, 8, 8, 8, 8, 8, 8, 8, 8, 8, 8, 8, 8, 8, 8, 8, 8, 8, 8] : List UInt8)) (by kernel_rfl) (k := .u8) (iv := (((toU8 y0_2).toNat : Nat) : Int)) (by kernel_rfl) (i := (Int.toNat (((toU8 y0_2).toNat : Nat) : Int))) (hx22_3i) (b := x22_3) (hx22_3g))) <| Wz (.i ((x22_3.toNat : Nat) : Int)) (Ocs (lit_int (wrap_of_u8 (by decide) _)) (op_convert rfl (a1 := .int .u8 ((x22_3.toNat : Nat) : Int)) (by kernel_rfl) (run_conv (ds := .int .u8) (k' := .i64) (by kernel_rfl) (by kernel_rfl)))) <| Wz (.i (W6 (y2_2 + ((x22_3.toNat : Nat) : Int)))) (Obn rfl (fun _ => hb_add (k := .i64))) <| Wm (.i (W6 (y2_2 + ((x22_3.toNat : Nat) : Int)))) rfl <| Nn <| Rt ?_
    obtain rfl := Option.some.inj hm
    exact ret_i []
   refine Sq <| Sx <| Wm (.u y0_1) rfl <| Wz (.b (decide ((256 : Int) ≤ y0_1))) (Obn rfl (fun _ => hb_geq (k := .u64))) <| Nk 16389 0 ⟨.u y0_1::tp 1 (.i y2_1::tp 11 (.b (decide ((256 : Int) ≤ y0_1))::tp 10 [])), [], 0⟩ ?_
   rcases tf_ (decide ((256 : Int) ≤ y0_1)) with hc14_4 | hc14_4
   ·
    replace hm := cT hc14_4 hm
    refine AiT hc14_4 <| Sx <| Wm (.u y0_1) rfl <| Wz (.u (Int.fdiv y0_1 (2 ^ 8))) (Ob2 (.int .u64 y0_1) (.int .u64 8) rfl (fun _ => hb_shr (n := 8) (by decide) rfl)) <| Wm (.u (Int.fdiv y0_1 (2 ^ 8))) rfl <| Nk 5 0 ⟨.u (Int.fdiv y0_1 (2 ^ 8))::tp 1 (.i y2_1::tp 22 []), [], 0⟩ <| Tx <| Wm (.i y2_1) rfl <| Wz (.i (W6 (y2_1 + 8))) (Obn rfl (fun _ => hb_add (k := .i64))) <| Wm (.i (W6 (y2_1 + 8))) rfl <| Nn ?_
    exact AWP.weak (Weak.toK 5 0 0 []) (J2 ((Int.fdiv y0_1 (2 ^ 8)), (W6 (y2_1 + 8))) hm)
   ·
    replace hm := cF hc14_4 hm
    refine AiF hc14_4 <| Sk <| Tn ?_
    exact AWP.weak (Weak.toK 5 0 0 []) (J2 (y0_1, y2_1) hm)
  refine Sq <| Sx <| Wm (.u y0_0) rfl <| Wz (.b (decide ((65536 : Int) ≤ y0_0))) (Obn rfl (fun _ => hb_geq (k := .u64))) <| Nk 261 0 ⟨.u y0_0::tp 1 (.i y2_0::tp 5 (.b (decide ((65536 : Int) ≤ y0_0))::tp 16 [])), [], 0⟩ ?_
  rcases tf_ (decide ((65536 : Int) ≤ y0_0)) with hc8_5 | hc8_5
  ·
   replace hm := cT hc8_5 hm
   refine AiT hc8_5 <| Sx <| Wm (.u y0_0) rfl <| Wz (.u (Int.fdiv y0_0 (2 ^ 16))) (Ob2 (.int .u64 y0_0) (.int .u64 16) rfl (fun _ => hb_shr (n := 16) (by decide) rfl)) <| Wm (.u (Int.fdiv y0_0 (2 ^ 16))) rfl <| Nk 5 0 ⟨.u (Int.fdiv y0_0 (2 ^ 16))::tp 1 (.i y2_0::tp 22 []), [], 0⟩ <| Tx <| Wm (.i y2_0) rfl <| Wz (.i (W6 (y2_0 + 16))) (Obn rfl (fun _ => hb_add (k := .i64))) <| Wm (.i (W6 (y2_0 + 16))) rfl <| Nn ?_
   exact AWP.weak (Weak.toK 5 0 0 []) (J1 ((Int.fdiv y0_0 (2 ^ 16)), (W6 (y2_0 + 16))) hm)
  ·
   replace hm := cF hc8_5 hm
   refine AiF hc8_5 <| Sk <| Tn ?_
   exact AWP.weak (Weak.toK 5 0 0 []) (J1 (y0_0, y2_0) hm)
 refine Sq <| Sx <| Wm (.u p0) rfl <| Wz (.b (decide ((4294967296 : Int) ≤ p0))) (Obn rfl (fun _ => hb_geq (k := .u64))) <| Nk 21 0 ⟨.u p0::tp 1 (.i 0::tp 1 (.b (decide ((4294967296 : Int) ≤ p0))::tp 20 [])), [], 0⟩ ?_
 rcases tf_ (decide ((4294967296 : Int) ≤ p0)) with hc4_6 | hc4_6
 ·
  replace hm := cT hc4_6 hm
  refine AiT hc4_6 <| Sx <| Wm (.u p0) rfl <| Wz (.u (Int.fdiv p0 (2 ^ 32))) (Ob2 (.int .u64 p0) (.int .u64 32) rfl (fun _ => hb_shr (n := 32) (by decide) rfl)) <| Wm (.u (Int.fdiv p0 (2 ^ 32))) rfl <| Nk 1 0 ⟨.u (Int.fdiv p0 (2 ^ 32))::tp 24 [], [], 0⟩ <| Tx <| Wm (.i 32) rfl <| Nn ?_
  exact AWP.weak (Weak.toK 5 0 0 []) (J0 ((Int.fdiv p0 (2 ^ 32)), 32) hm)
 ·
  replace hm := cF hc4_6 hm
  refine AiF hc4_6 <| Sk <| Tn ?_
  exact AWP.weak (Weak.toK 5 0 0 []) (J0 (p0, 0) hm)

theorem ok_math_bits_Len (p0 : Int) (r : Int) (h : m_math_bits_Len p0 = some r) : GCall Try.prog 43 [(.u p0)] [] (.i r) [] := by
 refine GCall.of_body (n := 8) (rs := [(.tmp 2)]) Try.func43 rfl rfl rfl <| Ato ⟨.u p0::tu 7 [], [], 0⟩ ?_
 have hm := h
 unfold m_math_bits_Len at hm
 refine Sx <| Wm (.i 0) rfl <| Nk 1 0 ⟨.u p0::tp 7 [], [], 0⟩ <| Sq <| AWP.if_ false (by kernel_rfl) <| Sk <| Tk 1 0 ⟨.u p0::tp 7 [], [], 0⟩ <| Sx <| Wm (.u p0) rfl ?_
 obtain ⟨r7_0, hr7_0, hm⟩ := bnd hm
 refine Wz (.i r7_0) (Ocf [] [] [] 0 (ok_math_bits_Len64 p0 r7_0 hr7_0) (fun a w => Try.call62 a w) rfl trivial) <| Wm (.i r7_0) rfl <| Nn <| Rt ?_
 obtain rfl := Option.some.inj hm
 exact ret_i []

theorem ok_cmp_isNaN_uint32 (p0 : Int) (r : Bool) (h : m_cmp_isNaN_uint32 p0 = some r) : GCall Try.prog 73 [(.d (.lit (.int .u32 p0)))] [] (.b r) [] := by
 refine GCall.of_body (n := 6) (rs := [(.tmp 2)]) Try.func73 rfl rfl rfl <| Ato ⟨.d (.lit (.int .u32 p0))::tu 5 [], [], 0⟩ ?_
 have hm := h
 unfold m_cmp_isNaN_uint32 at hm
 refine Sx <| Wm (.b false) rfl <| Nk 1 0 ⟨.d (.lit (.int .u32 p0))::tp 5 [], [], 0⟩ <| Sx <| Wm (.d (.lit (.int .u32 p0))) rfl <| Wm (.d (.lit (.int .u32 p0))) rfl <| Wz (.b (decide (p0 ≠ p0))) (Obn rfl (fun _ => hb_neq (k := .u32))) <| Wm (.b (decide (p0 ≠ p0))) rfl <| Nn <| Rt ?_
 obtain rfl := Option.some.inj hm
 exact ret_i []

theorem ok_cmp_Less_uint32 (p0 : Int) (p1 : Int) (r : Bool) (h : m_cmp_Less_uint32 p0 p1 = some r) : GCall Try.prog 58 [(.d (.lit (.int .u32 p0))), (.d (.lit (.int .u32 p1)))] [] (.b r) [] := by
 refine GCall.of_body (n := 17) (rs := [(.tmp 4)]) Try.func58 rfl rfl rfl <| Ato ⟨.d (.lit (.int .u32 p0))::.d (.lit (.int .u32 p1))::tu 15 [], [], 0⟩ ?_
 have hm := h
 unfold m_cmp_Less_uint32 at hm
 refine Sx <| Wm (.b false) rfl <| Nk 3 0 ⟨.d (.lit (.int .u32 p0))::.d (.lit (.int .u32 p1))::tp 15 [], [], 0⟩ <| Sx <| Wm (.d (.lit (.int .u32 p0))) rfl ?_
 obtain ⟨r6_0, hr6_0, hm⟩ := bnd hm
 refine Wz (.b r6_0) (Ocf [] [] [] 0 (ok_cmp_isNaN_uint32 p0 r6_0 hr6_0) (fun a w => Try.call73 a w) rfl trivial) ?_
 rcases tf_ r6_0 with hq7_0 | hq7_0
 ·
  replace hm := cT hq7_0 hm
  refine Wz (.b true) (Oq hq7_0 rfl) <| Wm (.d (.lit (.int .u32 p1))) rfl ?_
  obtain ⟨r9_0, hr9_0, hm⟩ := bnd hm
  refine Wz (.b r9_0) (Ocf [] [] [] 0 (ok_cmp_isNaN_uint32 p1 r9_0 hr9_0) (fun a w => Try.call73 a w) rfl trivial) <| Wz (.b (!r9_0)) (Ocs (by kernel_rfl) (op_un rfl (a1 := .bool r9_0) (by kernel_rfl) (fun _ => hu_not))) <| Wz (.b (!r9_0)) (OpT rfl) ?_
  rcases tf_ (!r9_0) with hq12_0 | hq12_0
  ·
   replace hm := cT hq12_0 hm
   refine Wz (.b true) (Oq hq12_0 rfl) <| Wn <| Wn <| Wn <| Wz (.b true) (OpT rfl) <| Wm (.b true) rfl <| Nn <| Rt ?_
   obtain rfl := Option.some.inj hm
   exact ret_i []
  ·
   replace hm := cF hq12_0 hm
   refine Wz (.b false) (Oq hq12_0 rfl) <| Wm (.d (.lit (.int .u32 p0))) rfl <| Wm (.d (.lit (.int .u32 p1))) rfl <| Wz (.b (decide (p0 < p1))) (Obn rfl (fun _ => hb_lss (k := .u32))) <| Wz (.b (decide (p0 < p1))) (OpF rfl) <| Wm (.b (decide (p0 < p1))) rfl <| Nn <| Rt ?_
   obtain rfl := Option.some.inj hm
   exact ret_i []
 ·
  replace hm := cF hq7_0 hm
  refine Wz (.b false) (Oq hq7_0 rfl) <| Wn <| Wn <| Wn <| Wz (.b false) (OpF rfl) <| Wm (.b false) rfl <| Wm (.d (.lit (.int .u32 p0))) rfl <| Wm (.d (.lit (.int .u32 p1))) rfl <| Wz (.b (decide (p0 < p1))) (Obn rfl (fun _ => hb_lss (k := .u32))) <| Wz (.b (decide (p0 < p1))) (OpF rfl) <| Wm (.b (decide (p0 < p1))) rfl <| Nn <| Rt ?_
  obtain rfl := Option.some.inj hm
  exact ret_i []

theorem ok_slices_insertionSortOrdered_uint32 (p0 : (List Int)) (p1 : Int) (p2 : Int) (r : (List Int)) (h : m_slices_insertionSortOrdered_uint32 p0 p1 p2 = some r) : GCall Try.prog 52 [(.own 0), (.i p1), (.i p2)] [(.arr 25 1 (List.length p0) (flatD (encI .u32) p0))] (.tup []) [(.arr 25 1 (List.length r) (flatD (encI .u32) r))] := by
 refine GCall.of_body (n := 49) (rs := []) Try.func52 rfl rfl rfl <| Ato ⟨.own 0::.i p1::.i p2::tu 46 [], [(.arr 25 1 (List.length p0) (flatD (encI .u32) p0))], 1⟩ ?_
 have hm := h
 unfold m_slices_insertionSortOrdered_uint32 at hm
 refine Sx <| Wm (.i p1) rfl <| Wz (.i (W6 (p1 + 1))) (Obn rfl (fun _ => hb_add (k := .i64))) <| Wm (.i (W6 (p1 + 1))) rfl <| Nk 71 1 ⟨.own 0::.i p1::.i p2::tp 3 (.i (W6 (p1 + 1))::tp 42 []), [(.arr 25 1 (List.length p0) (flatD (encI .u32) p0))], 1⟩ <| Bk ?_
 refine AWP.loopI (α := Nat × (List Int) × Int)
   (fun (fu_0, y0_0, y6_0) => (⟨.own 0::.i p1::.i p2::tp 3 (.i y6_0::tp 42 []), [(.arr 25 1 (List.length y0_0) (flatD (encI .u32) y0_0))], 1⟩ : St))
   (fun (fu_0, y0_0, y6_0) => m_slices_insertionSortOrdered_uint32_l0 p1 p2 fu_0 y0_0 y6_0 = some r)
   (fun (fu_0, y0_0, y6_0) => fu_0) (1152921504606846976, p0, (W6 (p1 + 1)))
   (Weak.toK 71 0 0 [0]) hm ?_
 rintro ⟨fu_0, y0_0, y6_0⟩ n_0 hm ih_0
 try dsimp only at hm ih_0 ⊢
 cases fu_0 with
 | zero => exact absurd hm (by unfold m_slices_insertionSortOrdered_uint32_l0; simp)
 | succ fu_0 =>
  unfold m_slices_insertionSortOrdered_uint32_l0 at hm
  refine Sq <| Sx <| Wm (.i y6_0) rfl <| Wm (.i p2) rfl <| Wz (.b (decide (y6_0 < p2))) (Obn rfl (fun _ => hb_lss (k := .i64))) <| Nk 4167 1 ⟨.own 0::.i p1::.i p2::tp 3 (.i y6_0::tp 5 (.b (decide (y6_0 < p2))::tp 36 [])), [(.arr 25 1 (List.length y0_0) (flatD (encI .u32) y0_0))], 1⟩ ?_
  rcases tf_ (decide (y6_0 < p2)) with hc12_4 | hc12_4
  ·
   replace hm := cT hc12_4 hm
   refine AiT hc12_4 <| Sk <| Tk 71 1 ⟨.own 0::.i p1::.i p2::tp 3 (.i y6_0::tp 42 []), [(.arr 25 1 (List.length y0_0) (flatD (encI .u32) y0_0))], 1⟩ <| Sq <| Bk <| Sx <| Wm (.i y6_0) rfl <| Wm (.i y6_0) rfl <| Nk 199 1 ⟨.own 0::.i p1::.i p2::tp 3 (.i y6_0::.i y6_0::tp 41 []), [(.arr 25 1 (List.length y0_0) (flatD (encI .u32) y0_0))], 1⟩ <| Bk ?_
   refine AWP.loopI (α := Nat × (List Int) × Int)
     (fun (fu_1, y0_1, y7_1) => (⟨.own 0::.i p1::.i p2::tp 3 (.i y6_0::.i y7_1::tp 41 []), [(.arr 25 1 (List.length y0_1) (flatD (encI .u32) y0_1))], 1⟩ : St))
     (fun (fu_1, y0_1, y7_1) => m_slices_insertionSortOrdered_uint32_l1 p1 y6_0 (fun y0_0 y6_0 => m_slices_insertionSortOrdered_uint32_l0 p1 p2 fu_0 y0_0 y6_0) fu_1 y0_1 y7_1 = some r)
     (fun (fu_1, y0_1, y7_1) => fu_1) (1152921504606846976, y0_0, y6_0)
     (Weak.toK 199 0 0 [0]) hm ?_
   rintro ⟨fu_1, y0_1, y7_1⟩ n_1 hm ih_1
   try dsimp only at hm ih_1 ⊢
   cases fu_1 with
   | zero => exact absurd hm (by unfold m_slices_insertionSortOrdered_uint32_l1; simp)
   | succ fu_1 =>
    unfold m_slices_insertionSortOrdered_uint32_l1 at hm
    refine Sq <| Sq <| Adr <| Wm (.i y7_1) rfl <| Wm (.i p1) rfl <| Wz (.b (decide (p1 < y7_1))) (Obn rfl (fun _ => hb_gtr (k := .i64))) ?_
    rcases tf_ (decide (p1 < y7_1)) with hq19_2 | hq19_2
    ·
     replace hm := cT hq19_2 hm
     refine Wz (.b true) (Oq hq19_2 rfl) <| Wm (.own 0) rfl <| Wm (.i y7_1) rfl ?_
     obtain ⟨x22_2, hx22_2, hm⟩ := bnd hm
     obtain ⟨hx22_2i, hx22_2g⟩ := geti_some hx22_2
     refine Wz (.loc 0 ((Int.toNat y7_1) * 1)) (Oia rfl (encI_len (k := .u32)) hx22_2i hx22_2g) <| Wz (.d (.lit (.int .u32 x22_2))) (Lr1 rfl (encI_len (k := .u32)) hx22_2g) <| Wm (.own 0) rfl <| Wm (.i y7_1) rfl <| Wz (.i (W6 (y7_1 - 1))) (Obn rfl (fun _ => hb_sub (k := .i64))) ?_
     obtain ⟨x27_2, hx27_2, hm⟩ := bnd hm
     obtain ⟨hx27_2i, hx27_2g⟩ := geti_some hx27_2
     refine Wz (.loc 0 ((Int.toNat (W6 (y7_1 - 1))) * 1)) (Oia rfl (encI_len (k := .u32)) hx27_2i hx27_2g) <| Wz (.d (.lit (.int .u32 x27_2))) (Lr1 rfl (encI_len (k := .u32)) hx27_2g) ?_
     obtain ⟨r29_2, hr29_2, hm⟩ := bnd hm
     refine Wz (.b r29_2) (Ocf [] [] [] 0 (ok_cmp_Less_uint32 x22_2 x27_2 r29_2 hr29_2) (fun a w => Try.call58 a w) rfl trivial) <| Wz (.b r29_2) (OpT rfl) <| Wdr <| Tk 1073742023 1 ⟨.own 0::.i p1::.i p2::tp 3 (.i y6_0::.i y7_1::tp 22 (.b r29_2::tp 18 [])), [(.arr 25 1 (List.length y0_1) (flatD (encI .u32) y0_1))], 1⟩ ?_
     rcases tf_ r29_2 with hc30_5 | hc30_5
     ·
      replace hm := cT hc30_5 hm
      refine AiT hc30_5 <| Sk <| Tk 199 1 ⟨.own 0::.i p1::.i p2::tp 3 (.i y6_0::.i y7_1::tp 41 []), [(.arr 25 1 (List.length y0_1) (flatD (encI .u32) y0_1))], 1⟩ <| Sq <| Bk <| Adr <| Wm (.own 0) rfl <| Wm (.i y7_1) rfl <| Wm (.own 0) rfl <| Wm (.i y7_1) rfl <| Wz (.i (W6 (y7_1 - 1))) (Obn rfl (fun _ => hb_sub (k := .i64))) <| Wm (.own 0) rfl <| Wm (.i y7_1) rfl <| Wz (.i (W6 (y7_1 - 1))) (Obn rfl (fun _ => hb_sub (k := .i64))) ?_
      obtain ⟨x41_3, hx41_3, hm⟩ := bnd hm
      obtain ⟨hx41_3i, hx41_3g⟩ := geti_some hx41_3
      refine Wz (.loc 0 ((Int.toNat (W6 (y7_1 - 1))) * 1)) (Oia rfl (encI_len (k := .u32)) hx41_3i hx41_3g) <| Wz (.d (.lit (.int .u32 x41_3))) (Lr1 rfl (encI_len (k := .u32)) hx41_3g) <| Wm (.own 0) rfl <| Wm (.i y7_1) rfl ?_
      obtain ⟨x45_3, hx45_3, hm⟩ := bnd hm
      obtain ⟨hx45_3i, hx45_3g⟩ := geti_some hx45_3
      refine Wz (.loc 0 ((Int.toNat y7_1) * 1)) (Oia rfl (encI_len (k := .u32)) hx45_3i hx45_3g) <| Wz (.d (.lit (.int .u32 x45_3))) (Lr1 rfl (encI_len (k := .u32)) hx45_3g) ?_
      obtain ⟨x47_3, hx47_3, hm⟩ := bnd hm
      obtain ⟨hx47_3i, hx47_3g⟩ := geti_some hx47_3
      refine Wz (.loc 0 ((Int.toNat y7_1) * 1)) (Oia rfl (encI_len (k := .u32)) hx47_3i hx47_3g) <| Wy (.tup []) [(0, (.arr 25 1 (List.length (List.set y0_1 (Int.toNat y7_1) x41_3)) (flatD (encI .u32) (List.set y0_1 (Int.toNat y7_1) x41_3))))] (Osr 0 rfl (encI_len (k := .u32)) hx47_3g x41_3) ?_
      obtain ⟨x48_3, hx48_3, hm⟩ := bnd hm
      obtain ⟨hx48_3i, hx48_3g⟩ := geti_some hx48_3
      refine Wz (.loc 0 ((Int.toNat (W6 (y7_1 - 1))) * 1)) (Oia rfl (encI_len (k := .u32)) hx48_3i hx48_3g) <| Wy (.tup []) [(0, (.arr 25 1 (List.length (List.set (List.set y0_1 (Int.toNat y7_1) x41_3) (Int.toNat (W6 (y7_1 - 1))) x45_3)) (flatD (encI .u32) (List.set (List.set y0_1 (Int.toNat y7_1) x41_3) (Int.toNat (W6 (y7_1 - 1))) x45_3))))] (Osr 0 rfl (encI_len (k := .u32)) hx48_3g x45_3) <| Wdr <| Ino <| Tk 199 1 ⟨.own 0::.i p1::.i p2::tp 3 (.i y6_0::.i y7_1::tp 41 []), [(.arr 25 1 (List.length (List.set (List.set y0_1 (Int.toNat y7_1) x41_3) (Int.toNat (W6 (y7_1 - 1))) x45_3)) (flatD (encI .u32) (List.set (List.set y0_1 (Int.toNat y7_1) x41_3) (Int.toNat (W6 (y7_1 - 1))) x45_3)))], 1⟩ <| Tx <| Wm (.i y7_1) rfl <| Wz (.i (W6 (y7_1 - 1))) (Obn rfl (fun _ => hb_sub (k := .i64))) <| Wm (.i (W6 (y7_1 - 1))) rfl <| Wn0 <| RoundK.normal ?_
      exact Rounds.weak (Weak.toK 199 0 0 [0]) (ih_1 (fu_1, (List.set (List.set y0_1 (Int.toNat y7_1) x41_3) (Int.toNat (W6 (y7_1 - 1))) x45_3), (W6 (y7_1 - 1))) hm (Nat.lt_succ_self _))
     ·
      replace hm := cF hc30_5 hm
      refine AiF hc30_5 <| AWP.exit <| Then.exit <| RoundK.exit <| InBlock.same <| Ino <| Tk 71 1 ⟨.own 0::.i p1::.i p2::tp 3 (.i y6_0::tp 42 []), [(.arr 25 1 (List.length y0_1) (flatD (encI .u32) y0_1))], 1⟩ <| Tx <| Wm (.i y6_0) rfl <| Wz (.i (W6 (y6_0 + 1))) (Obn rfl (fun _ => hb_add (k := .i64))) <| Wm (.i (W6 (y6_0 + 1))) rfl <| Wn0 <| RoundK.normal ?_
      exact Rounds.weak (Weak.toK 71 0 0 [0]) (ih_0 (fu_0, y0_1, (W6 (y6_0 + 1))) hm (Nat.lt_succ_self _))
    ·
     replace hm := cF hq19_2 hm
     refine Wz (.b false) (Oq hq19_2 rfl) <| Wn <| Wn <| Wn <| Wn <| Wn <| Wn <| Wn <| Wn <| Wn <| Wn <| Wz (.b false) (OpF rfl) <| Wdr <| Tk 1073742023 1 ⟨.own 0::.i p1::.i p2::tp 3 (.i y6_0::.i y7_1::tp 22 (.b false::tp 18 [])), [(.arr 25 1 (List.length y0_1) (flatD (encI .u32) y0_1))], 1⟩ ?_
     refine AWP.if_ false (by kernel_rfl) <| AWP.exit <| Then.exit <| RoundK.exit <| InBlock.same <| Ino <| Tk 71 1 ⟨.own 0::.i p1::.i p2::tp 3 (.i y6_0::tp 42 []), [(.arr 25 1 (List.length y0_1) (flatD (encI .u32) y0_1))], 1⟩ <| Tx <| Wm (.i y6_0) rfl <| Wz (.i (W6 (y6_0 + 1))) (Obn rfl (fun _ => hb_add (k := .i64))) <| Wm (.i (W6 (y6_0 + 1))) rfl <| Wn0 <| RoundK.normal ?_
     exact Rounds.weak (Weak.toK 71 0 0 [0]) (ih_0 (fu_0, y0_1, (W6 (y6_0 + 1))) hm (Nat.lt_succ_self _))
  ·
   replace hm := cF hc12_4 hm
   refine AiF hc12_4 <| AWP.exit <| Then.exit <| RoundK.exit <| InBlock.same ?_
   obtain rfl := Option.some.inj hm
   exact ret_n [0]

theorem ok_slices_siftDownOrdered_uint32 (p0 : (List Int)) (p1 : Int) (p2 : Int) (p3 : Int) (r : (List Int)) (h : m_slices_siftDownOrdered_uint32 p0 p1 p2 p3 = some r) : GCall Try.prog 68 [(.own 0), (.i p1), (.i p2), (.i p3)] [(.arr 25 1 (List.length p0) (flatD (encI .u32) p0))] (.tup []) [(.arr 25 1 (List.length r) (flatD (encI .u32) r))] := by
 refine GCall.of_body (n := 76) (rs := []) Try.func68 rfl rfl rfl <| Ato ⟨.own 0::.i p1::.i p2::.i p3::tu 72 [], [(.arr 25 1 (List.length p0) (flatD (encI .u32) p0))], 1⟩ ?_
 have hm := h
 unfold m_slices_siftDownOrdered_uint32 at hm
 refine Sx <| Wm (.i p1) rfl <| Wm (.i p1) rfl <| Nk 269 1 ⟨.own 0::tp 1 (.i p2::.i p3::tp 4 (.i p1::tp 67 [])), [(.arr 25 1 (List.length p0) (flatD (encI .u32) p0))], 1⟩ <| Bk ?_
 refine AWP.loopI (α := Nat × (List Int) × Int)
   (fun (fu_0, y0_0, y8_0) => (⟨.own 0::tp 1 (.i p2::.i p3::tp 4 (.i y8_0::tp 67 [])), [(.arr 25 1 (List.length y0_0) (flatD (encI .u32) y0_0))], 1⟩ : St))
   (fun (fu_0, y0_0, y8_0) => m_slices_siftDownOrdered_uint32_l0 p2 p3 fu_0 y0_0 y8_0 = some r)
   (fun (fu_0, y0_0, y8_0) => fu_0) (1152921504606846976, p0, p1)
   (Weak.toK 269 0 0 [0]) hm ?_
 rintro ⟨fu_0, y0_0, y8_0⟩ n_0 hm ih_0
 try dsimp only at hm ih_0 ⊢
 cases fu_0 with
 | zero => exact absurd hm (by unfold m_slices_siftDownOrdered_uint32_l0; simp)
 | succ fu_0 =>
  unfold m_slices_siftDownOrdered_uint32_l0 at hm
  refine Bk <| Sx <| Wm (.i y8_0) rfl <| Wz (.i (W6 (2 * y8_0))) (Obn rfl (fun _ => hb_mul (k := .i64))) <| Wz (.i (W6 ((W6 (2 * y8_0)) + 1))) (Obn rfl (fun _ => hb_add (k := .i64))) <| Wm (.i (W6 ((W6 (2 * y8_0)) + 1))) rfl <| Nk 781 1 ⟨.own 0::tp 1 (.i p2::.i p3::tp 4 (.i y8_0::.i (W6 ((W6 (2 * y8_0)) + 1))::tp 66 [])), [(.arr 25 1 (List.length y0_0) (flatD (encI .u32) y0_0))], 1⟩ <| Sq <| Sx <| Wm (.i (W6 ((W6 (2 * y8_0)) + 1))) rfl <| Wm (.i p2) rfl <| Wz (.b (decide (p2 ≤ (W6 ((W6 (2 * y8_0)) + 1))))) (Obn rfl (fun _ => hb_geq (k := .i64))) <| Nk 66317 1 ⟨.own 0::tp 1 (.i p2::.i p3::tp 4 (.i y8_0::.i (W6 ((W6 (2 * y8_0)) + 1))::tp 6 (.b (decide (p2 ≤ (W6 ((W6 (2 * y8_0)) + 1))))::tp 59 []))), [(.arr 25 1 (List.length y0_0) (flatD (encI .u32) y0_0))], 1⟩ ?_
  rcases tf_ (decide (p2 ≤ (W6 ((W6 (2 * y8_0)) + 1)))) with hc16_5 | hc16_5
  ·
   replace hm := cT hc16_5 hm
   refine AiT hc16_5 <| AWP.exit <| Then.exit <| InBlock.other (by rfl) <| RoundK.exit <| InBlock.same ?_
   obtain rfl := Option.some.inj hm
   exact ret_n [0]
  ·
   replace hm := cF hc16_5 hm
   refine AiF hc16_5 <| Sk <| Tk 781 1 ⟨.own 0::tp 1 (.i p2::.i p3::tp 4 (.i y8_0::.i (W6 ((W6 (2 * y8_0)) + 1))::tp 66 [])), [(.arr 25 1 (List.length y0_0) (flatD (encI .u32) y0_0))], 1⟩ ?_
   refine AWP.cutJ (α := Int) (fun x => match x with | y9_2 => (⟨.own 0::tp 1 (.i p2::.i p3::tp 4 (.i y8_0::.i y9_2::tp 66 [])), [(.arr 25 1 (List.length y0_0) (flatD (encI .u32) y0_0))], 1⟩ : St)) (fun x => match x with | y9_2 => m_slices_siftDownOrdered_uint32_j2 p3 y0_0 y8_0 (fun y0_0 y8_0 => m_slices_siftDownOrdered_uint32_l0 p2 p3 fu_0 y0_0 y8_0) y9_2 = some r) ?_ (fun J2 => ?_)
   ·
    rintro y9_2 hm
    try dsimp only at hm ⊢
    unfold m_slices_siftDownOrdered_uint32_j2 at hm
    refine Sq <| Sq <| Adr <| Wm (.own 0) rfl <| Wm (.i p3) rfl <| Wm (.i y8_0) rfl <| Wz (.i (W6 (p3 + y8_0))) (Obn rfl (fun _ => hb_add (k := .i64))) ?_
    obtain ⟨x43_3, hx43_3, hm⟩ := bnd hm
    obtain ⟨hx43_3i, hx43_3g⟩ := geti_some hx43_3
    refine Wz (.loc 0 ((Int.toNat (W6 (p3 + y8_0))) * 1)) (Oia rfl (encI_len (k := .u32)) hx43_3i hx43_3g) <| Wz (.d (.lit (.int .u32 x43_3))) (Lr1 rfl (encI_len (k := .u32)) hx43_3g) <| Wm (.own 0) rfl <| Wm (.i p3) rfl <| Wm (.i y9_2) rfl <| Wz (.i (W6 (p3 + y9_2))) (Obn rfl (fun _ => hb_add (k := .i64))) ?_
    obtain ⟨x49_3, hx49_3, hm⟩ := bnd hm
    obtain ⟨hx49_3i, hx49_3g⟩ := geti_some hx49_3
    refine Wz (.loc 0 ((Int.toNat (W6 (p3 + y9_2))) * 1)) (Oia rfl (encI_len (k := .u32)) hx49_3i hx49_3g) <| Wz (.d (.lit (.int .u32 x49_3))) (Lr1 rfl (encI_len (k := .u32)) hx49_3g) ?_
    obtain ⟨r51_3, hr51_3, hm⟩ := bnd hm
    refine Wz (.b r51_3) (Ocf [] [] [] 0 (ok_cmp_Less_uint32 x43_3 x49_3 r51_3 hr51_3) (fun a w => Try.call58 a w) rfl trivial) <| Wz (.b (!r51_3)) (Ocs (by kernel_rfl) (op_un rfl (a1 := .bool r51_3) (by kernel_rfl) (fun _ => hu_not))) <| Wdr <| Tk 4503599627371277 1 ⟨.own 0::tp 1 (.i p2::.i p3::tp 4 (.i y8_0::.i y9_2::tp 42 (.b (!r51_3)::tp 23 []))), [(.arr 25 1 (List.length y0_0) (flatD (encI .u32) y0_0))], 1⟩ ?_
    rcases tf_ (!r51_3) with hc52_6 | hc52_6
    ·
     replace hm := cT hc52_6 hm
     refine AiT hc52_6 <| Rt <| Tr <| Ir <| RoundK.ret <| Ir ?_
     obtain rfl := Option.some.inj hm
     exact ret_i [0]
    ·
     replace hm := cF hc52_6 hm
     refine AiF hc52_6 <| Sk <| Tk 781 1 ⟨.own 0::tp 1 (.i p2::.i p3::tp 4 (.i y8_0::.i y9_2::tp 66 [])), [(.arr 25 1 (List.length y0_0) (flatD (encI .u32) y0_0))], 1⟩ <| Sq <| Adr <| Wm (.own 0) rfl <| Wm (.i p3) rfl <| Wm (.i y8_0) rfl <| Wz (.i (W6 (p3 + y8_0))) (Obn rfl (fun _ => hb_add (k := .i64))) <| Wm (.own 0) rfl <| Wm (.i p3) rfl <| Wm (.i y9_2) rfl <| Wz (.i (W6 (p3 + y9_2))) (Obn rfl (fun _ => hb_add (k := .i64))) <| Wm (.own 0) rfl ?_
     refine Wm (.i p3) rfl <| Wm (.i y9_2) rfl <| Wz (.i (W6 (p3 + y9_2))) (Obn rfl (fun _ => hb_add (k := .i64))) ?_
     obtain ⟨x65_4, hx65_4, hm⟩ := bnd hm
     obtain ⟨hx65_4i, hx65_4g⟩ := geti_some hx65_4
     refine Wz (.loc 0 ((Int.toNat (W6 (p3 + y9_2))) * 1)) (Oia rfl (encI_len (k := .u32)) hx65_4i hx65_4g) <| Wz (.d (.lit (.int .u32 x65_4))) (Lr1 rfl (encI_len (k := .u32)) hx65_4g) <| Wm (.own 0) rfl <| Wm (.i p3) rfl <| Wm (.i y8_0) rfl <| Wz (.i (W6 (p3 + y8_0))) (Obn rfl (fun _ => hb_add (k := .i64))) ?_
     obtain ⟨x71_4, hx71_4, hm⟩ := bnd hm
     obtain ⟨hx71_4i, hx71_4g⟩ := geti_some hx71_4
     refine Wz (.loc 0 ((Int.toNat (W6 (p3 + y8_0))) * 1)) (Oia rfl (encI_len (k := .u32)) hx71_4i hx71_4g) <| Wz (.d (.lit (.int .u32 x71_4))) (Lr1 rfl (encI_len (k := .u32)) hx71_4g) ?_
     obtain ⟨x73_4, hx73_4, hm⟩ := bnd hm
     obtain ⟨hx73_4i, hx73_4g⟩ := geti_some hx73_4
     refine Wz (.loc 0 ((Int.toNat (W6 (p3 + y8_0))) * 1)) (Oia rfl (encI_len (k := .u32)) hx73_4i hx73_4g) <| Wy (.tup []) [(0, (.arr 25 1 (List.length (List.set y0_0 (Int.toNat (W6 (p3 + y8_0))) x65_4)) (flatD (encI .u32) (List.set y0_0 (Int.toNat (W6 (p3 + y8_0))) x65_4))))] (Osr 0 rfl (encI_len (k := .u32)) hx73_4g x65_4) ?_
     obtain ⟨x74_4, hx74_4, hm⟩ := bnd hm
     obtain ⟨hx74_4i, hx74_4g⟩ := geti_some hx74_4
     refine Wz (.loc 0 ((Int.toNat (W6 (p3 + y9_2))) * 1)) (Oia rfl (encI_len (k := .u32)) hx74_4i hx74_4g) <| Wy (.tup []) [(0, (.arr 25 1 (List.length (List.set (List.set y0_0 (Int.toNat (W6 (p3 + y8_0))) x65_4) (Int.toNat (W6 (p3 + y9_2))) x71_4)) (flatD (encI .u32) (List.set (List.set y0_0 (Int.toNat (W6 (p3 + y8_0))) x65_4) (Int.toNat (W6 (p3 + y9_2))) x71_4))))] (Osr 0 rfl (encI_len (k := .u32)) hx74_4g x71_4) <| Wdr <| Tk 525 1 ⟨.own 0::tp 1 (.i p2::.i p3::tp 5 (.i y9_2::tp 66 [])), [(.arr 25 1 (List.length (List.set (List.set y0_0 (Int.toNat (W6 (p3 + y8_0))) x65_4) (Int.toNat (W6 (p3 + y9_2))) x71_4)) (flatD (encI .u32) (List.set (List.set y0_0 (Int.toNat (W6 (p3 + y8_0))) x65_4) (Int.toNat (W6 (p3 + y9_2))) x71_4)))], 1⟩ <| Tx <| Wm (.i y9_2) rfl <| Wm (.i y9_2) rfl <| Wn0 <| Ino <| RoundK.normal ?_
     exact Rounds.weak (Weak.toK 269 0 0 [0]) (ih_0 (fu_0, (List.set (List.set y0_0 (Int.toNat (W6 (p3 + y8_0))) x65_4) (Int.toNat (W6 (p3 + y9_2))) x71_4), y9_2) hm (Nat.lt_succ_self _))
   refine Sq <| Sq <| Adr <| Wm (.i (W6 ((W6 (2 * y8_0)) + 1))) rfl <| Wz (.i (W6 ((W6 ((W6 (2 * y8_0)) + 1)) + 1))) (Obn rfl (fun _ => hb_add (k := .i64))) <| Wm (.i p2) rfl <| Wz (.b (decide ((W6 ((W6 ((W6 (2 * y8_0)) + 1)) + 1)) < p2))) (Obn rfl (fun _ => hb_lss (k := .i64))) ?_
   rcases tf_ (decide ((W6 ((W6 ((W6 (2 * y8_0)) + 1)) + 1)) < p2)) with hq21_1 | hq21_1
   ·
    replace hm := cT hq21_1 hm
    refine Wz (.b true) (Oq hq21_1 rfl) <| Wm (.own 0) rfl <| Wm (.i p3) rfl <| Wm (.i (W6 ((W6 (2 * y8_0)) + 1))) rfl <| Wz (.i (W6 (p3 + (W6 ((W6 (2 * y8_0)) + 1))))) (Obn rfl (fun _ => hb_add (k := .i64))) ?_
    obtain ⟨x26_1, hx26_1, hm⟩ := bnd hm
    obtain ⟨hx26_1i, hx26_1g⟩ := geti_some hx26_1
    refine Wz (.loc 0 ((Int.toNat (W6 (p3 + (W6 ((W6 (2 * y8_0)) + 1))))) * 1)) (Oia rfl (encI_len (k := .u32)) hx26_1i hx26_1g) <| Wz (.d (.lit (.int .u32 x26_1))) (Lr1 rfl (encI_len (k := .u32)) hx26_1g) <| Wm (.own 0) rfl <| Wm (.i p3) rfl <| Wm (.i (W6 ((W6 (2 * y8_0)) + 1))) rfl <| Wz (.i (W6 (p3 + (W6 ((W6 (2 * y8_0)) + 1))))) (Obn rfl (fun _ => hb_add (k := .i64))) <| Wz (.i (W6 ((W6 (p3 + (W6 ((W6 (2 * y8_0)) + 1)))) + 1))) (Obn rfl (fun _ => hb_add (k := .i64))) ?_
    obtain ⟨x33_1, hx33_1, hm⟩ := bnd hm
    obtain ⟨hx33_1i, hx33_1g⟩ := geti_some hx33_1
    refine Wz (.loc 0 ((Int.toNat (W6 ((W6 (p3 + (W6 ((W6 (2 * y8_0)) + 1)))) + 1))) * 1)) (Oia rfl (encI_len (k := .u32)) hx33_1i hx33_1g) <| Wz (.d (.lit (.int .u32 x33_1))) (Lr1 rfl (encI_len (k := .u32)) hx33_1g) ?_
    obtain ⟨r35_1, hr35_1, hm⟩ := bnd hm
    refine Wz (.b r35_1) (Ocf [] [] [] 0 (ok_cmp_Less_uint32 x26_1 x33_1 r35_1 hr35_1) (fun a w => Try.call58 a w) rfl trivial) <| Wz (.b r35_1) (OpT rfl) <| Wdr <| Tk 68719477517 1 ⟨.own 0::tp 1 (.i p2::.i p3::tp 4 (.i y8_0::.i (W6 ((W6 (2 * y8_0)) + 1))::tp 26 (.b r35_1::tp 39 []))), [(.arr 25 1 (List.length y0_0) (flatD (encI .u32) y0_0))], 1⟩ ?_
    rcases tf_ r35_1 with hc36_7 | hc36_7
    ·
     replace hm := cT hc36_7 hm
     refine AiT hc36_7 <| Tx <| Wm (.i (W6 ((W6 (2 * y8_0)) + 1))) rfl <| Wz (.i (W6 ((W6 ((W6 (2 * y8_0)) + 1)) + 1))) (Obn rfl (fun _ => hb_add (k := .i64))) <| Wm (.i (W6 ((W6 ((W6 (2 * y8_0)) + 1)) + 1))) rfl <| Nn ?_
     exact AWP.weak (Weak.toK 781 0 0 [0]) (J2 ((W6 ((W6 ((W6 (2 * y8_0)) + 1)) + 1))) hm)
    ·
     replace hm := cF hc36_7 hm
     refine AiF hc36_7 <| Sk <| Tn ?_
     exact AWP.weak (Weak.toK 781 0 0 [0]) (J2 ((W6 ((W6 (2 * y8_0)) + 1))) hm)
   ·
    replace hm := cF hq21_1 hm
    refine Wz (.b false) (Oq hq21_1 rfl) <| Wn <| Wn <| Wn <| Wn <| Wn <| Wn <| Wn <| Wn <| Wn <| Wn <| Wn <| Wn <| Wn ?_
    refine Wn <| Wz (.b false) (OpF rfl) <| Wdr <| Tk 68719477517 1 ⟨.own 0::tp 1 (.i p2::.i p3::tp 4 (.i y8_0::.i (W6 ((W6 (2 * y8_0)) + 1))::tp 26 (.b false::tp 39 []))), [(.arr 25 1 (List.length y0_0) (flatD (encI .u32) y0_0))], 1⟩ <| AWP.if_ false (by kernel_rfl) <| Sk <| Tn ?_
    exact AWP.weak (Weak.toK 781 0 0 [0]) (J2 ((W6 ((W6 (2 * y8_0)) + 1))) hm)

theorem ok_slices_heapSortOrdered_uint32 (p0 : (List Int)) (p1 : Int) (p2 : Int) (r : (List Int)) (h : m_slices_heapSortOrdered_uint32 p0 p1 p2 = some r) : GCall Try.prog 53 [(.own 0), (.i p1), (.i p2)] [(.arr 25 1 (List.length p0) (flatD (encI .u32) p0))] (.tup []) [(.arr 25 1 (List.length r) (flatD (encI .u32) r))] := by
 refine GCall.of_body (n := 56) (rs := []) Try.func53 rfl rfl rfl <| Ato ⟨.own 0::.i p1::.i p2::tu 53 [], [(.arr 25 1 (List.length p0) (flatD (encI .u32) p0))], 1⟩ ?_
 have hm := h
 unfold m_slices_heapSortOrdered_uint32 at hm
 refine Sx <| Wm (.i p1) rfl <| Wm (.i p1) rfl <| Nk 71 1 ⟨.own 0::.i p1::.i p2::tp 3 (.i p1::tp 49 []), [(.arr 25 1 (List.length p0) (flatD (encI .u32) p0))], 1⟩ <| Sx <| Wm (.i 0) rfl <| Nk 199 1 ⟨.own 0::.i p1::.i p2::tp 3 (.i p1::.i 0::tp 48 []), [(.arr 25 1 (List.length p0) (flatD (encI .u32) p0))], 1⟩ <| Sx <| Wm (.i p2) rfl <| Wm (.i p1) rfl <| Wz (.i (W6 (p2 - p1))) (Obn rfl (fun _ => hb_sub (k := .i64))) <| Wm (.i (W6 (p2 - p1))) rfl <| Nk 449 1 ⟨.own 0::tp 5 (.i p1::.i 0::.i (W6 (p2 - p1))::tp 47 []), [(.arr 25 1 (List.length p0) (flatD (encI .u32) p0))], 1⟩ <| Sq ?_
 refine Sx <| Wm (.i (W6 (p2 - p1))) rfl <| Wz (.i (W6 ((W6 (p2 - p1)) - 1))) (Obn rfl (fun _ => hb_sub (k := .i64))) <| Wz (.i (W6 (Int.tdiv (W6 ((W6 (p2 - p1)) - 1)) 2))) (Ob2 (.int .i64 (W6 ((W6 (p2 - p1)) - 1))) (.int .i64 2) rfl (fun _ => hb_quo (by decide))) <| Wm (.i (W6 (Int.tdiv (W6 ((W6 (p2 - p1)) - 1)) 2))) rfl <| Nk 961 1 ⟨.own 0::tp 5 (.i p1::.i 0::.i (W6 (p2 - p1))::.i (W6 (Int.tdiv (W6 ((W6 (p2 - p1)) - 1)) 2))::tp 46 []), [(.arr 25 1 (List.length p0) (flatD (encI .u32) p0))], 1⟩ <| Bk ?_
 refine AWP.loopI (α := Nat × (List Int) × Int)
   (fun (fu_0, y0_0, y9_0) => (⟨.own 0::tp 5 (.i p1::.i 0::.i (W6 (p2 - p1))::.i y9_0::tp 46 []), [(.arr 25 1 (List.length y0_0) (flatD (encI .u32) y0_0))], 1⟩ : St))
   (fun (fu_0, y0_0, y9_0) => m_slices_heapSortOrdered_uint32_l0 p1 p2 fu_0 y0_0 y9_0 = some r)
   (fun (fu_0, y0_0, y9_0) => fu_0) (1152921504606846976, p0, (W6 (Int.tdiv (W6 ((W6 (p2 - p1)) - 1)) 2)))
   (Weak.toK 961 0 0 [0]) hm ?_
 rintro ⟨fu_0, y0_0, y9_0⟩ n_0 hm ih_0
 try dsimp only at hm ih_0 ⊢
 cases fu_0 with
 | zero => exact absurd hm (by unfold m_slices_heapSortOrdered_uint32_l0; simp)
 | succ fu_0 =>
  unfold m_slices_heapSortOrdered_uint32_l0 at hm
  refine Sq <| Sx <| Wm (.i y9_0) rfl <| Wz (.b (decide ((0 : Int) ≤ y9_0))) (Obn rfl (fun _ => hb_geq (k := .i64))) <| Nk 525249 1 ⟨.own 0::tp 5 (.i p1::.i 0::.i (W6 (p2 - p1))::.i y9_0::tp 9 (.b (decide ((0 : Int) ≤ y9_0))::tp 36 [])), [(.arr 25 1 (List.length y0_0) (flatD (encI .u32) y0_0))], 1⟩ ?_
  rcases tf_ (decide ((0 : Int) ≤ y9_0)) with hc19_5 | hc19_5
  ·
   replace hm := cT hc19_5 hm
   refine AiT hc19_5 <| Sk <| Tk 961 1 ⟨.own 0::tp 5 (.i p1::.i 0::.i (W6 (p2 - p1))::.i y9_0::tp 46 []), [(.arr 25 1 (List.length y0_0) (flatD (encI .u32) y0_0))], 1⟩ <| Sq <| Bk <| Tx <| Wm (.own 0) rfl <| Wm (.i y9_0) rfl <| Wm (.i (W6 (p2 - p1))) rfl <| Wm (.i p1) rfl ?_
   obtain ⟨r26_1, hr26_1, hm⟩ := bnd hm
   refine Wy (.tup []) [(0, (.arr 25 1 (List.length r26_1) (flatD (encI .u32) r26_1)))] (Ocf [0] [] [] 0 (ok_slices_siftDownOrdered_uint32 y0_0 y9_0 (W6 (p2 - p1)) p1 r26_1 hr26_1) (fun a w => Try.call68 a w) rfl ⟨rfl, trivial⟩) <| Wn0 <| Ino <| Tk 961 1 ⟨.own 0::tp 5 (.i p1::.i 0::.i (W6 (p2 - p1))::.i y9_0::tp 46 []), [(.arr 25 1 (List.length r26_1) (flatD (encI .u32) r26_1))], 1⟩ <| Tx <| Wm (.i y9_0) rfl <| Wz (.i (W6 (y9_0 - 1))) (Obn rfl (fun _ => hb_sub (k := .i64))) <| Wm (.i (W6 (y9_0 - 1))) rfl <| Wn0 <| RoundK.normal ?_
   exact Rounds.weak (Weak.toK 961 0 0 [0]) (ih_0 (fu_0, r26_1, (W6 (y9_0 - 1))) hm (Nat.lt_succ_self _))
  ·
   replace hm := cF hc19_5 hm
   refine AiF hc19_5 <| AWP.exit <| Then.exit <| RoundK.exit <| InBlock.same <| Tk 449 1 ⟨.own 0::tp 5 (.i p1::.i 0::.i (W6 (p2 - p1))::tp 47 []), [(.arr 25 1 (List.length y0_0) (flatD (encI .u32) y0_0))], 1⟩ <| Sx <| Wm (.i (W6 (p2 - p1))) rfl <| Wz (.i (W6 ((W6 (p2 - p1)) - 1))) (Obn rfl (fun _ => hb_sub (k := .i64))) <| Wm (.i (W6 ((W6 (p2 - p1)) - 1))) rfl <| Nk 1217 1 ⟨.own 0::tp 5 (.i p1::.i 0::tp 2 (.i (W6 ((W6 (p2 - p1)) - 1))::tp 45 [])), [(.arr 25 1 (List.length y0_0) (flatD (encI .u32) y0_0))], 1⟩ <| Bk ?_
   refine AWP.loopI (α := Nat × (List Int) × Int)
     (fun (fu_2, y0_2, y10_2) => (⟨.own 0::tp 5 (.i p1::.i 0::tp 2 (.i y10_2::tp 45 [])), [(.arr 25 1 (List.length y0_2) (flatD (encI .u32) y0_2))], 1⟩ : St))
     (fun (fu_2, y0_2, y10_2) => m_slices_heapSortOrdered_uint32_l2 p1 fu_2 y0_2 y10_2 = some r)
     (fun (fu_2, y0_2, y10_2) => fu_2) (1152921504606846976, y0_0, (W6 ((W6 (p2 - p1)) - 1)))
     (Weak.toK 1217 0 0 [0]) hm ?_
   rintro ⟨fu_2, y0_2, y10_2⟩ n_2 hm ih_2
   try dsimp only at hm ih_2 ⊢
   cases fu_2 with
   | zero => exact absurd hm (by unfold m_slices_heapSortOrdered_uint32_l2; simp)
   | succ fu_2 =>
    unfold m_slices_heapSortOrdered_uint32_l2 at hm
    refine Sq <| Sx <| Wm (.i y10_2) rfl <| Wz (.b (decide ((0 : Int) ≤ y10_2))) (Obn rfl (fun _ => hb_geq (k := .i64))) <| Nk 1073743041 1 ⟨.own 0::tp 5 (.i p1::.i 0::tp 2 (.i y10_2::tp 19 (.b (decide ((0 : Int) ≤ y10_2))::tp 25 []))), [(.arr 25 1 (List.length y0_2) (flatD (encI .u32) y0_2))], 1⟩ ?_
    rcases tf_ (decide ((0 : Int) ≤ y10_2)) with hc30_6 | hc30_6
    ·
     replace hm := cT hc30_6 hm
     refine AiT hc30_6 <| Sk <| Tk 1217 1 ⟨.own 0::tp 5 (.i p1::.i 0::tp 2 (.i y10_2::tp 45 [])), [(.arr 25 1 (List.length y0_2) (flatD (encI .u32) y0_2))], 1⟩ <| Sq <| Bk <| Sq <| Adr <| Wm (.own 0) rfl <| Wm (.i p1) rfl <| Wm (.own 0) rfl <| Wm (.i p1) rfl <| Wm (.i y10_2) rfl <| Wz (.i (W6 (p1 + y10_2))) (Obn rfl (fun _ => hb_add (k := .i64))) <| Wm (.own 0) rfl ?_
     refine Wm (.i p1) rfl <| Wm (.i y10_2) rfl <| Wz (.i (W6 (p1 + y10_2))) (Obn rfl (fun _ => hb_add (k := .i64))) ?_
     obtain ⟨x43_3, hx43_3, hm⟩ := bnd hm
     obtain ⟨hx43_3i, hx43_3g⟩ := geti_some hx43_3
     refine Wz (.loc 0 ((Int.toNat (W6 (p1 + y10_2))) * 1)) (Oia rfl (encI_len (k := .u32)) hx43_3i hx43_3g) <| Wz (.d (.lit (.int .u32 x43_3))) (Lr1 rfl (encI_len (k := .u32)) hx43_3g) <| Wm (.own 0) rfl <| Wm (.i p1) rfl ?_
     obtain ⟨x47_3, hx47_3, hm⟩ := bnd hm
     obtain ⟨hx47_3i, hx47_3g⟩ := geti_some hx47_3
     refine Wz (.loc 0 ((Int.toNat p1) * 1)) (Oia rfl (encI_len (k := .u32)) hx47_3i hx47_3g) <| Wz (.d (.lit (.int .u32 x47_3))) (Lr1 rfl (encI_len (k := .u32)) hx47_3g) ?_
     obtain ⟨x49_3, hx49_3, hm⟩ := bnd hm
     obtain ⟨hx49_3i, hx49_3g⟩ := geti_some hx49_3
     refine Wz (.loc 0 ((Int.toNat p1) * 1)) (Oia rfl (encI_len (k := .u32)) hx49_3i hx49_3g) <| Wy (.tup []) [(0, (.arr 25 1 (List.length (List.set y0_2 (Int.toNat p1) x43_3)) (flatD (encI .u32) (List.set y0_2 (Int.toNat p1) x43_3))))] (Osr 0 rfl (encI_len (k := .u32)) hx49_3g x43_3) ?_
     obtain ⟨x50_3, hx50_3, hm⟩ := bnd hm
     obtain ⟨hx50_3i, hx50_3g⟩ := geti_some hx50_3
     refine Wz (.loc 0 ((Int.toNat (W6 (p1 + y10_2))) * 1)) (Oia rfl (encI_len (k := .u32)) hx50_3i hx50_3g) <| Wy (.tup []) [(0, (.arr 25 1 (List.length (List.set (List.set y0_2 (Int.toNat p1) x43_3) (Int.toNat (W6 (p1 + y10_2))) x47_3)) (flatD (encI .u32) (List.set (List.set y0_2 (Int.toNat p1) x43_3) (Int.toNat (W6 (p1 + y10_2))) x47_3))))] (Osr 0 rfl (encI_len (k := .u32)) hx50_3g x47_3) <| Wdr <| Tk 1217 1 ⟨.own 0::tp 5 (.i p1::.i 0::tp 2 (.i y10_2::tp 45 [])), [(.arr 25 1 (List.length (List.set (List.set y0_2 (Int.toNat p1) x43_3) (Int.toNat (W6 (p1 + y10_2))) x47_3)) (flatD (encI .u32) (List.set (List.set y0_2 (Int.toNat p1) x43_3) (Int.toNat (W6 (p1 + y10_2))) x47_3)))], 1⟩ <| Tx <| Wm (.own 0) rfl <| Wm (.i 0) rfl <| Wm (.i y10_2) rfl <| Wm (.i p1) rfl ?_
     obtain ⟨r55_4, hr55_4, hm⟩ := bnd hm
     refine Wy (.tup []) [(0, (.arr 25 1 (List.length r55_4) (flatD (encI .u32) r55_4)))] (Ocf [0] [] [] 0 (ok_slices_siftDownOrdered_uint32 (List.set (List.set y0_2 (Int.toNat p1) x43_3) (Int.toNat (W6 (p1 + y10_2))) x47_3) 0 y10_2 p1 r55_4 hr55_4) (fun a w => Try.call68 a w) rfl ⟨rfl, trivial⟩) <| Wn0 <| Ino <| Tk 1217 1 ⟨.own 0::tp 5 (.i p1::.i 0::tp 2 (.i y10_2::tp 45 [])), [(.arr 25 1 (List.length r55_4) (flatD (encI .u32) r55_4))], 1⟩ <| Tx <| Wm (.i y10_2) rfl <| Wz (.i (W6 (y10_2 - 1))) (Obn rfl (fun _ => hb_sub (k := .i64))) <| Wm (.i (W6 (y10_2 - 1))) rfl <| Wn0 <| RoundK.normal ?_
     exact Rounds.weak (Weak.toK 1217 0 0 [0]) (ih_2 (fu_2, r55_4, (W6 (y10_2 - 1))) hm (Nat.lt_succ_self _))
    ·
     replace hm := cF hc30_6 hm
     refine AiF hc30_6 <| AWP.exit <| Then.exit <| RoundK.exit <| InBlock.same ?_
     obtain rfl := Option.some.inj hm
     exact ret_n [0]

theorem ok_slices_order2Ordered_uint32 (p0 : (List Int)) (p1 : Int) (p2 : Int) (p3 : Int) (r : (Int × Int × Int)) (h : m_slices_order2Ordered_uint32 p0 p1 p2 p3 = some r) : GCall Try.prog 75 [(.l (encI .u32) p0), (.i p1), (.i p2), (.loc 0 0)] [(.box [(.i p3)])] (.tup [(.i r.1), (.i r.2.1)]) [(.box [(.i r.2.2)])] := by
 refine GCall.of_body (n := 28) (rs := [(.tmp 8), (.tmp 9)]) Try.func75 rfl rfl rfl <| Ato ⟨.l (encI .u32) p0::.i p1::.i p2::.loc 0 0::tu 24 [], [(.box [(.i p3)])], 1⟩ ?_
 have hm := h
 unfold m_slices_order2Ordered_uint32 at hm
 refine Sx <| Wm (.i 0) rfl <| Wm (.i 0) rfl <| Nk 15 1 ⟨.l (encI .u32) p0::.i p1::.i p2::.loc 0 0::tp 24 [], [(.box [(.i p3)])], 1⟩ <| Sq <| Sq <| Adr <| Wm (.l (encI .u32) p0) rfl <| Wm (.i p2) rfl ?_
 obtain ⟨x12_0, hx12_0, hm⟩ := bnd hm
 obtain ⟨hx12_0i, hx12_0g⟩ := geti_some hx12_0
 refine Wz (.d (.ref (List.drop ((Int.toNat p2) * 1) (flatD (encI .u32) p0)))) (Oia rfl (encI_len (k := .u32)) hx12_0i hx12_0g) <| Wz (.d (.lit (.int .u32 x12_0))) (Lf1 rfl (encI_len (k := .u32)) hx12_0g) <| Wm (.l (encI .u32) p0) rfl <| Wm (.i p1) rfl ?_
 obtain ⟨x16_0, hx16_0, hm⟩ := bnd hm
 obtain ⟨hx16_0i, hx16_0g⟩ := geti_some hx16_0
 refine Wz (.d (.ref (List.drop ((Int.toNat p1) * 1) (flatD (encI .u32) p0)))) (Oia rfl (encI_len (k := .u32)) hx16_0i hx16_0g) <| Wz (.d (.lit (.int .u32 x16_0))) (Lf1 rfl (encI_len (k := .u32)) hx16_0g) ?_
 obtain ⟨r18_0, hr18_0, hm⟩ := bnd hm
 refine Wz (.b r18_0) (Ocf [] [] [] 0 (ok_cmp_Less_uint32 x12_0 x16_0 r18_0 hr18_0) (fun a w => Try.call58 a w) rfl trivial) <| Wdr <| Tk 262158 1 ⟨tp 1 (.i p1::.i p2::.loc 0 0::tp 14 (.b r18_0::tp 9 [])), [(.box [(.i p3)])], 1⟩ ?_
 rcases tf_ r18_0 with hc18_1 | hc18_1
 ·
  replace hm := cT hc18_1 hm
  refine AiT hc18_1 <| Sx <| Wm (.loc 0 0) rfl <| Wz (.loc 0 0) (op_nilCheckLoc rfl (id := 0) (off := 0) (xs := [(.i p3)]) (by kernel_rfl) (by kernel_rfl)) <| Wz (.i p3) (Old rfl) <| Wz (.i (W6 (p3 + 1))) (Obn rfl (fun _ => hb_add (k := .i64))) <| Wz (.loc 0 0) (op_nilCheckLoc rfl (id := 0) (off := 0) (xs := [(.i p3)]) (by kernel_rfl) (by kernel_rfl)) <| Wy (.tup []) [(0, (.box [(.i (W6 (p3 + 1)))]))] (Ost rfl) <| Nk 6 1 ⟨tp 1 (.i p1::.i p2::tp 25 []), [(.box [(.i (W6 (p3 + 1)))])], 1⟩ <| Sx <| Wm (.i p2) rfl <| Wm (.i p1) rfl <| Wm (.i p2) rfl <| Wm (.i p1) rfl ?_
  refine Nn <| Rt <| Tr ?_
  obtain rfl := Option.some.inj hm
  exact ret_i [0]
 ·
  replace hm := cF hc18_1 hm
  refine AiF hc18_1 <| Sk <| Tk 6 1 ⟨tp 1 (.i p1::.i p2::tp 25 []), [(.box [(.i p3)])], 1⟩ <| Sx <| Wm (.i p1) rfl <| Wm (.i p2) rfl <| Wm (.i p1) rfl <| Wm (.i p2) rfl <| Nn <| Rt ?_
  obtain rfl := Option.some.inj hm
  exact ret_i [0]

theorem ok_slices_medianOrdered_uint32 (p0 : (List Int)) (p1 : Int) (p2 : Int) (p3 : Int) (p4 : Int) (r : (Int × Int)) (h : m_slices_medianOrdered_uint32 p0 p1 p2 p3 p4 = some r) : GCall Try.prog 72 [(.l (encI .u32) p0), (.i p1), (.i p2), (.i p3), (.loc 0 0)] [(.box [(.i p4)])] (.i r.1) [(.box [(.i r.2)])] := by
 refine GCall.of_body (n := 36) (rs := [(.tmp 10)]) Try.func72 rfl rfl rfl <| Ato ⟨.l (encI .u32) p0::.i p1::.i p2::.i p3::.loc 0 0::tu 31 [], [(.box [(.i p4)])], 1⟩ ?_
 have hm := h
 unfold m_slices_medianOrdered_uint32 at hm
 refine Sx <| Wm (.i 0) rfl <| Nk 31 1 ⟨.l (encI .u32) p0::.i p1::.i p2::.i p3::.loc 0 0::tp 31 [], [(.box [(.i p4)])], 1⟩ <| Sx <| Wm (.l (encI .u32) p0) rfl <| Wm (.i p1) rfl <| Wm (.i p2) rfl <| Wm (.loc 0 0) rfl ?_
 obtain ⟨r16_0, hr16_0, hm⟩ := bnd hm
 refine Wy (.tup [(.i r16_0.1), (.i r16_0.2.1)]) [(0, (.box [(.i r16_0.2.2)]))] (Ocf [0] [] [] 0 (ok_slices_order2Ordered_uint32 p0 p1 p2 p4 r16_0 hr16_0) (fun a w => Try.call75 a w) rfl ⟨rfl, trivial⟩) <| Wm (.tup [(.i r16_0.1), (.i r16_0.2.1)]) rfl <| Wz (.i r16_0.1) (Oex rfl) <| Wz (.i r16_0.2.1) (Oex rfl) <| Wm (.i r16_0.1) rfl <| Wm (.i r16_0.2.1) rfl <| Nk 31 1 ⟨.l (encI .u32) p0::.i r16_0.1::.i r16_0.2.1::.i p3::.loc 0 0::tp 31 [], [(.box [(.i r16_0.2.2)])], 1⟩ <| Sx <| Wm (.l (encI .u32) p0) rfl <| Wm (.i r16_0.2.1) rfl <| Wm (.i p3) rfl <| Wm (.loc 0 0) rfl ?_
 obtain ⟨r24_1, hr24_1, hm⟩ := bnd hm
 refine Wy (.tup [(.i r24_1.1), (.i r24_1.2.1)]) [(0, (.box [(.i r24_1.2.2)]))] (Ocf [0] [] [] 0 (ok_slices_order2Ordered_uint32 p0 r16_0.2.1 p3 r16_0.2.2 r24_1 hr24_1) (fun a w => Try.call75 a w) rfl ⟨rfl, trivial⟩) <| Wm (.tup [(.i r24_1.1), (.i r24_1.2.1)]) rfl <| Wz (.i r24_1.1) (Oex rfl) <| Wz (.i r24_1.2.1) (Oex rfl) <| Wm (.i r24_1.1) rfl <| Wm (.i r24_1.2.1) rfl <| Nk 23 1 ⟨.l (encI .u32) p0::.i r16_0.1::.i r24_1.1::tp 1 (.loc 0 0::tp 31 []), [(.box [(.i r24_1.2.2)])], 1⟩ <| Sx <| Wm (.l (encI .u32) p0) rfl <| Wm (.i r16_0.1) rfl <| Wm (.i r24_1.1) rfl <| Wm (.loc 0 0) rfl ?_
 obtain ⟨r32_2, hr32_2, hm⟩ := bnd hm
 refine Wy (.tup [(.i r32_2.1), (.i r32_2.2.1)]) [(0, (.box [(.i r32_2.2.2)]))] (Ocf [0] [] [] 0 (ok_slices_order2Ordered_uint32 p0 r16_0.1 r24_1.1 r24_1.2.2 r32_2 hr32_2) (fun a w => Try.call75 a w) rfl ⟨rfl, trivial⟩) <| Wm (.tup [(.i r32_2.1), (.i r32_2.2.1)]) rfl <| Wz (.i r32_2.1) (Oex rfl) <| Wz (.i r32_2.2.1) (Oex rfl) <| Wm (.i r32_2.1) rfl <| Wm (.i r32_2.2.1) rfl <| Nk 4 1 ⟨tp 2 (.i r32_2.2.1::tp 33 []), [(.box [(.i r32_2.2.2)])], 1⟩ <| Sx <| Wm (.i r32_2.2.1) rfl <| Wm (.i r32_2.2.1) rfl <| Nn <| Rt ?_
 obtain rfl := Option.some.inj hm
 exact ret_i [0]

theorem ok_slices_medianAdjacentOrdered_uint32 (p0 : (List Int)) (p1 : Int) (p2 : Int) (r : (Int × Int)) (h : m_slices_medianAdjacentOrdered_uint32 p0 p1 p2 = some r) : GCall Try.prog 71 [(.l (encI .u32) p0), (.i p1), (.loc 0 0)] [(.box [(.i p2)])] (.i r.1) [(.box [(.i r.2)])] := by
 refine GCall.of_body (n := 15) (rs := [(.tmp 6)]) Try.func71 rfl rfl rfl <| Ato ⟨.l (encI .u32) p0::.i p1::.loc 0 0::tu 12 [], [(.box [(.i p2)])], 1⟩ ?_
 have hm := h
 unfold m_slices_medianAdjacentOrdered_uint32 at hm
 refine Sx <| Wm (.i 0) rfl <| Nk 7 1 ⟨.l (encI .u32) p0::.i p1::.loc 0 0::tp 12 [], [(.box [(.i p2)])], 1⟩ <| Sx <| Wm (.l (encI .u32) p0) rfl <| Wm (.i p1) rfl <| Wz (.i (W6 (p1 - 1))) (Obn rfl (fun _ => hb_sub (k := .i64))) <| Wm (.i p1) rfl <| Wm (.i p1) rfl <| Wz (.i (W6 (p1 + 1))) (Obn rfl (fun _ => hb_add (k := .i64))) <| Wm (.loc 0 0) rfl ?_
 obtain ⟨r14_0, hr14_0, hm⟩ := bnd hm
 refine Wy (.i r14_0.1) [(0, (.box [(.i r14_0.2)]))] (Ocf [0] [] [] 0 (ok_slices_medianOrdered_uint32 p0 (W6 (p1 - 1)) p1 (W6 (p1 + 1)) p2 r14_0 hr14_0) (fun a w => Try.call72 a w) rfl ⟨rfl, trivial⟩) <| Wm (.i r14_0.1) rfl <| Nn <| Rt ?_
 obtain rfl := Option.some.inj hm
 exact ret_i [0]

theorem ok_slices_choosePivotOrdered_uint32 (p0 : (List Int)) (p1 : Int) (p2 : Int) (r : (Int × Int)) (h : m_slices_choosePivotOrdered_uint32 p0 p1 p2 = some r) : GCall Try.prog 55 [(.l (encI .u32) p0), (.i p1), (.i p2)] [] (.tup [(.i r.1), (.i r.2)]) [] := by
 refine GCall.of_body (n := 57) (rs := [(.tmp 6), (.tmp 7)]) Try.func55 rfl rfl rfl <| Ato ⟨.l (encI .u32) p0::.i p1::.i p2::tu 54 [], [], 0⟩ ?_
 have hm := h
 unfold m_slices_choosePivotOrdered_uint32 at hm
 refine Sx <| Wm (.i 0) rfl <| Wm (.i 0) rfl <| Nk 7 0 ⟨.l (encI .u32) p0::.i p1::.i p2::tp 54 [], [], 0⟩ <| Sx <| Wm (.i p2) rfl <| Wm (.i p1) rfl <| Wz (.i (W6 (p2 - p1))) (Obn rfl (fun _ => hb_sub (k := .i64))) <| Wm (.i (W6 (p2 - p1))) rfl <| Nk 259 0 ⟨.l (encI .u32) p0::.i p1::tp 6 (.i (W6 (p2 - p1))::tp 48 []), [], 0⟩ <| Sx <| Wy (.loc 0 0) [(0, (.box [(.i 0)]))] (Oal rfl) <| Nk 771 1 ⟨.l (encI .u32) p0::.i p1::tp 6 (.i (W6 (p2 - p1))::.loc 0 0::tp 47 []), [(.box [(.i 0)])], 0⟩ <| Sx ?_
 refine Wm (.i p1) rfl <| Wm (.i (W6 (p2 - p1))) rfl <| Wz (.i (W6 (Int.tdiv (W6 (p2 - p1)) 4))) (Ob2 (.int .i64 (W6 (p2 - p1))) (.int .i64 4) rfl (fun _ => hb_quo (by decide))) <| Wz (.i (W6 ((W6 (Int.tdiv (W6 (p2 - p1)) 4)) * 1))) (Obn rfl (fun _ => hb_mul (k := .i64))) ?_
 obtain ⟨v20_0, hv20_0, hm⟩ := bnd hm; replace hv20_0 := Option.some.inj hv20_0
 refine Wz (.i v20_0) (Ocs (congrArg (fun z => A.d (.lit (.int .i64 z))) hv20_0) (Obn rfl (fun _ => hb_add (k := .i64)))) <| Wm (.i v20_0) rfl <| Nk 1795 1 ⟨.l (encI .u32) p0::.i p1::tp 6 (.i (W6 (p2 - p1))::.loc 0 0::.i v20_0::tp 46 []), [(.box [(.i 0)])], 0⟩ <| Sx <| Wm (.i p1) rfl <| Wm (.i (W6 (p2 - p1))) rfl <| Wz (.i (W6 (Int.tdiv (W6 (p2 - p1)) 4))) (Ob2 (.int .i64 (W6 (p2 - p1))) (.int .i64 4) rfl (fun _ => hb_quo (by decide))) <| Wz (.i (W6 ((W6 (Int.tdiv (W6 (p2 - p1)) 4)) * 2))) (Obn rfl (fun _ => hb_mul (k := .i64))) ?_
 obtain ⟨v25_1, hv25_1, hm⟩ := bnd hm; replace hv25_1 := Option.some.inj hv25_1
 refine Wz (.i v25_1) (Ocs (congrArg (fun z => A.d (.lit (.int .i64 z))) hv25_1) (Obn rfl (fun _ => hb_add (k := .i64)))) <| Wm (.i v25_1) rfl <| Nk 3843 1 ⟨.l (encI .u32) p0::.i p1::tp 6 (.i (W6 (p2 - p1))::.loc 0 0::.i v20_0::.i v25_1::tp 45 []), [(.box [(.i 0)])], 0⟩ <| Sx <| Wm (.i p1) rfl <| Wm (.i (W6 (p2 - p1))) rfl <| Wz (.i (W6 (Int.tdiv (W6 (p2 - p1)) 4))) (Ob2 (.int .i64 (W6 (p2 - p1))) (.int .i64 4) rfl (fun _ => hb_quo (by decide))) <| Wz (.i (W6 ((W6 (Int.tdiv (W6 (p2 - p1)) 4)) * 3))) (Obn rfl (fun _ => hb_mul (k := .i64))) ?_
 obtain ⟨v30_2, hv30_2, hm⟩ := bnd hm; replace hv30_2 := Option.some.inj hv30_2
 refine Wz (.i v30_2) (Ocs (congrArg (fun z => A.d (.lit (.int .i64 z))) hv30_2) (Obn rfl (fun _ => hb_add (k := .i64)))) <| Wm (.i v30_2) rfl <| Nk 7937 1 ⟨.l (encI .u32) p0::tp 7 (.i (W6 (p2 - p1))::.loc 0 0::.i v20_0::.i v25_1::.i v30_2::tp 44 []), [(.box [(.i 0)])], 0⟩ ?_
 refine AWP.cutJ (α := Int × Int) (fun (y9_d_7, y11_7) => (⟨tp 9 (.loc 0 0::tp 1 (.i y11_7::tp 45 [])), [(.box [(.i y9_d_7)])], 0⟩ : St)) (fun (y9_d_7, y11_7) => m_slices_choosePivotOrdered_uint32_j7  y9_d_7 y11_7 = some r) ?_ (fun J7 => ?_)
 ·
  rintro ⟨y9_d_7, y11_7⟩ hm
  try dsimp only at hm ⊢
  unfold m_slices_choosePivotOrdered_uint32_j7 at hm
  refine Sx <| Wz (.i y9_d_7) (Old rfl) <| Nk 562949953423360 0 ⟨tp 11 (.i y11_7::tp 37 (.i y9_d_7::tp 7 [])), [.gone], 0⟩ <| Bk <| Sx <| Wz (.b (decide (y9_d_7 = 0))) (Obn rfl (fun _ => hb_eql (k := .i64))) <| Wm (.b (decide (y9_d_7 = 0))) rfl <| Nk 2814749767108608 0 ⟨tp 11 (.i y11_7::tp 37 (.i y9_d_7::tp 1 (.b (decide (y9_d_7 = 0))::tp 5 []))), [.gone], 0⟩ ?_
  rcases tf_ (decide (y9_d_7 = 0)) with hc51_8 | hc51_8
  ·
   replace hm := cT hc51_8 hm
   refine AiT hc51_8 <| Sx <| Wm (.i y11_7) rfl <| Wm (.i y11_7) rfl <| Wm (.i 1) rfl <| Nn <| Rt <| Ir ?_
   obtain rfl := Option.some.inj hm
   exact ret_i []
  ·
   replace hm := cF hc51_8 hm
   refine AiF hc51_8 <| Sx <| Wz (.b (decide (y9_d_7 = 12))) (Obn rfl (fun _ => hb_eql (k := .i64))) <| Wm (.b (decide (y9_d_7 = 12))) rfl <| Nk 18014398509484032 0 ⟨tp 11 (.i y11_7::tp 42 (.b (decide (y9_d_7 = 12))::tp 2 [])), [.gone], 0⟩ ?_
   rcases tf_ (decide (y9_d_7 = 12)) with hc54_9 | hc54_9
   ·
    replace hm := cT hc54_9 hm
    refine AiT hc54_9 <| Sx <| Wm (.i y11_7) rfl <| Wm (.i y11_7) rfl <| Wm (.i 2) rfl <| Nn <| Rt <| Ir ?_
    obtain rfl := Option.some.inj hm
    exact ret_i []
   ·
    replace hm := cF hc54_9 hm
    refine AiF hc54_9 <| Sx <| Wm (.i y11_7) rfl <| Wm (.i y11_7) rfl <| Wm (.i 0) rfl <| Nn <| Rt <| Ir ?_
    obtain rfl := Option.some.inj hm
    exact ret_i []
 refine Sq <| Sx <| Wm (.i (W6 (p2 - p1))) rfl <| Wz (.b (decide ((8 : Int) ≤ (W6 (p2 - p1))))) (Obn rfl (fun _ => hb_geq (k := .i64))) <| Nk 4294975233 1 ⟨.l (encI .u32) p0::tp 7 (.i (W6 (p2 - p1))::.loc 0 0::.i v20_0::.i v25_1::.i v30_2::tp 19 (.b (decide ((8 : Int) ≤ (W6 (p2 - p1))))::tp 24 [])), [(.box [(.i 0)])], 0⟩ ?_
 rcases tf_ (decide ((8 : Int) ≤ (W6 (p2 - p1)))) with hc32_10 | hc32_10
 ·
  replace hm := cT hc32_10 hm
  refine AiT hc32_10 ?_
  refine AWP.cutJ (α := Int × Int × Int × Int) (fun (y9_d_6, y10_6, y11_6, y12_6) => (⟨.l (encI .u32) p0::tp 8 (.loc 0 0::.i y10_6::.i y11_6::.i y12_6::tp 44 []), [(.box [(.i y9_d_6)])], 0⟩ : St)) (fun (y9_d_6, y10_6, y11_6, y12_6) => m_slices_choosePivotOrdered_uint32_j6 p0 y9_d_6 y10_6 y11_6 y12_6 = some r) ?_ (fun J6 => ?_)
  ·
   rintro ⟨y9_d_6, y10_6, y11_6, y12_6⟩ hm
   try dsimp only at hm ⊢
   unfold m_slices_choosePivotOrdered_uint32_j6 at hm
   refine Tx <| Wm (.l (encI .u32) p0) rfl <| Wm (.i y10_6) rfl <| Wm (.i y11_6) rfl <| Wm (.i y12_6) rfl ?_
   obtain ⟨r48_6, hr48_6, hm⟩ := bnd hm
   refine Wy (.i r48_6.1) [(0, (.box [(.i r48_6.2)]))] (Ocf [0] [] [] 0 (ok_slices_medianOrdered_uint32 p0 y10_6 y11_6 y12_6 y9_d_6 r48_6 hr48_6) (fun a w => Try.call72 a w) rfl ⟨rfl, trivial⟩) <| Wm (.i r48_6.1) rfl <| Nn ?_
   exact AWP.weak (Weak.toK 2560 0 0 [0]) (J7 (r48_6.2, r48_6.1) hm)
  refine Sq <| Sx <| Wm (.i (W6 (p2 - p1))) rfl <| Wz (.b (decide ((50 : Int) ≤ (W6 (p2 - p1))))) (Obn rfl (fun _ => hb_geq (k := .i64))) <| Nk 17179876865 1 ⟨.l (encI .u32) p0::tp 8 (.loc 0 0::.i v20_0::.i v25_1::.i v30_2::tp 21 (.b (decide ((50 : Int) ≤ (W6 (p2 - p1))))::tp 22 [])), [(.box [(.i 0)])], 0⟩ ?_
  rcases tf_ (decide ((50 : Int) ≤ (W6 (p2 - p1)))) with hc34_11 | hc34_11
  ·
   replace hm := cT hc34_11 hm
   refine AiT hc34_11 <| Sx <| Wm (.l (encI .u32) p0) rfl <| Wm (.i v20_0) rfl ?_
   obtain ⟨r37_3, hr37_3, hm⟩ := bnd hm
   refine Wy (.i r37_3.1) [(0, (.box [(.i r37_3.2)]))] (Ocf [0] [] [] 0 (ok_slices_medianAdjacentOrdered_uint32 p0 v20_0 0 r37_3 hr37_3) (fun a w => Try.call71 a w) rfl ⟨rfl, trivial⟩) <| Wm (.i r37_3.1) rfl <| Nk 7681 1 ⟨.l (encI .u32) p0::tp 8 (.loc 0 0::.i r37_3.1::.i v25_1::.i v30_2::tp 44 []), [(.box [(.i r37_3.2)])], 0⟩ <| Sx <| Wm (.l (encI .u32) p0) rfl <| Wm (.i v25_1) rfl ?_
   obtain ⟨r40_4, hr40_4, hm⟩ := bnd hm
   refine Wy (.i r40_4.1) [(0, (.box [(.i r40_4.2)]))] (Ocf [0] [] [] 0 (ok_slices_medianAdjacentOrdered_uint32 p0 v25_1 r37_3.2 r40_4 hr40_4) (fun a w => Try.call71 a w) rfl ⟨rfl, trivial⟩) <| Wm (.i r40_4.1) rfl <| Nk 7681 1 ⟨.l (encI .u32) p0::tp 8 (.loc 0 0::.i r37_3.1::.i r40_4.1::.i v30_2::tp 44 []), [(.box [(.i r40_4.2)])], 0⟩ <| Tx <| Wm (.l (encI .u32) p0) rfl <| Wm (.i v30_2) rfl ?_
   obtain ⟨r43_5, hr43_5, hm⟩ := bnd hm
   refine Wy (.i r43_5.1) [(0, (.box [(.i r43_5.2)]))] (Ocf [0] [] [] 0 (ok_slices_medianAdjacentOrdered_uint32 p0 v30_2 r40_4.2 r43_5 hr43_5) (fun a w => Try.call71 a w) rfl ⟨rfl, trivial⟩) <| Wm (.i r43_5.1) rfl <| Nn ?_
   exact AWP.weak (Weak.toK 7681 0 0 [0]) (J6 (r43_5.2, r37_3.1, r40_4.1, r43_5.1) hm)
  ·
   replace hm := cF hc34_11 hm
   refine AiF hc34_11 <| Sk <| Tn ?_
   exact AWP.weak (Weak.toK 7681 0 0 [0]) (J6 (0, v20_0, v25_1, v30_2) hm)
 ·
  replace hm := cF hc32_10 hm
  refine AiF hc32_10 <| Sk <| Tn ?_
  exact AWP.weak (Weak.toK 2560 0 0 [0]) (J7 (0, v25_1) hm)

theorem ok_slices_reverseRangeOrdered_uint32 (p0 : (List Int)) (p1 : Int) (p2 : Int) (r : (List Int)) (h : m_slices_reverseRangeOrdered_uint32 p0 p1 p2 = some r) : GCall Try.prog 56 [(.own 0), (.i p1), (.i p2)] [(.arr 25 1 (List.length p0) (flatD (encI .u32) p0))] (.tup []) [(.arr 25 1 (List.length r) (flatD (encI .u32) r))] := by
 refine GCall.of_body (n := 32) (rs := []) Try.func56 rfl rfl rfl <| Ato ⟨.own 0::.i p1::.i p2::tu 29 [], [(.arr 25 1 (List.length p0) (flatD (encI .u32) p0))], 1⟩ ?_
 have hm := h
 unfold m_slices_reverseRangeOrdered_uint32 at hm
 refine Sx <| Wm (.i p1) rfl <| Wm (.i p1) rfl <| Nk 69 1 ⟨.own 0::tp 1 (.i p2::tp 3 (.i p1::tp 25 [])), [(.arr 25 1 (List.length p0) (flatD (encI .u32) p0))], 1⟩ <| Sx <| Wm (.i p2) rfl <| Wz (.i (W6 (p2 - 1))) (Obn rfl (fun _ => hb_sub (k := .i64))) <| Wm (.i (W6 (p2 - 1))) rfl <| Nk 193 1 ⟨.own 0::tp 5 (.i p1::.i (W6 (p2 - 1))::tp 24 []), [(.arr 25 1 (List.length p0) (flatD (encI .u32) p0))], 1⟩ <| Bk ?_
 refine AWP.loopI (α := Nat × (List Int) × Int × Int)
   (fun (fu_0, y0_0, y6_0, y7_0) => (⟨.own 0::tp 5 (.i y6_0::.i y7_0::tp 24 []), [(.arr 25 1 (List.length y0_0) (flatD (encI .u32) y0_0))], 1⟩ : St))
   (fun (fu_0, y0_0, y6_0, y7_0) => m_slices_reverseRangeOrdered_uint32_l0  fu_0 y0_0 y6_0 y7_0 = some r)
   (fun (fu_0, y0_0, y6_0, y7_0) => fu_0) (1152921504606846976, p0, p1, (W6 (p2 - 1)))
   (Weak.toK 193 0 0 [0]) hm ?_
 rintro ⟨fu_0, y0_0, y6_0, y7_0⟩ n_0 hm ih_0
 try dsimp only at hm ih_0 ⊢
 cases fu_0 with
 | zero => exact absurd hm (by unfold m_slices_reverseRangeOrdered_uint32_l0; simp)
 | succ fu_0 =>
  unfold m_slices_reverseRangeOrdered_uint32_l0 at hm
  refine Sq <| Sx <| Wm (.i y6_0) rfl <| Wm (.i y7_0) rfl <| Wz (.b (decide (y6_0 < y7_0))) (Obn rfl (fun _ => hb_lss (k := .i64))) <| Nk 8385 1 ⟨.own 0::tp 5 (.i y6_0::.i y7_0::tp 5 (.b (decide (y6_0 < y7_0))::tp 18 [])), [(.arr 25 1 (List.length y0_0) (flatD (encI .u32) y0_0))], 1⟩ ?_
  rcases tf_ (decide (y6_0 < y7_0)) with hc13_2 | hc13_2
  ·
   replace hm := cT hc13_2 hm
   refine AiT hc13_2 <| Sk <| Tk 193 1 ⟨.own 0::tp 5 (.i y6_0::.i y7_0::tp 24 []), [(.arr 25 1 (List.length y0_0) (flatD (encI .u32) y0_0))], 1⟩ <| Bk <| Sq <| Adr <| Wm (.own 0) rfl <| Wm (.i y6_0) rfl <| Wm (.own 0) rfl <| Wm (.i y7_0) rfl <| Wm (.own 0) rfl <| Wm (.i y7_0) rfl ?_
   obtain ⟨x20_1, hx20_1, hm⟩ := bnd hm
   obtain ⟨hx20_1i, hx20_1g⟩ := geti_some hx20_1
   refine Wz (.loc 0 ((Int.toNat y7_0) * 1)) (Oia rfl (encI_len (k := .u32)) hx20_1i hx20_1g) <| Wz (.d (.lit (.int .u32 x20_1))) (Lr1 rfl (encI_len (k := .u32)) hx20_1g) <| Wm (.own 0) rfl <| Wm (.i y6_0) rfl ?_
   obtain ⟨x24_1, hx24_1, hm⟩ := bnd hm
   obtain ⟨hx24_1i, hx24_1g⟩ := geti_some hx24_1
   refine Wz (.loc 0 ((Int.toNat y6_0) * 1)) (Oia rfl (encI_len (k := .u32)) hx24_1i hx24_1g) <| Wz (.d (.lit (.int .u32 x24_1))) (Lr1 rfl (encI_len (k := .u32)) hx24_1g) ?_
   obtain ⟨x26_1, hx26_1, hm⟩ := bnd hm
   obtain ⟨hx26_1i, hx26_1g⟩ := geti_some hx26_1
   refine Wz (.loc 0 ((Int.toNat y6_0) * 1)) (Oia rfl (encI_len (k := .u32)) hx26_1i hx26_1g) <| Wy (.tup []) [(0, (.arr 25 1 (List.length (List.set y0_0 (Int.toNat y6_0) x20_1)) (flatD (encI .u32) (List.set y0_0 (Int.toNat y6_0) x20_1))))] (Osr 0 rfl (encI_len (k := .u32)) hx26_1g x20_1) ?_
   obtain ⟨x27_1, hx27_1, hm⟩ := bnd hm
   obtain ⟨hx27_1i, hx27_1g⟩ := geti_some hx27_1
   refine Wz (.loc 0 ((Int.toNat y7_0) * 1)) (Oia rfl (encI_len (k := .u32)) hx27_1i hx27_1g) <| Wy (.tup []) [(0, (.arr 25 1 (List.length (List.set (List.set y0_0 (Int.toNat y6_0) x20_1) (Int.toNat y7_0) x24_1)) (flatD (encI .u32) (List.set (List.set y0_0 (Int.toNat y6_0) x20_1) (Int.toNat y7_0) x24_1))))] (Osr 0 rfl (encI_len (k := .u32)) hx27_1g x24_1) <| Wdr <| Tk 193 1 ⟨.own 0::tp 5 (.i y6_0::.i y7_0::tp 24 []), [(.arr 25 1 (List.length (List.set (List.set y0_0 (Int.toNat y6_0) x20_1) (Int.toNat y7_0) x24_1)) (flatD (encI .u32) (List.set (List.set y0_0 (Int.toNat y6_0) x20_1) (Int.toNat y7_0) x24_1)))], 1⟩ <| Sx <| Wm (.i y6_0) rfl <| Wz (.i (W6 (y6_0 + 1))) (Obn rfl (fun _ => hb_add (k := .i64))) <| Wm (.i (W6 (y6_0 + 1))) rfl <| Nk 193 1 ⟨.own 0::tp 5 (.i (W6 (y6_0 + 1))::.i y7_0::tp 24 []), [(.arr 25 1 (List.length (List.set (List.set y0_0 (Int.toNat y6_0) x20_1) (Int.toNat y7_0) x24_1)) (flatD (encI .u32) (List.set (List.set y0_0 (Int.toNat y6_0) x20_1) (Int.toNat y7_0) x24_1)))], 1⟩ <| Tx <| Wm (.i y7_0) rfl <| Wz (.i (W6 (y7_0 - 1))) (Obn rfl (fun _ => hb_sub (k := .i64))) <| Wm (.i (W6 (y7_0 - 1))) rfl <| Wn0 ?_
   refine Ino <| RoundK.normal ?_
   exact Rounds.weak (Weak.toK 193 0 0 [0]) (ih_0 (fu_0, (List.set (List.set y0_0 (Int.toNat y6_0) x20_1) (Int.toNat y7_0) x24_1), (W6 (y6_0 + 1)), (W6 (y7_0 - 1))) hm (Nat.lt_succ_self _))
  ·
   replace hm := cF hc13_2 hm
   refine AiF hc13_2 <| AWP.exit <| Then.exit <| RoundK.exit <| InBlock.same ?_
   obtain rfl := Option.some.inj hm
   exact ret_n [0]

theorem ok_slices_partialInsertionSortOrdered_uint32 (p0 : (List Int)) (p1 : Int) (p2 : Int) (r : (Bool × (List Int))) (h : m_slices_partialInsertionSortOrdered_uint32 p0 p1 p2 = some r) : GCall Try.prog 57 [(.own 0), (.i p1), (.i p2)] [(.arr 25 1 (List.length p0) (flatD (encI .u32) p0))] (.b r.1) [(.arr 25 1 (List.length r.2) (flatD (encI .u32) r.2))] := by
 refine GCall.of_body (n := 133) (rs := [(.tmp 6)]) Try.func57 rfl rfl rfl <| Ato ⟨.own 0::.i p1::.i p2::tu 130 [], [(.arr 25 1 (List.length p0) (flatD (encI .u32) p0))], 1⟩ ?_
 have hm := h
 unfold m_slices_partialInsertionSortOrdered_uint32 at hm
 refine Sx <| Wm (.b false) rfl <| Nk 7 1 ⟨.own 0::.i p1::.i p2::tp 130 [], [(.arr 25 1 (List.length p0) (flatD (encI .u32) p0))], 1⟩ <| Sx <| Wm (.i p1) rfl <| Wz (.i (W6 (p1 + 1))) (Obn rfl (fun _ => hb_add (k := .i64))) <| Wm (.i (W6 (p1 + 1))) rfl <| Nk 135 1 ⟨.own 0::.i p1::.i p2::tp 4 (.i (W6 (p1 + 1))::tp 125 []), [(.arr 25 1 (List.length p0) (flatD (encI .u32) p0))], 1⟩ <| Sq <| Sx <| Wm (.i 0) rfl <| Nk 391 1 ⟨.own 0::.i p1::.i p2::tp 4 (.i (W6 (p1 + 1))::.i 0::tp 124 []), [(.arr 25 1 (List.length p0) (flatD (encI .u32) p0))], 1⟩ <| Bk ?_
 refine AWP.loopI (α := Nat × (List Int) × Int × Int)
   (fun (fu_0, y0_0, y7_0, y8_0) => (⟨.own 0::.i p1::.i p2::tp 4 (.i y7_0::.i y8_0::tp 124 []), [(.arr 25 1 (List.length y0_0) (flatD (encI .u32) y0_0))], 1⟩ : St))
   (fun (fu_0, y0_0, y7_0, y8_0) => m_slices_partialInsertionSortOrdered_uint32_l0 p1 p2 fu_0 y0_0 y7_0 y8_0 = some r)
   (fun (fu_0, y0_0, y7_0, y8_0) => fu_0) (1152921504606846976, p0, (W6 (p1 + 1)), 0)
   (Weak.toK 391 0 0 [0]) hm ?_
 rintro ⟨fu_0, y0_0, y7_0, y8_0⟩ n_0 hm ih_0
 try dsimp only at hm ih_0 ⊢
 cases fu_0 with
 | zero => exact absurd hm (by unfold m_slices_partialInsertionSortOrdered_uint32_l0; simp)
 | succ fu_0 =>
  unfold m_slices_partialInsertionSortOrdered_uint32_l0 at hm
  refine Sq <| Sx <| Wm (.i y8_0) rfl <| Wz (.b (decide (y8_0 < 5))) (Obn rfl (fun _ => hb_lss (k := .i64))) <| Nk 16775 1 ⟨.own 0::.i p1::.i p2::tp 4 (.i y7_0::.i y8_0::tp 5 (.b (decide (y8_0 < 5))::tp 118 [])), [(.arr 25 1 (List.length y0_0) (flatD (encI .u32) y0_0))], 1⟩ ?_
  rcases tf_ (decide (y8_0 < 5)) with hc14_12 | hc14_12
  ·
   replace hm := cT hc14_12 hm
   refine AiT hc14_12 <| Sk <| Tk 391 1 ⟨.own 0::.i p1::.i p2::tp 4 (.i y7_0::.i y8_0::tp 124 []), [(.arr 25 1 (List.length y0_0) (flatD (encI .u32) y0_0))], 1⟩ <| Sq <| Bk ?_
   refine AWP.cutJ (α := Int) (fun x => match x with | y7_3 => (⟨.own 0::.i p1::.i p2::tp 4 (.i y7_3::.i y8_0::tp 124 []), [(.arr 25 1 (List.length y0_0) (flatD (encI .u32) y0_0))], 1⟩ : St)) (fun x => match x with | y7_3 => m_slices_partialInsertionSortOrdered_uint32_j3 p1 p2 y0_0 y8_0 (fun y0_0 y7_0 y8_0 => m_slices_partialInsertionSortOrdered_uint32_l0 p1 p2 fu_0 y0_0 y7_0 y8_0) y7_3 = some r) ?_ (fun J3 => ?_)
   ·
    rintro y7_3 hm
    try dsimp only at hm ⊢
    unfold m_slices_partialInsertionSortOrdered_uint32_j3 at hm
    refine Sq <| Sx <| Wm (.i y7_3) rfl <| Wm (.i p2) rfl <| Wz (.b (decide (y7_3 = p2))) (Obn rfl (fun _ => hb_eql (k := .i64))) <| Nk 137438953863 1 ⟨.own 0::.i p1::.i p2::tp 4 (.i y7_3::.i y8_0::tp 28 (.b (decide (y7_3 = p2))::tp 95 [])), [(.arr 25 1 (List.length y0_0) (flatD (encI .u32) y0_0))], 1⟩ ?_
    rcases tf_ (decide (y7_3 = p2)) with hc37_13 | hc37_13
    ·
     replace hm := cT hc37_13 hm
     refine AiT hc37_13 <| Sx <| Wm (.b true) rfl <| Nn <| Rt <| Tr <| Ir <| Tr <| RoundK.ret <| Ir <| Tr ?_
     obtain rfl := Option.some.inj hm
     exact ret_i [0]
    ·
     replace hm := cF hc37_13 hm
     refine AiF hc37_13 <| Sk <| Tk 391 1 ⟨.own 0::.i p1::.i p2::tp 4 (.i y7_3::.i y8_0::tp 124 []), [(.arr 25 1 (List.length y0_0) (flatD (encI .u32) y0_0))], 1⟩ <| Sq <| Sx <| Wm (.i p2) rfl <| Wm (.i p1) rfl <| Wz (.i (W6 (p2 - p1))) (Obn rfl (fun _ => hb_sub (k := .i64))) <| Wz (.b (decide ((W6 (p2 - p1)) < 50))) (Obn rfl (fun _ => hb_lss (k := .i64))) <| Nk 2199023255943 1 ⟨.own 0::.i p1::.i p2::tp 4 (.i y7_3::.i y8_0::tp 32 (.b (decide ((W6 (p2 - p1)) < 50))::tp 91 [])), [(.arr 25 1 (List.length y0_0) (flatD (encI .u32) y0_0))], 1⟩ ?_
     rcases tf_ (decide ((W6 (p2 - p1)) < 50)) with hc41_14 | hc41_14
     ·
      replace hm := cT hc41_14 hm
      refine AiT hc41_14 <| Sx <| Wm (.b false) rfl <| Nn <| Rt <| Tr <| Ir <| Tr <| RoundK.ret <| Ir <| Tr ?_
      obtain rfl := Option.some.inj hm
      exact ret_i [0]
     ·
      replace hm := cF hc41_14 hm
      refine AiF hc41_14 <| Sk <| Tk 391 1 ⟨.own 0::.i p1::.i p2::tp 4 (.i y7_3::.i y8_0::tp 124 []), [(.arr 25 1 (List.length y0_0) (flatD (encI .u32) y0_0))], 1⟩ <| Sq <| Adr <| Wm (.own 0) rfl <| Wm (.i y7_3) rfl <| Wm (.own 0) rfl <| Wm (.i y7_3) rfl <| Wz (.i (W6 (y7_3 - 1))) (Obn rfl (fun _ => hb_sub (k := .i64))) <| Wm (.own 0) rfl <| Wm (.i y7_3) rfl <| Wz (.i (W6 (y7_3 - 1))) (Obn rfl (fun _ => hb_sub (k := .i64))) ?_
      obtain ⟨x50_4, hx50_4, hm⟩ := bnd hm
      obtain ⟨hx50_4i, hx50_4g⟩ := geti_some hx50_4
      refine Wz (.loc 0 ((Int.toNat (W6 (y7_3 - 1))) * 1)) (Oia rfl (encI_len (k := .u32)) hx50_4i hx50_4g) <| Wz (.d (.lit (.int .u32 x50_4))) (Lr1 rfl (encI_len (k := .u32)) hx50_4g) <| Wm (.own 0) rfl <| Wm (.i y7_3) rfl ?_
      obtain ⟨x54_4, hx54_4, hm⟩ := bnd hm
      obtain ⟨hx54_4i, hx54_4g⟩ := geti_some hx54_4
      refine Wz (.loc 0 ((Int.toNat y7_3) * 1)) (Oia rfl (encI_len (k := .u32)) hx54_4i hx54_4g) <| Wz (.d (.lit (.int .u32 x54_4))) (Lr1 rfl (encI_len (k := .u32)) hx54_4g) ?_
      obtain ⟨x56_4, hx56_4, hm⟩ := bnd hm
      obtain ⟨hx56_4i, hx56_4g⟩ := geti_some hx56_4
      refine Wz (.loc 0 ((Int.toNat y7_3) * 1)) (Oia rfl (encI_len (k := .u32)) hx56_4i hx56_4g) <| Wy (.tup []) [(0, (.arr 25 1 (List.length (List.set y0_0 (Int.toNat y7_3) x50_4)) (flatD (encI .u32) (List.set y0_0 (Int.toNat y7_3) x50_4))))] (Osr 0 rfl (encI_len (k := .u32)) hx56_4g x50_4) ?_
      obtain ⟨x57_4, hx57_4, hm⟩ := bnd hm
      obtain ⟨hx57_4i, hx57_4g⟩ := geti_some hx57_4
      refine Wz (.loc 0 ((Int.toNat (W6 (y7_3 - 1))) * 1)) (Oia rfl (encI_len (k := .u32)) hx57_4i hx57_4g) <| Wy (.tup []) [(0, (.arr 25 1 (List.length (List.set (List.set y0_0 (Int.toNat y7_3) x50_4) (Int.toNat (W6 (y7_3 - 1))) x54_4)) (flatD (encI .u32) (List.set (List.set y0_0 (Int.toNat y7_3) x50_4) (Int.toNat (W6 (y7_3 - 1))) x54_4))))] (Osr 0 rfl (encI_len (k := .u32)) hx57_4g x54_4) <| Wdr <| Tk 391 1 ⟨.own 0::.i p1::.i p2::tp 4 (.i y7_3::.i y8_0::tp 124 []), [(.arr 25 1 (List.length (List.set (List.set y0_0 (Int.toNat y7_3) x50_4) (Int.toNat (W6 (y7_3 - 1))) x54_4)) (flatD (encI .u32) (List.set (List.set y0_0 (Int.toNat y7_3) x50_4) (Int.toNat (W6 (y7_3 - 1))) x54_4)))], 1⟩ ?_
      refine AWP.cutJ (α := (List Int)) (fun x => match x with | y0_8 => (⟨.own 0::.i p1::.i p2::tp 4 (.i y7_3::.i y8_0::tp 124 []), [(.arr 25 1 (List.length y0_8) (flatD (encI .u32) y0_8))], 1⟩ : St)) (fun x => match x with | y0_8 => m_slices_partialInsertionSortOrdered_uint32_j8 p2 y7_3 y8_0 (fun y0_0 y7_0 y8_0 => m_slices_partialInsertionSortOrdered_uint32_l0 p1 p2 fu_0 y0_0 y7_0 y8_0) y0_8 = some r) ?_ (fun J8 => ?_)
      ·
       rintro y0_8 hm
       try dsimp only at hm ⊢
       unfold m_slices_partialInsertionSortOrdered_uint32_j8 at hm
       refine Sx <| Wm (.i p2) rfl <| Wm (.i y7_3) rfl <| Wz (.i (W6 (p2 - y7_3))) (Obn rfl (fun _ => hb_sub (k := .i64))) <| Wz (.b (decide ((2 : Int) ≤ (W6 (p2 - y7_3))))) (Obn rfl (fun _ => hb_geq (k := .i64))) <| Nk 316912650057057350374175801735 1 ⟨.own 0::.i p1::.i p2::tp 4 (.i y7_3::.i y8_0::tp 89 (.b (decide ((2 : Int) ≤ (W6 (p2 - y7_3))))::tp 34 [])), [(.arr 25 1 (List.length y0_8) (flatD (encI .u32) y0_8))], 1⟩ ?_
       rcases tf_ (decide ((2 : Int) ≤ (W6 (p2 - y7_3)))) with hc98_15 | hc98_15
       ·
        replace hm := cT hc98_15 hm
        refine AiT hc98_15 <| Sx <| Wm (.i y7_3) rfl <| Wz (.i (W6 (y7_3 + 1))) (Obn rfl (fun _ => hb_add (k := .i64))) <| Wm (.i (W6 (y7_3 + 1))) rfl <| Nk 1415 1 ⟨.own 0::.i p1::.i p2::tp 4 (.i y7_3::.i y8_0::tp 1 (.i (W6 (y7_3 + 1))::tp 122 [])), [(.arr 25 1 (List.length y0_8) (flatD (encI .u32) y0_8))], 1⟩ <| Bk ?_
        refine AWP.loopI (α := Nat × (List Int) × Int)
          (fun (fu_9, y0_9, y10_9) => (⟨.own 0::.i p1::.i p2::tp 4 (.i y7_3::.i y8_0::tp 1 (.i y10_9::tp 122 [])), [(.arr 25 1 (List.length y0_9) (flatD (encI .u32) y0_9))], 1⟩ : St))
          (fun (fu_9, y0_9, y10_9) => m_slices_partialInsertionSortOrdered_uint32_l9 p2 y7_3 y8_0 (fun y0_0 y7_0 y8_0 => m_slices_partialInsertionSortOrdered_uint32_l0 p1 p2 fu_0 y0_0 y7_0 y8_0) fu_9 y0_9 y10_9 = some r)
          (fun (fu_9, y0_9, y10_9) => fu_9) (1152921504606846976, y0_8, (W6 (y7_3 + 1)))
          (Weak.toK 1415 0 0 [0]) hm ?_
        rintro ⟨fu_9, y0_9, y10_9⟩ n_9 hm ih_9
        try dsimp only at hm ih_9 ⊢
        cases fu_9 with
        | zero => exact absurd hm (by unfold m_slices_partialInsertionSortOrdered_uint32_l9; simp)
        | succ fu_9 =>
         unfold m_slices_partialInsertionSortOrdered_uint32_l9 at hm
         refine Sq <| Sx <| Wm (.i y10_9) rfl <| Wm (.i p2) rfl <| Wz (.b (decide (y10_9 < p2))) (Obn rfl (fun _ => hb_lss (k := .i64))) <| Nk 10141204801825835211973625644423 1 ⟨.own 0::.i p1::.i p2::tp 4 (.i y7_3::.i y8_0::tp 1 (.i y10_9::tp 92 (.b (decide (y10_9 < p2))::tp 29 []))), [(.arr 25 1 (List.length y0_9) (flatD (encI .u32) y0_9))], 1⟩ ?_
         rcases tf_ (decide (y10_9 < p2)) with hc103_16 | hc103_16
         ·
          replace hm := cT hc103_16 hm
          refine AiT hc103_16 <| Sk <| Tk 1415 1 ⟨.own 0::.i p1::.i p2::tp 4 (.i y7_3::.i y8_0::tp 1 (.i y10_9::tp 122 [])), [(.arr 25 1 (List.length y0_9) (flatD (encI .u32) y0_9))], 1⟩ <| Sq <| Bk <| Sq <| Sq <| Adr <| Wm (.own 0) rfl <| Wm (.i y10_9) rfl ?_
          obtain ⟨x108_10, hx108_10, hm⟩ := bnd hm
          obtain ⟨hx108_10i, hx108_10g⟩ := geti_some hx108_10
          refine Wz (.loc 0 ((Int.toNat y10_9) * 1)) (Oia rfl (encI_len (k := .u32)) hx108_10i hx108_10g) <| Wz (.d (.lit (.int .u32 x108_10))) (Lr1 rfl (encI_len (k := .u32)) hx108_10g) <| Wm (.own 0) rfl <| Wm (.i y10_9) rfl <| Wz (.i (W6 (y10_9 - 1))) (Obn rfl (fun _ => hb_sub (k := .i64))) ?_
          obtain ⟨x113_10, hx113_10, hm⟩ := bnd hm
          obtain ⟨hx113_10i, hx113_10g⟩ := geti_some hx113_10
          refine Wz (.loc 0 ((Int.toNat (W6 (y10_9 - 1))) * 1)) (Oia rfl (encI_len (k := .u32)) hx113_10i hx113_10g) <| Wz (.d (.lit (.int .u32 x113_10))) (Lr1 rfl (encI_len (k := .u32)) hx113_10g) ?_
          obtain ⟨r115_10, hr115_10, hm⟩ := bnd hm
          refine Wz (.b r115_10) (Ocf [] [] [] 0 (ok_cmp_Less_uint32 x108_10 x113_10 r115_10 hr115_10) (fun a w => Try.call58 a w) rfl trivial) <| Wz (.b (!r115_10)) (Ocs (by kernel_rfl) (op_un rfl (a1 := .bool r115_10) (by kernel_rfl) (fun _ => hu_not))) <| Wdr <| Tk 83076749736557242056487941267522951 1 ⟨.own 0::.i p1::.i p2::tp 4 (.i y7_3::.i y8_0::tp 1 (.i y10_9::tp 105 (.b (!r115_10)::tp 16 []))), [(.arr 25 1 (List.length y0_9) (flatD (encI .u32) y0_9))], 1⟩ ?_
          rcases tf_ (!r115_10) with hc116_17 | hc116_17
          ·
           replace hm := cT hc116_17 hm
           refine AiT hc116_17 <| AWP.exit <| Then.exit <| InBlock.other (by rfl) <| Then.exit <| RoundK.exit <| InBlock.same <| Ino <| Tk 391 1 ⟨.own 0::.i p1::.i p2::tp 4 (.i y7_3::.i y8_0::tp 124 []), [(.arr 25 1 (List.length y0_9) (flatD (encI .u32) y0_9))], 1⟩ <| Tx <| Wm (.i y8_0) rfl <| Wz (.i (W6 (y8_0 + 1))) (Obn rfl (fun _ => hb_add (k := .i64))) <| Wm (.i (W6 (y8_0 + 1))) rfl <| Wn0 ?_
           refine RoundK.normal ?_
           exact Rounds.weak (Weak.toK 391 0 0 [0]) (ih_0 (fu_0, y0_9, y7_3, (W6 (y8_0 + 1))) hm (Nat.lt_succ_self _))
          ·
           replace hm := cF hc116_17 hm
           refine AiF hc116_17 <| Sk <| Tk 1415 1 ⟨.own 0::.i p1::.i p2::tp 4 (.i y7_3::.i y8_0::tp 1 (.i y10_9::tp 122 [])), [(.arr 25 1 (List.length y0_9) (flatD (encI .u32) y0_9))], 1⟩ <| Adr <| Wm (.own 0) rfl <| Wm (.i y10_9) rfl <| Wm (.own 0) rfl <| Wm (.i y10_9) rfl <| Wz (.i (W6 (y10_9 - 1))) (Obn rfl (fun _ => hb_sub (k := .i64))) <| Wm (.own 0) rfl <| Wm (.i y10_9) rfl <| Wz (.i (W6 (y10_9 - 1))) (Obn rfl (fun _ => hb_sub (k := .i64))) ?_
           obtain ⟨x125_11, hx125_11, hm⟩ := bnd hm
           obtain ⟨hx125_11i, hx125_11g⟩ := geti_some hx125_11
           refine Wz (.loc 0 ((Int.toNat (W6 (y10_9 - 1))) * 1)) (Oia rfl (encI_len (k := .u32)) hx125_11i hx125_11g) <| Wz (.d (.lit (.int .u32 x125_11))) (Lr1 rfl (encI_len (k := .u32)) hx125_11g) <| Wm (.own 0) rfl <| Wm (.i y10_9) rfl ?_
           obtain ⟨x129_11, hx129_11, hm⟩ := bnd hm
           obtain ⟨hx129_11i, hx129_11g⟩ := geti_some hx129_11
           refine Wz (.loc 0 ((Int.toNat y10_9) * 1)) (Oia rfl (encI_len (k := .u32)) hx129_11i hx129_11g) <| Wz (.d (.lit (.int .u32 x129_11))) (Lr1 rfl (encI_len (k := .u32)) hx129_11g) ?_
           obtain ⟨x131_11, hx131_11, hm⟩ := bnd hm
           obtain ⟨hx131_11i, hx131_11g⟩ := geti_some hx131_11
           refine Wz (.loc 0 ((Int.toNat y10_9) * 1)) (Oia rfl (encI_len (k := .u32)) hx131_11i hx131_11g) <| Wy (.tup []) [(0, (.arr 25 1 (List.length (List.set y0_9 (Int.toNat y10_9) x125_11)) (flatD (encI .u32) (List.set y0_9 (Int.toNat y10_9) x125_11))))] (Osr 0 rfl (encI_len (k := .u32)) hx131_11g x125_11) ?_
           obtain ⟨x132_11, hx132_11, hm⟩ := bnd hm
           obtain ⟨hx132_11i, hx132_11g⟩ := geti_some hx132_11
           refine Wz (.loc 0 ((Int.toNat (W6 (y10_9 - 1))) * 1)) (Oia rfl (encI_len (k := .u32)) hx132_11i hx132_11g) <| Wy (.tup []) [(0, (.arr 25 1 (List.length (List.set (List.set y0_9 (Int.toNat y10_9) x125_11) (Int.toNat (W6 (y10_9 - 1))) x129_11)) (flatD (encI .u32) (List.set (List.set y0_9 (Int.toNat y10_9) x125_11) (Int.toNat (W6 (y10_9 - 1))) x129_11))))] (Osr 0 rfl (encI_len (k := .u32)) hx132_11g x129_11) <| Wdr <| Ino <| Tk 1415 1 ⟨.own 0::.i p1::.i p2::tp 4 (.i y7_3::.i y8_0::tp 1 (.i y10_9::tp 122 [])), [(.arr 25 1 (List.length (List.set (List.set y0_9 (Int.toNat y10_9) x125_11) (Int.toNat (W6 (y10_9 - 1))) x129_11)) (flatD (encI .u32) (List.set (List.set y0_9 (Int.toNat y10_9) x125_11) (Int.toNat (W6 (y10_9 - 1))) x129_11)))], 1⟩ <| Tx <| Wm (.i y10_9) rfl <| Wz (.i (W6 (y10_9 + 1))) (Obn rfl (fun _ => hb_add (k := .i64))) <| Wm (.i (W6 (y10_9 + 1))) rfl <| Wn0 <| RoundK.normal ?_
           exact Rounds.weak (Weak.toK 1415 0 0 [0]) (ih_9 (fu_9, (List.set (List.set y0_9 (Int.toNat y10_9) x125_11) (Int.toNat (W6 (y10_9 - 1))) x129_11), (W6 (y10_9 + 1))) hm (Nat.lt_succ_self _))
         ·
          replace hm := cF hc103_16 hm
          refine AiF hc103_16 <| AWP.exit <| Then.exit <| RoundK.exit <| InBlock.same <| Ino <| Tk 391 1 ⟨.own 0::.i p1::.i p2::tp 4 (.i y7_3::.i y8_0::tp 124 []), [(.arr 25 1 (List.length y0_9) (flatD (encI .u32) y0_9))], 1⟩ <| Tx <| Wm (.i y8_0) rfl <| Wz (.i (W6 (y8_0 + 1))) (Obn rfl (fun _ => hb_add (k := .i64))) <| Wm (.i (W6 (y8_0 + 1))) rfl <| Wn0 <| RoundK.normal ?_
          exact Rounds.weak (Weak.toK 391 0 0 [0]) (ih_0 (fu_0, y0_9, y7_3, (W6 (y8_0 + 1))) hm (Nat.lt_succ_self _))
       ·
        replace hm := cF hc98_15 hm
        refine AiF hc98_15 <| Sk <| Ino <| Tk 391 1 ⟨.own 0::.i p1::.i p2::tp 4 (.i y7_3::.i y8_0::tp 124 []), [(.arr 25 1 (List.length y0_8) (flatD (encI .u32) y0_8))], 1⟩ <| Tx <| Wm (.i y8_0) rfl <| Wz (.i (W6 (y8_0 + 1))) (Obn rfl (fun _ => hb_add (k := .i64))) <| Wm (.i (W6 (y8_0 + 1))) rfl <| Wn0 <| RoundK.normal ?_
        exact Rounds.weak (Weak.toK 391 0 0 [0]) (ih_0 (fu_0, y0_8, y7_3, (W6 (y8_0 + 1))) hm (Nat.lt_succ_self _))
      refine Sq <| Sx <| Wm (.i y7_3) rfl <| Wm (.i p1) rfl <| Wz (.i (W6 (y7_3 - p1))) (Obn rfl (fun _ => hb_sub (k := .i64))) <| Wz (.b (decide ((2 : Int) ≤ (W6 (y7_3 - p1))))) (Obn rfl (fun _ => hb_geq (k := .i64))) <| Nk 2305843009213694343 1 ⟨.own 0::.i p1::.i p2::tp 4 (.i y7_3::.i y8_0::tp 52 (.b (decide ((2 : Int) ≤ (W6 (y7_3 - p1))))::tp 71 [])), [(.arr 25 1 (List.length (List.set (List.set y0_0 (Int.toNat y7_3) x50_4) (Int.toNat (W6 (y7_3 - 1))) x54_4)) (flatD (encI .u32) (List.set (List.set y0_0 (Int.toNat y7_3) x50_4) (Int.toNat (W6 (y7_3 - 1))) x54_4)))], 1⟩ ?_
      rcases tf_ (decide ((2 : Int) ≤ (W6 (y7_3 - p1)))) with hc61_18 | hc61_18
      ·
       replace hm := cT hc61_18 hm
       refine AiT hc61_18 <| Sx <| Wm (.i y7_3) rfl <| Wz (.i (W6 (y7_3 - 1))) (Obn rfl (fun _ => hb_sub (k := .i64))) <| Wm (.i (W6 (y7_3 - 1))) rfl <| Nk 903 1 ⟨.own 0::.i p1::.i p2::tp 4 (.i y7_3::.i y8_0::.i (W6 (y7_3 - 1))::tp 123 []), [(.arr 25 1 (List.length (List.set (List.set y0_0 (Int.toNat y7_3) x50_4) (Int.toNat (W6 (y7_3 - 1))) x54_4)) (flatD (encI .u32) (List.set (List.set y0_0 (Int.toNat y7_3) x50_4) (Int.toNat (W6 (y7_3 - 1))) x54_4)))], 1⟩ <| Bk ?_
       refine AWP.loopI (α := Nat × (List Int) × Int)
         (fun (fu_5, y0_5, y9_5) => (⟨.own 0::.i p1::.i p2::tp 4 (.i y7_3::.i y8_0::.i y9_5::tp 123 []), [(.arr 25 1 (List.length y0_5) (flatD (encI .u32) y0_5))], 1⟩ : St))
         (fun (fu_5, y0_5, y9_5) => m_slices_partialInsertionSortOrdered_uint32_l5 p2 y7_3 y8_0 (fun y0_0 y7_0 y8_0 => m_slices_partialInsertionSortOrdered_uint32_l0 p1 p2 fu_0 y0_0 y7_0 y8_0) fu_5 y0_5 y9_5 = some r)
         (fun (fu_5, y0_5, y9_5) => fu_5) (1152921504606846976, (List.set (List.set y0_0 (Int.toNat y7_3) x50_4) (Int.toNat (W6 (y7_3 - 1))) x54_4), (W6 (y7_3 - 1)))
         (Weak.toK 903 0 0 [0]) hm ?_
       rintro ⟨fu_5, y0_5, y9_5⟩ n_5 hm ih_5
       try dsimp only at hm ih_5 ⊢
       cases fu_5 with
       | zero => exact absurd hm (by unfold m_slices_partialInsertionSortOrdered_uint32_l5; simp)
       | succ fu_5 =>
        unfold m_slices_partialInsertionSortOrdered_uint32_l5 at hm
        refine Sq <| Sx <| Wm (.i y9_5) rfl <| Wz (.b (decide ((1 : Int) ≤ y9_5))) (Obn rfl (fun _ => hb_geq (k := .i64))) <| Nk 36893488147419104135 1 ⟨.own 0::.i p1::.i p2::tp 4 (.i y7_3::.i y8_0::.i y9_5::tp 55 (.b (decide ((1 : Int) ≤ y9_5))::tp 67 [])), [(.arr 25 1 (List.length y0_5) (flatD (encI .u32) y0_5))], 1⟩ ?_
        rcases tf_ (decide ((1 : Int) ≤ y9_5)) with hc65_19 | hc65_19
        ·
         replace hm := cT hc65_19 hm
         refine AiT hc65_19 <| Sk <| Tk 903 1 ⟨.own 0::.i p1::.i p2::tp 4 (.i y7_3::.i y8_0::.i y9_5::tp 123 []), [(.arr 25 1 (List.length y0_5) (flatD (encI .u32) y0_5))], 1⟩ <| Sq <| Bk <| Sq <| Sq <| Adr <| Wm (.own 0) rfl <| Wm (.i y9_5) rfl ?_
         obtain ⟨x70_6, hx70_6, hm⟩ := bnd hm
         obtain ⟨hx70_6i, hx70_6g⟩ := geti_some hx70_6
         refine Wz (.loc 0 ((Int.toNat y9_5) * 1)) (Oia rfl (encI_len (k := .u32)) hx70_6i hx70_6g) <| Wz (.d (.lit (.int .u32 x70_6))) (Lr1 rfl (encI_len (k := .u32)) hx70_6g) <| Wm (.own 0) rfl <| Wm (.i y9_5) rfl <| Wz (.i (W6 (y9_5 - 1))) (Obn rfl (fun _ => hb_sub (k := .i64))) ?_
         obtain ⟨x75_6, hx75_6, hm⟩ := bnd hm
         obtain ⟨hx75_6i, hx75_6g⟩ := geti_some hx75_6
         refine Wz (.loc 0 ((Int.toNat (W6 (y9_5 - 1))) * 1)) (Oia rfl (encI_len (k := .u32)) hx75_6i hx75_6g) <| Wz (.d (.lit (.int .u32 x75_6))) (Lr1 rfl (encI_len (k := .u32)) hx75_6g) ?_
         obtain ⟨r77_6, hr77_6, hm⟩ := bnd hm
         refine Wz (.b r77_6) (Ocf [] [] [] 0 (ok_cmp_Less_uint32 x70_6 x75_6 r77_6 hr77_6) (fun a w => Try.call58 a w) rfl trivial) <| Wz (.b (!r77_6)) (Ocs (by kernel_rfl) (op_un rfl (a1 := .bool r77_6) (by kernel_rfl) (fun _ => hu_not))) <| Wdr <| Tk 302231454903657293677447 1 ⟨.own 0::.i p1::.i p2::tp 4 (.i y7_3::.i y8_0::.i y9_5::tp 68 (.b (!r77_6)::tp 54 [])), [(.arr 25 1 (List.length y0_5) (flatD (encI .u32) y0_5))], 1⟩ ?_
         rcases tf_ (!r77_6) with hc78_20 | hc78_20
         ·
          replace hm := cT hc78_20 hm
          refine AiT hc78_20 <| AWP.exit <| Then.exit <| InBlock.other (by rfl) <| Then.exit <| RoundK.exit <| InBlock.same <| Tn ?_
          exact AWP.weak (Weak.toK 391 0 0 [0]) (J8 (y0_5) hm)
         ·
          replace hm := cF hc78_20 hm
          refine AiF hc78_20 <| Sk <| Tk 903 1 ⟨.own 0::.i p1::.i p2::tp 4 (.i y7_3::.i y8_0::.i y9_5::tp 123 []), [(.arr 25 1 (List.length y0_5) (flatD (encI .u32) y0_5))], 1⟩ <| Adr <| Wm (.own 0) rfl <| Wm (.i y9_5) rfl <| Wm (.own 0) rfl <| Wm (.i y9_5) rfl <| Wz (.i (W6 (y9_5 - 1))) (Obn rfl (fun _ => hb_sub (k := .i64))) <| Wm (.own 0) rfl <| Wm (.i y9_5) rfl <| Wz (.i (W6 (y9_5 - 1))) (Obn rfl (fun _ => hb_sub (k := .i64))) ?_
          obtain ⟨x87_7, hx87_7, hm⟩ := bnd hm
          obtain ⟨hx87_7i, hx87_7g⟩ := geti_some hx87_7
          refine Wz (.loc 0 ((Int.toNat (W6 (y9_5 - 1))) * 1)) (Oia rfl (encI_len (k := .u32)) hx87_7i hx87_7g) <| Wz (.d (.lit (.int .u32 x87_7))) (Lr1 rfl (encI_len (k := .u32)) hx87_7g) <| Wm (.own 0) rfl <| Wm (.i y9_5) rfl ?_
          obtain ⟨x91_7, hx91_7, hm⟩ := bnd hm
          obtain ⟨hx91_7i, hx91_7g⟩ := geti_some hx91_7
          refine Wz (.loc 0 ((Int.toNat y9_5) * 1)) (Oia rfl (encI_len (k := .u32)) hx91_7i hx91_7g) <| Wz (.d (.lit (.int .u32 x91_7))) (Lr1 rfl (encI_len (k := .u32)) hx91_7g) ?_
          obtain ⟨x93_7, hx93_7, hm⟩ := bnd hm
          obtain ⟨hx93_7i, hx93_7g⟩ := geti_some hx93_7
          refine Wz (.loc 0 ((Int.toNat y9_5) * 1)) (Oia rfl (encI_len (k := .u32)) hx93_7i hx93_7g) <| Wy (.tup []) [(0, (.arr 25 1 (List.length (List.set y0_5 (Int.toNat y9_5) x87_7)) (flatD (encI .u32) (List.set y0_5 (Int.toNat y9_5) x87_7))))] (Osr 0 rfl (encI_len (k := .u32)) hx93_7g x87_7) ?_
          obtain ⟨x94_7, hx94_7, hm⟩ := bnd hm
          obtain ⟨hx94_7i, hx94_7g⟩ := geti_some hx94_7
          refine Wz (.loc 0 ((Int.toNat (W6 (y9_5 - 1))) * 1)) (Oia rfl (encI_len (k := .u32)) hx94_7i hx94_7g) <| Wy (.tup []) [(0, (.arr 25 1 (List.length (List.set (List.set y0_5 (Int.toNat y9_5) x87_7) (Int.toNat (W6 (y9_5 - 1))) x91_7)) (flatD (encI .u32) (List.set (List.set y0_5 (Int.toNat y9_5) x87_7) (Int.toNat (W6 (y9_5 - 1))) x91_7))))] (Osr 0 rfl (encI_len (k := .u32)) hx94_7g x91_7) <| Wdr <| Ino <| Tk 903 1 ⟨.own 0::.i p1::.i p2::tp 4 (.i y7_3::.i y8_0::.i y9_5::tp 123 []), [(.arr 25 1 (List.length (List.set (List.set y0_5 (Int.toNat y9_5) x87_7) (Int.toNat (W6 (y9_5 - 1))) x91_7)) (flatD (encI .u32) (List.set (List.set y0_5 (Int.toNat y9_5) x87_7) (Int.toNat (W6 (y9_5 - 1))) x91_7)))], 1⟩ <| Tx <| Wm (.i y9_5) rfl <| Wz (.i (W6 (y9_5 - 1))) (Obn rfl (fun _ => hb_sub (k := .i64))) <| Wm (.i (W6 (y9_5 - 1))) rfl <| Wn0 <| RoundK.normal ?_
          exact Rounds.weak (Weak.toK 903 0 0 [0]) (ih_5 (fu_5, (List.set (List.set y0_5 (Int.toNat y9_5) x87_7) (Int.toNat (W6 (y9_5 - 1))) x91_7), (W6 (y9_5 - 1))) hm (Nat.lt_succ_self _))
        ·
         replace hm := cF hc65_19 hm
         refine AiF hc65_19 <| AWP.exit <| Then.exit <| RoundK.exit <| InBlock.same <| Tn ?_
         exact AWP.weak (Weak.toK 391 0 0 [0]) (J8 (y0_5) hm)
      ·
       replace hm := cF hc61_18 hm
       refine AiF hc61_18 <| Sk <| Tn ?_
       exact AWP.weak (Weak.toK 391 0 0 [0]) (J8 ((List.set (List.set y0_0 (Int.toNat y7_3) x50_4) (Int.toNat (W6 (y7_3 - 1))) x54_4)) hm)
   refine Sq <| Bk ?_
   refine AWP.loopI (α := Nat × Int)
     (fun (fu_1, y7_1) => (⟨.own 0::.i p1::.i p2::tp 4 (.i y7_1::.i y8_0::tp 124 []), [(.arr 25 1 (List.length y0_0) (flatD (encI .u32) y0_0))], 1⟩ : St))
     (fun (fu_1, y7_1) => m_slices_partialInsertionSortOrdered_uint32_l1 p1 p2 y0_0 y8_0 (fun y0_0 y7_0 y8_0 => m_slices_partialInsertionSortOrdered_uint32_l0 p1 p2 fu_0 y0_0 y7_0 y8_0) fu_1 y7_1 = some r)
     (fun (fu_1, y7_1) => fu_1) (1152921504606846976, y7_0)
     (Weak.toK 391 0 0 [0]) hm ?_
   rintro ⟨fu_1, y7_1⟩ n_1 hm ih_1
   try dsimp only at hm ih_1 ⊢
   cases fu_1 with
   | zero => exact absurd hm (by unfold m_slices_partialInsertionSortOrdered_uint32_l1; simp)
   | succ fu_1 =>
    unfold m_slices_partialInsertionSortOrdered_uint32_l1 at hm
    refine Sq <| Sq <| Adr <| Wm (.i y7_1) rfl <| Wm (.i p2) rfl <| Wz (.b (decide (y7_1 < p2))) (Obn rfl (fun _ => hb_lss (k := .i64))) ?_
    rcases tf_ (decide (y7_1 < p2)) with hq20_2 | hq20_2
    ·
     replace hm := cT hq20_2 hm
     refine Wz (.b true) (Oq hq20_2 rfl) <| Wm (.own 0) rfl <| Wm (.i y7_1) rfl ?_
     obtain ⟨x23_2, hx23_2, hm⟩ := bnd hm
     obtain ⟨hx23_2i, hx23_2g⟩ := geti_some hx23_2
     refine Wz (.loc 0 ((Int.toNat y7_1) * 1)) (Oia rfl (encI_len (k := .u32)) hx23_2i hx23_2g) <| Wz (.d (.lit (.int .u32 x23_2))) (Lr1 rfl (encI_len (k := .u32)) hx23_2g) <| Wm (.own 0) rfl <| Wm (.i y7_1) rfl <| Wz (.i (W6 (y7_1 - 1))) (Obn rfl (fun _ => hb_sub (k := .i64))) ?_
     obtain ⟨x28_2, hx28_2, hm⟩ := bnd hm
     obtain ⟨hx28_2i, hx28_2g⟩ := geti_some hx28_2
     refine Wz (.loc 0 ((Int.toNat (W6 (y7_1 - 1))) * 1)) (Oia rfl (encI_len (k := .u32)) hx28_2i hx28_2g) <| Wz (.d (.lit (.int .u32 x28_2))) (Lr1 rfl (encI_len (k := .u32)) hx28_2g) ?_
     obtain ⟨r30_2, hr30_2, hm⟩ := bnd hm
     refine Wz (.b r30_2) (Ocf [] [] [] 0 (ok_cmp_Less_uint32 x23_2 x28_2 r30_2 hr30_2) (fun a w => Try.call58 a w) rfl trivial) <| Wz (.b (!r30_2)) (Ocs (by kernel_rfl) (op_un rfl (a1 := .bool r30_2) (by kernel_rfl) (fun _ => hu_not))) <| Wz (.b (!r30_2)) (OpT rfl) <| Wdr <| Tk 4294967687 1 ⟨.own 0::.i p1::.i p2::tp 4 (.i y7_1::.i y8_0::tp 23 (.b (!r30_2)::tp 100 [])), [(.arr 25 1 (List.length y0_0) (flatD (encI .u32) y0_0))], 1⟩ ?_
     rcases tf_ (!r30_2) with hc32_21 | hc32_21
     ·
      replace hm := cT hc32_21 hm
      refine AiT hc32_21 <| Sk <| Tk 391 1 ⟨.own 0::.i p1::.i p2::tp 4 (.i y7_1::.i y8_0::tp 124 []), [(.arr 25 1 (List.length y0_0) (flatD (encI .u32) y0_0))], 1⟩ <| Bk <| Tx <| Wm (.i y7_1) rfl <| Wz (.i (W6 (y7_1 + 1))) (Obn rfl (fun _ => hb_add (k := .i64))) <| Wm (.i (W6 (y7_1 + 1))) rfl <| Wn0 <| Ino <| RoundK.normal ?_
      exact Rounds.weak (Weak.toK 391 0 0 [0]) (ih_1 (fu_1, (W6 (y7_1 + 1))) hm (Nat.lt_succ_self _))
     ·
      replace hm := cF hc32_21 hm
      refine AiF hc32_21 <| AWP.exit <| Then.exit <| RoundK.exit <| InBlock.same <| Tn ?_
      exact AWP.weak (Weak.toK 391 0 0 [0]) (J3 (y7_1) hm)
    ·
     replace hm := cF hq20_2 hm
     refine Wz (.b false) (Oq hq20_2 rfl) <| Wn <| Wn <| Wn <| Wn <| Wn <| Wn <| Wn <| Wn <| Wn <| Wn <| Wn <| Wz (.b false) (OpF rfl) <| Wdr ?_
     refine Tk 4294967687 1 ⟨.own 0::.i p1::.i p2::tp 4 (.i y7_1::.i y8_0::tp 23 (.b false::tp 100 [])), [(.arr 25 1 (List.length y0_0) (flatD (encI .u32) y0_0))], 1⟩ <| AWP.if_ false (by kernel_rfl) <| AWP.exit <| Then.exit <| RoundK.exit <| InBlock.same <| Tn ?_
     exact AWP.weak (Weak.toK 391 0 0 [0]) (J3 (y7_1) hm)
  ·
   replace hm := cF hc14_12 hm
   refine AiF hc14_12 <| AWP.exit <| Then.exit <| RoundK.exit <| InBlock.same <| Tk 0 1 ⟨tp 133 [], [(.arr 25 1 (List.length y0_0) (flatD (encI .u32) y0_0))], 1⟩ <| Sx <| Wm (.b false) rfl <| Nn <| Rt ?_
   obtain rfl := Option.some.inj hm
   exact ret_i [0]

theorem ok_slices_partitionEqualOrdered_uint32 (p0 : (List Int)) (p1 : Int) (p2 : Int) (p3 : Int) (r : (Int × (List Int))) (h : m_slices_partitionEqualOrdered_uint32 p0 p1 p2 p3 = some r) : GCall Try.prog 59 [(.own 0), (.i p1), (.i p2), (.i p3)] [(.arr 25 1 (List.length p0) (flatD (encI .u32) p0))] (.i r.1) [(.arr 25 1 (List.length r.2) (flatD (encI .u32) r.2))] := by
 refine GCall.of_body (n := 84) (rs := [(.tmp 8)]) Try.func59 rfl rfl rfl <| Ato ⟨.own 0::.i p1::.i p2::.i p3::tu 80 [], [(.arr 25 1 (List.length p0) (flatD (encI .u32) p0))], 1⟩ ?_
 have hm := h
 unfold m_slices_partitionEqualOrdered_uint32 at hm
 refine Sx <| Wm (.i 0) rfl <| Nk 15 1 ⟨.own 0::.i p1::.i p2::.i p3::tp 80 [], [(.arr 25 1 (List.length p0) (flatD (encI .u32) p0))], 1⟩ <| Sq <| Adr <| Wm (.own 0) rfl <| Wm (.i p1) rfl <| Wm (.own 0) rfl <| Wm (.i p3) rfl <| Wm (.own 0) rfl <| Wm (.i p3) rfl ?_
 obtain ⟨x17_0, hx17_0, hm⟩ := bnd hm
 obtain ⟨hx17_0i, hx17_0g⟩ := geti_some hx17_0
 refine Wz (.loc 0 ((Int.toNat p3) * 1)) (Oia rfl (encI_len (k := .u32)) hx17_0i hx17_0g) <| Wz (.d (.lit (.int .u32 x17_0))) (Lr1 rfl (encI_len (k := .u32)) hx17_0g) <| Wm (.own 0) rfl <| Wm (.i p1) rfl ?_
 obtain ⟨x21_0, hx21_0, hm⟩ := bnd hm
 obtain ⟨hx21_0i, hx21_0g⟩ := geti_some hx21_0
 refine Wz (.loc 0 ((Int.toNat p1) * 1)) (Oia rfl (encI_len (k := .u32)) hx21_0i hx21_0g) <| Wz (.d (.lit (.int .u32 x21_0))) (Lr1 rfl (encI_len (k := .u32)) hx21_0g) ?_
 obtain ⟨x23_0, hx23_0, hm⟩ := bnd hm
 obtain ⟨hx23_0i, hx23_0g⟩ := geti_some hx23_0
 refine Wz (.loc 0 ((Int.toNat p1) * 1)) (Oia rfl (encI_len (k := .u32)) hx23_0i hx23_0g) <| Wy (.tup []) [(0, (.arr 25 1 (List.length (List.set p0 (Int.toNat p1) x17_0)) (flatD (encI .u32) (List.set p0 (Int.toNat p1) x17_0))))] (Osr 0 rfl (encI_len (k := .u32)) hx23_0g x17_0) ?_
 obtain ⟨x24_0, hx24_0, hm⟩ := bnd hm
 obtain ⟨hx24_0i, hx24_0g⟩ := geti_some hx24_0
 refine Wz (.loc 0 ((Int.toNat p3) * 1)) (Oia rfl (encI_len (k := .u32)) hx24_0i hx24_0g) <| Wy (.tup []) [(0, (.arr 25 1 (List.length (List.set (List.set p0 (Int.toNat p1) x17_0) (Int.toNat p3) x21_0)) (flatD (encI .u32) (List.set (List.set p0 (Int.toNat p1) x17_0) (Int.toNat p3) x21_0))))] (Osr 0 rfl (encI_len (k := .u32)) hx24_0g x21_0) <| Wdr <| Tk 7 1 ⟨.own 0::.i p1::.i p2::tp 81 [], [(.arr 25 1 (List.length (List.set (List.set p0 (Int.toNat p1) x17_0) (Int.toNat p3) x21_0)) (flatD (encI .u32) (List.set (List.set p0 (Int.toNat p1) x17_0) (Int.toNat p3) x21_0)))], 1⟩ <| Sx <| Wm (.i p1) rfl <| Wz (.i (W6 (p1 + 1))) (Obn rfl (fun _ => hb_add (k := .i64))) <| Wm (.i p2) rfl <| Wz (.i (W6 (p2 - 1))) (Obn rfl (fun _ => hb_sub (k := .i64))) <| Wm (.i (W6 (p1 + 1))) rfl <| Wm (.i (W6 (p2 - 1))) rfl <| Nk 1539 1 ⟨.own 0::.i p1::tp 7 (.i (W6 (p1 + 1))::.i (W6 (p2 - 1))::tp 73 []), [(.arr 25 1 (List.length (List.set (List.set p0 (Int.toNat p1) x17_0) (Int.toNat p3) x21_0)) (flatD (encI .u32) (List.set (List.set p0 (Int.toNat p1) x17_0) (Int.toNat p3) x21_0)))], 1⟩ <| Sq <| Bk ?_
 refine AWP.loopI (α := Nat × (List Int) × Int × Int)
   (fun (fu_1, y0_1, y9_1, y10_1) => (⟨.own 0::.i p1::tp 7 (.i y9_1::.i y10_1::tp 73 []), [(.arr 25 1 (List.length y0_1) (flatD (encI .u32) y0_1))], 1⟩ : St))
   (fun (fu_1, y0_1, y9_1, y10_1) => m_slices_partitionEqualOrdered_uint32_l1 p1 fu_1 y0_1 y9_1 y10_1 = some r)
   (fun (fu_1, y0_1, y9_1, y10_1) => fu_1) (1152921504606846976, (List.set (List.set p0 (Int.toNat p1) x17_0) (Int.toNat p3) x21_0), (W6 (p1 + 1)), (W6 (p2 - 1)))
   (Weak.toK 1539 0 0 [0]) hm ?_
 rintro ⟨fu_1, y0_1, y9_1, y10_1⟩ n_1 hm ih_1
 try dsimp only at hm ih_1 ⊢
 cases fu_1 with
 | zero => exact absurd hm (by unfold m_slices_partitionEqualOrdered_uint32_l1; simp)
 | succ fu_1 =>
  unfold m_slices_partitionEqualOrdered_uint32_l1 at hm
  refine Bk ?_
  refine AWP.cutJ (α := Int) (fun x => match x with | y9_4 => (⟨.own 0::.i p1::tp 7 (.i y9_4::.i y10_1::tp 73 []), [(.arr 25 1 (List.length y0_1) (flatD (encI .u32) y0_1))], 1⟩ : St)) (fun x => match x with | y9_4 => m_slices_partitionEqualOrdered_uint32_j4 p1 y0_1 y10_1 (fun y0_1 y9_1 y10_1 => m_slices_partitionEqualOrdered_uint32_l1 p1 fu_1 y0_1 y9_1 y10_1) y9_4 = some r) ?_ (fun J4 => ?_)
  ·
   rintro y9_4 hm
   try dsimp only at hm ⊢
   unfold m_slices_partitionEqualOrdered_uint32_j4 at hm
   refine AWP.cutJ (α := Int) (fun x => match x with | y10_7 => (⟨.own 0::.i p1::tp 7 (.i y9_4::.i y10_7::tp 73 []), [(.arr 25 1 (List.length y0_1) (flatD (encI .u32) y0_1))], 1⟩ : St)) (fun x => match x with | y10_7 => m_slices_partitionEqualOrdered_uint32_j7 y0_1 y9_4 (fun y0_1 y9_1 y10_1 => m_slices_partitionEqualOrdered_uint32_l1 p1 fu_1 y0_1 y9_1 y10_1) y10_7 = some r) ?_ (fun J7 => ?_)
   ·
    rintro y10_7 hm
    try dsimp only at hm ⊢
    unfold m_slices_partitionEqualOrdered_uint32_j7 at hm
    refine Sq <| Sx <| Wm (.i y9_4) rfl <| Wm (.i y10_7) rfl <| Wz (.b (decide (y10_7 < y9_4))) (Obn rfl (fun _ => hb_gtr (k := .i64))) <| Nk 18446744073709553155 1 ⟨.own 0::.i p1::tp 7 (.i y9_4::.i y10_7::tp 53 (.b (decide (y10_7 < y9_4))::tp 19 [])), [(.arr 25 1 (List.length y0_1) (flatD (encI .u32) y0_1))], 1⟩ ?_
    rcases tf_ (decide (y10_7 < y9_4)) with hc64_9 | hc64_9
    ·
     replace hm := cT hc64_9 hm
     refine AiT hc64_9 <| AWP.exit <| Then.exit <| InBlock.other (by rfl) <| RoundK.exit <| InBlock.same <| Tk 512 1 ⟨tp 9 (.i y9_4::tp 74 []), [(.arr 25 1 (List.length y0_1) (flatD (encI .u32) y0_1))], 1⟩ <| Sx <| Wm (.i y9_4) rfl <| Wm (.i y9_4) rfl <| Nn <| Rt ?_
     obtain rfl := Option.some.inj hm
     exact ret_i [0]
    ·
     replace hm := cF hc64_9 hm
     refine AiF hc64_9 <| Sk <| Tk 1539 1 ⟨.own 0::.i p1::tp 7 (.i y9_4::.i y10_7::tp 73 []), [(.arr 25 1 (List.length y0_1) (flatD (encI .u32) y0_1))], 1⟩ <| Sq <| Adr <| Wm (.own 0) rfl <| Wm (.i y9_4) rfl <| Wm (.own 0) rfl <| Wm (.i y10_7) rfl <| Wm (.own 0) rfl <| Wm (.i y10_7) rfl ?_
     obtain ⟨x71_8, hx71_8, hm⟩ := bnd hm
     obtain ⟨hx71_8i, hx71_8g⟩ := geti_some hx71_8
     refine Wz (.loc 0 ((Int.toNat y10_7) * 1)) (Oia rfl (encI_len (k := .u32)) hx71_8i hx71_8g) <| Wz (.d (.lit (.int .u32 x71_8))) (Lr1 rfl (encI_len (k := .u32)) hx71_8g) <| Wm (.own 0) rfl <| Wm (.i y9_4) rfl ?_
     obtain ⟨x75_8, hx75_8, hm⟩ := bnd hm
     obtain ⟨hx75_8i, hx75_8g⟩ := geti_some hx75_8
     refine Wz (.loc 0 ((Int.toNat y9_4) * 1)) (Oia rfl (encI_len (k := .u32)) hx75_8i hx75_8g) <| Wz (.d (.lit (.int .u32 x75_8))) (Lr1 rfl (encI_len (k := .u32)) hx75_8g) ?_
     obtain ⟨x77_8, hx77_8, hm⟩ := bnd hm
     obtain ⟨hx77_8i, hx77_8g⟩ := geti_some hx77_8
     refine Wz (.loc 0 ((Int.toNat y9_4) * 1)) (Oia rfl (encI_len (k := .u32)) hx77_8i hx77_8g) <| Wy (.tup []) [(0, (.arr 25 1 (List.length (List.set y0_1 (Int.toNat y9_4) x71_8)) (flatD (encI .u32) (List.set y0_1 (Int.toNat y9_4) x71_8))))] (Osr 0 rfl (encI_len (k := .u32)) hx77_8g x71_8) ?_
     obtain ⟨x78_8, hx78_8, hm⟩ := bnd hm
     obtain ⟨hx78_8i, hx78_8g⟩ := geti_some hx78_8
     refine Wz (.loc 0 ((Int.toNat y10_7) * 1)) (Oia rfl (encI_len (k := .u32)) hx78_8i hx78_8g) <| Wy (.tup []) [(0, (.arr 25 1 (List.length (List.set (List.set y0_1 (Int.toNat y9_4) x71_8) (Int.toNat y10_7) x75_8)) (flatD (encI .u32) (List.set (List.set y0_1 (Int.toNat y9_4) x71_8) (Int.toNat y10_7) x75_8))))] (Osr 0 rfl (encI_len (k := .u32)) hx78_8g x75_8) <| Wdr <| Tk 1539 1 ⟨.own 0::.i p1::tp 7 (.i y9_4::.i y10_7::tp 73 []), [(.arr 25 1 (List.length (List.set (List.set y0_1 (Int.toNat y9_4) x71_8) (Int.toNat y10_7) x75_8)) (flatD (encI .u32) (List.set (List.set y0_1 (Int.toNat y9_4) x71_8) (Int.toNat y10_7) x75_8)))], 1⟩ <| Sx <| Wm (.i y9_4) rfl <| Wz (.i (W6 (y9_4 + 1))) (Obn rfl (fun _ => hb_add (k := .i64))) <| Wm (.i (W6 (y9_4 + 1))) rfl <| Nk 1539 1 ⟨.own 0::.i p1::tp 7 (.i (W6 (y9_4 + 1))::.i y10_7::tp 73 []), [(.arr 25 1 (List.length (List.set (List.set y0_1 (Int.toNat y9_4) x71_8) (Int.toNat y10_7) x75_8)) (flatD (encI .u32) (List.set (List.set y0_1 (Int.toNat y9_4) x71_8) (Int.toNat y10_7) x75_8)))], 1⟩ <| Tx <| Wm (.i y10_7) rfl <| Wz (.i (W6 (y10_7 - 1))) (Obn rfl (fun _ => hb_sub (k := .i64))) <| Wm (.i (W6 (y10_7 - 1))) rfl <| Wn0 ?_
     refine Ino <| RoundK.normal ?_
     exact Rounds.weak (Weak.toK 1539 0 0 [0]) (ih_1 (fu_1, (List.set (List.set y0_1 (Int.toNat y9_4) x71_8) (Int.toNat y10_7) x75_8), (W6 (y9_4 + 1)), (W6 (y10_7 - 1))) hm (Nat.lt_succ_self _))
   refine Sq <| Bk ?_
   refine AWP.loopI (α := Nat × Int)
     (fun (fu_5, y10_5) => (⟨.own 0::.i p1::tp 7 (.i y9_4::.i y10_5::tp 73 []), [(.arr 25 1 (List.length y0_1) (flatD (encI .u32) y0_1))], 1⟩ : St))
     (fun (fu_5, y10_5) => m_slices_partitionEqualOrdered_uint32_l5 p1 y0_1 y9_4 (fun y0_1 y9_1 y10_1 => m_slices_partitionEqualOrdered_uint32_l1 p1 fu_1 y0_1 y9_1 y10_1) fu_5 y10_5 = some r)
     (fun (fu_5, y10_5) => fu_5) (1152921504606846976, y10_1)
     (Weak.toK 1539 0 0 [0]) hm ?_
   rintro ⟨fu_5, y10_5⟩ n_5 hm ih_5
   try dsimp only at hm ih_5 ⊢
   cases fu_5 with
   | zero => exact absurd hm (by unfold m_slices_partitionEqualOrdered_uint32_l5; simp)
   | succ fu_5 =>
    unfold m_slices_partitionEqualOrdered_uint32_l5 at hm
    refine Sq <| Sq <| Adr <| Wm (.i y9_4) rfl <| Wm (.i y10_5) rfl <| Wz (.b (decide (y9_4 ≤ y10_5))) (Obn rfl (fun _ => hb_leq (k := .i64))) ?_
    rcases tf_ (decide (y9_4 ≤ y10_5)) with hq49_6 | hq49_6
    ·
     replace hm := cT hq49_6 hm
     refine Wz (.b true) (Oq hq49_6 rfl) <| Wm (.own 0) rfl <| Wm (.i p1) rfl ?_
     obtain ⟨x52_6, hx52_6, hm⟩ := bnd hm
     obtain ⟨hx52_6i, hx52_6g⟩ := geti_some hx52_6
     refine Wz (.loc 0 ((Int.toNat p1) * 1)) (Oia rfl (encI_len (k := .u32)) hx52_6i hx52_6g) <| Wz (.d (.lit (.int .u32 x52_6))) (Lr1 rfl (encI_len (k := .u32)) hx52_6g) <| Wm (.own 0) rfl <| Wm (.i y10_5) rfl ?_
     obtain ⟨x56_6, hx56_6, hm⟩ := bnd hm
     obtain ⟨hx56_6i, hx56_6g⟩ := geti_some hx56_6
     refine Wz (.loc 0 ((Int.toNat y10_5) * 1)) (Oia rfl (encI_len (k := .u32)) hx56_6i hx56_6g) <| Wz (.d (.lit (.int .u32 x56_6))) (Lr1 rfl (encI_len (k := .u32)) hx56_6g) ?_
     obtain ⟨r58_6, hr58_6, hm⟩ := bnd hm
     refine Wz (.b r58_6) (Ocf [] [] [] 0 (ok_cmp_Less_uint32 x52_6 x56_6 r58_6 hr58_6) (fun a w => Try.call58 a w) rfl trivial) <| Wz (.b r58_6) (OpT rfl) <| Wdr <| Tk 576460752303425027 1 ⟨.own 0::.i p1::tp 7 (.i y9_4::.i y10_5::tp 48 (.b r58_6::tp 24 [])), [(.arr 25 1 (List.length y0_1) (flatD (encI .u32) y0_1))], 1⟩ ?_
     rcases tf_ r58_6 with hc59_10 | hc59_10
     ·
      replace hm := cT hc59_10 hm
      refine AiT hc59_10 <| Sk <| Tk 1539 1 ⟨.own 0::.i p1::tp 7 (.i y9_4::.i y10_5::tp 73 []), [(.arr 25 1 (List.length y0_1) (flatD (encI .u32) y0_1))], 1⟩ <| Bk <| Tx <| Wm (.i y10_5) rfl <| Wz (.i (W6 (y10_5 - 1))) (Obn rfl (fun _ => hb_sub (k := .i64))) <| Wm (.i (W6 (y10_5 - 1))) rfl <| Wn0 <| Ino <| RoundK.normal ?_
      exact Rounds.weak (Weak.toK 1539 0 0 [0]) (ih_5 (fu_5, (W6 (y10_5 - 1))) hm (Nat.lt_succ_self _))
     ·
      replace hm := cF hc59_10 hm
      refine AiF hc59_10 <| AWP.exit <| Then.exit <| RoundK.exit <| InBlock.same <| Tn ?_
      exact AWP.weak (Weak.toK 1539 0 0 [0]) (J7 (y10_5) hm)
    ·
     replace hm := cF hq49_6 hm
     refine Wz (.b false) (Oq hq49_6 rfl) <| Wn <| Wn <| Wn <| Wn <| Wn <| Wn <| Wn <| Wn <| Wn <| Wz (.b false) (OpF rfl) <| Wdr <| Tk 576460752303425027 1 ⟨.own 0::.i p1::tp 7 (.i y9_4::.i y10_5::tp 48 (.b false::tp 24 [])), [(.arr 25 1 (List.length y0_1) (flatD (encI .u32) y0_1))], 1⟩ <| AWP.if_ false (by kernel_rfl) ?_
     refine AWP.exit <| Then.exit <| RoundK.exit <| InBlock.same <| Tn ?_
     exact AWP.weak (Weak.toK 1539 0 0 [0]) (J7 (y10_5) hm)
  refine Sq <| Bk ?_
  refine AWP.loopI (α := Nat × Int)
    (fun (fu_2, y9_2) => (⟨.own 0::.i p1::tp 7 (.i y9_2::.i y10_1::tp 73 []), [(.arr 25 1 (List.length y0_1) (flatD (encI .u32) y0_1))], 1⟩ : St))
    (fun (fu_2, y9_2) => m_slices_partitionEqualOrdered_uint32_l2 p1 y0_1 y10_1 (fun y0_1 y9_1 y10_1 => m_slices_partitionEqualOrdered_uint32_l1 p1 fu_1 y0_1 y9_1 y10_1) fu_2 y9_2 = some r)
    (fun (fu_2, y9_2) => fu_2) (1152921504606846976, y9_1)
    (Weak.toK 1539 0 0 [0]) hm ?_
  rintro ⟨fu_2, y9_2⟩ n_2 hm ih_2
  try dsimp only at hm ih_2 ⊢
  cases fu_2 with
  | zero => exact absurd hm (by unfold m_slices_partitionEqualOrdered_uint32_l2; simp)
  | succ fu_2 =>
   unfold m_slices_partitionEqualOrdered_uint32_l2 at hm
   refine Sq <| Sq <| Adr <| Wm (.i y9_2) rfl <| Wm (.i y10_1) rfl <| Wz (.b (decide (y9_2 ≤ y10_1))) (Obn rfl (fun _ => hb_leq (k := .i64))) ?_
   rcases tf_ (decide (y9_2 ≤ y10_1)) with hq32_3 | hq32_3
   ·
    replace hm := cT hq32_3 hm
    refine Wz (.b true) (Oq hq32_3 rfl) <| Wm (.own 0) rfl <| Wm (.i p1) rfl ?_
    obtain ⟨x35_3, hx35_3, hm⟩ := bnd hm
    obtain ⟨hx35_3i, hx35_3g⟩ := geti_some hx35_3
    refine Wz (.loc 0 ((Int.toNat p1) * 1)) (Oia rfl (encI_len (k := .u32)) hx35_3i hx35_3g) <| Wz (.d (.lit (.int .u32 x35_3))) (Lr1 rfl (encI_len (k := .u32)) hx35_3g) <| Wm (.own 0) rfl <| Wm (.i y9_2) rfl ?_
    obtain ⟨x39_3, hx39_3, hm⟩ := bnd hm
    obtain ⟨hx39_3i, hx39_3g⟩ := geti_some hx39_3
    refine Wz (.loc 0 ((Int.toNat y9_2) * 1)) (Oia rfl (encI_len (k := .u32)) hx39_3i hx39_3g) <| Wz (.d (.lit (.int .u32 x39_3))) (Lr1 rfl (encI_len (k := .u32)) hx39_3g) ?_
    obtain ⟨r41_3, hr41_3, hm⟩ := bnd hm
    refine Wz (.b r41_3) (Ocf [] [] [] 0 (ok_cmp_Less_uint32 x35_3 x39_3 r41_3 hr41_3) (fun a w => Try.call58 a w) rfl trivial) <| Wz (.b (!r41_3)) (Ocs (by kernel_rfl) (op_un rfl (a1 := .bool r41_3) (by kernel_rfl) (fun _ => hu_not))) <| Wz (.b (!r41_3)) (OpT rfl) <| Wdr <| Tk 8796093023747 1 ⟨.own 0::.i p1::tp 7 (.i y9_2::.i y10_1::tp 32 (.b (!r41_3)::tp 40 [])), [(.arr 25 1 (List.length y0_1) (flatD (encI .u32) y0_1))], 1⟩ ?_
    rcases tf_ (!r41_3) with hc43_11 | hc43_11
    ·
     replace hm := cT hc43_11 hm
     refine AiT hc43_11 <| Sk <| Tk 1539 1 ⟨.own 0::.i p1::tp 7 (.i y9_2::.i y10_1::tp 73 []), [(.arr 25 1 (List.length y0_1) (flatD (encI .u32) y0_1))], 1⟩ <| Bk <| Tx <| Wm (.i y9_2) rfl <| Wz (.i (W6 (y9_2 + 1))) (Obn rfl (fun _ => hb_add (k := .i64))) <| Wm (.i (W6 (y9_2 + 1))) rfl <| Wn0 <| Ino <| RoundK.normal ?_
     exact Rounds.weak (Weak.toK 1539 0 0 [0]) (ih_2 (fu_2, (W6 (y9_2 + 1))) hm (Nat.lt_succ_self _))
    ·
     replace hm := cF hc43_11 hm
     refine AiF hc43_11 <| AWP.exit <| Then.exit <| RoundK.exit <| InBlock.same <| Tn ?_
     exact AWP.weak (Weak.toK 1539 0 0 [0]) (J4 (y9_2) hm)
   ·
    replace hm := cF hq32_3 hm
    refine Wz (.b false) (Oq hq32_3 rfl) <| Wn <| Wn <| Wn <| Wn <| Wn <| Wn <| Wn <| Wn <| Wn <| Wn <| Wz (.b false) (OpF rfl) <| Wdr <| Tk 8796093023747 1 ⟨.own 0::.i p1::tp 7 (.i y9_2::.i y10_1::tp 32 (.b false::tp 40 [])), [(.arr 25 1 (List.length y0_1) (flatD (encI .u32) y0_1))], 1⟩ ?_
    refine AWP.if_ false (by kernel_rfl) <| AWP.exit <| Then.exit <| RoundK.exit <| InBlock.same <| Tn ?_
    exact AWP.weak (Weak.toK 1539 0 0 [0]) (J4 (y9_2) hm)

theorem ok_slices_partitionOrdered_uint32 (p0 : (List Int)) (p1 : Int) (p2 : Int) (p3 : Int) (r : (Int × Bool × (List Int))) (h : m_slices_partitionOrdered_uint32 p0 p1 p2 p3 = some r) : GCall Try.prog 60 [(.own 0), (.i p1), (.i p2), (.i p3)] [(.arr 25 1 (List.length p0) (flatD (encI .u32) p0))] (.tup [(.i r.1), (.b r.2.1)]) [(.arr 25 1 (List.length r.2.2) (flatD (encI .u32) r.2.2))] := by
 refine GCall.of_body (n := 168) (rs := [(.tmp 8), (.tmp 9)]) Try.func60 rfl rfl rfl <| Ato ⟨.own 0::.i p1::.i p2::.i p3::tu 164 [], [(.arr 25 1 (List.length p0) (flatD (encI .u32) p0))], 1⟩ ?_
 have hm := h
 unfold m_slices_partitionOrdered_uint32 at hm
 refine Sx <| Wm (.i 0) rfl <| Wm (.b false) rfl <| Nk 15 1 ⟨.own 0::.i p1::.i p2::.i p3::tp 164 [], [(.arr 25 1 (List.length p0) (flatD (encI .u32) p0))], 1⟩ <| Sq <| Adr <| Wm (.own 0) rfl <| Wm (.i p1) rfl <| Wm (.own 0) rfl <| Wm (.i p3) rfl <| Wm (.own 0) rfl <| Wm (.i p3) rfl ?_
 obtain ⟨x18_0, hx18_0, hm⟩ := bnd hm
 obtain ⟨hx18_0i, hx18_0g⟩ := geti_some hx18_0
 refine Wz (.loc 0 ((Int.toNat p3) * 1)) (Oia rfl (encI_len (k := .u32)) hx18_0i hx18_0g) <| Wz (.d (.lit (.int .u32 x18_0))) (Lr1 rfl (encI_len (k := .u32)) hx18_0g) <| Wm (.own 0) rfl <| Wm (.i p1) rfl ?_
 obtain ⟨x22_0, hx22_0, hm⟩ := bnd hm
 obtain ⟨hx22_0i, hx22_0g⟩ := geti_some hx22_0
 refine Wz (.loc 0 ((Int.toNat p1) * 1)) (Oia rfl (encI_len (k := .u32)) hx22_0i hx22_0g) <| Wz (.d (.lit (.int .u32 x22_0))) (Lr1 rfl (encI_len (k := .u32)) hx22_0g) ?_
 obtain ⟨x24_0, hx24_0, hm⟩ := bnd hm
 obtain ⟨hx24_0i, hx24_0g⟩ := geti_some hx24_0
 refine Wz (.loc 0 ((Int.toNat p1) * 1)) (Oia rfl (encI_len (k := .u32)) hx24_0i hx24_0g) <| Wy (.tup []) [(0, (.arr 25 1 (List.length (List.set p0 (Int.toNat p1) x18_0)) (flatD (encI .u32) (List.set p0 (Int.toNat p1) x18_0))))] (Osr 0 rfl (encI_len (k := .u32)) hx24_0g x18_0) ?_
 obtain ⟨x25_0, hx25_0, hm⟩ := bnd hm
 obtain ⟨hx25_0i, hx25_0g⟩ := geti_some hx25_0
 refine Wz (.loc 0 ((Int.toNat p3) * 1)) (Oia rfl (encI_len (k := .u32)) hx25_0i hx25_0g) <| Wy (.tup []) [(0, (.arr 25 1 (List.length (List.set (List.set p0 (Int.toNat p1) x18_0) (Int.toNat p3) x22_0)) (flatD (encI .u32) (List.set (List.set p0 (Int.toNat p1) x18_0) (Int.toNat p3) x22_0))))] (Osr 0 rfl (encI_len (k := .u32)) hx25_0g x22_0) <| Wdr <| Tk 7 1 ⟨.own 0::.i p1::.i p2::tp 165 [], [(.arr 25 1 (List.length (List.set (List.set p0 (Int.toNat p1) x18_0) (Int.toNat p3) x22_0)) (flatD (encI .u32) (List.set (List.set p0 (Int.toNat p1) x18_0) (Int.toNat p3) x22_0)))], 1⟩ <| Sx <| Wm (.i p1) rfl <| Wz (.i (W6 (p1 + 1))) (Obn rfl (fun _ => hb_add (k := .i64))) <| Wm (.i p2) rfl <| Wz (.i (W6 (p2 - 1))) (Obn rfl (fun _ => hb_sub (k := .i64))) <| Wm (.i (W6 (p1 + 1))) rfl <| Wm (.i (W6 (p2 - 1))) rfl <| Nk 3075 1 ⟨.own 0::.i p1::tp 8 (.i (W6 (p1 + 1))::.i (W6 (p2 - 1))::tp 156 []), [(.arr 25 1 (List.length (List.set (List.set p0 (Int.toNat p1) x18_0) (Int.toNat p3) x22_0)) (flatD (encI .u32) (List.set (List.set p0 (Int.toNat p1) x18_0) (Int.toNat p3) x22_0)))], 1⟩ ?_
 refine AWP.cutJ (α := Int) (fun x => match x with | y10_3 => (⟨.own 0::.i p1::tp 8 (.i y10_3::.i (W6 (p2 - 1))::tp 156 []), [(.arr 25 1 (List.length (List.set (List.set p0 (Int.toNat p1) x18_0) (Int.toNat p3) x22_0)) (flatD (encI .u32) (List.set (List.set p0 (Int.toNat p1) x18_0) (Int.toNat p3) x22_0)))], 1⟩ : St)) (fun x => match x with | y10_3 => m_slices_partitionOrdered_uint32_j3 p0 p1 p2 p3 x18_0 x22_0 y10_3 = some r) ?_ (fun J3 => ?_)
 ·
  rintro y10_3 hm
  try dsimp only at hm ⊢
  unfold m_slices_partitionOrdered_uint32_j3 at hm
  refine AWP.cutJ (α := Int) (fun x => match x with | y11_6 => (⟨.own 0::.i p1::tp 8 (.i y10_3::.i y11_6::tp 156 []), [(.arr 25 1 (List.length (List.set (List.set p0 (Int.toNat p1) x18_0) (Int.toNat p3) x22_0)) (flatD (encI .u32) (List.set (List.set p0 (Int.toNat p1) x18_0) (Int.toNat p3) x22_0)))], 1⟩ : St)) (fun x => match x with | y11_6 => m_slices_partitionOrdered_uint32_j6 p0 p1 p3 x18_0 x22_0 y10_3 y11_6 = some r) ?_ (fun J6 => ?_)
  ·
   rintro y11_6 hm
   try dsimp only at hm ⊢
   unfold m_slices_partitionOrdered_uint32_j6 at hm
   refine Sq <| Sx <| Wm (.i y10_3) rfl <| Wm (.i y11_6) rfl <| Wz (.b (decide (y11_6 < y10_3))) (Obn rfl (fun _ => hb_gtr (k := .i64))) <| Nk 36893488147419106307 1 ⟨.own 0::.i p1::tp 8 (.i y10_3::.i y11_6::tp 53 (.b (decide (y11_6 < y10_3))::tp 102 [])), [(.arr 25 1 (List.length (List.set (List.set p0 (Int.toNat p1) x18_0) (Int.toNat p3) x22_0)) (flatD (encI .u32) (List.set (List.set p0 (Int.toNat p1) x18_0) (Int.toNat p3) x22_0)))], 1⟩ ?_
   rcases tf_ (decide (y11_6 < y10_3)) with hc65_18 | hc65_18
   ·
    replace hm := cT hc65_18 hm
    refine AiT hc65_18 <| Sq <| Adr <| Wm (.own 0) rfl <| Wm (.i y11_6) rfl <| Wm (.own 0) rfl <| Wm (.i p1) rfl <| Wm (.own 0) rfl <| Wm (.i p1) rfl ?_
    obtain ⟨x72_7, hx72_7, hm⟩ := bnd hm
    obtain ⟨hx72_7i, hx72_7g⟩ := geti_some hx72_7
    refine Wz (.loc 0 ((Int.toNat p1) * 1)) (Oia rfl (encI_len (k := .u32)) hx72_7i hx72_7g) <| Wz (.d (.lit (.int .u32 x72_7))) (Lr1 rfl (encI_len (k := .u32)) hx72_7g) <| Wm (.own 0) rfl <| Wm (.i y11_6) rfl ?_
    obtain ⟨x76_7, hx76_7, hm⟩ := bnd hm
    obtain ⟨hx76_7i, hx76_7g⟩ := geti_some hx76_7
    refine Wz (.loc 0 ((Int.toNat y11_6) * 1)) (Oia rfl (encI_len (k := .u32)) hx76_7i hx76_7g) <| Wz (.d (.lit (.int .u32 x76_7))) (Lr1 rfl (encI_len (k := .u32)) hx76_7g) ?_
    obtain ⟨x78_7, hx78_7, hm⟩ := bnd hm
    obtain ⟨hx78_7i, hx78_7g⟩ := geti_some hx78_7
    refine Wz (.loc 0 ((Int.toNat y11_6) * 1)) (Oia rfl (encI_len (k := .u32)) hx78_7i hx78_7g) <| Wy (.tup []) [(0, (.arr 25 1 (List.length (List.set (List.set (List.set p0 (Int.toNat p1) x18_0) (Int.toNat p3) x22_0) (Int.toNat y11_6) x72_7)) (flatD (encI .u32) (List.set (List.set (List.set p0 (Int.toNat p1) x18_0) (Int.toNat p3) x22_0) (Int.toNat y11_6) x72_7))))] (Osr 0 rfl (encI_len (k := .u32)) hx78_7g x72_7) ?_
    obtain ⟨x79_7, hx79_7, hm⟩ := bnd hm
    obtain ⟨hx79_7i, hx79_7g⟩ := geti_some hx79_7
    refine Wz (.loc 0 ((Int.toNat p1) * 1)) (Oia rfl (encI_len (k := .u32)) hx79_7i hx79_7g) <| Wy (.tup []) [(0, (.arr 25 1 (List.length (List.set (List.set (List.set (List.set p0 (Int.toNat p1) x18_0) (Int.toNat p3) x22_0) (Int.toNat y11_6) x72_7) (Int.toNat p1) x76_7)) (flatD (encI .u32) (List.set (List.set (List.set (List.set p0 (Int.toNat p1) x18_0) (Int.toNat p3) x22_0) (Int.toNat y11_6) x72_7) (Int.toNat p1) x76_7))))] (Osr 0 rfl (encI_len (k := .u32)) hx79_7g x76_7) <| Wdr <| Tk 2048 1 ⟨tp 11 (.i y11_6::tp 156 []), [(.arr 25 1 (List.length (List.set (List.set (List.set (List.set p0 (Int.toNat p1) x18_0) (Int.toNat p3) x22_0) (Int.toNat y11_6) x72_7) (Int.toNat p1) x76_7)) (flatD (encI .u32) (List.set (List.set (List.set (List.set p0 (Int.toNat p1) x18_0) (Int.toNat p3) x22_0) (Int.toNat y11_6) x72_7) (Int.toNat p1) x76_7)))], 1⟩ <| Sx <| Wm (.i y11_6) rfl <| Wm (.i y11_6) rfl <| Wm (.b true) rfl <| Nn <| Rt <| Tr ?_
    obtain rfl := Option.some.inj hm
    exact ret_i [0]
   ·
    replace hm := cF hc65_18 hm
    refine AiF hc65_18 <| Sk <| Tk 3075 1 ⟨.own 0::.i p1::tp 8 (.i y10_3::.i y11_6::tp 156 []), [(.arr 25 1 (List.length (List.set (List.set p0 (Int.toNat p1) x18_0) (Int.toNat p3) x22_0)) (flatD (encI .u32) (List.set (List.set p0 (Int.toNat p1) x18_0) (Int.toNat p3) x22_0)))], 1⟩ <| Sq <| Adr <| Wm (.own 0) rfl <| Wm (.i y10_3) rfl <| Wm (.own 0) rfl <| Wm (.i y11_6) rfl <| Wm (.own 0) rfl <| Wm (.i y11_6) rfl ?_
    obtain ⟨x87_8, hx87_8, hm⟩ := bnd hm
    obtain ⟨hx87_8i, hx87_8g⟩ := geti_some hx87_8
    refine Wz (.loc 0 ((Int.toNat y11_6) * 1)) (Oia rfl (encI_len (k := .u32)) hx87_8i hx87_8g) <| Wz (.d (.lit (.int .u32 x87_8))) (Lr1 rfl (encI_len (k := .u32)) hx87_8g) <| Wm (.own 0) rfl <| Wm (.i y10_3) rfl ?_
    obtain ⟨x91_8, hx91_8, hm⟩ := bnd hm
    obtain ⟨hx91_8i, hx91_8g⟩ := geti_some hx91_8
    refine Wz (.loc 0 ((Int.toNat y10_3) * 1)) (Oia rfl (encI_len (k := .u32)) hx91_8i hx91_8g) <| Wz (.d (.lit (.int .u32 x91_8))) (Lr1 rfl (encI_len (k := .u32)) hx91_8g) ?_
    obtain ⟨x93_8, hx93_8, hm⟩ := bnd hm
    obtain ⟨hx93_8i, hx93_8g⟩ := geti_some hx93_8
    refine Wz (.loc 0 ((Int.toNat y10_3) * 1)) (Oia rfl (encI_len (k := .u32)) hx93_8i hx93_8g) <| Wy (.tup []) [(0, (.arr 25 1 (List.length (List.set (List.set (List.set p0 (Int.toNat p1) x18_0) (Int.toNat p3) x22_0) (Int.toNat y10_3) x87_8)) (flatD (encI .u32) (List.set (List.set (List.set p0 (Int.toNat p1) x18_0) (Int.toNat p3) x22_0) (Int.toNat y10_3) x87_8))))] (Osr 0 rfl (encI_len (k := .u32)) hx93_8g x87_8) ?_
    obtain ⟨x94_8, hx94_8, hm⟩ := bnd hm
    obtain ⟨hx94_8i, hx94_8g⟩ := geti_some hx94_8
    refine Wz (.loc 0 ((Int.toNat y11_6) * 1)) (Oia rfl (encI_len (k := .u32)) hx94_8i hx94_8g) <| Wy (.tup []) [(0, (.arr 25 1 (List.length (List.set (List.set (List.set (List.set p0 (Int.toNat p1) x18_0) (Int.toNat p3) x22_0) (Int.toNat y10_3) x87_8) (Int.toNat y11_6) x91_8)) (flatD (encI .u32) (List.set (List.set (List.set (List.set p0 (Int.toNat p1) x18_0) (Int.toNat p3) x22_0) (Int.toNat y10_3) x87_8) (Int.toNat y11_6) x91_8))))] (Osr 0 rfl (encI_len (k := .u32)) hx94_8g x91_8) <| Wdr <| Tk 3075 1 ⟨.own 0::.i p1::tp 8 (.i y10_3::.i y11_6::tp 156 []), [(.arr 25 1 (List.length (List.set (List.set (List.set (List.set p0 (Int.toNat p1) x18_0) (Int.toNat p3) x22_0) (Int.toNat y10_3) x87_8) (Int.toNat y11_6) x91_8)) (flatD (encI .u32) (List.set (List.set (List.set (List.set p0 (Int.toNat p1) x18_0) (Int.toNat p3) x22_0) (Int.toNat y10_3) x87_8) (Int.toNat y11_6) x91_8)))], 1⟩ <| Sx <| Wm (.i y10_3) rfl <| Wz (.i (W6 (y10_3 + 1))) (Obn rfl (fun _ => hb_add (k := .i64))) <| Wm (.i (W6 (y10_3 + 1))) rfl <| Nk 3075 1 ⟨.own 0::.i p1::tp 8 (.i (W6 (y10_3 + 1))::.i y11_6::tp 156 []), [(.arr 25 1 (List.length (List.set (List.set (List.set (List.set p0 (Int.toNat p1) x18_0) (Int.toNat p3) x22_0) (Int.toNat y10_3) x87_8) (Int.toNat y11_6) x91_8)) (flatD (encI .u32) (List.set (List.set (List.set (List.set p0 (Int.toNat p1) x18_0) (Int.toNat p3) x22_0) (Int.toNat y10_3) x87_8) (Int.toNat y11_6) x91_8)))], 1⟩ <| Sx <| Wm (.i y11_6) rfl <| Wz (.i (W6 (y11_6 - 1))) (Obn rfl (fun _ => hb_sub (k := .i64))) <| Wm (.i (W6 (y11_6 - 1))) rfl <| Nk 3075 1 ⟨.own 0::.i p1::tp 8 (.i (W6 (y10_3 + 1))::.i (W6 (y11_6 - 1))::tp 156 []), [(.arr 25 1 (List.length (List.set (List.set (List.set (List.set p0 (Int.toNat p1) x18_0) (Int.toNat p3) x22_0) (Int.toNat y10_3) x87_8) (Int.toNat y11_6) x91_8)) (flatD (encI .u32) (List.set (List.set (List.set (List.set p0 (Int.toNat p1) x18_0) (Int.toNat p3) x22_0) (Int.toNat y10_3) x87_8) (Int.toNat y11_6) x91_8)))], 1⟩ ?_
    refine Sq <| Bk ?_
    refine AWP.loopI (α := Nat × (List Int) × Int × Int)
      (fun (fu_9, y0_9, y10_9, y11_9) => (⟨.own 0::.i p1::tp 8 (.i y10_9::.i y11_9::tp 156 []), [(.arr 25 1 (List.length y0_9) (flatD (encI .u32) y0_9))], 1⟩ : St))
      (fun (fu_9, y0_9, y10_9, y11_9) => m_slices_partitionOrdered_uint32_l9 p1 fu_9 y0_9 y10_9 y11_9 = some r)
      (fun (fu_9, y0_9, y10_9, y11_9) => fu_9) (1152921504606846976, (List.set (List.set (List.set (List.set p0 (Int.toNat p1) x18_0) (Int.toNat p3) x22_0) (Int.toNat y10_3) x87_8) (Int.toNat y11_6) x91_8), (W6 (y10_3 + 1)), (W6 (y11_6 - 1)))
      (Weak.toK 3075 0 0 [0]) hm ?_
    rintro ⟨fu_9, y0_9, y10_9, y11_9⟩ n_9 hm ih_9
    try dsimp only at hm ih_9 ⊢
    cases fu_9 with
    | zero => exact absurd hm (by unfold m_slices_partitionOrdered_uint32_l9; simp)
    | succ fu_9 =>
     unfold m_slices_partitionOrdered_uint32_l9 at hm
     refine Bk ?_
     refine AWP.cutJ (α := Int) (fun x => match x with | y10_12 => (⟨.own 0::.i p1::tp 8 (.i y10_12::.i y11_9::tp 156 []), [(.arr 25 1 (List.length y0_9) (flatD (encI .u32) y0_9))], 1⟩ : St)) (fun x => match x with | y10_12 => m_slices_partitionOrdered_uint32_j12 p1 y0_9 y11_9 (fun y0_9 y10_9 y11_9 => m_slices_partitionOrdered_uint32_l9 p1 fu_9 y0_9 y10_9 y11_9) y10_12 = some r) ?_ (fun J12 => ?_)
     ·
      rintro y10_12 hm
      try dsimp only at hm ⊢
      unfold m_slices_partitionOrdered_uint32_j12 at hm
      refine AWP.cutJ (α := Int) (fun x => match x with | y11_15 => (⟨.own 0::.i p1::tp 8 (.i y10_12::.i y11_15::tp 156 []), [(.arr 25 1 (List.length y0_9) (flatD (encI .u32) y0_9))], 1⟩ : St)) (fun x => match x with | y11_15 => m_slices_partitionOrdered_uint32_j15 p1 y0_9 y10_12 (fun y0_9 y10_9 y11_9 => m_slices_partitionOrdered_uint32_l9 p1 fu_9 y0_9 y10_9 y11_9) y11_15 = some r) ?_ (fun J15 => ?_)
      ·
       rintro y11_15 hm
       try dsimp only at hm ⊢
       unfold m_slices_partitionOrdered_uint32_j15 at hm
       refine Sq <| Sx <| Wm (.i y10_12) rfl <| Wm (.i y11_15) rfl <| Wz (.b (decide (y11_15 < y10_12))) (Obn rfl (fun _ => hb_gtr (k := .i64))) <| Nk 21778071482940061661655974875633165536259 1 ⟨.own 0::.i p1::tp 8 (.i y10_12::.i y11_15::tp 122 (.b (decide (y11_15 < y10_12))::tp 33 [])), [(.arr 25 1 (List.length y0_9) (flatD (encI .u32) y0_9))], 1⟩ ?_
       rcases tf_ (decide (y11_15 < y10_12)) with hc134_19 | hc134_19
       ·
        replace hm := cT hc134_19 hm
        refine AiT hc134_19 <| AWP.exit <| Then.exit <| InBlock.other (by rfl) <| RoundK.exit <| InBlock.same <| Tk 2051 1 ⟨.own 0::.i p1::tp 9 (.i y11_15::tp 156 []), [(.arr 25 1 (List.length y0_9) (flatD (encI .u32) y0_9))], 1⟩ <| Sq <| Adr <| Wm (.own 0) rfl <| Wm (.i y11_15) rfl <| Wm (.own 0) rfl <| Wm (.i p1) rfl <| Wm (.own 0) rfl ?_
        refine Wm (.i p1) rfl ?_
        obtain ⟨x159_17, hx159_17, hm⟩ := bnd hm
        obtain ⟨hx159_17i, hx159_17g⟩ := geti_some hx159_17
        refine Wz (.loc 0 ((Int.toNat p1) * 1)) (Oia rfl (encI_len (k := .u32)) hx159_17i hx159_17g) <| Wz (.d (.lit (.int .u32 x159_17))) (Lr1 rfl (encI_len (k := .u32)) hx159_17g) <| Wm (.own 0) rfl <| Wm (.i y11_15) rfl ?_
        obtain ⟨x163_17, hx163_17, hm⟩ := bnd hm
        obtain ⟨hx163_17i, hx163_17g⟩ := geti_some hx163_17
        refine Wz (.loc 0 ((Int.toNat y11_15) * 1)) (Oia rfl (encI_len (k := .u32)) hx163_17i hx163_17g) <| Wz (.d (.lit (.int .u32 x163_17))) (Lr1 rfl (encI_len (k := .u32)) hx163_17g) ?_
        obtain ⟨x165_17, hx165_17, hm⟩ := bnd hm
        obtain ⟨hx165_17i, hx165_17g⟩ := geti_some hx165_17
        refine Wz (.loc 0 ((Int.toNat y11_15) * 1)) (Oia rfl (encI_len (k := .u32)) hx165_17i hx165_17g) <| Wy (.tup []) [(0, (.arr 25 1 (List.length (List.set y0_9 (Int.toNat y11_15) x159_17)) (flatD (encI .u32) (List.set y0_9 (Int.toNat y11_15) x159_17))))] (Osr 0 rfl (encI_len (k := .u32)) hx165_17g x159_17) ?_
        obtain ⟨x166_17, hx166_17, hm⟩ := bnd hm
        obtain ⟨hx166_17i, hx166_17g⟩ := geti_some hx166_17
        refine Wz (.loc 0 ((Int.toNat p1) * 1)) (Oia rfl (encI_len (k := .u32)) hx166_17i hx166_17g) <| Wy (.tup []) [(0, (.arr 25 1 (List.length (List.set (List.set y0_9 (Int.toNat y11_15) x159_17) (Int.toNat p1) x163_17)) (flatD (encI .u32) (List.set (List.set y0_9 (Int.toNat y11_15) x159_17) (Int.toNat p1) x163_17))))] (Osr 0 rfl (encI_len (k := .u32)) hx166_17g x163_17) <| Wdr <| Tk 2048 1 ⟨tp 11 (.i y11_15::tp 156 []), [(.arr 25 1 (List.length (List.set (List.set y0_9 (Int.toNat y11_15) x159_17) (Int.toNat p1) x163_17)) (flatD (encI .u32) (List.set (List.set y0_9 (Int.toNat y11_15) x159_17) (Int.toNat p1) x163_17)))], 1⟩ <| Sx <| Wm (.i y11_15) rfl <| Wm (.i y11_15) rfl <| Wm (.b false) rfl <| Nn <| Rt ?_
        obtain rfl := Option.some.inj hm
        exact ret_i [0]
       ·
        replace hm := cF hc134_19 hm
        refine AiF hc134_19 <| Sk <| Tk 3075 1 ⟨.own 0::.i p1::tp 8 (.i y10_12::.i y11_15::tp 156 []), [(.arr 25 1 (List.length y0_9) (flatD (encI .u32) y0_9))], 1⟩ <| Sq <| Adr <| Wm (.own 0) rfl <| Wm (.i y10_12) rfl <| Wm (.own 0) rfl <| Wm (.i y11_15) rfl <| Wm (.own 0) rfl <| Wm (.i y11_15) rfl ?_
        obtain ⟨x141_16, hx141_16, hm⟩ := bnd hm
        obtain ⟨hx141_16i, hx141_16g⟩ := geti_some hx141_16
        refine Wz (.loc 0 ((Int.toNat y11_15) * 1)) (Oia rfl (encI_len (k := .u32)) hx141_16i hx141_16g) <| Wz (.d (.lit (.int .u32 x141_16))) (Lr1 rfl (encI_len (k := .u32)) hx141_16g) <| Wm (.own 0) rfl <| Wm (.i y10_12) rfl ?_
        obtain ⟨x145_16, hx145_16, hm⟩ := bnd hm
        obtain ⟨hx145_16i, hx145_16g⟩ := geti_some hx145_16
        refine Wz (.loc 0 ((Int.toNat y10_12) * 1)) (Oia rfl (encI_len (k := .u32)) hx145_16i hx145_16g) <| Wz (.d (.lit (.int .u32 x145_16))) (Lr1 rfl (encI_len (k := .u32)) hx145_16g) ?_
        obtain ⟨x147_16, hx147_16, hm⟩ := bnd hm
        obtain ⟨hx147_16i, hx147_16g⟩ := geti_some hx147_16
        refine Wz (.loc 0 ((Int.toNat y10_12) * 1)) (Oia rfl (encI_len (k := .u32)) hx147_16i hx147_16g) <| Wy (.tup []) [(0, (.arr 25 1 (List.length (List.set y0_9 (Int.toNat y10_12) x141_16)) (flatD (encI .u32) (List.set y0_9 (Int.toNat y10_12) x141_16))))] (Osr 0 rfl (encI_len (k := .u32)) hx147_16g x141_16) ?_
        obtain ⟨x148_16, hx148_16, hm⟩ := bnd hm
        obtain ⟨hx148_16i, hx148_16g⟩ := geti_some hx148_16
        refine Wz (.loc 0 ((Int.toNat y11_15) * 1)) (Oia rfl (encI_len (k := .u32)) hx148_16i hx148_16g) <| Wy (.tup []) [(0, (.arr 25 1 (List.length (List.set (List.set y0_9 (Int.toNat y10_12) x141_16) (Int.toNat y11_15) x145_16)) (flatD (encI .u32) (List.set (List.set y0_9 (Int.toNat y10_12) x141_16) (Int.toNat y11_15) x145_16))))] (Osr 0 rfl (encI_len (k := .u32)) hx148_16g x145_16) <| Wdr <| Tk 3075 1 ⟨.own 0::.i p1::tp 8 (.i y10_12::.i y11_15::tp 156 []), [(.arr 25 1 (List.length (List.set (List.set y0_9 (Int.toNat y10_12) x141_16) (Int.toNat y11_15) x145_16)) (flatD (encI .u32) (List.set (List.set y0_9 (Int.toNat y10_12) x141_16) (Int.toNat y11_15) x145_16)))], 1⟩ <| Sx <| Wm (.i y10_12) rfl <| Wz (.i (W6 (y10_12 + 1))) (Obn rfl (fun _ => hb_add (k := .i64))) <| Wm (.i (W6 (y10_12 + 1))) rfl <| Nk 3075 1 ⟨.own 0::.i p1::tp 8 (.i (W6 (y10_12 + 1))::.i y11_15::tp 156 []), [(.arr 25 1 (List.length (List.set (List.set y0_9 (Int.toNat y10_12) x141_16) (Int.toNat y11_15) x145_16)) (flatD (encI .u32) (List.set (List.set y0_9 (Int.toNat y10_12) x141_16) (Int.toNat y11_15) x145_16)))], 1⟩ <| Tx <| Wm (.i y11_15) rfl <| Wz (.i (W6 (y11_15 - 1))) (Obn rfl (fun _ => hb_sub (k := .i64))) <| Wm (.i (W6 (y11_15 - 1))) rfl <| Wn0 ?_
        refine Ino <| RoundK.normal ?_
        exact Rounds.weak (Weak.toK 3075 0 0 [0]) (ih_9 (fu_9, (List.set (List.set y0_9 (Int.toNat y10_12) x141_16) (Int.toNat y11_15) x145_16), (W6 (y10_12 + 1)), (W6 (y11_15 - 1))) hm (Nat.lt_succ_self _))
      refine Sq <| Bk ?_
      refine AWP.loopI (α := Nat × Int)
        (fun (fu_13, y11_13) => (⟨.own 0::.i p1::tp 8 (.i y10_12::.i y11_13::tp 156 []), [(.arr 25 1 (List.length y0_9) (flatD (encI .u32) y0_9))], 1⟩ : St))
        (fun (fu_13, y11_13) => m_slices_partitionOrdered_uint32_l13 p1 y0_9 y10_12 (fun y0_9 y10_9 y11_9 => m_slices_partitionOrdered_uint32_l9 p1 fu_9 y0_9 y10_9 y11_9) fu_13 y11_13 = some r)
        (fun (fu_13, y11_13) => fu_13) (1152921504606846976, y11_9)
        (Weak.toK 3075 0 0 [0]) hm ?_
      rintro ⟨fu_13, y11_13⟩ n_13 hm ih_13
      try dsimp only at hm ih_13 ⊢
      cases fu_13 with
      | zero => exact absurd hm (by unfold m_slices_partitionOrdered_uint32_l13; simp)
      | succ fu_13 =>
       unfold m_slices_partitionOrdered_uint32_l13 at hm
       refine Sq <| Sq <| Adr <| Wm (.i y10_12) rfl <| Wm (.i y11_13) rfl <| Wz (.b (decide (y10_12 ≤ y11_13))) (Obn rfl (fun _ => hb_leq (k := .i64))) ?_
       rcases tf_ (decide (y10_12 ≤ y11_13)) with hq118_14 | hq118_14
       ·
        replace hm := cT hq118_14 hm
        refine Wz (.b true) (Oq hq118_14 rfl) <| Wm (.own 0) rfl <| Wm (.i y11_13) rfl ?_
        obtain ⟨x121_14, hx121_14, hm⟩ := bnd hm
        obtain ⟨hx121_14i, hx121_14g⟩ := geti_some hx121_14
        refine Wz (.loc 0 ((Int.toNat y11_13) * 1)) (Oia rfl (encI_len (k := .u32)) hx121_14i hx121_14g) <| Wz (.d (.lit (.int .u32 x121_14))) (Lr1 rfl (encI_len (k := .u32)) hx121_14g) <| Wm (.own 0) rfl <| Wm (.i p1) rfl ?_
        obtain ⟨x125_14, hx125_14, hm⟩ := bnd hm
        obtain ⟨hx125_14i, hx125_14g⟩ := geti_some hx125_14
        refine Wz (.loc 0 ((Int.toNat p1) * 1)) (Oia rfl (encI_len (k := .u32)) hx125_14i hx125_14g) <| Wz (.d (.lit (.int .u32 x125_14))) (Lr1 rfl (encI_len (k := .u32)) hx125_14g) ?_
        obtain ⟨r127_14, hr127_14, hm⟩ := bnd hm
        refine Wz (.b r127_14) (Ocf [] [] [] 0 (ok_cmp_Less_uint32 x121_14 x125_14 r127_14 hr127_14) (fun a w => Try.call58 a w) rfl trivial) <| Wz (.b (!r127_14)) (Ocs (by kernel_rfl) (op_un rfl (a1 := .bool r127_14) (by kernel_rfl) (fun _ => hu_not))) <| Wz (.b (!r127_14)) (OpT rfl) <| Wdr <| Tk 680564733841876926926749214863536425987 1 ⟨.own 0::.i p1::tp 8 (.i y10_12::.i y11_13::tp 117 (.b (!r127_14)::tp 38 [])), [(.arr 25 1 (List.length y0_9) (flatD (encI .u32) y0_9))], 1⟩ ?_
        rcases tf_ (!r127_14) with hc129_20 | hc129_20
        ·
         replace hm := cT hc129_20 hm
         refine AiT hc129_20 <| Sk <| Tk 3075 1 ⟨.own 0::.i p1::tp 8 (.i y10_12::.i y11_13::tp 156 []), [(.arr 25 1 (List.length y0_9) (flatD (encI .u32) y0_9))], 1⟩ <| Bk <| Tx <| Wm (.i y11_13) rfl <| Wz (.i (W6 (y11_13 - 1))) (Obn rfl (fun _ => hb_sub (k := .i64))) <| Wm (.i (W6 (y11_13 - 1))) rfl <| Wn0 <| Ino <| RoundK.normal ?_
         exact Rounds.weak (Weak.toK 3075 0 0 [0]) (ih_13 (fu_13, (W6 (y11_13 - 1))) hm (Nat.lt_succ_self _))
        ·
         replace hm := cF hc129_20 hm
         refine AiF hc129_20 <| AWP.exit <| Then.exit <| RoundK.exit <| InBlock.same <| Tn ?_
         exact AWP.weak (Weak.toK 3075 0 0 [0]) (J15 (y11_13) hm)
       ·
        replace hm := cF hq118_14 hm
        refine Wz (.b false) (Oq hq118_14 rfl) <| Wn <| Wn <| Wn <| Wn <| Wn <| Wn <| Wn <| Wn <| Wn <| Wn <| Wz (.b false) (OpF rfl) <| Wdr <| Tk 680564733841876926926749214863536425987 1 ⟨.own 0::.i p1::tp 8 (.i y10_12::.i y11_13::tp 117 (.b false::tp 38 [])), [(.arr 25 1 (List.length y0_9) (flatD (encI .u32) y0_9))], 1⟩ ?_
        refine AWP.if_ false (by kernel_rfl) <| AWP.exit <| Then.exit <| RoundK.exit <| InBlock.same <| Tn ?_
        exact AWP.weak (Weak.toK 3075 0 0 [0]) (J15 (y11_13) hm)
     refine Sq <| Bk ?_
     refine AWP.loopI (α := Nat × Int)
       (fun (fu_10, y10_10) => (⟨.own 0::.i p1::tp 8 (.i y10_10::.i y11_9::tp 156 []), [(.arr 25 1 (List.length y0_9) (flatD (encI .u32) y0_9))], 1⟩ : St))
       (fun (fu_10, y10_10) => m_slices_partitionOrdered_uint32_l10 p1 y0_9 y11_9 (fun y0_9 y10_9 y11_9 => m_slices_partitionOrdered_uint32_l9 p1 fu_9 y0_9 y10_9 y11_9) fu_10 y10_10 = some r)
       (fun (fu_10, y10_10) => fu_10) (1152921504606846976, y10_9)
       (Weak.toK 3075 0 0 [0]) hm ?_
     rintro ⟨fu_10, y10_10⟩ n_10 hm ih_10
     try dsimp only at hm ih_10 ⊢
     cases fu_10 with
     | zero => exact absurd hm (by unfold m_slices_partitionOrdered_uint32_l10; simp)
     | succ fu_10 =>
      unfold m_slices_partitionOrdered_uint32_l10 at hm
      refine Sq <| Sq <| Adr <| Wm (.i y10_10) rfl <| Wm (.i y11_9) rfl <| Wz (.b (decide (y10_10 ≤ y11_9))) (Obn rfl (fun _ => hb_leq (k := .i64))) ?_
      rcases tf_ (decide (y10_10 ≤ y11_9)) with hq102_11 | hq102_11
      ·
       replace hm := cT hq102_11 hm
       refine Wz (.b true) (Oq hq102_11 rfl) <| Wm (.own 0) rfl <| Wm (.i y10_10) rfl ?_
       obtain ⟨x105_11, hx105_11, hm⟩ := bnd hm
       obtain ⟨hx105_11i, hx105_11g⟩ := geti_some hx105_11
       refine Wz (.loc 0 ((Int.toNat y10_10) * 1)) (Oia rfl (encI_len (k := .u32)) hx105_11i hx105_11g) <| Wz (.d (.lit (.int .u32 x105_11))) (Lr1 rfl (encI_len (k := .u32)) hx105_11g) <| Wm (.own 0) rfl <| Wm (.i p1) rfl ?_
       obtain ⟨x109_11, hx109_11, hm⟩ := bnd hm
       obtain ⟨hx109_11i, hx109_11g⟩ := geti_some hx109_11
       refine Wz (.loc 0 ((Int.toNat p1) * 1)) (Oia rfl (encI_len (k := .u32)) hx109_11i hx109_11g) <| Wz (.d (.lit (.int .u32 x109_11))) (Lr1 rfl (encI_len (k := .u32)) hx109_11g) ?_
       obtain ⟨r111_11, hr111_11, hm⟩ := bnd hm
       refine Wz (.b r111_11) (Ocf [] [] [] 0 (ok_cmp_Less_uint32 x105_11 x109_11 r111_11 hr111_11) (fun a w => Try.call58 a w) rfl trivial) <| Wz (.b r111_11) (OpT rfl) <| Wdr <| Tk 5192296858534827628530496329223171 1 ⟨.own 0::.i p1::tp 8 (.i y10_10::.i y11_9::tp 100 (.b r111_11::tp 55 [])), [(.arr 25 1 (List.length y0_9) (flatD (encI .u32) y0_9))], 1⟩ ?_
       rcases tf_ r111_11 with hc112_21 | hc112_21
       ·
        replace hm := cT hc112_21 hm
        refine AiT hc112_21 <| Sk <| Tk 3075 1 ⟨.own 0::.i p1::tp 8 (.i y10_10::.i y11_9::tp 156 []), [(.arr 25 1 (List.length y0_9) (flatD (encI .u32) y0_9))], 1⟩ <| Bk <| Tx <| Wm (.i y10_10) rfl <| Wz (.i (W6 (y10_10 + 1))) (Obn rfl (fun _ => hb_add (k := .i64))) <| Wm (.i (W6 (y10_10 + 1))) rfl <| Wn0 <| Ino <| RoundK.normal ?_
        exact Rounds.weak (Weak.toK 3075 0 0 [0]) (ih_10 (fu_10, (W6 (y10_10 + 1))) hm (Nat.lt_succ_self _))
       ·
        replace hm := cF hc112_21 hm
        refine AiF hc112_21 <| AWP.exit <| Then.exit <| RoundK.exit <| InBlock.same <| Tn ?_
        exact AWP.weak (Weak.toK 3075 0 0 [0]) (J12 (y10_10) hm)
      ·
       replace hm := cF hq102_11 hm
       refine Wz (.b false) (Oq hq102_11 rfl) <| Wn <| Wn <| Wn <| Wn <| Wn <| Wn <| Wn <| Wn <| Wn <| Wz (.b false) (OpF rfl) <| Wdr <| Tk 5192296858534827628530496329223171 1 ⟨.own 0::.i p1::tp 8 (.i y10_10::.i y11_9::tp 100 (.b false::tp 55 [])), [(.arr 25 1 (List.length y0_9) (flatD (encI .u32) y0_9))], 1⟩ <| AWP.if_ false (by kernel_rfl) ?_
       refine AWP.exit <| Then.exit <| RoundK.exit <| InBlock.same <| Tn ?_
       exact AWP.weak (Weak.toK 3075 0 0 [0]) (J12 (y10_10) hm)
  refine Sq <| Bk ?_
  refine AWP.loopI (α := Nat × Int)
    (fun (fu_4, y11_4) => (⟨.own 0::.i p1::tp 8 (.i y10_3::.i y11_4::tp 156 []), [(.arr 25 1 (List.length (List.set (List.set p0 (Int.toNat p1) x18_0) (Int.toNat p3) x22_0)) (flatD (encI .u32) (List.set (List.set p0 (Int.toNat p1) x18_0) (Int.toNat p3) x22_0)))], 1⟩ : St))
    (fun (fu_4, y11_4) => m_slices_partitionOrdered_uint32_l4 p0 p1 p3 x18_0 x22_0 y10_3 fu_4 y11_4 = some r)
    (fun (fu_4, y11_4) => fu_4) (1152921504606846976, (W6 (p2 - 1)))
    (Weak.toK 3075 0 0 [0]) hm ?_
  rintro ⟨fu_4, y11_4⟩ n_4 hm ih_4
  try dsimp only at hm ih_4 ⊢
  cases fu_4 with
  | zero => exact absurd hm (by unfold m_slices_partitionOrdered_uint32_l4; simp)
  | succ fu_4 =>
   unfold m_slices_partitionOrdered_uint32_l4 at hm
   refine Sq <| Sq <| Adr <| Wm (.i y10_3) rfl <| Wm (.i y11_4) rfl <| Wz (.b (decide (y10_3 ≤ y11_4))) (Obn rfl (fun _ => hb_leq (k := .i64))) ?_
   rcases tf_ (decide (y10_3 ≤ y11_4)) with hq49_5 | hq49_5
   ·
    replace hm := cT hq49_5 hm
    refine Wz (.b true) (Oq hq49_5 rfl) <| Wm (.own 0) rfl <| Wm (.i y11_4) rfl ?_
    obtain ⟨x52_5, hx52_5, hm⟩ := bnd hm
    obtain ⟨hx52_5i, hx52_5g⟩ := geti_some hx52_5
    refine Wz (.loc 0 ((Int.toNat y11_4) * 1)) (Oia rfl (encI_len (k := .u32)) hx52_5i hx52_5g) <| Wz (.d (.lit (.int .u32 x52_5))) (Lr1 rfl (encI_len (k := .u32)) hx52_5g) <| Wm (.own 0) rfl <| Wm (.i p1) rfl ?_
    obtain ⟨x56_5, hx56_5, hm⟩ := bnd hm
    obtain ⟨hx56_5i, hx56_5g⟩ := geti_some hx56_5
    refine Wz (.loc 0 ((Int.toNat p1) * 1)) (Oia rfl (encI_len (k := .u32)) hx56_5i hx56_5g) <| Wz (.d (.lit (.int .u32 x56_5))) (Lr1 rfl (encI_len (k := .u32)) hx56_5g) ?_
    obtain ⟨r58_5, hr58_5, hm⟩ := bnd hm
    refine Wz (.b r58_5) (Ocf [] [] [] 0 (ok_cmp_Less_uint32 x52_5 x56_5 r58_5 hr58_5) (fun a w => Try.call58 a w) rfl trivial) <| Wz (.b (!r58_5)) (Ocs (by kernel_rfl) (op_un rfl (a1 := .bool r58_5) (by kernel_rfl) (fun _ => hu_not))) <| Wz (.b (!r58_5)) (OpT rfl) <| Wdr <| Tk 1152921504606850051 1 ⟨.own 0::.i p1::tp 8 (.i y10_3::.i y11_4::tp 48 (.b (!r58_5)::tp 107 [])), [(.arr 25 1 (List.length (List.set (List.set p0 (Int.toNat p1) x18_0) (Int.toNat p3) x22_0)) (flatD (encI .u32) (List.set (List.set p0 (Int.toNat p1) x18_0) (Int.toNat p3) x22_0)))], 1⟩ ?_
    rcases tf_ (!r58_5) with hc60_22 | hc60_22
    ·
     replace hm := cT hc60_22 hm
     refine AiT hc60_22 <| Sk <| Tk 3075 1 ⟨.own 0::.i p1::tp 8 (.i y10_3::.i y11_4::tp 156 []), [(.arr 25 1 (List.length (List.set (List.set p0 (Int.toNat p1) x18_0) (Int.toNat p3) x22_0)) (flatD (encI .u32) (List.set (List.set p0 (Int.toNat p1) x18_0) (Int.toNat p3) x22_0)))], 1⟩ <| Bk <| Tx <| Wm (.i y11_4) rfl <| Wz (.i (W6 (y11_4 - 1))) (Obn rfl (fun _ => hb_sub (k := .i64))) <| Wm (.i (W6 (y11_4 - 1))) rfl <| Wn0 <| Ino <| RoundK.normal ?_
     exact Rounds.weak (Weak.toK 3075 0 0 [0]) (ih_4 (fu_4, (W6 (y11_4 - 1))) hm (Nat.lt_succ_self _))
    ·
     replace hm := cF hc60_22 hm
     refine AiF hc60_22 <| AWP.exit <| Then.exit <| RoundK.exit <| InBlock.same <| Tn ?_
     exact AWP.weak (Weak.toK 3075 0 0 [0]) (J6 (y11_4) hm)
   ·
    replace hm := cF hq49_5 hm
    refine Wz (.b false) (Oq hq49_5 rfl) <| Wn <| Wn <| Wn <| Wn <| Wn <| Wn <| Wn <| Wn <| Wn <| Wn <| Wz (.b false) (OpF rfl) <| Wdr <| Tk 1152921504606850051 1 ⟨.own 0::.i p1::tp 8 (.i y10_3::.i y11_4::tp 48 (.b false::tp 107 [])), [(.arr 25 1 (List.length (List.set (List.set p0 (Int.toNat p1) x18_0) (Int.toNat p3) x22_0)) (flatD (encI .u32) (List.set (List.set p0 (Int.toNat p1) x18_0) (Int.toNat p3) x22_0)))], 1⟩ ?_
    refine AWP.if_ false (by kernel_rfl) <| AWP.exit <| Then.exit <| RoundK.exit <| InBlock.same <| Tn ?_
    exact AWP.weak (Weak.toK 3075 0 0 [0]) (J6 (y11_4) hm)
 refine Sq <| Bk ?_
 refine AWP.loopI (α := Nat × Int)
   (fun (fu_1, y10_1) => (⟨.own 0::.i p1::tp 8 (.i y10_1::.i (W6 (p2 - 1))::tp 156 []), [(.arr 25 1 (List.length (List.set (List.set p0 (Int.toNat p1) x18_0) (Int.toNat p3) x22_0)) (flatD (encI .u32) (List.set (List.set p0 (Int.toNat p1) x18_0) (Int.toNat p3) x22_0)))], 1⟩ : St))
   (fun (fu_1, y10_1) => m_slices_partitionOrdered_uint32_l1 p0 p1 p2 p3 x18_0 x22_0 fu_1 y10_1 = some r)
   (fun (fu_1, y10_1) => fu_1) (1152921504606846976, (W6 (p1 + 1)))
   (Weak.toK 3075 0 0 [0]) hm ?_
 rintro ⟨fu_1, y10_1⟩ n_1 hm ih_1
 try dsimp only at hm ih_1 ⊢
 cases fu_1 with
 | zero => exact absurd hm (by unfold m_slices_partitionOrdered_uint32_l1; simp)
 | succ fu_1 =>
  unfold m_slices_partitionOrdered_uint32_l1 at hm
  refine Sq <| Sq <| Adr <| Wm (.i y10_1) rfl <| Wm (.i (W6 (p2 - 1))) rfl <| Wz (.b (decide (y10_1 ≤ (W6 (p2 - 1))))) (Obn rfl (fun _ => hb_leq (k := .i64))) ?_
  rcases tf_ (decide (y10_1 ≤ (W6 (p2 - 1)))) with hq33_2 | hq33_2
  ·
   replace hm := cT hq33_2 hm
   refine Wz (.b true) (Oq hq33_2 rfl) <| Wm (.own 0) rfl <| Wm (.i y10_1) rfl ?_
   obtain ⟨x36_2, hx36_2, hm⟩ := bnd hm
   obtain ⟨hx36_2i, hx36_2g⟩ := geti_some hx36_2
   refine Wz (.loc 0 ((Int.toNat y10_1) * 1)) (Oia rfl (encI_len (k := .u32)) hx36_2i hx36_2g) <| Wz (.d (.lit (.int .u32 x36_2))) (Lr1 rfl (encI_len (k := .u32)) hx36_2g) <| Wm (.own 0) rfl <| Wm (.i p1) rfl ?_
   obtain ⟨x40_2, hx40_2, hm⟩ := bnd hm
   obtain ⟨hx40_2i, hx40_2g⟩ := geti_some hx40_2
   refine Wz (.loc 0 ((Int.toNat p1) * 1)) (Oia rfl (encI_len (k := .u32)) hx40_2i hx40_2g) <| Wz (.d (.lit (.int .u32 x40_2))) (Lr1 rfl (encI_len (k := .u32)) hx40_2g) ?_
   obtain ⟨r42_2, hr42_2, hm⟩ := bnd hm
   refine Wz (.b r42_2) (Ocf [] [] [] 0 (ok_cmp_Less_uint32 x36_2 x40_2 r42_2 hr42_2) (fun a w => Try.call58 a w) rfl trivial) <| Wz (.b r42_2) (OpT rfl) <| Wdr <| Tk 8796093025283 1 ⟨.own 0::.i p1::tp 8 (.i y10_1::.i (W6 (p2 - 1))::tp 31 (.b r42_2::tp 124 [])), [(.arr 25 1 (List.length (List.set (List.set p0 (Int.toNat p1) x18_0) (Int.toNat p3) x22_0)) (flatD (encI .u32) (List.set (List.set p0 (Int.toNat p1) x18_0) (Int.toNat p3) x22_0)))], 1⟩ ?_
   rcases tf_ r42_2 with hc43_23 | hc43_23
   ·
    replace hm := cT hc43_23 hm
    refine AiT hc43_23 <| Sk <| Tk 3075 1 ⟨.own 0::.i p1::tp 8 (.i y10_1::.i (W6 (p2 - 1))::tp 156 []), [(.arr 25 1 (List.length (List.set (List.set p0 (Int.toNat p1) x18_0) (Int.toNat p3) x22_0)) (flatD (encI .u32) (List.set (List.set p0 (Int.toNat p1) x18_0) (Int.toNat p3) x22_0)))], 1⟩ <| Bk <| Tx <| Wm (.i y10_1) rfl <| Wz (.i (W6 (y10_1 + 1))) (Obn rfl (fun _ => hb_add (k := .i64))) <| Wm (.i (W6 (y10_1 + 1))) rfl <| Wn0 <| Ino <| RoundK.normal ?_
    exact Rounds.weak (Weak.toK 3075 0 0 [0]) (ih_1 (fu_1, (W6 (y10_1 + 1))) hm (Nat.lt_succ_self _))
   ·
    replace hm := cF hc43_23 hm
    refine AiF hc43_23 <| AWP.exit <| Then.exit <| RoundK.exit <| InBlock.same <| Tn ?_
    exact AWP.weak (Weak.toK 3075 0 0 [0]) (J3 (y10_1) hm)
  ·
   replace hm := cF hq33_2 hm
   refine Wz (.b false) (Oq hq33_2 rfl) <| Wn <| Wn <| Wn <| Wn <| Wn <| Wn <| Wn <| Wn <| Wn <| Wz (.b false) (OpF rfl) <| Wdr <| Tk 8796093025283 1 ⟨.own 0::.i p1::tp 8 (.i y10_1::.i (W6 (p2 - 1))::tp 31 (.b false::tp 124 [])), [(.arr 25 1 (List.length (List.set (List.set p0 (Int.toNat p1) x18_0) (Int.toNat p3) x22_0)) (flatD (encI .u32) (List.set (List.set p0 (Int.toNat p1) x18_0) (Int.toNat p3) x22_0)))], 1⟩ <| AWP.if_ false (by kernel_rfl) ?_
   refine AWP.exit <| Then.exit <| RoundK.exit <| InBlock.same <| Tn ?_
   exact AWP.weak (Weak.toK 3075 0 0 [0]) (J3 (y10_1) hm)

theorem ok_slices_nextPowerOfTwo (p0 : Int) (r : Int) (h : m_slices_nextPowerOfTwo p0 = some r) : GCall Try.prog 69 [(.i p0)] [] (.u r) [] := by
 refine GCall.of_body (n := 7) (rs := [(.tmp 2)]) Try.func69 rfl rfl rfl <| Ato ⟨.i p0::tu 6 [], [], 0⟩ ?_
 have hm := h
 unfold m_slices_nextPowerOfTwo at hm
 refine Sx <| Wm (.u 0) rfl <| Nk 1 0 ⟨.i p0::tp 6 [], [], 0⟩ <| Sx <| Wm (.i p0) rfl <| Wz (.u (W7 p0)) (Oc2 (.int .i64 p0) rfl (run_conv (ds := .int .i64) (k' := .u64) (by kernel_rfl) (by kernel_rfl))) ?_
 obtain ⟨r5_0, hr5_0, hm⟩ := bnd hm
 refine Wz (.i r5_0) (Ocf [] [] [] 0 (ok_math_bits_Len (W7 p0) r5_0 hr5_0) (fun a w => Try.call43 a w) rfl trivial) ?_
 obtain ⟨hs6_0, hm⟩ := chk_some hm
 refine Wz (.u (W7 (1 * 2 ^ (Int.toNat r5_0)))) (Ob2 (.int .u64 1) (.int .i64 r5_0) rfl (fun _ => hb_shl (n := (Int.toNat r5_0)) (sh_le hs6_0.2) (sh_eq hs6_0.1))) <| Wm (.u (W7 (1 * 2 ^ (Int.toNat r5_0)))) rfl <| Nn <| Rt ?_
 obtain rfl := Option.some.inj hm
 exact ret_i []

theorem ok_slices_xorshift_Next (p0 : Int) (r : (Int × Int)) (h : m_slices_xorshift_Next p0 = some r) : GCall Try.prog 70 [(.loc 0 0)] [(.box [(.u p0)])] (.u r.1) [(.box [(.u r.2)])] := by
 refine GCall.of_body (n := 33) (rs := [(.tmp 2)]) Try.func70 rfl rfl rfl <| Ato ⟨.loc 0 0::tu 32 [], [(.box [(.u p0)])], 1⟩ ?_
 have hm := h
 unfold m_slices_xorshift_Next at hm
 refine Sx <| Wm (.u 0) rfl <| Nk 1 1 ⟨.loc 0 0::tp 32 [], [(.box [(.u p0)])], 1⟩ <| Sq <| Adr <| Wm (.loc 0 0) rfl <| Wz (.loc 0 0) (op_nilCheckLoc rfl (id := 0) (off := 0) (xs := [(.u p0)]) (by kernel_rfl) (by kernel_rfl)) <| Wz (.u p0) (Old rfl) <| Wm (.loc 0 0) rfl <| Wz (.loc 0 0) (op_nilCheckLoc rfl (id := 0) (off := 0) (xs := [(.u p0)]) (by kernel_rfl) (by kernel_rfl)) <| Wz (.u p0) (Old rfl) <| Wz (.u (W7 (p0 * 2 ^ 13))) (Ob2 (.int .u64 p0) (.int .u64 13) rfl (fun _ => hb_shl (n := 13) (by decide) rfl)) <| Wz (.u (W7 (((BitVec.ofInt 64 p0 ^^^ BitVec.ofInt 64 (W7 (p0 * 2 ^ 13))).toNat : Int)))) (Ob2 (.int .u64 p0) (.int .u64 (W7 (p0 * 2 ^ 13))) rfl (fun _ => hb_xor)) <| Wz (.loc 0 0) (op_nilCheckLoc rfl (id := 0) (off := 0) (xs := [(.u p0)]) (by kernel_rfl) (by kernel_rfl)) ?_
 refine Wy (.tup []) [(0, (.box [(.u (W7 (((BitVec.ofInt 64 p0 ^^^ BitVec.ofInt 64 (W7 (p0 * 2 ^ 13))).toNat : Int))))]))] (Ost rfl) <| Wdr <| Tk 1 1 ⟨.loc 0 0::tp 32 [], [(.box [(.u (W7 (((BitVec.ofInt 64 p0 ^^^ BitVec.ofInt 64 (W7 (p0 * 2 ^ 13))).toNat : Int))))])], 1⟩ <| Sq <| Adr <| Wm (.loc 0 0) rfl <| Wz (.loc 0 0) (op_nilCheckLoc rfl (id := 0) (off := 0) (xs := [(.u (W7 (((BitVec.ofInt 64 p0 ^^^ BitVec.ofInt 64 (W7 (p0 * 2 ^ 13))).toNat : Int))))]) (by kernel_rfl) (by kernel_rfl)) <| Wz (.u (W7 (((BitVec.ofInt 64 p0 ^^^ BitVec.ofInt 64 (W7 (p0 * 2 ^ 13))).toNat : Int)))) (Old rfl) <| Wm (.loc 0 0) rfl <| Wz (.loc 0 0) (op_nilCheckLoc rfl (id := 0) (off := 0) (xs := [(.u (W7 (((BitVec.ofInt 64 p0 ^^^ BitVec.ofInt 64 (W7 (p0 * 2 ^ 13))).toNat : Int))))]) (by kernel_rfl) (by kernel_rfl)) <| Wz (.u (W7 (((BitVec.ofInt 64 p0 ^^^ BitVec.ofInt 64 (W7 (p0 * 2 ^ 13))).toNat : Int)))) (Old rfl) ?_
 obtain ⟨v18_0, hv18_0, hm⟩ := bnd hm; replace hv18_0 := Option.some.inj hv18_0
 refine Wz (.u v18_0) (Ocs (Eq.trans (by kernel_rfl) (congrArg (fun z => A.d (.lit (.int .u64 z))) hv18_0)) (op_bin rfl (a1 := .int .u64 (W7 (((BitVec.ofInt 64 p0 ^^^ BitVec.ofInt 64 (W7 (p0 * 2 ^ 13))).toNat : Int)))) (a2 := .int .u64 7) (by kernel_rfl) (by kernel_rfl) (fun _ => hb_shr (n := 7) (by decide) rfl))) ?_
 obtain ⟨v19_0, hv19_0, hm⟩ := bnd hm; replace hv19_0 := Option.some.inj hv19_0
 refine Wz (.u v19_0) (Ocs (Eq.trans (by kernel_rfl) (congrArg (fun z => A.d (.lit (.int .u64 z))) hv19_0)) (op_bin rfl (a1 := .int .u64 (W7 (((BitVec.ofInt 64 p0 ^^^ BitVec.ofInt 64 (W7 (p0 * 2 ^ 13))).toNat : Int)))) (a2 := .int .u64 v18_0) (by kernel_rfl) (by kernel_rfl) (fun _ => hb_xor))) <| Wz (.loc 0 0) (op_nilCheckLoc rfl (id := 0) (off := 0) (xs := [(.u (W7 (((BitVec.ofInt 64 p0 ^^^ BitVec.ofInt 64 (W7 (p0 * 2 ^ 13))).toNat : Int))))]) (by kernel_rfl) (by kernel_rfl)) <| Wy (.tup []) [(0, (.box [(.u v19_0)]))] (Ost rfl) <| Wdr <| Tk 1 1 ⟨.loc 0 0::tp 32 [], [(.box [(.u v19_0)])], 1⟩ <| Sq <| Adr <| Wm (.loc 0 0) rfl <| Wz (.loc 0 0) (op_nilCheckLoc rfl (id := 0) (off := 0) (xs := [(.u v19_0)]) (by kernel_rfl) (by kernel_rfl)) <| Wz (.u v19_0) (Old rfl) <| Wm (.loc 0 0) rfl <| Wz (.loc 0 0) (op_nilCheckLoc rfl (id := 0) (off := 0) (xs := [(.u v19_0)]) (by kernel_rfl) (by kernel_rfl)) <| Wz (.u v19_0) (Old rfl) <| Wz (.u (W7 (v19_0 * 2 ^ 17))) (Ob2 (.int .u64 v19_0) (.int .u64 17) rfl (fun _ => hb_shl (n := 17) (by decide) rfl)) ?_
 obtain ⟨v28_1, hv28_1, hm⟩ := bnd hm; replace hv28_1 := Option.some.inj hv28_1
 refine Wz (.u v28_1) (Ocs (Eq.trans (by kernel_rfl) (congrArg (fun z => A.d (.lit (.int .u64 z))) hv28_1)) (op_bin rfl (a1 := .int .u64 v19_0) (a2 := .int .u64 (W7 (v19_0 * 2 ^ 17))) (by kernel_rfl) (by kernel_rfl) (fun _ => hb_xor))) <| Wz (.loc 0 0) (op_nilCheckLoc rfl (id := 0) (off := 0) (xs := [(.u v19_0)]) (by kernel_rfl) (by kernel_rfl)) <| Wy (.tup []) [(0, (.box [(.u v28_1)]))] (Ost rfl) <| Wdr <| Tk 1 1 ⟨.loc 0 0::tp 32 [], [(.box [(.u v28_1)])], 1⟩ <| Sx <| Wm (.loc 0 0) rfl <| Wz (.loc 0 0) (op_nilCheckLoc rfl (id := 0) (off := 0) (xs := [(.u v28_1)]) (by kernel_rfl) (by kernel_rfl)) <| Wz (.u v28_1) (Old rfl) <| Wm (.u v28_1) rfl <| Nn <| Rt ?_
 obtain rfl := Option.some.inj hm
 exact ret_i [0]

theorem ok_slices_breakPatternsOrdered_uint32 (p0 : (List Int)) (p1 : Int) (p2 : Int) (r : (List Int)) (h : m_slices_breakPatternsOrdered_uint32 p0 p1 p2 = some r) : GCall Try.prog 54 [(.own 0), (.i p1), (.i p2)] [(.arr 25 1 (List.length p0) (flatD (encI .u32) p0))] (.tup []) [(.arr 25 1 (List.length r) (flatD (encI .u32) r))] := by
 refine GCall.of_body (n := 65) (rs := []) Try.func54 rfl rfl rfl <| Ato ⟨.own 0::.i p1::.i p2::tu 62 [], [(.arr 25 1 (List.length p0) (flatD (encI .u32) p0))], 1⟩ ?_
 have hm := h
 unfold m_slices_breakPatternsOrdered_uint32 at hm
 refine Sx <| Wm (.i p2) rfl <| Wm (.i p1) rfl <| Wz (.i (W6 (p2 - p1))) (Obn rfl (fun _ => hb_sub (k := .i64))) <| Wm (.i (W6 (p2 - p1))) rfl <| Nk 67 1 ⟨.own 0::.i p1::tp 4 (.i (W6 (p2 - p1))::tp 58 []), [(.arr 25 1 (List.length p0) (flatD (encI .u32) p0))], 1⟩ <| Sx <| Wm (.i (W6 (p2 - p1))) rfl <| Wz (.b (decide ((8 : Int) ≤ (W6 (p2 - p1))))) (Obn rfl (fun _ => hb_geq (k := .i64))) <| Nk 32835 1 ⟨.own 0::.i p1::tp 4 (.i (W6 (p2 - p1))::tp 8 (.b (decide ((8 : Int) ≤ (W6 (p2 - p1))))::tp 49 [])), [(.arr 25 1 (List.length p0) (flatD (encI .u32) p0))], 1⟩ ?_
 rcases tf_ (decide ((8 : Int) ≤ (W6 (p2 - p1)))) with hc15_7 | hc15_7
 ·
  replace hm := cT hc15_7 hm
  refine AiT hc15_7 <| Sx <| Wm (.i (W6 (p2 - p1))) rfl <| Wz (.u (W7 (W6 (p2 - p1)))) (Oc2 (.int .i64 (W6 (p2 - p1))) rfl (run_conv (ds := .int .i64) (k' := .u64) (by kernel_rfl) (by kernel_rfl))) <| Wy (.loc 1 0) [(1, (.box [(.u 0)]))] (Oal rfl) <| Wy (.tup []) [(1, (.box [(.u (W7 (W6 (p2 - p1))))]))] (Ost rfl) <| Nk 195 3 ⟨.own 0::.i p1::tp 4 (.i (W6 (p2 - p1))::.loc 1 0::tp 57 []), [(.arr 25 1 (List.length p0) (flatD (encI .u32) p0)), (.box [(.u (W7 (W6 (p2 - p1))))])], 1⟩ <| Sx <| Wm (.i (W6 (p2 - p1))) rfl ?_
  obtain ⟨r19_1, hr19_1, hm⟩ := bnd hm
  refine Wz (.u r19_1) (Ocf [] [] [] 0 (ok_slices_nextPowerOfTwo (W6 (p2 - p1)) r19_1 hr19_1) (fun a w => Try.call69 a w) rfl trivial) <| Wm (.u r19_1) rfl <| Nk 451 3 ⟨.own 0::.i p1::tp 4 (.i (W6 (p2 - p1))::.loc 1 0::.u r19_1::tp 56 []), [(.arr 25 1 (List.length p0) (flatD (encI .u32) p0)), (.box [(.u (W7 (W6 (p2 - p1))))])], 1⟩ <| Sx <| Wm (.i p1) rfl <| Wm (.i (W6 (p2 - p1))) rfl <| Wz (.i (W6 (Int.tdiv (W6 (p2 - p1)) 4))) (Ob2 (.int .i64 (W6 (p2 - p1))) (.int .i64 4) rfl (fun _ => hb_quo (by decide))) <| Wz (.i (W6 ((W6 (Int.tdiv (W6 (p2 - p1)) 4)) * 2))) (Obn rfl (fun _ => hb_mul (k := .i64))) ?_
  obtain ⟨v24_2, hv24_2, hm⟩ := bnd hm; replace hv24_2 := Option.some.inj hv24_2
  refine Wz (.i v24_2) (Ocs (congrArg (fun z => A.d (.lit (.int .i64 z))) hv24_2) (Obn rfl (fun _ => hb_add (k := .i64)))) <| Wz (.i (W6 (v24_2 - 1))) (Obn rfl (fun _ => hb_sub (k := .i64))) <| Wm (.i (W6 (v24_2 - 1))) rfl <| Nk 963 3 ⟨.own 0::.i p1::tp 4 (.i (W6 (p2 - p1))::.loc 1 0::.u r19_1::.i (W6 (v24_2 - 1))::tp 55 []), [(.arr 25 1 (List.length p0) (flatD (encI .u32) p0)), (.box [(.u (W7 (W6 (p2 - p1))))])], 1⟩ <| Bk ?_
  refine AWP.loopI (α := Nat × (List Int) × Int × Int)
    (fun (fu_3, y0_3, y7_d_3, y9_3) => (⟨.own 0::.i p1::tp 4 (.i (W6 (p2 - p1))::.loc 1 0::.u r19_1::.i y9_3::tp 55 []), [(.arr 25 1 (List.length y0_3) (flatD (encI .u32) y0_3)), (.box [(.u y7_d_3)])], 1⟩ : St))
    (fun (fu_3, y0_3, y7_d_3, y9_3) => m_slices_breakPatternsOrdered_uint32_l3 p1 p2 r19_1 fu_3 y0_3 y7_d_3 y9_3 = some r)
    (fun (fu_3, y0_3, y7_d_3, y9_3) => fu_3) (1152921504606846976, p0, (W7 (W6 (p2 - p1))), (W6 (v24_2 - 1)))
    (Weak.toK 963 0 0 [0, 1]) hm ?_
  rintro ⟨fu_3, y0_3, y7_d_3, y9_3⟩ n_3 hm ih_3
  try dsimp only at hm ih_3 ⊢
  cases fu_3 with
  | zero => exact absurd hm (by unfold m_slices_breakPatternsOrdered_uint32_l3; simp)
  | succ fu_3 =>
   unfold m_slices_breakPatternsOrdered_uint32_l3 at hm
   refine Sq <| Sx <| Wm (.i y9_3) rfl <| Wm (.i p1) rfl <| Wm (.i (W6 (p2 - p1))) rfl <| Wz (.i (W6 (Int.tdiv (W6 (p2 - p1)) 4))) (Ob2 (.int .i64 (W6 (p2 - p1))) (.int .i64 4) rfl (fun _ => hb_quo (by decide))) <| Wz (.i (W6 ((W6 (Int.tdiv (W6 (p2 - p1)) 4)) * 2))) (Obn rfl (fun _ => hb_mul (k := .i64))) ?_
   obtain ⟨v31_4, hv31_4, hm⟩ := bnd hm; replace hv31_4 := Option.some.inj hv31_4
   refine Wz (.i v31_4) (Ocs (congrArg (fun z => A.d (.lit (.int .i64 z))) hv31_4) (Obn rfl (fun _ => hb_add (k := .i64)))) <| Wz (.i (W6 (v31_4 + 1))) (Obn rfl (fun _ => hb_add (k := .i64))) <| Wz (.b (decide (y9_3 ≤ (W6 (v31_4 + 1))))) (Obn rfl (fun _ => hb_leq (k := .i64))) <| Nk 8589935555 3 ⟨.own 0::.i p1::tp 4 (.i (W6 (p2 - p1))::.loc 1 0::.u r19_1::.i y9_3::tp 23 (.b (decide (y9_3 ≤ (W6 (v31_4 + 1))))::tp 31 [])), [(.arr 25 1 (List.length y0_3) (flatD (encI .u32) y0_3)), (.box [(.u y7_d_3)])], 1⟩ ?_
   rcases tf_ (decide (y9_3 ≤ (W6 (v31_4 + 1)))) with hc33_8 | hc33_8
   ·
    replace hm := cT hc33_8 hm
    refine AiT hc33_8 <| Sk <| Tk 963 3 ⟨.own 0::.i p1::tp 4 (.i (W6 (p2 - p1))::.loc 1 0::.u r19_1::.i y9_3::tp 55 []), [(.arr 25 1 (List.length y0_3) (flatD (encI .u32) y0_3)), (.box [(.u y7_d_3)])], 1⟩ <| Sq <| Bk <| Sx ?_
    obtain ⟨r36_5, hr36_5, hm⟩ := bnd hm
    refine Wy (.u r36_5.1) [(1, (.box [(.u r36_5.2)]))] (Ocf [1] [] [] 0 (ok_slices_xorshift_Next y7_d_3 r36_5 hr36_5) (fun a w => Try.call70 a w) rfl ⟨rfl, trivial⟩) <| Wm (.u r19_1) rfl <| Wz (.u (W7 (r19_1 - 1))) (Obn rfl (fun _ => hb_sub (k := .u64))) ?_
    obtain ⟨v39_5, hv39_5, hm⟩ := bnd hm; replace hv39_5 := Option.some.inj hv39_5
    refine Wz (.u v39_5) (Ocs (Eq.trans (by kernel_rfl) (congrArg (fun z => A.d (.lit (.int .u64 z))) hv39_5)) (op_bin rfl (a1 := .int .u64 r36_5.1) (a2 := .int .u64 (W7 (r19_1 - 1))) (by kernel_rfl) (by kernel_rfl) (fun _ => hb_and))) <| Wz (.i (W6 v39_5)) (Oc2 (.int .u64 v39_5) rfl (run_conv (ds := .int .u64) (k' := .i64) (by kernel_rfl) (by kernel_rfl))) <| Wm (.i (W6 v39_5)) rfl <| Nk 1987 3 ⟨.own 0::.i p1::tp 4 (.i (W6 (p2 - p1))::.loc 1 0::.u r19_1::.i y9_3::.i (W6 v39_5)::tp 54 []), [(.arr 25 1 (List.length y0_3) (flatD (encI .u32) y0_3)), (.box [(.u r36_5.2)])], 1⟩ ?_
    refine AWP.cutJ (α := Int) (fun x => match x with | y10_6 => (⟨.own 0::.i p1::tp 4 (.i (W6 (p2 - p1))::.loc 1 0::.u r19_1::.i y9_3::.i y10_6::tp 54 []), [(.arr 25 1 (List.length y0_3) (flatD (encI .u32) y0_3)), (.box [(.u r36_5.2)])], 1⟩ : St)) (fun x => match x with | y10_6 => m_slices_breakPatternsOrdered_uint32_j6 p1 r36_5 y0_3 y9_3 (fun y0_3 y7_d_3 y9_3 => m_slices_breakPatternsOrdered_uint32_l3 p1 p2 r19_1 fu_3 y0_3 y7_d_3 y9_3) y10_6 = some r) ?_ (fun J6 => ?_)
    ·
     rintro y10_6 hm
     try dsimp only at hm ⊢
     unfold m_slices_breakPatternsOrdered_uint32_j6 at hm
     refine Adr <| Wm (.own 0) rfl <| Wm (.i y9_3) rfl <| Wm (.own 0) rfl <| Wm (.i p1) rfl <| Wm (.i y10_6) rfl <| Wz (.i (W6 (p1 + y10_6))) (Obn rfl (fun _ => hb_add (k := .i64))) <| Wm (.own 0) rfl <| Wm (.i p1) rfl <| Wm (.i y10_6) rfl <| Wz (.i (W6 (p1 + y10_6))) (Obn rfl (fun _ => hb_add (k := .i64))) ?_
     obtain ⟨x57_6, hx57_6, hm⟩ := bnd hm
     obtain ⟨hx57_6i, hx57_6g⟩ := geti_some hx57_6
     refine Wz (.loc 0 ((Int.toNat (W6 (p1 + y10_6))) * 1)) (Oia rfl (encI_len (k := .u32)) hx57_6i hx57_6g) <| Wz (.d (.lit (.int .u32 x57_6))) (Lr1 rfl (encI_len (k := .u32)) hx57_6g) <| Wm (.own 0) rfl <| Wm (.i y9_3) rfl ?_
     obtain ⟨x61_6, hx61_6, hm⟩ := bnd hm
     obtain ⟨hx61_6i, hx61_6g⟩ := geti_some hx61_6
     refine Wz (.loc 0 ((Int.toNat y9_3) * 1)) (Oia rfl (encI_len (k := .u32)) hx61_6i hx61_6g) <| Wz (.d (.lit (.int .u32 x61_6))) (Lr1 rfl (encI_len (k := .u32)) hx61_6g) ?_
     obtain ⟨x63_6, hx63_6, hm⟩ := bnd hm
     obtain ⟨hx63_6i, hx63_6g⟩ := geti_some hx63_6
     refine Wz (.loc 0 ((Int.toNat y9_3) * 1)) (Oia rfl (encI_len (k := .u32)) hx63_6i hx63_6g) <| Wy (.tup []) [(0, (.arr 25 1 (List.length (List.set y0_3 (Int.toNat y9_3) x57_6)) (flatD (encI .u32) (List.set y0_3 (Int.toNat y9_3) x57_6))))] (Osr 0 rfl (encI_len (k := .u32)) hx63_6g x57_6) ?_
     obtain ⟨x64_6, hx64_6, hm⟩ := bnd hm
     obtain ⟨hx64_6i, hx64_6g⟩ := geti_some hx64_6
     refine Wz (.loc 0 ((Int.toNat (W6 (p1 + y10_6))) * 1)) (Oia rfl (encI_len (k := .u32)) hx64_6i hx64_6g) <| Wy (.tup []) [(0, (.arr 25 1 (List.length (List.set (List.set y0_3 (Int.toNat y9_3) x57_6) (Int.toNat (W6 (p1 + y10_6))) x61_6)) (flatD (encI .u32) (List.set (List.set y0_3 (Int.toNat y9_3) x57_6) (Int.toNat (W6 (p1 + y10_6))) x61_6))))] (Osr 0 rfl (encI_len (k := .u32)) hx64_6g x61_6) <| Wdr <| Ino <| Tk 963 3 ⟨.own 0::.i p1::tp 4 (.i (W6 (p2 - p1))::.loc 1 0::.u r19_1::.i y9_3::tp 55 []), [(.arr 25 1 (List.length (List.set (List.set y0_3 (Int.toNat y9_3) x57_6) (Int.toNat (W6 (p1 + y10_6))) x61_6)) (flatD (encI .u32) (List.set (List.set y0_3 (Int.toNat y9_3) x57_6) (Int.toNat (W6 (p1 + y10_6))) x61_6))), (.box [(.u r36_5.2)])], 1⟩ <| Tx <| Wm (.i y9_3) rfl <| Wz (.i (W6 (y9_3 + 1))) (Obn rfl (fun _ => hb_add (k := .i64))) <| Wm (.i (W6 (y9_3 + 1))) rfl <| Wn0 <| RoundK.normal ?_
     exact Rounds.weak (Weak.toK 963 0 0 [0, 1]) (ih_3 (fu_3, (List.set (List.set y0_3 (Int.toNat y9_3) x57_6) (Int.toNat (W6 (p1 + y10_6))) x61_6), r36_5.2, (W6 (y9_3 + 1))) hm (Nat.lt_succ_self _))
    refine Sq <| Sx <| Wm (.i (W6 v39_5)) rfl <| Wm (.i (W6 (p2 - p1))) rfl <| Wz (.b (decide ((W6 (p2 - p1)) ≤ (W6 v39_5)))) (Obn rfl (fun _ => hb_geq (k := .i64))) <| Nk 8796093024195 3 ⟨.own 0::.i p1::tp 4 (.i (W6 (p2 - p1))::.loc 1 0::.u r19_1::.i y9_3::.i (W6 v39_5)::tp 32 (.b (decide ((W6 (p2 - p1)) ≤ (W6 v39_5)))::tp 21 [])), [(.arr 25 1 (List.length y0_3) (flatD (encI .u32) y0_3)), (.box [(.u r36_5.2)])], 1⟩ ?_
    rcases tf_ (decide ((W6 (p2 - p1)) ≤ (W6 v39_5))) with hc43_9 | hc43_9
    ·
     replace hm := cT hc43_9 hm
     refine AiT hc43_9 <| Tx <| Wm (.i (W6 v39_5)) rfl <| Wm (.i (W6 (p2 - p1))) rfl <| Wz (.i (W6 ((W6 v39_5) - (W6 (p2 - p1))))) (Obn rfl (fun _ => hb_sub (k := .i64))) <| Wm (.i (W6 ((W6 v39_5) - (W6 (p2 - p1))))) rfl <| Nn ?_
     exact AWP.weak (Weak.toK 1987 0 0 [0, 1]) (J6 ((W6 ((W6 v39_5) - (W6 (p2 - p1))))) hm)
    ·
     replace hm := cF hc43_9 hm
     refine AiF hc43_9 <| Sk <| Tn ?_
     exact AWP.weak (Weak.toK 1987 0 0 [0, 1]) (J6 ((W6 v39_5)) hm)
   ·
    replace hm := cF hc33_8 hm
    refine AiF hc33_8 <| AWP.exit <| Then.exit <| RoundK.exit <| InBlock.same ?_
    obtain rfl := Option.some.inj hm
    exact ret_n [0]
 ·
  replace hm := cF hc15_7 hm
  refine AiF hc15_7 <| Sk ?_
  obtain rfl := Option.some.inj hm
  exact ret_n [0]

theorem ok_slices_pdqsortOrdered_uint32 : ∀ (fuR : Nat) (p0 : (List Int)) (p1 : Int) (p2 : Int) (p3 : Int) (r : (List Int)) (h : m_slices_pdqsortOrdered_uint32 fuR p0 p1 p2 p3 = some r), GCall Try.prog 42 [(.own 0), (.i p1), (.i p2), (.i p3)] [(.arr 25 1 (List.length p0) (flatD (encI .u32) p0))] (.tup []) [(.arr 25 1 (List.length r) (flatD (encI .u32) r))] := by
 intro fuR; induction fuR with
 | zero => intro p0 p1 p2 p3 r h; exact absurd h (by unfold m_slices_pdqsortOrdered_uint32; simp)
 | succ fuR ih =>
 intro p0 p1 p2 p3 r h
 refine GCall.of_body (n := 134) (rs := []) Try.func42 rfl rfl rfl <| Ato ⟨.own 0::.i p1::.i p2::.i p3::tu 130 [], [(.arr 25 1 (List.length p0) (flatD (encI .u32) p0))], 1⟩ ?_
 have hm := h
 unfold m_slices_pdqsortOrdered_uint32 at hm
 refine Sx <| Wm (.b true) rfl <| Nk 271 1 ⟨.own 0::.i p1::.i p2::.i p3::tp 4 (.b true::tp 125 []), [(.arr 25 1 (List.length p0) (flatD (encI .u32) p0))], 1⟩ <| Sx <| Wm (.b true) rfl <| Nk 783 1 ⟨.own 0::.i p1::.i p2::.i p3::tp 4 (.b true::.b true::tp 124 []), [(.arr 25 1 (List.length p0) (flatD (encI .u32) p0))], 1⟩ <| Bk ?_
 refine AWP.loopI (α := Nat × (List Int) × Int × Int × Int × Bool × Bool)
   (fun (fu_0, y0_0, y1_0, y2_0, y3_0, y8_0, y9_0) => (⟨.own 0::.i y1_0::.i y2_0::.i y3_0::tp 4 (.b y8_0::.b y9_0::tp 124 []), [(.arr 25 1 (List.length y0_0) (flatD (encI .u32) y0_0))], 1⟩ : St))
   (fun (fu_0, y0_0, y1_0, y2_0, y3_0, y8_0, y9_0) => m_slices_pdqsortOrdered_uint32_l0 (fun p0 p1 p2 p3 => m_slices_pdqsortOrdered_uint32 fuR p0 p1 p2 p3) fu_0 y0_0 y1_0 y2_0 y3_0 y8_0 y9_0 = some r)
   (fun (fu_0, y0_0, y1_0, y2_0, y3_0, y8_0, y9_0) => fu_0) (1152921504606846976, p0, p1, p2, p3, true, true)
   (Weak.toK 783 0 0 [0]) hm ?_
 rintro ⟨fu_0, y0_0, y1_0, y2_0, y3_0, y8_0, y9_0⟩ n_0 hm ih_0
 try dsimp only at hm ih_0 ⊢
 cases fu_0 with
 | zero => exact absurd hm (by unfold m_slices_pdqsortOrdered_uint32_l0; simp)
 | succ fu_0 =>
  unfold m_slices_pdqsortOrdered_uint32_l0 at hm
  refine Bk <| Sx <| Wm (.i y2_0) rfl <| Wm (.i y1_0) rfl <| Wz (.i (W6 (y2_0 - y1_0))) (Obn rfl (fun _ => hb_sub (k := .i64))) <| Wm (.i (W6 (y2_0 - y1_0))) rfl <| Nk 1807 1 ⟨.own 0::.i y1_0::.i y2_0::.i y3_0::tp 4 (.b y8_0::.b y9_0::.i (W6 (y2_0 - y1_0))::tp 123 []), [(.arr 25 1 (List.length y0_0) (flatD (encI .u32) y0_0))], 1⟩ <| Sq <| Sx <| Wm (.i (W6 (y2_0 - y1_0))) rfl <| Wz (.b (decide ((W6 (y2_0 - y1_0)) ≤ 12))) (Obn rfl (fun _ => hb_leq (k := .i64))) <| Nk 8390415 1 ⟨.own 0::.i y1_0::.i y2_0::.i y3_0::tp 4 (.b y8_0::.b y9_0::.i (W6 (y2_0 - y1_0))::tp 12 (.b (decide ((W6 (y2_0 - y1_0)) ≤ 12))::tp 110 [])), [(.arr 25 1 (List.length y0_0) (flatD (encI .u32) y0_0))], 1⟩ ?_
  rcases tf_ (decide ((W6 (y2_0 - y1_0)) ≤ 12)) with hc23_20 | hc23_20
  ·
   replace hm := cT hc23_20 hm
   refine AiT hc23_20 <| Sx <| Wm (.own 0) rfl <| Wm (.i y1_0) rfl <| Wm (.i y2_0) rfl ?_
   obtain ⟨r27_1, hr27_1, hm⟩ := bnd hm
   refine Wy (.tup []) [(0, (.arr 25 1 (List.length r27_1) (flatD (encI .u32) r27_1)))] (Ocf [0] [] [] 0 (ok_slices_insertionSortOrdered_uint32 y0_0 y1_0 y2_0 r27_1 hr27_1) (fun a w => Try.call52 a w) rfl ⟨rfl, trivial⟩) <| Nn <| Rt <| Tr <| Ir <| RoundK.ret <| Ir ?_
   obtain rfl := Option.some.inj hm
   exact ret_i [0]
  ·
   replace hm := cF hc23_20 hm
   refine AiF hc23_20 <| Sk <| Tk 1807 1 ⟨.own 0::.i y1_0::.i y2_0::.i y3_0::tp 4 (.b y8_0::.b y9_0::.i (W6 (y2_0 - y1_0))::tp 123 []), [(.arr 25 1 (List.length y0_0) (flatD (encI .u32) y0_0))], 1⟩ <| Sq <| Sx <| Wm (.i y3_0) rfl <| Wz (.b (decide (y3_0 = 0))) (Obn rfl (fun _ => hb_eql (k := .i64))) <| Nk 536872719 1 ⟨.own 0::.i y1_0::.i y2_0::.i y3_0::tp 4 (.b y8_0::.b y9_0::.i (W6 (y2_0 - y1_0))::tp 18 (.b (decide (y3_0 = 0))::tp 104 [])), [(.arr 25 1 (List.length y0_0) (flatD (encI .u32) y0_0))], 1⟩ ?_
   rcases tf_ (decide (y3_0 = 0)) with hc29_21 | hc29_21
   ·
    replace hm := cT hc29_21 hm
    refine AiT hc29_21 <| Sx <| Wm (.own 0) rfl <| Wm (.i y1_0) rfl <| Wm (.i y2_0) rfl ?_
    obtain ⟨r33_2, hr33_2, hm⟩ := bnd hm
    refine Wy (.tup []) [(0, (.arr 25 1 (List.length r33_2) (flatD (encI .u32) r33_2)))] (Ocf [0] [] [] 0 (ok_slices_heapSortOrdered_uint32 y0_0 y1_0 y2_0 r33_2 hr33_2) (fun a w => Try.call53 a w) rfl ⟨rfl, trivial⟩) <| Nn <| Rt <| Tr <| Ir <| RoundK.ret <| Ir ?_
    obtain rfl := Option.some.inj hm
    exact ret_i [0]
   ·
    replace hm := cF hc29_21 hm
    refine AiF hc29_21 <| Sk <| Tk 1807 1 ⟨.own 0::.i y1_0::.i y2_0::.i y3_0::tp 4 (.b y8_0::.b y9_0::.i (W6 (y2_0 - y1_0))::tp 123 []), [(.arr 25 1 (List.length y0_0) (flatD (encI .u32) y0_0))], 1⟩ ?_
    refine AWP.cutJ (α := (List Int) × Int) (fun (y0_15, y3_15) => (⟨.own 0::.i y1_0::.i y2_0::.i y3_15::tp 4 (.b y8_0::.b y9_0::.i (W6 (y2_0 - y1_0))::tp 123 []), [(.arr 25 1 (List.length y0_15) (flatD (encI .u32) y0_15))], 1⟩ : St)) (fun (y0_15, y3_15) => m_slices_pdqsortOrdered_uint32_j15 y1_0 y2_0 y8_0 y9_0 (fun y0_0 y1_0 y2_0 y3_0 y8_0 y9_0 => m_slices_pdqsortOrdered_uint32_l0 (fun p0 p1 p2 p3 => m_slices_pdqsortOrdered_uint32 fuR p0 p1 p2 p3) fu_0 y0_0 y1_0 y2_0 y3_0 y8_0 y9_0) (fun p0 p1 p2 p3 => m_slices_pdqsortOrdered_uint32 fuR p0 p1 p2 p3) y0_15 y3_15 = some r) ?_ (fun J15 => ?_)
    ·
     rintro ⟨y0_15, y3_15⟩ hm
     try dsimp only at hm ⊢
     unfold m_slices_pdqsortOrdered_uint32_j15 at hm
     refine Sx <| Wm (.own 0) rfl <| Wm (.i y1_0) rfl <| Wm (.i y2_0) rfl ?_
     obtain ⟨r46_3, hr46_3, hm⟩ := bnd hm
     refine Wz (.tup [(.i r46_3.1), (.i r46_3.2)]) (Ocp [] [] [0] 0 (ok_slices_choosePivotOrdered_uint32 y0_15 y1_0 y2_0 r46_3 hr46_3) (plain_triv (by simp [A.Plain, A.Plains, D.Plain, byteD])) (fun a w => Try.call55 a w) rfl trivial) <| Wm (.tup [(.i r46_3.1), (.i r46_3.2)]) rfl <| Wz (.i r46_3.1) (Oex rfl) <| Wz (.i r46_3.2) (Oex rfl) <| Wm (.i r46_3.1) rfl <| Wm (.i r46_3.2) rfl <| Nk 7951 1 ⟨.own 0::.i y1_0::.i y2_0::.i y3_15::tp 4 (.b y8_0::.b y9_0::.i (W6 (y2_0 - y1_0))::.i r46_3.1::.i r46_3.2::tp 121 []), [(.arr 25 1 (List.length y0_15) (flatD (encI .u32) y0_15))], 1⟩ ?_
     refine AWP.cutJ (α := (List Int) × Int × Int) (fun (y0_5, y11_5, y12_5) => (⟨.own 0::.i y1_0::.i y2_0::.i y3_15::tp 4 (.b y8_0::.b y9_0::.i (W6 (y2_0 - y1_0))::.i y11_5::.i y12_5::tp 121 []), [(.arr 25 1 (List.length y0_5) (flatD (encI .u32) y0_5))], 1⟩ : St)) (fun (y0_5, y11_5, y12_5) => m_slices_pdqsortOrdered_uint32_j5 y1_0 y2_0 y3_15 y8_0 y9_0 (fun y0_0 y1_0 y2_0 y3_0 y8_0 y9_0 => m_slices_pdqsortOrdered_uint32_l0 (fun p0 p1 p2 p3 => m_slices_pdqsortOrdered_uint32 fuR p0 p1 p2 p3) fu_0 y0_0 y1_0 y2_0 y3_0 y8_0 y9_0) (fun p0 p1 p2 p3 => m_slices_pdqsortOrdered_uint32 fuR p0 p1 p2 p3) y0_5 y11_5 y12_5 = some r) ?_ (fun J5 => ?_)
     ·
      rintro ⟨y0_5, y11_5, y12_5⟩ hm
      try dsimp only at hm ⊢
      unfold m_slices_pdqsortOrdered_uint32_j5 at hm
      refine AWP.cutJ (α := (List Int)) (fun x => match x with | y0_7 => (⟨.own 0::.i y1_0::.i y2_0::.i y3_15::tp 4 (.b y8_0::.b y9_0::.i (W6 (y2_0 - y1_0))::.i y11_5::tp 122 []), [(.arr 25 1 (List.length y0_7) (flatD (encI .u32) y0_7))], 1⟩ : St)) (fun x => match x with | y0_7 => m_slices_pdqsortOrdered_uint32_j7 y11_5 y1_0 y2_0 y3_15 y8_0 y9_0 (fun y0_0 y1_0 y2_0 y3_0 y8_0 y9_0 => m_slices_pdqsortOrdered_uint32_l0 (fun p0 p1 p2 p3 => m_slices_pdqsortOrdered_uint32 fuR p0 p1 p2 p3) fu_0 y0_0 y1_0 y2_0 y3_0 y8_0 y9_0) (fun p0 p1 p2 p3 => m_slices_pdqsortOrdered_uint32 fuR p0 p1 p2 p3) y0_7 = some r) ?_ (fun J7 => ?_)
      ·
       rintro y0_7 hm
       try dsimp only at hm ⊢
       unfold m_slices_pdqsortOrdered_uint32_j7 at hm
       refine AWP.cutJ (α := Unit) (fun x => match x with | () => (⟨.own 0::.i y1_0::.i y2_0::.i y3_15::tp 6 (.i (W6 (y2_0 - y1_0))::.i y11_5::tp 122 []), [(.arr 25 1 (List.length y0_7) (flatD (encI .u32) y0_7))], 1⟩ : St)) (fun x => match x with | () => m_slices_pdqsortOrdered_uint32_j10 y0_7 y11_5 y1_0 y2_0 y3_15 (fun y0_0 y1_0 y2_0 y3_0 y8_0 y9_0 => m_slices_pdqsortOrdered_uint32_l0 (fun p0 p1 p2 p3 => m_slices_pdqsortOrdered_uint32 fuR p0 p1 p2 p3) fu_0 y0_0 y1_0 y2_0 y3_0 y8_0 y9_0) (fun p0 p1 p2 p3 => m_slices_pdqsortOrdered_uint32 fuR p0 p1 p2 p3) = some r) ?_ (fun J10 => ?_)
       ·
        rintro ⟨⟩ hm
        try dsimp only at hm ⊢
        unfold m_slices_pdqsortOrdered_uint32_j10 at hm
        refine Sx <| Wm (.own 0) rfl <| Wm (.i y1_0) rfl <| Wm (.i y2_0) rfl <| Wm (.i y11_5) rfl ?_
        obtain ⟨r99_11, hr99_11, hm⟩ := bnd hm
        refine Wy (.tup [(.i r99_11.1), (.b r99_11.2.1)]) [(0, (.arr 25 1 (List.length r99_11.2.2) (flatD (encI .u32) r99_11.2.2)))] (Ocf [0] [] [] 0 (ok_slices_partitionOrdered_uint32 y0_7 y1_0 y2_0 y11_5 r99_11 hr99_11) (fun a w => Try.call60 a w) rfl ⟨rfl, trivial⟩) <| Wm (.tup [(.i r99_11.1), (.b r99_11.2.1)]) rfl <| Wz (.i r99_11.1) (Oex rfl) <| Wz (.b r99_11.2.1) (Oex rfl) <| Wm (.i r99_11.1) rfl <| Wm (.b r99_11.2.1) rfl <| Nk 50191 1 ⟨.own 0::.i y1_0::.i y2_0::.i y3_15::tp 6 (.i (W6 (y2_0 - y1_0))::tp 3 (.i r99_11.1::.b r99_11.2.1::tp 118 [])), [(.arr 25 1 (List.length r99_11.2.2) (flatD (encI .u32) r99_11.2.2))], 1⟩ <| Sx <| Wm (.b r99_11.2.1) rfl <| Wm (.b r99_11.2.1) rfl <| Nk 17935 1 ⟨.own 0::.i y1_0::.i y2_0::.i y3_15::tp 5 (.b r99_11.2.1::.i (W6 (y2_0 - y1_0))::tp 3 (.i r99_11.1::tp 119 [])), [(.arr 25 1 (List.length r99_11.2.2) (flatD (encI .u32) r99_11.2.2))], 1⟩ <| Sx <| Wm (.i r99_11.1) rfl <| Wm (.i y1_0) rfl ?_
        refine Wz (.i (W6 (r99_11.1 - y1_0))) (Obn rfl (fun _ => hb_sub (k := .i64))) <| Wm (.i y2_0) rfl <| Wm (.i r99_11.1) rfl <| Wz (.i (W6 (y2_0 - r99_11.1))) (Obn rfl (fun _ => hb_sub (k := .i64))) <| Wm (.i (W6 (r99_11.1 - y1_0))) rfl <| Wm (.i (W6 (y2_0 - r99_11.1))) rfl <| Nk 214543 1 ⟨.own 0::.i y1_0::.i y2_0::.i y3_15::tp 5 (.b r99_11.2.1::.i (W6 (y2_0 - y1_0))::tp 3 (.i r99_11.1::tp 1 (.i (W6 (r99_11.1 - y1_0))::.i (W6 (y2_0 - r99_11.1))::tp 116 []))), [(.arr 25 1 (List.length r99_11.2.2) (flatD (encI .u32) r99_11.2.2))], 1⟩ <| Sx <| Wm (.i (W6 (y2_0 - y1_0))) rfl <| Wz (.i (W6 (Int.tdiv (W6 (y2_0 - y1_0)) 8))) (Ob2 (.int .i64 (W6 (y2_0 - y1_0))) (.int .i64 8) rfl (fun _ => hb_quo (by decide))) <| Wm (.i (W6 (Int.tdiv (W6 (y2_0 - y1_0)) 8))) rfl <| Nk 475663 1 ⟨.own 0::.i y1_0::.i y2_0::.i y3_15::tp 5 (.b r99_11.2.1::tp 4 (.i r99_11.1::tp 1 (.i (W6 (r99_11.1 - y1_0))::.i (W6 (y2_0 - r99_11.1))::.i (W6 (Int.tdiv (W6 (y2_0 - y1_0)) 8))::tp 115 []))), [(.arr 25 1 (List.length r99_11.2.2) (flatD (encI .u32) r99_11.2.2))], 1⟩ <| Sx <| Wm (.i (W6 (r99_11.1 - y1_0))) rfl ?_
        refine Wm (.i (W6 (y2_0 - r99_11.1))) rfl <| Wz (.b (decide ((W6 (r99_11.1 - y1_0)) < (W6 (y2_0 - r99_11.1))))) (Obn rfl (fun _ => hb_lss (k := .i64))) <| Nk 10384593717069655257060992658915855 1 ⟨.own 0::.i y1_0::.i y2_0::.i y3_15::tp 5 (.b r99_11.2.1::tp 4 (.i r99_11.1::tp 1 (.i (W6 (r99_11.1 - y1_0))::.i (W6 (y2_0 - r99_11.1))::.i (W6 (Int.tdiv (W6 (y2_0 - y1_0)) 8))::tp 94 (.b (decide ((W6 (r99_11.1 - y1_0)) < (W6 (y2_0 - r99_11.1))))::tp 20 [])))), [(.arr 25 1 (List.length r99_11.2.2) (flatD (encI .u32) r99_11.2.2))], 1⟩ ?_
        rcases tf_ (decide ((W6 (r99_11.1 - y1_0)) < (W6 (y2_0 - r99_11.1)))) with hc113_22 | hc113_22
        ·
         replace hm := cT hc113_22 hm
         refine AiT hc113_22 <| Sx <| Wm (.i (W6 (r99_11.1 - y1_0))) rfl <| Wm (.i (W6 (Int.tdiv (W6 (y2_0 - y1_0)) 8))) rfl ?_
         obtain ⟨v116_18, hv116_18, hm⟩ := bnd hm; replace hv116_18 := Option.some.inj hv116_18
         refine Wz (.b v116_18) (Ocs (congrArg (fun z => A.d (.lit (.bool z))) hv116_18) (Obn rfl (fun _ => hb_geq (k := .i64)))) <| Wm (.b v116_18) rfl <| Nk 17167 1 ⟨.own 0::.i y1_0::.i y2_0::.i y3_15::tp 4 (.b v116_18::.b r99_11.2.1::tp 4 (.i r99_11.1::tp 119 [])), [(.arr 25 1 (List.length r99_11.2.2) (flatD (encI .u32) r99_11.2.2))], 1⟩ <| Sx <| Wm (.own 0) rfl <| Wm (.i y1_0) rfl <| Wm (.i r99_11.1) rfl <| Wm (.i y3_15) rfl ?_
         obtain ⟨r121_12, hr121_12, hm⟩ := bnd hm
         refine Wy (.tup []) [(0, (.arr 25 1 (List.length r121_12) (flatD (encI .u32) r121_12)))] (Ocf [0] [] [] 0 (ih r99_11.2.2 y1_0 r99_11.1 y3_15 r121_12 hr121_12) (fun a w => Try.call42 a w) rfl ⟨rfl, trivial⟩) <| Nk 17165 1 ⟨.own 0::tp 1 (.i y2_0::.i y3_15::tp 4 (.b v116_18::.b r99_11.2.1::tp 4 (.i r99_11.1::tp 119 []))), [(.arr 25 1 (List.length r121_12) (flatD (encI .u32) r121_12))], 1⟩ <| Tx <| Wm (.i r99_11.1) rfl <| Wz (.i (W6 (r99_11.1 + 1))) (Obn rfl (fun _ => hb_add (k := .i64))) <| Wm (.i (W6 (r99_11.1 + 1))) rfl <| Wn0 <| Ino <| RoundK.normal ?_
         exact Rounds.weak (Weak.toK 783 0 0 [0]) (ih_0 (fu_0, r121_12, (W6 (r99_11.1 + 1)), y2_0, y3_15, v116_18, r99_11.2.1) hm (Nat.lt_succ_self _))
        ·
         replace hm := cF hc113_22 hm
         refine AiF hc113_22 <| Sx <| Wm (.i (W6 (y2_0 - r99_11.1))) rfl <| Wm (.i (W6 (Int.tdiv (W6 (y2_0 - y1_0)) 8))) rfl ?_
         obtain ⟨v126_19, hv126_19, hm⟩ := bnd hm; replace hv126_19 := Option.some.inj hv126_19
         refine Wz (.b v126_19) (Ocs (congrArg (fun z => A.d (.lit (.bool z))) hv126_19) (Obn rfl (fun _ => hb_geq (k := .i64)))) <| Wm (.b v126_19) rfl <| Nk 17167 1 ⟨.own 0::.i y1_0::.i y2_0::.i y3_15::tp 4 (.b v126_19::.b r99_11.2.1::tp 4 (.i r99_11.1::tp 119 [])), [(.arr 25 1 (List.length r99_11.2.2) (flatD (encI .u32) r99_11.2.2))], 1⟩ <| Sx <| Wm (.own 0) rfl <| Wm (.i r99_11.1) rfl <| Wz (.i (W6 (r99_11.1 + 1))) (Obn rfl (fun _ => hb_add (k := .i64))) <| Wm (.i y2_0) rfl <| Wm (.i y3_15) rfl ?_
         obtain ⟨r132_13, hr132_13, hm⟩ := bnd hm
         refine Wy (.tup []) [(0, (.arr 25 1 (List.length r132_13) (flatD (encI .u32) r132_13)))] (Ocf [0] [] [] 0 (ih r99_11.2.2 (W6 (r99_11.1 + 1)) y2_0 y3_15 r132_13 hr132_13) (fun a w => Try.call42 a w) rfl ⟨rfl, trivial⟩) <| Nk 17163 1 ⟨.own 0::.i y1_0::tp 1 (.i y3_15::tp 4 (.b v126_19::.b r99_11.2.1::tp 4 (.i r99_11.1::tp 119 []))), [(.arr 25 1 (List.length r132_13) (flatD (encI .u32) r132_13))], 1⟩ <| Tx <| Wm (.i r99_11.1) rfl <| Wm (.i r99_11.1) rfl <| Wn0 <| Ino <| RoundK.normal ?_
         exact Rounds.weak (Weak.toK 783 0 0 [0]) (ih_0 (fu_0, r132_13, y1_0, r99_11.1, y3_15, v126_19, r99_11.2.1) hm (Nat.lt_succ_self _))
       refine Sq <| Sq <| Adr <| Wm (.i y1_0) rfl <| Wz (.b (decide ((0 : Int) < y1_0))) (Obn rfl (fun _ => hb_gtr (k := .i64))) ?_
       rcases tf_ (decide ((0 : Int) < y1_0)) with hq75_8 | hq75_8
       ·
        replace hm := cT hq75_8 hm
        refine Wz (.b true) (Oq hq75_8 rfl) <| Wm (.own 0) rfl <| Wm (.i y1_0) rfl <| Wz (.i (W6 (y1_0 - 1))) (Obn rfl (fun _ => hb_sub (k := .i64))) ?_
        obtain ⟨x79_8, hx79_8, hm⟩ := bnd hm
        obtain ⟨hx79_8i, hx79_8g⟩ := geti_some hx79_8
        refine Wz (.loc 0 ((Int.toNat (W6 (y1_0 - 1))) * 1)) (Oia rfl (encI_len (k := .u32)) hx79_8i hx79_8g) <| Wz (.d (.lit (.int .u32 x79_8))) (Lr1 rfl (encI_len (k := .u32)) hx79_8g) <| Wm (.own 0) rfl <| Wm (.i y11_5) rfl ?_
        obtain ⟨x83_8, hx83_8, hm⟩ := bnd hm
        obtain ⟨hx83_8i, hx83_8g⟩ := geti_some hx83_8
        refine Wz (.loc 0 ((Int.toNat y11_5) * 1)) (Oia rfl (encI_len (k := .u32)) hx83_8i hx83_8g) <| Wz (.d (.lit (.int .u32 x83_8))) (Lr1 rfl (encI_len (k := .u32)) hx83_8g) ?_
        obtain ⟨r85_8, hr85_8, hm⟩ := bnd hm
        refine Wz (.b r85_8) (Ocf [] [] [] 0 (ok_cmp_Less_uint32 x79_8 x83_8 r85_8 hr85_8) (fun a w => Try.call58 a w) rfl trivial) <| Wz (.b (!r85_8)) (Ocs (by kernel_rfl) (op_un rfl (a1 := .bool r85_8) (by kernel_rfl) (fun _ => hu_not))) <| Wz (.b (!r85_8)) (OpT rfl) <| Wdr <| Tk 154742504910672534362394383 1 ⟨.own 0::.i y1_0::.i y2_0::.i y3_15::tp 4 (.b y8_0::.b y9_0::.i (W6 (y2_0 - y1_0))::.i y11_5::tp 75 (.b (!r85_8)::tp 46 [])), [(.arr 25 1 (List.length y0_7) (flatD (encI .u32) y0_7))], 1⟩ ?_
        rcases tf_ (!r85_8) with hc87_23 | hc87_23
        ·
         replace hm := cT hc87_23 hm
         refine AiT hc87_23 <| Sx <| Wm (.own 0) rfl <| Wm (.i y1_0) rfl <| Wm (.i y2_0) rfl <| Wm (.i y11_5) rfl ?_
         obtain ⟨r92_9, hr92_9, hm⟩ := bnd hm
         refine Wy (.i r92_9.1) [(0, (.arr 25 1 (List.length r92_9.2) (flatD (encI .u32) r92_9.2)))] (Ocf [0] [] [] 0 (ok_slices_partitionEqualOrdered_uint32 y0_7 y1_0 y2_0 y11_5 r92_9 hr92_9) (fun a w => Try.call59 a w) rfl ⟨rfl, trivial⟩) <| Wm (.i r92_9.1) rfl <| Nk 8973 1 ⟨.own 0::tp 1 (.i y2_0::.i y3_15::tp 4 (.b y8_0::.b y9_0::tp 3 (.i r92_9.1::tp 120 []))), [(.arr 25 1 (List.length r92_9.2) (flatD (encI .u32) r92_9.2))], 1⟩ <| Sx <| Wm (.i r92_9.1) rfl <| Wm (.i r92_9.1) rfl <| Nn <| AWP.exit <| Then.exit <| InBlock.same <| RoundK.normal ?_
         exact Rounds.weak (Weak.toK 783 0 0 [0]) (ih_0 (fu_0, r92_9.2, r92_9.1, y2_0, y3_15, y8_0, y9_0) hm (Nat.lt_succ_self _))
        ·
         replace hm := cF hc87_23 hm
         refine AiF hc87_23 <| Sk <| Tn ?_
         exact AWP.weak (Weak.toK 3087 0 0 [0]) (J10 () hm)
       ·
        replace hm := cF hq75_8 hm
        refine Wz (.b false) (Oq hq75_8 rfl) <| Wn <| Wn <| Wn <| Wn <| Wn <| Wn <| Wn <| Wn <| Wn <| Wn <| Wn <| Wz (.b false) (OpF rfl) <| Wdr ?_
        refine Tk 154742504910672534362394383 1 ⟨.own 0::.i y1_0::.i y2_0::.i y3_15::tp 4 (.b y8_0::.b y9_0::.i (W6 (y2_0 - y1_0))::.i y11_5::tp 75 (.b false::tp 46 [])), [(.arr 25 1 (List.length y0_7) (flatD (encI .u32) y0_7))], 1⟩ <| AWP.if_ false (by kernel_rfl) <| Sk <| Tn ?_
        exact AWP.weak (Weak.toK 3087 0 0 [0]) (J10 () hm)
      refine Sq ?_
      refine AWP.cutJ (α := Unit) (fun x => match x with | () => (⟨.own 0::.i y1_0::.i y2_0::.i y3_15::tp 4 (.b y8_0::.b y9_0::.i (W6 (y2_0 - y1_0))::.i y11_5::tp 56 (.b false::tp 65 [])), [(.arr 25 1 (List.length y0_5) (flatD (encI .u32) y0_5))], 1⟩ : St)) (fun x => match x with | () => m_slices_pdqsortOrdered_uint32_j17 y0_5 y11_5 y1_0 y2_0 y3_15 y8_0 y9_0 (fun y0_0 y1_0 y2_0 y3_0 y8_0 y9_0 => m_slices_pdqsortOrdered_uint32_l0 (fun p0 p1 p2 p3 => m_slices_pdqsortOrdered_uint32 fuR p0 p1 p2 p3) fu_0 y0_0 y1_0 y2_0 y3_0 y8_0 y9_0) (fun p0 p1 p2 p3 => m_slices_pdqsortOrdered_uint32 fuR p0 p1 p2 p3) = some r) ?_ (fun J17 => ?_)
      ·
       rintro ⟨⟩ hm
       try dsimp only at hm ⊢
       unfold m_slices_pdqsortOrdered_uint32_j17 at hm
       refine AWP.if_ false (by kernel_rfl) <| Sk <| Tn ?_
       exact AWP.weak (Weak.toK 3855 0 0 [0]) (J7 (y0_5) hm)
      refine Sx <| Wm (.b y8_0) rfl ?_
      rcases tf_ y8_0 with hq62_16 | hq62_16
      ·
       replace hm := cT hq62_16 hm
       refine Wz (.b true) (Oq hq62_16 rfl) <| Wm (.b y9_0) rfl <| Wz (.b y9_0) (OpT rfl) ?_
       rcases tf_ y9_0 with hq65_16 | hq65_16
       ·
        replace hm := cT hq65_16 hm
        refine Wz (.b true) (Oq hq65_16 rfl) <| Wm (.i y12_5) rfl <| Wz (.b (decide (y12_5 = 1))) (Obn rfl (fun _ => hb_eql (k := .i64))) <| Wz (.b (decide (y12_5 = 1))) (OpT rfl) <| Nk 295147905179352829711 1 ⟨.own 0::.i y1_0::.i y2_0::.i y3_15::tp 4 (.b y8_0::.b y9_0::.i (W6 (y2_0 - y1_0))::.i y11_5::tp 56 (.b (decide (y12_5 = 1))::tp 65 [])), [(.arr 25 1 (List.length y0_5) (flatD (encI .u32) y0_5))], 1⟩ ?_
        rcases tf_ (decide (y12_5 = 1)) with hc68_24 | hc68_24
        ·
         replace hm := cT hc68_24 hm
         refine AiT hc68_24 <| Sx <| Wm (.own 0) rfl <| Wm (.i y1_0) rfl <| Wm (.i y2_0) rfl ?_
         obtain ⟨r72_6, hr72_6, hm⟩ := bnd hm
         refine Wy (.b r72_6.1) [(0, (.arr 25 1 (List.length r72_6.2) (flatD (encI .u32) r72_6.2)))] (Ocf [0] [] [] 0 (ok_slices_partialInsertionSortOrdered_uint32 y0_5 y1_0 y2_0 r72_6 hr72_6) (fun a w => Try.call57 a w) rfl ⟨rfl, trivial⟩) <| Nk 4722366482869645217551 1 ⟨.own 0::.i y1_0::.i y2_0::.i y3_15::tp 4 (.b y8_0::.b y9_0::.i (W6 (y2_0 - y1_0))::.i y11_5::tp 60 (.b r72_6.1::tp 61 [])), [(.arr 25 1 (List.length r72_6.2) (flatD (encI .u32) r72_6.2))], 1⟩ ?_
         rcases tf_ r72_6.1 with hc72_25 | hc72_25
         ·
          replace hm := cT hc72_25 hm
          refine AiT hc72_25 <| Rt <| Tr <| Ir <| RoundK.ret <| Ir ?_
          obtain rfl := Option.some.inj hm
          exact ret_i [0]
         ·
          replace hm := cF hc72_25 hm
          refine AiF hc72_25 <| Sk <| Tn ?_
          exact AWP.weak (Weak.toK 3855 0 0 [0]) (J7 (r72_6.2) hm)
        ·
         replace hm := cF hc68_24 hm
         refine AiF hc68_24 <| Sk <| Tn ?_
         exact AWP.weak (Weak.toK 3855 0 0 [0]) (J7 (y0_5) hm)
       ·
        replace hm := cF hq65_16 hm
        refine Wz (.b false) (Oq hq65_16 rfl) <| Wn <| Wn <| Wz (.b false) (OpF rfl) <| Nn ?_
        exact AWP.weak (Weak.toK 295147905179352829711 0 0 [0]) (J17 () hm)
      ·
       replace hm := cF hq62_16 hm
       refine Wz (.b false) (Oq hq62_16 rfl) <| Wn <| Wz (.b false) (OpF rfl) <| Wm (.b false) rfl <| Wn <| Wn <| Wz (.b false) (OpF rfl) <| Nn ?_
       exact AWP.weak (Weak.toK 295147905179352829711 0 0 [0]) (J17 () hm)
     refine Sq <| Sx <| Wm (.i r46_3.2) rfl <| Wz (.b (decide (r46_3.2 = 2))) (Obn rfl (fun _ => hb_eql (k := .i64))) <| Nk 1125899906850575 1 ⟨.own 0::.i y1_0::.i y2_0::.i y3_15::tp 4 (.b y8_0::.b y9_0::.i (W6 (y2_0 - y1_0))::.i r46_3.1::.i r46_3.2::tp 37 (.b (decide (r46_3.2 = 2))::tp 83 [])), [(.arr 25 1 (List.length y0_15) (flatD (encI .u32) y0_15))], 1⟩ ?_
     rcases tf_ (decide (r46_3.2 = 2)) with hc50_26 | hc50_26
     ·
      replace hm := cT hc50_26 hm
      refine AiT hc50_26 <| Sx <| Wm (.own 0) rfl <| Wm (.i y1_0) rfl <| Wm (.i y2_0) rfl ?_
      obtain ⟨r54_4, hr54_4, hm⟩ := bnd hm
      refine Wy (.tup []) [(0, (.arr 25 1 (List.length r54_4) (flatD (encI .u32) r54_4)))] (Ocf [0] [] [] 0 (ok_slices_reverseRangeOrdered_uint32 y0_15 y1_0 y2_0 r54_4 hr54_4) (fun a w => Try.call56 a w) rfl ⟨rfl, trivial⟩) <| Nk 3855 1 ⟨.own 0::.i y1_0::.i y2_0::.i y3_15::tp 4 (.b y8_0::.b y9_0::.i (W6 (y2_0 - y1_0))::.i r46_3.1::tp 122 []), [(.arr 25 1 (List.length r54_4) (flatD (encI .u32) r54_4))], 1⟩ <| Sx <| Wm (.i y2_0) rfl <| Wz (.i (W6 (y2_0 - 1))) (Obn rfl (fun _ => hb_sub (k := .i64))) <| Wm (.i r46_3.1) rfl <| Wm (.i y1_0) rfl <| Wz (.i (W6 (r46_3.1 - y1_0))) (Obn rfl (fun _ => hb_sub (k := .i64))) <| Wz (.i (W6 ((W6 (y2_0 - 1)) - (W6 (r46_3.1 - y1_0))))) (Obn rfl (fun _ => hb_sub (k := .i64))) <| Wm (.i (W6 ((W6 (y2_0 - 1)) - (W6 (r46_3.1 - y1_0))))) rfl <| Nk 3855 1 ⟨.own 0::.i y1_0::.i y2_0::.i y3_15::tp 4 (.b y8_0::.b y9_0::.i (W6 (y2_0 - y1_0))::.i (W6 ((W6 (y2_0 - 1)) - (W6 (r46_3.1 - y1_0))))::tp 122 []), [(.arr 25 1 (List.length r54_4) (flatD (encI .u32) r54_4))], 1⟩ <| Tx <| Wm (.i 1) rfl <| Nn ?_
      exact AWP.weak (Weak.toK 7951 0 0 [0]) (J5 (r54_4, (W6 ((W6 (y2_0 - 1)) - (W6 (r46_3.1 - y1_0)))), 1) hm)
     ·
      replace hm := cF hc50_26 hm
      refine AiF hc50_26 <| Sk <| Tn ?_
      exact AWP.weak (Weak.toK 7951 0 0 [0]) (J5 (y0_15, r46_3.1, r46_3.2) hm)
    refine Sq <| Sx <| Wm (.b y8_0) rfl <| Wz (.b (!y8_0)) (Ocs (by kernel_rfl) (op_un rfl (a1 := .bool y8_0) (by kernel_rfl) (fun _ => hu_not))) <| Nk 34359740175 1 ⟨.own 0::.i y1_0::.i y2_0::.i y3_0::tp 4 (.b y8_0::.b y9_0::.i (W6 (y2_0 - y1_0))::tp 24 (.b (!y8_0)::tp 98 [])), [(.arr 25 1 (List.length y0_0) (flatD (encI .u32) y0_0))], 1⟩ ?_
    rcases tf_ (!y8_0) with hc35_27 | hc35_27
    ·
     replace hm := cT hc35_27 hm
     refine AiT hc35_27 <| Sx <| Wm (.own 0) rfl <| Wm (.i y1_0) rfl <| Wm (.i y2_0) rfl ?_
     obtain ⟨r39_14, hr39_14, hm⟩ := bnd hm
     refine Wy (.tup []) [(0, (.arr 25 1 (List.length r39_14) (flatD (encI .u32) r39_14)))] (Ocf [0] [] [] 0 (ok_slices_breakPatternsOrdered_uint32 y0_0 y1_0 y2_0 r39_14 hr39_14) (fun a w => Try.call54 a w) rfl ⟨rfl, trivial⟩) <| Nk 1807 1 ⟨.own 0::.i y1_0::.i y2_0::.i y3_0::tp 4 (.b y8_0::.b y9_0::.i (W6 (y2_0 - y1_0))::tp 123 []), [(.arr 25 1 (List.length r39_14) (flatD (encI .u32) r39_14))], 1⟩ <| Tx <| Wm (.i y3_0) rfl <| Wz (.i (W6 (y3_0 - 1))) (Obn rfl (fun _ => hb_sub (k := .i64))) <| Wm (.i (W6 (y3_0 - 1))) rfl <| Nn ?_
     exact AWP.weak (Weak.toK 1807 0 0 [0]) (J15 (r39_14, (W6 (y3_0 - 1))) hm)
    ·
     replace hm := cF hc35_27 hm
     refine AiF hc35_27 <| Sk <| Tn ?_
     exact AWP.weak (Weak.toK 1807 0 0 [0]) (J15 (y0_0, y3_0) hm)

theorem ok_slices_Sort_uint32 (p0 : (List Int)) (r : (List Int)) (h : m_slices_Sort_uint32 p0 = some r) : GCall Try.prog 20 [(.own 0)] [(.arr 25 1 (List.length p0) (flatD (encI .u32) p0))] (.tup []) [(.arr 25 1 (List.length r) (flatD (encI .u32) r))] := by
 refine GCall.of_body (n := 11) (rs := []) Try.func20 rfl rfl rfl <| Ato ⟨.own 0::tu 10 [], [(.arr 25 1 (List.length p0) (flatD (encI .u32) p0))], 1⟩ ?_
 have hm := h
 unfold m_slices_Sort_uint32 at hm
 refine Sx <| Wm (.own 0) rfl <| Wz (.i ((List.length p0 : Nat) : Int)) (Oln rfl) <| Wm (.i ((List.length p0 : Nat) : Int)) rfl <| Nk 5 1 ⟨.own 0::tp 1 (.i ((List.length p0 : Nat) : Int)::tp 8 []), [(.arr 25 1 (List.length p0) (flatD (encI .u32) p0))], 1⟩ <| Tx <| Wm (.own 0) rfl <| Wm (.i ((List.length p0 : Nat) : Int)) rfl <| Wm (.i ((List.length p0 : Nat) : Int)) rfl <| Wz (.u (W7 ((List.length p0 : Nat) : Int))) (Oc2 (.int .i64 ((List.length p0 : Nat) : Int)) rfl (run_conv (ds := .int .i64) (k' := .u64) (by kernel_rfl) (by kernel_rfl))) ?_
 obtain ⟨r9_1, hr9_1, hm⟩ := bnd hm
 refine Wz (.i r9_1) (Ocf [] [] [] 0 (ok_math_bits_Len (W7 ((List.length p0 : Nat) : Int)) r9_1 hr9_1) (fun a w => Try.call43 a w) rfl trivial) ?_
 obtain ⟨r10_1, hr10_1, hm⟩ := bnd hm
 refine Wy (.tup []) [(0, (.arr 25 1 (List.length r10_1) (flatD (encI .u32) r10_1)))] (Ocf [0] [] [] 0 (ok_slices_pdqsortOrdered_uint32 1152921504606846976 p0 0 ((List.length p0 : Nat) : Int) r9_1 r10_1 hr10_1) (fun a w => Try.call42 a w) rfl ⟨rfl, trivial⟩) <| Wn0 ?_
 obtain rfl := Option.some.inj hm
 exact ret_n [0]

theorem ok_slices_Compact_uint32 (p0 : (List Int)) (r : (List Int)) (h : m_slices_Compact_uint32 p0 = some r) : GCall Try.prog 21 [(.own 0)] [(.arr 25 1 (List.length p0) (flatD (encI .u32) p0))] (.l (encI .u32) r) [.gone] := by
 refine GCall.of_body (n := 61) (rs := [(.tmp 2)]) Try.func21 rfl rfl rfl <| Ato ⟨.own 0::tu 60 [], [(.arr 25 1 (List.length p0) (flatD (encI .u32) p0))], 1⟩ ?_
 have hm := h
 unfold m_slices_Compact_uint32 at hm
 refine Sx <| Wm (.d .nil) rfl <| Nk 1 1 ⟨.own 0::tp 60 [], [(.arr 25 1 (List.length p0) (flatD (encI .u32) p0))], 1⟩ <| Sq <| Sx <| Wm (.own 0) rfl <| Wz (.i ((List.length p0 : Nat) : Int)) (Oln rfl) <| Wz (.b (decide (((List.length p0 : Nat) : Int) < 2))) (Obn rfl (fun _ => hb_lss (k := .i64))) <| Nk 257 1 ⟨.own 0::tp 7 (.b (decide (((List.length p0 : Nat) : Int) < 2))::tp 52 []), [(.arr 25 1 (List.length p0) (flatD (encI .u32) p0))], 1⟩ ?_
 rcases tf_ (decide (((List.length p0 : Nat) : Int) < 2)) with hc8_11 | hc8_11
 ·
  replace hm := cT hc8_11 hm
  refine AiT hc8_11 <| Sx <| Wm (.own 0) rfl <| Wm (.own 0) rfl <| Nn <| Afz [0] ⟨.l (encI .u32) p0::tp 1 (.l (encI .u32) p0::tp 5 (.b (decide (((List.length p0 : Nat) : Int) < 2))::.l (encI .u32) p0::tp 51 [])), [(.fro 25 1 (List.length p0) (flatD (encI .u32) p0))], 1⟩ <| Ago 0 ⟨.l (encI .u32) p0::tp 1 (.l (encI .u32) p0::tp 5 (.b (decide (((List.length p0 : Nat) : Int) < 2))::.l (encI .u32) p0::tp 51 [])), [.gone], 1⟩ <| Rt <| Tr ?_
  obtain rfl := Option.some.inj hm
  exact ret_i [0]
 ·
  replace hm := cF hc8_11 hm
  refine AiF hc8_11 <| Sk <| Tk 1 1 ⟨.own 0::tp 60 [], [(.arr 25 1 (List.length p0) (flatD (encI .u32) p0))], 1⟩ <| Sq <| Sx <| Wm (.i 1) rfl <| Nk 9 1 ⟨.own 0::tp 2 (.i 1::tp 57 []), [(.arr 25 1 (List.length p0) (flatD (encI .u32) p0))], 1⟩ <| Bk ?_
  refine AWP.loopI (α := Nat × Int)
    (fun (fu_1, y3_1) => (⟨.own 0::tp 2 (.i y3_1::tp 57 []), [(.arr 25 1 (List.length p0) (flatD (encI .u32) p0))], 1⟩ : St))
    (fun (fu_1, y3_1) => m_slices_Compact_uint32_l1 p0 fu_1 y3_1 = some r)
    (fun (fu_1, y3_1) => fu_1) (1152921504606846976, 1)
    (Weak.toK 9 0 0 [0]) hm ?_
  rintro ⟨fu_1, y3_1⟩ n_1 hm ih_1
  try dsimp only at hm ih_1 ⊢
  cases fu_1 with
  | zero => exact absurd hm (by unfold m_slices_Compact_uint32_l1; simp)
  | succ fu_1 =>
   unfold m_slices_Compact_uint32_l1 at hm
   refine Sq <| Sx <| Wm (.i y3_1) rfl <| Wm (.own 0) rfl <| Wz (.i ((List.length p0 : Nat) : Int)) (Oln rfl) <| Wz (.b (decide (y3_1 < ((List.length p0 : Nat) : Int)))) (Obn rfl (fun _ => hb_lss (k := .i64))) <| Nk 8201 1 ⟨.own 0::tp 2 (.i y3_1::tp 9 (.b (decide (y3_1 < ((List.length p0 : Nat) : Int)))::tp 47 [])), [(.arr 25 1 (List.length p0) (flatD (encI .u32) p0))], 1⟩ ?_
   rcases tf_ (decide (y3_1 < ((List.length p0 : Nat) : Int))) with hc13_12 | hc13_12
   ·
    replace hm := cT hc13_12 hm
    refine AiT hc13_12 <| Sk <| Tk 9 1 ⟨.own 0::tp 2 (.i y3_1::tp 57 []), [(.arr 25 1 (List.length p0) (flatD (encI .u32) p0))], 1⟩ <| Sq <| Bk <| Sq <| Adr <| Wm (.own 0) rfl <| Wm (.i y3_1) rfl ?_
    obtain ⟨x18_3, hx18_3, hm⟩ := bnd hm
    obtain ⟨hx18_3i, hx18_3g⟩ := geti_some hx18_3
    refine Wz (.loc 0 ((Int.toNat y3_1) * 1)) (Oia rfl (encI_len (k := .u32)) hx18_3i hx18_3g) <| Wz (.d (.lit (.int .u32 x18_3))) (Lr1 rfl (encI_len (k := .u32)) hx18_3g) <| Wm (.own 0) rfl <| Wm (.i y3_1) rfl <| Wz (.i (W6 (y3_1 - 1))) (Obn rfl (fun _ => hb_sub (k := .i64))) ?_
    obtain ⟨x23_3, hx23_3, hm⟩ := bnd hm
    obtain ⟨hx23_3i, hx23_3g⟩ := geti_some hx23_3
    refine Wz (.loc 0 ((Int.toNat (W6 (y3_1 - 1))) * 1)) (Oia rfl (encI_len (k := .u32)) hx23_3i hx23_3g) <| Wz (.d (.lit (.int .u32 x23_3))) (Lr1 rfl (encI_len (k := .u32)) hx23_3g) <| Wz (.b (decide (x18_3 = x23_3))) (Obn rfl (fun _ => hb_eql (k := .u32))) <| Wdr <| Tk 33554441 1 ⟨.own 0::tp 2 (.i y3_1::tp 21 (.b (decide (x18_3 = x23_3))::tp 35 [])), [(.arr 25 1 (List.length p0) (flatD (encI .u32) p0))], 1⟩ ?_
    rcases tf_ (decide (x18_3 = x23_3)) with hc25_13 | hc25_13
    ·
     replace hm := cT hc25_13 hm
     refine AiT hc25_13 <| Sx <| Wm (.own 0) rfl <| Wm (.i y3_1) rfl ?_
     obtain ⟨hb28_4, hm⟩ := chk_some hm
     refine Wz (.sub 0 ((Int.toNat y3_1) * 1) (List.length p0 - (Int.toNat y3_1) - 1 + 1)) (Osb rfl (e := 25) (k := .i64) (iv := y3_1) (encI_len (k := .u32)) (by omega) (by omega)) <| Wm (.sub 0 ((Int.toNat y3_1) * 1) (List.length p0 - (Int.toNat y3_1) - 1 + 1)) rfl <| Nk 25 1 ⟨.own 0::tp 2 (.i y3_1::.sub 0 ((Int.toNat y3_1) * 1) (List.length p0 - (Int.toNat y3_1) - 1 + 1)::tp 56 []), [(.arr 25 1 (List.length p0) (flatD (encI .u32) p0))], 1⟩ <| Sq <| Sx <| Wm (.i 1) rfl <| Nk 57 1 ⟨.own 0::tp 2 (.i y3_1::.sub 0 ((Int.toNat y3_1) * 1) (List.length p0 - (Int.toNat y3_1) - 1 + 1)::.i 1::tp 55 []), [(.arr 25 1 (List.length p0) (flatD (encI .u32) p0))], 1⟩ <| Bk ?_
     refine AWP.loopI (α := Nat × (List Int) × Int × Int)
       (fun (fu_5, y0_5, y3_5, y5_5) => (⟨.own 0::tp 2 (.i y3_5::.sub 0 ((Int.toNat y3_1) * 1) (List.length p0 - (Int.toNat y3_1) - 1 + 1)::.i y5_5::tp 55 []), [(.arr 25 1 (List.length y0_5) (flatD (encI .u32) y0_5))], 1⟩ : St))
       (fun (fu_5, y0_5, y3_5, y5_5) => m_slices_Compact_uint32_l5 p0 y3_1 fu_5 y0_5 y3_5 y5_5 = some r)
       (fun (fu_5, y0_5, y3_5, y5_5) => fu_5) (1152921504606846976, p0, y3_1, 1)
       (Weak.toK 57 0 0 [0]) hm ?_
     rintro ⟨fu_5, y0_5, y3_5, y5_5⟩ n_5 hm ih_5
     try dsimp only at hm ih_5 ⊢
     cases fu_5 with
     | zero => exact absurd hm (by unfold m_slices_Compact_uint32_l5; simp)
     | succ fu_5 =>
      unfold m_slices_Compact_uint32_l5 at hm
      refine Sq <| Sx <| Wm (.i y5_5) rfl <| Wm (.sub 0 ((Int.toNat y3_1) * 1) (List.length p0 - (Int.toNat y3_1) - 1 + 1)) rfl <| Wz (.i ((List.length p0 - (Int.toNat y3_1) - 1 + 1 : Nat) : Int)) (Oln rfl) <| Wz (.b (decide (y5_5 < ((List.length p0 - (Int.toNat y3_1) - 1 + 1 : Nat) : Int)))) (Obn rfl (fun _ => hb_lss (k := .i64))) <| Nk 4294967353 1 ⟨.own 0::tp 2 (.i y3_5::.sub 0 ((Int.toNat y3_1) * 1) (List.length p0 - (Int.toNat y3_1) - 1 + 1)::.i y5_5::tp 26 (.b (decide (y5_5 < ((List.length p0 - (Int.toNat y3_1) - 1 + 1 : Nat) : Int)))::tp 28 [])), [(.arr 25 1 (List.length y0_5) (flatD (encI .u32) y0_5))], 1⟩ ?_
      rcases tf_ (decide (y5_5 < ((List.length p0 - (Int.toNat y3_1) - 1 + 1 : Nat) : Int))) with hc32_14 | hc32_14
      ·
       replace hm := cT hc32_14 hm
       refine AiT hc32_14 <| Sk <| Tk 57 1 ⟨.own 0::tp 2 (.i y3_5::.sub 0 ((Int.toNat y3_1) * 1) (List.length p0 - (Int.toNat y3_1) - 1 + 1)::.i y5_5::tp 55 []), [(.arr 25 1 (List.length y0_5) (flatD (encI .u32) y0_5))], 1⟩ <| Sq <| Bk <| Sq <| Adr <| Wm (.sub 0 ((Int.toNat y3_1) * 1) (List.length p0 - (Int.toNat y3_1) - 1 + 1)) rfl <| Wm (.i y5_5) rfl ?_
       obtain ⟨hs37_7, hm⟩ := chk_some hm
       obtain ⟨x37_7, hx37_7, hm⟩ := bnd hm
       obtain ⟨hx37_7i, hx37_7g⟩ := geti_some hx37_7
       refine Wz (.loc 0 ((Int.toNat (y3_1 + y5_5)) * 1)) (Ois (e' := 25) (sz' := 1) (n' := List.length y0_5) (ds := flatD (encI .u32) y0_5) rfl hb28_4 hs37_7) <| Wz (.d (.lit (.int .u32 x37_7))) (Lr1 rfl (encI_len (k := .u32)) hx37_7g) <| Wm (.sub 0 ((Int.toNat y3_1) * 1) (List.length p0 - (Int.toNat y3_1) - 1 + 1)) rfl <| Wm (.i y5_5) rfl <| Wz (.i (W6 (y5_5 - 1))) (Obn rfl (fun _ => hb_sub (k := .i64))) ?_
       obtain ⟨hs42_7, hm⟩ := chk_some hm
       obtain ⟨x42_7, hx42_7, hm⟩ := bnd hm
       obtain ⟨hx42_7i, hx42_7g⟩ := geti_some hx42_7
       refine Wz (.loc 0 ((Int.toNat (y3_1 + (W6 (y5_5 - 1)))) * 1)) (Ois (e' := 25) (sz' := 1) (n' := List.length y0_5) (ds := flatD (encI .u32) y0_5) rfl hb28_4 hs42_7) <| Wz (.d (.lit (.int .u32 x42_7))) (Lr1 rfl (encI_len (k := .u32)) hx42_7g) <| Wz (.b (decide (x37_7 ≠ x42_7))) (Obn rfl (fun _ => hb_neq (k := .u32))) <| Wdr <| Tk 17592186044473 1 ⟨.own 0::tp 2 (.i y3_5::.sub 0 ((Int.toNat y3_1) * 1) (List.length p0 - (Int.toNat y3_1) - 1 + 1)::.i y5_5::tp 38 (.b (decide (x37_7 ≠ x42_7))::tp 16 [])), [(.arr 25 1 (List.length y0_5) (flatD (encI .u32) y0_5))], 1⟩ ?_
       rcases tf_ (decide (x37_7 ≠ x42_7)) with hc44_15 | hc44_15
       ·
        replace hm := cT hc44_15 hm
        refine AiT hc44_15 <| Sx <| Wm (.own 0) rfl <| Wm (.i y3_5) rfl <| Wm (.sub 0 ((Int.toNat y3_1) * 1) (List.length p0 - (Int.toNat y3_1) - 1 + 1)) rfl <| Wm (.i y5_5) rfl ?_
        obtain ⟨hs49_8, hm⟩ := chk_some hm
        obtain ⟨x49_8, hx49_8, hm⟩ := bnd hm
        obtain ⟨hx49_8i, hx49_8g⟩ := geti_some hx49_8
        refine Wz (.loc 0 ((Int.toNat (y3_1 + y5_5)) * 1)) (Ois (e' := 25) (sz' := 1) (n' := List.length y0_5) (ds := flatD (encI .u32) y0_5) rfl hb28_4 hs49_8) <| Wz (.d (.lit (.int .u32 x49_8))) (Lr1 rfl (encI_len (k := .u32)) hx49_8g) ?_
        obtain ⟨x51_8, hx51_8, hm⟩ := bnd hm
        obtain ⟨hx51_8i, hx51_8g⟩ := geti_some hx51_8
        refine Wz (.loc 0 ((Int.toNat y3_5) * 1)) (Oia rfl (encI_len (k := .u32)) hx51_8i hx51_8g) <| Wy (.tup []) [(0, (.arr 25 1 (List.length (List.set y0_5 (Int.toNat y3_5) x49_8)) (flatD (encI .u32) (List.set y0_5 (Int.toNat y3_5) x49_8))))] (Osr 0 rfl (encI_len (k := .u32)) hx51_8g x49_8) <| Nk 57 1 ⟨.own 0::tp 2 (.i y3_5::.sub 0 ((Int.toNat y3_1) * 1) (List.length p0 - (Int.toNat y3_1) - 1 + 1)::.i y5_5::tp 55 []), [(.arr 25 1 (List.length (List.set y0_5 (Int.toNat y3_5) x49_8)) (flatD (encI .u32) (List.set y0_5 (Int.toNat y3_5) x49_8)))], 1⟩ <| Tx <| Wm (.i y3_5) rfl <| Wz (.i (W6 (y3_5 + 1))) (Obn rfl (fun _ => hb_add (k := .i64))) <| Wm (.i (W6 (y3_5 + 1))) rfl <| Wn0 <| Ino <| Tk 57 1 ⟨.own 0::tp 2 (.i (W6 (y3_5 + 1))::.sub 0 ((Int.toNat y3_1) * 1) (List.length p0 - (Int.toNat y3_1) - 1 + 1)::.i y5_5::tp 55 []), [(.arr 25 1 (List.length (List.set y0_5 (Int.toNat y3_5) x49_8)) (flatD (encI .u32) (List.set y0_5 (Int.toNat y3_5) x49_8)))], 1⟩ <| Tx <| Wm (.i y5_5) rfl <| Wz (.i (W6 (y5_5 + 1))) (Obn rfl (fun _ => hb_add (k := .i64))) <| Wm (.i (W6 (y5_5 + 1))) rfl ?_
        refine Wn0 <| RoundK.normal ?_
        exact Rounds.weak (Weak.toK 57 0 0 [0]) (ih_5 (fu_5, (List.set y0_5 (Int.toNat y3_5) x49_8), (W6 (y3_5 + 1)), (W6 (y5_5 + 1))) hm (Nat.lt_succ_self _))
       ·
        replace hm := cF hc44_15 hm
        refine AiF hc44_15 <| Sk <| Ino <| Tk 57 1 ⟨.own 0::tp 2 (.i y3_5::.sub 0 ((Int.toNat y3_1) * 1) (List.length p0 - (Int.toNat y3_1) - 1 + 1)::.i y5_5::tp 55 []), [(.arr 25 1 (List.length y0_5) (flatD (encI .u32) y0_5))], 1⟩ <| Tx <| Wm (.i y5_5) rfl <| Wz (.i (W6 (y5_5 + 1))) (Obn rfl (fun _ => hb_add (k := .i64))) <| Wm (.i (W6 (y5_5 + 1))) rfl <| Wn0 <| RoundK.normal ?_
        exact Rounds.weak (Weak.toK 57 0 0 [0]) (ih_5 (fu_5, y0_5, y3_5, (W6 (y5_5 + 1))) hm (Nat.lt_succ_self _))
      ·
       replace hm := cF hc32_14 hm
       refine AiF hc32_14 <| AWP.exit <| Then.exit <| RoundK.exit <| InBlock.same <| Tk 9 1 ⟨.own 0::tp 2 (.i y3_5::tp 57 []), [(.arr 25 1 (List.length y0_5) (flatD (encI .u32) y0_5))], 1⟩ <| Sx <| Wm (.own 0) rfl <| Wm (.i y3_5) rfl ?_
       obtain ⟨hb56_9, hm⟩ := chk_some hm
       refine Wz (.sub 0 ((Int.toNat y3_5) * 1) (List.length y0_5 - (Int.toNat y3_5) - 1 + 1)) (Osb rfl (e := 25) (k := .i64) (iv := y3_5) (encI_len (k := .u32)) (by omega) (by omega)) <| Wy (.tup []) [(0, (.arr 25 1 (List.length (clr y0_5 (Int.toNat y3_5) (0 : Int))) (flatD (encI .u32) (clr y0_5 (Int.toNat y3_5) (0 : Int)))))] (Ocl rfl elemOK_22 (encI_len (k := .u32)) (by omega)) <| Nk 9 1 ⟨.own 0::tp 2 (.i y3_5::tp 57 []), [(.arr 25 1 (List.length (clr y0_5 (Int.toNat y3_5) (0 : Int))) (flatD (encI .u32) (clr y0_5 (Int.toNat y3_5) (0 : Int))))], 1⟩ <| Sq <| Afz [0] ⟨.l (encI .u32) (clr y0_5 (Int.toNat y3_5) (0 : Int))::tp 2 (.i y3_5::tp 57 []), [(.fro 25 1 (List.length (clr y0_5 (Int.toNat y3_5) (0 : Int))) (flatD (encI .u32) (clr y0_5 (Int.toNat y3_5) (0 : Int))))], 1⟩ <| Tx <| Wm (.l (encI .u32) (clr y0_5 (Int.toNat y3_5) (0 : Int))) rfl <| Wm (.i y3_5) rfl ?_
       obtain ⟨s59_10, hs59_10, hm⟩ := bnd hm; obtain ⟨hs59_10a, hs59_10b, hs59_10c, hs59_10d, hs59_10e⟩ := cut_some hs59_10
       refine Wz (.l (encI .u32) s59_10) (op_cut rfl (e := 25) (sz := 1) (by kernel_rfl) (l := (clr y0_5 (Int.toNat y3_5) (0 : Int))) (enc := (encI .u32)) (by kernel_rfl) (encI_len (k := .u32)) (a := (Int.toNat 0)) (b := (Int.toNat y3_5)) (by exact rfl) (⟨.i64, y3_5, by kernel_rfl, hs59_10b⟩) hs59_10c hs59_10d hs59_10e) <| Wm (.l (encI .u32) s59_10) rfl <| Nn <| Ago 0 ⟨.l (encI .u32) (clr y0_5 (Int.toNat y3_5) (0 : Int))::tp 1 (.l (encI .u32) s59_10::.i y3_5::tp 53 (.l (encI .u32) (clr y0_5 (Int.toNat y3_5) (0 : Int))::.i y3_5::.l (encI .u32) s59_10::tp 1 [])), [.gone], 1⟩ <| Rt <| Ir <| Tr <| RoundK.ret <| Ir <| Tr ?_
       obtain rfl := Option.some.inj hm
       exact ret_i [0]
    ·
     replace hm := cF hc25_13 hm
     refine AiF hc25_13 <| Sk <| Ino <| Tk 9 1 ⟨.own 0::tp 2 (.i y3_1::tp 57 []), [(.arr 25 1 (List.length p0) (flatD (encI .u32) p0))], 1⟩ <| Tx <| Wm (.i y3_1) rfl <| Wz (.i (W6 (y3_1 + 1))) (Obn rfl (fun _ => hb_add (k := .i64))) <| Wm (.i (W6 (y3_1 + 1))) rfl <| Wn0 <| RoundK.normal ?_
     exact Rounds.weak (Weak.toK 9 0 0 [0]) (ih_1 (fu_1, (W6 (y3_1 + 1))) hm (Nat.lt_succ_self _))
   ·
    replace hm := cF hc13_12 hm
    refine AiF hc13_12 <| AWP.exit <| Then.exit <| RoundK.exit <| InBlock.same <| Tk 1 1 ⟨.own 0::tp 60 [], [(.arr 25 1 (List.length p0) (flatD (encI .u32) p0))], 1⟩ <| Sx <| Wm (.own 0) rfl <| Wm (.own 0) rfl <| Nn <| Afz [0] ⟨.l (encI .u32) p0::tp 1 (.l (encI .u32) p0::tp 57 (.l (encI .u32) p0::[])), [(.fro 25 1 (List.length p0) (flatD (encI .u32) p0))], 1⟩ <| Ago 0 ⟨.l (encI .u32) p0::tp 1 (.l (encI .u32) p0::tp 57 (.l (encI .u32) p0::[])), [.gone], 1⟩ <| Rt ?_
    obtain rfl := Option.some.inj hm
    exact ret_i [0]

theorem ok_trail_Merge (p0 : (List Int)) (p1 : (List Int)) (r : (List Int)) (h : m_trail_Merge p0 p1 = some r) : GCall Try.prog 6 [(.l (encI .u32) p0), (.l (encI .u32) p1)] [] (.l (encI .u32) r) [] := by
 refine GCall.of_body (n := 14) (rs := [(.tmp 4)]) Try.func6 rfl rfl rfl <| Ato ⟨.l (encI .u32) p0::.l (encI .u32) p1::tu 12 [], [], 0⟩ ?_
 have hm := h
 unfold m_trail_Merge at hm
 refine Sx <| Wm (.d .nil) rfl <| Nk 3 0 ⟨.l (encI .u32) p0::.l (encI .u32) p1::tp 12 [], [], 0⟩ <| Sx <| Wm (.l (encI .u32) p0) rfl <| Wm (.l (encI .u32) p1) rfl <| Wy (.own 0) [(0, (.arr 22 1 (List.length ([p0, p1] : List (List Int))) (flatD (encL (encI .u32)) ([p0, p1] : List (List Int)))))] (Obs rfl) ?_
 obtain ⟨r9_0, hr9_0, hm⟩ := bnd hm
 refine Wy (.own 1) [(1, (.arr 25 1 (List.length r9_0) (flatD (encI .u32) r9_0)))] (Ocp [] [1] [0] 0 (ok_slices_Concat_uint32 ([p0, p1] : List (List Int)) r9_0 hr9_0) (⟨by simp [A.Plain, A.Plains, D.Plain, byteD], plain_cons (flat_plain (encI_plain (k := .u32))) (plain_nil)⟩) (fun a w => Try.call19 a w) rfl trivial) <| Wm (.own 1) rfl <| Nk 32 2 ⟨tp 5 (.own 1::tp 8 []), [.gone, (.arr 25 1 (List.length r9_0) (flatD (encI .u32) r9_0))], 0⟩ <| Sx <| Wm (.own 1) rfl ?_
 obtain ⟨r11_1, hr11_1, hm⟩ := bnd hm
 refine Wy (.tup []) [(1, (.arr 25 1 (List.length r11_1) (flatD (encI .u32) r11_1)))] (Ocf [1] [] [] 0 (ok_slices_Sort_uint32 r9_0 r11_1 hr11_1) (fun a w => Try.call20 a w) rfl ⟨rfl, trivial⟩) <| Nk 32 2 ⟨tp 5 (.own 1::tp 8 []), [.gone, (.arr 25 1 (List.length r11_1) (flatD (encI .u32) r11_1))], 0⟩ <| Sx <| Wm (.own 1) rfl ?_
 obtain ⟨r13_2, hr13_2, hm⟩ := bnd hm
 refine Wy (.l (encI .u32) r13_2) [(1, .gone)] (Ocf [1] [] [] 0 (ok_slices_Compact_uint32 r11_1 r13_2 hr13_2) (fun a w => Try.call21 a w) rfl ⟨rfl, trivial⟩) <| Wm (.l (encI .u32) r13_2) rfl <| Nn <| Rt ?_
 obtain rfl := Option.some.inj hm
 exact ret_i []
end Go.Proofs.Ytelhmhmgaaebpaa.K
