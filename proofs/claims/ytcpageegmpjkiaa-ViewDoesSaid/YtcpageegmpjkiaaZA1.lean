/- what telltalelaw29.ViewDoes needs (1) -/
import Derived.Test.YtcpageegmpjkiaaZA0
set_option linter.unusedVariables false
set_option linter.unusedSimpArgs false
namespace Go.Proofs.Ytcpageegmpjkiaa.K
open Go.RowKit Go.Lib
set_option maxRecDepth 20000
set_option maxHeartbeats 4000000

theorem ok_view_Net_Idle (p0 : GNet) (r : Bool) (h : m_view_Net_Idle p0 = some r) : GCall Try.prog 21 [(.agg [(.i p0.Cap), (.l (encL enc_GChange) p0.Views), (.l (encL enc_GChange) p0.Pending), (.d (.mp (Option.isNone p0.Links) (mks kv_22 (ml p0.Links)) (mds (slD (encL enc_GChange)) (ml p0.Links))))])] [] (.b r) [] := by
 refine GCall.of_body (n := 15) (rs := [(.tmp 2)]) Try.func21 rfl rfl rfl <| Ato ⟨.agg [(.i p0.Cap), (.l (encL enc_GChange) p0.Views), (.l (encL enc_GChange) p0.Pending), (.d (.mp (Option.isNone p0.Links) (mks kv_22 (ml p0.Links)) (mds (slD (encL enc_GChange)) (ml p0.Links))))]::tu 14 [], [], 0⟩ ?_
 have hm := h
 unfold m_view_Net_Idle at hm
 refine Sx <| Wy (.loc 0 0) [(0, (.box [(.i p0.Cap), (.l (encL enc_GChange) p0.Views), (.l (encL enc_GChange) p0.Pending), (.d (.mp (Option.isNone p0.Links) (mks kv_22 (ml p0.Links)) (mds (slD (encL enc_GChange)) (ml p0.Links))))]))] (Obx rfl) <| Wm (.b false) rfl <| Nk 2 1 ⟨tp 1 (.loc 0 0::tp 13 []), [(.box [(.i p0.Cap), (.l (encL enc_GChange) p0.Views), (.l (encL enc_GChange) p0.Pending), (.d (.mp (Option.isNone p0.Links) (mks kv_22 (ml p0.Links)) (mds (slD (encL enc_GChange)) (ml p0.Links))))])], 0⟩ <| Sx <| Wz (.loc 0 2) (Ofa rfl) <| Wz (.l (encL enc_GChange) p0.Pending) (Old rfl) ?_
 obtain ⟨r6_0, hr6_0, hm⟩ := bnd hm
 refine Wz (.b r6_0) (Ocf [] [] [] 0 (ok_slices_ContainsFunc_tally_Change_tally_Change__view_Net_Idle_1 p0.Pending r6_0 hr6_0) (fun a w => Try.call46 a w) rfl trivial) <| Wm (.b r6_0) rfl <| Nk 10 1 ⟨tp 1 (.loc 0 0::tp 1 (.b r6_0::tp 11 [])), [(.box [(.i p0.Cap), (.l (encL enc_GChange) p0.Views), (.l (encL enc_GChange) p0.Pending), (.d (.mp (Option.isNone p0.Links) (mks kv_22 (ml p0.Links)) (mds (slD (encL enc_GChange)) (ml p0.Links))))])], 0⟩ <| Sx <| Wm (.b r6_0) rfl <| Wz (.b (!r6_0)) (Ocs (by kernel_rfl) (op_un rfl (a1 := .bool r6_0) (by kernel_rfl) (fun _ => hu_not))) ?_
 rcases tf_ (!r6_0) with hq9_1 | hq9_1
 ·
  replace hm := cT hq9_1 hm
  refine Wz (.b true) (Oq hq9_1 rfl) <| Wz (.loc 0 3) (Ofa rfl) <| Wz (.d (.mp (Option.isNone p0.Links) (mks kv_22 (ml p0.Links)) (mds (slD (encL enc_GChange)) (ml p0.Links)))) (Old rfl) <| Wz (.i ((List.length (ml p0.Links) : Nat) : Int)) (Mml (kv := kv_22) (ev := (slD (encL enc_GChange))) (ml p0.Links) rfl) <| Wz (.b (decide (((List.length (ml p0.Links) : Nat) : Int) = 0))) (Obn rfl (fun _ => hb_eql (k := .i64))) <| Wz (.b (decide (((List.length (ml p0.Links) : Nat) : Int) = 0))) (OpT rfl) <| Wm (.b (decide (((List.length (ml p0.Links) : Nat) : Int) = 0))) rfl <| Nn <| Rt ?_
  obtain rfl := Option.some.inj hm
  exact ret_i []
 ·
  replace hm := cF hq9_1 hm
  refine Wz (.b false) (Oq hq9_1 rfl) <| Wn <| Wn <| Wn <| Wn <| Wz (.b false) (OpF rfl) <| Wm (.b false) rfl <| Nn <| Rt ?_
  obtain rfl := Option.some.inj hm
  exact ret_i []

theorem ok_slices_Equal_Change (p0 : (List GChange)) (p1 : (List GChange)) (r : Bool) (h : m_slices_Equal_Change p0 p1 = some r) : GCall Try.prog 57 [(.l enc_GChange p0), (.l enc_GChange p1)] [] (.b r) [] := by
 refine GCall.of_body (n := 26) (rs := [(.tmp 4)]) Try.func57 rfl rfl rfl <| Ato ⟨.l enc_GChange p0::.l enc_GChange p1::tu 24 [], [], 0⟩ ?_
 have hm := h
 unfold m_slices_Equal_Change at hm
 refine Sx <| Wm (.b false) rfl <| Nk 3 0 ⟨.l enc_GChange p0::.l enc_GChange p1::tp 24 [], [], 0⟩ <| Sq <| Sx <| Wm (.l enc_GChange p0) rfl <| Wz (.i ((List.length p0 : Nat) : Int)) (Oln rfl) <| Wm (.l enc_GChange p1) rfl <| Wz (.i ((List.length p1 : Nat) : Int)) (Oln rfl) <| Wz (.b (decide (((List.length p0 : Nat) : Int) ≠ ((List.length p1 : Nat) : Int)))) (Obn rfl (fun _ => hb_neq (k := .i64))) <| Nk 1027 0 ⟨.l enc_GChange p0::.l enc_GChange p1::tp 8 (.b (decide (((List.length p0 : Nat) : Int) ≠ ((List.length p1 : Nat) : Int)))::tp 15 []), [], 0⟩ ?_
 rcases tf_ (decide (((List.length p0 : Nat) : Int) ≠ ((List.length p1 : Nat) : Int))) with hc10_4 | hc10_4
 ·
  replace hm := cT hc10_4 hm
  refine AiT hc10_4 <| Sx <| Wm (.b false) rfl <| Nn <| Rt <| Tr ?_
  obtain rfl := Option.some.inj hm
  exact ret_i []
 ·
  replace hm := cF hc10_4 hm
  refine AiF hc10_4 <| Sk <| Tk 3 0 ⟨.l enc_GChange p0::.l enc_GChange p1::tp 24 [], [], 0⟩ <| Sq <| Sx <| Wm (.l enc_GChange p0) rfl <| Wz (.i ((List.length p0 : Nat) : Int)) (Oln rfl) <| Wm (.i 0) rfl <| Nk 12291 0 ⟨.l enc_GChange p0::.l enc_GChange p1::tp 10 (.i ((List.length p0 : Nat) : Int)::.i 0::tp 12 []), [], 0⟩ <| Bk ?_
  refine AWP.loopI (α := Nat × Int)
    (fun (fu_2, y13_2) => (⟨.l enc_GChange p0::.l enc_GChange p1::tp 10 (.i ((List.length p0 : Nat) : Int)::.i y13_2::tp 12 []), [], 0⟩ : St))
    (fun (fu_2, y13_2) => m_slices_Equal_Change_l2 p0 p1 fu_2 y13_2 = some r)
    (fun (fu_2, y13_2) => fu_2) (1152921504606846976, 0)
    (Weak.toK 12291 0 0 []) hm ?_
  rintro ⟨fu_2, y13_2⟩ n_2 hm ih_2
  try dsimp only at hm ih_2 ⊢
  cases fu_2 with
  | zero => exact absurd hm (by unfold m_slices_Equal_Change_l2; simp)
  | succ fu_2 =>
   unfold m_slices_Equal_Change_l2 at hm
   refine Sx <| Wz (.b (decide (y13_2 < ((List.length p0 : Nat) : Int)))) (Obn rfl (fun _ => hb_lss (k := .i64))) <| Nk 28675 0 ⟨.l enc_GChange p0::.l enc_GChange p1::tp 10 (.i ((List.length p0 : Nat) : Int)::.i y13_2::.b (decide (y13_2 < ((List.length p0 : Nat) : Int)))::tp 11 []), [], 0⟩ <| Sq ?_
   rcases tf_ (decide (y13_2 < ((List.length p0 : Nat) : Int))) with hc14_5 | hc14_5
   ·
    replace hm := cT hc14_5 hm
    refine AiT hc14_5 <| Sk <| Tk 12291 0 ⟨.l enc_GChange p0::.l enc_GChange p1::tp 10 (.i ((List.length p0 : Nat) : Int)::.i y13_2::tp 12 []), [], 0⟩ <| Sq <| Bk <| Sx <| Wm (.i y13_2) rfl <| Wm (.i y13_2) rfl <| Nk 12323 0 ⟨.l enc_GChange p0::.l enc_GChange p1::tp 3 (.i y13_2::tp 6 (.i ((List.length p0 : Nat) : Int)::.i y13_2::tp 12 [])), [], 0⟩ <| Sq <| Adr <| Wm (.l enc_GChange p0) rfl <| Wm (.i y13_2) rfl ?_
    obtain ⟨x18_3, hx18_3, hm⟩ := bnd hm
    obtain ⟨hx18_3i, hx18_3g⟩ := geti_some hx18_3
    refine Wz (.d (.ref (List.drop ((Int.toNat y13_2) * 3) (flatD enc_GChange p0)))) (Oia rfl enc_GChange_len hx18_3i hx18_3g) <| Wz (.agg [(.i x18_3.Loc), (.i x18_3.Time), (.i x18_3.N)]) (Lf rfl enc_GChange_len hx18_3g) <| Wm (.l enc_GChange p1) rfl <| Wm (.i y13_2) rfl ?_
    obtain ⟨x22_3, hx22_3, hm⟩ := bnd hm
    obtain ⟨hx22_3i, hx22_3g⟩ := geti_some hx22_3
    refine Wz (.d (.ref (List.drop ((Int.toNat y13_2) * 3) (flatD enc_GChange p1)))) (Oia rfl enc_GChange_len hx22_3i hx22_3g) <| Wz (.agg [(.i x22_3.Loc), (.i x22_3.Time), (.i x22_3.N)]) (Lf rfl enc_GChange_len hx22_3g) ?_
    obtain ⟨v24_3, hv24_3, hm⟩ := bnd hm; replace hv24_3 := Option.some.inj hv24_3
    refine Wz (.b v24_3) (Ocs (Eq.trans (by kernel_rfl) (congrArg (fun z => A.d (.lit (.bool z))) hv24_3)) (op_neq_struct rfl (la := [(.i x18_3.Loc), (.i x18_3.Time), (.i x18_3.N)]) (lb := [(.i x22_3.Loc), (.i x22_3.Time), (.i x22_3.N)]) (us := [.int .i64 x18_3.Loc, .int .i64 x18_3.Time, .int .i64 x18_3.N]) (vs := [.int .i64 x22_3.Loc, .int .i64 x22_3.Time, .int .i64 x22_3.N]) (r := (decide (x18_3.Loc = x22_3.Loc) && (decide (x18_3.Time = x22_3.Time) && (decide (x18_3.N = x22_3.N) && true)))) (by kernel_rfl) (by kernel_rfl) (by kernel_rfl) (by kernel_rfl) (by kernel_rfl))) <| Wdr <| Tk 16789507 0 ⟨.l enc_GChange p0::.l enc_GChange p1::tp 10 (.i ((List.length p0 : Nat) : Int)::.i y13_2::tp 10 (.b v24_3::tp 1 [])), [], 0⟩ ?_
    rcases tf_ v24_3 with hc24_6 | hc24_6
    ·
     replace hm := cT hc24_6 hm
     refine AiT hc24_6 <| Sx <| Wm (.b false) rfl <| Nn <| Rt <| Ir <| Tr <| RoundK.ret <| Ir <| Tr ?_
     obtain rfl := Option.some.inj hm
     exact ret_i []
    ·
     replace hm := cF hc24_6 hm
     refine AiF hc24_6 <| Sk <| Ino <| Tk 12291 0 ⟨.l enc_GChange p0::.l enc_GChange p1::tp 10 (.i ((List.length p0 : Nat) : Int)::.i y13_2::tp 12 []), [], 0⟩ <| Tx <| Wz (.i (W6 (y13_2 + 1))) (Obn rfl (fun _ => hb_add (k := .i64))) <| Wm (.i (W6 (y13_2 + 1))) rfl <| Wn0 <| RoundK.normal ?_
     exact Rounds.weak (Weak.toK 12291 0 0 []) (ih_2 (fu_2, (W6 (y13_2 + 1))) hm (Nat.lt_succ_self _))
   ·
    replace hm := cF hc14_5 hm
    refine AiF hc14_5 <| AWP.exit <| Then.exit <| RoundK.exit <| InBlock.same <| Tk 0 0 ⟨tp 26 [], [], 0⟩ <| Sx <| Wm (.b true) rfl <| Nn <| Rt ?_
    obtain rfl := Option.some.inj hm
    exact ret_i []

theorem ok_tally_Same (p0 : (List GChange)) (p1 : (List GChange)) (r : Bool) (h : m_tally_Same p0 p1 = some r) : GCall Try.prog 32 [(.l enc_GChange p0), (.l enc_GChange p1)] [] (.b r) [] := by
 refine GCall.of_body (n := 8) (rs := [(.tmp 4)]) Try.func32 rfl rfl rfl <| Ato ⟨.l enc_GChange p0::.l enc_GChange p1::tu 6 [], [], 0⟩ ?_
 have hm := h
 unfold m_tally_Same at hm
 refine Sx <| Wm (.b false) rfl <| Nk 3 0 ⟨.l enc_GChange p0::.l enc_GChange p1::tp 6 [], [], 0⟩ <| Sx <| Wm (.l enc_GChange p0) rfl <| Wm (.l enc_GChange p1) rfl ?_
 obtain ⟨r7_0, hr7_0, hm⟩ := bnd hm
 refine Wz (.b r7_0) (Ocf [] [] [] 0 (ok_slices_Equal_Change p0 p1 r7_0 hr7_0) (fun a w => Try.call57 a w) rfl trivial) <| Wm (.b r7_0) rfl <| Nn <| Rt ?_
 obtain rfl := Option.some.inj hm
 exact ret_i []

theorem ok_slices_EqualFunc_tally_Change_tally_Change_tally_Change_tally_Change__tally_Same (p0 : (List (List GChange))) (p1 : (List (List GChange))) (r : Bool) (h : m_slices_EqualFunc_tally_Change_tally_Change_tally_Change_tally_Change__tally_Same p0 p1 = some r) : GCall Try.prog 73 [(.l (encL enc_GChange) p0), (.l (encL enc_GChange) p1), (.clo (.func 32) [] [])] [] (.b r) [] := by
 refine GCall.of_body (n := 32) (rs := [(.tmp 6)]) Try.func73 rfl rfl rfl <| Ato ⟨.l (encL enc_GChange) p0::.l (encL enc_GChange) p1::.clo (.func 32) [] []::tu 29 [], [], 0⟩ ?_
 have hm := h
 unfold m_slices_EqualFunc_tally_Change_tally_Change_tally_Change_tally_Change__tally_Same at hm
 refine Sx <| Wm (.b false) rfl <| Nk 7 0 ⟨.l (encL enc_GChange) p0::.l (encL enc_GChange) p1::.clo (.func 32) [] []::tp 29 [], [], 0⟩ <| Sq <| Sx <| Wm (.l (encL enc_GChange) p0) rfl <| Wz (.i ((List.length p0 : Nat) : Int)) (Oln rfl) <| Wm (.l (encL enc_GChange) p1) rfl <| Wz (.i ((List.length p1 : Nat) : Int)) (Oln rfl) <| Wz (.b (decide (((List.length p0 : Nat) : Int) ≠ ((List.length p1 : Nat) : Int)))) (Obn rfl (fun _ => hb_neq (k := .i64))) <| Nk 16391 0 ⟨.l (encL enc_GChange) p0::.l (encL enc_GChange) p1::.clo (.func 32) [] []::tp 11 (.b (decide (((List.length p0 : Nat) : Int) ≠ ((List.length p1 : Nat) : Int)))::tp 17 []), [], 0⟩ ?_
 rcases tf_ (decide (((List.length p0 : Nat) : Int) ≠ ((List.length p1 : Nat) : Int))) with hc14_6 | hc14_6
 ·
  replace hm := cT hc14_6 hm
  refine AiT hc14_6 <| Sx <| Wm (.b false) rfl <| Nn <| Rt <| Tr ?_
  obtain rfl := Option.some.inj hm
  exact ret_i []
 ·
  replace hm := cF hc14_6 hm
  refine AiF hc14_6 <| Sk <| Tk 7 0 ⟨.l (encL enc_GChange) p0::.l (encL enc_GChange) p1::.clo (.func 32) [] []::tp 29 [], [], 0⟩ <| Sq <| Sx <| Wm (.l (encL enc_GChange) p0) rfl <| Wz (.i ((List.length p0 : Nat) : Int)) (Oln rfl) <| Wm (.i 0) rfl <| Nk 229382 0 ⟨tp 1 (.l (encL enc_GChange) p1::.clo (.func 32) [] []::tp 12 (.l (encL enc_GChange) p0::.i ((List.length p0 : Nat) : Int)::.i 0::tp 14 [])), [], 0⟩ <| Bk ?_
  refine AWP.loopI (α := Nat × Int)
    (fun (fu_2, y17_2) => (⟨tp 1 (.l (encL enc_GChange) p1::.clo (.func 32) [] []::tp 12 (.l (encL enc_GChange) p0::.i ((List.length p0 : Nat) : Int)::.i y17_2::tp 14 [])), [], 0⟩ : St))
    (fun (fu_2, y17_2) => m_slices_EqualFunc_tally_Change_tally_Change_tally_Change_tally_Change__tally_Same_l2 p0 p1 fu_2 y17_2 = some r)
    (fun (fu_2, y17_2) => fu_2) (1152921504606846976, 0)
    (Weak.toK 229382 0 0 []) hm ?_
  rintro ⟨fu_2, y17_2⟩ n_2 hm ih_2
  try dsimp only at hm ih_2 ⊢
  cases fu_2 with
  | zero => exact absurd hm (by unfold m_slices_EqualFunc_tally_Change_tally_Change_tally_Change_tally_Change__tally_Same_l2; simp)
  | succ fu_2 =>
   unfold m_slices_EqualFunc_tally_Change_tally_Change_tally_Change_tally_Change__tally_Same_l2 at hm
   refine Sx <| Wz (.b (decide (y17_2 < ((List.length p0 : Nat) : Int)))) (Obn rfl (fun _ => hb_lss (k := .i64))) <| Nk 491526 0 ⟨tp 1 (.l (encL enc_GChange) p1::.clo (.func 32) [] []::tp 12 (.l (encL enc_GChange) p0::.i ((List.length p0 : Nat) : Int)::.i y17_2::.b (decide (y17_2 < ((List.length p0 : Nat) : Int)))::tp 13 [])), [], 0⟩ <| Sq ?_
   rcases tf_ (decide (y17_2 < ((List.length p0 : Nat) : Int))) with hc18_7 | hc18_7
   ·
    replace hm := cT hc18_7 hm
    refine AiT hc18_7 <| Sk <| Tk 229382 0 ⟨tp 1 (.l (encL enc_GChange) p1::.clo (.func 32) [] []::tp 12 (.l (encL enc_GChange) p0::.i ((List.length p0 : Nat) : Int)::.i y17_2::tp 14 [])), [], 0⟩ <| Sq <| Bk <| Sx <| Wm (.i y17_2) rfl ?_
    obtain ⟨x20_3, hx20_3, hm⟩ := bnd hm
    obtain ⟨hx20_3i, hx20_3g⟩ := geti_some hx20_3
    refine Wz (.d (.ref (List.drop ((Int.toNat y17_2) * 1) (flatD (encL enc_GChange) p0)))) (Oia rfl (encL_len (enc := enc_GChange)) hx20_3i hx20_3g) <| Wz (.l enc_GChange x20_3) (Lf1 rfl (encL_len (enc := enc_GChange)) hx20_3g) <| Wm (.i y17_2) rfl <| Wm (.l enc_GChange x20_3) rfl <| Nk 229766 0 ⟨tp 1 (.l (encL enc_GChange) p1::.clo (.func 32) [] []::tp 4 (.i y17_2::.l enc_GChange x20_3::tp 6 (.l (encL enc_GChange) p0::.i ((List.length p0 : Nat) : Int)::.i y17_2::tp 14 []))), [], 0⟩ <| Sx <| Wm (.l (encL enc_GChange) p1) rfl <| Wm (.i y17_2) rfl ?_
    obtain ⟨x24_4, hx24_4, hm⟩ := bnd hm
    obtain ⟨hx24_4i, hx24_4g⟩ := geti_some hx24_4
    refine Wz (.d (.ref (List.drop ((Int.toNat y17_2) * 1) (flatD (encL enc_GChange) p1)))) (Oia rfl (encL_len (enc := enc_GChange)) hx24_4i hx24_4g) <| Wz (.l enc_GChange x24_4) (Lf1 rfl (encL_len (enc := enc_GChange)) hx24_4g) <| Wm (.l enc_GChange x24_4) rfl <| Nk 230150 0 ⟨tp 1 (.l (encL enc_GChange) p1::.clo (.func 32) [] []::tp 5 (.l enc_GChange x20_3::.l enc_GChange x24_4::tp 5 (.l (encL enc_GChange) p0::.i ((List.length p0 : Nat) : Int)::.i y17_2::tp 14 []))), [], 0⟩ <| Sx <| Wm (.clo (.func 32) [] []) rfl <| Wm (.l enc_GChange x20_3) rfl <| Wm (.l enc_GChange x24_4) rfl ?_
    obtain ⟨r29_5, hr29_5, hm⟩ := bnd hm
    refine Wz (.b r29_5) (Ocf [] [] [] 0 (ok_tally_Same x20_3 x24_4 r29_5 hr29_5) (fun a w => Try.call32 a w) rfl trivial) <| Wz (.b (!r29_5)) (Ocs (by kernel_rfl) (op_un rfl (a1 := .bool r29_5) (by kernel_rfl) (fun _ => hu_not))) <| Nk 1073971206 0 ⟨tp 1 (.l (encL enc_GChange) p1::.clo (.func 32) [] []::tp 12 (.l (encL enc_GChange) p0::.i ((List.length p0 : Nat) : Int)::.i y17_2::tp 12 (.b (!r29_5)::tp 1 []))), [], 0⟩ ?_
    rcases tf_ (!r29_5) with hc30_8 | hc30_8
    ·
     replace hm := cT hc30_8 hm
     refine AiT hc30_8 <| Sx <| Wm (.b false) rfl <| Nn <| Rt <| Ir <| Tr <| RoundK.ret <| Ir <| Tr ?_
     obtain rfl := Option.some.inj hm
     exact ret_i []
    ·
     replace hm := cF hc30_8 hm
     refine AiF hc30_8 <| Sk <| Ino <| Tk 229382 0 ⟨tp 1 (.l (encL enc_GChange) p1::.clo (.func 32) [] []::tp 12 (.l (encL enc_GChange) p0::.i ((List.length p0 : Nat) : Int)::.i y17_2::tp 14 [])), [], 0⟩ <| Tx <| Wz (.i (W6 (y17_2 + 1))) (Obn rfl (fun _ => hb_add (k := .i64))) <| Wm (.i (W6 (y17_2 + 1))) rfl <| Wn0 <| RoundK.normal ?_
     exact Rounds.weak (Weak.toK 229382 0 0 []) (ih_2 (fu_2, (W6 (y17_2 + 1))) hm (Nat.lt_succ_self _))
   ·
    replace hm := cF hc18_7 hm
    refine AiF hc18_7 <| AWP.exit <| Then.exit <| RoundK.exit <| InBlock.same <| Tk 0 0 ⟨tp 32 [], [], 0⟩ <| Sx <| Wm (.b true) rfl <| Nn <| Rt ?_
    obtain rfl := Option.some.inj hm
    exact ret_i []

theorem ok_view_sameLists (p0 : (List (List GChange))) (p1 : (List (List GChange))) (r : Bool) (h : m_view_sameLists p0 p1 = some r) : GCall Try.prog 51 [(.l (encL enc_GChange) p0), (.l (encL enc_GChange) p1)] [] (.b r) [] := by
 refine GCall.of_body (n := 8) (rs := [(.tmp 4)]) Try.func51 rfl rfl rfl <| Ato ⟨.l (encL enc_GChange) p0::.l (encL enc_GChange) p1::tu 6 [], [], 0⟩ ?_
 have hm := h
 unfold m_view_sameLists at hm
 refine Sx <| Wm (.b false) rfl <| Nk 3 0 ⟨.l (encL enc_GChange) p0::.l (encL enc_GChange) p1::tp 6 [], [], 0⟩ <| Sx <| Wm (.l (encL enc_GChange) p0) rfl <| Wm (.l (encL enc_GChange) p1) rfl ?_
 obtain ⟨r7_0, hr7_0, hm⟩ := bnd hm
 refine Wz (.b r7_0) (Ocf [] [] [] 0 (ok_slices_EqualFunc_tally_Change_tally_Change_tally_Change_tally_Change__tally_Same p0 p1 r7_0 hr7_0) (fun a w => Try.call73 a w) rfl trivial) <| Wm (.b r7_0) rfl <| Nn <| Rt ?_
 obtain rfl := Option.some.inj hm
 exact ret_i []

theorem ok_maps_EqualFunc_map_2_int_tally_Change_map_2_int_tally_Change_2_int_tally_Change_tally_Change__view_sameLists (p0 : (Option (List (GArr2_Int × (List (List GChange)))))) (p1 : (Option (List (GArr2_Int × (List (List GChange)))))) (r : Bool) (h : m_maps_EqualFunc_map_2_int_tally_Change_map_2_int_tally_Change_2_int_tally_Change_tally_Change__view_sameLists p0 p1 = some r) : GCall Try.prog 52 [(.d (.mp (Option.isNone p0) (mks kv_22 (ml p0)) (mds (slD (encL enc_GChange)) (ml p0)))), (.d (.mp (Option.isNone p1) (mks kv_22 (ml p1)) (mds (slD (encL enc_GChange)) (ml p1)))), (.clo (.func 51) [] [])] [] (.b r) [] := by
  unfold m_maps_EqualFunc_map_2_int_tally_Change_map_2_int_tally_Change_2_int_tally_Change_tally_Change__view_sameLists at h
  exact call_meq keyOK_22 (fun k => ⟨_, _, rfl⟩) m_view_sameLists (fun x y r h => ok_view_sameLists x y r h) ([] : List (List GChange)) slD_zero _ _ _ _ r h

theorem ok_view_Same (p0 : GNet) (p1 : GNet) (r : Bool) (h : m_view_Same p0 p1 = some r) : GCall Try.prog 29 [(.agg [(.i p0.Cap), (.l (encL enc_GChange) p0.Views), (.l (encL enc_GChange) p0.Pending), (.d (.mp (Option.isNone p0.Links) (mks kv_22 (ml p0.Links)) (mds (slD (encL enc_GChange)) (ml p0.Links))))]), (.agg [(.i p1.Cap), (.l (encL enc_GChange) p1.Views), (.l (encL enc_GChange) p1.Pending), (.d (.mp (Option.isNone p1.Links) (mks kv_22 (ml p1.Links)) (mds (slD (encL enc_GChange)) (ml p1.Links))))])] [] (.b r) [] := by
 refine GCall.of_body (n := 31) (rs := [(.tmp 4)]) Try.func29 rfl rfl rfl <| Ato ⟨.agg [(.i p0.Cap), (.l (encL enc_GChange) p0.Views), (.l (encL enc_GChange) p0.Pending), (.d (.mp (Option.isNone p0.Links) (mks kv_22 (ml p0.Links)) (mds (slD (encL enc_GChange)) (ml p0.Links))))]::.agg [(.i p1.Cap), (.l (encL enc_GChange) p1.Views), (.l (encL enc_GChange) p1.Pending), (.d (.mp (Option.isNone p1.Links) (mks kv_22 (ml p1.Links)) (mds (slD (encL enc_GChange)) (ml p1.Links))))]::tu 29 [], [], 0⟩ ?_
 have hm := h
 unfold m_view_Same at hm
 refine Sx <| Wy (.loc 0 0) [(0, (.box [(.i p0.Cap), (.l (encL enc_GChange) p0.Views), (.l (encL enc_GChange) p0.Pending), (.d (.mp (Option.isNone p0.Links) (mks kv_22 (ml p0.Links)) (mds (slD (encL enc_GChange)) (ml p0.Links))))]))] (Obx rfl) <| Wy (.loc 1 0) [(1, (.box [(.i p1.Cap), (.l (encL enc_GChange) p1.Views), (.l (encL enc_GChange) p1.Pending), (.d (.mp (Option.isNone p1.Links) (mks kv_22 (ml p1.Links)) (mds (slD (encL enc_GChange)) (ml p1.Links))))]))] (Obx rfl) <| Wm (.b false) rfl <| Nk 12 3 ⟨tp 2 (.loc 0 0::.loc 1 0::tp 27 []), [(.box [(.i p0.Cap), (.l (encL enc_GChange) p0.Views), (.l (encL enc_GChange) p0.Pending), (.d (.mp (Option.isNone p0.Links) (mks kv_22 (ml p0.Links)) (mds (slD (encL enc_GChange)) (ml p0.Links))))]), (.box [(.i p1.Cap), (.l (encL enc_GChange) p1.Views), (.l (encL enc_GChange) p1.Pending), (.d (.mp (Option.isNone p1.Links) (mks kv_22 (ml p1.Links)) (mds (slD (encL enc_GChange)) (ml p1.Links))))])], 0⟩ <| Sx <| Wz (.loc 0 0) (Ofa rfl) <| Wz (.i p0.Cap) (Old rfl) <| Wz (.loc 1 0) (Ofa rfl) <| Wz (.i p1.Cap) (Old rfl) <| Wz (.b (decide (p0.Cap = p1.Cap))) (Obn rfl (fun _ => hb_eql (k := .i64))) ?_
 rcases tf_ (decide (p0.Cap = p1.Cap)) with hq10_0 | hq10_0
 ·
  replace hm := cT hq10_0 hm
  refine Wz (.b true) (Oq hq10_0 rfl) <| Wz (.loc 0 1) (Ofa rfl) <| Wz (.l (encL enc_GChange) p0.Views) (Old rfl) <| Wz (.loc 1 1) (Ofa rfl) <| Wz (.l (encL enc_GChange) p1.Views) (Old rfl) ?_
  obtain ⟨r15_0, hr15_0, hm⟩ := bnd hm
  refine Wz (.b r15_0) (Ocf [] [] [] 0 (ok_view_sameLists p0.Views p1.Views r15_0 hr15_0) (fun a w => Try.call51 a w) rfl trivial) <| Wz (.b r15_0) (OpT rfl) ?_
  rcases tf_ r15_0 with hq17_0 | hq17_0
  ·
   replace hm := cT hq17_0 hm
   refine Wz (.b true) (Oq hq17_0 rfl) <| Wz (.loc 0 2) (Ofa rfl) <| Wz (.l (encL enc_GChange) p0.Pending) (Old rfl) <| Wz (.loc 1 2) (Ofa rfl) <| Wz (.l (encL enc_GChange) p1.Pending) (Old rfl) ?_
   obtain ⟨r22_0, hr22_0, hm⟩ := bnd hm
   refine Wz (.b r22_0) (Ocf [] [] [] 0 (ok_view_sameLists p0.Pending p1.Pending r22_0 hr22_0) (fun a w => Try.call51 a w) rfl trivial) <| Wz (.b r22_0) (OpT rfl) ?_
   rcases tf_ r22_0 with hq24_0 | hq24_0
   ·
    replace hm := cT hq24_0 hm
    refine Wz (.b true) (Oq hq24_0 rfl) <| Wz (.loc 0 3) (Ofa rfl) <| Wz (.d (.mp (Option.isNone p0.Links) (mks kv_22 (ml p0.Links)) (mds (slD (encL enc_GChange)) (ml p0.Links)))) (Old rfl) <| Wz (.loc 1 3) (Ofa rfl) <| Wz (.d (.mp (Option.isNone p1.Links) (mks kv_22 (ml p1.Links)) (mds (slD (encL enc_GChange)) (ml p1.Links)))) (Old rfl) ?_
    obtain ⟨r29_0, hr29_0, hm⟩ := bnd hm
    refine Wz (.b r29_0) (Ocf [] [] [] 0 (ok_maps_EqualFunc_map_2_int_tally_Change_map_2_int_tally_Change_2_int_tally_Change_tally_Change__view_sameLists p0.Links p1.Links r29_0 hr29_0) (fun a w => Try.call52 a w) rfl trivial) <| Wz (.b r29_0) (OpT rfl) <| Wm (.b r29_0) rfl <| Nn <| Rt ?_
    obtain rfl := Option.some.inj hm
    exact ret_i []
   ·
    replace hm := cF hq24_0 hm
    refine Wz (.b false) (Oq hq24_0 rfl) <| Wn <| Wn <| Wn <| Wn <| Wn <| Wz (.b false) (OpF rfl) <| Wm (.b false) rfl <| Nn <| Rt ?_
    obtain rfl := Option.some.inj hm
    exact ret_i []
  ·
   replace hm := cF hq17_0 hm
   refine Wz (.b false) (Oq hq17_0 rfl) <| Wn <| Wn <| Wn <| Wn <| Wn <| Wz (.b false) (OpF rfl) <| Wm (.b false) rfl <| Wn <| Wn <| Wn <| Wn <| Wn <| Wz (.b false) (OpF rfl) ?_
   refine Wm (.b false) rfl <| Nn <| Rt ?_
   obtain rfl := Option.some.inj hm
   exact ret_i []
 ·
  replace hm := cF hq10_0 hm
  refine Wz (.b false) (Oq hq10_0 rfl) <| Wn <| Wn <| Wn <| Wn <| Wn <| Wz (.b false) (OpF rfl) <| Wm (.b false) rfl <| Wn <| Wn <| Wn <| Wn <| Wn <| Wz (.b false) (OpF rfl) ?_
  refine Wm (.b false) rfl <| Wn <| Wn <| Wn <| Wn <| Wn <| Wz (.b false) (OpF rfl) <| Wm (.b false) rfl <| Nn <| Rt ?_
  obtain rfl := Option.some.inj hm
  exact ret_i []

theorem ok_w29_awake (r : Bool) (h : m_w29_awake = some r) : GCall Try.prog 7 [] [] (.b r) [] := by
 refine GCall.of_body (n := 169) (rs := [(.tmp 0)]) Try.func7 rfl rfl rfl <| Ato ⟨tu 169 [], [], 0⟩ ?_
 have hm := h
 unfold m_w29_awake at hm
 refine Sx <| Wm (.b false) rfl <| Nk 0 0 ⟨tp 169 [], [], 0⟩ <| Sx <| Wz (.agg [(.i 0), (.i 3), (.i 2)]) (Obd rfl) <| Wy (.own 0) [(0, (Ar 84 3 enc_GChange ([(GChange.mk 0 3 2)] : List GChange)))] (Obs rfl) ?_
 obtain ⟨r24_0, hr24_0, hm⟩ := bnd hm
 refine Wy (.tup [(.agg [(.i r24_0.1.Cap), (.own 1), (.own 2), (.d (.mp (Option.isNone r24_0.1.Links) (mks kv_22 (ml r24_0.1.Links)) (mds (slD (encL enc_GChange)) (ml r24_0.1.Links))))]), (.i r24_0.2)]) [(1, (.arr 34 1 (List.length r24_0.1.Views) (flatD (encL enc_GChange) r24_0.1.Views))), (2, (.arr 34 1 (List.length r24_0.1.Pending) (flatD (encL enc_GChange) r24_0.1.Pending))), (0, (.fro 84 3 (List.length ([(GChange.mk 0 3 2)] : List GChange)) (flatD enc_GChange ([(GChange.mk 0 3 2)] : List GChange))))] (Ocf [] [1, 2] [0] 0 (ok_view_New 2 1 ([(GChange.mk 0 3 2)] : List GChange) r24_0 hr24_0) (fun a w => Try.call8 a w) rfl trivial) <| Wm (.tup [(.agg [(.i r24_0.1.Cap), (.own 1), (.own 2), (.d (.mp (Option.isNone r24_0.1.Links) (mks kv_22 (ml r24_0.1.Links)) (mds (slD (encL enc_GChange)) (ml r24_0.1.Links))))]), (.i r24_0.2)]) rfl <| Wz (.agg [(.i r24_0.1.Cap), (.own 1), (.own 2), (.d (.mp (Option.isNone r24_0.1.Links) (mks kv_22 (ml r24_0.1.Links)) (mds (slD (encL enc_GChange)) (ml r24_0.1.Links))))]) (Oex rfl) <| Wz (.i r24_0.2) (Oex rfl) <| Wy (.loc 3 0) [(3, (.box [(.i 0), (.d .nil), (.d .nil), (.d (.mp (Option.isNone (none : Option (List (GArr2_Int × (List (List GChange)))))) (mks kv_22 (ml (none : Option (List (GArr2_Int × (List (List GChange))))))) (mds (slD (encL enc_GChange)) (ml (none : Option (List (GArr2_Int × (List (List GChange)))))))))]))] (Oal rfl) <| Wy (.tup []) [(3, (.box [(.i r24_0.1.Cap), (.own 1), (.own 2), (.d (.mp (Option.isNone r24_0.1.Links) (mks kv_22 (ml r24_0.1.Links)) (mds (slD (encL enc_GChange)) (ml r24_0.1.Links))))]))] (Ost rfl) <| Wm (.i r24_0.2) rfl <| Nk 6 14 ⟨tp 1 (.loc 3 0::.i r24_0.2::tp 166 []), [.gone, (.arr 34 1 (List.length r24_0.1.Views) (flatD (encL enc_GChange) r24_0.1.Views)), (.arr 34 1 (List.length r24_0.1.Pending) (flatD (encL enc_GChange) r24_0.1.Pending)), (.box [(.i r24_0.1.Cap), (.own 1), (.own 2), (.d (.mp (Option.isNone r24_0.1.Links) (mks kv_22 (ml r24_0.1.Links)) (mds (slD (encL enc_GChange)) (ml r24_0.1.Links))))])], 0⟩ <| Sx ?_
 obtain ⟨r28_1, hr28_1, hm⟩ := bnd hm
 refine Wy (.tup [(.agg [(.i r28_1.1.Cap), (.own 4), (.own 5), (.d (.mp (Option.isNone r28_1.1.Links) (mks kv_22 (ml r28_1.1.Links)) (mds (slD (encL enc_GChange)) (ml r28_1.1.Links))))]), (.i r28_1.2)]) [(4, (.arr 34 1 (List.length r28_1.1.Views) (flatD (encL enc_GChange) r28_1.1.Views))), (5, (.arr 34 1 (List.length r28_1.1.Pending) (flatD (encL enc_GChange) r28_1.1.Pending)))] (Ocf [] [4, 5] [] 0 (ok_view_New 0 1 ([] : List GChange) r28_1 hr28_1) (fun a w => Try.call8 a w) rfl trivial) <| Wm (.tup [(.agg [(.i r28_1.1.Cap), (.own 4), (.own 5), (.d (.mp (Option.isNone r28_1.1.Links) (mks kv_22 (ml r28_1.1.Links)) (mds (slD (encL enc_GChange)) (ml r28_1.1.Links))))]), (.i r28_1.2)]) rfl <| Wz (.agg [(.i r28_1.1.Cap), (.own 4), (.own 5), (.d (.mp (Option.isNone r28_1.1.Links) (mks kv_22 (ml r28_1.1.Links)) (mds (slD (encL enc_GChange)) (ml r28_1.1.Links))))]) (Oex rfl) <| Wz (.i r28_1.2) (Oex rfl) <| Wy (.loc 6 0) [(6, (.box [(.i 0), (.d .nil), (.d .nil), (.d (.mp (Option.isNone (none : Option (List (GArr2_Int × (List (List GChange)))))) (mks kv_22 (ml (none : Option (List (GArr2_Int × (List (List GChange))))))) (mds (slD (encL enc_GChange)) (ml (none : Option (List (GArr2_Int × (List (List GChange)))))))))]))] (Oal rfl) <| Wy (.tup []) [(6, (.box [(.i r28_1.1.Cap), (.own 4), (.own 5), (.d (.mp (Option.isNone r28_1.1.Links) (mks kv_22 (ml r28_1.1.Links)) (mds (slD (encL enc_GChange)) (ml r28_1.1.Links))))]))] (Ost rfl) <| Wm (.i r28_1.2) rfl <| Nk 22 14 ⟨tp 1 (.loc 3 0::.i r24_0.2::tp 1 (.i r28_1.2::tp 164 [])), [.gone, (.arr 34 1 (List.length r24_0.1.Views) (flatD (encL enc_GChange) r24_0.1.Views)), (.arr 34 1 (List.length r24_0.1.Pending) (flatD (encL enc_GChange) r24_0.1.Pending)), (.box [(.i r24_0.1.Cap), (.own 1), (.own 2), (.d (.mp (Option.isNone r24_0.1.Links) (mks kv_22 (ml r24_0.1.Links)) (mds (slD (encL enc_GChange)) (ml r24_0.1.Links))))]), .gone, .gone, .gone], 0⟩ <| Sx <| Wz (.agg [(.i r24_0.1.Cap), (.own 1), (.own 2), (.d (.mp (Option.isNone r24_0.1.Links) (mks kv_22 (ml r24_0.1.Links)) (mds (slD (encL enc_GChange)) (ml r24_0.1.Links))))]) (Old rfl) <| Wz (.agg [(.i 0), (.i 3), (.i (-2))]) (Obd rfl) <| Wy (.own 7) [(7, (Ar 84 3 enc_GChange ([(GChange.mk 0 3 (-2))] : List GChange)))] (Obs rfl) ?_
 obtain ⟨r35_2, hr35_2, hm⟩ := bnd hm
 refine Wy (.tup [(.agg [(.i r35_2.1.Cap), (.l (encL enc_GChange) r35_2.1.Views), (.l (encL enc_GChange) r35_2.1.Pending), (.d (.mp (Option.isNone r35_2.1.Links) (mks kv_22 (ml r35_2.1.Links)) (mds (slD (encL enc_GChange)) (ml r35_2.1.Links))))]), (.i r35_2.2)]) [(1, (.fro 34 1 (List.length r24_0.1.Views) (flatD (encL enc_GChange) r24_0.1.Views))), (2, (.fro 34 1 (List.length r24_0.1.Pending) (flatD (encL enc_GChange) r24_0.1.Pending))), (7, (.fro 84 3 (List.length ([(GChange.mk 0 3 (-2))] : List GChange)) (flatD enc_GChange ([(GChange.mk 0 3 (-2))] : List GChange))))] (Ocf [] [] [1, 2, 7] 0 (ok_view_Net_Note r24_0.1 0 ([(GChange.mk 0 3 (-2))] : List GChange) r35_2 hr35_2) (fun a w => Try.call11 a w) rfl trivial) <| Wm (.tup [(.agg [(.i r35_2.1.Cap), (.l (encL enc_GChange) r35_2.1.Views), (.l (encL enc_GChange) r35_2.1.Pending), (.d (.mp (Option.isNone r35_2.1.Links) (mks kv_22 (ml r35_2.1.Links)) (mds (slD (encL enc_GChange)) (ml r35_2.1.Links))))]), (.i r35_2.2)]) rfl <| Wz (.agg [(.i r35_2.1.Cap), (.l (encL enc_GChange) r35_2.1.Views), (.l (encL enc_GChange) r35_2.1.Pending), (.d (.mp (Option.isNone r35_2.1.Links) (mks kv_22 (ml r35_2.1.Links)) (mds (slD (encL enc_GChange)) (ml r35_2.1.Links))))]) (Oex rfl) <| Wz (.i r35_2.2) (Oex rfl) <| Wy (.loc 8 0) [(8, (.box [(.i 0), (.d .nil), (.d .nil), (.d (.mp (Option.isNone (none : Option (List (GArr2_Int × (List (List GChange)))))) (mks kv_22 (ml (none : Option (List (GArr2_Int × (List (List GChange))))))) (mds (slD (encL enc_GChange)) (ml (none : Option (List (GArr2_Int × (List (List GChange)))))))))]))] (Oal rfl) <| Wy (.tup []) [(8, (.box [(.i r35_2.1.Cap), (.l (encL enc_GChange) r35_2.1.Views), (.l (encL enc_GChange) r35_2.1.Pending), (.d (.mp (Option.isNone r35_2.1.Links) (mks kv_22 (ml r35_2.1.Links)) (mds (slD (encL enc_GChange)) (ml r35_2.1.Links))))]))] (Ost rfl) <| Wm (.i r35_2.2) rfl <| Nk 118 270 ⟨tp 1 (.loc 3 0::.i r24_0.2::tp 1 (.i r28_1.2::.loc 8 0::.i r35_2.2::tp 162 [])), [.gone, (.fro 34 1 (List.length r24_0.1.Views) (flatD (encL enc_GChange) r24_0.1.Views)), (.fro 34 1 (List.length r24_0.1.Pending) (flatD (encL enc_GChange) r24_0.1.Pending)), (.box [(.i r24_0.1.Cap), (.own 1), (.own 2), (.d (.mp (Option.isNone r24_0.1.Links) (mks kv_22 (ml r24_0.1.Links)) (mds (slD (encL enc_GChange)) (ml r24_0.1.Links))))]), .gone, .gone, .gone, .gone, (.box [(.i r35_2.1.Cap), (.l (encL enc_GChange) r35_2.1.Views), (.l (encL enc_GChange) r35_2.1.Pending), (.d (.mp (Option.isNone r35_2.1.Links) (mks kv_22 (ml r35_2.1.Links)) (mds (slD (encL enc_GChange)) (ml r35_2.1.Links))))])], 0⟩ <| Sx <| Wz (.agg [(.i r35_2.1.Cap), (.l (encL enc_GChange) r35_2.1.Views), (.l (encL enc_GChange) r35_2.1.Pending), (.d (.mp (Option.isNone r35_2.1.Links) (mks kv_22 (ml r35_2.1.Links)) (mds (slD (encL enc_GChange)) (ml r35_2.1.Links))))]) (Old rfl) ?_
 obtain ⟨r40_3, hr40_3, hm⟩ := bnd hm
 refine Wz (.tup [(.agg [(.i r40_3.1.Cap), (.l (encL enc_GChange) r40_3.1.Views), (.l (encL enc_GChange) r40_3.1.Pending), (.d (.mp (Option.isNone r40_3.1.Links) (mks kv_22 (ml r40_3.1.Links)) (mds (slD (encL enc_GChange)) (ml r40_3.1.Links))))]), (.i r40_3.2)]) (Ocf [] [] [] 0 (ok_view_Net_Flush r35_2.1 0 r40_3 hr40_3) (fun a w => Try.call13 a w) rfl trivial) <| Wm (.tup [(.agg [(.i r40_3.1.Cap), (.l (encL enc_GChange) r40_3.1.Views), (.l (encL enc_GChange) r40_3.1.Pending), (.d (.mp (Option.isNone r40_3.1.Links) (mks kv_22 (ml r40_3.1.Links)) (mds (slD (encL enc_GChange)) (ml r40_3.1.Links))))]), (.i r40_3.2)]) rfl <| Wz (.agg [(.i r40_3.1.Cap), (.l (encL enc_GChange) r40_3.1.Views), (.l (encL enc_GChange) r40_3.1.Pending), (.d (.mp (Option.isNone r40_3.1.Links) (mks kv_22 (ml r40_3.1.Links)) (mds (slD (encL enc_GChange)) (ml r40_3.1.Links))))]) (Oex rfl) <| Wz (.i r40_3.2) (Oex rfl) <| Wy (.loc 9 0) [(9, (.box [(.i 0), (.d .nil), (.d .nil), (.d (.mp (Option.isNone (none : Option (List (GArr2_Int × (List (List GChange)))))) (mks kv_22 (ml (none : Option (List (GArr2_Int × (List (List GChange))))))) (mds (slD (encL enc_GChange)) (ml (none : Option (List (GArr2_Int × (List (List GChange)))))))))]))] (Oal rfl) <| Wy (.tup []) [(9, (.box [(.i r40_3.1.Cap), (.l (encL enc_GChange) r40_3.1.Views), (.l (encL enc_GChange) r40_3.1.Pending), (.d (.mp (Option.isNone r40_3.1.Links) (mks kv_22 (ml r40_3.1.Links)) (mds (slD (encL enc_GChange)) (ml r40_3.1.Links))))]))] (Ost rfl) <| Wm (.i r40_3.2) rfl <| Nk 502 782 ⟨tp 1 (.loc 3 0::.i r24_0.2::tp 1 (.i r28_1.2::.loc 8 0::.i r35_2.2::.loc 9 0::.i r40_3.2::tp 160 [])), [.gone, (.fro 34 1 (List.length r24_0.1.Views) (flatD (encL enc_GChange) r24_0.1.Views)), (.fro 34 1 (List.length r24_0.1.Pending) (flatD (encL enc_GChange) r24_0.1.Pending)), (.box [(.i r24_0.1.Cap), (.own 1), (.own 2), (.d (.mp (Option.isNone r24_0.1.Links) (mks kv_22 (ml r24_0.1.Links)) (mds (slD (encL enc_GChange)) (ml r24_0.1.Links))))]), .gone, .gone, .gone, .gone, (.box [(.i r35_2.1.Cap), (.l (encL enc_GChange) r35_2.1.Views), (.l (encL enc_GChange) r35_2.1.Pending), (.d (.mp (Option.isNone r35_2.1.Links) (mks kv_22 (ml r35_2.1.Links)) (mds (slD (encL enc_GChange)) (ml r35_2.1.Links))))]), (.box [(.i r40_3.1.Cap), (.l (encL enc_GChange) r40_3.1.Views), (.l (encL enc_GChange) r40_3.1.Pending), (.d (.mp (Option.isNone r40_3.1.Links) (mks kv_22 (ml r40_3.1.Links)) (mds (slD (encL enc_GChange)) (ml r40_3.1.Links))))])], 0⟩ <| Sx <| Wz (.agg [(.i r40_3.1.Cap), (.l (encL enc_GChange) r40_3.1.Views), (.l (encL enc_GChange) r40_3.1.Pending), (.d (.mp (Option.isNone r40_3.1.Links) (mks kv_22 (ml r40_3.1.Links)) (mds (slD (encL enc_GChange)) (ml r40_3.1.Links))))]) (Old rfl) ?_
 obtain ⟨r45_4, hr45_4, hm⟩ := bnd hm
 refine Wz (.tup [(.agg [(.i r45_4.1.Cap), (.l (encL enc_GChange) r45_4.1.Views), (.l (encL enc_GChange) r45_4.1.Pending), (.d (.mp (Option.isNone r45_4.1.Links) (mks kv_22 (ml r45_4.1.Links)) (mds (slD (encL enc_GChange)) (ml r45_4.1.Links))))]), (.i r45_4.2)]) (Ocf [] [] [] 0 (ok_view_Net_Flush r40_3.1 0 r45_4 hr45_4) (fun a w => Try.call13 a w) rfl trivial) <| Wm (.tup [(.agg [(.i r45_4.1.Cap), (.l (encL enc_GChange) r45_4.1.Views), (.l (encL enc_GChange) r45_4.1.Pending), (.d (.mp (Option.isNone r45_4.1.Links) (mks kv_22 (ml r45_4.1.Links)) (mds (slD (encL enc_GChange)) (ml r45_4.1.Links))))]), (.i r45_4.2)]) rfl <| Wz (.agg [(.i r45_4.1.Cap), (.l (encL enc_GChange) r45_4.1.Views), (.l (encL enc_GChange) r45_4.1.Pending), (.d (.mp (Option.isNone r45_4.1.Links) (mks kv_22 (ml r45_4.1.Links)) (mds (slD (encL enc_GChange)) (ml r45_4.1.Links))))]) (Oex rfl) <| Wz (.i r45_4.2) (Oex rfl) <| Wy (.loc 10 0) [(10, (.box [(.i 0), (.d .nil), (.d .nil), (.d (.mp (Option.isNone (none : Option (List (GArr2_Int × (List (List GChange)))))) (mks kv_22 (ml (none : Option (List (GArr2_Int × (List (List GChange))))))) (mds (slD (encL enc_GChange)) (ml (none : Option (List (GArr2_Int × (List (List GChange)))))))))]))] (Oal rfl) <| Wy (.tup []) [(10, (.box [(.i r45_4.1.Cap), (.l (encL enc_GChange) r45_4.1.Views), (.l (encL enc_GChange) r45_4.1.Pending), (.d (.mp (Option.isNone r45_4.1.Links) (mks kv_22 (ml r45_4.1.Links)) (mds (slD (encL enc_GChange)) (ml r45_4.1.Links))))]))] (Ost rfl) <| Wm (.i r45_4.2) rfl <| Nk 1526 782 ⟨tp 1 (.loc 3 0::.i r24_0.2::tp 1 (.i r28_1.2::.loc 8 0::.i r35_2.2::.loc 9 0::.i r40_3.2::tp 1 (.i r45_4.2::tp 158 []))), [.gone, (.fro 34 1 (List.length r24_0.1.Views) (flatD (encL enc_GChange) r24_0.1.Views)), (.fro 34 1 (List.length r24_0.1.Pending) (flatD (encL enc_GChange) r24_0.1.Pending)), (.box [(.i r24_0.1.Cap), (.own 1), (.own 2), (.d (.mp (Option.isNone r24_0.1.Links) (mks kv_22 (ml r24_0.1.Links)) (mds (slD (encL enc_GChange)) (ml r24_0.1.Links))))]), .gone, .gone, .gone, .gone, (.box [(.i r35_2.1.Cap), (.l (encL enc_GChange) r35_2.1.Views), (.l (encL enc_GChange) r35_2.1.Pending), (.d (.mp (Option.isNone r35_2.1.Links) (mks kv_22 (ml r35_2.1.Links)) (mds (slD (encL enc_GChange)) (ml r35_2.1.Links))))]), (.box [(.i r40_3.1.Cap), (.l (encL enc_GChange) r40_3.1.Views), (.l (encL enc_GChange) r40_3.1.Pending), (.d (.mp (Option.isNone r40_3.1.Links) (mks kv_22 (ml r40_3.1.Links)) (mds (slD (encL enc_GChange)) (ml r40_3.1.Links))))]), .gone], 0⟩ <| Sx <| Wz (.agg [(.i r40_3.1.Cap), (.l (encL enc_GChange) r40_3.1.Views), (.l (encL enc_GChange) r40_3.1.Pending), (.d (.mp (Option.isNone r40_3.1.Links) (mks kv_22 (ml r40_3.1.Links)) (mds (slD (encL enc_GChange)) (ml r40_3.1.Links))))]) (Old rfl) ?_
 obtain ⟨r50_5, hr50_5, hm⟩ := bnd hm
 refine Wz (.tup [(.agg [(.i r50_5.1.Cap), (.l (encL enc_GChange) r50_5.1.Views), (.l (encL enc_GChange) r50_5.1.Pending), (.d (.mp (Option.isNone r50_5.1.Links) (mks kv_22 (ml r50_5.1.Links)) (mds (slD (encL enc_GChange)) (ml r50_5.1.Links))))]), (.i r50_5.2)]) (Ocf [] [] [] 0 (ok_view_Net_Deliver r40_3.1 0 1 r50_5 hr50_5) (fun a w => Try.call15 a w) rfl trivial) <| Wm (.tup [(.agg [(.i r50_5.1.Cap), (.l (encL enc_GChange) r50_5.1.Views), (.l (encL enc_GChange) r50_5.1.Pending), (.d (.mp (Option.isNone r50_5.1.Links) (mks kv_22 (ml r50_5.1.Links)) (mds (slD (encL enc_GChange)) (ml r50_5.1.Links))))]), (.i r50_5.2)]) rfl <| Wz (.agg [(.i r50_5.1.Cap), (.l (encL enc_GChange) r50_5.1.Views), (.l (encL enc_GChange) r50_5.1.Pending), (.d (.mp (Option.isNone r50_5.1.Links) (mks kv_22 (ml r50_5.1.Links)) (mds (slD (encL enc_GChange)) (ml r50_5.1.Links))))]) (Oex rfl) <| Wz (.i r50_5.2) (Oex rfl) <| Wy (.loc 11 0) [(11, (.box [(.i 0), (.d .nil), (.d .nil), (.d (.mp (Option.isNone (none : Option (List (GArr2_Int × (List (List GChange)))))) (mks kv_22 (ml (none : Option (List (GArr2_Int × (List (List GChange))))))) (mds (slD (encL enc_GChange)) (ml (none : Option (List (GArr2_Int × (List (List GChange)))))))))]))] (Oal rfl) <| Wy (.tup []) [(11, (.box [(.i r50_5.1.Cap), (.l (encL enc_GChange) r50_5.1.Views), (.l (encL enc_GChange) r50_5.1.Pending), (.d (.mp (Option.isNone r50_5.1.Links) (mks kv_22 (ml r50_5.1.Links)) (mds (slD (encL enc_GChange)) (ml r50_5.1.Links))))]))] (Ost rfl) <| Wm (.i r50_5.2) rfl <| Nk 7670 2830 ⟨tp 1 (.loc 3 0::.i r24_0.2::tp 1 (.i r28_1.2::.loc 8 0::.i r35_2.2::.loc 9 0::.i r40_3.2::tp 1 (.i r45_4.2::.loc 11 0::.i r50_5.2::tp 156 []))), [.gone, (.fro 34 1 (List.length r24_0.1.Views) (flatD (encL enc_GChange) r24_0.1.Views)), (.fro 34 1 (List.length r24_0.1.Pending) (flatD (encL enc_GChange) r24_0.1.Pending)), (.box [(.i r24_0.1.Cap), (.own 1), (.own 2), (.d (.mp (Option.isNone r24_0.1.Links) (mks kv_22 (ml r24_0.1.Links)) (mds (slD (encL enc_GChange)) (ml r24_0.1.Links))))]), .gone, .gone, .gone, .gone, (.box [(.i r35_2.1.Cap), (.l (encL enc_GChange) r35_2.1.Views), (.l (encL enc_GChange) r35_2.1.Pending), (.d (.mp (Option.isNone r35_2.1.Links) (mks kv_22 (ml r35_2.1.Links)) (mds (slD (encL enc_GChange)) (ml r35_2.1.Links))))]), (.box [(.i r40_3.1.Cap), (.l (encL enc_GChange) r40_3.1.Views), (.l (encL enc_GChange) r40_3.1.Pending), (.d (.mp (Option.isNone r40_3.1.Links) (mks kv_22 (ml r40_3.1.Links)) (mds (slD (encL enc_GChange)) (ml r40_3.1.Links))))]), .gone, (.box [(.i r50_5.1.Cap), (.l (encL enc_GChange) r50_5.1.Views), (.l (encL enc_GChange) r50_5.1.Pending), (.d (.mp (Option.isNone r50_5.1.Links) (mks kv_22 (ml r50_5.1.Links)) (mds (slD (encL enc_GChange)) (ml r50_5.1.Links))))])], 0⟩ <| Sx <| Wz (.agg [(.i r50_5.1.Cap), (.l (encL enc_GChange) r50_5.1.Views), (.l (encL enc_GChange) r50_5.1.Pending), (.d (.mp (Option.isNone r50_5.1.Links) (mks kv_22 (ml r50_5.1.Links)) (mds (slD (encL enc_GChange)) (ml r50_5.1.Links))))]) (Old rfl) ?_
 obtain ⟨r55_6, hr55_6, hm⟩ := bnd hm
 refine Wz (.tup [(.agg [(.i r55_6.1.Cap), (.l (encL enc_GChange) r55_6.1.Views), (.l (encL enc_GChange) r55_6.1.Pending), (.d (.mp (Option.isNone r55_6.1.Links) (mks kv_22 (ml r55_6.1.Links)) (mds (slD (encL enc_GChange)) (ml r55_6.1.Links))))]), (.i r55_6.2)]) (Ocf [] [] [] 0 (ok_view_Net_Deliver r50_5.1 0 1 r55_6 hr55_6) (fun a w => Try.call15 a w) rfl trivial) <| Wm (.tup [(.agg [(.i r55_6.1.Cap), (.l (encL enc_GChange) r55_6.1.Views), (.l (encL enc_GChange) r55_6.1.Pending), (.d (.mp (Option.isNone r55_6.1.Links) (mks kv_22 (ml r55_6.1.Links)) (mds (slD (encL enc_GChange)) (ml r55_6.1.Links))))]), (.i r55_6.2)]) rfl <| Wz (.agg [(.i r55_6.1.Cap), (.l (encL enc_GChange) r55_6.1.Views), (.l (encL enc_GChange) r55_6.1.Pending), (.d (.mp (Option.isNone r55_6.1.Links) (mks kv_22 (ml r55_6.1.Links)) (mds (slD (encL enc_GChange)) (ml r55_6.1.Links))))]) (Oex rfl) <| Wz (.i r55_6.2) (Oex rfl) <| Wy (.loc 12 0) [(12, (.box [(.i 0), (.d .nil), (.d .nil), (.d (.mp (Option.isNone (none : Option (List (GArr2_Int × (List (List GChange)))))) (mks kv_22 (ml (none : Option (List (GArr2_Int × (List (List GChange))))))) (mds (slD (encL enc_GChange)) (ml (none : Option (List (GArr2_Int × (List (List GChange)))))))))]))] (Oal rfl) <| Wy (.tup []) [(12, (.box [(.i r55_6.1.Cap), (.l (encL enc_GChange) r55_6.1.Views), (.l (encL enc_GChange) r55_6.1.Pending), (.d (.mp (Option.isNone r55_6.1.Links) (mks kv_22 (ml r55_6.1.Links)) (mds (slD (encL enc_GChange)) (ml r55_6.1.Links))))]))] (Ost rfl) <| Wm (.i r55_6.2) rfl <| Nk 24054 2830 ⟨tp 1 (.loc 3 0::.i r24_0.2::tp 1 (.i r28_1.2::.loc 8 0::.i r35_2.2::.loc 9 0::.i r40_3.2::tp 1 (.i r45_4.2::.loc 11 0::.i r50_5.2::tp 1 (.i r55_6.2::tp 154 [])))), [.gone, (.fro 34 1 (List.length r24_0.1.Views) (flatD (encL enc_GChange) r24_0.1.Views)), (.fro 34 1 (List.length r24_0.1.Pending) (flatD (encL enc_GChange) r24_0.1.Pending)), (.box [(.i r24_0.1.Cap), (.own 1), (.own 2), (.d (.mp (Option.isNone r24_0.1.Links) (mks kv_22 (ml r24_0.1.Links)) (mds (slD (encL enc_GChange)) (ml r24_0.1.Links))))]), .gone, .gone, .gone, .gone, (.box [(.i r35_2.1.Cap), (.l (encL enc_GChange) r35_2.1.Views), (.l (encL enc_GChange) r35_2.1.Pending), (.d (.mp (Option.isNone r35_2.1.Links) (mks kv_22 (ml r35_2.1.Links)) (mds (slD (encL enc_GChange)) (ml r35_2.1.Links))))]), (.box [(.i r40_3.1.Cap), (.l (encL enc_GChange) r40_3.1.Views), (.l (encL enc_GChange) r40_3.1.Pending), (.d (.mp (Option.isNone r40_3.1.Links) (mks kv_22 (ml r40_3.1.Links)) (mds (slD (encL enc_GChange)) (ml r40_3.1.Links))))]), .gone, (.box [(.i r50_5.1.Cap), (.l (encL enc_GChange) r50_5.1.Views), (.l (encL enc_GChange) r50_5.1.Pending), (.d (.mp (Option.isNone r50_5.1.Links) (mks kv_22 (ml r50_5.1.Links)) (mds (slD (encL enc_GChange)) (ml r50_5.1.Links))))]), .gone], 0⟩ <| Sx <| Wz (.agg [(.i r24_0.1.Cap), (.own 1), (.own 2), (.d (.mp (Option.isNone r24_0.1.Links) (mks kv_22 (ml r24_0.1.Links)) (mds (slD (encL enc_GChange)) (ml r24_0.1.Links))))]) (Old rfl) ?_
 obtain ⟨r60_7, hr60_7, hm⟩ := bnd hm
 refine Wy (.tup [(.agg [(.i r60_7.1.Cap), (.l (encL enc_GChange) r60_7.1.Views), (.l (encL enc_GChange) r60_7.1.Pending), (.d (.mp (Option.isNone r60_7.1.Links) (mks kv_22 (ml r60_7.1.Links)) (mds (slD (encL enc_GChange)) (ml r60_7.1.Links))))]), (.i r60_7.2)]) [(1, (.fro 34 1 (List.length r24_0.1.Views) (flatD (encL enc_GChange) r24_0.1.Views))), (2, (.fro 34 1 (List.length r24_0.1.Pending) (flatD (encL enc_GChange) r24_0.1.Pending)))] (Ocf [] [] [1, 2] 0 (ok_view_Net_Note r24_0.1 2 ([] : List GChange) r60_7 hr60_7) (fun a w => Try.call11 a w) rfl trivial) <| Wm (.tup [(.agg [(.i r60_7.1.Cap), (.l (encL enc_GChange) r60_7.1.Views), (.l (encL enc_GChange) r60_7.1.Pending), (.d (.mp (Option.isNone r60_7.1.Links) (mks kv_22 (ml r60_7.1.Links)) (mds (slD (encL enc_GChange)) (ml r60_7.1.Links))))]), (.i r60_7.2)]) rfl <| Wz (.agg [(.i r60_7.1.Cap), (.l (encL enc_GChange) r60_7.1.Views), (.l (encL enc_GChange) r60_7.1.Pending), (.d (.mp (Option.isNone r60_7.1.Links) (mks kv_22 (ml r60_7.1.Links)) (mds (slD (encL enc_GChange)) (ml r60_7.1.Links))))]) (Oex rfl) <| Wz (.i r60_7.2) (Oex rfl) <| Wy (.loc 13 0) [(13, (.box [(.i 0), (.d .nil), (.d .nil), (.d (.mp (Option.isNone (none : Option (List (GArr2_Int × (List (List GChange)))))) (mks kv_22 (ml (none : Option (List (GArr2_Int × (List (List GChange))))))) (mds (slD (encL enc_GChange)) (ml (none : Option (List (GArr2_Int × (List (List GChange)))))))))]))] (Oal rfl) <| Wy (.tup []) [(13, (.box [(.i r60_7.1.Cap), (.l (encL enc_GChange) r60_7.1.Views), (.l (encL enc_GChange) r60_7.1.Pending), (.d (.mp (Option.isNone r60_7.1.Links) (mks kv_22 (ml r60_7.1.Links)) (mds (slD (encL enc_GChange)) (ml r60_7.1.Links))))]))] (Ost rfl) <| Wm (.i r60_7.2) rfl <| Nk 89590 2830 ⟨tp 1 (.loc 3 0::.i r24_0.2::tp 1 (.i r28_1.2::.loc 8 0::.i r35_2.2::.loc 9 0::.i r40_3.2::tp 1 (.i r45_4.2::.loc 11 0::.i r50_5.2::tp 1 (.i r55_6.2::tp 1 (.i r60_7.2::tp 152 []))))), [.gone, (.fro 34 1 (List.length r24_0.1.Views) (flatD (encL enc_GChange) r24_0.1.Views)), (.fro 34 1 (List.length r24_0.1.Pending) (flatD (encL enc_GChange) r24_0.1.Pending)), (.box [(.i r24_0.1.Cap), (.own 1), (.own 2), (.d (.mp (Option.isNone r24_0.1.Links) (mks kv_22 (ml r24_0.1.Links)) (mds (slD (encL enc_GChange)) (ml r24_0.1.Links))))]), .gone, .gone, .gone, .gone, (.box [(.i r35_2.1.Cap), (.l (encL enc_GChange) r35_2.1.Views), (.l (encL enc_GChange) r35_2.1.Pending), (.d (.mp (Option.isNone r35_2.1.Links) (mks kv_22 (ml r35_2.1.Links)) (mds (slD (encL enc_GChange)) (ml r35_2.1.Links))))]), (.box [(.i r40_3.1.Cap), (.l (encL enc_GChange) r40_3.1.Views), (.l (encL enc_GChange) r40_3.1.Pending), (.d (.mp (Option.isNone r40_3.1.Links) (mks kv_22 (ml r40_3.1.Links)) (mds (slD (encL enc_GChange)) (ml r40_3.1.Links))))]), .gone, (.box [(.i r50_5.1.Cap), (.l (encL enc_GChange) r50_5.1.Views), (.l (encL enc_GChange) r50_5.1.Pending), (.d (.mp (Option.isNone r50_5.1.Links) (mks kv_22 (ml r50_5.1.Links)) (mds (slD (encL enc_GChange)) (ml r50_5.1.Links))))]), .gone, .gone], 0⟩ <| Sx <| Wz (.agg [(.i r40_3.1.Cap), (.l (encL enc_GChange) r40_3.1.Views), (.l (encL enc_GChange) r40_3.1.Pending), (.d (.mp (Option.isNone r40_3.1.Links) (mks kv_22 (ml r40_3.1.Links)) (mds (slD (encL enc_GChange)) (ml r40_3.1.Links))))]) (Old rfl) <| Wz (.agg [(.i 0), (.i 0), (.i 1)]) (Obd rfl) <| Wy (.own 14) [(14, (Ar 84 3 enc_GChange ([(GChange.mk 0 0 1)] : List GChange)))] (Obs rfl) ?_
 obtain ⟨r67_8, hr67_8, hm⟩ := bnd hm
 refine Wy (.tup [(.agg [(.i r67_8.1.Cap), (.l (encL enc_GChange) r67_8.1.Views), (.l (encL enc_GChange) r67_8.1.Pending), (.d (.mp (Option.isNone r67_8.1.Links) (mks kv_22 (ml r67_8.1.Links)) (mds (slD (encL enc_GChange)) (ml r67_8.1.Links))))]), (.i r67_8.2)]) [(14, (.fro 84 3 (List.length ([(GChange.mk 0 0 1)] : List GChange)) (flatD enc_GChange ([(GChange.mk 0 0 1)] : List GChange))))] (Ocf [] [] [14] 0 (ok_view_Net_Note r40_3.1 0 ([(GChange.mk 0 0 1)] : List GChange) r67_8 hr67_8) (fun a w => Try.call11 a w) rfl trivial) <| Wm (.tup [(.agg [(.i r67_8.1.Cap), (.l (encL enc_GChange) r67_8.1.Views), (.l (encL enc_GChange) r67_8.1.Pending), (.d (.mp (Option.isNone r67_8.1.Links) (mks kv_22 (ml r67_8.1.Links)) (mds (slD (encL enc_GChange)) (ml r67_8.1.Links))))]), (.i r67_8.2)]) rfl <| Wz (.agg [(.i r67_8.1.Cap), (.l (encL enc_GChange) r67_8.1.Views), (.l (encL enc_GChange) r67_8.1.Pending), (.d (.mp (Option.isNone r67_8.1.Links) (mks kv_22 (ml r67_8.1.Links)) (mds (slD (encL enc_GChange)) (ml r67_8.1.Links))))]) (Oex rfl) <| Wz (.i r67_8.2) (Oex rfl) <| Wy (.loc 15 0) [(15, (.box [(.i 0), (.d .nil), (.d .nil), (.d (.mp (Option.isNone (none : Option (List (GArr2_Int × (List (List GChange)))))) (mks kv_22 (ml (none : Option (List (GArr2_Int × (List (List GChange))))))) (mds (slD (encL enc_GChange)) (ml (none : Option (List (GArr2_Int × (List (List GChange)))))))))]))] (Oal rfl) <| Wy (.tup []) [(15, (.box [(.i r67_8.1.Cap), (.l (encL enc_GChange) r67_8.1.Views), (.l (encL enc_GChange) r67_8.1.Pending), (.d (.mp (Option.isNone r67_8.1.Links) (mks kv_22 (ml r67_8.1.Links)) (mds (slD (encL enc_GChange)) (ml r67_8.1.Links))))]))] (Ost rfl) <| Wm (.i r67_8.2) rfl <| Nk 220662 35598 ⟨tp 1 (.loc 3 0::.i r24_0.2::tp 1 (.i r28_1.2::.loc 8 0::.i r35_2.2::.loc 9 0::.i r40_3.2::tp 1 (.i r45_4.2::.loc 11 0::.i r50_5.2::tp 1 (.i r55_6.2::tp 1 (.i r60_7.2::.loc 15 0::tp 151 []))))), [.gone, (.fro 34 1 (List.length r24_0.1.Views) (flatD (encL enc_GChange) r24_0.1.Views)), (.fro 34 1 (List.length r24_0.1.Pending) (flatD (encL enc_GChange) r24_0.1.Pending)), (.box [(.i r24_0.1.Cap), (.own 1), (.own 2), (.d (.mp (Option.isNone r24_0.1.Links) (mks kv_22 (ml r24_0.1.Links)) (mds (slD (encL enc_GChange)) (ml r24_0.1.Links))))]), .gone, .gone, .gone, .gone, (.box [(.i r35_2.1.Cap), (.l (encL enc_GChange) r35_2.1.Views), (.l (encL enc_GChange) r35_2.1.Pending), (.d (.mp (Option.isNone r35_2.1.Links) (mks kv_22 (ml r35_2.1.Links)) (mds (slD (encL enc_GChange)) (ml r35_2.1.Links))))]), (.box [(.i r40_3.1.Cap), (.l (encL enc_GChange) r40_3.1.Views), (.l (encL enc_GChange) r40_3.1.Pending), (.d (.mp (Option.isNone r40_3.1.Links) (mks kv_22 (ml r40_3.1.Links)) (mds (slD (encL enc_GChange)) (ml r40_3.1.Links))))]), .gone, (.box [(.i r50_5.1.Cap), (.l (encL enc_GChange) r50_5.1.Views), (.l (encL enc_GChange) r50_5.1.Pending), (.d (.mp (Option.isNone r50_5.1.Links) (mks kv_22 (ml r50_5.1.Links)) (mds (slD (encL enc_GChange)) (ml r50_5.1.Links))))]), .gone, .gone, .gone, (.box [(.i r67_8.1.Cap), (.l (encL enc_GChange) r67_8.1.Views), (.l (encL enc_GChange) r67_8.1.Pending), (.d (.mp (Option.isNone r67_8.1.Links) (mks kv_22 (ml r67_8.1.Links)) (mds (slD (encL enc_GChange)) (ml r67_8.1.Links))))])], 0⟩ <| Sx <| Wz (.agg [(.i r67_8.1.Cap), (.l (encL enc_GChange) r67_8.1.Views), (.l (encL enc_GChange) r67_8.1.Pending), (.d (.mp (Option.isNone r67_8.1.Links) (mks kv_22 (ml r67_8.1.Links)) (mds (slD (encL enc_GChange)) (ml r67_8.1.Links))))]) (Old rfl) ?_
 obtain ⟨r72_9, hr72_9, hm⟩ := bnd hm
 refine Wz (.tup [(.agg [(.i r72_9.1.Cap), (.l (encL enc_GChange) r72_9.1.Views), (.l (encL enc_GChange) r72_9.1.Pending), (.d (.mp (Option.isNone r72_9.1.Links) (mks kv_22 (ml r72_9.1.Links)) (mds (slD (encL enc_GChange)) (ml r72_9.1.Links))))]), (.i r72_9.2)]) (Ocf [] [] [] 0 (ok_view_Net_Flush r67_8.1 0 r72_9 hr72_9) (fun a w => Try.call13 a w) rfl trivial) <| Wm (.tup [(.agg [(.i r72_9.1.Cap), (.l (encL enc_GChange) r72_9.1.Views), (.l (encL enc_GChange) r72_9.1.Pending), (.d (.mp (Option.isNone r72_9.1.Links) (mks kv_22 (ml r72_9.1.Links)) (mds (slD (encL enc_GChange)) (ml r72_9.1.Links))))]), (.i r72_9.2)]) rfl <| Wz (.agg [(.i r72_9.1.Cap), (.l (encL enc_GChange) r72_9.1.Views), (.l (encL enc_GChange) r72_9.1.Pending), (.d (.mp (Option.isNone r72_9.1.Links) (mks kv_22 (ml r72_9.1.Links)) (mds (slD (encL enc_GChange)) (ml r72_9.1.Links))))]) (Oex rfl) <| Wz (.i r72_9.2) (Oex rfl) <| Wy (.loc 16 0) [(16, (.box [(.i 0), (.d .nil), (.d .nil), (.d (.mp (Option.isNone (none : Option (List (GArr2_Int × (List (List GChange)))))) (mks kv_22 (ml (none : Option (List (GArr2_Int × (List (List GChange))))))) (mds (slD (encL enc_GChange)) (ml (none : Option (List (GArr2_Int × (List (List GChange)))))))))]))] (Oal rfl) <| Wy (.tup []) [(16, (.box [(.i r72_9.1.Cap), (.l (encL enc_GChange) r72_9.1.Views), (.l (encL enc_GChange) r72_9.1.Pending), (.d (.mp (Option.isNone r72_9.1.Links) (mks kv_22 (ml r72_9.1.Links)) (mds (slD (encL enc_GChange)) (ml r72_9.1.Links))))]))] (Ost rfl) <| Wm (.i r72_9.2) rfl <| Nk 1138166 2830 ⟨tp 1 (.loc 3 0::.i r24_0.2::tp 1 (.i r28_1.2::.loc 8 0::.i r35_2.2::.loc 9 0::.i r40_3.2::tp 1 (.i r45_4.2::.loc 11 0::.i r50_5.2::tp 1 (.i r55_6.2::tp 1 (.i r60_7.2::tp 3 (.i r72_9.2::tp 148 [])))))), [.gone, (.fro 34 1 (List.length r24_0.1.Views) (flatD (encL enc_GChange) r24_0.1.Views)), (.fro 34 1 (List.length r24_0.1.Pending) (flatD (encL enc_GChange) r24_0.1.Pending)), (.box [(.i r24_0.1.Cap), (.own 1), (.own 2), (.d (.mp (Option.isNone r24_0.1.Links) (mks kv_22 (ml r24_0.1.Links)) (mds (slD (encL enc_GChange)) (ml r24_0.1.Links))))]), .gone, .gone, .gone, .gone, (.box [(.i r35_2.1.Cap), (.l (encL enc_GChange) r35_2.1.Views), (.l (encL enc_GChange) r35_2.1.Pending), (.d (.mp (Option.isNone r35_2.1.Links) (mks kv_22 (ml r35_2.1.Links)) (mds (slD (encL enc_GChange)) (ml r35_2.1.Links))))]), (.box [(.i r40_3.1.Cap), (.l (encL enc_GChange) r40_3.1.Views), (.l (encL enc_GChange) r40_3.1.Pending), (.d (.mp (Option.isNone r40_3.1.Links) (mks kv_22 (ml r40_3.1.Links)) (mds (slD (encL enc_GChange)) (ml r40_3.1.Links))))]), .gone, (.box [(.i r50_5.1.Cap), (.l (encL enc_GChange) r50_5.1.Views), (.l (encL enc_GChange) r50_5.1.Pending), (.d (.mp (Option.isNone r50_5.1.Links) (mks kv_22 (ml r50_5.1.Links)) (mds (slD (encL enc_GChange)) (ml r50_5.1.Links))))]), .gone, .gone, .gone, .gone, .gone], 0⟩ <| Sx <| Wm (.i r24_0.2) rfl <| Wz (.b (decide (r24_0.2 = 0))) (Obn rfl (fun _ => hb_eql (k := .i64))) ?_
 rcases tf_ (decide (r24_0.2 = 0)) with hq77_10 | hq77_10
 ·
  replace hm := cT hq77_10 hm
  refine Wz (.b true) (Oq hq77_10 rfl) <| Wm (.i r28_1.2) rfl <| Wz (.b (decide (r28_1.2 = 2))) (Obn rfl (fun _ => hb_eql (k := .i64))) <| Wz (.b (decide (r28_1.2 = 2))) (OpT rfl) ?_
  rcases tf_ (decide (r28_1.2 = 2)) with hq81_10 | hq81_10
  ·
   replace hm := cT hq81_10 hm
   refine Wz (.b true) (Oq hq81_10 rfl) <| Wm (.i r35_2.2) rfl <| Wz (.b (decide (r35_2.2 = 0))) (Obn rfl (fun _ => hb_eql (k := .i64))) <| Wz (.b (decide (r35_2.2 = 0))) (OpT rfl) ?_
   rcases tf_ (decide (r35_2.2 = 0)) with hq85_10 | hq85_10
   ·
    replace hm := cT hq85_10 hm
    refine Wz (.b true) (Oq hq85_10 rfl) <| Wm (.i r40_3.2) rfl <| Wz (.b (decide (r40_3.2 = 0))) (Obn rfl (fun _ => hb_eql (k := .i64))) <| Wz (.b (decide (r40_3.2 = 0))) (OpT rfl) ?_
    rcases tf_ (decide (r40_3.2 = 0)) with hq89_10 | hq89_10
    ·
     replace hm := cT hq89_10 hm
     refine Wz (.b true) (Oq hq89_10 rfl) <| Wm (.i r45_4.2) rfl <| Wz (.b (decide (r45_4.2 = 16))) (Obn rfl (fun _ => hb_eql (k := .i64))) <| Wz (.b (decide (r45_4.2 = 16))) (OpT rfl) ?_
     rcases tf_ (decide (r45_4.2 = 16)) with hq93_10 | hq93_10
     ·
      replace hm := cT hq93_10 hm
      refine Wz (.b true) (Oq hq93_10 rfl) <| Wm (.i r50_5.2) rfl <| Wz (.b (decide (r50_5.2 = 0))) (Obn rfl (fun _ => hb_eql (k := .i64))) <| Wz (.b (decide (r50_5.2 = 0))) (OpT rfl) ?_
      rcases tf_ (decide (r50_5.2 = 0)) with hq97_10 | hq97_10
      ·
       replace hm := cT hq97_10 hm
       refine Wz (.b true) (Oq hq97_10 rfl) <| Wm (.i r55_6.2) rfl <| Wz (.b (decide (r55_6.2 = 16))) (Obn rfl (fun _ => hb_eql (k := .i64))) <| Wz (.b (decide (r55_6.2 = 16))) (OpT rfl) ?_
       rcases tf_ (decide (r55_6.2 = 16)) with hq101_10 | hq101_10
       ·
        replace hm := cT hq101_10 hm
        refine Wz (.b true) (Oq hq101_10 rfl) <| Wm (.i r60_7.2) rfl <| Wz (.b (decide (r60_7.2 = 6))) (Obn rfl (fun _ => hb_eql (k := .i64))) <| Wz (.b (decide (r60_7.2 = 6))) (OpT rfl) ?_
        rcases tf_ (decide (r60_7.2 = 6)) with hq105_10 | hq105_10
        ·
         replace hm := cT hq105_10 hm
         refine Wz (.b true) (Oq hq105_10 rfl) <| Wm (.i r72_9.2) rfl <| Wz (.b (decide (r72_9.2 = 7))) (Obn rfl (fun _ => hb_eql (k := .i64))) <| Wz (.b (decide (r72_9.2 = 7))) (OpT rfl) ?_
         rcases tf_ (decide (r72_9.2 = 7)) with hq109_10 | hq109_10
         ·
          replace hm := cT hq109_10 hm
          refine Wz (.b true) (Oq hq109_10 rfl) <| Wz (.agg [(.i r24_0.1.Cap), (.own 1), (.own 2), (.d (.mp (Option.isNone r24_0.1.Links) (mks kv_22 (ml r24_0.1.Links)) (mds (slD (encL enc_GChange)) (ml r24_0.1.Links))))]) (Old rfl) ?_
          obtain ⟨r111_10, hr111_10, hm⟩ := bnd hm
          refine Wz (.i r111_10) (Ocp [] [] [1, 2] 0 (ok_view_Net_Front r24_0.1 1 1 r111_10 hr111_10) (plain_triv (by simp [A.Plain, A.Plains, D.Plain, byteD])) (fun a w => Try.call23 a w) rfl trivial) <| Wz (.b (decide (r111_10 = 3))) (Obn rfl (fun _ => hb_eql (k := .i64))) <| Wz (.b (decide (r111_10 = 3))) (OpT rfl) ?_
          rcases tf_ (decide (r111_10 = 3)) with hq114_10 | hq114_10
          ·
           replace hm := cT hq114_10 hm
           refine Wz (.b true) (Oq hq114_10 rfl) <| Wz (.agg [(.i r50_5.1.Cap), (.l (encL enc_GChange) r50_5.1.Views), (.l (encL enc_GChange) r50_5.1.Pending), (.d (.mp (Option.isNone r50_5.1.Links) (mks kv_22 (ml r50_5.1.Links)) (mds (slD (encL enc_GChange)) (ml r50_5.1.Links))))]) (Old rfl) ?_
           obtain ⟨r116_10, hr116_10, hm⟩ := bnd hm
           refine Wz (.i r116_10) (Ocf [] [] [] 0 (ok_view_Net_Front r50_5.1 1 1 r116_10 hr116_10) (fun a w => Try.call23 a w) rfl trivial) <| Wz (.b (decide (r116_10 = 1099511627777))) (Obn rfl (fun _ => hb_eql (k := .i64))) <| Wz (.b (decide (r116_10 = 1099511627777))) (OpT rfl) ?_
           rcases tf_ (decide (r116_10 = 1099511627777)) with hq119_10 | hq119_10
           ·
            replace hm := cT hq119_10 hm
            refine Wz (.b true) (Oq hq119_10 rfl) <| Wz (.agg [(.i r50_5.1.Cap), (.l (encL enc_GChange) r50_5.1.Views), (.l (encL enc_GChange) r50_5.1.Pending), (.d (.mp (Option.isNone r50_5.1.Links) (mks kv_22 (ml r50_5.1.Links)) (mds (slD (encL enc_GChange)) (ml r50_5.1.Links))))]) (Old rfl) ?_
            obtain ⟨r121_10, hr121_10, hm⟩ := bnd hm
            refine Wz (.i r121_10) (Ocf [] [] [] 0 (ok_view_Net_Front r50_5.1 0 1 r121_10 hr121_10) (fun a w => Try.call23 a w) rfl trivial) <| Wz (.b (decide (r121_10 = 3))) (Obn rfl (fun _ => hb_eql (k := .i64))) <| Wz (.b (decide (r121_10 = 3))) (OpT rfl) ?_
            rcases tf_ (decide (r121_10 = 3)) with hq124_10 | hq124_10
            ·
             replace hm := cT hq124_10 hm
             refine Wz (.b true) (Oq hq124_10 rfl) <| Wz (.agg [(.i r50_5.1.Cap), (.l (encL enc_GChange) r50_5.1.Views), (.l (encL enc_GChange) r50_5.1.Pending), (.d (.mp (Option.isNone r50_5.1.Links) (mks kv_22 (ml r50_5.1.Links)) (mds (slD (encL enc_GChange)) (ml r50_5.1.Links))))]) (Old rfl) ?_
             obtain ⟨r126_10, hr126_10, hm⟩ := bnd hm
             refine Wz (.i r126_10) (Ocf [] [] [] 0 (ok_view_Net_Waits r50_5.1 0 0 r126_10 hr126_10) (fun a w => Try.call19 a w) rfl trivial) <| Wz (.b (decide (r126_10 = 1))) (Obn rfl (fun _ => hb_eql (k := .i64))) <| Wz (.b (decide (r126_10 = 1))) (OpT rfl) ?_
             rcases tf_ (decide (r126_10 = 1)) with hq129_10 | hq129_10
             ·
              replace hm := cT hq129_10 hm
              refine Wz (.b true) (Oq hq129_10 rfl) <| Wz (.loc 11 3) (Ofa rfl) <| Wz (.d (.mp (Option.isNone r50_5.1.Links) (mks kv_22 (ml r50_5.1.Links)) (mds (slD (encL enc_GChange)) (ml r50_5.1.Links)))) (Old rfl) <| Wz (.i ((List.length (ml r50_5.1.Links) : Nat) : Int)) (Mml (kv := kv_22) (ev := (slD (encL enc_GChange))) (ml r50_5.1.Links) rfl) <| Wz (.b (decide (((List.length (ml r50_5.1.Links) : Nat) : Int) = 1))) (Obn rfl (fun _ => hb_eql (k := .i64))) <| Wz (.b (decide (((List.length (ml r50_5.1.Links) : Nat) : Int) = 1))) (OpT rfl) ?_
              rcases tf_ (decide (((List.length (ml r50_5.1.Links) : Nat) : Int) = 1)) with hq135_10 | hq135_10
              ·
               replace hm := cT hq135_10 hm
               refine Wz (.b true) (Oq hq135_10 rfl) <| Wz (.loc 9 3) (Ofa rfl) <| Wz (.d (.mp (Option.isNone r40_3.1.Links) (mks kv_22 (ml r40_3.1.Links)) (mds (slD (encL enc_GChange)) (ml r40_3.1.Links)))) (Old rfl) <| Wz (.i ((List.length (ml r40_3.1.Links) : Nat) : Int)) (Mml (kv := kv_22) (ev := (slD (encL enc_GChange))) (ml r40_3.1.Links) rfl) <| Wz (.b (decide (((List.length (ml r40_3.1.Links) : Nat) : Int) = 2))) (Obn rfl (fun _ => hb_eql (k := .i64))) <| Wz (.b (decide (((List.length (ml r40_3.1.Links) : Nat) : Int) = 2))) (OpT rfl) ?_
               rcases tf_ (decide (((List.length (ml r40_3.1.Links) : Nat) : Int) = 2)) with hq141_10 | hq141_10
               ·
                replace hm := cT hq141_10 hm
                refine Wz (.b true) (Oq hq141_10 rfl) <| Wz (.agg [(.i r50_5.1.Cap), (.l (encL enc_GChange) r50_5.1.Views), (.l (encL enc_GChange) r50_5.1.Pending), (.d (.mp (Option.isNone r50_5.1.Links) (mks kv_22 (ml r50_5.1.Links)) (mds (slD (encL enc_GChange)) (ml r50_5.1.Links))))]) (Old rfl) ?_
                obtain ⟨r143_10, hr143_10, hm⟩ := bnd hm
                refine Wz (.l enc_GChange r143_10) (Ocf [] [] [] 0 (ok_view_Net_Truth r50_5.1 0 r143_10 hr143_10) (fun a w => Try.call27 a w) rfl trivial) <| Wz (.i ((List.length r143_10 : Nat) : Int)) (Oln rfl) <| Wz (.b (decide (((List.length r143_10 : Nat) : Int) = 0))) (Obn rfl (fun _ => hb_eql (k := .i64))) <| Wz (.b (decide (((List.length r143_10 : Nat) : Int) = 0))) (OpT rfl) ?_
                rcases tf_ (decide (((List.length r143_10 : Nat) : Int) = 0)) with hq147_10 | hq147_10
                ·
                 replace hm := cT hq147_10 hm
                 refine Wz (.b true) (Oq hq147_10 rfl) <| Wz (.agg [(.i r24_0.1.Cap), (.own 1), (.own 2), (.d (.mp (Option.isNone r24_0.1.Links) (mks kv_22 (ml r24_0.1.Links)) (mds (slD (encL enc_GChange)) (ml r24_0.1.Links))))]) (Old rfl) ?_
                 obtain ⟨r149_10, hr149_10, hm⟩ := bnd hm
                 refine Wz (.b r149_10) (Ocp [] [] [1, 2] 0 (ok_view_Net_Idle r24_0.1 r149_10 hr149_10) (plain_triv (by simp [A.Plain, A.Plains, D.Plain, byteD])) (fun a w => Try.call21 a w) rfl trivial) <| Wz (.b r149_10) (OpT rfl) ?_
                 rcases tf_ r149_10 with hq151_10 | hq151_10
                 ·
                  replace hm := cT hq151_10 hm
                  refine Wz (.b true) (Oq hq151_10 rfl) <| Wz (.agg [(.i r50_5.1.Cap), (.l (encL enc_GChange) r50_5.1.Views), (.l (encL enc_GChange) r50_5.1.Pending), (.d (.mp (Option.isNone r50_5.1.Links) (mks kv_22 (ml r50_5.1.Links)) (mds (slD (encL enc_GChange)) (ml r50_5.1.Links))))]) (Old rfl) ?_
                  obtain ⟨r153_10, hr153_10, hm⟩ := bnd hm
                  refine Wz (.b r153_10) (Ocf [] [] [] 0 (ok_view_Net_Idle r50_5.1 r153_10 hr153_10) (fun a w => Try.call21 a w) rfl trivial) <| Wz (.b (!r153_10)) (Ocs (by kernel_rfl) (op_un rfl (a1 := .bool r153_10) (by kernel_rfl) (fun _ => hu_not))) <| Wz (.b (!r153_10)) (OpT rfl) ?_
                  rcases tf_ (!r153_10) with hq156_10 | hq156_10
                  ·
                   replace hm := cT hq156_10 hm
                   refine Wz (.b true) (Oq hq156_10 rfl) <| Wz (.agg [(.i r40_3.1.Cap), (.l (encL enc_GChange) r40_3.1.Views), (.l (encL enc_GChange) r40_3.1.Pending), (.d (.mp (Option.isNone r40_3.1.Links) (mks kv_22 (ml r40_3.1.Links)) (mds (slD (encL enc_GChange)) (ml r40_3.1.Links))))]) (Old rfl) <| Wz (.agg [(.i r40_3.1.Cap), (.l (encL enc_GChange) r40_3.1.Views), (.l (encL enc_GChange) r40_3.1.Pending), (.d (.mp (Option.isNone r40_3.1.Links) (mks kv_22 (ml r40_3.1.Links)) (mds (slD (encL enc_GChange)) (ml r40_3.1.Links))))]) (Old rfl) ?_
                   obtain ⟨r159_10, hr159_10, hm⟩ := bnd hm
                   refine Wz (.b r159_10) (Ocf [] [] [] 0 (ok_view_Same r40_3.1 r40_3.1 r159_10 hr159_10) (fun a w => Try.call29 a w) rfl trivial) <| Wz (.b r159_10) (OpT rfl) ?_
                   rcases tf_ r159_10 with hq161_10 | hq161_10
                   ·
                    replace hm := cT hq161_10 hm
                    refine Wz (.b true) (Oq hq161_10 rfl) <| Wz (.agg [(.i r35_2.1.Cap), (.l (encL enc_GChange) r35_2.1.Views), (.l (encL enc_GChange) r35_2.1.Pending), (.d (.mp (Option.isNone r35_2.1.Links) (mks kv_22 (ml r35_2.1.Links)) (mds (slD (encL enc_GChange)) (ml r35_2.1.Links))))]) (Old rfl) <| Wz (.agg [(.i r40_3.1.Cap), (.l (encL enc_GChange) r40_3.1.Views), (.l (encL enc_GChange) r40_3.1.Pending), (.d (.mp (Option.isNone r40_3.1.Links) (mks kv_22 (ml r40_3.1.Links)) (mds (slD (encL enc_GChange)) (ml r40_3.1.Links))))]) (Old rfl) ?_
                    obtain ⟨r164_10, hr164_10, hm⟩ := bnd hm
                    refine Wz (.b r164_10) (Ocf [] [] [] 0 (ok_view_Same r35_2.1 r40_3.1 r164_10 hr164_10) (fun a w => Try.call29 a w) rfl trivial) <| Wz (.b (!r164_10)) (Ocs (by kernel_rfl) (op_un rfl (a1 := .bool r164_10) (by kernel_rfl) (fun _ => hu_not))) <| Wz (.b (!r164_10)) (OpT rfl) ?_
                    rcases tf_ (!r164_10) with hq167_10 | hq167_10
                    ·
                     replace hm := cT hq167_10 hm
                     refine Wz (.b true) (Oq hq167_10 rfl) <| Wz (.b true) (OpT rfl) <| Wm (.b true) rfl <| Nn <| Rt ?_
                     obtain rfl := Option.some.inj hm
                     exact ret_i []
                    ·
                     replace hm := cF hq167_10 hm
                     refine Wz (.b false) (Oq hq167_10 rfl) <| Wz (.b false) (OpF rfl) <| Wm (.b false) rfl <| Nn <| Rt ?_
                     obtain rfl := Option.some.inj hm
                     exact ret_i []
                   ·
                    replace hm := cF hq161_10 hm
                    refine Wz (.b false) (Oq hq161_10 rfl) <| Wn <| Wn <| Wn <| Wn <| Wz (.b false) (OpF rfl) <| Wm (.b false) rfl <| Wz (.b false) (OpF rfl) <| Wm (.b false) rfl <| Nn <| Rt ?_
                    obtain rfl := Option.some.inj hm
                    exact ret_i []
                  ·
                   replace hm := cF hq156_10 hm
                   refine Wz (.b false) (Oq hq156_10 rfl) <| Wn <| Wn <| Wn <| Wz (.b false) (OpF rfl) <| Wm (.b false) rfl <| Wn <| Wn <| Wn <| Wn <| Wz (.b false) (OpF rfl) <| Wm (.b false) rfl <| Wz (.b false) (OpF rfl) <| Wm (.b false) rfl ?_
                   refine Nn <| Rt ?_
                   obtain rfl := Option.some.inj hm
                   exact ret_i []
                 ·
                  replace hm := cF hq151_10 hm
                  refine Wz (.b false) (Oq hq151_10 rfl) <| Wn <| Wn <| Wn <| Wz (.b false) (OpF rfl) <| Wm (.b false) rfl <| Wn <| Wn <| Wn <| Wz (.b false) (OpF rfl) <| Wm (.b false) rfl <| Wn <| Wn <| Wn ?_
                  refine Wn <| Wz (.b false) (OpF rfl) <| Wm (.b false) rfl <| Wz (.b false) (OpF rfl) <| Wm (.b false) rfl <| Nn <| Rt ?_
                  obtain rfl := Option.some.inj hm
                  exact ret_i []
                ·
                 replace hm := cF hq147_10 hm
                 refine Wz (.b false) (Oq hq147_10 rfl) <| Wn <| Wn <| Wz (.b false) (OpF rfl) <| Wm (.b false) rfl <| Wn <| Wn <| Wn <| Wz (.b false) (OpF rfl) <| Wm (.b false) rfl <| Wn <| Wn <| Wn <| Wz (.b false) (OpF rfl) ?_
                 refine Wm (.b false) rfl <| Wn <| Wn <| Wn <| Wn <| Wz (.b false) (OpF rfl) <| Wm (.b false) rfl <| Wz (.b false) (OpF rfl) <| Wm (.b false) rfl <| Nn <| Rt ?_
                 obtain rfl := Option.some.inj hm
                 exact ret_i []
               ·
                replace hm := cF hq141_10 hm
                refine Wz (.b false) (Oq hq141_10 rfl) <| Wn <| Wn <| Wn <| Wn <| Wz (.b false) (OpF rfl) <| Wm (.b false) rfl <| Wn <| Wn <| Wz (.b false) (OpF rfl) <| Wm (.b false) rfl <| Wn <| Wn <| Wn ?_
                refine Wz (.b false) (OpF rfl) <| Wm (.b false) rfl <| Wn <| Wn <| Wn <| Wz (.b false) (OpF rfl) <| Wm (.b false) rfl <| Wn <| Wn <| Wn <| Wn <| Wz (.b false) (OpF rfl) <| Wm (.b false) rfl <| Wz (.b false) (OpF rfl) ?_
                refine Wm (.b false) rfl <| Nn <| Rt ?_
                obtain rfl := Option.some.inj hm
                exact ret_i []
              ·
               replace hm := cF hq135_10 hm
               refine Wz (.b false) (Oq hq135_10 rfl) <| Wn <| Wn <| Wn <| Wn <| Wz (.b false) (OpF rfl) <| Wm (.b false) rfl <| Wn <| Wn <| Wn <| Wn <| Wz (.b false) (OpF rfl) <| Wm (.b false) rfl <| Wn ?_
               refine Wn <| Wz (.b false) (OpF rfl) <| Wm (.b false) rfl <| Wn <| Wn <| Wn <| Wz (.b false) (OpF rfl) <| Wm (.b false) rfl <| Wn <| Wn <| Wn <| Wz (.b false) (OpF rfl) <| Wm (.b false) rfl <| Wn ?_
               refine Wn <| Wn <| Wn <| Wz (.b false) (OpF rfl) <| Wm (.b false) rfl <| Wz (.b false) (OpF rfl) <| Wm (.b false) rfl <| Nn <| Rt ?_
               obtain rfl := Option.some.inj hm
               exact ret_i []
             ·
              replace hm := cF hq129_10 hm
              refine Wz (.b false) (Oq hq129_10 rfl) <| Wn <| Wn <| Wn <| Wn <| Wz (.b false) (OpF rfl) <| Wm (.b false) rfl <| Wn <| Wn <| Wn <| Wn <| Wz (.b false) (OpF rfl) <| Wm (.b false) rfl <| Wn ?_
              refine Wn <| Wn <| Wn <| Wz (.b false) (OpF rfl) <| Wm (.b false) rfl <| Wn <| Wn <| Wz (.b false) (OpF rfl) <| Wm (.b false) rfl <| Wn <| Wn <| Wn <| Wz (.b false) (OpF rfl) <| Wm (.b false) rfl ?_
              refine Wn <| Wn <| Wn <| Wz (.b false) (OpF rfl) <| Wm (.b false) rfl <| Wn <| Wn <| Wn <| Wn <| Wz (.b false) (OpF rfl) <| Wm (.b false) rfl <| Wz (.b false) (OpF rfl) <| Wm (.b false) rfl <| Nn ?_
              refine Rt ?_
              obtain rfl := Option.some.inj hm
              exact ret_i []
            ·
             replace hm := cF hq124_10 hm
             refine Wz (.b false) (Oq hq124_10 rfl) <| Wn <| Wn <| Wn <| Wz (.b false) (OpF rfl) <| Wm (.b false) rfl <| Wn <| Wn <| Wn <| Wn <| Wz (.b false) (OpF rfl) <| Wm (.b false) rfl <| Wn <| Wn ?_
             refine Wn <| Wn <| Wz (.b false) (OpF rfl) <| Wm (.b false) rfl <| Wn <| Wn <| Wn <| Wn <| Wz (.b false) (OpF rfl) <| Wm (.b false) rfl <| Wn <| Wn <| Wz (.b false) (OpF rfl) <| Wm (.b false) rfl ?_
             refine Wn <| Wn <| Wn <| Wz (.b false) (OpF rfl) <| Wm (.b false) rfl <| Wn <| Wn <| Wn <| Wz (.b false) (OpF rfl) <| Wm (.b false) rfl <| Wn <| Wn <| Wn <| Wn ?_
             refine Wz (.b false) (OpF rfl) <| Wm (.b false) rfl <| Wz (.b false) (OpF rfl) <| Wm (.b false) rfl <| Nn <| Rt ?_
             obtain rfl := Option.some.inj hm
             exact ret_i []
           ·
            replace hm := cF hq119_10 hm
            refine Wz (.b false) (Oq hq119_10 rfl) <| Wn <| Wn <| Wn <| Wz (.b false) (OpF rfl) <| Wm (.b false) rfl <| Wn <| Wn <| Wn <| Wz (.b false) (OpF rfl) <| Wm (.b false) rfl <| Wn <| Wn <| Wn ?_
            refine Wn <| Wz (.b false) (OpF rfl) <| Wm (.b false) rfl <| Wn <| Wn <| Wn <| Wn <| Wz (.b false) (OpF rfl) <| Wm (.b false) rfl <| Wn <| Wn <| Wn <| Wn <| Wz (.b false) (OpF rfl) ?_
            refine Wm (.b false) rfl <| Wn <| Wn <| Wz (.b false) (OpF rfl) <| Wm (.b false) rfl <| Wn <| Wn <| Wn <| Wz (.b false) (OpF rfl) <| Wm (.b false) rfl <| Wn <| Wn <| Wn <| Wz (.b false) (OpF rfl) ?_
            refine Wm (.b false) rfl <| Wn <| Wn <| Wn <| Wn <| Wz (.b false) (OpF rfl) <| Wm (.b false) rfl <| Wz (.b false) (OpF rfl) <| Wm (.b false) rfl <| Nn <| Rt ?_
            obtain rfl := Option.some.inj hm
            exact ret_i []
          ·
           replace hm := cF hq114_10 hm
           refine Wz (.b false) (Oq hq114_10 rfl) <| Wn <| Wn <| Wn <| Wz (.b false) (OpF rfl) <| Wm (.b false) rfl <| Wn <| Wn <| Wn <| Wz (.b false) (OpF rfl) <| Wm (.b false) rfl <| Wn <| Wn <| Wn ?_
           refine Wz (.b false) (OpF rfl) <| Wm (.b false) rfl <| Wn <| Wn <| Wn <| Wn <| Wz (.b false) (OpF rfl) <| Wm (.b false) rfl <| Wn <| Wn <| Wn <| Wn <| Wz (.b false) (OpF rfl) <| Wm (.b false) rfl ?_
           refine Wn <| Wn <| Wn <| Wn <| Wz (.b false) (OpF rfl) <| Wm (.b false) rfl <| Wn <| Wn <| Wz (.b false) (OpF rfl) <| Wm (.b false) rfl <| Wn <| Wn <| Wn <| Wz (.b false) (OpF rfl) ?_
           refine Wm (.b false) rfl <| Wn <| Wn <| Wn <| Wz (.b false) (OpF rfl) <| Wm (.b false) rfl <| Wn <| Wn <| Wn <| Wn <| Wz (.b false) (OpF rfl) <| Wm (.b false) rfl <| Wz (.b false) (OpF rfl) <| Wm (.b false) rfl ?_
           refine Nn <| Rt ?_
           obtain rfl := Option.some.inj hm
           exact ret_i []
         ·
          replace hm := cF hq109_10 hm
          refine Wz (.b false) (Oq hq109_10 rfl) <| Wn <| Wn <| Wn <| Wz (.b false) (OpF rfl) <| Wm (.b false) rfl <| Wn <| Wn <| Wn <| Wz (.b false) (OpF rfl) <| Wm (.b false) rfl <| Wn <| Wn <| Wn ?_
          refine Wz (.b false) (OpF rfl) <| Wm (.b false) rfl <| Wn <| Wn <| Wn <| Wz (.b false) (OpF rfl) <| Wm (.b false) rfl <| Wn <| Wn <| Wn <| Wn <| Wz (.b false) (OpF rfl) <| Wm (.b false) rfl <| Wn ?_
          refine Wn <| Wn <| Wn <| Wz (.b false) (OpF rfl) <| Wm (.b false) rfl <| Wn <| Wn <| Wn <| Wn <| Wz (.b false) (OpF rfl) <| Wm (.b false) rfl <| Wn <| Wn <| Wz (.b false) (OpF rfl) ?_
          refine Wm (.b false) rfl <| Wn <| Wn <| Wn <| Wz (.b false) (OpF rfl) <| Wm (.b false) rfl <| Wn <| Wn <| Wn <| Wz (.b false) (OpF rfl) <| Wm (.b false) rfl <| Wn <| Wn <| Wn ?_
          refine Wn <| Wz (.b false) (OpF rfl) <| Wm (.b false) rfl <| Wz (.b false) (OpF rfl) <| Wm (.b false) rfl <| Nn <| Rt ?_
          obtain rfl := Option.some.inj hm
          exact ret_i []
        ·
         replace hm := cF hq105_10 hm
         refine Wz (.b false) (Oq hq105_10 rfl) <| Wn <| Wn <| Wz (.b false) (OpF rfl) <| Wm (.b false) rfl <| Wn <| Wn <| Wn <| Wz (.b false) (OpF rfl) <| Wm (.b false) rfl <| Wn <| Wn <| Wn <| Wz (.b false) (OpF rfl) ?_
         refine Wm (.b false) rfl <| Wn <| Wn <| Wn <| Wz (.b false) (OpF rfl) <| Wm (.b false) rfl <| Wn <| Wn <| Wn <| Wz (.b false) (OpF rfl) <| Wm (.b false) rfl <| Wn <| Wn <| Wn ?_
         refine Wn <| Wz (.b false) (OpF rfl) <| Wm (.b false) rfl <| Wn <| Wn <| Wn <| Wn <| Wz (.b false) (OpF rfl) <| Wm (.b false) rfl <| Wn <| Wn <| Wn <| Wn <| Wz (.b false) (OpF rfl) ?_
         refine Wm (.b false) rfl <| Wn <| Wn <| Wz (.b false) (OpF rfl) <| Wm (.b false) rfl <| Wn <| Wn <| Wn <| Wz (.b false) (OpF rfl) <| Wm (.b false) rfl <| Wn <| Wn <| Wn <| Wz (.b false) (OpF rfl) ?_
         refine Wm (.b false) rfl <| Wn <| Wn <| Wn <| Wn <| Wz (.b false) (OpF rfl) <| Wm (.b false) rfl <| Wz (.b false) (OpF rfl) <| Wm (.b false) rfl <| Nn <| Rt ?_
         obtain rfl := Option.some.inj hm
         exact ret_i []
       ·
        replace hm := cF hq101_10 hm
        refine Wz (.b false) (Oq hq101_10 rfl) <| Wn <| Wn <| Wz (.b false) (OpF rfl) <| Wm (.b false) rfl <| Wn <| Wn <| Wz (.b false) (OpF rfl) <| Wm (.b false) rfl <| Wn <| Wn <| Wn <| Wz (.b false) (OpF rfl) <| Wm (.b false) rfl ?_
        refine Wn <| Wn <| Wn <| Wz (.b false) (OpF rfl) <| Wm (.b false) rfl <| Wn <| Wn <| Wn <| Wz (.b false) (OpF rfl) <| Wm (.b false) rfl <| Wn <| Wn <| Wn <| Wz (.b false) (OpF rfl) ?_
        refine Wm (.b false) rfl <| Wn <| Wn <| Wn <| Wn <| Wz (.b false) (OpF rfl) <| Wm (.b false) rfl <| Wn <| Wn <| Wn <| Wn <| Wz (.b false) (OpF rfl) <| Wm (.b false) rfl <| Wn ?_
        refine Wn <| Wn <| Wn <| Wz (.b false) (OpF rfl) <| Wm (.b false) rfl <| Wn <| Wn <| Wz (.b false) (OpF rfl) <| Wm (.b false) rfl <| Wn <| Wn <| Wn <| Wz (.b false) (OpF rfl) <| Wm (.b false) rfl ?_
        refine Wn <| Wn <| Wn <| Wz (.b false) (OpF rfl) <| Wm (.b false) rfl <| Wn <| Wn <| Wn <| Wn <| Wz (.b false) (OpF rfl) <| Wm (.b false) rfl <| Wz (.b false) (OpF rfl) <| Wm (.b false) rfl <| Nn ?_
        refine Rt ?_
        obtain rfl := Option.some.inj hm
        exact ret_i []
      ·
       replace hm := cF hq97_10 hm
       refine Wz (.b false) (Oq hq97_10 rfl) <| Wn <| Wn <| Wz (.b false) (OpF rfl) <| Wm (.b false) rfl <| Wn <| Wn <| Wz (.b false) (OpF rfl) <| Wm (.b false) rfl <| Wn <| Wn <| Wz (.b false) (OpF rfl) <| Wm (.b false) rfl <| Wn ?_
       refine Wn <| Wn <| Wz (.b false) (OpF rfl) <| Wm (.b false) rfl <| Wn <| Wn <| Wn <| Wz (.b false) (OpF rfl) <| Wm (.b false) rfl <| Wn <| Wn <| Wn <| Wz (.b false) (OpF rfl) <| Wm (.b false) rfl ?_
       refine Wn <| Wn <| Wn <| Wz (.b false) (OpF rfl) <| Wm (.b false) rfl <| Wn <| Wn <| Wn <| Wn <| Wz (.b false) (OpF rfl) <| Wm (.b false) rfl <| Wn <| Wn <| Wn ?_
       refine Wn <| Wz (.b false) (OpF rfl) <| Wm (.b false) rfl <| Wn <| Wn <| Wn <| Wn <| Wz (.b false) (OpF rfl) <| Wm (.b false) rfl <| Wn <| Wn <| Wz (.b false) (OpF rfl) <| Wm (.b false) rfl <| Wn ?_
       refine Wn <| Wn <| Wz (.b false) (OpF rfl) <| Wm (.b false) rfl <| Wn <| Wn <| Wn <| Wz (.b false) (OpF rfl) <| Wm (.b false) rfl <| Wn <| Wn <| Wn <| Wn <| Wz (.b false) (OpF rfl) ?_
       refine Wm (.b false) rfl <| Wz (.b false) (OpF rfl) <| Wm (.b false) rfl <| Nn <| Rt ?_
       obtain rfl := Option.some.inj hm
       exact ret_i []
     ·
      replace hm := cF hq93_10 hm
      refine Wz (.b false) (Oq hq93_10 rfl) <| Wn <| Wn <| Wz (.b false) (OpF rfl) <| Wm (.b false) rfl <| Wn <| Wn <| Wz (.b false) (OpF rfl) <| Wm (.b false) rfl <| Wn <| Wn <| Wz (.b false) (OpF rfl) <| Wm (.b false) rfl <| Wn ?_
      refine Wn <| Wz (.b false) (OpF rfl) <| Wm (.b false) rfl <| Wn <| Wn <| Wn <| Wz (.b false) (OpF rfl) <| Wm (.b false) rfl <| Wn <| Wn <| Wn <| Wz (.b false) (OpF rfl) <| Wm (.b false) rfl <| Wn ?_
      refine Wn <| Wn <| Wz (.b false) (OpF rfl) <| Wm (.b false) rfl <| Wn <| Wn <| Wn <| Wz (.b false) (OpF rfl) <| Wm (.b false) rfl <| Wn <| Wn <| Wn <| Wn <| Wz (.b false) (OpF rfl) ?_
      refine Wm (.b false) rfl <| Wn <| Wn <| Wn <| Wn <| Wz (.b false) (OpF rfl) <| Wm (.b false) rfl <| Wn <| Wn <| Wn <| Wn <| Wz (.b false) (OpF rfl) <| Wm (.b false) rfl <| Wn ?_
      refine Wn <| Wz (.b false) (OpF rfl) <| Wm (.b false) rfl <| Wn <| Wn <| Wn <| Wz (.b false) (OpF rfl) <| Wm (.b false) rfl <| Wn <| Wn <| Wn <| Wz (.b false) (OpF rfl) <| Wm (.b false) rfl <| Wn ?_
      refine Wn <| Wn <| Wn <| Wz (.b false) (OpF rfl) <| Wm (.b false) rfl <| Wz (.b false) (OpF rfl) <| Wm (.b false) rfl <| Nn <| Rt ?_
      obtain rfl := Option.some.inj hm
      exact ret_i []
    ·
     replace hm := cF hq89_10 hm
     refine Wz (.b false) (Oq hq89_10 rfl) <| Wn <| Wn <| Wz (.b false) (OpF rfl) <| Wm (.b false) rfl <| Wn <| Wn <| Wz (.b false) (OpF rfl) <| Wm (.b false) rfl <| Wn <| Wn <| Wz (.b false) (OpF rfl) <| Wm (.b false) rfl <| Wn ?_
     refine Wn <| Wz (.b false) (OpF rfl) <| Wm (.b false) rfl <| Wn <| Wn <| Wz (.b false) (OpF rfl) <| Wm (.b false) rfl <| Wn <| Wn <| Wn <| Wz (.b false) (OpF rfl) <| Wm (.b false) rfl <| Wn <| Wn ?_
     refine Wn <| Wz (.b false) (OpF rfl) <| Wm (.b false) rfl <| Wn <| Wn <| Wn <| Wz (.b false) (OpF rfl) <| Wm (.b false) rfl <| Wn <| Wn <| Wn <| Wz (.b false) (OpF rfl) <| Wm (.b false) rfl <| Wn ?_
     refine Wn <| Wn <| Wn <| Wz (.b false) (OpF rfl) <| Wm (.b false) rfl <| Wn <| Wn <| Wn <| Wn <| Wz (.b false) (OpF rfl) <| Wm (.b false) rfl <| Wn <| Wn <| Wn ?_
     refine Wn <| Wz (.b false) (OpF rfl) <| Wm (.b false) rfl <| Wn <| Wn <| Wz (.b false) (OpF rfl) <| Wm (.b false) rfl <| Wn <| Wn <| Wn <| Wz (.b false) (OpF rfl) <| Wm (.b false) rfl <| Wn <| Wn ?_
     refine Wn <| Wz (.b false) (OpF rfl) <| Wm (.b false) rfl <| Wn <| Wn <| Wn <| Wn <| Wz (.b false) (OpF rfl) <| Wm (.b false) rfl <| Wz (.b false) (OpF rfl) <| Wm (.b false) rfl <| Nn <| Rt ?_
     obtain rfl := Option.some.inj hm
     exact ret_i []
   ·
    replace hm := cF hq85_10 hm
    refine Wz (.b false) (Oq hq85_10 rfl) <| Wn <| Wn <| Wz (.b false) (OpF rfl) <| Wm (.b false) rfl <| Wn <| Wn <| Wz (.b false) (OpF rfl) <| Wm (.b false) rfl <| Wn <| Wn <| Wz (.b false) (OpF rfl) <| Wm (.b false) rfl <| Wn ?_
    refine Wn <| Wz (.b false) (OpF rfl) <| Wm (.b false) rfl <| Wn <| Wn <| Wz (.b false) (OpF rfl) <| Wm (.b false) rfl <| Wn <| Wn <| Wz (.b false) (OpF rfl) <| Wm (.b false) rfl <| Wn <| Wn <| Wn ?_
    refine Wz (.b false) (OpF rfl) <| Wm (.b false) rfl <| Wn <| Wn <| Wn <| Wz (.b false) (OpF rfl) <| Wm (.b false) rfl <| Wn <| Wn <| Wn <| Wz (.b false) (OpF rfl) <| Wm (.b false) rfl <| Wn <| Wn ?_
    refine Wn <| Wz (.b false) (OpF rfl) <| Wm (.b false) rfl <| Wn <| Wn <| Wn <| Wn <| Wz (.b false) (OpF rfl) <| Wm (.b false) rfl <| Wn <| Wn <| Wn <| Wn <| Wz (.b false) (OpF rfl) ?_
    refine Wm (.b false) rfl <| Wn <| Wn <| Wn <| Wn <| Wz (.b false) (OpF rfl) <| Wm (.b false) rfl <| Wn <| Wn <| Wz (.b false) (OpF rfl) <| Wm (.b false) rfl <| Wn <| Wn <| Wn ?_
    refine Wz (.b false) (OpF rfl) <| Wm (.b false) rfl <| Wn <| Wn <| Wn <| Wz (.b false) (OpF rfl) <| Wm (.b false) rfl <| Wn <| Wn <| Wn <| Wn <| Wz (.b false) (OpF rfl) <| Wm (.b false) rfl <| Wz (.b false) (OpF rfl) ?_
    refine Wm (.b false) rfl <| Nn <| Rt ?_
    obtain rfl := Option.some.inj hm
    exact ret_i []
  ·
   replace hm := cF hq81_10 hm
   refine Wz (.b false) (Oq hq81_10 rfl) <| Wn <| Wn <| Wz (.b false) (OpF rfl) <| Wm (.b false) rfl <| Wn <| Wn <| Wz (.b false) (OpF rfl) <| Wm (.b false) rfl <| Wn <| Wn <| Wz (.b false) (OpF rfl) <| Wm (.b false) rfl <| Wn ?_
   refine Wn <| Wz (.b false) (OpF rfl) <| Wm (.b false) rfl <| Wn <| Wn <| Wz (.b false) (OpF rfl) <| Wm (.b false) rfl <| Wn <| Wn <| Wz (.b false) (OpF rfl) <| Wm (.b false) rfl <| Wn <| Wn <| Wz (.b false) (OpF rfl) ?_
   refine Wm (.b false) rfl <| Wn <| Wn <| Wn <| Wz (.b false) (OpF rfl) <| Wm (.b false) rfl <| Wn <| Wn <| Wn <| Wz (.b false) (OpF rfl) <| Wm (.b false) rfl <| Wn <| Wn <| Wn ?_
   refine Wz (.b false) (OpF rfl) <| Wm (.b false) rfl <| Wn <| Wn <| Wn <| Wz (.b false) (OpF rfl) <| Wm (.b false) rfl <| Wn <| Wn <| Wn <| Wn <| Wz (.b false) (OpF rfl) <| Wm (.b false) rfl <| Wn ?_
   refine Wn <| Wn <| Wn <| Wz (.b false) (OpF rfl) <| Wm (.b false) rfl <| Wn <| Wn <| Wn <| Wn <| Wz (.b false) (OpF rfl) <| Wm (.b false) rfl <| Wn <| Wn <| Wz (.b false) (OpF rfl) ?_
   refine Wm (.b false) rfl <| Wn <| Wn <| Wn <| Wz (.b false) (OpF rfl) <| Wm (.b false) rfl <| Wn <| Wn <| Wn <| Wz (.b false) (OpF rfl) <| Wm (.b false) rfl <| Wn <| Wn <| Wn ?_
   refine Wn <| Wz (.b false) (OpF rfl) <| Wm (.b false) rfl <| Wz (.b false) (OpF rfl) <| Wm (.b false) rfl <| Nn <| Rt ?_
   obtain rfl := Option.some.inj hm
   exact ret_i []
 ·
  replace hm := cF hq77_10 hm
  refine Wz (.b false) (Oq hq77_10 rfl) <| Wn <| Wn <| Wz (.b false) (OpF rfl) <| Wm (.b false) rfl <| Wn <| Wn <| Wz (.b false) (OpF rfl) <| Wm (.b false) rfl <| Wn <| Wn <| Wz (.b false) (OpF rfl) <| Wm (.b false) rfl <| Wn ?_
  refine Wn <| Wz (.b false) (OpF rfl) <| Wm (.b false) rfl <| Wn <| Wn <| Wz (.b false) (OpF rfl) <| Wm (.b false) rfl <| Wn <| Wn <| Wz (.b false) (OpF rfl) <| Wm (.b false) rfl <| Wn <| Wn <| Wz (.b false) (OpF rfl) ?_
  refine Wm (.b false) rfl <| Wn <| Wn <| Wz (.b false) (OpF rfl) <| Wm (.b false) rfl <| Wn <| Wn <| Wn <| Wz (.b false) (OpF rfl) <| Wm (.b false) rfl <| Wn <| Wn <| Wn <| Wz (.b false) (OpF rfl) ?_
  refine Wm (.b false) rfl <| Wn <| Wn <| Wn <| Wz (.b false) (OpF rfl) <| Wm (.b false) rfl <| Wn <| Wn <| Wn <| Wz (.b false) (OpF rfl) <| Wm (.b false) rfl <| Wn <| Wn <| Wn ?_
  refine Wn <| Wz (.b false) (OpF rfl) <| Wm (.b false) rfl <| Wn <| Wn <| Wn <| Wn <| Wz (.b false) (OpF rfl) <| Wm (.b false) rfl <| Wn <| Wn <| Wn <| Wn <| Wz (.b false) (OpF rfl) ?_
  refine Wm (.b false) rfl <| Wn <| Wn <| Wz (.b false) (OpF rfl) <| Wm (.b false) rfl <| Wn <| Wn <| Wn <| Wz (.b false) (OpF rfl) <| Wm (.b false) rfl <| Wn <| Wn <| Wn <| Wz (.b false) (OpF rfl) ?_
  refine Wm (.b false) rfl <| Wn <| Wn <| Wn <| Wn <| Wz (.b false) (OpF rfl) <| Wm (.b false) rfl <| Wz (.b false) (OpF rfl) <| Wm (.b false) rfl <| Nn <| Rt ?_
  obtain rfl := Option.some.inj hm
  exact ret_i []

theorem ok_w26_Own (p0 : (List GChange)) (r : (List GChange)) (h : m_w26_Own p0 = some r) : GCall Try.prog 9 [(.l enc_GChange p0)] [] (.own 0) [(Ar 84 3 enc_GChange r)] := by
 refine GCall.of_body (n := 19) (rs := [(.tmp 2)]) Try.func9 rfl rfl rfl <| Ato ⟨.l enc_GChange p0::tu 18 [], [], 0⟩ ?_
 have hm := h
 unfold m_w26_Own at hm
 refine Sx <| Wm (.d .nil) rfl <| Nk 1 0 ⟨.l enc_GChange p0::tp 18 [], [], 0⟩ <| Sx <| Wm (.d .nil) rfl <| Nk 9 0 ⟨.l enc_GChange p0::tp 2 (.d .nil::tp 15 []), [], 0⟩ <| Sq <| Sx <| Wm (.i 0) rfl <| Nk 25 0 ⟨.l enc_GChange p0::tp 2 (.d .nil::.i 0::tp 14 []), [], 0⟩ <| Bk <| Aow 3 84 3 ⟨.l enc_GChange p0::tp 2 (.own 0::.i 0::tp 14 []), [(Ar 84 3 enc_GChange ([] : List GChange))], 0⟩ ?_
 refine AWP.loopI (α := Nat × (List GChange) × Int)
   (fun (fu_0, y3_0, y4_0) => (⟨.l enc_GChange p0::tp 2 (.own 0::.i y4_0::tp 14 []), [(Ar 84 3 enc_GChange y3_0)], 0⟩ : St))
   (fun (fu_0, y3_0, y4_0) => m_w26_Own_l0 p0 fu_0 y3_0 y4_0 = some r)
   (fun (fu_0, y3_0, y4_0) => fu_0) (1152921504606846976, ([] : List GChange), 0)
   (Weak.toK 25 0 0 [0]) hm ?_
 rintro ⟨fu_0, y3_0, y4_0⟩ n_0 hm ih_0
 try dsimp only at hm ih_0 ⊢
 cases fu_0 with
 | zero => exact absurd hm (by unfold m_w26_Own_l0; simp)
 | succ fu_0 =>
  unfold m_w26_Own_l0 at hm
  refine Sq <| Sx <| Wm (.i y4_0) rfl <| Wm (.l enc_GChange p0) rfl <| Wz (.i ((List.length p0 : Nat) : Int)) (Oln rfl) <| Wz (.b (decide (y4_0 < ((List.length p0 : Nat) : Int)))) (Obn rfl (fun _ => hb_lss (k := .i64))) <| Nk 281 1 ⟨.l enc_GChange p0::tp 2 (.own 0::.i y4_0::tp 3 (.b (decide (y4_0 < ((List.length p0 : Nat) : Int)))::tp 10 [])), [(Ar 84 3 enc_GChange y3_0)], 0⟩ ?_
  rcases tf_ (decide (y4_0 < ((List.length p0 : Nat) : Int))) with hc8_3 | hc8_3
  ·
   replace hm := cT hc8_3 hm
   refine AiT hc8_3 <| Sk <| Tk 25 1 ⟨.l enc_GChange p0::tp 2 (.own 0::.i y4_0::tp 14 []), [(Ar 84 3 enc_GChange y3_0)], 0⟩ <| Sq <| Bk <| Tx <| Wm (.own 0) rfl <| Wm (.l enc_GChange p0) rfl <| Wm (.i y4_0) rfl ?_
   obtain ⟨x14_2, hx14_2, hm⟩ := bnd hm
   obtain ⟨hx14_2i, hx14_2g⟩ := geti_some hx14_2
   refine Wz (.d (.ref (List.drop ((Int.toNat y4_0) * 3) (flatD enc_GChange p0)))) (Oia rfl enc_GChange_len hx14_2i hx14_2g) <| Wz (.agg [(.i x14_2.Loc), (.i x14_2.Time), (.i x14_2.N)]) (Lf rfl enc_GChange_len hx14_2g) <| Wy (.own 1) [(1, (Ar 84 3 enc_GChange ([x14_2] : List GChange)))] (Obs rfl) ?_
   obtain ⟨a17_2, ha17_2, hm⟩ := bnd hm; obtain ⟨ha17_2e, ha17_2l⟩ := app_some ha17_2
   refine Wy (.own 2) [(0, .gone), (2, (Ar 84 3 enc_GChange a17_2))] (Oap rfl elemOK_34 enc_GChange_len ha17_2e ha17_2l) <| Wm (.own 2) rfl <| Wn0 <| Ino <| Tk 25 4 ⟨.l enc_GChange p0::tp 2 (.own 2::.i y4_0::tp 14 []), [.gone, .gone, (Ar 84 3 enc_GChange a17_2)], 0⟩ <| Tx <| Wm (.i y4_0) rfl <| Wz (.i (W6 (y4_0 + 1))) (Obn rfl (fun _ => hb_add (k := .i64))) <| Wm (.i (W6 (y4_0 + 1))) rfl <| Wn0 <| RoundK.normal ?_
   exact Rounds.weak (Weak.toK 25 0 0 [2]) (ih_0 (fu_0, a17_2, (W6 (y4_0 + 1))) hm (Nat.lt_succ_self _))
  ·
   replace hm := cF hc8_3 hm
   refine AiF hc8_3 <| AWP.exit <| Then.exit <| RoundK.exit <| InBlock.same <| Tk 8 1 ⟨tp 3 (.own 0::tp 15 []), [(Ar 84 3 enc_GChange y3_0)], 0⟩ <| Sx <| Wm (.own 0) rfl <| Wm (.own 0) rfl <| Nn <| Rt ?_
   obtain rfl := Option.some.inj hm
   exact ret_i [0]

theorem ok_r26_At (p0 : (List GChange)) (p1 : Int) (p2 : Int) (r : Int) (h : m_r26_At p0 p1 p2 = some r) : GCall Try.prog 66 [(.l enc_GChange p0), (.i p1), (.i p2)] [] (.i r) [] := by
 refine GCall.of_body (n := 39) (rs := [(.tmp 6)]) Try.func66 rfl rfl rfl <| Ato ⟨.l enc_GChange p0::.i p1::.i p2::tu 36 [], [], 0⟩ ?_
 have hm := h
 unfold m_r26_At at hm
 refine Sx <| Wm (.i 0) rfl <| Nk 7 0 ⟨.l enc_GChange p0::.i p1::.i p2::tp 36 [], [], 0⟩ <| Sx <| Wm (.i 0) rfl <| Nk 135 0 ⟨.l enc_GChange p0::.i p1::.i p2::tp 4 (.i 0::tp 31 []), [], 0⟩ <| Sq <| Sx <| Wm (.i 0) rfl <| Nk 391 0 ⟨.l enc_GChange p0::.i p1::.i p2::tp 4 (.i 0::.i 0::tp 30 []), [], 0⟩ <| Bk ?_
 refine AWP.loopI (α := Nat × Int × Int)
   (fun (fu_0, y7_0, y8_0) => (⟨.l enc_GChange p0::.i p1::.i p2::tp 4 (.i y7_0::.i y8_0::tp 30 []), [], 0⟩ : St))
   (fun (fu_0, y7_0, y8_0) => m_r26_At_l0 p0 p1 p2 fu_0 y7_0 y8_0 = some r)
   (fun (fu_0, y7_0, y8_0) => fu_0) (1152921504606846976, 0, 0)
   (Weak.toK 391 0 0 []) hm ?_
 rintro ⟨fu_0, y7_0, y8_0⟩ n_0 hm ih_0
 try dsimp only at hm ih_0 ⊢
 cases fu_0 with
 | zero => exact absurd hm (by unfold m_r26_At_l0; simp)
 | succ fu_0 =>
  unfold m_r26_At_l0 at hm
  refine Sq <| Sx <| Wm (.i y8_0) rfl <| Wm (.l enc_GChange p0) rfl <| Wz (.i ((List.length p0 : Nat) : Int)) (Oln rfl) <| Wz (.b (decide (y8_0 < ((List.length p0 : Nat) : Int)))) (Obn rfl (fun _ => hb_lss (k := .i64))) <| Nk 4487 0 ⟨.l enc_GChange p0::.i p1::.i p2::tp 4 (.i y7_0::.i y8_0::tp 3 (.b (decide (y8_0 < ((List.length p0 : Nat) : Int)))::tp 26 [])), [], 0⟩ ?_
  rcases tf_ (decide (y8_0 < ((List.length p0 : Nat) : Int))) with hc12_4 | hc12_4
  ·
   replace hm := cT hc12_4 hm
   refine AiT hc12_4 <| Sk <| Tk 391 0 ⟨.l enc_GChange p0::.i p1::.i p2::tp 4 (.i y7_0::.i y8_0::tp 30 []), [], 0⟩ <| Sq <| Bk <| Sx <| Wm (.l enc_GChange p0) rfl <| Wm (.i y8_0) rfl ?_
   obtain ⟨x17_2, hx17_2, hm⟩ := bnd hm
   obtain ⟨hx17_2i, hx17_2g⟩ := geti_some hx17_2
   refine Wz (.d (.ref (List.drop ((Int.toNat y8_0) * 3) (flatD enc_GChange p0)))) (Oia rfl enc_GChange_len hx17_2i hx17_2g) <| Wz (.d (.ref (List.drop ((Int.toNat y8_0) * 3) (flatD enc_GChange p0)))) (Ofa rfl) <| Wz (.i x17_2.Loc) (Lf1 rfl enc_GChange_len hx17_2g) <| Wm (.i p1) rfl <| Wz (.b (decide (x17_2.Loc = p1))) (Obn rfl (fun _ => hb_eql (k := .i64))) ?_
   rcases tf_ (decide (x17_2.Loc = p1)) with hq22_2 | hq22_2
   ·
    replace hm := cT hq22_2 hm
    refine Wz (.b true) (Oq hq22_2 rfl) <| Wm (.l enc_GChange p0) rfl <| Wm (.i y8_0) rfl ?_
    obtain ⟨x25_2, hx25_2, hm⟩ := bnd hm
    obtain ⟨hx25_2i, hx25_2g⟩ := geti_some hx25_2
    refine Wz (.d (.ref (List.drop ((Int.toNat y8_0) * 3) (flatD enc_GChange p0)))) (Oia rfl enc_GChange_len hx25_2i hx25_2g) <| Wz (.d (.ref (List.drop 1 (List.drop ((Int.toNat y8_0) * 3) (flatD enc_GChange p0))))) (Ofa rfl) <| Wz (.i x25_2.Time) (Lfk1 1 rfl enc_GChange_len hx25_2g) <| Wm (.i p2) rfl <| Wz (.b (decide (x25_2.Time = p2))) (Obn rfl (fun _ => hb_eql (k := .i64))) <| Wz (.b (decide (x25_2.Time = p2))) (OpT rfl) <| Nk 1073742215 0 ⟨.l enc_GChange p0::.i p1::.i p2::tp 4 (.i y7_0::.i y8_0::tp 21 (.b (decide (x25_2.Time = p2))::tp 8 [])), [], 0⟩ ?_
    rcases tf_ (decide (x25_2.Time = p2)) with hc30_5 | hc30_5
    ·
     replace hm := cT hc30_5 hm
     refine AiT hc30_5 <| Tx <| Wm (.i y7_0) rfl <| Wm (.l enc_GChange p0) rfl <| Wm (.i y8_0) rfl ?_
     obtain ⟨x34_3, hx34_3, hm⟩ := bnd hm
     obtain ⟨hx34_3i, hx34_3g⟩ := geti_some hx34_3
     refine Wz (.d (.ref (List.drop ((Int.toNat y8_0) * 3) (flatD enc_GChange p0)))) (Oia rfl enc_GChange_len hx34_3i hx34_3g) <| Wz (.d (.ref (List.drop 2 (List.drop ((Int.toNat y8_0) * 3) (flatD enc_GChange p0))))) (Ofa rfl) <| Wz (.i x34_3.N) (Lfk1 2 rfl enc_GChange_len hx34_3g) <| Wz (.i (W6 (y7_0 + x34_3.N))) (Obn rfl (fun _ => hb_add (k := .i64))) <| Wm (.i (W6 (y7_0 + x34_3.N))) rfl <| Wn0 <| Ino <| Tk 391 0 ⟨.l enc_GChange p0::.i p1::.i p2::tp 4 (.i (W6 (y7_0 + x34_3.N))::.i y8_0::tp 30 []), [], 0⟩ <| Tx <| Wm (.i y8_0) rfl <| Wz (.i (W6 (y8_0 + 1))) (Obn rfl (fun _ => hb_add (k := .i64))) <| Wm (.i (W6 (y8_0 + 1))) rfl <| Wn0 <| RoundK.normal ?_
     exact Rounds.weak (Weak.toK 391 0 0 []) (ih_0 (fu_0, (W6 (y7_0 + x34_3.N)), (W6 (y8_0 + 1))) hm (Nat.lt_succ_self _))
    ·
     replace hm := cF hc30_5 hm
     refine AiF hc30_5 <| Sk <| Ino <| Tk 391 0 ⟨.l enc_GChange p0::.i p1::.i p2::tp 4 (.i y7_0::.i y8_0::tp 30 []), [], 0⟩ <| Tx <| Wm (.i y8_0) rfl <| Wz (.i (W6 (y8_0 + 1))) (Obn rfl (fun _ => hb_add (k := .i64))) <| Wm (.i (W6 (y8_0 + 1))) rfl <| Wn0 <| RoundK.normal ?_
     exact Rounds.weak (Weak.toK 391 0 0 []) (ih_0 (fu_0, y7_0, (W6 (y8_0 + 1))) hm (Nat.lt_succ_self _))
   ·
    replace hm := cF hq22_2 hm
    refine Wz (.b false) (Oq hq22_2 rfl) <| Wn <| Wn <| Wn <| Wn <| Wn <| Wn <| Wn <| Wz (.b false) (OpF rfl) <| Nk 1073742215 0 ⟨.l enc_GChange p0::.i p1::.i p2::tp 4 (.i y7_0::.i y8_0::tp 21 (.b false::tp 8 [])), [], 0⟩ <| AWP.if_ false (by kernel_rfl) <| Sk <| Ino <| Tk 391 0 ⟨.l enc_GChange p0::.i p1::.i p2::tp 4 (.i y7_0::.i y8_0::tp 30 []), [], 0⟩ ?_
    refine Tx <| Wm (.i y8_0) rfl <| Wz (.i (W6 (y8_0 + 1))) (Obn rfl (fun _ => hb_add (k := .i64))) <| Wm (.i (W6 (y8_0 + 1))) rfl <| Wn0 <| RoundK.normal ?_
    exact Rounds.weak (Weak.toK 391 0 0 []) (ih_0 (fu_0, y7_0, (W6 (y8_0 + 1))) hm (Nat.lt_succ_self _))
  ·
   replace hm := cF hc12_4 hm
   refine AiF hc12_4 <| AWP.exit <| Then.exit <| RoundK.exit <| InBlock.same <| Tk 128 0 ⟨tp 7 (.i y7_0::tp 31 []), [], 0⟩ <| Sx <| Wm (.i y7_0) rfl <| Wm (.i y7_0) rfl <| Nn <| Rt ?_
   obtain rfl := Option.some.inj hm
   exact ret_i []

theorem ok_r26_before (p0 : GChange) (p1 : GChange) (r : Bool) (h : m_r26_before p0 p1 = some r) : GCall Try.prog 67 [(.agg [(.i p0.Loc), (.i p0.Time), (.i p0.N)]), (.agg [(.i p1.Loc), (.i p1.Time), (.i p1.N)])] [] (.b r) [] := by
 refine GCall.of_body (n := 24) (rs := [(.tmp 4)]) Try.func67 rfl rfl rfl <| Ato ⟨.agg [(.i p0.Loc), (.i p0.Time), (.i p0.N)]::.agg [(.i p1.Loc), (.i p1.Time), (.i p1.N)]::tu 22 [], [], 0⟩ ?_
 have hm := h
 unfold m_r26_before at hm
 refine Sx <| Wy (.loc 0 0) [(0, (.box [(.i p0.Loc), (.i p0.Time), (.i p0.N)]))] (Obx rfl) <| Wy (.loc 1 0) [(1, (.box [(.i p1.Loc), (.i p1.Time), (.i p1.N)]))] (Obx rfl) <| Wm (.b false) rfl <| Nk 12 3 ⟨tp 2 (.loc 0 0::.loc 1 0::tp 20 []), [(.box [(.i p0.Loc), (.i p0.Time), (.i p0.N)]), (.box [(.i p1.Loc), (.i p1.Time), (.i p1.N)])], 0⟩ <| Sx <| Wz (.loc 0 0) (Ofa rfl) <| Wz (.i p0.Loc) (Old rfl) <| Wz (.loc 1 0) (Ofa rfl) <| Wz (.i p1.Loc) (Old rfl) <| Wz (.b (decide (p0.Loc < p1.Loc))) (Obn rfl (fun _ => hb_lss (k := .i64))) ?_
 rcases tf_ (decide (p0.Loc < p1.Loc)) with hq10_0 | hq10_0
 ·
  replace hm := cT hq10_0 hm
  refine Wz (.b true) (Oq hq10_0 rfl) <| Wn <| Wn <| Wn <| Wn <| Wn <| Wn <| Wn <| Wn <| Wn <| Wn <| Wn <| Wn <| Wz (.b true) (OpT rfl) ?_
  refine Wm (.b true) rfl <| Nn <| Rt ?_
  obtain rfl := Option.some.inj hm
  exact ret_i []
 ·
  replace hm := cF hq10_0 hm
  refine Wz (.b false) (Oq hq10_0 rfl) <| Wz (.loc 0 0) (Ofa rfl) <| Wz (.i p0.Loc) (Old rfl) <| Wz (.loc 1 0) (Ofa rfl) <| Wz (.i p1.Loc) (Old rfl) <| Wz (.b (decide (p0.Loc = p1.Loc))) (Obn rfl (fun _ => hb_eql (k := .i64))) ?_
  rcases tf_ (decide (p0.Loc = p1.Loc)) with hq16_0 | hq16_0
  ·
   replace hm := cT hq16_0 hm
   refine Wz (.b true) (Oq hq16_0 rfl) <| Wz (.loc 0 1) (Ofa rfl) <| Wz (.i p0.Time) (Old rfl) <| Wz (.loc 1 1) (Ofa rfl) <| Wz (.i p1.Time) (Old rfl) <| Wz (.b (decide (p0.Time < p1.Time))) (Obn rfl (fun _ => hb_lss (k := .i64))) <| Wz (.b (decide (p0.Time < p1.Time))) (OpT rfl) <| Wz (.b (decide (p0.Time < p1.Time))) (OpF rfl) <| Wm (.b (decide (p0.Time < p1.Time))) rfl <| Nn <| Rt ?_
   obtain rfl := Option.some.inj hm
   exact ret_i []
  ·
   replace hm := cF hq16_0 hm
   refine Wz (.b false) (Oq hq16_0 rfl) <| Wn <| Wn <| Wn <| Wn <| Wn <| Wz (.b false) (OpF rfl) <| Wz (.b false) (OpF rfl) <| Wm (.b false) rfl <| Nn <| Rt ?_
   obtain rfl := Option.some.inj hm
   exact ret_i []

theorem ok_r26_Normal (p0 : (List GChange)) (r : (List GChange)) (h : m_r26_Normal p0 = some r) : GCall Try.prog 37 [(.l enc_GChange p0)] [] (.own 0) [(Ar 83 3 enc_GChange r)] := by
 refine GCall.of_body (n := 86) (rs := [(.tmp 2)]) Try.func37 rfl rfl rfl <| Ato ⟨.l enc_GChange p0::tu 85 [], [], 0⟩ ?_
 have hm := h
 unfold m_r26_Normal at hm
 refine Sx <| Wm (.d .nil) rfl <| Nk 1 0 ⟨.l enc_GChange p0::tp 85 [], [], 0⟩ <| Sx <| Wm (.d .nil) rfl <| Nk 9 0 ⟨.l enc_GChange p0::tp 2 (.d .nil::tp 82 []), [], 0⟩ <| Sq <| Sx <| Wm (.i 0) rfl <| Nk 25 0 ⟨.l enc_GChange p0::tp 2 (.d .nil::.i 0::tp 81 []), [], 0⟩ <| Bk <| Aow 3 83 3 ⟨.l enc_GChange p0::tp 2 (.own 0::.i 0::tp 81 []), [(Ar 83 3 enc_GChange ([] : List GChange))], 0⟩ ?_
 refine AWP.loopI (α := Nat × (List GChange) × Int)
   (fun (fu_0, y3_0, y4_0) => (⟨.l enc_GChange p0::tp 2 (.own 0::.i y4_0::tp 81 []), [(Ar 83 3 enc_GChange y3_0)], 0⟩ : St))
   (fun (fu_0, y3_0, y4_0) => m_r26_Normal_l0 p0 fu_0 y3_0 y4_0 = some r)
   (fun (fu_0, y3_0, y4_0) => fu_0) (1152921504606846976, ([] : List GChange), 0)
   (Weak.toK 25 0 0 [0]) hm ?_
 rintro ⟨fu_0, y3_0, y4_0⟩ n_0 hm ih_0
 try dsimp only at hm ih_0 ⊢
 cases fu_0 with
 | zero => exact absurd hm (by unfold m_r26_Normal_l0; simp)
 | succ fu_0 =>
  unfold m_r26_Normal_l0 at hm
  refine Sq <| Sx <| Wm (.i y4_0) rfl <| Wm (.l enc_GChange p0) rfl <| Wz (.i ((List.length p0 : Nat) : Int)) (Oln rfl) <| Wz (.b (decide (y4_0 < ((List.length p0 : Nat) : Int)))) (Obn rfl (fun _ => hb_lss (k := .i64))) <| Nk 4121 1 ⟨.l enc_GChange p0::tp 2 (.own 0::.i y4_0::tp 7 (.b (decide (y4_0 < ((List.length p0 : Nat) : Int)))::tp 73 [])), [(Ar 83 3 enc_GChange y3_0)], 0⟩ ?_
  rcases tf_ (decide (y4_0 < ((List.length p0 : Nat) : Int))) with hc12_12 | hc12_12
  ·
   replace hm := cT hc12_12 hm
   refine AiT hc12_12 <| Sk <| Tk 25 1 ⟨.l enc_GChange p0::tp 2 (.own 0::.i y4_0::tp 81 []), [(Ar 83 3 enc_GChange y3_0)], 0⟩ <| Sq <| Bk <| Sq <| Adr <| Wm (.l enc_GChange p0) rfl <| Wm (.i y4_0) rfl ?_
   obtain ⟨x17_2, hx17_2, hm⟩ := bnd hm
   obtain ⟨hx17_2i, hx17_2g⟩ := geti_some hx17_2
   refine Wz (.d (.ref (List.drop ((Int.toNat y4_0) * 3) (flatD enc_GChange p0)))) (Oia rfl enc_GChange_len hx17_2i hx17_2g) <| Wz (.d (.ref (List.drop ((Int.toNat y4_0) * 3) (flatD enc_GChange p0)))) (Ofa rfl) <| Wz (.i x17_2.Loc) (Lf1 rfl enc_GChange_len hx17_2g) <| Wm (.l enc_GChange p0) rfl <| Wm (.i y4_0) rfl ?_
   obtain ⟨x22_2, hx22_2, hm⟩ := bnd hm
   obtain ⟨hx22_2i, hx22_2g⟩ := geti_some hx22_2
   refine Wz (.d (.ref (List.drop ((Int.toNat y4_0) * 3) (flatD enc_GChange p0)))) (Oia rfl enc_GChange_len hx22_2i hx22_2g) <| Wz (.d (.ref (List.drop 1 (List.drop ((Int.toNat y4_0) * 3) (flatD enc_GChange p0))))) (Ofa rfl) <| Wz (.i x22_2.Time) (Lfk1 1 rfl enc_GChange_len hx22_2g) <| Wm (.l enc_GChange p0) rfl <| Wm (.l enc_GChange p0) rfl <| Wm (.i y4_0) rfl ?_
   obtain ⟨x28_2, hx28_2, hm⟩ := bnd hm
   obtain ⟨hx28_2i, hx28_2g⟩ := geti_some hx28_2
   refine Wz (.d (.ref (List.drop ((Int.toNat y4_0) * 3) (flatD enc_GChange p0)))) (Oia rfl enc_GChange_len hx28_2i hx28_2g) <| Wz (.d (.ref (List.drop ((Int.toNat y4_0) * 3) (flatD enc_GChange p0)))) (Ofa rfl) <| Wz (.i x28_2.Loc) (Lf1 rfl enc_GChange_len hx28_2g) <| Wm (.l enc_GChange p0) rfl <| Wm (.i y4_0) rfl ?_
   obtain ⟨x33_2, hx33_2, hm⟩ := bnd hm
   obtain ⟨hx33_2i, hx33_2g⟩ := geti_some hx33_2
   refine Wz (.d (.ref (List.drop ((Int.toNat y4_0) * 3) (flatD enc_GChange p0)))) (Oia rfl enc_GChange_len hx33_2i hx33_2g) <| Wz (.d (.ref (List.drop 1 (List.drop ((Int.toNat y4_0) * 3) (flatD enc_GChange p0))))) (Ofa rfl) <| Wz (.i x33_2.Time) (Lfk1 1 rfl enc_GChange_len hx33_2g) ?_
   obtain ⟨r36_2, hr36_2, hm⟩ := bnd hm
   refine Wz (.i r36_2) (Ocf [] [] [] 0 (ok_r26_At p0 x28_2.Loc x33_2.Time r36_2 hr36_2) (fun a w => Try.call66 a w) rfl trivial) <| Wz (.agg [(.i x17_2.Loc), (.i x22_2.Time), (.i r36_2)]) (Obd rfl) <| Wy (.loc 1 0) [(1, (.box [(.i 0), (.i 0), (.i 0)]))] (Oal rfl) <| Wy (.tup []) [(1, (.box [(.i x17_2.Loc), (.i x22_2.Time), (.i r36_2)]))] (Ost rfl) <| Wdr <| Tk 57 3 ⟨.l enc_GChange p0::tp 2 (.own 0::.i y4_0::.loc 1 0::tp 80 []), [(Ar 83 3 enc_GChange y3_0), (.box [(.i x17_2.Loc), (.i x22_2.Time), (.i r36_2)])], 0⟩ <| Sx <| Wm (.i 0) rfl <| Nk 121 3 ⟨.l enc_GChange p0::tp 2 (.own 0::.i y4_0::.loc 1 0::.i 0::tp 79 []), [(Ar 83 3 enc_GChange y3_0), (.box [(.i x17_2.Loc), (.i x22_2.Time), (.i r36_2)])], 0⟩ ?_
   refine AWP.cutJ (α := Int) (fun x => match x with | y6_8 => (⟨.l enc_GChange p0::tp 2 (.own 0::.i y4_0::.loc 1 0::.i y6_8::tp 79 []), [(Ar 83 3 enc_GChange y3_0), (.box [(.i x17_2.Loc), (.i x22_2.Time), (.i r36_2)])], 0⟩ : St)) (fun x => match x with | y6_8 => m_r26_Normal_j8 r36_2 x17_2 x22_2 y3_0 y4_0 (fun y3_0 y4_0 => m_r26_Normal_l0 p0 fu_0 y3_0 y4_0) y6_8 = some r) ?_ (fun J8 => ?_)
   ·
    rintro y6_8 hm
    try dsimp only at hm ⊢
    unfold m_r26_Normal_j8 at hm
    refine Sq <| Adr <| Wm (.i y6_8) rfl <| Wm (.own 0) rfl <| Wz (.i ((List.length y3_0 : Nat) : Int)) (Oln rfl) <| Wz (.b (decide (y6_8 < ((List.length y3_0 : Nat) : Int)))) (Obn rfl (fun _ => hb_lss (k := .i64))) ?_
    rcases tf_ (decide (y6_8 < ((List.length y3_0 : Nat) : Int))) with hq56_5 | hq56_5
    ·
     replace hm := cT hq56_5 hm
     refine Wz (.b true) (Oq hq56_5 rfl) <| Wz (.agg [(.i x17_2.Loc), (.i x22_2.Time), (.i r36_2)]) (Old rfl) <| Wm (.own 0) rfl <| Wm (.i y6_8) rfl ?_
     obtain ⟨x60_5, hx60_5, hm⟩ := bnd hm
     obtain ⟨hx60_5i, hx60_5g⟩ := geti_some hx60_5
     refine Wz (.loc 0 ((Int.toNat y6_8) * 3)) (Oia rfl enc_GChange_len hx60_5i hx60_5g) <| Wz (.agg [(.i x60_5.Loc), (.i x60_5.Time), (.i x60_5.N)]) (Lr rfl enc_GChange_len hx60_5g) ?_
     obtain ⟨r62_5, hr62_5, hm⟩ := bnd hm
     refine Wz (.b r62_5) (Ocf [] [] [] 0 (ok_r26_before (GChange.mk x17_2.Loc x22_2.Time r36_2) x60_5 r62_5 hr62_5) (fun a w => Try.call67 a w) rfl trivial) <| Wz (.b (!r62_5)) (Ocs (by kernel_rfl) (op_un rfl (a1 := .bool r62_5) (by kernel_rfl) (fun _ => hu_not))) <| Wz (.b (!r62_5)) (OpT rfl) <| Wm (.b (!r62_5)) rfl <| Wdr <| Tk 249 3 ⟨.l enc_GChange p0::tp 2 (.own 0::.i y4_0::.loc 1 0::.i y6_8::.b (!r62_5)::tp 78 []), [(Ar 83 3 enc_GChange y3_0), (.box [(.i x17_2.Loc), (.i x22_2.Time), (.i r36_2)])], 0⟩ <| Sx <| Wm (.b (!r62_5)) rfl <| Wz (.b (!(!r62_5))) (Ocs (by kernel_rfl) (op_un rfl (a1 := .bool (!r62_5)) (by kernel_rfl) (fun _ => hu_not))) ?_
     rcases tf_ (!(!r62_5)) with hq67_9 | hq67_9
     ·
      replace hm := cT hq67_9 hm
      refine Wz (.b true) (Oq hq67_9 rfl) <| Wz (.loc 1 2) (Ofa rfl) <| Wz (.i r36_2) (Old rfl) <| Wz (.b (decide (r36_2 ≠ 0))) (Obn rfl (fun _ => hb_neq (k := .i64))) <| Wz (.b (decide (r36_2 ≠ 0))) (OpT rfl) <| Nk 2361183241434822606969 3 ⟨.l enc_GChange p0::tp 2 (.own 0::.i y4_0::.loc 1 0::.i y6_8::tp 64 (.b (decide (r36_2 ≠ 0))::tp 14 [])), [(Ar 83 3 enc_GChange y3_0), (.box [(.i x17_2.Loc), (.i x22_2.Time), (.i r36_2)])], 0⟩ ?_
      rcases tf_ (decide (r36_2 ≠ 0)) with hc71_13 | hc71_13
      ·
       replace hm := cT hc71_13 hm
       refine AiT hc71_13 <| Sq <| Afz [0] ⟨.l enc_GChange p0::tp 2 (.l enc_GChange y3_0::.i y4_0::.loc 1 0::.i y6_8::tp 64 (.b (decide (r36_2 ≠ 0))::tp 14 [])), [(.fro 83 3 (List.length y3_0) (flatD enc_GChange y3_0)), (.box [(.i x17_2.Loc), (.i x22_2.Time), (.i r36_2)])], 0⟩ <| Adr <| Wy (.own 2) [(2, (Ar 83 3 enc_GChange ([] : List GChange)))] (Obs rfl) <| Wm (.l enc_GChange y3_0) rfl <| Wm (.i y6_8) rfl ?_
       obtain ⟨s75_6, hs75_6, hm⟩ := bnd hm; obtain ⟨hs75_6a, hs75_6b, hs75_6c, hs75_6d, hs75_6e⟩ := cut_some hs75_6
       refine Wz (.l enc_GChange s75_6) (op_cut rfl (e := 83) (sz := 3) (by kernel_rfl) (l := y3_0) (enc := enc_GChange) (by kernel_rfl) enc_GChange_len (a := (Int.toNat 0)) (b := (Int.toNat y6_8)) (by exact rfl) (⟨.i64, y6_8, by kernel_rfl, hs75_6b⟩) hs75_6c hs75_6d hs75_6e) ?_
       obtain ⟨a76_6, ha76_6, hm⟩ := bnd hm; obtain ⟨ha76_6e, ha76_6l⟩ := app_some ha76_6
       refine Wy (.own 3) [(2, .gone), (3, (Ar 83 3 enc_GChange a76_6))] (Oap rfl elemOK_23 enc_GChange_len ha76_6e ha76_6l) <| Wz (.agg [(.i x17_2.Loc), (.i x22_2.Time), (.i r36_2)]) (Old rfl) <| Wy (.own 4) [(4, (Ar 83 3 enc_GChange ([(GChange.mk x17_2.Loc x22_2.Time r36_2)] : List GChange)))] (Obs rfl) ?_
       obtain ⟨a79_6, ha79_6, hm⟩ := bnd hm; obtain ⟨ha79_6e, ha79_6l⟩ := app_some ha79_6
       refine Wy (.own 5) [(3, .gone), (5, (Ar 83 3 enc_GChange a79_6))] (Oap rfl elemOK_23 enc_GChange_len ha79_6e ha79_6l) <| Wm (.own 5) rfl <| Wdr <| Tk 345 32 ⟨.l enc_GChange p0::tp 2 (.l enc_GChange y3_0::.i y4_0::tp 1 (.i y6_8::tp 1 (.own 5::tp 77 []))), [.gone, .gone, .gone, .gone, .gone, (Ar 83 3 enc_GChange a79_6)], 0⟩ <| Tx <| Wm (.own 5) rfl <| Wm (.l enc_GChange y3_0) rfl <| Wm (.i y6_8) rfl ?_
       obtain ⟨s83_7, hs83_7, hm⟩ := bnd hm; obtain ⟨hs83_7a, hs83_7b, hs83_7c, hs83_7d, hs83_7e⟩ := cut_some hs83_7
       refine Wz (.l enc_GChange s83_7) (op_cut rfl (e := 83) (sz := 3) (by kernel_rfl) (l := y3_0) (enc := enc_GChange) (by kernel_rfl) enc_GChange_len (a := (Int.toNat y6_8)) (b := (Int.toNat ((List.length y3_0 : Nat) : Int))) (⟨.i64, y6_8, by kernel_rfl, hs83_7a⟩) (by exact rfl) hs83_7c hs83_7d hs83_7e) ?_
       obtain ⟨a84_7, ha84_7, hm⟩ := bnd hm; obtain ⟨ha84_7e, ha84_7l⟩ := app_some ha84_7
       refine Wy (.own 6) [(5, .gone), (6, (Ar 83 3 enc_GChange a84_7))] (Oap rfl elemOK_23 enc_GChange_len ha84_7e ha84_7l) <| Wm (.own 6) rfl <| Wn0 <| Ino <| Tk 25 64 ⟨.l enc_GChange p0::tp 2 (.own 6::.i y4_0::tp 81 []), [.gone, .gone, .gone, .gone, .gone, .gone, (Ar 83 3 enc_GChange a84_7)], 0⟩ <| Tx <| Wm (.i y4_0) rfl <| Wz (.i (W6 (y4_0 + 1))) (Obn rfl (fun _ => hb_add (k := .i64))) <| Wm (.i (W6 (y4_0 + 1))) rfl <| Wn0 <| RoundK.normal ?_
       exact Rounds.weak (Weak.toK 25 0 0 [6]) (ih_0 (fu_0, a84_7, (W6 (y4_0 + 1))) hm (Nat.lt_succ_self _))
      ·
       replace hm := cF hc71_13 hm
       refine AiF hc71_13 <| Sk <| Ino <| Tk 25 1 ⟨.l enc_GChange p0::tp 2 (.own 0::.i y4_0::tp 81 []), [(Ar 83 3 enc_GChange y3_0), .gone], 0⟩ <| Tx <| Wm (.i y4_0) rfl <| Wz (.i (W6 (y4_0 + 1))) (Obn rfl (fun _ => hb_add (k := .i64))) <| Wm (.i (W6 (y4_0 + 1))) rfl <| Wn0 <| RoundK.normal ?_
       exact Rounds.weak (Weak.toK 25 0 0 [0]) (ih_0 (fu_0, y3_0, (W6 (y4_0 + 1))) hm (Nat.lt_succ_self _))
     ·
      replace hm := cF hq67_9 hm
      refine Wz (.b false) (Oq hq67_9 rfl) <| Wn <| Wn <| Wn <| Wz (.b false) (OpF rfl) <| Nk 2361183241434822606969 3 ⟨.l enc_GChange p0::tp 2 (.own 0::.i y4_0::.loc 1 0::.i y6_8::tp 64 (.b false::tp 14 [])), [(Ar 83 3 enc_GChange y3_0), (.box [(.i x17_2.Loc), (.i x22_2.Time), (.i r36_2)])], 0⟩ <| AWP.if_ false (by kernel_rfl) <| Sk <| Ino <| Tk 25 1 ⟨.l enc_GChange p0::tp 2 (.own 0::.i y4_0::tp 81 []), [(Ar 83 3 enc_GChange y3_0), .gone], 0⟩ <| Tx <| Wm (.i y4_0) rfl <| Wz (.i (W6 (y4_0 + 1))) (Obn rfl (fun _ => hb_add (k := .i64))) <| Wm (.i (W6 (y4_0 + 1))) rfl ?_
      refine Wn0 <| RoundK.normal ?_
      exact Rounds.weak (Weak.toK 25 0 0 [0]) (ih_0 (fu_0, y3_0, (W6 (y4_0 + 1))) hm (Nat.lt_succ_self _))
    ·
     replace hm := cF hq56_5 hm
     refine Wz (.b false) (Oq hq56_5 rfl) <| Wn <| Wn <| Wn <| Wn <| Wn <| Wn <| Wn <| Wz (.b false) (OpF rfl) <| Wm (.b false) rfl <| Wdr <| Tk 249 3 ⟨.l enc_GChange p0::tp 2 (.own 0::.i y4_0::.loc 1 0::.i y6_8::.b false::tp 78 []), [(Ar 83 3 enc_GChange y3_0), (.box [(.i x17_2.Loc), (.i x22_2.Time), (.i r36_2)])], 0⟩ <| Sx <| Wm (.b false) rfl ?_
     refine Wz (.b true) (Ocs (by kernel_rfl) (op_un rfl (a1 := .bool false) (by kernel_rfl) (fun _ => hu_not))) <| Wm (.b true) rfl <| Wz (.loc 1 2) (Ofa rfl) <| Wz (.i r36_2) (Old rfl) <| Wz (.b (decide (r36_2 ≠ 0))) (Obn rfl (fun _ => hb_neq (k := .i64))) <| Wz (.b (decide (r36_2 ≠ 0))) (OpT rfl) <| Nk 2361183241434822606969 3 ⟨.l enc_GChange p0::tp 2 (.own 0::.i y4_0::.loc 1 0::.i y6_8::tp 64 (.b (decide (r36_2 ≠ 0))::tp 14 [])), [(Ar 83 3 enc_GChange y3_0), (.box [(.i x17_2.Loc), (.i x22_2.Time), (.i r36_2)])], 0⟩ ?_
     rcases tf_ (decide (r36_2 ≠ 0)) with hc71_14 | hc71_14
     ·
      replace hm := cT hc71_14 hm
      refine AiT hc71_14 <| Sq <| Afz [0] ⟨.l enc_GChange p0::tp 2 (.l enc_GChange y3_0::.i y4_0::.loc 1 0::.i y6_8::tp 64 (.b (decide (r36_2 ≠ 0))::tp 14 [])), [(.fro 83 3 (List.length y3_0) (flatD enc_GChange y3_0)), (.box [(.i x17_2.Loc), (.i x22_2.Time), (.i r36_2)])], 0⟩ <| Adr <| Wy (.own 2) [(2, (Ar 83 3 enc_GChange ([] : List GChange)))] (Obs rfl) <| Wm (.l enc_GChange y3_0) rfl <| Wm (.i y6_8) rfl ?_
      obtain ⟨s75_10, hs75_10, hm⟩ := bnd hm; obtain ⟨hs75_10a, hs75_10b, hs75_10c, hs75_10d, hs75_10e⟩ := cut_some hs75_10
      refine Wz (.l enc_GChange s75_10) (op_cut rfl (e := 83) (sz := 3) (by kernel_rfl) (l := y3_0) (enc := enc_GChange) (by kernel_rfl) enc_GChange_len (a := (Int.toNat 0)) (b := (Int.toNat y6_8)) (by exact rfl) (⟨.i64, y6_8, by kernel_rfl, hs75_10b⟩) hs75_10c hs75_10d hs75_10e) ?_
      obtain ⟨a76_10, ha76_10, hm⟩ := bnd hm; obtain ⟨ha76_10e, ha76_10l⟩ := app_some ha76_10
      refine Wy (.own 3) [(2, .gone), (3, (Ar 83 3 enc_GChange a76_10))] (Oap rfl elemOK_23 enc_GChange_len ha76_10e ha76_10l) <| Wz (.agg [(.i x17_2.Loc), (.i x22_2.Time), (.i r36_2)]) (Old rfl) <| Wy (.own 4) [(4, (Ar 83 3 enc_GChange ([(GChange.mk x17_2.Loc x22_2.Time r36_2)] : List GChange)))] (Obs rfl) ?_
      obtain ⟨a79_10, ha79_10, hm⟩ := bnd hm; obtain ⟨ha79_10e, ha79_10l⟩ := app_some ha79_10
      refine Wy (.own 5) [(3, .gone), (5, (Ar 83 3 enc_GChange a79_10))] (Oap rfl elemOK_23 enc_GChange_len ha79_10e ha79_10l) <| Wm (.own 5) rfl <| Wdr <| Tk 345 32 ⟨.l enc_GChange p0::tp 2 (.l enc_GChange y3_0::.i y4_0::tp 1 (.i y6_8::tp 1 (.own 5::tp 77 []))), [.gone, .gone, .gone, .gone, .gone, (Ar 83 3 enc_GChange a79_10)], 0⟩ <| Tx <| Wm (.own 5) rfl <| Wm (.l enc_GChange y3_0) rfl <| Wm (.i y6_8) rfl ?_
      obtain ⟨s83_11, hs83_11, hm⟩ := bnd hm; obtain ⟨hs83_11a, hs83_11b, hs83_11c, hs83_11d, hs83_11e⟩ := cut_some hs83_11
      refine Wz (.l enc_GChange s83_11) (op_cut rfl (e := 83) (sz := 3) (by kernel_rfl) (l := y3_0) (enc := enc_GChange) (by kernel_rfl) enc_GChange_len (a := (Int.toNat y6_8)) (b := (Int.toNat ((List.length y3_0 : Nat) : Int))) (⟨.i64, y6_8, by kernel_rfl, hs83_11a⟩) (by exact rfl) hs83_11c hs83_11d hs83_11e) ?_
      obtain ⟨a84_11, ha84_11, hm⟩ := bnd hm; obtain ⟨ha84_11e, ha84_11l⟩ := app_some ha84_11
      refine Wy (.own 6) [(5, .gone), (6, (Ar 83 3 enc_GChange a84_11))] (Oap rfl elemOK_23 enc_GChange_len ha84_11e ha84_11l) <| Wm (.own 6) rfl <| Wn0 <| Ino <| Tk 25 64 ⟨.l enc_GChange p0::tp 2 (.own 6::.i y4_0::tp 81 []), [.gone, .gone, .gone, .gone, .gone, .gone, (Ar 83 3 enc_GChange a84_11)], 0⟩ <| Tx <| Wm (.i y4_0) rfl <| Wz (.i (W6 (y4_0 + 1))) (Obn rfl (fun _ => hb_add (k := .i64))) <| Wm (.i (W6 (y4_0 + 1))) rfl <| Wn0 <| RoundK.normal ?_
      exact Rounds.weak (Weak.toK 25 0 0 [6]) (ih_0 (fu_0, a84_11, (W6 (y4_0 + 1))) hm (Nat.lt_succ_self _))
     ·
      replace hm := cF hc71_14 hm
      refine AiF hc71_14 <| Sk <| Ino <| Tk 25 1 ⟨.l enc_GChange p0::tp 2 (.own 0::.i y4_0::tp 81 []), [(Ar 83 3 enc_GChange y3_0), .gone], 0⟩ <| Tx <| Wm (.i y4_0) rfl <| Wz (.i (W6 (y4_0 + 1))) (Obn rfl (fun _ => hb_add (k := .i64))) <| Wm (.i (W6 (y4_0 + 1))) rfl <| Wn0 <| RoundK.normal ?_
      exact Rounds.weak (Weak.toK 25 0 0 [0]) (ih_0 (fu_0, y3_0, (W6 (y4_0 + 1))) hm (Nat.lt_succ_self _))
   refine Sq <| Bk ?_
   refine AWP.loopI (α := Nat × Int)
     (fun (fu_3, y6_3) => (⟨.l enc_GChange p0::tp 2 (.own 0::.i y4_0::.loc 1 0::.i y6_3::tp 79 []), [(Ar 83 3 enc_GChange y3_0), (.box [(.i x17_2.Loc), (.i x22_2.Time), (.i r36_2)])], 0⟩ : St))
     (fun (fu_3, y6_3) => m_r26_Normal_l3 r36_2 x17_2 x22_2 y3_0 y4_0 (fun y3_0 y4_0 => m_r26_Normal_l0 p0 fu_0 y3_0 y4_0) fu_3 y6_3 = some r)
     (fun (fu_3, y6_3) => fu_3) (1152921504606846976, 0)
     (Weak.toK 121 0 0 [0, 1]) hm ?_
   rintro ⟨fu_3, y6_3⟩ n_3 hm ih_3
   try dsimp only at hm ih_3 ⊢
   cases fu_3 with
   | zero => exact absurd hm (by unfold m_r26_Normal_l3; simp)
   | succ fu_3 =>
    unfold m_r26_Normal_l3 at hm
    refine Sq <| Sq <| Adr <| Wm (.i y6_3) rfl <| Wm (.own 0) rfl <| Wz (.i ((List.length y3_0 : Nat) : Int)) (Oln rfl) <| Wz (.b (decide (y6_3 < ((List.length y3_0 : Nat) : Int)))) (Obn rfl (fun _ => hb_lss (k := .i64))) ?_
    rcases tf_ (decide (y6_3 < ((List.length y3_0 : Nat) : Int))) with hq42_4 | hq42_4
    ·
     replace hm := cT hq42_4 hm
     refine Wz (.b true) (Oq hq42_4 rfl) <| Wm (.own 0) rfl <| Wm (.i y6_3) rfl ?_
     obtain ⟨x45_4, hx45_4, hm⟩ := bnd hm
     obtain ⟨hx45_4i, hx45_4g⟩ := geti_some hx45_4
     refine Wz (.loc 0 ((Int.toNat y6_3) * 3)) (Oia rfl enc_GChange_len hx45_4i hx45_4g) <| Wz (.agg [(.i x45_4.Loc), (.i x45_4.Time), (.i x45_4.N)]) (Lr rfl enc_GChange_len hx45_4g) <| Wz (.agg [(.i x17_2.Loc), (.i x22_2.Time), (.i r36_2)]) (Old rfl) ?_
     obtain ⟨r48_4, hr48_4, hm⟩ := bnd hm
     refine Wz (.b r48_4) (Ocf [] [] [] 0 (ok_r26_before x45_4 (GChange.mk x17_2.Loc x22_2.Time r36_2) r48_4 hr48_4) (fun a w => Try.call67 a w) rfl trivial) <| Wz (.b r48_4) (OpT rfl) <| Wdr <| Tk 562949953421433 3 ⟨.l enc_GChange p0::tp 2 (.own 0::.i y4_0::.loc 1 0::.i y6_3::tp 42 (.b r48_4::tp 36 [])), [(Ar 83 3 enc_GChange y3_0), (.box [(.i x17_2.Loc), (.i x22_2.Time), (.i r36_2)])], 0⟩ ?_
     rcases tf_ r48_4 with hc49_15 | hc49_15
     ·
      replace hm := cT hc49_15 hm
      refine AiT hc49_15 <| Sk <| Tk 121 3 ⟨.l enc_GChange p0::tp 2 (.own 0::.i y4_0::.loc 1 0::.i y6_3::tp 79 []), [(Ar 83 3 enc_GChange y3_0), (.box [(.i x17_2.Loc), (.i x22_2.Time), (.i r36_2)])], 0⟩ <| Bk <| Tx <| Wm (.i y6_3) rfl <| Wz (.i (W6 (y6_3 + 1))) (Obn rfl (fun _ => hb_add (k := .i64))) <| Wm (.i (W6 (y6_3 + 1))) rfl <| Wn0 <| Ino <| RoundK.normal ?_
      exact Rounds.weak (Weak.toK 121 0 0 [0, 1]) (ih_3 (fu_3, (W6 (y6_3 + 1))) hm (Nat.lt_succ_self _))
     ·
      replace hm := cF hc49_15 hm
      refine AiF hc49_15 <| AWP.exit <| Then.exit <| RoundK.exit <| InBlock.same <| Tn ?_
      exact AWP.weak (Weak.toK 121 0 0 [0, 1]) (J8 (y6_3) hm)
    ·
     replace hm := cF hq42_4 hm
     refine Wz (.b false) (Oq hq42_4 rfl) <| Wn <| Wn <| Wn <| Wn <| Wn <| Wn <| Wz (.b false) (OpF rfl) <| Wdr <| Tk 562949953421433 3 ⟨.l enc_GChange p0::tp 2 (.own 0::.i y4_0::.loc 1 0::.i y6_3::tp 42 (.b false::tp 36 [])), [(Ar 83 3 enc_GChange y3_0), (.box [(.i x17_2.Loc), (.i x22_2.Time), (.i r36_2)])], 0⟩ <| AWP.if_ false (by kernel_rfl) <| AWP.exit <| Then.exit <| RoundK.exit ?_
     refine InBlock.same <| Tn ?_
     exact AWP.weak (Weak.toK 121 0 0 [0, 1]) (J8 (y6_3) hm)
  ·
   replace hm := cF hc12_12 hm
   refine AiF hc12_12 <| AWP.exit <| Then.exit <| RoundK.exit <| InBlock.same <| Tk 8 1 ⟨tp 3 (.own 0::tp 82 []), [(Ar 83 3 enc_GChange y3_0)], 0⟩ <| Sx <| Wm (.own 0) rfl <| Wm (.own 0) rfl <| Nn <| Rt ?_
   obtain rfl := Option.some.inj hm
   exact ret_i [0]

theorem ok_r29_New (p0 : Int) (p1 : Int) (p2 : (List GChange)) (r : (GNet_ × Int)) (h : m_r29_New p0 p1 p2 = some r) : GCall Try.prog 10 [(.i p0), (.i p1), (.l enc_GChange p2)] [] (.tup [(.agg [(.i r.1.Cap), (.own 0), (.own 1), (.l enc_GBatch r.1.On)]), (.i r.2)]) [(.arr 23 1 (List.length r.1.Views) (flatD (encL enc_GChange) r.1.Views)), (.arr 23 1 (List.length r.1.Pending) (flatD (encL enc_GChange) r.1.Pending))] := by
 refine GCall.of_body (n := 45) (rs := [(.cell 6 39), (.tmp 7)]) Try.func10 rfl rfl rfl <| Ato ⟨.i p0::.i p1::.l enc_GChange p2::tu 42 [], [], 0⟩ ?_
 have hm := h
 unfold m_r29_New at hm
 refine Sx <| Wy (.loc 0 0) [(0, (.box [(.i 0), (.d .nil), (.d .nil), (.d .nil)]))] (Oal rfl) <| Wm (.i 0) rfl <| Nk 71 1 ⟨.i p0::.i p1::.l enc_GChange p2::tp 3 (.loc 0 0::tp 38 []), [(.box [(.i 0), (.d .nil), (.d .nil), (.d .nil)])], 0⟩ <| Sq ?_
 refine AWP.cutJ (α := Unit) (fun x => match x with | () => (⟨.i p0::.i p1::.l enc_GChange p2::tp 3 (.loc 0 0::tp 16 (.b true::tp 21 [])), [(.box [(.i 0), (.d .nil), (.d .nil), (.d .nil)])], 0⟩ : St)) (fun x => match x with | () => m_r29_New_j1  = some r) ?_ (fun J1 => ?_)
 ·
  rintro ⟨⟩ hm
  try dsimp only at hm ⊢
  unfold m_r29_New_j1 at hm
  refine AWP.if_ true (by kernel_rfl) <| Sx <| Wz (.agg [(.i 0), (.d .nil), (.d .nil), (.d .nil)]) (Obd rfl) <| Wy (.tup []) [(0, (.box [(.i 0), (.d .nil), (.d .nil), (.d .nil)]))] (Ost rfl) <| Wm (.i 2) rfl <| Nn <| Aob 0 1 23 1 ⟨.i p0::.i p1::.l enc_GChange p2::tp 3 (.loc 0 0::.i 2::tp 15 (.b true::.agg [(.i 0), (.d .nil), (.d .nil), (.d .nil)]::tp 20 [])), [(.box [(.i 0), (.own 1), (.d .nil), (.d .nil)]), (.arr 23 1 (List.length ([] : List (List GChange))) (flatD (encL enc_GChange) ([] : List (List GChange))))], 0⟩ <| Aob 0 2 23 1 ⟨.i p0::.i p1::.l enc_GChange p2::tp 3 (.loc 0 0::.i 2::tp 15 (.b true::.agg [(.i 0), (.d .nil), (.d .nil), (.d .nil)]::tp 20 [])), [(.box [(.i 0), (.own 1), (.own 2), (.d .nil)]), (.arr 23 1 (List.length ([] : List (List GChange))) (flatD (encL enc_GChange) ([] : List (List GChange)))), (.arr 23 1 (List.length ([] : List (List GChange))) (flatD (encL enc_GChange) ([] : List (List GChange))))], 0⟩ <| Rt <| Tr ?_
  obtain rfl := Option.some.inj hm
  exact ret_i [1, 2]
 refine Sx <| Wm (.i p0) rfl <| Wz (.b (decide (p0 < 1))) (Obn rfl (fun _ => hb_lss (k := .i64))) ?_
 rcases tf_ (decide (p0 < 1)) with hq12_0 | hq12_0
 ·
  replace hm := cT hq12_0 hm
  refine Wz (.b true) (Oq hq12_0 rfl) <| Wn <| Wn <| Wz (.b true) (OpT rfl) <| Wm (.b true) rfl <| Wn <| Wn <| Wz (.b true) (OpT rfl) <| Wm (.b true) rfl <| Wn <| Wn <| Wz (.b true) (OpT rfl) <| Nn ?_
  exact AWP.weak (Weak.toK 8388679 0 0 [0]) (J1 () hm)
 ·
  replace hm := cF hq12_0 hm
  refine Wz (.b false) (Oq hq12_0 rfl) <| Wm (.i p0) rfl <| Wz (.b (decide ((16 : Int) < p0))) (Obn rfl (fun _ => hb_gtr (k := .i64))) <| Wz (.b (decide ((16 : Int) < p0))) (OpF rfl) ?_
  rcases tf_ (decide ((16 : Int) < p0)) with hq16_0 | hq16_0
  ·
   replace hm := cT hq16_0 hm
   refine Wz (.b true) (Oq hq16_0 rfl) <| Wn <| Wn <| Wz (.b true) (OpT rfl) <| Wm (.b true) rfl <| Wn <| Wn <| Wz (.b true) (OpT rfl) <| Nn ?_
   exact AWP.weak (Weak.toK 8388679 0 0 [0]) (J1 () hm)
  ·
   replace hm := cF hq16_0 hm
   refine Wz (.b false) (Oq hq16_0 rfl) <| Wm (.i p1) rfl <| Wz (.b (decide (p1 < 1))) (Obn rfl (fun _ => hb_lss (k := .i64))) <| Wz (.b (decide (p1 < 1))) (OpF rfl) ?_
   rcases tf_ (decide (p1 < 1)) with hq20_0 | hq20_0
   ·
    replace hm := cT hq20_0 hm
    refine Wz (.b true) (Oq hq20_0 rfl) <| Wn <| Wn <| Wz (.b true) (OpT rfl) <| Nn ?_
    exact AWP.weak (Weak.toK 8388679 0 0 [0]) (J1 () hm)
   ·
    replace hm := cF hq20_0 hm
    refine Wz (.b false) (Oq hq20_0 rfl) <| Wm (.i p1) rfl <| Wz (.b (decide ((4096 : Int) < p1))) (Obn rfl (fun _ => hb_gtr (k := .i64))) <| Wz (.b (decide ((4096 : Int) < p1))) (OpF rfl) <| Nk 8388679 1 ⟨.i p0::.i p1::.l enc_GChange p2::tp 3 (.loc 0 0::tp 16 (.b (decide ((4096 : Int) < p1))::tp 21 [])), [(.box [(.i 0), (.d .nil), (.d .nil), (.d .nil)])], 0⟩ ?_
    rcases tf_ (decide ((4096 : Int) < p1)) with hc23_5 | hc23_5
    ·
     replace hm := cT hc23_5 hm
     refine AiT hc23_5 <| Sx <| Wz (.agg [(.i 0), (.d .nil), (.d .nil), (.d .nil)]) (Obd rfl) <| Wy (.tup []) [(0, (.box [(.i 0), (.d .nil), (.d .nil), (.d .nil)]))] (Ost rfl) <| Wm (.i 2) rfl <| Nn <| Aob 0 1 23 1 ⟨.i p0::.i p1::.l enc_GChange p2::tp 3 (.loc 0 0::.i 2::tp 15 (.b (decide ((4096 : Int) < p1))::.agg [(.i 0), (.d .nil), (.d .nil), (.d .nil)]::tp 20 [])), [(.box [(.i 0), (.own 1), (.d .nil), (.d .nil)]), (.arr 23 1 (List.length ([] : List (List GChange))) (flatD (encL enc_GChange) ([] : List (List GChange))))], 0⟩ <| Aob 0 2 23 1 ⟨.i p0::.i p1::.l enc_GChange p2::tp 3 (.loc 0 0::.i 2::tp 15 (.b (decide ((4096 : Int) < p1))::.agg [(.i 0), (.d .nil), (.d .nil), (.d .nil)]::tp 20 [])), [(.box [(.i 0), (.own 1), (.own 2), (.d .nil)]), (.arr 23 1 (List.length ([] : List (List GChange))) (flatD (encL enc_GChange) ([] : List (List GChange)))), (.arr 23 1 (List.length ([] : List (List GChange))) (flatD (encL enc_GChange) ([] : List (List GChange))))], 0⟩ <| Rt <| Tr ?_
     obtain rfl := Option.some.inj hm
     exact ret_i [1, 2]
    ·
     replace hm := cF hc23_5 hm
     refine AiF hc23_5 <| Sk <| Tk 71 1 ⟨.i p0::.i p1::.l enc_GChange p2::tp 3 (.loc 0 0::tp 38 []), [(.box [(.i 0), (.d .nil), (.d .nil), (.d .nil)])], 0⟩ <| Sx <| Wm (.i p1) rfl <| Wz (.agg [(.i p1), (.d .nil), (.d .nil), (.d .nil)]) (Obd rfl) <| Wy (.loc 1 0) [(1, (.box [(.i 0), (.d .nil), (.d .nil), (.d .nil)]))] (Oal rfl) <| Wy (.tup []) [(1, (.box [(.i p1), (.d .nil), (.d .nil), (.d .nil)]))] (Ost rfl) <| Nk 325 3 ⟨.i p0::tp 1 (.l enc_GChange p2::tp 3 (.loc 0 0::tp 1 (.loc 1 0::tp 36 []))), [(.box [(.i 0), (.d .nil), (.d .nil), (.d .nil)]), (.box [(.i p1), (.d .nil), (.d .nil), (.d .nil)])], 0⟩ <| Sq <| Sx <| Wm (.i 0) rfl <| Nk 837 3 ⟨.i p0::tp 1 (.l enc_GChange p2::tp 3 (.loc 0 0::tp 1 (.loc 1 0::.i 0::tp 35 []))), [(.box [(.i 0), (.d .nil), (.d .nil), (.d .nil)]), (.box [(.i p1), (.d .nil), (.d .nil), (.d .nil)])], 0⟩ <| Bk ?_
     refine Aob 1 1 23 1 ⟨.i p0::tp 1 (.l enc_GChange p2::tp 3 (.loc 0 0::tp 1 (.loc 1 0::.i 0::tp 35 []))), [(.box [(.i 0), (.d .nil), (.d .nil), (.d .nil)]), (.box [(.i p1), (.own 2), (.d .nil), (.d .nil)]), (.arr 23 1 (List.length ([] : List (List GChange))) (flatD (encL enc_GChange) ([] : List (List GChange))))], 0⟩ <| Aob 1 2 23 1 ⟨.i p0::tp 1 (.l enc_GChange p2::tp 3 (.loc 0 0::tp 1 (.loc 1 0::.i 0::tp 35 []))), [(.box [(.i 0), (.d .nil), (.d .nil), (.d .nil)]), (.box [(.i p1), (.own 2), (.own 3), (.d .nil)]), (.arr 23 1 (List.length ([] : List (List GChange))) (flatD (encL enc_GChange) ([] : List (List GChange)))), (.arr 23 1 (List.length ([] : List (List GChange))) (flatD (encL enc_GChange) ([] : List (List GChange))))], 0⟩ ?_
     refine AWP.loopI (α := Nat × (List (List GChange)) × (List (List GChange)) × Int)
       (fun (fu_2, y8_d_1_2, y8_d_2_2, y9_2) => (⟨.i p0::tp 1 (.l enc_GChange p2::tp 3 (.loc 0 0::tp 1 (.loc 1 0::.i y9_2::tp 35 []))), [(.box [(.i 0), (.d .nil), (.d .nil), (.d .nil)]), (.box [(.i p1), (.own 2), (.own 3), (.d .nil)]), (.arr 23 1 (List.length y8_d_1_2) (flatD (encL enc_GChange) y8_d_1_2)), (.arr 23 1 (List.length y8_d_2_2) (flatD (encL enc_GChange) y8_d_2_2))], 0⟩ : St))
       (fun (fu_2, y8_d_1_2, y8_d_2_2, y9_2) => m_r29_New_l2 p0 p1 p2 fu_2 y8_d_1_2 y8_d_2_2 y9_2 = some r)
       (fun (fu_2, y8_d_1_2, y8_d_2_2, y9_2) => fu_2) (1152921504606846976, ([] : List (List GChange)), ([] : List (List GChange)), 0)
       (Weak.toK 837 0 0 [0, 1, 2, 3]) hm ?_
     rintro ⟨fu_2, y8_d_1_2, y8_d_2_2, y9_2⟩ n_2 hm ih_2
     try dsimp only at hm ih_2 ⊢
     cases fu_2 with
     | zero => exact absurd hm (by unfold m_r29_New_l2; simp)
     | succ fu_2 =>
      unfold m_r29_New_l2 at hm
      refine Sq <| Sx <| Wm (.i y9_2) rfl <| Wm (.i p0) rfl <| Wz (.b (decide (y9_2 < p0))) (Obn rfl (fun _ => hb_lss (k := .i64))) <| Nk 536871749 15 ⟨.i p0::tp 1 (.l enc_GChange p2::tp 3 (.loc 0 0::tp 1 (.loc 1 0::.i y9_2::tp 19 (.b (decide (y9_2 < p0))::tp 15 [])))), [(.box [(.i 0), (.d .nil), (.d .nil), (.d .nil)]), (.box [(.i p1), (.own 2), (.own 3), (.d .nil)]), (.arr 23 1 (List.length y8_d_1_2) (flatD (encL enc_GChange) y8_d_1_2)), (.arr 23 1 (List.length y8_d_2_2) (flatD (encL enc_GChange) y8_d_2_2))], 0⟩ ?_
      rcases tf_ (decide (y9_2 < p0)) with hc29_6 | hc29_6
      ·
       replace hm := cT hc29_6 hm
       refine AiT hc29_6 <| Sk <| Tk 837 15 ⟨.i p0::tp 1 (.l enc_GChange p2::tp 3 (.loc 0 0::tp 1 (.loc 1 0::.i y9_2::tp 35 []))), [(.box [(.i 0), (.d .nil), (.d .nil), (.d .nil)]), (.box [(.i p1), (.own 2), (.own 3), (.d .nil)]), (.arr 23 1 (List.length y8_d_1_2) (flatD (encL enc_GChange) y8_d_1_2)), (.arr 23 1 (List.length y8_d_2_2) (flatD (encL enc_GChange) y8_d_2_2))], 0⟩ <| Sq <| Bk <| Sq <| Adr <| Wz (.loc 1 1) (Ofa rfl) <| Wz (.own 2) (Old rfl) <| Wm (.l enc_GChange p2) rfl ?_
       obtain ⟨r35_3, hr35_3, hm⟩ := bnd hm
       refine Wy (.l enc_GChange r35_3) [(4, (Ar 83 3 enc_GChange r35_3)), (4, (.fro 83 3 (List.length r35_3) (flatD enc_GChange r35_3)))] (Ofz [4] (.own 4) [(4, (Ar 83 3 enc_GChange r35_3))] (Ocf [] [4] [] 0 (ok_r26_Normal p2 r35_3 hr35_3) (fun a w => Try.call37 a w) rfl trivial)) <| Wy (.own 5) [(5, (.arr 23 1 (List.length ([r35_3] : List (List GChange))) (flatD (encL enc_GChange) ([r35_3] : List (List GChange)))))] (Obs rfl) ?_
       obtain ⟨a37_3, ha37_3, hm⟩ := bnd hm; obtain ⟨ha37_3e, ha37_3l⟩ := app_some ha37_3
       refine Wy (.own 6) [(2, .gone), (6, (.arr 23 1 (List.length a37_3) (flatD (encL enc_GChange) a37_3)))] (Oap rfl elemOK_36 (encL_len (enc := enc_GChange)) ha37_3e ha37_3l) <| Wz (.loc 1 1) (Ofa rfl) <| Wy (.tup []) [(1, (.box [(.i p1), (.own 6), (.own 3), (.d .nil)]))] (Ost rfl) <| Wdr <| Tk 837 75 ⟨.i p0::tp 1 (.l enc_GChange p2::tp 3 (.loc 0 0::tp 1 (.loc 1 0::.i y9_2::tp 35 []))), [(.box [(.i 0), (.d .nil), (.d .nil), (.d .nil)]), (.box [(.i p1), (.own 6), (.own 3), (.d .nil)]), .gone, (.arr 23 1 (List.length y8_d_2_2) (flatD (encL enc_GChange) y8_d_2_2)), .gone, .gone, (.arr 23 1 (List.length a37_3) (flatD (encL enc_GChange) a37_3))], 0⟩ <| Tx <| Wz (.loc 1 2) (Ofa rfl) <| Wz (.own 3) (Old rfl) <| Wy (.own 7) [(7, (.arr 23 1 (List.length ([([] : List GChange)] : List (List GChange))) (flatD (encL enc_GChange) ([([] : List GChange)] : List (List GChange)))))] (Obs rfl) ?_
       obtain ⟨a42_4, ha42_4, hm⟩ := bnd hm; obtain ⟨ha42_4e, ha42_4l⟩ := app_some ha42_4
       refine Wy (.own 8) [(3, .gone), (8, (.arr 23 1 (List.length a42_4) (flatD (encL enc_GChange) a42_4)))] (Oap rfl elemOK_36 (encL_len (enc := enc_GChange)) ha42_4e ha42_4l) <| Wz (.loc 1 2) (Ofa rfl) <| Wy (.tup []) [(1, (.box [(.i p1), (.own 6), (.own 8), (.d .nil)]))] (Ost rfl) <| Wn0 <| Ino <| Tk 837 323 ⟨.i p0::tp 1 (.l enc_GChange p2::tp 3 (.loc 0 0::tp 1 (.loc 1 0::.i y9_2::tp 35 []))), [(.box [(.i 0), (.d .nil), (.d .nil), (.d .nil)]), (.box [(.i p1), (.own 6), (.own 8), (.d .nil)]), .gone, .gone, .gone, .gone, (.arr 23 1 (List.length a37_3) (flatD (encL enc_GChange) a37_3)), .gone, (.arr 23 1 (List.length a42_4) (flatD (encL enc_GChange) a42_4))], 0⟩ <| Tx <| Wm (.i y9_2) rfl <| Wz (.i (W6 (y9_2 + 1))) (Obn rfl (fun _ => hb_add (k := .i64))) <| Wm (.i (W6 (y9_2 + 1))) rfl <| Wn0 <| RoundK.normal ?_
       exact Rounds.weak (Weak.toK 837 0 0 [0, 1, 6, 8]) (ih_2 (fu_2, a37_3, a42_4, (W6 (y9_2 + 1))) hm (Nat.lt_succ_self _))
      ·
       replace hm := cF hc29_6 hm
       refine AiF hc29_6 <| AWP.exit <| Then.exit <| RoundK.exit <| InBlock.same <| Tk 320 15 ⟨tp 6 (.loc 0 0::tp 1 (.loc 1 0::tp 36 [])), [(.box [(.i 0), (.d .nil), (.d .nil), (.d .nil)]), (.box [(.i p1), (.own 2), (.own 3), (.d .nil)]), (.arr 23 1 (List.length y8_d_1_2) (flatD (encL enc_GChange) y8_d_1_2)), (.arr 23 1 (List.length y8_d_2_2) (flatD (encL enc_GChange) y8_d_2_2))], 0⟩ <| Sx <| Wz (.agg [(.i p1), (.own 2), (.own 3), (.d .nil)]) (Old rfl) <| Wy (.tup []) [(0, (.box [(.i p1), (.own 2), (.own 3), (.d .nil)]))] (Ost rfl) <| Wm (.i 0) rfl <| Nn <| Rt ?_
       obtain rfl := Option.some.inj hm
       exact ret_i [2, 3]

theorem ok_r29_there (p0 : GNet_) (p1 : Int) (r : Bool) (h : m_r29_there p0 p1 = some r) : GCall Try.prog 40 [(.agg [(.i p0.Cap), (.l (encL enc_GChange) p0.Views), (.l (encL enc_GChange) p0.Pending), (.l enc_GBatch p0.On)]), (.i p1)] [] (.b r) [] := by
 refine GCall.of_body (n := 14) (rs := [(.tmp 4)]) Try.func40 rfl rfl rfl <| Ato ⟨.agg [(.i p0.Cap), (.l (encL enc_GChange) p0.Views), (.l (encL enc_GChange) p0.Pending), (.l enc_GBatch p0.On)]::.i p1::tu 12 [], [], 0⟩ ?_
 have hm := h
 unfold m_r29_there at hm
 refine Sx <| Wy (.loc 0 0) [(0, (.box [(.i p0.Cap), (.l (encL enc_GChange) p0.Views), (.l (encL enc_GChange) p0.Pending), (.l enc_GBatch p0.On)]))] (Obx rfl) <| Wm (.b false) rfl <| Nk 6 1 ⟨tp 1 (.i p1::.loc 0 0::tp 11 []), [(.box [(.i p0.Cap), (.l (encL enc_GChange) p0.Views), (.l (encL enc_GChange) p0.Pending), (.l enc_GBatch p0.On)])], 0⟩ <| Sx <| Wm (.i p1) rfl <| Wz (.b (decide ((0 : Int) ≤ p1))) (Obn rfl (fun _ => hb_geq (k := .i64))) ?_
 rcases tf_ (decide ((0 : Int) ≤ p1)) with hq7_0 | hq7_0
 ·
  replace hm := cT hq7_0 hm
  refine Wz (.b true) (Oq hq7_0 rfl) <| Wm (.i p1) rfl <| Wz (.loc 0 1) (Ofa rfl) <| Wz (.l (encL enc_GChange) p0.Views) (Old rfl) <| Wz (.i ((List.length p0.Views : Nat) : Int)) (Oln rfl) <| Wz (.b (decide (p1 < ((List.length p0.Views : Nat) : Int)))) (Obn rfl (fun _ => hb_lss (k := .i64))) <| Wz (.b (decide (p1 < ((List.length p0.Views : Nat) : Int)))) (OpT rfl) <| Wm (.b (decide (p1 < ((List.length p0.Views : Nat) : Int)))) rfl <| Nn <| Rt ?_
  obtain rfl := Option.some.inj hm
  exact ret_i []
 ·
  replace hm := cF hq7_0 hm
  refine Wz (.b false) (Oq hq7_0 rfl) <| Wn <| Wn <| Wn <| Wn <| Wn <| Wz (.b false) (OpF rfl) <| Wm (.b false) rfl <| Nn <| Rt ?_
  obtain rfl := Option.some.inj hm
  exact ret_i []

theorem ok_r26_Merge (p0 : (List GChange)) (p1 : (List GChange)) (r : (List GChange)) (h : m_r26_Merge p0 p1 = some r) : GCall Try.prog 42 [(.l enc_GChange p0), (.l enc_GChange p1)] [] (.own 0) [(Ar 83 3 enc_GChange r)] := by
 refine GCall.of_body (n := 11) (rs := [(.tmp 4)]) Try.func42 rfl rfl rfl <| Ato ⟨.l enc_GChange p0::.l enc_GChange p1::tu 9 [], [], 0⟩ ?_
 have hm := h
 unfold m_r26_Merge at hm
 refine Sx <| Wm (.d .nil) rfl <| Nk 3 0 ⟨.l enc_GChange p0::.l enc_GChange p1::tp 9 [], [], 0⟩ <| Sx <| Wy (.own 0) [(0, (Ar 83 3 enc_GChange ([] : List GChange)))] (Obs rfl) <| Wm (.l enc_GChange p0) rfl ?_
 obtain ⟨a7_0, ha7_0, hm⟩ := bnd hm; obtain ⟨ha7_0e, ha7_0l⟩ := app_some ha7_0
 refine Wy (.own 1) [(0, .gone), (1, (Ar 83 3 enc_GChange a7_0))] (Oap rfl elemOK_23 enc_GChange_len ha7_0e ha7_0l) <| Wm (.l enc_GChange p1) rfl ?_
 obtain ⟨a9_0, ha9_0, hm⟩ := bnd hm; obtain ⟨ha9_0e, ha9_0l⟩ := app_some ha9_0
 refine Wy (.own 2) [(1, .gone), (2, (Ar 83 3 enc_GChange a9_0))] (Oap rfl elemOK_23 enc_GChange_len ha9_0e ha9_0l) ?_
 obtain ⟨r10_0, hr10_0, hm⟩ := bnd hm
 refine Wy (.own 3) [(3, (Ar 83 3 enc_GChange r10_0))] (Ocp [] [3] [2] 0 (ok_r26_Normal a9_0 r10_0 hr10_0) (⟨by simp [A.Plain, A.Plains, D.Plain, byteD], plain_cons (flat_plain enc_GChange_plain) (plain_nil)⟩) (fun a w => Try.call37 a w) rfl trivial) <| Wm (.own 3) rfl <| Nn <| Rt ?_
 obtain rfl := Option.some.inj hm
 exact ret_i [3]

theorem ok_r29_set (p0 : (List (List GChange))) (p1 : Int) (p2 : (List GChange)) (r : (List (List GChange))) (h : m_r29_set p0 p1 p2 = some r) : GCall Try.prog 41 [(.l (encL enc_GChange) p0), (.i p1), (.l enc_GChange p2)] [] (.own 0) [(.arr 23 1 (List.length r) (flatD (encL enc_GChange) r))] := by
 refine GCall.of_body (n := 16) (rs := [(.tmp 6)]) Try.func41 rfl rfl rfl <| Ato ⟨.l (encL enc_GChange) p0::.i p1::.l enc_GChange p2::tu 13 [], [], 0⟩ ?_
 have hm := h
 unfold m_r29_set at hm
 refine Sx <| Wm (.d .nil) rfl <| Nk 7 0 ⟨.l (encL enc_GChange) p0::.i p1::.l enc_GChange p2::tp 13 [], [], 0⟩ <| Sx <| Wy (.own 0) [(0, (.arr 23 1 (List.length ([] : List (List GChange))) (flatD (encL enc_GChange) ([] : List (List GChange)))))] (Obs rfl) <| Wm (.l (encL enc_GChange) p0) rfl ?_
 obtain ⟨a10_0, ha10_0, hm⟩ := bnd hm; obtain ⟨ha10_0e, ha10_0l⟩ := app_some ha10_0
 refine Wy (.own 1) [(0, .gone), (1, (.arr 23 1 (List.length a10_0) (flatD (encL enc_GChange) a10_0)))] (Oap rfl elemOK_36 (encL_len (enc := enc_GChange)) ha10_0e ha10_0l) <| Wm (.own 1) rfl <| Nk 134 2 ⟨tp 1 (.i p1::.l enc_GChange p2::tp 4 (.own 1::tp 8 [])), [.gone, (.arr 23 1 (List.length a10_0) (flatD (encL enc_GChange) a10_0))], 0⟩ <| Sx <| Wm (.own 1) rfl <| Wm (.i p1) rfl <| Wm (.l enc_GChange p2) rfl ?_
 obtain ⟨x14_1, hx14_1, hm⟩ := bnd hm
 obtain ⟨hx14_1i, hx14_1g⟩ := geti_some hx14_1
 refine Wz (.loc 1 ((Int.toNat p1) * 1)) (Oia rfl (encL_len (enc := enc_GChange)) hx14_1i hx14_1g) <| Wy (.tup []) [(1, (.arr 23 1 (List.length (List.set a10_0 (Int.toNat p1) p2)) (flatD (encL enc_GChange) (List.set a10_0 (Int.toNat p1) p2))))] (Osr 0 rfl (encL_len (enc := enc_GChange)) hx14_1g p2) <| Nk 128 2 ⟨tp 7 (.own 1::tp 8 []), [.gone, (.arr 23 1 (List.length (List.set a10_0 (Int.toNat p1) p2)) (flatD (encL enc_GChange) (List.set a10_0 (Int.toNat p1) p2)))], 0⟩ <| Sx <| Wm (.own 1) rfl <| Wm (.own 1) rfl <| Nn <| Rt ?_
 obtain rfl := Option.some.inj hm
 exact ret_i [1]

theorem ok_r29_Note (p0 : GNet_) (p1 : Int) (p2 : (List GChange)) (r : (GNet_ × Int)) (h : m_r29_Note p0 p1 p2 = some r) : GCall Try.prog 12 [(.agg [(.i p0.Cap), (.l (encL enc_GChange) p0.Views), (.l (encL enc_GChange) p0.Pending), (.l enc_GBatch p0.On)]), (.i p1), (.l enc_GChange p2)] [] (.tup [(.agg [(.i r.1.Cap), (.l (encL enc_GChange) r.1.Views), (.l (encL enc_GChange) r.1.Pending), (.l enc_GBatch r.1.On)]), (.i r.2)]) [] := by
 refine GCall.of_body (n := 26) (rs := [(.cell 6 39), (.tmp 7)]) Try.func12 rfl rfl rfl <| Ato ⟨.agg [(.i p0.Cap), (.l (encL enc_GChange) p0.Views), (.l (encL enc_GChange) p0.Pending), (.l enc_GBatch p0.On)]::.i p1::.l enc_GChange p2::tu 23 [], [], 0⟩ ?_
 have hm := h
 unfold m_r29_Note at hm
 refine Sx <| Wy (.loc 0 0) [(0, (.box [(.i p0.Cap), (.l (encL enc_GChange) p0.Views), (.l (encL enc_GChange) p0.Pending), (.l enc_GBatch p0.On)]))] (Obx rfl) <| Wy (.loc 1 0) [(1, (.box [(.i 0), (.d .nil), (.d .nil), (.d .nil)]))] (Oal rfl) <| Wm (.i 0) rfl <| Nk 78 3 ⟨tp 1 (.i p1::.l enc_GChange p2::.loc 0 0::tp 2 (.loc 1 0::tp 19 [])), [(.box [(.i p0.Cap), (.l (encL enc_GChange) p0.Views), (.l (encL enc_GChange) p0.Pending), (.l enc_GBatch p0.On)]), (.box [(.i 0), (.d .nil), (.d .nil), (.d .nil)])], 0⟩ <| Sq <| Sx <| Wz (.agg [(.i p0.Cap), (.l (encL enc_GChange) p0.Views), (.l (encL enc_GChange) p0.Pending), (.l enc_GBatch p0.On)]) (Old rfl) <| Wm (.i p1) rfl ?_
 obtain ⟨r10_0, hr10_0, hm⟩ := bnd hm
 refine Wz (.b r10_0) (Ocf [] [] [] 0 (ok_r29_there p0 p1 r10_0 hr10_0) (fun a w => Try.call40 a w) rfl trivial) <| Wz (.b (!r10_0)) (Ocs (by kernel_rfl) (op_un rfl (a1 := .bool r10_0) (by kernel_rfl) (fun _ => hu_not))) <| Nk 2126 3 ⟨tp 1 (.i p1::.l enc_GChange p2::.loc 0 0::tp 2 (.loc 1 0::tp 4 (.b (!r10_0)::tp 14 []))), [(.box [(.i p0.Cap), (.l (encL enc_GChange) p0.Views), (.l (encL enc_GChange) p0.Pending), (.l enc_GBatch p0.On)]), (.box [(.i 0), (.d .nil), (.d .nil), (.d .nil)])], 0⟩ ?_
 rcases tf_ (!r10_0) with hc11_2 | hc11_2
 ·
  replace hm := cT hc11_2 hm
  refine AiT hc11_2 <| Sx <| Wz (.agg [(.i p0.Cap), (.l (encL enc_GChange) p0.Views), (.l (encL enc_GChange) p0.Pending), (.l enc_GBatch p0.On)]) (Old rfl) <| Wy (.tup []) [(1, (.box [(.i p0.Cap), (.l (encL enc_GChange) p0.Views), (.l (encL enc_GChange) p0.Pending), (.l enc_GBatch p0.On)]))] (Ost rfl) <| Wm (.i 6) rfl <| Nn <| Rt <| Tr ?_
  obtain rfl := Option.some.inj hm
  exact ret_i []
 ·
  replace hm := cF hc11_2 hm
  refine AiF hc11_2 <| Sk <| Tk 78 3 ⟨tp 1 (.i p1::.l enc_GChange p2::.loc 0 0::tp 2 (.loc 1 0::tp 19 [])), [(.box [(.i p0.Cap), (.l (encL enc_GChange) p0.Views), (.l (encL enc_GChange) p0.Pending), (.l enc_GBatch p0.On)]), (.box [(.i 0), (.d .nil), (.d .nil), (.d .nil)])], 0⟩ <| Sq <| Adr <| Wz (.loc 0 2) (Ofa rfl) <| Wz (.l (encL enc_GChange) p0.Pending) (Old rfl) <| Wm (.i p1) rfl <| Wz (.loc 0 2) (Ofa rfl) <| Wz (.l (encL enc_GChange) p0.Pending) (Old rfl) <| Wm (.i p1) rfl ?_
  obtain ⟨x19_1, hx19_1, hm⟩ := bnd hm
  obtain ⟨hx19_1i, hx19_1g⟩ := geti_some hx19_1
  refine Wz (.d (.ref (List.drop ((Int.toNat p1) * 1) (flatD (encL enc_GChange) p0.Pending)))) (Oia rfl (encL_len (enc := enc_GChange)) hx19_1i hx19_1g) <| Wz (.l enc_GChange x19_1) (Lf1 rfl (encL_len (enc := enc_GChange)) hx19_1g) <| Wm (.l enc_GChange p2) rfl ?_
  obtain ⟨r22_1, hr22_1, hm⟩ := bnd hm
  refine Wy (.own 2) [(2, (Ar 83 3 enc_GChange r22_1))] (Ocf [] [2] [] 0 (ok_r26_Merge x19_1 p2 r22_1 hr22_1) (fun a w => Try.call42 a w) rfl trivial) ?_
  obtain ⟨r23_1, hr23_1, hm⟩ := bnd hm
  refine Wy (.own 3) [(3, (.arr 23 1 (List.length r23_1) (flatD (encL enc_GChange) r23_1))), (2, (.fro 83 3 (List.length r22_1) (flatD enc_GChange r22_1)))] (Ocf [] [3] [2] 0 (ok_r29_set p0.Pending p1 r22_1 r23_1 hr23_1) (fun a w => Try.call41 a w) rfl trivial) <| Wz (.loc 0 2) (Ofa rfl) <| Wy (.tup []) [(0, (.box [(.i p0.Cap), (.l (encL enc_GChange) p0.Views), (.own 3), (.l enc_GBatch p0.On)]))] (Ost rfl) <| Wdr <| Tk 72 11 ⟨tp 3 (.loc 0 0::tp 2 (.loc 1 0::tp 19 [])), [(.box [(.i p0.Cap), (.l (encL enc_GChange) p0.Views), (.own 3), (.l enc_GBatch p0.On)]), (.box [(.i 0), (.d .nil), (.d .nil), (.d .nil)]), .gone, (.arr 23 1 (List.length r23_1) (flatD (encL enc_GChange) r23_1))], 0⟩ <| Sx <| Wz (.agg [(.i p0.Cap), (.l (encL enc_GChange) p0.Views), (.own 3), (.l enc_GBatch p0.On)]) (Old rfl) <| Wy (.tup []) [(1, (.box [(.i p0.Cap), (.l (encL enc_GChange) p0.Views), (.own 3), (.l enc_GBatch p0.On)]))] (Ost rfl) <| Wm (.i 0) rfl <| Nn <| Afz [3] ⟨tp 3 (.loc 0 0::tp 2 (.loc 1 0::.i 0::tp 17 (.agg [(.i p0.Cap), (.l (encL enc_GChange) p0.Views), (.l (encL enc_GChange) r23_1), (.l enc_GBatch p0.On)]::[]))), [(.box [(.i p0.Cap), (.l (encL enc_GChange) p0.Views), (.l (encL enc_GChange) r23_1), (.l enc_GBatch p0.On)]), (.box [(.i p0.Cap), (.l (encL enc_GChange) p0.Views), (.l (encL enc_GChange) r23_1), (.l enc_GBatch p0.On)]), .gone, (.fro 23 1 (List.length r23_1) (flatD (encL enc_GChange) r23_1))], 0⟩ <| Rt ?_
  obtain rfl := Option.some.inj hm
  exact ret_i []

theorem ok_r29_Waits (p0 : GNet_) (p1 : Int) (p2 : Int) (r : Int) (h : m_r29_Waits p0 p1 p2 = some r) : GCall Try.prog 20 [(.agg [(.i p0.Cap), (.l (encL enc_GChange) p0.Views), (.l (encL enc_GChange) p0.Pending), (.l enc_GBatch p0.On)]), (.i p1), (.i p2)] [] (.i r) [] := by
 refine GCall.of_body (n := 37) (rs := [(.tmp 6)]) Try.func20 rfl rfl rfl <| Ato ⟨.agg [(.i p0.Cap), (.l (encL enc_GChange) p0.Views), (.l (encL enc_GChange) p0.Pending), (.l enc_GBatch p0.On)]::.i p1::.i p2::tu 34 [], [], 0⟩ ?_
 have hm := h
 unfold m_r29_Waits at hm
 refine Sx <| Wy (.loc 0 0) [(0, (.box [(.i p0.Cap), (.l (encL enc_GChange) p0.Views), (.l (encL enc_GChange) p0.Pending), (.l enc_GBatch p0.On)]))] (Obx rfl) <| Wm (.i 0) rfl <| Nk 14 1 ⟨tp 1 (.i p1::.i p2::.loc 0 0::tp 33 []), [(.box [(.i p0.Cap), (.l (encL enc_GChange) p0.Views), (.l (encL enc_GChange) p0.Pending), (.l enc_GBatch p0.On)])], 0⟩ <| Sx <| Wm (.i 0) rfl <| Nk 142 1 ⟨tp 1 (.i p1::.i p2::.loc 0 0::tp 3 (.i 0::tp 29 [])), [(.box [(.i p0.Cap), (.l (encL enc_GChange) p0.Views), (.l (encL enc_GChange) p0.Pending), (.l enc_GBatch p0.On)])], 0⟩ <| Sq <| Sx <| Wm (.i 0) rfl <| Nk 398 1 ⟨tp 1 (.i p1::.i p2::.loc 0 0::tp 3 (.i 0::.i 0::tp 28 [])), [(.box [(.i p0.Cap), (.l (encL enc_GChange) p0.Views), (.l (encL enc_GChange) p0.Pending), (.l enc_GBatch p0.On)])], 0⟩ <| Bk ?_
 refine AWP.loopI (α := Nat × Int × Int)
   (fun (fu_0, y7_0, y8_0) => (⟨tp 1 (.i p1::.i p2::.loc 0 0::tp 3 (.i y7_0::.i y8_0::tp 28 [])), [(.box [(.i p0.Cap), (.l (encL enc_GChange) p0.Views), (.l (encL enc_GChange) p0.Pending), (.l enc_GBatch p0.On)])], 0⟩ : St))
   (fun (fu_0, y7_0, y8_0) => m_r29_Waits_l0 p0 p1 p2 fu_0 y7_0 y8_0 = some r)
   (fun (fu_0, y7_0, y8_0) => fu_0) (1152921504606846976, 0, 0)
   (Weak.toK 398 0 0 [0]) hm ?_
 rintro ⟨fu_0, y7_0, y8_0⟩ n_0 hm ih_0
 try dsimp only at hm ih_0 ⊢
 cases fu_0 with
 | zero => exact absurd hm (by unfold m_r29_Waits_l0; simp)
 | succ fu_0 =>
  unfold m_r29_Waits_l0 at hm
  refine Sq <| Sx <| Wm (.i y8_0) rfl <| Wz (.loc 0 3) (Ofa rfl) <| Wz (.l enc_GBatch p0.On) (Old rfl) <| Wz (.i ((List.length p0.On : Nat) : Int)) (Oln rfl) <| Wz (.b (decide (y8_0 < ((List.length p0.On : Nat) : Int)))) (Obn rfl (fun _ => hb_lss (k := .i64))) <| Nk 8590 1 ⟨tp 1 (.i p1::.i p2::.loc 0 0::tp 3 (.i y7_0::.i y8_0::tp 4 (.b (decide (y8_0 < ((List.length p0.On : Nat) : Int)))::tp 23 []))), [(.box [(.i p0.Cap), (.l (encL enc_GChange) p0.Views), (.l (encL enc_GChange) p0.Pending), (.l enc_GBatch p0.On)])], 0⟩ ?_
  rcases tf_ (decide (y8_0 < ((List.length p0.On : Nat) : Int))) with hc13_3 | hc13_3
  ·
   replace hm := cT hc13_3 hm
   refine AiT hc13_3 <| Sk <| Tk 398 1 ⟨tp 1 (.i p1::.i p2::.loc 0 0::tp 3 (.i y7_0::.i y8_0::tp 28 [])), [(.box [(.i p0.Cap), (.l (encL enc_GChange) p0.Views), (.l (encL enc_GChange) p0.Pending), (.l enc_GBatch p0.On)])], 0⟩ <| Sq <| Bk <| Sx <| Wz (.loc 0 3) (Ofa rfl) <| Wz (.l enc_GBatch p0.On) (Old rfl) <| Wm (.i y8_0) rfl ?_
   obtain ⟨x19_2, hx19_2, hm⟩ := bnd hm
   obtain ⟨hx19_2i, hx19_2g⟩ := geti_some hx19_2
   refine Wz (.d (.ref (List.drop ((Int.toNat y8_0) * 3) (flatD enc_GBatch p0.On)))) (Oia rfl enc_GBatch_len hx19_2i hx19_2g) <| Wz (.d (.ref (List.drop ((Int.toNat y8_0) * 3) (flatD enc_GBatch p0.On)))) (Ofa rfl) <| Wz (.i x19_2.From) (Lf1 rfl enc_GBatch_len hx19_2g) <| Wm (.i p1) rfl <| Wz (.b (decide (x19_2.From = p1))) (Obn rfl (fun _ => hb_eql (k := .i64))) ?_
   rcases tf_ (decide (x19_2.From = p1)) with hq24_2 | hq24_2
   ·
    replace hm := cT hq24_2 hm
    refine Wz (.b true) (Oq hq24_2 rfl) <| Wz (.loc 0 3) (Ofa rfl) <| Wz (.l enc_GBatch p0.On) (Old rfl) <| Wm (.i y8_0) rfl ?_
    obtain ⟨x28_2, hx28_2, hm⟩ := bnd hm
    obtain ⟨hx28_2i, hx28_2g⟩ := geti_some hx28_2
    refine Wz (.d (.ref (List.drop ((Int.toNat y8_0) * 3) (flatD enc_GBatch p0.On)))) (Oia rfl enc_GBatch_len hx28_2i hx28_2g) <| Wz (.d (.ref (List.drop 1 (List.drop ((Int.toNat y8_0) * 3) (flatD enc_GBatch p0.On))))) (Ofa rfl) <| Wz (.i x28_2.To) (Lfk1 1 rfl enc_GBatch_len hx28_2g) <| Wm (.i p2) rfl <| Wz (.b (decide (x28_2.To = p2))) (Obn rfl (fun _ => hb_eql (k := .i64))) <| Wz (.b (decide (x28_2.To = p2))) (OpT rfl) <| Nk 8589934990 1 ⟨tp 1 (.i p1::.i p2::.loc 0 0::tp 3 (.i y7_0::.i y8_0::tp 24 (.b (decide (x28_2.To = p2))::tp 3 []))), [(.box [(.i p0.Cap), (.l (encL enc_GChange) p0.Views), (.l (encL enc_GChange) p0.Pending), (.l enc_GBatch p0.On)])], 0⟩ ?_
    rcases tf_ (decide (x28_2.To = p2)) with hc33_4 | hc33_4
    ·
     replace hm := cT hc33_4 hm
     refine AiT hc33_4 <| Tx <| Wm (.i y7_0) rfl <| Wz (.i (W6 (y7_0 + 1))) (Obn rfl (fun _ => hb_add (k := .i64))) <| Wm (.i (W6 (y7_0 + 1))) rfl <| Wn0 <| Ino <| Tk 398 1 ⟨tp 1 (.i p1::.i p2::.loc 0 0::tp 3 (.i (W6 (y7_0 + 1))::.i y8_0::tp 28 [])), [(.box [(.i p0.Cap), (.l (encL enc_GChange) p0.Views), (.l (encL enc_GChange) p0.Pending), (.l enc_GBatch p0.On)])], 0⟩ <| Tx <| Wm (.i y8_0) rfl <| Wz (.i (W6 (y8_0 + 1))) (Obn rfl (fun _ => hb_add (k := .i64))) <| Wm (.i (W6 (y8_0 + 1))) rfl <| Wn0 <| RoundK.normal ?_
     exact Rounds.weak (Weak.toK 398 0 0 [0]) (ih_0 (fu_0, (W6 (y7_0 + 1)), (W6 (y8_0 + 1))) hm (Nat.lt_succ_self _))
    ·
     replace hm := cF hc33_4 hm
     refine AiF hc33_4 <| Sk <| Ino <| Tk 398 1 ⟨tp 1 (.i p1::.i p2::.loc 0 0::tp 3 (.i y7_0::.i y8_0::tp 28 [])), [(.box [(.i p0.Cap), (.l (encL enc_GChange) p0.Views), (.l (encL enc_GChange) p0.Pending), (.l enc_GBatch p0.On)])], 0⟩ <| Tx <| Wm (.i y8_0) rfl <| Wz (.i (W6 (y8_0 + 1))) (Obn rfl (fun _ => hb_add (k := .i64))) <| Wm (.i (W6 (y8_0 + 1))) rfl <| Wn0 <| RoundK.normal ?_
     exact Rounds.weak (Weak.toK 398 0 0 [0]) (ih_0 (fu_0, y7_0, (W6 (y8_0 + 1))) hm (Nat.lt_succ_self _))
   ·
    replace hm := cF hq24_2 hm
    refine Wz (.b false) (Oq hq24_2 rfl) <| Wn <| Wn <| Wn <| Wn <| Wn <| Wn <| Wn <| Wn <| Wz (.b false) (OpF rfl) <| Nk 8589934990 1 ⟨tp 1 (.i p1::.i p2::.loc 0 0::tp 3 (.i y7_0::.i y8_0::tp 24 (.b false::tp 3 []))), [(.box [(.i p0.Cap), (.l (encL enc_GChange) p0.Views), (.l (encL enc_GChange) p0.Pending), (.l enc_GBatch p0.On)])], 0⟩ <| AWP.if_ false (by kernel_rfl) <| Sk <| Ino ?_
    refine Tk 398 1 ⟨tp 1 (.i p1::.i p2::.loc 0 0::tp 3 (.i y7_0::.i y8_0::tp 28 [])), [(.box [(.i p0.Cap), (.l (encL enc_GChange) p0.Views), (.l (encL enc_GChange) p0.Pending), (.l enc_GBatch p0.On)])], 0⟩ <| Tx <| Wm (.i y8_0) rfl <| Wz (.i (W6 (y8_0 + 1))) (Obn rfl (fun _ => hb_add (k := .i64))) <| Wm (.i (W6 (y8_0 + 1))) rfl <| Wn0 <| RoundK.normal ?_
    exact Rounds.weak (Weak.toK 398 0 0 [0]) (ih_0 (fu_0, y7_0, (W6 (y8_0 + 1))) hm (Nat.lt_succ_self _))
  ·
   replace hm := cF hc13_3 hm
   refine AiF hc13_3 <| AWP.exit <| Then.exit <| RoundK.exit <| InBlock.same <| Tk 128 0 ⟨tp 7 (.i y7_0::tp 29 []), [.gone], 0⟩ <| Sx <| Wm (.i y7_0) rfl <| Wm (.i y7_0) rfl <| Nn <| Rt ?_
   obtain rfl := Option.some.inj hm
   exact ret_i []

theorem ok_r29_Flush (p0 : GNet_) (p1 : Int) (r : (GNet_ × Int)) (h : m_r29_Flush p0 p1 = some r) : GCall Try.prog 14 [(.agg [(.i p0.Cap), (.l (encL enc_GChange) p0.Views), (.l (encL enc_GChange) p0.Pending), (.l enc_GBatch p0.On)]), (.i p1)] [] (.tup [(.agg [(.i r.1.Cap), (.l (encL enc_GChange) r.1.Views), (.l (encL enc_GChange) r.1.Pending), (.l enc_GBatch r.1.On)]), (.i r.2)]) [] := by
 refine GCall.of_body (n := 59) (rs := [(.cell 4 39), (.tmp 5)]) Try.func14 rfl rfl rfl <| Ato ⟨.agg [(.i p0.Cap), (.l (encL enc_GChange) p0.Views), (.l (encL enc_GChange) p0.Pending), (.l enc_GBatch p0.On)]::.i p1::tu 57 [], [], 0⟩ ?_
 have hm := h
 unfold m_r29_Flush at hm
 refine Sx <| Wy (.loc 0 0) [(0, (.box [(.i p0.Cap), (.l (encL enc_GChange) p0.Views), (.l (encL enc_GChange) p0.Pending), (.l enc_GBatch p0.On)]))] (Obx rfl) <| Wy (.loc 1 0) [(1, (.box [(.i 0), (.d .nil), (.d .nil), (.d .nil)]))] (Oal rfl) <| Wm (.i 0) rfl <| Nk 22 3 ⟨tp 1 (.i p1::.loc 0 0::tp 1 (.loc 1 0::tp 54 [])), [(.box [(.i p0.Cap), (.l (encL enc_GChange) p0.Views), (.l (encL enc_GChange) p0.Pending), (.l enc_GBatch p0.On)]), (.box [(.i 0), (.d .nil), (.d .nil), (.d .nil)])], 0⟩ <| Sq <| Sx <| Wz (.agg [(.i p0.Cap), (.l (encL enc_GChange) p0.Views), (.l (encL enc_GChange) p0.Pending), (.l enc_GBatch p0.On)]) (Old rfl) <| Wm (.i p1) rfl ?_
 obtain ⟨r10_0, hr10_0, hm⟩ := bnd hm
 refine Wz (.b r10_0) (Ocf [] [] [] 0 (ok_r29_there p0 p1 r10_0 hr10_0) (fun a w => Try.call40 a w) rfl trivial) <| Wz (.b (!r10_0)) (Ocs (by kernel_rfl) (op_un rfl (a1 := .bool r10_0) (by kernel_rfl) (fun _ => hu_not))) <| Nk 2070 3 ⟨tp 1 (.i p1::.loc 0 0::tp 1 (.loc 1 0::tp 6 (.b (!r10_0)::tp 47 []))), [(.box [(.i p0.Cap), (.l (encL enc_GChange) p0.Views), (.l (encL enc_GChange) p0.Pending), (.l enc_GBatch p0.On)]), (.box [(.i 0), (.d .nil), (.d .nil), (.d .nil)])], 0⟩ ?_
 rcases tf_ (!r10_0) with hc11_8 | hc11_8
 ·
  replace hm := cT hc11_8 hm
  refine AiT hc11_8 <| Sx <| Wz (.agg [(.i p0.Cap), (.l (encL enc_GChange) p0.Views), (.l (encL enc_GChange) p0.Pending), (.l enc_GBatch p0.On)]) (Old rfl) <| Wy (.tup []) [(1, (.box [(.i p0.Cap), (.l (encL enc_GChange) p0.Views), (.l (encL enc_GChange) p0.Pending), (.l enc_GBatch p0.On)]))] (Ost rfl) <| Wm (.i 6) rfl <| Nn <| Rt <| Tr ?_
  obtain rfl := Option.some.inj hm
  exact ret_i []
 ·
  replace hm := cF hc11_8 hm
  refine AiF hc11_8 <| Sk <| Tk 22 3 ⟨tp 1 (.i p1::.loc 0 0::tp 1 (.loc 1 0::tp 54 [])), [(.box [(.i p0.Cap), (.l (encL enc_GChange) p0.Views), (.l (encL enc_GChange) p0.Pending), (.l enc_GBatch p0.On)]), (.box [(.i 0), (.d .nil), (.d .nil), (.d .nil)])], 0⟩ <| Sq <| Sx <| Wz (.loc 0 2) (Ofa rfl) <| Wz (.l (encL enc_GChange) p0.Pending) (Old rfl) <| Wm (.i p1) rfl ?_
  obtain ⟨x16_1, hx16_1, hm⟩ := bnd hm
  obtain ⟨hx16_1i, hx16_1g⟩ := geti_some hx16_1
  refine Wz (.d (.ref (List.drop ((Int.toNat p1) * 1) (flatD (encL enc_GChange) p0.Pending)))) (Oia rfl (encL_len (enc := enc_GChange)) hx16_1i hx16_1g) <| Wz (.l enc_GChange x16_1) (Lf1 rfl (encL_len (enc := enc_GChange)) hx16_1g) <| Wz (.i ((List.length x16_1 : Nat) : Int)) (Oln rfl) <| Wz (.b (decide (((List.length x16_1 : Nat) : Int) = 0))) (Obn rfl (fun _ => hb_eql (k := .i64))) <| Nk 524310 3 ⟨tp 1 (.i p1::.loc 0 0::tp 1 (.loc 1 0::tp 14 (.b (decide (((List.length x16_1 : Nat) : Int) = 0))::tp 39 []))), [(.box [(.i p0.Cap), (.l (encL enc_GChange) p0.Views), (.l (encL enc_GChange) p0.Pending), (.l enc_GBatch p0.On)]), (.box [(.i 0), (.d .nil), (.d .nil), (.d .nil)])], 0⟩ ?_
  rcases tf_ (decide (((List.length x16_1 : Nat) : Int) = 0)) with hc19_9 | hc19_9
  ·
   replace hm := cT hc19_9 hm
   refine AiT hc19_9 <| Sx <| Wz (.agg [(.i p0.Cap), (.l (encL enc_GChange) p0.Views), (.l (encL enc_GChange) p0.Pending), (.l enc_GBatch p0.On)]) (Old rfl) <| Wy (.tup []) [(1, (.box [(.i p0.Cap), (.l (encL enc_GChange) p0.Views), (.l (encL enc_GChange) p0.Pending), (.l enc_GBatch p0.On)]))] (Ost rfl) <| Wm (.i 16) rfl <| Nn <| Rt <| Tr ?_
   obtain rfl := Option.some.inj hm
   exact ret_i []
  ·
   replace hm := cF hc19_9 hm
   refine AiF hc19_9 <| Sk <| Tk 22 3 ⟨tp 1 (.i p1::.loc 0 0::tp 1 (.loc 1 0::tp 54 [])), [(.box [(.i p0.Cap), (.l (encL enc_GChange) p0.Views), (.l (encL enc_GChange) p0.Pending), (.l enc_GBatch p0.On)]), (.box [(.i 0), (.d .nil), (.d .nil), (.d .nil)])], 0⟩ <| Sx <| Wy (.own 2) [(2, (Ar 93 3 enc_GBatch ([] : List GBatch)))] (Obs rfl) <| Wz (.loc 0 3) (Ofa rfl) <| Wz (.l enc_GBatch p0.On) (Old rfl) ?_
   obtain ⟨a24_2, ha24_2, hm⟩ := bnd hm; obtain ⟨ha24_2e, ha24_2l⟩ := app_some ha24_2
   refine Wy (.own 3) [(2, .gone), (3, (Ar 93 3 enc_GBatch a24_2))] (Oap rfl elemOK_37 enc_GBatch_len ha24_2e ha24_2l) <| Wm (.own 3) rfl <| Nk 86 11 ⟨tp 1 (.i p1::.loc 0 0::tp 1 (.loc 1 0::tp 1 (.own 3::tp 52 []))), [(.box [(.i p0.Cap), (.l (encL enc_GChange) p0.Views), (.l (encL enc_GChange) p0.Pending), (.l enc_GBatch p0.On)]), (.box [(.i 0), (.d .nil), (.d .nil), (.d .nil)]), .gone, (Ar 93 3 enc_GBatch a24_2)], 0⟩ <| Sq <| Sx <| Wm (.i 0) rfl <| Nk 214 11 ⟨tp 1 (.i p1::.loc 0 0::tp 1 (.loc 1 0::tp 1 (.own 3::.i 0::tp 51 []))), [(.box [(.i p0.Cap), (.l (encL enc_GChange) p0.Views), (.l (encL enc_GChange) p0.Pending), (.l enc_GBatch p0.On)]), (.box [(.i 0), (.d .nil), (.d .nil), (.d .nil)]), .gone, (Ar 93 3 enc_GBatch a24_2)], 0⟩ <| Bk ?_
   refine AWP.loopI (α := Nat × (List GBatch) × Int)
     (fun (fu_3, y6_3, y7_3) => (⟨tp 1 (.i p1::.loc 0 0::tp 1 (.loc 1 0::tp 1 (.own 2::.i y7_3::tp 51 []))), [(.box [(.i p0.Cap), (.l (encL enc_GChange) p0.Views), (.l (encL enc_GChange) p0.Pending), (.l enc_GBatch p0.On)]), (.box [(.i 0), (.d .nil), (.d .nil), (.d .nil)]), (Ar 93 3 enc_GBatch y6_3)], 0⟩ : St))
     (fun (fu_3, y6_3, y7_3) => m_r29_Flush_l3 p0 p1 fu_3 y6_3 y7_3 = some r)
     (fun (fu_3, y6_3, y7_3) => fu_3) (1152921504606846976, a24_2, 0)
     (Weak.toK 214 0 0 [0, 1, 3]) hm ?_
   rintro ⟨fu_3, y6_3, y7_3⟩ n_3 hm ih_3
   try dsimp only at hm ih_3 ⊢
   cases fu_3 with
   | zero => exact absurd hm (by unfold m_r29_Flush_l3; simp)
   | succ fu_3 =>
    unfold m_r29_Flush_l3 at hm
    refine Sq <| Sx <| Wm (.i y7_3) rfl <| Wz (.loc 0 1) (Ofa rfl) <| Wz (.l (encL enc_GChange) p0.Views) (Old rfl) <| Wz (.i ((List.length p0.Views : Nat) : Int)) (Oln rfl) <| Wz (.b (decide (y7_3 < ((List.length p0.Views : Nat) : Int)))) (Obn rfl (fun _ => hb_lss (k := .i64))) <| Nk 536871126 7 ⟨tp 1 (.i p1::.loc 0 0::tp 1 (.loc 1 0::tp 1 (.own 2::.i y7_3::tp 21 (.b (decide (y7_3 < ((List.length p0.Views : Nat) : Int)))::tp 29 [])))), [(.box [(.i p0.Cap), (.l (encL enc_GChange) p0.Views), (.l (encL enc_GChange) p0.Pending), (.l enc_GBatch p0.On)]), (.box [(.i 0), (.d .nil), (.d .nil), (.d .nil)]), (Ar 93 3 enc_GBatch y6_3)], 0⟩ ?_
    rcases tf_ (decide (y7_3 < ((List.length p0.Views : Nat) : Int))) with hc29_10 | hc29_10
    ·
     replace hm := cT hc29_10 hm
     refine AiT hc29_10 <| Sk <| Tk 214 7 ⟨tp 1 (.i p1::.loc 0 0::tp 1 (.loc 1 0::tp 1 (.own 2::.i y7_3::tp 51 []))), [(.box [(.i p0.Cap), (.l (encL enc_GChange) p0.Views), (.l (encL enc_GChange) p0.Pending), (.l enc_GBatch p0.On)]), (.box [(.i 0), (.d .nil), (.d .nil), (.d .nil)]), (Ar 93 3 enc_GBatch y6_3)], 0⟩ <| Sq <| Bk <| Sq <| Sq <| Adr <| Wz (.agg [(.i p0.Cap), (.l (encL enc_GChange) p0.Views), (.l (encL enc_GChange) p0.Pending), (.l enc_GBatch p0.On)]) (Old rfl) <| Wm (.i p1) rfl <| Wm (.i y7_3) rfl ?_
     obtain ⟨r35_5, hr35_5, hm⟩ := bnd hm
     refine Wz (.i r35_5) (Ocf [] [] [] 0 (ok_r29_Waits p0 p1 y7_3 r35_5 hr35_5) (fun a w => Try.call20 a w) rfl trivial) <| Wz (.loc 0 0) (Ofa rfl) <| Wz (.i p0.Cap) (Old rfl) <| Wz (.b (decide (p0.Cap ≤ r35_5))) (Obn rfl (fun _ => hb_geq (k := .i64))) <| Wdr <| Tk 274877907158 7 ⟨tp 1 (.i p1::.loc 0 0::tp 1 (.loc 1 0::tp 1 (.own 2::.i y7_3::tp 30 (.b (decide (p0.Cap ≤ r35_5))::tp 20 [])))), [(.box [(.i p0.Cap), (.l (encL enc_GChange) p0.Views), (.l (encL enc_GChange) p0.Pending), (.l enc_GBatch p0.On)]), (.box [(.i 0), (.d .nil), (.d .nil), (.d .nil)]), (Ar 93 3 enc_GBatch y6_3)], 0⟩ ?_
     rcases tf_ (decide (p0.Cap ≤ r35_5)) with hc38_11 | hc38_11
     ·
      replace hm := cT hc38_11 hm
      refine AiT hc38_11 <| Sx <| Wz (.agg [(.i p0.Cap), (.l (encL enc_GChange) p0.Views), (.l (encL enc_GChange) p0.Pending), (.l enc_GBatch p0.On)]) (Old rfl) <| Wy (.tup []) [(1, (.box [(.i p0.Cap), (.l (encL enc_GChange) p0.Views), (.l (encL enc_GChange) p0.Pending), (.l enc_GBatch p0.On)]))] (Ost rfl) <| Wm (.i 7) rfl <| Nn <| Rt <| Tr <| Ir <| Tr <| RoundK.ret <| Ir <| Tr ?_
      obtain rfl := Option.some.inj hm
      exact ret_i []
     ·
      replace hm := cF hc38_11 hm
      refine AiF hc38_11 <| Sk <| Tk 214 7 ⟨tp 1 (.i p1::.loc 0 0::tp 1 (.loc 1 0::tp 1 (.own 2::.i y7_3::tp 51 []))), [(.box [(.i p0.Cap), (.l (encL enc_GChange) p0.Views), (.l (encL enc_GChange) p0.Pending), (.l enc_GBatch p0.On)]), (.box [(.i 0), (.d .nil), (.d .nil), (.d .nil)]), (Ar 93 3 enc_GBatch y6_3)], 0⟩ <| Tx <| Wm (.own 2) rfl <| Wm (.i p1) rfl <| Wm (.i y7_3) rfl <| Wz (.loc 0 2) (Ofa rfl) <| Wz (.l (encL enc_GChange) p0.Pending) (Old rfl) <| Wm (.i p1) rfl ?_
      obtain ⟨x46_6, hx46_6, hm⟩ := bnd hm
      obtain ⟨hx46_6i, hx46_6g⟩ := geti_some hx46_6
      refine Wz (.d (.ref (List.drop ((Int.toNat p1) * 1) (flatD (encL enc_GChange) p0.Pending)))) (Oia rfl (encL_len (enc := enc_GChange)) hx46_6i hx46_6g) <| Wz (.l enc_GChange x46_6) (Lf1 rfl (encL_len (enc := enc_GChange)) hx46_6g) <| Wz (.agg [(.i p1), (.i y7_3), (.l enc_GChange x46_6)]) (Obd rfl) <| Wy (.own 3) [(3, (Ar 93 3 enc_GBatch ([(GBatch.mk p1 y7_3 x46_6)] : List GBatch)))] (Obs rfl) ?_
      obtain ⟨a50_6, ha50_6, hm⟩ := bnd hm; obtain ⟨ha50_6e, ha50_6l⟩ := app_some ha50_6
      refine Wy (.own 4) [(2, .gone), (4, (Ar 93 3 enc_GBatch a50_6))] (Oap rfl elemOK_37 enc_GBatch_len ha50_6e ha50_6l) <| Wm (.own 4) rfl <| Wn0 <| Ino <| Tk 214 19 ⟨tp 1 (.i p1::.loc 0 0::tp 1 (.loc 1 0::tp 1 (.own 4::.i y7_3::tp 51 []))), [(.box [(.i p0.Cap), (.l (encL enc_GChange) p0.Views), (.l (encL enc_GChange) p0.Pending), (.l enc_GBatch p0.On)]), (.box [(.i 0), (.d .nil), (.d .nil), (.d .nil)]), .gone, .gone, (Ar 93 3 enc_GBatch a50_6)], 0⟩ <| Tx <| Wm (.i y7_3) rfl <| Wz (.i (W6 (y7_3 + 1))) (Obn rfl (fun _ => hb_add (k := .i64))) <| Wm (.i (W6 (y7_3 + 1))) rfl <| Wn0 <| RoundK.normal ?_
      exact Rounds.weak (Weak.toK 214 0 0 [0, 1, 4]) (ih_3 (fu_3, a50_6, (W6 (y7_3 + 1))) hm (Nat.lt_succ_self _))
    ·
     replace hm := cF hc29_10 hm
     refine AiF hc29_10 <| AWP.exit <| Then.exit <| RoundK.exit <| InBlock.same <| Tk 86 7 ⟨tp 1 (.i p1::.loc 0 0::tp 1 (.loc 1 0::tp 1 (.own 2::tp 52 []))), [(.box [(.i p0.Cap), (.l (encL enc_GChange) p0.Views), (.l (encL enc_GChange) p0.Pending), (.l enc_GBatch p0.On)]), (.box [(.i 0), (.d .nil), (.d .nil), (.d .nil)]), (Ar 93 3 enc_GBatch y6_3)], 0⟩ <| Sx <| Wm (.own 2) rfl <| Wz (.loc 0 3) (Ofa rfl) <| Wy (.tup []) [(0, (.box [(.i p0.Cap), (.l (encL enc_GChange) p0.Views), (.l (encL enc_GChange) p0.Pending), (.own 2)]))] (Ost rfl) <| Nk 22 7 ⟨tp 1 (.i p1::.loc 0 0::tp 1 (.loc 1 0::tp 54 [])), [(.box [(.i p0.Cap), (.l (encL enc_GChange) p0.Views), (.l (encL enc_GChange) p0.Pending), (.own 2)]), (.box [(.i 0), (.d .nil), (.d .nil), (.d .nil)]), (Ar 93 3 enc_GBatch y6_3)], 0⟩ <| Sx <| Wz (.loc 0 2) (Ofa rfl) <| Wz (.l (encL enc_GChange) p0.Pending) (Old rfl) ?_
     refine Wm (.i p1) rfl ?_
     obtain ⟨r56_7, hr56_7, hm⟩ := bnd hm
     refine Wy (.own 3) [(3, (.arr 23 1 (List.length r56_7) (flatD (encL enc_GChange) r56_7)))] (Ocf [] [3] [] 0 (ok_r29_set p0.Pending p1 ([] : List GChange) r56_7 hr56_7) (fun a w => Try.call41 a w) rfl trivial) <| Wz (.loc 0 2) (Ofa rfl) <| Wy (.tup []) [(0, (.box [(.i p0.Cap), (.l (encL enc_GChange) p0.Views), (.own 3), (.own 2)]))] (Ost rfl) <| Nk 20 15 ⟨tp 2 (.loc 0 0::tp 1 (.loc 1 0::tp 54 [])), [(.box [(.i p0.Cap), (.l (encL enc_GChange) p0.Views), (.own 3), (.own 2)]), (.box [(.i 0), (.d .nil), (.d .nil), (.d .nil)]), (Ar 93 3 enc_GBatch y6_3), (.arr 23 1 (List.length r56_7) (flatD (encL enc_GChange) r56_7))], 0⟩ <| Sx <| Wz (.agg [(.i p0.Cap), (.l (encL enc_GChange) p0.Views), (.own 3), (.own 2)]) (Old rfl) <| Wy (.tup []) [(1, (.box [(.i p0.Cap), (.l (encL enc_GChange) p0.Views), (.own 3), (.own 2)]))] (Ost rfl) <| Wm (.i 0) rfl <| Nn <| Afz [2, 3] ⟨tp 2 (.loc 0 0::tp 1 (.loc 1 0::.i 0::tp 52 (.agg [(.i p0.Cap), (.l (encL enc_GChange) p0.Views), (.l (encL enc_GChange) r56_7), (.l enc_GBatch y6_3)]::[]))), [(.box [(.i p0.Cap), (.l (encL enc_GChange) p0.Views), (.l (encL enc_GChange) r56_7), (.l enc_GBatch y6_3)]), (.box [(.i p0.Cap), (.l (encL enc_GChange) p0.Views), (.l (encL enc_GChange) r56_7), (.l enc_GBatch y6_3)]), (.fro 93 3 (List.length y6_3) (flatD enc_GBatch y6_3)), (.fro 23 1 (List.length r56_7) (flatD (encL enc_GChange) r56_7))], 0⟩ <| Rt ?_
     obtain rfl := Option.some.inj hm
     exact ret_i []

theorem ok_r29_Deliver (p0 : GNet_) (p1 : Int) (p2 : Int) (r : (GNet_ × Int)) (h : m_r29_Deliver p0 p1 p2 = some r) : GCall Try.prog 16 [(.agg [(.i p0.Cap), (.l (encL enc_GChange) p0.Views), (.l (encL enc_GChange) p0.Pending), (.l enc_GBatch p0.On)]), (.i p1), (.i p2)] [] (.tup [(.agg [(.i r.1.Cap), (.l (encL enc_GChange) r.1.Views), (.l (encL enc_GChange) r.1.Pending), (.l enc_GBatch r.1.On)]), (.i r.2)]) [] := by
 refine GCall.of_body (n := 77) (rs := [(.cell 6 39), (.tmp 7)]) Try.func16 rfl rfl rfl <| Ato ⟨.agg [(.i p0.Cap), (.l (encL enc_GChange) p0.Views), (.l (encL enc_GChange) p0.Pending), (.l enc_GBatch p0.On)]::.i p1::.i p2::tu 74 [], [], 0⟩ ?_
 have hm := h
 unfold m_r29_Deliver at hm
 refine Sx <| Wy (.loc 0 0) [(0, (.box [(.i p0.Cap), (.l (encL enc_GChange) p0.Views), (.l (encL enc_GChange) p0.Pending), (.l enc_GBatch p0.On)]))] (Obx rfl) <| Wy (.loc 1 0) [(1, (.box [(.i 0), (.d .nil), (.d .nil), (.d .nil)]))] (Oal rfl) <| Wm (.i 0) rfl <| Nk 78 3 ⟨tp 1 (.i p1::.i p2::.loc 0 0::tp 2 (.loc 1 0::tp 70 [])), [(.box [(.i p0.Cap), (.l (encL enc_GChange) p0.Views), (.l (encL enc_GChange) p0.Pending), (.l enc_GBatch p0.On)]), (.box [(.i 0), (.d .nil), (.d .nil), (.d .nil)])], 0⟩ <| Sq <| Sx <| Wz (.agg [(.i p0.Cap), (.l (encL enc_GChange) p0.Views), (.l (encL enc_GChange) p0.Pending), (.l enc_GBatch p0.On)]) (Old rfl) <| Wm (.i p1) rfl ?_
 obtain ⟨r11_0, hr11_0, hm⟩ := bnd hm
 refine Wz (.b r11_0) (Ocf [] [] [] 0 (ok_r29_there p0 p1 r11_0 hr11_0) (fun a w => Try.call40 a w) rfl trivial) <| Wz (.b (!r11_0)) (Ocs (by kernel_rfl) (op_un rfl (a1 := .bool r11_0) (by kernel_rfl) (fun _ => hu_not))) ?_
 rcases tf_ (!r11_0) with hq13_0 | hq13_0
 ·
  replace hm := cT hq13_0 hm
  refine Wz (.b true) (Oq hq13_0 rfl) <| Wn <| Wn <| Wn <| Wn <| Wz (.b true) (OpT rfl) <| Nk 262222 3 ⟨tp 1 (.i p1::.i p2::.loc 0 0::tp 2 (.loc 1 0::tp 11 (.b true::tp 58 []))), [(.box [(.i p0.Cap), (.l (encL enc_GChange) p0.Views), (.l (encL enc_GChange) p0.Pending), (.l enc_GBatch p0.On)]), (.box [(.i 0), (.d .nil), (.d .nil), (.d .nil)])], 0⟩ <| AWP.if_ true (by kernel_rfl) <| Sx <| Wz (.agg [(.i p0.Cap), (.l (encL enc_GChange) p0.Views), (.l (encL enc_GChange) p0.Pending), (.l enc_GBatch p0.On)]) (Old rfl) <| Wy (.tup []) [(1, (.box [(.i p0.Cap), (.l (encL enc_GChange) p0.Views), (.l (encL enc_GChange) p0.Pending), (.l enc_GBatch p0.On)]))] (Ost rfl) <| Wm (.i 6) rfl <| Nn <| Rt ?_
  refine Tr ?_
  obtain rfl := Option.some.inj hm
  exact ret_i []
 ·
  replace hm := cF hq13_0 hm
  refine Wz (.b false) (Oq hq13_0 rfl) <| Wz (.agg [(.i p0.Cap), (.l (encL enc_GChange) p0.Views), (.l (encL enc_GChange) p0.Pending), (.l enc_GBatch p0.On)]) (Old rfl) <| Wm (.i p2) rfl ?_
  obtain ⟨r16_0, hr16_0, hm⟩ := bnd hm
  refine Wz (.b r16_0) (Ocf [] [] [] 0 (ok_r29_there p0 p2 r16_0 hr16_0) (fun a w => Try.call40 a w) rfl trivial) <| Wz (.b (!r16_0)) (Ocs (by kernel_rfl) (op_un rfl (a1 := .bool r16_0) (by kernel_rfl) (fun _ => hu_not))) <| Wz (.b (!r16_0)) (OpF rfl) <| Nk 262222 3 ⟨tp 1 (.i p1::.i p2::.loc 0 0::tp 2 (.loc 1 0::tp 11 (.b (!r16_0)::tp 58 []))), [(.box [(.i p0.Cap), (.l (encL enc_GChange) p0.Views), (.l (encL enc_GChange) p0.Pending), (.l enc_GBatch p0.On)]), (.box [(.i 0), (.d .nil), (.d .nil), (.d .nil)])], 0⟩ ?_
  rcases tf_ (!r16_0) with hc18_6 | hc18_6
  ·
   replace hm := cT hc18_6 hm
   refine AiT hc18_6 <| Sx <| Wz (.agg [(.i p0.Cap), (.l (encL enc_GChange) p0.Views), (.l (encL enc_GChange) p0.Pending), (.l enc_GBatch p0.On)]) (Old rfl) <| Wy (.tup []) [(1, (.box [(.i p0.Cap), (.l (encL enc_GChange) p0.Views), (.l (encL enc_GChange) p0.Pending), (.l enc_GBatch p0.On)]))] (Ost rfl) <| Wm (.i 6) rfl <| Nn <| Rt <| Tr ?_
   obtain rfl := Option.some.inj hm
   exact ret_i []
  ·
   replace hm := cF hc18_6 hm
   refine AiF hc18_6 <| Sk <| Tk 78 3 ⟨tp 1 (.i p1::.i p2::.loc 0 0::tp 2 (.loc 1 0::tp 70 [])), [(.box [(.i p0.Cap), (.l (encL enc_GChange) p0.Views), (.l (encL enc_GChange) p0.Pending), (.l enc_GBatch p0.On)]), (.box [(.i 0), (.d .nil), (.d .nil), (.d .nil)])], 0⟩ <| Sq <| Sx <| Wm (.i 0) rfl <| Nk 334 3 ⟨tp 1 (.i p1::.i p2::.loc 0 0::tp 2 (.loc 1 0::tp 1 (.i 0::tp 68 []))), [(.box [(.i p0.Cap), (.l (encL enc_GChange) p0.Views), (.l (encL enc_GChange) p0.Pending), (.l enc_GBatch p0.On)]), (.box [(.i 0), (.d .nil), (.d .nil), (.d .nil)])], 0⟩ <| Bk ?_
   refine AWP.loopI (α := Nat × Int)
     (fun (fu_1, y8_1) => (⟨tp 1 (.i p1::.i p2::.loc 0 0::tp 2 (.loc 1 0::tp 1 (.i y8_1::tp 68 []))), [(.box [(.i p0.Cap), (.l (encL enc_GChange) p0.Views), (.l (encL enc_GChange) p0.Pending), (.l enc_GBatch p0.On)]), (.box [(.i 0), (.d .nil), (.d .nil), (.d .nil)])], 0⟩ : St))
     (fun (fu_1, y8_1) => m_r29_Deliver_l1 p0 p1 p2 fu_1 y8_1 = some r)
     (fun (fu_1, y8_1) => fu_1) (1152921504606846976, 0)
     (Weak.toK 334 0 0 [0, 1]) hm ?_
   rintro ⟨fu_1, y8_1⟩ n_1 hm ih_1
   try dsimp only at hm ih_1 ⊢
   cases fu_1 with
   | zero => exact absurd hm (by unfold m_r29_Deliver_l1; simp)
   | succ fu_1 =>
    unfold m_r29_Deliver_l1 at hm
    refine Sq <| Sx <| Wm (.i y8_1) rfl <| Wz (.loc 0 3) (Ofa rfl) <| Wz (.l enc_GBatch p0.On) (Old rfl) <| Wz (.i ((List.length p0.On : Nat) : Int)) (Oln rfl) <| Wz (.b (decide (y8_1 < ((List.length p0.On : Nat) : Int)))) (Obn rfl (fun _ => hb_lss (k := .i64))) <| Nk 16777550 3 ⟨tp 1 (.i p1::.i p2::.loc 0 0::tp 2 (.loc 1 0::tp 1 (.i y8_1::tp 15 (.b (decide (y8_1 < ((List.length p0.On : Nat) : Int)))::tp 52 [])))), [(.box [(.i p0.Cap), (.l (encL enc_GChange) p0.Views), (.l (encL enc_GChange) p0.Pending), (.l enc_GBatch p0.On)]), (.box [(.i 0), (.d .nil), (.d .nil), (.d .nil)])], 0⟩ ?_
    rcases tf_ (decide (y8_1 < ((List.length p0.On : Nat) : Int))) with hc24_7 | hc24_7
    ·
     replace hm := cT hc24_7 hm
     refine AiT hc24_7 <| Sk <| Tk 334 3 ⟨tp 1 (.i p1::.i p2::.loc 0 0::tp 2 (.loc 1 0::tp 1 (.i y8_1::tp 68 []))), [(.box [(.i p0.Cap), (.l (encL enc_GChange) p0.Views), (.l (encL enc_GChange) p0.Pending), (.l enc_GBatch p0.On)]), (.box [(.i 0), (.d .nil), (.d .nil), (.d .nil)])], 0⟩ <| Sq <| Bk <| Sx <| Wz (.loc 0 3) (Ofa rfl) <| Wz (.l enc_GBatch p0.On) (Old rfl) <| Wm (.i y8_1) rfl ?_
     obtain ⟨x30_3, hx30_3, hm⟩ := bnd hm
     obtain ⟨hx30_3i, hx30_3g⟩ := geti_some hx30_3
     refine Wz (.d (.ref (List.drop ((Int.toNat y8_1) * 3) (flatD enc_GBatch p0.On)))) (Oia rfl enc_GBatch_len hx30_3i hx30_3g) <| Wz (.d (.ref (List.drop ((Int.toNat y8_1) * 3) (flatD enc_GBatch p0.On)))) (Ofa rfl) <| Wz (.i x30_3.From) (Lf1 rfl enc_GBatch_len hx30_3g) <| Wm (.i p1) rfl <| Wz (.b (decide (x30_3.From = p1))) (Obn rfl (fun _ => hb_eql (k := .i64))) ?_
     rcases tf_ (decide (x30_3.From = p1)) with hq35_3 | hq35_3
     ·
      replace hm := cT hq35_3 hm
      refine Wz (.b true) (Oq hq35_3 rfl) <| Wz (.loc 0 3) (Ofa rfl) <| Wz (.l enc_GBatch p0.On) (Old rfl) <| Wm (.i y8_1) rfl ?_
      obtain ⟨x39_3, hx39_3, hm⟩ := bnd hm
      obtain ⟨hx39_3i, hx39_3g⟩ := geti_some hx39_3
      refine Wz (.d (.ref (List.drop ((Int.toNat y8_1) * 3) (flatD enc_GBatch p0.On)))) (Oia rfl enc_GBatch_len hx39_3i hx39_3g) <| Wz (.d (.ref (List.drop 1 (List.drop ((Int.toNat y8_1) * 3) (flatD enc_GBatch p0.On))))) (Ofa rfl) <| Wz (.i x39_3.To) (Lfk1 1 rfl enc_GBatch_len hx39_3g) <| Wm (.i p2) rfl <| Wz (.b (decide (x39_3.To = p2))) (Obn rfl (fun _ => hb_eql (k := .i64))) <| Wz (.b (decide (x39_3.To = p2))) (OpT rfl) <| Nk 17592186044750 3 ⟨tp 1 (.i p1::.i p2::.loc 0 0::tp 2 (.loc 1 0::tp 1 (.i y8_1::tp 35 (.b (decide (x39_3.To = p2))::tp 32 [])))), [(.box [(.i p0.Cap), (.l (encL enc_GChange) p0.Views), (.l (encL enc_GChange) p0.Pending), (.l enc_GBatch p0.On)]), (.box [(.i 0), (.d .nil), (.d .nil), (.d .nil)])], 0⟩ ?_
      rcases tf_ (decide (x39_3.To = p2)) with hc44_8 | hc44_8
      ·
       replace hm := cT hc44_8 hm
       refine AiT hc44_8 <| Sq <| Adr <| Wz (.loc 0 1) (Ofa rfl) <| Wz (.l (encL enc_GChange) p0.Views) (Old rfl) <| Wm (.i p2) rfl <| Wz (.loc 0 1) (Ofa rfl) <| Wz (.l (encL enc_GChange) p0.Views) (Old rfl) <| Wm (.i p2) rfl ?_
       obtain ⟨x51_4, hx51_4, hm⟩ := bnd hm
       obtain ⟨hx51_4i, hx51_4g⟩ := geti_some hx51_4
       refine Wz (.d (.ref (List.drop ((Int.toNat p2) * 1) (flatD (encL enc_GChange) p0.Views)))) (Oia rfl (encL_len (enc := enc_GChange)) hx51_4i hx51_4g) <| Wz (.l enc_GChange x51_4) (Lf1 rfl (encL_len (enc := enc_GChange)) hx51_4g) <| Wz (.loc 0 3) (Ofa rfl) <| Wz (.l enc_GBatch p0.On) (Old rfl) <| Wm (.i y8_1) rfl ?_
       obtain ⟨x56_4, hx56_4, hm⟩ := bnd hm
       obtain ⟨hx56_4i, hx56_4g⟩ := geti_some hx56_4
       refine Wz (.d (.ref (List.drop ((Int.toNat y8_1) * 3) (flatD enc_GBatch p0.On)))) (Oia rfl enc_GBatch_len hx56_4i hx56_4g) <| Wz (.d (.ref (List.drop 2 (List.drop ((Int.toNat y8_1) * 3) (flatD enc_GBatch p0.On))))) (Ofa rfl) <| Wz (.l enc_GChange x56_4.L) (Lfk1 2 rfl enc_GBatch_len hx56_4g) ?_
       obtain ⟨r59_4, hr59_4, hm⟩ := bnd hm
       refine Wy (.own 2) [(2, (Ar 83 3 enc_GChange r59_4))] (Ocf [] [2] [] 0 (ok_r26_Merge x51_4 x56_4.L r59_4 hr59_4) (fun a w => Try.call42 a w) rfl trivial) ?_
       obtain ⟨r60_4, hr60_4, hm⟩ := bnd hm
       refine Wy (.own 3) [(3, (.arr 23 1 (List.length r60_4) (flatD (encL enc_GChange) r60_4))), (2, (.fro 83 3 (List.length r59_4) (flatD enc_GChange r59_4)))] (Ocf [] [3] [2] 0 (ok_r29_set p0.Views p2 r59_4 r60_4 hr60_4) (fun a w => Try.call41 a w) rfl trivial) <| Wz (.loc 0 1) (Ofa rfl) <| Wy (.tup []) [(0, (.box [(.i p0.Cap), (.own 3), (.l (encL enc_GChange) p0.Pending), (.l enc_GBatch p0.On)]))] (Ost rfl) <| Wdr <| Tk 328 11 ⟨tp 3 (.loc 0 0::tp 2 (.loc 1 0::tp 1 (.i y8_1::tp 68 []))), [(.box [(.i p0.Cap), (.own 3), (.l (encL enc_GChange) p0.Pending), (.l enc_GBatch p0.On)]), (.box [(.i 0), (.d .nil), (.d .nil), (.d .nil)]), .gone, (.arr 23 1 (List.length r60_4) (flatD (encL enc_GChange) r60_4))], 0⟩ <| Sq <| Adr <| Wy (.own 4) [(4, (Ar 93 3 enc_GBatch ([] : List GBatch)))] (Obs rfl) <| Wz (.loc 0 3) (Ofa rfl) <| Wz (.l enc_GBatch p0.On) (Old rfl) <| Wm (.i y8_1) rfl ?_
       obtain ⟨s66_5, hs66_5, hm⟩ := bnd hm; obtain ⟨hs66_5a, hs66_5b, hs66_5c, hs66_5d, hs66_5e⟩ := cut_some hs66_5
       refine Wz (.l enc_GBatch s66_5) (op_cut rfl (e := 93) (sz := 3) (by kernel_rfl) (l := p0.On) (enc := enc_GBatch) (by kernel_rfl) enc_GBatch_len (a := (Int.toNat 0)) (b := (Int.toNat y8_1)) (by exact rfl) (⟨.i64, y8_1, by kernel_rfl, hs66_5b⟩) hs66_5c hs66_5d hs66_5e) ?_
       obtain ⟨a67_5, ha67_5, hm⟩ := bnd hm; obtain ⟨ha67_5e, ha67_5l⟩ := app_some ha67_5
       refine Wy (.own 5) [(4, .gone), (5, (Ar 93 3 enc_GBatch a67_5))] (Oap rfl elemOK_37 enc_GBatch_len ha67_5e ha67_5l) <| Wz (.loc 0 3) (Ofa rfl) <| Wz (.l enc_GBatch p0.On) (Old rfl) <| Wm (.i y8_1) rfl <| Wz (.i (W6 (y8_1 + 1))) (Obn rfl (fun _ => hb_add (k := .i64))) ?_
       obtain ⟨s72_5, hs72_5, hm⟩ := bnd hm; obtain ⟨hs72_5a, hs72_5b, hs72_5c, hs72_5d, hs72_5e⟩ := cut_some hs72_5
       refine Wz (.l enc_GBatch s72_5) (op_cut rfl (e := 93) (sz := 3) (by kernel_rfl) (l := p0.On) (enc := enc_GBatch) (by kernel_rfl) enc_GBatch_len (a := (Int.toNat (W6 (y8_1 + 1)))) (b := (Int.toNat ((List.length p0.On : Nat) : Int))) (⟨.i64, (W6 (y8_1 + 1)), by kernel_rfl, hs72_5a⟩) (by exact rfl) hs72_5c hs72_5d hs72_5e) ?_
       obtain ⟨a73_5, ha73_5, hm⟩ := bnd hm; obtain ⟨ha73_5e, ha73_5l⟩ := app_some ha73_5
       refine Wy (.own 6) [(5, .gone), (6, (Ar 93 3 enc_GBatch a73_5))] (Oap rfl elemOK_37 enc_GBatch_len ha73_5e ha73_5l) <| Wz (.loc 0 3) (Ofa rfl) <| Wy (.tup []) [(0, (.box [(.i p0.Cap), (.own 3), (.l (encL enc_GChange) p0.Pending), (.own 6)]))] (Ost rfl) <| Wdr <| Tk 72 75 ⟨tp 3 (.loc 0 0::tp 2 (.loc 1 0::tp 70 [])), [(.box [(.i p0.Cap), (.own 3), (.l (encL enc_GChange) p0.Pending), (.own 6)]), (.box [(.i 0), (.d .nil), (.d .nil), (.d .nil)]), .gone, (.arr 23 1 (List.length r60_4) (flatD (encL enc_GChange) r60_4)), .gone, .gone, (Ar 93 3 enc_GBatch a73_5)], 0⟩ <| Sx <| Wz (.agg [(.i p0.Cap), (.own 3), (.l (encL enc_GChange) p0.Pending), (.own 6)]) (Old rfl) <| Wy (.tup []) [(1, (.box [(.i p0.Cap), (.own 3), (.l (encL enc_GChange) p0.Pending), (.own 6)]))] (Ost rfl) <| Wm (.i 0) rfl <| Nn <| Afz [3, 6] ⟨tp 3 (.loc 0 0::tp 2 (.loc 1 0::.i 0::tp 67 (.agg [(.i p0.Cap), (.l (encL enc_GChange) r60_4), (.l (encL enc_GChange) p0.Pending), (.l enc_GBatch a73_5)]::tp 1 []))), [(.box [(.i p0.Cap), (.l (encL enc_GChange) r60_4), (.l (encL enc_GChange) p0.Pending), (.l enc_GBatch a73_5)]), (.box [(.i p0.Cap), (.l (encL enc_GChange) r60_4), (.l (encL enc_GChange) p0.Pending), (.l enc_GBatch a73_5)]), .gone, (.fro 23 1 (List.length r60_4) (flatD (encL enc_GChange) r60_4)), .gone, .gone, (.fro 93 3 (List.length a73_5) (flatD enc_GBatch a73_5))], 0⟩ <| Rt <| Ir <| Tr ?_
       refine RoundK.ret <| Ir <| Tr ?_
       obtain rfl := Option.some.inj hm
       exact ret_i []
      ·
       replace hm := cF hc44_8 hm
       refine AiF hc44_8 <| Sk <| Ino <| Tk 334 3 ⟨tp 1 (.i p1::.i p2::.loc 0 0::tp 2 (.loc 1 0::tp 1 (.i y8_1::tp 68 []))), [(.box [(.i p0.Cap), (.l (encL enc_GChange) p0.Views), (.l (encL enc_GChange) p0.Pending), (.l enc_GBatch p0.On)]), (.box [(.i 0), (.d .nil), (.d .nil), (.d .nil)])], 0⟩ <| Tx <| Wm (.i y8_1) rfl <| Wz (.i (W6 (y8_1 + 1))) (Obn rfl (fun _ => hb_add (k := .i64))) <| Wm (.i (W6 (y8_1 + 1))) rfl <| Wn0 <| RoundK.normal ?_
       exact Rounds.weak (Weak.toK 334 0 0 [0, 1]) (ih_1 (fu_1, (W6 (y8_1 + 1))) hm (Nat.lt_succ_self _))
     ·
      replace hm := cF hq35_3 hm
      refine Wz (.b false) (Oq hq35_3 rfl) <| Wn <| Wn <| Wn <| Wn <| Wn <| Wn <| Wn <| Wn <| Wz (.b false) (OpF rfl) <| Nk 17592186044750 3 ⟨tp 1 (.i p1::.i p2::.loc 0 0::tp 2 (.loc 1 0::tp 1 (.i y8_1::tp 35 (.b false::tp 32 [])))), [(.box [(.i p0.Cap), (.l (encL enc_GChange) p0.Views), (.l (encL enc_GChange) p0.Pending), (.l enc_GBatch p0.On)]), (.box [(.i 0), (.d .nil), (.d .nil), (.d .nil)])], 0⟩ <| AWP.if_ false (by kernel_rfl) <| Sk <| Ino ?_
      refine Tk 334 3 ⟨tp 1 (.i p1::.i p2::.loc 0 0::tp 2 (.loc 1 0::tp 1 (.i y8_1::tp 68 []))), [(.box [(.i p0.Cap), (.l (encL enc_GChange) p0.Views), (.l (encL enc_GChange) p0.Pending), (.l enc_GBatch p0.On)]), (.box [(.i 0), (.d .nil), (.d .nil), (.d .nil)])], 0⟩ <| Tx <| Wm (.i y8_1) rfl <| Wz (.i (W6 (y8_1 + 1))) (Obn rfl (fun _ => hb_add (k := .i64))) <| Wm (.i (W6 (y8_1 + 1))) rfl <| Wn0 <| RoundK.normal ?_
      exact Rounds.weak (Weak.toK 334 0 0 [0, 1]) (ih_1 (fu_1, (W6 (y8_1 + 1))) hm (Nat.lt_succ_self _))
    ·
     replace hm := cF hc24_7 hm
     refine AiF hc24_7 <| AWP.exit <| Then.exit <| RoundK.exit <| InBlock.same <| Tk 72 3 ⟨tp 3 (.loc 0 0::tp 2 (.loc 1 0::tp 70 [])), [(.box [(.i p0.Cap), (.l (encL enc_GChange) p0.Views), (.l (encL enc_GChange) p0.Pending), (.l enc_GBatch p0.On)]), (.box [(.i 0), (.d .nil), (.d .nil), (.d .nil)])], 0⟩ <| Sx <| Wz (.agg [(.i p0.Cap), (.l (encL enc_GChange) p0.Views), (.l (encL enc_GChange) p0.Pending), (.l enc_GBatch p0.On)]) (Old rfl) <| Wy (.tup []) [(1, (.box [(.i p0.Cap), (.l (encL enc_GChange) p0.Views), (.l (encL enc_GChange) p0.Pending), (.l enc_GBatch p0.On)]))] (Ost rfl) <| Wm (.i 16) rfl <| Nn <| Rt ?_
     obtain rfl := Option.some.inj hm
     exact ret_i []

theorem ok_w26_Back (p0 : (List GChange)) (r : (List GChange)) (h : m_w26_Back p0 = some r) : GCall Try.prog 26 [(.l enc_GChange p0)] [] (.own 0) [(Ar 83 3 enc_GChange r)] := by
 refine GCall.of_body (n := 19) (rs := [(.tmp 2)]) Try.func26 rfl rfl rfl <| Ato ⟨.l enc_GChange p0::tu 18 [], [], 0⟩ ?_
 have hm := h
 unfold m_w26_Back at hm
 refine Sx <| Wm (.d .nil) rfl <| Nk 1 0 ⟨.l enc_GChange p0::tp 18 [], [], 0⟩ <| Sx <| Wm (.d .nil) rfl <| Nk 9 0 ⟨.l enc_GChange p0::tp 2 (.d .nil::tp 15 []), [], 0⟩ <| Sq <| Sx <| Wm (.i 0) rfl <| Nk 25 0 ⟨.l enc_GChange p0::tp 2 (.d .nil::.i 0::tp 14 []), [], 0⟩ <| Bk <| Aow 3 83 3 ⟨.l enc_GChange p0::tp 2 (.own 0::.i 0::tp 14 []), [(Ar 83 3 enc_GChange ([] : List GChange))], 0⟩ ?_
 refine AWP.loopI (α := Nat × (List GChange) × Int)
   (fun (fu_0, y3_0, y4_0) => (⟨.l enc_GChange p0::tp 2 (.own 0::.i y4_0::tp 14 []), [(Ar 83 3 enc_GChange y3_0)], 0⟩ : St))
   (fun (fu_0, y3_0, y4_0) => m_w26_Back_l0 p0 fu_0 y3_0 y4_0 = some r)
   (fun (fu_0, y3_0, y4_0) => fu_0) (1152921504606846976, ([] : List GChange), 0)
   (Weak.toK 25 0 0 [0]) hm ?_
 rintro ⟨fu_0, y3_0, y4_0⟩ n_0 hm ih_0
 try dsimp only at hm ih_0 ⊢
 cases fu_0 with
 | zero => exact absurd hm (by unfold m_w26_Back_l0; simp)
 | succ fu_0 =>
  unfold m_w26_Back_l0 at hm
  refine Sq <| Sx <| Wm (.i y4_0) rfl <| Wm (.l enc_GChange p0) rfl <| Wz (.i ((List.length p0 : Nat) : Int)) (Oln rfl) <| Wz (.b (decide (y4_0 < ((List.length p0 : Nat) : Int)))) (Obn rfl (fun _ => hb_lss (k := .i64))) <| Nk 281 1 ⟨.l enc_GChange p0::tp 2 (.own 0::.i y4_0::tp 3 (.b (decide (y4_0 < ((List.length p0 : Nat) : Int)))::tp 10 [])), [(Ar 83 3 enc_GChange y3_0)], 0⟩ ?_
  rcases tf_ (decide (y4_0 < ((List.length p0 : Nat) : Int))) with hc8_3 | hc8_3
  ·
   replace hm := cT hc8_3 hm
   refine AiT hc8_3 <| Sk <| Tk 25 1 ⟨.l enc_GChange p0::tp 2 (.own 0::.i y4_0::tp 14 []), [(Ar 83 3 enc_GChange y3_0)], 0⟩ <| Sq <| Bk <| Tx <| Wm (.own 0) rfl <| Wm (.l enc_GChange p0) rfl <| Wm (.i y4_0) rfl ?_
   obtain ⟨x14_2, hx14_2, hm⟩ := bnd hm
   obtain ⟨hx14_2i, hx14_2g⟩ := geti_some hx14_2
   refine Wz (.d (.ref (List.drop ((Int.toNat y4_0) * 3) (flatD enc_GChange p0)))) (Oia rfl enc_GChange_len hx14_2i hx14_2g) <| Wz (.agg [(.i x14_2.Loc), (.i x14_2.Time), (.i x14_2.N)]) (Lf rfl enc_GChange_len hx14_2g) <| Wy (.own 1) [(1, (Ar 83 3 enc_GChange ([x14_2] : List GChange)))] (Obs rfl) ?_
   obtain ⟨a17_2, ha17_2, hm⟩ := bnd hm; obtain ⟨ha17_2e, ha17_2l⟩ := app_some ha17_2
   refine Wy (.own 2) [(0, .gone), (2, (Ar 83 3 enc_GChange a17_2))] (Oap rfl elemOK_23 enc_GChange_len ha17_2e ha17_2l) <| Wm (.own 2) rfl <| Wn0 <| Ino <| Tk 25 4 ⟨.l enc_GChange p0::tp 2 (.own 2::.i y4_0::tp 14 []), [.gone, .gone, (Ar 83 3 enc_GChange a17_2)], 0⟩ <| Tx <| Wm (.i y4_0) rfl <| Wz (.i (W6 (y4_0 + 1))) (Obn rfl (fun _ => hb_add (k := .i64))) <| Wm (.i (W6 (y4_0 + 1))) rfl <| Wn0 <| RoundK.normal ?_
   exact Rounds.weak (Weak.toK 25 0 0 [2]) (ih_0 (fu_0, a17_2, (W6 (y4_0 + 1))) hm (Nat.lt_succ_self _))
  ·
   replace hm := cF hc8_3 hm
   refine AiF hc8_3 <| AWP.exit <| Then.exit <| RoundK.exit <| InBlock.same <| Tk 8 1 ⟨tp 3 (.own 0::tp 15 []), [(Ar 83 3 enc_GChange y3_0)], 0⟩ <| Sx <| Wm (.own 0) rfl <| Wm (.own 0) rfl <| Nn <| Rt ?_
   obtain rfl := Option.some.inj hm
   exact ret_i [0]

theorem ok_w29_Back (p0 : GNet) (r : GNet_) (h : m_w29_Back p0 = some r) : GCall Try.prog 18 [(.agg [(.i p0.Cap), (.l (encL enc_GChange) p0.Views), (.l (encL enc_GChange) p0.Pending), (.d (.mp (Option.isNone p0.Links) (mks kv_22 (ml p0.Links)) (mds (slD (encL enc_GChange)) (ml p0.Links))))])] [] (.agg [(.i r.Cap), (.own 0), (.own 1), (.own 2)]) [(.arr 23 1 (List.length r.Views) (flatD (encL enc_GChange) r.Views)), (.arr 23 1 (List.length r.Pending) (flatD (encL enc_GChange) r.Pending)), (Ar 93 3 enc_GBatch r.On)] := by
 refine GCall.of_body (n := 81) (rs := [(.cell 2 39)]) Try.func18 rfl rfl rfl <| Ato ⟨.agg [(.i p0.Cap), (.l (encL enc_GChange) p0.Views), (.l (encL enc_GChange) p0.Pending), (.d (.mp (Option.isNone p0.Links) (mks kv_22 (ml p0.Links)) (mds (slD (encL enc_GChange)) (ml p0.Links))))]::tu 80 [], [], 0⟩ ?_
 have hm := h
 unfold m_w29_Back at hm
 refine Sx <| Wy (.loc 0 0) [(0, (.box [(.i p0.Cap), (.l (encL enc_GChange) p0.Views), (.l (encL enc_GChange) p0.Pending), (.d (.mp (Option.isNone p0.Links) (mks kv_22 (ml p0.Links)) (mds (slD (encL enc_GChange)) (ml p0.Links))))]))] (Obx rfl) <| Wy (.loc 1 0) [(1, (.box [(.i 0), (.d .nil), (.d .nil), (.d .nil)]))] (Oal rfl) <| Nk 6 3 ⟨tp 1 (.loc 0 0::.loc 1 0::tp 78 []), [(.box [(.i p0.Cap), (.l (encL enc_GChange) p0.Views), (.l (encL enc_GChange) p0.Pending), (.d (.mp (Option.isNone p0.Links) (mks kv_22 (ml p0.Links)) (mds (slD (encL enc_GChange)) (ml p0.Links))))]), (.box [(.i 0), (.d .nil), (.d .nil), (.d .nil)])], 0⟩ <| Sx <| Wz (.loc 0 0) (Ofa rfl) <| Wz (.i p0.Cap) (Old rfl) <| Wz (.agg [(.i p0.Cap), (.d .nil), (.d .nil), (.d .nil)]) (Obd rfl) <| Wy (.loc 2 0) [(2, (.box [(.i 0), (.d .nil), (.d .nil), (.d .nil)]))] (Oal rfl) <| Wy (.tup []) [(2, (.box [(.i p0.Cap), (.d .nil), (.d .nil), (.d .nil)]))] (Ost rfl) <| Nk 14 7 ⟨tp 1 (.loc 0 0::.loc 1 0::.loc 2 0::tp 77 []), [(.box [(.i p0.Cap), (.l (encL enc_GChange) p0.Views), (.l (encL enc_GChange) p0.Pending), (.d (.mp (Option.isNone p0.Links) (mks kv_22 (ml p0.Links)) (mds (slD (encL enc_GChange)) (ml p0.Links))))]), (.box [(.i 0), (.d .nil), (.d .nil), (.d .nil)]), (.box [(.i p0.Cap), (.d .nil), (.d .nil), (.d .nil)])], 0⟩ <| Sq <| Sx <| Wm (.i 0) rfl ?_
 refine Nk 30 7 ⟨tp 1 (.loc 0 0::.loc 1 0::.loc 2 0::.i 0::tp 76 []), [(.box [(.i p0.Cap), (.l (encL enc_GChange) p0.Views), (.l (encL enc_GChange) p0.Pending), (.d (.mp (Option.isNone p0.Links) (mks kv_22 (ml p0.Links)) (mds (slD (encL enc_GChange)) (ml p0.Links))))]), (.box [(.i 0), (.d .nil), (.d .nil), (.d .nil)]), (.box [(.i p0.Cap), (.d .nil), (.d .nil), (.d .nil)])], 0⟩ <| Bk <| Aob 2 1 23 1 ⟨tp 1 (.loc 0 0::.loc 1 0::.loc 2 0::.i 0::tp 76 []), [(.box [(.i p0.Cap), (.l (encL enc_GChange) p0.Views), (.l (encL enc_GChange) p0.Pending), (.d (.mp (Option.isNone p0.Links) (mks kv_22 (ml p0.Links)) (mds (slD (encL enc_GChange)) (ml p0.Links))))]), (.box [(.i 0), (.d .nil), (.d .nil), (.d .nil)]), (.box [(.i p0.Cap), (.own 3), (.d .nil), (.d .nil)]), (.arr 23 1 (List.length ([] : List (List GChange))) (flatD (encL enc_GChange) ([] : List (List GChange))))], 0⟩ <| Aob 2 3 93 3 ⟨tp 1 (.loc 0 0::.loc 1 0::.loc 2 0::.i 0::tp 76 []), [(.box [(.i p0.Cap), (.l (encL enc_GChange) p0.Views), (.l (encL enc_GChange) p0.Pending), (.d (.mp (Option.isNone p0.Links) (mks kv_22 (ml p0.Links)) (mds (slD (encL enc_GChange)) (ml p0.Links))))]), (.box [(.i 0), (.d .nil), (.d .nil), (.d .nil)]), (.box [(.i p0.Cap), (.own 3), (.d .nil), (.own 4)]), (.arr 23 1 (List.length ([] : List (List GChange))) (flatD (encL enc_GChange) ([] : List (List GChange)))), (Ar 93 3 enc_GBatch ([] : List GBatch))], 0⟩ ?_
 refine AWP.loopI (α := Nat × (List (List GChange)) × (List GBatch) × Int)
   (fun (fu_0, y3_d_1_0, y3_d_3_0, y4_0) => (⟨tp 1 (.loc 0 0::.loc 1 0::.loc 2 0::.i y4_0::tp 76 []), [(.box [(.i p0.Cap), (.l (encL enc_GChange) p0.Views), (.l (encL enc_GChange) p0.Pending), (.d (.mp (Option.isNone p0.Links) (mks kv_22 (ml p0.Links)) (mds (slD (encL enc_GChange)) (ml p0.Links))))]), (.box [(.i 0), (.d .nil), (.d .nil), (.d .nil)]), (.box [(.i p0.Cap), (.own 3), (.d .nil), (.own 4)]), (.arr 23 1 (List.length y3_d_1_0) (flatD (encL enc_GChange) y3_d_1_0)), (Ar 93 3 enc_GBatch y3_d_3_0)], 0⟩ : St))
   (fun (fu_0, y3_d_1_0, y3_d_3_0, y4_0) => m_w29_Back_l0 p0 fu_0 y3_d_1_0 y3_d_3_0 y4_0 = some r)
   (fun (fu_0, y3_d_1_0, y3_d_3_0, y4_0) => fu_0) (1152921504606846976, ([] : List (List GChange)), ([] : List GBatch), 0)
   (Weak.toK 30 0 0 [0, 1, 2, 3, 4]) hm ?_
 rintro ⟨fu_0, y3_d_1_0, y3_d_3_0, y4_0⟩ n_0 hm ih_0
 try dsimp only at hm ih_0 ⊢
 cases fu_0 with
 | zero => exact absurd hm (by unfold m_w29_Back_l0; simp)
 | succ fu_0 =>
  unfold m_w29_Back_l0 at hm
  refine Sq <| Sx <| Wm (.i y4_0) rfl <| Wz (.loc 0 1) (Ofa rfl) <| Wz (.l (encL enc_GChange) p0.Views) (Old rfl) <| Wz (.i ((List.length p0.Views : Nat) : Int)) (Oln rfl) <| Wz (.b (decide (y4_0 < ((List.length p0.Views : Nat) : Int)))) (Obn rfl (fun _ => hb_lss (k := .i64))) <| Nk 65566 31 ⟨tp 1 (.loc 0 0::.loc 1 0::.loc 2 0::.i y4_0::tp 11 (.b (decide (y4_0 < ((List.length p0.Views : Nat) : Int)))::tp 64 [])), [(.box [(.i p0.Cap), (.l (encL enc_GChange) p0.Views), (.l (encL enc_GChange) p0.Pending), (.d (.mp (Option.isNone p0.Links) (mks kv_22 (ml p0.Links)) (mds (slD (encL enc_GChange)) (ml p0.Links))))]), (.box [(.i 0), (.d .nil), (.d .nil), (.d .nil)]), (.box [(.i p0.Cap), (.own 3), (.d .nil), (.own 4)]), (.arr 23 1 (List.length y3_d_1_0) (flatD (encL enc_GChange) y3_d_1_0)), (Ar 93 3 enc_GBatch y3_d_3_0)], 0⟩ ?_
  rcases tf_ (decide (y4_0 < ((List.length p0.Views : Nat) : Int))) with hc16_12 | hc16_12
  ·
   replace hm := cT hc16_12 hm
   refine AiT hc16_12 <| Sk <| Tk 30 31 ⟨tp 1 (.loc 0 0::.loc 1 0::.loc 2 0::.i y4_0::tp 76 []), [(.box [(.i p0.Cap), (.l (encL enc_GChange) p0.Views), (.l (encL enc_GChange) p0.Pending), (.d (.mp (Option.isNone p0.Links) (mks kv_22 (ml p0.Links)) (mds (slD (encL enc_GChange)) (ml p0.Links))))]), (.box [(.i 0), (.d .nil), (.d .nil), (.d .nil)]), (.box [(.i p0.Cap), (.own 3), (.d .nil), (.own 4)]), (.arr 23 1 (List.length y3_d_1_0) (flatD (encL enc_GChange) y3_d_1_0)), (Ar 93 3 enc_GBatch y3_d_3_0)], 0⟩ <| Sq <| Bk <| Sq <| Adr <| Wz (.loc 2 1) (Ofa rfl) <| Wz (.own 3) (Old rfl) <| Wz (.loc 0 1) (Ofa rfl) <| Wz (.l (encL enc_GChange) p0.Views) (Old rfl) <| Wm (.i y4_0) rfl ?_
   obtain ⟨x24_2, hx24_2, hm⟩ := bnd hm
   obtain ⟨hx24_2i, hx24_2g⟩ := geti_some hx24_2
   refine Wz (.d (.ref (List.drop ((Int.toNat y4_0) * 1) (flatD (encL enc_GChange) p0.Views)))) (Oia rfl (encL_len (enc := enc_GChange)) hx24_2i hx24_2g) <| Wz (.l enc_GChange x24_2) (Lf1 rfl (encL_len (enc := enc_GChange)) hx24_2g) ?_
   obtain ⟨r26_2, hr26_2, hm⟩ := bnd hm
   refine Wy (.l enc_GChange r26_2) [(5, (Ar 83 3 enc_GChange r26_2)), (5, (.fro 83 3 (List.length r26_2) (flatD enc_GChange r26_2)))] (Ofz [5] (.own 5) [(5, (Ar 83 3 enc_GChange r26_2))] (Ocf [] [5] [] 0 (ok_w26_Back x24_2 r26_2 hr26_2) (fun a w => Try.call26 a w) rfl trivial)) <| Wy (.own 6) [(6, (.arr 23 1 (List.length ([r26_2] : List (List GChange))) (flatD (encL enc_GChange) ([r26_2] : List (List GChange)))))] (Obs rfl) ?_
   obtain ⟨a28_2, ha28_2, hm⟩ := bnd hm; obtain ⟨ha28_2e, ha28_2l⟩ := app_some ha28_2
   refine Wy (.own 7) [(3, .gone), (7, (.arr 23 1 (List.length a28_2) (flatD (encL enc_GChange) a28_2)))] (Oap rfl elemOK_36 (encL_len (enc := enc_GChange)) ha28_2e ha28_2l) <| Wz (.loc 2 1) (Ofa rfl) <| Wy (.tup []) [(2, (.box [(.i p0.Cap), (.own 7), (.d .nil), (.own 4)]))] (Ost rfl) <| Wdr <| Tk 30 151 ⟨tp 1 (.loc 0 0::.loc 1 0::.loc 2 0::.i y4_0::tp 76 []), [(.box [(.i p0.Cap), (.l (encL enc_GChange) p0.Views), (.l (encL enc_GChange) p0.Pending), (.d (.mp (Option.isNone p0.Links) (mks kv_22 (ml p0.Links)) (mds (slD (encL enc_GChange)) (ml p0.Links))))]), (.box [(.i 0), (.d .nil), (.d .nil), (.d .nil)]), (.box [(.i p0.Cap), (.own 7), (.d .nil), (.own 4)]), .gone, (Ar 93 3 enc_GBatch y3_d_3_0), .gone, .gone, (.arr 23 1 (List.length a28_2) (flatD (encL enc_GChange) a28_2))], 0⟩ <| Sx <| Wm (.i 0) rfl <| Nk 62 151 ⟨tp 1 (.loc 0 0::.loc 1 0::.loc 2 0::.i y4_0::.i 0::tp 75 []), [(.box [(.i p0.Cap), (.l (encL enc_GChange) p0.Views), (.l (encL enc_GChange) p0.Pending), (.d (.mp (Option.isNone p0.Links) (mks kv_22 (ml p0.Links)) (mds (slD (encL enc_GChange)) (ml p0.Links))))]), (.box [(.i 0), (.d .nil), (.d .nil), (.d .nil)]), (.box [(.i p0.Cap), (.own 7), (.d .nil), (.own 4)]), .gone, (Ar 93 3 enc_GBatch y3_d_3_0), .gone, .gone, (.arr 23 1 (List.length a28_2) (flatD (encL enc_GChange) a28_2))], 0⟩ <| Bk ?_
   refine AWP.loopI (α := Nat × (List GBatch) × Int)
     (fun (fu_3, y3_d_3_3, y5_3) => (⟨tp 1 (.loc 0 0::.loc 1 0::.loc 2 0::.i y4_0::.i y5_3::tp 75 []), [(.box [(.i p0.Cap), (.l (encL enc_GChange) p0.Views), (.l (encL enc_GChange) p0.Pending), (.d (.mp (Option.isNone p0.Links) (mks kv_22 (ml p0.Links)) (mds (slD (encL enc_GChange)) (ml p0.Links))))]), (.box [(.i 0), (.d .nil), (.d .nil), (.d .nil)]), (.box [(.i p0.Cap), (.own 3), (.d .nil), (.own 4)]), (.arr 23 1 (List.length a28_2) (flatD (encL enc_GChange) a28_2)), (Ar 93 3 enc_GBatch y3_d_3_3)], 0⟩ : St))
     (fun (fu_3, y3_d_3_3, y5_3) => m_w29_Back_l3 p0 a28_2 y4_0 (fun y3_d_1_0 y3_d_3_0 y4_0 => m_w29_Back_l0 p0 fu_0 y3_d_1_0 y3_d_3_0 y4_0) fu_3 y3_d_3_3 y5_3 = some r)
     (fun (fu_3, y3_d_3_3, y5_3) => fu_3) (1152921504606846976, y3_d_3_0, 0)
     (Weak.toK 62 0 0 [0, 1, 2, 7, 4]) hm ?_
   rintro ⟨fu_3, y3_d_3_3, y5_3⟩ n_3 hm ih_3
   try dsimp only at hm ih_3 ⊢
   cases fu_3 with
   | zero => exact absurd hm (by unfold m_w29_Back_l3; simp)
   | succ fu_3 =>
    unfold m_w29_Back_l3 at hm
    refine Sq <| Sx <| Wm (.i y5_3) rfl <| Wz (.loc 0 1) (Ofa rfl) <| Wz (.l (encL enc_GChange) p0.Views) (Old rfl) <| Wz (.i ((List.length p0.Views : Nat) : Int)) (Oln rfl) <| Wz (.b (decide (y5_3 < ((List.length p0.Views : Nat) : Int)))) (Obn rfl (fun _ => hb_lss (k := .i64))) <| Nk 17179869246 31 ⟨tp 1 (.loc 0 0::.loc 1 0::.loc 2 0::.i y4_0::.i y5_3::tp 28 (.b (decide (y5_3 < ((List.length p0.Views : Nat) : Int)))::tp 46 [])), [(.box [(.i p0.Cap), (.l (encL enc_GChange) p0.Views), (.l (encL enc_GChange) p0.Pending), (.d (.mp (Option.isNone p0.Links) (mks kv_22 (ml p0.Links)) (mds (slD (encL enc_GChange)) (ml p0.Links))))]), (.box [(.i 0), (.d .nil), (.d .nil), (.d .nil)]), (.box [(.i p0.Cap), (.own 3), (.d .nil), (.own 4)]), (.arr 23 1 (List.length a28_2) (flatD (encL enc_GChange) a28_2)), (Ar 93 3 enc_GBatch y3_d_3_3)], 0⟩ ?_
    rcases tf_ (decide (y5_3 < ((List.length p0.Views : Nat) : Int))) with hc34_13 | hc34_13
    ·
     replace hm := cT hc34_13 hm
     refine AiT hc34_13 <| Sk <| Tk 62 31 ⟨tp 1 (.loc 0 0::.loc 1 0::.loc 2 0::.i y4_0::.i y5_3::tp 75 []), [(.box [(.i p0.Cap), (.l (encL enc_GChange) p0.Views), (.l (encL enc_GChange) p0.Pending), (.d (.mp (Option.isNone p0.Links) (mks kv_22 (ml p0.Links)) (mds (slD (encL enc_GChange)) (ml p0.Links))))]), (.box [(.i 0), (.d .nil), (.d .nil), (.d .nil)]), (.box [(.i p0.Cap), (.own 3), (.d .nil), (.own 4)]), (.arr 23 1 (List.length a28_2) (flatD (encL enc_GChange) a28_2)), (Ar 93 3 enc_GBatch y3_d_3_3)], 0⟩ <| Sq <| Bk <| Sx <| Wz (.loc 0 3) (Ofa rfl) <| Wz (.d (.mp (Option.isNone p0.Links) (mks kv_22 (ml p0.Links)) (mds (slD (encL enc_GChange)) (ml p0.Links)))) (Old rfl) <| Wm (.i y4_0) rfl <| Wm (.i y5_3) rfl <| Wz (.agg [(.i y4_0), (.i y5_3)]) (ObA rfl (e := 3) (n := 2) (sz := 1) (by kernel_rfl) (by kernel_rfl)) <| Wz (.l (encL enc_GChange) (Option.getD (mlook (ml p0.Links) (GArr2_Int.mk y4_0 y5_3)) ([] : List (List GChange)))) (Mlk (GArr2_Int.mk y4_0 y5_3) (ml p0.Links) ([] : List (List GChange)) keyOK_22 (ev := (slD (encL enc_GChange))) rfl slD_zero) <| Wm (.l (encL enc_GChange) (Option.getD (mlook (ml p0.Links) (GArr2_Int.mk y4_0 y5_3)) ([] : List (List GChange)))) rfl <| Nk 126 31 ⟨tp 1 (.loc 0 0::.loc 1 0::.loc 2 0::.i y4_0::.i y5_3::.l (encL enc_GChange) (Option.getD (mlook (ml p0.Links) (GArr2_Int.mk y4_0 y5_3)) ([] : List (List GChange)))::tp 74 []), [(.box [(.i p0.Cap), (.l (encL enc_GChange) p0.Views), (.l (encL enc_GChange) p0.Pending), (.d (.mp (Option.isNone p0.Links) (mks kv_22 (ml p0.Links)) (mds (slD (encL enc_GChange)) (ml p0.Links))))]), (.box [(.i 0), (.d .nil), (.d .nil), (.d .nil)]), (.box [(.i p0.Cap), (.own 3), (.d .nil), (.own 4)]), (.arr 23 1 (List.length a28_2) (flatD (encL enc_GChange) a28_2)), (Ar 93 3 enc_GBatch y3_d_3_3)], 0⟩ ?_
     refine Sx <| Wm (.i 0) rfl <| Nk 254 31 ⟨tp 1 (.loc 0 0::.loc 1 0::.loc 2 0::.i y4_0::.i y5_3::.l (encL enc_GChange) (Option.getD (mlook (ml p0.Links) (GArr2_Int.mk y4_0 y5_3)) ([] : List (List GChange)))::.i 0::tp 73 []), [(.box [(.i p0.Cap), (.l (encL enc_GChange) p0.Views), (.l (encL enc_GChange) p0.Pending), (.d (.mp (Option.isNone p0.Links) (mks kv_22 (ml p0.Links)) (mds (slD (encL enc_GChange)) (ml p0.Links))))]), (.box [(.i 0), (.d .nil), (.d .nil), (.d .nil)]), (.box [(.i p0.Cap), (.own 3), (.d .nil), (.own 4)]), (.arr 23 1 (List.length a28_2) (flatD (encL enc_GChange) a28_2)), (Ar 93 3 enc_GBatch y3_d_3_3)], 0⟩ <| Bk ?_
     refine AWP.loopI (α := Nat × (List GBatch) × Int)
       (fun (fu_5, y3_d_3_5, y7_5) => (⟨tp 1 (.loc 0 0::.loc 1 0::.loc 2 0::.i y4_0::.i y5_3::.l (encL enc_GChange) (Option.getD (mlook (ml p0.Links) (GArr2_Int.mk y4_0 y5_3)) ([] : List (List GChange)))::.i y7_5::tp 73 []), [(.box [(.i p0.Cap), (.l (encL enc_GChange) p0.Views), (.l (encL enc_GChange) p0.Pending), (.d (.mp (Option.isNone p0.Links) (mks kv_22 (ml p0.Links)) (mds (slD (encL enc_GChange)) (ml p0.Links))))]), (.box [(.i 0), (.d .nil), (.d .nil), (.d .nil)]), (.box [(.i p0.Cap), (.own 3), (.d .nil), (.own 4)]), (.arr 23 1 (List.length a28_2) (flatD (encL enc_GChange) a28_2)), (Ar 93 3 enc_GBatch y3_d_3_5)], 0⟩ : St))
       (fun (fu_5, y3_d_3_5, y7_5) => m_w29_Back_l5 p0 y4_0 y5_3 (fun y3_d_3_3 y5_3 => m_w29_Back_l3 p0 a28_2 y4_0 (fun y3_d_1_0 y3_d_3_0 y4_0 => m_w29_Back_l0 p0 fu_0 y3_d_1_0 y3_d_3_0 y4_0) fu_3 y3_d_3_3 y5_3) fu_5 y3_d_3_5 y7_5 = some r)
       (fun (fu_5, y3_d_3_5, y7_5) => fu_5) (1152921504606846976, y3_d_3_3, 0)
       (Weak.toK 254 0 0 [0, 1, 2, 3, 4]) hm ?_
     rintro ⟨fu_5, y3_d_3_5, y7_5⟩ n_5 hm ih_5
     try dsimp only at hm ih_5 ⊢
     cases fu_5 with
     | zero => exact absurd hm (by unfold m_w29_Back_l5; simp)
     | succ fu_5 =>
      unfold m_w29_Back_l5 at hm
      refine Sq <| Sx <| Wm (.i y7_5) rfl <| Wm (.l (encL enc_GChange) (Option.getD (mlook (ml p0.Links) (GArr2_Int.mk y4_0 y5_3)) ([] : List (List GChange)))) rfl ?_
      obtain ⟨v45_8, hv45_8, hm⟩ := bnd hm; replace hv45_8 := Option.some.inj hv45_8
      refine Wz (.i v45_8) (Ocs (congrArg (fun z => A.d (.lit (.int .i64 z))) hv45_8) (Oln rfl)) <| Wz (.b (decide (y7_5 < v45_8))) (Obn rfl (fun _ => hb_lss (k := .i64))) <| Nk 70368744177918 31 ⟨tp 1 (.loc 0 0::.loc 1 0::.loc 2 0::.i y4_0::.i y5_3::.l (encL enc_GChange) (Option.getD (mlook (ml p0.Links) (GArr2_Int.mk y4_0 y5_3)) ([] : List (List GChange)))::.i y7_5::tp 38 (.b (decide (y7_5 < v45_8))::tp 34 [])), [(.box [(.i p0.Cap), (.l (encL enc_GChange) p0.Views), (.l (encL enc_GChange) p0.Pending), (.d (.mp (Option.isNone p0.Links) (mks kv_22 (ml p0.Links)) (mds (slD (encL enc_GChange)) (ml p0.Links))))]), (.box [(.i 0), (.d .nil), (.d .nil), (.d .nil)]), (.box [(.i p0.Cap), (.own 3), (.d .nil), (.own 4)]), (.arr 23 1 (List.length a28_2) (flatD (encL enc_GChange) a28_2)), (Ar 93 3 enc_GBatch y3_d_3_5)], 0⟩ ?_
      rcases tf_ (decide (y7_5 < v45_8)) with hc46_14 | hc46_14
      ·
       replace hm := cT hc46_14 hm
       refine AiT hc46_14 <| Sk <| Tk 254 31 ⟨tp 1 (.loc 0 0::.loc 1 0::.loc 2 0::.i y4_0::.i y5_3::.l (encL enc_GChange) (Option.getD (mlook (ml p0.Links) (GArr2_Int.mk y4_0 y5_3)) ([] : List (List GChange)))::.i y7_5::tp 73 []), [(.box [(.i p0.Cap), (.l (encL enc_GChange) p0.Views), (.l (encL enc_GChange) p0.Pending), (.d (.mp (Option.isNone p0.Links) (mks kv_22 (ml p0.Links)) (mds (slD (encL enc_GChange)) (ml p0.Links))))]), (.box [(.i 0), (.d .nil), (.d .nil), (.d .nil)]), (.box [(.i p0.Cap), (.own 3), (.d .nil), (.own 4)]), (.arr 23 1 (List.length a28_2) (flatD (encL enc_GChange) a28_2)), (Ar 93 3 enc_GBatch y3_d_3_5)], 0⟩ <| Sq <| Bk <| Adr <| Wz (.loc 2 3) (Ofa rfl) <| Wz (.own 4) (Old rfl) <| Wm (.i y4_0) rfl <| Wm (.i y5_3) rfl <| Wm (.l (encL enc_GChange) (Option.getD (mlook (ml p0.Links) (GArr2_Int.mk y4_0 y5_3)) ([] : List (List GChange)))) rfl <| Wm (.i y7_5) rfl ?_
       obtain ⟨x55_7, hx55_7, hm⟩ := bnd hm
       obtain ⟨hx55_7i, hx55_7g⟩ := geti_some hx55_7
       refine Wz (.d (.ref (List.drop ((Int.toNat y7_5) * 1) (flatD (encL enc_GChange) (Option.getD (mlook (ml p0.Links) (GArr2_Int.mk y4_0 y5_3)) ([] : List (List GChange))))))) (Oia rfl (encL_len (enc := enc_GChange)) hx55_7i hx55_7g) <| Wz (.l enc_GChange x55_7) (Lf1 rfl (encL_len (enc := enc_GChange)) hx55_7g) ?_
       obtain ⟨r57_7, hr57_7, hm⟩ := bnd hm
       refine Wy (.l enc_GChange r57_7) [(5, (Ar 83 3 enc_GChange r57_7)), (5, (.fro 83 3 (List.length r57_7) (flatD enc_GChange r57_7)))] (Ofz [5] (.own 5) [(5, (Ar 83 3 enc_GChange r57_7))] (Ocf [] [5] [] 0 (ok_w26_Back x55_7 r57_7 hr57_7) (fun a w => Try.call26 a w) rfl trivial)) <| Wz (.agg [(.i y4_0), (.i y5_3), (.l enc_GChange r57_7)]) (Obd rfl) <| Wy (.own 6) [(6, (Ar 93 3 enc_GBatch ([(GBatch.mk y4_0 y5_3 r57_7)] : List GBatch)))] (Obs rfl) ?_
       obtain ⟨a60_7, ha60_7, hm⟩ := bnd hm; obtain ⟨ha60_7e, ha60_7l⟩ := app_some ha60_7
       refine Wy (.own 7) [(4, .gone), (7, (Ar 93 3 enc_GBatch a60_7))] (Oap rfl elemOK_37 enc_GBatch_len ha60_7e ha60_7l) <| Wz (.loc 2 3) (Ofa rfl) <| Wy (.tup []) [(2, (.box [(.i p0.Cap), (.own 3), (.d .nil), (.own 7)]))] (Ost rfl) <| Wdr <| Ino <| Tk 254 143 ⟨tp 1 (.loc 0 0::.loc 1 0::.loc 2 0::.i y4_0::.i y5_3::.l (encL enc_GChange) (Option.getD (mlook (ml p0.Links) (GArr2_Int.mk y4_0 y5_3)) ([] : List (List GChange)))::.i y7_5::tp 73 []), [(.box [(.i p0.Cap), (.l (encL enc_GChange) p0.Views), (.l (encL enc_GChange) p0.Pending), (.d (.mp (Option.isNone p0.Links) (mks kv_22 (ml p0.Links)) (mds (slD (encL enc_GChange)) (ml p0.Links))))]), (.box [(.i 0), (.d .nil), (.d .nil), (.d .nil)]), (.box [(.i p0.Cap), (.own 3), (.d .nil), (.own 7)]), (.arr 23 1 (List.length a28_2) (flatD (encL enc_GChange) a28_2)), .gone, .gone, .gone, (Ar 93 3 enc_GBatch a60_7)], 0⟩ <| Tx <| Wm (.i y7_5) rfl <| Wz (.i (W6 (y7_5 + 1))) (Obn rfl (fun _ => hb_add (k := .i64))) <| Wm (.i (W6 (y7_5 + 1))) rfl <| Wn0 <| RoundK.normal ?_
       exact Rounds.weak (Weak.toK 254 0 0 [0, 1, 2, 3, 7]) (ih_5 (fu_5, a60_7, (W6 (y7_5 + 1))) hm (Nat.lt_succ_self _))
      ·
       replace hm := cF hc46_14 hm
       refine AiF hc46_14 <| AWP.exit <| Then.exit <| RoundK.exit <| InBlock.same <| Ino <| Tk 62 31 ⟨tp 1 (.loc 0 0::.loc 1 0::.loc 2 0::.i y4_0::.i y5_3::tp 75 []), [(.box [(.i p0.Cap), (.l (encL enc_GChange) p0.Views), (.l (encL enc_GChange) p0.Pending), (.d (.mp (Option.isNone p0.Links) (mks kv_22 (ml p0.Links)) (mds (slD (encL enc_GChange)) (ml p0.Links))))]), (.box [(.i 0), (.d .nil), (.d .nil), (.d .nil)]), (.box [(.i p0.Cap), (.own 3), (.d .nil), (.own 4)]), (.arr 23 1 (List.length a28_2) (flatD (encL enc_GChange) a28_2)), (Ar 93 3 enc_GBatch y3_d_3_5)], 0⟩ <| Tx <| Wm (.i y5_3) rfl <| Wz (.i (W6 (y5_3 + 1))) (Obn rfl (fun _ => hb_add (k := .i64))) <| Wm (.i (W6 (y5_3 + 1))) rfl <| Wn0 <| RoundK.normal ?_
       exact Rounds.weak (Weak.toK 62 0 0 [0, 1, 2, 3, 4]) (ih_3 (fu_3, y3_d_3_5, (W6 (y5_3 + 1))) hm (Nat.lt_succ_self _))
    ·
     replace hm := cF hc34_13 hm
     refine AiF hc34_13 <| AWP.exit <| Then.exit <| RoundK.exit <| InBlock.same <| Ino <| Tk 30 31 ⟨tp 1 (.loc 0 0::.loc 1 0::.loc 2 0::.i y4_0::tp 76 []), [(.box [(.i p0.Cap), (.l (encL enc_GChange) p0.Views), (.l (encL enc_GChange) p0.Pending), (.d (.mp (Option.isNone p0.Links) (mks kv_22 (ml p0.Links)) (mds (slD (encL enc_GChange)) (ml p0.Links))))]), (.box [(.i 0), (.d .nil), (.d .nil), (.d .nil)]), (.box [(.i p0.Cap), (.own 3), (.d .nil), (.own 4)]), (.arr 23 1 (List.length a28_2) (flatD (encL enc_GChange) a28_2)), (Ar 93 3 enc_GBatch y3_d_3_3)], 0⟩ <| Tx <| Wm (.i y4_0) rfl <| Wz (.i (W6 (y4_0 + 1))) (Obn rfl (fun _ => hb_add (k := .i64))) <| Wm (.i (W6 (y4_0 + 1))) rfl <| Wn0 <| RoundK.normal ?_
     exact Rounds.weak (Weak.toK 30 0 0 [0, 1, 2, 3, 4]) (ih_0 (fu_0, a28_2, y3_d_3_3, (W6 (y4_0 + 1))) hm (Nat.lt_succ_self _))
  ·
   replace hm := cF hc16_12 hm
   refine AiF hc16_12 <| AWP.exit <| Then.exit <| RoundK.exit <| InBlock.same <| Tk 14 31 ⟨tp 1 (.loc 0 0::.loc 1 0::.loc 2 0::tp 77 []), [(.box [(.i p0.Cap), (.l (encL enc_GChange) p0.Views), (.l (encL enc_GChange) p0.Pending), (.d (.mp (Option.isNone p0.Links) (mks kv_22 (ml p0.Links)) (mds (slD (encL enc_GChange)) (ml p0.Links))))]), (.box [(.i 0), (.d .nil), (.d .nil), (.d .nil)]), (.box [(.i p0.Cap), (.own 3), (.d .nil), (.own 4)]), (.arr 23 1 (List.length y3_d_1_0) (flatD (encL enc_GChange) y3_d_1_0)), (Ar 93 3 enc_GBatch y3_d_3_0)], 0⟩ <| Sq <| Sx <| Wm (.i 0) rfl <| Nk 270 31 ⟨tp 1 (.loc 0 0::.loc 1 0::.loc 2 0::tp 4 (.i 0::tp 72 [])), [(.box [(.i p0.Cap), (.l (encL enc_GChange) p0.Views), (.l (encL enc_GChange) p0.Pending), (.d (.mp (Option.isNone p0.Links) (mks kv_22 (ml p0.Links)) (mds (slD (encL enc_GChange)) (ml p0.Links))))]), (.box [(.i 0), (.d .nil), (.d .nil), (.d .nil)]), (.box [(.i p0.Cap), (.own 3), (.d .nil), (.own 4)]), (.arr 23 1 (List.length y3_d_1_0) (flatD (encL enc_GChange) y3_d_1_0)), (Ar 93 3 enc_GBatch y3_d_3_0)], 0⟩ <| Bk <| Aob 2 2 23 1 ⟨tp 1 (.loc 0 0::.loc 1 0::.loc 2 0::tp 4 (.i 0::tp 72 [])), [(.box [(.i p0.Cap), (.l (encL enc_GChange) p0.Views), (.l (encL enc_GChange) p0.Pending), (.d (.mp (Option.isNone p0.Links) (mks kv_22 (ml p0.Links)) (mds (slD (encL enc_GChange)) (ml p0.Links))))]), (.box [(.i 0), (.d .nil), (.d .nil), (.d .nil)]), (.box [(.i p0.Cap), (.own 3), (.own 5), (.own 4)]), (.arr 23 1 (List.length y3_d_1_0) (flatD (encL enc_GChange) y3_d_1_0)), (Ar 93 3 enc_GBatch y3_d_3_0), (.arr 23 1 (List.length ([] : List (List GChange))) (flatD (encL enc_GChange) ([] : List (List GChange))))], 0⟩ ?_
   refine AWP.loopI (α := Nat × (List (List GChange)) × Int)
     (fun (fu_9, y3_d_2_9, y8_9) => (⟨tp 1 (.loc 0 0::.loc 1 0::.loc 2 0::tp 4 (.i y8_9::tp 72 [])), [(.box [(.i p0.Cap), (.l (encL enc_GChange) p0.Views), (.l (encL enc_GChange) p0.Pending), (.d (.mp (Option.isNone p0.Links) (mks kv_22 (ml p0.Links)) (mds (slD (encL enc_GChange)) (ml p0.Links))))]), (.box [(.i 0), (.d .nil), (.d .nil), (.d .nil)]), (.box [(.i p0.Cap), (.own 3), (.own 4), (.own 5)]), (.arr 23 1 (List.length y3_d_1_0) (flatD (encL enc_GChange) y3_d_1_0)), (.arr 23 1 (List.length y3_d_2_9) (flatD (encL enc_GChange) y3_d_2_9)), (Ar 93 3 enc_GBatch y3_d_3_0)], 0⟩ : St))
     (fun (fu_9, y3_d_2_9, y8_9) => m_w29_Back_l9 p0 y3_d_1_0 y3_d_3_0 fu_9 y3_d_2_9 y8_9 = some r)
     (fun (fu_9, y3_d_2_9, y8_9) => fu_9) (1152921504606846976, ([] : List (List GChange)), 0)
     (Weak.toK 270 0 0 [0, 1, 2, 3, 5, 4]) hm ?_
   rintro ⟨fu_9, y3_d_2_9, y8_9⟩ n_9 hm ih_9
   try dsimp only at hm ih_9 ⊢
   cases fu_9 with
   | zero => exact absurd hm (by unfold m_w29_Back_l9; simp)
   | succ fu_9 =>
    unfold m_w29_Back_l9 at hm
    refine Sq <| Sx <| Wm (.i y8_9) rfl <| Wz (.loc 0 2) (Ofa rfl) <| Wz (.l (encL enc_GChange) p0.Pending) (Old rfl) <| Wz (.i ((List.length p0.Pending : Nat) : Int)) (Oln rfl) <| Wz (.b (decide (y8_9 < ((List.length p0.Pending : Nat) : Int)))) (Obn rfl (fun _ => hb_lss (k := .i64))) <| Nk 73786976294838206734 63 ⟨tp 1 (.loc 0 0::.loc 1 0::.loc 2 0::tp 4 (.i y8_9::tp 57 (.b (decide (y8_9 < ((List.length p0.Pending : Nat) : Int)))::tp 14 []))), [(.box [(.i p0.Cap), (.l (encL enc_GChange) p0.Views), (.l (encL enc_GChange) p0.Pending), (.d (.mp (Option.isNone p0.Links) (mks kv_22 (ml p0.Links)) (mds (slD (encL enc_GChange)) (ml p0.Links))))]), (.box [(.i 0), (.d .nil), (.d .nil), (.d .nil)]), (.box [(.i p0.Cap), (.own 3), (.own 4), (.own 5)]), (.arr 23 1 (List.length y3_d_1_0) (flatD (encL enc_GChange) y3_d_1_0)), (.arr 23 1 (List.length y3_d_2_9) (flatD (encL enc_GChange) y3_d_2_9)), (Ar 93 3 enc_GBatch y3_d_3_0)], 0⟩ ?_
    rcases tf_ (decide (y8_9 < ((List.length p0.Pending : Nat) : Int))) with hc66_15 | hc66_15
    ·
     replace hm := cT hc66_15 hm
     refine AiT hc66_15 <| Sk <| Tk 270 63 ⟨tp 1 (.loc 0 0::.loc 1 0::.loc 2 0::tp 4 (.i y8_9::tp 72 [])), [(.box [(.i p0.Cap), (.l (encL enc_GChange) p0.Views), (.l (encL enc_GChange) p0.Pending), (.d (.mp (Option.isNone p0.Links) (mks kv_22 (ml p0.Links)) (mds (slD (encL enc_GChange)) (ml p0.Links))))]), (.box [(.i 0), (.d .nil), (.d .nil), (.d .nil)]), (.box [(.i p0.Cap), (.own 3), (.own 4), (.own 5)]), (.arr 23 1 (List.length y3_d_1_0) (flatD (encL enc_GChange) y3_d_1_0)), (.arr 23 1 (List.length y3_d_2_9) (flatD (encL enc_GChange) y3_d_2_9)), (Ar 93 3 enc_GBatch y3_d_3_0)], 0⟩ <| Sq <| Bk <| Adr <| Wz (.loc 2 2) (Ofa rfl) <| Wz (.own 4) (Old rfl) <| Wz (.loc 0 2) (Ofa rfl) <| Wz (.l (encL enc_GChange) p0.Pending) (Old rfl) <| Wm (.i y8_9) rfl ?_
     obtain ⟨x74_11, hx74_11, hm⟩ := bnd hm
     obtain ⟨hx74_11i, hx74_11g⟩ := geti_some hx74_11
     refine Wz (.d (.ref (List.drop ((Int.toNat y8_9) * 1) (flatD (encL enc_GChange) p0.Pending)))) (Oia rfl (encL_len (enc := enc_GChange)) hx74_11i hx74_11g) <| Wz (.l enc_GChange x74_11) (Lf1 rfl (encL_len (enc := enc_GChange)) hx74_11g) ?_
     obtain ⟨r76_11, hr76_11, hm⟩ := bnd hm
     refine Wy (.l enc_GChange r76_11) [(6, (Ar 83 3 enc_GChange r76_11)), (6, (.fro 83 3 (List.length r76_11) (flatD enc_GChange r76_11)))] (Ofz [6] (.own 6) [(6, (Ar 83 3 enc_GChange r76_11))] (Ocf [] [6] [] 0 (ok_w26_Back x74_11 r76_11 hr76_11) (fun a w => Try.call26 a w) rfl trivial)) <| Wy (.own 7) [(7, (.arr 23 1 (List.length ([r76_11] : List (List GChange))) (flatD (encL enc_GChange) ([r76_11] : List (List GChange)))))] (Obs rfl) ?_
     obtain ⟨a78_11, ha78_11, hm⟩ := bnd hm; obtain ⟨ha78_11e, ha78_11l⟩ := app_some ha78_11
     refine Wy (.own 8) [(4, .gone), (8, (.arr 23 1 (List.length a78_11) (flatD (encL enc_GChange) a78_11)))] (Oap rfl elemOK_36 (encL_len (enc := enc_GChange)) ha78_11e ha78_11l) <| Wz (.loc 2 2) (Ofa rfl) <| Wy (.tup []) [(2, (.box [(.i p0.Cap), (.own 3), (.own 8), (.own 5)]))] (Ost rfl) <| Wdr <| Ino <| Tk 270 303 ⟨tp 1 (.loc 0 0::.loc 1 0::.loc 2 0::tp 4 (.i y8_9::tp 72 [])), [(.box [(.i p0.Cap), (.l (encL enc_GChange) p0.Views), (.l (encL enc_GChange) p0.Pending), (.d (.mp (Option.isNone p0.Links) (mks kv_22 (ml p0.Links)) (mds (slD (encL enc_GChange)) (ml p0.Links))))]), (.box [(.i 0), (.d .nil), (.d .nil), (.d .nil)]), (.box [(.i p0.Cap), (.own 3), (.own 8), (.own 5)]), (.arr 23 1 (List.length y3_d_1_0) (flatD (encL enc_GChange) y3_d_1_0)), .gone, (Ar 93 3 enc_GBatch y3_d_3_0), .gone, .gone, (.arr 23 1 (List.length a78_11) (flatD (encL enc_GChange) a78_11))], 0⟩ <| Tx <| Wm (.i y8_9) rfl <| Wz (.i (W6 (y8_9 + 1))) (Obn rfl (fun _ => hb_add (k := .i64))) <| Wm (.i (W6 (y8_9 + 1))) rfl <| Wn0 <| RoundK.normal ?_
     exact Rounds.weak (Weak.toK 270 0 0 [0, 1, 2, 3, 8, 5]) (ih_9 (fu_9, a78_11, (W6 (y8_9 + 1))) hm (Nat.lt_succ_self _))
    ·
     replace hm := cF hc66_15 hm
     refine AiF hc66_15 <| AWP.exit <| Then.exit <| RoundK.exit <| InBlock.same <| Tk 12 62 ⟨tp 2 (.loc 1 0::.loc 2 0::tp 77 []), [.gone, (.box [(.i 0), (.d .nil), (.d .nil), (.d .nil)]), (.box [(.i p0.Cap), (.own 3), (.own 4), (.own 5)]), (.arr 23 1 (List.length y3_d_1_0) (flatD (encL enc_GChange) y3_d_1_0)), (.arr 23 1 (List.length y3_d_2_9) (flatD (encL enc_GChange) y3_d_2_9)), (Ar 93 3 enc_GBatch y3_d_3_0)], 0⟩ <| Sx <| Wz (.agg [(.i p0.Cap), (.own 3), (.own 4), (.own 5)]) (Old rfl) <| Wy (.tup []) [(1, (.box [(.i p0.Cap), (.own 3), (.own 4), (.own 5)]))] (Ost rfl) <| Nn <| Rt ?_
     obtain rfl := Option.some.inj hm
     exact ret_i [3, 4, 5]

theorem ok_r26_Same (p0 : (List GChange)) (p1 : (List GChange)) (r : Bool) (h : m_r26_Same p0 p1 = some r) : GCall Try.prog 25 [(.l enc_GChange p0), (.l enc_GChange p1)] [] (.b r) [] := by
 refine GCall.of_body (n := 26) (rs := [(.tmp 4)]) Try.func25 rfl rfl rfl <| Ato ⟨.l enc_GChange p0::.l enc_GChange p1::tu 24 [], [], 0⟩ ?_
 have hm := h
 unfold m_r26_Same at hm
 refine Sx <| Wm (.b false) rfl <| Nk 3 0 ⟨.l enc_GChange p0::.l enc_GChange p1::tp 24 [], [], 0⟩ <| Sq <| Sx <| Wm (.l enc_GChange p0) rfl <| Wz (.i ((List.length p0 : Nat) : Int)) (Oln rfl) <| Wm (.l enc_GChange p1) rfl <| Wz (.i ((List.length p1 : Nat) : Int)) (Oln rfl) <| Wz (.b (decide (((List.length p0 : Nat) : Int) ≠ ((List.length p1 : Nat) : Int)))) (Obn rfl (fun _ => hb_neq (k := .i64))) <| Nk 1027 0 ⟨.l enc_GChange p0::.l enc_GChange p1::tp 8 (.b (decide (((List.length p0 : Nat) : Int) ≠ ((List.length p1 : Nat) : Int)))::tp 15 []), [], 0⟩ ?_
 rcases tf_ (decide (((List.length p0 : Nat) : Int) ≠ ((List.length p1 : Nat) : Int))) with hc10_4 | hc10_4
 ·
  replace hm := cT hc10_4 hm
  refine AiT hc10_4 <| Sx <| Wm (.b false) rfl <| Nn <| Rt <| Tr ?_
  obtain rfl := Option.some.inj hm
  exact ret_i []
 ·
  replace hm := cF hc10_4 hm
  refine AiF hc10_4 <| Sk <| Tk 3 0 ⟨.l enc_GChange p0::.l enc_GChange p1::tp 24 [], [], 0⟩ <| Sq <| Sx <| Wm (.i 0) rfl <| Nk 35 0 ⟨.l enc_GChange p0::.l enc_GChange p1::tp 3 (.i 0::tp 20 []), [], 0⟩ <| Bk ?_
  refine AWP.loopI (α := Nat × Int)
    (fun (fu_1, y5_1) => (⟨.l enc_GChange p0::.l enc_GChange p1::tp 3 (.i y5_1::tp 20 []), [], 0⟩ : St))
    (fun (fu_1, y5_1) => m_r26_Same_l1 p0 p1 fu_1 y5_1 = some r)
    (fun (fu_1, y5_1) => fu_1) (1152921504606846976, 0)
    (Weak.toK 35 0 0 []) hm ?_
  rintro ⟨fu_1, y5_1⟩ n_1 hm ih_1
  try dsimp only at hm ih_1 ⊢
  cases fu_1 with
  | zero => exact absurd hm (by unfold m_r26_Same_l1; simp)
  | succ fu_1 =>
   unfold m_r26_Same_l1 at hm
   refine Sq <| Sx <| Wm (.i y5_1) rfl <| Wm (.l enc_GChange p0) rfl <| Wz (.i ((List.length p0 : Nat) : Int)) (Oln rfl) <| Wz (.b (decide (y5_1 < ((List.length p0 : Nat) : Int)))) (Obn rfl (fun _ => hb_lss (k := .i64))) <| Nk 16419 0 ⟨.l enc_GChange p0::.l enc_GChange p1::tp 3 (.i y5_1::tp 8 (.b (decide (y5_1 < ((List.length p0 : Nat) : Int)))::tp 11 [])), [], 0⟩ ?_
   rcases tf_ (decide (y5_1 < ((List.length p0 : Nat) : Int))) with hc14_5 | hc14_5
   ·
    replace hm := cT hc14_5 hm
    refine AiT hc14_5 <| Sk <| Tk 35 0 ⟨.l enc_GChange p0::.l enc_GChange p1::tp 3 (.i y5_1::tp 20 []), [], 0⟩ <| Sq <| Bk <| Sq <| Adr <| Wm (.l enc_GChange p0) rfl <| Wm (.i y5_1) rfl ?_
    obtain ⟨x19_3, hx19_3, hm⟩ := bnd hm
    obtain ⟨hx19_3i, hx19_3g⟩ := geti_some hx19_3
    refine Wz (.d (.ref (List.drop ((Int.toNat y5_1) * 3) (flatD enc_GChange p0)))) (Oia rfl enc_GChange_len hx19_3i hx19_3g) <| Wz (.agg [(.i x19_3.Loc), (.i x19_3.Time), (.i x19_3.N)]) (Lf rfl enc_GChange_len hx19_3g) <| Wm (.l enc_GChange p1) rfl <| Wm (.i y5_1) rfl ?_
    obtain ⟨x23_3, hx23_3, hm⟩ := bnd hm
    obtain ⟨hx23_3i, hx23_3g⟩ := geti_some hx23_3
    refine Wz (.d (.ref (List.drop ((Int.toNat y5_1) * 3) (flatD enc_GChange p1)))) (Oia rfl enc_GChange_len hx23_3i hx23_3g) <| Wz (.agg [(.i x23_3.Loc), (.i x23_3.Time), (.i x23_3.N)]) (Lf rfl enc_GChange_len hx23_3g) ?_
    obtain ⟨v25_3, hv25_3, hm⟩ := bnd hm; replace hv25_3 := Option.some.inj hv25_3
    refine Wz (.b v25_3) (Ocs (Eq.trans (by kernel_rfl) (congrArg (fun z => A.d (.lit (.bool z))) hv25_3)) (op_neq_struct rfl (la := [(.i x19_3.Loc), (.i x19_3.Time), (.i x19_3.N)]) (lb := [(.i x23_3.Loc), (.i x23_3.Time), (.i x23_3.N)]) (us := [.int .i64 x19_3.Loc, .int .i64 x19_3.Time, .int .i64 x19_3.N]) (vs := [.int .i64 x23_3.Loc, .int .i64 x23_3.Time, .int .i64 x23_3.N]) (r := (decide (x19_3.Loc = x23_3.Loc) && (decide (x19_3.Time = x23_3.Time) && (decide (x19_3.N = x23_3.N) && true)))) (by kernel_rfl) (by kernel_rfl) (by kernel_rfl) (by kernel_rfl) (by kernel_rfl))) <| Wdr <| Tk 33554467 0 ⟨.l enc_GChange p0::.l enc_GChange p1::tp 3 (.i y5_1::tp 19 (.b v25_3::[])), [], 0⟩ ?_
    rcases tf_ v25_3 with hc25_6 | hc25_6
    ·
     replace hm := cT hc25_6 hm
     refine AiT hc25_6 <| Sx <| Wm (.b false) rfl <| Nn <| Rt <| Ir <| Tr <| RoundK.ret <| Ir <| Tr ?_
     obtain rfl := Option.some.inj hm
     exact ret_i []
    ·
     replace hm := cF hc25_6 hm
     refine AiF hc25_6 <| Sk <| Ino <| Tk 35 0 ⟨.l enc_GChange p0::.l enc_GChange p1::tp 3 (.i y5_1::tp 20 []), [], 0⟩ <| Tx <| Wm (.i y5_1) rfl <| Wz (.i (W6 (y5_1 + 1))) (Obn rfl (fun _ => hb_add (k := .i64))) <| Wm (.i (W6 (y5_1 + 1))) rfl <| Wn0 <| RoundK.normal ?_
     exact Rounds.weak (Weak.toK 35 0 0 []) (ih_1 (fu_1, (W6 (y5_1 + 1))) hm (Nat.lt_succ_self _))
   ·
    replace hm := cF hc14_5 hm
    refine AiF hc14_5 <| AWP.exit <| Then.exit <| RoundK.exit <| InBlock.same <| Tk 0 0 ⟨tp 26 [], [], 0⟩ <| Sx <| Wm (.b true) rfl <| Nn <| Rt ?_
    obtain rfl := Option.some.inj hm
    exact ret_i []

theorem ok_r29_link (p0 : GNet_) (p1 : Int) (p2 : Int) (r : (List (List GChange))) (h : m_r29_link p0 p1 p2 = some r) : GCall Try.prog 45 [(.agg [(.i p0.Cap), (.l (encL enc_GChange) p0.Views), (.l (encL enc_GChange) p0.Pending), (.l enc_GBatch p0.On)]), (.i p1), (.i p2)] [] (.own 0) [(.arr 23 1 (List.length r) (flatD (encL enc_GChange) r))] := by
 refine GCall.of_body (n := 44) (rs := [(.tmp 6)]) Try.func45 rfl rfl rfl <| Ato ⟨.agg [(.i p0.Cap), (.l (encL enc_GChange) p0.Views), (.l (encL enc_GChange) p0.Pending), (.l enc_GBatch p0.On)]::.i p1::.i p2::tu 41 [], [], 0⟩ ?_
 have hm := h
 unfold m_r29_link at hm
 refine Sx <| Wy (.loc 0 0) [(0, (.box [(.i p0.Cap), (.l (encL enc_GChange) p0.Views), (.l (encL enc_GChange) p0.Pending), (.l enc_GBatch p0.On)]))] (Obx rfl) <| Wm (.d .nil) rfl <| Nk 14 1 ⟨tp 1 (.i p1::.i p2::.loc 0 0::tp 40 []), [(.box [(.i p0.Cap), (.l (encL enc_GChange) p0.Views), (.l (encL enc_GChange) p0.Pending), (.l enc_GBatch p0.On)])], 0⟩ <| Sx <| Wm (.d .nil) rfl <| Nk 142 1 ⟨tp 1 (.i p1::.i p2::.loc 0 0::tp 3 (.d .nil::tp 36 [])), [(.box [(.i p0.Cap), (.l (encL enc_GChange) p0.Views), (.l (encL enc_GChange) p0.Pending), (.l enc_GBatch p0.On)])], 0⟩ <| Sq <| Sx <| Wm (.i 0) rfl <| Nk 398 1 ⟨tp 1 (.i p1::.i p2::.loc 0 0::tp 3 (.d .nil::.i 0::tp 35 [])), [(.box [(.i p0.Cap), (.l (encL enc_GChange) p0.Views), (.l (encL enc_GChange) p0.Pending), (.l enc_GBatch p0.On)])], 0⟩ <| Bk <| Aow 7 23 1 ⟨tp 1 (.i p1::.i p2::.loc 0 0::tp 3 (.own 1::.i 0::tp 35 [])), [(.box [(.i p0.Cap), (.l (encL enc_GChange) p0.Views), (.l (encL enc_GChange) p0.Pending), (.l enc_GBatch p0.On)]), (.arr 23 1 (List.length ([] : List (List GChange))) (flatD (encL enc_GChange) ([] : List (List GChange))))], 0⟩ ?_
 refine AWP.loopI (α := Nat × (List (List GChange)) × Int)
   (fun (fu_0, y7_0, y8_0) => (⟨tp 1 (.i p1::.i p2::.loc 0 0::tp 3 (.own 1::.i y8_0::tp 35 [])), [(.box [(.i p0.Cap), (.l (encL enc_GChange) p0.Views), (.l (encL enc_GChange) p0.Pending), (.l enc_GBatch p0.On)]), (.arr 23 1 (List.length y7_0) (flatD (encL enc_GChange) y7_0))], 0⟩ : St))
   (fun (fu_0, y7_0, y8_0) => m_r29_link_l0 p0 p1 p2 fu_0 y7_0 y8_0 = some r)
   (fun (fu_0, y7_0, y8_0) => fu_0) (1152921504606846976, ([] : List (List GChange)), 0)
   (Weak.toK 398 0 0 [0, 1]) hm ?_
 rintro ⟨fu_0, y7_0, y8_0⟩ n_0 hm ih_0
 try dsimp only at hm ih_0 ⊢
 cases fu_0 with
 | zero => exact absurd hm (by unfold m_r29_link_l0; simp)
 | succ fu_0 =>
  unfold m_r29_link_l0 at hm
  refine Sq <| Sx <| Wm (.i y8_0) rfl <| Wz (.loc 0 3) (Ofa rfl) <| Wz (.l enc_GBatch p0.On) (Old rfl) <| Wz (.i ((List.length p0.On : Nat) : Int)) (Oln rfl) <| Wz (.b (decide (y8_0 < ((List.length p0.On : Nat) : Int)))) (Obn rfl (fun _ => hb_lss (k := .i64))) <| Nk 8590 3 ⟨tp 1 (.i p1::.i p2::.loc 0 0::tp 3 (.own 1::.i y8_0::tp 4 (.b (decide (y8_0 < ((List.length p0.On : Nat) : Int)))::tp 30 []))), [(.box [(.i p0.Cap), (.l (encL enc_GChange) p0.Views), (.l (encL enc_GChange) p0.Pending), (.l enc_GBatch p0.On)]), (.arr 23 1 (List.length y7_0) (flatD (encL enc_GChange) y7_0))], 0⟩ ?_
  rcases tf_ (decide (y8_0 < ((List.length p0.On : Nat) : Int))) with hc13_4 | hc13_4
  ·
   replace hm := cT hc13_4 hm
   refine AiT hc13_4 <| Sk <| Tk 398 3 ⟨tp 1 (.i p1::.i p2::.loc 0 0::tp 3 (.own 1::.i y8_0::tp 35 [])), [(.box [(.i p0.Cap), (.l (encL enc_GChange) p0.Views), (.l (encL enc_GChange) p0.Pending), (.l enc_GBatch p0.On)]), (.arr 23 1 (List.length y7_0) (flatD (encL enc_GChange) y7_0))], 0⟩ <| Sq <| Bk <| Sx <| Wz (.loc 0 3) (Ofa rfl) <| Wz (.l enc_GBatch p0.On) (Old rfl) <| Wm (.i y8_0) rfl ?_
   obtain ⟨x19_2, hx19_2, hm⟩ := bnd hm
   obtain ⟨hx19_2i, hx19_2g⟩ := geti_some hx19_2
   refine Wz (.d (.ref (List.drop ((Int.toNat y8_0) * 3) (flatD enc_GBatch p0.On)))) (Oia rfl enc_GBatch_len hx19_2i hx19_2g) <| Wz (.d (.ref (List.drop ((Int.toNat y8_0) * 3) (flatD enc_GBatch p0.On)))) (Ofa rfl) <| Wz (.i x19_2.From) (Lf1 rfl enc_GBatch_len hx19_2g) <| Wm (.i p1) rfl <| Wz (.b (decide (x19_2.From = p1))) (Obn rfl (fun _ => hb_eql (k := .i64))) ?_
   rcases tf_ (decide (x19_2.From = p1)) with hq24_2 | hq24_2
   ·
    replace hm := cT hq24_2 hm
    refine Wz (.b true) (Oq hq24_2 rfl) <| Wz (.loc 0 3) (Ofa rfl) <| Wz (.l enc_GBatch p0.On) (Old rfl) <| Wm (.i y8_0) rfl ?_
    obtain ⟨x28_2, hx28_2, hm⟩ := bnd hm
    obtain ⟨hx28_2i, hx28_2g⟩ := geti_some hx28_2
    refine Wz (.d (.ref (List.drop ((Int.toNat y8_0) * 3) (flatD enc_GBatch p0.On)))) (Oia rfl enc_GBatch_len hx28_2i hx28_2g) <| Wz (.d (.ref (List.drop 1 (List.drop ((Int.toNat y8_0) * 3) (flatD enc_GBatch p0.On))))) (Ofa rfl) <| Wz (.i x28_2.To) (Lfk1 1 rfl enc_GBatch_len hx28_2g) <| Wm (.i p2) rfl <| Wz (.b (decide (x28_2.To = p2))) (Obn rfl (fun _ => hb_eql (k := .i64))) <| Wz (.b (decide (x28_2.To = p2))) (OpT rfl) <| Nk 8589934990 3 ⟨tp 1 (.i p1::.i p2::.loc 0 0::tp 3 (.own 1::.i y8_0::tp 24 (.b (decide (x28_2.To = p2))::tp 10 []))), [(.box [(.i p0.Cap), (.l (encL enc_GChange) p0.Views), (.l (encL enc_GChange) p0.Pending), (.l enc_GBatch p0.On)]), (.arr 23 1 (List.length y7_0) (flatD (encL enc_GChange) y7_0))], 0⟩ ?_
    rcases tf_ (decide (x28_2.To = p2)) with hc33_5 | hc33_5
    ·
     replace hm := cT hc33_5 hm
     refine AiT hc33_5 <| Tx <| Wm (.own 1) rfl <| Wz (.loc 0 3) (Ofa rfl) <| Wz (.l enc_GBatch p0.On) (Old rfl) <| Wm (.i y8_0) rfl ?_
     obtain ⟨x38_3, hx38_3, hm⟩ := bnd hm
     obtain ⟨hx38_3i, hx38_3g⟩ := geti_some hx38_3
     refine Wz (.d (.ref (List.drop ((Int.toNat y8_0) * 3) (flatD enc_GBatch p0.On)))) (Oia rfl enc_GBatch_len hx38_3i hx38_3g) <| Wz (.d (.ref (List.drop 2 (List.drop ((Int.toNat y8_0) * 3) (flatD enc_GBatch p0.On))))) (Ofa rfl) <| Wz (.l enc_GChange x38_3.L) (Lfk1 2 rfl enc_GBatch_len hx38_3g) <| Wy (.own 2) [(2, (.arr 23 1 (List.length ([x38_3.L] : List (List GChange))) (flatD (encL enc_GChange) ([x38_3.L] : List (List GChange)))))] (Obs rfl) ?_
     obtain ⟨a42_3, ha42_3, hm⟩ := bnd hm; obtain ⟨ha42_3e, ha42_3l⟩ := app_some ha42_3
     refine Wy (.own 3) [(1, .gone), (3, (.arr 23 1 (List.length a42_3) (flatD (encL enc_GChange) a42_3)))] (Oap rfl elemOK_36 (encL_len (enc := enc_GChange)) ha42_3e ha42_3l) <| Wm (.own 3) rfl <| Wn0 <| Ino <| Tk 398 9 ⟨tp 1 (.i p1::.i p2::.loc 0 0::tp 3 (.own 3::.i y8_0::tp 35 [])), [(.box [(.i p0.Cap), (.l (encL enc_GChange) p0.Views), (.l (encL enc_GChange) p0.Pending), (.l enc_GBatch p0.On)]), .gone, .gone, (.arr 23 1 (List.length a42_3) (flatD (encL enc_GChange) a42_3))], 0⟩ <| Tx <| Wm (.i y8_0) rfl <| Wz (.i (W6 (y8_0 + 1))) (Obn rfl (fun _ => hb_add (k := .i64))) <| Wm (.i (W6 (y8_0 + 1))) rfl <| Wn0 <| RoundK.normal ?_
     exact Rounds.weak (Weak.toK 398 0 0 [0, 3]) (ih_0 (fu_0, a42_3, (W6 (y8_0 + 1))) hm (Nat.lt_succ_self _))
    ·
     replace hm := cF hc33_5 hm
     refine AiF hc33_5 <| Sk <| Ino <| Tk 398 3 ⟨tp 1 (.i p1::.i p2::.loc 0 0::tp 3 (.own 1::.i y8_0::tp 35 [])), [(.box [(.i p0.Cap), (.l (encL enc_GChange) p0.Views), (.l (encL enc_GChange) p0.Pending), (.l enc_GBatch p0.On)]), (.arr 23 1 (List.length y7_0) (flatD (encL enc_GChange) y7_0))], 0⟩ <| Tx <| Wm (.i y8_0) rfl <| Wz (.i (W6 (y8_0 + 1))) (Obn rfl (fun _ => hb_add (k := .i64))) <| Wm (.i (W6 (y8_0 + 1))) rfl <| Wn0 <| RoundK.normal ?_
     exact Rounds.weak (Weak.toK 398 0 0 [0, 1]) (ih_0 (fu_0, y7_0, (W6 (y8_0 + 1))) hm (Nat.lt_succ_self _))
   ·
    replace hm := cF hq24_2 hm
    refine Wz (.b false) (Oq hq24_2 rfl) <| Wn <| Wn <| Wn <| Wn <| Wn <| Wn <| Wn <| Wn <| Wz (.b false) (OpF rfl) <| Nk 8589934990 3 ⟨tp 1 (.i p1::.i p2::.loc 0 0::tp 3 (.own 1::.i y8_0::tp 24 (.b false::tp 10 []))), [(.box [(.i p0.Cap), (.l (encL enc_GChange) p0.Views), (.l (encL enc_GChange) p0.Pending), (.l enc_GBatch p0.On)]), (.arr 23 1 (List.length y7_0) (flatD (encL enc_GChange) y7_0))], 0⟩ <| AWP.if_ false (by kernel_rfl) <| Sk <| Ino ?_
    refine Tk 398 3 ⟨tp 1 (.i p1::.i p2::.loc 0 0::tp 3 (.own 1::.i y8_0::tp 35 [])), [(.box [(.i p0.Cap), (.l (encL enc_GChange) p0.Views), (.l (encL enc_GChange) p0.Pending), (.l enc_GBatch p0.On)]), (.arr 23 1 (List.length y7_0) (flatD (encL enc_GChange) y7_0))], 0⟩ <| Tx <| Wm (.i y8_0) rfl <| Wz (.i (W6 (y8_0 + 1))) (Obn rfl (fun _ => hb_add (k := .i64))) <| Wm (.i (W6 (y8_0 + 1))) rfl <| Wn0 <| RoundK.normal ?_
    exact Rounds.weak (Weak.toK 398 0 0 [0, 1]) (ih_0 (fu_0, y7_0, (W6 (y8_0 + 1))) hm (Nat.lt_succ_self _))
  ·
   replace hm := cF hc13_4 hm
   refine AiF hc13_4 <| AWP.exit <| Then.exit <| RoundK.exit <| InBlock.same <| Tk 128 2 ⟨tp 7 (.own 1::tp 36 []), [.gone, (.arr 23 1 (List.length y7_0) (flatD (encL enc_GChange) y7_0))], 0⟩ <| Sx <| Wm (.own 1) rfl <| Wm (.own 1) rfl <| Nn <| Rt ?_
   obtain rfl := Option.some.inj hm
   exact ret_i [1]

theorem ok_r29_sameBatches (p0 : (List (List GChange))) (p1 : (List (List GChange))) (r : Bool) (h : m_r29_sameBatches p0 p1 = some r) : GCall Try.prog 44 [(.l (encL enc_GChange) p0), (.l (encL enc_GChange) p1)] [] (.b r) [] := by
 refine GCall.of_body (n := 27) (rs := [(.tmp 4)]) Try.func44 rfl rfl rfl <| Ato ⟨.l (encL enc_GChange) p0::.l (encL enc_GChange) p1::tu 25 [], [], 0⟩ ?_
 have hm := h
 unfold m_r29_sameBatches at hm
 refine Sx <| Wm (.b false) rfl <| Nk 3 0 ⟨.l (encL enc_GChange) p0::.l (encL enc_GChange) p1::tp 25 [], [], 0⟩ <| Sq <| Sx <| Wm (.l (encL enc_GChange) p0) rfl <| Wz (.i ((List.length p0 : Nat) : Int)) (Oln rfl) <| Wm (.l (encL enc_GChange) p1) rfl <| Wz (.i ((List.length p1 : Nat) : Int)) (Oln rfl) <| Wz (.b (decide (((List.length p0 : Nat) : Int) ≠ ((List.length p1 : Nat) : Int)))) (Obn rfl (fun _ => hb_neq (k := .i64))) <| Nk 1027 0 ⟨.l (encL enc_GChange) p0::.l (encL enc_GChange) p1::tp 8 (.b (decide (((List.length p0 : Nat) : Int) ≠ ((List.length p1 : Nat) : Int)))::tp 16 []), [], 0⟩ ?_
 rcases tf_ (decide (((List.length p0 : Nat) : Int) ≠ ((List.length p1 : Nat) : Int))) with hc10_4 | hc10_4
 ·
  replace hm := cT hc10_4 hm
  refine AiT hc10_4 <| Sx <| Wm (.b false) rfl <| Nn <| Rt <| Tr ?_
  obtain rfl := Option.some.inj hm
  exact ret_i []
 ·
  replace hm := cF hc10_4 hm
  refine AiF hc10_4 <| Sk <| Tk 3 0 ⟨.l (encL enc_GChange) p0::.l (encL enc_GChange) p1::tp 25 [], [], 0⟩ <| Sq <| Sx <| Wm (.i 0) rfl <| Nk 35 0 ⟨.l (encL enc_GChange) p0::.l (encL enc_GChange) p1::tp 3 (.i 0::tp 21 []), [], 0⟩ <| Bk ?_
  refine AWP.loopI (α := Nat × Int)
    (fun (fu_1, y5_1) => (⟨.l (encL enc_GChange) p0::.l (encL enc_GChange) p1::tp 3 (.i y5_1::tp 21 []), [], 0⟩ : St))
    (fun (fu_1, y5_1) => m_r29_sameBatches_l1 p0 p1 fu_1 y5_1 = some r)
    (fun (fu_1, y5_1) => fu_1) (1152921504606846976, 0)
    (Weak.toK 35 0 0 []) hm ?_
  rintro ⟨fu_1, y5_1⟩ n_1 hm ih_1
  try dsimp only at hm ih_1 ⊢
  cases fu_1 with
  | zero => exact absurd hm (by unfold m_r29_sameBatches_l1; simp)
  | succ fu_1 =>
   unfold m_r29_sameBatches_l1 at hm
   refine Sq <| Sx <| Wm (.i y5_1) rfl <| Wm (.l (encL enc_GChange) p0) rfl <| Wz (.i ((List.length p0 : Nat) : Int)) (Oln rfl) <| Wz (.b (decide (y5_1 < ((List.length p0 : Nat) : Int)))) (Obn rfl (fun _ => hb_lss (k := .i64))) <| Nk 16419 0 ⟨.l (encL enc_GChange) p0::.l (encL enc_GChange) p1::tp 3 (.i y5_1::tp 8 (.b (decide (y5_1 < ((List.length p0 : Nat) : Int)))::tp 12 [])), [], 0⟩ ?_
   rcases tf_ (decide (y5_1 < ((List.length p0 : Nat) : Int))) with hc14_5 | hc14_5
   ·
    replace hm := cT hc14_5 hm
    refine AiT hc14_5 <| Sk <| Tk 35 0 ⟨.l (encL enc_GChange) p0::.l (encL enc_GChange) p1::tp 3 (.i y5_1::tp 21 []), [], 0⟩ <| Sq <| Bk <| Sq <| Adr <| Wm (.l (encL enc_GChange) p0) rfl <| Wm (.i y5_1) rfl ?_
    obtain ⟨x19_3, hx19_3, hm⟩ := bnd hm
    obtain ⟨hx19_3i, hx19_3g⟩ := geti_some hx19_3
    refine Wz (.d (.ref (List.drop ((Int.toNat y5_1) * 1) (flatD (encL enc_GChange) p0)))) (Oia rfl (encL_len (enc := enc_GChange)) hx19_3i hx19_3g) <| Wz (.l enc_GChange x19_3) (Lf1 rfl (encL_len (enc := enc_GChange)) hx19_3g) <| Wm (.l (encL enc_GChange) p1) rfl <| Wm (.i y5_1) rfl ?_
    obtain ⟨x23_3, hx23_3, hm⟩ := bnd hm
    obtain ⟨hx23_3i, hx23_3g⟩ := geti_some hx23_3
    refine Wz (.d (.ref (List.drop ((Int.toNat y5_1) * 1) (flatD (encL enc_GChange) p1)))) (Oia rfl (encL_len (enc := enc_GChange)) hx23_3i hx23_3g) <| Wz (.l enc_GChange x23_3) (Lf1 rfl (encL_len (enc := enc_GChange)) hx23_3g) ?_
    obtain ⟨r25_3, hr25_3, hm⟩ := bnd hm
    refine Wz (.b r25_3) (Ocf [] [] [] 0 (ok_r26_Same x19_3 x23_3 r25_3 hr25_3) (fun a w => Try.call25 a w) rfl trivial) <| Wz (.b (!r25_3)) (Ocs (by kernel_rfl) (op_un rfl (a1 := .bool r25_3) (by kernel_rfl) (fun _ => hu_not))) <| Wdr <| Tk 67108899 0 ⟨.l (encL enc_GChange) p0::.l (encL enc_GChange) p1::tp 3 (.i y5_1::tp 20 (.b (!r25_3)::[])), [], 0⟩ ?_
    rcases tf_ (!r25_3) with hc26_6 | hc26_6
    ·
     replace hm := cT hc26_6 hm
     refine AiT hc26_6 <| Sx <| Wm (.b false) rfl <| Nn <| Rt <| Ir <| Tr <| RoundK.ret <| Ir <| Tr ?_
     obtain rfl := Option.some.inj hm
     exact ret_i []
    ·
     replace hm := cF hc26_6 hm
     refine AiF hc26_6 <| Sk <| Ino <| Tk 35 0 ⟨.l (encL enc_GChange) p0::.l (encL enc_GChange) p1::tp 3 (.i y5_1::tp 21 []), [], 0⟩ <| Tx <| Wm (.i y5_1) rfl <| Wz (.i (W6 (y5_1 + 1))) (Obn rfl (fun _ => hb_add (k := .i64))) <| Wm (.i (W6 (y5_1 + 1))) rfl <| Wn0 <| RoundK.normal ?_
     exact Rounds.weak (Weak.toK 35 0 0 []) (ih_1 (fu_1, (W6 (y5_1 + 1))) hm (Nat.lt_succ_self _))
   ·
    replace hm := cF hc14_5 hm
    refine AiF hc14_5 <| AWP.exit <| Then.exit <| RoundK.exit <| InBlock.same <| Tk 0 0 ⟨tp 27 [], [], 0⟩ <| Sx <| Wm (.b true) rfl <| Nn <| Rt ?_
    obtain rfl := Option.some.inj hm
    exact ret_i []

theorem ok_r29_Same (p0 : GNet_) (p1 : GNet_) (r : Bool) (h : m_r29_Same p0 p1 = some r) : GCall Try.prog 17 [(.agg [(.i p0.Cap), (.l (encL enc_GChange) p0.Views), (.l (encL enc_GChange) p0.Pending), (.l enc_GBatch p0.On)]), (.agg [(.i p1.Cap), (.l (encL enc_GChange) p1.Views), (.l (encL enc_GChange) p1.Pending), (.l enc_GBatch p1.On)])] [] (.b r) [] := by
 refine GCall.of_body (n := 89) (rs := [(.tmp 4)]) Try.func17 rfl rfl rfl <| Ato ⟨.agg [(.i p0.Cap), (.l (encL enc_GChange) p0.Views), (.l (encL enc_GChange) p0.Pending), (.l enc_GBatch p0.On)]::.agg [(.i p1.Cap), (.l (encL enc_GChange) p1.Views), (.l (encL enc_GChange) p1.Pending), (.l enc_GBatch p1.On)]::tu 87 [], [], 0⟩ ?_
 have hm := h
 unfold m_r29_Same at hm
 refine Sx <| Wy (.loc 0 0) [(0, (.box [(.i p0.Cap), (.l (encL enc_GChange) p0.Views), (.l (encL enc_GChange) p0.Pending), (.l enc_GBatch p0.On)]))] (Obx rfl) <| Wy (.loc 1 0) [(1, (.box [(.i p1.Cap), (.l (encL enc_GChange) p1.Views), (.l (encL enc_GChange) p1.Pending), (.l enc_GBatch p1.On)]))] (Obx rfl) <| Wm (.b false) rfl <| Nk 12 3 ⟨tp 2 (.loc 0 0::.loc 1 0::tp 85 []), [(.box [(.i p0.Cap), (.l (encL enc_GChange) p0.Views), (.l (encL enc_GChange) p0.Pending), (.l enc_GBatch p0.On)]), (.box [(.i p1.Cap), (.l (encL enc_GChange) p1.Views), (.l (encL enc_GChange) p1.Pending), (.l enc_GBatch p1.On)])], 0⟩ <| Sq ?_
 refine AWP.cutJ (α := Unit) (fun x => match x with | () => (⟨tp 2 (.loc 0 0::.loc 1 0::tp 34 (.b true::tp 50 [])), [(.box [(.i p0.Cap), (.l (encL enc_GChange) p0.Views), (.l (encL enc_GChange) p0.Pending), (.l enc_GBatch p0.On)]), (.box [(.i p1.Cap), (.l (encL enc_GChange) p1.Views), (.l (encL enc_GChange) p1.Pending), (.l enc_GBatch p1.On)])], 0⟩ : St)) (fun x => match x with | () => m_r29_Same_j1  = some r) ?_ (fun J1 => ?_)
 ·
  rintro ⟨⟩ hm
  try dsimp only at hm ⊢
  unfold m_r29_Same_j1 at hm
  refine AWP.if_ true (by kernel_rfl) <| Sx <| Wm (.b false) rfl <| Nn <| Rt <| Tr ?_
  obtain rfl := Option.some.inj hm
  exact ret_i []
 refine Sx <| Wz (.loc 0 0) (Ofa rfl) <| Wz (.i p0.Cap) (Old rfl) <| Wz (.loc 1 0) (Ofa rfl) <| Wz (.i p1.Cap) (Old rfl) <| Wz (.b (decide (p0.Cap ≠ p1.Cap))) (Obn rfl (fun _ => hb_neq (k := .i64))) ?_
 rcases tf_ (decide (p0.Cap ≠ p1.Cap)) with hq12_0 | hq12_0
 ·
  replace hm := cT hq12_0 hm
  refine Wz (.b true) (Oq hq12_0 rfl) <| Wn <| Wn <| Wn <| Wn <| Wn <| Wn <| Wn <| Wz (.b true) (OpT rfl) <| Wm (.b true) rfl <| Wn <| Wn <| Wn <| Wn ?_
  refine Wn <| Wn <| Wn <| Wz (.b true) (OpT rfl) <| Wm (.b true) rfl <| Wn <| Wn <| Wn <| Wn <| Wn <| Wn <| Wn <| Wz (.b true) (OpT rfl) <| Nn ?_
  exact AWP.weak (Weak.toK 274877906956 0 0 [0, 1]) (J1 () hm)
 ·
  replace hm := cF hq12_0 hm
  refine Wz (.b false) (Oq hq12_0 rfl) <| Wz (.loc 0 1) (Ofa rfl) <| Wz (.l (encL enc_GChange) p0.Views) (Old rfl) <| Wz (.i ((List.length p0.Views : Nat) : Int)) (Oln rfl) <| Wz (.loc 1 1) (Ofa rfl) <| Wz (.l (encL enc_GChange) p1.Views) (Old rfl) <| Wz (.i ((List.length p1.Views : Nat) : Int)) (Oln rfl) <| Wz (.b (decide (((List.length p0.Views : Nat) : Int) ≠ ((List.length p1.Views : Nat) : Int)))) (Obn rfl (fun _ => hb_neq (k := .i64))) <| Wz (.b (decide (((List.length p0.Views : Nat) : Int) ≠ ((List.length p1.Views : Nat) : Int)))) (OpF rfl) ?_
  rcases tf_ (decide (((List.length p0.Views : Nat) : Int) ≠ ((List.length p1.Views : Nat) : Int))) with hq21_0 | hq21_0
  ·
   replace hm := cT hq21_0 hm
   refine Wz (.b true) (Oq hq21_0 rfl) <| Wn <| Wn <| Wn <| Wn <| Wn <| Wn <| Wn <| Wz (.b true) (OpT rfl) <| Wm (.b true) rfl <| Wn <| Wn <| Wn <| Wn ?_
   refine Wn <| Wn <| Wn <| Wz (.b true) (OpT rfl) <| Nn ?_
   exact AWP.weak (Weak.toK 274877906956 0 0 [0, 1]) (J1 () hm)
  ·
   replace hm := cF hq21_0 hm
   refine Wz (.b false) (Oq hq21_0 rfl) <| Wz (.loc 0 2) (Ofa rfl) <| Wz (.l (encL enc_GChange) p0.Pending) (Old rfl) <| Wz (.i ((List.length p0.Pending : Nat) : Int)) (Oln rfl) <| Wz (.loc 1 2) (Ofa rfl) <| Wz (.l (encL enc_GChange) p1.Pending) (Old rfl) <| Wz (.i ((List.length p1.Pending : Nat) : Int)) (Oln rfl) <| Wz (.b (decide (((List.length p0.Pending : Nat) : Int) ≠ ((List.length p1.Pending : Nat) : Int)))) (Obn rfl (fun _ => hb_neq (k := .i64))) <| Wz (.b (decide (((List.length p0.Pending : Nat) : Int) ≠ ((List.length p1.Pending : Nat) : Int)))) (OpF rfl) ?_
   rcases tf_ (decide (((List.length p0.Pending : Nat) : Int) ≠ ((List.length p1.Pending : Nat) : Int))) with hq30_0 | hq30_0
   ·
    replace hm := cT hq30_0 hm
    refine Wz (.b true) (Oq hq30_0 rfl) <| Wn <| Wn <| Wn <| Wn <| Wn <| Wn <| Wn <| Wz (.b true) (OpT rfl) <| Nn ?_
    exact AWP.weak (Weak.toK 274877906956 0 0 [0, 1]) (J1 () hm)
   ·
    replace hm := cF hq30_0 hm
    refine Wz (.b false) (Oq hq30_0 rfl) <| Wz (.loc 0 3) (Ofa rfl) <| Wz (.l enc_GBatch p0.On) (Old rfl) <| Wz (.i ((List.length p0.On : Nat) : Int)) (Oln rfl) <| Wz (.loc 1 3) (Ofa rfl) <| Wz (.l enc_GBatch p1.On) (Old rfl) <| Wz (.i ((List.length p1.On : Nat) : Int)) (Oln rfl) <| Wz (.b (decide (((List.length p0.On : Nat) : Int) ≠ ((List.length p1.On : Nat) : Int)))) (Obn rfl (fun _ => hb_neq (k := .i64))) <| Wz (.b (decide (((List.length p0.On : Nat) : Int) ≠ ((List.length p1.On : Nat) : Int)))) (OpF rfl) <| Nk 274877906956 3 ⟨tp 2 (.loc 0 0::.loc 1 0::tp 34 (.b (decide (((List.length p0.On : Nat) : Int) ≠ ((List.length p1.On : Nat) : Int)))::tp 50 [])), [(.box [(.i p0.Cap), (.l (encL enc_GChange) p0.Views), (.l (encL enc_GChange) p0.Pending), (.l enc_GBatch p0.On)]), (.box [(.i p1.Cap), (.l (encL enc_GChange) p1.Views), (.l (encL enc_GChange) p1.Pending), (.l enc_GBatch p1.On)])], 0⟩ ?_
    rcases tf_ (decide (((List.length p0.On : Nat) : Int) ≠ ((List.length p1.On : Nat) : Int))) with hc38_8 | hc38_8
    ·
     replace hm := cT hc38_8 hm
     refine AiT hc38_8 <| Sx <| Wm (.b false) rfl <| Nn <| Rt <| Tr ?_
     obtain rfl := Option.some.inj hm
     exact ret_i []
    ·
     replace hm := cF hc38_8 hm
     refine AiF hc38_8 <| Sk <| Tk 12 3 ⟨tp 2 (.loc 0 0::.loc 1 0::tp 85 []), [(.box [(.i p0.Cap), (.l (encL enc_GChange) p0.Views), (.l (encL enc_GChange) p0.Pending), (.l enc_GBatch p0.On)]), (.box [(.i p1.Cap), (.l (encL enc_GChange) p1.Views), (.l (encL enc_GChange) p1.Pending), (.l enc_GBatch p1.On)])], 0⟩ <| Sq <| Sx <| Wm (.i 0) rfl <| Nk 44 3 ⟨tp 2 (.loc 0 0::.loc 1 0::tp 1 (.i 0::tp 83 [])), [(.box [(.i p0.Cap), (.l (encL enc_GChange) p0.Views), (.l (encL enc_GChange) p0.Pending), (.l enc_GBatch p0.On)]), (.box [(.i p1.Cap), (.l (encL enc_GChange) p1.Views), (.l (encL enc_GChange) p1.Pending), (.l enc_GBatch p1.On)])], 0⟩ <| Bk ?_
     refine AWP.loopI (α := Nat × Int)
       (fun (fu_2, y5_2) => (⟨tp 2 (.loc 0 0::.loc 1 0::tp 1 (.i y5_2::tp 83 [])), [(.box [(.i p0.Cap), (.l (encL enc_GChange) p0.Views), (.l (encL enc_GChange) p0.Pending), (.l enc_GBatch p0.On)]), (.box [(.i p1.Cap), (.l (encL enc_GChange) p1.Views), (.l (encL enc_GChange) p1.Pending), (.l enc_GBatch p1.On)])], 0⟩ : St))
       (fun (fu_2, y5_2) => m_r29_Same_l2 p0 p1 fu_2 y5_2 = some r)
       (fun (fu_2, y5_2) => fu_2) (1152921504606846976, 0)
       (Weak.toK 44 0 0 [0, 1]) hm ?_
     rintro ⟨fu_2, y5_2⟩ n_2 hm ih_2
     try dsimp only at hm ih_2 ⊢
     cases fu_2 with
     | zero => exact absurd hm (by unfold m_r29_Same_l2; simp)
     | succ fu_2 =>
      unfold m_r29_Same_l2 at hm
      refine Sq <| Sx <| Wm (.i y5_2) rfl <| Wz (.loc 0 1) (Ofa rfl) <| Wz (.l (encL enc_GChange) p0.Views) (Old rfl) <| Wz (.i ((List.length p0.Views : Nat) : Int)) (Oln rfl) <| Wz (.b (decide (y5_2 < ((List.length p0.Views : Nat) : Int)))) (Obn rfl (fun _ => hb_lss (k := .i64))) <| Nk 8796093022252 3 ⟨tp 2 (.loc 0 0::.loc 1 0::tp 1 (.i y5_2::tp 37 (.b (decide (y5_2 < ((List.length p0.Views : Nat) : Int)))::tp 45 []))), [(.box [(.i p0.Cap), (.l (encL enc_GChange) p0.Views), (.l (encL enc_GChange) p0.Pending), (.l enc_GBatch p0.On)]), (.box [(.i p1.Cap), (.l (encL enc_GChange) p1.Views), (.l (encL enc_GChange) p1.Pending), (.l enc_GBatch p1.On)])], 0⟩ ?_
      rcases tf_ (decide (y5_2 < ((List.length p0.Views : Nat) : Int))) with hc43_9 | hc43_9
      ·
       replace hm := cT hc43_9 hm
       refine AiT hc43_9 <| Sk <| Tk 44 3 ⟨tp 2 (.loc 0 0::.loc 1 0::tp 1 (.i y5_2::tp 83 [])), [(.box [(.i p0.Cap), (.l (encL enc_GChange) p0.Views), (.l (encL enc_GChange) p0.Pending), (.l enc_GBatch p0.On)]), (.box [(.i p1.Cap), (.l (encL enc_GChange) p1.Views), (.l (encL enc_GChange) p1.Pending), (.l enc_GBatch p1.On)])], 0⟩ <| Sq <| Bk <| Sq <| Sq <| Adr <| Wz (.loc 0 1) (Ofa rfl) <| Wz (.l (encL enc_GChange) p0.Views) (Old rfl) <| Wm (.i y5_2) rfl ?_
       obtain ⟨x49_4, hx49_4, hm⟩ := bnd hm
       obtain ⟨hx49_4i, hx49_4g⟩ := geti_some hx49_4
       refine Wz (.d (.ref (List.drop ((Int.toNat y5_2) * 1) (flatD (encL enc_GChange) p0.Views)))) (Oia rfl (encL_len (enc := enc_GChange)) hx49_4i hx49_4g) <| Wz (.l enc_GChange x49_4) (Lf1 rfl (encL_len (enc := enc_GChange)) hx49_4g) <| Wz (.loc 1 1) (Ofa rfl) <| Wz (.l (encL enc_GChange) p1.Views) (Old rfl) <| Wm (.i y5_2) rfl ?_
       obtain ⟨x54_4, hx54_4, hm⟩ := bnd hm
       obtain ⟨hx54_4i, hx54_4g⟩ := geti_some hx54_4
       refine Wz (.d (.ref (List.drop ((Int.toNat y5_2) * 1) (flatD (encL enc_GChange) p1.Views)))) (Oia rfl (encL_len (enc := enc_GChange)) hx54_4i hx54_4g) <| Wz (.l enc_GChange x54_4) (Lf1 rfl (encL_len (enc := enc_GChange)) hx54_4g) ?_
       obtain ⟨r56_4, hr56_4, hm⟩ := bnd hm
       refine Wz (.b r56_4) (Ocf [] [] [] 0 (ok_r26_Same x49_4 x54_4 r56_4 hr56_4) (fun a w => Try.call25 a w) rfl trivial) <| Wz (.b (!r56_4)) (Ocs (by kernel_rfl) (op_un rfl (a1 := .bool r56_4) (by kernel_rfl) (fun _ => hu_not))) ?_
       rcases tf_ (!r56_4) with hq58_4 | hq58_4
       ·
        replace hm := cT hq58_4 hm
        refine Wz (.b true) (Oq hq58_4 rfl) <| Wn <| Wn <| Wn <| Wn <| Wn <| Wn <| Wn <| Wn <| Wn <| Wn <| Wn <| Wn <| Wz (.b true) (OpT rfl) ?_
        refine Wdr <| Tk 2361183241434822606892 3 ⟨tp 2 (.loc 0 0::.loc 1 0::tp 1 (.i y5_2::tp 65 (.b true::tp 17 []))), [(.box [(.i p0.Cap), (.l (encL enc_GChange) p0.Views), (.l (encL enc_GChange) p0.Pending), (.l enc_GBatch p0.On)]), (.box [(.i p1.Cap), (.l (encL enc_GChange) p1.Views), (.l (encL enc_GChange) p1.Pending), (.l enc_GBatch p1.On)])], 0⟩ <| AWP.if_ true (by kernel_rfl) <| Sx <| Wm (.b false) rfl <| Nn <| Rt <| Tr <| Ir <| Tr <| RoundK.ret <| Ir <| Tr ?_
        obtain rfl := Option.some.inj hm
        exact ret_i []
       ·
        replace hm := cF hq58_4 hm
        refine Wz (.b false) (Oq hq58_4 rfl) <| Wz (.loc 0 2) (Ofa rfl) <| Wz (.l (encL enc_GChange) p0.Pending) (Old rfl) <| Wm (.i y5_2) rfl ?_
        obtain ⟨x62_4, hx62_4, hm⟩ := bnd hm
        obtain ⟨hx62_4i, hx62_4g⟩ := geti_some hx62_4
        refine Wz (.d (.ref (List.drop ((Int.toNat y5_2) * 1) (flatD (encL enc_GChange) p0.Pending)))) (Oia rfl (encL_len (enc := enc_GChange)) hx62_4i hx62_4g) <| Wz (.l enc_GChange x62_4) (Lf1 rfl (encL_len (enc := enc_GChange)) hx62_4g) <| Wz (.loc 1 2) (Ofa rfl) <| Wz (.l (encL enc_GChange) p1.Pending) (Old rfl) <| Wm (.i y5_2) rfl ?_
        obtain ⟨x67_4, hx67_4, hm⟩ := bnd hm
        obtain ⟨hx67_4i, hx67_4g⟩ := geti_some hx67_4
        refine Wz (.d (.ref (List.drop ((Int.toNat y5_2) * 1) (flatD (encL enc_GChange) p1.Pending)))) (Oia rfl (encL_len (enc := enc_GChange)) hx67_4i hx67_4g) <| Wz (.l enc_GChange x67_4) (Lf1 rfl (encL_len (enc := enc_GChange)) hx67_4g) ?_
        obtain ⟨r69_4, hr69_4, hm⟩ := bnd hm
        refine Wz (.b r69_4) (Ocf [] [] [] 0 (ok_r26_Same x62_4 x67_4 r69_4 hr69_4) (fun a w => Try.call25 a w) rfl trivial) <| Wz (.b (!r69_4)) (Ocs (by kernel_rfl) (op_un rfl (a1 := .bool r69_4) (by kernel_rfl) (fun _ => hu_not))) <| Wz (.b (!r69_4)) (OpF rfl) <| Wdr <| Tk 2361183241434822606892 3 ⟨tp 2 (.loc 0 0::.loc 1 0::tp 1 (.i y5_2::tp 65 (.b (!r69_4)::tp 17 []))), [(.box [(.i p0.Cap), (.l (encL enc_GChange) p0.Views), (.l (encL enc_GChange) p0.Pending), (.l enc_GBatch p0.On)]), (.box [(.i p1.Cap), (.l (encL enc_GChange) p1.Views), (.l (encL enc_GChange) p1.Pending), (.l enc_GBatch p1.On)])], 0⟩ ?_
        rcases tf_ (!r69_4) with hc71_10 | hc71_10
        ·
         replace hm := cT hc71_10 hm
         refine AiT hc71_10 <| Sx <| Wm (.b false) rfl <| Nn <| Rt <| Tr <| Ir <| Tr <| RoundK.ret <| Ir <| Tr ?_
         obtain rfl := Option.some.inj hm
         exact ret_i []
        ·
         replace hm := cF hc71_10 hm
         refine AiF hc71_10 <| Sk <| Tk 44 3 ⟨tp 2 (.loc 0 0::.loc 1 0::tp 1 (.i y5_2::tp 83 [])), [(.box [(.i p0.Cap), (.l (encL enc_GChange) p0.Views), (.l (encL enc_GChange) p0.Pending), (.l enc_GBatch p0.On)]), (.box [(.i p1.Cap), (.l (encL enc_GChange) p1.Views), (.l (encL enc_GChange) p1.Pending), (.l enc_GBatch p1.On)])], 0⟩ <| Sx <| Wm (.i 0) rfl <| Nk 108 3 ⟨tp 2 (.loc 0 0::.loc 1 0::tp 1 (.i y5_2::.i 0::tp 82 [])), [(.box [(.i p0.Cap), (.l (encL enc_GChange) p0.Views), (.l (encL enc_GChange) p0.Pending), (.l enc_GBatch p0.On)]), (.box [(.i p1.Cap), (.l (encL enc_GChange) p1.Views), (.l (encL enc_GChange) p1.Pending), (.l enc_GBatch p1.On)])], 0⟩ <| Bk ?_
         refine AWP.loopI (α := Nat × Int)
           (fun (fu_5, y6_5) => (⟨tp 2 (.loc 0 0::.loc 1 0::tp 1 (.i y5_2::.i y6_5::tp 82 [])), [(.box [(.i p0.Cap), (.l (encL enc_GChange) p0.Views), (.l (encL enc_GChange) p0.Pending), (.l enc_GBatch p0.On)]), (.box [(.i p1.Cap), (.l (encL enc_GChange) p1.Views), (.l (encL enc_GChange) p1.Pending), (.l enc_GBatch p1.On)])], 0⟩ : St))
           (fun (fu_5, y6_5) => m_r29_Same_l5 p0 p1 y5_2 (fun y5_2 => m_r29_Same_l2 p0 p1 fu_2 y5_2) fu_5 y6_5 = some r)
           (fun (fu_5, y6_5) => fu_5) (1152921504606846976, 0)
           (Weak.toK 108 0 0 [0, 1]) hm ?_
         rintro ⟨fu_5, y6_5⟩ n_5 hm ih_5
         try dsimp only at hm ih_5 ⊢
         cases fu_5 with
         | zero => exact absurd hm (by unfold m_r29_Same_l5; simp)
         | succ fu_5 =>
          unfold m_r29_Same_l5 at hm
          refine Sq <| Sx <| Wm (.i y6_5) rfl <| Wz (.loc 0 1) (Ofa rfl) <| Wz (.l (encL enc_GChange) p0.Views) (Old rfl) <| Wz (.i ((List.length p0.Views : Nat) : Int)) (Oln rfl) <| Wz (.b (decide (y6_5 < ((List.length p0.Views : Nat) : Int)))) (Obn rfl (fun _ => hb_lss (k := .i64))) <| Nk 75557863725914323419244 3 ⟨tp 2 (.loc 0 0::.loc 1 0::tp 1 (.i y5_2::.i y6_5::tp 69 (.b (decide (y6_5 < ((List.length p0.Views : Nat) : Int)))::tp 12 []))), [(.box [(.i p0.Cap), (.l (encL enc_GChange) p0.Views), (.l (encL enc_GChange) p0.Pending), (.l enc_GBatch p0.On)]), (.box [(.i p1.Cap), (.l (encL enc_GChange) p1.Views), (.l (encL enc_GChange) p1.Pending), (.l enc_GBatch p1.On)])], 0⟩ ?_
          rcases tf_ (decide (y6_5 < ((List.length p0.Views : Nat) : Int))) with hc76_11 | hc76_11
          ·
           replace hm := cT hc76_11 hm
           refine AiT hc76_11 <| Sk <| Tk 108 3 ⟨tp 2 (.loc 0 0::.loc 1 0::tp 1 (.i y5_2::.i y6_5::tp 82 [])), [(.box [(.i p0.Cap), (.l (encL enc_GChange) p0.Views), (.l (encL enc_GChange) p0.Pending), (.l enc_GBatch p0.On)]), (.box [(.i p1.Cap), (.l (encL enc_GChange) p1.Views), (.l (encL enc_GChange) p1.Pending), (.l enc_GBatch p1.On)])], 0⟩ <| Sq <| Bk <| Sq <| Adr <| Wz (.agg [(.i p0.Cap), (.l (encL enc_GChange) p0.Views), (.l (encL enc_GChange) p0.Pending), (.l enc_GBatch p0.On)]) (Old rfl) <| Wm (.i y5_2) rfl <| Wm (.i y6_5) rfl ?_
           obtain ⟨r82_7, hr82_7, hm⟩ := bnd hm
           refine Wy (.own 2) [(2, (.arr 23 1 (List.length r82_7) (flatD (encL enc_GChange) r82_7)))] (Ocf [] [2] [] 0 (ok_r29_link p0 y5_2 y6_5 r82_7 hr82_7) (fun a w => Try.call45 a w) rfl trivial) <| Wz (.agg [(.i p1.Cap), (.l (encL enc_GChange) p1.Views), (.l (encL enc_GChange) p1.Pending), (.l enc_GBatch p1.On)]) (Old rfl) <| Wm (.i y5_2) rfl <| Wm (.i y6_5) rfl ?_
           obtain ⟨r86_7, hr86_7, hm⟩ := bnd hm
           refine Wy (.own 3) [(3, (.arr 23 1 (List.length r86_7) (flatD (encL enc_GChange) r86_7)))] (Ocf [] [3] [] 0 (ok_r29_link p1 y5_2 y6_5 r86_7 hr86_7) (fun a w => Try.call45 a w) rfl trivial) ?_
           obtain ⟨r87_7, hr87_7, hm⟩ := bnd hm
           refine Wz (.b r87_7) (Ocp [] [] [2, 3] 0 (ok_r29_sameBatches r82_7 r86_7 r87_7 hr87_7) (plain_triv (by simp [A.Plain, A.Plains, D.Plain, byteD])) (fun a w => Try.call44 a w) rfl trivial) <| Wz (.b (!r87_7)) (Ocs (by kernel_rfl) (op_un rfl (a1 := .bool r87_7) (by kernel_rfl) (fun _ => hu_not))) <| Wdr <| Tk 309485009821345068724781164 3 ⟨tp 2 (.loc 0 0::.loc 1 0::tp 1 (.i y5_2::.i y6_5::tp 81 (.b (!r87_7)::[]))), [(.box [(.i p0.Cap), (.l (encL enc_GChange) p0.Views), (.l (encL enc_GChange) p0.Pending), (.l enc_GBatch p0.On)]), (.box [(.i p1.Cap), (.l (encL enc_GChange) p1.Views), (.l (encL enc_GChange) p1.Pending), (.l enc_GBatch p1.On)]), .gone, .gone], 0⟩ ?_
           rcases tf_ (!r87_7) with hc88_12 | hc88_12
           ·
            replace hm := cT hc88_12 hm
            refine AiT hc88_12 <| Sx <| Wm (.b false) rfl <| Nn <| Rt <| Ir <| Tr <| RoundK.ret <| Ir <| Ir <| Tr <| RoundK.ret <| Ir <| Tr ?_
            obtain rfl := Option.some.inj hm
            exact ret_i []
           ·
            replace hm := cF hc88_12 hm
            refine AiF hc88_12 <| Sk <| Ino <| Tk 108 3 ⟨tp 2 (.loc 0 0::.loc 1 0::tp 1 (.i y5_2::.i y6_5::tp 82 [])), [(.box [(.i p0.Cap), (.l (encL enc_GChange) p0.Views), (.l (encL enc_GChange) p0.Pending), (.l enc_GBatch p0.On)]), (.box [(.i p1.Cap), (.l (encL enc_GChange) p1.Views), (.l (encL enc_GChange) p1.Pending), (.l enc_GBatch p1.On)]), .gone, .gone], 0⟩ <| Tx <| Wm (.i y6_5) rfl <| Wz (.i (W6 (y6_5 + 1))) (Obn rfl (fun _ => hb_add (k := .i64))) <| Wm (.i (W6 (y6_5 + 1))) rfl <| Wn0 <| RoundK.normal ?_
            exact Rounds.weak (Weak.toK 108 0 0 [0, 1]) (ih_5 (fu_5, (W6 (y6_5 + 1))) hm (Nat.lt_succ_self _))
          ·
           replace hm := cF hc76_11 hm
           refine AiF hc76_11 <| AWP.exit <| Then.exit <| RoundK.exit <| InBlock.same <| Ino <| Tk 44 3 ⟨tp 2 (.loc 0 0::.loc 1 0::tp 1 (.i y5_2::tp 83 [])), [(.box [(.i p0.Cap), (.l (encL enc_GChange) p0.Views), (.l (encL enc_GChange) p0.Pending), (.l enc_GBatch p0.On)]), (.box [(.i p1.Cap), (.l (encL enc_GChange) p1.Views), (.l (encL enc_GChange) p1.Pending), (.l enc_GBatch p1.On)])], 0⟩ <| Tx <| Wm (.i y5_2) rfl <| Wz (.i (W6 (y5_2 + 1))) (Obn rfl (fun _ => hb_add (k := .i64))) <| Wm (.i (W6 (y5_2 + 1))) rfl <| Wn0 <| RoundK.normal ?_
           exact Rounds.weak (Weak.toK 44 0 0 [0, 1]) (ih_2 (fu_2, (W6 (y5_2 + 1))) hm (Nat.lt_succ_self _))
      ·
       replace hm := cF hc43_9 hm
       refine AiF hc43_9 <| AWP.exit <| Then.exit <| RoundK.exit <| InBlock.same <| Tk 0 0 ⟨tp 89 [], [.gone, .gone], 0⟩ <| Sx <| Wm (.b true) rfl <| Nn <| Rt ?_
       obtain rfl := Option.some.inj hm
       exact ret_i []

theorem ok_r29_Idle (p0 : GNet_) (r : Bool) (h : m_r29_Idle p0 = some r) : GCall Try.prog 22 [(.agg [(.i p0.Cap), (.l (encL enc_GChange) p0.Views), (.l (encL enc_GChange) p0.Pending), (.l enc_GBatch p0.On)])] [] (.b r) [] := by
 refine GCall.of_body (n := 22) (rs := [(.tmp 2)]) Try.func22 rfl rfl rfl <| Ato ⟨.agg [(.i p0.Cap), (.l (encL enc_GChange) p0.Views), (.l (encL enc_GChange) p0.Pending), (.l enc_GBatch p0.On)]::tu 21 [], [], 0⟩ ?_
 have hm := h
 unfold m_r29_Idle at hm
 refine Sx <| Wy (.loc 0 0) [(0, (.box [(.i p0.Cap), (.l (encL enc_GChange) p0.Views), (.l (encL enc_GChange) p0.Pending), (.l enc_GBatch p0.On)]))] (Obx rfl) <| Wm (.b false) rfl <| Nk 2 1 ⟨tp 1 (.loc 0 0::tp 20 []), [(.box [(.i p0.Cap), (.l (encL enc_GChange) p0.Views), (.l (encL enc_GChange) p0.Pending), (.l enc_GBatch p0.On)])], 0⟩ <| Sq <| Sx <| Wm (.i 0) rfl <| Nk 10 1 ⟨tp 1 (.loc 0 0::tp 1 (.i 0::tp 18 [])), [(.box [(.i p0.Cap), (.l (encL enc_GChange) p0.Views), (.l (encL enc_GChange) p0.Pending), (.l enc_GBatch p0.On)])], 0⟩ <| Bk ?_
 refine AWP.loopI (α := Nat × Int)
   (fun (fu_0, y3_0) => (⟨tp 1 (.loc 0 0::tp 1 (.i y3_0::tp 18 [])), [(.box [(.i p0.Cap), (.l (encL enc_GChange) p0.Views), (.l (encL enc_GChange) p0.Pending), (.l enc_GBatch p0.On)])], 0⟩ : St))
   (fun (fu_0, y3_0) => m_r29_Idle_l0 p0 fu_0 y3_0 = some r)
   (fun (fu_0, y3_0) => fu_0) (1152921504606846976, 0)
   (Weak.toK 10 0 0 [0]) hm ?_
 rintro ⟨fu_0, y3_0⟩ n_0 hm ih_0
 try dsimp only at hm ih_0 ⊢
 cases fu_0 with
 | zero => exact absurd hm (by unfold m_r29_Idle_l0; simp)
 | succ fu_0 =>
  unfold m_r29_Idle_l0 at hm
  refine Sq <| Sx <| Wm (.i y3_0) rfl <| Wz (.loc 0 2) (Ofa rfl) <| Wz (.l (encL enc_GChange) p0.Pending) (Old rfl) <| Wz (.i ((List.length p0.Pending : Nat) : Int)) (Oln rfl) <| Wz (.b (decide (y3_0 < ((List.length p0.Pending : Nat) : Int)))) (Obn rfl (fun _ => hb_lss (k := .i64))) <| Nk 266 1 ⟨tp 1 (.loc 0 0::tp 1 (.i y3_0::tp 4 (.b (decide (y3_0 < ((List.length p0.Pending : Nat) : Int)))::tp 13 []))), [(.box [(.i p0.Cap), (.l (encL enc_GChange) p0.Views), (.l (encL enc_GChange) p0.Pending), (.l enc_GBatch p0.On)])], 0⟩ ?_
  rcases tf_ (decide (y3_0 < ((List.length p0.Pending : Nat) : Int))) with hc8_4 | hc8_4
  ·
   replace hm := cT hc8_4 hm
   refine AiT hc8_4 <| Sk <| Tk 10 1 ⟨tp 1 (.loc 0 0::tp 1 (.i y3_0::tp 18 [])), [(.box [(.i p0.Cap), (.l (encL enc_GChange) p0.Views), (.l (encL enc_GChange) p0.Pending), (.l enc_GBatch p0.On)])], 0⟩ <| Sq <| Bk <| Sx <| Wz (.loc 0 2) (Ofa rfl) <| Wz (.l (encL enc_GChange) p0.Pending) (Old rfl) <| Wm (.i y3_0) rfl ?_
   obtain ⟨x14_2, hx14_2, hm⟩ := bnd hm
   obtain ⟨hx14_2i, hx14_2g⟩ := geti_some hx14_2
   refine Wz (.d (.ref (List.drop ((Int.toNat y3_0) * 1) (flatD (encL enc_GChange) p0.Pending)))) (Oia rfl (encL_len (enc := enc_GChange)) hx14_2i hx14_2g) <| Wz (.l enc_GChange x14_2) (Lf1 rfl (encL_len (enc := enc_GChange)) hx14_2g) <| Wz (.i ((List.length x14_2 : Nat) : Int)) (Oln rfl) <| Wz (.b (decide ((0 : Int) < ((List.length x14_2 : Nat) : Int)))) (Obn rfl (fun _ => hb_gtr (k := .i64))) <| Nk 131082 1 ⟨tp 1 (.loc 0 0::tp 1 (.i y3_0::tp 13 (.b (decide ((0 : Int) < ((List.length x14_2 : Nat) : Int)))::tp 4 []))), [(.box [(.i p0.Cap), (.l (encL enc_GChange) p0.Views), (.l (encL enc_GChange) p0.Pending), (.l enc_GBatch p0.On)])], 0⟩ ?_
   rcases tf_ (decide ((0 : Int) < ((List.length x14_2 : Nat) : Int))) with hc17_5 | hc17_5
   ·
    replace hm := cT hc17_5 hm
    refine AiT hc17_5 <| Sx <| Wm (.b false) rfl <| Nn <| Rt <| Ir <| Tr <| RoundK.ret <| Ir <| Tr ?_
    obtain rfl := Option.some.inj hm
    exact ret_i []
   ·
    replace hm := cF hc17_5 hm
    refine AiF hc17_5 <| Sk <| Ino <| Tk 10 1 ⟨tp 1 (.loc 0 0::tp 1 (.i y3_0::tp 18 [])), [(.box [(.i p0.Cap), (.l (encL enc_GChange) p0.Views), (.l (encL enc_GChange) p0.Pending), (.l enc_GBatch p0.On)])], 0⟩ <| Tx <| Wm (.i y3_0) rfl <| Wz (.i (W6 (y3_0 + 1))) (Obn rfl (fun _ => hb_add (k := .i64))) <| Wm (.i (W6 (y3_0 + 1))) rfl <| Wn0 <| RoundK.normal ?_
    exact Rounds.weak (Weak.toK 10 0 0 [0]) (ih_0 (fu_0, (W6 (y3_0 + 1))) hm (Nat.lt_succ_self _))
  ·
   replace hm := cF hc8_4 hm
   refine AiF hc8_4 <| AWP.exit <| Then.exit <| RoundK.exit <| InBlock.same <| Tk 2 1 ⟨tp 1 (.loc 0 0::tp 20 []), [(.box [(.i p0.Cap), (.l (encL enc_GChange) p0.Views), (.l (encL enc_GChange) p0.Pending), (.l enc_GBatch p0.On)])], 0⟩ <| Sx <| Wz (.loc 0 3) (Ofa rfl) <| Wz (.l enc_GBatch p0.On) (Old rfl) <| Wz (.i ((List.length p0.On : Nat) : Int)) (Oln rfl) <| Wz (.b (decide (((List.length p0.On : Nat) : Int) = 0))) (Obn rfl (fun _ => hb_eql (k := .i64))) <| Wm (.b (decide (((List.length p0.On : Nat) : Int) = 0))) rfl <| Nn <| Rt ?_
   obtain rfl := Option.some.inj hm
   exact ret_i []

theorem ok_r27_Leads (p0 : Int) (p1 : Int) (r : Bool) (h : m_r27_Leads p0 p1 = some r) : GCall Try.prog 71 [(.i p0), (.i p1)] [] (.b r) [] := by
 refine GCall.of_body (n := 16) (rs := [(.tmp 4)]) Try.func71 rfl rfl rfl <| Ato ⟨.i p0::.i p1::tu 14 [], [], 0⟩ ?_
 have hm := h
 unfold m_r27_Leads at hm
 refine Sx <| Wm (.b false) rfl <| Nk 3 0 ⟨.i p0::.i p1::tp 14 [], [], 0⟩ <| Sx <| Wm (.i p0) rfl <| Wz (.b (decide ((0 : Int) ≤ p0))) (Obn rfl (fun _ => hb_geq (k := .i64))) ?_
 rcases tf_ (decide ((0 : Int) ≤ p0)) with hq7_0 | hq7_0
 ·
  replace hm := cT hq7_0 hm
  refine Wz (.b true) (Oq hq7_0 rfl) <| Wm (.i p0) rfl <| Wm (.i p1) rfl <| Wz (.b (decide (p0 ≤ p1))) (Obn rfl (fun _ => hb_leq (k := .i64))) <| Wz (.b (decide (p0 ≤ p1))) (OpT rfl) ?_
  rcases tf_ (decide (p0 ≤ p1)) with hq12_0 | hq12_0
  ·
   replace hm := cT hq12_0 hm
   refine Wz (.b true) (Oq hq12_0 rfl) <| Wm (.i p1) rfl <| Wz (.b (decide (p1 ≤ 3))) (Obn rfl (fun _ => hb_leq (k := .i64))) <| Wz (.b (decide (p1 ≤ 3))) (OpT rfl) <| Wm (.b (decide (p1 ≤ 3))) rfl <| Nn <| Rt ?_
   obtain rfl := Option.some.inj hm
   exact ret_i []
  ·
   replace hm := cF hq12_0 hm
   refine Wz (.b false) (Oq hq12_0 rfl) <| Wn <| Wn <| Wz (.b false) (OpF rfl) <| Wm (.b false) rfl <| Nn <| Rt ?_
   obtain rfl := Option.some.inj hm
   exact ret_i []
 ·
  replace hm := cF hq7_0 hm
  refine Wz (.b false) (Oq hq7_0 rfl) <| Wn <| Wn <| Wn <| Wz (.b false) (OpF rfl) <| Wm (.b false) rfl <| Wn <| Wn <| Wz (.b false) (OpF rfl) <| Wm (.b false) rfl <| Nn <| Rt ?_
  obtain rfl := Option.some.inj hm
  exact ret_i []
end Go.Proofs.Ytcpageegmpjkiaa.K
