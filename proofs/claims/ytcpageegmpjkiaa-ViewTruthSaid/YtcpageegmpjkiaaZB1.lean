/- what telltalelaw29.ViewTruth needs (1) -/
import Derived.Test.YtcpageegmpjkiaaZB0
import Derived.Test.YtcpageegmpjkiaaZAn
import Derived.ProofKit
import Derived.OpenShut
import Derived.ShutString
import Derived.ChangeOld
import Derived.Carry
import Derived.Test.YtcpageegmpjkiaaZLM
set_option linter.unusedVariables false
set_option linter.unusedSimpArgs false
namespace Go.Proofs.Ytcpageegmpjkiaa.K
open Go.RowKit Go.Lib
set_option maxRecDepth 20000
set_option maxHeartbeats 4000000

theorem ok_view_Net_Idle (p0 : GNet) (r : Bool) (h : m_view_Net_Idle p0 = some r) : GCall Try.prog 21 [(.agg [(.i p0.Cap), (.l (encL enc_GChange) p0.Views), (.l (encL enc_GChange) p0.Pending), (.d (.mp (Option.isNone p0.Links) (mks kv_22 (ml p0.Links)) (mds (slD (encL enc_GChange)) (ml p0.Links))))])] [] (.b r) [] := by
 refine GCall.of_body (n := 15) (rs := [(.tmp 2)]) Try.func21 rfl rfl rfl <| Ato ⟨.agg [(.i p0.Cap), (.l (encL enc_GChange) p0.Views), (.l (encL enc_GChange) p0.Pending), (.d (.mp (Option.isNone p0.Links) (mks kv_22 (ml p0.Links)) (mds (slD (encL enc_GChange)) (ml p0.Links))))]::tu 14 [], [], 0⟩ ?_
 have hm := h
 unfold m_view_Net_Idle at hm
 refine Sx <| Wy (.loc 0 0) [(0, (.box [(.i p0.Cap), (.l (encL enc_GChange) p0.Views), (.l (encL enc_GChange) p0.Pending), (.d (.mp (Option.isNone p0.Links) (mks kv_22 (ml p0.Links)) (mds (slD (encL enc_GChange)) (ml p0.Links))))]))] (Obx rfl) <| Wm (.b false) rfl <| Nk 2 1 ⟨tp 1 (.loc 0 0::tp 13 []), [(.box [(.i p0.Cap), (.l (encL enc_GChange) p0.Views), (.l (encL enc_GChange) p0.Pending), (.d (.mp (Option.isNone p0.Links) (mks kv_22 (ml p0.Links)) (mds (slD (encL enc_GChange)) (ml p0.Links))))])], 0⟩ <| Sx <| Wz (.loc 0 2) (Ofa rfl) <| Wz (.l (encL enc_GChange) p0.Pending) (Old rfl) ?_
 obtain ⟨r6_0, hr6_0, hm⟩ := bnd hm
 refine Wz (.b r6_0) (Ocf [] [] [] 0 (ok_slices_ContainsFunc_tally_Change_tally_Change__view_Net_Idle_1 p0.Pending r6_0 hr6_0) (fun a w => Try.call46 a w) rfl trivial) <| Wm (.b r6_0) rfl <| Nk 10 1 ⟨tp 1 (.loc 0 0::tp 1 (.b r6_0::tp 11 [])), [(.box [(.i p0.Cap), (.l (encL enc_GChange) p0.Views), (.l (encL enc_GChange) p0.Pending), (.d (.mp (Option.isNone p0.Links) (mks kv_22 (ml p0.Links)) (mds (slD (encL enc_GChange)) (ml p0.Links))))])], 0⟩ <| Sx <| Wm (.b r6_0) rfl <| Wz (.b (!r6_0)) (Ocs (by kernel_rfl) (op_un rfl (a1 := .bool r6_0) (by kernel_rfl) (fun _ => hu_not))) ?_
 rcases tf_ (!r6_0) with hq9_1 | hq9_1
 ·
  replace hm := cT hq9_1 hm
  refine Wz (.b true) (Oq hq9_1 rfl) <| Wz (.loc 0 3) (Ofa rfl) <| Wz (.d (.mp (Option.isNone p0.Links) (mks kv_22 (ml p0.Links)) (mds (slD (encL enc_GChange)) (ml p0.Links)))) (Old rfl) <| Wz (.i ((List.length (ml p0.Links) : Nat) : Int)) (Mml (kv := kv_22) (ev := (slD (encL enc_GChange))) (ml p0.Links) rfl) <| Wz (.b (decide (((List.length (ml p0.Links) : Nat) : Int) = 0))) (Obn rfl (fun _ => hb_eql (k := .i64))) <| Wz (.b (decide (((List.length (ml p0.Links) : Nat) : Int) = 0))) (OpT rfl) <| Wm (.b (decide (((List.length (ml p0.Links) : Nat) : Int) = 0))) rfl <| Nn <| Rt ?_
  obtain rfl := Option.some.inj hm
  exact ret_i []
 ·
  replace hm := cF hq9_1 hm
  refine Wz (.b false) (Oq hq9_1 rfl) <| Wn <| Wn <| Wn <| Wn <| Wz (.b false) (OpF rfl) <| Wm (.b false) rfl <| Nn <| Rt ?_
  obtain rfl := Option.some.inj hm
  exact ret_i []

theorem ok_slices_Equal_Change (p0 : (List GChange)) (p1 : (List GChange)) (r : Bool) (h : m_slices_Equal_Change p0 p1 = some r) : GCall Try.prog 57 [(.l enc_GChange p0), (.l enc_GChange p1)] [] (.b r) [] := by
 refine GCall.of_body (n := 26) (rs := [(.tmp 4)]) Try.func57 rfl rfl rfl <| Ato ⟨.l enc_GChange p0::.l enc_GChange p1::tu 24 [], [], 0⟩ ?_
 have hm := h
 unfold m_slices_Equal_Change at hm
 refine Sx <| Wm (.b false) rfl <| Nk 3 0 ⟨.l enc_GChange p0::.l enc_GChange p1::tp 24 [], [], 0⟩ <| Sq <| Sx <| Wm (.l enc_GChange p0) rfl <| Wz (.i ((List.length p0 : Nat) : Int)) (Oln rfl) <| Wm (.l enc_GChange p1) rfl <| Wz (.i ((List.length p1 : Nat) : Int)) (Oln rfl) <| Wz (.b (decide (((List.length p0 : Nat) : Int) ≠ ((List.length p1 : Nat) : Int)))) (Obn rfl (fun _ => hb_neq (k := .i64))) <| Nk 1027 0 ⟨.l enc_GChange p0::.l enc_GChange p1::tp 8 (.b (decide (((List.length p0 : Nat) : Int) ≠ ((List.length p1 : Nat) : Int)))::tp 15 []), [], 0⟩ ?_
 rcases tf_ (decide (((List.length p0 : Nat) : Int) ≠ ((List.length p1 : Nat) : Int))) with hc10_4 | hc10_4
 ·
  replace hm := cT hc10_4 hm
  refine AiT hc10_4 <| Sx <| Wm (.b false) rfl <| Nn <| Rt <| Tr ?_
  obtain rfl := Option.some.inj hm
  exact ret_i []
 ·
  replace hm := cF hc10_4 hm
  refine AiF hc10_4 <| Sk <| Tk 3 0 ⟨.l enc_GChange p0::.l enc_GChange p1::tp 24 [], [], 0⟩ <| Sq <| Sx <| Wm (.l enc_GChange p0) rfl <| Wz (.i ((List.length p0 : Nat) : Int)) (Oln rfl) <| Wm (.i 0) rfl <| Nk 12291 0 ⟨.l enc_GChange p0::.l enc_GChange p1::tp 10 (.i ((List.length p0 : Nat) : Int)::.i 0::tp 12 []), [], 0⟩ <| Bk ?_
  refine AWP.loopI (α := Nat × Int)
    (fun (fu_2, y13_2) => (⟨.l enc_GChange p0::.l enc_GChange p1::tp 10 (.i ((List.length p0 : Nat) : Int)::.i y13_2::tp 12 []), [], 0⟩ : St))
    (fun (fu_2, y13_2) => m_slices_Equal_Change_l2 p0 p1 fu_2 y13_2 = some r)
    (fun (fu_2, y13_2) => fu_2) (1152921504606846976, 0)
    (Weak.toK 12291 0 0 []) hm ?_
  rintro ⟨fu_2, y13_2⟩ n_2 hm ih_2
  try dsimp only at hm ih_2 ⊢
  cases fu_2 with
  | zero => exact absurd hm (by unfold m_slices_Equal_Change_l2; simp)
  | succ fu_2 =>
   unfold m_slices_Equal_Change_l2 at hm
   refine Sx <| Wz (.b (decide (y13_2 < ((List.length p0 : Nat) : Int)))) (Obn rfl (fun _ => hb_lss (k := .i64))) <| Nk 28675 0 ⟨.l enc_GChange p0::.l enc_GChange p1::tp 10 (.i ((List.length p0 : Nat) : Int)::.i y13_2::.b (decide (y13_2 < ((List.length p0 : Nat) : Int)))::tp 11 []), [], 0⟩ <| Sq ?_
   rcases tf_ (decide (y13_2 < ((List.length p0 : Nat) : Int))) with hc14_5 | hc14_5
   ·
    replace hm := cT hc14_5 hm
    refine AiT hc14_5 <| Sk <| Tk 12291 0 ⟨.l enc_GChange p0::.l enc_GChange p1::tp 10 (.i ((List.length p0 : Nat) : Int)::.i y13_2::tp 12 []), [], 0⟩ <| Sq <| Bk <| Sx <| Wm (.i y13_2) rfl <| Wm (.i y13_2) rfl <| Nk 12323 0 ⟨.l enc_GChange p0::.l enc_GChange p1::tp 3 (.i y13_2::tp 6 (.i ((List.length p0 : Nat) : Int)::.i y13_2::tp 12 [])), [], 0⟩ <| Sq <| Adr <| Wm (.l enc_GChange p0) rfl <| Wm (.i y13_2) rfl ?_
    obtain ⟨x18_3, hx18_3, hm⟩ := bnd hm
    obtain ⟨hx18_3i, hx18_3g⟩ := geti_some hx18_3
    refine Wz (.d (.ref (List.drop ((Int.toNat y13_2) * 3) (flatD enc_GChange p0)))) (Oia rfl enc_GChange_len hx18_3i hx18_3g) <| Wz (.agg [(.i x18_3.Loc), (.i x18_3.Time), (.i x18_3.N)]) (Lf rfl enc_GChange_len hx18_3g) <| Wm (.l enc_GChange p1) rfl <| Wm (.i y13_2) rfl ?_
    obtain ⟨x22_3, hx22_3, hm⟩ := bnd hm
    obtain ⟨hx22_3i, hx22_3g⟩ := geti_some hx22_3
    refine Wz (.d (.ref (List.drop ((Int.toNat y13_2) * 3) (flatD enc_GChange p1)))) (Oia rfl enc_GChange_len hx22_3i hx22_3g) <| Wz (.agg [(.i x22_3.Loc), (.i x22_3.Time), (.i x22_3.N)]) (Lf rfl enc_GChange_len hx22_3g) ?_
    obtain ⟨v24_3, hv24_3, hm⟩ := bnd hm; replace hv24_3 := Option.some.inj hv24_3
    refine Wz (.b v24_3) (Ocs (Eq.trans (by kernel_rfl) (congrArg (fun z => A.d (.lit (.bool z))) hv24_3)) (op_neq_struct rfl (la := [(.i x18_3.Loc), (.i x18_3.Time), (.i x18_3.N)]) (lb := [(.i x22_3.Loc), (.i x22_3.Time), (.i x22_3.N)]) (us := [.int .i64 x18_3.Loc, .int .i64 x18_3.Time, .int .i64 x18_3.N]) (vs := [.int .i64 x22_3.Loc, .int .i64 x22_3.Time, .int .i64 x22_3.N]) (r := (decide (x18_3.Loc = x22_3.Loc) && (decide (x18_3.Time = x22_3.Time) && (decide (x18_3.N = x22_3.N) && true)))) (by kernel_rfl) (by kernel_rfl) (by kernel_rfl) (by kernel_rfl) (by kernel_rfl))) <| Wdr <| Tk 16789507 0 ⟨.l enc_GChange p0::.l enc_GChange p1::tp 10 (.i ((List.length p0 : Nat) : Int)::.i y13_2::tp 10 (.b v24_3::tp 1 [])), [], 0⟩ ?_
    rcases tf_ v24_3 with hc24_6 | hc24_6
    ·
     replace hm := cT hc24_6 hm
     refine AiT hc24_6 <| Sx <| Wm (.b false) rfl <| Nn <| Rt <| Ir <| Tr <| RoundK.ret <| Ir <| Tr ?_
     obtain rfl := Option.some.inj hm
     exact ret_i []
    ·
     replace hm := cF hc24_6 hm
     refine AiF hc24_6 <| Sk <| Ino <| Tk 12291 0 ⟨.l enc_GChange p0::.l enc_GChange p1::tp 10 (.i ((List.length p0 : Nat) : Int)::.i y13_2::tp 12 []), [], 0⟩ <| Tx <| Wz (.i (W6 (y13_2 + 1))) (Obn rfl (fun _ => hb_add (k := .i64))) <| Wm (.i (W6 (y13_2 + 1))) rfl <| Wn0 <| RoundK.normal ?_
     exact Rounds.weak (Weak.toK 12291 0 0 []) (ih_2 (fu_2, (W6 (y13_2 + 1))) hm (Nat.lt_succ_self _))
   ·
    replace hm := cF hc14_5 hm
    refine AiF hc14_5 <| AWP.exit <| Then.exit <| RoundK.exit <| InBlock.same <| Tk 0 0 ⟨tp 26 [], [], 0⟩ <| Sx <| Wm (.b true) rfl <| Nn <| Rt ?_
    obtain rfl := Option.some.inj hm
    exact ret_i []

theorem ok_tally_Same (p0 : (List GChange)) (p1 : (List GChange)) (r : Bool) (h : m_tally_Same p0 p1 = some r) : GCall Try.prog 32 [(.l enc_GChange p0), (.l enc_GChange p1)] [] (.b r) [] := by
 refine GCall.of_body (n := 8) (rs := [(.tmp 4)]) Try.func32 rfl rfl rfl <| Ato ⟨.l enc_GChange p0::.l enc_GChange p1::tu 6 [], [], 0⟩ ?_
 have hm := h
 unfold m_tally_Same at hm
 refine Sx <| Wm (.b false) rfl <| Nk 3 0 ⟨.l enc_GChange p0::.l enc_GChange p1::tp 6 [], [], 0⟩ <| Sx <| Wm (.l enc_GChange p0) rfl <| Wm (.l enc_GChange p1) rfl ?_
 obtain ⟨r7_0, hr7_0, hm⟩ := bnd hm
 refine Wz (.b r7_0) (Ocf [] [] [] 0 (ok_slices_Equal_Change p0 p1 r7_0 hr7_0) (fun a w => Try.call57 a w) rfl trivial) <| Wm (.b r7_0) rfl <| Nn <| Rt ?_
 obtain rfl := Option.some.inj hm
 exact ret_i []

theorem ok_slices_EqualFunc_tally_Change_tally_Change_tally_Change_tally_Change__tally_Same (p0 : (List (List GChange))) (p1 : (List (List GChange))) (r : Bool) (h : m_slices_EqualFunc_tally_Change_tally_Change_tally_Change_tally_Change__tally_Same p0 p1 = some r) : GCall Try.prog 73 [(.l (encL enc_GChange) p0), (.l (encL enc_GChange) p1), (.clo (.func 32) [] [])] [] (.b r) [] := by
 refine GCall.of_body (n := 32) (rs := [(.tmp 6)]) Try.func73 rfl rfl rfl <| Ato ⟨.l (encL enc_GChange) p0::.l (encL enc_GChange) p1::.clo (.func 32) [] []::tu 29 [], [], 0⟩ ?_
 have hm := h
 unfold m_slices_EqualFunc_tally_Change_tally_Change_tally_Change_tally_Change__tally_Same at hm
 refine Sx <| Wm (.b false) rfl <| Nk 7 0 ⟨.l (encL enc_GChange) p0::.l (encL enc_GChange) p1::.clo (.func 32) [] []::tp 29 [], [], 0⟩ <| Sq <| Sx <| Wm (.l (encL enc_GChange) p0) rfl <| Wz (.i ((List.length p0 : Nat) : Int)) (Oln rfl) <| Wm (.l (encL enc_GChange) p1) rfl <| Wz (.i ((List.length p1 : Nat) : Int)) (Oln rfl) <| Wz (.b (decide (((List.length p0 : Nat) : Int) ≠ ((List.length p1 : Nat) : Int)))) (Obn rfl (fun _ => hb_neq (k := .i64))) <| Nk 16391 0 ⟨.l (encL enc_GChange) p0::.l (encL enc_GChange) p1::.clo (.func 32) [] []::tp 11 (.b (decide (((List.length p0 : Nat) : Int) ≠ ((List.length p1 : Nat) : Int)))::tp 17 []), [], 0⟩ ?_
 rcases tf_ (decide (((List.length p0 : Nat) : Int) ≠ ((List.length p1 : Nat) : Int))) with hc14_6 | hc14_6
 ·
  replace hm := cT hc14_6 hm
  refine AiT hc14_6 <| Sx <| Wm (.b false) rfl <| Nn <| Rt <| Tr ?_
  obtain rfl := Option.some.inj hm
  exact ret_i []
 ·
  replace hm := cF hc14_6 hm
  refine AiF hc14_6 <| Sk <| Tk 7 0 ⟨.l (encL enc_GChange) p0::.l (encL enc_GChange) p1::.clo (.func 32) [] []::tp 29 [], [], 0⟩ <| Sq <| Sx <| Wm (.l (encL enc_GChange) p0) rfl <| Wz (.i ((List.length p0 : Nat) : Int)) (Oln rfl) <| Wm (.i 0) rfl <| Nk 229382 0 ⟨tp 1 (.l (encL enc_GChange) p1::.clo (.func 32) [] []::tp 12 (.l (encL enc_GChange) p0::.i ((List.length p0 : Nat) : Int)::.i 0::tp 14 [])), [], 0⟩ <| Bk ?_
  refine AWP.loopI (α := Nat × Int)
    (fun (fu_2, y17_2) => (⟨tp 1 (.l (encL enc_GChange) p1::.clo (.func 32) [] []::tp 12 (.l (encL enc_GChange) p0::.i ((List.length p0 : Nat) : Int)::.i y17_2::tp 14 [])), [], 0⟩ : St))
    (fun (fu_2, y17_2) => m_slices_EqualFunc_tally_Change_tally_Change_tally_Change_tally_Change__tally_Same_l2 p0 p1 fu_2 y17_2 = some r)
    (fun (fu_2, y17_2) => fu_2) (1152921504606846976, 0)
    (Weak.toK 229382 0 0 []) hm ?_
  rintro ⟨fu_2, y17_2⟩ n_2 hm ih_2
  try dsimp only at hm ih_2 ⊢
  cases fu_2 with
  | zero => exact absurd hm (by unfold m_slices_EqualFunc_tally_Change_tally_Change_tally_Change_tally_Change__tally_Same_l2; simp)
  | succ fu_2 =>
   unfold m_slices_EqualFunc_tally_Change_tally_Change_tally_Change_tally_Change__tally_Same_l2 at hm
   refine Sx <| Wz (.b (decide (y17_2 < ((List.length p0 : Nat) : Int)))) (Obn rfl (fun _ => hb_lss (k := .i64))) <| Nk 491526 0 ⟨tp 1 (.l (encL enc_GChange) p1::.clo (.func 32) [] []::tp 12 (.l (encL enc_GChange) p0::.i ((List.length p0 : Nat) : Int)::.i y17_2::.b (decide (y17_2 < ((List.length p0 : Nat) : Int)))::tp 13 [])), [], 0⟩ <| Sq ?_
   rcases tf_ (decide (y17_2 < ((List.length p0 : Nat) : Int))) with hc18_7 | hc18_7
   ·
    replace hm := cT hc18_7 hm
    refine AiT hc18_7 <| Sk <| Tk 229382 0 ⟨tp 1 (.l (encL enc_GChange) p1::.clo (.func 32) [] []::tp 12 (.l (encL enc_GChange) p0::.i ((List.length p0 : Nat) : Int)::.i y17_2::tp 14 [])), [], 0⟩ <| Sq <| Bk <| Sx <| Wm (.i y17_2) rfl ?_
    obtain ⟨x20_3, hx20_3, hm⟩ := bnd hm
    obtain ⟨hx20_3i, hx20_3g⟩ := geti_some hx20_3
    refine Wz (.d (.ref (List.drop ((Int.toNat y17_2) * 1) (flatD (encL enc_GChange) p0)))) (Oia rfl (encL_len (enc := enc_GChange)) hx20_3i hx20_3g) <| Wz (.l enc_GChange x20_3) (Lf1 rfl (encL_len (enc := enc_GChange)) hx20_3g) <| Wm (.i y17_2) rfl <| Wm (.l enc_GChange x20_3) rfl <| Nk 229766 0 ⟨tp 1 (.l (encL enc_GChange) p1::.clo (.func 32) [] []::tp 4 (.i y17_2::.l enc_GChange x20_3::tp 6 (.l (encL enc_GChange) p0::.i ((List.length p0 : Nat) : Int)::.i y17_2::tp 14 []))), [], 0⟩ <| Sx <| Wm (.l (encL enc_GChange) p1) rfl <| Wm (.i y17_2) rfl ?_
    obtain ⟨x24_4, hx24_4, hm⟩ := bnd hm
    obtain ⟨hx24_4i, hx24_4g⟩ := geti_some hx24_4
    refine Wz (.d (.ref (List.drop ((Int.toNat y17_2) * 1) (flatD (encL enc_GChange) p1)))) (Oia rfl (encL_len (enc := enc_GChange)) hx24_4i hx24_4g) <| Wz (.l enc_GChange x24_4) (Lf1 rfl (encL_len (enc := enc_GChange)) hx24_4g) <| Wm (.l enc_GChange x24_4) rfl <| Nk 230150 0 ⟨tp 1 (.l (encL enc_GChange) p1::.clo (.func 32) [] []::tp 5 (.l enc_GChange x20_3::.l enc_GChange x24_4::tp 5 (.l (encL enc_GChange) p0::.i ((List.length p0 : Nat) : Int)::.i y17_2::tp 14 []))), [], 0⟩ <| Sx <| Wm (.clo (.func 32) [] []) rfl <| Wm (.l enc_GChange x20_3) rfl <| Wm (.l enc_GChange x24_4) rfl ?_
    obtain ⟨r29_5, hr29_5, hm⟩ := bnd hm
    refine Wz (.b r29_5) (Ocf [] [] [] 0 (ok_tally_Same x20_3 x24_4 r29_5 hr29_5) (fun a w => Try.call32 a w) rfl trivial) <| Wz (.b (!r29_5)) (Ocs (by kernel_rfl) (op_un rfl (a1 := .bool r29_5) (by kernel_rfl) (fun _ => hu_not))) <| Nk 1073971206 0 ⟨tp 1 (.l (encL enc_GChange) p1::.clo (.func 32) [] []::tp 12 (.l (encL enc_GChange) p0::.i ((List.length p0 : Nat) : Int)::.i y17_2::tp 12 (.b (!r29_5)::tp 1 []))), [], 0⟩ ?_
    rcases tf_ (!r29_5) with hc30_8 | hc30_8
    ·
     replace hm := cT hc30_8 hm
     refine AiT hc30_8 <| Sx <| Wm (.b false) rfl <| Nn <| Rt <| Ir <| Tr <| RoundK.ret <| Ir <| Tr ?_
     obtain rfl := Option.some.inj hm
     exact ret_i []
    ·
     replace hm := cF hc30_8 hm
     refine AiF hc30_8 <| Sk <| Ino <| Tk 229382 0 ⟨tp 1 (.l (encL enc_GChange) p1::.clo (.func 32) [] []::tp 12 (.l (encL enc_GChange) p0::.i ((List.length p0 : Nat) : Int)::.i y17_2::tp 14 [])), [], 0⟩ <| Tx <| Wz (.i (W6 (y17_2 + 1))) (Obn rfl (fun _ => hb_add (k := .i64))) <| Wm (.i (W6 (y17_2 + 1))) rfl <| Wn0 <| RoundK.normal ?_
     exact Rounds.weak (Weak.toK 229382 0 0 []) (ih_2 (fu_2, (W6 (y17_2 + 1))) hm (Nat.lt_succ_self _))
   ·
    replace hm := cF hc18_7 hm
    refine AiF hc18_7 <| AWP.exit <| Then.exit <| RoundK.exit <| InBlock.same <| Tk 0 0 ⟨tp 32 [], [], 0⟩ <| Sx <| Wm (.b true) rfl <| Nn <| Rt ?_
    obtain rfl := Option.some.inj hm
    exact ret_i []

theorem ok_view_sameLists (p0 : (List (List GChange))) (p1 : (List (List GChange))) (r : Bool) (h : m_view_sameLists p0 p1 = some r) : GCall Try.prog 51 [(.l (encL enc_GChange) p0), (.l (encL enc_GChange) p1)] [] (.b r) [] := by
 refine GCall.of_body (n := 8) (rs := [(.tmp 4)]) Try.func51 rfl rfl rfl <| Ato ⟨.l (encL enc_GChange) p0::.l (encL enc_GChange) p1::tu 6 [], [], 0⟩ ?_
 have hm := h
 unfold m_view_sameLists at hm
 refine Sx <| Wm (.b false) rfl <| Nk 3 0 ⟨.l (encL enc_GChange) p0::.l (encL enc_GChange) p1::tp 6 [], [], 0⟩ <| Sx <| Wm (.l (encL enc_GChange) p0) rfl <| Wm (.l (encL enc_GChange) p1) rfl ?_
 obtain ⟨r7_0, hr7_0, hm⟩ := bnd hm
 refine Wz (.b r7_0) (Ocf [] [] [] 0 (ok_slices_EqualFunc_tally_Change_tally_Change_tally_Change_tally_Change__tally_Same p0 p1 r7_0 hr7_0) (fun a w => Try.call73 a w) rfl trivial) <| Wm (.b r7_0) rfl <| Nn <| Rt ?_
 obtain rfl := Option.some.inj hm
 exact ret_i []

theorem ok_maps_EqualFunc_map_2_int_tally_Change_map_2_int_tally_Change_2_int_tally_Change_tally_Change__view_sameLists (p0 : (Option (List (GArr2_Int × (List (List GChange)))))) (p1 : (Option (List (GArr2_Int × (List (List GChange)))))) (r : Bool) (h : m_maps_EqualFunc_map_2_int_tally_Change_map_2_int_tally_Change_2_int_tally_Change_tally_Change__view_sameLists p0 p1 = some r) : GCall Try.prog 52 [(.d (.mp (Option.isNone p0) (mks kv_22 (ml p0)) (mds (slD (encL enc_GChange)) (ml p0)))), (.d (.mp (Option.isNone p1) (mks kv_22 (ml p1)) (mds (slD (encL enc_GChange)) (ml p1)))), (.clo (.func 51) [] [])] [] (.b r) [] := by
  unfold m_maps_EqualFunc_map_2_int_tally_Change_map_2_int_tally_Change_2_int_tally_Change_tally_Change__view_sameLists at h
  exact call_meq keyOK_22 (fun k => ⟨_, _, rfl⟩) m_view_sameLists (fun x y r h => ok_view_sameLists x y r h) ([] : List (List GChange)) slD_zero _ _ _ _ r h

theorem ok_view_Same (p0 : GNet) (p1 : GNet) (r : Bool) (h : m_view_Same p0 p1 = some r) : GCall Try.prog 29 [(.agg [(.i p0.Cap), (.l (encL enc_GChange) p0.Views), (.l (encL enc_GChange) p0.Pending), (.d (.mp (Option.isNone p0.Links) (mks kv_22 (ml p0.Links)) (mds (slD (encL enc_GChange)) (ml p0.Links))))]), (.agg [(.i p1.Cap), (.l (encL enc_GChange) p1.Views), (.l (encL enc_GChange) p1.Pending), (.d (.mp (Option.isNone p1.Links) (mks kv_22 (ml p1.Links)) (mds (slD (encL enc_GChange)) (ml p1.Links))))])] [] (.b r) [] := by
 refine GCall.of_body (n := 31) (rs := [(.tmp 4)]) Try.func29 rfl rfl rfl <| Ato ⟨.agg [(.i p0.Cap), (.l (encL enc_GChange) p0.Views), (.l (encL enc_GChange) p0.Pending), (.d (.mp (Option.isNone p0.Links) (mks kv_22 (ml p0.Links)) (mds (slD (encL enc_GChange)) (ml p0.Links))))]::.agg [(.i p1.Cap), (.l (encL enc_GChange) p1.Views), (.l (encL enc_GChange) p1.Pending), (.d (.mp (Option.isNone p1.Links) (mks kv_22 (ml p1.Links)) (mds (slD (encL enc_GChange)) (ml p1.Links))))]::tu 29 [], [], 0⟩ ?_
 have hm := h
 unfold m_view_Same at hm
 refine Sx <| Wy (.loc 0 0) [(0, (.box [(.i p0.Cap), (.l (encL enc_GChange) p0.Views), (.l (encL enc_GChange) p0.Pending), (.d (.mp (Option.isNone p0.Links) (mks kv_22 (ml p0.Links)) (mds (slD (encL enc_GChange)) (ml p0.Links))))]))] (Obx rfl) <| Wy (.loc 1 0) [(1, (.box [(.i p1.Cap), (.l (encL enc_GChange) p1.Views), (.l (encL enc_GChange) p1.Pending), (.d (.mp (Option.isNone p1.Links) (mks kv_22 (ml p1.Links)) (mds (slD (encL enc_GChange)) (ml p1.Links))))]))] (Obx rfl) <| Wm (.b false) rfl <| Nk 12 3 ⟨tp 2 (.loc 0 0::.loc 1 0::tp 27 []), [(.box [(.i p0.Cap), (.l (encL enc_GChange) p0.Views), (.l (encL enc_GChange) p0.Pending), (.d (.mp (Option.isNone p0.Links) (mks kv_22 (ml p0.Links)) (mds (slD (encL enc_GChange)) (ml p0.Links))))]), (.box [(.i p1.Cap), (.l (encL enc_GChange) p1.Views), (.l (encL enc_GChange) p1.Pending), (.d (.mp (Option.isNone p1.Links) (mks kv_22 (ml p1.Links)) (mds (slD (encL enc_GChange)) (ml p1.Links))))])], 0⟩ <| Sx <| Wz (.loc 0 0) (Ofa rfl) <| Wz (.i p0.Cap) (Old rfl) <| Wz (.loc 1 0) (Ofa rfl) <| Wz (.i p1.Cap) (Old rfl) <| Wz (.b (decide (p0.Cap = p1.Cap))) (Obn rfl (fun _ => hb_eql (k := .i64))) ?_
 rcases tf_ (decide (p0.Cap = p1.Cap)) with hq10_0 | hq10_0
 ·
  replace hm := cT hq10_0 hm
  refine Wz (.b true) (Oq hq10_0 rfl) <| Wz (.loc 0 1) (Ofa rfl) <| Wz (.l (encL enc_GChange) p0.Views) (Old rfl) <| Wz (.loc 1 1) (Ofa rfl) <| Wz (.l (encL enc_GChange) p1.Views) (Old rfl) ?_
  obtain ⟨r15_0, hr15_0, hm⟩ := bnd hm
  refine Wz (.b r15_0) (Ocf [] [] [] 0 (ok_view_sameLists p0.Views p1.Views r15_0 hr15_0) (fun a w => Try.call51 a w) rfl trivial) <| Wz (.b r15_0) (OpT rfl) ?_
  rcases tf_ r15_0 with hq17_0 | hq17_0
  ·
   replace hm := cT hq17_0 hm
   refine Wz (.b true) (Oq hq17_0 rfl) <| Wz (.loc 0 2) (Ofa rfl) <| Wz (.l (encL enc_GChange) p0.Pending) (Old rfl) <| Wz (.loc 1 2) (Ofa rfl) <| Wz (.l (encL enc_GChange) p1.Pending) (Old rfl) ?_
   obtain ⟨r22_0, hr22_0, hm⟩ := bnd hm
   refine Wz (.b r22_0) (Ocf [] [] [] 0 (ok_view_sameLists p0.Pending p1.Pending r22_0 hr22_0) (fun a w => Try.call51 a w) rfl trivial) <| Wz (.b r22_0) (OpT rfl) ?_
   rcases tf_ r22_0 with hq24_0 | hq24_0
   ·
    replace hm := cT hq24_0 hm
    refine Wz (.b true) (Oq hq24_0 rfl) <| Wz (.loc 0 3) (Ofa rfl) <| Wz (.d (.mp (Option.isNone p0.Links) (mks kv_22 (ml p0.Links)) (mds (slD (encL enc_GChange)) (ml p0.Links)))) (Old rfl) <| Wz (.loc 1 3) (Ofa rfl) <| Wz (.d (.mp (Option.isNone p1.Links) (mks kv_22 (ml p1.Links)) (mds (slD (encL enc_GChange)) (ml p1.Links)))) (Old rfl) ?_
    obtain ⟨r29_0, hr29_0, hm⟩ := bnd hm
    refine Wz (.b r29_0) (Ocf [] [] [] 0 (ok_maps_EqualFunc_map_2_int_tally_Change_map_2_int_tally_Change_2_int_tally_Change_tally_Change__view_sameLists p0.Links p1.Links r29_0 hr29_0) (fun a w => Try.call52 a w) rfl trivial) <| Wz (.b r29_0) (OpT rfl) <| Wm (.b r29_0) rfl <| Nn <| Rt ?_
    obtain rfl := Option.some.inj hm
    exact ret_i []
   ·
    replace hm := cF hq24_0 hm
    refine Wz (.b false) (Oq hq24_0 rfl) <| Wn <| Wn <| Wn <| Wn <| Wn <| Wz (.b false) (OpF rfl) <| Wm (.b false) rfl <| Nn <| Rt ?_
    obtain rfl := Option.some.inj hm
    exact ret_i []
  ·
   replace hm := cF hq17_0 hm
   refine Wz (.b false) (Oq hq17_0 rfl) <| Wn <| Wn <| Wn <| Wn <| Wn <| Wz (.b false) (OpF rfl) <| Wm (.b false) rfl <| Wn <| Wn <| Wn <| Wn <| Wn <| Wz (.b false) (OpF rfl) ?_
   refine Wm (.b false) rfl <| Nn <| Rt ?_
   obtain rfl := Option.some.inj hm
   exact ret_i []
 ·
  replace hm := cF hq10_0 hm
  refine Wz (.b false) (Oq hq10_0 rfl) <| Wn <| Wn <| Wn <| Wn <| Wn <| Wz (.b false) (OpF rfl) <| Wm (.b false) rfl <| Wn <| Wn <| Wn <| Wn <| Wn <| Wz (.b false) (OpF rfl) ?_
  refine Wm (.b false) rfl <| Wn <| Wn <| Wn <| Wn <| Wn <| Wz (.b false) (OpF rfl) <| Wm (.b false) rfl <| Nn <| Rt ?_
  obtain rfl := Option.some.inj hm
  exact ret_i []

theorem ok_w29_awake (r : Bool) (h : m_w29_awake = some r) : GCall Try.prog 7 [] [] (.b r) [] := by
 refine GCall.of_body (n := 169) (rs := [(.tmp 0)]) Try.func7 rfl rfl rfl <| Ato ⟨tu 169 [], [], 0⟩ ?_
 have hm := h
 unfold m_w29_awake at hm
 refine Sx <| Wm (.b false) rfl <| Nk 0 0 ⟨tp 169 [], [], 0⟩ <| Sx <| Wz (.agg [(.i 0), (.i 3), (.i 2)]) (Obd rfl) <| Wy (.own 0) [(0, (Ar 84 3 enc_GChange ([(GChange.mk 0 3 2)] : List GChange)))] (Obs rfl) ?_
 obtain ⟨r24_0, hr24_0, hm⟩ := bnd hm
 refine Wy (.tup [(.agg [(.i r24_0.1.Cap), (.own 1), (.own 2), (.d (.mp (Option.isNone r24_0.1.Links) (mks kv_22 (ml r24_0.1.Links)) (mds (slD (encL enc_GChange)) (ml r24_0.1.Links))))]), (.i r24_0.2)]) [(1, (.arr 34 1 (List.length r24_0.1.Views) (flatD (encL enc_GChange) r24_0.1.Views))), (2, (.arr 34 1 (List.length r24_0.1.Pending) (flatD (encL enc_GChange) r24_0.1.Pending))), (0, (.fro 84 3 (List.length ([(GChange.mk 0 3 2)] : List GChange)) (flatD enc_GChange ([(GChange.mk 0 3 2)] : List GChange))))] (Ocf [] [1, 2] [0] 0 (ok_view_New 2 1 ([(GChange.mk 0 3 2)] : List GChange) r24_0 hr24_0) (fun a w => Try.call8 a w) rfl trivial) <| Wm (.tup [(.agg [(.i r24_0.1.Cap), (.own 1), (.own 2), (.d (.mp (Option.isNone r24_0.1.Links) (mks kv_22 (ml r24_0.1.Links)) (mds (slD (encL enc_GChange)) (ml r24_0.1.Links))))]), (.i r24_0.2)]) rfl <| Wz (.agg [(.i r24_0.1.Cap), (.own 1), (.own 2), (.d (.mp (Option.isNone r24_0.1.Links) (mks kv_22 (ml r24_0.1.Links)) (mds (slD (encL enc_GChange)) (ml r24_0.1.Links))))]) (Oex rfl) <| Wz (.i r24_0.2) (Oex rfl) <| Wy (.loc 3 0) [(3, (.box [(.i 0), (.d .nil), (.d .nil), (.d (.mp (Option.isNone (none : Option (List (GArr2_Int × (List (List GChange)))))) (mks kv_22 (ml (none : Option (List (GArr2_Int × (List (List GChange))))))) (mds (slD (encL enc_GChange)) (ml (none : Option (List (GArr2_Int × (List (List GChange)))))))))]))] (Oal rfl) <| Wy (.tup []) [(3, (.box [(.i r24_0.1.Cap), (.own 1), (.own 2), (.d (.mp (Option.isNone r24_0.1.Links) (mks kv_22 (ml r24_0.1.Links)) (mds (slD (encL enc_GChange)) (ml r24_0.1.Links))))]))] (Ost rfl) <| Wm (.i r24_0.2) rfl <| Nk 6 14 ⟨tp 1 (.loc 3 0::.i r24_0.2::tp 166 []), [.gone, (.arr 34 1 (List.length r24_0.1.Views) (flatD (encL enc_GChange) r24_0.1.Views)), (.arr 34 1 (List.length r24_0.1.Pending) (flatD (encL enc_GChange) r24_0.1.Pending)), (.box [(.i r24_0.1.Cap), (.own 1), (.own 2), (.d (.mp (Option.isNone r24_0.1.Links) (mks kv_22 (ml r24_0.1.Links)) (mds (slD (encL enc_GChange)) (ml r24_0.1.Links))))])], 0⟩ <| Sx ?_
 obtain ⟨r28_1, hr28_1, hm⟩ := bnd hm
 refine Wy (.tup [(.agg [(.i r28_1.1.Cap), (.own 4), (.own 5), (.d (.mp (Option.isNone r28_1.1.Links) (mks kv_22 (ml r28_1.1.Links)) (mds (slD (encL enc_GChange)) (ml r28_1.1.Links))))]), (.i r28_1.2)]) [(4, (.arr 34 1 (List.length r28_1.1.Views) (flatD (encL enc_GChange) r28_1.1.Views))), (5, (.arr 34 1 (List.length r28_1.1.Pending) (flatD (encL enc_GChange) r28_1.1.Pending)))] (Ocf [] [4, 5] [] 0 (ok_view_New 0 1 ([] : List GChange) r28_1 hr28_1) (fun a w => Try.call8 a w) rfl trivial) <| Wm (.tup [(.agg [(.i r28_1.1.Cap), (.own 4), (.own 5), (.d (.mp (Option.isNone r28_1.1.Links) (mks kv_22 (ml r28_1.1.Links)) (mds (slD (encL enc_GChange)) (ml r28_1.1.Links))))]), (.i r28_1.2)]) rfl <| Wz (.agg [(.i r28_1.1.Cap), (.own 4), (.own 5), (.d (.mp (Option.isNone r28_1.1.Links) (mks kv_22 (ml r28_1.1.Links)) (mds (slD (encL enc_GChange)) (ml r28_1.1.Links))))]) (Oex rfl) <| Wz (.i r28_1.2) (Oex rfl) <| Wy (.loc 6 0) [(6, (.box [(.i 0), (.d .nil), (.d .nil), (.d (.mp (Option.isNone (none : Option (List (GArr2_Int × (List (List GChange)))))) (mks kv_22 (ml (none : Option (List (GArr2_Int × (List (List GChange))))))) (mds (slD (encL enc_GChange)) (ml (none : Option (List (GArr2_Int × (List (List GChange)))))))))]))] (Oal rfl) <| Wy (.tup []) [(6, (.box [(.i r28_1.1.Cap), (.own 4), (.own 5), (.d (.mp (Option.isNone r28_1.1.Links) (mks kv_22 (ml r28_1.1.Links)) (mds (slD (encL enc_GChange)) (ml r28_1.1.Links))))]))] (Ost rfl) <| Wm (.i r28_1.2) rfl <| Nk 22 14 ⟨tp 1 (.loc 3 0::.i r24_0.2::tp 1 (.i r28_1.2::tp 164 [])), [.gone, (.arr 34 1 (List.length r24_0.1.Views) (flatD (encL enc_GChange) r24_0.1.Views)), (.arr 34 1 (List.length r24_0.1.Pending) (flatD (encL enc_GChange) r24_0.1.Pending)), (.box [(.i r24_0.1.Cap), (.own 1), (.own 2), (.d (.mp (Option.isNone r24_0.1.Links) (mks kv_22 (ml r24_0.1.Links)) (mds (slD (encL enc_GChange)) (ml r24_0.1.Links))))]), .gone, .gone, .gone], 0⟩ <| Sx <| Wz (.agg [(.i r24_0.1.Cap), (.own 1), (.own 2), (.d (.mp (Option.isNone r24_0.1.Links) (mks kv_22 (ml r24_0.1.Links)) (mds (slD (encL enc_GChange)) (ml r24_0.1.Links))))]) (Old rfl) <| Wz (.agg [(.i 0), (.i 3), (.i (-2))]) (Obd rfl) <| Wy (.own 7) [(7, (Ar 84 3 enc_GChange ([(GChange.mk 0 3 (-2))] : List GChange)))] (Obs rfl) ?_
 obtain ⟨r35_2, hr35_2, hm⟩ := bnd hm
 refine Wy (.tup [(.agg [(.i r35_2.1.Cap), (.l (encL enc_GChange) r35_2.1.Views), (.l (encL enc_GChange) r35_2.1.Pending), (.d (.mp (Option.isNone r35_2.1.Links) (mks kv_22 (ml r35_2.1.Links)) (mds (slD (encL enc_GChange)) (ml r35_2.1.Links))))]), (.i r35_2.2)]) [(1, (.fro 34 1 (List.length r24_0.1.Views) (flatD (encL enc_GChange) r24_0.1.Views))), (2, (.fro 34 1 (List.length r24_0.1.Pending) (flatD (encL enc_GChange) r24_0.1.Pending))), (7, (.fro 84 3 (List.length ([(GChange.mk 0 3 (-2))] : List GChange)) (flatD enc_GChange ([(GChange.mk 0 3 (-2))] : List GChange))))] (Ocf [] [] [1, 2, 7] 0 (ok_view_Net_Note r24_0.1 0 ([(GChange.mk 0 3 (-2))] : List GChange) r35_2 hr35_2) (fun a w => Try.call11 a w) rfl trivial) <| Wm (.tup [(.agg [(.i r35_2.1.Cap), (.l (encL enc_GChange) r35_2.1.Views), (.l (encL enc_GChange) r35_2.1.Pending), (.d (.mp (Option.isNone r35_2.1.Links) (mks kv_22 (ml r35_2.1.Links)) (mds (slD (encL enc_GChange)) (ml r35_2.1.Links))))]), (.i r35_2.2)]) rfl <| Wz (.agg [(.i r35_2.1.Cap), (.l (encL enc_GChange) r35_2.1.Views), (.l (encL enc_GChange) r35_2.1.Pending), (.d (.mp (Option.isNone r35_2.1.Links) (mks kv_22 (ml r35_2.1.Links)) (mds (slD (encL enc_GChange)) (ml r35_2.1.Links))))]) (Oex rfl) <| Wz (.i r35_2.2) (Oex rfl) <| Wy (.loc 8 0) [(8, (.box [(.i 0), (.d .nil), (.d .nil), (.d (.mp (Option.isNone (none : Option (List (GArr2_Int × (List (List GChange)))))) (mks kv_22 (ml (none : Option (List (GArr2_Int × (List (List GChange))))))) (mds (slD (encL enc_GChange)) (ml (none : Option (List (GArr2_Int × (List (List GChange)))))))))]))] (Oal rfl) <| Wy (.tup []) [(8, (.box [(.i r35_2.1.Cap), (.l (encL enc_GChange) r35_2.1.Views), (.l (encL enc_GChange) r35_2.1.Pending), (.d (.mp (Option.isNone r35_2.1.Links) (mks kv_22 (ml r35_2.1.Links)) (mds (slD (encL enc_GChange)) (ml r35_2.1.Links))))]))] (Ost rfl) <| Wm (.i r35_2.2) rfl <| Nk 118 270 ⟨tp 1 (.loc 3 0::.i r24_0.2::tp 1 (.i r28_1.2::.loc 8 0::.i r35_2.2::tp 162 [])), [.gone, (.fro 34 1 (List.length r24_0.1.Views) (flatD (encL enc_GChange) r24_0.1.Views)), (.fro 34 1 (List.length r24_0.1.Pending) (flatD (encL enc_GChange) r24_0.1.Pending)), (.box [(.i r24_0.1.Cap), (.own 1), (.own 2), (.d (.mp (Option.isNone r24_0.1.Links) (mks kv_22 (ml r24_0.1.Links)) (mds (slD (encL enc_GChange)) (ml r24_0.1.Links))))]), .gone, .gone, .gone, .gone, (.box [(.i r35_2.1.Cap), (.l (encL enc_GChange) r35_2.1.Views), (.l (encL enc_GChange) r35_2.1.Pending), (.d (.mp (Option.isNone r35_2.1.Links) (mks kv_22 (ml r35_2.1.Links)) (mds (slD (encL enc_GChange)) (ml r35_2.1.Links))))])], 0⟩ <| Sx <| Wz (.agg [(.i r35_2.1.Cap), (.l (encL enc_GChange) r35_2.1.Views), (.l (encL enc_GChange) r35_2.1.Pending), (.d (.mp (Option.isNone r35_2.1.Links) (mks kv_22 (ml r35_2.1.Links)) (mds (slD (encL enc_GChange)) (ml r35_2.1.Links))))]) (Old rfl) ?_
 obtain ⟨r40_3, hr40_3, hm⟩ := bnd hm
 refine Wz (.tup [(.agg [(.i r40_3.1.Cap), (.l (encL enc_GChange) r40_3.1.Views), (.l (encL enc_GChange) r40_3.1.Pending), (.d (.mp (Option.isNone r40_3.1.Links) (mks kv_22 (ml r40_3.1.Links)) (mds (slD (encL enc_GChange)) (ml r40_3.1.Links))))]), (.i r40_3.2)]) (Ocf [] [] [] 0 (ok_view_Net_Flush r35_2.1 0 r40_3 hr40_3) (fun a w => Try.call13 a w) rfl trivial) <| Wm (.tup [(.agg [(.i r40_3.1.Cap), (.l (encL enc_GChange) r40_3.1.Views), (.l (encL enc_GChange) r40_3.1.Pending), (.d (.mp (Option.isNone r40_3.1.Links) (mks kv_22 (ml r40_3.1.Links)) (mds (slD (encL enc_GChange)) (ml r40_3.1.Links))))]), (.i r40_3.2)]) rfl <| Wz (.agg [(.i r40_3.1.Cap), (.l (encL enc_GChange) r40_3.1.Views), (.l (encL enc_GChange) r40_3.1.Pending), (.d (.mp (Option.isNone r40_3.1.Links) (mks kv_22 (ml r40_3.1.Links)) (mds (slD (encL enc_GChange)) (ml r40_3.1.Links))))]) (Oex rfl) <| Wz (.i r40_3.2) (Oex rfl) <| Wy (.loc 9 0) [(9, (.box [(.i 0), (.d .nil), (.d .nil), (.d (.mp (Option.isNone (none : Option (List (GArr2_Int × (List (List GChange)))))) (mks kv_22 (ml (none : Option (List (GArr2_Int × (List (List GChange))))))) (mds (slD (encL enc_GChange)) (ml (none : Option (List (GArr2_Int × (List (List GChange)))))))))]))] (Oal rfl) <| Wy (.tup []) [(9, (.box [(.i r40_3.1.Cap), (.l (encL enc_GChange) r40_3.1.Views), (.l (encL enc_GChange) r40_3.1.Pending), (.d (.mp (Option.isNone r40_3.1.Links) (mks kv_22 (ml r40_3.1.Links)) (mds (slD (encL enc_GChange)) (ml r40_3.1.Links))))]))] (Ost rfl) <| Wm (.i r40_3.2) rfl <| Nk 502 782 ⟨tp 1 (.loc 3 0::.i r24_0.2::tp 1 (.i r28_1.2::.loc 8 0::.i r35_2.2::.loc 9 0::.i r40_3.2::tp 160 [])), [.gone, (.fro 34 1 (List.length r24_0.1.Views) (flatD (encL enc_GChange) r24_0.1.Views)), (.fro 34 1 (List.length r24_0.1.Pending) (flatD (encL enc_GChange) r24_0.1.Pending)), (.box [(.i r24_0.1.Cap), (.own 1), (.own 2), (.d (.mp (Option.isNone r24_0.1.Links) (mks kv_22 (ml r24_0.1.Links)) (mds (slD (encL enc_GChange)) (ml r24_0.1.Links))))]), .gone, .gone, .gone, .gone, (.box [(.i r35_2.1.Cap), (.l (encL enc_GChange) r35_2.1.Views), (.l (encL enc_GChange) r35_2.1.Pending), (.d (.mp (Option.isNone r35_2.1.Links) (mks kv_22 (ml r35_2.1.Links)) (mds (slD (encL enc_GChange)) (ml r35_2.1.Links))))]), (.box [(.i r40_3.1.Cap), (.l (encL enc_GChange) r40_3.1.Views), (.l (encL enc_GChange) r40_3.1.Pending), (.d (.mp (Option.isNone r40_3.1.Links) (mks kv_22 (ml r40_3.1.Links)) (mds (slD (encL enc_GChange)) (ml r40_3.1.Links))))])], 0⟩ <| Sx <| Wz (.agg [(.i r40_3.1.Cap), (.l (encL enc_GChange) r40_3.1.Views), (.l (encL enc_GChange) r40_3.1.Pending), (.d (.mp (Option.isNone r40_3.1.Links) (mks kv_22 (ml r40_3.1.Links)) (mds (slD (encL enc_GChange)) (ml r40_3.1.Links))))]) (Old rfl) ?_
 obtain ⟨r45_4, hr45_4, hm⟩ := bnd hm
 refine Wz (.tup [(.agg [(.i r45_4.1.Cap), (.l (encL enc_GChange) r45_4.1.Views), (.l (encL enc_GChange) r45_4.1.Pending), (.d (.mp (Option.isNone r45_4.1.Links) (mks kv_22 (ml r45_4.1.Links)) (mds (slD (encL enc_GChange)) (ml r45_4.1.Links))))]), (.i r45_4.2)]) (Ocf [] [] [] 0 (ok_view_Net_Flush r40_3.1 0 r45_4 hr45_4) (fun a w => Try.call13 a w) rfl trivial) <| Wm (.tup [(.agg [(.i r45_4.1.Cap), (.l (encL enc_GChange) r45_4.1.Views), (.l (encL enc_GChange) r45_4.1.Pending), (.d (.mp (Option.isNone r45_4.1.Links) (mks kv_22 (ml r45_4.1.Links)) (mds (slD (encL enc_GChange)) (ml r45_4.1.Links))))]), (.i r45_4.2)]) rfl <| Wz (.agg [(.i r45_4.1.Cap), (.l (encL enc_GChange) r45_4.1.Views), (.l (encL enc_GChange) r45_4.1.Pending), (.d (.mp (Option.isNone r45_4.1.Links) (mks kv_22 (ml r45_4.1.Links)) (mds (slD (encL enc_GChange)) (ml r45_4.1.Links))))]) (Oex rfl) <| Wz (.i r45_4.2) (Oex rfl) <| Wy (.loc 10 0) [(10, (.box [(.i 0), (.d .nil), (.d .nil), (.d (.mp (Option.isNone (none : Option (List (GArr2_Int × (List (List GChange)))))) (mks kv_22 (ml (none : Option (List (GArr2_Int × (List (List GChange))))))) (mds (slD (encL enc_GChange)) (ml (none : Option (List (GArr2_Int × (List (List GChange)))))))))]))] (Oal rfl) <| Wy (.tup []) [(10, (.box [(.i r45_4.1.Cap), (.l (encL enc_GChange) r45_4.1.Views), (.l (encL enc_GChange) r45_4.1.Pending), (.d (.mp (Option.isNone r45_4.1.Links) (mks kv_22 (ml r45_4.1.Links)) (mds (slD (encL enc_GChange)) (ml r45_4.1.Links))))]))] (Ost rfl) <| Wm (.i r45_4.2) rfl <| Nk 1526 782 ⟨tp 1 (.loc 3 0::.i r24_0.2::tp 1 (.i r28_1.2::.loc 8 0::.i r35_2.2::.loc 9 0::.i r40_3.2::tp 1 (.i r45_4.2::tp 158 []))), [.gone, (.fro 34 1 (List.length r24_0.1.Views) (flatD (encL enc_GChange) r24_0.1.Views)), (.fro 34 1 (List.length r24_0.1.Pending) (flatD (encL enc_GChange) r24_0.1.Pending)), (.box [(.i r24_0.1.Cap), (.own 1), (.own 2), (.d (.mp (Option.isNone r24_0.1.Links) (mks kv_22 (ml r24_0.1.Links)) (mds (slD (encL enc_GChange)) (ml r24_0.1.Links))))]), .gone, .gone, .gone, .gone, (.box [(.i r35_2.1.Cap), (.l (encL enc_GChange) r35_2.1.Views), (.l (encL enc_GChange) r35_2.1.Pending), (.d (.mp (Option.isNone r35_2.1.Links) (mks kv_22 (ml r35_2.1.Links)) (mds (slD (encL enc_GChange)) (ml r35_2.1.Links))))]), (.box [(.i r40_3.1.Cap), (.l (encL enc_GChange) r40_3.1.Views), (.l (encL enc_GChange) r40_3.1.Pending), (.d (.mp (Option.isNone r40_3.1.Links) (mks kv_22 (ml r40_3.1.Links)) (mds (slD (encL enc_GChange)) (ml r40_3.1.Links))))]), .gone], 0⟩ <| Sx <| Wz (.agg [(.i r40_3.1.Cap), (.l (encL enc_GChange) r40_3.1.Views), (.l (encL enc_GChange) r40_3.1.Pending), (.d (.mp (Option.isNone r40_3.1.Links) (mks kv_22 (ml r40_3.1.Links)) (mds (slD (encL enc_GChange)) (ml r40_3.1.Links))))]) (Old rfl) ?_
 obtain ⟨r50_5, hr50_5, hm⟩ := bnd hm
 refine Wz (.tup [(.agg [(.i r50_5.1.Cap), (.l (encL enc_GChange) r50_5.1.Views), (.l (encL enc_GChange) r50_5.1.Pending), (.d (.mp (Option.isNone r50_5.1.Links) (mks kv_22 (ml r50_5.1.Links)) (mds (slD (encL enc_GChange)) (ml r50_5.1.Links))))]), (.i r50_5.2)]) (Ocf [] [] [] 0 (ok_view_Net_Deliver r40_3.1 0 1 r50_5 hr50_5) (fun a w => Try.call15 a w) rfl trivial) <| Wm (.tup [(.agg [(.i r50_5.1.Cap), (.l (encL enc_GChange) r50_5.1.Views), (.l (encL enc_GChange) r50_5.1.Pending), (.d (.mp (Option.isNone r50_5.1.Links) (mks kv_22 (ml r50_5.1.Links)) (mds (slD (encL enc_GChange)) (ml r50_5.1.Links))))]), (.i r50_5.2)]) rfl <| Wz (.agg [(.i r50_5.1.Cap), (.l (encL enc_GChange) r50_5.1.Views), (.l (encL enc_GChange) r50_5.1.Pending), (.d (.mp (Option.isNone r50_5.1.Links) (mks kv_22 (ml r50_5.1.Links)) (mds (slD (encL enc_GChange)) (ml r50_5.1.Links))))]) (Oex rfl) <| Wz (.i r50_5.2) (Oex rfl) <| Wy (.loc 11 0) [(11, (.box [(.i 0), (.d .nil), (.d .nil), (.d (.mp (Option.isNone (none : Option (List (GArr2_Int × (List (List GChange)))))) (mks kv_22 (ml (none : Option (List (GArr2_Int × (List (List GChange))))))) (mds (slD (encL enc_GChange)) (ml (none : Option (List (GArr2_Int × (List (List GChange)))))))))]))] (Oal rfl) <| Wy (.tup []) [(11, (.box [(.i r50_5.1.Cap), (.l (encL enc_GChange) r50_5.1.Views), (.l (encL enc_GChange) r50_5.1.Pending), (.d (.mp (Option.isNone r50_5.1.Links) (mks kv_22 (ml r50_5.1.Links)) (mds (slD (encL enc_GChange)) (ml r50_5.1.Links))))]))] (Ost rfl) <| Wm (.i r50_5.2) rfl <| Nk 7670 2830 ⟨tp 1 (.loc 3 0::.i r24_0.2::tp 1 (.i r28_1.2::.loc 8 0::.i r35_2.2::.loc 9 0::.i r40_3.2::tp 1 (.i r45_4.2::.loc 11 0::.i r50_5.2::tp 156 []))), [.gone, (.fro 34 1 (List.length r24_0.1.Views) (flatD (encL enc_GChange) r24_0.1.Views)), (.fro 34 1 (List.length r24_0.1.Pending) (flatD (encL enc_GChange) r24_0.1.Pending)), (.box [(.i r24_0.1.Cap), (.own 1), (.own 2), (.d (.mp (Option.isNone r24_0.1.Links) (mks kv_22 (ml r24_0.1.Links)) (mds (slD (encL enc_GChange)) (ml r24_0.1.Links))))]), .gone, .gone, .gone, .gone, (.box [(.i r35_2.1.Cap), (.l (encL enc_GChange) r35_2.1.Views), (.l (encL enc_GChange) r35_2.1.Pending), (.d (.mp (Option.isNone r35_2.1.Links) (mks kv_22 (ml r35_2.1.Links)) (mds (slD (encL enc_GChange)) (ml r35_2.1.Links))))]), (.box [(.i r40_3.1.Cap), (.l (encL enc_GChange) r40_3.1.Views), (.l (encL enc_GChange) r40_3.1.Pending), (.d (.mp (Option.isNone r40_3.1.Links) (mks kv_22 (ml r40_3.1.Links)) (mds (slD (encL enc_GChange)) (ml r40_3.1.Links))))]), .gone, (.box [(.i r50_5.1.Cap), (.l (encL enc_GChange) r50_5.1.Views), (.l (encL enc_GChange) r50_5.1.Pending), (.d (.mp (Option.isNone r50_5.1.Links) (mks kv_22 (ml r50_5.1.Links)) (mds (slD (encL enc_GChange)) (ml r50_5.1.Links))))])], 0⟩ <| Sx <| Wz (.agg [(.i r50_5.1.Cap), (.l (encL enc_GChange) r50_5.1.Views), (.l (encL enc_GChange) r50_5.1.Pending), (.d (.mp (Option.isNone r50_5.1.Links) (mks kv_22 (ml r50_5.1.Links)) (mds (slD (encL enc_GChange)) (ml r50_5.1.Links))))]) (Old rfl) ?_
 obtain ⟨r55_6, hr55_6, hm⟩ := bnd hm
 refine Wz (.tup [(.agg [(.i r55_6.1.Cap), (.l (encL enc_GChange) r55_6.1.Views), (.l (encL enc_GChange) r55_6.1.Pending), (.d (.mp (Option.isNone r55_6.1.Links) (mks kv_22 (ml r55_6.1.Links)) (mds (slD (encL enc_GChange)) (ml r55_6.1.Links))))]), (.i r55_6.2)]) (Ocf [] [] [] 0 (ok_view_Net_Deliver r50_5.1 0 1 r55_6 hr55_6) (fun a w => Try.call15 a w) rfl trivial) <| Wm (.tup [(.agg [(.i r55_6.1.Cap), (.l (encL enc_GChange) r55_6.1.Views), (.l (encL enc_GChange) r55_6.1.Pending), (.d (.mp (Option.isNone r55_6.1.Links) (mks kv_22 (ml r55_6.1.Links)) (mds (slD (encL enc_GChange)) (ml r55_6.1.Links))))]), (.i r55_6.2)]) rfl <| Wz (.agg [(.i r55_6.1.Cap), (.l (encL enc_GChange) r55_6.1.Views), (.l (encL enc_GChange) r55_6.1.Pending), (.d (.mp (Option.isNone r55_6.1.Links) (mks kv_22 (ml r55_6.1.Links)) (mds (slD (encL enc_GChange)) (ml r55_6.1.Links))))]) (Oex rfl) <| Wz (.i r55_6.2) (Oex rfl) <| Wy (.loc 12 0) [(12, (.box [(.i 0), (.d .nil), (.d .nil), (.d (.mp (Option.isNone (none : Option (List (GArr2_Int × (List (List GChange)))))) (mks kv_22 (ml (none : Option (List (GArr2_Int × (List (List GChange))))))) (mds (slD (encL enc_GChange)) (ml (none : Option (List (GArr2_Int × (List (List GChange)))))))))]))] (Oal rfl) <| Wy (.tup []) [(12, (.box [(.i r55_6.1.Cap), (.l (encL enc_GChange) r55_6.1.Views), (.l (encL enc_GChange) r55_6.1.Pending), (.d (.mp (Option.isNone r55_6.1.Links) (mks kv_22 (ml r55_6.1.Links)) (mds (slD (encL enc_GChange)) (ml r55_6.1.Links))))]))] (Ost rfl) <| Wm (.i r55_6.2) rfl <| Nk 24054 2830 ⟨tp 1 (.loc 3 0::.i r24_0.2::tp 1 (.i r28_1.2::.loc 8 0::.i r35_2.2::.loc 9 0::.i r40_3.2::tp 1 (.i r45_4.2::.loc 11 0::.i r50_5.2::tp 1 (.i r55_6.2::tp 154 [])))), [.gone, (.fro 34 1 (List.length r24_0.1.Views) (flatD (encL enc_GChange) r24_0.1.Views)), (.fro 34 1 (List.length r24_0.1.Pending) (flatD (encL enc_GChange) r24_0.1.Pending)), (.box [(.i r24_0.1.Cap), (.own 1), (.own 2), (.d (.mp (Option.isNone r24_0.1.Links) (mks kv_22 (ml r24_0.1.Links)) (mds (slD (encL enc_GChange)) (ml r24_0.1.Links))))]), .gone, .gone, .gone, .gone, (.box [(.i r35_2.1.Cap), (.l (encL enc_GChange) r35_2.1.Views), (.l (encL enc_GChange) r35_2.1.Pending), (.d (.mp (Option.isNone r35_2.1.Links) (mks kv_22 (ml r35_2.1.Links)) (mds (slD (encL enc_GChange)) (ml r35_2.1.Links))))]), (.box [(.i r40_3.1.Cap), (.l (encL enc_GChange) r40_3.1.Views), (.l (encL enc_GChange) r40_3.1.Pending), (.d (.mp (Option.isNone r40_3.1.Links) (mks kv_22 (ml r40_3.1.Links)) (mds (slD (encL enc_GChange)) (ml r40_3.1.Links))))]), .gone, (.box [(.i r50_5.1.Cap), (.l (encL enc_GChange) r50_5.1.Views), (.l (encL enc_GChange) r50_5.1.Pending), (.d (.mp (Option.isNone r50_5.1.Links) (mks kv_22 (ml r50_5.1.Links)) (mds (slD (encL enc_GChange)) (ml r50_5.1.Links))))]), .gone], 0⟩ <| Sx <| Wz (.agg [(.i r24_0.1.Cap), (.own 1), (.own 2), (.d (.mp (Option.isNone r24_0.1.Links) (mks kv_22 (ml r24_0.1.Links)) (mds (slD (encL enc_GChange)) (ml r24_0.1.Links))))]) (Old rfl) ?_
 obtain ⟨r60_7, hr60_7, hm⟩ := bnd hm
 refine Wy (.tup [(.agg [(.i r60_7.1.Cap), (.l (encL enc_GChange) r60_7.1.Views), (.l (encL enc_GChange) r60_7.1.Pending), (.d (.mp (Option.isNone r60_7.1.Links) (mks kv_22 (ml r60_7.1.Links)) (mds (slD (encL enc_GChange)) (ml r60_7.1.Links))))]), (.i r60_7.2)]) [(1, (.fro 34 1 (List.length r24_0.1.Views) (flatD (encL enc_GChange) r24_0.1.Views))), (2, (.fro 34 1 (List.length r24_0.1.Pending) (flatD (encL enc_GChange) r24_0.1.Pending)))] (Ocf [] [] [1, 2] 0 (ok_view_Net_Note r24_0.1 2 ([] : List GChange) r60_7 hr60_7) (fun a w => Try.call11 a w) rfl trivial) <| Wm (.tup [(.agg [(.i r60_7.1.Cap), (.l (encL enc_GChange) r60_7.1.Views), (.l (encL enc_GChange) r60_7.1.Pending), (.d (.mp (Option.isNone r60_7.1.Links) (mks kv_22 (ml r60_7.1.Links)) (mds (slD (encL enc_GChange)) (ml r60_7.1.Links))))]), (.i r60_7.2)]) rfl <| Wz (.agg [(.i r60_7.1.Cap), (.l (encL enc_GChange) r60_7.1.Views), (.l (encL enc_GChange) r60_7.1.Pending), (.d (.mp (Option.isNone r60_7.1.Links) (mks kv_22 (ml r60_7.1.Links)) (mds (slD (encL enc_GChange)) (ml r60_7.1.Links))))]) (Oex rfl) <| Wz (.i r60_7.2) (Oex rfl) <| Wy (.loc 13 0) [(13, (.box [(.i 0), (.d .nil), (.d .nil), (.d (.mp (Option.isNone (none : Option (List (GArr2_Int × (List (List GChange)))))) (mks kv_22 (ml (none : Option (List (GArr2_Int × (List (List GChange))))))) (mds (slD (encL enc_GChange)) (ml (none : Option (List (GArr2_Int × (List (List GChange)))))))))]))] (Oal rfl) <| Wy (.tup []) [(13, (.box [(.i r60_7.1.Cap), (.l (encL enc_GChange) r60_7.1.Views), (.l (encL enc_GChange) r60_7.1.Pending), (.d (.mp (Option.isNone r60_7.1.Links) (mks kv_22 (ml r60_7.1.Links)) (mds (slD (encL enc_GChange)) (ml r60_7.1.Links))))]))] (Ost rfl) <| Wm (.i r60_7.2) rfl <| Nk 89590 2830 ⟨tp 1 (.loc 3 0::.i r24_0.2::tp 1 (.i r28_1.2::.loc 8 0::.i r35_2.2::.loc 9 0::.i r40_3.2::tp 1 (.i r45_4.2::.loc 11 0::.i r50_5.2::tp 1 (.i r55_6.2::tp 1 (.i r60_7.2::tp 152 []))))), [.gone, (.fro 34 1 (List.length r24_0.1.Views) (flatD (encL enc_GChange) r24_0.1.Views)), (.fro 34 1 (List.length r24_0.1.Pending) (flatD (encL enc_GChange) r24_0.1.Pending)), (.box [(.i r24_0.1.Cap), (.own 1), (.own 2), (.d (.mp (Option.isNone r24_0.1.Links) (mks kv_22 (ml r24_0.1.Links)) (mds (slD (encL enc_GChange)) (ml r24_0.1.Links))))]), .gone, .gone, .gone, .gone, (.box [(.i r35_2.1.Cap), (.l (encL enc_GChange) r35_2.1.Views), (.l (encL enc_GChange) r35_2.1.Pending), (.d (.mp (Option.isNone r35_2.1.Links) (mks kv_22 (ml r35_2.1.Links)) (mds (slD (encL enc_GChange)) (ml r35_2.1.Links))))]), (.box [(.i r40_3.1.Cap), (.l (encL enc_GChange) r40_3.1.Views), (.l (encL enc_GChange) r40_3.1.Pending), (.d (.mp (Option.isNone r40_3.1.Links) (mks kv_22 (ml r40_3.1.Links)) (mds (slD (encL enc_GChange)) (ml r40_3.1.Links))))]), .gone, (.box [(.i r50_5.1.Cap), (.l (encL enc_GChange) r50_5.1.Views), (.l (encL enc_GChange) r50_5.1.Pending), (.d (.mp (Option.isNone r50_5.1.Links) (mks kv_22 (ml r50_5.1.Links)) (mds (slD (encL enc_GChange)) (ml r50_5.1.Links))))]), .gone, .gone], 0⟩ <| Sx <| Wz (.agg [(.i r40_3.1.Cap), (.l (encL enc_GChange) r40_3.1.Views), (.l (encL enc_GChange) r40_3.1.Pending), (.d (.mp (Option.isNone r40_3.1.Links) (mks kv_22 (ml r40_3.1.Links)) (mds (slD (encL enc_GChange)) (ml r40_3.1.Links))))]) (Old rfl) <| Wz (.agg [(.i 0), (.i 0), (.i 1)]) (Obd rfl) <| Wy (.own 14) [(14, (Ar 84 3 enc_GChange ([(GChange.mk 0 0 1)] : List GChange)))] (Obs rfl) ?_
 obtain ⟨r67_8, hr67_8, hm⟩ := bnd hm
 refine Wy (.tup [(.agg [(.i r67_8.1.Cap), (.l (encL enc_GChange) r67_8.1.Views), (.l (encL enc_GChange) r67_8.1.Pending), (.d (.mp (Option.isNone r67_8.1.Links) (mks kv_22 (ml r67_8.1.Links)) (mds (slD (encL enc_GChange)) (ml r67_8.1.Links))))]), (.i r67_8.2)]) [(14, (.fro 84 3 (List.length ([(GChange.mk 0 0 1)] : List GChange)) (flatD enc_GChange ([(GChange.mk 0 0 1)] : List GChange))))] (Ocf [] [] [14] 0 (ok_view_Net_Note r40_3.1 0 ([(GChange.mk 0 0 1)] : List GChange) r67_8 hr67_8) (fun a w => Try.call11 a w) rfl trivial) <| Wm (.tup [(.agg [(.i r67_8.1.Cap), (.l (encL enc_GChange) r67_8.1.Views), (.l (encL enc_GChange) r67_8.1.Pending), (.d (.mp (Option.isNone r67_8.1.Links) (mks kv_22 (ml r67_8.1.Links)) (mds (slD (encL enc_GChange)) (ml r67_8.1.Links))))]), (.i r67_8.2)]) rfl <| Wz (.agg [(.i r67_8.1.Cap), (.l (encL enc_GChange) r67_8.1.Views), (.l (encL enc_GChange) r67_8.1.Pending), (.d (.mp (Option.isNone r67_8.1.Links) (mks kv_22 (ml r67_8.1.Links)) (mds (slD (encL enc_GChange)) (ml r67_8.1.Links))))]) (Oex rfl) <| Wz (.i r67_8.2) (Oex rfl) <| Wy (.loc 15 0) [(15, (.box [(.i 0), (.d .nil), (.d .nil), (.d (.mp (Option.isNone (none : Option (List (GArr2_Int × (List (List GChange)))))) (mks kv_22 (ml (none : Option (List (GArr2_Int × (List (List GChange))))))) (mds (slD (encL enc_GChange)) (ml (none : Option (List (GArr2_Int × (List (List GChange)))))))))]))] (Oal rfl) <| Wy (.tup []) [(15, (.box [(.i r67_8.1.Cap), (.l (encL enc_GChange) r67_8.1.Views), (.l (encL enc_GChange) r67_8.1.Pending), (.d (.mp (Option.isNone r67_8.1.Links) (mks kv_22 (ml r67_8.1.Links)) (mds (slD (encL enc_GChange)) (ml r67_8.1.Links))))]))] (Ost rfl) <| Wm (.i r67_8.2) rfl <| Nk 220662 35598 ⟨tp 1 (.loc 3 0::.i r24_0.2::tp 1 (.i r28_1.2::.loc 8 0::.i r35_2.2::.loc 9 0::.i r40_3.2::tp 1 (.i r45_4.2::.loc 11 0::.i r50_5.2::tp 1 (.i r55_6.2::tp 1 (.i r60_7.2::.loc 15 0::tp 151 []))))), [.gone, (.fro 34 1 (List.length r24_0.1.Views) (flatD (encL enc_GChange) r24_0.1.Views)), (.fro 34 1 (List.length r24_0.1.Pending) (flatD (encL enc_GChange) r24_0.1.Pending)), (.box [(.i r24_0.1.Cap), (.own 1), (.own 2), (.d (.mp (Option.isNone r24_0.1.Links) (mks kv_22 (ml r24_0.1.Links)) (mds (slD (encL enc_GChange)) (ml r24_0.1.Links))))]), .gone, .gone, .gone, .gone, (.box [(.i r35_2.1.Cap), (.l (encL enc_GChange) r35_2.1.Views), (.l (encL enc_GChange) r35_2.1.Pending), (.d (.mp (Option.isNone r35_2.1.Links) (mks kv_22 (ml r35_2.1.Links)) (mds (slD (encL enc_GChange)) (ml r35_2.1.Links))))]), (.box [(.i r40_3.1.Cap), (.l (encL enc_GChange) r40_3.1.Views), (.l (encL enc_GChange) r40_3.1.Pending), (.d (.mp (Option.isNone r40_3.1.Links) (mks kv_22 (ml r40_3.1.Links)) (mds (slD (encL enc_GChange)) (ml r40_3.1.Links))))]), .gone, (.box [(.i r50_5.1.Cap), (.l (encL enc_GChange) r50_5.1.Views), (.l (encL enc_GChange) r50_5.1.Pending), (.d (.mp (Option.isNone r50_5.1.Links) (mks kv_22 (ml r50_5.1.Links)) (mds (slD (encL enc_GChange)) (ml r50_5.1.Links))))]), .gone, .gone, .gone, (.box [(.i r67_8.1.Cap), (.l (encL enc_GChange) r67_8.1.Views), (.l (encL enc_GChange) r67_8.1.Pending), (.d (.mp (Option.isNone r67_8.1.Links) (mks kv_22 (ml r67_8.1.Links)) (mds (slD (encL enc_GChange)) (ml r67_8.1.Links))))])], 0⟩ <| Sx <| Wz (.agg [(.i r67_8.1.Cap), (.l (encL enc_GChange) r67_8.1.Views), (.l (encL enc_GChange) r67_8.1.Pending), (.d (.mp (Option.isNone r67_8.1.Links) (mks kv_22 (ml r67_8.1.Links)) (mds (slD (encL enc_GChange)) (ml r67_8.1.Links))))]) (Old rfl) ?_
 obtain ⟨r72_9, hr72_9, hm⟩ := bnd hm
 refine Wz (.tup [(.agg [(.i r72_9.1.Cap), (.l (encL enc_GChange) r72_9.1.Views), (.l (encL enc_GChange) r72_9.1.Pending), (.d (.mp (Option.isNone r72_9.1.Links) (mks kv_22 (ml r72_9.1.Links)) (mds (slD (encL enc_GChange)) (ml r72_9.1.Links))))]), (.i r72_9.2)]) (Ocf [] [] [] 0 (ok_view_Net_Flush r67_8.1 0 r72_9 hr72_9) (fun a w => Try.call13 a w) rfl trivial) <| Wm (.tup [(.agg [(.i r72_9.1.Cap), (.l (encL enc_GChange) r72_9.1.Views), (.l (encL enc_GChange) r72_9.1.Pending), (.d (.mp (Option.isNone r72_9.1.Links) (mks kv_22 (ml r72_9.1.Links)) (mds (slD (encL enc_GChange)) (ml r72_9.1.Links))))]), (.i r72_9.2)]) rfl <| Wz (.agg [(.i r72_9.1.Cap), (.l (encL enc_GChange) r72_9.1.Views), (.l (encL enc_GChange) r72_9.1.Pending), (.d (.mp (Option.isNone r72_9.1.Links) (mks kv_22 (ml r72_9.1.Links)) (mds (slD (encL enc_GChange)) (ml r72_9.1.Links))))]) (Oex rfl) <| Wz (.i r72_9.2) (Oex rfl) <| Wy (.loc 16 0) [(16, (.box [(.i 0), (.d .nil), (.d .nil), (.d (.mp (Option.isNone (none : Option (List (GArr2_Int × (List (List GChange)))))) (mks kv_22 (ml (none : Option (List (GArr2_Int × (List (List GChange))))))) (mds (slD (encL enc_GChange)) (ml (none : Option (List (GArr2_Int × (List (List GChange)))))))))]))] (Oal rfl) <| Wy (.tup []) [(16, (.box [(.i r72_9.1.Cap), (.l (encL enc_GChange) r72_9.1.Views), (.l (encL enc_GChange) r72_9.1.Pending), (.d (.mp (Option.isNone r72_9.1.Links) (mks kv_22 (ml r72_9.1.Links)) (mds (slD (encL enc_GChange)) (ml r72_9.1.Links))))]))] (Ost rfl) <| Wm (.i r72_9.2) rfl <| Nk 1138166 2830 ⟨tp 1 (.loc 3 0::.i r24_0.2::tp 1 (.i r28_1.2::.loc 8 0::.i r35_2.2::.loc 9 0::.i r40_3.2::tp 1 (.i r45_4.2::.loc 11 0::.i r50_5.2::tp 1 (.i r55_6.2::tp 1 (.i r60_7.2::tp 3 (.i r72_9.2::tp 148 [])))))), [.gone, (.fro 34 1 (List.length r24_0.1.Views) (flatD (encL enc_GChange) r24_0.1.Views)), (.fro 34 1 (List.length r24_0.1.Pending) (flatD (encL enc_GChange) r24_0.1.Pending)), (.box [(.i r24_0.1.Cap), (.own 1), (.own 2), (.d (.mp (Option.isNone r24_0.1.Links) (mks kv_22 (ml r24_0.1.Links)) (mds (slD (encL enc_GChange)) (ml r24_0.1.Links))))]), .gone, .gone, .gone, .gone, (.box [(.i r35_2.1.Cap), (.l (encL enc_GChange) r35_2.1.Views), (.l (encL enc_GChange) r35_2.1.Pending), (.d (.mp (Option.isNone r35_2.1.Links) (mks kv_22 (ml r35_2.1.Links)) (mds (slD (encL enc_GChange)) (ml r35_2.1.Links))))]), (.box [(.i r40_3.1.Cap), (.l (encL enc_GChange) r40_3.1.Views), (.l (encL enc_GChange) r40_3.1.Pending), (.d (.mp (Option.isNone r40_3.1.Links) (mks kv_22 (ml r40_3.1.Links)) (mds (slD (encL enc_GChange)) (ml r40_3.1.Links))))]), .gone, (.box [(.i r50_5.1.Cap), (.l (encL enc_GChange) r50_5.1.Views), (.l (encL enc_GChange) r50_5.1.Pending), (.d (.mp (Option.isNone r50_5.1.Links) (mks kv_22 (ml r50_5.1.Links)) (mds (slD (encL enc_GChange)) (ml r50_5.1.Links))))]), .gone, .gone, .gone, .gone, .gone], 0⟩ <| Sx <| Wm (.i r24_0.2) rfl <| Wz (.b (decide (r24_0.2 = 0))) (Obn rfl (fun _ => hb_eql (k := .i64))) ?_
 rcases tf_ (decide (r24_0.2 = 0)) with hq77_10 | hq77_10
 ·
  replace hm := cT hq77_10 hm
  refine Wz (.b true) (Oq hq77_10 rfl) <| Wm (.i r28_1.2) rfl <| Wz (.b (decide (r28_1.2 = 2))) (Obn rfl (fun _ => hb_eql (k := .i64))) <| Wz (.b (decide (r28_1.2 = 2))) (OpT rfl) ?_
  rcases tf_ (decide (r28_1.2 = 2)) with hq81_10 | hq81_10
  ·
   replace hm := cT hq81_10 hm
   refine Wz (.b true) (Oq hq81_10 rfl) <| Wm (.i r35_2.2) rfl <| Wz (.b (decide (r35_2.2 = 0))) (Obn rfl (fun _ => hb_eql (k := .i64))) <| Wz (.b (decide (r35_2.2 = 0))) (OpT rfl) ?_
   rcases tf_ (decide (r35_2.2 = 0)) with hq85_10 | hq85_10
   ·
    replace hm := cT hq85_10 hm
    refine Wz (.b true) (Oq hq85_10 rfl) <| Wm (.i r40_3.2) rfl <| Wz (.b (decide (r40_3.2 = 0))) (Obn rfl (fun _ => hb_eql (k := .i64))) <| Wz (.b (decide (r40_3.2 = 0))) (OpT rfl) ?_
    rcases tf_ (decide (r40_3.2 = 0)) with hq89_10 | hq89_10
    ·
     replace hm := cT hq89_10 hm
     refine Wz (.b true) (Oq hq89_10 rfl) <| Wm (.i r45_4.2) rfl <| Wz (.b (decide (r45_4.2 = 16))) (Obn rfl (fun _ => hb_eql (k := .i64))) <| Wz (.b (decide (r45_4.2 = 16))) (OpT rfl) ?_
     rcases tf_ (decide (r45_4.2 = 16)) with hq93_10 | hq93_10
     ·
      replace hm := cT hq93_10 hm
      refine Wz (.b true) (Oq hq93_10 rfl) <| Wm (.i r50_5.2) rfl <| Wz (.b (decide (r50_5.2 = 0))) (Obn rfl (fun _ => hb_eql (k := .i64))) <| Wz (.b (decide (r50_5.2 = 0))) (OpT rfl) ?_
      rcases tf_ (decide (r50_5.2 = 0)) with hq97_10 | hq97_10
      ·
       replace hm := cT hq97_10 hm
       refine Wz (.b true) (Oq hq97_10 rfl) <| Wm (.i r55_6.2) rfl <| Wz (.b (decide (r55_6.2 = 16))) (Obn rfl (fun _ => hb_eql (k := .i64))) <| Wz (.b (decide (r55_6.2 = 16))) (OpT rfl) ?_
       rcases tf_ (decide (r55_6.2 = 16)) with hq101_10 | hq101_10
       ·
        replace hm := cT hq101_10 hm
        refine Wz (.b true) (Oq hq101_10 rfl) <| Wm (.i r60_7.2) rfl <| Wz (.b (decide (r60_7.2 = 6))) (Obn rfl (fun _ => hb_eql (k := .i64))) <| Wz (.b (decide (r60_7.2 = 6))) (OpT rfl) ?_
        rcases tf_ (decide (r60_7.2 = 6)) with hq105_10 | hq105_10
        ·
         replace hm := cT hq105_10 hm
         refine Wz (.b true) (Oq hq105_10 rfl) <| Wm (.i r72_9.2) rfl <| Wz (.b (decide (r72_9.2 = 7))) (Obn rfl (fun _ => hb_eql (k := .i64))) <| Wz (.b (decide (r72_9.2 = 7))) (OpT rfl) ?_
         rcases tf_ (decide (r72_9.2 = 7)) with hq109_10 | hq109_10
         ·
          replace hm := cT hq109_10 hm
          refine Wz (.b true) (Oq hq109_10 rfl) <| Wz (.agg [(.i r24_0.1.Cap), (.own 1), (.own 2), (.d (.mp (Option.isNone r24_0.1.Links) (mks kv_22 (ml r24_0.1.Links)) (mds (slD (encL enc_GChange)) (ml r24_0.1.Links))))]) (Old rfl) ?_
          obtain ⟨r111_10, hr111_10, hm⟩ := bnd hm
          refine Wz (.i r111_10) (Ocp [] [] [1, 2] 0 (ok_view_Net_Front r24_0.1 1 1 r111_10 hr111_10) (plain_triv (by simp [A.Plain, A.Plains, D.Plain, byteD])) (fun a w => Try.call23 a w) rfl trivial) <| Wz (.b (decide (r111_10 = 3))) (Obn rfl (fun _ => hb_eql (k := .i64))) <| Wz (.b (decide (r111_10 = 3))) (OpT rfl) ?_
          rcases tf_ (decide (r111_10 = 3)) with hq114_10 | hq114_10
          ·
           replace hm := cT hq114_10 hm
           refine Wz (.b true) (Oq hq114_10 rfl) <| Wz (.agg [(.i r50_5.1.Cap), (.l (encL enc_GChange) r50_5.1.Views), (.l (encL enc_GChange) r50_5.1.Pending), (.d (.mp (Option.isNone r50_5.1.Links) (mks kv_22 (ml r50_5.1.Links)) (mds (slD (encL enc_GChange)) (ml r50_5.1.Links))))]) (Old rfl) ?_
           obtain ⟨r116_10, hr116_10, hm⟩ := bnd hm
           refine Wz (.i r116_10) (Ocf [] [] [] 0 (ok_view_Net_Front r50_5.1 1 1 r116_10 hr116_10) (fun a w => Try.call23 a w) rfl trivial) <| Wz (.b (decide (r116_10 = 1099511627777))) (Obn rfl (fun _ => hb_eql (k := .i64))) <| Wz (.b (decide (r116_10 = 1099511627777))) (OpT rfl) ?_
           rcases tf_ (decide (r116_10 = 1099511627777)) with hq119_10 | hq119_10
           ·
            replace hm := cT hq119_10 hm
            refine Wz (.b true) (Oq hq119_10 rfl) <| Wz (.agg [(.i r50_5.1.Cap), (.l (encL enc_GChange) r50_5.1.Views), (.l (encL enc_GChange) r50_5.1.Pending), (.d (.mp (Option.isNone r50_5.1.Links) (mks kv_22 (ml r50_5.1.Links)) (mds (slD (encL enc_GChange)) (ml r50_5.1.Links))))]) (Old rfl) ?_
            obtain ⟨r121_10, hr121_10, hm⟩ := bnd hm
            refine Wz (.i r121_10) (Ocf [] [] [] 0 (ok_view_Net_Front r50_5.1 0 1 r121_10 hr121_10) (fun a w => Try.call23 a w) rfl trivial) <| Wz (.b (decide (r121_10 = 3))) (Obn rfl (fun _ => hb_eql (k := .i64))) <| Wz (.b (decide (r121_10 = 3))) (OpT rfl) ?_
            rcases tf_ (decide (r121_10 = 3)) with hq124_10 | hq124_10
            ·
             replace hm := cT hq124_10 hm
             refine Wz (.b true) (Oq hq124_10 rfl) <| Wz (.agg [(.i r50_5.1.Cap), (.l (encL enc_GChange) r50_5.1.Views), (.l (encL enc_GChange) r50_5.1.Pending), (.d (.mp (Option.isNone r50_5.1.Links) (mks kv_22 (ml r50_5.1.Links)) (mds (slD (encL enc_GChange)) (ml r50_5.1.Links))))]) (Old rfl) ?_
             obtain ⟨r126_10, hr126_10, hm⟩ := bnd hm
             refine Wz (.i r126_10) (Ocf [] [] [] 0 (ok_view_Net_Waits r50_5.1 0 0 r126_10 hr126_10) (fun a w => Try.call19 a w) rfl trivial) <| Wz (.b (decide (r126_10 = 1))) (Obn rfl (fun _ => hb_eql (k := .i64))) <| Wz (.b (decide (r126_10 = 1))) (OpT rfl) ?_
             rcases tf_ (decide (r126_10 = 1)) with hq129_10 | hq129_10
             ·
              replace hm := cT hq129_10 hm
              refine Wz (.b true) (Oq hq129_10 rfl) <| Wz (.loc 11 3) (Ofa rfl) <| Wz (.d (.mp (Option.isNone r50_5.1.Links) (mks kv_22 (ml r50_5.1.Links)) (mds (slD (encL enc_GChange)) (ml r50_5.1.Links)))) (Old rfl) <| Wz (.i ((List.length (ml r50_5.1.Links) : Nat) : Int)) (Mml (kv := kv_22) (ev := (slD (encL enc_GChange))) (ml r50_5.1.Links) rfl) <| Wz (.b (decide (((List.length (ml r50_5.1.Links) : Nat) : Int) = 1))) (Obn rfl (fun _ => hb_eql (k := .i64))) <| Wz (.b (decide (((List.length (ml r50_5.1.Links) : Nat) : Int) = 1))) (OpT rfl) ?_
              rcases tf_ (decide (((List.length (ml r50_5.1.Links) : Nat) : Int) = 1)) with hq135_10 | hq135_10
              ·
               replace hm := cT hq135_10 hm
               refine Wz (.b true) (Oq hq135_10 rfl) <| Wz (.loc 9 3) (Ofa rfl) <| Wz (.d (.mp (Option.isNone r40_3.1.Links) (mks kv_22 (ml r40_3.1.Links)) (mds (slD (encL enc_GChange)) (ml r40_3.1.Links)))) (Old rfl) <| Wz (.i ((List.length (ml r40_3.1.Links) : Nat) : Int)) (Mml (kv := kv_22) (ev := (slD (encL enc_GChange))) (ml r40_3.1.Links) rfl) <| Wz (.b (decide (((List.length (ml r40_3.1.Links) : Nat) : Int) = 2))) (Obn rfl (fun _ => hb_eql (k := .i64))) <| Wz (.b (decide (((List.length (ml r40_3.1.Links) : Nat) : Int) = 2))) (OpT rfl) ?_
               rcases tf_ (decide (((List.length (ml r40_3.1.Links) : Nat) : Int) = 2)) with hq141_10 | hq141_10
               ·
                replace hm := cT hq141_10 hm
                refine Wz (.b true) (Oq hq141_10 rfl) <| Wz (.agg [(.i r50_5.1.Cap), (.l (encL enc_GChange) r50_5.1.Views), (.l (encL enc_GChange) r50_5.1.Pending), (.d (.mp (Option.isNone r50_5.1.Links) (mks kv_22 (ml r50_5.1.Links)) (mds (slD (encL enc_GChange)) (ml r50_5.1.Links))))]) (Old rfl) ?_
                obtain ⟨r143_10, hr143_10, hm⟩ := bnd hm
                refine Wz (.l enc_GChange r143_10) (Ocf [] [] [] 0 (ok_view_Net_Truth r50_5.1 0 r143_10 hr143_10) (fun a w => Try.call27 a w) rfl trivial) <| Wz (.i ((List.length r143_10 : Nat) : Int)) (Oln rfl) <| Wz (.b (decide (((List.length r143_10 : Nat) : Int) = 0))) (Obn rfl (fun _ => hb_eql (k := .i64))) <| Wz (.b (decide (((List.length r143_10 : Nat) : Int) = 0))) (OpT rfl) ?_
                rcases tf_ (decide (((List.length r143_10 : Nat) : Int) = 0)) with hq147_10 | hq147_10
                ·
                 replace hm := cT hq147_10 hm
                 refine Wz (.b true) (Oq hq147_10 rfl) <| Wz (.agg [(.i r24_0.1.Cap), (.own 1), (.own 2), (.d (.mp (Option.isNone r24_0.1.Links) (mks kv_22 (ml r24_0.1.Links)) (mds (slD (encL enc_GChange)) (ml r24_0.1.Links))))]) (Old rfl) ?_
                 obtain ⟨r149_10, hr149_10, hm⟩ := bnd hm
                 refine Wz (.b r149_10) (Ocp [] [] [1, 2] 0 (ok_view_Net_Idle r24_0.1 r149_10 hr149_10) (plain_triv (by simp [A.Plain, A.Plains, D.Plain, byteD])) (fun a w => Try.call21 a w) rfl trivial) <| Wz (.b r149_10) (OpT rfl) ?_
                 rcases tf_ r149_10 with hq151_10 | hq151_10
                 ·
                  replace hm := cT hq151_10 hm
                  refine Wz (.b true) (Oq hq151_10 rfl) <| Wz (.agg [(.i r50_5.1.Cap), (.l (encL enc_GChange) r50_5.1.Views), (.l (encL enc_GChange) r50_5.1.Pending), (.d (.mp (Option.isNone r50_5.1.Links) (mks kv_22 (ml r50_5.1.Links)) (mds (slD (encL enc_GChange)) (ml r50_5.1.Links))))]) (Old rfl) ?_
                  obtain ⟨r153_10, hr153_10, hm⟩ := bnd hm
                  refine Wz (.b r153_10) (Ocf [] [] [] 0 (ok_view_Net_Idle r50_5.1 r153_10 hr153_10) (fun a w => Try.call21 a w) rfl trivial) <| Wz (.b (!r153_10)) (Ocs (by kernel_rfl) (op_un rfl (a1 := .bool r153_10) (by kernel_rfl) (fun _ => hu_not))) <| Wz (.b (!r153_10)) (OpT rfl) ?_
                  rcases tf_ (!r153_10) with hq156_10 | hq156_10
                  ·
                   replace hm := cT hq156_10 hm
                   refine Wz (.b true) (Oq hq156_10 rfl) <| Wz (.agg [(.i r40_3.1.Cap), (.l (encL enc_GChange) r40_3.1.Views), (.l (encL enc_GChange) r40_3.1.Pending), (.d (.mp (Option.isNone r40_3.1.Links) (mks kv_22 (ml r40_3.1.Links)) (mds (slD (encL enc_GChange)) (ml r40_3.1.Links))))]) (Old rfl) <| Wz (.agg [(.i r40_3.1.Cap), (.l (encL enc_GChange) r40_3.1.Views), (.l (encL enc_GChange) r40_3.1.Pending), (.d (.mp (Option.isNone r40_3.1.Links) (mks kv_22 (ml r40_3.1.Links)) (mds (slD (encL enc_GChange)) (ml r40_3.1.Links))))]) (Old rfl) ?_
                   obtain ⟨r159_10, hr159_10, hm⟩ := bnd hm
                   refine Wz (.b r159_10) (Ocf [] [] [] 0 (ok_view_Same r40_3.1 r40_3.1 r159_10 hr159_10) (fun a w => Try.call29 a w) rfl trivial) <| Wz (.b r159_10) (OpT rfl) ?_
                   rcases tf_ r159_10 with hq161_10 | hq161_10
                   ·
                    replace hm := cT hq161_10 hm
                    refine Wz (.b true) (Oq hq161_10 rfl) <| Wz (.agg [(.i r35_2.1.Cap), (.l (encL enc_GChange) r35_2.1.Views), (.l (encL enc_GChange) r35_2.1.Pending), (.d (.mp (Option.isNone r35_2.1.Links) (mks kv_22 (ml r35_2.1.Links)) (mds (slD (encL enc_GChange)) (ml r35_2.1.Links))))]) (Old rfl) <| Wz (.agg [(.i r40_3.1.Cap), (.l (encL enc_GChange) r40_3.1.Views), (.l (encL enc_GChange) r40_3.1.Pending), (.d (.mp (Option.isNone r40_3.1.Links) (mks kv_22 (ml r40_3.1.Links)) (mds (slD (encL enc_GChange)) (ml r40_3.1.Links))))]) (Old rfl) ?_
                    obtain ⟨r164_10, hr164_10, hm⟩ := bnd hm
                    refine Wz (.b r164_10) (Ocf [] [] [] 0 (ok_view_Same r35_2.1 r40_3.1 r164_10 hr164_10) (fun a w => Try.call29 a w) rfl trivial) <| Wz (.b (!r164_10)) (Ocs (by kernel_rfl) (op_un rfl (a1 := .bool r164_10) (by kernel_rfl) (fun _ => hu_not))) <| Wz (.b (!r164_10)) (OpT rfl) ?_
                    rcases tf_ (!r164_10) with hq167_10 | hq167_10
                    ·
                     replace hm := cT hq167_10 hm
                     refine Wz (.b true) (Oq hq167_10 rfl) <| Wz (.b true) (OpT rfl) <| Wm (.b true) rfl <| Nn <| Rt ?_
                     obtain rfl := Option.some.inj hm
                     exact ret_i []
                    ·
                     replace hm := cF hq167_10 hm
                     refine Wz (.b false) (Oq hq167_10 rfl) <| Wz (.b false) (OpF rfl) <| Wm (.b false) rfl <| Nn <| Rt ?_
                     obtain rfl := Option.some.inj hm
                     exact ret_i []
                   ·
                    replace hm := cF hq161_10 hm
                    refine Wz (.b false) (Oq hq161_10 rfl) <| Wn <| Wn <| Wn <| Wn <| Wz (.b false) (OpF rfl) <| Wm (.b false) rfl <| Wz (.b false) (OpF rfl) <| Wm (.b false) rfl <| Nn <| Rt ?_
                    obtain rfl := Option.some.inj hm
                    exact ret_i []
                  ·
                   replace hm := cF hq156_10 hm
                   refine Wz (.b false) (Oq hq156_10 rfl) <| Wn <| Wn <| Wn <| Wz (.b false) (OpF rfl) <| Wm (.b false) rfl <| Wn <| Wn <| Wn <| Wn <| Wz (.b false) (OpF rfl) <| Wm (.b false) rfl <| Wz (.b false) (OpF rfl) <| Wm (.b false) rfl ?_
                   refine Nn <| Rt ?_
                   obtain rfl := Option.some.inj hm
                   exact ret_i []
                 ·
                  replace hm := cF hq151_10 hm
                  refine Wz (.b false) (Oq hq151_10 rfl) <| Wn <| Wn <| Wn <| Wz (.b false) (OpF rfl) <| Wm (.b false) rfl <| Wn <| Wn <| Wn <| Wz (.b false) (OpF rfl) <| Wm (.b false) rfl <| Wn <| Wn <| Wn ?_
                  refine Wn <| Wz (.b false) (OpF rfl) <| Wm (.b false) rfl <| Wz (.b false) (OpF rfl) <| Wm (.b false) rfl <| Nn <| Rt ?_
                  obtain rfl := Option.some.inj hm
                  exact ret_i []
                ·
                 replace hm := cF hq147_10 hm
                 refine Wz (.b false) (Oq hq147_10 rfl) <| Wn <| Wn <| Wz (.b false) (OpF rfl) <| Wm (.b false) rfl <| Wn <| Wn <| Wn <| Wz (.b false) (OpF rfl) <| Wm (.b false) rfl <| Wn <| Wn <| Wn <| Wz (.b false) (OpF rfl) ?_
                 refine Wm (.b false) rfl <| Wn <| Wn <| Wn <| Wn <| Wz (.b false) (OpF rfl) <| Wm (.b false) rfl <| Wz (.b false) (OpF rfl) <| Wm (.b false) rfl <| Nn <| Rt ?_
                 obtain rfl := Option.some.inj hm
                 exact ret_i []
               ·
                replace hm := cF hq141_10 hm
                refine Wz (.b false) (Oq hq141_10 rfl) <| Wn <| Wn <| Wn <| Wn <| Wz (.b false) (OpF rfl) <| Wm (.b false) rfl <| Wn <| Wn <| Wz (.b false) (OpF rfl) <| Wm (.b false) rfl <| Wn <| Wn <| Wn ?_
                refine Wz (.b false) (OpF rfl) <| Wm (.b false) rfl <| Wn <| Wn <| Wn <| Wz (.b false) (OpF rfl) <| Wm (.b false) rfl <| Wn <| Wn <| Wn <| Wn <| Wz (.b false) (OpF rfl) <| Wm (.b false) rfl <| Wz (.b false) (OpF rfl) ?_
                refine Wm (.b false) rfl <| Nn <| Rt ?_
                obtain rfl := Option.some.inj hm
                exact ret_i []
              ·
               replace hm := cF hq135_10 hm
               refine Wz (.b false) (Oq hq135_10 rfl) <| Wn <| Wn <| Wn <| Wn <| Wz (.b false) (OpF rfl) <| Wm (.b false) rfl <| Wn <| Wn <| Wn <| Wn <| Wz (.b false) (OpF rfl) <| Wm (.b false) rfl <| Wn ?_
               refine Wn <| Wz (.b false) (OpF rfl) <| Wm (.b false) rfl <| Wn <| Wn <| Wn <| Wz (.b false) (OpF rfl) <| Wm (.b false) rfl <| Wn <| Wn <| Wn <| Wz (.b false) (OpF rfl) <| Wm (.b false) rfl <| Wn ?_
               refine Wn <| Wn <| Wn <| Wz (.b false) (OpF rfl) <| Wm (.b false) rfl <| Wz (.b false) (OpF rfl) <| Wm (.b false) rfl <| Nn <| Rt ?_
               obtain rfl := Option.some.inj hm
               exact ret_i []
             ·
              replace hm := cF hq129_10 hm
              refine Wz (.b false) (Oq hq129_10 rfl) <| Wn <| Wn <| Wn <| Wn <| Wz (.b false) (OpF rfl) <| Wm (.b false) rfl <| Wn <| Wn <| Wn <| Wn <| Wz (.b false) (OpF rfl) <| Wm (.b false) rfl <| Wn ?_
              refine Wn <| Wn <| Wn <| Wz (.b false) (OpF rfl) <| Wm (.b false) rfl <| Wn <| Wn <| Wz (.b false) (OpF rfl) <| Wm (.b false) rfl <| Wn <| Wn <| Wn <| Wz (.b false) (OpF rfl) <| Wm (.b false) rfl ?_
              refine Wn <| Wn <| Wn <| Wz (.b false) (OpF rfl) <| Wm (.b false) rfl <| Wn <| Wn <| Wn <| Wn <| Wz (.b false) (OpF rfl) <| Wm (.b false) rfl <| Wz (.b false) (OpF rfl) <| Wm (.b false) rfl <| Nn ?_
              refine Rt ?_
              obtain rfl := Option.some.inj hm
              exact ret_i []
            ·
             replace hm := cF hq124_10 hm
             refine Wz (.b false) (Oq hq124_10 rfl) <| Wn <| Wn <| Wn <| Wz (.b false) (OpF rfl) <| Wm (.b false) rfl <| Wn <| Wn <| Wn <| Wn <| Wz (.b false) (OpF rfl) <| Wm (.b false) rfl <| Wn <| Wn ?_
             refine Wn <| Wn <| Wz (.b false) (OpF rfl) <| Wm (.b false) rfl <| Wn <| Wn <| Wn <| Wn <| Wz (.b false) (OpF rfl) <| Wm (.b false) rfl <| Wn <| Wn <| Wz (.b false) (OpF rfl) <| Wm (.b false) rfl ?_
             refine Wn <| Wn <| Wn <| Wz (.b false) (OpF rfl) <| Wm (.b false) rfl <| Wn <| Wn <| Wn <| Wz (.b false) (OpF rfl) <| Wm (.b false) rfl <| Wn <| Wn <| Wn <| Wn ?_
             refine Wz (.b false) (OpF rfl) <| Wm (.b false) rfl <| Wz (.b false) (OpF rfl) <| Wm (.b false) rfl <| Nn <| Rt ?_
             obtain rfl := Option.some.inj hm
             exact ret_i []
           ·
            replace hm := cF hq119_10 hm
            refine Wz (.b false) (Oq hq119_10 rfl) <| Wn <| Wn <| Wn <| Wz (.b false) (OpF rfl) <| Wm (.b false) rfl <| Wn <| Wn <| Wn <| Wz (.b false) (OpF rfl) <| Wm (.b false) rfl <| Wn <| Wn <| Wn ?_
            refine Wn <| Wz (.b false) (OpF rfl) <| Wm (.b false) rfl <| Wn <| Wn <| Wn <| Wn <| Wz (.b false) (OpF rfl) <| Wm (.b false) rfl <| Wn <| Wn <| Wn <| Wn <| Wz (.b false) (OpF rfl) ?_
            refine Wm (.b false) rfl <| Wn <| Wn <| Wz (.b false) (OpF rfl) <| Wm (.b false) rfl <| Wn <| Wn <| Wn <| Wz (.b false) (OpF rfl) <| Wm (.b false) rfl <| Wn <| Wn <| Wn <| Wz (.b false) (OpF rfl) ?_
            refine Wm (.b false) rfl <| Wn <| Wn <| Wn <| Wn <| Wz (.b false) (OpF rfl) <| Wm (.b false) rfl <| Wz (.b false) (OpF rfl) <| Wm (.b false) rfl <| Nn <| Rt ?_
            obtain rfl := Option.some.inj hm
            exact ret_i []
          ·
           replace hm := cF hq114_10 hm
           refine Wz (.b false) (Oq hq114_10 rfl) <| Wn <| Wn <| Wn <| Wz (.b false) (OpF rfl) <| Wm (.b false) rfl <| Wn <| Wn <| Wn <| Wz (.b false) (OpF rfl) <| Wm (.b false) rfl <| Wn <| Wn <| Wn ?_
           refine Wz (.b false) (OpF rfl) <| Wm (.b false) rfl <| Wn <| Wn <| Wn <| Wn <| Wz (.b false) (OpF rfl) <| Wm (.b false) rfl <| Wn <| Wn <| Wn <| Wn <| Wz (.b false) (OpF rfl) <| Wm (.b false) rfl ?_
           refine Wn <| Wn <| Wn <| Wn <| Wz (.b false) (OpF rfl) <| Wm (.b false) rfl <| Wn <| Wn <| Wz (.b false) (OpF rfl) <| Wm (.b false) rfl <| Wn <| Wn <| Wn <| Wz (.b false) (OpF rfl) ?_
           refine Wm (.b false) rfl <| Wn <| Wn <| Wn <| Wz (.b false) (OpF rfl) <| Wm (.b false) rfl <| Wn <| Wn <| Wn <| Wn <| Wz (.b false) (OpF rfl) <| Wm (.b false) rfl <| Wz (.b false) (OpF rfl) <| Wm (.b false) rfl ?_
           refine Nn <| Rt ?_
           obtain rfl := Option.some.inj hm
           exact ret_i []
         ·
          replace hm := cF hq109_10 hm
          refine Wz (.b false) (Oq hq109_10 rfl) <| Wn <| Wn <| Wn <| Wz (.b false) (OpF rfl) <| Wm (.b false) rfl <| Wn <| Wn <| Wn <| Wz (.b false) (OpF rfl) <| Wm (.b false) rfl <| Wn <| Wn <| Wn ?_
          refine Wz (.b false) (OpF rfl) <| Wm (.b false) rfl <| Wn <| Wn <| Wn <| Wz (.b false) (OpF rfl) <| Wm (.b false) rfl <| Wn <| Wn <| Wn <| Wn <| Wz (.b false) (OpF rfl) <| Wm (.b false) rfl <| Wn ?_
          refine Wn <| Wn <| Wn <| Wz (.b false) (OpF rfl) <| Wm (.b false) rfl <| Wn <| Wn <| Wn <| Wn <| Wz (.b false) (OpF rfl) <| Wm (.b false) rfl <| Wn <| Wn <| Wz (.b false) (OpF rfl) ?_
          refine Wm (.b false) rfl <| Wn <| Wn <| Wn <| Wz (.b false) (OpF rfl) <| Wm (.b false) rfl <| Wn <| Wn <| Wn <| Wz (.b false) (OpF rfl) <| Wm (.b false) rfl <| Wn <| Wn <| Wn ?_
          refine Wn <| Wz (.b false) (OpF rfl) <| Wm (.b false) rfl <| Wz (.b false) (OpF rfl) <| Wm (.b false) rfl <| Nn <| Rt ?_
          obtain rfl := Option.some.inj hm
          exact ret_i []
        ·
         replace hm := cF hq105_10 hm
         refine Wz (.b false) (Oq hq105_10 rfl) <| Wn <| Wn <| Wz (.b false) (OpF rfl) <| Wm (.b false) rfl <| Wn <| Wn <| Wn <| Wz (.b false) (OpF rfl) <| Wm (.b false) rfl <| Wn <| Wn <| Wn <| Wz (.b false) (OpF rfl) ?_
         refine Wm (.b false) rfl <| Wn <| Wn <| Wn <| Wz (.b false) (OpF rfl) <| Wm (.b false) rfl <| Wn <| Wn <| Wn <| Wz (.b false) (OpF rfl) <| Wm (.b false) rfl <| Wn <| Wn <| Wn ?_
         refine Wn <| Wz (.b false) (OpF rfl) <| Wm (.b false) rfl <| Wn <| Wn <| Wn <| Wn <| Wz (.b false) (OpF rfl) <| Wm (.b false) rfl <| Wn <| Wn <| Wn <| Wn <| Wz (.b false) (OpF rfl) ?_
         refine Wm (.b false) rfl <| Wn <| Wn <| Wz (.b false) (OpF rfl) <| Wm (.b false) rfl <| Wn <| Wn <| Wn <| Wz (.b false) (OpF rfl) <| Wm (.b false) rfl <| Wn <| Wn <| Wn <| Wz (.b false) (OpF rfl) ?_
         refine Wm (.b false) rfl <| Wn <| Wn <| Wn <| Wn <| Wz (.b false) (OpF rfl) <| Wm (.b false) rfl <| Wz (.b false) (OpF rfl) <| Wm (.b false) rfl <| Nn <| Rt ?_
         obtain rfl := Option.some.inj hm
         exact ret_i []
       ·
        replace hm := cF hq101_10 hm
        refine Wz (.b false) (Oq hq101_10 rfl) <| Wn <| Wn <| Wz (.b false) (OpF rfl) <| Wm (.b false) rfl <| Wn <| Wn <| Wz (.b false) (OpF rfl) <| Wm (.b false) rfl <| Wn <| Wn <| Wn <| Wz (.b false) (OpF rfl) <| Wm (.b false) rfl ?_
        refine Wn <| Wn <| Wn <| Wz (.b false) (OpF rfl) <| Wm (.b false) rfl <| Wn <| Wn <| Wn <| Wz (.b false) (OpF rfl) <| Wm (.b false) rfl <| Wn <| Wn <| Wn <| Wz (.b false) (OpF rfl) ?_
        refine Wm (.b false) rfl <| Wn <| Wn <| Wn <| Wn <| Wz (.b false) (OpF rfl) <| Wm (.b false) rfl <| Wn <| Wn <| Wn <| Wn <| Wz (.b false) (OpF rfl) <| Wm (.b false) rfl <| Wn ?_
        refine Wn <| Wn <| Wn <| Wz (.b false) (OpF rfl) <| Wm (.b false) rfl <| Wn <| Wn <| Wz (.b false) (OpF rfl) <| Wm (.b false) rfl <| Wn <| Wn <| Wn <| Wz (.b false) (OpF rfl) <| Wm (.b false) rfl ?_
        refine Wn <| Wn <| Wn <| Wz (.b false) (OpF rfl) <| Wm (.b false) rfl <| Wn <| Wn <| Wn <| Wn <| Wz (.b false) (OpF rfl) <| Wm (.b false) rfl <| Wz (.b false) (OpF rfl) <| Wm (.b false) rfl <| Nn ?_
        refine Rt ?_
        obtain rfl := Option.some.inj hm
        exact ret_i []
      ·
       replace hm := cF hq97_10 hm
       refine Wz (.b false) (Oq hq97_10 rfl) <| Wn <| Wn <| Wz (.b false) (OpF rfl) <| Wm (.b false) rfl <| Wn <| Wn <| Wz (.b false) (OpF rfl) <| Wm (.b false) rfl <| Wn <| Wn <| Wz (.b false) (OpF rfl) <| Wm (.b false) rfl <| Wn ?_
       refine Wn <| Wn <| Wz (.b false) (OpF rfl) <| Wm (.b false) rfl <| Wn <| Wn <| Wn <| Wz (.b false) (OpF rfl) <| Wm (.b false) rfl <| Wn <| Wn <| Wn <| Wz (.b false) (OpF rfl) <| Wm (.b false) rfl ?_
       refine Wn <| Wn <| Wn <| Wz (.b false) (OpF rfl) <| Wm (.b false) rfl <| Wn <| Wn <| Wn <| Wn <| Wz (.b false) (OpF rfl) <| Wm (.b false) rfl <| Wn <| Wn <| Wn ?_
       refine Wn <| Wz (.b false) (OpF rfl) <| Wm (.b false) rfl <| Wn <| Wn <| Wn <| Wn <| Wz (.b false) (OpF rfl) <| Wm (.b false) rfl <| Wn <| Wn <| Wz (.b false) (OpF rfl) <| Wm (.b false) rfl <| Wn ?_
       refine Wn <| Wn <| Wz (.b false) (OpF rfl) <| Wm (.b false) rfl <| Wn <| Wn <| Wn <| Wz (.b false) (OpF rfl) <| Wm (.b false) rfl <| Wn <| Wn <| Wn <| Wn <| Wz (.b false) (OpF rfl) ?_
       refine Wm (.b false) rfl <| Wz (.b false) (OpF rfl) <| Wm (.b false) rfl <| Nn <| Rt ?_
       obtain rfl := Option.some.inj hm
       exact ret_i []
     ·
      replace hm := cF hq93_10 hm
      refine Wz (.b false) (Oq hq93_10 rfl) <| Wn <| Wn <| Wz (.b false) (OpF rfl) <| Wm (.b false) rfl <| Wn <| Wn <| Wz (.b false) (OpF rfl) <| Wm (.b false) rfl <| Wn <| Wn <| Wz (.b false) (OpF rfl) <| Wm (.b false) rfl <| Wn ?_
      refine Wn <| Wz (.b false) (OpF rfl) <| Wm (.b false) rfl <| Wn <| Wn <| Wn <| Wz (.b false) (OpF rfl) <| Wm (.b false) rfl <| Wn <| Wn <| Wn <| Wz (.b false) (OpF rfl) <| Wm (.b false) rfl <| Wn ?_
      refine Wn <| Wn <| Wz (.b false) (OpF rfl) <| Wm (.b false) rfl <| Wn <| Wn <| Wn <| Wz (.b false) (OpF rfl) <| Wm (.b false) rfl <| Wn <| Wn <| Wn <| Wn <| Wz (.b false) (OpF rfl) ?_
      refine Wm (.b false) rfl <| Wn <| Wn <| Wn <| Wn <| Wz (.b false) (OpF rfl) <| Wm (.b false) rfl <| Wn <| Wn <| Wn <| Wn <| Wz (.b false) (OpF rfl) <| Wm (.b false) rfl <| Wn ?_
      refine Wn <| Wz (.b false) (OpF rfl) <| Wm (.b false) rfl <| Wn <| Wn <| Wn <| Wz (.b false) (OpF rfl) <| Wm (.b false) rfl <| Wn <| Wn <| Wn <| Wz (.b false) (OpF rfl) <| Wm (.b false) rfl <| Wn ?_
      refine Wn <| Wn <| Wn <| Wz (.b false) (OpF rfl) <| Wm (.b false) rfl <| Wz (.b false) (OpF rfl) <| Wm (.b false) rfl <| Nn <| Rt ?_
      obtain rfl := Option.some.inj hm
      exact ret_i []
    ·
     replace hm := cF hq89_10 hm
     refine Wz (.b false) (Oq hq89_10 rfl) <| Wn <| Wn <| Wz (.b false) (OpF rfl) <| Wm (.b false) rfl <| Wn <| Wn <| Wz (.b false) (OpF rfl) <| Wm (.b false) rfl <| Wn <| Wn <| Wz (.b false) (OpF rfl) <| Wm (.b false) rfl <| Wn ?_
     refine Wn <| Wz (.b false) (OpF rfl) <| Wm (.b false) rfl <| Wn <| Wn <| Wz (.b false) (OpF rfl) <| Wm (.b false) rfl <| Wn <| Wn <| Wn <| Wz (.b false) (OpF rfl) <| Wm (.b false) rfl <| Wn <| Wn ?_
     refine Wn <| Wz (.b false) (OpF rfl) <| Wm (.b false) rfl <| Wn <| Wn <| Wn <| Wz (.b false) (OpF rfl) <| Wm (.b false) rfl <| Wn <| Wn <| Wn <| Wz (.b false) (OpF rfl) <| Wm (.b false) rfl <| Wn ?_
     refine Wn <| Wn <| Wn <| Wz (.b false) (OpF rfl) <| Wm (.b false) rfl <| Wn <| Wn <| Wn <| Wn <| Wz (.b false) (OpF rfl) <| Wm (.b false) rfl <| Wn <| Wn <| Wn ?_
     refine Wn <| Wz (.b false) (OpF rfl) <| Wm (.b false) rfl <| Wn <| Wn <| Wz (.b false) (OpF rfl) <| Wm (.b false) rfl <| Wn <| Wn <| Wn <| Wz (.b false) (OpF rfl) <| Wm (.b false) rfl <| Wn <| Wn ?_
     refine Wn <| Wz (.b false) (OpF rfl) <| Wm (.b false) rfl <| Wn <| Wn <| Wn <| Wn <| Wz (.b false) (OpF rfl) <| Wm (.b false) rfl <| Wz (.b false) (OpF rfl) <| Wm (.b false) rfl <| Nn <| Rt ?_
     obtain rfl := Option.some.inj hm
     exact ret_i []
   ·
    replace hm := cF hq85_10 hm
    refine Wz (.b false) (Oq hq85_10 rfl) <| Wn <| Wn <| Wz (.b false) (OpF rfl) <| Wm (.b false) rfl <| Wn <| Wn <| Wz (.b false) (OpF rfl) <| Wm (.b false) rfl <| Wn <| Wn <| Wz (.b false) (OpF rfl) <| Wm (.b false) rfl <| Wn ?_
    refine Wn <| Wz (.b false) (OpF rfl) <| Wm (.b false) rfl <| Wn <| Wn <| Wz (.b false) (OpF rfl) <| Wm (.b false) rfl <| Wn <| Wn <| Wz (.b false) (OpF rfl) <| Wm (.b false) rfl <| Wn <| Wn <| Wn ?_
    refine Wz (.b false) (OpF rfl) <| Wm (.b false) rfl <| Wn <| Wn <| Wn <| Wz (.b false) (OpF rfl) <| Wm (.b false) rfl <| Wn <| Wn <| Wn <| Wz (.b false) (OpF rfl) <| Wm (.b false) rfl <| Wn <| Wn ?_
    refine Wn <| Wz (.b false) (OpF rfl) <| Wm (.b false) rfl <| Wn <| Wn <| Wn <| Wn <| Wz (.b false) (OpF rfl) <| Wm (.b false) rfl <| Wn <| Wn <| Wn <| Wn <| Wz (.b false) (OpF rfl) ?_
    refine Wm (.b false) rfl <| Wn <| Wn <| Wn <| Wn <| Wz (.b false) (OpF rfl) <| Wm (.b false) rfl <| Wn <| Wn <| Wz (.b false) (OpF rfl) <| Wm (.b false) rfl <| Wn <| Wn <| Wn ?_
    refine Wz (.b false) (OpF rfl) <| Wm (.b false) rfl <| Wn <| Wn <| Wn <| Wz (.b false) (OpF rfl) <| Wm (.b false) rfl <| Wn <| Wn <| Wn <| Wn <| Wz (.b false) (OpF rfl) <| Wm (.b false) rfl <| Wz (.b false) (OpF rfl) ?_
    refine Wm (.b false) rfl <| Nn <| Rt ?_
    obtain rfl := Option.some.inj hm
    exact ret_i []
  ·
   replace hm := cF hq81_10 hm
   refine Wz (.b false) (Oq hq81_10 rfl) <| Wn <| Wn <| Wz (.b false) (OpF rfl) <| Wm (.b false) rfl <| Wn <| Wn <| Wz (.b false) (OpF rfl) <| Wm (.b false) rfl <| Wn <| Wn <| Wz (.b false) (OpF rfl) <| Wm (.b false) rfl <| Wn ?_
   refine Wn <| Wz (.b false) (OpF rfl) <| Wm (.b false) rfl <| Wn <| Wn <| Wz (.b false) (OpF rfl) <| Wm (.b false) rfl <| Wn <| Wn <| Wz (.b false) (OpF rfl) <| Wm (.b false) rfl <| Wn <| Wn <| Wz (.b false) (OpF rfl) ?_
   refine Wm (.b false) rfl <| Wn <| Wn <| Wn <| Wz (.b false) (OpF rfl) <| Wm (.b false) rfl <| Wn <| Wn <| Wn <| Wz (.b false) (OpF rfl) <| Wm (.b false) rfl <| Wn <| Wn <| Wn ?_
   refine Wz (.b false) (OpF rfl) <| Wm (.b false) rfl <| Wn <| Wn <| Wn <| Wz (.b false) (OpF rfl) <| Wm (.b false) rfl <| Wn <| Wn <| Wn <| Wn <| Wz (.b false) (OpF rfl) <| Wm (.b false) rfl <| Wn ?_
   refine Wn <| Wn <| Wn <| Wz (.b false) (OpF rfl) <| Wm (.b false) rfl <| Wn <| Wn <| Wn <| Wn <| Wz (.b false) (OpF rfl) <| Wm (.b false) rfl <| Wn <| Wn <| Wz (.b false) (OpF rfl) ?_
   refine Wm (.b false) rfl <| Wn <| Wn <| Wn <| Wz (.b false) (OpF rfl) <| Wm (.b false) rfl <| Wn <| Wn <| Wn <| Wz (.b false) (OpF rfl) <| Wm (.b false) rfl <| Wn <| Wn <| Wn ?_
   refine Wn <| Wz (.b false) (OpF rfl) <| Wm (.b false) rfl <| Wz (.b false) (OpF rfl) <| Wm (.b false) rfl <| Nn <| Rt ?_
   obtain rfl := Option.some.inj hm
   exact ret_i []
 ·
  replace hm := cF hq77_10 hm
  refine Wz (.b false) (Oq hq77_10 rfl) <| Wn <| Wn <| Wz (.b false) (OpF rfl) <| Wm (.b false) rfl <| Wn <| Wn <| Wz (.b false) (OpF rfl) <| Wm (.b false) rfl <| Wn <| Wn <| Wz (.b false) (OpF rfl) <| Wm (.b false) rfl <| Wn ?_
  refine Wn <| Wz (.b false) (OpF rfl) <| Wm (.b false) rfl <| Wn <| Wn <| Wz (.b false) (OpF rfl) <| Wm (.b false) rfl <| Wn <| Wn <| Wz (.b false) (OpF rfl) <| Wm (.b false) rfl <| Wn <| Wn <| Wz (.b false) (OpF rfl) ?_
  refine Wm (.b false) rfl <| Wn <| Wn <| Wz (.b false) (OpF rfl) <| Wm (.b false) rfl <| Wn <| Wn <| Wn <| Wz (.b false) (OpF rfl) <| Wm (.b false) rfl <| Wn <| Wn <| Wn <| Wz (.b false) (OpF rfl) ?_
  refine Wm (.b false) rfl <| Wn <| Wn <| Wn <| Wz (.b false) (OpF rfl) <| Wm (.b false) rfl <| Wn <| Wn <| Wn <| Wz (.b false) (OpF rfl) <| Wm (.b false) rfl <| Wn <| Wn <| Wn ?_
  refine Wn <| Wz (.b false) (OpF rfl) <| Wm (.b false) rfl <| Wn <| Wn <| Wn <| Wn <| Wz (.b false) (OpF rfl) <| Wm (.b false) rfl <| Wn <| Wn <| Wn <| Wn <| Wz (.b false) (OpF rfl) ?_
  refine Wm (.b false) rfl <| Wn <| Wn <| Wz (.b false) (OpF rfl) <| Wm (.b false) rfl <| Wn <| Wn <| Wn <| Wz (.b false) (OpF rfl) <| Wm (.b false) rfl <| Wn <| Wn <| Wn <| Wz (.b false) (OpF rfl) ?_
  refine Wm (.b false) rfl <| Wn <| Wn <| Wn <| Wn <| Wz (.b false) (OpF rfl) <| Wm (.b false) rfl <| Wz (.b false) (OpF rfl) <| Wm (.b false) rfl <| Nn <| Rt ?_
  obtain rfl := Option.some.inj hm
  exact ret_i []

theorem ok_w26_Own (p0 : (List GChange)) (r : (List GChange)) (h : m_w26_Own p0 = some r) : GCall Try.prog 9 [(.l enc_GChange p0)] [] (.own 0) [(Ar 84 3 enc_GChange r)] := by
 refine GCall.of_body (n := 19) (rs := [(.tmp 2)]) Try.func9 rfl rfl rfl <| Ato ⟨.l enc_GChange p0::tu 18 [], [], 0⟩ ?_
 have hm := h
 unfold m_w26_Own at hm
 refine Sx <| Wm (.d .nil) rfl <| Nk 1 0 ⟨.l enc_GChange p0::tp 18 [], [], 0⟩ <| Sx <| Wm (.d .nil) rfl <| Nk 9 0 ⟨.l enc_GChange p0::tp 2 (.d .nil::tp 15 []), [], 0⟩ <| Sq <| Sx <| Wm (.i 0) rfl <| Nk 25 0 ⟨.l enc_GChange p0::tp 2 (.d .nil::.i 0::tp 14 []), [], 0⟩ <| Bk <| Aow 3 84 3 ⟨.l enc_GChange p0::tp 2 (.own 0::.i 0::tp 14 []), [(Ar 84 3 enc_GChange ([] : List GChange))], 0⟩ ?_
 refine AWP.loopI (α := Nat × (List GChange) × Int)
   (fun (fu_0, y3_0, y4_0) => (⟨.l enc_GChange p0::tp 2 (.own 0::.i y4_0::tp 14 []), [(Ar 84 3 enc_GChange y3_0)], 0⟩ : St))
   (fun (fu_0, y3_0, y4_0) => m_w26_Own_l0 p0 fu_0 y3_0 y4_0 = some r)
   (fun (fu_0, y3_0, y4_0) => fu_0) (1152921504606846976, ([] : List GChange), 0)
   (Weak.toK 25 0 0 [0]) hm ?_
 rintro ⟨fu_0, y3_0, y4_0⟩ n_0 hm ih_0
 try dsimp only at hm ih_0 ⊢
 cases fu_0 with
 | zero => exact absurd hm (by unfold m_w26_Own_l0; simp)
 | succ fu_0 =>
  unfold m_w26_Own_l0 at hm
  refine Sq <| Sx <| Wm (.i y4_0) rfl <| Wm (.l enc_GChange p0) rfl <| Wz (.i ((List.length p0 : Nat) : Int)) (Oln rfl) <| Wz (.b (decide (y4_0 < ((List.length p0 : Nat) : Int)))) (Obn rfl (fun _ => hb_lss (k := .i64))) <| Nk 281 1 ⟨.l enc_GChange p0::tp 2 (.own 0::.i y4_0::tp 3 (.b (decide (y4_0 < ((List.length p0 : Nat) : Int)))::tp 10 [])), [(Ar 84 3 enc_GChange y3_0)], 0⟩ ?_
  rcases tf_ (decide (y4_0 < ((List.length p0 : Nat) : Int))) with hc8_3 | hc8_3
  ·
   replace hm := cT hc8_3 hm
   refine AiT hc8_3 <| Sk <| Tk 25 1 ⟨.l enc_GChange p0::tp 2 (.own 0::.i y4_0::tp 14 []), [(Ar 84 3 enc_GChange y3_0)], 0⟩ <| Sq <| Bk <| Tx <| Wm (.own 0) rfl <| Wm (.l enc_GChange p0) rfl <| Wm (.i y4_0) rfl ?_
   obtain ⟨x14_2, hx14_2, hm⟩ := bnd hm
   obtain ⟨hx14_2i, hx14_2g⟩ := geti_some hx14_2
   refine Wz (.d (.ref (List.drop ((Int.toNat y4_0) * 3) (flatD enc_GChange p0)))) (Oia rfl enc_GChange_len hx14_2i hx14_2g) <| Wz (.agg [(.i x14_2.Loc), (.i x14_2.Time), (.i x14_2.N)]) (Lf rfl enc_GChange_len hx14_2g) <| Wy (.own 1) [(1, (Ar 84 3 enc_GChange ([x14_2] : List GChange)))] (Obs rfl) ?_
   obtain ⟨a17_2, ha17_2, hm⟩ := bnd hm; obtain ⟨ha17_2e, ha17_2l⟩ := app_some ha17_2
   refine Wy (.own 2) [(0, .gone), (2, (Ar 84 3 enc_GChange a17_2))] (Oap rfl elemOK_34 enc_GChange_len ha17_2e ha17_2l) <| Wm (.own 2) rfl <| Wn0 <| Ino <| Tk 25 4 ⟨.l enc_GChange p0::tp 2 (.own 2::.i y4_0::tp 14 []), [.gone, .gone, (Ar 84 3 enc_GChange a17_2)], 0⟩ <| Tx <| Wm (.i y4_0) rfl <| Wz (.i (W6 (y4_0 + 1))) (Obn rfl (fun _ => hb_add (k := .i64))) <| Wm (.i (W6 (y4_0 + 1))) rfl <| Wn0 <| RoundK.normal ?_
   exact Rounds.weak (Weak.toK 25 0 0 [2]) (ih_0 (fu_0, a17_2, (W6 (y4_0 + 1))) hm (Nat.lt_succ_self _))
  ·
   replace hm := cF hc8_3 hm
   refine AiF hc8_3 <| AWP.exit <| Then.exit <| RoundK.exit <| InBlock.same <| Tk 8 1 ⟨tp 3 (.own 0::tp 15 []), [(Ar 84 3 enc_GChange y3_0)], 0⟩ <| Sx <| Wm (.own 0) rfl <| Wm (.own 0) rfl <| Nn <| Rt ?_
   obtain rfl := Option.some.inj hm
   exact ret_i [0]

theorem ok_w29_ViewTruth (p0 : GArr2_Int) (p1 : (List GChange)) (p2 : (List GOp_)) (r : Bool) (h : m_w29_ViewTruth p0 p1 p2 = some r) : GCall Try.prog 4 [(.agg [(.i p0.a0), (.i p0.a1)]), (.l enc_GChange p1), (.l enc_GOp_ p2)] [] (.b r) [] := by
 refine GCall.of_body (n := 159) (rs := [(.tmp 6)]) Try.func4 rfl rfl rfl <| Ato ⟨.agg [(.i p0.a0), (.i p0.a1)]::.l enc_GChange p1::.l enc_GOp_ p2::tu 156 [], [], 0⟩ ?_
 have hm := h
 unfold m_w29_ViewTruth at hm
 refine Sx <| Wy (.loc 0 0) [(0, (.box [(.i p0.a0), (.i p0.a1)]))] (Obx rfl) <| Wm (.b false) rfl <| Nk 14 1 ⟨tp 1 (.l enc_GChange p1::.l enc_GOp_ p2::.loc 0 0::tp 155 []), [(.box [(.i p0.a0), (.i p0.a1)])], 0⟩ <| Sq <| Sx <| Wm (.l enc_GChange p1) rfl ?_
 obtain ⟨r15_0, hr15_0, hm⟩ := bnd hm
 refine Wz (.i r15_0) (Ocf [] [] [] 0 (ok_w26_Over p1 r15_0 hr15_0) (fun a w => Try.call6 a w) rfl trivial) <| Wz (.b (decide ((0 : Int) < r15_0))) (Obn rfl (fun _ => hb_gtr (k := .i64))) ?_
 rcases tf_ (decide ((0 : Int) < r15_0)) with hq17_0 | hq17_0
 ·
  replace hm := cT hq17_0 hm
  refine Wz (.b true) (Oq hq17_0 rfl) <| Wn <| Wn <| Wn <| Wz (.b true) (OpT rfl) <| Nk 2097166 1 ⟨tp 1 (.l enc_GChange p1::.l enc_GOp_ p2::.loc 0 0::tp 17 (.b true::tp 137 [])), [(.box [(.i p0.a0), (.i p0.a1)])], 0⟩ <| AWP.if_ true (by kernel_rfl) <| Sx ?_
  obtain ⟨r22_1, hr22_1, hm⟩ := bnd hm
  refine Wz (.b r22_1) (Ocf [] [] [] 0 (ok_w29_awake  r22_1 hr22_1) (fun a w => Try.call7 a w) rfl trivial) <| Wm (.b r22_1) rfl <| Nn <| Rt <| Tr ?_
  obtain rfl := Option.some.inj hm
  exact ret_i []
 ·
  replace hm := cF hq17_0 hm
  refine Wz (.b false) (Oq hq17_0 rfl) <| Wm (.l enc_GOp_ p2) rfl <| Wz (.i ((List.length p2 : Nat) : Int)) (Oln rfl) <| Wz (.b (decide ((14 : Int) < ((List.length p2 : Nat) : Int)))) (Obn rfl (fun _ => hb_gtr (k := .i64))) <| Wz (.b (decide ((14 : Int) < ((List.length p2 : Nat) : Int)))) (OpF rfl) <| Nk 2097166 1 ⟨tp 1 (.l enc_GChange p1::.l enc_GOp_ p2::.loc 0 0::tp 17 (.b (decide ((14 : Int) < ((List.length p2 : Nat) : Int)))::tp 137 [])), [(.box [(.i p0.a0), (.i p0.a1)])], 0⟩ ?_
  rcases tf_ (decide ((14 : Int) < ((List.length p2 : Nat) : Int))) with hc21_23 | hc21_23
  ·
   replace hm := cT hc21_23 hm
   refine AiT hc21_23 <| Sx ?_
   obtain ⟨r22_2, hr22_2, hm⟩ := bnd hm
   refine Wz (.b r22_2) (Ocf [] [] [] 0 (ok_w29_awake  r22_2 hr22_2) (fun a w => Try.call7 a w) rfl trivial) <| Wm (.b r22_2) rfl <| Nn <| Rt <| Tr ?_
   obtain rfl := Option.some.inj hm
   exact ret_i []
  ·
   replace hm := cF hc21_23 hm
   refine AiF hc21_23 <| Sk <| Tk 14 1 ⟨tp 1 (.l enc_GChange p1::.l enc_GOp_ p2::.loc 0 0::tp 155 []), [(.box [(.i p0.a0), (.i p0.a1)])], 0⟩ <| Sq <| Adr <| Wz (.loc 0 0) (Ocs (by kernel_rfl) (op_iaddr_arr rfl (n := 2) (sz := 1) (y := (.loc 0 0)) (by kernel_rfl) (by kernel_rfl) (by kernel_rfl) (k := .i64) (iv := 0) (by kernel_rfl) (i := 0) (by rfl) (by decide))) <| Wz (.i p0.a0) (Old rfl) <| Wz (.loc 0 1) (Ocs (by kernel_rfl) (op_iaddr_arr rfl (n := 2) (sz := 1) (y := (.loc 0 0)) (by kernel_rfl) (by kernel_rfl) (by kernel_rfl) (k := .i64) (iv := 1) (by kernel_rfl) (i := 1) (by rfl) (by decide))) <| Wz (.i p0.a1) (Old rfl) <| Wm (.l enc_GChange p1) rfl ?_
   obtain ⟨r29_3, hr29_3, hm⟩ := bnd hm
   refine Wy (.own 1) [(1, (Ar 84 3 enc_GChange r29_3))] (Ocf [] [1] [] 0 (ok_w26_Own p1 r29_3 hr29_3) (fun a w => Try.call9 a w) rfl trivial) ?_
   obtain ⟨r30_3, hr30_3, hm⟩ := bnd hm
   refine Wy (.tup [(.agg [(.i r30_3.1.Cap), (.own 2), (.own 3), (.d (.mp (Option.isNone r30_3.1.Links) (mks kv_22 (ml r30_3.1.Links)) (mds (slD (encL enc_GChange)) (ml r30_3.1.Links))))]), (.i r30_3.2)]) [(2, (.arr 34 1 (List.length r30_3.1.Views) (flatD (encL enc_GChange) r30_3.1.Views))), (3, (.arr 34 1 (List.length r30_3.1.Pending) (flatD (encL enc_GChange) r30_3.1.Pending))), (1, (.fro 84 3 (List.length r29_3) (flatD enc_GChange r29_3)))] (Ocf [] [2, 3] [1] 0 (ok_view_New p0.a0 p0.a1 r29_3 r30_3 hr30_3) (fun a w => Try.call8 a w) rfl trivial) <| Wm (.tup [(.agg [(.i r30_3.1.Cap), (.own 2), (.own 3), (.d (.mp (Option.isNone r30_3.1.Links) (mks kv_22 (ml r30_3.1.Links)) (mds (slD (encL enc_GChange)) (ml r30_3.1.Links))))]), (.i r30_3.2)]) rfl <| Wz (.agg [(.i r30_3.1.Cap), (.own 2), (.own 3), (.d (.mp (Option.isNone r30_3.1.Links) (mks kv_22 (ml r30_3.1.Links)) (mds (slD (encL enc_GChange)) (ml r30_3.1.Links))))]) (Oex rfl) <| Wz (.i r30_3.2) (Oex rfl) <| Wy (.loc 4 0) [(4, (.box [(.i 0), (.d .nil), (.d .nil), (.d (.mp (Option.isNone (none : Option (List (GArr2_Int × (List (List GChange)))))) (mks kv_22 (ml (none : Option (List (GArr2_Int × (List (List GChange))))))) (mds (slD (encL enc_GChange)) (ml (none : Option (List (GArr2_Int × (List (List GChange)))))))))]))] (Oal rfl) <| Wy (.tup []) [(4, (.box [(.i r30_3.1.Cap), (.own 2), (.own 3), (.d (.mp (Option.isNone r30_3.1.Links) (mks kv_22 (ml r30_3.1.Links)) (mds (slD (encL enc_GChange)) (ml r30_3.1.Links))))]))] (Ost rfl) <| Wm (.i r30_3.2) rfl <| Wdr <| Tk 398 29 ⟨tp 1 (.l enc_GChange p1::.l enc_GOp_ p2::.loc 0 0::tp 3 (.loc 4 0::.i r30_3.2::tp 150 [])), [(.box [(.i p0.a0), (.i p0.a1)]), .gone, (.arr 34 1 (List.length r30_3.1.Views) (flatD (encL enc_GChange) r30_3.1.Views)), (.arr 34 1 (List.length r30_3.1.Pending) (flatD (encL enc_GChange) r30_3.1.Pending)), (.box [(.i r30_3.1.Cap), (.own 2), (.own 3), (.d (.mp (Option.isNone r30_3.1.Links) (mks kv_22 (ml r30_3.1.Links)) (mds (slD (encL enc_GChange)) (ml r30_3.1.Links))))])], 0⟩ <| Sq <| Sx <| Wm (.i r30_3.2) rfl <| Wz (.b (decide (r30_3.2 ≠ 0))) (Obn rfl (fun _ => hb_neq (k := .i64))) <| Nk 17179869326 29 ⟨tp 1 (.l enc_GChange p1::.l enc_GOp_ p2::.loc 0 0::tp 3 (.loc 4 0::tp 26 (.b (decide (r30_3.2 ≠ 0))::tp 124 []))), [(.box [(.i p0.a0), (.i p0.a1)]), .gone, (.arr 34 1 (List.length r30_3.1.Views) (flatD (encL enc_GChange) r30_3.1.Views)), (.arr 34 1 (List.length r30_3.1.Pending) (flatD (encL enc_GChange) r30_3.1.Pending)), (.box [(.i r30_3.1.Cap), (.own 2), (.own 3), (.d (.mp (Option.isNone r30_3.1.Links) (mks kv_22 (ml r30_3.1.Links)) (mds (slD (encL enc_GChange)) (ml r30_3.1.Links))))])], 0⟩ ?_
   rcases tf_ (decide (r30_3.2 ≠ 0)) with hc34_24 | hc34_24
   ·
    replace hm := cT hc34_24 hm
    refine AiT hc34_24 <| Sx ?_
    obtain ⟨r35_4, hr35_4, hm⟩ := bnd hm
    refine Wz (.b r35_4) (Ocf [] [] [] 0 (ok_w29_awake  r35_4 hr35_4) (fun a w => Try.call7 a w) rfl trivial) <| Wm (.b r35_4) rfl <| Nn <| Rt <| Tr ?_
    obtain rfl := Option.some.inj hm
    exact ret_i []
   ·
    replace hm := cF hc34_24 hm
    refine AiF hc34_24 <| Sk <| Tk 142 29 ⟨tp 1 (.l enc_GChange p1::.l enc_GOp_ p2::.loc 0 0::tp 3 (.loc 4 0::tp 151 [])), [(.box [(.i p0.a0), (.i p0.a1)]), .gone, (.arr 34 1 (List.length r30_3.1.Views) (flatD (encL enc_GChange) r30_3.1.Views)), (.arr 34 1 (List.length r30_3.1.Pending) (flatD (encL enc_GChange) r30_3.1.Pending)), (.box [(.i r30_3.1.Cap), (.own 2), (.own 3), (.d (.mp (Option.isNone r30_3.1.Links) (mks kv_22 (ml r30_3.1.Links)) (mds (slD (encL enc_GChange)) (ml r30_3.1.Links))))])], 0⟩ <| Sx <| Wm (.l enc_GChange p1) rfl ?_
    obtain ⟨r37_5, hr37_5, hm⟩ := bnd hm
    refine Wy (.own 5) [(5, (Ar 84 3 enc_GChange r37_5))] (Ocf [] [5] [] 0 (ok_w26_Own p1 r37_5 hr37_5) (fun a w => Try.call9 a w) rfl trivial) ?_
    obtain ⟨r38_5, hr38_5, hm⟩ := bnd hm
    refine Wy (.l enc_GChange r38_5) [(5, (.fro 84 3 (List.length r37_5) (flatD enc_GChange r37_5)))] (Ocf [] [] [5] 0 (ok_tally_Normal r37_5 r38_5 hr38_5) (fun a w => Try.call30 a w) rfl trivial) <| Wm (.l enc_GChange r38_5) rfl <| Nk 652 29 ⟨tp 2 (.l enc_GOp_ p2::.loc 0 0::tp 3 (.loc 4 0::tp 1 (.l enc_GChange r38_5::tp 149 []))), [(.box [(.i p0.a0), (.i p0.a1)]), .gone, (.arr 34 1 (List.length r30_3.1.Views) (flatD (encL enc_GChange) r30_3.1.Views)), (.arr 34 1 (List.length r30_3.1.Pending) (flatD (encL enc_GChange) r30_3.1.Pending)), (.box [(.i r30_3.1.Cap), (.own 2), (.own 3), (.d (.mp (Option.isNone r30_3.1.Links) (mks kv_22 (ml r30_3.1.Links)) (mds (slD (encL enc_GChange)) (ml r30_3.1.Links))))]), .gone], 0⟩ <| Sq <| Sx <| Wm (.i 0) rfl <| Nk 1676 29 ⟨tp 2 (.l enc_GOp_ p2::.loc 0 0::tp 3 (.loc 4 0::tp 1 (.l enc_GChange r38_5::.i 0::tp 148 []))), [(.box [(.i p0.a0), (.i p0.a1)]), .gone, (.arr 34 1 (List.length r30_3.1.Views) (flatD (encL enc_GChange) r30_3.1.Views)), (.arr 34 1 (List.length r30_3.1.Pending) (flatD (encL enc_GChange) r30_3.1.Pending)), (.box [(.i r30_3.1.Cap), (.own 2), (.own 3), (.d (.mp (Option.isNone r30_3.1.Links) (mks kv_22 (ml r30_3.1.Links)) (mds (slD (encL enc_GChange)) (ml r30_3.1.Links))))]), .gone], 0⟩ <| Bk <| Afz [2, 3] ⟨tp 2 (.l enc_GOp_ p2::.loc 0 0::tp 3 (.loc 4 0::tp 1 (.l enc_GChange r38_5::.i 0::tp 148 []))), [(.box [(.i p0.a0), (.i p0.a1)]), .gone, (.fro 34 1 (List.length r30_3.1.Views) (flatD (encL enc_GChange) r30_3.1.Views)), (.fro 34 1 (List.length r30_3.1.Pending) (flatD (encL enc_GChange) r30_3.1.Pending)), (.box [(.i r30_3.1.Cap), (.l (encL enc_GChange) r30_3.1.Views), (.l (encL enc_GChange) r30_3.1.Pending), (.d (.mp (Option.isNone r30_3.1.Links) (mks kv_22 (ml r30_3.1.Links)) (mds (slD (encL enc_GChange)) (ml r30_3.1.Links))))]), .gone], 0⟩ ?_
    refine AWP.loopI (α := Nat × Int × (List (List GChange)) × (List (List GChange)) × (Option (List (GArr2_Int × (List (List GChange))))) × (List GChange) × Int)
      (fun (fu_6, y7_d_0_6, y7_d_1_6, y7_d_2_6, y7_d_3_6, y9_6, y10_6) => (⟨tp 2 (.l enc_GOp_ p2::.loc 0 0::tp 3 (.loc 1 0::tp 1 (.l enc_GChange y9_6::.i y10_6::tp 148 []))), [(.box [(.i p0.a0), (.i p0.a1)]), (.box [(.i y7_d_0_6), (.l (encL enc_GChange) y7_d_1_6), (.l (encL enc_GChange) y7_d_2_6), (.d (.mp (Option.isNone y7_d_3_6) (mks kv_22 (ml y7_d_3_6)) (mds (slD (encL enc_GChange)) (ml y7_d_3_6))))])], 0⟩ : St))
      (fun (fu_6, y7_d_0_6, y7_d_1_6, y7_d_2_6, y7_d_3_6, y9_6, y10_6) => m_w29_ViewTruth_l6 p0 p2 fu_6 y7_d_0_6 y7_d_1_6 y7_d_2_6 y7_d_3_6 y9_6 y10_6 = some r)
      (fun (fu_6, y7_d_0_6, y7_d_1_6, y7_d_2_6, y7_d_3_6, y9_6, y10_6) => fu_6) (1152921504606846976, r30_3.1.Cap, r30_3.1.Views, r30_3.1.Pending, r30_3.1.Links, r38_5, 0)
      (Weak.toK 1676 0 0 [0, 4]) hm ?_
    rintro ⟨fu_6, y7_d_0_6, y7_d_1_6, y7_d_2_6, y7_d_3_6, y9_6, y10_6⟩ n_6 hm ih_6
    try dsimp only at hm ih_6 ⊢
    cases fu_6 with
    | zero => exact absurd hm (by unfold m_w29_ViewTruth_l6; simp)
    | succ fu_6 =>
     unfold m_w29_ViewTruth_l6 at hm
     refine Sq <| Sx <| Wm (.i y10_6) rfl <| Wm (.l enc_GOp_ p2) rfl <| Wz (.i ((List.length p2 : Nat) : Int)) (Oln rfl) <| Wz (.b (decide (y10_6 < ((List.length p2 : Nat) : Int)))) (Obn rfl (fun _ => hb_lss (k := .i64))) <| Nk 4398046512780 3 ⟨tp 2 (.l enc_GOp_ p2::.loc 0 0::tp 3 (.loc 1 0::tp 1 (.l enc_GChange y9_6::.i y10_6::tp 31 (.b (decide (y10_6 < ((List.length p2 : Nat) : Int)))::tp 116 [])))), [(.box [(.i p0.a0), (.i p0.a1)]), (.box [(.i y7_d_0_6), (.l (encL enc_GChange) y7_d_1_6), (.l (encL enc_GChange) y7_d_2_6), (.d (.mp (Option.isNone y7_d_3_6) (mks kv_22 (ml y7_d_3_6)) (mds (slD (encL enc_GChange)) (ml y7_d_3_6))))])], 0⟩ ?_
     rcases tf_ (decide (y10_6 < ((List.length p2 : Nat) : Int))) with hc42_25 | hc42_25
     ·
      replace hm := cT hc42_25 hm
      refine AiT hc42_25 <| Sk <| Tk 1676 3 ⟨tp 2 (.l enc_GOp_ p2::.loc 0 0::tp 3 (.loc 1 0::tp 1 (.l enc_GChange y9_6::.i y10_6::tp 148 []))), [(.box [(.i p0.a0), (.i p0.a1)]), (.box [(.i y7_d_0_6), (.l (encL enc_GChange) y7_d_1_6), (.l (encL enc_GChange) y7_d_2_6), (.d (.mp (Option.isNone y7_d_3_6) (mks kv_22 (ml y7_d_3_6)) (mds (slD (encL enc_GChange)) (ml y7_d_3_6))))])], 0⟩ <| Sq <| Bk <| Sq <| Sx <| Wm (.l enc_GOp_ p2) rfl <| Wm (.i y10_6) rfl ?_
      obtain ⟨x47_8, hx47_8, hm⟩ := bnd hm
      obtain ⟨hx47_8i, hx47_8g⟩ := geti_some hx47_8
      refine Wz (.d (.ref (List.drop ((Int.toNat y10_6) * 4) (flatD enc_GOp_ p2)))) (Oia rfl enc_GOp__len hx47_8i hx47_8g) <| Wz (.d (.ref (List.drop 3 (List.drop ((Int.toNat y10_6) * 4) (flatD enc_GOp_ p2))))) (Ofa rfl) <| Wz (.l enc_GChange x47_8.L) (Lfk1 3 rfl enc_GOp__len hx47_8g) ?_
      obtain ⟨r50_8, hr50_8, hm⟩ := bnd hm
      refine Wz (.i r50_8) (Ocf [] [] [] 0 (ok_w26_Over x47_8.L r50_8 hr50_8) (fun a w => Try.call6 a w) rfl trivial) <| Wz (.b (decide ((0 : Int) < r50_8))) (Obn rfl (fun _ => hb_gtr (k := .i64))) <| Nk 2251799813686924 3 ⟨tp 2 (.l enc_GOp_ p2::.loc 0 0::tp 3 (.loc 1 0::tp 1 (.l enc_GChange y9_6::.i y10_6::tp 40 (.b (decide ((0 : Int) < r50_8))::tp 107 [])))), [(.box [(.i p0.a0), (.i p0.a1)]), (.box [(.i y7_d_0_6), (.l (encL enc_GChange) y7_d_1_6), (.l (encL enc_GChange) y7_d_2_6), (.d (.mp (Option.isNone y7_d_3_6) (mks kv_22 (ml y7_d_3_6)) (mds (slD (encL enc_GChange)) (ml y7_d_3_6))))])], 0⟩ ?_
      rcases tf_ (decide ((0 : Int) < r50_8)) with hc51_26 | hc51_26
      ·
       replace hm := cT hc51_26 hm
       refine AiT hc51_26 <| Sx ?_
       obtain ⟨r52_9, hr52_9, hm⟩ := bnd hm
       refine Wz (.b r52_9) (Ocf [] [] [] 0 (ok_w29_awake  r52_9 hr52_9) (fun a w => Try.call7 a w) rfl trivial) <| Wm (.b r52_9) rfl <| Nn <| Rt <| Tr <| Ir <| Tr <| RoundK.ret <| Ir <| Tr ?_
       obtain rfl := Option.some.inj hm
       exact ret_i []
      ·
       replace hm := cF hc51_26 hm
       refine AiF hc51_26 <| Sk <| Tk 1676 3 ⟨tp 2 (.l enc_GOp_ p2::.loc 0 0::tp 3 (.loc 1 0::tp 1 (.l enc_GChange y9_6::.i y10_6::tp 148 []))), [(.box [(.i p0.a0), (.i p0.a1)]), (.box [(.i y7_d_0_6), (.l (encL enc_GChange) y7_d_1_6), (.l (encL enc_GChange) y7_d_2_6), (.d (.mp (Option.isNone y7_d_3_6) (mks kv_22 (ml y7_d_3_6)) (mds (slD (encL enc_GChange)) (ml y7_d_3_6))))])], 0⟩ <| Sx <| Wz (.agg [(.i y7_d_0_6), (.l (encL enc_GChange) y7_d_1_6), (.l (encL enc_GChange) y7_d_2_6), (.d (.mp (Option.isNone y7_d_3_6) (mks kv_22 (ml y7_d_3_6)) (mds (slD (encL enc_GChange)) (ml y7_d_3_6))))]) (Old rfl) <| Wy (.loc 2 0) [(2, (.box [(.i 0), (.d .nil), (.d .nil), (.d (.mp (Option.isNone (none : Option (List (GArr2_Int × (List (List GChange)))))) (mks kv_22 (ml (none : Option (List (GArr2_Int × (List (List GChange))))))) (mds (slD (encL enc_GChange)) (ml (none : Option (List (GArr2_Int × (List (List GChange)))))))))]))] (Oal rfl) <| Wy (.tup []) [(2, (.box [(.i y7_d_0_6), (.l (encL enc_GChange) y7_d_1_6), (.l (encL enc_GChange) y7_d_2_6), (.d (.mp (Option.isNone y7_d_3_6) (mks kv_22 (ml y7_d_3_6)) (mds (slD (encL enc_GChange)) (ml y7_d_3_6))))]))] (Ost rfl) <| Wm (.i 0) rfl <| Nk 3724 7 ⟨tp 2 (.l enc_GOp_ p2::.loc 0 0::tp 3 (.loc 1 0::tp 1 (.l enc_GChange y9_6::.i y10_6::.loc 2 0::tp 147 []))), [(.box [(.i p0.a0), (.i p0.a1)]), (.box [(.i y7_d_0_6), (.l (encL enc_GChange) y7_d_1_6), (.l (encL enc_GChange) y7_d_2_6), (.d (.mp (Option.isNone y7_d_3_6) (mks kv_22 (ml y7_d_3_6)) (mds (slD (encL enc_GChange)) (ml y7_d_3_6))))]), (.box [(.i y7_d_0_6), (.l (encL enc_GChange) y7_d_1_6), (.l (encL enc_GChange) y7_d_2_6), (.d (.mp (Option.isNone y7_d_3_6) (mks kv_22 (ml y7_d_3_6)) (mds (slD (encL enc_GChange)) (ml y7_d_3_6))))])], 0⟩ ?_
       refine AWP.cutJ (α := (List GChange) × GNet × Int) (fun (y9_16, y11_d_16, y12_16) => (⟨tp 2 (.l enc_GOp_ p2::.loc 0 0::tp 3 (.loc 1 0::tp 1 (.l enc_GChange y9_16::.i y10_6::.loc 2 0::.i y12_16::tp 146 []))), [(.box [(.i p0.a0), (.i p0.a1)]), (.box [(.i y7_d_0_6), (.l (encL enc_GChange) y7_d_1_6), (.l (encL enc_GChange) y7_d_2_6), (.d (.mp (Option.isNone y7_d_3_6) (mks kv_22 (ml y7_d_3_6)) (mds (slD (encL enc_GChange)) (ml y7_d_3_6))))]), (.box [(.i y11_d_16.Cap), (.l (encL enc_GChange) y11_d_16.Views), (.l (encL enc_GChange) y11_d_16.Pending), (.d (.mp (Option.isNone y11_d_16.Links) (mks kv_22 (ml y11_d_16.Links)) (mds (slD (encL enc_GChange)) (ml y11_d_16.Links))))])], 0⟩ : St)) (fun (y9_16, y11_d_16, y12_16) => m_w29_ViewTruth_j16 p0 y10_6 y7_d_0_6 y7_d_1_6 y7_d_2_6 y7_d_3_6 (fun y7_d_0_6 y7_d_1_6 y7_d_2_6 y7_d_3_6 y9_6 y10_6 => m_w29_ViewTruth_l6 p0 p2 fu_6 y7_d_0_6 y7_d_1_6 y7_d_2_6 y7_d_3_6 y9_6 y10_6) y9_16 y11_d_16 y12_16 = some r) ?_ (fun J16 => ?_)
       ·
        rintro ⟨y9_16, y11_d_16, y12_16⟩ hm
        try dsimp only at hm ⊢
        unfold m_w29_ViewTruth_j16 at hm
        refine AWP.cutJ (α := Unit) (fun x => match x with | () => (⟨tp 2 (.l enc_GOp_ p2::.loc 0 0::tp 3 (.loc 1 0::tp 1 (.l enc_GChange y9_16::.i y10_6::.loc 2 0::tp 147 []))), [(.box [(.i p0.a0), (.i p0.a1)]), (.box [(.i y7_d_0_6), (.l (encL enc_GChange) y7_d_1_6), (.l (encL enc_GChange) y7_d_2_6), (.d (.mp (Option.isNone y7_d_3_6) (mks kv_22 (ml y7_d_3_6)) (mds (slD (encL enc_GChange)) (ml y7_d_3_6))))]), (.box [(.i y11_d_16.Cap), (.l (encL enc_GChange) y11_d_16.Views), (.l (encL enc_GChange) y11_d_16.Pending), (.d (.mp (Option.isNone y11_d_16.Links) (mks kv_22 (ml y11_d_16.Links)) (mds (slD (encL enc_GChange)) (ml y11_d_16.Links))))])], 0⟩ : St)) (fun x => match x with | () => m_w29_ViewTruth_j18 p0 y10_6 y11_d_16 y9_16 (fun y7_d_0_6 y7_d_1_6 y7_d_2_6 y7_d_3_6 y9_6 y10_6 => m_w29_ViewTruth_l6 p0 p2 fu_6 y7_d_0_6 y7_d_1_6 y7_d_2_6 y7_d_3_6 y9_6 y10_6) = some r) ?_ (fun J18 => ?_)
        ·
         rintro ⟨⟩ hm
         try dsimp only at hm ⊢
         unfold m_w29_ViewTruth_j18 at hm
         refine Sx <| Wz (.agg [(.i y11_d_16.Cap), (.l (encL enc_GChange) y11_d_16.Views), (.l (encL enc_GChange) y11_d_16.Pending), (.d (.mp (Option.isNone y11_d_16.Links) (mks kv_22 (ml y11_d_16.Links)) (mds (slD (encL enc_GChange)) (ml y11_d_16.Links))))]) (Old rfl) <| Wy (.tup []) [(1, (.box [(.i y11_d_16.Cap), (.l (encL enc_GChange) y11_d_16.Views), (.l (encL enc_GChange) y11_d_16.Pending), (.d (.mp (Option.isNone y11_d_16.Links) (mks kv_22 (ml y11_d_16.Links)) (mds (slD (encL enc_GChange)) (ml y11_d_16.Links))))]))] (Ost rfl) <| Nk 1676 3 ⟨tp 2 (.l enc_GOp_ p2::.loc 0 0::tp 3 (.loc 1 0::tp 1 (.l enc_GChange y9_16::.i y10_6::tp 148 []))), [(.box [(.i p0.a0), (.i p0.a1)]), (.box [(.i y11_d_16.Cap), (.l (encL enc_GChange) y11_d_16.Views), (.l (encL enc_GChange) y11_d_16.Pending), (.d (.mp (Option.isNone y11_d_16.Links) (mks kv_22 (ml y11_d_16.Links)) (mds (slD (encL enc_GChange)) (ml y11_d_16.Links))))]), .gone], 0⟩ <| Sq <| Sx <| Wz (.loc 1 1) (Ofa rfl) <| Wz (.l (encL enc_GChange) y11_d_16.Views) (Old rfl) <| Wz (.i ((List.length y11_d_16.Views : Nat) : Int)) (Oln rfl) <| Wz (.loc 0 0) (Ocs (by kernel_rfl) (op_iaddr_arr rfl (n := 2) (sz := 1) (y := (.loc 0 0)) (by kernel_rfl) (by kernel_rfl) (by kernel_rfl) (k := .i64) (iv := 0) (by kernel_rfl) (i := 0) (by rfl) (by decide))) <| Wz (.i p0.a0) (Old rfl) <| Wz (.b (decide (((List.length y11_d_16.Views : Nat) : Int) ≠ p0.a0))) (Obn rfl (fun _ => hb_neq (k := .i64))) <| Nk 2722258935367507707706996859454145693324 3 ⟨tp 2 (.l enc_GOp_ p2::.loc 0 0::tp 3 (.loc 1 0::tp 1 (.l enc_GChange y9_16::.i y10_6::tp 120 (.b (decide (((List.length y11_d_16.Views : Nat) : Int) ≠ p0.a0))::tp 27 [])))), [(.box [(.i p0.a0), (.i p0.a1)]), (.box [(.i y11_d_16.Cap), (.l (encL enc_GChange) y11_d_16.Views), (.l (encL enc_GChange) y11_d_16.Pending), (.d (.mp (Option.isNone y11_d_16.Links) (mks kv_22 (ml y11_d_16.Links)) (mds (slD (encL enc_GChange)) (ml y11_d_16.Links))))]), .gone], 0⟩ ?_
         rcases tf_ (decide (((List.length y11_d_16.Views : Nat) : Int) ≠ p0.a0)) with hc131_27 | hc131_27
         ·
          replace hm := cT hc131_27 hm
          refine AiT hc131_27 <| Sx <| Wm (.b false) rfl <| Nn <| Rt <| Tr <| Ir <| Tr <| RoundK.ret <| Ir <| Tr ?_
          obtain rfl := Option.some.inj hm
          exact ret_i []
         ·
          replace hm := cF hc131_27 hm
          refine AiF hc131_27 <| Sk <| Tk 1676 3 ⟨tp 2 (.l enc_GOp_ p2::.loc 0 0::tp 3 (.loc 1 0::tp 1 (.l enc_GChange y9_16::.i y10_6::tp 148 []))), [(.box [(.i p0.a0), (.i p0.a1)]), (.box [(.i y11_d_16.Cap), (.l (encL enc_GChange) y11_d_16.Views), (.l (encL enc_GChange) y11_d_16.Pending), (.d (.mp (Option.isNone y11_d_16.Links) (mks kv_22 (ml y11_d_16.Links)) (mds (slD (encL enc_GChange)) (ml y11_d_16.Links))))]), .gone], 0⟩ <| Sx <| Wm (.i 0) rfl <| Nk 9868 3 ⟨tp 2 (.l enc_GOp_ p2::.loc 0 0::tp 3 (.loc 1 0::tp 1 (.l enc_GChange y9_16::.i y10_6::tp 2 (.i 0::tp 145 [])))), [(.box [(.i p0.a0), (.i p0.a1)]), (.box [(.i y11_d_16.Cap), (.l (encL enc_GChange) y11_d_16.Views), (.l (encL enc_GChange) y11_d_16.Pending), (.d (.mp (Option.isNone y11_d_16.Links) (mks kv_22 (ml y11_d_16.Links)) (mds (slD (encL enc_GChange)) (ml y11_d_16.Links))))]), .gone], 0⟩ <| Bk ?_
          refine AWP.loopI (α := Nat × Int)
            (fun (fu_20, y13_20) => (⟨tp 2 (.l enc_GOp_ p2::.loc 0 0::tp 3 (.loc 1 0::tp 1 (.l enc_GChange y9_16::.i y10_6::tp 2 (.i y13_20::tp 145 [])))), [(.box [(.i p0.a0), (.i p0.a1)]), (.box [(.i y11_d_16.Cap), (.l (encL enc_GChange) y11_d_16.Views), (.l (encL enc_GChange) y11_d_16.Pending), (.d (.mp (Option.isNone y11_d_16.Links) (mks kv_22 (ml y11_d_16.Links)) (mds (slD (encL enc_GChange)) (ml y11_d_16.Links))))])], 0⟩ : St))
            (fun (fu_20, y13_20) => m_w29_ViewTruth_l20 p0 y10_6 y11_d_16 y9_16 (fun y7_d_0_6 y7_d_1_6 y7_d_2_6 y7_d_3_6 y9_6 y10_6 => m_w29_ViewTruth_l6 p0 p2 fu_6 y7_d_0_6 y7_d_1_6 y7_d_2_6 y7_d_3_6 y9_6 y10_6) fu_20 y13_20 = some r)
            (fun (fu_20, y13_20) => fu_20) (1152921504606846976, 0)
            (Weak.toK 9868 0 0 [0, 1]) hm ?_
          rintro ⟨fu_20, y13_20⟩ n_20 hm ih_20
          try dsimp only at hm ih_20 ⊢
          cases fu_20 with
          | zero => exact absurd hm (by unfold m_w29_ViewTruth_l20; simp)
          | succ fu_20 =>
           unfold m_w29_ViewTruth_l20 at hm
           refine Sq <| Sx <| Wm (.i y13_20) rfl <| Wz (.loc 0 0) (Ocs (by kernel_rfl) (op_iaddr_arr rfl (n := 2) (sz := 1) (y := (.loc 0 0)) (by kernel_rfl) (by kernel_rfl) (by kernel_rfl) (k := .i64) (iv := 0) (by kernel_rfl) (i := 0) (by rfl) (by decide))) <| Wz (.i p0.a0) (Old rfl) <| Wz (.b (decide (y13_20 < p0.a0))) (Obn rfl (fun _ => hb_lss (k := .i64))) <| Nk 43556142965880123323311949751266331076236 3 ⟨tp 2 (.l enc_GOp_ p2::.loc 0 0::tp 3 (.loc 1 0::tp 1 (.l enc_GChange y9_16::.i y10_6::tp 2 (.i y13_20::tp 121 (.b (decide (y13_20 < p0.a0))::tp 23 []))))), [(.box [(.i p0.a0), (.i p0.a1)]), (.box [(.i y11_d_16.Cap), (.l (encL enc_GChange) y11_d_16.Views), (.l (encL enc_GChange) y11_d_16.Pending), (.d (.mp (Option.isNone y11_d_16.Links) (mks kv_22 (ml y11_d_16.Links)) (mds (slD (encL enc_GChange)) (ml y11_d_16.Links))))])], 0⟩ ?_
           rcases tf_ (decide (y13_20 < p0.a0)) with hc135_28 | hc135_28
           ·
            replace hm := cT hc135_28 hm
            refine AiT hc135_28 <| Sk <| Tk 9868 3 ⟨tp 2 (.l enc_GOp_ p2::.loc 0 0::tp 3 (.loc 1 0::tp 1 (.l enc_GChange y9_16::.i y10_6::tp 2 (.i y13_20::tp 145 [])))), [(.box [(.i p0.a0), (.i p0.a1)]), (.box [(.i y11_d_16.Cap), (.l (encL enc_GChange) y11_d_16.Views), (.l (encL enc_GChange) y11_d_16.Pending), (.d (.mp (Option.isNone y11_d_16.Links) (mks kv_22 (ml y11_d_16.Links)) (mds (slD (encL enc_GChange)) (ml y11_d_16.Links))))])], 0⟩ <| Sq <| Bk <| Sx <| Wz (.agg [(.i y11_d_16.Cap), (.l (encL enc_GChange) y11_d_16.Views), (.l (encL enc_GChange) y11_d_16.Pending), (.d (.mp (Option.isNone y11_d_16.Links) (mks kv_22 (ml y11_d_16.Links)) (mds (slD (encL enc_GChange)) (ml y11_d_16.Links))))]) (Old rfl) <| Wm (.i y13_20) rfl ?_
            obtain ⟨r140_21, hr140_21, hm⟩ := bnd hm
            refine Wz (.l enc_GChange r140_21) (Ocf [] [] [] 0 (ok_view_Net_Truth y11_d_16 y13_20 r140_21 hr140_21) (fun a w => Try.call27 a w) rfl trivial) <| Wm (.l enc_GChange y9_16) rfl ?_
            obtain ⟨r142_21, hr142_21, hm⟩ := bnd hm
            refine Wz (.b r142_21) (Ocf [] [] [] 0 (ok_tally_Same r140_21 y9_16 r142_21 hr142_21) (fun a w => Try.call32 a w) rfl trivial) <| Wz (.b (!r142_21)) (Ocs (by kernel_rfl) (op_un rfl (a1 := .bool r142_21) (by kernel_rfl) (fun _ => hu_not))) ?_
            rcases tf_ (!r142_21) with hq144_21 | hq144_21
            ·
             replace hm := cT hq144_21 hm
             refine Wz (.b true) (Oq hq144_21 rfl) <| Wn <| Wn <| Wn <| Wn <| Wn <| Wn <| Wn <| Wn <| Wn <| Wn <| Wn <| Wn <| Wz (.b true) (OpT rfl) ?_
             refine Nk 182687704666362864775460604089535377456991577740 3 ⟨tp 2 (.l enc_GOp_ p2::.loc 0 0::tp 3 (.loc 1 0::tp 1 (.l enc_GChange y9_16::.i y10_6::tp 2 (.i y13_20::tp 143 (.b true::tp 1 []))))), [(.box [(.i p0.a0), (.i p0.a1)]), (.box [(.i y11_d_16.Cap), (.l (encL enc_GChange) y11_d_16.Views), (.l (encL enc_GChange) y11_d_16.Pending), (.d (.mp (Option.isNone y11_d_16.Links) (mks kv_22 (ml y11_d_16.Links)) (mds (slD (encL enc_GChange)) (ml y11_d_16.Links))))])], 0⟩ <| AWP.if_ true (by kernel_rfl) <| Sx <| Wm (.b false) rfl <| Nn <| Rt <| Ir <| Tr <| RoundK.ret <| Ir <| Ir <| Tr <| RoundK.ret <| Ir ?_
             refine Tr ?_
             obtain rfl := Option.some.inj hm
             exact ret_i []
            ·
             replace hm := cF hq144_21 hm
             refine Wz (.b false) (Oq hq144_21 rfl) <| Wz (.agg [(.i y11_d_16.Cap), (.l (encL enc_GChange) y11_d_16.Views), (.l (encL enc_GChange) y11_d_16.Pending), (.d (.mp (Option.isNone y11_d_16.Links) (mks kv_22 (ml y11_d_16.Links)) (mds (slD (encL enc_GChange)) (ml y11_d_16.Links))))]) (Old rfl) ?_
             obtain ⟨r146_21, hr146_21, hm⟩ := bnd hm
             refine Wz (.b r146_21) (Ocf [] [] [] 0 (ok_view_Net_Idle y11_d_16 r146_21 hr146_21) (fun a w => Try.call21 a w) rfl trivial) ?_
             rcases tf_ r146_21 with hq147_21 | hq147_21
             ·
              replace hm := cT hq147_21 hm
              refine Wz (.b true) (Oq hq147_21 rfl) <| Wz (.loc 1 1) (Ofa rfl) <| Wz (.l (encL enc_GChange) y11_d_16.Views) (Old rfl) <| Wm (.i y13_20) rfl ?_
              obtain ⟨x151_21, hx151_21, hm⟩ := bnd hm
              obtain ⟨hx151_21i, hx151_21g⟩ := geti_some hx151_21
              refine Wz (.d (.ref (List.drop ((Int.toNat y13_20) * 1) (flatD (encL enc_GChange) y11_d_16.Views)))) (Oia rfl (encL_len (enc := enc_GChange)) hx151_21i hx151_21g) <| Wz (.l enc_GChange x151_21) (Lf1 rfl (encL_len (enc := enc_GChange)) hx151_21g) <| Wm (.l enc_GChange y9_16) rfl ?_
              obtain ⟨r154_21, hr154_21, hm⟩ := bnd hm
              refine Wz (.b r154_21) (Ocf [] [] [] 0 (ok_tally_Same x151_21 y9_16 r154_21 hr154_21) (fun a w => Try.call32 a w) rfl trivial) <| Wz (.b (!r154_21)) (Ocs (by kernel_rfl) (op_un rfl (a1 := .bool r154_21) (by kernel_rfl) (fun _ => hu_not))) <| Wz (.b (!r154_21)) (OpT rfl) <| Wz (.b (!r154_21)) (OpF rfl) <| Nk 182687704666362864775460604089535377456991577740 3 ⟨tp 2 (.l enc_GOp_ p2::.loc 0 0::tp 3 (.loc 1 0::tp 1 (.l enc_GChange y9_16::.i y10_6::tp 2 (.i y13_20::tp 143 (.b (!r154_21)::tp 1 []))))), [(.box [(.i p0.a0), (.i p0.a1)]), (.box [(.i y11_d_16.Cap), (.l (encL enc_GChange) y11_d_16.Views), (.l (encL enc_GChange) y11_d_16.Pending), (.d (.mp (Option.isNone y11_d_16.Links) (mks kv_22 (ml y11_d_16.Links)) (mds (slD (encL enc_GChange)) (ml y11_d_16.Links))))])], 0⟩ ?_
              rcases tf_ (!r154_21) with hc157_29 | hc157_29
              ·
               replace hm := cT hc157_29 hm
               refine AiT hc157_29 <| Sx <| Wm (.b false) rfl <| Nn <| Rt <| Ir <| Tr <| RoundK.ret <| Ir <| Ir <| Tr <| RoundK.ret <| Ir <| Tr ?_
               obtain rfl := Option.some.inj hm
               exact ret_i []
              ·
               replace hm := cF hc157_29 hm
               refine AiF hc157_29 <| Sk <| Ino <| Tk 9868 3 ⟨tp 2 (.l enc_GOp_ p2::.loc 0 0::tp 3 (.loc 1 0::tp 1 (.l enc_GChange y9_16::.i y10_6::tp 2 (.i y13_20::tp 145 [])))), [(.box [(.i p0.a0), (.i p0.a1)]), (.box [(.i y11_d_16.Cap), (.l (encL enc_GChange) y11_d_16.Views), (.l (encL enc_GChange) y11_d_16.Pending), (.d (.mp (Option.isNone y11_d_16.Links) (mks kv_22 (ml y11_d_16.Links)) (mds (slD (encL enc_GChange)) (ml y11_d_16.Links))))])], 0⟩ <| Tx <| Wm (.i y13_20) rfl <| Wz (.i (W6 (y13_20 + 1))) (Obn rfl (fun _ => hb_add (k := .i64))) <| Wm (.i (W6 (y13_20 + 1))) rfl <| Wn0 <| RoundK.normal ?_
               exact Rounds.weak (Weak.toK 9868 0 0 [0, 1]) (ih_20 (fu_20, (W6 (y13_20 + 1))) hm (Nat.lt_succ_self _))
             ·
              replace hm := cF hq147_21 hm
              refine Wz (.b false) (Oq hq147_21 rfl) <| Wn <| Wn <| Wn <| Wn <| Wn <| Wn <| Wn <| Wn <| Wz (.b false) (OpF rfl) <| Wz (.b false) (OpF rfl) <| Nk 182687704666362864775460604089535377456991577740 3 ⟨tp 2 (.l enc_GOp_ p2::.loc 0 0::tp 3 (.loc 1 0::tp 1 (.l enc_GChange y9_16::.i y10_6::tp 2 (.i y13_20::tp 143 (.b false::tp 1 []))))), [(.box [(.i p0.a0), (.i p0.a1)]), (.box [(.i y11_d_16.Cap), (.l (encL enc_GChange) y11_d_16.Views), (.l (encL enc_GChange) y11_d_16.Pending), (.d (.mp (Option.isNone y11_d_16.Links) (mks kv_22 (ml y11_d_16.Links)) (mds (slD (encL enc_GChange)) (ml y11_d_16.Links))))])], 0⟩ <| AWP.if_ false (by kernel_rfl) <| Sk ?_
              refine Ino <| Tk 9868 3 ⟨tp 2 (.l enc_GOp_ p2::.loc 0 0::tp 3 (.loc 1 0::tp 1 (.l enc_GChange y9_16::.i y10_6::tp 2 (.i y13_20::tp 145 [])))), [(.box [(.i p0.a0), (.i p0.a1)]), (.box [(.i y11_d_16.Cap), (.l (encL enc_GChange) y11_d_16.Views), (.l (encL enc_GChange) y11_d_16.Pending), (.d (.mp (Option.isNone y11_d_16.Links) (mks kv_22 (ml y11_d_16.Links)) (mds (slD (encL enc_GChange)) (ml y11_d_16.Links))))])], 0⟩ <| Tx <| Wm (.i y13_20) rfl <| Wz (.i (W6 (y13_20 + 1))) (Obn rfl (fun _ => hb_add (k := .i64))) <| Wm (.i (W6 (y13_20 + 1))) rfl <| Wn0 <| RoundK.normal ?_
              exact Rounds.weak (Weak.toK 9868 0 0 [0, 1]) (ih_20 (fu_20, (W6 (y13_20 + 1))) hm (Nat.lt_succ_self _))
           ·
            replace hm := cF hc135_28 hm
            refine AiF hc135_28 <| AWP.exit <| Then.exit <| RoundK.exit <| InBlock.same <| Ino <| Tk 1676 3 ⟨tp 2 (.l enc_GOp_ p2::.loc 0 0::tp 3 (.loc 1 0::tp 1 (.l enc_GChange y9_16::.i y10_6::tp 148 []))), [(.box [(.i p0.a0), (.i p0.a1)]), (.box [(.i y11_d_16.Cap), (.l (encL enc_GChange) y11_d_16.Views), (.l (encL enc_GChange) y11_d_16.Pending), (.d (.mp (Option.isNone y11_d_16.Links) (mks kv_22 (ml y11_d_16.Links)) (mds (slD (encL enc_GChange)) (ml y11_d_16.Links))))])], 0⟩ <| Tx <| Wm (.i y10_6) rfl <| Wz (.i (W6 (y10_6 + 1))) (Obn rfl (fun _ => hb_add (k := .i64))) <| Wm (.i (W6 (y10_6 + 1))) rfl <| Wn0 <| RoundK.normal ?_
            exact Rounds.weak (Weak.toK 1676 0 0 [0, 1]) (ih_6 (fu_6, y11_d_16.Cap, y11_d_16.Views, y11_d_16.Pending, y11_d_16.Links, y9_16, (W6 (y10_6 + 1))) hm (Nat.lt_succ_self _))
        refine Sq <| Sx <| Wm (.i y12_16) rfl <| Wz (.b (decide (y12_16 ≠ 0))) (Obn rfl (fun _ => hb_neq (k := .i64))) ?_
        rcases tf_ (decide (y12_16 ≠ 0)) with hq119_17 | hq119_17
        ·
         replace hm := cT hq119_17 hm
         refine Wz (.b true) (Oq hq119_17 rfl) <| Wz (.agg [(.i y7_d_0_6), (.l (encL enc_GChange) y7_d_1_6), (.l (encL enc_GChange) y7_d_2_6), (.d (.mp (Option.isNone y7_d_3_6) (mks kv_22 (ml y7_d_3_6)) (mds (slD (encL enc_GChange)) (ml y7_d_3_6))))]) (Old rfl) <| Wz (.agg [(.i y11_d_16.Cap), (.l (encL enc_GChange) y11_d_16.Views), (.l (encL enc_GChange) y11_d_16.Pending), (.d (.mp (Option.isNone y11_d_16.Links) (mks kv_22 (ml y11_d_16.Links)) (mds (slD (encL enc_GChange)) (ml y11_d_16.Links))))]) (Old rfl) ?_
         obtain ⟨r122_17, hr122_17, hm⟩ := bnd hm
         refine Wz (.b r122_17) (Ocf [] [] [] 0 (ok_view_Same (GNet.mk y7_d_0_6 y7_d_1_6 y7_d_2_6 y7_d_3_6) y11_d_16 r122_17 hr122_17) (fun a w => Try.call29 a w) rfl trivial) <| Wz (.b (!r122_17)) (Ocs (by kernel_rfl) (op_un rfl (a1 := .bool r122_17) (by kernel_rfl) (fun _ => hu_not))) <| Wz (.b (!r122_17)) (OpT rfl) <| Nk 21267647932558653966460912964485516940 7 ⟨tp 2 (.l enc_GOp_ p2::.loc 0 0::tp 3 (.loc 1 0::tp 1 (.l enc_GChange y9_16::.i y10_6::.loc 2 0::tp 112 (.b (!r122_17)::tp 34 [])))), [(.box [(.i p0.a0), (.i p0.a1)]), (.box [(.i y7_d_0_6), (.l (encL enc_GChange) y7_d_1_6), (.l (encL enc_GChange) y7_d_2_6), (.d (.mp (Option.isNone y7_d_3_6) (mks kv_22 (ml y7_d_3_6)) (mds (slD (encL enc_GChange)) (ml y7_d_3_6))))]), (.box [(.i y11_d_16.Cap), (.l (encL enc_GChange) y11_d_16.Views), (.l (encL enc_GChange) y11_d_16.Pending), (.d (.mp (Option.isNone y11_d_16.Links) (mks kv_22 (ml y11_d_16.Links)) (mds (slD (encL enc_GChange)) (ml y11_d_16.Links))))])], 0⟩ ?_
         rcases tf_ (!r122_17) with hc124_30 | hc124_30
         ·
          replace hm := cT hc124_30 hm
          refine AiT hc124_30 <| Sx <| Wm (.b false) rfl <| Nn <| Rt <| Tr <| Ir <| Tr <| RoundK.ret <| Ir <| Tr ?_
          obtain rfl := Option.some.inj hm
          exact ret_i []
         ·
          replace hm := cF hc124_30 hm
          refine AiF hc124_30 <| Sk <| Tn ?_
          exact AWP.weak (Weak.toK 3724 0 0 [0, 1, 2]) (J18 () hm)
        ·
         replace hm := cF hq119_17 hm
         refine Wz (.b false) (Oq hq119_17 rfl) <| Wn <| Wn <| Wn <| Wn <| Wz (.b false) (OpF rfl) <| Nk 21267647932558653966460912964485516940 7 ⟨tp 2 (.l enc_GOp_ p2::.loc 0 0::tp 3 (.loc 1 0::tp 1 (.l enc_GChange y9_16::.i y10_6::.loc 2 0::tp 112 (.b false::tp 34 [])))), [(.box [(.i p0.a0), (.i p0.a1)]), (.box [(.i y7_d_0_6), (.l (encL enc_GChange) y7_d_1_6), (.l (encL enc_GChange) y7_d_2_6), (.d (.mp (Option.isNone y7_d_3_6) (mks kv_22 (ml y7_d_3_6)) (mds (slD (encL enc_GChange)) (ml y7_d_3_6))))]), (.box [(.i y11_d_16.Cap), (.l (encL enc_GChange) y11_d_16.Views), (.l (encL enc_GChange) y11_d_16.Pending), (.d (.mp (Option.isNone y11_d_16.Links) (mks kv_22 (ml y11_d_16.Links)) (mds (slD (encL enc_GChange)) (ml y11_d_16.Links))))])], 0⟩ <| AWP.if_ false (by kernel_rfl) <| Sk <| Tn ?_
         exact AWP.weak (Weak.toK 3724 0 0 [0, 1, 2]) (J18 () hm)
       refine Sq <| Sx <| Wm (.l enc_GOp_ p2) rfl <| Wm (.i y10_6) rfl ?_
       obtain ⟨x56_10, hx56_10, hm⟩ := bnd hm
       obtain ⟨hx56_10i, hx56_10g⟩ := geti_some hx56_10
       refine Wz (.d (.ref (List.drop ((Int.toNat y10_6) * 4) (flatD enc_GOp_ p2)))) (Oia rfl enc_GOp__len hx56_10i hx56_10g) <| Wz (.d (.ref (List.drop ((Int.toNat y10_6) * 4) (flatD enc_GOp_ p2)))) (Ofa rfl) <| Wz (.y x56_10.Kind) (Lf1 rfl enc_GOp__len hx56_10g) <| Wz (.b (decide (((x56_10.Kind.toNat : Nat) : Int) = 0))) (Ob2 (.int .u8 ((x56_10.Kind.toNat : Nat) : Int)) (.int .u8 0) rfl (fun _ => hb_eql)) <| Nk 576460752303427212 7 ⟨tp 2 (.l enc_GOp_ p2::.loc 0 0::tp 3 (.loc 1 0::tp 1 (.l enc_GChange y9_6::.i y10_6::.loc 2 0::tp 47 (.b (decide (((x56_10.Kind.toNat : Nat) : Int) = 0))::tp 99 [])))), [(.box [(.i p0.a0), (.i p0.a1)]), (.box [(.i y7_d_0_6), (.l (encL enc_GChange) y7_d_1_6), (.l (encL enc_GChange) y7_d_2_6), (.d (.mp (Option.isNone y7_d_3_6) (mks kv_22 (ml y7_d_3_6)) (mds (slD (encL enc_GChange)) (ml y7_d_3_6))))]), (.box [(.i y7_d_0_6), (.l (encL enc_GChange) y7_d_1_6), (.l (encL enc_GChange) y7_d_2_6), (.d (.mp (Option.isNone y7_d_3_6) (mks kv_22 (ml y7_d_3_6)) (mds (slD (encL enc_GChange)) (ml y7_d_3_6))))])], 0⟩ ?_
       rcases tf_ (decide (((x56_10.Kind.toNat : Nat) : Int) = 0)) with hc59_31 | hc59_31
       ·
        replace hm := cT hc59_31 hm
        refine AiT hc59_31 <| Sq <| Adr <| Wz (.agg [(.i y7_d_0_6), (.l (encL enc_GChange) y7_d_1_6), (.l (encL enc_GChange) y7_d_2_6), (.d (.mp (Option.isNone y7_d_3_6) (mks kv_22 (ml y7_d_3_6)) (mds (slD (encL enc_GChange)) (ml y7_d_3_6))))]) (Old rfl) <| Wm (.l enc_GOp_ p2) rfl <| Wm (.i y10_6) rfl ?_
        obtain ⟨x64_11, hx64_11, hm⟩ := bnd hm
        obtain ⟨hx64_11i, hx64_11g⟩ := geti_some hx64_11
        refine Wz (.d (.ref (List.drop ((Int.toNat y10_6) * 4) (flatD enc_GOp_ p2)))) (Oia rfl enc_GOp__len hx64_11i hx64_11g) <| Wz (.d (.ref (List.drop 1 (List.drop ((Int.toNat y10_6) * 4) (flatD enc_GOp_ p2))))) (Ofa rfl) <| Wz (.i x64_11.A) (Lfk1 1 rfl enc_GOp__len hx64_11g) <| Wm (.l enc_GOp_ p2) rfl <| Wm (.i y10_6) rfl ?_
        obtain ⟨x69_11, hx69_11, hm⟩ := bnd hm
        obtain ⟨hx69_11i, hx69_11g⟩ := geti_some hx69_11
        refine Wz (.d (.ref (List.drop ((Int.toNat y10_6) * 4) (flatD enc_GOp_ p2)))) (Oia rfl enc_GOp__len hx69_11i hx69_11g) <| Wz (.d (.ref (List.drop 3 (List.drop ((Int.toNat y10_6) * 4) (flatD enc_GOp_ p2))))) (Ofa rfl) <| Wz (.l enc_GChange x69_11.L) (Lfk1 3 rfl enc_GOp__len hx69_11g) ?_
        obtain ⟨r72_11, hr72_11, hm⟩ := bnd hm
        refine Wy (.own 3) [(3, (Ar 84 3 enc_GChange r72_11))] (Ocf [] [3] [] 0 (ok_w26_Own x69_11.L r72_11 hr72_11) (fun a w => Try.call9 a w) rfl trivial) ?_
        obtain ⟨r73_11, hr73_11, hm⟩ := bnd hm
        refine Wy (.tup [(.agg [(.i r73_11.1.Cap), (.l (encL enc_GChange) r73_11.1.Views), (.l (encL enc_GChange) r73_11.1.Pending), (.d (.mp (Option.isNone r73_11.1.Links) (mks kv_22 (ml r73_11.1.Links)) (mds (slD (encL enc_GChange)) (ml r73_11.1.Links))))]), (.i r73_11.2)]) [(3, (.fro 84 3 (List.length r72_11) (flatD enc_GChange r72_11)))] (Ocf [] [] [3] 0 (ok_view_Net_Note (GNet.mk y7_d_0_6 y7_d_1_6 y7_d_2_6 y7_d_3_6) x64_11.A r72_11 r73_11 hr73_11) (fun a w => Try.call11 a w) rfl trivial) <| Wm (.tup [(.agg [(.i r73_11.1.Cap), (.l (encL enc_GChange) r73_11.1.Views), (.l (encL enc_GChange) r73_11.1.Pending), (.d (.mp (Option.isNone r73_11.1.Links) (mks kv_22 (ml r73_11.1.Links)) (mds (slD (encL enc_GChange)) (ml r73_11.1.Links))))]), (.i r73_11.2)]) rfl <| Wz (.agg [(.i r73_11.1.Cap), (.l (encL enc_GChange) r73_11.1.Views), (.l (encL enc_GChange) r73_11.1.Pending), (.d (.mp (Option.isNone r73_11.1.Links) (mks kv_22 (ml r73_11.1.Links)) (mds (slD (encL enc_GChange)) (ml r73_11.1.Links))))]) (Oex rfl) <| Wz (.i r73_11.2) (Oex rfl) <| Wy (.tup []) [(2, (.box [(.i r73_11.1.Cap), (.l (encL enc_GChange) r73_11.1.Views), (.l (encL enc_GChange) r73_11.1.Pending), (.d (.mp (Option.isNone r73_11.1.Links) (mks kv_22 (ml r73_11.1.Links)) (mds (slD (encL enc_GChange)) (ml r73_11.1.Links))))]))] (Ost rfl) <| Wm (.i r73_11.2) rfl <| Wdr <| Tk 7820 7 ⟨tp 2 (.l enc_GOp_ p2::.loc 0 0::tp 3 (.loc 1 0::tp 1 (.l enc_GChange y9_6::.i y10_6::.loc 2 0::.i r73_11.2::tp 146 []))), [(.box [(.i p0.a0), (.i p0.a1)]), (.box [(.i y7_d_0_6), (.l (encL enc_GChange) y7_d_1_6), (.l (encL enc_GChange) y7_d_2_6), (.d (.mp (Option.isNone y7_d_3_6) (mks kv_22 (ml y7_d_3_6)) (mds (slD (encL enc_GChange)) (ml y7_d_3_6))))]), (.box [(.i r73_11.1.Cap), (.l (encL enc_GChange) r73_11.1.Views), (.l (encL enc_GChange) r73_11.1.Pending), (.d (.mp (Option.isNone r73_11.1.Links) (mks kv_22 (ml r73_11.1.Links)) (mds (slD (encL enc_GChange)) (ml r73_11.1.Links))))]), .gone], 0⟩ <| Sx <| Wm (.i r73_11.2) rfl <| Wz (.b (decide (r73_11.2 = 0))) (Obn rfl (fun _ => hb_eql (k := .i64))) <| Nk 151115727451828646846092 7 ⟨tp 2 (.l enc_GOp_ p2::.loc 0 0::tp 3 (.loc 1 0::tp 1 (.l enc_GChange y9_6::.i y10_6::.loc 2 0::.i r73_11.2::tp 64 (.b (decide (r73_11.2 = 0))::tp 81 [])))), [(.box [(.i p0.a0), (.i p0.a1)]), (.box [(.i y7_d_0_6), (.l (encL enc_GChange) y7_d_1_6), (.l (encL enc_GChange) y7_d_2_6), (.d (.mp (Option.isNone y7_d_3_6) (mks kv_22 (ml y7_d_3_6)) (mds (slD (encL enc_GChange)) (ml y7_d_3_6))))]), (.box [(.i r73_11.1.Cap), (.l (encL enc_GChange) r73_11.1.Views), (.l (encL enc_GChange) r73_11.1.Pending), (.d (.mp (Option.isNone r73_11.1.Links) (mks kv_22 (ml r73_11.1.Links)) (mds (slD (encL enc_GChange)) (ml r73_11.1.Links))))]), .gone], 0⟩ ?_
        rcases tf_ (decide (r73_11.2 = 0)) with hc77_32 | hc77_32
        ·
         replace hm := cT hc77_32 hm
         refine AiT hc77_32 <| Tx <| Wm (.l enc_GChange y9_6) rfl <| Wm (.l enc_GOp_ p2) rfl <| Wm (.i y10_6) rfl ?_
         obtain ⟨x81_12, hx81_12, hm⟩ := bnd hm
         obtain ⟨hx81_12i, hx81_12g⟩ := geti_some hx81_12
         refine Wz (.d (.ref (List.drop ((Int.toNat y10_6) * 4) (flatD enc_GOp_ p2)))) (Oia rfl enc_GOp__len hx81_12i hx81_12g) <| Wz (.d (.ref (List.drop 3 (List.drop ((Int.toNat y10_6) * 4) (flatD enc_GOp_ p2))))) (Ofa rfl) <| Wz (.l enc_GChange x81_12.L) (Lfk1 3 rfl enc_GOp__len hx81_12g) ?_
         obtain ⟨r84_12, hr84_12, hm⟩ := bnd hm
         refine Wy (.own 4) [(4, (Ar 84 3 enc_GChange r84_12))] (Ocf [] [4] [] 0 (ok_w26_Own x81_12.L r84_12 hr84_12) (fun a w => Try.call9 a w) rfl trivial) ?_
         obtain ⟨r85_12, hr85_12, hm⟩ := bnd hm
         refine Wy (.l enc_GChange r85_12) [(4, (.fro 84 3 (List.length r84_12) (flatD enc_GChange r84_12)))] (Ocf [] [] [4] 0 (ok_tally_Merge y9_6 r84_12 r85_12 hr85_12) (fun a w => Try.call31 a w) rfl trivial) <| Wm (.l enc_GChange r85_12) rfl <| Nn ?_
         exact AWP.weak (Weak.toK 7820 0 0 [0, 1, 2]) (J16 (r85_12, r73_11.1, r73_11.2) hm)
        ·
         replace hm := cF hc77_32 hm
         refine AiF hc77_32 <| Sk <| Tn ?_
         exact AWP.weak (Weak.toK 7820 0 0 [0, 1, 2]) (J16 (y9_6, r73_11.1, r73_11.2) hm)
       ·
        replace hm := cF hc59_31 hm
        refine AiF hc59_31 <| Sx <| Wm (.l enc_GOp_ p2) rfl <| Wm (.i y10_6) rfl ?_
        obtain ⟨x88_13, hx88_13, hm⟩ := bnd hm
        obtain ⟨hx88_13i, hx88_13g⟩ := geti_some hx88_13
        refine Wz (.d (.ref (List.drop ((Int.toNat y10_6) * 4) (flatD enc_GOp_ p2)))) (Oia rfl enc_GOp__len hx88_13i hx88_13g) <| Wz (.d (.ref (List.drop ((Int.toNat y10_6) * 4) (flatD enc_GOp_ p2)))) (Ofa rfl) <| Wz (.y x88_13.Kind) (Lf1 rfl enc_GOp__len hx88_13g) <| Wz (.b (decide (((x88_13.Kind.toNat : Nat) : Int) = 1))) (Ob2 (.int .u8 ((x88_13.Kind.toNat : Nat) : Int)) (.int .u8 1) rfl (fun _ => hb_eql)) <| Nk 2475880078570760549798252172 7 ⟨tp 2 (.l enc_GOp_ p2::.loc 0 0::tp 3 (.loc 1 0::tp 1 (.l enc_GChange y9_6::.i y10_6::.loc 2 0::tp 79 (.b (decide (((x88_13.Kind.toNat : Nat) : Int) = 1))::tp 67 [])))), [(.box [(.i p0.a0), (.i p0.a1)]), (.box [(.i y7_d_0_6), (.l (encL enc_GChange) y7_d_1_6), (.l (encL enc_GChange) y7_d_2_6), (.d (.mp (Option.isNone y7_d_3_6) (mks kv_22 (ml y7_d_3_6)) (mds (slD (encL enc_GChange)) (ml y7_d_3_6))))]), (.box [(.i y7_d_0_6), (.l (encL enc_GChange) y7_d_1_6), (.l (encL enc_GChange) y7_d_2_6), (.d (.mp (Option.isNone y7_d_3_6) (mks kv_22 (ml y7_d_3_6)) (mds (slD (encL enc_GChange)) (ml y7_d_3_6))))])], 0⟩ ?_
        rcases tf_ (decide (((x88_13.Kind.toNat : Nat) : Int) = 1)) with hc91_33 | hc91_33
        ·
         replace hm := cT hc91_33 hm
         refine AiT hc91_33 <| Adr <| Wz (.agg [(.i y7_d_0_6), (.l (encL enc_GChange) y7_d_1_6), (.l (encL enc_GChange) y7_d_2_6), (.d (.mp (Option.isNone y7_d_3_6) (mks kv_22 (ml y7_d_3_6)) (mds (slD (encL enc_GChange)) (ml y7_d_3_6))))]) (Old rfl) <| Wm (.l enc_GOp_ p2) rfl <| Wm (.i y10_6) rfl ?_
         obtain ⟨x96_14, hx96_14, hm⟩ := bnd hm
         obtain ⟨hx96_14i, hx96_14g⟩ := geti_some hx96_14
         refine Wz (.d (.ref (List.drop ((Int.toNat y10_6) * 4) (flatD enc_GOp_ p2)))) (Oia rfl enc_GOp__len hx96_14i hx96_14g) <| Wz (.d (.ref (List.drop 1 (List.drop ((Int.toNat y10_6) * 4) (flatD enc_GOp_ p2))))) (Ofa rfl) <| Wz (.i x96_14.A) (Lfk1 1 rfl enc_GOp__len hx96_14g) ?_
         obtain ⟨r99_14, hr99_14, hm⟩ := bnd hm
         refine Wz (.tup [(.agg [(.i r99_14.1.Cap), (.l (encL enc_GChange) r99_14.1.Views), (.l (encL enc_GChange) r99_14.1.Pending), (.d (.mp (Option.isNone r99_14.1.Links) (mks kv_22 (ml r99_14.1.Links)) (mds (slD (encL enc_GChange)) (ml r99_14.1.Links))))]), (.i r99_14.2)]) (Ocf [] [] [] 0 (ok_view_Net_Flush (GNet.mk y7_d_0_6 y7_d_1_6 y7_d_2_6 y7_d_3_6) x96_14.A r99_14 hr99_14) (fun a w => Try.call13 a w) rfl trivial) <| Wm (.tup [(.agg [(.i r99_14.1.Cap), (.l (encL enc_GChange) r99_14.1.Views), (.l (encL enc_GChange) r99_14.1.Pending), (.d (.mp (Option.isNone r99_14.1.Links) (mks kv_22 (ml r99_14.1.Links)) (mds (slD (encL enc_GChange)) (ml r99_14.1.Links))))]), (.i r99_14.2)]) rfl <| Wz (.agg [(.i r99_14.1.Cap), (.l (encL enc_GChange) r99_14.1.Views), (.l (encL enc_GChange) r99_14.1.Pending), (.d (.mp (Option.isNone r99_14.1.Links) (mks kv_22 (ml r99_14.1.Links)) (mds (slD (encL enc_GChange)) (ml r99_14.1.Links))))]) (Oex rfl) <| Wz (.i r99_14.2) (Oex rfl) <| Wy (.tup []) [(2, (.box [(.i r99_14.1.Cap), (.l (encL enc_GChange) r99_14.1.Views), (.l (encL enc_GChange) r99_14.1.Pending), (.d (.mp (Option.isNone r99_14.1.Links) (mks kv_22 (ml r99_14.1.Links)) (mds (slD (encL enc_GChange)) (ml r99_14.1.Links))))]))] (Ost rfl) <| Wm (.i r99_14.2) rfl <| Wdr <| Tn ?_
         exact AWP.weak (Weak.toK 7820 0 0 [0, 1, 2]) (J16 (y9_6, r99_14.1, r99_14.2) hm)
        ·
         replace hm := cF hc91_33 hm
         refine AiF hc91_33 <| Adr <| Wz (.agg [(.i y7_d_0_6), (.l (encL enc_GChange) y7_d_1_6), (.l (encL enc_GChange) y7_d_2_6), (.d (.mp (Option.isNone y7_d_3_6) (mks kv_22 (ml y7_d_3_6)) (mds (slD (encL enc_GChange)) (ml y7_d_3_6))))]) (Old rfl) <| Wm (.l enc_GOp_ p2) rfl <| Wm (.i y10_6) rfl ?_
         obtain ⟨x106_15, hx106_15, hm⟩ := bnd hm
         obtain ⟨hx106_15i, hx106_15g⟩ := geti_some hx106_15
         refine Wz (.d (.ref (List.drop ((Int.toNat y10_6) * 4) (flatD enc_GOp_ p2)))) (Oia rfl enc_GOp__len hx106_15i hx106_15g) <| Wz (.d (.ref (List.drop 1 (List.drop ((Int.toNat y10_6) * 4) (flatD enc_GOp_ p2))))) (Ofa rfl) <| Wz (.i x106_15.A) (Lfk1 1 rfl enc_GOp__len hx106_15g) <| Wm (.l enc_GOp_ p2) rfl <| Wm (.i y10_6) rfl ?_
         obtain ⟨x111_15, hx111_15, hm⟩ := bnd hm
         obtain ⟨hx111_15i, hx111_15g⟩ := geti_some hx111_15
         refine Wz (.d (.ref (List.drop ((Int.toNat y10_6) * 4) (flatD enc_GOp_ p2)))) (Oia rfl enc_GOp__len hx111_15i hx111_15g) <| Wz (.d (.ref (List.drop 2 (List.drop ((Int.toNat y10_6) * 4) (flatD enc_GOp_ p2))))) (Ofa rfl) <| Wz (.i x111_15.B) (Lfk1 2 rfl enc_GOp__len hx111_15g) ?_
         obtain ⟨r114_15, hr114_15, hm⟩ := bnd hm
         refine Wz (.tup [(.agg [(.i r114_15.1.Cap), (.l (encL enc_GChange) r114_15.1.Views), (.l (encL enc_GChange) r114_15.1.Pending), (.d (.mp (Option.isNone r114_15.1.Links) (mks kv_22 (ml r114_15.1.Links)) (mds (slD (encL enc_GChange)) (ml r114_15.1.Links))))]), (.i r114_15.2)]) (Ocf [] [] [] 0 (ok_view_Net_Deliver (GNet.mk y7_d_0_6 y7_d_1_6 y7_d_2_6 y7_d_3_6) x106_15.A x111_15.B r114_15 hr114_15) (fun a w => Try.call15 a w) rfl trivial) <| Wm (.tup [(.agg [(.i r114_15.1.Cap), (.l (encL enc_GChange) r114_15.1.Views), (.l (encL enc_GChange) r114_15.1.Pending), (.d (.mp (Option.isNone r114_15.1.Links) (mks kv_22 (ml r114_15.1.Links)) (mds (slD (encL enc_GChange)) (ml r114_15.1.Links))))]), (.i r114_15.2)]) rfl <| Wz (.agg [(.i r114_15.1.Cap), (.l (encL enc_GChange) r114_15.1.Views), (.l (encL enc_GChange) r114_15.1.Pending), (.d (.mp (Option.isNone r114_15.1.Links) (mks kv_22 (ml r114_15.1.Links)) (mds (slD (encL enc_GChange)) (ml r114_15.1.Links))))]) (Oex rfl) <| Wz (.i r114_15.2) (Oex rfl) <| Wy (.tup []) [(2, (.box [(.i r114_15.1.Cap), (.l (encL enc_GChange) r114_15.1.Views), (.l (encL enc_GChange) r114_15.1.Pending), (.d (.mp (Option.isNone r114_15.1.Links) (mks kv_22 (ml r114_15.1.Links)) (mds (slD (encL enc_GChange)) (ml r114_15.1.Links))))]))] (Ost rfl) <| Wm (.i r114_15.2) rfl <| Wdr <| Tn ?_
         exact AWP.weak (Weak.toK 7820 0 0 [0, 1, 2]) (J16 (y9_6, r114_15.1, r114_15.2) hm)
     ·
      replace hm := cF hc42_25 hm
      refine AiF hc42_25 <| AWP.exit <| Then.exit <| RoundK.exit <| InBlock.same <| Tk 0 0 ⟨tp 159 [], [.gone, .gone], 0⟩ <| Sx ?_
      obtain ⟨r158_22, hr158_22, hm⟩ := bnd hm
      refine Wz (.b r158_22) (Ocf [] [] [] 0 (ok_w29_awake  r158_22 hr158_22) (fun a w => Try.call7 a w) rfl trivial) <| Wm (.b r158_22) rfl <| Nn <| Rt ?_
      obtain rfl := Option.some.inj hm
      exact ret_i []
end Go.Proofs.Ytcpageegmpjkiaa.K

namespace Go.Proofs.Ytcpageegmpjkiaa.K
section
variable {K V : Type} [DecidableEq K]
theorem look_put : ∀ (l : List (K × V)) (k k' : K) (v : V), mlook (mput l k v) k' = if k = k' then some v else mlook l k'
  | [], k, k', v => by simp [mput, mlook]
  | p :: l, k, k', v => by
    have ih := look_put l k k' v
    unfold mput
    by_cases h : p.1 = k
    · rw [if_pos h]
      by_cases h2 : k = k'
      · simp [mlook, h2]
      · simp [mlook, h2, h]
    · rw [if_neg h]
      by_cases h2 : p.1 = k'
      · have : ¬ k = k' := fun e => h (by rw [h2, e])
        simp [mlook, h2, this]
      · simp [mlook, h2, ih]
theorem put_keys : ∀ (l : List (K × V)) (k : K) (v : V), (mput l k v).map (·.1) = if k ∈ l.map (·.1) then l.map (·.1) else l.map (·.1) ++ [k]
  | [], k, v => by simp [mput]
  | p :: l, k, v => by
    have ih := put_keys l k v
    unfold mput
    by_cases h : p.1 = k
    · rw [if_pos h]; simp [h]
    · rw [if_neg h]
      have h' : ¬ k = p.1 := fun e => h e.symm
      simp only [List.map_cons, ih, List.mem_cons, h', false_or]
      split <;> simp
theorem put_nodup {l : List (K × V)} (h : (l.map (·.1)).Nodup) (k : K) (v : V) : ((mput l k v).map (·.1)).Nodup := by
  rw [put_keys]
  split
  · exact h
  · rename_i hk
    rw [List.nodup_append]
    exact ⟨h, by simp, fun a ha b hb => by simp at hb; subst hb; exact fun e => hk (e ▸ ha)⟩
theorem put_mem : ∀ {l : List (K × V)} {k : K} {v : V} {p : K × V}, p ∈ mput l k v → p ∈ l ∨ p = (k, v)
  | [], k, v, p, h => by simp [mput] at h; exact .inr h
  | q :: l, k, v, p, h => by
    unfold mput at h
    split at h
    · rcases List.mem_cons.1 h with h | h
      · exact .inr h
      · exact .inl (by simp [h])
    · rcases List.mem_cons.1 h with h | h
      · exact .inl (by simp [h])
      · rcases put_mem h with h | h
        · exact .inl (by simp [h])
        · exact .inr h
theorem look_none {l : List (K × V)} {k : K} (h : k ∉ l.map (·.1)) : mlook l k = none := by
  induction l with
  | nil => rfl
  | cons p l ih =>
    simp only [List.map_cons, List.mem_cons, not_or] at h
    unfold mlook
    rw [if_neg (fun e => h.1 e.symm), ih h.2]
theorem mem_look : ∀ {l : List (K × V)}, (l.map (·.1)).Nodup → ∀ {p : K × V}, p ∈ l → mlook l p.1 = some p.2
  | q :: l, h, p, hp => by
    simp only [List.map_cons, List.nodup_cons] at h
    unfold mlook
    rcases List.mem_cons.1 hp with rfl | hp
    · rw [if_pos rfl]
    · rw [if_neg (fun e => h.1 (by rw [e]; exact List.mem_map_of_mem hp)), mem_look h.2 hp]
theorem del_sub : ∀ {l : List (K × V)} {k : K} {p : K × V}, p ∈ mdel l k → p ∈ l
  | q :: l, k, p, h => by
    unfold mdel at h
    split at h
    · simp [h]
    · rcases List.mem_cons.1 h with h | h
      · simp [h]
      · simp [del_sub h]
theorem del_keys : ∀ {l : List (K × V)} {k : K}, ((mdel l k).map (·.1)).Sublist (l.map (·.1))
  | [], k => by simp [mdel]
  | q :: l, k => by
    unfold mdel
    split
    · simp
    · simp only [List.map_cons]; exact del_keys.cons_cons _
theorem look_del : ∀ {l : List (K × V)}, (l.map (·.1)).Nodup → ∀ (k k' : K), mlook (mdel l k) k' = if k = k' then none else mlook l k'
  | [], h, k, k' => by simp [mdel, mlook]
  | q :: l, h, k, k' => by
    simp only [List.map_cons, List.nodup_cons] at h
    have ih := look_del h.2 k k'
    unfold mdel
    by_cases h1 : q.1 = k
    · rw [if_pos h1]
      by_cases h2 : k = k'
      · rw [if_pos h2, ← h2, ← h1]; exact look_none h.1
      · rw [if_neg h2]; simp [mlook, h1, h2]
    · rw [if_neg h1]
      by_cases h2 : q.1 = k'
      · have : ¬ k = k' := fun e => h1 (by rw [h2, e])
        simp [mlook, h2, this]
      · simp [mlook, h2, ih]
/-- A map's elements at a key: none, if there is no such key. -/
def lkA {α : Type} (l : List (K × List α)) (k : K) : List α := Option.getD (mlook l k) []
theorem lkA_put {α : Type} (l : List (K × List α)) (k k' : K) (v : List α) : lkA (mput l k v) k' = if k = k' then v else lkA l k' := by
  unfold lkA; rw [look_put]; split <;> rfl
theorem lkA_del {α : Type} {l : List (K × List α)} (h : (l.map (·.1)).Nodup) (k k' : K) : lkA (mdel l k) k' = if k = k' then [] else lkA l k' := by
  unfold lkA; rw [look_del h]; split <;> rfl
theorem meq_same {f : V → V → Option Bool} {l : List (K × V)} (h : (l.map (·.1)).Nodup) (hf : ∀ p ∈ l, f p.2 p.2 = some true) : meq f l l = some true := by
  unfold meq
  rw [if_pos rfl]
  have key : ∀ m : List (K × V), (∀ p ∈ m, p ∈ l) → mall f l m = some true := by
    intro m
    induction m with
    | nil => intro _; rfl
    | cons p m ih =>
      intro hm
      unfold mall mgood
      rw [mem_look h (hm p (by simp))]
      simp only []
      rw [hf p (hm p (by simp)), ih (fun q hq => hm q (by simp [hq]))]
      rfl
  exact key l fun _ h => h
end
end Go.Proofs.Ytcpageegmpjkiaa.K

namespace Go.Proofs.Ytcpageegmpjkiaa
open Go.ChangeShapes Go.WideShapes Go.ChangeAt Go.RowKit
open Go.ChangeMaps (open_string shut_string)

section
variable {H : Type} {enc : TypeId × Value → H} {P : Program}
theorem trodAll_lt {w : World} {base : Nat} {spare : Nat → Bool} {held : Bool} : ∀ {ts : List TypeId} {vs : List Value} {ds : List (DataW H)} {ps : List MemPlace},
    DataW.TrodAll enc P w base spare held ts vs ds ps → ∀ x ∈ ps, x.block < w.heap.size
  | [], _, _, _, h => by obtain ⟨_, _, rfl⟩ := trodAll_nil h; simp
  | t :: ts, _, _, _, h => by
    obtain ⟨v, vs, d, ds, p, q, rfl, rfl, rfl, h0, h1⟩ := trodAll_cons h
    intro x hx
    rcases List.mem_append.1 hx with hx | hx
    · obtain ⟨m, hm⟩ := h0; exact DataW.trod_lt m _ _ _ hm x hx
    · exact trodAll_lt h1 x hx
theorem trodAll_below (hl : laidOutB P = true) {W W' : World} (hb : Below W.heap.size W W') : ∀ {ts : List TypeId} {vs : List Value} {ds : List (DataW H)} {ps : List MemPlace},
    (ts.all fun t => P.readableRec t && decide (t < P.types.size)) = true → DataW.TrodAll enc P W 0 (fun _ => true) true ts vs ds ps → DataW.TrodAll enc P W' 0 (fun b => decide (b < W.heap.size)) true ts vs ds ps
  | [], _, _, _, _, h => by obtain ⟨rfl, rfl, rfl⟩ := trodAll_nil h; exact trodAll_mk0
  | t :: ts, _, _, _, ht, h => by
    have hlt := trodAll_lt h
    obtain ⟨v, vs, d, ds, p, q, rfl, rfl, rfl, h0, h1⟩ := trodAll_cons h
    simp only [List.all_cons, Bool.and_eq_true, decide_eq_true_eq] at ht
    exact trodAll_cons_mk (Below.trod hl ht.1.1 ht.1.2 h0 hb fun x hx => hlt x (by simp [hx])) (trodAll_below hl hb (by simpa using ht.2) h1)

variable {W : World} {base : Nat} {spare : Nat → Bool} {held : Bool} {t : TypeId} {v : Value} {d : DataW H} {ps : List MemPlace}
end
end Go.Proofs.Ytcpageegmpjkiaa

namespace Go.Proofs.Ytcpageegmpjkiaa.K
open Go.RowKit Go.Lib
def inK (k : IntKind) (n : Int) : Prop := (Lit.int k n).wf = true
def wfT {α : Type} (_ : α) : Prop := True
def wfL {α : Type} (q : α → Prop) (l : List α) : Prop := l.length ≤ maxLen ∧ ∀ x ∈ l, q x
section
variable {P : Program} {t e : TypeId} {ds : List D}
theorem td_int {k : IntKind} (hu : P.underlying t = some (.int k)) (h : TD P t ds) : ∃ n, ds = encI k n ∧ inK k n := TD.of_int hu h
theorem td_u8 (hu : P.underlying t = some (.int .u8)) (h : TD P t ds) : ∃ b : UInt8, ds = encU8 b ∧ wfT b := by
  obtain ⟨n, rfl, hw⟩ := TD.of_int hu h
  simp [Lit.wf, IntKind.min, IntKind.max, IntKind.signed, IntKind.bits] at hw
  refine ⟨UInt8.ofNat n.toNat, ?_, trivial⟩
  have : (((UInt8.ofNat n.toNat).toNat : Nat) : Int) = n := by
    have h2 : (UInt8.ofNat n.toNat).toNat = n.toNat % 256 := UInt8.toNat_ofNat
    rw [h2]; omega
  unfold encU8 byteD
  rw [this]
theorem td_slice {α : Type} {enc : α → List D} {q : α → Prop} (hu : P.underlying t = some (.slice e)) (he : ∀ {r}, TD P e r → ∃ x, r = enc x ∧ q x) (h : TD P t ds) : ∃ l : List α, ds = encL enc l ∧ wfL q l := by
  obtain ⟨l, rfl, h1, h2⟩ := TD.of_slice hu he h
  exact ⟨l, rfl, h1, h2⟩
end
theorem rep_1 {S : Nat → Prop} {w : World} {m : Mp} {x : D} {v : Value} {xs : List D} (h : RepD S w x v) (e : [x] = xs) {y : D} (hy : xs = [y]) : Rep m S w (.d y) v := by
  subst hy
  cases e
  exact rep_d h
theorem rep_ag {S : Nat → Prop} {w : World} {m : Mp} {ds : List D} {as' : List A} {cs : Array Value} (h : RepsD S w ds cs.toList) (e : ds.map A.d = as' := by rfl) : Rep m S w (.agg as') (.agg cs) := by
  subst e
  exact rep_agg (reps_of_repsD h)
end Go.Proofs.Ytcpageegmpjkiaa.K

namespace Go.Proofs.Ytcpageegmpjkiaa.K
open Go.RowKit Go.Lib
theorem w64 {n : Int} (h1 : -9223372036854775808 ≤ n) (h2 : n ≤ 9223372036854775807) : IntKind.i64.wrap n = n := by
  simp [IntKind.wrap, IntKind.signed, IntKind.bits]; omega
theorem wu64 (n : Int) : IntKind.u64.wrap n = n % 18446744073709551616 := K.wrap_u64 n
section
variable {α : Type} {l r : List α} {i n : Nat} {x : α}
/-- One further. -/
theorem inc_ok (h2 : i ≤ 9223372036854775806) : IntKind.i64.wrap ((i : Int) + 1) = ((i + 1 : Nat) : Int) := by
  rw [w64 (by omega) (by omega)]; omega
theorem geti_nat : geti l (i : Int) = l[i]? := by simp [geti]
theorem geti_lt (h : i < l.length) : geti l (i : Int) = some l[i] := by rw [geti_nat, List.getElem?_eq_getElem h]
theorem geti_0 {y : α} : geti (y :: l) 0 = some y := rfl
theorem app_ok (h : l.length + r.length ≤ 1000000000) : app l r = some (l ++ r) := if_pos h
theorem cut_ok {a b : Nat} (h1 : a ≤ b) (h2 : b ≤ l.length) : cut l (a : Int) (b : Int) = some ((l.drop a).take (b - a)) := by unfold cut; rw [if_pos (by omega)]; rfl
theorem obind_some {β : Type} {f : α → Option β} : Option.bind (some x) f = f x := rfl
theorem chk_ok {p : Prop} [Decidable p] {o : Option α} (h : p) : chk p o = o := if_pos h
theorem d_lt {a b : Int} (h : a < b) : decide (a < b) = true := decide_eq_true h
theorem d_nlt {a b : Int} (h : ¬ a < b) : decide (a < b) = false := decide_eq_false h
theorem drop_cons (h : i < l.length) : l.drop i = l[i] :: l.drop (i + 1) := List.drop_eq_getElem_cons h
theorem take_snoc (h : i < l.length) : l.take (i + 1) = l.take i ++ [l[i]] := by rw [List.take_add_one, List.getElem?_eq_getElem h]; rfl
end
/-- A loop that counts up to n: by what it comes to from place i on, in state s. -/
theorem loopG {σ R : Type} {L : Nat → σ → Int → Option R} {n : Nat} {P : Nat → σ → Option R → Prop} (hend : ∀ fu s, P n s (L (fu + 1) s (n : Int)))
    (hstep : ∀ fu s i, i < n → (∀ s', P (i + 1) s' (L fu s' ((i + 1 : Nat) : Int))) → P i s (L (fu + 1) s (i : Int))) : ∀ fu i s, i ≤ n → n - i < fu → P i s (L fu s (i : Int))
  | 0, i, s, _, h => by omega
  | fu + 1, i, s, h1, h2 => by
    rcases Nat.lt_or_ge i n with h | h
    · exact hstep fu s i h fun s' => loopG hend hstep fu (i + 1) s' (by omega) (by omega)
    · obtain rfl : i = n := by omega
      exact hend fu s
/-- The same without a state. -/
theorem loop1 {R : Type} {L : Nat → Int → Option R} {n : Nat} {P : Nat → Option R → Prop} (hend : ∀ fu, P n (L (fu + 1) (n : Int)))
    (hstep : ∀ fu i, i < n → P (i + 1) (L fu ((i + 1 : Nat) : Int)) → P i (L (fu + 1) (i : Int))) (fu i : Nat) (h1 : i ≤ n) (h2 : n - i < fu) : P i (L fu (i : Int)) :=
  loopG (σ := Unit) (L := fun fu _ i => L fu i) (P := fun i _ o => P i o) (fun fu _ => hend fu) (fun fu _ i hi h => hstep fu i hi (h ())) fu i () h1 h2
/-- From the first place on. -/
theorem loop1_0 {R : Type} {L : Nat → Int → Option R} {n : Nat} {P : Nat → Option R → Prop} (hn : n < 1152921504606846976) (hend : ∀ fu, P n (L (fu + 1) (n : Int)))
    (hstep : ∀ fu i, i < n → P (i + 1) (L fu ((i + 1 : Nat) : Int)) → P i (L (fu + 1) (i : Int))) : P 0 (L 1152921504606846976 0) := loop1 hend hstep _ 0 (Nat.zero_le _) (by omega)
theorem loopG_0 {σ R : Type} {L : Nat → σ → Int → Option R} {n : Nat} {P : Nat → σ → Option R → Prop} (hn : n < 1152921504606846976) (hend : ∀ fu s, P n s (L (fu + 1) s (n : Int)))
    (hstep : ∀ fu s i, i < n → (∀ s', P (i + 1) s' (L fu s' ((i + 1 : Nat) : Int))) → P i s (L (fu + 1) s (i : Int))) (s : σ) : P 0 s (L 1152921504606846976 s 0) := loopG hend hstep _ 0 s (Nat.zero_le _) (by omega)
/-- A loop that lays f of each behind what there is. -/
theorem map_loop {α β R : Type} {L : Nat → List β → Int → Option R} {l : List α} {f : α → β} {e : List β → R} (hl : l.length ≤ 400000000)
    (hend : ∀ fu s, L (fu + 1) s (l.length : Int) = some (e s)) (hstep : ∀ fu s i, (h : i < l.length) → s.length ≤ 400000000 → L (fu + 1) s (i : Int) = L fu (s ++ [f l[i]]) ((i + 1 : Nat) : Int)) : L 1152921504606846976 [] 0 = some (e (l.map f)) := by
  have := loopG_0 (L := L) (n := l.length) (P := fun i s o => s.length = i → o = some (e (s ++ (l.drop i).map f))) (by omega) (fun fu s hs => by rw [hend]; simp) (fun fu s i hi ih hs => by
    rw [hstep fu s i hi (by omega), ih (s ++ [f l[i]]) (by simp [hs]), drop_cons hi, List.map_cons, List.append_assoc]; rfl) [] rfl
  simpa using this
end Go.Proofs.Ytcpageegmpjkiaa.K

namespace Go.Proofs.Ytcpageegmpjkiaa.K
open Go.RowKit Go.Lib
section
variable {α : Type} {l p m q : List α} {x y : α} {i j : Int}
theorem geti_at (e : l = p ++ x :: q) (h : i = (p.length : Int)) : geti l i = some x := by
  subst e; subst h; rw [geti_nat]; simp
theorem set_at (e : l = p ++ x :: q) (h : i = (p.length : Int)) : l.set i.toNat y = p ++ y :: q := by
  subst e; subst h
  rw [Int.toNat_natCast, List.set_append_right _ _ (Nat.le_refl _), Nat.sub_self, List.set_cons_zero]
/-- Two elements are swapped: the first place is written first. -/
theorem swp (e : l = p ++ x :: (m ++ y :: q)) (hi : i = (p.length : Int)) (hj : j = (p.length : Int) + 1 + (m.length : Int)) :
    geti l i = some x ∧ geti l j = some y ∧ geti (l.set i.toNat y) j = some y ∧ (l.set i.toNat y).set j.toNat x = p ++ y :: (m ++ x :: q) := by
  have h1 := set_at (y := y) e hi
  have h2 : l = (p ++ x :: m) ++ y :: q := by rw [e]; simp
  have h3 : p ++ y :: (m ++ y :: q) = (p ++ y :: m) ++ y :: q := by simp
  refine ⟨geti_at e hi, geti_at h2 (by simp; omega), ?_, ?_⟩
  · rw [h1]; exact geti_at h3 (by simp; omega)
  · rw [h1, set_at (y := x) h3 (by simp; omega)]; simp
/-- The same, the second place being written first. -/
theorem swp' (e : l = p ++ x :: (m ++ y :: q)) (hi : i = (p.length : Int)) (hj : j = (p.length : Int) + 1 + (m.length : Int)) :
    geti l i = some x ∧ geti l j = some y ∧ geti (l.set j.toNat x) i = some x ∧ (l.set j.toNat x).set i.toNat y = p ++ y :: (m ++ x :: q) := by
  have h2 : l = (p ++ x :: m) ++ y :: q := by rw [e]; simp
  have h1 := set_at (y := x) h2 (i := j) (by simp; omega)
  have h3 : (p ++ x :: m) ++ x :: q = p ++ x :: (m ++ x :: q) := by simp
  refine ⟨geti_at e hi, geti_at h2 (by simp; omega), ?_, ?_⟩
  · rw [h1]; exact geti_at h3 hi
  · rw [h1, set_at (y := y) h3 hi]
end
theorem half_ok {i j : Nat} (h : i + j ≤ 1000000000000) : IntKind.i64.wrap (Int.fdiv (IntKind.u64.wrap (IntKind.i64.wrap ((i : Int) + (j : Int)))) (2 ^ 1)) = (((i + j) / 2 : Nat) : Int) := by
  rw [w64 (n := (i : Int) + (j : Int)) (by omega) (by omega), wu64, Int.emod_eq_of_lt (by omega) (by omega), Int.fdiv_eq_ediv_of_nonneg _ (by decide), w64 (by omega) (by omega)]
  omega
/-- A search by halves. -/
theorem half_loop {R : Type} {L : Nat → Int → Int → Option R} {K : Int → Option R} {Pd : Nat → Prop} [DecidablePred Pd] {lo hi : Nat}
    (hend : ∀ fu (i : Nat), L (fu + 1) (i : Int) (i : Int) = K (i : Int))
    (hstep : ∀ fu (i j : Nat), lo ≤ i → i < j → j ≤ hi → L (fu + 1) (i : Int) (j : Int) = if Pd ((i + j) / 2) then L fu (((i + j) / 2 + 1 : Nat) : Int) (j : Int) else L fu (i : Int) (((i + j) / 2 : Nat) : Int))
    (mono : ∀ c d, lo ≤ c → c ≤ d → d < hi → Pd d → Pd c) : ∀ (fu i j : Nat), lo ≤ i → i ≤ j → j ≤ hi → j - i < fu → (∀ c, lo ≤ c → c < i → Pd c) → (∀ c, j ≤ c → c < hi → ¬ Pd c) →
      ∃ s : Nat, lo ≤ s ∧ s ≤ hi ∧ L fu (i : Int) (j : Int) = K (s : Int) ∧ (∀ c, lo ≤ c → c < s → Pd c) ∧ (∀ c, s ≤ c → c < hi → ¬ Pd c)
  | 0, i, j, _, _, _, h, _, _ => by omega
  | fu + 1, i, j, h1, h2, h3, h4, ha, hb => by
    by_cases hij : i = j
    · subst hij; exact ⟨i, h1, h3, hend fu i, ha, hb⟩
    · rw [hstep fu i j h1 (by omega) h3]
      by_cases hp : Pd ((i + j) / 2)
      · rw [if_pos hp]
        exact half_loop hend hstep mono fu _ j (by omega) (by omega) h3 (by omega) (fun c hc1 hc2 => mono c ((i + j) / 2) hc1 (by omega) (by omega) hp) hb
      · rw [if_neg hp]
        exact half_loop hend hstep mono fu i _ h1 (by omega) (by omega) (by omega) ha (fun c hc1 hc2 hc => hp (mono _ c (by omega) hc1 hc2 hc))
/-! ### order -/
/-- What tells an order: less is never both ways, and not less goes on from one to the next. -/
structure Ord {α : Type} (Q : α → Prop) (lt : α → α → Prop) : Prop where
  asym : ∀ x y, Q x → Q y → lt x y → ¬ lt y x
  trans : ∀ x y z, Q x → Q y → Q z → ¬ lt y x → ¬ lt z y → ¬ lt z x
section
variable {α : Type} {Q : α → Prop} {lt : α → α → Prop} (O : Ord Q lt)
/-- In order: none is less than one ahead of it. -/
def Srt (lt : α → α → Prop) (l : List α) : Prop := l.Pairwise fun x y => ¬ lt y x
theorem Srt.app {a b : List α} : Srt lt (a ++ b) ↔ Srt lt a ∧ Srt lt b ∧ ∀ x ∈ a, ∀ y ∈ b, ¬ lt y x := List.pairwise_append
theorem Srt.one (x : α) : Srt lt [x] := List.pairwise_singleton _ _
theorem Srt.nil : Srt lt ([] : List α) := List.Pairwise.nil
theorem Srt.at {l : List α} (h : Srt lt l) {i j : Nat} (hij : i < j) (hj : j < l.length) : ¬ lt l[j] l[i] := (List.pairwise_iff_getElem.1 h) i j _ _ hij
include O in
theorem Srt.at' {l : List α} (h : Srt lt l) (hq : ∀ x ∈ l, Q x) {i j : Nat} (hij : i ≤ j) (hj : j < l.length) : ¬ lt l[j] (l[i]'(by omega)) := by
  rcases Nat.lt_or_ge i j with h1 | h1
  · exact h.at h1 hj
  · have : i = j := by omega
    subst this
    intro hl
    exact O.asym _ _ (hq _ (List.getElem_mem _)) (hq _ (List.getElem_mem _)) hl hl
/-- In chunks of k, each in order. -/
inductive Chunks (lt : α → α → Prop) (k : Nat) : List α → Prop
  | last (l : List α) : l.length ≤ k → Srt lt l → Chunks lt k l
  | cons (c l : List α) : c.length = k → Srt lt c → Chunks lt k l → Chunks lt k (c ++ l)
theorem Chunks.split {k : Nat} {l : List α} (h : Chunks lt k l) (hk : k ≤ l.length) : ∃ c r, l = c ++ r ∧ c.length = k ∧ Srt lt c ∧ Chunks lt k r := by
  cases h with
  | last l h1 h2 => exact ⟨l, [], by simp, by omega, h2, .last _ (by simp) Srt.nil⟩
  | cons c l h1 h2 h3 => exact ⟨c, l, rfl, h1, h2, h3⟩
theorem Chunks.all {k : Nat} {l : List α} (h : Chunks lt k l) (hk : l.length ≤ k) : Srt lt l := by
  cases h with
  | last l h1 h2 => exact h2
  | cons c l h1 h2 h3 =>
    have : l = [] := List.eq_nil_of_length_eq_zero (by simp at hk; omega)
    subst this; rw [List.append_nil]; exact h2
/-- One more put into its place: behind all that it is not less than. -/
def insS (lt : α → α → Prop) [DecidableRel lt] (s : List α) (x : α) : List α := s.takeWhile (fun y => !decide (lt x y)) ++ x :: s.dropWhile (fun y => !decide (lt x y))
def isort (lt : α → α → Prop) [DecidableRel lt] (l : List α) : List α := l.foldl (insS lt) []
variable [DecidableRel lt]
theorem insS_perm (s : List α) (x : α) : (insS lt s x).Perm (s ++ [x]) := by
  have e : s = s.takeWhile (fun y => !decide (lt x y)) ++ s.dropWhile (fun y => !decide (lt x y)) := (List.takeWhile_append_dropWhile).symm
  unfold insS
  conv => rhs; rw [e, List.append_assoc]
  exact List.Perm.append_left _ (List.perm_append_singleton _ _).symm
theorem fold_perm : ∀ (l s : List α), (l.foldl (insS lt) s).Perm (s ++ l)
  | [], s => by simp
  | x :: l, s => by
    rw [List.foldl_cons]
    refine (fold_perm l _).trans ?_
    have := (insS_perm (lt := lt) s x).append_right l
    simpa using this
theorem isort_perm (l : List α) : (isort lt l).Perm l := by simpa [isort] using fold_perm (lt := lt) l []
theorem tw_all (s : List α) (x : α) : ∀ y ∈ s.takeWhile (fun y => !decide (lt x y)), ¬ lt x y := by
  induction s with
  | nil => simp
  | cons z s ih =>
    intro y hy
    rw [List.takeWhile_cons] at hy
    split at hy
    · rcases List.mem_cons.1 hy with rfl | hy
      · rename_i hz; simpa using hz
      · exact ih y hy
    · simp at hy
include O in
theorem dw_all {s : List α} {x : α} (hs : Srt lt s) (hq : ∀ y ∈ s, Q y) (hx : Q x) : ∀ y ∈ s.dropWhile (fun y => !decide (lt x y)), lt x y := by
  induction s with
  | nil => simp
  | cons z s ih =>
    intro y hy
    rw [List.dropWhile_cons] at hy
    have hs' := List.pairwise_cons.1 hs
    split at hy
    · exact ih hs'.2 (fun y h => hq y (by simp [h])) y hy
    · rename_i hz
      have hz : lt x z := by simpa using hz
      rcases List.mem_cons.1 hy with rfl | hy
      · exact hz
      · refine Classical.byContradiction fun hn => ?_
        exact O.trans z y x (hq z (by simp)) (hq y (by simp [hy])) hx (hs'.1 y hy) hn hz
include O in
theorem insS_srt {s : List α} {x : α} (hs : Srt lt s) (hq : ∀ y ∈ s, Q y) (hx : Q x) : Srt lt (insS lt s x) := by
  have e : s = s.takeWhile (fun y => !decide (lt x y)) ++ s.dropWhile (fun y => !decide (lt x y)) := (List.takeWhile_append_dropWhile).symm
  have h := hs
  rw [e, Srt.app] at h
  unfold insS
  rw [Srt.app]
  refine ⟨h.1, List.pairwise_cons.2 ⟨fun y hy => ?_, h.2.1⟩, fun a ha b hb => ?_⟩
  · have h1 := dw_all O hs hq hx y hy
    exact fun h2 => O.asym x y hx (hq y (List.dropWhile_sublist _ |>.subset hy)) h1 h2
  · rcases List.mem_cons.1 hb with rfl | hb
    · exact tw_all s b a ha
    · exact h.2.2 a ha b hb
include O in
theorem fold_srt : ∀ (l s : List α), Srt lt s → (∀ y ∈ s, Q y) → (∀ y ∈ l, Q y) → Srt lt (l.foldl (insS lt) s)
  | [], s, h, _, _ => h
  | x :: l, s, h, hs, hl => by
    rw [List.foldl_cons]
    refine fold_srt l _ (insS_srt O h hs (hl x (by simp))) (fun y hy => ?_) (fun y hy => hl y (by simp [hy]))
    have := (insS_perm (lt := lt) s x).mem_iff.1 hy
    rcases List.mem_append.1 this with h1 | h1
    · exact hs y h1
    · simp only [List.mem_singleton] at h1; subst h1; exact hl y (by simp)
include O in
theorem isort_srt {l : List α} (hl : ∀ y ∈ l, Q y) : Srt lt (isort lt l) := fold_srt O l [] Srt.nil (by simp) hl
end
section
variable {α : Type} {pd : α → Prop} {B : List α} {k : Nat} {d : α}
theorem take_pd (h : ∀ t, t < k → pd (B.getD t d)) (hk : k ≤ B.length) : ∀ z ∈ B.take k, pd z := fun z hz => by
  obtain ⟨t, ht, rfl⟩ := List.mem_iff_getElem.1 hz
  simp only [List.length_take] at ht
  have := h t (by omega)
  rw [List.getD_eq_getElem?_getD, List.getElem?_eq_getElem (by omega)] at this
  simpa using this
theorem drop_pd (h : ∀ t, k ≤ t → t < B.length → pd (B.getD t d)) : ∀ z ∈ B.drop k, pd z := fun z hz => by
  obtain ⟨t, ht, rfl⟩ := List.mem_iff_getElem.1 hz
  simp only [List.length_drop] at ht
  have := h (k + t) (by omega) (by omega)
  rw [List.getD_eq_getElem?_getD, List.getElem?_eq_getElem (by omega)] at this
  simpa using this
theorem getD_lt {t : Nat} (h : t < B.length) : B.getD t d = B[t] := by
  rw [List.getD_eq_getElem?_getD, List.getElem?_eq_getElem h]; rfl
/-- An element of the second list, by its place. -/
theorem geti_snd {P A R : List α} {i : Int} {t : Nat} (ht : t < A.length) (hi : i = (P.length : Int) + t) : geti (P ++ (A ++ R)) i = some (A.getD t d) := by
  rw [getD_lt ht]
  have e : P ++ (A ++ R) = (P ++ A.take t) ++ A[t] :: (A.drop (t + 1) ++ R) := by
    have e0 : A = A.take t ++ A[t] :: A.drop (t + 1) := by rw [← List.drop_eq_getElem_cons ht, List.take_append_drop]
    conv => lhs; rw [e0]
    simp only [List.append_assoc, List.cons_append]
  exact geti_at e (by simp; omega)
theorem geti_trd {P A B R : List α} {i : Int} {t : Nat} (ht : t < B.length) (hi : i = (P.length : Int) + A.length + t) : geti (P ++ (A ++ (B ++ R))) i = some (B.getD t d) := by
  have := geti_snd (P := P ++ A) (A := B) (R := R) (d := d) (i := i) ht (by simp; omega)
  rwa [List.append_assoc] at this
end
abbrev ltc {α : Type} (c : α → α → Int) : α → α → Prop := fun x y => c x y < 0
instance {α : Type} (c : α → α → Int) : DecidableRel (ltc c) := fun x y => inferInstanceAs (Decidable (c x y < 0))
theorem insS_snoc {α : Type} {lt : α → α → Prop} [DecidableRel lt] {s : List α} {x y : α} (h : lt x y) : insS lt (s ++ [y]) x = insS lt s x ++ [y] := by
  unfold insS
  rw [List.takeWhile_append, List.dropWhile_append]
  by_cases ha : (s.takeWhile fun y => !decide (lt x y)).length = s.length
  · have hd : s.dropWhile (fun y => !decide (lt x y)) = [] := by
      have e := congrArg List.length (List.takeWhile_append_dropWhile (p := fun y => !decide (lt x y)) (l := s))
      rw [List.length_append] at e
      exact List.eq_nil_of_length_eq_zero (by omega)
    have ht : s.takeWhile (fun y => !decide (lt x y)) = s := by
      have e := List.takeWhile_append_dropWhile (p := fun y => !decide (lt x y)) (l := s)
      rwa [hd, List.append_nil] at e
    rw [if_pos ha, hd, ht]
    simp [h]
  · have hd : (s.dropWhile fun y => !decide (lt x y)).isEmpty = false := by
      cases hq : s.dropWhile (fun y => !decide (lt x y)) with
      | nil =>
        exfalso; apply ha
        have e := List.takeWhile_append_dropWhile (p := fun y => !decide (lt x y)) (l := s)
        rw [hq, List.append_nil] at e
        rw [e]
      | cons a b => rfl
    rw [if_neg ha, hd]
    simp
theorem tw_self {α : Type} {p : α → Bool} : ∀ {s : List α}, (∀ z ∈ s, p z = true) → s.takeWhile p = s
  | [], _ => rfl
  | x :: s, h => by rw [List.takeWhile_cons, if_pos (h x (by simp)), tw_self fun z hz => h z (by simp [hz])]
theorem dw_nil {α : Type} {p : α → Bool} : ∀ {s : List α}, (∀ z ∈ s, p z = true) → s.dropWhile p = []
  | [], _ => rfl
  | x :: s, h => by rw [List.dropWhile_cons, if_pos (h x (by simp)), dw_nil fun z hz => h z (by simp [hz])]
theorem insS_end {α : Type} {lt : α → α → Prop} [DecidableRel lt] {s : List α} {x : α} (h : ∀ z ∈ s, ¬ lt x z) : insS lt s x = s ++ [x] := by
  unfold insS
  have ht : s.takeWhile (fun y => !decide (lt x y)) = s := by
    exact tw_self fun z hz => by simp [h z hz]
  have hd : s.dropWhile (fun y => !decide (lt x y)) = [] := by
    exact dw_nil fun z hz => by simp [h z hz]
  rw [ht, hd]
end Go.Proofs.Ytcpageegmpjkiaa.K

namespace Go.Proofs.Ytcpageegmpjkiaa.K
open Go.RowKit Go.Lib
namespace m_tally_order_sort
theorem swr_l {P M post : List GChange} : ∀ (X2 Y2 X1 Y1 : List GChange) (fu : Nat) (n b : Int), X2.length = Y2.length → X1.length = Y1.length → X2.length < fu → n = (X1.length : Int) + X2.length → b = (P.length : Int) + n + M.length → b + n ≤ 1000000000 →
    m_slices_swapRangeCmpFunc_tally_Change__tally_order_l0 (P.length : Int) b n fu (P ++ (Y1 ++ (X2 ++ (M ++ (X1 ++ (Y2 ++ post)))))) (X1.length : Int) = some (P ++ (Y1 ++ (Y2 ++ (M ++ (X1 ++ (X2 ++ post))))))
  | _, _, _, _, 0, _, _, _, _, h, _, _, _ => by omega
  | [], Y2, X1, Y1, fu + 1, n, b, h1, h2, h3, hn, hb, hB => by
    obtain rfl : Y2 = [] := List.eq_nil_of_length_eq_zero (by simpa using h1.symm)
    unfold m_slices_swapRangeCmpFunc_tally_Change__tally_order_l0
    simp only [List.length_nil] at hn
    rw [d_nlt (by omega), cond_false]
  | x :: X2, [], X1, Y1, fu + 1, n, b, h1, h2, h3, hn, hb, hB => by simp at h1
  | x :: X2, y :: Y2, X1, Y1, fu + 1, n, b, h1, h2, h3, hn, hb, hB => by
    simp only [List.length_cons] at h1 h3 hn
    have e : P ++ (Y1 ++ (x :: X2 ++ (M ++ (X1 ++ (y :: Y2 ++ post))))) = (P ++ Y1) ++ x :: ((X2 ++ (M ++ X1)) ++ y :: (Y2 ++ post)) := by simp
    obtain ⟨k1, k2, k3, k4⟩ := swp (i := (P.length : Int) + (X1.length : Int)) (j := b + (X1.length : Int)) e (by simp; omega) (by simp; omega)
    unfold m_slices_swapRangeCmpFunc_tally_Change__tally_order_l0
    rw [d_lt (by omega), cond_true, w64 (n := b + (X1.length : Int)) (by omega) (by omega), w64 (n := (P.length : Int) + (X1.length : Int)) (by omega) (by omega), k2, obind_some, k1, obind_some, obind_some, k3, obind_some, k4, inc_ok (by omega)]
    have ih := swr_l (P := P) (M := M) (post := post) X2 Y2 (X1 ++ [x]) (Y1 ++ [y]) fu n b (by omega) (by simp; omega) (by omega) (by simp; omega) hb hB
    have e2 : (P ++ Y1) ++ y :: ((X2 ++ (M ++ X1)) ++ x :: (Y2 ++ post)) = P ++ (Y1 ++ [y] ++ (X2 ++ (M ++ (X1 ++ [x] ++ (Y2 ++ post))))) := by simp
    have e3 : (((X1 ++ [x]).length : Nat) : Int) = ((X1.length + 1 : Nat) : Int) := by simp
    rw [e2]
    rw [e3] at ih
    rw [ih]; simp
theorem swr {P X M Y post : List GChange} {b n a : Int} (h : X.length = Y.length) (ha : a = (P.length : Int)) (hn : n = (X.length : Int)) (hb : b = (P.length : Int) + X.length + M.length) (hB : b + n ≤ 1000000000) :
    m_slices_swapRangeCmpFunc_tally_Change__tally_order (P ++ (X ++ (M ++ (Y ++ post)))) a b n = some (P ++ (Y ++ (M ++ (X ++ post)))) := by
  subst ha
  unfold m_slices_swapRangeCmpFunc_tally_Change__tally_order
  have := swr_l (P := P) (M := M) (post := post) X Y [] [] 1152921504606846976 n b h rfl (by omega) (by simpa using hn) (by omega) hB
  simpa using this
theorem rot_l : ∀ (fu : Nat) (P A B post : List GChange) (p : Int), A ≠ [] → B ≠ [] → A.length + B.length < fu → p = (P.length : Int) + A.length → (P.length : Int) + A.length + B.length ≤ 500000000 →
    m_slices_rotateCmpFunc_tally_Change__tally_order_l0 p fu (P ++ (A ++ (B ++ post))) (A.length : Int) (B.length : Int) = some (P ++ (B ++ (A ++ post)))
  | 0, _, _, _, _, _, _, _, h, _, _ => by omega
  | fu + 1, P, A, B, post, p, hA, hB, hf, hp, hb => by
    have hA0 : 0 < A.length := List.length_pos_iff.2 hA
    have hB0 : 0 < B.length := List.length_pos_iff.2 hB
    unfold m_slices_rotateCmpFunc_tally_Change__tally_order_l0
    by_cases h1 : A.length = B.length
    · rw [decide_eq_false (by omega), cond_false, w64 (by omega) (by omega)]
      have := swr (P := P) (X := A) (M := []) (Y := B) (post := post) (a := p - (A.length : Int)) (b := p) (n := (A.length : Int)) h1 (by omega) rfl (by simp; omega) (by omega)
      simp only [List.nil_append] at this
      rw [this, obind_some]
    · rw [decide_eq_true (by omega), cond_true]
      by_cases h2 : B.length < A.length
      · rw [d_lt (by omega), cond_true, w64 (n := p - (A.length : Int)) (by omega) (by omega), w64 (n := (A.length : Int) - (B.length : Int)) (by omega) (by omega)]
        have eA : A = A.take B.length ++ A.drop B.length := (List.take_append_drop _ _).symm
        have l1 : (A.take B.length).length = B.length := by rw [List.length_take]; omega
        have l2 : (A.drop B.length).length = A.length - B.length := List.length_drop
        have := swr (P := P) (X := A.take B.length) (M := A.drop B.length) (Y := B) (post := post) (a := p - (A.length : Int)) (b := p) (n := (B.length : Int)) l1 (by omega) (by omega) (by omega) (by omega)
        have e : P ++ (A ++ (B ++ post)) = P ++ (A.take B.length ++ (A.drop B.length ++ (B ++ post))) := by conv => lhs; rw [eA]; simp only [List.append_assoc]
        rw [e, this, obind_some]
        have ih := rot_l fu (P ++ B) (A.drop B.length) (A.take B.length) post p (List.ne_nil_of_length_pos (by omega)) (List.ne_nil_of_length_pos (by omega)) (by omega) (by simp; omega) (by simp; omega)
        rw [l1, l2] at ih
        have e2 : P ++ (B ++ (A.drop B.length ++ (A.take B.length ++ post))) = P ++ B ++ (A.drop B.length ++ (A.take B.length ++ post)) := by simp
        rw [e2, show (A.length : Int) - (B.length : Int) = ((A.length - B.length : Nat) : Int) by omega, ih]
        conv => rhs; rw [eA]
        simp only [List.append_assoc]
      · rw [d_nlt (by omega), cond_false, w64 (n := p - (A.length : Int)) (by omega) (by omega), w64 (n := p + (B.length : Int)) (by omega) (by omega), w64 (n := p + (B.length : Int) - (A.length : Int)) (by omega) (by omega), w64 (n := (B.length : Int) - (A.length : Int)) (by omega) (by omega)]
        have eB : B = B.take (B.length - A.length) ++ B.drop (B.length - A.length) := (List.take_append_drop _ _).symm
        have l1 : (B.take (B.length - A.length)).length = B.length - A.length := by rw [List.length_take]; omega
        have l2 : (B.drop (B.length - A.length)).length = A.length := by rw [List.length_drop]; omega
        have := swr (P := P) (X := A) (M := B.take (B.length - A.length)) (Y := B.drop (B.length - A.length)) (post := post) (a := p - (A.length : Int)) (b := p + (B.length : Int) - (A.length : Int)) (n := (A.length : Int)) (by omega) (by omega) (by omega) (by omega) (by omega)
        have e : P ++ (A ++ (B ++ post)) = P ++ (A ++ (B.take (B.length - A.length) ++ (B.drop (B.length - A.length) ++ post))) := by conv => lhs; rw [eB]; simp only [List.append_assoc]
        rw [e, this, obind_some]
        have ih := rot_l fu P (B.drop (B.length - A.length)) (B.take (B.length - A.length)) (A ++ post) p (List.ne_nil_of_length_pos (by omega)) (List.ne_nil_of_length_pos (by omega)) (by omega) (by omega) (by omega)
        rw [l1, l2] at ih
        rw [show (B.length : Int) - (A.length : Int) = ((B.length - A.length : Nat) : Int) by omega, ih]
        conv => rhs; rw [eB]
        simp only [List.append_assoc]
theorem rot {P A B post : List GChange} {a p b : Int} (hA : A ≠ []) (hB : B ≠ []) (ha : a = (P.length : Int)) (hp : p = (P.length : Int) + A.length) (hb : b = (P.length : Int) + A.length + B.length) (hx : b ≤ 500000000) :
    m_slices_rotateCmpFunc_tally_Change__tally_order (P ++ (A ++ (B ++ post))) a p b = some (P ++ (B ++ (A ++ post))) := by
  unfold m_slices_rotateCmpFunc_tally_Change__tally_order
  rw [w64 (n := p - a) (by omega) (by omega), w64 (n := b - p) (by omega) (by omega), show p - a = (A.length : Int) by omega, show b - p = (B.length : Int) by omega]
  exact rot_l _ P A B post p hA hB (by omega) hp (by omega)
/-! ### one is moved -/
theorem mv_up {x : GChange} {post : List GChange} : ∀ (Y : List GChange) (fu : Nat) (P : List GChange) (k : Int), Y.length < fu → k = (P.length : Int) + Y.length + 1 → k ≤ 500000000 → m_slices_symMergeCmpFunc_tally_Change__tally_order_l4 k fu (P ++ x :: (Y ++ post)) (P.length : Int) = some (P ++ (Y ++ x :: post))
  | _, 0, _, _, h, _, _ => by omega
  | [], fu + 1, P, k, hf, hk, hb => by
    unfold m_slices_symMergeCmpFunc_tally_Change__tally_order_l4
    simp only [List.length_nil] at hk
    rw [w64 (n := k - 1) (by omega) (by omega), d_nlt (by omega), cond_false]; rfl
  | y :: Y, fu + 1, P, k, hf, hk, hb => by
    simp only [List.length_cons] at hk hf
    obtain ⟨k1, k2, k3, k4⟩ := swp (l := P ++ x :: (y :: Y ++ post)) (p := P) (x := x) (m := []) (y := y) (q := Y ++ post) (i := (P.length : Int)) (j := (P.length : Int) + 1) rfl rfl (by simp)
    unfold m_slices_symMergeCmpFunc_tally_Change__tally_order_l4
    rw [w64 (n := k - 1) (by omega) (by omega), d_lt (by omega), cond_true, w64 (n := (P.length : Int) + 1) (by omega) (by omega), k2, obind_some, k1, obind_some, obind_some, k3, obind_some, k4]
    have ih := mv_up (x := x) (post := post) Y fu (P ++ [y]) k (by omega) (by simp; omega) hb
    rw [show (((P ++ [y]).length : Nat) : Int) = (P.length : Int) + 1 by simp] at ih
    simp only [List.append_assoc, List.cons_append, List.nil_append] at ih ⊢
    exact ih
theorem mv_dn {x : GChange} {P : List GChange} : ∀ (n : Nat) (Y post : List GChange) (fu : Nat) (k : Int), Y.length = n → n < fu → k = (P.length : Int) + n → k ≤ 500000000 → m_slices_symMergeCmpFunc_tally_Change__tally_order_l10 (P.length : Int) fu (P ++ (Y ++ x :: post)) k = some (P ++ x :: (Y ++ post))
  | _, _, _, 0, _, _, h, _, _ => by omega
  | 0, Y, post, fu + 1, k, hn, hf, hk, hb => by
    obtain rfl : Y = [] := List.eq_nil_of_length_eq_zero hn
    unfold m_slices_symMergeCmpFunc_tally_Change__tally_order_l10
    rw [d_nlt (by omega), cond_false]; rfl
  | n + 1, Y, post, fu + 1, k, hn, hf, hk, hb => by
    obtain ⟨Z, y, rfl⟩ : ∃ Z y, Y = Z ++ [y] := ⟨Y.dropLast, Y.getLast (List.ne_nil_of_length_pos (by omega)), (List.dropLast_concat_getLast _).symm⟩
    simp only [List.length_append, List.length_singleton] at hn
    have e : P ++ (Z ++ [y] ++ x :: post) = (P ++ Z) ++ y :: ([] ++ x :: post) := by simp
    obtain ⟨k1, k2, k3, k4⟩ := swp' (i := k - 1) (j := k) e (by simp; omega) (by simp; omega)
    unfold m_slices_symMergeCmpFunc_tally_Change__tally_order_l10
    rw [d_lt (by omega), cond_true, w64 (n := k - 1) (by omega) (by omega), k1, obind_some, k2, obind_some, obind_some, k3, obind_some, k4]
    have ih := mv_dn (x := x) (P := P) n Z (y :: post) fu (k - 1) (by omega) (by omega) (by omega) (by omega)
    simp only [List.append_assoc, List.cons_append, List.nil_append] at ih ⊢
    exact ih
/-! ### insertion -/
section
variable {Q : GChange → Prop} {c : GChange → GChange → Int} (hc : ∀ x y, Q x → Q y → m_tally_order x y = some (c x y)) (O : Ord Q (ltc c))
include hc O
theorem ins_in {x : GChange} {P : List GChange} {k : List GChange → Int → Option (List GChange)} {y8 : Int} (hx : Q x) : ∀ (n : Nat) (S rest : List GChange) (fu : Nat) (j : Int), S.length = n → n < fu → j = (P.length : Int) + n → j ≤ 500000000 → Srt (ltc c) S → (∀ z ∈ S, Q z) →
    m_slices_insertionSortCmpFunc_tally_Change__tally_order_l1 (P.length : Int) y8 k fu (P ++ (S ++ x :: rest)) j = k (P ++ (insS (ltc c) S x ++ rest)) (IntKind.i64.wrap (y8 + 1))
  | _, _, _, 0, _, _, h, _, _, _, _ => by omega
  | 0, S, rest, fu + 1, j, hn, hf, hj, hb, hs, hq => by
    obtain rfl : S = [] := List.eq_nil_of_length_eq_zero hn
    unfold m_slices_insertionSortCmpFunc_tally_Change__tally_order_l1
    rw [d_nlt (by omega), cond_false]; rfl
  | n + 1, S, rest, fu + 1, j, hn, hf, hj, hb, hs, hq => by
    obtain ⟨Z, y, rfl⟩ : ∃ Z y, S = Z ++ [y] := ⟨S.dropLast, S.getLast (List.ne_nil_of_length_pos (by omega)), (List.dropLast_concat_getLast _).symm⟩
    simp only [List.length_append, List.length_singleton] at hn
    have e : P ++ (Z ++ [y] ++ x :: rest) = (P ++ Z) ++ y :: ([] ++ x :: rest) := by simp
    obtain ⟨k1, k2, k3, k4⟩ := swp' (i := j - 1) (j := j) e (by simp; omega) (by simp; omega)
    have hs' := Srt.app.1 hs
    have hy : Q y := hq y (by simp)
    unfold m_slices_insertionSortCmpFunc_tally_Change__tally_order_l1
    rw [d_lt (by omega), cond_true, w64 (n := j - 1) (by omega) (by omega), k2, obind_some, k1, obind_some, hc x y hx hy, obind_some]
    by_cases hl : c x y < 0
    · rw [d_lt hl, cond_true, obind_some, obind_some, obind_some, k3, obind_some, k4, insS_snoc (lt := ltc c) hl]
      have ih := ins_in (P := P) (k := k) (y8 := y8) hx n Z (y :: rest) fu (j - 1) (by omega) (by omega) (by omega) (by omega) hs'.1 (fun z hz => hq z (by simp [hz]))
      simp only [List.append_assoc, List.cons_append, List.nil_append] at ih ⊢
      exact ih
    · rw [d_nlt hl, cond_false, insS_end fun z hz => ?_]
      · simp
      · rcases List.mem_append.1 hz with hz | hz
        · have h1 := hs'.2.2 z hz y (by simp)
          exact O.trans z y x (hq z (by simp [hz])) hy hx h1 hl
        · simp only [List.mem_singleton] at hz; subst hz; exact hl
theorem ins_out {P post : List GChange} {p2 : Int} : ∀ (T S : List GChange) (fu : Nat) (y8 : Int), T.length < fu → y8 = (P.length : Int) + S.length → p2 = (P.length : Int) + S.length + T.length → p2 ≤ 500000000 → Srt (ltc c) S → (∀ z ∈ S, Q z) → (∀ z ∈ T, Q z) →
    m_slices_insertionSortCmpFunc_tally_Change__tally_order_l0 (P.length : Int) p2 fu (P ++ (S ++ (T ++ post))) y8 = some (P ++ (T.foldl (insS (ltc c)) S ++ post))
  | _, _, 0, _, h, _, _, _, _, _, _ => by omega
  | [], S, fu + 1, y8, hf, h8, h2, hb, hs, hq, ht => by
    unfold m_slices_insertionSortCmpFunc_tally_Change__tally_order_l0
    simp only [List.length_nil] at h2
    rw [d_nlt (by omega), cond_false]; rfl
  | x :: T, S, fu + 1, y8, hf, h8, h2, hb, hs, hq, ht => by
    simp only [List.length_cons] at h2 hf
    have hx := ht x (by simp)
    have := ins_in hc O (P := P) (k := fun y0_0 y8_0 => m_slices_insertionSortCmpFunc_tally_Change__tally_order_l0 (P.length : Int) p2 fu y0_0 y8_0) (y8 := y8) hx S.length S (T ++ post) 1152921504606846976 y8 rfl (by omega) h8 (by omega) hs hq
    unfold m_slices_insertionSortCmpFunc_tally_Change__tally_order_l0
    rw [d_lt (by omega), cond_true, List.cons_append, this, w64 (by omega) (by omega), List.foldl_cons]
    have hp := insS_perm (lt := ltc c) S x
    have hl := hp.length_eq
    simp only [List.length_append, List.length_singleton] at hl
    exact ins_out T (insS (ltc c) S x) fu (y8 + 1) (by omega) (by omega) (by omega) hb (insS_srt O hs hq hx) (fun z hz => by
      rcases List.mem_append.1 (hp.mem_iff.1 hz) with h | h
      · exact hq z h
      · simp only [List.mem_singleton] at h; subst h; exact hx) (fun z hz => ht z (by simp [hz]))
theorem ins_ok {P A post : List GChange} {a b : Int} (ha : a = (P.length : Int)) (hb : b = (P.length : Int) + A.length) (hB : b ≤ 500000000) (hq : ∀ z ∈ A, Q z) : m_slices_insertionSortCmpFunc_tally_Change__tally_order (P ++ (A ++ post)) a b = some (P ++ (isort (ltc c) A ++ post)) := by
  subst ha
  unfold m_slices_insertionSortCmpFunc_tally_Change__tally_order
  rw [w64 (by omega) (by omega)]
  cases A with
  | nil =>
    show m_slices_insertionSortCmpFunc_tally_Change__tally_order_l0 _ _ (1152921504606846975 + 1) _ _ = _
    unfold m_slices_insertionSortCmpFunc_tally_Change__tally_order_l0
    simp only [List.length_nil] at hb
    rw [d_nlt (by omega), cond_false]; rfl
  | cons x T =>
    simp only [List.length_cons] at hb
    have := ins_out hc O (P := P) (post := post) (p2 := b) T [x] 1152921504606846976 ((P.length : Int) + 1) (by omega) (by simp) (by simp; omega) hB (Srt.one x) (fun z hz => by simp at hz; subst hz; exact hq z (by simp)) (fun z hz => hq z (by simp [hz]))
    exact this
/-! ### two are merged -/
theorem sym_ok : ∀ (fu : Nat) (P A B post : List GChange) (p1 p2 p3 : Int), A ≠ [] → B ≠ [] → A.length + B.length < fu → p1 = (P.length : Int) → p2 = (P.length : Int) + A.length → p3 = (P.length : Int) + A.length + B.length → p3 ≤ 200000000 →
    (∀ z ∈ A, Q z) → (∀ z ∈ B, Q z) → Srt (ltc c) A → Srt (ltc c) B → ∃ C, C.Perm (A ++ B) ∧ Srt (ltc c) C ∧ m_slices_symMergeCmpFunc_tally_Change__tally_order fu (P ++ (A ++ (B ++ post))) p1 p2 p3 = some (P ++ (C ++ post))
  | 0, _, _, _, _, _, _, _, _, _, h, _, _, _, _, _, _, _, _ => by omega
  | fu + 1, P, A, B, post, p1, p2, p3, hA, hB, hf, h1, h2, h3, hb, qA, qB, sA, sB => by
    have hA0 : 0 < A.length := List.length_pos_iff.2 hA
    have hB0 : 0 < B.length := List.length_pos_iff.2 hB
    unfold m_slices_symMergeCmpFunc_tally_Change__tally_order
    by_cases ca : A.length = 1
    · obtain ⟨x, rfl⟩ := List.length_eq_one_iff.1 ca
      have hx : Q x := qA x (by simp)
      rw [w64 (n := p2 - p1) (by omega) (by omega), decide_eq_true (by simp at h2; omega), cond_true]
      simp only [List.length_singleton] at h2 h3 hf
      have key := half_loop (L := fun fu i j => m_slices_symMergeCmpFunc_tally_Change__tally_order_l0 (P ++ ([x] ++ (B ++ post))) p1 fu i j) (K := fun s => m_slices_symMergeCmpFunc_tally_Change__tally_order_l4 s 1152921504606846976 (P ++ ([x] ++ (B ++ post))) p1) (Pd := fun k => ltc c (B.getD (k - (P.length + 1)) default) x) (lo := P.length + 1) (hi := P.length + 1 + B.length)
        (fun fu i => by
          show m_slices_symMergeCmpFunc_tally_Change__tally_order_l0 _ _ (fu + 1) _ _ = _
          unfold m_slices_symMergeCmpFunc_tally_Change__tally_order_l0
          rw [d_nlt (by omega), cond_false])
        (fun fu i j hi hij hj => by
          show m_slices_symMergeCmpFunc_tally_Change__tally_order_l0 _ _ (fu + 1) _ _ = _
          conv => lhs; unfold m_slices_symMergeCmpFunc_tally_Change__tally_order_l0
          have ht : (i + j) / 2 - (P.length + 1) < B.length := by omega
          have g1 := geti_trd (P := P) (A := [x]) (B := B) (R := post) (d := default) (i := (((i + j) / 2 : Nat) : Int)) ht (by simp; omega)
          have g2 : geti (P ++ ([x] ++ (B ++ post))) p1 = some x := geti_at (p := P) (q := B ++ post) rfl h1
          rw [d_lt (by omega), cond_true, half_ok (by omega), g1, obind_some, g2, obind_some, hc _ _ (by rw [getD_lt ht]; exact qB _ (List.getElem_mem _)) hx, obind_some, inc_ok (by omega), obind_some]
          by_cases hl : c (B.getD ((i + j) / 2 - (P.length + 1)) default) x < 0
          · rw [d_lt hl, cond_true, if_pos hl]
          · rw [d_nlt hl, cond_false, if_neg hl])
        (fun k d h1 h2 h3 hd => by
          have hk : k - (P.length + 1) < B.length := by omega
          have hd' : d - (P.length + 1) < B.length := by omega
          simp only [getD_lt hk, getD_lt hd'] at hd ⊢
          refine Classical.byContradiction fun hn => ?_
          exact O.trans _ _ _ hx (qB _ (List.getElem_mem _)) (qB _ (List.getElem_mem _)) hn (Srt.at' O sB qB (i := k - (P.length + 1)) (j := d - (P.length + 1)) (by omega) hd') hd)
        1152921504606846976 (P.length + 1) (P.length + 1 + B.length) (Nat.le_refl _) (by omega) (Nat.le_refl _) (by omega) (fun c h1 h2 => by omega) (fun c h1 h2 => by omega)
      obtain ⟨s, s1, s2, hL, sa, sb⟩ := key
      have e1 : ((P.length + 1 : Nat) : Int) = p2 := by omega
      have e2 : ((P.length + 1 + B.length : Nat) : Int) = p3 := by omega
      simp only [e1, e2] at hL
      rw [hL]
      obtain ⟨t, rfl⟩ : ∃ t, s = P.length + 1 + t := ⟨s - (P.length + 1), by omega⟩
      have a1 : ∀ z ∈ B.take t, ltc c z x := take_pd (d := default) (pd := fun z => ltc c z x) (fun k hk => by have := sa (P.length + 1 + k) (by omega) (by omega); rwa [show P.length + 1 + k - (P.length + 1) = k by omega] at this) (by omega)
      have a2 : ∀ z ∈ B.drop t, ¬ ltc c z x := drop_pd (d := default) (pd := fun z => ¬ ltc c z x) (fun k hk hk2 => by have := sb (P.length + 1 + k) (by omega) (by omega); rwa [show P.length + 1 + k - (P.length + 1) = k by omega] at this)
      have eB : B = B.take t ++ B.drop t := (List.take_append_drop _ _).symm
      have lt1 : (B.take t).length = t := by rw [List.length_take]; omega
      have hs := sB
      rw [eB, Srt.app] at hs
      refine ⟨B.take t ++ x :: B.drop t, ?_, Srt.app.2 ⟨hs.1, List.pairwise_cons.2 ⟨a2, hs.2.1⟩, fun a ha b hb => ?_⟩, ?_⟩
      · have : (B.take t ++ x :: B.drop t).Perm (x :: (B.take t ++ B.drop t)) := List.perm_middle
        rw [List.take_append_drop] at this; exact this
      · rcases List.mem_cons.1 hb with rfl | hb
        · exact O.asym _ _ (qB a (List.mem_of_mem_take ha)) hx (a1 a ha)
        · exact hs.2.2 a ha b hb
      · have := mv_up (x := x) (post := B.drop t ++ post) (B.take t) 1152921504606846976 P ((P.length + 1 + t : Nat) : Int) (by omega) (by omega) (by omega)
        have e3 : P ++ ([x] ++ (B ++ post)) = P ++ x :: (B.take t ++ (B.drop t ++ post)) := by conv => lhs; rw [eB]; simp only [List.append_assoc, List.cons_append, List.nil_append]
        rw [e3, h1, this]; simp only [List.append_assoc, List.cons_append]
    · rw [w64 (n := p2 - p1) (by omega) (by omega), decide_eq_false (by omega), cond_false]
      by_cases cb : B.length = 1
      · obtain ⟨x, rfl⟩ := List.length_eq_one_iff.1 cb
        have hx : Q x := qB x (by simp)
        rw [w64 (n := p3 - p2) (by omega) (by omega), decide_eq_true (by simp at h3; omega), cond_true]
        simp only [List.length_singleton] at h3 hf
        have key := half_loop (L := fun fu i j => m_slices_symMergeCmpFunc_tally_Change__tally_order_l6 (P ++ (A ++ ([x] ++ post))) p2 fu i j) (K := fun s => m_slices_symMergeCmpFunc_tally_Change__tally_order_l10 s 1152921504606846976 (P ++ (A ++ ([x] ++ post))) p2) (Pd := fun k => ¬ ltc c x (A.getD (k - P.length) default)) (lo := P.length) (hi := P.length + A.length)
          (fun fu i => by
            show m_slices_symMergeCmpFunc_tally_Change__tally_order_l6 _ _ (fu + 1) _ _ = _
            unfold m_slices_symMergeCmpFunc_tally_Change__tally_order_l6
            rw [d_nlt (by omega), cond_false])
          (fun fu i j hi hij hj => by
            show m_slices_symMergeCmpFunc_tally_Change__tally_order_l6 _ _ (fu + 1) _ _ = _
            conv => lhs; unfold m_slices_symMergeCmpFunc_tally_Change__tally_order_l6
            have ht : (i + j) / 2 - P.length < A.length := by omega
            have g1 := geti_snd (P := P) (A := A) (R := [x] ++ post) (d := default) (i := (((i + j) / 2 : Nat) : Int)) ht (by omega)
            have g2 : geti (P ++ (A ++ ([x] ++ post))) p2 = some x := geti_at (p := P ++ A) (q := post) (by simp) (by simp; omega)
            rw [d_lt (by omega), cond_true, half_ok (by omega), g2, obind_some, g1, obind_some, hc _ _ hx (by rw [getD_lt ht]; exact qA _ (List.getElem_mem _)), obind_some, inc_ok (by omega), obind_some]
            by_cases hl : c x (A.getD ((i + j) / 2 - P.length) default) < 0
            · rw [d_lt hl, Bool.not_true, cond_false, if_neg (fun h => h hl)]
            · rw [d_nlt hl, Bool.not_false, cond_true, if_pos hl])
          (fun k d h1 h2 h3 hd => by
            have hk : k - P.length < A.length := by omega
            have hd' : d - P.length < A.length := by omega
            simp only [getD_lt hk, getD_lt hd'] at hd ⊢
            exact O.trans _ _ _ (qA _ (List.getElem_mem _)) (qA _ (List.getElem_mem _)) hx (Srt.at' O sA qA (i := k - P.length) (j := d - P.length) (by omega) hd') hd)
          1152921504606846976 P.length (P.length + A.length) (Nat.le_refl _) (by omega) (Nat.le_refl _) (by omega) (fun c h1 h2 => by omega) (fun c h1 h2 => by omega)
        obtain ⟨s, s1, s2, hL, sa, sb⟩ := key
        have e2 : ((P.length + A.length : Nat) : Int) = p2 := by omega
        simp only [e2, ← h1] at hL
        rw [hL]
        obtain ⟨t, rfl⟩ : ∃ t, s = P.length + t := ⟨s - P.length, by omega⟩
        have a1 : ∀ z ∈ A.take t, ¬ ltc c x z := take_pd (d := default) (pd := fun z => ¬ ltc c x z) (fun k hk => by have := sa (P.length + k) (by omega) (by omega); rwa [show P.length + k - P.length = k by omega] at this) (by omega)
        have a2 : ∀ z ∈ A.drop t, ltc c x z := drop_pd (d := default) (pd := fun z => ltc c x z) (fun k hk hk2 => by have := sb (P.length + k) (by omega) (by omega); rw [show P.length + k - P.length = k by omega] at this; exact Classical.not_not.1 this)
        have eA : A = A.take t ++ A.drop t := (List.take_append_drop _ _).symm
        have lt1 : (A.take t).length = t := by rw [List.length_take]; omega
        have ld1 : (A.drop t).length = A.length - t := List.length_drop
        have hs := sA
        rw [eA, Srt.app] at hs
        refine ⟨A.take t ++ x :: A.drop t, ?_, Srt.app.2 ⟨hs.1, List.pairwise_cons.2 ⟨fun b hb => ?_, hs.2.1⟩, fun a ha b hb => ?_⟩, ?_⟩
        · have : (A.take t ++ x :: A.drop t).Perm (x :: (A.take t ++ A.drop t)) := List.perm_middle
          rw [List.take_append_drop] at this
          exact this.trans (List.perm_append_singleton _ _).symm
        · exact O.asym _ _ hx (qA b (List.mem_of_mem_drop hb)) (a2 b hb)
        · rcases List.mem_cons.1 hb with rfl | hb
          · exact a1 a ha
          · exact hs.2.2 a ha b hb
        · have := mv_dn (x := x) (P := P ++ A.take t) (A.length - t) (A.drop t) post 1152921504606846976 p2 ld1 (by omega) (by simp; omega) (by omega)
          have e3 : P ++ (A ++ ([x] ++ post)) = P ++ A.take t ++ (A.drop t ++ x :: post) := by
            rw [List.append_assoc]
            conv => lhs; rw [eA]; simp only [List.append_assoc, List.cons_append, List.nil_append]
          have e4 : (((P ++ A.take t).length : Nat) : Int) = ((P.length + t : Nat) : Int) := by simp; omega
          rw [e4] at this
          rw [e3, this]; simp only [List.append_assoc, List.cons_append]
      · rw [w64 (n := p3 - p2) (by omega) (by omega), decide_eq_false (by omega), cond_false]
        -- the general case
        have hm : p1 + p3 = ((2 * P.length + A.length + B.length : Nat) : Int) := by omega
        generalize hmid : (2 * P.length + A.length + B.length) / 2 = mid
        have emid : IntKind.i64.wrap (Int.fdiv (IntKind.u64.wrap (IntKind.i64.wrap (p1 + p3))) (2 ^ 1)) = (mid : Int) := by
          have := half_ok (i := P.length) (j := P.length + A.length + B.length) (by omega)
          rw [show (P.length : Int) + ((P.length + A.length + B.length : Nat) : Int) = p1 + p3 by omega] at this
          rw [this]; congr 1; omega
        simp only [emid]
        rw [w64 (n := (mid : Int) + p2) (by omega) (by omega), obind_some]
        -- the search from lo to hi
        have search : ∀ lo hi : Nat, P.length ≤ lo → lo ≤ hi → hi ≤ P.length + A.length → hi ≤ mid → mid ≤ lo + B.length → (lo = P.length ∨ lo + B.length = mid) → (hi = mid ∨ hi = P.length + A.length) →
            ∃ C, C.Perm (A ++ B) ∧ Srt (ltc c) C ∧ m_slices_symMergeCmpFunc_tally_Change__tally_order_j14 (P ++ (A ++ (B ++ post))) p1 p2 p3 ((mid : Int) + p2) (fun p0 p1 p2 p3 => m_slices_symMergeCmpFunc_tally_Change__tally_order fu p0 p1 p2 p3) (lo : Int) (hi : Int) = some (P ++ (C ++ post)) := by
          intro lo hi l1 l2 l3 l4 l5 l6 l7
          unfold m_slices_symMergeCmpFunc_tally_Change__tally_order_j14
          have key := half_loop (L := fun fu' i j => m_slices_symMergeCmpFunc_tally_Change__tally_order_l15 (P ++ (A ++ (B ++ post))) p1 p2 p3 ((mid : Int) + p2) (fun p0 p1 p2 p3 => m_slices_symMergeCmpFunc_tally_Change__tally_order fu p0 p1 p2 p3) fu' i j)
            (K := fun s => cond (decide (s < p2)) (cond (decide (p2 < (IntKind.i64.wrap ((mid : Int) + p2 - s)))) (Option.bind (m_slices_rotateCmpFunc_tally_Change__tally_order (P ++ (A ++ (B ++ post))) s p2 (IntKind.i64.wrap ((mid : Int) + p2 - s))) fun r => m_slices_symMergeCmpFunc_tally_Change__tally_order_j21 p1 p3 ((mid : Int) + p2) s (fun p0 p1 p2 p3 => m_slices_symMergeCmpFunc_tally_Change__tally_order fu p0 p1 p2 p3) r)
              (m_slices_symMergeCmpFunc_tally_Change__tally_order_j21 p1 p3 ((mid : Int) + p2) s (fun p0 p1 p2 p3 => m_slices_symMergeCmpFunc_tally_Change__tally_order fu p0 p1 p2 p3) (P ++ (A ++ (B ++ post))))) (m_slices_symMergeCmpFunc_tally_Change__tally_order_j21 p1 p3 ((mid : Int) + p2) s (fun p0 p1 p2 p3 => m_slices_symMergeCmpFunc_tally_Change__tally_order fu p0 p1 p2 p3) (P ++ (A ++ (B ++ post)))))
            (Pd := fun k => ¬ ltc c (B.getD (mid - 1 - k) default) (A.getD (k - P.length) default)) (lo := lo) (hi := hi)
            (fun fu i => by
              show m_slices_symMergeCmpFunc_tally_Change__tally_order_l15 _ _ _ _ _ _ (fu + 1) _ _ = _
              unfold m_slices_symMergeCmpFunc_tally_Change__tally_order_l15
              rw [d_nlt (by omega), cond_false])
            (fun fu i j hi' hij hj => by
              show m_slices_symMergeCmpFunc_tally_Change__tally_order_l15 _ _ _ _ _ _ (fu + 1) _ _ = _
              conv => lhs; unfold m_slices_symMergeCmpFunc_tally_Change__tally_order_l15
              have ht : (i + j) / 2 - P.length < A.length := by omega
              have ht2 : mid - 1 - (i + j) / 2 < B.length := by omega
              have g1 := geti_snd (P := P) (A := A) (R := B ++ post) (d := default) (i := (((i + j) / 2 : Nat) : Int)) ht (by omega)
              have g2 := geti_trd (P := P) (A := A) (B := B) (R := post) (d := default) (i := (mid : Int) + p2 - 1 - (((i + j) / 2 : Nat) : Int)) ht2 (by omega)
              rw [d_lt (by omega), cond_true, half_ok (by omega), w64 (n := (mid : Int) + p2 - 1) (by omega) (by omega), w64 (n := (mid : Int) + p2 - 1 - (((i + j) / 2 : Nat) : Int)) (by omega) (by omega), obind_some, g2, obind_some, g1, obind_some,
                hc _ _ (by rw [getD_lt ht2]; exact qB _ (List.getElem_mem _)) (by rw [getD_lt ht]; exact qA _ (List.getElem_mem _)), obind_some, inc_ok (by omega), obind_some]
              by_cases hl : c (B.getD (mid - 1 - (i + j) / 2) default) (A.getD ((i + j) / 2 - P.length) default) < 0
              · rw [d_lt hl, Bool.not_true, cond_false, if_neg (fun h => h hl)]
              · rw [d_nlt hl, Bool.not_false, cond_true, if_pos hl])
            (fun k d h1 h2 h3 hd => by
              have k1 : k - P.length < A.length := by omega
              have d1 : d - P.length < A.length := by omega
              have k2 : mid - 1 - k < B.length := by omega
              have d2 : mid - 1 - d < B.length := by omega
              simp only [getD_lt k1, getD_lt d1, getD_lt k2, getD_lt d2] at hd ⊢
              refine O.trans _ _ _ (qA _ (List.getElem_mem _)) (qA _ (List.getElem_mem _)) (qB _ (List.getElem_mem _)) (Srt.at' O sA qA (i := k - P.length) (j := d - P.length) (by omega) d1) ?_
              exact O.trans _ _ _ (qA _ (List.getElem_mem _)) (qB _ (List.getElem_mem _)) (qB _ (List.getElem_mem _)) hd (Srt.at' O sB qB (i := mid - 1 - d) (j := mid - 1 - k) (by omega) k2))
            1152921504606846976 lo hi (Nat.le_refl _) l2 (Nat.le_refl _) (by omega) (fun c h1 h2 => by omega) (fun c h1 h2 => by omega)
          obtain ⟨s, s1, s2, hL, sa, sb⟩ := key
          rw [hL]
          clear hL
          have ea : A = A.take (s - P.length) ++ A.drop (s - P.length) := (List.take_append_drop _ _).symm
          have eb : B = B.take (mid - s) ++ B.drop (mid - s) := (List.take_append_drop _ _).symm
          have la1 : (A.take (s - P.length)).length = s - P.length := by rw [List.length_take]; omega
          have la2 : (A.drop (s - P.length)).length = A.length - (s - P.length) := List.length_drop
          have lb1 : (B.take (mid - s)).length = mid - s := by rw [List.length_take]; omega
          have lb2 : (B.drop (mid - s)).length = B.length - (mid - s) := List.length_drop
          have hsA := sA
          rw [ea, Srt.app] at hsA
          have hsB := sB
          rw [eb, Srt.app] at hsB
          have qA1 : ∀ z ∈ A.take (s - P.length), Q z := fun z hz => qA z (List.mem_of_mem_take hz)
          have qA2 : ∀ z ∈ A.drop (s - P.length), Q z := fun z hz => qA z (List.mem_of_mem_drop hz)
          have qB1 : ∀ z ∈ B.take (mid - s), Q z := fun z hz => qB z (List.mem_of_mem_take hz)
          have qB2 : ∀ z ∈ B.drop (mid - s), Q z := fun z hz => qB z (List.mem_of_mem_drop hz)
          -- the last of the first part is not beyond the second one's rest
          have x1 : ∀ a ∈ A.take (s - P.length), ∀ b ∈ B.drop (mid - s), ¬ ltc c b a := by
            intro a ha b hb
            obtain ⟨i, hi1, rfl⟩ := List.mem_iff_getElem.1 ha
            obtain ⟨j, hj1, rfl⟩ := List.mem_iff_getElem.1 hb
            rw [la1] at hi1; rw [lb2] at hj1
            rw [List.getElem_take, List.getElem_drop]
            have hs1 : lo < s := by
              rcases l6 with h | h
              · omega
              · omega
            have := sa (s - 1) (by omega) (by omega)
            have t1 : s - 1 - P.length < A.length := by omega
            have t2 : mid - 1 - (s - 1) < B.length := by omega
            simp only [getD_lt t1, getD_lt t2] at this
            refine O.trans _ _ _ (qA _ (List.getElem_mem _)) (qA _ (List.getElem_mem _)) (qB _ (List.getElem_mem _)) (Srt.at' O sA qA (i := i) (j := s - 1 - P.length) (by omega) t1) ?_
            exact O.trans _ _ _ (qA _ (List.getElem_mem _)) (qB _ (List.getElem_mem _)) (qB _ (List.getElem_mem _)) this (Srt.at' O sB qB (i := mid - 1 - (s - 1)) (j := mid - s + j) (by omega) (by omega))
          have x2 : ∀ b ∈ B.take (mid - s), ∀ a ∈ A.drop (s - P.length), ¬ ltc c a b := by
            intro b hb a ha
            obtain ⟨i, hi1, rfl⟩ := List.mem_iff_getElem.1 ha
            obtain ⟨j, hj1, rfl⟩ := List.mem_iff_getElem.1 hb
            rw [la2] at hi1; rw [lb1] at hj1
            rw [List.getElem_take, List.getElem_drop]
            have hs1 : s < hi := by
              rcases l7 with h | h
              · omega
              · omega
            have := sb s (by omega) (by omega)
            have t1 : s - P.length < A.length := by omega
            have t2 : mid - 1 - s < B.length := by omega
            simp only [getD_lt t1, getD_lt t2, Classical.not_not] at this
            have this := O.asym _ _ (qB _ (List.getElem_mem _)) (qA _ (List.getElem_mem _)) this
            refine O.trans _ _ _ (qB _ (List.getElem_mem _)) (qB _ (List.getElem_mem _)) (qA _ (List.getElem_mem _)) (Srt.at' O sB qB (i := j) (j := mid - 1 - s) (by omega) t2) ?_
            exact O.trans _ _ _ (qB _ (List.getElem_mem _)) (qA _ (List.getElem_mem _)) (qA _ (List.getElem_mem _)) this (Srt.at' O sA qA (i := s - P.length) (j := s - P.length + i) (by omega) (by omega))
          -- behind the rotation
          have rest : ∃ C, C.Perm (A ++ B) ∧ Srt (ltc c) C ∧ m_slices_symMergeCmpFunc_tally_Change__tally_order_j21 p1 p3 ((mid : Int) + p2) (s : Int) (fun p0 p1 p2 p3 => m_slices_symMergeCmpFunc_tally_Change__tally_order fu p0 p1 p2 p3) (P ++ (A.take (s - P.length) ++ (B.take (mid - s) ++ (A.drop (s - P.length) ++ (B.drop (mid - s) ++ post))))) = some (P ++ (C ++ post)) := by
            have step1 : ∃ C1, C1.Perm (A.take (s - P.length) ++ B.take (mid - s)) ∧ Srt (ltc c) C1 ∧ ∀ R, m_slices_symMergeCmpFunc_tally_Change__tally_order_j21 p1 p3 ((mid : Int) + p2) (s : Int) (fun p0 p1 p2 p3 => m_slices_symMergeCmpFunc_tally_Change__tally_order fu p0 p1 p2 p3) (P ++ (A.take (s - P.length) ++ (B.take (mid - s) ++ (A.drop (s - P.length) ++ (B.drop (mid - s) ++ post))))) = R ↔
                m_slices_symMergeCmpFunc_tally_Change__tally_order_j24 p1 p3 ((mid : Int) + p2) (s : Int) (fun p0 p1 p2 p3 => m_slices_symMergeCmpFunc_tally_Change__tally_order fu p0 p1 p2 p3) (P ++ (C1 ++ (A.drop (s - P.length) ++ (B.drop (mid - s) ++ post)))) = R := by
              unfold m_slices_symMergeCmpFunc_tally_Change__tally_order_j21
              simp only [emid]
              by_cases z1 : P.length < s
              · rw [d_lt (by omega), cond_true]
                by_cases z2 : s < mid
                · rw [d_lt (by omega), cond_true]
                  obtain ⟨C1, c1, c2, c3⟩ := sym_ok fu P (A.take (s - P.length)) (B.take (mid - s)) (A.drop (s - P.length) ++ (B.drop (mid - s) ++ post)) p1 (s : Int) (mid : Int) (List.ne_nil_of_length_pos (by omega)) (List.ne_nil_of_length_pos (by omega)) (by omega) h1 (by omega) (by omega) (by omega) qA1 qB1 hsA.1 hsB.1
                  exact ⟨C1, c1, c2, fun R => by rw [c3, obind_some]⟩
                · rw [d_nlt (by omega), cond_false]
                  have : B.take (mid - s) = [] := List.eq_nil_of_length_eq_zero (by omega)
                  exact ⟨A.take (s - P.length), by rw [this, List.append_nil], hsA.1, fun R => by rw [this, List.nil_append]⟩
              · rw [d_nlt (by omega), cond_false]
                have : A.take (s - P.length) = [] := List.eq_nil_of_length_eq_zero (by omega)
                exact ⟨B.take (mid - s), by rw [this, List.nil_append], hsB.1, fun R => by rw [this, List.nil_append]⟩
            obtain ⟨C1, c1, c2, c3⟩ := step1
            have lc1 : C1.length = mid - P.length := by have := c1.length_eq; rw [List.length_append, la1, lb1] at this; omega
            have step2 : ∃ C2, C2.Perm (A.drop (s - P.length) ++ B.drop (mid - s)) ∧ Srt (ltc c) C2 ∧ m_slices_symMergeCmpFunc_tally_Change__tally_order_j24 p1 p3 ((mid : Int) + p2) (s : Int) (fun p0 p1 p2 p3 => m_slices_symMergeCmpFunc_tally_Change__tally_order fu p0 p1 p2 p3) (P ++ (C1 ++ (A.drop (s - P.length) ++ (B.drop (mid - s) ++ post)))) = some (P ++ (C1 ++ (C2 ++ post))) := by
              unfold m_slices_symMergeCmpFunc_tally_Change__tally_order_j24
              simp only [emid]
              rw [w64 (n := (mid : Int) + p2 - (s : Int)) (by omega) (by omega), obind_some]
              by_cases z1 : s < P.length + A.length
              · rw [d_lt (by omega), cond_true]
                by_cases z2 : mid - s < B.length
                · rw [d_lt (by omega), cond_true]
                  obtain ⟨C2, d1, d2, d3⟩ := sym_ok fu (P ++ C1) (A.drop (s - P.length)) (B.drop (mid - s)) post (mid : Int) ((mid : Int) + p2 - (s : Int)) p3 (List.ne_nil_of_length_pos (by omega)) (List.ne_nil_of_length_pos (by omega)) (by omega) (by simp; omega) (by simp; omega) (by simp; omega) (by omega) qA2 qB2 hsA.2.1 hsB.2.1
                  rw [List.append_assoc] at d3
                  exact ⟨C2, d1, d2, by rw [d3, obind_some]; simp only [List.append_assoc]⟩
                · rw [d_nlt (by omega), cond_false]
                  have : B.drop (mid - s) = [] := List.eq_nil_of_length_eq_zero (by omega)
                  exact ⟨A.drop (s - P.length), by rw [this, List.append_nil], hsA.2.1, by rw [this, List.nil_append]⟩
              · rw [d_nlt (by omega), cond_false]
                have : A.drop (s - P.length) = [] := List.eq_nil_of_length_eq_zero (by omega)
                exact ⟨B.drop (mid - s), by rw [this, List.nil_append], hsB.2.1, by rw [this, List.nil_append]⟩
            obtain ⟨C2, d1, d2, d3⟩ := step2
            refine ⟨C1 ++ C2, ?_, Srt.app.2 ⟨c2, d2, fun a ha b hb => ?_⟩, (c3 _).2 (by rw [d3]; simp only [List.append_assoc])⟩
            · refine (c1.append d1).trans ?_
              have e : A ++ B = A.take (s - P.length) ++ (A.drop (s - P.length) ++ (B.take (mid - s) ++ B.drop (mid - s))) := by
                rw [List.take_append_drop, ← List.append_assoc, List.take_append_drop]
              rw [e, List.append_assoc]
              refine List.Perm.append_left _ ?_
              rw [← List.append_assoc, ← List.append_assoc]
              exact List.Perm.append_right _ List.perm_append_comm
            · have h1 := List.mem_append.1 (c1.mem_iff.1 ha)
              have h2 := List.mem_append.1 (d1.mem_iff.1 hb)
              rcases h1 with h1 | h1 <;> rcases h2 with h2 | h2
              · exact hsA.2.2 a h1 b h2
              · exact x1 a h1 b h2
              · exact x2 a h1 b h2
              · exact hsB.2.2 a h1 b h2
          by_cases y1 : s < P.length + A.length
          · rw [d_lt (by omega), cond_true, w64 (n := (mid : Int) + p2 - (s : Int)) (by omega) (by omega)]
            by_cases y2 : s < mid
            · rw [d_lt (by omega), cond_true]
              have e : P ++ (A ++ (B ++ post)) = (P ++ A.take (s - P.length)) ++ (A.drop (s - P.length) ++ (B.take (mid - s) ++ (B.drop (mid - s) ++ post))) := by
                conv => lhs; rw [ea, eb]
                simp only [List.append_assoc]
              rw [e, rot (List.ne_nil_of_length_pos (by omega)) (List.ne_nil_of_length_pos (by omega)) (by simp; omega) (by simp; omega) (by simp; omega) (by omega), obind_some]
              simpa only [List.append_assoc] using rest
            · rw [d_nlt (by omega), cond_false]
              have hb1 : B.take (mid - s) = [] := List.eq_nil_of_length_eq_zero (by omega)
              have e : P ++ (A ++ (B ++ post)) = P ++ (A.take (s - P.length) ++ (B.take (mid - s) ++ (A.drop (s - P.length) ++ (B.drop (mid - s) ++ post)))) := by
                conv => lhs; rw [ea, eb, hb1]
                rw [hb1]; simp only [List.append_assoc, List.nil_append]
              rw [e]; exact rest
          · rw [d_nlt (by omega), cond_false]
            have ha2 : A.drop (s - P.length) = [] := List.eq_nil_of_length_eq_zero (by omega)
            have e : P ++ (A ++ (B ++ post)) = P ++ (A.take (s - P.length) ++ (B.take (mid - s) ++ (A.drop (s - P.length) ++ (B.drop (mid - s) ++ post)))) := by
              conv => lhs; rw [ea, eb, ha2]
              rw [ha2]; simp only [List.append_assoc, List.nil_append, List.append_nil]
            rw [e]; exact rest
        by_cases hcase : mid < P.length + A.length
        · rw [d_lt (by omega), cond_true, w64 (n := (mid : Int) + p2 - p3) (by omega) (by omega)]
          have := search (mid - B.length) mid (by omega) (by omega) (by omega) (Nat.le_refl _) (by omega) (.inr (by omega)) (.inl rfl)
          rwa [show ((mid - B.length : Nat) : Int) = (mid : Int) + p2 - p3 by omega] at this
        · rw [d_nlt (by omega), cond_false]
          have := search P.length (P.length + A.length) (Nat.le_refl _) (by omega) (Nat.le_refl _) (by omega) (by omega) (.inl rfl) (.inr rfl)
          rwa [show ((P.length + A.length : Nat) : Int) = p2 by omega, ← h1] at this
/-! ### block by block -/
theorem stb_0 {p1 : Int} : ∀ (fu : Nat) (D R : List GChange) (y7 y8 : Int), R.length < fu → y7 = (D.length : Int) → y8 = (D.length : Int) + 20 → p1 = (D.length : Int) + R.length → p1 ≤ 200000000 → (∀ z ∈ R, Q z) →
    ∃ R', R'.Perm R ∧ Chunks (ltc c) 20 R' ∧ m_slices_stableCmpFunc_tally_Change__tally_order_l0 p1 fu (D ++ R) y7 y8 = m_slices_stableCmpFunc_tally_Change__tally_order_l3 p1 1152921504606846976 (D ++ R') 20
  | 0, _, _, _, _, h, _, _, _, _, _ => by omega
  | fu + 1, D, R, y7, y8, hf, h7, h8, h1, hb, hq => by
    unfold m_slices_stableCmpFunc_tally_Change__tally_order_l0
    by_cases h : y8 ≤ p1
    · rw [decide_eq_true h, cond_true]
      have eR : R = R.take 20 ++ R.drop 20 := (List.take_append_drop _ _).symm
      have l1 : (R.take 20).length = 20 := by rw [List.length_take]; omega
      have l2 : (R.drop 20).length = R.length - 20 := List.length_drop
      have := ins_ok hc O (P := D) (A := R.take 20) (post := R.drop 20) (a := y7) (b := y8) h7 (by omega) (by omega) (fun z hz => hq z (List.mem_of_mem_take hz))
      have hp := isort_perm (lt := ltc c) (R.take 20)
      have hpl := hp.length_eq
      obtain ⟨R', r1, r2, r3⟩ := stb_0 (p1 := p1) fu (D ++ isort (ltc c) (R.take 20)) (R.drop 20) y8 (y8 + 20) (by omega) (by simp; omega) (by simp; omega) (by simp; omega) hb (fun z hz => hq z (List.mem_of_mem_drop hz))
      refine ⟨isort (ltc c) (R.take 20) ++ R', ?_, .cons _ _ (by omega) (isort_srt O fun z hz => hq z (List.mem_of_mem_take hz)) r2, ?_⟩
      · conv => rhs; rw [eR]
        exact hp.append r1
      · rw [List.append_assoc] at r3
        rw [← eR] at this
        rw [this, obind_some, w64 (by omega) (by omega), r3, List.append_assoc]
    · rw [decide_eq_false h, cond_false]
      have := ins_ok hc O (P := D) (A := R) (post := []) (a := y7) (b := p1) h7 h1 (by omega) hq
      simp only [List.append_nil] at this
      rw [this, obind_some]
      have hp := isort_perm (lt := ltc c) R
      exact ⟨_, hp, .last _ (by have := hp.length_eq; omega) (isort_srt O hq), rfl⟩
theorem stb_4 {p1 : Int} {bs : Nat} {kk : List GChange → Int → Option (List GChange)} (hbs : 0 < bs) (hbb : bs ≤ 200000000) : ∀ (fu : Nat) (D R : List GChange) (y7 y8 : Int), R.length < fu → y7 = (D.length : Int) → y8 = (D.length : Int) + 2 * bs → p1 = (D.length : Int) + R.length → p1 ≤ 200000000 → Chunks (ltc c) bs R → (∀ z ∈ R, Q z) →
    ∃ R', R'.Perm R ∧ Chunks (ltc c) (2 * bs) R' ∧ m_slices_stableCmpFunc_tally_Change__tally_order_l4 p1 (bs : Int) kk fu (D ++ R) y7 y8 = kk (D ++ R') ((2 * bs : Nat) : Int)
  | 0, _, _, _, _, h, _, _, _, _, _, _ => by omega
  | fu + 1, D, R, y7, y8, hf, h7, h8, h1, hb, hC, hq => by
    have e2 : IntKind.i64.wrap ((bs : Int) * 2) = ((2 * bs : Nat) : Int) := by rw [w64 (by omega) (by omega)]; omega
    unfold m_slices_stableCmpFunc_tally_Change__tally_order_l4
    rw [e2, w64 (n := y7 + (bs : Int)) (by omega) (by omega), w64 (n := 2 * (bs : Int)) (by omega) (by omega)]
    by_cases h : y8 ≤ p1
    · rw [decide_eq_true h, cond_true, w64 (n := y8 + 2 * (bs : Int)) (by omega) (by omega)]
      obtain ⟨c1, r, rfl, l1, s1, hr⟩ := hC.split (by omega)
      simp only [List.length_append] at h1 hf
      obtain ⟨c2, r2, rfl, l2, s2, hr2⟩ := hr.split (by omega)
      simp only [List.length_append] at h1 hf
      obtain ⟨C, k1, k2, k3⟩ := sym_ok hc O 1152921504606846976 D c1 c2 r2 y7 (y7 + (bs : Int)) y8 (List.ne_nil_of_length_pos (by omega)) (List.ne_nil_of_length_pos (by omega)) (by omega) h7 (by omega) (by omega) (by omega) (fun z hz => hq z (by simp [hz])) (fun z hz => hq z (by simp [hz])) s1 s2
      have hl := k1.length_eq
      rw [List.length_append] at hl
      rw [k3, obind_some]
      obtain ⟨R', r1, r2', r3⟩ := stb_4 (p1 := p1) (kk := kk) hbs hbb fu (D ++ C) r2 y8 (y8 + 2 * (bs : Int)) (by omega) (by simp; omega) (by simp; omega) (by simp; omega) hb hr2 (fun z hz => hq z (by simp [hz]))
      rw [List.append_assoc] at r3
      refine ⟨C ++ R', ?_, .cons _ _ (by omega) k2 r2', by rw [r3, List.append_assoc]⟩
      rw [← List.append_assoc]
      exact k1.append r1
    · rw [decide_eq_false h, cond_false]
      by_cases h2 : y7 + (bs : Int) < p1
      · rw [d_lt h2, cond_true]
        obtain ⟨c1, r, rfl, l1, s1, hr⟩ := hC.split (by omega)
        simp only [List.length_append] at h1 hf
        have s2 := hr.all (by omega)
        obtain ⟨C, k1, k2, k3⟩ := sym_ok hc O 1152921504606846976 D c1 r [] y7 (y7 + (bs : Int)) p1 (List.ne_nil_of_length_pos (by omega)) (List.ne_nil_of_length_pos (by omega)) (by omega) h7 (by omega) (by omega) (by omega) (fun z hz => hq z (by simp [hz])) (fun z hz => hq z (by simp [hz])) s1 s2
        have hl := k1.length_eq
        rw [List.length_append] at hl
        simp only [List.append_nil] at k3
        rw [k3, obind_some]
        exact ⟨C, k1, .last _ (by omega) k2, rfl⟩
      · rw [d_nlt h2, cond_false]
        exact ⟨R, List.Perm.refl _, .last _ (by omega) (hC.all (by omega)), rfl⟩
theorem stb_3 {p1 : Int} : ∀ (fu : Nat) (R : List GChange) (bs : Nat), R.length < fu + bs → 0 < bs → bs ≤ 400000000 → p1 = (R.length : Int) → p1 ≤ 200000000 → Chunks (ltc c) bs R → (∀ z ∈ R, Q z) → 0 < fu →
    ∃ R', R'.Perm R ∧ Srt (ltc c) R' ∧ m_slices_stableCmpFunc_tally_Change__tally_order_l3 p1 fu R (bs : Int) = some R'
  | 0, _, _, _, _, _, _, _, _, _, h => by omega
  | fu + 1, R, bs, hf, h0, hbs, h1, hb, hC, hq, _ => by
    unfold m_slices_stableCmpFunc_tally_Change__tally_order_l3
    by_cases h : (bs : Int) < p1
    · rw [d_lt h, cond_true, w64 (n := 2 * (bs : Int)) (by omega) (by omega)]
      obtain ⟨R', r1, r2, r3⟩ := stb_4 hc O (p1 := p1) (kk := fun y0_3 y6_3 => m_slices_stableCmpFunc_tally_Change__tally_order_l3 p1 fu y0_3 y6_3) h0 (by omega) 1152921504606846976 [] R 0 (2 * (bs : Int)) (by omega) rfl (by simp) (by simpa using h1) hb hC hq
      simp only [List.nil_append] at r3
      rw [r3]
      have hl := r1.length_eq
      obtain ⟨R2, q1, q2, q3⟩ := stb_3 (p1 := p1) fu R' (2 * bs) (by omega) (by omega) (by omega) (by omega) hb r2 (fun z hz => hq z (r1.mem_iff.1 hz)) (by omega)
      exact ⟨R2, q1.trans r1, q2, q3⟩
    · rw [d_nlt h, cond_false]
      exact ⟨R, List.Perm.refl _, hC.all (by omega), rfl⟩
theorem stb_ok {l : List GChange} (hl : l.length ≤ 200000000) (hq : ∀ z ∈ l, Q z) : ∃ l', l'.Perm l ∧ Srt (ltc c) l' ∧ m_slices_stableCmpFunc_tally_Change__tally_order l ((l.length : Nat) : Int) = some l' := by
  unfold m_slices_stableCmpFunc_tally_Change__tally_order
  obtain ⟨R, r1, r2, r3⟩ := stb_0 hc O (p1 := ((l.length : Nat) : Int)) 1152921504606846976 [] l 0 20 (by omega) rfl (by simp) (by simp) (by omega) hq
  simp only [List.nil_append] at r3
  rw [r3]
  have hll := r1.length_eq
  obtain ⟨R2, q1, q2, q3⟩ := stb_3 hc O (p1 := ((l.length : Nat) : Int)) 1152921504606846976 R 20 (by omega) (by omega) (by omega) (by omega) (by omega) r2 (fun z hz => hq z (r1.mem_iff.1 hz)) (by omega)
  exact ⟨R2, q1.trans r1, q2, q3⟩
end
end m_tally_order_sort
end Go.Proofs.Ytcpageegmpjkiaa.K

namespace Go.Proofs.Ytcpageegmpjkiaa.K
open Go.RowKit Go.Lib
def cmpI (a b : Int) : Int := if a < b then -1 else if b < a then 1 else 0
def orI : List Int → Int
  | [] => 0
  | x :: l => if x ≠ 0 then x else orI l
theorem cmp_ok (a b : Int) : m_cmp_Compare_int a b = some (cmpI a b) := by
  unfold m_cmp_Compare_int m_cmp_isNaN_int cmpI
  rw [obind_some, obind_some, decide_eq_false (by simp), cond_false, decide_eq_false (by simp), cond_false]
  by_cases h1 : a < b
  · rw [d_lt h1, cond_true, if_pos h1]
  · rw [d_nlt h1, cond_false, if_neg h1]
    by_cases h2 : b < a
    · rw [d_lt h2, cond_true, if_pos h2]
    · rw [d_nlt h2, cond_false, if_neg h2]
theorem or_ok {l : List Int} (hl : l.length ≤ 1000000) : m_cmp_Or_int l = some (orI l) := by
  unfold m_cmp_Or_int
  have := loop1_0 (L := fun fu i => m_cmp_Or_int_l1 l fu i) (n := l.length) (P := fun i o => o = some (orI (l.drop i))) (by omega)
    (fun fu => by unfold m_cmp_Or_int_l1; rw [d_nlt (by omega), cond_false]; simp [orI])
    (fun fu i hi ih => by
      unfold m_cmp_Or_int_l1
      rw [d_lt (by omega), cond_true, geti_lt hi, obind_some, drop_cons hi]
      unfold orI
      by_cases h : l[i] ≠ 0
      · rw [decide_eq_true h, cond_true, if_pos h]
      · rw [decide_eq_false h, cond_false, if_neg h, inc_ok (by omega)]; exact ih)
  simpa using this
theorem cmpI_lt {a b : Int} : cmpI a b < 0 ↔ a < b := by unfold cmpI; split <;> (try split) <;> omega
theorem cmpI_zero {a b : Int} : cmpI a b = 0 ↔ a = b := by unfold cmpI; split <;> (try split) <;> omega
end Go.Proofs.Ytcpageegmpjkiaa.K

namespace Go.Proofs.Ytcpageegmpjkiaa.K
open Go.RowKit Go.Lib
/-! ### points -/
def ordT (x y : GChange) : Int := orI [cmpI x.Loc y.Loc, cmpI x.Time y.Time]
theorem order_ok (x y : GChange) : m_tally_order x y = some (ordT x y) := by
  unfold m_tally_order
  rw [cmp_ok, obind_some, cmp_ok, obind_some, or_ok (by simp), obind_some]; rfl
abbrev ltT : GChange → GChange → Prop := ltc ordT
theorem ltT_iff {x y : GChange} : ltT x y ↔ x.Loc < y.Loc ∨ (x.Loc = y.Loc ∧ x.Time < y.Time) := by
  show ordT x y < 0 ↔ _
  unfold ordT orI orI
  by_cases h : cmpI x.Loc y.Loc ≠ 0
  · rw [if_pos h, cmpI_lt]; have := mt cmpI_zero.2 h; omega
  · have e := cmpI_zero.1 (Classical.not_not.1 h)
    rw [if_neg h]
    by_cases h2 : cmpI x.Time y.Time ≠ 0
    · rw [if_pos h2, cmpI_lt]; omega
    · have e2 := cmpI_zero.1 (Classical.not_not.1 h2)
      rw [if_neg h2]; unfold orI; omega
theorem ordT_zero {x y : GChange} : ordT x y = 0 ↔ x.Loc = y.Loc ∧ x.Time = y.Time := by
  unfold ordT orI orI
  by_cases h : cmpI x.Loc y.Loc ≠ 0
  · rw [if_pos h]; have := fun e => h (cmpI_zero.2 e); exact ⟨fun h2 => absurd h2 h, fun h2 => absurd h2.1 this⟩
  · have e := cmpI_zero.1 (Classical.not_not.1 h)
    rw [if_neg h]
    by_cases h2 : cmpI x.Time y.Time ≠ 0
    · rw [if_pos h2]; have := fun e => h2 (cmpI_zero.2 e); exact ⟨fun h3 => absurd h3 h2, fun h3 => absurd h3.2 this⟩
    · have e2 := cmpI_zero.1 (Classical.not_not.1 h2)
      rw [if_neg h2]; unfold orI; exact ⟨fun _ => ⟨e, e2⟩, fun _ => rfl⟩
theorem ordQ : Ord (fun _ : GChange => True) ltT := ⟨fun x y _ _ h h2 => by rw [ltT_iff] at h h2; omega, fun x y z _ _ _ h h2 h3 => by rw [ltT_iff] at h h2 h3; omega⟩
/-! ### what is at a point -/
def atp : List GChange → Int → Int → Int
  | [], _, _ => 0
  | x :: l, a, b => (if x.Loc = a ∧ x.Time = b then x.N else 0) + atp l a b
def absum : List GChange → Nat
  | [] => 0
  | x :: l => x.N.natAbs + absum l
theorem atp_app : ∀ (l r : List GChange) (a b : Int), atp (l ++ r) a b = atp l a b + atp r a b
  | [], r, a, b => by simp [atp]
  | x :: l, r, a, b => by rw [List.cons_append, atp, atp, atp_app l r]; omega
theorem absum_app : ∀ (l r : List GChange), absum (l ++ r) = absum l + absum r
  | [], r => by simp [absum]
  | x :: l, r => by rw [List.cons_append, absum, absum, absum_app l r]; omega
theorem atp_perm {l r : List GChange} (h : l.Perm r) (a b : Int) : atp l a b = atp r a b := by
  induction h with
  | nil => rfl
  | cons x _ ih => simp only [atp, ih]
  | swap x y l => simp only [atp]; omega
  | trans _ _ h1 h2 => exact h1.trans h2
theorem absum_perm {l r : List GChange} (h : l.Perm r) : absum l = absum r := by
  induction h with
  | nil => rfl
  | cons x _ ih => simp only [absum, ih]
  | swap x y l => simp only [absum]; omega
  | trans _ _ h1 h2 => exact h1.trans h2
theorem absum_mem : ∀ {l : List GChange} {x : GChange}, x ∈ l → x.N.natAbs ≤ absum l
  | y :: l, x, h => by
    unfold absum
    rcases List.mem_cons.1 h with rfl | h
    · omega
    · have := absum_mem h; omega
theorem atp_none : ∀ {l : List GChange} {a b : Int}, (∀ x ∈ l, ¬ (x.Loc = a ∧ x.Time = b)) → atp l a b = 0
  | [], _, _, _ => rfl
  | x :: l, a, b, h => by rw [atp, if_neg (h x (by simp)), atp_none fun y hy => h y (by simp [hy])]; omega
/-! ### tallies -/
/-- Each point once, in order, with something there. -/
def Norm (t : List GChange) : Prop := t.Pairwise ltT ∧ ∀ x ∈ t, x.N ≠ 0
theorem strict_at {t : List GChange} (h : t.Pairwise ltT) : ∀ {x : GChange}, x ∈ t → atp t x.Loc x.Time = x.N := by
  induction t with
  | nil => intro x hx; simp at hx
  | cons y t ih =>
    intro x hx
    have h' := List.pairwise_cons.1 h
    rcases List.mem_cons.1 hx with rfl | hx
    · rw [atp, if_pos ⟨rfl, rfl⟩, atp_none fun z hz => ?_]
      · omega
      · have := ltT_iff.1 (h'.1 z hz); omega
    · rw [atp, if_neg (by have := ltT_iff.1 (h'.1 x hx); omega), ih h'.2 hx]; omega
theorem norm_unique : ∀ {t u : List GChange}, Norm t → Norm u → (∀ a b, atp t a b = atp u a b) → t = u
  | [], [], _, _, _ => rfl
  | [], y :: u, _, hu, h => by
    have := strict_at hu.1 (x := y) (by simp)
    rw [← h] at this
    exact absurd this.symm (hu.2 y (by simp))
  | x :: t, [], ht, _, h => by
    have := strict_at ht.1 (x := x) (by simp)
    rw [h] at this
    exact absurd this.symm (ht.2 x (by simp))
  | x :: t, y :: u, ht, hu, h => by
    have ht' := List.pairwise_cons.1 ht.1
    have hu' := List.pairwise_cons.1 hu.1
    have hx := strict_at ht.1 (x := x) (by simp)
    have hy := strict_at hu.1 (x := y) (by simp)
    have nx := ht.2 x (by simp)
    have ny := hu.2 y (by simp)
    by_cases h1 : ltT x y
    · exfalso; apply nx
      rw [← hx, h]
      refine atp_none fun z hz => ?_
      rw [ltT_iff] at h1
      rcases List.mem_cons.1 hz with rfl | hz
      · omega
      · have := ltT_iff.1 (hu'.1 z hz); omega
    · by_cases h2 : ltT y x
      · exfalso; apply ny
        rw [← hy, ← h]
        refine atp_none fun z hz => ?_
        rw [ltT_iff] at h2
        rcases List.mem_cons.1 hz with rfl | hz
        · omega
        · have := ltT_iff.1 (ht'.1 z hz); omega
      · have e1 : x.Loc = y.Loc := by rw [ltT_iff] at h1 h2; omega
        have e2 : x.Time = y.Time := by rw [ltT_iff] at h1 h2; omega
        have e3 : x.N = y.N := by rw [← hx, ← hy, ← h, e1, e2]
        have e : x = y := by cases x; cases y; simp_all
        subst e
        congr 1
        refine norm_unique ⟨ht'.2, fun z hz => ht.2 z (by simp [hz])⟩ ⟨hu'.2, fun z hz => hu.2 z (by simp [hz])⟩ fun a b => ?_
        have := h a b
        simp only [atp] at this
        omega
def putT : List GChange → GChange → List GChange
  | [], c => if c.N = 0 then [] else [c]
  | x :: t, c => if ltT x c then x :: putT t c else if ltT c x then (if c.N = 0 then x :: t else c :: x :: t) else if x.N + c.N = 0 then t else ⟨x.Loc, x.Time, x.N + c.N⟩ :: t
theorem putT_pt : ∀ {t : List GChange} {c z : GChange}, z ∈ putT t c → (z.Loc = c.Loc ∧ z.Time = c.Time) ∨ ∃ x ∈ t, z.Loc = x.Loc ∧ z.Time = x.Time
  | [], c, z, h => by
    unfold putT at h
    split at h
    · simp at h
    · simp at h; subst h; exact .inl ⟨rfl, rfl⟩
  | x :: t, c, z, h => by
    unfold putT at h
    split at h
    · rcases List.mem_cons.1 h with rfl | h
      · exact .inr ⟨_, by simp, rfl, rfl⟩
      · rcases putT_pt h with h | ⟨y, hy, e⟩
        · exact .inl h
        · exact .inr ⟨y, by simp [hy], e⟩
    · split at h
      · split at h
        · exact .inr ⟨z, h, rfl, rfl⟩
        · rcases List.mem_cons.1 h with rfl | h
          · exact .inl ⟨rfl, rfl⟩
          · exact .inr ⟨z, h, rfl, rfl⟩
      · split at h
        · exact .inr ⟨z, by simp [h], rfl, rfl⟩
        · rcases List.mem_cons.1 h with rfl | h
          · exact .inr ⟨x, by simp, rfl, rfl⟩
          · exact .inr ⟨z, by simp [h], rfl, rfl⟩
theorem putT_ok : ∀ {t : List GChange} (c : GChange), Norm t → Norm (putT t c) ∧ ∀ a b, atp (putT t c) a b = atp t a b + (if c.Loc = a ∧ c.Time = b then c.N else 0)
  | [], c, _ => by
    unfold putT
    split
    · rename_i h; exact ⟨⟨List.Pairwise.nil, by simp⟩, fun a b => by simp [atp, h]⟩
    · rename_i h; exact ⟨⟨List.pairwise_singleton _ _, by simpa using h⟩, fun a b => by simp [atp]⟩
  | x :: t, c, hn => by
    have h' := List.pairwise_cons.1 hn.1
    have ht : Norm t := ⟨h'.2, fun z hz => hn.2 z (by simp [hz])⟩
    unfold putT
    split
    · rename_i hx
      obtain ⟨⟨i1, i2⟩, i3⟩ := putT_ok c ht
      refine ⟨⟨List.pairwise_cons.2 ⟨fun z hz => ?_, i1⟩, fun z hz => ?_⟩, fun a b => ?_⟩
      · rw [ltT_iff] at hx ⊢
        rcases putT_pt hz with ⟨e1, e2⟩ | ⟨y, hy, e1, e2⟩
        · rw [e1, e2]; exact hx
        · rw [e1, e2]; exact ltT_iff.1 (h'.1 y hy)
      · rcases List.mem_cons.1 hz with rfl | hz
        · exact hn.2 _ (by simp)
        · exact i2 z hz
      · simp only [atp, i3]; omega
    · rename_i hx
      split
      · rename_i hc
        split
        · rename_i h0; exact ⟨hn, fun a b => by simp [h0]⟩
        · rename_i h0
          refine ⟨⟨List.pairwise_cons.2 ⟨fun z hz => ?_, hn.1⟩, fun z hz => ?_⟩, fun a b => by simp only [atp]; omega⟩
          · rcases List.mem_cons.1 hz with rfl | hz
            · exact hc
            · have := ltT_iff.1 (h'.1 z hz)
              rw [ltT_iff] at hc ⊢; omega
          · rcases List.mem_cons.1 hz with rfl | hz
            · exact h0
            · exact hn.2 z hz
      · rename_i hc
        have e1 : x.Loc = c.Loc := by rw [ltT_iff] at hx hc; omega
        have e2 : x.Time = c.Time := by rw [ltT_iff] at hx hc; omega
        split
        · rename_i h0
          refine ⟨ht, fun a b => ?_⟩
          simp only [atp, e1, e2]
          split <;> omega
        · rename_i h0
          refine ⟨⟨List.pairwise_cons.2 ⟨fun z hz => ?_, h'.2⟩, fun z hz => ?_⟩, fun a b => ?_⟩
          · have := ltT_iff.1 (h'.1 z hz)
            rw [ltT_iff]; exact this
          · rcases List.mem_cons.1 hz with rfl | hz
            · exact h0
            · exact ht.2 z hz
          · simp only [atp, e1, e2]
            split <;> omega
/-- The tally of changes. -/
def nrm : List GChange → List GChange
  | [] => []
  | x :: l => putT (nrm l) x
theorem nrm_ok : ∀ l : List GChange, Norm (nrm l) ∧ ∀ a b, atp (nrm l) a b = atp l a b
  | [] => ⟨⟨List.Pairwise.nil, by simp [nrm]⟩, fun a b => rfl⟩
  | x :: l => by
    obtain ⟨h1, h2⟩ := nrm_ok l
    obtain ⟨h3, h4⟩ := putT_ok x h1
    exact ⟨h3, fun a b => by rw [nrm, h4, h2, atp]; omega⟩
theorem nrm_norm (l : List GChange) : Norm (nrm l) := (nrm_ok l).1
theorem nrm_at (l : List GChange) (a b : Int) : atp (nrm l) a b = atp l a b := (nrm_ok l).2 a b
theorem nrm_eq {l t : List GChange} (h : Norm t) (ha : ∀ a b, atp t a b = atp l a b) : nrm l = t := norm_unique (nrm_norm l) h fun a b => by rw [nrm_at, ha]
theorem nrm_congr {l r : List GChange} (ha : ∀ a b, atp l a b = atp r a b) : nrm l = nrm r := nrm_eq (nrm_norm r) fun a b => by rw [nrm_at, ha]
theorem putT_len : ∀ (t : List GChange) (c : GChange), (putT t c).length ≤ t.length + 1
  | [], c => by unfold putT; split <;> simp
  | x :: t, c => by
    have := putT_len t c
    unfold putT
    split
    · simp; omega
    · split
      · split <;> simp
      · split <;> simp <;> omega
theorem nrm_len : ∀ l : List GChange, (nrm l).length ≤ l.length
  | [] => by simp [nrm]
  | x :: l => by have := putT_len (nrm l) x; have := nrm_len l; simp only [nrm, List.length_cons]; omega
theorem putT_abs : ∀ (t : List GChange) (c : GChange), absum (putT t c) ≤ absum t + c.N.natAbs
  | [], c => by unfold putT; split <;> simp [absum]
  | x :: t, c => by
    have := putT_abs t c
    unfold putT
    split
    · simp only [absum]; omega
    · split
      · split <;> simp only [absum] <;> omega
      · split <;> simp only [absum] <;> omega
theorem nrm_abs : ∀ l : List GChange, absum (nrm l) ≤ absum l
  | [] => by simp [nrm, absum]
  | x :: l => by have := putT_abs (nrm l) x; have := nrm_abs l; simp only [nrm, absum]; omega
/-! ### the program's Normal -/
theorem cut_0 {α : Type} {l : List α} {b : Nat} (h : b ≤ l.length) : cut l 0 (b : Int) = some (l.take b) := by
  have := cut_ok (Nat.zero_le b) h
  simpa using this
theorem cut_00 {α : Type} {l : List α} : cut l 0 0 = some [] := by
  have := cut_0 (l := l) (Nat.zero_le _)
  simpa using this
theorem index_ok {l : List GChange} (hl : l.length ≤ 100000000) : (m_slices_IndexFunc_Change__tally_Normal_1 l = some (-1) ∧ ∀ x ∈ l, x.N ≠ 0) ∨ ∃ K x R, l = K ++ x :: R ∧ (∀ y ∈ K, y.N ≠ 0) ∧ x.N = 0 ∧ m_slices_IndexFunc_Change__tally_Normal_1 l = some (K.length : Int) := by
  unfold m_slices_IndexFunc_Change__tally_Normal_1
  have := loop1_0 (L := fun fu i => m_slices_IndexFunc_Change__tally_Normal_1_l1 l fu i) (n := l.length) (P := fun i o => (o = some (-1) ∧ ∀ x ∈ l.drop i, x.N ≠ 0) ∨ ∃ K x R, l.drop i = K ++ x :: R ∧ (∀ y ∈ K, y.N ≠ 0) ∧ x.N = 0 ∧ o = some ((i : Int) + (K.length : Int))) (by omega)
    (fun fu => by unfold m_slices_IndexFunc_Change__tally_Normal_1_l1; rw [d_nlt (by omega), cond_false]; exact .inl ⟨rfl, by simp⟩)
    (fun fu i hi ih => by
      unfold m_slices_IndexFunc_Change__tally_Normal_1_l1 m_tally_Normal_1
      rw [d_lt (by omega), cond_true, geti_lt hi, obind_some, obind_some, drop_cons hi]
      by_cases h : l[i].N = 0
      · rw [decide_eq_true h, cond_true]
        exact .inr ⟨[], l[i], _, rfl, by simp, h, by simp⟩
      · rw [decide_eq_false h, cond_false, inc_ok (by omega)]
        rcases ih with ⟨e, q⟩ | ⟨K, x, R, e, q, z, e2⟩
        · exact .inl ⟨e, fun x hx => by
            rcases List.mem_cons.1 hx with rfl | hx
            · exact h
            · exact q x hx⟩
        · refine .inr ⟨l[i] :: K, x, R, by rw [e]; rfl, fun y hy => ?_, z, by rw [e2]; congr 1; simp; omega⟩
          rcases List.mem_cons.1 hy with rfl | hy
          · exact h
          · exact q y hy)
  rcases this with ⟨e, q⟩ | ⟨K, x, R, e, q, z, e2⟩
  · exact .inl ⟨e, by simpa using q⟩
  · exact .inr ⟨K, x, R, by simpa using e, q, z, by simpa using e2⟩
theorem del_l : ∀ (R K J : List GChange) (fu : Nat), R.length < fu → 0 < J.length → K.length + J.length + R.length ≤ 100000000 → m_slices_DeleteFunc_Change__tally_Normal_1_l1 fu (K ++ (J ++ R)) (K.length : Int) ((K.length + J.length : Nat) : Int) = some (K ++ R.filter fun x => decide (x.N ≠ 0))
  | _, _, _, 0, h, _, _ => by omega
  | [], K, J, fu + 1, hf, hJ, hb => by
    unfold m_slices_DeleteFunc_Change__tally_Normal_1_l1
    have hl : (List.length (K ++ (J ++ [])) : Nat) = K.length + J.length := by simp
    rw [hl, d_nlt (by omega), cond_false, chk_ok (by omega)]
    have hc : (clr (K ++ (J ++ [])) (Int.toNat (K.length : Int)) (GChange.mk 0 0 0)) = K ++ List.replicate J.length (GChange.mk 0 0 0) := by
      unfold clr
      rw [Int.toNat_natCast, List.take_left' rfl]; simp
    rw [hc, cut_0 (by simp), obind_some]; simp
  | x :: R, K, J, fu + 1, hf, hJ, hb => by
    simp only [List.length_cons] at hf hb
    unfold m_slices_DeleteFunc_Change__tally_Normal_1_l1 m_tally_Normal_1
    have hl : (List.length (K ++ (J ++ x :: R)) : Nat) = K.length + J.length + R.length + 1 := by simp; omega
    have g : geti (K ++ (J ++ x :: R)) ((K.length + J.length : Nat) : Int) = some x := geti_at (p := K ++ J) (q := R) (by simp) (by simp)
    rw [hl, d_lt (by omega), cond_true, g, obind_some, obind_some]
    obtain ⟨y, J', rfl⟩ : ∃ y J', J = y :: J' := by cases J with | nil => simp at hJ | cons y J' => exact ⟨y, J', rfl⟩
    by_cases h : x.N = 0
    · rw [decide_eq_true h, Bool.not_true, cond_false, inc_ok (by omega)]
      have := del_l R K ((y :: J') ++ [x]) fu (by omega) (by simp) (by simp at hb ⊢; omega)
      rw [List.filter_cons_of_neg (by simp [h])]
      simp only [List.length_append, List.length_singleton, List.append_assoc, List.singleton_append] at this
      exact this
    · rw [decide_eq_false h, Bool.not_false, cond_true, inc_ok (by omega), inc_ok (by omega)]
      have g2 : geti (K ++ (y :: J' ++ x :: R)) (K.length : Int) = some y := geti_at (p := K) (q := J' ++ x :: R) rfl rfl
      have s2 := set_at (l := K ++ (y :: J' ++ x :: R)) (p := K) (x := y) (y := x) (q := J' ++ x :: R) (i := (K.length : Int)) rfl rfl
      rw [g2, obind_some, s2, List.filter_cons_of_pos (by simp [h])]
      have := del_l R (K ++ [x]) (J' ++ [x]) fu (by omega) (by simp) (by simp at hb ⊢; omega)
      have e : K ++ x :: (J' ++ x :: R) = K ++ [x] ++ (J' ++ [x] ++ R) := by simp
      rw [e]
      simp only [List.length_append, List.length_cons, List.length_nil, Nat.zero_add] at this ⊢
      rw [show K.length + (J'.length + 1) + 1 = K.length + 1 + (J'.length + 1) by omega, this]
      simp
theorem delete_ok {l : List GChange} (hl : l.length ≤ 100000000) : m_slices_DeleteFunc_Change__tally_Normal_1 l = some (l.filter fun x => decide (x.N ≠ 0)) := by
  unfold m_slices_DeleteFunc_Change__tally_Normal_1
  rcases index_ok hl with ⟨e, q⟩ | ⟨K, x, R, e, q, z, e2⟩
  · rw [e, obind_some, decide_eq_true rfl, cond_true]
    congr 1
    exact (List.filter_eq_self.2 fun x hx => by simpa using q x hx).symm
  · rw [e2, obind_some, decide_eq_false (by omega), cond_false]
    subst e
    simp only [List.length_append, List.length_cons] at hl
    have := del_l R K [x] 1152921504606846976 (by omega) (by simp) (by simp; omega)
    rw [inc_ok (by omega)]
    have e3 : K ++ x :: R = K ++ ([x] ++ R) := by simp
    rw [e3]
    simp only [List.length_singleton] at this
    have eK : K.filter (fun x => decide (x.N ≠ 0)) = K := List.filter_eq_self.2 fun y hy => by simpa using q y hy
    rw [this, List.filter_append, List.filter_append, eK]
    simp [z]
/-- Behind the points D, out has each once, what is there added up. -/
structure Mrg (D out : List GChange) : Prop where
  st : out.Pairwise ltT
  at_ : ∀ a b, atp out a b = atp D a b
  last : ∀ x, D.getLast? = some x → ∃ O y, out = O ++ [y] ∧ y.Loc = x.Loc ∧ y.Time = x.Time
  abs : absum out ≤ absum D
  len : out.length ≤ D.length
  ge : ∀ z ∈ out, ∃ x ∈ D, z.Loc = x.Loc ∧ z.Time = x.Time
theorem mrg_l {s : List GChange} (hs : Srt ltT s) (ha : absum s ≤ 4611686018427387904) (hl : s.length ≤ 100000000) : ∀ (R D out : List GChange) (fu : Nat), s = D ++ R → R.length < fu → Mrg D out →
    ∃ t, m_tally_Normal_l4 s fu out (D.length : Int) = some (t.filter fun x => decide (x.N ≠ 0)) ∧ Mrg s t
  | _, _, _, 0, _, h, _ => by omega
  | [], D, out, fu + 1, e, hf, hm => by
    have hlD : s.length = D.length := by rw [e]; simp
    unfold m_tally_Normal_l4
    rw [hlD, d_nlt (by omega), cond_false, delete_ok (by have := hm.len; omega), obind_some]
    exact ⟨out, rfl, by rw [e, List.append_nil]; exact hm⟩
  | c :: R, D, out, fu + 1, e, hf, hm => by
    have hlD : s.length = D.length + R.length + 1 := by rw [e]; simp; omega
    have hol := hm.len
    have gc : geti s (D.length : Int) = some c := geti_at e rfl
    have habs : absum s = absum D + (c.N.natAbs + absum R) := by rw [e, absum_app, absum]
    have e' : s = (D ++ [c]) ++ R := by rw [e]; simp
    have hs' := hs
    rw [e, Srt.app] at hs'
    have hoa := hm.abs
    have next : ∀ out', Mrg (D ++ [c]) out' → ∃ t, m_tally_Normal_l4 s fu out' (IntKind.i64.wrap ((D.length : Int) + 1)) = some (t.filter fun x => decide (x.N ≠ 0)) ∧ Mrg s t := fun out' hm' => by
      rw [inc_ok (by omega)]
      have := mrg_l hs ha hl R (D ++ [c]) out' fu e' (by simp at hf; omega) hm'
      simpa using this
    -- a new point
    have fresh : (∀ z ∈ out, ltT z c) → Mrg (D ++ [c]) (out ++ [c]) := fun hz =>
      ⟨List.pairwise_append.2 ⟨hm.st, List.pairwise_singleton _ _, fun a ha b hb => by simp at hb; subst hb; exact hz a ha⟩, fun a b => by rw [atp_app, atp_app, hm.at_], fun x hx => ⟨out, c, rfl, by simp at hx; subst hx; exact ⟨rfl, rfl⟩⟩,
        by rw [absum_app, absum_app]; omega, by simp; omega, fun z hz => by
          rcases List.mem_append.1 hz with hz | hz
          · obtain ⟨x, hx, e⟩ := hm.ge z hz; exact ⟨x, List.mem_append_left _ hx, e⟩
          · simp at hz; subst hz; exact ⟨z, by simp, rfl, rfl⟩⟩
    unfold m_tally_Normal_l4
    rw [d_lt (by omega), cond_true, gc, obind_some]
    by_cases h0 : 0 < D.length
    · rw [d_lt (by omega), cond_true, w64 (n := (D.length : Int) - 1) (by omega) (by omega)]
      obtain ⟨D', d, rfl⟩ : ∃ D' d, D = D' ++ [d] := ⟨D.dropLast, D.getLast (List.ne_nil_of_length_pos h0), (List.dropLast_concat_getLast _).symm⟩
      have hDl : (D' ++ [d]).length = D'.length + 1 := by simp
      have gd : geti s (((D' ++ [d]).length : Int) - 1) = some d := geti_at (p := D') (q := c :: R) (by rw [e]; simp) (by simp)
      rw [gd, obind_some, order_ok, obind_some]
      obtain ⟨O, y, hO, y1, y2⟩ := hm.last d (by simp)
      have hdc : ¬ ltT c d := hs'.2.2 d (by simp) c (by simp)
      by_cases hz : ordT d c = 0
      · rw [decide_eq_true hz, cond_true]
        have hz' := ordT_zero.1 hz
        subst hO
        simp only [List.length_append, List.length_singleton] at hol
        have hOl : (O ++ [y]).length = O.length + 1 := by simp
        have hyN : (y.N).natAbs ≤ absum (O ++ [y]) := absum_mem (by simp)
        have hp : Mrg (D' ++ [d] ++ [c]) (O ++ [⟨y.Loc, y.Time, y.N + c.N⟩]) := by
          have h1 := List.pairwise_append.1 hm.st
          refine ⟨List.pairwise_append.2 ⟨h1.1, List.pairwise_singleton _ _, fun a ha b hb => ?_⟩, fun a b => ?_, fun x hx => ⟨O, _, rfl, ?_⟩, ?_, by simp at hol ⊢; omega, fun z hz => ?_⟩
          · simp at hb; subst hb
            have := ltT_iff.1 (h1.2.2 a ha y (by simp))
            rw [ltT_iff]; exact this
          · have := hm.at_ a b
            rw [atp_app] at this ⊢
            rw [atp_app (D' ++ [d])]
            simp only [atp] at this ⊢
            rw [y1, y2] at this ⊢
            rw [hz'.1, hz'.2] at this ⊢
            by_cases hq : c.Loc = a ∧ c.Time = b
            · simp only [if_pos hq] at this ⊢; omega
            · simp only [if_neg hq] at this ⊢; omega
          · simp at hx; subst hx; exact ⟨y1.trans hz'.1, y2.trans hz'.2⟩
          · have := hm.abs
            rw [absum_app] at this ⊢
            rw [absum_app (D' ++ [d])]
            simp only [absum] at this ⊢
            omega
          · rcases List.mem_append.1 hz with hz | hz
            · obtain ⟨x, hx, e⟩ := hm.ge z (by simp [hz]); exact ⟨x, List.mem_append_left _ hx, e⟩
            · simp at hz; subst hz; exact ⟨d, by simp, y1, y2⟩
        have gl : geti (O ++ [y]) ((O.length : Int) + 1 - 1) = some y := geti_at (p := O) (q := []) rfl (by omega)
        have sl : ∀ v, (O ++ [y]).set (Int.toNat ((O.length : Int) + 1 - 1)) v = O ++ [v] := fun v => set_at (p := O) (q := []) rfl (by omega)
        have hll : ((List.length (O ++ [y]) : Nat) : Int) = (O.length : Int) + 1 := by simp
        have hcN : c.N.natAbs ≤ absum s := by omega
        rw [hll, w64 (n := (O.length : Int) + 1 - 1) (by omega) (by omega), gl, obind_some, obind_some, sl, w64 (n := y.N + c.N) (by omega) (by omega)]
        exact next _ hp
      · rw [decide_eq_false hz, cond_false, app_ok (by simp at hol ⊢; omega), obind_some]
        refine next _ (fresh fun z hzz => ?_)
        have hdl : ltT d c := by
          rw [ltT_iff] at hdc ⊢
          have := mt ordT_zero.2 hz
          omega
        have hzy : z = y ∨ ltT z y := by
          rw [hO] at hzz hm
          rcases List.mem_append.1 hzz with hzz | hzz
          · exact .inr ((List.pairwise_append.1 hm.st).2.2 z hzz y (by simp))
          · simp at hzz; exact .inl hzz
        rw [ltT_iff] at hdl ⊢
        rcases hzy with rfl | hzy
        · omega
        · rw [ltT_iff] at hzy; omega
    · have hD : D = [] := List.eq_nil_of_length_eq_zero (by omega)
      subst hD
      rw [d_nlt (by simp), cond_false]
      have ho : out = [] := List.eq_nil_of_length_eq_zero (by simpa using hol)
      subst ho
      rw [app_ok (by simp), obind_some]
      exact next _ (fresh (by simp))
theorem filter_at : ∀ (t : List GChange) (a b : Int), atp (t.filter fun x => decide (x.N ≠ 0)) a b = atp t a b
  | [], _, _ => rfl
  | x :: t, a, b => by
    have := filter_at t a b
    rw [List.filter_cons]
    split
    · simp only [atp, this]
    · rename_i h
      have : x.N = 0 := by simpa using h
      simp only [atp, filter_at t, this]; split <;> omega
/-- Changes that can be added up: not too many, and not too much of them. -/
def small (l : List GChange) : Prop := l.length ≤ 1000000 ∧ absum l ≤ 1152921504606846976
theorem normal_ok {l : List GChange} (h : small l) : m_tally_Normal l = some (nrm l) := by
  obtain ⟨hl, ha⟩ := h
  unfold m_tally_Normal
  rw [show mkl ((List.length l : Nat) : Int) (GChange.mk 0 0 0) = some (List.replicate l.length (GChange.mk 0 0 0)) by unfold mkl; rw [if_pos (by omega)]; simp,
    obind_some, show cpy (List.replicate l.length (GChange.mk 0 0 0)) l = some l by unfold cpy; rw [if_pos (by simp)]; simp, obind_some]
  unfold m_slices_SortStableFunc_Change__tally_order
  obtain ⟨s, s1, s2, s3⟩ := m_tally_order_sort.stb_ok (Q := fun _ => True) (c := ordT) (fun x y _ _ => order_ok x y) ordQ (l := l) (by omega) (fun _ _ => trivial)
  have hsl := s1.length_eq
  rw [s3, obind_some, obind_some]
  obtain ⟨t, t1, t2⟩ := mrg_l s2 (by rw [absum_perm s1]; omega) (by omega) s [] [] 1152921504606846976 rfl (by omega) ⟨List.Pairwise.nil, fun _ _ => rfl, fun x hx => by simp at hx, Nat.le_refl _, Nat.le_refl _, by simp⟩
  have e0 : ((([] : List GChange).length : Nat) : Int) = 0 := rfl
  rw [e0] at t1
  rw [t1]
  congr 1
  refine (nrm_eq ⟨t2.st.sublist List.filter_sublist, fun x hx => by simpa using (List.mem_filter.1 hx).2⟩ fun a b => ?_).symm
  rw [filter_at, t2.at_, atp_perm s1]
end Go.Proofs.Ytcpageegmpjkiaa.K

namespace Go.Proofs.Ytcpageegmpjkiaa.K
open Go.RowKit Go.Lib
theorem grow_ok {n : Nat} (h : n ≤ 1000000000) : m_slices_Grow_Change (n : Int) = some [] := by
  unfold m_slices_Grow_Change
  rw [d_nlt (by omega), cond_false, w64 (by omega) (by omega)]
  by_cases h0 : 0 < n
  · rw [d_lt (by omega), cond_true, show (n : Int) - 0 = (n : Int) by omega, show mkl (n : Int) (GChange.mk 0 0 0) = some (List.replicate n (GChange.mk 0 0 0)) by unfold mkl; rw [if_pos (by omega)]; simp, obind_some, chk_ok (by omega)]
    rw [cut_00, obind_some]
  · rw [d_nlt (by omega), cond_false]
theorem concat_ok {a b : List GChange} (h : a.length + b.length ≤ 1000000) : m_slices_Concat_Change [a, b] = some (a ++ b) := by
  unfold m_slices_Concat_Change
  show m_slices_Concat_Change_l1 [a, b] (1152921504606846973 + 1 + 1 + 1) 0 0 = _
  unfold m_slices_Concat_Change_l1
  rw [decide_eq_true (by simp), cond_true, show geti [a, b] 0 = some a from rfl, obind_some, w64 (n := 0 + ((List.length a : Nat) : Int)) (by omega) (by omega), d_nlt (by omega), cond_false]
  unfold m_slices_Concat_Change_l1
  rw [show IntKind.i64.wrap (0 + 1) = 1 from w64 (by omega) (by omega), decide_eq_true (by simp), cond_true, show geti [a, b] 1 = some b from rfl, obind_some, w64 (n := 0 + ((List.length a : Nat) : Int) + ((List.length b : Nat) : Int)) (by omega) (by omega), d_nlt (by omega), cond_false]
  unfold m_slices_Concat_Change_l1
  rw [show IntKind.i64.wrap (1 + 1) = 2 from w64 (by omega) (by omega), decide_eq_false (by simp), cond_false, show 0 + ((List.length a : Nat) : Int) + ((List.length b : Nat) : Int) = ((a.length + b.length : Nat) : Int) by omega, grow_ok (by omega), obind_some]
  show m_slices_Concat_Change_l6 [a, b] (1152921504606846973 + 1 + 1 + 1) [] 0 = _
  unfold m_slices_Concat_Change_l6
  rw [decide_eq_true (by simp), cond_true, show geti [a, b] 0 = some a from rfl, obind_some, app_ok (by simp; omega), obind_some]
  unfold m_slices_Concat_Change_l6
  rw [show IntKind.i64.wrap (0 + 1) = 1 from w64 (by omega) (by omega), decide_eq_true (by simp), cond_true, show geti [a, b] 1 = some b from rfl, obind_some, app_ok (by simp; omega), obind_some]
  unfold m_slices_Concat_Change_l6
  rw [show IntKind.i64.wrap (1 + 1) = 2 from w64 (by omega) (by omega), decide_eq_false (by simp), cond_false, List.nil_append]
theorem merge_ok {a b : List GChange} (h : small (a ++ b)) : m_tally_Merge a b = some (nrm (a ++ b)) := by
  have hl := h.1
  rw [List.length_append] at hl
  unfold m_tally_Merge
  rw [concat_ok hl, obind_some, normal_ok h, obind_some]
end Go.Proofs.Ytcpageegmpjkiaa.K

namespace Go.Proofs.Ytcpageegmpjkiaa.K
open Go.RowKit Go.Lib
theorem eq_loop {α : Type} [DecidableEq α] {L : Nat → Int → Option Bool} {a b : List α} (hl : a.length = b.length) (hb : a.length ≤ 1000000000) (hend : ∀ fu, L (fu + 1) (a.length : Int) = some true)
    (hstep : ∀ (fu i : Nat) (h1 : i < a.length) (h2 : i < b.length), L (fu + 1) (i : Int) = if a[i] = b[i] then L fu ((i + 1 : Nat) : Int) else some false) : L 1152921504606846976 0 = some (decide (a = b)) := by
  have := loop1_0 (L := L) (n := a.length) (P := fun i o => o = some (decide (a.drop i = b.drop i))) (by omega)
    (fun fu => by
      rw [hend, List.drop_eq_nil_of_le (Nat.le_refl _), List.drop_eq_nil_of_le (by omega)]; rfl)
    (fun fu i hi ih => by
      rw [hstep fu i hi (by omega), drop_cons hi, drop_cons (l := b) (by omega)]
      by_cases h : a[i] = b[i]'(by omega)
      · rw [if_pos h, ih]
        congr 1
        exact decide_eq_decide.2 ⟨fun e => by rw [h, e], fun e => (List.cons.inj e).2⟩
      · rw [if_neg h]
        congr 1
        exact (decide_eq_false fun e => h (List.cons.inj e).1).symm)
  simpa using this
end Go.Proofs.Ytcpageegmpjkiaa.K

namespace Go.Proofs.Ytcpageegmpjkiaa.K
open Go.RowKit Go.Lib
theorem ch_eq (x y : GChange) : (decide (x.Loc = y.Loc) && (decide (x.Time = y.Time) && (decide (x.N = y.N) && true))) = decide (x = y) := by
  rw [Bool.eq_iff_iff]
  simp only [Bool.and_eq_true, decide_eq_true_eq, and_true]
  constructor
  · rintro ⟨h1, h2, h3⟩; cases x; cases y; simp_all
  · rintro rfl; exact ⟨rfl, rfl, rfl⟩
theorem tsame_ok {a b : List GChange} (ha : a.length ≤ 1000000000) (hb : b.length ≤ 1000000000) : m_tally_Same a b = some (decide (a = b)) := by
  unfold m_tally_Same m_slices_Equal_Change
  by_cases hl : a.length = b.length
  · rw [decide_eq_false (by omega), cond_false, eq_loop (L := fun fu i => m_slices_Equal_Change_l2 a b fu i) hl ha (fun fu => by unfold m_slices_Equal_Change_l2; rw [d_nlt (by omega), cond_false]) (fun fu i h1 h2 => by
      conv => lhs; unfold m_slices_Equal_Change_l2
      rw [d_lt (by omega), cond_true, geti_lt h1, obind_some, geti_lt h2, obind_some, obind_some, ch_eq, inc_ok (by omega)]
      by_cases h : a[i] = b[i]
      · rw [decide_eq_true h, if_pos h]; rfl
      · rw [decide_eq_false h, if_neg h]; rfl), obind_some]
  · rw [decide_eq_true (by omega), cond_true, obind_some, decide_eq_false (fun e => hl (by rw [e]))]
end Go.Proofs.Ytcpageegmpjkiaa.K

namespace Go.Proofs.Ytcpageegmpjkiaa.K
open Go.RowKit Go.Lib
def leads (a b : Int) : Bool := decide (0 ≤ a) && (decide (a ≤ b) && decide (b ≤ 3))
/-- What is there, and where it goes to. -/
def there (l : List GChange) (loc : Int) (x : GChange) : Bool := leads x.Loc loc && decide (0 < atp l x.Loc x.Time)
end Go.Proofs.Ytcpageegmpjkiaa.K
