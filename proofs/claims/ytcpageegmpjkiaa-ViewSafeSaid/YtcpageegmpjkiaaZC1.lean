/- what telltalelaw29.ViewSafe needs (1) -/
import Derived.Test.YtcpageegmpjkiaaZC0
set_option linter.unusedVariables false
set_option linter.unusedSimpArgs false
namespace Go.Proofs.Ytcpageegmpjkiaa.K
open Go.RowKit Go.Lib
set_option maxRecDepth 20000
set_option maxHeartbeats 4000000

theorem ok_slices_Equal_Change (p0 : (List GChange)) (p1 : (List GChange)) (r : Bool) (h : m_slices_Equal_Change p0 p1 = some r) : GCall Try.prog 57 [(.l enc_GChange p0), (.l enc_GChange p1)] [] (.b r) [] := by
 refine GCall.of_body (n := 26) (rs := [(.tmp 4)]) Try.func57 rfl rfl rfl <| Ato ⟨.l enc_GChange p0::.l enc_GChange p1::tu 24 [], [], 0⟩ ?_
 have hm := h
 unfold m_slices_Equal_Change at hm
 refine Sx <| Wm (.b false) rfl <| Nk 3 0 ⟨.l enc_GChange p0::.l enc_GChange p1::tp 24 [], [], 0⟩ <| Sq <| Sx <| Wm (.l enc_GChange p0) rfl <| Wz (.i ((List.length p0 : Nat) : Int)) (Oln rfl) <| Wm (.l enc_GChange p1) rfl <| Wz (.i ((List.length p1 : Nat) : Int)) (Oln rfl) <| Wz (.b (decide (((List.length p0 : Nat) : Int) ≠ ((List.length p1 : Nat) : Int)))) (Obn rfl (fun _ => hb_neq (k := .i64))) <| Nk 1027 0 ⟨.l enc_GChange p0::.l enc_GChange p1::tp 8 (.b (decide (((List.length p0 : Nat) : Int) ≠ ((List.length p1 : Nat) : Int)))::tp 15 []), [], 0⟩ ?_
 rcases tf_ (decide (((List.length p0 : Nat) : Int) ≠ ((List.length p1 : Nat) : Int))) with hc10_4 | hc10_4
 ·
  replace hm := cT hc10_4 hm
  refine AiT hc10_4 <| Sx <| Wm (.b false) rfl <| Nn <| Rt <| Tr ?_
  obtain rfl := Option.some.inj hm
  exact ret_i []
 ·
  replace hm := cF hc10_4 hm
  refine AiF hc10_4 <| Sk <| Tk 3 0 ⟨.l enc_GChange p0::.l enc_GChange p1::tp 24 [], [], 0⟩ <| Sq <| Sx <| Wm (.l enc_GChange p0) rfl <| Wz (.i ((List.length p0 : Nat) : Int)) (Oln rfl) <| Wm (.i 0) rfl <| Nk 12291 0 ⟨.l enc_GChange p0::.l enc_GChange p1::tp 10 (.i ((List.length p0 : Nat) : Int)::.i 0::tp 12 []), [], 0⟩ <| Bk ?_
  refine AWP.loopI (α := Nat × Int)
    (fun (fu_2, y13_2) => (⟨.l enc_GChange p0::.l enc_GChange p1::tp 10 (.i ((List.length p0 : Nat) : Int)::.i y13_2::tp 12 []), [], 0⟩ : St))
    (fun (fu_2, y13_2) => m_slices_Equal_Change_l2 p0 p1 fu_2 y13_2 = some r)
    (fun (fu_2, y13_2) => fu_2) (1152921504606846976, 0)
    (Weak.toK 12291 0 0 []) hm ?_
  rintro ⟨fu_2, y13_2⟩ n_2 hm ih_2
  try dsimp only at hm ih_2 ⊢
  cases fu_2 with
  | zero => exact absurd hm (by unfold m_slices_Equal_Change_l2; simp)
  | succ fu_2 =>
   unfold m_slices_Equal_Change_l2 at hm
   refine Sx <| Wz (.b (decide (y13_2 < ((List.length p0 : Nat) : Int)))) (Obn rfl (fun _ => hb_lss (k := .i64))) <| Nk 28675 0 ⟨.l enc_GChange p0::.l enc_GChange p1::tp 10 (.i ((List.length p0 : Nat) : Int)::.i y13_2::.b (decide (y13_2 < ((List.length p0 : Nat) : Int)))::tp 11 []), [], 0⟩ <| Sq ?_
   rcases tf_ (decide (y13_2 < ((List.length p0 : Nat) : Int))) with hc14_5 | hc14_5
   ·
    replace hm := cT hc14_5 hm
    refine AiT hc14_5 <| Sk <| Tk 12291 0 ⟨.l enc_GChange p0::.l enc_GChange p1::tp 10 (.i ((List.length p0 : Nat) : Int)::.i y13_2::tp 12 []), [], 0⟩ <| Sq <| Bk <| Sx <| Wm (.i y13_2) rfl <| Wm (.i y13_2) rfl <| Nk 12323 0 ⟨.l enc_GChange p0::.l enc_GChange p1::tp 3 (.i y13_2::tp 6 (.i ((List.length p0 : Nat) : Int)::.i y13_2::tp 12 [])), [], 0⟩ <| Sq <| Adr <| Wm (.l enc_GChange p0) rfl <| Wm (.i y13_2) rfl ?_
    obtain ⟨x18_3, hx18_3, hm⟩ := bnd hm
    obtain ⟨hx18_3i, hx18_3g⟩ := geti_some hx18_3
    refine Wz (.d (.ref (List.drop ((Int.toNat y13_2) * 3) (flatD enc_GChange p0)))) (Oia rfl enc_GChange_len hx18_3i hx18_3g) <| Wz (.agg [(.i x18_3.Loc), (.i x18_3.Time), (.i x18_3.N)]) (Lf rfl enc_GChange_len hx18_3g) <| Wm (.l enc_GChange p1) rfl <| Wm (.i y13_2) rfl ?_
    obtain ⟨x22_3, hx22_3, hm⟩ := bnd hm
    obtain ⟨hx22_3i, hx22_3g⟩ := geti_some hx22_3
    refine Wz (.d (.ref (List.drop ((Int.toNat y13_2) * 3) (flatD enc_GChange p1)))) (Oia rfl enc_GChange_len hx22_3i hx22_3g) <| Wz (.agg [(.i x22_3.Loc), (.i x22_3.Time), (.i x22_3.N)]) (Lf rfl enc_GChange_len hx22_3g) ?_
    obtain ⟨v24_3, hv24_3, hm⟩ := bnd hm; replace hv24_3 := Option.some.inj hv24_3
    refine Wz (.b v24_3) (Ocs (Eq.trans (by kernel_rfl) (congrArg (fun z => A.d (.lit (.bool z))) hv24_3)) (op_neq_struct rfl (la := [(.i x18_3.Loc), (.i x18_3.Time), (.i x18_3.N)]) (lb := [(.i x22_3.Loc), (.i x22_3.Time), (.i x22_3.N)]) (us := [.int .i64 x18_3.Loc, .int .i64 x18_3.Time, .int .i64 x18_3.N]) (vs := [.int .i64 x22_3.Loc, .int .i64 x22_3.Time, .int .i64 x22_3.N]) (r := (decide (x18_3.Loc = x22_3.Loc) && (decide (x18_3.Time = x22_3.Time) && (decide (x18_3.N = x22_3.N) && true)))) (by kernel_rfl) (by kernel_rfl) (by kernel_rfl) (by kernel_rfl) (by kernel_rfl))) <| Wdr <| Tk 16789507 0 ⟨.l enc_GChange p0::.l enc_GChange p1::tp 10 (.i ((List.length p0 : Nat) : Int)::.i y13_2::tp 10 (.b v24_3::tp 1 [])), [], 0⟩ ?_
    rcases tf_ v24_3 with hc24_6 | hc24_6
    ·
     replace hm := cT hc24_6 hm
     refine AiT hc24_6 <| Sx <| Wm (.b false) rfl <| Nn <| Rt <| Ir <| Tr <| RoundK.ret <| Ir <| Tr ?_
     obtain rfl := Option.some.inj hm
     exact ret_i []
    ·
     replace hm := cF hc24_6 hm
     refine AiF hc24_6 <| Sk <| Ino <| Tk 12291 0 ⟨.l enc_GChange p0::.l enc_GChange p1::tp 10 (.i ((List.length p0 : Nat) : Int)::.i y13_2::tp 12 []), [], 0⟩ <| Tx <| Wz (.i (W6 (y13_2 + 1))) (Obn rfl (fun _ => hb_add (k := .i64))) <| Wm (.i (W6 (y13_2 + 1))) rfl <| Wn0 <| RoundK.normal ?_
     exact Rounds.weak (Weak.toK 12291 0 0 []) (ih_2 (fu_2, (W6 (y13_2 + 1))) hm (Nat.lt_succ_self _))
   ·
    replace hm := cF hc14_5 hm
    refine AiF hc14_5 <| AWP.exit <| Then.exit <| RoundK.exit <| InBlock.same <| Tk 0 0 ⟨tp 26 [], [], 0⟩ <| Sx <| Wm (.b true) rfl <| Nn <| Rt ?_
    obtain rfl := Option.some.inj hm
    exact ret_i []

theorem ok_tally_Same (p0 : (List GChange)) (p1 : (List GChange)) (r : Bool) (h : m_tally_Same p0 p1 = some r) : GCall Try.prog 32 [(.l enc_GChange p0), (.l enc_GChange p1)] [] (.b r) [] := by
 refine GCall.of_body (n := 8) (rs := [(.tmp 4)]) Try.func32 rfl rfl rfl <| Ato ⟨.l enc_GChange p0::.l enc_GChange p1::tu 6 [], [], 0⟩ ?_
 have hm := h
 unfold m_tally_Same at hm
 refine Sx <| Wm (.b false) rfl <| Nk 3 0 ⟨.l enc_GChange p0::.l enc_GChange p1::tp 6 [], [], 0⟩ <| Sx <| Wm (.l enc_GChange p0) rfl <| Wm (.l enc_GChange p1) rfl ?_
 obtain ⟨r7_0, hr7_0, hm⟩ := bnd hm
 refine Wz (.b r7_0) (Ocf [] [] [] 0 (ok_slices_Equal_Change p0 p1 r7_0 hr7_0) (fun a w => Try.call57 a w) rfl trivial) <| Wm (.b r7_0) rfl <| Nn <| Rt ?_
 obtain rfl := Option.some.inj hm
 exact ret_i []

theorem ok_slices_EqualFunc_tally_Change_tally_Change_tally_Change_tally_Change__tally_Same (p0 : (List (List GChange))) (p1 : (List (List GChange))) (r : Bool) (h : m_slices_EqualFunc_tally_Change_tally_Change_tally_Change_tally_Change__tally_Same p0 p1 = some r) : GCall Try.prog 73 [(.l (encL enc_GChange) p0), (.l (encL enc_GChange) p1), (.clo (.func 32) [] [])] [] (.b r) [] := by
 refine GCall.of_body (n := 32) (rs := [(.tmp 6)]) Try.func73 rfl rfl rfl <| Ato ⟨.l (encL enc_GChange) p0::.l (encL enc_GChange) p1::.clo (.func 32) [] []::tu 29 [], [], 0⟩ ?_
 have hm := h
 unfold m_slices_EqualFunc_tally_Change_tally_Change_tally_Change_tally_Change__tally_Same at hm
 refine Sx <| Wm (.b false) rfl <| Nk 7 0 ⟨.l (encL enc_GChange) p0::.l (encL enc_GChange) p1::.clo (.func 32) [] []::tp 29 [], [], 0⟩ <| Sq <| Sx <| Wm (.l (encL enc_GChange) p0) rfl <| Wz (.i ((List.length p0 : Nat) : Int)) (Oln rfl) <| Wm (.l (encL enc_GChange) p1) rfl <| Wz (.i ((List.length p1 : Nat) : Int)) (Oln rfl) <| Wz (.b (decide (((List.length p0 : Nat) : Int) ≠ ((List.length p1 : Nat) : Int)))) (Obn rfl (fun _ => hb_neq (k := .i64))) <| Nk 16391 0 ⟨.l (encL enc_GChange) p0::.l (encL enc_GChange) p1::.clo (.func 32) [] []::tp 11 (.b (decide (((List.length p0 : Nat) : Int) ≠ ((List.length p1 : Nat) : Int)))::tp 17 []), [], 0⟩ ?_
 rcases tf_ (decide (((List.length p0 : Nat) : Int) ≠ ((List.length p1 : Nat) : Int))) with hc14_6 | hc14_6
 ·
  replace hm := cT hc14_6 hm
  refine AiT hc14_6 <| Sx <| Wm (.b false) rfl <| Nn <| Rt <| Tr ?_
  obtain rfl := Option.some.inj hm
  exact ret_i []
 ·
  replace hm := cF hc14_6 hm
  refine AiF hc14_6 <| Sk <| Tk 7 0 ⟨.l (encL enc_GChange) p0::.l (encL enc_GChange) p1::.clo (.func 32) [] []::tp 29 [], [], 0⟩ <| Sq <| Sx <| Wm (.l (encL enc_GChange) p0) rfl <| Wz (.i ((List.length p0 : Nat) : Int)) (Oln rfl) <| Wm (.i 0) rfl <| Nk 229382 0 ⟨tp 1 (.l (encL enc_GChange) p1::.clo (.func 32) [] []::tp 12 (.l (encL enc_GChange) p0::.i ((List.length p0 : Nat) : Int)::.i 0::tp 14 [])), [], 0⟩ <| Bk ?_
  refine AWP.loopI (α := Nat × Int)
    (fun (fu_2, y17_2) => (⟨tp 1 (.l (encL enc_GChange) p1::.clo (.func 32) [] []::tp 12 (.l (encL enc_GChange) p0::.i ((List.length p0 : Nat) : Int)::.i y17_2::tp 14 [])), [], 0⟩ : St))
    (fun (fu_2, y17_2) => m_slices_EqualFunc_tally_Change_tally_Change_tally_Change_tally_Change__tally_Same_l2 p0 p1 fu_2 y17_2 = some r)
    (fun (fu_2, y17_2) => fu_2) (1152921504606846976, 0)
    (Weak.toK 229382 0 0 []) hm ?_
  rintro ⟨fu_2, y17_2⟩ n_2 hm ih_2
  try dsimp only at hm ih_2 ⊢
  cases fu_2 with
  | zero => exact absurd hm (by unfold m_slices_EqualFunc_tally_Change_tally_Change_tally_Change_tally_Change__tally_Same_l2; simp)
  | succ fu_2 =>
   unfold m_slices_EqualFunc_tally_Change_tally_Change_tally_Change_tally_Change__tally_Same_l2 at hm
   refine Sx <| Wz (.b (decide (y17_2 < ((List.length p0 : Nat) : Int)))) (Obn rfl (fun _ => hb_lss (k := .i64))) <| Nk 491526 0 ⟨tp 1 (.l (encL enc_GChange) p1::.clo (.func 32) [] []::tp 12 (.l (encL enc_GChange) p0::.i ((List.length p0 : Nat) : Int)::.i y17_2::.b (decide (y17_2 < ((List.length p0 : Nat) : Int)))::tp 13 [])), [], 0⟩ <| Sq ?_
   rcases tf_ (decide (y17_2 < ((List.length p0 : Nat) : Int))) with hc18_7 | hc18_7
   ·
    replace hm := cT hc18_7 hm
    refine AiT hc18_7 <| Sk <| Tk 229382 0 ⟨tp 1 (.l (encL enc_GChange) p1::.clo (.func 32) [] []::tp 12 (.l (encL enc_GChange) p0::.i ((List.length p0 : Nat) : Int)::.i y17_2::tp 14 [])), [], 0⟩ <| Sq <| Bk <| Sx <| Wm (.i y17_2) rfl ?_
    obtain ⟨x20_3, hx20_3, hm⟩ := bnd hm
    obtain ⟨hx20_3i, hx20_3g⟩ := geti_some hx20_3
    refine Wz (.d (.ref (List.drop ((Int.toNat y17_2) * 1) (flatD (encL enc_GChange) p0)))) (Oia rfl (encL_len (enc := enc_GChange)) hx20_3i hx20_3g) <| Wz (.l enc_GChange x20_3) (Lf1 rfl (encL_len (enc := enc_GChange)) hx20_3g) <| Wm (.i y17_2) rfl <| Wm (.l enc_GChange x20_3) rfl <| Nk 229766 0 ⟨tp 1 (.l (encL enc_GChange) p1::.clo (.func 32) [] []::tp 4 (.i y17_2::.l enc_GChange x20_3::tp 6 (.l (encL enc_GChange) p0::.i ((List.length p0 : Nat) : Int)::.i y17_2::tp 14 []))), [], 0⟩ <| Sx <| Wm (.l (encL enc_GChange) p1) rfl <| Wm (.i y17_2) rfl ?_
    obtain ⟨x24_4, hx24_4, hm⟩ := bnd hm
    obtain ⟨hx24_4i, hx24_4g⟩ := geti_some hx24_4
    refine Wz (.d (.ref (List.drop ((Int.toNat y17_2) * 1) (flatD (encL enc_GChange) p1)))) (Oia rfl (encL_len (enc := enc_GChange)) hx24_4i hx24_4g) <| Wz (.l enc_GChange x24_4) (Lf1 rfl (encL_len (enc := enc_GChange)) hx24_4g) <| Wm (.l enc_GChange x24_4) rfl <| Nk 230150 0 ⟨tp 1 (.l (encL enc_GChange) p1::.clo (.func 32) [] []::tp 5 (.l enc_GChange x20_3::.l enc_GChange x24_4::tp 5 (.l (encL enc_GChange) p0::.i ((List.length p0 : Nat) : Int)::.i y17_2::tp 14 []))), [], 0⟩ <| Sx <| Wm (.clo (.func 32) [] []) rfl <| Wm (.l enc_GChange x20_3) rfl <| Wm (.l enc_GChange x24_4) rfl ?_
    obtain ⟨r29_5, hr29_5, hm⟩ := bnd hm
    refine Wz (.b r29_5) (Ocf [] [] [] 0 (ok_tally_Same x20_3 x24_4 r29_5 hr29_5) (fun a w => Try.call32 a w) rfl trivial) <| Wz (.b (!r29_5)) (Ocs (by kernel_rfl) (op_un rfl (a1 := .bool r29_5) (by kernel_rfl) (fun _ => hu_not))) <| Nk 1073971206 0 ⟨tp 1 (.l (encL enc_GChange) p1::.clo (.func 32) [] []::tp 12 (.l (encL enc_GChange) p0::.i ((List.length p0 : Nat) : Int)::.i y17_2::tp 12 (.b (!r29_5)::tp 1 []))), [], 0⟩ ?_
    rcases tf_ (!r29_5) with hc30_8 | hc30_8
    ·
     replace hm := cT hc30_8 hm
     refine AiT hc30_8 <| Sx <| Wm (.b false) rfl <| Nn <| Rt <| Ir <| Tr <| RoundK.ret <| Ir <| Tr ?_
     obtain rfl := Option.some.inj hm
     exact ret_i []
    ·
     replace hm := cF hc30_8 hm
     refine AiF hc30_8 <| Sk <| Ino <| Tk 229382 0 ⟨tp 1 (.l (encL enc_GChange) p1::.clo (.func 32) [] []::tp 12 (.l (encL enc_GChange) p0::.i ((List.length p0 : Nat) : Int)::.i y17_2::tp 14 [])), [], 0⟩ <| Tx <| Wz (.i (W6 (y17_2 + 1))) (Obn rfl (fun _ => hb_add (k := .i64))) <| Wm (.i (W6 (y17_2 + 1))) rfl <| Wn0 <| RoundK.normal ?_
     exact Rounds.weak (Weak.toK 229382 0 0 []) (ih_2 (fu_2, (W6 (y17_2 + 1))) hm (Nat.lt_succ_self _))
   ·
    replace hm := cF hc18_7 hm
    refine AiF hc18_7 <| AWP.exit <| Then.exit <| RoundK.exit <| InBlock.same <| Tk 0 0 ⟨tp 32 [], [], 0⟩ <| Sx <| Wm (.b true) rfl <| Nn <| Rt ?_
    obtain rfl := Option.some.inj hm
    exact ret_i []

theorem ok_view_sameLists (p0 : (List (List GChange))) (p1 : (List (List GChange))) (r : Bool) (h : m_view_sameLists p0 p1 = some r) : GCall Try.prog 51 [(.l (encL enc_GChange) p0), (.l (encL enc_GChange) p1)] [] (.b r) [] := by
 refine GCall.of_body (n := 8) (rs := [(.tmp 4)]) Try.func51 rfl rfl rfl <| Ato ⟨.l (encL enc_GChange) p0::.l (encL enc_GChange) p1::tu 6 [], [], 0⟩ ?_
 have hm := h
 unfold m_view_sameLists at hm
 refine Sx <| Wm (.b false) rfl <| Nk 3 0 ⟨.l (encL enc_GChange) p0::.l (encL enc_GChange) p1::tp 6 [], [], 0⟩ <| Sx <| Wm (.l (encL enc_GChange) p0) rfl <| Wm (.l (encL enc_GChange) p1) rfl ?_
 obtain ⟨r7_0, hr7_0, hm⟩ := bnd hm
 refine Wz (.b r7_0) (Ocf [] [] [] 0 (ok_slices_EqualFunc_tally_Change_tally_Change_tally_Change_tally_Change__tally_Same p0 p1 r7_0 hr7_0) (fun a w => Try.call73 a w) rfl trivial) <| Wm (.b r7_0) rfl <| Nn <| Rt ?_
 obtain rfl := Option.some.inj hm
 exact ret_i []

theorem ok_maps_EqualFunc_map_2_int_tally_Change_map_2_int_tally_Change_2_int_tally_Change_tally_Change__view_sameLists (p0 : (Option (List (GArr2_Int × (List (List GChange)))))) (p1 : (Option (List (GArr2_Int × (List (List GChange)))))) (r : Bool) (h : m_maps_EqualFunc_map_2_int_tally_Change_map_2_int_tally_Change_2_int_tally_Change_tally_Change__view_sameLists p0 p1 = some r) : GCall Try.prog 52 [(.d (.mp (Option.isNone p0) (mks kv_22 (ml p0)) (mds (slD (encL enc_GChange)) (ml p0)))), (.d (.mp (Option.isNone p1) (mks kv_22 (ml p1)) (mds (slD (encL enc_GChange)) (ml p1)))), (.clo (.func 51) [] [])] [] (.b r) [] := by
  unfold m_maps_EqualFunc_map_2_int_tally_Change_map_2_int_tally_Change_2_int_tally_Change_tally_Change__view_sameLists at h
  exact call_meq keyOK_22 (fun k => ⟨_, _, rfl⟩) m_view_sameLists (fun x y r h => ok_view_sameLists x y r h) ([] : List (List GChange)) slD_zero _ _ _ _ r h

theorem ok_view_Same (p0 : GNet) (p1 : GNet) (r : Bool) (h : m_view_Same p0 p1 = some r) : GCall Try.prog 29 [(.agg [(.i p0.Cap), (.l (encL enc_GChange) p0.Views), (.l (encL enc_GChange) p0.Pending), (.d (.mp (Option.isNone p0.Links) (mks kv_22 (ml p0.Links)) (mds (slD (encL enc_GChange)) (ml p0.Links))))]), (.agg [(.i p1.Cap), (.l (encL enc_GChange) p1.Views), (.l (encL enc_GChange) p1.Pending), (.d (.mp (Option.isNone p1.Links) (mks kv_22 (ml p1.Links)) (mds (slD (encL enc_GChange)) (ml p1.Links))))])] [] (.b r) [] := by
 refine GCall.of_body (n := 31) (rs := [(.tmp 4)]) Try.func29 rfl rfl rfl <| Ato ⟨.agg [(.i p0.Cap), (.l (encL enc_GChange) p0.Views), (.l (encL enc_GChange) p0.Pending), (.d (.mp (Option.isNone p0.Links) (mks kv_22 (ml p0.Links)) (mds (slD (encL enc_GChange)) (ml p0.Links))))]::.agg [(.i p1.Cap), (.l (encL enc_GChange) p1.Views), (.l (encL enc_GChange) p1.Pending), (.d (.mp (Option.isNone p1.Links) (mks kv_22 (ml p1.Links)) (mds (slD (encL enc_GChange)) (ml p1.Links))))]::tu 29 [], [], 0⟩ ?_
 have hm := h
 unfold m_view_Same at hm
 refine Sx <| Wy (.loc 0 0) [(0, (.box [(.i p0.Cap), (.l (encL enc_GChange) p0.Views), (.l (encL enc_GChange) p0.Pending), (.d (.mp (Option.isNone p0.Links) (mks kv_22 (ml p0.Links)) (mds (slD (encL enc_GChange)) (ml p0.Links))))]))] (Obx rfl) <| Wy (.loc 1 0) [(1, (.box [(.i p1.Cap), (.l (encL enc_GChange) p1.Views), (.l (encL enc_GChange) p1.Pending), (.d (.mp (Option.isNone p1.Links) (mks kv_22 (ml p1.Links)) (mds (slD (encL enc_GChange)) (ml p1.Links))))]))] (Obx rfl) <| Wm (.b false) rfl <| Nk 12 3 ⟨tp 2 (.loc 0 0::.loc 1 0::tp 27 []), [(.box [(.i p0.Cap), (.l (encL enc_GChange) p0.Views), (.l (encL enc_GChange) p0.Pending), (.d (.mp (Option.isNone p0.Links) (mks kv_22 (ml p0.Links)) (mds (slD (encL enc_GChange)) (ml p0.Links))))]), (.box [(.i p1.Cap), (.l (encL enc_GChange) p1.Views), (.l (encL enc_GChange) p1.Pending), (.d (.mp (Option.isNone p1.Links) (mks kv_22 (ml p1.Links)) (mds (slD (encL enc_GChange)) (ml p1.Links))))])], 0⟩ <| Sx <| Wz (.loc 0 0) (Ofa rfl) <| Wz (.i p0.Cap) (Old rfl) <| Wz (.loc 1 0) (Ofa rfl) <| Wz (.i p1.Cap) (Old rfl) <| Wz (.b (decide (p0.Cap = p1.Cap))) (Obn rfl (fun _ => hb_eql (k := .i64))) ?_
 rcases tf_ (decide (p0.Cap = p1.Cap)) with hq10_0 | hq10_0
 ·
  replace hm := cT hq10_0 hm
  refine Wz (.b true) (Oq hq10_0 rfl) <| Wz (.loc 0 1) (Ofa rfl) <| Wz (.l (encL enc_GChange) p0.Views) (Old rfl) <| Wz (.loc 1 1) (Ofa rfl) <| Wz (.l (encL enc_GChange) p1.Views) (Old rfl) ?_
  obtain ⟨r15_0, hr15_0, hm⟩ := bnd hm
  refine Wz (.b r15_0) (Ocf [] [] [] 0 (ok_view_sameLists p0.Views p1.Views r15_0 hr15_0) (fun a w => Try.call51 a w) rfl trivial) <| Wz (.b r15_0) (OpT rfl) ?_
  rcases tf_ r15_0 with hq17_0 | hq17_0
  ·
   replace hm := cT hq17_0 hm
   refine Wz (.b true) (Oq hq17_0 rfl) <| Wz (.loc 0 2) (Ofa rfl) <| Wz (.l (encL enc_GChange) p0.Pending) (Old rfl) <| Wz (.loc 1 2) (Ofa rfl) <| Wz (.l (encL enc_GChange) p1.Pending) (Old rfl) ?_
   obtain ⟨r22_0, hr22_0, hm⟩ := bnd hm
   refine Wz (.b r22_0) (Ocf [] [] [] 0 (ok_view_sameLists p0.Pending p1.Pending r22_0 hr22_0) (fun a w => Try.call51 a w) rfl trivial) <| Wz (.b r22_0) (OpT rfl) ?_
   rcases tf_ r22_0 with hq24_0 | hq24_0
   ·
    replace hm := cT hq24_0 hm
    refine Wz (.b true) (Oq hq24_0 rfl) <| Wz (.loc 0 3) (Ofa rfl) <| Wz (.d (.mp (Option.isNone p0.Links) (mks kv_22 (ml p0.Links)) (mds (slD (encL enc_GChange)) (ml p0.Links)))) (Old rfl) <| Wz (.loc 1 3) (Ofa rfl) <| Wz (.d (.mp (Option.isNone p1.Links) (mks kv_22 (ml p1.Links)) (mds (slD (encL enc_GChange)) (ml p1.Links)))) (Old rfl) ?_
    obtain ⟨r29_0, hr29_0, hm⟩ := bnd hm
    refine Wz (.b r29_0) (Ocf [] [] [] 0 (ok_maps_EqualFunc_map_2_int_tally_Change_map_2_int_tally_Change_2_int_tally_Change_tally_Change__view_sameLists p0.Links p1.Links r29_0 hr29_0) (fun a w => Try.call52 a w) rfl trivial) <| Wz (.b r29_0) (OpT rfl) <| Wm (.b r29_0) rfl <| Nn <| Rt ?_
    obtain rfl := Option.some.inj hm
    exact ret_i []
   ·
    replace hm := cF hq24_0 hm
    refine Wz (.b false) (Oq hq24_0 rfl) <| Wn <| Wn <| Wn <| Wn <| Wn <| Wz (.b false) (OpF rfl) <| Wm (.b false) rfl <| Nn <| Rt ?_
    obtain rfl := Option.some.inj hm
    exact ret_i []
  ·
   replace hm := cF hq17_0 hm
   refine Wz (.b false) (Oq hq17_0 rfl) <| Wn <| Wn <| Wn <| Wn <| Wn <| Wz (.b false) (OpF rfl) <| Wm (.b false) rfl <| Wn <| Wn <| Wn <| Wn <| Wn <| Wz (.b false) (OpF rfl) ?_
   refine Wm (.b false) rfl <| Nn <| Rt ?_
   obtain rfl := Option.some.inj hm
   exact ret_i []
 ·
  replace hm := cF hq10_0 hm
  refine Wz (.b false) (Oq hq10_0 rfl) <| Wn <| Wn <| Wn <| Wn <| Wn <| Wz (.b false) (OpF rfl) <| Wm (.b false) rfl <| Wn <| Wn <| Wn <| Wn <| Wn <| Wz (.b false) (OpF rfl) ?_
  refine Wm (.b false) rfl <| Wn <| Wn <| Wn <| Wn <| Wn <| Wz (.b false) (OpF rfl) <| Wm (.b false) rfl <| Nn <| Rt ?_
  obtain rfl := Option.some.inj hm
  exact ret_i []

theorem ok_w29_awake (r : Bool) (h : m_w29_awake = some r) : GCall Try.prog 7 [] [] (.b r) [] := by
 refine GCall.of_body (n := 169) (rs := [(.tmp 0)]) Try.func7 rfl rfl rfl <| Ato ⟨tu 169 [], [], 0⟩ ?_
 have hm := h
 unfold m_w29_awake at hm
 refine Sx <| Wm (.b false) rfl <| Nk 0 0 ⟨tp 169 [], [], 0⟩ <| Sx <| Wz (.agg [(.i 0), (.i 3), (.i 2)]) (Obd rfl) <| Wy (.own 0) [(0, (Ar 84 3 enc_GChange ([(GChange.mk 0 3 2)] : List GChange)))] (Obs rfl) ?_
 obtain ⟨r24_0, hr24_0, hm⟩ := bnd hm
 refine Wy (.tup [(.agg [(.i r24_0.1.Cap), (.own 1), (.own 2), (.d (.mp (Option.isNone r24_0.1.Links) (mks kv_22 (ml r24_0.1.Links)) (mds (slD (encL enc_GChange)) (ml r24_0.1.Links))))]), (.i r24_0.2)]) [(1, (.arr 34 1 (List.length r24_0.1.Views) (flatD (encL enc_GChange) r24_0.1.Views))), (2, (.arr 34 1 (List.length r24_0.1.Pending) (flatD (encL enc_GChange) r24_0.1.Pending))), (0, (.fro 84 3 (List.length ([(GChange.mk 0 3 2)] : List GChange)) (flatD enc_GChange ([(GChange.mk 0 3 2)] : List GChange))))] (Ocf [] [1, 2] [0] 0 (ok_view_New 2 1 ([(GChange.mk 0 3 2)] : List GChange) r24_0 hr24_0) (fun a w => Try.call8 a w) rfl trivial) <| Wm (.tup [(.agg [(.i r24_0.1.Cap), (.own 1), (.own 2), (.d (.mp (Option.isNone r24_0.1.Links) (mks kv_22 (ml r24_0.1.Links)) (mds (slD (encL enc_GChange)) (ml r24_0.1.Links))))]), (.i r24_0.2)]) rfl <| Wz (.agg [(.i r24_0.1.Cap), (.own 1), (.own 2), (.d (.mp (Option.isNone r24_0.1.Links) (mks kv_22 (ml r24_0.1.Links)) (mds (slD (encL enc_GChange)) (ml r24_0.1.Links))))]) (Oex rfl) <| Wz (.i r24_0.2) (Oex rfl) <| Wy (.loc 3 0) [(3, (.box [(.i 0), (.d .nil), (.d .nil), (.d (.mp (Option.isNone (none : Option (List (GArr2_Int × (List (List GChange)))))) (mks kv_22 (ml (none : Option (List (GArr2_Int × (List (List GChange))))))) (mds (slD (encL enc_GChange)) (ml (none : Option (List (GArr2_Int × (List (List GChange)))))))))]))] (Oal rfl) <| Wy (.tup []) [(3, (.box [(.i r24_0.1.Cap), (.own 1), (.own 2), (.d (.mp (Option.isNone r24_0.1.Links) (mks kv_22 (ml r24_0.1.Links)) (mds (slD (encL enc_GChange)) (ml r24_0.1.Links))))]))] (Ost rfl) <| Wm (.i r24_0.2) rfl <| Nk 6 14 ⟨tp 1 (.loc 3 0::.i r24_0.2::tp 166 []), [.gone, (.arr 34 1 (List.length r24_0.1.Views) (flatD (encL enc_GChange) r24_0.1.Views)), (.arr 34 1 (List.length r24_0.1.Pending) (flatD (encL enc_GChange) r24_0.1.Pending)), (.box [(.i r24_0.1.Cap), (.own 1), (.own 2), (.d (.mp (Option.isNone r24_0.1.Links) (mks kv_22 (ml r24_0.1.Links)) (mds (slD (encL enc_GChange)) (ml r24_0.1.Links))))])], 0⟩ <| Sx ?_
 obtain ⟨r28_1, hr28_1, hm⟩ := bnd hm
 refine Wy (.tup [(.agg [(.i r28_1.1.Cap), (.own 4), (.own 5), (.d (.mp (Option.isNone r28_1.1.Links) (mks kv_22 (ml r28_1.1.Links)) (mds (slD (encL enc_GChange)) (ml r28_1.1.Links))))]), (.i r28_1.2)]) [(4, (.arr 34 1 (List.length r28_1.1.Views) (flatD (encL enc_GChange) r28_1.1.Views))), (5, (.arr 34 1 (List.length r28_1.1.Pending) (flatD (encL enc_GChange) r28_1.1.Pending)))] (Ocf [] [4, 5] [] 0 (ok_view_New 0 1 ([] : List GChange) r28_1 hr28_1) (fun a w => Try.call8 a w) rfl trivial) <| Wm (.tup [(.agg [(.i r28_1.1.Cap), (.own 4), (.own 5), (.d (.mp (Option.isNone r28_1.1.Links) (mks kv_22 (ml r28_1.1.Links)) (mds (slD (encL enc_GChange)) (ml r28_1.1.Links))))]), (.i r28_1.2)]) rfl <| Wz (.agg [(.i r28_1.1.Cap), (.own 4), (.own 5), (.d (.mp (Option.isNone r28_1.1.Links) (mks kv_22 (ml r28_1.1.Links)) (mds (slD (encL enc_GChange)) (ml r28_1.1.Links))))]) (Oex rfl) <| Wz (.i r28_1.2) (Oex rfl) <| Wy (.loc 6 0) [(6, (.box [(.i 0), (.d .nil), (.d .nil), (.d (.mp (Option.isNone (none : Option (List (GArr2_Int × (List (List GChange)))))) (mks kv_22 (ml (none : Option (List (GArr2_Int × (List (List GChange))))))) (mds (slD (encL enc_GChange)) (ml (none : Option (List (GArr2_Int × (List (List GChange)))))))))]))] (Oal rfl) <| Wy (.tup []) [(6, (.box [(.i r28_1.1.Cap), (.own 4), (.own 5), (.d (.mp (Option.isNone r28_1.1.Links) (mks kv_22 (ml r28_1.1.Links)) (mds (slD (encL enc_GChange)) (ml r28_1.1.Links))))]))] (Ost rfl) <| Wm (.i r28_1.2) rfl <| Nk 22 14 ⟨tp 1 (.loc 3 0::.i r24_0.2::tp 1 (.i r28_1.2::tp 164 [])), [.gone, (.arr 34 1 (List.length r24_0.1.Views) (flatD (encL enc_GChange) r24_0.1.Views)), (.arr 34 1 (List.length r24_0.1.Pending) (flatD (encL enc_GChange) r24_0.1.Pending)), (.box [(.i r24_0.1.Cap), (.own 1), (.own 2), (.d (.mp (Option.isNone r24_0.1.Links) (mks kv_22 (ml r24_0.1.Links)) (mds (slD (encL enc_GChange)) (ml r24_0.1.Links))))]), .gone, .gone, .gone], 0⟩ <| Sx <| Wz (.agg [(.i r24_0.1.Cap), (.own 1), (.own 2), (.d (.mp (Option.isNone r24_0.1.Links) (mks kv_22 (ml r24_0.1.Links)) (mds (slD (encL enc_GChange)) (ml r24_0.1.Links))))]) (Old rfl) <| Wz (.agg [(.i 0), (.i 3), (.i (-2))]) (Obd rfl) <| Wy (.own 7) [(7, (Ar 84 3 enc_GChange ([(GChange.mk 0 3 (-2))] : List GChange)))] (Obs rfl) ?_
 obtain ⟨r35_2, hr35_2, hm⟩ := bnd hm
 refine Wy (.tup [(.agg [(.i r35_2.1.Cap), (.l (encL enc_GChange) r35_2.1.Views), (.l (encL enc_GChange) r35_2.1.Pending), (.d (.mp (Option.isNone r35_2.1.Links) (mks kv_22 (ml r35_2.1.Links)) (mds (slD (encL enc_GChange)) (ml r35_2.1.Links))))]), (.i r35_2.2)]) [(1, (.fro 34 1 (List.length r24_0.1.Views) (flatD (encL enc_GChange) r24_0.1.Views))), (2, (.fro 34 1 (List.length r24_0.1.Pending) (flatD (encL enc_GChange) r24_0.1.Pending))), (7, (.fro 84 3 (List.length ([(GChange.mk 0 3 (-2))] : List GChange)) (flatD enc_GChange ([(GChange.mk 0 3 (-2))] : List GChange))))] (Ocf [] [] [1, 2, 7] 0 (ok_view_Net_Note r24_0.1 0 ([(GChange.mk 0 3 (-2))] : List GChange) r35_2 hr35_2) (fun a w => Try.call11 a w) rfl trivial) <| Wm (.tup [(.agg [(.i r35_2.1.Cap), (.l (encL enc_GChange) r35_2.1.Views), (.l (encL enc_GChange) r35_2.1.Pending), (.d (.mp (Option.isNone r35_2.1.Links) (mks kv_22 (ml r35_2.1.Links)) (mds (slD (encL enc_GChange)) (ml r35_2.1.Links))))]), (.i r35_2.2)]) rfl <| Wz (.agg [(.i r35_2.1.Cap), (.l (encL enc_GChange) r35_2.1.Views), (.l (encL enc_GChange) r35_2.1.Pending), (.d (.mp (Option.isNone r35_2.1.Links) (mks kv_22 (ml r35_2.1.Links)) (mds (slD (encL enc_GChange)) (ml r35_2.1.Links))))]) (Oex rfl) <| Wz (.i r35_2.2) (Oex rfl) <| Wy (.loc 8 0) [(8, (.box [(.i 0), (.d .nil), (.d .nil), (.d (.mp (Option.isNone (none : Option (List (GArr2_Int × (List (List GChange)))))) (mks kv_22 (ml (none : Option (List (GArr2_Int × (List (List GChange))))))) (mds (slD (encL enc_GChange)) (ml (none : Option (List (GArr2_Int × (List (List GChange)))))))))]))] (Oal rfl) <| Wy (.tup []) [(8, (.box [(.i r35_2.1.Cap), (.l (encL enc_GChange) r35_2.1.Views), (.l (encL enc_GChange) r35_2.1.Pending), (.d (.mp (Option.isNone r35_2.1.Links) (mks kv_22 (ml r35_2.1.Links)) (mds (slD (encL enc_GChange)) (ml r35_2.1.Links))))]))] (Ost rfl) <| Wm (.i r35_2.2) rfl <| Nk 118 270 ⟨tp 1 (.loc 3 0::.i r24_0.2::tp 1 (.i r28_1.2::.loc 8 0::.i r35_2.2::tp 162 [])), [.gone, (.fro 34 1 (List.length r24_0.1.Views) (flatD (encL enc_GChange) r24_0.1.Views)), (.fro 34 1 (List.length r24_0.1.Pending) (flatD (encL enc_GChange) r24_0.1.Pending)), (.box [(.i r24_0.1.Cap), (.own 1), (.own 2), (.d (.mp (Option.isNone r24_0.1.Links) (mks kv_22 (ml r24_0.1.Links)) (mds (slD (encL enc_GChange)) (ml r24_0.1.Links))))]), .gone, .gone, .gone, .gone, (.box [(.i r35_2.1.Cap), (.l (encL enc_GChange) r35_2.1.Views), (.l (encL enc_GChange) r35_2.1.Pending), (.d (.mp (Option.isNone r35_2.1.Links) (mks kv_22 (ml r35_2.1.Links)) (mds (slD (encL enc_GChange)) (ml r35_2.1.Links))))])], 0⟩ <| Sx <| Wz (.agg [(.i r35_2.1.Cap), (.l (encL enc_GChange) r35_2.1.Views), (.l (encL enc_GChange) r35_2.1.Pending), (.d (.mp (Option.isNone r35_2.1.Links) (mks kv_22 (ml r35_2.1.Links)) (mds (slD (encL enc_GChange)) (ml r35_2.1.Links))))]) (Old rfl) ?_
 obtain ⟨r40_3, hr40_3, hm⟩ := bnd hm
 refine Wz (.tup [(.agg [(.i r40_3.1.Cap), (.l (encL enc_GChange) r40_3.1.Views), (.l (encL enc_GChange) r40_3.1.Pending), (.d (.mp (Option.isNone r40_3.1.Links) (mks kv_22 (ml r40_3.1.Links)) (mds (slD (encL enc_GChange)) (ml r40_3.1.Links))))]), (.i r40_3.2)]) (Ocf [] [] [] 0 (ok_view_Net_Flush r35_2.1 0 r40_3 hr40_3) (fun a w => Try.call13 a w) rfl trivial) <| Wm (.tup [(.agg [(.i r40_3.1.Cap), (.l (encL enc_GChange) r40_3.1.Views), (.l (encL enc_GChange) r40_3.1.Pending), (.d (.mp (Option.isNone r40_3.1.Links) (mks kv_22 (ml r40_3.1.Links)) (mds (slD (encL enc_GChange)) (ml r40_3.1.Links))))]), (.i r40_3.2)]) rfl <| Wz (.agg [(.i r40_3.1.Cap), (.l (encL enc_GChange) r40_3.1.Views), (.l (encL enc_GChange) r40_3.1.Pending), (.d (.mp (Option.isNone r40_3.1.Links) (mks kv_22 (ml r40_3.1.Links)) (mds (slD (encL enc_GChange)) (ml r40_3.1.Links))))]) (Oex rfl) <| Wz (.i r40_3.2) (Oex rfl) <| Wy (.loc 9 0) [(9, (.box [(.i 0), (.d .nil), (.d .nil), (.d (.mp (Option.isNone (none : Option (List (GArr2_Int × (List (List GChange)))))) (mks kv_22 (ml (none : Option (List (GArr2_Int × (List (List GChange))))))) (mds (slD (encL enc_GChange)) (ml (none : Option (List (GArr2_Int × (List (List GChange)))))))))]))] (Oal rfl) <| Wy (.tup []) [(9, (.box [(.i r40_3.1.Cap), (.l (encL enc_GChange) r40_3.1.Views), (.l (encL enc_GChange) r40_3.1.Pending), (.d (.mp (Option.isNone r40_3.1.Links) (mks kv_22 (ml r40_3.1.Links)) (mds (slD (encL enc_GChange)) (ml r40_3.1.Links))))]))] (Ost rfl) <| Wm (.i r40_3.2) rfl <| Nk 502 782 ⟨tp 1 (.loc 3 0::.i r24_0.2::tp 1 (.i r28_1.2::.loc 8 0::.i r35_2.2::.loc 9 0::.i r40_3.2::tp 160 [])), [.gone, (.fro 34 1 (List.length r24_0.1.Views) (flatD (encL enc_GChange) r24_0.1.Views)), (.fro 34 1 (List.length r24_0.1.Pending) (flatD (encL enc_GChange) r24_0.1.Pending)), (.box [(.i r24_0.1.Cap), (.own 1), (.own 2), (.d (.mp (Option.isNone r24_0.1.Links) (mks kv_22 (ml r24_0.1.Links)) (mds (slD (encL enc_GChange)) (ml r24_0.1.Links))))]), .gone, .gone, .gone, .gone, (.box [(.i r35_2.1.Cap), (.l (encL enc_GChange) r35_2.1.Views), (.l (encL enc_GChange) r35_2.1.Pending), (.d (.mp (Option.isNone r35_2.1.Links) (mks kv_22 (ml r35_2.1.Links)) (mds (slD (encL enc_GChange)) (ml r35_2.1.Links))))]), (.box [(.i r40_3.1.Cap), (.l (encL enc_GChange) r40_3.1.Views), (.l (encL enc_GChange) r40_3.1.Pending), (.d (.mp (Option.isNone r40_3.1.Links) (mks kv_22 (ml r40_3.1.Links)) (mds (slD (encL enc_GChange)) (ml r40_3.1.Links))))])], 0⟩ <| Sx <| Wz (.agg [(.i r40_3.1.Cap), (.l (encL enc_GChange) r40_3.1.Views), (.l (encL enc_GChange) r40_3.1.Pending), (.d (.mp (Option.isNone r40_3.1.Links) (mks kv_22 (ml r40_3.1.Links)) (mds (slD (encL enc_GChange)) (ml r40_3.1.Links))))]) (Old rfl) ?_
 obtain ⟨r45_4, hr45_4, hm⟩ := bnd hm
 refine Wz (.tup [(.agg [(.i r45_4.1.Cap), (.l (encL enc_GChange) r45_4.1.Views), (.l (encL enc_GChange) r45_4.1.Pending), (.d (.mp (Option.isNone r45_4.1.Links) (mks kv_22 (ml r45_4.1.Links)) (mds (slD (encL enc_GChange)) (ml r45_4.1.Links))))]), (.i r45_4.2)]) (Ocf [] [] [] 0 (ok_view_Net_Flush r40_3.1 0 r45_4 hr45_4) (fun a w => Try.call13 a w) rfl trivial) <| Wm (.tup [(.agg [(.i r45_4.1.Cap), (.l (encL enc_GChange) r45_4.1.Views), (.l (encL enc_GChange) r45_4.1.Pending), (.d (.mp (Option.isNone r45_4.1.Links) (mks kv_22 (ml r45_4.1.Links)) (mds (slD (encL enc_GChange)) (ml r45_4.1.Links))))]), (.i r45_4.2)]) rfl <| Wz (.agg [(.i r45_4.1.Cap), (.l (encL enc_GChange) r45_4.1.Views), (.l (encL enc_GChange) r45_4.1.Pending), (.d (.mp (Option.isNone r45_4.1.Links) (mks kv_22 (ml r45_4.1.Links)) (mds (slD (encL enc_GChange)) (ml r45_4.1.Links))))]) (Oex rfl) <| Wz (.i r45_4.2) (Oex rfl) <| Wy (.loc 10 0) [(10, (.box [(.i 0), (.d .nil), (.d .nil), (.d (.mp (Option.isNone (none : Option (List (GArr2_Int × (List (List GChange)))))) (mks kv_22 (ml (none : Option (List (GArr2_Int × (List (List GChange))))))) (mds (slD (encL enc_GChange)) (ml (none : Option (List (GArr2_Int × (List (List GChange)))))))))]))] (Oal rfl) <| Wy (.tup []) [(10, (.box [(.i r45_4.1.Cap), (.l (encL enc_GChange) r45_4.1.Views), (.l (encL enc_GChange) r45_4.1.Pending), (.d (.mp (Option.isNone r45_4.1.Links) (mks kv_22 (ml r45_4.1.Links)) (mds (slD (encL enc_GChange)) (ml r45_4.1.Links))))]))] (Ost rfl) <| Wm (.i r45_4.2) rfl <| Nk 1526 782 ⟨tp 1 (.loc 3 0::.i r24_0.2::tp 1 (.i r28_1.2::.loc 8 0::.i r35_2.2::.loc 9 0::.i r40_3.2::tp 1 (.i r45_4.2::tp 158 []))), [.gone, (.fro 34 1 (List.length r24_0.1.Views) (flatD (encL enc_GChange) r24_0.1.Views)), (.fro 34 1 (List.length r24_0.1.Pending) (flatD (encL enc_GChange) r24_0.1.Pending)), (.box [(.i r24_0.1.Cap), (.own 1), (.own 2), (.d (.mp (Option.isNone r24_0.1.Links) (mks kv_22 (ml r24_0.1.Links)) (mds (slD (encL enc_GChange)) (ml r24_0.1.Links))))]), .gone, .gone, .gone, .gone, (.box [(.i r35_2.1.Cap), (.l (encL enc_GChange) r35_2.1.Views), (.l (encL enc_GChange) r35_2.1.Pending), (.d (.mp (Option.isNone r35_2.1.Links) (mks kv_22 (ml r35_2.1.Links)) (mds (slD (encL enc_GChange)) (ml r35_2.1.Links))))]), (.box [(.i r40_3.1.Cap), (.l (encL enc_GChange) r40_3.1.Views), (.l (encL enc_GChange) r40_3.1.Pending), (.d (.mp (Option.isNone r40_3.1.Links) (mks kv_22 (ml r40_3.1.Links)) (mds (slD (encL enc_GChange)) (ml r40_3.1.Links))))]), .gone], 0⟩ <| Sx <| Wz (.agg [(.i r40_3.1.Cap), (.l (encL enc_GChange) r40_3.1.Views), (.l (encL enc_GChange) r40_3.1.Pending), (.d (.mp (Option.isNone r40_3.1.Links) (mks kv_22 (ml r40_3.1.Links)) (mds (slD (encL enc_GChange)) (ml r40_3.1.Links))))]) (Old rfl) ?_
 obtain ⟨r50_5, hr50_5, hm⟩ := bnd hm
 refine Wz (.tup [(.agg [(.i r50_5.1.Cap), (.l (encL enc_GChange) r50_5.1.Views), (.l (encL enc_GChange) r50_5.1.Pending), (.d (.mp (Option.isNone r50_5.1.Links) (mks kv_22 (ml r50_5.1.Links)) (mds (slD (encL enc_GChange)) (ml r50_5.1.Links))))]), (.i r50_5.2)]) (Ocf [] [] [] 0 (ok_view_Net_Deliver r40_3.1 0 1 r50_5 hr50_5) (fun a w => Try.call15 a w) rfl trivial) <| Wm (.tup [(.agg [(.i r50_5.1.Cap), (.l (encL enc_GChange) r50_5.1.Views), (.l (encL enc_GChange) r50_5.1.Pending), (.d (.mp (Option.isNone r50_5.1.Links) (mks kv_22 (ml r50_5.1.Links)) (mds (slD (encL enc_GChange)) (ml r50_5.1.Links))))]), (.i r50_5.2)]) rfl <| Wz (.agg [(.i r50_5.1.Cap), (.l (encL enc_GChange) r50_5.1.Views), (.l (encL enc_GChange) r50_5.1.Pending), (.d (.mp (Option.isNone r50_5.1.Links) (mks kv_22 (ml r50_5.1.Links)) (mds (slD (encL enc_GChange)) (ml r50_5.1.Links))))]) (Oex rfl) <| Wz (.i r50_5.2) (Oex rfl) <| Wy (.loc 11 0) [(11, (.box [(.i 0), (.d .nil), (.d .nil), (.d (.mp (Option.isNone (none : Option (List (GArr2_Int × (List (List GChange)))))) (mks kv_22 (ml (none : Option (List (GArr2_Int × (List (List GChange))))))) (mds (slD (encL enc_GChange)) (ml (none : Option (List (GArr2_Int × (List (List GChange)))))))))]))] (Oal rfl) <| Wy (.tup []) [(11, (.box [(.i r50_5.1.Cap), (.l (encL enc_GChange) r50_5.1.Views), (.l (encL enc_GChange) r50_5.1.Pending), (.d (.mp (Option.isNone r50_5.1.Links) (mks kv_22 (ml r50_5.1.Links)) (mds (slD (encL enc_GChange)) (ml r50_5.1.Links))))]))] (Ost rfl) <| Wm (.i r50_5.2) rfl <| Nk 7670 2830 ⟨tp 1 (.loc 3 0::.i r24_0.2::tp 1 (.i r28_1.2::.loc 8 0::.i r35_2.2::.loc 9 0::.i r40_3.2::tp 1 (.i r45_4.2::.loc 11 0::.i r50_5.2::tp 156 []))), [.gone, (.fro 34 1 (List.length r24_0.1.Views) (flatD (encL enc_GChange) r24_0.1.Views)), (.fro 34 1 (List.length r24_0.1.Pending) (flatD (encL enc_GChange) r24_0.1.Pending)), (.box [(.i r24_0.1.Cap), (.own 1), (.own 2), (.d (.mp (Option.isNone r24_0.1.Links) (mks kv_22 (ml r24_0.1.Links)) (mds (slD (encL enc_GChange)) (ml r24_0.1.Links))))]), .gone, .gone, .gone, .gone, (.box [(.i r35_2.1.Cap), (.l (encL enc_GChange) r35_2.1.Views), (.l (encL enc_GChange) r35_2.1.Pending), (.d (.mp (Option.isNone r35_2.1.Links) (mks kv_22 (ml r35_2.1.Links)) (mds (slD (encL enc_GChange)) (ml r35_2.1.Links))))]), (.box [(.i r40_3.1.Cap), (.l (encL enc_GChange) r40_3.1.Views), (.l (encL enc_GChange) r40_3.1.Pending), (.d (.mp (Option.isNone r40_3.1.Links) (mks kv_22 (ml r40_3.1.Links)) (mds (slD (encL enc_GChange)) (ml r40_3.1.Links))))]), .gone, (.box [(.i r50_5.1.Cap), (.l (encL enc_GChange) r50_5.1.Views), (.l (encL enc_GChange) r50_5.1.Pending), (.d (.mp (Option.isNone r50_5.1.Links) (mks kv_22 (ml r50_5.1.Links)) (mds (slD (encL enc_GChange)) (ml r50_5.1.Links))))])], 0⟩ <| Sx <| Wz (.agg [(.i r50_5.1.Cap), (.l (encL enc_GChange) r50_5.1.Views), (.l (encL enc_GChange) r50_5.1.Pending), (.d (.mp (Option.isNone r50_5.1.Links) (mks kv_22 (ml r50_5.1.Links)) (mds (slD (encL enc_GChange)) (ml r50_5.1.Links))))]) (Old rfl) ?_
 obtain ⟨r55_6, hr55_6, hm⟩ := bnd hm
 refine Wz (.tup [(.agg [(.i r55_6.1.Cap), (.l (encL enc_GChange) r55_6.1.Views), (.l (encL enc_GChange) r55_6.1.Pending), (.d (.mp (Option.isNone r55_6.1.Links) (mks kv_22 (ml r55_6.1.Links)) (mds (slD (encL enc_GChange)) (ml r55_6.1.Links))))]), (.i r55_6.2)]) (Ocf [] [] [] 0 (ok_view_Net_Deliver r50_5.1 0 1 r55_6 hr55_6) (fun a w => Try.call15 a w) rfl trivial) <| Wm (.tup [(.agg [(.i r55_6.1.Cap), (.l (encL enc_GChange) r55_6.1.Views), (.l (encL enc_GChange) r55_6.1.Pending), (.d (.mp (Option.isNone r55_6.1.Links) (mks kv_22 (ml r55_6.1.Links)) (mds (slD (encL enc_GChange)) (ml r55_6.1.Links))))]), (.i r55_6.2)]) rfl <| Wz (.agg [(.i r55_6.1.Cap), (.l (encL enc_GChange) r55_6.1.Views), (.l (encL enc_GChange) r55_6.1.Pending), (.d (.mp (Option.isNone r55_6.1.Links) (mks kv_22 (ml r55_6.1.Links)) (mds (slD (encL enc_GChange)) (ml r55_6.1.Links))))]) (Oex rfl) <| Wz (.i r55_6.2) (Oex rfl) <| Wy (.loc 12 0) [(12, (.box [(.i 0), (.d .nil), (.d .nil), (.d (.mp (Option.isNone (none : Option (List (GArr2_Int × (List (List GChange)))))) (mks kv_22 (ml (none : Option (List (GArr2_Int × (List (List GChange))))))) (mds (slD (encL enc_GChange)) (ml (none : Option (List (GArr2_Int × (List (List GChange)))))))))]))] (Oal rfl) <| Wy (.tup []) [(12, (.box [(.i r55_6.1.Cap), (.l (encL enc_GChange) r55_6.1.Views), (.l (encL enc_GChange) r55_6.1.Pending), (.d (.mp (Option.isNone r55_6.1.Links) (mks kv_22 (ml r55_6.1.Links)) (mds (slD (encL enc_GChange)) (ml r55_6.1.Links))))]))] (Ost rfl) <| Wm (.i r55_6.2) rfl <| Nk 24054 2830 ⟨tp 1 (.loc 3 0::.i r24_0.2::tp 1 (.i r28_1.2::.loc 8 0::.i r35_2.2::.loc 9 0::.i r40_3.2::tp 1 (.i r45_4.2::.loc 11 0::.i r50_5.2::tp 1 (.i r55_6.2::tp 154 [])))), [.gone, (.fro 34 1 (List.length r24_0.1.Views) (flatD (encL enc_GChange) r24_0.1.Views)), (.fro 34 1 (List.length r24_0.1.Pending) (flatD (encL enc_GChange) r24_0.1.Pending)), (.box [(.i r24_0.1.Cap), (.own 1), (.own 2), (.d (.mp (Option.isNone r24_0.1.Links) (mks kv_22 (ml r24_0.1.Links)) (mds (slD (encL enc_GChange)) (ml r24_0.1.Links))))]), .gone, .gone, .gone, .gone, (.box [(.i r35_2.1.Cap), (.l (encL enc_GChange) r35_2.1.Views), (.l (encL enc_GChange) r35_2.1.Pending), (.d (.mp (Option.isNone r35_2.1.Links) (mks kv_22 (ml r35_2.1.Links)) (mds (slD (encL enc_GChange)) (ml r35_2.1.Links))))]), (.box [(.i r40_3.1.Cap), (.l (encL enc_GChange) r40_3.1.Views), (.l (encL enc_GChange) r40_3.1.Pending), (.d (.mp (Option.isNone r40_3.1.Links) (mks kv_22 (ml r40_3.1.Links)) (mds (slD (encL enc_GChange)) (ml r40_3.1.Links))))]), .gone, (.box [(.i r50_5.1.Cap), (.l (encL enc_GChange) r50_5.1.Views), (.l (encL enc_GChange) r50_5.1.Pending), (.d (.mp (Option.isNone r50_5.1.Links) (mks kv_22 (ml r50_5.1.Links)) (mds (slD (encL enc_GChange)) (ml r50_5.1.Links))))]), .gone], 0⟩ <| Sx <| Wz (.agg [(.i r24_0.1.Cap), (.own 1), (.own 2), (.d (.mp (Option.isNone r24_0.1.Links) (mks kv_22 (ml r24_0.1.Links)) (mds (slD (encL enc_GChange)) (ml r24_0.1.Links))))]) (Old rfl) ?_
 obtain ⟨r60_7, hr60_7, hm⟩ := bnd hm
 refine Wy (.tup [(.agg [(.i r60_7.1.Cap), (.l (encL enc_GChange) r60_7.1.Views), (.l (encL enc_GChange) r60_7.1.Pending), (.d (.mp (Option.isNone r60_7.1.Links) (mks kv_22 (ml r60_7.1.Links)) (mds (slD (encL enc_GChange)) (ml r60_7.1.Links))))]), (.i r60_7.2)]) [(1, (.fro 34 1 (List.length r24_0.1.Views) (flatD (encL enc_GChange) r24_0.1.Views))), (2, (.fro 34 1 (List.length r24_0.1.Pending) (flatD (encL enc_GChange) r24_0.1.Pending)))] (Ocf [] [] [1, 2] 0 (ok_view_Net_Note r24_0.1 2 ([] : List GChange) r60_7 hr60_7) (fun a w => Try.call11 a w) rfl trivial) <| Wm (.tup [(.agg [(.i r60_7.1.Cap), (.l (encL enc_GChange) r60_7.1.Views), (.l (encL enc_GChange) r60_7.1.Pending), (.d (.mp (Option.isNone r60_7.1.Links) (mks kv_22 (ml r60_7.1.Links)) (mds (slD (encL enc_GChange)) (ml r60_7.1.Links))))]), (.i r60_7.2)]) rfl <| Wz (.agg [(.i r60_7.1.Cap), (.l (encL enc_GChange) r60_7.1.Views), (.l (encL enc_GChange) r60_7.1.Pending), (.d (.mp (Option.isNone r60_7.1.Links) (mks kv_22 (ml r60_7.1.Links)) (mds (slD (encL enc_GChange)) (ml r60_7.1.Links))))]) (Oex rfl) <| Wz (.i r60_7.2) (Oex rfl) <| Wy (.loc 13 0) [(13, (.box [(.i 0), (.d .nil), (.d .nil), (.d (.mp (Option.isNone (none : Option (List (GArr2_Int × (List (List GChange)))))) (mks kv_22 (ml (none : Option (List (GArr2_Int × (List (List GChange))))))) (mds (slD (encL enc_GChange)) (ml (none : Option (List (GArr2_Int × (List (List GChange)))))))))]))] (Oal rfl) <| Wy (.tup []) [(13, (.box [(.i r60_7.1.Cap), (.l (encL enc_GChange) r60_7.1.Views), (.l (encL enc_GChange) r60_7.1.Pending), (.d (.mp (Option.isNone r60_7.1.Links) (mks kv_22 (ml r60_7.1.Links)) (mds (slD (encL enc_GChange)) (ml r60_7.1.Links))))]))] (Ost rfl) <| Wm (.i r60_7.2) rfl <| Nk 89590 2830 ⟨tp 1 (.loc 3 0::.i r24_0.2::tp 1 (.i r28_1.2::.loc 8 0::.i r35_2.2::.loc 9 0::.i r40_3.2::tp 1 (.i r45_4.2::.loc 11 0::.i r50_5.2::tp 1 (.i r55_6.2::tp 1 (.i r60_7.2::tp 152 []))))), [.gone, (.fro 34 1 (List.length r24_0.1.Views) (flatD (encL enc_GChange) r24_0.1.Views)), (.fro 34 1 (List.length r24_0.1.Pending) (flatD (encL enc_GChange) r24_0.1.Pending)), (.box [(.i r24_0.1.Cap), (.own 1), (.own 2), (.d (.mp (Option.isNone r24_0.1.Links) (mks kv_22 (ml r24_0.1.Links)) (mds (slD (encL enc_GChange)) (ml r24_0.1.Links))))]), .gone, .gone, .gone, .gone, (.box [(.i r35_2.1.Cap), (.l (encL enc_GChange) r35_2.1.Views), (.l (encL enc_GChange) r35_2.1.Pending), (.d (.mp (Option.isNone r35_2.1.Links) (mks kv_22 (ml r35_2.1.Links)) (mds (slD (encL enc_GChange)) (ml r35_2.1.Links))))]), (.box [(.i r40_3.1.Cap), (.l (encL enc_GChange) r40_3.1.Views), (.l (encL enc_GChange) r40_3.1.Pending), (.d (.mp (Option.isNone r40_3.1.Links) (mks kv_22 (ml r40_3.1.Links)) (mds (slD (encL enc_GChange)) (ml r40_3.1.Links))))]), .gone, (.box [(.i r50_5.1.Cap), (.l (encL enc_GChange) r50_5.1.Views), (.l (encL enc_GChange) r50_5.1.Pending), (.d (.mp (Option.isNone r50_5.1.Links) (mks kv_22 (ml r50_5.1.Links)) (mds (slD (encL enc_GChange)) (ml r50_5.1.Links))))]), .gone, .gone], 0⟩ <| Sx <| Wz (.agg [(.i r40_3.1.Cap), (.l (encL enc_GChange) r40_3.1.Views), (.l (encL enc_GChange) r40_3.1.Pending), (.d (.mp (Option.isNone r40_3.1.Links) (mks kv_22 (ml r40_3.1.Links)) (mds (slD (encL enc_GChange)) (ml r40_3.1.Links))))]) (Old rfl) <| Wz (.agg [(.i 0), (.i 0), (.i 1)]) (Obd rfl) <| Wy (.own 14) [(14, (Ar 84 3 enc_GChange ([(GChange.mk 0 0 1)] : List GChange)))] (Obs rfl) ?_
 obtain ⟨r67_8, hr67_8, hm⟩ := bnd hm
 refine Wy (.tup [(.agg [(.i r67_8.1.Cap), (.l (encL enc_GChange) r67_8.1.Views), (.l (encL enc_GChange) r67_8.1.Pending), (.d (.mp (Option.isNone r67_8.1.Links) (mks kv_22 (ml r67_8.1.Links)) (mds (slD (encL enc_GChange)) (ml r67_8.1.Links))))]), (.i r67_8.2)]) [(14, (.fro 84 3 (List.length ([(GChange.mk 0 0 1)] : List GChange)) (flatD enc_GChange ([(GChange.mk 0 0 1)] : List GChange))))] (Ocf [] [] [14] 0 (ok_view_Net_Note r40_3.1 0 ([(GChange.mk 0 0 1)] : List GChange) r67_8 hr67_8) (fun a w => Try.call11 a w) rfl trivial) <| Wm (.tup [(.agg [(.i r67_8.1.Cap), (.l (encL enc_GChange) r67_8.1.Views), (.l (encL enc_GChange) r67_8.1.Pending), (.d (.mp (Option.isNone r67_8.1.Links) (mks kv_22 (ml r67_8.1.Links)) (mds (slD (encL enc_GChange)) (ml r67_8.1.Links))))]), (.i r67_8.2)]) rfl <| Wz (.agg [(.i r67_8.1.Cap), (.l (encL enc_GChange) r67_8.1.Views), (.l (encL enc_GChange) r67_8.1.Pending), (.d (.mp (Option.isNone r67_8.1.Links) (mks kv_22 (ml r67_8.1.Links)) (mds (slD (encL enc_GChange)) (ml r67_8.1.Links))))]) (Oex rfl) <| Wz (.i r67_8.2) (Oex rfl) <| Wy (.loc 15 0) [(15, (.box [(.i 0), (.d .nil), (.d .nil), (.d (.mp (Option.isNone (none : Option (List (GArr2_Int × (List (List GChange)))))) (mks kv_22 (ml (none : Option (List (GArr2_Int × (List (List GChange))))))) (mds (slD (encL enc_GChange)) (ml (none : Option (List (GArr2_Int × (List (List GChange)))))))))]))] (Oal rfl) <| Wy (.tup []) [(15, (.box [(.i r67_8.1.Cap), (.l (encL enc_GChange) r67_8.1.Views), (.l (encL enc_GChange) r67_8.1.Pending), (.d (.mp (Option.isNone r67_8.1.Links) (mks kv_22 (ml r67_8.1.Links)) (mds (slD (encL enc_GChange)) (ml r67_8.1.Links))))]))] (Ost rfl) <| Wm (.i r67_8.2) rfl <| Nk 220662 35598 ⟨tp 1 (.loc 3 0::.i r24_0.2::tp 1 (.i r28_1.2::.loc 8 0::.i r35_2.2::.loc 9 0::.i r40_3.2::tp 1 (.i r45_4.2::.loc 11 0::.i r50_5.2::tp 1 (.i r55_6.2::tp 1 (.i r60_7.2::.loc 15 0::tp 151 []))))), [.gone, (.fro 34 1 (List.length r24_0.1.Views) (flatD (encL enc_GChange) r24_0.1.Views)), (.fro 34 1 (List.length r24_0.1.Pending) (flatD (encL enc_GChange) r24_0.1.Pending)), (.box [(.i r24_0.1.Cap), (.own 1), (.own 2), (.d (.mp (Option.isNone r24_0.1.Links) (mks kv_22 (ml r24_0.1.Links)) (mds (slD (encL enc_GChange)) (ml r24_0.1.Links))))]), .gone, .gone, .gone, .gone, (.box [(.i r35_2.1.Cap), (.l (encL enc_GChange) r35_2.1.Views), (.l (encL enc_GChange) r35_2.1.Pending), (.d (.mp (Option.isNone r35_2.1.Links) (mks kv_22 (ml r35_2.1.Links)) (mds (slD (encL enc_GChange)) (ml r35_2.1.Links))))]), (.box [(.i r40_3.1.Cap), (.l (encL enc_GChange) r40_3.1.Views), (.l (encL enc_GChange) r40_3.1.Pending), (.d (.mp (Option.isNone r40_3.1.Links) (mks kv_22 (ml r40_3.1.Links)) (mds (slD (encL enc_GChange)) (ml r40_3.1.Links))))]), .gone, (.box [(.i r50_5.1.Cap), (.l (encL enc_GChange) r50_5.1.Views), (.l (encL enc_GChange) r50_5.1.Pending), (.d (.mp (Option.isNone r50_5.1.Links) (mks kv_22 (ml r50_5.1.Links)) (mds (slD (encL enc_GChange)) (ml r50_5.1.Links))))]), .gone, .gone, .gone, (.box [(.i r67_8.1.Cap), (.l (encL enc_GChange) r67_8.1.Views), (.l (encL enc_GChange) r67_8.1.Pending), (.d (.mp (Option.isNone r67_8.1.Links) (mks kv_22 (ml r67_8.1.Links)) (mds (slD (encL enc_GChange)) (ml r67_8.1.Links))))])], 0⟩ <| Sx <| Wz (.agg [(.i r67_8.1.Cap), (.l (encL enc_GChange) r67_8.1.Views), (.l (encL enc_GChange) r67_8.1.Pending), (.d (.mp (Option.isNone r67_8.1.Links) (mks kv_22 (ml r67_8.1.Links)) (mds (slD (encL enc_GChange)) (ml r67_8.1.Links))))]) (Old rfl) ?_
 obtain ⟨r72_9, hr72_9, hm⟩ := bnd hm
 refine Wz (.tup [(.agg [(.i r72_9.1.Cap), (.l (encL enc_GChange) r72_9.1.Views), (.l (encL enc_GChange) r72_9.1.Pending), (.d (.mp (Option.isNone r72_9.1.Links) (mks kv_22 (ml r72_9.1.Links)) (mds (slD (encL enc_GChange)) (ml r72_9.1.Links))))]), (.i r72_9.2)]) (Ocf [] [] [] 0 (ok_view_Net_Flush r67_8.1 0 r72_9 hr72_9) (fun a w => Try.call13 a w) rfl trivial) <| Wm (.tup [(.agg [(.i r72_9.1.Cap), (.l (encL enc_GChange) r72_9.1.Views), (.l (encL enc_GChange) r72_9.1.Pending), (.d (.mp (Option.isNone r72_9.1.Links) (mks kv_22 (ml r72_9.1.Links)) (mds (slD (encL enc_GChange)) (ml r72_9.1.Links))))]), (.i r72_9.2)]) rfl <| Wz (.agg [(.i r72_9.1.Cap), (.l (encL enc_GChange) r72_9.1.Views), (.l (encL enc_GChange) r72_9.1.Pending), (.d (.mp (Option.isNone r72_9.1.Links) (mks kv_22 (ml r72_9.1.Links)) (mds (slD (encL enc_GChange)) (ml r72_9.1.Links))))]) (Oex rfl) <| Wz (.i r72_9.2) (Oex rfl) <| Wy (.loc 16 0) [(16, (.box [(.i 0), (.d .nil), (.d .nil), (.d (.mp (Option.isNone (none : Option (List (GArr2_Int × (List (List GChange)))))) (mks kv_22 (ml (none : Option (List (GArr2_Int × (List (List GChange))))))) (mds (slD (encL enc_GChange)) (ml (none : Option (List (GArr2_Int × (List (List GChange)))))))))]))] (Oal rfl) <| Wy (.tup []) [(16, (.box [(.i r72_9.1.Cap), (.l (encL enc_GChange) r72_9.1.Views), (.l (encL enc_GChange) r72_9.1.Pending), (.d (.mp (Option.isNone r72_9.1.Links) (mks kv_22 (ml r72_9.1.Links)) (mds (slD (encL enc_GChange)) (ml r72_9.1.Links))))]))] (Ost rfl) <| Wm (.i r72_9.2) rfl <| Nk 1138166 2830 ⟨tp 1 (.loc 3 0::.i r24_0.2::tp 1 (.i r28_1.2::.loc 8 0::.i r35_2.2::.loc 9 0::.i r40_3.2::tp 1 (.i r45_4.2::.loc 11 0::.i r50_5.2::tp 1 (.i r55_6.2::tp 1 (.i r60_7.2::tp 3 (.i r72_9.2::tp 148 [])))))), [.gone, (.fro 34 1 (List.length r24_0.1.Views) (flatD (encL enc_GChange) r24_0.1.Views)), (.fro 34 1 (List.length r24_0.1.Pending) (flatD (encL enc_GChange) r24_0.1.Pending)), (.box [(.i r24_0.1.Cap), (.own 1), (.own 2), (.d (.mp (Option.isNone r24_0.1.Links) (mks kv_22 (ml r24_0.1.Links)) (mds (slD (encL enc_GChange)) (ml r24_0.1.Links))))]), .gone, .gone, .gone, .gone, (.box [(.i r35_2.1.Cap), (.l (encL enc_GChange) r35_2.1.Views), (.l (encL enc_GChange) r35_2.1.Pending), (.d (.mp (Option.isNone r35_2.1.Links) (mks kv_22 (ml r35_2.1.Links)) (mds (slD (encL enc_GChange)) (ml r35_2.1.Links))))]), (.box [(.i r40_3.1.Cap), (.l (encL enc_GChange) r40_3.1.Views), (.l (encL enc_GChange) r40_3.1.Pending), (.d (.mp (Option.isNone r40_3.1.Links) (mks kv_22 (ml r40_3.1.Links)) (mds (slD (encL enc_GChange)) (ml r40_3.1.Links))))]), .gone, (.box [(.i r50_5.1.Cap), (.l (encL enc_GChange) r50_5.1.Views), (.l (encL enc_GChange) r50_5.1.Pending), (.d (.mp (Option.isNone r50_5.1.Links) (mks kv_22 (ml r50_5.1.Links)) (mds (slD (encL enc_GChange)) (ml r50_5.1.Links))))]), .gone, .gone, .gone, .gone, .gone], 0⟩ <| Sx <| Wm (.i r24_0.2) rfl <| Wz (.b (decide (r24_0.2 = 0))) (Obn rfl (fun _ => hb_eql (k := .i64))) ?_
 rcases tf_ (decide (r24_0.2 = 0)) with hq77_10 | hq77_10
 ·
  replace hm := cT hq77_10 hm
  refine Wz (.b true) (Oq hq77_10 rfl) <| Wm (.i r28_1.2) rfl <| Wz (.b (decide (r28_1.2 = 2))) (Obn rfl (fun _ => hb_eql (k := .i64))) <| Wz (.b (decide (r28_1.2 = 2))) (OpT rfl) ?_
  rcases tf_ (decide (r28_1.2 = 2)) with hq81_10 | hq81_10
  ·
   replace hm := cT hq81_10 hm
   refine Wz (.b true) (Oq hq81_10 rfl) <| Wm (.i r35_2.2) rfl <| Wz (.b (decide (r35_2.2 = 0))) (Obn rfl (fun _ => hb_eql (k := .i64))) <| Wz (.b (decide (r35_2.2 = 0))) (OpT rfl) ?_
   rcases tf_ (decide (r35_2.2 = 0)) with hq85_10 | hq85_10
   ·
    replace hm := cT hq85_10 hm
    refine Wz (.b true) (Oq hq85_10 rfl) <| Wm (.i r40_3.2) rfl <| Wz (.b (decide (r40_3.2 = 0))) (Obn rfl (fun _ => hb_eql (k := .i64))) <| Wz (.b (decide (r40_3.2 = 0))) (OpT rfl) ?_
    rcases tf_ (decide (r40_3.2 = 0)) with hq89_10 | hq89_10
    ·
     replace hm := cT hq89_10 hm
     refine Wz (.b true) (Oq hq89_10 rfl) <| Wm (.i r45_4.2) rfl <| Wz (.b (decide (r45_4.2 = 16))) (Obn rfl (fun _ => hb_eql (k := .i64))) <| Wz (.b (decide (r45_4.2 = 16))) (OpT rfl) ?_
     rcases tf_ (decide (r45_4.2 = 16)) with hq93_10 | hq93_10
     ·
      replace hm := cT hq93_10 hm
      refine Wz (.b true) (Oq hq93_10 rfl) <| Wm (.i r50_5.2) rfl <| Wz (.b (decide (r50_5.2 = 0))) (Obn rfl (fun _ => hb_eql (k := .i64))) <| Wz (.b (decide (r50_5.2 = 0))) (OpT rfl) ?_
      rcases tf_ (decide (r50_5.2 = 0)) with hq97_10 | hq97_10
      ·
       replace hm := cT hq97_10 hm
       refine Wz (.b true) (Oq hq97_10 rfl) <| Wm (.i r55_6.2) rfl <| Wz (.b (decide (r55_6.2 = 16))) (Obn rfl (fun _ => hb_eql (k := .i64))) <| Wz (.b (decide (r55_6.2 = 16))) (OpT rfl) ?_
       rcases tf_ (decide (r55_6.2 = 16)) with hq101_10 | hq101_10
       ·
        replace hm := cT hq101_10 hm
        refine Wz (.b true) (Oq hq101_10 rfl) <| Wm (.i r60_7.2) rfl <| Wz (.b (decide (r60_7.2 = 6))) (Obn rfl (fun _ => hb_eql (k := .i64))) <| Wz (.b (decide (r60_7.2 = 6))) (OpT rfl) ?_
        rcases tf_ (decide (r60_7.2 = 6)) with hq105_10 | hq105_10
        ·
         replace hm := cT hq105_10 hm
         refine Wz (.b true) (Oq hq105_10 rfl) <| Wm (.i r72_9.2) rfl <| Wz (.b (decide (r72_9.2 = 7))) (Obn rfl (fun _ => hb_eql (k := .i64))) <| Wz (.b (decide (r72_9.2 = 7))) (OpT rfl) ?_
         rcases tf_ (decide (r72_9.2 = 7)) with hq109_10 | hq109_10
         ·
          replace hm := cT hq109_10 hm
          refine Wz (.b true) (Oq hq109_10 rfl) <| Wz (.agg [(.i r24_0.1.Cap), (.own 1), (.own 2), (.d (.mp (Option.isNone r24_0.1.Links) (mks kv_22 (ml r24_0.1.Links)) (mds (slD (encL enc_GChange)) (ml r24_0.1.Links))))]) (Old rfl) ?_
          obtain ⟨r111_10, hr111_10, hm⟩ := bnd hm
          refine Wz (.i r111_10) (Ocp [] [] [1, 2] 0 (ok_view_Net_Front r24_0.1 1 1 r111_10 hr111_10) (plain_triv (by simp [A.Plain, A.Plains, D.Plain, byteD])) (fun a w => Try.call23 a w) rfl trivial) <| Wz (.b (decide (r111_10 = 3))) (Obn rfl (fun _ => hb_eql (k := .i64))) <| Wz (.b (decide (r111_10 = 3))) (OpT rfl) ?_
          rcases tf_ (decide (r111_10 = 3)) with hq114_10 | hq114_10
          ·
           replace hm := cT hq114_10 hm
           refine Wz (.b true) (Oq hq114_10 rfl) <| Wz (.agg [(.i r50_5.1.Cap), (.l (encL enc_GChange) r50_5.1.Views), (.l (encL enc_GChange) r50_5.1.Pending), (.d (.mp (Option.isNone r50_5.1.Links) (mks kv_22 (ml r50_5.1.Links)) (mds (slD (encL enc_GChange)) (ml r50_5.1.Links))))]) (Old rfl) ?_
           obtain ⟨r116_10, hr116_10, hm⟩ := bnd hm
           refine Wz (.i r116_10) (Ocf [] [] [] 0 (ok_view_Net_Front r50_5.1 1 1 r116_10 hr116_10) (fun a w => Try.call23 a w) rfl trivial) <| Wz (.b (decide (r116_10 = 1099511627777))) (Obn rfl (fun _ => hb_eql (k := .i64))) <| Wz (.b (decide (r116_10 = 1099511627777))) (OpT rfl) ?_
           rcases tf_ (decide (r116_10 = 1099511627777)) with hq119_10 | hq119_10
           ·
            replace hm := cT hq119_10 hm
            refine Wz (.b true) (Oq hq119_10 rfl) <| Wz (.agg [(.i r50_5.1.Cap), (.l (encL enc_GChange) r50_5.1.Views), (.l (encL enc_GChange) r50_5.1.Pending), (.d (.mp (Option.isNone r50_5.1.Links) (mks kv_22 (ml r50_5.1.Links)) (mds (slD (encL enc_GChange)) (ml r50_5.1.Links))))]) (Old rfl) ?_
            obtain ⟨r121_10, hr121_10, hm⟩ := bnd hm
            refine Wz (.i r121_10) (Ocf [] [] [] 0 (ok_view_Net_Front r50_5.1 0 1 r121_10 hr121_10) (fun a w => Try.call23 a w) rfl trivial) <| Wz (.b (decide (r121_10 = 3))) (Obn rfl (fun _ => hb_eql (k := .i64))) <| Wz (.b (decide (r121_10 = 3))) (OpT rfl) ?_
            rcases tf_ (decide (r121_10 = 3)) with hq124_10 | hq124_10
            ·
             replace hm := cT hq124_10 hm
             refine Wz (.b true) (Oq hq124_10 rfl) <| Wz (.agg [(.i r50_5.1.Cap), (.l (encL enc_GChange) r50_5.1.Views), (.l (encL enc_GChange) r50_5.1.Pending), (.d (.mp (Option.isNone r50_5.1.Links) (mks kv_22 (ml r50_5.1.Links)) (mds (slD (encL enc_GChange)) (ml r50_5.1.Links))))]) (Old rfl) ?_
             obtain ⟨r126_10, hr126_10, hm⟩ := bnd hm
             refine Wz (.i r126_10) (Ocf [] [] [] 0 (ok_view_Net_Waits r50_5.1 0 0 r126_10 hr126_10) (fun a w => Try.call19 a w) rfl trivial) <| Wz (.b (decide (r126_10 = 1))) (Obn rfl (fun _ => hb_eql (k := .i64))) <| Wz (.b (decide (r126_10 = 1))) (OpT rfl) ?_
             rcases tf_ (decide (r126_10 = 1)) with hq129_10 | hq129_10
             ·
              replace hm := cT hq129_10 hm
              refine Wz (.b true) (Oq hq129_10 rfl) <| Wz (.loc 11 3) (Ofa rfl) <| Wz (.d (.mp (Option.isNone r50_5.1.Links) (mks kv_22 (ml r50_5.1.Links)) (mds (slD (encL enc_GChange)) (ml r50_5.1.Links)))) (Old rfl) <| Wz (.i ((List.length (ml r50_5.1.Links) : Nat) : Int)) (Mml (kv := kv_22) (ev := (slD (encL enc_GChange))) (ml r50_5.1.Links) rfl) <| Wz (.b (decide (((List.length (ml r50_5.1.Links) : Nat) : Int) = 1))) (Obn rfl (fun _ => hb_eql (k := .i64))) <| Wz (.b (decide (((List.length (ml r50_5.1.Links) : Nat) : Int) = 1))) (OpT rfl) ?_
              rcases tf_ (decide (((List.length (ml r50_5.1.Links) : Nat) : Int) = 1)) with hq135_10 | hq135_10
              ·
               replace hm := cT hq135_10 hm
               refine Wz (.b true) (Oq hq135_10 rfl) <| Wz (.loc 9 3) (Ofa rfl) <| Wz (.d (.mp (Option.isNone r40_3.1.Links) (mks kv_22 (ml r40_3.1.Links)) (mds (slD (encL enc_GChange)) (ml r40_3.1.Links)))) (Old rfl) <| Wz (.i ((List.length (ml r40_3.1.Links) : Nat) : Int)) (Mml (kv := kv_22) (ev := (slD (encL enc_GChange))) (ml r40_3.1.Links) rfl) <| Wz (.b (decide (((List.length (ml r40_3.1.Links) : Nat) : Int) = 2))) (Obn rfl (fun _ => hb_eql (k := .i64))) <| Wz (.b (decide (((List.length (ml r40_3.1.Links) : Nat) : Int) = 2))) (OpT rfl) ?_
               rcases tf_ (decide (((List.length (ml r40_3.1.Links) : Nat) : Int) = 2)) with hq141_10 | hq141_10
               ·
                replace hm := cT hq141_10 hm
                refine Wz (.b true) (Oq hq141_10 rfl) <| Wz (.agg [(.i r50_5.1.Cap), (.l (encL enc_GChange) r50_5.1.Views), (.l (encL enc_GChange) r50_5.1.Pending), (.d (.mp (Option.isNone r50_5.1.Links) (mks kv_22 (ml r50_5.1.Links)) (mds (slD (encL enc_GChange)) (ml r50_5.1.Links))))]) (Old rfl) ?_
                obtain ⟨r143_10, hr143_10, hm⟩ := bnd hm
                refine Wz (.l enc_GChange r143_10) (Ocf [] [] [] 0 (ok_view_Net_Truth r50_5.1 0 r143_10 hr143_10) (fun a w => Try.call27 a w) rfl trivial) <| Wz (.i ((List.length r143_10 : Nat) : Int)) (Oln rfl) <| Wz (.b (decide (((List.length r143_10 : Nat) : Int) = 0))) (Obn rfl (fun _ => hb_eql (k := .i64))) <| Wz (.b (decide (((List.length r143_10 : Nat) : Int) = 0))) (OpT rfl) ?_
                rcases tf_ (decide (((List.length r143_10 : Nat) : Int) = 0)) with hq147_10 | hq147_10
                ·
                 replace hm := cT hq147_10 hm
                 refine Wz (.b true) (Oq hq147_10 rfl) <| Wz (.agg [(.i r24_0.1.Cap), (.own 1), (.own 2), (.d (.mp (Option.isNone r24_0.1.Links) (mks kv_22 (ml r24_0.1.Links)) (mds (slD (encL enc_GChange)) (ml r24_0.1.Links))))]) (Old rfl) ?_
                 obtain ⟨r149_10, hr149_10, hm⟩ := bnd hm
                 refine Wz (.b r149_10) (Ocp [] [] [1, 2] 0 (ok_view_Net_Idle r24_0.1 r149_10 hr149_10) (plain_triv (by simp [A.Plain, A.Plains, D.Plain, byteD])) (fun a w => Try.call21 a w) rfl trivial) <| Wz (.b r149_10) (OpT rfl) ?_
                 rcases tf_ r149_10 with hq151_10 | hq151_10
                 ·
                  replace hm := cT hq151_10 hm
                  refine Wz (.b true) (Oq hq151_10 rfl) <| Wz (.agg [(.i r50_5.1.Cap), (.l (encL enc_GChange) r50_5.1.Views), (.l (encL enc_GChange) r50_5.1.Pending), (.d (.mp (Option.isNone r50_5.1.Links) (mks kv_22 (ml r50_5.1.Links)) (mds (slD (encL enc_GChange)) (ml r50_5.1.Links))))]) (Old rfl) ?_
                  obtain ⟨r153_10, hr153_10, hm⟩ := bnd hm
                  refine Wz (.b r153_10) (Ocf [] [] [] 0 (ok_view_Net_Idle r50_5.1 r153_10 hr153_10) (fun a w => Try.call21 a w) rfl trivial) <| Wz (.b (!r153_10)) (Ocs (by kernel_rfl) (op_un rfl (a1 := .bool r153_10) (by kernel_rfl) (fun _ => hu_not))) <| Wz (.b (!r153_10)) (OpT rfl) ?_
                  rcases tf_ (!r153_10) with hq156_10 | hq156_10
                  ·
                   replace hm := cT hq156_10 hm
                   refine Wz (.b true) (Oq hq156_10 rfl) <| Wz (.agg [(.i r40_3.1.Cap), (.l (encL enc_GChange) r40_3.1.Views), (.l (encL enc_GChange) r40_3.1.Pending), (.d (.mp (Option.isNone r40_3.1.Links) (mks kv_22 (ml r40_3.1.Links)) (mds (slD (encL enc_GChange)) (ml r40_3.1.Links))))]) (Old rfl) <| Wz (.agg [(.i r40_3.1.Cap), (.l (encL enc_GChange) r40_3.1.Views), (.l (encL enc_GChange) r40_3.1.Pending), (.d (.mp (Option.isNone r40_3.1.Links) (mks kv_22 (ml r40_3.1.Links)) (mds (slD (encL enc_GChange)) (ml r40_3.1.Links))))]) (Old rfl) ?_
                   obtain ⟨r159_10, hr159_10, hm⟩ := bnd hm
                   refine Wz (.b r159_10) (Ocf [] [] [] 0 (ok_view_Same r40_3.1 r40_3.1 r159_10 hr159_10) (fun a w => Try.call29 a w) rfl trivial) <| Wz (.b r159_10) (OpT rfl) ?_
                   rcases tf_ r159_10 with hq161_10 | hq161_10
                   ·
                    replace hm := cT hq161_10 hm
                    refine Wz (.b true) (Oq hq161_10 rfl) <| Wz (.agg [(.i r35_2.1.Cap), (.l (encL enc_GChange) r35_2.1.Views), (.l (encL enc_GChange) r35_2.1.Pending), (.d (.mp (Option.isNone r35_2.1.Links) (mks kv_22 (ml r35_2.1.Links)) (mds (slD (encL enc_GChange)) (ml r35_2.1.Links))))]) (Old rfl) <| Wz (.agg [(.i r40_3.1.Cap), (.l (encL enc_GChange) r40_3.1.Views), (.l (encL enc_GChange) r40_3.1.Pending), (.d (.mp (Option.isNone r40_3.1.Links) (mks kv_22 (ml r40_3.1.Links)) (mds (slD (encL enc_GChange)) (ml r40_3.1.Links))))]) (Old rfl) ?_
                    obtain ⟨r164_10, hr164_10, hm⟩ := bnd hm
                    refine Wz (.b r164_10) (Ocf [] [] [] 0 (ok_view_Same r35_2.1 r40_3.1 r164_10 hr164_10) (fun a w => Try.call29 a w) rfl trivial) <| Wz (.b (!r164_10)) (Ocs (by kernel_rfl) (op_un rfl (a1 := .bool r164_10) (by kernel_rfl) (fun _ => hu_not))) <| Wz (.b (!r164_10)) (OpT rfl) ?_
                    rcases tf_ (!r164_10) with hq167_10 | hq167_10
                    ·
                     replace hm := cT hq167_10 hm
                     refine Wz (.b true) (Oq hq167_10 rfl) <| Wz (.b true) (OpT rfl) <| Wm (.b true) rfl <| Nn <| Rt ?_
                     obtain rfl := Option.some.inj hm
                     exact ret_i []
                    ·
                     replace hm := cF hq167_10 hm
                     refine Wz (.b false) (Oq hq167_10 rfl) <| Wz (.b false) (OpF rfl) <| Wm (.b false) rfl <| Nn <| Rt ?_
                     obtain rfl := Option.some.inj hm
                     exact ret_i []
                   ·
                    replace hm := cF hq161_10 hm
                    refine Wz (.b false) (Oq hq161_10 rfl) <| Wn <| Wn <| Wn <| Wn <| Wz (.b false) (OpF rfl) <| Wm (.b false) rfl <| Wz (.b false) (OpF rfl) <| Wm (.b false) rfl <| Nn <| Rt ?_
                    obtain rfl := Option.some.inj hm
                    exact ret_i []
                  ·
                   replace hm := cF hq156_10 hm
                   refine Wz (.b false) (Oq hq156_10 rfl) <| Wn <| Wn <| Wn <| Wz (.b false) (OpF rfl) <| Wm (.b false) rfl <| Wn <| Wn <| Wn <| Wn <| Wz (.b false) (OpF rfl) <| Wm (.b false) rfl <| Wz (.b false) (OpF rfl) <| Wm (.b false) rfl ?_
                   refine Nn <| Rt ?_
                   obtain rfl := Option.some.inj hm
                   exact ret_i []
                 ·
                  replace hm := cF hq151_10 hm
                  refine Wz (.b false) (Oq hq151_10 rfl) <| Wn <| Wn <| Wn <| Wz (.b false) (OpF rfl) <| Wm (.b false) rfl <| Wn <| Wn <| Wn <| Wz (.b false) (OpF rfl) <| Wm (.b false) rfl <| Wn <| Wn <| Wn ?_
                  refine Wn <| Wz (.b false) (OpF rfl) <| Wm (.b false) rfl <| Wz (.b false) (OpF rfl) <| Wm (.b false) rfl <| Nn <| Rt ?_
                  obtain rfl := Option.some.inj hm
                  exact ret_i []
                ·
                 replace hm := cF hq147_10 hm
                 refine Wz (.b false) (Oq hq147_10 rfl) <| Wn <| Wn <| Wz (.b false) (OpF rfl) <| Wm (.b false) rfl <| Wn <| Wn <| Wn <| Wz (.b false) (OpF rfl) <| Wm (.b false) rfl <| Wn <| Wn <| Wn <| Wz (.b false) (OpF rfl) ?_
                 refine Wm (.b false) rfl <| Wn <| Wn <| Wn <| Wn <| Wz (.b false) (OpF rfl) <| Wm (.b false) rfl <| Wz (.b false) (OpF rfl) <| Wm (.b false) rfl <| Nn <| Rt ?_
                 obtain rfl := Option.some.inj hm
                 exact ret_i []
               ·
                replace hm := cF hq141_10 hm
                refine Wz (.b false) (Oq hq141_10 rfl) <| Wn <| Wn <| Wn <| Wn <| Wz (.b false) (OpF rfl) <| Wm (.b false) rfl <| Wn <| Wn <| Wz (.b false) (OpF rfl) <| Wm (.b false) rfl <| Wn <| Wn <| Wn ?_
                refine Wz (.b false) (OpF rfl) <| Wm (.b false) rfl <| Wn <| Wn <| Wn <| Wz (.b false) (OpF rfl) <| Wm (.b false) rfl <| Wn <| Wn <| Wn <| Wn <| Wz (.b false) (OpF rfl) <| Wm (.b false) rfl <| Wz (.b false) (OpF rfl) ?_
                refine Wm (.b false) rfl <| Nn <| Rt ?_
                obtain rfl := Option.some.inj hm
                exact ret_i []
              ·
               replace hm := cF hq135_10 hm
               refine Wz (.b false) (Oq hq135_10 rfl) <| Wn <| Wn <| Wn <| Wn <| Wz (.b false) (OpF rfl) <| Wm (.b false) rfl <| Wn <| Wn <| Wn <| Wn <| Wz (.b false) (OpF rfl) <| Wm (.b false) rfl <| Wn ?_
               refine Wn <| Wz (.b false) (OpF rfl) <| Wm (.b false) rfl <| Wn <| Wn <| Wn <| Wz (.b false) (OpF rfl) <| Wm (.b false) rfl <| Wn <| Wn <| Wn <| Wz (.b false) (OpF rfl) <| Wm (.b false) rfl <| Wn ?_
               refine Wn <| Wn <| Wn <| Wz (.b false) (OpF rfl) <| Wm (.b false) rfl <| Wz (.b false) (OpF rfl) <| Wm (.b false) rfl <| Nn <| Rt ?_
               obtain rfl := Option.some.inj hm
               exact ret_i []
             ·
              replace hm := cF hq129_10 hm
              refine Wz (.b false) (Oq hq129_10 rfl) <| Wn <| Wn <| Wn <| Wn <| Wz (.b false) (OpF rfl) <| Wm (.b false) rfl <| Wn <| Wn <| Wn <| Wn <| Wz (.b false) (OpF rfl) <| Wm (.b false) rfl <| Wn ?_
              refine Wn <| Wn <| Wn <| Wz (.b false) (OpF rfl) <| Wm (.b false) rfl <| Wn <| Wn <| Wz (.b false) (OpF rfl) <| Wm (.b false) rfl <| Wn <| Wn <| Wn <| Wz (.b false) (OpF rfl) <| Wm (.b false) rfl ?_
              refine Wn <| Wn <| Wn <| Wz (.b false) (OpF rfl) <| Wm (.b false) rfl <| Wn <| Wn <| Wn <| Wn <| Wz (.b false) (OpF rfl) <| Wm (.b false) rfl <| Wz (.b false) (OpF rfl) <| Wm (.b false) rfl <| Nn ?_
              refine Rt ?_
              obtain rfl := Option.some.inj hm
              exact ret_i []
            ·
             replace hm := cF hq124_10 hm
             refine Wz (.b false) (Oq hq124_10 rfl) <| Wn <| Wn <| Wn <| Wz (.b false) (OpF rfl) <| Wm (.b false) rfl <| Wn <| Wn <| Wn <| Wn <| Wz (.b false) (OpF rfl) <| Wm (.b false) rfl <| Wn <| Wn ?_
             refine Wn <| Wn <| Wz (.b false) (OpF rfl) <| Wm (.b false) rfl <| Wn <| Wn <| Wn <| Wn <| Wz (.b false) (OpF rfl) <| Wm (.b false) rfl <| Wn <| Wn <| Wz (.b false) (OpF rfl) <| Wm (.b false) rfl ?_
             refine Wn <| Wn <| Wn <| Wz (.b false) (OpF rfl) <| Wm (.b false) rfl <| Wn <| Wn <| Wn <| Wz (.b false) (OpF rfl) <| Wm (.b false) rfl <| Wn <| Wn <| Wn <| Wn ?_
             refine Wz (.b false) (OpF rfl) <| Wm (.b false) rfl <| Wz (.b false) (OpF rfl) <| Wm (.b false) rfl <| Nn <| Rt ?_
             obtain rfl := Option.some.inj hm
             exact ret_i []
           ·
            replace hm := cF hq119_10 hm
            refine Wz (.b false) (Oq hq119_10 rfl) <| Wn <| Wn <| Wn <| Wz (.b false) (OpF rfl) <| Wm (.b false) rfl <| Wn <| Wn <| Wn <| Wz (.b false) (OpF rfl) <| Wm (.b false) rfl <| Wn <| Wn <| Wn ?_
            refine Wn <| Wz (.b false) (OpF rfl) <| Wm (.b false) rfl <| Wn <| Wn <| Wn <| Wn <| Wz (.b false) (OpF rfl) <| Wm (.b false) rfl <| Wn <| Wn <| Wn <| Wn <| Wz (.b false) (OpF rfl) ?_
            refine Wm (.b false) rfl <| Wn <| Wn <| Wz (.b false) (OpF rfl) <| Wm (.b false) rfl <| Wn <| Wn <| Wn <| Wz (.b false) (OpF rfl) <| Wm (.b false) rfl <| Wn <| Wn <| Wn <| Wz (.b false) (OpF rfl) ?_
            refine Wm (.b false) rfl <| Wn <| Wn <| Wn <| Wn <| Wz (.b false) (OpF rfl) <| Wm (.b false) rfl <| Wz (.b false) (OpF rfl) <| Wm (.b false) rfl <| Nn <| Rt ?_
            obtain rfl := Option.some.inj hm
            exact ret_i []
          ·
           replace hm := cF hq114_10 hm
           refine Wz (.b false) (Oq hq114_10 rfl) <| Wn <| Wn <| Wn <| Wz (.b false) (OpF rfl) <| Wm (.b false) rfl <| Wn <| Wn <| Wn <| Wz (.b false) (OpF rfl) <| Wm (.b false) rfl <| Wn <| Wn <| Wn ?_
           refine Wz (.b false) (OpF rfl) <| Wm (.b false) rfl <| Wn <| Wn <| Wn <| Wn <| Wz (.b false) (OpF rfl) <| Wm (.b false) rfl <| Wn <| Wn <| Wn <| Wn <| Wz (.b false) (OpF rfl) <| Wm (.b false) rfl ?_
           refine Wn <| Wn <| Wn <| Wn <| Wz (.b false) (OpF rfl) <| Wm (.b false) rfl <| Wn <| Wn <| Wz (.b false) (OpF rfl) <| Wm (.b false) rfl <| Wn <| Wn <| Wn <| Wz (.b false) (OpF rfl) ?_
           refine Wm (.b false) rfl <| Wn <| Wn <| Wn <| Wz (.b false) (OpF rfl) <| Wm (.b false) rfl <| Wn <| Wn <| Wn <| Wn <| Wz (.b false) (OpF rfl) <| Wm (.b false) rfl <| Wz (.b false) (OpF rfl) <| Wm (.b false) rfl ?_
           refine Nn <| Rt ?_
           obtain rfl := Option.some.inj hm
           exact ret_i []
         ·
          replace hm := cF hq109_10 hm
          refine Wz (.b false) (Oq hq109_10 rfl) <| Wn <| Wn <| Wn <| Wz (.b false) (OpF rfl) <| Wm (.b false) rfl <| Wn <| Wn <| Wn <| Wz (.b false) (OpF rfl) <| Wm (.b false) rfl <| Wn <| Wn <| Wn ?_
          refine Wz (.b false) (OpF rfl) <| Wm (.b false) rfl <| Wn <| Wn <| Wn <| Wz (.b false) (OpF rfl) <| Wm (.b false) rfl <| Wn <| Wn <| Wn <| Wn <| Wz (.b false) (OpF rfl) <| Wm (.b false) rfl <| Wn ?_
          refine Wn <| Wn <| Wn <| Wz (.b false) (OpF rfl) <| Wm (.b false) rfl <| Wn <| Wn <| Wn <| Wn <| Wz (.b false) (OpF rfl) <| Wm (.b false) rfl <| Wn <| Wn <| Wz (.b false) (OpF rfl) ?_
          refine Wm (.b false) rfl <| Wn <| Wn <| Wn <| Wz (.b false) (OpF rfl) <| Wm (.b false) rfl <| Wn <| Wn <| Wn <| Wz (.b false) (OpF rfl) <| Wm (.b false) rfl <| Wn <| Wn <| Wn ?_
          refine Wn <| Wz (.b false) (OpF rfl) <| Wm (.b false) rfl <| Wz (.b false) (OpF rfl) <| Wm (.b false) rfl <| Nn <| Rt ?_
          obtain rfl := Option.some.inj hm
          exact ret_i []
        ·
         replace hm := cF hq105_10 hm
         refine Wz (.b false) (Oq hq105_10 rfl) <| Wn <| Wn <| Wz (.b false) (OpF rfl) <| Wm (.b false) rfl <| Wn <| Wn <| Wn <| Wz (.b false) (OpF rfl) <| Wm (.b false) rfl <| Wn <| Wn <| Wn <| Wz (.b false) (OpF rfl) ?_
         refine Wm (.b false) rfl <| Wn <| Wn <| Wn <| Wz (.b false) (OpF rfl) <| Wm (.b false) rfl <| Wn <| Wn <| Wn <| Wz (.b false) (OpF rfl) <| Wm (.b false) rfl <| Wn <| Wn <| Wn ?_
         refine Wn <| Wz (.b false) (OpF rfl) <| Wm (.b false) rfl <| Wn <| Wn <| Wn <| Wn <| Wz (.b false) (OpF rfl) <| Wm (.b false) rfl <| Wn <| Wn <| Wn <| Wn <| Wz (.b false) (OpF rfl) ?_
         refine Wm (.b false) rfl <| Wn <| Wn <| Wz (.b false) (OpF rfl) <| Wm (.b false) rfl <| Wn <| Wn <| Wn <| Wz (.b false) (OpF rfl) <| Wm (.b false) rfl <| Wn <| Wn <| Wn <| Wz (.b false) (OpF rfl) ?_
         refine Wm (.b false) rfl <| Wn <| Wn <| Wn <| Wn <| Wz (.b false) (OpF rfl) <| Wm (.b false) rfl <| Wz (.b false) (OpF rfl) <| Wm (.b false) rfl <| Nn <| Rt ?_
         obtain rfl := Option.some.inj hm
         exact ret_i []
       ·
        replace hm := cF hq101_10 hm
        refine Wz (.b false) (Oq hq101_10 rfl) <| Wn <| Wn <| Wz (.b false) (OpF rfl) <| Wm (.b false) rfl <| Wn <| Wn <| Wz (.b false) (OpF rfl) <| Wm (.b false) rfl <| Wn <| Wn <| Wn <| Wz (.b false) (OpF rfl) <| Wm (.b false) rfl ?_
        refine Wn <| Wn <| Wn <| Wz (.b false) (OpF rfl) <| Wm (.b false) rfl <| Wn <| Wn <| Wn <| Wz (.b false) (OpF rfl) <| Wm (.b false) rfl <| Wn <| Wn <| Wn <| Wz (.b false) (OpF rfl) ?_
        refine Wm (.b false) rfl <| Wn <| Wn <| Wn <| Wn <| Wz (.b false) (OpF rfl) <| Wm (.b false) rfl <| Wn <| Wn <| Wn <| Wn <| Wz (.b false) (OpF rfl) <| Wm (.b false) rfl <| Wn ?_
        refine Wn <| Wn <| Wn <| Wz (.b false) (OpF rfl) <| Wm (.b false) rfl <| Wn <| Wn <| Wz (.b false) (OpF rfl) <| Wm (.b false) rfl <| Wn <| Wn <| Wn <| Wz (.b false) (OpF rfl) <| Wm (.b false) rfl ?_
        refine Wn <| Wn <| Wn <| Wz (.b false) (OpF rfl) <| Wm (.b false) rfl <| Wn <| Wn <| Wn <| Wn <| Wz (.b false) (OpF rfl) <| Wm (.b false) rfl <| Wz (.b false) (OpF rfl) <| Wm (.b false) rfl <| Nn ?_
        refine Rt ?_
        obtain rfl := Option.some.inj hm
        exact ret_i []
      ·
       replace hm := cF hq97_10 hm
       refine Wz (.b false) (Oq hq97_10 rfl) <| Wn <| Wn <| Wz (.b false) (OpF rfl) <| Wm (.b false) rfl <| Wn <| Wn <| Wz (.b false) (OpF rfl) <| Wm (.b false) rfl <| Wn <| Wn <| Wz (.b false) (OpF rfl) <| Wm (.b false) rfl <| Wn ?_
       refine Wn <| Wn <| Wz (.b false) (OpF rfl) <| Wm (.b false) rfl <| Wn <| Wn <| Wn <| Wz (.b false) (OpF rfl) <| Wm (.b false) rfl <| Wn <| Wn <| Wn <| Wz (.b false) (OpF rfl) <| Wm (.b false) rfl ?_
       refine Wn <| Wn <| Wn <| Wz (.b false) (OpF rfl) <| Wm (.b false) rfl <| Wn <| Wn <| Wn <| Wn <| Wz (.b false) (OpF rfl) <| Wm (.b false) rfl <| Wn <| Wn <| Wn ?_
       refine Wn <| Wz (.b false) (OpF rfl) <| Wm (.b false) rfl <| Wn <| Wn <| Wn <| Wn <| Wz (.b false) (OpF rfl) <| Wm (.b false) rfl <| Wn <| Wn <| Wz (.b false) (OpF rfl) <| Wm (.b false) rfl <| Wn ?_
       refine Wn <| Wn <| Wz (.b false) (OpF rfl) <| Wm (.b false) rfl <| Wn <| Wn <| Wn <| Wz (.b false) (OpF rfl) <| Wm (.b false) rfl <| Wn <| Wn <| Wn <| Wn <| Wz (.b false) (OpF rfl) ?_
       refine Wm (.b false) rfl <| Wz (.b false) (OpF rfl) <| Wm (.b false) rfl <| Nn <| Rt ?_
       obtain rfl := Option.some.inj hm
       exact ret_i []
     ·
      replace hm := cF hq93_10 hm
      refine Wz (.b false) (Oq hq93_10 rfl) <| Wn <| Wn <| Wz (.b false) (OpF rfl) <| Wm (.b false) rfl <| Wn <| Wn <| Wz (.b false) (OpF rfl) <| Wm (.b false) rfl <| Wn <| Wn <| Wz (.b false) (OpF rfl) <| Wm (.b false) rfl <| Wn ?_
      refine Wn <| Wz (.b false) (OpF rfl) <| Wm (.b false) rfl <| Wn <| Wn <| Wn <| Wz (.b false) (OpF rfl) <| Wm (.b false) rfl <| Wn <| Wn <| Wn <| Wz (.b false) (OpF rfl) <| Wm (.b false) rfl <| Wn ?_
      refine Wn <| Wn <| Wz (.b false) (OpF rfl) <| Wm (.b false) rfl <| Wn <| Wn <| Wn <| Wz (.b false) (OpF rfl) <| Wm (.b false) rfl <| Wn <| Wn <| Wn <| Wn <| Wz (.b false) (OpF rfl) ?_
      refine Wm (.b false) rfl <| Wn <| Wn <| Wn <| Wn <| Wz (.b false) (OpF rfl) <| Wm (.b false) rfl <| Wn <| Wn <| Wn <| Wn <| Wz (.b false) (OpF rfl) <| Wm (.b false) rfl <| Wn ?_
      refine Wn <| Wz (.b false) (OpF rfl) <| Wm (.b false) rfl <| Wn <| Wn <| Wn <| Wz (.b false) (OpF rfl) <| Wm (.b false) rfl <| Wn <| Wn <| Wn <| Wz (.b false) (OpF rfl) <| Wm (.b false) rfl <| Wn ?_
      refine Wn <| Wn <| Wn <| Wz (.b false) (OpF rfl) <| Wm (.b false) rfl <| Wz (.b false) (OpF rfl) <| Wm (.b false) rfl <| Nn <| Rt ?_
      obtain rfl := Option.some.inj hm
      exact ret_i []
    ·
     replace hm := cF hq89_10 hm
     refine Wz (.b false) (Oq hq89_10 rfl) <| Wn <| Wn <| Wz (.b false) (OpF rfl) <| Wm (.b false) rfl <| Wn <| Wn <| Wz (.b false) (OpF rfl) <| Wm (.b false) rfl <| Wn <| Wn <| Wz (.b false) (OpF rfl) <| Wm (.b false) rfl <| Wn ?_
     refine Wn <| Wz (.b false) (OpF rfl) <| Wm (.b false) rfl <| Wn <| Wn <| Wz (.b false) (OpF rfl) <| Wm (.b false) rfl <| Wn <| Wn <| Wn <| Wz (.b false) (OpF rfl) <| Wm (.b false) rfl <| Wn <| Wn ?_
     refine Wn <| Wz (.b false) (OpF rfl) <| Wm (.b false) rfl <| Wn <| Wn <| Wn <| Wz (.b false) (OpF rfl) <| Wm (.b false) rfl <| Wn <| Wn <| Wn <| Wz (.b false) (OpF rfl) <| Wm (.b false) rfl <| Wn ?_
     refine Wn <| Wn <| Wn <| Wz (.b false) (OpF rfl) <| Wm (.b false) rfl <| Wn <| Wn <| Wn <| Wn <| Wz (.b false) (OpF rfl) <| Wm (.b false) rfl <| Wn <| Wn <| Wn ?_
     refine Wn <| Wz (.b false) (OpF rfl) <| Wm (.b false) rfl <| Wn <| Wn <| Wz (.b false) (OpF rfl) <| Wm (.b false) rfl <| Wn <| Wn <| Wn <| Wz (.b false) (OpF rfl) <| Wm (.b false) rfl <| Wn <| Wn ?_
     refine Wn <| Wz (.b false) (OpF rfl) <| Wm (.b false) rfl <| Wn <| Wn <| Wn <| Wn <| Wz (.b false) (OpF rfl) <| Wm (.b false) rfl <| Wz (.b false) (OpF rfl) <| Wm (.b false) rfl <| Nn <| Rt ?_
     obtain rfl := Option.some.inj hm
     exact ret_i []
   ·
    replace hm := cF hq85_10 hm
    refine Wz (.b false) (Oq hq85_10 rfl) <| Wn <| Wn <| Wz (.b false) (OpF rfl) <| Wm (.b false) rfl <| Wn <| Wn <| Wz (.b false) (OpF rfl) <| Wm (.b false) rfl <| Wn <| Wn <| Wz (.b false) (OpF rfl) <| Wm (.b false) rfl <| Wn ?_
    refine Wn <| Wz (.b false) (OpF rfl) <| Wm (.b false) rfl <| Wn <| Wn <| Wz (.b false) (OpF rfl) <| Wm (.b false) rfl <| Wn <| Wn <| Wz (.b false) (OpF rfl) <| Wm (.b false) rfl <| Wn <| Wn <| Wn ?_
    refine Wz (.b false) (OpF rfl) <| Wm (.b false) rfl <| Wn <| Wn <| Wn <| Wz (.b false) (OpF rfl) <| Wm (.b false) rfl <| Wn <| Wn <| Wn <| Wz (.b false) (OpF rfl) <| Wm (.b false) rfl <| Wn <| Wn ?_
    refine Wn <| Wz (.b false) (OpF rfl) <| Wm (.b false) rfl <| Wn <| Wn <| Wn <| Wn <| Wz (.b false) (OpF rfl) <| Wm (.b false) rfl <| Wn <| Wn <| Wn <| Wn <| Wz (.b false) (OpF rfl) ?_
    refine Wm (.b false) rfl <| Wn <| Wn <| Wn <| Wn <| Wz (.b false) (OpF rfl) <| Wm (.b false) rfl <| Wn <| Wn <| Wz (.b false) (OpF rfl) <| Wm (.b false) rfl <| Wn <| Wn <| Wn ?_
    refine Wz (.b false) (OpF rfl) <| Wm (.b false) rfl <| Wn <| Wn <| Wn <| Wz (.b false) (OpF rfl) <| Wm (.b false) rfl <| Wn <| Wn <| Wn <| Wn <| Wz (.b false) (OpF rfl) <| Wm (.b false) rfl <| Wz (.b false) (OpF rfl) ?_
    refine Wm (.b false) rfl <| Nn <| Rt ?_
    obtain rfl := Option.some.inj hm
    exact ret_i []
  ·
   replace hm := cF hq81_10 hm
   refine Wz (.b false) (Oq hq81_10 rfl) <| Wn <| Wn <| Wz (.b false) (OpF rfl) <| Wm (.b false) rfl <| Wn <| Wn <| Wz (.b false) (OpF rfl) <| Wm (.b false) rfl <| Wn <| Wn <| Wz (.b false) (OpF rfl) <| Wm (.b false) rfl <| Wn ?_
   refine Wn <| Wz (.b false) (OpF rfl) <| Wm (.b false) rfl <| Wn <| Wn <| Wz (.b false) (OpF rfl) <| Wm (.b false) rfl <| Wn <| Wn <| Wz (.b false) (OpF rfl) <| Wm (.b false) rfl <| Wn <| Wn <| Wz (.b false) (OpF rfl) ?_
   refine Wm (.b false) rfl <| Wn <| Wn <| Wn <| Wz (.b false) (OpF rfl) <| Wm (.b false) rfl <| Wn <| Wn <| Wn <| Wz (.b false) (OpF rfl) <| Wm (.b false) rfl <| Wn <| Wn <| Wn ?_
   refine Wz (.b false) (OpF rfl) <| Wm (.b false) rfl <| Wn <| Wn <| Wn <| Wz (.b false) (OpF rfl) <| Wm (.b false) rfl <| Wn <| Wn <| Wn <| Wn <| Wz (.b false) (OpF rfl) <| Wm (.b false) rfl <| Wn ?_
   refine Wn <| Wn <| Wn <| Wz (.b false) (OpF rfl) <| Wm (.b false) rfl <| Wn <| Wn <| Wn <| Wn <| Wz (.b false) (OpF rfl) <| Wm (.b false) rfl <| Wn <| Wn <| Wz (.b false) (OpF rfl) ?_
   refine Wm (.b false) rfl <| Wn <| Wn <| Wn <| Wz (.b false) (OpF rfl) <| Wm (.b false) rfl <| Wn <| Wn <| Wn <| Wz (.b false) (OpF rfl) <| Wm (.b false) rfl <| Wn <| Wn <| Wn ?_
   refine Wn <| Wz (.b false) (OpF rfl) <| Wm (.b false) rfl <| Wz (.b false) (OpF rfl) <| Wm (.b false) rfl <| Nn <| Rt ?_
   obtain rfl := Option.some.inj hm
   exact ret_i []
 ·
  replace hm := cF hq77_10 hm
  refine Wz (.b false) (Oq hq77_10 rfl) <| Wn <| Wn <| Wz (.b false) (OpF rfl) <| Wm (.b false) rfl <| Wn <| Wn <| Wz (.b false) (OpF rfl) <| Wm (.b false) rfl <| Wn <| Wn <| Wz (.b false) (OpF rfl) <| Wm (.b false) rfl <| Wn ?_
  refine Wn <| Wz (.b false) (OpF rfl) <| Wm (.b false) rfl <| Wn <| Wn <| Wz (.b false) (OpF rfl) <| Wm (.b false) rfl <| Wn <| Wn <| Wz (.b false) (OpF rfl) <| Wm (.b false) rfl <| Wn <| Wn <| Wz (.b false) (OpF rfl) ?_
  refine Wm (.b false) rfl <| Wn <| Wn <| Wz (.b false) (OpF rfl) <| Wm (.b false) rfl <| Wn <| Wn <| Wn <| Wz (.b false) (OpF rfl) <| Wm (.b false) rfl <| Wn <| Wn <| Wn <| Wz (.b false) (OpF rfl) ?_
  refine Wm (.b false) rfl <| Wn <| Wn <| Wn <| Wz (.b false) (OpF rfl) <| Wm (.b false) rfl <| Wn <| Wn <| Wn <| Wz (.b false) (OpF rfl) <| Wm (.b false) rfl <| Wn <| Wn <| Wn ?_
  refine Wn <| Wz (.b false) (OpF rfl) <| Wm (.b false) rfl <| Wn <| Wn <| Wn <| Wn <| Wz (.b false) (OpF rfl) <| Wm (.b false) rfl <| Wn <| Wn <| Wn <| Wn <| Wz (.b false) (OpF rfl) ?_
  refine Wm (.b false) rfl <| Wn <| Wn <| Wz (.b false) (OpF rfl) <| Wm (.b false) rfl <| Wn <| Wn <| Wn <| Wz (.b false) (OpF rfl) <| Wm (.b false) rfl <| Wn <| Wn <| Wn <| Wz (.b false) (OpF rfl) ?_
  refine Wm (.b false) rfl <| Wn <| Wn <| Wn <| Wn <| Wz (.b false) (OpF rfl) <| Wm (.b false) rfl <| Wz (.b false) (OpF rfl) <| Wm (.b false) rfl <| Nn <| Rt ?_
  obtain rfl := Option.some.inj hm
  exact ret_i []

theorem ok_token_Point_may (p0 : GPoint) (r : Bool) (h : m_token_Point_may p0 = some r) : GCall Try.prog 58 [(.agg [(.i p0.Loc), (.i p0.Time)])] [] (.b r) [] := by
 refine GCall.of_body (n := 16) (rs := [(.tmp 2)]) Try.func58 rfl rfl rfl <| Ato ⟨.agg [(.i p0.Loc), (.i p0.Time)]::tu 15 [], [], 0⟩ ?_
 have hm := h
 unfold m_token_Point_may at hm
 refine Sx <| Wy (.loc 0 0) [(0, (.box [(.i p0.Loc), (.i p0.Time)]))] (Obx rfl) <| Wm (.b false) rfl <| Nk 2 1 ⟨tp 1 (.loc 0 0::tp 14 []), [(.box [(.i p0.Loc), (.i p0.Time)])], 0⟩ <| Sx <| Wz (.loc 0 0) (Ofa rfl) <| Wz (.i p0.Loc) (Old rfl) ?_
 obtain ⟨r5_0, hr5_0, hm⟩ := bnd hm
 refine Wz (.b r5_0) (Ocf [] [] [] 0 (ok_front_Leads p0.Loc 3 r5_0 hr5_0) (fun a w => Try.call70 a w) rfl trivial) ?_
 rcases tf_ r5_0 with hq6_0 | hq6_0
 ·
  replace hm := cT hq6_0 hm
  refine Wz (.b true) (Oq hq6_0 rfl) <| Wz (.loc 0 1) (Ofa rfl) <| Wz (.i p0.Time) (Old rfl) <| Wz (.b (decide ((0 : Int) ≤ p0.Time))) (Obn rfl (fun _ => hb_geq (k := .i64))) <| Wz (.b (decide ((0 : Int) ≤ p0.Time))) (OpT rfl) ?_
  rcases tf_ (decide ((0 : Int) ≤ p0.Time)) with hq11_0 | hq11_0
  ·
   replace hm := cT hq11_0 hm
   refine Wz (.b true) (Oq hq11_0 rfl) <| Wz (.loc 0 1) (Ofa rfl) <| Wz (.i p0.Time) (Old rfl) <| Wz (.b (decide (p0.Time ≤ 1099511627776))) (Obn rfl (fun _ => hb_leq (k := .i64))) <| Wz (.b (decide (p0.Time ≤ 1099511627776))) (OpT rfl) <| Wm (.b (decide (p0.Time ≤ 1099511627776))) rfl <| Nn <| Rt ?_
   obtain rfl := Option.some.inj hm
   exact ret_i []
  ·
   replace hm := cF hq11_0 hm
   refine Wz (.b false) (Oq hq11_0 rfl) <| Wn <| Wn <| Wn <| Wz (.b false) (OpF rfl) <| Wm (.b false) rfl <| Nn <| Rt ?_
   obtain rfl := Option.some.inj hm
   exact ret_i []
 ·
  replace hm := cF hq6_0 hm
  refine Wz (.b false) (Oq hq6_0 rfl) <| Wn <| Wn <| Wn <| Wz (.b false) (OpF rfl) <| Wm (.b false) rfl <| Wn <| Wn <| Wn <| Wz (.b false) (OpF rfl) <| Wm (.b false) rfl <| Nn <| Rt ?_
  obtain rfl := Option.some.inj hm
  exact ret_i []

theorem ok_slices_Clone_Leave (p0 : (List GLeave_)) (r : (List GLeave_)) (h : m_slices_Clone_Leave p0 = some r) : GCall Try.prog 59 [(.l enc_GLeave_ p0)] [] (.own 0) [(Ar 109 3 enc_GLeave_ r)] := by
 refine GCall.of_body (n := 8) (rs := [(.tmp 2)]) Try.func59 rfl rfl rfl <| Ato ⟨.l enc_GLeave_ p0::tu 7 [], [], 0⟩ ?_
 have hm := h
 unfold m_slices_Clone_Leave at hm
 refine Sx <| Wm (.d .nil) rfl <| Nk 1 0 ⟨.l enc_GLeave_ p0::tp 7 [], [], 0⟩ <| Sq <| Sx <| Wm (.l enc_GLeave_ p0) rfl <| Wz (.ab (List.length p0 = 0)) (op_eqnil rfl (e := 109) (by kernel_rfl) (ya := (.l enc_GLeave_ p0)) (by kernel_rfl) (ds := flatD enc_GLeave_ p0) (off := 0) (by kernel_rfl) (by kernel_rfl)) <| Nk 17 0 ⟨.l enc_GLeave_ p0::tp 3 (.ab (List.length p0 = 0)::tp 3 []), [], 0⟩ ?_
 refine AWP.condU (p := List.length p0 = 0) (by kernel_rfl) (fun hnil => ?_) ?_
 ·
  refine Sx <| Wm (.d .nil) rfl <| Nn <| Aow 2 109 3 ⟨.l enc_GLeave_ p0::tp 1 (.own 0::tp 1 (.ab (List.length p0 = 0)::tp 3 [])), [(Ar 109 3 enc_GLeave_ ([] : List GLeave_))], 0⟩ <| Rt <| Tr ?_
  obtain rfl := nil_app hm (List.eq_nil_of_length_eq_zero hnil)
  exact ret_i [0]
 refine Sk <| Tk 1 0 ⟨.l enc_GLeave_ p0::tp 7 [], [], 0⟩ <| Sx <| Wy (.own 0) [(0, (Ar 109 3 enc_GLeave_ ([] : List GLeave_)))] (Obs rfl) <| Wm (.l enc_GLeave_ p0) rfl ?_
 obtain ⟨a7_0, ha7_0, hm⟩ := bnd hm; obtain ⟨ha7_0e, ha7_0l⟩ := app_some ha7_0
 refine Wy (.own 1) [(0, .gone), (1, (Ar 109 3 enc_GLeave_ a7_0))] (Oap rfl elemOK_70 enc_GLeave__len ha7_0e ha7_0l) <| Wm (.own 1) rfl <| Nn <| Rt ?_
 obtain rfl := Option.some.inj hm
 exact ret_i [1]

theorem ok_token_Point_change (p0 : GPoint) (p1 : Int) (r : GChange) (h : m_token_Point_change p0 p1 = some r) : GCall Try.prog 60 [(.agg [(.i p0.Loc), (.i p0.Time)]), (.i p1)] [] (.agg [(.i r.Loc), (.i r.Time), (.i r.N)]) [] := by
 refine GCall.of_body (n := 11) (rs := [(.cell 4 84)]) Try.func60 rfl rfl rfl <| Ato ⟨.agg [(.i p0.Loc), (.i p0.Time)]::.i p1::tu 9 [], [], 0⟩ ?_
 have hm := h
 unfold m_token_Point_change at hm
 refine Sx <| Wy (.loc 0 0) [(0, (.box [(.i p0.Loc), (.i p0.Time)]))] (Obx rfl) <| Wy (.loc 1 0) [(1, (.box [(.i 0), (.i 0), (.i 0)]))] (Oal rfl) <| Nk 22 3 ⟨tp 1 (.i p1::.loc 0 0::tp 1 (.loc 1 0::tp 6 [])), [(.box [(.i p0.Loc), (.i p0.Time)]), (.box [(.i 0), (.i 0), (.i 0)])], 0⟩ <| Sx <| Wz (.loc 0 0) (Ofa rfl) <| Wz (.i p0.Loc) (Old rfl) <| Wz (.loc 0 1) (Ofa rfl) <| Wz (.i p0.Time) (Old rfl) <| Wm (.i p1) rfl <| Wz (.agg [(.i p0.Loc), (.i p0.Time), (.i p1)]) (Obd rfl) <| Wy (.tup []) [(1, (.box [(.i p0.Loc), (.i p0.Time), (.i p1)]))] (Ost rfl) <| Nn <| Rt ?_
 obtain rfl := Option.some.inj hm
 exact ret_i []

theorem ok_token_Book_Hold (p0 : GBook) (p1 : GPoint) (r : (GBook × Int × (List GChange) × Int)) (h : m_token_Book_Hold p0 p1 = some r) : GCall Try.prog 33 [(.agg [(.l enc_GLeave_ p0.L)]), (.agg [(.i p1.Loc), (.i p1.Time)])] [] (.tup [(.agg [(.l enc_GLeave_ r.1.L)]), (.i r.2.1), (.own 0), (.i r.2.2.2)]) [(Ar 84 3 enc_GChange r.2.2.1)] := by
 refine GCall.of_body (n := 35) (rs := [(.cell 4 72), (.tmp 5), (.tmp 6), (.tmp 7)]) Try.func33 rfl rfl rfl <| Ato ⟨.agg [(.l enc_GLeave_ p0.L)]::.agg [(.i p1.Loc), (.i p1.Time)]::tu 33 [], [], 0⟩ ?_
 have hm := h
 unfold m_token_Book_Hold at hm
 refine Sx <| Wy (.loc 0 0) [(0, (.box [(.l enc_GLeave_ p0.L)]))] (Obx rfl) <| Wy (.loc 1 0) [(1, (.box [(.i p1.Loc), (.i p1.Time)]))] (Obx rfl) <| Wy (.loc 2 0) [(2, (.box [(.d .nil)]))] (Oal rfl) <| Wm (.i 0) rfl <| Wm (.d .nil) rfl <| Wm (.i 0) rfl <| Nk 28 7 ⟨tp 2 (.loc 0 0::.loc 1 0::.loc 2 0::tp 30 []), [(.box [(.l enc_GLeave_ p0.L)]), (.box [(.i p1.Loc), (.i p1.Time)]), (.box [(.d .nil)])], 0⟩ <| Sq <| Bk <| Sx <| Wz (.agg [(.i p1.Loc), (.i p1.Time)]) (Old rfl) ?_
 obtain ⟨r11_0, hr11_0, hm⟩ := bnd hm
 refine Wz (.b r11_0) (Ocf [] [] [] 0 (ok_token_Point_may p1 r11_0 hr11_0) (fun a w => Try.call58 a w) rfl trivial) <| Wz (.b (!r11_0)) (Ocs (by kernel_rfl) (op_un rfl (a1 := .bool r11_0) (by kernel_rfl) (fun _ => hu_not))) <| Wm (.b (!r11_0)) rfl <| Nk 540 7 ⟨tp 2 (.loc 0 0::.loc 1 0::.loc 2 0::tp 4 (.b (!r11_0)::tp 25 [])), [(.box [(.l enc_GLeave_ p0.L)]), (.box [(.i p1.Loc), (.i p1.Time)]), (.box [(.d .nil)])], 0⟩ ?_
 rcases tf_ (!r11_0) with hc9_4 | hc9_4
 ·
  replace hm := cT hc9_4 hm
  refine AiT hc9_4 <| Sx <| Wz (.agg [(.l enc_GLeave_ p0.L)]) (Old rfl) <| Wy (.tup []) [(2, (.box [(.l enc_GLeave_ p0.L)]))] (Ost rfl) <| Wm (.i (-1)) rfl <| Wm (.d .nil) rfl <| Wm (.i 8) rfl <| Nn <| Aow 6 84 3 ⟨tp 2 (.loc 0 0::.loc 1 0::.loc 2 0::.i (-1)::.own 3::.i 8::tp 1 (.b (!r11_0)::tp 3 (.agg [(.l enc_GLeave_ p0.L)]::tp 21 []))), [(.box [(.l enc_GLeave_ p0.L)]), (.box [(.i p1.Loc), (.i p1.Time)]), (.box [(.l enc_GLeave_ p0.L)]), (Ar 84 3 enc_GChange ([] : List GChange))], 0⟩ <| Rt <| Ir <| Tr ?_
  obtain rfl := Option.some.inj hm
  exact ret_i [3]
 ·
  replace hm := cF hc9_4 hm
  refine AiF hc9_4 <| Sx <| Wz (.loc 0 0) (Ofa rfl) <| Wz (.l enc_GLeave_ p0.L) (Old rfl) <| Wz (.i ((List.length p0.L : Nat) : Int)) (Oln rfl) <| Wz (.b (decide ((100 : Int) ≤ ((List.length p0.L : Nat) : Int)))) (Obn rfl (fun _ => hb_geq (k := .i64))) <| Wm (.b (decide ((100 : Int) ≤ ((List.length p0.L : Nat) : Int)))) rfl <| Nk 16412 7 ⟨tp 2 (.loc 0 0::.loc 1 0::.loc 2 0::tp 9 (.b (decide ((100 : Int) ≤ ((List.length p0.L : Nat) : Int)))::tp 20 [])), [(.box [(.l enc_GLeave_ p0.L)]), (.box [(.i p1.Loc), (.i p1.Time)]), (.box [(.d .nil)])], 0⟩ ?_
  rcases tf_ (decide ((100 : Int) ≤ ((List.length p0.L : Nat) : Int))) with hc14_5 | hc14_5
  ·
   replace hm := cT hc14_5 hm
   refine AiT hc14_5 <| Sx <| Wz (.agg [(.l enc_GLeave_ p0.L)]) (Old rfl) <| Wy (.tup []) [(2, (.box [(.l enc_GLeave_ p0.L)]))] (Ost rfl) <| Wm (.i (-1)) rfl <| Wm (.d .nil) rfl <| Wm (.i 7) rfl <| Nn <| Aow 6 84 3 ⟨tp 2 (.loc 0 0::.loc 1 0::.loc 2 0::.i (-1)::.own 3::.i 7::tp 6 (.b (decide ((100 : Int) ≤ ((List.length p0.L : Nat) : Int)))::tp 4 (.agg [(.l enc_GLeave_ p0.L)]::tp 15 []))), [(.box [(.l enc_GLeave_ p0.L)]), (.box [(.i p1.Loc), (.i p1.Time)]), (.box [(.l enc_GLeave_ p0.L)]), (Ar 84 3 enc_GChange ([] : List GChange))], 0⟩ <| Rt <| Ir <| Tr ?_
   obtain rfl := Option.some.inj hm
   exact ret_i [3]
  ·
   replace hm := cF hc14_5 hm
   refine AiF hc14_5 <| Sk <| Ino <| Tk 28 7 ⟨tp 2 (.loc 0 0::.loc 1 0::.loc 2 0::tp 30 []), [(.box [(.l enc_GLeave_ p0.L)]), (.box [(.i p1.Loc), (.i p1.Time)]), (.box [(.d .nil)])], 0⟩ <| Sq <| Adr <| Wz (.loc 0 0) (Ofa rfl) <| Wz (.l enc_GLeave_ p0.L) (Old rfl) ?_
   obtain ⟨r22_2, hr22_2, hm⟩ := bnd hm
   refine Wy (.own 3) [(3, (Ar 109 3 enc_GLeave_ r22_2))] (Ocf [] [3] [] 0 (ok_slices_Clone_Leave p0.L r22_2 hr22_2) (fun a w => Try.call59 a w) rfl trivial) <| Wz (.agg [(.i p1.Loc), (.i p1.Time)]) (Old rfl) <| Wz (.agg [(.i p1.Loc), (.i p1.Time), (.b true)]) (Obd rfl) <| Wy (.own 4) [(4, (Ar 109 3 enc_GLeave_ ([(GLeave_.mk p1 true)] : List GLeave_)))] (Obs rfl) ?_
   obtain ⟨a26_2, ha26_2, hm⟩ := bnd hm; obtain ⟨ha26_2e, ha26_2l⟩ := app_some ha26_2
   refine Wy (.own 5) [(3, .gone), (5, (Ar 109 3 enc_GLeave_ a26_2))] (Oap rfl elemOK_70 enc_GLeave__len ha26_2e ha26_2l) <| Wm (.own 5) rfl <| Wdr <| Tk 284 39 ⟨tp 2 (.loc 0 0::.loc 1 0::.loc 2 0::tp 3 (.own 5::tp 26 [])), [(.box [(.l enc_GLeave_ p0.L)]), (.box [(.i p1.Loc), (.i p1.Time)]), (.box [(.d .nil)]), .gone, .gone, (Ar 109 3 enc_GLeave_ a26_2)], 0⟩ <| Sq <| Adr <| Wm (.own 5) rfl <| Wz (.agg [(.own 5)]) (Obd rfl) <| Wz (.loc 0 0) (Ofa rfl) <| Wz (.l enc_GLeave_ p0.L) (Old rfl) <| Wz (.i ((List.length p0.L : Nat) : Int)) (Oln rfl) <| Wz (.agg [(.i p1.Loc), (.i p1.Time)]) (Old rfl) ?_
   obtain ⟨r33_3, hr33_3, hm⟩ := bnd hm
   refine Wz (.agg [(.i r33_3.Loc), (.i r33_3.Time), (.i r33_3.N)]) (Ocf [] [] [] 0 (ok_token_Point_change p1 1 r33_3 hr33_3) (fun a w => Try.call60 a w) rfl trivial) <| Wy (.own 6) [(6, (Ar 84 3 enc_GChange ([r33_3] : List GChange)))] (Obs rfl) <| Wy (.tup []) [(2, (.box [(.own 5)]))] (Ost rfl) <| Wm (.i ((List.length p0.L : Nat) : Int)) rfl <| Wm (.own 6) rfl <| Wm (.i 0) rfl <| Wdr <| Tn <| Afz [5] ⟨tp 2 (.loc 0 0::.loc 1 0::.loc 2 0::.i ((List.length p0.L : Nat) : Int)::.own 6::.i 0::.l enc_GLeave_ a26_2::tp 18 (.l enc_GLeave_ a26_2::.agg [(.l enc_GLeave_ a26_2)]::.loc 0 0::.l enc_GLeave_ p0.L::.i ((List.length p0.L : Nat) : Int)::.agg [(.i p1.Loc), (.i p1.Time)]::.agg [(.i r33_3.Loc), (.i r33_3.Time), (.i r33_3.N)]::.own 6::[])), [(.box [(.l enc_GLeave_ p0.L)]), (.box [(.i p1.Loc), (.i p1.Time)]), (.box [(.l enc_GLeave_ a26_2)]), .gone, .gone, (.fro 109 3 (List.length a26_2) (flatD enc_GLeave_ a26_2)), (Ar 84 3 enc_GChange ([r33_3] : List GChange))], 0⟩ <| Rt ?_
   obtain rfl := Option.some.inj hm
   exact ret_i [6]

theorem ok_token_Book_May_1 (p0 : GLeave_) (p1 : Int) (p2 : Int) (r : Bool) (h : m_token_Book_May_1 p0 p1 p2 = some r) : GCall Try.prog 79 [(.agg [(.i p0.Point.Loc), (.i p0.Point.Time), (.b p0.Held)]), (.d (.ref [(.lit (.int .i64 p1))])), (.d (.ref [(.lit (.int .i64 p2))]))] [] (.b r) [] := by
 refine GCall.of_body (n := 21) (rs := [(.tmp 4)]) Try.func79 rfl rfl rfl <| Ato ⟨.agg [(.i p0.Point.Loc), (.i p0.Point.Time), (.b p0.Held)]::.d (.ref [(.lit (.int .i64 p1))])::.d (.ref [(.lit (.int .i64 p2))])::tu 18 [], [], 0⟩ ?_
 have hm := h
 unfold m_token_Book_May_1 at hm
 refine Sx <| Wy (.loc 0 0) [(0, (.box [(.i p0.Point.Loc), (.i p0.Point.Time), (.b p0.Held)]))] (Obx rfl) <| Wm (.b false) rfl <| Nk 14 1 ⟨tp 1 (.d (.ref [(.lit (.int .i64 p1))])::.d (.ref [(.lit (.int .i64 p2))])::.loc 0 0::tp 17 []), [(.box [(.i p0.Point.Loc), (.i p0.Point.Time), (.b p0.Held)])], 0⟩ <| Sx <| Wz (.loc 0 2) (Ofa rfl) <| Wz (.b p0.Held) (Old rfl) ?_
 rcases tf_ p0.Held with hq7_0 | hq7_0
 ·
  replace hm := cT hq7_0 hm
  refine Wz (.b true) (Oq hq7_0 rfl) <| Wz (.loc 0 0) (Ofa rfl) <| Wz (.loc 0 0) (Ofa rfl) <| Wz (.i p0.Point.Loc) (Old rfl) <| Wz (.i p1) (Old rfl) <| Wz (.b (decide (p0.Point.Loc = p1))) (Obn rfl (fun _ => hb_eql (k := .i64))) <| Wz (.b (decide (p0.Point.Loc = p1))) (OpT rfl) ?_
  rcases tf_ (decide (p0.Point.Loc = p1)) with hq14_0 | hq14_0
  ·
   replace hm := cT hq14_0 hm
   refine Wz (.b true) (Oq hq14_0 rfl) <| Wz (.loc 0 0) (Ofa rfl) <| Wz (.loc 0 1) (Ofa rfl) <| Wz (.i p0.Point.Time) (Old rfl) <| Wz (.i p2) (Old rfl) <| Wz (.b (decide (p0.Point.Time ≤ p2))) (Obn rfl (fun _ => hb_leq (k := .i64))) <| Wz (.b (decide (p0.Point.Time ≤ p2))) (OpT rfl) <| Wm (.b (decide (p0.Point.Time ≤ p2))) rfl <| Nn <| Rt ?_
   obtain rfl := Option.some.inj hm
   exact ret_i []
  ·
   replace hm := cF hq14_0 hm
   refine Wz (.b false) (Oq hq14_0 rfl) <| Wn <| Wn <| Wn <| Wn <| Wn <| Wz (.b false) (OpF rfl) <| Wm (.b false) rfl <| Nn <| Rt ?_
   obtain rfl := Option.some.inj hm
   exact ret_i []
 ·
  replace hm := cF hq7_0 hm
  refine Wz (.b false) (Oq hq7_0 rfl) <| Wn <| Wn <| Wn <| Wn <| Wn <| Wz (.b false) (OpF rfl) <| Wm (.b false) rfl <| Wn <| Wn <| Wn <| Wn <| Wn <| Wz (.b false) (OpF rfl) ?_
  refine Wm (.b false) rfl <| Nn <| Rt ?_
  obtain rfl := Option.some.inj hm
  exact ret_i []

theorem ok_slices_IndexFunc_Leave__token_Book_May_1 (p0 : (List GLeave_)) (p1c0 : Int) (p1c1 : Int) (r : Int) (h : m_slices_IndexFunc_Leave__token_Book_May_1 p0 p1c0 p1c1 = some r) : GCall Try.prog 86 [(.l enc_GLeave_ p0), (.clo (.func 79) [] [(.d (.ref [(.lit (.int .i64 p1c0))])), (.d (.ref [(.lit (.int .i64 p1c1))]))])] [] (.i r) [] := by
 refine GCall.of_body (n := 19) (rs := [(.tmp 4)]) Try.func86 rfl rfl rfl <| Ato ⟨.l enc_GLeave_ p0::.clo (.func 79) [] [(.d (.ref [(.lit (.int .i64 p1c0))])), (.d (.ref [(.lit (.int .i64 p1c1))]))]::tu 17 [], [], 0⟩ ?_
 have hm := h
 unfold m_slices_IndexFunc_Leave__token_Book_May_1 at hm
 refine Sx <| Wm (.i 0) rfl <| Nk 3 0 ⟨.l enc_GLeave_ p0::.clo (.func 79) [] [(.d (.ref [(.lit (.int .i64 p1c0))])), (.d (.ref [(.lit (.int .i64 p1c1))]))]::tp 17 [], [], 0⟩ <| Sq <| Sx <| Wm (.l enc_GLeave_ p0) rfl <| Wz (.i ((List.length p0 : Nat) : Int)) (Oln rfl) <| Wm (.i 0) rfl <| Nk 387 0 ⟨.l enc_GLeave_ p0::.clo (.func 79) [] [(.d (.ref [(.lit (.int .i64 p1c0))])), (.d (.ref [(.lit (.int .i64 p1c1))]))]::tp 5 (.i ((List.length p0 : Nat) : Int)::.i 0::tp 10 []), [], 0⟩ <| Bk ?_
 refine AWP.loopI (α := Nat × Int)
   (fun (fu_1, y8_1) => (⟨.l enc_GLeave_ p0::.clo (.func 79) [] [(.d (.ref [(.lit (.int .i64 p1c0))])), (.d (.ref [(.lit (.int .i64 p1c1))]))]::tp 5 (.i ((List.length p0 : Nat) : Int)::.i y8_1::tp 10 []), [], 0⟩ : St))
   (fun (fu_1, y8_1) => m_slices_IndexFunc_Leave__token_Book_May_1_l1 p0 p1c0 p1c1 fu_1 y8_1 = some r)
   (fun (fu_1, y8_1) => fu_1) (1152921504606846976, 0)
   (Weak.toK 387 0 0 []) hm ?_
 rintro ⟨fu_1, y8_1⟩ n_1 hm ih_1
 try dsimp only at hm ih_1 ⊢
 cases fu_1 with
 | zero => exact absurd hm (by unfold m_slices_IndexFunc_Leave__token_Book_May_1_l1; simp)
 | succ fu_1 =>
  unfold m_slices_IndexFunc_Leave__token_Book_May_1_l1 at hm
  refine Sx <| Wz (.b (decide (y8_1 < ((List.length p0 : Nat) : Int)))) (Obn rfl (fun _ => hb_lss (k := .i64))) <| Nk 899 0 ⟨.l enc_GLeave_ p0::.clo (.func 79) [] [(.d (.ref [(.lit (.int .i64 p1c0))])), (.d (.ref [(.lit (.int .i64 p1c1))]))]::tp 5 (.i ((List.length p0 : Nat) : Int)::.i y8_1::.b (decide (y8_1 < ((List.length p0 : Nat) : Int)))::tp 9 []), [], 0⟩ <| Sq ?_
  rcases tf_ (decide (y8_1 < ((List.length p0 : Nat) : Int))) with hc9_3 | hc9_3
  ·
   replace hm := cT hc9_3 hm
   refine AiT hc9_3 <| Sk <| Tk 387 0 ⟨.l enc_GLeave_ p0::.clo (.func 79) [] [(.d (.ref [(.lit (.int .i64 p1c0))])), (.d (.ref [(.lit (.int .i64 p1c1))]))]::tp 5 (.i ((List.length p0 : Nat) : Int)::.i y8_1::tp 10 []), [], 0⟩ <| Sq <| Bk <| Sx <| Wm (.i y8_1) rfl <| Wm (.i y8_1) rfl <| Nk 419 0 ⟨.l enc_GLeave_ p0::.clo (.func 79) [] [(.d (.ref [(.lit (.int .i64 p1c0))])), (.d (.ref [(.lit (.int .i64 p1c1))]))]::tp 3 (.i y8_1::tp 1 (.i ((List.length p0 : Nat) : Int)::.i y8_1::tp 10 [])), [], 0⟩ <| Sx <| Wm (.clo (.func 79) [] [(.d (.ref [(.lit (.int .i64 p1c0))])), (.d (.ref [(.lit (.int .i64 p1c1))]))]) rfl <| Wm (.l enc_GLeave_ p0) rfl <| Wm (.i y8_1) rfl ?_
   obtain ⟨x14_2, hx14_2, hm⟩ := bnd hm
   obtain ⟨hx14_2i, hx14_2g⟩ := geti_some hx14_2
   refine Wz (.d (.ref (List.drop ((Int.toNat y8_1) * 3) (flatD enc_GLeave_ p0)))) (Oia rfl enc_GLeave__len hx14_2i hx14_2g) <| Wz (.agg [(.i x14_2.Point.Loc), (.i x14_2.Point.Time), (.b x14_2.Held)]) (Lf rfl enc_GLeave__len hx14_2g) ?_
   obtain ⟨r16_2, hr16_2, hm⟩ := bnd hm
   refine Wz (.b r16_2) (Ocf [] [] [] 0 (ok_token_Book_May_1 x14_2 p1c0 p1c1 r16_2 hr16_2) (fun a w => Try.call79 a w) rfl trivial) <| Nk 65955 0 ⟨.l enc_GLeave_ p0::.clo (.func 79) [] [(.d (.ref [(.lit (.int .i64 p1c0))])), (.d (.ref [(.lit (.int .i64 p1c1))]))]::tp 3 (.i y8_1::tp 1 (.i ((List.length p0 : Nat) : Int)::.i y8_1::tp 7 (.b r16_2::tp 2 []))), [], 0⟩ ?_
   rcases tf_ r16_2 with hc16_4 | hc16_4
   ·
    replace hm := cT hc16_4 hm
    refine AiT hc16_4 <| Sx <| Wm (.i y8_1) rfl <| Wm (.i y8_1) rfl <| Nn <| Rt <| Ir <| Tr <| RoundK.ret <| Ir <| Tr ?_
    obtain rfl := Option.some.inj hm
    exact ret_i []
   ·
    replace hm := cF hc16_4 hm
    refine AiF hc16_4 <| Sk <| Ino <| Tk 387 0 ⟨.l enc_GLeave_ p0::.clo (.func 79) [] [(.d (.ref [(.lit (.int .i64 p1c0))])), (.d (.ref [(.lit (.int .i64 p1c1))]))]::tp 5 (.i ((List.length p0 : Nat) : Int)::.i y8_1::tp 10 []), [], 0⟩ <| Tx <| Wz (.i (W6 (y8_1 + 1))) (Obn rfl (fun _ => hb_add (k := .i64))) <| Wm (.i (W6 (y8_1 + 1))) rfl <| Wn0 <| RoundK.normal ?_
    exact Rounds.weak (Weak.toK 387 0 0 []) (ih_1 (fu_1, (W6 (y8_1 + 1))) hm (Nat.lt_succ_self _))
  ·
   replace hm := cF hc9_3 hm
   refine AiF hc9_3 <| AWP.exit <| Then.exit <| RoundK.exit <| InBlock.same <| Tk 0 0 ⟨tp 19 [], [], 0⟩ <| Sx <| Wm (.i (-1)) rfl <| Nn <| Rt ?_
   obtain rfl := Option.some.inj hm
   exact ret_i []

theorem ok_slices_ContainsFunc_Leave__token_Book_May_1 (p0 : (List GLeave_)) (p1c0 : Int) (p1c1 : Int) (r : Bool) (h : m_slices_ContainsFunc_Leave__token_Book_May_1 p0 p1c0 p1c1 = some r) : GCall Try.prog 78 [(.l enc_GLeave_ p0), (.clo (.func 79) [] [(.d (.ref [(.lit (.int .i64 p1c0))])), (.d (.ref [(.lit (.int .i64 p1c1))]))])] [] (.b r) [] := by
 refine GCall.of_body (n := 9) (rs := [(.tmp 4)]) Try.func78 rfl rfl rfl <| Ato ⟨.l enc_GLeave_ p0::.clo (.func 79) [] [(.d (.ref [(.lit (.int .i64 p1c0))])), (.d (.ref [(.lit (.int .i64 p1c1))]))]::tu 7 [], [], 0⟩ ?_
 have hm := h
 unfold m_slices_ContainsFunc_Leave__token_Book_May_1 at hm
 refine Sx <| Wm (.b false) rfl <| Nk 3 0 ⟨.l enc_GLeave_ p0::.clo (.func 79) [] [(.d (.ref [(.lit (.int .i64 p1c0))])), (.d (.ref [(.lit (.int .i64 p1c1))]))]::tp 7 [], [], 0⟩ <| Sx <| Wm (.l enc_GLeave_ p0) rfl <| Wm (.clo (.func 79) [] [(.d (.ref [(.lit (.int .i64 p1c0))])), (.d (.ref [(.lit (.int .i64 p1c1))]))]) rfl ?_
 obtain ⟨r7_0, hr7_0, hm⟩ := bnd hm
 refine Wz (.i r7_0) (Ocf [] [] [] 0 (ok_slices_IndexFunc_Leave__token_Book_May_1 p0 p1c0 p1c1 r7_0 hr7_0) (fun a w => Try.call86 a w) rfl trivial) <| Wz (.b (decide ((0 : Int) ≤ r7_0))) (Obn rfl (fun _ => hb_geq (k := .i64))) <| Wm (.b (decide ((0 : Int) ≤ r7_0))) rfl <| Nn <| Rt ?_
 obtain rfl := Option.some.inj hm
 exact ret_i []

theorem ok_token_Book_May (p0 : GBook) (p1 : Int) (p2 : Int) (r : Bool) (h : m_token_Book_May p0 p1 p2 = some r) : GCall Try.prog 61 [(.agg [(.l enc_GLeave_ p0.L)]), (.i p1), (.i p2)] [] (.b r) [] := by
 refine GCall.of_body (n := 11) (rs := [(.tmp 6)]) Try.func61 rfl rfl rfl <| Ato ⟨.agg [(.l enc_GLeave_ p0.L)]::.i p1::.i p2::tu 8 [], [], 0⟩ ?_
 have hm := h
 unfold m_token_Book_May at hm
 refine Sx <| Wy (.loc 0 0) [(0, (.box [(.l enc_GLeave_ p0.L)]))] (Obx rfl) <| Wy (.loc 1 0) [(1, (.box [(.i p1)]))] (Obx rfl) <| Wy (.loc 2 0) [(2, (.box [(.i p2)]))] (Obx rfl) <| Wm (.b false) rfl <| Nk 56 7 ⟨tp 3 (.loc 0 0::.loc 1 0::.loc 2 0::tp 5 []), [(.box [(.l enc_GLeave_ p0.L)]), (.box [(.i p1)]), (.box [(.i p2)])], 0⟩ <| Sx <| Wz (.loc 0 0) (Ofa rfl) <| Wz (.l enc_GLeave_ p0.L) (Old rfl) <| Wz (.clo (.func 79) [] [(.loc 1 0), (.loc 2 0)]) (Ocs (by kernel_rfl) (op_mkfn rfl)) ?_
 obtain ⟨r10_0, hr10_0, hm⟩ := bnd hm
 refine Wz (.b r10_0) (Ocp [] [] [1, 2] 0 (ok_slices_ContainsFunc_Leave__token_Book_May_1 p0.L p1 p2 r10_0 hr10_0) (plain_triv (by simp [A.Plain, A.Plains, D.Plain, byteD])) (fun a w => Try.call78 a w) rfl trivial) <| Wm (.b r10_0) rfl <| Nn <| Rt ?_
 obtain rfl := Option.some.inj hm
 exact ret_i []

theorem ok_token_Book_Get (p0 : GBook) (p1 : Int) (r : (GLeave_ × Bool)) (h : m_token_Book_Get p0 p1 = some r) : GCall Try.prog 64 [(.agg [(.l enc_GLeave_ p0.L)]), (.i p1)] [] (.tup [(.agg [(.i r.1.Point.Loc), (.i r.1.Point.Time), (.b r.1.Held)]), (.b r.2)]) [] := by
 refine GCall.of_body (n := 21) (rs := [(.cell 4 109), (.tmp 5)]) Try.func64 rfl rfl rfl <| Ato ⟨.agg [(.l enc_GLeave_ p0.L)]::.i p1::tu 19 [], [], 0⟩ ?_
 have hm := h
 unfold m_token_Book_Get at hm
 refine Sx <| Wy (.loc 0 0) [(0, (.box [(.l enc_GLeave_ p0.L)]))] (Obx rfl) <| Wy (.loc 1 0) [(1, (.box [(.i 0), (.i 0), (.b false)]))] (Oal rfl) <| Wm (.b false) rfl <| Nk 22 3 ⟨tp 1 (.i p1::.loc 0 0::tp 1 (.loc 1 0::tp 16 [])), [(.box [(.l enc_GLeave_ p0.L)]), (.box [(.i 0), (.i 0), (.b false)])], 0⟩ <| Sq <| Sx <| Wm (.i p1) rfl <| Wz (.b (decide (p1 < 0))) (Obn rfl (fun _ => hb_lss (k := .i64))) ?_
 rcases tf_ (decide (p1 < 0)) with hq8_0 | hq8_0
 ·
  replace hm := cT hq8_0 hm
  refine Wz (.b true) (Oq hq8_0 rfl) <| Wn <| Wn <| Wn <| Wn <| Wn <| Wz (.b true) (OpT rfl) <| Nk 16406 3 ⟨tp 1 (.i p1::.loc 0 0::tp 1 (.loc 1 0::tp 9 (.b true::tp 6 []))), [(.box [(.l enc_GLeave_ p0.L)]), (.box [(.i 0), (.i 0), (.b false)])], 0⟩ <| AWP.if_ true (by kernel_rfl) <| Sx <| Wz (.agg [(.i 0), (.i 0), (.b false)]) (Obd rfl) <| Wy (.tup []) [(1, (.box [(.i 0), (.i 0), (.b false)]))] (Ost rfl) <| Wm (.b false) rfl <| Nn ?_
  refine Rt <| Tr ?_
  obtain rfl := Option.some.inj hm
  exact ret_i []
 ·
  replace hm := cF hq8_0 hm
  refine Wz (.b false) (Oq hq8_0 rfl) <| Wm (.i p1) rfl <| Wz (.loc 0 0) (Ofa rfl) <| Wz (.l enc_GLeave_ p0.L) (Old rfl) <| Wz (.i ((List.length p0.L : Nat) : Int)) (Oln rfl) <| Wz (.b (decide (((List.length p0.L : Nat) : Int) ≤ p1))) (Obn rfl (fun _ => hb_geq (k := .i64))) <| Wz (.b (decide (((List.length p0.L : Nat) : Int) ≤ p1))) (OpF rfl) <| Nk 16406 3 ⟨tp 1 (.i p1::.loc 0 0::tp 1 (.loc 1 0::tp 9 (.b (decide (((List.length p0.L : Nat) : Int) ≤ p1))::tp 6 []))), [(.box [(.l enc_GLeave_ p0.L)]), (.box [(.i 0), (.i 0), (.b false)])], 0⟩ ?_
  rcases tf_ (decide (((List.length p0.L : Nat) : Int) ≤ p1)) with hc14_2 | hc14_2
  ·
   replace hm := cT hc14_2 hm
   refine AiT hc14_2 <| Sx <| Wz (.agg [(.i 0), (.i 0), (.b false)]) (Obd rfl) <| Wy (.tup []) [(1, (.box [(.i 0), (.i 0), (.b false)]))] (Ost rfl) <| Wm (.b false) rfl <| Nn <| Rt <| Tr ?_
   obtain rfl := Option.some.inj hm
   exact ret_i []
  ·
   replace hm := cF hc14_2 hm
   refine AiF hc14_2 <| Sk <| Tk 22 3 ⟨tp 1 (.i p1::.loc 0 0::tp 1 (.loc 1 0::tp 16 [])), [(.box [(.l enc_GLeave_ p0.L)]), (.box [(.i 0), (.i 0), (.b false)])], 0⟩ <| Sx <| Wz (.loc 0 0) (Ofa rfl) <| Wz (.l enc_GLeave_ p0.L) (Old rfl) <| Wm (.i p1) rfl ?_
   obtain ⟨x19_1, hx19_1, hm⟩ := bnd hm
   obtain ⟨hx19_1i, hx19_1g⟩ := geti_some hx19_1
   refine Wz (.d (.ref (List.drop ((Int.toNat p1) * 3) (flatD enc_GLeave_ p0.L)))) (Oia rfl enc_GLeave__len hx19_1i hx19_1g) <| Wz (.agg [(.i x19_1.Point.Loc), (.i x19_1.Point.Time), (.b x19_1.Held)]) (Lf rfl enc_GLeave__len hx19_1g) <| Wy (.tup []) [(1, (.box [(.i x19_1.Point.Loc), (.i x19_1.Point.Time), (.b x19_1.Held)]))] (Ost rfl) <| Wm (.b true) rfl <| Nn <| Rt ?_
   obtain rfl := Option.some.inj hm
   exact ret_i []

theorem ok_token_Book_held (p0 : GBook) (p1 : Int) (r : (GLeave_ × Int)) (h : m_token_Book_held p0 p1 = some r) : GCall Try.prog 80 [(.agg [(.l enc_GLeave_ p0.L)]), (.i p1)] [] (.tup [(.agg [(.i r.1.Point.Loc), (.i r.1.Point.Time), (.b r.1.Held)]), (.i r.2)]) [] := by
 refine GCall.of_body (n := 24) (rs := [(.cell 4 109), (.tmp 5)]) Try.func80 rfl rfl rfl <| Ato ⟨.agg [(.l enc_GLeave_ p0.L)]::.i p1::tu 22 [], [], 0⟩ ?_
 have hm := h
 unfold m_token_Book_held at hm
 refine Sx <| Wy (.loc 0 0) [(0, (.box [(.l enc_GLeave_ p0.L)]))] (Obx rfl) <| Wy (.loc 1 0) [(1, (.box [(.i 0), (.i 0), (.b false)]))] (Oal rfl) <| Wm (.i 0) rfl <| Nk 22 3 ⟨tp 1 (.i p1::.loc 0 0::tp 1 (.loc 1 0::tp 19 [])), [(.box [(.l enc_GLeave_ p0.L)]), (.box [(.i 0), (.i 0), (.b false)])], 0⟩ <| Sx <| Wz (.agg [(.l enc_GLeave_ p0.L)]) (Old rfl) <| Wm (.i p1) rfl ?_
 obtain ⟨r11_0, hr11_0, hm⟩ := bnd hm
 refine Wz (.tup [(.agg [(.i r11_0.1.Point.Loc), (.i r11_0.1.Point.Time), (.b r11_0.1.Held)]), (.b r11_0.2)]) (Ocf [] [] [] 0 (ok_token_Book_Get p0 p1 r11_0 hr11_0) (fun a w => Try.call64 a w) rfl trivial) <| Wm (.tup [(.agg [(.i r11_0.1.Point.Loc), (.i r11_0.1.Point.Time), (.b r11_0.1.Held)]), (.b r11_0.2)]) rfl <| Wz (.agg [(.i r11_0.1.Point.Loc), (.i r11_0.1.Point.Time), (.b r11_0.1.Held)]) (Oex rfl) <| Wz (.b r11_0.2) (Oex rfl) <| Wy (.loc 2 0) [(2, (.box [(.i 0), (.i 0), (.b false)]))] (Oal rfl) <| Wy (.tup []) [(2, (.box [(.i r11_0.1.Point.Loc), (.i r11_0.1.Point.Time), (.b r11_0.1.Held)]))] (Ost rfl) <| Wm (.b r11_0.2) rfl <| Nk 208 6 ⟨tp 4 (.loc 1 0::tp 1 (.loc 2 0::.b r11_0.2::tp 16 [])), [.gone, (.box [(.i 0), (.i 0), (.b false)]), (.box [(.i r11_0.1.Point.Loc), (.i r11_0.1.Point.Time), (.b r11_0.1.Held)])], 0⟩ <| Sq <| Bk <| Sx <| Wm (.b r11_0.2) rfl <| Wz (.b (!r11_0.2)) (Ocs (by kernel_rfl) (op_un rfl (a1 := .bool r11_0.2) (by kernel_rfl) (fun _ => hu_not))) <| Wm (.b (!r11_0.2)) rfl ?_
 refine Nk 16464 6 ⟨tp 4 (.loc 1 0::tp 1 (.loc 2 0::tp 7 (.b (!r11_0.2)::tp 9 []))), [.gone, (.box [(.i 0), (.i 0), (.b false)]), (.box [(.i r11_0.1.Point.Loc), (.i r11_0.1.Point.Time), (.b r11_0.1.Held)])], 0⟩ ?_
 rcases tf_ (!r11_0.2) with hc14_1 | hc14_1
 ·
  replace hm := cT hc14_1 hm
  refine AiT hc14_1 <| Sx <| Wz (.agg [(.i 0), (.i 0), (.b false)]) (Obd rfl) <| Wy (.tup []) [(1, (.box [(.i 0), (.i 0), (.b false)]))] (Ost rfl) <| Wm (.i 6) rfl <| Nn <| Rt <| Ir <| Tr ?_
  obtain rfl := Option.some.inj hm
  exact ret_i []
 ·
  replace hm := cF hc14_1 hm
  refine AiF hc14_1 <| Sx <| Wz (.loc 2 2) (Ofa rfl) <| Wz (.b r11_0.1.Held) (Old rfl) <| Wz (.b (!r11_0.1.Held)) (Ocs (by kernel_rfl) (op_un rfl (a1 := .bool r11_0.1.Held) (by kernel_rfl) (fun _ => hu_not))) <| Wm (.b (!r11_0.1.Held)) rfl <| Nk 262224 6 ⟨tp 4 (.loc 1 0::tp 1 (.loc 2 0::tp 11 (.b (!r11_0.1.Held)::tp 5 []))), [.gone, (.box [(.i 0), (.i 0), (.b false)]), (.box [(.i r11_0.1.Point.Loc), (.i r11_0.1.Point.Time), (.b r11_0.1.Held)])], 0⟩ ?_
  rcases tf_ (!r11_0.1.Held) with hc18_2 | hc18_2
  ·
   replace hm := cT hc18_2 hm
   refine AiT hc18_2 <| Sx <| Wz (.agg [(.i 0), (.i 0), (.b false)]) (Obd rfl) <| Wy (.tup []) [(1, (.box [(.i 0), (.i 0), (.b false)]))] (Ost rfl) <| Wm (.i 20) rfl <| Nn <| Rt <| Ir <| Tr ?_
   obtain rfl := Option.some.inj hm
   exact ret_i []
  ·
   replace hm := cF hc18_2 hm
   refine AiF hc18_2 <| Sk <| Ino <| Tk 80 6 ⟨tp 4 (.loc 1 0::tp 1 (.loc 2 0::tp 17 [])), [.gone, (.box [(.i 0), (.i 0), (.b false)]), (.box [(.i r11_0.1.Point.Loc), (.i r11_0.1.Point.Time), (.b r11_0.1.Held)])], 0⟩ <| Sx <| Wz (.agg [(.i r11_0.1.Point.Loc), (.i r11_0.1.Point.Time), (.b r11_0.1.Held)]) (Old rfl) <| Wy (.tup []) [(1, (.box [(.i r11_0.1.Point.Loc), (.i r11_0.1.Point.Time), (.b r11_0.1.Held)]))] (Ost rfl) <| Wm (.i 0) rfl <| Nn <| Rt ?_
   obtain rfl := Option.some.inj hm
   exact ret_i []

theorem ok_token_Book_with (p0 : GBook) (p1 : Int) (p2 : GLeave_) (r : GBook) (h : m_token_Book_with p0 p1 p2 = some r) : GCall Try.prog 81 [(.agg [(.l enc_GLeave_ p0.L)]), (.i p1), (.agg [(.i p2.Point.Loc), (.i p2.Point.Time), (.b p2.Held)])] [] (.agg [(.own 0)]) [(Ar 109 3 enc_GLeave_ r.L)] := by
 refine GCall.of_body (n := 17) (rs := [(.cell 6 72)]) Try.func81 rfl rfl rfl <| Ato ⟨.agg [(.l enc_GLeave_ p0.L)]::.i p1::.agg [(.i p2.Point.Loc), (.i p2.Point.Time), (.b p2.Held)]::tu 14 [], [], 0⟩ ?_
 have hm := h
 unfold m_token_Book_with at hm
 refine Sx <| Wy (.loc 0 0) [(0, (.box [(.l enc_GLeave_ p0.L)]))] (Obx rfl) <| Wy (.loc 1 0) [(1, (.box [(.i p2.Point.Loc), (.i p2.Point.Time), (.b p2.Held)]))] (Obx rfl) <| Wy (.loc 2 0) [(2, (.box [(.d .nil)]))] (Oal rfl) <| Nk 106 7 ⟨tp 1 (.i p1::tp 1 (.loc 0 0::tp 1 (.loc 1 0::.loc 2 0::tp 10 []))), [(.box [(.l enc_GLeave_ p0.L)]), (.box [(.i p2.Point.Loc), (.i p2.Point.Time), (.b p2.Held)]), (.box [(.d .nil)])], 0⟩ <| Sx <| Wz (.loc 0 0) (Ofa rfl) <| Wz (.l enc_GLeave_ p0.L) (Old rfl) ?_
 obtain ⟨r10_0, hr10_0, hm⟩ := bnd hm
 refine Wy (.own 3) [(3, (Ar 109 3 enc_GLeave_ r10_0))] (Ocf [] [3] [] 0 (ok_slices_Clone_Leave p0.L r10_0 hr10_0) (fun a w => Try.call59 a w) rfl trivial) <| Wm (.own 3) rfl <| Nk 226 14 ⟨tp 1 (.i p1::tp 3 (.loc 1 0::.loc 2 0::.own 3::tp 9 [])), [.gone, (.box [(.i p2.Point.Loc), (.i p2.Point.Time), (.b p2.Held)]), (.box [(.d .nil)]), (Ar 109 3 enc_GLeave_ r10_0)], 0⟩ <| Sx <| Wm (.own 3) rfl <| Wm (.i p1) rfl <| Wz (.agg [(.i p2.Point.Loc), (.i p2.Point.Time), (.b p2.Held)]) (Old rfl) ?_
 obtain ⟨x14_1, hx14_1, hm⟩ := bnd hm
 obtain ⟨hx14_1i, hx14_1g⟩ := geti_some hx14_1
 refine Wz (.loc 3 ((Int.toNat p1) * 3)) (Oia rfl enc_GLeave__len hx14_1i hx14_1g) <| Wy (.tup []) [(3, (Ar 109 3 enc_GLeave_ (List.set r10_0 (Int.toNat p1) p2)))] (Osr 0 rfl enc_GLeave__len hx14_1g p2) <| Nk 192 12 ⟨tp 6 (.loc 2 0::.own 3::tp 9 []), [.gone, .gone, (.box [(.d .nil)]), (Ar 109 3 enc_GLeave_ (List.set r10_0 (Int.toNat p1) p2))], 0⟩ <| Sx <| Wm (.own 3) rfl <| Wz (.agg [(.own 3)]) (Obd rfl) <| Wy (.tup []) [(2, (.box [(.own 3)]))] (Ost rfl) <| Nn <| Rt ?_
 obtain rfl := Option.some.inj hm
 exact ret_i [3]

theorem ok_token_Book_Lower (p0 : GBook) (p1 : Int) (p2 : Int) (r : (GBook × (List GChange) × Int)) (h : m_token_Book_Lower p0 p1 p2 = some r) : GCall Try.prog 62 [(.agg [(.l enc_GLeave_ p0.L)]), (.i p1), (.i p2)] [] (.tup [(.agg [(.l enc_GLeave_ r.1.L)]), (.l enc_GChange r.2.1), (.i r.2.2)]) [] := by
 refine GCall.of_body (n := 48) (rs := [(.cell 6 72), (.tmp 7), (.tmp 8)]) Try.func62 rfl rfl rfl <| Ato ⟨.agg [(.l enc_GLeave_ p0.L)]::.i p1::.i p2::tu 45 [], [], 0⟩ ?_
 have hm := h
 unfold m_token_Book_Lower at hm
 refine Sx <| Wy (.loc 0 0) [(0, (.box [(.l enc_GLeave_ p0.L)]))] (Obx rfl) <| Wy (.loc 1 0) [(1, (.box [(.d .nil)]))] (Oal rfl) <| Wm (.d .nil) rfl <| Wm (.i 0) rfl <| Nk 78 3 ⟨tp 1 (.i p1::.i p2::.loc 0 0::tp 2 (.loc 1 0::tp 41 [])), [(.box [(.l enc_GLeave_ p0.L)]), (.box [(.d .nil)])], 0⟩ <| Sx <| Wz (.agg [(.l enc_GLeave_ p0.L)]) (Old rfl) <| Wm (.i p1) rfl ?_
 obtain ⟨r15_0, hr15_0, hm⟩ := bnd hm
 refine Wz (.tup [(.agg [(.i r15_0.1.Point.Loc), (.i r15_0.1.Point.Time), (.b r15_0.1.Held)]), (.i r15_0.2)]) (Ocf [] [] [] 0 (ok_token_Book_held p0 p1 r15_0 hr15_0) (fun a w => Try.call80 a w) rfl trivial) <| Wm (.tup [(.agg [(.i r15_0.1.Point.Loc), (.i r15_0.1.Point.Time), (.b r15_0.1.Held)]), (.i r15_0.2)]) rfl <| Wz (.agg [(.i r15_0.1.Point.Loc), (.i r15_0.1.Point.Time), (.b r15_0.1.Held)]) (Oex rfl) <| Wz (.i r15_0.2) (Oex rfl) <| Wy (.loc 2 0) [(2, (.box [(.i 0), (.i 0), (.b false)]))] (Oal rfl) <| Wy (.tup []) [(2, (.box [(.i r15_0.1.Point.Loc), (.i r15_0.1.Point.Time), (.b r15_0.1.Held)]))] (Ost rfl) <| Wm (.i r15_0.2) rfl <| Nk 1614 7 ⟨tp 1 (.i p1::.i p2::.loc 0 0::tp 2 (.loc 1 0::tp 2 (.loc 2 0::.i r15_0.2::tp 37 []))), [(.box [(.l enc_GLeave_ p0.L)]), (.box [(.d .nil)]), (.box [(.i r15_0.1.Point.Loc), (.i r15_0.1.Point.Time), (.b r15_0.1.Held)])], 0⟩ <| Sq <| Sx <| Wm (.i r15_0.2) rfl <| Wz (.b (decide (r15_0.2 ≠ 0))) (Obn rfl (fun _ => hb_neq (k := .i64))) <| Nk 525902 7 ⟨tp 1 (.i p1::.i p2::.loc 0 0::tp 2 (.loc 1 0::tp 2 (.loc 2 0::.i r15_0.2::tp 8 (.b (decide (r15_0.2 ≠ 0))::tp 28 [])))), [(.box [(.l enc_GLeave_ p0.L)]), (.box [(.d .nil)]), (.box [(.i r15_0.1.Point.Loc), (.i r15_0.1.Point.Time), (.b r15_0.1.Held)])], 0⟩ ?_
 rcases tf_ (decide (r15_0.2 ≠ 0)) with hc19_4 | hc19_4
 ·
  replace hm := cT hc19_4 hm
  refine AiT hc19_4 <| Sx <| Wz (.agg [(.l enc_GLeave_ p0.L)]) (Old rfl) <| Wm (.i r15_0.2) rfl <| Wy (.tup []) [(1, (.box [(.l enc_GLeave_ p0.L)]))] (Ost rfl) <| Wm (.d .nil) rfl <| Wm (.i r15_0.2) rfl <| Nn <| Rt <| Tr ?_
  obtain rfl := Option.some.inj hm
  exact ret_i []
 ·
  replace hm := cF hc19_4 hm
  refine AiF hc19_4 <| Sk <| Tk 590 7 ⟨tp 1 (.i p1::.i p2::.loc 0 0::tp 2 (.loc 1 0::tp 2 (.loc 2 0::tp 38 []))), [(.box [(.l enc_GLeave_ p0.L)]), (.box [(.d .nil)]), (.box [(.i r15_0.1.Point.Loc), (.i r15_0.1.Point.Time), (.b r15_0.1.Held)])], 0⟩ <| Sq <| Sx <| Wm (.i p2) rfl <| Wz (.b (decide ((1099511627776 : Int) < p2))) (Obn rfl (fun _ => hb_gtr (k := .i64))) ?_
  rcases tf_ (decide ((1099511627776 : Int) < p2)) with hq24_1 | hq24_1
  ·
   replace hm := cT hq24_1 hm
   refine Wz (.b true) (Oq hq24_1 rfl) <| Wn <| Wn <| Wn <| Wn <| Wn <| Wz (.b true) (OpT rfl) <| Nk 1073742414 7 ⟨tp 1 (.i p1::.i p2::.loc 0 0::tp 2 (.loc 1 0::tp 2 (.loc 2 0::tp 20 (.b true::tp 17 [])))), [(.box [(.l enc_GLeave_ p0.L)]), (.box [(.d .nil)]), (.box [(.i r15_0.1.Point.Loc), (.i r15_0.1.Point.Time), (.b r15_0.1.Held)])], 0⟩ <| AWP.if_ true (by kernel_rfl) <| Sx <| Wz (.agg [(.l enc_GLeave_ p0.L)]) (Old rfl) <| Wy (.tup []) [(1, (.box [(.l enc_GLeave_ p0.L)]))] (Ost rfl) <| Wm (.d .nil) rfl <| Wm (.i 8) rfl ?_
   refine Nn <| Rt <| Tr ?_
   obtain rfl := Option.some.inj hm
   exact ret_i []
  ·
   replace hm := cF hq24_1 hm
   refine Wz (.b false) (Oq hq24_1 rfl) <| Wm (.i p2) rfl <| Wz (.loc 2 0) (Ofa rfl) <| Wz (.loc 2 1) (Ofa rfl) <| Wz (.i r15_0.1.Point.Time) (Old rfl) <| Wz (.b (decide (p2 < r15_0.1.Point.Time))) (Obn rfl (fun _ => hb_lss (k := .i64))) <| Wz (.b (decide (p2 < r15_0.1.Point.Time))) (OpF rfl) <| Nk 1073742414 7 ⟨tp 1 (.i p1::.i p2::.loc 0 0::tp 2 (.loc 1 0::tp 2 (.loc 2 0::tp 20 (.b (decide (p2 < r15_0.1.Point.Time))::tp 17 [])))), [(.box [(.l enc_GLeave_ p0.L)]), (.box [(.d .nil)]), (.box [(.i r15_0.1.Point.Loc), (.i r15_0.1.Point.Time), (.b r15_0.1.Held)])], 0⟩ ?_
   rcases tf_ (decide (p2 < r15_0.1.Point.Time)) with hc30_5 | hc30_5
   ·
    replace hm := cT hc30_5 hm
    refine AiT hc30_5 <| Sx <| Wz (.agg [(.l enc_GLeave_ p0.L)]) (Old rfl) <| Wy (.tup []) [(1, (.box [(.l enc_GLeave_ p0.L)]))] (Ost rfl) <| Wm (.d .nil) rfl <| Wm (.i 8) rfl <| Nn <| Rt <| Tr ?_
    obtain rfl := Option.some.inj hm
    exact ret_i []
   ·
    replace hm := cF hc30_5 hm
    refine AiF hc30_5 <| Sk <| Tk 590 7 ⟨tp 1 (.i p1::.i p2::.loc 0 0::tp 2 (.loc 1 0::tp 2 (.loc 2 0::tp 38 []))), [(.box [(.l enc_GLeave_ p0.L)]), (.box [(.d .nil)]), (.box [(.i r15_0.1.Point.Loc), (.i r15_0.1.Point.Time), (.b r15_0.1.Held)])], 0⟩ <| Sx <| Wz (.loc 2 0) (Ofa rfl) <| Wz (.agg [(.i r15_0.1.Point.Loc), (.i r15_0.1.Point.Time)]) (Old rfl) ?_
    obtain ⟨r34_2, hr34_2, hm⟩ := bnd hm
    refine Wz (.agg [(.i r34_2.Loc), (.i r34_2.Time), (.i r34_2.N)]) (Ocf [] [] [] 0 (ok_token_Point_change r15_0.1.Point (-1) r34_2 hr34_2) (fun a w => Try.call60 a w) rfl trivial) <| Wy (.loc 3 0) [(3, (.box [(.i 0), (.i 0), (.i 0)]))] (Oal rfl) <| Wy (.tup []) [(3, (.box [(.i r34_2.Loc), (.i r34_2.Time), (.i r34_2.N)]))] (Ost rfl) <| Nk 2638 15 ⟨tp 1 (.i p1::.i p2::.loc 0 0::tp 2 (.loc 1 0::tp 2 (.loc 2 0::tp 1 (.loc 3 0::tp 36 [])))), [(.box [(.l enc_GLeave_ p0.L)]), (.box [(.d .nil)]), (.box [(.i r15_0.1.Point.Loc), (.i r15_0.1.Point.Time), (.b r15_0.1.Held)]), (.box [(.i r34_2.Loc), (.i r34_2.Time), (.i r34_2.N)])], 0⟩ <| Sx <| Wm (.i p2) rfl <| Wz (.loc 2 0) (Ofa rfl) <| Wz (.loc 2 1) (Ofa rfl) <| Wy (.tup []) [(2, (.box [(.i r15_0.1.Point.Loc), (.i p2), (.b r15_0.1.Held)]))] (Ost rfl) <| Nk 2634 15 ⟨tp 1 (.i p1::tp 1 (.loc 0 0::tp 2 (.loc 1 0::tp 2 (.loc 2 0::tp 1 (.loc 3 0::tp 36 []))))), [(.box [(.l enc_GLeave_ p0.L)]), (.box [(.d .nil)]), (.box [(.i r15_0.1.Point.Loc), (.i p2), (.b r15_0.1.Held)]), (.box [(.i r34_2.Loc), (.i r34_2.Time), (.i r34_2.N)])], 0⟩ <| Sq <| Adr <| Wz (.agg [(.l enc_GLeave_ p0.L)]) (Old rfl) <| Wm (.i p1) rfl ?_
    refine Wz (.agg [(.i r15_0.1.Point.Loc), (.i p2), (.b r15_0.1.Held)]) (Old rfl) ?_
    obtain ⟨r41_3, hr41_3, hm⟩ := bnd hm
    refine Wy (.agg [(.own 4)]) [(4, (Ar 109 3 enc_GLeave_ r41_3.L))] (Ocf [] [4] [] 0 (ok_token_Book_with p0 p1 (GLeave_.mk (GPoint.mk r15_0.1.Point.Loc p2) r15_0.1.Held) r41_3 hr41_3) (fun a w => Try.call81 a w) rfl trivial) <| Wz (.agg [(.i r34_2.Loc), (.i r34_2.Time), (.i r34_2.N)]) (Old rfl) <| Wz (.loc 2 0) (Ofa rfl) <| Wz (.agg [(.i r15_0.1.Point.Loc), (.i p2)]) (Old rfl) ?_
    obtain ⟨r45_3, hr45_3, hm⟩ := bnd hm
    refine Wz (.agg [(.i r45_3.Loc), (.i r45_3.Time), (.i r45_3.N)]) (Ocf [] [] [] 0 (ok_token_Point_change (GPoint.mk r15_0.1.Point.Loc p2) 1 r45_3 hr45_3) (fun a w => Try.call60 a w) rfl trivial) <| Wy (.own 5) [(5, (Ar 84 3 enc_GChange ([r34_2, r45_3] : List GChange)))] (Obs rfl) ?_
    obtain ⟨r47_3, hr47_3, hm⟩ := bnd hm
    refine Wy (.l enc_GChange r47_3) [(5, (.fro 84 3 (List.length ([r34_2, r45_3] : List GChange)) (flatD enc_GChange ([r34_2, r45_3] : List GChange))))] (Ocf [] [] [5] 0 (ok_tally_Normal ([r34_2, r45_3] : List GChange) r47_3 hr47_3) (fun a w => Try.call30 a w) rfl trivial) <| Wy (.tup []) [(1, (.box [(.own 4)]))] (Ost rfl) <| Wm (.l enc_GChange r47_3) rfl <| Wm (.i 0) rfl <| Wdr <| Tn <| Afz [4] ⟨tp 1 (.i p1::tp 1 (.loc 0 0::tp 2 (.loc 1 0::.l enc_GChange r47_3::.i 0::.loc 2 0::tp 1 (.loc 3 0::tp 26 (.agg [(.l enc_GLeave_ p0.L)]::.i p1::.agg [(.i r15_0.1.Point.Loc), (.i p2), (.b r15_0.1.Held)]::.agg [(.l enc_GLeave_ r41_3.L)]::.agg [(.i r34_2.Loc), (.i r34_2.Time), (.i r34_2.N)]::.loc 2 0::.agg [(.i r15_0.1.Point.Loc), (.i p2)]::.agg [(.i r45_3.Loc), (.i r45_3.Time), (.i r45_3.N)]::.own 5::.l enc_GChange r47_3::[]))))), [(.box [(.l enc_GLeave_ p0.L)]), (.box [(.l enc_GLeave_ r41_3.L)]), (.box [(.i r15_0.1.Point.Loc), (.i p2), (.b r15_0.1.Held)]), (.box [(.i r34_2.Loc), (.i r34_2.Time), (.i r34_2.N)]), (.fro 109 3 (List.length r41_3.L) (flatD enc_GLeave_ r41_3.L)), (.fro 84 3 (List.length ([r34_2, r45_3] : List GChange)) (flatD enc_GChange ([r34_2, r45_3] : List GChange)))], 0⟩ <| Rt ?_
    obtain rfl := Option.some.inj hm
    exact ret_i []

theorem ok_token_Book_Drop (p0 : GBook) (p1 : Int) (r : (GBook × (List GChange) × Int)) (h : m_token_Book_Drop p0 p1 = some r) : GCall Try.prog 63 [(.agg [(.l enc_GLeave_ p0.L)]), (.i p1)] [] (.tup [(.agg [(.l enc_GLeave_ r.1.L)]), (.own 0), (.i r.2.2)]) [(Ar 84 3 enc_GChange r.2.1)] := by
 refine GCall.of_body (n := 28) (rs := [(.cell 4 72), (.tmp 5), (.tmp 6)]) Try.func63 rfl rfl rfl <| Ato ⟨.agg [(.l enc_GLeave_ p0.L)]::.i p1::tu 26 [], [], 0⟩ ?_
 have hm := h
 unfold m_token_Book_Drop at hm
 refine Sx <| Wy (.loc 0 0) [(0, (.box [(.l enc_GLeave_ p0.L)]))] (Obx rfl) <| Wy (.loc 1 0) [(1, (.box [(.d .nil)]))] (Oal rfl) <| Wm (.d .nil) rfl <| Wm (.i 0) rfl <| Nk 22 3 ⟨tp 1 (.i p1::.loc 0 0::tp 1 (.loc 1 0::tp 23 [])), [(.box [(.l enc_GLeave_ p0.L)]), (.box [(.d .nil)])], 0⟩ <| Sx <| Wz (.agg [(.l enc_GLeave_ p0.L)]) (Old rfl) <| Wm (.i p1) rfl ?_
 obtain ⟨r12_0, hr12_0, hm⟩ := bnd hm
 refine Wz (.tup [(.agg [(.i r12_0.1.Point.Loc), (.i r12_0.1.Point.Time), (.b r12_0.1.Held)]), (.i r12_0.2)]) (Ocf [] [] [] 0 (ok_token_Book_held p0 p1 r12_0 hr12_0) (fun a w => Try.call80 a w) rfl trivial) <| Wm (.tup [(.agg [(.i r12_0.1.Point.Loc), (.i r12_0.1.Point.Time), (.b r12_0.1.Held)]), (.i r12_0.2)]) rfl <| Wz (.agg [(.i r12_0.1.Point.Loc), (.i r12_0.1.Point.Time), (.b r12_0.1.Held)]) (Oex rfl) <| Wz (.i r12_0.2) (Oex rfl) <| Wy (.loc 2 0) [(2, (.box [(.i 0), (.i 0), (.b false)]))] (Oal rfl) <| Wy (.tup []) [(2, (.box [(.i r12_0.1.Point.Loc), (.i r12_0.1.Point.Time), (.b r12_0.1.Held)]))] (Ost rfl) <| Wm (.i r12_0.2) rfl <| Nk 406 7 ⟨tp 1 (.i p1::.loc 0 0::tp 1 (.loc 1 0::tp 2 (.loc 2 0::.i r12_0.2::tp 19 []))), [(.box [(.l enc_GLeave_ p0.L)]), (.box [(.d .nil)]), (.box [(.i r12_0.1.Point.Loc), (.i r12_0.1.Point.Time), (.b r12_0.1.Held)])], 0⟩ <| Sq <| Sx <| Wm (.i r12_0.2) rfl <| Wz (.b (decide (r12_0.2 ≠ 0))) (Obn rfl (fun _ => hb_neq (k := .i64))) <| Nk 65942 7 ⟨tp 1 (.i p1::.loc 0 0::tp 1 (.loc 1 0::tp 2 (.loc 2 0::.i r12_0.2::tp 7 (.b (decide (r12_0.2 ≠ 0))::tp 11 [])))), [(.box [(.l enc_GLeave_ p0.L)]), (.box [(.d .nil)]), (.box [(.i r12_0.1.Point.Loc), (.i r12_0.1.Point.Time), (.b r12_0.1.Held)])], 0⟩ ?_
 rcases tf_ (decide (r12_0.2 ≠ 0)) with hc16_2 | hc16_2
 ·
  replace hm := cT hc16_2 hm
  refine AiT hc16_2 <| Sx <| Wz (.agg [(.l enc_GLeave_ p0.L)]) (Old rfl) <| Wm (.i r12_0.2) rfl <| Wy (.tup []) [(1, (.box [(.l enc_GLeave_ p0.L)]))] (Ost rfl) <| Wm (.d .nil) rfl <| Wm (.i r12_0.2) rfl <| Nn <| Aow 5 84 3 ⟨tp 1 (.i p1::.loc 0 0::tp 1 (.loc 1 0::.own 3::.i r12_0.2::.loc 2 0::.i r12_0.2::tp 7 (.b (decide (r12_0.2 ≠ 0))::.agg [(.l enc_GLeave_ p0.L)]::.i r12_0.2::tp 9 []))), [(.box [(.l enc_GLeave_ p0.L)]), (.box [(.l enc_GLeave_ p0.L)]), (.box [(.i r12_0.1.Point.Loc), (.i r12_0.1.Point.Time), (.b r12_0.1.Held)]), (Ar 84 3 enc_GChange ([] : List GChange))], 0⟩ <| Rt <| Tr ?_
  obtain rfl := Option.some.inj hm
  exact ret_i [3]
 ·
  replace hm := cF hc16_2 hm
  refine AiF hc16_2 <| Sk <| Tk 150 7 ⟨tp 1 (.i p1::.loc 0 0::tp 1 (.loc 1 0::tp 2 (.loc 2 0::tp 20 []))), [(.box [(.l enc_GLeave_ p0.L)]), (.box [(.d .nil)]), (.box [(.i r12_0.1.Point.Loc), (.i r12_0.1.Point.Time), (.b r12_0.1.Held)])], 0⟩ <| Sx <| Wz (.loc 2 2) (Ofa rfl) <| Wy (.tup []) [(2, (.box [(.i r12_0.1.Point.Loc), (.i r12_0.1.Point.Time), (.b false)]))] (Ost rfl) <| Nk 150 7 ⟨tp 1 (.i p1::.loc 0 0::tp 1 (.loc 1 0::tp 2 (.loc 2 0::tp 20 []))), [(.box [(.l enc_GLeave_ p0.L)]), (.box [(.d .nil)]), (.box [(.i r12_0.1.Point.Loc), (.i r12_0.1.Point.Time), (.b false)])], 0⟩ <| Sq <| Adr <| Wz (.agg [(.l enc_GLeave_ p0.L)]) (Old rfl) <| Wm (.i p1) rfl <| Wz (.agg [(.i r12_0.1.Point.Loc), (.i r12_0.1.Point.Time), (.b false)]) (Old rfl) ?_
  obtain ⟨r23_1, hr23_1, hm⟩ := bnd hm
  refine Wy (.agg [(.own 3)]) [(3, (Ar 109 3 enc_GLeave_ r23_1.L))] (Ocf [] [3] [] 0 (ok_token_Book_with p0 p1 (GLeave_.mk r12_0.1.Point false) r23_1 hr23_1) (fun a w => Try.call81 a w) rfl trivial) <| Wz (.loc 2 0) (Ofa rfl) <| Wz (.agg [(.i r12_0.1.Point.Loc), (.i r12_0.1.Point.Time)]) (Old rfl) ?_
  obtain ⟨r26_1, hr26_1, hm⟩ := bnd hm
  refine Wz (.agg [(.i r26_1.Loc), (.i r26_1.Time), (.i r26_1.N)]) (Ocf [] [] [] 0 (ok_token_Point_change r12_0.1.Point (-1) r26_1 hr26_1) (fun a w => Try.call60 a w) rfl trivial) <| Wy (.own 4) [(4, (Ar 84 3 enc_GChange ([r26_1] : List GChange)))] (Obs rfl) <| Wy (.tup []) [(1, (.box [(.own 3)]))] (Ost rfl) <| Wm (.own 4) rfl <| Wm (.i 0) rfl <| Wdr <| Tn <| Afz [3] ⟨tp 1 (.i p1::.loc 0 0::tp 1 (.loc 1 0::.own 4::.i 0::.loc 2 0::tp 12 (.agg [(.l enc_GLeave_ p0.L)]::.i p1::.agg [(.i r12_0.1.Point.Loc), (.i r12_0.1.Point.Time), (.b false)]::.agg [(.l enc_GLeave_ r23_1.L)]::.loc 2 0::.agg [(.i r12_0.1.Point.Loc), (.i r12_0.1.Point.Time)]::.agg [(.i r26_1.Loc), (.i r26_1.Time), (.i r26_1.N)]::.own 4::[]))), [(.box [(.l enc_GLeave_ p0.L)]), (.box [(.l enc_GLeave_ r23_1.L)]), (.box [(.i r12_0.1.Point.Loc), (.i r12_0.1.Point.Time), (.b false)]), (.fro 109 3 (List.length r23_1.L) (flatD enc_GLeave_ r23_1.L)), (Ar 84 3 enc_GChange ([r26_1] : List GChange))], 0⟩ <| Rt ?_
  obtain rfl := Option.some.inj hm
  exact ret_i [4]

theorem ok_w29_crew_least (p0 : GTcrew) (r : Int) (h : m_w29_crew_least p0 = some r) : GCall Try.prog 35 [(.loc 0 0)] [(.box [(.i p0.net.Cap), (.l (encL enc_GChange) p0.net.Views), (.l (encL enc_GChange) p0.net.Pending), (.d (.mp (Option.isNone p0.net.Links) (mks kv_22 (ml p0.net.Links)) (mds (slD (encL enc_GChange)) (ml p0.net.Links)))), (.own 1), (.own 2)]), (Ar 72 1 enc_GBook p0.books), (.arr 3 1 (List.length p0.things) (flatD (encI .i64) p0.things))] (.i r) [(.box [(.i p0.net.Cap), (.l (encL enc_GChange) p0.net.Views), (.l (encL enc_GChange) p0.net.Pending), (.d (.mp (Option.isNone p0.net.Links) (mks kv_22 (ml p0.net.Links)) (mds (slD (encL enc_GChange)) (ml p0.net.Links)))), (.own 1), (.own 2)]), (Ar 72 1 enc_GBook p0.books), (.arr 3 1 (List.length p0.things) (flatD (encI .i64) p0.things))] := by
 refine GCall.of_body (n := 57) (rs := [(.tmp 2)]) Try.func35 rfl rfl rfl <| Ato ⟨.loc 0 0::tu 56 [], [(.box [(.i p0.net.Cap), (.l (encL enc_GChange) p0.net.Views), (.l (encL enc_GChange) p0.net.Pending), (.d (.mp (Option.isNone p0.net.Links) (mks kv_22 (ml p0.net.Links)) (mds (slD (encL enc_GChange)) (ml p0.net.Links)))), (.own 1), (.own 2)]), (Ar 72 1 enc_GBook p0.books), (.arr 3 1 (List.length p0.things) (flatD (encI .i64) p0.things))], 3⟩ ?_
 have hm := h
 unfold m_w29_crew_least at hm
 refine Sx <| Wm (.i 0) rfl <| Nk 1 7 ⟨.loc 0 0::tp 56 [], [(.box [(.i p0.net.Cap), (.l (encL enc_GChange) p0.net.Views), (.l (encL enc_GChange) p0.net.Pending), (.d (.mp (Option.isNone p0.net.Links) (mks kv_22 (ml p0.net.Links)) (mds (slD (encL enc_GChange)) (ml p0.net.Links)))), (.own 1), (.own 2)]), (Ar 72 1 enc_GBook p0.books), (.arr 3 1 (List.length p0.things) (flatD (encI .i64) p0.things))], 3⟩ <| Sx <| Wm (.i 1099511627777) rfl <| Nk 9 7 ⟨.loc 0 0::tp 2 (.i 1099511627777::tp 53 []), [(.box [(.i p0.net.Cap), (.l (encL enc_GChange) p0.net.Views), (.l (encL enc_GChange) p0.net.Pending), (.d (.mp (Option.isNone p0.net.Links) (mks kv_22 (ml p0.net.Links)) (mds (slD (encL enc_GChange)) (ml p0.net.Links)))), (.own 1), (.own 2)]), (Ar 72 1 enc_GBook p0.books), (.arr 3 1 (List.length p0.things) (flatD (encI .i64) p0.things))], 3⟩ <| Sq <| Sx <| Wm (.i 0) rfl <| Nk 25 7 ⟨.loc 0 0::tp 2 (.i 1099511627777::.i 0::tp 52 []), [(.box [(.i p0.net.Cap), (.l (encL enc_GChange) p0.net.Views), (.l (encL enc_GChange) p0.net.Pending), (.d (.mp (Option.isNone p0.net.Links) (mks kv_22 (ml p0.net.Links)) (mds (slD (encL enc_GChange)) (ml p0.net.Links)))), (.own 1), (.own 2)]), (Ar 72 1 enc_GBook p0.books), (.arr 3 1 (List.length p0.things) (flatD (encI .i64) p0.things))], 3⟩ <| Bk ?_
 refine AWP.loopI (α := Nat × Int × Int)
   (fun (fu_0, y3_0, y4_0) => (⟨.loc 0 0::tp 2 (.i y3_0::.i y4_0::tp 52 []), [(.box [(.i p0.net.Cap), (.l (encL enc_GChange) p0.net.Views), (.l (encL enc_GChange) p0.net.Pending), (.d (.mp (Option.isNone p0.net.Links) (mks kv_22 (ml p0.net.Links)) (mds (slD (encL enc_GChange)) (ml p0.net.Links)))), (.own 1), (.own 2)]), (Ar 72 1 enc_GBook p0.books), (.arr 3 1 (List.length p0.things) (flatD (encI .i64) p0.things))], 3⟩ : St))
   (fun (fu_0, y3_0, y4_0) => m_w29_crew_least_l0 p0 fu_0 y3_0 y4_0 = some r)
   (fun (fu_0, y3_0, y4_0) => fu_0) (1152921504606846976, 1099511627777, 0)
   (Weak.toK 25 0 0 [0, 1, 2]) hm ?_
 rintro ⟨fu_0, y3_0, y4_0⟩ n_0 hm ih_0
 try dsimp only at hm ih_0 ⊢
 cases fu_0 with
 | zero => exact absurd hm (by unfold m_w29_crew_least_l0; simp)
 | succ fu_0 =>
  unfold m_w29_crew_least_l0 at hm
  refine Sq <| Sx <| Wm (.i y4_0) rfl <| Wm (.loc 0 0) rfl <| Wz (.loc 0 0) (op_nilCheckLoc rfl (id := 0) (off := 0) (xs := [(.i p0.net.Cap), (.l (encL enc_GChange) p0.net.Views), (.l (encL enc_GChange) p0.net.Pending), (.d (.mp (Option.isNone p0.net.Links) (mks kv_22 (ml p0.net.Links)) (mds (slD (encL enc_GChange)) (ml p0.net.Links)))), (.own 1), (.own 2)]) (by kernel_rfl) (by kernel_rfl)) <| Wz (.loc 0 5) (Ofa rfl) <| Wz (.own 2) (Old rfl) <| Wz (.i ((List.length p0.things : Nat) : Int)) (Oln rfl) <| Wz (.b (decide (y4_0 < ((List.length p0.things : Nat) : Int)))) (Obn rfl (fun _ => hb_lss (k := .i64))) <| Nk 16409 7 ⟨.loc 0 0::tp 2 (.i y3_0::.i y4_0::tp 9 (.b (decide (y4_0 < ((List.length p0.things : Nat) : Int)))::tp 42 [])), [(.box [(.i p0.net.Cap), (.l (encL enc_GChange) p0.net.Views), (.l (encL enc_GChange) p0.net.Pending), (.d (.mp (Option.isNone p0.net.Links) (mks kv_22 (ml p0.net.Links)) (mds (slD (encL enc_GChange)) (ml p0.net.Links)))), (.own 1), (.own 2)]), (Ar 72 1 enc_GBook p0.books), (.arr 3 1 (List.length p0.things) (flatD (encI .i64) p0.things))], 3⟩ ?_
  rcases tf_ (decide (y4_0 < ((List.length p0.things : Nat) : Int))) with hc14_8 | hc14_8
  ·
   replace hm := cT hc14_8 hm
   refine AiT hc14_8 <| Sk <| Tk 25 7 ⟨.loc 0 0::tp 2 (.i y3_0::.i y4_0::tp 52 []), [(.box [(.i p0.net.Cap), (.l (encL enc_GChange) p0.net.Views), (.l (encL enc_GChange) p0.net.Pending), (.d (.mp (Option.isNone p0.net.Links) (mks kv_22 (ml p0.net.Links)) (mds (slD (encL enc_GChange)) (ml p0.net.Links)))), (.own 1), (.own 2)]), (Ar 72 1 enc_GBook p0.books), (.arr 3 1 (List.length p0.things) (flatD (encI .i64) p0.things))], 3⟩ <| Sq <| Bk <| Tx <| Wm (.i y3_0) rfl <| Wm (.loc 0 0) rfl <| Wz (.loc 0 0) (op_nilCheckLoc rfl (id := 0) (off := 0) (xs := [(.i p0.net.Cap), (.l (encL enc_GChange) p0.net.Views), (.l (encL enc_GChange) p0.net.Pending), (.d (.mp (Option.isNone p0.net.Links) (mks kv_22 (ml p0.net.Links)) (mds (slD (encL enc_GChange)) (ml p0.net.Links)))), (.own 1), (.own 2)]) (by kernel_rfl) (by kernel_rfl)) <| Wz (.loc 0 5) (Ofa rfl) <| Wz (.own 2) (Old rfl) <| Wm (.i y4_0) rfl ?_
   obtain ⟨x23_2, hx23_2, hm⟩ := bnd hm
   obtain ⟨hx23_2i, hx23_2g⟩ := geti_some hx23_2
   refine Wz (.loc 2 ((Int.toNat y4_0) * 1)) (Oia rfl (encI_len (k := .i64)) hx23_2i hx23_2g) <| Wz (.i x23_2) (Lr1 rfl (encI_len (k := .i64)) hx23_2g) <| Wz (.i (min y3_0 x23_2)) (op_bi2 rfl (a1 := .int .i64 y3_0) (a2 := .int .i64 x23_2) (by kernel_rfl) (by kernel_rfl) hb_min) <| Wm (.i (min y3_0 x23_2)) rfl <| Wn0 <| Ino <| Tk 25 7 ⟨.loc 0 0::tp 2 (.i (min y3_0 x23_2)::.i y4_0::tp 52 []), [(.box [(.i p0.net.Cap), (.l (encL enc_GChange) p0.net.Views), (.l (encL enc_GChange) p0.net.Pending), (.d (.mp (Option.isNone p0.net.Links) (mks kv_22 (ml p0.net.Links)) (mds (slD (encL enc_GChange)) (ml p0.net.Links)))), (.own 1), (.own 2)]), (Ar 72 1 enc_GBook p0.books), (.arr 3 1 (List.length p0.things) (flatD (encI .i64) p0.things))], 3⟩ <| Tx <| Wm (.i y4_0) rfl <| Wz (.i (W6 (y4_0 + 1))) (Obn rfl (fun _ => hb_add (k := .i64))) <| Wm (.i (W6 (y4_0 + 1))) rfl <| Wn0 <| RoundK.normal ?_
   exact Rounds.weak (Weak.toK 25 0 0 [0, 1, 2]) (ih_0 (fu_0, (min y3_0 x23_2), (W6 (y4_0 + 1))) hm (Nat.lt_succ_self _))
  ·
   replace hm := cF hc14_8 hm
   refine AiF hc14_8 <| AWP.exit <| Then.exit <| RoundK.exit <| InBlock.same <| Tk 9 7 ⟨.loc 0 0::tp 2 (.i y3_0::tp 53 []), [(.box [(.i p0.net.Cap), (.l (encL enc_GChange) p0.net.Views), (.l (encL enc_GChange) p0.net.Pending), (.d (.mp (Option.isNone p0.net.Links) (mks kv_22 (ml p0.net.Links)) (mds (slD (encL enc_GChange)) (ml p0.net.Links)))), (.own 1), (.own 2)]), (Ar 72 1 enc_GBook p0.books), (.arr 3 1 (List.length p0.things) (flatD (encI .i64) p0.things))], 3⟩ <| Sq <| Sx <| Wm (.i 0) rfl <| Nk 41 7 ⟨.loc 0 0::tp 2 (.i y3_0::tp 1 (.i 0::tp 51 [])), [(.box [(.i p0.net.Cap), (.l (encL enc_GChange) p0.net.Views), (.l (encL enc_GChange) p0.net.Pending), (.d (.mp (Option.isNone p0.net.Links) (mks kv_22 (ml p0.net.Links)) (mds (slD (encL enc_GChange)) (ml p0.net.Links)))), (.own 1), (.own 2)]), (Ar 72 1 enc_GBook p0.books), (.arr 3 1 (List.length p0.things) (flatD (encI .i64) p0.things))], 3⟩ <| Bk ?_
   refine AWP.loopI (α := Nat × Int × Int)
     (fun (fu_3, y3_3, y5_3) => (⟨.loc 0 0::tp 2 (.i y3_3::tp 1 (.i y5_3::tp 51 [])), [(.box [(.i p0.net.Cap), (.l (encL enc_GChange) p0.net.Views), (.l (encL enc_GChange) p0.net.Pending), (.d (.mp (Option.isNone p0.net.Links) (mks kv_22 (ml p0.net.Links)) (mds (slD (encL enc_GChange)) (ml p0.net.Links)))), (.own 1), (.own 2)]), (Ar 72 1 enc_GBook p0.books), (.arr 3 1 (List.length p0.things) (flatD (encI .i64) p0.things))], 3⟩ : St))
     (fun (fu_3, y3_3, y5_3) => m_w29_crew_least_l3 p0 fu_3 y3_3 y5_3 = some r)
     (fun (fu_3, y3_3, y5_3) => fu_3) (1152921504606846976, y3_0, 0)
     (Weak.toK 41 0 0 [0, 1, 2]) hm ?_
   rintro ⟨fu_3, y3_3, y5_3⟩ n_3 hm ih_3
   try dsimp only at hm ih_3 ⊢
   cases fu_3 with
   | zero => exact absurd hm (by unfold m_w29_crew_least_l3; simp)
   | succ fu_3 =>
    unfold m_w29_crew_least_l3 at hm
    refine Sq <| Sx <| Wm (.i y5_3) rfl <| Wm (.loc 0 0) rfl <| Wz (.loc 0 0) (op_nilCheckLoc rfl (id := 0) (off := 0) (xs := [(.i p0.net.Cap), (.l (encL enc_GChange) p0.net.Views), (.l (encL enc_GChange) p0.net.Pending), (.d (.mp (Option.isNone p0.net.Links) (mks kv_22 (ml p0.net.Links)) (mds (slD (encL enc_GChange)) (ml p0.net.Links)))), (.own 1), (.own 2)]) (by kernel_rfl) (by kernel_rfl)) <| Wz (.loc 0 4) (Ofa rfl) <| Wz (.own 1) (Old rfl) <| Wz (.i ((List.length p0.books : Nat) : Int)) (Oln rfl) <| Wz (.b (decide (y5_3 < ((List.length p0.books : Nat) : Int)))) (Obn rfl (fun _ => hb_lss (k := .i64))) <| Nk 4294967337 7 ⟨.loc 0 0::tp 2 (.i y3_3::tp 1 (.i y5_3::tp 26 (.b (decide (y5_3 < ((List.length p0.books : Nat) : Int)))::tp 24 []))), [(.box [(.i p0.net.Cap), (.l (encL enc_GChange) p0.net.Views), (.l (encL enc_GChange) p0.net.Pending), (.d (.mp (Option.isNone p0.net.Links) (mks kv_22 (ml p0.net.Links)) (mds (slD (encL enc_GChange)) (ml p0.net.Links)))), (.own 1), (.own 2)]), (Ar 72 1 enc_GBook p0.books), (.arr 3 1 (List.length p0.things) (flatD (encI .i64) p0.things))], 3⟩ ?_
    rcases tf_ (decide (y5_3 < ((List.length p0.books : Nat) : Int))) with hc32_9 | hc32_9
    ·
     replace hm := cT hc32_9 hm
     refine AiT hc32_9 <| Sk <| Tk 41 7 ⟨.loc 0 0::tp 2 (.i y3_3::tp 1 (.i y5_3::tp 51 [])), [(.box [(.i p0.net.Cap), (.l (encL enc_GChange) p0.net.Views), (.l (encL enc_GChange) p0.net.Pending), (.d (.mp (Option.isNone p0.net.Links) (mks kv_22 (ml p0.net.Links)) (mds (slD (encL enc_GChange)) (ml p0.net.Links)))), (.own 1), (.own 2)]), (Ar 72 1 enc_GBook p0.books), (.arr 3 1 (List.length p0.things) (flatD (encI .i64) p0.things))], 3⟩ <| Sq <| Bk <| Sx <| Wm (.loc 0 0) rfl <| Wz (.loc 0 0) (op_nilCheckLoc rfl (id := 0) (off := 0) (xs := [(.i p0.net.Cap), (.l (encL enc_GChange) p0.net.Views), (.l (encL enc_GChange) p0.net.Pending), (.d (.mp (Option.isNone p0.net.Links) (mks kv_22 (ml p0.net.Links)) (mds (slD (encL enc_GChange)) (ml p0.net.Links)))), (.own 1), (.own 2)]) (by kernel_rfl) (by kernel_rfl)) <| Wz (.loc 0 4) (Ofa rfl) <| Wz (.own 1) (Old rfl) <| Wm (.i y5_3) rfl ?_
     obtain ⟨x41_5, hx41_5, hm⟩ := bnd hm
     obtain ⟨hx41_5i, hx41_5g⟩ := geti_some hx41_5
     refine Wz (.loc 1 ((Int.toNat y5_3) * 1)) (Oia rfl enc_GBook_len hx41_5i hx41_5g) <| Wz (.agg [(.l enc_GLeave_ x41_5.L)]) (Lr rfl enc_GBook_len hx41_5g) ?_
     obtain ⟨r43_5, hr43_5, hm⟩ := bnd hm
     refine Wz (.tup [(.agg [(.i r43_5.1.Point.Loc), (.i r43_5.1.Point.Time), (.b r43_5.1.Held)]), (.b r43_5.2)]) (Ocf [] [] [] 0 (ok_token_Book_Get x41_5 0 r43_5 hr43_5) (fun a w => Try.call64 a w) rfl trivial) <| Wm (.tup [(.agg [(.i r43_5.1.Point.Loc), (.i r43_5.1.Point.Time), (.b r43_5.1.Held)]), (.b r43_5.2)]) rfl <| Wz (.agg [(.i r43_5.1.Point.Loc), (.i r43_5.1.Point.Time), (.b r43_5.1.Held)]) (Oex rfl) <| Wz (.b r43_5.2) (Oex rfl) <| Wy (.loc 3 0) [(3, (.box [(.i 0), (.i 0), (.b false)]))] (Oal rfl) <| Wy (.tup []) [(3, (.box [(.i r43_5.1.Point.Loc), (.i r43_5.1.Point.Time), (.b r43_5.1.Held)]))] (Ost rfl) <| Wm (.b r43_5.2) rfl <| Nk 233 15 ⟨.loc 0 0::tp 2 (.i y3_3::tp 1 (.i y5_3::.loc 3 0::.b r43_5.2::tp 49 [])), [(.box [(.i p0.net.Cap), (.l (encL enc_GChange) p0.net.Views), (.l (encL enc_GChange) p0.net.Pending), (.d (.mp (Option.isNone p0.net.Links) (mks kv_22 (ml p0.net.Links)) (mds (slD (encL enc_GChange)) (ml p0.net.Links)))), (.own 1), (.own 2)]), (Ar 72 1 enc_GBook p0.books), (.arr 3 1 (List.length p0.things) (flatD (encI .i64) p0.things)), (.box [(.i r43_5.1.Point.Loc), (.i r43_5.1.Point.Time), (.b r43_5.1.Held)])], 3⟩ <| Sx <| Wm (.b r43_5.2) rfl ?_
     rcases tf_ r43_5.2 with hq47_6 | hq47_6
     ·
      replace hm := cT hq47_6 hm
      refine Wz (.b true) (Oq hq47_6 rfl) <| Wz (.loc 3 2) (Ofa rfl) <| Wz (.b r43_5.1.Held) (Old rfl) <| Wz (.b r43_5.1.Held) (OpT rfl) <| Nk 1125899906842729 15 ⟨.loc 0 0::tp 2 (.i y3_3::tp 1 (.i y5_3::.loc 3 0::tp 43 (.b r43_5.1.Held::tp 6 []))), [(.box [(.i p0.net.Cap), (.l (encL enc_GChange) p0.net.Views), (.l (encL enc_GChange) p0.net.Pending), (.d (.mp (Option.isNone p0.net.Links) (mks kv_22 (ml p0.net.Links)) (mds (slD (encL enc_GChange)) (ml p0.net.Links)))), (.own 1), (.own 2)]), (Ar 72 1 enc_GBook p0.books), (.arr 3 1 (List.length p0.things) (flatD (encI .i64) p0.things)), (.box [(.i r43_5.1.Point.Loc), (.i r43_5.1.Point.Time), (.b r43_5.1.Held)])], 3⟩ ?_
      rcases tf_ r43_5.1.Held with hc50_10 | hc50_10
      ·
       replace hm := cT hc50_10 hm
       refine AiT hc50_10 <| Tx <| Wm (.i y3_3) rfl <| Wz (.loc 3 0) (Ofa rfl) <| Wz (.loc 3 1) (Ofa rfl) <| Wz (.i r43_5.1.Point.Time) (Old rfl) <| Wz (.i (min y3_3 r43_5.1.Point.Time)) (op_bi2 rfl (a1 := .int .i64 y3_3) (a2 := .int .i64 r43_5.1.Point.Time) (by kernel_rfl) (by kernel_rfl) hb_min) <| Wm (.i (min y3_3 r43_5.1.Point.Time)) rfl <| Wn0 <| Ino <| Tk 41 7 ⟨.loc 0 0::tp 2 (.i (min y3_3 r43_5.1.Point.Time)::tp 1 (.i y5_3::tp 51 [])), [(.box [(.i p0.net.Cap), (.l (encL enc_GChange) p0.net.Views), (.l (encL enc_GChange) p0.net.Pending), (.d (.mp (Option.isNone p0.net.Links) (mks kv_22 (ml p0.net.Links)) (mds (slD (encL enc_GChange)) (ml p0.net.Links)))), (.own 1), (.own 2)]), (Ar 72 1 enc_GBook p0.books), (.arr 3 1 (List.length p0.things) (flatD (encI .i64) p0.things)), .gone], 3⟩ <| Tx <| Wm (.i y5_3) rfl <| Wz (.i (W6 (y5_3 + 1))) (Obn rfl (fun _ => hb_add (k := .i64))) ?_
       refine Wm (.i (W6 (y5_3 + 1))) rfl <| Wn0 <| RoundK.normal ?_
       exact Rounds.weak (Weak.toK 41 0 0 [0, 1, 2]) (ih_3 (fu_3, (min y3_3 r43_5.1.Point.Time), (W6 (y5_3 + 1))) hm (Nat.lt_succ_self _))
      ·
       replace hm := cF hc50_10 hm
       refine AiF hc50_10 <| Sk <| Ino <| Tk 41 7 ⟨.loc 0 0::tp 2 (.i y3_3::tp 1 (.i y5_3::tp 51 [])), [(.box [(.i p0.net.Cap), (.l (encL enc_GChange) p0.net.Views), (.l (encL enc_GChange) p0.net.Pending), (.d (.mp (Option.isNone p0.net.Links) (mks kv_22 (ml p0.net.Links)) (mds (slD (encL enc_GChange)) (ml p0.net.Links)))), (.own 1), (.own 2)]), (Ar 72 1 enc_GBook p0.books), (.arr 3 1 (List.length p0.things) (flatD (encI .i64) p0.things)), .gone], 3⟩ <| Tx <| Wm (.i y5_3) rfl <| Wz (.i (W6 (y5_3 + 1))) (Obn rfl (fun _ => hb_add (k := .i64))) <| Wm (.i (W6 (y5_3 + 1))) rfl <| Wn0 <| RoundK.normal ?_
       exact Rounds.weak (Weak.toK 41 0 0 [0, 1, 2]) (ih_3 (fu_3, y3_3, (W6 (y5_3 + 1))) hm (Nat.lt_succ_self _))
     ·
      replace hm := cF hq47_6 hm
      refine Wz (.b false) (Oq hq47_6 rfl) <| Wn <| Wn <| Wz (.b false) (OpF rfl) <| Nk 1125899906842729 15 ⟨.loc 0 0::tp 2 (.i y3_3::tp 1 (.i y5_3::.loc 3 0::tp 43 (.b false::tp 6 []))), [(.box [(.i p0.net.Cap), (.l (encL enc_GChange) p0.net.Views), (.l (encL enc_GChange) p0.net.Pending), (.d (.mp (Option.isNone p0.net.Links) (mks kv_22 (ml p0.net.Links)) (mds (slD (encL enc_GChange)) (ml p0.net.Links)))), (.own 1), (.own 2)]), (Ar 72 1 enc_GBook p0.books), (.arr 3 1 (List.length p0.things) (flatD (encI .i64) p0.things)), (.box [(.i r43_5.1.Point.Loc), (.i r43_5.1.Point.Time), (.b r43_5.1.Held)])], 3⟩ <| AWP.if_ false (by kernel_rfl) <| Sk <| Ino <| Tk 41 7 ⟨.loc 0 0::tp 2 (.i y3_3::tp 1 (.i y5_3::tp 51 [])), [(.box [(.i p0.net.Cap), (.l (encL enc_GChange) p0.net.Views), (.l (encL enc_GChange) p0.net.Pending), (.d (.mp (Option.isNone p0.net.Links) (mks kv_22 (ml p0.net.Links)) (mds (slD (encL enc_GChange)) (ml p0.net.Links)))), (.own 1), (.own 2)]), (Ar 72 1 enc_GBook p0.books), (.arr 3 1 (List.length p0.things) (flatD (encI .i64) p0.things)), .gone], 3⟩ <| Tx <| Wm (.i y5_3) rfl <| Wz (.i (W6 (y5_3 + 1))) (Obn rfl (fun _ => hb_add (k := .i64))) <| Wm (.i (W6 (y5_3 + 1))) rfl <| Wn0 ?_
      refine RoundK.normal ?_
      exact Rounds.weak (Weak.toK 41 0 0 [0, 1, 2]) (ih_3 (fu_3, y3_3, (W6 (y5_3 + 1))) hm (Nat.lt_succ_self _))
    ·
     replace hm := cF hc32_9 hm
     refine AiF hc32_9 <| AWP.exit <| Then.exit <| RoundK.exit <| InBlock.same <| Tk 8 7 ⟨tp 3 (.i y3_3::tp 53 []), [(.box [(.i p0.net.Cap), (.l (encL enc_GChange) p0.net.Views), (.l (encL enc_GChange) p0.net.Pending), (.d (.mp (Option.isNone p0.net.Links) (mks kv_22 (ml p0.net.Links)) (mds (slD (encL enc_GChange)) (ml p0.net.Links)))), (.own 1), (.own 2)]), (Ar 72 1 enc_GBook p0.books), (.arr 3 1 (List.length p0.things) (flatD (encI .i64) p0.things))], 3⟩ <| Sx <| Wm (.i y3_3) rfl <| Wm (.i y3_3) rfl <| Nn <| Rt ?_
     obtain rfl := Option.some.inj hm
     exact ret_i [0, 1, 2]

theorem ok_front_All (p0 : (List GChange)) (r : GArr4_Int) (h : m_front_All p0 = some r) : GCall Try.prog 65 [(.l enc_GChange p0)] [] (.agg [(.i r.a0), (.i r.a1), (.i r.a2), (.i r.a3)]) [] := by
 refine GCall.of_body (n := 15) (rs := [(.cell 2 117)]) Try.func65 rfl rfl rfl <| Ato ⟨.l enc_GChange p0::tu 14 [], [], 0⟩ ?_
 have hm := h
 unfold m_front_All at hm
 refine Sx <| Wy (.loc 0 0) [(0, (.box [(.i 0), (.i 0), (.i 0), (.i 0)]))] (Oal rfl) <| Nk 5 1 ⟨.l enc_GChange p0::tp 1 (.loc 0 0::tp 12 []), [(.box [(.i 0), (.i 0), (.i 0), (.i 0)])], 0⟩ <| Sx <| Wy (.loc 1 0) [(1, (.box [(.i 0), (.i 0), (.i 0), (.i 0)]))] (Oal rfl) <| Nk 13 3 ⟨.l enc_GChange p0::tp 1 (.loc 0 0::.loc 1 0::tp 11 []), [(.box [(.i 0), (.i 0), (.i 0), (.i 0)]), (.box [(.i 0), (.i 0), (.i 0), (.i 0)])], 0⟩ <| Sq <| Sx <| Wm (.i 0) rfl <| Nk 45 3 ⟨.l enc_GChange p0::tp 1 (.loc 0 0::.loc 1 0::tp 1 (.i 0::tp 9 [])), [(.box [(.i 0), (.i 0), (.i 0), (.i 0)]), (.box [(.i 0), (.i 0), (.i 0), (.i 0)])], 0⟩ <| Bk ?_
 refine AWP.loopI (α := Nat × GArr4_Int × Int)
   (fun (fu_0, y3_d_0, y5_0) => (⟨.l enc_GChange p0::tp 1 (.loc 0 0::.loc 1 0::tp 1 (.i y5_0::tp 9 [])), [(.box [(.i 0), (.i 0), (.i 0), (.i 0)]), (.box [(.i y3_d_0.a0), (.i y3_d_0.a1), (.i y3_d_0.a2), (.i y3_d_0.a3)])], 0⟩ : St))
   (fun (fu_0, y3_d_0, y5_0) => m_front_All_l0 p0 fu_0 y3_d_0 y5_0 = some r)
   (fun (fu_0, y3_d_0, y5_0) => fu_0) (1152921504606846976, (GArr4_Int.mk 0 0 0 0), 0)
   (Weak.toK 45 0 0 [0, 1]) hm ?_
 rintro ⟨fu_0, y3_d_0, y5_0⟩ n_0 hm ih_0
 try dsimp only at hm ih_0 ⊢
 cases fu_0 with
 | zero => exact absurd hm (by unfold m_front_All_l0; simp)
 | succ fu_0 =>
  unfold m_front_All_l0 at hm
  refine Sx <| Wz (.b (decide (y5_0 < 4))) (Obn rfl (fun _ => hb_lss (k := .i64))) <| Nk 109 3 ⟨.l enc_GChange p0::tp 1 (.loc 0 0::.loc 1 0::tp 1 (.i y5_0::.b (decide (y5_0 < 4))::tp 8 [])), [(.box [(.i 0), (.i 0), (.i 0), (.i 0)]), (.box [(.i y3_d_0.a0), (.i y3_d_0.a1), (.i y3_d_0.a2), (.i y3_d_0.a3)])], 0⟩ <| Sq ?_
  rcases tf_ (decide (y5_0 < 4)) with hc6_2 | hc6_2
  ·
   replace hm := cT hc6_2 hm
   refine AiT hc6_2 <| Sk <| Tk 45 3 ⟨.l enc_GChange p0::tp 1 (.loc 0 0::.loc 1 0::tp 1 (.i y5_0::tp 9 [])), [(.box [(.i 0), (.i 0), (.i 0), (.i 0)]), (.box [(.i y3_d_0.a0), (.i y3_d_0.a1), (.i y3_d_0.a2), (.i y3_d_0.a3)])], 0⟩ <| Sq <| Bk <| Sx <| Wm (.i y5_0) rfl <| Wm (.i y5_0) rfl <| Nk 61 3 ⟨.l enc_GChange p0::tp 1 (.loc 0 0::.loc 1 0::.i y5_0::.i y5_0::tp 9 []), [(.box [(.i 0), (.i 0), (.i 0), (.i 0)]), (.box [(.i y3_d_0.a0), (.i y3_d_0.a1), (.i y3_d_0.a2), (.i y3_d_0.a3)])], 0⟩ <| Tx <| Wm (.i y5_0) rfl <| Wm (.l enc_GChange p0) rfl <| Wm (.i y5_0) rfl ?_
   obtain ⟨r11_1, hr11_1, hm⟩ := bnd hm
   refine Wz (.i r11_1) (Ocf [] [] [] 0 (ok_front_Of p0 y5_0 r11_1 hr11_1) (fun a w => Try.call48 a w) rfl trivial) ?_
   rcases tf_ (decide (y5_0 = 0)) with hq12_1_0 | hq12_1_0
   ·
    replace hm := cT hq12_1_0 hm
    refine Wz (.loc 1 0) (Ocs (by kernel_rfl) (op_iaddr_arr rfl (n := 4) (sz := 1) (y := (.loc 1 0)) (by kernel_rfl) (by kernel_rfl) (by kernel_rfl) (k := .i64) (iv := y5_0) (by kernel_rfl) (i := 0) (of_decide_eq_true hq12_1_0) (by decide))) <| Wy (.tup []) [(1, (.box [(.i r11_1), (.i y3_d_0.a1), (.i y3_d_0.a2), (.i y3_d_0.a3)]))] (Ost rfl) <| Wn0 <| Ino <| Tk 45 3 ⟨.l enc_GChange p0::tp 1 (.loc 0 0::.loc 1 0::tp 1 (.i y5_0::tp 9 [])), [(.box [(.i 0), (.i 0), (.i 0), (.i 0)]), (.box [(.i r11_1), (.i y3_d_0.a1), (.i y3_d_0.a2), (.i y3_d_0.a3)])], 0⟩ <| Tx <| Wz (.i (W6 (y5_0 + 1))) (Obn rfl (fun _ => hb_add (k := .i64))) <| Wm (.i (W6 (y5_0 + 1))) rfl <| Wn0 <| RoundK.normal ?_
    exact Rounds.weak (Weak.toK 45 0 0 [0, 1]) (ih_0 (fu_0, (GArr4_Int.mk r11_1 y3_d_0.a1 y3_d_0.a2 y3_d_0.a3), (W6 (y5_0 + 1))) hm (Nat.lt_succ_self _))
   ·
    replace hm := cF hq12_1_0 hm
    rcases tf_ (decide (y5_0 = 1)) with hq12_1_1 | hq12_1_1
    ·
     replace hm := cT hq12_1_1 hm
     refine Wz (.loc 1 1) (Ocs (by kernel_rfl) (op_iaddr_arr rfl (n := 4) (sz := 1) (y := (.loc 1 0)) (by kernel_rfl) (by kernel_rfl) (by kernel_rfl) (k := .i64) (iv := y5_0) (by kernel_rfl) (i := 1) (of_decide_eq_true hq12_1_1) (by decide))) <| Wy (.tup []) [(1, (.box [(.i y3_d_0.a0), (.i r11_1), (.i y3_d_0.a2), (.i y3_d_0.a3)]))] (Ost rfl) <| Wn0 <| Ino <| Tk 45 3 ⟨.l enc_GChange p0::tp 1 (.loc 0 0::.loc 1 0::tp 1 (.i y5_0::tp 9 [])), [(.box [(.i 0), (.i 0), (.i 0), (.i 0)]), (.box [(.i y3_d_0.a0), (.i r11_1), (.i y3_d_0.a2), (.i y3_d_0.a3)])], 0⟩ <| Tx <| Wz (.i (W6 (y5_0 + 1))) (Obn rfl (fun _ => hb_add (k := .i64))) <| Wm (.i (W6 (y5_0 + 1))) rfl <| Wn0 <| RoundK.normal ?_
     exact Rounds.weak (Weak.toK 45 0 0 [0, 1]) (ih_0 (fu_0, (GArr4_Int.mk y3_d_0.a0 r11_1 y3_d_0.a2 y3_d_0.a3), (W6 (y5_0 + 1))) hm (Nat.lt_succ_self _))
    ·
     replace hm := cF hq12_1_1 hm
     rcases tf_ (decide (y5_0 = 2)) with hq12_1_2 | hq12_1_2
     ·
      replace hm := cT hq12_1_2 hm
      refine Wz (.loc 1 2) (Ocs (by kernel_rfl) (op_iaddr_arr rfl (n := 4) (sz := 1) (y := (.loc 1 0)) (by kernel_rfl) (by kernel_rfl) (by kernel_rfl) (k := .i64) (iv := y5_0) (by kernel_rfl) (i := 2) (of_decide_eq_true hq12_1_2) (by decide))) <| Wy (.tup []) [(1, (.box [(.i y3_d_0.a0), (.i y3_d_0.a1), (.i r11_1), (.i y3_d_0.a3)]))] (Ost rfl) <| Wn0 <| Ino <| Tk 45 3 ⟨.l enc_GChange p0::tp 1 (.loc 0 0::.loc 1 0::tp 1 (.i y5_0::tp 9 [])), [(.box [(.i 0), (.i 0), (.i 0), (.i 0)]), (.box [(.i y3_d_0.a0), (.i y3_d_0.a1), (.i r11_1), (.i y3_d_0.a3)])], 0⟩ <| Tx <| Wz (.i (W6 (y5_0 + 1))) (Obn rfl (fun _ => hb_add (k := .i64))) <| Wm (.i (W6 (y5_0 + 1))) rfl <| Wn0 <| RoundK.normal ?_
      exact Rounds.weak (Weak.toK 45 0 0 [0, 1]) (ih_0 (fu_0, (GArr4_Int.mk y3_d_0.a0 y3_d_0.a1 r11_1 y3_d_0.a3), (W6 (y5_0 + 1))) hm (Nat.lt_succ_self _))
     ·
      replace hm := cF hq12_1_2 hm
      rcases tf_ (decide (y5_0 = 3)) with hq12_1_3 | hq12_1_3
      ·
       replace hm := cT hq12_1_3 hm
       refine Wz (.loc 1 3) (Ocs (by kernel_rfl) (op_iaddr_arr rfl (n := 4) (sz := 1) (y := (.loc 1 0)) (by kernel_rfl) (by kernel_rfl) (by kernel_rfl) (k := .i64) (iv := y5_0) (by kernel_rfl) (i := 3) (of_decide_eq_true hq12_1_3) (by decide))) <| Wy (.tup []) [(1, (.box [(.i y3_d_0.a0), (.i y3_d_0.a1), (.i y3_d_0.a2), (.i r11_1)]))] (Ost rfl) <| Wn0 <| Ino <| Tk 45 3 ⟨.l enc_GChange p0::tp 1 (.loc 0 0::.loc 1 0::tp 1 (.i y5_0::tp 9 [])), [(.box [(.i 0), (.i 0), (.i 0), (.i 0)]), (.box [(.i y3_d_0.a0), (.i y3_d_0.a1), (.i y3_d_0.a2), (.i r11_1)])], 0⟩ <| Tx <| Wz (.i (W6 (y5_0 + 1))) (Obn rfl (fun _ => hb_add (k := .i64))) <| Wm (.i (W6 (y5_0 + 1))) rfl <| Wn0 <| RoundK.normal ?_
       exact Rounds.weak (Weak.toK 45 0 0 [0, 1]) (ih_0 (fu_0, (GArr4_Int.mk y3_d_0.a0 y3_d_0.a1 y3_d_0.a2 r11_1), (W6 (y5_0 + 1))) hm (Nat.lt_succ_self _))
      ·
       replace hm := cF hq12_1_3 hm
       exact nomatch hm
  ·
   replace hm := cF hc6_2 hm
   refine AiF hc6_2 <| AWP.exit <| Then.exit <| RoundK.exit <| InBlock.same <| Tk 12 3 ⟨tp 2 (.loc 0 0::.loc 1 0::tp 11 []), [(.box [(.i 0), (.i 0), (.i 0), (.i 0)]), (.box [(.i y3_d_0.a0), (.i y3_d_0.a1), (.i y3_d_0.a2), (.i y3_d_0.a3)])], 0⟩ <| Sx <| Wz (.agg [(.i y3_d_0.a0), (.i y3_d_0.a1), (.i y3_d_0.a2), (.i y3_d_0.a3)]) (Old rfl) <| Wy (.tup []) [(0, (.box [(.i y3_d_0.a0), (.i y3_d_0.a1), (.i y3_d_0.a2), (.i y3_d_0.a3)]))] (Ost rfl) <| Nn <| Rt ?_
   obtain rfl := Option.some.inj hm
   exact ret_i []

theorem ok_front_Drops (p0 : (List GChange)) (p1 : (List GChange)) (r : Bool) (h : m_front_Drops p0 p1 = some r) : GCall Try.prog 36 [(.l enc_GChange p0), (.l enc_GChange p1)] [] (.b r) [] := by
 refine GCall.of_body (n := 23) (rs := [(.tmp 4)]) Try.func36 rfl rfl rfl <| Ato ⟨.l enc_GChange p0::.l enc_GChange p1::tu 21 [], [], 0⟩ ?_
 have hm := h
 unfold m_front_Drops at hm
 refine Sx <| Wm (.b false) rfl <| Nk 3 0 ⟨.l enc_GChange p0::.l enc_GChange p1::tp 21 [], [], 0⟩ <| Sx <| Wm (.l enc_GChange p0) rfl ?_
 obtain ⟨r9_0, hr9_0, hm⟩ := bnd hm
 refine Wz (.agg [(.i r9_0.a0), (.i r9_0.a1), (.i r9_0.a2), (.i r9_0.a3)]) (Ocf [] [] [] 0 (ok_front_All p0 r9_0 hr9_0) (fun a w => Try.call65 a w) rfl trivial) <| Wm (.l enc_GChange p1) rfl ?_
 obtain ⟨r11_0, hr11_0, hm⟩ := bnd hm
 refine Wz (.agg [(.i r11_0.a0), (.i r11_0.a1), (.i r11_0.a2), (.i r11_0.a3)]) (Ocf [] [] [] 0 (ok_front_All p1 r11_0 hr11_0) (fun a w => Try.call65 a w) rfl trivial) <| Wy (.loc 0 0) [(0, (.box [(.i 0), (.i 0), (.i 0), (.i 0)]))] (Oal rfl) <| Wy (.loc 1 0) [(1, (.box [(.i 0), (.i 0), (.i 0), (.i 0)]))] (Oal rfl) <| Wy (.tup []) [(0, (.box [(.i r9_0.a0), (.i r9_0.a1), (.i r9_0.a2), (.i r9_0.a3)]))] (Ost rfl) <| Wy (.tup []) [(1, (.box [(.i r11_0.a0), (.i r11_0.a1), (.i r11_0.a2), (.i r11_0.a3)]))] (Ost rfl) <| Nk 96 3 ⟨tp 5 (.loc 0 0::.loc 1 0::tp 16 []), [(.box [(.i r9_0.a0), (.i r9_0.a1), (.i r9_0.a2), (.i r9_0.a3)]), (.box [(.i r11_0.a0), (.i r11_0.a1), (.i r11_0.a2), (.i r11_0.a3)])], 0⟩ <| Sq <| Sx <| Wm (.i 0) rfl <| Nk 4192 3 ⟨tp 5 (.loc 0 0::.loc 1 0::tp 5 (.i 0::tp 10 [])), [(.box [(.i r9_0.a0), (.i r9_0.a1), (.i r9_0.a2), (.i r9_0.a3)]), (.box [(.i r11_0.a0), (.i r11_0.a1), (.i r11_0.a2), (.i r11_0.a3)])], 0⟩ <| Bk ?_
 refine AWP.loopI (α := Nat × Int)
   (fun (fu_1, y12_1) => (⟨tp 5 (.loc 0 0::.loc 1 0::tp 5 (.i y12_1::tp 10 [])), [(.box [(.i r9_0.a0), (.i r9_0.a1), (.i r9_0.a2), (.i r9_0.a3)]), (.box [(.i r11_0.a0), (.i r11_0.a1), (.i r11_0.a2), (.i r11_0.a3)])], 0⟩ : St))
   (fun (fu_1, y12_1) => m_front_Drops_l1 r11_0 r9_0 fu_1 y12_1 = some r)
   (fun (fu_1, y12_1) => fu_1) (1152921504606846976, 0)
   (Weak.toK 4192 0 0 [0, 1]) hm ?_
 rintro ⟨fu_1, y12_1⟩ n_1 hm ih_1
 try dsimp only at hm ih_1 ⊢
 cases fu_1 with
 | zero => exact absurd hm (by unfold m_front_Drops_l1; simp)
 | succ fu_1 =>
  unfold m_front_Drops_l1 at hm
  refine Sx <| Wz (.b (decide (y12_1 < 4))) (Obn rfl (fun _ => hb_lss (k := .i64))) <| Nk 12384 3 ⟨tp 5 (.loc 0 0::.loc 1 0::tp 5 (.i y12_1::.b (decide (y12_1 < 4))::tp 9 [])), [(.box [(.i r9_0.a0), (.i r9_0.a1), (.i r9_0.a2), (.i r9_0.a3)]), (.box [(.i r11_0.a0), (.i r11_0.a1), (.i r11_0.a2), (.i r11_0.a3)])], 0⟩ <| Sq ?_
  rcases tf_ (decide (y12_1 < 4)) with hc13_3 | hc13_3
  ·
   replace hm := cT hc13_3 hm
   refine AiT hc13_3 <| Sk <| Tk 4192 3 ⟨tp 5 (.loc 0 0::.loc 1 0::tp 5 (.i y12_1::tp 10 [])), [(.box [(.i r9_0.a0), (.i r9_0.a1), (.i r9_0.a2), (.i r9_0.a3)]), (.box [(.i r11_0.a0), (.i r11_0.a1), (.i r11_0.a2), (.i r11_0.a3)])], 0⟩ <| Sq <| Bk <| Sx <| Wm (.i y12_1) rfl <| Wm (.i y12_1) rfl <| Nk 4320 3 ⟨tp 5 (.loc 0 0::.loc 1 0::.i y12_1::tp 4 (.i y12_1::tp 10 [])), [(.box [(.i r9_0.a0), (.i r9_0.a1), (.i r9_0.a2), (.i r9_0.a3)]), (.box [(.i r11_0.a0), (.i r11_0.a1), (.i r11_0.a2), (.i r11_0.a3)])], 0⟩ <| Sq <| Adr <| Wm (.i y12_1) rfl ?_
   obtain ⟨x16_2, hx16_2, hm⟩ := bnd hm
   obtain ⟨hx16_2i, hx16_2g⟩ := geti_some hx16_2
   refine Wz (.loc 1 (0 + (Int.toNat y12_1) * 1)) (Ocs (by kernel_rfl) (op_iaddr_arr rfl (n := 4) (sz := 1) (y := (.loc 1 0)) (by kernel_rfl) (by kernel_rfl) (by kernel_rfl) (k := .i64) (iv := y12_1) (by kernel_rfl) (i := (Int.toNat y12_1)) (hx16_2i) (getlt hx16_2g))) <| Wz (.i x16_2) (OldD rfl (id := 1) (off := 0 + (Int.toNat y12_1) * 1) (cs := [(.i r11_0.a0), (.i r11_0.a1), (.i r11_0.a2), (.i r11_0.a3)]) (xs := (flatD (encI .i64) ([r11_0.a0, r11_0.a1, r11_0.a2, r11_0.a3] : List Int)).map A.d) (by kernel_rfl) (by kernel_rfl) (by kernel_rfl) ((loadA_scalar (by kernel_rfl)).trans (by rw [Nat.zero_add]; exact flat_row_at (l := ([r11_0.a0, r11_0.a1, r11_0.a2, r11_0.a3] : List Int)) (sz := 1) (encI_len (k := .i64)) (hx16_2g) (by kernel_rfl)))) <| Wm (.i y12_1) rfl ?_
   obtain ⟨x19_2, hx19_2, hm⟩ := bnd hm
   obtain ⟨hx19_2i, hx19_2g⟩ := geti_some hx19_2
   refine Wz (.loc 0 (0 + (Int.toNat y12_1) * 1)) (Ocs (by kernel_rfl) (op_iaddr_arr rfl (n := 4) (sz := 1) (y := (.loc 0 0)) (by kernel_rfl) (by kernel_rfl) (by kernel_rfl) (k := .i64) (iv := y12_1) (by kernel_rfl) (i := (Int.toNat y12_1)) (hx19_2i) (getlt hx19_2g))) <| Wz (.i x19_2) (OldD rfl (id := 0) (off := 0 + (Int.toNat y12_1) * 1) (cs := [(.i r9_0.a0), (.i r9_0.a1), (.i r9_0.a2), (.i r9_0.a3)]) (xs := (flatD (encI .i64) ([r9_0.a0, r9_0.a1, r9_0.a2, r9_0.a3] : List Int)).map A.d) (by kernel_rfl) (by kernel_rfl) (by kernel_rfl) ((loadA_scalar (by kernel_rfl)).trans (by rw [Nat.zero_add]; exact flat_row_at (l := ([r9_0.a0, r9_0.a1, r9_0.a2, r9_0.a3] : List Int)) (sz := 1) (encI_len (k := .i64)) (hx19_2g) (by kernel_rfl)))) <| Wz (.b (decide (x16_2 < x19_2))) (Obn rfl (fun _ => hb_lss (k := .i64))) <| Wdr <| Tk 2101344 3 ⟨tp 5 (.loc 0 0::.loc 1 0::tp 5 (.i y12_1::tp 8 (.b (decide (x16_2 < x19_2))::tp 1 []))), [(.box [(.i r9_0.a0), (.i r9_0.a1), (.i r9_0.a2), (.i r9_0.a3)]), (.box [(.i r11_0.a0), (.i r11_0.a1), (.i r11_0.a2), (.i r11_0.a3)])], 0⟩ ?_
   rcases tf_ (decide (x16_2 < x19_2)) with hc21_4 | hc21_4
   ·
    replace hm := cT hc21_4 hm
    refine AiT hc21_4 <| Sx <| Wm (.b true) rfl <| Nn <| Rt <| Ir <| Tr <| RoundK.ret <| Ir <| Tr ?_
    obtain rfl := Option.some.inj hm
    exact ret_i []
   ·
    replace hm := cF hc21_4 hm
    refine AiF hc21_4 <| Sk <| Ino <| Tk 4192 3 ⟨tp 5 (.loc 0 0::.loc 1 0::tp 5 (.i y12_1::tp 10 [])), [(.box [(.i r9_0.a0), (.i r9_0.a1), (.i r9_0.a2), (.i r9_0.a3)]), (.box [(.i r11_0.a0), (.i r11_0.a1), (.i r11_0.a2), (.i r11_0.a3)])], 0⟩ <| Tx <| Wz (.i (W6 (y12_1 + 1))) (Obn rfl (fun _ => hb_add (k := .i64))) <| Wm (.i (W6 (y12_1 + 1))) rfl <| Wn0 <| RoundK.normal ?_
    exact Rounds.weak (Weak.toK 4192 0 0 [0, 1]) (ih_1 (fu_1, (W6 (y12_1 + 1))) hm (Nat.lt_succ_self _))
  ·
   replace hm := cF hc13_3 hm
   refine AiF hc13_3 <| AWP.exit <| Then.exit <| RoundK.exit <| InBlock.same <| Tk 0 0 ⟨tp 23 [], [.gone, .gone], 0⟩ <| Sx <| Wm (.b false) rfl <| Nn <| Rt ?_
   obtain rfl := Option.some.inj hm
   exact ret_i []

theorem ok_w29_crew_turn_2 (p0 : GTcrew) (p1 : GTurn_) (r : (GTcrew × (List GBook))) (h : m_w29_crew_turn_2 p0 p1 = some r) : GCall Try.prog 34 [(.loc 0 0), (.agg [(.y p1.Kind), (.i p1.W), (.i p1.A)])] [(.box [(.i p0.net.Cap), (.l (encL enc_GChange) p0.net.Views), (.l (encL enc_GChange) p0.net.Pending), (.d (.mp (Option.isNone p0.net.Links) (mks kv_22 (ml p0.net.Links)) (mds (slD (encL enc_GChange)) (ml p0.net.Links)))), (.own 1), (.own 2)]), (Ar 72 1 enc_GBook p0.books), (.arr 3 1 (List.length p0.things) (flatD (encI .i64) p0.things))] (.tup []) [(.box [(.i r.1.net.Cap), (.l (encL enc_GChange) r.1.net.Views), (.l (encL enc_GChange) r.1.net.Pending), (.d (.mp (Option.isNone r.1.net.Links) (mks kv_22 (ml r.1.net.Links)) (mds (slD (encL enc_GChange)) (ml r.1.net.Links)))), (.own 1), (.own 3)]), (Ar 72 1 enc_GBook r.2), .gone, (.arr 3 1 (List.length r.1.things) (flatD (encI .i64) r.1.things))] := by
 refine GCall.of_body (n := 193) (rs := []) Try.func34 rfl rfl rfl <| Ato ⟨.loc 0 0::.agg [(.y p1.Kind), (.i p1.W), (.i p1.A)]::tu 191 [], [(.box [(.i p0.net.Cap), (.l (encL enc_GChange) p0.net.Views), (.l (encL enc_GChange) p0.net.Pending), (.d (.mp (Option.isNone p0.net.Links) (mks kv_22 (ml p0.net.Links)) (mds (slD (encL enc_GChange)) (ml p0.net.Links)))), (.own 1), (.own 2)]), (Ar 72 1 enc_GBook p0.books), (.arr 3 1 (List.length p0.things) (flatD (encI .i64) p0.things))], 3⟩ ?_
 have hm := h
 unfold m_w29_crew_turn_2 at hm
 refine Sx <| Wy (.loc 3 0) [(3, (.box [(.y p1.Kind), (.i p1.W), (.i p1.A)]))] (Obx rfl) <| Nk 9 15 ⟨.loc 0 0::tp 2 (.loc 3 0::tp 189 []), [(.box [(.i p0.net.Cap), (.l (encL enc_GChange) p0.net.Views), (.l (encL enc_GChange) p0.net.Pending), (.d (.mp (Option.isNone p0.net.Links) (mks kv_22 (ml p0.net.Links)) (mds (slD (encL enc_GChange)) (ml p0.net.Links)))), (.own 1), (.own 2)]), (Ar 72 1 enc_GBook p0.books), (.arr 3 1 (List.length p0.things) (flatD (encI .i64) p0.things)), (.box [(.y p1.Kind), (.i p1.W), (.i p1.A)])], 3⟩ <| Sq <| Adr <| Wz (.loc 3 1) (Ofa rfl) <| Wz (.i p1.W) (Old rfl) <| Wm (.loc 0 0) rfl <| Wz (.loc 0 0) (op_nilCheckLoc rfl (id := 0) (off := 0) (xs := [(.i p0.net.Cap), (.l (encL enc_GChange) p0.net.Views), (.l (encL enc_GChange) p0.net.Pending), (.d (.mp (Option.isNone p0.net.Links) (mks kv_22 (ml p0.net.Links)) (mds (slD (encL enc_GChange)) (ml p0.net.Links)))), (.own 1), (.own 2)]) (by kernel_rfl) (by kernel_rfl)) <| Wz (.loc 0 4) (Ofa rfl) <| Wz (.own 1) (Old rfl) <| Wz (.i ((List.length p0.books : Nat) : Int)) (Oln rfl) ?_
 obtain ⟨hd14_0, hm⟩ := chk_some hm
 refine Wz (.i (Int.tmod p1.W ((List.length p0.books : Nat) : Int))) (Ob2 (.int .i64 p1.W) (.int .i64 ((List.length p0.books : Nat) : Int)) rfl (fun _ => hb_rem hd14_0)) <| Wm (.i (Int.tmod p1.W ((List.length p0.books : Nat) : Int))) rfl <| Wdr <| Tk 25 15 ⟨.loc 0 0::tp 2 (.loc 3 0::.i (Int.tmod p1.W ((List.length p0.books : Nat) : Int))::tp 188 []), [(.box [(.i p0.net.Cap), (.l (encL enc_GChange) p0.net.Views), (.l (encL enc_GChange) p0.net.Pending), (.d (.mp (Option.isNone p0.net.Links) (mks kv_22 (ml p0.net.Links)) (mds (slD (encL enc_GChange)) (ml p0.net.Links)))), (.own 1), (.own 2)]), (Ar 72 1 enc_GBook p0.books), (.arr 3 1 (List.length p0.things) (flatD (encI .i64) p0.things)), (.box [(.y p1.Kind), (.i p1.W), (.i p1.A)])], 3⟩ <| Sx <| Wm (.d .nil) rfl <| Nk 57 15 ⟨.loc 0 0::tp 2 (.loc 3 0::.i (Int.tmod p1.W ((List.length p0.books : Nat) : Int))::.d .nil::tp 187 []), [(.box [(.i p0.net.Cap), (.l (encL enc_GChange) p0.net.Views), (.l (encL enc_GChange) p0.net.Pending), (.d (.mp (Option.isNone p0.net.Links) (mks kv_22 (ml p0.net.Links)) (mds (slD (encL enc_GChange)) (ml p0.net.Links)))), (.own 1), (.own 2)]), (Ar 72 1 enc_GBook p0.books), (.arr 3 1 (List.length p0.things) (flatD (encI .i64) p0.things)), (.box [(.y p1.Kind), (.i p1.W), (.i p1.A)])], 3⟩ ?_
 refine AWP.cutJ (α := (List Int) × (List GChange)) (fun (y0_d_2_4, y5_4) => (⟨.loc 0 0::tp 2 (.loc 4 0::.i (Int.tmod p1.W ((List.length p0.books : Nat) : Int))::.own 5::tp 187 []), [(.box [(.i p0.net.Cap), (.l (encL enc_GChange) p0.net.Views), (.l (encL enc_GChange) p0.net.Pending), (.d (.mp (Option.isNone p0.net.Links) (mks kv_22 (ml p0.net.Links)) (mds (slD (encL enc_GChange)) (ml p0.net.Links)))), (.own 1), (.own 3)]), (Ar 72 1 enc_GBook p0.books), .gone, (.arr 3 1 (List.length y0_d_2_4) (flatD (encI .i64) y0_d_2_4)), (.box [(.y p1.Kind), (.i p1.W), (.i p1.A)]), (Ar 84 3 enc_GChange y5_4)], 3⟩ : St)) (fun (y0_d_2_4, y5_4) => m_w29_crew_turn_2_j4 p0 p1 y0_d_2_4 y5_4 = some r) ?_ (fun J4 => ?_)
 ·
  rintro ⟨y0_d_2_4, y5_4⟩ hm
  try dsimp only at hm ⊢
  unfold m_w29_crew_turn_2_j4 at hm
  refine AWP.cutJ (α := (List Int) × (List GChange)) (fun (y0_d_2_10, y5_10) => (⟨.loc 0 0::tp 2 (.loc 4 0::.i (Int.tmod p1.W ((List.length p0.books : Nat) : Int))::.own 5::tp 187 []), [(.box [(.i p0.net.Cap), (.l (encL enc_GChange) p0.net.Views), (.l (encL enc_GChange) p0.net.Pending), (.d (.mp (Option.isNone p0.net.Links) (mks kv_22 (ml p0.net.Links)) (mds (slD (encL enc_GChange)) (ml p0.net.Links)))), (.own 1), (.own 3)]), (Ar 72 1 enc_GBook p0.books), .gone, (.arr 3 1 (List.length y0_d_2_10) (flatD (encI .i64) y0_d_2_10)), (.box [(.y p1.Kind), (.i p1.W), (.i p1.A)]), (Ar 84 3 enc_GChange y5_10)], 3⟩ : St)) (fun (y0_d_2_10, y5_10) => m_w29_crew_turn_2_j10 p0 p1 y0_d_2_10 y5_10 = some r) ?_ (fun J10 => ?_)
  ·
   rintro ⟨y0_d_2_10, y5_10⟩ hm
   try dsimp only at hm ⊢
   unfold m_w29_crew_turn_2_j10 at hm
   refine AWP.cutJ (α := (List GBook) × (List GChange)) (fun (y1_12, y5_12) => (⟨.loc 0 0::tp 2 (.loc 4 0::.i (Int.tmod p1.W ((List.length p0.books : Nat) : Int))::.l enc_GChange y5_12::tp 187 []), [(.box [(.i p0.net.Cap), (.l (encL enc_GChange) p0.net.Views), (.l (encL enc_GChange) p0.net.Pending), (.d (.mp (Option.isNone p0.net.Links) (mks kv_22 (ml p0.net.Links)) (mds (slD (encL enc_GChange)) (ml p0.net.Links)))), (.own 1), (.own 3)]), (Ar 72 1 enc_GBook y1_12), .gone, (.arr 3 1 (List.length y0_d_2_10) (flatD (encI .i64) y0_d_2_10)), (.box [(.y p1.Kind), (.i p1.W), (.i p1.A)])], 3⟩ : St)) (fun (y1_12, y5_12) => m_w29_crew_turn_2_j12 p0 p1 y0_d_2_10 y1_12 y5_12 = some r) ?_ (fun J12 => ?_)
   ·
    rintro ⟨y1_12, y5_12⟩ hm
    try dsimp only at hm ⊢
    unfold m_w29_crew_turn_2_j12 at hm
    refine AWP.cutJ (α := (List GBook) × (List GChange)) (fun (y1_14, y5_14) => (⟨.loc 0 0::tp 2 (.loc 4 0::.i (Int.tmod p1.W ((List.length p0.books : Nat) : Int))::.l enc_GChange y5_14::tp 187 []), [(.box [(.i p0.net.Cap), (.l (encL enc_GChange) p0.net.Views), (.l (encL enc_GChange) p0.net.Pending), (.d (.mp (Option.isNone p0.net.Links) (mks kv_22 (ml p0.net.Links)) (mds (slD (encL enc_GChange)) (ml p0.net.Links)))), (.own 1), (.own 3)]), (Ar 72 1 enc_GBook y1_14), .gone, (.arr 3 1 (List.length y0_d_2_10) (flatD (encI .i64) y0_d_2_10)), (.box [(.y p1.Kind), (.i p1.W), (.i p1.A)])], 3⟩ : St)) (fun (y1_14, y5_14) => m_w29_crew_turn_2_j14 p0 p1 y0_d_2_10 y1_14 y5_14 = some r) ?_ (fun J14 => ?_)
    ·
     rintro ⟨y1_14, y5_14⟩ hm
     try dsimp only at hm ⊢
     unfold m_w29_crew_turn_2_j14 at hm
     refine Sx <| Wm (.loc 0 0) rfl <| Wm (.loc 0 0) rfl <| Wz (.loc 0 0) (op_nilCheckLoc rfl (id := 0) (off := 0) (xs := [(.i p0.net.Cap), (.l (encL enc_GChange) p0.net.Views), (.l (encL enc_GChange) p0.net.Pending), (.d (.mp (Option.isNone p0.net.Links) (mks kv_22 (ml p0.net.Links)) (mds (slD (encL enc_GChange)) (ml p0.net.Links)))), (.own 1), (.own 3)]) (by kernel_rfl) (by kernel_rfl)) <| Wz (.loc 0 0) (Ofa rfl) <| Wz (.agg [(.i p0.net.Cap), (.l (encL enc_GChange) p0.net.Views), (.l (encL enc_GChange) p0.net.Pending), (.d (.mp (Option.isNone p0.net.Links) (mks kv_22 (ml p0.net.Links)) (mds (slD (encL enc_GChange)) (ml p0.net.Links))))]) (Old rfl) <| Wm (.i (Int.tmod p1.W ((List.length p0.books : Nat) : Int))) rfl <| Wm (.l enc_GChange y5_14) rfl ?_
     obtain ⟨r156_15, hr156_15, hm⟩ := bnd hm
     refine Wz (.tup [(.agg [(.i r156_15.1.Cap), (.l (encL enc_GChange) r156_15.1.Views), (.l (encL enc_GChange) r156_15.1.Pending), (.d (.mp (Option.isNone r156_15.1.Links) (mks kv_22 (ml r156_15.1.Links)) (mds (slD (encL enc_GChange)) (ml r156_15.1.Links))))]), (.i r156_15.2)]) (Ocf [] [] [] 0 (ok_view_Net_Note p0.net (Int.tmod p1.W ((List.length p0.books : Nat) : Int)) y5_14 r156_15 hr156_15) (fun a w => Try.call11 a w) rfl trivial) <| Wm (.tup [(.agg [(.i r156_15.1.Cap), (.l (encL enc_GChange) r156_15.1.Views), (.l (encL enc_GChange) r156_15.1.Pending), (.d (.mp (Option.isNone r156_15.1.Links) (mks kv_22 (ml r156_15.1.Links)) (mds (slD (encL enc_GChange)) (ml r156_15.1.Links))))]), (.i r156_15.2)]) rfl <| Wz (.agg [(.i r156_15.1.Cap), (.l (encL enc_GChange) r156_15.1.Views), (.l (encL enc_GChange) r156_15.1.Pending), (.d (.mp (Option.isNone r156_15.1.Links) (mks kv_22 (ml r156_15.1.Links)) (mds (slD (encL enc_GChange)) (ml r156_15.1.Links))))]) (Oex rfl) <| Wz (.i r156_15.2) (Oex rfl) <| Wz (.loc 0 0) (op_nilCheckLoc rfl (id := 0) (off := 0) (xs := [(.i p0.net.Cap), (.l (encL enc_GChange) p0.net.Views), (.l (encL enc_GChange) p0.net.Pending), (.d (.mp (Option.isNone p0.net.Links) (mks kv_22 (ml p0.net.Links)) (mds (slD (encL enc_GChange)) (ml p0.net.Links)))), (.own 1), (.own 3)]) (by kernel_rfl) (by kernel_rfl)) <| Wz (.loc 0 0) (Ofa rfl) <| Wy (.tup []) [(0, (.box [(.i r156_15.1.Cap), (.l (encL enc_GChange) r156_15.1.Views), (.l (encL enc_GChange) r156_15.1.Pending), (.d (.mp (Option.isNone r156_15.1.Links) (mks kv_22 (ml r156_15.1.Links)) (mds (slD (encL enc_GChange)) (ml r156_15.1.Links)))), (.own 1), (.own 3)]))] (Ost rfl) <| Nk 25 31 ⟨.loc 0 0::tp 2 (.loc 4 0::.i (Int.tmod p1.W ((List.length p0.books : Nat) : Int))::tp 188 []), [(.box [(.i r156_15.1.Cap), (.l (encL enc_GChange) r156_15.1.Views), (.l (encL enc_GChange) r156_15.1.Pending), (.d (.mp (Option.isNone r156_15.1.Links) (mks kv_22 (ml r156_15.1.Links)) (mds (slD (encL enc_GChange)) (ml r156_15.1.Links)))), (.own 1), (.own 3)]), (Ar 72 1 enc_GBook y1_14), .gone, (.arr 3 1 (List.length y0_d_2_10) (flatD (encI .i64) y0_d_2_10)), (.box [(.y p1.Kind), (.i p1.W), (.i p1.A)])], 3⟩ ?_
     refine AWP.cutJ (α := GNet) (fun x => match x with | y0_d_0_17 => (⟨.loc 0 0::tp 2 (.loc 4 0::.i (Int.tmod p1.W ((List.length p0.books : Nat) : Int))::tp 188 []), [(.box [(.i y0_d_0_17.Cap), (.l (encL enc_GChange) y0_d_0_17.Views), (.l (encL enc_GChange) y0_d_0_17.Pending), (.d (.mp (Option.isNone y0_d_0_17.Links) (mks kv_22 (ml y0_d_0_17.Links)) (mds (slD (encL enc_GChange)) (ml y0_d_0_17.Links)))), (.own 1), (.own 3)]), (Ar 72 1 enc_GBook y1_14), .gone, (.arr 3 1 (List.length y0_d_2_10) (flatD (encI .i64) y0_d_2_10)), (.box [(.y p1.Kind), (.i p1.W), (.i p1.A)])], 3⟩ : St)) (fun x => match x with | y0_d_0_17 => m_w29_crew_turn_2_j17 p0 p1 y0_d_2_10 y1_14 y0_d_0_17 = some r) ?_ (fun J17 => ?_)
     ·
      rintro y0_d_0_17 hm
      try dsimp only at hm ⊢
      unfold m_w29_crew_turn_2_j17 at hm
      refine Sx <| Wz (.loc 4 0) (Ofa rfl) <| Wz (.y p1.Kind) (Old rfl) <| Wz (.b (decide (((p1.Kind.toNat : Nat) : Int) = 5))) (Ob2 (.int .u8 ((p1.Kind.toNat : Nat) : Int)) (.int .u8 5) rfl (fun _ => hb_eql)) <| Nk 383123885216472214589586756787577295904684780545900569 31 ⟨.loc 0 0::tp 2 (.loc 4 0::.i (Int.tmod p1.W ((List.length p0.books : Nat) : Int))::tp 173 (.b (decide (((p1.Kind.toNat : Nat) : Int) = 5))::tp 14 [])), [(.box [(.i y0_d_0_17.Cap), (.l (encL enc_GChange) y0_d_0_17.Views), (.l (encL enc_GChange) y0_d_0_17.Pending), (.d (.mp (Option.isNone y0_d_0_17.Links) (mks kv_22 (ml y0_d_0_17.Links)) (mds (slD (encL enc_GChange)) (ml y0_d_0_17.Links)))), (.own 1), (.own 3)]), (Ar 72 1 enc_GBook y1_14), .gone, (.arr 3 1 (List.length y0_d_2_10) (flatD (encI .i64) y0_d_2_10)), (.box [(.y p1.Kind), (.i p1.W), (.i p1.A)])], 3⟩ ?_
      rcases tf_ (decide (((p1.Kind.toNat : Nat) : Int) = 5)) with hc178_19 | hc178_19
      ·
       replace hm := cT hc178_19 hm
       refine AiT hc178_19 <| Adr <| Wm (.loc 0 0) rfl <| Wm (.loc 0 0) rfl <| Wz (.loc 0 0) (op_nilCheckLoc rfl (id := 0) (off := 0) (xs := [(.i y0_d_0_17.Cap), (.l (encL enc_GChange) y0_d_0_17.Views), (.l (encL enc_GChange) y0_d_0_17.Pending), (.d (.mp (Option.isNone y0_d_0_17.Links) (mks kv_22 (ml y0_d_0_17.Links)) (mds (slD (encL enc_GChange)) (ml y0_d_0_17.Links)))), (.own 1), (.own 3)]) (by kernel_rfl) (by kernel_rfl)) <| Wz (.loc 0 0) (Ofa rfl) <| Wz (.agg [(.i y0_d_0_17.Cap), (.l (encL enc_GChange) y0_d_0_17.Views), (.l (encL enc_GChange) y0_d_0_17.Pending), (.d (.mp (Option.isNone y0_d_0_17.Links) (mks kv_22 (ml y0_d_0_17.Links)) (mds (slD (encL enc_GChange)) (ml y0_d_0_17.Links))))]) (Old rfl) <| Wz (.loc 4 2) (Ofa rfl) <| Wz (.i p1.A) (Old rfl) <| Wm (.i (Int.tmod p1.W ((List.length p0.books : Nat) : Int))) rfl ?_
       obtain ⟨r188_18, hr188_18, hm⟩ := bnd hm
       refine Wz (.tup [(.agg [(.i r188_18.1.Cap), (.l (encL enc_GChange) r188_18.1.Views), (.l (encL enc_GChange) r188_18.1.Pending), (.d (.mp (Option.isNone r188_18.1.Links) (mks kv_22 (ml r188_18.1.Links)) (mds (slD (encL enc_GChange)) (ml r188_18.1.Links))))]), (.i r188_18.2)]) (Ocf [] [] [] 0 (ok_view_Net_Deliver y0_d_0_17 p1.A (Int.tmod p1.W ((List.length p0.books : Nat) : Int)) r188_18 hr188_18) (fun a w => Try.call15 a w) rfl trivial) <| Wm (.tup [(.agg [(.i r188_18.1.Cap), (.l (encL enc_GChange) r188_18.1.Views), (.l (encL enc_GChange) r188_18.1.Pending), (.d (.mp (Option.isNone r188_18.1.Links) (mks kv_22 (ml r188_18.1.Links)) (mds (slD (encL enc_GChange)) (ml r188_18.1.Links))))]), (.i r188_18.2)]) rfl <| Wz (.agg [(.i r188_18.1.Cap), (.l (encL enc_GChange) r188_18.1.Views), (.l (encL enc_GChange) r188_18.1.Pending), (.d (.mp (Option.isNone r188_18.1.Links) (mks kv_22 (ml r188_18.1.Links)) (mds (slD (encL enc_GChange)) (ml r188_18.1.Links))))]) (Oex rfl) <| Wz (.i r188_18.2) (Oex rfl) <| Wz (.loc 0 0) (op_nilCheckLoc rfl (id := 0) (off := 0) (xs := [(.i y0_d_0_17.Cap), (.l (encL enc_GChange) y0_d_0_17.Views), (.l (encL enc_GChange) y0_d_0_17.Pending), (.d (.mp (Option.isNone y0_d_0_17.Links) (mks kv_22 (ml y0_d_0_17.Links)) (mds (slD (encL enc_GChange)) (ml y0_d_0_17.Links)))), (.own 1), (.own 3)]) (by kernel_rfl) (by kernel_rfl)) <| Wz (.loc 0 0) (Ofa rfl) <| Wy (.tup []) [(0, (.box [(.i r188_18.1.Cap), (.l (encL enc_GChange) r188_18.1.Views), (.l (encL enc_GChange) r188_18.1.Pending), (.d (.mp (Option.isNone r188_18.1.Links) (mks kv_22 (ml r188_18.1.Links)) (mds (slD (encL enc_GChange)) (ml r188_18.1.Links)))), (.own 1), (.own 3)]))] (Ost rfl) <| Wdr ?_
       obtain rfl := Option.some.inj hm
       exact ret_n [0, 1, 2, 3]
      ·
       replace hm := cF hc178_19 hm
       refine AiF hc178_19 <| Sk ?_
       obtain rfl := Option.some.inj hm
       exact ret_n [0, 1, 2, 3]
     refine Sq <| Sx <| Wz (.loc 4 0) (Ofa rfl) <| Wz (.y p1.Kind) (Old rfl) <| Wz (.b (decide (((p1.Kind.toNat : Nat) : Int) = 4))) (Ob2 (.int .u8 ((p1.Kind.toNat : Nat) : Int)) (.int .u8 4) rfl (fun _ => hb_eql)) <| Nk 11692013098647223345629478661730264157247460343833 31 ⟨.loc 0 0::tp 2 (.loc 4 0::.i (Int.tmod p1.W ((List.length p0.books : Nat) : Int))::tp 158 (.b (decide (((p1.Kind.toNat : Nat) : Int) = 4))::tp 29 [])), [(.box [(.i r156_15.1.Cap), (.l (encL enc_GChange) r156_15.1.Views), (.l (encL enc_GChange) r156_15.1.Pending), (.d (.mp (Option.isNone r156_15.1.Links) (mks kv_22 (ml r156_15.1.Links)) (mds (slD (encL enc_GChange)) (ml r156_15.1.Links)))), (.own 1), (.own 3)]), (Ar 72 1 enc_GBook y1_14), .gone, (.arr 3 1 (List.length y0_d_2_10) (flatD (encI .i64) y0_d_2_10)), (.box [(.y p1.Kind), (.i p1.W), (.i p1.A)])], 3⟩ ?_
     rcases tf_ (decide (((p1.Kind.toNat : Nat) : Int) = 4)) with hc163_20 | hc163_20
     ·
      replace hm := cT hc163_20 hm
      refine AiT hc163_20 <| Tx <| Wm (.loc 0 0) rfl <| Wm (.loc 0 0) rfl <| Wz (.loc 0 0) (op_nilCheckLoc rfl (id := 0) (off := 0) (xs := [(.i r156_15.1.Cap), (.l (encL enc_GChange) r156_15.1.Views), (.l (encL enc_GChange) r156_15.1.Pending), (.d (.mp (Option.isNone r156_15.1.Links) (mks kv_22 (ml r156_15.1.Links)) (mds (slD (encL enc_GChange)) (ml r156_15.1.Links)))), (.own 1), (.own 3)]) (by kernel_rfl) (by kernel_rfl)) <| Wz (.loc 0 0) (Ofa rfl) <| Wz (.agg [(.i r156_15.1.Cap), (.l (encL enc_GChange) r156_15.1.Views), (.l (encL enc_GChange) r156_15.1.Pending), (.d (.mp (Option.isNone r156_15.1.Links) (mks kv_22 (ml r156_15.1.Links)) (mds (slD (encL enc_GChange)) (ml r156_15.1.Links))))]) (Old rfl) <| Wm (.i (Int.tmod p1.W ((List.length p0.books : Nat) : Int))) rfl ?_
      obtain ⟨r171_16, hr171_16, hm⟩ := bnd hm
      refine Wz (.tup [(.agg [(.i r171_16.1.Cap), (.l (encL enc_GChange) r171_16.1.Views), (.l (encL enc_GChange) r171_16.1.Pending), (.d (.mp (Option.isNone r171_16.1.Links) (mks kv_22 (ml r171_16.1.Links)) (mds (slD (encL enc_GChange)) (ml r171_16.1.Links))))]), (.i r171_16.2)]) (Ocf [] [] [] 0 (ok_view_Net_Flush r156_15.1 (Int.tmod p1.W ((List.length p0.books : Nat) : Int)) r171_16 hr171_16) (fun a w => Try.call13 a w) rfl trivial) <| Wm (.tup [(.agg [(.i r171_16.1.Cap), (.l (encL enc_GChange) r171_16.1.Views), (.l (encL enc_GChange) r171_16.1.Pending), (.d (.mp (Option.isNone r171_16.1.Links) (mks kv_22 (ml r171_16.1.Links)) (mds (slD (encL enc_GChange)) (ml r171_16.1.Links))))]), (.i r171_16.2)]) rfl <| Wz (.agg [(.i r171_16.1.Cap), (.l (encL enc_GChange) r171_16.1.Views), (.l (encL enc_GChange) r171_16.1.Pending), (.d (.mp (Option.isNone r171_16.1.Links) (mks kv_22 (ml r171_16.1.Links)) (mds (slD (encL enc_GChange)) (ml r171_16.1.Links))))]) (Oex rfl) <| Wz (.i r171_16.2) (Oex rfl) <| Wz (.loc 0 0) (op_nilCheckLoc rfl (id := 0) (off := 0) (xs := [(.i r156_15.1.Cap), (.l (encL enc_GChange) r156_15.1.Views), (.l (encL enc_GChange) r156_15.1.Pending), (.d (.mp (Option.isNone r156_15.1.Links) (mks kv_22 (ml r156_15.1.Links)) (mds (slD (encL enc_GChange)) (ml r156_15.1.Links)))), (.own 1), (.own 3)]) (by kernel_rfl) (by kernel_rfl)) <| Wz (.loc 0 0) (Ofa rfl) <| Wy (.tup []) [(0, (.box [(.i r171_16.1.Cap), (.l (encL enc_GChange) r171_16.1.Views), (.l (encL enc_GChange) r171_16.1.Pending), (.d (.mp (Option.isNone r171_16.1.Links) (mks kv_22 (ml r171_16.1.Links)) (mds (slD (encL enc_GChange)) (ml r171_16.1.Links)))), (.own 1), (.own 3)]))] (Ost rfl) <| Nn ?_
      exact AWP.weak (Weak.toK 25 0 0 [0, 1, 2, 3, 4]) (J17 (r171_16.1) hm)
     ·
      replace hm := cF hc163_20 hm
      refine AiF hc163_20 <| Sk <| Tn ?_
      exact AWP.weak (Weak.toK 25 0 0 [0, 1, 2, 3, 4]) (J17 (r156_15.1) hm)
    refine Sq <| Sx <| Wz (.loc 4 0) (Ofa rfl) <| Wz (.y p1.Kind) (Old rfl) <| Wz (.b (decide (((p1.Kind.toNat : Nat) : Int) = 3))) (Ob2 (.int .u8 ((p1.Kind.toNat : Nat) : Int)) (.int .u8 3) rfl (fun _ => hb_eql)) <| Nk 680564733841876926926749214863536422969 31 ⟨.loc 0 0::tp 2 (.loc 4 0::.i (Int.tmod p1.W ((List.length p0.books : Nat) : Int))::.l enc_GChange y5_12::tp 123 (.b (decide (((p1.Kind.toNat : Nat) : Int) = 3))::tp 63 [])), [(.box [(.i p0.net.Cap), (.l (encL enc_GChange) p0.net.Views), (.l (encL enc_GChange) p0.net.Pending), (.d (.mp (Option.isNone p0.net.Links) (mks kv_22 (ml p0.net.Links)) (mds (slD (encL enc_GChange)) (ml p0.net.Links)))), (.own 1), (.own 3)]), (Ar 72 1 enc_GBook y1_12), .gone, (.arr 3 1 (List.length y0_d_2_10) (flatD (encI .i64) y0_d_2_10)), (.box [(.y p1.Kind), (.i p1.W), (.i p1.A)])], 3⟩ ?_
    rcases tf_ (decide (((p1.Kind.toNat : Nat) : Int) = 3)) with hc129_21 | hc129_21
    ·
     replace hm := cT hc129_21 hm
     refine AiT hc129_21 <| Adr <| Wm (.loc 0 0) rfl <| Wz (.loc 0 0) (op_nilCheckLoc rfl (id := 0) (off := 0) (xs := [(.i p0.net.Cap), (.l (encL enc_GChange) p0.net.Views), (.l (encL enc_GChange) p0.net.Pending), (.d (.mp (Option.isNone p0.net.Links) (mks kv_22 (ml p0.net.Links)) (mds (slD (encL enc_GChange)) (ml p0.net.Links)))), (.own 1), (.own 3)]) (by kernel_rfl) (by kernel_rfl)) <| Wz (.loc 0 4) (Ofa rfl) <| Wz (.own 1) (Old rfl) <| Wm (.i (Int.tmod p1.W ((List.length p0.books : Nat) : Int))) rfl <| Wm (.loc 0 0) rfl <| Wz (.loc 0 0) (op_nilCheckLoc rfl (id := 0) (off := 0) (xs := [(.i p0.net.Cap), (.l (encL enc_GChange) p0.net.Views), (.l (encL enc_GChange) p0.net.Pending), (.d (.mp (Option.isNone p0.net.Links) (mks kv_22 (ml p0.net.Links)) (mds (slD (encL enc_GChange)) (ml p0.net.Links)))), (.own 1), (.own 3)]) (by kernel_rfl) (by kernel_rfl)) <| Wz (.loc 0 4) (Ofa rfl) <| Wz (.own 1) (Old rfl) <| Wm (.i (Int.tmod p1.W ((List.length p0.books : Nat) : Int))) rfl ?_
     obtain ⟨x141_13, hx141_13, hm⟩ := bnd hm
     obtain ⟨hx141_13i, hx141_13g⟩ := geti_some hx141_13
     refine Wz (.loc 1 ((Int.toNat (Int.tmod p1.W ((List.length p0.books : Nat) : Int))) * 1)) (Oia rfl enc_GBook_len hx141_13i hx141_13g) <| Wz (.agg [(.l enc_GLeave_ x141_13.L)]) (Lr rfl enc_GBook_len hx141_13g) ?_
     obtain ⟨r143_13, hr143_13, hm⟩ := bnd hm
     refine Wy (.tup [(.agg [(.l enc_GLeave_ r143_13.1.L)]), (.own 5), (.i r143_13.2.2)]) [(5, (Ar 84 3 enc_GChange r143_13.2.1))] (Ocf [] [5] [] 0 (ok_token_Book_Drop x141_13 0 r143_13 hr143_13) (fun a w => Try.call63 a w) rfl trivial) <| Wm (.tup [(.agg [(.l enc_GLeave_ r143_13.1.L)]), (.own 5), (.i r143_13.2.2)]) rfl <| Wz (.agg [(.l enc_GLeave_ r143_13.1.L)]) (Oex rfl) <| Wz (.own 5) (Oex rfl) <| Wz (.i r143_13.2.2) (Oex rfl) ?_
     obtain ⟨x147_13, hx147_13, hm⟩ := bnd hm
     obtain ⟨hx147_13i, hx147_13g⟩ := geti_some hx147_13
     refine Wz (.loc 1 ((Int.toNat (Int.tmod p1.W ((List.length p0.books : Nat) : Int))) * 1)) (Oia rfl enc_GBook_len hx147_13i hx147_13g) <| Wy (.tup []) [(1, (Ar 72 1 enc_GBook (List.set y1_12 (Int.toNat (Int.tmod p1.W ((List.length p0.books : Nat) : Int))) r143_13.1)))] (Osr 0 rfl enc_GBook_len hx147_13g r143_13.1) <| Wm (.own 5) rfl <| Wdr <| Tn <| Afz [5] ⟨.loc 0 0::tp 2 (.loc 4 0::.i (Int.tmod p1.W ((List.length p0.books : Nat) : Int))::.l enc_GChange r143_13.2.1::tp 123 (.b (decide (((p1.Kind.toNat : Nat) : Int) = 3))::.tup [(.agg [(.l enc_GLeave_ r143_13.1.L)]), (.l enc_GChange r143_13.2.1), (.i r143_13.2.2)]::.loc 0 0::.loc 0 0::.loc 0 4::.own 1::.i (Int.tmod p1.W ((List.length p0.books : Nat) : Int))::.loc 0 0::.loc 0 0::.loc 0 4::.own 1::.i (Int.tmod p1.W ((List.length p0.books : Nat) : Int))::.loc 1 ((Int.toNat (Int.tmod p1.W ((List.length p0.books : Nat) : Int))) * 1)::.agg [(.l enc_GLeave_ x141_13.L)]::.tup [(.agg [(.l enc_GLeave_ r143_13.1.L)]), (.l enc_GChange r143_13.2.1), (.i r143_13.2.2)]::.agg [(.l enc_GLeave_ r143_13.1.L)]::.l enc_GChange r143_13.2.1::.i r143_13.2.2::.loc 1 ((Int.toNat (Int.tmod p1.W ((List.length p0.books : Nat) : Int))) * 1)::tp 45 [])), [(.box [(.i p0.net.Cap), (.l (encL enc_GChange) p0.net.Views), (.l (encL enc_GChange) p0.net.Pending), (.d (.mp (Option.isNone p0.net.Links) (mks kv_22 (ml p0.net.Links)) (mds (slD (encL enc_GChange)) (ml p0.net.Links)))), (.own 1), (.own 3)]), (Ar 72 1 enc_GBook (List.set y1_12 (Int.toNat (Int.tmod p1.W ((List.length p0.books : Nat) : Int))) r143_13.1)), .gone, (.arr 3 1 (List.length y0_d_2_10) (flatD (encI .i64) y0_d_2_10)), (.box [(.y p1.Kind), (.i p1.W), (.i p1.A)]), (.fro 84 3 (List.length r143_13.2.1) (flatD enc_GChange r143_13.2.1))], 3⟩ ?_
     exact AWP.weak (Weak.toK 57 0 0 [0, 1, 2, 3, 4]) (J14 ((List.set y1_12 (Int.toNat (Int.tmod p1.W ((List.length p0.books : Nat) : Int))) r143_13.1), r143_13.2.1) hm)
    ·
     replace hm := cF hc129_21 hm
     refine AiF hc129_21 <| Sk <| Tn ?_
     exact AWP.weak (Weak.toK 57 0 0 [0, 1, 2, 3, 4]) (J14 (y1_12, y5_12) hm)
   refine Sq <| Sx <| Wz (.loc 4 0) (Ofa rfl) <| Wz (.y p1.Kind) (Old rfl) <| Wz (.b (decide (((p1.Kind.toNat : Nat) : Int) = 2))) (Ob2 (.int .u8 ((p1.Kind.toNat : Nat) : Int)) (.int .u8 2) rfl (fun _ => hb_eql)) <| Nk 81129638414606681695789005144121 63 ⟨.loc 0 0::tp 2 (.loc 4 0::.i (Int.tmod p1.W ((List.length p0.books : Nat) : Int))::.own 5::tp 100 (.b (decide (((p1.Kind.toNat : Nat) : Int) = 2))::tp 86 [])), [(.box [(.i p0.net.Cap), (.l (encL enc_GChange) p0.net.Views), (.l (encL enc_GChange) p0.net.Pending), (.d (.mp (Option.isNone p0.net.Links) (mks kv_22 (ml p0.net.Links)) (mds (slD (encL enc_GChange)) (ml p0.net.Links)))), (.own 1), (.own 3)]), (Ar 72 1 enc_GBook p0.books), .gone, (.arr 3 1 (List.length y0_d_2_10) (flatD (encI .i64) y0_d_2_10)), (.box [(.y p1.Kind), (.i p1.W), (.i p1.A)]), (Ar 84 3 enc_GChange y5_10)], 3⟩ ?_
   rcases tf_ (decide (((p1.Kind.toNat : Nat) : Int) = 2)) with hc106_22 | hc106_22
   ·
    replace hm := cT hc106_22 hm
    refine AiT hc106_22 <| Adr <| Wm (.loc 0 0) rfl <| Wz (.loc 0 0) (op_nilCheckLoc rfl (id := 0) (off := 0) (xs := [(.i p0.net.Cap), (.l (encL enc_GChange) p0.net.Views), (.l (encL enc_GChange) p0.net.Pending), (.d (.mp (Option.isNone p0.net.Links) (mks kv_22 (ml p0.net.Links)) (mds (slD (encL enc_GChange)) (ml p0.net.Links)))), (.own 1), (.own 3)]) (by kernel_rfl) (by kernel_rfl)) <| Wz (.loc 0 4) (Ofa rfl) <| Wz (.own 1) (Old rfl) <| Wm (.i (Int.tmod p1.W ((List.length p0.books : Nat) : Int))) rfl <| Wm (.loc 0 0) rfl <| Wz (.loc 0 0) (op_nilCheckLoc rfl (id := 0) (off := 0) (xs := [(.i p0.net.Cap), (.l (encL enc_GChange) p0.net.Views), (.l (encL enc_GChange) p0.net.Pending), (.d (.mp (Option.isNone p0.net.Links) (mks kv_22 (ml p0.net.Links)) (mds (slD (encL enc_GChange)) (ml p0.net.Links)))), (.own 1), (.own 3)]) (by kernel_rfl) (by kernel_rfl)) <| Wz (.loc 0 4) (Ofa rfl) <| Wz (.own 1) (Old rfl) <| Wm (.i (Int.tmod p1.W ((List.length p0.books : Nat) : Int))) rfl ?_
    obtain ⟨x118_11, hx118_11, hm⟩ := bnd hm
    obtain ⟨hx118_11i, hx118_11g⟩ := geti_some hx118_11
    refine Wz (.loc 1 ((Int.toNat (Int.tmod p1.W ((List.length p0.books : Nat) : Int))) * 1)) (Oia rfl enc_GBook_len hx118_11i hx118_11g) <| Wz (.agg [(.l enc_GLeave_ x118_11.L)]) (Lr rfl enc_GBook_len hx118_11g) <| Wz (.loc 4 2) (Ofa rfl) <| Wz (.i p1.A) (Old rfl) ?_
    obtain ⟨r122_11, hr122_11, hm⟩ := bnd hm
    refine Wz (.tup [(.agg [(.l enc_GLeave_ r122_11.1.L)]), (.l enc_GChange r122_11.2.1), (.i r122_11.2.2)]) (Ocf [] [] [] 0 (ok_token_Book_Lower x118_11 0 p1.A r122_11 hr122_11) (fun a w => Try.call62 a w) rfl trivial) <| Wm (.tup [(.agg [(.l enc_GLeave_ r122_11.1.L)]), (.l enc_GChange r122_11.2.1), (.i r122_11.2.2)]) rfl <| Wz (.agg [(.l enc_GLeave_ r122_11.1.L)]) (Oex rfl) <| Wz (.l enc_GChange r122_11.2.1) (Oex rfl) <| Wz (.i r122_11.2.2) (Oex rfl) ?_
    obtain ⟨x126_11, hx126_11, hm⟩ := bnd hm
    obtain ⟨hx126_11i, hx126_11g⟩ := geti_some hx126_11
    refine Wz (.loc 1 ((Int.toNat (Int.tmod p1.W ((List.length p0.books : Nat) : Int))) * 1)) (Oia rfl enc_GBook_len hx126_11i hx126_11g) <| Wy (.tup []) [(1, (Ar 72 1 enc_GBook (List.set p0.books (Int.toNat (Int.tmod p1.W ((List.length p0.books : Nat) : Int))) r122_11.1)))] (Osr 0 rfl enc_GBook_len hx126_11g r122_11.1) <| Wm (.l enc_GChange r122_11.2.1) rfl <| Wdr <| Tn ?_
    exact AWP.weak (Weak.toK 57 0 0 [0, 1, 2, 3, 4]) (J12 ((List.set p0.books (Int.toNat (Int.tmod p1.W ((List.length p0.books : Nat) : Int))) r122_11.1), r122_11.2.1) hm)
   ·
    replace hm := cF hc106_22 hm
    refine AiF hc106_22 <| Sk <| Tn <| Afz [5] ⟨.loc 0 0::tp 2 (.loc 4 0::.i (Int.tmod p1.W ((List.length p0.books : Nat) : Int))::.l enc_GChange y5_10::tp 100 (.b (decide (((p1.Kind.toNat : Nat) : Int) = 2))::tp 86 [])), [(.box [(.i p0.net.Cap), (.l (encL enc_GChange) p0.net.Views), (.l (encL enc_GChange) p0.net.Pending), (.d (.mp (Option.isNone p0.net.Links) (mks kv_22 (ml p0.net.Links)) (mds (slD (encL enc_GChange)) (ml p0.net.Links)))), (.own 1), (.own 3)]), (Ar 72 1 enc_GBook p0.books), .gone, (.arr 3 1 (List.length y0_d_2_10) (flatD (encI .i64) y0_d_2_10)), (.box [(.y p1.Kind), (.i p1.W), (.i p1.A)]), (.fro 84 3 (List.length y5_10) (flatD enc_GChange y5_10))], 3⟩ ?_
    exact AWP.weak (Weak.toK 57 0 0 [0, 1, 2, 3, 4]) (J12 (p0.books, y5_10) hm)
  refine Sq <| Sx <| Wz (.loc 4 0) (Ofa rfl) <| Wz (.y p1.Kind) (Old rfl) <| Wz (.b (decide (((p1.Kind.toNat : Nat) : Int) = 1))) (Ob2 (.int .u8 ((p1.Kind.toNat : Nat) : Int)) (.int .u8 1) rfl (fun _ => hb_eql)) ?_
  rcases tf_ (decide (((p1.Kind.toNat : Nat) : Int) = 1)) with hq58_5 | hq58_5
  ·
   replace hm := cT hq58_5 hm
   refine Wz (.b true) (Oq hq58_5 rfl) <| Wm (.loc 0 0) rfl <| Wz (.loc 0 0) (op_nilCheckLoc rfl (id := 0) (off := 0) (xs := [(.i p0.net.Cap), (.l (encL enc_GChange) p0.net.Views), (.l (encL enc_GChange) p0.net.Pending), (.d (.mp (Option.isNone p0.net.Links) (mks kv_22 (ml p0.net.Links)) (mds (slD (encL enc_GChange)) (ml p0.net.Links)))), (.own 1), (.own 3)]) (by kernel_rfl) (by kernel_rfl)) <| Wz (.loc 0 5) (Ofa rfl) <| Wz (.own 3) (Old rfl) <| Wz (.i ((List.length y0_d_2_4 : Nat) : Int)) (Oln rfl) <| Wz (.b (decide ((0 : Int) < ((List.length y0_d_2_4 : Nat) : Int)))) (Obn rfl (fun _ => hb_gtr (k := .i64))) <| Wz (.b (decide ((0 : Int) < ((List.length y0_d_2_4 : Nat) : Int)))) (OpT rfl) <| Nk 36893488147419103289 63 ⟨.loc 0 0::tp 2 (.loc 4 0::.i (Int.tmod p1.W ((List.length p0.books : Nat) : Int))::.own 5::tp 59 (.b (decide ((0 : Int) < ((List.length y0_d_2_4 : Nat) : Int)))::tp 127 [])), [(.box [(.i p0.net.Cap), (.l (encL enc_GChange) p0.net.Views), (.l (encL enc_GChange) p0.net.Pending), (.d (.mp (Option.isNone p0.net.Links) (mks kv_22 (ml p0.net.Links)) (mds (slD (encL enc_GChange)) (ml p0.net.Links)))), (.own 1), (.own 3)]), (Ar 72 1 enc_GBook p0.books), .gone, (.arr 3 1 (List.length y0_d_2_4) (flatD (encI .i64) y0_d_2_4)), (.box [(.y p1.Kind), (.i p1.W), (.i p1.A)]), (Ar 84 3 enc_GChange y5_4)], 3⟩ ?_
   rcases tf_ (decide ((0 : Int) < ((List.length y0_d_2_4 : Nat) : Int))) with hc65_23 | hc65_23
   ·
    replace hm := cT hc65_23 hm
    refine AiT hc65_23 <| Sq <| Adr <| Wz (.loc 4 2) (Ofa rfl) <| Wz (.i p1.A) (Old rfl) <| Wm (.loc 0 0) rfl <| Wz (.loc 0 0) (op_nilCheckLoc rfl (id := 0) (off := 0) (xs := [(.i p0.net.Cap), (.l (encL enc_GChange) p0.net.Views), (.l (encL enc_GChange) p0.net.Pending), (.d (.mp (Option.isNone p0.net.Links) (mks kv_22 (ml p0.net.Links)) (mds (slD (encL enc_GChange)) (ml p0.net.Links)))), (.own 1), (.own 3)]) (by kernel_rfl) (by kernel_rfl)) <| Wz (.loc 0 5) (Ofa rfl) <| Wz (.own 3) (Old rfl) <| Wz (.i ((List.length y0_d_2_4 : Nat) : Int)) (Oln rfl) ?_
    obtain ⟨hd73_6, hm⟩ := chk_some hm
    refine Wz (.i (Int.tmod p1.A ((List.length y0_d_2_4 : Nat) : Int))) (Ob2 (.int .i64 p1.A) (.int .i64 ((List.length y0_d_2_4 : Nat) : Int)) rfl (fun _ => hb_rem hd73_6)) <| Wm (.i (Int.tmod p1.A ((List.length y0_d_2_4 : Nat) : Int))) rfl <| Wdr <| Tk 89 31 ⟨.loc 0 0::tp 2 (.loc 4 0::.i (Int.tmod p1.W ((List.length p0.books : Nat) : Int))::tp 1 (.i (Int.tmod p1.A ((List.length y0_d_2_4 : Nat) : Int))::tp 186 [])), [(.box [(.i p0.net.Cap), (.l (encL enc_GChange) p0.net.Views), (.l (encL enc_GChange) p0.net.Pending), (.d (.mp (Option.isNone p0.net.Links) (mks kv_22 (ml p0.net.Links)) (mds (slD (encL enc_GChange)) (ml p0.net.Links)))), (.own 1), (.own 3)]), (Ar 72 1 enc_GBook p0.books), .gone, (.arr 3 1 (List.length y0_d_2_4) (flatD (encI .i64) y0_d_2_4)), (.box [(.y p1.Kind), (.i p1.W), (.i p1.A)]), .gone], 3⟩ ?_
    refine AWP.cutJ (α := Int) (fun x => match x with | y6_7 => (⟨.loc 0 0::tp 2 (.loc 4 0::.i (Int.tmod p1.W ((List.length p0.books : Nat) : Int))::tp 1 (.i y6_7::tp 186 [])), [(.box [(.i p0.net.Cap), (.l (encL enc_GChange) p0.net.Views), (.l (encL enc_GChange) p0.net.Pending), (.d (.mp (Option.isNone p0.net.Links) (mks kv_22 (ml p0.net.Links)) (mds (slD (encL enc_GChange)) (ml p0.net.Links)))), (.own 1), (.own 3)]), (Ar 72 1 enc_GBook p0.books), .gone, (.arr 3 1 (List.length y0_d_2_4) (flatD (encI .i64) y0_d_2_4)), (.box [(.y p1.Kind), (.i p1.W), (.i p1.A)])], 3⟩ : St)) (fun x => match x with | y6_7 => m_w29_crew_turn_2_j7 p0 p1 y0_d_2_4 y6_7 = some r) ?_ (fun J7 => ?_)
    ·
     rintro y6_7 hm
     try dsimp only at hm ⊢
     unfold m_w29_crew_turn_2_j7 at hm
     refine Sx <| Wm (.loc 0 0) rfl <| Wz (.loc 0 0) (op_nilCheckLoc rfl (id := 0) (off := 0) (xs := [(.i p0.net.Cap), (.l (encL enc_GChange) p0.net.Views), (.l (encL enc_GChange) p0.net.Pending), (.d (.mp (Option.isNone p0.net.Links) (mks kv_22 (ml p0.net.Links)) (mds (slD (encL enc_GChange)) (ml p0.net.Links)))), (.own 1), (.own 3)]) (by kernel_rfl) (by kernel_rfl)) <| Wz (.loc 0 5) (Ofa rfl) <| Wz (.own 3) (Old rfl) <| Wm (.i y6_7) rfl ?_
     obtain ⟨x81_8, hx81_8, hm⟩ := bnd hm
     obtain ⟨hx81_8i, hx81_8g⟩ := geti_some hx81_8
     refine Wz (.loc 3 ((Int.toNat y6_7) * 1)) (Oia rfl (encI_len (k := .i64)) hx81_8i hx81_8g) <| Wz (.i x81_8) (Lr1 rfl (encI_len (k := .i64)) hx81_8g) <| Wz (.agg [(.i 1), (.i x81_8), (.i (-1))]) (Obd rfl) <| Wy (.own 5) [(5, (Ar 84 3 enc_GChange ([(GChange.mk 1 x81_8 (-1))] : List GChange)))] (Obs rfl) <| Wm (.own 5) rfl <| Nk 121 63 ⟨.loc 0 0::tp 2 (.loc 4 0::.i (Int.tmod p1.W ((List.length p0.books : Nat) : Int))::.own 5::.i y6_7::tp 186 []), [(.box [(.i p0.net.Cap), (.l (encL enc_GChange) p0.net.Views), (.l (encL enc_GChange) p0.net.Pending), (.d (.mp (Option.isNone p0.net.Links) (mks kv_22 (ml p0.net.Links)) (mds (slD (encL enc_GChange)) (ml p0.net.Links)))), (.own 1), (.own 3)]), (Ar 72 1 enc_GBook p0.books), .gone, (.arr 3 1 (List.length y0_d_2_4) (flatD (encI .i64) y0_d_2_4)), (.box [(.y p1.Kind), (.i p1.W), (.i p1.A)]), (Ar 84 3 enc_GChange ([(GChange.mk 1 x81_8 (-1))] : List GChange))], 3⟩ <| Afz [3] ⟨.loc 0 0::tp 2 (.loc 4 0::.i (Int.tmod p1.W ((List.length p0.books : Nat) : Int))::.own 5::.i y6_7::tp 186 []), [(.box [(.i p0.net.Cap), (.l (encL enc_GChange) p0.net.Views), (.l (encL enc_GChange) p0.net.Pending), (.d (.mp (Option.isNone p0.net.Links) (mks kv_22 (ml p0.net.Links)) (mds (slD (encL enc_GChange)) (ml p0.net.Links)))), (.own 1), (.l (encI .i64) y0_d_2_4)]), (Ar 72 1 enc_GBook p0.books), .gone, (.fro 3 1 (List.length y0_d_2_4) (flatD (encI .i64) y0_d_2_4)), (.box [(.y p1.Kind), (.i p1.W), (.i p1.A)]), (Ar 84 3 enc_GChange ([(GChange.mk 1 x81_8 (-1))] : List GChange))], 3⟩ <| Adr <| Wm (.loc 0 0) rfl <| Wy (.own 6) [(6, (.arr 3 1 (List.length ([] : List Int)) (flatD (encI .i64) ([] : List Int))))] (Obs rfl) <| Wm (.loc 0 0) rfl <| Wz (.loc 0 0) (op_nilCheckLoc rfl (id := 0) (off := 0) (xs := [(.i p0.net.Cap), (.l (encL enc_GChange) p0.net.Views), (.l (encL enc_GChange) p0.net.Pending), (.d (.mp (Option.isNone p0.net.Links) (mks kv_22 (ml p0.net.Links)) (mds (slD (encL enc_GChange)) (ml p0.net.Links)))), (.own 1), (.l (encI .i64) y0_d_2_4)]) (by kernel_rfl) (by kernel_rfl)) <| Wz (.loc 0 5) (Ofa rfl) <| Wz (.l (encI .i64) y0_d_2_4) (Old rfl) ?_
     refine Wm (.i y6_7) rfl ?_
     obtain ⟨s92_9, hs92_9, hm⟩ := bnd hm; obtain ⟨hs92_9a, hs92_9b, hs92_9c, hs92_9d, hs92_9e⟩ := cut_some hs92_9
     refine Wz (.l (encI .i64) s92_9) (op_cut rfl (e := 3) (sz := 1) (by kernel_rfl) (l := y0_d_2_4) (enc := (encI .i64)) (by kernel_rfl) (encI_len (k := .i64)) (a := (Int.toNat 0)) (b := (Int.toNat y6_7)) (by exact rfl) (⟨.i64, y6_7, by kernel_rfl, hs92_9b⟩) hs92_9c hs92_9d hs92_9e) ?_
     obtain ⟨a93_9, ha93_9, hm⟩ := bnd hm; obtain ⟨ha93_9e, ha93_9l⟩ := app_some ha93_9
     refine Wy (.own 7) [(6, .gone), (7, (.arr 3 1 (List.length a93_9) (flatD (encI .i64) a93_9)))] (Oap rfl elemOK_67 (encI_len (k := .i64)) ha93_9e ha93_9l) <| Wm (.loc 0 0) rfl <| Wz (.loc 0 0) (op_nilCheckLoc rfl (id := 0) (off := 0) (xs := [(.i p0.net.Cap), (.l (encL enc_GChange) p0.net.Views), (.l (encL enc_GChange) p0.net.Pending), (.d (.mp (Option.isNone p0.net.Links) (mks kv_22 (ml p0.net.Links)) (mds (slD (encL enc_GChange)) (ml p0.net.Links)))), (.own 1), (.l (encI .i64) y0_d_2_4)]) (by kernel_rfl) (by kernel_rfl)) <| Wz (.loc 0 5) (Ofa rfl) <| Wz (.l (encI .i64) y0_d_2_4) (Old rfl) <| Wm (.i y6_7) rfl <| Wz (.i (W6 (y6_7 + 1))) (Obn rfl (fun _ => hb_add (k := .i64))) ?_
     obtain ⟨s100_9, hs100_9, hm⟩ := bnd hm; obtain ⟨hs100_9a, hs100_9b, hs100_9c, hs100_9d, hs100_9e⟩ := cut_some hs100_9
     refine Wz (.l (encI .i64) s100_9) (op_cut rfl (e := 3) (sz := 1) (by kernel_rfl) (l := y0_d_2_4) (enc := (encI .i64)) (by kernel_rfl) (encI_len (k := .i64)) (a := (Int.toNat (W6 (y6_7 + 1)))) (b := (Int.toNat ((List.length y0_d_2_4 : Nat) : Int))) (⟨.i64, (W6 (y6_7 + 1)), by kernel_rfl, hs100_9a⟩) (by exact rfl) hs100_9c hs100_9d hs100_9e) ?_
     obtain ⟨a101_9, ha101_9, hm⟩ := bnd hm; obtain ⟨ha101_9e, ha101_9l⟩ := app_some ha101_9
     refine Wy (.own 8) [(7, .gone), (8, (.arr 3 1 (List.length a101_9) (flatD (encI .i64) a101_9)))] (Oap rfl elemOK_67 (encI_len (k := .i64)) ha101_9e ha101_9l) <| Wz (.loc 0 0) (op_nilCheckLoc rfl (id := 0) (off := 0) (xs := [(.i p0.net.Cap), (.l (encL enc_GChange) p0.net.Views), (.l (encL enc_GChange) p0.net.Pending), (.d (.mp (Option.isNone p0.net.Links) (mks kv_22 (ml p0.net.Links)) (mds (slD (encL enc_GChange)) (ml p0.net.Links)))), (.own 1), (.l (encI .i64) y0_d_2_4)]) (by kernel_rfl) (by kernel_rfl)) <| Wz (.loc 0 5) (Ofa rfl) <| Wy (.tup []) [(0, (.box [(.i p0.net.Cap), (.l (encL enc_GChange) p0.net.Views), (.l (encL enc_GChange) p0.net.Pending), (.d (.mp (Option.isNone p0.net.Links) (mks kv_22 (ml p0.net.Links)) (mds (slD (encL enc_GChange)) (ml p0.net.Links)))), (.own 1), (.own 8)]))] (Ost rfl) <| Wdr <| Tn ?_
     exact AWP.weak (Weak.toK 57 0 0 [0, 1, 2, 8, 4, 5]) (J10 (a101_9, ([(GChange.mk 1 x81_8 (-1))] : List GChange)) hm)
    refine Sq <| Sx <| Wm (.i (Int.tmod p1.A ((List.length y0_d_2_4 : Nat) : Int))) rfl <| Wz (.b (decide ((Int.tmod p1.A ((List.length y0_d_2_4 : Nat) : Int)) < 0))) (Obn rfl (fun _ => hb_lss (k := .i64))) <| Nk 37778931862957161709657 31 ⟨.loc 0 0::tp 2 (.loc 4 0::.i (Int.tmod p1.W ((List.length p0.books : Nat) : Int))::tp 1 (.i (Int.tmod p1.A ((List.length y0_d_2_4 : Nat) : Int))::tp 68 (.b (decide ((Int.tmod p1.A ((List.length y0_d_2_4 : Nat) : Int)) < 0))::tp 117 []))), [(.box [(.i p0.net.Cap), (.l (encL enc_GChange) p0.net.Views), (.l (encL enc_GChange) p0.net.Pending), (.d (.mp (Option.isNone p0.net.Links) (mks kv_22 (ml p0.net.Links)) (mds (slD (encL enc_GChange)) (ml p0.net.Links)))), (.own 1), (.own 3)]), (Ar 72 1 enc_GBook p0.books), .gone, (.arr 3 1 (List.length y0_d_2_4) (flatD (encI .i64) y0_d_2_4)), (.box [(.y p1.Kind), (.i p1.W), (.i p1.A)]), .gone], 3⟩ ?_
    rcases tf_ (decide ((Int.tmod p1.A ((List.length y0_d_2_4 : Nat) : Int)) < 0)) with hc75_24 | hc75_24
    ·
     replace hm := cT hc75_24 hm
     refine AiT hc75_24 <| Tx <| Wm (.i 0) rfl <| Nn ?_
     exact AWP.weak (Weak.toK 89 0 0 [0, 1, 2, 3, 4]) (J7 (0) hm)
    ·
     replace hm := cF hc75_24 hm
     refine AiF hc75_24 <| Sk <| Tn ?_
     exact AWP.weak (Weak.toK 89 0 0 [0, 1, 2, 3, 4]) (J7 ((Int.tmod p1.A ((List.length y0_d_2_4 : Nat) : Int))) hm)
   ·
    replace hm := cF hc65_23 hm
    refine AiF hc65_23 <| Sk <| Tn ?_
    exact AWP.weak (Weak.toK 57 0 0 [0, 1, 2, 3, 4, 5]) (J10 (y0_d_2_4, y5_4) hm)
  ·
   replace hm := cF hq58_5 hm
   refine Wz (.b false) (Oq hq58_5 rfl) <| Wn <| Wn <| Wn <| Wn <| Wn <| Wn <| Wz (.b false) (OpF rfl) <| Nk 36893488147419103289 63 ⟨.loc 0 0::tp 2 (.loc 4 0::.i (Int.tmod p1.W ((List.length p0.books : Nat) : Int))::.own 5::tp 59 (.b false::tp 127 [])), [(.box [(.i p0.net.Cap), (.l (encL enc_GChange) p0.net.Views), (.l (encL enc_GChange) p0.net.Pending), (.d (.mp (Option.isNone p0.net.Links) (mks kv_22 (ml p0.net.Links)) (mds (slD (encL enc_GChange)) (ml p0.net.Links)))), (.own 1), (.own 3)]), (Ar 72 1 enc_GBook p0.books), .gone, (.arr 3 1 (List.length y0_d_2_4) (flatD (encI .i64) y0_d_2_4)), (.box [(.y p1.Kind), (.i p1.W), (.i p1.A)]), (Ar 84 3 enc_GChange y5_4)], 3⟩ <| AWP.if_ false (by kernel_rfl) <| Sk <| Tn ?_
   exact AWP.weak (Weak.toK 57 0 0 [0, 1, 2, 3, 4, 5]) (J10 (y0_d_2_4, y5_4) hm)
 refine Sq ?_
 refine AWP.cutJ (α := Unit) (fun x => match x with | () => (⟨.loc 0 0::tp 2 (.loc 3 0::.i (Int.tmod p1.W ((List.length p0.books : Nat) : Int))::.d .nil::tp 33 (.b false::tp 153 [])), [(.box [(.i p0.net.Cap), (.l (encL enc_GChange) p0.net.Views), (.l (encL enc_GChange) p0.net.Pending), (.d (.mp (Option.isNone p0.net.Links) (mks kv_22 (ml p0.net.Links)) (mds (slD (encL enc_GChange)) (ml p0.net.Links)))), (.own 1), (.own 2)]), (Ar 72 1 enc_GBook p0.books), (.arr 3 1 (List.length p0.things) (flatD (encI .i64) p0.things)), (.box [(.y p1.Kind), (.i p1.W), (.i p1.A)])], 3⟩ : St)) (fun x => match x with | () => m_w29_crew_turn_2_j2 p0 p1 = some r) ?_ (fun J2 => ?_)
 ·
  rintro ⟨⟩ hm
  try dsimp only at hm ⊢
  unfold m_w29_crew_turn_2_j2 at hm
  refine AWP.if_ false (by kernel_rfl) <| Sk <| Tn <| AWP.weak (Weak.move (st' := ⟨.loc 0 0::tp 2 (.loc 3 0::.i (Int.tmod p1.W ((List.length p0.books : Nat) : Int))::.d .nil::tp 33 (.b false::tp 153 [])), [(.box [(.i p0.net.Cap), (.l (encL enc_GChange) p0.net.Views), (.l (encL enc_GChange) p0.net.Pending), (.d (.mp (Option.isNone p0.net.Links) (mks kv_22 (ml p0.net.Links)) (mds (slD (encL enc_GChange)) (ml p0.net.Links)))), (.own 1), (.own 4)]), (Ar 72 1 enc_GBook p0.books), .gone, (.box [(.y p1.Kind), (.i p1.W), (.i p1.A)]), (.arr 3 1 (List.length p0.things) (flatD (encI .i64) p0.things))], 3⟩) 2 4 (e := 3) (sz := 1) (n := List.length p0.things) (xs := flatD (encI .i64) p0.things) (by kernel_rfl) rfl (by decide) rfl ⟨.inl rfl, .inl rfl, .inl rfl, .inl rfl, .inl rfl, .inl rfl, .inl rfl, .inl rfl, .inl rfl, .inl rfl, .inl rfl, .inl rfl, .inl rfl, .inl rfl, .inl rfl, .inl rfl, .inl rfl, .inl rfl, .inl rfl, .inl rfl, .inl rfl, .inl rfl, .inl rfl, .inl rfl, .inl rfl, .inl rfl, .inl rfl, .inl rfl, .inl rfl, .inl rfl, .inl rfl, .inl rfl, .inl rfl, .inl rfl, .inl rfl, .inl rfl, .inl rfl, .inl rfl, .inl rfl, .inl rfl, .inl rfl, .inl rfl, .inl rfl, .inl rfl, .inl rfl, .inl rfl, .inl rfl, .inl rfl, .inl rfl, .inl rfl, .inl rfl, .inl rfl, .inl rfl, .inl rfl, .inl rfl, .inl rfl, .inl rfl, .inl rfl, .inl rfl, .inl rfl, .inl rfl, .inl rfl, .inl rfl, .inl rfl, .inl rfl, .inl rfl, .inl rfl, .inl rfl, .inl rfl, .inl rfl, .inl rfl, .inl rfl, .inl rfl, .inl rfl, .inl rfl, .inl rfl, .inl rfl, .inl rfl, .inl rfl, .inl rfl, .inl rfl, .inl rfl, .inl rfl, .inl rfl, .inl rfl, .inl rfl, .inl rfl, .inl rfl, .inl rfl, .inl rfl, .inl rfl, .inl rfl, .inl rfl, .inl rfl, .inl rfl, .inl rfl, .inl rfl, .inl rfl, .inl rfl, .inl rfl, .inl rfl, .inl rfl, .inl rfl, .inl rfl, .inl rfl, .inl rfl, .inl rfl, .inl rfl, .inl rfl, .inl rfl, .inl rfl, .inl rfl, .inl rfl, .inl rfl, .inl rfl, .inl rfl, .inl rfl, .inl rfl, .inl rfl, .inl rfl, .inl rfl, .inl rfl, .inl rfl, .inl rfl, .inl rfl, .inl rfl, .inl rfl, .inl rfl, .inl rfl, .inl rfl, .inl rfl, .inl rfl, .inl rfl, .inl rfl, .inl rfl, .inl rfl, .inl rfl, .inl rfl, .inl rfl, .inl rfl, .inl rfl, .inl rfl, .inl rfl, .inl rfl, .inl rfl, .inl rfl, .inl rfl, .inl rfl, .inl rfl, .inl rfl, .inl rfl, .inl rfl, .inl rfl, .inl rfl, .inl rfl, .inl rfl, .inl rfl, .inl rfl, .inl rfl, .inl rfl, .inl rfl, .inl rfl, .inl rfl, .inl rfl, .inl rfl, .inl rfl, .inl rfl, .inl rfl, .inl rfl, .inl rfl, .inl rfl, .inl rfl, .inl rfl, .inl rfl, .inl rfl, .inl rfl, .inl rfl, .inl rfl, .inl rfl, .inl rfl, .inl rfl, .inl rfl, .inl rfl, .inl rfl, .inl rfl, .inl rfl, .inl rfl, .inl rfl, .inl rfl, .inl rfl, .inl rfl, .inl rfl, .inl rfl, trivial⟩ (by kernel_rfl) (by kernel_rfl) ⟨.inr (.inr ⟨_, _, rfl, rfl, ⟨.inl rfl, .inl rfl, .inl rfl, .inl rfl, .inl rfl, .inr ⟨rfl, rfl⟩, trivial⟩⟩), .inr (.inl rfl), .inl rfl, .inr (.inl rfl), trivial⟩) <| Aow 5 84 3 ⟨.loc 0 0::tp 2 (.loc 3 0::.i (Int.tmod p1.W ((List.length p0.books : Nat) : Int))::.own 5::tp 33 (.b false::tp 153 [])), [(.box [(.i p0.net.Cap), (.l (encL enc_GChange) p0.net.Views), (.l (encL enc_GChange) p0.net.Pending), (.d (.mp (Option.isNone p0.net.Links) (mks kv_22 (ml p0.net.Links)) (mds (slD (encL enc_GChange)) (ml p0.net.Links)))), (.own 1), (.own 4)]), (Ar 72 1 enc_GBook p0.books), .gone, (.box [(.y p1.Kind), (.i p1.W), (.i p1.A)]), (.arr 3 1 (List.length p0.things) (flatD (encI .i64) p0.things)), (Ar 84 3 enc_GChange ([] : List GChange))], 3⟩ ?_
  exact AWP.weak (Weak.toK 57 0 0 [0, 1, 2, 4, 3, 5]) (J4 (p0.things, ([] : List GChange)) hm)
 refine Sq <| Adr <| Wz (.loc 3 0) (Ofa rfl) <| Wz (.y p1.Kind) (Old rfl) <| Wz (.b (decide (((p1.Kind.toNat : Nat) : Int) = 0))) (Ob2 (.int .u8 ((p1.Kind.toNat : Nat) : Int)) (.int .u8 0) rfl (fun _ => hb_eql)) ?_
 rcases tf_ (decide (((p1.Kind.toNat : Nat) : Int) = 0)) with hq18_1 | hq18_1
 ·
  replace hm := cT hq18_1 hm
  refine Wz (.b true) (Oq hq18_1 rfl) <| Wz (.loc 3 2) (Ofa rfl) <| Wz (.i p1.A) (Old rfl) <| Wz (.b (decide ((0 : Int) ≤ p1.A))) (Obn rfl (fun _ => hb_geq (k := .i64))) <| Wz (.b (decide ((0 : Int) ≤ p1.A))) (OpT rfl) ?_
  rcases tf_ (decide ((0 : Int) ≤ p1.A)) with hq23_1 | hq23_1
  ·
   replace hm := cT hq23_1 hm
   refine Wz (.b true) (Oq hq23_1 rfl) <| Wz (.loc 3 2) (Ofa rfl) <| Wz (.i p1.A) (Old rfl) <| Wz (.b (decide (p1.A ≤ 1099511627776))) (Obn rfl (fun _ => hb_leq (k := .i64))) <| Wz (.b (decide (p1.A ≤ 1099511627776))) (OpT rfl) ?_
   rcases tf_ (decide (p1.A ≤ 1099511627776)) with hq28_1 | hq28_1
   ·
    replace hm := cT hq28_1 hm
    refine Wz (.b true) (Oq hq28_1 rfl) <| Wm (.loc 0 0) rfl <| Wz (.loc 0 0) (op_nilCheckLoc rfl (id := 0) (off := 0) (xs := [(.i p0.net.Cap), (.l (encL enc_GChange) p0.net.Views), (.l (encL enc_GChange) p0.net.Pending), (.d (.mp (Option.isNone p0.net.Links) (mks kv_22 (ml p0.net.Links)) (mds (slD (encL enc_GChange)) (ml p0.net.Links)))), (.own 1), (.own 2)]) (by kernel_rfl) (by kernel_rfl)) <| Wz (.loc 0 4) (Ofa rfl) <| Wz (.own 1) (Old rfl) <| Wm (.i (Int.tmod p1.W ((List.length p0.books : Nat) : Int))) rfl ?_
    obtain ⟨x34_1, hx34_1, hm⟩ := bnd hm
    obtain ⟨hx34_1i, hx34_1g⟩ := geti_some hx34_1
    refine Wz (.loc 1 ((Int.toNat (Int.tmod p1.W ((List.length p0.books : Nat) : Int))) * 1)) (Oia rfl enc_GBook_len hx34_1i hx34_1g) <| Wz (.agg [(.l enc_GLeave_ x34_1.L)]) (Lr rfl enc_GBook_len hx34_1g) <| Wz (.loc 3 2) (Ofa rfl) <| Wz (.i p1.A) (Old rfl) ?_
    obtain ⟨r38_1, hr38_1, hm⟩ := bnd hm
    refine Wz (.b r38_1) (Ocf [] [] [] 0 (ok_token_Book_May x34_1 0 p1.A r38_1 hr38_1) (fun a w => Try.call61 a w) rfl trivial) <| Wz (.b r38_1) (OpT rfl) <| Wdr <| Tk 549755813945 15 ⟨.loc 0 0::tp 2 (.loc 3 0::.i (Int.tmod p1.W ((List.length p0.books : Nat) : Int))::.d .nil::tp 33 (.b r38_1::tp 153 [])), [(.box [(.i p0.net.Cap), (.l (encL enc_GChange) p0.net.Views), (.l (encL enc_GChange) p0.net.Pending), (.d (.mp (Option.isNone p0.net.Links) (mks kv_22 (ml p0.net.Links)) (mds (slD (encL enc_GChange)) (ml p0.net.Links)))), (.own 1), (.own 2)]), (Ar 72 1 enc_GBook p0.books), (.arr 3 1 (List.length p0.things) (flatD (encI .i64) p0.things)), (.box [(.y p1.Kind), (.i p1.W), (.i p1.A)])], 3⟩ ?_
    rcases tf_ r38_1 with hc39_25 | hc39_25
    ·
     replace hm := cT hc39_25 hm
     refine AiT hc39_25 <| Sq <| Adr <| Wm (.loc 0 0) rfl <| Wm (.loc 0 0) rfl <| Wz (.loc 0 0) (op_nilCheckLoc rfl (id := 0) (off := 0) (xs := [(.i p0.net.Cap), (.l (encL enc_GChange) p0.net.Views), (.l (encL enc_GChange) p0.net.Pending), (.d (.mp (Option.isNone p0.net.Links) (mks kv_22 (ml p0.net.Links)) (mds (slD (encL enc_GChange)) (ml p0.net.Links)))), (.own 1), (.own 2)]) (by kernel_rfl) (by kernel_rfl)) <| Wz (.loc 0 5) (Ofa rfl) <| Wz (.own 2) (Old rfl) <| Wz (.loc 3 2) (Ofa rfl) <| Wz (.i p1.A) (Old rfl) <| Wy (.own 4) [(4, (.arr 3 1 (List.length ([p1.A] : List Int)) (flatD (encI .i64) ([p1.A] : List Int))))] (Obs rfl) ?_
     obtain ⟨a48_3, ha48_3, hm⟩ := bnd hm; obtain ⟨ha48_3e, ha48_3l⟩ := app_some ha48_3
     refine Wy (.own 5) [(2, .gone), (5, (.arr 3 1 (List.length a48_3) (flatD (encI .i64) a48_3)))] (Oap rfl elemOK_67 (encI_len (k := .i64)) ha48_3e ha48_3l) <| Wz (.loc 0 0) (op_nilCheckLoc rfl (id := 0) (off := 0) (xs := [(.i p0.net.Cap), (.l (encL enc_GChange) p0.net.Views), (.l (encL enc_GChange) p0.net.Pending), (.d (.mp (Option.isNone p0.net.Links) (mks kv_22 (ml p0.net.Links)) (mds (slD (encL enc_GChange)) (ml p0.net.Links)))), (.own 1), (.own 2)]) (by kernel_rfl) (by kernel_rfl)) <| Wz (.loc 0 5) (Ofa rfl) <| Wy (.tup []) [(0, (.box [(.i p0.net.Cap), (.l (encL enc_GChange) p0.net.Views), (.l (encL enc_GChange) p0.net.Pending), (.d (.mp (Option.isNone p0.net.Links) (mks kv_22 (ml p0.net.Links)) (mds (slD (encL enc_GChange)) (ml p0.net.Links)))), (.own 1), (.own 5)]))] (Ost rfl) <| Wdr <| Tk 25 47 ⟨.loc 0 0::tp 2 (.loc 3 0::.i (Int.tmod p1.W ((List.length p0.books : Nat) : Int))::tp 188 []), [(.box [(.i p0.net.Cap), (.l (encL enc_GChange) p0.net.Views), (.l (encL enc_GChange) p0.net.Pending), (.d (.mp (Option.isNone p0.net.Links) (mks kv_22 (ml p0.net.Links)) (mds (slD (encL enc_GChange)) (ml p0.net.Links)))), (.own 1), (.own 5)]), (Ar 72 1 enc_GBook p0.books), .gone, (.box [(.y p1.Kind), (.i p1.W), (.i p1.A)]), .gone, (.arr 3 1 (List.length a48_3) (flatD (encI .i64) a48_3))], 3⟩ <| Tx <| Wz (.loc 3 2) (Ofa rfl) <| Wz (.i p1.A) (Old rfl) <| Wz (.agg [(.i 1), (.i p1.A), (.i 1)]) (Obd rfl) <| Wy (.own 6) [(6, (Ar 84 3 enc_GChange ([(GChange.mk 1 p1.A 1)] : List GChange)))] (Obs rfl) <| Wm (.own 6) rfl <| Nn ?_
     exact AWP.weak (Weak.toK 57 0 0 [0, 1, 2, 5, 3, 6]) (J4 (a48_3, ([(GChange.mk 1 p1.A 1)] : List GChange)) hm)
    ·
     replace hm := cF hc39_25 hm
     refine AiF hc39_25 <| Sk <| Tn <| AWP.weak (Weak.move (st' := ⟨.loc 0 0::tp 2 (.loc 3 0::.i (Int.tmod p1.W ((List.length p0.books : Nat) : Int))::.d .nil::tp 33 (.b r38_1::tp 153 [])), [(.box [(.i p0.net.Cap), (.l (encL enc_GChange) p0.net.Views), (.l (encL enc_GChange) p0.net.Pending), (.d (.mp (Option.isNone p0.net.Links) (mks kv_22 (ml p0.net.Links)) (mds (slD (encL enc_GChange)) (ml p0.net.Links)))), (.own 1), (.own 4)]), (Ar 72 1 enc_GBook p0.books), .gone, (.box [(.y p1.Kind), (.i p1.W), (.i p1.A)]), (.arr 3 1 (List.length p0.things) (flatD (encI .i64) p0.things))], 3⟩) 2 4 (e := 3) (sz := 1) (n := List.length p0.things) (xs := flatD (encI .i64) p0.things) (by kernel_rfl) rfl (by decide) rfl ⟨.inl rfl, .inl rfl, .inl rfl, .inl rfl, .inl rfl, .inl rfl, .inl rfl, .inl rfl, .inl rfl, .inl rfl, .inl rfl, .inl rfl, .inl rfl, .inl rfl, .inl rfl, .inl rfl, .inl rfl, .inl rfl, .inl rfl, .inl rfl, .inl rfl, .inl rfl, .inl rfl, .inl rfl, .inl rfl, .inl rfl, .inl rfl, .inl rfl, .inl rfl, .inl rfl, .inl rfl, .inl rfl, .inl rfl, .inl rfl, .inl rfl, .inl rfl, .inl rfl, .inl rfl, .inl rfl, .inl rfl, .inl rfl, .inl rfl, .inl rfl, .inl rfl, .inl rfl, .inl rfl, .inl rfl, .inl rfl, .inl rfl, .inl rfl, .inl rfl, .inl rfl, .inl rfl, .inl rfl, .inl rfl, .inl rfl, .inl rfl, .inl rfl, .inl rfl, .inl rfl, .inl rfl, .inl rfl, .inl rfl, .inl rfl, .inl rfl, .inl rfl, .inl rfl, .inl rfl, .inl rfl, .inl rfl, .inl rfl, .inl rfl, .inl rfl, .inl rfl, .inl rfl, .inl rfl, .inl rfl, .inl rfl, .inl rfl, .inl rfl, .inl rfl, .inl rfl, .inl rfl, .inl rfl, .inl rfl, .inl rfl, .inl rfl, .inl rfl, .inl rfl, .inl rfl, .inl rfl, .inl rfl, .inl rfl, .inl rfl, .inl rfl, .inl rfl, .inl rfl, .inl rfl, .inl rfl, .inl rfl, .inl rfl, .inl rfl, .inl rfl, .inl rfl, .inl rfl, .inl rfl, .inl rfl, .inl rfl, .inl rfl, .inl rfl, .inl rfl, .inl rfl, .inl rfl, .inl rfl, .inl rfl, .inl rfl, .inl rfl, .inl rfl, .inl rfl, .inl rfl, .inl rfl, .inl rfl, .inl rfl, .inl rfl, .inl rfl, .inl rfl, .inl rfl, .inl rfl, .inl rfl, .inl rfl, .inl rfl, .inl rfl, .inl rfl, .inl rfl, .inl rfl, .inl rfl, .inl rfl, .inl rfl, .inl rfl, .inl rfl, .inl rfl, .inl rfl, .inl rfl, .inl rfl, .inl rfl, .inl rfl, .inl rfl, .inl rfl, .inl rfl, .inl rfl, .inl rfl, .inl rfl, .inl rfl, .inl rfl, .inl rfl, .inl rfl, .inl rfl, .inl rfl, .inl rfl, .inl rfl, .inl rfl, .inl rfl, .inl rfl, .inl rfl, .inl rfl, .inl rfl, .inl rfl, .inl rfl, .inl rfl, .inl rfl, .inl rfl, .inl rfl, .inl rfl, .inl rfl, .inl rfl, .inl rfl, .inl rfl, .inl rfl, .inl rfl, .inl rfl, .inl rfl, .inl rfl, .inl rfl, .inl rfl, .inl rfl, .inl rfl, .inl rfl, .inl rfl, .inl rfl, .inl rfl, .inl rfl, .inl rfl, .inl rfl, trivial⟩ (by kernel_rfl) (by kernel_rfl) ⟨.inr (.inr ⟨_, _, rfl, rfl, ⟨.inl rfl, .inl rfl, .inl rfl, .inl rfl, .inl rfl, .inr ⟨rfl, rfl⟩, trivial⟩⟩), .inr (.inl rfl), .inl rfl, .inr (.inl rfl), trivial⟩) <| Aow 5 84 3 ⟨.loc 0 0::tp 2 (.loc 3 0::.i (Int.tmod p1.W ((List.length p0.books : Nat) : Int))::.own 5::tp 33 (.b r38_1::tp 153 [])), [(.box [(.i p0.net.Cap), (.l (encL enc_GChange) p0.net.Views), (.l (encL enc_GChange) p0.net.Pending), (.d (.mp (Option.isNone p0.net.Links) (mks kv_22 (ml p0.net.Links)) (mds (slD (encL enc_GChange)) (ml p0.net.Links)))), (.own 1), (.own 4)]), (Ar 72 1 enc_GBook p0.books), .gone, (.box [(.y p1.Kind), (.i p1.W), (.i p1.A)]), (.arr 3 1 (List.length p0.things) (flatD (encI .i64) p0.things)), (Ar 84 3 enc_GChange ([] : List GChange))], 3⟩ ?_
     exact AWP.weak (Weak.toK 57 0 0 [0, 1, 2, 4, 3, 5]) (J4 (p0.things, ([] : List GChange)) hm)
   ·
    replace hm := cF hq28_1 hm
    refine Wz (.b false) (Oq hq28_1 rfl) <| Wn <| Wn <| Wn <| Wn <| Wn <| Wn <| Wn <| Wn <| Wn <| Wn <| Wz (.b false) (OpF rfl) <| Wdr <| Tn ?_
    exact AWP.weak (Weak.toK 549755813945 0 0 [0, 1, 2, 3]) (J2 () hm)
  ·
   replace hm := cF hq23_1 hm
   refine Wz (.b false) (Oq hq23_1 rfl) <| Wn <| Wn <| Wn <| Wz (.b false) (OpF rfl) <| Wm (.b false) rfl <| Wn <| Wn <| Wn <| Wn <| Wn <| Wn <| Wn <| Wn ?_
   refine Wn <| Wn <| Wz (.b false) (OpF rfl) <| Wdr <| Tn ?_
   exact AWP.weak (Weak.toK 549755813945 0 0 [0, 1, 2, 3]) (J2 () hm)
 ·
  replace hm := cF hq18_1 hm
  refine Wz (.b false) (Oq hq18_1 rfl) <| Wn <| Wn <| Wn <| Wz (.b false) (OpF rfl) <| Wm (.b false) rfl <| Wn <| Wn <| Wn <| Wz (.b false) (OpF rfl) <| Wm (.b false) rfl <| Wn <| Wn <| Wn ?_
  refine Wn <| Wn <| Wn <| Wn <| Wn <| Wn <| Wn <| Wz (.b false) (OpF rfl) <| Wdr <| Tn ?_
  exact AWP.weak (Weak.toK 549755813945 0 0 [0, 1, 2, 3]) (J2 () hm)
end Go.Proofs.Ytcpageegmpjkiaa.K
