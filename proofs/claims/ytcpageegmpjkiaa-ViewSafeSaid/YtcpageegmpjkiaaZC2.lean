/- what telltalelaw29.ViewSafe needs (2) -/
import Derived.Test.YtcpageegmpjkiaaZC1
import Derived.Test.YtcpageegmpjkiaaZAn
import Derived.ProofKit
import Derived.OpenShut
import Derived.ShutString
import Derived.ChangeOld
import Derived.Carry
import Derived.Test.YtcpageegmpjkiaaZLM
set_option linter.unusedVariables false
set_option linter.unusedSimpArgs false
namespace Go.Proofs.Ytcpageegmpjkiaa.K
open Go.RowKit Go.Lib
set_option maxRecDepth 20000
set_option maxHeartbeats 4000000

theorem ok_w29_ViewSafe (p0 : GArr2_Int) (p1 : (List GTurn_)) (r : Bool) (h : m_w29_ViewSafe p0 p1 = some r) : GCall Try.prog 5 [(.agg [(.i p0.a0), (.i p0.a1)]), (.l enc_GTurn_ p1)] [] (.b r) [] := by
 refine GCall.of_body (n := 167) (rs := [(.tmp 4)]) Try.func5 rfl rfl rfl <| Ato ⟨.agg [(.i p0.a0), (.i p0.a1)]::.l enc_GTurn_ p1::tu 165 [], [], 0⟩ ?_
 have hm := h
 unfold m_w29_ViewSafe at hm
 refine Sx <| Wy (.loc 0 0) [(0, (.box [(.i p0.a0), (.i p0.a1)]))] (Obx rfl) <| Wm (.b false) rfl <| Nk 6 1 ⟨tp 1 (.l enc_GTurn_ p1::.loc 0 0::tp 164 []), [(.box [(.i p0.a0), (.i p0.a1)])], 0⟩ <| Sq ?_
 refine AWP.cutJ (α := Unit) (fun x => match x with | () => (⟨tp 1 (.l enc_GTurn_ p1::.loc 0 0::tp 38 (.b true::tp 125 [])), [(.box [(.i p0.a0), (.i p0.a1)])], 0⟩ : St)) (fun x => match x with | () => m_w29_ViewSafe_j1  = some r) ?_ (fun J1 => ?_)
 ·
  rintro ⟨⟩ hm
  try dsimp only at hm ⊢
  unfold m_w29_ViewSafe_j1 at hm
  refine AWP.if_ true (by kernel_rfl) <| Sx ?_
  obtain ⟨r42_2, hr42_2, hm⟩ := bnd hm
  refine Wz (.b r42_2) (Ocf [] [] [] 0 (ok_w29_awake  r42_2 hr42_2) (fun a w => Try.call7 a w) rfl trivial) <| Wm (.b r42_2) rfl <| Nn <| Rt <| Tr ?_
  obtain rfl := Option.some.inj hm
  exact ret_i []
 refine Sx <| Wz (.loc 0 0) (Ocs (by kernel_rfl) (op_iaddr_arr rfl (n := 2) (sz := 1) (y := (.loc 0 0)) (by kernel_rfl) (by kernel_rfl) (by kernel_rfl) (k := .i64) (iv := 0) (by kernel_rfl) (i := 0) (by rfl) (by decide))) <| Wz (.i p0.a0) (Old rfl) <| Wz (.b (decide (p0.a0 < 1))) (Obn rfl (fun _ => hb_lss (k := .i64))) ?_
 rcases tf_ (decide (p0.a0 < 1)) with hq22_0 | hq22_0
 ·
  replace hm := cT hq22_0 hm
  refine Wz (.b true) (Oq hq22_0 rfl) <| Wn <| Wn <| Wn <| Wz (.b true) (OpT rfl) <| Wm (.b true) rfl <| Wn <| Wn <| Wn <| Wz (.b true) (OpT rfl) <| Wm (.b true) rfl <| Wn <| Wn <| Wn ?_
  refine Wz (.b true) (OpT rfl) <| Wm (.b true) rfl <| Wn <| Wn <| Wn <| Wz (.b true) (OpT rfl) <| Nn ?_
  exact AWP.weak (Weak.toK 2199023255558 0 0 [0]) (J1 () hm)
 ·
  replace hm := cF hq22_0 hm
  refine Wz (.b false) (Oq hq22_0 rfl) <| Wz (.loc 0 0) (Ocs (by kernel_rfl) (op_iaddr_arr rfl (n := 2) (sz := 1) (y := (.loc 0 0)) (by kernel_rfl) (by kernel_rfl) (by kernel_rfl) (k := .i64) (iv := 0) (by kernel_rfl) (i := 0) (by rfl) (by decide))) <| Wz (.i p0.a0) (Old rfl) <| Wz (.b (decide ((4 : Int) < p0.a0))) (Obn rfl (fun _ => hb_gtr (k := .i64))) <| Wz (.b (decide ((4 : Int) < p0.a0))) (OpF rfl) ?_
  rcases tf_ (decide ((4 : Int) < p0.a0)) with hq27_0 | hq27_0
  ·
   replace hm := cT hq27_0 hm
   refine Wz (.b true) (Oq hq27_0 rfl) <| Wn <| Wn <| Wn <| Wz (.b true) (OpT rfl) <| Wm (.b true) rfl <| Wn <| Wn <| Wn <| Wz (.b true) (OpT rfl) <| Wm (.b true) rfl <| Wn <| Wn <| Wn ?_
   refine Wz (.b true) (OpT rfl) <| Nn ?_
   exact AWP.weak (Weak.toK 2199023255558 0 0 [0]) (J1 () hm)
  ·
   replace hm := cF hq27_0 hm
   refine Wz (.b false) (Oq hq27_0 rfl) <| Wz (.loc 0 1) (Ocs (by kernel_rfl) (op_iaddr_arr rfl (n := 2) (sz := 1) (y := (.loc 0 0)) (by kernel_rfl) (by kernel_rfl) (by kernel_rfl) (k := .i64) (iv := 1) (by kernel_rfl) (i := 1) (by rfl) (by decide))) <| Wz (.i p0.a1) (Old rfl) <| Wz (.b (decide (p0.a1 < 1))) (Obn rfl (fun _ => hb_lss (k := .i64))) <| Wz (.b (decide (p0.a1 < 1))) (OpF rfl) ?_
   rcases tf_ (decide (p0.a1 < 1)) with hq32_0 | hq32_0
   ·
    replace hm := cT hq32_0 hm
    refine Wz (.b true) (Oq hq32_0 rfl) <| Wn <| Wn <| Wn <| Wz (.b true) (OpT rfl) <| Wm (.b true) rfl <| Wn <| Wn <| Wn <| Wz (.b true) (OpT rfl) <| Nn ?_
    exact AWP.weak (Weak.toK 2199023255558 0 0 [0]) (J1 () hm)
   ·
    replace hm := cF hq32_0 hm
    refine Wz (.b false) (Oq hq32_0 rfl) <| Wz (.loc 0 1) (Ocs (by kernel_rfl) (op_iaddr_arr rfl (n := 2) (sz := 1) (y := (.loc 0 0)) (by kernel_rfl) (by kernel_rfl) (by kernel_rfl) (k := .i64) (iv := 1) (by kernel_rfl) (i := 1) (by rfl) (by decide))) <| Wz (.i p0.a1) (Old rfl) <| Wz (.b (decide ((8 : Int) < p0.a1))) (Obn rfl (fun _ => hb_gtr (k := .i64))) <| Wz (.b (decide ((8 : Int) < p0.a1))) (OpF rfl) ?_
    rcases tf_ (decide ((8 : Int) < p0.a1)) with hq37_0 | hq37_0
    ·
     replace hm := cT hq37_0 hm
     refine Wz (.b true) (Oq hq37_0 rfl) <| Wn <| Wn <| Wn <| Wz (.b true) (OpT rfl) <| Nn ?_
     exact AWP.weak (Weak.toK 2199023255558 0 0 [0]) (J1 () hm)
    ·
     replace hm := cF hq37_0 hm
     refine Wz (.b false) (Oq hq37_0 rfl) <| Wm (.l enc_GTurn_ p1) rfl <| Wz (.i ((List.length p1 : Nat) : Int)) (Oln rfl) <| Wz (.b (decide ((60 : Int) < ((List.length p1 : Nat) : Int)))) (Obn rfl (fun _ => hb_gtr (k := .i64))) <| Wz (.b (decide ((60 : Int) < ((List.length p1 : Nat) : Int)))) (OpF rfl) <| Nk 2199023255558 1 ⟨tp 1 (.l enc_GTurn_ p1::.loc 0 0::tp 38 (.b (decide ((60 : Int) < ((List.length p1 : Nat) : Int)))::tp 125 [])), [(.box [(.i p0.a0), (.i p0.a1)])], 0⟩ ?_
     rcases tf_ (decide ((60 : Int) < ((List.length p1 : Nat) : Int))) with hc41_22 | hc41_22
     ·
      replace hm := cT hc41_22 hm
      refine AiT hc41_22 <| Sx ?_
      obtain ⟨r42_3, hr42_3, hm⟩ := bnd hm
      refine Wz (.b r42_3) (Ocf [] [] [] 0 (ok_w29_awake  r42_3 hr42_3) (fun a w => Try.call7 a w) rfl trivial) <| Wm (.b r42_3) rfl <| Nn <| Rt <| Tr ?_
      obtain rfl := Option.some.inj hm
      exact ret_i []
     ·
      replace hm := cF hc41_22 hm
      refine AiF hc41_22 <| Sk <| Tk 6 1 ⟨tp 1 (.l enc_GTurn_ p1::.loc 0 0::tp 164 []), [(.box [(.i p0.a0), (.i p0.a1)])], 0⟩ <| Sx <| Wz (.agg [(.i 0), (.d .nil), (.d .nil), (.d (.mp (Option.isNone (none : Option (List (GArr2_Int × (List (List GChange)))))) (mks kv_22 (ml (none : Option (List (GArr2_Int × (List (List GChange))))))) (mds (slD (encL enc_GChange)) (ml (none : Option (List (GArr2_Int × (List (List GChange))))))))), (.d .nil), (.d .nil)]) (Obd rfl) <| Wy (.loc 1 0) [(1, (.box [(.i 0), (.d .nil), (.d .nil), (.d (.mp (Option.isNone (none : Option (List (GArr2_Int × (List (List GChange)))))) (mks kv_22 (ml (none : Option (List (GArr2_Int × (List (List GChange))))))) (mds (slD (encL enc_GChange)) (ml (none : Option (List (GArr2_Int × (List (List GChange))))))))), (.d .nil), (.d .nil)]))] (Obx rfl) <| Wm (.loc 1 0) rfl <| Nk 38 3 ⟨tp 1 (.l enc_GTurn_ p1::.loc 0 0::tp 2 (.loc 1 0::tp 161 [])), [(.box [(.i p0.a0), (.i p0.a1)]), (.box [(.i 0), (.d .nil), (.d .nil), (.d (.mp (Option.isNone (none : Option (List (GArr2_Int × (List (List GChange)))))) (mks kv_22 (ml (none : Option (List (GArr2_Int × (List (List GChange))))))) (mds (slD (encL enc_GChange)) (ml (none : Option (List (GArr2_Int × (List (List GChange))))))))), (.d .nil), (.d .nil)])], 0⟩ <| Sx <| Wm (.d .nil) rfl <| Nk 102 3 ⟨tp 1 (.l enc_GTurn_ p1::.loc 0 0::tp 2 (.loc 1 0::.d .nil::tp 160 [])), [(.box [(.i p0.a0), (.i p0.a1)]), (.box [(.i 0), (.d .nil), (.d .nil), (.d (.mp (Option.isNone (none : Option (List (GArr2_Int × (List (List GChange)))))) (mks kv_22 (ml (none : Option (List (GArr2_Int × (List (List GChange))))))) (mds (slD (encL enc_GChange)) (ml (none : Option (List (GArr2_Int × (List (List GChange))))))))), (.d .nil), (.d .nil)])], 0⟩ <| Sq <| Sx <| Wm (.i 0) rfl ?_
      refine Nk 230 3 ⟨tp 1 (.l enc_GTurn_ p1::.loc 0 0::tp 2 (.loc 1 0::.d .nil::.i 0::tp 159 [])), [(.box [(.i p0.a0), (.i p0.a1)]), (.box [(.i 0), (.d .nil), (.d .nil), (.d (.mp (Option.isNone (none : Option (List (GArr2_Int × (List (List GChange)))))) (mks kv_22 (ml (none : Option (List (GArr2_Int × (List (List GChange))))))) (mds (slD (encL enc_GChange)) (ml (none : Option (List (GArr2_Int × (List (List GChange))))))))), (.d .nil), (.d .nil)])], 0⟩ <| Bk <| Aob 1 4 72 1 ⟨tp 1 (.l enc_GTurn_ p1::.loc 0 0::tp 2 (.loc 1 0::.d .nil::.i 0::tp 159 [])), [(.box [(.i p0.a0), (.i p0.a1)]), (.box [(.i 0), (.d .nil), (.d .nil), (.d (.mp (Option.isNone (none : Option (List (GArr2_Int × (List (List GChange)))))) (mks kv_22 (ml (none : Option (List (GArr2_Int × (List (List GChange))))))) (mds (slD (encL enc_GChange)) (ml (none : Option (List (GArr2_Int × (List (List GChange))))))))), (.own 2), (.d .nil)]), (Ar 72 1 enc_GBook ([] : List GBook))], 0⟩ <| Aow 6 84 3 ⟨tp 1 (.l enc_GTurn_ p1::.loc 0 0::tp 2 (.loc 1 0::.own 3::.i 0::tp 159 [])), [(.box [(.i p0.a0), (.i p0.a1)]), (.box [(.i 0), (.d .nil), (.d .nil), (.d (.mp (Option.isNone (none : Option (List (GArr2_Int × (List (List GChange)))))) (mks kv_22 (ml (none : Option (List (GArr2_Int × (List (List GChange))))))) (mds (slD (encL enc_GChange)) (ml (none : Option (List (GArr2_Int × (List (List GChange))))))))), (.own 2), (.d .nil)]), (Ar 72 1 enc_GBook ([] : List GBook)), (Ar 84 3 enc_GChange ([] : List GChange))], 0⟩ ?_
      refine AWP.loopI (α := Nat × (List GBook) × (List GChange) × Int)
        (fun (fu_4, y5_d_1_4, y6_4, y7_4) => (⟨tp 1 (.l enc_GTurn_ p1::.loc 0 0::tp 2 (.loc 1 0::.own 3::.i y7_4::tp 159 [])), [(.box [(.i p0.a0), (.i p0.a1)]), (.box [(.i 0), (.d .nil), (.d .nil), (.d (.mp (Option.isNone (none : Option (List (GArr2_Int × (List (List GChange)))))) (mks kv_22 (ml (none : Option (List (GArr2_Int × (List (List GChange))))))) (mds (slD (encL enc_GChange)) (ml (none : Option (List (GArr2_Int × (List (List GChange))))))))), (.own 2), (.d .nil)]), (Ar 72 1 enc_GBook y5_d_1_4), (Ar 84 3 enc_GChange y6_4)], 0⟩ : St))
        (fun (fu_4, y5_d_1_4, y6_4, y7_4) => m_w29_ViewSafe_l4 p0 p1 fu_4 y5_d_1_4 y6_4 y7_4 = some r)
        (fun (fu_4, y5_d_1_4, y6_4, y7_4) => fu_4) (1152921504606846976, ([] : List GBook), ([] : List GChange), 0)
        (Weak.toK 230 0 0 [0, 1, 2, 3]) hm ?_
      rintro ⟨fu_4, y5_d_1_4, y6_4, y7_4⟩ n_4 hm ih_4
      try dsimp only at hm ih_4 ⊢
      cases fu_4 with
      | zero => exact absurd hm (by unfold m_w29_ViewSafe_l4; simp)
      | succ fu_4 =>
       unfold m_w29_ViewSafe_l4 at hm
       refine Sq <| Sx <| Wm (.i y7_4) rfl <| Wz (.loc 0 0) (Ocs (by kernel_rfl) (op_iaddr_arr rfl (n := 2) (sz := 1) (y := (.loc 0 0)) (by kernel_rfl) (by kernel_rfl) (by kernel_rfl) (k := .i64) (iv := 0) (by kernel_rfl) (i := 0) (by rfl) (by decide))) <| Wz (.i p0.a0) (Old rfl) <| Wz (.b (decide (y7_4 < p0.a0))) (Obn rfl (fun _ => hb_lss (k := .i64))) <| Nk 281474976710886 15 ⟨tp 1 (.l enc_GTurn_ p1::.loc 0 0::tp 2 (.loc 1 0::.own 3::.i y7_4::tp 40 (.b (decide (y7_4 < p0.a0))::tp 118 []))), [(.box [(.i p0.a0), (.i p0.a1)]), (.box [(.i 0), (.d .nil), (.d .nil), (.d (.mp (Option.isNone (none : Option (List (GArr2_Int × (List (List GChange)))))) (mks kv_22 (ml (none : Option (List (GArr2_Int × (List (List GChange))))))) (mds (slD (encL enc_GChange)) (ml (none : Option (List (GArr2_Int × (List (List GChange))))))))), (.own 2), (.d .nil)]), (Ar 72 1 enc_GBook y5_d_1_4), (Ar 84 3 enc_GChange y6_4)], 0⟩ ?_
       rcases tf_ (decide (y7_4 < p0.a0)) with hc48_23 | hc48_23
       ·
        replace hm := cT hc48_23 hm
        refine AiT hc48_23 <| Sk <| Tk 230 15 ⟨tp 1 (.l enc_GTurn_ p1::.loc 0 0::tp 2 (.loc 1 0::.own 3::.i y7_4::tp 159 [])), [(.box [(.i p0.a0), (.i p0.a1)]), (.box [(.i 0), (.d .nil), (.d .nil), (.d (.mp (Option.isNone (none : Option (List (GArr2_Int × (List (List GChange)))))) (mks kv_22 (ml (none : Option (List (GArr2_Int × (List (List GChange))))))) (mds (slD (encL enc_GChange)) (ml (none : Option (List (GArr2_Int × (List (List GChange))))))))), (.own 2), (.d .nil)]), (Ar 72 1 enc_GBook y5_d_1_4), (Ar 84 3 enc_GChange y6_4)], 0⟩ <| Sq <| Bk <| Sx <| Wz (.agg [(.d .nil)]) (Obd rfl) <| Wz (.agg [(.i 0), (.i 0)]) (Obd rfl) ?_
        obtain ⟨r54_5, hr54_5, hm⟩ := bnd hm
        refine Wy (.tup [(.agg [(.l enc_GLeave_ r54_5.1.L)]), (.i r54_5.2.1), (.own 4), (.i r54_5.2.2.2)]) [(4, (Ar 84 3 enc_GChange r54_5.2.2.1))] (Ocf [] [4] [] 0 (ok_token_Book_Hold (GBook.mk ([] : List GLeave_)) (GPoint.mk 0 0) r54_5 hr54_5) (fun a w => Try.call33 a w) rfl trivial) <| Wm (.tup [(.agg [(.l enc_GLeave_ r54_5.1.L)]), (.i r54_5.2.1), (.own 4), (.i r54_5.2.2.2)]) rfl <| Wz (.agg [(.l enc_GLeave_ r54_5.1.L)]) (Oex rfl) <| Wz (.i r54_5.2.1) (Oex rfl) <| Wz (.own 4) (Oex rfl) <| Wz (.i r54_5.2.2.2) (Oex rfl) <| Wy (.loc 5 0) [(5, (.box [(.d .nil)]))] (Oal rfl) <| Wy (.tup []) [(5, (.box [(.l enc_GLeave_ r54_5.1.L)]))] (Ost rfl) <| Wm (.i r54_5.2.1) rfl <| Wm (.own 4) rfl <| Wm (.i r54_5.2.2.2) rfl <| Nk 3558 63 ⟨tp 1 (.l enc_GTurn_ p1::.loc 0 0::tp 2 (.loc 1 0::.own 3::.i y7_4::.loc 5 0::tp 1 (.own 4::.i r54_5.2.2.2::tp 155 []))), [(.box [(.i p0.a0), (.i p0.a1)]), (.box [(.i 0), (.d .nil), (.d .nil), (.d (.mp (Option.isNone (none : Option (List (GArr2_Int × (List (List GChange)))))) (mks kv_22 (ml (none : Option (List (GArr2_Int × (List (List GChange))))))) (mds (slD (encL enc_GChange)) (ml (none : Option (List (GArr2_Int × (List (List GChange))))))))), (.own 2), (.d .nil)]), (Ar 72 1 enc_GBook y5_d_1_4), (Ar 84 3 enc_GChange y6_4), (Ar 84 3 enc_GChange r54_5.2.2.1), (.box [(.l enc_GLeave_ r54_5.1.L)])], 0⟩ <| Sq <| Sx ?_
        refine Wm (.i r54_5.2.2.2) rfl <| Wz (.b (decide (r54_5.2.2.2 ≠ 0))) (Obn rfl (fun _ => hb_neq (k := .i64))) <| Nk 1152921504606848486 63 ⟨tp 1 (.l enc_GTurn_ p1::.loc 0 0::tp 2 (.loc 1 0::.own 3::.i y7_4::.loc 5 0::tp 1 (.own 4::tp 49 (.b (decide (r54_5.2.2.2 ≠ 0))::tp 106 [])))), [(.box [(.i p0.a0), (.i p0.a1)]), (.box [(.i 0), (.d .nil), (.d .nil), (.d (.mp (Option.isNone (none : Option (List (GArr2_Int × (List (List GChange)))))) (mks kv_22 (ml (none : Option (List (GArr2_Int × (List (List GChange))))))) (mds (slD (encL enc_GChange)) (ml (none : Option (List (GArr2_Int × (List (List GChange))))))))), (.own 2), (.d .nil)]), (Ar 72 1 enc_GBook y5_d_1_4), (Ar 84 3 enc_GChange y6_4), (Ar 84 3 enc_GChange r54_5.2.2.1), (.box [(.l enc_GLeave_ r54_5.1.L)])], 0⟩ ?_
        rcases tf_ (decide (r54_5.2.2.2 ≠ 0)) with hc60_24 | hc60_24
        ·
         replace hm := cT hc60_24 hm
         refine AiT hc60_24 <| Sx <| Wm (.b false) rfl <| Nn <| Rt <| Tr <| Ir <| Tr <| RoundK.ret <| Ir <| Tr ?_
         obtain rfl := Option.some.inj hm
         exact ret_i []
        ·
         replace hm := cF hc60_24 hm
         refine AiF hc60_24 <| Sk <| Tk 1510 63 ⟨tp 1 (.l enc_GTurn_ p1::.loc 0 0::tp 2 (.loc 1 0::.own 3::.i y7_4::.loc 5 0::tp 1 (.own 4::tp 156 []))), [(.box [(.i p0.a0), (.i p0.a1)]), (.box [(.i 0), (.d .nil), (.d .nil), (.d (.mp (Option.isNone (none : Option (List (GArr2_Int × (List (List GChange)))))) (mks kv_22 (ml (none : Option (List (GArr2_Int × (List (List GChange))))))) (mds (slD (encL enc_GChange)) (ml (none : Option (List (GArr2_Int × (List (List GChange))))))))), (.own 2), (.d .nil)]), (Ar 72 1 enc_GBook y5_d_1_4), (Ar 84 3 enc_GChange y6_4), (Ar 84 3 enc_GChange r54_5.2.2.1), (.box [(.l enc_GLeave_ r54_5.1.L)])], 0⟩ <| Sq <| Adr <| Wm (.loc 1 0) rfl <| Wm (.loc 1 0) rfl <| Wz (.loc 1 0) (op_nilCheckLoc rfl (id := 1) (off := 0) (xs := [(.i 0), (.d .nil), (.d .nil), (.d (.mp (Option.isNone (none : Option (List (GArr2_Int × (List (List GChange)))))) (mks kv_22 (ml (none : Option (List (GArr2_Int × (List (List GChange))))))) (mds (slD (encL enc_GChange)) (ml (none : Option (List (GArr2_Int × (List (List GChange))))))))), (.own 2), (.d .nil)]) (by kernel_rfl) (by kernel_rfl)) <| Wz (.loc 1 4) (Ofa rfl) <| Wz (.own 2) (Old rfl) <| Wz (.agg [(.l enc_GLeave_ r54_5.1.L)]) (Old rfl) <| Wy (.own 6) [(6, (Ar 72 1 enc_GBook ([r54_5.1] : List GBook)))] (Obs rfl) ?_
         obtain ⟨a68_6, ha68_6, hm⟩ := bnd hm; obtain ⟨ha68_6e, ha68_6l⟩ := app_some ha68_6
         refine Wy (.own 7) [(2, .gone), (7, (Ar 72 1 enc_GBook a68_6))] (Oap rfl elemOK_66 enc_GBook_len ha68_6e ha68_6l) <| Wz (.loc 1 0) (op_nilCheckLoc rfl (id := 1) (off := 0) (xs := [(.i 0), (.d .nil), (.d .nil), (.d (.mp (Option.isNone (none : Option (List (GArr2_Int × (List (List GChange)))))) (mks kv_22 (ml (none : Option (List (GArr2_Int × (List (List GChange))))))) (mds (slD (encL enc_GChange)) (ml (none : Option (List (GArr2_Int × (List (List GChange))))))))), (.own 2), (.d .nil)]) (by kernel_rfl) (by kernel_rfl)) <| Wz (.loc 1 4) (Ofa rfl) <| Wy (.tup []) [(1, (.box [(.i 0), (.d .nil), (.d .nil), (.d (.mp (Option.isNone (none : Option (List (GArr2_Int × (List (List GChange)))))) (mks kv_22 (ml (none : Option (List (GArr2_Int × (List (List GChange))))))) (mds (slD (encL enc_GChange)) (ml (none : Option (List (GArr2_Int × (List (List GChange))))))))), (.own 7), (.d .nil)]))] (Ost rfl) <| Wdr <| Tk 1254 155 ⟨tp 1 (.l enc_GTurn_ p1::.loc 0 0::tp 2 (.loc 1 0::.own 3::.i y7_4::tp 2 (.own 4::tp 156 []))), [(.box [(.i p0.a0), (.i p0.a1)]), (.box [(.i 0), (.d .nil), (.d .nil), (.d (.mp (Option.isNone (none : Option (List (GArr2_Int × (List (List GChange)))))) (mks kv_22 (ml (none : Option (List (GArr2_Int × (List (List GChange))))))) (mds (slD (encL enc_GChange)) (ml (none : Option (List (GArr2_Int × (List (List GChange))))))))), (.own 7), (.d .nil)]), .gone, (Ar 84 3 enc_GChange y6_4), (Ar 84 3 enc_GChange r54_5.2.2.1), .gone, .gone, (Ar 72 1 enc_GBook a68_6)], 0⟩ <| Tx <| Wm (.own 3) rfl <| Wm (.own 4) rfl ?_
         obtain ⟨a73_7, ha73_7, hm⟩ := bnd hm; obtain ⟨ha73_7e, ha73_7l⟩ := app_some ha73_7
         refine Wy (.own 8) [(3, .gone), (8, (Ar 84 3 enc_GChange a73_7))] (Oap rfl elemOK_34 enc_GChange_len ha73_7e ha73_7l) <| Wm (.own 8) rfl <| Wn0 <| Ino <| Tk 230 387 ⟨tp 1 (.l enc_GTurn_ p1::.loc 0 0::tp 2 (.loc 1 0::.own 8::.i y7_4::tp 159 [])), [(.box [(.i p0.a0), (.i p0.a1)]), (.box [(.i 0), (.d .nil), (.d .nil), (.d (.mp (Option.isNone (none : Option (List (GArr2_Int × (List (List GChange)))))) (mks kv_22 (ml (none : Option (List (GArr2_Int × (List (List GChange))))))) (mds (slD (encL enc_GChange)) (ml (none : Option (List (GArr2_Int × (List (List GChange))))))))), (.own 7), (.d .nil)]), .gone, .gone, .gone, .gone, .gone, (Ar 72 1 enc_GBook a68_6), (Ar 84 3 enc_GChange a73_7)], 0⟩ <| Tx <| Wm (.i y7_4) rfl <| Wz (.i (W6 (y7_4 + 1))) (Obn rfl (fun _ => hb_add (k := .i64))) <| Wm (.i (W6 (y7_4 + 1))) rfl <| Wn0 <| RoundK.normal ?_
         exact Rounds.weak (Weak.toK 230 0 0 [0, 1, 7, 8]) (ih_4 (fu_4, a68_6, a73_7, (W6 (y7_4 + 1))) hm (Nat.lt_succ_self _))
       ·
        replace hm := cF hc48_23 hm
        refine AiF hc48_23 <| AWP.exit <| Then.exit <| RoundK.exit <| InBlock.same <| Tk 102 15 ⟨tp 1 (.l enc_GTurn_ p1::.loc 0 0::tp 2 (.loc 1 0::.own 3::tp 160 [])), [(.box [(.i p0.a0), (.i p0.a1)]), (.box [(.i 0), (.d .nil), (.d .nil), (.d (.mp (Option.isNone (none : Option (List (GArr2_Int × (List (List GChange)))))) (mks kv_22 (ml (none : Option (List (GArr2_Int × (List (List GChange))))))) (mds (slD (encL enc_GChange)) (ml (none : Option (List (GArr2_Int × (List (List GChange))))))))), (.own 2), (.d .nil)]), (Ar 72 1 enc_GBook y5_d_1_4), (Ar 84 3 enc_GChange y6_4)], 0⟩ <| Sx <| Wz (.loc 0 0) (Ocs (by kernel_rfl) (op_iaddr_arr rfl (n := 2) (sz := 1) (y := (.loc 0 0)) (by kernel_rfl) (by kernel_rfl) (by kernel_rfl) (k := .i64) (iv := 0) (by kernel_rfl) (i := 0) (by rfl) (by decide))) <| Wz (.i p0.a0) (Old rfl) <| Wz (.loc 0 1) (Ocs (by kernel_rfl) (op_iaddr_arr rfl (n := 2) (sz := 1) (y := (.loc 0 0)) (by kernel_rfl) (by kernel_rfl) (by kernel_rfl) (k := .i64) (iv := 1) (by kernel_rfl) (i := 1) (by rfl) (by decide))) <| Wz (.i p0.a1) (Old rfl) <| Wm (.own 3) rfl ?_
        obtain ⟨r80_8, hr80_8, hm⟩ := bnd hm
        refine Wy (.tup [(.agg [(.i r80_8.1.Cap), (.own 4), (.own 5), (.d (.mp (Option.isNone r80_8.1.Links) (mks kv_22 (ml r80_8.1.Links)) (mds (slD (encL enc_GChange)) (ml r80_8.1.Links))))]), (.i r80_8.2)]) [(4, (.arr 34 1 (List.length r80_8.1.Views) (flatD (encL enc_GChange) r80_8.1.Views))), (5, (.arr 34 1 (List.length r80_8.1.Pending) (flatD (encL enc_GChange) r80_8.1.Pending))), (3, (.fro 84 3 (List.length y6_4) (flatD enc_GChange y6_4)))] (Ocf [] [4, 5] [3] 0 (ok_view_New p0.a0 p0.a1 y6_4 r80_8 hr80_8) (fun a w => Try.call8 a w) rfl trivial) <| Wm (.tup [(.agg [(.i r80_8.1.Cap), (.own 4), (.own 5), (.d (.mp (Option.isNone r80_8.1.Links) (mks kv_22 (ml r80_8.1.Links)) (mds (slD (encL enc_GChange)) (ml r80_8.1.Links))))]), (.i r80_8.2)]) rfl <| Wz (.agg [(.i r80_8.1.Cap), (.own 4), (.own 5), (.d (.mp (Option.isNone r80_8.1.Links) (mks kv_22 (ml r80_8.1.Links)) (mds (slD (encL enc_GChange)) (ml r80_8.1.Links))))]) (Oex rfl) <| Wz (.i r80_8.2) (Oex rfl) <| Wy (.loc 6 0) [(6, (.box [(.i 0), (.d .nil), (.d .nil), (.d (.mp (Option.isNone (none : Option (List (GArr2_Int × (List (List GChange)))))) (mks kv_22 (ml (none : Option (List (GArr2_Int × (List (List GChange))))))) (mds (slD (encL enc_GChange)) (ml (none : Option (List (GArr2_Int × (List (List GChange)))))))))]))] (Oal rfl) <| Wy (.tup []) [(6, (.box [(.i r80_8.1.Cap), (.own 4), (.own 5), (.d (.mp (Option.isNone r80_8.1.Links) (mks kv_22 (ml r80_8.1.Links)) (mds (slD (encL enc_GChange)) (ml r80_8.1.Links))))]))] (Ost rfl) <| Wm (.i r80_8.2) rfl <| Nk 12322 118 ⟨tp 1 (.l enc_GTurn_ p1::tp 3 (.loc 1 0::tp 6 (.loc 6 0::.i r80_8.2::tp 153 []))), [.gone, (.box [(.i 0), (.d .nil), (.d .nil), (.d (.mp (Option.isNone (none : Option (List (GArr2_Int × (List (List GChange)))))) (mks kv_22 (ml (none : Option (List (GArr2_Int × (List (List GChange))))))) (mds (slD (encL enc_GChange)) (ml (none : Option (List (GArr2_Int × (List (List GChange))))))))), (.own 2), (.d .nil)]), (Ar 72 1 enc_GBook y5_d_1_4), .gone, (.arr 34 1 (List.length r80_8.1.Views) (flatD (encL enc_GChange) r80_8.1.Views)), (.arr 34 1 (List.length r80_8.1.Pending) (flatD (encL enc_GChange) r80_8.1.Pending)), (.box [(.i r80_8.1.Cap), (.own 4), (.own 5), (.d (.mp (Option.isNone r80_8.1.Links) (mks kv_22 (ml r80_8.1.Links)) (mds (slD (encL enc_GChange)) (ml r80_8.1.Links))))])], 0⟩ <| Sq <| Sx <| Wm (.i r80_8.2) rfl <| Wz (.b (decide (r80_8.2 ≠ 0))) (Obn rfl (fun _ => hb_neq (k := .i64))) <| Nk 19342813113834066795302946 118 ⟨tp 1 (.l enc_GTurn_ p1::tp 3 (.loc 1 0::tp 6 (.loc 6 0::tp 71 (.b (decide (r80_8.2 ≠ 0))::tp 82 [])))), [.gone, (.box [(.i 0), (.d .nil), (.d .nil), (.d (.mp (Option.isNone (none : Option (List (GArr2_Int × (List (List GChange)))))) (mks kv_22 (ml (none : Option (List (GArr2_Int × (List (List GChange))))))) (mds (slD (encL enc_GChange)) (ml (none : Option (List (GArr2_Int × (List (List GChange))))))))), (.own 2), (.d .nil)]), (Ar 72 1 enc_GBook y5_d_1_4), .gone, (.arr 34 1 (List.length r80_8.1.Views) (flatD (encL enc_GChange) r80_8.1.Views)), (.arr 34 1 (List.length r80_8.1.Pending) (flatD (encL enc_GChange) r80_8.1.Pending)), (.box [(.i r80_8.1.Cap), (.own 4), (.own 5), (.d (.mp (Option.isNone r80_8.1.Links) (mks kv_22 (ml r80_8.1.Links)) (mds (slD (encL enc_GChange)) (ml r80_8.1.Links))))])], 0⟩ ?_
        rcases tf_ (decide (r80_8.2 ≠ 0)) with hc84_25 | hc84_25
        ·
         replace hm := cT hc84_25 hm
         refine AiT hc84_25 <| Sx <| Wm (.b false) rfl <| Nn <| Rt <| Tr ?_
         obtain rfl := Option.some.inj hm
         exact ret_i []
        ·
         replace hm := cF hc84_25 hm
         refine AiF hc84_25 <| Sk <| Tk 4130 118 ⟨tp 1 (.l enc_GTurn_ p1::tp 3 (.loc 1 0::tp 6 (.loc 6 0::tp 154 []))), [.gone, (.box [(.i 0), (.d .nil), (.d .nil), (.d (.mp (Option.isNone (none : Option (List (GArr2_Int × (List (List GChange)))))) (mks kv_22 (ml (none : Option (List (GArr2_Int × (List (List GChange))))))) (mds (slD (encL enc_GChange)) (ml (none : Option (List (GArr2_Int × (List (List GChange))))))))), (.own 2), (.d .nil)]), (Ar 72 1 enc_GBook y5_d_1_4), .gone, (.arr 34 1 (List.length r80_8.1.Views) (flatD (encL enc_GChange) r80_8.1.Views)), (.arr 34 1 (List.length r80_8.1.Pending) (flatD (encL enc_GChange) r80_8.1.Pending)), (.box [(.i r80_8.1.Cap), (.own 4), (.own 5), (.d (.mp (Option.isNone r80_8.1.Links) (mks kv_22 (ml r80_8.1.Links)) (mds (slD (encL enc_GChange)) (ml r80_8.1.Links))))])], 0⟩ <| Sx <| Wm (.loc 1 0) rfl <| Wz (.agg [(.i r80_8.1.Cap), (.own 4), (.own 5), (.d (.mp (Option.isNone r80_8.1.Links) (mks kv_22 (ml r80_8.1.Links)) (mds (slD (encL enc_GChange)) (ml r80_8.1.Links))))]) (Old rfl) <| Wz (.loc 1 0) (op_nilCheckLoc rfl (id := 1) (off := 0) (xs := [(.i 0), (.d .nil), (.d .nil), (.d (.mp (Option.isNone (none : Option (List (GArr2_Int × (List (List GChange)))))) (mks kv_22 (ml (none : Option (List (GArr2_Int × (List (List GChange))))))) (mds (slD (encL enc_GChange)) (ml (none : Option (List (GArr2_Int × (List (List GChange))))))))), (.own 2), (.d .nil)]) (by kernel_rfl) (by kernel_rfl)) <| Wz (.loc 1 0) (Ofa rfl) <| Wy (.tup []) [(1, (.box [(.i r80_8.1.Cap), (.own 4), (.own 5), (.d (.mp (Option.isNone r80_8.1.Links) (mks kv_22 (ml r80_8.1.Links)) (mds (slD (encL enc_GChange)) (ml r80_8.1.Links)))), (.own 2), (.d .nil)]))] (Ost rfl) <| Nk 34 54 ⟨tp 1 (.l enc_GTurn_ p1::tp 3 (.loc 1 0::tp 161 [])), [.gone, (.box [(.i r80_8.1.Cap), (.own 4), (.own 5), (.d (.mp (Option.isNone r80_8.1.Links) (mks kv_22 (ml r80_8.1.Links)) (mds (slD (encL enc_GChange)) (ml r80_8.1.Links)))), (.own 2), (.d .nil)]), (Ar 72 1 enc_GBook y5_d_1_4), .gone, (.arr 34 1 (List.length r80_8.1.Views) (flatD (encL enc_GChange) r80_8.1.Views)), (.arr 34 1 (List.length r80_8.1.Pending) (flatD (encL enc_GChange) r80_8.1.Pending)), .gone], 0⟩ <| Sq <| Sx <| Wm (.i 0) rfl <| Nk 16418 54 ⟨tp 1 (.l enc_GTurn_ p1::tp 3 (.loc 1 0::tp 8 (.i 0::tp 152 []))), [.gone, (.box [(.i r80_8.1.Cap), (.own 4), (.own 5), (.d (.mp (Option.isNone r80_8.1.Links) (mks kv_22 (ml r80_8.1.Links)) (mds (slD (encL enc_GChange)) (ml r80_8.1.Links)))), (.own 2), (.d .nil)]), (Ar 72 1 enc_GBook y5_d_1_4), .gone, (.arr 34 1 (List.length r80_8.1.Views) (flatD (encL enc_GChange) r80_8.1.Views)), (.arr 34 1 (List.length r80_8.1.Pending) (flatD (encL enc_GChange) r80_8.1.Pending)), .gone], 0⟩ ?_
         refine Bk <| Afz [4, 5] ⟨tp 1 (.l enc_GTurn_ p1::tp 3 (.loc 1 0::tp 8 (.i 0::tp 152 []))), [.gone, (.box [(.i r80_8.1.Cap), (.l (encL enc_GChange) r80_8.1.Views), (.l (encL enc_GChange) r80_8.1.Pending), (.d (.mp (Option.isNone r80_8.1.Links) (mks kv_22 (ml r80_8.1.Links)) (mds (slD (encL enc_GChange)) (ml r80_8.1.Links)))), (.own 2), (.d .nil)]), (Ar 72 1 enc_GBook y5_d_1_4), .gone, (.fro 34 1 (List.length r80_8.1.Views) (flatD (encL enc_GChange) r80_8.1.Views)), (.fro 34 1 (List.length r80_8.1.Pending) (flatD (encL enc_GChange) r80_8.1.Pending)), .gone], 0⟩ <| Aob 1 5 3 1 ⟨tp 1 (.l enc_GTurn_ p1::tp 3 (.loc 1 0::tp 8 (.i 0::tp 152 []))), [.gone, (.box [(.i r80_8.1.Cap), (.l (encL enc_GChange) r80_8.1.Views), (.l (encL enc_GChange) r80_8.1.Pending), (.d (.mp (Option.isNone r80_8.1.Links) (mks kv_22 (ml r80_8.1.Links)) (mds (slD (encL enc_GChange)) (ml r80_8.1.Links)))), (.own 2), (.own 7)]), (Ar 72 1 enc_GBook y5_d_1_4), .gone, (.fro 34 1 (List.length r80_8.1.Views) (flatD (encL enc_GChange) r80_8.1.Views)), (.fro 34 1 (List.length r80_8.1.Pending) (flatD (encL enc_GChange) r80_8.1.Pending)), .gone, (.arr 3 1 (List.length ([] : List Int)) (flatD (encI .i64) ([] : List Int)))], 0⟩ ?_
         refine AWP.loopI (α := Nat × Int × (List (List GChange)) × (List (List GChange)) × (Option (List (GArr2_Int × (List (List GChange))))) × (List GBook) × (List Int) × Int)
           (fun (fu_9, y5_d_0_0_9, y5_d_0_1_9, y5_d_0_2_9, y5_d_0_3_9, y5_d_1_9, y5_d_2_9, y14_9) => (⟨tp 1 (.l enc_GTurn_ p1::tp 3 (.loc 0 0::tp 8 (.i y14_9::tp 152 []))), [(.box [(.i y5_d_0_0_9), (.l (encL enc_GChange) y5_d_0_1_9), (.l (encL enc_GChange) y5_d_0_2_9), (.d (.mp (Option.isNone y5_d_0_3_9) (mks kv_22 (ml y5_d_0_3_9)) (mds (slD (encL enc_GChange)) (ml y5_d_0_3_9)))), (.own 1), (.own 2)]), (Ar 72 1 enc_GBook y5_d_1_9), (.arr 3 1 (List.length y5_d_2_9) (flatD (encI .i64) y5_d_2_9))], 0⟩ : St))
           (fun (fu_9, y5_d_0_0_9, y5_d_0_1_9, y5_d_0_2_9, y5_d_0_3_9, y5_d_1_9, y5_d_2_9, y14_9) => m_w29_ViewSafe_l9 p1 fu_9 y5_d_0_0_9 y5_d_0_1_9 y5_d_0_2_9 y5_d_0_3_9 y5_d_1_9 y5_d_2_9 y14_9 = some r)
           (fun (fu_9, y5_d_0_0_9, y5_d_0_1_9, y5_d_0_2_9, y5_d_0_3_9, y5_d_1_9, y5_d_2_9, y14_9) => fu_9) (1152921504606846976, r80_8.1.Cap, r80_8.1.Views, r80_8.1.Pending, r80_8.1.Links, y5_d_1_4, ([] : List Int), 0)
           (Weak.toK 16418 0 0 [1, 2, 7]) hm ?_
         rintro ⟨fu_9, y5_d_0_0_9, y5_d_0_1_9, y5_d_0_2_9, y5_d_0_3_9, y5_d_1_9, y5_d_2_9, y14_9⟩ n_9 hm ih_9
         try dsimp only at hm ih_9 ⊢
         cases fu_9 with
         | zero => exact absurd hm (by unfold m_w29_ViewSafe_l9; simp)
         | succ fu_9 =>
          unfold m_w29_ViewSafe_l9 at hm
          refine Sq <| Sx <| Wm (.i y14_9) rfl <| Wm (.l enc_GTurn_ p1) rfl <| Wz (.i ((List.length p1 : Nat) : Int)) (Oln rfl) <| Wz (.b (decide (y14_9 < ((List.length p1 : Nat) : Int)))) (Obn rfl (fun _ => hb_lss (k := .i64))) <| Nk 4951760157141521099596513314 7 ⟨tp 1 (.l enc_GTurn_ p1::tp 3 (.loc 0 0::tp 8 (.i y14_9::tp 77 (.b (decide (y14_9 < ((List.length p1 : Nat) : Int)))::tp 74 [])))), [(.box [(.i y5_d_0_0_9), (.l (encL enc_GChange) y5_d_0_1_9), (.l (encL enc_GChange) y5_d_0_2_9), (.d (.mp (Option.isNone y5_d_0_3_9) (mks kv_22 (ml y5_d_0_3_9)) (mds (slD (encL enc_GChange)) (ml y5_d_0_3_9)))), (.own 1), (.own 2)]), (Ar 72 1 enc_GBook y5_d_1_9), (.arr 3 1 (List.length y5_d_2_9) (flatD (encI .i64) y5_d_2_9))], 0⟩ ?_
          rcases tf_ (decide (y14_9 < ((List.length p1 : Nat) : Int))) with hc92_26 | hc92_26
          ·
           replace hm := cT hc92_26 hm
           refine AiT hc92_26 <| Sk <| Tk 16418 7 ⟨tp 1 (.l enc_GTurn_ p1::tp 3 (.loc 0 0::tp 8 (.i y14_9::tp 152 []))), [(.box [(.i y5_d_0_0_9), (.l (encL enc_GChange) y5_d_0_1_9), (.l (encL enc_GChange) y5_d_0_2_9), (.d (.mp (Option.isNone y5_d_0_3_9) (mks kv_22 (ml y5_d_0_3_9)) (mds (slD (encL enc_GChange)) (ml y5_d_0_3_9)))), (.own 1), (.own 2)]), (Ar 72 1 enc_GBook y5_d_1_9), (.arr 3 1 (List.length y5_d_2_9) (flatD (encI .i64) y5_d_2_9))], 0⟩ <| Sq <| Bk <| Sq <| Sx <| Wm (.l enc_GTurn_ p1) rfl <| Wm (.i y14_9) rfl ?_
           obtain ⟨x97_11, hx97_11, hm⟩ := bnd hm
           obtain ⟨hx97_11i, hx97_11g⟩ := geti_some hx97_11
           refine Wz (.d (.ref (List.drop ((Int.toNat y14_9) * 3) (flatD enc_GTurn_ p1)))) (Oia rfl enc_GTurn__len hx97_11i hx97_11g) <| Wz (.d (.ref (List.drop 1 (List.drop ((Int.toNat y14_9) * 3) (flatD enc_GTurn_ p1))))) (Ofa rfl) <| Wz (.i x97_11.W) (Lfk1 1 rfl enc_GTurn__len hx97_11g) <| Wz (.b (decide (x97_11.W < 0))) (Obn rfl (fun _ => hb_lss (k := .i64))) <| Nk 1267650600228229401496703221794 7 ⟨tp 1 (.l enc_GTurn_ p1::tp 3 (.loc 0 0::tp 8 (.i y14_9::tp 85 (.b (decide (x97_11.W < 0))::tp 66 [])))), [(.box [(.i y5_d_0_0_9), (.l (encL enc_GChange) y5_d_0_1_9), (.l (encL enc_GChange) y5_d_0_2_9), (.d (.mp (Option.isNone y5_d_0_3_9) (mks kv_22 (ml y5_d_0_3_9)) (mds (slD (encL enc_GChange)) (ml y5_d_0_3_9)))), (.own 1), (.own 2)]), (Ar 72 1 enc_GBook y5_d_1_9), (.arr 3 1 (List.length y5_d_2_9) (flatD (encI .i64) y5_d_2_9))], 0⟩ ?_
           rcases tf_ (decide (x97_11.W < 0)) with hc100_27 | hc100_27
           ·
            replace hm := cT hc100_27 hm
            refine AiT hc100_27 <| Sx ?_
            obtain ⟨r101_12, hr101_12, hm⟩ := bnd hm
            refine Wz (.b r101_12) (Ocf [] [] [] 0 (ok_w29_awake  r101_12 hr101_12) (fun a w => Try.call7 a w) rfl trivial) <| Wm (.b r101_12) rfl <| Nn <| Rt <| Tr <| Ir <| Tr <| RoundK.ret <| Ir <| Tr ?_
            obtain rfl := Option.some.inj hm
            exact ret_i []
           ·
            replace hm := cF hc100_27 hm
            refine AiF hc100_27 <| Sk <| Tk 16418 7 ⟨tp 1 (.l enc_GTurn_ p1::tp 3 (.loc 0 0::tp 8 (.i y14_9::tp 152 []))), [(.box [(.i y5_d_0_0_9), (.l (encL enc_GChange) y5_d_0_1_9), (.l (encL enc_GChange) y5_d_0_2_9), (.d (.mp (Option.isNone y5_d_0_3_9) (mks kv_22 (ml y5_d_0_3_9)) (mds (slD (encL enc_GChange)) (ml y5_d_0_3_9)))), (.own 1), (.own 2)]), (Ar 72 1 enc_GBook y5_d_1_9), (.arr 3 1 (List.length y5_d_2_9) (flatD (encI .i64) y5_d_2_9))], 0⟩ <| Sx <| Wm (.loc 0 0) rfl <| Wz (.loc 0 0) (op_nilCheckLoc rfl (id := 0) (off := 0) (xs := [(.i y5_d_0_0_9), (.l (encL enc_GChange) y5_d_0_1_9), (.l (encL enc_GChange) y5_d_0_2_9), (.d (.mp (Option.isNone y5_d_0_3_9) (mks kv_22 (ml y5_d_0_3_9)) (mds (slD (encL enc_GChange)) (ml y5_d_0_3_9)))), (.own 1), (.own 2)]) (by kernel_rfl) (by kernel_rfl)) <| Wz (.loc 0 0) (Ofa rfl) <| Wz (.loc 0 1) (Ofa rfl) <| Wz (.l (encL enc_GChange) y5_d_0_1_9) (Old rfl) <| Wm (.l (encL enc_GChange) y5_d_0_1_9) rfl <| Nk 49186 7 ⟨tp 1 (.l enc_GTurn_ p1::tp 3 (.loc 0 0::tp 8 (.i y14_9::.l (encL enc_GChange) y5_d_0_1_9::tp 151 []))), [(.box [(.i y5_d_0_0_9), (.l (encL enc_GChange) y5_d_0_1_9), (.l (encL enc_GChange) y5_d_0_2_9), (.d (.mp (Option.isNone y5_d_0_3_9) (mks kv_22 (ml y5_d_0_3_9)) (mds (slD (encL enc_GChange)) (ml y5_d_0_3_9)))), (.own 1), (.own 2)]), (Ar 72 1 enc_GBook y5_d_1_9), (.arr 3 1 (List.length y5_d_2_9) (flatD (encI .i64) y5_d_2_9))], 0⟩ <| Sx <| Wm (.loc 0 0) rfl <| Wm (.l enc_GTurn_ p1) rfl ?_
            refine Wm (.i y14_9) rfl ?_
            obtain ⟨x110_13, hx110_13, hm⟩ := bnd hm
            obtain ⟨hx110_13i, hx110_13g⟩ := geti_some hx110_13
            refine Wz (.d (.ref (List.drop ((Int.toNat y14_9) * 3) (flatD enc_GTurn_ p1)))) (Oia rfl enc_GTurn__len hx110_13i hx110_13g) <| Wz (.agg [(.y x110_13.Kind), (.i x110_13.W), (.i x110_13.A)]) (Lf rfl enc_GTurn__len hx110_13g) ?_
            obtain ⟨r112_13, hr112_13, hm⟩ := bnd hm
            refine Wy (.tup []) [(0, (.box [(.i r112_13.1.net.Cap), (.l (encL enc_GChange) r112_13.1.net.Views), (.l (encL enc_GChange) r112_13.1.net.Pending), (.d (.mp (Option.isNone r112_13.1.net.Links) (mks kv_22 (ml r112_13.1.net.Links)) (mds (slD (encL enc_GChange)) (ml r112_13.1.net.Links)))), (.own 1), (.own 3)])), (1, (Ar 72 1 enc_GBook r112_13.2)), (2, .gone), (3, (.arr 3 1 (List.length r112_13.1.things) (flatD (encI .i64) r112_13.1.things)))] (Ocf [0, 1, 2] [3] [] 0 (ok_w29_crew_turn_2 (GTcrew.mk (GNet.mk y5_d_0_0_9 y5_d_0_1_9 y5_d_0_2_9 y5_d_0_3_9) y5_d_1_9 y5_d_2_9) x110_13 r112_13 hr112_13) (fun a w => Try.call34 a w) rfl ⟨rfl, rfl, rfl, trivial⟩) <| Nk 49186 11 ⟨tp 1 (.l enc_GTurn_ p1::tp 3 (.loc 0 0::tp 8 (.i y14_9::.l (encL enc_GChange) y5_d_0_1_9::tp 151 []))), [(.box [(.i r112_13.1.net.Cap), (.l (encL enc_GChange) r112_13.1.net.Views), (.l (encL enc_GChange) r112_13.1.net.Pending), (.d (.mp (Option.isNone r112_13.1.net.Links) (mks kv_22 (ml r112_13.1.net.Links)) (mds (slD (encL enc_GChange)) (ml r112_13.1.net.Links)))), (.own 1), (.own 3)]), (Ar 72 1 enc_GBook r112_13.2), .gone, (.arr 3 1 (List.length r112_13.1.things) (flatD (encI .i64) r112_13.1.things))], 0⟩ <| Sx <| Wm (.loc 0 0) rfl ?_
            obtain ⟨r114_14, hr114_14, hm⟩ := bnd hm
            refine Wy (.i r114_14) [(0, (.box [(.i r112_13.1.net.Cap), (.l (encL enc_GChange) r112_13.1.net.Views), (.l (encL enc_GChange) r112_13.1.net.Pending), (.d (.mp (Option.isNone r112_13.1.net.Links) (mks kv_22 (ml r112_13.1.net.Links)) (mds (slD (encL enc_GChange)) (ml r112_13.1.net.Links)))), (.own 1), (.own 3)])), (1, (Ar 72 1 enc_GBook r112_13.2)), (3, (.arr 3 1 (List.length r112_13.1.things) (flatD (encI .i64) r112_13.1.things)))] (Ocf [0, 1, 3] [] [] 0 (ok_w29_crew_least (GTcrew.mk r112_13.1.net r112_13.2 r112_13.1.things) r114_14 hr114_14) (fun a w => Try.call35 a w) rfl ⟨rfl, rfl, rfl, trivial⟩) <| Wm (.i r114_14) rfl <| Nk 114722 11 ⟨tp 1 (.l enc_GTurn_ p1::tp 3 (.loc 0 0::tp 8 (.i y14_9::.l (encL enc_GChange) y5_d_0_1_9::.i r114_14::tp 150 []))), [(.box [(.i r112_13.1.net.Cap), (.l (encL enc_GChange) r112_13.1.net.Views), (.l (encL enc_GChange) r112_13.1.net.Pending), (.d (.mp (Option.isNone r112_13.1.net.Links) (mks kv_22 (ml r112_13.1.net.Links)) (mds (slD (encL enc_GChange)) (ml r112_13.1.net.Links)))), (.own 1), (.own 3)]), (Ar 72 1 enc_GBook r112_13.2), .gone, (.arr 3 1 (List.length r112_13.1.things) (flatD (encI .i64) r112_13.1.things))], 0⟩ <| Sq <| Sx <| Wm (.loc 0 0) rfl <| Wz (.loc 0 0) (op_nilCheckLoc rfl (id := 0) (off := 0) (xs := [(.i r112_13.1.net.Cap), (.l (encL enc_GChange) r112_13.1.net.Views), (.l (encL enc_GChange) r112_13.1.net.Pending), (.d (.mp (Option.isNone r112_13.1.net.Links) (mks kv_22 (ml r112_13.1.net.Links)) (mds (slD (encL enc_GChange)) (ml r112_13.1.net.Links)))), (.own 1), (.own 3)]) (by kernel_rfl) (by kernel_rfl)) <| Wz (.loc 0 0) (Ofa rfl) <| Wz (.loc 0 1) (Ofa rfl) <| Wz (.l (encL enc_GChange) r112_13.1.net.Views) (Old rfl) <| Wz (.i ((List.length r112_13.1.net.Views : Nat) : Int)) (Oln rfl) <| Wm (.l (encL enc_GChange) y5_d_0_1_9) rfl <| Wz (.i ((List.length y5_d_0_1_9 : Nat) : Int)) (Oln rfl) <| Wz (.b (decide (((List.length r112_13.1.net.Views : Nat) : Int) ≠ ((List.length y5_d_0_1_9 : Nat) : Int)))) (Obn rfl (fun _ => hb_neq (k := .i64))) ?_
            refine Nk 10633823966279326983230456482242871330 11 ⟨tp 1 (.l enc_GTurn_ p1::tp 3 (.loc 0 0::tp 8 (.i y14_9::.l (encL enc_GChange) y5_d_0_1_9::.i r114_14::tp 106 (.b (decide (((List.length r112_13.1.net.Views : Nat) : Int) ≠ ((List.length y5_d_0_1_9 : Nat) : Int)))::tp 43 [])))), [(.box [(.i r112_13.1.net.Cap), (.l (encL enc_GChange) r112_13.1.net.Views), (.l (encL enc_GChange) r112_13.1.net.Pending), (.d (.mp (Option.isNone r112_13.1.net.Links) (mks kv_22 (ml r112_13.1.net.Links)) (mds (slD (encL enc_GChange)) (ml r112_13.1.net.Links)))), (.own 1), (.own 3)]), (Ar 72 1 enc_GBook r112_13.2), .gone, (.arr 3 1 (List.length r112_13.1.things) (flatD (encI .i64) r112_13.1.things))], 0⟩ ?_
            rcases tf_ (decide (((List.length r112_13.1.net.Views : Nat) : Int) ≠ ((List.length y5_d_0_1_9 : Nat) : Int))) with hc123_28 | hc123_28
            ·
             replace hm := cT hc123_28 hm
             refine AiT hc123_28 <| Sx <| Wm (.b false) rfl <| Nn <| Rt <| Tr <| Ir <| Tr <| RoundK.ret <| Ir <| Tr ?_
             obtain rfl := Option.some.inj hm
             exact ret_i []
            ·
             replace hm := cF hc123_28 hm
             refine AiF hc123_28 <| Sk <| Tk 114722 11 ⟨tp 1 (.l enc_GTurn_ p1::tp 3 (.loc 0 0::tp 8 (.i y14_9::.l (encL enc_GChange) y5_d_0_1_9::.i r114_14::tp 150 []))), [(.box [(.i r112_13.1.net.Cap), (.l (encL enc_GChange) r112_13.1.net.Views), (.l (encL enc_GChange) r112_13.1.net.Pending), (.d (.mp (Option.isNone r112_13.1.net.Links) (mks kv_22 (ml r112_13.1.net.Links)) (mds (slD (encL enc_GChange)) (ml r112_13.1.net.Links)))), (.own 1), (.own 3)]), (Ar 72 1 enc_GBook r112_13.2), .gone, (.arr 3 1 (List.length r112_13.1.things) (flatD (encI .i64) r112_13.1.things))], 0⟩ <| Sx <| Wm (.i 0) rfl <| Nk 245794 11 ⟨tp 1 (.l enc_GTurn_ p1::tp 3 (.loc 0 0::tp 8 (.i y14_9::.l (encL enc_GChange) y5_d_0_1_9::.i r114_14::.i 0::tp 149 []))), [(.box [(.i r112_13.1.net.Cap), (.l (encL enc_GChange) r112_13.1.net.Views), (.l (encL enc_GChange) r112_13.1.net.Pending), (.d (.mp (Option.isNone r112_13.1.net.Links) (mks kv_22 (ml r112_13.1.net.Links)) (mds (slD (encL enc_GChange)) (ml r112_13.1.net.Links)))), (.own 1), (.own 3)]), (Ar 72 1 enc_GBook r112_13.2), .gone, (.arr 3 1 (List.length r112_13.1.things) (flatD (encI .i64) r112_13.1.things))], 0⟩ <| Bk ?_
             refine AWP.loopI (α := Nat × Int)
               (fun (fu_16, y17_16) => (⟨tp 1 (.l enc_GTurn_ p1::tp 3 (.loc 0 0::tp 8 (.i y14_9::.l (encL enc_GChange) y5_d_0_1_9::.i r114_14::.i y17_16::tp 149 []))), [(.box [(.i r112_13.1.net.Cap), (.l (encL enc_GChange) r112_13.1.net.Views), (.l (encL enc_GChange) r112_13.1.net.Pending), (.d (.mp (Option.isNone r112_13.1.net.Links) (mks kv_22 (ml r112_13.1.net.Links)) (mds (slD (encL enc_GChange)) (ml r112_13.1.net.Links)))), (.own 1), (.own 2)]), (Ar 72 1 enc_GBook r112_13.2), (.arr 3 1 (List.length r112_13.1.things) (flatD (encI .i64) r112_13.1.things))], 0⟩ : St))
               (fun (fu_16, y17_16) => m_w29_ViewSafe_l16 r112_13 r114_14 y14_9 y5_d_0_1_9 (fun y5_d_0_0_9 y5_d_0_1_9 y5_d_0_2_9 y5_d_0_3_9 y5_d_1_9 y5_d_2_9 y14_9 => m_w29_ViewSafe_l9 p1 fu_9 y5_d_0_0_9 y5_d_0_1_9 y5_d_0_2_9 y5_d_0_3_9 y5_d_1_9 y5_d_2_9 y14_9) fu_16 y17_16 = some r)
               (fun (fu_16, y17_16) => fu_16) (1152921504606846976, 0)
               (Weak.toK 245794 0 0 [0, 1, 3]) hm ?_
             rintro ⟨fu_16, y17_16⟩ n_16 hm ih_16
             try dsimp only at hm ih_16 ⊢
             cases fu_16 with
             | zero => exact absurd hm (by unfold m_w29_ViewSafe_l16; simp)
             | succ fu_16 =>
              unfold m_w29_ViewSafe_l16 at hm
              refine Sq <| Sx <| Wm (.i y17_16) rfl <| Wm (.l (encL enc_GChange) y5_d_0_1_9) rfl <| Wz (.i ((List.length y5_d_0_1_9 : Nat) : Int)) (Oln rfl) <| Wz (.b (decide (y17_16 < ((List.length y5_d_0_1_9 : Nat) : Int)))) (Obn rfl (fun _ => hb_lss (k := .i64))) <| Nk 170141183460469231731687303715884351522 7 ⟨tp 1 (.l enc_GTurn_ p1::tp 3 (.loc 0 0::tp 8 (.i y14_9::.l (encL enc_GChange) y5_d_0_1_9::.i r114_14::.i y17_16::tp 109 (.b (decide (y17_16 < ((List.length y5_d_0_1_9 : Nat) : Int)))::tp 39 [])))), [(.box [(.i r112_13.1.net.Cap), (.l (encL enc_GChange) r112_13.1.net.Views), (.l (encL enc_GChange) r112_13.1.net.Pending), (.d (.mp (Option.isNone r112_13.1.net.Links) (mks kv_22 (ml r112_13.1.net.Links)) (mds (slD (encL enc_GChange)) (ml r112_13.1.net.Links)))), (.own 1), (.own 2)]), (Ar 72 1 enc_GBook r112_13.2), (.arr 3 1 (List.length r112_13.1.things) (flatD (encI .i64) r112_13.1.things))], 0⟩ ?_
              rcases tf_ (decide (y17_16 < ((List.length y5_d_0_1_9 : Nat) : Int))) with hc127_29 | hc127_29
              ·
               replace hm := cT hc127_29 hm
               refine AiT hc127_29 <| Sk <| Tk 245794 7 ⟨tp 1 (.l enc_GTurn_ p1::tp 3 (.loc 0 0::tp 8 (.i y14_9::.l (encL enc_GChange) y5_d_0_1_9::.i r114_14::.i y17_16::tp 149 []))), [(.box [(.i r112_13.1.net.Cap), (.l (encL enc_GChange) r112_13.1.net.Views), (.l (encL enc_GChange) r112_13.1.net.Pending), (.d (.mp (Option.isNone r112_13.1.net.Links) (mks kv_22 (ml r112_13.1.net.Links)) (mds (slD (encL enc_GChange)) (ml r112_13.1.net.Links)))), (.own 1), (.own 2)]), (Ar 72 1 enc_GBook r112_13.2), (.arr 3 1 (List.length r112_13.1.things) (flatD (encI .i64) r112_13.1.things))], 0⟩ <| Sq <| Bk <| Sx <| Wm (.loc 0 0) rfl <| Wz (.loc 0 0) (op_nilCheckLoc rfl (id := 0) (off := 0) (xs := [(.i r112_13.1.net.Cap), (.l (encL enc_GChange) r112_13.1.net.Views), (.l (encL enc_GChange) r112_13.1.net.Pending), (.d (.mp (Option.isNone r112_13.1.net.Links) (mks kv_22 (ml r112_13.1.net.Links)) (mds (slD (encL enc_GChange)) (ml r112_13.1.net.Links)))), (.own 1), (.own 2)]) (by kernel_rfl) (by kernel_rfl)) <| Wz (.loc 0 0) (Ofa rfl) <| Wz (.agg [(.i r112_13.1.net.Cap), (.l (encL enc_GChange) r112_13.1.net.Views), (.l (encL enc_GChange) r112_13.1.net.Pending), (.d (.mp (Option.isNone r112_13.1.net.Links) (mks kv_22 (ml r112_13.1.net.Links)) (mds (slD (encL enc_GChange)) (ml r112_13.1.net.Links))))]) (Old rfl) <| Wm (.i y17_16) rfl ?_
               obtain ⟨r135_18, hr135_18, hm⟩ := bnd hm
               refine Wz (.i r135_18) (Ocf [] [] [] 0 (ok_view_Net_Front r112_13.1.net y17_16 1 r135_18 hr135_18) (fun a w => Try.call23 a w) rfl trivial) <| Wm (.i r135_18) rfl <| Nk 507938 7 ⟨tp 1 (.l enc_GTurn_ p1::tp 3 (.loc 0 0::tp 8 (.i y14_9::.l (encL enc_GChange) y5_d_0_1_9::.i r114_14::.i y17_16::.i r135_18::tp 148 []))), [(.box [(.i r112_13.1.net.Cap), (.l (encL enc_GChange) r112_13.1.net.Views), (.l (encL enc_GChange) r112_13.1.net.Pending), (.d (.mp (Option.isNone r112_13.1.net.Links) (mks kv_22 (ml r112_13.1.net.Links)) (mds (slD (encL enc_GChange)) (ml r112_13.1.net.Links)))), (.own 1), (.own 2)]), (Ar 72 1 enc_GBook r112_13.2), (.arr 3 1 (List.length r112_13.1.things) (flatD (encI .i64) r112_13.1.things))], 0⟩ ?_
               refine AWP.cutJ (α := Unit) (fun x => match x with | () => (⟨tp 1 (.l enc_GTurn_ p1::tp 3 (.loc 0 0::tp 8 (.i y14_9::.l (encL enc_GChange) y5_d_0_1_9::.i r114_14::.i y17_16::tp 147 (.b true::tp 1 [])))), [(.box [(.i r112_13.1.net.Cap), (.l (encL enc_GChange) r112_13.1.net.Views), (.l (encL enc_GChange) r112_13.1.net.Pending), (.d (.mp (Option.isNone r112_13.1.net.Links) (mks kv_22 (ml r112_13.1.net.Links)) (mds (slD (encL enc_GChange)) (ml r112_13.1.net.Links)))), (.own 1), (.own 2)]), (Ar 72 1 enc_GBook r112_13.2), (.arr 3 1 (List.length r112_13.1.things) (flatD (encI .i64) r112_13.1.things))], 0⟩ : St)) (fun x => match x with | () => m_w29_ViewSafe_j20  = some r) ?_ (fun J20 => ?_)
               ·
                rintro ⟨⟩ hm
                try dsimp only at hm ⊢
                unfold m_w29_ViewSafe_j20 at hm
                refine AWP.if_ true (by kernel_rfl) <| Sx <| Wm (.b false) rfl <| Nn <| Rt <| Ir <| Tr <| RoundK.ret <| Ir <| Ir <| Tr <| RoundK.ret <| Ir <| Tr ?_
                obtain rfl := Option.some.inj hm
                exact ret_i []
               refine Sq <| Adr <| Wm (.i r135_18) rfl <| Wm (.i r114_14) rfl <| Wz (.b (decide (r114_14 < r135_18))) (Obn rfl (fun _ => hb_gtr (k := .i64))) ?_
               rcases tf_ (decide (r114_14 < r135_18)) with hq139_19 | hq139_19
               ·
                replace hm := cT hq139_19 hm
                refine Wz (.b true) (Oq hq139_19 rfl) <| Wn <| Wn <| Wn <| Wn <| Wn <| Wn <| Wn <| Wn <| Wn <| Wn <| Wn <| Wn <| Wn ?_
                refine Wz (.b true) (OpT rfl) <| Wm (.b true) rfl <| Wn <| Wn <| Wn <| Wn <| Wn <| Wn <| Wn <| Wn <| Wn <| Wn <| Wz (.b true) (OpT rfl) <| Wdr ?_
                refine Tn ?_
                exact AWP.weak (Weak.toK 46768052394588893382517914646921056628989841621026 0 0 [0, 1, 2]) (J20 () hm)
               ·
                replace hm := cF hq139_19 hm
                refine Wz (.b false) (Oq hq139_19 rfl) <| Wm (.l (encL enc_GChange) y5_d_0_1_9) rfl <| Wm (.i y17_16) rfl ?_
                obtain ⟨x142_19, hx142_19, hm⟩ := bnd hm
                obtain ⟨hx142_19i, hx142_19g⟩ := geti_some hx142_19
                refine Wz (.d (.ref (List.drop ((Int.toNat y17_16) * 1) (flatD (encL enc_GChange) y5_d_0_1_9)))) (Oia rfl (encL_len (enc := enc_GChange)) hx142_19i hx142_19g) <| Wz (.l enc_GChange x142_19) (Lf1 rfl (encL_len (enc := enc_GChange)) hx142_19g) <| Wm (.loc 0 0) rfl <| Wz (.loc 0 0) (op_nilCheckLoc rfl (id := 0) (off := 0) (xs := [(.i r112_13.1.net.Cap), (.l (encL enc_GChange) r112_13.1.net.Views), (.l (encL enc_GChange) r112_13.1.net.Pending), (.d (.mp (Option.isNone r112_13.1.net.Links) (mks kv_22 (ml r112_13.1.net.Links)) (mds (slD (encL enc_GChange)) (ml r112_13.1.net.Links)))), (.own 1), (.own 2)]) (by kernel_rfl) (by kernel_rfl)) <| Wz (.loc 0 0) (Ofa rfl) <| Wz (.loc 0 1) (Ofa rfl) <| Wz (.l (encL enc_GChange) r112_13.1.net.Views) (Old rfl) <| Wm (.i y17_16) rfl ?_
                obtain ⟨x150_19, hx150_19, hm⟩ := bnd hm
                obtain ⟨hx150_19i, hx150_19g⟩ := geti_some hx150_19
                refine Wz (.d (.ref (List.drop ((Int.toNat y17_16) * 1) (flatD (encL enc_GChange) r112_13.1.net.Views)))) (Oia rfl (encL_len (enc := enc_GChange)) hx150_19i hx150_19g) <| Wz (.l enc_GChange x150_19) (Lf1 rfl (encL_len (enc := enc_GChange)) hx150_19g) ?_
                obtain ⟨r152_19, hr152_19, hm⟩ := bnd hm
                refine Wz (.b r152_19) (Ocf [] [] [] 0 (ok_front_Drops x142_19 x150_19 r152_19 hr152_19) (fun a w => Try.call36 a w) rfl trivial) <| Wz (.b r152_19) (OpF rfl) ?_
                rcases tf_ r152_19 with hq154_19 | hq154_19
                ·
                 replace hm := cT hq154_19 hm
                 refine Wz (.b true) (Oq hq154_19 rfl) <| Wn <| Wn <| Wn <| Wn <| Wn <| Wn <| Wn <| Wn <| Wn <| Wn <| Wz (.b true) (OpT rfl) <| Wdr <| Tn ?_
                 exact AWP.weak (Weak.toK 46768052394588893382517914646921056628989841621026 0 0 [0, 1, 2]) (J20 () hm)
                ·
                 replace hm := cF hq154_19 hm
                 refine Wz (.b false) (Oq hq154_19 rfl) <| Wm (.loc 0 0) rfl <| Wz (.loc 0 0) (op_nilCheckLoc rfl (id := 0) (off := 0) (xs := [(.i r112_13.1.net.Cap), (.l (encL enc_GChange) r112_13.1.net.Views), (.l (encL enc_GChange) r112_13.1.net.Pending), (.d (.mp (Option.isNone r112_13.1.net.Links) (mks kv_22 (ml r112_13.1.net.Links)) (mds (slD (encL enc_GChange)) (ml r112_13.1.net.Links)))), (.own 1), (.own 2)]) (by kernel_rfl) (by kernel_rfl)) <| Wz (.loc 0 0) (Ofa rfl) <| Wz (.agg [(.i r112_13.1.net.Cap), (.l (encL enc_GChange) r112_13.1.net.Views), (.l (encL enc_GChange) r112_13.1.net.Pending), (.d (.mp (Option.isNone r112_13.1.net.Links) (mks kv_22 (ml r112_13.1.net.Links)) (mds (slD (encL enc_GChange)) (ml r112_13.1.net.Links))))]) (Old rfl) ?_
                 obtain ⟨r159_19, hr159_19, hm⟩ := bnd hm
                 refine Wz (.b r159_19) (Ocf [] [] [] 0 (ok_view_Net_Idle r112_13.1.net r159_19 hr159_19) (fun a w => Try.call21 a w) rfl trivial) ?_
                 rcases tf_ r159_19 with hq160_19 | hq160_19
                 ·
                  replace hm := cT hq160_19 hm
                  refine Wz (.b true) (Oq hq160_19 rfl) <| Wm (.i r135_18) rfl <| Wm (.i r114_14) rfl <| Wz (.b (decide (r135_18 ≠ r114_14))) (Obn rfl (fun _ => hb_neq (k := .i64))) <| Wz (.b (decide (r135_18 ≠ r114_14))) (OpT rfl) <| Wz (.b (decide (r135_18 ≠ r114_14))) (OpF rfl) <| Wdr <| Tk 46768052394588893382517914646921056628989841621026 7 ⟨tp 1 (.l enc_GTurn_ p1::tp 3 (.loc 0 0::tp 8 (.i y14_9::.l (encL enc_GChange) y5_d_0_1_9::.i r114_14::.i y17_16::tp 147 (.b (decide (r135_18 ≠ r114_14))::tp 1 [])))), [(.box [(.i r112_13.1.net.Cap), (.l (encL enc_GChange) r112_13.1.net.Views), (.l (encL enc_GChange) r112_13.1.net.Pending), (.d (.mp (Option.isNone r112_13.1.net.Links) (mks kv_22 (ml r112_13.1.net.Links)) (mds (slD (encL enc_GChange)) (ml r112_13.1.net.Links)))), (.own 1), (.own 2)]), (Ar 72 1 enc_GBook r112_13.2), (.arr 3 1 (List.length r112_13.1.things) (flatD (encI .i64) r112_13.1.things))], 0⟩ ?_
                  rcases tf_ (decide (r135_18 ≠ r114_14)) with hc165_30 | hc165_30
                  ·
                   replace hm := cT hc165_30 hm
                   refine AiT hc165_30 <| Sx <| Wm (.b false) rfl <| Nn <| Rt <| Ir <| Tr <| RoundK.ret <| Ir <| Ir <| Tr <| RoundK.ret <| Ir <| Tr ?_
                   obtain rfl := Option.some.inj hm
                   exact ret_i []
                  ·
                   replace hm := cF hc165_30 hm
                   refine AiF hc165_30 <| Sk <| Ino <| Tk 245794 7 ⟨tp 1 (.l enc_GTurn_ p1::tp 3 (.loc 0 0::tp 8 (.i y14_9::.l (encL enc_GChange) y5_d_0_1_9::.i r114_14::.i y17_16::tp 149 []))), [(.box [(.i r112_13.1.net.Cap), (.l (encL enc_GChange) r112_13.1.net.Views), (.l (encL enc_GChange) r112_13.1.net.Pending), (.d (.mp (Option.isNone r112_13.1.net.Links) (mks kv_22 (ml r112_13.1.net.Links)) (mds (slD (encL enc_GChange)) (ml r112_13.1.net.Links)))), (.own 1), (.own 2)]), (Ar 72 1 enc_GBook r112_13.2), (.arr 3 1 (List.length r112_13.1.things) (flatD (encI .i64) r112_13.1.things))], 0⟩ <| Tx <| Wm (.i y17_16) rfl <| Wz (.i (W6 (y17_16 + 1))) (Obn rfl (fun _ => hb_add (k := .i64))) <| Wm (.i (W6 (y17_16 + 1))) rfl <| Wn0 <| RoundK.normal ?_
                   exact Rounds.weak (Weak.toK 245794 0 0 [0, 1, 2]) (ih_16 (fu_16, (W6 (y17_16 + 1))) hm (Nat.lt_succ_self _))
                 ·
                  replace hm := cF hq160_19 hm
                  refine Wz (.b false) (Oq hq160_19 rfl) <| Wn <| Wn <| Wn <| Wz (.b false) (OpF rfl) <| Wz (.b false) (OpF rfl) <| Wdr <| Tk 46768052394588893382517914646921056628989841621026 7 ⟨tp 1 (.l enc_GTurn_ p1::tp 3 (.loc 0 0::tp 8 (.i y14_9::.l (encL enc_GChange) y5_d_0_1_9::.i r114_14::.i y17_16::tp 147 (.b false::tp 1 [])))), [(.box [(.i r112_13.1.net.Cap), (.l (encL enc_GChange) r112_13.1.net.Views), (.l (encL enc_GChange) r112_13.1.net.Pending), (.d (.mp (Option.isNone r112_13.1.net.Links) (mks kv_22 (ml r112_13.1.net.Links)) (mds (slD (encL enc_GChange)) (ml r112_13.1.net.Links)))), (.own 1), (.own 2)]), (Ar 72 1 enc_GBook r112_13.2), (.arr 3 1 (List.length r112_13.1.things) (flatD (encI .i64) r112_13.1.things))], 0⟩ <| AWP.if_ false (by kernel_rfl) <| Sk <| Ino <| Tk 245794 7 ⟨tp 1 (.l enc_GTurn_ p1::tp 3 (.loc 0 0::tp 8 (.i y14_9::.l (encL enc_GChange) y5_d_0_1_9::.i r114_14::.i y17_16::tp 149 []))), [(.box [(.i r112_13.1.net.Cap), (.l (encL enc_GChange) r112_13.1.net.Views), (.l (encL enc_GChange) r112_13.1.net.Pending), (.d (.mp (Option.isNone r112_13.1.net.Links) (mks kv_22 (ml r112_13.1.net.Links)) (mds (slD (encL enc_GChange)) (ml r112_13.1.net.Links)))), (.own 1), (.own 2)]), (Ar 72 1 enc_GBook r112_13.2), (.arr 3 1 (List.length r112_13.1.things) (flatD (encI .i64) r112_13.1.things))], 0⟩ <| Tx <| Wm (.i y17_16) rfl ?_
                  refine Wz (.i (W6 (y17_16 + 1))) (Obn rfl (fun _ => hb_add (k := .i64))) <| Wm (.i (W6 (y17_16 + 1))) rfl <| Wn0 <| RoundK.normal ?_
                  exact Rounds.weak (Weak.toK 245794 0 0 [0, 1, 2]) (ih_16 (fu_16, (W6 (y17_16 + 1))) hm (Nat.lt_succ_self _))
              ·
               replace hm := cF hc127_29 hm
               refine AiF hc127_29 <| AWP.exit <| Then.exit <| RoundK.exit <| InBlock.same <| Ino <| Tk 16418 7 ⟨tp 1 (.l enc_GTurn_ p1::tp 3 (.loc 0 0::tp 8 (.i y14_9::tp 152 []))), [(.box [(.i r112_13.1.net.Cap), (.l (encL enc_GChange) r112_13.1.net.Views), (.l (encL enc_GChange) r112_13.1.net.Pending), (.d (.mp (Option.isNone r112_13.1.net.Links) (mks kv_22 (ml r112_13.1.net.Links)) (mds (slD (encL enc_GChange)) (ml r112_13.1.net.Links)))), (.own 1), (.own 2)]), (Ar 72 1 enc_GBook r112_13.2), (.arr 3 1 (List.length r112_13.1.things) (flatD (encI .i64) r112_13.1.things))], 0⟩ <| Tx <| Wm (.i y14_9) rfl <| Wz (.i (W6 (y14_9 + 1))) (Obn rfl (fun _ => hb_add (k := .i64))) <| Wm (.i (W6 (y14_9 + 1))) rfl <| Wn0 <| RoundK.normal ?_
               exact Rounds.weak (Weak.toK 16418 0 0 [0, 1, 2]) (ih_9 (fu_9, r112_13.1.net.Cap, r112_13.1.net.Views, r112_13.1.net.Pending, r112_13.1.net.Links, r112_13.2, r112_13.1.things, (W6 (y14_9 + 1))) hm (Nat.lt_succ_self _))
          ·
           replace hm := cF hc92_26 hm
           refine AiF hc92_26 <| AWP.exit <| Then.exit <| RoundK.exit <| InBlock.same <| Tk 0 0 ⟨tp 167 [], [.gone, .gone, .gone], 0⟩ <| Sx ?_
           obtain ⟨r166_21, hr166_21, hm⟩ := bnd hm
           refine Wz (.b r166_21) (Ocf [] [] [] 0 (ok_w29_awake  r166_21 hr166_21) (fun a w => Try.call7 a w) rfl trivial) <| Wm (.b r166_21) rfl <| Nn <| Rt ?_
           obtain rfl := Option.some.inj hm
           exact ret_i []
end Go.Proofs.Ytcpageegmpjkiaa.K

namespace Go.Proofs.Ytcpageegmpjkiaa.K
section
variable {K V : Type} [DecidableEq K]
theorem look_put : ∀ (l : List (K × V)) (k k' : K) (v : V), mlook (mput l k v) k' = if k = k' then some v else mlook l k'
  | [], k, k', v => by simp [mput, mlook]
  | p :: l, k, k', v => by
    have ih := look_put l k k' v
    unfold mput
    by_cases h : p.1 = k
    · rw [if_pos h]
      by_cases h2 : k = k'
      · simp [mlook, h2]
      · simp [mlook, h2, h]
    · rw [if_neg h]
      by_cases h2 : p.1 = k'
      · have : ¬ k = k' := fun e => h (by rw [h2, e])
        simp [mlook, h2, this]
      · simp [mlook, h2, ih]
theorem put_keys : ∀ (l : List (K × V)) (k : K) (v : V), (mput l k v).map (·.1) = if k ∈ l.map (·.1) then l.map (·.1) else l.map (·.1) ++ [k]
  | [], k, v => by simp [mput]
  | p :: l, k, v => by
    have ih := put_keys l k v
    unfold mput
    by_cases h : p.1 = k
    · rw [if_pos h]; simp [h]
    · rw [if_neg h]
      have h' : ¬ k = p.1 := fun e => h e.symm
      simp only [List.map_cons, ih, List.mem_cons, h', false_or]
      split <;> simp
theorem put_nodup {l : List (K × V)} (h : (l.map (·.1)).Nodup) (k : K) (v : V) : ((mput l k v).map (·.1)).Nodup := by
  rw [put_keys]
  split
  · exact h
  · rename_i hk
    rw [List.nodup_append]
    exact ⟨h, by simp, fun a ha b hb => by simp at hb; subst hb; exact fun e => hk (e ▸ ha)⟩
theorem put_mem : ∀ {l : List (K × V)} {k : K} {v : V} {p : K × V}, p ∈ mput l k v → p ∈ l ∨ p = (k, v)
  | [], k, v, p, h => by simp [mput] at h; exact .inr h
  | q :: l, k, v, p, h => by
    unfold mput at h
    split at h
    · rcases List.mem_cons.1 h with h | h
      · exact .inr h
      · exact .inl (by simp [h])
    · rcases List.mem_cons.1 h with h | h
      · exact .inl (by simp [h])
      · rcases put_mem h with h | h
        · exact .inl (by simp [h])
        · exact .inr h
theorem look_none {l : List (K × V)} {k : K} (h : k ∉ l.map (·.1)) : mlook l k = none := by
  induction l with
  | nil => rfl
  | cons p l ih =>
    simp only [List.map_cons, List.mem_cons, not_or] at h
    unfold mlook
    rw [if_neg (fun e => h.1 e.symm), ih h.2]
theorem mem_look : ∀ {l : List (K × V)}, (l.map (·.1)).Nodup → ∀ {p : K × V}, p ∈ l → mlook l p.1 = some p.2
  | q :: l, h, p, hp => by
    simp only [List.map_cons, List.nodup_cons] at h
    unfold mlook
    rcases List.mem_cons.1 hp with rfl | hp
    · rw [if_pos rfl]
    · rw [if_neg (fun e => h.1 (by rw [e]; exact List.mem_map_of_mem hp)), mem_look h.2 hp]
theorem del_sub : ∀ {l : List (K × V)} {k : K} {p : K × V}, p ∈ mdel l k → p ∈ l
  | q :: l, k, p, h => by
    unfold mdel at h
    split at h
    · simp [h]
    · rcases List.mem_cons.1 h with h | h
      · simp [h]
      · simp [del_sub h]
theorem del_keys : ∀ {l : List (K × V)} {k : K}, ((mdel l k).map (·.1)).Sublist (l.map (·.1))
  | [], k => by simp [mdel]
  | q :: l, k => by
    unfold mdel
    split
    · simp
    · simp only [List.map_cons]; exact del_keys.cons_cons _
theorem look_del : ∀ {l : List (K × V)}, (l.map (·.1)).Nodup → ∀ (k k' : K), mlook (mdel l k) k' = if k = k' then none else mlook l k'
  | [], h, k, k' => by simp [mdel, mlook]
  | q :: l, h, k, k' => by
    simp only [List.map_cons, List.nodup_cons] at h
    have ih := look_del h.2 k k'
    unfold mdel
    by_cases h1 : q.1 = k
    · rw [if_pos h1]
      by_cases h2 : k = k'
      · rw [if_pos h2, ← h2, ← h1]; exact look_none h.1
      · rw [if_neg h2]; simp [mlook, h1, h2]
    · rw [if_neg h1]
      by_cases h2 : q.1 = k'
      · have : ¬ k = k' := fun e => h1 (by rw [h2, e])
        simp [mlook, h2, this]
      · simp [mlook, h2, ih]
/-- A map's elements at a key: none, if there is no such key. -/
def lkA {α : Type} (l : List (K × List α)) (k : K) : List α := Option.getD (mlook l k) []
theorem lkA_put {α : Type} (l : List (K × List α)) (k k' : K) (v : List α) : lkA (mput l k v) k' = if k = k' then v else lkA l k' := by
  unfold lkA; rw [look_put]; split <;> rfl
theorem lkA_del {α : Type} {l : List (K × List α)} (h : (l.map (·.1)).Nodup) (k k' : K) : lkA (mdel l k) k' = if k = k' then [] else lkA l k' := by
  unfold lkA; rw [look_del h]; split <;> rfl
theorem meq_same {f : V → V → Option Bool} {l : List (K × V)} (h : (l.map (·.1)).Nodup) (hf : ∀ p ∈ l, f p.2 p.2 = some true) : meq f l l = some true := by
  unfold meq
  rw [if_pos rfl]
  have key : ∀ m : List (K × V), (∀ p ∈ m, p ∈ l) → mall f l m = some true := by
    intro m
    induction m with
    | nil => intro _; rfl
    | cons p m ih =>
      intro hm
      unfold mall mgood
      rw [mem_look h (hm p (by simp))]
      simp only []
      rw [hf p (hm p (by simp)), ih (fun q hq => hm q (by simp [hq]))]
      rfl
  exact key l fun _ h => h
end
end Go.Proofs.Ytcpageegmpjkiaa.K

namespace Go.Proofs.Ytcpageegmpjkiaa
open Go.ChangeShapes Go.WideShapes Go.ChangeAt Go.RowKit
open Go.ChangeMaps (open_string shut_string)

section
variable {H : Type} {enc : TypeId × Value → H} {P : Program}
theorem trodAll_lt {w : World} {base : Nat} {spare : Nat → Bool} {held : Bool} : ∀ {ts : List TypeId} {vs : List Value} {ds : List (DataW H)} {ps : List MemPlace},
    DataW.TrodAll enc P w base spare held ts vs ds ps → ∀ x ∈ ps, x.block < w.heap.size
  | [], _, _, _, h => by obtain ⟨_, _, rfl⟩ := trodAll_nil h; simp
  | t :: ts, _, _, _, h => by
    obtain ⟨v, vs, d, ds, p, q, rfl, rfl, rfl, h0, h1⟩ := trodAll_cons h
    intro x hx
    rcases List.mem_append.1 hx with hx | hx
    · obtain ⟨m, hm⟩ := h0; exact DataW.trod_lt m _ _ _ hm x hx
    · exact trodAll_lt h1 x hx
theorem trodAll_below (hl : laidOutB P = true) {W W' : World} (hb : Below W.heap.size W W') : ∀ {ts : List TypeId} {vs : List Value} {ds : List (DataW H)} {ps : List MemPlace},
    (ts.all fun t => P.readableRec t && decide (t < P.types.size)) = true → DataW.TrodAll enc P W 0 (fun _ => true) true ts vs ds ps → DataW.TrodAll enc P W' 0 (fun b => decide (b < W.heap.size)) true ts vs ds ps
  | [], _, _, _, _, h => by obtain ⟨rfl, rfl, rfl⟩ := trodAll_nil h; exact trodAll_mk0
  | t :: ts, _, _, _, ht, h => by
    have hlt := trodAll_lt h
    obtain ⟨v, vs, d, ds, p, q, rfl, rfl, rfl, h0, h1⟩ := trodAll_cons h
    simp only [List.all_cons, Bool.and_eq_true, decide_eq_true_eq] at ht
    exact trodAll_cons_mk (Below.trod hl ht.1.1 ht.1.2 h0 hb fun x hx => hlt x (by simp [hx])) (trodAll_below hl hb (by simpa using ht.2) h1)

variable {W : World} {base : Nat} {spare : Nat → Bool} {held : Bool} {t : TypeId} {v : Value} {d : DataW H} {ps : List MemPlace}
end
end Go.Proofs.Ytcpageegmpjkiaa

namespace Go.Proofs.Ytcpageegmpjkiaa.K
open Go.RowKit Go.Lib
def inK (k : IntKind) (n : Int) : Prop := (Lit.int k n).wf = true
def wfT {α : Type} (_ : α) : Prop := True
def wfL {α : Type} (q : α → Prop) (l : List α) : Prop := l.length ≤ maxLen ∧ ∀ x ∈ l, q x
section
variable {P : Program} {t e : TypeId} {ds : List D}
theorem td_int {k : IntKind} (hu : P.underlying t = some (.int k)) (h : TD P t ds) : ∃ n, ds = encI k n ∧ inK k n := TD.of_int hu h
theorem td_u8 (hu : P.underlying t = some (.int .u8)) (h : TD P t ds) : ∃ b : UInt8, ds = encU8 b ∧ wfT b := by
  obtain ⟨n, rfl, hw⟩ := TD.of_int hu h
  simp [Lit.wf, IntKind.min, IntKind.max, IntKind.signed, IntKind.bits] at hw
  refine ⟨UInt8.ofNat n.toNat, ?_, trivial⟩
  have : (((UInt8.ofNat n.toNat).toNat : Nat) : Int) = n := by
    have h2 : (UInt8.ofNat n.toNat).toNat = n.toNat % 256 := UInt8.toNat_ofNat
    rw [h2]; omega
  unfold encU8 byteD
  rw [this]
theorem td_slice {α : Type} {enc : α → List D} {q : α → Prop} (hu : P.underlying t = some (.slice e)) (he : ∀ {r}, TD P e r → ∃ x, r = enc x ∧ q x) (h : TD P t ds) : ∃ l : List α, ds = encL enc l ∧ wfL q l := by
  obtain ⟨l, rfl, h1, h2⟩ := TD.of_slice hu he h
  exact ⟨l, rfl, h1, h2⟩
end
theorem rep_1 {S : Nat → Prop} {w : World} {m : Mp} {x : D} {v : Value} {xs : List D} (h : RepD S w x v) (e : [x] = xs) {y : D} (hy : xs = [y]) : Rep m S w (.d y) v := by
  subst hy
  cases e
  exact rep_d h
theorem rep_ag {S : Nat → Prop} {w : World} {m : Mp} {ds : List D} {as' : List A} {cs : Array Value} (h : RepsD S w ds cs.toList) (e : ds.map A.d = as' := by rfl) : Rep m S w (.agg as') (.agg cs) := by
  subst e
  exact rep_agg (reps_of_repsD h)
end Go.Proofs.Ytcpageegmpjkiaa.K

namespace Go.Proofs.Ytcpageegmpjkiaa.K
open Go.RowKit Go.Lib
theorem w64 {n : Int} (h1 : -9223372036854775808 ≤ n) (h2 : n ≤ 9223372036854775807) : IntKind.i64.wrap n = n := by
  simp [IntKind.wrap, IntKind.signed, IntKind.bits]; omega
theorem wu64 (n : Int) : IntKind.u64.wrap n = n % 18446744073709551616 := K.wrap_u64 n
section
variable {α : Type} {l r : List α} {i n : Nat} {x : α}
/-- One further. -/
theorem inc_ok (h2 : i ≤ 9223372036854775806) : IntKind.i64.wrap ((i : Int) + 1) = ((i + 1 : Nat) : Int) := by
  rw [w64 (by omega) (by omega)]; omega
theorem geti_nat : geti l (i : Int) = l[i]? := by simp [geti]
theorem geti_lt (h : i < l.length) : geti l (i : Int) = some l[i] := by rw [geti_nat, List.getElem?_eq_getElem h]
theorem geti_0 {y : α} : geti (y :: l) 0 = some y := rfl
theorem app_ok (h : l.length + r.length ≤ 1000000000) : app l r = some (l ++ r) := if_pos h
theorem cut_ok {a b : Nat} (h1 : a ≤ b) (h2 : b ≤ l.length) : cut l (a : Int) (b : Int) = some ((l.drop a).take (b - a)) := by unfold cut; rw [if_pos (by omega)]; rfl
theorem obind_some {β : Type} {f : α → Option β} : Option.bind (some x) f = f x := rfl
theorem chk_ok {p : Prop} [Decidable p] {o : Option α} (h : p) : chk p o = o := if_pos h
theorem d_lt {a b : Int} (h : a < b) : decide (a < b) = true := decide_eq_true h
theorem d_nlt {a b : Int} (h : ¬ a < b) : decide (a < b) = false := decide_eq_false h
theorem drop_cons (h : i < l.length) : l.drop i = l[i] :: l.drop (i + 1) := List.drop_eq_getElem_cons h
end
/-- A loop that counts up to n: by what it comes to from place i on, in state s. -/
theorem loopG {σ R : Type} {L : Nat → σ → Int → Option R} {n : Nat} {P : Nat → σ → Option R → Prop} (hend : ∀ fu s, P n s (L (fu + 1) s (n : Int)))
    (hstep : ∀ fu s i, i < n → (∀ s', P (i + 1) s' (L fu s' ((i + 1 : Nat) : Int))) → P i s (L (fu + 1) s (i : Int))) : ∀ fu i s, i ≤ n → n - i < fu → P i s (L fu s (i : Int))
  | 0, i, s, _, h => by omega
  | fu + 1, i, s, h1, h2 => by
    rcases Nat.lt_or_ge i n with h | h
    · exact hstep fu s i h fun s' => loopG hend hstep fu (i + 1) s' (by omega) (by omega)
    · obtain rfl : i = n := by omega
      exact hend fu s
/-- The same without a state. -/
theorem loop1 {R : Type} {L : Nat → Int → Option R} {n : Nat} {P : Nat → Option R → Prop} (hend : ∀ fu, P n (L (fu + 1) (n : Int)))
    (hstep : ∀ fu i, i < n → P (i + 1) (L fu ((i + 1 : Nat) : Int)) → P i (L (fu + 1) (i : Int))) (fu i : Nat) (h1 : i ≤ n) (h2 : n - i < fu) : P i (L fu (i : Int)) :=
  loopG (σ := Unit) (L := fun fu _ i => L fu i) (P := fun i _ o => P i o) (fun fu _ => hend fu) (fun fu _ i hi h => hstep fu i hi (h ())) fu i () h1 h2
/-- From the first place on. -/
theorem loop1_0 {R : Type} {L : Nat → Int → Option R} {n : Nat} {P : Nat → Option R → Prop} (hn : n < 1152921504606846976) (hend : ∀ fu, P n (L (fu + 1) (n : Int)))
    (hstep : ∀ fu i, i < n → P (i + 1) (L fu ((i + 1 : Nat) : Int)) → P i (L (fu + 1) (i : Int))) : P 0 (L 1152921504606846976 0) := loop1 hend hstep _ 0 (Nat.zero_le _) (by omega)
theorem loopG_0 {σ R : Type} {L : Nat → σ → Int → Option R} {n : Nat} {P : Nat → σ → Option R → Prop} (hn : n < 1152921504606846976) (hend : ∀ fu s, P n s (L (fu + 1) s (n : Int)))
    (hstep : ∀ fu s i, i < n → (∀ s', P (i + 1) s' (L fu s' ((i + 1 : Nat) : Int))) → P i s (L (fu + 1) s (i : Int))) (s : σ) : P 0 s (L 1152921504606846976 s 0) := loopG hend hstep _ 0 s (Nat.zero_le _) (by omega)
end Go.Proofs.Ytcpageegmpjkiaa.K

namespace Go.Proofs.Ytcpageegmpjkiaa.K
open Go.RowKit Go.Lib
section
variable {α : Type} {l p m q : List α} {x y : α} {i j : Int}
theorem geti_at (e : l = p ++ x :: q) (h : i = (p.length : Int)) : geti l i = some x := by
  subst e; subst h; rw [geti_nat]; simp
theorem set_at (e : l = p ++ x :: q) (h : i = (p.length : Int)) : l.set i.toNat y = p ++ y :: q := by
  subst e; subst h
  rw [Int.toNat_natCast, List.set_append_right _ _ (Nat.le_refl _), Nat.sub_self, List.set_cons_zero]
/-- Two elements are swapped: the first place is written first. -/
theorem swp (e : l = p ++ x :: (m ++ y :: q)) (hi : i = (p.length : Int)) (hj : j = (p.length : Int) + 1 + (m.length : Int)) :
    geti l i = some x ∧ geti l j = some y ∧ geti (l.set i.toNat y) j = some y ∧ (l.set i.toNat y).set j.toNat x = p ++ y :: (m ++ x :: q) := by
  have h1 := set_at (y := y) e hi
  have h2 : l = (p ++ x :: m) ++ y :: q := by rw [e]; simp
  have h3 : p ++ y :: (m ++ y :: q) = (p ++ y :: m) ++ y :: q := by simp
  refine ⟨geti_at e hi, geti_at h2 (by simp; omega), ?_, ?_⟩
  · rw [h1]; exact geti_at h3 (by simp; omega)
  · rw [h1, set_at (y := x) h3 (by simp; omega)]; simp
/-- The same, the second place being written first. -/
theorem swp' (e : l = p ++ x :: (m ++ y :: q)) (hi : i = (p.length : Int)) (hj : j = (p.length : Int) + 1 + (m.length : Int)) :
    geti l i = some x ∧ geti l j = some y ∧ geti (l.set j.toNat x) i = some x ∧ (l.set j.toNat x).set i.toNat y = p ++ y :: (m ++ x :: q) := by
  have h2 : l = (p ++ x :: m) ++ y :: q := by rw [e]; simp
  have h1 := set_at (y := x) h2 (i := j) (by simp; omega)
  have h3 : (p ++ x :: m) ++ x :: q = p ++ x :: (m ++ x :: q) := by simp
  refine ⟨geti_at e hi, geti_at h2 (by simp; omega), ?_, ?_⟩
  · rw [h1]; exact geti_at h3 hi
  · rw [h1, set_at (y := y) h3 hi]
end
theorem half_ok {i j : Nat} (h : i + j ≤ 1000000000000) : IntKind.i64.wrap (Int.fdiv (IntKind.u64.wrap (IntKind.i64.wrap ((i : Int) + (j : Int)))) (2 ^ 1)) = (((i + j) / 2 : Nat) : Int) := by
  rw [w64 (n := (i : Int) + (j : Int)) (by omega) (by omega), wu64, Int.emod_eq_of_lt (by omega) (by omega), Int.fdiv_eq_ediv_of_nonneg _ (by decide), w64 (by omega) (by omega)]
  omega
/-- A search by halves. -/
theorem half_loop {R : Type} {L : Nat → Int → Int → Option R} {K : Int → Option R} {Pd : Nat → Prop} [DecidablePred Pd] {lo hi : Nat}
    (hend : ∀ fu (i : Nat), L (fu + 1) (i : Int) (i : Int) = K (i : Int))
    (hstep : ∀ fu (i j : Nat), lo ≤ i → i < j → j ≤ hi → L (fu + 1) (i : Int) (j : Int) = if Pd ((i + j) / 2) then L fu (((i + j) / 2 + 1 : Nat) : Int) (j : Int) else L fu (i : Int) (((i + j) / 2 : Nat) : Int))
    (mono : ∀ c d, lo ≤ c → c ≤ d → d < hi → Pd d → Pd c) : ∀ (fu i j : Nat), lo ≤ i → i ≤ j → j ≤ hi → j - i < fu → (∀ c, lo ≤ c → c < i → Pd c) → (∀ c, j ≤ c → c < hi → ¬ Pd c) →
      ∃ s : Nat, lo ≤ s ∧ s ≤ hi ∧ L fu (i : Int) (j : Int) = K (s : Int) ∧ (∀ c, lo ≤ c → c < s → Pd c) ∧ (∀ c, s ≤ c → c < hi → ¬ Pd c)
  | 0, i, j, _, _, _, h, _, _ => by omega
  | fu + 1, i, j, h1, h2, h3, h4, ha, hb => by
    by_cases hij : i = j
    · subst hij; exact ⟨i, h1, h3, hend fu i, ha, hb⟩
    · rw [hstep fu i j h1 (by omega) h3]
      by_cases hp : Pd ((i + j) / 2)
      · rw [if_pos hp]
        exact half_loop hend hstep mono fu _ j (by omega) (by omega) h3 (by omega) (fun c hc1 hc2 => mono c ((i + j) / 2) hc1 (by omega) (by omega) hp) hb
      · rw [if_neg hp]
        exact half_loop hend hstep mono fu i _ h1 (by omega) (by omega) (by omega) ha (fun c hc1 hc2 hc => hp (mono _ c (by omega) hc1 hc2 hc))
/-! ### order -/
/-- What tells an order: less is never both ways, and not less goes on from one to the next. -/
structure Ord {α : Type} (Q : α → Prop) (lt : α → α → Prop) : Prop where
  asym : ∀ x y, Q x → Q y → lt x y → ¬ lt y x
  trans : ∀ x y z, Q x → Q y → Q z → ¬ lt y x → ¬ lt z y → ¬ lt z x
section
variable {α : Type} {Q : α → Prop} {lt : α → α → Prop} (O : Ord Q lt)
/-- In order: none is less than one ahead of it. -/
def Srt (lt : α → α → Prop) (l : List α) : Prop := l.Pairwise fun x y => ¬ lt y x
theorem Srt.app {a b : List α} : Srt lt (a ++ b) ↔ Srt lt a ∧ Srt lt b ∧ ∀ x ∈ a, ∀ y ∈ b, ¬ lt y x := List.pairwise_append
theorem Srt.one (x : α) : Srt lt [x] := List.pairwise_singleton _ _
theorem Srt.nil : Srt lt ([] : List α) := List.Pairwise.nil
theorem Srt.at {l : List α} (h : Srt lt l) {i j : Nat} (hij : i < j) (hj : j < l.length) : ¬ lt l[j] l[i] := (List.pairwise_iff_getElem.1 h) i j _ _ hij
include O in
theorem Srt.at' {l : List α} (h : Srt lt l) (hq : ∀ x ∈ l, Q x) {i j : Nat} (hij : i ≤ j) (hj : j < l.length) : ¬ lt l[j] (l[i]'(by omega)) := by
  rcases Nat.lt_or_ge i j with h1 | h1
  · exact h.at h1 hj
  · have : i = j := by omega
    subst this
    intro hl
    exact O.asym _ _ (hq _ (List.getElem_mem _)) (hq _ (List.getElem_mem _)) hl hl
/-- In chunks of k, each in order. -/
inductive Chunks (lt : α → α → Prop) (k : Nat) : List α → Prop
  | last (l : List α) : l.length ≤ k → Srt lt l → Chunks lt k l
  | cons (c l : List α) : c.length = k → Srt lt c → Chunks lt k l → Chunks lt k (c ++ l)
theorem Chunks.split {k : Nat} {l : List α} (h : Chunks lt k l) (hk : k ≤ l.length) : ∃ c r, l = c ++ r ∧ c.length = k ∧ Srt lt c ∧ Chunks lt k r := by
  cases h with
  | last l h1 h2 => exact ⟨l, [], by simp, by omega, h2, .last _ (by simp) Srt.nil⟩
  | cons c l h1 h2 h3 => exact ⟨c, l, rfl, h1, h2, h3⟩
theorem Chunks.all {k : Nat} {l : List α} (h : Chunks lt k l) (hk : l.length ≤ k) : Srt lt l := by
  cases h with
  | last l h1 h2 => exact h2
  | cons c l h1 h2 h3 =>
    have : l = [] := List.eq_nil_of_length_eq_zero (by simp at hk; omega)
    subst this; rw [List.append_nil]; exact h2
/-- One more put into its place: behind all that it is not less than. -/
def insS (lt : α → α → Prop) [DecidableRel lt] (s : List α) (x : α) : List α := s.takeWhile (fun y => !decide (lt x y)) ++ x :: s.dropWhile (fun y => !decide (lt x y))
def isort (lt : α → α → Prop) [DecidableRel lt] (l : List α) : List α := l.foldl (insS lt) []
variable [DecidableRel lt]
theorem insS_perm (s : List α) (x : α) : (insS lt s x).Perm (s ++ [x]) := by
  have e : s = s.takeWhile (fun y => !decide (lt x y)) ++ s.dropWhile (fun y => !decide (lt x y)) := (List.takeWhile_append_dropWhile).symm
  unfold insS
  conv => rhs; rw [e, List.append_assoc]
  exact List.Perm.append_left _ (List.perm_append_singleton _ _).symm
theorem fold_perm : ∀ (l s : List α), (l.foldl (insS lt) s).Perm (s ++ l)
  | [], s => by simp
  | x :: l, s => by
    rw [List.foldl_cons]
    refine (fold_perm l _).trans ?_
    have := (insS_perm (lt := lt) s x).append_right l
    simpa using this
theorem isort_perm (l : List α) : (isort lt l).Perm l := by simpa [isort] using fold_perm (lt := lt) l []
theorem tw_all (s : List α) (x : α) : ∀ y ∈ s.takeWhile (fun y => !decide (lt x y)), ¬ lt x y := by
  induction s with
  | nil => simp
  | cons z s ih =>
    intro y hy
    rw [List.takeWhile_cons] at hy
    split at hy
    · rcases List.mem_cons.1 hy with rfl | hy
      · rename_i hz; simpa using hz
      · exact ih y hy
    · simp at hy
include O in
theorem dw_all {s : List α} {x : α} (hs : Srt lt s) (hq : ∀ y ∈ s, Q y) (hx : Q x) : ∀ y ∈ s.dropWhile (fun y => !decide (lt x y)), lt x y := by
  induction s with
  | nil => simp
  | cons z s ih =>
    intro y hy
    rw [List.dropWhile_cons] at hy
    have hs' := List.pairwise_cons.1 hs
    split at hy
    · exact ih hs'.2 (fun y h => hq y (by simp [h])) y hy
    · rename_i hz
      have hz : lt x z := by simpa using hz
      rcases List.mem_cons.1 hy with rfl | hy
      · exact hz
      · refine Classical.byContradiction fun hn => ?_
        exact O.trans z y x (hq z (by simp)) (hq y (by simp [hy])) hx (hs'.1 y hy) hn hz
include O in
theorem insS_srt {s : List α} {x : α} (hs : Srt lt s) (hq : ∀ y ∈ s, Q y) (hx : Q x) : Srt lt (insS lt s x) := by
  have e : s = s.takeWhile (fun y => !decide (lt x y)) ++ s.dropWhile (fun y => !decide (lt x y)) := (List.takeWhile_append_dropWhile).symm
  have h := hs
  rw [e, Srt.app] at h
  unfold insS
  rw [Srt.app]
  refine ⟨h.1, List.pairwise_cons.2 ⟨fun y hy => ?_, h.2.1⟩, fun a ha b hb => ?_⟩
  · have h1 := dw_all O hs hq hx y hy
    exact fun h2 => O.asym x y hx (hq y (List.dropWhile_sublist _ |>.subset hy)) h1 h2
  · rcases List.mem_cons.1 hb with rfl | hb
    · exact tw_all s b a ha
    · exact h.2.2 a ha b hb
include O in
theorem fold_srt : ∀ (l s : List α), Srt lt s → (∀ y ∈ s, Q y) → (∀ y ∈ l, Q y) → Srt lt (l.foldl (insS lt) s)
  | [], s, h, _, _ => h
  | x :: l, s, h, hs, hl => by
    rw [List.foldl_cons]
    refine fold_srt l _ (insS_srt O h hs (hl x (by simp))) (fun y hy => ?_) (fun y hy => hl y (by simp [hy]))
    have := (insS_perm (lt := lt) s x).mem_iff.1 hy
    rcases List.mem_append.1 this with h1 | h1
    · exact hs y h1
    · simp only [List.mem_singleton] at h1; subst h1; exact hl y (by simp)
include O in
theorem isort_srt {l : List α} (hl : ∀ y ∈ l, Q y) : Srt lt (isort lt l) := fold_srt O l [] Srt.nil (by simp) hl
end
section
variable {α : Type} {pd : α → Prop} {B : List α} {k : Nat} {d : α}
theorem take_pd (h : ∀ t, t < k → pd (B.getD t d)) (hk : k ≤ B.length) : ∀ z ∈ B.take k, pd z := fun z hz => by
  obtain ⟨t, ht, rfl⟩ := List.mem_iff_getElem.1 hz
  simp only [List.length_take] at ht
  have := h t (by omega)
  rw [List.getD_eq_getElem?_getD, List.getElem?_eq_getElem (by omega)] at this
  simpa using this
theorem drop_pd (h : ∀ t, k ≤ t → t < B.length → pd (B.getD t d)) : ∀ z ∈ B.drop k, pd z := fun z hz => by
  obtain ⟨t, ht, rfl⟩ := List.mem_iff_getElem.1 hz
  simp only [List.length_drop] at ht
  have := h (k + t) (by omega) (by omega)
  rw [List.getD_eq_getElem?_getD, List.getElem?_eq_getElem (by omega)] at this
  simpa using this
theorem getD_lt {t : Nat} (h : t < B.length) : B.getD t d = B[t] := by
  rw [List.getD_eq_getElem?_getD, List.getElem?_eq_getElem h]; rfl
/-- An element of the second list, by its place. -/
theorem geti_snd {P A R : List α} {i : Int} {t : Nat} (ht : t < A.length) (hi : i = (P.length : Int) + t) : geti (P ++ (A ++ R)) i = some (A.getD t d) := by
  rw [getD_lt ht]
  have e : P ++ (A ++ R) = (P ++ A.take t) ++ A[t] :: (A.drop (t + 1) ++ R) := by
    have e0 : A = A.take t ++ A[t] :: A.drop (t + 1) := by rw [← List.drop_eq_getElem_cons ht, List.take_append_drop]
    conv => lhs; rw [e0]
    simp only [List.append_assoc, List.cons_append]
  exact geti_at e (by simp; omega)
theorem geti_trd {P A B R : List α} {i : Int} {t : Nat} (ht : t < B.length) (hi : i = (P.length : Int) + A.length + t) : geti (P ++ (A ++ (B ++ R))) i = some (B.getD t d) := by
  have := geti_snd (P := P ++ A) (A := B) (R := R) (d := d) (i := i) ht (by simp; omega)
  rwa [List.append_assoc] at this
end
abbrev ltc {α : Type} (c : α → α → Int) : α → α → Prop := fun x y => c x y < 0
instance {α : Type} (c : α → α → Int) : DecidableRel (ltc c) := fun x y => inferInstanceAs (Decidable (c x y < 0))
theorem insS_snoc {α : Type} {lt : α → α → Prop} [DecidableRel lt] {s : List α} {x y : α} (h : lt x y) : insS lt (s ++ [y]) x = insS lt s x ++ [y] := by
  unfold insS
  rw [List.takeWhile_append, List.dropWhile_append]
  by_cases ha : (s.takeWhile fun y => !decide (lt x y)).length = s.length
  · have hd : s.dropWhile (fun y => !decide (lt x y)) = [] := by
      have e := congrArg List.length (List.takeWhile_append_dropWhile (p := fun y => !decide (lt x y)) (l := s))
      rw [List.length_append] at e
      exact List.eq_nil_of_length_eq_zero (by omega)
    have ht : s.takeWhile (fun y => !decide (lt x y)) = s := by
      have e := List.takeWhile_append_dropWhile (p := fun y => !decide (lt x y)) (l := s)
      rwa [hd, List.append_nil] at e
    rw [if_pos ha, hd, ht]
    simp [h]
  · have hd : (s.dropWhile fun y => !decide (lt x y)).isEmpty = false := by
      cases hq : s.dropWhile (fun y => !decide (lt x y)) with
      | nil =>
        exfalso; apply ha
        have e := List.takeWhile_append_dropWhile (p := fun y => !decide (lt x y)) (l := s)
        rw [hq, List.append_nil] at e
        rw [e]
      | cons a b => rfl
    rw [if_neg ha, hd]
    simp
theorem tw_self {α : Type} {p : α → Bool} : ∀ {s : List α}, (∀ z ∈ s, p z = true) → s.takeWhile p = s
  | [], _ => rfl
  | x :: s, h => by rw [List.takeWhile_cons, if_pos (h x (by simp)), tw_self fun z hz => h z (by simp [hz])]
theorem dw_nil {α : Type} {p : α → Bool} : ∀ {s : List α}, (∀ z ∈ s, p z = true) → s.dropWhile p = []
  | [], _ => rfl
  | x :: s, h => by rw [List.dropWhile_cons, if_pos (h x (by simp)), dw_nil fun z hz => h z (by simp [hz])]
theorem insS_end {α : Type} {lt : α → α → Prop} [DecidableRel lt] {s : List α} {x : α} (h : ∀ z ∈ s, ¬ lt x z) : insS lt s x = s ++ [x] := by
  unfold insS
  have ht : s.takeWhile (fun y => !decide (lt x y)) = s := by
    exact tw_self fun z hz => by simp [h z hz]
  have hd : s.dropWhile (fun y => !decide (lt x y)) = [] := by
    exact dw_nil fun z hz => by simp [h z hz]
  rw [ht, hd]
end Go.Proofs.Ytcpageegmpjkiaa.K

namespace Go.Proofs.Ytcpageegmpjkiaa.K
open Go.RowKit Go.Lib
namespace m_tally_order_sort
theorem swr_l {P M post : List GChange} : ∀ (X2 Y2 X1 Y1 : List GChange) (fu : Nat) (n b : Int), X2.length = Y2.length → X1.length = Y1.length → X2.length < fu → n = (X1.length : Int) + X2.length → b = (P.length : Int) + n + M.length → b + n ≤ 1000000000 →
    m_slices_swapRangeCmpFunc_tally_Change__tally_order_l0 (P.length : Int) b n fu (P ++ (Y1 ++ (X2 ++ (M ++ (X1 ++ (Y2 ++ post)))))) (X1.length : Int) = some (P ++ (Y1 ++ (Y2 ++ (M ++ (X1 ++ (X2 ++ post))))))
  | _, _, _, _, 0, _, _, _, _, h, _, _, _ => by omega
  | [], Y2, X1, Y1, fu + 1, n, b, h1, h2, h3, hn, hb, hB => by
    obtain rfl : Y2 = [] := List.eq_nil_of_length_eq_zero (by simpa using h1.symm)
    unfold m_slices_swapRangeCmpFunc_tally_Change__tally_order_l0
    simp only [List.length_nil] at hn
    rw [d_nlt (by omega), cond_false]
  | x :: X2, [], X1, Y1, fu + 1, n, b, h1, h2, h3, hn, hb, hB => by simp at h1
  | x :: X2, y :: Y2, X1, Y1, fu + 1, n, b, h1, h2, h3, hn, hb, hB => by
    simp only [List.length_cons] at h1 h3 hn
    have e : P ++ (Y1 ++ (x :: X2 ++ (M ++ (X1 ++ (y :: Y2 ++ post))))) = (P ++ Y1) ++ x :: ((X2 ++ (M ++ X1)) ++ y :: (Y2 ++ post)) := by simp
    obtain ⟨k1, k2, k3, k4⟩ := swp (i := (P.length : Int) + (X1.length : Int)) (j := b + (X1.length : Int)) e (by simp; omega) (by simp; omega)
    unfold m_slices_swapRangeCmpFunc_tally_Change__tally_order_l0
    rw [d_lt (by omega), cond_true, w64 (n := b + (X1.length : Int)) (by omega) (by omega), w64 (n := (P.length : Int) + (X1.length : Int)) (by omega) (by omega), k2, obind_some, k1, obind_some, obind_some, k3, obind_some, k4, inc_ok (by omega)]
    have ih := swr_l (P := P) (M := M) (post := post) X2 Y2 (X1 ++ [x]) (Y1 ++ [y]) fu n b (by omega) (by simp; omega) (by omega) (by simp; omega) hb hB
    have e2 : (P ++ Y1) ++ y :: ((X2 ++ (M ++ X1)) ++ x :: (Y2 ++ post)) = P ++ (Y1 ++ [y] ++ (X2 ++ (M ++ (X1 ++ [x] ++ (Y2 ++ post))))) := by simp
    have e3 : (((X1 ++ [x]).length : Nat) : Int) = ((X1.length + 1 : Nat) : Int) := by simp
    rw [e2]
    rw [e3] at ih
    rw [ih]; simp
theorem swr {P X M Y post : List GChange} {b n a : Int} (h : X.length = Y.length) (ha : a = (P.length : Int)) (hn : n = (X.length : Int)) (hb : b = (P.length : Int) + X.length + M.length) (hB : b + n ≤ 1000000000) :
    m_slices_swapRangeCmpFunc_tally_Change__tally_order (P ++ (X ++ (M ++ (Y ++ post)))) a b n = some (P ++ (Y ++ (M ++ (X ++ post)))) := by
  subst ha
  unfold m_slices_swapRangeCmpFunc_tally_Change__tally_order
  have := swr_l (P := P) (M := M) (post := post) X Y [] [] 1152921504606846976 n b h rfl (by omega) (by simpa using hn) (by omega) hB
  simpa using this
theorem rot_l : ∀ (fu : Nat) (P A B post : List GChange) (p : Int), A ≠ [] → B ≠ [] → A.length + B.length < fu → p = (P.length : Int) + A.length → (P.length : Int) + A.length + B.length ≤ 500000000 →
    m_slices_rotateCmpFunc_tally_Change__tally_order_l0 p fu (P ++ (A ++ (B ++ post))) (A.length : Int) (B.length : Int) = some (P ++ (B ++ (A ++ post)))
  | 0, _, _, _, _, _, _, _, h, _, _ => by omega
  | fu + 1, P, A, B, post, p, hA, hB, hf, hp, hb => by
    have hA0 : 0 < A.length := List.length_pos_iff.2 hA
    have hB0 : 0 < B.length := List.length_pos_iff.2 hB
    unfold m_slices_rotateCmpFunc_tally_Change__tally_order_l0
    by_cases h1 : A.length = B.length
    · rw [decide_eq_false (by omega), cond_false, w64 (by omega) (by omega)]
      have := swr (P := P) (X := A) (M := []) (Y := B) (post := post) (a := p - (A.length : Int)) (b := p) (n := (A.length : Int)) h1 (by omega) rfl (by simp; omega) (by omega)
      simp only [List.nil_append] at this
      rw [this, obind_some]
    · rw [decide_eq_true (by omega), cond_true]
      by_cases h2 : B.length < A.length
      · rw [d_lt (by omega), cond_true, w64 (n := p - (A.length : Int)) (by omega) (by omega), w64 (n := (A.length : Int) - (B.length : Int)) (by omega) (by omega)]
        have eA : A = A.take B.length ++ A.drop B.length := (List.take_append_drop _ _).symm
        have l1 : (A.take B.length).length = B.length := by rw [List.length_take]; omega
        have l2 : (A.drop B.length).length = A.length - B.length := List.length_drop
        have := swr (P := P) (X := A.take B.length) (M := A.drop B.length) (Y := B) (post := post) (a := p - (A.length : Int)) (b := p) (n := (B.length : Int)) l1 (by omega) (by omega) (by omega) (by omega)
        have e : P ++ (A ++ (B ++ post)) = P ++ (A.take B.length ++ (A.drop B.length ++ (B ++ post))) := by conv => lhs; rw [eA]; simp only [List.append_assoc]
        rw [e, this, obind_some]
        have ih := rot_l fu (P ++ B) (A.drop B.length) (A.take B.length) post p (List.ne_nil_of_length_pos (by omega)) (List.ne_nil_of_length_pos (by omega)) (by omega) (by simp; omega) (by simp; omega)
        rw [l1, l2] at ih
        have e2 : P ++ (B ++ (A.drop B.length ++ (A.take B.length ++ post))) = P ++ B ++ (A.drop B.length ++ (A.take B.length ++ post)) := by simp
        rw [e2, show (A.length : Int) - (B.length : Int) = ((A.length - B.length : Nat) : Int) by omega, ih]
        conv => rhs; rw [eA]
        simp only [List.append_assoc]
      · rw [d_nlt (by omega), cond_false, w64 (n := p - (A.length : Int)) (by omega) (by omega), w64 (n := p + (B.length : Int)) (by omega) (by omega), w64 (n := p + (B.length : Int) - (A.length : Int)) (by omega) (by omega), w64 (n := (B.length : Int) - (A.length : Int)) (by omega) (by omega)]
        have eB : B = B.take (B.length - A.length) ++ B.drop (B.length - A.length) := (List.take_append_drop _ _).symm
        have l1 : (B.take (B.length - A.length)).length = B.length - A.length := by rw [List.length_take]; omega
        have l2 : (B.drop (B.length - A.length)).length = A.length := by rw [List.length_drop]; omega
        have := swr (P := P) (X := A) (M := B.take (B.length - A.length)) (Y := B.drop (B.length - A.length)) (post := post) (a := p - (A.length : Int)) (b := p + (B.length : Int) - (A.length : Int)) (n := (A.length : Int)) (by omega) (by omega) (by omega) (by omega) (by omega)
        have e : P ++ (A ++ (B ++ post)) = P ++ (A ++ (B.take (B.length - A.length) ++ (B.drop (B.length - A.length) ++ post))) := by conv => lhs; rw [eB]; simp only [List.append_assoc]
        rw [e, this, obind_some]
        have ih := rot_l fu P (B.drop (B.length - A.length)) (B.take (B.length - A.length)) (A ++ post) p (List.ne_nil_of_length_pos (by omega)) (List.ne_nil_of_length_pos (by omega)) (by omega) (by omega) (by omega)
        rw [l1, l2] at ih
        rw [show (B.length : Int) - (A.length : Int) = ((B.length - A.length : Nat) : Int) by omega, ih]
        conv => rhs; rw [eB]
        simp only [List.append_assoc]
theorem rot {P A B post : List GChange} {a p b : Int} (hA : A ≠ []) (hB : B ≠ []) (ha : a = (P.length : Int)) (hp : p = (P.length : Int) + A.length) (hb : b = (P.length : Int) + A.length + B.length) (hx : b ≤ 500000000) :
    m_slices_rotateCmpFunc_tally_Change__tally_order (P ++ (A ++ (B ++ post))) a p b = some (P ++ (B ++ (A ++ post))) := by
  unfold m_slices_rotateCmpFunc_tally_Change__tally_order
  rw [w64 (n := p - a) (by omega) (by omega), w64 (n := b - p) (by omega) (by omega), show p - a = (A.length : Int) by omega, show b - p = (B.length : Int) by omega]
  exact rot_l _ P A B post p hA hB (by omega) hp (by omega)
/-! ### one is moved -/
theorem mv_up {x : GChange} {post : List GChange} : ∀ (Y : List GChange) (fu : Nat) (P : List GChange) (k : Int), Y.length < fu → k = (P.length : Int) + Y.length + 1 → k ≤ 500000000 → m_slices_symMergeCmpFunc_tally_Change__tally_order_l4 k fu (P ++ x :: (Y ++ post)) (P.length : Int) = some (P ++ (Y ++ x :: post))
  | _, 0, _, _, h, _, _ => by omega
  | [], fu + 1, P, k, hf, hk, hb => by
    unfold m_slices_symMergeCmpFunc_tally_Change__tally_order_l4
    simp only [List.length_nil] at hk
    rw [w64 (n := k - 1) (by omega) (by omega), d_nlt (by omega), cond_false]; rfl
  | y :: Y, fu + 1, P, k, hf, hk, hb => by
    simp only [List.length_cons] at hk hf
    obtain ⟨k1, k2, k3, k4⟩ := swp (l := P ++ x :: (y :: Y ++ post)) (p := P) (x := x) (m := []) (y := y) (q := Y ++ post) (i := (P.length : Int)) (j := (P.length : Int) + 1) rfl rfl (by simp)
    unfold m_slices_symMergeCmpFunc_tally_Change__tally_order_l4
    rw [w64 (n := k - 1) (by omega) (by omega), d_lt (by omega), cond_true, w64 (n := (P.length : Int) + 1) (by omega) (by omega), k2, obind_some, k1, obind_some, obind_some, k3, obind_some, k4]
    have ih := mv_up (x := x) (post := post) Y fu (P ++ [y]) k (by omega) (by simp; omega) hb
    rw [show (((P ++ [y]).length : Nat) : Int) = (P.length : Int) + 1 by simp] at ih
    simp only [List.append_assoc, List.cons_append, List.nil_append] at ih ⊢
    exact ih
theorem mv_dn {x : GChange} {P : List GChange} : ∀ (n : Nat) (Y post : List GChange) (fu : Nat) (k : Int), Y.length = n → n < fu → k = (P.length : Int) + n → k ≤ 500000000 → m_slices_symMergeCmpFunc_tally_Change__tally_order_l10 (P.length : Int) fu (P ++ (Y ++ x :: post)) k = some (P ++ x :: (Y ++ post))
  | _, _, _, 0, _, _, h, _, _ => by omega
  | 0, Y, post, fu + 1, k, hn, hf, hk, hb => by
    obtain rfl : Y = [] := List.eq_nil_of_length_eq_zero hn
    unfold m_slices_symMergeCmpFunc_tally_Change__tally_order_l10
    rw [d_nlt (by omega), cond_false]; rfl
  | n + 1, Y, post, fu + 1, k, hn, hf, hk, hb => by
    obtain ⟨Z, y, rfl⟩ : ∃ Z y, Y = Z ++ [y] := ⟨Y.dropLast, Y.getLast (List.ne_nil_of_length_pos (by omega)), (List.dropLast_concat_getLast _).symm⟩
    simp only [List.length_append, List.length_singleton] at hn
    have e : P ++ (Z ++ [y] ++ x :: post) = (P ++ Z) ++ y :: ([] ++ x :: post) := by simp
    obtain ⟨k1, k2, k3, k4⟩ := swp' (i := k - 1) (j := k) e (by simp; omega) (by simp; omega)
    unfold m_slices_symMergeCmpFunc_tally_Change__tally_order_l10
    rw [d_lt (by omega), cond_true, w64 (n := k - 1) (by omega) (by omega), k1, obind_some, k2, obind_some, obind_some, k3, obind_some, k4]
    have ih := mv_dn (x := x) (P := P) n Z (y :: post) fu (k - 1) (by omega) (by omega) (by omega) (by omega)
    simp only [List.append_assoc, List.cons_append, List.nil_append] at ih ⊢
    exact ih
/-! ### insertion -/
section
variable {Q : GChange → Prop} {c : GChange → GChange → Int} (hc : ∀ x y, Q x → Q y → m_tally_order x y = some (c x y)) (O : Ord Q (ltc c))
include hc O
theorem ins_in {x : GChange} {P : List GChange} {k : List GChange → Int → Option (List GChange)} {y8 : Int} (hx : Q x) : ∀ (n : Nat) (S rest : List GChange) (fu : Nat) (j : Int), S.length = n → n < fu → j = (P.length : Int) + n → j ≤ 500000000 → Srt (ltc c) S → (∀ z ∈ S, Q z) →
    m_slices_insertionSortCmpFunc_tally_Change__tally_order_l1 (P.length : Int) y8 k fu (P ++ (S ++ x :: rest)) j = k (P ++ (insS (ltc c) S x ++ rest)) (IntKind.i64.wrap (y8 + 1))
  | _, _, _, 0, _, _, h, _, _, _, _ => by omega
  | 0, S, rest, fu + 1, j, hn, hf, hj, hb, hs, hq => by
    obtain rfl : S = [] := List.eq_nil_of_length_eq_zero hn
    unfold m_slices_insertionSortCmpFunc_tally_Change__tally_order_l1
    rw [d_nlt (by omega), cond_false]; rfl
  | n + 1, S, rest, fu + 1, j, hn, hf, hj, hb, hs, hq => by
    obtain ⟨Z, y, rfl⟩ : ∃ Z y, S = Z ++ [y] := ⟨S.dropLast, S.getLast (List.ne_nil_of_length_pos (by omega)), (List.dropLast_concat_getLast _).symm⟩
    simp only [List.length_append, List.length_singleton] at hn
    have e : P ++ (Z ++ [y] ++ x :: rest) = (P ++ Z) ++ y :: ([] ++ x :: rest) := by simp
    obtain ⟨k1, k2, k3, k4⟩ := swp' (i := j - 1) (j := j) e (by simp; omega) (by simp; omega)
    have hs' := Srt.app.1 hs
    have hy : Q y := hq y (by simp)
    unfold m_slices_insertionSortCmpFunc_tally_Change__tally_order_l1
    rw [d_lt (by omega), cond_true, w64 (n := j - 1) (by omega) (by omega), k2, obind_some, k1, obind_some, hc x y hx hy, obind_some]
    by_cases hl : c x y < 0
    · rw [d_lt hl, cond_true, obind_some, obind_some, obind_some, k3, obind_some, k4, insS_snoc (lt := ltc c) hl]
      have ih := ins_in (P := P) (k := k) (y8 := y8) hx n Z (y :: rest) fu (j - 1) (by omega) (by omega) (by omega) (by omega) hs'.1 (fun z hz => hq z (by simp [hz]))
      simp only [List.append_assoc, List.cons_append, List.nil_append] at ih ⊢
      exact ih
    · rw [d_nlt hl, cond_false, insS_end fun z hz => ?_]
      · simp
      · rcases List.mem_append.1 hz with hz | hz
        · have h1 := hs'.2.2 z hz y (by simp)
          exact O.trans z y x (hq z (by simp [hz])) hy hx h1 hl
        · simp only [List.mem_singleton] at hz; subst hz; exact hl
theorem ins_out {P post : List GChange} {p2 : Int} : ∀ (T S : List GChange) (fu : Nat) (y8 : Int), T.length < fu → y8 = (P.length : Int) + S.length → p2 = (P.length : Int) + S.length + T.length → p2 ≤ 500000000 → Srt (ltc c) S → (∀ z ∈ S, Q z) → (∀ z ∈ T, Q z) →
    m_slices_insertionSortCmpFunc_tally_Change__tally_order_l0 (P.length : Int) p2 fu (P ++ (S ++ (T ++ post))) y8 = some (P ++ (T.foldl (insS (ltc c)) S ++ post))
  | _, _, 0, _, h, _, _, _, _, _, _ => by omega
  | [], S, fu + 1, y8, hf, h8, h2, hb, hs, hq, ht => by
    unfold m_slices_insertionSortCmpFunc_tally_Change__tally_order_l0
    simp only [List.length_nil] at h2
    rw [d_nlt (by omega), cond_false]; rfl
  | x :: T, S, fu + 1, y8, hf, h8, h2, hb, hs, hq, ht => by
    simp only [List.length_cons] at h2 hf
    have hx := ht x (by simp)
    have := ins_in hc O (P := P) (k := fun y0_0 y8_0 => m_slices_insertionSortCmpFunc_tally_Change__tally_order_l0 (P.length : Int) p2 fu y0_0 y8_0) (y8 := y8) hx S.length S (T ++ post) 1152921504606846976 y8 rfl (by omega) h8 (by omega) hs hq
    unfold m_slices_insertionSortCmpFunc_tally_Change__tally_order_l0
    rw [d_lt (by omega), cond_true, List.cons_append, this, w64 (by omega) (by omega), List.foldl_cons]
    have hp := insS_perm (lt := ltc c) S x
    have hl := hp.length_eq
    simp only [List.length_append, List.length_singleton] at hl
    exact ins_out T (insS (ltc c) S x) fu (y8 + 1) (by omega) (by omega) (by omega) hb (insS_srt O hs hq hx) (fun z hz => by
      rcases List.mem_append.1 (hp.mem_iff.1 hz) with h | h
      · exact hq z h
      · simp only [List.mem_singleton] at h; subst h; exact hx) (fun z hz => ht z (by simp [hz]))
theorem ins_ok {P A post : List GChange} {a b : Int} (ha : a = (P.length : Int)) (hb : b = (P.length : Int) + A.length) (hB : b ≤ 500000000) (hq : ∀ z ∈ A, Q z) : m_slices_insertionSortCmpFunc_tally_Change__tally_order (P ++ (A ++ post)) a b = some (P ++ (isort (ltc c) A ++ post)) := by
  subst ha
  unfold m_slices_insertionSortCmpFunc_tally_Change__tally_order
  rw [w64 (by omega) (by omega)]
  cases A with
  | nil =>
    show m_slices_insertionSortCmpFunc_tally_Change__tally_order_l0 _ _ (1152921504606846975 + 1) _ _ = _
    unfold m_slices_insertionSortCmpFunc_tally_Change__tally_order_l0
    simp only [List.length_nil] at hb
    rw [d_nlt (by omega), cond_false]; rfl
  | cons x T =>
    simp only [List.length_cons] at hb
    have := ins_out hc O (P := P) (post := post) (p2 := b) T [x] 1152921504606846976 ((P.length : Int) + 1) (by omega) (by simp) (by simp; omega) hB (Srt.one x) (fun z hz => by simp at hz; subst hz; exact hq z (by simp)) (fun z hz => hq z (by simp [hz]))
    exact this
/-! ### two are merged -/
theorem sym_ok : ∀ (fu : Nat) (P A B post : List GChange) (p1 p2 p3 : Int), A ≠ [] → B ≠ [] → A.length + B.length < fu → p1 = (P.length : Int) → p2 = (P.length : Int) + A.length → p3 = (P.length : Int) + A.length + B.length → p3 ≤ 200000000 →
    (∀ z ∈ A, Q z) → (∀ z ∈ B, Q z) → Srt (ltc c) A → Srt (ltc c) B → ∃ C, C.Perm (A ++ B) ∧ Srt (ltc c) C ∧ m_slices_symMergeCmpFunc_tally_Change__tally_order fu (P ++ (A ++ (B ++ post))) p1 p2 p3 = some (P ++ (C ++ post))
  | 0, _, _, _, _, _, _, _, _, _, h, _, _, _, _, _, _, _, _ => by omega
  | fu + 1, P, A, B, post, p1, p2, p3, hA, hB, hf, h1, h2, h3, hb, qA, qB, sA, sB => by
    have hA0 : 0 < A.length := List.length_pos_iff.2 hA
    have hB0 : 0 < B.length := List.length_pos_iff.2 hB
    unfold m_slices_symMergeCmpFunc_tally_Change__tally_order
    by_cases ca : A.length = 1
    · obtain ⟨x, rfl⟩ := List.length_eq_one_iff.1 ca
      have hx : Q x := qA x (by simp)
      rw [w64 (n := p2 - p1) (by omega) (by omega), decide_eq_true (by simp at h2; omega), cond_true]
      simp only [List.length_singleton] at h2 h3 hf
      have key := half_loop (L := fun fu i j => m_slices_symMergeCmpFunc_tally_Change__tally_order_l0 (P ++ ([x] ++ (B ++ post))) p1 fu i j) (K := fun s => m_slices_symMergeCmpFunc_tally_Change__tally_order_l4 s 1152921504606846976 (P ++ ([x] ++ (B ++ post))) p1) (Pd := fun k => ltc c (B.getD (k - (P.length + 1)) default) x) (lo := P.length + 1) (hi := P.length + 1 + B.length)
        (fun fu i => by
          show m_slices_symMergeCmpFunc_tally_Change__tally_order_l0 _ _ (fu + 1) _ _ = _
          unfold m_slices_symMergeCmpFunc_tally_Change__tally_order_l0
          rw [d_nlt (by omega), cond_false])
        (fun fu i j hi hij hj => by
          show m_slices_symMergeCmpFunc_tally_Change__tally_order_l0 _ _ (fu + 1) _ _ = _
          conv => lhs; unfold m_slices_symMergeCmpFunc_tally_Change__tally_order_l0
          have ht : (i + j) / 2 - (P.length + 1) < B.length := by omega
          have g1 := geti_trd (P := P) (A := [x]) (B := B) (R := post) (d := default) (i := (((i + j) / 2 : Nat) : Int)) ht (by simp; omega)
          have g2 : geti (P ++ ([x] ++ (B ++ post))) p1 = some x := geti_at (p := P) (q := B ++ post) rfl h1
          rw [d_lt (by omega), cond_true, half_ok (by omega), g1, obind_some, g2, obind_some, hc _ _ (by rw [getD_lt ht]; exact qB _ (List.getElem_mem _)) hx, obind_some, inc_ok (by omega), obind_some]
          by_cases hl : c (B.getD ((i + j) / 2 - (P.length + 1)) default) x < 0
          · rw [d_lt hl, cond_true, if_pos hl]
          · rw [d_nlt hl, cond_false, if_neg hl])
        (fun k d h1 h2 h3 hd => by
          have hk : k - (P.length + 1) < B.length := by omega
          have hd' : d - (P.length + 1) < B.length := by omega
          simp only [getD_lt hk, getD_lt hd'] at hd ⊢
          refine Classical.byContradiction fun hn => ?_
          exact O.trans _ _ _ hx (qB _ (List.getElem_mem _)) (qB _ (List.getElem_mem _)) hn (Srt.at' O sB qB (i := k - (P.length + 1)) (j := d - (P.length + 1)) (by omega) hd') hd)
        1152921504606846976 (P.length + 1) (P.length + 1 + B.length) (Nat.le_refl _) (by omega) (Nat.le_refl _) (by omega) (fun c h1 h2 => by omega) (fun c h1 h2 => by omega)
      obtain ⟨s, s1, s2, hL, sa, sb⟩ := key
      have e1 : ((P.length + 1 : Nat) : Int) = p2 := by omega
      have e2 : ((P.length + 1 + B.length : Nat) : Int) = p3 := by omega
      simp only [e1, e2] at hL
      rw [hL]
      obtain ⟨t, rfl⟩ : ∃ t, s = P.length + 1 + t := ⟨s - (P.length + 1), by omega⟩
      have a1 : ∀ z ∈ B.take t, ltc c z x := take_pd (d := default) (pd := fun z => ltc c z x) (fun k hk => by have := sa (P.length + 1 + k) (by omega) (by omega); rwa [show P.length + 1 + k - (P.length + 1) = k by omega] at this) (by omega)
      have a2 : ∀ z ∈ B.drop t, ¬ ltc c z x := drop_pd (d := default) (pd := fun z => ¬ ltc c z x) (fun k hk hk2 => by have := sb (P.length + 1 + k) (by omega) (by omega); rwa [show P.length + 1 + k - (P.length + 1) = k by omega] at this)
      have eB : B = B.take t ++ B.drop t := (List.take_append_drop _ _).symm
      have lt1 : (B.take t).length = t := by rw [List.length_take]; omega
      have hs := sB
      rw [eB, Srt.app] at hs
      refine ⟨B.take t ++ x :: B.drop t, ?_, Srt.app.2 ⟨hs.1, List.pairwise_cons.2 ⟨a2, hs.2.1⟩, fun a ha b hb => ?_⟩, ?_⟩
      · have : (B.take t ++ x :: B.drop t).Perm (x :: (B.take t ++ B.drop t)) := List.perm_middle
        rw [List.take_append_drop] at this; exact this
      · rcases List.mem_cons.1 hb with rfl | hb
        · exact O.asym _ _ (qB a (List.mem_of_mem_take ha)) hx (a1 a ha)
        · exact hs.2.2 a ha b hb
      · have := mv_up (x := x) (post := B.drop t ++ post) (B.take t) 1152921504606846976 P ((P.length + 1 + t : Nat) : Int) (by omega) (by omega) (by omega)
        have e3 : P ++ ([x] ++ (B ++ post)) = P ++ x :: (B.take t ++ (B.drop t ++ post)) := by conv => lhs; rw [eB]; simp only [List.append_assoc, List.cons_append, List.nil_append]
        rw [e3, h1, this]; simp only [List.append_assoc, List.cons_append]
    · rw [w64 (n := p2 - p1) (by omega) (by omega), decide_eq_false (by omega), cond_false]
      by_cases cb : B.length = 1
      · obtain ⟨x, rfl⟩ := List.length_eq_one_iff.1 cb
        have hx : Q x := qB x (by simp)
        rw [w64 (n := p3 - p2) (by omega) (by omega), decide_eq_true (by simp at h3; omega), cond_true]
        simp only [List.length_singleton] at h3 hf
        have key := half_loop (L := fun fu i j => m_slices_symMergeCmpFunc_tally_Change__tally_order_l6 (P ++ (A ++ ([x] ++ post))) p2 fu i j) (K := fun s => m_slices_symMergeCmpFunc_tally_Change__tally_order_l10 s 1152921504606846976 (P ++ (A ++ ([x] ++ post))) p2) (Pd := fun k => ¬ ltc c x (A.getD (k - P.length) default)) (lo := P.length) (hi := P.length + A.length)
          (fun fu i => by
            show m_slices_symMergeCmpFunc_tally_Change__tally_order_l6 _ _ (fu + 1) _ _ = _
            unfold m_slices_symMergeCmpFunc_tally_Change__tally_order_l6
            rw [d_nlt (by omega), cond_false])
          (fun fu i j hi hij hj => by
            show m_slices_symMergeCmpFunc_tally_Change__tally_order_l6 _ _ (fu + 1) _ _ = _
            conv => lhs; unfold m_slices_symMergeCmpFunc_tally_Change__tally_order_l6
            have ht : (i + j) / 2 - P.length < A.length := by omega
            have g1 := geti_snd (P := P) (A := A) (R := [x] ++ post) (d := default) (i := (((i + j) / 2 : Nat) : Int)) ht (by omega)
            have g2 : geti (P ++ (A ++ ([x] ++ post))) p2 = some x := geti_at (p := P ++ A) (q := post) (by simp) (by simp; omega)
            rw [d_lt (by omega), cond_true, half_ok (by omega), g2, obind_some, g1, obind_some, hc _ _ hx (by rw [getD_lt ht]; exact qA _ (List.getElem_mem _)), obind_some, inc_ok (by omega), obind_some]
            by_cases hl : c x (A.getD ((i + j) / 2 - P.length) default) < 0
            · rw [d_lt hl, Bool.not_true, cond_false, if_neg (fun h => h hl)]
            · rw [d_nlt hl, Bool.not_false, cond_true, if_pos hl])
          (fun k d h1 h2 h3 hd => by
            have hk : k - P.length < A.length := by omega
            have hd' : d - P.length < A.length := by omega
            simp only [getD_lt hk, getD_lt hd'] at hd ⊢
            exact O.trans _ _ _ (qA _ (List.getElem_mem _)) (qA _ (List.getElem_mem _)) hx (Srt.at' O sA qA (i := k - P.length) (j := d - P.length) (by omega) hd') hd)
          1152921504606846976 P.length (P.length + A.length) (Nat.le_refl _) (by omega) (Nat.le_refl _) (by omega) (fun c h1 h2 => by omega) (fun c h1 h2 => by omega)
        obtain ⟨s, s1, s2, hL, sa, sb⟩ := key
        have e2 : ((P.length + A.length : Nat) : Int) = p2 := by omega
        simp only [e2, ← h1] at hL
        rw [hL]
        obtain ⟨t, rfl⟩ : ∃ t, s = P.length + t := ⟨s - P.length, by omega⟩
        have a1 : ∀ z ∈ A.take t, ¬ ltc c x z := take_pd (d := default) (pd := fun z => ¬ ltc c x z) (fun k hk => by have := sa (P.length + k) (by omega) (by omega); rwa [show P.length + k - P.length = k by omega] at this) (by omega)
        have a2 : ∀ z ∈ A.drop t, ltc c x z := drop_pd (d := default) (pd := fun z => ltc c x z) (fun k hk hk2 => by have := sb (P.length + k) (by omega) (by omega); rw [show P.length + k - P.length = k by omega] at this; exact Classical.not_not.1 this)
        have eA : A = A.take t ++ A.drop t := (List.take_append_drop _ _).symm
        have lt1 : (A.take t).length = t := by rw [List.length_take]; omega
        have ld1 : (A.drop t).length = A.length - t := List.length_drop
        have hs := sA
        rw [eA, Srt.app] at hs
        refine ⟨A.take t ++ x :: A.drop t, ?_, Srt.app.2 ⟨hs.1, List.pairwise_cons.2 ⟨fun b hb => ?_, hs.2.1⟩, fun a ha b hb => ?_⟩, ?_⟩
        · have : (A.take t ++ x :: A.drop t).Perm (x :: (A.take t ++ A.drop t)) := List.perm_middle
          rw [List.take_append_drop] at this
          exact this.trans (List.perm_append_singleton _ _).symm
        · exact O.asym _ _ hx (qA b (List.mem_of_mem_drop hb)) (a2 b hb)
        · rcases List.mem_cons.1 hb with rfl | hb
          · exact a1 a ha
          · exact hs.2.2 a ha b hb
        · have := mv_dn (x := x) (P := P ++ A.take t) (A.length - t) (A.drop t) post 1152921504606846976 p2 ld1 (by omega) (by simp; omega) (by omega)
          have e3 : P ++ (A ++ ([x] ++ post)) = P ++ A.take t ++ (A.drop t ++ x :: post) := by
            rw [List.append_assoc]
            conv => lhs; rw [eA]; simp only [List.append_assoc, List.cons_append, List.nil_append]
          have e4 : (((P ++ A.take t).length : Nat) : Int) = ((P.length + t : Nat) : Int) := by simp; omega
          rw [e4] at this
          rw [e3, this]; simp only [List.append_assoc, List.cons_append]
      · rw [w64 (n := p3 - p2) (by omega) (by omega), decide_eq_false (by omega), cond_false]
        -- the general case
        have hm : p1 + p3 = ((2 * P.length + A.length + B.length : Nat) : Int) := by omega
        generalize hmid : (2 * P.length + A.length + B.length) / 2 = mid
        have emid : IntKind.i64.wrap (Int.fdiv (IntKind.u64.wrap (IntKind.i64.wrap (p1 + p3))) (2 ^ 1)) = (mid : Int) := by
          have := half_ok (i := P.length) (j := P.length + A.length + B.length) (by omega)
          rw [show (P.length : Int) + ((P.length + A.length + B.length : Nat) : Int) = p1 + p3 by omega] at this
          rw [this]; congr 1; omega
        simp only [emid]
        rw [w64 (n := (mid : Int) + p2) (by omega) (by omega), obind_some]
        -- the search from lo to hi
        have search : ∀ lo hi : Nat, P.length ≤ lo → lo ≤ hi → hi ≤ P.length + A.length → hi ≤ mid → mid ≤ lo + B.length → (lo = P.length ∨ lo + B.length = mid) → (hi = mid ∨ hi = P.length + A.length) →
            ∃ C, C.Perm (A ++ B) ∧ Srt (ltc c) C ∧ m_slices_symMergeCmpFunc_tally_Change__tally_order_j14 (P ++ (A ++ (B ++ post))) p1 p2 p3 ((mid : Int) + p2) (fun p0 p1 p2 p3 => m_slices_symMergeCmpFunc_tally_Change__tally_order fu p0 p1 p2 p3) (lo : Int) (hi : Int) = some (P ++ (C ++ post)) := by
          intro lo hi l1 l2 l3 l4 l5 l6 l7
          unfold m_slices_symMergeCmpFunc_tally_Change__tally_order_j14
          have key := half_loop (L := fun fu' i j => m_slices_symMergeCmpFunc_tally_Change__tally_order_l15 (P ++ (A ++ (B ++ post))) p1 p2 p3 ((mid : Int) + p2) (fun p0 p1 p2 p3 => m_slices_symMergeCmpFunc_tally_Change__tally_order fu p0 p1 p2 p3) fu' i j)
            (K := fun s => cond (decide (s < p2)) (cond (decide (p2 < (IntKind.i64.wrap ((mid : Int) + p2 - s)))) (Option.bind (m_slices_rotateCmpFunc_tally_Change__tally_order (P ++ (A ++ (B ++ post))) s p2 (IntKind.i64.wrap ((mid : Int) + p2 - s))) fun r => m_slices_symMergeCmpFunc_tally_Change__tally_order_j21 p1 p3 ((mid : Int) + p2) s (fun p0 p1 p2 p3 => m_slices_symMergeCmpFunc_tally_Change__tally_order fu p0 p1 p2 p3) r)
              (m_slices_symMergeCmpFunc_tally_Change__tally_order_j21 p1 p3 ((mid : Int) + p2) s (fun p0 p1 p2 p3 => m_slices_symMergeCmpFunc_tally_Change__tally_order fu p0 p1 p2 p3) (P ++ (A ++ (B ++ post))))) (m_slices_symMergeCmpFunc_tally_Change__tally_order_j21 p1 p3 ((mid : Int) + p2) s (fun p0 p1 p2 p3 => m_slices_symMergeCmpFunc_tally_Change__tally_order fu p0 p1 p2 p3) (P ++ (A ++ (B ++ post)))))
            (Pd := fun k => ¬ ltc c (B.getD (mid - 1 - k) default) (A.getD (k - P.length) default)) (lo := lo) (hi := hi)
            (fun fu i => by
              show m_slices_symMergeCmpFunc_tally_Change__tally_order_l15 _ _ _ _ _ _ (fu + 1) _ _ = _
              unfold m_slices_symMergeCmpFunc_tally_Change__tally_order_l15
              rw [d_nlt (by omega), cond_false])
            (fun fu i j hi' hij hj => by
              show m_slices_symMergeCmpFunc_tally_Change__tally_order_l15 _ _ _ _ _ _ (fu + 1) _ _ = _
              conv => lhs; unfold m_slices_symMergeCmpFunc_tally_Change__tally_order_l15
              have ht : (i + j) / 2 - P.length < A.length := by omega
              have ht2 : mid - 1 - (i + j) / 2 < B.length := by omega
              have g1 := geti_snd (P := P) (A := A) (R := B ++ post) (d := default) (i := (((i + j) / 2 : Nat) : Int)) ht (by omega)
              have g2 := geti_trd (P := P) (A := A) (B := B) (R := post) (d := default) (i := (mid : Int) + p2 - 1 - (((i + j) / 2 : Nat) : Int)) ht2 (by omega)
              rw [d_lt (by omega), cond_true, half_ok (by omega), w64 (n := (mid : Int) + p2 - 1) (by omega) (by omega), w64 (n := (mid : Int) + p2 - 1 - (((i + j) / 2 : Nat) : Int)) (by omega) (by omega), obind_some, g2, obind_some, g1, obind_some,
                hc _ _ (by rw [getD_lt ht2]; exact qB _ (List.getElem_mem _)) (by rw [getD_lt ht]; exact qA _ (List.getElem_mem _)), obind_some, inc_ok (by omega), obind_some]
              by_cases hl : c (B.getD (mid - 1 - (i + j) / 2) default) (A.getD ((i + j) / 2 - P.length) default) < 0
              · rw [d_lt hl, Bool.not_true, cond_false, if_neg (fun h => h hl)]
              · rw [d_nlt hl, Bool.not_false, cond_true, if_pos hl])
            (fun k d h1 h2 h3 hd => by
              have k1 : k - P.length < A.length := by omega
              have d1 : d - P.length < A.length := by omega
              have k2 : mid - 1 - k < B.length := by omega
              have d2 : mid - 1 - d < B.length := by omega
              simp only [getD_lt k1, getD_lt d1, getD_lt k2, getD_lt d2] at hd ⊢
              refine O.trans _ _ _ (qA _ (List.getElem_mem _)) (qA _ (List.getElem_mem _)) (qB _ (List.getElem_mem _)) (Srt.at' O sA qA (i := k - P.length) (j := d - P.length) (by omega) d1) ?_
              exact O.trans _ _ _ (qA _ (List.getElem_mem _)) (qB _ (List.getElem_mem _)) (qB _ (List.getElem_mem _)) hd (Srt.at' O sB qB (i := mid - 1 - d) (j := mid - 1 - k) (by omega) k2))
            1152921504606846976 lo hi (Nat.le_refl _) l2 (Nat.le_refl _) (by omega) (fun c h1 h2 => by omega) (fun c h1 h2 => by omega)
          obtain ⟨s, s1, s2, hL, sa, sb⟩ := key
          rw [hL]
          clear hL
          have ea : A = A.take (s - P.length) ++ A.drop (s - P.length) := (List.take_append_drop _ _).symm
          have eb : B = B.take (mid - s) ++ B.drop (mid - s) := (List.take_append_drop _ _).symm
          have la1 : (A.take (s - P.length)).length = s - P.length := by rw [List.length_take]; omega
          have la2 : (A.drop (s - P.length)).length = A.length - (s - P.length) := List.length_drop
          have lb1 : (B.take (mid - s)).length = mid - s := by rw [List.length_take]; omega
          have lb2 : (B.drop (mid - s)).length = B.length - (mid - s) := List.length_drop
          have hsA := sA
          rw [ea, Srt.app] at hsA
          have hsB := sB
          rw [eb, Srt.app] at hsB
          have qA1 : ∀ z ∈ A.take (s - P.length), Q z := fun z hz => qA z (List.mem_of_mem_take hz)
          have qA2 : ∀ z ∈ A.drop (s - P.length), Q z := fun z hz => qA z (List.mem_of_mem_drop hz)
          have qB1 : ∀ z ∈ B.take (mid - s), Q z := fun z hz => qB z (List.mem_of_mem_take hz)
          have qB2 : ∀ z ∈ B.drop (mid - s), Q z := fun z hz => qB z (List.mem_of_mem_drop hz)
          -- the last of the first part is not beyond the second one's rest
          have x1 : ∀ a ∈ A.take (s - P.length), ∀ b ∈ B.drop (mid - s), ¬ ltc c b a := by
            intro a ha b hb
            obtain ⟨i, hi1, rfl⟩ := List.mem_iff_getElem.1 ha
            obtain ⟨j, hj1, rfl⟩ := List.mem_iff_getElem.1 hb
            rw [la1] at hi1; rw [lb2] at hj1
            rw [List.getElem_take, List.getElem_drop]
            have hs1 : lo < s := by
              rcases l6 with h | h
              · omega
              · omega
            have := sa (s - 1) (by omega) (by omega)
            have t1 : s - 1 - P.length < A.length := by omega
            have t2 : mid - 1 - (s - 1) < B.length := by omega
            simp only [getD_lt t1, getD_lt t2] at this
            refine O.trans _ _ _ (qA _ (List.getElem_mem _)) (qA _ (List.getElem_mem _)) (qB _ (List.getElem_mem _)) (Srt.at' O sA qA (i := i) (j := s - 1 - P.length) (by omega) t1) ?_
            exact O.trans _ _ _ (qA _ (List.getElem_mem _)) (qB _ (List.getElem_mem _)) (qB _ (List.getElem_mem _)) this (Srt.at' O sB qB (i := mid - 1 - (s - 1)) (j := mid - s + j) (by omega) (by omega))
          have x2 : ∀ b ∈ B.take (mid - s), ∀ a ∈ A.drop (s - P.length), ¬ ltc c a b := by
            intro b hb a ha
            obtain ⟨i, hi1, rfl⟩ := List.mem_iff_getElem.1 ha
            obtain ⟨j, hj1, rfl⟩ := List.mem_iff_getElem.1 hb
            rw [la2] at hi1; rw [lb1] at hj1
            rw [List.getElem_take, List.getElem_drop]
            have hs1 : s < hi := by
              rcases l7 with h | h
              · omega
              · omega
            have := sb s (by omega) (by omega)
            have t1 : s - P.length < A.length := by omega
            have t2 : mid - 1 - s < B.length := by omega
            simp only [getD_lt t1, getD_lt t2, Classical.not_not] at this
            have this := O.asym _ _ (qB _ (List.getElem_mem _)) (qA _ (List.getElem_mem _)) this
            refine O.trans _ _ _ (qB _ (List.getElem_mem _)) (qB _ (List.getElem_mem _)) (qA _ (List.getElem_mem _)) (Srt.at' O sB qB (i := j) (j := mid - 1 - s) (by omega) t2) ?_
            exact O.trans _ _ _ (qB _ (List.getElem_mem _)) (qA _ (List.getElem_mem _)) (qA _ (List.getElem_mem _)) this (Srt.at' O sA qA (i := s - P.length) (j := s - P.length + i) (by omega) (by omega))
          -- behind the rotation
          have rest : ∃ C, C.Perm (A ++ B) ∧ Srt (ltc c) C ∧ m_slices_symMergeCmpFunc_tally_Change__tally_order_j21 p1 p3 ((mid : Int) + p2) (s : Int) (fun p0 p1 p2 p3 => m_slices_symMergeCmpFunc_tally_Change__tally_order fu p0 p1 p2 p3) (P ++ (A.take (s - P.length) ++ (B.take (mid - s) ++ (A.drop (s - P.length) ++ (B.drop (mid - s) ++ post))))) = some (P ++ (C ++ post)) := by
            have step1 : ∃ C1, C1.Perm (A.take (s - P.length) ++ B.take (mid - s)) ∧ Srt (ltc c) C1 ∧ ∀ R, m_slices_symMergeCmpFunc_tally_Change__tally_order_j21 p1 p3 ((mid : Int) + p2) (s : Int) (fun p0 p1 p2 p3 => m_slices_symMergeCmpFunc_tally_Change__tally_order fu p0 p1 p2 p3) (P ++ (A.take (s - P.length) ++ (B.take (mid - s) ++ (A.drop (s - P.length) ++ (B.drop (mid - s) ++ post))))) = R ↔
                m_slices_symMergeCmpFunc_tally_Change__tally_order_j24 p1 p3 ((mid : Int) + p2) (s : Int) (fun p0 p1 p2 p3 => m_slices_symMergeCmpFunc_tally_Change__tally_order fu p0 p1 p2 p3) (P ++ (C1 ++ (A.drop (s - P.length) ++ (B.drop (mid - s) ++ post)))) = R := by
              unfold m_slices_symMergeCmpFunc_tally_Change__tally_order_j21
              simp only [emid]
              by_cases z1 : P.length < s
              · rw [d_lt (by omega), cond_true]
                by_cases z2 : s < mid
                · rw [d_lt (by omega), cond_true]
                  obtain ⟨C1, c1, c2, c3⟩ := sym_ok fu P (A.take (s - P.length)) (B.take (mid - s)) (A.drop (s - P.length) ++ (B.drop (mid - s) ++ post)) p1 (s : Int) (mid : Int) (List.ne_nil_of_length_pos (by omega)) (List.ne_nil_of_length_pos (by omega)) (by omega) h1 (by omega) (by omega) (by omega) qA1 qB1 hsA.1 hsB.1
                  exact ⟨C1, c1, c2, fun R => by rw [c3, obind_some]⟩
                · rw [d_nlt (by omega), cond_false]
                  have : B.take (mid - s) = [] := List.eq_nil_of_length_eq_zero (by omega)
                  exact ⟨A.take (s - P.length), by rw [this, List.append_nil], hsA.1, fun R => by rw [this, List.nil_append]⟩
              · rw [d_nlt (by omega), cond_false]
                have : A.take (s - P.length) = [] := List.eq_nil_of_length_eq_zero (by omega)
                exact ⟨B.take (mid - s), by rw [this, List.nil_append], hsB.1, fun R => by rw [this, List.nil_append]⟩
            obtain ⟨C1, c1, c2, c3⟩ := step1
            have lc1 : C1.length = mid - P.length := by have := c1.length_eq; rw [List.length_append, la1, lb1] at this; omega
            have step2 : ∃ C2, C2.Perm (A.drop (s - P.length) ++ B.drop (mid - s)) ∧ Srt (ltc c) C2 ∧ m_slices_symMergeCmpFunc_tally_Change__tally_order_j24 p1 p3 ((mid : Int) + p2) (s : Int) (fun p0 p1 p2 p3 => m_slices_symMergeCmpFunc_tally_Change__tally_order fu p0 p1 p2 p3) (P ++ (C1 ++ (A.drop (s - P.length) ++ (B.drop (mid - s) ++ post)))) = some (P ++ (C1 ++ (C2 ++ post))) := by
              unfold m_slices_symMergeCmpFunc_tally_Change__tally_order_j24
              simp only [emid]
              rw [w64 (n := (mid : Int) + p2 - (s : Int)) (by omega) (by omega), obind_some]
              by_cases z1 : s < P.length + A.length
              · rw [d_lt (by omega), cond_true]
                by_cases z2 : mid - s < B.length
                · rw [d_lt (by omega), cond_true]
                  obtain ⟨C2, d1, d2, d3⟩ := sym_ok fu (P ++ C1) (A.drop (s - P.length)) (B.drop (mid - s)) post (mid : Int) ((mid : Int) + p2 - (s : Int)) p3 (List.ne_nil_of_length_pos (by omega)) (List.ne_nil_of_length_pos (by omega)) (by omega) (by simp; omega) (by simp; omega) (by simp; omega) (by omega) qA2 qB2 hsA.2.1 hsB.2.1
                  rw [List.append_assoc] at d3
                  exact ⟨C2, d1, d2, by rw [d3, obind_some]; simp only [List.append_assoc]⟩
                · rw [d_nlt (by omega), cond_false]
                  have : B.drop (mid - s) = [] := List.eq_nil_of_length_eq_zero (by omega)
                  exact ⟨A.drop (s - P.length), by rw [this, List.append_nil], hsA.2.1, by rw [this, List.nil_append]⟩
              · rw [d_nlt (by omega), cond_false]
                have : A.drop (s - P.length) = [] := List.eq_nil_of_length_eq_zero (by omega)
                exact ⟨B.drop (mid - s), by rw [this, List.nil_append], hsB.2.1, by rw [this, List.nil_append]⟩
            obtain ⟨C2, d1, d2, d3⟩ := step2
            refine ⟨C1 ++ C2, ?_, Srt.app.2 ⟨c2, d2, fun a ha b hb => ?_⟩, (c3 _).2 (by rw [d3]; simp only [List.append_assoc])⟩
            · refine (c1.append d1).trans ?_
              have e : A ++ B = A.take (s - P.length) ++ (A.drop (s - P.length) ++ (B.take (mid - s) ++ B.drop (mid - s))) := by
                rw [List.take_append_drop, ← List.append_assoc, List.take_append_drop]
              rw [e, List.append_assoc]
              refine List.Perm.append_left _ ?_
              rw [← List.append_assoc, ← List.append_assoc]
              exact List.Perm.append_right _ List.perm_append_comm
            · have h1 := List.mem_append.1 (c1.mem_iff.1 ha)
              have h2 := List.mem_append.1 (d1.mem_iff.1 hb)
              rcases h1 with h1 | h1 <;> rcases h2 with h2 | h2
              · exact hsA.2.2 a h1 b h2
              · exact x1 a h1 b h2
              · exact x2 a h1 b h2
              · exact hsB.2.2 a h1 b h2
          by_cases y1 : s < P.length + A.length
          · rw [d_lt (by omega), cond_true, w64 (n := (mid : Int) + p2 - (s : Int)) (by omega) (by omega)]
            by_cases y2 : s < mid
            · rw [d_lt (by omega), cond_true]
              have e : P ++ (A ++ (B ++ post)) = (P ++ A.take (s - P.length)) ++ (A.drop (s - P.length) ++ (B.take (mid - s) ++ (B.drop (mid - s) ++ post))) := by
                conv => lhs; rw [ea, eb]
                simp only [List.append_assoc]
              rw [e, rot (List.ne_nil_of_length_pos (by omega)) (List.ne_nil_of_length_pos (by omega)) (by simp; omega) (by simp; omega) (by simp; omega) (by omega), obind_some]
              simpa only [List.append_assoc] using rest
            · rw [d_nlt (by omega), cond_false]
              have hb1 : B.take (mid - s) = [] := List.eq_nil_of_length_eq_zero (by omega)
              have e : P ++ (A ++ (B ++ post)) = P ++ (A.take (s - P.length) ++ (B.take (mid - s) ++ (A.drop (s - P.length) ++ (B.drop (mid - s) ++ post)))) := by
                conv => lhs; rw [ea, eb, hb1]
                rw [hb1]; simp only [List.append_assoc, List.nil_append]
              rw [e]; exact rest
          · rw [d_nlt (by omega), cond_false]
            have ha2 : A.drop (s - P.length) = [] := List.eq_nil_of_length_eq_zero (by omega)
            have e : P ++ (A ++ (B ++ post)) = P ++ (A.take (s - P.length) ++ (B.take (mid - s) ++ (A.drop (s - P.length) ++ (B.drop (mid - s) ++ post)))) := by
              conv => lhs; rw [ea, eb, ha2]
              rw [ha2]; simp only [List.append_assoc, List.nil_append, List.append_nil]
            rw [e]; exact rest
        by_cases hcase : mid < P.length + A.length
        · rw [d_lt (by omega), cond_true, w64 (n := (mid : Int) + p2 - p3) (by omega) (by omega)]
          have := search (mid - B.length) mid (by omega) (by omega) (by omega) (Nat.le_refl _) (by omega) (.inr (by omega)) (.inl rfl)
          rwa [show ((mid - B.length : Nat) : Int) = (mid : Int) + p2 - p3 by omega] at this
        · rw [d_nlt (by omega), cond_false]
          have := search P.length (P.length + A.length) (Nat.le_refl _) (by omega) (Nat.le_refl _) (by omega) (by omega) (.inl rfl) (.inr rfl)
          rwa [show ((P.length + A.length : Nat) : Int) = p2 by omega, ← h1] at this
/-! ### block by block -/
theorem stb_0 {p1 : Int} : ∀ (fu : Nat) (D R : List GChange) (y7 y8 : Int), R.length < fu → y7 = (D.length : Int) → y8 = (D.length : Int) + 20 → p1 = (D.length : Int) + R.length → p1 ≤ 200000000 → (∀ z ∈ R, Q z) →
    ∃ R', R'.Perm R ∧ Chunks (ltc c) 20 R' ∧ m_slices_stableCmpFunc_tally_Change__tally_order_l0 p1 fu (D ++ R) y7 y8 = m_slices_stableCmpFunc_tally_Change__tally_order_l3 p1 1152921504606846976 (D ++ R') 20
  | 0, _, _, _, _, h, _, _, _, _, _ => by omega
  | fu + 1, D, R, y7, y8, hf, h7, h8, h1, hb, hq => by
    unfold m_slices_stableCmpFunc_tally_Change__tally_order_l0
    by_cases h : y8 ≤ p1
    · rw [decide_eq_true h, cond_true]
      have eR : R = R.take 20 ++ R.drop 20 := (List.take_append_drop _ _).symm
      have l1 : (R.take 20).length = 20 := by rw [List.length_take]; omega
      have l2 : (R.drop 20).length = R.length - 20 := List.length_drop
      have := ins_ok hc O (P := D) (A := R.take 20) (post := R.drop 20) (a := y7) (b := y8) h7 (by omega) (by omega) (fun z hz => hq z (List.mem_of_mem_take hz))
      have hp := isort_perm (lt := ltc c) (R.take 20)
      have hpl := hp.length_eq
      obtain ⟨R', r1, r2, r3⟩ := stb_0 (p1 := p1) fu (D ++ isort (ltc c) (R.take 20)) (R.drop 20) y8 (y8 + 20) (by omega) (by simp; omega) (by simp; omega) (by simp; omega) hb (fun z hz => hq z (List.mem_of_mem_drop hz))
      refine ⟨isort (ltc c) (R.take 20) ++ R', ?_, .cons _ _ (by omega) (isort_srt O fun z hz => hq z (List.mem_of_mem_take hz)) r2, ?_⟩
      · conv => rhs; rw [eR]
        exact hp.append r1
      · rw [List.append_assoc] at r3
        rw [← eR] at this
        rw [this, obind_some, w64 (by omega) (by omega), r3, List.append_assoc]
    · rw [decide_eq_false h, cond_false]
      have := ins_ok hc O (P := D) (A := R) (post := []) (a := y7) (b := p1) h7 h1 (by omega) hq
      simp only [List.append_nil] at this
      rw [this, obind_some]
      have hp := isort_perm (lt := ltc c) R
      exact ⟨_, hp, .last _ (by have := hp.length_eq; omega) (isort_srt O hq), rfl⟩
theorem stb_4 {p1 : Int} {bs : Nat} {kk : List GChange → Int → Option (List GChange)} (hbs : 0 < bs) (hbb : bs ≤ 200000000) : ∀ (fu : Nat) (D R : List GChange) (y7 y8 : Int), R.length < fu → y7 = (D.length : Int) → y8 = (D.length : Int) + 2 * bs → p1 = (D.length : Int) + R.length → p1 ≤ 200000000 → Chunks (ltc c) bs R → (∀ z ∈ R, Q z) →
    ∃ R', R'.Perm R ∧ Chunks (ltc c) (2 * bs) R' ∧ m_slices_stableCmpFunc_tally_Change__tally_order_l4 p1 (bs : Int) kk fu (D ++ R) y7 y8 = kk (D ++ R') ((2 * bs : Nat) : Int)
  | 0, _, _, _, _, h, _, _, _, _, _, _ => by omega
  | fu + 1, D, R, y7, y8, hf, h7, h8, h1, hb, hC, hq => by
    have e2 : IntKind.i64.wrap ((bs : Int) * 2) = ((2 * bs : Nat) : Int) := by rw [w64 (by omega) (by omega)]; omega
    unfold m_slices_stableCmpFunc_tally_Change__tally_order_l4
    rw [e2, w64 (n := y7 + (bs : Int)) (by omega) (by omega), w64 (n := 2 * (bs : Int)) (by omega) (by omega)]
    by_cases h : y8 ≤ p1
    · rw [decide_eq_true h, cond_true, w64 (n := y8 + 2 * (bs : Int)) (by omega) (by omega)]
      obtain ⟨c1, r, rfl, l1, s1, hr⟩ := hC.split (by omega)
      simp only [List.length_append] at h1 hf
      obtain ⟨c2, r2, rfl, l2, s2, hr2⟩ := hr.split (by omega)
      simp only [List.length_append] at h1 hf
      obtain ⟨C, k1, k2, k3⟩ := sym_ok hc O 1152921504606846976 D c1 c2 r2 y7 (y7 + (bs : Int)) y8 (List.ne_nil_of_length_pos (by omega)) (List.ne_nil_of_length_pos (by omega)) (by omega) h7 (by omega) (by omega) (by omega) (fun z hz => hq z (by simp [hz])) (fun z hz => hq z (by simp [hz])) s1 s2
      have hl := k1.length_eq
      rw [List.length_append] at hl
      rw [k3, obind_some]
      obtain ⟨R', r1, r2', r3⟩ := stb_4 (p1 := p1) (kk := kk) hbs hbb fu (D ++ C) r2 y8 (y8 + 2 * (bs : Int)) (by omega) (by simp; omega) (by simp; omega) (by simp; omega) hb hr2 (fun z hz => hq z (by simp [hz]))
      rw [List.append_assoc] at r3
      refine ⟨C ++ R', ?_, .cons _ _ (by omega) k2 r2', by rw [r3, List.append_assoc]⟩
      rw [← List.append_assoc]
      exact k1.append r1
    · rw [decide_eq_false h, cond_false]
      by_cases h2 : y7 + (bs : Int) < p1
      · rw [d_lt h2, cond_true]
        obtain ⟨c1, r, rfl, l1, s1, hr⟩ := hC.split (by omega)
        simp only [List.length_append] at h1 hf
        have s2 := hr.all (by omega)
        obtain ⟨C, k1, k2, k3⟩ := sym_ok hc O 1152921504606846976 D c1 r [] y7 (y7 + (bs : Int)) p1 (List.ne_nil_of_length_pos (by omega)) (List.ne_nil_of_length_pos (by omega)) (by omega) h7 (by omega) (by omega) (by omega) (fun z hz => hq z (by simp [hz])) (fun z hz => hq z (by simp [hz])) s1 s2
        have hl := k1.length_eq
        rw [List.length_append] at hl
        simp only [List.append_nil] at k3
        rw [k3, obind_some]
        exact ⟨C, k1, .last _ (by omega) k2, rfl⟩
      · rw [d_nlt h2, cond_false]
        exact ⟨R, List.Perm.refl _, .last _ (by omega) (hC.all (by omega)), rfl⟩
theorem stb_3 {p1 : Int} : ∀ (fu : Nat) (R : List GChange) (bs : Nat), R.length < fu + bs → 0 < bs → bs ≤ 400000000 → p1 = (R.length : Int) → p1 ≤ 200000000 → Chunks (ltc c) bs R → (∀ z ∈ R, Q z) → 0 < fu →
    ∃ R', R'.Perm R ∧ Srt (ltc c) R' ∧ m_slices_stableCmpFunc_tally_Change__tally_order_l3 p1 fu R (bs : Int) = some R'
  | 0, _, _, _, _, _, _, _, _, _, h => by omega
  | fu + 1, R, bs, hf, h0, hbs, h1, hb, hC, hq, _ => by
    unfold m_slices_stableCmpFunc_tally_Change__tally_order_l3
    by_cases h : (bs : Int) < p1
    · rw [d_lt h, cond_true, w64 (n := 2 * (bs : Int)) (by omega) (by omega)]
      obtain ⟨R', r1, r2, r3⟩ := stb_4 hc O (p1 := p1) (kk := fun y0_3 y6_3 => m_slices_stableCmpFunc_tally_Change__tally_order_l3 p1 fu y0_3 y6_3) h0 (by omega) 1152921504606846976 [] R 0 (2 * (bs : Int)) (by omega) rfl (by simp) (by simpa using h1) hb hC hq
      simp only [List.nil_append] at r3
      rw [r3]
      have hl := r1.length_eq
      obtain ⟨R2, q1, q2, q3⟩ := stb_3 (p1 := p1) fu R' (2 * bs) (by omega) (by omega) (by omega) (by omega) hb r2 (fun z hz => hq z (r1.mem_iff.1 hz)) (by omega)
      exact ⟨R2, q1.trans r1, q2, q3⟩
    · rw [d_nlt h, cond_false]
      exact ⟨R, List.Perm.refl _, hC.all (by omega), rfl⟩
theorem stb_ok {l : List GChange} (hl : l.length ≤ 200000000) (hq : ∀ z ∈ l, Q z) : ∃ l', l'.Perm l ∧ Srt (ltc c) l' ∧ m_slices_stableCmpFunc_tally_Change__tally_order l ((l.length : Nat) : Int) = some l' := by
  unfold m_slices_stableCmpFunc_tally_Change__tally_order
  obtain ⟨R, r1, r2, r3⟩ := stb_0 hc O (p1 := ((l.length : Nat) : Int)) 1152921504606846976 [] l 0 20 (by omega) rfl (by simp) (by simp) (by omega) hq
  simp only [List.nil_append] at r3
  rw [r3]
  have hll := r1.length_eq
  obtain ⟨R2, q1, q2, q3⟩ := stb_3 hc O (p1 := ((l.length : Nat) : Int)) 1152921504606846976 R 20 (by omega) (by omega) (by omega) (by omega) (by omega) r2 (fun z hz => hq z (r1.mem_iff.1 hz)) (by omega)
  exact ⟨R2, q1.trans r1, q2, q3⟩
end
end m_tally_order_sort
end Go.Proofs.Ytcpageegmpjkiaa.K

namespace Go.Proofs.Ytcpageegmpjkiaa.K
open Go.RowKit Go.Lib
def cmpI (a b : Int) : Int := if a < b then -1 else if b < a then 1 else 0
def orI : List Int → Int
  | [] => 0
  | x :: l => if x ≠ 0 then x else orI l
theorem cmp_ok (a b : Int) : m_cmp_Compare_int a b = some (cmpI a b) := by
  unfold m_cmp_Compare_int m_cmp_isNaN_int cmpI
  rw [obind_some, obind_some, decide_eq_false (by simp), cond_false, decide_eq_false (by simp), cond_false]
  by_cases h1 : a < b
  · rw [d_lt h1, cond_true, if_pos h1]
  · rw [d_nlt h1, cond_false, if_neg h1]
    by_cases h2 : b < a
    · rw [d_lt h2, cond_true, if_pos h2]
    · rw [d_nlt h2, cond_false, if_neg h2]
theorem or_ok {l : List Int} (hl : l.length ≤ 1000000) : m_cmp_Or_int l = some (orI l) := by
  unfold m_cmp_Or_int
  have := loop1_0 (L := fun fu i => m_cmp_Or_int_l1 l fu i) (n := l.length) (P := fun i o => o = some (orI (l.drop i))) (by omega)
    (fun fu => by unfold m_cmp_Or_int_l1; rw [d_nlt (by omega), cond_false]; simp [orI])
    (fun fu i hi ih => by
      unfold m_cmp_Or_int_l1
      rw [d_lt (by omega), cond_true, geti_lt hi, obind_some, drop_cons hi]
      unfold orI
      by_cases h : l[i] ≠ 0
      · rw [decide_eq_true h, cond_true, if_pos h]
      · rw [decide_eq_false h, cond_false, if_neg h, inc_ok (by omega)]; exact ih)
  simpa using this
theorem cmpI_lt {a b : Int} : cmpI a b < 0 ↔ a < b := by unfold cmpI; split <;> (try split) <;> omega
theorem cmpI_zero {a b : Int} : cmpI a b = 0 ↔ a = b := by unfold cmpI; split <;> (try split) <;> omega
end Go.Proofs.Ytcpageegmpjkiaa.K

namespace Go.Proofs.Ytcpageegmpjkiaa.K
open Go.RowKit Go.Lib
/-! ### points -/
def ordT (x y : GChange) : Int := orI [cmpI x.Loc y.Loc, cmpI x.Time y.Time]
theorem order_ok (x y : GChange) : m_tally_order x y = some (ordT x y) := by
  unfold m_tally_order
  rw [cmp_ok, obind_some, cmp_ok, obind_some, or_ok (by simp), obind_some]; rfl
abbrev ltT : GChange → GChange → Prop := ltc ordT
theorem ltT_iff {x y : GChange} : ltT x y ↔ x.Loc < y.Loc ∨ (x.Loc = y.Loc ∧ x.Time < y.Time) := by
  show ordT x y < 0 ↔ _
  unfold ordT orI orI
  by_cases h : cmpI x.Loc y.Loc ≠ 0
  · rw [if_pos h, cmpI_lt]; have := mt cmpI_zero.2 h; omega
  · have e := cmpI_zero.1 (Classical.not_not.1 h)
    rw [if_neg h]
    by_cases h2 : cmpI x.Time y.Time ≠ 0
    · rw [if_pos h2, cmpI_lt]; omega
    · have e2 := cmpI_zero.1 (Classical.not_not.1 h2)
      rw [if_neg h2]; unfold orI; omega
theorem ordT_zero {x y : GChange} : ordT x y = 0 ↔ x.Loc = y.Loc ∧ x.Time = y.Time := by
  unfold ordT orI orI
  by_cases h : cmpI x.Loc y.Loc ≠ 0
  · rw [if_pos h]; have := fun e => h (cmpI_zero.2 e); exact ⟨fun h2 => absurd h2 h, fun h2 => absurd h2.1 this⟩
  · have e := cmpI_zero.1 (Classical.not_not.1 h)
    rw [if_neg h]
    by_cases h2 : cmpI x.Time y.Time ≠ 0
    · rw [if_pos h2]; have := fun e => h2 (cmpI_zero.2 e); exact ⟨fun h3 => absurd h3 h2, fun h3 => absurd h3.2 this⟩
    · have e2 := cmpI_zero.1 (Classical.not_not.1 h2)
      rw [if_neg h2]; unfold orI; exact ⟨fun _ => ⟨e, e2⟩, fun _ => rfl⟩
theorem ordQ : Ord (fun _ : GChange => True) ltT := ⟨fun x y _ _ h h2 => by rw [ltT_iff] at h h2; omega, fun x y z _ _ _ h h2 h3 => by rw [ltT_iff] at h h2 h3; omega⟩
/-! ### what is at a point -/
def atp : List GChange → Int → Int → Int
  | [], _, _ => 0
  | x :: l, a, b => (if x.Loc = a ∧ x.Time = b then x.N else 0) + atp l a b
def absum : List GChange → Nat
  | [] => 0
  | x :: l => x.N.natAbs + absum l
theorem atp_app : ∀ (l r : List GChange) (a b : Int), atp (l ++ r) a b = atp l a b + atp r a b
  | [], r, a, b => by simp [atp]
  | x :: l, r, a, b => by rw [List.cons_append, atp, atp, atp_app l r]; omega
theorem absum_app : ∀ (l r : List GChange), absum (l ++ r) = absum l + absum r
  | [], r => by simp [absum]
  | x :: l, r => by rw [List.cons_append, absum, absum, absum_app l r]; omega
theorem atp_perm {l r : List GChange} (h : l.Perm r) (a b : Int) : atp l a b = atp r a b := by
  induction h with
  | nil => rfl
  | cons x _ ih => simp only [atp, ih]
  | swap x y l => simp only [atp]; omega
  | trans _ _ h1 h2 => exact h1.trans h2
theorem absum_perm {l r : List GChange} (h : l.Perm r) : absum l = absum r := by
  induction h with
  | nil => rfl
  | cons x _ ih => simp only [absum, ih]
  | swap x y l => simp only [absum]; omega
  | trans _ _ h1 h2 => exact h1.trans h2
theorem absum_mem : ∀ {l : List GChange} {x : GChange}, x ∈ l → x.N.natAbs ≤ absum l
  | y :: l, x, h => by
    unfold absum
    rcases List.mem_cons.1 h with rfl | h
    · omega
    · have := absum_mem h; omega
theorem atp_none : ∀ {l : List GChange} {a b : Int}, (∀ x ∈ l, ¬ (x.Loc = a ∧ x.Time = b)) → atp l a b = 0
  | [], _, _, _ => rfl
  | x :: l, a, b, h => by rw [atp, if_neg (h x (by simp)), atp_none fun y hy => h y (by simp [hy])]; omega
/-! ### tallies -/
/-- Each point once, in order, with something there. -/
def Norm (t : List GChange) : Prop := t.Pairwise ltT ∧ ∀ x ∈ t, x.N ≠ 0
theorem strict_at {t : List GChange} (h : t.Pairwise ltT) : ∀ {x : GChange}, x ∈ t → atp t x.Loc x.Time = x.N := by
  induction t with
  | nil => intro x hx; simp at hx
  | cons y t ih =>
    intro x hx
    have h' := List.pairwise_cons.1 h
    rcases List.mem_cons.1 hx with rfl | hx
    · rw [atp, if_pos ⟨rfl, rfl⟩, atp_none fun z hz => ?_]
      · omega
      · have := ltT_iff.1 (h'.1 z hz); omega
    · rw [atp, if_neg (by have := ltT_iff.1 (h'.1 x hx); omega), ih h'.2 hx]; omega
theorem norm_unique : ∀ {t u : List GChange}, Norm t → Norm u → (∀ a b, atp t a b = atp u a b) → t = u
  | [], [], _, _, _ => rfl
  | [], y :: u, _, hu, h => by
    have := strict_at hu.1 (x := y) (by simp)
    rw [← h] at this
    exact absurd this.symm (hu.2 y (by simp))
  | x :: t, [], ht, _, h => by
    have := strict_at ht.1 (x := x) (by simp)
    rw [h] at this
    exact absurd this.symm (ht.2 x (by simp))
  | x :: t, y :: u, ht, hu, h => by
    have ht' := List.pairwise_cons.1 ht.1
    have hu' := List.pairwise_cons.1 hu.1
    have hx := strict_at ht.1 (x := x) (by simp)
    have hy := strict_at hu.1 (x := y) (by simp)
    have nx := ht.2 x (by simp)
    have ny := hu.2 y (by simp)
    by_cases h1 : ltT x y
    · exfalso; apply nx
      rw [← hx, h]
      refine atp_none fun z hz => ?_
      rw [ltT_iff] at h1
      rcases List.mem_cons.1 hz with rfl | hz
      · omega
      · have := ltT_iff.1 (hu'.1 z hz); omega
    · by_cases h2 : ltT y x
      · exfalso; apply ny
        rw [← hy, ← h]
        refine atp_none fun z hz => ?_
        rw [ltT_iff] at h2
        rcases List.mem_cons.1 hz with rfl | hz
        · omega
        · have := ltT_iff.1 (ht'.1 z hz); omega
      · have e1 : x.Loc = y.Loc := by rw [ltT_iff] at h1 h2; omega
        have e2 : x.Time = y.Time := by rw [ltT_iff] at h1 h2; omega
        have e3 : x.N = y.N := by rw [← hx, ← hy, ← h, e1, e2]
        have e : x = y := by cases x; cases y; simp_all
        subst e
        congr 1
        refine norm_unique ⟨ht'.2, fun z hz => ht.2 z (by simp [hz])⟩ ⟨hu'.2, fun z hz => hu.2 z (by simp [hz])⟩ fun a b => ?_
        have := h a b
        simp only [atp] at this
        omega
def putT : List GChange → GChange → List GChange
  | [], c => if c.N = 0 then [] else [c]
  | x :: t, c => if ltT x c then x :: putT t c else if ltT c x then (if c.N = 0 then x :: t else c :: x :: t) else if x.N + c.N = 0 then t else ⟨x.Loc, x.Time, x.N + c.N⟩ :: t
theorem putT_pt : ∀ {t : List GChange} {c z : GChange}, z ∈ putT t c → (z.Loc = c.Loc ∧ z.Time = c.Time) ∨ ∃ x ∈ t, z.Loc = x.Loc ∧ z.Time = x.Time
  | [], c, z, h => by
    unfold putT at h
    split at h
    · simp at h
    · simp at h; subst h; exact .inl ⟨rfl, rfl⟩
  | x :: t, c, z, h => by
    unfold putT at h
    split at h
    · rcases List.mem_cons.1 h with rfl | h
      · exact .inr ⟨_, by simp, rfl, rfl⟩
      · rcases putT_pt h with h | ⟨y, hy, e⟩
        · exact .inl h
        · exact .inr ⟨y, by simp [hy], e⟩
    · split at h
      · split at h
        · exact .inr ⟨z, h, rfl, rfl⟩
        · rcases List.mem_cons.1 h with rfl | h
          · exact .inl ⟨rfl, rfl⟩
          · exact .inr ⟨z, h, rfl, rfl⟩
      · split at h
        · exact .inr ⟨z, by simp [h], rfl, rfl⟩
        · rcases List.mem_cons.1 h with rfl | h
          · exact .inr ⟨x, by simp, rfl, rfl⟩
          · exact .inr ⟨z, by simp [h], rfl, rfl⟩
theorem putT_ok : ∀ {t : List GChange} (c : GChange), Norm t → Norm (putT t c) ∧ ∀ a b, atp (putT t c) a b = atp t a b + (if c.Loc = a ∧ c.Time = b then c.N else 0)
  | [], c, _ => by
    unfold putT
    split
    · rename_i h; exact ⟨⟨List.Pairwise.nil, by simp⟩, fun a b => by simp [atp, h]⟩
    · rename_i h; exact ⟨⟨List.pairwise_singleton _ _, by simpa using h⟩, fun a b => by simp [atp]⟩
  | x :: t, c, hn => by
    have h' := List.pairwise_cons.1 hn.1
    have ht : Norm t := ⟨h'.2, fun z hz => hn.2 z (by simp [hz])⟩
    unfold putT
    split
    · rename_i hx
      obtain ⟨⟨i1, i2⟩, i3⟩ := putT_ok c ht
      refine ⟨⟨List.pairwise_cons.2 ⟨fun z hz => ?_, i1⟩, fun z hz => ?_⟩, fun a b => ?_⟩
      · rw [ltT_iff] at hx ⊢
        rcases putT_pt hz with ⟨e1, e2⟩ | ⟨y, hy, e1, e2⟩
        · rw [e1, e2]; exact hx
        · rw [e1, e2]; exact ltT_iff.1 (h'.1 y hy)
      · rcases List.mem_cons.1 hz with rfl | hz
        · exact hn.2 _ (by simp)
        · exact i2 z hz
      · simp only [atp, i3]; omega
    · rename_i hx
      split
      · rename_i hc
        split
        · rename_i h0; exact ⟨hn, fun a b => by simp [h0]⟩
        · rename_i h0
          refine ⟨⟨List.pairwise_cons.2 ⟨fun z hz => ?_, hn.1⟩, fun z hz => ?_⟩, fun a b => by simp only [atp]; omega⟩
          · rcases List.mem_cons.1 hz with rfl | hz
            · exact hc
            · have := ltT_iff.1 (h'.1 z hz)
              rw [ltT_iff] at hc ⊢; omega
          · rcases List.mem_cons.1 hz with rfl | hz
            · exact h0
            · exact hn.2 z hz
      · rename_i hc
        have e1 : x.Loc = c.Loc := by rw [ltT_iff] at hx hc; omega
        have e2 : x.Time = c.Time := by rw [ltT_iff] at hx hc; omega
        split
        · rename_i h0
          refine ⟨ht, fun a b => ?_⟩
          simp only [atp, e1, e2]
          split <;> omega
        · rename_i h0
          refine ⟨⟨List.pairwise_cons.2 ⟨fun z hz => ?_, h'.2⟩, fun z hz => ?_⟩, fun a b => ?_⟩
          · have := ltT_iff.1 (h'.1 z hz)
            rw [ltT_iff]; exact this
          · rcases List.mem_cons.1 hz with rfl | hz
            · exact h0
            · exact ht.2 z hz
          · simp only [atp, e1, e2]
            split <;> omega
/-- The tally of changes. -/
def nrm : List GChange → List GChange
  | [] => []
  | x :: l => putT (nrm l) x
theorem nrm_ok : ∀ l : List GChange, Norm (nrm l) ∧ ∀ a b, atp (nrm l) a b = atp l a b
  | [] => ⟨⟨List.Pairwise.nil, by simp [nrm]⟩, fun a b => rfl⟩
  | x :: l => by
    obtain ⟨h1, h2⟩ := nrm_ok l
    obtain ⟨h3, h4⟩ := putT_ok x h1
    exact ⟨h3, fun a b => by rw [nrm, h4, h2, atp]; omega⟩
theorem nrm_norm (l : List GChange) : Norm (nrm l) := (nrm_ok l).1
theorem nrm_at (l : List GChange) (a b : Int) : atp (nrm l) a b = atp l a b := (nrm_ok l).2 a b
theorem nrm_eq {l t : List GChange} (h : Norm t) (ha : ∀ a b, atp t a b = atp l a b) : nrm l = t := norm_unique (nrm_norm l) h fun a b => by rw [nrm_at, ha]
theorem nrm_pt : ∀ {l : List GChange} {z : GChange}, z ∈ nrm l → ∃ x ∈ l, z.Loc = x.Loc ∧ z.Time = x.Time
  | [], z, h => by simp [nrm] at h
  | x :: l, z, h => by
    rcases putT_pt h with h | ⟨y, hy, e1, e2⟩
    · exact ⟨x, by simp, h⟩
    · obtain ⟨w, hw, e3, e4⟩ := nrm_pt hy
      exact ⟨w, by simp [hw], e1.trans e3, e2.trans e4⟩
theorem putT_len : ∀ (t : List GChange) (c : GChange), (putT t c).length ≤ t.length + 1
  | [], c => by unfold putT; split <;> simp
  | x :: t, c => by
    have := putT_len t c
    unfold putT
    split
    · simp; omega
    · split
      · split <;> simp
      · split <;> simp <;> omega
theorem nrm_len : ∀ l : List GChange, (nrm l).length ≤ l.length
  | [] => by simp [nrm]
  | x :: l => by have := putT_len (nrm l) x; have := nrm_len l; simp only [nrm, List.length_cons]; omega
theorem putT_abs : ∀ (t : List GChange) (c : GChange), absum (putT t c) ≤ absum t + c.N.natAbs
  | [], c => by unfold putT; split <;> simp [absum]
  | x :: t, c => by
    have := putT_abs t c
    unfold putT
    split
    · simp only [absum]; omega
    · split
      · split <;> simp only [absum] <;> omega
      · split <;> simp only [absum] <;> omega
theorem nrm_abs : ∀ l : List GChange, absum (nrm l) ≤ absum l
  | [] => by simp [nrm, absum]
  | x :: l => by have := putT_abs (nrm l) x; have := nrm_abs l; simp only [nrm, absum]; omega
/-! ### the program's Normal -/
theorem cut_0 {α : Type} {l : List α} {b : Nat} (h : b ≤ l.length) : cut l 0 (b : Int) = some (l.take b) := by
  have := cut_ok (Nat.zero_le b) h
  simpa using this
theorem cut_00 {α : Type} {l : List α} : cut l 0 0 = some [] := by
  have := cut_0 (l := l) (Nat.zero_le _)
  simpa using this
theorem index_ok {l : List GChange} (hl : l.length ≤ 100000000) : (m_slices_IndexFunc_Change__tally_Normal_1 l = some (-1) ∧ ∀ x ∈ l, x.N ≠ 0) ∨ ∃ K x R, l = K ++ x :: R ∧ (∀ y ∈ K, y.N ≠ 0) ∧ x.N = 0 ∧ m_slices_IndexFunc_Change__tally_Normal_1 l = some (K.length : Int) := by
  unfold m_slices_IndexFunc_Change__tally_Normal_1
  have := loop1_0 (L := fun fu i => m_slices_IndexFunc_Change__tally_Normal_1_l1 l fu i) (n := l.length) (P := fun i o => (o = some (-1) ∧ ∀ x ∈ l.drop i, x.N ≠ 0) ∨ ∃ K x R, l.drop i = K ++ x :: R ∧ (∀ y ∈ K, y.N ≠ 0) ∧ x.N = 0 ∧ o = some ((i : Int) + (K.length : Int))) (by omega)
    (fun fu => by unfold m_slices_IndexFunc_Change__tally_Normal_1_l1; rw [d_nlt (by omega), cond_false]; exact .inl ⟨rfl, by simp⟩)
    (fun fu i hi ih => by
      unfold m_slices_IndexFunc_Change__tally_Normal_1_l1 m_tally_Normal_1
      rw [d_lt (by omega), cond_true, geti_lt hi, obind_some, obind_some, drop_cons hi]
      by_cases h : l[i].N = 0
      · rw [decide_eq_true h, cond_true]
        exact .inr ⟨[], l[i], _, rfl, by simp, h, by simp⟩
      · rw [decide_eq_false h, cond_false, inc_ok (by omega)]
        rcases ih with ⟨e, q⟩ | ⟨K, x, R, e, q, z, e2⟩
        · exact .inl ⟨e, fun x hx => by
            rcases List.mem_cons.1 hx with rfl | hx
            · exact h
            · exact q x hx⟩
        · refine .inr ⟨l[i] :: K, x, R, by rw [e]; rfl, fun y hy => ?_, z, by rw [e2]; congr 1; simp; omega⟩
          rcases List.mem_cons.1 hy with rfl | hy
          · exact h
          · exact q y hy)
  rcases this with ⟨e, q⟩ | ⟨K, x, R, e, q, z, e2⟩
  · exact .inl ⟨e, by simpa using q⟩
  · exact .inr ⟨K, x, R, by simpa using e, q, z, by simpa using e2⟩
theorem del_l : ∀ (R K J : List GChange) (fu : Nat), R.length < fu → 0 < J.length → K.length + J.length + R.length ≤ 100000000 → m_slices_DeleteFunc_Change__tally_Normal_1_l1 fu (K ++ (J ++ R)) (K.length : Int) ((K.length + J.length : Nat) : Int) = some (K ++ R.filter fun x => decide (x.N ≠ 0))
  | _, _, _, 0, h, _, _ => by omega
  | [], K, J, fu + 1, hf, hJ, hb => by
    unfold m_slices_DeleteFunc_Change__tally_Normal_1_l1
    have hl : (List.length (K ++ (J ++ [])) : Nat) = K.length + J.length := by simp
    rw [hl, d_nlt (by omega), cond_false, chk_ok (by omega)]
    have hc : (clr (K ++ (J ++ [])) (Int.toNat (K.length : Int)) (GChange.mk 0 0 0)) = K ++ List.replicate J.length (GChange.mk 0 0 0) := by
      unfold clr
      rw [Int.toNat_natCast, List.take_left' rfl]; simp
    rw [hc, cut_0 (by simp), obind_some]; simp
  | x :: R, K, J, fu + 1, hf, hJ, hb => by
    simp only [List.length_cons] at hf hb
    unfold m_slices_DeleteFunc_Change__tally_Normal_1_l1 m_tally_Normal_1
    have hl : (List.length (K ++ (J ++ x :: R)) : Nat) = K.length + J.length + R.length + 1 := by simp; omega
    have g : geti (K ++ (J ++ x :: R)) ((K.length + J.length : Nat) : Int) = some x := geti_at (p := K ++ J) (q := R) (by simp) (by simp)
    rw [hl, d_lt (by omega), cond_true, g, obind_some, obind_some]
    obtain ⟨y, J', rfl⟩ : ∃ y J', J = y :: J' := by cases J with | nil => simp at hJ | cons y J' => exact ⟨y, J', rfl⟩
    by_cases h : x.N = 0
    · rw [decide_eq_true h, Bool.not_true, cond_false, inc_ok (by omega)]
      have := del_l R K ((y :: J') ++ [x]) fu (by omega) (by simp) (by simp at hb ⊢; omega)
      rw [List.filter_cons_of_neg (by simp [h])]
      simp only [List.length_append, List.length_singleton, List.append_assoc, List.singleton_append] at this
      exact this
    · rw [decide_eq_false h, Bool.not_false, cond_true, inc_ok (by omega), inc_ok (by omega)]
      have g2 : geti (K ++ (y :: J' ++ x :: R)) (K.length : Int) = some y := geti_at (p := K) (q := J' ++ x :: R) rfl rfl
      have s2 := set_at (l := K ++ (y :: J' ++ x :: R)) (p := K) (x := y) (y := x) (q := J' ++ x :: R) (i := (K.length : Int)) rfl rfl
      rw [g2, obind_some, s2, List.filter_cons_of_pos (by simp [h])]
      have := del_l R (K ++ [x]) (J' ++ [x]) fu (by omega) (by simp) (by simp at hb ⊢; omega)
      have e : K ++ x :: (J' ++ x :: R) = K ++ [x] ++ (J' ++ [x] ++ R) := by simp
      rw [e]
      simp only [List.length_append, List.length_cons, List.length_nil, Nat.zero_add] at this ⊢
      rw [show K.length + (J'.length + 1) + 1 = K.length + 1 + (J'.length + 1) by omega, this]
      simp
theorem delete_ok {l : List GChange} (hl : l.length ≤ 100000000) : m_slices_DeleteFunc_Change__tally_Normal_1 l = some (l.filter fun x => decide (x.N ≠ 0)) := by
  unfold m_slices_DeleteFunc_Change__tally_Normal_1
  rcases index_ok hl with ⟨e, q⟩ | ⟨K, x, R, e, q, z, e2⟩
  · rw [e, obind_some, decide_eq_true rfl, cond_true]
    congr 1
    exact (List.filter_eq_self.2 fun x hx => by simpa using q x hx).symm
  · rw [e2, obind_some, decide_eq_false (by omega), cond_false]
    subst e
    simp only [List.length_append, List.length_cons] at hl
    have := del_l R K [x] 1152921504606846976 (by omega) (by simp) (by simp; omega)
    rw [inc_ok (by omega)]
    have e3 : K ++ x :: R = K ++ ([x] ++ R) := by simp
    rw [e3]
    simp only [List.length_singleton] at this
    have eK : K.filter (fun x => decide (x.N ≠ 0)) = K := List.filter_eq_self.2 fun y hy => by simpa using q y hy
    rw [this, List.filter_append, List.filter_append, eK]
    simp [z]
/-- Behind the points D, out has each once, what is there added up. -/
structure Mrg (D out : List GChange) : Prop where
  st : out.Pairwise ltT
  at_ : ∀ a b, atp out a b = atp D a b
  last : ∀ x, D.getLast? = some x → ∃ O y, out = O ++ [y] ∧ y.Loc = x.Loc ∧ y.Time = x.Time
  abs : absum out ≤ absum D
  len : out.length ≤ D.length
  ge : ∀ z ∈ out, ∃ x ∈ D, z.Loc = x.Loc ∧ z.Time = x.Time
theorem mrg_l {s : List GChange} (hs : Srt ltT s) (ha : absum s ≤ 4611686018427387904) (hl : s.length ≤ 100000000) : ∀ (R D out : List GChange) (fu : Nat), s = D ++ R → R.length < fu → Mrg D out →
    ∃ t, m_tally_Normal_l4 s fu out (D.length : Int) = some (t.filter fun x => decide (x.N ≠ 0)) ∧ Mrg s t
  | _, _, _, 0, _, h, _ => by omega
  | [], D, out, fu + 1, e, hf, hm => by
    have hlD : s.length = D.length := by rw [e]; simp
    unfold m_tally_Normal_l4
    rw [hlD, d_nlt (by omega), cond_false, delete_ok (by have := hm.len; omega), obind_some]
    exact ⟨out, rfl, by rw [e, List.append_nil]; exact hm⟩
  | c :: R, D, out, fu + 1, e, hf, hm => by
    have hlD : s.length = D.length + R.length + 1 := by rw [e]; simp; omega
    have hol := hm.len
    have gc : geti s (D.length : Int) = some c := geti_at e rfl
    have habs : absum s = absum D + (c.N.natAbs + absum R) := by rw [e, absum_app, absum]
    have e' : s = (D ++ [c]) ++ R := by rw [e]; simp
    have hs' := hs
    rw [e, Srt.app] at hs'
    have hoa := hm.abs
    have next : ∀ out', Mrg (D ++ [c]) out' → ∃ t, m_tally_Normal_l4 s fu out' (IntKind.i64.wrap ((D.length : Int) + 1)) = some (t.filter fun x => decide (x.N ≠ 0)) ∧ Mrg s t := fun out' hm' => by
      rw [inc_ok (by omega)]
      have := mrg_l hs ha hl R (D ++ [c]) out' fu e' (by simp at hf; omega) hm'
      simpa using this
    -- a new point
    have fresh : (∀ z ∈ out, ltT z c) → Mrg (D ++ [c]) (out ++ [c]) := fun hz =>
      ⟨List.pairwise_append.2 ⟨hm.st, List.pairwise_singleton _ _, fun a ha b hb => by simp at hb; subst hb; exact hz a ha⟩, fun a b => by rw [atp_app, atp_app, hm.at_], fun x hx => ⟨out, c, rfl, by simp at hx; subst hx; exact ⟨rfl, rfl⟩⟩,
        by rw [absum_app, absum_app]; omega, by simp; omega, fun z hz => by
          rcases List.mem_append.1 hz with hz | hz
          · obtain ⟨x, hx, e⟩ := hm.ge z hz; exact ⟨x, List.mem_append_left _ hx, e⟩
          · simp at hz; subst hz; exact ⟨z, by simp, rfl, rfl⟩⟩
    unfold m_tally_Normal_l4
    rw [d_lt (by omega), cond_true, gc, obind_some]
    by_cases h0 : 0 < D.length
    · rw [d_lt (by omega), cond_true, w64 (n := (D.length : Int) - 1) (by omega) (by omega)]
      obtain ⟨D', d, rfl⟩ : ∃ D' d, D = D' ++ [d] := ⟨D.dropLast, D.getLast (List.ne_nil_of_length_pos h0), (List.dropLast_concat_getLast _).symm⟩
      have hDl : (D' ++ [d]).length = D'.length + 1 := by simp
      have gd : geti s (((D' ++ [d]).length : Int) - 1) = some d := geti_at (p := D') (q := c :: R) (by rw [e]; simp) (by simp)
      rw [gd, obind_some, order_ok, obind_some]
      obtain ⟨O, y, hO, y1, y2⟩ := hm.last d (by simp)
      have hdc : ¬ ltT c d := hs'.2.2 d (by simp) c (by simp)
      by_cases hz : ordT d c = 0
      · rw [decide_eq_true hz, cond_true]
        have hz' := ordT_zero.1 hz
        subst hO
        simp only [List.length_append, List.length_singleton] at hol
        have hOl : (O ++ [y]).length = O.length + 1 := by simp
        have hyN : (y.N).natAbs ≤ absum (O ++ [y]) := absum_mem (by simp)
        have hp : Mrg (D' ++ [d] ++ [c]) (O ++ [⟨y.Loc, y.Time, y.N + c.N⟩]) := by
          have h1 := List.pairwise_append.1 hm.st
          refine ⟨List.pairwise_append.2 ⟨h1.1, List.pairwise_singleton _ _, fun a ha b hb => ?_⟩, fun a b => ?_, fun x hx => ⟨O, _, rfl, ?_⟩, ?_, by simp at hol ⊢; omega, fun z hz => ?_⟩
          · simp at hb; subst hb
            have := ltT_iff.1 (h1.2.2 a ha y (by simp))
            rw [ltT_iff]; exact this
          · have := hm.at_ a b
            rw [atp_app] at this ⊢
            rw [atp_app (D' ++ [d])]
            simp only [atp] at this ⊢
            rw [y1, y2] at this ⊢
            rw [hz'.1, hz'.2] at this ⊢
            by_cases hq : c.Loc = a ∧ c.Time = b
            · simp only [if_pos hq] at this ⊢; omega
            · simp only [if_neg hq] at this ⊢; omega
          · simp at hx; subst hx; exact ⟨y1.trans hz'.1, y2.trans hz'.2⟩
          · have := hm.abs
            rw [absum_app] at this ⊢
            rw [absum_app (D' ++ [d])]
            simp only [absum] at this ⊢
            omega
          · rcases List.mem_append.1 hz with hz | hz
            · obtain ⟨x, hx, e⟩ := hm.ge z (by simp [hz]); exact ⟨x, List.mem_append_left _ hx, e⟩
            · simp at hz; subst hz; exact ⟨d, by simp, y1, y2⟩
        have gl : geti (O ++ [y]) ((O.length : Int) + 1 - 1) = some y := geti_at (p := O) (q := []) rfl (by omega)
        have sl : ∀ v, (O ++ [y]).set (Int.toNat ((O.length : Int) + 1 - 1)) v = O ++ [v] := fun v => set_at (p := O) (q := []) rfl (by omega)
        have hll : ((List.length (O ++ [y]) : Nat) : Int) = (O.length : Int) + 1 := by simp
        have hcN : c.N.natAbs ≤ absum s := by omega
        rw [hll, w64 (n := (O.length : Int) + 1 - 1) (by omega) (by omega), gl, obind_some, obind_some, sl, w64 (n := y.N + c.N) (by omega) (by omega)]
        exact next _ hp
      · rw [decide_eq_false hz, cond_false, app_ok (by simp at hol ⊢; omega), obind_some]
        refine next _ (fresh fun z hzz => ?_)
        have hdl : ltT d c := by
          rw [ltT_iff] at hdc ⊢
          have := mt ordT_zero.2 hz
          omega
        have hzy : z = y ∨ ltT z y := by
          rw [hO] at hzz hm
          rcases List.mem_append.1 hzz with hzz | hzz
          · exact .inr ((List.pairwise_append.1 hm.st).2.2 z hzz y (by simp))
          · simp at hzz; exact .inl hzz
        rw [ltT_iff] at hdl ⊢
        rcases hzy with rfl | hzy
        · omega
        · rw [ltT_iff] at hzy; omega
    · have hD : D = [] := List.eq_nil_of_length_eq_zero (by omega)
      subst hD
      rw [d_nlt (by simp), cond_false]
      have ho : out = [] := List.eq_nil_of_length_eq_zero (by simpa using hol)
      subst ho
      rw [app_ok (by simp), obind_some]
      exact next _ (fresh (by simp))
theorem filter_at : ∀ (t : List GChange) (a b : Int), atp (t.filter fun x => decide (x.N ≠ 0)) a b = atp t a b
  | [], _, _ => rfl
  | x :: t, a, b => by
    have := filter_at t a b
    rw [List.filter_cons]
    split
    · simp only [atp, this]
    · rename_i h
      have : x.N = 0 := by simpa using h
      simp only [atp, filter_at t, this]; split <;> omega
/-- Changes that can be added up: not too many, and not too much of them. -/
def small (l : List GChange) : Prop := l.length ≤ 1000000 ∧ absum l ≤ 1152921504606846976
theorem normal_ok {l : List GChange} (h : small l) : m_tally_Normal l = some (nrm l) := by
  obtain ⟨hl, ha⟩ := h
  unfold m_tally_Normal
  rw [show mkl ((List.length l : Nat) : Int) (GChange.mk 0 0 0) = some (List.replicate l.length (GChange.mk 0 0 0)) by unfold mkl; rw [if_pos (by omega)]; simp,
    obind_some, show cpy (List.replicate l.length (GChange.mk 0 0 0)) l = some l by unfold cpy; rw [if_pos (by simp)]; simp, obind_some]
  unfold m_slices_SortStableFunc_Change__tally_order
  obtain ⟨s, s1, s2, s3⟩ := m_tally_order_sort.stb_ok (Q := fun _ => True) (c := ordT) (fun x y _ _ => order_ok x y) ordQ (l := l) (by omega) (fun _ _ => trivial)
  have hsl := s1.length_eq
  rw [s3, obind_some, obind_some]
  obtain ⟨t, t1, t2⟩ := mrg_l s2 (by rw [absum_perm s1]; omega) (by omega) s [] [] 1152921504606846976 rfl (by omega) ⟨List.Pairwise.nil, fun _ _ => rfl, fun x hx => by simp at hx, Nat.le_refl _, Nat.le_refl _, by simp⟩
  have e0 : ((([] : List GChange).length : Nat) : Int) = 0 := rfl
  rw [e0] at t1
  rw [t1]
  congr 1
  refine (nrm_eq ⟨t2.st.sublist List.filter_sublist, fun x hx => by simpa using (List.mem_filter.1 hx).2⟩ fun a b => ?_).symm
  rw [filter_at, t2.at_, atp_perm s1]
end Go.Proofs.Ytcpageegmpjkiaa.K

namespace Go.Proofs.Ytcpageegmpjkiaa.K
open Go.RowKit Go.Lib
theorem grow_ok {n : Nat} (h : n ≤ 1000000000) : m_slices_Grow_Change (n : Int) = some [] := by
  unfold m_slices_Grow_Change
  rw [d_nlt (by omega), cond_false, w64 (by omega) (by omega)]
  by_cases h0 : 0 < n
  · rw [d_lt (by omega), cond_true, show (n : Int) - 0 = (n : Int) by omega, show mkl (n : Int) (GChange.mk 0 0 0) = some (List.replicate n (GChange.mk 0 0 0)) by unfold mkl; rw [if_pos (by omega)]; simp, obind_some, chk_ok (by omega)]
    rw [cut_00, obind_some]
  · rw [d_nlt (by omega), cond_false]
theorem concat_ok {a b : List GChange} (h : a.length + b.length ≤ 1000000) : m_slices_Concat_Change [a, b] = some (a ++ b) := by
  unfold m_slices_Concat_Change
  show m_slices_Concat_Change_l1 [a, b] (1152921504606846973 + 1 + 1 + 1) 0 0 = _
  unfold m_slices_Concat_Change_l1
  rw [decide_eq_true (by simp), cond_true, show geti [a, b] 0 = some a from rfl, obind_some, w64 (n := 0 + ((List.length a : Nat) : Int)) (by omega) (by omega), d_nlt (by omega), cond_false]
  unfold m_slices_Concat_Change_l1
  rw [show IntKind.i64.wrap (0 + 1) = 1 from w64 (by omega) (by omega), decide_eq_true (by simp), cond_true, show geti [a, b] 1 = some b from rfl, obind_some, w64 (n := 0 + ((List.length a : Nat) : Int) + ((List.length b : Nat) : Int)) (by omega) (by omega), d_nlt (by omega), cond_false]
  unfold m_slices_Concat_Change_l1
  rw [show IntKind.i64.wrap (1 + 1) = 2 from w64 (by omega) (by omega), decide_eq_false (by simp), cond_false, show 0 + ((List.length a : Nat) : Int) + ((List.length b : Nat) : Int) = ((a.length + b.length : Nat) : Int) by omega, grow_ok (by omega), obind_some]
  show m_slices_Concat_Change_l6 [a, b] (1152921504606846973 + 1 + 1 + 1) [] 0 = _
  unfold m_slices_Concat_Change_l6
  rw [decide_eq_true (by simp), cond_true, show geti [a, b] 0 = some a from rfl, obind_some, app_ok (by simp; omega), obind_some]
  unfold m_slices_Concat_Change_l6
  rw [show IntKind.i64.wrap (0 + 1) = 1 from w64 (by omega) (by omega), decide_eq_true (by simp), cond_true, show geti [a, b] 1 = some b from rfl, obind_some, app_ok (by simp; omega), obind_some]
  unfold m_slices_Concat_Change_l6
  rw [show IntKind.i64.wrap (1 + 1) = 2 from w64 (by omega) (by omega), decide_eq_false (by simp), cond_false, List.nil_append]
theorem merge_ok {a b : List GChange} (h : small (a ++ b)) : m_tally_Merge a b = some (nrm (a ++ b)) := by
  have hl := h.1
  rw [List.length_append] at hl
  unfold m_tally_Merge
  rw [concat_ok hl, obind_some, normal_ok h, obind_some]
end Go.Proofs.Ytcpageegmpjkiaa.K

namespace Go.Proofs.Ytcpageegmpjkiaa.K
open Go.RowKit Go.Lib
theorem eq_loop {α : Type} [DecidableEq α] {L : Nat → Int → Option Bool} {a b : List α} (hl : a.length = b.length) (hb : a.length ≤ 1000000000) (hend : ∀ fu, L (fu + 1) (a.length : Int) = some true)
    (hstep : ∀ (fu i : Nat) (h1 : i < a.length) (h2 : i < b.length), L (fu + 1) (i : Int) = if a[i] = b[i] then L fu ((i + 1 : Nat) : Int) else some false) : L 1152921504606846976 0 = some (decide (a = b)) := by
  have := loop1_0 (L := L) (n := a.length) (P := fun i o => o = some (decide (a.drop i = b.drop i))) (by omega)
    (fun fu => by
      rw [hend, List.drop_eq_nil_of_le (Nat.le_refl _), List.drop_eq_nil_of_le (by omega)]; rfl)
    (fun fu i hi ih => by
      rw [hstep fu i hi (by omega), drop_cons hi, drop_cons (l := b) (by omega)]
      by_cases h : a[i] = b[i]'(by omega)
      · rw [if_pos h, ih]
        congr 1
        exact decide_eq_decide.2 ⟨fun e => by rw [h, e], fun e => (List.cons.inj e).2⟩
      · rw [if_neg h]
        congr 1
        exact (decide_eq_false fun e => h (List.cons.inj e).1).symm)
  simpa using this
end Go.Proofs.Ytcpageegmpjkiaa.K

namespace Go.Proofs.Ytcpageegmpjkiaa.K
open Go.RowKit Go.Lib
theorem ch_eq (x y : GChange) : (decide (x.Loc = y.Loc) && (decide (x.Time = y.Time) && (decide (x.N = y.N) && true))) = decide (x = y) := by
  rw [Bool.eq_iff_iff]
  simp only [Bool.and_eq_true, decide_eq_true_eq, and_true]
  constructor
  · rintro ⟨h1, h2, h3⟩; cases x; cases y; simp_all
  · rintro rfl; exact ⟨rfl, rfl, rfl⟩
theorem tsame_ok {a b : List GChange} (ha : a.length ≤ 1000000000) (hb : b.length ≤ 1000000000) : m_tally_Same a b = some (decide (a = b)) := by
  unfold m_tally_Same m_slices_Equal_Change
  by_cases hl : a.length = b.length
  · rw [decide_eq_false (by omega), cond_false, eq_loop (L := fun fu i => m_slices_Equal_Change_l2 a b fu i) hl ha (fun fu => by unfold m_slices_Equal_Change_l2; rw [d_nlt (by omega), cond_false]) (fun fu i h1 h2 => by
      conv => lhs; unfold m_slices_Equal_Change_l2
      rw [d_lt (by omega), cond_true, geti_lt h1, obind_some, geti_lt h2, obind_some, obind_some, ch_eq, inc_ok (by omega)]
      by_cases h : a[i] = b[i]
      · rw [decide_eq_true h, if_pos h]; rfl
      · rw [decide_eq_false h, if_neg h]; rfl), obind_some]
  · rw [decide_eq_true (by omega), cond_true, obind_some, decide_eq_false (fun e => hl (by rw [e]))]
end Go.Proofs.Ytcpageegmpjkiaa.K

namespace Go.Proofs.Ytcpageegmpjkiaa.K
open Go.RowKit Go.Lib
def leads (a b : Int) : Bool := decide (0 ≤ a) && (decide (a ≤ b) && decide (b ≤ 3))
theorem leads_ok (a b : Int) : m_front_Leads a b = some (leads a b) := by
  unfold m_front_Leads leads
  by_cases h1 : 0 ≤ a
  · by_cases h2 : a ≤ b
    · rw [decide_eq_true h1, decide_eq_true h2, cond_true, cond_true]
      congr 1
      by_cases h3 : b ≤ 3
      · rw [decide_eq_true h3, decide_eq_true (by omega)]; rfl
      · rw [decide_eq_false h3, decide_eq_false (by omega)]; rfl
    · rw [decide_eq_true h1, decide_eq_false h2, cond_true, cond_false]; rfl
  · rw [decide_eq_false h1, cond_false]; rfl
/-- The least moment of those that q picks, and d. -/
def fmin (q : GChange → Bool) : List GChange → Int → Int
  | [], d => d
  | x :: l, d => fmin q l (if q x then min d x.Time else d)
theorem fmin_spec (q : GChange → Bool) : ∀ (l : List GChange) (d : Int), fmin q l d ≤ d ∧ (∀ x ∈ l, q x = true → fmin q l d ≤ x.Time) ∧ (fmin q l d = d ∨ ∃ x ∈ l, q x = true ∧ fmin q l d = x.Time)
  | [], d => ⟨Int.le_refl _, by simp, .inl rfl⟩
  | y :: l, d => by
    obtain ⟨h1, h2, h3⟩ := fmin_spec q l (if q y then min d y.Time else d)
    unfold fmin
    refine ⟨?_, fun x hx hq => ?_, ?_⟩
    · refine Int.le_trans h1 ?_
      split <;> omega
    · rcases List.mem_cons.1 hx with rfl | hx
      · rw [if_pos hq] at h1 ⊢; omega
      · exact h2 x hx hq
    · rcases h3 with h3 | ⟨x, hx, hq, e⟩
      · rw [h3]
        by_cases hy : q y = true
        · rw [if_pos hy]
          by_cases h : d ≤ y.Time
          · exact .inl (by omega)
          · exact .inr ⟨y, by simp, hy, by omega⟩
        · rw [if_neg hy]; exact .inl rfl
      · exact .inr ⟨x, by simp [hx], hq, e⟩
/-- Two that pick the same moments have the same least one. -/
theorem fmin_congr {q r : GChange → Bool} {l m : List GChange} {d : Int} (h1 : ∀ x ∈ l, q x = true → ∃ y ∈ m, r y = true ∧ y.Time = x.Time) (h2 : ∀ y ∈ m, r y = true → ∃ x ∈ l, q x = true ∧ x.Time = y.Time) : fmin q l d = fmin r m d := by
  obtain ⟨a1, a2, a3⟩ := fmin_spec q l d
  obtain ⟨b1, b2, b3⟩ := fmin_spec r m d
  have : fmin q l d ≤ fmin r m d := by
    rcases b3 with e | ⟨y, hy, hr, e⟩
    · omega
    · obtain ⟨x, hx, hq, e2⟩ := h2 y hy hr
      have := a2 x hx hq; omega
  have : fmin r m d ≤ fmin q l d := by
    rcases a3 with e | ⟨y, hy, hr, e⟩
    · omega
    · obtain ⟨x, hx, hq, e2⟩ := h1 y hy hr
      have := b2 x hx hq; omega
  omega
/-- What is there, and where it goes to. -/
def there (l : List GChange) (loc : Int) (x : GChange) : Bool := leads x.Loc loc && decide (0 < atp l x.Loc x.Time)
/-- The frontier at a place. -/
def frn (l : List GChange) (loc : Int) : Int := max 0 (fmin (there l loc) l 1099511627777)
theorem at_pos {l : List GChange} {a b : Int} (h : 0 < atp l a b) : ∃ x ∈ l, x.Loc = a ∧ x.Time = b := by
  refine Classical.byContradiction fun hn => ?_
  have := atp_none (l := l) (a := a) (b := b) fun x hx e => hn ⟨x, hx, e⟩
  omega
/-- What stands in a frontier. -/
theorem frn_spec (l : List GChange) (loc : Int) : (0 ≤ frn l loc ∧ frn l loc ≤ 1099511627777) ∧ (∀ a b, leads a loc = true → 0 < atp l a b → frn l loc ≤ max 0 b) ∧ (frn l loc = 1099511627777 ∨ ∃ a b, leads a loc = true ∧ 0 < atp l a b ∧ frn l loc = max 0 b) := by
  obtain ⟨a1, a2, a3⟩ := fmin_spec (there l loc) l 1099511627777
  unfold frn
  refine ⟨by omega, fun a b hl hp => ?_, ?_⟩
  · obtain ⟨x, hx, e1, e2⟩ := at_pos hp
    have := a2 x hx (by unfold there; rw [e1, e2, hl]; simpa using hp)
    omega
  · rcases a3 with e | ⟨x, hx, hq, e⟩
    · exact .inl (by omega)
    · unfold there at hq
      simp only [Bool.and_eq_true, decide_eq_true_eq] at hq
      exact .inr ⟨x.Loc, x.Time, hq.1, hq.2, by omega⟩
theorem of_ok {l : List GChange} (h : small l) (loc : Int) : m_front_Of l loc = some (frn l loc) := by
  unfold m_front_Of
  rw [normal_ok h, obind_some]
  have hl := nrm_len l
  have hs := h.1
  have key := loopG_0 (L := fun fu s i => m_front_Of_l1 loc (nrm l) fu s i) (n := (nrm l).length) (P := fun i s o => o = some (max (fmin (fun x => decide (0 < x.N) && leads x.Loc loc) ((nrm l).drop i) s) 0)) (by omega)
    (fun fu s => by unfold m_front_Of_l1; rw [d_nlt (by omega), cond_false]; simp [fmin])
    (fun fu s i hi ih => by
      unfold m_front_Of_l1
      rw [d_lt (by omega), cond_true, geti_lt hi, obind_some, drop_cons hi]
      unfold fmin
      by_cases h1 : 0 < (nrm l)[i].N
      · rw [d_lt h1, cond_true, leads_ok, obind_some]
        by_cases h2 : leads (nrm l)[i].Loc loc = true
        · rw [h2, cond_true]
          by_cases h3 : (nrm l)[i].Time < s
          · rw [d_lt h3, cond_true, inc_ok (by omega), ih]
            simp only [Bool.true_and, if_true]
            rw [show min s (nrm l)[i].Time = (nrm l)[i].Time by omega]
          · rw [d_nlt h3, cond_false, inc_ok (by omega), ih]
            simp only [Bool.true_and, if_true]
            rw [show min s (nrm l)[i].Time = s by omega]
        · have h2 : leads (nrm l)[i].Loc loc = false := by simpa using h2
          rw [h2, cond_false]
          unfold m_front_Of_j4
          rw [inc_ok (by omega)]
          refine (ih s).trans ?_
          simp
      · rw [d_nlt h1, cond_false]
        unfold m_front_Of_j4
        rw [inc_ok (by omega)]
        refine (ih s).trans ?_
        simp) 1099511627777
  rw [key, List.drop_zero]
  congr 1
  unfold frn
  rw [show ∀ a b : Int, max a b = max b a by omega]
  congr 1
  have hn := nrm_norm l
  refine fmin_congr (fun x hx hq => ?_) fun y hy hq => ?_
  · simp only [Bool.and_eq_true, decide_eq_true_eq] at hq
    obtain ⟨y, hy, e1, e2⟩ := nrm_pt hx
    have := strict_at hn.1 hx
    rw [nrm_at] at this
    refine ⟨y, hy, ?_, e2.symm⟩
    unfold there
    rw [← e1, ← e2, this, hq.2]; simpa using hq.1
  · unfold there at hq
    simp only [Bool.and_eq_true, decide_eq_true_eq] at hq
    obtain ⟨x, hx, e1, e2⟩ := at_pos (l := nrm l) (a := y.Loc) (b := y.Time) (by rw [nrm_at]; exact hq.2)
    have := strict_at hn.1 hx
    rw [e1, e2, nrm_at] at this
    refine ⟨x, hx, ?_, e2⟩
    simp only [Bool.and_eq_true, decide_eq_true_eq]
    exact ⟨by omega, by rw [e1]; exact hq.1⟩
def frnAll (l : List GChange) : GArr4_Int := ⟨frn l 0, frn l 1, frn l 2, frn l 3⟩
theorem all_ok {l : List GChange} (h : small l) : m_front_All l = some (frnAll l) := by
  unfold m_front_All
  show m_front_All_l0 l (1152921504606846971 + 1 + 1 + 1 + 1 + 1) _ 0 = _
  have e1 : IntKind.i64.wrap (0 + 1) = 1 := w64 (by omega) (by omega)
  have e2 : IntKind.i64.wrap (1 + 1) = 2 := w64 (by omega) (by omega)
  have e3 : IntKind.i64.wrap (2 + 1) = 3 := w64 (by omega) (by omega)
  have e4 : IntKind.i64.wrap (3 + 1) = 4 := w64 (by omega) (by omega)
  unfold m_front_All_l0
  rw [decide_eq_true (by omega), cond_true, of_ok h, obind_some, decide_eq_true rfl, cond_true, e1]
  unfold m_front_All_l0
  rw [decide_eq_true (by omega), cond_true, of_ok h, obind_some, decide_eq_false (by omega), cond_false, decide_eq_true rfl, cond_true, e2]
  unfold m_front_All_l0
  rw [decide_eq_true (by omega), cond_true, of_ok h, obind_some, decide_eq_false (by omega), cond_false, decide_eq_false (by omega), cond_false, decide_eq_true rfl, cond_true, e3]
  unfold m_front_All_l0
  rw [decide_eq_true (by omega), cond_true, of_ok h, obind_some, decide_eq_false (by omega), cond_false, decide_eq_false (by omega), cond_false, decide_eq_false (by omega), cond_false, decide_eq_true rfl, cond_true, e4]
  unfold m_front_All_l0
  rw [decide_eq_false (by omega), cond_false]; rfl
/-- A frontier went back. -/
def dropsB (a b : List GChange) : Bool := decide (frn b 0 < frn a 0) || (decide (frn b 1 < frn a 1) || (decide (frn b 2 < frn a 2) || decide (frn b 3 < frn a 3)))
theorem dropsB_iff {a b : List GChange} : dropsB a b = true ↔ ∃ k : Int, 0 ≤ k ∧ k ≤ 3 ∧ frn b k < frn a k := by
  unfold dropsB
  simp only [Bool.or_eq_true, decide_eq_true_eq]
  constructor
  · rintro (h | h | h | h)
    · exact ⟨0, by omega, by omega, h⟩
    · exact ⟨1, by omega, by omega, h⟩
    · exact ⟨2, by omega, by omega, h⟩
    · exact ⟨3, by omega, by omega, h⟩
  · rintro ⟨k, h1, h2, h⟩
    have : k = 0 ∨ k = 1 ∨ k = 2 ∨ k = 3 := by omega
    rcases this with rfl | rfl | rfl | rfl
    · exact .inl h
    · exact .inr (.inl h)
    · exact .inr (.inr (.inl h))
    · exact .inr (.inr (.inr h))
theorem drops_ok {a b : List GChange} (ha : small a) (hb : small b) : m_front_Drops a b = some (dropsB a b) := by
  unfold m_front_Drops
  rw [all_ok ha, obind_some, all_ok hb, obind_some]
  show m_front_Drops_l1 _ _ (1152921504606846971 + 1 + 1 + 1 + 1 + 1) 0 = _
  have e1 : IntKind.i64.wrap (0 + 1) = 1 := w64 (by omega) (by omega)
  have e2 : IntKind.i64.wrap (1 + 1) = 2 := w64 (by omega) (by omega)
  have e3 : IntKind.i64.wrap (2 + 1) = 3 := w64 (by omega) (by omega)
  have e4 : IntKind.i64.wrap (3 + 1) = 4 := w64 (by omega) (by omega)
  have step : ∀ (c : Bool) (x y : Option Bool) (d : Bool), x = some true → y = some d → cond c x y = some (c || d) := fun c x y d hx hy => by cases c <;> simp [hx, hy]
  unfold dropsB
  unfold m_front_Drops_l1
  rw [decide_eq_true (by omega), cond_true, show geti [(frnAll b).a0, (frnAll b).a1, (frnAll b).a2, (frnAll b).a3] 0 = some (frn b 0) from rfl, obind_some, show geti [(frnAll a).a0, (frnAll a).a1, (frnAll a).a2, (frnAll a).a3] 0 = some (frn a 0) from rfl, obind_some]
  refine step _ _ _ _ rfl ?_
  rw [e1]
  unfold m_front_Drops_l1
  rw [decide_eq_true (by omega), cond_true, show geti [(frnAll b).a0, (frnAll b).a1, (frnAll b).a2, (frnAll b).a3] 1 = some (frn b 1) from rfl, obind_some, show geti [(frnAll a).a0, (frnAll a).a1, (frnAll a).a2, (frnAll a).a3] 1 = some (frn a 1) from rfl, obind_some]
  refine step _ _ _ _ rfl ?_
  rw [e2]
  unfold m_front_Drops_l1
  rw [decide_eq_true (by omega), cond_true, show geti [(frnAll b).a0, (frnAll b).a1, (frnAll b).a2, (frnAll b).a3] 2 = some (frn b 2) from rfl, obind_some, show geti [(frnAll a).a0, (frnAll a).a1, (frnAll a).a2, (frnAll a).a3] 2 = some (frn a 2) from rfl, obind_some]
  refine step _ _ _ _ rfl ?_
  rw [e3]
  unfold m_front_Drops_l1
  rw [decide_eq_true (by omega), cond_true, show geti [(frnAll b).a0, (frnAll b).a1, (frnAll b).a2, (frnAll b).a3] 3 = some (frn b 3) from rfl, obind_some, show geti [(frnAll a).a0, (frnAll a).a1, (frnAll a).a2, (frnAll a).a3] 3 = some (frn a 3) from rfl, obind_some]
  have := step (decide (frn b 3 < frn a 3)) (some true) (m_front_Drops_l1 (frnAll b) (frnAll a) 1152921504606846972 (IntKind.i64.wrap (3 + 1))) false rfl (by
    rw [e4]
    show m_front_Drops_l1 _ _ (1152921504606846971 + 1) 4 = _
    unfold m_front_Drops_l1
    rw [decide_eq_false (by omega), cond_false])
  rw [Bool.or_false] at this
  exact this
end Go.Proofs.Ytcpageegmpjkiaa.K

namespace Go.Proofs.Ytcpageegmpjkiaa.K
open Go.RowKit Go.Lib
abbrev Lks := List (GArr2_Int × List (List GChange))
theorem cloneL_ok {l : List (List GChange)} (h : l.length ≤ 1000000) : m_slices_Clone_tally_Change_tally_Change l = some l := by
  unfold m_slices_Clone_tally_Change_tally_Change
  rw [app_ok (by simp; omega), obind_some, List.nil_append]
theorem there_in {x : GNet} {w : Nat} (h : w < x.Views.length) : m_view_Net_there x (w : Int) = some true := by
  unfold m_view_Net_there
  rw [decide_eq_true (by omega), cond_true, decide_eq_true (by omega)]
theorem there_out {x : GNet} {w : Int} (h : w < 0 ∨ (x.Views.length : Int) ≤ w) : m_view_Net_there x w = some false := by
  unfold m_view_Net_there
  by_cases h0 : 0 ≤ w
  · rw [decide_eq_true h0, cond_true, decide_eq_false (by omega)]
  · rw [decide_eq_false h0, cond_false]
theorem cloneN_ok {x : GNet} (h1 : x.Views.length ≤ 1000000) (h2 : x.Pending.length ≤ 1000000) : m_view_Net_clone x = some ⟨x.Cap, x.Views, x.Pending, some (ml x.Links)⟩ := by
  unfold m_view_Net_clone
  rw [cloneL_ok h1, obind_some, cloneL_ok h2, obind_some]
  cases h : x.Links with
  | none => rfl
  | some l => rfl
/-- A net with room for so many workers; its links have keys among these, each once, none empty. -/
structure LOK (W : Nat) (l : Lks) : Prop where
  nodup : (l.map (·.1)).Nodup
  ne : ∀ p ∈ l, p.2 ≠ []
  rng : ∀ p ∈ l, (0 ≤ p.1.a0 ∧ p.1.a0 < W) ∧ 0 ≤ p.1.a1 ∧ p.1.a1 < W
def lk (l : Lks) (i k : Int) : List (List GChange) := lkA l ⟨i, k⟩
theorem LOK.put {W : Nat} {l : Lks} (h : LOK W l) {i k : Int} (hi : 0 ≤ i ∧ i < W) (hk : 0 ≤ k ∧ k < W) {v : List (List GChange)} (hv : v ≠ []) : LOK W (mput l ⟨i, k⟩ v) :=
  ⟨put_nodup h.nodup _ _, fun p hp => by rcases put_mem hp with h' | rfl; exact h.ne p h'; exact hv, fun p hp => by rcases put_mem hp with h' | rfl; exact h.rng p h'; exact ⟨hi, hk⟩⟩
theorem lk_put (l : Lks) (i k i' k' : Int) (v : List (List GChange)) : lk (mput l ⟨i, k⟩ v) i' k' = if i = i' ∧ k = k' then v else lk l i' k' := by
  unfold lk; rw [lkA_put]; simp only [GArr2_Int.mk.injEq]
theorem note_in {x : GNet} {w : Nat} {l : List GChange} (hw : w < x.Views.length) (hp : w < x.Pending.length) (h1 : x.Views.length ≤ 1000000) (h2 : x.Pending.length ≤ 1000000) (hs : small (x.Pending[w] ++ l)) :
    m_view_Net_Note x (w : Int) l = some (⟨x.Cap, x.Views, x.Pending.set w (nrm (x.Pending[w] ++ l)), some (ml x.Links)⟩, 0) := by
  unfold m_view_Net_Note
  rw [there_in hw, obind_some, Bool.not_true, cond_false, cloneN_ok h1 h2, obind_some]
  simp only
  rw [geti_lt hp, obind_some, merge_ok hs, obind_some, obind_some]
  rfl
theorem note_out {x : GNet} {w : Int} {l : List GChange} (h : w < 0 ∨ (x.Views.length : Int) ≤ w) : m_view_Net_Note x w l = some (x, 6) := by
  unfold m_view_Net_Note
  rw [there_out h, obind_some]; rfl
theorem waits_ok (x : GNet) (i k : Int) : m_view_Net_Waits x i k = some (((lk (ml x.Links) i k).length : Nat) : Int) := rfl
/-- What is pending goes to n links, from place i on. -/
def flL (w : Int) (b : List GChange) : Nat → Nat → Lks → Lks
  | _, 0, l => l
  | i, n + 1, l => flL w b (i + 1) n (mput l ⟨w, (i : Int)⟩ (lk l w i ++ [b]))
theorem flL_lk (w : Int) (b : List GChange) : ∀ (n i : Nat) (l : Lks) (j k : Int), lk (flL w b i n l) j k = if j = w ∧ (i : Int) ≤ k ∧ k < i + n then lk l j k ++ [b] else lk l j k
  | 0, i, l, j, k => by unfold flL; rw [if_neg (by omega)]
  | n + 1, i, l, j, k => by
    unfold flL
    rw [flL_lk w b n (i + 1), lk_put]
    by_cases h1 : w = j ∧ (i : Int) = k
    · obtain ⟨rfl, rfl⟩ := h1
      rw [if_neg (by omega), if_pos ⟨rfl, rfl⟩, if_pos (by omega)]
    · rw [if_neg h1]
      by_cases h2 : j = w ∧ ((i + 1 : Nat) : Int) ≤ k ∧ k < ((i + 1 : Nat) : Int) + n
      · rw [if_pos h2, if_pos (by omega)]
      · rw [if_neg h2, if_neg (by omega)]
theorem flL_ok {W : Nat} {w : Int} {b : List GChange} (hw : 0 ≤ w ∧ w < W) : ∀ (n i : Nat) (l : Lks), i + n ≤ W → LOK W l → LOK W (flL w b i n l)
  | 0, i, l, _, h => h
  | n + 1, i, l, hi, h => flL_ok hw n (i + 1) _ (by omega) (h.put hw (by omega) (by simp))
theorem flush_l7 {w : Nat} {x : GNet} (hp : w < x.Pending.length) (hv : x.Views.length ≤ 1000000) : ∀ (n i : Nat) (fu : Nat) (l : Lks), i + n = x.Views.length → n < fu → (∀ k : Nat, i ≤ k → (lk l w k).length ≤ 999999) →
    m_view_Net_Flush_l7 (w : Int) x fu l (i : Int) = some (⟨x.Cap, x.Views, x.Pending.set w [], some (flL w x.Pending[w] i n l)⟩, 0)
  | 0, i, fu, l, hi, hf, hl => by
    obtain ⟨fu, rfl⟩ : ∃ k, fu = k + 1 := ⟨fu - 1, by omega⟩
    unfold m_view_Net_Flush_l7
    rw [d_nlt (by omega), cond_false, geti_lt hp, obind_some]
    rfl
  | n + 1, i, fu, l, hi, hf, hl => by
    obtain ⟨fu, rfl⟩ : ∃ k, fu = k + 1 := ⟨fu - 1, by omega⟩
    have h0 := hl i (Nat.le_refl _)
    unfold m_view_Net_Flush_l7
    have e : m_slices_Clone_tally_Change_tally_Change (Option.getD (mlook l (GArr2_Int.mk (w : Int) (i : Int))) []) = some (lk l w i) := cloneL_ok (l := lk l w i) (by omega)
    rw [d_lt (by omega), cond_true, e, obind_some, geti_lt hp, obind_some, app_ok (by simp; omega), obind_some, inc_ok (by omega), flush_l7 hp hv n (i + 1) fu _ (by omega) (by omega) (fun k hk => by
      rw [lk_put, if_neg (by omega)]; exact hl k (by omega))]
    rfl
/-- Flush, of one that is there. -/
theorem flush_in {x : GNet} {w : Nat} (hw : w < x.Views.length) (hp : w < x.Pending.length) (h1 : x.Views.length ≤ 1000000) (h2 : x.Pending.length ≤ 1000000) (hl : ∀ k : Nat, (lk (ml x.Links) w k).length ≤ 999999) :
    (x.Pending[w] = [] ∧ m_view_Net_Flush x (w : Int) = some (x, 16)) ∨ (x.Pending[w] ≠ [] ∧ (∃ k : Nat, k < x.Views.length ∧ x.Cap ≤ (lk (ml x.Links) w k).length) ∧ m_view_Net_Flush x (w : Int) = some (x, 7)) ∨
    (x.Pending[w] ≠ [] ∧ (∀ k : Nat, k < x.Views.length → ((lk (ml x.Links) w k).length : Int) < x.Cap) ∧ m_view_Net_Flush x (w : Int) = some (⟨x.Cap, x.Views, x.Pending.set w [], some (flL w x.Pending[w] 0 x.Views.length (ml x.Links))⟩, 0)) := by
  have e0 : m_view_Net_Flush x (w : Int) = cond (decide (((List.length x.Pending[w] : Nat) : Int) = 0)) (some (x, 16)) (m_view_Net_Flush_l3 x w 1152921504606846976 0) := by
    unfold m_view_Net_Flush
    rw [there_in hw, obind_some, Bool.not_true, cond_false, geti_lt hp, obind_some]
  by_cases hn : x.Pending[w] = []
  · left
    exact ⟨hn, by rw [e0, decide_eq_true (by simp [hn]), cond_true]⟩
  · right
    have hne : ¬ ((List.length x.Pending[w] : Nat) : Int) = 0 := fun h => hn (List.eq_nil_of_length_eq_zero (by omega))
    rw [e0, decide_eq_false hne, cond_false]
    have fin : m_view_Net_clone x = some ⟨x.Cap, x.Views, x.Pending, some (ml x.Links)⟩ := cloneN_ok h1 h2
    by_cases hex : ∃ k : Nat, k < x.Views.length ∧ x.Cap ≤ (lk (ml x.Links) w k).length
    · left
      refine ⟨hn, hex, ?_⟩
      have := loop1_0 (L := fun fu i => m_view_Net_Flush_l3 x w fu i) (n := x.Views.length) (P := fun i o => (∃ k : Nat, i ≤ k ∧ k < x.Views.length ∧ x.Cap ≤ (lk (ml x.Links) w k).length) → o = some (x, 7)) (by omega)
        (fun fu ⟨k, h3, h4, _⟩ => by omega)
        (fun fu i hi ih ⟨k, h3, h4, h5⟩ => by
          unfold m_view_Net_Flush_l3
          rw [d_lt (by omega), cond_true, waits_ok, obind_some]
          by_cases hc : x.Cap ≤ (lk (ml x.Links) w i).length
          · rw [decide_eq_true hc, cond_true]
          · rw [decide_eq_false hc, cond_false, inc_ok (by omega)]
            refine ih ⟨k, ?_, h4, h5⟩
            rcases Nat.lt_or_ge i k with h | h
            · omega
            · have : k = i := by omega
              rw [this] at h5; exact absurd h5 hc)
      exact this (by obtain ⟨k, h3, h4⟩ := hex; exact ⟨k, by omega, h3, h4⟩)
    · right
      have hall : ∀ k : Nat, k < x.Views.length → ((lk (ml x.Links) w k).length : Int) < x.Cap := fun k hk => by
        rcases Int.lt_or_le ((lk (ml x.Links) w k).length : Int) x.Cap with h | h
        · exact h
        · exact absurd ⟨k, hk, h⟩ hex
      refine ⟨hn, hall, ?_⟩
      exact loop1_0 (L := fun fu i => m_view_Net_Flush_l3 x w fu i) (n := x.Views.length) (P := fun i o => o = some (⟨x.Cap, x.Views, x.Pending.set w [], some (flL w x.Pending[w] 0 x.Views.length (ml x.Links))⟩, 0)) (by omega)
        (fun fu => by
          unfold m_view_Net_Flush_l3
          rw [d_nlt (by omega), cond_false, fin, obind_some]
          exact flush_l7 (x := ⟨x.Cap, x.Views, x.Pending, some (ml x.Links)⟩) hp h1 x.Views.length 0 1152921504606846976 (ml x.Links) (by simp) (by omega) (fun k _ => hl k))
        (fun fu i hi ih => by
          have := hall i hi
          unfold m_view_Net_Flush_l3
          rw [d_lt (by omega), cond_true, waits_ok, obind_some, decide_eq_false (by omega), cond_false, inc_ok (by omega)]
          exact ih)
theorem flush_out {x : GNet} {w : Int} (h : w < 0 ∨ (x.Views.length : Int) ≤ w) : m_view_Net_Flush x w = some (x, 6) := by
  unfold m_view_Net_Flush
  rw [there_out h, obind_some]; rfl
/-- A link without its first batch. -/
def dlL (l : Lks) (i k : Int) : Lks := if (lk l i k).length = 1 then mdel (mput l ⟨i, k⟩ ((lk l i k).drop 1)) ⟨i, k⟩ else mput l ⟨i, k⟩ ((lk l i k).drop 1)
theorem dlL_lk {W : Nat} {l : Lks} (h : LOK W l) (i k i' k' : Int) (hne : lk l i k ≠ []) : lk (dlL l i k) i' k' = if i = i' ∧ k = k' then (lk l i k).drop 1 else lk l i' k' := by
  unfold dlL
  split
  · rename_i h1
    unfold lk
    rw [lkA_del (put_nodup h.nodup _ _), lkA_put]
    simp only [GArr2_Int.mk.injEq]
    by_cases h2 : i = i' ∧ k = k'
    · rw [if_pos h2, if_pos h2]
      unfold lk at h1
      exact (List.drop_eq_nil_of_le (by omega)).symm
    · simp only [if_neg h2]
  · rw [lk_put]
theorem dlL_ok {W : Nat} {l : Lks} (h : LOK W l) {i k : Int} (hi : 0 ≤ i ∧ i < W) (hk : 0 ≤ k ∧ k < W) (hne : lk l i k ≠ []) : LOK W (dlL l i k) := by
  unfold dlL
  split
  · refine ⟨(put_nodup h.nodup _ _).sublist del_keys, fun p hp => ?_, fun p hp => ?_⟩
    · have hd := del_sub hp
      rcases put_mem hd with h' | rfl
      · exact h.ne p h'
      · exfalso
        have h3 := mem_look ((put_nodup h.nodup (⟨i, k⟩ : GArr2_Int) ((lk l i k).drop 1)).sublist (del_keys (k := ⟨i, k⟩))) hp
        rw [look_del (put_nodup h.nodup _ _), if_pos rfl] at h3
        cases h3
    · rcases put_mem (del_sub hp) with h' | rfl
      · exact h.rng p h'
      · exact ⟨hi, hk⟩
  · rename_i h1
    refine h.put hi hk fun e => ?_
    have h2 := congrArg List.length e
    rw [List.length_drop] at h2
    simp at h2
    have h3 : 0 < (lk l i k).length := List.length_pos_iff.2 hne
    omega
theorem deliver_in {x : GNet} {i k : Nat} (hi : i < x.Views.length) (hk : k < x.Views.length) (h1 : x.Views.length ≤ 1000000) (h2 : x.Pending.length ≤ 1000000) (hl : (lk (ml x.Links) i k).length ≤ 1000000) :
    (lk (ml x.Links) i k = [] ∧ m_view_Net_Deliver x (i : Int) (k : Int) = some (x, 16)) ∨
    ∃ b r, lk (ml x.Links) i k = b :: r ∧ (small (x.Views[k] ++ b) → m_view_Net_Deliver x (i : Int) (k : Int) = some (⟨x.Cap, x.Views.set k (nrm (x.Views[k] ++ b)), x.Pending, some (dlL (ml x.Links) i k)⟩, 0)) := by
  have e0 : m_view_Net_Deliver x (i : Int) (k : Int) = cond (decide ((((lk (ml x.Links) i k).length : Nat) : Int) = 0)) (some (x, 16)) (Option.bind (m_view_Net_clone x) fun r32_3 =>
      Option.bind (geti r32_3.Views (k : Int)) fun x43_4 => Option.bind (geti (lk (ml r32_3.Links) i k) 0) fun x46_4 => Option.bind (m_tally_Merge x43_4 x46_4) fun r48_4 => Option.bind (geti r32_3.Views (k : Int)) fun x49_4 =>
      Option.bind (cut (lk (ml r32_3.Links) i k) 1 (((lk (ml r32_3.Links) i k).length : Nat) : Int)) fun s54_5 => Option.bind (m_slices_Clone_tally_Change_tally_Change s54_5) fun r55_5 =>
      cond (decide ((((lk (ml r32_3.Links) i k).length : Nat) : Int) = 1))
        (some ((GNet.mk r32_3.Cap (List.set r32_3.Views (Int.toNat (k : Int)) r48_4) r32_3.Pending (some (mdel (mput (ml r32_3.Links) (GArr2_Int.mk i k) r55_5) (GArr2_Int.mk i k)))), 0))
        (some ((GNet.mk r32_3.Cap (List.set r32_3.Views (Int.toNat (k : Int)) r48_4) r32_3.Pending (some (mput (ml r32_3.Links) (GArr2_Int.mk i k) r55_5))), 0))) := by
    unfold m_view_Net_Deliver
    rw [there_in hi, obind_some, Bool.not_true, cond_false, there_in hk, obind_some, Bool.not_true, cond_false]
    rfl
  rw [e0]
  cases hL : lk (ml x.Links) i k with
  | nil => left; exact ⟨rfl, rfl⟩
  | cons b r =>
    right
    refine ⟨b, r, rfl, fun hs => ?_⟩
    rw [hL] at hl
    have e1 : lk (ml (some (ml x.Links))) i k = b :: r := hL
    rw [decide_eq_false (by simp; omega), cond_false, cloneN_ok h1 h2, obind_some]
    simp only [e1]
    rw [geti_lt hk, obind_some, geti_0, obind_some, merge_ok hs, obind_some, obind_some, show (1 : Int) = ((1 : Nat) : Int) from rfl, cut_ok (by simp) (Nat.le_refl _), obind_some, cloneL_ok (by simp at hl ⊢; omega), obind_some]
    have e2 : (List.drop 1 (b :: r)).take ((b :: r).length - 1) = r := by simp
    rw [e2]
    unfold dlL
    rw [hL]
    by_cases h3 : (b :: r).length = 1
    · rw [decide_eq_true (by omega), cond_true, if_pos h3]; rfl
    · rw [decide_eq_false (by omega), cond_false, if_neg h3]; rfl
theorem deliver_out {x : GNet} {i k : Int} (h : (i < 0 ∨ (x.Views.length : Int) ≤ i) ∨ k < 0 ∨ (x.Views.length : Int) ≤ k) : m_view_Net_Deliver x i k = some (x, 6) := by
  unfold m_view_Net_Deliver
  by_cases h1 : i < 0 ∨ (x.Views.length : Int) ≤ i
  · rw [there_out h1, obind_some]; rfl
  · obtain ⟨j, rfl⟩ : ∃ j : Nat, i = (j : Int) := ⟨i.toNat, by omega⟩
    rw [there_in (by omega), obind_some, Bool.not_true, cond_false, there_out (by omega), obind_some]; rfl
theorem idleC_ok {P : List (List GChange)} (h : P.length ≤ 1000000) : m_slices_ContainsFunc_tally_Change_tally_Change__view_Net_Idle_1 P = some (P.any fun l => decide (l ≠ [])) := by
  unfold m_slices_ContainsFunc_tally_Change_tally_Change__view_Net_Idle_1 m_slices_IndexFunc_tally_Change_tally_Change__view_Net_Idle_1
  have := loop1_0 (L := fun fu i => m_slices_IndexFunc_tally_Change_tally_Change__view_Net_Idle_1_l1 P fu i) (n := P.length) (P := fun i o => ∃ z, o = some z ∧ (0 ≤ z ↔ ∃ l ∈ P.drop i, l ≠ [])) (by omega)
    (fun fu => by
      unfold m_slices_IndexFunc_tally_Change_tally_Change__view_Net_Idle_1_l1
      rw [d_nlt (by omega), cond_false]
      exact ⟨-1, rfl, by simp⟩)
    (fun fu i hi ih => by
      unfold m_slices_IndexFunc_tally_Change_tally_Change__view_Net_Idle_1_l1 m_view_Net_Idle_1
      rw [d_lt (by omega), cond_true, geti_lt hi, obind_some, obind_some, drop_cons hi]
      by_cases hn : P[i] = []
      · rw [hn, decide_eq_false (by simp), cond_false, inc_ok (by omega)]
        obtain ⟨z, h1, h2⟩ := ih
        exact ⟨z, h1, by rw [h2]; simp⟩
      · have : 0 < P[i].length := List.length_pos_iff.2 hn
        rw [decide_eq_true (by omega), cond_true]
        exact ⟨_, rfl, ⟨fun _ => ⟨P[i], List.mem_cons_self, hn⟩, fun _ => by omega⟩⟩)
  obtain ⟨z, h1, h2⟩ := this
  rw [h1, obind_some]
  congr 1
  rw [List.drop_zero] at h2
  cases hc : P.any fun l => decide (l ≠ []) with
  | true =>
    rw [List.any_eq_true] at hc
    obtain ⟨l, hl, hn⟩ := hc
    exact decide_eq_true (h2.2 ⟨l, hl, of_decide_eq_true hn⟩)
  | false =>
    refine decide_eq_false fun h => ?_
    obtain ⟨l, hl, hn⟩ := h2.1 h
    rw [List.any_eq_false] at hc
    exact hc l hl (decide_eq_true hn)
theorem idle_ok {x : GNet} (h : x.Pending.length ≤ 1000000) : m_view_Net_Idle x = some (decide ((∀ l ∈ x.Pending, l = []) ∧ ml x.Links = [])) := by
  unfold m_view_Net_Idle
  rw [idleC_ok h, obind_some]
  cases hc : x.Pending.any fun l => decide (l ≠ []) with
  | true =>
    rw [Bool.not_true, cond_false]
    rw [List.any_eq_true] at hc
    obtain ⟨l, hl, hn⟩ := hc
    rw [decide_eq_false fun h => (of_decide_eq_true hn) (h.1 l hl)]
  | false =>
    rw [Bool.not_false, cond_true]
    rw [List.any_eq_false] at hc
    congr 1
    refine decide_eq_decide.2 ⟨fun h => ⟨fun l hl => ?_, List.eq_nil_of_length_eq_zero (by omega)⟩, fun h => by rw [h.2]; rfl⟩
    exact Classical.byContradiction fun hn => hc l hl (decide_eq_true hn)
theorem front_in {x : GNet} {w : Nat} (h : w < x.Views.length) (hs : small x.Views[w]) (loc : Int) : m_view_Net_Front x (w : Int) loc = some (frn x.Views[w] loc) := by
  unfold m_view_Net_Front
  rw [there_in h, obind_some, Bool.not_true, cond_false, geti_lt h, obind_some, of_ok hs, obind_some]
theorem sameL_ok {a b : List (List GChange)} (ha : a.length ≤ 1000000) (hb : b.length ≤ 1000000) (ea : ∀ l ∈ a, l.length ≤ 1000000) (eb : ∀ l ∈ b, l.length ≤ 1000000) : m_view_sameLists a b = some (decide (a = b)) := by
  unfold m_view_sameLists m_slices_EqualFunc_tally_Change_tally_Change_tally_Change_tally_Change__tally_Same
  by_cases hl : a.length = b.length
  · rw [decide_eq_false (by omega), cond_false]
    rw [eq_loop (L := fun fu i => m_slices_EqualFunc_tally_Change_tally_Change_tally_Change_tally_Change__tally_Same_l2 a b fu i) hl (by omega) (fun fu => by
        unfold m_slices_EqualFunc_tally_Change_tally_Change_tally_Change_tally_Change__tally_Same_l2
        rw [d_nlt (by omega), cond_false]) (fun fu i h1 h2 => by
        rw [m_slices_EqualFunc_tally_Change_tally_Change_tally_Change_tally_Change__tally_Same_l2]
        rw [d_lt (by omega), cond_true, geti_lt h1, obind_some, geti_lt h2, obind_some, tsame_ok (by have := ea _ (List.getElem_mem h1); omega) (by have := eb _ (List.getElem_mem h2); omega), obind_some]
        by_cases h : a[i] = b[i]
        · rw [decide_eq_true h, Bool.not_true, cond_false, if_pos h, inc_ok (by omega)]
        · rw [decide_eq_false h, Bool.not_false, cond_true, if_neg h]), obind_some]
  · rw [decide_eq_true (by omega), cond_true, obind_some, decide_eq_false (fun e => hl (by rw [e]))]
theorem vsame_ok {x : GNet} {W : Nat} (h : LOK W (ml x.Links)) (h1 : x.Views.length ≤ 1000000) (h2 : x.Pending.length ≤ 1000000) (e1 : ∀ l ∈ x.Views, l.length ≤ 1000000) (e2 : ∀ l ∈ x.Pending, l.length ≤ 1000000) (e3 : ∀ p ∈ ml x.Links, p.2.length ≤ 1000000 ∧ ∀ l ∈ p.2, l.length ≤ 1000000) : m_view_Same x x = some true := by
  unfold m_view_Same
  rw [decide_eq_true rfl, cond_true, sameL_ok h1 h1 e1 e1, obind_some, decide_eq_true rfl, cond_true, sameL_ok h2 h2 e2 e2, obind_some, decide_eq_true rfl, cond_true]
  unfold m_maps_EqualFunc_map_2_int_tally_Change_map_2_int_tally_Change_2_int_tally_Change_tally_Change__view_sameLists
  rw [meq_same h.nodup fun p hp => by rw [sameL_ok (e3 p hp).1 (e3 p hp).1 (e3 p hp).2 (e3 p hp).2, decide_eq_true rfl], obind_some]
theorem new_ok {w most : Int} {first : List GChange} (hs : small first) (h : (1 ≤ w ∧ w ≤ 16) ∧ 1 ≤ most ∧ most ≤ 4096) : m_view_New w most first = some (⟨most, List.replicate w.toNat (nrm first), List.replicate w.toNat [], some []⟩, 0) := by
  obtain ⟨n, rfl⟩ : ∃ n : Nat, w = (n : Int) := ⟨w.toNat, by omega⟩
  unfold m_view_New
  rw [d_nlt (by omega), cond_false, d_nlt (by omega), cond_false, d_nlt (by omega), cond_false, d_nlt (by omega), cond_false, show mkl (n : Int) ([] : List GChange) = some (List.replicate n []) by unfold mkl; rw [if_pos (by omega)]; simp, obind_some]
  have := loopG_0 (L := fun fu s i => m_view_New_l3 (n : Int) most first (List.replicate n []) fu s i) (n := n) (P := fun i s o => s = List.replicate i (nrm first) → o = some ((⟨most, List.replicate n (nrm first), List.replicate n [], some []⟩ : GNet), (0 : Int))) (by omega)
    (fun fu s e => by unfold m_view_New_l3; rw [d_nlt (by omega), cond_false, e])
    (fun fu s i hi ih e => by
      unfold m_view_New_l3
      rw [d_lt (by omega), cond_true, normal_ok hs, obind_some, app_ok (by rw [e]; simp; omega), obind_some, inc_ok (by omega)]
      exact ih _ (by rw [e, List.replicate_succ'])) []
  exact this rfl
end Go.Proofs.Ytcpageegmpjkiaa.K

namespace Go.Proofs.Ytcpageegmpjkiaa.K
open Go.RowKit Go.Lib
def noted (x : GNet) (w : Nat) (l : List GChange) : GNet := ⟨x.Cap, x.Views, x.Pending.set w (nrm (x.Pending.getD w [] ++ l)), some (ml x.Links)⟩
def flushed (x : GNet) (w : Nat) : GNet := ⟨x.Cap, x.Views, x.Pending.set w [], some (flL w (x.Pending.getD w []) 0 x.Views.length (ml x.Links))⟩
def delivered (x : GNet) (i k : Nat) (b : List GChange) : GNet := ⟨x.Cap, x.Views.set k (nrm (x.Views.getD k [] ++ b)), x.Pending, some (dlL (ml x.Links) i k)⟩
/-- How large a net is. -/
structure NI (W : Nat) (L A VL VA B : Nat) (x : GNet) : Prop where
  vlen : x.Views.length = W
  plen : x.Pending.length = W
  lok : LOK W (ml x.Links)
  p : ∀ l ∈ x.Pending, l.length ≤ L ∧ absum l ≤ A
  n : ∀ i k, (lk (ml x.Links) i k).length ≤ B
  b : ∀ i k, ∀ l ∈ lk (ml x.Links) i k, l.length ≤ L ∧ absum l ≤ A
  v : ∀ l ∈ x.Views, (l.length ≤ VL ∧ absum l ≤ VA) ∧ Norm l
section
variable {W L A VL VA B : Nat} {x : GNet}
theorem NI.mono {L' A' VL' VA' B' : Nat} (h : NI W L A VL VA B x) (h1 : L ≤ L') (h2 : A ≤ A') (h3 : VL ≤ VL') (h4 : VA ≤ VA') (h5 : B ≤ B') : NI W L' A' VL' VA' B' x :=
  ⟨h.vlen, h.plen, h.lok, fun l hl => by have := h.p l hl; omega, fun i k => by have := h.n i k; omega, fun i k l hl => by have := h.b i k l hl; omega, fun l hl => ⟨by have := (h.v l hl).1; omega, (h.v l hl).2⟩⟩
theorem NI.pg (h : NI W L A VL VA B x) (w : Nat) : (x.Pending.getD w []).length ≤ L ∧ absum (x.Pending.getD w []) ≤ A := by
  rw [List.getD_eq_getElem?_getD]
  cases hx : x.Pending[w]? with
  | none => exact ⟨Nat.zero_le _, Nat.zero_le _⟩
  | some l => exact h.p l (List.mem_of_getElem? hx)
theorem NI.vg (h : NI W L A VL VA B x) (w : Nat) : ((x.Views.getD w []).length ≤ VL ∧ absum (x.Views.getD w []) ≤ VA) ∧ Norm (x.Views.getD w []) := by
  rw [List.getD_eq_getElem?_getD]
  cases hx : x.Views[w]? with
  | none => exact ⟨⟨Nat.zero_le _, Nat.zero_le _⟩, List.Pairwise.nil, by simp⟩
  | some l => exact h.v l (List.mem_of_getElem? hx)
theorem mem_set {α : Type} {l : List α} {i : Nat} {y z : α} (h : z ∈ l.set i y) : z ∈ l ∨ z = y := by
  rcases List.mem_or_eq_of_mem_set h with h | h
  · exact .inl h
  · exact .inr h
theorem NI.noted (h : NI W L A VL VA B x) {w : Nat} {l : List GChange} {dl da : Nat} (hl : l.length ≤ dl ∧ absum l ≤ da) : NI W (L + dl) (A + da) VL VA B (noted x w l) := by
  have hg := h.pg w
  have h1 := nrm_len (x.Pending.getD w [] ++ l)
  have h2 := nrm_abs (x.Pending.getD w [] ++ l)
  rw [List.length_append] at h1
  rw [absum_app] at h2
  refine ⟨h.vlen, by simp [K.noted, h.plen], h.lok, fun z hz => ?_, h.n, fun i k z hz => ?_, h.v⟩
  · rcases mem_set hz with hz | rfl
    · have := h.p z hz; omega
    · omega
  · have := h.b i k z hz; omega
theorem NI.flushed (h : NI W L A VL VA B x) {w : Nat} (hw : w < W) : NI W L A VL VA (B + 1) (flushed x w) := by
  refine ⟨h.vlen, by simp [K.flushed, h.plen], ?_, fun z hz => ?_, fun i k => ?_, fun i k z hz => ?_, h.v⟩
  · exact flL_ok (by omega) _ _ _ (by rw [h.vlen]; omega) h.lok
  · rcases mem_set hz with hz | rfl
    · exact h.p z hz
    · exact ⟨Nat.zero_le _, Nat.zero_le _⟩
  · have := h.n i k
    show (lk (flL w (x.Pending.getD w []) 0 x.Views.length (ml x.Links)) i k).length ≤ _
    rw [flL_lk]; split
    · simp only [List.length_append, List.length_singleton]; omega
    · omega
  · have hz' : z ∈ lk (flL w (x.Pending.getD w []) 0 x.Views.length (ml x.Links)) i k := hz
    rw [flL_lk] at hz'
    split at hz'
    · rcases List.mem_append.1 hz' with hz' | hz'
      · exact h.b i k z hz'
      · simp at hz'; subst hz'; exact h.pg w
    · exact h.b i k z hz'
theorem NI.delivered (h : NI W L A VL VA B x) {i k : Nat} (hi : i < W) (hk : k < W) {b : List GChange} {r : List (List GChange)} (hb : lk (ml x.Links) i k = b :: r) : NI W L A (VL + L) (VA + A) B (delivered x i k b) := by
  have hg := (h.vg k).1
  have hbb := h.b i k b (by rw [hb]; simp)
  have h1 := nrm_len (x.Views.getD k [] ++ b)
  have h2 := nrm_abs (x.Views.getD k [] ++ b)
  rw [List.length_append] at h1
  rw [absum_app] at h2
  have hne : lk (ml x.Links) i k ≠ [] := by rw [hb]; simp
  have hlk : ∀ i' k', lk (dlL (ml x.Links) i k) i' k' = if (i : Int) = i' ∧ (k : Int) = k' then r else lk (ml x.Links) i' k' := fun i' k' => by
    rw [dlL_lk h.lok _ _ _ _ hne, hb]; rfl
  have hsub : ∀ i' k', ∀ z ∈ lk (dlL (ml x.Links) i k) i' k', z ∈ lk (ml x.Links) i' k' := fun i' k' z hz => by
    rw [hlk] at hz
    split at hz
    · rename_i e; rw [← e.1, ← e.2, hb]; simp [hz]
    · exact hz
  refine ⟨by simp [K.delivered, h.vlen], h.plen, dlL_ok h.lok (by omega) (by omega) hne, h.p, fun i' k' => ?_, fun i' k' z hz => h.b i' k' z (hsub i' k' z hz), fun z hz => ?_⟩
  · have := h.n i' k'
    show (lk (dlL (ml x.Links) i k) i' k').length ≤ _
    rw [hlk]
    split
    · rename_i e; rw [← e.1, ← e.2, hb] at this; simp at this; omega
    · exact this
  · rcases mem_set hz with hz | rfl
    · have := h.v z hz; exact ⟨by omega, this.2⟩
    · exact ⟨by omega, nrm_norm _⟩
end
theorem getD_in {α : Type} {l : List α} {i : Nat} {d : α} (h : i < l.length) : l.getD i d = l[i] := by rw [List.getD_eq_getElem?_getD, List.getElem?_eq_getElem h]; rfl
/-! ### sums -/
/-- All that is on its way to a worker, from the first n ones. -/
def lto (l : Lks) (w : Int) : Nat → List GChange
  | 0 => []
  | n + 1 => lto l w n ++ (lk l n w).flatten
/-- What a worker will know. -/
def whole (x : GNet) (w : Nat) : List GChange := x.Views.getD w [] ++ (x.Pending.flatten ++ lto (ml x.Links) w x.Views.length)
section
variable {W L A VL VA B : Nat} {x : GNet}
end
end Go.Proofs.Ytcpageegmpjkiaa.K

namespace Go.Proofs.Ytcpageegmpjkiaa.K
open Go.RowKit Go.Lib
theorem awk29 : m_w29_awake = some true := by decide +kernel
section
variable {W L A VL VA B : Nat} {x : GNet}
theorem NI.ml (h : NI W L A VL VA B x) : ∀ p ∈ K.ml x.Links, p.2.length ≤ B ∧ ∀ l ∈ p.2, l.length ≤ L := fun p hp => by
  have e : lk (K.ml x.Links) p.1.a0 p.1.a1 = p.2 := by
    unfold lk lkA
    rw [mem_look h.lok.nodup hp]; rfl
  have h1 := h.n p.1.a0 p.1.a1
  have h2 := h.b p.1.a0 p.1.a1
  rw [e] at h1 h2
  exact ⟨h1, fun l hl => (h2 l hl).1⟩
theorem NI.same (h : NI W L A VL VA B x) (hW : W ≤ 1000) (hL : L ≤ 1000000) (hV : VL ≤ 1000000) (hB : B ≤ 1000000) : m_view_Same x x = some true :=
  vsame_ok h.lok (by rw [h.vlen]; omega) (by rw [h.plen]; omega) (fun l hl => by have := (h.v l hl).1; omega) (fun l hl => by have := h.p l hl; omega) fun p hp => ⟨by have := (h.ml p hp).1; omega, fun l hl => by have := (h.ml p hp).2 l hl; omega⟩
theorem note_step (h : NI W L A VL VA B x) (hW : W ≤ 1000) {w : Int} {l : List GChange} {dl da : Nat} (hl : l.length ≤ dl ∧ absum l ≤ da) (h1 : L + dl ≤ 1000000) (h2 : A + da ≤ 1152921504606846976) :
    (∃ n : Nat, w = n ∧ n < W ∧ m_view_Net_Note x w l = some (noted x n l, 0)) ∨ ((w < 0 ∨ (W : Int) ≤ w) ∧ m_view_Net_Note x w l = some (x, 6)) := by
  by_cases hw : w < 0 ∨ (W : Int) ≤ w
  · exact .inr ⟨hw, note_out (by rw [h.vlen]; exact hw)⟩
  · obtain ⟨n, rfl⟩ : ∃ n : Nat, w = (n : Int) := ⟨w.toNat, by omega⟩
    have hn : n < W := by omega
    have hp : n < x.Pending.length := by rw [h.plen]; exact hn
    have hg := h.pg n
    have e := getD_in (d := []) hp
    rw [e] at hg
    refine .inl ⟨n, rfl, hn, ?_⟩
    rw [note_in (by rw [h.vlen]; exact hn) hp (by rw [h.vlen]; omega) (by rw [h.plen]; omega) ⟨by rw [List.length_append]; omega, by rw [absum_app]; omega⟩]
    unfold noted
    rw [e]
theorem flush_step (h : NI W L A VL VA B x) (hW : W ≤ 1000) (hB : B ≤ 900000) {w : Int} :
    (∃ n : Nat, w = n ∧ n < W ∧ x.Pending.getD n [] ≠ [] ∧ (∀ k : Nat, k < W → ((lk (ml x.Links) w k).length : Int) < x.Cap) ∧ m_view_Net_Flush x w = some (flushed x n, 0)) ∨
    ∃ e : Int, e ≠ 0 ∧ m_view_Net_Flush x w = some (x, e) ∧ (((w < 0 ∨ (W : Int) ≤ w) ∧ e = 6) ∨ ∃ n : Nat, w = n ∧ n < W ∧ ((x.Pending.getD n [] = [] ∧ e = 16) ∨ (x.Pending.getD n [] ≠ [] ∧ (∃ k : Nat, k < W ∧ x.Cap ≤ (lk (ml x.Links) w k).length) ∧ e = 7))) := by
  by_cases hw : w < 0 ∨ (W : Int) ≤ w
  · exact .inr ⟨6, by decide, flush_out (by rw [h.vlen]; exact hw), .inl ⟨hw, rfl⟩⟩
  · obtain ⟨n, rfl⟩ : ∃ n : Nat, w = (n : Int) := ⟨w.toNat, by omega⟩
    have hn : n < W := by omega
    have hp : n < x.Pending.length := by rw [h.plen]; exact hn
    have e := getD_in (d := []) hp
    rcases flush_in (x := x) (w := n) (by rw [h.vlen]; exact hn) hp (by rw [h.vlen]; omega) (by rw [h.plen]; omega) (fun k => by have := h.n n k; omega) with ⟨h0, h1⟩ | ⟨h0, h2, h1⟩ | ⟨h0, h2, h1⟩
    · exact .inr ⟨16, by decide, h1, .inr ⟨n, rfl, hn, .inl ⟨by rw [e]; exact h0, rfl⟩⟩⟩
    · rw [h.vlen] at h2
      exact .inr ⟨7, by decide, h1, .inr ⟨n, rfl, hn, .inr ⟨by rw [e]; exact h0, h2, rfl⟩⟩⟩
    · rw [h.vlen] at h2
      refine .inl ⟨n, rfl, hn, by rw [e]; exact h0, h2, ?_⟩
      rw [h1]; unfold flushed; rw [e]
theorem deliver_step (h : NI W L A VL VA B x) (hW : W ≤ 1000) (hB : B ≤ 900000) {i k : Int} (h1 : VL + L ≤ 1000000) (h2 : VA + A ≤ 1152921504606846976) :
    (∃ (n m : Nat) (b : List GChange) (r : List (List GChange)), i = n ∧ k = m ∧ n < W ∧ m < W ∧ lk (ml x.Links) n m = b :: r ∧ m_view_Net_Deliver x i k = some (delivered x n m b, 0)) ∨
    ∃ e : Int, e ≠ 0 ∧ m_view_Net_Deliver x i k = some (x, e) ∧ ((((i < 0 ∨ (W : Int) ≤ i) ∨ k < 0 ∨ (W : Int) ≤ k) ∧ e = 6) ∨ ∃ n m : Nat, i = n ∧ k = m ∧ n < W ∧ m < W ∧ lk (ml x.Links) n m = [] ∧ e = 16) := by
  by_cases hw : (i < 0 ∨ (W : Int) ≤ i) ∨ k < 0 ∨ (W : Int) ≤ k
  · exact .inr ⟨6, by decide, deliver_out (by rw [h.vlen]; exact hw), .inl ⟨hw, rfl⟩⟩
  · obtain ⟨n, rfl⟩ : ∃ n : Nat, i = (n : Int) := ⟨i.toNat, by omega⟩
    obtain ⟨m, rfl⟩ : ∃ n : Nat, k = (n : Int) := ⟨k.toNat, by omega⟩
    have hn : n < W := by omega
    have hm : m < W := by omega
    have hv : m < x.Views.length := by rw [h.vlen]; exact hm
    have e := getD_in (d := []) hv
    rcases deliver_in (x := x) (i := n) (k := m) (by rw [h.vlen]; exact hn) hv (by rw [h.vlen]; omega) (by rw [h.plen]; omega) (by have := h.n n m; omega) with ⟨h3, h4⟩ | ⟨b, r, h3, h4⟩
    · exact .inr ⟨16, by decide, h4, .inr ⟨n, m, rfl, rfl, hn, hm, h3, rfl⟩⟩
    · have hg := (h.vg m).1
      have hb := h.b n m b (by rw [h3]; simp)
      rw [e] at hg
      refine .inl ⟨n, m, b, r, rfl, rfl, hn, hm, h3, ?_⟩
      rw [h4 ⟨by rw [List.length_append]; omega, by rw [absum_app]; omega⟩]
      unfold delivered; rw [e]
theorem NI.new {first : List GChange} {W : Nat} {most : Int} : NI W 0 0 first.length (absum first) 0 ⟨most, List.replicate W (nrm first), List.replicate W [], some []⟩ := by
  refine ⟨by simp, by simp, ⟨by simp [K.ml], by simp [K.ml], by simp [K.ml]⟩, fun l hl => ?_, fun i k => Nat.le_refl _, fun i k l hl => (by cases hl), fun l hl => ?_⟩
  · rw [(List.mem_replicate.1 hl).2]; exact ⟨Nat.le_refl _, Nat.le_refl _⟩
  · rw [(List.mem_replicate.1 hl).2]; exact ⟨⟨nrm_len _, nrm_abs _⟩, nrm_norm _⟩
end
end Go.Proofs.Ytcpageegmpjkiaa.K

namespace Go.Proofs.Ytcpageegmpjkiaa.K
open Go.RowKit Go.Lib
end Go.Proofs.Ytcpageegmpjkiaa.K

namespace Go.Proofs.Ytcpageegmpjkiaa.K
open Go.RowKit Go.Lib
/-- What a worker may do: make a thing, take one away, lower its leave, drop it. -/
inductive Mv where
  | mk (a : Int)
  | tk (a : Int)
  | lw (t : Int)
  | dr
  deriving DecidableEq
def nx : Option Int → Mv → Option Int
  | s, .mk _ => s
  | s, .tk _ => s
  | _, .lw t => some t
  | _, .dr => none
def ch : Option Int → Mv → List GChange
  | _, .mk a => [⟨1, a, 1⟩]
  | _, .tk a => [⟨1, a, -1⟩]
  | some t, .lw t' => [⟨0, t, -1⟩, ⟨0, t', 1⟩]
  | some t, .dr => [⟨0, t, -1⟩]
  | none, _ => []
def vl : Option Int → Mv → Prop
  | s, .mk a => ∃ t, s = some t ∧ t ≤ a
  | _, .tk _ => True
  | s, .lw t' => ∃ t, s = some t ∧ t ≤ t'
  | s, .dr => ∃ t, s = some t
def stF : Option Int → List Mv → Option Int
  | s, [] => s
  | s, m :: r => stF (nx s m) r
def csF : Option Int → List Mv → List GChange
  | _, [] => []
  | s, m :: r => ch s m ++ csF (nx s m) r
def okF : Option Int → List Mv → Prop
  | _, [] => True
  | s, m :: r => vl s m ∧ okF (nx s m) r
theorem stF_app : ∀ (s : Option Int) (p q : List Mv), stF s (p ++ q) = stF (stF s p) q
  | s, [], q => rfl
  | s, m :: p, q => stF_app (nx s m) p q
theorem csF_app : ∀ (s : Option Int) (p q : List Mv), csF s (p ++ q) = csF s p ++ csF (stF s p) q
  | s, [], q => rfl
  | s, m :: p, q => by simp only [List.cons_append, csF, stF, csF_app (nx s m) p q, List.append_assoc]
theorem okF_app : ∀ (s : Option Int) (p q : List Mv), okF s (p ++ q) ↔ okF s p ∧ okF (stF s p) q
  | s, [], q => by simp [okF, stF]
  | s, m :: p, q => by simp only [List.cons_append, okF, stF, okF_app (nx s m) p q, and_assoc]
theorem st_back : ∀ {s : Option Int} {q : List Mv} {t' : Int}, okF s q → stF s q = some t' → ∃ t, s = some t ∧ t ≤ t'
  | s, [], t', _, h => ⟨t', h, Int.le_refl _⟩
  | s, m :: q, t', ⟨hv, ho⟩, h => by
    obtain ⟨t, h1, h2⟩ := st_back ho h
    cases m with
    | mk a => exact ⟨t, h1, h2⟩
    | tk a => exact ⟨t, h1, h2⟩
    | lw u =>
      simp only [nx, Option.some.injEq] at h1
      obtain ⟨t0, h3, h4⟩ := hv
      exact ⟨t0, h3, by omega⟩
    | dr => cases h1
theorem mk_back : ∀ {s : Option Int} {q : List Mv} {a : Int}, okF s q → Mv.mk a ∈ q → ∃ t, s = some t ∧ t ≤ a
  | s, [], a, _, h => by cases h
  | s, m :: q, a, ⟨hv, ho⟩, h => by
    rcases List.mem_cons.1 h with rfl | h
    · exact hv
    · obtain ⟨t, h1, h2⟩ := mk_back ho h
      cases m with
      | mk a => exact ⟨t, h1, h2⟩
      | tk a => exact ⟨t, h1, h2⟩
      | lw u =>
        simp only [nx, Option.some.injEq] at h1
        obtain ⟨t0, h3, h4⟩ := hv
        exact ⟨t0, h3, by omega⟩
      | dr => cases h1
def ind (s : Option Int) (b : Int) : Int := if s = some b then 1 else 0
theorem ind_nn (s : Option Int) (b : Int) : 0 ≤ ind s b := by unfold ind; split <;> omega
theorem ind_pos {s : Option Int} {b : Int} (h : 0 < ind s b) : s = some b := by
  unfold ind at h
  split at h
  · assumption
  · omega
theorem at_one (a b n a' b' : Int) : atp [⟨a, b, n⟩] a' b' = if a = a' ∧ b = b' then n else 0 := by
  simp only [atp]; split <;> omega
theorem at_src : ∀ {s : Option Int} {q : List Mv}, okF s q → ∀ b, atp (csF s q) 0 b = ind (stF s q) b - ind s b
  | s, [], _, b => by simp only [csF, stF]; show (0 : Int) = _; omega
  | s, m :: q, ⟨hv, ho⟩, b => by
    have ih := at_src ho b
    simp only [csF, stF, atp_app, ih]
    cases m with
    | mk a => simp only [ch, at_one, nx]; rw [if_neg (by omega)]; omega
    | tk a => simp only [ch, at_one, nx]; rw [if_neg (by omega)]; omega
    | lw u =>
      obtain ⟨t, rfl, _⟩ := hv
      have e : atp (ch (some t) (.lw u)) 0 b = (if t = b then -1 else 0) + if u = b then 1 else 0 := by
        show atp ([⟨0, t, -1⟩] ++ [⟨0, u, 1⟩]) 0 b = _
        rw [atp_app, at_one, at_one]; simp
      rw [e]
      simp only [nx, ind, Option.some.injEq]
      split <;> split <;> omega
    | dr =>
      obtain ⟨t, rfl⟩ := hv
      have e : atp (ch (some t) .dr) 0 b = if t = b then -1 else 0 := by
        show atp [⟨0, t, -1⟩] 0 b = _
        rw [at_one]; simp
      rw [e]
      simp only [nx, ind, Option.some.injEq, reduceCtorEq, if_false]
      split <;> omega
theorem at_link : ∀ {s : Option Int} {q : List Mv}, okF s q → ∀ a, atp (csF s q) 1 a = (q.count (.mk a) : Int) - q.count (.tk a)
  | s, [], _, a => rfl
  | s, m :: q, ⟨hv, ho⟩, a => by
    have ih := at_link ho a
    simp only [csF, atp_app, ih, List.count_cons]
    cases m with
    | mk c =>
      simp only [ch, at_one]
      by_cases h : c = a
      · subst h; simp; omega
      · simp [h]
    | tk c =>
      simp only [ch, at_one]
      by_cases h : c = a
      · subst h; simp; omega
      · simp [h]
    | lw u =>
      obtain ⟨t, rfl, _⟩ := hv
      have e : atp (ch (some t) (.lw u)) 1 a = 0 := by
        show atp ([⟨0, t, -1⟩] ++ [⟨0, u, 1⟩]) 1 a = _
        rw [atp_app, at_one, at_one]; simp
      rw [e]; simp
    | dr =>
      obtain ⟨t, rfl⟩ := hv
      have e : atp (ch (some t) .dr) 1 a = 0 := by
        show atp [⟨0, t, -1⟩] 1 a = _
        rw [at_one]; simp
      rw [e]; simp
theorem at_none : ∀ {s : Option Int} {q : List Mv}, ∀ {a : Int}, a ≠ 0 → a ≠ 1 → ∀ b, atp (csF s q) a b = 0
  | s, [], a, _, _, b => rfl
  | s, m :: q, a, h0, h1, b => by
    have ih := at_none (s := nx s m) (q := q) h0 h1 b
    simp only [csF, atp_app, ih]
    have : atp (ch s m) a b = 0 := by
      refine atp_none fun x hx => ?_
      cases m with
      | mk c => simp [ch] at hx; subst hx; simp only; omega
      | tk c => simp [ch] at hx; subst hx; simp only; omega
      | lw u =>
        cases s with
        | none => simp [ch] at hx
        | some t => simp [ch] at hx; rcases hx with rfl | rfl <;> simp only <;> omega
      | dr =>
        cases s with
        | none => simp [ch] at hx
        | some t => simp [ch] at hx; subst hx; simp only; omega
    omega
def sumZ (f : Nat → Int) : Nat → Int
  | 0 => 0
  | n + 1 => sumZ f n + f n
theorem sumZ_congr {f g : Nat → Int} : ∀ {n : Nat}, (∀ i, i < n → f i = g i) → sumZ f n = sumZ g n
  | 0, _ => rfl
  | n + 1, h => by simp only [sumZ]; rw [sumZ_congr fun i hi => h i (by omega), h n (by omega)]
theorem sumZ_le {f g : Nat → Int} : ∀ {n : Nat}, (∀ i, i < n → f i ≤ g i) → sumZ f n ≤ sumZ g n
  | 0, _ => Int.le_refl _
  | n + 1, h => by
    have := sumZ_le (n := n) (f := f) (g := g) fun i hi => h i (by omega)
    have := h n (by omega)
    simp only [sumZ]; omega
theorem sumZ_zero {n : Nat} : sumZ (fun _ => 0) n = 0 := by
  induction n with
  | zero => rfl
  | succ n ih => simp only [sumZ, ih]; rfl
theorem sumZ_pos {f : Nat → Int} : ∀ {n : Nat}, 0 < sumZ f n → ∃ i, i < n ∧ 0 < f i
  | 0, h => by simp [sumZ] at h
  | n + 1, h => by
    simp only [sumZ] at h
    by_cases h1 : 0 < f n
    · exact ⟨n, by omega, h1⟩
    · obtain ⟨i, h2, h3⟩ := sumZ_pos (f := f) (n := n) (by omega)
      exact ⟨i, by omega, h3⟩
theorem sumZ_ge {f : Nat → Int} : ∀ {n : Nat}, (∀ i, i < n → 0 ≤ f i) → ∀ i, i < n → f i ≤ sumZ f n
  | 0, h, i, hi => by omega
  | n + 1, h, i, hi => by
    have h0 : 0 ≤ sumZ f n := by
      have := sumZ_le (f := fun _ => 0) (g := f) (n := n) fun i hi => h i (by omega)
      rw [sumZ_zero] at this; exact this
    simp only [sumZ]
    by_cases h1 : i = n
    · subst h1; omega
    · have := sumZ_ge (n := n) (f := f) (fun i hi => h i (by omega)) i (by omega)
      have := h n (by omega)
      omega
/-- One place of the sum turns. -/
theorem sumZ_set {f g : Nat → Int} {k : Nat} {d : Int} (hk : g k = f k + d) (ho : ∀ i, i ≠ k → g i = f i) : ∀ n, sumZ g n = sumZ f n + if k < n then d else 0
  | 0 => by simp [sumZ]
  | n + 1 => by
    have ih := sumZ_set hk ho n
    simp only [sumZ]
    by_cases h1 : n = k
    · subst h1; rw [if_neg (by omega)] at ih; rw [if_pos (by omega), hk]; omega
    · rw [ho n h1]
      by_cases h2 : k < n
      · rw [if_pos h2] at ih; rw [if_pos (by omega)]; omega
      · rw [if_neg h2] at ih; rw [if_neg (by omega)]; omega
/-- What each worker did: the batches that it sent, what it keeps; how many of them each one got. -/
structure Gh where
  seg : Nat → List (List Mv)
  cur : Nat → List Mv
  d : Nat → Nat → Nat
abbrev s0 : Option Int := some 0
def Gh.pre (g : Gh) (i n : Nat) : List Mv := ((g.seg i).take n).flatten
def Gh.all (g : Gh) (i : Nat) : List Mv := (g.seg i).flatten ++ g.cur i
theorem Gh.pre_all (g : Gh) {i : Nat} : g.pre i (g.seg i).length = (g.seg i).flatten := by unfold Gh.pre; rw [List.take_of_length_le (Nat.le_refl _)]
theorem Gh.split (g : Gh) (i n : Nat) : ∃ q, g.all i = g.pre i n ++ q := ⟨((g.seg i).drop n).flatten ++ g.cur i, by
  unfold Gh.all Gh.pre
  rw [← List.append_assoc, ← List.flatten_append, List.take_append_drop]⟩
theorem Gh.split2 (g : Gh) (i : Nat) {n m : Nat} (h : n ≤ m) : ∃ q, g.pre i m = g.pre i n ++ q := by
  refine ⟨(((g.seg i).take m).drop n).flatten, ?_⟩
  unfold Gh.pre
  rw [← List.flatten_append]
  congr 1
  have := List.take_append_drop n ((g.seg i).take m)
  rw [List.take_take, Nat.min_eq_left h] at this
  exact this.symm
def bk (t : Int) (h : Bool) : GBook := ⟨[⟨⟨0, t⟩, h⟩]⟩
structure GI (W : Nat) (x : GNet) (books : List GBook) (things : List Int) (g : Gh) : Prop where
  blen : books.length = W
  ok : ∀ i, i < W → okF s0 (g.all i)
  book : ∀ i, i < W → ∃ t h, books[i]? = some (bk t h) ∧ (0 ≤ t ∧ t ≤ 1099511627776) ∧ stF s0 (g.all i) = if h then some t else none
  pend : ∀ i, i < W → ∀ a b, atp (x.Pending.getD i []) a b = atp (csF (stF s0 (g.seg i).flatten) (g.cur i)) a b
  dn : ∀ i j : Nat, i < W → j < W → (lk (ml x.Links) i j).length + g.d i j = (g.seg i).length
  bat : ∀ i j : Nat, i < W → j < W → ∀ e z, (lk (ml x.Links) i j)[e]? = some z → ∀ a b, atp z a b = atp (csF s0 (g.pre i (g.d i j + e + 1))) a b - atp (csF s0 (g.pre i (g.d i j + e))) a b
  view : ∀ j, j < W → ∀ a b, atp (x.Views.getD j []) a b = (if a = 0 ∧ b = 0 then (W : Int) else 0) + sumZ (fun i => atp (csF s0 (g.pre i (g.d i j))) a b) W
  thing : ∀ a, (things.count a : Int) = sumZ (fun i => atp (csF s0 (g.all i)) 1 a) W
  tim : ∀ a ∈ things, 0 ≤ a ∧ a ≤ 1099511627776
section
variable {W : Nat} {x : GNet} {books : List GBook} {things : List Int} {g : Gh}
theorem GI.ok_pre (h : GI W x books things g) {i : Nat} (hi : i < W) (n : Nat) : okF s0 (g.pre i n) := by
  obtain ⟨q, e⟩ := g.split i n
  have := h.ok i hi
  rw [e, okF_app] at this
  exact this.1
theorem ind0 (b : Int) : ind s0 b = if b = 0 then 1 else 0 := by
  unfold ind
  simp only [Option.some.injEq]
  by_cases h : b = 0
  · subst h; rfl
  · rw [if_neg h, if_neg (fun e => h e.symm)]
theorem sum_ind (f : Nat → Option Int) (b : Int) : ∀ W : Nat, (if b = 0 then (W : Int) else 0) + sumZ (fun i => ind (f i) b - ind s0 b) W = sumZ (fun i => ind (f i) b) W
  | 0 => by simp [sumZ]
  | W + 1 => by
    have := sum_ind f b W
    have e := ind0 b
    simp only [sumZ]
    generalize ind s0 b = k at this e ⊢
    by_cases hb : b = 0
    · rw [if_pos hb] at this e ⊢; omega
    · rw [if_neg hb] at this e ⊢; omega
/-- What a view has at Source: each worker's leave, as it was. -/
theorem GI.src (h : GI W x books things g) {j : Nat} (hj : j < W) (b : Int) : atp (x.Views.getD j []) 0 b = sumZ (fun i => ind (stF s0 (g.pre i (g.d i j))) b) W := by
  rw [h.view j hj, ← sum_ind]
  congr 1
  · by_cases hb : b = 0
    · rw [if_pos hb, if_pos ⟨rfl, hb⟩]
    · rw [if_neg hb, if_neg (fun e => hb e.2)]
  · exact sumZ_congr fun i hi => at_src (h.ok_pre hi _) b
theorem GI.src_pos (h : GI W x books things g) {i j : Nat} (hi : i < W) (hj : j < W) {t : Int} (ht : stF s0 (g.pre i (g.d i j)) = some t) : 0 < atp (x.Views.getD j []) 0 t := by
  rw [h.src hj]
  have := sumZ_ge (f := fun i => ind (stF s0 (g.pre i (g.d i j))) t) (n := W) (fun i _ => ind_nn _ _) i hi
  have e : ind (stF s0 (g.pre i (g.d i j))) t = 1 := by unfold ind; rw [if_pos ht]
  simp only [e] at this
  omega
theorem GI.link (h : GI W x books things g) {j : Nat} (hj : j < W) (a : Int) : atp (x.Views.getD j []) 1 a = sumZ (fun i => ((g.pre i (g.d i j)).count (.mk a) : Int) - (g.pre i (g.d i j)).count (.tk a)) W := by
  rw [h.view j hj, if_neg (by omega), Int.zero_add]
  exact sumZ_congr fun i hi => at_link (h.ok_pre hi _) a
theorem leads_ss : leads 0 1 = true := by decide
theorem leads_ll : leads 1 1 = true := by decide
/-- No worker thinks that a leave's moment is passed. -/
theorem GI.safe_leave (h : GI W x books things g) {i j : Nat} (hi : i < W) (hj : j < W) {t : Int} (ht0 : 0 ≤ t) (ht : stF s0 (g.all i) = some t) : frn (x.Views.getD j []) 1 ≤ t := by
  obtain ⟨q, e⟩ := g.split i (g.d i j)
  have hok := h.ok i hi
  rw [e, okF_app] at hok
  rw [e, stF_app] at ht
  obtain ⟨t0, h1, h2⟩ := st_back hok.2 ht
  have := (frn_spec (x.Views.getD j []) 1).2.1 0 t0 leads_ss (h.src_pos hi hj h1)
  omega
/-- .. nor a thing's. -/
theorem GI.safe_thing (h : GI W x books things g) {j : Nat} (hj : j < W) {a : Int} (ha : a ∈ things) : frn (x.Views.getD j []) 1 ≤ a := by
  have h0 := h.tim a ha
  by_cases hex : ∃ i, i < W ∧ ∃ q, g.all i = g.pre i (g.d i j) ++ q ∧ Mv.mk a ∈ q
  · obtain ⟨i, hi, q, e, hm⟩ := hex
    have hok := h.ok i hi
    rw [e, okF_app] at hok
    obtain ⟨t0, h1, h2⟩ := mk_back hok.2 hm
    have := (frn_spec (x.Views.getD j []) 1).2.1 0 t0 leads_ss (h.src_pos hi hj h1)
    omega
  · have hc : 0 < things.count a := List.count_pos_iff.2 ha
    have hth := h.thing a
    have hle : sumZ (fun i => atp (csF s0 (g.all i)) 1 a) W ≤ sumZ (fun i => ((g.pre i (g.d i j)).count (.mk a) : Int) - (g.pre i (g.d i j)).count (.tk a)) W := sumZ_le fun i hi => by
      obtain ⟨q, e⟩ := g.split i (g.d i j)
      have hq : Mv.mk a ∉ q := fun hm => hex ⟨i, hi, q, e, hm⟩
      have h1 := at_link (h.ok i hi) a
      rw [h1, e, List.count_append, List.count_append, List.count_eq_zero.2 hq]
      omega
    have hp : 0 < atp (x.Views.getD j []) 1 a := by rw [h.link hj]; omega
    have := (frn_spec (x.Views.getD j []) 1).2.1 1 a leads_ll hp
    omega
/-- When nothing is on its way, a view has just what there is. -/
theorem GI.idle (h : GI W x books things g) (hid : (∀ l ∈ x.Pending, l = []) ∧ ml x.Links = []) {j : Nat} (hj : j < W) {a b : Int} (hab : 0 < atp (x.Views.getD j []) a b) : (a = 0 ∧ ∃ i, i < W ∧ stF s0 (g.all i) = some b) ∨ (a = 1 ∧ b ∈ things) := by
  have hd : ∀ i, i < W → g.d i j = (g.seg i).length := fun i hi => by
    have := h.dn i j hi hj
    rw [hid.2] at this
    have e : (lk [] (i : Int) (j : Int)).length = 0 := rfl
    omega
  have hcur : ∀ i, i < W → ∀ a b, atp (csF s0 (g.all i)) a b = atp (csF s0 (g.pre i (g.d i j))) a b := fun i hi a b => by
    have hp := h.pend i hi a b
    have e : x.Pending.getD i [] = [] := by
      rw [List.getD_eq_getElem?_getD]
      cases hx : x.Pending[i]? with
      | none => rfl
      | some l => exact hid.1 l (List.mem_of_getElem? hx)
    rw [e] at hp
    have e0 : atp [] a b = 0 := rfl
    rw [hd i hi, Gh.pre_all]
    unfold Gh.all
    rw [csF_app, atp_app, ← hp, e0]; omega
  by_cases h0 : a = 0
  · subst h0
    left
    refine ⟨rfl, ?_⟩
    have hs : atp (x.Views.getD j []) 0 b = sumZ (fun i => ind (stF s0 (g.all i)) b) W := by
      rw [h.view j hj, ← sum_ind]
      congr 1
      · by_cases hb : b = 0
        · rw [if_pos hb, if_pos ⟨rfl, hb⟩]
        · rw [if_neg hb, if_neg (fun e => hb e.2)]
      · exact sumZ_congr fun i hi => by rw [← hcur i hi, at_src (h.ok i hi)]
    rw [hs] at hab
    obtain ⟨i, hi, hp⟩ := sumZ_pos hab
    exact ⟨i, hi, ind_pos hp⟩
  · by_cases h1 : a = 1
    · subst h1
      right
      refine ⟨rfl, ?_⟩
      have hs : atp (x.Views.getD j []) 1 b = (things.count b : Int) := by
        rw [h.view j hj, if_neg (by omega), Int.zero_add, h.thing]
        exact sumZ_congr fun i hi => (hcur i hi 1 b).symm
      rw [hs] at hab
      exact List.count_pos_iff.1 (by omega)
    · exfalso
      rw [h.view j hj, if_neg (fun e => h0 e.1)] at hab
      have : sumZ (fun i => atp (csF s0 (g.pre i (g.d i j))) a b) W = 0 := by
        rw [← sumZ_zero (n := W)]
        exact sumZ_congr fun i _ => at_none h0 h1 b
      omega
/-- Frontiers do not go back where for each thing that there is now there was one ahead of it. -/
theorem frn_le2 {l r : List GChange} {k : Int} (h : ∀ a b, leads a k = true → 0 < atp r a b → ∃ a' t, leads a' k = true ∧ 0 < atp l a' t ∧ t ≤ b) : frn l k ≤ frn r k := by
  obtain ⟨u1, u2, u3⟩ := frn_spec l k
  obtain ⟨v1, v2, v3⟩ := frn_spec r k
  rcases v3 with e | ⟨a, b, hl, hp, e⟩
  · omega
  · obtain ⟨a', t, ha, ht, hb⟩ := h a b hl hp
    have := u2 a' t ha ht
    omega
end
end Go.Proofs.Ytcpageegmpjkiaa.K

namespace Go.Proofs.Ytcpageegmpjkiaa.K
open Go.RowKit Go.Lib
def upd {α : Type} (f : Nat → α) (w : Nat) (y : α) : Nat → α := fun i => if i = w then y else f i
theorem upd_eq {α : Type} (f : Nat → α) (w : Nat) (y : α) : upd f w y w = y := if_pos rfl
theorem upd_ne {α : Type} (f : Nat → α) {w i : Nat} (y : α) (h : i ≠ w) : upd f w y i = f i := if_neg h
def Gh.le (W : Nat) (g g' : Gh) : Prop := ∀ i j, i < W → j < W → ∃ q, g'.pre i (g'.d i j) = g.pre i (g.d i j) ++ q
theorem Gh.le_refl {W : Nat} (g : Gh) : g.le W g := fun i j _ _ => ⟨[], by simp⟩
theorem Gh.le_trans {W : Nat} {g g' g'' : Gh} (h : g.le W g') (h' : g'.le W g'') : g.le W g'' := fun i j hi hj => by
  obtain ⟨q, e⟩ := h i j hi hj
  obtain ⟨q', e'⟩ := h' i j hi hj
  exact ⟨q ++ q', by rw [e', e, List.append_assoc]⟩
section
variable {W L A VL VA B : Nat} {x x' : GNet} {books books' : List GBook} {things things' : List Int} {g g' : Gh}
theorem GI.noted (h : GI W x books things g) (hp : x.Pending.length = W) {w : Nat} (hw : w < W) {ms : List Mv} {l : List GChange}
    (hl : ∀ a b, atp l a b = atp (csF (stF s0 (g.all w)) ms) a b) (hok : okF (stF s0 (g.all w)) ms)
    (hbl : books'.length = W) (hbo : ∀ i, i ≠ w → books'[i]? = books[i]?)
    (hbw : ∃ t h, books'[w]? = some (bk t h) ∧ (0 ≤ t ∧ t ≤ 1099511627776) ∧ stF (stF s0 (g.all w)) ms = if h then some t else none)
    (hth : ∀ a, (things'.count a : Int) = things.count a + ((ms.count (.mk a) : Int) - ms.count (.tk a)))
    (htm : ∀ a ∈ things', 0 ≤ a ∧ a ≤ 1099511627776) :
    GI W (K.noted x w l) books' things' ⟨g.seg, upd g.cur w (g.cur w ++ ms), g.d⟩ := by
  have aw : Gh.all ⟨g.seg, upd g.cur w (g.cur w ++ ms), g.d⟩ w = g.all w ++ ms := by
    simp only [Gh.all, upd_eq, List.append_assoc]
  have ao : ∀ i, i ≠ w → Gh.all ⟨g.seg, upd g.cur w (g.cur w ++ ms), g.d⟩ i = g.all i := fun i hi => by simp only [Gh.all, upd_ne _ _ hi]
  have stw : stF s0 (g.all w) = stF (stF s0 (g.seg w).flatten) (g.cur w) := by unfold Gh.all; rw [stF_app]
  refine ⟨hbl, fun i hi => ?_, fun i hi => ?_, fun i hi a b => ?_, h.dn, h.bat, h.view, fun a => ?_, htm⟩
  · by_cases e : i = w
    · subst e; rw [aw, okF_app]; exact ⟨h.ok i hi, hok⟩
    · rw [ao i e]; exact h.ok i hi
  · by_cases e : i = w
    · subst e; rw [aw, stF_app]; exact hbw
    · rw [ao i e, hbo i e]; exact h.book i hi
  · by_cases e : i = w
    · subst e
      have e1 : (K.noted x i l).Pending.getD i [] = nrm (x.Pending.getD i [] ++ l) := by
        unfold K.noted
        simp only []
        rw [List.getD_eq_getElem?_getD, List.getElem?_set_self (by omega)]; rfl
      rw [e1, nrm_at, atp_app, h.pend i hi, hl, stw]
      show _ = atp (csF (stF s0 (g.seg i).flatten) (upd g.cur i (g.cur i ++ ms) i)) a b
      rw [upd_eq, csF_app, atp_app]
    · have e1 : (K.noted x w l).Pending.getD i [] = x.Pending.getD i [] := by
        unfold K.noted
        simp only []
        rw [List.getD_eq_getElem?_getD, List.getElem?_set_ne (by omega), ← List.getD_eq_getElem?_getD]
      rw [e1, h.pend i hi]
      show _ = atp (csF (stF s0 (g.seg i).flatten) (upd g.cur w (g.cur w ++ ms) i)) a b
      rw [upd_ne _ _ e]
  · have ht := h.thing a
    rw [hth]
    have := sumZ_set (f := fun i => atp (csF s0 (g.all i)) 1 a) (g := fun i => atp (csF s0 (Gh.all ⟨g.seg, upd g.cur w (g.cur w ++ ms), g.d⟩ i)) 1 a) (k := w) (d := (ms.count (.mk a) : Int) - ms.count (.tk a)) (by simp only [aw, csF_app, atp_app, at_link hok]) (fun i hi => by simp only [ao i hi]) W
    rw [this, if_pos hw, ← ht]
theorem GI.flushed (h : GI W x books things g) (hni : NI W L A VL VA B x) {w : Nat} (hw : w < W) :
    GI W (K.flushed x w) books things ⟨upd g.seg w (g.seg w ++ [g.cur w]), upd g.cur w [], g.d⟩ ∧ g.le W ⟨upd g.seg w (g.seg w ++ [g.cur w]), upd g.cur w [], g.d⟩ := by
  have al : ∀ i, Gh.all ⟨upd g.seg w (g.seg w ++ [g.cur w]), upd g.cur w [], g.d⟩ i = g.all i := fun i => by
    by_cases e : i = w
    · subst e; simp [Gh.all, upd_eq]
    · simp only [Gh.all, upd_ne _ _ e]
  have pr : ∀ i n, n ≤ (g.seg i).length → Gh.pre ⟨upd g.seg w (g.seg w ++ [g.cur w]), upd g.cur w [], g.d⟩ i n = g.pre i n := fun i n hn => by
    by_cases e : i = w
    · subst e; simp only [Gh.pre, upd_eq, List.take_append_of_le_length hn]
    · simp only [Gh.pre, upd_ne _ _ e]
  have hl : ∀ i j : Nat, i < W → j < W → lk (ml (K.flushed x w).Links) i j = if i = w then lk (ml x.Links) i j ++ [x.Pending.getD w []] else lk (ml x.Links) i j := fun i j hi hj => by
    show lk (flL w (x.Pending.getD w []) 0 x.Views.length (ml x.Links)) i j = _
    have := hni.vlen
    rw [flL_lk]
    by_cases e : i = w
    · rw [if_pos ⟨by omega, by omega, by omega⟩, if_pos e]
    · rw [if_neg (by omega), if_neg e]
  have hp := hni.plen
  refine ⟨⟨h.blen, fun i hi => by rw [al]; exact h.ok i hi, fun i hi => by rw [al]; exact h.book i hi, fun i hi a b => ?_, fun i j hi hj => ?_, fun i j hi hj e z hz a b => ?_, fun j hj a b => ?_, fun a => ?_, h.tim⟩, fun i j hi hj => ⟨[], ?_⟩⟩
  · by_cases e : i = w
    · subst e
      have e1 : (K.flushed x i).Pending.getD i [] = [] := by
        unfold K.flushed
        simp only []
        rw [List.getD_eq_getElem?_getD, List.getElem?_set_self (by omega)]; rfl
      rw [e1]
      show _ = atp (csF (stF s0 (upd g.seg i (g.seg i ++ [g.cur i]) i).flatten) (upd g.cur i [] i)) a b
      rw [upd_eq g.cur]; rfl
    · have e1 : (K.flushed x w).Pending.getD i [] = x.Pending.getD i [] := by
        unfold K.flushed
        simp only []
        rw [List.getD_eq_getElem?_getD, List.getElem?_set_ne (by omega), ← List.getD_eq_getElem?_getD]
      rw [e1, h.pend i hi]
      show _ = atp (csF (stF s0 (upd g.seg w (g.seg w ++ [g.cur w]) i).flatten) (upd g.cur w [] i)) a b
      rw [upd_ne _ _ e, upd_ne _ _ e]
  · have hd := h.dn i j hi hj
    rw [hl i j hi hj]
    show _ + g.d i j = (upd g.seg w (g.seg w ++ [g.cur w]) i).length
    by_cases e : i = w
    · subst e; rw [if_pos rfl, upd_eq, List.length_append, List.length_append]; simp; omega
    · rw [if_neg e, upd_ne _ _ e]; exact hd
  · have hd := h.dn i j hi hj
    rw [hl i j hi hj] at hz
    show atp z a b = atp (csF s0 (Gh.pre ⟨upd g.seg w (g.seg w ++ [g.cur w]), upd g.cur w [], g.d⟩ i (g.d i j + e + 1))) a b - atp (csF s0 (Gh.pre ⟨upd g.seg w (g.seg w ++ [g.cur w]), upd g.cur w [], g.d⟩ i (g.d i j + e))) a b
    by_cases hlt : e < (lk (ml x.Links) i j).length
    · have hz' : (lk (ml x.Links) i j)[e]? = some z := by
        split at hz
        · rw [List.getElem?_append_left hlt] at hz; exact hz
        · exact hz
      rw [pr i _ (by omega), pr i _ (by omega)]
      exact h.bat i j hi hj e z hz' a b
    · by_cases ei : i = w
      · subst ei
        rw [if_pos rfl, List.getElem?_append_right (by omega)] at hz
        have e0 : e = (lk (ml x.Links) i j).length := by
          rcases Nat.lt_or_ge (lk (ml x.Links) i j).length e with h1 | h1
          · rw [List.getElem?_eq_none (by simp; omega)] at hz; cases hz
          · omega
        rw [e0, Nat.sub_self] at hz
        have ez : x.Pending.getD i [] = z := by simpa using hz
        have e1 : Gh.pre ⟨upd g.seg i (g.seg i ++ [g.cur i]), upd g.cur i [], g.d⟩ i (g.d i j + e) = (g.seg i).flatten := by
          rw [pr i _ (by omega), show g.d i j + e = (g.seg i).length by omega, Gh.pre_all]
        have e2 : Gh.pre ⟨upd g.seg i (g.seg i ++ [g.cur i]), upd g.cur i [], g.d⟩ i (g.d i j + e + 1) = (g.seg i).flatten ++ g.cur i := by
          unfold Gh.pre
          simp only [upd_eq]
          rw [List.take_of_length_le (by simp; omega), List.flatten_append]
          simp
        rw [e1, e2, csF_app, atp_app, ← ez, h.pend i hi]; omega
      · rw [if_neg ei, List.getElem?_eq_none (by omega)] at hz; cases hz
  · have := h.view j hj a b
    show atp (x.Views.getD j []) a b = _
    rw [this]
    congr 1
    exact sumZ_congr fun i hi => by
      show _ = atp (csF s0 (Gh.pre ⟨upd g.seg w (g.seg w ++ [g.cur w]), upd g.cur w [], g.d⟩ i (g.d i j))) a b
      rw [pr i _ (by have := h.dn i j hi hj; omega)]
  · rw [h.thing]
    exact sumZ_congr fun i hi => by rw [al]
  · show Gh.pre ⟨upd g.seg w (g.seg w ++ [g.cur w]), upd g.cur w [], g.d⟩ i (g.d i j) = _
    rw [pr i _ (by have := h.dn i j hi hj; omega), List.append_nil]
def dl1 (g : Gh) (n m : Nat) : Gh := ⟨g.seg, g.cur, fun i j => if i = n ∧ j = m then g.d i j + 1 else g.d i j⟩
theorem GI.delivered (h : GI W x books things g) (hni : NI W L A VL VA B x) {n m : Nat} (hn : n < W) (hm : m < W) {b : List GChange} {r : List (List GChange)} (hb : lk (ml x.Links) n m = b :: r) :
    GI W (K.delivered x n m b) books things (dl1 g n m) ∧ g.le W (dl1 g n m) := by
  have hl : ∀ i j : Nat, lk (ml (K.delivered x n m b).Links) i j = if i = n ∧ j = m then r else lk (ml x.Links) i j := fun i j => by
    show lk (dlL (ml x.Links) n m) i j = _
    rw [dlL_lk hni.lok _ _ _ _ (by rw [hb]; simp), hb]
    by_cases e : i = n ∧ j = m
    · rw [if_pos (by omega), if_pos e]; rfl
    · rw [if_neg (by omega), if_neg e]
  have hv := hni.vlen
  have d1 : (dl1 g n m).d n m = g.d n m + 1 := if_pos ⟨rfl, rfl⟩
  have d0 : ∀ i j, ¬ (i = n ∧ j = m) → (dl1 g n m).d i j = g.d i j := fun i j e => if_neg e
  have pr : ∀ i k, (dl1 g n m).pre i k = g.pre i k := fun i k => rfl
  refine ⟨⟨h.blen, h.ok, h.book, h.pend, fun i j hi hj => ?_, fun i j hi hj e z hz a c => ?_, fun j hj a c => ?_, h.thing, h.tim⟩, fun i j hi hj => ?_⟩
  · have hd := h.dn i j hi hj
    rw [hl]
    show _ = (g.seg i).length
    by_cases e : i = n ∧ j = m
    · obtain ⟨rfl, rfl⟩ := e
      rw [if_pos ⟨rfl, rfl⟩, d1]
      rw [hb, List.length_cons] at hd; omega
    · rw [if_neg e, d0 i j e]; exact hd
  · rw [hl] at hz
    rw [pr, pr]
    by_cases ei : i = n ∧ j = m
    · obtain ⟨rfl, rfl⟩ := ei
      rw [if_pos ⟨rfl, rfl⟩] at hz
      rw [d1, show g.d i j + 1 + e = g.d i j + (e + 1) by omega]
      exact h.bat i j hi hj (e + 1) z (by rw [hb]; simpa using hz) a c
    · rw [if_neg ei] at hz
      rw [d0 i j ei]
      exact h.bat i j hi hj e z hz a c
  · by_cases ej : j = m
    · subst ej
      have e1 : (K.delivered x n j b).Views.getD j [] = nrm (x.Views.getD j [] ++ b) := by
        unfold K.delivered
        simp only []
        rw [List.getD_eq_getElem?_getD, List.getElem?_set_self (by omega)]; rfl
      have hb0 := h.bat n j hn hj 0 b (by rw [hb]; rfl) a c
      have hv0 := h.view j hj a c
      have := sumZ_set (f := fun i => atp (csF s0 (g.pre i (g.d i j))) a c) (g := fun i => atp (csF s0 ((dl1 g n j).pre i ((dl1 g n j).d i j))) a c) (k := n) (d := atp b a c) (by
        simp only [pr, d1]
        simp only [Nat.add_zero] at hb0
        omega) (fun i hi => by simp only [pr, d0 i j (fun e => hi e.1)]) W
      rw [e1, nrm_at, atp_app, hv0, this, if_pos hn]; omega
    · have e1 : (K.delivered x n m b).Views.getD j [] = x.Views.getD j [] := by
        unfold K.delivered
        simp only []
        rw [List.getD_eq_getElem?_getD, List.getElem?_set_ne (by omega), ← List.getD_eq_getElem?_getD]
      rw [e1, h.view j hj]
      congr 1
      exact sumZ_congr fun i hi => by rw [pr, d0 i j (fun e => ej e.2)]
  · rw [pr]
    by_cases e : i = n ∧ j = m
    · obtain ⟨rfl, rfl⟩ := e
      rw [d1]
      exact g.split2 i (by omega)
    · rw [d0 i j e]; exact ⟨[], by simp⟩
/-- No worker's frontier goes back. -/
theorem GI.front (h : GI W x books things g) (h' : GI W x' books' things' g') (hle : g.le W g') {j : Nat} (hj : j < W) (k : Int) : frn (x.Views.getD j []) k ≤ frn (x'.Views.getD j []) k := by
  refine frn_le2 fun a b hl hp => ?_
  have l0 : leads a k = true → 0 ≤ a → leads 0 k = true := fun hl h0 => by
    unfold leads at hl ⊢
    simp only [Bool.and_eq_true, decide_eq_true_eq] at hl ⊢
    omega
  by_cases h0 : a = 0
  · subst h0
    rw [h'.src hj] at hp
    obtain ⟨i, hi, hpi⟩ := sumZ_pos hp
    have hs := ind_pos hpi
    obtain ⟨q, e⟩ := hle i j hi hj
    have hok := h'.ok_pre hi (g'.d i j)
    rw [e, okF_app] at hok
    rw [e, stF_app] at hs
    obtain ⟨t, h1, h2⟩ := st_back hok.2 hs
    exact ⟨0, t, hl, h.src_pos hi hj h1, h2⟩
  · by_cases h1 : a = 1
    · subst h1
      by_cases hold : 0 < atp (x.Views.getD j []) 1 b
      · exact ⟨1, b, hl, hold, Int.le_refl _⟩
      · by_cases hex : ∃ i, i < W ∧ ∃ q, g'.pre i (g'.d i j) = g.pre i (g.d i j) ++ q ∧ Mv.mk b ∈ q
        · obtain ⟨i, hi, q, e, hm⟩ := hex
          have hok := h'.ok_pre hi (g'.d i j)
          rw [e, okF_app] at hok
          obtain ⟨t, h1, h2⟩ := mk_back hok.2 hm
          exact ⟨0, t, l0 hl (by omega), h.src_pos hi hj h1, h2⟩
        · exfalso
          have hle' : sumZ (fun i => ((g'.pre i (g'.d i j)).count (.mk b) : Int) - (g'.pre i (g'.d i j)).count (.tk b)) W ≤ sumZ (fun i => ((g.pre i (g.d i j)).count (.mk b) : Int) - (g.pre i (g.d i j)).count (.tk b)) W := sumZ_le fun i hi => by
            obtain ⟨q, e⟩ := hle i j hi hj
            have hq : Mv.mk b ∉ q := fun hm => hex ⟨i, hi, q, e, hm⟩
            rw [e, List.count_append, List.count_append, List.count_eq_zero.2 hq]
            omega
          rw [h'.link hj] at hp
          rw [h.link hj] at hold
          omega
    · exfalso
      rw [h'.view j hj, if_neg (fun e => h0 e.1)] at hp
      have : sumZ (fun i => atp (csF s0 (g'.pre i (g'.d i j))) a b) W = 0 := by
        rw [← sumZ_zero (n := W)]
        exact sumZ_congr fun i _ => at_none h0 h1 b
      omega
end
end Go.Proofs.Ytcpageegmpjkiaa.K
