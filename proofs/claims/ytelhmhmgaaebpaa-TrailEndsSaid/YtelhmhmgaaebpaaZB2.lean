/- what telltalelaw22.TrailEnds needs (2) -/
import Derived.Test.YtelhmhmgaaebpaaZB1
import Derived.Test.YtelhmhmgaaebpaaZAn
import Derived.ProofKit
import Derived.OpenShut
import Derived.ShutString
import Derived.ChangeOld
import Derived.Carry
import Derived.Test.YtelhmhmgaaebpaaZLM
import Derived.Sort.AssemblyPlain
set_option linter.unusedVariables false
set_option linter.unusedSimpArgs false
namespace Go.Proofs.Ytelhmhmgaaebpaa.K
open Go.RowKit Go.Lib
set_option maxRecDepth 20000
set_option maxHeartbeats 4000000

theorem ok_w22_TrailEnds (p0 : (List GWait)) (p1 : (List GArr2_Int_)) (p2 : GArr2_Int) (r : Bool) (h : m_w22_TrailEnds p0 p1 p2 = some r) : GCall Try.prog 4 [(.l enc_GWait p0), (.l enc_GArr2_Int_ p1), (.agg [(.i p2.a0), (.i p2.a1)])] [] (.b r) [] := by
 refine GCall.of_body (n := 295) (rs := [(.tmp 6)]) Try.func4 rfl rfl rfl <| Ato ⟨.l enc_GWait p0::.l enc_GArr2_Int_ p1::.agg [(.i p2.a0), (.i p2.a1)]::tu 292 [], [], 0⟩ ?_
 have hm := h
 unfold m_w22_TrailEnds at hm
 refine Sx <| Wy (.loc 0 0) [(0, (.box [(.i p2.a0), (.i p2.a1)]))] (Obx rfl) <| Wm (.b false) rfl <| Nk 35 1 ⟨.l enc_GWait p0::.l enc_GArr2_Int_ p1::tp 3 (.loc 0 0::tp 289 []), [(.box [(.i p2.a0), (.i p2.a1)])], 0⟩ <| Sq ?_
 refine AWP.cutJ (α := Unit) (fun x => match x with | () => (⟨.l enc_GWait p0::.l enc_GArr2_Int_ p1::tp 3 (.loc 0 0::tp 35 (.b true::tp 253 [])), [(.box [(.i p2.a0), (.i p2.a1)])], 0⟩ : St)) (fun x => match x with | () => m_w22_TrailEnds_j1  = some r) ?_ (fun J1 => ?_)
 ·
  rintro ⟨⟩ hm
  try dsimp only at hm ⊢
  unfold m_w22_TrailEnds_j1 at hm
  refine AWP.if_ true (by kernel_rfl) <| Sx ?_
  obtain ⟨r42_2, hr42_2, hm⟩ := bnd hm
  refine Wz (.b r42_2) (Ocf [] [] [] 0 (ok_w22_awake  r42_2 hr42_2) (fun a w => Try.call5 a w) rfl trivial) <| Wm (.b r42_2) rfl <| Nn <| Rt <| Tr ?_
  obtain rfl := Option.some.inj hm
  exact ret_i []
 refine Sx <| Wm (.l enc_GWait p0) rfl <| Wz (.agg [(.i 0), (.l enc_GWait p0)]) (Obd rfl) ?_
 obtain ⟨r28_0, hr28_0, hm⟩ := bnd hm
 refine Wz (.i r28_0) (Ocf [] [] [] 0 (ok_w22_Over (GTrail.mk 0 p0) r28_0 hr28_0) (fun a w => Try.call8 a w) rfl trivial) <| Wz (.b (decide ((0 : Int) < r28_0))) (Obn rfl (fun _ => hb_gtr (k := .i64))) ?_
 rcases tf_ (decide ((0 : Int) < r28_0)) with hq30_0 | hq30_0
 ·
  replace hm := cT hq30_0 hm
  refine Wz (.b true) (Oq hq30_0 rfl) <| Wn <| Wn <| Wn <| Wz (.b true) (OpT rfl) <| Wm (.b true) rfl <| Wn <| Wn <| Wn <| Wn <| Wn <| Wz (.b true) (OpT rfl) <| Nn ?_
  exact AWP.weak (Weak.toK 2199023255587 0 0 [0]) (J1 () hm)
 ·
  replace hm := cF hq30_0 hm
  refine Wz (.b false) (Oq hq30_0 rfl) <| Wm (.l enc_GArr2_Int_ p1) rfl <| Wz (.i ((List.length p1 : Nat) : Int)) (Oln rfl) <| Wz (.b (decide ((12 : Int) < ((List.length p1 : Nat) : Int)))) (Obn rfl (fun _ => hb_gtr (k := .i64))) <| Wz (.b (decide ((12 : Int) < ((List.length p1 : Nat) : Int)))) (OpF rfl) ?_
  rcases tf_ (decide ((12 : Int) < ((List.length p1 : Nat) : Int))) with hq35_0 | hq35_0
  ·
   replace hm := cT hq35_0 hm
   refine Wz (.b true) (Oq hq35_0 rfl) <| Wn <| Wn <| Wn <| Wn <| Wn <| Wz (.b true) (OpT rfl) <| Nn ?_
   exact AWP.weak (Weak.toK 2199023255587 0 0 [0]) (J1 () hm)
  ·
   replace hm := cF hq35_0 hm
   refine Wz (.b false) (Oq hq35_0 rfl) <| Wz (.loc 0 1) (Ocs (by kernel_rfl) (op_iaddr_arr rfl (n := 2) (sz := 1) (y := (.loc 0 0)) (by kernel_rfl) (by kernel_rfl) (by kernel_rfl) (k := .i64) (iv := 1) (by kernel_rfl) (i := 1) (by rfl) (by decide))) <| Wz (.i p2.a1) (Old rfl) <| Wz (.loc 0 0) (Ocs (by kernel_rfl) (op_iaddr_arr rfl (n := 2) (sz := 1) (y := (.loc 0 0)) (by kernel_rfl) (by kernel_rfl) (by kernel_rfl) (k := .i64) (iv := 0) (by kernel_rfl) (i := 0) (by rfl) (by decide))) <| Wz (.i p2.a0) (Old rfl) <| Wz (.b (decide (p2.a1 < p2.a0))) (Obn rfl (fun _ => hb_lss (k := .i64))) <| Wz (.b (decide (p2.a1 < p2.a0))) (OpF rfl) <| Nk 2199023255587 1 ⟨.l enc_GWait p0::.l enc_GArr2_Int_ p1::tp 3 (.loc 0 0::tp 35 (.b (decide (p2.a1 < p2.a0))::tp 253 [])), [(.box [(.i p2.a0), (.i p2.a1)])], 0⟩ ?_
   rcases tf_ (decide (p2.a1 < p2.a0)) with hc41_31 | hc41_31
   ·
    replace hm := cT hc41_31 hm
    refine AiT hc41_31 <| Sx ?_
    obtain ⟨r42_3, hr42_3, hm⟩ := bnd hm
    refine Wz (.b r42_3) (Ocf [] [] [] 0 (ok_w22_awake  r42_3 hr42_3) (fun a w => Try.call5 a w) rfl trivial) <| Wm (.b r42_3) rfl <| Nn <| Rt <| Tr ?_
    obtain rfl := Option.some.inj hm
    exact ret_i []
   ·
    replace hm := cF hc41_31 hm
    refine AiF hc41_31 <| Sk <| Tk 35 1 ⟨.l enc_GWait p0::.l enc_GArr2_Int_ p1::tp 3 (.loc 0 0::tp 289 []), [(.box [(.i p2.a0), (.i p2.a1)])], 0⟩ <| Sx ?_
    obtain ⟨r44_4, hr44_4, hm⟩ := bnd hm
    refine Wz (.tup [(.agg [(.i r44_4.1.Cap), (.l enc_GWait r44_4.1.L)]), (.i r44_4.2)]) (Ocf [] [] [] 0 (ok_trail_New 12 r44_4 hr44_4) (fun a w => Try.call9 a w) rfl trivial) <| Wm (.tup [(.agg [(.i r44_4.1.Cap), (.l enc_GWait r44_4.1.L)]), (.i r44_4.2)]) rfl <| Wz (.agg [(.i r44_4.1.Cap), (.l enc_GWait r44_4.1.L)]) (Oex rfl) <| Wz (.i r44_4.2) (Oex rfl) <| Wy (.loc 1 0) [(1, (.box [(.i 0), (.d .nil)]))] (Oal rfl) <| Wy (.tup []) [(1, (.box [(.i r44_4.1.Cap), (.l enc_GWait r44_4.1.L)]))] (Ost rfl) <| Wm (.i r44_4.2) rfl <| Nk 419 3 ⟨.l enc_GWait p0::.l enc_GArr2_Int_ p1::tp 3 (.loc 0 0::tp 1 (.loc 1 0::.i r44_4.2::tp 286 [])), [(.box [(.i p2.a0), (.i p2.a1)]), (.box [(.i r44_4.1.Cap), (.l enc_GWait r44_4.1.L)])], 0⟩ <| Sq <| Sx <| Wm (.i r44_4.2) rfl <| Wz (.b (decide (r44_4.2 ≠ 0))) (Obn rfl (fun _ => hb_neq (k := .i64))) <| Nk 281474976710819 3 ⟨.l enc_GWait p0::.l enc_GArr2_Int_ p1::tp 3 (.loc 0 0::tp 1 (.loc 1 0::tp 40 (.b (decide (r44_4.2 ≠ 0))::tp 246 []))), [(.box [(.i p2.a0), (.i p2.a1)]), (.box [(.i r44_4.1.Cap), (.l enc_GWait r44_4.1.L)])], 0⟩ ?_
    rcases tf_ (decide (r44_4.2 ≠ 0)) with hc48_32 | hc48_32
    ·
     replace hm := cT hc48_32 hm
     refine AiT hc48_32 <| Sx <| Wm (.b false) rfl <| Nn <| Rt <| Tr ?_
     obtain rfl := Option.some.inj hm
     exact ret_i []
    ·
     replace hm := cF hc48_32 hm
     refine AiF hc48_32 <| Sk <| Tk 163 3 ⟨.l enc_GWait p0::.l enc_GArr2_Int_ p1::tp 3 (.loc 0 0::tp 1 (.loc 1 0::tp 287 [])), [(.box [(.i p2.a0), (.i p2.a1)]), (.box [(.i r44_4.1.Cap), (.l enc_GWait r44_4.1.L)])], 0⟩ <| Sx <| Wm (.i 0) rfl <| Nk 675 3 ⟨.l enc_GWait p0::.l enc_GArr2_Int_ p1::tp 3 (.loc 0 0::tp 1 (.loc 1 0::tp 1 (.i 0::tp 285 []))), [(.box [(.i p2.a0), (.i p2.a1)]), (.box [(.i r44_4.1.Cap), (.l enc_GWait r44_4.1.L)])], 0⟩ <| Sq <| Sx <| Wm (.i 0) rfl <| Nk 1699 3 ⟨.l enc_GWait p0::.l enc_GArr2_Int_ p1::tp 3 (.loc 0 0::tp 1 (.loc 1 0::tp 1 (.i 0::.i 0::tp 284 []))), [(.box [(.i p2.a0), (.i p2.a1)]), (.box [(.i r44_4.1.Cap), (.l enc_GWait r44_4.1.L)])], 0⟩ <| Bk ?_
     refine AWP.loopI (α := Nat × Int × (List GWait) × Int × Int)
       (fun (fu_5, y7_d_0_5, y7_d_1_5, y9_5, y10_5) => (⟨.l enc_GWait p0::.l enc_GArr2_Int_ p1::tp 3 (.loc 0 0::tp 1 (.loc 1 0::tp 1 (.i y9_5::.i y10_5::tp 284 []))), [(.box [(.i p2.a0), (.i p2.a1)]), (.box [(.i y7_d_0_5), (.l enc_GWait y7_d_1_5)])], 0⟩ : St))
       (fun (fu_5, y7_d_0_5, y7_d_1_5, y9_5, y10_5) => m_w22_TrailEnds_l5 p0 p1 p2 fu_5 y7_d_0_5 y7_d_1_5 y9_5 y10_5 = some r)
       (fun (fu_5, y7_d_0_5, y7_d_1_5, y9_5, y10_5) => fu_5) (1152921504606846976, r44_4.1.Cap, r44_4.1.L, 0, 0)
       (Weak.toK 1699 0 0 [0, 1]) hm ?_
     rintro ⟨fu_5, y7_d_0_5, y7_d_1_5, y9_5, y10_5⟩ n_5 hm ih_5
     try dsimp only at hm ih_5 ⊢
     cases fu_5 with
     | zero => exact absurd hm (by unfold m_w22_TrailEnds_l5; simp)
     | succ fu_5 =>
      unfold m_w22_TrailEnds_l5 at hm
      refine Sq <| Sx <| Wm (.i y10_5) rfl <| Wm (.l enc_GWait p0) rfl <| Wz (.i ((List.length p0 : Nat) : Int)) (Oln rfl) <| Wz (.b (decide (y10_5 < ((List.length p0 : Nat) : Int)))) (Obn rfl (fun _ => hb_lss (k := .i64))) <| Nk 4503599627372195 3 ⟨.l enc_GWait p0::.l enc_GArr2_Int_ p1::tp 3 (.loc 0 0::tp 1 (.loc 1 0::tp 1 (.i y9_5::.i y10_5::tp 41 (.b (decide (y10_5 < ((List.length p0 : Nat) : Int)))::tp 242 [])))), [(.box [(.i p2.a0), (.i p2.a1)]), (.box [(.i y7_d_0_5), (.l enc_GWait y7_d_1_5)])], 0⟩ ?_
      rcases tf_ (decide (y10_5 < ((List.length p0 : Nat) : Int))) with hc52_33 | hc52_33
      ·
       replace hm := cT hc52_33 hm
       refine AiT hc52_33 <| Sk <| Tk 1187 3 ⟨.l enc_GWait p0::.l enc_GArr2_Int_ p1::tp 3 (.loc 0 0::tp 1 (.loc 1 0::tp 2 (.i y10_5::tp 284 []))), [(.box [(.i p2.a0), (.i p2.a1)]), (.box [(.i y7_d_0_5), (.l enc_GWait y7_d_1_5)])], 0⟩ <| Sq <| Bk <| Sq <| Adr <| Wz (.agg [(.i y7_d_0_5), (.l enc_GWait y7_d_1_5)]) (Old rfl) <| Wm (.l enc_GWait p0) rfl <| Wm (.i y10_5) rfl ?_
       obtain ⟨x59_7, hx59_7, hm⟩ := bnd hm
       obtain ⟨hx59_7i, hx59_7g⟩ := geti_some hx59_7
       refine Wz (.d (.ref (List.drop ((Int.toNat y10_5) * 3) (flatD enc_GWait p0)))) (Oia rfl enc_GWait_len hx59_7i hx59_7g) <| Wz (.agg [(.l enc_GPair x59_7.Bound), (.l (encI .u32) x59_7.Sets), (.i x59_7.End)]) (Lf rfl enc_GWait_len hx59_7g) ?_
       obtain ⟨r61_7, hr61_7, hm⟩ := bnd hm
       refine Wy (.agg [(.own 2), (.own 3), (.i r61_7.End)]) [(2, (Ar 71 6 enc_GPair r61_7.Bound)), (3, (.arr 25 1 (List.length r61_7.Sets) (flatD (encI .u32) r61_7.Sets)))] (Ocf [] [2, 3] [] 0 (ok_w22_Own x59_7 r61_7 hr61_7) (fun a w => Try.call11 a w) rfl trivial) ?_
       obtain ⟨r62_7, hr62_7, hm⟩ := bnd hm
       refine Wy (.tup [(.agg [(.i r62_7.1.Cap), (.own 4)]), (.i r62_7.2)]) [(4, (Ar 42 3 enc_GWait r62_7.1.L)), (2, (.fro 71 6 (List.length r61_7.Bound) (flatD enc_GPair r61_7.Bound))), (3, (.fro 25 1 (List.length r61_7.Sets) (flatD (encI .u32) r61_7.Sets)))] (Ocf [] [4] [2, 3] 0 (ok_trail_Trail_Add (GTrail.mk y7_d_0_5 y7_d_1_5) r61_7 r62_7 hr62_7) (fun a w => Try.call10 a w) rfl trivial) <| Wm (.tup [(.agg [(.i r62_7.1.Cap), (.own 4)]), (.i r62_7.2)]) rfl <| Wz (.agg [(.i r62_7.1.Cap), (.own 4)]) (Oex rfl) <| Wz (.i r62_7.2) (Oex rfl) <| Wy (.loc 5 0) [(5, (.box [(.i 0), (.d .nil)]))] (Oal rfl) <| Wy (.tup []) [(5, (.box [(.i r62_7.1.Cap), (.own 4)]))] (Ost rfl) <| Wm (.i r62_7.2) rfl <| Wdr <| Tk 7331 51 ⟨.l enc_GWait p0::.l enc_GArr2_Int_ p1::tp 3 (.loc 0 0::tp 1 (.loc 1 0::tp 2 (.i y10_5::.loc 5 0::.i r62_7.2::tp 282 []))), [(.box [(.i p2.a0), (.i p2.a1)]), (.box [(.i y7_d_0_5), (.l enc_GWait y7_d_1_5)]), .gone, .gone, (Ar 42 3 enc_GWait r62_7.1.L), (.box [(.i r62_7.1.Cap), (.own 4)])], 0⟩ <| Sq <| Sx <| Wm (.i r62_7.2) rfl <| Wz (.b (decide (r62_7.2 = 0))) (Obn rfl (fun _ => hb_eql (k := .i64))) <| Wm (.l enc_GWait p0) rfl ?_
       refine Wm (.i y10_5) rfl ?_
       obtain ⟨x69_8, hx69_8, hm⟩ := bnd hm
       obtain ⟨hx69_8i, hx69_8g⟩ := geti_some hx69_8
       refine Wz (.d (.ref (List.drop ((Int.toNat y10_5) * 3) (flatD enc_GWait p0)))) (Oia rfl enc_GWait_len hx69_8i hx69_8g) <| Wz (.d (.ref (List.drop 1 (List.drop ((Int.toNat y10_5) * 3) (flatD enc_GWait p0))))) (Ofa rfl) <| Wz (.l (encI .u32) x69_8.Sets) (Lfk1 1 rfl enc_GWait_len hx69_8g) <| Wz (.i ((List.length x69_8.Sets : Nat) : Int)) (Oln rfl) <| Wz (.b (decide ((0 : Int) < ((List.length x69_8.Sets : Nat) : Int)))) (Obn rfl (fun _ => hb_gtr (k := .i64))) <| Wz (.b (decide (decide (r62_7.2 = 0) ≠ decide ((0 : Int) < ((List.length x69_8.Sets : Nat) : Int))))) (Ob2 (.bool (decide (r62_7.2 = 0))) (.bool (decide ((0 : Int) < ((List.length x69_8.Sets : Nat) : Int)))) rfl (fun _ => hb_bneq (by kernel_rfl))) ?_
       rcases tf_ (decide (decide (r62_7.2 = 0) ≠ decide ((0 : Int) < ((List.length x69_8.Sets : Nat) : Int)))) with hq75_8 | hq75_8
       ·
        replace hm := cT hq75_8 hm
        refine Wz (.b true) (Oq hq75_8 rfl) <| Wn <| Wn <| Wz (.b true) (OpT rfl) <| Nk 302231454903657293679779 51 ⟨.l enc_GWait p0::.l enc_GArr2_Int_ p1::tp 3 (.loc 0 0::tp 1 (.loc 1 0::tp 2 (.i y10_5::.loc 5 0::tp 66 (.b true::tp 216 [])))), [(.box [(.i p2.a0), (.i p2.a1)]), (.box [(.i y7_d_0_5), (.l enc_GWait y7_d_1_5)]), .gone, .gone, (Ar 42 3 enc_GWait r62_7.1.L), (.box [(.i r62_7.1.Cap), (.own 4)])], 0⟩ <| AWP.if_ true (by kernel_rfl) <| Sx <| Wm (.b false) rfl <| Nn <| Rt <| Tr <| Ir <| Tr <| RoundK.ret ?_
        refine Ir <| Tr ?_
        obtain rfl := Option.some.inj hm
        exact ret_i []
       ·
        replace hm := cF hq75_8 hm
        refine Wz (.b false) (Oq hq75_8 rfl) <| Wm (.i r62_7.2) rfl <| Wz (.b (decide (r62_7.2 = 7))) (Obn rfl (fun _ => hb_eql (k := .i64))) <| Wz (.b (decide (r62_7.2 = 7))) (OpF rfl) <| Nk 302231454903657293679779 51 ⟨.l enc_GWait p0::.l enc_GArr2_Int_ p1::tp 3 (.loc 0 0::tp 1 (.loc 1 0::tp 2 (.i y10_5::.loc 5 0::tp 66 (.b (decide (r62_7.2 = 7))::tp 216 [])))), [(.box [(.i p2.a0), (.i p2.a1)]), (.box [(.i y7_d_0_5), (.l enc_GWait y7_d_1_5)]), .gone, .gone, (Ar 42 3 enc_GWait r62_7.1.L), (.box [(.i r62_7.1.Cap), (.own 4)])], 0⟩ ?_
        rcases tf_ (decide (r62_7.2 = 7)) with hc78_34 | hc78_34
        ·
         replace hm := cT hc78_34 hm
         refine AiT hc78_34 <| Sx <| Wm (.b false) rfl <| Nn <| Rt <| Tr <| Ir <| Tr <| RoundK.ret <| Ir <| Tr ?_
         obtain rfl := Option.some.inj hm
         exact ret_i []
        ·
         replace hm := cF hc78_34 hm
         refine AiF hc78_34 <| Sk <| Tk 3235 51 ⟨.l enc_GWait p0::.l enc_GArr2_Int_ p1::tp 3 (.loc 0 0::tp 1 (.loc 1 0::tp 2 (.i y10_5::.loc 5 0::tp 283 []))), [(.box [(.i p2.a0), (.i p2.a1)]), (.box [(.i y7_d_0_5), (.l enc_GWait y7_d_1_5)]), .gone, .gone, (Ar 42 3 enc_GWait r62_7.1.L), (.box [(.i r62_7.1.Cap), (.own 4)])], 0⟩ <| Sx <| Wz (.agg [(.i r62_7.1.Cap), (.own 4)]) (Old rfl) <| Wy (.tup []) [(1, (.box [(.i r62_7.1.Cap), (.own 4)]))] (Ost rfl) <| Nk 1187 19 ⟨.l enc_GWait p0::.l enc_GArr2_Int_ p1::tp 3 (.loc 0 0::tp 1 (.loc 1 0::tp 2 (.i y10_5::tp 284 []))), [(.box [(.i p2.a0), (.i p2.a1)]), (.box [(.i r62_7.1.Cap), (.own 4)]), .gone, .gone, (Ar 42 3 enc_GWait r62_7.1.L), .gone], 0⟩ <| Tx <| Wz (.loc 1 1) (Ofa rfl) <| Wz (.own 4) (Old rfl) <| Wz (.i ((List.length r62_7.1.L : Nat) : Int)) (Oln rfl) <| Wm (.i ((List.length r62_7.1.L : Nat) : Int)) rfl <| Wn0 <| Ino ?_
         refine Tk 1699 19 ⟨.l enc_GWait p0::.l enc_GArr2_Int_ p1::tp 3 (.loc 0 0::tp 1 (.loc 1 0::tp 1 (.i ((List.length r62_7.1.L : Nat) : Int)::.i y10_5::tp 284 []))), [(.box [(.i p2.a0), (.i p2.a1)]), (.box [(.i r62_7.1.Cap), (.own 4)]), .gone, .gone, (Ar 42 3 enc_GWait r62_7.1.L), .gone], 0⟩ <| Tx <| Wm (.i y10_5) rfl <| Wz (.i (W6 (y10_5 + 1))) (Obn rfl (fun _ => hb_add (k := .i64))) <| Wm (.i (W6 (y10_5 + 1))) rfl <| Wn0 <| RoundK.normal <| Rfz [4] ⟨.l enc_GWait p0::.l enc_GArr2_Int_ p1::tp 3 (.loc 0 0::tp 1 (.loc 1 0::tp 1 (.i ((List.length r62_7.1.L : Nat) : Int)::.i (W6 (y10_5 + 1))::tp 42 (.i y10_5::.i (W6 (y10_5 + 1))::tp 240 [])))), [(.box [(.i p2.a0), (.i p2.a1)]), (.box [(.i r62_7.1.Cap), (.l enc_GWait r62_7.1.L)]), .gone, .gone, (.fro 42 3 (List.length r62_7.1.L) (flatD enc_GWait r62_7.1.L)), .gone], 0⟩ ?_
         exact Rounds.weak (Weak.toK 1699 0 0 [0, 1]) (ih_5 (fu_5, r62_7.1.Cap, r62_7.1.L, ((List.length r62_7.1.L : Nat) : Int), (W6 (y10_5 + 1))) hm (Nat.lt_succ_self _))
      ·
       replace hm := cF hc52_33 hm
       refine AiF hc52_33 <| AWP.exit <| Then.exit <| RoundK.exit <| InBlock.same <| Tk 674 3 ⟨tp 1 (.l enc_GArr2_Int_ p1::tp 3 (.loc 0 0::tp 1 (.loc 1 0::tp 1 (.i y9_5::tp 285 [])))), [(.box [(.i p2.a0), (.i p2.a1)]), (.box [(.i y7_d_0_5), (.l enc_GWait y7_d_1_5)])], 0⟩ <| Sx <| Wm (.i 0) rfl <| Nk 8866 3 ⟨tp 1 (.l enc_GArr2_Int_ p1::tp 3 (.loc 0 0::tp 1 (.loc 1 0::tp 1 (.i y9_5::tp 3 (.i 0::tp 281 []))))), [(.box [(.i p2.a0), (.i p2.a1)]), (.box [(.i y7_d_0_5), (.l enc_GWait y7_d_1_5)])], 0⟩ <| Sq <| Sx <| Wm (.i 0) rfl <| Nk 25250 3 ⟨tp 1 (.l enc_GArr2_Int_ p1::tp 3 (.loc 0 0::tp 1 (.loc 1 0::tp 1 (.i y9_5::tp 3 (.i 0::.i 0::tp 280 []))))), [(.box [(.i p2.a0), (.i p2.a1)]), (.box [(.i y7_d_0_5), (.l enc_GWait y7_d_1_5)])], 0⟩ <| Bk ?_
       refine AWP.loopI (α := Nat × GTrail × Int × Int)
         (fun (fu_10, y7_d_10, y13_10, y14_10) => (⟨tp 1 (.l enc_GArr2_Int_ p1::tp 3 (.loc 0 0::tp 1 (.loc 1 0::tp 1 (.i y9_5::tp 3 (.i y13_10::.i y14_10::tp 280 []))))), [(.box [(.i p2.a0), (.i p2.a1)]), (.box [(.i y7_d_10.Cap), (.l enc_GWait y7_d_10.L)])], 0⟩ : St))
         (fun (fu_10, y7_d_10, y13_10, y14_10) => m_w22_TrailEnds_l10 p1 p2 y9_5 fu_10 y7_d_10 y13_10 y14_10 = some r)
         (fun (fu_10, y7_d_10, y13_10, y14_10) => fu_10) (1152921504606846976, (GTrail.mk y7_d_0_5 y7_d_1_5), 0, 0)
         (Weak.toK 25250 0 0 [0, 1]) hm ?_
       rintro ⟨fu_10, y7_d_10, y13_10, y14_10⟩ n_10 hm ih_10
       try dsimp only at hm ih_10 ⊢
       cases fu_10 with
       | zero => exact absurd hm (by unfold m_w22_TrailEnds_l10; simp)
       | succ fu_10 =>
        unfold m_w22_TrailEnds_l10 at hm
        refine Sq <| Sx <| Wm (.i y14_10) rfl <| Wm (.l enc_GArr2_Int_ p1) rfl <| Wz (.i ((List.length p1 : Nat) : Int)) (Oln rfl) <| Wz (.b (decide (y14_10 < ((List.length p1 : Nat) : Int)))) (Obn rfl (fun _ => hb_lss (k := .i64))) <| Nk 77371252455336267181220514 3 ⟨tp 1 (.l enc_GArr2_Int_ p1::tp 3 (.loc 0 0::tp 1 (.loc 1 0::tp 1 (.i y9_5::tp 3 (.i y13_10::.i y14_10::tp 71 (.b (decide (y14_10 < ((List.length p1 : Nat) : Int)))::tp 208 [])))))), [(.box [(.i p2.a0), (.i p2.a1)]), (.box [(.i y7_d_10.Cap), (.l enc_GWait y7_d_10.L)])], 0⟩ ?_
        rcases tf_ (decide (y14_10 < ((List.length p1 : Nat) : Int))) with hc86_35 | hc86_35
        ·
         replace hm := cT hc86_35 hm
         refine AiT hc86_35 <| Sk <| Tk 25250 3 ⟨tp 1 (.l enc_GArr2_Int_ p1::tp 3 (.loc 0 0::tp 1 (.loc 1 0::tp 1 (.i y9_5::tp 3 (.i y13_10::.i y14_10::tp 280 []))))), [(.box [(.i p2.a0), (.i p2.a1)]), (.box [(.i y7_d_10.Cap), (.l enc_GWait y7_d_10.L)])], 0⟩ <| Sq <| Bk <| Sq <| Adr <| Wz (.agg [(.i y7_d_10.Cap), (.l enc_GWait y7_d_10.L)]) (Old rfl) <| Wm (.l enc_GArr2_Int_ p1) rfl <| Wm (.i y14_10) rfl ?_
         obtain ⟨x92_12, hx92_12, hm⟩ := bnd hm
         obtain ⟨hx92_12i, hx92_12g⟩ := geti_some hx92_12
         refine Wz (.d (.ref (List.drop ((Int.toNat y14_10) * 2) (flatD enc_GArr2_Int_ p1)))) (Oia rfl enc_GArr2_Int__len hx92_12i hx92_12g) <| Wz (.d (.ref (List.drop ((Int.toNat y14_10) * 2) (flatD enc_GArr2_Int_ p1)))) (Ocs (by kernel_rfl) (op_iaddr_arr rfl (n := 2) (sz := 1) (y := (.d (.ref (List.drop ((Int.toNat y14_10) * 2) (flatD enc_GArr2_Int_ p1))))) (by kernel_rfl) (by kernel_rfl) (by kernel_rfl) (k := .i64) (iv := 0) (by kernel_rfl) (i := 0) (by rfl) (by decide))) <| Wz (.d (.lit (.int .u32 x92_12.a0))) (Lf1 rfl enc_GArr2_Int__len hx92_12g) <| Wz (.d (.lit (.int .u32 (Int.tmod x92_12.a0 16)))) (Ob2 (.int .u32 x92_12.a0) (.int .u32 16) rfl (fun _ => hb_rem (by decide))) <| Wz (.i (W6 (Int.tmod x92_12.a0 16))) (Oc2 (.int .u32 (Int.tmod x92_12.a0 16)) rfl (run_conv (ds := .int .u32) (k' := .i64) (by kernel_rfl) (by kernel_rfl))) <| Wm (.l enc_GArr2_Int_ p1) rfl <| Wm (.i y14_10) rfl ?_
         obtain ⟨x99_12, hx99_12, hm⟩ := bnd hm
         obtain ⟨hx99_12i, hx99_12g⟩ := geti_some hx99_12
         refine Wz (.d (.ref (List.drop ((Int.toNat y14_10) * 2) (flatD enc_GArr2_Int_ p1)))) (Oia rfl enc_GArr2_Int__len hx99_12i hx99_12g) <| Wz (.d (.ref (List.drop 1 (List.drop ((Int.toNat y14_10) * 2) (flatD enc_GArr2_Int_ p1))))) (Ocs (by kernel_rfl) (op_iaddr_arr rfl (n := 2) (sz := 1) (y := (.d (.ref (List.drop ((Int.toNat y14_10) * 2) (flatD enc_GArr2_Int_ p1))))) (by kernel_rfl) (by kernel_rfl) (by kernel_rfl) (k := .i64) (iv := 1) (by kernel_rfl) (i := 1) (by rfl) (by decide))) <| Wz (.d (.lit (.int .u32 x99_12.a1))) (Lfk1 1 rfl enc_GArr2_Int__len hx99_12g) ?_
         obtain ⟨r102_12, hr102_12, hm⟩ := bnd hm
         refine Wz (.agg [(.i r102_12.Cap), (.l enc_GWait r102_12.L)]) (Ocf [] [] [] 0 (ok_trail_Trail_Hit y7_d_10 (W6 (Int.tmod x92_12.a0 16)) x99_12.a1 r102_12 hr102_12) (fun a w => Try.call12 a w) rfl trivial) <| Wy (.loc 2 0) [(2, (.box [(.i 0), (.d .nil)]))] (Oal rfl) <| Wy (.tup []) [(2, (.box [(.i r102_12.Cap), (.l enc_GWait r102_12.L)]))] (Ost rfl) <| Wdr <| Tk 58018 7 ⟨tp 1 (.l enc_GArr2_Int_ p1::tp 3 (.loc 0 0::tp 1 (.loc 1 0::tp 1 (.i y9_5::tp 3 (.i y13_10::.i y14_10::.loc 2 0::tp 279 []))))), [(.box [(.i p2.a0), (.i p2.a1)]), (.box [(.i y7_d_10.Cap), (.l enc_GWait y7_d_10.L)]), (.box [(.i r102_12.Cap), (.l enc_GWait r102_12.L)])], 0⟩ <| Sx <| Wm (.i y13_10) rfl <| Wz (.loc 1 1) (Ofa rfl) <| Wz (.l enc_GWait y7_d_10.L) (Old rfl) <| Wz (.i ((List.length y7_d_10.L : Nat) : Int)) (Oln rfl) <| Wz (.i (W6 (y13_10 + ((List.length y7_d_10.L : Nat) : Int)))) (Obn rfl (fun _ => hb_add (k := .i64))) <| Wz (.loc 2 1) (Ofa rfl) <| Wz (.l enc_GWait r102_12.L) (Old rfl) <| Wz (.i ((List.length r102_12.L : Nat) : Int)) (Oln rfl) ?_
         obtain ⟨v111_13, hv111_13, hm⟩ := bnd hm; replace hv111_13 := Option.some.inj hv111_13
         refine Wz (.i v111_13) (Ocs (congrArg (fun z => A.d (.lit (.int .i64 z))) hv111_13) (Obn rfl (fun _ => hb_sub (k := .i64)))) <| Wm (.i v111_13) rfl <| Nk 58018 7 ⟨tp 1 (.l enc_GArr2_Int_ p1::tp 3 (.loc 0 0::tp 1 (.loc 1 0::tp 1 (.i y9_5::tp 3 (.i v111_13::.i y14_10::.loc 2 0::tp 279 []))))), [(.box [(.i p2.a0), (.i p2.a1)]), (.box [(.i y7_d_10.Cap), (.l enc_GWait y7_d_10.L)]), (.box [(.i r102_12.Cap), (.l enc_GWait r102_12.L)])], 0⟩ <| Sq <| Sx <| Wz (.loc 1 1) (Ofa rfl) <| Wz (.l enc_GWait y7_d_10.L) (Old rfl) <| Wz (.i ((List.length y7_d_10.L : Nat) : Int)) (Oln rfl) <| Wz (.loc 2 1) (Ofa rfl) <| Wz (.l enc_GWait r102_12.L) (Old rfl) <| Wz (.i ((List.length r102_12.L : Nat) : Int)) (Oln rfl) <| Wz (.i (W6 (((List.length y7_d_10.L : Nat) : Int) - ((List.length r102_12.L : Nat) : Int)))) (Obn rfl (fun _ => hb_sub (k := .i64))) ?_
         obtain ⟨v119_14, hv119_14, hm⟩ := bnd hm; replace hv119_14 := Option.some.inj hv119_14
         refine Wz (.b v119_14) (Ocs (congrArg (fun z => A.d (.lit (.bool z))) hv119_14) (Obn rfl (fun _ => hb_gtr (k := .i64)))) ?_
         rcases tf_ v119_14 with hq120_14 | hq120_14
         ·
          replace hm := cT hq120_14 hm
          refine Wz (.b true) (Oq hq120_14 rfl) <| Wn <| Wn <| Wn <| Wn <| Wn <| Wn <| Wn <| Wz (.b true) (OpT rfl) <| Nk 340282366920938463463374607431768269474 7 ⟨tp 1 (.l enc_GArr2_Int_ p1::tp 3 (.loc 0 0::tp 1 (.loc 1 0::tp 1 (.i y9_5::tp 3 (.i v111_13::.i y14_10::.loc 2 0::tp 112 (.b true::tp 166 [])))))), [(.box [(.i p2.a0), (.i p2.a1)]), (.box [(.i y7_d_10.Cap), (.l enc_GWait y7_d_10.L)]), (.box [(.i r102_12.Cap), (.l enc_GWait r102_12.L)])], 0⟩ <| AWP.if_ true (by kernel_rfl) <| Sx <| Wm (.b false) rfl <| Nn ?_
          refine Rt <| Tr <| Ir <| Tr <| RoundK.ret <| Ir <| Tr ?_
          obtain rfl := Option.some.inj hm
          exact ret_i []
         ·
          replace hm := cF hq120_14 hm
          refine Wz (.b false) (Oq hq120_14 rfl) <| Wz (.loc 2 1) (Ofa rfl) <| Wz (.l enc_GWait r102_12.L) (Old rfl) <| Wz (.i ((List.length r102_12.L : Nat) : Int)) (Oln rfl) <| Wz (.loc 1 1) (Ofa rfl) <| Wz (.l enc_GWait y7_d_10.L) (Old rfl) <| Wz (.i ((List.length y7_d_10.L : Nat) : Int)) (Oln rfl) <| Wz (.b (decide (((List.length y7_d_10.L : Nat) : Int) < ((List.length r102_12.L : Nat) : Int)))) (Obn rfl (fun _ => hb_gtr (k := .i64))) <| Wz (.b (decide (((List.length y7_d_10.L : Nat) : Int) < ((List.length r102_12.L : Nat) : Int)))) (OpF rfl) <| Nk 340282366920938463463374607431768269474 7 ⟨tp 1 (.l enc_GArr2_Int_ p1::tp 3 (.loc 0 0::tp 1 (.loc 1 0::tp 1 (.i y9_5::tp 3 (.i v111_13::.i y14_10::.loc 2 0::tp 112 (.b (decide (((List.length y7_d_10.L : Nat) : Int) < ((List.length r102_12.L : Nat) : Int)))::tp 166 [])))))), [(.box [(.i p2.a0), (.i p2.a1)]), (.box [(.i y7_d_10.Cap), (.l enc_GWait y7_d_10.L)]), (.box [(.i r102_12.Cap), (.l enc_GWait r102_12.L)])], 0⟩ ?_
          rcases tf_ (decide (((List.length y7_d_10.L : Nat) : Int) < ((List.length r102_12.L : Nat) : Int))) with hc128_36 | hc128_36
          ·
           replace hm := cT hc128_36 hm
           refine AiT hc128_36 <| Sx <| Wm (.b false) rfl <| Nn <| Rt <| Tr <| Ir <| Tr <| RoundK.ret <| Ir <| Tr ?_
           obtain rfl := Option.some.inj hm
           exact ret_i []
          ·
           replace hm := cF hc128_36 hm
           refine AiF hc128_36 <| Sk <| Tk 58018 7 ⟨tp 1 (.l enc_GArr2_Int_ p1::tp 3 (.loc 0 0::tp 1 (.loc 1 0::tp 1 (.i y9_5::tp 3 (.i v111_13::.i y14_10::.loc 2 0::tp 279 []))))), [(.box [(.i p2.a0), (.i p2.a1)]), (.box [(.i y7_d_10.Cap), (.l enc_GWait y7_d_10.L)]), (.box [(.i r102_12.Cap), (.l enc_GWait r102_12.L)])], 0⟩ <| Tx <| Wz (.agg [(.i r102_12.Cap), (.l enc_GWait r102_12.L)]) (Old rfl) <| Wy (.tup []) [(1, (.box [(.i r102_12.Cap), (.l enc_GWait r102_12.L)]))] (Ost rfl) <| Wn0 <| Ino <| Tk 25250 3 ⟨tp 1 (.l enc_GArr2_Int_ p1::tp 3 (.loc 0 0::tp 1 (.loc 1 0::tp 1 (.i y9_5::tp 3 (.i v111_13::.i y14_10::tp 280 []))))), [(.box [(.i p2.a0), (.i p2.a1)]), (.box [(.i r102_12.Cap), (.l enc_GWait r102_12.L)]), .gone], 0⟩ <| Tx <| Wm (.i y14_10) rfl <| Wz (.i (W6 (y14_10 + 1))) (Obn rfl (fun _ => hb_add (k := .i64))) <| Wm (.i (W6 (y14_10 + 1))) rfl <| Wn0 ?_
           refine RoundK.normal ?_
           exact Rounds.weak (Weak.toK 25250 0 0 [0, 1]) (ih_10 (fu_10, r102_12, v111_13, (W6 (y14_10 + 1))) hm (Nat.lt_succ_self _))
        ·
         replace hm := cF hc86_35 hm
         refine AiF hc86_35 <| AWP.exit <| Then.exit <| RoundK.exit <| InBlock.same <| Tk 8864 3 ⟨tp 5 (.loc 0 0::tp 1 (.loc 1 0::tp 1 (.i y9_5::tp 3 (.i y13_10::tp 281 [])))), [(.box [(.i p2.a0), (.i p2.a1)]), (.box [(.i y7_d_10.Cap), (.l enc_GWait y7_d_10.L)])], 0⟩ <| Sx <| Wz (.agg [(.i y7_d_10.Cap), (.l enc_GWait y7_d_10.L)]) (Old rfl) <| Wz (.loc 0 0) (Ocs (by kernel_rfl) (op_iaddr_arr rfl (n := 2) (sz := 1) (y := (.loc 0 0)) (by kernel_rfl) (by kernel_rfl) (by kernel_rfl) (k := .i64) (iv := 0) (by kernel_rfl) (i := 0) (by rfl) (by decide))) <| Wz (.i p2.a0) (Old rfl) ?_
         obtain ⟨r134_15, hr134_15, hm⟩ := bnd hm
         refine Wy (.tup [(.own 2), (.agg [(.i r134_15.2.Cap), (.own 3)])]) [(2, (Ar 42 3 enc_GWait r134_15.1)), (3, (Ar 42 3 enc_GWait r134_15.2.L))] (Ocf [] [2, 3] [] 0 (ok_trail_Trail_Ripe y7_d_10 p2.a0 r134_15 hr134_15) (fun a w => Try.call13 a w) rfl trivial) <| Wm (.tup [(.own 2), (.agg [(.i r134_15.2.Cap), (.own 3)])]) rfl <| Wz (.own 2) (Oex rfl) <| Wz (.agg [(.i r134_15.2.Cap), (.own 3)]) (Oex rfl) <| Wy (.loc 4 0) [(4, (.box [(.i 0), (.d .nil)]))] (Oal rfl) <| Wm (.own 2) rfl <| Wy (.tup []) [(4, (.box [(.i r134_15.2.Cap), (.own 3)]))] (Ost rfl) <| Nk 205472 31 ⟨tp 5 (.loc 0 0::tp 1 (.loc 1 0::tp 1 (.i y9_5::tp 3 (.i y13_10::tp 2 (.own 2::.loc 4 0::tp 277 []))))), [(.box [(.i p2.a0), (.i p2.a1)]), (.box [(.i y7_d_10.Cap), (.l enc_GWait y7_d_10.L)]), (Ar 42 3 enc_GWait r134_15.1), (Ar 42 3 enc_GWait r134_15.2.L), (.box [(.i r134_15.2.Cap), (.own 3)])], 0⟩ <| Sx <| Wz (.agg [(.i r134_15.2.Cap), (.own 3)]) (Old rfl) <| Wz (.loc 0 1) (Ocs (by kernel_rfl) (op_iaddr_arr rfl (n := 2) (sz := 1) (y := (.loc 0 0)) (by kernel_rfl) (by kernel_rfl) (by kernel_rfl) (k := .i64) (iv := 1) (by kernel_rfl) (i := 1) (by rfl) (by decide))) <| Wz (.i p2.a1) (Old rfl) ?_
         obtain ⟨r141_16, hr141_16, hm⟩ := bnd hm
         refine Wy (.tup [(.own 5), (.agg [(.i r141_16.2.Cap), (.own 6)])]) [(5, (Ar 42 3 enc_GWait r141_16.1)), (6, (Ar 42 3 enc_GWait r141_16.2.L)), (3, (.fro 42 3 (List.length r134_15.2.L) (flatD enc_GWait r134_15.2.L)))] (Ocf [] [5, 6] [3] 0 (ok_trail_Trail_Ripe r134_15.2 p2.a1 r141_16 hr141_16) (fun a w => Try.call13 a w) rfl trivial) <| Wm (.tup [(.own 5), (.agg [(.i r141_16.2.Cap), (.own 6)])]) rfl <| Wz (.own 5) (Oex rfl) <| Wz (.agg [(.i r141_16.2.Cap), (.own 6)]) (Oex rfl) <| Wy (.loc 7 0) [(7, (.box [(.i 0), (.d .nil)]))] (Oal rfl) <| Wm (.own 5) rfl <| Wy (.tup []) [(7, (.box [(.i r141_16.2.Cap), (.own 6)]))] (Ost rfl) <| Nk 860832 231 ⟨tp 5 (.loc 0 0::tp 1 (.loc 1 0::tp 1 (.i y9_5::tp 3 (.i y13_10::tp 2 (.own 2::tp 1 (.own 5::.loc 7 0::tp 275 [])))))), [(.box [(.i p2.a0), (.i p2.a1)]), (.box [(.i y7_d_10.Cap), (.l enc_GWait y7_d_10.L)]), (Ar 42 3 enc_GWait r134_15.1), .gone, .gone, (Ar 42 3 enc_GWait r141_16.1), (Ar 42 3 enc_GWait r141_16.2.L), (.box [(.i r141_16.2.Cap), (.own 6)])], 0⟩ <| Sx <| Wz (.agg [(.i y7_d_10.Cap), (.l enc_GWait y7_d_10.L)]) (Old rfl) <| Wz (.loc 0 1) (Ocs (by kernel_rfl) (op_iaddr_arr rfl (n := 2) (sz := 1) (y := (.loc 0 0)) (by kernel_rfl) (by kernel_rfl) (by kernel_rfl) (k := .i64) (iv := 1) (by kernel_rfl) (i := 1) (by rfl) (by decide))) <| Wz (.i p2.a1) (Old rfl) ?_
         obtain ⟨r148_17, hr148_17, hm⟩ := bnd hm
         refine Wy (.tup [(.own 8), (.agg [(.i r148_17.2.Cap), (.own 9)])]) [(8, (Ar 42 3 enc_GWait r148_17.1)), (9, (Ar 42 3 enc_GWait r148_17.2.L))] (Ocf [] [8, 9] [] 0 (ok_trail_Trail_Ripe y7_d_10 p2.a1 r148_17 hr148_17) (fun a w => Try.call13 a w) rfl trivial) <| Wm (.tup [(.own 8), (.agg [(.i r148_17.2.Cap), (.own 9)])]) rfl <| Wz (.own 8) (Oex rfl) <| Wz (.agg [(.i r148_17.2.Cap), (.own 9)]) (Oex rfl) <| Wy (.loc 10 0) [(10, (.box [(.i 0), (.d .nil)]))] (Oal rfl) <| Wm (.own 8) rfl <| Wy (.tup []) [(10, (.box [(.i r148_17.2.Cap), (.own 9)]))] (Ost rfl) <| Nk 4006432 2021 ⟨tp 5 (.loc 0 0::tp 3 (.i y9_5::tp 3 (.i y13_10::tp 2 (.own 2::tp 1 (.own 5::.loc 7 0::.own 8::.loc 10 0::tp 273 []))))), [(.box [(.i p2.a0), (.i p2.a1)]), .gone, (Ar 42 3 enc_GWait r134_15.1), .gone, .gone, (Ar 42 3 enc_GWait r141_16.1), (Ar 42 3 enc_GWait r141_16.2.L), (.box [(.i r141_16.2.Cap), (.own 6)]), (Ar 42 3 enc_GWait r148_17.1), (Ar 42 3 enc_GWait r148_17.2.L), (.box [(.i r148_17.2.Cap), (.own 9)])], 0⟩ <| Sq ?_
         refine AWP.cutJ (α := Unit) (fun x => match x with | () => (⟨tp 5 (.loc 0 0::tp 10 (.own 1::tp 1 (.own 2::.loc 3 0::.own 5::tp 155 (.b true::tp 118 [])))), [(.box [(.i p2.a0), (.i p2.a1)]), (Ar 42 3 enc_GWait r134_15.1), (Ar 42 3 enc_GWait r141_16.1), (.box [(.i r141_16.2.Cap), (.own 4)]), (Ar 42 3 enc_GWait r141_16.2.L), (Ar 42 3 enc_GWait r148_17.1)], 0⟩ : St)) (fun x => match x with | () => m_w22_TrailEnds_j19  = some r) ?_ (fun J19 => ?_)
         ·
          rintro ⟨⟩ hm
          try dsimp only at hm ⊢
          unfold m_w22_TrailEnds_j19 at hm
          refine AWP.if_ true (by kernel_rfl) <| Sx <| Wm (.b false) rfl <| Nn <| Rt <| Tr ?_
          obtain rfl := Option.some.inj hm
          exact ret_i []
         refine Sx <| Wm (.own 2) rfl <| Wz (.i ((List.length r134_15.1 : Nat) : Int)) (Oln rfl) <| Wm (.own 5) rfl <| Wz (.i ((List.length r141_16.1 : Nat) : Int)) (Oln rfl) <| Wz (.i (W6 (((List.length r134_15.1 : Nat) : Int) + ((List.length r141_16.1 : Nat) : Int)))) (Obn rfl (fun _ => hb_add (k := .i64))) <| Wm (.own 8) rfl <| Wz (.i ((List.length r148_17.1 : Nat) : Int)) (Oln rfl) ?_
         obtain ⟨v158_18, hv158_18, hm⟩ := bnd hm; replace hv158_18 := Option.some.inj hv158_18
         refine Wz (.b v158_18) (Ocs (congrArg (fun z => A.d (.lit (.bool z))) hv158_18) (Obn rfl (fun _ => hb_neq (k := .i64)))) ?_
         rcases tf_ v158_18 with hq159_18 | hq159_18
         ·
          replace hm := cT hq159_18 hm
          refine Wz (.b true) (Oq hq159_18 rfl) <| Wn <| Wn <| Wn <| Wn <| Wn <| Wn <| Wn <| Wn <| Wn <| Wn <| Wz (.b true) (OpT rfl) <| Wm (.b true) rfl <| Wn ?_
          refine Wn <| Wn <| Wn <| Wz (.b true) (OpT rfl) <| Nn ?_
          exact AWP.weak (Weak.toK 95780971304118053647396689196894323976171195138375712 0 0 [0, 2, 5, 7, 6, 8]) (J19 () hm)
         ·
          replace hm := cF hq159_18 hm
          refine Wz (.b false) (Oq hq159_18 rfl) <| Wm (.own 8) rfl <| Wz (.i ((List.length r148_17.1 : Nat) : Int)) (Oln rfl) <| Wz (.loc 7 1) (Ofa rfl) <| Wz (.own 6) (Old rfl) <| Wz (.i ((List.length r141_16.2.L : Nat) : Int)) (Oln rfl) <| Wz (.i (W6 (((List.length r148_17.1 : Nat) : Int) + ((List.length r141_16.2.L : Nat) : Int)))) (Obn rfl (fun _ => hb_add (k := .i64))) <| Wm (.i y13_10) rfl ?_
          obtain ⟨v167_18, hv167_18, hm⟩ := bnd hm; replace hv167_18 := Option.some.inj hv167_18
          refine Wz (.i v167_18) (Ocs (congrArg (fun z => A.d (.lit (.int .i64 z))) hv167_18) (Obn rfl (fun _ => hb_add (k := .i64)))) <| Wm (.i y9_5) rfl <| Wz (.b (decide (v167_18 ≠ y9_5))) (Obn rfl (fun _ => hb_neq (k := .i64))) <| Wz (.b (decide (v167_18 ≠ y9_5))) (OpF rfl) ?_
          rcases tf_ (decide (v167_18 ≠ y9_5)) with hq171_18 | hq171_18
          ·
           replace hm := cT hq171_18 hm
           refine Wz (.b true) (Oq hq171_18 rfl) <| Wn <| Wn <| Wn <| Wn <| Wz (.b true) (OpT rfl) <| Nn ?_
           exact AWP.weak (Weak.toK 95780971304118053647396689196894323976171195138375712 0 0 [0, 2, 5, 7, 6, 8]) (J19 () hm)
          ·
           replace hm := cF hq171_18 hm
           refine Wz (.b false) (Oq hq171_18 rfl) <| Wz (.agg [(.i r141_16.2.Cap), (.own 6)]) (Old rfl) <| Wz (.agg [(.i r148_17.2.Cap), (.own 9)]) (Old rfl) ?_
           obtain ⟨r174_18, hr174_18, hm⟩ := bnd hm
           refine Wz (.b r174_18) (Ocp [] [] [6, 9] 0 (ok_trail_Same r141_16.2 r148_17.2 r174_18 hr174_18) (plain_triv (by simp [A.Plain, A.Plains, D.Plain, byteD])) (fun a w => Try.call14 a w) rfl trivial) <| Wz (.b (!r174_18)) (Ocs (by kernel_rfl) (op_un rfl (a1 := .bool r174_18) (by kernel_rfl) (fun _ => hu_not))) <| Wz (.b (!r174_18)) (OpF rfl) <| Nk 95780971304118053647396689196894323976171195138375712 485 ⟨tp 5 (.loc 0 0::tp 10 (.own 2::tp 1 (.own 5::.loc 7 0::.own 8::tp 155 (.b (!r174_18)::tp 118 [])))), [(.box [(.i p2.a0), (.i p2.a1)]), .gone, (Ar 42 3 enc_GWait r134_15.1), .gone, .gone, (Ar 42 3 enc_GWait r141_16.1), (Ar 42 3 enc_GWait r141_16.2.L), (.box [(.i r141_16.2.Cap), (.own 6)]), (Ar 42 3 enc_GWait r148_17.1), .gone, .gone], 0⟩ ?_
           rcases tf_ (!r174_18) with hc176_37 | hc176_37
           ·
            replace hm := cT hc176_37 hm
            refine AiT hc176_37 <| Sx <| Wm (.b false) rfl <| Nn <| Rt <| Tr ?_
            obtain rfl := Option.some.inj hm
            exact ret_i []
           ·
            replace hm := cF hc176_37 hm
            refine AiF hc176_37 <| Sk <| Tk 1900576 485 ⟨tp 5 (.loc 0 0::tp 10 (.own 2::tp 1 (.own 5::.loc 7 0::.own 8::tp 274 []))), [(.box [(.i p2.a0), (.i p2.a1)]), .gone, (Ar 42 3 enc_GWait r134_15.1), .gone, .gone, (Ar 42 3 enc_GWait r141_16.1), (Ar 42 3 enc_GWait r141_16.2.L), (.box [(.i r141_16.2.Cap), (.own 6)]), (Ar 42 3 enc_GWait r148_17.1), .gone, .gone], 0⟩ <| Sq <| Sx <| Wm (.i 0) rfl <| Nk 6094880 485 ⟨tp 5 (.loc 0 0::tp 10 (.own 2::tp 1 (.own 5::.loc 7 0::.own 8::tp 1 (.i 0::tp 272 [])))), [(.box [(.i p2.a0), (.i p2.a1)]), .gone, (Ar 42 3 enc_GWait r134_15.1), .gone, .gone, (Ar 42 3 enc_GWait r141_16.1), (Ar 42 3 enc_GWait r141_16.2.L), (.box [(.i r141_16.2.Cap), (.own 6)]), (Ar 42 3 enc_GWait r148_17.1), .gone, .gone], 0⟩ <| Bk ?_
            refine AWP.loopI (α := Nat × Int)
              (fun (fu_20, y22_20) => (⟨tp 5 (.loc 0 0::tp 10 (.own 1::tp 1 (.own 2::.loc 3 0::.own 5::tp 1 (.i y22_20::tp 272 [])))), [(.box [(.i p2.a0), (.i p2.a1)]), (Ar 42 3 enc_GWait r134_15.1), (Ar 42 3 enc_GWait r141_16.1), (.box [(.i r141_16.2.Cap), (.own 4)]), (Ar 42 3 enc_GWait r141_16.2.L), (Ar 42 3 enc_GWait r148_17.1)], 0⟩ : St))
              (fun (fu_20, y22_20) => m_w22_TrailEnds_l20 p2 r134_15 r141_16 r148_17 fu_20 y22_20 = some r)
              (fun (fu_20, y22_20) => fu_20) (1152921504606846976, 0)
              (Weak.toK 6094880 0 0 [0, 2, 5, 7, 6, 8]) hm ?_
            rintro ⟨fu_20, y22_20⟩ n_20 hm ih_20
            try dsimp only at hm ih_20 ⊢
            cases fu_20 with
            | zero => exact absurd hm (by unfold m_w22_TrailEnds_l20; simp)
            | succ fu_20 =>
             unfold m_w22_TrailEnds_l20 at hm
             refine Sq <| Sx <| Wm (.i y22_20) rfl <| Wm (.own 5) rfl <| Wz (.i ((List.length r148_17.1 : Nat) : Int)) (Oln rfl) <| Wz (.b (decide (y22_20 < ((List.length r148_17.1 : Nat) : Int)))) (Obn rfl (fun _ => hb_lss (k := .i64))) <| Nk 1532495540865888858358347027150309183618739122189697056 63 ⟨tp 5 (.loc 0 0::tp 10 (.own 1::tp 1 (.own 2::.loc 3 0::.own 5::tp 1 (.i y22_20::tp 157 (.b (decide (y22_20 < ((List.length r148_17.1 : Nat) : Int)))::tp 114 []))))), [(.box [(.i p2.a0), (.i p2.a1)]), (Ar 42 3 enc_GWait r134_15.1), (Ar 42 3 enc_GWait r141_16.1), (.box [(.i r141_16.2.Cap), (.own 4)]), (Ar 42 3 enc_GWait r141_16.2.L), (Ar 42 3 enc_GWait r148_17.1)], 0⟩ ?_
             rcases tf_ (decide (y22_20 < ((List.length r148_17.1 : Nat) : Int))) with hc180_38 | hc180_38
             ·
              replace hm := cT hc180_38 hm
              refine AiT hc180_38 <| Sk <| Tk 6094880 63 ⟨tp 5 (.loc 0 0::tp 10 (.own 1::tp 1 (.own 2::.loc 3 0::.own 5::tp 1 (.i y22_20::tp 272 [])))), [(.box [(.i p2.a0), (.i p2.a1)]), (Ar 42 3 enc_GWait r134_15.1), (Ar 42 3 enc_GWait r141_16.1), (.box [(.i r141_16.2.Cap), (.own 4)]), (Ar 42 3 enc_GWait r141_16.2.L), (Ar 42 3 enc_GWait r148_17.1)], 0⟩ <| Sq <| Bk <| Sx <| Wm (.own 5) rfl <| Wm (.i y22_20) rfl ?_
              obtain ⟨x185_22, hx185_22, hm⟩ := bnd hm
              obtain ⟨hx185_22i, hx185_22g⟩ := geti_some hx185_22
              refine Wz (.loc 5 ((Int.toNat y22_20) * 3)) (Oia rfl enc_GWait_len hx185_22i hx185_22g) <| Wz (.agg [(.l enc_GPair x185_22.Bound), (.l (encI .u32) x185_22.Sets), (.i x185_22.End)]) (Lr rfl enc_GWait_len hx185_22g) <| Wy (.loc 6 0) [(6, (.box [(.d .nil), (.d .nil), (.i 0)]))] (Oal rfl) <| Wy (.tup []) [(6, (.box [(.l enc_GPair x185_22.Bound), (.l (encI .u32) x185_22.Sets), (.i x185_22.End)]))] (Ost rfl) <| Nk 14483488 127 ⟨tp 5 (.loc 0 0::tp 10 (.own 1::tp 1 (.own 2::.loc 3 0::.own 5::tp 1 (.i y22_20::.loc 6 0::tp 271 [])))), [(.box [(.i p2.a0), (.i p2.a1)]), (Ar 42 3 enc_GWait r134_15.1), (Ar 42 3 enc_GWait r141_16.1), (.box [(.i r141_16.2.Cap), (.own 4)]), (Ar 42 3 enc_GWait r141_16.2.L), (Ar 42 3 enc_GWait r148_17.1), (.box [(.l enc_GPair x185_22.Bound), (.l (encI .u32) x185_22.Sets), (.i x185_22.End)])], 0⟩ <| Sq ?_
              refine AWP.cutJ (α := Unit) (fun x => match x with | () => (⟨tp 5 (.loc 0 0::tp 10 (.own 1::tp 1 (.own 2::.loc 3 0::.own 5::tp 1 (.i y22_20::.loc 6 0::tp 211 (.b true::tp 59 []))))), [(.box [(.i p2.a0), (.i p2.a1)]), (Ar 42 3 enc_GWait r134_15.1), (Ar 42 3 enc_GWait r141_16.1), (.box [(.i r141_16.2.Cap), (.own 4)]), (Ar 42 3 enc_GWait r141_16.2.L), (Ar 42 3 enc_GWait r148_17.1), (.box [(.l enc_GPair x185_22.Bound), (.l (encI .u32) x185_22.Sets), (.i x185_22.End)])], 0⟩ : St)) (fun x => match x with | () => m_w22_TrailEnds_j27  = some r) ?_ (fun J27 => ?_)
              ·
               rintro ⟨⟩ hm
               try dsimp only at hm ⊢
               unfold m_w22_TrailEnds_j27 at hm
               refine AWP.if_ true (by kernel_rfl) <| Sx <| Wm (.b false) rfl <| Nn <| Rt <| Tr <| Ir <| Tr <| RoundK.ret <| Ir <| Tr ?_
               obtain rfl := Option.some.inj hm
               exact ret_i []
              refine AWP.cutJ (α := Unit) (fun x => match x with | () => (⟨tp 5 (.loc 0 0::tp 10 (.own 1::tp 1 (.own 2::.loc 3 0::.own 5::tp 1 (.i y22_20::.loc 6 0::tp 211 (.b (decide (((List.length x185_22.Sets : Nat) : Int) = 0))::tp 59 []))))), [(.box [(.i p2.a0), (.i p2.a1)]), (Ar 42 3 enc_GWait r134_15.1), (Ar 42 3 enc_GWait r141_16.1), (.box [(.i r141_16.2.Cap), (.own 4)]), (Ar 42 3 enc_GWait r141_16.2.L), (Ar 42 3 enc_GWait r148_17.1), (.box [(.l enc_GPair x185_22.Bound), (.l (encI .u32) x185_22.Sets), (.i x185_22.End)])], 0⟩ : St)) (fun x => match x with | () => m_w22_TrailEnds_j28 r134_15 r141_16 x185_22 y22_20 (fun y22_20 => m_w22_TrailEnds_l20 p2 r134_15 r141_16 r148_17 fu_20 y22_20) = some r) ?_ (fun J28 => ?_)
              ·
               rintro ⟨⟩ hm
               try dsimp only at hm ⊢
               unfold m_w22_TrailEnds_j28 at hm
               rcases tf_ (decide (((List.length x185_22.Sets : Nat) : Int) = 0)) with hc235_28 | hc235_28
               ·
                replace hm := cT hc235_28 hm
                refine AiT hc235_28 <| Sx <| Wm (.b false) rfl <| Nn <| Rt <| Tr <| Ir <| Tr <| RoundK.ret <| Ir <| Tr ?_
                obtain rfl := Option.some.inj hm
                exact ret_i []
               ·
                replace hm := cF hc235_28 hm
                refine AiF hc235_28 <| Sk <| Tk 14483488 127 ⟨tp 5 (.loc 0 0::tp 10 (.own 1::tp 1 (.own 2::.loc 3 0::.own 5::tp 1 (.i y22_20::.loc 6 0::tp 271 [])))), [(.box [(.i p2.a0), (.i p2.a1)]), (Ar 42 3 enc_GWait r134_15.1), (Ar 42 3 enc_GWait r141_16.1), (.box [(.i r141_16.2.Cap), (.own 4)]), (Ar 42 3 enc_GWait r141_16.2.L), (Ar 42 3 enc_GWait r148_17.1), (.box [(.l enc_GPair x185_22.Bound), (.l (encI .u32) x185_22.Sets), (.i x185_22.End)])], 0⟩ ?_
                refine AWP.cutJ (α := Bool) (fun x => match x with | y270_25 => (⟨tp 5 (.loc 0 0::tp 10 (.own 1::tp 1 (.own 2::.loc 3 0::.own 5::tp 1 (.i y22_20::tp 247 (.b y270_25::tp 24 []))))), [(.box [(.i p2.a0), (.i p2.a1)]), (Ar 42 3 enc_GWait r134_15.1), (Ar 42 3 enc_GWait r141_16.1), (.box [(.i r141_16.2.Cap), (.own 4)]), (Ar 42 3 enc_GWait r141_16.2.L), (Ar 42 3 enc_GWait r148_17.1)], 0⟩ : St)) (fun x => match x with | y270_25 => m_w22_TrailEnds_j25 y22_20 (fun y22_20 => m_w22_TrailEnds_l20 p2 r134_15 r141_16 r148_17 fu_20 y22_20) y270_25 = some r) ?_ (fun J25 => ?_)
                ·
                 rintro y270_25 hm
                 try dsimp only at hm ⊢
                 unfold m_w22_TrailEnds_j25 at hm
                 rcases tf_ y270_25 with hc270_25 | hc270_25
                 ·
                  replace hm := cT hc270_25 hm
                  refine AiT hc270_25 <| Sx <| Wm (.b false) rfl <| Nn <| Rt <| Ir <| Tr <| RoundK.ret <| Ir <| Tr ?_
                  obtain rfl := Option.some.inj hm
                  exact ret_i []
                 ·
                  replace hm := cF hc270_25 hm
                  refine AiF hc270_25 <| Sk <| Ino <| Tk 6094880 63 ⟨tp 5 (.loc 0 0::tp 10 (.own 1::tp 1 (.own 2::.loc 3 0::.own 5::tp 1 (.i y22_20::tp 272 [])))), [(.box [(.i p2.a0), (.i p2.a1)]), (Ar 42 3 enc_GWait r134_15.1), (Ar 42 3 enc_GWait r141_16.1), (.box [(.i r141_16.2.Cap), (.own 4)]), (Ar 42 3 enc_GWait r141_16.2.L), (Ar 42 3 enc_GWait r148_17.1)], 0⟩ <| Tx <| Wm (.i y22_20) rfl <| Wz (.i (W6 (y22_20 + 1))) (Obn rfl (fun _ => hb_add (k := .i64))) <| Wm (.i (W6 (y22_20 + 1))) rfl <| Wn0 <| RoundK.normal ?_
                  exact Rounds.weak (Weak.toK 6094880 0 0 [0, 1, 2, 3, 4, 5]) (ih_20 (fu_20, (W6 (y22_20 + 1))) hm (Nat.lt_succ_self _))
                refine AWP.cutJ (α := Unit) (fun x => match x with | () => (⟨tp 5 (.loc 0 0::tp 10 (.own 1::tp 1 (.own 2::.loc 3 0::.own 5::tp 1 (.i y22_20::tp 247 (.b false::tp 24 []))))), [(.box [(.i p2.a0), (.i p2.a1)]), (Ar 42 3 enc_GWait r134_15.1), (Ar 42 3 enc_GWait r141_16.1), (.box [(.i r141_16.2.Cap), (.own 4)]), (Ar 42 3 enc_GWait r141_16.2.L), (Ar 42 3 enc_GWait r148_17.1)], 0⟩ : St)) (fun x => match x with | () => m_w22_TrailEnds_j26 y22_20 (fun y22_20 => m_w22_TrailEnds_l20 p2 r134_15 r141_16 r148_17 fu_20 y22_20) = some r) ?_ (fun J26 => ?_)
                ·
                 rintro ⟨⟩ hm
                 try dsimp only at hm ⊢
                 unfold m_w22_TrailEnds_j26 at hm
                 refine AWP.if_ false (by kernel_rfl) <| Sk <| Ino <| Tk 6094880 63 ⟨tp 5 (.loc 0 0::tp 10 (.own 1::tp 1 (.own 2::.loc 3 0::.own 5::tp 1 (.i y22_20::tp 272 [])))), [(.box [(.i p2.a0), (.i p2.a1)]), (Ar 42 3 enc_GWait r134_15.1), (Ar 42 3 enc_GWait r141_16.1), (.box [(.i r141_16.2.Cap), (.own 4)]), (Ar 42 3 enc_GWait r141_16.2.L), (Ar 42 3 enc_GWait r148_17.1)], 0⟩ <| Tx <| Wm (.i y22_20) rfl <| Wz (.i (W6 (y22_20 + 1))) (Obn rfl (fun _ => hb_add (k := .i64))) <| Wm (.i (W6 (y22_20 + 1))) rfl <| Wn0 <| RoundK.normal ?_
                 exact Rounds.weak (Weak.toK 6094880 0 0 [0, 1, 2, 3, 4, 5]) (ih_20 (fu_20, (W6 (y22_20 + 1))) hm (Nat.lt_succ_self _))
                refine Sq <| Adr <| Wm (.i y22_20) rfl <| Wm (.own 1) rfl <| Wz (.i ((List.length r134_15.1 : Nat) : Int)) (Oln rfl) <| Wz (.b (decide (y22_20 < ((List.length r134_15.1 : Nat) : Int)))) (Obn rfl (fun _ => hb_lss (k := .i64))) ?_
                rcases tf_ (decide (y22_20 < ((List.length r134_15.1 : Nat) : Int))) with hq240_24 | hq240_24
                ·
                 replace hm := cT hq240_24 hm
                 refine Wz (.b true) (Oq hq240_24 rfl) <| Wm (.own 1) rfl <| Wm (.i y22_20) rfl ?_
                 obtain ⟨x243_24, hx243_24, hm⟩ := bnd hm
                 obtain ⟨hx243_24i, hx243_24g⟩ := geti_some hx243_24
                 refine Wz (.loc 1 ((Int.toNat y22_20) * 3)) (Oia rfl enc_GWait_len hx243_24i hx243_24g) <| Wz (.loc 1 ((Int.toNat y22_20) * 3)) (Ofa rfl) <| Wz (.l enc_GPair x243_24.Bound) (Lr1 rfl enc_GWait_len hx243_24g) <| Wz (.loc 6 0) (Ofa rfl) <| Wz (.l enc_GPair x185_22.Bound) (Old rfl) ?_
                 obtain ⟨r248_24, hr248_24, hm⟩ := bnd hm
                 refine Wz (.i r248_24) (Ocf [] [] [] 0 (ok_bind_Rank x243_24.Bound x185_22.Bound r248_24 hr248_24) (fun a w => Try.call15 a w) rfl trivial) <| Wz (.b (decide (r248_24 ≠ 0))) (Obn rfl (fun _ => hb_neq (k := .i64))) <| Wz (.b (decide (r248_24 ≠ 0))) (OpT rfl) ?_
                 rcases tf_ (decide (r248_24 ≠ 0)) with hq251_24 | hq251_24
                 ·
                  replace hm := cT hq251_24 hm
                  refine Wz (.b true) (Oq hq251_24 rfl) <| Wn <| Wn <| Wn <| Wn <| Wn <| Wn <| Wn <| Wn <| Wn <| Wn <| Wn <| Wn <| Wn ?_
                  refine Wn <| Wn <| Wn <| Wn <| Wn <| Wz (.b true) (OpT rfl) <| Wdr <| Tk 1897137590064188545819787018382342682267975428761855001222473056385648716026806304 63 ⟨tp 5 (.loc 0 0::tp 10 (.own 1::tp 1 (.own 2::.loc 3 0::.own 5::tp 1 (.i y22_20::tp 247 (.b true::tp 24 []))))), [(.box [(.i p2.a0), (.i p2.a1)]), (Ar 42 3 enc_GWait r134_15.1), (Ar 42 3 enc_GWait r141_16.1), (.box [(.i r141_16.2.Cap), (.own 4)]), (Ar 42 3 enc_GWait r141_16.2.L), (Ar 42 3 enc_GWait r148_17.1), .gone], 0⟩ <| AWP.if_ true (by kernel_rfl) <| Sx <| Wm (.b false) rfl <| Nn <| Rt <| Ir ?_
                  refine Tr <| RoundK.ret <| Ir <| Tr ?_
                  obtain rfl := Option.some.inj hm
                  exact ret_i []
                 ·
                  replace hm := cF hq251_24 hm
                  refine Wz (.b false) (Oq hq251_24 rfl) <| Wm (.i y22_20) rfl <| Wm (.own 1) rfl <| Wz (.i ((List.length r134_15.1 : Nat) : Int)) (Oln rfl) <| Wz (.b (decide (((List.length r134_15.1 : Nat) : Int) ≤ y22_20))) (Obn rfl (fun _ => hb_geq (k := .i64))) ?_
                  rcases tf_ (decide (((List.length r134_15.1 : Nat) : Int) ≤ y22_20)) with hq256_24 | hq256_24
                  ·
                   replace hm := cT hq256_24 hm
                   refine Wz (.b true) (Oq hq256_24 rfl) <| Wm (.own 2) rfl <| Wm (.i y22_20) rfl <| Wm (.own 1) rfl <| Wz (.i ((List.length r134_15.1 : Nat) : Int)) (Oln rfl) <| Wz (.i (W6 (y22_20 - ((List.length r134_15.1 : Nat) : Int)))) (Obn rfl (fun _ => hb_sub (k := .i64))) ?_
                   obtain ⟨x262_24, hx262_24, hm⟩ := bnd hm
                   obtain ⟨hx262_24i, hx262_24g⟩ := geti_some hx262_24
                   refine Wz (.loc 2 ((Int.toNat (W6 (y22_20 - ((List.length r134_15.1 : Nat) : Int)))) * 3)) (Oia rfl enc_GWait_len hx262_24i hx262_24g) <| Wz (.loc 2 ((Int.toNat (W6 (y22_20 - ((List.length r134_15.1 : Nat) : Int)))) * 3)) (Ofa rfl) <| Wz (.l enc_GPair x262_24.Bound) (Lr1 rfl enc_GWait_len hx262_24g) <| Wz (.loc 6 0) (Ofa rfl) <| Wz (.l enc_GPair x185_22.Bound) (Old rfl) ?_
                   obtain ⟨r267_24, hr267_24, hm⟩ := bnd hm
                   refine Wz (.i r267_24) (Ocf [] [] [] 0 (ok_bind_Rank x262_24.Bound x185_22.Bound r267_24 hr267_24) (fun a w => Try.call15 a w) rfl trivial) <| Wz (.b (decide (r267_24 ≠ 0))) (Obn rfl (fun _ => hb_neq (k := .i64))) <| Wz (.b (decide (r267_24 ≠ 0))) (OpT rfl) <| Wz (.b (decide (r267_24 ≠ 0))) (OpF rfl) <| Wdr <| Tn ?_
                   exact AWP.weak (Weak.toK 1897137590064188545819787018382342682267975428761855001222473056385648716026806304 0 0 [0, 1, 2, 3, 4, 5]) (J25 (decide (r267_24 ≠ 0)) hm)
                  ·
                   replace hm := cF hq256_24 hm
                   refine Wz (.b false) (Oq hq256_24 rfl) <| Wn <| Wn <| Wn <| Wn <| Wn <| Wn <| Wn <| Wn <| Wn <| Wn <| Wn <| Wn <| Wz (.b false) (OpF rfl) ?_
                   refine Wz (.b false) (OpF rfl) <| Wdr <| Tn ?_
                   exact AWP.weak (Weak.toK 1897137590064188545819787018382342682267975428761855001222473056385648716026806304 0 0 [0, 1, 2, 3, 4, 5]) (J26 () hm)
                ·
                 replace hm := cF hq240_24 hm
                 refine Wz (.b false) (Oq hq240_24 rfl) <| Wn <| Wn <| Wn <| Wn <| Wn <| Wn <| Wn <| Wn <| Wn <| Wz (.b false) (OpF rfl) <| Wm (.b false) rfl <| Wm (.i y22_20) rfl <| Wm (.own 1) rfl ?_
                 refine Wz (.i ((List.length r134_15.1 : Nat) : Int)) (Oln rfl) <| Wz (.b (decide (((List.length r134_15.1 : Nat) : Int) ≤ y22_20))) (Obn rfl (fun _ => hb_geq (k := .i64))) ?_
                 rcases tf_ (decide (((List.length r134_15.1 : Nat) : Int) ≤ y22_20)) with hq256_24 | hq256_24
                 ·
                  replace hm := cT hq256_24 hm
                  refine Wz (.b true) (Oq hq256_24 rfl) <| Wm (.own 2) rfl <| Wm (.i y22_20) rfl <| Wm (.own 1) rfl <| Wz (.i ((List.length r134_15.1 : Nat) : Int)) (Oln rfl) <| Wz (.i (W6 (y22_20 - ((List.length r134_15.1 : Nat) : Int)))) (Obn rfl (fun _ => hb_sub (k := .i64))) ?_
                  obtain ⟨x262_24, hx262_24, hm⟩ := bnd hm
                  obtain ⟨hx262_24i, hx262_24g⟩ := geti_some hx262_24
                  refine Wz (.loc 2 ((Int.toNat (W6 (y22_20 - ((List.length r134_15.1 : Nat) : Int)))) * 3)) (Oia rfl enc_GWait_len hx262_24i hx262_24g) <| Wz (.loc 2 ((Int.toNat (W6 (y22_20 - ((List.length r134_15.1 : Nat) : Int)))) * 3)) (Ofa rfl) <| Wz (.l enc_GPair x262_24.Bound) (Lr1 rfl enc_GWait_len hx262_24g) <| Wz (.loc 6 0) (Ofa rfl) <| Wz (.l enc_GPair x185_22.Bound) (Old rfl) ?_
                  obtain ⟨r267_24, hr267_24, hm⟩ := bnd hm
                  refine Wz (.i r267_24) (Ocf [] [] [] 0 (ok_bind_Rank x262_24.Bound x185_22.Bound r267_24 hr267_24) (fun a w => Try.call15 a w) rfl trivial) <| Wz (.b (decide (r267_24 ≠ 0))) (Obn rfl (fun _ => hb_neq (k := .i64))) <| Wz (.b (decide (r267_24 ≠ 0))) (OpT rfl) <| Wz (.b (decide (r267_24 ≠ 0))) (OpF rfl) <| Wdr <| Tn ?_
                  exact AWP.weak (Weak.toK 1897137590064188545819787018382342682267975428761855001222473056385648716026806304 0 0 [0, 1, 2, 3, 4, 5]) (J25 (decide (r267_24 ≠ 0)) hm)
                 ·
                  replace hm := cF hq256_24 hm
                  refine Wz (.b false) (Oq hq256_24 rfl) <| Wn <| Wn <| Wn <| Wn <| Wn <| Wn <| Wn <| Wn <| Wn <| Wn <| Wn <| Wn <| Wz (.b false) (OpF rfl) ?_
                  refine Wz (.b false) (OpF rfl) <| Wdr <| Tn ?_
                  exact AWP.weak (Weak.toK 1897137590064188545819787018382342682267975428761855001222473056385648716026806304 0 0 [0, 1, 2, 3, 4, 5]) (J26 () hm)
              refine Sq <| Adr <| Wm (.i y22_20) rfl <| Wz (.b (decide ((0 : Int) < y22_20))) (Obn rfl (fun _ => hb_gtr (k := .i64))) ?_
              rcases tf_ (decide ((0 : Int) < y22_20)) with hq189_23 | hq189_23
              ·
               replace hm := cT hq189_23 hm
               refine Wz (.b true) (Oq hq189_23 rfl) <| Wm (.own 5) rfl <| Wm (.i y22_20) rfl <| Wz (.i (W6 (y22_20 - 1))) (Obn rfl (fun _ => hb_sub (k := .i64))) ?_
               obtain ⟨x193_23, hx193_23, hm⟩ := bnd hm
               obtain ⟨hx193_23i, hx193_23g⟩ := geti_some hx193_23
               refine Wz (.loc 5 ((Int.toNat (W6 (y22_20 - 1))) * 3)) (Oia rfl enc_GWait_len hx193_23i hx193_23g) <| Wz (.loc 5 ((Int.toNat (W6 (y22_20 - 1))) * 3 + 2)) (Ofa rfl) <| Wz (.i x193_23.End) (Lrk1 2 rfl enc_GWait_len hx193_23g) <| Wz (.loc 6 2) (Ofa rfl) <| Wz (.i x185_22.End) (Old rfl) <| Wz (.b (decide (x185_22.End < x193_23.End))) (Obn rfl (fun _ => hb_gtr (k := .i64))) ?_
               rcases tf_ (decide (x185_22.End < x193_23.End)) with hq199_23 | hq199_23
               ·
                replace hm := cT hq199_23 hm
                refine Wz (.b true) (Oq hq199_23 rfl) <| Wn <| Wn <| Wn <| Wn <| Wn <| Wn <| Wn <| Wn <| Wn <| Wn <| Wn <| Wn <| Wn ?_
                refine Wn <| Wn <| Wn <| Wn <| Wn <| Wn <| Wn <| Wn <| Wz (.b true) (OpT rfl) <| Wz (.b true) (OpT rfl) <| Wm (.b true) rfl <| Wn <| Wn <| Wn ?_
                refine Wn <| Wn <| Wz (.b true) (OpT rfl) <| Wm (.b true) rfl <| Wn <| Wn <| Wn <| Wn <| Wz (.b true) (OpT rfl) <| Wdr <| Tn ?_
                exact AWP.weak (Weak.toK 55213970774324510299478046898216203619608871777363092441300193804877856 0 0 [0, 1, 2, 3, 4, 5, 6]) (J27 () hm)
               ·
                replace hm := cF hq199_23 hm
                refine Wz (.b false) (Oq hq199_23 rfl) <| Wm (.own 5) rfl <| Wm (.i y22_20) rfl <| Wz (.i (W6 (y22_20 - 1))) (Obn rfl (fun _ => hb_sub (k := .i64))) ?_
                obtain ⟨x203_23, hx203_23, hm⟩ := bnd hm
                obtain ⟨hx203_23i, hx203_23g⟩ := geti_some hx203_23
                refine Wz (.loc 5 ((Int.toNat (W6 (y22_20 - 1))) * 3)) (Oia rfl enc_GWait_len hx203_23i hx203_23g) <| Wz (.loc 5 ((Int.toNat (W6 (y22_20 - 1))) * 3 + 2)) (Ofa rfl) <| Wz (.i x203_23.End) (Lrk1 2 rfl enc_GWait_len hx203_23g) <| Wz (.loc 6 2) (Ofa rfl) <| Wz (.i x185_22.End) (Old rfl) <| Wz (.b (decide (x203_23.End = x185_22.End))) (Obn rfl (fun _ => hb_eql (k := .i64))) ?_
                rcases tf_ (decide (x203_23.End = x185_22.End)) with hq209_23 | hq209_23
                ·
                 replace hm := cT hq209_23 hm
                 refine Wz (.b true) (Oq hq209_23 rfl) <| Wm (.own 5) rfl <| Wm (.i y22_20) rfl <| Wz (.i (W6 (y22_20 - 1))) (Obn rfl (fun _ => hb_sub (k := .i64))) ?_
                 obtain ⟨x213_23, hx213_23, hm⟩ := bnd hm
                 obtain ⟨hx213_23i, hx213_23g⟩ := geti_some hx213_23
                 refine Wz (.loc 5 ((Int.toNat (W6 (y22_20 - 1))) * 3)) (Oia rfl enc_GWait_len hx213_23i hx213_23g) <| Wz (.loc 5 ((Int.toNat (W6 (y22_20 - 1))) * 3)) (Ofa rfl) <| Wz (.l enc_GPair x213_23.Bound) (Lr1 rfl enc_GWait_len hx213_23g) <| Wz (.loc 6 0) (Ofa rfl) <| Wz (.l enc_GPair x185_22.Bound) (Old rfl) ?_
                 obtain ⟨r218_23, hr218_23, hm⟩ := bnd hm
                 refine Wz (.i r218_23) (Ocf [] [] [] 0 (ok_bind_Rank x213_23.Bound x185_22.Bound r218_23 hr218_23) (fun a w => Try.call15 a w) rfl trivial) <| Wz (.b (decide ((0 : Int) ≤ r218_23))) (Obn rfl (fun _ => hb_geq (k := .i64))) <| Wz (.b (decide ((0 : Int) ≤ r218_23))) (OpT rfl) <| Wz (.b (decide ((0 : Int) ≤ r218_23))) (OpF rfl) <| Wz (.b (decide ((0 : Int) ≤ r218_23))) (OpT rfl) ?_
                 rcases tf_ (decide ((0 : Int) ≤ r218_23)) with hq223_23 | hq223_23
                 ·
                  replace hm := cT hq223_23 hm
                  refine Wz (.b true) (Oq hq223_23 rfl) <| Wn <| Wn <| Wn <| Wn <| Wn <| Wz (.b true) (OpT rfl) <| Wm (.b true) rfl <| Wn <| Wn <| Wn <| Wn <| Wz (.b true) (OpT rfl) <| Wdr ?_
                  refine Tn ?_
                  exact AWP.weak (Weak.toK 55213970774324510299478046898216203619608871777363092441300193804877856 0 0 [0, 1, 2, 3, 4, 5, 6]) (J27 () hm)
                 ·
                  replace hm := cF hq223_23 hm
                  refine Wz (.b false) (Oq hq223_23 rfl) <| Wz (.loc 6 2) (Ofa rfl) <| Wz (.i x185_22.End) (Old rfl) <| Wz (.loc 0 1) (Ocs (by kernel_rfl) (op_iaddr_arr rfl (n := 2) (sz := 1) (y := (.loc 0 0)) (by kernel_rfl) (by kernel_rfl) (by kernel_rfl) (k := .i64) (iv := 1) (by kernel_rfl) (i := 1) (by rfl) (by decide))) <| Wz (.i p2.a1) (Old rfl) <| Wz (.b (decide (p2.a1 ≤ x185_22.End))) (Obn rfl (fun _ => hb_geq (k := .i64))) <| Wz (.b (decide (p2.a1 ≤ x185_22.End))) (OpF rfl) ?_
                  rcases tf_ (decide (p2.a1 ≤ x185_22.End)) with hq230_23 | hq230_23
                  ·
                   replace hm := cT hq230_23 hm
                   refine Wz (.b true) (Oq hq230_23 rfl) <| Wn <| Wn <| Wn <| Wn <| Wz (.b true) (OpT rfl) <| Wdr <| Tn ?_
                   exact AWP.weak (Weak.toK 55213970774324510299478046898216203619608871777363092441300193804877856 0 0 [0, 1, 2, 3, 4, 5, 6]) (J27 () hm)
                  ·
                   replace hm := cF hq230_23 hm
                   refine Wz (.b false) (Oq hq230_23 rfl) <| Wz (.loc 6 1) (Ofa rfl) <| Wz (.l (encI .u32) x185_22.Sets) (Old rfl) <| Wz (.i ((List.length x185_22.Sets : Nat) : Int)) (Oln rfl) <| Wz (.b (decide (((List.length x185_22.Sets : Nat) : Int) = 0))) (Obn rfl (fun _ => hb_eql (k := .i64))) <| Wz (.b (decide (((List.length x185_22.Sets : Nat) : Int) = 0))) (OpF rfl) <| Wdr <| Tn ?_
                   exact AWP.weak (Weak.toK 55213970774324510299478046898216203619608871777363092441300193804877856 0 0 [0, 1, 2, 3, 4, 5, 6]) (J28 () hm)
                ·
                 replace hm := cF hq209_23 hm
                 refine Wz (.b false) (Oq hq209_23 rfl) <| Wn <| Wn <| Wn <| Wn <| Wn <| Wn <| Wn <| Wn <| Wn <| Wn <| Wz (.b false) (OpF rfl) <| Wz (.b false) (OpF rfl) <| Wz (.b false) (OpT rfl) ?_
                 refine Wm (.b false) rfl <| Wz (.loc 6 2) (Ofa rfl) <| Wz (.i x185_22.End) (Old rfl) <| Wz (.loc 0 1) (Ocs (by kernel_rfl) (op_iaddr_arr rfl (n := 2) (sz := 1) (y := (.loc 0 0)) (by kernel_rfl) (by kernel_rfl) (by kernel_rfl) (k := .i64) (iv := 1) (by kernel_rfl) (i := 1) (by rfl) (by decide))) <| Wz (.i p2.a1) (Old rfl) <| Wz (.b (decide (p2.a1 ≤ x185_22.End))) (Obn rfl (fun _ => hb_geq (k := .i64))) <| Wz (.b (decide (p2.a1 ≤ x185_22.End))) (OpF rfl) ?_
                 rcases tf_ (decide (p2.a1 ≤ x185_22.End)) with hq230_23 | hq230_23
                 ·
                  replace hm := cT hq230_23 hm
                  refine Wz (.b true) (Oq hq230_23 rfl) <| Wn <| Wn <| Wn <| Wn <| Wz (.b true) (OpT rfl) <| Wdr <| Tn ?_
                  exact AWP.weak (Weak.toK 55213970774324510299478046898216203619608871777363092441300193804877856 0 0 [0, 1, 2, 3, 4, 5, 6]) (J27 () hm)
                 ·
                  replace hm := cF hq230_23 hm
                  refine Wz (.b false) (Oq hq230_23 rfl) <| Wz (.loc 6 1) (Ofa rfl) <| Wz (.l (encI .u32) x185_22.Sets) (Old rfl) <| Wz (.i ((List.length x185_22.Sets : Nat) : Int)) (Oln rfl) <| Wz (.b (decide (((List.length x185_22.Sets : Nat) : Int) = 0))) (Obn rfl (fun _ => hb_eql (k := .i64))) <| Wz (.b (decide (((List.length x185_22.Sets : Nat) : Int) = 0))) (OpF rfl) <| Wdr <| Tn ?_
                  exact AWP.weak (Weak.toK 55213970774324510299478046898216203619608871777363092441300193804877856 0 0 [0, 1, 2, 3, 4, 5, 6]) (J28 () hm)
              ·
               replace hm := cF hq189_23 hm
               refine Wz (.b false) (Oq hq189_23 rfl) <| Wn <| Wn <| Wn <| Wn <| Wn <| Wn <| Wn <| Wn <| Wn <| Wn <| Wn <| Wn <| Wn ?_
               refine Wn <| Wn <| Wn <| Wn <| Wn <| Wn <| Wn <| Wn <| Wn <| Wn <| Wn <| Wn <| Wn <| Wn ?_
               refine Wn <| Wn <| Wn <| Wn <| Wn <| Wz (.b false) (OpF rfl) <| Wm (.b false) rfl <| Wz (.loc 6 2) (Ofa rfl) <| Wz (.i x185_22.End) (Old rfl) <| Wz (.loc 0 1) (Ocs (by kernel_rfl) (op_iaddr_arr rfl (n := 2) (sz := 1) (y := (.loc 0 0)) (by kernel_rfl) (by kernel_rfl) (by kernel_rfl) (k := .i64) (iv := 1) (by kernel_rfl) (i := 1) (by rfl) (by decide))) <| Wz (.i p2.a1) (Old rfl) <| Wz (.b (decide (p2.a1 ≤ x185_22.End))) (Obn rfl (fun _ => hb_geq (k := .i64))) <| Wz (.b (decide (p2.a1 ≤ x185_22.End))) (OpF rfl) ?_
               rcases tf_ (decide (p2.a1 ≤ x185_22.End)) with hq230_23 | hq230_23
               ·
                replace hm := cT hq230_23 hm
                refine Wz (.b true) (Oq hq230_23 rfl) <| Wn <| Wn <| Wn <| Wn <| Wz (.b true) (OpT rfl) <| Wdr <| Tn ?_
                exact AWP.weak (Weak.toK 55213970774324510299478046898216203619608871777363092441300193804877856 0 0 [0, 1, 2, 3, 4, 5, 6]) (J27 () hm)
               ·
                replace hm := cF hq230_23 hm
                refine Wz (.b false) (Oq hq230_23 rfl) <| Wz (.loc 6 1) (Ofa rfl) <| Wz (.l (encI .u32) x185_22.Sets) (Old rfl) <| Wz (.i ((List.length x185_22.Sets : Nat) : Int)) (Oln rfl) <| Wz (.b (decide (((List.length x185_22.Sets : Nat) : Int) = 0))) (Obn rfl (fun _ => hb_eql (k := .i64))) <| Wz (.b (decide (((List.length x185_22.Sets : Nat) : Int) = 0))) (OpF rfl) <| Wdr <| Tn ?_
                exact AWP.weak (Weak.toK 55213970774324510299478046898216203619608871777363092441300193804877856 0 0 [0, 1, 2, 3, 4, 5, 6]) (J28 () hm)
             ·
              replace hm := cF hc180_38 hm
              refine AiF hc180_38 <| AWP.exit <| Then.exit <| RoundK.exit <| InBlock.same <| Tk 524320 25 ⟨tp 5 (.loc 0 0::tp 13 (.loc 3 0::tp 275 [])), [(.box [(.i p2.a0), (.i p2.a1)]), .gone, .gone, (.box [(.i r141_16.2.Cap), (.own 4)]), (Ar 42 3 enc_GWait r141_16.2.L), .gone], 0⟩ <| Sx <| Wz (.agg [(.i r141_16.2.Cap), (.own 4)]) (Old rfl) ?_
              obtain ⟨r273_29, hr273_29, hm⟩ := bnd hm
              refine Wz (.tup [(.i r273_29.1), (.b r273_29.2)]) (Ocp [] [] [4] 0 (ok_trail_Trail_Least r141_16.2 r273_29 hr273_29) (plain_triv (by simp [A.Plain, A.Plains, D.Plain, byteD])) (fun a w => Try.call16 a w) rfl trivial) <| Wm (.tup [(.i r273_29.1), (.b r273_29.2)]) rfl <| Wz (.i r273_29.1) (Oex rfl) <| Wz (.b r273_29.2) (Oex rfl) <| Wm (.i r273_29.1) rfl <| Wm (.b r273_29.2) rfl <| Nk 50855968 25 ⟨tp 5 (.loc 0 0::tp 13 (.loc 3 0::tp 4 (.i r273_29.1::.b r273_29.2::tp 269 []))), [(.box [(.i p2.a0), (.i p2.a1)]), .gone, .gone, (.box [(.i r141_16.2.Cap), (.own 4)]), (Ar 42 3 enc_GWait r141_16.2.L), .gone], 0⟩ <| Sx <| Wm (.b r273_29.2) rfl <| Wz (.b (!r273_29.2)) (Ocs (by kernel_rfl) (op_un rfl (a1 := .bool r273_29.2) (by kernel_rfl) (fun _ => hu_not))) ?_
              rcases tf_ (!r273_29.2) with hq278_30 | hq278_30
              ·
               replace hm := cT hq278_30 hm
               refine Wz (.b true) (Oq hq278_30 rfl) <| Wn <| Wn <| Wn <| Wn <| Wz (.b true) (OpT rfl) <| Wm (.b true) rfl <| Wm (.b r273_29.2) rfl <| Wz (.loc 3 1) (Ofa rfl) <| Wz (.own 4) (Old rfl) <| Wz (.i ((List.length r141_16.2.L : Nat) : Int)) (Oln rfl) <| Wz (.b (decide ((0 : Int) < ((List.length r141_16.2.L : Nat) : Int)))) (Obn rfl (fun _ => hb_gtr (k := .i64))) <| Wz (.b (decide (r273_29.2 = decide ((0 : Int) < ((List.length r141_16.2.L : Nat) : Int))))) (Ob2 (.bool r273_29.2) (.bool (decide ((0 : Int) < ((List.length r141_16.2.L : Nat) : Int)))) rfl (fun _ => hb_beql (by kernel_rfl))) <| Wz (.b (decide (r273_29.2 = decide ((0 : Int) < ((List.length r141_16.2.L : Nat) : Int))))) (OpT rfl) ?_
               rcases tf_ (decide (r273_29.2 = decide ((0 : Int) < ((List.length r141_16.2.L : Nat) : Int)))) with hq292_30 | hq292_30
               ·
                replace hm := cT hq292_30 hm
                refine Wz (.b true) (Oq hq292_30 rfl) ?_
                obtain ⟨r293_30, hr293_30, hm⟩ := bnd hm
                refine Wz (.b r293_30) (Ocf [] [] [] 0 (ok_w22_awake  r293_30 hr293_30) (fun a w => Try.call5 a w) rfl trivial) <| Wz (.b r293_30) (OpT rfl) <| Wm (.b r293_30) rfl <| Nn <| Rt ?_
                obtain rfl := Option.some.inj hm
                exact ret_i []
               ·
                replace hm := cF hq292_30 hm
                refine Wz (.b false) (Oq hq292_30 rfl) <| Wn <| Wz (.b false) (OpF rfl) <| Wm (.b false) rfl <| Nn <| Rt ?_
                obtain rfl := Option.some.inj hm
                exact ret_i []
              ·
               replace hm := cF hq278_30 hm
               refine Wz (.b false) (Oq hq278_30 rfl) <| Wm (.i r273_29.1) rfl <| Wz (.loc 0 1) (Ocs (by kernel_rfl) (op_iaddr_arr rfl (n := 2) (sz := 1) (y := (.loc 0 0)) (by kernel_rfl) (by kernel_rfl) (by kernel_rfl) (k := .i64) (iv := 1) (by kernel_rfl) (i := 1) (by rfl) (by decide))) <| Wz (.i p2.a1) (Old rfl) <| Wz (.b (decide (p2.a1 ≤ r273_29.1))) (Obn rfl (fun _ => hb_geq (k := .i64))) <| Wz (.b (decide (p2.a1 ≤ r273_29.1))) (OpF rfl) ?_
               rcases tf_ (decide (p2.a1 ≤ r273_29.1)) with hq284_30 | hq284_30
               ·
                replace hm := cT hq284_30 hm
                refine Wz (.b true) (Oq hq284_30 rfl) <| Wm (.b r273_29.2) rfl <| Wz (.loc 3 1) (Ofa rfl) <| Wz (.own 4) (Old rfl) <| Wz (.i ((List.length r141_16.2.L : Nat) : Int)) (Oln rfl) <| Wz (.b (decide ((0 : Int) < ((List.length r141_16.2.L : Nat) : Int)))) (Obn rfl (fun _ => hb_gtr (k := .i64))) <| Wz (.b (decide (r273_29.2 = decide ((0 : Int) < ((List.length r141_16.2.L : Nat) : Int))))) (Ob2 (.bool r273_29.2) (.bool (decide ((0 : Int) < ((List.length r141_16.2.L : Nat) : Int)))) rfl (fun _ => hb_beql (by kernel_rfl))) <| Wz (.b (decide (r273_29.2 = decide ((0 : Int) < ((List.length r141_16.2.L : Nat) : Int))))) (OpT rfl) ?_
                rcases tf_ (decide (r273_29.2 = decide ((0 : Int) < ((List.length r141_16.2.L : Nat) : Int)))) with hq292_30 | hq292_30
                ·
                 replace hm := cT hq292_30 hm
                 refine Wz (.b true) (Oq hq292_30 rfl) ?_
                 obtain ⟨r293_30, hr293_30, hm⟩ := bnd hm
                 refine Wz (.b r293_30) (Ocf [] [] [] 0 (ok_w22_awake  r293_30 hr293_30) (fun a w => Try.call5 a w) rfl trivial) <| Wz (.b r293_30) (OpT rfl) <| Wm (.b r293_30) rfl <| Nn <| Rt ?_
                 obtain rfl := Option.some.inj hm
                 exact ret_i []
                ·
                 replace hm := cF hq292_30 hm
                 refine Wz (.b false) (Oq hq292_30 rfl) <| Wn <| Wz (.b false) (OpF rfl) <| Wm (.b false) rfl <| Nn <| Rt ?_
                 obtain rfl := Option.some.inj hm
                 exact ret_i []
               ·
                replace hm := cF hq284_30 hm
                refine Wz (.b false) (Oq hq284_30 rfl) <| Wn <| Wn <| Wn <| Wn <| Wn <| Wn <| Wz (.b false) (OpF rfl) <| Wm (.b false) rfl <| Wn <| Wz (.b false) (OpF rfl) <| Wm (.b false) rfl <| Nn <| Rt ?_
                obtain rfl := Option.some.inj hm
                exact ret_i []
end Go.Proofs.Ytelhmhmgaaebpaa.K

namespace Go.Proofs.Ytelhmhmgaaebpaa
open Go.ChangeShapes Go.WideShapes Go.ChangeAt Go.RowKit
open Go.ChangeMaps (open_string shut_string)

section
variable {H : Type} {enc : TypeId × Value → H} {P : Program}
theorem trodAll_lt {w : World} {base : Nat} {spare : Nat → Bool} {held : Bool} : ∀ {ts : List TypeId} {vs : List Value} {ds : List (DataW H)} {ps : List MemPlace},
    DataW.TrodAll enc P w base spare held ts vs ds ps → ∀ x ∈ ps, x.block < w.heap.size
  | [], _, _, _, h => by obtain ⟨_, _, rfl⟩ := trodAll_nil h; simp
  | t :: ts, _, _, _, h => by
    obtain ⟨v, vs, d, ds, p, q, rfl, rfl, rfl, h0, h1⟩ := trodAll_cons h
    intro x hx
    rcases List.mem_append.1 hx with hx | hx
    · obtain ⟨m, hm⟩ := h0; exact DataW.trod_lt m _ _ _ hm x hx
    · exact trodAll_lt h1 x hx
theorem trodAll_below (hl : laidOutB P = true) {W W' : World} (hb : Below W.heap.size W W') : ∀ {ts : List TypeId} {vs : List Value} {ds : List (DataW H)} {ps : List MemPlace},
    (ts.all fun t => P.readableRec t && decide (t < P.types.size)) = true → DataW.TrodAll enc P W 0 (fun _ => true) true ts vs ds ps → DataW.TrodAll enc P W' 0 (fun b => decide (b < W.heap.size)) true ts vs ds ps
  | [], _, _, _, _, h => by obtain ⟨rfl, rfl, rfl⟩ := trodAll_nil h; exact trodAll_mk0
  | t :: ts, _, _, _, ht, h => by
    have hlt := trodAll_lt h
    obtain ⟨v, vs, d, ds, p, q, rfl, rfl, rfl, h0, h1⟩ := trodAll_cons h
    simp only [List.all_cons, Bool.and_eq_true, decide_eq_true_eq] at ht
    exact trodAll_cons_mk (Below.trod hl ht.1.1 ht.1.2 h0 hb fun x hx => hlt x (by simp [hx])) (trodAll_below hl hb (by simpa using ht.2) h1)

variable {W : World} {base : Nat} {spare : Nat → Bool} {held : Bool} {t : TypeId} {v : Value} {d : DataW H} {ps : List MemPlace}
end
end Go.Proofs.Ytelhmhmgaaebpaa

namespace Go.Proofs.Ytelhmhmgaaebpaa.K
open Go.RowKit Go.Lib
def inK (k : IntKind) (n : Int) : Prop := (Lit.int k n).wf = true
def wfT {α : Type} (_ : α) : Prop := True
def wfS (l : List UInt8) : Prop := l.length ≤ maxLen
def wfL {α : Type} (q : α → Prop) (l : List α) : Prop := l.length ≤ maxLen ∧ ∀ x ∈ l, q x
section
variable {P : Program} {t e : TypeId} {ds : List D}
theorem td_int {k : IntKind} (hu : P.underlying t = some (.int k)) (h : TD P t ds) : ∃ n, ds = encI k n ∧ inK k n := TD.of_int hu h
theorem td_u8 (hu : P.underlying t = some (.int .u8)) (h : TD P t ds) : ∃ b : UInt8, ds = encU8 b ∧ wfT b := by
  obtain ⟨n, rfl, hw⟩ := TD.of_int hu h
  simp [Lit.wf, IntKind.min, IntKind.max, IntKind.signed, IntKind.bits] at hw
  refine ⟨UInt8.ofNat n.toNat, ?_, trivial⟩
  have : (((UInt8.ofNat n.toNat).toNat : Nat) : Int) = n := by
    have h2 : (UInt8.ofNat n.toNat).toNat = n.toNat % 256 := UInt8.toNat_ofNat
    rw [h2]; omega
  unfold encU8 byteD
  rw [this]
theorem td_str (hu : P.underlying t = some .string) (h : TD P t ds) : ∃ l : List UInt8, ds = encS l ∧ wfS l := by
  obtain ⟨s, rfl, hs⟩ := TD.of_str hu h
  exact ⟨s.data.toList, rfl, hs⟩
theorem td_slice {α : Type} {enc : α → List D} {q : α → Prop} (hu : P.underlying t = some (.slice e)) (he : ∀ {r}, TD P e r → ∃ x, r = enc x ∧ q x) (h : TD P t ds) : ∃ l : List α, ds = encL enc l ∧ wfL q l := by
  obtain ⟨l, rfl, h1, h2⟩ := TD.of_slice hu he h
  exact ⟨l, rfl, h1, h2⟩
end
theorem rep_1 {S : Nat → Prop} {w : World} {m : Mp} {x : D} {v : Value} {xs : List D} (h : RepD S w x v) (e : [x] = xs) {y : D} (hy : xs = [y]) : Rep m S w (.d y) v := by
  subst hy
  cases e
  exact rep_d h
theorem rep_ag {S : Nat → Prop} {w : World} {m : Mp} {ds : List D} {as' : List A} {cs : Array Value} (h : RepsD S w ds cs.toList) (e : ds.map A.d = as' := by rfl) : Rep m S w (.agg as') (.agg cs) := by
  subst e
  exact rep_agg (reps_of_repsD h)
end Go.Proofs.Ytelhmhmgaaebpaa.K

namespace Go.Proofs.Ytelhmhmgaaebpaa.K
open Go.RowKit Go.Lib
theorem w64 {n : Int} (h1 : -9223372036854775808 ≤ n) (h2 : n ≤ 9223372036854775807) : IntKind.i64.wrap n = n := by
  simp [IntKind.wrap, IntKind.signed, IntKind.bits]; omega
theorem wu64 (n : Int) : IntKind.u64.wrap n = n % 18446744073709551616 := K.wrap_u64 n
theorem maxLen_le {n : Nat} (h : n ≤ maxLen) : n ≤ 9223372036854775807 := by unfold maxLen at h; omega
section
variable {α : Type} {l r : List α} {i n : Nat} {x : α}
/-- One further. -/
theorem inc_ok (h2 : i ≤ 9223372036854775806) : IntKind.i64.wrap ((i : Int) + 1) = ((i + 1 : Nat) : Int) := by
  rw [w64 (by omega) (by omega)]; omega
theorem geti_nat : geti l (i : Int) = l[i]? := by simp [geti]
theorem geti_lt (h : i < l.length) : geti l (i : Int) = some l[i] := by rw [geti_nat, List.getElem?_eq_getElem h]
theorem app_ok (h : l.length + r.length ≤ 1000000000) : app l r = some (l ++ r) := if_pos h
theorem cut_ok {a b : Nat} (h1 : a ≤ b) (h2 : b ≤ l.length) : cut l (a : Int) (b : Int) = some ((l.drop a).take (b - a)) := by unfold cut; rw [if_pos (by omega)]; rfl
theorem obind_some {β : Type} {f : α → Option β} : Option.bind (some x) f = f x := rfl
theorem bind_of {β : Type} {o : Option α} {f : α → Option β} (h : o = some x) : Option.bind o f = f x := by rw [h]; rfl
theorem chk_ok {p : Prop} [Decidable p] {o : Option α} (h : p) : chk p o = o := if_pos h
theorem d_lt {a b : Int} (h : a < b) : decide (a < b) = true := decide_eq_true h
theorem d_nlt {a b : Int} (h : ¬ a < b) : decide (a < b) = false := decide_eq_false h
theorem drop_cons (h : i < l.length) : l.drop i = l[i] :: l.drop (i + 1) := List.drop_eq_getElem_cons h
theorem take_snoc (h : i < l.length) : l.take (i + 1) = l.take i ++ [l[i]] := by rw [List.take_add_one, List.getElem?_eq_getElem h]; rfl
end
/-- A loop that counts up to n: by what it comes to from place i on, in state s. -/
theorem loopG {σ R : Type} {L : Nat → σ → Int → Option R} {n : Nat} {P : Nat → σ → Option R → Prop} (hend : ∀ fu s, P n s (L (fu + 1) s (n : Int)))
    (hstep : ∀ fu s i, i < n → (∀ s', P (i + 1) s' (L fu s' ((i + 1 : Nat) : Int))) → P i s (L (fu + 1) s (i : Int))) : ∀ fu i s, i ≤ n → n - i < fu → P i s (L fu s (i : Int))
  | 0, i, s, _, h => by omega
  | fu + 1, i, s, h1, h2 => by
    rcases Nat.lt_or_ge i n with h | h
    · exact hstep fu s i h fun s' => loopG hend hstep fu (i + 1) s' (by omega) (by omega)
    · obtain rfl : i = n := by omega
      exact hend fu s
/-- The same without a state. -/
theorem loop1 {R : Type} {L : Nat → Int → Option R} {n : Nat} {P : Nat → Option R → Prop} (hend : ∀ fu, P n (L (fu + 1) (n : Int)))
    (hstep : ∀ fu i, i < n → P (i + 1) (L fu ((i + 1 : Nat) : Int)) → P i (L (fu + 1) (i : Int))) (fu i : Nat) (h1 : i ≤ n) (h2 : n - i < fu) : P i (L fu (i : Int)) :=
  loopG (σ := Unit) (L := fun fu _ i => L fu i) (P := fun i _ o => P i o) (fun fu _ => hend fu) (fun fu _ i hi h => hstep fu i hi (h ())) fu i () h1 h2
/-- From the first place on. -/
theorem loop1_0 {R : Type} {L : Nat → Int → Option R} {n : Nat} {P : Nat → Option R → Prop} (hn : n < 1152921504606846976) (hend : ∀ fu, P n (L (fu + 1) (n : Int)))
    (hstep : ∀ fu i, i < n → P (i + 1) (L fu ((i + 1 : Nat) : Int)) → P i (L (fu + 1) (i : Int))) : P 0 (L 1152921504606846976 0) := loop1 hend hstep _ 0 (Nat.zero_le _) (by omega)
theorem loopG_0 {σ R : Type} {L : Nat → σ → Int → Option R} {n : Nat} {P : Nat → σ → Option R → Prop} (hn : n < 1152921504606846976) (hend : ∀ fu s, P n s (L (fu + 1) s (n : Int)))
    (hstep : ∀ fu s i, i < n → (∀ s', P (i + 1) s' (L fu s' ((i + 1 : Nat) : Int))) → P i s (L (fu + 1) s (i : Int))) (s : σ) : P 0 s (L 1152921504606846976 s 0) := loopG hend hstep _ 0 s (Nat.zero_le _) (by omega)
/-- A loop that lays f of each behind what there is. -/
theorem map_loop {α β R : Type} {L : Nat → List β → Int → Option R} {l : List α} {f : α → β} {e : List β → R} (hl : l.length ≤ 400000000)
    (hend : ∀ fu s, L (fu + 1) s (l.length : Int) = some (e s)) (hstep : ∀ fu s i, (h : i < l.length) → s.length ≤ 400000000 → L (fu + 1) s (i : Int) = L fu (s ++ [f l[i]]) ((i + 1 : Nat) : Int)) : L 1152921504606846976 [] 0 = some (e (l.map f)) := by
  have := loopG_0 (L := L) (n := l.length) (P := fun i s o => s.length = i → o = some (e (s ++ (l.drop i).map f))) (by omega) (fun fu s hs => by rw [hend]; simp) (fun fu s i hi ih hs => by
    rw [hstep fu s i hi (by omega), ih (s ++ [f l[i]]) (by simp [hs]), drop_cons hi, List.map_cons, List.append_assoc]; rfl) [] rfl
  simpa using this
end Go.Proofs.Ytelhmhmgaaebpaa.K

namespace Go.Proofs.Ytelhmhmgaaebpaa.K
open Go.RowKit Go.Lib
section
variable {α : Type} {l p m q : List α} {x y : α} {i j : Int}
theorem geti_at (e : l = p ++ x :: q) (h : i = (p.length : Int)) : geti l i = some x := by
  subst e; subst h; rw [geti_nat]; simp
theorem set_at (e : l = p ++ x :: q) (h : i = (p.length : Int)) : l.set i.toNat y = p ++ y :: q := by
  subst e; subst h
  rw [Int.toNat_natCast, List.set_append_right _ _ (Nat.le_refl _), Nat.sub_self, List.set_cons_zero]
/-- Two elements are swapped: the first place is written first. -/
theorem swp (e : l = p ++ x :: (m ++ y :: q)) (hi : i = (p.length : Int)) (hj : j = (p.length : Int) + 1 + (m.length : Int)) :
    geti l i = some x ∧ geti l j = some y ∧ geti (l.set i.toNat y) j = some y ∧ (l.set i.toNat y).set j.toNat x = p ++ y :: (m ++ x :: q) := by
  have h1 := set_at (y := y) e hi
  have h2 : l = (p ++ x :: m) ++ y :: q := by rw [e]; simp
  have h3 : p ++ y :: (m ++ y :: q) = (p ++ y :: m) ++ y :: q := by simp
  refine ⟨geti_at e hi, geti_at h2 (by simp; omega), ?_, ?_⟩
  · rw [h1]; exact geti_at h3 (by simp; omega)
  · rw [h1, set_at (y := x) h3 (by simp; omega)]; simp
/-- The same, the second place being written first. -/
theorem swp' (e : l = p ++ x :: (m ++ y :: q)) (hi : i = (p.length : Int)) (hj : j = (p.length : Int) + 1 + (m.length : Int)) :
    geti l i = some x ∧ geti l j = some y ∧ geti (l.set j.toNat x) i = some x ∧ (l.set j.toNat x).set i.toNat y = p ++ y :: (m ++ x :: q) := by
  have h2 : l = (p ++ x :: m) ++ y :: q := by rw [e]; simp
  have h1 := set_at (y := x) h2 (i := j) (by simp; omega)
  have h3 : (p ++ x :: m) ++ x :: q = p ++ x :: (m ++ x :: q) := by simp
  refine ⟨geti_at e hi, geti_at h2 (by simp; omega), ?_, ?_⟩
  · rw [h1]; exact geti_at h3 hi
  · rw [h1, set_at (y := y) h3 hi]
end
theorem half_ok {i j : Nat} (h : i + j ≤ 1000000000000) : IntKind.i64.wrap (Int.fdiv (IntKind.u64.wrap (IntKind.i64.wrap ((i : Int) + (j : Int)))) (2 ^ 1)) = (((i + j) / 2 : Nat) : Int) := by
  rw [w64 (n := (i : Int) + (j : Int)) (by omega) (by omega), wu64, Int.emod_eq_of_lt (by omega) (by omega), Int.fdiv_eq_ediv_of_nonneg _ (by decide), w64 (by omega) (by omega)]
  omega
/-- A search by halves. -/
theorem half_loop {R : Type} {L : Nat → Int → Int → Option R} {K : Int → Option R} {Pd : Nat → Prop} [DecidablePred Pd] {lo hi : Nat}
    (hend : ∀ fu (i : Nat), L (fu + 1) (i : Int) (i : Int) = K (i : Int))
    (hstep : ∀ fu (i j : Nat), lo ≤ i → i < j → j ≤ hi → L (fu + 1) (i : Int) (j : Int) = if Pd ((i + j) / 2) then L fu (((i + j) / 2 + 1 : Nat) : Int) (j : Int) else L fu (i : Int) (((i + j) / 2 : Nat) : Int))
    (mono : ∀ c d, lo ≤ c → c ≤ d → d < hi → Pd d → Pd c) : ∀ (fu i j : Nat), lo ≤ i → i ≤ j → j ≤ hi → j - i < fu → (∀ c, lo ≤ c → c < i → Pd c) → (∀ c, j ≤ c → c < hi → ¬ Pd c) →
      ∃ s : Nat, lo ≤ s ∧ s ≤ hi ∧ L fu (i : Int) (j : Int) = K (s : Int) ∧ (∀ c, lo ≤ c → c < s → Pd c) ∧ (∀ c, s ≤ c → c < hi → ¬ Pd c)
  | 0, i, j, _, _, _, h, _, _ => by omega
  | fu + 1, i, j, h1, h2, h3, h4, ha, hb => by
    by_cases hij : i = j
    · subst hij; exact ⟨i, h1, h3, hend fu i, ha, hb⟩
    · rw [hstep fu i j h1 (by omega) h3]
      by_cases hp : Pd ((i + j) / 2)
      · rw [if_pos hp]
        exact half_loop hend hstep mono fu _ j (by omega) (by omega) h3 (by omega) (fun c hc1 hc2 => mono c ((i + j) / 2) hc1 (by omega) (by omega) hp) hb
      · rw [if_neg hp]
        exact half_loop hend hstep mono fu i _ h1 (by omega) (by omega) (by omega) ha (fun c hc1 hc2 hc => hp (mono _ c (by omega) hc1 hc2 hc))
/-! ### order -/
/-- What tells an order: less is never both ways, and not less goes on from one to the next. -/
structure Ord {α : Type} (Q : α → Prop) (lt : α → α → Prop) : Prop where
  asym : ∀ x y, Q x → Q y → lt x y → ¬ lt y x
  trans : ∀ x y z, Q x → Q y → Q z → ¬ lt y x → ¬ lt z y → ¬ lt z x
section
variable {α : Type} {Q : α → Prop} {lt : α → α → Prop} (O : Ord Q lt)
/-- In order: none is less than one ahead of it. -/
def Srt (lt : α → α → Prop) (l : List α) : Prop := l.Pairwise fun x y => ¬ lt y x
theorem Srt.app {a b : List α} : Srt lt (a ++ b) ↔ Srt lt a ∧ Srt lt b ∧ ∀ x ∈ a, ∀ y ∈ b, ¬ lt y x := List.pairwise_append
theorem Srt.one (x : α) : Srt lt [x] := List.pairwise_singleton _ _
theorem Srt.nil : Srt lt ([] : List α) := List.Pairwise.nil
theorem Srt.at {l : List α} (h : Srt lt l) {i j : Nat} (hij : i < j) (hj : j < l.length) : ¬ lt l[j] l[i] := (List.pairwise_iff_getElem.1 h) i j _ _ hij
include O in
theorem Srt.at' {l : List α} (h : Srt lt l) (hq : ∀ x ∈ l, Q x) {i j : Nat} (hij : i ≤ j) (hj : j < l.length) : ¬ lt l[j] (l[i]'(by omega)) := by
  rcases Nat.lt_or_ge i j with h1 | h1
  · exact h.at h1 hj
  · have : i = j := by omega
    subst this
    intro hl
    exact O.asym _ _ (hq _ (List.getElem_mem _)) (hq _ (List.getElem_mem _)) hl hl
/-- In chunks of k, each in order. -/
inductive Chunks (lt : α → α → Prop) (k : Nat) : List α → Prop
  | last (l : List α) : l.length ≤ k → Srt lt l → Chunks lt k l
  | cons (c l : List α) : c.length = k → Srt lt c → Chunks lt k l → Chunks lt k (c ++ l)
theorem Chunks.split {k : Nat} {l : List α} (h : Chunks lt k l) (hk : k ≤ l.length) : ∃ c r, l = c ++ r ∧ c.length = k ∧ Srt lt c ∧ Chunks lt k r := by
  cases h with
  | last l h1 h2 => exact ⟨l, [], by simp, by omega, h2, .last _ (by simp) Srt.nil⟩
  | cons c l h1 h2 h3 => exact ⟨c, l, rfl, h1, h2, h3⟩
theorem Chunks.all {k : Nat} {l : List α} (h : Chunks lt k l) (hk : l.length ≤ k) : Srt lt l := by
  cases h with
  | last l h1 h2 => exact h2
  | cons c l h1 h2 h3 =>
    have : l = [] := List.eq_nil_of_length_eq_zero (by simp at hk; omega)
    subst this; rw [List.append_nil]; exact h2
/-- One more put into its place: behind all that it is not less than. -/
def insS (lt : α → α → Prop) [DecidableRel lt] (s : List α) (x : α) : List α := s.takeWhile (fun y => !decide (lt x y)) ++ x :: s.dropWhile (fun y => !decide (lt x y))
def isort (lt : α → α → Prop) [DecidableRel lt] (l : List α) : List α := l.foldl (insS lt) []
variable [DecidableRel lt]
theorem insS_perm (s : List α) (x : α) : (insS lt s x).Perm (s ++ [x]) := by
  have e : s = s.takeWhile (fun y => !decide (lt x y)) ++ s.dropWhile (fun y => !decide (lt x y)) := (List.takeWhile_append_dropWhile).symm
  unfold insS
  conv => rhs; rw [e, List.append_assoc]
  exact List.Perm.append_left _ (List.perm_append_singleton _ _).symm
theorem fold_perm : ∀ (l s : List α), (l.foldl (insS lt) s).Perm (s ++ l)
  | [], s => by simp
  | x :: l, s => by
    rw [List.foldl_cons]
    refine (fold_perm l _).trans ?_
    have := (insS_perm (lt := lt) s x).append_right l
    simpa using this
theorem isort_perm (l : List α) : (isort lt l).Perm l := by simpa [isort] using fold_perm (lt := lt) l []
theorem tw_all (s : List α) (x : α) : ∀ y ∈ s.takeWhile (fun y => !decide (lt x y)), ¬ lt x y := by
  induction s with
  | nil => simp
  | cons z s ih =>
    intro y hy
    rw [List.takeWhile_cons] at hy
    split at hy
    · rcases List.mem_cons.1 hy with rfl | hy
      · rename_i hz; simpa using hz
      · exact ih y hy
    · simp at hy
include O in
theorem dw_all {s : List α} {x : α} (hs : Srt lt s) (hq : ∀ y ∈ s, Q y) (hx : Q x) : ∀ y ∈ s.dropWhile (fun y => !decide (lt x y)), lt x y := by
  induction s with
  | nil => simp
  | cons z s ih =>
    intro y hy
    rw [List.dropWhile_cons] at hy
    have hs' := List.pairwise_cons.1 hs
    split at hy
    · exact ih hs'.2 (fun y h => hq y (by simp [h])) y hy
    · rename_i hz
      have hz : lt x z := by simpa using hz
      rcases List.mem_cons.1 hy with rfl | hy
      · exact hz
      · refine Classical.byContradiction fun hn => ?_
        exact O.trans z y x (hq z (by simp)) (hq y (by simp [hy])) hx (hs'.1 y hy) hn hz
include O in
theorem insS_srt {s : List α} {x : α} (hs : Srt lt s) (hq : ∀ y ∈ s, Q y) (hx : Q x) : Srt lt (insS lt s x) := by
  have e : s = s.takeWhile (fun y => !decide (lt x y)) ++ s.dropWhile (fun y => !decide (lt x y)) := (List.takeWhile_append_dropWhile).symm
  have h := hs
  rw [e, Srt.app] at h
  unfold insS
  rw [Srt.app]
  refine ⟨h.1, List.pairwise_cons.2 ⟨fun y hy => ?_, h.2.1⟩, fun a ha b hb => ?_⟩
  · have h1 := dw_all O hs hq hx y hy
    exact fun h2 => O.asym x y hx (hq y (List.dropWhile_sublist _ |>.subset hy)) h1 h2
  · rcases List.mem_cons.1 hb with rfl | hb
    · exact tw_all s b a ha
    · exact h.2.2 a ha b hb
include O in
theorem fold_srt : ∀ (l s : List α), Srt lt s → (∀ y ∈ s, Q y) → (∀ y ∈ l, Q y) → Srt lt (l.foldl (insS lt) s)
  | [], s, h, _, _ => h
  | x :: l, s, h, hs, hl => by
    rw [List.foldl_cons]
    refine fold_srt l _ (insS_srt O h hs (hl x (by simp))) (fun y hy => ?_) (fun y hy => hl y (by simp [hy]))
    have := (insS_perm (lt := lt) s x).mem_iff.1 hy
    rcases List.mem_append.1 this with h1 | h1
    · exact hs y h1
    · simp only [List.mem_singleton] at h1; subst h1; exact hl y (by simp)
include O in
theorem isort_srt {l : List α} (hl : ∀ y ∈ l, Q y) : Srt lt (isort lt l) := fold_srt O l [] Srt.nil (by simp) hl
end
section
variable {α : Type} {pd : α → Prop} {B : List α} {k : Nat} {d : α}
theorem take_pd (h : ∀ t, t < k → pd (B.getD t d)) (hk : k ≤ B.length) : ∀ z ∈ B.take k, pd z := fun z hz => by
  obtain ⟨t, ht, rfl⟩ := List.mem_iff_getElem.1 hz
  simp only [List.length_take] at ht
  have := h t (by omega)
  rw [List.getD_eq_getElem?_getD, List.getElem?_eq_getElem (by omega)] at this
  simpa using this
theorem drop_pd (h : ∀ t, k ≤ t → t < B.length → pd (B.getD t d)) : ∀ z ∈ B.drop k, pd z := fun z hz => by
  obtain ⟨t, ht, rfl⟩ := List.mem_iff_getElem.1 hz
  simp only [List.length_drop] at ht
  have := h (k + t) (by omega) (by omega)
  rw [List.getD_eq_getElem?_getD, List.getElem?_eq_getElem (by omega)] at this
  simpa using this
theorem getD_lt {t : Nat} (h : t < B.length) : B.getD t d = B[t] := by
  rw [List.getD_eq_getElem?_getD, List.getElem?_eq_getElem h]; rfl
/-- An element of the second list, by its place. -/
theorem geti_snd {P A R : List α} {i : Int} {t : Nat} (ht : t < A.length) (hi : i = (P.length : Int) + t) : geti (P ++ (A ++ R)) i = some (A.getD t d) := by
  rw [getD_lt ht]
  have e : P ++ (A ++ R) = (P ++ A.take t) ++ A[t] :: (A.drop (t + 1) ++ R) := by
    have e0 : A = A.take t ++ A[t] :: A.drop (t + 1) := by rw [← List.drop_eq_getElem_cons ht, List.take_append_drop]
    conv => lhs; rw [e0]
    simp only [List.append_assoc, List.cons_append]
  exact geti_at e (by simp; omega)
theorem geti_trd {P A B R : List α} {i : Int} {t : Nat} (ht : t < B.length) (hi : i = (P.length : Int) + A.length + t) : geti (P ++ (A ++ (B ++ R))) i = some (B.getD t d) := by
  have := geti_snd (P := P ++ A) (A := B) (R := R) (d := d) (i := i) ht (by simp; omega)
  rwa [List.append_assoc] at this
end
abbrev ltc {α : Type} (c : α → α → Int) : α → α → Prop := fun x y => c x y < 0
instance {α : Type} (c : α → α → Int) : DecidableRel (ltc c) := fun x y => inferInstanceAs (Decidable (c x y < 0))
theorem insS_snoc {α : Type} {lt : α → α → Prop} [DecidableRel lt] {s : List α} {x y : α} (h : lt x y) : insS lt (s ++ [y]) x = insS lt s x ++ [y] := by
  unfold insS
  rw [List.takeWhile_append, List.dropWhile_append]
  by_cases ha : (s.takeWhile fun y => !decide (lt x y)).length = s.length
  · have hd : s.dropWhile (fun y => !decide (lt x y)) = [] := by
      have e := congrArg List.length (List.takeWhile_append_dropWhile (p := fun y => !decide (lt x y)) (l := s))
      rw [List.length_append] at e
      exact List.eq_nil_of_length_eq_zero (by omega)
    have ht : s.takeWhile (fun y => !decide (lt x y)) = s := by
      have e := List.takeWhile_append_dropWhile (p := fun y => !decide (lt x y)) (l := s)
      rwa [hd, List.append_nil] at e
    rw [if_pos ha, hd, ht]
    simp [h]
  · have hd : (s.dropWhile fun y => !decide (lt x y)).isEmpty = false := by
      cases hq : s.dropWhile (fun y => !decide (lt x y)) with
      | nil =>
        exfalso; apply ha
        have e := List.takeWhile_append_dropWhile (p := fun y => !decide (lt x y)) (l := s)
        rw [hq, List.append_nil] at e
        rw [e]
      | cons a b => rfl
    rw [if_neg ha, hd]
    simp
theorem tw_self {α : Type} {p : α → Bool} : ∀ {s : List α}, (∀ z ∈ s, p z = true) → s.takeWhile p = s
  | [], _ => rfl
  | x :: s, h => by rw [List.takeWhile_cons, if_pos (h x (by simp)), tw_self fun z hz => h z (by simp [hz])]
theorem dw_nil {α : Type} {p : α → Bool} : ∀ {s : List α}, (∀ z ∈ s, p z = true) → s.dropWhile p = []
  | [], _ => rfl
  | x :: s, h => by rw [List.dropWhile_cons, if_pos (h x (by simp)), dw_nil fun z hz => h z (by simp [hz])]
theorem insS_end {α : Type} {lt : α → α → Prop} [DecidableRel lt] {s : List α} {x : α} (h : ∀ z ∈ s, ¬ lt x z) : insS lt s x = s ++ [x] := by
  unfold insS
  have ht : s.takeWhile (fun y => !decide (lt x y)) = s := by
    exact tw_self fun z hz => by simp [h z hz]
  have hd : s.dropWhile (fun y => !decide (lt x y)) = [] := by
    exact dw_nil fun z hz => by simp [h z hz]
  rw [ht, hd]
end Go.Proofs.Ytelhmhmgaaebpaa.K

namespace Go.Proofs.Ytelhmhmgaaebpaa.K
open Go.RowKit Go.Lib Go.Sort
abbrev AI := Array Int
theorem less_ok (x y : Int) : m_cmp_Less_uint32 x y = some (ltInt x y) := by
  unfold m_cmp_Less_uint32 m_cmp_isNaN_uint32
  rw [obind_some, decide_eq_false (by simp), cond_false]; rfl
theorem gA {d : AI} {I : Int} {i : Nat} (e : I = i) (h : i < d.size) : geti d.toList I = some d[i]! := by
  rw [e, geti_nat, getElem!_pos d i h]
  simp [h]
theorem gS {d : AI} {x : Int} {I : Int} {i j : Nat} (e : I = i) (h : i < d.size) : ∃ u, geti (List.set d.toList j x) I = some u := by
  rw [e, geti_nat]
  exact ⟨_, List.getElem?_eq_getElem (by simpa using h)⟩
theorem sS {d : AI} {i j : Nat} : List.set (List.set d.toList i d[j]!) j d[i]! = (Go.Sort.swp d i j).toList := by
  unfold Go.Sort.swp
  simp
theorem swp_size (d : AI) (i j : Nat) : (Go.Sort.swp d i j).size = d.size := by simp [Go.Sort.swp]
theorem tN {I : Int} {i : Nat} (e : I = i) : Int.toNat I = i := by rw [e]; exact Int.toNat_natCast i
theorem wN {n : Int} {i : Nat} (e : n = i) (h : i ≤ 9223372036854775807) : IntKind.i64.wrap n = (i : Int) := by rw [w64 (by omega) (by omega)]; exact e
/-! ### insertionSort -/
theorem ins_l1 {a i : Int} {an : Nat} (ha : a = an) (k : List Int → Int → Option (List Int)) : ∀ (j fu : Nat) (d : AI), j < fu → j < d.size → d.size ≤ 1000000 →
    m_slices_insertionSortOrdered_uint32_l1 a i k fu d.toList (j : Int) = k (insInner ltInt an j d).toList (IntKind.i64.wrap (i + 1)) ∧ (insInner ltInt an j d).size = d.size
  | 0, fu, d, hf, hj, hs => by
    obtain ⟨fu, rfl⟩ : ∃ k, fu = k + 1 := ⟨fu - 1, by omega⟩
    unfold m_slices_insertionSortOrdered_uint32_l1 insInner
    rw [d_nlt (by omega), cond_false]
    exact ⟨rfl, rfl⟩
  | j + 1, fu, d, hf, hj, hs => by
    obtain ⟨fu, rfl⟩ : ∃ k, fu = k + 1 := ⟨fu - 1, by omega⟩
    have e1 : IntKind.i64.wrap (((j + 1 : Nat) : Int) - 1) = (j : Int) := wN (by omega) (by omega)
    unfold m_slices_insertionSortOrdered_uint32_l1 insInner
    by_cases h : an < j + 1
    · rw [d_lt (by omega), cond_true, e1, gA rfl hj, obind_some, gA rfl (by omega), obind_some, less_ok, obind_some]
      cases hl : ltInt d[j + 1]! d[j]! with
      | false =>
        rw [cond_false]
        simp
      | true =>
        have ih := ins_l1 (i := i) ha k j fu (Go.Sort.swp d (j + 1) j) (by omega) (by rw [swp_size]; omega) (by rw [swp_size]; omega)
        obtain ⟨u, hu⟩ := gS (d := d) (x := d[j]!) (I := (j : Int)) (i := j) (j := j + 1) rfl (by omega)
        rw [cond_true, obind_some, obind_some, obind_some, tN rfl, hu, obind_some, tN rfl, sS]
        simp only [h, decide_true, Bool.true_and, gt_iff_lt, if_true]
        rw [ih.1, ih.2, swp_size]
        exact ⟨rfl, rfl⟩
    · rw [d_nlt (by omega), cond_false]
      simp only [gt_iff_lt, h, decide_false, Bool.false_and, Bool.false_eq_true, if_false]
      exact ⟨trivial, trivial⟩
theorem ins_l0 {a b : Int} {an bn : Nat} (ha : a = an) (hb : b = bn) : ∀ (n i fu : Nat) (d : AI), bn - i = n → n < fu → bn ≤ d.size → d.size ≤ 1000000 →
    m_slices_insertionSortOrdered_uint32_l0 a b fu d.toList (i : Int) = some (insOuter ltInt an bn i d).toList ∧ (insOuter ltInt an bn i d).size = d.size
  | 0, i, fu, d, hn, hf, hbd, hs => by
    obtain ⟨fu, rfl⟩ : ∃ k, fu = k + 1 := ⟨fu - 1, by omega⟩
    unfold m_slices_insertionSortOrdered_uint32_l0 insOuter
    rw [d_nlt (by omega), cond_false, if_neg (by omega)]
    exact ⟨rfl, rfl⟩
  | n + 1, i, fu, d, hn, hf, hbd, hs => by
    obtain ⟨fu, rfl⟩ : ∃ k, fu = k + 1 := ⟨fu - 1, by omega⟩
    unfold m_slices_insertionSortOrdered_uint32_l0 insOuter
    rw [d_lt (by omega), cond_true, if_pos (by omega)]
    obtain ⟨h1, h2⟩ := ins_l1 (i := (i : Int)) ha (fun y0_0 y6_0 => m_slices_insertionSortOrdered_uint32_l0 a b fu y0_0 y6_0) i 1152921504606846976 d (by omega) (by omega) hs
    obtain ⟨h3, h4⟩ := ins_l0 ha hb n (i + 1) fu (insInner ltInt an i d) (by omega) (by omega) (by rw [h2]; exact hbd) (by rw [h2]; exact hs)
    rw [h1]
    show m_slices_insertionSortOrdered_uint32_l0 a b fu _ (IntKind.i64.wrap ((i : Int) + 1)) = _ ∧ _
    rw [wN (i := i + 1) (by omega) (by omega), h3, h4, h2]
    exact ⟨rfl, rfl⟩
theorem ins_ok {a b : Int} {an bn : Nat} (ha : a = an) (hb : b = bn) {d : AI} (hab : an ≤ bn) (hbd : bn ≤ d.size) (hs : d.size ≤ 1000000) : m_slices_insertionSortOrdered_uint32 d.toList a b = some (insertionSort ltInt d an bn).toList := by
  unfold m_slices_insertionSortOrdered_uint32 insertionSort
  rw [wN (i := an + 1) (by omega) (by omega)]
  exact (ins_l0 ha hb _ (an + 1) _ d rfl (by omega) hbd hs).1
/-! ### siftDown, heapSort -/
theorem sift_size : ∀ (n hi first root : Nat) (d : AI), hi - root ≤ n → (siftDown ltInt hi first root d).size = d.size
  | 0, hi, first, root, d, hn => by
    unfold siftDown
    rw [dif_pos (by omega)]
  | n + 1, hi, first, root, d, hn => by
    unfold siftDown
    split
    · rfl
    · split
      · split
        · rfl
        · split
          · rw [sift_size n _ _ _ _ (by omega), swp_size]
          · rfl
      · split
        · rfl
        · rw [sift_size n _ _ _ _ (by omega), swp_size]
theorem sift_l0 {h0 f0 : Int} {hi first : Nat} (hh : h0 = hi) (hf0 : f0 = first) : ∀ (n root fu : Nat) (d : AI), hi - root ≤ n → n < fu → first + hi ≤ d.size → d.size ≤ 1000000 → root ≤ 1000000 →
    m_slices_siftDownOrdered_uint32_l0 h0 f0 fu d.toList (root : Int) = some (siftDown ltInt hi first root d).toList
  | n, root, fu, d, hn, hf, hsz, hs, hr => by
    obtain ⟨fu, rfl⟩ : ∃ k, fu = k + 1 := ⟨fu - 1, by omega⟩
    have e1 : IntKind.i64.wrap (2 * (root : Int)) = ((2 * root : Nat) : Int) := wN (by omega) (by omega)
    have e2 : IntKind.i64.wrap (((2 * root : Nat) : Int) + 1) = ((2 * root + 1 : Nat) : Int) := wN (by omega) (by omega)
    have e3 : IntKind.i64.wrap (((2 * root + 1 : Nat) : Int) + 1) = ((2 * root + 2 : Nat) : Int) := wN (by omega) (by omega)
    unfold m_slices_siftDownOrdered_uint32_l0 siftDown
    rw [e1, e2, e3]
    by_cases c1 : 2 * root + 1 ≥ hi
    · rw [decide_eq_true (by omega), cond_true, dif_pos c1]
    · rw [decide_eq_false (by omega), cond_false, dif_neg c1]
      obtain ⟨n, rfl⟩ : ∃ k, n = k + 1 := ⟨n - 1, by omega⟩
      have j2 : ∀ c : Nat, root < c → c < hi → c ≤ 2 * root + 2 → m_slices_siftDownOrdered_uint32_j2 f0 d.toList (root : Int) (fun y0_0 y8_0 => m_slices_siftDownOrdered_uint32_l0 h0 f0 fu y0_0 y8_0) (c : Int) = some (if !ltInt d[first + root]! d[first + c]! then d else siftDown ltInt hi first c (Go.Sort.swp d (first + root) (first + c))).toList := fun c hc1 hc2 hc3 => by
        have e4 : IntKind.i64.wrap (f0 + (root : Int)) = ((first + root : Nat) : Int) := wN (by omega) (by omega)
        have e5 : IntKind.i64.wrap (f0 + (c : Int)) = ((first + c : Nat) : Int) := wN (by omega) (by omega)
        unfold m_slices_siftDownOrdered_uint32_j2
        rw [e4, e5, gA rfl (by omega), obind_some, gA rfl (by omega), obind_some, less_ok, obind_some]
        cases hl : ltInt d[first + root]! d[first + c]! with
        | false => rw [Bool.not_false, cond_true, if_pos rfl]
        | true =>
          obtain ⟨u, hu⟩ := gS (d := d) (x := d[first + c]!) (I := ((first + c : Nat) : Int)) (i := first + c) (j := first + root) rfl (by omega)
          rw [Bool.not_true, cond_false, obind_some, obind_some, obind_some, tN rfl, hu, obind_some, tN rfl, sS, if_neg (by simp)]
          exact sift_l0 hh hf0 n c fu _ (by omega) (by omega) (by rw [swp_size]; exact hsz) (by rw [swp_size]; exact hs) (by omega)
      by_cases c2 : 2 * root + 2 < hi
      · have e6 : IntKind.i64.wrap (f0 + ((2 * root + 1 : Nat) : Int)) = ((first + (2 * root + 1) : Nat) : Int) := wN (by omega) (by omega)
        have e7 : IntKind.i64.wrap (((first + (2 * root + 1) : Nat) : Int) + 1) = ((first + (2 * root + 1) + 1 : Nat) : Int) := wN (by omega) (by omega)
        rw [d_lt (by omega), cond_true, e6, e7, gA rfl (by omega), obind_some, gA rfl (by omega), obind_some, less_ok, obind_some]
        cases hl : ltInt d[first + (2 * root + 1)]! d[first + (2 * root + 1) + 1]! with
        | true =>
          have hc : (decide (2 * root + 1 + 1 < hi) && true) = true := by rw [decide_eq_true (by omega)]; rfl
          rw [cond_true, j2 (2 * root + 2) (by omega) c2 (by omega), if_pos hc, dif_pos c2]
        | false =>
          have hc : ¬ (decide (2 * root + 1 + 1 < hi) && false) = true := by rw [Bool.and_false]; simp
          rw [cond_false, j2 (2 * root + 1) (by omega) (by omega) (by omega), if_neg hc]
      · have hc : ¬ (decide (2 * root + 1 + 1 < hi) && ltInt d[first + (2 * root + 1)]! d[first + (2 * root + 1) + 1]!) = true := by rw [decide_eq_false (by omega)]; simp
        rw [d_nlt (by omega), cond_false, j2 (2 * root + 1) (by omega) (by omega) (by omega), if_neg hc]
termination_by n => n
theorem sift_ok {r0 h0 f0 : Int} {hi first root : Nat} (hr0 : r0 = root) (hh : h0 = hi) (hf0 : f0 = first) {d : AI} (hsz : first + hi ≤ d.size) (hs : d.size ≤ 1000000) (hr : root ≤ 1000000) :
    m_slices_siftDownOrdered_uint32 d.toList r0 h0 f0 = some (siftDown ltInt hi first root d).toList := by
  unfold m_slices_siftDownOrdered_uint32
  rw [hr0]
  exact sift_l0 hh hf0 (hi - root) root _ d (Nat.le_refl _) (by omega) hsz hs hr
theorem heap_pop {a0 : Int} {a : Nat} (ha : a0 = a) : ∀ (k fu : Nat) (d : AI), k < fu → a + k ≤ d.size → d.size ≤ 1000000 → m_slices_heapSortOrdered_uint32_l2 a0 fu d.toList ((k : Int) - 1) = some (heapPop ltInt a k d).toList
  | 0, fu, d, hf, hsz, hs => by
    obtain ⟨fu, rfl⟩ : ∃ k, fu = k + 1 := ⟨fu - 1, by omega⟩
    unfold m_slices_heapSortOrdered_uint32_l2 heapPop
    rw [decide_eq_false (by omega), cond_false]
  | k + 1, fu, d, hf, hsz, hs => by
    obtain ⟨fu, rfl⟩ : ∃ k, fu = k + 1 := ⟨fu - 1, by omega⟩
    have e0 : (((k + 1 : Nat) : Int) - 1) = (k : Int) := by omega
    have e1 : IntKind.i64.wrap (a0 + (k : Int)) = ((a + k : Nat) : Int) := wN (by omega) (by omega)
    have e2 : IntKind.i64.wrap ((k : Int) - 1) = (k : Int) - 1 := w64 (by omega) (by omega)
    unfold m_slices_heapSortOrdered_uint32_l2 heapPop
    obtain ⟨u, hu⟩ := gS (d := d) (x := d[a + k]!) (I := ((a + k : Nat) : Int)) (i := a + k) (j := a) rfl (by omega)
    rw [e0, decide_eq_true (by omega), cond_true, e1, gA rfl (by omega), obind_some, gA ha (by omega), obind_some, obind_some, tN ha, hu, obind_some, tN rfl, sS, sift_ok (r0 := 0) (root := 0) rfl rfl ha (by rw [swp_size]; omega) (by rw [swp_size]; exact hs) (by omega), obind_some, e2]
    exact heap_pop ha k fu _ (by omega) (by rw [sift_size _ _ _ _ _ (Nat.le_refl _), swp_size]; omega) (by rw [sift_size _ _ _ _ _ (Nat.le_refl _), swp_size]; exact hs)
theorem heap_build {a0 b0 : Int} {a b : Nat} (ha : a0 = a) (hb : b0 = b) (hab : a ≤ b) : ∀ (k fu : Nat) (d : AI), k < fu → k ≤ 1000000 → b ≤ d.size → d.size ≤ 1000000 → m_slices_heapSortOrdered_uint32_l0 a0 b0 fu d.toList ((k : Int) - 1) = some (heapPop ltInt a (b - a) (heapBuild ltInt (b - a) a k d)).toList
  | 0, fu, d, hf, hk, hsz, hs => by
    obtain ⟨fu, rfl⟩ : ∃ k, fu = k + 1 := ⟨fu - 1, by omega⟩
    have e1 : IntKind.i64.wrap (b0 - a0) = ((b - a : Nat) : Int) := wN (by omega) (by omega)
    have e2 : IntKind.i64.wrap (((b - a : Nat) : Int) - 1) = ((b - a : Nat) : Int) - 1 := w64 (by omega) (by omega)
    unfold m_slices_heapSortOrdered_uint32_l0 heapBuild
    rw [decide_eq_false (by omega), cond_false, e1, e2]
    exact heap_pop ha (b - a) _ d (by omega) (by omega) hs
  | k + 1, fu, d, hf, hk, hsz, hs => by
    obtain ⟨fu, rfl⟩ : ∃ k, fu = k + 1 := ⟨fu - 1, by omega⟩
    have e0 : (((k + 1 : Nat) : Int) - 1) = (k : Int) := by omega
    have e1 : IntKind.i64.wrap (b0 - a0) = ((b - a : Nat) : Int) := wN (by omega) (by omega)
    have e2 : IntKind.i64.wrap ((k : Int) - 1) = (k : Int) - 1 := w64 (by omega) (by omega)
    unfold m_slices_heapSortOrdered_uint32_l0 heapBuild
    rw [e0, decide_eq_true (by omega), cond_true, e1, sift_ok (root := k) rfl rfl ha (by omega) hs (by omega), obind_some, e2]
    exact heap_build ha hb hab k fu _ (by omega) (by omega) (by rw [sift_size _ _ _ _ _ (Nat.le_refl _)]; exact hsz) (by rw [sift_size _ _ _ _ _ (Nat.le_refl _)]; exact hs)
theorem heap_ok {a0 b0 : Int} {a b : Nat} (ha : a0 = a) (hb : b0 = b) (hab : a < b) {d : AI} (hbd : b ≤ d.size) (hs : d.size ≤ 1000000) : m_slices_heapSortOrdered_uint32 d.toList a0 b0 = some (heapSort ltInt d a b).toList := by
  unfold m_slices_heapSortOrdered_uint32 heapSort
  have e1 : IntKind.i64.wrap (b0 - a0) = ((b - a : Nat) : Int) := wN (by omega) (by omega)
  have e2 : IntKind.i64.wrap (((b - a : Nat) : Int) - 1) = ((b - a - 1 : Nat) : Int) := wN (by omega) (by omega)
  have e3 : Int.tdiv ((b - a - 1 : Nat) : Int) 2 = (((b - a - 1) / 2 : Nat) : Int) := by rw [Int.tdiv_eq_ediv_of_nonneg (by omega)]; omega
  have e4 : IntKind.i64.wrap ((((b - a - 1) / 2 : Nat) : Int)) = (((b - a - 1) / 2 + 1 : Nat) : Int) - 1 := by rw [w64 (by omega) (by omega)]; omega
  rw [e1, e2, e3, e4]
  exact heap_build ha hb (by omega) _ _ d (by omega) (by omega) hbd hs
end Go.Proofs.Ytelhmhmgaaebpaa.K

namespace Go.Proofs.Ytelhmhmgaaebpaa.K
open Go.RowKit Go.Lib Go.Sort
theorem scanUp_loop {R : Type} {L : Nat → Int → Option R} {K : Int → Option R} {p : Int → Bool} {d : AI} {j : Nat}
    (hstep : ∀ fu i : Nat, i ≤ j → L (fu + 1) (i : Int) = if p d[i]! then L fu ((i + 1 : Nat) : Int) else K (i : Int))
    (hend : ∀ fu i : Nat, j < i → L (fu + 1) (i : Int) = K (i : Int)) : ∀ n i fu : Nat, j + 1 - i = n → n < fu → L fu (i : Int) = K ((scanUp p d j i : Nat) : Int)
  | 0, i, fu, hn, hf => by
    obtain ⟨fu, rfl⟩ : ∃ k, fu = k + 1 := ⟨fu - 1, by omega⟩
    unfold scanUp
    rw [hend fu i (by omega), decide_eq_false (by omega)]; rfl
  | n + 1, i, fu, hn, hf => by
    obtain ⟨fu, rfl⟩ : ∃ k, fu = k + 1 := ⟨fu - 1, by omega⟩
    unfold scanUp
    rw [hstep fu i (by omega), decide_eq_true (show i ≤ j by omega), Bool.true_and]
    cases hp : p d[i]! with
    | true => rw [if_pos rfl, if_pos rfl]; exact scanUp_loop hstep hend n (i + 1) fu (by omega) (by omega)
    | false => rw [if_neg (by simp), if_neg (by simp)]
theorem scanDown_loop {R : Type} {L : Nat → Int → Option R} {K : Int → Option R} {p : Int → Bool} {d : AI} {i N : Nat} (hi : 1 ≤ i)
    (hstep : ∀ fu j : Nat, i ≤ j → j ≤ N → L (fu + 1) (j : Int) = if p d[j]! then L fu (((j - 1 : Nat)) : Int) else K (j : Int))
    (hend : ∀ fu j : Nat, j < i → L (fu + 1) (j : Int) = K (j : Int)) : ∀ j fu : Nat, j ≤ N → j < fu → L fu (j : Int) = K ((scanDown p d i j : Nat) : Int)
  | 0, fu, hN, hf => by
    obtain ⟨fu, rfl⟩ : ∃ k, fu = k + 1 := ⟨fu - 1, by omega⟩
    unfold scanDown
    rw [hend fu 0 (by omega)]
  | j + 1, fu, hN, hf => by
    obtain ⟨fu, rfl⟩ : ∃ k, fu = k + 1 := ⟨fu - 1, by omega⟩
    unfold scanDown
    by_cases h : i ≤ j + 1
    · rw [hstep fu (j + 1) h hN, decide_eq_true h, Bool.true_and]
      cases hp : p d[j + 1]! with
      | true => rw [if_pos rfl, if_pos rfl, Nat.add_sub_cancel]; exact scanDown_loop hi hstep hend j fu (by omega) (by omega)
      | false => rw [if_neg (by simp), if_neg (by simp)]
    · rw [hend fu (j + 1) (by omega), decide_eq_false h, Bool.false_and, if_neg (by simp)]
theorem up_ge (p : Int → Bool) (d : AI) (j : Nat) : ∀ n i : Nat, j + 1 - i = n → i ≤ scanUp p d j i ∧ scanUp p d j i ≤ max i (j + 1)
  | 0, i, hn => by unfold scanUp; rw [decide_eq_false (by omega), Bool.false_and, if_neg (by simp)]; omega
  | n + 1, i, hn => by
    have := up_ge p d j n (i + 1) (by omega)
    unfold scanUp
    split <;> omega
theorem dn_le (p : Int → Bool) (d : AI) (i : Nat) : ∀ j : Nat, scanDown p d i j ≤ j ∧ (i ≤ j + 1 → i ≤ scanDown p d i j + 1)
  | 0 => by unfold scanDown; omega
  | j + 1 => by
    have := dn_le p d i j
    unfold scanDown
    split
    · rename_i h
      simp only [Bool.and_eq_true, decide_eq_true_eq] at h
      omega
    · omega
/-! ### reverseRange -/
theorem rev_l0 : ∀ (n i j fu : Nat) (d : AI), j - i ≤ n → n < fu → j < d.size → d.size ≤ 1000000 → i ≤ 1000000 → m_slices_reverseRangeOrdered_uint32_l0 fu d.toList (i : Int) (j : Int) = some (reverseLoop i j d).toList
  | n, i, j, fu, d, hn, hf, hj, hs, hi => by
    obtain ⟨fu, rfl⟩ : ∃ k, fu = k + 1 := ⟨fu - 1, by omega⟩
    unfold m_slices_reverseRangeOrdered_uint32_l0 reverseLoop
    by_cases h : i < j
    · obtain ⟨n, rfl⟩ : ∃ k, n = k + 1 := ⟨n - 1, by omega⟩
      obtain ⟨u, hu⟩ := gS (d := d) (x := d[j]!) (I := (j : Int)) (i := j) (j := i) rfl hj
      rw [d_lt (by omega), cond_true, if_pos h, gA rfl hj, obind_some, gA rfl (by omega), obind_some, obind_some, tN rfl, hu, obind_some, tN rfl, sS, wN (i := i + 1) (by omega) (by omega), wN (i := j - 1) (by omega) (by omega)]
      exact rev_l0 n (i + 1) (j - 1) fu _ (by omega) (by omega) (by rw [swp_size]; omega) (by rw [swp_size]; exact hs) (by omega)
    · rw [d_nlt (by omega), cond_false, if_neg h]
termination_by n => n
theorem rev_ok {a0 b0 : Int} {a b : Nat} (ha : a0 = a) (hb : b0 = b) (hab : a < b) {d : AI} (hbd : b ≤ d.size) (hs : d.size ≤ 1000000) : m_slices_reverseRangeOrdered_uint32 d.toList a0 b0 = some (reverseRange d a b).toList := by
  unfold m_slices_reverseRangeOrdered_uint32 reverseRange
  rw [wN (i := b - 1) (by omega) (by omega), ha]
  exact rev_l0 _ a (b - 1) _ d (Nat.le_refl _) (by omega) (by omega) hs (by omega)
/-! ### partition -/
theorem part_l9 {a0 : Int} {a : Nat} (ha : a0 = a) : ∀ (n i j fu : Nat) (d : AI), j + 1 - i ≤ n → n < fu → a < i → i ≤ j + 2 → a ≤ j → j < d.size → d.size ≤ 1000000 →
    m_slices_partitionOrdered_uint32_l9 a0 fu d.toList (i : Int) (j : Int) = some (((partLoop ltInt a i j d).1 : Int), false, (Go.Sort.swp (partLoop ltInt a i j d).2 (partLoop ltInt a i j d).1 a).toList) := by
  intro n
  induction n with
  | zero =>
    intro i j fu d hn hf h1 h2 h3 h4 hs
    exact part_step ha h1 h2 h3 h4 hs fu hf fun i2 j2 h5 h6 h7 => by omega
  | succ n ih =>
    intro i j fu d hn hf h1 h2 h3 h4 hs
    exact part_step ha h1 h2 h3 h4 hs fu hf fun i2 j2 h5 h6 h7 => ih (i2 + 1) (j2 - 1) (fu - 1) _ (by omega) (by omega) (by omega) (by omega) (by omega) (by rw [swp_size]; omega) (by rw [swp_size]; exact hs)
where
  part_step {a0 : Int} {a : Nat} (ha : a0 = a) {n i j : Nat} {d : AI} (h1 : a < i) (h2 : i ≤ j + 2) (h3 : a ≤ j) (h4 : j < d.size) (hs : d.size ≤ 1000000) (fu : Nat) (hf : n < fu)
      (ih : ∀ i2 j2 : Nat, i ≤ i2 → i2 ≤ j2 → j2 ≤ j → m_slices_partitionOrdered_uint32_l9 a0 (fu - 1) (Go.Sort.swp d i2 j2).toList ((i2 + 1 : Nat) : Int) ((j2 - 1 : Nat) : Int) = some (((partLoop ltInt a (i2 + 1) (j2 - 1) (Go.Sort.swp d i2 j2)).1 : Int), false, (Go.Sort.swp (partLoop ltInt a (i2 + 1) (j2 - 1) (Go.Sort.swp d i2 j2)).2 (partLoop ltInt a (i2 + 1) (j2 - 1) (Go.Sort.swp d i2 j2)).1 a).toList)) :
      m_slices_partitionOrdered_uint32_l9 a0 fu d.toList (i : Int) (j : Int) = some (((partLoop ltInt a i j d).1 : Int), false, (Go.Sort.swp (partLoop ltInt a i j d).2 (partLoop ltInt a i j d).1 a).toList) := by
    obtain ⟨fu, rfl⟩ : ∃ k, fu = k + 1 := ⟨fu - 1, by omega⟩
    rw [Nat.add_sub_cancel] at ih
    have hu := up_ge (fun x => ltInt x d[a]!) d j _ i rfl
    unfold m_slices_partitionOrdered_uint32_l9
    rw [scanUp_loop (L := fun f (x : Int) => m_slices_partitionOrdered_uint32_l10 a0 d.toList (j : Int) (fun y0_9 y10_9 y11_9 => m_slices_partitionOrdered_uint32_l9 a0 fu y0_9 y10_9 y11_9) f x) (K := fun x => m_slices_partitionOrdered_uint32_j12 a0 d.toList (j : Int) (fun y0_9 y10_9 y11_9 => m_slices_partitionOrdered_uint32_l9 a0 fu y0_9 y10_9 y11_9) x) (p := fun x => ltInt x d[a]!) (d := d) (j := j)
      (fun f x hx => by
        show m_slices_partitionOrdered_uint32_l10 _ _ _ _ (f + 1) _ = _
        conv => lhs; unfold m_slices_partitionOrdered_uint32_l10
        rw [decide_eq_true (by omega), cond_true, gA rfl (by omega), obind_some, gA ha (by omega), obind_some, less_ok, obind_some, wN (i := x + 1) (by omega) (by omega)]
        cases ltInt d[x]! d[a]! <;> rfl)
      (fun f x hx => by
        show m_slices_partitionOrdered_uint32_l10 _ _ _ _ (f + 1) _ = _
        unfold m_slices_partitionOrdered_uint32_l10
        rw [decide_eq_false (by omega), cond_false]) _ i 1152921504606846976 rfl (by omega)]
    generalize hi2 : scanUp (fun x => ltInt x d[a]!) d j i = i2 at hu
    have hd := dn_le (fun x => !ltInt x d[a]!) d i2 j
    unfold m_slices_partitionOrdered_uint32_j12
    rw [scanDown_loop (L := fun f (x : Int) => m_slices_partitionOrdered_uint32_l13 a0 d.toList (i2 : Int) (fun y0_9 y10_9 y11_9 => m_slices_partitionOrdered_uint32_l9 a0 fu y0_9 y10_9 y11_9) f x) (K := fun x => m_slices_partitionOrdered_uint32_j15 a0 d.toList (i2 : Int) (fun y0_9 y10_9 y11_9 => m_slices_partitionOrdered_uint32_l9 a0 fu y0_9 y10_9 y11_9) x) (p := fun x => !ltInt x d[a]!) (d := d) (i := i2) (N := j) (by omega)
      (fun f x hx hxj => by
        show m_slices_partitionOrdered_uint32_l13 _ _ _ _ (f + 1) _ = _
        conv => lhs; unfold m_slices_partitionOrdered_uint32_l13
        rw [decide_eq_true (by omega), cond_true, gA rfl (by omega), obind_some, gA ha (by omega), obind_some, less_ok, obind_some, wN (i := x - 1) (by omega) (by omega)]
        cases ltInt d[x]! d[a]! <;> rfl)
      (fun f x hx => by
        show m_slices_partitionOrdered_uint32_l13 _ _ _ _ (f + 1) _ = _
        unfold m_slices_partitionOrdered_uint32_l13
        rw [decide_eq_false (by omega), cond_false]) j 1152921504606846976 (Nat.le_refl _) (by omega)]
    generalize hj2 : scanDown (fun x => !ltInt x d[a]!) d i2 j = j2 at hd
    have hp : partLoop ltInt a i j d = if i2 > j2 then (j2, d) else partLoop ltInt a (i2 + 1) (j2 - 1) (Go.Sort.swp d i2 j2) := by
      rw [partLoop.eq_1]
      simp only [hi2, hj2]
      split
      · rfl
      · rw [dif_pos (by omega)]
    unfold m_slices_partitionOrdered_uint32_j15
    by_cases hc : j2 < i2
    · obtain ⟨u, hu2⟩ := gS (d := d) (x := d[a]!) (I := a0) (i := a) (j := j2) ha (by omega)
      rw [hp, if_pos hc, d_lt (by omega), cond_true, gA ha (by omega), obind_some, gA rfl (by omega), obind_some, obind_some, tN rfl, hu2, obind_some, tN ha, sS]
    · obtain ⟨u, hu2⟩ := gS (d := d) (x := d[j2]!) (I := (j2 : Int)) (i := j2) (j := i2) rfl (by omega)
      rw [hp, if_neg (by omega), d_nlt (by omega), cond_false, gA rfl (by omega), obind_some, gA rfl (by omega), obind_some, obind_some, tN rfl, hu2, obind_some, tN rfl, sS, wN (i := i2 + 1) (by omega) (by omega), wN (i := j2 - 1) (by omega) (by omega)]
      exact ih i2 j2 (by omega) (by omega) (by omega)
end Go.Proofs.Ytelhmhmgaaebpaa.K

namespace Go.Proofs.Ytelhmhmgaaebpaa.K
open Go.RowKit Go.Lib Go.Sort
theorem part_ok {a0 b0 p0 : Int} {a b pv : Nat} (ha : a0 = a) (hb : b0 = b) (hp : p0 = pv) (hap : a ≤ pv) (hpb : pv < b) {d : AI} (hbd : b ≤ d.size) (hs : d.size ≤ 1000000) :
    m_slices_partitionOrdered_uint32 d.toList a0 b0 p0 = some (((partition ltInt d a b pv).1 : Int), (partition ltInt d a b pv).2.1, (partition ltInt d a b pv).2.2.toList) := by
  obtain ⟨u, hu⟩ := gS (d := d) (x := d[pv]!) (I := p0) (i := pv) (j := a) hp (by omega)
  unfold m_slices_partitionOrdered_uint32
  rw [gA hp (by omega), obind_some, gA ha (by omega), obind_some, obind_some, tN ha, hu, obind_some, wN (i := a + 1) (by omega) (by omega)]
  have hD : List.set (List.set d.toList (Int.toNat a0) d[pv]!) (Int.toNat p0) d[a]! = (Go.Sort.swp d a pv).toList := by rw [tN ha, tN hp, sS]
  have hDs : (Go.Sort.swp d a pv).size = d.size := swp_size _ _ _
  unfold partition
  simp only []
  generalize Go.Sort.swp d a pv = D at hD hDs ⊢
  have hup := up_ge (fun x => ltInt x D[a]!) D (b - 1) _ (a + 1) rfl
  rw [scanUp_loop (L := fun f (x : Int) => m_slices_partitionOrdered_uint32_l1 d.toList a0 b0 p0 d[pv]! d[a]! f x) (K := fun x => m_slices_partitionOrdered_uint32_j3 d.toList a0 b0 p0 d[pv]! d[a]! x) (p := fun x => ltInt x D[a]!) (d := D) (j := b - 1)
      (fun f x hx => by
        show m_slices_partitionOrdered_uint32_l1 _ _ _ _ _ _ (f + 1) _ = _
        conv => lhs; unfold m_slices_partitionOrdered_uint32_l1
        rw [hD, wN (n := b0 - 1) (i := b - 1) (by omega) (by omega), decide_eq_true (by omega), cond_true, gA rfl (by omega), obind_some, gA ha (by omega), obind_some, less_ok, obind_some, wN (i := x + 1) (by omega) (by omega)]
        cases ltInt D[x]! D[a]! <;> rfl)
      (fun f x hx => by
        show m_slices_partitionOrdered_uint32_l1 _ _ _ _ _ _ (f + 1) _ = _
        conv => lhs; unfold m_slices_partitionOrdered_uint32_l1
        rw [wN (n := b0 - 1) (i := b - 1) (by omega) (by omega), decide_eq_false (by omega), cond_false]) _ (a + 1) 1152921504606846976 rfl (by omega)]
  generalize scanUp (fun x => ltInt x D[a]!) D (b - 1) (a + 1) = i at hup ⊢
  have hdn := dn_le (fun x => !ltInt x D[a]!) D i (b - 1)
  unfold m_slices_partitionOrdered_uint32_j3
  rw [wN (n := b0 - 1) (i := b - 1) (by omega) (by omega), scanDown_loop (L := fun f (x : Int) => m_slices_partitionOrdered_uint32_l4 d.toList a0 p0 d[pv]! d[a]! (i : Int) f x) (K := fun x => m_slices_partitionOrdered_uint32_j6 d.toList a0 p0 d[pv]! d[a]! (i : Int) x) (p := fun x => !ltInt x D[a]!) (d := D) (i := i) (N := b - 1) (by omega)
      (fun f x hx hxj => by
        show m_slices_partitionOrdered_uint32_l4 _ _ _ _ _ _ (f + 1) _ = _
        conv => lhs; unfold m_slices_partitionOrdered_uint32_l4
        rw [hD, decide_eq_true (by omega), cond_true, gA rfl (by omega), obind_some, gA ha (by omega), obind_some, less_ok, obind_some, wN (i := x - 1) (by omega) (by omega)]
        cases ltInt D[x]! D[a]! <;> rfl)
      (fun f x hx => by
        show m_slices_partitionOrdered_uint32_l4 _ _ _ _ _ _ (f + 1) _ = _
        conv => lhs; unfold m_slices_partitionOrdered_uint32_l4
        rw [decide_eq_false (by omega), cond_false]) (b - 1) 1152921504606846976 (Nat.le_refl _) (by omega)]
  generalize scanDown (fun x => !ltInt x D[a]!) D i (b - 1) = j at hdn ⊢
  unfold m_slices_partitionOrdered_uint32_j6
  rw [hD]
  by_cases hc : j < i
  · obtain ⟨u, hu2⟩ := gS (d := D) (x := D[a]!) (I := a0) (i := a) (j := j) ha (by omega)
    rw [if_pos hc, d_lt (by omega), cond_true, gA ha (by omega), obind_some, gA rfl (by omega), obind_some, obind_some, tN rfl, hu2, obind_some, tN ha, sS]
  · obtain ⟨u, hu2⟩ := gS (d := D) (x := D[j]!) (I := (j : Int)) (i := j) (j := i) rfl (by omega)
    rw [if_neg (by omega), d_nlt (by omega), cond_false, gA rfl (by omega), obind_some, gA rfl (by omega), obind_some, obind_some, tN rfl, hu2, obind_some, tN rfl, sS, wN (i := i + 1) (by omega) (by omega), wN (i := j - 1) (by omega) (by omega)]
    exact part_l9 ha _ (i + 1) (j - 1) _ _ (Nat.le_refl _) (by omega) (by omega) (by omega) (by omega) (by rw [swp_size]; omega) (by rw [swp_size]; omega)
/-! ### partitionEqual -/
theorem pe_step {a0 : Int} {a : Nat} (ha : a0 = a) {n i j : Nat} {d : AI} (h1 : a < i) (h2 : i ≤ j + 2) (h3 : a ≤ j) (h4 : j < d.size) (hs : d.size ≤ 1000000) (fu : Nat) (hf : n < fu)
      (ih : ∀ i2 j2 : Nat, i ≤ i2 → i2 ≤ j2 → j2 ≤ j → m_slices_partitionEqualOrdered_uint32_l1 a0 (fu - 1) (Go.Sort.swp d i2 j2).toList ((i2 + 1 : Nat) : Int) ((j2 - 1 : Nat) : Int) = some (((partEqLoop ltInt a (i2 + 1) (j2 - 1) (Go.Sort.swp d i2 j2)).1 : Int), (partEqLoop ltInt a (i2 + 1) (j2 - 1) (Go.Sort.swp d i2 j2)).2.toList)) :
      m_slices_partitionEqualOrdered_uint32_l1 a0 fu d.toList (i : Int) (j : Int) = some (((partEqLoop ltInt a i j d).1 : Int), (partEqLoop ltInt a i j d).2.toList) := by
    obtain ⟨fu, rfl⟩ : ∃ k, fu = k + 1 := ⟨fu - 1, by omega⟩
    rw [Nat.add_sub_cancel] at ih
    have hu := up_ge (fun x => !ltInt d[a]! x) d j _ i rfl
    unfold m_slices_partitionEqualOrdered_uint32_l1
    rw [scanUp_loop (L := fun f (x : Int) => m_slices_partitionEqualOrdered_uint32_l2 a0 d.toList (j : Int) (fun y0_9 y10_9 y11_9 => m_slices_partitionEqualOrdered_uint32_l1 a0 fu y0_9 y10_9 y11_9) f x) (K := fun x => m_slices_partitionEqualOrdered_uint32_j4 a0 d.toList (j : Int) (fun y0_9 y10_9 y11_9 => m_slices_partitionEqualOrdered_uint32_l1 a0 fu y0_9 y10_9 y11_9) x) (p := fun x => !ltInt d[a]! x) (d := d) (j := j)
      (fun f x hx => by
        show m_slices_partitionEqualOrdered_uint32_l2 _ _ _ _ (f + 1) _ = _
        conv => lhs; unfold m_slices_partitionEqualOrdered_uint32_l2
        rw [decide_eq_true (by omega), cond_true, gA ha (by omega), obind_some, gA rfl (by omega), obind_some, less_ok, obind_some, wN (i := x + 1) (by omega) (by omega)]
        cases ltInt d[a]! d[x]! <;> rfl)
      (fun f x hx => by
        show m_slices_partitionEqualOrdered_uint32_l2 _ _ _ _ (f + 1) _ = _
        conv => lhs; unfold m_slices_partitionEqualOrdered_uint32_l2
        rw [decide_eq_false (by omega), cond_false]) _ i 1152921504606846976 rfl (by omega)]
    generalize hi2 : scanUp (fun x => !ltInt d[a]! x) d j i = i2 at hu
    have hd := dn_le (fun x => ltInt d[a]! x) d i2 j
    unfold m_slices_partitionEqualOrdered_uint32_j4
    rw [scanDown_loop (L := fun f (x : Int) => m_slices_partitionEqualOrdered_uint32_l5 a0 d.toList (i2 : Int) (fun y0_9 y10_9 y11_9 => m_slices_partitionEqualOrdered_uint32_l1 a0 fu y0_9 y10_9 y11_9) f x) (K := fun x => m_slices_partitionEqualOrdered_uint32_j7 d.toList (i2 : Int) (fun y0_9 y10_9 y11_9 => m_slices_partitionEqualOrdered_uint32_l1 a0 fu y0_9 y10_9 y11_9) x) (p := fun x => ltInt d[a]! x) (d := d) (i := i2) (N := j) (by omega)
      (fun f x hx hxj => by
        show m_slices_partitionEqualOrdered_uint32_l5 _ _ _ _ (f + 1) _ = _
        conv => lhs; unfold m_slices_partitionEqualOrdered_uint32_l5
        rw [decide_eq_true (by omega), cond_true, gA ha (by omega), obind_some, gA rfl (by omega), obind_some, less_ok, obind_some, wN (i := x - 1) (by omega) (by omega)]
        cases ltInt d[a]! d[x]! <;> rfl)
      (fun f x hx => by
        show m_slices_partitionEqualOrdered_uint32_l5 _ _ _ _ (f + 1) _ = _
        conv => lhs; unfold m_slices_partitionEqualOrdered_uint32_l5
        rw [decide_eq_false (by omega), cond_false]) j 1152921504606846976 (Nat.le_refl _) (by omega)]
    generalize hj2 : scanDown (fun x => ltInt d[a]! x) d i2 j = j2 at hd
    have hp : partEqLoop ltInt a i j d = if i2 > j2 then (i2, d) else partEqLoop ltInt a (i2 + 1) (j2 - 1) (Go.Sort.swp d i2 j2) := by
      rw [partEqLoop.eq_1]
      simp only [hi2, hj2]
      split
      · rfl
      · rw [dif_pos (by omega)]
    unfold m_slices_partitionEqualOrdered_uint32_j7
    by_cases hc : j2 < i2
    · rw [hp, if_pos hc, d_lt (by omega), cond_true]
    · obtain ⟨u, hu2⟩ := gS (d := d) (x := d[j2]!) (I := (j2 : Int)) (i := j2) (j := i2) rfl (by omega)
      rw [hp, if_neg (by omega), d_nlt (by omega), cond_false, gA rfl (by omega), obind_some, gA rfl (by omega), obind_some, obind_some, tN rfl, hu2, obind_some, tN rfl, sS, wN (i := i2 + 1) (by omega) (by omega), wN (i := j2 - 1) (by omega) (by omega)]
      exact ih i2 j2 (by omega) (by omega) (by omega)
theorem pe_l1 {a0 : Int} {a : Nat} (ha : a0 = a) : ∀ (n i j fu : Nat) (d : AI), j + 1 - i ≤ n → n < fu → a < i → i ≤ j + 2 → a ≤ j → j < d.size → d.size ≤ 1000000 →
    m_slices_partitionEqualOrdered_uint32_l1 a0 fu d.toList (i : Int) (j : Int) = some (((partEqLoop ltInt a i j d).1 : Int), (partEqLoop ltInt a i j d).2.toList) := by
  intro n
  induction n with
  | zero =>
    intro i j fu d hn hf h1 h2 h3 h4 hs
    exact pe_step ha h1 h2 h3 h4 hs fu hf fun i2 j2 h5 h6 h7 => by omega
  | succ n ih =>
    intro i j fu d hn hf h1 h2 h3 h4 hs
    exact pe_step ha h1 h2 h3 h4 hs fu hf fun i2 j2 h5 h6 h7 => ih (i2 + 1) (j2 - 1) (fu - 1) _ (by omega) (by omega) (by omega) (by omega) (by omega) (by rw [swp_size]; omega) (by rw [swp_size]; exact hs)
theorem pe_ok {a0 b0 p0 : Int} {a b pv : Nat} (ha : a0 = a) (hb : b0 = b) (hp : p0 = pv) (hap : a ≤ pv) (hpb : pv < b) {d : AI} (hbd : b ≤ d.size) (hs : d.size ≤ 1000000) :
    m_slices_partitionEqualOrdered_uint32 d.toList a0 b0 p0 = some (((partitionEqual ltInt d a b pv).1 : Int), (partitionEqual ltInt d a b pv).2.toList) := by
  obtain ⟨u, hu⟩ := gS (d := d) (x := d[pv]!) (I := p0) (i := pv) (j := a) hp (by omega)
  unfold m_slices_partitionEqualOrdered_uint32 partitionEqual
  rw [gA hp (by omega), obind_some, gA ha (by omega), obind_some, obind_some, tN ha, hu, obind_some, tN hp, sS, wN (i := a + 1) (by omega) (by omega), wN (i := b - 1) (by omega) (by omega)]
  exact pe_l1 ha _ (a + 1) (b - 1) _ _ (Nat.le_refl _) (by omega) (by omega) (by omega) (by omega) (by rw [swp_size]; omega) (by rw [swp_size]; exact hs)
end Go.Proofs.Ytelhmhmgaaebpaa.K

namespace Go.Proofs.Ytelhmhmgaaebpaa.K
open Go.RowKit Go.Lib Go.Sort
theorem ss_range (d : AI) (b : Nat) : ∀ n i : Nat, b - i = n → i ≤ scanSorted ltInt d b i ∧ scanSorted ltInt d b i ≤ max i b
  | 0, i, hn => by unfold scanSorted; rw [decide_eq_false (by omega), Bool.false_and, if_neg (by simp)]; omega
  | n + 1, i, hn => by
    have := ss_range d b n (i + 1) (by omega)
    unfold scanSorted
    split <;> omega
theorem sd_size : ∀ (j : Nat) (d : AI), (shiftDown ltInt j d).size = d.size
  | 0, d => rfl
  | j + 1, d => by
    unfold shiftDown
    split
    · rfl
    · rw [sd_size j, swp_size]
theorem su_size (b : Nat) : ∀ (n j : Nat) (d : AI), b - j = n → (shiftUp ltInt b j d).size = d.size
  | 0, j, d, hn => by unfold shiftUp; rw [if_neg (by omega)]
  | n + 1, j, d, hn => by
    unfold shiftUp
    rw [if_pos (by omega)]
    split
    · rfl
    · rw [su_size b n _ _ (by omega), swp_size]
abbrev KI := List Int → Int → Int → Option (Bool × List Int)
theorem ps_l9 {b0 i0 s0 : Int} {b : Nat} (hb : b0 = b) (k : KI) : ∀ (n j fu : Nat) (d : AI), b - j = n → n < fu → 1 ≤ j → b ≤ d.size → d.size ≤ 1000000 → j ≤ 1000000 →
    m_slices_partialInsertionSortOrdered_uint32_l9 b0 i0 s0 k fu d.toList (j : Int) = k (shiftUp ltInt b j d).toList i0 (IntKind.i64.wrap (s0 + 1))
  | n, j, fu, d, hn, hf, hj, hbd, hs, hjs => by
    obtain ⟨fu, rfl⟩ : ∃ k, fu = k + 1 := ⟨fu - 1, by omega⟩
    unfold m_slices_partialInsertionSortOrdered_uint32_l9 shiftUp
    by_cases h : j < b
    · obtain ⟨n, rfl⟩ : ∃ k, n = k + 1 := ⟨n - 1, by omega⟩
      rw [d_lt (by omega), cond_true, if_pos h, wN (n := (j : Int) - 1) (i := j - 1) (by omega) (by omega), gA rfl (by omega), obind_some, gA rfl (by omega), obind_some, less_ok, obind_some]
      cases hl : ltInt d[j]! d[j - 1]! with
      | false => rw [Bool.not_false, cond_true, if_pos rfl]
      | true =>
        obtain ⟨u, hu⟩ := gS (d := d) (x := d[j - 1]!) (I := ((j - 1 : Nat) : Int)) (i := j - 1) (j := j) rfl (by omega)
        rw [Bool.not_true, cond_false, obind_some, obind_some, obind_some, tN rfl, hu, obind_some, tN rfl, sS, if_neg (by simp), wN (i := j + 1) (by omega) (by omega)]
        exact ps_l9 hb k n (j + 1) fu _ (by omega) (by omega) (by omega) (by rw [swp_size]; exact hbd) (by rw [swp_size]; exact hs) (by omega)
    · rw [d_nlt (by omega), cond_false, if_neg h]
termination_by n => n
theorem ps_j8 {b0 i0 s0 : Int} {b i : Nat} (hb : b0 = b) (hi : i0 = i) (k : KI) {d : AI} (hib : i ≤ b) (hbd : b ≤ d.size) (hs : d.size ≤ 1000000) :
    m_slices_partialInsertionSortOrdered_uint32_j8 b0 i0 s0 k d.toList = k (if b - i ≥ 2 then shiftUp ltInt b (i + 1) d else d).toList i0 (IntKind.i64.wrap (s0 + 1)) := by
  unfold m_slices_partialInsertionSortOrdered_uint32_j8
  rw [wN (i := b - i) (by omega) (by omega)]
  by_cases h : b - i ≥ 2
  · rw [decide_eq_true (by omega), cond_true, if_pos h, wN (i := i + 1) (by omega) (by omega)]
    exact ps_l9 hb k _ (i + 1) _ d rfl (by omega) (by omega) hbd hs (by omega)
  · rw [decide_eq_false (by omega), cond_false, if_neg h]
theorem ps_l5 {b0 i0 s0 : Int} {b i : Nat} (hb : b0 = b) (hi : i0 = i) (k : KI) (hib : i ≤ b) : ∀ (j fu : Nat) (d : AI), j < fu → j < d.size → b ≤ d.size → d.size ≤ 1000000 →
    m_slices_partialInsertionSortOrdered_uint32_l5 b0 i0 s0 k fu d.toList (j : Int) = k (if b - i ≥ 2 then shiftUp ltInt b (i + 1) (shiftDown ltInt j d) else shiftDown ltInt j d).toList i0 (IntKind.i64.wrap (s0 + 1))
  | 0, fu, d, hf, hj, hbd, hs => by
    obtain ⟨fu, rfl⟩ : ∃ k, fu = k + 1 := ⟨fu - 1, by omega⟩
    unfold m_slices_partialInsertionSortOrdered_uint32_l5 shiftDown
    rw [decide_eq_false (by omega), cond_false, ps_j8 hb hi k hib hbd hs]
  | j + 1, fu, d, hf, hj, hbd, hs => by
    obtain ⟨fu, rfl⟩ : ∃ k, fu = k + 1 := ⟨fu - 1, by omega⟩
    unfold m_slices_partialInsertionSortOrdered_uint32_l5 shiftDown
    rw [decide_eq_true (by omega), cond_true, wN (n := ((j + 1 : Nat) : Int) - 1) (i := j) (by omega) (by omega), gA rfl (by omega), obind_some, gA rfl (by omega), obind_some, less_ok, obind_some]
    cases hl : ltInt d[j + 1]! d[j]! with
    | false => rw [Bool.not_false, cond_true, if_pos rfl, ps_j8 hb hi k hib hbd hs]
    | true =>
      obtain ⟨u, hu⟩ := gS (d := d) (x := d[j]!) (I := (j : Int)) (i := j) (j := j + 1) rfl (by omega)
      have hnt : ¬ (!true) = true := by simp
      rw [if_neg hnt, Bool.not_true, cond_false, obind_some, obind_some, obind_some, tN rfl, hu, obind_some, tN rfl, sS]
      exact ps_l5 hb hi k hib j fu _ (by omega) (by rw [swp_size]; omega) (by rw [swp_size]; exact hbd) (by rw [swp_size]; exact hs)
theorem ps_l0 {a0 b0 : Int} {a b : Nat} (ha : a0 = a) (hb : b0 = b) : ∀ (s i fu : Nat) (d : AI), s ≤ 5 → s < fu → a + 1 ≤ i → i ≤ b → b ≤ d.size → d.size ≤ 1000000 →
    m_slices_partialInsertionSortOrdered_uint32_l0 a0 b0 fu d.toList (i : Int) (5 - (s : Int)) = some ((partialIns ltInt a b s i d).2, (partialIns ltInt a b s i d).1.toList)
  | 0, i, fu, d, h5, hf, h1, h2, h3, hs => by
    obtain ⟨fu, rfl⟩ : ∃ k, fu = k + 1 := ⟨fu - 1, by omega⟩
    unfold m_slices_partialInsertionSortOrdered_uint32_l0 partialIns
    rw [decide_eq_false (by omega), cond_false]
  | s + 1, i, fu, d, h5, hf, h1, h2, h3, hs => by
    obtain ⟨fu, rfl⟩ : ∃ k, fu = k + 1 := ⟨fu - 1, by omega⟩
    have hr := ss_range d b _ i rfl
    unfold m_slices_partialInsertionSortOrdered_uint32_l0 partialIns
    rw [decide_eq_true (by omega), cond_true]
    have scan : ∀ n x f : Nat, b - x = n → n < f → 1 ≤ x → x ≤ b → m_slices_partialInsertionSortOrdered_uint32_l1 a0 b0 d.toList (5 - ((s + 1 : Nat) : Int)) (fun y0_0 y7_0 y8_0 => m_slices_partialInsertionSortOrdered_uint32_l0 a0 b0 fu y0_0 y7_0 y8_0) f (x : Int) = m_slices_partialInsertionSortOrdered_uint32_j3 a0 b0 d.toList (5 - ((s + 1 : Nat) : Int)) (fun y0_0 y7_0 y8_0 => m_slices_partialInsertionSortOrdered_uint32_l0 a0 b0 fu y0_0 y7_0 y8_0) ((scanSorted ltInt d b x : Nat) : Int) := by
      intro n
      induction n with
      | zero =>
        intro x f hx hf h1 h2
        obtain ⟨f, rfl⟩ : ∃ k, f = k + 1 := ⟨f - 1, by omega⟩
        unfold m_slices_partialInsertionSortOrdered_uint32_l1 scanSorted
        rw [d_nlt (by omega), cond_false, decide_eq_false (by omega), Bool.false_and, if_neg (by simp)]
      | succ n ih =>
        intro x f hx hf h1 h2
        obtain ⟨f, rfl⟩ : ∃ k, f = k + 1 := ⟨f - 1, by omega⟩
        unfold m_slices_partialInsertionSortOrdered_uint32_l1 scanSorted
        rw [d_lt (by omega), cond_true, gA rfl (by omega), obind_some, wN (n := (x : Int) - 1) (i := x - 1) (by omega) (by omega), gA rfl (by omega), obind_some, less_ok, obind_some, decide_eq_true (show x < b by omega), Bool.true_and]
        cases hl : ltInt d[x]! d[x - 1]! with
        | false => rw [Bool.not_false, cond_true, if_pos rfl, wN (i := x + 1) (by omega) (by omega)]; exact ih (x + 1) f (by omega) (by omega) (by omega) (by omega)
        | true => rw [Bool.not_true, cond_false, if_neg (by simp)]
    rw [scan _ i 1152921504606846976 rfl (by omega) (by omega) h2]
    simp only []
    generalize scanSorted ltInt d b i = i' at hr ⊢
    unfold m_slices_partialInsertionSortOrdered_uint32_j3
    by_cases he : i' = b
    · rw [decide_eq_true (by omega), cond_true, if_pos he]
    · rw [decide_eq_false (by omega), cond_false, if_neg he, wN (n := b0 - a0) (i := b - a) (by omega) (by omega)]
      by_cases h50 : b - a < 50
      · rw [d_lt (by omega), cond_true, if_pos h50]
      · obtain ⟨u, hu⟩ := gS (d := d) (x := d[i' - 1]!) (I := ((i' - 1 : Nat) : Int)) (i := i' - 1) (j := i') rfl (by omega)
        have eS : IntKind.i64.wrap ((5 - ((s + 1 : Nat) : Int)) + 1) = 5 - (s : Int) := by rw [w64 (by omega) (by omega)]; omega
        rw [d_nlt (by omega), cond_false, if_neg h50, wN (n := (i' : Int) - 1) (i := i' - 1) (by omega) (by omega), gA rfl (by omega), obind_some, gA rfl (by omega), obind_some, obind_some, tN rfl, hu, obind_some, tN rfl, sS, wN (n := (i' : Int) - a0) (i := i' - a) (by omega) (by omega)]
        have z1 : (Go.Sort.swp d i' (i' - 1)).size = d.size := swp_size _ _ _
        generalize Go.Sort.swp d i' (i' - 1) = D at z1 ⊢
        by_cases h2a : i' - a ≥ 2
        · rw [decide_eq_true (by omega), cond_true, if_pos h2a, ps_l5 hb rfl _ (by omega) (i' - 1) _ D (by omega) (by omega) (by omega) (by omega), eS]
          have z2 : (if b - i' ≥ 2 then shiftUp ltInt b (i' + 1) (shiftDown ltInt (i' - 1) D) else shiftDown ltInt (i' - 1) D).size = d.size := by
            split
            · rw [su_size b _ _ _ rfl, sd_size, z1]
            · rw [sd_size, z1]
          exact ps_l0 ha hb s i' fu _ (by omega) (by omega) (by omega) (by omega) (by omega) (by omega)
        · rw [decide_eq_false (by omega), cond_false, if_neg h2a, ps_j8 hb rfl _ (by omega) (by omega) (by omega), eS]
          have z2 : (if b - i' ≥ 2 then shiftUp ltInt b (i' + 1) D else D).size = d.size := by
            split
            · rw [su_size b _ _ _ rfl, z1]
            · exact z1
          exact ps_l0 ha hb s i' fu _ (by omega) (by omega) (by omega) (by omega) (by omega) (by omega)
theorem ps_ok {a0 b0 : Int} {a b : Nat} (ha : a0 = a) (hb : b0 = b) (hab : a < b) {d : AI} (hbd : b ≤ d.size) (hs : d.size ≤ 1000000) : m_slices_partialInsertionSortOrdered_uint32 d.toList a0 b0 = some ((partialInsertionSort ltInt d a b).2, (partialInsertionSort ltInt d a b).1.toList) := by
  unfold m_slices_partialInsertionSortOrdered_uint32 partialInsertionSort
  rw [wN (i := a + 1) (by omega) (by omega)]
  exact ps_l0 ha hb 5 (a + 1) _ d (Nat.le_refl _) (by omega) (Nat.le_refl _) (by omega) hbd hs
/-! ### choosePivot: any place in the range -/
theorem ord_ok {d : AI} {i0 j0 c : Int} {i j : Nat} (hi0 : i0 = i) (hj0 : j0 = j) (hi : i < d.size) (hj : j < d.size) : ∃ (x y : Nat) (s : Int), m_slices_order2Ordered_uint32 d.toList i0 j0 c = some ((x : Int), (y : Int), s) ∧ ((x = i ∧ y = j) ∨ (x = j ∧ y = i)) := by
  unfold m_slices_order2Ordered_uint32
  rw [gA hj0 hj, obind_some, gA hi0 hi, obind_some, less_ok, obind_some]
  cases ltInt d[j]! d[i]! with
  | true => rw [cond_true, hi0, hj0]; exact ⟨j, i, _, rfl, .inr ⟨rfl, rfl⟩⟩
  | false => rw [cond_false, hi0, hj0]; exact ⟨i, j, _, rfl, .inl ⟨rfl, rfl⟩⟩
theorem med_ok {d : AI} {i0 j0 k0 c : Int} {i j k : Nat} (hi0 : i0 = i) (hj0 : j0 = j) (hk0 : k0 = k) (hi : i < d.size) (hj : j < d.size) (hk : k < d.size) : ∃ (x : Nat) (s : Int), m_slices_medianOrdered_uint32 d.toList i0 j0 k0 c = some ((x : Int), s) ∧ (x = i ∨ x = j ∨ x = k) := by
  unfold m_slices_medianOrdered_uint32
  obtain ⟨x1, y1, s1, e1, h1⟩ := ord_ok (c := c) hi0 hj0 hi hj
  rw [e1, obind_some]
  simp only []
  obtain ⟨x2, y2, s2, e2, h2⟩ := ord_ok (d := d) (c := s1) (i0 := (y1 : Int)) rfl hk0 (by omega) hk
  rw [e2, obind_some]
  simp only []
  obtain ⟨x3, y3, s3, e3, h3⟩ := ord_ok (d := d) (c := s2) (i0 := (x1 : Int)) (j0 := (x2 : Int)) rfl rfl (by omega) (by omega)
  rw [e3, obind_some]
  exact ⟨y3, s3, rfl, by omega⟩
theorem madj_ok {d : AI} {i0 c : Int} {i : Nat} (hi0 : i0 = i) (h1 : 1 ≤ i) (h2 : i + 1 < d.size) (hs : d.size ≤ 1000000) : ∃ (x : Nat) (s : Int), m_slices_medianAdjacentOrdered_uint32 d.toList i0 c = some ((x : Int), s) ∧ i - 1 ≤ x ∧ x ≤ i + 1 := by
  unfold m_slices_medianAdjacentOrdered_uint32
  obtain ⟨x, s, e, h⟩ := med_ok (c := c) (d := d) (i0 := IntKind.i64.wrap (i0 - 1)) (j0 := i0) (k0 := IntKind.i64.wrap (i0 + 1)) (i := i - 1) (j := i) (k := i + 1) (wN (by omega) (by omega)) hi0 (wN (by omega) (by omega)) (by omega) (by omega) h2
  rw [e, obind_some]
  exact ⟨x, s, rfl, by omega⟩
theorem cp_j7 (s : Int) (x : Nat) : ∃ h : Int, m_slices_choosePivotOrdered_uint32_j7 s (x : Int) = some ((x : Int), h) := by
  unfold m_slices_choosePivotOrdered_uint32_j7
  by_cases h0 : s = 0
  · rw [decide_eq_true h0, cond_true]; exact ⟨_, rfl⟩
  · rw [decide_eq_false h0, cond_false]
    by_cases h1 : s = 12
    · rw [decide_eq_true h1, cond_true]; exact ⟨_, rfl⟩
    · rw [decide_eq_false h1, cond_false]; exact ⟨_, rfl⟩
theorem cp_ok {a0 b0 : Int} {a b : Nat} (ha : a0 = a) (hb : b0 = b) (hab : a + 12 < b) {d : AI} (hbd : b ≤ d.size) (hs : d.size ≤ 1000000) : ∃ (x : Nat) (h : Int), m_slices_choosePivotOrdered_uint32 d.toList a0 b0 = some ((x : Int), h) ∧ a ≤ x ∧ x < b := by
  have e1 : IntKind.i64.wrap (b0 - a0) = ((b - a : Nat) : Int) := wN (by omega) (by omega)
  have e2 : IntKind.i64.wrap (Int.tdiv ((b - a : Nat) : Int) 4) = (((b - a) / 4 : Nat) : Int) := by
    rw [Int.tdiv_eq_ediv_of_nonneg (by omega)]
    exact wN (by omega) (by omega)
  have e3 : ∀ c : Nat, c ≤ 3 → IntKind.i64.wrap (a0 + IntKind.i64.wrap ((((b - a) / 4 : Nat) : Int) * (c : Int))) = ((a + (b - a) / 4 * c : Nat) : Int) := fun c hc => by
    have h3 : (b - a) / 4 * c ≤ (b - a) / 4 * 3 := Nat.mul_le_mul_left _ hc
    have e : (((b - a) / 4 : Nat) : Int) * (c : Int) = (((b - a) / 4 * c : Nat) : Int) := by rw [Int.natCast_mul]
    rw [e, wN (i := (b - a) / 4 * c) rfl (by omega)]
    exact wN (by omega) (by omega)
  have p1 : IntKind.i64.wrap (a0 + IntKind.i64.wrap ((((b - a) / 4 : Nat) : Int) * 1)) = ((a + (b - a) / 4 * 1 : Nat) : Int) := e3 1 (by omega)
  have p2 : IntKind.i64.wrap (a0 + IntKind.i64.wrap ((((b - a) / 4 : Nat) : Int) * 2)) = ((a + (b - a) / 4 * 2 : Nat) : Int) := e3 2 (by omega)
  have p3 : IntKind.i64.wrap (a0 + IntKind.i64.wrap ((((b - a) / 4 : Nat) : Int) * 3)) = ((a + (b - a) / 4 * 3 : Nat) : Int) := e3 3 (by omega)
  unfold m_slices_choosePivotOrdered_uint32
  rw [e1, e2]
  rw [p1, obind_some, p2, obind_some, p3, obind_some, decide_eq_true (by omega), cond_true]
  have j6 : ∀ (s : Int) (i j k : Nat), a ≤ i → i < b → a ≤ j → j < b → a ≤ k → k < b → ∃ (x : Nat) (h : Int), m_slices_choosePivotOrdered_uint32_j6 d.toList s (i : Int) (j : Int) (k : Int) = some ((x : Int), h) ∧ a ≤ x ∧ x < b := fun s i j k h1 h2 h3 h4 h5 h6 => by
    unfold m_slices_choosePivotOrdered_uint32_j6
    obtain ⟨x, s', e, h⟩ := med_ok (c := s) (d := d) (i0 := (i : Int)) (j0 := (j : Int)) (k0 := (k : Int)) rfl rfl rfl (by omega) (by omega) (by omega)
    obtain ⟨hh, e'⟩ := cp_j7 s' x
    rw [e, obind_some, e']
    exact ⟨x, hh, rfl, by omega⟩
  by_cases h50 : 50 ≤ b - a
  · rw [decide_eq_true (by omega), cond_true]
    obtain ⟨x1, s1, q1, r1⟩ := madj_ok (c := 0) (d := d) (i0 := ((a + (b - a) / 4 * 1 : Nat) : Int)) rfl (by omega) (by omega) hs
    rw [q1, obind_some]
    obtain ⟨x2, s2, q2, r2⟩ := madj_ok (c := s1) (d := d) (i0 := ((a + (b - a) / 4 * 2 : Nat) : Int)) rfl (by omega) (by omega) hs
    simp only []
    rw [q2, obind_some]
    obtain ⟨x3, s3, q3, r3⟩ := madj_ok (c := s2) (d := d) (i0 := ((a + (b - a) / 4 * 3 : Nat) : Int)) rfl (by omega) (by omega) hs
    simp only []
    rw [q3, obind_some]
    exact j6 s3 x1 x2 x3 (by omega) (by omega) (by omega) (by omega) (by omega) (by omega)
  · rw [decide_eq_false (by omega), cond_false]
    exact j6 0 _ _ _ (by omega) (by omega) (by omega) (by omega) (by omega) (by omega)
end Go.Proofs.Ytelhmhmgaaebpaa.K

namespace Go.Proofs.Ytelhmhmgaaebpaa.K
open Go.RowKit Go.Lib Go.Sort
def npchk (n : Nat) : Bool := match m_slices_nextPowerOfTwo (n : Int) with | some m => decide (1 ≤ m) && decide (m ≤ 2 * n) | none => false
theorem np_all : ∀ n : Fin 256, (decide (n.val < 8) || npchk n.val) = true := by decide +kernel
theorem np_ok {n : Nat} (h8 : 8 ≤ n) (h : n < 256) : ∃ m : Nat, m_slices_nextPowerOfTwo (n : Int) = some (m : Int) ∧ 1 ≤ m ∧ m ≤ 2 * n := by
  have := np_all ⟨n, h⟩
  simp only [decide_eq_false (show ¬ n < 8 by omega), Bool.false_or] at this
  unfold npchk at this
  cases hq : m_slices_nextPowerOfTwo (n : Int) with
  | none => rw [hq] at this; cases this
  | some m =>
    rw [hq] at this
    simp only [Bool.and_eq_true, decide_eq_true_eq] at this
    exact ⟨m.toNat, by rw [Int.toNat_of_nonneg (by omega)], by omega, by omega⟩
theorem and_ok (x : Int) {m : Nat} (h1 : 1 ≤ m) (h2 : m ≤ 1000) : ∃ t : Nat, IntKind.u64.wrap (((BitVec.ofInt 64 x &&& BitVec.ofInt 64 (IntKind.u64.wrap ((m : Int) - 1))).toNat : Int)) = (t : Int) ∧ t < m := by
  have e1 : IntKind.u64.wrap ((m : Int) - 1) = ((m - 1 : Nat) : Int) := by rw [wu64]; omega
  have h3 : (BitVec.ofInt 64 x &&& BitVec.ofInt 64 ((m - 1 : Nat) : Int)).toNat ≤ m - 1 := by
    rw [BitVec.toNat_and]
    refine Nat.le_trans Nat.and_le_right ?_
    rw [BitVec.ofInt_natCast, BitVec.toNat_ofNat]
    exact Nat.mod_le _ _
  rw [e1, wu64]
  exact ⟨(BitVec.ofInt 64 x &&& BitVec.ofInt 64 ((m - 1 : Nat) : Int)).toNat, by omega, by omega⟩
theorem xor_some (x : Int) : ∃ r, m_slices_xorshift_Next x = some r := ⟨_, rfl⟩
theorem bp_l3 {a0 b0 : Int} {a b m : Nat} (ha : a0 = a) (hb : b0 = b) (h8 : a + 8 ≤ b) (hm1 : 1 ≤ m) (hm2 : m ≤ 2 * (b - a)) : ∀ (n y fu : Nat) (d : AI) (x : Int), a + (b - a) / 4 * 2 + 2 - y = n → n < fu → a ≤ y → b ≤ d.size → d.size ≤ 255 →
    ∃ R : AI, m_slices_breakPatternsOrdered_uint32_l3 a0 b0 (m : Int) fu d.toList x (y : Int) = some R.toList ∧ PermIn a b d R := by
  intro n
  induction n with
  | zero =>
    intro y fu d x hn hf hy hbd hs
    obtain ⟨fu, rfl⟩ : ∃ k, fu = k + 1 := ⟨fu - 1, by omega⟩
    have e1 : IntKind.i64.wrap (b0 - a0) = ((b - a : Nat) : Int) := wN (by omega) (by omega)
    have e2 : IntKind.i64.wrap (Int.tdiv ((b - a : Nat) : Int) 4) = (((b - a) / 4 : Nat) : Int) := by
      rw [Int.tdiv_eq_ediv_of_nonneg (by omega)]
      exact wN (by omega) (by omega)
    have e3 : IntKind.i64.wrap ((((b - a) / 4 : Nat) : Int) * 2) = (((b - a) / 4 * 2 : Nat) : Int) := wN (by omega) (by omega)
    have e4 : IntKind.i64.wrap (a0 + (((b - a) / 4 * 2 : Nat) : Int)) = ((a + (b - a) / 4 * 2 : Nat) : Int) := wN (by omega) (by omega)
    have e5 : IntKind.i64.wrap (((a + (b - a) / 4 * 2 : Nat) : Int) + 1) = ((a + (b - a) / 4 * 2 + 1 : Nat) : Int) := wN (by omega) (by omega)
    unfold m_slices_breakPatternsOrdered_uint32_l3
    rw [e1, e2, e3, e4, obind_some, e5, decide_eq_false (by omega), cond_false]
    exact ⟨d, rfl, permIn_refl _ _ _⟩
  | succ n ih =>
    intro y fu d x hn hf hy hbd hs
    obtain ⟨fu, rfl⟩ : ∃ k, fu = k + 1 := ⟨fu - 1, by omega⟩
    have e1 : IntKind.i64.wrap (b0 - a0) = ((b - a : Nat) : Int) := wN (by omega) (by omega)
    have e2 : IntKind.i64.wrap (Int.tdiv ((b - a : Nat) : Int) 4) = (((b - a) / 4 : Nat) : Int) := by
      rw [Int.tdiv_eq_ediv_of_nonneg (by omega)]
      exact wN (by omega) (by omega)
    have e3 : IntKind.i64.wrap ((((b - a) / 4 : Nat) : Int) * 2) = (((b - a) / 4 * 2 : Nat) : Int) := wN (by omega) (by omega)
    have e4 : IntKind.i64.wrap (a0 + (((b - a) / 4 * 2 : Nat) : Int)) = ((a + (b - a) / 4 * 2 : Nat) : Int) := wN (by omega) (by omega)
    have e5 : IntKind.i64.wrap (((a + (b - a) / 4 * 2 : Nat) : Int) + 1) = ((a + (b - a) / 4 * 2 + 1 : Nat) : Int) := wN (by omega) (by omega)
    obtain ⟨r, hr⟩ := xor_some x
    obtain ⟨t, et, ht⟩ := and_ok r.1 hm1 (by omega)
    have e6 : IntKind.i64.wrap (t : Int) = (t : Int) := wN rfl (by omega)
    have j6 : ∀ o : Nat, o < b - a → ∃ R : AI, m_slices_breakPatternsOrdered_uint32_j6 a0 r d.toList (y : Int) (fun y0_3 y7_d_3 y9_3 => m_slices_breakPatternsOrdered_uint32_l3 a0 b0 (m : Int) fu y0_3 y7_d_3 y9_3) (o : Int) = some R.toList ∧ PermIn a b d R := fun o ho => by
      have e7 : IntKind.i64.wrap (a0 + (o : Int)) = ((a + o : Nat) : Int) := wN (by omega) (by omega)
      obtain ⟨u, hu⟩ := gS (d := d) (x := d[a + o]!) (I := ((a + o : Nat) : Int)) (i := a + o) (j := y) rfl (by omega)
      unfold m_slices_breakPatternsOrdered_uint32_j6
      rw [e7, gA rfl (by omega), obind_some, gA rfl (by omega), obind_some, obind_some, tN rfl, hu, obind_some, tN rfl, sS, wN (n := (y : Int) + 1) (i := y + 1) (by omega) (by omega)]
      obtain ⟨R, h1, h2⟩ := ih (y + 1) fu (Go.Sort.swp d y (a + o)) r.2 (by omega) (by omega) (by omega) (by rw [swp_size]; exact hbd) (by rw [swp_size]; exact hs)
      exact ⟨R, h1, permIn_trans _ _ _ a b (swp_permIn d a b y (a + o) hy (by omega) (by omega) (by omega) hbd) h2⟩
    unfold m_slices_breakPatternsOrdered_uint32_l3
    rw [e1, e2, e3, e4, obind_some, e5, decide_eq_true (by omega), cond_true, hr, obind_some, et, obind_some, e6]
    by_cases hc : b - a ≤ t
    · rw [decide_eq_true (by omega), cond_true, wN (n := (t : Int) - ((b - a : Nat) : Int)) (i := t - (b - a)) (by omega) (by omega)]
      exact j6 _ (by omega)
    · rw [decide_eq_false (by omega), cond_false]
      exact j6 _ (by omega)
theorem bp_ok {a0 b0 : Int} {a b : Nat} (ha : a0 = a) (hb : b0 = b) (h12 : a + 12 < b) {d : AI} (hbd : b ≤ d.size) (hs : d.size ≤ 255) : ∃ R : AI, m_slices_breakPatternsOrdered_uint32 d.toList a0 b0 = some R.toList ∧ PermIn a b d R := by
  have e1 : IntKind.i64.wrap (b0 - a0) = ((b - a : Nat) : Int) := wN (by omega) (by omega)
  have e2 : IntKind.i64.wrap (Int.tdiv ((b - a : Nat) : Int) 4) = (((b - a) / 4 : Nat) : Int) := by
    rw [Int.tdiv_eq_ediv_of_nonneg (by omega)]
    exact wN (by omega) (by omega)
  have e3 : IntKind.i64.wrap ((((b - a) / 4 : Nat) : Int) * 2) = (((b - a) / 4 * 2 : Nat) : Int) := wN (by omega) (by omega)
  have e4 : IntKind.i64.wrap (a0 + (((b - a) / 4 * 2 : Nat) : Int)) = ((a + (b - a) / 4 * 2 : Nat) : Int) := wN (by omega) (by omega)
  have e5 : IntKind.i64.wrap (((a + (b - a) / 4 * 2 : Nat) : Int) - 1) = ((a + (b - a) / 4 * 2 - 1 : Nat) : Int) := wN (by omega) (by omega)
  obtain ⟨m, hm, h1, h2⟩ := np_ok (n := b - a) (by omega) (by omega)
  unfold m_slices_breakPatternsOrdered_uint32
  rw [e1, decide_eq_true (by omega), cond_true, hm, obind_some, e2, e3, e4, obind_some, e5]
  exact bp_l3 ha hb (by omega) h1 h2 _ _ _ d _ rfl (by omega) (by omega) hbd hs
def Sorts (a b : Nat) (d : AI) (o : Option (List Int)) : Prop := ∃ R : AI, o = some R.toList ∧ PermIn a b d R ∧ SortedIn ltInt a b R
theorem pdq_loop {krec : List Int → Int → Int → Int → Option (List Int)} {n : Nat} (hrec : ∀ (a b : Nat) (d : AI) (lim : Int), a ≤ b → b - a < n → b ≤ d.size → d.size ≤ 255 → Below ltInt a b d → Sorts a b d (krec d.toList a b lim)) :
    ∀ (k a b fu : Nat) (d : AI) (lim : Int) (wb wp : Bool), k ≤ n → b - a ≤ k → k < fu → a ≤ b → b ≤ d.size → d.size ≤ 255 → Below ltInt a b d → Sorts a b d (m_slices_pdqsortOrdered_uint32_l0 krec fu d.toList a b lim wb wp) := by
  intro k
  induction k with
  | zero =>
    intro a b fu d lim wb wp hkn hk hf hab hbd hs hB
    obtain ⟨fu, rfl⟩ : ∃ k, fu = k + 1 := ⟨fu - 1, by omega⟩
    unfold m_slices_pdqsortOrdered_uint32_l0
    rw [wN (n := (b : Int) - (a : Int)) (i := b - a) (by omega) (by omega), decide_eq_true (by omega), cond_true, ins_ok rfl rfl hab hbd (by omega), obind_some]
    obtain ⟨h1, h2⟩ := insertionSort_holds (lt := ltInt) swo_ltInt d a b hab hbd
    exact ⟨_, rfl, h1, h2⟩
  | succ k ih =>
    intro a b fu d lim wb wp hkn hk hf hab hbd hs hB
    obtain ⟨fu, rfl⟩ : ∃ k, fu = k + 1 := ⟨fu - 1, by omega⟩
    unfold m_slices_pdqsortOrdered_uint32_l0
    rw [wN (n := (b : Int) - (a : Int)) (i := b - a) (by omega) (by omega)]
    by_cases h12 : b - a ≤ 12
    · rw [decide_eq_true (by omega), cond_true, ins_ok rfl rfl hab hbd (by omega), obind_some]
      obtain ⟨h1, h2⟩ := insertionSort_holds (lt := ltInt) swo_ltInt d a b hab hbd
      exact ⟨_, rfl, h1, h2⟩
    rw [decide_eq_false (by omega), cond_false]
    by_cases hl0 : lim = 0
    · rw [decide_eq_true hl0, cond_true, heap_ok rfl rfl (by omega) hbd (by omega), obind_some]
      obtain ⟨h1, h2⟩ := heapSort_holds (lt := ltInt) swo_ltInt d a b hab hbd
      exact ⟨_, rfl, h1, h2⟩
    rw [decide_eq_false hl0, cond_false]
    have j10 : ∀ (d3 : AI) (pv : Nat) (l3 : Int), PermIn a b d d3 → a ≤ pv → pv < b → Sorts a b d (m_slices_pdqsortOrdered_uint32_j10 d3.toList (pv : Int) (a : Int) (b : Int) l3 (fun y0_0 y1_0 y2_0 y3_0 y8_0 y9_0 => m_slices_pdqsortOrdered_uint32_l0 krec fu y0_0 y1_0 y2_0 y3_0 y8_0 y9_0) krec) := fun d3 pv l3 hP hp1 hp2 => by
      have hb3 : b ≤ d3.size := by rw [hP.1]; exact hbd
      have hs3 : d3.size ≤ 255 := by rw [hP.1]; exact hs
      have hB3 := hB.perm hbd hP
      unfold m_slices_pdqsortOrdered_uint32_j10
      rw [part_ok rfl rfl rfl hp1 hp2 hb3 (by omega), obind_some]
      rcases hx : partition ltInt d3 a b pv with ⟨mid, ap, d4⟩
      obtain ⟨g1, g2, g3, g4, g5, g6, g7⟩ := round_part (lt := ltInt) swo_ltInt (partition_holds ltInt) hp1 hp2 hb3 hB3 hx
      simp only []
      rw [wN (n := (mid : Int) - (a : Int)) (i := mid - a) (by omega) (by omega), wN (n := (b : Int) - (mid : Int)) (i := b - mid) (by omega) (by omega)]
      by_cases hlt : mid - a < b - mid
      · rw [d_lt (by omega), cond_true, obind_some]
        obtain ⟨L, e1, p1, s1⟩ := hrec a mid d4 l3 g1 (by omega) (by omega) (by omega) g4
        obtain ⟨hBL, fin⟩ := g6 L p1 s1
        have hLs : L.size = d4.size := p1.1
        rw [e1, obind_some, wN (n := (mid : Int) + 1) (i := mid + 1) (by omega) (by omega)]
        obtain ⟨R, e2, p2, s2⟩ := ih (mid + 1) b fu L l3 _ ap (by omega) (by omega) (by omega) (by omega) (by omega) (by omega) hBL
        obtain ⟨q1, q2⟩ := fin R p2 s2
        exact ⟨R, e2, permIn_trans _ _ _ a b hP q1, q2⟩
      · rw [d_nlt (by omega), cond_false, obind_some, wN (n := (mid : Int) + 1) (i := mid + 1) (by omega) (by omega)]
        obtain ⟨L, e1, p1, s1⟩ := hrec (mid + 1) b d4 l3 (by omega) (by omega) (by omega) (by omega) g5
        obtain ⟨hBL, fin⟩ := g7 L p1 s1
        have hLs : L.size = d4.size := p1.1
        rw [e1, obind_some]
        obtain ⟨R, e2, p2, s2⟩ := ih a mid fu L l3 _ ap (by omega) (by omega) (by omega) g1 (by omega) (by omega) hBL
        obtain ⟨q1, q2⟩ := fin R p2 s2
        exact ⟨R, e2, permIn_trans _ _ _ a b hP q1, q2⟩
    have j7 : ∀ (d3 : AI) (pv : Nat) (l3 : Int), PermIn a b d d3 → a ≤ pv → pv < b → Sorts a b d (m_slices_pdqsortOrdered_uint32_j7 (pv : Int) (a : Int) (b : Int) l3 wb wp (fun y0_0 y1_0 y2_0 y3_0 y8_0 y9_0 => m_slices_pdqsortOrdered_uint32_l0 krec fu y0_0 y1_0 y2_0 y3_0 y8_0 y9_0) krec d3.toList) := fun d3 pv l3 hP hp1 hp2 => by
      have hb3 : b ≤ d3.size := by rw [hP.1]; exact hbd
      have hs3 : d3.size ≤ 255 := by rw [hP.1]; exact hs
      have hB3 := hB.perm hbd hP
      unfold m_slices_pdqsortOrdered_uint32_j7
      by_cases ha0 : 0 < a
      · rw [d_lt (by omega), cond_true, wN (n := (a : Int) - 1) (i := a - 1) (by omega) (by omega), gA rfl (by omega), obind_some, gA rfl (by omega), obind_some, less_ok, obind_some]
        cases hlt : ltInt d3[a - 1]! d3[pv]! with
        | false =>
          rw [Bool.not_false, cond_true, pe_ok rfl rfl rfl hp1 hp2 hb3 (by omega), obind_some]
          rcases hx : partitionEqual ltInt d3 a b pv with ⟨mid, d4⟩
          obtain ⟨g1, g2, g3, g4, fin⟩ := round_eq (lt := ltInt) swo_ltInt (partitionEqual_holds ltInt) ha0 hp1 hp2 hb3 hB3 hlt hx
          obtain ⟨R, e2, p2, s2⟩ := ih mid b fu d4 l3 wb wp (by omega) (by omega) (by omega) g2 (by omega) (by omega) g4
          obtain ⟨q1, q2⟩ := fin R p2 s2
          exact ⟨R, e2, permIn_trans _ _ _ a b hP q1, q2⟩
        | true => rw [Bool.not_true, cond_false]; exact j10 d3 pv l3 hP hp1 hp2
      · rw [d_nlt (by omega), cond_false]; exact j10 d3 pv l3 hP hp1 hp2
    have j5 : ∀ (d2 : AI) (pv : Nat) (l3 hint : Int), PermIn a b d d2 → a ≤ pv → pv < b → Sorts a b d (m_slices_pdqsortOrdered_uint32_j5 (a : Int) (b : Int) l3 wb wp (fun y0_0 y1_0 y2_0 y3_0 y8_0 y9_0 => m_slices_pdqsortOrdered_uint32_l0 krec fu y0_0 y1_0 y2_0 y3_0 y8_0 y9_0) krec d2.toList (pv : Int) hint) := fun d2 pv l3 hint hP hp1 hp2 => by
      have hb2 : b ≤ d2.size := by rw [hP.1]; exact hbd
      have hs2 : d2.size ≤ 255 := by rw [hP.1]; exact hs
      have hj7 := j7 d2 pv l3 hP hp1 hp2
      unfold m_slices_pdqsortOrdered_uint32_j5 m_slices_pdqsortOrdered_uint32_j17
      cases wb with
      | false => rw [cond_false]; exact hj7
      | true =>
        rw [cond_true]
        cases wp with
        | false => rw [cond_false]; exact hj7
        | true =>
          rw [cond_true]
          by_cases h1 : hint = 1
          · rw [decide_eq_true h1, cond_true, ps_ok rfl rfl (by omega) hb2 (by omega), obind_some]
            obtain ⟨q1, q2⟩ := partialInsertionSort_holds (lt := ltInt) swo_ltInt d2 a b (by omega) hb2 (hB.perm hbd hP)
            rcases hx : partialInsertionSort ltInt d2 a b with ⟨d3, f⟩
            rw [hx] at q1 q2
            simp only [] at q1 q2 ⊢
            cases f with
            | true => rw [cond_true]; exact ⟨d3, rfl, permIn_trans _ _ _ a b hP q1, q2 rfl⟩
            | false => rw [cond_false]; exact j7 d3 pv l3 (permIn_trans _ _ _ a b hP q1) hp1 hp2
          · rw [decide_eq_false h1, cond_false]; exact hj7
    have j15 : ∀ (d1 : AI) (l3 : Int), PermIn a b d d1 → Sorts a b d (m_slices_pdqsortOrdered_uint32_j15 (a : Int) (b : Int) wb wp (fun y0_0 y1_0 y2_0 y3_0 y8_0 y9_0 => m_slices_pdqsortOrdered_uint32_l0 krec fu y0_0 y1_0 y2_0 y3_0 y8_0 y9_0) krec d1.toList l3) := fun d1 l3 hP => by
      have hb1 : b ≤ d1.size := by rw [hP.1]; exact hbd
      have hs1 : d1.size ≤ 255 := by rw [hP.1]; exact hs
      obtain ⟨x, hh, e1, x1, x2⟩ := cp_ok (a0 := (a : Int)) (b0 := (b : Int)) rfl rfl (by omega) hb1 (by omega)
      unfold m_slices_pdqsortOrdered_uint32_j15
      rw [e1, obind_some]
      by_cases h2 : hh = 2
      · rw [decide_eq_true h2, cond_true, rev_ok rfl rfl (by omega) hb1 (by omega), obind_some, wN (n := (b : Int) - 1) (i := b - 1) (by omega) (by omega), wN (n := (x : Int) - (a : Int)) (i := x - a) (by omega) (by omega), wN (n := ((b - 1 : Nat) : Int) - ((x - a : Nat) : Int)) (i := b - 1 - (x - a)) (by omega) (by omega)]
        exact j5 _ _ _ _ (permIn_trans _ _ _ a b hP (reverseRange_holds d1 a b hab hb1)) (by omega) (by omega)
      · rw [decide_eq_false h2, cond_false]; exact j5 d1 x l3 hh hP x1 x2
    cases wb with
    | true => rw [Bool.not_true, cond_false]; exact j15 d lim (permIn_refl _ _ _)
    | false =>
      rw [Bool.not_false, cond_true]
      obtain ⟨d1, e1, p1⟩ := bp_ok (a0 := (a : Int)) (b0 := (b : Int)) rfl rfl (by omega) hbd hs
      rw [e1, obind_some]
      exact j15 d1 _ p1
theorem pdq_ok : ∀ (n fuR a b : Nat) (d : AI) (lim : Int), n < fuR → a ≤ b → b - a ≤ n → b ≤ d.size → d.size ≤ 255 → Below ltInt a b d → Sorts a b d (m_slices_pdqsortOrdered_uint32 fuR d.toList a b lim) := by
  intro n
  induction n with
  | zero =>
    intro fuR a b d lim hf hab hn hbd hs hB
    obtain ⟨fuR, rfl⟩ : ∃ k, fuR = k + 1 := ⟨fuR - 1, by omega⟩
    unfold m_slices_pdqsortOrdered_uint32
    exact pdq_loop (n := 0) (fun a b d lim h1 h2 => by omega) 0 a b _ d lim true true (Nat.le_refl _) hn (by omega) hab hbd hs hB
  | succ n ih =>
    intro fuR a b d lim hf hab hn hbd hs hB
    obtain ⟨fuR, rfl⟩ : ∃ k, fuR = k + 1 := ⟨fuR - 1, by omega⟩
    unfold m_slices_pdqsortOrdered_uint32
    exact pdq_loop (n := n + 1) (fun a b d lim h1 h2 h3 h4 h5 => ih fuR a b d lim (by omega) h1 (by omega) h3 h4 h5) (b - a) a b _ d lim true true hn (Nat.le_refl _) (by omega) hab hbd hs hB
def blchk (n : Nat) : Bool := (m_math_bits_Len (IntKind.u64.wrap (n : Int))).isSome
theorem bl_all : ∀ n : Fin 256, blchk n.val = true := by decide +kernel
def Sorted (l : List Int) : Prop := l.Pairwise (· ≤ ·)
theorem sort32_ok {l : List Int} (h : l.length ≤ 255) : ∃ r, m_slices_Sort_uint32 l = some r ∧ r.Perm l ∧ Sorted r := by
  obtain ⟨k, hk⟩ := Option.isSome_iff_exists.1 (show (m_math_bits_Len (IntKind.u64.wrap ((l.length : Nat) : Int))).isSome = true from bl_all ⟨l.length, by omega⟩)
  unfold m_slices_Sort_uint32
  rw [hk, obind_some]
  obtain ⟨R, e, hp, hs⟩ := pdq_ok l.length 1152921504606846976 0 l.length l.toArray k (by omega) (Nat.zero_le _) (by omega) (by simp) (by simpa using h) (.inl rfl)
  have e' : m_slices_pdqsortOrdered_uint32 1152921504606846976 l 0 ((List.length l : Nat) : Int) k = some R.toList := e
  rw [e', obind_some]
  refine ⟨R.toList, rfl, ?_, ?_⟩
  · have h2 := hp.2.2
    have z : R.size = l.length := by rw [hp.1]; simp
    rw [show l.length = R.size from z.symm, Array.extract_size] at h2
    rw [z] at h2
    simpa using h2
  · have z : R.size = l.length := by rw [hp.1]; simp
    unfold Sorted
    rw [List.pairwise_iff_getElem]
    intro i j hi hj hij
    have h3 := hs i j (Nat.zero_le _) hij (by simp at hj; omega)
    simp only [Array.length_toList] at hi hj
    rw [getElem!_pos R j hj, getElem!_pos R i hi] at h3
    simp only [ltInt, decide_eq_false_iff_not, Int.not_lt] at h3
    simpa using h3
end Go.Proofs.Ytelhmhmgaaebpaa.K

namespace Go.Proofs.Ytelhmhmgaaebpaa.K
open Go.RowKit Go.Lib
theorem awk22 : m_w22_awake = some true := by decide +kernel
def Strict (l : List Int) : Prop := l.Pairwise (· < ·)
/-! ### Compact -/
def dstep (acc : List Int) (x : Int) : List Int := if acc.getLast? = some x then acc else acc ++ [x]
def dd (l : List Int) : List Int := l.foldl dstep []
theorem dd_snoc (l : List Int) (x : Int) : dd (l ++ [x]) = dstep (dd l) x := by simp [dd]
theorem snoc_cases (l : List Int) : l = [] ∨ ∃ r x, l = r ++ [x] := by
  cases h : l with
  | nil => exact .inl rfl
  | cons a t => exact .inr ⟨(a :: t).dropLast, (a :: t).getLast (by simp), (List.dropLast_concat_getLast (by simp)).symm⟩
theorem dd_last : ∀ (n : Nat) (l : List Int), l.length = n → (dd l).getLast? = l.getLast?
  | 0, l, h => by rw [List.eq_nil_of_length_eq_zero h]; rfl
  | n + 1, l, h => by
    rcases snoc_cases l with rfl | ⟨r, x, rfl⟩
    · simp at h
    · rw [dd_snoc]
      unfold dstep
      split
      · rename_i e; rw [e]; simp
      · simp
theorem dd_len : ∀ (n : Nat) (l : List Int), l.length = n → (dd l).length ≤ l.length
  | 0, l, h => by rw [List.eq_nil_of_length_eq_zero h]; simp [dd]
  | n + 1, l, h => by
    rcases snoc_cases l with rfl | ⟨r, x, rfl⟩
    · simp at h
    · rw [dd_snoc]
      have := dd_len n r (by simpa using h)
      unfold dstep
      split <;> simp <;> omega
theorem dd_spec : ∀ (n : Nat) (l : List Int), l.length = n → Sorted l → Strict (dd l) ∧ (∀ y, y ∈ dd l ↔ y ∈ l)
  | 0, l, h, _ => by rw [List.eq_nil_of_length_eq_zero h]; exact ⟨List.Pairwise.nil, fun y => Iff.rfl⟩
  | n + 1, l, h, hs => by
    rcases snoc_cases l with rfl | ⟨r, x, rfl⟩
    · simp at h
    · have hs' := List.pairwise_append.1 hs
      obtain ⟨h1, h2⟩ := dd_spec n r (by simpa using h) hs'.1
      have hl := dd_last _ r rfl
      rw [dd_snoc]
      unfold dstep
      split
      · rename_i e
        refine ⟨h1, fun y => ?_⟩
        rw [h2, List.mem_append]
        constructor
        · intro h; exact .inl h
        · rintro (h | h)
          · exact h
          · simp at h; subst h
            rw [hl] at e
            exact List.mem_of_getLast? e
      · rename_i e
        refine ⟨?_, fun y => ?_⟩
        · refine List.pairwise_append.2 ⟨h1, by simp, fun a ha b hb => ?_⟩
          simp at hb; subst hb
          have hle := hs'.2.2 a ((h2 a).1 ha) b (by simp)
          rcases Int.lt_or_eq_of_le hle with h | h
          · exact h
          · exfalso
            subst h
            -- a is the greatest one of r, and so its last one
            rcases snoc_cases r with rfl | ⟨r', z, rfl⟩
            · simp [dd] at ha
            · have hz : z = a := by
                have h3 := hs'.2.2 z (by simp) a (by simp)
                have h4 := List.pairwise_append.1 hs'.1
                rcases List.mem_append.1 ((h2 a).1 ha) with h5 | h5
                · have := h4.2.2 a h5 z (by simp); omega
                · rw [List.mem_singleton] at h5; exact h5.symm
              exact e (by rw [hl]; simp [hz])
        · rw [List.mem_append, h2, List.mem_append]
theorem take_last {l : List Int} {i : Nat} (h1 : 1 ≤ i) (h2 : i ≤ l.length) : (l.take i).getLast? = some (l[i - 1]'(by omega)) := by
  obtain ⟨j, rfl⟩ : ∃ j, i = j + 1 := ⟨i - 1, by omega⟩
  rw [take_snoc (by omega), List.getLast?_concat]
  rfl
theorem comp_l5 {p0 : List Int} {k : Nat} (hk : k < p0.length) (hl : p0.length ≤ 1000000) : ∀ (n i m fu : Nat) (y : List Int), p0.length - k - m = n → n < fu → 1 ≤ m → m ≤ p0.length - k → k ≤ i → i + 1 ≤ k + m → y.length = p0.length → (∀ t, i ≤ t → y[t]? = p0[t]?) → y.take i = dd (p0.take (k + m)) →
    m_slices_Compact_uint32_l5 p0 (k : Int) fu y (i : Int) (m : Int) = some (dd p0) := by
  intro n
  induction n with
  | zero =>
    intro i m fu y hn hf h1 h2 h3 h4 hy hge ht
    obtain ⟨fu, rfl⟩ : ∃ k, fu = k + 1 := ⟨fu - 1, by omega⟩
    have hcut := cut_ok (l := clr y (Int.toNat (i : Int)) (0 : Int)) (a := 0) (b := i) (Nat.zero_le _) (by rw [Int.toNat_natCast, clr_len (by omega)]; omega)
    unfold m_slices_Compact_uint32_l5
    rw [Int.toNat_natCast] at hcut ⊢
    rw [d_nlt (by omega), cond_false, chk_ok (by omega)]
    have e0 : cut (clr y i 0) 0 (i : Int) = some ((clr y i 0).take i) := by simpa using hcut
    rw [Int.toNat_natCast, e0, obind_some]
    congr 1
    have : (clr y i 0).take i = y.take i := by
      unfold clr
      exact List.take_left' (by rw [List.length_take]; omega)
    rw [this, ht, show k + m = p0.length by omega, List.take_length]
  | succ n ih =>
    intro i m fu y hn hf h1 h2 h3 h4 hy hge ht
    obtain ⟨fu, rfl⟩ : ∃ k, fu = k + 1 := ⟨fu - 1, by omega⟩
    have hm : k + m < p0.length := by omega
    have hg : ∀ t, i ≤ t → t < p0.length → geti y (t : Int) = p0[t]? := fun t h5 h6 => by rw [geti_nat, hge t h5]
    have ew : IntKind.i64.wrap ((m : Int) - 1) = ((m - 1 : Nat) : Int) := by rw [w64 (by omega) (by omega)]; omega
    have ea : (k : Int) + (m : Int) = ((k + m : Nat) : Int) := by omega
    have eb : (k : Int) + ((m - 1 : Nat) : Int) = ((k + m - 1 : Nat) : Int) := by omega
    have hsn : dd (p0.take (k + m + 1)) = dstep (dd (p0.take (k + m))) p0[k + m] := by rw [take_snoc hm, dd_snoc]
    have hlast : (dd (p0.take (k + m))).getLast? = some (p0[k + m - 1]'(by omega)) := by rw [dd_last _ _ rfl, take_last (by omega) (by omega)]
    unfold m_slices_Compact_uint32_l5
    rw [Int.toNat_natCast, d_lt (by omega), cond_true, chk_ok (by omega), ea, hg (k + m) (by omega) hm, List.getElem?_eq_getElem hm, obind_some, ew, chk_ok (by omega), eb, hg (k + m - 1) (by omega) (by omega), List.getElem?_eq_getElem (by omega), obind_some, inc_ok (i := m) (by omega)]
    by_cases hne : p0[k + m] ≠ p0[k + m - 1]'(by omega)
    · rw [decide_eq_true hne, cond_true, chk_ok (by omega), obind_some, geti_nat, List.getElem?_eq_getElem (show i < y.length by omega), obind_some, inc_ok (i := i) (by omega), Int.toNat_natCast]
      refine ih (i + 1) (m + 1) fu (y.set i p0[k + m]) (by omega) (by omega) (by omega) (by omega) (by omega) (by omega) (by rw [List.length_set]; exact hy) (fun t h5 => by rw [List.getElem?_set_ne (by omega)]; exact hge t (by omega)) ?_
      rw [show k + (m + 1) = k + m + 1 by omega, hsn]
      unfold dstep
      rw [hlast, if_neg (by intro e; exact hne (Option.some.inj e).symm), ← ht, take_snoc (by rw [List.length_set]; omega), List.getElem_set_self, List.take_set_of_le (Nat.le_refl _)]
    · have he := Classical.not_not.1 hne
      rw [decide_eq_false hne, cond_false]
      refine ih i (m + 1) fu y (by omega) (by omega) (by omega) (by omega) h3 (by omega) hy hge ?_
      rw [show k + (m + 1) = k + m + 1 by omega, hsn]
      unfold dstep
      rw [hlast, if_pos (by rw [he]), ht]
theorem comp_l1 {p0 : List Int} (hl : p0.length ≤ 1000000) : ∀ (n k fu : Nat), p0.length - k = n → n < fu → 1 ≤ k → k ≤ p0.length → dd (p0.take k) = p0.take k → m_slices_Compact_uint32_l1 p0 fu (k : Int) = some (dd p0) := by
  intro n
  induction n with
  | zero =>
    intro k fu hn hf h1 h2 hd
    obtain ⟨fu, rfl⟩ : ∃ k, fu = k + 1 := ⟨fu - 1, by omega⟩
    unfold m_slices_Compact_uint32_l1
    rw [d_nlt (by omega), cond_false]
    rw [show k = p0.length by omega, List.take_length] at hd
    rw [hd]
  | succ n ih =>
    intro k fu hn hf h1 h2 hd
    obtain ⟨fu, rfl⟩ : ∃ k, fu = k + 1 := ⟨fu - 1, by omega⟩
    have hk : k < p0.length := by omega
    have ew : IntKind.i64.wrap ((k : Int) - 1) = ((k - 1 : Nat) : Int) := by rw [w64 (by omega) (by omega)]; omega
    have hsn : dd (p0.take (k + 1)) = dstep (p0.take k) p0[k] := by rw [take_snoc hk, dd_snoc, hd]
    have hlast := take_last (l := p0) h1 (by omega)
    unfold m_slices_Compact_uint32_l1
    rw [d_lt (by omega), cond_true, geti_lt hk, obind_some, ew, geti_lt (by omega), obind_some]
    by_cases he : p0[k] = p0[k - 1]'(by omega)
    · rw [decide_eq_true he, cond_true, chk_ok (by omega)]
      refine comp_l5 hk hl _ k 1 _ p0 rfl (by omega) (Nat.le_refl _) (by omega) (Nat.le_refl _) (by omega) rfl (fun _ _ => rfl) ?_
      rw [hsn]
      unfold dstep
      rw [hlast, if_pos (by rw [he])]
    · rw [decide_eq_false he, cond_false, inc_ok (by omega)]
      refine ih (k + 1) fu (by omega) (by omega) (by omega) (by omega) ?_
      rw [hsn]
      unfold dstep
      rw [hlast, if_neg (by intro e; exact he (Option.some.inj e).symm), take_snoc hk]
theorem comp_ok {l : List Int} (hl : l.length ≤ 1000000) : m_slices_Compact_uint32 l = some (dd l) := by
  unfold m_slices_Compact_uint32
  by_cases h : l.length < 2
  · rw [d_lt (by omega), cond_true]
    match l, h with
    | [], _ => rfl
    | [x], _ => rfl
  · rw [d_nlt (by omega), cond_false]
    refine comp_l1 hl _ 1 _ rfl (by omega) (Nat.le_refl _) (by omega) ?_
    match l, h with
    | [], h => exact absurd (by simp) h
    | [x], h => exact absurd (by simp) h
    | x :: y :: t, _ => rfl
end Go.Proofs.Ytelhmhmgaaebpaa.K

namespace Go.Proofs.Ytelhmhmgaaebpaa.K
open Go.RowKit Go.Lib
theorem grow_ok {n : Nat} (h : n ≤ 1000000) : m_slices_Grow_uint32 (n : Int) = some [] := by
  unfold m_slices_Grow_uint32
  have e : IntKind.i64.wrap ((n : Int) - 0) = (n : Int) := by rw [w64 (by omega) (by omega)]; omega
  rw [d_nlt (by omega), cond_false, e]
  by_cases h0 : 0 < n
  · rw [d_lt (by omega), cond_true, show mkl (n : Int) (0 : Int) = some (List.replicate n 0) by unfold mkl; rw [if_pos (by omega)]; simp, obind_some, chk_ok (by omega)]
    have := cut_ok (l := List.replicate n (0 : Int)) (a := 0) (b := 0) (Nat.le_refl _) (Nat.zero_le _)
    have e0 : cut (List.replicate n (0 : Int)) 0 0 = some [] := by simpa using this
    rw [e0]; rfl
  · rw [d_nlt (by omega), cond_false]
theorem concat_ok {a b : List Int} (ha : a.length ≤ 400000) (hb : b.length ≤ 400000) : m_slices_Concat_uint32 [a, b] = some (a ++ b) := by
  unfold m_slices_Concat_uint32
  show m_slices_Concat_uint32_l1 [a, b] (1152921504606846973 + 1 + 1 + 1) 0 0 = _
  have e1 : IntKind.i64.wrap (0 + 1) = 1 := w64 (by omega) (by omega)
  have e2 : IntKind.i64.wrap (1 + 1) = 2 := w64 (by omega) (by omega)
  have e3 : IntKind.i64.wrap (0 + ((List.length a : Nat) : Int)) = ((List.length a : Nat) : Int) := by rw [w64 (by omega) (by omega)]; omega
  have e4 : IntKind.i64.wrap (((List.length a : Nat) : Int) + ((List.length b : Nat) : Int)) = ((List.length a + List.length b : Nat) : Int) := by rw [w64 (by omega) (by omega)]; omega
  unfold m_slices_Concat_uint32_l1
  rw [decide_eq_true (by simp), cond_true, show geti [a, b] 0 = some a from rfl, obind_some, e3, d_nlt (by omega), cond_false, e1]
  unfold m_slices_Concat_uint32_l1
  rw [decide_eq_true (by simp), cond_true, show geti [a, b] 1 = some b from rfl, obind_some, e4, d_nlt (by omega), cond_false, e2]
  unfold m_slices_Concat_uint32_l1
  rw [decide_eq_false (by simp), cond_false, grow_ok (by omega), obind_some]
  show m_slices_Concat_uint32_l6 [a, b] (1152921504606846973 + 1 + 1 + 1) [] 0 = _
  unfold m_slices_Concat_uint32_l6
  rw [decide_eq_true (by simp), cond_true, show geti [a, b] 0 = some a from rfl, obind_some, app_ok (by simp; omega), obind_some, List.nil_append, e1]
  unfold m_slices_Concat_uint32_l6
  rw [decide_eq_true (by simp), cond_true, show geti [a, b] 1 = some b from rfl, obind_some, app_ok (by omega), obind_some, e2]
  unfold m_slices_Concat_uint32_l6
  rw [decide_eq_false (by simp), cond_false]
/-- What a merge is: strictly rising, with the numbers of both. -/
structure IsMerge (a b r : List Int) : Prop where
  strict : Strict r
  mem : ∀ x, x ∈ r ↔ x ∈ a ∨ x ∈ b
  len : r.length ≤ a.length + b.length
theorem merge_ok {a b : List Int} (h : a.length + b.length ≤ 255) : ∃ r, m_trail_Merge a b = some r ∧ IsMerge a b r := by
  unfold m_trail_Merge
  rw [concat_ok (by omega) (by omega), obind_some]
  obtain ⟨s, e, hp, hs⟩ := sort32_ok (l := a ++ b) (by rw [List.length_append]; exact h)
  have hl := hp.length_eq
  rw [List.length_append] at hl
  rw [e, obind_some, comp_ok (by omega), obind_some]
  obtain ⟨h1, h2⟩ := dd_spec _ s rfl hs
  exact ⟨_, rfl, h1, fun x => by rw [h2, hp.mem_iff, List.mem_append], by have := dd_len _ s rfl; omega⟩
/-! ### the document's -/
end Go.Proofs.Ytelhmhmgaaebpaa.K

namespace Go.Proofs.Ytelhmhmgaaebpaa.K
open Go.RowKit Go.Lib
theorem vals_ok {l : List GValue} (hl : l.length ≤ 400000000) : m_w06_Vals l = some l := by
  have := map_loop (L := fun fu s i => m_w06_Vals_l0 l fu s i) (l := l) (f := id) (e := id) hl (fun fu s => by unfold m_w06_Vals_l0; rw [d_nlt (by omega)]; rfl)
    (fun fu s i h hs => by
      conv => lhs; unfold m_w06_Vals_l0
      rw [d_lt (by omega), cond_true, geti_lt h, obind_some, app_ok (by simp; omega), obind_some, inc_ok (by omega)]; rfl)
  rw [List.map_id] at this; exact this
theorem own_ok {e : GEvent} (h : e.Vals.length ≤ 400000000) : m_w07_Own e = some e := by unfold m_w07_Own; rw [vals_ok h]; rfl
/-- Short enough. -/
def evB (e : GEvent) : Prop := e.Type_.length ≤ 40 ∧ e.Vals.length ≤ 12 ∧ ∀ v ∈ e.Vals, v.Text.length ≤ 100
theorem small_ok {v : GValue} (h : v.Text.length ≤ maxLen) : m_w04_Small v = some (max 0 ((v.Text.length : Int) - 100)) := by
  unfold m_w04_Small
  have := maxLen_le h
  rw [w64 (by omega) (by omega)]
/-- Lengths that memory allows. -/
def evM (e : GEvent) : Prop := e.Type_.length ≤ maxLen ∧ e.Vals.length ≤ maxLen ∧ ∀ v ∈ e.Vals, v.Text.length ≤ maxLen
theorem over_ok {l : List GEvent} {k : Int} (hk : k ≤ 1000000) (hm : ∀ e ∈ l, evM e) : ∃ r, m_w07_Over l k = some r ∧ (r = 1 ∨ r = 0 ∧ (l.length : Int) ≤ k ∧ ∀ e ∈ l, evB e) := by
  unfold m_w07_Over
  by_cases h : k < (l.length : Int)
  · rw [d_lt h]; exact ⟨1, rfl, .inl rfl⟩
  · rw [d_nlt h, cond_false]
    have := loop1_0 (L := fun fu i => m_w07_Over_l1 l fu i) (n := l.length) (P := fun i o => ∃ r, o = some r ∧ (r = 1 ∨ r = 0 ∧ ∀ e ∈ l.drop i, evB e)) (by omega)
      (fun fu => by unfold m_w07_Over_l1; rw [d_nlt (by omega)]; exact ⟨0, rfl, .inr ⟨rfl, by simp⟩⟩)
      (fun fu i hi ih => by
        have hmi := hm l[i] (List.getElem_mem hi)
        have h1 := maxLen_le hmi.1
        have h2 := maxLen_le hmi.2.1
        unfold m_w07_Over_l1
        rw [d_lt (by omega), cond_true, geti_lt hi, obind_some]
        by_cases ht : 40 < l[i].Type_.length
        · rw [d_lt (by omega)]; exact ⟨1, rfl, .inl rfl⟩
        · rw [d_nlt (by omega), cond_false, obind_some]
          by_cases hv : 12 < l[i].Vals.length
          · rw [d_lt (by omega)]; exact ⟨1, rfl, .inl rfl⟩
          · rw [d_nlt (by omega), cond_false]
            have := loop1_0 (L := fun fu2 j => m_w07_Over_l4 l (i : Int) (fun y5_1 => m_w07_Over_l1 l fu y5_1) fu2 j) (n := l[i].Vals.length) (P := fun j o => (∀ v ∈ l[i].Vals.take j, v.Text.length ≤ 100) → ∃ r, o = some r ∧ (r = 1 ∨ r = 0 ∧ ∀ e ∈ l.drop i, evB e)) (by omega)
              (fun fu2 hj => by
                unfold m_w07_Over_l4
                rw [geti_lt hi, obind_some, d_nlt (by omega), cond_false, inc_ok (by omega)]
                obtain ⟨r, e, q⟩ := ih
                refine ⟨r, e, q.imp id fun ⟨q1, q2⟩ => ⟨q1, ?_⟩⟩
                rw [drop_cons hi]
                intro e he
                rcases List.mem_cons.1 he with rfl | he
                · exact ⟨by omega, by omega, by rw [List.take_of_length_le (Nat.le_refl _)] at hj; exact hj⟩
                · exact q2 e he)
              (fun fu2 j hj ih2 hq => by
                unfold m_w07_Over_l4
                have hvm := hmi.2.2 _ (List.getElem_mem hj)
                have hvl := maxLen_le hvm
                rw [geti_lt hi, obind_some, d_lt (by omega), cond_true, obind_some, geti_lt hj, obind_some, small_ok hvm, obind_some]
                by_cases hs : 100 < l[i].Vals[j].Text.length
                · rw [d_lt (by omega)]; exact ⟨1, rfl, .inl rfl⟩
                · rw [d_nlt (by omega), cond_false, inc_ok (by omega)]
                  refine ih2 fun v hv => ?_
                  rw [take_snoc hj] at hv
                  rcases List.mem_append.1 hv with hv | hv
                  · exact hq v hv
                  · simp only [List.mem_singleton] at hv; subst hv; omega)
            exact this (by simp))
    obtain ⟨r, e, q⟩ := this
    exact ⟨r, e, q.imp id fun ⟨q1, q2⟩ => ⟨q1, by omega, by simpa using q2⟩⟩
end Go.Proofs.Ytelhmhmgaaebpaa.K

namespace Go.Proofs.Ytelhmhmgaaebpaa.K
open Go.RowKit Go.Lib
/-- -1, 0, 1. -/
def cmpI (x y : Int) : Int := if x < y then -1 else if y < x then 1 else 0
def cmpS (x y : List UInt8) : Int := if ltS x y = true then -1 else if x = y then 0 else 1
theorem u8_lt {a b : UInt8} : (a < b) ↔ a.toNat < b.toNat := UInt8.lt_iff_toNat_lt
theorem u8_eq {a b : UInt8} : a = b ↔ a.toNat = b.toNat := UInt8.toNat_inj.symm
theorem ltS_cons {a b : UInt8} {x y : List UInt8} : ltS (a :: x) (b :: y) = true ↔ a.toNat < b.toNat ∨ a.toNat = b.toNat ∧ ltS x y = true := by
  simp only [ltS, Op.bytesLess, Bool.or_eq_true, Bool.and_eq_true, decide_eq_true_eq, beq_iff_eq, u8_lt, u8_eq]
theorem ltS_nil {x : List UInt8} : ltS x [] = false := by cases x <;> rfl
theorem ltS_irr (x : List UInt8) : ¬ ltS x x = true := by
  induction x with
  | nil => simp [ltS_nil]
  | cons a x ih => rw [ltS_cons]; rintro (h | h) <;> simp_all
theorem ltS_asym {x y : List UInt8} (h : ltS x y = true) : ¬ ltS y x = true := by
  induction x generalizing y with
  | nil => simp [ltS_nil]
  | cons a x ih =>
    cases y with
    | nil => simp [ltS_nil] at h
    | cons b y =>
      rw [ltS_cons] at h ⊢
      rintro (k | k)
      · rcases h with h | h <;> omega
      · rcases h with h | h
        · omega
        · exact ih h.2 k.2
theorem ltS_tot {x y : List UInt8} : ltS x y = true ∨ x = y ∨ ltS y x = true := by
  induction x generalizing y with
  | nil => cases y <;> simp [ltS, Op.bytesLess]
  | cons a x ih =>
    cases y with
    | nil => exact .inr (.inr rfl)
    | cons b y =>
      rw [ltS_cons, ltS_cons]
      rcases Nat.lt_trichotomy a.toNat b.toNat with h | h | h
      · exact .inl (.inl h)
      · rcases ih (y := y) with k | k | k
        · exact .inl (.inr ⟨h, k⟩)
        · exact .inr (.inl (by rw [u8_eq.2 h, k]))
        · exact .inr (.inr (.inr ⟨h.symm, k⟩))
      · exact .inr (.inr (.inl h))
theorem ltS_trans {x y z : List UInt8} (h : ltS x y = true) (k : ltS y z = true) : ltS x z = true := by
  induction x generalizing y z with
  | nil =>
    cases z with
    | nil => rw [ltS_nil] at k; cases k
    | cons c z => rfl
  | cons a x ih =>
    cases y with
    | nil => rw [ltS_nil] at h; cases h
    | cons b y =>
      cases z with
      | nil => rw [ltS_nil] at k; cases k
      | cons c z =>
        rw [ltS_cons] at h k ⊢
        rcases h with h | h <;> rcases k with k | k
        · exact .inl (by omega)
        · exact .inl (by omega)
        · exact .inl (by omega)
        · exact .inr ⟨by omega, ih h.2 k.2⟩
theorem gtS_iff {x y : List UInt8} : gtS x y = ltS y x := by
  have h1 := ltS_tot (x := x) (y := y)
  have h2 := @ltS_asym x y
  have h3 := @ltS_asym y x
  by_cases e : x = y
  · subst e
    have := ltS_irr x
    simp [gtS, Bool.eq_false_iff.2 this]
  · unfold gtS
    rw [show (Op.bytesLess x y) = ltS x y from rfl]
    cases hx : ltS x y <;> cases hy : ltS y x <;> simp_all
/-- A pair's order: -1, 0, 1. -/
def lexI (a b : Int) : Int := if a ≠ 0 then a else b
def ordE (a b : GEvent) : Int := lexI (cmpI a.Time b.Time) (lexI (cmpI a.Source b.Source) (cmpI a.Seq b.Seq))
def ordP (a b : GPair) : Int := lexI (ordE a.E b.E) (cmpS a.Var b.Var)
def rk : List GPair → List GPair → Int
  | [], [] => 0
  | [], _ :: _ => -1
  | _ :: _, [] => 1
  | a :: l, b :: r => lexI (ordP a b) (rk l r)
theorem cmpI_neg (a b : Int) : cmpI b a = -cmpI a b := by unfold cmpI; split <;> split <;> omega
theorem cmpS_zero {a b : List UInt8} : cmpS a b = 0 ↔ a = b := by
  unfold cmpS
  split
  · rename_i h
    constructor
    · intro h; omega
    · intro e; subst e; exact absurd h (ltS_irr a)
  · split <;> simp_all
theorem cmpS_neg (a b : List UInt8) : cmpS b a = -cmpS a b := by
  unfold cmpS
  have h1 := ltS_tot (x := a) (y := b)
  have h2 := @ltS_asym a b
  by_cases e : a = b
  · subst e; have := ltS_irr a; simp [this]
  · have e' : ¬ b = a := fun h => e h.symm
    by_cases k : ltS a b = true
    · simp [k, h2 k, e, e']
    · have : ltS b a = true := by rcases h1 with h | h | h <;> first | exact absurd h k | exact absurd h e | exact h
      simp [k, this, e]
theorem lexI_neg (a b : Int) : lexI (-a) (-b) = -lexI a b := by unfold lexI; split <;> split <;> omega
theorem ordE_neg (a b : GEvent) : ordE b a = -ordE a b := by unfold ordE; rw [cmpI_neg a.Time, cmpI_neg a.Source, cmpI_neg a.Seq, lexI_neg, lexI_neg]
theorem ordP_neg (a b : GPair) : ordP b a = -ordP a b := by unfold ordP; rw [ordE_neg, cmpS_neg a.Var, lexI_neg]
theorem rk_neg : ∀ (l r : List GPair), rk r l = -rk l r
  | [], [] => rfl
  | [], _ :: _ => rfl
  | _ :: _, [] => rfl
  | a :: l, b :: r => by rw [rk, rk, ordP_neg, rk_neg l r, lexI_neg]
theorem rk_self (l : List GPair) : rk l l = 0 := by have := rk_neg l l; omega
theorem cmpI_set (a b : Int) : cmpI a b = -1 ∨ cmpI a b = 0 ∨ cmpI a b = 1 := by unfold cmpI; split <;> (try split) <;> simp
theorem cmpS_set (a b : List UInt8) : cmpS a b = -1 ∨ cmpS a b = 0 ∨ cmpS a b = 1 := by unfold cmpS; split <;> (try split) <;> simp
theorem lexI_set {a b : Int} (ha : a = -1 ∨ a = 0 ∨ a = 1) (hb : b = -1 ∨ b = 0 ∨ b = 1) : lexI a b = -1 ∨ lexI a b = 0 ∨ lexI a b = 1 := by unfold lexI; split <;> assumption
theorem ordE_set (a b : GEvent) : ordE a b = -1 ∨ ordE a b = 0 ∨ ordE a b = 1 := lexI_set (cmpI_set _ _) (lexI_set (cmpI_set _ _) (cmpI_set _ _))
theorem ordP_set (a b : GPair) : ordP a b = -1 ∨ ordP a b = 0 ∨ ordP a b = 1 := lexI_set (ordE_set _ _) (cmpS_set _ _)
/-! ### the models -/
theorem compI_ok (a b : Int) : m_cmp_Compare_int a b = some (cmpI a b) := by
  unfold m_cmp_Compare_int m_cmp_isNaN_int cmpI
  simp only [obind_some, ne_eq, not_true, decide_false, cond_false]
  by_cases h : a < b
  · simp [h]
  · by_cases k : b < a <;> simp [h, k]
theorem compS_ok (a b : List UInt8) : m_cmp_Compare_string a b = some (cmpS a b) := by
  unfold m_cmp_Compare_string m_cmp_isNaN_string cmpS
  simp only [obind_some, ne_eq, not_true, decide_false, cond_false, gtS_iff]
  by_cases h : ltS a b = true
  · simp [h]
  · by_cases e : a = b
    · subst e; simp [Bool.eq_false_iff.2 h]
    · have : ltS b a = true := by rcases ltS_tot (x := a) (y := b) with k | k | k <;> first | exact absurd k h | exact absurd k e | exact k
      simp [Bool.eq_false_iff.2 h, this, e]
theorem or_ok (a b c d : Int) : m_cmp_Or_int [a, b, c, d] = some (lexI a (lexI b (lexI c d))) := by
  have step : ∀ (l : List Int) (fu i : Nat), l.length ≤ 100 → i < l.length → m_cmp_Or_int_l1 l (fu + 1) (i : Int) = if l.getD i 0 ≠ 0 then some (l.getD i 0) else m_cmp_Or_int_l1 l fu ((i + 1 : Nat) : Int) := fun l fu i hl hi => by
    conv => lhs; unfold m_cmp_Or_int_l1
    rw [d_lt (by omega), cond_true, geti_lt hi, obind_some, inc_ok (by omega)]
    simp only [List.getD_eq_getElem?_getD, List.getElem?_eq_getElem hi, Option.getD_some]
    by_cases h : l[i] = 0 <;> simp [h]
  have e : m_cmp_Or_int [a, b, c, d] = m_cmp_Or_int_l1 [a, b, c, d] (1152921504606846971 + 1 + 1 + 1 + 1 + 1) ((0 : Nat) : Int) := rfl
  rw [e, step _ _ 0 (by simp) (by simp), step _ _ 1 (by simp) (by simp), step _ _ 2 (by simp) (by simp), step _ _ 3 (by simp) (by simp)]
  have last : ∀ fu, m_cmp_Or_int_l1 [a, b, c, d] (fu + 1) ((4 : Nat) : Int) = some 0 := fun fu => by
    unfold m_cmp_Or_int_l1; rw [d_nlt (by simp), cond_false]
  rw [last]
  simp only [List.getD_cons_zero, List.getD_cons_succ, lexI]
  by_cases ha : a = 0 <;> by_cases hb : b = 0 <;> by_cases hc : c = 0 <;> by_cases hd : d = 0 <;> simp [ha, hb, hc, hd]
theorem lexI_assoc (a b c : Int) : lexI (lexI a b) c = lexI a (lexI b c) := by unfold lexI; by_cases ha : a = 0 <;> simp [ha]
theorem order_ok (a b : GPair) : m_bind_order a b = some (ordP a b) := by
  unfold m_bind_order m_event_Event_ID
  simp only [obind_some, compI_ok, compS_ok, or_ok, ordP, ordE, lexI_assoc]
theorem rank_ok (l r : List GPair) (hl : l.length ≤ 400000000) : m_bind_Rank l r = some (rk l r) := by
  unfold m_bind_Rank m_slices_CompareFunc_Pairbind_Pair_bind_Pair_bind_Pair__bind_order
  rw [bind_of (x := rk l r)]
  have := loop1_0 (L := fun fu i => m_slices_CompareFunc_Pairbind_Pair_bind_Pair_bind_Pair__bind_order_l1 l r fu i) (n := l.length) (P := fun i o => i ≤ r.length → o = some (rk (l.drop i) (r.drop i))) (by omega)
    (fun fu hr => by
      unfold m_slices_CompareFunc_Pairbind_Pair_bind_Pair_bind_Pair__bind_order_l1
      rw [d_nlt (by omega), cond_false, List.drop_of_length_le (Nat.le_refl _)]
      by_cases h : l.length < r.length
      · rw [d_lt (by omega), drop_cons h]; rfl
      · rw [d_nlt (by omega), List.drop_of_length_le (by omega)]; rfl)
    (fun fu i hi ih hr => by
      unfold m_slices_CompareFunc_Pairbind_Pair_bind_Pair_bind_Pair__bind_order_l1
      rw [d_lt (by omega), cond_true, geti_lt hi, obind_some, drop_cons hi]
      by_cases h : i < r.length
      · rw [decide_eq_false (show ¬ ((r.length : Int) ≤ (i : Int)) by omega), cond_false, geti_lt h, obind_some, order_ok, obind_some, drop_cons h, rk, lexI, inc_ok (by omega), ih (by omega)]
        by_cases q : ordP l[i] r[i] = 0 <;> simp [q]
      · rw [decide_eq_true (show ((r.length : Int) ≤ (i : Int)) by omega), cond_true, List.drop_of_length_le (show r.length ≤ i by omega)]; rfl)
  simpa using this (Nat.zero_le _)
end Go.Proofs.Ytelhmhmgaaebpaa.K

namespace Go.Proofs.Ytelhmhmgaaebpaa.K
open Go.RowKit Go.Lib
structure Cmp {α : Type} (c : α → α → Int) : Prop where
  neg : ∀ x y, c y x = -c x y
  tr : ∀ x y z, c x y ≤ 0 → c y z ≤ 0 → c x z ≤ 0
section
variable {α β : Type} {c c1 c2 : α → α → Int}
theorem Cmp.lt1 (h : Cmp c) {x y z : α} (h1 : c x y ≤ 0) (h2 : c y z < 0) : c x z < 0 := by
  rcases Int.lt_or_le (c x z) 0 with k | k
  · exact k
  · have e1 := h.neg x z
    have e2 := h.neg y z
    have := h.tr z x y (by omega) h1
    omega
theorem Cmp.lt2 (h : Cmp c) {x y z : α} (h1 : c x y < 0) (h2 : c y z ≤ 0) : c x z < 0 := by
  rcases Int.lt_or_le (c x z) 0 with k | k
  · exact k
  · have e1 := h.neg x z
    have e2 := h.neg x y
    have := h.tr y z x h2 (by omega)
    omega
theorem Cmp.eq1 (h : Cmp c) {x y z : α} (h1 : c x y = 0) (h2 : c y z = 0) : c x z = 0 := by
  have a := h.tr x y z (by omega) (by omega)
  have e1 := h.neg x y
  have e2 := h.neg y z
  have e3 := h.neg x z
  have b := h.tr z y x (by omega) (by omega)
  omega
theorem Cmp.comap (h : Cmp c) (f : β → α) : Cmp (fun x y => c (f x) (f y)) := ⟨fun x y => h.neg _ _, fun x y z => h.tr _ _ _⟩
theorem Cmp.lex (h1 : Cmp c1) (h2 : Cmp c2) : Cmp (fun x y => lexI (c1 x y) (c2 x y)) := by
  refine ⟨fun x y => ?_, fun x y z a b => ?_⟩
  · show lexI (c1 y x) (c2 y x) = -lexI (c1 x y) (c2 x y)
    rw [h1.neg x y, h2.neg x y, lexI_neg]
  · simp only [lexI] at a b ⊢
    have e1 := h1.neg x y
    have e2 := h1.neg y z
    by_cases p : c1 x y = 0
    · by_cases q : c1 y z = 0
      · rw [if_neg (by simpa using p)] at a
        rw [if_neg (by simpa using q)] at b
        rw [if_neg (by simpa using h1.eq1 p q)]
        exact h2.tr x y z a b
      · rw [if_pos q] at b
        have := h1.lt1 (x := x) (y := y) (z := z) (by omega) (by omega)
        rw [if_pos (by omega)]; omega
    · rw [if_pos p] at a
      have hb : c1 y z ≤ 0 := by
        by_cases q : c1 y z = 0
        · omega
        · rw [if_pos q] at b; exact b
      have := h1.lt2 (x := x) (y := y) (z := z) (by omega) hb
      rw [if_pos (by omega)]; omega
end
theorem cmpI_c : Cmp cmpI := ⟨fun x y => cmpI_neg x y, fun x y z => by unfold cmpI; split <;> split <;> (try split) <;> (try split) <;> (try split) <;> omega⟩
theorem cmpS_le {a b : List UInt8} : cmpS a b ≤ 0 ↔ ¬ ltS b a = true := by
  rcases cmpS_set a b with h | h | h
  · have : ltS a b = true := by unfold cmpS at h; split at h <;> (try split at h) <;> first | assumption | omega
    simp [h, ltS_asym this]
  · have := cmpS_zero.1 h; subst this; simp [h, ltS_irr a]
  · have hn := cmpS_neg a b
    have : ltS b a = true := by
      have hb : cmpS b a = -1 := by omega
      unfold cmpS at hb; split at hb <;> (try split at hb) <;> first | assumption | omega
    simp [h, this]
theorem cmpS_c : Cmp cmpS := ⟨fun x y => cmpS_neg x y, fun x y z a b => by
  rw [cmpS_le] at a b ⊢
  intro k
  rcases ltS_tot (x := x) (y := y) with h | h | h
  · rcases ltS_tot (x := y) (y := z) with h' | h' | h'
    · exact ltS_asym (ltS_trans h h') k
    · subst h'; exact ltS_asym h k
    · exact b h'
  · subst h; exact b k
  · exact a h⟩
theorem ordE_c : Cmp ordE := (cmpI_c.comap GEvent.Time).lex ((cmpI_c.comap GEvent.Source).lex (cmpI_c.comap GEvent.Seq))
theorem ordP_c : Cmp ordP := (ordE_c.comap GPair.E).lex (cmpS_c.comap GPair.Var)
theorem rk_tr : ∀ (x y z : List GPair), rk x y ≤ 0 → rk y z ≤ 0 → rk x z ≤ 0
  | [], _, [], _, _ => by simp [rk]
  | [], _, _ :: _, _, _ => by simp [rk]
  | _ :: _, [], _, h, _ => by simp [rk] at h
  | _ :: _, _ :: _, [], _, h => by simp [rk] at h
  | a :: x, b :: y, d :: z, h1, h2 => by
    simp only [rk, lexI] at h1 h2 ⊢
    by_cases p : ordP a b = 0
    · by_cases q : ordP b d = 0
      · rw [if_neg (by simpa using p)] at h1
        rw [if_neg (by simpa using q)] at h2
        rw [if_neg (by simpa using ordP_c.eq1 p q)]
        exact rk_tr x y z h1 h2
      · rw [if_pos q] at h2
        have := ordP_c.lt1 (x := a) (y := b) (z := d) (by omega) (by have := ordP_set b d; omega)
        rw [if_pos (by omega)]; omega
    · rw [if_pos p] at h1
      have hb : ordP b d ≤ 0 := by
        by_cases q : ordP b d = 0
        · omega
        · rw [if_pos q] at h2; exact h2
      have := ordP_c.lt2 (x := a) (y := b) (z := d) (by omega) hb
      rw [if_pos (by omega)]; omega
theorem rk_c : Cmp rk := ⟨fun x y => rk_neg x y, rk_tr⟩
end Go.Proofs.Ytelhmhmgaaebpaa.K

namespace Go.Proofs.Ytelhmhmgaaebpaa.K
open Go.RowKit Go.Lib
namespace m_trail_Trail_Ripe_1_sort
theorem swr_l {P M post : List GWait} : ∀ (X2 Y2 X1 Y1 : List GWait) (fu : Nat) (n b : Int), X2.length = Y2.length → X1.length = Y1.length → X2.length < fu → n = (X1.length : Int) + X2.length → b = (P.length : Int) + n + M.length → b + n ≤ 1000000000 →
    m_slices_swapRangeCmpFunc_trail_Wait__trail_Trail_Ripe_1_l0 (P.length : Int) b n fu (P ++ (Y1 ++ (X2 ++ (M ++ (X1 ++ (Y2 ++ post)))))) (X1.length : Int) = some (P ++ (Y1 ++ (Y2 ++ (M ++ (X1 ++ (X2 ++ post))))))
  | _, _, _, _, 0, _, _, _, _, h, _, _, _ => by omega
  | [], Y2, X1, Y1, fu + 1, n, b, h1, h2, h3, hn, hb, hB => by
    obtain rfl : Y2 = [] := List.eq_nil_of_length_eq_zero (by simpa using h1.symm)
    unfold m_slices_swapRangeCmpFunc_trail_Wait__trail_Trail_Ripe_1_l0
    simp only [List.length_nil] at hn
    rw [d_nlt (by omega), cond_false]
  | x :: X2, [], X1, Y1, fu + 1, n, b, h1, h2, h3, hn, hb, hB => by simp at h1
  | x :: X2, y :: Y2, X1, Y1, fu + 1, n, b, h1, h2, h3, hn, hb, hB => by
    simp only [List.length_cons] at h1 h3 hn
    have e : P ++ (Y1 ++ (x :: X2 ++ (M ++ (X1 ++ (y :: Y2 ++ post))))) = (P ++ Y1) ++ x :: ((X2 ++ (M ++ X1)) ++ y :: (Y2 ++ post)) := by simp
    obtain ⟨k1, k2, k3, k4⟩ := swp (i := (P.length : Int) + (X1.length : Int)) (j := b + (X1.length : Int)) e (by simp; omega) (by simp; omega)
    unfold m_slices_swapRangeCmpFunc_trail_Wait__trail_Trail_Ripe_1_l0
    rw [d_lt (by omega), cond_true, w64 (n := b + (X1.length : Int)) (by omega) (by omega), w64 (n := (P.length : Int) + (X1.length : Int)) (by omega) (by omega), k2, obind_some, k1, obind_some, obind_some, k3, obind_some, k4, inc_ok (by omega)]
    have ih := swr_l (P := P) (M := M) (post := post) X2 Y2 (X1 ++ [x]) (Y1 ++ [y]) fu n b (by omega) (by simp; omega) (by omega) (by simp; omega) hb hB
    have e2 : (P ++ Y1) ++ y :: ((X2 ++ (M ++ X1)) ++ x :: (Y2 ++ post)) = P ++ (Y1 ++ [y] ++ (X2 ++ (M ++ (X1 ++ [x] ++ (Y2 ++ post))))) := by simp
    have e3 : (((X1 ++ [x]).length : Nat) : Int) = ((X1.length + 1 : Nat) : Int) := by simp
    rw [e2]
    rw [e3] at ih
    rw [ih]; simp
theorem swr {P X M Y post : List GWait} {b n a : Int} (h : X.length = Y.length) (ha : a = (P.length : Int)) (hn : n = (X.length : Int)) (hb : b = (P.length : Int) + X.length + M.length) (hB : b + n ≤ 1000000000) :
    m_slices_swapRangeCmpFunc_trail_Wait__trail_Trail_Ripe_1 (P ++ (X ++ (M ++ (Y ++ post)))) a b n = some (P ++ (Y ++ (M ++ (X ++ post)))) := by
  subst ha
  unfold m_slices_swapRangeCmpFunc_trail_Wait__trail_Trail_Ripe_1
  have := swr_l (P := P) (M := M) (post := post) X Y [] [] 1152921504606846976 n b h rfl (by omega) (by simpa using hn) (by omega) hB
  simpa using this
theorem rot_l : ∀ (fu : Nat) (P A B post : List GWait) (p : Int), A ≠ [] → B ≠ [] → A.length + B.length < fu → p = (P.length : Int) + A.length → (P.length : Int) + A.length + B.length ≤ 500000000 →
    m_slices_rotateCmpFunc_trail_Wait__trail_Trail_Ripe_1_l0 p fu (P ++ (A ++ (B ++ post))) (A.length : Int) (B.length : Int) = some (P ++ (B ++ (A ++ post)))
  | 0, _, _, _, _, _, _, _, h, _, _ => by omega
  | fu + 1, P, A, B, post, p, hA, hB, hf, hp, hb => by
    have hA0 : 0 < A.length := List.length_pos_iff.2 hA
    have hB0 : 0 < B.length := List.length_pos_iff.2 hB
    unfold m_slices_rotateCmpFunc_trail_Wait__trail_Trail_Ripe_1_l0
    by_cases h1 : A.length = B.length
    · rw [decide_eq_false (by omega), cond_false, w64 (by omega) (by omega)]
      have := swr (P := P) (X := A) (M := []) (Y := B) (post := post) (a := p - (A.length : Int)) (b := p) (n := (A.length : Int)) h1 (by omega) rfl (by simp; omega) (by omega)
      simp only [List.nil_append] at this
      rw [this, obind_some]
    · rw [decide_eq_true (by omega), cond_true]
      by_cases h2 : B.length < A.length
      · rw [d_lt (by omega), cond_true, w64 (n := p - (A.length : Int)) (by omega) (by omega), w64 (n := (A.length : Int) - (B.length : Int)) (by omega) (by omega)]
        have eA : A = A.take B.length ++ A.drop B.length := (List.take_append_drop _ _).symm
        have l1 : (A.take B.length).length = B.length := by rw [List.length_take]; omega
        have l2 : (A.drop B.length).length = A.length - B.length := List.length_drop
        have := swr (P := P) (X := A.take B.length) (M := A.drop B.length) (Y := B) (post := post) (a := p - (A.length : Int)) (b := p) (n := (B.length : Int)) l1 (by omega) (by omega) (by omega) (by omega)
        have e : P ++ (A ++ (B ++ post)) = P ++ (A.take B.length ++ (A.drop B.length ++ (B ++ post))) := by conv => lhs; rw [eA]; simp only [List.append_assoc]
        rw [e, this, obind_some]
        have ih := rot_l fu (P ++ B) (A.drop B.length) (A.take B.length) post p (List.ne_nil_of_length_pos (by omega)) (List.ne_nil_of_length_pos (by omega)) (by omega) (by simp; omega) (by simp; omega)
        rw [l1, l2] at ih
        have e2 : P ++ (B ++ (A.drop B.length ++ (A.take B.length ++ post))) = P ++ B ++ (A.drop B.length ++ (A.take B.length ++ post)) := by simp
        rw [e2, show (A.length : Int) - (B.length : Int) = ((A.length - B.length : Nat) : Int) by omega, ih]
        conv => rhs; rw [eA]
        simp only [List.append_assoc]
      · rw [d_nlt (by omega), cond_false, w64 (n := p - (A.length : Int)) (by omega) (by omega), w64 (n := p + (B.length : Int)) (by omega) (by omega), w64 (n := p + (B.length : Int) - (A.length : Int)) (by omega) (by omega), w64 (n := (B.length : Int) - (A.length : Int)) (by omega) (by omega)]
        have eB : B = B.take (B.length - A.length) ++ B.drop (B.length - A.length) := (List.take_append_drop _ _).symm
        have l1 : (B.take (B.length - A.length)).length = B.length - A.length := by rw [List.length_take]; omega
        have l2 : (B.drop (B.length - A.length)).length = A.length := by rw [List.length_drop]; omega
        have := swr (P := P) (X := A) (M := B.take (B.length - A.length)) (Y := B.drop (B.length - A.length)) (post := post) (a := p - (A.length : Int)) (b := p + (B.length : Int) - (A.length : Int)) (n := (A.length : Int)) (by omega) (by omega) (by omega) (by omega) (by omega)
        have e : P ++ (A ++ (B ++ post)) = P ++ (A ++ (B.take (B.length - A.length) ++ (B.drop (B.length - A.length) ++ post))) := by conv => lhs; rw [eB]; simp only [List.append_assoc]
        rw [e, this, obind_some]
        have ih := rot_l fu P (B.drop (B.length - A.length)) (B.take (B.length - A.length)) (A ++ post) p (List.ne_nil_of_length_pos (by omega)) (List.ne_nil_of_length_pos (by omega)) (by omega) (by omega) (by omega)
        rw [l1, l2] at ih
        rw [show (B.length : Int) - (A.length : Int) = ((B.length - A.length : Nat) : Int) by omega, ih]
        conv => rhs; rw [eB]
        simp only [List.append_assoc]
theorem rot {P A B post : List GWait} {a p b : Int} (hA : A ≠ []) (hB : B ≠ []) (ha : a = (P.length : Int)) (hp : p = (P.length : Int) + A.length) (hb : b = (P.length : Int) + A.length + B.length) (hx : b ≤ 500000000) :
    m_slices_rotateCmpFunc_trail_Wait__trail_Trail_Ripe_1 (P ++ (A ++ (B ++ post))) a p b = some (P ++ (B ++ (A ++ post))) := by
  unfold m_slices_rotateCmpFunc_trail_Wait__trail_Trail_Ripe_1
  rw [w64 (n := p - a) (by omega) (by omega), w64 (n := b - p) (by omega) (by omega), show p - a = (A.length : Int) by omega, show b - p = (B.length : Int) by omega]
  exact rot_l _ P A B post p hA hB (by omega) hp (by omega)
/-! ### one is moved -/
theorem mv_up {x : GWait} {post : List GWait} : ∀ (Y : List GWait) (fu : Nat) (P : List GWait) (k : Int), Y.length < fu → k = (P.length : Int) + Y.length + 1 → k ≤ 500000000 → m_slices_symMergeCmpFunc_trail_Wait__trail_Trail_Ripe_1_l4 k fu (P ++ x :: (Y ++ post)) (P.length : Int) = some (P ++ (Y ++ x :: post))
  | _, 0, _, _, h, _, _ => by omega
  | [], fu + 1, P, k, hf, hk, hb => by
    unfold m_slices_symMergeCmpFunc_trail_Wait__trail_Trail_Ripe_1_l4
    simp only [List.length_nil] at hk
    rw [w64 (n := k - 1) (by omega) (by omega), d_nlt (by omega), cond_false]; rfl
  | y :: Y, fu + 1, P, k, hf, hk, hb => by
    simp only [List.length_cons] at hk hf
    obtain ⟨k1, k2, k3, k4⟩ := swp (l := P ++ x :: (y :: Y ++ post)) (p := P) (x := x) (m := []) (y := y) (q := Y ++ post) (i := (P.length : Int)) (j := (P.length : Int) + 1) rfl rfl (by simp)
    unfold m_slices_symMergeCmpFunc_trail_Wait__trail_Trail_Ripe_1_l4
    rw [w64 (n := k - 1) (by omega) (by omega), d_lt (by omega), cond_true, w64 (n := (P.length : Int) + 1) (by omega) (by omega), k2, obind_some, k1, obind_some, obind_some, k3, obind_some, k4]
    have ih := mv_up (x := x) (post := post) Y fu (P ++ [y]) k (by omega) (by simp; omega) hb
    rw [show (((P ++ [y]).length : Nat) : Int) = (P.length : Int) + 1 by simp] at ih
    simp only [List.append_assoc, List.cons_append, List.nil_append] at ih ⊢
    exact ih
theorem mv_dn {x : GWait} {P : List GWait} : ∀ (n : Nat) (Y post : List GWait) (fu : Nat) (k : Int), Y.length = n → n < fu → k = (P.length : Int) + n → k ≤ 500000000 → m_slices_symMergeCmpFunc_trail_Wait__trail_Trail_Ripe_1_l10 (P.length : Int) fu (P ++ (Y ++ x :: post)) k = some (P ++ x :: (Y ++ post))
  | _, _, _, 0, _, _, h, _, _ => by omega
  | 0, Y, post, fu + 1, k, hn, hf, hk, hb => by
    obtain rfl : Y = [] := List.eq_nil_of_length_eq_zero hn
    unfold m_slices_symMergeCmpFunc_trail_Wait__trail_Trail_Ripe_1_l10
    rw [d_nlt (by omega), cond_false]; rfl
  | n + 1, Y, post, fu + 1, k, hn, hf, hk, hb => by
    obtain ⟨Z, y, rfl⟩ : ∃ Z y, Y = Z ++ [y] := ⟨Y.dropLast, Y.getLast (List.ne_nil_of_length_pos (by omega)), (List.dropLast_concat_getLast _).symm⟩
    simp only [List.length_append, List.length_singleton] at hn
    have e : P ++ (Z ++ [y] ++ x :: post) = (P ++ Z) ++ y :: ([] ++ x :: post) := by simp
    obtain ⟨k1, k2, k3, k4⟩ := swp' (i := k - 1) (j := k) e (by simp; omega) (by simp; omega)
    unfold m_slices_symMergeCmpFunc_trail_Wait__trail_Trail_Ripe_1_l10
    rw [d_lt (by omega), cond_true, w64 (n := k - 1) (by omega) (by omega), k1, obind_some, k2, obind_some, obind_some, k3, obind_some, k4]
    have ih := mv_dn (x := x) (P := P) n Z (y :: post) fu (k - 1) (by omega) (by omega) (by omega) (by omega)
    simp only [List.append_assoc, List.cons_append, List.nil_append] at ih ⊢
    exact ih
/-! ### insertion -/
section
variable {Q : GWait → Prop} {c : GWait → GWait → Int} (hc : ∀ x y, Q x → Q y → m_trail_Trail_Ripe_1 x y = some (c x y)) (O : Ord Q (ltc c))
include hc O
theorem ins_in {x : GWait} {P : List GWait} {k : List GWait → Int → Option (List GWait)} {y8 : Int} (hx : Q x) : ∀ (n : Nat) (S rest : List GWait) (fu : Nat) (j : Int), S.length = n → n < fu → j = (P.length : Int) + n → j ≤ 500000000 → Srt (ltc c) S → (∀ z ∈ S, Q z) →
    m_slices_insertionSortCmpFunc_trail_Wait__trail_Trail_Ripe_1_l1 (P.length : Int) y8 k fu (P ++ (S ++ x :: rest)) j = k (P ++ (insS (ltc c) S x ++ rest)) (IntKind.i64.wrap (y8 + 1))
  | _, _, _, 0, _, _, h, _, _, _, _ => by omega
  | 0, S, rest, fu + 1, j, hn, hf, hj, hb, hs, hq => by
    obtain rfl : S = [] := List.eq_nil_of_length_eq_zero hn
    unfold m_slices_insertionSortCmpFunc_trail_Wait__trail_Trail_Ripe_1_l1
    rw [d_nlt (by omega), cond_false]; rfl
  | n + 1, S, rest, fu + 1, j, hn, hf, hj, hb, hs, hq => by
    obtain ⟨Z, y, rfl⟩ : ∃ Z y, S = Z ++ [y] := ⟨S.dropLast, S.getLast (List.ne_nil_of_length_pos (by omega)), (List.dropLast_concat_getLast _).symm⟩
    simp only [List.length_append, List.length_singleton] at hn
    have e : P ++ (Z ++ [y] ++ x :: rest) = (P ++ Z) ++ y :: ([] ++ x :: rest) := by simp
    obtain ⟨k1, k2, k3, k4⟩ := swp' (i := j - 1) (j := j) e (by simp; omega) (by simp; omega)
    have hs' := Srt.app.1 hs
    have hy : Q y := hq y (by simp)
    unfold m_slices_insertionSortCmpFunc_trail_Wait__trail_Trail_Ripe_1_l1
    rw [d_lt (by omega), cond_true, w64 (n := j - 1) (by omega) (by omega), k2, obind_some, k1, obind_some, hc x y hx hy, obind_some]
    by_cases hl : c x y < 0
    · rw [d_lt hl, cond_true, obind_some, obind_some, obind_some, k3, obind_some, k4, insS_snoc (lt := ltc c) hl]
      have ih := ins_in (P := P) (k := k) (y8 := y8) hx n Z (y :: rest) fu (j - 1) (by omega) (by omega) (by omega) (by omega) hs'.1 (fun z hz => hq z (by simp [hz]))
      simp only [List.append_assoc, List.cons_append, List.nil_append] at ih ⊢
      exact ih
    · rw [d_nlt hl, cond_false, insS_end fun z hz => ?_]
      · simp
      · rcases List.mem_append.1 hz with hz | hz
        · have h1 := hs'.2.2 z hz y (by simp)
          exact O.trans z y x (hq z (by simp [hz])) hy hx h1 hl
        · simp only [List.mem_singleton] at hz; subst hz; exact hl
theorem ins_out {P post : List GWait} {p2 : Int} : ∀ (T S : List GWait) (fu : Nat) (y8 : Int), T.length < fu → y8 = (P.length : Int) + S.length → p2 = (P.length : Int) + S.length + T.length → p2 ≤ 500000000 → Srt (ltc c) S → (∀ z ∈ S, Q z) → (∀ z ∈ T, Q z) →
    m_slices_insertionSortCmpFunc_trail_Wait__trail_Trail_Ripe_1_l0 (P.length : Int) p2 fu (P ++ (S ++ (T ++ post))) y8 = some (P ++ (T.foldl (insS (ltc c)) S ++ post))
  | _, _, 0, _, h, _, _, _, _, _, _ => by omega
  | [], S, fu + 1, y8, hf, h8, h2, hb, hs, hq, ht => by
    unfold m_slices_insertionSortCmpFunc_trail_Wait__trail_Trail_Ripe_1_l0
    simp only [List.length_nil] at h2
    rw [d_nlt (by omega), cond_false]; rfl
  | x :: T, S, fu + 1, y8, hf, h8, h2, hb, hs, hq, ht => by
    simp only [List.length_cons] at h2 hf
    have hx := ht x (by simp)
    have := ins_in hc O (P := P) (k := fun y0_0 y8_0 => m_slices_insertionSortCmpFunc_trail_Wait__trail_Trail_Ripe_1_l0 (P.length : Int) p2 fu y0_0 y8_0) (y8 := y8) hx S.length S (T ++ post) 1152921504606846976 y8 rfl (by omega) h8 (by omega) hs hq
    unfold m_slices_insertionSortCmpFunc_trail_Wait__trail_Trail_Ripe_1_l0
    rw [d_lt (by omega), cond_true, List.cons_append, this, w64 (by omega) (by omega), List.foldl_cons]
    have hp := insS_perm (lt := ltc c) S x
    have hl := hp.length_eq
    simp only [List.length_append, List.length_singleton] at hl
    exact ins_out T (insS (ltc c) S x) fu (y8 + 1) (by omega) (by omega) (by omega) hb (insS_srt O hs hq hx) (fun z hz => by
      rcases List.mem_append.1 (hp.mem_iff.1 hz) with h | h
      · exact hq z h
      · simp only [List.mem_singleton] at h; subst h; exact hx) (fun z hz => ht z (by simp [hz]))
theorem ins_ok {P A post : List GWait} {a b : Int} (ha : a = (P.length : Int)) (hb : b = (P.length : Int) + A.length) (hB : b ≤ 500000000) (hq : ∀ z ∈ A, Q z) : m_slices_insertionSortCmpFunc_trail_Wait__trail_Trail_Ripe_1 (P ++ (A ++ post)) a b = some (P ++ (isort (ltc c) A ++ post)) := by
  subst ha
  unfold m_slices_insertionSortCmpFunc_trail_Wait__trail_Trail_Ripe_1
  rw [w64 (by omega) (by omega)]
  cases A with
  | nil =>
    show m_slices_insertionSortCmpFunc_trail_Wait__trail_Trail_Ripe_1_l0 _ _ (1152921504606846975 + 1) _ _ = _
    unfold m_slices_insertionSortCmpFunc_trail_Wait__trail_Trail_Ripe_1_l0
    simp only [List.length_nil] at hb
    rw [d_nlt (by omega), cond_false]; rfl
  | cons x T =>
    simp only [List.length_cons] at hb
    have := ins_out hc O (P := P) (post := post) (p2 := b) T [x] 1152921504606846976 ((P.length : Int) + 1) (by omega) (by simp) (by simp; omega) hB (Srt.one x) (fun z hz => by simp at hz; subst hz; exact hq z (by simp)) (fun z hz => hq z (by simp [hz]))
    exact this
/-! ### two are merged -/
theorem sym_ok : ∀ (fu : Nat) (P A B post : List GWait) (p1 p2 p3 : Int), A ≠ [] → B ≠ [] → A.length + B.length < fu → p1 = (P.length : Int) → p2 = (P.length : Int) + A.length → p3 = (P.length : Int) + A.length + B.length → p3 ≤ 200000000 →
    (∀ z ∈ A, Q z) → (∀ z ∈ B, Q z) → Srt (ltc c) A → Srt (ltc c) B → ∃ C, C.Perm (A ++ B) ∧ Srt (ltc c) C ∧ m_slices_symMergeCmpFunc_trail_Wait__trail_Trail_Ripe_1 fu (P ++ (A ++ (B ++ post))) p1 p2 p3 = some (P ++ (C ++ post))
  | 0, _, _, _, _, _, _, _, _, _, h, _, _, _, _, _, _, _, _ => by omega
  | fu + 1, P, A, B, post, p1, p2, p3, hA, hB, hf, h1, h2, h3, hb, qA, qB, sA, sB => by
    have hA0 : 0 < A.length := List.length_pos_iff.2 hA
    have hB0 : 0 < B.length := List.length_pos_iff.2 hB
    unfold m_slices_symMergeCmpFunc_trail_Wait__trail_Trail_Ripe_1
    by_cases ca : A.length = 1
    · obtain ⟨x, rfl⟩ := List.length_eq_one_iff.1 ca
      have hx : Q x := qA x (by simp)
      rw [w64 (n := p2 - p1) (by omega) (by omega), decide_eq_true (by simp at h2; omega), cond_true]
      simp only [List.length_singleton] at h2 h3 hf
      have key := half_loop (L := fun fu i j => m_slices_symMergeCmpFunc_trail_Wait__trail_Trail_Ripe_1_l0 (P ++ ([x] ++ (B ++ post))) p1 fu i j) (K := fun s => m_slices_symMergeCmpFunc_trail_Wait__trail_Trail_Ripe_1_l4 s 1152921504606846976 (P ++ ([x] ++ (B ++ post))) p1) (Pd := fun k => ltc c (B.getD (k - (P.length + 1)) default) x) (lo := P.length + 1) (hi := P.length + 1 + B.length)
        (fun fu i => by
          show m_slices_symMergeCmpFunc_trail_Wait__trail_Trail_Ripe_1_l0 _ _ (fu + 1) _ _ = _
          unfold m_slices_symMergeCmpFunc_trail_Wait__trail_Trail_Ripe_1_l0
          rw [d_nlt (by omega), cond_false])
        (fun fu i j hi hij hj => by
          show m_slices_symMergeCmpFunc_trail_Wait__trail_Trail_Ripe_1_l0 _ _ (fu + 1) _ _ = _
          conv => lhs; unfold m_slices_symMergeCmpFunc_trail_Wait__trail_Trail_Ripe_1_l0
          have ht : (i + j) / 2 - (P.length + 1) < B.length := by omega
          have g1 := geti_trd (P := P) (A := [x]) (B := B) (R := post) (d := default) (i := (((i + j) / 2 : Nat) : Int)) ht (by simp; omega)
          have g2 : geti (P ++ ([x] ++ (B ++ post))) p1 = some x := geti_at (p := P) (q := B ++ post) rfl h1
          rw [d_lt (by omega), cond_true, half_ok (by omega), g1, obind_some, g2, obind_some, hc _ _ (by rw [getD_lt ht]; exact qB _ (List.getElem_mem _)) hx, obind_some, inc_ok (by omega), obind_some]
          by_cases hl : c (B.getD ((i + j) / 2 - (P.length + 1)) default) x < 0
          · rw [d_lt hl, cond_true, if_pos hl]
          · rw [d_nlt hl, cond_false, if_neg hl])
        (fun k d h1 h2 h3 hd => by
          have hk : k - (P.length + 1) < B.length := by omega
          have hd' : d - (P.length + 1) < B.length := by omega
          simp only [getD_lt hk, getD_lt hd'] at hd ⊢
          refine Classical.byContradiction fun hn => ?_
          exact O.trans _ _ _ hx (qB _ (List.getElem_mem _)) (qB _ (List.getElem_mem _)) hn (Srt.at' O sB qB (i := k - (P.length + 1)) (j := d - (P.length + 1)) (by omega) hd') hd)
        1152921504606846976 (P.length + 1) (P.length + 1 + B.length) (Nat.le_refl _) (by omega) (Nat.le_refl _) (by omega) (fun c h1 h2 => by omega) (fun c h1 h2 => by omega)
      obtain ⟨s, s1, s2, hL, sa, sb⟩ := key
      have e1 : ((P.length + 1 : Nat) : Int) = p2 := by omega
      have e2 : ((P.length + 1 + B.length : Nat) : Int) = p3 := by omega
      simp only [e1, e2] at hL
      rw [hL]
      obtain ⟨t, rfl⟩ : ∃ t, s = P.length + 1 + t := ⟨s - (P.length + 1), by omega⟩
      have a1 : ∀ z ∈ B.take t, ltc c z x := take_pd (d := default) (pd := fun z => ltc c z x) (fun k hk => by have := sa (P.length + 1 + k) (by omega) (by omega); rwa [show P.length + 1 + k - (P.length + 1) = k by omega] at this) (by omega)
      have a2 : ∀ z ∈ B.drop t, ¬ ltc c z x := drop_pd (d := default) (pd := fun z => ¬ ltc c z x) (fun k hk hk2 => by have := sb (P.length + 1 + k) (by omega) (by omega); rwa [show P.length + 1 + k - (P.length + 1) = k by omega] at this)
      have eB : B = B.take t ++ B.drop t := (List.take_append_drop _ _).symm
      have lt1 : (B.take t).length = t := by rw [List.length_take]; omega
      have hs := sB
      rw [eB, Srt.app] at hs
      refine ⟨B.take t ++ x :: B.drop t, ?_, Srt.app.2 ⟨hs.1, List.pairwise_cons.2 ⟨a2, hs.2.1⟩, fun a ha b hb => ?_⟩, ?_⟩
      · have : (B.take t ++ x :: B.drop t).Perm (x :: (B.take t ++ B.drop t)) := List.perm_middle
        rw [List.take_append_drop] at this; exact this
      · rcases List.mem_cons.1 hb with rfl | hb
        · exact O.asym _ _ (qB a (List.mem_of_mem_take ha)) hx (a1 a ha)
        · exact hs.2.2 a ha b hb
      · have := mv_up (x := x) (post := B.drop t ++ post) (B.take t) 1152921504606846976 P ((P.length + 1 + t : Nat) : Int) (by omega) (by omega) (by omega)
        have e3 : P ++ ([x] ++ (B ++ post)) = P ++ x :: (B.take t ++ (B.drop t ++ post)) := by conv => lhs; rw [eB]; simp only [List.append_assoc, List.cons_append, List.nil_append]
        rw [e3, h1, this]; simp only [List.append_assoc, List.cons_append]
    · rw [w64 (n := p2 - p1) (by omega) (by omega), decide_eq_false (by omega), cond_false]
      by_cases cb : B.length = 1
      · obtain ⟨x, rfl⟩ := List.length_eq_one_iff.1 cb
        have hx : Q x := qB x (by simp)
        rw [w64 (n := p3 - p2) (by omega) (by omega), decide_eq_true (by simp at h3; omega), cond_true]
        simp only [List.length_singleton] at h3 hf
        have key := half_loop (L := fun fu i j => m_slices_symMergeCmpFunc_trail_Wait__trail_Trail_Ripe_1_l6 (P ++ (A ++ ([x] ++ post))) p2 fu i j) (K := fun s => m_slices_symMergeCmpFunc_trail_Wait__trail_Trail_Ripe_1_l10 s 1152921504606846976 (P ++ (A ++ ([x] ++ post))) p2) (Pd := fun k => ¬ ltc c x (A.getD (k - P.length) default)) (lo := P.length) (hi := P.length + A.length)
          (fun fu i => by
            show m_slices_symMergeCmpFunc_trail_Wait__trail_Trail_Ripe_1_l6 _ _ (fu + 1) _ _ = _
            unfold m_slices_symMergeCmpFunc_trail_Wait__trail_Trail_Ripe_1_l6
            rw [d_nlt (by omega), cond_false])
          (fun fu i j hi hij hj => by
            show m_slices_symMergeCmpFunc_trail_Wait__trail_Trail_Ripe_1_l6 _ _ (fu + 1) _ _ = _
            conv => lhs; unfold m_slices_symMergeCmpFunc_trail_Wait__trail_Trail_Ripe_1_l6
            have ht : (i + j) / 2 - P.length < A.length := by omega
            have g1 := geti_snd (P := P) (A := A) (R := [x] ++ post) (d := default) (i := (((i + j) / 2 : Nat) : Int)) ht (by omega)
            have g2 : geti (P ++ (A ++ ([x] ++ post))) p2 = some x := geti_at (p := P ++ A) (q := post) (by simp) (by simp; omega)
            rw [d_lt (by omega), cond_true, half_ok (by omega), g2, obind_some, g1, obind_some, hc _ _ hx (by rw [getD_lt ht]; exact qA _ (List.getElem_mem _)), obind_some, inc_ok (by omega), obind_some]
            by_cases hl : c x (A.getD ((i + j) / 2 - P.length) default) < 0
            · rw [d_lt hl, Bool.not_true, cond_false, if_neg (fun h => h hl)]
            · rw [d_nlt hl, Bool.not_false, cond_true, if_pos hl])
          (fun k d h1 h2 h3 hd => by
            have hk : k - P.length < A.length := by omega
            have hd' : d - P.length < A.length := by omega
            simp only [getD_lt hk, getD_lt hd'] at hd ⊢
            exact O.trans _ _ _ (qA _ (List.getElem_mem _)) (qA _ (List.getElem_mem _)) hx (Srt.at' O sA qA (i := k - P.length) (j := d - P.length) (by omega) hd') hd)
          1152921504606846976 P.length (P.length + A.length) (Nat.le_refl _) (by omega) (Nat.le_refl _) (by omega) (fun c h1 h2 => by omega) (fun c h1 h2 => by omega)
        obtain ⟨s, s1, s2, hL, sa, sb⟩ := key
        have e2 : ((P.length + A.length : Nat) : Int) = p2 := by omega
        simp only [e2, ← h1] at hL
        rw [hL]
        obtain ⟨t, rfl⟩ : ∃ t, s = P.length + t := ⟨s - P.length, by omega⟩
        have a1 : ∀ z ∈ A.take t, ¬ ltc c x z := take_pd (d := default) (pd := fun z => ¬ ltc c x z) (fun k hk => by have := sa (P.length + k) (by omega) (by omega); rwa [show P.length + k - P.length = k by omega] at this) (by omega)
        have a2 : ∀ z ∈ A.drop t, ltc c x z := drop_pd (d := default) (pd := fun z => ltc c x z) (fun k hk hk2 => by have := sb (P.length + k) (by omega) (by omega); rw [show P.length + k - P.length = k by omega] at this; exact Classical.not_not.1 this)
        have eA : A = A.take t ++ A.drop t := (List.take_append_drop _ _).symm
        have lt1 : (A.take t).length = t := by rw [List.length_take]; omega
        have ld1 : (A.drop t).length = A.length - t := List.length_drop
        have hs := sA
        rw [eA, Srt.app] at hs
        refine ⟨A.take t ++ x :: A.drop t, ?_, Srt.app.2 ⟨hs.1, List.pairwise_cons.2 ⟨fun b hb => ?_, hs.2.1⟩, fun a ha b hb => ?_⟩, ?_⟩
        · have : (A.take t ++ x :: A.drop t).Perm (x :: (A.take t ++ A.drop t)) := List.perm_middle
          rw [List.take_append_drop] at this
          exact this.trans (List.perm_append_singleton _ _).symm
        · exact O.asym _ _ hx (qA b (List.mem_of_mem_drop hb)) (a2 b hb)
        · rcases List.mem_cons.1 hb with rfl | hb
          · exact a1 a ha
          · exact hs.2.2 a ha b hb
        · have := mv_dn (x := x) (P := P ++ A.take t) (A.length - t) (A.drop t) post 1152921504606846976 p2 ld1 (by omega) (by simp; omega) (by omega)
          have e3 : P ++ (A ++ ([x] ++ post)) = P ++ A.take t ++ (A.drop t ++ x :: post) := by
            rw [List.append_assoc]
            conv => lhs; rw [eA]; simp only [List.append_assoc, List.cons_append, List.nil_append]
          have e4 : (((P ++ A.take t).length : Nat) : Int) = ((P.length + t : Nat) : Int) := by simp; omega
          rw [e4] at this
          rw [e3, this]; simp only [List.append_assoc, List.cons_append]
      · rw [w64 (n := p3 - p2) (by omega) (by omega), decide_eq_false (by omega), cond_false]
        -- the general case
        have hm : p1 + p3 = ((2 * P.length + A.length + B.length : Nat) : Int) := by omega
        generalize hmid : (2 * P.length + A.length + B.length) / 2 = mid
        have emid : IntKind.i64.wrap (Int.fdiv (IntKind.u64.wrap (IntKind.i64.wrap (p1 + p3))) (2 ^ 1)) = (mid : Int) := by
          have := half_ok (i := P.length) (j := P.length + A.length + B.length) (by omega)
          rw [show (P.length : Int) + ((P.length + A.length + B.length : Nat) : Int) = p1 + p3 by omega] at this
          rw [this]; congr 1; omega
        simp only [emid]
        rw [w64 (n := (mid : Int) + p2) (by omega) (by omega), obind_some]
        -- the search from lo to hi
        have search : ∀ lo hi : Nat, P.length ≤ lo → lo ≤ hi → hi ≤ P.length + A.length → hi ≤ mid → mid ≤ lo + B.length → (lo = P.length ∨ lo + B.length = mid) → (hi = mid ∨ hi = P.length + A.length) →
            ∃ C, C.Perm (A ++ B) ∧ Srt (ltc c) C ∧ m_slices_symMergeCmpFunc_trail_Wait__trail_Trail_Ripe_1_j14 (P ++ (A ++ (B ++ post))) p1 p2 p3 ((mid : Int) + p2) (fun p0 p1 p2 p3 => m_slices_symMergeCmpFunc_trail_Wait__trail_Trail_Ripe_1 fu p0 p1 p2 p3) (lo : Int) (hi : Int) = some (P ++ (C ++ post)) := by
          intro lo hi l1 l2 l3 l4 l5 l6 l7
          unfold m_slices_symMergeCmpFunc_trail_Wait__trail_Trail_Ripe_1_j14
          have key := half_loop (L := fun fu' i j => m_slices_symMergeCmpFunc_trail_Wait__trail_Trail_Ripe_1_l15 (P ++ (A ++ (B ++ post))) p1 p2 p3 ((mid : Int) + p2) (fun p0 p1 p2 p3 => m_slices_symMergeCmpFunc_trail_Wait__trail_Trail_Ripe_1 fu p0 p1 p2 p3) fu' i j)
            (K := fun s => cond (decide (s < p2)) (cond (decide (p2 < (IntKind.i64.wrap ((mid : Int) + p2 - s)))) (Option.bind (m_slices_rotateCmpFunc_trail_Wait__trail_Trail_Ripe_1 (P ++ (A ++ (B ++ post))) s p2 (IntKind.i64.wrap ((mid : Int) + p2 - s))) fun r => m_slices_symMergeCmpFunc_trail_Wait__trail_Trail_Ripe_1_j21 p1 p3 ((mid : Int) + p2) s (fun p0 p1 p2 p3 => m_slices_symMergeCmpFunc_trail_Wait__trail_Trail_Ripe_1 fu p0 p1 p2 p3) r)
              (m_slices_symMergeCmpFunc_trail_Wait__trail_Trail_Ripe_1_j21 p1 p3 ((mid : Int) + p2) s (fun p0 p1 p2 p3 => m_slices_symMergeCmpFunc_trail_Wait__trail_Trail_Ripe_1 fu p0 p1 p2 p3) (P ++ (A ++ (B ++ post))))) (m_slices_symMergeCmpFunc_trail_Wait__trail_Trail_Ripe_1_j21 p1 p3 ((mid : Int) + p2) s (fun p0 p1 p2 p3 => m_slices_symMergeCmpFunc_trail_Wait__trail_Trail_Ripe_1 fu p0 p1 p2 p3) (P ++ (A ++ (B ++ post)))))
            (Pd := fun k => ¬ ltc c (B.getD (mid - 1 - k) default) (A.getD (k - P.length) default)) (lo := lo) (hi := hi)
            (fun fu i => by
              show m_slices_symMergeCmpFunc_trail_Wait__trail_Trail_Ripe_1_l15 _ _ _ _ _ _ (fu + 1) _ _ = _
              unfold m_slices_symMergeCmpFunc_trail_Wait__trail_Trail_Ripe_1_l15
              rw [d_nlt (by omega), cond_false])
            (fun fu i j hi' hij hj => by
              show m_slices_symMergeCmpFunc_trail_Wait__trail_Trail_Ripe_1_l15 _ _ _ _ _ _ (fu + 1) _ _ = _
              conv => lhs; unfold m_slices_symMergeCmpFunc_trail_Wait__trail_Trail_Ripe_1_l15
              have ht : (i + j) / 2 - P.length < A.length := by omega
              have ht2 : mid - 1 - (i + j) / 2 < B.length := by omega
              have g1 := geti_snd (P := P) (A := A) (R := B ++ post) (d := default) (i := (((i + j) / 2 : Nat) : Int)) ht (by omega)
              have g2 := geti_trd (P := P) (A := A) (B := B) (R := post) (d := default) (i := (mid : Int) + p2 - 1 - (((i + j) / 2 : Nat) : Int)) ht2 (by omega)
              rw [d_lt (by omega), cond_true, half_ok (by omega), w64 (n := (mid : Int) + p2 - 1) (by omega) (by omega), w64 (n := (mid : Int) + p2 - 1 - (((i + j) / 2 : Nat) : Int)) (by omega) (by omega), obind_some, g2, obind_some, g1, obind_some,
                hc _ _ (by rw [getD_lt ht2]; exact qB _ (List.getElem_mem _)) (by rw [getD_lt ht]; exact qA _ (List.getElem_mem _)), obind_some, inc_ok (by omega), obind_some]
              by_cases hl : c (B.getD (mid - 1 - (i + j) / 2) default) (A.getD ((i + j) / 2 - P.length) default) < 0
              · rw [d_lt hl, Bool.not_true, cond_false, if_neg (fun h => h hl)]
              · rw [d_nlt hl, Bool.not_false, cond_true, if_pos hl])
            (fun k d h1 h2 h3 hd => by
              have k1 : k - P.length < A.length := by omega
              have d1 : d - P.length < A.length := by omega
              have k2 : mid - 1 - k < B.length := by omega
              have d2 : mid - 1 - d < B.length := by omega
              simp only [getD_lt k1, getD_lt d1, getD_lt k2, getD_lt d2] at hd ⊢
              refine O.trans _ _ _ (qA _ (List.getElem_mem _)) (qA _ (List.getElem_mem _)) (qB _ (List.getElem_mem _)) (Srt.at' O sA qA (i := k - P.length) (j := d - P.length) (by omega) d1) ?_
              exact O.trans _ _ _ (qA _ (List.getElem_mem _)) (qB _ (List.getElem_mem _)) (qB _ (List.getElem_mem _)) hd (Srt.at' O sB qB (i := mid - 1 - d) (j := mid - 1 - k) (by omega) k2))
            1152921504606846976 lo hi (Nat.le_refl _) l2 (Nat.le_refl _) (by omega) (fun c h1 h2 => by omega) (fun c h1 h2 => by omega)
          obtain ⟨s, s1, s2, hL, sa, sb⟩ := key
          rw [hL]
          clear hL
          have ea : A = A.take (s - P.length) ++ A.drop (s - P.length) := (List.take_append_drop _ _).symm
          have eb : B = B.take (mid - s) ++ B.drop (mid - s) := (List.take_append_drop _ _).symm
          have la1 : (A.take (s - P.length)).length = s - P.length := by rw [List.length_take]; omega
          have la2 : (A.drop (s - P.length)).length = A.length - (s - P.length) := List.length_drop
          have lb1 : (B.take (mid - s)).length = mid - s := by rw [List.length_take]; omega
          have lb2 : (B.drop (mid - s)).length = B.length - (mid - s) := List.length_drop
          have hsA := sA
          rw [ea, Srt.app] at hsA
          have hsB := sB
          rw [eb, Srt.app] at hsB
          have qA1 : ∀ z ∈ A.take (s - P.length), Q z := fun z hz => qA z (List.mem_of_mem_take hz)
          have qA2 : ∀ z ∈ A.drop (s - P.length), Q z := fun z hz => qA z (List.mem_of_mem_drop hz)
          have qB1 : ∀ z ∈ B.take (mid - s), Q z := fun z hz => qB z (List.mem_of_mem_take hz)
          have qB2 : ∀ z ∈ B.drop (mid - s), Q z := fun z hz => qB z (List.mem_of_mem_drop hz)
          -- the last of the first part is not beyond the second one's rest
          have x1 : ∀ a ∈ A.take (s - P.length), ∀ b ∈ B.drop (mid - s), ¬ ltc c b a := by
            intro a ha b hb
            obtain ⟨i, hi1, rfl⟩ := List.mem_iff_getElem.1 ha
            obtain ⟨j, hj1, rfl⟩ := List.mem_iff_getElem.1 hb
            rw [la1] at hi1; rw [lb2] at hj1
            rw [List.getElem_take, List.getElem_drop]
            have hs1 : lo < s := by
              rcases l6 with h | h
              · omega
              · omega
            have := sa (s - 1) (by omega) (by omega)
            have t1 : s - 1 - P.length < A.length := by omega
            have t2 : mid - 1 - (s - 1) < B.length := by omega
            simp only [getD_lt t1, getD_lt t2] at this
            refine O.trans _ _ _ (qA _ (List.getElem_mem _)) (qA _ (List.getElem_mem _)) (qB _ (List.getElem_mem _)) (Srt.at' O sA qA (i := i) (j := s - 1 - P.length) (by omega) t1) ?_
            exact O.trans _ _ _ (qA _ (List.getElem_mem _)) (qB _ (List.getElem_mem _)) (qB _ (List.getElem_mem _)) this (Srt.at' O sB qB (i := mid - 1 - (s - 1)) (j := mid - s + j) (by omega) (by omega))
          have x2 : ∀ b ∈ B.take (mid - s), ∀ a ∈ A.drop (s - P.length), ¬ ltc c a b := by
            intro b hb a ha
            obtain ⟨i, hi1, rfl⟩ := List.mem_iff_getElem.1 ha
            obtain ⟨j, hj1, rfl⟩ := List.mem_iff_getElem.1 hb
            rw [la2] at hi1; rw [lb1] at hj1
            rw [List.getElem_take, List.getElem_drop]
            have hs1 : s < hi := by
              rcases l7 with h | h
              · omega
              · omega
            have := sb s (by omega) (by omega)
            have t1 : s - P.length < A.length := by omega
            have t2 : mid - 1 - s < B.length := by omega
            simp only [getD_lt t1, getD_lt t2, Classical.not_not] at this
            have this := O.asym _ _ (qB _ (List.getElem_mem _)) (qA _ (List.getElem_mem _)) this
            refine O.trans _ _ _ (qB _ (List.getElem_mem _)) (qB _ (List.getElem_mem _)) (qA _ (List.getElem_mem _)) (Srt.at' O sB qB (i := j) (j := mid - 1 - s) (by omega) t2) ?_
            exact O.trans _ _ _ (qB _ (List.getElem_mem _)) (qA _ (List.getElem_mem _)) (qA _ (List.getElem_mem _)) this (Srt.at' O sA qA (i := s - P.length) (j := s - P.length + i) (by omega) (by omega))
          -- behind the rotation
          have rest : ∃ C, C.Perm (A ++ B) ∧ Srt (ltc c) C ∧ m_slices_symMergeCmpFunc_trail_Wait__trail_Trail_Ripe_1_j21 p1 p3 ((mid : Int) + p2) (s : Int) (fun p0 p1 p2 p3 => m_slices_symMergeCmpFunc_trail_Wait__trail_Trail_Ripe_1 fu p0 p1 p2 p3) (P ++ (A.take (s - P.length) ++ (B.take (mid - s) ++ (A.drop (s - P.length) ++ (B.drop (mid - s) ++ post))))) = some (P ++ (C ++ post)) := by
            have step1 : ∃ C1, C1.Perm (A.take (s - P.length) ++ B.take (mid - s)) ∧ Srt (ltc c) C1 ∧ ∀ R, m_slices_symMergeCmpFunc_trail_Wait__trail_Trail_Ripe_1_j21 p1 p3 ((mid : Int) + p2) (s : Int) (fun p0 p1 p2 p3 => m_slices_symMergeCmpFunc_trail_Wait__trail_Trail_Ripe_1 fu p0 p1 p2 p3) (P ++ (A.take (s - P.length) ++ (B.take (mid - s) ++ (A.drop (s - P.length) ++ (B.drop (mid - s) ++ post))))) = R ↔
                m_slices_symMergeCmpFunc_trail_Wait__trail_Trail_Ripe_1_j24 p1 p3 ((mid : Int) + p2) (s : Int) (fun p0 p1 p2 p3 => m_slices_symMergeCmpFunc_trail_Wait__trail_Trail_Ripe_1 fu p0 p1 p2 p3) (P ++ (C1 ++ (A.drop (s - P.length) ++ (B.drop (mid - s) ++ post)))) = R := by
              unfold m_slices_symMergeCmpFunc_trail_Wait__trail_Trail_Ripe_1_j21
              simp only [emid]
              by_cases z1 : P.length < s
              · rw [d_lt (by omega), cond_true]
                by_cases z2 : s < mid
                · rw [d_lt (by omega), cond_true]
                  obtain ⟨C1, c1, c2, c3⟩ := sym_ok fu P (A.take (s - P.length)) (B.take (mid - s)) (A.drop (s - P.length) ++ (B.drop (mid - s) ++ post)) p1 (s : Int) (mid : Int) (List.ne_nil_of_length_pos (by omega)) (List.ne_nil_of_length_pos (by omega)) (by omega) h1 (by omega) (by omega) (by omega) qA1 qB1 hsA.1 hsB.1
                  exact ⟨C1, c1, c2, fun R => by rw [c3, obind_some]⟩
                · rw [d_nlt (by omega), cond_false]
                  have : B.take (mid - s) = [] := List.eq_nil_of_length_eq_zero (by omega)
                  exact ⟨A.take (s - P.length), by rw [this, List.append_nil], hsA.1, fun R => by rw [this, List.nil_append]⟩
              · rw [d_nlt (by omega), cond_false]
                have : A.take (s - P.length) = [] := List.eq_nil_of_length_eq_zero (by omega)
                exact ⟨B.take (mid - s), by rw [this, List.nil_append], hsB.1, fun R => by rw [this, List.nil_append]⟩
            obtain ⟨C1, c1, c2, c3⟩ := step1
            have lc1 : C1.length = mid - P.length := by have := c1.length_eq; rw [List.length_append, la1, lb1] at this; omega
            have step2 : ∃ C2, C2.Perm (A.drop (s - P.length) ++ B.drop (mid - s)) ∧ Srt (ltc c) C2 ∧ m_slices_symMergeCmpFunc_trail_Wait__trail_Trail_Ripe_1_j24 p1 p3 ((mid : Int) + p2) (s : Int) (fun p0 p1 p2 p3 => m_slices_symMergeCmpFunc_trail_Wait__trail_Trail_Ripe_1 fu p0 p1 p2 p3) (P ++ (C1 ++ (A.drop (s - P.length) ++ (B.drop (mid - s) ++ post)))) = some (P ++ (C1 ++ (C2 ++ post))) := by
              unfold m_slices_symMergeCmpFunc_trail_Wait__trail_Trail_Ripe_1_j24
              simp only [emid]
              rw [w64 (n := (mid : Int) + p2 - (s : Int)) (by omega) (by omega), obind_some]
              by_cases z1 : s < P.length + A.length
              · rw [d_lt (by omega), cond_true]
                by_cases z2 : mid - s < B.length
                · rw [d_lt (by omega), cond_true]
                  obtain ⟨C2, d1, d2, d3⟩ := sym_ok fu (P ++ C1) (A.drop (s - P.length)) (B.drop (mid - s)) post (mid : Int) ((mid : Int) + p2 - (s : Int)) p3 (List.ne_nil_of_length_pos (by omega)) (List.ne_nil_of_length_pos (by omega)) (by omega) (by simp; omega) (by simp; omega) (by simp; omega) (by omega) qA2 qB2 hsA.2.1 hsB.2.1
                  rw [List.append_assoc] at d3
                  exact ⟨C2, d1, d2, by rw [d3, obind_some]; simp only [List.append_assoc]⟩
                · rw [d_nlt (by omega), cond_false]
                  have : B.drop (mid - s) = [] := List.eq_nil_of_length_eq_zero (by omega)
                  exact ⟨A.drop (s - P.length), by rw [this, List.append_nil], hsA.2.1, by rw [this, List.nil_append]⟩
              · rw [d_nlt (by omega), cond_false]
                have : A.drop (s - P.length) = [] := List.eq_nil_of_length_eq_zero (by omega)
                exact ⟨B.drop (mid - s), by rw [this, List.nil_append], hsB.2.1, by rw [this, List.nil_append]⟩
            obtain ⟨C2, d1, d2, d3⟩ := step2
            refine ⟨C1 ++ C2, ?_, Srt.app.2 ⟨c2, d2, fun a ha b hb => ?_⟩, (c3 _).2 (by rw [d3]; simp only [List.append_assoc])⟩
            · refine (c1.append d1).trans ?_
              have e : A ++ B = A.take (s - P.length) ++ (A.drop (s - P.length) ++ (B.take (mid - s) ++ B.drop (mid - s))) := by
                rw [List.take_append_drop, ← List.append_assoc, List.take_append_drop]
              rw [e, List.append_assoc]
              refine List.Perm.append_left _ ?_
              rw [← List.append_assoc, ← List.append_assoc]
              exact List.Perm.append_right _ List.perm_append_comm
            · have h1 := List.mem_append.1 (c1.mem_iff.1 ha)
              have h2 := List.mem_append.1 (d1.mem_iff.1 hb)
              rcases h1 with h1 | h1 <;> rcases h2 with h2 | h2
              · exact hsA.2.2 a h1 b h2
              · exact x1 a h1 b h2
              · exact x2 a h1 b h2
              · exact hsB.2.2 a h1 b h2
          by_cases y1 : s < P.length + A.length
          · rw [d_lt (by omega), cond_true, w64 (n := (mid : Int) + p2 - (s : Int)) (by omega) (by omega)]
            by_cases y2 : s < mid
            · rw [d_lt (by omega), cond_true]
              have e : P ++ (A ++ (B ++ post)) = (P ++ A.take (s - P.length)) ++ (A.drop (s - P.length) ++ (B.take (mid - s) ++ (B.drop (mid - s) ++ post))) := by
                conv => lhs; rw [ea, eb]
                simp only [List.append_assoc]
              rw [e, rot (List.ne_nil_of_length_pos (by omega)) (List.ne_nil_of_length_pos (by omega)) (by simp; omega) (by simp; omega) (by simp; omega) (by omega), obind_some]
              simpa only [List.append_assoc] using rest
            · rw [d_nlt (by omega), cond_false]
              have hb1 : B.take (mid - s) = [] := List.eq_nil_of_length_eq_zero (by omega)
              have e : P ++ (A ++ (B ++ post)) = P ++ (A.take (s - P.length) ++ (B.take (mid - s) ++ (A.drop (s - P.length) ++ (B.drop (mid - s) ++ post)))) := by
                conv => lhs; rw [ea, eb, hb1]
                rw [hb1]; simp only [List.append_assoc, List.nil_append]
              rw [e]; exact rest
          · rw [d_nlt (by omega), cond_false]
            have ha2 : A.drop (s - P.length) = [] := List.eq_nil_of_length_eq_zero (by omega)
            have e : P ++ (A ++ (B ++ post)) = P ++ (A.take (s - P.length) ++ (B.take (mid - s) ++ (A.drop (s - P.length) ++ (B.drop (mid - s) ++ post)))) := by
              conv => lhs; rw [ea, eb, ha2]
              rw [ha2]; simp only [List.append_assoc, List.nil_append, List.append_nil]
            rw [e]; exact rest
        by_cases hcase : mid < P.length + A.length
        · rw [d_lt (by omega), cond_true, w64 (n := (mid : Int) + p2 - p3) (by omega) (by omega)]
          have := search (mid - B.length) mid (by omega) (by omega) (by omega) (Nat.le_refl _) (by omega) (.inr (by omega)) (.inl rfl)
          rwa [show ((mid - B.length : Nat) : Int) = (mid : Int) + p2 - p3 by omega] at this
        · rw [d_nlt (by omega), cond_false]
          have := search P.length (P.length + A.length) (Nat.le_refl _) (by omega) (Nat.le_refl _) (by omega) (by omega) (.inl rfl) (.inr rfl)
          rwa [show ((P.length + A.length : Nat) : Int) = p2 by omega, ← h1] at this
/-! ### block by block -/
theorem stb_0 {p1 : Int} : ∀ (fu : Nat) (D R : List GWait) (y7 y8 : Int), R.length < fu → y7 = (D.length : Int) → y8 = (D.length : Int) + 20 → p1 = (D.length : Int) + R.length → p1 ≤ 200000000 → (∀ z ∈ R, Q z) →
    ∃ R', R'.Perm R ∧ Chunks (ltc c) 20 R' ∧ m_slices_stableCmpFunc_trail_Wait__trail_Trail_Ripe_1_l0 p1 fu (D ++ R) y7 y8 = m_slices_stableCmpFunc_trail_Wait__trail_Trail_Ripe_1_l3 p1 1152921504606846976 (D ++ R') 20
  | 0, _, _, _, _, h, _, _, _, _, _ => by omega
  | fu + 1, D, R, y7, y8, hf, h7, h8, h1, hb, hq => by
    unfold m_slices_stableCmpFunc_trail_Wait__trail_Trail_Ripe_1_l0
    by_cases h : y8 ≤ p1
    · rw [decide_eq_true h, cond_true]
      have eR : R = R.take 20 ++ R.drop 20 := (List.take_append_drop _ _).symm
      have l1 : (R.take 20).length = 20 := by rw [List.length_take]; omega
      have l2 : (R.drop 20).length = R.length - 20 := List.length_drop
      have := ins_ok hc O (P := D) (A := R.take 20) (post := R.drop 20) (a := y7) (b := y8) h7 (by omega) (by omega) (fun z hz => hq z (List.mem_of_mem_take hz))
      have hp := isort_perm (lt := ltc c) (R.take 20)
      have hpl := hp.length_eq
      obtain ⟨R', r1, r2, r3⟩ := stb_0 (p1 := p1) fu (D ++ isort (ltc c) (R.take 20)) (R.drop 20) y8 (y8 + 20) (by omega) (by simp; omega) (by simp; omega) (by simp; omega) hb (fun z hz => hq z (List.mem_of_mem_drop hz))
      refine ⟨isort (ltc c) (R.take 20) ++ R', ?_, .cons _ _ (by omega) (isort_srt O fun z hz => hq z (List.mem_of_mem_take hz)) r2, ?_⟩
      · conv => rhs; rw [eR]
        exact hp.append r1
      · rw [List.append_assoc] at r3
        rw [← eR] at this
        rw [this, obind_some, w64 (by omega) (by omega), r3, List.append_assoc]
    · rw [decide_eq_false h, cond_false]
      have := ins_ok hc O (P := D) (A := R) (post := []) (a := y7) (b := p1) h7 h1 (by omega) hq
      simp only [List.append_nil] at this
      rw [this, obind_some]
      have hp := isort_perm (lt := ltc c) R
      exact ⟨_, hp, .last _ (by have := hp.length_eq; omega) (isort_srt O hq), rfl⟩
theorem stb_4 {p1 : Int} {bs : Nat} {kk : List GWait → Int → Option (List GWait)} (hbs : 0 < bs) (hbb : bs ≤ 200000000) : ∀ (fu : Nat) (D R : List GWait) (y7 y8 : Int), R.length < fu → y7 = (D.length : Int) → y8 = (D.length : Int) + 2 * bs → p1 = (D.length : Int) + R.length → p1 ≤ 200000000 → Chunks (ltc c) bs R → (∀ z ∈ R, Q z) →
    ∃ R', R'.Perm R ∧ Chunks (ltc c) (2 * bs) R' ∧ m_slices_stableCmpFunc_trail_Wait__trail_Trail_Ripe_1_l4 p1 (bs : Int) kk fu (D ++ R) y7 y8 = kk (D ++ R') ((2 * bs : Nat) : Int)
  | 0, _, _, _, _, h, _, _, _, _, _, _ => by omega
  | fu + 1, D, R, y7, y8, hf, h7, h8, h1, hb, hC, hq => by
    have e2 : IntKind.i64.wrap ((bs : Int) * 2) = ((2 * bs : Nat) : Int) := by rw [w64 (by omega) (by omega)]; omega
    unfold m_slices_stableCmpFunc_trail_Wait__trail_Trail_Ripe_1_l4
    rw [e2, w64 (n := y7 + (bs : Int)) (by omega) (by omega), w64 (n := 2 * (bs : Int)) (by omega) (by omega)]
    by_cases h : y8 ≤ p1
    · rw [decide_eq_true h, cond_true, w64 (n := y8 + 2 * (bs : Int)) (by omega) (by omega)]
      obtain ⟨c1, r, rfl, l1, s1, hr⟩ := hC.split (by omega)
      simp only [List.length_append] at h1 hf
      obtain ⟨c2, r2, rfl, l2, s2, hr2⟩ := hr.split (by omega)
      simp only [List.length_append] at h1 hf
      obtain ⟨C, k1, k2, k3⟩ := sym_ok hc O 1152921504606846976 D c1 c2 r2 y7 (y7 + (bs : Int)) y8 (List.ne_nil_of_length_pos (by omega)) (List.ne_nil_of_length_pos (by omega)) (by omega) h7 (by omega) (by omega) (by omega) (fun z hz => hq z (by simp [hz])) (fun z hz => hq z (by simp [hz])) s1 s2
      have hl := k1.length_eq
      rw [List.length_append] at hl
      rw [k3, obind_some]
      obtain ⟨R', r1, r2', r3⟩ := stb_4 (p1 := p1) (kk := kk) hbs hbb fu (D ++ C) r2 y8 (y8 + 2 * (bs : Int)) (by omega) (by simp; omega) (by simp; omega) (by simp; omega) hb hr2 (fun z hz => hq z (by simp [hz]))
      rw [List.append_assoc] at r3
      refine ⟨C ++ R', ?_, .cons _ _ (by omega) k2 r2', by rw [r3, List.append_assoc]⟩
      rw [← List.append_assoc]
      exact k1.append r1
    · rw [decide_eq_false h, cond_false]
      by_cases h2 : y7 + (bs : Int) < p1
      · rw [d_lt h2, cond_true]
        obtain ⟨c1, r, rfl, l1, s1, hr⟩ := hC.split (by omega)
        simp only [List.length_append] at h1 hf
        have s2 := hr.all (by omega)
        obtain ⟨C, k1, k2, k3⟩ := sym_ok hc O 1152921504606846976 D c1 r [] y7 (y7 + (bs : Int)) p1 (List.ne_nil_of_length_pos (by omega)) (List.ne_nil_of_length_pos (by omega)) (by omega) h7 (by omega) (by omega) (by omega) (fun z hz => hq z (by simp [hz])) (fun z hz => hq z (by simp [hz])) s1 s2
        have hl := k1.length_eq
        rw [List.length_append] at hl
        simp only [List.append_nil] at k3
        rw [k3, obind_some]
        exact ⟨C, k1, .last _ (by omega) k2, rfl⟩
      · rw [d_nlt h2, cond_false]
        exact ⟨R, List.Perm.refl _, .last _ (by omega) (hC.all (by omega)), rfl⟩
theorem stb_3 {p1 : Int} : ∀ (fu : Nat) (R : List GWait) (bs : Nat), R.length < fu + bs → 0 < bs → bs ≤ 400000000 → p1 = (R.length : Int) → p1 ≤ 200000000 → Chunks (ltc c) bs R → (∀ z ∈ R, Q z) → 0 < fu →
    ∃ R', R'.Perm R ∧ Srt (ltc c) R' ∧ m_slices_stableCmpFunc_trail_Wait__trail_Trail_Ripe_1_l3 p1 fu R (bs : Int) = some R'
  | 0, _, _, _, _, _, _, _, _, _, h => by omega
  | fu + 1, R, bs, hf, h0, hbs, h1, hb, hC, hq, _ => by
    unfold m_slices_stableCmpFunc_trail_Wait__trail_Trail_Ripe_1_l3
    by_cases h : (bs : Int) < p1
    · rw [d_lt h, cond_true, w64 (n := 2 * (bs : Int)) (by omega) (by omega)]
      obtain ⟨R', r1, r2, r3⟩ := stb_4 hc O (p1 := p1) (kk := fun y0_3 y6_3 => m_slices_stableCmpFunc_trail_Wait__trail_Trail_Ripe_1_l3 p1 fu y0_3 y6_3) h0 (by omega) 1152921504606846976 [] R 0 (2 * (bs : Int)) (by omega) rfl (by simp) (by simpa using h1) hb hC hq
      simp only [List.nil_append] at r3
      rw [r3]
      have hl := r1.length_eq
      obtain ⟨R2, q1, q2, q3⟩ := stb_3 (p1 := p1) fu R' (2 * bs) (by omega) (by omega) (by omega) (by omega) hb r2 (fun z hz => hq z (r1.mem_iff.1 hz)) (by omega)
      exact ⟨R2, q1.trans r1, q2, q3⟩
    · rw [d_nlt h, cond_false]
      exact ⟨R, List.Perm.refl _, hC.all (by omega), rfl⟩
theorem stb_ok {l : List GWait} (hl : l.length ≤ 200000000) (hq : ∀ z ∈ l, Q z) : ∃ l', l'.Perm l ∧ Srt (ltc c) l' ∧ m_slices_stableCmpFunc_trail_Wait__trail_Trail_Ripe_1 l ((l.length : Nat) : Int) = some l' := by
  unfold m_slices_stableCmpFunc_trail_Wait__trail_Trail_Ripe_1
  obtain ⟨R, r1, r2, r3⟩ := stb_0 hc O (p1 := ((l.length : Nat) : Int)) 1152921504606846976 [] l 0 20 (by omega) rfl (by simp) (by simp) (by omega) hq
  simp only [List.nil_append] at r3
  rw [r3]
  have hll := r1.length_eq
  obtain ⟨R2, q1, q2, q3⟩ := stb_3 hc O (p1 := ((l.length : Nat) : Int)) 1152921504606846976 R 20 (by omega) (by omega) (by omega) (by omega) (by omega) r2 (fun z hz => hq z (r1.mem_iff.1 hz)) (by omega)
  exact ⟨R2, q1.trans r1, q2, q3⟩
end
end m_trail_Trail_Ripe_1_sort
end Go.Proofs.Ytelhmhmgaaebpaa.K

namespace Go.Proofs.Ytelhmhmgaaebpaa.K
open Go.RowKit Go.Lib
theorem clonep_ok {l : List GPair} (h : l.length ≤ 1000000) : m_slices_Clone_Pair l = some l := by
  unfold m_slices_Clone_Pair
  rw [app_ok (by simp; omega), obind_some, List.nil_append]
theorem cloneu_ok {l : List Int} (h : l.length ≤ 1000000) : m_slices_Clone_uint32 l = some l := by
  unfold m_slices_Clone_uint32
  rw [app_ok (by simp; omega), obind_some, List.nil_append]
/-- A wait of few pairs and sets. -/
def wB (s : Nat) (w : GWait) : Prop := w.Bound.length ≤ 20 ∧ w.Sets.length ≤ s
theorem copied_ok {s : Nat} {L : List GWait} (hs : s ≤ 1000) (hl : L.length ≤ 1000) (h : ∀ w ∈ L, wB s w) : m_trail_copied L = some L := by
  unfold m_trail_copied
  have key := loopG_0 (L := fun fu y i => m_trail_copied_l1 L fu y i) (n := L.length) (P := fun i y o => y = L.take i → o = some L) (by omega)
    (fun fu y e => by
      unfold m_trail_copied_l1
      rw [d_nlt (by omega), cond_false, e, List.take_length])
    (fun fu y i hi ih e => by
      have hw := h _ (List.getElem_mem hi)
      unfold m_trail_copied_l1
      rw [d_lt (by omega), cond_true, geti_lt hi, obind_some, clonep_ok (by have := hw.1; omega), obind_some, cloneu_ok (by have := hw.2; omega), obind_some, app_ok (by rw [e]; simp; omega), obind_some, inc_ok (by omega)]
      refine ih _ ?_
      rw [e, take_snoc hi])
  exact key [] rfl
/-- What is so of a trail all the time. -/
structure TB (k s : Nat) (L : List GWait) : Prop where
  len : L.length ≤ k
  w : ∀ w ∈ L, wB s w
  ne : ∀ w ∈ L, w.Sets ≠ []
  ap : (L.map (·.Bound)).Pairwise fun x y => rk x y ≠ 0
theorem TB.mono {k s k' s' : Nat} {L : List GWait} (h : TB k s L) (h1 : k ≤ k') (h2 : s ≤ s') : TB k' s' L := ⟨by have := h.len; omega, fun w hw => ⟨(h.w w hw).1, by have := (h.w w hw).2; omega⟩, h.ne, h.ap⟩
theorem index_ok {s : Nat} {L : List GWait} (hl : L.length ≤ 1000) (h : ∀ w ∈ L, wB s w) (w : GWait) : (m_slices_IndexFunc_Wait__trail_Trail_Add_1 L w = some (-1) ∧ ∀ x ∈ L, rk x.Bound w.Bound ≠ 0) ∨ ∃ i : Nat, ∃ hi : i < L.length, m_slices_IndexFunc_Wait__trail_Trail_Add_1 L w = some (i : Int) ∧ rk L[i].Bound w.Bound = 0 := by
  unfold m_slices_IndexFunc_Wait__trail_Trail_Add_1
  have key := loop1_0 (L := fun fu i => m_slices_IndexFunc_Wait__trail_Trail_Add_1_l1 L w fu i) (n := L.length) (P := fun i o => (o = some (-1) ∧ ∀ x ∈ L.drop i, rk x.Bound w.Bound ≠ 0) ∨ ∃ j : Nat, ∃ hj : j < L.length, o = some (j : Int) ∧ rk L[j].Bound w.Bound = 0) (by omega)
    (fun fu => by
      unfold m_slices_IndexFunc_Wait__trail_Trail_Add_1_l1
      rw [d_nlt (by omega), cond_false]
      exact .inl ⟨rfl, by simp⟩)
    (fun fu i hi ih => by
      have hw := h _ (List.getElem_mem hi)
      unfold m_slices_IndexFunc_Wait__trail_Trail_Add_1_l1 m_trail_Trail_Add_1
      rw [d_lt (by omega), cond_true, geti_lt hi, obind_some, rank_ok _ _ (by have := hw.1; omega), obind_some, obind_some]
      by_cases h0 : rk L[i].Bound w.Bound = 0
      · rw [decide_eq_true h0, cond_true]; exact .inr ⟨i, hi, rfl, h0⟩
      · rw [decide_eq_false h0, cond_false, inc_ok (by omega)]
        rcases ih with ⟨e, hx⟩ | hx
        · refine .inl ⟨e, fun x hx' => ?_⟩
          rw [drop_cons hi] at hx'
          rcases List.mem_cons.1 hx' with rfl | hx'
          · exact h0
          · exact hx x hx'
        · exact .inr hx)
  simpa using key
theorem mem_set' {α : Type} {l : List α} {i : Nat} {y z : α} (h : z ∈ l.set i y) : z ∈ l ∨ z = y := by
  rcases List.mem_or_eq_of_mem_set h with h | h
  · exact .inl h
  · exact .inr h
theorem map_set_same {L : List GWait} {i : Nat} (hi : i < L.length) {y : GWait} (h : y.Bound = L[i].Bound) : (L.set i y).map (·.Bound) = L.map (·.Bound) := by
  rw [List.map_set, h]
  apply List.ext_getElem?
  intro j
  rw [List.getElem?_set]
  split
  · rename_i e; subst e
    simp [hi]
  · rfl
/-- One more. -/
theorem add_ok {k s : Nat} {L : List GWait} (hk : k ≤ 11) (hs : s ≤ 220) (h : TB k s L) {w : GWait} (hw : wB 20 w) : ∃ L' e, m_trail_Trail_Add ⟨12, L⟩ w = some (⟨12, L'⟩, e) ∧ TB (k + 1) (s + 20) L' ∧ ((w.Sets = [] ∧ e = 2) ∨ (w.Sets ≠ [] ∧ e = 0)) := by
  have hl := h.len
  unfold m_trail_Trail_Add
  rw [copied_ok (s := s) (by omega) (by omega) h.w, obind_some]
  by_cases h0 : w.Sets = []
  · rw [decide_eq_true (by rw [h0]; rfl), cond_true]
    exact ⟨L, 2, rfl, h.mono (by omega) (by omega), .inl ⟨h0, rfl⟩⟩
  have hpos : 0 < w.Sets.length := List.length_pos_iff.2 h0
  rw [decide_eq_false (by omega), cond_false]
  rcases index_ok (by omega) h.w w with ⟨e, hx⟩ | ⟨i, hi, e, hx⟩
  · obtain ⟨m, em, hm⟩ := merge_ok (a := []) (b := w.Sets) (by have := hw.2; simp; omega)
    have hml := hm.len
    rw [e, obind_some, decide_eq_false (by decide), cond_false, decide_eq_false (by simp only []; omega), cond_false, clonep_ok (by have := hw.1; omega), obind_some, em, obind_some, app_ok (by simp; omega), obind_some]
    refine ⟨_, 0, rfl, ⟨by simp; omega, fun x hx' => ?_, fun x hx' => ?_, ?_⟩, .inr ⟨h0, rfl⟩⟩
    · rcases List.mem_append.1 hx' with hx' | hx'
      · exact ⟨(h.w x hx').1, by have := (h.w x hx').2; omega⟩
      · rw [List.mem_singleton] at hx'; subst hx'
        exact ⟨hw.1, by have := hw.2; simp at hml; simp only []; omega⟩
    · rcases List.mem_append.1 hx' with hx' | hx'
      · exact h.ne x hx'
      · rw [List.mem_singleton] at hx'; subst hx'
        intro em0
        simp only [] at em0
        have := (hm.mem (w.Sets[0])).2 (.inr (List.getElem_mem hpos))
        rw [em0] at this; simp at this
    · rw [List.map_append]
      refine List.pairwise_append.2 ⟨h.ap, by simp, fun a ha b hb => ?_⟩
      obtain ⟨x, hx', rfl⟩ := List.mem_map.1 ha
      simp at hb; subst hb
      exact hx x hx'
  · obtain ⟨m, em, hm⟩ := merge_ok (a := L[i].Sets) (b := w.Sets) (by have := hw.2; have := (h.w _ (List.getElem_mem hi)).2; omega)
    have hml := hm.len
    have hLi := h.w _ (List.getElem_mem hi)
    rw [e, obind_some, decide_eq_true (by omega), cond_true, geti_lt hi, obind_some, em, obind_some, obind_some, Int.toNat_natCast]
    refine ⟨_, 0, rfl, ⟨by rw [List.length_set]; omega, fun x hx' => ?_, fun x hx' => ?_, ?_⟩, .inr ⟨h0, rfl⟩⟩
    · rcases mem_set' hx' with hx' | rfl
      · exact ⟨(h.w x hx').1, by have := (h.w x hx').2; omega⟩
      · exact ⟨hLi.1, by have := hLi.2; have := hw.2; simp only []; omega⟩
    · rcases mem_set' hx' with hx' | rfl
      · exact h.ne x hx'
      · intro em0
        simp only [] at em0
        have := (hm.mem (w.Sets[0])).2 (.inr (List.getElem_mem hpos))
        rw [em0] at this; simp at this
    · rw [map_set_same hi (by rfl)]; exact h.ap
end Go.Proofs.Ytelhmhmgaaebpaa.K

namespace Go.Proofs.Ytelhmhmgaaebpaa.K
open Go.RowKit Go.Lib
theorem hit1_some (x n : Int) : ∃ b, m_trail_Trail_Hit_1 x n = some b := ⟨_, rfl⟩
theorem del_l1 {ng : Int} {n : Nat} (hn : n ≤ 1000) : ∀ (k i m fu : Nat) (y : List Int), n - m = k → k < fu → i < m → m ≤ n → y.length = n → ∃ s, m_slices_DeleteFunc_uint32__trail_Trail_Hit_1_l1 ng fu y (i : Int) (m : Int) = some s ∧ s.length ≤ n
  | 0, i, m, fu, y, hk, hf, him, hm, hy => by
    obtain ⟨fu, rfl⟩ : ∃ k, fu = k + 1 := ⟨fu - 1, by omega⟩
    have hcut := cut_ok (l := clr y i (0 : Int)) (a := 0) (b := i) (Nat.zero_le _) (by rw [clr_len (by omega)]; omega)
    have e0 : cut (clr y i (0 : Int)) 0 (i : Int) = some ((clr y i (0 : Int)).take i) := by simpa using hcut
    unfold m_slices_DeleteFunc_uint32__trail_Trail_Hit_1_l1
    rw [d_nlt (by omega), cond_false, chk_ok (by omega), Int.toNat_natCast, e0, obind_some]
    exact ⟨_, rfl, by rw [List.length_take]; omega⟩
  | k + 1, i, m, fu, y, hk, hf, him, hm, hy => by
    obtain ⟨fu, rfl⟩ : ∃ k, fu = k + 1 := ⟨fu - 1, by omega⟩
    have hml : m < y.length := by omega
    obtain ⟨b, hb⟩ := hit1_some y[m] ng
    unfold m_slices_DeleteFunc_uint32__trail_Trail_Hit_1_l1
    rw [d_lt (by omega), cond_true, geti_lt hml, obind_some, hb, obind_some, inc_ok (i := m) (by omega)]
    cases b with
    | true => rw [Bool.not_true, cond_false]; exact del_l1 hn k i (m + 1) fu y (by omega) (by omega) (by omega) (by omega) hy
    | false =>
      rw [Bool.not_false, cond_true, geti_lt (show i < y.length by omega), obind_some, inc_ok (i := i) (by omega), Int.toNat_natCast]
      exact del_l1 hn k (i + 1) (m + 1) fu _ (by omega) (by omega) (by omega) (by omega) (by rw [List.length_set]; exact hy)
theorem idx_ok (l : List Int) (ng : Int) (hl : l.length ≤ 1000) : m_slices_IndexFunc_uint32__trail_Trail_Hit_1 l ng = some (-1) ∨ ∃ i : Nat, i < l.length ∧ m_slices_IndexFunc_uint32__trail_Trail_Hit_1 l ng = some (i : Int) := by
  unfold m_slices_IndexFunc_uint32__trail_Trail_Hit_1
  exact loop1_0 (L := fun fu i => m_slices_IndexFunc_uint32__trail_Trail_Hit_1_l1 l ng fu i) (n := l.length) (P := fun i o => o = some (-1) ∨ ∃ j : Nat, j < l.length ∧ o = some (j : Int)) (by omega)
    (fun fu => by
      unfold m_slices_IndexFunc_uint32__trail_Trail_Hit_1_l1
      rw [d_nlt (by omega), cond_false]; exact .inl rfl)
    (fun fu i hi ih => by
      obtain ⟨b, hb⟩ := hit1_some l[i] ng
      unfold m_slices_IndexFunc_uint32__trail_Trail_Hit_1_l1
      rw [d_lt (by omega), cond_true, geti_lt hi, obind_some, hb, obind_some]
      cases b with
      | true => rw [cond_true]; exact .inr ⟨i, hi, rfl⟩
      | false => rw [cond_false, inc_ok (by omega)]; exact ih)
theorem del_ok (l : List Int) (ng : Int) (hl : l.length ≤ 1000) : ∃ s, m_slices_DeleteFunc_uint32__trail_Trail_Hit_1 l ng = some s ∧ s.length ≤ l.length := by
  unfold m_slices_DeleteFunc_uint32__trail_Trail_Hit_1
  rcases idx_ok l ng hl with e | ⟨i, hi, e⟩
  · rw [e, obind_some, decide_eq_true rfl, cond_true]; exact ⟨l, rfl, Nat.le_refl _⟩
  · rw [e, obind_some, decide_eq_false (by omega), cond_false, inc_ok (by omega)]
    exact del_l1 hl _ i (i + 1) _ l rfl (by omega) (by omega) (by omega) rfl
theorem erase_set {α : Type} (l : List α) (i : Nat) (y : α) : (l.set i y).eraseIdx i = l.eraseIdx i := by
  rw [List.eraseIdx_eq_take_drop_succ, List.eraseIdx_eq_take_drop_succ, List.take_set_of_le (Nat.le_refl _), List.drop_set_of_lt (by omega)]
theorem hit_ok {k s : Nat} {L : List GWait} (hk : k ≤ 12) (hs : s ≤ 240) (h : TB k s L) (p1 p2 : Int) : ∃ L', m_trail_Trail_Hit ⟨12, L⟩ p1 p2 = some ⟨12, L'⟩ ∧ TB k s L' ∧ (L'.length = L.length ∨ L'.length + 1 = L.length) := by
  have hl := h.len
  unfold m_trail_Trail_Hit
  rw [copied_ok (s := s) (by omega) (by omega) h.w, obind_some]
  by_cases h0 : p1 < 0
  · rw [d_lt h0, cond_true]; exact ⟨L, rfl, h, .inl rfl⟩
  rw [d_nlt h0, cond_false]
  by_cases h1 : ((L.length : Nat) : Int) ≤ p1
  · rw [decide_eq_true h1, cond_true]; exact ⟨L, rfl, h, .inl rfl⟩
  rw [decide_eq_false h1, cond_false]
  obtain ⟨i, rfl⟩ : ∃ i : Nat, p1 = (i : Int) := ⟨p1.toNat, by omega⟩
  have hi : i < L.length := by omega
  have hw := h.w _ (List.getElem_mem hi)
  obtain ⟨m, em, hm⟩ := del_ok L[i].Sets p2 (by have := hw.2; omega)
  have hs' : i < (L.set i (GWait.mk L[i].Bound m L[i].End)).length := by rw [List.length_set]; exact hi
  rw [geti_lt hi, obind_some, em, obind_some, obind_some, Int.toNat_natCast, geti_lt hs', obind_some, List.getElem_set_self]
  simp only []
  by_cases hm0 : m = []
  · rw [decide_eq_true (by rw [hm0]; rfl), cond_true, erase_set]
    have hsub : (L.eraseIdx i).Sublist L := List.eraseIdx_sublist L i
    have hle : (L.eraseIdx i).length = L.length - 1 := by rw [List.length_eraseIdx, if_pos hi]
    exact ⟨_, rfl, ⟨by omega, fun w hw => h.w w (hsub.subset hw), fun w hw => h.ne w (hsub.subset hw), h.ap.sublist (hsub.map _)⟩, .inr (by omega)⟩
  · have hpos : 0 < m.length := List.length_pos_iff.2 hm0
    rw [decide_eq_false (by omega), cond_false]
    refine ⟨_, rfl, ⟨by rw [List.length_set]; exact hl, fun w hw' => ?_, fun w hw' => ?_, ?_⟩, .inl (by rw [List.length_set])⟩
    · rcases mem_set' hw' with hw' | rfl
      · exact h.w w hw'
      · exact ⟨hw.1, by have := hw.2; simp only []; omega⟩
    · rcases mem_set' hw' with hw' | rfl
      · exact h.ne w hw'
      · exact hm0
    · rw [map_set_same hi (by rfl)]; exact h.ap
end Go.Proofs.Ytelhmhmgaaebpaa.K
