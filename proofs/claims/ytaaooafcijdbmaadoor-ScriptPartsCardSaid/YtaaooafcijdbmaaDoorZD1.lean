/- what telltalelaw37.ScriptParts needs (1) -/
import Derived.Test.YtaaooafcijdbmaaDoorZD0
import Derived.Test.YtaaooafcijdbmaaDoorZAm
import Derived.ProofKit
import Derived.OpenShut
import Derived.ShutString
import Derived.ChangeOld
import Derived.Carry
set_option linter.unusedVariables false
set_option linter.unusedSimpArgs false
namespace Go.Proofs.YtaaooafcijdbmaaDoor.K
open Go.RowKit Go.Lib
set_option maxRecDepth 20000
set_option maxHeartbeats 4000000

theorem ok_octet_Reader_take (p0 : GReader) (p1 : Int) (r : (GReader × Int)) (h : m_octet_Reader_take p0 p1 = some r) : GCall Tryd.prog 104 [(.agg [(.s p0.Text), (.i p0.At), (.i p0.E)]), (.i p1)] [] (.tup [(.agg [(.s r.1.Text), (.i r.1.At), (.i r.1.E)]), (.u r.2)]) [] := by
 refine GCall.of_body (n := 48) (rs := [(.cell 4 148), (.tmp 5)]) Tryd.func104 rfl rfl rfl <| Ato ⟨.agg [(.s p0.Text), (.i p0.At), (.i p0.E)]::.i p1::tu 46 [], [], 0⟩ ?_
 have hm := h
 unfold m_octet_Reader_take at hm
 refine Sx <| Wy (.loc 0 0) [(0, (.box [(.s p0.Text), (.i p0.At), (.i p0.E)]))] (Obx rfl) <| Wy (.loc 1 0) [(1, (.box [(.s ([] : List UInt8)), (.i 0), (.i 0)]))] (Oal rfl) <| Wm (.u 0) rfl <| Nk 22 3 ⟨tp 1 (.i p1::.loc 0 0::tp 1 (.loc 1 0::tp 43 [])), [(.box [(.s p0.Text), (.i p0.At), (.i p0.E)]), (.box [(.s ([] : List UInt8)), (.i 0), (.i 0)])], 0⟩ <| Sq <| Sx <| Wz (.loc 0 2) (Ofa rfl) <| Wz (.i p0.E) (Old rfl) <| Wz (.b (decide (p0.E ≠ 0))) (Obn rfl (fun _ => hb_neq (k := .i64))) ?_
 rcases tf_ (decide (p0.E ≠ 0)) with hq12_0 | hq12_0
 ·
  replace hm := cT hq12_0 hm
  refine Wz (.b true) (Oq hq12_0 rfl) <| Wn <| Wn <| Wn <| Wn <| Wz (.b true) (OpT rfl) <| Nk 131094 3 ⟨tp 1 (.i p1::.loc 0 0::tp 1 (.loc 1 0::tp 12 (.b true::tp 30 []))), [(.box [(.s p0.Text), (.i p0.At), (.i p0.E)]), (.box [(.s ([] : List UInt8)), (.i 0), (.i 0)])], 0⟩ <| AWP.if_ true (by kernel_rfl) <| Sx <| Wz (.agg [(.s p0.Text), (.i p0.At), (.i p0.E)]) (Old rfl) ?_
  obtain ⟨r19_1, hr19_1, hm⟩ := bnd hm
  refine Wz (.agg [(.s r19_1.Text), (.i r19_1.At), (.i r19_1.E)]) (Ocf [] [] [] 0 (ok_octet_Reader_fail p0 3 r19_1 hr19_1) (fun a w => Tryd.call106 a w) rfl trivial) <| Wy (.tup []) [(1, (.box [(.s r19_1.Text), (.i r19_1.At), (.i r19_1.E)]))] (Ost rfl) <| Wm (.u 0) rfl <| Nn <| Rt <| Tr ?_
  obtain rfl := Option.some.inj hm
  exact ret_i []
 ·
  replace hm := cF hq12_0 hm
  refine Wz (.b false) (Oq hq12_0 rfl) <| Wz (.agg [(.s p0.Text), (.i p0.At), (.i p0.E)]) (Old rfl) ?_
  obtain ⟨r14_0, hr14_0, hm⟩ := bnd hm
  refine Wz (.i r14_0) (Ocf [] [] [] 0 (ok_octet_Reader_Left p0 r14_0 hr14_0) (fun a w => Tryd.call105 a w) rfl trivial) <| Wm (.i p1) rfl <| Wz (.b (decide (r14_0 < p1))) (Obn rfl (fun _ => hb_lss (k := .i64))) <| Wz (.b (decide (r14_0 < p1))) (OpF rfl) <| Nk 131094 3 ⟨tp 1 (.i p1::.loc 0 0::tp 1 (.loc 1 0::tp 12 (.b (decide (r14_0 < p1))::tp 30 []))), [(.box [(.s p0.Text), (.i p0.At), (.i p0.E)]), (.box [(.s ([] : List UInt8)), (.i 0), (.i 0)])], 0⟩ ?_
  rcases tf_ (decide (r14_0 < p1)) with hc17_7 | hc17_7
  ·
   replace hm := cT hc17_7 hm
   refine AiT hc17_7 <| Sx <| Wz (.agg [(.s p0.Text), (.i p0.At), (.i p0.E)]) (Old rfl) ?_
   obtain ⟨r19_2, hr19_2, hm⟩ := bnd hm
   refine Wz (.agg [(.s r19_2.Text), (.i r19_2.At), (.i r19_2.E)]) (Ocf [] [] [] 0 (ok_octet_Reader_fail p0 3 r19_2 hr19_2) (fun a w => Tryd.call106 a w) rfl trivial) <| Wy (.tup []) [(1, (.box [(.s r19_2.Text), (.i r19_2.At), (.i r19_2.E)]))] (Ost rfl) <| Wm (.u 0) rfl <| Nn <| Rt <| Tr ?_
   obtain rfl := Option.some.inj hm
   exact ret_i []
  ·
   replace hm := cF hc17_7 hm
   refine AiF hc17_7 <| Sk <| Tk 22 3 ⟨tp 1 (.i p1::.loc 0 0::tp 1 (.loc 1 0::tp 43 [])), [(.box [(.s p0.Text), (.i p0.At), (.i p0.E)]), (.box [(.s ([] : List UInt8)), (.i 0), (.i 0)])], 0⟩ <| Sx <| Wm (.u 0) rfl <| Nk 86 3 ⟨tp 1 (.i p1::.loc 0 0::tp 1 (.loc 1 0::tp 1 (.u 0::tp 41 []))), [(.box [(.s p0.Text), (.i p0.At), (.i p0.E)]), (.box [(.s ([] : List UInt8)), (.i 0), (.i 0)])], 0⟩ <| Sq <| Sx <| Wz (.loc 0 0) (Ofa rfl) <| Wz (.s p0.Text) (Old rfl) <| Wz (.loc 0 1) (Ofa rfl) <| Wz (.i p0.At) (Old rfl) <| Wz (.loc 0 1) (Ofa rfl) <| Wz (.i p0.At) (Old rfl) ?_
   refine Wm (.i p1) rfl <| Wz (.i (W6 (p0.At + p1))) (Obn rfl (fun _ => hb_add (k := .i64))) ?_
   obtain ⟨s28_3, hs28_3, hm⟩ := bnd hm; obtain ⟨hs28_3a, hs28_3b, hs28_3c, hs28_3d, hs28_3e⟩ := cut_some hs28_3
   refine Wz (.s s28_3) (Ocs (lit_str (toS_cut hs28_3e)) (op_slice_str rfl (by kernel_rfl) (s := toS p0.Text) (by kernel_rfl) (l := (Int.toNat p0.At)) (h := (Int.toNat (W6 (p0.At + p1)))) (⟨.i64, p0.At, by kernel_rfl, hs28_3a⟩) (⟨.i64, (W6 (p0.At + p1)), by kernel_rfl, hs28_3b⟩) hs28_3c hs28_3d)) ?_
   obtain ⟨hl29_3, hm⟩ := chk_some hm
   refine Wz (.l encU8 s28_3) (Ocs (lit_bytes) (op_bytes rfl (e := 5) (by kernel_rfl) (by kernel_rfl) (by kernel_rfl) (s := toS s28_3) (by kernel_rfl) (str_max hl29_3))) <| Wz (.i ((List.length s28_3 : Nat) : Int)) (Oln rfl) <| Wm (.i 0) rfl <| Nk 3758096470 3 ⟨tp 1 (.i p1::.loc 0 0::tp 1 (.loc 1 0::tp 1 (.u 0::tp 22 (.l encU8 s28_3::.i ((List.length s28_3 : Nat) : Int)::.i 0::tp 16 [])))), [(.box [(.s p0.Text), (.i p0.At), (.i p0.E)]), (.box [(.s ([] : List UInt8)), (.i 0), (.i 0)])], 0⟩ <| Bk ?_
   refine AWP.loopI (α := Nat × Int × Int)
     (fun (fu_4, y6_4, y31_4) => (⟨tp 1 (.i p1::.loc 0 0::tp 1 (.loc 1 0::tp 1 (.u y6_4::tp 22 (.l encU8 s28_3::.i ((List.length s28_3 : Nat) : Int)::.i y31_4::tp 16 [])))), [(.box [(.s p0.Text), (.i p0.At), (.i p0.E)]), (.box [(.s ([] : List UInt8)), (.i 0), (.i 0)])], 0⟩ : St))
     (fun (fu_4, y6_4, y31_4) => m_octet_Reader_take_l4 p0 p1 s28_3 fu_4 y6_4 y31_4 = some r)
     (fun (fu_4, y6_4, y31_4) => fu_4) (1152921504606846976, 0, 0)
     (Weak.toK 3758096470 0 0 [0, 1]) hm ?_
   rintro ⟨fu_4, y6_4, y31_4⟩ n_4 hm ih_4
   try dsimp only at hm ih_4 ⊢
   cases fu_4 with
   | zero => exact absurd hm (by unfold m_octet_Reader_take_l4; simp)
   | succ fu_4 =>
    unfold m_octet_Reader_take_l4 at hm
    refine Sx <| Wz (.b (decide (y31_4 < ((List.length s28_3 : Nat) : Int)))) (Obn rfl (fun _ => hb_lss (k := .i64))) <| Nk 8053063766 3 ⟨tp 1 (.i p1::.loc 0 0::tp 1 (.loc 1 0::tp 1 (.u y6_4::tp 22 (.l encU8 s28_3::.i ((List.length s28_3 : Nat) : Int)::.i y31_4::.b (decide (y31_4 < ((List.length s28_3 : Nat) : Int)))::tp 15 [])))), [(.box [(.s p0.Text), (.i p0.At), (.i p0.E)]), (.box [(.s ([] : List UInt8)), (.i 0), (.i 0)])], 0⟩ <| Sq ?_
    rcases tf_ (decide (y31_4 < ((List.length s28_3 : Nat) : Int))) with hc32_8 | hc32_8
    ·
     replace hm := cT hc32_8 hm
     refine AiT hc32_8 <| Sk <| Tk 3758096470 3 ⟨tp 1 (.i p1::.loc 0 0::tp 1 (.loc 1 0::tp 1 (.u y6_4::tp 22 (.l encU8 s28_3::.i ((List.length s28_3 : Nat) : Int)::.i y31_4::tp 16 [])))), [(.box [(.s p0.Text), (.i p0.At), (.i p0.E)]), (.box [(.s ([] : List UInt8)), (.i 0), (.i 0)])], 0⟩ <| Sq <| Bk <| Sx ?_
     obtain ⟨x33_5, hx33_5, hm⟩ := bnd hm
     obtain ⟨hx33_5i, hx33_5g⟩ := geti_some hx33_5
     refine Wz (.d (.ref (List.drop ((Int.toNat y31_4) * 1) (flatD encU8 s28_3)))) (Oia rfl encU8_len hx33_5i hx33_5g) <| Wz (.y x33_5) (Lf1 rfl encU8_len hx33_5g) <| Wm (.y x33_5) rfl <| Nk 3758096726 3 ⟨tp 1 (.i p1::.loc 0 0::tp 1 (.loc 1 0::tp 1 (.u y6_4::tp 1 (.y x33_5::tp 20 (.l encU8 s28_3::.i ((List.length s28_3 : Nat) : Int)::.i y31_4::tp 16 []))))), [(.box [(.s p0.Text), (.i p0.At), (.i p0.E)]), (.box [(.s ([] : List UInt8)), (.i 0), (.i 0)])], 0⟩ <| Tx <| Wm (.u y6_4) rfl <| Wz (.u (W7 (y6_4 * 2 ^ 8))) (Ob2 (.int .u64 y6_4) (.int .u64 8) rfl (fun _ => hb_shl (n := 8) (by decide) rfl)) <| Wm (.y x33_5) rfl <| Wz (.u ((x33_5.toNat : Nat) : Int)) (Ocs (lit_int (wrap_of_u8 (by decide) _)) (op_convert rfl (a1 := .int .u8 ((x33_5.toNat : Nat) : Int)) (by kernel_rfl) (run_conv (ds := .int .u8) (k' := .u64) (by kernel_rfl) (by kernel_rfl)))) ?_
     obtain ⟨v39_6, hv39_6, hm⟩ := bnd hm; replace hv39_6 := Option.some.inj hv39_6
     refine Wz (.u v39_6) (Ocs (Eq.trans (by kernel_rfl) (congrArg (fun z => A.d (.lit (.int .u64 z))) hv39_6)) (op_bin rfl (a1 := .int .u64 (W7 (y6_4 * 2 ^ 8))) (a2 := .int .u64 ((x33_5.toNat : Nat) : Int)) (by kernel_rfl) (by kernel_rfl) (fun _ => hb_or))) <| Wm (.u v39_6) rfl <| Wn0 <| Ino <| Tk 3758096470 3 ⟨tp 1 (.i p1::.loc 0 0::tp 1 (.loc 1 0::tp 1 (.u v39_6::tp 22 (.l encU8 s28_3::.i ((List.length s28_3 : Nat) : Int)::.i y31_4::tp 16 [])))), [(.box [(.s p0.Text), (.i p0.At), (.i p0.E)]), (.box [(.s ([] : List UInt8)), (.i 0), (.i 0)])], 0⟩ <| Tx <| Wz (.i (W6 (y31_4 + 1))) (Obn rfl (fun _ => hb_add (k := .i64))) <| Wm (.i (W6 (y31_4 + 1))) rfl <| Wn0 <| RoundK.normal ?_
     exact Rounds.weak (Weak.toK 3758096470 0 0 [0, 1]) (ih_4 (fu_4, v39_6, (W6 (y31_4 + 1))) hm (Nat.lt_succ_self _))
    ·
     replace hm := cF hc32_8 hm
     refine AiF hc32_8 <| AWP.exit <| Then.exit <| RoundK.exit <| InBlock.same <| Tk 86 3 ⟨tp 1 (.i p1::.loc 0 0::tp 1 (.loc 1 0::tp 1 (.u y6_4::tp 41 []))), [(.box [(.s p0.Text), (.i p0.At), (.i p0.E)]), (.box [(.s ([] : List UInt8)), (.i 0), (.i 0)])], 0⟩ <| Sx <| Wz (.loc 0 1) (Ofa rfl) <| Wz (.i p0.At) (Old rfl) <| Wm (.i p1) rfl <| Wz (.i (W6 (p0.At + p1))) (Obn rfl (fun _ => hb_add (k := .i64))) <| Wz (.loc 0 1) (Ofa rfl) <| Wy (.tup []) [(0, (.box [(.s p0.Text), (.i (W6 (p0.At + p1))), (.i p0.E)]))] (Ost rfl) <| Nk 84 3 ⟨tp 2 (.loc 0 0::tp 1 (.loc 1 0::tp 1 (.u y6_4::tp 41 []))), [(.box [(.s p0.Text), (.i (W6 (p0.At + p1))), (.i p0.E)]), (.box [(.s ([] : List UInt8)), (.i 0), (.i 0)])], 0⟩ ?_
     refine Sx <| Wz (.agg [(.s p0.Text), (.i (W6 (p0.At + p1))), (.i p0.E)]) (Old rfl) <| Wm (.u y6_4) rfl <| Wy (.tup []) [(1, (.box [(.s p0.Text), (.i (W6 (p0.At + p1))), (.i p0.E)]))] (Ost rfl) <| Wm (.u y6_4) rfl <| Nn <| Rt ?_
     obtain rfl := Option.some.inj hm
     exact ret_i []

theorem ok_octet_Reader_Str (p0 : GReader) (r : (GReader × (List UInt8))) (h : m_octet_Reader_Str p0 = some r) : GCall Tryd.prog 87 [(.agg [(.s p0.Text), (.i p0.At), (.i p0.E)])] [] (.tup [(.agg [(.s r.1.Text), (.i r.1.At), (.i r.1.E)]), (.s r.2)]) [] := by
 refine GCall.of_body (n := 41) (rs := [(.cell 2 148), (.tmp 3)]) Tryd.func87 rfl rfl rfl <| Ato ⟨.agg [(.s p0.Text), (.i p0.At), (.i p0.E)]::tu 40 [], [], 0⟩ ?_
 have hm := h
 unfold m_octet_Reader_Str at hm
 refine Sx <| Wy (.loc 0 0) [(0, (.box [(.s p0.Text), (.i p0.At), (.i p0.E)]))] (Obx rfl) <| Wy (.loc 1 0) [(1, (.box [(.s ([] : List UInt8)), (.i 0), (.i 0)]))] (Oal rfl) <| Wm (.s ([] : List UInt8)) rfl <| Nk 6 3 ⟨tp 1 (.loc 0 0::.loc 1 0::tp 38 []), [(.box [(.s p0.Text), (.i p0.At), (.i p0.E)]), (.box [(.s ([] : List UInt8)), (.i 0), (.i 0)])], 0⟩ <| Sx <| Wz (.agg [(.s p0.Text), (.i p0.At), (.i p0.E)]) (Old rfl) ?_
 obtain ⟨r10_0, hr10_0, hm⟩ := bnd hm
 refine Wz (.tup [(.agg [(.s r10_0.1.Text), (.i r10_0.1.At), (.i r10_0.1.E)]), (.u r10_0.2)]) (Ocf [] [] [] 0 (ok_octet_Reader_take p0 2 r10_0 hr10_0) (fun a w => Tryd.call104 a w) rfl trivial) <| Wm (.tup [(.agg [(.s r10_0.1.Text), (.i r10_0.1.At), (.i r10_0.1.E)]), (.u r10_0.2)]) rfl <| Wz (.agg [(.s r10_0.1.Text), (.i r10_0.1.At), (.i r10_0.1.E)]) (Oex rfl) <| Wz (.u r10_0.2) (Oex rfl) <| Wy (.loc 2 0) [(2, (.box [(.s ([] : List UInt8)), (.i 0), (.i 0)]))] (Oal rfl) <| Wy (.tup []) [(2, (.box [(.s r10_0.1.Text), (.i r10_0.1.At), (.i r10_0.1.E)]))] (Ost rfl) <| Wm (.u r10_0.2) rfl <| Nk 54 7 ⟨tp 1 (.loc 0 0::.loc 1 0::tp 1 (.loc 2 0::.u r10_0.2::tp 35 [])), [(.box [(.s p0.Text), (.i p0.At), (.i p0.E)]), (.box [(.s ([] : List UInt8)), (.i 0), (.i 0)]), (.box [(.s r10_0.1.Text), (.i r10_0.1.At), (.i r10_0.1.E)])], 0⟩ <| Sq <| Sx <| Wz (.loc 2 2) (Ofa rfl) <| Wz (.i r10_0.1.E) (Old rfl) <| Wz (.b (decide (r10_0.1.E ≠ 0))) (Obn rfl (fun _ => hb_neq (k := .i64))) <| Nk 32822 7 ⟨tp 1 (.loc 0 0::.loc 1 0::tp 1 (.loc 2 0::.u r10_0.2::tp 9 (.b (decide (r10_0.1.E ≠ 0))::tp 25 []))), [(.box [(.s p0.Text), (.i p0.At), (.i p0.E)]), (.box [(.s ([] : List UInt8)), (.i 0), (.i 0)]), (.box [(.s r10_0.1.Text), (.i r10_0.1.At), (.i r10_0.1.E)])], 0⟩ ?_
 rcases tf_ (decide (r10_0.1.E ≠ 0)) with hc15_5 | hc15_5
 ·
  replace hm := cT hc15_5 hm
  refine AiT hc15_5 <| Sx <| Wz (.agg [(.s r10_0.1.Text), (.i r10_0.1.At), (.i r10_0.1.E)]) (Old rfl) <| Wy (.tup []) [(1, (.box [(.s r10_0.1.Text), (.i r10_0.1.At), (.i r10_0.1.E)]))] (Ost rfl) <| Wm (.s ([] : List UInt8)) rfl <| Nn <| Rt <| Tr ?_
  obtain rfl := Option.some.inj hm
  exact ret_i []
 ·
  replace hm := cF hc15_5 hm
  refine AiF hc15_5 <| Sk <| Tk 54 7 ⟨tp 1 (.loc 0 0::.loc 1 0::tp 1 (.loc 2 0::.u r10_0.2::tp 35 [])), [(.box [(.s p0.Text), (.i p0.At), (.i p0.E)]), (.box [(.s ([] : List UInt8)), (.i 0), (.i 0)]), (.box [(.s r10_0.1.Text), (.i r10_0.1.At), (.i r10_0.1.E)])], 0⟩ <| Sx <| Wm (.u r10_0.2) rfl <| Wz (.i (W6 r10_0.2)) (Oc2 (.int .u64 r10_0.2) rfl (run_conv (ds := .int .u64) (k' := .i64) (by kernel_rfl) (by kernel_rfl))) <| Wm (.i (W6 r10_0.2)) rfl <| Nk 86 7 ⟨tp 1 (.loc 0 0::.loc 1 0::tp 1 (.loc 2 0::tp 1 (.i (W6 r10_0.2)::tp 34 []))), [(.box [(.s p0.Text), (.i p0.At), (.i p0.E)]), (.box [(.s ([] : List UInt8)), (.i 0), (.i 0)]), (.box [(.s r10_0.1.Text), (.i r10_0.1.At), (.i r10_0.1.E)])], 0⟩ <| Sq <| Sx <| Wz (.agg [(.s r10_0.1.Text), (.i r10_0.1.At), (.i r10_0.1.E)]) (Old rfl) ?_
  obtain ⟨r20_2, hr20_2, hm⟩ := bnd hm
  refine Wz (.i r20_2) (Ocf [] [] [] 0 (ok_octet_Reader_Left r10_0.1 r20_2 hr20_2) (fun a w => Tryd.call105 a w) rfl trivial) <| Wm (.i (W6 r10_0.2)) rfl <| Wz (.b (decide (r20_2 < (W6 r10_0.2)))) (Obn rfl (fun _ => hb_lss (k := .i64))) <| Nk 4194390 7 ⟨tp 1 (.loc 0 0::.loc 1 0::tp 1 (.loc 2 0::tp 1 (.i (W6 r10_0.2)::tp 15 (.b (decide (r20_2 < (W6 r10_0.2)))::tp 18 [])))), [(.box [(.s p0.Text), (.i p0.At), (.i p0.E)]), (.box [(.s ([] : List UInt8)), (.i 0), (.i 0)]), (.box [(.s r10_0.1.Text), (.i r10_0.1.At), (.i r10_0.1.E)])], 0⟩ ?_
  rcases tf_ (decide (r20_2 < (W6 r10_0.2))) with hc22_6 | hc22_6
  ·
   replace hm := cT hc22_6 hm
   refine AiT hc22_6 <| Sx <| Wz (.agg [(.s p0.Text), (.i p0.At), (.i p0.E)]) (Old rfl) ?_
   obtain ⟨r24_3, hr24_3, hm⟩ := bnd hm
   refine Wz (.agg [(.s r24_3.Text), (.i r24_3.At), (.i r24_3.E)]) (Ocf [] [] [] 0 (ok_octet_Reader_fail p0 3 r24_3 hr24_3) (fun a w => Tryd.call106 a w) rfl trivial) <| Wy (.tup []) [(1, (.box [(.s r24_3.Text), (.i r24_3.At), (.i r24_3.E)]))] (Ost rfl) <| Wm (.s ([] : List UInt8)) rfl <| Nn <| Rt <| Tr ?_
   obtain rfl := Option.some.inj hm
   exact ret_i []
  ·
   replace hm := cF hc22_6 hm
   refine AiF hc22_6 <| Sk <| Tk 84 6 ⟨tp 2 (.loc 1 0::tp 1 (.loc 2 0::tp 1 (.i (W6 r10_0.2)::tp 34 []))), [.gone, (.box [(.s ([] : List UInt8)), (.i 0), (.i 0)]), (.box [(.s r10_0.1.Text), (.i r10_0.1.At), (.i r10_0.1.E)])], 0⟩ <| Sx <| Wz (.loc 2 0) (Ofa rfl) <| Wz (.s r10_0.1.Text) (Old rfl) <| Wz (.loc 2 1) (Ofa rfl) <| Wz (.i r10_0.1.At) (Old rfl) <| Wz (.loc 2 1) (Ofa rfl) <| Wz (.i r10_0.1.At) (Old rfl) <| Wm (.i (W6 r10_0.2)) rfl <| Wz (.i (W6 (r10_0.1.At + (W6 r10_0.2)))) (Obn rfl (fun _ => hb_add (k := .i64))) ?_
   obtain ⟨s33_4, hs33_4, hm⟩ := bnd hm; obtain ⟨hs33_4a, hs33_4b, hs33_4c, hs33_4d, hs33_4e⟩ := cut_some hs33_4
   refine Wz (.s s33_4) (Ocs (lit_str (toS_cut hs33_4e)) (op_slice_str rfl (by kernel_rfl) (s := toS r10_0.1.Text) (by kernel_rfl) (l := (Int.toNat r10_0.1.At)) (h := (Int.toNat (W6 (r10_0.1.At + (W6 r10_0.2))))) (⟨.i64, r10_0.1.At, by kernel_rfl, hs33_4a⟩) (⟨.i64, (W6 (r10_0.1.At + (W6 r10_0.2))), by kernel_rfl, hs33_4b⟩) hs33_4c hs33_4d)) <| Wm (.s s33_4) rfl <| Nk 212 6 ⟨tp 2 (.loc 1 0::tp 1 (.loc 2 0::tp 1 (.i (W6 r10_0.2)::.s s33_4::tp 33 []))), [.gone, (.box [(.s ([] : List UInt8)), (.i 0), (.i 0)]), (.box [(.s r10_0.1.Text), (.i r10_0.1.At), (.i r10_0.1.E)])], 0⟩ <| Sx <| Wz (.loc 2 1) (Ofa rfl) <| Wz (.i r10_0.1.At) (Old rfl) <| Wm (.i (W6 r10_0.2)) rfl <| Wz (.i (W6 (r10_0.1.At + (W6 r10_0.2)))) (Obn rfl (fun _ => hb_add (k := .i64))) <| Wz (.loc 2 1) (Ofa rfl) <| Wy (.tup []) [(2, (.box [(.s r10_0.1.Text), (.i (W6 (r10_0.1.At + (W6 r10_0.2)))), (.i r10_0.1.E)]))] (Ost rfl) <| Nk 148 6 ⟨tp 2 (.loc 1 0::tp 1 (.loc 2 0::tp 2 (.s s33_4::tp 33 []))), [.gone, (.box [(.s ([] : List UInt8)), (.i 0), (.i 0)]), (.box [(.s r10_0.1.Text), (.i (W6 (r10_0.1.At + (W6 r10_0.2)))), (.i r10_0.1.E)])], 0⟩ <| Sx <| Wz (.agg [(.s r10_0.1.Text), (.i (W6 (r10_0.1.At + (W6 r10_0.2)))), (.i r10_0.1.E)]) (Old rfl) <| Wm (.s s33_4) rfl ?_
   refine Wy (.tup []) [(1, (.box [(.s r10_0.1.Text), (.i (W6 (r10_0.1.At + (W6 r10_0.2)))), (.i r10_0.1.E)]))] (Ost rfl) <| Wm (.s s33_4) rfl <| Nn <| Rt ?_
   obtain rfl := Option.some.inj hm
   exact ret_i []

theorem ok_script_words (p0 : (List UInt8)) (p1 : Int) (r : ((List UInt8) × Int × Int)) (h : m_script_words p0 p1 = some r) : GCall Tryd.prog 67 [(.s p0), (.i p1)] [] (.tup [(.s r.1), (.i r.2.1), (.i r.2.2)]) [] := by
 refine GCall.of_body (n := 34) (rs := [(.tmp 4), (.tmp 5), (.tmp 6)]) Tryd.func67 rfl rfl rfl <| Ato ⟨.s p0::.i p1::tu 32 [], [], 0⟩ ?_
 have hm := h
 unfold m_script_words at hm
 refine Sx <| Wm (.s ([] : List UInt8)) rfl <| Wm (.i 0) rfl <| Wm (.i 0) rfl <| Nk 3 0 ⟨.s p0::.i p1::tp 32 [], [], 0⟩ <| Sx <| Wm (.s p0) rfl <| Wm (.i p1) rfl ?_
 obtain ⟨s12_0, hs12_0, hm⟩ := bnd hm; obtain ⟨hs12_0a, hs12_0b, hs12_0c, hs12_0d, hs12_0e⟩ := cut_some hs12_0
 refine Wz (.s s12_0) (Ocs (lit_str (toS_cut hs12_0e)) (op_slice_str rfl (by kernel_rfl) (s := toS p0) (by kernel_rfl) (l := (Int.toNat p1)) (h := (Int.toNat ((List.length p0 : Nat) : Int))) (⟨.i64, p1, by kernel_rfl, hs12_0a⟩) (by exact rfl) hs12_0c hs12_0d)) ?_
 obtain ⟨r13_0, hr13_0, hm⟩ := bnd hm
 refine Wz (.agg [(.s r13_0.Text), (.i r13_0.At), (.i r13_0.E)]) (Ocf [] [] [] 0 (ok_octet_Open s12_0 r13_0 hr13_0) (fun a w => Tryd.call86 a w) rfl trivial) ?_
 obtain ⟨r14_0, hr14_0, hm⟩ := bnd hm
 refine Wz (.tup [(.agg [(.s r14_0.1.Text), (.i r14_0.1.At), (.i r14_0.1.E)]), (.s r14_0.2)]) (Ocf [] [] [] 0 (ok_octet_Reader_Str r13_0 r14_0 hr14_0) (fun a w => Tryd.call87 a w) rfl trivial) <| Wm (.tup [(.agg [(.s r14_0.1.Text), (.i r14_0.1.At), (.i r14_0.1.E)]), (.s r14_0.2)]) rfl <| Wz (.agg [(.s r14_0.1.Text), (.i r14_0.1.At), (.i r14_0.1.E)]) (Oex rfl) <| Wz (.s r14_0.2) (Oex rfl) <| Wy (.loc 0 0) [(0, (.box [(.s ([] : List UInt8)), (.i 0), (.i 0)]))] (Oal rfl) <| Wy (.tup []) [(0, (.box [(.s r14_0.1.Text), (.i r14_0.1.At), (.i r14_0.1.E)]))] (Ost rfl) <| Wm (.s r14_0.2) rfl <| Nk 386 1 ⟨tp 1 (.i p1::tp 5 (.loc 0 0::.s r14_0.2::tp 25 [])), [(.box [(.s r14_0.1.Text), (.i r14_0.1.At), (.i r14_0.1.E)])], 0⟩ <| Sq <| Bk <| Sx <| Wz (.loc 0 2) (Ofa rfl) <| Wz (.i r14_0.1.E) (Old rfl) <| Wz (.b (decide (r14_0.1.E ≠ 0))) (Obn rfl (fun _ => hb_neq (k := .i64))) ?_
 refine Wm (.b (decide (r14_0.1.E ≠ 0))) rfl <| Nk 131458 1 ⟨tp 1 (.i p1::tp 5 (.loc 0 0::.s r14_0.2::tp 8 (.b (decide (r14_0.1.E ≠ 0))::tp 16 []))), [(.box [(.s r14_0.1.Text), (.i r14_0.1.At), (.i r14_0.1.E)])], 0⟩ ?_
 rcases tf_ (decide (r14_0.1.E ≠ 0)) with hc17_2 | hc17_2
 ·
  replace hm := cT hc17_2 hm
  refine AiT hc17_2 <| Sq <| Adr <| Wm (.i p1) rfl <| Wz (.loc 0 2) (Ofa rfl) <| Wz (.i r14_0.1.E) (Old rfl) <| Wm (.s ([] : List UInt8)) rfl <| Wm (.i p1) rfl <| Wm (.i r14_0.1.E) rfl <| Wdr <| Tn <| Rt <| Ir <| Tr ?_
  obtain rfl := Option.some.inj hm
  exact ret_i []
 ·
  replace hm := cF hc17_2 hm
  refine AiF hc17_2 <| Sx <| Wm (.s r14_0.2) rfl <| Wz (.i ((List.length r14_0.2 : Nat) : Int)) (Oln rfl) <| Wz (.b (decide ((600 : Int) < ((List.length r14_0.2 : Nat) : Int)))) (Obn rfl (fun _ => hb_gtr (k := .i64))) <| Wm (.b (decide ((600 : Int) < ((List.length r14_0.2 : Nat) : Int)))) rfl <| Nk 16777602 1 ⟨tp 1 (.i p1::tp 5 (.loc 0 0::.s r14_0.2::tp 15 (.b (decide ((600 : Int) < ((List.length r14_0.2 : Nat) : Int)))::tp 9 []))), [(.box [(.s r14_0.1.Text), (.i r14_0.1.At), (.i r14_0.1.E)])], 0⟩ ?_
  rcases tf_ (decide ((600 : Int) < ((List.length r14_0.2 : Nat) : Int))) with hc24_3 | hc24_3
  ·
   replace hm := cT hc24_3 hm
   refine AiT hc24_3 <| Sx <| Wm (.i p1) rfl <| Wm (.s ([] : List UInt8)) rfl <| Wm (.i p1) rfl <| Wm (.i 5) rfl <| Nn <| Rt <| Ir <| Tr ?_
   obtain rfl := Option.some.inj hm
   exact ret_i []
  ·
   replace hm := cF hc24_3 hm
   refine AiF hc24_3 <| Sk <| Ino <| Tk 386 1 ⟨tp 1 (.i p1::tp 5 (.loc 0 0::.s r14_0.2::tp 25 [])), [(.box [(.s r14_0.1.Text), (.i r14_0.1.At), (.i r14_0.1.E)])], 0⟩ <| Sq <| Adr <| Wm (.s r14_0.2) rfl <| Wm (.i p1) rfl <| Wz (.loc 0 1) (Ofa rfl) <| Wz (.i r14_0.1.At) (Old rfl) <| Wz (.i (W6 (p1 + r14_0.1.At))) (Obn rfl (fun _ => hb_add (k := .i64))) <| Wm (.s r14_0.2) rfl <| Wm (.i (W6 (p1 + r14_0.1.At))) rfl <| Wm (.i 0) rfl ?_
   refine Wdr <| Tn <| Rt ?_
   obtain rfl := Option.some.inj hm
   exact ret_i []

theorem ok_zig_Take (p0 : (List UInt8)) (p1 : Int) (r : (Int × Int × Int)) (h : m_zig_Take p0 p1 = some r) : GCall Tryd.prog 91 [(.s p0), (.i p1)] [] (.tup [(.u r.1), (.i r.2.1), (.i r.2.2)]) [] := by
 refine GCall.of_body (n := 59) (rs := [(.tmp 4), (.tmp 5), (.tmp 6)]) Tryd.func91 rfl rfl rfl <| Ato ⟨.s p0::.i p1::tu 57 [], [], 0⟩ ?_
 have hm := h
 unfold m_zig_Take at hm
 refine Sx <| Wm (.u 0) rfl <| Wm (.i 0) rfl <| Wm (.i 0) rfl <| Nk 19 0 ⟨.s p0::.i p1::tp 2 (.u 0::tp 54 []), [], 0⟩ <| Sq <| Sx <| Wm (.i p1) rfl <| Wz (.b (decide (p1 < 0))) (Obn rfl (fun _ => hb_lss (k := .i64))) ?_
 rcases tf_ (decide (p1 < 0)) with hq11_0 | hq11_0
 ·
  replace hm := cT hq11_0 hm
  refine Wz (.b true) (Oq hq11_0 rfl) <| Wn <| Wn <| Wn <| Wn <| Wz (.b true) (OpT rfl) <| Nk 65555 0 ⟨.s p0::.i p1::tp 2 (.u 0::tp 11 (.b true::tp 42 [])), [], 0⟩ <| AWP.if_ true (by kernel_rfl) <| Sx <| Wm (.u 0) rfl <| Wm (.i 0) rfl <| Wm (.i 2) rfl <| Nn <| Rt ?_
  refine Tr ?_
  obtain rfl := Option.some.inj hm
  exact ret_i []
 ·
  replace hm := cF hq11_0 hm
  refine Wz (.b false) (Oq hq11_0 rfl) <| Wm (.i p1) rfl <| Wm (.s p0) rfl <| Wz (.i ((List.length p0 : Nat) : Int)) (Oln rfl) <| Wz (.b (decide (((List.length p0 : Nat) : Int) < p1))) (Obn rfl (fun _ => hb_gtr (k := .i64))) <| Wz (.b (decide (((List.length p0 : Nat) : Int) < p1))) (OpF rfl) <| Nk 65555 0 ⟨.s p0::.i p1::tp 2 (.u 0::tp 11 (.b (decide (((List.length p0 : Nat) : Int) < p1))::tp 42 [])), [], 0⟩ ?_
  rcases tf_ (decide (((List.length p0 : Nat) : Int) < p1)) with hc16_9 | hc16_9
  ·
   replace hm := cT hc16_9 hm
   refine AiT hc16_9 <| Sx <| Wm (.u 0) rfl <| Wm (.i 0) rfl <| Wm (.i 2) rfl <| Nn <| Rt <| Tr ?_
   obtain rfl := Option.some.inj hm
   exact ret_i []
  ·
   replace hm := cF hc16_9 hm
   refine AiF hc16_9 <| Sk <| Tk 19 0 ⟨.s p0::.i p1::tp 2 (.u 0::tp 54 []), [], 0⟩ <| Sq <| Sx <| Wm (.i 0) rfl <| Nk 131091 0 ⟨.s p0::.i p1::tp 2 (.u 0::tp 12 (.i 0::tp 41 [])), [], 0⟩ <| Bk ?_
   refine AWP.loopI (α := Nat × Int × Int)
     (fun (fu_1, y4_1, y17_1) => (⟨.s p0::.i p1::tp 2 (.u y4_1::tp 12 (.i y17_1::tp 41 [])), [], 0⟩ : St))
     (fun (fu_1, y4_1, y17_1) => m_zig_Take_l1 p0 p1 fu_1 y4_1 y17_1 = some r)
     (fun (fu_1, y4_1, y17_1) => fu_1) (1152921504606846976, 0, 0)
     (Weak.toK 131091 0 0 []) hm ?_
   rintro ⟨fu_1, y4_1, y17_1⟩ n_1 hm ih_1
   try dsimp only at hm ih_1 ⊢
   cases fu_1 with
   | zero => exact absurd hm (by unfold m_zig_Take_l1; simp)
   | succ fu_1 =>
    unfold m_zig_Take_l1 at hm
    refine Sx <| Wz (.b (decide (y17_1 < 10))) (Obn rfl (fun _ => hb_lss (k := .i64))) <| Nk 393235 0 ⟨.s p0::.i p1::tp 2 (.u y4_1::tp 12 (.i y17_1::.b (decide (y17_1 < 10))::tp 40 [])), [], 0⟩ <| Sq ?_
    rcases tf_ (decide (y17_1 < 10)) with hc18_10 | hc18_10
    ·
     replace hm := cT hc18_10 hm
     refine AiT hc18_10 <| Sk <| Tk 131091 0 ⟨.s p0::.i p1::tp 2 (.u y4_1::tp 12 (.i y17_1::tp 41 [])), [], 0⟩ <| Sq <| Bk <| Sx <| Wm (.i y17_1) rfl <| Wm (.i y17_1) rfl <| Nk 131219 0 ⟨.s p0::.i p1::tp 2 (.u y4_1::tp 2 (.i y17_1::tp 9 (.i y17_1::tp 41 []))), [], 0⟩ <| Sq <| Sx <| Wm (.i p1) rfl <| Wm (.i y17_1) rfl <| Wz (.i (W6 (p1 + y17_1))) (Obn rfl (fun _ => hb_add (k := .i64))) ?_
     refine Wm (.s p0) rfl <| Wz (.i ((List.length p0 : Nat) : Int)) (Oln rfl) <| Wz (.b (decide (((List.length p0 : Nat) : Int) ≤ (W6 (p1 + y17_1))))) (Obn rfl (fun _ => hb_geq (k := .i64))) <| Nk 33685651 0 ⟨.s p0::.i p1::tp 2 (.u y4_1::tp 2 (.i y17_1::tp 9 (.i y17_1::tp 7 (.b (decide (((List.length p0 : Nat) : Int) ≤ (W6 (p1 + y17_1))))::tp 33 [])))), [], 0⟩ ?_
     rcases tf_ (decide (((List.length p0 : Nat) : Int) ≤ (W6 (p1 + y17_1)))) with hc25_11 | hc25_11
     ·
      replace hm := cT hc25_11 hm
      refine AiT hc25_11 <| Sx <| Wm (.u 0) rfl <| Wm (.i 0) rfl <| Wm (.i 3) rfl <| Nn <| Rt <| Tr <| Ir <| Tr <| RoundK.ret <| Ir <| Tr ?_
      obtain rfl := Option.some.inj hm
      exact ret_i []
     ·
      replace hm := cF hc25_11 hm
      refine AiF hc25_11 <| Sk <| Tk 131219 0 ⟨.s p0::.i p1::tp 2 (.u y4_1::tp 2 (.i y17_1::tp 9 (.i y17_1::tp 41 []))), [], 0⟩ <| Sx <| Wm (.s p0) rfl <| Wm (.i p1) rfl <| Wm (.i y17_1) rfl <| Wz (.i (W6 (p1 + y17_1))) (Obn rfl (fun _ => hb_add (k := .i64))) ?_
      obtain ⟨x30_3, hx30_3, hm⟩ := bnd hm
      obtain ⟨hx30_3i, hx30_3g⟩ := geti_some hx30_3
      refine Wz (.y x30_3) (Ocs (by kernel_rfl) (op_index_str rfl (by kernel_rfl) (s := toS p0) (by kernel_rfl) (k := .i64) (iv := (W6 (p1 + y17_1))) (by kernel_rfl) (i := (Int.toNat (W6 (p1 + y17_1)))) (hx30_3i) (b := x30_3) (hx30_3g))) <| Wm (.y x30_3) rfl <| Nk 131475 0 ⟨.s p0::.i p1::tp 2 (.u y4_1::tp 2 (.i y17_1::.y x30_3::tp 8 (.i y17_1::tp 41 []))), [], 0⟩ ?_
      refine AWP.cutJ (α := Unit) (fun x => match x with | () => (⟨.s p0::.i p1::tp 2 (.u y4_1::tp 2 (.i y17_1::.y x30_3::tp 8 (.i y17_1::tp 41 []))), [], 0⟩ : St)) (fun x => match x with | () => m_zig_Take_j6 p1 x30_3 y17_1 y4_1 (fun y4_1 y17_1 => m_zig_Take_l1 p0 p1 fu_1 y4_1 y17_1) = some r) ?_ (fun J6 => ?_)
      ·
       rintro ⟨⟩ hm
       try dsimp only at hm ⊢
       unfold m_zig_Take_j6 at hm
       refine AWP.cutJ (α := Unit) (fun x => match x with | () => (⟨.s p0::.i p1::tp 2 (.u y4_1::tp 2 (.i y17_1::.y x30_3::tp 8 (.i y17_1::tp 41 []))), [], 0⟩ : St)) (fun x => match x with | () => m_zig_Take_j8 p1 x30_3 y17_1 y4_1 (fun y4_1 y17_1 => m_zig_Take_l1 p0 p1 fu_1 y4_1 y17_1) = some r) ?_ (fun J8 => ?_)
       ·
        rintro ⟨⟩ hm
        try dsimp only at hm ⊢
        unfold m_zig_Take_j8 at hm
        refine Sx <| Wm (.u y4_1) rfl <| Wm (.y x30_3) rfl <| Wz (.y (toU8 (((BitVec.ofInt 8 ((x30_3.toNat : Nat) : Int) &&& ~~~ BitVec.ofInt 8 128).toNat : Int)))) (Ocs (lit_int (u8w _)) (op_bin rfl (a1 := .int .u8 ((x30_3.toNat : Nat) : Int)) (a2 := .int .u8 128) (by kernel_rfl) (by kernel_rfl) (fun _ => hb_andNot))) ?_
        obtain ⟨v46_4, hv46_4, hm⟩ := bnd hm; replace hv46_4 := Option.some.inj hv46_4
        refine Wz (.u v46_4) (Ocs (Eq.trans (lit_int (wrap_of_u8 (by decide) _)) (congrArg (fun z => A.d (.lit (.int .u64 z))) hv46_4)) (op_convert rfl (a1 := .int .u8 (((toU8 (((BitVec.ofInt 8 ((x30_3.toNat : Nat) : Int) &&& ~~~ BitVec.ofInt 8 128).toNat : Int))).toNat : Nat) : Int)) (by kernel_rfl) (run_conv (ds := .int .u8) (k' := .u64) (by kernel_rfl) (by kernel_rfl)))) <| Wm (.i y17_1) rfl <| Wz (.i (W6 (7 * y17_1))) (Obn rfl (fun _ => hb_mul (k := .i64))) ?_
        obtain ⟨hs49_4, hm⟩ := chk_some hm
        refine Wz (.u (W7 (v46_4 * 2 ^ (Int.toNat (W6 (7 * y17_1)))))) (Ob2 (.int .u64 v46_4) (.int .i64 (W6 (7 * y17_1))) rfl (fun _ => hb_shl (n := (Int.toNat (W6 (7 * y17_1)))) (sh_le hs49_4.2) (sh_eq hs49_4.1))) ?_
        obtain ⟨v50_4, hv50_4, hm⟩ := bnd hm; replace hv50_4 := Option.some.inj hv50_4
        refine Wz (.u v50_4) (Ocs (Eq.trans (by kernel_rfl) (congrArg (fun z => A.d (.lit (.int .u64 z))) hv50_4)) (op_bin rfl (a1 := .int .u64 y4_1) (a2 := .int .u64 (W7 (v46_4 * 2 ^ (Int.toNat (W6 (7 * y17_1)))))) (by kernel_rfl) (by kernel_rfl) (fun _ => hb_or))) <| Wm (.u v50_4) rfl <| Nk 131475 0 ⟨.s p0::.i p1::tp 2 (.u v50_4::tp 2 (.i y17_1::.y x30_3::tp 8 (.i y17_1::tp 41 []))), [], 0⟩ <| Sx <| Wm (.y x30_3) rfl <| Wz (.b (decide (((x30_3.toNat : Nat) : Int) < 128))) (Ob2 (.int .u8 ((x30_3.toNat : Nat) : Int)) (.int .u8 128) rfl (fun _ => hb_lss)) <| Nk 4503599627501715 0 ⟨.s p0::.i p1::tp 2 (.u v50_4::tp 2 (.i y17_1::tp 9 (.i y17_1::tp 34 (.b (decide (((x30_3.toNat : Nat) : Int) < 128))::tp 6 [])))), [], 0⟩ ?_
        rcases tf_ (decide (((x30_3.toNat : Nat) : Int) < 128)) with hc52_12 | hc52_12
        ·
         replace hm := cT hc52_12 hm
         refine AiT hc52_12 <| Sx <| Wm (.u v50_4) rfl <| Wm (.i p1) rfl <| Wm (.i y17_1) rfl <| Wz (.i (W6 (p1 + y17_1))) (Obn rfl (fun _ => hb_add (k := .i64))) <| Wz (.i (W6 ((W6 (p1 + y17_1)) + 1))) (Obn rfl (fun _ => hb_add (k := .i64))) <| Wm (.u v50_4) rfl <| Wm (.i (W6 ((W6 (p1 + y17_1)) + 1))) rfl <| Wm (.i 0) rfl <| Nn <| Rt <| Ir <| Tr ?_
         refine RoundK.ret <| Ir <| Tr ?_
         obtain rfl := Option.some.inj hm
         exact ret_i []
        ·
         replace hm := cF hc52_12 hm
         refine AiF hc52_12 <| Sk <| Ino <| Tk 131091 0 ⟨.s p0::.i p1::tp 2 (.u v50_4::tp 12 (.i y17_1::tp 41 [])), [], 0⟩ <| Tx <| Wz (.i (W6 (y17_1 + 1))) (Obn rfl (fun _ => hb_add (k := .i64))) <| Wm (.i (W6 (y17_1 + 1))) rfl <| Wn0 <| RoundK.normal ?_
         exact Rounds.weak (Weak.toK 131091 0 0 []) (ih_1 (fu_1, v50_4, (W6 (y17_1 + 1))) hm (Nat.lt_succ_self _))
       refine Sq <| Sx <| Wm (.i y17_1) rfl <| Wz (.b (decide ((0 : Int) < y17_1))) (Obn rfl (fun _ => hb_gtr (k := .i64))) ?_
       rcases tf_ (decide ((0 : Int) < y17_1)) with hq39_7 | hq39_7
       ·
        replace hm := cT hq39_7 hm
        refine Wz (.b true) (Oq hq39_7 rfl) <| Wm (.y x30_3) rfl <| Wz (.b (decide (((x30_3.toNat : Nat) : Int) = 0))) (Ob2 (.int .u8 ((x30_3.toNat : Nat) : Int)) (.int .u8 0) rfl (fun _ => hb_eql)) <| Wz (.b (decide (((x30_3.toNat : Nat) : Int) = 0))) (OpT rfl) <| Nk 4398046642579 0 ⟨.s p0::.i p1::tp 2 (.u y4_1::tp 2 (.i y17_1::.y x30_3::tp 8 (.i y17_1::tp 24 (.b (decide (((x30_3.toNat : Nat) : Int) = 0))::tp 16 [])))), [], 0⟩ ?_
        rcases tf_ (decide (((x30_3.toNat : Nat) : Int) = 0)) with hc42_13 | hc42_13
        ·
         replace hm := cT hc42_13 hm
         refine AiT hc42_13 <| Sx <| Wm (.u 0) rfl <| Wm (.i 0) rfl <| Wm (.i 4) rfl <| Nn <| Rt <| Tr <| Ir <| Tr <| RoundK.ret <| Ir <| Tr ?_
         obtain rfl := Option.some.inj hm
         exact ret_i []
        ·
         replace hm := cF hc42_13 hm
         refine AiF hc42_13 <| Sk <| Tn ?_
         exact AWP.weak (Weak.toK 131475 0 0 []) (J8 () hm)
       ·
        replace hm := cF hq39_7 hm
        refine Wz (.b false) (Oq hq39_7 rfl) <| Wn <| Wn <| Wz (.b false) (OpF rfl) <| Nk 4398046642579 0 ⟨.s p0::.i p1::tp 2 (.u y4_1::tp 2 (.i y17_1::.y x30_3::tp 8 (.i y17_1::tp 24 (.b false::tp 16 [])))), [], 0⟩ <| AWP.if_ false (by kernel_rfl) <| Sk <| Tn ?_
        exact AWP.weak (Weak.toK 131475 0 0 []) (J8 () hm)
      refine Sq <| Sx <| Wm (.i y17_1) rfl <| Wz (.b (decide (y17_1 = 9))) (Obn rfl (fun _ => hb_eql (k := .i64))) ?_
      rcases tf_ (decide (y17_1 = 9)) with hq33_5 | hq33_5
      ·
       replace hm := cT hq33_5 hm
       refine Wz (.b true) (Oq hq33_5 rfl) <| Wm (.y x30_3) rfl <| Wz (.b (decide ((1 : Int) < ((x30_3.toNat : Nat) : Int)))) (Ob2 (.int .u8 ((x30_3.toNat : Nat) : Int)) (.int .u8 1) rfl (fun _ => hb_gtr)) <| Wz (.b (decide ((1 : Int) < ((x30_3.toNat : Nat) : Int)))) (OpT rfl) <| Nk 68719608211 0 ⟨.s p0::.i p1::tp 2 (.u y4_1::tp 2 (.i y17_1::.y x30_3::tp 8 (.i y17_1::tp 18 (.b (decide ((1 : Int) < ((x30_3.toNat : Nat) : Int)))::tp 22 [])))), [], 0⟩ ?_
       rcases tf_ (decide ((1 : Int) < ((x30_3.toNat : Nat) : Int))) with hc36_14 | hc36_14
       ·
        replace hm := cT hc36_14 hm
        refine AiT hc36_14 <| Sx <| Wm (.u 0) rfl <| Wm (.i 0) rfl <| Wm (.i 8) rfl <| Nn <| Rt <| Tr <| Ir <| Tr <| RoundK.ret <| Ir <| Tr ?_
        obtain rfl := Option.some.inj hm
        exact ret_i []
       ·
        replace hm := cF hc36_14 hm
        refine AiF hc36_14 <| Sk <| Tn ?_
        exact AWP.weak (Weak.toK 131475 0 0 []) (J6 () hm)
      ·
       replace hm := cF hq33_5 hm
       refine Wz (.b false) (Oq hq33_5 rfl) <| Wn <| Wn <| Wz (.b false) (OpF rfl) <| Nk 68719608211 0 ⟨.s p0::.i p1::tp 2 (.u y4_1::tp 2 (.i y17_1::.y x30_3::tp 8 (.i y17_1::tp 18 (.b false::tp 22 [])))), [], 0⟩ <| AWP.if_ false (by kernel_rfl) <| Sk <| Tn ?_
       exact AWP.weak (Weak.toK 131475 0 0 []) (J6 () hm)
    ·
     replace hm := cF hc18_10 hm
     refine AiF hc18_10 <| AWP.exit <| Then.exit <| RoundK.exit <| InBlock.same <| Tk 0 0 ⟨tp 59 [], [], 0⟩ <| Sx <| Wm (.u 0) rfl <| Wm (.i 0) rfl <| Wm (.i 8) rfl <| Nn <| Rt ?_
     obtain rfl := Option.some.inj hm
     exact ret_i []

theorem ok_event_numbers (p0 : (List UInt8)) (p1 : Int) (r : (GArr4_Int_ × Int × Int)) (h : m_event_numbers p0 p1 = some r) : GCall Tryd.prog 88 [(.s p0), (.i p1)] [] (.tup [(.agg [(.u r.1.a0), (.u r.1.a1), (.u r.1.a2), (.u r.1.a3)]), (.i r.2.1), (.i r.2.2)]) [] := by
 refine GCall.of_body (n := 32) (rs := [(.cell 4 152), (.tmp 5), (.tmp 6)]) Tryd.func88 rfl rfl rfl <| Ato ⟨.s p0::.i p1::tu 30 [], [], 0⟩ ?_
 have hm := h
 unfold m_event_numbers at hm
 refine Sx <| Wy (.loc 0 0) [(0, (.box [(.u 0), (.u 0), (.u 0), (.u 0)]))] (Oal rfl) <| Wm (.i 0) rfl <| Wm (.i 0) rfl <| Nk 19 1 ⟨.s p0::.i p1::tp 2 (.loc 0 0::tp 27 []), [(.box [(.u 0), (.u 0), (.u 0), (.u 0)])], 0⟩ <| Sq <| Sx <| Wm (.i 0) rfl <| Nk 2067 1 ⟨.s p0::.i p1::tp 2 (.loc 0 0::tp 6 (.i 0::tp 20 [])), [(.box [(.u 0), (.u 0), (.u 0), (.u 0)])], 0⟩ <| Bk ?_
 refine AWP.loopI (α := Nat × Int × GArr4_Int_ × Int)
   (fun (fu_0, y1_0, y4_d_0, y11_0) => (⟨.s p0::.i y1_0::tp 2 (.loc 0 0::tp 6 (.i y11_0::tp 20 [])), [(.box [(.u y4_d_0.a0), (.u y4_d_0.a1), (.u y4_d_0.a2), (.u y4_d_0.a3)])], 0⟩ : St))
   (fun (fu_0, y1_0, y4_d_0, y11_0) => m_event_numbers_l0 p0 fu_0 y1_0 y4_d_0 y11_0 = some r)
   (fun (fu_0, y1_0, y4_d_0, y11_0) => fu_0) (1152921504606846976, p1, (GArr4_Int_.mk 0 0 0 0), 0)
   (Weak.toK 2067 0 0 [0]) hm ?_
 rintro ⟨fu_0, y1_0, y4_d_0, y11_0⟩ n_0 hm ih_0
 try dsimp only at hm ih_0 ⊢
 cases fu_0 with
 | zero => exact absurd hm (by unfold m_event_numbers_l0; simp)
 | succ fu_0 =>
  unfold m_event_numbers_l0 at hm
  refine Sx <| Wz (.b (decide (y11_0 < 4))) (Obn rfl (fun _ => hb_lss (k := .i64))) <| Nk 6163 1 ⟨.s p0::.i y1_0::tp 2 (.loc 0 0::tp 6 (.i y11_0::.b (decide (y11_0 < 4))::tp 19 [])), [(.box [(.u y4_d_0.a0), (.u y4_d_0.a1), (.u y4_d_0.a2), (.u y4_d_0.a3)])], 0⟩ <| Sq ?_
  rcases tf_ (decide (y11_0 < 4)) with hc12_3 | hc12_3
  ·
   replace hm := cT hc12_3 hm
   refine AiT hc12_3 <| Sk <| Tk 2067 1 ⟨.s p0::.i y1_0::tp 2 (.loc 0 0::tp 6 (.i y11_0::tp 20 [])), [(.box [(.u y4_d_0.a0), (.u y4_d_0.a1), (.u y4_d_0.a2), (.u y4_d_0.a3)])], 0⟩ <| Sq <| Bk <| Sx <| Wm (.i y11_0) rfl <| Wm (.i y11_0) rfl <| Nk 2195 1 ⟨.s p0::.i y1_0::tp 2 (.loc 0 0::tp 2 (.i y11_0::tp 3 (.i y11_0::tp 20 []))), [(.box [(.u y4_d_0.a0), (.u y4_d_0.a1), (.u y4_d_0.a2), (.u y4_d_0.a3)])], 0⟩ <| Sx <| Wm (.s p0) rfl <| Wm (.i y1_0) rfl ?_
   obtain ⟨r17_1, hr17_1, hm⟩ := bnd hm
   refine Wz (.tup [(.u r17_1.1), (.i r17_1.2.1), (.i r17_1.2.2)]) (Ocf [] [] [] 0 (ok_zig_Take p0 y1_0 r17_1 hr17_1) (fun a w => Tryd.call91 a w) rfl trivial) <| Wm (.tup [(.u r17_1.1), (.i r17_1.2.1), (.i r17_1.2.2)]) rfl <| Wz (.u r17_1.1) (Oex rfl) <| Wz (.i r17_1.2.1) (Oex rfl) <| Wz (.i r17_1.2.2) (Oex rfl) <| Wm (.u r17_1.1) rfl <| Wm (.i r17_1.2.1) rfl <| Wm (.i r17_1.2.2) rfl <| Nk 3985 1 ⟨.s p0::tp 3 (.loc 0 0::tp 2 (.i y11_0::.u r17_1.1::.i r17_1.2.1::.i r17_1.2.2::.i y11_0::tp 20 [])), [(.box [(.u y4_d_0.a0), (.u y4_d_0.a1), (.u y4_d_0.a2), (.u y4_d_0.a3)])], 0⟩ <| Sq <| Sx <| Wm (.i r17_1.2.2) rfl <| Wz (.b (decide (r17_1.2.2 ≠ 0))) (Obn rfl (fun _ => hb_neq (k := .i64))) <| Nk 4198289 1 ⟨.s p0::tp 3 (.loc 0 0::tp 2 (.i y11_0::.u r17_1.1::.i r17_1.2.1::.i r17_1.2.2::.i y11_0::tp 10 (.b (decide (r17_1.2.2 ≠ 0))::tp 9 []))), [(.box [(.u y4_d_0.a0), (.u y4_d_0.a1), (.u y4_d_0.a2), (.u y4_d_0.a3)])], 0⟩ ?_
   rcases tf_ (decide (r17_1.2.2 ≠ 0)) with hc22_4 | hc22_4
   ·
    replace hm := cT hc22_4 hm
    refine AiT hc22_4 <| Sx <| Wz (.agg [(.u y4_d_0.a0), (.u y4_d_0.a1), (.u y4_d_0.a2), (.u y4_d_0.a3)]) (Old rfl) <| Wm (.i r17_1.2.2) rfl <| Wy (.tup []) [(0, (.box [(.u y4_d_0.a0), (.u y4_d_0.a1), (.u y4_d_0.a2), (.u y4_d_0.a3)]))] (Ost rfl) <| Wm (.i 0) rfl <| Wm (.i r17_1.2.2) rfl <| Nn <| Rt <| Tr <| Ir <| Tr <| RoundK.ret <| Ir ?_
    refine Tr ?_
    obtain rfl := Option.some.inj hm
    exact ret_i []
   ·
    replace hm := cF hc22_4 hm
    refine AiF hc22_4 <| Sk <| Tk 2961 1 ⟨.s p0::tp 3 (.loc 0 0::tp 2 (.i y11_0::.u r17_1.1::.i r17_1.2.1::tp 1 (.i y11_0::tp 20 []))), [(.box [(.u y4_d_0.a0), (.u y4_d_0.a1), (.u y4_d_0.a2), (.u y4_d_0.a3)])], 0⟩ <| Tx <| Wm (.i y11_0) rfl <| Wm (.u r17_1.1) rfl <| Wm (.i r17_1.2.1) rfl ?_
    rcases tf_ (decide (y11_0 = 0)) with hq28_2_0 | hq28_2_0
    ·
     replace hm := cT hq28_2_0 hm
     refine Wz (.loc 0 0) (Ocs (by kernel_rfl) (op_iaddr_arr rfl (n := 4) (sz := 1) (y := (.loc 0 0)) (by kernel_rfl) (by kernel_rfl) (by kernel_rfl) (k := .i64) (iv := y11_0) (by kernel_rfl) (i := 0) (of_decide_eq_true hq28_2_0) (by decide))) <| Wy (.tup []) [(0, (.box [(.u r17_1.1), (.u y4_d_0.a1), (.u y4_d_0.a2), (.u y4_d_0.a3)]))] (Ost rfl) <| Wm (.i r17_1.2.1) rfl <| Wn0 <| Ino <| Tk 2067 1 ⟨.s p0::.i r17_1.2.1::tp 2 (.loc 0 0::tp 6 (.i y11_0::tp 20 [])), [(.box [(.u r17_1.1), (.u y4_d_0.a1), (.u y4_d_0.a2), (.u y4_d_0.a3)])], 0⟩ <| Tx <| Wz (.i (W6 (y11_0 + 1))) (Obn rfl (fun _ => hb_add (k := .i64))) <| Wm (.i (W6 (y11_0 + 1))) rfl <| Wn0 <| RoundK.normal ?_
     exact Rounds.weak (Weak.toK 2067 0 0 [0]) (ih_0 (fu_0, r17_1.2.1, (GArr4_Int_.mk r17_1.1 y4_d_0.a1 y4_d_0.a2 y4_d_0.a3), (W6 (y11_0 + 1))) hm (Nat.lt_succ_self _))
    ·
     replace hm := cF hq28_2_0 hm
     rcases tf_ (decide (y11_0 = 1)) with hq28_2_1 | hq28_2_1
     ·
      replace hm := cT hq28_2_1 hm
      refine Wz (.loc 0 1) (Ocs (by kernel_rfl) (op_iaddr_arr rfl (n := 4) (sz := 1) (y := (.loc 0 0)) (by kernel_rfl) (by kernel_rfl) (by kernel_rfl) (k := .i64) (iv := y11_0) (by kernel_rfl) (i := 1) (of_decide_eq_true hq28_2_1) (by decide))) <| Wy (.tup []) [(0, (.box [(.u y4_d_0.a0), (.u r17_1.1), (.u y4_d_0.a2), (.u y4_d_0.a3)]))] (Ost rfl) <| Wm (.i r17_1.2.1) rfl <| Wn0 <| Ino <| Tk 2067 1 ⟨.s p0::.i r17_1.2.1::tp 2 (.loc 0 0::tp 6 (.i y11_0::tp 20 [])), [(.box [(.u y4_d_0.a0), (.u r17_1.1), (.u y4_d_0.a2), (.u y4_d_0.a3)])], 0⟩ <| Tx <| Wz (.i (W6 (y11_0 + 1))) (Obn rfl (fun _ => hb_add (k := .i64))) <| Wm (.i (W6 (y11_0 + 1))) rfl <| Wn0 <| RoundK.normal ?_
      exact Rounds.weak (Weak.toK 2067 0 0 [0]) (ih_0 (fu_0, r17_1.2.1, (GArr4_Int_.mk y4_d_0.a0 r17_1.1 y4_d_0.a2 y4_d_0.a3), (W6 (y11_0 + 1))) hm (Nat.lt_succ_self _))
     ·
      replace hm := cF hq28_2_1 hm
      rcases tf_ (decide (y11_0 = 2)) with hq28_2_2 | hq28_2_2
      ·
       replace hm := cT hq28_2_2 hm
       refine Wz (.loc 0 2) (Ocs (by kernel_rfl) (op_iaddr_arr rfl (n := 4) (sz := 1) (y := (.loc 0 0)) (by kernel_rfl) (by kernel_rfl) (by kernel_rfl) (k := .i64) (iv := y11_0) (by kernel_rfl) (i := 2) (of_decide_eq_true hq28_2_2) (by decide))) <| Wy (.tup []) [(0, (.box [(.u y4_d_0.a0), (.u y4_d_0.a1), (.u r17_1.1), (.u y4_d_0.a3)]))] (Ost rfl) <| Wm (.i r17_1.2.1) rfl <| Wn0 <| Ino <| Tk 2067 1 ⟨.s p0::.i r17_1.2.1::tp 2 (.loc 0 0::tp 6 (.i y11_0::tp 20 [])), [(.box [(.u y4_d_0.a0), (.u y4_d_0.a1), (.u r17_1.1), (.u y4_d_0.a3)])], 0⟩ <| Tx <| Wz (.i (W6 (y11_0 + 1))) (Obn rfl (fun _ => hb_add (k := .i64))) <| Wm (.i (W6 (y11_0 + 1))) rfl <| Wn0 <| RoundK.normal ?_
       exact Rounds.weak (Weak.toK 2067 0 0 [0]) (ih_0 (fu_0, r17_1.2.1, (GArr4_Int_.mk y4_d_0.a0 y4_d_0.a1 r17_1.1 y4_d_0.a3), (W6 (y11_0 + 1))) hm (Nat.lt_succ_self _))
      ·
       replace hm := cF hq28_2_2 hm
       rcases tf_ (decide (y11_0 = 3)) with hq28_2_3 | hq28_2_3
       ·
        replace hm := cT hq28_2_3 hm
        refine Wz (.loc 0 3) (Ocs (by kernel_rfl) (op_iaddr_arr rfl (n := 4) (sz := 1) (y := (.loc 0 0)) (by kernel_rfl) (by kernel_rfl) (by kernel_rfl) (k := .i64) (iv := y11_0) (by kernel_rfl) (i := 3) (of_decide_eq_true hq28_2_3) (by decide))) <| Wy (.tup []) [(0, (.box [(.u y4_d_0.a0), (.u y4_d_0.a1), (.u y4_d_0.a2), (.u r17_1.1)]))] (Ost rfl) <| Wm (.i r17_1.2.1) rfl <| Wn0 <| Ino <| Tk 2067 1 ⟨.s p0::.i r17_1.2.1::tp 2 (.loc 0 0::tp 6 (.i y11_0::tp 20 [])), [(.box [(.u y4_d_0.a0), (.u y4_d_0.a1), (.u y4_d_0.a2), (.u r17_1.1)])], 0⟩ <| Tx <| Wz (.i (W6 (y11_0 + 1))) (Obn rfl (fun _ => hb_add (k := .i64))) <| Wm (.i (W6 (y11_0 + 1))) rfl <| Wn0 <| RoundK.normal ?_
        exact Rounds.weak (Weak.toK 2067 0 0 [0]) (ih_0 (fu_0, r17_1.2.1, (GArr4_Int_.mk y4_d_0.a0 y4_d_0.a1 y4_d_0.a2 r17_1.1), (W6 (y11_0 + 1))) hm (Nat.lt_succ_self _))
       ·
        replace hm := cF hq28_2_3 hm
        exact nomatch hm
  ·
   replace hm := cF hc12_3 hm
   refine AiF hc12_3 <| AWP.exit <| Then.exit <| RoundK.exit <| InBlock.same <| Tk 18 1 ⟨tp 1 (.i y1_0::tp 2 (.loc 0 0::tp 27 [])), [(.box [(.u y4_d_0.a0), (.u y4_d_0.a1), (.u y4_d_0.a2), (.u y4_d_0.a3)])], 0⟩ <| Sx <| Wz (.agg [(.u y4_d_0.a0), (.u y4_d_0.a1), (.u y4_d_0.a2), (.u y4_d_0.a3)]) (Old rfl) <| Wm (.i y1_0) rfl <| Wy (.tup []) [(0, (.box [(.u y4_d_0.a0), (.u y4_d_0.a1), (.u y4_d_0.a2), (.u y4_d_0.a3)]))] (Ost rfl) <| Wm (.i y1_0) rfl <| Wm (.i 0) rfl <| Nn <| Rt ?_
   obtain rfl := Option.some.inj hm
   exact ret_i []

theorem ok_event_number (p0 : Int) (p1 : Int) (r : Int) (h : m_event_number p0 p1 = some r) : GCall Tryd.prog 89 [(.u p0), (.i p1)] [] (.i r) [] := by
 refine GCall.of_body (n := 11) (rs := [(.tmp 4)]) Tryd.func89 rfl rfl rfl <| Ato ⟨.u p0::.i p1::tu 9 [], [], 0⟩ ?_
 have hm := h
 unfold m_event_number at hm
 refine Sx <| Wm (.i 0) rfl <| Nk 3 0 ⟨.u p0::.i p1::tp 9 [], [], 0⟩ <| Sq <| Sx <| Wm (.u p0) rfl <| Wm (.i p1) rfl <| Wz (.u (W7 p1)) (Oc2 (.int .i64 p1) rfl (run_conv (ds := .int .i64) (k' := .u64) (by kernel_rfl) (by kernel_rfl))) <| Wz (.b (decide ((W7 p1) < p0))) (Obn rfl (fun _ => hb_gtr (k := .u64))) <| Nk 257 0 ⟨.u p0::tp 7 (.b (decide ((W7 p1) < p0))::tp 2 []), [], 0⟩ ?_
 rcases tf_ (decide ((W7 p1) < p0)) with hc8_2 | hc8_2
 ·
  replace hm := cT hc8_2 hm
  refine AiT hc8_2 <| Sx <| Wm (.i (-1)) rfl <| Nn <| Rt <| Tr ?_
  obtain rfl := Option.some.inj hm
  exact ret_i []
 ·
  replace hm := cF hc8_2 hm
  refine AiF hc8_2 <| Sk <| Tk 1 0 ⟨.u p0::tp 10 [], [], 0⟩ <| Sx <| Wm (.u p0) rfl <| Wz (.i (W6 p0)) (Oc2 (.int .u64 p0) rfl (run_conv (ds := .int .u64) (k' := .i64) (by kernel_rfl) (by kernel_rfl))) <| Wm (.i (W6 p0)) rfl <| Nn <| Rt ?_
  obtain rfl := Option.some.inj hm
  exact ret_i []

theorem ok_zig_Back (p0 : Int) (r : Int) (h : m_zig_Back p0 = some r) : GCall Tryd.prog 92 [(.u p0)] [] (.i r) [] := by
 refine GCall.of_body (n := 11) (rs := [(.tmp 2)]) Tryd.func92 rfl rfl rfl <| Ato ⟨.u p0::tu 10 [], [], 0⟩ ?_
 have hm := h
 unfold m_zig_Back at hm
 refine Sx <| Wm (.i 0) rfl <| Nk 1 0 ⟨.u p0::tp 10 [], [], 0⟩ <| Sx <| Wm (.u p0) rfl <| Wz (.u (Int.fdiv p0 (2 ^ 1))) (Ob2 (.int .u64 p0) (.int .u64 1) rfl (fun _ => hb_shr (n := 1) (by decide) rfl)) <| Wz (.i (W6 (Int.fdiv p0 (2 ^ 1)))) (Oc2 (.int .u64 (Int.fdiv p0 (2 ^ 1))) rfl (run_conv (ds := .int .u64) (k' := .i64) (by kernel_rfl) (by kernel_rfl))) <| Wm (.u p0) rfl <| Wz (.u (W7 (((BitVec.ofInt 64 p0 &&& BitVec.ofInt 64 1).toNat : Int)))) (Ob2 (.int .u64 p0) (.int .u64 1) rfl (fun _ => hb_and)) <| Wz (.i (W6 (W7 (((BitVec.ofInt 64 p0 &&& BitVec.ofInt 64 1).toNat : Int))))) (Oc2 (.int .u64 (W7 (((BitVec.ofInt 64 p0 &&& BitVec.ofInt 64 1).toNat : Int)))) rfl (run_conv (ds := .int .u64) (k' := .i64) (by kernel_rfl) (by kernel_rfl))) ?_
 obtain ⟨v9_0, hv9_0, hm⟩ := bnd hm; replace hv9_0 := Option.some.inj hv9_0
 refine Wz (.i v9_0) (Ocs (Eq.trans (by kernel_rfl) (congrArg (fun z => A.d (.lit (.int .i64 z))) hv9_0)) (op_un rfl (a1 := .int .i64 (W6 (W7 (((BitVec.ofInt 64 p0 &&& BitVec.ofInt 64 1).toNat : Int))))) (by kernel_rfl) (fun _ => hu_neg))) ?_
 obtain ⟨v10_0, hv10_0, hm⟩ := bnd hm; replace hv10_0 := Option.some.inj hv10_0
 refine Wz (.i v10_0) (Ocs (Eq.trans (by kernel_rfl) (congrArg (fun z => A.d (.lit (.int .i64 z))) hv10_0)) (op_bin rfl (a1 := .int .i64 (W6 (Int.fdiv p0 (2 ^ 1)))) (a2 := .int .i64 v9_0) (by kernel_rfl) (by kernel_rfl) (fun _ => hb_xor))) <| Wm (.i v10_0) rfl <| Nn <| Rt ?_
 obtain rfl := Option.some.inj hm
 exact ret_i []

theorem ok_zig_TakeInt (p0 : (List UInt8)) (p1 : Int) (r : (Int × Int × Int)) (h : m_zig_TakeInt p0 p1 = some r) : GCall Tryd.prog 69 [(.s p0), (.i p1)] [] (.tup [(.i r.1), (.i r.2.1), (.i r.2.2)]) [] := by
 refine GCall.of_body (n := 19) (rs := [(.tmp 4), (.tmp 5), (.tmp 6)]) Tryd.func69 rfl rfl rfl <| Ato ⟨.s p0::.i p1::tu 17 [], [], 0⟩ ?_
 have hm := h
 unfold m_zig_TakeInt at hm
 refine Sx <| Wm (.i 0) rfl <| Wm (.i 0) rfl <| Wm (.i 0) rfl <| Nk 3 0 ⟨.s p0::.i p1::tp 17 [], [], 0⟩ <| Sx <| Wm (.s p0) rfl <| Wm (.i p1) rfl ?_
 obtain ⟨r11_0, hr11_0, hm⟩ := bnd hm
 refine Wz (.tup [(.u r11_0.1), (.i r11_0.2.1), (.i r11_0.2.2)]) (Ocf [] [] [] 0 (ok_zig_Take p0 p1 r11_0 hr11_0) (fun a w => Tryd.call91 a w) rfl trivial) <| Wm (.tup [(.u r11_0.1), (.i r11_0.2.1), (.i r11_0.2.2)]) rfl <| Wz (.u r11_0.1) (Oex rfl) <| Wz (.i r11_0.2.1) (Oex rfl) <| Wz (.i r11_0.2.2) (Oex rfl) <| Wm (.u r11_0.1) rfl <| Wm (.i r11_0.2.1) rfl <| Wm (.i r11_0.2.2) rfl <| Nk 224 0 ⟨tp 5 (.i r11_0.2.1::.i r11_0.2.2::.u r11_0.1::tp 11 []), [], 0⟩ <| Sx <| Wm (.u r11_0.1) rfl ?_
 obtain ⟨r16_1, hr16_1, hm⟩ := bnd hm
 refine Wz (.i r16_1) (Ocf [] [] [] 0 (ok_zig_Back r11_0.1 r16_1 hr16_1) (fun a w => Tryd.call92 a w) rfl trivial) <| Wm (.i r11_0.2.1) rfl <| Wm (.i r11_0.2.2) rfl <| Wm (.i r16_1) rfl <| Wm (.i r11_0.2.1) rfl <| Wm (.i r11_0.2.2) rfl <| Nn <| Rt ?_
 obtain rfl := Option.some.inj hm
 exact ret_i []

theorem ok_octet_Reader_Word (p0 : GReader) (r : (GReader × Int)) (h : m_octet_Reader_Word p0 = some r) : GCall Tryd.prog 111 [(.agg [(.s p0.Text), (.i p0.At), (.i p0.E)])] [] (.tup [(.agg [(.s r.1.Text), (.i r.1.At), (.i r.1.E)]), (.u r.2)]) [] := by
 refine GCall.of_body (n := 8) (rs := [(.cell 2 148), (.tmp 3)]) Tryd.func111 rfl rfl rfl <| Ato ⟨.agg [(.s p0.Text), (.i p0.At), (.i p0.E)]::tu 7 [], [], 0⟩ ?_
 have hm := h
 unfold m_octet_Reader_Word at hm
 refine Sx <| Wy (.loc 0 0) [(0, (.box [(.s p0.Text), (.i p0.At), (.i p0.E)]))] (Obx rfl) <| Wy (.loc 1 0) [(1, (.box [(.s ([] : List UInt8)), (.i 0), (.i 0)]))] (Oal rfl) <| Wm (.u 0) rfl <| Nk 6 3 ⟨tp 1 (.loc 0 0::.loc 1 0::tp 5 []), [(.box [(.s p0.Text), (.i p0.At), (.i p0.E)]), (.box [(.s ([] : List UInt8)), (.i 0), (.i 0)])], 0⟩ <| Sx <| Wz (.agg [(.s p0.Text), (.i p0.At), (.i p0.E)]) (Old rfl) ?_
 obtain ⟨r5_0, hr5_0, hm⟩ := bnd hm
 refine Wz (.tup [(.agg [(.s r5_0.1.Text), (.i r5_0.1.At), (.i r5_0.1.E)]), (.u r5_0.2)]) (Ocf [] [] [] 0 (ok_octet_Reader_take p0 8 r5_0 hr5_0) (fun a w => Tryd.call104 a w) rfl trivial) <| Wz (.agg [(.s r5_0.1.Text), (.i r5_0.1.At), (.i r5_0.1.E)]) (Oex rfl) <| Wz (.u r5_0.2) (Oex rfl) <| Wy (.tup []) [(1, (.box [(.s r5_0.1.Text), (.i r5_0.1.At), (.i r5_0.1.E)]))] (Ost rfl) <| Wm (.u r5_0.2) rfl <| Nn <| Rt ?_
 obtain rfl := Option.some.inj hm
 exact ret_i []

theorem ok_value_body (p0 : UInt8) (p1 : (List UInt8)) (p2 : Int) (r : (GValue × Int × Int)) (h : m_value_body p0 p1 p2 = some r) : GCall Tryd.prog 107 [(.y p0), (.s p1), (.i p2)] [] (.tup [(.agg [(.y r.1.Kind), (.i r.1.N), (.u r.1.Bits), (.s r.1.Text)]), (.i r.2.1), (.i r.2.2)]) [] := by
 refine GCall.of_body (n := 107) (rs := [(.cell 6 105), (.tmp 7), (.tmp 8)]) Tryd.func107 rfl rfl rfl <| Ato ⟨.y p0::.s p1::.i p2::tu 104 [], [], 0⟩ ?_
 have hm := h
 unfold m_value_body at hm
 refine Sx <| Wy (.loc 0 0) [(0, (.box [(.y 0), (.i 0), (.u 0), (.s ([] : List UInt8))]))] (Oal rfl) <| Wm (.i 0) rfl <| Wm (.i 0) rfl <| Nk 71 1 ⟨.y p0::.s p1::.i p2::tp 3 (.loc 0 0::tp 100 []), [(.box [(.y 0), (.i 0), (.u 0), (.s ([] : List UInt8))])], 0⟩ <| Sx <| Wm (.y p0) rfl <| Wz (.agg [(.y p0), (.i 0), (.u 0), (.s ([] : List UInt8))]) (Obd rfl) <| Wy (.loc 1 0) [(1, (.box [(.y 0), (.i 0), (.u 0), (.s ([] : List UInt8))]))] (Oal rfl) <| Wy (.tup []) [(1, (.box [(.y p0), (.i 0), (.u 0), (.s ([] : List UInt8))]))] (Ost rfl) <| Nk 583 3 ⟨.y p0::.s p1::.i p2::tp 3 (.loc 0 0::tp 2 (.loc 1 0::tp 97 [])), [(.box [(.y 0), (.i 0), (.u 0), (.s ([] : List UInt8))]), (.box [(.y p0), (.i 0), (.u 0), (.s ([] : List UInt8))])], 0⟩ <| Sq <| Sx <| Wm (.y p0) rfl ?_
 refine Nk 1049158 3 ⟨tp 1 (.s p1::.i p2::tp 3 (.loc 0 0::tp 2 (.loc 1 0::tp 10 (.y p0::tp 86 [])))), [(.box [(.y 0), (.i 0), (.u 0), (.s ([] : List UInt8))]), (.box [(.y p0), (.i 0), (.u 0), (.s ([] : List UInt8))])], 0⟩ <| Bk <| Sx <| Wz (.b (decide (((p0.toNat : Nat) : Int) = 1))) (Ob2 (.int .u8 ((p0.toNat : Nat) : Int)) (.int .u8 1) rfl (fun _ => hb_eql)) <| Wm (.b (decide (((p0.toNat : Nat) : Int) = 1))) rfl <| Nk 3146310 3 ⟨tp 1 (.s p1::.i p2::tp 3 (.loc 0 0::tp 2 (.loc 1 0::tp 10 (.y p0::.b (decide (((p0.toNat : Nat) : Int) = 1))::tp 85 [])))), [(.box [(.y 0), (.i 0), (.u 0), (.s ([] : List UInt8))]), (.box [(.y p0), (.i 0), (.u 0), (.s ([] : List UInt8))])], 0⟩ ?_
 rcases tf_ (decide (((p0.toNat : Nat) : Int) = 1)) with hc21_8 | hc21_8
 ·
  replace hm := cT hc21_8 hm
  refine AiT hc21_8 <| Sx <| Wm (.s p1) rfl <| Wm (.i p2) rfl ?_
  obtain ⟨r26_0, hr26_0, hm⟩ := bnd hm
  refine Wz (.tup [(.i r26_0.1), (.i r26_0.2.1), (.i r26_0.2.2)]) (Ocf [] [] [] 0 (ok_zig_TakeInt p1 p2 r26_0 hr26_0) (fun a w => Tryd.call69 a w) rfl trivial) <| Wm (.tup [(.i r26_0.1), (.i r26_0.2.1), (.i r26_0.2.2)]) rfl <| Wz (.i r26_0.1) (Oex rfl) <| Wz (.i r26_0.2.1) (Oex rfl) <| Wz (.i r26_0.2.2) (Oex rfl) <| Wm (.i r26_0.1) rfl <| Wm (.i r26_0.2.1) rfl <| Wm (.i r26_0.2.2) rfl <| Nk 7744 3 ⟨tp 6 (.loc 0 0::tp 2 (.loc 1 0::.i r26_0.1::.i r26_0.2.1::.i r26_0.2.2::tp 94 [])), [(.box [(.y 0), (.i 0), (.u 0), (.s ([] : List UInt8))]), (.box [(.y p0), (.i 0), (.u 0), (.s ([] : List UInt8))])], 0⟩ <| Sx <| Wm (.i r26_0.1) rfl <| Wz (.loc 1 1) (Ofa rfl) <| Wy (.tup []) [(1, (.box [(.y p0), (.i r26_0.1), (.u 0), (.s ([] : List UInt8))]))] (Ost rfl) <| Nk 6720 3 ⟨tp 6 (.loc 0 0::tp 2 (.loc 1 0::tp 1 (.i r26_0.2.1::.i r26_0.2.2::tp 94 []))), [(.box [(.y 0), (.i 0), (.u 0), (.s ([] : List UInt8))]), (.box [(.y p0), (.i r26_0.1), (.u 0), (.s ([] : List UInt8))])], 0⟩ ?_
  refine Sx <| Wz (.agg [(.y p0), (.i r26_0.1), (.u 0), (.s ([] : List UInt8))]) (Old rfl) <| Wm (.i r26_0.2.1) rfl <| Wm (.i r26_0.2.2) rfl <| Wy (.tup []) [(0, (.box [(.y p0), (.i r26_0.1), (.u 0), (.s ([] : List UInt8))]))] (Ost rfl) <| Wm (.i r26_0.2.1) rfl <| Wm (.i r26_0.2.2) rfl <| Nn <| Rt <| Ir <| Tr ?_
  obtain rfl := Option.some.inj hm
  exact ret_i []
 ·
  replace hm := cF hc21_8 hm
  refine AiF hc21_8 <| Sx <| Wz (.b (decide (((p0.toNat : Nat) : Int) = 2))) (Ob2 (.int .u8 ((p0.toNat : Nat) : Int)) (.int .u8 2) rfl (fun _ => hb_eql)) <| Wm (.b (decide (((p0.toNat : Nat) : Int) = 2))) rfl <| Nk 34360787526 3 ⟨tp 1 (.s p1::.i p2::tp 3 (.loc 0 0::tp 2 (.loc 1 0::tp 10 (.y p0::tp 14 (.b (decide (((p0.toNat : Nat) : Int) = 2))::tp 71 []))))), [(.box [(.y 0), (.i 0), (.u 0), (.s ([] : List UInt8))]), (.box [(.y p0), (.i 0), (.u 0), (.s ([] : List UInt8))])], 0⟩ ?_
  rcases tf_ (decide (((p0.toNat : Nat) : Int) = 2)) with hc35_9 | hc35_9
  ·
   replace hm := cT hc35_9 hm
   refine AiT hc35_9 <| Sq <| Sx <| Wm (.i p2) rfl <| Wm (.s p1) rfl <| Wz (.i ((List.length p1 : Nat) : Int)) (Oln rfl) <| Wz (.b (decide (p2 = ((List.length p1 : Nat) : Int)))) (Obn rfl (fun _ => hb_eql (k := .i64))) <| Nk 1099511628358 3 ⟨tp 1 (.s p1::.i p2::tp 3 (.loc 0 0::tp 2 (.loc 1 0::tp 30 (.b (decide (p2 = ((List.length p1 : Nat) : Int)))::tp 66 [])))), [(.box [(.y 0), (.i 0), (.u 0), (.s ([] : List UInt8))]), (.box [(.y p0), (.i 0), (.u 0), (.s ([] : List UInt8))])], 0⟩ ?_
   rcases tf_ (decide (p2 = ((List.length p1 : Nat) : Int))) with hc40_10 | hc40_10
   ·
    replace hm := cT hc40_10 hm
    refine AiT hc40_10 <| Sx <| Wz (.agg [(.y p0), (.i 0), (.u 0), (.s ([] : List UInt8))]) (Old rfl) <| Wy (.tup []) [(0, (.box [(.y p0), (.i 0), (.u 0), (.s ([] : List UInt8))]))] (Ost rfl) <| Wm (.i 0) rfl <| Wm (.i 3) rfl <| Nn <| Rt <| Tr <| Ir <| Tr ?_
    obtain rfl := Option.some.inj hm
    exact ret_i []
   ·
    replace hm := cF hc40_10 hm
    refine AiF hc40_10 <| Sk <| Tk 582 3 ⟨tp 1 (.s p1::.i p2::tp 3 (.loc 0 0::tp 2 (.loc 1 0::tp 97 []))), [(.box [(.y 0), (.i 0), (.u 0), (.s ([] : List UInt8))]), (.box [(.y p0), (.i 0), (.u 0), (.s ([] : List UInt8))])], 0⟩ <| Sx <| Wm (.s p1) rfl <| Wm (.i p2) rfl ?_
    obtain ⟨x44_2, hx44_2, hm⟩ := bnd hm
    obtain ⟨hx44_2i, hx44_2g⟩ := geti_some hx44_2
    refine Wz (.y x44_2) (Ocs (by kernel_rfl) (op_index_str rfl (by kernel_rfl) (s := toS p1) (by kernel_rfl) (k := .i64) (iv := p2) (by kernel_rfl) (i := (Int.toNat p2)) (hx44_2i) (b := x44_2) (hx44_2g))) <| Wz (.i ((x44_2.toNat : Nat) : Int)) (Ocs (lit_int (wrap_of_u8 (by decide) _)) (op_convert rfl (a1 := .int .u8 ((x44_2.toNat : Nat) : Int)) (by kernel_rfl) (run_conv (ds := .int .u8) (k' := .i64) (by kernel_rfl) (by kernel_rfl)))) <| Wz (.loc 1 1) (Ofa rfl) <| Wy (.tup []) [(1, (.box [(.y p0), (.i ((x44_2.toNat : Nat) : Int)), (.u 0), (.s ([] : List UInt8))]))] (Ost rfl) <| Nk 580 3 ⟨tp 2 (.i p2::tp 3 (.loc 0 0::tp 2 (.loc 1 0::tp 97 []))), [(.box [(.y 0), (.i 0), (.u 0), (.s ([] : List UInt8))]), (.box [(.y p0), (.i ((x44_2.toNat : Nat) : Int)), (.u 0), (.s ([] : List UInt8))])], 0⟩ <| Sx <| Wz (.agg [(.y p0), (.i ((x44_2.toNat : Nat) : Int)), (.u 0), (.s ([] : List UInt8))]) (Old rfl) <| Wm (.i p2) rfl <| Wz (.i (W6 (p2 + 1))) (Obn rfl (fun _ => hb_add (k := .i64))) <| Wy (.tup []) [(0, (.box [(.y p0), (.i ((x44_2.toNat : Nat) : Int)), (.u 0), (.s ([] : List UInt8))]))] (Ost rfl) <| Wm (.i (W6 (p2 + 1))) rfl <| Wm (.i 0) rfl <| Nn <| Rt ?_
    refine Ir <| Tr ?_
    obtain rfl := Option.some.inj hm
    exact ret_i []
  ·
   replace hm := cF hc35_9 hm
   refine AiF hc35_9 <| Sx <| Wz (.b (decide (((p0.toNat : Nat) : Int) = 3))) (Ob2 (.int .u8 ((p0.toNat : Nat) : Int)) (.int .u8 3) rfl (fun _ => hb_eql)) <| Wm (.b (decide (((p0.toNat : Nat) : Int) = 3))) rfl <| Nk 1125899907891782 3 ⟨tp 1 (.s p1::.i p2::tp 3 (.loc 0 0::tp 2 (.loc 1 0::tp 10 (.y p0::tp 29 (.b (decide (((p0.toNat : Nat) : Int) = 3))::tp 56 []))))), [(.box [(.y 0), (.i 0), (.u 0), (.s ([] : List UInt8))]), (.box [(.y p0), (.i 0), (.u 0), (.s ([] : List UInt8))])], 0⟩ ?_
   rcases tf_ (decide (((p0.toNat : Nat) : Int) = 3)) with hc50_11 | hc50_11
   ·
    replace hm := cT hc50_11 hm
    refine AiT hc50_11 <| Sx <| Wm (.s p1) rfl <| Wm (.i p2) rfl ?_
    obtain ⟨s55_3, hs55_3, hm⟩ := bnd hm; obtain ⟨hs55_3a, hs55_3b, hs55_3c, hs55_3d, hs55_3e⟩ := cut_some hs55_3
    refine Wz (.s s55_3) (Ocs (lit_str (toS_cut hs55_3e)) (op_slice_str rfl (by kernel_rfl) (s := toS p1) (by kernel_rfl) (l := (Int.toNat p2)) (h := (Int.toNat ((List.length p1 : Nat) : Int))) (⟨.i64, p2, by kernel_rfl, hs55_3a⟩) (by exact rfl) hs55_3c hs55_3d)) ?_
    obtain ⟨r56_3, hr56_3, hm⟩ := bnd hm
    refine Wz (.agg [(.s r56_3.Text), (.i r56_3.At), (.i r56_3.E)]) (Ocf [] [] [] 0 (ok_octet_Open s55_3 r56_3 hr56_3) (fun a w => Tryd.call86 a w) rfl trivial) ?_
    obtain ⟨r57_3, hr57_3, hm⟩ := bnd hm
    refine Wz (.tup [(.agg [(.s r57_3.1.Text), (.i r57_3.1.At), (.i r57_3.1.E)]), (.u r57_3.2)]) (Ocf [] [] [] 0 (ok_octet_Reader_Word r56_3 r57_3 hr57_3) (fun a w => Tryd.call111 a w) rfl trivial) <| Wm (.tup [(.agg [(.s r57_3.1.Text), (.i r57_3.1.At), (.i r57_3.1.E)]), (.u r57_3.2)]) rfl <| Wz (.agg [(.s r57_3.1.Text), (.i r57_3.1.At), (.i r57_3.1.E)]) (Oex rfl) <| Wz (.u r57_3.2) (Oex rfl) <| Wy (.loc 2 0) [(2, (.box [(.s ([] : List UInt8)), (.i 0), (.i 0)]))] (Oal rfl) <| Wy (.tup []) [(2, (.box [(.s r57_3.1.Text), (.i r57_3.1.At), (.i r57_3.1.E)]))] (Ost rfl) <| Wm (.u r57_3.2) rfl <| Nk 25156 7 ⟨tp 2 (.i p2::tp 3 (.loc 0 0::tp 2 (.loc 1 0::tp 3 (.loc 2 0::.u r57_3.2::tp 92 [])))), [(.box [(.y 0), (.i 0), (.u 0), (.s ([] : List UInt8))]), (.box [(.y p0), (.i 0), (.u 0), (.s ([] : List UInt8))]), (.box [(.s r57_3.1.Text), (.i r57_3.1.At), (.i r57_3.1.E)])], 0⟩ <| Sx <| Wm (.u r57_3.2) rfl <| Wz (.loc 1 2) (Ofa rfl) <| Wy (.tup []) [(1, (.box [(.y p0), (.i 0), (.u r57_3.2), (.s ([] : List UInt8))]))] (Ost rfl) <| Nk 8772 7 ⟨tp 2 (.i p2::tp 3 (.loc 0 0::tp 2 (.loc 1 0::tp 3 (.loc 2 0::tp 93 [])))), [(.box [(.y 0), (.i 0), (.u 0), (.s ([] : List UInt8))]), (.box [(.y p0), (.i 0), (.u r57_3.2), (.s ([] : List UInt8))]), (.box [(.s r57_3.1.Text), (.i r57_3.1.At), (.i r57_3.1.E)])], 0⟩ <| Sq ?_
    refine Adr <| Wz (.agg [(.y p0), (.i 0), (.u r57_3.2), (.s ([] : List UInt8))]) (Old rfl) <| Wm (.i p2) rfl <| Wz (.loc 2 1) (Ofa rfl) <| Wz (.i r57_3.1.At) (Old rfl) <| Wz (.i (W6 (p2 + r57_3.1.At))) (Obn rfl (fun _ => hb_add (k := .i64))) <| Wz (.loc 2 2) (Ofa rfl) <| Wz (.i r57_3.1.E) (Old rfl) <| Wy (.tup []) [(0, (.box [(.y p0), (.i 0), (.u r57_3.2), (.s ([] : List UInt8))]))] (Ost rfl) <| Wm (.i (W6 (p2 + r57_3.1.At))) rfl <| Wm (.i r57_3.1.E) rfl <| Wdr <| Tn <| Rt ?_
    refine Ir <| Tr ?_
    obtain rfl := Option.some.inj hm
    exact ret_i []
   ·
    replace hm := cF hc50_11 hm
    refine AiF hc50_11 <| Sx <| Wz (.b (decide (((p0.toNat : Nat) : Int) = 4))) (Ob2 (.int .u8 ((p0.toNat : Nat) : Int)) (.int .u8 4) rfl (fun _ => hb_eql)) <| Wm (.b (decide (((p0.toNat : Nat) : Int) = 4))) rfl <| Nk 590295810358705652294 3 ⟨tp 1 (.s p1::.i p2::tp 3 (.loc 0 0::tp 2 (.loc 1 0::tp 59 (.b (decide (((p0.toNat : Nat) : Int) = 4))::tp 37 [])))), [(.box [(.y 0), (.i 0), (.u 0), (.s ([] : List UInt8))]), (.box [(.y p0), (.i 0), (.u 0), (.s ([] : List UInt8))])], 0⟩ ?_
    rcases tf_ (decide (((p0.toNat : Nat) : Int) = 4)) with hc69_12 | hc69_12
    ·
     replace hm := cT hc69_12 hm
     refine AiT hc69_12 <| Sx <| Wm (.s p1) rfl <| Wm (.i p2) rfl ?_
     obtain ⟨r74_4, hr74_4, hm⟩ := bnd hm
     refine Wz (.tup [(.u r74_4.1), (.i r74_4.2.1), (.i r74_4.2.2)]) (Ocf [] [] [] 0 (ok_zig_Take p1 p2 r74_4 hr74_4) (fun a w => Tryd.call91 a w) rfl trivial) <| Wm (.tup [(.u r74_4.1), (.i r74_4.2.1), (.i r74_4.2.2)]) rfl <| Wz (.u r74_4.1) (Oex rfl) <| Wz (.i r74_4.2.1) (Oex rfl) <| Wz (.i r74_4.2.2) (Oex rfl) <| Wm (.u r74_4.1) rfl <| Wm (.i r74_4.2.1) rfl <| Wm (.i r74_4.2.2) rfl <| Nk 229954 3 ⟨tp 1 (.s p1::tp 4 (.loc 0 0::tp 2 (.loc 1 0::tp 5 (.u r74_4.1::.i r74_4.2.1::.i r74_4.2.2::tp 89 [])))), [(.box [(.y 0), (.i 0), (.u 0), (.s ([] : List UInt8))]), (.box [(.y p0), (.i 0), (.u 0), (.s ([] : List UInt8))])], 0⟩ <| Sq <| Sx <| Wm (.i r74_4.2.2) rfl <| Wz (.b (decide (r74_4.2.2 ≠ 0))) (Obn rfl (fun _ => hb_neq (k := .i64))) <| Nk 604462909807314587583042 3 ⟨tp 1 (.s p1::tp 4 (.loc 0 0::tp 2 (.loc 1 0::tp 5 (.u r74_4.1::.i r74_4.2.1::.i r74_4.2.2::tp 61 (.b (decide (r74_4.2.2 ≠ 0))::tp 27 []))))), [(.box [(.y 0), (.i 0), (.u 0), (.s ([] : List UInt8))]), (.box [(.y p0), (.i 0), (.u 0), (.s ([] : List UInt8))])], 0⟩ ?_
     rcases tf_ (decide (r74_4.2.2 ≠ 0)) with hc79_13 | hc79_13
     ·
      replace hm := cT hc79_13 hm
      refine AiT hc79_13 <| Sx <| Wz (.agg [(.y p0), (.i 0), (.u 0), (.s ([] : List UInt8))]) (Old rfl) <| Wm (.i r74_4.2.2) rfl <| Wy (.tup []) [(0, (.box [(.y p0), (.i 0), (.u 0), (.s ([] : List UInt8))]))] (Ost rfl) <| Wm (.i 0) rfl <| Wm (.i r74_4.2.2) rfl <| Nn <| Rt <| Tr <| Ir <| Tr ?_
      obtain rfl := Option.some.inj hm
      exact ret_i []
     ·
      replace hm := cF hc79_13 hm
      refine AiF hc79_13 <| Sk <| Tk 98882 3 ⟨tp 1 (.s p1::tp 4 (.loc 0 0::tp 2 (.loc 1 0::tp 5 (.u r74_4.1::.i r74_4.2.1::tp 90 [])))), [(.box [(.y 0), (.i 0), (.u 0), (.s ([] : List UInt8))]), (.box [(.y p0), (.i 0), (.u 0), (.s ([] : List UInt8))])], 0⟩ <| Sq <| Sx <| Wm (.u r74_4.1) rfl <| Wz (.b (decide ((24 : Int) < r74_4.1))) (Obn rfl (fun _ => hb_gtr (k := .u64))) <| Nk 9671406556917033397748290 3 ⟨tp 1 (.s p1::tp 4 (.loc 0 0::tp 2 (.loc 1 0::tp 5 (.u r74_4.1::.i r74_4.2.1::tp 66 (.b (decide ((24 : Int) < r74_4.1))::tp 23 []))))), [(.box [(.y 0), (.i 0), (.u 0), (.s ([] : List UInt8))]), (.box [(.y p0), (.i 0), (.u 0), (.s ([] : List UInt8))])], 0⟩ ?_
      rcases tf_ (decide ((24 : Int) < r74_4.1)) with hc83_14 | hc83_14
      ·
       replace hm := cT hc83_14 hm
       refine AiT hc83_14 <| Sx <| Wz (.agg [(.y p0), (.i 0), (.u 0), (.s ([] : List UInt8))]) (Old rfl) <| Wy (.tup []) [(0, (.box [(.y p0), (.i 0), (.u 0), (.s ([] : List UInt8))]))] (Ost rfl) <| Wm (.i 0) rfl <| Wm (.i 5) rfl <| Nn <| Rt <| Tr <| Ir <| Tr ?_
       obtain rfl := Option.some.inj hm
       exact ret_i []
      ·
       replace hm := cF hc83_14 hm
       refine AiF hc83_14 <| Sk <| Tk 98882 3 ⟨tp 1 (.s p1::tp 4 (.loc 0 0::tp 2 (.loc 1 0::tp 5 (.u r74_4.1::.i r74_4.2.1::tp 90 [])))), [(.box [(.y 0), (.i 0), (.u 0), (.s ([] : List UInt8))]), (.box [(.y p0), (.i 0), (.u 0), (.s ([] : List UInt8))])], 0⟩ <| Sq <| Sx <| Wm (.s p1) rfl <| Wz (.i ((List.length p1 : Nat) : Int)) (Oln rfl) <| Wm (.i r74_4.2.1) rfl <| Wz (.i (W6 (((List.length p1 : Nat) : Int) - r74_4.2.1))) (Obn rfl (fun _ => hb_sub (k := .i64))) <| Wm (.u r74_4.1) rfl <| Wz (.i (W6 r74_4.1)) (Oc2 (.int .u64 r74_4.1) rfl (run_conv (ds := .int .u64) (k' := .i64) (by kernel_rfl) (by kernel_rfl))) <| Wz (.b (decide ((W6 (((List.length p1 : Nat) : Int) - r74_4.2.1)) < (W6 r74_4.1)))) (Obn rfl (fun _ => hb_lss (k := .i64))) <| Nk 2475880078570760549798347330 3 ⟨tp 1 (.s p1::tp 4 (.loc 0 0::tp 2 (.loc 1 0::tp 5 (.u r74_4.1::.i r74_4.2.1::tp 74 (.b (decide ((W6 (((List.length p1 : Nat) : Int) - r74_4.2.1)) < (W6 r74_4.1)))::tp 15 []))))), [(.box [(.y 0), (.i 0), (.u 0), (.s ([] : List UInt8))]), (.box [(.y p0), (.i 0), (.u 0), (.s ([] : List UInt8))])], 0⟩ ?_
       rcases tf_ (decide ((W6 (((List.length p1 : Nat) : Int) - r74_4.2.1)) < (W6 r74_4.1))) with hc91_15 | hc91_15
       ·
        replace hm := cT hc91_15 hm
        refine AiT hc91_15 <| Sx <| Wz (.agg [(.y p0), (.i 0), (.u 0), (.s ([] : List UInt8))]) (Old rfl) <| Wy (.tup []) [(0, (.box [(.y p0), (.i 0), (.u 0), (.s ([] : List UInt8))]))] (Ost rfl) <| Wm (.i 0) rfl <| Wm (.i 3) rfl <| Nn <| Rt <| Tr <| Ir <| Tr ?_
        obtain rfl := Option.some.inj hm
        exact ret_i []
       ·
        replace hm := cF hc91_15 hm
        refine AiF hc91_15 <| Sk <| Tk 98882 3 ⟨tp 1 (.s p1::tp 4 (.loc 0 0::tp 2 (.loc 1 0::tp 5 (.u r74_4.1::.i r74_4.2.1::tp 90 [])))), [(.box [(.y 0), (.i 0), (.u 0), (.s ([] : List UInt8))]), (.box [(.y p0), (.i 0), (.u 0), (.s ([] : List UInt8))])], 0⟩ <| Sx <| Wm (.s p1) rfl <| Wm (.i r74_4.2.1) rfl <| Wm (.i r74_4.2.1) rfl <| Wm (.u r74_4.1) rfl <| Wz (.i (W6 r74_4.1)) (Oc2 (.int .u64 r74_4.1) rfl (run_conv (ds := .int .u64) (k' := .i64) (by kernel_rfl) (by kernel_rfl))) <| Wz (.i (W6 (r74_4.2.1 + (W6 r74_4.1)))) (Obn rfl (fun _ => hb_add (k := .i64))) ?_
        obtain ⟨s99_6, hs99_6, hm⟩ := bnd hm; obtain ⟨hs99_6a, hs99_6b, hs99_6c, hs99_6d, hs99_6e⟩ := cut_some hs99_6
        refine Wz (.s s99_6) (Ocs (lit_str (toS_cut hs99_6e)) (op_slice_str rfl (by kernel_rfl) (s := toS p1) (by kernel_rfl) (l := (Int.toNat r74_4.2.1)) (h := (Int.toNat (W6 (r74_4.2.1 + (W6 r74_4.1))))) (⟨.i64, r74_4.2.1, by kernel_rfl, hs99_6a⟩) (⟨.i64, (W6 (r74_4.2.1 + (W6 r74_4.1))), by kernel_rfl, hs99_6b⟩) hs99_6c hs99_6d)) <| Wz (.loc 1 3) (Ofa rfl) <| Wy (.tup []) [(1, (.box [(.y p0), (.i 0), (.u 0), (.s s99_6)]))] (Ost rfl) <| Nk 98880 3 ⟨tp 6 (.loc 0 0::tp 2 (.loc 1 0::tp 5 (.u r74_4.1::.i r74_4.2.1::tp 90 []))), [(.box [(.y 0), (.i 0), (.u 0), (.s ([] : List UInt8))]), (.box [(.y p0), (.i 0), (.u 0), (.s s99_6)])], 0⟩ <| Sx <| Wz (.agg [(.y p0), (.i 0), (.u 0), (.s s99_6)]) (Old rfl) <| Wm (.i r74_4.2.1) rfl <| Wm (.u r74_4.1) rfl <| Wz (.i (W6 r74_4.1)) (Oc2 (.int .u64 r74_4.1) rfl (run_conv (ds := .int .u64) (k' := .i64) (by kernel_rfl) (by kernel_rfl))) <| Wz (.i (W6 (r74_4.2.1 + (W6 r74_4.1)))) (Obn rfl (fun _ => hb_add (k := .i64))) <| Wy (.tup []) [(0, (.box [(.y p0), (.i 0), (.u 0), (.s s99_6)]))] (Ost rfl) <| Wm (.i (W6 (r74_4.2.1 + (W6 r74_4.1)))) rfl <| Wm (.i 0) rfl <| Nn ?_
        refine Rt <| Ir <| Tr ?_
        obtain rfl := Option.some.inj hm
        exact ret_i []
    ·
     replace hm := cF hc69_12 hm
     refine AiF hc69_12 <| Sk <| Ino <| Tk 576 3 ⟨tp 6 (.loc 0 0::tp 2 (.loc 1 0::tp 97 [])), [(.box [(.y 0), (.i 0), (.u 0), (.s ([] : List UInt8))]), (.box [(.y p0), (.i 0), (.u 0), (.s ([] : List UInt8))])], 0⟩ <| Sx <| Wz (.agg [(.y p0), (.i 0), (.u 0), (.s ([] : List UInt8))]) (Old rfl) <| Wy (.tup []) [(0, (.box [(.y p0), (.i 0), (.u 0), (.s ([] : List UInt8))]))] (Ost rfl) <| Wm (.i 0) rfl <| Wm (.i 11) rfl <| Nn <| Rt ?_
     obtain rfl := Option.some.inj hm
     exact ret_i []

theorem ok_value_Take (p0 : (List UInt8)) (p1 : Int) (r : (GValue × Int × Int)) (h : m_value_Take p0 p1 = some r) : GCall Tryd.prog 90 [(.s p0), (.i p1)] [] (.tup [(.agg [(.y r.1.Kind), (.i r.1.N), (.u r.1.Bits), (.s r.1.Text)]), (.i r.2.1), (.i r.2.2)]) [] := by
 refine GCall.of_body (n := 42) (rs := [(.cell 4 105), (.tmp 5), (.tmp 6)]) Tryd.func90 rfl rfl rfl <| Ato ⟨.s p0::.i p1::tu 40 [], [], 0⟩ ?_
 have hm := h
 unfold m_value_Take at hm
 refine Sx <| Wy (.loc 0 0) [(0, (.box [(.y 0), (.i 0), (.u 0), (.s ([] : List UInt8))]))] (Oal rfl) <| Wm (.i 0) rfl <| Wm (.i 0) rfl <| Nk 19 1 ⟨.s p0::.i p1::tp 2 (.loc 0 0::tp 37 []), [(.box [(.y 0), (.i 0), (.u 0), (.s ([] : List UInt8))])], 0⟩ <| Sq <| Sx <| Wm (.i p1) rfl <| Wz (.b (decide (p1 < 0))) (Obn rfl (fun _ => hb_lss (k := .i64))) ?_
 rcases tf_ (decide (p1 < 0)) with hq9_0 | hq9_0
 ·
  replace hm := cT hq9_0 hm
  refine Wz (.b true) (Oq hq9_0 rfl) <| Wn <| Wn <| Wn <| Wn <| Wz (.b true) (OpT rfl) <| Nk 16403 1 ⟨.s p0::.i p1::tp 2 (.loc 0 0::tp 9 (.b true::tp 27 [])), [(.box [(.y 0), (.i 0), (.u 0), (.s ([] : List UInt8))])], 0⟩ <| AWP.if_ true (by kernel_rfl) <| Sx <| Wz (.agg [(.y 0), (.i 0), (.u 0), (.s ([] : List UInt8))]) (Obd rfl) <| Wy (.tup []) [(0, (.box [(.y 0), (.i 0), (.u 0), (.s ([] : List UInt8))]))] (Ost rfl) <| Wm (.i 0) rfl <| Wm (.i 2) rfl <| Nn ?_
  refine Rt <| Tr ?_
  obtain rfl := Option.some.inj hm
  exact ret_i []
 ·
  replace hm := cF hq9_0 hm
  refine Wz (.b false) (Oq hq9_0 rfl) <| Wm (.i p1) rfl <| Wm (.s p0) rfl <| Wz (.i ((List.length p0 : Nat) : Int)) (Oln rfl) <| Wz (.b (decide (((List.length p0 : Nat) : Int) < p1))) (Obn rfl (fun _ => hb_gtr (k := .i64))) <| Wz (.b (decide (((List.length p0 : Nat) : Int) < p1))) (OpF rfl) <| Nk 16403 1 ⟨.s p0::.i p1::tp 2 (.loc 0 0::tp 9 (.b (decide (((List.length p0 : Nat) : Int) < p1))::tp 27 [])), [(.box [(.y 0), (.i 0), (.u 0), (.s ([] : List UInt8))])], 0⟩ ?_
  rcases tf_ (decide (((List.length p0 : Nat) : Int) < p1)) with hc14_5 | hc14_5
  ·
   replace hm := cT hc14_5 hm
   refine AiT hc14_5 <| Sx <| Wz (.agg [(.y 0), (.i 0), (.u 0), (.s ([] : List UInt8))]) (Obd rfl) <| Wy (.tup []) [(0, (.box [(.y 0), (.i 0), (.u 0), (.s ([] : List UInt8))]))] (Ost rfl) <| Wm (.i 0) rfl <| Wm (.i 2) rfl <| Nn <| Rt <| Tr ?_
   obtain rfl := Option.some.inj hm
   exact ret_i []
  ·
   replace hm := cF hc14_5 hm
   refine AiF hc14_5 <| Sk <| Tk 19 1 ⟨.s p0::.i p1::tp 2 (.loc 0 0::tp 37 []), [(.box [(.y 0), (.i 0), (.u 0), (.s ([] : List UInt8))])], 0⟩ <| Sq <| Sx <| Wm (.i p1) rfl <| Wm (.s p0) rfl <| Wz (.i ((List.length p0 : Nat) : Int)) (Oln rfl) <| Wz (.b (decide (p1 = ((List.length p0 : Nat) : Int)))) (Obn rfl (fun _ => hb_eql (k := .i64))) <| Nk 524307 1 ⟨.s p0::.i p1::tp 2 (.loc 0 0::tp 14 (.b (decide (p1 = ((List.length p0 : Nat) : Int)))::tp 22 [])), [(.box [(.y 0), (.i 0), (.u 0), (.s ([] : List UInt8))])], 0⟩ ?_
   rcases tf_ (decide (p1 = ((List.length p0 : Nat) : Int))) with hc19_6 | hc19_6
   ·
    replace hm := cT hc19_6 hm
    refine AiT hc19_6 <| Sx <| Wz (.agg [(.y 0), (.i 0), (.u 0), (.s ([] : List UInt8))]) (Obd rfl) <| Wy (.tup []) [(0, (.box [(.y 0), (.i 0), (.u 0), (.s ([] : List UInt8))]))] (Ost rfl) <| Wm (.i 0) rfl <| Wm (.i 3) rfl <| Nn <| Rt <| Tr ?_
    obtain rfl := Option.some.inj hm
    exact ret_i []
   ·
    replace hm := cF hc19_6 hm
    refine AiF hc19_6 <| Sk <| Tk 19 1 ⟨.s p0::.i p1::tp 2 (.loc 0 0::tp 37 []), [(.box [(.y 0), (.i 0), (.u 0), (.s ([] : List UInt8))])], 0⟩ <| Sx <| Wm (.s p0) rfl <| Wm (.i p1) rfl ?_
    obtain ⟨x24_2, hx24_2, hm⟩ := bnd hm
    obtain ⟨hx24_2i, hx24_2g⟩ := geti_some hx24_2
    refine Wz (.y x24_2) (Ocs (by kernel_rfl) (op_index_str rfl (by kernel_rfl) (s := toS p0) (by kernel_rfl) (k := .i64) (iv := p1) (by kernel_rfl) (i := (Int.toNat p1)) (hx24_2i) (b := x24_2) (hx24_2g))) <| Wm (.s p0) rfl <| Wm (.i p1) rfl <| Wz (.i (W6 (p1 + 1))) (Obn rfl (fun _ => hb_add (k := .i64))) ?_
    obtain ⟨r28_2, hr28_2, hm⟩ := bnd hm
    refine Wz (.tup [(.agg [(.y r28_2.1.Kind), (.i r28_2.1.N), (.u r28_2.1.Bits), (.s r28_2.1.Text)]), (.i r28_2.2.1), (.i r28_2.2.2)]) (Ocf [] [] [] 0 (ok_value_body x24_2 p0 (W6 (p1 + 1)) r28_2 hr28_2) (fun a w => Tryd.call107 a w) rfl trivial) <| Wm (.tup [(.agg [(.y r28_2.1.Kind), (.i r28_2.1.N), (.u r28_2.1.Bits), (.s r28_2.1.Text)]), (.i r28_2.2.1), (.i r28_2.2.2)]) rfl <| Wz (.agg [(.y r28_2.1.Kind), (.i r28_2.1.N), (.u r28_2.1.Bits), (.s r28_2.1.Text)]) (Oex rfl) <| Wz (.i r28_2.2.1) (Oex rfl) <| Wz (.i r28_2.2.2) (Oex rfl) <| Wy (.tup []) [(0, (.box [(.y r28_2.1.Kind), (.i r28_2.1.N), (.u r28_2.1.Bits), (.s r28_2.1.Text)]))] (Ost rfl) <| Wm (.i r28_2.2.1) rfl <| Wm (.i r28_2.2.2) rfl <| Nk 112 1 ⟨tp 4 (.loc 0 0::.i r28_2.2.1::.i r28_2.2.2::tp 35 []), [(.box [(.y r28_2.1.Kind), (.i r28_2.1.N), (.u r28_2.1.Bits), (.s r28_2.1.Text)])], 0⟩ ?_
    refine AWP.cutJ (α := Int) (fun x => match x with | y6_4 => (⟨tp 4 (.loc 0 0::.i r28_2.2.1::.i y6_4::tp 35 []), [(.box [(.y r28_2.1.Kind), (.i r28_2.1.N), (.u r28_2.1.Bits), (.s r28_2.1.Text)])], 0⟩ : St)) (fun x => match x with | y6_4 => m_value_Take_j4 r28_2 y6_4 = some r) ?_ (fun J4 => ?_)
    ·
     rintro y6_4 hm
     try dsimp only at hm ⊢
     unfold m_value_Take_j4 at hm
     refine Sq <| Sx <| Wm (.i y6_4) rfl <| Wz (.b (decide (y6_4 ≠ 0))) (Obn rfl (fun _ => hb_neq (k := .i64))) <| Nk 137438953584 1 ⟨tp 4 (.loc 0 0::.i r28_2.2.1::.i y6_4::tp 30 (.b (decide (y6_4 ≠ 0))::tp 4 [])), [(.box [(.y r28_2.1.Kind), (.i r28_2.1.N), (.u r28_2.1.Bits), (.s r28_2.1.Text)])], 0⟩ ?_
     rcases tf_ (decide (y6_4 ≠ 0)) with hc37_7 | hc37_7
     ·
      replace hm := cT hc37_7 hm
      refine AiT hc37_7 <| Sx <| Wz (.agg [(.y 0), (.i 0), (.u 0), (.s ([] : List UInt8))]) (Obd rfl) <| Wm (.i y6_4) rfl <| Wy (.tup []) [(0, (.box [(.y 0), (.i 0), (.u 0), (.s ([] : List UInt8))]))] (Ost rfl) <| Wm (.i 0) rfl <| Wm (.i y6_4) rfl <| Nn <| Rt <| Tr ?_
      obtain rfl := Option.some.inj hm
      exact ret_i []
     ·
      replace hm := cF hc37_7 hm
      refine AiF hc37_7 <| Sk <| Tk 48 1 ⟨tp 4 (.loc 0 0::.i r28_2.2.1::tp 36 []), [(.box [(.y r28_2.1.Kind), (.i r28_2.1.N), (.u r28_2.1.Bits), (.s r28_2.1.Text)])], 0⟩ <| Sx <| Wz (.agg [(.y r28_2.1.Kind), (.i r28_2.1.N), (.u r28_2.1.Bits), (.s r28_2.1.Text)]) (Old rfl) <| Wm (.i r28_2.2.1) rfl <| Wy (.tup []) [(0, (.box [(.y r28_2.1.Kind), (.i r28_2.1.N), (.u r28_2.1.Bits), (.s r28_2.1.Text)]))] (Ost rfl) <| Wm (.i r28_2.2.1) rfl <| Wm (.i 0) rfl <| Nn <| Rt ?_
      obtain rfl := Option.some.inj hm
      exact ret_i []
    refine Sq <| Sx <| Wm (.i r28_2.2.2) rfl <| Wz (.b (decide (r28_2.2.2 = 0))) (Obn rfl (fun _ => hb_eql (k := .i64))) <| Nk 8589934704 1 ⟨tp 4 (.loc 0 0::.i r28_2.2.1::.i r28_2.2.2::tp 26 (.b (decide (r28_2.2.2 = 0))::tp 8 [])), [(.box [(.y r28_2.1.Kind), (.i r28_2.1.N), (.u r28_2.1.Bits), (.s r28_2.1.Text)])], 0⟩ ?_
    rcases tf_ (decide (r28_2.2.2 = 0)) with hc33_8 | hc33_8
    ·
     replace hm := cT hc33_8 hm
     refine AiT hc33_8 <| Tx <| Wz (.agg [(.y r28_2.1.Kind), (.i r28_2.1.N), (.u r28_2.1.Bits), (.s r28_2.1.Text)]) (Old rfl) ?_
     obtain ⟨r35_3, hr35_3, hm⟩ := bnd hm
     refine Wz (.i r35_3) (Ocf [] [] [] 0 (ok_value_Check r28_2.1 r35_3 hr35_3) (fun a w => Tryd.call76 a w) rfl trivial) <| Wm (.i r35_3) rfl <| Nn ?_
     exact AWP.weak (Weak.toK 112 0 0 [0]) (J4 (r35_3) hm)
    ·
     replace hm := cF hc33_8 hm
     refine AiF hc33_8 <| Sk <| Tn ?_
     exact AWP.weak (Weak.toK 112 0 0 [0]) (J4 (r28_2.2.2) hm)

theorem ok_event_Take (p0 : (List GType)) (p1 : (List UInt8)) (p2 : Int) (r : (GEvent × Int × Int)) (h : m_event_Take p0 p1 p2 = some r) : GCall Tryd.prog 68 [(.l enc_GType p0), (.s p1), (.i p2)] [] (.tup [(.agg [(.i r.1.Time), (.i r.1.Source), (.i r.1.Seq), (.s r.1.Type_), (.own 0)]), (.i r.2.1), (.i r.2.2)]) [(Ar 105 4 enc_GValue r.1.Vals)] := by
 refine GCall.of_body (n := 98) (rs := [(.cell 6 37), (.tmp 7), (.tmp 8)]) Tryd.func68 rfl rfl rfl <| Ato ⟨.l enc_GType p0::.s p1::.i p2::tu 95 [], [], 0⟩ ?_
 have hm := h
 unfold m_event_Take at hm
 refine Sx <| Wy (.loc 0 0) [(0, (.box [(.i 0), (.i 0), (.i 0), (.s ([] : List UInt8)), (.d .nil)]))] (Oal rfl) <| Wm (.i 0) rfl <| Wm (.i 0) rfl <| Nk 71 1 ⟨.l enc_GType p0::.s p1::.i p2::tp 3 (.loc 0 0::tp 91 []), [(.box [(.i 0), (.i 0), (.i 0), (.s ([] : List UInt8)), (.d .nil)])], 0⟩ <| Sq ?_
 refine AWP.cutJ (α := Unit) (fun x => match x with | () => (⟨.l enc_GType p0::.s p1::.i p2::tp 3 (.loc 0 0::tp 21 (.b true::tp 69 [])), [(.box [(.i 0), (.i 0), (.i 0), (.s ([] : List UInt8)), (.d .nil)])], 0⟩ : St)) (fun x => match x with | () => m_event_Take_j1  = some r) ?_ (fun J1 => ?_)
 ·
  rintro ⟨⟩ hm
  try dsimp only at hm ⊢
  unfold m_event_Take_j1 at hm
  refine AWP.if_ true (by kernel_rfl) <| Sx <| Wz (.agg [(.i 0), (.i 0), (.i 0), (.s ([] : List UInt8)), (.d .nil)]) (Obd rfl) <| Wy (.tup []) [(0, (.box [(.i 0), (.i 0), (.i 0), (.s ([] : List UInt8)), (.d .nil)]))] (Ost rfl) <| Wm (.i 0) rfl <| Wm (.i 2) rfl <| Nn <| Aob 0 4 105 4 ⟨.l enc_GType p0::.s p1::.i p2::tp 3 (.loc 0 0::.i 0::.i 2::tp 19 (.b true::.agg [(.i 0), (.i 0), (.i 0), (.s ([] : List UInt8)), (.d .nil)]::tp 68 [])), [(.box [(.i 0), (.i 0), (.i 0), (.s ([] : List UInt8)), (.own 1)]), (Ar 105 4 enc_GValue ([] : List GValue))], 0⟩ <| Rt <| Tr ?_
  obtain rfl := Option.some.inj hm
  exact ret_i [1]
 refine Sx <| Wm (.l enc_GType p0) rfl ?_
 obtain ⟨r17_0, hr17_0, hm⟩ := bnd hm
 refine Wz (.i r17_0) (Ocf [] [] [] 0 (ok_schema_Check p0 r17_0 hr17_0) (fun a w => Tryd.call34 a w) rfl trivial) <| Wz (.b (decide (r17_0 ≠ 0))) (Obn rfl (fun _ => hb_neq (k := .i64))) ?_
 rcases tf_ (decide (r17_0 ≠ 0)) with hq19_0 | hq19_0
 ·
  replace hm := cT hq19_0 hm
  refine Wz (.b true) (Oq hq19_0 rfl) <| Wn <| Wn <| Wz (.b true) (OpT rfl) <| Wm (.b true) rfl <| Wn <| Wn <| Wn <| Wn <| Wz (.b true) (OpT rfl) <| Nn ?_
  exact AWP.weak (Weak.toK 268435527 0 0 [0]) (J1 () hm)
 ·
  replace hm := cF hq19_0 hm
  refine Wz (.b false) (Oq hq19_0 rfl) <| Wm (.i p2) rfl <| Wz (.b (decide (p2 < 0))) (Obn rfl (fun _ => hb_lss (k := .i64))) <| Wz (.b (decide (p2 < 0))) (OpF rfl) ?_
  rcases tf_ (decide (p2 < 0)) with hq23_0 | hq23_0
  ·
   replace hm := cT hq23_0 hm
   refine Wz (.b true) (Oq hq23_0 rfl) <| Wn <| Wn <| Wn <| Wn <| Wz (.b true) (OpT rfl) <| Nn ?_
   exact AWP.weak (Weak.toK 268435527 0 0 [0]) (J1 () hm)
  ·
   replace hm := cF hq23_0 hm
   refine Wz (.b false) (Oq hq23_0 rfl) <| Wm (.i p2) rfl <| Wm (.s p1) rfl <| Wz (.i ((List.length p1 : Nat) : Int)) (Oln rfl) <| Wz (.b (decide (((List.length p1 : Nat) : Int) < p2))) (Obn rfl (fun _ => hb_gtr (k := .i64))) <| Wz (.b (decide (((List.length p1 : Nat) : Int) < p2))) (OpF rfl) <| Nk 268435527 1 ⟨.l enc_GType p0::.s p1::.i p2::tp 3 (.loc 0 0::tp 21 (.b (decide (((List.length p1 : Nat) : Int) < p2))::tp 69 [])), [(.box [(.i 0), (.i 0), (.i 0), (.s ([] : List UInt8)), (.d .nil)])], 0⟩ ?_
   rcases tf_ (decide (((List.length p1 : Nat) : Int) < p2)) with hc28_11 | hc28_11
   ·
    replace hm := cT hc28_11 hm
    refine AiT hc28_11 <| Sx <| Wz (.agg [(.i 0), (.i 0), (.i 0), (.s ([] : List UInt8)), (.d .nil)]) (Obd rfl) <| Wy (.tup []) [(0, (.box [(.i 0), (.i 0), (.i 0), (.s ([] : List UInt8)), (.d .nil)]))] (Ost rfl) <| Wm (.i 0) rfl <| Wm (.i 2) rfl <| Nn <| Aob 0 4 105 4 ⟨.l enc_GType p0::.s p1::.i p2::tp 3 (.loc 0 0::.i 0::.i 2::tp 19 (.b (decide (((List.length p1 : Nat) : Int) < p2))::.agg [(.i 0), (.i 0), (.i 0), (.s ([] : List UInt8)), (.d .nil)]::tp 68 [])), [(.box [(.i 0), (.i 0), (.i 0), (.s ([] : List UInt8)), (.own 1)]), (Ar 105 4 enc_GValue ([] : List GValue))], 0⟩ <| Rt <| Tr ?_
    obtain rfl := Option.some.inj hm
    exact ret_i [1]
   ·
    replace hm := cF hc28_11 hm
    refine AiF hc28_11 <| Sk <| Tk 71 1 ⟨.l enc_GType p0::.s p1::.i p2::tp 3 (.loc 0 0::tp 91 []), [(.box [(.i 0), (.i 0), (.i 0), (.s ([] : List UInt8)), (.d .nil)])], 0⟩ <| Sx <| Wm (.s p1) rfl <| Wm (.i p2) rfl ?_
    obtain ⟨r33_2, hr33_2, hm⟩ := bnd hm
    refine Wz (.tup [(.agg [(.u r33_2.1.a0), (.u r33_2.1.a1), (.u r33_2.1.a2), (.u r33_2.1.a3)]), (.i r33_2.2.1), (.i r33_2.2.2)]) (Ocf [] [] [] 0 (ok_event_numbers p1 p2 r33_2 hr33_2) (fun a w => Tryd.call88 a w) rfl trivial) <| Wm (.tup [(.agg [(.u r33_2.1.a0), (.u r33_2.1.a1), (.u r33_2.1.a2), (.u r33_2.1.a3)]), (.i r33_2.2.1), (.i r33_2.2.2)]) rfl <| Wz (.agg [(.u r33_2.1.a0), (.u r33_2.1.a1), (.u r33_2.1.a2), (.u r33_2.1.a3)]) (Oex rfl) <| Wz (.i r33_2.2.1) (Oex rfl) <| Wz (.i r33_2.2.2) (Oex rfl) <| Wy (.loc 1 0) [(1, (.box [(.u 0), (.u 0), (.u 0), (.u 0)]))] (Oal rfl) <| Wy (.tup []) [(1, (.box [(.u r33_2.1.a0), (.u r33_2.1.a1), (.u r33_2.1.a2), (.u r33_2.1.a3)]))] (Ost rfl) <| Wm (.i r33_2.2.1) rfl <| Wm (.i r33_2.2.2) rfl <| Nk 1731 3 ⟨.l enc_GType p0::.s p1::tp 4 (.loc 0 0::.i r33_2.2.1::tp 1 (.loc 1 0::.i r33_2.2.2::tp 87 [])), [(.box [(.i 0), (.i 0), (.i 0), (.s ([] : List UInt8)), (.d .nil)]), (.box [(.u r33_2.1.a0), (.u r33_2.1.a1), (.u r33_2.1.a2), (.u r33_2.1.a3)])], 0⟩ <| Sq <| Sx <| Wm (.i r33_2.2.2) rfl <| Wz (.b (decide (r33_2.2.2 ≠ 0))) (Obn rfl (fun _ => hb_neq (k := .i64))) ?_
    refine Nk 274877908675 3 ⟨.l enc_GType p0::.s p1::tp 4 (.loc 0 0::.i r33_2.2.1::tp 1 (.loc 1 0::.i r33_2.2.2::tp 27 (.b (decide (r33_2.2.2 ≠ 0))::tp 59 []))), [(.box [(.i 0), (.i 0), (.i 0), (.s ([] : List UInt8)), (.d .nil)]), (.box [(.u r33_2.1.a0), (.u r33_2.1.a1), (.u r33_2.1.a2), (.u r33_2.1.a3)])], 0⟩ ?_
    rcases tf_ (decide (r33_2.2.2 ≠ 0)) with hc38_12 | hc38_12
    ·
     replace hm := cT hc38_12 hm
     refine AiT hc38_12 <| Sx <| Wz (.agg [(.i 0), (.i 0), (.i 0), (.s ([] : List UInt8)), (.d .nil)]) (Obd rfl) <| Wm (.i r33_2.2.2) rfl <| Wy (.tup []) [(0, (.box [(.i 0), (.i 0), (.i 0), (.s ([] : List UInt8)), (.d .nil)]))] (Ost rfl) <| Wm (.i 0) rfl <| Wm (.i r33_2.2.2) rfl <| Nn <| Aob 0 4 105 4 ⟨.l enc_GType p0::.s p1::tp 4 (.loc 0 0::.i 0::.i r33_2.2.2::.loc 1 0::.i r33_2.2.2::tp 27 (.b (decide (r33_2.2.2 ≠ 0))::.agg [(.i 0), (.i 0), (.i 0), (.s ([] : List UInt8)), (.d .nil)]::.i r33_2.2.2::tp 57 [])), [(.box [(.i 0), (.i 0), (.i 0), (.s ([] : List UInt8)), (.own 2)]), (.box [(.u r33_2.1.a0), (.u r33_2.1.a1), (.u r33_2.1.a2), (.u r33_2.1.a3)]), (Ar 105 4 enc_GValue ([] : List GValue))], 0⟩ <| Rt <| Tr ?_
     obtain rfl := Option.some.inj hm
     exact ret_i [2]
    ·
     replace hm := cF hc38_12 hm
     refine AiF hc38_12 <| Sk <| Tk 707 3 ⟨.l enc_GType p0::.s p1::tp 4 (.loc 0 0::.i r33_2.2.1::tp 1 (.loc 1 0::tp 88 [])), [(.box [(.i 0), (.i 0), (.i 0), (.s ([] : List UInt8)), (.d .nil)]), (.box [(.u r33_2.1.a0), (.u r33_2.1.a1), (.u r33_2.1.a2), (.u r33_2.1.a3)])], 0⟩ <| Sq <| Sx <| Wz (.loc 1 3) (Ocs (by kernel_rfl) (op_iaddr_arr rfl (n := 4) (sz := 1) (y := (.loc 1 0)) (by kernel_rfl) (by kernel_rfl) (by kernel_rfl) (k := .i64) (iv := 3) (by kernel_rfl) (i := 3) (by rfl) (by decide))) <| Wz (.u r33_2.1.a3) (Old rfl) <| Wm (.l enc_GType p0) rfl <| Wz (.i ((List.length p0 : Nat) : Int)) (Oln rfl) <| Wz (.u (W7 ((List.length p0 : Nat) : Int))) (Oc2 (.int .i64 ((List.length p0 : Nat) : Int)) rfl (run_conv (ds := .int .i64) (k' := .u64) (by kernel_rfl) (by kernel_rfl))) <| Wz (.b (decide ((W7 ((List.length p0 : Nat) : Int)) ≤ r33_2.1.a3))) (Obn rfl (fun _ => hb_geq (k := .u64))) <| Nk 70368744178371 3 ⟨.l enc_GType p0::.s p1::tp 4 (.loc 0 0::.i r33_2.2.1::tp 1 (.loc 1 0::tp 36 (.b (decide ((W7 ((List.length p0 : Nat) : Int)) ≤ r33_2.1.a3))::tp 51 []))), [(.box [(.i 0), (.i 0), (.i 0), (.s ([] : List UInt8)), (.d .nil)]), (.box [(.u r33_2.1.a0), (.u r33_2.1.a1), (.u r33_2.1.a2), (.u r33_2.1.a3)])], 0⟩ ?_
     rcases tf_ (decide ((W7 ((List.length p0 : Nat) : Int)) ≤ r33_2.1.a3)) with hc46_13 | hc46_13
     ·
      replace hm := cT hc46_13 hm
      refine AiT hc46_13 <| Sx <| Wz (.agg [(.i 0), (.i 0), (.i 0), (.s ([] : List UInt8)), (.d .nil)]) (Obd rfl) <| Wy (.tup []) [(0, (.box [(.i 0), (.i 0), (.i 0), (.s ([] : List UInt8)), (.d .nil)]))] (Ost rfl) <| Wm (.i 0) rfl <| Wm (.i 6) rfl <| Nn <| Aob 0 4 105 4 ⟨.l enc_GType p0::.s p1::tp 4 (.loc 0 0::.i 0::.i 6::.loc 1 0::tp 36 (.b (decide ((W7 ((List.length p0 : Nat) : Int)) ≤ r33_2.1.a3))::.agg [(.i 0), (.i 0), (.i 0), (.s ([] : List UInt8)), (.d .nil)]::tp 50 [])), [(.box [(.i 0), (.i 0), (.i 0), (.s ([] : List UInt8)), (.own 2)]), (.box [(.u r33_2.1.a0), (.u r33_2.1.a1), (.u r33_2.1.a2), (.u r33_2.1.a3)]), (Ar 105 4 enc_GValue ([] : List GValue))], 0⟩ <| Rt <| Tr ?_
      obtain rfl := Option.some.inj hm
      exact ret_i [2]
     ·
      replace hm := cF hc46_13 hm
      refine AiF hc46_13 <| Sk <| Tk 707 3 ⟨.l enc_GType p0::.s p1::tp 4 (.loc 0 0::.i r33_2.2.1::tp 1 (.loc 1 0::tp 88 [])), [(.box [(.i 0), (.i 0), (.i 0), (.s ([] : List UInt8)), (.d .nil)]), (.box [(.u r33_2.1.a0), (.u r33_2.1.a1), (.u r33_2.1.a2), (.u r33_2.1.a3)])], 0⟩ <| Sx <| Wm (.l enc_GType p0) rfl <| Wz (.loc 1 3) (Ocs (by kernel_rfl) (op_iaddr_arr rfl (n := 4) (sz := 1) (y := (.loc 1 0)) (by kernel_rfl) (by kernel_rfl) (by kernel_rfl) (k := .i64) (iv := 3) (by kernel_rfl) (i := 3) (by rfl) (by decide))) <| Wz (.u r33_2.1.a3) (Old rfl) ?_
      obtain ⟨x51_4, hx51_4, hm⟩ := bnd hm
      obtain ⟨hx51_4i, hx51_4g⟩ := geti_some hx51_4
      refine Wz (.d (.ref (List.drop ((Int.toNat r33_2.1.a3) * 2) (flatD enc_GType p0)))) (Oia rfl enc_GType_len hx51_4i hx51_4g) <| Wz (.agg [(.s x51_4.Name), (.l enc_GField x51_4.Fields)]) (Lf rfl enc_GType_len hx51_4g) <| Wy (.loc 2 0) [(2, (.box [(.s ([] : List UInt8)), (.d .nil)]))] (Oal rfl) <| Wy (.tup []) [(2, (.box [(.s x51_4.Name), (.l enc_GField x51_4.Fields)]))] (Ost rfl) <| Nk 2755 7 ⟨.l enc_GType p0::.s p1::tp 4 (.loc 0 0::.i r33_2.2.1::tp 1 (.loc 1 0::tp 1 (.loc 2 0::tp 86 []))), [(.box [(.i 0), (.i 0), (.i 0), (.s ([] : List UInt8)), (.d .nil)]), (.box [(.u r33_2.1.a0), (.u r33_2.1.a1), (.u r33_2.1.a2), (.u r33_2.1.a3)]), (.box [(.s x51_4.Name), (.l enc_GField x51_4.Fields)])], 0⟩ <| Sq <| Adr <| Wz (.loc 1 0) (Ocs (by kernel_rfl) (op_iaddr_arr rfl (n := 4) (sz := 1) (y := (.loc 1 0)) (by kernel_rfl) (by kernel_rfl) (by kernel_rfl) (k := .i64) (iv := 0) (by kernel_rfl) (i := 0) (by rfl) (by decide))) <| Wz (.u r33_2.1.a0) (Old rfl) ?_
      obtain ⟨r55_5, hr55_5, hm⟩ := bnd hm
      refine Wz (.i r55_5) (Ocf [] [] [] 0 (ok_event_number r33_2.1.a0 1099511627776 r55_5 hr55_5) (fun a w => Tryd.call89 a w) rfl trivial) <| Wz (.loc 1 1) (Ocs (by kernel_rfl) (op_iaddr_arr rfl (n := 4) (sz := 1) (y := (.loc 1 0)) (by kernel_rfl) (by kernel_rfl) (by kernel_rfl) (k := .i64) (iv := 1) (by kernel_rfl) (i := 1) (by rfl) (by decide))) <| Wz (.u r33_2.1.a1) (Old rfl) ?_
      obtain ⟨r58_5, hr58_5, hm⟩ := bnd hm
      refine Wz (.i r58_5) (Ocf [] [] [] 0 (ok_event_number r33_2.1.a1 15 r58_5 hr58_5) (fun a w => Tryd.call89 a w) rfl trivial) <| Wz (.loc 1 2) (Ocs (by kernel_rfl) (op_iaddr_arr rfl (n := 4) (sz := 1) (y := (.loc 1 0)) (by kernel_rfl) (by kernel_rfl) (by kernel_rfl) (k := .i64) (iv := 2) (by kernel_rfl) (i := 2) (by rfl) (by decide))) <| Wz (.u r33_2.1.a2) (Old rfl) ?_
      obtain ⟨r61_5, hr61_5, hm⟩ := bnd hm
      refine Wz (.i r61_5) (Ocf [] [] [] 0 (ok_event_number r33_2.1.a2 1099511627776 r61_5 hr61_5) (fun a w => Tryd.call89 a w) rfl trivial) <| Wz (.loc 2 0) (Ofa rfl) <| Wz (.s x51_4.Name) (Old rfl) <| Wz (.agg [(.i r55_5), (.i r58_5), (.i r61_5), (.s x51_4.Name), (.d .nil)]) (Obd rfl) <| Wy (.tup []) [(0, (.box [(.i r55_5), (.i r58_5), (.i r61_5), (.s x51_4.Name), (.d .nil)]))] (Ost rfl) <| Wdr <| Tk 2243 5 ⟨.l enc_GType p0::.s p1::tp 4 (.loc 0 0::.i r33_2.2.1::tp 3 (.loc 2 0::tp 86 [])), [(.box [(.i r55_5), (.i r58_5), (.i r61_5), (.s x51_4.Name), (.d .nil)]), .gone, (.box [(.s x51_4.Name), (.l enc_GField x51_4.Fields)])], 0⟩ <| Sq <| Sx <| Wz (.loc 2 1) (Ofa rfl) <| Wz (.l enc_GField x51_4.Fields) (Old rfl) <| Wz (.i ((List.length x51_4.Fields : Nat) : Int)) (Oln rfl) <| Wm (.i 0) rfl <| Nk 442721857769029238979 1 ⟨.l enc_GType p0::.s p1::tp 4 (.loc 0 0::.i r33_2.2.1::tp 59 (.i ((List.length x51_4.Fields : Nat) : Int)::.i 0::tp 29 [])), [(.box [(.i r55_5), (.i r58_5), (.i r61_5), (.s x51_4.Name), (.d .nil)]), .gone, .gone], 0⟩ ?_
      refine Bk <| Aob 0 4 105 4 ⟨.l enc_GType p0::.s p1::tp 4 (.loc 0 0::.i r33_2.2.1::tp 59 (.i ((List.length x51_4.Fields : Nat) : Int)::.i 0::tp 29 [])), [(.box [(.i r55_5), (.i r58_5), (.i r61_5), (.s x51_4.Name), (.own 3)]), .gone, .gone, (Ar 105 4 enc_GValue ([] : List GValue))], 0⟩ ?_
      refine AWP.loopI (α := Nat × (List GValue) × Int × Int)
        (fun (fu_7, y6_d_4_7, y7_7, y68_7) => (⟨.l enc_GType p0::.s p1::tp 4 (.loc 0 0::.i y7_7::tp 59 (.i ((List.length x51_4.Fields : Nat) : Int)::.i y68_7::tp 29 [])), [(.box [(.i r55_5), (.i r58_5), (.i r61_5), (.s x51_4.Name), (.own 1)]), (Ar 105 4 enc_GValue y6_d_4_7)], 0⟩ : St))
        (fun (fu_7, y6_d_4_7, y7_7, y68_7) => m_event_Take_l7 p0 p1 r55_5 r58_5 r61_5 x51_4 fu_7 y6_d_4_7 y7_7 y68_7 = some r)
        (fun (fu_7, y6_d_4_7, y7_7, y68_7) => fu_7) (1152921504606846976, ([] : List GValue), r33_2.2.1, 0)
        (Weak.toK 442721857769029238979 0 0 [0, 3]) hm ?_
      rintro ⟨fu_7, y6_d_4_7, y7_7, y68_7⟩ n_7 hm ih_7
      try dsimp only at hm ih_7 ⊢
      cases fu_7 with
      | zero => exact absurd hm (by unfold m_event_Take_l7; simp)
      | succ fu_7 =>
       unfold m_event_Take_l7 at hm
       refine Sx <| Wz (.b (decide (y68_7 < ((List.length x51_4.Fields : Nat) : Int)))) (Obn rfl (fun _ => hb_lss (k := .i64))) <| Nk 1033017668127734890691 3 ⟨.l enc_GType p0::.s p1::tp 4 (.loc 0 0::.i y7_7::tp 59 (.i ((List.length x51_4.Fields : Nat) : Int)::.i y68_7::.b (decide (y68_7 < ((List.length x51_4.Fields : Nat) : Int)))::tp 28 [])), [(.box [(.i r55_5), (.i r58_5), (.i r61_5), (.s x51_4.Name), (.own 1)]), (Ar 105 4 enc_GValue y6_d_4_7)], 0⟩ <| Sq ?_
       rcases tf_ (decide (y68_7 < ((List.length x51_4.Fields : Nat) : Int))) with hc69_14 | hc69_14
       ·
        replace hm := cT hc69_14 hm
        refine AiT hc69_14 <| Sk <| Tk 442721857769029238979 3 ⟨.l enc_GType p0::.s p1::tp 4 (.loc 0 0::.i y7_7::tp 59 (.i ((List.length x51_4.Fields : Nat) : Int)::.i y68_7::tp 29 [])), [(.box [(.i r55_5), (.i r58_5), (.i r61_5), (.s x51_4.Name), (.own 1)]), (Ar 105 4 enc_GValue y6_d_4_7)], 0⟩ <| Sq <| Bk <| Sx <| Wm (.s p1) rfl <| Wm (.i y7_7) rfl ?_
        obtain ⟨r73_8, hr73_8, hm⟩ := bnd hm
        refine Wz (.tup [(.agg [(.y r73_8.1.Kind), (.i r73_8.1.N), (.u r73_8.1.Bits), (.s r73_8.1.Text)]), (.i r73_8.2.1), (.i r73_8.2.2)]) (Ocf [] [] [] 0 (ok_value_Take p1 y7_7 r73_8 hr73_8) (fun a w => Tryd.call90 a w) rfl trivial) <| Wm (.tup [(.agg [(.y r73_8.1.Kind), (.i r73_8.1.N), (.u r73_8.1.Bits), (.s r73_8.1.Text)]), (.i r73_8.2.1), (.i r73_8.2.2)]) rfl <| Wz (.agg [(.y r73_8.1.Kind), (.i r73_8.1.N), (.u r73_8.1.Bits), (.s r73_8.1.Text)]) (Oex rfl) <| Wz (.i r73_8.2.1) (Oex rfl) <| Wz (.i r73_8.2.2) (Oex rfl) <| Wy (.loc 2 0) [(2, (.box [(.y 0), (.i 0), (.u 0), (.s ([] : List UInt8))]))] (Oal rfl) <| Wy (.tup []) [(2, (.box [(.y r73_8.1.Kind), (.i r73_8.1.N), (.u r73_8.1.Bits), (.s r73_8.1.Text)]))] (Ost rfl) <| Wm (.i r73_8.2.1) rfl <| Wm (.i r73_8.2.2) rfl <| Nk 442721857769029267523 7 ⟨.l enc_GType p0::.s p1::tp 4 (.loc 0 0::tp 5 (.loc 2 0::.i r73_8.2.1::.i r73_8.2.2::tp 52 (.i ((List.length x51_4.Fields : Nat) : Int)::.i y68_7::tp 29 []))), [(.box [(.i r55_5), (.i r58_5), (.i r61_5), (.s x51_4.Name), (.own 1)]), (Ar 105 4 enc_GValue y6_d_4_7), (.box [(.y r73_8.1.Kind), (.i r73_8.1.N), (.u r73_8.1.Bits), (.s r73_8.1.Text)])], 0⟩ <| Sq <| Sx <| Wm (.i r73_8.2.2) rfl <| Wz (.b (decide (r73_8.2.2 ≠ 0))) (Obn rfl (fun _ => hb_neq (k := .i64))) ?_
        refine Nk 302674176761426322944067 7 ⟨.l enc_GType p0::.s p1::tp 4 (.loc 0 0::tp 5 (.loc 2 0::.i r73_8.2.1::.i r73_8.2.2::tp 52 (.i ((List.length x51_4.Fields : Nat) : Int)::.i y68_7::tp 9 (.b (decide (r73_8.2.2 ≠ 0))::tp 19 [])))), [(.box [(.i r55_5), (.i r58_5), (.i r61_5), (.s x51_4.Name), (.own 1)]), (Ar 105 4 enc_GValue y6_d_4_7), (.box [(.y r73_8.1.Kind), (.i r73_8.1.N), (.u r73_8.1.Bits), (.s r73_8.1.Text)])], 0⟩ ?_
        rcases tf_ (decide (r73_8.2.2 ≠ 0)) with hc78_15 | hc78_15
        ·
         replace hm := cT hc78_15 hm
         refine AiT hc78_15 <| Sx <| Wz (.agg [(.i 0), (.i 0), (.i 0), (.s ([] : List UInt8)), (.d .nil)]) (Obd rfl) <| Wm (.i r73_8.2.2) rfl <| Wy (.tup []) [(0, (.box [(.i 0), (.i 0), (.i 0), (.s ([] : List UInt8)), (.d .nil)]))] (Ost rfl) <| Wm (.i 0) rfl <| Wm (.i r73_8.2.2) rfl <| Nn <| Aob 0 4 105 4 ⟨.l enc_GType p0::.s p1::tp 4 (.loc 0 0::.i 0::.i r73_8.2.2::tp 3 (.loc 2 0::.i r73_8.2.1::.i r73_8.2.2::tp 52 (.i ((List.length x51_4.Fields : Nat) : Int)::.i y68_7::tp 9 (.b (decide (r73_8.2.2 ≠ 0))::.agg [(.i 0), (.i 0), (.i 0), (.s ([] : List UInt8)), (.d .nil)]::.i r73_8.2.2::tp 17 [])))), [(.box [(.i 0), (.i 0), (.i 0), (.s ([] : List UInt8)), (.own 3)]), (Ar 105 4 enc_GValue y6_d_4_7), (.box [(.y r73_8.1.Kind), (.i r73_8.1.N), (.u r73_8.1.Bits), (.s r73_8.1.Text)]), (Ar 105 4 enc_GValue ([] : List GValue))], 0⟩ <| Rt <| Tr <| Ir <| Tr <| RoundK.ret ?_
         refine Ir <| Tr ?_
         obtain rfl := Option.some.inj hm
         exact ret_i [3]
        ·
         replace hm := cF hc78_15 hm
         refine AiF hc78_15 <| Sk <| Tk 442721857769029251139 7 ⟨.l enc_GType p0::.s p1::tp 4 (.loc 0 0::tp 5 (.loc 2 0::.i r73_8.2.1::tp 53 (.i ((List.length x51_4.Fields : Nat) : Int)::.i y68_7::tp 29 []))), [(.box [(.i r55_5), (.i r58_5), (.i r61_5), (.s x51_4.Name), (.own 1)]), (Ar 105 4 enc_GValue y6_d_4_7), (.box [(.y r73_8.1.Kind), (.i r73_8.1.N), (.u r73_8.1.Bits), (.s r73_8.1.Text)])], 0⟩ <| Tx <| Wz (.loc 0 4) (Ofa rfl) <| Wz (.own 1) (Old rfl) <| Wz (.agg [(.y r73_8.1.Kind), (.i r73_8.1.N), (.u r73_8.1.Bits), (.s r73_8.1.Text)]) (Old rfl) <| Wy (.own 3) [(3, (Ar 105 4 enc_GValue ([r73_8.1] : List GValue)))] (Obs rfl) ?_
         obtain ⟨a85_9, ha85_9, hm⟩ := bnd hm; obtain ⟨ha85_9e, ha85_9l⟩ := app_some ha85_9
         refine Wy (.own 4) [(1, .gone), (4, (Ar 105 4 enc_GValue a85_9))] (Oap rfl elemOK_35 enc_GValue_len ha85_9e ha85_9l) <| Wm (.i r73_8.2.1) rfl <| Wz (.loc 0 4) (Ofa rfl) <| Wy (.tup []) [(0, (.box [(.i r55_5), (.i r58_5), (.i r61_5), (.s x51_4.Name), (.own 4)]))] (Ost rfl) <| Wm (.i r73_8.2.1) rfl <| Wn0 <| Ino <| Tk 442721857769029238979 17 ⟨.l enc_GType p0::.s p1::tp 4 (.loc 0 0::.i r73_8.2.1::tp 59 (.i ((List.length x51_4.Fields : Nat) : Int)::.i y68_7::tp 29 [])), [(.box [(.i r55_5), (.i r58_5), (.i r61_5), (.s x51_4.Name), (.own 4)]), .gone, .gone, .gone, (Ar 105 4 enc_GValue a85_9)], 0⟩ <| Tx <| Wz (.i (W6 (y68_7 + 1))) (Obn rfl (fun _ => hb_add (k := .i64))) <| Wm (.i (W6 (y68_7 + 1))) rfl <| Wn0 <| RoundK.normal ?_
         exact Rounds.weak (Weak.toK 442721857769029238979 0 0 [0, 4]) (ih_7 (fu_7, a85_9, r73_8.2.1, (W6 (y68_7 + 1))) hm (Nat.lt_succ_self _))
       ·
        replace hm := cF hc69_14 hm
        refine AiF hc69_14 <| AWP.exit <| Then.exit <| RoundK.exit <| InBlock.same <| Tk 193 3 ⟨.l enc_GType p0::tp 5 (.loc 0 0::.i y7_7::tp 90 []), [(.box [(.i r55_5), (.i r58_5), (.i r61_5), (.s x51_4.Name), (.own 1)]), (Ar 105 4 enc_GValue y6_d_4_7)], 0⟩ <| Sq <| Sx <| Wm (.l enc_GType p0) rfl <| Wz (.agg [(.i r55_5), (.i r58_5), (.i r61_5), (.s x51_4.Name), (.own 1)]) (Old rfl) ?_
        obtain ⟨r91_10, hr91_10, hm⟩ := bnd hm
        refine Wz (.i r91_10) (Ocp [] [] [1] 0 (ok_event_Check p0 (GEvent.mk r55_5 r58_5 r61_5 x51_4.Name y6_d_4_7) r91_10 hr91_10) (plain_triv (by simp [A.Plain, A.Plains, D.Plain, byteD])) (fun a w => Tryd.call36 a w) rfl trivial) <| Wm (.i r91_10) rfl <| Nk 32960 3 ⟨tp 6 (.loc 0 0::.i y7_7::tp 7 (.i r91_10::tp 82 [])), [(.box [(.i r55_5), (.i r58_5), (.i r61_5), (.s x51_4.Name), (.own 1)]), (Ar 105 4 enc_GValue y6_d_4_7)], 0⟩ <| Sx <| Wm (.i r91_10) rfl <| Wz (.b (decide (r91_10 ≠ 0))) (Obn rfl (fun _ => hb_neq (k := .i64))) <| Nk 9903520314283042199193026752 3 ⟨tp 6 (.loc 0 0::.i y7_7::tp 7 (.i r91_10::tp 77 (.b (decide (r91_10 ≠ 0))::tp 4 []))), [(.box [(.i r55_5), (.i r58_5), (.i r61_5), (.s x51_4.Name), (.own 1)]), (Ar 105 4 enc_GValue y6_d_4_7)], 0⟩ ?_
        rcases tf_ (decide (r91_10 ≠ 0)) with hc93_16 | hc93_16
        ·
         replace hm := cT hc93_16 hm
         refine AiT hc93_16 <| Sx <| Wz (.agg [(.i 0), (.i 0), (.i 0), (.s ([] : List UInt8)), (.d .nil)]) (Obd rfl) <| Wm (.i r91_10) rfl <| Wy (.tup []) [(0, (.box [(.i 0), (.i 0), (.i 0), (.s ([] : List UInt8)), (.d .nil)]))] (Ost rfl) <| Wm (.i 0) rfl <| Wm (.i r91_10) rfl <| Nn <| Aob 0 4 105 4 ⟨tp 6 (.loc 0 0::.i 0::.i r91_10::tp 6 (.i r91_10::tp 77 (.b (decide (r91_10 ≠ 0))::.agg [(.i 0), (.i 0), (.i 0), (.s ([] : List UInt8)), (.d .nil)]::.i r91_10::tp 2 []))), [(.box [(.i 0), (.i 0), (.i 0), (.s ([] : List UInt8)), (.own 2)]), (Ar 105 4 enc_GValue y6_d_4_7), (Ar 105 4 enc_GValue ([] : List GValue))], 0⟩ <| Rt <| Tr ?_
         obtain rfl := Option.some.inj hm
         exact ret_i [2]
        ·
         replace hm := cF hc93_16 hm
         refine AiF hc93_16 <| Sk <| Tk 192 3 ⟨tp 6 (.loc 0 0::.i y7_7::tp 90 []), [(.box [(.i r55_5), (.i r58_5), (.i r61_5), (.s x51_4.Name), (.own 1)]), (Ar 105 4 enc_GValue y6_d_4_7)], 0⟩ <| Sx <| Wz (.agg [(.i r55_5), (.i r58_5), (.i r61_5), (.s x51_4.Name), (.own 1)]) (Old rfl) <| Wm (.i y7_7) rfl <| Wy (.tup []) [(0, (.box [(.i r55_5), (.i r58_5), (.i r61_5), (.s x51_4.Name), (.own 1)]))] (Ost rfl) <| Wm (.i y7_7) rfl <| Wm (.i 0) rfl <| Nn <| Rt ?_
         obtain rfl := Option.some.inj hm
         exact ret_i [1]

theorem ok_script_take (p0 : (List GType)) (p1 : (List UInt8)) (p2 : Int) (r : (GCommand × Int × Int)) (h : m_script_take p0 p1 p2 = some r) : GCall Tryd.prog 42 [(.l enc_GType p0), (.s p1), (.i p2)] [] (.tup [(.agg [(.y r.1.Kind), (.s r.1.Text), (.i r.1.A), (.i r.1.B), (.i r.1.E.Time), (.i r.1.E.Source), (.i r.1.E.Seq), (.s r.1.E.Type_), (.own 0)]), (.i r.2.1), (.i r.2.2)]) [(Ar 105 4 enc_GValue r.1.E.Vals)] := by
 refine GCall.of_body (n := 67) (rs := [(.cell 6 39), (.tmp 7), (.tmp 8)]) Tryd.func42 rfl rfl rfl <| Ato ⟨.l enc_GType p0::.s p1::.i p2::tu 64 [], [], 0⟩ ?_
 have hm := h
 unfold m_script_take at hm
 refine Sx <| Wy (.loc 0 0) [(0, (.box [(.y 0), (.s ([] : List UInt8)), (.i 0), (.i 0), (.i 0), (.i 0), (.i 0), (.s ([] : List UInt8)), (.d .nil)]))] (Oal rfl) <| Wm (.i 0) rfl <| Wm (.i 0) rfl <| Nk 327 1 ⟨.l enc_GType p0::.s p1::.i p2::tp 3 (.loc 0 0::tp 1 (.i 0::tp 58 [])), [(.box [(.y 0), (.s ([] : List UInt8)), (.i 0), (.i 0), (.i 0), (.i 0), (.i 0), (.s ([] : List UInt8)), (.d .nil)])], 0⟩ <| Sx <| Wm (.s p1) rfl <| Wm (.i p2) rfl ?_
 obtain ⟨x11_0, hx11_0, hm⟩ := bnd hm
 obtain ⟨hx11_0i, hx11_0g⟩ := geti_some hx11_0
 refine Wz (.y x11_0) (Ocs (by kernel_rfl) (op_index_str rfl (by kernel_rfl) (s := toS p1) (by kernel_rfl) (k := .i64) (iv := p2) (by kernel_rfl) (i := (Int.toNat p2)) (hx11_0i) (b := x11_0) (hx11_0g))) <| Wm (.i p2) rfl <| Wz (.i (W6 (p2 + 1))) (Obn rfl (fun _ => hb_add (k := .i64))) <| Wz (.loc 0 0) (Ofa rfl) <| Wy (.tup []) [(0, (.box [(.y x11_0), (.s ([] : List UInt8)), (.i 0), (.i 0), (.i 0), (.i 0), (.i 0), (.s ([] : List UInt8)), (.d .nil)]))] (Ost rfl) <| Wm (.i (W6 (p2 + 1))) rfl <| Nk 451 1 ⟨.l enc_GType p0::.s p1::tp 4 (.loc 0 0::.i (W6 (p2 + 1))::.i 0::tp 58 []), [(.box [(.y x11_0), (.s ([] : List UInt8)), (.i 0), (.i 0), (.i 0), (.i 0), (.i 0), (.s ([] : List UInt8)), (.d .nil)])], 0⟩ <| Sq <| Sx <| Wz (.agg [(.y x11_0), (.s ([] : List UInt8)), (.i 0), (.i 0), (.i 0), (.i 0), (.i 0), (.s ([] : List UInt8)), (.d .nil)]) (Old rfl) ?_
 obtain ⟨r16_1, hr16_1, hm⟩ := bnd hm
 refine Wz (.b r16_1) (Ocf [] [] [] 0 (ok_script_Command_kind (GCommand.mk x11_0 ([] : List UInt8) 0 0 (GEvent.mk 0 0 0 ([] : List UInt8) ([] : List GValue))) r16_1 hr16_1) (fun a w => Tryd.call35 a w) rfl trivial) <| Wz (.b (!r16_1)) (Ocs (by kernel_rfl) (op_un rfl (a1 := .bool r16_1) (by kernel_rfl) (fun _ => hu_not))) <| Nk 131523 1 ⟨.l enc_GType p0::.s p1::tp 4 (.loc 0 0::.i (W6 (p2 + 1))::.i 0::tp 8 (.b (!r16_1)::tp 49 [])), [(.box [(.y x11_0), (.s ([] : List UInt8)), (.i 0), (.i 0), (.i 0), (.i 0), (.i 0), (.s ([] : List UInt8)), (.d .nil)])], 0⟩ ?_
 rcases tf_ (!r16_1) with hc17_13 | hc17_13
 ·
  replace hm := cT hc17_13 hm
  refine AiT hc17_13 <| Sx <| Wz (.agg [(.y x11_0), (.s ([] : List UInt8)), (.i 0), (.i 0), (.i 0), (.i 0), (.i 0), (.s ([] : List UInt8)), (.d .nil)]) (Old rfl) <| Wy (.tup []) [(0, (.box [(.y x11_0), (.s ([] : List UInt8)), (.i 0), (.i 0), (.i 0), (.i 0), (.i 0), (.s ([] : List UInt8)), (.d .nil)]))] (Ost rfl) <| Wm (.i 0) rfl <| Wm (.i 11) rfl <| Nn <| Aob 0 8 105 4 ⟨.l enc_GType p0::.s p1::tp 4 (.loc 0 0::.i 0::.i 11::tp 8 (.b (!r16_1)::.agg [(.y x11_0), (.s ([] : List UInt8)), (.i 0), (.i 0), (.i 0), (.i 0), (.i 0), (.s ([] : List UInt8)), (.d .nil)]::tp 48 [])), [(.box [(.y x11_0), (.s ([] : List UInt8)), (.i 0), (.i 0), (.i 0), (.i 0), (.i 0), (.s ([] : List UInt8)), (.own 1)]), (Ar 105 4 enc_GValue ([] : List GValue))], 0⟩ <| Rt <| Tr ?_
  obtain rfl := Option.some.inj hm
  exact ret_i [1]
 ·
  replace hm := cF hc17_13 hm
  refine AiF hc17_13 <| Sk <| Tk 451 1 ⟨.l enc_GType p0::.s p1::tp 4 (.loc 0 0::.i (W6 (p2 + 1))::.i 0::tp 58 []), [(.box [(.y x11_0), (.s ([] : List UInt8)), (.i 0), (.i 0), (.i 0), (.i 0), (.i 0), (.s ([] : List UInt8)), (.d .nil)])], 0⟩ ?_
  refine AWP.cutJ (α := GCommand × Int × Int) (fun (y6_d_4, y7_4, y8_4) => (⟨.l enc_GType p0::.s p1::tp 4 (.loc 0 0::.i y7_4::.i y8_4::tp 58 []), [(.box [(.y y6_d_4.Kind), (.s y6_d_4.Text), (.i y6_d_4.A), (.i y6_d_4.B), (.i y6_d_4.E.Time), (.i y6_d_4.E.Source), (.i y6_d_4.E.Seq), (.s y6_d_4.E.Type_), (.d .nil)])], 0⟩ : St)) (fun (y6_d_4, y7_4, y8_4) => m_script_take_j4 p0 p1 y6_d_4 y7_4 y8_4 = some r) ?_ (fun J4 => ?_)
  ·
   rintro ⟨y6_d_4, y7_4, y8_4⟩ hm
   try dsimp only at hm ⊢
   unfold m_script_take_j4 at hm
   refine AWP.cutJ (α := Int × Int × Int × (List UInt8) × (List GValue) × Int × Int) (fun (y6_d_4_0_7, y6_d_4_1_7, y6_d_4_2_7, y6_d_4_3_7, y6_d_4_4_7, y7_7, y8_7) => (⟨tp 1 (.s p1::tp 4 (.loc 0 0::.i y7_7::.i y8_7::tp 58 [])), [(.box [(.y y6_d_4.Kind), (.s y6_d_4.Text), (.i y6_d_4.A), (.i y6_d_4.B), (.i y6_d_4_0_7), (.i y6_d_4_1_7), (.i y6_d_4_2_7), (.s y6_d_4_3_7), (.own 1)]), (Ar 105 4 enc_GValue y6_d_4_4_7)], 0⟩ : St)) (fun (y6_d_4_0_7, y6_d_4_1_7, y6_d_4_2_7, y6_d_4_3_7, y6_d_4_4_7, y7_7, y8_7) => m_script_take_j7 p1 y6_d_4 y6_d_4_0_7 y6_d_4_1_7 y6_d_4_2_7 y6_d_4_3_7 y6_d_4_4_7 y7_7 y8_7 = some r) ?_ (fun J7 => ?_)
   ·
    rintro ⟨y6_d_4_0_7, y6_d_4_1_7, y6_d_4_2_7, y6_d_4_3_7, y6_d_4_4_7, y7_7, y8_7⟩ hm
    try dsimp only at hm ⊢
    unfold m_script_take_j7 at hm
    refine AWP.cutJ (α := Int × Int × Int) (fun (y6_d_2_10, y7_10, y8_10) => (⟨tp 1 (.s p1::tp 4 (.loc 0 0::.i y7_10::.i y8_10::tp 58 [])), [(.box [(.y y6_d_4.Kind), (.s y6_d_4.Text), (.i y6_d_2_10), (.i y6_d_4.B), (.i y6_d_4_0_7), (.i y6_d_4_1_7), (.i y6_d_4_2_7), (.s y6_d_4_3_7), (.own 1)]), (Ar 105 4 enc_GValue y6_d_4_4_7)], 0⟩ : St)) (fun (y6_d_2_10, y7_10, y8_10) => m_script_take_j10 p1 y6_d_4 y6_d_4_0_7 y6_d_4_1_7 y6_d_4_2_7 y6_d_4_3_7 y6_d_4_4_7 y6_d_2_10 y7_10 y8_10 = some r) ?_ (fun J10 => ?_)
    ·
     rintro ⟨y6_d_2_10, y7_10, y8_10⟩ hm
     try dsimp only at hm ⊢
     unfold m_script_take_j10 at hm
     refine Sq <| Sx <| Wm (.i y8_10) rfl <| Wz (.b (decide (y8_10 = 0))) (Obn rfl (fun _ => hb_eql (k := .i64))) ?_
     rcases tf_ (decide (y8_10 = 0)) with hq52_11 | hq52_11
     ·
      replace hm := cT hq52_11 hm
      refine Wz (.b true) (Oq hq52_11 rfl) <| Wz (.agg [(.y y6_d_4.Kind), (.s y6_d_4.Text), (.i y6_d_2_10), (.i y6_d_4.B), (.i y6_d_4_0_7), (.i y6_d_4_1_7), (.i y6_d_4_2_7), (.s y6_d_4_3_7), (.own 1)]) (Old rfl) ?_
      obtain ⟨r54_11, hr54_11, hm⟩ := bnd hm
      refine Wz (.b r54_11) (Ocp [] [] [1] 0 (ok_script_Command_has (GCommand.mk y6_d_4.Kind y6_d_4.Text y6_d_2_10 y6_d_4.B (GEvent.mk y6_d_4_0_7 y6_d_4_1_7 y6_d_4_2_7 y6_d_4_3_7 y6_d_4_4_7)) 8 r54_11 hr54_11) (plain_triv (by simp [A.Plain, A.Plains, D.Plain, byteD])) (fun a w => Tryd.call26 a w) rfl trivial) <| Wz (.b r54_11) (OpT rfl) <| Nk 36028797018964418 3 ⟨tp 1 (.s p1::tp 4 (.loc 0 0::.i y7_10::.i y8_10::tp 46 (.b r54_11::tp 11 []))), [(.box [(.y y6_d_4.Kind), (.s y6_d_4.Text), (.i y6_d_2_10), (.i y6_d_4.B), (.i y6_d_4_0_7), (.i y6_d_4_1_7), (.i y6_d_4_2_7), (.s y6_d_4_3_7), (.own 1)]), (Ar 105 4 enc_GValue y6_d_4_4_7)], 0⟩ ?_
      rcases tf_ r54_11 with hc55_14 | hc55_14
      ·
       replace hm := cT hc55_14 hm
       refine AiT hc55_14 <| Tx <| Wm (.s p1) rfl <| Wm (.i y7_10) rfl ?_
       obtain ⟨r59_12, hr59_12, hm⟩ := bnd hm
       refine Wz (.tup [(.i r59_12.1), (.i r59_12.2.1), (.i r59_12.2.2)]) (Ocf [] [] [] 0 (ok_zig_TakeInt p1 y7_10 r59_12 hr59_12) (fun a w => Tryd.call69 a w) rfl trivial) <| Wm (.tup [(.i r59_12.1), (.i r59_12.2.1), (.i r59_12.2.2)]) rfl <| Wz (.i r59_12.1) (Oex rfl) <| Wz (.i r59_12.2.1) (Oex rfl) <| Wz (.i r59_12.2.2) (Oex rfl) <| Wz (.loc 0 3) (Ofa rfl) <| Wy (.tup []) [(0, (.box [(.y y6_d_4.Kind), (.s y6_d_4.Text), (.i y6_d_2_10), (.i r59_12.1), (.i y6_d_4_0_7), (.i y6_d_4_1_7), (.i y6_d_4_2_7), (.s y6_d_4_3_7), (.own 1)]))] (Ost rfl) <| Wm (.i r59_12.2.1) rfl <| Wm (.i r59_12.2.2) rfl <| Nk 448 3 ⟨tp 6 (.loc 0 0::.i r59_12.2.1::.i r59_12.2.2::tp 58 []), [(.box [(.y y6_d_4.Kind), (.s y6_d_4.Text), (.i y6_d_2_10), (.i r59_12.1), (.i y6_d_4_0_7), (.i y6_d_4_1_7), (.i y6_d_4_2_7), (.s y6_d_4_3_7), (.own 1)]), (Ar 105 4 enc_GValue y6_d_4_4_7)], 0⟩ <| Sx <| Wz (.agg [(.y y6_d_4.Kind), (.s y6_d_4.Text), (.i y6_d_2_10), (.i r59_12.1), (.i y6_d_4_0_7), (.i y6_d_4_1_7), (.i y6_d_4_2_7), (.s y6_d_4_3_7), (.own 1)]) (Old rfl) <| Wm (.i r59_12.2.1) rfl <| Wm (.i r59_12.2.2) rfl ?_
       refine Wy (.tup []) [(0, (.box [(.y y6_d_4.Kind), (.s y6_d_4.Text), (.i y6_d_2_10), (.i r59_12.1), (.i y6_d_4_0_7), (.i y6_d_4_1_7), (.i y6_d_4_2_7), (.s y6_d_4_3_7), (.own 1)]))] (Ost rfl) <| Wm (.i r59_12.2.1) rfl <| Wm (.i r59_12.2.2) rfl <| Nn <| Rt ?_
       obtain rfl := Option.some.inj hm
       exact ret_i [1]
      ·
       replace hm := cF hc55_14 hm
       refine AiF hc55_14 <| Sk <| Tk 448 3 ⟨tp 6 (.loc 0 0::.i y7_10::.i y8_10::tp 58 []), [(.box [(.y y6_d_4.Kind), (.s y6_d_4.Text), (.i y6_d_2_10), (.i y6_d_4.B), (.i y6_d_4_0_7), (.i y6_d_4_1_7), (.i y6_d_4_2_7), (.s y6_d_4_3_7), (.own 1)]), (Ar 105 4 enc_GValue y6_d_4_4_7)], 0⟩ <| Sx <| Wz (.agg [(.y y6_d_4.Kind), (.s y6_d_4.Text), (.i y6_d_2_10), (.i y6_d_4.B), (.i y6_d_4_0_7), (.i y6_d_4_1_7), (.i y6_d_4_2_7), (.s y6_d_4_3_7), (.own 1)]) (Old rfl) <| Wm (.i y7_10) rfl <| Wm (.i y8_10) rfl <| Wy (.tup []) [(0, (.box [(.y y6_d_4.Kind), (.s y6_d_4.Text), (.i y6_d_2_10), (.i y6_d_4.B), (.i y6_d_4_0_7), (.i y6_d_4_1_7), (.i y6_d_4_2_7), (.s y6_d_4_3_7), (.own 1)]))] (Ost rfl) <| Wm (.i y7_10) rfl <| Wm (.i y8_10) rfl <| Nn <| Rt ?_
       obtain rfl := Option.some.inj hm
       exact ret_i [1]
     ·
      replace hm := cF hq52_11 hm
      refine Wz (.b false) (Oq hq52_11 rfl) <| Wn <| Wn <| Wz (.b false) (OpF rfl) <| Nk 36028797018964418 3 ⟨tp 1 (.s p1::tp 4 (.loc 0 0::.i y7_10::.i y8_10::tp 46 (.b false::tp 11 []))), [(.box [(.y y6_d_4.Kind), (.s y6_d_4.Text), (.i y6_d_2_10), (.i y6_d_4.B), (.i y6_d_4_0_7), (.i y6_d_4_1_7), (.i y6_d_4_2_7), (.s y6_d_4_3_7), (.own 1)]), (Ar 105 4 enc_GValue y6_d_4_4_7)], 0⟩ <| AWP.if_ false (by kernel_rfl) <| Sk <| Tk 448 3 ⟨tp 6 (.loc 0 0::.i y7_10::.i y8_10::tp 58 []), [(.box [(.y y6_d_4.Kind), (.s y6_d_4.Text), (.i y6_d_2_10), (.i y6_d_4.B), (.i y6_d_4_0_7), (.i y6_d_4_1_7), (.i y6_d_4_2_7), (.s y6_d_4_3_7), (.own 1)]), (Ar 105 4 enc_GValue y6_d_4_4_7)], 0⟩ <| Sx <| Wz (.agg [(.y y6_d_4.Kind), (.s y6_d_4.Text), (.i y6_d_2_10), (.i y6_d_4.B), (.i y6_d_4_0_7), (.i y6_d_4_1_7), (.i y6_d_4_2_7), (.s y6_d_4_3_7), (.own 1)]) (Old rfl) <| Wm (.i y7_10) rfl <| Wm (.i y8_10) rfl <| Wy (.tup []) [(0, (.box [(.y y6_d_4.Kind), (.s y6_d_4.Text), (.i y6_d_2_10), (.i y6_d_4.B), (.i y6_d_4_0_7), (.i y6_d_4_1_7), (.i y6_d_4_2_7), (.s y6_d_4_3_7), (.own 1)]))] (Ost rfl) <| Wm (.i y7_10) rfl ?_
      refine Wm (.i y8_10) rfl <| Nn <| Rt ?_
      obtain rfl := Option.some.inj hm
      exact ret_i [1]
    refine Sq <| Sx <| Wz (.agg [(.y y6_d_4.Kind), (.s y6_d_4.Text), (.i y6_d_4.A), (.i y6_d_4.B), (.i y6_d_4_0_7), (.i y6_d_4_1_7), (.i y6_d_4_2_7), (.s y6_d_4_3_7), (.own 1)]) (Old rfl) ?_
    obtain ⟨r41_8, hr41_8, hm⟩ := bnd hm
    refine Wz (.b r41_8) (Ocp [] [] [1] 0 (ok_script_Command_has (GCommand.mk y6_d_4.Kind y6_d_4.Text y6_d_4.A y6_d_4.B (GEvent.mk y6_d_4_0_7 y6_d_4_1_7 y6_d_4_2_7 y6_d_4_3_7 y6_d_4_4_7)) 4 r41_8 hr41_8) (plain_triv (by simp [A.Plain, A.Plains, D.Plain, byteD])) (fun a w => Tryd.call26 a w) rfl trivial) <| Nk 2199023256002 3 ⟨tp 1 (.s p1::tp 4 (.loc 0 0::.i y7_7::.i y8_7::tp 32 (.b r41_8::tp 25 []))), [(.box [(.y y6_d_4.Kind), (.s y6_d_4.Text), (.i y6_d_4.A), (.i y6_d_4.B), (.i y6_d_4_0_7), (.i y6_d_4_1_7), (.i y6_d_4_2_7), (.s y6_d_4_3_7), (.own 1)]), (Ar 105 4 enc_GValue y6_d_4_4_7)], 0⟩ ?_
    rcases tf_ r41_8 with hc41_15 | hc41_15
    ·
     replace hm := cT hc41_15 hm
     refine AiT hc41_15 <| Tx <| Wm (.s p1) rfl <| Wm (.i y7_7) rfl ?_
     obtain ⟨r45_9, hr45_9, hm⟩ := bnd hm
     refine Wz (.tup [(.i r45_9.1), (.i r45_9.2.1), (.i r45_9.2.2)]) (Ocf [] [] [] 0 (ok_zig_TakeInt p1 y7_7 r45_9 hr45_9) (fun a w => Tryd.call69 a w) rfl trivial) <| Wm (.tup [(.i r45_9.1), (.i r45_9.2.1), (.i r45_9.2.2)]) rfl <| Wz (.i r45_9.1) (Oex rfl) <| Wz (.i r45_9.2.1) (Oex rfl) <| Wz (.i r45_9.2.2) (Oex rfl) <| Wz (.loc 0 2) (Ofa rfl) <| Wy (.tup []) [(0, (.box [(.y y6_d_4.Kind), (.s y6_d_4.Text), (.i r45_9.1), (.i y6_d_4.B), (.i y6_d_4_0_7), (.i y6_d_4_1_7), (.i y6_d_4_2_7), (.s y6_d_4_3_7), (.own 1)]))] (Ost rfl) <| Wm (.i r45_9.2.1) rfl <| Wm (.i r45_9.2.2) rfl <| Nn ?_
     exact AWP.weak (Weak.toK 450 0 0 [0, 1]) (J10 (r45_9.1, r45_9.2.1, r45_9.2.2) hm)
    ·
     replace hm := cF hc41_15 hm
     refine AiF hc41_15 <| Sk <| Tn ?_
     exact AWP.weak (Weak.toK 450 0 0 [0, 1]) (J10 (y6_d_4.A, y7_7, y8_7) hm)
   refine Sq <| Sx <| Wz (.agg [(.y y6_d_4.Kind), (.s y6_d_4.Text), (.i y6_d_4.A), (.i y6_d_4.B), (.i y6_d_4.E.Time), (.i y6_d_4.E.Source), (.i y6_d_4.E.Seq), (.s y6_d_4.E.Type_), (.d .nil)]) (Old rfl) ?_
   obtain ⟨r30_5, hr30_5, hm⟩ := bnd hm
   refine Wz (.b r30_5) (Ocf [] [] [] 0 (ok_script_Command_has (GCommand.mk y6_d_4.Kind y6_d_4.Text y6_d_4.A y6_d_4.B (GEvent.mk y6_d_4.E.Time y6_d_4.E.Source y6_d_4.E.Seq y6_d_4.E.Type_ ([] : List GValue))) 2 r30_5 hr30_5) (fun a w => Tryd.call26 a w) rfl trivial) <| Nk 1073742275 1 ⟨.l enc_GType p0::.s p1::tp 4 (.loc 0 0::.i y7_4::.i y8_4::tp 21 (.b r30_5::tp 36 [])), [(.box [(.y y6_d_4.Kind), (.s y6_d_4.Text), (.i y6_d_4.A), (.i y6_d_4.B), (.i y6_d_4.E.Time), (.i y6_d_4.E.Source), (.i y6_d_4.E.Seq), (.s y6_d_4.E.Type_), (.d .nil)])], 0⟩ ?_
   rcases tf_ r30_5 with hc30_16 | hc30_16
   ·
    replace hm := cT hc30_16 hm
    refine AiT hc30_16 <| Tx <| Wm (.l enc_GType p0) rfl <| Wm (.s p1) rfl <| Wm (.i y7_4) rfl ?_
    obtain ⟨r35_6, hr35_6, hm⟩ := bnd hm
    refine Wy (.tup [(.agg [(.i r35_6.1.Time), (.i r35_6.1.Source), (.i r35_6.1.Seq), (.s r35_6.1.Type_), (.own 1)]), (.i r35_6.2.1), (.i r35_6.2.2)]) [(1, (Ar 105 4 enc_GValue r35_6.1.Vals))] (Ocf [] [1] [] 0 (ok_event_Take p0 p1 y7_4 r35_6 hr35_6) (fun a w => Tryd.call68 a w) rfl trivial) <| Wm (.tup [(.agg [(.i r35_6.1.Time), (.i r35_6.1.Source), (.i r35_6.1.Seq), (.s r35_6.1.Type_), (.own 1)]), (.i r35_6.2.1), (.i r35_6.2.2)]) rfl <| Wz (.agg [(.i r35_6.1.Time), (.i r35_6.1.Source), (.i r35_6.1.Seq), (.s r35_6.1.Type_), (.own 1)]) (Oex rfl) <| Wz (.i r35_6.2.1) (Oex rfl) <| Wz (.i r35_6.2.2) (Oex rfl) <| Wz (.loc 0 4) (Ofa rfl) <| Wy (.tup []) [(0, (.box [(.y y6_d_4.Kind), (.s y6_d_4.Text), (.i y6_d_4.A), (.i y6_d_4.B), (.i r35_6.1.Time), (.i r35_6.1.Source), (.i r35_6.1.Seq), (.s r35_6.1.Type_), (.own 1)]))] (Ost rfl) <| Wm (.i r35_6.2.1) rfl <| Wm (.i r35_6.2.2) rfl <| Nn ?_
    exact AWP.weak (Weak.toK 450 0 0 [0, 1]) (J7 (r35_6.1.Time, r35_6.1.Source, r35_6.1.Seq, r35_6.1.Type_, r35_6.1.Vals, r35_6.2.1, r35_6.2.2) hm)
   ·
    replace hm := cF hc30_16 hm
    refine AiF hc30_16 <| Sk <| Tn <| Aob 0 8 105 4 ⟨.l enc_GType p0::.s p1::tp 4 (.loc 0 0::.i y7_4::.i y8_4::tp 21 (.b r30_5::tp 36 [])), [(.box [(.y y6_d_4.Kind), (.s y6_d_4.Text), (.i y6_d_4.A), (.i y6_d_4.B), (.i y6_d_4.E.Time), (.i y6_d_4.E.Source), (.i y6_d_4.E.Seq), (.s y6_d_4.E.Type_), (.own 1)]), (Ar 105 4 enc_GValue ([] : List GValue))], 0⟩ ?_
    exact AWP.weak (Weak.toK 450 0 0 [0, 1]) (J7 (y6_d_4.E.Time, y6_d_4.E.Source, y6_d_4.E.Seq, y6_d_4.E.Type_, ([] : List GValue), y7_4, y8_4) hm)
  refine Sq <| Sx <| Wz (.agg [(.y x11_0), (.s ([] : List UInt8)), (.i 0), (.i 0), (.i 0), (.i 0), (.i 0), (.s ([] : List UInt8)), (.d .nil)]) (Old rfl) ?_
  obtain ⟨r20_2, hr20_2, hm⟩ := bnd hm
  refine Wz (.b r20_2) (Ocf [] [] [] 0 (ok_script_Command_has (GCommand.mk x11_0 ([] : List UInt8) 0 0 (GEvent.mk 0 0 0 ([] : List UInt8) ([] : List GValue))) 1 r20_2 hr20_2) (fun a w => Tryd.call26 a w) rfl trivial) <| Nk 1049027 1 ⟨.l enc_GType p0::.s p1::tp 4 (.loc 0 0::.i (W6 (p2 + 1))::.i 0::tp 11 (.b r20_2::tp 46 [])), [(.box [(.y x11_0), (.s ([] : List UInt8)), (.i 0), (.i 0), (.i 0), (.i 0), (.i 0), (.s ([] : List UInt8)), (.d .nil)])], 0⟩ ?_
  rcases tf_ r20_2 with hc20_17 | hc20_17
  ·
   replace hm := cT hc20_17 hm
   refine AiT hc20_17 <| Tx <| Wm (.s p1) rfl <| Wm (.i (W6 (p2 + 1))) rfl ?_
   obtain ⟨r24_3, hr24_3, hm⟩ := bnd hm
   refine Wz (.tup [(.s r24_3.1), (.i r24_3.2.1), (.i r24_3.2.2)]) (Ocf [] [] [] 0 (ok_script_words p1 (W6 (p2 + 1)) r24_3 hr24_3) (fun a w => Tryd.call67 a w) rfl trivial) <| Wm (.tup [(.s r24_3.1), (.i r24_3.2.1), (.i r24_3.2.2)]) rfl <| Wz (.s r24_3.1) (Oex rfl) <| Wz (.i r24_3.2.1) (Oex rfl) <| Wz (.i r24_3.2.2) (Oex rfl) <| Wz (.loc 0 1) (Ofa rfl) <| Wy (.tup []) [(0, (.box [(.y x11_0), (.s r24_3.1), (.i 0), (.i 0), (.i 0), (.i 0), (.i 0), (.s ([] : List UInt8)), (.d .nil)]))] (Ost rfl) <| Wm (.i r24_3.2.1) rfl <| Wm (.i r24_3.2.2) rfl <| Nn ?_
   exact AWP.weak (Weak.toK 451 0 0 [0]) (J4 ((GCommand.mk x11_0 r24_3.1 0 0 (GEvent.mk 0 0 0 ([] : List UInt8) ([] : List GValue))), r24_3.2.1, r24_3.2.2) hm)
  ·
   replace hm := cF hc20_17 hm
   refine AiF hc20_17 <| Sk <| Tn ?_
   exact AWP.weak (Weak.toK 451 0 0 [0]) (J4 ((GCommand.mk x11_0 ([] : List UInt8) 0 0 (GEvent.mk 0 0 0 ([] : List UInt8) ([] : List GValue))), (W6 (p2 + 1)), 0) hm)

theorem ok_script_Read (p0 : (List GType)) (p1 : (List UInt8)) (r : ((List GCommand) × Int × Int)) (h : m_script_Read p0 p1 = some r) : GCall Tryd.prog 20 [(.l enc_GType p0), (.s p1)] [] (.tup [(.own 0), (.i r.2.1), (.i r.2.2)]) [(Ar 39 9 enc_GCommand r.1)] := by
 refine GCall.of_body (n := 42) (rs := [(.tmp 4), (.tmp 5), (.tmp 6)]) Tryd.func20 rfl rfl rfl <| Ato ⟨.l enc_GType p0::.s p1::tu 40 [], [], 0⟩ ?_
 have hm := h
 unfold m_script_Read at hm
 refine Sx <| Wm (.d .nil) rfl <| Wm (.i 0) rfl <| Wm (.i 0) rfl <| Nk 51 0 ⟨.l enc_GType p0::.s p1::tp 2 (.d .nil::.i 0::tp 36 []), [], 0⟩ <| Sq <| Sx <| Wm (.l enc_GType p0) rfl ?_
 obtain ⟨r11_0, hr11_0, hm⟩ := bnd hm
 refine Wz (.i r11_0) (Ocf [] [] [] 0 (ok_schema_Check p0 r11_0 hr11_0) (fun a w => Tryd.call34 a w) rfl trivial) <| Wz (.b (decide (r11_0 ≠ 0))) (Obn rfl (fun _ => hb_neq (k := .i64))) <| Nk 4147 0 ⟨.l enc_GType p0::.s p1::tp 2 (.d .nil::.i 0::tp 6 (.b (decide (r11_0 ≠ 0))::tp 29 [])), [], 0⟩ ?_
 rcases tf_ (decide (r11_0 ≠ 0)) with hc12_6 | hc12_6
 ·
  replace hm := cT hc12_6 hm
  refine AiT hc12_6 <| Sx <| Wm (.d .nil) rfl <| Wm (.i 0) rfl <| Wm (.i 2) rfl <| Nn <| Aow 4 39 9 ⟨.l enc_GType p0::.s p1::tp 2 (.own 0::.i 0::.i 2::tp 5 (.b (decide (r11_0 ≠ 0))::tp 29 [])), [(Ar 39 9 enc_GCommand ([] : List GCommand))], 0⟩ <| Rt <| Tr ?_
  obtain rfl := Option.some.inj hm
  exact ret_i [0]
 ·
  replace hm := cF hc12_6 hm
  refine AiF hc12_6 <| Sk <| Tk 51 0 ⟨.l enc_GType p0::.s p1::tp 2 (.d .nil::.i 0::tp 36 []), [], 0⟩ <| Sq <| Bk <| Aow 4 39 9 ⟨.l enc_GType p0::.s p1::tp 2 (.own 0::.i 0::tp 36 []), [(Ar 39 9 enc_GCommand ([] : List GCommand))], 0⟩ ?_
  refine AWP.loopI (α := Nat × (List GCommand) × Int)
    (fun (fu_1, y4_1, y5_1) => (⟨.l enc_GType p0::.s p1::tp 2 (.own 0::.i y5_1::tp 36 []), [(Ar 39 9 enc_GCommand y4_1)], 0⟩ : St))
    (fun (fu_1, y4_1, y5_1) => m_script_Read_l1 p0 p1 fu_1 y4_1 y5_1 = some r)
    (fun (fu_1, y4_1, y5_1) => fu_1) (1152921504606846976, ([] : List GCommand), 0)
    (Weak.toK 51 0 0 [0]) hm ?_
  rintro ⟨fu_1, y4_1, y5_1⟩ n_1 hm ih_1
  try dsimp only at hm ih_1 ⊢
  cases fu_1 with
  | zero => exact absurd hm (by unfold m_script_Read_l1; simp)
  | succ fu_1 =>
   unfold m_script_Read_l1 at hm
   refine Sq <| Sx <| Wm (.i y5_1) rfl <| Wm (.s p1) rfl <| Wz (.i ((List.length p1 : Nat) : Int)) (Oln rfl) <| Wz (.b (decide (y5_1 < ((List.length p1 : Nat) : Int)))) (Obn rfl (fun _ => hb_lss (k := .i64))) <| Nk 65587 1 ⟨.l enc_GType p0::.s p1::tp 2 (.own 0::.i y5_1::tp 10 (.b (decide (y5_1 < ((List.length p1 : Nat) : Int)))::tp 25 [])), [(Ar 39 9 enc_GCommand y4_1)], 0⟩ ?_
   rcases tf_ (decide (y5_1 < ((List.length p1 : Nat) : Int))) with hc16_7 | hc16_7
   ·
    replace hm := cT hc16_7 hm
    refine AiT hc16_7 <| Sk <| Tk 51 1 ⟨.l enc_GType p0::.s p1::tp 2 (.own 0::.i y5_1::tp 36 []), [(Ar 39 9 enc_GCommand y4_1)], 0⟩ <| Bk <| Sq <| Sx <| Wm (.own 0) rfl <| Wz (.i ((List.length y4_1 : Nat) : Int)) (Oln rfl) <| Wz (.b (decide (((List.length y4_1 : Nat) : Int) = 400))) (Obn rfl (fun _ => hb_eql (k := .i64))) <| Nk 524339 1 ⟨.l enc_GType p0::.s p1::tp 2 (.own 0::.i y5_1::tp 13 (.b (decide (((List.length y4_1 : Nat) : Int) = 400))::tp 22 [])), [(Ar 39 9 enc_GCommand y4_1)], 0⟩ ?_
    rcases tf_ (decide (((List.length y4_1 : Nat) : Int) = 400)) with hc19_8 | hc19_8
    ·
     replace hm := cT hc19_8 hm
     refine AiT hc19_8 <| Sx <| Wm (.own 0) rfl <| Wm (.i y5_1) rfl <| Wm (.own 0) rfl <| Wm (.i y5_1) rfl <| Wm (.i 5) rfl <| Nn <| Rt <| Tr <| Ir <| RoundK.ret <| Ir <| Tr ?_
     obtain rfl := Option.some.inj hm
     exact ret_i [0]
    ·
     replace hm := cF hc19_8 hm
     refine AiF hc19_8 <| Sk <| Tk 51 1 ⟨.l enc_GType p0::.s p1::tp 2 (.own 0::.i y5_1::tp 36 []), [(Ar 39 9 enc_GCommand y4_1)], 0⟩ <| Sx <| Wm (.l enc_GType p0) rfl <| Wm (.s p1) rfl <| Wm (.i y5_1) rfl ?_
     obtain ⟨r26_4, hr26_4, hm⟩ := bnd hm
     refine Wy (.tup [(.agg [(.y r26_4.1.Kind), (.s r26_4.1.Text), (.i r26_4.1.A), (.i r26_4.1.B), (.i r26_4.1.E.Time), (.i r26_4.1.E.Source), (.i r26_4.1.E.Seq), (.s r26_4.1.E.Type_), (.own 1)]), (.i r26_4.2.1), (.i r26_4.2.2)]) [(1, (Ar 105 4 enc_GValue r26_4.1.E.Vals))] (Ocf [] [1] [] 0 (ok_script_take p0 p1 y5_1 r26_4 hr26_4) (fun a w => Tryd.call42 a w) rfl trivial) <| Wm (.tup [(.agg [(.y r26_4.1.Kind), (.s r26_4.1.Text), (.i r26_4.1.A), (.i r26_4.1.B), (.i r26_4.1.E.Time), (.i r26_4.1.E.Source), (.i r26_4.1.E.Seq), (.s r26_4.1.E.Type_), (.own 1)]), (.i r26_4.2.1), (.i r26_4.2.2)]) rfl <| Wz (.agg [(.y r26_4.1.Kind), (.s r26_4.1.Text), (.i r26_4.1.A), (.i r26_4.1.B), (.i r26_4.1.E.Time), (.i r26_4.1.E.Source), (.i r26_4.1.E.Seq), (.s r26_4.1.E.Type_), (.own 1)]) (Oex rfl) <| Wz (.i r26_4.2.1) (Oex rfl) <| Wz (.i r26_4.2.2) (Oex rfl) <| Wy (.loc 2 0) [(2, (.box [(.y 0), (.s ([] : List UInt8)), (.i 0), (.i 0), (.i 0), (.i 0), (.i 0), (.s ([] : List UInt8)), (.d .nil)]))] (Oal rfl) <| Wy (.tup []) [(2, (.box [(.y r26_4.1.Kind), (.s r26_4.1.Text), (.i r26_4.1.A), (.i r26_4.1.B), (.i r26_4.1.E.Time), (.i r26_4.1.E.Source), (.i r26_4.1.E.Seq), (.s r26_4.1.E.Type_), (.own 1)]))] (Ost rfl) <| Wm (.i r26_4.2.1) rfl <| Wm (.i r26_4.2.2) rfl <| Nk 947 7 ⟨.l enc_GType p0::.s p1::tp 2 (.own 0::.i y5_1::tp 1 (.loc 2 0::.i r26_4.2.1::.i r26_4.2.2::tp 32 [])), [(Ar 39 9 enc_GCommand y4_1), (Ar 105 4 enc_GValue r26_4.1.E.Vals), (.box [(.y r26_4.1.Kind), (.s r26_4.1.Text), (.i r26_4.1.A), (.i r26_4.1.B), (.i r26_4.1.E.Time), (.i r26_4.1.E.Source), (.i r26_4.1.E.Seq), (.s r26_4.1.E.Type_), (.own 1)])], 0⟩ <| Sq <| Sx <| Wm (.i r26_4.2.2) rfl <| Wz (.b (decide (r26_4.2.2 ≠ 0))) (Obn rfl (fun _ => hb_neq (k := .i64))) ?_
     refine Nk 2147484595 7 ⟨.l enc_GType p0::.s p1::tp 2 (.own 0::.i y5_1::tp 1 (.loc 2 0::.i r26_4.2.1::.i r26_4.2.2::tp 21 (.b (decide (r26_4.2.2 ≠ 0))::tp 10 []))), [(Ar 39 9 enc_GCommand y4_1), (Ar 105 4 enc_GValue r26_4.1.E.Vals), (.box [(.y r26_4.1.Kind), (.s r26_4.1.Text), (.i r26_4.1.A), (.i r26_4.1.B), (.i r26_4.1.E.Time), (.i r26_4.1.E.Source), (.i r26_4.1.E.Seq), (.s r26_4.1.E.Type_), (.own 1)])], 0⟩ ?_
     rcases tf_ (decide (r26_4.2.2 ≠ 0)) with hc31_9 | hc31_9
     ·
      replace hm := cT hc31_9 hm
      refine AiT hc31_9 <| Sx <| Wm (.own 0) rfl <| Wm (.i y5_1) rfl <| Wm (.i r26_4.2.2) rfl <| Wm (.own 0) rfl <| Wm (.i y5_1) rfl <| Wm (.i r26_4.2.2) rfl <| Nn <| Rt <| Tr <| Ir <| RoundK.ret <| Ir ?_
      refine Tr ?_
      obtain rfl := Option.some.inj hm
      exact ret_i [0]
     ·
      replace hm := cF hc31_9 hm
      refine AiF hc31_9 <| Sk <| Tk 403 7 ⟨.l enc_GType p0::.s p1::tp 2 (.own 0::tp 2 (.loc 2 0::.i r26_4.2.1::tp 33 [])), [(Ar 39 9 enc_GCommand y4_1), (Ar 105 4 enc_GValue r26_4.1.E.Vals), (.box [(.y r26_4.1.Kind), (.s r26_4.1.Text), (.i r26_4.1.A), (.i r26_4.1.B), (.i r26_4.1.E.Time), (.i r26_4.1.E.Source), (.i r26_4.1.E.Seq), (.s r26_4.1.E.Type_), (.own 1)])], 0⟩ <| Afz [1] ⟨.l enc_GType p0::.s p1::tp 2 (.own 0::tp 2 (.loc 2 0::.i r26_4.2.1::tp 33 [])), [(Ar 39 9 enc_GCommand y4_1), (.fro 105 4 (List.length r26_4.1.E.Vals) (flatD enc_GValue r26_4.1.E.Vals)), (.box [(.y r26_4.1.Kind), (.s r26_4.1.Text), (.i r26_4.1.A), (.i r26_4.1.B), (.i r26_4.1.E.Time), (.i r26_4.1.E.Source), (.i r26_4.1.E.Seq), (.s r26_4.1.E.Type_), (.l enc_GValue r26_4.1.E.Vals)])], 0⟩ <| Tx <| Wm (.own 0) rfl <| Wz (.agg [(.y r26_4.1.Kind), (.s r26_4.1.Text), (.i r26_4.1.A), (.i r26_4.1.B), (.i r26_4.1.E.Time), (.i r26_4.1.E.Source), (.i r26_4.1.E.Seq), (.s r26_4.1.E.Type_), (.l enc_GValue r26_4.1.E.Vals)]) (Old rfl) <| Wy (.own 3) [(3, (Ar 39 9 enc_GCommand ([r26_4.1] : List GCommand)))] (Obs rfl) ?_
      obtain ⟨a38_5, ha38_5, hm⟩ := bnd hm; obtain ⟨ha38_5e, ha38_5l⟩ := app_some ha38_5
      refine Wy (.own 4) [(0, .gone), (4, (Ar 39 9 enc_GCommand a38_5))] (Oap rfl elemOK_29 enc_GCommand_len ha38_5e ha38_5l) <| Wm (.i r26_4.2.1) rfl <| Wm (.own 4) rfl <| Wm (.i r26_4.2.1) rfl <| Wn0 <| Ino <| RoundK.normal ?_
      exact Rounds.weak (Weak.toK 51 0 0 [4]) (ih_1 (fu_1, a38_5, r26_4.2.1) hm (Nat.lt_succ_self _))
   ·
    replace hm := cF hc16_7 hm
    refine AiF hc16_7 <| AWP.exit <| Then.exit <| RoundK.exit <| InBlock.same <| Tk 48 1 ⟨tp 4 (.own 0::.i y5_1::tp 36 []), [(Ar 39 9 enc_GCommand y4_1)], 0⟩ <| Sx <| Wm (.own 0) rfl <| Wm (.i y5_1) rfl <| Wm (.own 0) rfl <| Wm (.i y5_1) rfl <| Wm (.i 0) rfl <| Nn <| Rt ?_
    obtain rfl := Option.some.inj hm
    exact ret_i [0]

theorem ok_script_Same (p0 : GCommand) (p1 : GCommand) (r : Bool) (h : m_script_Same p0 p1 = some r) : GCall Tryd.prog 16 [(.agg [(.y p0.Kind), (.s p0.Text), (.i p0.A), (.i p0.B), (.i p0.E.Time), (.i p0.E.Source), (.i p0.E.Seq), (.s p0.E.Type_), (.l enc_GValue p0.E.Vals)]), (.agg [(.y p1.Kind), (.s p1.Text), (.i p1.A), (.i p1.B), (.i p1.E.Time), (.i p1.E.Source), (.i p1.E.Seq), (.s p1.E.Type_), (.l enc_GValue p1.E.Vals)])] [] (.b r) [] := by
 refine GCall.of_body (n := 38) (rs := [(.tmp 4)]) Tryd.func16 rfl rfl rfl <| Ato ⟨.agg [(.y p0.Kind), (.s p0.Text), (.i p0.A), (.i p0.B), (.i p0.E.Time), (.i p0.E.Source), (.i p0.E.Seq), (.s p0.E.Type_), (.l enc_GValue p0.E.Vals)]::.agg [(.y p1.Kind), (.s p1.Text), (.i p1.A), (.i p1.B), (.i p1.E.Time), (.i p1.E.Source), (.i p1.E.Seq), (.s p1.E.Type_), (.l enc_GValue p1.E.Vals)]::tu 36 [], [], 0⟩ ?_
 have hm := h
 unfold m_script_Same at hm
 refine Sx <| Wy (.loc 0 0) [(0, (.box [(.y p0.Kind), (.s p0.Text), (.i p0.A), (.i p0.B), (.i p0.E.Time), (.i p0.E.Source), (.i p0.E.Seq), (.s p0.E.Type_), (.l enc_GValue p0.E.Vals)]))] (Obx rfl) <| Wy (.loc 1 0) [(1, (.box [(.y p1.Kind), (.s p1.Text), (.i p1.A), (.i p1.B), (.i p1.E.Time), (.i p1.E.Source), (.i p1.E.Seq), (.s p1.E.Type_), (.l enc_GValue p1.E.Vals)]))] (Obx rfl) <| Wm (.b false) rfl <| Nk 12 3 ⟨tp 2 (.loc 0 0::.loc 1 0::tp 34 []), [(.box [(.y p0.Kind), (.s p0.Text), (.i p0.A), (.i p0.B), (.i p0.E.Time), (.i p0.E.Source), (.i p0.E.Seq), (.s p0.E.Type_), (.l enc_GValue p0.E.Vals)]), (.box [(.y p1.Kind), (.s p1.Text), (.i p1.A), (.i p1.B), (.i p1.E.Time), (.i p1.E.Source), (.i p1.E.Seq), (.s p1.E.Type_), (.l enc_GValue p1.E.Vals)])], 0⟩ <| Sx <| Wz (.loc 0 0) (Ofa rfl) <| Wz (.y p0.Kind) (Old rfl) <| Wz (.loc 1 0) (Ofa rfl) <| Wz (.y p1.Kind) (Old rfl) <| Wz (.b (decide (((p0.Kind.toNat : Nat) : Int) = ((p1.Kind.toNat : Nat) : Int)))) (Ob2 (.int .u8 ((p0.Kind.toNat : Nat) : Int)) (.int .u8 ((p1.Kind.toNat : Nat) : Int)) rfl (fun _ => hb_eql)) ?_
 rcases tf_ (decide (((p0.Kind.toNat : Nat) : Int) = ((p1.Kind.toNat : Nat) : Int))) with hq10_0 | hq10_0
 ·
  replace hm := cT hq10_0 hm
  refine Wz (.b true) (Oq hq10_0 rfl) <| Wz (.loc 0 1) (Ofa rfl) <| Wz (.s p0.Text) (Old rfl) <| Wz (.loc 1 1) (Ofa rfl) <| Wz (.s p1.Text) (Old rfl) <| Wz (.b (decide (p0.Text = p1.Text))) (Ocs (lit_tf (by simp only [toS_inj, ne_eq])) (op_bin rfl (a1 := .string (toS p0.Text)) (a2 := .string (toS p1.Text)) (by kernel_rfl) (by kernel_rfl) (fun _ => hb_seql))) <| Wz (.b (decide (p0.Text = p1.Text))) (OpT rfl) ?_
  rcases tf_ (decide (p0.Text = p1.Text)) with hq17_0 | hq17_0
  ·
   replace hm := cT hq17_0 hm
   refine Wz (.b true) (Oq hq17_0 rfl) <| Wz (.loc 0 2) (Ofa rfl) <| Wz (.i p0.A) (Old rfl) <| Wz (.loc 1 2) (Ofa rfl) <| Wz (.i p1.A) (Old rfl) <| Wz (.b (decide (p0.A = p1.A))) (Obn rfl (fun _ => hb_eql (k := .i64))) <| Wz (.b (decide (p0.A = p1.A))) (OpT rfl) ?_
   rcases tf_ (decide (p0.A = p1.A)) with hq24_0 | hq24_0
   ·
    replace hm := cT hq24_0 hm
    refine Wz (.b true) (Oq hq24_0 rfl) <| Wz (.loc 0 3) (Ofa rfl) <| Wz (.i p0.B) (Old rfl) <| Wz (.loc 1 3) (Ofa rfl) <| Wz (.i p1.B) (Old rfl) <| Wz (.b (decide (p0.B = p1.B))) (Obn rfl (fun _ => hb_eql (k := .i64))) <| Wz (.b (decide (p0.B = p1.B))) (OpT rfl) ?_
    rcases tf_ (decide (p0.B = p1.B)) with hq31_0 | hq31_0
    ·
     replace hm := cT hq31_0 hm
     refine Wz (.b true) (Oq hq31_0 rfl) <| Wz (.loc 0 4) (Ofa rfl) <| Wz (.agg [(.i p0.E.Time), (.i p0.E.Source), (.i p0.E.Seq), (.s p0.E.Type_), (.l enc_GValue p0.E.Vals)]) (Old rfl) <| Wz (.loc 1 4) (Ofa rfl) <| Wz (.agg [(.i p1.E.Time), (.i p1.E.Source), (.i p1.E.Seq), (.s p1.E.Type_), (.l enc_GValue p1.E.Vals)]) (Old rfl) ?_
     obtain ⟨r36_0, hr36_0, hm⟩ := bnd hm
     refine Wz (.b r36_0) (Ocf [] [] [] 0 (ok_event_Same p0.E p1.E r36_0 hr36_0) (fun a w => Tryd.call41 a w) rfl trivial) <| Wz (.b r36_0) (OpT rfl) <| Wm (.b r36_0) rfl <| Nn <| Rt ?_
     obtain rfl := Option.some.inj hm
     exact ret_i []
    ·
     replace hm := cF hq31_0 hm
     refine Wz (.b false) (Oq hq31_0 rfl) <| Wn <| Wn <| Wn <| Wn <| Wn <| Wz (.b false) (OpF rfl) <| Wm (.b false) rfl <| Nn <| Rt ?_
     obtain rfl := Option.some.inj hm
     exact ret_i []
   ·
    replace hm := cF hq24_0 hm
    refine Wz (.b false) (Oq hq24_0 rfl) <| Wn <| Wn <| Wn <| Wn <| Wn <| Wz (.b false) (OpF rfl) <| Wm (.b false) rfl <| Wn <| Wn <| Wn <| Wn <| Wn <| Wz (.b false) (OpF rfl) ?_
    refine Wm (.b false) rfl <| Nn <| Rt ?_
    obtain rfl := Option.some.inj hm
    exact ret_i []
  ·
   replace hm := cF hq17_0 hm
   refine Wz (.b false) (Oq hq17_0 rfl) <| Wn <| Wn <| Wn <| Wn <| Wn <| Wz (.b false) (OpF rfl) <| Wm (.b false) rfl <| Wn <| Wn <| Wn <| Wn <| Wn <| Wz (.b false) (OpF rfl) ?_
   refine Wm (.b false) rfl <| Wn <| Wn <| Wn <| Wn <| Wn <| Wz (.b false) (OpF rfl) <| Wm (.b false) rfl <| Nn <| Rt ?_
   obtain rfl := Option.some.inj hm
   exact ret_i []
 ·
  replace hm := cF hq10_0 hm
  refine Wz (.b false) (Oq hq10_0 rfl) <| Wn <| Wn <| Wn <| Wn <| Wn <| Wz (.b false) (OpF rfl) <| Wm (.b false) rfl <| Wn <| Wn <| Wn <| Wn <| Wn <| Wz (.b false) (OpF rfl) ?_
  refine Wm (.b false) rfl <| Wn <| Wn <| Wn <| Wn <| Wn <| Wz (.b false) (OpF rfl) <| Wm (.b false) rfl <| Wn <| Wn <| Wn <| Wn <| Wn <| Wz (.b false) (OpF rfl) ?_
  refine Wm (.b false) rfl <| Nn <| Rt ?_
  obtain rfl := Option.some.inj hm
  exact ret_i []

theorem ok_w37_awake (r : Bool) (h : m_w37_awake = some r) : GCall Tryd.prog 9 [] [] (.b r) [] := by
 refine GCall.of_body (n := 108) (rs := [(.tmp 0)]) Tryd.func9 rfl rfl rfl <| Ato ⟨tu 108 [], [], 0⟩ ?_
 have hm := h
 unfold m_w37_awake at hm
 refine Sx <| Wm (.b false) rfl <| Nk 0 0 ⟨tp 108 [], [], 0⟩ <| Sx <| Wz (.agg [(.s ([116] : List UInt8)), (.d .nil)]) (Obd rfl) <| Wy (.own 0) [(0, (Ar 74 2 enc_GType ([(GType.mk ([116] : List UInt8) ([] : List GField))] : List GType)))] (Obs rfl) <| Wm (.own 0) rfl <| Nk 2 1 ⟨tp 1 (.own 0::tp 106 []), [(Ar 74 2 enc_GType ([(GType.mk ([116] : List UInt8) ([] : List GField))] : List GType))], 0⟩ <| Sx <| Wz (.agg [(.y 4), (.s ([] : List UInt8)), (.i 1), (.i 5), (.i 0), (.i 0), (.i 0), (.s ([] : List UInt8)), (.d .nil)]) (Obd rfl) <| Wz (.agg [(.y 2), (.s ([] : List UInt8)), (.i 0), (.i 0), (.i 0), (.i 0), (.i 0), (.s ([] : List UInt8)), (.d .nil)]) (Obd rfl) <| Wz (.agg [(.y 1), (.s ([97] : List UInt8)), (.i 0), (.i 0), (.i 0), (.i 0), (.i 0), (.s ([] : List UInt8)), (.d .nil)]) (Obd rfl) <| Wz (.agg [(.i 3), (.i 0), (.i 0), (.s ([116] : List UInt8)), (.d .nil)]) (Obd rfl) <| Wz (.agg [(.y 3), (.s ([] : List UInt8)), (.i 0), (.i 0), (.i 3), (.i 0), (.i 0), (.s ([116] : List UInt8)), (.d .nil)]) (Obd rfl) ?_
 refine Wz (.agg [(.y 7), (.s ([] : List UInt8)), (.i (-1)), (.i 0), (.i 0), (.i 0), (.i 0), (.s ([] : List UInt8)), (.d .nil)]) (Obd rfl) <| Wy (.own 1) [(1, (Ar 39 9 enc_GCommand ([(GCommand.mk 4 ([] : List UInt8) 1 5 (GEvent.mk 0 0 0 ([] : List UInt8) ([] : List GValue))), (GCommand.mk 2 ([] : List UInt8) 0 0 (GEvent.mk 0 0 0 ([] : List UInt8) ([] : List GValue))), (GCommand.mk 1 ([97] : List UInt8) 0 0 (GEvent.mk 0 0 0 ([] : List UInt8) ([] : List GValue))), (GCommand.mk 3 ([] : List UInt8) 0 0 (GEvent.mk 3 0 0 ([116] : List UInt8) ([] : List GValue))), (GCommand.mk 7 ([] : List UInt8) (-1) 0 (GEvent.mk 0 0 0 ([] : List UInt8) ([] : List GValue)))] : List GCommand)))] (Obs rfl) <| Wm (.own 1) rfl <| Nk 6 3 ⟨tp 1 (.own 0::.own 1::tp 105 []), [(Ar 74 2 enc_GType ([(GType.mk ([116] : List UInt8) ([] : List GField))] : List GType)), (Ar 39 9 enc_GCommand ([(GCommand.mk 4 ([] : List UInt8) 1 5 (GEvent.mk 0 0 0 ([] : List UInt8) ([] : List GValue))), (GCommand.mk 2 ([] : List UInt8) 0 0 (GEvent.mk 0 0 0 ([] : List UInt8) ([] : List GValue))), (GCommand.mk 1 ([97] : List UInt8) 0 0 (GEvent.mk 0 0 0 ([] : List UInt8) ([] : List GValue))), (GCommand.mk 3 ([] : List UInt8) 0 0 (GEvent.mk 3 0 0 ([116] : List UInt8) ([] : List GValue))), (GCommand.mk 7 ([] : List UInt8) (-1) 0 (GEvent.mk 0 0 0 ([] : List UInt8) ([] : List GValue)))] : List GCommand))], 0⟩ <| Sx <| Wm (.own 0) rfl <| Wm (.own 1) rfl ?_
 obtain ⟨r25_0, hr25_0, hm⟩ := bnd hm
 refine Wz (.tup [(.s r25_0.1), (.i r25_0.2)]) (Ocp [] [] [0, 1] 0 (ok_script_Write ([(GType.mk ([116] : List UInt8) ([] : List GField))] : List GType) ([(GCommand.mk 4 ([] : List UInt8) 1 5 (GEvent.mk 0 0 0 ([] : List UInt8) ([] : List GValue))), (GCommand.mk 2 ([] : List UInt8) 0 0 (GEvent.mk 0 0 0 ([] : List UInt8) ([] : List GValue))), (GCommand.mk 1 ([97] : List UInt8) 0 0 (GEvent.mk 0 0 0 ([] : List UInt8) ([] : List GValue))), (GCommand.mk 3 ([] : List UInt8) 0 0 (GEvent.mk 3 0 0 ([116] : List UInt8) ([] : List GValue))), (GCommand.mk 7 ([] : List UInt8) (-1) 0 (GEvent.mk 0 0 0 ([] : List UInt8) ([] : List GValue)))] : List GCommand) r25_0 hr25_0) (plain_triv (by simp [A.Plain, A.Plains, D.Plain, byteD])) (fun a w => Tryd.call18 a w) rfl trivial) <| Wm (.tup [(.s r25_0.1), (.i r25_0.2)]) rfl <| Wz (.s r25_0.1) (Oex rfl) <| Wz (.i r25_0.2) (Oex rfl) <| Wm (.s r25_0.1) rfl <| Wm (.i r25_0.2) rfl <| Nk 30 3 ⟨tp 1 (.own 0::.own 1::.s r25_0.1::.i r25_0.2::tp 103 []), [(Ar 74 2 enc_GType ([(GType.mk ([116] : List UInt8) ([] : List GField))] : List GType)), (Ar 39 9 enc_GCommand ([(GCommand.mk 4 ([] : List UInt8) 1 5 (GEvent.mk 0 0 0 ([] : List UInt8) ([] : List GValue))), (GCommand.mk 2 ([] : List UInt8) 0 0 (GEvent.mk 0 0 0 ([] : List UInt8) ([] : List GValue))), (GCommand.mk 1 ([97] : List UInt8) 0 0 (GEvent.mk 0 0 0 ([] : List UInt8) ([] : List GValue))), (GCommand.mk 3 ([] : List UInt8) 0 0 (GEvent.mk 3 0 0 ([116] : List UInt8) ([] : List GValue))), (GCommand.mk 7 ([] : List UInt8) (-1) 0 (GEvent.mk 0 0 0 ([] : List UInt8) ([] : List GValue)))] : List GCommand))], 0⟩ <| Sx <| Wm (.own 0) rfl <| Wm (.s r25_0.1) rfl ?_
 obtain ⟨r31_1, hr31_1, hm⟩ := bnd hm
 refine Wy (.tup [(.own 2), (.i r31_1.2.1), (.i r31_1.2.2)]) [(2, (Ar 39 9 enc_GCommand r31_1.1)), (0, (.fro 74 2 (List.length ([(GType.mk ([116] : List UInt8) ([] : List GField))] : List GType)) (flatD enc_GType ([(GType.mk ([116] : List UInt8) ([] : List GField))] : List GType))))] (Ocf [] [2] [0] 0 (ok_script_Read ([(GType.mk ([116] : List UInt8) ([] : List GField))] : List GType) r25_0.1 r31_1 hr31_1) (fun a w => Tryd.call20 a w) rfl trivial) <| Wm (.tup [(.own 2), (.i r31_1.2.1), (.i r31_1.2.2)]) rfl <| Wz (.own 2) (Oex rfl) <| Wz (.i r31_1.2.1) (Oex rfl) <| Wz (.i r31_1.2.2) (Oex rfl) <| Wm (.own 2) rfl <| Wm (.i r31_1.2.1) rfl <| Wm (.i r31_1.2.2) rfl <| Nk 254 7 ⟨tp 1 (.own 0::.own 1::.s r25_0.1::.i r25_0.2::.own 2::.i r31_1.2.1::.i r31_1.2.2::tp 100 []), [(.fro 74 2 (List.length ([(GType.mk ([116] : List UInt8) ([] : List GField))] : List GType)) (flatD enc_GType ([(GType.mk ([116] : List UInt8) ([] : List GField))] : List GType))), (Ar 39 9 enc_GCommand ([(GCommand.mk 4 ([] : List UInt8) 1 5 (GEvent.mk 0 0 0 ([] : List UInt8) ([] : List GValue))), (GCommand.mk 2 ([] : List UInt8) 0 0 (GEvent.mk 0 0 0 ([] : List UInt8) ([] : List GValue))), (GCommand.mk 1 ([97] : List UInt8) 0 0 (GEvent.mk 0 0 0 ([] : List UInt8) ([] : List GValue))), (GCommand.mk 3 ([] : List UInt8) 0 0 (GEvent.mk 3 0 0 ([116] : List UInt8) ([] : List GValue))), (GCommand.mk 7 ([] : List UInt8) (-1) 0 (GEvent.mk 0 0 0 ([] : List UInt8) ([] : List GValue)))] : List GCommand)), (Ar 39 9 enc_GCommand r31_1.1)], 0⟩ <| Sx <| Wm (.own 0) rfl <| Wm (.s r25_0.1) rfl ?_
 obtain ⟨t38_2, ht38_2, hm⟩ := bnd hm; obtain ⟨ht38_2e, ht38_2l⟩ := app_some ht38_2
 refine Wz (.s t38_2) (op_bin rfl (a1 := .string (toS r25_0.1)) (a2 := .string (toS ([8] : List UInt8))) (by kernel_rfl) (by kernel_rfl) (fun _ => hb_sadd ht38_2e ht38_2l)) ?_
 obtain ⟨r39_2, hr39_2, hm⟩ := bnd hm
 refine Wy (.tup [(.own 3), (.i r39_2.2.1), (.i r39_2.2.2)]) [(3, (Ar 39 9 enc_GCommand r39_2.1)), (0, (.fro 74 2 (List.length ([(GType.mk ([116] : List UInt8) ([] : List GField))] : List GType)) (flatD enc_GType ([(GType.mk ([116] : List UInt8) ([] : List GField))] : List GType))))] (Ocf [] [3] [0] 0 (ok_script_Read ([(GType.mk ([116] : List UInt8) ([] : List GField))] : List GType) t38_2 r39_2 hr39_2) (fun a w => Tryd.call20 a w) rfl trivial) <| Wm (.tup [(.own 3), (.i r39_2.2.1), (.i r39_2.2.2)]) rfl <| Wz (.own 3) (Oex rfl) <| Wz (.i r39_2.2.1) (Oex rfl) <| Wz (.i r39_2.2.2) (Oex rfl) <| Wm (.own 3) rfl <| Wm (.i r39_2.2.1) rfl <| Wm (.i r39_2.2.2) rfl <| Nk 2046 15 ⟨tp 1 (.own 0::.own 1::.s r25_0.1::.i r25_0.2::.own 2::.i r31_1.2.1::.i r31_1.2.2::.own 3::.i r39_2.2.1::.i r39_2.2.2::tp 97 []), [(.fro 74 2 (List.length ([(GType.mk ([116] : List UInt8) ([] : List GField))] : List GType)) (flatD enc_GType ([(GType.mk ([116] : List UInt8) ([] : List GField))] : List GType))), (Ar 39 9 enc_GCommand ([(GCommand.mk 4 ([] : List UInt8) 1 5 (GEvent.mk 0 0 0 ([] : List UInt8) ([] : List GValue))), (GCommand.mk 2 ([] : List UInt8) 0 0 (GEvent.mk 0 0 0 ([] : List UInt8) ([] : List GValue))), (GCommand.mk 1 ([97] : List UInt8) 0 0 (GEvent.mk 0 0 0 ([] : List UInt8) ([] : List GValue))), (GCommand.mk 3 ([] : List UInt8) 0 0 (GEvent.mk 3 0 0 ([116] : List UInt8) ([] : List GValue))), (GCommand.mk 7 ([] : List UInt8) (-1) 0 (GEvent.mk 0 0 0 ([] : List UInt8) ([] : List GValue)))] : List GCommand)), (Ar 39 9 enc_GCommand r31_1.1), (Ar 39 9 enc_GCommand r39_2.1)], 0⟩ <| Sx <| Wm (.own 0) rfl <| Wz (.agg [(.y 2), (.s ([] : List UInt8)), (.i 1), (.i 0), (.i 0), (.i 0), (.i 0), (.s ([] : List UInt8)), (.d .nil)]) (Obd rfl) ?_
 obtain ⟨r46_3, hr46_3, hm⟩ := bnd hm
 refine Wy (.tup [(.l encU8 r46_3.1), (.i r46_3.2)]) [(0, (.fro 74 2 (List.length ([(GType.mk ([116] : List UInt8) ([] : List GField))] : List GType)) (flatD enc_GType ([(GType.mk ([116] : List UInt8) ([] : List GField))] : List GType))))] (Ocf [] [] [0] 0 (ok_script_Put ([] : List UInt8) ([(GType.mk ([116] : List UInt8) ([] : List GField))] : List GType) (GCommand.mk 2 ([] : List UInt8) 1 0 (GEvent.mk 0 0 0 ([] : List UInt8) ([] : List GValue))) r46_3 hr46_3) (fun a w => Tryd.call12 a w) rfl trivial) <| Wm (.tup [(.l encU8 r46_3.1), (.i r46_3.2)]) rfl <| Wz (.l encU8 r46_3.1) (Oex rfl) <| Wz (.i r46_3.2) (Oex rfl) <| Wm (.l encU8 r46_3.1) rfl <| Wm (.i r46_3.2) rfl <| Nk 6142 15 ⟨tp 1 (.own 0::.own 1::.s r25_0.1::.i r25_0.2::.own 2::.i r31_1.2.1::.i r31_1.2.2::.own 3::.i r39_2.2.1::.i r39_2.2.2::tp 1 (.i r46_3.2::tp 95 [])), [(.fro 74 2 (List.length ([(GType.mk ([116] : List UInt8) ([] : List GField))] : List GType)) (flatD enc_GType ([(GType.mk ([116] : List UInt8) ([] : List GField))] : List GType))), (Ar 39 9 enc_GCommand ([(GCommand.mk 4 ([] : List UInt8) 1 5 (GEvent.mk 0 0 0 ([] : List UInt8) ([] : List GValue))), (GCommand.mk 2 ([] : List UInt8) 0 0 (GEvent.mk 0 0 0 ([] : List UInt8) ([] : List GValue))), (GCommand.mk 1 ([97] : List UInt8) 0 0 (GEvent.mk 0 0 0 ([] : List UInt8) ([] : List GValue))), (GCommand.mk 3 ([] : List UInt8) 0 0 (GEvent.mk 3 0 0 ([116] : List UInt8) ([] : List GValue))), (GCommand.mk 7 ([] : List UInt8) (-1) 0 (GEvent.mk 0 0 0 ([] : List UInt8) ([] : List GValue)))] : List GCommand)), (Ar 39 9 enc_GCommand r31_1.1), (Ar 39 9 enc_GCommand r39_2.1)], 0⟩ <| Sq <| Adr <| Wm (.i r25_0.2) rfl <| Wz (.b (decide (r25_0.2 = 0))) (Obn rfl (fun _ => hb_eql (k := .i64))) ?_
 rcases tf_ (decide (r25_0.2 = 0)) with hq51_4 | hq51_4
 ·
  replace hm := cT hq51_4 hm
  refine Wz (.b true) (Oq hq51_4 rfl) <| Wm (.s r25_0.1) rfl <| Wz (.b (decide (r25_0.1 = ([4, 2, 10, 2, 1, 0, 1, 97, 3, 3, 0, 0, 0, 7, 1] : List UInt8)))) (Ocs (lit_tf (by simp only [toS_inj, ne_eq])) (op_bin rfl (a1 := .string (toS r25_0.1)) (a2 := .string (toS ([4, 2, 10, 2, 1, 0, 1, 97, 3, 3, 0, 0, 0, 7, 1] : List UInt8))) (by kernel_rfl) (by kernel_rfl) (fun _ => hb_seql))) <| Wz (.b (decide (r25_0.1 = ([4, 2, 10, 2, 1, 0, 1, 97, 3, 3, 0, 0, 0, 7, 1] : List UInt8)))) (OpT rfl) ?_
  rcases tf_ (decide (r25_0.1 = ([4, 2, 10, 2, 1, 0, 1, 97, 3, 3, 0, 0, 0, 7, 1] : List UInt8))) with hq55_4 | hq55_4
  ·
   replace hm := cT hq55_4 hm
   refine Wz (.b true) (Oq hq55_4 rfl) <| Wm (.i r31_1.2.2) rfl <| Wz (.b (decide (r31_1.2.2 = 0))) (Obn rfl (fun _ => hb_eql (k := .i64))) <| Wz (.b (decide (r31_1.2.2 = 0))) (OpT rfl) ?_
   rcases tf_ (decide (r31_1.2.2 = 0)) with hq59_4 | hq59_4
   ·
    replace hm := cT hq59_4 hm
    refine Wz (.b true) (Oq hq59_4 rfl) <| Wm (.i r31_1.2.1) rfl <| Wm (.s r25_0.1) rfl <| Wz (.i ((List.length r25_0.1 : Nat) : Int)) (Oln rfl) <| Wz (.b (decide (r31_1.2.1 = ((List.length r25_0.1 : Nat) : Int)))) (Obn rfl (fun _ => hb_eql (k := .i64))) <| Wz (.b (decide (r31_1.2.1 = ((List.length r25_0.1 : Nat) : Int)))) (OpT rfl) ?_
    rcases tf_ (decide (r31_1.2.1 = ((List.length r25_0.1 : Nat) : Int))) with hq65_4 | hq65_4
    ·
     replace hm := cT hq65_4 hm
     refine Wz (.b true) (Oq hq65_4 rfl) <| Wm (.own 2) rfl <| Wz (.i ((List.length r31_1.1 : Nat) : Int)) (Oln rfl) <| Wz (.b (decide (((List.length r31_1.1 : Nat) : Int) = 5))) (Obn rfl (fun _ => hb_eql (k := .i64))) <| Wz (.b (decide (((List.length r31_1.1 : Nat) : Int) = 5))) (OpT rfl) ?_
     rcases tf_ (decide (((List.length r31_1.1 : Nat) : Int) = 5)) with hq70_4 | hq70_4
     ·
      replace hm := cT hq70_4 hm
      refine Wz (.b true) (Oq hq70_4 rfl) <| Wm (.own 2) rfl ?_
      obtain ⟨x72_4, hx72_4, hm⟩ := bnd hm
      obtain ⟨hx72_4i, hx72_4g⟩ := geti_some hx72_4
      refine Wz (.loc 2 ((Int.toNat 3) * 9)) (Oia rfl enc_GCommand_len hx72_4i hx72_4g) <| Wz (.agg [(.y x72_4.Kind), (.s x72_4.Text), (.i x72_4.A), (.i x72_4.B), (.i x72_4.E.Time), (.i x72_4.E.Source), (.i x72_4.E.Seq), (.s x72_4.E.Type_), (.l enc_GValue x72_4.E.Vals)]) (Lr rfl enc_GCommand_len hx72_4g) <| Wm (.own 1) rfl ?_
      obtain ⟨x75_4, hx75_4, hm⟩ := bnd hm
      obtain ⟨hx75_4i, hx75_4g⟩ := geti_some hx75_4
      refine Wz (.loc 1 ((Int.toNat 3) * 9)) (Oia rfl enc_GCommand_len hx75_4i hx75_4g) <| Wz (.agg [(.y x75_4.Kind), (.s x75_4.Text), (.i x75_4.A), (.i x75_4.B), (.i x75_4.E.Time), (.i x75_4.E.Source), (.i x75_4.E.Seq), (.s x75_4.E.Type_), (.l enc_GValue x75_4.E.Vals)]) (Lr rfl enc_GCommand_len hx75_4g) ?_
      obtain ⟨r77_4, hr77_4, hm⟩ := bnd hm
      refine Wz (.b r77_4) (Ocf [] [] [] 0 (ok_script_Same x72_4 x75_4 r77_4 hr77_4) (fun a w => Tryd.call16 a w) rfl trivial) <| Wz (.b r77_4) (OpT rfl) ?_
      rcases tf_ r77_4 with hq79_4 | hq79_4
      ·
       replace hm := cT hq79_4 hm
       refine Wz (.b true) (Oq hq79_4 rfl) <| Wm (.own 3) rfl <| Wz (.i ((List.length r39_2.1 : Nat) : Int)) (Oln rfl) <| Wz (.b (decide (((List.length r39_2.1 : Nat) : Int) = 5))) (Obn rfl (fun _ => hb_eql (k := .i64))) <| Wz (.b (decide (((List.length r39_2.1 : Nat) : Int) = 5))) (OpT rfl) ?_
       rcases tf_ (decide (((List.length r39_2.1 : Nat) : Int) = 5)) with hq84_4 | hq84_4
       ·
        replace hm := cT hq84_4 hm
        refine Wz (.b true) (Oq hq84_4 rfl) <| Wm (.i r39_2.2.1) rfl <| Wm (.s r25_0.1) rfl <| Wz (.i ((List.length r25_0.1 : Nat) : Int)) (Oln rfl) <| Wz (.b (decide (r39_2.2.1 = ((List.length r25_0.1 : Nat) : Int)))) (Obn rfl (fun _ => hb_eql (k := .i64))) <| Wz (.b (decide (r39_2.2.1 = ((List.length r25_0.1 : Nat) : Int)))) (OpT rfl) ?_
        rcases tf_ (decide (r39_2.2.1 = ((List.length r25_0.1 : Nat) : Int))) with hq90_4 | hq90_4
        ·
         replace hm := cT hq90_4 hm
         refine Wz (.b true) (Oq hq90_4 rfl) <| Wm (.i r39_2.2.2) rfl <| Wz (.b (decide (r39_2.2.2 = 11))) (Obn rfl (fun _ => hb_eql (k := .i64))) <| Wz (.b (decide (r39_2.2.2 = 11))) (OpT rfl) ?_
         rcases tf_ (decide (r39_2.2.2 = 11)) with hq94_4 | hq94_4
         ·
          replace hm := cT hq94_4 hm
          refine Wz (.b true) (Oq hq94_4 rfl) <| Wm (.i r46_3.2) rfl <| Wz (.b (decide (r46_3.2 = 2))) (Obn rfl (fun _ => hb_eql (k := .i64))) <| Wz (.b (decide (r46_3.2 = 2))) (OpT rfl) ?_
          rcases tf_ (decide (r46_3.2 = 2)) with hq98_4 | hq98_4
          ·
           replace hm := cT hq98_4 hm
           refine Wz (.b true) (Oq hq98_4 rfl) <| Wm (.own 0) rfl <| Wm (.own 1) rfl ?_
           obtain ⟨x101_4, hx101_4, hm⟩ := bnd hm
           obtain ⟨hx101_4i, hx101_4g⟩ := geti_some hx101_4
           refine Wz (.loc 1 ((Int.toNat 0) * 9)) (Oia rfl enc_GCommand_len hx101_4i hx101_4g) <| Wz (.agg [(.y x101_4.Kind), (.s x101_4.Text), (.i x101_4.A), (.i x101_4.B), (.i x101_4.E.Time), (.i x101_4.E.Source), (.i x101_4.E.Seq), (.s x101_4.E.Type_), (.l enc_GValue x101_4.E.Vals)]) (Lr rfl enc_GCommand_len hx101_4g) ?_
           obtain ⟨r103_4, hr103_4, hm⟩ := bnd hm
           refine Wz (.i r103_4) (Ocp [] [] [0] 0 (ok_script_Check ([(GType.mk ([116] : List UInt8) ([] : List GField))] : List GType) x101_4 r103_4 hr103_4) (plain_triv (by simp [A.Plain, A.Plains, D.Plain, byteD])) (fun a w => Tryd.call14 a w) rfl trivial) <| Wz (.b (decide (r103_4 = 0))) (Obn rfl (fun _ => hb_eql (k := .i64))) <| Wz (.b (decide (r103_4 = 0))) (OpT rfl) ?_
           rcases tf_ (decide (r103_4 = 0)) with hq106_4 | hq106_4
           ·
            replace hm := cT hq106_4 hm
            refine Wz (.b true) (Oq hq106_4 rfl) <| Wz (.b true) (OpT rfl) <| Wm (.b true) rfl <| Wdr <| Tn <| Rt ?_
            obtain rfl := Option.some.inj hm
            exact ret_i []
           ·
            replace hm := cF hq106_4 hm
            refine Wz (.b false) (Oq hq106_4 rfl) <| Wz (.b false) (OpF rfl) <| Wm (.b false) rfl <| Wdr <| Tn <| Rt ?_
            obtain rfl := Option.some.inj hm
            exact ret_i []
          ·
           replace hm := cF hq98_4 hm
           refine Wz (.b false) (Oq hq98_4 rfl) <| Wn <| Wn <| Wn <| Wn <| Wn <| Wn <| Wz (.b false) (OpF rfl) <| Wm (.b false) rfl <| Wz (.b false) (OpF rfl) <| Wm (.b false) rfl <| Wdr <| Tn <| Rt ?_
           obtain rfl := Option.some.inj hm
           exact ret_i []
         ·
          replace hm := cF hq94_4 hm
          refine Wz (.b false) (Oq hq94_4 rfl) <| Wn <| Wn <| Wz (.b false) (OpF rfl) <| Wm (.b false) rfl <| Wn <| Wn <| Wn <| Wn <| Wn <| Wn <| Wz (.b false) (OpF rfl) <| Wm (.b false) rfl <| Wz (.b false) (OpF rfl) ?_
          refine Wm (.b false) rfl <| Wdr <| Tn <| Rt ?_
          obtain rfl := Option.some.inj hm
          exact ret_i []
        ·
         replace hm := cF hq90_4 hm
         refine Wz (.b false) (Oq hq90_4 rfl) <| Wn <| Wn <| Wz (.b false) (OpF rfl) <| Wm (.b false) rfl <| Wn <| Wn <| Wz (.b false) (OpF rfl) <| Wm (.b false) rfl <| Wn <| Wn <| Wn <| Wn <| Wn ?_
         refine Wn <| Wz (.b false) (OpF rfl) <| Wm (.b false) rfl <| Wz (.b false) (OpF rfl) <| Wm (.b false) rfl <| Wdr <| Tn <| Rt ?_
         obtain rfl := Option.some.inj hm
         exact ret_i []
       ·
        replace hm := cF hq84_4 hm
        refine Wz (.b false) (Oq hq84_4 rfl) <| Wn <| Wn <| Wn <| Wn <| Wz (.b false) (OpF rfl) <| Wm (.b false) rfl <| Wn <| Wn <| Wz (.b false) (OpF rfl) <| Wm (.b false) rfl <| Wn <| Wn <| Wz (.b false) (OpF rfl) ?_
        refine Wm (.b false) rfl <| Wn <| Wn <| Wn <| Wn <| Wn <| Wn <| Wz (.b false) (OpF rfl) <| Wm (.b false) rfl <| Wz (.b false) (OpF rfl) <| Wm (.b false) rfl <| Wdr <| Tn <| Rt ?_
        obtain rfl := Option.some.inj hm
        exact ret_i []
      ·
       replace hm := cF hq79_4 hm
       refine Wz (.b false) (Oq hq79_4 rfl) <| Wn <| Wn <| Wn <| Wz (.b false) (OpF rfl) <| Wm (.b false) rfl <| Wn <| Wn <| Wn <| Wn <| Wz (.b false) (OpF rfl) <| Wm (.b false) rfl <| Wn <| Wn ?_
       refine Wz (.b false) (OpF rfl) <| Wm (.b false) rfl <| Wn <| Wn <| Wz (.b false) (OpF rfl) <| Wm (.b false) rfl <| Wn <| Wn <| Wn <| Wn <| Wn <| Wn <| Wz (.b false) (OpF rfl) <| Wm (.b false) rfl ?_
       refine Wz (.b false) (OpF rfl) <| Wm (.b false) rfl <| Wdr <| Tn <| Rt ?_
       obtain rfl := Option.some.inj hm
       exact ret_i []
     ·
      replace hm := cF hq70_4 hm
      refine Wz (.b false) (Oq hq70_4 rfl) <| Wn <| Wn <| Wn <| Wn <| Wn <| Wn <| Wn <| Wz (.b false) (OpF rfl) <| Wm (.b false) rfl <| Wn <| Wn <| Wn <| Wz (.b false) (OpF rfl) ?_
      refine Wm (.b false) rfl <| Wn <| Wn <| Wn <| Wn <| Wz (.b false) (OpF rfl) <| Wm (.b false) rfl <| Wn <| Wn <| Wz (.b false) (OpF rfl) <| Wm (.b false) rfl <| Wn <| Wn <| Wz (.b false) (OpF rfl) ?_
      refine Wm (.b false) rfl <| Wn <| Wn <| Wn <| Wn <| Wn <| Wn <| Wz (.b false) (OpF rfl) <| Wm (.b false) rfl <| Wz (.b false) (OpF rfl) <| Wm (.b false) rfl <| Wdr <| Tn <| Rt ?_
      obtain rfl := Option.some.inj hm
      exact ret_i []
    ·
     replace hm := cF hq65_4 hm
     refine Wz (.b false) (Oq hq65_4 rfl) <| Wn <| Wn <| Wn <| Wz (.b false) (OpF rfl) <| Wm (.b false) rfl <| Wn <| Wn <| Wn <| Wn <| Wn <| Wn <| Wn <| Wz (.b false) (OpF rfl) ?_
     refine Wm (.b false) rfl <| Wn <| Wn <| Wn <| Wz (.b false) (OpF rfl) <| Wm (.b false) rfl <| Wn <| Wn <| Wn <| Wn <| Wz (.b false) (OpF rfl) <| Wm (.b false) rfl <| Wn <| Wn ?_
     refine Wz (.b false) (OpF rfl) <| Wm (.b false) rfl <| Wn <| Wn <| Wz (.b false) (OpF rfl) <| Wm (.b false) rfl <| Wn <| Wn <| Wn <| Wn <| Wn <| Wn <| Wz (.b false) (OpF rfl) <| Wm (.b false) rfl ?_
     refine Wz (.b false) (OpF rfl) <| Wm (.b false) rfl <| Wdr <| Tn <| Rt ?_
     obtain rfl := Option.some.inj hm
     exact ret_i []
   ·
    replace hm := cF hq59_4 hm
    refine Wz (.b false) (Oq hq59_4 rfl) <| Wn <| Wn <| Wn <| Wn <| Wz (.b false) (OpF rfl) <| Wm (.b false) rfl <| Wn <| Wn <| Wn <| Wz (.b false) (OpF rfl) <| Wm (.b false) rfl <| Wn <| Wn ?_
    refine Wn <| Wn <| Wn <| Wn <| Wn <| Wz (.b false) (OpF rfl) <| Wm (.b false) rfl <| Wn <| Wn <| Wn <| Wz (.b false) (OpF rfl) <| Wm (.b false) rfl <| Wn <| Wn ?_
    refine Wn <| Wn <| Wz (.b false) (OpF rfl) <| Wm (.b false) rfl <| Wn <| Wn <| Wz (.b false) (OpF rfl) <| Wm (.b false) rfl <| Wn <| Wn <| Wz (.b false) (OpF rfl) <| Wm (.b false) rfl <| Wn <| Wn ?_
    refine Wn <| Wn <| Wn <| Wn <| Wz (.b false) (OpF rfl) <| Wm (.b false) rfl <| Wz (.b false) (OpF rfl) <| Wm (.b false) rfl <| Wdr <| Tn <| Rt ?_
    obtain rfl := Option.some.inj hm
    exact ret_i []
  ·
   replace hm := cF hq55_4 hm
   refine Wz (.b false) (Oq hq55_4 rfl) <| Wn <| Wn <| Wz (.b false) (OpF rfl) <| Wm (.b false) rfl <| Wn <| Wn <| Wn <| Wn <| Wz (.b false) (OpF rfl) <| Wm (.b false) rfl <| Wn <| Wn <| Wn ?_
   refine Wz (.b false) (OpF rfl) <| Wm (.b false) rfl <| Wn <| Wn <| Wn <| Wn <| Wn <| Wn <| Wn <| Wz (.b false) (OpF rfl) <| Wm (.b false) rfl <| Wn <| Wn <| Wn ?_
   refine Wz (.b false) (OpF rfl) <| Wm (.b false) rfl <| Wn <| Wn <| Wn <| Wn <| Wz (.b false) (OpF rfl) <| Wm (.b false) rfl <| Wn <| Wn <| Wz (.b false) (OpF rfl) <| Wm (.b false) rfl <| Wn <| Wn ?_
   refine Wz (.b false) (OpF rfl) <| Wm (.b false) rfl <| Wn <| Wn <| Wn <| Wn <| Wn <| Wn <| Wz (.b false) (OpF rfl) <| Wm (.b false) rfl <| Wz (.b false) (OpF rfl) <| Wm (.b false) rfl <| Wdr <| Tn ?_
   refine Rt ?_
   obtain rfl := Option.some.inj hm
   exact ret_i []
 ·
  replace hm := cF hq51_4 hm
  refine Wz (.b false) (Oq hq51_4 rfl) <| Wn <| Wn <| Wz (.b false) (OpF rfl) <| Wm (.b false) rfl <| Wn <| Wn <| Wz (.b false) (OpF rfl) <| Wm (.b false) rfl <| Wn <| Wn <| Wn <| Wn <| Wz (.b false) (OpF rfl) ?_
  refine Wm (.b false) rfl <| Wn <| Wn <| Wn <| Wz (.b false) (OpF rfl) <| Wm (.b false) rfl <| Wn <| Wn <| Wn <| Wn <| Wn <| Wn <| Wn <| Wz (.b false) (OpF rfl) ?_
  refine Wm (.b false) rfl <| Wn <| Wn <| Wn <| Wz (.b false) (OpF rfl) <| Wm (.b false) rfl <| Wn <| Wn <| Wn <| Wn <| Wz (.b false) (OpF rfl) <| Wm (.b false) rfl <| Wn <| Wn ?_
  refine Wz (.b false) (OpF rfl) <| Wm (.b false) rfl <| Wn <| Wn <| Wz (.b false) (OpF rfl) <| Wm (.b false) rfl <| Wn <| Wn <| Wn <| Wn <| Wn <| Wn <| Wz (.b false) (OpF rfl) <| Wm (.b false) rfl ?_
  refine Wz (.b false) (OpF rfl) <| Wm (.b false) rfl <| Wdr <| Tn <| Rt ?_
  obtain rfl := Option.some.inj hm
  exact ret_i []

theorem ok_w06_Own (p0 : (List GType)) (r : (List GType)) (h : m_w06_Own p0 = some r) : GCall Tryd.prog 10 [(.l enc_GType p0)] [] (.own 0) [(Ar 74 2 enc_GType r)] := by
 refine GCall.of_body (n := 47) (rs := [(.tmp 2)]) Tryd.func10 rfl rfl rfl <| Ato ⟨.l enc_GType p0::tu 46 [], [], 0⟩ ?_
 have hm := h
 unfold m_w06_Own at hm
 refine Sx <| Wm (.d .nil) rfl <| Nk 1 0 ⟨.l enc_GType p0::tp 46 [], [], 0⟩ <| Sx <| Wm (.d .nil) rfl <| Nk 9 0 ⟨.l enc_GType p0::tp 2 (.d .nil::tp 43 []), [], 0⟩ <| Sq <| Sx <| Wm (.i 0) rfl <| Nk 25 0 ⟨.l enc_GType p0::tp 2 (.d .nil::.i 0::tp 42 []), [], 0⟩ <| Bk <| Aow 3 74 2 ⟨.l enc_GType p0::tp 2 (.own 0::.i 0::tp 42 []), [(Ar 74 2 enc_GType ([] : List GType))], 0⟩ ?_
 refine AWP.loopI (α := Nat × (List GType) × Int)
   (fun (fu_0, y3_0, y4_0) => (⟨.l enc_GType p0::tp 2 (.own 0::.i y4_0::tp 42 []), [(Ar 74 2 enc_GType y3_0)], 0⟩ : St))
   (fun (fu_0, y3_0, y4_0) => m_w06_Own_l0 p0 fu_0 y3_0 y4_0 = some r)
   (fun (fu_0, y3_0, y4_0) => fu_0) (1152921504606846976, ([] : List GType), 0)
   (Weak.toK 25 0 0 [0]) hm ?_
 rintro ⟨fu_0, y3_0, y4_0⟩ n_0 hm ih_0
 try dsimp only at hm ih_0 ⊢
 cases fu_0 with
 | zero => exact absurd hm (by unfold m_w06_Own_l0; simp)
 | succ fu_0 =>
  unfold m_w06_Own_l0 at hm
  refine Sq <| Sx <| Wm (.i y4_0) rfl <| Wm (.l enc_GType p0) rfl <| Wz (.i ((List.length p0 : Nat) : Int)) (Oln rfl) <| Wz (.b (decide (y4_0 < ((List.length p0 : Nat) : Int)))) (Obn rfl (fun _ => hb_lss (k := .i64))) <| Nk 1049 1 ⟨.l enc_GType p0::tp 2 (.own 0::.i y4_0::tp 5 (.b (decide (y4_0 < ((List.length p0 : Nat) : Int)))::tp 36 [])), [(Ar 74 2 enc_GType y3_0)], 0⟩ ?_
  rcases tf_ (decide (y4_0 < ((List.length p0 : Nat) : Int))) with hc10_7 | hc10_7
  ·
   replace hm := cT hc10_7 hm
   refine AiT hc10_7 <| Sk <| Tk 25 1 ⟨.l enc_GType p0::tp 2 (.own 0::.i y4_0::tp 42 []), [(Ar 74 2 enc_GType y3_0)], 0⟩ <| Sq <| Bk <| Sx <| Wm (.l enc_GType p0) rfl <| Wm (.i y4_0) rfl ?_
   obtain ⟨x15_2, hx15_2, hm⟩ := bnd hm
   obtain ⟨hx15_2i, hx15_2g⟩ := geti_some hx15_2
   refine Wz (.d (.ref (List.drop ((Int.toNat y4_0) * 2) (flatD enc_GType p0)))) (Oia rfl enc_GType_len hx15_2i hx15_2g) <| Wz (.d (.ref (List.drop ((Int.toNat y4_0) * 2) (flatD enc_GType p0)))) (Ofa rfl) <| Wz (.s x15_2.Name) (Lf1 rfl enc_GType_len hx15_2g) <| Wz (.agg [(.s x15_2.Name), (.d .nil)]) (Obd rfl) <| Wy (.loc 1 0) [(1, (.box [(.s ([] : List UInt8)), (.d .nil)]))] (Oal rfl) <| Wy (.tup []) [(1, (.box [(.s x15_2.Name), (.d .nil)]))] (Ost rfl) <| Nk 57 3 ⟨.l enc_GType p0::tp 2 (.own 0::.i y4_0::.loc 1 0::tp 41 []), [(Ar 74 2 enc_GType y3_0), (.box [(.s x15_2.Name), (.d .nil)])], 0⟩ <| Sq <| Sx <| Wm (.i 0) rfl <| Nk 121 3 ⟨.l enc_GType p0::tp 2 (.own 0::.i y4_0::.loc 1 0::.i 0::tp 40 []), [(Ar 74 2 enc_GType y3_0), (.box [(.s x15_2.Name), (.d .nil)])], 0⟩ <| Bk <| Aob 1 1 75 2 ⟨.l enc_GType p0::tp 2 (.own 0::.i y4_0::.loc 1 0::.i 0::tp 40 []), [(Ar 74 2 enc_GType y3_0), (.box [(.s x15_2.Name), (.own 2)]), (Ar 75 2 enc_GField ([] : List GField))], 0⟩ ?_
   refine AWP.loopI (α := Nat × (List GField) × Int)
     (fun (fu_3, y5_d_1_3, y6_3) => (⟨.l enc_GType p0::tp 2 (.own 0::.i y4_0::.loc 1 0::.i y6_3::tp 40 []), [(Ar 74 2 enc_GType y3_0), (.box [(.s x15_2.Name), (.own 2)]), (Ar 75 2 enc_GField y5_d_1_3)], 0⟩ : St))
     (fun (fu_3, y5_d_1_3, y6_3) => m_w06_Own_l3 p0 x15_2 y3_0 y4_0 (fun y3_0 y4_0 => m_w06_Own_l0 p0 fu_0 y3_0 y4_0) fu_3 y5_d_1_3 y6_3 = some r)
     (fun (fu_3, y5_d_1_3, y6_3) => fu_3) (1152921504606846976, ([] : List GField), 0)
     (Weak.toK 121 0 0 [0, 1, 2]) hm ?_
   rintro ⟨fu_3, y5_d_1_3, y6_3⟩ n_3 hm ih_3
   try dsimp only at hm ih_3 ⊢
   cases fu_3 with
   | zero => exact absurd hm (by unfold m_w06_Own_l3; simp)
   | succ fu_3 =>
    unfold m_w06_Own_l3 at hm
    refine Sq <| Sx <| Wm (.i y6_3) rfl <| Wm (.l enc_GType p0) rfl <| Wm (.i y4_0) rfl ?_
    obtain ⟨x22_4, hx22_4, hm⟩ := bnd hm
    obtain ⟨hx22_4i, hx22_4g⟩ := geti_some hx22_4
    refine Wz (.d (.ref (List.drop ((Int.toNat y4_0) * 2) (flatD enc_GType p0)))) (Oia rfl enc_GType_len hx22_4i hx22_4g) <| Wz (.d (.ref (List.drop 1 (List.drop ((Int.toNat y4_0) * 2) (flatD enc_GType p0))))) (Ofa rfl) <| Wz (.l enc_GField x22_4.Fields) (Lfk1 1 rfl enc_GType_len hx22_4g) <| Wz (.i ((List.length x22_4.Fields : Nat) : Int)) (Oln rfl) <| Wz (.b (decide (y6_3 < ((List.length x22_4.Fields : Nat) : Int)))) (Obn rfl (fun _ => hb_lss (k := .i64))) <| Nk 67108985 7 ⟨.l enc_GType p0::tp 2 (.own 0::.i y4_0::.loc 1 0::.i y6_3::tp 19 (.b (decide (y6_3 < ((List.length x22_4.Fields : Nat) : Int)))::tp 20 [])), [(Ar 74 2 enc_GType y3_0), (.box [(.s x15_2.Name), (.own 2)]), (Ar 75 2 enc_GField y5_d_1_3)], 0⟩ ?_
    rcases tf_ (decide (y6_3 < ((List.length x22_4.Fields : Nat) : Int))) with hc26_8 | hc26_8
    ·
     replace hm := cT hc26_8 hm
     refine AiT hc26_8 <| Sk <| Tk 121 7 ⟨.l enc_GType p0::tp 2 (.own 0::.i y4_0::.loc 1 0::.i y6_3::tp 40 []), [(Ar 74 2 enc_GType y3_0), (.box [(.s x15_2.Name), (.own 2)]), (Ar 75 2 enc_GField y5_d_1_3)], 0⟩ <| Sq <| Bk <| Adr <| Wz (.loc 1 1) (Ofa rfl) <| Wz (.own 2) (Old rfl) <| Wm (.l enc_GType p0) rfl <| Wm (.i y4_0) rfl ?_
     obtain ⟨x33_5, hx33_5, hm⟩ := bnd hm
     obtain ⟨hx33_5i, hx33_5g⟩ := geti_some hx33_5
     refine Wz (.d (.ref (List.drop ((Int.toNat y4_0) * 2) (flatD enc_GType p0)))) (Oia rfl enc_GType_len hx33_5i hx33_5g) <| Wz (.d (.ref (List.drop 1 (List.drop ((Int.toNat y4_0) * 2) (flatD enc_GType p0))))) (Ofa rfl) <| Wz (.l enc_GField x33_5.Fields) (Lfk1 1 rfl enc_GType_len hx33_5g) <| Wm (.i y6_3) rfl ?_
     obtain ⟨x37_5, hx37_5, hm⟩ := bnd hm
     obtain ⟨hx37_5i, hx37_5g⟩ := geti_some hx37_5
     refine Wz (.d (.ref (List.drop ((Int.toNat y6_3) * 2) (flatD enc_GField x33_5.Fields)))) (Oia rfl enc_GField_len hx37_5i hx37_5g) <| Wz (.agg [(.s x37_5.Name), (.y x37_5.Kind)]) (Lf rfl enc_GField_len hx37_5g) <| Wy (.own 3) [(3, (Ar 75 2 enc_GField ([x37_5] : List GField)))] (Obs rfl) ?_
     obtain ⟨a40_5, ha40_5, hm⟩ := bnd hm; obtain ⟨ha40_5e, ha40_5l⟩ := app_some ha40_5
     refine Wy (.own 4) [(2, .gone), (4, (Ar 75 2 enc_GField a40_5))] (Oap rfl elemOK_72 enc_GField_len ha40_5e ha40_5l) <| Wz (.loc 1 1) (Ofa rfl) <| Wy (.tup []) [(1, (.box [(.s x15_2.Name), (.own 4)]))] (Ost rfl) <| Wdr <| Ino <| Tk 121 19 ⟨.l enc_GType p0::tp 2 (.own 0::.i y4_0::.loc 1 0::.i y6_3::tp 40 []), [(Ar 74 2 enc_GType y3_0), (.box [(.s x15_2.Name), (.own 4)]), .gone, .gone, (Ar 75 2 enc_GField a40_5)], 0⟩ <| Tx <| Wm (.i y6_3) rfl <| Wz (.i (W6 (y6_3 + 1))) (Obn rfl (fun _ => hb_add (k := .i64))) <| Wm (.i (W6 (y6_3 + 1))) rfl <| Wn0 <| RoundK.normal ?_
     exact Rounds.weak (Weak.toK 121 0 0 [0, 1, 4]) (ih_3 (fu_3, a40_5, (W6 (y6_3 + 1))) hm (Nat.lt_succ_self _))
    ·
     replace hm := cF hc26_8 hm
     refine AiF hc26_8 <| AWP.exit <| Then.exit <| RoundK.exit <| InBlock.same <| Tk 57 7 ⟨.l enc_GType p0::tp 2 (.own 0::.i y4_0::.loc 1 0::tp 41 []), [(Ar 74 2 enc_GType y3_0), (.box [(.s x15_2.Name), (.own 2)]), (Ar 75 2 enc_GField y5_d_1_3)], 0⟩ <| Afz [2] ⟨.l enc_GType p0::tp 2 (.own 0::.i y4_0::.loc 1 0::tp 41 []), [(Ar 74 2 enc_GType y3_0), (.box [(.s x15_2.Name), (.l enc_GField y5_d_1_3)]), (.fro 75 2 (List.length y5_d_1_3) (flatD enc_GField y5_d_1_3))], 0⟩ <| Tx <| Wm (.own 0) rfl <| Wz (.agg [(.s x15_2.Name), (.l enc_GField y5_d_1_3)]) (Old rfl) <| Wy (.own 3) [(3, (Ar 74 2 enc_GType ([(GType.mk x15_2.Name y5_d_1_3)] : List GType)))] (Obs rfl) ?_
     obtain ⟨a45_6, ha45_6, hm⟩ := bnd hm; obtain ⟨ha45_6e, ha45_6l⟩ := app_some ha45_6
     refine Wy (.own 4) [(0, .gone), (4, (Ar 74 2 enc_GType a45_6))] (Oap rfl elemOK_27 enc_GType_len ha45_6e ha45_6l) <| Wm (.own 4) rfl <| Wn0 <| Ino <| Tk 25 16 ⟨.l enc_GType p0::tp 2 (.own 4::.i y4_0::tp 42 []), [.gone, .gone, .gone, .gone, (Ar 74 2 enc_GType a45_6)], 0⟩ <| Tx <| Wm (.i y4_0) rfl <| Wz (.i (W6 (y4_0 + 1))) (Obn rfl (fun _ => hb_add (k := .i64))) <| Wm (.i (W6 (y4_0 + 1))) rfl <| Wn0 <| RoundK.normal ?_
     exact Rounds.weak (Weak.toK 25 0 0 [4]) (ih_0 (fu_0, a45_6, (W6 (y4_0 + 1))) hm (Nat.lt_succ_self _))
  ·
   replace hm := cF hc10_7 hm
   refine AiF hc10_7 <| AWP.exit <| Then.exit <| RoundK.exit <| InBlock.same <| Tk 8 1 ⟨tp 3 (.own 0::tp 43 []), [(Ar 74 2 enc_GType y3_0)], 0⟩ <| Sx <| Wm (.own 0) rfl <| Wm (.own 0) rfl <| Nn <| Rt ?_
   obtain rfl := Option.some.inj hm
   exact ret_i [0]

theorem ok_w06_Vals (p0 : (List GValue)) (r : (List GValue)) (h : m_w06_Vals p0 = some r) : GCall Tryd.prog 46 [(.l enc_GValue p0)] [] (.own 0) [(Ar 105 4 enc_GValue r)] := by
 refine GCall.of_body (n := 19) (rs := [(.tmp 2)]) Tryd.func46 rfl rfl rfl <| Ato ⟨.l enc_GValue p0::tu 18 [], [], 0⟩ ?_
 have hm := h
 unfold m_w06_Vals at hm
 refine Sx <| Wm (.d .nil) rfl <| Nk 1 0 ⟨.l enc_GValue p0::tp 18 [], [], 0⟩ <| Sx <| Wm (.d .nil) rfl <| Nk 9 0 ⟨.l enc_GValue p0::tp 2 (.d .nil::tp 15 []), [], 0⟩ <| Sq <| Sx <| Wm (.i 0) rfl <| Nk 25 0 ⟨.l enc_GValue p0::tp 2 (.d .nil::.i 0::tp 14 []), [], 0⟩ <| Bk <| Aow 3 105 4 ⟨.l enc_GValue p0::tp 2 (.own 0::.i 0::tp 14 []), [(Ar 105 4 enc_GValue ([] : List GValue))], 0⟩ ?_
 refine AWP.loopI (α := Nat × (List GValue) × Int)
   (fun (fu_0, y3_0, y4_0) => (⟨.l enc_GValue p0::tp 2 (.own 0::.i y4_0::tp 14 []), [(Ar 105 4 enc_GValue y3_0)], 0⟩ : St))
   (fun (fu_0, y3_0, y4_0) => m_w06_Vals_l0 p0 fu_0 y3_0 y4_0 = some r)
   (fun (fu_0, y3_0, y4_0) => fu_0) (1152921504606846976, ([] : List GValue), 0)
   (Weak.toK 25 0 0 [0]) hm ?_
 rintro ⟨fu_0, y3_0, y4_0⟩ n_0 hm ih_0
 try dsimp only at hm ih_0 ⊢
 cases fu_0 with
 | zero => exact absurd hm (by unfold m_w06_Vals_l0; simp)
 | succ fu_0 =>
  unfold m_w06_Vals_l0 at hm
  refine Sq <| Sx <| Wm (.i y4_0) rfl <| Wm (.l enc_GValue p0) rfl <| Wz (.i ((List.length p0 : Nat) : Int)) (Oln rfl) <| Wz (.b (decide (y4_0 < ((List.length p0 : Nat) : Int)))) (Obn rfl (fun _ => hb_lss (k := .i64))) <| Nk 281 1 ⟨.l enc_GValue p0::tp 2 (.own 0::.i y4_0::tp 3 (.b (decide (y4_0 < ((List.length p0 : Nat) : Int)))::tp 10 [])), [(Ar 105 4 enc_GValue y3_0)], 0⟩ ?_
  rcases tf_ (decide (y4_0 < ((List.length p0 : Nat) : Int))) with hc8_3 | hc8_3
  ·
   replace hm := cT hc8_3 hm
   refine AiT hc8_3 <| Sk <| Tk 25 1 ⟨.l enc_GValue p0::tp 2 (.own 0::.i y4_0::tp 14 []), [(Ar 105 4 enc_GValue y3_0)], 0⟩ <| Sq <| Bk <| Tx <| Wm (.own 0) rfl <| Wm (.l enc_GValue p0) rfl <| Wm (.i y4_0) rfl ?_
   obtain ⟨x14_2, hx14_2, hm⟩ := bnd hm
   obtain ⟨hx14_2i, hx14_2g⟩ := geti_some hx14_2
   refine Wz (.d (.ref (List.drop ((Int.toNat y4_0) * 4) (flatD enc_GValue p0)))) (Oia rfl enc_GValue_len hx14_2i hx14_2g) <| Wz (.agg [(.y x14_2.Kind), (.i x14_2.N), (.u x14_2.Bits), (.s x14_2.Text)]) (Lf rfl enc_GValue_len hx14_2g) <| Wy (.own 1) [(1, (Ar 105 4 enc_GValue ([x14_2] : List GValue)))] (Obs rfl) ?_
   obtain ⟨a17_2, ha17_2, hm⟩ := bnd hm; obtain ⟨ha17_2e, ha17_2l⟩ := app_some ha17_2
   refine Wy (.own 2) [(0, .gone), (2, (Ar 105 4 enc_GValue a17_2))] (Oap rfl elemOK_35 enc_GValue_len ha17_2e ha17_2l) <| Wm (.own 2) rfl <| Wn0 <| Ino <| Tk 25 4 ⟨.l enc_GValue p0::tp 2 (.own 2::.i y4_0::tp 14 []), [.gone, .gone, (Ar 105 4 enc_GValue a17_2)], 0⟩ <| Tx <| Wm (.i y4_0) rfl <| Wz (.i (W6 (y4_0 + 1))) (Obn rfl (fun _ => hb_add (k := .i64))) <| Wm (.i (W6 (y4_0 + 1))) rfl <| Wn0 <| RoundK.normal ?_
   exact Rounds.weak (Weak.toK 25 0 0 [2]) (ih_0 (fu_0, a17_2, (W6 (y4_0 + 1))) hm (Nat.lt_succ_self _))
  ·
   replace hm := cF hc8_3 hm
   refine AiF hc8_3 <| AWP.exit <| Then.exit <| RoundK.exit <| InBlock.same <| Tk 8 1 ⟨tp 3 (.own 0::tp 15 []), [(Ar 105 4 enc_GValue y3_0)], 0⟩ <| Sx <| Wm (.own 0) rfl <| Wm (.own 0) rfl <| Nn <| Rt ?_
   obtain rfl := Option.some.inj hm
   exact ret_i [0]

theorem ok_w07_Own (p0 : GEvent) (r : GEvent) (h : m_w07_Own p0 = some r) : GCall Tryd.prog 25 [(.agg [(.i p0.Time), (.i p0.Source), (.i p0.Seq), (.s p0.Type_), (.l enc_GValue p0.Vals)])] [] (.agg [(.i r.Time), (.i r.Source), (.i r.Seq), (.s r.Type_), (.own 0)]) [(Ar 105 4 enc_GValue r.Vals)] := by
 refine GCall.of_body (n := 15) (rs := [(.cell 2 37)]) Tryd.func25 rfl rfl rfl <| Ato ⟨.agg [(.i p0.Time), (.i p0.Source), (.i p0.Seq), (.s p0.Type_), (.l enc_GValue p0.Vals)]::tu 14 [], [], 0⟩ ?_
 have hm := h
 unfold m_w07_Own at hm
 refine Sx <| Wy (.loc 0 0) [(0, (.box [(.i p0.Time), (.i p0.Source), (.i p0.Seq), (.s p0.Type_), (.l enc_GValue p0.Vals)]))] (Obx rfl) <| Wy (.loc 1 0) [(1, (.box [(.i 0), (.i 0), (.i 0), (.s ([] : List UInt8)), (.d .nil)]))] (Oal rfl) <| Nk 6 3 ⟨tp 1 (.loc 0 0::.loc 1 0::tp 12 []), [(.box [(.i p0.Time), (.i p0.Source), (.i p0.Seq), (.s p0.Type_), (.l enc_GValue p0.Vals)]), (.box [(.i 0), (.i 0), (.i 0), (.s ([] : List UInt8)), (.d .nil)])], 0⟩ <| Sq <| Adr <| Wz (.loc 0 0) (Ofa rfl) <| Wz (.i p0.Time) (Old rfl) <| Wz (.loc 0 1) (Ofa rfl) <| Wz (.i p0.Source) (Old rfl) <| Wz (.loc 0 2) (Ofa rfl) <| Wz (.i p0.Seq) (Old rfl) <| Wz (.loc 0 3) (Ofa rfl) <| Wz (.s p0.Type_) (Old rfl) ?_
 refine Wz (.loc 0 4) (Ofa rfl) <| Wz (.l enc_GValue p0.Vals) (Old rfl) ?_
 obtain ⟨r13_0, hr13_0, hm⟩ := bnd hm
 refine Wy (.own 2) [(2, (Ar 105 4 enc_GValue r13_0))] (Ocf [] [2] [] 0 (ok_w06_Vals p0.Vals r13_0 hr13_0) (fun a w => Tryd.call46 a w) rfl trivial) <| Wz (.agg [(.i p0.Time), (.i p0.Source), (.i p0.Seq), (.s p0.Type_), (.own 2)]) (Obd rfl) <| Wy (.tup []) [(1, (.box [(.i p0.Time), (.i p0.Source), (.i p0.Seq), (.s p0.Type_), (.own 2)]))] (Ost rfl) <| Wdr <| Tn <| Rt ?_
 obtain rfl := Option.some.inj hm
 exact ret_i [2]

theorem ok_w37_Own (p0 : (List GCommand)) (r : (List GCommand)) (h : m_w37_Own p0 = some r) : GCall Tryd.prog 11 [(.l enc_GCommand p0)] [] (.own 0) [(Ar 39 9 enc_GCommand r)] := by
 refine GCall.of_body (n := 32) (rs := [(.tmp 2)]) Tryd.func11 rfl rfl rfl <| Ato ⟨.l enc_GCommand p0::tu 31 [], [], 0⟩ ?_
 have hm := h
 unfold m_w37_Own at hm
 refine Sx <| Wm (.d .nil) rfl <| Nk 1 0 ⟨.l enc_GCommand p0::tp 31 [], [], 0⟩ <| Sx <| Wm (.d .nil) rfl <| Nk 9 0 ⟨.l enc_GCommand p0::tp 2 (.d .nil::tp 28 []), [], 0⟩ <| Sq <| Sx <| Wm (.i 0) rfl <| Nk 25 0 ⟨.l enc_GCommand p0::tp 2 (.d .nil::.i 0::tp 27 []), [], 0⟩ <| Bk <| Aow 3 39 9 ⟨.l enc_GCommand p0::tp 2 (.own 0::.i 0::tp 27 []), [(Ar 39 9 enc_GCommand ([] : List GCommand))], 0⟩ ?_
 refine AWP.loopI (α := Nat × (List GCommand) × Int)
   (fun (fu_0, y3_0, y4_0) => (⟨.l enc_GCommand p0::tp 2 (.own 0::.i y4_0::tp 27 []), [(Ar 39 9 enc_GCommand y3_0)], 0⟩ : St))
   (fun (fu_0, y3_0, y4_0) => m_w37_Own_l0 p0 fu_0 y3_0 y4_0 = some r)
   (fun (fu_0, y3_0, y4_0) => fu_0) (1152921504606846976, ([] : List GCommand), 0)
   (Weak.toK 25 0 0 [0]) hm ?_
 rintro ⟨fu_0, y3_0, y4_0⟩ n_0 hm ih_0
 try dsimp only at hm ih_0 ⊢
 cases fu_0 with
 | zero => exact absurd hm (by unfold m_w37_Own_l0; simp)
 | succ fu_0 =>
  unfold m_w37_Own_l0 at hm
  refine Sq <| Sx <| Wm (.i y4_0) rfl <| Wm (.l enc_GCommand p0) rfl <| Wz (.i ((List.length p0 : Nat) : Int)) (Oln rfl) <| Wz (.b (decide (y4_0 < ((List.length p0 : Nat) : Int)))) (Obn rfl (fun _ => hb_lss (k := .i64))) <| Nk 537 1 ⟨.l enc_GCommand p0::tp 2 (.own 0::.i y4_0::tp 4 (.b (decide (y4_0 < ((List.length p0 : Nat) : Int)))::tp 22 [])), [(Ar 39 9 enc_GCommand y3_0)], 0⟩ ?_
  rcases tf_ (decide (y4_0 < ((List.length p0 : Nat) : Int))) with hc9_4 | hc9_4
  ·
   replace hm := cT hc9_4 hm
   refine AiT hc9_4 <| Sk <| Tk 25 1 ⟨.l enc_GCommand p0::tp 2 (.own 0::.i y4_0::tp 27 []), [(Ar 39 9 enc_GCommand y3_0)], 0⟩ <| Sq <| Bk <| Sx <| Wm (.l enc_GCommand p0) rfl <| Wm (.i y4_0) rfl ?_
   obtain ⟨x14_2, hx14_2, hm⟩ := bnd hm
   obtain ⟨hx14_2i, hx14_2g⟩ := geti_some hx14_2
   refine Wz (.d (.ref (List.drop ((Int.toNat y4_0) * 9) (flatD enc_GCommand p0)))) (Oia rfl enc_GCommand_len hx14_2i hx14_2g) <| Wz (.agg [(.y x14_2.Kind), (.s x14_2.Text), (.i x14_2.A), (.i x14_2.B), (.i x14_2.E.Time), (.i x14_2.E.Source), (.i x14_2.E.Seq), (.s x14_2.E.Type_), (.l enc_GValue x14_2.E.Vals)]) (Lf rfl enc_GCommand_len hx14_2g) <| Wy (.loc 1 0) [(1, (.box [(.y 0), (.s ([] : List UInt8)), (.i 0), (.i 0), (.i 0), (.i 0), (.i 0), (.s ([] : List UInt8)), (.d .nil)]))] (Oal rfl) <| Wy (.tup []) [(1, (.box [(.y x14_2.Kind), (.s x14_2.Text), (.i x14_2.A), (.i x14_2.B), (.i x14_2.E.Time), (.i x14_2.E.Source), (.i x14_2.E.Seq), (.s x14_2.E.Type_), (.l enc_GValue x14_2.E.Vals)]))] (Ost rfl) <| Nk 57 3 ⟨.l enc_GCommand p0::tp 2 (.own 0::.i y4_0::.loc 1 0::tp 26 []), [(Ar 39 9 enc_GCommand y3_0), (.box [(.y x14_2.Kind), (.s x14_2.Text), (.i x14_2.A), (.i x14_2.B), (.i x14_2.E.Time), (.i x14_2.E.Source), (.i x14_2.E.Seq), (.s x14_2.E.Type_), (.l enc_GValue x14_2.E.Vals)])], 0⟩ <| Adr <| Wm (.own 0) rfl <| Wz (.loc 1 0) (Ofa rfl) <| Wz (.y x14_2.Kind) (Old rfl) <| Wz (.loc 1 1) (Ofa rfl) <| Wz (.s x14_2.Text) (Old rfl) <| Wz (.loc 1 2) (Ofa rfl) <| Wz (.i x14_2.A) (Old rfl) <| Wz (.loc 1 3) (Ofa rfl) ?_
   refine Wz (.i x14_2.B) (Old rfl) <| Wz (.loc 1 4) (Ofa rfl) <| Wz (.agg [(.i x14_2.E.Time), (.i x14_2.E.Source), (.i x14_2.E.Seq), (.s x14_2.E.Type_), (.l enc_GValue x14_2.E.Vals)]) (Old rfl) ?_
   obtain ⟨r27_3, hr27_3, hm⟩ := bnd hm
   refine Wy (.agg [(.i r27_3.Time), (.i r27_3.Source), (.i r27_3.Seq), (.s r27_3.Type_), (.l enc_GValue r27_3.Vals)]) [(2, (Ar 105 4 enc_GValue r27_3.Vals)), (2, (.fro 105 4 (List.length r27_3.Vals) (flatD enc_GValue r27_3.Vals)))] (Ofz [2] (.agg [(.i r27_3.Time), (.i r27_3.Source), (.i r27_3.Seq), (.s r27_3.Type_), (.own 2)]) [(2, (Ar 105 4 enc_GValue r27_3.Vals))] (Ocf [] [2] [] 0 (ok_w07_Own x14_2.E r27_3 hr27_3) (fun a w => Tryd.call25 a w) rfl trivial)) <| Wz (.agg [(.y x14_2.Kind), (.s x14_2.Text), (.i x14_2.A), (.i x14_2.B), (.i r27_3.Time), (.i r27_3.Source), (.i r27_3.Seq), (.s r27_3.Type_), (.l enc_GValue r27_3.Vals)]) (Obd rfl) <| Wy (.own 3) [(3, (Ar 39 9 enc_GCommand ([(GCommand.mk x14_2.Kind x14_2.Text x14_2.A x14_2.B r27_3)] : List GCommand)))] (Obs rfl) ?_
   obtain ⟨a30_3, ha30_3, hm⟩ := bnd hm; obtain ⟨ha30_3e, ha30_3l⟩ := app_some ha30_3
   refine Wy (.own 4) [(0, .gone), (4, (Ar 39 9 enc_GCommand a30_3))] (Oap rfl elemOK_29 enc_GCommand_len ha30_3e ha30_3l) <| Wm (.own 4) rfl <| Wdr <| Ino <| Tk 25 16 ⟨.l enc_GCommand p0::tp 2 (.own 4::.i y4_0::tp 27 []), [.gone, .gone, .gone, .gone, (Ar 39 9 enc_GCommand a30_3)], 0⟩ <| Tx <| Wm (.i y4_0) rfl <| Wz (.i (W6 (y4_0 + 1))) (Obn rfl (fun _ => hb_add (k := .i64))) <| Wm (.i (W6 (y4_0 + 1))) rfl <| Wn0 <| RoundK.normal ?_
   exact Rounds.weak (Weak.toK 25 0 0 [4]) (ih_0 (fu_0, a30_3, (W6 (y4_0 + 1))) hm (Nat.lt_succ_self _))
  ·
   replace hm := cF hc9_4 hm
   refine AiF hc9_4 <| AWP.exit <| Then.exit <| RoundK.exit <| InBlock.same <| Tk 8 1 ⟨tp 3 (.own 0::tp 28 []), [(Ar 39 9 enc_GCommand y3_0)], 0⟩ <| Sx <| Wm (.own 0) rfl <| Wm (.own 0) rfl <| Nn <| Rt ?_
   obtain rfl := Option.some.inj hm
   exact ret_i [0]

theorem ok_w37_ScriptParts (p0 : (List GType)) (p1 : (List GCommand)) (p2 : (List GCommand)) (r : Bool) (h : m_w37_ScriptParts p0 p1 p2 = some r) : GCall Tryd.prog 6 [(.l enc_GType p0), (.l enc_GCommand p1), (.l enc_GCommand p2)] [] (.b r) [] := by
 refine GCall.of_body (n := 136) (rs := [(.tmp 6)]) Tryd.func6 rfl rfl rfl <| Ato ⟨.l enc_GType p0::.l enc_GCommand p1::.l enc_GCommand p2::tu 133 [], [], 0⟩ ?_
 have hm := h
 unfold m_w37_ScriptParts at hm
 refine Sx <| Wm (.b false) rfl <| Nk 7 0 ⟨.l enc_GType p0::.l enc_GCommand p1::.l enc_GCommand p2::tp 133 [], [], 0⟩ <| Sq ?_
 refine AWP.cutJ (α := Unit) (fun x => match x with | () => (⟨.l enc_GType p0::.l enc_GCommand p1::.l enc_GCommand p2::tp 28 (.b true::tp 104 []), [], 0⟩ : St)) (fun x => match x with | () => m_w37_ScriptParts_j1  = some r) ?_ (fun J1 => ?_)
 ·
  rintro ⟨⟩ hm
  try dsimp only at hm ⊢
  unfold m_w37_ScriptParts_j1 at hm
  refine AWP.if_ true (by kernel_rfl) <| Sx ?_
  obtain ⟨r32_2, hr32_2, hm⟩ := bnd hm
  refine Wz (.b r32_2) (Ocf [] [] [] 0 (ok_w37_awake  r32_2 hr32_2) (fun a w => Tryd.call9 a w) rfl trivial) <| Wm (.b r32_2) rfl <| Nn <| Rt <| Tr ?_
  obtain rfl := Option.some.inj hm
  exact ret_i []
 refine Sx <| Wm (.l enc_GType p0) rfl ?_
 obtain ⟨r20_0, hr20_0, hm⟩ := bnd hm
 refine Wz (.i r20_0) (Ocf [] [] [] 0 (ok_w06_Over p0 r20_0 hr20_0) (fun a w => Tryd.call7 a w) rfl trivial) <| Wz (.b (decide ((0 : Int) < r20_0))) (Obn rfl (fun _ => hb_gtr (k := .i64))) ?_
 rcases tf_ (decide ((0 : Int) < r20_0)) with hq22_0 | hq22_0
 ·
  replace hm := cT hq22_0 hm
  refine Wz (.b true) (Oq hq22_0 rfl) <| Wn <| Wn <| Wn <| Wz (.b true) (OpT rfl) <| Wm (.b true) rfl <| Wn <| Wn <| Wn <| Wz (.b true) (OpT rfl) <| Nn ?_
  exact AWP.weak (Weak.toK 2147483655 0 0 []) (J1 () hm)
 ·
  replace hm := cF hq22_0 hm
  refine Wz (.b false) (Oq hq22_0 rfl) <| Wm (.l enc_GCommand p1) rfl ?_
  obtain ⟨r24_0, hr24_0, hm⟩ := bnd hm
  refine Wz (.i r24_0) (Ocf [] [] [] 0 (ok_w37_Over p1 10 r24_0 hr24_0) (fun a w => Tryd.call8 a w) rfl trivial) <| Wz (.b (decide ((0 : Int) < r24_0))) (Obn rfl (fun _ => hb_gtr (k := .i64))) <| Wz (.b (decide ((0 : Int) < r24_0))) (OpF rfl) ?_
  rcases tf_ (decide ((0 : Int) < r24_0)) with hq27_0 | hq27_0
  ·
   replace hm := cT hq27_0 hm
   refine Wz (.b true) (Oq hq27_0 rfl) <| Wn <| Wn <| Wn <| Wz (.b true) (OpT rfl) <| Nn ?_
   exact AWP.weak (Weak.toK 2147483655 0 0 []) (J1 () hm)
  ·
   replace hm := cF hq27_0 hm
   refine Wz (.b false) (Oq hq27_0 rfl) <| Wm (.l enc_GCommand p2) rfl ?_
   obtain ⟨r29_0, hr29_0, hm⟩ := bnd hm
   refine Wz (.i r29_0) (Ocf [] [] [] 0 (ok_w37_Over p2 10 r29_0 hr29_0) (fun a w => Tryd.call8 a w) rfl trivial) <| Wz (.b (decide ((0 : Int) < r29_0))) (Obn rfl (fun _ => hb_gtr (k := .i64))) <| Wz (.b (decide ((0 : Int) < r29_0))) (OpF rfl) <| Nk 2147483655 0 ⟨.l enc_GType p0::.l enc_GCommand p1::.l enc_GCommand p2::tp 28 (.b (decide ((0 : Int) < r29_0))::tp 104 []), [], 0⟩ ?_
   rcases tf_ (decide ((0 : Int) < r29_0)) with hc31_15 | hc31_15
   ·
    replace hm := cT hc31_15 hm
    refine AiT hc31_15 <| Sx ?_
    obtain ⟨r32_3, hr32_3, hm⟩ := bnd hm
    refine Wz (.b r32_3) (Ocf [] [] [] 0 (ok_w37_awake  r32_3 hr32_3) (fun a w => Tryd.call9 a w) rfl trivial) <| Wm (.b r32_3) rfl <| Nn <| Rt <| Tr ?_
    obtain rfl := Option.some.inj hm
    exact ret_i []
   ·
    replace hm := cF hc31_15 hm
    refine AiF hc31_15 <| Sk <| Tk 7 0 ⟨.l enc_GType p0::.l enc_GCommand p1::.l enc_GCommand p2::tp 133 [], [], 0⟩ <| Sx <| Wm (.l enc_GType p0) rfl ?_
    obtain ⟨r34_4, hr34_4, hm⟩ := bnd hm
    refine Wy (.own 0) [(0, (Ar 74 2 enc_GType r34_4))] (Ocf [] [0] [] 0 (ok_w06_Own p0 r34_4 hr34_4) (fun a w => Tryd.call10 a w) rfl trivial) <| Wm (.l enc_GCommand p1) rfl ?_
    obtain ⟨r36_4, hr36_4, hm⟩ := bnd hm
    refine Wy (.own 1) [(1, (Ar 39 9 enc_GCommand r36_4))] (Ocf [] [1] [] 0 (ok_w37_Own p1 r36_4 hr36_4) (fun a w => Tryd.call11 a w) rfl trivial) <| Wm (.l enc_GCommand p2) rfl ?_
    obtain ⟨r38_4, hr38_4, hm⟩ := bnd hm
    refine Wy (.own 2) [(2, (Ar 39 9 enc_GCommand r38_4))] (Ocf [] [2] [] 0 (ok_w37_Own p2 r38_4 hr38_4) (fun a w => Tryd.call11 a w) rfl trivial) <| Wm (.own 0) rfl <| Wm (.own 1) rfl <| Wm (.own 2) rfl <| Nk 896 7 ⟨tp 7 (.own 0::.own 1::.own 2::tp 126 []), [(Ar 74 2 enc_GType r34_4), (Ar 39 9 enc_GCommand r36_4), (Ar 39 9 enc_GCommand r38_4)], 0⟩ <| Sx <| Wm (.own 0) rfl <| Wm (.own 1) rfl ?_
    obtain ⟨r42_5, hr42_5, hm⟩ := bnd hm
    refine Wz (.tup [(.s r42_5.1), (.i r42_5.2)]) (Ocp [] [] [0, 1] 0 (ok_script_Write r34_4 r36_4 r42_5 hr42_5) (plain_triv (by simp [A.Plain, A.Plains, D.Plain, byteD])) (fun a w => Tryd.call18 a w) rfl trivial) <| Wm (.tup [(.s r42_5.1), (.i r42_5.2)]) rfl <| Wz (.s r42_5.1) (Oex rfl) <| Wz (.i r42_5.2) (Oex rfl) <| Wm (.s r42_5.1) rfl <| Wm (.i r42_5.2) rfl <| Nk 3968 7 ⟨tp 7 (.own 0::.own 1::.own 2::.s r42_5.1::.i r42_5.2::tp 124 []), [(Ar 74 2 enc_GType r34_4), (Ar 39 9 enc_GCommand r36_4), (Ar 39 9 enc_GCommand r38_4)], 0⟩ <| Sx <| Wm (.own 0) rfl <| Wm (.own 2) rfl ?_
    obtain ⟨r48_6, hr48_6, hm⟩ := bnd hm
    refine Wz (.tup [(.s r48_6.1), (.i r48_6.2)]) (Ocp [] [] [0, 2] 0 (ok_script_Write r34_4 r38_4 r48_6 hr48_6) (plain_triv (by simp [A.Plain, A.Plains, D.Plain, byteD])) (fun a w => Tryd.call18 a w) rfl trivial) <| Wm (.tup [(.s r48_6.1), (.i r48_6.2)]) rfl <| Wz (.s r48_6.1) (Oex rfl) <| Wz (.i r48_6.2) (Oex rfl) <| Wm (.s r48_6.1) rfl <| Wm (.i r48_6.2) rfl <| Nk 16256 7 ⟨tp 7 (.own 0::.own 1::.own 2::.s r42_5.1::.i r42_5.2::.s r48_6.1::.i r48_6.2::tp 122 []), [(Ar 74 2 enc_GType r34_4), (Ar 39 9 enc_GCommand r36_4), (Ar 39 9 enc_GCommand r38_4)], 0⟩ <| Sx <| Wm (.own 0) rfl <| Wy (.own 3) [(3, (Ar 39 9 enc_GCommand ([] : List GCommand)))] (Obs rfl) <| Wm (.own 1) rfl ?_
    obtain ⟨a55_7, ha55_7, hm⟩ := bnd hm; obtain ⟨ha55_7e, ha55_7l⟩ := app_some ha55_7
    refine Wy (.own 4) [(3, .gone), (4, (Ar 39 9 enc_GCommand a55_7))] (Oap rfl elemOK_29 enc_GCommand_len ha55_7e ha55_7l) <| Wm (.own 2) rfl ?_
    obtain ⟨a57_7, ha57_7, hm⟩ := bnd hm; obtain ⟨ha57_7e, ha57_7l⟩ := app_some ha57_7
    refine Wy (.own 5) [(4, .gone), (5, (Ar 39 9 enc_GCommand a57_7))] (Oap rfl elemOK_29 enc_GCommand_len ha57_7e ha57_7l) ?_
    obtain ⟨r58_7, hr58_7, hm⟩ := bnd hm
    refine Wz (.tup [(.s r58_7.1), (.i r58_7.2)]) (Ocp [] [] [0, 5] 0 (ok_script_Write r34_4 a57_7 r58_7 hr58_7) (plain_triv (by simp [A.Plain, A.Plains, D.Plain, byteD])) (fun a w => Tryd.call18 a w) rfl trivial) <| Wm (.tup [(.s r58_7.1), (.i r58_7.2)]) rfl <| Wz (.s r58_7.1) (Oex rfl) <| Wz (.i r58_7.2) (Oex rfl) <| Wm (.s r58_7.1) rfl <| Wm (.i r58_7.2) rfl <| Nk 65408 7 ⟨tp 7 (.own 0::.own 1::.own 2::.s r42_5.1::.i r42_5.2::.s r48_6.1::.i r48_6.2::.s r58_7.1::.i r58_7.2::tp 120 []), [(Ar 74 2 enc_GType r34_4), (Ar 39 9 enc_GCommand r36_4), (Ar 39 9 enc_GCommand r38_4), .gone, .gone, .gone], 0⟩ <| Sq <| Sx <| Wm (.i r42_5.2) rfl <| Wz (.b (decide (r42_5.2 ≠ 0))) (Obn rfl (fun _ => hb_neq (k := .i64))) ?_
    rcases tf_ (decide (r42_5.2 ≠ 0)) with hq63_8 | hq63_8
    ·
     replace hm := cT hq63_8 hm
     refine Wz (.b true) (Oq hq63_8 rfl) <| Wn <| Wn <| Wz (.b true) (OpT rfl) <| Nk 73786976294838271872 7 ⟨tp 7 (.own 0::.own 1::.own 2::.s r42_5.1::.i r42_5.2::.s r48_6.1::.i r48_6.2::.s r58_7.1::.i r58_7.2::tp 50 (.b true::tp 69 [])), [(Ar 74 2 enc_GType r34_4), (Ar 39 9 enc_GCommand r36_4), (Ar 39 9 enc_GCommand r38_4), .gone, .gone, .gone], 0⟩ <| AWP.if_ true (by kernel_rfl) <| Sx <| Wm (.i r58_7.2) rfl <| Wm (.i r42_5.2) rfl <| Wz (.b (decide (r58_7.2 = r42_5.2))) (Obn rfl (fun _ => hb_eql (k := .i64))) ?_
     rcases tf_ (decide (r58_7.2 = r42_5.2)) with hq70_9 | hq70_9
     ·
      replace hm := cT hq70_9 hm
      refine Wz (.b true) (Oq hq70_9 rfl) <| Wn <| Wn <| Wn <| Wn <| Wn <| Wn <| Wn <| Wz (.b true) (OpT rfl) <| Wm (.b true) rfl <| Wm (.s r58_7.1) rfl <| Wz (.b (decide (r58_7.1 = ([] : List UInt8)))) (Ocs (lit_tf (by simp only [toS_inj, ne_eq])) (op_bin rfl (a1 := .string (toS r58_7.1)) (a2 := .string (toS ([] : List UInt8))) (by kernel_rfl) (by kernel_rfl) (fun _ => hb_seql))) <| Wz (.b (decide (r58_7.1 = ([] : List UInt8)))) (OpT rfl) ?_
      rcases tf_ (decide (r58_7.1 = ([] : List UInt8))) with hq83_9 | hq83_9
      ·
       replace hm := cT hq83_9 hm
       refine Wz (.b true) (Oq hq83_9 rfl) ?_
       obtain ⟨r84_9, hr84_9, hm⟩ := bnd hm
       refine Wz (.b r84_9) (Ocf [] [] [] 0 (ok_w37_awake  r84_9 hr84_9) (fun a w => Tryd.call9 a w) rfl trivial) <| Wz (.b r84_9) (OpT rfl) <| Wm (.b r84_9) rfl <| Nn <| Rt <| Tr ?_
       obtain rfl := Option.some.inj hm
       exact ret_i []
      ·
       replace hm := cF hq83_9 hm
       refine Wz (.b false) (Oq hq83_9 rfl) <| Wn <| Wz (.b false) (OpF rfl) <| Wm (.b false) rfl <| Nn <| Rt <| Tr ?_
       obtain rfl := Option.some.inj hm
       exact ret_i []
     ·
      replace hm := cF hq70_9 hm
      refine Wz (.b false) (Oq hq70_9 rfl) <| Wm (.i r42_5.2) rfl <| Wz (.b (decide (r42_5.2 = 0))) (Obn rfl (fun _ => hb_eql (k := .i64))) ?_
      rcases tf_ (decide (r42_5.2 = 0)) with hq73_9 | hq73_9
      ·
       replace hm := cT hq73_9 hm
       refine Wz (.b true) (Oq hq73_9 rfl) <| Wm (.i r58_7.2) rfl <| Wm (.i r48_6.2) rfl <| Wz (.b (decide (r58_7.2 = r48_6.2))) (Obn rfl (fun _ => hb_eql (k := .i64))) <| Wz (.b (decide (r58_7.2 = r48_6.2))) (OpT rfl) <| Wz (.b (decide (r58_7.2 = r48_6.2))) (OpF rfl) ?_
       rcases tf_ (decide (r58_7.2 = r48_6.2)) with hq79_9 | hq79_9
       ·
        replace hm := cT hq79_9 hm
        refine Wz (.b true) (Oq hq79_9 rfl) <| Wm (.s r58_7.1) rfl <| Wz (.b (decide (r58_7.1 = ([] : List UInt8)))) (Ocs (lit_tf (by simp only [toS_inj, ne_eq])) (op_bin rfl (a1 := .string (toS r58_7.1)) (a2 := .string (toS ([] : List UInt8))) (by kernel_rfl) (by kernel_rfl) (fun _ => hb_seql))) <| Wz (.b (decide (r58_7.1 = ([] : List UInt8)))) (OpT rfl) ?_
        rcases tf_ (decide (r58_7.1 = ([] : List UInt8))) with hq83_9 | hq83_9
        ·
         replace hm := cT hq83_9 hm
         refine Wz (.b true) (Oq hq83_9 rfl) ?_
         obtain ⟨r84_9, hr84_9, hm⟩ := bnd hm
         refine Wz (.b r84_9) (Ocf [] [] [] 0 (ok_w37_awake  r84_9 hr84_9) (fun a w => Tryd.call9 a w) rfl trivial) <| Wz (.b r84_9) (OpT rfl) <| Wm (.b r84_9) rfl <| Nn <| Rt <| Tr ?_
         obtain rfl := Option.some.inj hm
         exact ret_i []
        ·
         replace hm := cF hq83_9 hm
         refine Wz (.b false) (Oq hq83_9 rfl) <| Wn <| Wz (.b false) (OpF rfl) <| Wm (.b false) rfl <| Nn <| Rt <| Tr ?_
         obtain rfl := Option.some.inj hm
         exact ret_i []
       ·
        replace hm := cF hq79_9 hm
        refine Wz (.b false) (Oq hq79_9 rfl) <| Wn <| Wn <| Wz (.b false) (OpF rfl) <| Wm (.b false) rfl <| Wn <| Wz (.b false) (OpF rfl) <| Wm (.b false) rfl <| Nn <| Rt <| Tr ?_
        obtain rfl := Option.some.inj hm
        exact ret_i []
      ·
       replace hm := cF hq73_9 hm
       refine Wz (.b false) (Oq hq73_9 rfl) <| Wn <| Wn <| Wn <| Wz (.b false) (OpF rfl) <| Wz (.b false) (OpF rfl) <| Wm (.b false) rfl <| Wn <| Wn <| Wz (.b false) (OpF rfl) <| Wm (.b false) rfl <| Wn <| Wz (.b false) (OpF rfl) <| Wm (.b false) rfl ?_
       refine Nn <| Rt <| Tr ?_
       obtain rfl := Option.some.inj hm
       exact ret_i []
    ·
     replace hm := cF hq63_8 hm
     refine Wz (.b false) (Oq hq63_8 rfl) <| Wm (.i r48_6.2) rfl <| Wz (.b (decide (r48_6.2 ≠ 0))) (Obn rfl (fun _ => hb_neq (k := .i64))) <| Wz (.b (decide (r48_6.2 ≠ 0))) (OpF rfl) <| Nk 73786976294838271872 7 ⟨tp 7 (.own 0::.own 1::.own 2::.s r42_5.1::.i r42_5.2::.s r48_6.1::.i r48_6.2::.s r58_7.1::.i r58_7.2::tp 50 (.b (decide (r48_6.2 ≠ 0))::tp 69 [])), [(Ar 74 2 enc_GType r34_4), (Ar 39 9 enc_GCommand r36_4), (Ar 39 9 enc_GCommand r38_4), .gone, .gone, .gone], 0⟩ ?_
     rcases tf_ (decide (r48_6.2 ≠ 0)) with hc66_16 | hc66_16
     ·
      replace hm := cT hc66_16 hm
      refine AiT hc66_16 <| Sx <| Wm (.i r58_7.2) rfl <| Wm (.i r42_5.2) rfl <| Wz (.b (decide (r58_7.2 = r42_5.2))) (Obn rfl (fun _ => hb_eql (k := .i64))) ?_
      rcases tf_ (decide (r58_7.2 = r42_5.2)) with hq70_10 | hq70_10
      ·
       replace hm := cT hq70_10 hm
       refine Wz (.b true) (Oq hq70_10 rfl) <| Wn <| Wn <| Wn <| Wn <| Wn <| Wn <| Wn <| Wz (.b true) (OpT rfl) <| Wm (.b true) rfl <| Wm (.s r58_7.1) rfl <| Wz (.b (decide (r58_7.1 = ([] : List UInt8)))) (Ocs (lit_tf (by simp only [toS_inj, ne_eq])) (op_bin rfl (a1 := .string (toS r58_7.1)) (a2 := .string (toS ([] : List UInt8))) (by kernel_rfl) (by kernel_rfl) (fun _ => hb_seql))) <| Wz (.b (decide (r58_7.1 = ([] : List UInt8)))) (OpT rfl) ?_
       rcases tf_ (decide (r58_7.1 = ([] : List UInt8))) with hq83_10 | hq83_10
       ·
        replace hm := cT hq83_10 hm
        refine Wz (.b true) (Oq hq83_10 rfl) ?_
        obtain ⟨r84_10, hr84_10, hm⟩ := bnd hm
        refine Wz (.b r84_10) (Ocf [] [] [] 0 (ok_w37_awake  r84_10 hr84_10) (fun a w => Tryd.call9 a w) rfl trivial) <| Wz (.b r84_10) (OpT rfl) <| Wm (.b r84_10) rfl <| Nn <| Rt <| Tr ?_
        obtain rfl := Option.some.inj hm
        exact ret_i []
       ·
        replace hm := cF hq83_10 hm
        refine Wz (.b false) (Oq hq83_10 rfl) <| Wn <| Wz (.b false) (OpF rfl) <| Wm (.b false) rfl <| Nn <| Rt <| Tr ?_
        obtain rfl := Option.some.inj hm
        exact ret_i []
      ·
       replace hm := cF hq70_10 hm
       refine Wz (.b false) (Oq hq70_10 rfl) <| Wm (.i r42_5.2) rfl <| Wz (.b (decide (r42_5.2 = 0))) (Obn rfl (fun _ => hb_eql (k := .i64))) ?_
       rcases tf_ (decide (r42_5.2 = 0)) with hq73_10 | hq73_10
       ·
        replace hm := cT hq73_10 hm
        refine Wz (.b true) (Oq hq73_10 rfl) <| Wm (.i r58_7.2) rfl <| Wm (.i r48_6.2) rfl <| Wz (.b (decide (r58_7.2 = r48_6.2))) (Obn rfl (fun _ => hb_eql (k := .i64))) <| Wz (.b (decide (r58_7.2 = r48_6.2))) (OpT rfl) <| Wz (.b (decide (r58_7.2 = r48_6.2))) (OpF rfl) ?_
        rcases tf_ (decide (r58_7.2 = r48_6.2)) with hq79_10 | hq79_10
        ·
         replace hm := cT hq79_10 hm
         refine Wz (.b true) (Oq hq79_10 rfl) <| Wm (.s r58_7.1) rfl <| Wz (.b (decide (r58_7.1 = ([] : List UInt8)))) (Ocs (lit_tf (by simp only [toS_inj, ne_eq])) (op_bin rfl (a1 := .string (toS r58_7.1)) (a2 := .string (toS ([] : List UInt8))) (by kernel_rfl) (by kernel_rfl) (fun _ => hb_seql))) <| Wz (.b (decide (r58_7.1 = ([] : List UInt8)))) (OpT rfl) ?_
         rcases tf_ (decide (r58_7.1 = ([] : List UInt8))) with hq83_10 | hq83_10
         ·
          replace hm := cT hq83_10 hm
          refine Wz (.b true) (Oq hq83_10 rfl) ?_
          obtain ⟨r84_10, hr84_10, hm⟩ := bnd hm
          refine Wz (.b r84_10) (Ocf [] [] [] 0 (ok_w37_awake  r84_10 hr84_10) (fun a w => Tryd.call9 a w) rfl trivial) <| Wz (.b r84_10) (OpT rfl) <| Wm (.b r84_10) rfl <| Nn <| Rt <| Tr ?_
          obtain rfl := Option.some.inj hm
          exact ret_i []
         ·
          replace hm := cF hq83_10 hm
          refine Wz (.b false) (Oq hq83_10 rfl) <| Wn <| Wz (.b false) (OpF rfl) <| Wm (.b false) rfl <| Nn <| Rt <| Tr ?_
          obtain rfl := Option.some.inj hm
          exact ret_i []
        ·
         replace hm := cF hq79_10 hm
         refine Wz (.b false) (Oq hq79_10 rfl) <| Wn <| Wn <| Wz (.b false) (OpF rfl) <| Wm (.b false) rfl <| Wn <| Wz (.b false) (OpF rfl) <| Wm (.b false) rfl <| Nn <| Rt <| Tr ?_
         obtain rfl := Option.some.inj hm
         exact ret_i []
       ·
        replace hm := cF hq73_10 hm
        refine Wz (.b false) (Oq hq73_10 rfl) <| Wn <| Wn <| Wn <| Wz (.b false) (OpF rfl) <| Wz (.b false) (OpF rfl) <| Wm (.b false) rfl <| Wn <| Wn <| Wz (.b false) (OpF rfl) <| Wm (.b false) rfl <| Wn <| Wz (.b false) (OpF rfl) <| Wm (.b false) rfl ?_
        refine Nn <| Rt <| Tr ?_
        obtain rfl := Option.some.inj hm
        exact ret_i []
     ·
      replace hm := cF hc66_16 hm
      refine AiF hc66_16 <| Sk <| Tk 55168 7 ⟨tp 7 (.own 0::.own 1::.own 2::.s r42_5.1::tp 1 (.s r48_6.1::tp 1 (.s r58_7.1::.i r58_7.2::tp 120 []))), [(Ar 74 2 enc_GType r34_4), (Ar 39 9 enc_GCommand r36_4), (Ar 39 9 enc_GCommand r38_4), .gone, .gone, .gone], 0⟩ <| Sq <| Sx <| Wm (.own 1) rfl <| Wz (.i ((List.length r36_4 : Nat) : Int)) (Oln rfl) <| Wm (.own 2) rfl <| Wz (.i ((List.length r38_4 : Nat) : Int)) (Oln rfl) <| Wz (.i (W6 (((List.length r36_4 : Nat) : Int) + ((List.length r38_4 : Nat) : Int)))) (Obn rfl (fun _ => hb_add (k := .i64))) <| Wz (.b (decide ((W6 (((List.length r36_4 : Nat) : Int) + ((List.length r38_4 : Nat) : Int))) = 0))) (Obn rfl (fun _ => hb_eql (k := .i64))) <| Nk 2475880078570760549798303616 7 ⟨tp 7 (.own 0::.own 1::.own 2::.s r42_5.1::tp 1 (.s r48_6.1::tp 1 (.s r58_7.1::.i r58_7.2::tp 75 (.b (decide ((W6 (((List.length r36_4 : Nat) : Int) + ((List.length r38_4 : Nat) : Int))) = 0))::tp 44 [])))), [(Ar 74 2 enc_GType r34_4), (Ar 39 9 enc_GCommand r36_4), (Ar 39 9 enc_GCommand r38_4), .gone, .gone, .gone], 0⟩ ?_
      rcases tf_ (decide ((W6 (((List.length r36_4 : Nat) : Int) + ((List.length r38_4 : Nat) : Int))) = 0)) with hc91_17 | hc91_17
      ·
       replace hm := cT hc91_17 hm
       refine AiT hc91_17 <| Sx <| Wm (.s r58_7.1) rfl <| Wz (.b (decide (r58_7.1 = ([] : List UInt8)))) (Ocs (lit_tf (by simp only [toS_inj, ne_eq])) (op_bin rfl (a1 := .string (toS r58_7.1)) (a2 := .string (toS ([] : List UInt8))) (by kernel_rfl) (by kernel_rfl) (fun _ => hb_seql))) ?_
       rcases tf_ (decide (r58_7.1 = ([] : List UInt8))) with hq94_12 | hq94_12
       ·
        replace hm := cT hq94_12 hm
        refine Wz (.b true) (Oq hq94_12 rfl) ?_
        obtain ⟨r95_12, hr95_12, hm⟩ := bnd hm
        refine Wz (.b r95_12) (Ocf [] [] [] 0 (ok_w37_awake  r95_12 hr95_12) (fun a w => Tryd.call9 a w) rfl trivial) <| Wz (.b r95_12) (OpT rfl) <| Wm (.b r95_12) rfl <| Nn <| Rt <| Tr ?_
        obtain rfl := Option.some.inj hm
        exact ret_i []
       ·
        replace hm := cF hq94_12 hm
        refine Wz (.b false) (Oq hq94_12 rfl) <| Wn <| Wz (.b false) (OpF rfl) <| Wm (.b false) rfl <| Nn <| Rt <| Tr ?_
        obtain rfl := Option.some.inj hm
        exact ret_i []
      ·
       replace hm := cF hc91_17 hm
       refine AiF hc91_17 <| Sk <| Tk 55168 7 ⟨tp 7 (.own 0::.own 1::.own 2::.s r42_5.1::tp 1 (.s r48_6.1::tp 1 (.s r58_7.1::.i r58_7.2::tp 120 []))), [(Ar 74 2 enc_GType r34_4), (Ar 39 9 enc_GCommand r36_4), (Ar 39 9 enc_GCommand r38_4), .gone, .gone, .gone], 0⟩ <| Sx <| Wm (.own 0) rfl <| Wm (.s r58_7.1) rfl ?_
       obtain ⟨r100_13, hr100_13, hm⟩ := bnd hm
       refine Wy (.tup [(.own 6), (.i r100_13.2.1), (.i r100_13.2.2)]) [(6, (Ar 39 9 enc_GCommand r100_13.1)), (0, (.fro 74 2 (List.length r34_4) (flatD enc_GType r34_4)))] (Ocf [] [6] [0] 0 (ok_script_Read r34_4 r58_7.1 r100_13 hr100_13) (fun a w => Tryd.call20 a w) rfl trivial) <| Wm (.tup [(.own 6), (.i r100_13.2.1), (.i r100_13.2.2)]) rfl <| Wz (.own 6) (Oex rfl) <| Wz (.i r100_13.2.1) (Oex rfl) <| Wz (.i r100_13.2.2) (Oex rfl) <| Wm (.own 6) rfl <| Wm (.i r100_13.2.1) rfl <| Wm (.i r100_13.2.2) rfl <| Nk 513792 70 ⟨tp 8 (.own 1::.own 2::.s r42_5.1::tp 1 (.s r48_6.1::tp 1 (.s r58_7.1::.i r58_7.2::.own 6::.i r100_13.2.1::.i r100_13.2.2::tp 117 []))), [.gone, (Ar 39 9 enc_GCommand r36_4), (Ar 39 9 enc_GCommand r38_4), .gone, .gone, .gone, (Ar 39 9 enc_GCommand r100_13.1)], 0⟩ <| Sx <| Wm (.i r58_7.2) rfl <| Wz (.b (decide (r58_7.2 = 0))) (Obn rfl (fun _ => hb_eql (k := .i64))) ?_
       rcases tf_ (decide (r58_7.2 = 0)) with hq106_14 | hq106_14
       ·
        replace hm := cT hq106_14 hm
        refine Wz (.b true) (Oq hq106_14 rfl) <| Wm (.s r58_7.1) rfl <| Wm (.s r42_5.1) rfl <| Wm (.s r48_6.1) rfl ?_
        obtain ⟨t110_14, ht110_14, hm⟩ := bnd hm; obtain ⟨ht110_14e, ht110_14l⟩ := app_some ht110_14
        refine Wz (.s t110_14) (op_bin rfl (a1 := .string (toS r42_5.1)) (a2 := .string (toS r48_6.1)) (by kernel_rfl) (by kernel_rfl) (fun _ => hb_sadd ht110_14e ht110_14l)) <| Wz (.b (decide (r58_7.1 = t110_14))) (Ocs (lit_tf (by simp only [toS_inj, ne_eq])) (op_bin rfl (a1 := .string (toS r58_7.1)) (a2 := .string (toS t110_14)) (by kernel_rfl) (by kernel_rfl) (fun _ => hb_seql))) <| Wz (.b (decide (r58_7.1 = t110_14))) (OpT rfl) ?_
        rcases tf_ (decide (r58_7.1 = t110_14)) with hq113_14 | hq113_14
        ·
         replace hm := cT hq113_14 hm
         refine Wz (.b true) (Oq hq113_14 rfl) <| Wm (.i r100_13.2.2) rfl <| Wz (.b (decide (r100_13.2.2 = 0))) (Obn rfl (fun _ => hb_eql (k := .i64))) <| Wz (.b (decide (r100_13.2.2 = 0))) (OpT rfl) ?_
         rcases tf_ (decide (r100_13.2.2 = 0)) with hq117_14 | hq117_14
         ·
          replace hm := cT hq117_14 hm
          refine Wz (.b true) (Oq hq117_14 rfl) <| Wm (.i r100_13.2.1) rfl <| Wm (.s r58_7.1) rfl <| Wz (.i ((List.length r58_7.1 : Nat) : Int)) (Oln rfl) <| Wz (.b (decide (r100_13.2.1 = ((List.length r58_7.1 : Nat) : Int)))) (Obn rfl (fun _ => hb_eql (k := .i64))) <| Wz (.b (decide (r100_13.2.1 = ((List.length r58_7.1 : Nat) : Int)))) (OpT rfl) ?_
          rcases tf_ (decide (r100_13.2.1 = ((List.length r58_7.1 : Nat) : Int))) with hq123_14 | hq123_14
          ·
           replace hm := cT hq123_14 hm
           refine Wz (.b true) (Oq hq123_14 rfl) <| Wm (.own 6) rfl <| Wz (.i ((List.length r100_13.1 : Nat) : Int)) (Oln rfl) <| Wm (.own 1) rfl <| Wz (.i ((List.length r36_4 : Nat) : Int)) (Oln rfl) <| Wm (.own 2) rfl <| Wz (.i ((List.length r38_4 : Nat) : Int)) (Oln rfl) <| Wz (.i (W6 (((List.length r36_4 : Nat) : Int) + ((List.length r38_4 : Nat) : Int)))) (Obn rfl (fun _ => hb_add (k := .i64))) ?_
           obtain ⟨v131_14, hv131_14, hm⟩ := bnd hm; replace hv131_14 := Option.some.inj hv131_14
           refine Wz (.b v131_14) (Ocs (congrArg (fun z => A.d (.lit (.bool z))) hv131_14) (Obn rfl (fun _ => hb_eql (k := .i64)))) <| Wz (.b v131_14) (OpT rfl) ?_
           rcases tf_ v131_14 with hq133_14 | hq133_14
           ·
            replace hm := cT hq133_14 hm
            refine Wz (.b true) (Oq hq133_14 rfl) ?_
            obtain ⟨r134_14, hr134_14, hm⟩ := bnd hm
            refine Wz (.b r134_14) (Ocf [] [] [] 0 (ok_w37_awake  r134_14 hr134_14) (fun a w => Tryd.call9 a w) rfl trivial) <| Wz (.b r134_14) (OpT rfl) <| Wm (.b r134_14) rfl <| Nn <| Rt ?_
            obtain rfl := Option.some.inj hm
            exact ret_i []
           ·
            replace hm := cF hq133_14 hm
            refine Wz (.b false) (Oq hq133_14 rfl) <| Wn <| Wz (.b false) (OpF rfl) <| Wm (.b false) rfl <| Nn <| Rt ?_
            obtain rfl := Option.some.inj hm
            exact ret_i []
          ·
           replace hm := cF hq123_14 hm
           refine Wz (.b false) (Oq hq123_14 rfl) <| Wn <| Wn <| Wn <| Wn <| Wn <| Wn <| Wn <| Wn <| Wz (.b false) (OpF rfl) <| Wm (.b false) rfl <| Wn <| Wz (.b false) (OpF rfl) <| Wm (.b false) rfl ?_
           refine Nn <| Rt ?_
           obtain rfl := Option.some.inj hm
           exact ret_i []
         ·
          replace hm := cF hq117_14 hm
          refine Wz (.b false) (Oq hq117_14 rfl) <| Wn <| Wn <| Wn <| Wn <| Wz (.b false) (OpF rfl) <| Wm (.b false) rfl <| Wn <| Wn <| Wn <| Wn <| Wn <| Wn <| Wn ?_
          refine Wn <| Wz (.b false) (OpF rfl) <| Wm (.b false) rfl <| Wn <| Wz (.b false) (OpF rfl) <| Wm (.b false) rfl <| Nn <| Rt ?_
          obtain rfl := Option.some.inj hm
          exact ret_i []
        ·
         replace hm := cF hq113_14 hm
         refine Wz (.b false) (Oq hq113_14 rfl) <| Wn <| Wn <| Wz (.b false) (OpF rfl) <| Wm (.b false) rfl <| Wn <| Wn <| Wn <| Wn <| Wz (.b false) (OpF rfl) <| Wm (.b false) rfl <| Wn <| Wn <| Wn ?_
         refine Wn <| Wn <| Wn <| Wn <| Wn <| Wz (.b false) (OpF rfl) <| Wm (.b false) rfl <| Wn <| Wz (.b false) (OpF rfl) <| Wm (.b false) rfl <| Nn <| Rt ?_
         obtain rfl := Option.some.inj hm
         exact ret_i []
       ·
        replace hm := cF hq106_14 hm
        refine Wz (.b false) (Oq hq106_14 rfl) <| Wn <| Wn <| Wn <| Wn <| Wn <| Wz (.b false) (OpF rfl) <| Wm (.b false) rfl <| Wn <| Wn <| Wz (.b false) (OpF rfl) <| Wm (.b false) rfl <| Wn <| Wn ?_
        refine Wn <| Wn <| Wz (.b false) (OpF rfl) <| Wm (.b false) rfl <| Wn <| Wn <| Wn <| Wn <| Wn <| Wn <| Wn <| Wn <| Wz (.b false) (OpF rfl) <| Wm (.b false) rfl ?_
        refine Wn <| Wz (.b false) (OpF rfl) <| Wm (.b false) rfl <| Nn <| Rt ?_
        obtain rfl := Option.some.inj hm
        exact ret_i []
end Go.Proofs.YtaaooafcijdbmaaDoor.K

namespace Go.Proofs.YtaaooafcijdbmaaDoor
open Go.ChangeShapes Go.WideShapes Go.ChangeAt Go.RowKit
open Go.ChangeMaps (open_string shut_string)

section
variable {H : Type} {enc : TypeId × Value → H} {P : Program}
theorem trodAll_lt {w : World} {base : Nat} {spare : Nat → Bool} {held : Bool} : ∀ {ts : List TypeId} {vs : List Value} {ds : List (DataW H)} {ps : List MemPlace},
    DataW.TrodAll enc P w base spare held ts vs ds ps → ∀ x ∈ ps, x.block < w.heap.size
  | [], _, _, _, h => by obtain ⟨_, _, rfl⟩ := trodAll_nil h; simp
  | t :: ts, _, _, _, h => by
    obtain ⟨v, vs, d, ds, p, q, rfl, rfl, rfl, h0, h1⟩ := trodAll_cons h
    intro x hx
    rcases List.mem_append.1 hx with hx | hx
    · obtain ⟨m, hm⟩ := h0; exact DataW.trod_lt m _ _ _ hm x hx
    · exact trodAll_lt h1 x hx
theorem trodAll_below (hl : laidOutB P = true) {W W' : World} (hb : Below W.heap.size W W') : ∀ {ts : List TypeId} {vs : List Value} {ds : List (DataW H)} {ps : List MemPlace},
    (ts.all fun t => P.readableRec t && decide (t < P.types.size)) = true → DataW.TrodAll enc P W 0 (fun _ => true) true ts vs ds ps → DataW.TrodAll enc P W' 0 (fun b => decide (b < W.heap.size)) true ts vs ds ps
  | [], _, _, _, _, h => by obtain ⟨rfl, rfl, rfl⟩ := trodAll_nil h; exact trodAll_mk0
  | t :: ts, _, _, _, ht, h => by
    have hlt := trodAll_lt h
    obtain ⟨v, vs, d, ds, p, q, rfl, rfl, rfl, h0, h1⟩ := trodAll_cons h
    simp only [List.all_cons, Bool.and_eq_true, decide_eq_true_eq] at ht
    exact trodAll_cons_mk (Below.trod hl ht.1.1 ht.1.2 h0 hb fun x hx => hlt x (by simp [hx])) (trodAll_below hl hb (by simpa using ht.2) h1)

variable {W : World} {base : Nat} {spare : Nat → Bool} {held : Bool} {t : TypeId} {v : Value} {d : DataW H} {ps : List MemPlace}
theorem op_slice_ints {e : TypeId} {k : IntKind} (ht : P.underlying t = some (.slice e)) (he : P.underlying e = some (.int k)) (hc : P.cellsOf e = 1)
    {r : Reach} (hv : Value.okWide P W r base t v) (h : DataW.Trod enc P W 0 (fun _ => true) true t v d ps) :
    ∃ l : List Int, IsSl 1 (l.map (.int k)) v W ∧ ∀ n ∈ l, (Lit.int k n).wf = true := by
  obtain ⟨a, len, cap, rfl⟩ := okWide_slice ht hv
  obtain ⟨fuel, hf⟩ := h
  rcases open_ints ht he hc hf with ⟨hcs, _⟩ | ⟨x, l, c, zs, hcs, _, hl, hm, hz, _, hcell, hwz⟩
  · simp [Value.cells] at hcs
    obtain ⟨rfl, rfl, rfl⟩ := hcs
    exact ⟨[], ⟨none, 0, 0, rfl, by simp, Nat.le_refl _, by simp [maxLen], fun _ => ⟨rfl, rfl⟩, fun p hp => by cases hp⟩, by simp⟩
  · simp [Value.cells] at hcs
    obtain ⟨rfl, rfl, rfl⟩ := hcs
    simp only [if_true] at hz
    refine ⟨zs.take len, ⟨some x, len, cap, rfl, by simp; omega, hl, hm, (fun h => by cases h), fun p hp j u hj => ?_⟩, fun n hn => hwz n (List.mem_of_mem_take hn)⟩
    cases hp
    rw [List.getElem?_map, List.getElem?_take] at hj
    split at hj
    · rename_i hjl
      have hjz : j < zs.length := by omega
      rw [List.getElem?_eq_getElem hjz] at hj
      simp only [Option.map_some, Option.some.injEq] at hj
      rw [hcell j hjz, ← hj, List.getD_eq_getElem?_getD, List.getElem?_eq_getElem hjz]
      rfl
    · cases hj
theorem bytes_of_ints {l : List Int} (hw : ∀ n ∈ l, (Lit.int .u8 n).wf = true) : ∃ b : List UInt8, l.map (.int .u8) = bytesC b ∧ b.length = l.length := by
  refine ⟨l.map fun n => UInt8.ofNat n.toNat, ?_, by simp⟩
  unfold bytesC
  rw [List.map_map]
  refine List.map_congr_left fun n hn => ?_
  have := bounds_u8 (hw n hn)
  simp
  omega
theorem op_bytes {e : TypeId} (ht : P.underlying t = some (.slice e)) (he : P.underlying e = some (.int .u8)) (hc : P.cellsOf e = 1)
    {r : Reach} (hv : Value.okWide P W r base t v) (h : DataW.Trod enc P W 0 (fun _ => true) true t v d ps) : ∃ l : List UInt8, IsBytes l v W := by
  obtain ⟨l, h1, h2⟩ := op_slice_ints ht he hc hv h
  obtain ⟨b, h3, _⟩ := bytes_of_ints h2
  exact ⟨b, by rw [IsBytes, ← h3]; exact h1⟩
end
end Go.Proofs.YtaaooafcijdbmaaDoor

namespace Go.Proofs.YtaaooafcijdbmaaDoor.K
open Go.RowKit Go.Lib
def inK (k : IntKind) (n : Int) : Prop := (Lit.int k n).wf = true
def wfT {α : Type} (_ : α) : Prop := True
def wfS (l : List UInt8) : Prop := l.length ≤ maxLen
def wfL {α : Type} (q : α → Prop) (l : List α) : Prop := l.length ≤ maxLen ∧ ∀ x ∈ l, q x
theorem in_i64 {n : Int} (h : inK .i64 n) : -9223372036854775808 ≤ n ∧ n ≤ 9223372036854775807 := bounds_i64 h
theorem in_u64 {n : Int} (h : inK .u64 n) : 0 ≤ n ∧ n ≤ 18446744073709551615 := by
  simp [inK, Lit.wf, IntKind.min, IntKind.max, IntKind.signed, IntKind.bits] at h
  omega
section
variable {P : Program} {t e : TypeId} {ds : List D}
theorem td_int {k : IntKind} (hu : P.underlying t = some (.int k)) (h : TD P t ds) : ∃ n, ds = encI k n ∧ inK k n := TD.of_int hu h
theorem td_u8 (hu : P.underlying t = some (.int .u8)) (h : TD P t ds) : ∃ b : UInt8, ds = encU8 b ∧ wfT b := by
  obtain ⟨n, rfl, hw⟩ := TD.of_int hu h
  simp [Lit.wf, IntKind.min, IntKind.max, IntKind.signed, IntKind.bits] at hw
  refine ⟨UInt8.ofNat n.toNat, ?_, trivial⟩
  have : (((UInt8.ofNat n.toNat).toNat : Nat) : Int) = n := by
    have h2 : (UInt8.ofNat n.toNat).toNat = n.toNat % 256 := UInt8.toNat_ofNat
    rw [h2]; omega
  unfold encU8 byteD
  rw [this]
theorem td_str (hu : P.underlying t = some .string) (h : TD P t ds) : ∃ l : List UInt8, ds = encS l ∧ wfS l := by
  obtain ⟨s, rfl, hs⟩ := TD.of_str hu h
  exact ⟨s.data.toList, rfl, hs⟩
theorem td_slice {α : Type} {enc : α → List D} {q : α → Prop} (hu : P.underlying t = some (.slice e)) (he : ∀ {r}, TD P e r → ∃ x, r = enc x ∧ q x) (h : TD P t ds) : ∃ l : List α, ds = encL enc l ∧ wfL q l := by
  obtain ⟨l, rfl, h1, h2⟩ := TD.of_slice hu he h
  exact ⟨l, rfl, h1, h2⟩
end
theorem rep_1 {S : Nat → Prop} {w : World} {m : Mp} {x : D} {v : Value} {xs : List D} (h : RepD S w x v) (e : [x] = xs) {y : D} (hy : xs = [y]) : Rep m S w (.d y) v := by
  subst hy
  cases e
  exact rep_d h
end Go.Proofs.YtaaooafcijdbmaaDoor.K

namespace Go.Proofs.YtaaooafcijdbmaaDoor.K
open Go.RowKit Go.Lib
theorem w64 {n : Int} (h1 : -9223372036854775808 ≤ n) (h2 : n ≤ 9223372036854775807) : IntKind.i64.wrap n = n := by
  simp [IntKind.wrap, IntKind.signed, IntKind.bits]; omega
theorem wu64 (n : Int) : IntKind.u64.wrap n = n % 18446744073709551616 := K.wrap_u64 n
theorem maxLen_le {n : Nat} (h : n ≤ maxLen) : n ≤ 9223372036854775807 := by unfold maxLen at h; omega
section
variable {α : Type} {l r : List α} {i n : Nat} {x : α}
/-- One further. -/
theorem inc_ok (h2 : i ≤ 9223372036854775806) : IntKind.i64.wrap ((i : Int) + 1) = ((i + 1 : Nat) : Int) := by
  rw [w64 (by omega) (by omega)]; omega
theorem geti_nat : geti l (i : Int) = l[i]? := by simp [geti]
theorem geti_lt (h : i < l.length) : geti l (i : Int) = some l[i] := by rw [geti_nat, List.getElem?_eq_getElem h]
theorem geti_0 {y : α} : geti (y :: l) 0 = some y := rfl
theorem app_ok (h : l.length + r.length ≤ 1000000000) : app l r = some (l ++ r) := if_pos h
theorem cut_ok {a b : Nat} (h1 : a ≤ b) (h2 : b ≤ l.length) : cut l (a : Int) (b : Int) = some ((l.drop a).take (b - a)) := by unfold cut; rw [if_pos (by omega)]; rfl
theorem obind_some {β : Type} {f : α → Option β} : Option.bind (some x) f = f x := rfl
theorem bind_of {β : Type} {o : Option α} {f : α → Option β} (h : o = some x) : Option.bind o f = f x := by rw [h]; rfl
theorem chk_ok {p : Prop} [Decidable p] {o : Option α} (h : p) : chk p o = o := if_pos h
theorem d_lt {a b : Int} (h : a < b) : decide (a < b) = true := decide_eq_true h
theorem d_nlt {a b : Int} (h : ¬ a < b) : decide (a < b) = false := decide_eq_false h
theorem drop_cons (h : i < l.length) : l.drop i = l[i] :: l.drop (i + 1) := List.drop_eq_getElem_cons h
theorem take_snoc (h : i < l.length) : l.take (i + 1) = l.take i ++ [l[i]] := by rw [List.take_add_one, List.getElem?_eq_getElem h]; rfl
end
/-- A loop that counts up to n: by what it comes to from place i on, in state s. -/
theorem loopG {σ R : Type} {L : Nat → σ → Int → Option R} {n : Nat} {P : Nat → σ → Option R → Prop} (hend : ∀ fu s, P n s (L (fu + 1) s (n : Int)))
    (hstep : ∀ fu s i, i < n → (∀ s', P (i + 1) s' (L fu s' ((i + 1 : Nat) : Int))) → P i s (L (fu + 1) s (i : Int))) : ∀ fu i s, i ≤ n → n - i < fu → P i s (L fu s (i : Int))
  | 0, i, s, _, h => by omega
  | fu + 1, i, s, h1, h2 => by
    rcases Nat.lt_or_ge i n with h | h
    · exact hstep fu s i h fun s' => loopG hend hstep fu (i + 1) s' (by omega) (by omega)
    · obtain rfl : i = n := by omega
      exact hend fu s
/-- The same without a state. -/
theorem loop1 {R : Type} {L : Nat → Int → Option R} {n : Nat} {P : Nat → Option R → Prop} (hend : ∀ fu, P n (L (fu + 1) (n : Int)))
    (hstep : ∀ fu i, i < n → P (i + 1) (L fu ((i + 1 : Nat) : Int)) → P i (L (fu + 1) (i : Int))) (fu i : Nat) (h1 : i ≤ n) (h2 : n - i < fu) : P i (L fu (i : Int)) :=
  loopG (σ := Unit) (L := fun fu _ i => L fu i) (P := fun i _ o => P i o) (fun fu _ => hend fu) (fun fu _ i hi h => hstep fu i hi (h ())) fu i () h1 h2
/-- From the first place on. -/
theorem loop1_0 {R : Type} {L : Nat → Int → Option R} {n : Nat} {P : Nat → Option R → Prop} (hn : n < 1152921504606846976) (hend : ∀ fu, P n (L (fu + 1) (n : Int)))
    (hstep : ∀ fu i, i < n → P (i + 1) (L fu ((i + 1 : Nat) : Int)) → P i (L (fu + 1) (i : Int))) : P 0 (L 1152921504606846976 0) := loop1 hend hstep _ 0 (Nat.zero_le _) (by omega)
theorem loopG_0 {σ R : Type} {L : Nat → σ → Int → Option R} {n : Nat} {P : Nat → σ → Option R → Prop} (hn : n < 1152921504606846976) (hend : ∀ fu s, P n s (L (fu + 1) s (n : Int)))
    (hstep : ∀ fu s i, i < n → (∀ s', P (i + 1) s' (L fu s' ((i + 1 : Nat) : Int))) → P i s (L (fu + 1) s (i : Int))) (s : σ) : P 0 s (L 1152921504606846976 s 0) := loopG hend hstep _ 0 s (Nat.zero_le _) (by omega)
/-- A loop that lays f of each behind what there is. -/
theorem map_loop {α β R : Type} {L : Nat → List β → Int → Option R} {l : List α} {f : α → β} {e : List β → R} (hl : l.length ≤ 400000000)
    (hend : ∀ fu s, L (fu + 1) s (l.length : Int) = some (e s)) (hstep : ∀ fu s i, (h : i < l.length) → s.length ≤ 400000000 → L (fu + 1) s (i : Int) = L fu (s ++ [f l[i]]) ((i + 1 : Nat) : Int)) : L 1152921504606846976 [] 0 = some (e (l.map f)) := by
  have := loopG_0 (L := L) (n := l.length) (P := fun i s o => s.length = i → o = some (e (s ++ (l.drop i).map f))) (by omega) (fun fu s hs => by rw [hend]; simp) (fun fu s i hi ih hs => by
    rw [hstep fu s i hi (by omega), ih (s ++ [f l[i]]) (by simp [hs]), drop_cons hi, List.map_cons, List.append_assoc]; rfl) [] rfl
  simpa using this
end Go.Proofs.YtaaooafcijdbmaaDoor.K
