/- what telltalelaw07.EventTakes needs (2) -/
import Derived.Test.YtbgioanegbipgaaB1
namespace Go.Proofs.Ytbgioanegbipgaa.K
open Go.RowKit Go.Lib
set_option linter.unusedVariables false
set_option linter.unusedSimpArgs false
set_option maxRecDepth 20000
set_option maxHeartbeats 4000000

theorem ok_telltaleref01_RWord (p0 : GReader) (r : (GReader × Int)) (h : m_telltaleref01_RWord p0 = some r) : GCall Try.prog 75 [(.agg [(.s p0.Text), (.i p0.At), (.i p0.E)])] [] (.tup [(.agg [(.s r.1.Text), (.i r.1.At), (.i r.1.E)]), (.u r.2)]) [] := by
 refine GCall.of_body (n := 35) (rs := [(.cell 2 133), (.tmp 3)]) Try.func75 rfl rfl rfl <| Ato ⟨.agg [(.s p0.Text), (.i p0.At), (.i p0.E)]::tu 34 [], [], 0⟩ ?_
 have hm := h
 unfold m_telltaleref01_RWord at hm
 refine Sx <| Wy (.loc 0 0) [(0, (.box [(.s p0.Text), (.i p0.At), (.i p0.E)]))] (Obx rfl) <| Wy (.loc 1 0) [(1, (.box [(.s ([] : List UInt8)), (.i 0), (.i 0)]))] (Oal rfl) <| Wm (.u 0) rfl <| Nk 6 3 ⟨tp 1 (.loc 0 0::.loc 1 0::tp 32 []), [(.box [(.s p0.Text), (.i p0.At), (.i p0.E)]), (.box [(.s ([] : List UInt8)), (.i 0), (.i 0)])], 0⟩ <| Sx <| Wz (.agg [(.s p0.Text), (.i p0.At), (.i p0.E)]) (Old rfl) ?_
 obtain ⟨r8_0, hr8_0, hm⟩ := bnd hm
 refine Wz (.s r8_0) (Ocf [] [] [] 0 (ok_telltaleref01_rest p0 r8_0 hr8_0) (fun a w => Try.call94 a w) rfl trivial) <| Wm (.s r8_0) rfl <| Nk 22 3 ⟨tp 1 (.loc 0 0::.loc 1 0::tp 1 (.s r8_0::tp 30 [])), [(.box [(.s p0.Text), (.i p0.At), (.i p0.E)]), (.box [(.s ([] : List UInt8)), (.i 0), (.i 0)])], 0⟩ <| Sq <| Sx <| Wz (.loc 0 2) (Ofa rfl) <| Wz (.i p0.E) (Old rfl) <| Wz (.b (decide (p0.E ≠ 0))) (Obn rfl (fun _ => hb_neq (k := .i64))) <| Nk 2070 3 ⟨tp 1 (.loc 0 0::.loc 1 0::tp 1 (.s r8_0::tp 6 (.b (decide (p0.E ≠ 0))::tp 23 []))), [(.box [(.s p0.Text), (.i p0.At), (.i p0.E)]), (.box [(.s ([] : List UInt8)), (.i 0), (.i 0)])], 0⟩ ?_
 rcases tf_ (decide (p0.E ≠ 0)) with hc11_4 | hc11_4
 ·
  replace hm := cT hc11_4 hm
  refine AiT hc11_4 <| Sx <| Wz (.agg [(.s p0.Text), (.i p0.At), (.i p0.E)]) (Old rfl) <| Wy (.tup []) [(1, (.box [(.s p0.Text), (.i p0.At), (.i p0.E)]))] (Ost rfl) <| Wm (.u 0) rfl <| Nn <| Rt <| Tr ?_
  obtain rfl := Option.some.inj hm
  exact ret_i []
 ·
  replace hm := cF hc11_4 hm
  refine AiF hc11_4 <| Sk <| Tk 22 3 ⟨tp 1 (.loc 0 0::.loc 1 0::tp 1 (.s r8_0::tp 30 [])), [(.box [(.s p0.Text), (.i p0.At), (.i p0.E)]), (.box [(.s ([] : List UInt8)), (.i 0), (.i 0)])], 0⟩ <| Sq <| Sx <| Wm (.s r8_0) rfl <| Wz (.i ((List.length r8_0 : Nat) : Int)) (Oln rfl) <| Wz (.b (decide (((List.length r8_0 : Nat) : Int) < 8))) (Obn rfl (fun _ => hb_lss (k := .i64))) <| Nk 32790 3 ⟨tp 1 (.loc 0 0::.loc 1 0::tp 1 (.s r8_0::tp 10 (.b (decide (((List.length r8_0 : Nat) : Int) < 8))::tp 19 []))), [(.box [(.s p0.Text), (.i p0.At), (.i p0.E)]), (.box [(.s ([] : List UInt8)), (.i 0), (.i 0)])], 0⟩ ?_
  rcases tf_ (decide (((List.length r8_0 : Nat) : Int) < 8)) with hc15_5 | hc15_5
  ·
   replace hm := cT hc15_5 hm
   refine AiT hc15_5 <| Sx <| Wz (.loc 0 2) (Ofa rfl) <| Wy (.tup []) [(0, (.box [(.s p0.Text), (.i p0.At), (.i 3)]))] (Ost rfl) <| Nk 6 3 ⟨tp 1 (.loc 0 0::.loc 1 0::tp 32 []), [(.box [(.s p0.Text), (.i p0.At), (.i 3)]), (.box [(.s ([] : List UInt8)), (.i 0), (.i 0)])], 0⟩ <| Sx <| Wz (.agg [(.s p0.Text), (.i p0.At), (.i 3)]) (Old rfl) <| Wy (.tup []) [(1, (.box [(.s p0.Text), (.i p0.At), (.i 3)]))] (Ost rfl) <| Wm (.u 0) rfl <| Nn <| Rt <| Tr ?_
   obtain rfl := Option.some.inj hm
   exact ret_i []
  ·
   replace hm := cF hc15_5 hm
   refine AiF hc15_5 <| Sk <| Tk 22 3 ⟨tp 1 (.loc 0 0::.loc 1 0::tp 1 (.s r8_0::tp 30 [])), [(.box [(.s p0.Text), (.i p0.At), (.i p0.E)]), (.box [(.s ([] : List UInt8)), (.i 0), (.i 0)])], 0⟩ <| Sx <| Wm (.u 0) rfl <| Nk 54 3 ⟨tp 1 (.loc 0 0::.loc 1 0::tp 1 (.s r8_0::.u 0::tp 29 [])), [(.box [(.s p0.Text), (.i p0.At), (.i p0.E)]), (.box [(.s ([] : List UInt8)), (.i 0), (.i 0)])], 0⟩ <| Sq <| Sx <| Wm (.i 0) rfl <| Nk 118 3 ⟨tp 1 (.loc 0 0::.loc 1 0::tp 1 (.s r8_0::.u 0::.i 0::tp 28 [])), [(.box [(.s p0.Text), (.i p0.At), (.i p0.E)]), (.box [(.s ([] : List UInt8)), (.i 0), (.i 0)])], 0⟩ <| Bk ?_
   refine AWP.loopI (α := Nat × Int × Int)
     (fun (fu_2, y5_2, y6_2) => (⟨tp 1 (.loc 0 0::.loc 1 0::tp 1 (.s r8_0::.u y5_2::.i y6_2::tp 28 [])), [(.box [(.s p0.Text), (.i p0.At), (.i p0.E)]), (.box [(.s ([] : List UInt8)), (.i 0), (.i 0)])], 0⟩ : St))
     (fun (fu_2, y5_2, y6_2) => m_telltaleref01_RWord_l2 p0 r8_0 fu_2 y5_2 y6_2 = some r)
     (fun (fu_2, y5_2, y6_2) => fu_2) (1152921504606846976, 0, 0)
     (Weak.toK 118 0 0 [0, 1]) hm ?_
   rintro ⟨fu_2, y5_2, y6_2⟩ n_2 hm ih_2
   try dsimp only at hm ih_2 ⊢
   cases fu_2 with
   | zero => exact absurd hm (by unfold m_telltaleref01_RWord_l2; simp)
   | succ fu_2 =>
    unfold m_telltaleref01_RWord_l2 at hm
    refine Sq <| Sx <| Wm (.i y6_2) rfl <| Wz (.b (decide (y6_2 < 8))) (Obn rfl (fun _ => hb_lss (k := .i64))) <| Nk 524406 3 ⟨tp 1 (.loc 0 0::.loc 1 0::tp 1 (.s r8_0::.u y5_2::.i y6_2::tp 12 (.b (decide (y6_2 < 8))::tp 15 []))), [(.box [(.s p0.Text), (.i p0.At), (.i p0.E)]), (.box [(.s ([] : List UInt8)), (.i 0), (.i 0)])], 0⟩ ?_
    rcases tf_ (decide (y6_2 < 8)) with hc19_6 | hc19_6
    ·
     replace hm := cT hc19_6 hm
     refine AiT hc19_6 <| Sk <| Tk 118 3 ⟨tp 1 (.loc 0 0::.loc 1 0::tp 1 (.s r8_0::.u y5_2::.i y6_2::tp 28 [])), [(.box [(.s p0.Text), (.i p0.At), (.i p0.E)]), (.box [(.s ([] : List UInt8)), (.i 0), (.i 0)])], 0⟩ <| Sq <| Bk <| Tx <| Wm (.u y5_2) rfl <| Wz (.u (W7 (y5_2 * 256))) (Obn rfl (fun _ => hb_mul (k := .u64))) <| Wm (.s r8_0) rfl <| Wm (.i y6_2) rfl ?_
     obtain ⟨x26_3, hx26_3, hm⟩ := bnd hm
     obtain ⟨hx26_3i, hx26_3g⟩ := geti_some hx26_3
     refine Wz (.y x26_3) (Ocs (by kernel_rfl) (op_index_str rfl (by kernel_rfl) (s := toS r8_0) (by kernel_rfl) (k := .i64) (iv := y6_2) (by kernel_rfl) (i := (Int.toNat y6_2)) (hx26_3i) (b := x26_3) (hx26_3g))) <| Wz (.u ((x26_3.toNat : Nat) : Int)) (Ocs (lit_int (wrap_of_u8 (by decide) _)) (op_convert rfl (a1 := .int .u8 ((x26_3.toNat : Nat) : Int)) (by kernel_rfl) (run_conv (ds := .int .u8) (k' := .u64) (by kernel_rfl) (by kernel_rfl)))) <| Wz (.u (W7 ((W7 (y5_2 * 256)) + ((x26_3.toNat : Nat) : Int)))) (Obn rfl (fun _ => hb_add (k := .u64))) <| Wm (.u (W7 ((W7 (y5_2 * 256)) + ((x26_3.toNat : Nat) : Int)))) rfl <| Wn0 <| Ino <| Tk 118 3 ⟨tp 1 (.loc 0 0::.loc 1 0::tp 1 (.s r8_0::.u (W7 ((W7 (y5_2 * 256)) + ((x26_3.toNat : Nat) : Int)))::.i y6_2::tp 28 [])), [(.box [(.s p0.Text), (.i p0.At), (.i p0.E)]), (.box [(.s ([] : List UInt8)), (.i 0), (.i 0)])], 0⟩ <| Tx <| Wm (.i y6_2) rfl <| Wz (.i (W6 (y6_2 + 1))) (Obn rfl (fun _ => hb_add (k := .i64))) <| Wm (.i (W6 (y6_2 + 1))) rfl <| Wn0 <| RoundK.normal ?_
     exact Rounds.weak (Weak.toK 118 0 0 [0, 1]) (ih_2 (fu_2, (W7 ((W7 (y5_2 * 256)) + ((x26_3.toNat : Nat) : Int))), (W6 (y6_2 + 1))) hm (Nat.lt_succ_self _))
    ·
     replace hm := cF hc19_6 hm
     refine AiF hc19_6 <| AWP.exit <| Then.exit <| RoundK.exit <| InBlock.same <| Tk 38 3 ⟨tp 1 (.loc 0 0::.loc 1 0::tp 2 (.u y5_2::tp 29 [])), [(.box [(.s p0.Text), (.i p0.At), (.i p0.E)]), (.box [(.s ([] : List UInt8)), (.i 0), (.i 0)])], 0⟩ <| Sx <| Wz (.loc 0 1) (Ofa rfl) <| Wz (.i p0.At) (Old rfl) <| Wz (.i (W6 (p0.At + 8))) (Obn rfl (fun _ => hb_add (k := .i64))) <| Wz (.loc 0 1) (Ofa rfl) <| Wy (.tup []) [(0, (.box [(.s p0.Text), (.i (W6 (p0.At + 8))), (.i p0.E)]))] (Ost rfl) <| Nk 38 3 ⟨tp 1 (.loc 0 0::.loc 1 0::tp 2 (.u y5_2::tp 29 [])), [(.box [(.s p0.Text), (.i (W6 (p0.At + 8))), (.i p0.E)]), (.box [(.s ([] : List UInt8)), (.i 0), (.i 0)])], 0⟩ <| Sx ?_
     refine Wz (.agg [(.s p0.Text), (.i (W6 (p0.At + 8))), (.i p0.E)]) (Old rfl) <| Wm (.u y5_2) rfl <| Wy (.tup []) [(1, (.box [(.s p0.Text), (.i (W6 (p0.At + 8))), (.i p0.E)]))] (Ost rfl) <| Wm (.u y5_2) rfl <| Nn <| Rt ?_
     obtain rfl := Option.some.inj hm
     exact ret_i []

theorem ok_telltaleref02_Back (p0 : Int) (r : Int) (h : m_telltaleref02_Back p0 = some r) : GCall Try.prog 77 [(.u p0)] [] (.i r) [] := by
 refine GCall.of_body (n := 14) (rs := [(.tmp 2)]) Try.func77 rfl rfl rfl <| Ato ⟨.u p0::tu 13 [], [], 0⟩ ?_
 have hm := h
 unfold m_telltaleref02_Back at hm
 refine Sx <| Wm (.i 0) rfl <| Nk 1 0 ⟨.u p0::tp 13 [], [], 0⟩ <| Sq <| Sx <| Wm (.u p0) rfl <| Wz (.u (Int.tmod p0 2)) (Ob2 (.int .u64 p0) (.int .u64 2) rfl (fun _ => hb_rem (by decide))) <| Wz (.b (decide ((Int.tmod p0 2) = 1))) (Obn rfl (fun _ => hb_eql (k := .u64))) <| Nk 33 0 ⟨.u p0::tp 4 (.b (decide ((Int.tmod p0 2) = 1))::tp 8 []), [], 0⟩ ?_
 rcases tf_ (decide ((Int.tmod p0 2) = 1)) with hc5_2 | hc5_2
 ·
  replace hm := cT hc5_2 hm
  refine AiT hc5_2 <| Sx <| Wm (.u p0) rfl <| Wz (.u (W7 (Int.tdiv p0 2))) (Ob2 (.int .u64 p0) (.int .u64 2) rfl (fun _ => hb_quo (by decide))) <| Wz (.i (W6 (W7 (Int.tdiv p0 2)))) (Oc2 (.int .u64 (W7 (Int.tdiv p0 2))) rfl (run_conv (ds := .int .u64) (k' := .i64) (by kernel_rfl) (by kernel_rfl))) <| Wz (.i (W6 (0 - (W6 (W7 (Int.tdiv p0 2)))))) (Ocs (by kernel_rfl) (op_un rfl (a1 := .int .i64 (W6 (W7 (Int.tdiv p0 2)))) (by kernel_rfl) (fun _ => hu_neg))) <| Wz (.i (W6 ((W6 (0 - (W6 (W7 (Int.tdiv p0 2))))) - 1))) (Obn rfl (fun _ => hb_sub (k := .i64))) <| Wm (.i (W6 ((W6 (0 - (W6 (W7 (Int.tdiv p0 2))))) - 1))) rfl <| Nn <| Rt <| Tr ?_
  obtain rfl := Option.some.inj hm
  exact ret_i []
 ·
  replace hm := cF hc5_2 hm
  refine AiF hc5_2 <| Sk <| Tk 1 0 ⟨.u p0::tp 13 [], [], 0⟩ <| Sx <| Wm (.u p0) rfl <| Wz (.u (W7 (Int.tdiv p0 2))) (Ob2 (.int .u64 p0) (.int .u64 2) rfl (fun _ => hb_quo (by decide))) <| Wz (.i (W6 (W7 (Int.tdiv p0 2)))) (Oc2 (.int .u64 (W7 (Int.tdiv p0 2))) rfl (run_conv (ds := .int .u64) (k' := .i64) (by kernel_rfl) (by kernel_rfl))) <| Wm (.i (W6 (W7 (Int.tdiv p0 2)))) rfl <| Nn <| Rt ?_
  obtain rfl := Option.some.inj hm
  exact ret_i []

theorem ok_telltaleref04_Take (p0 : (List UInt8)) (p1 : Int) (r : (GValue × Int × Int)) (h : m_telltaleref04_Take p0 p1 = some r) : GCall Try.prog 56 [(.s p0), (.i p1)] [] (.tup [(.agg [(.y r.1.Kind), (.i r.1.N), (.u r.1.Bits), (.s r.1.Text)]), (.i r.2.1), (.i r.2.2)]) [] := by
 refine GCall.of_body (n := 127) (rs := [(.cell 4 47), (.tmp 5), (.tmp 6)]) Try.func56 rfl rfl rfl <| Ato ⟨.s p0::.i p1::tu 125 [], [], 0⟩ ?_
 have hm := h
 unfold m_telltaleref04_Take at hm
 refine Sx <| Wy (.loc 0 0) [(0, (.box [(.y 0), (.i 0), (.u 0), (.s ([] : List UInt8))]))] (Oal rfl) <| Wm (.i 0) rfl <| Wm (.i 0) rfl <| Nk 19 1 ⟨.s p0::.i p1::tp 2 (.loc 0 0::tp 122 []), [(.box [(.y 0), (.i 0), (.u 0), (.s ([] : List UInt8))])], 0⟩ <| Sq <| Sx <| Wm (.i p1) rfl <| Wz (.b (decide (p1 < 0))) (Obn rfl (fun _ => hb_lss (k := .i64))) ?_
 rcases tf_ (decide (p1 < 0)) with hq17_0 | hq17_0
 ·
  replace hm := cT hq17_0 hm
  refine Wz (.b true) (Oq hq17_0 rfl) <| Wn <| Wn <| Wn <| Wn <| Wz (.b true) (OpT rfl) <| Nk 4194323 1 ⟨.s p0::.i p1::tp 2 (.loc 0 0::tp 17 (.b true::tp 104 [])), [(.box [(.y 0), (.i 0), (.u 0), (.s ([] : List UInt8))])], 0⟩ <| AWP.if_ true (by kernel_rfl) <| Sx <| Wz (.agg [(.y 0), (.i 0), (.u 0), (.s ([] : List UInt8))]) (Obd rfl) <| Wy (.tup []) [(0, (.box [(.y 0), (.i 0), (.u 0), (.s ([] : List UInt8))]))] (Ost rfl) <| Wm (.i 0) rfl <| Wm (.i 2) rfl <| Nn ?_
  refine Rt <| Tr ?_
  obtain rfl := Option.some.inj hm
  exact ret_i []
 ·
  replace hm := cF hq17_0 hm
  refine Wz (.b false) (Oq hq17_0 rfl) <| Wm (.i p1) rfl <| Wm (.s p0) rfl <| Wz (.i ((List.length p0 : Nat) : Int)) (Oln rfl) <| Wz (.b (decide (((List.length p0 : Nat) : Int) < p1))) (Obn rfl (fun _ => hb_gtr (k := .i64))) <| Wz (.b (decide (((List.length p0 : Nat) : Int) < p1))) (OpF rfl) <| Nk 4194323 1 ⟨.s p0::.i p1::tp 2 (.loc 0 0::tp 17 (.b (decide (((List.length p0 : Nat) : Int) < p1))::tp 104 [])), [(.box [(.y 0), (.i 0), (.u 0), (.s ([] : List UInt8))])], 0⟩ ?_
  rcases tf_ (decide (((List.length p0 : Nat) : Int) < p1)) with hc22_14 | hc22_14
  ·
   replace hm := cT hc22_14 hm
   refine AiT hc22_14 <| Sx <| Wz (.agg [(.y 0), (.i 0), (.u 0), (.s ([] : List UInt8))]) (Obd rfl) <| Wy (.tup []) [(0, (.box [(.y 0), (.i 0), (.u 0), (.s ([] : List UInt8))]))] (Ost rfl) <| Wm (.i 0) rfl <| Wm (.i 2) rfl <| Nn <| Rt <| Tr ?_
   obtain rfl := Option.some.inj hm
   exact ret_i []
  ·
   replace hm := cF hc22_14 hm
   refine AiF hc22_14 <| Sk <| Tk 19 1 ⟨.s p0::.i p1::tp 2 (.loc 0 0::tp 122 []), [(.box [(.y 0), (.i 0), (.u 0), (.s ([] : List UInt8))])], 0⟩ <| Sq <| Sx <| Wm (.i p1) rfl <| Wm (.s p0) rfl <| Wz (.i ((List.length p0 : Nat) : Int)) (Oln rfl) <| Wz (.b (decide (p1 = ((List.length p0 : Nat) : Int)))) (Obn rfl (fun _ => hb_eql (k := .i64))) <| Nk 134217747 1 ⟨.s p0::.i p1::tp 2 (.loc 0 0::tp 22 (.b (decide (p1 = ((List.length p0 : Nat) : Int)))::tp 99 [])), [(.box [(.y 0), (.i 0), (.u 0), (.s ([] : List UInt8))])], 0⟩ ?_
   rcases tf_ (decide (p1 = ((List.length p0 : Nat) : Int))) with hc27_15 | hc27_15
   ·
    replace hm := cT hc27_15 hm
    refine AiT hc27_15 <| Sx <| Wz (.agg [(.y 0), (.i 0), (.u 0), (.s ([] : List UInt8))]) (Obd rfl) <| Wy (.tup []) [(0, (.box [(.y 0), (.i 0), (.u 0), (.s ([] : List UInt8))]))] (Ost rfl) <| Wm (.i 0) rfl <| Wm (.i 3) rfl <| Nn <| Rt <| Tr ?_
    obtain rfl := Option.some.inj hm
    exact ret_i []
   ·
    replace hm := cF hc27_15 hm
    refine AiF hc27_15 <| Sk <| Tk 19 1 ⟨.s p0::.i p1::tp 2 (.loc 0 0::tp 122 []), [(.box [(.y 0), (.i 0), (.u 0), (.s ([] : List UInt8))])], 0⟩ <| Sx <| Wm (.s p0) rfl <| Wm (.i p1) rfl ?_
    obtain ⟨x31_2, hx31_2, hm⟩ := bnd hm
    obtain ⟨hx31_2i, hx31_2g⟩ := geti_some hx31_2
    refine Wz (.y x31_2) (Ocs (by kernel_rfl) (op_index_str rfl (by kernel_rfl) (s := toS p0) (by kernel_rfl) (k := .i64) (iv := p1) (by kernel_rfl) (i := (Int.toNat p1)) (hx31_2i) (b := x31_2) (hx31_2g))) <| Wz (.agg [(.y x31_2), (.i 0), (.u 0), (.s ([] : List UInt8))]) (Obd rfl) <| Wy (.loc 1 0) [(1, (.box [(.y 0), (.i 0), (.u 0), (.s ([] : List UInt8))]))] (Oal rfl) <| Wy (.tup []) [(1, (.box [(.y x31_2), (.i 0), (.u 0), (.s ([] : List UInt8))]))] (Ost rfl) <| Nk 147 3 ⟨.s p0::.i p1::tp 2 (.loc 0 0::tp 2 (.loc 1 0::tp 119 [])), [(.box [(.y 0), (.i 0), (.u 0), (.s ([] : List UInt8))]), (.box [(.y x31_2), (.i 0), (.u 0), (.s ([] : List UInt8))])], 0⟩ <| Sq <| Sx <| Wz (.loc 1 0) (Ofa rfl) <| Wz (.y x31_2) (Old rfl) <| Wz (.b (decide (((x31_2.toNat : Nat) : Int) < 1))) (Ob2 (.int .u8 ((x31_2.toNat : Nat) : Int)) (.int .u8 1) rfl (fun _ => hb_lss)) ?_
    rcases tf_ (decide (((x31_2.toNat : Nat) : Int) < 1)) with hq36_3 | hq36_3
    ·
     replace hm := cT hq36_3 hm
     refine Wz (.b true) (Oq hq36_3 rfl) <| Wn <| Wn <| Wn <| Wz (.b true) (OpT rfl) <| Nk 1099511627923 3 ⟨.s p0::.i p1::tp 2 (.loc 0 0::tp 2 (.loc 1 0::tp 32 (.b true::tp 86 []))), [(.box [(.y 0), (.i 0), (.u 0), (.s ([] : List UInt8))]), (.box [(.y x31_2), (.i 0), (.u 0), (.s ([] : List UInt8))])], 0⟩ <| AWP.if_ true (by kernel_rfl) <| Sx <| Wz (.agg [(.y 0), (.i 0), (.u 0), (.s ([] : List UInt8))]) (Obd rfl) <| Wy (.tup []) [(0, (.box [(.y 0), (.i 0), (.u 0), (.s ([] : List UInt8))]))] (Ost rfl) <| Wm (.i 0) rfl <| Wm (.i 11) rfl <| Nn <| Rt ?_
     refine Tr ?_
     obtain rfl := Option.some.inj hm
     exact ret_i []
    ·
     replace hm := cF hq36_3 hm
     refine Wz (.b false) (Oq hq36_3 rfl) <| Wz (.loc 1 0) (Ofa rfl) <| Wz (.y x31_2) (Old rfl) <| Wz (.b (decide ((4 : Int) < ((x31_2.toNat : Nat) : Int)))) (Ob2 (.int .u8 ((x31_2.toNat : Nat) : Int)) (.int .u8 4) rfl (fun _ => hb_gtr)) <| Wz (.b (decide ((4 : Int) < ((x31_2.toNat : Nat) : Int)))) (OpF rfl) <| Nk 1099511627923 3 ⟨.s p0::.i p1::tp 2 (.loc 0 0::tp 2 (.loc 1 0::tp 32 (.b (decide ((4 : Int) < ((x31_2.toNat : Nat) : Int)))::tp 86 []))), [(.box [(.y 0), (.i 0), (.u 0), (.s ([] : List UInt8))]), (.box [(.y x31_2), (.i 0), (.u 0), (.s ([] : List UInt8))])], 0⟩ ?_
     rcases tf_ (decide ((4 : Int) < ((x31_2.toNat : Nat) : Int))) with hc40_16 | hc40_16
     ·
      replace hm := cT hc40_16 hm
      refine AiT hc40_16 <| Sx <| Wz (.agg [(.y 0), (.i 0), (.u 0), (.s ([] : List UInt8))]) (Obd rfl) <| Wy (.tup []) [(0, (.box [(.y 0), (.i 0), (.u 0), (.s ([] : List UInt8))]))] (Ost rfl) <| Wm (.i 0) rfl <| Wm (.i 11) rfl <| Nn <| Rt <| Tr ?_
      obtain rfl := Option.some.inj hm
      exact ret_i []
     ·
      replace hm := cF hc40_16 hm
      refine AiF hc40_16 <| Sk <| Tk 147 3 ⟨.s p0::.i p1::tp 2 (.loc 0 0::tp 2 (.loc 1 0::tp 119 [])), [(.box [(.y 0), (.i 0), (.u 0), (.s ([] : List UInt8))]), (.box [(.y x31_2), (.i 0), (.u 0), (.s ([] : List UInt8))])], 0⟩ <| Sx <| Wm (.i p1) rfl <| Wz (.i (W6 (p1 + 1))) (Obn rfl (fun _ => hb_add (k := .i64))) <| Wm (.i (W6 (p1 + 1))) rfl <| Nk 401 3 ⟨.s p0::tp 3 (.loc 0 0::tp 2 (.loc 1 0::.i (W6 (p1 + 1))::tp 118 [])), [(.box [(.y 0), (.i 0), (.u 0), (.s ([] : List UInt8))]), (.box [(.y x31_2), (.i 0), (.u 0), (.s ([] : List UInt8))])], 0⟩ ?_
      refine AWP.cutJ (α := GValue × Int) (fun (y7_d_12, y8_12) => (⟨tp 4 (.loc 0 0::tp 2 (.loc 1 0::.i y8_12::tp 118 [])), [(.box [(.y 0), (.i 0), (.u 0), (.s ([] : List UInt8))]), (.box [(.y y7_d_12.Kind), (.i y7_d_12.N), (.u y7_d_12.Bits), (.s y7_d_12.Text)])], 0⟩ : St)) (fun (y7_d_12, y8_12) => m_telltaleref04_Take_j12  y7_d_12 y8_12 = some r) ?_ (fun J12 => ?_)
      ·
       rintro ⟨y7_d_12, y8_12⟩ hm
       try dsimp only at hm ⊢
       unfold m_telltaleref04_Take_j12 at hm
       refine Sq <| Sx <| Wz (.agg [(.y y7_d_12.Kind), (.i y7_d_12.N), (.u y7_d_12.Bits), (.s y7_d_12.Text)]) (Old rfl) ?_
       obtain ⟨r120_13, hr120_13, hm⟩ := bnd hm
       refine Wz (.i r120_13) (Ocf [] [] [] 0 (ok_telltaleref04_Check y7_d_12 r120_13 hr120_13) (fun a w => Try.call67 a w) rfl trivial) <| Wm (.i r120_13) rfl <| Nk 16784 3 ⟨tp 4 (.loc 0 0::tp 2 (.loc 1 0::.i y8_12::tp 5 (.i r120_13::tp 112 []))), [(.box [(.y 0), (.i 0), (.u 0), (.s ([] : List UInt8))]), (.box [(.y y7_d_12.Kind), (.i y7_d_12.N), (.u y7_d_12.Bits), (.s y7_d_12.Text)])], 0⟩ <| Sx <| Wm (.i r120_13) rfl <| Wz (.b (decide (r120_13 ≠ 0))) (Obn rfl (fun _ => hb_neq (k := .i64))) <| Nk 5316911983139663491615228241121395088 3 ⟨tp 4 (.loc 0 0::tp 2 (.loc 1 0::.i y8_12::tp 5 (.i r120_13::tp 107 (.b (decide (r120_13 ≠ 0))::tp 4 [])))), [(.box [(.y 0), (.i 0), (.u 0), (.s ([] : List UInt8))]), (.box [(.y y7_d_12.Kind), (.i y7_d_12.N), (.u y7_d_12.Bits), (.s y7_d_12.Text)])], 0⟩ ?_
       rcases tf_ (decide (r120_13 ≠ 0)) with hc122_17 | hc122_17
       ·
        replace hm := cT hc122_17 hm
        refine AiT hc122_17 <| Sx <| Wz (.agg [(.y 0), (.i 0), (.u 0), (.s ([] : List UInt8))]) (Obd rfl) <| Wm (.i r120_13) rfl <| Wy (.tup []) [(0, (.box [(.y 0), (.i 0), (.u 0), (.s ([] : List UInt8))]))] (Ost rfl) <| Wm (.i 0) rfl <| Wm (.i r120_13) rfl <| Nn <| Rt <| Tr ?_
        obtain rfl := Option.some.inj hm
        exact ret_i []
       ·
        replace hm := cF hc122_17 hm
        refine AiF hc122_17 <| Sk <| Tk 400 3 ⟨tp 4 (.loc 0 0::tp 2 (.loc 1 0::.i y8_12::tp 118 [])), [(.box [(.y 0), (.i 0), (.u 0), (.s ([] : List UInt8))]), (.box [(.y y7_d_12.Kind), (.i y7_d_12.N), (.u y7_d_12.Bits), (.s y7_d_12.Text)])], 0⟩ <| Sx <| Wz (.agg [(.y y7_d_12.Kind), (.i y7_d_12.N), (.u y7_d_12.Bits), (.s y7_d_12.Text)]) (Old rfl) <| Wm (.i y8_12) rfl <| Wy (.tup []) [(0, (.box [(.y y7_d_12.Kind), (.i y7_d_12.N), (.u y7_d_12.Bits), (.s y7_d_12.Text)]))] (Ost rfl) <| Wm (.i y8_12) rfl <| Wm (.i 0) rfl <| Nn <| Rt ?_
        obtain rfl := Option.some.inj hm
        exact ret_i []
      refine Sq <| Sx <| Wz (.loc 1 0) (Ofa rfl) <| Wz (.y x31_2) (Old rfl) <| Wz (.b (decide (((x31_2.toNat : Nat) : Int) = 2))) (Ob2 (.int .u8 ((x31_2.toNat : Nat) : Int)) (.int .u8 2) rfl (fun _ => hb_eql)) <| Nk 70368744178065 3 ⟨.s p0::tp 3 (.loc 0 0::tp 2 (.loc 1 0::.i (W6 (p1 + 1))::tp 37 (.b (decide (((x31_2.toNat : Nat) : Int) = 2))::tp 80 []))), [(.box [(.y 0), (.i 0), (.u 0), (.s ([] : List UInt8))]), (.box [(.y x31_2), (.i 0), (.u 0), (.s ([] : List UInt8))])], 0⟩ ?_
      rcases tf_ (decide (((x31_2.toNat : Nat) : Int) = 2)) with hc46_18 | hc46_18
      ·
       replace hm := cT hc46_18 hm
       refine AiT hc46_18 <| Sq <| Sx <| Wm (.i (W6 (p1 + 1))) rfl <| Wm (.s p0) rfl <| Wz (.i ((List.length p0 : Nat) : Int)) (Oln rfl) <| Wz (.b (decide ((W6 (p1 + 1)) = ((List.length p0 : Nat) : Int)))) (Obn rfl (fun _ => hb_eql (k := .i64))) <| Nk 1125899906843025 3 ⟨.s p0::tp 3 (.loc 0 0::tp 2 (.loc 1 0::.i (W6 (p1 + 1))::tp 41 (.b (decide ((W6 (p1 + 1)) = ((List.length p0 : Nat) : Int)))::tp 76 []))), [(.box [(.y 0), (.i 0), (.u 0), (.s ([] : List UInt8))]), (.box [(.y x31_2), (.i 0), (.u 0), (.s ([] : List UInt8))])], 0⟩ ?_
       rcases tf_ (decide ((W6 (p1 + 1)) = ((List.length p0 : Nat) : Int))) with hc50_19 | hc50_19
       ·
        replace hm := cT hc50_19 hm
        refine AiT hc50_19 <| Sx <| Wz (.agg [(.y 0), (.i 0), (.u 0), (.s ([] : List UInt8))]) (Obd rfl) <| Wy (.tup []) [(0, (.box [(.y 0), (.i 0), (.u 0), (.s ([] : List UInt8))]))] (Ost rfl) <| Wm (.i 0) rfl <| Wm (.i 3) rfl <| Nn <| Rt <| Tr <| Tr ?_
        obtain rfl := Option.some.inj hm
        exact ret_i []
       ·
        replace hm := cF hc50_19 hm
        refine AiF hc50_19 <| Sk <| Tk 401 3 ⟨.s p0::tp 3 (.loc 0 0::tp 2 (.loc 1 0::.i (W6 (p1 + 1))::tp 118 [])), [(.box [(.y 0), (.i 0), (.u 0), (.s ([] : List UInt8))]), (.box [(.y x31_2), (.i 0), (.u 0), (.s ([] : List UInt8))])], 0⟩ <| Sx <| Wm (.s p0) rfl <| Wm (.i (W6 (p1 + 1))) rfl ?_
        obtain ⟨x54_5, hx54_5, hm⟩ := bnd hm
        obtain ⟨hx54_5i, hx54_5g⟩ := geti_some hx54_5
        refine Wz (.y x54_5) (Ocs (by kernel_rfl) (op_index_str rfl (by kernel_rfl) (s := toS p0) (by kernel_rfl) (k := .i64) (iv := (W6 (p1 + 1))) (by kernel_rfl) (i := (Int.toNat (W6 (p1 + 1)))) (hx54_5i) (b := x54_5) (hx54_5g))) <| Wz (.i ((x54_5.toNat : Nat) : Int)) (Ocs (lit_int (wrap_of_u8 (by decide) _)) (op_convert rfl (a1 := .int .u8 ((x54_5.toNat : Nat) : Int)) (by kernel_rfl) (run_conv (ds := .int .u8) (k' := .i64) (by kernel_rfl) (by kernel_rfl)))) <| Wz (.loc 1 1) (Ofa rfl) <| Wy (.tup []) [(1, (.box [(.y x31_2), (.i ((x54_5.toNat : Nat) : Int)), (.u 0), (.s ([] : List UInt8))]))] (Ost rfl) <| Nk 400 3 ⟨tp 4 (.loc 0 0::tp 2 (.loc 1 0::.i (W6 (p1 + 1))::tp 118 [])), [(.box [(.y 0), (.i 0), (.u 0), (.s ([] : List UInt8))]), (.box [(.y x31_2), (.i ((x54_5.toNat : Nat) : Int)), (.u 0), (.s ([] : List UInt8))])], 0⟩ <| Tx <| Wm (.i (W6 (p1 + 1))) rfl <| Wz (.i (W6 ((W6 (p1 + 1)) + 1))) (Obn rfl (fun _ => hb_add (k := .i64))) <| Wm (.i (W6 ((W6 (p1 + 1)) + 1))) rfl <| Nn ?_
        exact AWP.weak (Weak.toK 400 0 0 [0, 1]) (J12 ((GValue.mk x31_2 ((x54_5.toNat : Nat) : Int) 0 ([] : List UInt8)), (W6 ((W6 (p1 + 1)) + 1))) hm)
      ·
       replace hm := cF hc46_18 hm
       refine AiF hc46_18 <| Sx <| Wz (.loc 1 0) (Ofa rfl) <| Wz (.y x31_2) (Old rfl) <| Wz (.b (decide (((x31_2.toNat : Nat) : Int) = 3))) (Ob2 (.int .u8 ((x31_2.toNat : Nat) : Int)) (.int .u8 3) rfl (fun _ => hb_eql)) <| Nk 2305843009213694353 3 ⟨.s p0::tp 3 (.loc 0 0::tp 2 (.loc 1 0::.i (W6 (p1 + 1))::tp 52 (.b (decide (((x31_2.toNat : Nat) : Int) = 3))::tp 65 []))), [(.box [(.y 0), (.i 0), (.u 0), (.s ([] : List UInt8))]), (.box [(.y x31_2), (.i 0), (.u 0), (.s ([] : List UInt8))])], 0⟩ ?_
       rcases tf_ (decide (((x31_2.toNat : Nat) : Int) = 3)) with hc61_20 | hc61_20
       ·
        replace hm := cT hc61_20 hm
        refine AiT hc61_20 <| Sx <| Wm (.s p0) rfl <| Wm (.i (W6 (p1 + 1))) rfl ?_
        obtain ⟨s65_6, hs65_6, hm⟩ := bnd hm; obtain ⟨hs65_6a, hs65_6b, hs65_6c, hs65_6d, hs65_6e⟩ := cut_some hs65_6
        refine Wz (.s s65_6) (Ocs (lit_str (toS_cut hs65_6e)) (op_slice_str rfl (by kernel_rfl) (s := toS p0) (by kernel_rfl) (l := (Int.toNat (W6 (p1 + 1)))) (h := (Int.toNat ((List.length p0 : Nat) : Int))) (⟨.i64, (W6 (p1 + 1)), by kernel_rfl, hs65_6a⟩) (by exact rfl) hs65_6c hs65_6d)) ?_
        obtain ⟨r66_6, hr66_6, hm⟩ := bnd hm
        refine Wz (.agg [(.s r66_6.Text), (.i r66_6.At), (.i r66_6.E)]) (Ocf [] [] [] 0 (ok_telltaleref01_Open s65_6 r66_6 hr66_6) (fun a w => Try.call76 a w) rfl trivial) ?_
        obtain ⟨r67_6, hr67_6, hm⟩ := bnd hm
        refine Wz (.tup [(.agg [(.s r67_6.1.Text), (.i r67_6.1.At), (.i r67_6.1.E)]), (.u r67_6.2)]) (Ocf [] [] [] 0 (ok_telltaleref01_RWord r66_6 r67_6 hr67_6) (fun a w => Try.call75 a w) rfl trivial) <| Wm (.tup [(.agg [(.s r67_6.1.Text), (.i r67_6.1.At), (.i r67_6.1.E)]), (.u r67_6.2)]) rfl <| Wz (.agg [(.s r67_6.1.Text), (.i r67_6.1.At), (.i r67_6.1.E)]) (Oex rfl) <| Wz (.u r67_6.2) (Oex rfl) <| Wy (.loc 2 0) [(2, (.box [(.s ([] : List UInt8)), (.i 0), (.i 0)]))] (Oal rfl) <| Wy (.tup []) [(2, (.box [(.s r67_6.1.Text), (.i r67_6.1.At), (.i r67_6.1.E)]))] (Ost rfl) <| Wm (.u r67_6.2) rfl <| Nk 1936 7 ⟨tp 4 (.loc 0 0::tp 2 (.loc 1 0::.i (W6 (p1 + 1))::.loc 2 0::.u r67_6.2::tp 116 [])), [(.box [(.y 0), (.i 0), (.u 0), (.s ([] : List UInt8))]), (.box [(.y x31_2), (.i 0), (.u 0), (.s ([] : List UInt8))]), (.box [(.s r67_6.1.Text), (.i r67_6.1.At), (.i r67_6.1.E)])], 0⟩ <| Sq <| Sx <| Wz (.loc 2 2) (Ofa rfl) <| Wz (.i r67_6.1.E) (Old rfl) <| Wz (.b (decide (r67_6.1.E ≠ 0))) (Obn rfl (fun _ => hb_neq (k := .i64))) <| Nk 4722366482869645215120 3 ⟨tp 4 (.loc 0 0::tp 2 (.loc 1 0::.i (W6 (p1 + 1))::tp 1 (.u r67_6.2::tp 61 (.b (decide (r67_6.1.E ≠ 0))::tp 54 [])))), [(.box [(.y 0), (.i 0), (.u 0), (.s ([] : List UInt8))]), (.box [(.y x31_2), (.i 0), (.u 0), (.s ([] : List UInt8))]), .gone], 0⟩ ?_
        rcases tf_ (decide (r67_6.1.E ≠ 0)) with hc72_21 | hc72_21
        ·
         replace hm := cT hc72_21 hm
         refine AiT hc72_21 <| Sx <| Wz (.agg [(.y 0), (.i 0), (.u 0), (.s ([] : List UInt8))]) (Obd rfl) <| Wy (.tup []) [(0, (.box [(.y 0), (.i 0), (.u 0), (.s ([] : List UInt8))]))] (Ost rfl) <| Wm (.i 0) rfl <| Wm (.i 3) rfl <| Nn <| Rt <| Tr <| Tr ?_
         obtain rfl := Option.some.inj hm
         exact ret_i []
        ·
         replace hm := cF hc72_21 hm
         refine AiF hc72_21 <| Sk <| Tk 1424 3 ⟨tp 4 (.loc 0 0::tp 2 (.loc 1 0::.i (W6 (p1 + 1))::tp 1 (.u r67_6.2::tp 116 []))), [(.box [(.y 0), (.i 0), (.u 0), (.s ([] : List UInt8))]), (.box [(.y x31_2), (.i 0), (.u 0), (.s ([] : List UInt8))]), .gone], 0⟩ <| Sx <| Wm (.u r67_6.2) rfl <| Wz (.loc 1 2) (Ofa rfl) <| Wy (.tup []) [(1, (.box [(.y x31_2), (.i 0), (.u r67_6.2), (.s ([] : List UInt8))]))] (Ost rfl) <| Nk 400 3 ⟨tp 4 (.loc 0 0::tp 2 (.loc 1 0::.i (W6 (p1 + 1))::tp 118 [])), [(.box [(.y 0), (.i 0), (.u 0), (.s ([] : List UInt8))]), (.box [(.y x31_2), (.i 0), (.u r67_6.2), (.s ([] : List UInt8))]), .gone], 0⟩ <| Tx <| Wm (.i (W6 (p1 + 1))) rfl <| Wz (.i (W6 ((W6 (p1 + 1)) + 8))) (Obn rfl (fun _ => hb_add (k := .i64))) <| Wm (.i (W6 ((W6 (p1 + 1)) + 8))) rfl <| Nn ?_
         exact AWP.weak (Weak.toK 400 0 0 [0, 1]) (J12 ((GValue.mk x31_2 0 r67_6.2 ([] : List UInt8)), (W6 ((W6 (p1 + 1)) + 8))) hm)
       ·
        replace hm := cF hc61_20 hm
        refine AiF hc61_20 <| Sx <| Wm (.s p0) rfl <| Wm (.i (W6 (p1 + 1))) rfl ?_
        obtain ⟨r81_7, hr81_7, hm⟩ := bnd hm
        refine Wz (.tup [(.u r81_7.1), (.i r81_7.2.1), (.i r81_7.2.2)]) (Ocf [] [] [] 0 (ok_telltaleref02_Take p0 (W6 (p1 + 1)) r81_7 hr81_7) (fun a w => Try.call55 a w) rfl trivial) <| Wm (.tup [(.u r81_7.1), (.i r81_7.2.1), (.i r81_7.2.2)]) rfl <| Wz (.u r81_7.1) (Oex rfl) <| Wz (.i r81_7.2.1) (Oex rfl) <| Wz (.i r81_7.2.2) (Oex rfl) <| Wm (.u r81_7.1) rfl <| Wm (.i r81_7.2.1) rfl <| Wm (.i r81_7.2.2) rfl <| Nk 14481 3 ⟨.s p0::tp 3 (.loc 0 0::tp 2 (.loc 1 0::tp 3 (.u r81_7.1::.i r81_7.2.1::.i r81_7.2.2::tp 113 []))), [(.box [(.y 0), (.i 0), (.u 0), (.s ([] : List UInt8))]), (.box [(.y x31_2), (.i 0), (.u 0), (.s ([] : List UInt8))])], 0⟩ <| Sq <| Sx <| Wm (.i r81_7.2.2) rfl <| Wz (.b (decide (r81_7.2.2 ≠ 0))) (Obn rfl (fun _ => hb_neq (k := .i64))) <| Nk 77371252455336267181209745 3 ⟨.s p0::tp 3 (.loc 0 0::tp 2 (.loc 1 0::tp 3 (.u r81_7.1::.i r81_7.2.1::.i r81_7.2.2::tp 72 (.b (decide (r81_7.2.2 ≠ 0))::tp 40 [])))), [(.box [(.y 0), (.i 0), (.u 0), (.s ([] : List UInt8))]), (.box [(.y x31_2), (.i 0), (.u 0), (.s ([] : List UInt8))])], 0⟩ ?_
        rcases tf_ (decide (r81_7.2.2 ≠ 0)) with hc86_22 | hc86_22
        ·
         replace hm := cT hc86_22 hm
         refine AiT hc86_22 <| Sx <| Wz (.agg [(.y 0), (.i 0), (.u 0), (.s ([] : List UInt8))]) (Obd rfl) <| Wm (.i r81_7.2.2) rfl <| Wy (.tup []) [(0, (.box [(.y 0), (.i 0), (.u 0), (.s ([] : List UInt8))]))] (Ost rfl) <| Wm (.i 0) rfl <| Wm (.i r81_7.2.2) rfl <| Nn <| Rt <| Tr <| Tr ?_
         obtain rfl := Option.some.inj hm
         exact ret_i []
        ·
         replace hm := cF hc86_22 hm
         refine AiF hc86_22 <| Sk <| Tk 6289 3 ⟨.s p0::tp 3 (.loc 0 0::tp 2 (.loc 1 0::tp 3 (.u r81_7.1::.i r81_7.2.1::tp 114 []))), [(.box [(.y 0), (.i 0), (.u 0), (.s ([] : List UInt8))]), (.box [(.y x31_2), (.i 0), (.u 0), (.s ([] : List UInt8))])], 0⟩ <| Sx <| Wz (.loc 1 0) (Ofa rfl) <| Wz (.y x31_2) (Old rfl) <| Wz (.b (decide (((x31_2.toNat : Nat) : Int) = 1))) (Ob2 (.int .u8 ((x31_2.toNat : Nat) : Int)) (.int .u8 1) rfl (fun _ => hb_eql)) <| Nk 2475880078570760549798254737 3 ⟨.s p0::tp 3 (.loc 0 0::tp 2 (.loc 1 0::tp 3 (.u r81_7.1::.i r81_7.2.1::tp 78 (.b (decide (((x31_2.toNat : Nat) : Int) = 1))::tp 35 [])))), [(.box [(.y 0), (.i 0), (.u 0), (.s ([] : List UInt8))]), (.box [(.y x31_2), (.i 0), (.u 0), (.s ([] : List UInt8))])], 0⟩ ?_
         rcases tf_ (decide (((x31_2.toNat : Nat) : Int) = 1)) with hc91_23 | hc91_23
         ·
          replace hm := cT hc91_23 hm
          refine AiT hc91_23 <| Sx <| Wm (.u r81_7.1) rfl ?_
          obtain ⟨r93_8, hr93_8, hm⟩ := bnd hm
          refine Wz (.i r93_8) (Ocf [] [] [] 0 (ok_telltaleref02_Back r81_7.1 r93_8 hr93_8) (fun a w => Try.call77 a w) rfl trivial) <| Wz (.loc 1 1) (Ofa rfl) <| Wy (.tup []) [(1, (.box [(.y x31_2), (.i r93_8), (.u 0), (.s ([] : List UInt8))]))] (Ost rfl) <| Nk 4240 3 ⟨tp 4 (.loc 0 0::tp 2 (.loc 1 0::tp 4 (.i r81_7.2.1::tp 114 []))), [(.box [(.y 0), (.i 0), (.u 0), (.s ([] : List UInt8))]), (.box [(.y x31_2), (.i r93_8), (.u 0), (.s ([] : List UInt8))])], 0⟩ <| Tx <| Wm (.i r81_7.2.1) rfl <| Wm (.i r81_7.2.1) rfl <| Nn ?_
          exact AWP.weak (Weak.toK 400 0 0 [0, 1]) (J12 ((GValue.mk x31_2 r93_8 0 ([] : List UInt8)), r81_7.2.1) hm)
         ·
          replace hm := cF hc91_23 hm
          refine AiF hc91_23 <| Sx <| Wm (.u r81_7.1) rfl <| Wz (.b (decide ((24 : Int) < r81_7.1))) (Obn rfl (fun _ => hb_gtr (k := .u64))) <| Nk 158456325028528675187087906961 3 ⟨.s p0::tp 3 (.loc 0 0::tp 2 (.loc 1 0::tp 3 (.u r81_7.1::.i r81_7.2.1::tp 84 (.b (decide ((24 : Int) < r81_7.1))::tp 29 [])))), [(.box [(.y 0), (.i 0), (.u 0), (.s ([] : List UInt8))]), (.box [(.y x31_2), (.i 0), (.u 0), (.s ([] : List UInt8))])], 0⟩ ?_
          rcases tf_ (decide ((24 : Int) < r81_7.1)) with hc97_24 | hc97_24
          ·
           replace hm := cT hc97_24 hm
           refine AiT hc97_24 <| Sx <| Wz (.agg [(.y 0), (.i 0), (.u 0), (.s ([] : List UInt8))]) (Obd rfl) <| Wy (.tup []) [(0, (.box [(.y 0), (.i 0), (.u 0), (.s ([] : List UInt8))]))] (Ost rfl) <| Wm (.i 0) rfl <| Wm (.i 5) rfl <| Nn <| Rt <| Tr ?_
           obtain rfl := Option.some.inj hm
           exact ret_i []
          ·
           replace hm := cF hc97_24 hm
           refine AiF hc97_24 <| Sq <| Sx <| Wm (.s p0) rfl <| Wz (.i ((List.length p0 : Nat) : Int)) (Oln rfl) <| Wm (.i r81_7.2.1) rfl <| Wz (.i (W6 (((List.length p0 : Nat) : Int) - r81_7.2.1))) (Obn rfl (fun _ => hb_sub (k := .i64))) <| Wm (.u r81_7.1) rfl <| Wz (.i (W6 r81_7.1)) (Oc2 (.int .u64 r81_7.1) rfl (run_conv (ds := .int .u64) (k' := .i64) (by kernel_rfl) (by kernel_rfl))) <| Wz (.b (decide ((W6 (((List.length p0 : Nat) : Int) - r81_7.2.1)) < (W6 r81_7.1)))) (Obn rfl (fun _ => hb_lss (k := .i64))) <| Nk 40564819207303340847894502578321 3 ⟨.s p0::tp 3 (.loc 0 0::tp 2 (.loc 1 0::tp 3 (.u r81_7.1::.i r81_7.2.1::tp 92 (.b (decide ((W6 (((List.length p0 : Nat) : Int) - r81_7.2.1)) < (W6 r81_7.1)))::tp 21 [])))), [(.box [(.y 0), (.i 0), (.u 0), (.s ([] : List UInt8))]), (.box [(.y x31_2), (.i 0), (.u 0), (.s ([] : List UInt8))])], 0⟩ ?_
           rcases tf_ (decide ((W6 (((List.length p0 : Nat) : Int) - r81_7.2.1)) < (W6 r81_7.1))) with hc105_25 | hc105_25
           ·
            replace hm := cT hc105_25 hm
            refine AiT hc105_25 <| Sx <| Wz (.agg [(.y 0), (.i 0), (.u 0), (.s ([] : List UInt8))]) (Obd rfl) <| Wy (.tup []) [(0, (.box [(.y 0), (.i 0), (.u 0), (.s ([] : List UInt8))]))] (Ost rfl) <| Wm (.i 0) rfl <| Wm (.i 3) rfl <| Nn <| Rt <| Tr <| Tr ?_
            obtain rfl := Option.some.inj hm
            exact ret_i []
           ·
            replace hm := cF hc105_25 hm
            refine AiF hc105_25 <| Sk <| Tk 6289 3 ⟨.s p0::tp 3 (.loc 0 0::tp 2 (.loc 1 0::tp 3 (.u r81_7.1::.i r81_7.2.1::tp 114 []))), [(.box [(.y 0), (.i 0), (.u 0), (.s ([] : List UInt8))]), (.box [(.y x31_2), (.i 0), (.u 0), (.s ([] : List UInt8))])], 0⟩ <| Sx <| Wm (.s p0) rfl <| Wm (.i r81_7.2.1) rfl <| Wm (.i r81_7.2.1) rfl <| Wm (.u r81_7.1) rfl <| Wz (.i (W6 r81_7.1)) (Oc2 (.int .u64 r81_7.1) rfl (run_conv (ds := .int .u64) (k' := .i64) (by kernel_rfl) (by kernel_rfl))) <| Wz (.i (W6 (r81_7.2.1 + (W6 r81_7.1)))) (Obn rfl (fun _ => hb_add (k := .i64))) ?_
            obtain ⟨s113_10, hs113_10, hm⟩ := bnd hm; obtain ⟨hs113_10a, hs113_10b, hs113_10c, hs113_10d, hs113_10e⟩ := cut_some hs113_10
            refine Wz (.s s113_10) (Ocs (lit_str (toS_cut hs113_10e)) (op_slice_str rfl (by kernel_rfl) (s := toS p0) (by kernel_rfl) (l := (Int.toNat r81_7.2.1)) (h := (Int.toNat (W6 (r81_7.2.1 + (W6 r81_7.1))))) (⟨.i64, r81_7.2.1, by kernel_rfl, hs113_10a⟩) (⟨.i64, (W6 (r81_7.2.1 + (W6 r81_7.1))), by kernel_rfl, hs113_10b⟩) hs113_10c hs113_10d)) <| Wz (.loc 1 3) (Ofa rfl) <| Wy (.tup []) [(1, (.box [(.y x31_2), (.i 0), (.u 0), (.s s113_10)]))] (Ost rfl) <| Nk 6288 3 ⟨tp 4 (.loc 0 0::tp 2 (.loc 1 0::tp 3 (.u r81_7.1::.i r81_7.2.1::tp 114 []))), [(.box [(.y 0), (.i 0), (.u 0), (.s ([] : List UInt8))]), (.box [(.y x31_2), (.i 0), (.u 0), (.s s113_10)])], 0⟩ <| Tx <| Wm (.i r81_7.2.1) rfl <| Wm (.u r81_7.1) rfl <| Wz (.i (W6 r81_7.1)) (Oc2 (.int .u64 r81_7.1) rfl (run_conv (ds := .int .u64) (k' := .i64) (by kernel_rfl) (by kernel_rfl))) <| Wz (.i (W6 (r81_7.2.1 + (W6 r81_7.1)))) (Obn rfl (fun _ => hb_add (k := .i64))) <| Wm (.i (W6 (r81_7.2.1 + (W6 r81_7.1)))) rfl <| Nn ?_
            exact AWP.weak (Weak.toK 400 0 0 [0, 1]) (J12 ((GValue.mk x31_2 0 0 s113_10), (W6 (r81_7.2.1 + (W6 r81_7.1)))) hm)

theorem ok_telltaleref07_Take (p0 : (List GType)) (p1 : (List UInt8)) (p2 : Int) (r : (GEvent × Int × Int)) (h : m_telltaleref07_Take p0 p1 p2 = some r) : GCall Try.prog 19 [(.l enc_GType p0), (.s p1), (.i p2)] [] (.tup [(.agg [(.i r.1.Time), (.i r.1.Source), (.i r.1.Seq), (.s r.1.Type_), (.own 0)]), (.i r.2.1), (.i r.2.2)]) [(Ar 47 4 enc_GValue r.1.Vals)] := by
 refine GCall.of_body (n := 138) (rs := [(.cell 6 25), (.tmp 7), (.tmp 8)]) Try.func19 rfl rfl rfl <| Ato ⟨.l enc_GType p0::.s p1::.i p2::tu 135 [], [], 0⟩ ?_
 have hm := h
 unfold m_telltaleref07_Take at hm
 refine Sx <| Wy (.loc 0 0) [(0, (.box [(.i 0), (.i 0), (.i 0), (.s ([] : List UInt8)), (.d .nil)]))] (Oal rfl) <| Wm (.i 0) rfl <| Wm (.i 0) rfl <| Nk 71 1 ⟨.l enc_GType p0::.s p1::.i p2::tp 3 (.loc 0 0::tp 131 []), [(.box [(.i 0), (.i 0), (.i 0), (.s ([] : List UInt8)), (.d .nil)])], 0⟩ <| Sq ?_
 refine AWP.cutJ (α := Unit) (fun x => match x with | () => (⟨.l enc_GType p0::.s p1::.i p2::tp 3 (.loc 0 0::tp 26 (.b true::tp 104 [])), [(.box [(.i 0), (.i 0), (.i 0), (.s ([] : List UInt8)), (.d .nil)])], 0⟩ : St)) (fun x => match x with | () => m_telltaleref07_Take_j1  = some r) ?_ (fun J1 => ?_)
 ·
  rintro ⟨⟩ hm
  try dsimp only at hm ⊢
  unfold m_telltaleref07_Take_j1 at hm
  refine AWP.if_ true (by kernel_rfl) <| Sx <| Wz (.agg [(.i 0), (.i 0), (.i 0), (.s ([] : List UInt8)), (.d .nil)]) (Obd rfl) <| Wy (.tup []) [(0, (.box [(.i 0), (.i 0), (.i 0), (.s ([] : List UInt8)), (.d .nil)]))] (Ost rfl) <| Wm (.i 0) rfl <| Wm (.i 2) rfl <| Nn <| Aob 0 4 47 4 ⟨.l enc_GType p0::.s p1::.i p2::tp 3 (.loc 0 0::.i 0::.i 2::tp 24 (.b true::.agg [(.i 0), (.i 0), (.i 0), (.s ([] : List UInt8)), (.d .nil)]::tp 103 [])), [(.box [(.i 0), (.i 0), (.i 0), (.s ([] : List UInt8)), (.own 1)]), (Ar 47 4 enc_GValue ([] : List GValue))], 0⟩ <| Rt <| Tr ?_
  obtain rfl := Option.some.inj hm
  exact ret_i [1]
 refine Sx <| Wm (.l enc_GType p0) rfl ?_
 obtain ⟨r22_0, hr22_0, hm⟩ := bnd hm
 refine Wz (.i r22_0) (Ocf [] [] [] 0 (ok_telltaleref06_Check p0 r22_0 hr22_0) (fun a w => Try.call50 a w) rfl trivial) <| Wz (.b (decide (r22_0 ≠ 0))) (Obn rfl (fun _ => hb_neq (k := .i64))) ?_
 rcases tf_ (decide (r22_0 ≠ 0)) with hq24_0 | hq24_0
 ·
  replace hm := cT hq24_0 hm
  refine Wz (.b true) (Oq hq24_0 rfl) <| Wn <| Wn <| Wz (.b true) (OpT rfl) <| Wm (.b true) rfl <| Wn <| Wn <| Wn <| Wn <| Wz (.b true) (OpT rfl) <| Nn ?_
  exact AWP.weak (Weak.toK 8589934663 0 0 [0]) (J1 () hm)
 ·
  replace hm := cF hq24_0 hm
  refine Wz (.b false) (Oq hq24_0 rfl) <| Wm (.i p2) rfl <| Wz (.b (decide (p2 < 0))) (Obn rfl (fun _ => hb_lss (k := .i64))) <| Wz (.b (decide (p2 < 0))) (OpF rfl) ?_
  rcases tf_ (decide (p2 < 0)) with hq28_0 | hq28_0
  ·
   replace hm := cT hq28_0 hm
   refine Wz (.b true) (Oq hq28_0 rfl) <| Wn <| Wn <| Wn <| Wn <| Wz (.b true) (OpT rfl) <| Nn ?_
   exact AWP.weak (Weak.toK 8589934663 0 0 [0]) (J1 () hm)
  ·
   replace hm := cF hq28_0 hm
   refine Wz (.b false) (Oq hq28_0 rfl) <| Wm (.i p2) rfl <| Wm (.s p1) rfl <| Wz (.i ((List.length p1 : Nat) : Int)) (Oln rfl) <| Wz (.b (decide (((List.length p1 : Nat) : Int) < p2))) (Obn rfl (fun _ => hb_gtr (k := .i64))) <| Wz (.b (decide (((List.length p1 : Nat) : Int) < p2))) (OpF rfl) <| Nk 8589934663 1 ⟨.l enc_GType p0::.s p1::.i p2::tp 3 (.loc 0 0::tp 26 (.b (decide (((List.length p1 : Nat) : Int) < p2))::tp 104 [])), [(.box [(.i 0), (.i 0), (.i 0), (.s ([] : List UInt8)), (.d .nil)])], 0⟩ ?_
   rcases tf_ (decide (((List.length p1 : Nat) : Int) < p2)) with hc33_16 | hc33_16
   ·
    replace hm := cT hc33_16 hm
    refine AiT hc33_16 <| Sx <| Wz (.agg [(.i 0), (.i 0), (.i 0), (.s ([] : List UInt8)), (.d .nil)]) (Obd rfl) <| Wy (.tup []) [(0, (.box [(.i 0), (.i 0), (.i 0), (.s ([] : List UInt8)), (.d .nil)]))] (Ost rfl) <| Wm (.i 0) rfl <| Wm (.i 2) rfl <| Nn <| Aob 0 4 47 4 ⟨.l enc_GType p0::.s p1::.i p2::tp 3 (.loc 0 0::.i 0::.i 2::tp 24 (.b (decide (((List.length p1 : Nat) : Int) < p2))::.agg [(.i 0), (.i 0), (.i 0), (.s ([] : List UInt8)), (.d .nil)]::tp 103 [])), [(.box [(.i 0), (.i 0), (.i 0), (.s ([] : List UInt8)), (.own 1)]), (Ar 47 4 enc_GValue ([] : List GValue))], 0⟩ <| Rt <| Tr ?_
    obtain rfl := Option.some.inj hm
    exact ret_i [1]
   ·
    replace hm := cF hc33_16 hm
    refine AiF hc33_16 <| Sk <| Tk 71 1 ⟨.l enc_GType p0::.s p1::.i p2::tp 3 (.loc 0 0::tp 131 []), [(.box [(.i 0), (.i 0), (.i 0), (.s ([] : List UInt8)), (.d .nil)])], 0⟩ <| Sx <| Wm (.d .nil) rfl <| Nk 583 1 ⟨.l enc_GType p0::.s p1::.i p2::tp 3 (.loc 0 0::tp 2 (.d .nil::tp 128 [])), [(.box [(.i 0), (.i 0), (.i 0), (.s ([] : List UInt8)), (.d .nil)])], 0⟩ <| Sq <| Sx <| Wm (.i 0) rfl <| Nk 1607 1 ⟨.l enc_GType p0::.s p1::.i p2::tp 3 (.loc 0 0::tp 2 (.d .nil::.i 0::tp 127 [])), [(.box [(.i 0), (.i 0), (.i 0), (.s ([] : List UInt8)), (.d .nil)])], 0⟩ <| Bk <| Aow 9 42 1 ⟨.l enc_GType p0::.s p1::.i p2::tp 3 (.loc 0 0::tp 2 (.own 1::.i 0::tp 127 [])), [(.box [(.i 0), (.i 0), (.i 0), (.s ([] : List UInt8)), (.d .nil)]), (.arr 42 1 (List.length ([] : List Int)) (flatD (encI .u64) ([] : List Int)))], 0⟩ ?_
    refine AWP.loopI (α := Nat × Int × (List Int) × Int)
      (fun (fu_2, y2_2, y9_2, y10_2) => (⟨.l enc_GType p0::.s p1::.i y2_2::tp 3 (.loc 0 0::tp 2 (.own 1::.i y10_2::tp 127 [])), [(.box [(.i 0), (.i 0), (.i 0), (.s ([] : List UInt8)), (.d .nil)]), (.arr 42 1 (List.length y9_2) (flatD (encI .u64) y9_2))], 0⟩ : St))
      (fun (fu_2, y2_2, y9_2, y10_2) => m_telltaleref07_Take_l2 p0 p1 fu_2 y2_2 y9_2 y10_2 = some r)
      (fun (fu_2, y2_2, y9_2, y10_2) => fu_2) (1152921504606846976, p2, ([] : List Int), 0)
      (Weak.toK 1607 0 0 [0, 1]) hm ?_
    rintro ⟨fu_2, y2_2, y9_2, y10_2⟩ n_2 hm ih_2
    try dsimp only at hm ih_2 ⊢
    cases fu_2 with
    | zero => exact absurd hm (by unfold m_telltaleref07_Take_l2; simp)
    | succ fu_2 =>
     unfold m_telltaleref07_Take_l2 at hm
     refine Sq <| Sx <| Wm (.i y10_2) rfl <| Wz (.b (decide (y10_2 < 4))) (Obn rfl (fun _ => hb_lss (k := .i64))) <| Nk 68719478343 3 ⟨.l enc_GType p0::.s p1::.i y2_2::tp 3 (.loc 0 0::tp 2 (.own 1::.i y10_2::tp 25 (.b (decide (y10_2 < 4))::tp 101 []))), [(.box [(.i 0), (.i 0), (.i 0), (.s ([] : List UInt8)), (.d .nil)]), (.arr 42 1 (List.length y9_2) (flatD (encI .u64) y9_2))], 0⟩ ?_
     rcases tf_ (decide (y10_2 < 4)) with hc36_17 | hc36_17
     ·
      replace hm := cT hc36_17 hm
      refine AiT hc36_17 <| Sk <| Tk 1607 3 ⟨.l enc_GType p0::.s p1::.i y2_2::tp 3 (.loc 0 0::tp 2 (.own 1::.i y10_2::tp 127 [])), [(.box [(.i 0), (.i 0), (.i 0), (.s ([] : List UInt8)), (.d .nil)]), (.arr 42 1 (List.length y9_2) (flatD (encI .u64) y9_2))], 0⟩ <| Sq <| Bk <| Sx <| Wm (.s p1) rfl <| Wm (.i y2_2) rfl ?_
      obtain ⟨r42_3, hr42_3, hm⟩ := bnd hm
      refine Wz (.tup [(.u r42_3.1), (.i r42_3.2.1), (.i r42_3.2.2)]) (Ocf [] [] [] 0 (ok_telltaleref02_Take p1 y2_2 r42_3 hr42_3) (fun a w => Try.call55 a w) rfl trivial) <| Wm (.tup [(.u r42_3.1), (.i r42_3.2.1), (.i r42_3.2.2)]) rfl <| Wz (.u r42_3.1) (Oex rfl) <| Wz (.i r42_3.2.1) (Oex rfl) <| Wz (.i r42_3.2.2) (Oex rfl) <| Wm (.u r42_3.1) rfl <| Wm (.i r42_3.2.1) rfl <| Wm (.i r42_3.2.2) rfl <| Nk 15939 3 ⟨.l enc_GType p0::.s p1::tp 4 (.loc 0 0::tp 2 (.own 1::.i y10_2::.u r42_3.1::.i r42_3.2.1::.i r42_3.2.2::tp 124 [])), [(.box [(.i 0), (.i 0), (.i 0), (.s ([] : List UInt8)), (.d .nil)]), (.arr 42 1 (List.length y9_2) (flatD (encI .u64) y9_2))], 0⟩ <| Sq <| Sx <| Wm (.i r42_3.2.2) rfl <| Wz (.b (decide (r42_3.2.2 ≠ 0))) (Obn rfl (fun _ => hb_neq (k := .i64))) <| Nk 140737488371267 3 ⟨.l enc_GType p0::.s p1::tp 4 (.loc 0 0::tp 2 (.own 1::.i y10_2::.u r42_3.1::.i r42_3.2.1::.i r42_3.2.2::tp 33 (.b (decide (r42_3.2.2 ≠ 0))::tp 90 []))), [(.box [(.i 0), (.i 0), (.i 0), (.s ([] : List UInt8)), (.d .nil)]), (.arr 42 1 (List.length y9_2) (flatD (encI .u64) y9_2))], 0⟩ ?_
      rcases tf_ (decide (r42_3.2.2 ≠ 0)) with hc47_18 | hc47_18
      ·
       replace hm := cT hc47_18 hm
       refine AiT hc47_18 <| Sx <| Wz (.agg [(.i 0), (.i 0), (.i 0), (.s ([] : List UInt8)), (.d .nil)]) (Obd rfl) <| Wm (.i r42_3.2.2) rfl <| Wy (.tup []) [(0, (.box [(.i 0), (.i 0), (.i 0), (.s ([] : List UInt8)), (.d .nil)]))] (Ost rfl) <| Wm (.i 0) rfl <| Wm (.i r42_3.2.2) rfl <| Nn <| Aob 0 4 47 4 ⟨.l enc_GType p0::.s p1::tp 4 (.loc 0 0::.i 0::.i r42_3.2.2::.own 1::.i y10_2::.u r42_3.1::.i r42_3.2.1::.i r42_3.2.2::tp 33 (.b (decide (r42_3.2.2 ≠ 0))::.agg [(.i 0), (.i 0), (.i 0), (.s ([] : List UInt8)), (.d .nil)]::.i r42_3.2.2::tp 88 [])), [(.box [(.i 0), (.i 0), (.i 0), (.s ([] : List UInt8)), (.own 2)]), (.arr 42 1 (List.length y9_2) (flatD (encI .u64) y9_2)), (Ar 47 4 enc_GValue ([] : List GValue))], 0⟩ <| Rt <| Tr <| Ir <| Tr <| RoundK.ret ?_
       refine Ir <| Tr ?_
       obtain rfl := Option.some.inj hm
       exact ret_i [2]
      ·
       replace hm := cF hc47_18 hm
       refine AiF hc47_18 <| Sk <| Tk 7747 3 ⟨.l enc_GType p0::.s p1::tp 4 (.loc 0 0::tp 2 (.own 1::.i y10_2::.u r42_3.1::.i r42_3.2.1::tp 125 [])), [(.box [(.i 0), (.i 0), (.i 0), (.s ([] : List UInt8)), (.d .nil)]), (.arr 42 1 (List.length y9_2) (flatD (encI .u64) y9_2))], 0⟩ <| Sx <| Wm (.own 1) rfl <| Wm (.u r42_3.1) rfl <| Wy (.own 2) [(2, (.arr 42 1 (List.length ([r42_3.1] : List Int)) (flatD (encI .u64) ([r42_3.1] : List Int))))] (Obs rfl) ?_
       obtain ⟨a53_4, ha53_4, hm⟩ := bnd hm; obtain ⟨ha53_4e, ha53_4l⟩ := app_some ha53_4
       refine Wy (.own 3) [(1, .gone), (3, (.arr 42 1 (List.length a53_4) (flatD (encI .u64) a53_4)))] (Oap rfl elemOK_110 (encI_len (k := .u64)) ha53_4e ha53_4l) <| Wm (.own 3) rfl <| Nk 5699 9 ⟨.l enc_GType p0::.s p1::tp 4 (.loc 0 0::tp 2 (.own 3::.i y10_2::tp 1 (.i r42_3.2.1::tp 125 []))), [(.box [(.i 0), (.i 0), (.i 0), (.s ([] : List UInt8)), (.d .nil)]), .gone, .gone, (.arr 42 1 (List.length a53_4) (flatD (encI .u64) a53_4))], 0⟩ <| Tx <| Wm (.i r42_3.2.1) rfl <| Wm (.i r42_3.2.1) rfl <| Wn0 <| Ino <| Tk 1607 9 ⟨.l enc_GType p0::.s p1::.i r42_3.2.1::tp 3 (.loc 0 0::tp 2 (.own 3::.i y10_2::tp 127 [])), [(.box [(.i 0), (.i 0), (.i 0), (.s ([] : List UInt8)), (.d .nil)]), .gone, .gone, (.arr 42 1 (List.length a53_4) (flatD (encI .u64) a53_4))], 0⟩ <| Tx <| Wm (.i y10_2) rfl <| Wz (.i (W6 (y10_2 + 1))) (Obn rfl (fun _ => hb_add (k := .i64))) <| Wm (.i (W6 (y10_2 + 1))) rfl <| Wn0 ?_
       refine RoundK.normal ?_
       exact Rounds.weak (Weak.toK 1607 0 0 [0, 3]) (ih_2 (fu_2, r42_3.2.1, a53_4, (W6 (y10_2 + 1))) hm (Nat.lt_succ_self _))
     ·
      replace hm := cF hc36_17 hm
      refine AiF hc36_17 <| AWP.exit <| Then.exit <| RoundK.exit <| InBlock.same <| Tk 583 3 ⟨.l enc_GType p0::.s p1::.i y2_2::tp 3 (.loc 0 0::tp 2 (.own 1::tp 128 [])), [(.box [(.i 0), (.i 0), (.i 0), (.s ([] : List UInt8)), (.d .nil)]), (.arr 42 1 (List.length y9_2) (flatD (encI .u64) y9_2))], 0⟩ <| Sq <| Sx <| Wm (.own 1) rfl ?_
      obtain ⟨x56_5, hx56_5, hm⟩ := bnd hm
      obtain ⟨hx56_5i, hx56_5g⟩ := geti_some hx56_5
      refine Wz (.loc 1 ((Int.toNat 3) * 1)) (Oia rfl (encI_len (k := .u64)) hx56_5i hx56_5g) <| Wz (.u x56_5) (Lr1 rfl (encI_len (k := .u64)) hx56_5g) <| Wm (.l enc_GType p0) rfl <| Wz (.i ((List.length p0 : Nat) : Int)) (Oln rfl) <| Wz (.u (W7 ((List.length p0 : Nat) : Int))) (Oc2 (.int .i64 ((List.length p0 : Nat) : Int)) rfl (run_conv (ds := .int .i64) (k' := .u64) (by kernel_rfl) (by kernel_rfl))) <| Wz (.b (decide ((W7 ((List.length p0 : Nat) : Int)) ≤ x56_5))) (Obn rfl (fun _ => hb_geq (k := .u64))) <| Nk 2305843009213694535 3 ⟨.l enc_GType p0::.s p1::.i y2_2::tp 3 (.loc 0 0::tp 2 (.own 1::tp 51 (.b (decide ((W7 ((List.length p0 : Nat) : Int)) ≤ x56_5))::tp 76 []))), [(.box [(.i 0), (.i 0), (.i 0), (.s ([] : List UInt8)), (.d .nil)]), (.arr 42 1 (List.length y9_2) (flatD (encI .u64) y9_2))], 0⟩ ?_
      rcases tf_ (decide ((W7 ((List.length p0 : Nat) : Int)) ≤ x56_5)) with hc61_19 | hc61_19
      ·
       replace hm := cT hc61_19 hm
       refine AiT hc61_19 <| Sx <| Wz (.agg [(.i 0), (.i 0), (.i 0), (.s ([] : List UInt8)), (.d .nil)]) (Obd rfl) <| Wy (.tup []) [(0, (.box [(.i 0), (.i 0), (.i 0), (.s ([] : List UInt8)), (.d .nil)]))] (Ost rfl) <| Wm (.i 0) rfl <| Wm (.i 6) rfl <| Nn <| Aob 0 4 47 4 ⟨.l enc_GType p0::.s p1::.i y2_2::tp 3 (.loc 0 0::.i 0::.i 6::.own 1::tp 51 (.b (decide ((W7 ((List.length p0 : Nat) : Int)) ≤ x56_5))::.agg [(.i 0), (.i 0), (.i 0), (.s ([] : List UInt8)), (.d .nil)]::tp 75 [])), [(.box [(.i 0), (.i 0), (.i 0), (.s ([] : List UInt8)), (.own 2)]), (.arr 42 1 (List.length y9_2) (flatD (encI .u64) y9_2)), (Ar 47 4 enc_GValue ([] : List GValue))], 0⟩ <| Rt <| Tr ?_
       obtain rfl := Option.some.inj hm
       exact ret_i [2]
      ·
       replace hm := cF hc61_19 hm
       refine AiF hc61_19 <| Sk <| Tk 583 3 ⟨.l enc_GType p0::.s p1::.i y2_2::tp 3 (.loc 0 0::tp 2 (.own 1::tp 128 [])), [(.box [(.i 0), (.i 0), (.i 0), (.s ([] : List UInt8)), (.d .nil)]), (.arr 42 1 (List.length y9_2) (flatD (encI .u64) y9_2))], 0⟩ <| Sx <| Wm (.l enc_GType p0) rfl <| Wm (.own 1) rfl ?_
       obtain ⟨x65_6, hx65_6, hm⟩ := bnd hm
       obtain ⟨hx65_6i, hx65_6g⟩ := geti_some hx65_6
       refine Wz (.loc 1 ((Int.toNat 3) * 1)) (Oia rfl (encI_len (k := .u64)) hx65_6i hx65_6g) <| Wz (.u x65_6) (Lr1 rfl (encI_len (k := .u64)) hx65_6g) <| Wz (.i (W6 x65_6)) (Oc2 (.int .u64 x65_6) rfl (run_conv (ds := .int .u64) (k' := .i64) (by kernel_rfl) (by kernel_rfl))) ?_
       obtain ⟨x68_6, hx68_6, hm⟩ := bnd hm
       obtain ⟨hx68_6i, hx68_6g⟩ := geti_some hx68_6
       refine Wz (.d (.ref (List.drop ((Int.toNat (W6 x65_6)) * 2) (flatD enc_GType p0)))) (Oia rfl enc_GType_len hx68_6i hx68_6g) <| Wz (.agg [(.s x68_6.Name), (.l enc_GField x68_6.Fields)]) (Lf rfl enc_GType_len hx68_6g) <| Wy (.loc 2 0) [(2, (.box [(.s ([] : List UInt8)), (.d .nil)]))] (Oal rfl) <| Wy (.tup []) [(2, (.box [(.s x68_6.Name), (.l enc_GField x68_6.Fields)]))] (Ost rfl) <| Nk 16967 7 ⟨.l enc_GType p0::.s p1::.i y2_2::tp 3 (.loc 0 0::tp 2 (.own 1::tp 4 (.loc 2 0::tp 123 []))), [(.box [(.i 0), (.i 0), (.i 0), (.s ([] : List UInt8)), (.d .nil)]), (.arr 42 1 (List.length y9_2) (flatD (encI .u64) y9_2)), (.box [(.s x68_6.Name), (.l enc_GField x68_6.Fields)])], 0⟩ <| Sx <| Wz (.loc 2 0) (Ofa rfl) <| Wz (.s x68_6.Name) (Old rfl) <| Wz (.agg [(.i (-1)), (.i (-1)), (.i (-1)), (.s x68_6.Name), (.d .nil)]) (Obd rfl) <| Wy (.loc 3 0) [(3, (.box [(.i 0), (.i 0), (.i 0), (.s ([] : List UInt8)), (.d .nil)]))] (Oal rfl) <| Wy (.tup []) [(3, (.box [(.i (-1)), (.i (-1)), (.i (-1)), (.s x68_6.Name), (.d .nil)]))] (Ost rfl) <| Nk 49735 15 ⟨.l enc_GType p0::.s p1::.i y2_2::tp 3 (.loc 0 0::tp 2 (.own 1::tp 4 (.loc 2 0::.loc 3 0::tp 122 []))), [(.box [(.i 0), (.i 0), (.i 0), (.s ([] : List UInt8)), (.d .nil)]), (.arr 42 1 (List.length y9_2) (flatD (encI .u64) y9_2)), (.box [(.s x68_6.Name), (.l enc_GField x68_6.Fields)]), (.box [(.i (-1)), (.i (-1)), (.i (-1)), (.s x68_6.Name), (.d .nil)])], 0⟩ <| Sq <| Sx ?_
       refine Wm (.i 0) rfl <| Nk 115271 15 ⟨.l enc_GType p0::.s p1::.i y2_2::tp 3 (.loc 0 0::tp 2 (.own 1::tp 4 (.loc 2 0::.loc 3 0::.i 0::tp 121 []))), [(.box [(.i 0), (.i 0), (.i 0), (.s ([] : List UInt8)), (.d .nil)]), (.arr 42 1 (List.length y9_2) (flatD (encI .u64) y9_2)), (.box [(.s x68_6.Name), (.l enc_GField x68_6.Fields)]), (.box [(.i (-1)), (.i (-1)), (.i (-1)), (.s x68_6.Name), (.d .nil)])], 0⟩ <| Bk <| Aob 3 4 47 4 ⟨.l enc_GType p0::.s p1::.i y2_2::tp 3 (.loc 0 0::tp 2 (.own 1::tp 4 (.loc 2 0::.loc 3 0::.i 0::tp 121 []))), [(.box [(.i 0), (.i 0), (.i 0), (.s ([] : List UInt8)), (.d .nil)]), (.arr 42 1 (List.length y9_2) (flatD (encI .u64) y9_2)), (.box [(.s x68_6.Name), (.l enc_GField x68_6.Fields)]), (.box [(.i (-1)), (.i (-1)), (.i (-1)), (.s x68_6.Name), (.own 4)]), (Ar 47 4 enc_GValue ([] : List GValue))], 0⟩ ?_
       refine AWP.loopI (α := Nat × Int × (List GValue) × Int)
         (fun (fu_7, y2_7, y15_d_4_7, y16_7) => (⟨.l enc_GType p0::.s p1::.i y2_7::tp 3 (.loc 0 0::tp 2 (.own 1::tp 4 (.loc 2 0::.loc 3 0::.i y16_7::tp 121 []))), [(.box [(.i 0), (.i 0), (.i 0), (.s ([] : List UInt8)), (.d .nil)]), (.arr 42 1 (List.length y9_2) (flatD (encI .u64) y9_2)), (.box [(.s x68_6.Name), (.l enc_GField x68_6.Fields)]), (.box [(.i (-1)), (.i (-1)), (.i (-1)), (.s x68_6.Name), (.own 4)]), (Ar 47 4 enc_GValue y15_d_4_7)], 0⟩ : St))
         (fun (fu_7, y2_7, y15_d_4_7, y16_7) => m_telltaleref07_Take_l7 p0 p1 x68_6 y9_2 fu_7 y2_7 y15_d_4_7 y16_7 = some r)
         (fun (fu_7, y2_7, y15_d_4_7, y16_7) => fu_7) (1152921504606846976, y2_2, ([] : List GValue), 0)
         (Weak.toK 115271 0 0 [0, 1, 2, 3, 4]) hm ?_
       rintro ⟨fu_7, y2_7, y15_d_4_7, y16_7⟩ n_7 hm ih_7
       try dsimp only at hm ih_7 ⊢
       cases fu_7 with
       | zero => exact absurd hm (by unfold m_telltaleref07_Take_l7; simp)
       | succ fu_7 =>
        unfold m_telltaleref07_Take_l7 at hm
        refine Sq <| Sx <| Wm (.i y16_7) rfl <| Wz (.loc 2 1) (Ofa rfl) <| Wz (.l enc_GField x68_6.Fields) (Old rfl) <| Wz (.i ((List.length x68_6.Fields : Nat) : Int)) (Oln rfl) <| Wz (.b (decide (y16_7 < ((List.length x68_6.Fields : Nat) : Int)))) (Obn rfl (fun _ => hb_lss (k := .i64))) <| Nk 151115727451828646953543 31 ⟨.l enc_GType p0::.s p1::.i y2_7::tp 3 (.loc 0 0::tp 2 (.own 1::tp 4 (.loc 2 0::.loc 3 0::.i y16_7::tp 60 (.b (decide (y16_7 < ((List.length x68_6.Fields : Nat) : Int)))::tp 60 [])))), [(.box [(.i 0), (.i 0), (.i 0), (.s ([] : List UInt8)), (.d .nil)]), (.arr 42 1 (List.length y9_2) (flatD (encI .u64) y9_2)), (.box [(.s x68_6.Name), (.l enc_GField x68_6.Fields)]), (.box [(.i (-1)), (.i (-1)), (.i (-1)), (.s x68_6.Name), (.own 4)]), (Ar 47 4 enc_GValue y15_d_4_7)], 0⟩ ?_
        rcases tf_ (decide (y16_7 < ((List.length x68_6.Fields : Nat) : Int))) with hc77_20 | hc77_20
        ·
         replace hm := cT hc77_20 hm
         refine AiT hc77_20 <| Sk <| Tk 115271 31 ⟨.l enc_GType p0::.s p1::.i y2_7::tp 3 (.loc 0 0::tp 2 (.own 1::tp 4 (.loc 2 0::.loc 3 0::.i y16_7::tp 121 []))), [(.box [(.i 0), (.i 0), (.i 0), (.s ([] : List UInt8)), (.d .nil)]), (.arr 42 1 (List.length y9_2) (flatD (encI .u64) y9_2)), (.box [(.s x68_6.Name), (.l enc_GField x68_6.Fields)]), (.box [(.i (-1)), (.i (-1)), (.i (-1)), (.s x68_6.Name), (.own 4)]), (Ar 47 4 enc_GValue y15_d_4_7)], 0⟩ <| Sq <| Bk <| Sx <| Wm (.s p1) rfl <| Wm (.i y2_7) rfl ?_
         obtain ⟨r83_9, hr83_9, hm⟩ := bnd hm
         refine Wz (.tup [(.agg [(.y r83_9.1.Kind), (.i r83_9.1.N), (.u r83_9.1.Bits), (.s r83_9.1.Text)]), (.i r83_9.2.1), (.i r83_9.2.2)]) (Ocf [] [] [] 0 (ok_telltaleref04_Take p1 y2_7 r83_9 hr83_9) (fun a w => Try.call56 a w) rfl trivial) <| Wm (.tup [(.agg [(.y r83_9.1.Kind), (.i r83_9.1.N), (.u r83_9.1.Bits), (.s r83_9.1.Text)]), (.i r83_9.2.1), (.i r83_9.2.2)]) rfl <| Wz (.agg [(.y r83_9.1.Kind), (.i r83_9.1.N), (.u r83_9.1.Bits), (.s r83_9.1.Text)]) (Oex rfl) <| Wz (.i r83_9.2.1) (Oex rfl) <| Wz (.i r83_9.2.2) (Oex rfl) <| Wy (.loc 5 0) [(5, (.box [(.y 0), (.i 0), (.u 0), (.s ([] : List UInt8))]))] (Oal rfl) <| Wy (.tup []) [(5, (.box [(.y r83_9.1.Kind), (.i r83_9.1.N), (.u r83_9.1.Bits), (.s r83_9.1.Text)]))] (Ost rfl) <| Wm (.i r83_9.2.1) rfl <| Wm (.i r83_9.2.2) rfl <| Nk 1032771 63 ⟨.l enc_GType p0::.s p1::tp 4 (.loc 0 0::tp 2 (.own 1::tp 4 (.loc 2 0::.loc 3 0::.i y16_7::.loc 5 0::.i r83_9.2.1::.i r83_9.2.2::tp 118 []))), [(.box [(.i 0), (.i 0), (.i 0), (.s ([] : List UInt8)), (.d .nil)]), (.arr 42 1 (List.length y9_2) (flatD (encI .u64) y9_2)), (.box [(.s x68_6.Name), (.l enc_GField x68_6.Fields)]), (.box [(.i (-1)), (.i (-1)), (.i (-1)), (.s x68_6.Name), (.own 4)]), (Ar 47 4 enc_GValue y15_d_4_7), (.box [(.y r83_9.1.Kind), (.i r83_9.1.N), (.u r83_9.1.Bits), (.s r83_9.1.Text)])], 0⟩ <| Sq <| Sx <| Wm (.i r83_9.2.2) rfl <| Wz (.b (decide (r83_9.2.2 ≠ 0))) (Obn rfl (fun _ => hb_neq (k := .i64))) ?_
         refine Nk 309485009821345068725813827 63 ⟨.l enc_GType p0::.s p1::tp 4 (.loc 0 0::tp 2 (.own 1::tp 4 (.loc 2 0::.loc 3 0::.i y16_7::.loc 5 0::.i r83_9.2.1::.i r83_9.2.2::tp 68 (.b (decide (r83_9.2.2 ≠ 0))::tp 49 [])))), [(.box [(.i 0), (.i 0), (.i 0), (.s ([] : List UInt8)), (.d .nil)]), (.arr 42 1 (List.length y9_2) (flatD (encI .u64) y9_2)), (.box [(.s x68_6.Name), (.l enc_GField x68_6.Fields)]), (.box [(.i (-1)), (.i (-1)), (.i (-1)), (.s x68_6.Name), (.own 4)]), (Ar 47 4 enc_GValue y15_d_4_7), (.box [(.y r83_9.1.Kind), (.i r83_9.1.N), (.u r83_9.1.Bits), (.s r83_9.1.Text)])], 0⟩ ?_
         rcases tf_ (decide (r83_9.2.2 ≠ 0)) with hc88_21 | hc88_21
         ·
          replace hm := cT hc88_21 hm
          refine AiT hc88_21 <| Sx <| Wz (.agg [(.i 0), (.i 0), (.i 0), (.s ([] : List UInt8)), (.d .nil)]) (Obd rfl) <| Wm (.i r83_9.2.2) rfl <| Wy (.tup []) [(0, (.box [(.i 0), (.i 0), (.i 0), (.s ([] : List UInt8)), (.d .nil)]))] (Ost rfl) <| Wm (.i 0) rfl <| Wm (.i r83_9.2.2) rfl <| Nn <| Aob 0 4 47 4 ⟨.l enc_GType p0::.s p1::tp 4 (.loc 0 0::.i 0::.i r83_9.2.2::.own 1::tp 4 (.loc 2 0::.loc 3 0::.i y16_7::.loc 5 0::.i r83_9.2.1::.i r83_9.2.2::tp 68 (.b (decide (r83_9.2.2 ≠ 0))::.agg [(.i 0), (.i 0), (.i 0), (.s ([] : List UInt8)), (.d .nil)]::.i r83_9.2.2::tp 47 []))), [(.box [(.i 0), (.i 0), (.i 0), (.s ([] : List UInt8)), (.own 6)]), (.arr 42 1 (List.length y9_2) (flatD (encI .u64) y9_2)), (.box [(.s x68_6.Name), (.l enc_GField x68_6.Fields)]), (.box [(.i (-1)), (.i (-1)), (.i (-1)), (.s x68_6.Name), (.own 4)]), (Ar 47 4 enc_GValue y15_d_4_7), (.box [(.y r83_9.1.Kind), (.i r83_9.1.N), (.u r83_9.1.Bits), (.s r83_9.1.Text)]), (Ar 47 4 enc_GValue ([] : List GValue))], 0⟩ <| Rt <| Tr <| Ir <| Tr <| RoundK.ret ?_
          refine Ir <| Tr ?_
          obtain rfl := Option.some.inj hm
          exact ret_i [6]
         ·
          replace hm := cF hc88_21 hm
          refine AiF hc88_21 <| Sk <| Tk 508483 63 ⟨.l enc_GType p0::.s p1::tp 4 (.loc 0 0::tp 2 (.own 1::tp 4 (.loc 2 0::.loc 3 0::.i y16_7::.loc 5 0::.i r83_9.2.1::tp 119 []))), [(.box [(.i 0), (.i 0), (.i 0), (.s ([] : List UInt8)), (.d .nil)]), (.arr 42 1 (List.length y9_2) (flatD (encI .u64) y9_2)), (.box [(.s x68_6.Name), (.l enc_GField x68_6.Fields)]), (.box [(.i (-1)), (.i (-1)), (.i (-1)), (.s x68_6.Name), (.own 4)]), (Ar 47 4 enc_GValue y15_d_4_7), (.box [(.y r83_9.1.Kind), (.i r83_9.1.N), (.u r83_9.1.Bits), (.s r83_9.1.Text)])], 0⟩ <| Sx <| Wz (.loc 3 4) (Ofa rfl) <| Wz (.own 4) (Old rfl) <| Wz (.agg [(.y r83_9.1.Kind), (.i r83_9.1.N), (.u r83_9.1.Bits), (.s r83_9.1.Text)]) (Old rfl) <| Wy (.own 6) [(6, (Ar 47 4 enc_GValue ([r83_9.1] : List GValue)))] (Obs rfl) ?_
          obtain ⟨a95_10, ha95_10, hm⟩ := bnd hm; obtain ⟨ha95_10e, ha95_10l⟩ := app_some ha95_10
          refine Wy (.own 7) [(4, .gone), (7, (Ar 47 4 enc_GValue a95_10))] (Oap rfl elemOK_23 enc_GValue_len ha95_10e ha95_10l) <| Wz (.loc 3 4) (Ofa rfl) <| Wy (.tup []) [(3, (.box [(.i (-1)), (.i (-1)), (.i (-1)), (.s x68_6.Name), (.own 7)]))] (Ost rfl) <| Nk 377411 143 ⟨.l enc_GType p0::.s p1::tp 4 (.loc 0 0::tp 2 (.own 1::tp 4 (.loc 2 0::.loc 3 0::.i y16_7::tp 1 (.i r83_9.2.1::tp 119 [])))), [(.box [(.i 0), (.i 0), (.i 0), (.s ([] : List UInt8)), (.d .nil)]), (.arr 42 1 (List.length y9_2) (flatD (encI .u64) y9_2)), (.box [(.s x68_6.Name), (.l enc_GField x68_6.Fields)]), (.box [(.i (-1)), (.i (-1)), (.i (-1)), (.s x68_6.Name), (.own 7)]), .gone, .gone, .gone, (Ar 47 4 enc_GValue a95_10)], 0⟩ <| Tx <| Wm (.i r83_9.2.1) rfl <| Wm (.i r83_9.2.1) rfl <| Wn0 <| Ino <| Tk 115271 143 ⟨.l enc_GType p0::.s p1::.i r83_9.2.1::tp 3 (.loc 0 0::tp 2 (.own 1::tp 4 (.loc 2 0::.loc 3 0::.i y16_7::tp 121 []))), [(.box [(.i 0), (.i 0), (.i 0), (.s ([] : List UInt8)), (.d .nil)]), (.arr 42 1 (List.length y9_2) (flatD (encI .u64) y9_2)), (.box [(.s x68_6.Name), (.l enc_GField x68_6.Fields)]), (.box [(.i (-1)), (.i (-1)), (.i (-1)), (.s x68_6.Name), (.own 7)]), .gone, .gone, .gone, (Ar 47 4 enc_GValue a95_10)], 0⟩ <| Tx <| Wm (.i y16_7) rfl <| Wz (.i (W6 (y16_7 + 1))) (Obn rfl (fun _ => hb_add (k := .i64))) <| Wm (.i (W6 (y16_7 + 1))) rfl ?_
          refine Wn0 <| RoundK.normal ?_
          exact Rounds.weak (Weak.toK 115271 0 0 [0, 1, 2, 3, 7]) (ih_7 (fu_7, r83_9.2.1, a95_10, (W6 (y16_7 + 1))) hm (Nat.lt_succ_self _))
        ·
         replace hm := cF hc77_20 hm
         refine AiF hc77_20 <| AWP.exit <| Then.exit <| RoundK.exit <| InBlock.same <| Tk 33349 27 ⟨.l enc_GType p0::tp 1 (.i y2_7::tp 3 (.loc 0 0::tp 2 (.own 1::tp 5 (.loc 3 0::tp 122 [])))), [(.box [(.i 0), (.i 0), (.i 0), (.s ([] : List UInt8)), (.d .nil)]), (.arr 42 1 (List.length y9_2) (flatD (encI .u64) y9_2)), .gone, (.box [(.i (-1)), (.i (-1)), (.i (-1)), (.s x68_6.Name), (.own 4)]), (Ar 47 4 enc_GValue y15_d_4_7)], 0⟩ ?_
         refine AWP.cutJ (α := Int × Int × Int) (fun (y15_d_0_14, y15_d_1_14, y15_d_2_14) => (⟨.l enc_GType p0::tp 1 (.i y2_7::tp 3 (.loc 0 0::tp 8 (.loc 1 0::tp 122 []))), [(.box [(.i 0), (.i 0), (.i 0), (.s ([] : List UInt8)), (.d .nil)]), (.box [(.i y15_d_0_14), (.i y15_d_1_14), (.i y15_d_2_14), (.s x68_6.Name), (.own 2)]), (Ar 47 4 enc_GValue y15_d_4_7)], 0⟩ : St)) (fun (y15_d_0_14, y15_d_1_14, y15_d_2_14) => m_telltaleref07_Take_j14 p0 x68_6 y15_d_4_7 y2_7 y15_d_0_14 y15_d_1_14 y15_d_2_14 = some r) ?_ (fun J14 => ?_)
         ·
          rintro ⟨y15_d_0_14, y15_d_1_14, y15_d_2_14⟩ hm
          try dsimp only at hm ⊢
          unfold m_telltaleref07_Take_j14 at hm
          refine Sq <| Sx <| Wm (.l enc_GType p0) rfl <| Wz (.agg [(.i y15_d_0_14), (.i y15_d_1_14), (.i y15_d_2_14), (.s x68_6.Name), (.own 2)]) (Old rfl) ?_
          obtain ⟨r131_15, hr131_15, hm⟩ := bnd hm
          refine Wz (.i r131_15) (Ocp [] [] [2] 0 (ok_telltaleref07_Check p0 (GEvent.mk y15_d_0_14 y15_d_1_14 y15_d_2_14 x68_6.Name y15_d_4_7) r131_15 hr131_15) (plain_triv (by simp [A.Plain, A.Plains, D.Plain, byteD])) (fun a w => Try.call17 a w) rfl trivial) <| Wm (.i r131_15) rfl <| Nk 1081412 7 ⟨tp 2 (.i y2_7::tp 3 (.loc 0 0::tp 8 (.loc 1 0::tp 4 (.i r131_15::tp 117 [])))), [(.box [(.i 0), (.i 0), (.i 0), (.s ([] : List UInt8)), (.d .nil)]), (.box [(.i y15_d_0_14), (.i y15_d_1_14), (.i y15_d_2_14), (.s x68_6.Name), (.own 2)]), (Ar 47 4 enc_GValue y15_d_4_7)], 0⟩ <| Sx <| Wm (.i r131_15) rfl <| Wz (.b (decide (r131_15 ≠ 0))) (Obn rfl (fun _ => hb_neq (k := .i64))) <| Nk 10889035741470030830827987437816583848004 7 ⟨tp 2 (.i y2_7::tp 3 (.loc 0 0::tp 8 (.loc 1 0::tp 4 (.i r131_15::tp 112 (.b (decide (r131_15 ≠ 0))::tp 4 []))))), [(.box [(.i 0), (.i 0), (.i 0), (.s ([] : List UInt8)), (.d .nil)]), (.box [(.i y15_d_0_14), (.i y15_d_1_14), (.i y15_d_2_14), (.s x68_6.Name), (.own 2)]), (Ar 47 4 enc_GValue y15_d_4_7)], 0⟩ ?_
          rcases tf_ (decide (r131_15 ≠ 0)) with hc133_22 | hc133_22
          ·
           replace hm := cT hc133_22 hm
           refine AiT hc133_22 <| Sx <| Wz (.agg [(.i 0), (.i 0), (.i 0), (.s ([] : List UInt8)), (.d .nil)]) (Obd rfl) <| Wm (.i r131_15) rfl <| Wy (.tup []) [(0, (.box [(.i 0), (.i 0), (.i 0), (.s ([] : List UInt8)), (.d .nil)]))] (Ost rfl) <| Wm (.i 0) rfl <| Wm (.i r131_15) rfl <| Nn <| Aob 0 4 47 4 ⟨tp 2 (.i y2_7::tp 3 (.loc 0 0::.i 0::.i r131_15::tp 6 (.loc 1 0::tp 4 (.i r131_15::tp 112 (.b (decide (r131_15 ≠ 0))::.agg [(.i 0), (.i 0), (.i 0), (.s ([] : List UInt8)), (.d .nil)]::.i r131_15::tp 2 []))))), [(.box [(.i 0), (.i 0), (.i 0), (.s ([] : List UInt8)), (.own 3)]), (.box [(.i y15_d_0_14), (.i y15_d_1_14), (.i y15_d_2_14), (.s x68_6.Name), (.own 2)]), (Ar 47 4 enc_GValue y15_d_4_7), (Ar 47 4 enc_GValue ([] : List GValue))], 0⟩ <| Rt <| Tr ?_
           obtain rfl := Option.some.inj hm
           exact ret_i [3]
          ·
           replace hm := cF hc133_22 hm
           refine AiF hc133_22 <| Sk <| Tk 32836 7 ⟨tp 2 (.i y2_7::tp 3 (.loc 0 0::tp 8 (.loc 1 0::tp 122 []))), [(.box [(.i 0), (.i 0), (.i 0), (.s ([] : List UInt8)), (.d .nil)]), (.box [(.i y15_d_0_14), (.i y15_d_1_14), (.i y15_d_2_14), (.s x68_6.Name), (.own 2)]), (Ar 47 4 enc_GValue y15_d_4_7)], 0⟩ <| Sx <| Wz (.agg [(.i y15_d_0_14), (.i y15_d_1_14), (.i y15_d_2_14), (.s x68_6.Name), (.own 2)]) (Old rfl) <| Wm (.i y2_7) rfl <| Wy (.tup []) [(0, (.box [(.i y15_d_0_14), (.i y15_d_1_14), (.i y15_d_2_14), (.s x68_6.Name), (.own 2)]))] (Ost rfl) <| Wm (.i y2_7) rfl <| Wm (.i 0) rfl <| Nn <| Rt ?_
           obtain rfl := Option.some.inj hm
           exact ret_i [2]
         refine Sq ?_
         refine AWP.cutJ (α := Unit) (fun x => match x with | () => (⟨.l enc_GType p0::tp 1 (.i y2_7::tp 3 (.loc 0 0::tp 2 (.own 1::tp 5 (.loc 2 0::tp 97 (.b false::tp 24 []))))), [(.box [(.i 0), (.i 0), (.i 0), (.s ([] : List UInt8)), (.d .nil)]), (.arr 42 1 (List.length y9_2) (flatD (encI .u64) y9_2)), (.box [(.i (-1)), (.i (-1)), (.i (-1)), (.s x68_6.Name), (.own 3)]), (Ar 47 4 enc_GValue y15_d_4_7)], 0⟩ : St)) (fun x => match x with | () => m_telltaleref07_Take_j12 p0 x68_6 y15_d_4_7 y2_7 = some r) ?_ (fun J12 => ?_)
         ·
          rintro ⟨⟩ hm
          try dsimp only at hm ⊢
          unfold m_telltaleref07_Take_j12 at hm
          refine AWP.if_ false (by kernel_rfl) <| Sk <| Tn ?_
          exact AWP.weak (Weak.toK 32837 0 0 [0, 2, 3]) (J14 ((-1), (-1), (-1)) hm)
         refine Sx <| Wm (.own 1) rfl ?_
         obtain ⟨x99_11, hx99_11, hm⟩ := bnd hm
         obtain ⟨hx99_11i, hx99_11g⟩ := geti_some hx99_11
         refine Wz (.loc 1 ((Int.toNat 0) * 1)) (Oia rfl (encI_len (k := .u64)) hx99_11i hx99_11g) <| Wz (.u x99_11) (Lr1 rfl (encI_len (k := .u64)) hx99_11g) <| Wz (.b (decide (x99_11 ≤ 1099511627776))) (Obn rfl (fun _ => hb_leq (k := .u64))) ?_
         rcases tf_ (decide (x99_11 ≤ 1099511627776)) with hq102_11 | hq102_11
         ·
          replace hm := cT hq102_11 hm
          refine Wz (.b true) (Oq hq102_11 rfl) <| Wm (.own 1) rfl ?_
          obtain ⟨x104_11, hx104_11, hm⟩ := bnd hm
          obtain ⟨hx104_11i, hx104_11g⟩ := geti_some hx104_11
          refine Wz (.loc 1 ((Int.toNat 1) * 1)) (Oia rfl (encI_len (k := .u64)) hx104_11i hx104_11g) <| Wz (.u x104_11) (Lr1 rfl (encI_len (k := .u64)) hx104_11g) <| Wz (.b (decide (x104_11 < 16))) (Obn rfl (fun _ => hb_lss (k := .u64))) <| Wz (.b (decide (x104_11 < 16))) (OpT rfl) ?_
          rcases tf_ (decide (x104_11 < 16)) with hq108_11 | hq108_11
          ·
           replace hm := cT hq108_11 hm
           refine Wz (.b true) (Oq hq108_11 rfl) <| Wm (.own 1) rfl ?_
           obtain ⟨x110_11, hx110_11, hm⟩ := bnd hm
           obtain ⟨hx110_11i, hx110_11g⟩ := geti_some hx110_11
           refine Wz (.loc 1 ((Int.toNat 2) * 1)) (Oia rfl (encI_len (k := .u64)) hx110_11i hx110_11g) <| Wz (.u x110_11) (Lr1 rfl (encI_len (k := .u64)) hx110_11g) <| Wz (.b (decide (x110_11 ≤ 1099511627776))) (Obn rfl (fun _ => hb_leq (k := .u64))) <| Wz (.b (decide (x110_11 ≤ 1099511627776))) (OpT rfl) <| Nk 10384593717069655257060992658473541 27 ⟨.l enc_GType p0::tp 1 (.i y2_7::tp 3 (.loc 0 0::tp 2 (.own 1::tp 5 (.loc 3 0::tp 97 (.b (decide (x110_11 ≤ 1099511627776))::tp 24 []))))), [(.box [(.i 0), (.i 0), (.i 0), (.s ([] : List UInt8)), (.d .nil)]), (.arr 42 1 (List.length y9_2) (flatD (encI .u64) y9_2)), .gone, (.box [(.i (-1)), (.i (-1)), (.i (-1)), (.s x68_6.Name), (.own 4)]), (Ar 47 4 enc_GValue y15_d_4_7)], 0⟩ ?_
           rcases tf_ (decide (x110_11 ≤ 1099511627776)) with hc113_23 | hc113_23
           ·
            replace hm := cT hc113_23 hm
            refine AiT hc113_23 <| Adr <| Wm (.own 1) rfl ?_
            obtain ⟨x115_13, hx115_13, hm⟩ := bnd hm
            obtain ⟨hx115_13i, hx115_13g⟩ := geti_some hx115_13
            refine Wz (.loc 1 ((Int.toNat 0) * 1)) (Oia rfl (encI_len (k := .u64)) hx115_13i hx115_13g) <| Wz (.u x115_13) (Lr1 rfl (encI_len (k := .u64)) hx115_13g) <| Wz (.i (W6 x115_13)) (Oc2 (.int .u64 x115_13) rfl (run_conv (ds := .int .u64) (k' := .i64) (by kernel_rfl) (by kernel_rfl))) <| Wm (.own 1) rfl ?_
            obtain ⟨x119_13, hx119_13, hm⟩ := bnd hm
            obtain ⟨hx119_13i, hx119_13g⟩ := geti_some hx119_13
            refine Wz (.loc 1 ((Int.toNat 1) * 1)) (Oia rfl (encI_len (k := .u64)) hx119_13i hx119_13g) <| Wz (.u x119_13) (Lr1 rfl (encI_len (k := .u64)) hx119_13g) <| Wz (.i (W6 x119_13)) (Oc2 (.int .u64 x119_13) rfl (run_conv (ds := .int .u64) (k' := .i64) (by kernel_rfl) (by kernel_rfl))) <| Wm (.own 1) rfl ?_
            obtain ⟨x123_13, hx123_13, hm⟩ := bnd hm
            obtain ⟨hx123_13i, hx123_13g⟩ := geti_some hx123_13
            refine Wz (.loc 1 ((Int.toNat 2) * 1)) (Oia rfl (encI_len (k := .u64)) hx123_13i hx123_13g) <| Wz (.u x123_13) (Lr1 rfl (encI_len (k := .u64)) hx123_13g) <| Wz (.i (W6 x123_13)) (Oc2 (.int .u64 x123_13) rfl (run_conv (ds := .int .u64) (k' := .i64) (by kernel_rfl) (by kernel_rfl))) <| Wz (.loc 3 0) (Ofa rfl) <| Wy (.tup []) [(3, (.box [(.i (W6 x115_13)), (.i (-1)), (.i (-1)), (.s x68_6.Name), (.own 4)]))] (Ost rfl) <| Wz (.loc 3 1) (Ofa rfl) <| Wy (.tup []) [(3, (.box [(.i (W6 x115_13)), (.i (W6 x119_13)), (.i (-1)), (.s x68_6.Name), (.own 4)]))] (Ost rfl) <| Wz (.loc 3 2) (Ofa rfl) <| Wy (.tup []) [(3, (.box [(.i (W6 x115_13)), (.i (W6 x119_13)), (.i (W6 x123_13)), (.s x68_6.Name), (.own 4)]))] (Ost rfl) <| Wdr <| Tn ?_
            exact AWP.weak (Weak.toK 32837 0 0 [0, 3, 4]) (J14 ((W6 x115_13), (W6 x119_13), (W6 x123_13)) hm)
           ·
            replace hm := cF hc113_23 hm
            refine AiF hc113_23 <| Sk <| Tn ?_
            exact AWP.weak (Weak.toK 32837 0 0 [0, 3, 4]) (J14 ((-1), (-1), (-1)) hm)
          ·
           replace hm := cF hq108_11 hm
           refine Wz (.b false) (Oq hq108_11 rfl) <| Wn <| Wn <| Wn <| Wn <| Wz (.b false) (OpF rfl) <| Nn ?_
           exact AWP.weak (Weak.toK 10384593717069655257060992658473541 0 0 [0, 1, 3, 4]) (J12 () hm)
         ·
          replace hm := cF hq102_11 hm
          refine Wz (.b false) (Oq hq102_11 rfl) <| Wn <| Wn <| Wn <| Wn <| Wz (.b false) (OpF rfl) <| Wm (.b false) rfl <| Wn <| Wn <| Wn <| Wn <| Wz (.b false) (OpF rfl) <| Nn ?_
          exact AWP.weak (Weak.toK 10384593717069655257060992658473541 0 0 [0, 1, 3, 4]) (J12 () hm)

theorem ok_telltalelaw07_Back (p0 : GEvent) (r : GEvent) (h : m_telltalelaw07_Back p0 = some r) : GCall Try.prog 21 [(.agg [(.i p0.Time), (.i p0.Source), (.i p0.Seq), (.s p0.Type_), (.l enc_GValue p0.Vals)])] [] (.agg [(.i r.Time), (.i r.Source), (.i r.Seq), (.s r.Type_), (.own 0)]) [(Ar 47 4 enc_GValue r.Vals)] := by
 refine GCall.of_body (n := 32) (rs := [(.cell 2 25)]) Try.func21 rfl rfl rfl <| Ato ⟨.agg [(.i p0.Time), (.i p0.Source), (.i p0.Seq), (.s p0.Type_), (.l enc_GValue p0.Vals)]::tu 31 [], [], 0⟩ ?_
 have hm := h
 unfold m_telltalelaw07_Back at hm
 refine Sx <| Wy (.loc 0 0) [(0, (.box [(.i p0.Time), (.i p0.Source), (.i p0.Seq), (.s p0.Type_), (.l enc_GValue p0.Vals)]))] (Obx rfl) <| Wy (.loc 1 0) [(1, (.box [(.i 0), (.i 0), (.i 0), (.s ([] : List UInt8)), (.d .nil)]))] (Oal rfl) <| Nk 6 3 ⟨tp 1 (.loc 0 0::.loc 1 0::tp 29 []), [(.box [(.i p0.Time), (.i p0.Source), (.i p0.Seq), (.s p0.Type_), (.l enc_GValue p0.Vals)]), (.box [(.i 0), (.i 0), (.i 0), (.s ([] : List UInt8)), (.d .nil)])], 0⟩ <| Sx <| Wz (.loc 0 0) (Ofa rfl) <| Wz (.i p0.Time) (Old rfl) <| Wz (.loc 0 1) (Ofa rfl) <| Wz (.i p0.Source) (Old rfl) <| Wz (.loc 0 2) (Ofa rfl) <| Wz (.i p0.Seq) (Old rfl) <| Wz (.loc 0 3) (Ofa rfl) <| Wz (.s p0.Type_) (Old rfl) <| Wz (.agg [(.i p0.Time), (.i p0.Source), (.i p0.Seq), (.s p0.Type_), (.d .nil)]) (Obd rfl) ?_
 refine Wy (.loc 2 0) [(2, (.box [(.i 0), (.i 0), (.i 0), (.s ([] : List UInt8)), (.d .nil)]))] (Oal rfl) <| Wy (.tup []) [(2, (.box [(.i p0.Time), (.i p0.Source), (.i p0.Seq), (.s p0.Type_), (.d .nil)]))] (Ost rfl) <| Nk 14 7 ⟨tp 1 (.loc 0 0::.loc 1 0::.loc 2 0::tp 28 []), [(.box [(.i p0.Time), (.i p0.Source), (.i p0.Seq), (.s p0.Type_), (.l enc_GValue p0.Vals)]), (.box [(.i 0), (.i 0), (.i 0), (.s ([] : List UInt8)), (.d .nil)]), (.box [(.i p0.Time), (.i p0.Source), (.i p0.Seq), (.s p0.Type_), (.d .nil)])], 0⟩ <| Sq <| Sx <| Wm (.i 0) rfl <| Nk 30 7 ⟨tp 1 (.loc 0 0::.loc 1 0::.loc 2 0::.i 0::tp 27 []), [(.box [(.i p0.Time), (.i p0.Source), (.i p0.Seq), (.s p0.Type_), (.l enc_GValue p0.Vals)]), (.box [(.i 0), (.i 0), (.i 0), (.s ([] : List UInt8)), (.d .nil)]), (.box [(.i p0.Time), (.i p0.Source), (.i p0.Seq), (.s p0.Type_), (.d .nil)])], 0⟩ <| Bk <| Aob 2 4 47 4 ⟨tp 1 (.loc 0 0::.loc 1 0::.loc 2 0::.i 0::tp 27 []), [(.box [(.i p0.Time), (.i p0.Source), (.i p0.Seq), (.s p0.Type_), (.l enc_GValue p0.Vals)]), (.box [(.i 0), (.i 0), (.i 0), (.s ([] : List UInt8)), (.d .nil)]), (.box [(.i p0.Time), (.i p0.Source), (.i p0.Seq), (.s p0.Type_), (.own 3)]), (Ar 47 4 enc_GValue ([] : List GValue))], 0⟩ ?_
 refine AWP.loopI (α := Nat × (List GValue) × Int)
   (fun (fu_0, y3_d_4_0, y4_0) => (⟨tp 1 (.loc 0 0::.loc 1 0::.loc 2 0::.i y4_0::tp 27 []), [(.box [(.i p0.Time), (.i p0.Source), (.i p0.Seq), (.s p0.Type_), (.l enc_GValue p0.Vals)]), (.box [(.i 0), (.i 0), (.i 0), (.s ([] : List UInt8)), (.d .nil)]), (.box [(.i p0.Time), (.i p0.Source), (.i p0.Seq), (.s p0.Type_), (.own 3)]), (Ar 47 4 enc_GValue y3_d_4_0)], 0⟩ : St))
   (fun (fu_0, y3_d_4_0, y4_0) => m_telltalelaw07_Back_l0 p0 fu_0 y3_d_4_0 y4_0 = some r)
   (fun (fu_0, y3_d_4_0, y4_0) => fu_0) (1152921504606846976, ([] : List GValue), 0)
   (Weak.toK 30 0 0 [0, 1, 2, 3]) hm ?_
 rintro ⟨fu_0, y3_d_4_0, y4_0⟩ n_0 hm ih_0
 try dsimp only at hm ih_0 ⊢
 cases fu_0 with
 | zero => exact absurd hm (by unfold m_telltalelaw07_Back_l0; simp)
 | succ fu_0 =>
  unfold m_telltalelaw07_Back_l0 at hm
  refine Sq <| Sx <| Wm (.i y4_0) rfl <| Wz (.loc 0 4) (Ofa rfl) <| Wz (.l enc_GValue p0.Vals) (Old rfl) <| Wz (.i ((List.length p0.Vals : Nat) : Int)) (Oln rfl) <| Wz (.b (decide (y4_0 < ((List.length p0.Vals : Nat) : Int)))) (Obn rfl (fun _ => hb_lss (k := .i64))) <| Nk 262174 15 ⟨tp 1 (.loc 0 0::.loc 1 0::.loc 2 0::.i y4_0::tp 13 (.b (decide (y4_0 < ((List.length p0.Vals : Nat) : Int)))::tp 13 [])), [(.box [(.i p0.Time), (.i p0.Source), (.i p0.Seq), (.s p0.Type_), (.l enc_GValue p0.Vals)]), (.box [(.i 0), (.i 0), (.i 0), (.s ([] : List UInt8)), (.d .nil)]), (.box [(.i p0.Time), (.i p0.Source), (.i p0.Seq), (.s p0.Type_), (.own 3)]), (Ar 47 4 enc_GValue y3_d_4_0)], 0⟩ ?_
  rcases tf_ (decide (y4_0 < ((List.length p0.Vals : Nat) : Int))) with hc18_3 | hc18_3
  ·
   replace hm := cT hc18_3 hm
   refine AiT hc18_3 <| Sk <| Tk 30 15 ⟨tp 1 (.loc 0 0::.loc 1 0::.loc 2 0::.i y4_0::tp 27 []), [(.box [(.i p0.Time), (.i p0.Source), (.i p0.Seq), (.s p0.Type_), (.l enc_GValue p0.Vals)]), (.box [(.i 0), (.i 0), (.i 0), (.s ([] : List UInt8)), (.d .nil)]), (.box [(.i p0.Time), (.i p0.Source), (.i p0.Seq), (.s p0.Type_), (.own 3)]), (Ar 47 4 enc_GValue y3_d_4_0)], 0⟩ <| Sq <| Bk <| Adr <| Wz (.loc 2 4) (Ofa rfl) <| Wz (.own 3) (Old rfl) <| Wz (.loc 0 4) (Ofa rfl) <| Wz (.l enc_GValue p0.Vals) (Old rfl) <| Wm (.i y4_0) rfl ?_
   obtain ⟨x26_2, hx26_2, hm⟩ := bnd hm
   obtain ⟨hx26_2i, hx26_2g⟩ := geti_some hx26_2
   refine Wz (.d (.ref (List.drop ((Int.toNat y4_0) * 4) (flatD enc_GValue p0.Vals)))) (Oia rfl enc_GValue_len hx26_2i hx26_2g) <| Wz (.agg [(.y x26_2.Kind), (.i x26_2.N), (.u x26_2.Bits), (.s x26_2.Text)]) (Lf rfl enc_GValue_len hx26_2g) <| Wy (.own 4) [(4, (Ar 47 4 enc_GValue ([x26_2] : List GValue)))] (Obs rfl) ?_
   obtain ⟨a29_2, ha29_2, hm⟩ := bnd hm; obtain ⟨ha29_2e, ha29_2l⟩ := app_some ha29_2
   refine Wy (.own 5) [(3, .gone), (5, (Ar 47 4 enc_GValue a29_2))] (Oap rfl elemOK_23 enc_GValue_len ha29_2e ha29_2l) <| Wz (.loc 2 4) (Ofa rfl) <| Wy (.tup []) [(2, (.box [(.i p0.Time), (.i p0.Source), (.i p0.Seq), (.s p0.Type_), (.own 5)]))] (Ost rfl) <| Wdr <| Ino <| Tk 30 39 ⟨tp 1 (.loc 0 0::.loc 1 0::.loc 2 0::.i y4_0::tp 27 []), [(.box [(.i p0.Time), (.i p0.Source), (.i p0.Seq), (.s p0.Type_), (.l enc_GValue p0.Vals)]), (.box [(.i 0), (.i 0), (.i 0), (.s ([] : List UInt8)), (.d .nil)]), (.box [(.i p0.Time), (.i p0.Source), (.i p0.Seq), (.s p0.Type_), (.own 5)]), .gone, .gone, (Ar 47 4 enc_GValue a29_2)], 0⟩ <| Tx <| Wm (.i y4_0) rfl <| Wz (.i (W6 (y4_0 + 1))) (Obn rfl (fun _ => hb_add (k := .i64))) <| Wm (.i (W6 (y4_0 + 1))) rfl <| Wn0 <| RoundK.normal ?_
   exact Rounds.weak (Weak.toK 30 0 0 [0, 1, 2, 5]) (ih_0 (fu_0, a29_2, (W6 (y4_0 + 1))) hm (Nat.lt_succ_self _))
  ·
   replace hm := cF hc18_3 hm
   refine AiF hc18_3 <| AWP.exit <| Then.exit <| RoundK.exit <| InBlock.same <| Tk 12 14 ⟨tp 2 (.loc 1 0::.loc 2 0::tp 28 []), [.gone, (.box [(.i 0), (.i 0), (.i 0), (.s ([] : List UInt8)), (.d .nil)]), (.box [(.i p0.Time), (.i p0.Source), (.i p0.Seq), (.s p0.Type_), (.own 3)]), (Ar 47 4 enc_GValue y3_d_4_0)], 0⟩ <| Sx <| Wz (.agg [(.i p0.Time), (.i p0.Source), (.i p0.Seq), (.s p0.Type_), (.own 3)]) (Old rfl) <| Wy (.tup []) [(1, (.box [(.i p0.Time), (.i p0.Source), (.i p0.Seq), (.s p0.Type_), (.own 3)]))] (Ost rfl) <| Nn <| Rt ?_
   obtain rfl := Option.some.inj hm
   exact ret_i [3]

theorem ok_telltaleref07_Same (p0 : GEvent) (p1 : GEvent) (r : Bool) (h : m_telltaleref07_Same p0 p1 = some r) : GCall Try.prog 20 [(.agg [(.i p0.Time), (.i p0.Source), (.i p0.Seq), (.s p0.Type_), (.l enc_GValue p0.Vals)]), (.agg [(.i p1.Time), (.i p1.Source), (.i p1.Seq), (.s p1.Type_), (.l enc_GValue p1.Vals)])] [] (.b r) [] := by
 refine GCall.of_body (n := 59) (rs := [(.tmp 4)]) Try.func20 rfl rfl rfl <| Ato ⟨.agg [(.i p0.Time), (.i p0.Source), (.i p0.Seq), (.s p0.Type_), (.l enc_GValue p0.Vals)]::.agg [(.i p1.Time), (.i p1.Source), (.i p1.Seq), (.s p1.Type_), (.l enc_GValue p1.Vals)]::tu 57 [], [], 0⟩ ?_
 have hm := h
 unfold m_telltaleref07_Same at hm
 refine Sx <| Wy (.loc 0 0) [(0, (.box [(.i p0.Time), (.i p0.Source), (.i p0.Seq), (.s p0.Type_), (.l enc_GValue p0.Vals)]))] (Obx rfl) <| Wy (.loc 1 0) [(1, (.box [(.i p1.Time), (.i p1.Source), (.i p1.Seq), (.s p1.Type_), (.l enc_GValue p1.Vals)]))] (Obx rfl) <| Wm (.b false) rfl <| Nk 12 3 ⟨tp 2 (.loc 0 0::.loc 1 0::tp 55 []), [(.box [(.i p0.Time), (.i p0.Source), (.i p0.Seq), (.s p0.Type_), (.l enc_GValue p0.Vals)]), (.box [(.i p1.Time), (.i p1.Source), (.i p1.Seq), (.s p1.Type_), (.l enc_GValue p1.Vals)])], 0⟩ <| Sq ?_
 refine AWP.cutJ (α := Unit) (fun x => match x with | () => (⟨tp 2 (.loc 0 0::.loc 1 0::tp 36 (.b true::tp 18 [])), [(.box [(.i p0.Time), (.i p0.Source), (.i p0.Seq), (.s p0.Type_), (.l enc_GValue p0.Vals)]), (.box [(.i p1.Time), (.i p1.Source), (.i p1.Seq), (.s p1.Type_), (.l enc_GValue p1.Vals)])], 0⟩ : St)) (fun x => match x with | () => m_telltaleref07_Same_j1  = some r) ?_ (fun J1 => ?_)
 ·
  rintro ⟨⟩ hm
  try dsimp only at hm ⊢
  unfold m_telltaleref07_Same_j1 at hm
  refine AWP.if_ true (by kernel_rfl) <| Sx <| Wm (.b false) rfl <| Nn <| Rt <| Tr ?_
  obtain rfl := Option.some.inj hm
  exact ret_i []
 refine Sx <| Wz (.loc 0 0) (Ofa rfl) <| Wz (.i p0.Time) (Old rfl) <| Wz (.loc 1 0) (Ofa rfl) <| Wz (.i p1.Time) (Old rfl) <| Wz (.b (decide (p0.Time ≠ p1.Time))) (Obn rfl (fun _ => hb_neq (k := .i64))) ?_
 rcases tf_ (decide (p0.Time ≠ p1.Time)) with hq11_0 | hq11_0
 ·
  replace hm := cT hq11_0 hm
  refine Wz (.b true) (Oq hq11_0 rfl) <| Wn <| Wn <| Wn <| Wn <| Wn <| Wz (.b true) (OpT rfl) <| Wm (.b true) rfl <| Wn <| Wn <| Wn <| Wn <| Wn <| Wz (.b true) (OpT rfl) ?_
  refine Wm (.b true) rfl <| Wn <| Wn <| Wn <| Wn <| Wn <| Wz (.b true) (OpT rfl) <| Wm (.b true) rfl <| Wn <| Wn <| Wn <| Wn <| Wn <| Wn ?_
  refine Wn <| Wz (.b true) (OpT rfl) <| Nn ?_
  exact AWP.weak (Weak.toK 1099511627788 0 0 [0, 1]) (J1 () hm)
 ·
  replace hm := cF hq11_0 hm
  refine Wz (.b false) (Oq hq11_0 rfl) <| Wz (.loc 0 1) (Ofa rfl) <| Wz (.i p0.Source) (Old rfl) <| Wz (.loc 1 1) (Ofa rfl) <| Wz (.i p1.Source) (Old rfl) <| Wz (.b (decide (p0.Source ≠ p1.Source))) (Obn rfl (fun _ => hb_neq (k := .i64))) <| Wz (.b (decide (p0.Source ≠ p1.Source))) (OpF rfl) ?_
  rcases tf_ (decide (p0.Source ≠ p1.Source)) with hq18_0 | hq18_0
  ·
   replace hm := cT hq18_0 hm
   refine Wz (.b true) (Oq hq18_0 rfl) <| Wn <| Wn <| Wn <| Wn <| Wn <| Wz (.b true) (OpT rfl) <| Wm (.b true) rfl <| Wn <| Wn <| Wn <| Wn <| Wn <| Wz (.b true) (OpT rfl) ?_
   refine Wm (.b true) rfl <| Wn <| Wn <| Wn <| Wn <| Wn <| Wn <| Wn <| Wz (.b true) (OpT rfl) <| Nn ?_
   exact AWP.weak (Weak.toK 1099511627788 0 0 [0, 1]) (J1 () hm)
  ·
   replace hm := cF hq18_0 hm
   refine Wz (.b false) (Oq hq18_0 rfl) <| Wz (.loc 0 2) (Ofa rfl) <| Wz (.i p0.Seq) (Old rfl) <| Wz (.loc 1 2) (Ofa rfl) <| Wz (.i p1.Seq) (Old rfl) <| Wz (.b (decide (p0.Seq ≠ p1.Seq))) (Obn rfl (fun _ => hb_neq (k := .i64))) <| Wz (.b (decide (p0.Seq ≠ p1.Seq))) (OpF rfl) ?_
   rcases tf_ (decide (p0.Seq ≠ p1.Seq)) with hq25_0 | hq25_0
   ·
    replace hm := cT hq25_0 hm
    refine Wz (.b true) (Oq hq25_0 rfl) <| Wn <| Wn <| Wn <| Wn <| Wn <| Wz (.b true) (OpT rfl) <| Wm (.b true) rfl <| Wn <| Wn <| Wn <| Wn <| Wn <| Wn ?_
    refine Wn <| Wz (.b true) (OpT rfl) <| Nn ?_
    exact AWP.weak (Weak.toK 1099511627788 0 0 [0, 1]) (J1 () hm)
   ·
    replace hm := cF hq25_0 hm
    refine Wz (.b false) (Oq hq25_0 rfl) <| Wz (.loc 0 3) (Ofa rfl) <| Wz (.s p0.Type_) (Old rfl) <| Wz (.loc 1 3) (Ofa rfl) <| Wz (.s p1.Type_) (Old rfl) <| Wz (.b (decide (p0.Type_ ≠ p1.Type_))) (Ocs (lit_tf (by simp only [toS_inj, ne_eq])) (op_bin rfl (a1 := .string (toS p0.Type_)) (a2 := .string (toS p1.Type_)) (by kernel_rfl) (by kernel_rfl) (fun _ => hb_sneq))) <| Wz (.b (decide (p0.Type_ ≠ p1.Type_))) (OpF rfl) ?_
    rcases tf_ (decide (p0.Type_ ≠ p1.Type_)) with hq32_0 | hq32_0
    ·
     replace hm := cT hq32_0 hm
     refine Wz (.b true) (Oq hq32_0 rfl) <| Wn <| Wn <| Wn <| Wn <| Wn <| Wn <| Wn <| Wz (.b true) (OpT rfl) <| Nn ?_
     exact AWP.weak (Weak.toK 1099511627788 0 0 [0, 1]) (J1 () hm)
    ·
     replace hm := cF hq32_0 hm
     refine Wz (.b false) (Oq hq32_0 rfl) <| Wz (.loc 0 4) (Ofa rfl) <| Wz (.l enc_GValue p0.Vals) (Old rfl) <| Wz (.i ((List.length p0.Vals : Nat) : Int)) (Oln rfl) <| Wz (.loc 1 4) (Ofa rfl) <| Wz (.l enc_GValue p1.Vals) (Old rfl) <| Wz (.i ((List.length p1.Vals : Nat) : Int)) (Oln rfl) <| Wz (.b (decide (((List.length p0.Vals : Nat) : Int) ≠ ((List.length p1.Vals : Nat) : Int)))) (Obn rfl (fun _ => hb_neq (k := .i64))) <| Wz (.b (decide (((List.length p0.Vals : Nat) : Int) ≠ ((List.length p1.Vals : Nat) : Int)))) (OpF rfl) <| Nk 1099511627788 3 ⟨tp 2 (.loc 0 0::.loc 1 0::tp 36 (.b (decide (((List.length p0.Vals : Nat) : Int) ≠ ((List.length p1.Vals : Nat) : Int)))::tp 18 [])), [(.box [(.i p0.Time), (.i p0.Source), (.i p0.Seq), (.s p0.Type_), (.l enc_GValue p0.Vals)]), (.box [(.i p1.Time), (.i p1.Source), (.i p1.Seq), (.s p1.Type_), (.l enc_GValue p1.Vals)])], 0⟩ ?_
     rcases tf_ (decide (((List.length p0.Vals : Nat) : Int) ≠ ((List.length p1.Vals : Nat) : Int))) with hc40_5 | hc40_5
     ·
      replace hm := cT hc40_5 hm
      refine AiT hc40_5 <| Sx <| Wm (.b false) rfl <| Nn <| Rt <| Tr ?_
      obtain rfl := Option.some.inj hm
      exact ret_i []
     ·
      replace hm := cF hc40_5 hm
      refine AiF hc40_5 <| Sk <| Tk 12 3 ⟨tp 2 (.loc 0 0::.loc 1 0::tp 55 []), [(.box [(.i p0.Time), (.i p0.Source), (.i p0.Seq), (.s p0.Type_), (.l enc_GValue p0.Vals)]), (.box [(.i p1.Time), (.i p1.Source), (.i p1.Seq), (.s p1.Type_), (.l enc_GValue p1.Vals)])], 0⟩ <| Sq <| Sx <| Wm (.i 0) rfl <| Nk 44 3 ⟨tp 2 (.loc 0 0::.loc 1 0::tp 1 (.i 0::tp 53 [])), [(.box [(.i p0.Time), (.i p0.Source), (.i p0.Seq), (.s p0.Type_), (.l enc_GValue p0.Vals)]), (.box [(.i p1.Time), (.i p1.Source), (.i p1.Seq), (.s p1.Type_), (.l enc_GValue p1.Vals)])], 0⟩ <| Bk ?_
      refine AWP.loopI (α := Nat × Int)
        (fun (fu_2, y5_2) => (⟨tp 2 (.loc 0 0::.loc 1 0::tp 1 (.i y5_2::tp 53 [])), [(.box [(.i p0.Time), (.i p0.Source), (.i p0.Seq), (.s p0.Type_), (.l enc_GValue p0.Vals)]), (.box [(.i p1.Time), (.i p1.Source), (.i p1.Seq), (.s p1.Type_), (.l enc_GValue p1.Vals)])], 0⟩ : St))
        (fun (fu_2, y5_2) => m_telltaleref07_Same_l2 p0 p1 fu_2 y5_2 = some r)
        (fun (fu_2, y5_2) => fu_2) (1152921504606846976, 0)
        (Weak.toK 44 0 0 [0, 1]) hm ?_
      rintro ⟨fu_2, y5_2⟩ n_2 hm ih_2
      try dsimp only at hm ih_2 ⊢
      cases fu_2 with
      | zero => exact absurd hm (by unfold m_telltaleref07_Same_l2; simp)
      | succ fu_2 =>
       unfold m_telltaleref07_Same_l2 at hm
       refine Sq <| Sx <| Wm (.i y5_2) rfl <| Wz (.loc 0 4) (Ofa rfl) <| Wz (.l enc_GValue p0.Vals) (Old rfl) <| Wz (.i ((List.length p0.Vals : Nat) : Int)) (Oln rfl) <| Wz (.b (decide (y5_2 < ((List.length p0.Vals : Nat) : Int)))) (Obn rfl (fun _ => hb_lss (k := .i64))) <| Nk 35184372088876 3 ⟨tp 2 (.loc 0 0::.loc 1 0::tp 1 (.i y5_2::tp 39 (.b (decide (y5_2 < ((List.length p0.Vals : Nat) : Int)))::tp 13 []))), [(.box [(.i p0.Time), (.i p0.Source), (.i p0.Seq), (.s p0.Type_), (.l enc_GValue p0.Vals)]), (.box [(.i p1.Time), (.i p1.Source), (.i p1.Seq), (.s p1.Type_), (.l enc_GValue p1.Vals)])], 0⟩ ?_
       rcases tf_ (decide (y5_2 < ((List.length p0.Vals : Nat) : Int))) with hc45_6 | hc45_6
       ·
        replace hm := cT hc45_6 hm
        refine AiT hc45_6 <| Sk <| Tk 44 3 ⟨tp 2 (.loc 0 0::.loc 1 0::tp 1 (.i y5_2::tp 53 [])), [(.box [(.i p0.Time), (.i p0.Source), (.i p0.Seq), (.s p0.Type_), (.l enc_GValue p0.Vals)]), (.box [(.i p1.Time), (.i p1.Source), (.i p1.Seq), (.s p1.Type_), (.l enc_GValue p1.Vals)])], 0⟩ <| Sq <| Bk <| Sq <| Adr <| Wz (.loc 0 4) (Ofa rfl) <| Wz (.l enc_GValue p0.Vals) (Old rfl) <| Wm (.i y5_2) rfl ?_
        obtain ⟨x51_4, hx51_4, hm⟩ := bnd hm
        obtain ⟨hx51_4i, hx51_4g⟩ := geti_some hx51_4
        refine Wz (.d (.ref (List.drop ((Int.toNat y5_2) * 4) (flatD enc_GValue p0.Vals)))) (Oia rfl enc_GValue_len hx51_4i hx51_4g) <| Wz (.agg [(.y x51_4.Kind), (.i x51_4.N), (.u x51_4.Bits), (.s x51_4.Text)]) (Lf rfl enc_GValue_len hx51_4g) <| Wz (.loc 1 4) (Ofa rfl) <| Wz (.l enc_GValue p1.Vals) (Old rfl) <| Wm (.i y5_2) rfl ?_
        obtain ⟨x56_4, hx56_4, hm⟩ := bnd hm
        obtain ⟨hx56_4i, hx56_4g⟩ := geti_some hx56_4
        refine Wz (.d (.ref (List.drop ((Int.toNat y5_2) * 4) (flatD enc_GValue p1.Vals)))) (Oia rfl enc_GValue_len hx56_4i hx56_4g) <| Wz (.agg [(.y x56_4.Kind), (.i x56_4.N), (.u x56_4.Bits), (.s x56_4.Text)]) (Lf rfl enc_GValue_len hx56_4g) ?_
        obtain ⟨v58_4, hv58_4, hm⟩ := bnd hm; replace hv58_4 := Option.some.inj hv58_4
        refine Wz (.b v58_4) (Ocs (Eq.trans (lit_tf (by simp only [toS_inj])) (congrArg (fun z => A.d (.lit (.bool z))) hv58_4)) (op_neq_struct rfl (la := [(.y x51_4.Kind), (.i x51_4.N), (.u x51_4.Bits), (.s x51_4.Text)]) (lb := [(.y x56_4.Kind), (.i x56_4.N), (.u x56_4.Bits), (.s x56_4.Text)]) (us := [.int .u8 ((x51_4.Kind.toNat : Nat) : Int), .int .i64 x51_4.N, .int .u64 x51_4.Bits, .string (toS x51_4.Text)]) (vs := [.int .u8 ((x56_4.Kind.toNat : Nat) : Int), .int .i64 x56_4.N, .int .u64 x56_4.Bits, .string (toS x56_4.Text)]) (r := (decide (((x51_4.Kind.toNat : Nat) : Int) = ((x56_4.Kind.toNat : Nat) : Int)) && (decide (x51_4.N = x56_4.N) && (decide (x51_4.Bits = x56_4.Bits) && (decide ((toS x51_4.Text) = (toS x56_4.Text)) && true))))) (by kernel_rfl) (by kernel_rfl) (by kernel_rfl) (by kernel_rfl) (by kernel_rfl))) <| Wdr <| Tk 288230376151711788 3 ⟨tp 2 (.loc 0 0::.loc 1 0::tp 1 (.i y5_2::tp 52 (.b v58_4::[]))), [(.box [(.i p0.Time), (.i p0.Source), (.i p0.Seq), (.s p0.Type_), (.l enc_GValue p0.Vals)]), (.box [(.i p1.Time), (.i p1.Source), (.i p1.Seq), (.s p1.Type_), (.l enc_GValue p1.Vals)])], 0⟩ ?_
        rcases tf_ v58_4 with hc58_7 | hc58_7
        ·
         replace hm := cT hc58_7 hm
         refine AiT hc58_7 <| Sx <| Wm (.b false) rfl <| Nn <| Rt <| Ir <| Tr <| RoundK.ret <| Ir <| Tr ?_
         obtain rfl := Option.some.inj hm
         exact ret_i []
        ·
         replace hm := cF hc58_7 hm
         refine AiF hc58_7 <| Sk <| Ino <| Tk 44 3 ⟨tp 2 (.loc 0 0::.loc 1 0::tp 1 (.i y5_2::tp 53 [])), [(.box [(.i p0.Time), (.i p0.Source), (.i p0.Seq), (.s p0.Type_), (.l enc_GValue p0.Vals)]), (.box [(.i p1.Time), (.i p1.Source), (.i p1.Seq), (.s p1.Type_), (.l enc_GValue p1.Vals)])], 0⟩ <| Tx <| Wm (.i y5_2) rfl <| Wz (.i (W6 (y5_2 + 1))) (Obn rfl (fun _ => hb_add (k := .i64))) <| Wm (.i (W6 (y5_2 + 1))) rfl <| Wn0 <| RoundK.normal ?_
         exact Rounds.weak (Weak.toK 44 0 0 [0, 1]) (ih_2 (fu_2, (W6 (y5_2 + 1))) hm (Nat.lt_succ_self _))
       ·
        replace hm := cF hc45_6 hm
        refine AiF hc45_6 <| AWP.exit <| Then.exit <| RoundK.exit <| InBlock.same <| Tk 0 0 ⟨tp 59 [], [.gone, .gone], 0⟩ <| Sx <| Wm (.b true) rfl <| Nn <| Rt ?_
        obtain rfl := Option.some.inj hm
        exact ret_i []

theorem ok_telltalelaw07_EventTakes (p0 : (List GType)) (p1 : (List UInt8)) (p2 : Int) (r : Bool) (h : m_telltalelaw07_EventTakes p0 p1 p2 = some r) : GCall Try.prog 4 [(.l enc_GType p0), (.s p1), (.i p2)] [] (.b r) [] := by
 refine GCall.of_body (n := 56) (rs := [(.tmp 6)]) Try.func4 rfl rfl rfl <| Ato ⟨.l enc_GType p0::.s p1::.i p2::tu 53 [], [], 0⟩ ?_
 have hm := h
 unfold m_telltalelaw07_EventTakes at hm
 refine Sx <| Wm (.b false) rfl <| Nk 7 0 ⟨.l enc_GType p0::.s p1::.i p2::tp 53 [], [], 0⟩ <| Sq <| Sx <| Wm (.l enc_GType p0) rfl ?_
 obtain ⟨r14_0, hr14_0, hm⟩ := bnd hm
 refine Wz (.i r14_0) (Ocf [] [] [] 0 (ok_telltalelaw06_Over p0 r14_0 hr14_0) (fun a w => Try.call7 a w) rfl trivial) <| Wz (.b (decide ((0 : Int) < r14_0))) (Obn rfl (fun _ => hb_gtr (k := .i64))) ?_
 rcases tf_ (decide ((0 : Int) < r14_0)) with hq16_0 | hq16_0
 ·
  replace hm := cT hq16_0 hm
  refine Wz (.b true) (Oq hq16_0 rfl) <| Wn <| Wn <| Wn <| Wz (.b true) (OpT rfl) <| Nk 1048583 0 ⟨.l enc_GType p0::.s p1::.i p2::tp 17 (.b true::tp 35 []), [], 0⟩ <| AWP.if_ true (by kernel_rfl) <| Sx ?_
  obtain ⟨r21_1, hr21_1, hm⟩ := bnd hm
  refine Wz (.b r21_1) (Ocf [] [] [] 0 (ok_telltalelaw07_awake  r21_1 hr21_1) (fun a w => Try.call9 a w) rfl trivial) <| Wm (.b r21_1) rfl <| Nn <| Rt <| Tr ?_
  obtain rfl := Option.some.inj hm
  exact ret_i []
 ·
  replace hm := cF hq16_0 hm
  refine Wz (.b false) (Oq hq16_0 rfl) <| Wm (.s p1) rfl <| Wz (.i ((List.length p1 : Nat) : Int)) (Oln rfl) <| Wz (.b (decide ((300 : Int) < ((List.length p1 : Nat) : Int)))) (Obn rfl (fun _ => hb_gtr (k := .i64))) <| Wz (.b (decide ((300 : Int) < ((List.length p1 : Nat) : Int)))) (OpF rfl) <| Nk 1048583 0 ⟨.l enc_GType p0::.s p1::.i p2::tp 17 (.b (decide ((300 : Int) < ((List.length p1 : Nat) : Int)))::tp 35 []), [], 0⟩ ?_
  rcases tf_ (decide ((300 : Int) < ((List.length p1 : Nat) : Int))) with hc20_6 | hc20_6
  ·
   replace hm := cT hc20_6 hm
   refine AiT hc20_6 <| Sx ?_
   obtain ⟨r21_2, hr21_2, hm⟩ := bnd hm
   refine Wz (.b r21_2) (Ocf [] [] [] 0 (ok_telltalelaw07_awake  r21_2 hr21_2) (fun a w => Try.call9 a w) rfl trivial) <| Wm (.b r21_2) rfl <| Nn <| Rt <| Tr ?_
   obtain rfl := Option.some.inj hm
   exact ret_i []
  ·
   replace hm := cF hc20_6 hm
   refine AiF hc20_6 <| Sk <| Tk 7 0 ⟨.l enc_GType p0::.s p1::.i p2::tp 53 [], [], 0⟩ <| Sx <| Wm (.l enc_GType p0) rfl ?_
   obtain ⟨r24_3, hr24_3, hm⟩ := bnd hm
   refine Wy (.own 0) [(0, (Ar 83 2 enc_GType r24_3))] (Ocf [] [0] [] 0 (ok_telltalelaw06_Own p0 r24_3 hr24_3) (fun a w => Try.call10 a w) rfl trivial) <| Wm (.s p1) rfl <| Wm (.i p2) rfl ?_
   obtain ⟨r27_3, hr27_3, hm⟩ := bnd hm
   refine Wy (.tup [(.agg [(.i r27_3.1.Time), (.i r27_3.1.Source), (.i r27_3.1.Seq), (.s r27_3.1.Type_), (.own 1)]), (.i r27_3.2.1), (.i r27_3.2.2)]) [(1, (Ar 44 4 enc_GValue r27_3.1.Vals))] (Ocp [] [1] [0] 0 (ok_event_Take r24_3 p1 p2 r27_3 hr27_3) (⟨by simp [A.Plain, A.Plains, D.Plain, byteD], plain_cons (flat_plain enc_GValue_plain) (plain_nil)⟩) (fun a w => Try.call18 a w) rfl trivial) <| Wm (.tup [(.agg [(.i r27_3.1.Time), (.i r27_3.1.Source), (.i r27_3.1.Seq), (.s r27_3.1.Type_), (.own 1)]), (.i r27_3.2.1), (.i r27_3.2.2)]) rfl <| Wz (.agg [(.i r27_3.1.Time), (.i r27_3.1.Source), (.i r27_3.1.Seq), (.s r27_3.1.Type_), (.own 1)]) (Oex rfl) <| Wz (.i r27_3.2.1) (Oex rfl) <| Wz (.i r27_3.2.2) (Oex rfl) <| Wy (.loc 2 0) [(2, (.box [(.i 0), (.i 0), (.i 0), (.s ([] : List UInt8)), (.d .nil)]))] (Oal rfl) <| Wy (.tup []) [(2, (.box [(.i r27_3.1.Time), (.i r27_3.1.Source), (.i r27_3.1.Seq), (.s r27_3.1.Type_), (.own 1)]))] (Ost rfl) <| Wm (.i r27_3.2.1) rfl <| Wm (.i r27_3.2.2) rfl <| Nk 903 6 ⟨.l enc_GType p0::.s p1::.i p2::tp 4 (.loc 2 0::.i r27_3.2.1::.i r27_3.2.2::tp 46 []), [.gone, (Ar 44 4 enc_GValue r27_3.1.Vals), (.box [(.i r27_3.1.Time), (.i r27_3.1.Source), (.i r27_3.1.Seq), (.s r27_3.1.Type_), (.own 1)])], 0⟩ <| Sx <| Wm (.l enc_GType p0) rfl <| Wm (.s p1) rfl <| Wm (.i p2) rfl ?_
   obtain ⟨r35_4, hr35_4, hm⟩ := bnd hm
   refine Wy (.tup [(.agg [(.i r35_4.1.Time), (.i r35_4.1.Source), (.i r35_4.1.Seq), (.s r35_4.1.Type_), (.own 3)]), (.i r35_4.2.1), (.i r35_4.2.2)]) [(3, (Ar 47 4 enc_GValue r35_4.1.Vals))] (Ocf [] [3] [] 0 (ok_telltaleref07_Take p0 p1 p2 r35_4 hr35_4) (fun a w => Try.call19 a w) rfl trivial) <| Wm (.tup [(.agg [(.i r35_4.1.Time), (.i r35_4.1.Source), (.i r35_4.1.Seq), (.s r35_4.1.Type_), (.own 3)]), (.i r35_4.2.1), (.i r35_4.2.2)]) rfl <| Wz (.agg [(.i r35_4.1.Time), (.i r35_4.1.Source), (.i r35_4.1.Seq), (.s r35_4.1.Type_), (.own 3)]) (Oex rfl) <| Wz (.i r35_4.2.1) (Oex rfl) <| Wz (.i r35_4.2.2) (Oex rfl) <| Wy (.loc 4 0) [(4, (.box [(.i 0), (.i 0), (.i 0), (.s ([] : List UInt8)), (.d .nil)]))] (Oal rfl) <| Wy (.tup []) [(4, (.box [(.i r35_4.1.Time), (.i r35_4.1.Source), (.i r35_4.1.Seq), (.s r35_4.1.Type_), (.own 3)]))] (Ost rfl) <| Wm (.i r35_4.2.1) rfl <| Wm (.i r35_4.2.2) rfl <| Nk 8064 30 ⟨tp 7 (.loc 2 0::.i r27_3.2.1::.i r27_3.2.2::.loc 4 0::.i r35_4.2.1::.i r35_4.2.2::tp 43 []), [.gone, (Ar 44 4 enc_GValue r27_3.1.Vals), (.box [(.i r27_3.1.Time), (.i r27_3.1.Source), (.i r27_3.1.Seq), (.s r27_3.1.Type_), (.own 1)]), (Ar 47 4 enc_GValue r35_4.1.Vals), (.box [(.i r35_4.1.Time), (.i r35_4.1.Source), (.i r35_4.1.Seq), (.s r35_4.1.Type_), (.own 3)])], 0⟩ <| Sq <| Adr <| Wz (.agg [(.i r27_3.1.Time), (.i r27_3.1.Source), (.i r27_3.1.Seq), (.s r27_3.1.Type_), (.own 1)]) (Old rfl) ?_
   obtain ⟨r40_5, hr40_5, hm⟩ := bnd hm
   refine Wy (.agg [(.i r40_5.Time), (.i r40_5.Source), (.i r40_5.Seq), (.s r40_5.Type_), (.own 5)]) [(5, (Ar 47 4 enc_GValue r40_5.Vals))] (Ocp [] [5] [1] 0 (ok_telltalelaw07_Back r27_3.1 r40_5 hr40_5) (⟨by simp [A.Plain, A.Plains, D.Plain, byteD], plain_cons (flat_plain enc_GValue_plain) (plain_nil)⟩) (fun a w => Try.call21 a w) rfl trivial) <| Wz (.agg [(.i r35_4.1.Time), (.i r35_4.1.Source), (.i r35_4.1.Seq), (.s r35_4.1.Type_), (.own 3)]) (Old rfl) ?_
   obtain ⟨r42_5, hr42_5, hm⟩ := bnd hm
   refine Wz (.b r42_5) (Ocp [] [] [5, 3] 0 (ok_telltaleref07_Same r40_5 r35_4.1 r42_5 hr42_5) (plain_triv (by simp [A.Plain, A.Plains, D.Plain, byteD])) (fun a w => Try.call20 a w) rfl trivial) ?_
   rcases tf_ r42_5 with hq43_5 | hq43_5
   ·
    replace hm := cT hq43_5 hm
    refine Wz (.b true) (Oq hq43_5 rfl) <| Wm (.i r27_3.2.1) rfl <| Wm (.i r35_4.2.1) rfl <| Wz (.b (decide (r27_3.2.1 = r35_4.2.1))) (Obn rfl (fun _ => hb_eql (k := .i64))) <| Wz (.b (decide (r27_3.2.1 = r35_4.2.1))) (OpT rfl) ?_
    rcases tf_ (decide (r27_3.2.1 = r35_4.2.1)) with hq48_5 | hq48_5
    ·
     replace hm := cT hq48_5 hm
     refine Wz (.b true) (Oq hq48_5 rfl) <| Wm (.i r27_3.2.2) rfl <| Wm (.i r35_4.2.2) rfl <| Wz (.b (decide (r27_3.2.2 = r35_4.2.2))) (Obn rfl (fun _ => hb_eql (k := .i64))) <| Wz (.b (decide (r27_3.2.2 = r35_4.2.2))) (OpT rfl) ?_
     rcases tf_ (decide (r27_3.2.2 = r35_4.2.2)) with hq53_5 | hq53_5
     ·
      replace hm := cT hq53_5 hm
      refine Wz (.b true) (Oq hq53_5 rfl) ?_
      obtain ⟨r54_5, hr54_5, hm⟩ := bnd hm
      refine Wz (.b r54_5) (Ocf [] [] [] 0 (ok_telltalelaw07_awake  r54_5 hr54_5) (fun a w => Try.call9 a w) rfl trivial) <| Wz (.b r54_5) (OpT rfl) <| Wm (.b r54_5) rfl <| Wdr <| Tn <| Rt ?_
      obtain rfl := Option.some.inj hm
      exact ret_i []
     ·
      replace hm := cF hq53_5 hm
      refine Wz (.b false) (Oq hq53_5 rfl) <| Wn <| Wz (.b false) (OpF rfl) <| Wm (.b false) rfl <| Wdr <| Tn <| Rt ?_
      obtain rfl := Option.some.inj hm
      exact ret_i []
    ·
     replace hm := cF hq48_5 hm
     refine Wz (.b false) (Oq hq48_5 rfl) <| Wn <| Wn <| Wn <| Wz (.b false) (OpF rfl) <| Wm (.b false) rfl <| Wn <| Wz (.b false) (OpF rfl) <| Wm (.b false) rfl <| Wdr <| Tn <| Rt ?_
     obtain rfl := Option.some.inj hm
     exact ret_i []
   ·
    replace hm := cF hq43_5 hm
    refine Wz (.b false) (Oq hq43_5 rfl) <| Wn <| Wn <| Wn <| Wz (.b false) (OpF rfl) <| Wm (.b false) rfl <| Wn <| Wn <| Wn <| Wz (.b false) (OpF rfl) <| Wm (.b false) rfl <| Wn <| Wz (.b false) (OpF rfl) <| Wm (.b false) rfl ?_
    refine Wdr <| Tn <| Rt ?_
    obtain rfl := Option.some.inj hm
    exact ret_i []
end Go.Proofs.Ytbgioanegbipgaa.K
