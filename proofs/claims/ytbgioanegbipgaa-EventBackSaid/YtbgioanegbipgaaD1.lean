/- what telltalelaw07.EventBack needs (1) -/
import Derived.Test.YtbgioanegbipgaaD0
namespace Go.Proofs.Ytbgioanegbipgaa.K
open Go.RowKit Go.Lib
set_option linter.unusedVariables false
set_option linter.unusedSimpArgs false
set_option maxRecDepth 20000
set_option maxHeartbeats 4000000

theorem ok_event_Take (p0 : (List GType)) (p1 : (List UInt8)) (p2 : Int) (r : (GEvent × Int × Int)) (h : m_event_Take p0 p1 p2 = some r) : GCall Try.prog 18 [(.l enc_GType p0), (.s p1), (.i p2)] [] (.tup [(.agg [(.i r.1.Time), (.i r.1.Source), (.i r.1.Seq), (.s r.1.Type_), (.own 0)]), (.i r.2.1), (.i r.2.2)]) [(Ar 44 4 enc_GValue r.1.Vals)] := by
 refine GCall.of_body (n := 98) (rs := [(.cell 6 34), (.tmp 7), (.tmp 8)]) Try.func18 rfl rfl rfl <| Ato ⟨.l enc_GType p0::.s p1::.i p2::tu 95 [], [], 0⟩ ?_
 have hm := h
 unfold m_event_Take at hm
 refine Sx <| Wy (.loc 0 0) [(0, (.box [(.i 0), (.i 0), (.i 0), (.s ([] : List UInt8)), (.d .nil)]))] (Oal rfl) <| Wm (.i 0) rfl <| Wm (.i 0) rfl <| Nk 71 1 ⟨.l enc_GType p0::.s p1::.i p2::tp 3 (.loc 0 0::tp 91 []), [(.box [(.i 0), (.i 0), (.i 0), (.s ([] : List UInt8)), (.d .nil)])], 0⟩ <| Sq ?_
 refine AWP.cutJ (α := Unit) (fun x => match x with | () => (⟨.l enc_GType p0::.s p1::.i p2::tp 3 (.loc 0 0::tp 21 (.b true::tp 69 [])), [(.box [(.i 0), (.i 0), (.i 0), (.s ([] : List UInt8)), (.d .nil)])], 0⟩ : St)) (fun x => match x with | () => m_event_Take_j1  = some r) ?_ (fun J1 => ?_)
 ·
  rintro ⟨⟩ hm
  try dsimp only at hm ⊢
  unfold m_event_Take_j1 at hm
  refine AWP.if_ true (by kernel_rfl) <| Sx <| Wz (.agg [(.i 0), (.i 0), (.i 0), (.s ([] : List UInt8)), (.d .nil)]) (Obd rfl) <| Wy (.tup []) [(0, (.box [(.i 0), (.i 0), (.i 0), (.s ([] : List UInt8)), (.d .nil)]))] (Ost rfl) <| Wm (.i 0) rfl <| Wm (.i 2) rfl <| Nn <| Aob 0 4 44 4 ⟨.l enc_GType p0::.s p1::.i p2::tp 3 (.loc 0 0::.i 0::.i 2::tp 19 (.b true::.agg [(.i 0), (.i 0), (.i 0), (.s ([] : List UInt8)), (.d .nil)]::tp 68 [])), [(.box [(.i 0), (.i 0), (.i 0), (.s ([] : List UInt8)), (.own 1)]), (Ar 44 4 enc_GValue ([] : List GValue))], 0⟩ <| Rt <| Tr ?_
  obtain rfl := Option.some.inj hm
  exact ret_i [1]
 refine Sx <| Wm (.l enc_GType p0) rfl ?_
 obtain ⟨r17_0, hr17_0, hm⟩ := bnd hm
 refine Wz (.i r17_0) (Ocf [] [] [] 0 (ok_schema_Check p0 r17_0 hr17_0) (fun a w => Try.call47 a w) rfl trivial) <| Wz (.b (decide (r17_0 ≠ 0))) (Obn rfl (fun _ => hb_neq (k := .i64))) ?_
 rcases tf_ (decide (r17_0 ≠ 0)) with hq19_0 | hq19_0
 ·
  replace hm := cT hq19_0 hm
  refine Wz (.b true) (Oq hq19_0 rfl) <| Wn <| Wn <| Wz (.b true) (OpT rfl) <| Wm (.b true) rfl <| Wn <| Wn <| Wn <| Wn <| Wz (.b true) (OpT rfl) <| Nn ?_
  exact AWP.weak (Weak.toK 268435527 0 0 [0]) (J1 () hm)
 ·
  replace hm := cF hq19_0 hm
  refine Wz (.b false) (Oq hq19_0 rfl) <| Wm (.i p2) rfl <| Wz (.b (decide (p2 < 0))) (Obn rfl (fun _ => hb_lss (k := .i64))) <| Wz (.b (decide (p2 < 0))) (OpF rfl) ?_
  rcases tf_ (decide (p2 < 0)) with hq23_0 | hq23_0
  ·
   replace hm := cT hq23_0 hm
   refine Wz (.b true) (Oq hq23_0 rfl) <| Wn <| Wn <| Wn <| Wn <| Wz (.b true) (OpT rfl) <| Nn ?_
   exact AWP.weak (Weak.toK 268435527 0 0 [0]) (J1 () hm)
  ·
   replace hm := cF hq23_0 hm
   refine Wz (.b false) (Oq hq23_0 rfl) <| Wm (.i p2) rfl <| Wm (.s p1) rfl <| Wz (.i ((List.length p1 : Nat) : Int)) (Oln rfl) <| Wz (.b (decide (((List.length p1 : Nat) : Int) < p2))) (Obn rfl (fun _ => hb_gtr (k := .i64))) <| Wz (.b (decide (((List.length p1 : Nat) : Int) < p2))) (OpF rfl) <| Nk 268435527 1 ⟨.l enc_GType p0::.s p1::.i p2::tp 3 (.loc 0 0::tp 21 (.b (decide (((List.length p1 : Nat) : Int) < p2))::tp 69 [])), [(.box [(.i 0), (.i 0), (.i 0), (.s ([] : List UInt8)), (.d .nil)])], 0⟩ ?_
   rcases tf_ (decide (((List.length p1 : Nat) : Int) < p2)) with hc28_11 | hc28_11
   ·
    replace hm := cT hc28_11 hm
    refine AiT hc28_11 <| Sx <| Wz (.agg [(.i 0), (.i 0), (.i 0), (.s ([] : List UInt8)), (.d .nil)]) (Obd rfl) <| Wy (.tup []) [(0, (.box [(.i 0), (.i 0), (.i 0), (.s ([] : List UInt8)), (.d .nil)]))] (Ost rfl) <| Wm (.i 0) rfl <| Wm (.i 2) rfl <| Nn <| Aob 0 4 44 4 ⟨.l enc_GType p0::.s p1::.i p2::tp 3 (.loc 0 0::.i 0::.i 2::tp 19 (.b (decide (((List.length p1 : Nat) : Int) < p2))::.agg [(.i 0), (.i 0), (.i 0), (.s ([] : List UInt8)), (.d .nil)]::tp 68 [])), [(.box [(.i 0), (.i 0), (.i 0), (.s ([] : List UInt8)), (.own 1)]), (Ar 44 4 enc_GValue ([] : List GValue))], 0⟩ <| Rt <| Tr ?_
    obtain rfl := Option.some.inj hm
    exact ret_i [1]
   ·
    replace hm := cF hc28_11 hm
    refine AiF hc28_11 <| Sk <| Tk 71 1 ⟨.l enc_GType p0::.s p1::.i p2::tp 3 (.loc 0 0::tp 91 []), [(.box [(.i 0), (.i 0), (.i 0), (.s ([] : List UInt8)), (.d .nil)])], 0⟩ <| Sx <| Wm (.s p1) rfl <| Wm (.i p2) rfl ?_
    obtain ⟨r33_2, hr33_2, hm⟩ := bnd hm
    refine Wz (.tup [(.agg [(.u r33_2.1.a0), (.u r33_2.1.a1), (.u r33_2.1.a2), (.u r33_2.1.a3)]), (.i r33_2.2.1), (.i r33_2.2.2)]) (Ocf [] [] [] 0 (ok_event_numbers p1 p2 r33_2 hr33_2) (fun a w => Try.call52 a w) rfl trivial) <| Wm (.tup [(.agg [(.u r33_2.1.a0), (.u r33_2.1.a1), (.u r33_2.1.a2), (.u r33_2.1.a3)]), (.i r33_2.2.1), (.i r33_2.2.2)]) rfl <| Wz (.agg [(.u r33_2.1.a0), (.u r33_2.1.a1), (.u r33_2.1.a2), (.u r33_2.1.a3)]) (Oex rfl) <| Wz (.i r33_2.2.1) (Oex rfl) <| Wz (.i r33_2.2.2) (Oex rfl) <| Wy (.loc 1 0) [(1, (.box [(.u 0), (.u 0), (.u 0), (.u 0)]))] (Oal rfl) <| Wy (.tup []) [(1, (.box [(.u r33_2.1.a0), (.u r33_2.1.a1), (.u r33_2.1.a2), (.u r33_2.1.a3)]))] (Ost rfl) <| Wm (.i r33_2.2.1) rfl <| Wm (.i r33_2.2.2) rfl <| Nk 1731 3 ⟨.l enc_GType p0::.s p1::tp 4 (.loc 0 0::.i r33_2.2.1::tp 1 (.loc 1 0::.i r33_2.2.2::tp 87 [])), [(.box [(.i 0), (.i 0), (.i 0), (.s ([] : List UInt8)), (.d .nil)]), (.box [(.u r33_2.1.a0), (.u r33_2.1.a1), (.u r33_2.1.a2), (.u r33_2.1.a3)])], 0⟩ <| Sq <| Sx <| Wm (.i r33_2.2.2) rfl <| Wz (.b (decide (r33_2.2.2 ≠ 0))) (Obn rfl (fun _ => hb_neq (k := .i64))) ?_
    refine Nk 274877908675 3 ⟨.l enc_GType p0::.s p1::tp 4 (.loc 0 0::.i r33_2.2.1::tp 1 (.loc 1 0::.i r33_2.2.2::tp 27 (.b (decide (r33_2.2.2 ≠ 0))::tp 59 []))), [(.box [(.i 0), (.i 0), (.i 0), (.s ([] : List UInt8)), (.d .nil)]), (.box [(.u r33_2.1.a0), (.u r33_2.1.a1), (.u r33_2.1.a2), (.u r33_2.1.a3)])], 0⟩ ?_
    rcases tf_ (decide (r33_2.2.2 ≠ 0)) with hc38_12 | hc38_12
    ·
     replace hm := cT hc38_12 hm
     refine AiT hc38_12 <| Sx <| Wz (.agg [(.i 0), (.i 0), (.i 0), (.s ([] : List UInt8)), (.d .nil)]) (Obd rfl) <| Wm (.i r33_2.2.2) rfl <| Wy (.tup []) [(0, (.box [(.i 0), (.i 0), (.i 0), (.s ([] : List UInt8)), (.d .nil)]))] (Ost rfl) <| Wm (.i 0) rfl <| Wm (.i r33_2.2.2) rfl <| Nn <| Aob 0 4 44 4 ⟨.l enc_GType p0::.s p1::tp 4 (.loc 0 0::.i 0::.i r33_2.2.2::.loc 1 0::.i r33_2.2.2::tp 27 (.b (decide (r33_2.2.2 ≠ 0))::.agg [(.i 0), (.i 0), (.i 0), (.s ([] : List UInt8)), (.d .nil)]::.i r33_2.2.2::tp 57 [])), [(.box [(.i 0), (.i 0), (.i 0), (.s ([] : List UInt8)), (.own 2)]), (.box [(.u r33_2.1.a0), (.u r33_2.1.a1), (.u r33_2.1.a2), (.u r33_2.1.a3)]), (Ar 44 4 enc_GValue ([] : List GValue))], 0⟩ <| Rt <| Tr ?_
     obtain rfl := Option.some.inj hm
     exact ret_i [2]
    ·
     replace hm := cF hc38_12 hm
     refine AiF hc38_12 <| Sk <| Tk 707 3 ⟨.l enc_GType p0::.s p1::tp 4 (.loc 0 0::.i r33_2.2.1::tp 1 (.loc 1 0::tp 88 [])), [(.box [(.i 0), (.i 0), (.i 0), (.s ([] : List UInt8)), (.d .nil)]), (.box [(.u r33_2.1.a0), (.u r33_2.1.a1), (.u r33_2.1.a2), (.u r33_2.1.a3)])], 0⟩ <| Sq <| Sx <| Wz (.loc 1 3) (Ocs (by kernel_rfl) (op_iaddr_arr rfl (n := 4) (sz := 1) (y := (.loc 1 0)) (by kernel_rfl) (by kernel_rfl) (by kernel_rfl) (k := .i64) (iv := 3) (by kernel_rfl) (i := 3) (by rfl) (by decide))) <| Wz (.u r33_2.1.a3) (Old rfl) <| Wm (.l enc_GType p0) rfl <| Wz (.i ((List.length p0 : Nat) : Int)) (Oln rfl) <| Wz (.u (W7 ((List.length p0 : Nat) : Int))) (Oc2 (.int .i64 ((List.length p0 : Nat) : Int)) rfl (run_conv (ds := .int .i64) (k' := .u64) (by kernel_rfl) (by kernel_rfl))) <| Wz (.b (decide ((W7 ((List.length p0 : Nat) : Int)) ≤ r33_2.1.a3))) (Obn rfl (fun _ => hb_geq (k := .u64))) <| Nk 70368744178371 3 ⟨.l enc_GType p0::.s p1::tp 4 (.loc 0 0::.i r33_2.2.1::tp 1 (.loc 1 0::tp 36 (.b (decide ((W7 ((List.length p0 : Nat) : Int)) ≤ r33_2.1.a3))::tp 51 []))), [(.box [(.i 0), (.i 0), (.i 0), (.s ([] : List UInt8)), (.d .nil)]), (.box [(.u r33_2.1.a0), (.u r33_2.1.a1), (.u r33_2.1.a2), (.u r33_2.1.a3)])], 0⟩ ?_
     rcases tf_ (decide ((W7 ((List.length p0 : Nat) : Int)) ≤ r33_2.1.a3)) with hc46_13 | hc46_13
     ·
      replace hm := cT hc46_13 hm
      refine AiT hc46_13 <| Sx <| Wz (.agg [(.i 0), (.i 0), (.i 0), (.s ([] : List UInt8)), (.d .nil)]) (Obd rfl) <| Wy (.tup []) [(0, (.box [(.i 0), (.i 0), (.i 0), (.s ([] : List UInt8)), (.d .nil)]))] (Ost rfl) <| Wm (.i 0) rfl <| Wm (.i 6) rfl <| Nn <| Aob 0 4 44 4 ⟨.l enc_GType p0::.s p1::tp 4 (.loc 0 0::.i 0::.i 6::.loc 1 0::tp 36 (.b (decide ((W7 ((List.length p0 : Nat) : Int)) ≤ r33_2.1.a3))::.agg [(.i 0), (.i 0), (.i 0), (.s ([] : List UInt8)), (.d .nil)]::tp 50 [])), [(.box [(.i 0), (.i 0), (.i 0), (.s ([] : List UInt8)), (.own 2)]), (.box [(.u r33_2.1.a0), (.u r33_2.1.a1), (.u r33_2.1.a2), (.u r33_2.1.a3)]), (Ar 44 4 enc_GValue ([] : List GValue))], 0⟩ <| Rt <| Tr ?_
      obtain rfl := Option.some.inj hm
      exact ret_i [2]
     ·
      replace hm := cF hc46_13 hm
      refine AiF hc46_13 <| Sk <| Tk 707 3 ⟨.l enc_GType p0::.s p1::tp 4 (.loc 0 0::.i r33_2.2.1::tp 1 (.loc 1 0::tp 88 [])), [(.box [(.i 0), (.i 0), (.i 0), (.s ([] : List UInt8)), (.d .nil)]), (.box [(.u r33_2.1.a0), (.u r33_2.1.a1), (.u r33_2.1.a2), (.u r33_2.1.a3)])], 0⟩ <| Sx <| Wm (.l enc_GType p0) rfl <| Wz (.loc 1 3) (Ocs (by kernel_rfl) (op_iaddr_arr rfl (n := 4) (sz := 1) (y := (.loc 1 0)) (by kernel_rfl) (by kernel_rfl) (by kernel_rfl) (k := .i64) (iv := 3) (by kernel_rfl) (i := 3) (by rfl) (by decide))) <| Wz (.u r33_2.1.a3) (Old rfl) ?_
      obtain ⟨x51_4, hx51_4, hm⟩ := bnd hm
      obtain ⟨hx51_4i, hx51_4g⟩ := geti_some hx51_4
      refine Wz (.d (.ref (List.drop ((Int.toNat r33_2.1.a3) * 2) (flatD enc_GType p0)))) (Oia rfl enc_GType_len hx51_4i hx51_4g) <| Wz (.agg [(.s x51_4.Name), (.l enc_GField x51_4.Fields)]) (Lf rfl enc_GType_len hx51_4g) <| Wy (.loc 2 0) [(2, (.box [(.s ([] : List UInt8)), (.d .nil)]))] (Oal rfl) <| Wy (.tup []) [(2, (.box [(.s x51_4.Name), (.l enc_GField x51_4.Fields)]))] (Ost rfl) <| Nk 2755 7 ⟨.l enc_GType p0::.s p1::tp 4 (.loc 0 0::.i r33_2.2.1::tp 1 (.loc 1 0::tp 1 (.loc 2 0::tp 86 []))), [(.box [(.i 0), (.i 0), (.i 0), (.s ([] : List UInt8)), (.d .nil)]), (.box [(.u r33_2.1.a0), (.u r33_2.1.a1), (.u r33_2.1.a2), (.u r33_2.1.a3)]), (.box [(.s x51_4.Name), (.l enc_GField x51_4.Fields)])], 0⟩ <| Sq <| Adr <| Wz (.loc 1 0) (Ocs (by kernel_rfl) (op_iaddr_arr rfl (n := 4) (sz := 1) (y := (.loc 1 0)) (by kernel_rfl) (by kernel_rfl) (by kernel_rfl) (k := .i64) (iv := 0) (by kernel_rfl) (i := 0) (by rfl) (by decide))) <| Wz (.u r33_2.1.a0) (Old rfl) ?_
      obtain ⟨r55_5, hr55_5, hm⟩ := bnd hm
      refine Wz (.i r55_5) (Ocf [] [] [] 0 (ok_event_number r33_2.1.a0 1099511627776 r55_5 hr55_5) (fun a w => Try.call53 a w) rfl trivial) <| Wz (.loc 1 1) (Ocs (by kernel_rfl) (op_iaddr_arr rfl (n := 4) (sz := 1) (y := (.loc 1 0)) (by kernel_rfl) (by kernel_rfl) (by kernel_rfl) (k := .i64) (iv := 1) (by kernel_rfl) (i := 1) (by rfl) (by decide))) <| Wz (.u r33_2.1.a1) (Old rfl) ?_
      obtain ⟨r58_5, hr58_5, hm⟩ := bnd hm
      refine Wz (.i r58_5) (Ocf [] [] [] 0 (ok_event_number r33_2.1.a1 15 r58_5 hr58_5) (fun a w => Try.call53 a w) rfl trivial) <| Wz (.loc 1 2) (Ocs (by kernel_rfl) (op_iaddr_arr rfl (n := 4) (sz := 1) (y := (.loc 1 0)) (by kernel_rfl) (by kernel_rfl) (by kernel_rfl) (k := .i64) (iv := 2) (by kernel_rfl) (i := 2) (by rfl) (by decide))) <| Wz (.u r33_2.1.a2) (Old rfl) ?_
      obtain ⟨r61_5, hr61_5, hm⟩ := bnd hm
      refine Wz (.i r61_5) (Ocf [] [] [] 0 (ok_event_number r33_2.1.a2 1099511627776 r61_5 hr61_5) (fun a w => Try.call53 a w) rfl trivial) <| Wz (.loc 2 0) (Ofa rfl) <| Wz (.s x51_4.Name) (Old rfl) <| Wz (.agg [(.i r55_5), (.i r58_5), (.i r61_5), (.s x51_4.Name), (.d .nil)]) (Obd rfl) <| Wy (.tup []) [(0, (.box [(.i r55_5), (.i r58_5), (.i r61_5), (.s x51_4.Name), (.d .nil)]))] (Ost rfl) <| Wdr <| Tk 2243 5 ⟨.l enc_GType p0::.s p1::tp 4 (.loc 0 0::.i r33_2.2.1::tp 3 (.loc 2 0::tp 86 [])), [(.box [(.i r55_5), (.i r58_5), (.i r61_5), (.s x51_4.Name), (.d .nil)]), .gone, (.box [(.s x51_4.Name), (.l enc_GField x51_4.Fields)])], 0⟩ <| Sq <| Sx <| Wz (.loc 2 1) (Ofa rfl) <| Wz (.l enc_GField x51_4.Fields) (Old rfl) <| Wz (.i ((List.length x51_4.Fields : Nat) : Int)) (Oln rfl) <| Wm (.i 0) rfl <| Nk 442721857769029238979 1 ⟨.l enc_GType p0::.s p1::tp 4 (.loc 0 0::.i r33_2.2.1::tp 59 (.i ((List.length x51_4.Fields : Nat) : Int)::.i 0::tp 29 [])), [(.box [(.i r55_5), (.i r58_5), (.i r61_5), (.s x51_4.Name), (.d .nil)]), .gone, .gone], 0⟩ ?_
      refine Bk <| Aob 0 4 44 4 ⟨.l enc_GType p0::.s p1::tp 4 (.loc 0 0::.i r33_2.2.1::tp 59 (.i ((List.length x51_4.Fields : Nat) : Int)::.i 0::tp 29 [])), [(.box [(.i r55_5), (.i r58_5), (.i r61_5), (.s x51_4.Name), (.own 3)]), .gone, .gone, (Ar 44 4 enc_GValue ([] : List GValue))], 0⟩ ?_
      refine AWP.loopI (α := Nat × (List GValue) × Int × Int)
        (fun (fu_7, y6_d_4_7, y7_7, y68_7) => (⟨.l enc_GType p0::.s p1::tp 4 (.loc 0 0::.i y7_7::tp 59 (.i ((List.length x51_4.Fields : Nat) : Int)::.i y68_7::tp 29 [])), [(.box [(.i r55_5), (.i r58_5), (.i r61_5), (.s x51_4.Name), (.own 1)]), (Ar 44 4 enc_GValue y6_d_4_7)], 0⟩ : St))
        (fun (fu_7, y6_d_4_7, y7_7, y68_7) => m_event_Take_l7 p0 p1 r55_5 r58_5 r61_5 x51_4 fu_7 y6_d_4_7 y7_7 y68_7 = some r)
        (fun (fu_7, y6_d_4_7, y7_7, y68_7) => fu_7) (1152921504606846976, ([] : List GValue), r33_2.2.1, 0)
        (Weak.toK 442721857769029238979 0 0 [0, 3]) hm ?_
      rintro ⟨fu_7, y6_d_4_7, y7_7, y68_7⟩ n_7 hm ih_7
      try dsimp only at hm ih_7 ⊢
      cases fu_7 with
      | zero => exact absurd hm (by unfold m_event_Take_l7; simp)
      | succ fu_7 =>
       unfold m_event_Take_l7 at hm
       refine Sx <| Wz (.b (decide (y68_7 < ((List.length x51_4.Fields : Nat) : Int)))) (Obn rfl (fun _ => hb_lss (k := .i64))) <| Nk 1033017668127734890691 3 ⟨.l enc_GType p0::.s p1::tp 4 (.loc 0 0::.i y7_7::tp 59 (.i ((List.length x51_4.Fields : Nat) : Int)::.i y68_7::.b (decide (y68_7 < ((List.length x51_4.Fields : Nat) : Int)))::tp 28 [])), [(.box [(.i r55_5), (.i r58_5), (.i r61_5), (.s x51_4.Name), (.own 1)]), (Ar 44 4 enc_GValue y6_d_4_7)], 0⟩ <| Sq ?_
       rcases tf_ (decide (y68_7 < ((List.length x51_4.Fields : Nat) : Int))) with hc69_14 | hc69_14
       ·
        replace hm := cT hc69_14 hm
        refine AiT hc69_14 <| Sk <| Tk 442721857769029238979 3 ⟨.l enc_GType p0::.s p1::tp 4 (.loc 0 0::.i y7_7::tp 59 (.i ((List.length x51_4.Fields : Nat) : Int)::.i y68_7::tp 29 [])), [(.box [(.i r55_5), (.i r58_5), (.i r61_5), (.s x51_4.Name), (.own 1)]), (Ar 44 4 enc_GValue y6_d_4_7)], 0⟩ <| Sq <| Bk <| Sx <| Wm (.s p1) rfl <| Wm (.i y7_7) rfl ?_
        obtain ⟨r73_8, hr73_8, hm⟩ := bnd hm
        refine Wz (.tup [(.agg [(.y r73_8.1.Kind), (.i r73_8.1.N), (.u r73_8.1.Bits), (.s r73_8.1.Text)]), (.i r73_8.2.1), (.i r73_8.2.2)]) (Ocf [] [] [] 0 (ok_value_Take p1 y7_7 r73_8 hr73_8) (fun a w => Try.call54 a w) rfl trivial) <| Wm (.tup [(.agg [(.y r73_8.1.Kind), (.i r73_8.1.N), (.u r73_8.1.Bits), (.s r73_8.1.Text)]), (.i r73_8.2.1), (.i r73_8.2.2)]) rfl <| Wz (.agg [(.y r73_8.1.Kind), (.i r73_8.1.N), (.u r73_8.1.Bits), (.s r73_8.1.Text)]) (Oex rfl) <| Wz (.i r73_8.2.1) (Oex rfl) <| Wz (.i r73_8.2.2) (Oex rfl) <| Wy (.loc 2 0) [(2, (.box [(.y 0), (.i 0), (.u 0), (.s ([] : List UInt8))]))] (Oal rfl) <| Wy (.tup []) [(2, (.box [(.y r73_8.1.Kind), (.i r73_8.1.N), (.u r73_8.1.Bits), (.s r73_8.1.Text)]))] (Ost rfl) <| Wm (.i r73_8.2.1) rfl <| Wm (.i r73_8.2.2) rfl <| Nk 442721857769029267523 7 ⟨.l enc_GType p0::.s p1::tp 4 (.loc 0 0::tp 5 (.loc 2 0::.i r73_8.2.1::.i r73_8.2.2::tp 52 (.i ((List.length x51_4.Fields : Nat) : Int)::.i y68_7::tp 29 []))), [(.box [(.i r55_5), (.i r58_5), (.i r61_5), (.s x51_4.Name), (.own 1)]), (Ar 44 4 enc_GValue y6_d_4_7), (.box [(.y r73_8.1.Kind), (.i r73_8.1.N), (.u r73_8.1.Bits), (.s r73_8.1.Text)])], 0⟩ <| Sq <| Sx <| Wm (.i r73_8.2.2) rfl <| Wz (.b (decide (r73_8.2.2 ≠ 0))) (Obn rfl (fun _ => hb_neq (k := .i64))) ?_
        refine Nk 302674176761426322944067 7 ⟨.l enc_GType p0::.s p1::tp 4 (.loc 0 0::tp 5 (.loc 2 0::.i r73_8.2.1::.i r73_8.2.2::tp 52 (.i ((List.length x51_4.Fields : Nat) : Int)::.i y68_7::tp 9 (.b (decide (r73_8.2.2 ≠ 0))::tp 19 [])))), [(.box [(.i r55_5), (.i r58_5), (.i r61_5), (.s x51_4.Name), (.own 1)]), (Ar 44 4 enc_GValue y6_d_4_7), (.box [(.y r73_8.1.Kind), (.i r73_8.1.N), (.u r73_8.1.Bits), (.s r73_8.1.Text)])], 0⟩ ?_
        rcases tf_ (decide (r73_8.2.2 ≠ 0)) with hc78_15 | hc78_15
        ·
         replace hm := cT hc78_15 hm
         refine AiT hc78_15 <| Sx <| Wz (.agg [(.i 0), (.i 0), (.i 0), (.s ([] : List UInt8)), (.d .nil)]) (Obd rfl) <| Wm (.i r73_8.2.2) rfl <| Wy (.tup []) [(0, (.box [(.i 0), (.i 0), (.i 0), (.s ([] : List UInt8)), (.d .nil)]))] (Ost rfl) <| Wm (.i 0) rfl <| Wm (.i r73_8.2.2) rfl <| Nn <| Aob 0 4 44 4 ⟨.l enc_GType p0::.s p1::tp 4 (.loc 0 0::.i 0::.i r73_8.2.2::tp 3 (.loc 2 0::.i r73_8.2.1::.i r73_8.2.2::tp 52 (.i ((List.length x51_4.Fields : Nat) : Int)::.i y68_7::tp 9 (.b (decide (r73_8.2.2 ≠ 0))::.agg [(.i 0), (.i 0), (.i 0), (.s ([] : List UInt8)), (.d .nil)]::.i r73_8.2.2::tp 17 [])))), [(.box [(.i 0), (.i 0), (.i 0), (.s ([] : List UInt8)), (.own 3)]), (Ar 44 4 enc_GValue y6_d_4_7), (.box [(.y r73_8.1.Kind), (.i r73_8.1.N), (.u r73_8.1.Bits), (.s r73_8.1.Text)]), (Ar 44 4 enc_GValue ([] : List GValue))], 0⟩ <| Rt <| Tr <| Ir <| Tr <| RoundK.ret ?_
         refine Ir <| Tr ?_
         obtain rfl := Option.some.inj hm
         exact ret_i [3]
        ·
         replace hm := cF hc78_15 hm
         refine AiF hc78_15 <| Sk <| Tk 442721857769029251139 7 ⟨.l enc_GType p0::.s p1::tp 4 (.loc 0 0::tp 5 (.loc 2 0::.i r73_8.2.1::tp 53 (.i ((List.length x51_4.Fields : Nat) : Int)::.i y68_7::tp 29 []))), [(.box [(.i r55_5), (.i r58_5), (.i r61_5), (.s x51_4.Name), (.own 1)]), (Ar 44 4 enc_GValue y6_d_4_7), (.box [(.y r73_8.1.Kind), (.i r73_8.1.N), (.u r73_8.1.Bits), (.s r73_8.1.Text)])], 0⟩ <| Tx <| Wz (.loc 0 4) (Ofa rfl) <| Wz (.own 1) (Old rfl) <| Wz (.agg [(.y r73_8.1.Kind), (.i r73_8.1.N), (.u r73_8.1.Bits), (.s r73_8.1.Text)]) (Old rfl) <| Wy (.own 3) [(3, (Ar 44 4 enc_GValue ([r73_8.1] : List GValue)))] (Obs rfl) ?_
         obtain ⟨a85_9, ha85_9, hm⟩ := bnd hm; obtain ⟨ha85_9e, ha85_9l⟩ := app_some ha85_9
         refine Wy (.own 4) [(1, .gone), (4, (Ar 44 4 enc_GValue a85_9))] (Oap rfl elemOK_32 enc_GValue_len ha85_9e ha85_9l) <| Wm (.i r73_8.2.1) rfl <| Wz (.loc 0 4) (Ofa rfl) <| Wy (.tup []) [(0, (.box [(.i r55_5), (.i r58_5), (.i r61_5), (.s x51_4.Name), (.own 4)]))] (Ost rfl) <| Wm (.i r73_8.2.1) rfl <| Wn0 <| Ino <| Tk 442721857769029238979 17 ⟨.l enc_GType p0::.s p1::tp 4 (.loc 0 0::.i r73_8.2.1::tp 59 (.i ((List.length x51_4.Fields : Nat) : Int)::.i y68_7::tp 29 [])), [(.box [(.i r55_5), (.i r58_5), (.i r61_5), (.s x51_4.Name), (.own 4)]), .gone, .gone, .gone, (Ar 44 4 enc_GValue a85_9)], 0⟩ <| Tx <| Wz (.i (W6 (y68_7 + 1))) (Obn rfl (fun _ => hb_add (k := .i64))) <| Wm (.i (W6 (y68_7 + 1))) rfl <| Wn0 <| RoundK.normal ?_
         exact Rounds.weak (Weak.toK 442721857769029238979 0 0 [0, 4]) (ih_7 (fu_7, a85_9, r73_8.2.1, (W6 (y68_7 + 1))) hm (Nat.lt_succ_self _))
       ·
        replace hm := cF hc69_14 hm
        refine AiF hc69_14 <| AWP.exit <| Then.exit <| RoundK.exit <| InBlock.same <| Tk 193 3 ⟨.l enc_GType p0::tp 5 (.loc 0 0::.i y7_7::tp 90 []), [(.box [(.i r55_5), (.i r58_5), (.i r61_5), (.s x51_4.Name), (.own 1)]), (Ar 44 4 enc_GValue y6_d_4_7)], 0⟩ <| Sq <| Sx <| Wm (.l enc_GType p0) rfl <| Wz (.agg [(.i r55_5), (.i r58_5), (.i r61_5), (.s x51_4.Name), (.own 1)]) (Old rfl) ?_
        obtain ⟨r91_10, hr91_10, hm⟩ := bnd hm
        refine Wz (.i r91_10) (Ocp [] [] [1] 0 (ok_event_Check p0 (GEvent.mk r55_5 r58_5 r61_5 x51_4.Name y6_d_4_7) r91_10 hr91_10) (plain_triv (by simp [A.Plain, A.Plains, D.Plain, byteD])) (fun a w => Try.call16 a w) rfl trivial) <| Wm (.i r91_10) rfl <| Nk 32960 3 ⟨tp 6 (.loc 0 0::.i y7_7::tp 7 (.i r91_10::tp 82 [])), [(.box [(.i r55_5), (.i r58_5), (.i r61_5), (.s x51_4.Name), (.own 1)]), (Ar 44 4 enc_GValue y6_d_4_7)], 0⟩ <| Sx <| Wm (.i r91_10) rfl <| Wz (.b (decide (r91_10 ≠ 0))) (Obn rfl (fun _ => hb_neq (k := .i64))) <| Nk 9903520314283042199193026752 3 ⟨tp 6 (.loc 0 0::.i y7_7::tp 7 (.i r91_10::tp 77 (.b (decide (r91_10 ≠ 0))::tp 4 []))), [(.box [(.i r55_5), (.i r58_5), (.i r61_5), (.s x51_4.Name), (.own 1)]), (Ar 44 4 enc_GValue y6_d_4_7)], 0⟩ ?_
        rcases tf_ (decide (r91_10 ≠ 0)) with hc93_16 | hc93_16
        ·
         replace hm := cT hc93_16 hm
         refine AiT hc93_16 <| Sx <| Wz (.agg [(.i 0), (.i 0), (.i 0), (.s ([] : List UInt8)), (.d .nil)]) (Obd rfl) <| Wm (.i r91_10) rfl <| Wy (.tup []) [(0, (.box [(.i 0), (.i 0), (.i 0), (.s ([] : List UInt8)), (.d .nil)]))] (Ost rfl) <| Wm (.i 0) rfl <| Wm (.i r91_10) rfl <| Nn <| Aob 0 4 44 4 ⟨tp 6 (.loc 0 0::.i 0::.i r91_10::tp 6 (.i r91_10::tp 77 (.b (decide (r91_10 ≠ 0))::.agg [(.i 0), (.i 0), (.i 0), (.s ([] : List UInt8)), (.d .nil)]::.i r91_10::tp 2 []))), [(.box [(.i 0), (.i 0), (.i 0), (.s ([] : List UInt8)), (.own 2)]), (Ar 44 4 enc_GValue y6_d_4_7), (Ar 44 4 enc_GValue ([] : List GValue))], 0⟩ <| Rt <| Tr ?_
         obtain rfl := Option.some.inj hm
         exact ret_i [2]
        ·
         replace hm := cF hc93_16 hm
         refine AiF hc93_16 <| Sk <| Tk 192 3 ⟨tp 6 (.loc 0 0::.i y7_7::tp 90 []), [(.box [(.i r55_5), (.i r58_5), (.i r61_5), (.s x51_4.Name), (.own 1)]), (Ar 44 4 enc_GValue y6_d_4_7)], 0⟩ <| Sx <| Wz (.agg [(.i r55_5), (.i r58_5), (.i r61_5), (.s x51_4.Name), (.own 1)]) (Old rfl) <| Wm (.i y7_7) rfl <| Wy (.tup []) [(0, (.box [(.i r55_5), (.i r58_5), (.i r61_5), (.s x51_4.Name), (.own 1)]))] (Ost rfl) <| Wm (.i y7_7) rfl <| Wm (.i 0) rfl <| Nn <| Rt ?_
         obtain rfl := Option.some.inj hm
         exact ret_i [1]

theorem ok_event_Event_Value (p0 : GEvent) (p1 : (List GType)) (p2 : (List UInt8)) (r : (GValue × Bool)) (h : m_event_Event_Value p0 p1 p2 = some r) : GCall Try.prog 14 [(.agg [(.i p0.Time), (.i p0.Source), (.i p0.Seq), (.s p0.Type_), (.l enc_GValue p0.Vals)]), (.l enc_GType p1), (.s p2)] [] (.tup [(.agg [(.y r.1.Kind), (.i r.1.N), (.u r.1.Bits), (.s r.1.Text)]), (.b r.2)]) [] := by
 refine GCall.of_body (n := 40) (rs := [(.cell 6 44), (.tmp 7)]) Try.func14 rfl rfl rfl <| Ato ⟨.agg [(.i p0.Time), (.i p0.Source), (.i p0.Seq), (.s p0.Type_), (.l enc_GValue p0.Vals)]::.l enc_GType p1::.s p2::tu 37 [], [], 0⟩ ?_
 have hm := h
 unfold m_event_Event_Value at hm
 refine Sx <| Wy (.loc 0 0) [(0, (.box [(.i p0.Time), (.i p0.Source), (.i p0.Seq), (.s p0.Type_), (.l enc_GValue p0.Vals)]))] (Obx rfl) <| Wy (.loc 1 0) [(1, (.box [(.y 0), (.i 0), (.u 0), (.s ([] : List UInt8))]))] (Oal rfl) <| Wm (.b false) rfl <| Nk 78 3 ⟨tp 1 (.l enc_GType p1::.s p2::.loc 0 0::tp 2 (.loc 1 0::tp 33 [])), [(.box [(.i p0.Time), (.i p0.Source), (.i p0.Seq), (.s p0.Type_), (.l enc_GValue p0.Vals)]), (.box [(.y 0), (.i 0), (.u 0), (.s ([] : List UInt8))])], 0⟩ <| Sx <| Wm (.l enc_GType p1) rfl <| Wz (.loc 0 3) (Ofa rfl) <| Wz (.s p0.Type_) (Old rfl) ?_
 obtain ⟨r16_0, hr16_0, hm⟩ := bnd hm
 refine Wy (.tup [(.agg [(.s r16_0.1.Name), (.own 2)]), (.b r16_0.2)]) [(2, (Ar 84 2 enc_GField r16_0.1.Fields))] (Ocf [] [2] [] 0 (ok_schema_Find p1 p0.Type_ r16_0 hr16_0) (fun a w => Try.call43 a w) rfl trivial) <| Wm (.tup [(.agg [(.s r16_0.1.Name), (.own 2)]), (.b r16_0.2)]) rfl <| Wz (.agg [(.s r16_0.1.Name), (.own 2)]) (Oex rfl) <| Wz (.b r16_0.2) (Oex rfl) <| Wy (.loc 3 0) [(3, (.box [(.s ([] : List UInt8)), (.d .nil)]))] (Oal rfl) <| Wy (.tup []) [(3, (.box [(.s r16_0.1.Name), (.own 2)]))] (Ost rfl) <| Wm (.b r16_0.2) rfl <| Nk 332 15 ⟨tp 2 (.s p2::.loc 0 0::tp 2 (.loc 1 0::tp 1 (.loc 3 0::tp 31 []))), [(.box [(.i p0.Time), (.i p0.Source), (.i p0.Seq), (.s p0.Type_), (.l enc_GValue p0.Vals)]), (.box [(.y 0), (.i 0), (.u 0), (.s ([] : List UInt8))]), (Ar 84 2 enc_GField r16_0.1.Fields), (.box [(.s r16_0.1.Name), (.own 2)])], 0⟩ <| Sx <| Wz (.agg [(.s r16_0.1.Name), (.own 2)]) (Old rfl) <| Wm (.s p2) rfl ?_
 obtain ⟨r22_1, hr22_1, hm⟩ := bnd hm
 refine Wz (.tup [(.i r22_1.1), (.y r22_1.2)]) (Ocp [] [] [2] 0 (ok_schema_Type_Field r16_0.1 p2 r22_1 hr22_1) (plain_triv (by simp [A.Plain, A.Plains, D.Plain, byteD])) (fun a w => Try.call44 a w) rfl trivial) <| Wm (.tup [(.i r22_1.1), (.y r22_1.2)]) rfl <| Wz (.i r22_1.1) (Oex rfl) <| Wz (.y r22_1.2) (Oex rfl) <| Wm (.i r22_1.1) rfl <| Wm (.y r22_1.2) rfl <| Nk 1096 3 ⟨tp 3 (.loc 0 0::tp 2 (.loc 1 0::tp 3 (.i r22_1.1::tp 29 []))), [(.box [(.i p0.Time), (.i p0.Source), (.i p0.Seq), (.s p0.Type_), (.l enc_GValue p0.Vals)]), (.box [(.y 0), (.i 0), (.u 0), (.s ([] : List UInt8))]), .gone, .gone], 0⟩ <| Sq <| Sx <| Wm (.i r22_1.1) rfl <| Wz (.b (decide (r22_1.1 < 0))) (Obn rfl (fun _ => hb_lss (k := .i64))) ?_
 rcases tf_ (decide (r22_1.1 < 0)) with hq27_2 | hq27_2
 ·
  replace hm := cT hq27_2 hm
  refine Wz (.b true) (Oq hq27_2 rfl) <| Wn <| Wn <| Wn <| Wn <| Wn <| Wz (.b true) (OpT rfl) <| Nk 8589935688 3 ⟨tp 3 (.loc 0 0::tp 2 (.loc 1 0::tp 3 (.i r22_1.1::tp 22 (.b true::tp 6 [])))), [(.box [(.i p0.Time), (.i p0.Source), (.i p0.Seq), (.s p0.Type_), (.l enc_GValue p0.Vals)]), (.box [(.y 0), (.i 0), (.u 0), (.s ([] : List UInt8))]), .gone, .gone], 0⟩ <| AWP.if_ true (by kernel_rfl) <| Sx <| Wz (.agg [(.y 0), (.i 0), (.u 0), (.s ([] : List UInt8))]) (Obd rfl) <| Wy (.tup []) [(1, (.box [(.y 0), (.i 0), (.u 0), (.s ([] : List UInt8))]))] (Ost rfl) <| Wm (.b false) rfl <| Nn ?_
  refine Rt <| Tr ?_
  obtain rfl := Option.some.inj hm
  exact ret_i []
 ·
  replace hm := cF hq27_2 hm
  refine Wz (.b false) (Oq hq27_2 rfl) <| Wm (.i r22_1.1) rfl <| Wz (.loc 0 4) (Ofa rfl) <| Wz (.l enc_GValue p0.Vals) (Old rfl) <| Wz (.i ((List.length p0.Vals : Nat) : Int)) (Oln rfl) <| Wz (.b (decide (((List.length p0.Vals : Nat) : Int) ≤ r22_1.1))) (Obn rfl (fun _ => hb_geq (k := .i64))) <| Wz (.b (decide (((List.length p0.Vals : Nat) : Int) ≤ r22_1.1))) (OpF rfl) <| Nk 8589935688 3 ⟨tp 3 (.loc 0 0::tp 2 (.loc 1 0::tp 3 (.i r22_1.1::tp 22 (.b (decide (((List.length p0.Vals : Nat) : Int) ≤ r22_1.1))::tp 6 [])))), [(.box [(.i p0.Time), (.i p0.Source), (.i p0.Seq), (.s p0.Type_), (.l enc_GValue p0.Vals)]), (.box [(.y 0), (.i 0), (.u 0), (.s ([] : List UInt8))]), .gone, .gone], 0⟩ ?_
  rcases tf_ (decide (((List.length p0.Vals : Nat) : Int) ≤ r22_1.1)) with hc33_4 | hc33_4
  ·
   replace hm := cT hc33_4 hm
   refine AiT hc33_4 <| Sx <| Wz (.agg [(.y 0), (.i 0), (.u 0), (.s ([] : List UInt8))]) (Obd rfl) <| Wy (.tup []) [(1, (.box [(.y 0), (.i 0), (.u 0), (.s ([] : List UInt8))]))] (Ost rfl) <| Wm (.b false) rfl <| Nn <| Rt <| Tr ?_
   obtain rfl := Option.some.inj hm
   exact ret_i []
  ·
   replace hm := cF hc33_4 hm
   refine AiF hc33_4 <| Sk <| Tk 1096 3 ⟨tp 3 (.loc 0 0::tp 2 (.loc 1 0::tp 3 (.i r22_1.1::tp 29 []))), [(.box [(.i p0.Time), (.i p0.Source), (.i p0.Seq), (.s p0.Type_), (.l enc_GValue p0.Vals)]), (.box [(.y 0), (.i 0), (.u 0), (.s ([] : List UInt8))]), .gone, .gone], 0⟩ <| Sx <| Wz (.loc 0 4) (Ofa rfl) <| Wz (.l enc_GValue p0.Vals) (Old rfl) <| Wm (.i r22_1.1) rfl ?_
   obtain ⟨x38_3, hx38_3, hm⟩ := bnd hm
   obtain ⟨hx38_3i, hx38_3g⟩ := geti_some hx38_3
   refine Wz (.d (.ref (List.drop ((Int.toNat r22_1.1) * 4) (flatD enc_GValue p0.Vals)))) (Oia rfl enc_GValue_len hx38_3i hx38_3g) <| Wz (.agg [(.y x38_3.Kind), (.i x38_3.N), (.u x38_3.Bits), (.s x38_3.Text)]) (Lf rfl enc_GValue_len hx38_3g) <| Wy (.tup []) [(1, (.box [(.y x38_3.Kind), (.i x38_3.N), (.u x38_3.Bits), (.s x38_3.Text)]))] (Ost rfl) <| Wm (.b true) rfl <| Nn <| Rt ?_
   obtain rfl := Option.some.inj hm
   exact ret_i []

theorem ok_slices_Clone_Value (p0 : (List GValue)) (r : (List GValue)) (h : m_slices_Clone_Value p0 = some r) : GCall Try.prog 78 [(.l enc_GValue p0)] [] (.own 0) [(Ar 44 4 enc_GValue r)] := by
 refine GCall.of_body (n := 8) (rs := [(.tmp 2)]) Try.func78 rfl rfl rfl <| Ato ⟨.l enc_GValue p0::tu 7 [], [], 0⟩ ?_
 have hm := h
 unfold m_slices_Clone_Value at hm
 refine Sx <| Wm (.d .nil) rfl <| Nk 1 0 ⟨.l enc_GValue p0::tp 7 [], [], 0⟩ <| Sq <| Sx <| Wm (.l enc_GValue p0) rfl <| Wz (.ab (List.length p0 = 0)) (op_eqnil rfl (e := 44) (by kernel_rfl) (ya := (.l enc_GValue p0)) (by kernel_rfl) (ds := flatD enc_GValue p0) (off := 0) (by kernel_rfl) (by kernel_rfl)) <| Nk 17 0 ⟨.l enc_GValue p0::tp 3 (.ab (List.length p0 = 0)::tp 3 []), [], 0⟩ ?_
 refine AWP.condU (p := List.length p0 = 0) (by kernel_rfl) (fun hnil => ?_) ?_
 ·
  refine Sx <| Wm (.d .nil) rfl <| Nn <| Aow 2 44 4 ⟨.l enc_GValue p0::tp 1 (.own 0::tp 1 (.ab (List.length p0 = 0)::tp 3 [])), [(Ar 44 4 enc_GValue ([] : List GValue))], 0⟩ <| Rt <| Tr ?_
  obtain rfl := nil_app hm (List.eq_nil_of_length_eq_zero hnil)
  exact ret_i [0]
 refine Sk <| Tk 1 0 ⟨.l enc_GValue p0::tp 7 [], [], 0⟩ <| Sx <| Wy (.own 0) [(0, (Ar 44 4 enc_GValue ([] : List GValue)))] (Obs rfl) <| Wm (.l enc_GValue p0) rfl ?_
 obtain ⟨a7_0, ha7_0, hm⟩ := bnd hm; obtain ⟨ha7_0e, ha7_0l⟩ := app_some ha7_0
 refine Wy (.own 1) [(0, .gone), (1, (Ar 44 4 enc_GValue a7_0))] (Oap rfl elemOK_32 enc_GValue_len ha7_0e ha7_0l) <| Wm (.own 1) rfl <| Nn <| Rt ?_
 obtain rfl := Option.some.inj hm
 exact ret_i [1]

theorem ok_event_clone (p0 : GEvent) (r : GEvent) (h : m_event_clone p0 = some r) : GCall Try.prog 57 [(.agg [(.i p0.Time), (.i p0.Source), (.i p0.Seq), (.s p0.Type_), (.l enc_GValue p0.Vals)])] [] (.agg [(.i r.Time), (.i r.Source), (.i r.Seq), (.s r.Type_), (.own 0)]) [(Ar 44 4 enc_GValue r.Vals)] := by
 refine GCall.of_body (n := 8) (rs := [(.cell 2 34)]) Try.func57 rfl rfl rfl <| Ato ⟨.agg [(.i p0.Time), (.i p0.Source), (.i p0.Seq), (.s p0.Type_), (.l enc_GValue p0.Vals)]::tu 7 [], [], 0⟩ ?_
 have hm := h
 unfold m_event_clone at hm
 refine Sx <| Wy (.loc 0 0) [(0, (.box [(.i p0.Time), (.i p0.Source), (.i p0.Seq), (.s p0.Type_), (.l enc_GValue p0.Vals)]))] (Obx rfl) <| Wy (.loc 1 0) [(1, (.box [(.i 0), (.i 0), (.i 0), (.s ([] : List UInt8)), (.d .nil)]))] (Oal rfl) <| Nk 6 3 ⟨tp 1 (.loc 0 0::.loc 1 0::tp 5 []), [(.box [(.i p0.Time), (.i p0.Source), (.i p0.Seq), (.s p0.Type_), (.l enc_GValue p0.Vals)]), (.box [(.i 0), (.i 0), (.i 0), (.s ([] : List UInt8)), (.d .nil)])], 0⟩ <| Sx <| Wz (.loc 0 4) (Ofa rfl) <| Wz (.l enc_GValue p0.Vals) (Old rfl) ?_
 obtain ⟨r5_0, hr5_0, hm⟩ := bnd hm
 refine Wy (.own 2) [(2, (Ar 44 4 enc_GValue r5_0))] (Ocf [] [2] [] 0 (ok_slices_Clone_Value p0.Vals r5_0 hr5_0) (fun a w => Try.call78 a w) rfl trivial) <| Wz (.loc 0 4) (Ofa rfl) <| Wy (.tup []) [(0, (.box [(.i p0.Time), (.i p0.Source), (.i p0.Seq), (.s p0.Type_), (.own 2)]))] (Ost rfl) <| Nk 6 7 ⟨tp 1 (.loc 0 0::.loc 1 0::tp 5 []), [(.box [(.i p0.Time), (.i p0.Source), (.i p0.Seq), (.s p0.Type_), (.own 2)]), (.box [(.i 0), (.i 0), (.i 0), (.s ([] : List UInt8)), (.d .nil)]), (Ar 44 4 enc_GValue r5_0)], 0⟩ <| Sx <| Wz (.agg [(.i p0.Time), (.i p0.Source), (.i p0.Seq), (.s p0.Type_), (.own 2)]) (Old rfl) <| Wy (.tup []) [(1, (.box [(.i p0.Time), (.i p0.Source), (.i p0.Seq), (.s p0.Type_), (.own 2)]))] (Ost rfl) <| Nn <| Rt ?_
 obtain rfl := Option.some.inj hm
 exact ret_i [2]

theorem ok_event_ID_Less (p0 : GID) (p1 : GID) (r : Bool) (h : m_event_ID_Less p0 p1 = some r) : GCall Try.prog 30 [(.agg [(.i p0.Time), (.i p0.Source), (.i p0.Seq)]), (.agg [(.i p1.Time), (.i p1.Source), (.i p1.Seq)])] [] (.b r) [] := by
 refine GCall.of_body (n := 32) (rs := [(.tmp 4)]) Try.func30 rfl rfl rfl <| Ato ⟨.agg [(.i p0.Time), (.i p0.Source), (.i p0.Seq)]::.agg [(.i p1.Time), (.i p1.Source), (.i p1.Seq)]::tu 30 [], [], 0⟩ ?_
 have hm := h
 unfold m_event_ID_Less at hm
 refine Sx <| Wy (.loc 0 0) [(0, (.box [(.i p0.Time), (.i p0.Source), (.i p0.Seq)]))] (Obx rfl) <| Wy (.loc 1 0) [(1, (.box [(.i p1.Time), (.i p1.Source), (.i p1.Seq)]))] (Obx rfl) <| Wm (.b false) rfl <| Nk 12 3 ⟨tp 2 (.loc 0 0::.loc 1 0::tp 28 []), [(.box [(.i p0.Time), (.i p0.Source), (.i p0.Seq)]), (.box [(.i p1.Time), (.i p1.Source), (.i p1.Seq)])], 0⟩ <| Sq <| Bk <| Sx <| Wz (.loc 0 0) (Ofa rfl) <| Wz (.i p0.Time) (Old rfl) <| Wz (.loc 1 0) (Ofa rfl) <| Wz (.i p1.Time) (Old rfl) <| Wz (.b (decide (p0.Time ≠ p1.Time))) (Obn rfl (fun _ => hb_neq (k := .i64))) <| Wm (.b (decide (p0.Time ≠ p1.Time))) rfl ?_
 refine Nk 44 3 ⟨tp 2 (.loc 0 0::.loc 1 0::tp 1 (.b (decide (p0.Time ≠ p1.Time))::tp 26 [])), [(.box [(.i p0.Time), (.i p0.Source), (.i p0.Seq)]), (.box [(.i p1.Time), (.i p1.Source), (.i p1.Seq)])], 0⟩ ?_
 rcases tf_ (decide (p0.Time ≠ p1.Time)) with hc5_0 | hc5_0
 ·
  replace hm := cT hc5_0 hm
  refine AiT hc5_0 <| Sx <| Wz (.loc 0 0) (Ofa rfl) <| Wz (.i p0.Time) (Old rfl) <| Wz (.loc 1 0) (Ofa rfl) <| Wz (.i p1.Time) (Old rfl) <| Wz (.b (decide (p0.Time < p1.Time))) (Obn rfl (fun _ => hb_lss (k := .i64))) <| Wm (.b (decide (p0.Time < p1.Time))) rfl <| Nn <| Rt <| Ir <| Tr ?_
  obtain rfl := Option.some.inj hm
  exact ret_i []
 ·
  replace hm := cF hc5_0 hm
  refine AiF hc5_0 <| Sx <| Wz (.loc 0 1) (Ofa rfl) <| Wz (.i p0.Source) (Old rfl) <| Wz (.loc 1 1) (Ofa rfl) <| Wz (.i p1.Source) (Old rfl) <| Wz (.b (decide (p0.Source ≠ p1.Source))) (Obn rfl (fun _ => hb_neq (k := .i64))) <| Wm (.b (decide (p0.Source ≠ p1.Source))) rfl <| Nk 65548 3 ⟨tp 2 (.loc 0 0::.loc 1 0::tp 12 (.b (decide (p0.Source ≠ p1.Source))::tp 15 [])), [(.box [(.i p0.Time), (.i p0.Source), (.i p0.Seq)]), (.box [(.i p1.Time), (.i p1.Source), (.i p1.Seq)])], 0⟩ ?_
  rcases tf_ (decide (p0.Source ≠ p1.Source)) with hc16_1 | hc16_1
  ·
   replace hm := cT hc16_1 hm
   refine AiT hc16_1 <| Sx <| Wz (.loc 0 1) (Ofa rfl) <| Wz (.i p0.Source) (Old rfl) <| Wz (.loc 1 1) (Ofa rfl) <| Wz (.i p1.Source) (Old rfl) <| Wz (.b (decide (p0.Source < p1.Source))) (Obn rfl (fun _ => hb_lss (k := .i64))) <| Wm (.b (decide (p0.Source < p1.Source))) rfl <| Nn <| Rt <| Ir <| Tr ?_
   obtain rfl := Option.some.inj hm
   exact ret_i []
  ·
   replace hm := cF hc16_1 hm
   refine AiF hc16_1 <| Sk <| Ino <| Tk 12 3 ⟨tp 2 (.loc 0 0::.loc 1 0::tp 28 []), [(.box [(.i p0.Time), (.i p0.Source), (.i p0.Seq)]), (.box [(.i p1.Time), (.i p1.Source), (.i p1.Seq)])], 0⟩ <| Sx <| Wz (.loc 0 2) (Ofa rfl) <| Wz (.i p0.Seq) (Old rfl) <| Wz (.loc 1 2) (Ofa rfl) <| Wz (.i p1.Seq) (Old rfl) <| Wz (.b (decide (p0.Seq < p1.Seq))) (Obn rfl (fun _ => hb_lss (k := .i64))) <| Wm (.b (decide (p0.Seq < p1.Seq))) rfl <| Nn <| Rt ?_
   obtain rfl := Option.some.inj hm
   exact ret_i []

theorem ok_event_order (p0 : GEvent) (p1 : GEvent) (r : Int) (h : m_event_order p0 p1 = some r) : GCall Try.prog 59 [(.agg [(.i p0.Time), (.i p0.Source), (.i p0.Seq), (.s p0.Type_), (.l enc_GValue p0.Vals)]), (.agg [(.i p1.Time), (.i p1.Source), (.i p1.Seq), (.s p1.Type_), (.l enc_GValue p1.Vals)])] [] (.i r) [] := by
 refine GCall.of_body (n := 17) (rs := [(.tmp 4)]) Try.func59 rfl rfl rfl <| Ato ⟨.agg [(.i p0.Time), (.i p0.Source), (.i p0.Seq), (.s p0.Type_), (.l enc_GValue p0.Vals)]::.agg [(.i p1.Time), (.i p1.Source), (.i p1.Seq), (.s p1.Type_), (.l enc_GValue p1.Vals)]::tu 15 [], [], 0⟩ ?_
 have hm := h
 unfold m_event_order at hm
 refine Sx <| Wy (.loc 0 0) [(0, (.box [(.i p0.Time), (.i p0.Source), (.i p0.Seq), (.s p0.Type_), (.l enc_GValue p0.Vals)]))] (Obx rfl) <| Wy (.loc 1 0) [(1, (.box [(.i p1.Time), (.i p1.Source), (.i p1.Seq), (.s p1.Type_), (.l enc_GValue p1.Vals)]))] (Obx rfl) <| Wm (.i 0) rfl <| Nk 12 3 ⟨tp 2 (.loc 0 0::.loc 1 0::tp 13 []), [(.box [(.i p0.Time), (.i p0.Source), (.i p0.Seq), (.s p0.Type_), (.l enc_GValue p0.Vals)]), (.box [(.i p1.Time), (.i p1.Source), (.i p1.Seq), (.s p1.Type_), (.l enc_GValue p1.Vals)])], 0⟩ <| Sq <| Adr <| Wz (.agg [(.i p0.Time), (.i p0.Source), (.i p0.Seq), (.s p0.Type_), (.l enc_GValue p0.Vals)]) (Old rfl) ?_
 obtain ⟨r8_0, hr8_0, hm⟩ := bnd hm
 refine Wz (.agg [(.i r8_0.Time), (.i r8_0.Source), (.i r8_0.Seq)]) (Ocf [] [] [] 0 (ok_event_Event_ID p0 r8_0 hr8_0) (fun a w => Try.call29 a w) rfl trivial) <| Wz (.agg [(.i p1.Time), (.i p1.Source), (.i p1.Seq), (.s p1.Type_), (.l enc_GValue p1.Vals)]) (Old rfl) ?_
 obtain ⟨r10_0, hr10_0, hm⟩ := bnd hm
 refine Wz (.agg [(.i r10_0.Time), (.i r10_0.Source), (.i r10_0.Seq)]) (Ocf [] [] [] 0 (ok_event_Event_ID p1 r10_0 hr10_0) (fun a w => Try.call29 a w) rfl trivial) <| Wy (.loc 2 0) [(2, (.box [(.i 0), (.i 0), (.i 0)]))] (Oal rfl) <| Wy (.loc 3 0) [(3, (.box [(.i 0), (.i 0), (.i 0)]))] (Oal rfl) <| Wy (.tup []) [(2, (.box [(.i r8_0.Time), (.i r8_0.Source), (.i r8_0.Seq)]))] (Ost rfl) <| Wy (.tup []) [(3, (.box [(.i r10_0.Time), (.i r10_0.Source), (.i r10_0.Seq)]))] (Ost rfl) <| Wdr <| Tk 96 12 ⟨tp 5 (.loc 2 0::.loc 3 0::tp 10 []), [.gone, .gone, (.box [(.i r8_0.Time), (.i r8_0.Source), (.i r8_0.Seq)]), (.box [(.i r10_0.Time), (.i r10_0.Source), (.i r10_0.Seq)])], 0⟩ <| Sq <| Sx <| Wz (.agg [(.i r8_0.Time), (.i r8_0.Source), (.i r8_0.Seq)]) (Old rfl) <| Wz (.agg [(.i r10_0.Time), (.i r10_0.Source), (.i r10_0.Seq)]) (Old rfl) ?_
 obtain ⟨v13_1, hv13_1, hm⟩ := bnd hm; replace hv13_1 := Option.some.inj hv13_1
 refine Wz (.b v13_1) (Ocs (Eq.trans (by kernel_rfl) (congrArg (fun z => A.d (.lit (.bool z))) hv13_1)) (op_eql_struct rfl (la := [(.i r8_0.Time), (.i r8_0.Source), (.i r8_0.Seq)]) (lb := [(.i r10_0.Time), (.i r10_0.Source), (.i r10_0.Seq)]) (us := [.int .i64 r8_0.Time, .int .i64 r8_0.Source, .int .i64 r8_0.Seq]) (vs := [.int .i64 r10_0.Time, .int .i64 r10_0.Source, .int .i64 r10_0.Seq]) (r := (decide (r8_0.Time = r10_0.Time) && (decide (r8_0.Source = r10_0.Source) && (decide (r8_0.Seq = r10_0.Seq) && true)))) (by kernel_rfl) (by kernel_rfl) (by kernel_rfl) (by kernel_rfl) (by kernel_rfl))) <| Nk 8288 12 ⟨tp 5 (.loc 2 0::.loc 3 0::tp 6 (.b v13_1::tp 3 [])), [.gone, .gone, (.box [(.i r8_0.Time), (.i r8_0.Source), (.i r8_0.Seq)]), (.box [(.i r10_0.Time), (.i r10_0.Source), (.i r10_0.Seq)])], 0⟩ ?_
 rcases tf_ v13_1 with hc13_3 | hc13_3
 ·
  replace hm := cT hc13_3 hm
  refine AiT hc13_3 <| Sx <| Wm (.i 0) rfl <| Nn <| Rt <| Tr ?_
  obtain rfl := Option.some.inj hm
  exact ret_i []
 ·
  replace hm := cF hc13_3 hm
  refine AiF hc13_3 <| Sk <| Tk 96 12 ⟨tp 5 (.loc 2 0::.loc 3 0::tp 10 []), [.gone, .gone, (.box [(.i r8_0.Time), (.i r8_0.Source), (.i r8_0.Seq)]), (.box [(.i r10_0.Time), (.i r10_0.Source), (.i r10_0.Seq)])], 0⟩ <| Sq <| Sx <| Wz (.agg [(.i r8_0.Time), (.i r8_0.Source), (.i r8_0.Seq)]) (Old rfl) <| Wz (.agg [(.i r10_0.Time), (.i r10_0.Source), (.i r10_0.Seq)]) (Old rfl) ?_
  obtain ⟨r16_2, hr16_2, hm⟩ := bnd hm
  refine Wz (.b r16_2) (Ocf [] [] [] 0 (ok_event_ID_Less r8_0 r10_0 r16_2 hr16_2) (fun a w => Try.call30 a w) rfl trivial) <| Nk 65536 0 ⟨tp 16 (.b r16_2::[]), [.gone, .gone, .gone, .gone], 0⟩ ?_
  rcases tf_ r16_2 with hc16_4 | hc16_4
  ·
   replace hm := cT hc16_4 hm
   refine AiT hc16_4 <| Sx <| Wm (.i (-1)) rfl <| Nn <| Rt <| Tr ?_
   obtain rfl := Option.some.inj hm
   exact ret_i []
  ·
   replace hm := cF hc16_4 hm
   refine AiF hc16_4 <| Sk <| Tk 0 0 ⟨tp 17 [], [.gone, .gone, .gone, .gone], 0⟩ <| Sx <| Wm (.i 1) rfl <| Nn <| Rt ?_
   obtain rfl := Option.some.inj hm
   exact ret_i []

theorem ok_slices_insertionSortCmpFunc_event_Event__event_order (p0 : (List GEvent)) (p1 : Int) (p2 : Int) (r : (List GEvent)) (h : m_slices_insertionSortCmpFunc_event_Event__event_order p0 p1 p2 = some r) : GCall Try.prog 95 [(.own 0), (.i p1), (.i p2), (.clo (.func 59) [] [])] [(Ar 34 5 enc_GEvent p0)] (.tup []) [(Ar 34 5 enc_GEvent r)] := by
 refine GCall.of_body (n := 53) (rs := []) Try.func95 rfl rfl rfl <| Ato ⟨.own 0::.i p1::.i p2::.clo (.func 59) [] []::tu 49 [], [(Ar 34 5 enc_GEvent p0)], 1⟩ ?_
 have hm := h
 unfold m_slices_insertionSortCmpFunc_event_Event__event_order at hm
 refine Sx <| Wm (.i p1) rfl <| Wz (.i (W6 (p1 + 1))) (Obn rfl (fun _ => hb_add (k := .i64))) <| Wm (.i (W6 (p1 + 1))) rfl <| Nk 271 1 ⟨.own 0::.i p1::.i p2::.clo (.func 59) [] []::tp 4 (.i (W6 (p1 + 1))::tp 44 []), [(Ar 34 5 enc_GEvent p0)], 1⟩ <| Bk ?_
 refine AWP.loopI (α := Nat × (List GEvent) × Int)
   (fun (fu_0, y0_0, y8_0) => (⟨.own 0::.i p1::.i p2::.clo (.func 59) [] []::tp 4 (.i y8_0::tp 44 []), [(Ar 34 5 enc_GEvent y0_0)], 1⟩ : St))
   (fun (fu_0, y0_0, y8_0) => m_slices_insertionSortCmpFunc_event_Event__event_order_l0 p1 p2 fu_0 y0_0 y8_0 = some r)
   (fun (fu_0, y0_0, y8_0) => fu_0) (1152921504606846976, p0, (W6 (p1 + 1)))
   (Weak.toK 271 0 0 [0]) hm ?_
 rintro ⟨fu_0, y0_0, y8_0⟩ n_0 hm ih_0
 try dsimp only at hm ih_0 ⊢
 cases fu_0 with
 | zero => exact absurd hm (by unfold m_slices_insertionSortCmpFunc_event_Event__event_order_l0; simp)
 | succ fu_0 =>
  unfold m_slices_insertionSortCmpFunc_event_Event__event_order_l0 at hm
  refine Sq <| Sx <| Wm (.i y8_0) rfl <| Wm (.i p2) rfl <| Wz (.b (decide (y8_0 < p2))) (Obn rfl (fun _ => hb_lss (k := .i64))) <| Nk 16655 1 ⟨.own 0::.i p1::.i p2::.clo (.func 59) [] []::tp 4 (.i y8_0::tp 5 (.b (decide (y8_0 < p2))::tp 38 [])), [(Ar 34 5 enc_GEvent y0_0)], 1⟩ ?_
  rcases tf_ (decide (y8_0 < p2)) with hc14_4 | hc14_4
  ·
   replace hm := cT hc14_4 hm
   refine AiT hc14_4 <| Sk <| Tk 271 1 ⟨.own 0::.i p1::.i p2::.clo (.func 59) [] []::tp 4 (.i y8_0::tp 44 []), [(Ar 34 5 enc_GEvent y0_0)], 1⟩ <| Sq <| Bk <| Sx <| Wm (.i y8_0) rfl <| Wm (.i y8_0) rfl <| Nk 783 1 ⟨.own 0::.i p1::.i p2::.clo (.func 59) [] []::tp 4 (.i y8_0::.i y8_0::tp 43 []), [(Ar 34 5 enc_GEvent y0_0)], 1⟩ <| Bk ?_
   refine AWP.loopI (α := Nat × (List GEvent) × Int)
     (fun (fu_1, y0_1, y9_1) => (⟨.own 0::.i p1::.i p2::.clo (.func 59) [] []::tp 4 (.i y8_0::.i y9_1::tp 43 []), [(Ar 34 5 enc_GEvent y0_1)], 1⟩ : St))
     (fun (fu_1, y0_1, y9_1) => m_slices_insertionSortCmpFunc_event_Event__event_order_l1 p1 y8_0 (fun y0_0 y8_0 => m_slices_insertionSortCmpFunc_event_Event__event_order_l0 p1 p2 fu_0 y0_0 y8_0) fu_1 y0_1 y9_1 = some r)
     (fun (fu_1, y0_1, y9_1) => fu_1) (1152921504606846976, y0_0, y8_0)
     (Weak.toK 783 0 0 [0]) hm ?_
   rintro ⟨fu_1, y0_1, y9_1⟩ n_1 hm ih_1
   try dsimp only at hm ih_1 ⊢
   cases fu_1 with
   | zero => exact absurd hm (by unfold m_slices_insertionSortCmpFunc_event_Event__event_order_l1; simp)
   | succ fu_1 =>
    unfold m_slices_insertionSortCmpFunc_event_Event__event_order_l1 at hm
    refine Sq <| Sq <| Adr <| Wm (.i y9_1) rfl <| Wm (.i p1) rfl <| Wz (.b (decide (p1 < y9_1))) (Obn rfl (fun _ => hb_gtr (k := .i64))) ?_
    rcases tf_ (decide (p1 < y9_1)) with hq21_2 | hq21_2
    ·
     replace hm := cT hq21_2 hm
     refine Wz (.b true) (Oq hq21_2 rfl) <| Wm (.clo (.func 59) [] []) rfl <| Wm (.own 0) rfl <| Wm (.i y9_1) rfl ?_
     obtain ⟨x25_2, hx25_2, hm⟩ := bnd hm
     obtain ⟨hx25_2i, hx25_2g⟩ := geti_some hx25_2
     refine Wz (.loc 0 ((Int.toNat y9_1) * 5)) (Oia rfl enc_GEvent_len hx25_2i hx25_2g) <| Wz (.agg [(.i x25_2.Time), (.i x25_2.Source), (.i x25_2.Seq), (.s x25_2.Type_), (.l enc_GValue x25_2.Vals)]) (Lr rfl enc_GEvent_len hx25_2g) <| Wm (.own 0) rfl <| Wm (.i y9_1) rfl <| Wz (.i (W6 (y9_1 - 1))) (Obn rfl (fun _ => hb_sub (k := .i64))) ?_
     obtain ⟨x30_2, hx30_2, hm⟩ := bnd hm
     obtain ⟨hx30_2i, hx30_2g⟩ := geti_some hx30_2
     refine Wz (.loc 0 ((Int.toNat (W6 (y9_1 - 1))) * 5)) (Oia rfl enc_GEvent_len hx30_2i hx30_2g) <| Wz (.agg [(.i x30_2.Time), (.i x30_2.Source), (.i x30_2.Seq), (.s x30_2.Type_), (.l enc_GValue x30_2.Vals)]) (Lr rfl enc_GEvent_len hx30_2g) ?_
     obtain ⟨r32_2, hr32_2, hm⟩ := bnd hm
     refine Wz (.i r32_2) (Ocf [] [] [] 0 (ok_event_order x25_2 x30_2 r32_2 hr32_2) (fun a w => Try.call59 a w) rfl trivial) <| Wz (.b (decide (r32_2 < 0))) (Obn rfl (fun _ => hb_lss (k := .i64))) <| Wz (.b (decide (r32_2 < 0))) (OpT rfl) <| Wdr <| Tk 17179869967 1 ⟨.own 0::.i p1::.i p2::.clo (.func 59) [] []::tp 4 (.i y8_0::.i y9_1::tp 24 (.b (decide (r32_2 < 0))::tp 18 [])), [(Ar 34 5 enc_GEvent y0_1)], 1⟩ ?_
     rcases tf_ (decide (r32_2 < 0)) with hc34_5 | hc34_5
     ·
      replace hm := cT hc34_5 hm
      refine AiT hc34_5 <| Sk <| Tk 783 1 ⟨.own 0::.i p1::.i p2::.clo (.func 59) [] []::tp 4 (.i y8_0::.i y9_1::tp 43 []), [(Ar 34 5 enc_GEvent y0_1)], 1⟩ <| Sq <| Bk <| Adr <| Wm (.own 0) rfl <| Wm (.i y9_1) rfl <| Wm (.own 0) rfl <| Wm (.i y9_1) rfl <| Wz (.i (W6 (y9_1 - 1))) (Obn rfl (fun _ => hb_sub (k := .i64))) <| Wm (.own 0) rfl <| Wm (.i y9_1) rfl <| Wz (.i (W6 (y9_1 - 1))) (Obn rfl (fun _ => hb_sub (k := .i64))) ?_
      obtain ⟨x45_3, hx45_3, hm⟩ := bnd hm
      obtain ⟨hx45_3i, hx45_3g⟩ := geti_some hx45_3
      refine Wz (.loc 0 ((Int.toNat (W6 (y9_1 - 1))) * 5)) (Oia rfl enc_GEvent_len hx45_3i hx45_3g) <| Wz (.agg [(.i x45_3.Time), (.i x45_3.Source), (.i x45_3.Seq), (.s x45_3.Type_), (.l enc_GValue x45_3.Vals)]) (Lr rfl enc_GEvent_len hx45_3g) <| Wm (.own 0) rfl <| Wm (.i y9_1) rfl ?_
      obtain ⟨x49_3, hx49_3, hm⟩ := bnd hm
      obtain ⟨hx49_3i, hx49_3g⟩ := geti_some hx49_3
      refine Wz (.loc 0 ((Int.toNat y9_1) * 5)) (Oia rfl enc_GEvent_len hx49_3i hx49_3g) <| Wz (.agg [(.i x49_3.Time), (.i x49_3.Source), (.i x49_3.Seq), (.s x49_3.Type_), (.l enc_GValue x49_3.Vals)]) (Lr rfl enc_GEvent_len hx49_3g) ?_
      obtain ⟨x51_3, hx51_3, hm⟩ := bnd hm
      obtain ⟨hx51_3i, hx51_3g⟩ := geti_some hx51_3
      refine Wz (.loc 0 ((Int.toNat y9_1) * 5)) (Oia rfl enc_GEvent_len hx51_3i hx51_3g) <| Wy (.tup []) [(0, (Ar 34 5 enc_GEvent (List.set y0_1 (Int.toNat y9_1) x45_3)))] (Osr 0 rfl enc_GEvent_len hx51_3g x45_3) ?_
      obtain ⟨x52_3, hx52_3, hm⟩ := bnd hm
      obtain ⟨hx52_3i, hx52_3g⟩ := geti_some hx52_3
      refine Wz (.loc 0 ((Int.toNat (W6 (y9_1 - 1))) * 5)) (Oia rfl enc_GEvent_len hx52_3i hx52_3g) <| Wy (.tup []) [(0, (Ar 34 5 enc_GEvent (List.set (List.set y0_1 (Int.toNat y9_1) x45_3) (Int.toNat (W6 (y9_1 - 1))) x49_3)))] (Osr 0 rfl enc_GEvent_len hx52_3g x49_3) <| Wdr <| Ino <| Tk 783 1 ⟨.own 0::.i p1::.i p2::.clo (.func 59) [] []::tp 4 (.i y8_0::.i y9_1::tp 43 []), [(Ar 34 5 enc_GEvent (List.set (List.set y0_1 (Int.toNat y9_1) x45_3) (Int.toNat (W6 (y9_1 - 1))) x49_3))], 1⟩ <| Tx <| Wm (.i y9_1) rfl <| Wz (.i (W6 (y9_1 - 1))) (Obn rfl (fun _ => hb_sub (k := .i64))) <| Wm (.i (W6 (y9_1 - 1))) rfl <| Wn0 <| RoundK.normal ?_
      exact Rounds.weak (Weak.toK 783 0 0 [0]) (ih_1 (fu_1, (List.set (List.set y0_1 (Int.toNat y9_1) x45_3) (Int.toNat (W6 (y9_1 - 1))) x49_3), (W6 (y9_1 - 1))) hm (Nat.lt_succ_self _))
     ·
      replace hm := cF hc34_5 hm
      refine AiF hc34_5 <| AWP.exit <| Then.exit <| RoundK.exit <| InBlock.same <| Ino <| Tk 271 1 ⟨.own 0::.i p1::.i p2::.clo (.func 59) [] []::tp 4 (.i y8_0::tp 44 []), [(Ar 34 5 enc_GEvent y0_1)], 1⟩ <| Tx <| Wm (.i y8_0) rfl <| Wz (.i (W6 (y8_0 + 1))) (Obn rfl (fun _ => hb_add (k := .i64))) <| Wm (.i (W6 (y8_0 + 1))) rfl <| Wn0 <| RoundK.normal ?_
      exact Rounds.weak (Weak.toK 271 0 0 [0]) (ih_0 (fu_0, y0_1, (W6 (y8_0 + 1))) hm (Nat.lt_succ_self _))
    ·
     replace hm := cF hq21_2 hm
     refine Wz (.b false) (Oq hq21_2 rfl) <| Wn <| Wn <| Wn <| Wn <| Wn <| Wn <| Wn <| Wn <| Wn <| Wn <| Wn <| Wn <| Wz (.b false) (OpF rfl) ?_
     refine Wdr <| Tk 17179869967 1 ⟨.own 0::.i p1::.i p2::.clo (.func 59) [] []::tp 4 (.i y8_0::.i y9_1::tp 24 (.b false::tp 18 [])), [(Ar 34 5 enc_GEvent y0_1)], 1⟩ <| AWP.if_ false (by kernel_rfl) <| AWP.exit <| Then.exit <| RoundK.exit <| InBlock.same <| Ino <| Tk 271 1 ⟨.own 0::.i p1::.i p2::.clo (.func 59) [] []::tp 4 (.i y8_0::tp 44 []), [(Ar 34 5 enc_GEvent y0_1)], 1⟩ <| Tx <| Wm (.i y8_0) rfl <| Wz (.i (W6 (y8_0 + 1))) (Obn rfl (fun _ => hb_add (k := .i64))) <| Wm (.i (W6 (y8_0 + 1))) rfl <| Wn0 ?_
     refine RoundK.normal ?_
     exact Rounds.weak (Weak.toK 271 0 0 [0]) (ih_0 (fu_0, y0_1, (W6 (y8_0 + 1))) hm (Nat.lt_succ_self _))
  ·
   replace hm := cF hc14_4 hm
   refine AiF hc14_4 <| AWP.exit <| Then.exit <| RoundK.exit <| InBlock.same ?_
   obtain rfl := Option.some.inj hm
   exact ret_n [0]

theorem ok_slices_swapRangeCmpFunc_event_Event__event_order (p0 : (List GEvent)) (p1 : Int) (p2 : Int) (p3 : Int) (r : (List GEvent)) (h : m_slices_swapRangeCmpFunc_event_Event__event_order p0 p1 p2 p3 = some r) : GCall Try.prog 111 [(.own 0), (.i p1), (.i p2), (.i p3), (.clo (.func 59) [] [])] [(Ar 34 5 enc_GEvent p0)] (.tup []) [(Ar 34 5 enc_GEvent r)] := by
 refine GCall.of_body (n := 38) (rs := []) Try.func111 rfl rfl rfl <| Ato ⟨.own 0::.i p1::.i p2::.i p3::.clo (.func 59) [] []::tu 33 [], [(Ar 34 5 enc_GEvent p0)], 1⟩ ?_
 have hm := h
 unfold m_slices_swapRangeCmpFunc_event_Event__event_order at hm
 refine Sx <| Wm (.i 0) rfl <| Nk 1039 1 ⟨.own 0::.i p1::.i p2::.i p3::tp 6 (.i 0::tp 27 []), [(Ar 34 5 enc_GEvent p0)], 1⟩ <| Bk ?_
 refine AWP.loopI (α := Nat × (List GEvent) × Int)
   (fun (fu_0, y0_0, y10_0) => (⟨.own 0::.i p1::.i p2::.i p3::tp 6 (.i y10_0::tp 27 []), [(Ar 34 5 enc_GEvent y0_0)], 1⟩ : St))
   (fun (fu_0, y0_0, y10_0) => m_slices_swapRangeCmpFunc_event_Event__event_order_l0 p1 p2 p3 fu_0 y0_0 y10_0 = some r)
   (fun (fu_0, y0_0, y10_0) => fu_0) (1152921504606846976, p0, 0)
   (Weak.toK 1039 0 0 [0]) hm ?_
 rintro ⟨fu_0, y0_0, y10_0⟩ n_0 hm ih_0
 try dsimp only at hm ih_0 ⊢
 cases fu_0 with
 | zero => exact absurd hm (by unfold m_slices_swapRangeCmpFunc_event_Event__event_order_l0; simp)
 | succ fu_0 =>
  unfold m_slices_swapRangeCmpFunc_event_Event__event_order_l0 at hm
  refine Sq <| Sx <| Wm (.i y10_0) rfl <| Wm (.i p3) rfl <| Wz (.b (decide (y10_0 < p3))) (Obn rfl (fun _ => hb_lss (k := .i64))) <| Nk 9231 1 ⟨.own 0::.i p1::.i p2::.i p3::tp 6 (.i y10_0::tp 2 (.b (decide (y10_0 < p3))::tp 24 [])), [(Ar 34 5 enc_GEvent y0_0)], 1⟩ ?_
  rcases tf_ (decide (y10_0 < p3)) with hc13_2 | hc13_2
  ·
   replace hm := cT hc13_2 hm
   refine AiT hc13_2 <| Sk <| Tk 1039 1 ⟨.own 0::.i p1::.i p2::.i p3::tp 6 (.i y10_0::tp 27 []), [(Ar 34 5 enc_GEvent y0_0)], 1⟩ <| Sq <| Bk <| Adr <| Wm (.own 0) rfl <| Wm (.i p1) rfl <| Wm (.i y10_0) rfl <| Wz (.i (W6 (p1 + y10_0))) (Obn rfl (fun _ => hb_add (k := .i64))) <| Wm (.own 0) rfl <| Wm (.i p2) rfl <| Wm (.i y10_0) rfl <| Wz (.i (W6 (p2 + y10_0))) (Obn rfl (fun _ => hb_add (k := .i64))) ?_
   refine Wm (.own 0) rfl <| Wm (.i p2) rfl <| Wm (.i y10_0) rfl <| Wz (.i (W6 (p2 + y10_0))) (Obn rfl (fun _ => hb_add (k := .i64))) ?_
   obtain ⟨x28_1, hx28_1, hm⟩ := bnd hm
   obtain ⟨hx28_1i, hx28_1g⟩ := geti_some hx28_1
   refine Wz (.loc 0 ((Int.toNat (W6 (p2 + y10_0))) * 5)) (Oia rfl enc_GEvent_len hx28_1i hx28_1g) <| Wz (.agg [(.i x28_1.Time), (.i x28_1.Source), (.i x28_1.Seq), (.s x28_1.Type_), (.l enc_GValue x28_1.Vals)]) (Lr rfl enc_GEvent_len hx28_1g) <| Wm (.own 0) rfl <| Wm (.i p1) rfl <| Wm (.i y10_0) rfl <| Wz (.i (W6 (p1 + y10_0))) (Obn rfl (fun _ => hb_add (k := .i64))) ?_
   obtain ⟨x34_1, hx34_1, hm⟩ := bnd hm
   obtain ⟨hx34_1i, hx34_1g⟩ := geti_some hx34_1
   refine Wz (.loc 0 ((Int.toNat (W6 (p1 + y10_0))) * 5)) (Oia rfl enc_GEvent_len hx34_1i hx34_1g) <| Wz (.agg [(.i x34_1.Time), (.i x34_1.Source), (.i x34_1.Seq), (.s x34_1.Type_), (.l enc_GValue x34_1.Vals)]) (Lr rfl enc_GEvent_len hx34_1g) ?_
   obtain ⟨x36_1, hx36_1, hm⟩ := bnd hm
   obtain ⟨hx36_1i, hx36_1g⟩ := geti_some hx36_1
   refine Wz (.loc 0 ((Int.toNat (W6 (p1 + y10_0))) * 5)) (Oia rfl enc_GEvent_len hx36_1i hx36_1g) <| Wy (.tup []) [(0, (Ar 34 5 enc_GEvent (List.set y0_0 (Int.toNat (W6 (p1 + y10_0))) x28_1)))] (Osr 0 rfl enc_GEvent_len hx36_1g x28_1) ?_
   obtain ⟨x37_1, hx37_1, hm⟩ := bnd hm
   obtain ⟨hx37_1i, hx37_1g⟩ := geti_some hx37_1
   refine Wz (.loc 0 ((Int.toNat (W6 (p2 + y10_0))) * 5)) (Oia rfl enc_GEvent_len hx37_1i hx37_1g) <| Wy (.tup []) [(0, (Ar 34 5 enc_GEvent (List.set (List.set y0_0 (Int.toNat (W6 (p1 + y10_0))) x28_1) (Int.toNat (W6 (p2 + y10_0))) x34_1)))] (Osr 0 rfl enc_GEvent_len hx37_1g x34_1) <| Wdr <| Ino <| Tk 1039 1 ⟨.own 0::.i p1::.i p2::.i p3::tp 6 (.i y10_0::tp 27 []), [(Ar 34 5 enc_GEvent (List.set (List.set y0_0 (Int.toNat (W6 (p1 + y10_0))) x28_1) (Int.toNat (W6 (p2 + y10_0))) x34_1))], 1⟩ <| Tx <| Wm (.i y10_0) rfl <| Wz (.i (W6 (y10_0 + 1))) (Obn rfl (fun _ => hb_add (k := .i64))) <| Wm (.i (W6 (y10_0 + 1))) rfl <| Wn0 <| RoundK.normal ?_
   exact Rounds.weak (Weak.toK 1039 0 0 [0]) (ih_0 (fu_0, (List.set (List.set y0_0 (Int.toNat (W6 (p1 + y10_0))) x28_1) (Int.toNat (W6 (p2 + y10_0))) x34_1), (W6 (y10_0 + 1))) hm (Nat.lt_succ_self _))
  ·
   replace hm := cF hc13_2 hm
   refine AiF hc13_2 <| AWP.exit <| Then.exit <| RoundK.exit <| InBlock.same ?_
   obtain rfl := Option.some.inj hm
   exact ret_n [0]

theorem ok_slices_rotateCmpFunc_event_Event__event_order (p0 : (List GEvent)) (p1 : Int) (p2 : Int) (p3 : Int) (r : (List GEvent)) (h : m_slices_rotateCmpFunc_event_Event__event_order p0 p1 p2 p3 = some r) : GCall Try.prog 105 [(.own 0), (.i p1), (.i p2), (.i p3), (.clo (.func 59) [] [])] [(Ar 34 5 enc_GEvent p0)] (.tup []) [(Ar 34 5 enc_GEvent r)] := by
 refine GCall.of_body (n := 58) (rs := []) Try.func105 rfl rfl rfl <| Ato ⟨.own 0::.i p1::.i p2::.i p3::.clo (.func 59) [] []::tu 53 [], [(Ar 34 5 enc_GEvent p0)], 1⟩ ?_
 have hm := h
 unfold m_slices_rotateCmpFunc_event_Event__event_order at hm
 refine Sx <| Wm (.i p2) rfl <| Wm (.i p1) rfl <| Wz (.i (W6 (p2 - p1))) (Obn rfl (fun _ => hb_sub (k := .i64))) <| Wm (.i (W6 (p2 - p1))) rfl <| Nk 1053 1 ⟨.own 0::tp 1 (.i p2::.i p3::.clo (.func 59) [] []::tp 5 (.i (W6 (p2 - p1))::tp 47 [])), [(Ar 34 5 enc_GEvent p0)], 1⟩ <| Sx <| Wm (.i p3) rfl <| Wm (.i p2) rfl <| Wz (.i (W6 (p3 - p2))) (Obn rfl (fun _ => hb_sub (k := .i64))) <| Wm (.i (W6 (p3 - p2))) rfl <| Nk 3093 1 ⟨.own 0::tp 1 (.i p2::tp 1 (.clo (.func 59) [] []::tp 5 (.i (W6 (p2 - p1))::.i (W6 (p3 - p2))::tp 46 []))), [(Ar 34 5 enc_GEvent p0)], 1⟩ <| Sq <| Bk ?_
 refine AWP.loopI (α := Nat × (List GEvent) × Int × Int)
   (fun (fu_0, y0_0, y10_0, y11_0) => (⟨.own 0::tp 1 (.i p2::tp 1 (.clo (.func 59) [] []::tp 5 (.i y10_0::.i y11_0::tp 46 []))), [(Ar 34 5 enc_GEvent y0_0)], 1⟩ : St))
   (fun (fu_0, y0_0, y10_0, y11_0) => m_slices_rotateCmpFunc_event_Event__event_order_l0 p2 fu_0 y0_0 y10_0 y11_0 = some r)
   (fun (fu_0, y0_0, y10_0, y11_0) => fu_0) (1152921504606846976, p0, (W6 (p2 - p1)), (W6 (p3 - p2)))
   (Weak.toK 3093 0 0 [0]) hm ?_
 rintro ⟨fu_0, y0_0, y10_0, y11_0⟩ n_0 hm ih_0
 try dsimp only at hm ih_0 ⊢
 cases fu_0 with
 | zero => exact absurd hm (by unfold m_slices_rotateCmpFunc_event_Event__event_order_l0; simp)
 | succ fu_0 =>
  unfold m_slices_rotateCmpFunc_event_Event__event_order_l0 at hm
  refine Sq <| Sx <| Wm (.i y10_0) rfl <| Wm (.i y11_0) rfl <| Wz (.b (decide (y10_0 ≠ y11_0))) (Obn rfl (fun _ => hb_neq (k := .i64))) <| Nk 1051669 1 ⟨.own 0::tp 1 (.i p2::tp 1 (.clo (.func 59) [] []::tp 5 (.i y10_0::.i y11_0::tp 8 (.b (decide (y10_0 ≠ y11_0))::tp 37 [])))), [(Ar 34 5 enc_GEvent y0_0)], 1⟩ ?_
  rcases tf_ (decide (y10_0 ≠ y11_0)) with hc20_4 | hc20_4
  ·
   replace hm := cT hc20_4 hm
   refine AiT hc20_4 <| Sk <| Tk 3093 1 ⟨.own 0::tp 1 (.i p2::tp 1 (.clo (.func 59) [] []::tp 5 (.i y10_0::.i y11_0::tp 46 []))), [(Ar 34 5 enc_GEvent y0_0)], 1⟩ <| Bk <| Sx <| Wm (.i y10_0) rfl <| Wm (.i y11_0) rfl <| Wz (.b (decide (y11_0 < y10_0))) (Obn rfl (fun _ => hb_gtr (k := .i64))) <| Nk 8391701 1 ⟨.own 0::tp 1 (.i p2::tp 1 (.clo (.func 59) [] []::tp 5 (.i y10_0::.i y11_0::tp 11 (.b (decide (y11_0 < y10_0))::tp 34 [])))), [(Ar 34 5 enc_GEvent y0_0)], 1⟩ ?_
   rcases tf_ (decide (y11_0 < y10_0)) with hc23_5 | hc23_5
   ·
    replace hm := cT hc23_5 hm
    refine AiT hc23_5 <| Sx <| Wm (.own 0) rfl <| Wm (.i p2) rfl <| Wm (.i y10_0) rfl <| Wz (.i (W6 (p2 - y10_0))) (Obn rfl (fun _ => hb_sub (k := .i64))) <| Wm (.i p2) rfl <| Wm (.i y11_0) rfl <| Wm (.clo (.func 59) [] []) rfl ?_
    obtain ⟨r31_1, hr31_1, hm⟩ := bnd hm
    refine Wy (.tup []) [(0, (Ar 34 5 enc_GEvent r31_1))] (Ocf [0] [] [] 0 (ok_slices_swapRangeCmpFunc_event_Event__event_order y0_0 (W6 (p2 - y10_0)) p2 y11_0 r31_1 hr31_1) (fun a w => Try.call111 a w) rfl ⟨rfl, trivial⟩) <| Nk 3093 1 ⟨.own 0::tp 1 (.i p2::tp 1 (.clo (.func 59) [] []::tp 5 (.i y10_0::.i y11_0::tp 46 []))), [(Ar 34 5 enc_GEvent r31_1)], 1⟩ <| Tx <| Wm (.i y10_0) rfl <| Wm (.i y11_0) rfl <| Wz (.i (W6 (y10_0 - y11_0))) (Obn rfl (fun _ => hb_sub (k := .i64))) <| Wm (.i (W6 (y10_0 - y11_0))) rfl <| Wn0 <| Ino <| RoundK.normal ?_
    exact Rounds.weak (Weak.toK 3093 0 0 [0]) (ih_0 (fu_0, r31_1, (W6 (y10_0 - y11_0)), y11_0) hm (Nat.lt_succ_self _))
   ·
    replace hm := cF hc23_5 hm
    refine AiF hc23_5 <| Sx <| Wm (.own 0) rfl <| Wm (.i p2) rfl <| Wm (.i y10_0) rfl <| Wz (.i (W6 (p2 - y10_0))) (Obn rfl (fun _ => hb_sub (k := .i64))) <| Wm (.i p2) rfl <| Wm (.i y11_0) rfl <| Wz (.i (W6 (p2 + y11_0))) (Obn rfl (fun _ => hb_add (k := .i64))) <| Wm (.i y10_0) rfl <| Wz (.i (W6 ((W6 (p2 + y11_0)) - y10_0))) (Obn rfl (fun _ => hb_sub (k := .i64))) <| Wm (.i y10_0) rfl <| Wm (.clo (.func 59) [] []) rfl ?_
    obtain ⟨r46_2, hr46_2, hm⟩ := bnd hm
    refine Wy (.tup []) [(0, (Ar 34 5 enc_GEvent r46_2))] (Ocf [0] [] [] 0 (ok_slices_swapRangeCmpFunc_event_Event__event_order y0_0 (W6 (p2 - y10_0)) (W6 ((W6 (p2 + y11_0)) - y10_0)) y10_0 r46_2 hr46_2) (fun a w => Try.call111 a w) rfl ⟨rfl, trivial⟩) <| Nk 3093 1 ⟨.own 0::tp 1 (.i p2::tp 1 (.clo (.func 59) [] []::tp 5 (.i y10_0::.i y11_0::tp 46 []))), [(Ar 34 5 enc_GEvent r46_2)], 1⟩ <| Tx <| Wm (.i y11_0) rfl <| Wm (.i y10_0) rfl <| Wz (.i (W6 (y11_0 - y10_0))) (Obn rfl (fun _ => hb_sub (k := .i64))) <| Wm (.i (W6 (y11_0 - y10_0))) rfl <| Wn0 <| Ino <| RoundK.normal ?_
    exact Rounds.weak (Weak.toK 3093 0 0 [0]) (ih_0 (fu_0, r46_2, y10_0, (W6 (y11_0 - y10_0))) hm (Nat.lt_succ_self _))
  ·
   replace hm := cF hc20_4 hm
   refine AiF hc20_4 <| AWP.exit <| Then.exit <| RoundK.exit <| InBlock.same <| Tk 1045 1 ⟨.own 0::tp 1 (.i p2::tp 1 (.clo (.func 59) [] []::tp 5 (.i y10_0::tp 47 []))), [(Ar 34 5 enc_GEvent y0_0)], 1⟩ <| Tx <| Wm (.own 0) rfl <| Wm (.i p2) rfl <| Wm (.i y10_0) rfl <| Wz (.i (W6 (p2 - y10_0))) (Obn rfl (fun _ => hb_sub (k := .i64))) <| Wm (.i p2) rfl <| Wm (.i y10_0) rfl <| Wm (.clo (.func 59) [] []) rfl ?_
   obtain ⟨r57_3, hr57_3, hm⟩ := bnd hm
   refine Wy (.tup []) [(0, (Ar 34 5 enc_GEvent r57_3))] (Ocf [0] [] [] 0 (ok_slices_swapRangeCmpFunc_event_Event__event_order y0_0 (W6 (p2 - y10_0)) p2 y10_0 r57_3 hr57_3) (fun a w => Try.call111 a w) rfl ⟨rfl, trivial⟩) <| Wn0 ?_
   obtain rfl := Option.some.inj hm
   exact ret_n [0]

theorem ok_slices_symMergeCmpFunc_event_Event__event_order : ∀ (fuR : Nat) (p0 : (List GEvent)) (p1 : Int) (p2 : Int) (p3 : Int) (r : (List GEvent)) (h : m_slices_symMergeCmpFunc_event_Event__event_order fuR p0 p1 p2 p3 = some r), GCall Try.prog 96 [(.own 0), (.i p1), (.i p2), (.i p3), (.clo (.func 59) [] [])] [(Ar 34 5 enc_GEvent p0)] (.tup []) [(Ar 34 5 enc_GEvent r)] := by
 intro fuR; induction fuR with
 | zero => intro p0 p1 p2 p3 r h; exact absurd h (by unfold m_slices_symMergeCmpFunc_event_Event__event_order; simp)
 | succ fuR ih =>
 intro p0 p1 p2 p3 r h
 refine GCall.of_body (n := 220) (rs := []) Try.func96 rfl rfl rfl <| Ato ⟨.own 0::.i p1::.i p2::.i p3::.clo (.func 59) [] []::tu 215 [], [(Ar 34 5 enc_GEvent p0)], 1⟩ ?_
 have hm := h
 unfold m_slices_symMergeCmpFunc_event_Event__event_order at hm
 refine Sq <| Sx <| Wm (.i p2) rfl <| Wm (.i p1) rfl <| Wz (.i (W6 (p2 - p1))) (Obn rfl (fun _ => hb_sub (k := .i64))) <| Wz (.b (decide ((W6 (p2 - p1)) = 1))) (Obn rfl (fun _ => hb_eql (k := .i64))) <| Nk 268435487 1 ⟨.own 0::.i p1::.i p2::.i p3::.clo (.func 59) [] []::tp 23 (.b (decide ((W6 (p2 - p1)) = 1))::tp 191 []), [(Ar 34 5 enc_GEvent p0)], 1⟩ ?_
 rcases tf_ (decide ((W6 (p2 - p1)) = 1)) with hc28_27 | hc28_27
 ·
  replace hm := cT hc28_27 hm
  refine AiT hc28_27 <| Sx <| Wm (.i p2) rfl <| Wm (.i p2) rfl <| Nk 1051 1 ⟨.own 0::.i p1::tp 1 (.i p3::.clo (.func 59) [] []::tp 5 (.i p2::tp 209 [])), [(Ar 34 5 enc_GEvent p0)], 1⟩ <| Sx <| Wm (.i p3) rfl <| Wm (.i p3) rfl <| Nk 3091 1 ⟨.own 0::.i p1::tp 2 (.clo (.func 59) [] []::tp 5 (.i p2::.i p3::tp 208 [])), [(Ar 34 5 enc_GEvent p0)], 1⟩ <| Sq <| Bk ?_
  refine AWP.loopI (α := Nat × Int × Int)
    (fun (fu_0, y10_0, y11_0) => (⟨.own 0::.i p1::tp 2 (.clo (.func 59) [] []::tp 5 (.i y10_0::.i y11_0::tp 208 [])), [(Ar 34 5 enc_GEvent p0)], 1⟩ : St))
    (fun (fu_0, y10_0, y11_0) => m_slices_symMergeCmpFunc_event_Event__event_order_l0 p0 p1 fu_0 y10_0 y11_0 = some r)
    (fun (fu_0, y10_0, y11_0) => fu_0) (1152921504606846976, p2, p3)
    (Weak.toK 3091 0 0 [0]) hm ?_
  rintro ⟨fu_0, y10_0, y11_0⟩ n_0 hm ih_0
  try dsimp only at hm ih_0 ⊢
  cases fu_0 with
  | zero => exact absurd hm (by unfold m_slices_symMergeCmpFunc_event_Event__event_order_l0; simp)
  | succ fu_0 =>
   unfold m_slices_symMergeCmpFunc_event_Event__event_order_l0 at hm
   refine Sq <| Sx <| Wm (.i y10_0) rfl <| Wm (.i y11_0) rfl <| Wz (.b (decide (y10_0 < y11_0))) (Obn rfl (fun _ => hb_lss (k := .i64))) <| Nk 8589937683 1 ⟨.own 0::.i p1::tp 2 (.clo (.func 59) [] []::tp 5 (.i y10_0::.i y11_0::tp 21 (.b (decide (y10_0 < y11_0))::tp 186 []))), [(Ar 34 5 enc_GEvent p0)], 1⟩ ?_
   rcases tf_ (decide (y10_0 < y11_0)) with hc33_28 | hc33_28
   ·
    replace hm := cT hc33_28 hm
    refine AiT hc33_28 <| Sk <| Tk 3091 1 ⟨.own 0::.i p1::tp 2 (.clo (.func 59) [] []::tp 5 (.i y10_0::.i y11_0::tp 208 [])), [(Ar 34 5 enc_GEvent p0)], 1⟩ <| Bk <| Sx <| Wm (.i y10_0) rfl <| Wm (.i y11_0) rfl <| Wz (.i (W6 (y10_0 + y11_0))) (Obn rfl (fun _ => hb_add (k := .i64))) <| Wz (.u (W7 (W6 (y10_0 + y11_0)))) (Oc2 (.int .i64 (W6 (y10_0 + y11_0))) rfl (run_conv (ds := .int .i64) (k' := .u64) (by kernel_rfl) (by kernel_rfl))) <| Wz (.u (Int.fdiv (W7 (W6 (y10_0 + y11_0))) (2 ^ 1))) (Ob2 (.int .u64 (W7 (W6 (y10_0 + y11_0)))) (.int .u64 1) rfl (fun _ => hb_shr (n := 1) (by decide) rfl)) <| Wz (.i (W6 (Int.fdiv (W7 (W6 (y10_0 + y11_0))) (2 ^ 1)))) (Oc2 (.int .u64 (Int.fdiv (W7 (W6 (y10_0 + y11_0))) (2 ^ 1))) rfl (run_conv (ds := .int .u64) (k' := .i64) (by kernel_rfl) (by kernel_rfl))) <| Wm (.i (W6 (Int.fdiv (W7 (W6 (y10_0 + y11_0))) (2 ^ 1)))) rfl <| Nk 7187 1 ⟨.own 0::.i p1::tp 2 (.clo (.func 59) [] []::tp 5 (.i y10_0::.i y11_0::.i (W6 (Int.fdiv (W7 (W6 (y10_0 + y11_0))) (2 ^ 1)))::tp 207 [])), [(Ar 34 5 enc_GEvent p0)], 1⟩ <| Sq ?_
    refine Adr <| Wm (.clo (.func 59) [] []) rfl <| Wm (.own 0) rfl <| Wm (.i (W6 (Int.fdiv (W7 (W6 (y10_0 + y11_0))) (2 ^ 1)))) rfl ?_
    obtain ⟨x43_2, hx43_2, hm⟩ := bnd hm
    obtain ⟨hx43_2i, hx43_2g⟩ := geti_some hx43_2
    refine Wz (.loc 0 ((Int.toNat (W6 (Int.fdiv (W7 (W6 (y10_0 + y11_0))) (2 ^ 1)))) * 5)) (Oia rfl enc_GEvent_len hx43_2i hx43_2g) <| Wz (.agg [(.i x43_2.Time), (.i x43_2.Source), (.i x43_2.Seq), (.s x43_2.Type_), (.l enc_GValue x43_2.Vals)]) (Lr rfl enc_GEvent_len hx43_2g) <| Wm (.own 0) rfl <| Wm (.i p1) rfl ?_
    obtain ⟨x47_2, hx47_2, hm⟩ := bnd hm
    obtain ⟨hx47_2i, hx47_2g⟩ := geti_some hx47_2
    refine Wz (.loc 0 ((Int.toNat p1) * 5)) (Oia rfl enc_GEvent_len hx47_2i hx47_2g) <| Wz (.agg [(.i x47_2.Time), (.i x47_2.Source), (.i x47_2.Seq), (.s x47_2.Type_), (.l enc_GValue x47_2.Vals)]) (Lr rfl enc_GEvent_len hx47_2g) ?_
    obtain ⟨r49_2, hr49_2, hm⟩ := bnd hm
    refine Wz (.i r49_2) (Ocf [] [] [] 0 (ok_event_order x43_2 x47_2 r49_2 hr49_2) (fun a w => Try.call59 a w) rfl trivial) <| Wz (.b (decide (r49_2 < 0))) (Obn rfl (fun _ => hb_lss (k := .i64))) <| Wdr <| Tk 1125899906849811 1 ⟨.own 0::.i p1::tp 2 (.clo (.func 59) [] []::tp 5 (.i y10_0::.i y11_0::.i (W6 (Int.fdiv (W7 (W6 (y10_0 + y11_0))) (2 ^ 1)))::tp 37 (.b (decide (r49_2 < 0))::tp 169 []))), [(Ar 34 5 enc_GEvent p0)], 1⟩ ?_
    rcases tf_ (decide (r49_2 < 0)) with hc50_29 | hc50_29
    ·
     replace hm := cT hc50_29 hm
     refine AiT hc50_29 <| Tx <| Wm (.i (W6 (Int.fdiv (W7 (W6 (y10_0 + y11_0))) (2 ^ 1)))) rfl ?_
     obtain ⟨v52_3, hv52_3, hm⟩ := bnd hm; replace hv52_3 := Option.some.inj hv52_3
     refine Wz (.i v52_3) (Ocs (congrArg (fun z => A.d (.lit (.int .i64 z))) hv52_3) (Obn rfl (fun _ => hb_add (k := .i64)))) <| Wm (.i v52_3) rfl <| Wn0 <| Ino <| RoundK.normal ?_
     exact Rounds.weak (Weak.toK 3091 0 0 [0]) (ih_0 (fu_0, v52_3, y11_0) hm (Nat.lt_succ_self _))
    ·
     replace hm := cF hc50_29 hm
     refine AiF hc50_29 <| Tx <| Wm (.i (W6 (Int.fdiv (W7 (W6 (y10_0 + y11_0))) (2 ^ 1)))) rfl <| Wm (.i (W6 (Int.fdiv (W7 (W6 (y10_0 + y11_0))) (2 ^ 1)))) rfl <| Wn0 <| Ino <| RoundK.normal ?_
     exact Rounds.weak (Weak.toK 3091 0 0 [0]) (ih_0 (fu_0, y10_0, (W6 (Int.fdiv (W7 (W6 (y10_0 + y11_0))) (2 ^ 1)))) hm (Nat.lt_succ_self _))
   ·
    replace hm := cF hc33_28 hm
    refine AiF hc33_28 <| AWP.exit <| Then.exit <| RoundK.exit <| InBlock.same <| Tk 1027 1 ⟨.own 0::.i p1::tp 8 (.i y10_0::tp 209 []), [(Ar 34 5 enc_GEvent p0)], 1⟩ <| Sq <| Sx <| Wm (.i p1) rfl <| Wm (.i p1) rfl <| Nk 9217 1 ⟨.own 0::tp 9 (.i y10_0::tp 2 (.i p1::tp 206 [])), [(Ar 34 5 enc_GEvent p0)], 1⟩ <| Bk ?_
    refine AWP.loopI (α := Nat × (List GEvent) × Int)
      (fun (fu_4, y0_4, y13_4) => (⟨.own 0::tp 9 (.i y10_0::tp 2 (.i y13_4::tp 206 [])), [(Ar 34 5 enc_GEvent y0_4)], 1⟩ : St))
      (fun (fu_4, y0_4, y13_4) => m_slices_symMergeCmpFunc_event_Event__event_order_l4 y10_0 fu_4 y0_4 y13_4 = some r)
      (fun (fu_4, y0_4, y13_4) => fu_4) (1152921504606846976, p0, p1)
      (Weak.toK 9217 0 0 [0]) hm ?_
    rintro ⟨fu_4, y0_4, y13_4⟩ n_4 hm ih_4
    try dsimp only at hm ih_4 ⊢
    cases fu_4 with
    | zero => exact absurd hm (by unfold m_slices_symMergeCmpFunc_event_Event__event_order_l4; simp)
    | succ fu_4 =>
     unfold m_slices_symMergeCmpFunc_event_Event__event_order_l4 at hm
     refine Sq <| Sx <| Wm (.i y13_4) rfl <| Wm (.i y10_0) rfl <| Wz (.i (W6 (y10_0 - 1))) (Obn rfl (fun _ => hb_sub (k := .i64))) <| Wz (.b (decide (y13_4 < (W6 (y10_0 - 1))))) (Obn rfl (fun _ => hb_lss (k := .i64))) <| Nk 288230376151720961 1 ⟨.own 0::tp 9 (.i y10_0::tp 2 (.i y13_4::tp 44 (.b (decide (y13_4 < (W6 (y10_0 - 1))))::tp 161 []))), [(Ar 34 5 enc_GEvent y0_4)], 1⟩ ?_
     rcases tf_ (decide (y13_4 < (W6 (y10_0 - 1)))) with hc58_30 | hc58_30
     ·
      replace hm := cT hc58_30 hm
      refine AiT hc58_30 <| Sk <| Tk 9217 1 ⟨.own 0::tp 9 (.i y10_0::tp 2 (.i y13_4::tp 206 [])), [(Ar 34 5 enc_GEvent y0_4)], 1⟩ <| Sq <| Bk <| Adr <| Wm (.own 0) rfl <| Wm (.i y13_4) rfl <| Wm (.own 0) rfl <| Wm (.i y13_4) rfl <| Wz (.i (W6 (y13_4 + 1))) (Obn rfl (fun _ => hb_add (k := .i64))) <| Wm (.own 0) rfl <| Wm (.i y13_4) rfl <| Wz (.i (W6 (y13_4 + 1))) (Obn rfl (fun _ => hb_add (k := .i64))) ?_
      obtain ⟨x69_5, hx69_5, hm⟩ := bnd hm
      obtain ⟨hx69_5i, hx69_5g⟩ := geti_some hx69_5
      refine Wz (.loc 0 ((Int.toNat (W6 (y13_4 + 1))) * 5)) (Oia rfl enc_GEvent_len hx69_5i hx69_5g) <| Wz (.agg [(.i x69_5.Time), (.i x69_5.Source), (.i x69_5.Seq), (.s x69_5.Type_), (.l enc_GValue x69_5.Vals)]) (Lr rfl enc_GEvent_len hx69_5g) <| Wm (.own 0) rfl <| Wm (.i y13_4) rfl ?_
      obtain ⟨x73_5, hx73_5, hm⟩ := bnd hm
      obtain ⟨hx73_5i, hx73_5g⟩ := geti_some hx73_5
      refine Wz (.loc 0 ((Int.toNat y13_4) * 5)) (Oia rfl enc_GEvent_len hx73_5i hx73_5g) <| Wz (.agg [(.i x73_5.Time), (.i x73_5.Source), (.i x73_5.Seq), (.s x73_5.Type_), (.l enc_GValue x73_5.Vals)]) (Lr rfl enc_GEvent_len hx73_5g) ?_
      obtain ⟨x75_5, hx75_5, hm⟩ := bnd hm
      obtain ⟨hx75_5i, hx75_5g⟩ := geti_some hx75_5
      refine Wz (.loc 0 ((Int.toNat y13_4) * 5)) (Oia rfl enc_GEvent_len hx75_5i hx75_5g) <| Wy (.tup []) [(0, (Ar 34 5 enc_GEvent (List.set y0_4 (Int.toNat y13_4) x69_5)))] (Osr 0 rfl enc_GEvent_len hx75_5g x69_5) ?_
      obtain ⟨x76_5, hx76_5, hm⟩ := bnd hm
      obtain ⟨hx76_5i, hx76_5g⟩ := geti_some hx76_5
      refine Wz (.loc 0 ((Int.toNat (W6 (y13_4 + 1))) * 5)) (Oia rfl enc_GEvent_len hx76_5i hx76_5g) <| Wy (.tup []) [(0, (Ar 34 5 enc_GEvent (List.set (List.set y0_4 (Int.toNat y13_4) x69_5) (Int.toNat (W6 (y13_4 + 1))) x73_5)))] (Osr 0 rfl enc_GEvent_len hx76_5g x73_5) <| Wdr <| Ino <| Tk 9217 1 ⟨.own 0::tp 9 (.i y10_0::tp 2 (.i y13_4::tp 206 [])), [(Ar 34 5 enc_GEvent (List.set (List.set y0_4 (Int.toNat y13_4) x69_5) (Int.toNat (W6 (y13_4 + 1))) x73_5))], 1⟩ <| Tx <| Wm (.i y13_4) rfl <| Wz (.i (W6 (y13_4 + 1))) (Obn rfl (fun _ => hb_add (k := .i64))) <| Wm (.i (W6 (y13_4 + 1))) rfl <| Wn0 <| RoundK.normal ?_
      exact Rounds.weak (Weak.toK 9217 0 0 [0]) (ih_4 (fu_4, (List.set (List.set y0_4 (Int.toNat y13_4) x69_5) (Int.toNat (W6 (y13_4 + 1))) x73_5), (W6 (y13_4 + 1))) hm (Nat.lt_succ_self _))
     ·
      replace hm := cF hc58_30 hm
      refine AiF hc58_30 <| AWP.exit <| Then.exit <| RoundK.exit <| InBlock.same <| Tn <| Rt <| Tr ?_
      obtain rfl := Option.some.inj hm
      exact ret_i [0]
 ·
  replace hm := cF hc28_27 hm
  refine AiF hc28_27 <| Sk <| Tk 31 1 ⟨.own 0::.i p1::.i p2::.i p3::.clo (.func 59) [] []::tp 215 [], [(Ar 34 5 enc_GEvent p0)], 1⟩ <| Sq <| Sx <| Wm (.i p3) rfl <| Wm (.i p2) rfl <| Wz (.i (W6 (p3 - p2))) (Obn rfl (fun _ => hb_sub (k := .i64))) <| Wz (.b (decide ((W6 (p3 - p2)) = 1))) (Obn rfl (fun _ => hb_eql (k := .i64))) <| Nk 1208925819614629174706207 1 ⟨.own 0::.i p1::.i p2::.i p3::.clo (.func 59) [] []::tp 75 (.b (decide ((W6 (p3 - p2)) = 1))::tp 139 []), [(Ar 34 5 enc_GEvent p0)], 1⟩ ?_
  rcases tf_ (decide ((W6 (p3 - p2)) = 1)) with hc80_31 | hc80_31
  ·
   replace hm := cT hc80_31 hm
   refine AiT hc80_31 <| Sx <| Wm (.i p1) rfl <| Wm (.i p1) rfl <| Nk 16405 1 ⟨.own 0::tp 1 (.i p2::tp 1 (.clo (.func 59) [] []::tp 9 (.i p1::tp 205 []))), [(Ar 34 5 enc_GEvent p0)], 1⟩ <| Sx <| Wm (.i p2) rfl <| Wm (.i p2) rfl <| Nk 49173 1 ⟨.own 0::tp 1 (.i p2::tp 1 (.clo (.func 59) [] []::tp 9 (.i p1::.i p2::tp 204 []))), [(Ar 34 5 enc_GEvent p0)], 1⟩ <| Sq <| Bk ?_
   refine AWP.loopI (α := Nat × Int × Int)
     (fun (fu_6, y14_6, y15_6) => (⟨.own 0::tp 1 (.i p2::tp 1 (.clo (.func 59) [] []::tp 9 (.i y14_6::.i y15_6::tp 204 []))), [(Ar 34 5 enc_GEvent p0)], 1⟩ : St))
     (fun (fu_6, y14_6, y15_6) => m_slices_symMergeCmpFunc_event_Event__event_order_l6 p0 p2 fu_6 y14_6 y15_6 = some r)
     (fun (fu_6, y14_6, y15_6) => fu_6) (1152921504606846976, p1, p2)
     (Weak.toK 49173 0 0 [0]) hm ?_
   rintro ⟨fu_6, y14_6, y15_6⟩ n_6 hm ih_6
   try dsimp only at hm ih_6 ⊢
   cases fu_6 with
   | zero => exact absurd hm (by unfold m_slices_symMergeCmpFunc_event_Event__event_order_l6; simp)
   | succ fu_6 =>
    unfold m_slices_symMergeCmpFunc_event_Event__event_order_l6 at hm
    refine Sq <| Sx <| Wm (.i y14_6) rfl <| Wm (.i y15_6) rfl <| Wz (.b (decide (y14_6 < y15_6))) (Obn rfl (fun _ => hb_lss (k := .i64))) <| Nk 38685626227668133590646805 1 ⟨.own 0::tp 1 (.i p2::tp 1 (.clo (.func 59) [] []::tp 9 (.i y14_6::.i y15_6::tp 69 (.b (decide (y14_6 < y15_6))::tp 134 [])))), [(Ar 34 5 enc_GEvent p0)], 1⟩ ?_
    rcases tf_ (decide (y14_6 < y15_6)) with hc85_32 | hc85_32
    ·
     replace hm := cT hc85_32 hm
     refine AiT hc85_32 <| Sk <| Tk 49173 1 ⟨.own 0::tp 1 (.i p2::tp 1 (.clo (.func 59) [] []::tp 9 (.i y14_6::.i y15_6::tp 204 []))), [(Ar 34 5 enc_GEvent p0)], 1⟩ <| Bk <| Sx <| Wm (.i y14_6) rfl <| Wm (.i y15_6) rfl <| Wz (.i (W6 (y14_6 + y15_6))) (Obn rfl (fun _ => hb_add (k := .i64))) <| Wz (.u (W7 (W6 (y14_6 + y15_6)))) (Oc2 (.int .i64 (W6 (y14_6 + y15_6))) rfl (run_conv (ds := .int .i64) (k' := .u64) (by kernel_rfl) (by kernel_rfl))) <| Wz (.u (Int.fdiv (W7 (W6 (y14_6 + y15_6))) (2 ^ 1))) (Ob2 (.int .u64 (W7 (W6 (y14_6 + y15_6)))) (.int .u64 1) rfl (fun _ => hb_shr (n := 1) (by decide) rfl)) <| Wz (.i (W6 (Int.fdiv (W7 (W6 (y14_6 + y15_6))) (2 ^ 1)))) (Oc2 (.int .u64 (Int.fdiv (W7 (W6 (y14_6 + y15_6))) (2 ^ 1))) rfl (run_conv (ds := .int .u64) (k' := .i64) (by kernel_rfl) (by kernel_rfl))) <| Wm (.i (W6 (Int.fdiv (W7 (W6 (y14_6 + y15_6))) (2 ^ 1)))) rfl <| Nk 114709 1 ⟨.own 0::tp 1 (.i p2::tp 1 (.clo (.func 59) [] []::tp 9 (.i y14_6::.i y15_6::.i (W6 (Int.fdiv (W7 (W6 (y14_6 + y15_6))) (2 ^ 1)))::tp 203 []))), [(Ar 34 5 enc_GEvent p0)], 1⟩ <| Sq ?_
     refine Adr <| Wm (.clo (.func 59) [] []) rfl <| Wm (.own 0) rfl <| Wm (.i p2) rfl ?_
     obtain ⟨x95_8, hx95_8, hm⟩ := bnd hm
     obtain ⟨hx95_8i, hx95_8g⟩ := geti_some hx95_8
     refine Wz (.loc 0 ((Int.toNat p2) * 5)) (Oia rfl enc_GEvent_len hx95_8i hx95_8g) <| Wz (.agg [(.i x95_8.Time), (.i x95_8.Source), (.i x95_8.Seq), (.s x95_8.Type_), (.l enc_GValue x95_8.Vals)]) (Lr rfl enc_GEvent_len hx95_8g) <| Wm (.own 0) rfl <| Wm (.i (W6 (Int.fdiv (W7 (W6 (y14_6 + y15_6))) (2 ^ 1)))) rfl ?_
     obtain ⟨x99_8, hx99_8, hm⟩ := bnd hm
     obtain ⟨hx99_8i, hx99_8g⟩ := geti_some hx99_8
     refine Wz (.loc 0 ((Int.toNat (W6 (Int.fdiv (W7 (W6 (y14_6 + y15_6))) (2 ^ 1)))) * 5)) (Oia rfl enc_GEvent_len hx99_8i hx99_8g) <| Wz (.agg [(.i x99_8.Time), (.i x99_8.Source), (.i x99_8.Seq), (.s x99_8.Type_), (.l enc_GValue x99_8.Vals)]) (Lr rfl enc_GEvent_len hx99_8g) ?_
     obtain ⟨r101_8, hr101_8, hm⟩ := bnd hm
     refine Wz (.i r101_8) (Ocf [] [] [] 0 (ok_event_order x95_8 x99_8 r101_8 hr101_8) (fun a w => Try.call59 a w) rfl trivial) <| Wz (.b (decide (r101_8 < 0))) (Obn rfl (fun _ => hb_lss (k := .i64))) <| Wz (.b (!decide (r101_8 < 0))) (Ocs (by kernel_rfl) (op_un rfl (a1 := .bool (decide (r101_8 < 0))) (by kernel_rfl) (fun _ => hu_not))) <| Wdr <| Tk 10141204801825835211973625757717 1 ⟨.own 0::tp 1 (.i p2::tp 1 (.clo (.func 59) [] []::tp 9 (.i y14_6::.i y15_6::.i (W6 (Int.fdiv (W7 (W6 (y14_6 + y15_6))) (2 ^ 1)))::tp 86 (.b (!decide (r101_8 < 0))::tp 116 [])))), [(Ar 34 5 enc_GEvent p0)], 1⟩ ?_
     rcases tf_ (!decide (r101_8 < 0)) with hc103_33 | hc103_33
     ·
      replace hm := cT hc103_33 hm
      refine AiT hc103_33 <| Tx <| Wm (.i (W6 (Int.fdiv (W7 (W6 (y14_6 + y15_6))) (2 ^ 1)))) rfl ?_
      obtain ⟨v105_9, hv105_9, hm⟩ := bnd hm; replace hv105_9 := Option.some.inj hv105_9
      refine Wz (.i v105_9) (Ocs (congrArg (fun z => A.d (.lit (.int .i64 z))) hv105_9) (Obn rfl (fun _ => hb_add (k := .i64)))) <| Wm (.i v105_9) rfl <| Wn0 <| Ino <| RoundK.normal ?_
      exact Rounds.weak (Weak.toK 49173 0 0 [0]) (ih_6 (fu_6, v105_9, y15_6) hm (Nat.lt_succ_self _))
     ·
      replace hm := cF hc103_33 hm
      refine AiF hc103_33 <| Tx <| Wm (.i (W6 (Int.fdiv (W7 (W6 (y14_6 + y15_6))) (2 ^ 1)))) rfl <| Wm (.i (W6 (Int.fdiv (W7 (W6 (y14_6 + y15_6))) (2 ^ 1)))) rfl <| Wn0 <| Ino <| RoundK.normal ?_
      exact Rounds.weak (Weak.toK 49173 0 0 [0]) (ih_6 (fu_6, y14_6, (W6 (Int.fdiv (W7 (W6 (y14_6 + y15_6))) (2 ^ 1)))) hm (Nat.lt_succ_self _))
    ·
     replace hm := cF hc85_32 hm
     refine AiF hc85_32 <| AWP.exit <| Then.exit <| RoundK.exit <| InBlock.same <| Tk 16389 1 ⟨.own 0::tp 1 (.i p2::tp 11 (.i y14_6::tp 205 [])), [(Ar 34 5 enc_GEvent p0)], 1⟩ <| Sq <| Sx <| Wm (.i p2) rfl <| Wm (.i p2) rfl <| Nk 147457 1 ⟨.own 0::tp 13 (.i y14_6::tp 2 (.i p2::tp 202 [])), [(Ar 34 5 enc_GEvent p0)], 1⟩ <| Bk ?_
     refine AWP.loopI (α := Nat × (List GEvent) × Int)
       (fun (fu_10, y0_10, y17_10) => (⟨.own 0::tp 13 (.i y14_6::tp 2 (.i y17_10::tp 202 [])), [(Ar 34 5 enc_GEvent y0_10)], 1⟩ : St))
       (fun (fu_10, y0_10, y17_10) => m_slices_symMergeCmpFunc_event_Event__event_order_l10 y14_6 fu_10 y0_10 y17_10 = some r)
       (fun (fu_10, y0_10, y17_10) => fu_10) (1152921504606846976, p0, p2)
       (Weak.toK 147457 0 0 [0]) hm ?_
     rintro ⟨fu_10, y0_10, y17_10⟩ n_10 hm ih_10
     try dsimp only at hm ih_10 ⊢
     cases fu_10 with
     | zero => exact absurd hm (by unfold m_slices_symMergeCmpFunc_event_Event__event_order_l10; simp)
     | succ fu_10 =>
      unfold m_slices_symMergeCmpFunc_event_Event__event_order_l10 at hm
      refine Sq <| Sx <| Wm (.i y17_10) rfl <| Wm (.i y14_6) rfl <| Wz (.b (decide (y14_6 < y17_10))) (Obn rfl (fun _ => hb_gtr (k := .i64))) <| Nk 1298074214633706907132624082452481 1 ⟨.own 0::tp 13 (.i y14_6::tp 2 (.i y17_10::tp 92 (.b (decide (y14_6 < y17_10))::tp 109 []))), [(Ar 34 5 enc_GEvent y0_10)], 1⟩ ?_
      rcases tf_ (decide (y14_6 < y17_10)) with hc110_34 | hc110_34
      ·
       replace hm := cT hc110_34 hm
       refine AiT hc110_34 <| Sk <| Tk 147457 1 ⟨.own 0::tp 13 (.i y14_6::tp 2 (.i y17_10::tp 202 [])), [(Ar 34 5 enc_GEvent y0_10)], 1⟩ <| Sq <| Bk <| Adr <| Wm (.own 0) rfl <| Wm (.i y17_10) rfl <| Wm (.own 0) rfl <| Wm (.i y17_10) rfl <| Wz (.i (W6 (y17_10 - 1))) (Obn rfl (fun _ => hb_sub (k := .i64))) <| Wm (.own 0) rfl <| Wm (.i y17_10) rfl <| Wz (.i (W6 (y17_10 - 1))) (Obn rfl (fun _ => hb_sub (k := .i64))) ?_
       obtain ⟨x121_11, hx121_11, hm⟩ := bnd hm
       obtain ⟨hx121_11i, hx121_11g⟩ := geti_some hx121_11
       refine Wz (.loc 0 ((Int.toNat (W6 (y17_10 - 1))) * 5)) (Oia rfl enc_GEvent_len hx121_11i hx121_11g) <| Wz (.agg [(.i x121_11.Time), (.i x121_11.Source), (.i x121_11.Seq), (.s x121_11.Type_), (.l enc_GValue x121_11.Vals)]) (Lr rfl enc_GEvent_len hx121_11g) <| Wm (.own 0) rfl <| Wm (.i y17_10) rfl ?_
       obtain ⟨x125_11, hx125_11, hm⟩ := bnd hm
       obtain ⟨hx125_11i, hx125_11g⟩ := geti_some hx125_11
       refine Wz (.loc 0 ((Int.toNat y17_10) * 5)) (Oia rfl enc_GEvent_len hx125_11i hx125_11g) <| Wz (.agg [(.i x125_11.Time), (.i x125_11.Source), (.i x125_11.Seq), (.s x125_11.Type_), (.l enc_GValue x125_11.Vals)]) (Lr rfl enc_GEvent_len hx125_11g) ?_
       obtain ⟨x127_11, hx127_11, hm⟩ := bnd hm
       obtain ⟨hx127_11i, hx127_11g⟩ := geti_some hx127_11
       refine Wz (.loc 0 ((Int.toNat y17_10) * 5)) (Oia rfl enc_GEvent_len hx127_11i hx127_11g) <| Wy (.tup []) [(0, (Ar 34 5 enc_GEvent (List.set y0_10 (Int.toNat y17_10) x121_11)))] (Osr 0 rfl enc_GEvent_len hx127_11g x121_11) ?_
       obtain ⟨x128_11, hx128_11, hm⟩ := bnd hm
       obtain ⟨hx128_11i, hx128_11g⟩ := geti_some hx128_11
       refine Wz (.loc 0 ((Int.toNat (W6 (y17_10 - 1))) * 5)) (Oia rfl enc_GEvent_len hx128_11i hx128_11g) <| Wy (.tup []) [(0, (Ar 34 5 enc_GEvent (List.set (List.set y0_10 (Int.toNat y17_10) x121_11) (Int.toNat (W6 (y17_10 - 1))) x125_11)))] (Osr 0 rfl enc_GEvent_len hx128_11g x125_11) <| Wdr <| Ino <| Tk 147457 1 ⟨.own 0::tp 13 (.i y14_6::tp 2 (.i y17_10::tp 202 [])), [(Ar 34 5 enc_GEvent (List.set (List.set y0_10 (Int.toNat y17_10) x121_11) (Int.toNat (W6 (y17_10 - 1))) x125_11))], 1⟩ <| Tx <| Wm (.i y17_10) rfl <| Wz (.i (W6 (y17_10 - 1))) (Obn rfl (fun _ => hb_sub (k := .i64))) <| Wm (.i (W6 (y17_10 - 1))) rfl <| Wn0 <| RoundK.normal ?_
       exact Rounds.weak (Weak.toK 147457 0 0 [0]) (ih_10 (fu_10, (List.set (List.set y0_10 (Int.toNat y17_10) x121_11) (Int.toNat (W6 (y17_10 - 1))) x125_11), (W6 (y17_10 - 1))) hm (Nat.lt_succ_self _))
      ·
       replace hm := cF hc110_34 hm
       refine AiF hc110_34 <| AWP.exit <| Then.exit <| RoundK.exit <| InBlock.same <| Tn <| Rt <| Tr ?_
       obtain rfl := Option.some.inj hm
       exact ret_i [0]
  ·
   replace hm := cF hc80_31 hm
   refine AiF hc80_31 <| Sk <| Tk 31 1 ⟨.own 0::.i p1::.i p2::.i p3::.clo (.func 59) [] []::tp 215 [], [(Ar 34 5 enc_GEvent p0)], 1⟩ <| Sx <| Wm (.i p1) rfl <| Wm (.i p3) rfl <| Wz (.i (W6 (p1 + p3))) (Obn rfl (fun _ => hb_add (k := .i64))) <| Wz (.u (W7 (W6 (p1 + p3)))) (Oc2 (.int .i64 (W6 (p1 + p3))) rfl (run_conv (ds := .int .i64) (k' := .u64) (by kernel_rfl) (by kernel_rfl))) <| Wz (.u (Int.fdiv (W7 (W6 (p1 + p3))) (2 ^ 1))) (Ob2 (.int .u64 (W7 (W6 (p1 + p3)))) (.int .u64 1) rfl (fun _ => hb_shr (n := 1) (by decide) rfl)) <| Wz (.i (W6 (Int.fdiv (W7 (W6 (p1 + p3))) (2 ^ 1)))) (Oc2 (.int .u64 (Int.fdiv (W7 (W6 (p1 + p3))) (2 ^ 1))) rfl (run_conv (ds := .int .u64) (k' := .i64) (by kernel_rfl) (by kernel_rfl))) <| Wm (.i (W6 (Int.fdiv (W7 (W6 (p1 + p3))) (2 ^ 1)))) rfl <| Nk 262175 1 ⟨.own 0::.i p1::.i p2::.i p3::.clo (.func 59) [] []::tp 13 (.i (W6 (Int.fdiv (W7 (W6 (p1 + p3))) (2 ^ 1)))::tp 201 []), [(Ar 34 5 enc_GEvent p0)], 1⟩ <| Sx <| Wm (.i (W6 (Int.fdiv (W7 (W6 (p1 + p3))) (2 ^ 1)))) rfl ?_
   refine Wm (.i p2) rfl ?_
   obtain ⟨v137_13, hv137_13, hm⟩ := bnd hm; replace hv137_13 := Option.some.inj hv137_13
   refine Wz (.i v137_13) (Ocs (congrArg (fun z => A.d (.lit (.int .i64 z))) hv137_13) (Obn rfl (fun _ => hb_add (k := .i64)))) <| Wm (.i v137_13) rfl <| Nk 786463 1 ⟨.own 0::.i p1::.i p2::.i p3::.clo (.func 59) [] []::tp 13 (.i (W6 (Int.fdiv (W7 (W6 (p1 + p3))) (2 ^ 1)))::.i v137_13::tp 200 []), [(Ar 34 5 enc_GEvent p0)], 1⟩ <| Sx <| Wm (.i 0) rfl <| Wm (.i 0) rfl <| Nk 786463 1 ⟨.own 0::.i p1::.i p2::.i p3::.clo (.func 59) [] []::tp 13 (.i (W6 (Int.fdiv (W7 (W6 (p1 + p3))) (2 ^ 1)))::.i v137_13::tp 200 []), [(Ar 34 5 enc_GEvent p0)], 1⟩ ?_
   refine AWP.cutJ (α := Int × Int) (fun (y20_14, y21_14) => (⟨.own 0::.i p1::.i p2::.i p3::.clo (.func 59) [] []::tp 13 (.i (W6 (Int.fdiv (W7 (W6 (p1 + p3))) (2 ^ 1)))::.i v137_13::.i y20_14::.i y21_14::tp 198 []), [(Ar 34 5 enc_GEvent p0)], 1⟩ : St)) (fun (y20_14, y21_14) => m_slices_symMergeCmpFunc_event_Event__event_order_j14 p0 p1 p2 p3 v137_13 (fun p0 p1 p2 p3 => m_slices_symMergeCmpFunc_event_Event__event_order fuR p0 p1 p2 p3) y20_14 y21_14 = some r) ?_ (fun J14 => ?_)
   ·
    rintro ⟨y20_14, y21_14⟩ hm
    try dsimp only at hm ⊢
    unfold m_slices_symMergeCmpFunc_event_Event__event_order_j14 at hm
    refine Sx <| Wm (.i v137_13) rfl <| Wz (.i (W6 (v137_13 - 1))) (Obn rfl (fun _ => hb_sub (k := .i64))) <| Wm (.i (W6 (v137_13 - 1))) rfl <| Nk 8126495 1 ⟨.own 0::.i p1::.i p2::.i p3::.clo (.func 59) [] []::tp 13 (.i (W6 (Int.fdiv (W7 (W6 (p1 + p3))) (2 ^ 1)))::.i v137_13::.i y20_14::.i y21_14::.i (W6 (v137_13 - 1))::tp 197 []), [(Ar 34 5 enc_GEvent p0)], 1⟩ <| Sq <| Bk ?_
    refine AWP.loopI (α := Nat × Int × Int)
      (fun (fu_15, y20_15, y21_15) => (⟨.own 0::.i p1::.i p2::.i p3::.clo (.func 59) [] []::tp 13 (.i (W6 (Int.fdiv (W7 (W6 (p1 + p3))) (2 ^ 1)))::.i v137_13::.i y20_15::.i y21_15::.i (W6 (v137_13 - 1))::tp 197 []), [(Ar 34 5 enc_GEvent p0)], 1⟩ : St))
      (fun (fu_15, y20_15, y21_15) => m_slices_symMergeCmpFunc_event_Event__event_order_l15 p0 p1 p2 p3 v137_13 (fun p0 p1 p2 p3 => m_slices_symMergeCmpFunc_event_Event__event_order fuR p0 p1 p2 p3) fu_15 y20_15 y21_15 = some r)
      (fun (fu_15, y20_15, y21_15) => fu_15) (1152921504606846976, y20_14, y21_14)
      (Weak.toK 8126495 0 0 [0]) hm ?_
    rintro ⟨fu_15, y20_15, y21_15⟩ n_15 hm ih_15
    try dsimp only at hm ih_15 ⊢
    cases fu_15 with
    | zero => exact absurd hm (by unfold m_slices_symMergeCmpFunc_event_Event__event_order_l15; simp)
    | succ fu_15 =>
     unfold m_slices_symMergeCmpFunc_event_Event__event_order_l15 at hm
     refine Sq <| Sx <| Wm (.i y20_15) rfl <| Wm (.i y21_15) rfl <| Wz (.b (decide (y20_15 < y21_15))) (Obn rfl (fun _ => hb_lss (k := .i64))) <| Nk 2854495385411919762116571938898990272773619743 1 ⟨.own 0::.i p1::.i p2::.i p3::.clo (.func 59) [] []::tp 13 (.i (W6 (Int.fdiv (W7 (W6 (p1 + p3))) (2 ^ 1)))::.i v137_13::.i y20_15::.i y21_15::.i (W6 (v137_13 - 1))::tp 128 (.b (decide (y20_15 < y21_15))::tp 68 [])), [(Ar 34 5 enc_GEvent p0)], 1⟩ ?_
     rcases tf_ (decide (y20_15 < y21_15)) with hc151_35 | hc151_35
     ·
      replace hm := cT hc151_35 hm
      refine AiT hc151_35 <| Sk <| Tk 8126495 1 ⟨.own 0::.i p1::.i p2::.i p3::.clo (.func 59) [] []::tp 13 (.i (W6 (Int.fdiv (W7 (W6 (p1 + p3))) (2 ^ 1)))::.i v137_13::.i y20_15::.i y21_15::.i (W6 (v137_13 - 1))::tp 197 []), [(Ar 34 5 enc_GEvent p0)], 1⟩ <| Bk <| Sx <| Wm (.i y20_15) rfl <| Wm (.i y21_15) rfl <| Wz (.i (W6 (y20_15 + y21_15))) (Obn rfl (fun _ => hb_add (k := .i64))) <| Wz (.u (W7 (W6 (y20_15 + y21_15)))) (Oc2 (.int .i64 (W6 (y20_15 + y21_15))) rfl (run_conv (ds := .int .i64) (k' := .u64) (by kernel_rfl) (by kernel_rfl))) <| Wz (.u (Int.fdiv (W7 (W6 (y20_15 + y21_15))) (2 ^ 1))) (Ob2 (.int .u64 (W7 (W6 (y20_15 + y21_15)))) (.int .u64 1) rfl (fun _ => hb_shr (n := 1) (by decide) rfl)) <| Wz (.i (W6 (Int.fdiv (W7 (W6 (y20_15 + y21_15))) (2 ^ 1)))) (Oc2 (.int .u64 (Int.fdiv (W7 (W6 (y20_15 + y21_15))) (2 ^ 1))) rfl (run_conv (ds := .int .u64) (k' := .i64) (by kernel_rfl) (by kernel_rfl))) <| Wm (.i (W6 (Int.fdiv (W7 (W6 (y20_15 + y21_15))) (2 ^ 1)))) rfl <| Nk 16515103 1 ⟨.own 0::.i p1::.i p2::.i p3::.clo (.func 59) [] []::tp 13 (.i (W6 (Int.fdiv (W7 (W6 (p1 + p3))) (2 ^ 1)))::.i v137_13::.i y20_15::.i y21_15::.i (W6 (v137_13 - 1))::.i (W6 (Int.fdiv (W7 (W6 (y20_15 + y21_15))) (2 ^ 1)))::tp 196 []), [(Ar 34 5 enc_GEvent p0)], 1⟩ <| Sq ?_
      refine Adr <| Wm (.clo (.func 59) [] []) rfl <| Wm (.own 0) rfl <| Wm (.i (W6 (v137_13 - 1))) rfl <| Wm (.i (W6 (Int.fdiv (W7 (W6 (y20_15 + y21_15))) (2 ^ 1)))) rfl ?_
      obtain ⟨v162_17, hv162_17, hm⟩ := bnd hm; replace hv162_17 := Option.some.inj hv162_17
      refine Wz (.i v162_17) (Ocs (congrArg (fun z => A.d (.lit (.int .i64 z))) hv162_17) (Obn rfl (fun _ => hb_sub (k := .i64)))) ?_
      obtain ⟨x163_17, hx163_17, hm⟩ := bnd hm
      obtain ⟨hx163_17i, hx163_17g⟩ := geti_some hx163_17
      refine Wz (.loc 0 ((Int.toNat v162_17) * 5)) (Oia rfl enc_GEvent_len hx163_17i hx163_17g) <| Wz (.agg [(.i x163_17.Time), (.i x163_17.Source), (.i x163_17.Seq), (.s x163_17.Type_), (.l enc_GValue x163_17.Vals)]) (Lr rfl enc_GEvent_len hx163_17g) <| Wm (.own 0) rfl <| Wm (.i (W6 (Int.fdiv (W7 (W6 (y20_15 + y21_15))) (2 ^ 1)))) rfl ?_
      obtain ⟨x167_17, hx167_17, hm⟩ := bnd hm
      obtain ⟨hx167_17i, hx167_17g⟩ := geti_some hx167_17
      refine Wz (.loc 0 ((Int.toNat (W6 (Int.fdiv (W7 (W6 (y20_15 + y21_15))) (2 ^ 1)))) * 5)) (Oia rfl enc_GEvent_len hx167_17i hx167_17g) <| Wz (.agg [(.i x167_17.Time), (.i x167_17.Source), (.i x167_17.Seq), (.s x167_17.Type_), (.l enc_GValue x167_17.Vals)]) (Lr rfl enc_GEvent_len hx167_17g) ?_
      obtain ⟨r169_17, hr169_17, hm⟩ := bnd hm
      refine Wz (.i r169_17) (Ocf [] [] [] 0 (ok_event_order x163_17 x167_17 r169_17 hr169_17) (fun a w => Try.call59 a w) rfl trivial) <| Wz (.b (decide (r169_17 < 0))) (Obn rfl (fun _ => hb_lss (k := .i64))) <| Wz (.b (!decide (r169_17 < 0))) (Ocs (by kernel_rfl) (op_un rfl (a1 := .bool (decide (r169_17 < 0))) (by kernel_rfl) (fun _ => hu_not))) <| Wdr <| Tk 2993155353253689176481146537402947624255349864529951 1 ⟨.own 0::.i p1::.i p2::.i p3::.clo (.func 59) [] []::tp 13 (.i (W6 (Int.fdiv (W7 (W6 (p1 + p3))) (2 ^ 1)))::.i v137_13::.i y20_15::.i y21_15::.i (W6 (v137_13 - 1))::.i (W6 (Int.fdiv (W7 (W6 (y20_15 + y21_15))) (2 ^ 1)))::tp 147 (.b (!decide (r169_17 < 0))::tp 48 [])), [(Ar 34 5 enc_GEvent p0)], 1⟩ ?_
      rcases tf_ (!decide (r169_17 < 0)) with hc171_36 | hc171_36
      ·
       replace hm := cT hc171_36 hm
       refine AiT hc171_36 <| Tx <| Wm (.i (W6 (Int.fdiv (W7 (W6 (y20_15 + y21_15))) (2 ^ 1)))) rfl ?_
       obtain ⟨v173_18, hv173_18, hm⟩ := bnd hm; replace hv173_18 := Option.some.inj hv173_18
       refine Wz (.i v173_18) (Ocs (congrArg (fun z => A.d (.lit (.int .i64 z))) hv173_18) (Obn rfl (fun _ => hb_add (k := .i64)))) <| Wm (.i v173_18) rfl <| Wn0 <| Ino <| RoundK.normal ?_
       exact Rounds.weak (Weak.toK 8126495 0 0 [0]) (ih_15 (fu_15, v173_18, y21_15) hm (Nat.lt_succ_self _))
      ·
       replace hm := cF hc171_36 hm
       refine AiF hc171_36 <| Tx <| Wm (.i (W6 (Int.fdiv (W7 (W6 (y20_15 + y21_15))) (2 ^ 1)))) rfl <| Wm (.i (W6 (Int.fdiv (W7 (W6 (y20_15 + y21_15))) (2 ^ 1)))) rfl <| Wn0 <| Ino <| RoundK.normal ?_
       exact Rounds.weak (Weak.toK 8126495 0 0 [0]) (ih_15 (fu_15, y20_15, (W6 (Int.fdiv (W7 (W6 (y20_15 + y21_15))) (2 ^ 1)))) hm (Nat.lt_succ_self _))
     ·
      replace hm := cF hc151_35 hm
      refine AiF hc151_35 <| AWP.exit <| Then.exit <| RoundK.exit <| InBlock.same <| Tk 1835039 1 ⟨.own 0::.i p1::.i p2::.i p3::.clo (.func 59) [] []::tp 13 (.i (W6 (Int.fdiv (W7 (W6 (p1 + p3))) (2 ^ 1)))::.i v137_13::.i y20_15::tp 199 []), [(Ar 34 5 enc_GEvent p0)], 1⟩ <| Sx <| Wm (.i v137_13) rfl <| Wm (.i y20_15) rfl <| Wz (.i (W6 (v137_13 - y20_15))) (Obn rfl (fun _ => hb_sub (k := .i64))) <| Wm (.i (W6 (v137_13 - y20_15))) rfl <| Nk 18087967 1 ⟨.own 0::.i p1::.i p2::.i p3::.clo (.func 59) [] []::tp 13 (.i (W6 (Int.fdiv (W7 (W6 (p1 + p3))) (2 ^ 1)))::tp 1 (.i y20_15::tp 3 (.i (W6 (v137_13 - y20_15))::tp 195 []))), [(Ar 34 5 enc_GEvent p0)], 1⟩ ?_
      refine AWP.cutJ (α := (List GEvent)) (fun x => match x with | y0_21 => (⟨.own 0::.i p1::tp 1 (.i p3::.clo (.func 59) [] []::tp 13 (.i (W6 (Int.fdiv (W7 (W6 (p1 + p3))) (2 ^ 1)))::tp 1 (.i y20_15::tp 3 (.i (W6 (v137_13 - y20_15))::tp 195 [])))), [(Ar 34 5 enc_GEvent y0_21)], 1⟩ : St)) (fun x => match x with | y0_21 => m_slices_symMergeCmpFunc_event_Event__event_order_j21 p1 p3 v137_13 y20_15 (fun p0 p1 p2 p3 => m_slices_symMergeCmpFunc_event_Event__event_order fuR p0 p1 p2 p3) y0_21 = some r) ?_ (fun J21 => ?_)
      ·
       rintro y0_21 hm
       try dsimp only at hm ⊢
       unfold m_slices_symMergeCmpFunc_event_Event__event_order_j21 at hm
       refine AWP.cutJ (α := (List GEvent)) (fun x => match x with | y0_24 => (⟨.own 0::tp 2 (.i p3::.clo (.func 59) [] []::tp 13 (.i (W6 (Int.fdiv (W7 (W6 (p1 + p3))) (2 ^ 1)))::tp 5 (.i (W6 (v137_13 - y20_15))::tp 195 []))), [(Ar 34 5 enc_GEvent y0_24)], 1⟩ : St)) (fun x => match x with | y0_24 => m_slices_symMergeCmpFunc_event_Event__event_order_j24 p1 p3 v137_13 y20_15 (fun p0 p1 p2 p3 => m_slices_symMergeCmpFunc_event_Event__event_order fuR p0 p1 p2 p3) y0_24 = some r) ?_ (fun J24 => ?_)
       ·
        rintro y0_24 hm
        try dsimp only at hm ⊢
        unfold m_slices_symMergeCmpFunc_event_Event__event_order_j24 at hm
        refine Sx <| Wm (.i (W6 (Int.fdiv (W7 (W6 (p1 + p3))) (2 ^ 1)))) rfl <| Wm (.i (W6 (v137_13 - y20_15))) rfl ?_
        obtain ⟨v208_25, hv208_25, hm⟩ := bnd hm; replace hv208_25 := Option.some.inj hv208_25
        refine Wz (.b v208_25) (Ocs (congrArg (fun z => A.d (.lit (.bool z))) hv208_25) (Obn rfl (fun _ => hb_lss (k := .i64)))) ?_
        rcases tf_ v208_25 with hq209_25 | hq209_25
        ·
         replace hm := cT hq209_25 hm
         refine Wz (.b true) (Oq hq209_25 rfl) <| Wm (.i (W6 (v137_13 - y20_15))) rfl <| Wm (.i p3) rfl <| Wz (.b (decide ((W6 (v137_13 - y20_15)) < p3))) (Obn rfl (fun _ => hb_lss (k := .i64))) <| Wz (.b (decide ((W6 (v137_13 - y20_15)) < p3))) (OpT rfl) <| Nk 13164036458569648337239753460458804039861886925068638906805911577 1 ⟨.own 0::tp 2 (.i p3::.clo (.func 59) [] []::tp 13 (.i (W6 (Int.fdiv (W7 (W6 (p1 + p3))) (2 ^ 1)))::tp 5 (.i (W6 (v137_13 - y20_15))::tp 188 (.b (decide ((W6 (v137_13 - y20_15)) < p3))::tp 6 [])))), [(Ar 34 5 enc_GEvent y0_24)], 1⟩ ?_
         rcases tf_ (decide ((W6 (v137_13 - y20_15)) < p3)) with hc213_37 | hc213_37
         ·
          replace hm := cT hc213_37 hm
          refine AiT hc213_37 <| Tx <| Wm (.own 0) rfl <| Wm (.i (W6 (Int.fdiv (W7 (W6 (p1 + p3))) (2 ^ 1)))) rfl <| Wm (.i (W6 (v137_13 - y20_15))) rfl <| Wm (.i p3) rfl <| Wm (.clo (.func 59) [] []) rfl ?_
          obtain ⟨r219_26, hr219_26, hm⟩ := bnd hm
          refine Wy (.tup []) [(0, (Ar 34 5 enc_GEvent r219_26))] (Ocf [0] [] [] 0 (ih y0_24 (W6 (Int.fdiv (W7 (W6 (p1 + p3))) (2 ^ 1))) (W6 (v137_13 - y20_15)) p3 r219_26 hr219_26) (fun a w => Try.call96 a w) rfl ⟨rfl, trivial⟩) <| Wn0 ?_
          obtain rfl := Option.some.inj hm
          exact ret_n [0]
         ·
          replace hm := cF hc213_37 hm
          refine AiF hc213_37 <| Sk ?_
          obtain rfl := Option.some.inj hm
          exact ret_n [0]
        ·
         replace hm := cF hq209_25 hm
         refine Wz (.b false) (Oq hq209_25 rfl) <| Wn <| Wn <| Wn <| Wz (.b false) (OpF rfl) <| Nk 13164036458569648337239753460458804039861886925068638906805911577 1 ⟨.own 0::tp 2 (.i p3::.clo (.func 59) [] []::tp 13 (.i (W6 (Int.fdiv (W7 (W6 (p1 + p3))) (2 ^ 1)))::tp 5 (.i (W6 (v137_13 - y20_15))::tp 188 (.b false::tp 6 [])))), [(Ar 34 5 enc_GEvent y0_24)], 1⟩ <| AWP.if_ false (by kernel_rfl) <| Sk ?_
         obtain rfl := Option.some.inj hm
         exact ret_n [0]
       refine Sq <| Sx <| Wm (.i p1) rfl <| Wm (.i y20_15) rfl <| Wz (.b (decide (p1 < y20_15))) (Obn rfl (fun _ => hb_lss (k := .i64))) ?_
       rcases tf_ (decide (p1 < y20_15)) with hq195_22 | hq195_22
       ·
        replace hm := cT hq195_22 hm
        refine Wz (.b true) (Oq hq195_22 rfl) <| Wm (.i y20_15) rfl <| Wm (.i (W6 (Int.fdiv (W7 (W6 (p1 + p3))) (2 ^ 1)))) rfl <| Wz (.b (decide (y20_15 < (W6 (Int.fdiv (W7 (W6 (p1 + p3))) (2 ^ 1)))))) (Obn rfl (fun _ => hb_lss (k := .i64))) <| Wz (.b (decide (y20_15 < (W6 (Int.fdiv (W7 (W6 (p1 + p3))) (2 ^ 1)))))) (OpT rfl) <| Nk 803469022129495137770981046170581301261101496891396435738651 1 ⟨.own 0::.i p1::tp 1 (.i p3::.clo (.func 59) [] []::tp 13 (.i (W6 (Int.fdiv (W7 (W6 (p1 + p3))) (2 ^ 1)))::tp 1 (.i y20_15::tp 3 (.i (W6 (v137_13 - y20_15))::tp 174 (.b (decide (y20_15 < (W6 (Int.fdiv (W7 (W6 (p1 + p3))) (2 ^ 1)))))::tp 20 []))))), [(Ar 34 5 enc_GEvent y0_21)], 1⟩ ?_
        rcases tf_ (decide (y20_15 < (W6 (Int.fdiv (W7 (W6 (p1 + p3))) (2 ^ 1))))) with hc199_38 | hc199_38
        ·
         replace hm := cT hc199_38 hm
         refine AiT hc199_38 <| Tx <| Wm (.own 0) rfl <| Wm (.i p1) rfl <| Wm (.i y20_15) rfl <| Wm (.i (W6 (Int.fdiv (W7 (W6 (p1 + p3))) (2 ^ 1)))) rfl <| Wm (.clo (.func 59) [] []) rfl ?_
         obtain ⟨r205_23, hr205_23, hm⟩ := bnd hm
         refine Wy (.tup []) [(0, (Ar 34 5 enc_GEvent r205_23))] (Ocf [0] [] [] 0 (ih y0_21 p1 y20_15 (W6 (Int.fdiv (W7 (W6 (p1 + p3))) (2 ^ 1))) r205_23 hr205_23) (fun a w => Try.call96 a w) rfl ⟨rfl, trivial⟩) <| Nn ?_
         exact AWP.weak (Weak.toK 17039385 0 0 [0]) (J24 (r205_23) hm)
        ·
         replace hm := cF hc199_38 hm
         refine AiF hc199_38 <| Sk <| Tn ?_
         exact AWP.weak (Weak.toK 17039385 0 0 [0]) (J24 (y0_21) hm)
       ·
        replace hm := cF hq195_22 hm
        refine Wz (.b false) (Oq hq195_22 rfl) <| Wn <| Wn <| Wn <| Wz (.b false) (OpF rfl) <| Nk 803469022129495137770981046170581301261101496891396435738651 1 ⟨.own 0::.i p1::tp 1 (.i p3::.clo (.func 59) [] []::tp 13 (.i (W6 (Int.fdiv (W7 (W6 (p1 + p3))) (2 ^ 1)))::tp 1 (.i y20_15::tp 3 (.i (W6 (v137_13 - y20_15))::tp 174 (.b false::tp 20 []))))), [(Ar 34 5 enc_GEvent y0_21)], 1⟩ <| AWP.if_ false (by kernel_rfl) <| Sk <| Tn ?_
        exact AWP.weak (Weak.toK 17039385 0 0 [0]) (J24 (y0_21) hm)
      refine Sq <| Sx <| Wm (.i y20_15) rfl <| Wm (.i p2) rfl <| Wz (.b (decide (y20_15 < p2))) (Obn rfl (fun _ => hb_lss (k := .i64))) ?_
      rcases tf_ (decide (y20_15 < p2)) with hq181_19 | hq181_19
      ·
       replace hm := cT hq181_19 hm
       refine Wz (.b true) (Oq hq181_19 rfl) <| Wm (.i p2) rfl <| Wm (.i (W6 (v137_13 - y20_15))) rfl <| Wz (.b (decide (p2 < (W6 (v137_13 - y20_15))))) (Obn rfl (fun _ => hb_lss (k := .i64))) <| Wz (.b (decide (p2 < (W6 (v137_13 - y20_15))))) (OpT rfl) <| Nk 49039857307708443467467104868809893875799651909893357599 1 ⟨.own 0::.i p1::.i p2::.i p3::.clo (.func 59) [] []::tp 13 (.i (W6 (Int.fdiv (W7 (W6 (p1 + p3))) (2 ^ 1)))::tp 1 (.i y20_15::tp 3 (.i (W6 (v137_13 - y20_15))::tp 160 (.b (decide (p2 < (W6 (v137_13 - y20_15))))::tp 34 [])))), [(Ar 34 5 enc_GEvent p0)], 1⟩ ?_
       rcases tf_ (decide (p2 < (W6 (v137_13 - y20_15)))) with hc185_39 | hc185_39
       ·
        replace hm := cT hc185_39 hm
        refine AiT hc185_39 <| Tx <| Wm (.own 0) rfl <| Wm (.i y20_15) rfl <| Wm (.i p2) rfl <| Wm (.i (W6 (v137_13 - y20_15))) rfl <| Wm (.clo (.func 59) [] []) rfl ?_
        obtain ⟨r191_20, hr191_20, hm⟩ := bnd hm
        refine Wy (.tup []) [(0, (Ar 34 5 enc_GEvent r191_20))] (Ocf [0] [] [] 0 (ok_slices_rotateCmpFunc_event_Event__event_order p0 y20_15 p2 (W6 (v137_13 - y20_15)) r191_20 hr191_20) (fun a w => Try.call105 a w) rfl ⟨rfl, trivial⟩) <| Nn ?_
        exact AWP.weak (Weak.toK 18087963 0 0 [0]) (J21 (r191_20) hm)
       ·
        replace hm := cF hc185_39 hm
        refine AiF hc185_39 <| Sk <| Tn ?_
        exact AWP.weak (Weak.toK 18087963 0 0 [0]) (J21 (p0) hm)
      ·
       replace hm := cF hq181_19 hm
       refine Wz (.b false) (Oq hq181_19 rfl) <| Wn <| Wn <| Wn <| Wz (.b false) (OpF rfl) <| Nk 49039857307708443467467104868809893875799651909893357599 1 ⟨.own 0::.i p1::.i p2::.i p3::.clo (.func 59) [] []::tp 13 (.i (W6 (Int.fdiv (W7 (W6 (p1 + p3))) (2 ^ 1)))::tp 1 (.i y20_15::tp 3 (.i (W6 (v137_13 - y20_15))::tp 160 (.b false::tp 34 [])))), [(Ar 34 5 enc_GEvent p0)], 1⟩ <| AWP.if_ false (by kernel_rfl) <| Sk <| Tn ?_
       exact AWP.weak (Weak.toK 18087963 0 0 [0]) (J21 (p0) hm)
   refine Sq <| Sx <| Wm (.i p2) rfl <| Wm (.i (W6 (Int.fdiv (W7 (W6 (p1 + p3))) (2 ^ 1)))) rfl <| Wz (.b (decide ((W6 (Int.fdiv (W7 (W6 (p1 + p3))) (2 ^ 1))) < p2))) (Obn rfl (fun _ => hb_gtr (k := .i64))) <| Nk 1393796574908163946345982392040522594910239 1 ⟨.own 0::.i p1::.i p2::.i p3::.clo (.func 59) [] []::tp 13 (.i (W6 (Int.fdiv (W7 (W6 (p1 + p3))) (2 ^ 1)))::.i v137_13::tp 120 (.b (decide ((W6 (Int.fdiv (W7 (W6 (p1 + p3))) (2 ^ 1))) < p2))::tp 79 [])), [(Ar 34 5 enc_GEvent p0)], 1⟩ ?_
   rcases tf_ (decide ((W6 (Int.fdiv (W7 (W6 (p1 + p3))) (2 ^ 1))) < p2)) with hc140_40 | hc140_40
   ·
    replace hm := cT hc140_40 hm
    refine AiT hc140_40 <| Sx <| Wm (.i v137_13) rfl <| Wm (.i p3) rfl <| Wz (.i (W6 (v137_13 - p3))) (Obn rfl (fun _ => hb_sub (k := .i64))) <| Wm (.i (W6 (v137_13 - p3))) rfl <| Nk 1835039 1 ⟨.own 0::.i p1::.i p2::.i p3::.clo (.func 59) [] []::tp 13 (.i (W6 (Int.fdiv (W7 (W6 (p1 + p3))) (2 ^ 1)))::.i v137_13::.i (W6 (v137_13 - p3))::tp 199 []), [(Ar 34 5 enc_GEvent p0)], 1⟩ <| Tx <| Wm (.i (W6 (Int.fdiv (W7 (W6 (p1 + p3))) (2 ^ 1)))) rfl <| Wm (.i (W6 (Int.fdiv (W7 (W6 (p1 + p3))) (2 ^ 1)))) rfl <| Nn ?_
    exact AWP.weak (Weak.toK 3932191 0 0 [0]) (J14 ((W6 (v137_13 - p3)), (W6 (Int.fdiv (W7 (W6 (p1 + p3))) (2 ^ 1)))) hm)
   ·
    replace hm := cF hc140_40 hm
    refine AiF hc140_40 <| Sx <| Wm (.i p1) rfl <| Wm (.i p1) rfl <| Nk 1835039 1 ⟨.own 0::.i p1::.i p2::.i p3::.clo (.func 59) [] []::tp 13 (.i (W6 (Int.fdiv (W7 (W6 (p1 + p3))) (2 ^ 1)))::.i v137_13::.i p1::tp 199 []), [(Ar 34 5 enc_GEvent p0)], 1⟩ <| Tx <| Wm (.i p2) rfl <| Wm (.i p2) rfl <| Nn ?_
    exact AWP.weak (Weak.toK 3932191 0 0 [0]) (J14 (p1, p2) hm)

theorem ok_slices_stableCmpFunc_event_Event__event_order (p0 : (List GEvent)) (p1 : Int) (r : (List GEvent)) (h : m_slices_stableCmpFunc_event_Event__event_order p0 p1 = some r) : GCall Try.prog 79 [(.own 0), (.i p1), (.clo (.func 59) [] [])] [(Ar 34 5 enc_GEvent p0)] (.tup []) [(Ar 34 5 enc_GEvent r)] := by
 refine GCall.of_body (n := 63) (rs := []) Try.func79 rfl rfl rfl <| Ato ⟨.own 0::.i p1::.clo (.func 59) [] []::tu 60 [], [(Ar 34 5 enc_GEvent p0)], 1⟩ ?_
 have hm := h
 unfold m_slices_stableCmpFunc_event_Event__event_order at hm
 refine Sx <| Wm (.i 20) rfl <| Nk 71 1 ⟨.own 0::.i p1::.clo (.func 59) [] []::tp 3 (.i 20::tp 56 []), [(Ar 34 5 enc_GEvent p0)], 1⟩ <| Sx <| Wm (.i 20) rfl <| Wm (.i 0) rfl <| Wm (.i 20) rfl <| Nk 455 1 ⟨.own 0::.i p1::.clo (.func 59) [] []::tp 3 (.i 20::.i 0::.i 20::tp 54 []), [(Ar 34 5 enc_GEvent p0)], 1⟩ <| Sq <| Bk ?_
 refine AWP.loopI (α := Nat × (List GEvent) × Int × Int)
   (fun (fu_0, y0_0, y7_0, y8_0) => (⟨.own 0::.i p1::.clo (.func 59) [] []::tp 3 (.i 20::.i y7_0::.i y8_0::tp 54 []), [(Ar 34 5 enc_GEvent y0_0)], 1⟩ : St))
   (fun (fu_0, y0_0, y7_0, y8_0) => m_slices_stableCmpFunc_event_Event__event_order_l0 p1 fu_0 y0_0 y7_0 y8_0 = some r)
   (fun (fu_0, y0_0, y7_0, y8_0) => fu_0) (1152921504606846976, p0, 0, 20)
   (Weak.toK 455 0 0 [0]) hm ?_
 rintro ⟨fu_0, y0_0, y7_0, y8_0⟩ n_0 hm ih_0
 try dsimp only at hm ih_0 ⊢
 cases fu_0 with
 | zero => exact absurd hm (by unfold m_slices_stableCmpFunc_event_Event__event_order_l0; simp)
 | succ fu_0 =>
  unfold m_slices_stableCmpFunc_event_Event__event_order_l0 at hm
  refine Sq <| Sx <| Wm (.i y8_0) rfl <| Wm (.i p1) rfl <| Wz (.b (decide (y8_0 ≤ p1))) (Obn rfl (fun _ => hb_leq (k := .i64))) <| Nk 8647 1 ⟨.own 0::.i p1::.clo (.func 59) [] []::tp 3 (.i 20::.i y7_0::.i y8_0::tp 4 (.b (decide (y8_0 ≤ p1))::tp 49 [])), [(Ar 34 5 enc_GEvent y0_0)], 1⟩ ?_
  rcases tf_ (decide (y8_0 ≤ p1)) with hc13_7 | hc13_7
  ·
   replace hm := cT hc13_7 hm
   refine AiT hc13_7 <| Sk <| Tk 455 1 ⟨.own 0::.i p1::.clo (.func 59) [] []::tp 3 (.i 20::.i y7_0::.i y8_0::tp 54 []), [(Ar 34 5 enc_GEvent y0_0)], 1⟩ <| Bk <| Sx <| Wm (.own 0) rfl <| Wm (.i y7_0) rfl <| Wm (.i y8_0) rfl <| Wm (.clo (.func 59) [] []) rfl ?_
   obtain ⟨r18_1, hr18_1, hm⟩ := bnd hm
   refine Wy (.tup []) [(0, (Ar 34 5 enc_GEvent r18_1))] (Ocf [0] [] [] 0 (ok_slices_insertionSortCmpFunc_event_Event__event_order y0_0 y7_0 y8_0 r18_1 hr18_1) (fun a w => Try.call95 a w) rfl ⟨rfl, trivial⟩) <| Nk 327 1 ⟨.own 0::.i p1::.clo (.func 59) [] []::tp 3 (.i 20::tp 1 (.i y8_0::tp 54 [])), [(Ar 34 5 enc_GEvent r18_1)], 1⟩ <| Sx <| Wm (.i y8_0) rfl <| Wm (.i y8_0) rfl <| Nk 455 1 ⟨.own 0::.i p1::.clo (.func 59) [] []::tp 3 (.i 20::.i y8_0::.i y8_0::tp 54 []), [(Ar 34 5 enc_GEvent r18_1)], 1⟩ <| Tx <| Wm (.i y8_0) rfl <| Wm (.i 20) rfl <| Wz (.i (W6 (y8_0 + 20))) (Obn rfl (fun _ => hb_add (k := .i64))) <| Wm (.i (W6 (y8_0 + 20))) rfl <| Wn0 <| Ino <| RoundK.normal ?_
   exact Rounds.weak (Weak.toK 455 0 0 [0]) (ih_0 (fu_0, r18_1, y8_0, (W6 (y8_0 + 20))) hm (Nat.lt_succ_self _))
  ·
   replace hm := cF hc13_7 hm
   refine AiF hc13_7 <| AWP.exit <| Then.exit <| RoundK.exit <| InBlock.same <| Tk 199 1 ⟨.own 0::.i p1::.clo (.func 59) [] []::tp 3 (.i 20::.i y7_0::tp 55 []), [(Ar 34 5 enc_GEvent y0_0)], 1⟩ <| Sx <| Wm (.own 0) rfl <| Wm (.i y7_0) rfl <| Wm (.i p1) rfl <| Wm (.clo (.func 59) [] []) rfl ?_
   obtain ⟨r27_2, hr27_2, hm⟩ := bnd hm
   refine Wy (.tup []) [(0, (Ar 34 5 enc_GEvent r27_2))] (Ocf [0] [] [] 0 (ok_slices_insertionSortCmpFunc_event_Event__event_order y0_0 y7_0 p1 r27_2 hr27_2) (fun a w => Try.call95 a w) rfl ⟨rfl, trivial⟩) <| Nk 71 1 ⟨.own 0::.i p1::.clo (.func 59) [] []::tp 3 (.i 20::tp 56 []), [(Ar 34 5 enc_GEvent r27_2)], 1⟩ <| Bk ?_
   refine AWP.loopI (α := Nat × (List GEvent) × Int)
     (fun (fu_3, y0_3, y6_3) => (⟨.own 0::.i p1::.clo (.func 59) [] []::tp 3 (.i y6_3::tp 56 []), [(Ar 34 5 enc_GEvent y0_3)], 1⟩ : St))
     (fun (fu_3, y0_3, y6_3) => m_slices_stableCmpFunc_event_Event__event_order_l3 p1 fu_3 y0_3 y6_3 = some r)
     (fun (fu_3, y0_3, y6_3) => fu_3) (1152921504606846976, r27_2, 20)
     (Weak.toK 71 0 0 [0]) hm ?_
   rintro ⟨fu_3, y0_3, y6_3⟩ n_3 hm ih_3
   try dsimp only at hm ih_3 ⊢
   cases fu_3 with
   | zero => exact absurd hm (by unfold m_slices_stableCmpFunc_event_Event__event_order_l3; simp)
   | succ fu_3 =>
    unfold m_slices_stableCmpFunc_event_Event__event_order_l3 at hm
    refine Sq <| Sx <| Wm (.i y6_3) rfl <| Wm (.i p1) rfl <| Wz (.b (decide (y6_3 < p1))) (Obn rfl (fun _ => hb_lss (k := .i64))) <| Nk 1073741895 1 ⟨.own 0::.i p1::.clo (.func 59) [] []::tp 3 (.i y6_3::tp 23 (.b (decide (y6_3 < p1))::tp 32 [])), [(Ar 34 5 enc_GEvent y0_3)], 1⟩ ?_
    rcases tf_ (decide (y6_3 < p1)) with hc30_8 | hc30_8
    ·
     replace hm := cT hc30_8 hm
     refine AiT hc30_8 <| Sk <| Tk 71 1 ⟨.own 0::.i p1::.clo (.func 59) [] []::tp 3 (.i y6_3::tp 56 []), [(Ar 34 5 enc_GEvent y0_3)], 1⟩ <| Bk <| Sx <| Wm (.i y6_3) rfl <| Wz (.i (W6 (2 * y6_3))) (Obn rfl (fun _ => hb_mul (k := .i64))) <| Wm (.i 0) rfl <| Wm (.i (W6 (2 * y6_3))) rfl <| Nk 455 1 ⟨.own 0::.i p1::.clo (.func 59) [] []::tp 3 (.i y6_3::.i 0::.i (W6 (2 * y6_3))::tp 54 []), [(Ar 34 5 enc_GEvent y0_3)], 1⟩ <| Sq <| Bk ?_
     refine AWP.loopI (α := Nat × (List GEvent) × Int × Int)
       (fun (fu_4, y0_4, y7_4, y8_4) => (⟨.own 0::.i p1::.clo (.func 59) [] []::tp 3 (.i y6_3::.i y7_4::.i y8_4::tp 54 []), [(Ar 34 5 enc_GEvent y0_4)], 1⟩ : St))
       (fun (fu_4, y0_4, y7_4, y8_4) => m_slices_stableCmpFunc_event_Event__event_order_l4 p1 y6_3 (fun y0_3 y6_3 => m_slices_stableCmpFunc_event_Event__event_order_l3 p1 fu_3 y0_3 y6_3) fu_4 y0_4 y7_4 y8_4 = some r)
       (fun (fu_4, y0_4, y7_4, y8_4) => fu_4) (1152921504606846976, y0_3, 0, (W6 (2 * y6_3)))
       (Weak.toK 455 0 0 [0]) hm ?_
     rintro ⟨fu_4, y0_4, y7_4, y8_4⟩ n_4 hm ih_4
     try dsimp only at hm ih_4 ⊢
     cases fu_4 with
     | zero => exact absurd hm (by unfold m_slices_stableCmpFunc_event_Event__event_order_l4; simp)
     | succ fu_4 =>
      unfold m_slices_stableCmpFunc_event_Event__event_order_l4 at hm
      refine Sq <| Sx <| Wm (.i y8_4) rfl <| Wm (.i p1) rfl <| Wz (.b (decide (y8_4 ≤ p1))) (Obn rfl (fun _ => hb_leq (k := .i64))) <| Nk 34359738823 1 ⟨.own 0::.i p1::.clo (.func 59) [] []::tp 3 (.i y6_3::.i y7_4::.i y8_4::tp 26 (.b (decide (y8_4 ≤ p1))::tp 27 [])), [(Ar 34 5 enc_GEvent y0_4)], 1⟩ ?_
      rcases tf_ (decide (y8_4 ≤ p1)) with hc35_9 | hc35_9
      ·
       replace hm := cT hc35_9 hm
       refine AiT hc35_9 <| Sk <| Tk 455 1 ⟨.own 0::.i p1::.clo (.func 59) [] []::tp 3 (.i y6_3::.i y7_4::.i y8_4::tp 54 []), [(Ar 34 5 enc_GEvent y0_4)], 1⟩ <| Bk <| Sx <| Wm (.own 0) rfl <| Wm (.i y7_4) rfl <| Wm (.i y7_4) rfl <| Wm (.i y6_3) rfl <| Wz (.i (W6 (y7_4 + y6_3))) (Obn rfl (fun _ => hb_add (k := .i64))) <| Wm (.i y8_4) rfl <| Wm (.clo (.func 59) [] []) rfl ?_
       obtain ⟨r43_5, hr43_5, hm⟩ := bnd hm
       refine Wy (.tup []) [(0, (Ar 34 5 enc_GEvent r43_5))] (Ocf [0] [] [] 0 (ok_slices_symMergeCmpFunc_event_Event__event_order 1152921504606846976 y0_4 y7_4 (W6 (y7_4 + y6_3)) y8_4 r43_5 hr43_5) (fun a w => Try.call96 a w) rfl ⟨rfl, trivial⟩) <| Nk 327 1 ⟨.own 0::.i p1::.clo (.func 59) [] []::tp 3 (.i y6_3::tp 1 (.i y8_4::tp 54 [])), [(Ar 34 5 enc_GEvent r43_5)], 1⟩ <| Sx <| Wm (.i y8_4) rfl <| Wm (.i y8_4) rfl <| Nk 455 1 ⟨.own 0::.i p1::.clo (.func 59) [] []::tp 3 (.i y6_3::.i y8_4::.i y8_4::tp 54 []), [(Ar 34 5 enc_GEvent r43_5)], 1⟩ <| Tx <| Wm (.i y8_4) rfl <| Wm (.i y6_3) rfl <| Wz (.i (W6 (2 * y6_3))) (Obn rfl (fun _ => hb_mul (k := .i64))) <| Wz (.i (W6 (y8_4 + (W6 (2 * y6_3))))) (Obn rfl (fun _ => hb_add (k := .i64))) <| Wm (.i (W6 (y8_4 + (W6 (2 * y6_3))))) rfl <| Wn0 <| Ino ?_
       refine RoundK.normal ?_
       exact Rounds.weak (Weak.toK 455 0 0 [0]) (ih_4 (fu_4, r43_5, y8_4, (W6 (y8_4 + (W6 (2 * y6_3))))) hm (Nat.lt_succ_self _))
      ·
       replace hm := cF hc35_9 hm
       refine AiF hc35_9 <| AWP.exit <| Then.exit <| RoundK.exit <| InBlock.same <| Tk 199 1 ⟨.own 0::.i p1::.clo (.func 59) [] []::tp 3 (.i y6_3::.i y7_4::tp 55 []), [(Ar 34 5 enc_GEvent y0_4)], 1⟩ <| Sq <| Sx <| Wm (.i y7_4) rfl <| Wm (.i y6_3) rfl <| Wz (.i (W6 (y7_4 + y6_3))) (Obn rfl (fun _ => hb_add (k := .i64))) <| Wm (.i (W6 (y7_4 + y6_3))) rfl <| Nk 711 1 ⟨.own 0::.i p1::.clo (.func 59) [] []::tp 3 (.i y6_3::.i y7_4::tp 1 (.i (W6 (y7_4 + y6_3))::tp 53 [])), [(Ar 34 5 enc_GEvent y0_4)], 1⟩ <| Sx ?_
       refine Wm (.i (W6 (y7_4 + y6_3))) rfl <| Wm (.i p1) rfl <| Wz (.b (decide ((W6 (y7_4 + y6_3)) < p1))) (Obn rfl (fun _ => hb_lss (k := .i64))) <| Nk 18014398509482695 1 ⟨.own 0::.i p1::.clo (.func 59) [] []::tp 3 (.i y6_3::.i y7_4::tp 1 (.i (W6 (y7_4 + y6_3))::tp 44 (.b (decide ((W6 (y7_4 + y6_3)) < p1))::tp 8 []))), [(Ar 34 5 enc_GEvent y0_4)], 1⟩ ?_
       rcases tf_ (decide ((W6 (y7_4 + y6_3)) < p1)) with hc54_10 | hc54_10
       ·
        replace hm := cT hc54_10 hm
        refine AiT hc54_10 <| Tx <| Wm (.own 0) rfl <| Wm (.i y7_4) rfl <| Wm (.i (W6 (y7_4 + y6_3))) rfl <| Wm (.i p1) rfl <| Wm (.clo (.func 59) [] []) rfl ?_
        obtain ⟨r60_6, hr60_6, hm⟩ := bnd hm
        refine Wy (.tup []) [(0, (Ar 34 5 enc_GEvent r60_6))] (Ocf [0] [] [] 0 (ok_slices_symMergeCmpFunc_event_Event__event_order 1152921504606846976 y0_4 y7_4 (W6 (y7_4 + y6_3)) p1 r60_6 hr60_6) (fun a w => Try.call96 a w) rfl ⟨rfl, trivial⟩) <| Nk 71 1 ⟨.own 0::.i p1::.clo (.func 59) [] []::tp 3 (.i y6_3::tp 56 []), [(Ar 34 5 enc_GEvent r60_6)], 1⟩ <| Tx <| Wm (.i y6_3) rfl <| Wz (.i (W6 (y6_3 * 2))) (Obn rfl (fun _ => hb_mul (k := .i64))) <| Wm (.i (W6 (y6_3 * 2))) rfl <| Wn0 <| Ino <| RoundK.normal ?_
        exact Rounds.weak (Weak.toK 71 0 0 [0]) (ih_3 (fu_3, r60_6, (W6 (y6_3 * 2))) hm (Nat.lt_succ_self _))
       ·
        replace hm := cF hc54_10 hm
        refine AiF hc54_10 <| Sk <| Tk 71 1 ⟨.own 0::.i p1::.clo (.func 59) [] []::tp 3 (.i y6_3::tp 56 []), [(Ar 34 5 enc_GEvent y0_4)], 1⟩ <| Tx <| Wm (.i y6_3) rfl <| Wz (.i (W6 (y6_3 * 2))) (Obn rfl (fun _ => hb_mul (k := .i64))) <| Wm (.i (W6 (y6_3 * 2))) rfl <| Wn0 <| Ino <| RoundK.normal ?_
        exact Rounds.weak (Weak.toK 71 0 0 [0]) (ih_3 (fu_3, y0_4, (W6 (y6_3 * 2))) hm (Nat.lt_succ_self _))
    ·
     replace hm := cF hc30_8 hm
     refine AiF hc30_8 <| AWP.exit <| Then.exit <| RoundK.exit <| InBlock.same ?_
     obtain rfl := Option.some.inj hm
     exact ret_n [0]

theorem ok_slices_SortStableFunc_Event__event_order (p0 : (List GEvent)) (r : (List GEvent)) (h : m_slices_SortStableFunc_Event__event_order p0 = some r) : GCall Try.prog 58 [(.own 0), (.clo (.func 59) [] [])] [(Ar 34 5 enc_GEvent p0)] (.tup []) [(Ar 34 5 enc_GEvent r)] := by
 refine GCall.of_body (n := 9) (rs := []) Try.func58 rfl rfl rfl <| Ato ⟨.own 0::.clo (.func 59) [] []::tu 7 [], [(Ar 34 5 enc_GEvent p0)], 1⟩ ?_
 have hm := h
 unfold m_slices_SortStableFunc_Event__event_order at hm
 refine Tx <| Wm (.own 0) rfl <| Wm (.own 0) rfl <| Wz (.i ((List.length p0 : Nat) : Int)) (Oln rfl) <| Wm (.clo (.func 59) [] []) rfl ?_
 obtain ⟨r8_0, hr8_0, hm⟩ := bnd hm
 refine Wy (.tup []) [(0, (Ar 34 5 enc_GEvent r8_0))] (Ocf [0] [] [] 0 (ok_slices_stableCmpFunc_event_Event__event_order p0 ((List.length p0 : Nat) : Int) r8_0 hr8_0) (fun a w => Try.call79 a w) rfl ⟨rfl, trivial⟩) <| Wn0 ?_
 obtain rfl := Option.some.inj hm
 exact ret_n [0]

theorem ok_event_Sort (p0 : (List GEvent)) (r : (List GEvent)) (h : m_event_Sort p0 = some r) : GCall Try.prog 23 [(.l enc_GEvent p0)] [] (.own 0) [(Ar 34 5 enc_GEvent r)] := by
 refine GCall.of_body (n := 21) (rs := [(.tmp 2)]) Try.func23 rfl rfl rfl <| Ato ⟨.l enc_GEvent p0::tu 20 [], [], 0⟩ ?_
 have hm := h
 unfold m_event_Sort at hm
 refine Sx <| Wm (.d .nil) rfl <| Nk 1 0 ⟨.l enc_GEvent p0::tp 20 [], [], 0⟩ <| Sx <| Wm (.d .nil) rfl <| Nk 9 0 ⟨.l enc_GEvent p0::tp 2 (.d .nil::tp 17 []), [], 0⟩ <| Sq <| Sx <| Wm (.l enc_GEvent p0) rfl <| Wz (.i ((List.length p0 : Nat) : Int)) (Oln rfl) <| Wm (.i 0) rfl <| Nk 456 0 ⟨tp 3 (.d .nil::tp 2 (.l enc_GEvent p0::.i ((List.length p0 : Nat) : Int)::.i 0::tp 12 [])), [], 0⟩ <| Bk <| Aow 3 34 5 ⟨tp 3 (.own 0::tp 2 (.l enc_GEvent p0::.i ((List.length p0 : Nat) : Int)::.i 0::tp 12 [])), [(Ar 34 5 enc_GEvent ([] : List GEvent))], 0⟩ ?_
 refine AWP.loopI (α := Nat × (List GEvent) × Int)
   (fun (fu_1, y3_1, y8_1) => (⟨tp 3 (.own 0::tp 2 (.l enc_GEvent p0::.i ((List.length p0 : Nat) : Int)::.i y8_1::tp 12 [])), [(Ar 34 5 enc_GEvent y3_1)], 0⟩ : St))
   (fun (fu_1, y3_1, y8_1) => m_event_Sort_l1 p0 fu_1 y3_1 y8_1 = some r)
   (fun (fu_1, y3_1, y8_1) => fu_1) (1152921504606846976, ([] : List GEvent), 0)
   (Weak.toK 456 0 0 [0]) hm ?_
 rintro ⟨fu_1, y3_1, y8_1⟩ n_1 hm ih_1
 try dsimp only at hm ih_1 ⊢
 cases fu_1 with
 | zero => exact absurd hm (by unfold m_event_Sort_l1; simp)
 | succ fu_1 =>
  unfold m_event_Sort_l1 at hm
  refine Sx <| Wz (.b (decide (y8_1 < ((List.length p0 : Nat) : Int)))) (Obn rfl (fun _ => hb_lss (k := .i64))) <| Nk 968 1 ⟨tp 3 (.own 0::tp 2 (.l enc_GEvent p0::.i ((List.length p0 : Nat) : Int)::.i y8_1::.b (decide (y8_1 < ((List.length p0 : Nat) : Int)))::tp 11 [])), [(Ar 34 5 enc_GEvent y3_1)], 0⟩ <| Sq ?_
  rcases tf_ (decide (y8_1 < ((List.length p0 : Nat) : Int))) with hc9_5 | hc9_5
  ·
   replace hm := cT hc9_5 hm
   refine AiT hc9_5 <| Sk <| Tk 456 1 ⟨tp 3 (.own 0::tp 2 (.l enc_GEvent p0::.i ((List.length p0 : Nat) : Int)::.i y8_1::tp 12 [])), [(Ar 34 5 enc_GEvent y3_1)], 0⟩ <| Sq <| Bk <| Sx ?_
   obtain ⟨x10_2, hx10_2, hm⟩ := bnd hm
   obtain ⟨hx10_2i, hx10_2g⟩ := geti_some hx10_2
   refine Wz (.d (.ref (List.drop ((Int.toNat y8_1) * 5) (flatD enc_GEvent p0)))) (Oia rfl enc_GEvent_len hx10_2i hx10_2g) <| Wz (.agg [(.i x10_2.Time), (.i x10_2.Source), (.i x10_2.Seq), (.s x10_2.Type_), (.l enc_GValue x10_2.Vals)]) (Lf rfl enc_GEvent_len hx10_2g) <| Wy (.loc 1 0) [(1, (.box [(.i 0), (.i 0), (.i 0), (.s ([] : List UInt8)), (.d .nil)]))] (Oal rfl) <| Wy (.tup []) [(1, (.box [(.i x10_2.Time), (.i x10_2.Source), (.i x10_2.Seq), (.s x10_2.Type_), (.l enc_GValue x10_2.Vals)]))] (Ost rfl) <| Nk 488 3 ⟨tp 3 (.own 0::tp 1 (.loc 1 0::.l enc_GEvent p0::.i ((List.length p0 : Nat) : Int)::.i y8_1::tp 12 [])), [(Ar 34 5 enc_GEvent y3_1), (.box [(.i x10_2.Time), (.i x10_2.Source), (.i x10_2.Seq), (.s x10_2.Type_), (.l enc_GValue x10_2.Vals)])], 0⟩ <| Tx <| Wm (.own 0) rfl <| Wz (.agg [(.i x10_2.Time), (.i x10_2.Source), (.i x10_2.Seq), (.s x10_2.Type_), (.l enc_GValue x10_2.Vals)]) (Old rfl) ?_
   obtain ⟨r14_3, hr14_3, hm⟩ := bnd hm
   refine Wy (.agg [(.i r14_3.Time), (.i r14_3.Source), (.i r14_3.Seq), (.s r14_3.Type_), (.l enc_GValue r14_3.Vals)]) [(2, (Ar 44 4 enc_GValue r14_3.Vals)), (2, (.fro 44 4 (List.length r14_3.Vals) (flatD enc_GValue r14_3.Vals)))] (Ofz [2] (.agg [(.i r14_3.Time), (.i r14_3.Source), (.i r14_3.Seq), (.s r14_3.Type_), (.own 2)]) [(2, (Ar 44 4 enc_GValue r14_3.Vals))] (Ocf [] [2] [] 0 (ok_event_clone x10_2 r14_3 hr14_3) (fun a w => Try.call57 a w) rfl trivial)) <| Wy (.own 3) [(3, (Ar 34 5 enc_GEvent ([r14_3] : List GEvent)))] (Obs rfl) ?_
   obtain ⟨a16_3, ha16_3, hm⟩ := bnd hm; obtain ⟨ha16_3e, ha16_3l⟩ := app_some ha16_3
   refine Wy (.own 4) [(0, .gone), (4, (Ar 34 5 enc_GEvent a16_3))] (Oap rfl elemOK_60 enc_GEvent_len ha16_3e ha16_3l) <| Wm (.own 4) rfl <| Wn0 <| Ino <| Tk 456 16 ⟨tp 3 (.own 4::tp 2 (.l enc_GEvent p0::.i ((List.length p0 : Nat) : Int)::.i y8_1::tp 12 [])), [.gone, .gone, .gone, .gone, (Ar 34 5 enc_GEvent a16_3)], 0⟩ <| Tx <| Wz (.i (W6 (y8_1 + 1))) (Obn rfl (fun _ => hb_add (k := .i64))) <| Wm (.i (W6 (y8_1 + 1))) rfl <| Wn0 <| RoundK.normal ?_
   exact Rounds.weak (Weak.toK 456 0 0 [4]) (ih_1 (fu_1, a16_3, (W6 (y8_1 + 1))) hm (Nat.lt_succ_self _))
  ·
   replace hm := cF hc9_5 hm
   refine AiF hc9_5 <| AWP.exit <| Then.exit <| RoundK.exit <| InBlock.same <| Tk 8 1 ⟨tp 3 (.own 0::tp 17 []), [(Ar 34 5 enc_GEvent y3_1)], 0⟩ <| Sx <| Wm (.own 0) rfl ?_
   obtain ⟨r19_4, hr19_4, hm⟩ := bnd hm
   refine Wy (.tup []) [(0, (Ar 34 5 enc_GEvent r19_4))] (Ocf [0] [] [] 0 (ok_slices_SortStableFunc_Event__event_order y3_1 r19_4 hr19_4) (fun a w => Try.call58 a w) rfl ⟨rfl, trivial⟩) <| Nk 8 1 ⟨tp 3 (.own 0::tp 17 []), [(Ar 34 5 enc_GEvent r19_4)], 0⟩ <| Sx <| Wm (.own 0) rfl <| Wm (.own 0) rfl <| Nn <| Rt ?_
   obtain rfl := Option.some.inj hm
   exact ret_i [0]

theorem ok_value_OfInt (p0 : Int) (r : GValue) (h : m_value_OfInt p0 = some r) : GCall Try.prog 34 [(.i p0)] [] (.agg [(.y r.Kind), (.i r.N), (.u r.Bits), (.s r.Text)]) [] := by
 refine GCall.of_body (n := 7) (rs := [(.cell 2 44)]) Try.func34 rfl rfl rfl <| Ato ⟨.i p0::tu 6 [], [], 0⟩ ?_
 have hm := h
 unfold m_value_OfInt at hm
 refine Sx <| Wy (.loc 0 0) [(0, (.box [(.y 0), (.i 0), (.u 0), (.s ([] : List UInt8))]))] (Oal rfl) <| Nk 5 1 ⟨.i p0::tp 1 (.loc 0 0::tp 4 []), [(.box [(.y 0), (.i 0), (.u 0), (.s ([] : List UInt8))])], 0⟩ <| Sx <| Wm (.i p0) rfl <| Wz (.i (min p0 4611686018427387904)) (op_bi2 rfl (a1 := .int .i64 p0) (a2 := .int .i64 4611686018427387904) (by kernel_rfl) (by kernel_rfl) hb_min) <| Wz (.i (max (-4611686018427387904) (min p0 4611686018427387904))) (op_bi2 rfl (a1 := .int .i64 (-4611686018427387904)) (a2 := .int .i64 (min p0 4611686018427387904)) (by kernel_rfl) (by kernel_rfl) hb_max) <| Wz (.agg [(.y 1), (.i (max (-4611686018427387904) (min p0 4611686018427387904))), (.u 0), (.s ([] : List UInt8))]) (Obd rfl) <| Wy (.tup []) [(0, (.box [(.y 1), (.i (max (-4611686018427387904) (min p0 4611686018427387904))), (.u 0), (.s ([] : List UInt8))]))] (Ost rfl) <| Nn <| Rt ?_
 obtain rfl := Option.some.inj hm
 exact ret_i []

theorem ok_event_Sorted (p0 : (List GEvent)) (r : Bool) (h : m_event_Sorted p0 = some r) : GCall Try.prog 27 [(.l enc_GEvent p0)] [] (.b r) [] := by
 refine GCall.of_body (n := 21) (rs := [(.tmp 2)]) Try.func27 rfl rfl rfl <| Ato ⟨.l enc_GEvent p0::tu 20 [], [], 0⟩ ?_
 have hm := h
 unfold m_event_Sorted at hm
 refine Sx <| Wm (.b false) rfl <| Nk 1 0 ⟨.l enc_GEvent p0::tp 20 [], [], 0⟩ <| Sq <| Sx <| Wm (.i 1) rfl <| Nk 9 0 ⟨.l enc_GEvent p0::tp 2 (.i 1::tp 17 []), [], 0⟩ <| Bk ?_
 refine AWP.loopI (α := Nat × Int)
   (fun (fu_0, y3_0) => (⟨.l enc_GEvent p0::tp 2 (.i y3_0::tp 17 []), [], 0⟩ : St))
   (fun (fu_0, y3_0) => m_event_Sorted_l0 p0 fu_0 y3_0 = some r)
   (fun (fu_0, y3_0) => fu_0) (1152921504606846976, 1)
   (Weak.toK 9 0 0 []) hm ?_
 rintro ⟨fu_0, y3_0⟩ n_0 hm ih_0
 try dsimp only at hm ih_0 ⊢
 cases fu_0 with
 | zero => exact absurd hm (by unfold m_event_Sorted_l0; simp)
 | succ fu_0 =>
  unfold m_event_Sorted_l0 at hm
  refine Sq <| Sx <| Wm (.i y3_0) rfl <| Wm (.l enc_GEvent p0) rfl <| Wz (.i ((List.length p0 : Nat) : Int)) (Oln rfl) <| Wz (.b (decide (y3_0 < ((List.length p0 : Nat) : Int)))) (Obn rfl (fun _ => hb_lss (k := .i64))) <| Nk 137 0 ⟨.l enc_GEvent p0::tp 2 (.i y3_0::tp 3 (.b (decide (y3_0 < ((List.length p0 : Nat) : Int)))::tp 13 [])), [], 0⟩ ?_
  rcases tf_ (decide (y3_0 < ((List.length p0 : Nat) : Int))) with hc7_3 | hc7_3
  ·
   replace hm := cT hc7_3 hm
   refine AiT hc7_3 <| Sk <| Tk 9 0 ⟨.l enc_GEvent p0::tp 2 (.i y3_0::tp 17 []), [], 0⟩ <| Sq <| Bk <| Sq <| Adr <| Wm (.l enc_GEvent p0) rfl <| Wm (.i y3_0) rfl <| Wz (.i (W6 (y3_0 - 1))) (Obn rfl (fun _ => hb_sub (k := .i64))) ?_
   obtain ⟨x13_2, hx13_2, hm⟩ := bnd hm
   obtain ⟨hx13_2i, hx13_2g⟩ := geti_some hx13_2
   refine Wz (.d (.ref (List.drop ((Int.toNat (W6 (y3_0 - 1))) * 5) (flatD enc_GEvent p0)))) (Oia rfl enc_GEvent_len hx13_2i hx13_2g) <| Wz (.agg [(.i x13_2.Time), (.i x13_2.Source), (.i x13_2.Seq), (.s x13_2.Type_), (.l enc_GValue x13_2.Vals)]) (Lf rfl enc_GEvent_len hx13_2g) <| Wm (.l enc_GEvent p0) rfl <| Wm (.i y3_0) rfl ?_
   obtain ⟨x17_2, hx17_2, hm⟩ := bnd hm
   obtain ⟨hx17_2i, hx17_2g⟩ := geti_some hx17_2
   refine Wz (.d (.ref (List.drop ((Int.toNat y3_0) * 5) (flatD enc_GEvent p0)))) (Oia rfl enc_GEvent_len hx17_2i hx17_2g) <| Wz (.agg [(.i x17_2.Time), (.i x17_2.Source), (.i x17_2.Seq), (.s x17_2.Type_), (.l enc_GValue x17_2.Vals)]) (Lf rfl enc_GEvent_len hx17_2g) ?_
   obtain ⟨r19_2, hr19_2, hm⟩ := bnd hm
   refine Wz (.i r19_2) (Ocf [] [] [] 0 (ok_event_order x13_2 x17_2 r19_2 hr19_2) (fun a w => Try.call59 a w) rfl trivial) <| Wz (.b (decide ((0 : Int) ≤ r19_2))) (Obn rfl (fun _ => hb_geq (k := .i64))) <| Wdr <| Tk 1048585 0 ⟨.l enc_GEvent p0::tp 2 (.i y3_0::tp 16 (.b (decide ((0 : Int) ≤ r19_2))::[])), [], 0⟩ ?_
   rcases tf_ (decide ((0 : Int) ≤ r19_2)) with hc20_4 | hc20_4
   ·
    replace hm := cT hc20_4 hm
    refine AiT hc20_4 <| Sx <| Wm (.b false) rfl <| Nn <| Rt <| Ir <| Tr <| RoundK.ret <| Ir <| Tr ?_
    obtain rfl := Option.some.inj hm
    exact ret_i []
   ·
    replace hm := cF hc20_4 hm
    refine AiF hc20_4 <| Sk <| Ino <| Tk 9 0 ⟨.l enc_GEvent p0::tp 2 (.i y3_0::tp 17 []), [], 0⟩ <| Tx <| Wm (.i y3_0) rfl <| Wz (.i (W6 (y3_0 + 1))) (Obn rfl (fun _ => hb_add (k := .i64))) <| Wm (.i (W6 (y3_0 + 1))) rfl <| Wn0 <| RoundK.normal ?_
    exact Rounds.weak (Weak.toK 9 0 0 []) (ih_0 (fu_0, (W6 (y3_0 + 1))) hm (Nat.lt_succ_self _))
  ·
   replace hm := cF hc7_3 hm
   refine AiF hc7_3 <| AWP.exit <| Then.exit <| RoundK.exit <| InBlock.same <| Tk 0 0 ⟨tp 21 [], [], 0⟩ <| Sx <| Wm (.b true) rfl <| Nn <| Rt ?_
   obtain rfl := Option.some.inj hm
   exact ret_i []

theorem ok_telltalelaw07_awake (r : Bool) (h : m_telltalelaw07_awake = some r) : GCall Try.prog 9 [] [] (.b r) [] := by
 refine GCall.of_body (n := 104) (rs := [(.tmp 0)]) Try.func9 rfl rfl rfl <| Ato ⟨tu 104 [], [], 0⟩ ?_
 have hm := h
 unfold m_telltalelaw07_awake at hm
 refine Sx <| Wm (.b false) rfl <| Nk 0 0 ⟨tp 104 [], [], 0⟩ <| Sx <| Wz (.agg [(.s ([115, 116, 111, 112] : List UInt8)), (.d .nil)]) (Obd rfl) <| Wz (.agg [(.s ([110] : List UInt8)), (.y 1)]) (Obd rfl) <| Wy (.l enc_GField ([(GField.mk ([110] : List UInt8) 1)] : List GField)) [(0, (Ar 84 2 enc_GField ([(GField.mk ([110] : List UInt8) 1)] : List GField))), (0, (.fro 84 2 (List.length ([(GField.mk ([110] : List UInt8) 1)] : List GField)) (flatD enc_GField ([(GField.mk ([110] : List UInt8) 1)] : List GField))))] (Ofz [0] (.own 0) [(0, (Ar 84 2 enc_GField ([(GField.mk ([110] : List UInt8) 1)] : List GField)))] (Obs rfl)) <| Wz (.agg [(.s ([98, 117, 121] : List UInt8)), (.l enc_GField ([(GField.mk ([110] : List UInt8) 1)] : List GField))]) (Obd rfl) <| Wy (.own 1) [(1, (Ar 83 2 enc_GType ([(GType.mk ([115, 116, 111, 112] : List UInt8) ([] : List GField)), (GType.mk ([98, 117, 121] : List UInt8) ([(GField.mk ([110] : List UInt8) 1)] : List GField))] : List GType)))] (Obs rfl) <| Wm (.own 1) rfl <| Nk 2 2 ⟨tp 1 (.own 1::tp 102 []), [.gone, (Ar 83 2 enc_GType ([(GType.mk ([115, 116, 111, 112] : List UInt8) ([] : List GField)), (GType.mk ([98, 117, 121] : List UInt8) ([(GField.mk ([110] : List UInt8) 1)] : List GField))] : List GType))], 0⟩ <| Sx <| Wm (.own 1) rfl <| Wz (.agg [(.i 5), (.i 0), (.i 1), (.s ([115, 116, 111, 112] : List UInt8)), (.d .nil)]) (Obd rfl) ?_
 obtain ⟨r21_0, hr21_0, hm⟩ := bnd hm
 refine Wy (.tup [(.l encU8 r21_0.1), (.i r21_0.2)]) [(1, (.fro 83 2 (List.length ([(GType.mk ([115, 116, 111, 112] : List UInt8) ([] : List GField)), (GType.mk ([98, 117, 121] : List UInt8) ([(GField.mk ([110] : List UInt8) 1)] : List GField))] : List GType)) (flatD enc_GType ([(GType.mk ([115, 116, 111, 112] : List UInt8) ([] : List GField)), (GType.mk ([98, 117, 121] : List UInt8) ([(GField.mk ([110] : List UInt8) 1)] : List GField))] : List GType))))] (Ocf [] [] [1] 0 (ok_event_Put ([] : List UInt8) ([(GType.mk ([115, 116, 111, 112] : List UInt8) ([] : List GField)), (GType.mk ([98, 117, 121] : List UInt8) ([(GField.mk ([110] : List UInt8) 1)] : List GField))] : List GType) (GEvent.mk 5 0 1 ([115, 116, 111, 112] : List UInt8) ([] : List GValue)) r21_0 hr21_0) (fun a w => Try.call12 a w) rfl trivial) <| Wm (.tup [(.l encU8 r21_0.1), (.i r21_0.2)]) rfl <| Wz (.l encU8 r21_0.1) (Oex rfl) <| Wz (.i r21_0.2) (Oex rfl) <| Wm (.l encU8 r21_0.1) rfl <| Wm (.i r21_0.2) rfl <| Nk 14 2 ⟨tp 1 (.own 1::.l encU8 r21_0.1::.i r21_0.2::tp 100 []), [.gone, (.fro 83 2 (List.length ([(GType.mk ([115, 116, 111, 112] : List UInt8) ([] : List GField)), (GType.mk ([98, 117, 121] : List UInt8) ([(GField.mk ([110] : List UInt8) 1)] : List GField))] : List GType)) (flatD enc_GType ([(GType.mk ([115, 116, 111, 112] : List UInt8) ([] : List GField)), (GType.mk ([98, 117, 121] : List UInt8) ([(GField.mk ([110] : List UInt8) 1)] : List GField))] : List GType)))], 0⟩ <| Sx <| Wm (.own 1) rfl ?_
 obtain ⟨r26_1, hr26_1, hm⟩ := bnd hm
 refine Wy (.tup [(.agg [(.i r26_1.1.Time), (.i r26_1.1.Source), (.i r26_1.1.Seq), (.s r26_1.1.Type_), (.own 2)]), (.i r26_1.2.1), (.i r26_1.2.2)]) [(2, (Ar 44 4 enc_GValue r26_1.1.Vals))] (Ocp [] [2] [1] 0 (ok_event_Take ([(GType.mk ([115, 116, 111, 112] : List UInt8) ([] : List GField)), (GType.mk ([98, 117, 121] : List UInt8) ([(GField.mk ([110] : List UInt8) 1)] : List GField))] : List GType) ([7, 1, 0, 1, 1, 6] : List UInt8) 0 r26_1 hr26_1) (⟨by simp [A.Plain, A.Plains, D.Plain, byteD], plain_cons (flat_plain enc_GValue_plain) (plain_nil)⟩) (fun a w => Try.call18 a w) rfl trivial) <| Wm (.tup [(.agg [(.i r26_1.1.Time), (.i r26_1.1.Source), (.i r26_1.1.Seq), (.s r26_1.1.Type_), (.own 2)]), (.i r26_1.2.1), (.i r26_1.2.2)]) rfl <| Wz (.agg [(.i r26_1.1.Time), (.i r26_1.1.Source), (.i r26_1.1.Seq), (.s r26_1.1.Type_), (.own 2)]) (Oex rfl) <| Wz (.i r26_1.2.1) (Oex rfl) <| Wz (.i r26_1.2.2) (Oex rfl) <| Wy (.loc 3 0) [(3, (.box [(.i 0), (.i 0), (.i 0), (.s ([] : List UInt8)), (.d .nil)]))] (Oal rfl) <| Wy (.tup []) [(3, (.box [(.i r26_1.1.Time), (.i r26_1.1.Source), (.i r26_1.1.Seq), (.s r26_1.1.Type_), (.own 2)]))] (Ost rfl) <| Wm (.i r26_1.2.1) rfl <| Wm (.i r26_1.2.2) rfl <| Nk 126 14 ⟨tp 1 (.own 1::.l encU8 r21_0.1::.i r21_0.2::.loc 3 0::.i r26_1.2.1::.i r26_1.2.2::tp 97 []), [.gone, (.fro 83 2 (List.length ([(GType.mk ([115, 116, 111, 112] : List UInt8) ([] : List GField)), (GType.mk ([98, 117, 121] : List UInt8) ([(GField.mk ([110] : List UInt8) 1)] : List GField))] : List GType)) (flatD enc_GType ([(GType.mk ([115, 116, 111, 112] : List UInt8) ([] : List GField)), (GType.mk ([98, 117, 121] : List UInt8) ([(GField.mk ([110] : List UInt8) 1)] : List GField))] : List GType))), (Ar 44 4 enc_GValue r26_1.1.Vals), (.box [(.i r26_1.1.Time), (.i r26_1.1.Source), (.i r26_1.1.Seq), (.s r26_1.1.Type_), (.own 2)])], 0⟩ <| Sx <| Wm (.own 1) rfl ?_
 obtain ⟨r32_2, hr32_2, hm⟩ := bnd hm
 refine Wy (.tup [(.agg [(.i r32_2.1.Time), (.i r32_2.1.Source), (.i r32_2.1.Seq), (.s r32_2.1.Type_), (.own 4)]), (.i r32_2.2.1), (.i r32_2.2.2)]) [(4, (Ar 44 4 enc_GValue r32_2.1.Vals))] (Ocp [] [4] [1] 0 (ok_event_Take ([(GType.mk ([115, 116, 111, 112] : List UInt8) ([] : List GField)), (GType.mk ([98, 117, 121] : List UInt8) ([(GField.mk ([110] : List UInt8) 1)] : List GField))] : List GType) ([7, 1, 0, 2] : List UInt8) 0 r32_2 hr32_2) (⟨by simp [A.Plain, A.Plains, D.Plain, byteD], plain_cons (flat_plain enc_GValue_plain) (plain_nil)⟩) (fun a w => Try.call18 a w) rfl trivial) <| Wm (.tup [(.agg [(.i r32_2.1.Time), (.i r32_2.1.Source), (.i r32_2.1.Seq), (.s r32_2.1.Type_), (.own 4)]), (.i r32_2.2.1), (.i r32_2.2.2)]) rfl <| Wz (.agg [(.i r32_2.1.Time), (.i r32_2.1.Source), (.i r32_2.1.Seq), (.s r32_2.1.Type_), (.own 4)]) (Oex rfl) <| Wz (.i r32_2.2.1) (Oex rfl) <| Wz (.i r32_2.2.2) (Oex rfl) <| Wy (.loc 5 0) [(5, (.box [(.i 0), (.i 0), (.i 0), (.s ([] : List UInt8)), (.d .nil)]))] (Oal rfl) <| Wy (.tup []) [(5, (.box [(.i r32_2.1.Time), (.i r32_2.1.Source), (.i r32_2.1.Seq), (.s r32_2.1.Type_), (.own 4)]))] (Ost rfl) <| Wm (.i r32_2.2.1) rfl <| Wm (.i r32_2.2.2) rfl <| Nk 638 14 ⟨tp 1 (.own 1::.l encU8 r21_0.1::.i r21_0.2::.loc 3 0::.i r26_1.2.1::.i r26_1.2.2::tp 2 (.i r32_2.2.2::tp 94 [])), [.gone, (.fro 83 2 (List.length ([(GType.mk ([115, 116, 111, 112] : List UInt8) ([] : List GField)), (GType.mk ([98, 117, 121] : List UInt8) ([(GField.mk ([110] : List UInt8) 1)] : List GField))] : List GType)) (flatD enc_GType ([(GType.mk ([115, 116, 111, 112] : List UInt8) ([] : List GField)), (GType.mk ([98, 117, 121] : List UInt8) ([(GField.mk ([110] : List UInt8) 1)] : List GField))] : List GType))), (Ar 44 4 enc_GValue r26_1.1.Vals), (.box [(.i r26_1.1.Time), (.i r26_1.1.Source), (.i r26_1.1.Seq), (.s r26_1.1.Type_), (.own 2)]), .gone, .gone], 0⟩ <| Sx <| Wz (.agg [(.i r26_1.1.Time), (.i r26_1.1.Source), (.i r26_1.1.Seq), (.s r26_1.1.Type_), (.own 2)]) (Old rfl) <| Wm (.own 1) rfl ?_
 obtain ⟨r39_3, hr39_3, hm⟩ := bnd hm
 refine Wz (.tup [(.agg [(.y r39_3.1.Kind), (.i r39_3.1.N), (.u r39_3.1.Bits), (.s r39_3.1.Text)]), (.b r39_3.2)]) (Ocp [] [] [2, 1] 0 (ok_event_Event_Value r26_1.1 ([(GType.mk ([115, 116, 111, 112] : List UInt8) ([] : List GField)), (GType.mk ([98, 117, 121] : List UInt8) ([(GField.mk ([110] : List UInt8) 1)] : List GField))] : List GType) ([110] : List UInt8) r39_3 hr39_3) (plain_triv (by simp [A.Plain, A.Plains, D.Plain, byteD])) (fun a w => Try.call14 a w) rfl trivial) <| Wm (.tup [(.agg [(.y r39_3.1.Kind), (.i r39_3.1.N), (.u r39_3.1.Bits), (.s r39_3.1.Text)]), (.b r39_3.2)]) rfl <| Wz (.agg [(.y r39_3.1.Kind), (.i r39_3.1.N), (.u r39_3.1.Bits), (.s r39_3.1.Text)]) (Oex rfl) <| Wz (.b r39_3.2) (Oex rfl) <| Wy (.loc 6 0) [(6, (.box [(.y 0), (.i 0), (.u 0), (.s ([] : List UInt8))]))] (Oal rfl) <| Wy (.tup []) [(6, (.box [(.y r39_3.1.Kind), (.i r39_3.1.N), (.u r39_3.1.Bits), (.s r39_3.1.Text)]))] (Ost rfl) <| Wm (.b r39_3.2) rfl <| Nk 3710 78 ⟨tp 1 (.own 1::.l encU8 r21_0.1::.i r21_0.2::.loc 3 0::.i r26_1.2.1::.i r26_1.2.2::tp 2 (.i r32_2.2.2::.loc 6 0::.b r39_3.2::tp 92 [])), [.gone, (.fro 83 2 (List.length ([(GType.mk ([115, 116, 111, 112] : List UInt8) ([] : List GField)), (GType.mk ([98, 117, 121] : List UInt8) ([(GField.mk ([110] : List UInt8) 1)] : List GField))] : List GType)) (flatD enc_GType ([(GType.mk ([115, 116, 111, 112] : List UInt8) ([] : List GField)), (GType.mk ([98, 117, 121] : List UInt8) ([(GField.mk ([110] : List UInt8) 1)] : List GField))] : List GType))), (Ar 44 4 enc_GValue r26_1.1.Vals), (.box [(.i r26_1.1.Time), (.i r26_1.1.Source), (.i r26_1.1.Seq), (.s r26_1.1.Type_), (.own 2)]), .gone, .gone, (.box [(.y r39_3.1.Kind), (.i r39_3.1.N), (.u r39_3.1.Bits), (.s r39_3.1.Text)])], 0⟩ <| Sx <| Wz (.agg [(.i 2), (.i 0), (.i 0), (.s ([] : List UInt8)), (.d .nil)]) (Obd rfl) <| Wz (.agg [(.i 1), (.i 1), (.i 0), (.s ([] : List UInt8)), (.d .nil)]) (Obd rfl) <| Wz (.agg [(.i 1), (.i 0), (.i 3), (.s ([] : List UInt8)), (.d .nil)]) (Obd rfl) <| Wy (.own 7) [(7, (Ar 34 5 enc_GEvent ([(GEvent.mk 2 0 0 ([] : List UInt8) ([] : List GValue)), (GEvent.mk 1 1 0 ([] : List UInt8) ([] : List GValue)), (GEvent.mk 1 0 3 ([] : List UInt8) ([] : List GValue))] : List GEvent)))] (Obs rfl) ?_
 obtain ⟨r46_4, hr46_4, hm⟩ := bnd hm
 refine Wy (.own 8) [(8, (Ar 34 5 enc_GEvent r46_4)), (7, (.fro 34 5 (List.length ([(GEvent.mk 2 0 0 ([] : List UInt8) ([] : List GValue)), (GEvent.mk 1 1 0 ([] : List UInt8) ([] : List GValue)), (GEvent.mk 1 0 3 ([] : List UInt8) ([] : List GValue))] : List GEvent)) (flatD enc_GEvent ([(GEvent.mk 2 0 0 ([] : List UInt8) ([] : List GValue)), (GEvent.mk 1 1 0 ([] : List UInt8) ([] : List GValue)), (GEvent.mk 1 0 3 ([] : List UInt8) ([] : List GValue))] : List GEvent))))] (Ocf [] [8] [7] 0 (ok_event_Sort ([(GEvent.mk 2 0 0 ([] : List UInt8) ([] : List GValue)), (GEvent.mk 1 1 0 ([] : List UInt8) ([] : List GValue)), (GEvent.mk 1 0 3 ([] : List UInt8) ([] : List GValue))] : List GEvent) r46_4 hr46_4) (fun a w => Try.call23 a w) rfl trivial) <| Wm (.own 8) rfl <| Nk 7806 334 ⟨tp 1 (.own 1::.l encU8 r21_0.1::.i r21_0.2::.loc 3 0::.i r26_1.2.1::.i r26_1.2.2::tp 2 (.i r32_2.2.2::.loc 6 0::.b r39_3.2::.own 8::tp 91 [])), [.gone, (.fro 83 2 (List.length ([(GType.mk ([115, 116, 111, 112] : List UInt8) ([] : List GField)), (GType.mk ([98, 117, 121] : List UInt8) ([(GField.mk ([110] : List UInt8) 1)] : List GField))] : List GType)) (flatD enc_GType ([(GType.mk ([115, 116, 111, 112] : List UInt8) ([] : List GField)), (GType.mk ([98, 117, 121] : List UInt8) ([(GField.mk ([110] : List UInt8) 1)] : List GField))] : List GType))), (Ar 44 4 enc_GValue r26_1.1.Vals), (.box [(.i r26_1.1.Time), (.i r26_1.1.Source), (.i r26_1.1.Seq), (.s r26_1.1.Type_), (.own 2)]), .gone, .gone, (.box [(.y r39_3.1.Kind), (.i r39_3.1.N), (.u r39_3.1.Bits), (.s r39_3.1.Text)]), .gone, (Ar 34 5 enc_GEvent r46_4)], 0⟩ <| Sq <| Adr <| Wm (.i r21_0.2) rfl <| Wz (.b (decide (r21_0.2 = 0))) (Obn rfl (fun _ => hb_eql (k := .i64))) ?_
 rcases tf_ (decide (r21_0.2 = 0)) with hq49_5 | hq49_5
 ·
  replace hm := cT hq49_5 hm
  refine Wz (.b true) (Oq hq49_5 rfl) <| Wm (.l encU8 r21_0.1) rfl <| Wz (.s r21_0.1) (Ocs (by kernel_rfl) (op_str rfl (e := 5) (by kernel_rfl) (by kernel_rfl) (by kernel_rfl) (y := (.l encU8 r21_0.1)) (by kernel_rfl) (ds := flatD encU8 r21_0.1) (off := 0) (n := List.length r21_0.1) (by kernel_rfl) (l := r21_0.1) flatU8_take rfl)) <| Wz (.b (decide (r21_0.1 = ([5, 0, 1, 0] : List UInt8)))) (Ocs (lit_tf (by simp only [toS_inj, ne_eq])) (op_bin rfl (a1 := .string (toS r21_0.1)) (a2 := .string (toS ([5, 0, 1, 0] : List UInt8))) (by kernel_rfl) (by kernel_rfl) (fun _ => hb_seql))) <| Wz (.b (decide (r21_0.1 = ([5, 0, 1, 0] : List UInt8)))) (OpT rfl) ?_
  rcases tf_ (decide (r21_0.1 = ([5, 0, 1, 0] : List UInt8))) with hq54_5 | hq54_5
  ·
   replace hm := cT hq54_5 hm
   refine Wz (.b true) (Oq hq54_5 rfl) <| Wm (.i r26_1.2.2) rfl <| Wz (.b (decide (r26_1.2.2 = 0))) (Obn rfl (fun _ => hb_eql (k := .i64))) <| Wz (.b (decide (r26_1.2.2 = 0))) (OpT rfl) ?_
   rcases tf_ (decide (r26_1.2.2 = 0)) with hq58_5 | hq58_5
   ·
    replace hm := cT hq58_5 hm
    refine Wz (.b true) (Oq hq58_5 rfl) <| Wm (.i r26_1.2.1) rfl <| Wz (.b (decide (r26_1.2.1 = 6))) (Obn rfl (fun _ => hb_eql (k := .i64))) <| Wz (.b (decide (r26_1.2.1 = 6))) (OpT rfl) ?_
    rcases tf_ (decide (r26_1.2.1 = 6)) with hq62_5 | hq62_5
    ·
     replace hm := cT hq62_5 hm
     refine Wz (.b true) (Oq hq62_5 rfl) <| Wm (.b r39_3.2) rfl <| Wz (.b r39_3.2) (OpT rfl) ?_
     rcases tf_ r39_3.2 with hq65_5 | hq65_5
     ·
      replace hm := cT hq65_5 hm
      refine Wz (.b true) (Oq hq65_5 rfl) <| Wz (.agg [(.y r39_3.1.Kind), (.i r39_3.1.N), (.u r39_3.1.Bits), (.s r39_3.1.Text)]) (Old rfl) ?_
      obtain ⟨r67_5, hr67_5, hm⟩ := bnd hm
      refine Wz (.agg [(.y r67_5.Kind), (.i r67_5.N), (.u r67_5.Bits), (.s r67_5.Text)]) (Ocf [] [] [] 0 (ok_value_OfInt 3 r67_5 hr67_5) (fun a w => Try.call34 a w) rfl trivial) ?_
      obtain ⟨v68_5, hv68_5, hm⟩ := bnd hm; replace hv68_5 := Option.some.inj hv68_5
      refine Wz (.b v68_5) (Ocs (Eq.trans (lit_tf (by simp only [toS_inj])) (congrArg (fun z => A.d (.lit (.bool z))) hv68_5)) (op_eql_struct rfl (la := [(.y r39_3.1.Kind), (.i r39_3.1.N), (.u r39_3.1.Bits), (.s r39_3.1.Text)]) (lb := [(.y r67_5.Kind), (.i r67_5.N), (.u r67_5.Bits), (.s r67_5.Text)]) (us := [.int .u8 ((r39_3.1.Kind.toNat : Nat) : Int), .int .i64 r39_3.1.N, .int .u64 r39_3.1.Bits, .string (toS r39_3.1.Text)]) (vs := [.int .u8 ((r67_5.Kind.toNat : Nat) : Int), .int .i64 r67_5.N, .int .u64 r67_5.Bits, .string (toS r67_5.Text)]) (r := (decide (((r39_3.1.Kind.toNat : Nat) : Int) = ((r67_5.Kind.toNat : Nat) : Int)) && (decide (r39_3.1.N = r67_5.N) && (decide (r39_3.1.Bits = r67_5.Bits) && (decide ((toS r39_3.1.Text) = (toS r67_5.Text)) && true))))) (by kernel_rfl) (by kernel_rfl) (by kernel_rfl) (by kernel_rfl) (by kernel_rfl))) <| Wz (.b v68_5) (OpT rfl) ?_
      rcases tf_ v68_5 with hq70_5 | hq70_5
      ·
       replace hm := cT hq70_5 hm
       refine Wz (.b true) (Oq hq70_5 rfl) <| Wm (.i r32_2.2.2) rfl <| Wz (.b (decide (r32_2.2.2 = 6))) (Obn rfl (fun _ => hb_eql (k := .i64))) <| Wz (.b (decide (r32_2.2.2 = 6))) (OpT rfl) ?_
       rcases tf_ (decide (r32_2.2.2 = 6)) with hq74_5 | hq74_5
       ·
        replace hm := cT hq74_5 hm
        refine Wz (.b true) (Oq hq74_5 rfl) <| Wm (.own 8) rfl <| Wz (.i ((List.length r46_4 : Nat) : Int)) (Oln rfl) <| Wz (.b (decide (((List.length r46_4 : Nat) : Int) = 3))) (Obn rfl (fun _ => hb_eql (k := .i64))) <| Wz (.b (decide (((List.length r46_4 : Nat) : Int) = 3))) (OpT rfl) ?_
        rcases tf_ (decide (((List.length r46_4 : Nat) : Int) = 3)) with hq79_5 | hq79_5
        ·
         replace hm := cT hq79_5 hm
         refine Wz (.b true) (Oq hq79_5 rfl) <| Wm (.own 8) rfl ?_
         obtain ⟨x81_5, hx81_5, hm⟩ := bnd hm
         obtain ⟨hx81_5i, hx81_5g⟩ := geti_some hx81_5
         refine Wz (.loc 8 ((Int.toNat 0) * 5)) (Oia rfl enc_GEvent_len hx81_5i hx81_5g) <| Wz (.loc 8 ((Int.toNat 0) * 5 + 2)) (Ofa rfl) <| Wz (.i x81_5.Seq) (Lrk1 2 rfl enc_GEvent_len hx81_5g) <| Wz (.b (decide (x81_5.Seq = 3))) (Obn rfl (fun _ => hb_eql (k := .i64))) <| Wz (.b (decide (x81_5.Seq = 3))) (OpT rfl) ?_
         rcases tf_ (decide (x81_5.Seq = 3)) with hq86_5 | hq86_5
         ·
          replace hm := cT hq86_5 hm
          refine Wz (.b true) (Oq hq86_5 rfl) <| Wm (.own 8) rfl ?_
          obtain ⟨r88_5, hr88_5, hm⟩ := bnd hm
          refine Wz (.b r88_5) (Ocp [] [] [8] 0 (ok_event_Sorted r46_4 r88_5 hr88_5) (plain_triv (by simp [A.Plain, A.Plains, D.Plain, byteD])) (fun a w => Try.call27 a w) rfl trivial) <| Wz (.b r88_5) (OpT rfl) ?_
          rcases tf_ r88_5 with hq90_5 | hq90_5
          ·
           replace hm := cT hq90_5 hm
           refine Wz (.b true) (Oq hq90_5 rfl) <| Wm (.own 1) rfl <| Wz (.agg [(.i 0), (.i 0), (.i 0), (.s ([115, 101, 108, 108] : List UInt8)), (.d .nil)]) (Obd rfl) ?_
           obtain ⟨r93_5, hr93_5, hm⟩ := bnd hm
           refine Wz (.i r93_5) (Ocp [] [] [1] 0 (ok_event_Check ([(GType.mk ([115, 116, 111, 112] : List UInt8) ([] : List GField)), (GType.mk ([98, 117, 121] : List UInt8) ([(GField.mk ([110] : List UInt8) 1)] : List GField))] : List GType) (GEvent.mk 0 0 0 ([115, 101, 108, 108] : List UInt8) ([] : List GValue)) r93_5 hr93_5) (plain_triv (by simp [A.Plain, A.Plains, D.Plain, byteD])) (fun a w => Try.call16 a w) rfl trivial) <| Wz (.b (decide (r93_5 = 6))) (Obn rfl (fun _ => hb_eql (k := .i64))) <| Wz (.b (decide (r93_5 = 6))) (OpT rfl) ?_
           rcases tf_ (decide (r93_5 = 6)) with hq96_5 | hq96_5
           ·
            replace hm := cT hq96_5 hm
            refine Wz (.b true) (Oq hq96_5 rfl) <| Wz (.agg [(.i r26_1.1.Time), (.i r26_1.1.Source), (.i r26_1.1.Seq), (.s r26_1.1.Type_), (.own 2)]) (Old rfl) ?_
            obtain ⟨r98_5, hr98_5, hm⟩ := bnd hm
            refine Wz (.agg [(.i r98_5.Time), (.i r98_5.Source), (.i r98_5.Seq)]) (Ocp [] [] [2] 0 (ok_event_Event_ID r26_1.1 r98_5 hr98_5) (plain_triv (by simp [A.Plain, A.Plains, D.Plain, byteD])) (fun a w => Try.call29 a w) rfl trivial) <| Wz (.agg [(.i 7), (.i 1), (.i 0)]) (Obd rfl) <| Wz (.b (decide (r98_5.Time = 7) && (decide (r98_5.Source = 1) && (decide (r98_5.Seq = 0) && true)))) (Ocs (by kernel_rfl) (op_eql_struct rfl (la := [(.i r98_5.Time), (.i r98_5.Source), (.i r98_5.Seq)]) (lb := [(.i 7), (.i 1), (.i 0)]) (us := [.int .i64 r98_5.Time, .int .i64 r98_5.Source, .int .i64 r98_5.Seq]) (vs := [.int .i64 7, .int .i64 1, .int .i64 0]) (r := (decide (r98_5.Time = 7) && (decide (r98_5.Source = 1) && (decide (r98_5.Seq = 0) && true)))) (by kernel_rfl) (by kernel_rfl) (by kernel_rfl) (by kernel_rfl) (by kernel_rfl))) <| Wz (.b (decide (r98_5.Time = 7) && (decide (r98_5.Source = 1) && (decide (r98_5.Seq = 0) && true)))) (OpT rfl) ?_
            rcases tf_ (decide (r98_5.Time = 7) && (decide (r98_5.Source = 1) && (decide (r98_5.Seq = 0) && true))) with hq102_5 | hq102_5
            ·
             replace hm := cT hq102_5 hm
             refine Wz (.b true) (Oq hq102_5 rfl) <| Wz (.b true) (OpT rfl) <| Wm (.b true) rfl <| Wdr <| Tn <| Rt ?_
             obtain rfl := Option.some.inj hm
             exact ret_i []
            ·
             replace hm := cF hq102_5 hm
             refine Wz (.b false) (Oq hq102_5 rfl) <| Wz (.b false) (OpF rfl) <| Wm (.b false) rfl <| Wdr <| Tn <| Rt ?_
             obtain rfl := Option.some.inj hm
             exact ret_i []
           ·
            replace hm := cF hq96_5 hm
            refine Wz (.b false) (Oq hq96_5 rfl) <| Wn <| Wn <| Wn <| Wn <| Wz (.b false) (OpF rfl) <| Wm (.b false) rfl <| Wz (.b false) (OpF rfl) <| Wm (.b false) rfl <| Wdr <| Tn <| Rt ?_
            obtain rfl := Option.some.inj hm
            exact ret_i []
          ·
           replace hm := cF hq90_5 hm
           refine Wz (.b false) (Oq hq90_5 rfl) <| Wn <| Wn <| Wn <| Wn <| Wz (.b false) (OpF rfl) <| Wm (.b false) rfl <| Wn <| Wn <| Wn <| Wn <| Wz (.b false) (OpF rfl) <| Wm (.b false) rfl <| Wz (.b false) (OpF rfl) ?_
           refine Wm (.b false) rfl <| Wdr <| Tn <| Rt ?_
           obtain rfl := Option.some.inj hm
           exact ret_i []
         ·
          replace hm := cF hq86_5 hm
          refine Wz (.b false) (Oq hq86_5 rfl) <| Wn <| Wn <| Wz (.b false) (OpF rfl) <| Wm (.b false) rfl <| Wn <| Wn <| Wn <| Wn <| Wz (.b false) (OpF rfl) <| Wm (.b false) rfl <| Wn <| Wn <| Wn ?_
          refine Wn <| Wz (.b false) (OpF rfl) <| Wm (.b false) rfl <| Wz (.b false) (OpF rfl) <| Wm (.b false) rfl <| Wdr <| Tn <| Rt ?_
          obtain rfl := Option.some.inj hm
          exact ret_i []
        ·
         replace hm := cF hq79_5 hm
         refine Wz (.b false) (Oq hq79_5 rfl) <| Wn <| Wn <| Wn <| Wn <| Wn <| Wz (.b false) (OpF rfl) <| Wm (.b false) rfl <| Wn <| Wn <| Wz (.b false) (OpF rfl) <| Wm (.b false) rfl <| Wn <| Wn ?_
         refine Wn <| Wn <| Wz (.b false) (OpF rfl) <| Wm (.b false) rfl <| Wn <| Wn <| Wn <| Wn <| Wz (.b false) (OpF rfl) <| Wm (.b false) rfl <| Wz (.b false) (OpF rfl) <| Wm (.b false) rfl <| Wdr <| Tn ?_
         refine Rt ?_
         obtain rfl := Option.some.inj hm
         exact ret_i []
       ·
        replace hm := cF hq74_5 hm
        refine Wz (.b false) (Oq hq74_5 rfl) <| Wn <| Wn <| Wn <| Wz (.b false) (OpF rfl) <| Wm (.b false) rfl <| Wn <| Wn <| Wn <| Wn <| Wn <| Wz (.b false) (OpF rfl) <| Wm (.b false) rfl <| Wn ?_
        refine Wn <| Wz (.b false) (OpF rfl) <| Wm (.b false) rfl <| Wn <| Wn <| Wn <| Wn <| Wz (.b false) (OpF rfl) <| Wm (.b false) rfl <| Wn <| Wn <| Wn <| Wn <| Wz (.b false) (OpF rfl) ?_
        refine Wm (.b false) rfl <| Wz (.b false) (OpF rfl) <| Wm (.b false) rfl <| Wdr <| Tn <| Rt ?_
        obtain rfl := Option.some.inj hm
        exact ret_i []
      ·
       replace hm := cF hq70_5 hm
       refine Wz (.b false) (Oq hq70_5 rfl) <| Wn <| Wn <| Wz (.b false) (OpF rfl) <| Wm (.b false) rfl <| Wn <| Wn <| Wn <| Wz (.b false) (OpF rfl) <| Wm (.b false) rfl <| Wn <| Wn <| Wn <| Wn ?_
       refine Wn <| Wz (.b false) (OpF rfl) <| Wm (.b false) rfl <| Wn <| Wn <| Wz (.b false) (OpF rfl) <| Wm (.b false) rfl <| Wn <| Wn <| Wn <| Wn <| Wz (.b false) (OpF rfl) <| Wm (.b false) rfl <| Wn ?_
       refine Wn <| Wn <| Wn <| Wz (.b false) (OpF rfl) <| Wm (.b false) rfl <| Wz (.b false) (OpF rfl) <| Wm (.b false) rfl <| Wdr <| Tn <| Rt ?_
       obtain rfl := Option.some.inj hm
       exact ret_i []
     ·
      replace hm := cF hq65_5 hm
      refine Wz (.b false) (Oq hq65_5 rfl) <| Wn <| Wn <| Wn <| Wz (.b false) (OpF rfl) <| Wm (.b false) rfl <| Wn <| Wn <| Wz (.b false) (OpF rfl) <| Wm (.b false) rfl <| Wn <| Wn <| Wn <| Wz (.b false) (OpF rfl) ?_
      refine Wm (.b false) rfl <| Wn <| Wn <| Wn <| Wn <| Wn <| Wz (.b false) (OpF rfl) <| Wm (.b false) rfl <| Wn <| Wn <| Wz (.b false) (OpF rfl) <| Wm (.b false) rfl <| Wn <| Wn ?_
      refine Wn <| Wn <| Wz (.b false) (OpF rfl) <| Wm (.b false) rfl <| Wn <| Wn <| Wn <| Wn <| Wz (.b false) (OpF rfl) <| Wm (.b false) rfl <| Wz (.b false) (OpF rfl) <| Wm (.b false) rfl <| Wdr <| Tn ?_
      refine Rt ?_
      obtain rfl := Option.some.inj hm
      exact ret_i []
    ·
     replace hm := cF hq62_5 hm
     refine Wz (.b false) (Oq hq62_5 rfl) <| Wn <| Wz (.b false) (OpF rfl) <| Wm (.b false) rfl <| Wn <| Wn <| Wn <| Wz (.b false) (OpF rfl) <| Wm (.b false) rfl <| Wn <| Wn <| Wz (.b false) (OpF rfl) <| Wm (.b false) rfl <| Wn ?_
     refine Wn <| Wn <| Wz (.b false) (OpF rfl) <| Wm (.b false) rfl <| Wn <| Wn <| Wn <| Wn <| Wn <| Wz (.b false) (OpF rfl) <| Wm (.b false) rfl <| Wn <| Wn <| Wz (.b false) (OpF rfl) ?_
     refine Wm (.b false) rfl <| Wn <| Wn <| Wn <| Wn <| Wz (.b false) (OpF rfl) <| Wm (.b false) rfl <| Wn <| Wn <| Wn <| Wn <| Wz (.b false) (OpF rfl) <| Wm (.b false) rfl <| Wz (.b false) (OpF rfl) ?_
     refine Wm (.b false) rfl <| Wdr <| Tn <| Rt ?_
     obtain rfl := Option.some.inj hm
     exact ret_i []
   ·
    replace hm := cF hq58_5 hm
    refine Wz (.b false) (Oq hq58_5 rfl) <| Wn <| Wn <| Wz (.b false) (OpF rfl) <| Wm (.b false) rfl <| Wn <| Wz (.b false) (OpF rfl) <| Wm (.b false) rfl <| Wn <| Wn <| Wn <| Wz (.b false) (OpF rfl) <| Wm (.b false) rfl <| Wn ?_
    refine Wn <| Wz (.b false) (OpF rfl) <| Wm (.b false) rfl <| Wn <| Wn <| Wn <| Wz (.b false) (OpF rfl) <| Wm (.b false) rfl <| Wn <| Wn <| Wn <| Wn <| Wn <| Wz (.b false) (OpF rfl) ?_
    refine Wm (.b false) rfl <| Wn <| Wn <| Wz (.b false) (OpF rfl) <| Wm (.b false) rfl <| Wn <| Wn <| Wn <| Wn <| Wz (.b false) (OpF rfl) <| Wm (.b false) rfl <| Wn <| Wn <| Wn ?_
    refine Wn <| Wz (.b false) (OpF rfl) <| Wm (.b false) rfl <| Wz (.b false) (OpF rfl) <| Wm (.b false) rfl <| Wdr <| Tn <| Rt ?_
    obtain rfl := Option.some.inj hm
    exact ret_i []
  ·
   replace hm := cF hq54_5 hm
   refine Wz (.b false) (Oq hq54_5 rfl) <| Wn <| Wn <| Wz (.b false) (OpF rfl) <| Wm (.b false) rfl <| Wn <| Wn <| Wz (.b false) (OpF rfl) <| Wm (.b false) rfl <| Wn <| Wz (.b false) (OpF rfl) <| Wm (.b false) rfl <| Wn <| Wn ?_
   refine Wn <| Wz (.b false) (OpF rfl) <| Wm (.b false) rfl <| Wn <| Wn <| Wz (.b false) (OpF rfl) <| Wm (.b false) rfl <| Wn <| Wn <| Wn <| Wz (.b false) (OpF rfl) <| Wm (.b false) rfl <| Wn <| Wn ?_
   refine Wn <| Wn <| Wn <| Wz (.b false) (OpF rfl) <| Wm (.b false) rfl <| Wn <| Wn <| Wz (.b false) (OpF rfl) <| Wm (.b false) rfl <| Wn <| Wn <| Wn <| Wn <| Wz (.b false) (OpF rfl) ?_
   refine Wm (.b false) rfl <| Wn <| Wn <| Wn <| Wn <| Wz (.b false) (OpF rfl) <| Wm (.b false) rfl <| Wz (.b false) (OpF rfl) <| Wm (.b false) rfl <| Wdr <| Tn <| Rt ?_
   obtain rfl := Option.some.inj hm
   exact ret_i []
 ·
  replace hm := cF hq49_5 hm
  refine Wz (.b false) (Oq hq49_5 rfl) <| Wn <| Wn <| Wn <| Wz (.b false) (OpF rfl) <| Wm (.b false) rfl <| Wn <| Wn <| Wz (.b false) (OpF rfl) <| Wm (.b false) rfl <| Wn <| Wn <| Wz (.b false) (OpF rfl) <| Wm (.b false) rfl ?_
  refine Wn <| Wz (.b false) (OpF rfl) <| Wm (.b false) rfl <| Wn <| Wn <| Wn <| Wz (.b false) (OpF rfl) <| Wm (.b false) rfl <| Wn <| Wn <| Wz (.b false) (OpF rfl) <| Wm (.b false) rfl <| Wn <| Wn ?_
  refine Wn <| Wz (.b false) (OpF rfl) <| Wm (.b false) rfl <| Wn <| Wn <| Wn <| Wn <| Wn <| Wz (.b false) (OpF rfl) <| Wm (.b false) rfl <| Wn <| Wn <| Wz (.b false) (OpF rfl) <| Wm (.b false) rfl ?_
  refine Wn <| Wn <| Wn <| Wn <| Wz (.b false) (OpF rfl) <| Wm (.b false) rfl <| Wn <| Wn <| Wn <| Wn <| Wz (.b false) (OpF rfl) <| Wm (.b false) rfl <| Wz (.b false) (OpF rfl) <| Wm (.b false) rfl ?_
  refine Wdr <| Tn <| Rt ?_
  obtain rfl := Option.some.inj hm
  exact ret_i []

theorem ok_telltalelaw06_Own (p0 : (List GType)) (r : (List GType)) (h : m_telltalelaw06_Own p0 = some r) : GCall Try.prog 10 [(.l enc_GType p0)] [] (.own 0) [(Ar 83 2 enc_GType r)] := by
 refine GCall.of_body (n := 47) (rs := [(.tmp 2)]) Try.func10 rfl rfl rfl <| Ato ⟨.l enc_GType p0::tu 46 [], [], 0⟩ ?_
 have hm := h
 unfold m_telltalelaw06_Own at hm
 refine Sx <| Wm (.d .nil) rfl <| Nk 1 0 ⟨.l enc_GType p0::tp 46 [], [], 0⟩ <| Sx <| Wm (.d .nil) rfl <| Nk 9 0 ⟨.l enc_GType p0::tp 2 (.d .nil::tp 43 []), [], 0⟩ <| Sq <| Sx <| Wm (.i 0) rfl <| Nk 25 0 ⟨.l enc_GType p0::tp 2 (.d .nil::.i 0::tp 42 []), [], 0⟩ <| Bk <| Aow 3 83 2 ⟨.l enc_GType p0::tp 2 (.own 0::.i 0::tp 42 []), [(Ar 83 2 enc_GType ([] : List GType))], 0⟩ ?_
 refine AWP.loopI (α := Nat × (List GType) × Int)
   (fun (fu_0, y3_0, y4_0) => (⟨.l enc_GType p0::tp 2 (.own 0::.i y4_0::tp 42 []), [(Ar 83 2 enc_GType y3_0)], 0⟩ : St))
   (fun (fu_0, y3_0, y4_0) => m_telltalelaw06_Own_l0 p0 fu_0 y3_0 y4_0 = some r)
   (fun (fu_0, y3_0, y4_0) => fu_0) (1152921504606846976, ([] : List GType), 0)
   (Weak.toK 25 0 0 [0]) hm ?_
 rintro ⟨fu_0, y3_0, y4_0⟩ n_0 hm ih_0
 try dsimp only at hm ih_0 ⊢
 cases fu_0 with
 | zero => exact absurd hm (by unfold m_telltalelaw06_Own_l0; simp)
 | succ fu_0 =>
  unfold m_telltalelaw06_Own_l0 at hm
  refine Sq <| Sx <| Wm (.i y4_0) rfl <| Wm (.l enc_GType p0) rfl <| Wz (.i ((List.length p0 : Nat) : Int)) (Oln rfl) <| Wz (.b (decide (y4_0 < ((List.length p0 : Nat) : Int)))) (Obn rfl (fun _ => hb_lss (k := .i64))) <| Nk 1049 1 ⟨.l enc_GType p0::tp 2 (.own 0::.i y4_0::tp 5 (.b (decide (y4_0 < ((List.length p0 : Nat) : Int)))::tp 36 [])), [(Ar 83 2 enc_GType y3_0)], 0⟩ ?_
  rcases tf_ (decide (y4_0 < ((List.length p0 : Nat) : Int))) with hc10_7 | hc10_7
  ·
   replace hm := cT hc10_7 hm
   refine AiT hc10_7 <| Sk <| Tk 25 1 ⟨.l enc_GType p0::tp 2 (.own 0::.i y4_0::tp 42 []), [(Ar 83 2 enc_GType y3_0)], 0⟩ <| Sq <| Bk <| Sx <| Wm (.l enc_GType p0) rfl <| Wm (.i y4_0) rfl ?_
   obtain ⟨x15_2, hx15_2, hm⟩ := bnd hm
   obtain ⟨hx15_2i, hx15_2g⟩ := geti_some hx15_2
   refine Wz (.d (.ref (List.drop ((Int.toNat y4_0) * 2) (flatD enc_GType p0)))) (Oia rfl enc_GType_len hx15_2i hx15_2g) <| Wz (.d (.ref (List.drop ((Int.toNat y4_0) * 2) (flatD enc_GType p0)))) (Ofa rfl) <| Wz (.s x15_2.Name) (Lf1 rfl enc_GType_len hx15_2g) <| Wz (.agg [(.s x15_2.Name), (.d .nil)]) (Obd rfl) <| Wy (.loc 1 0) [(1, (.box [(.s ([] : List UInt8)), (.d .nil)]))] (Oal rfl) <| Wy (.tup []) [(1, (.box [(.s x15_2.Name), (.d .nil)]))] (Ost rfl) <| Nk 57 3 ⟨.l enc_GType p0::tp 2 (.own 0::.i y4_0::.loc 1 0::tp 41 []), [(Ar 83 2 enc_GType y3_0), (.box [(.s x15_2.Name), (.d .nil)])], 0⟩ <| Sq <| Sx <| Wm (.i 0) rfl <| Nk 121 3 ⟨.l enc_GType p0::tp 2 (.own 0::.i y4_0::.loc 1 0::.i 0::tp 40 []), [(Ar 83 2 enc_GType y3_0), (.box [(.s x15_2.Name), (.d .nil)])], 0⟩ <| Bk <| Aob 1 1 84 2 ⟨.l enc_GType p0::tp 2 (.own 0::.i y4_0::.loc 1 0::.i 0::tp 40 []), [(Ar 83 2 enc_GType y3_0), (.box [(.s x15_2.Name), (.own 2)]), (Ar 84 2 enc_GField ([] : List GField))], 0⟩ ?_
   refine AWP.loopI (α := Nat × (List GField) × Int)
     (fun (fu_3, y5_d_1_3, y6_3) => (⟨.l enc_GType p0::tp 2 (.own 0::.i y4_0::.loc 1 0::.i y6_3::tp 40 []), [(Ar 83 2 enc_GType y3_0), (.box [(.s x15_2.Name), (.own 2)]), (Ar 84 2 enc_GField y5_d_1_3)], 0⟩ : St))
     (fun (fu_3, y5_d_1_3, y6_3) => m_telltalelaw06_Own_l3 p0 x15_2 y3_0 y4_0 (fun y3_0 y4_0 => m_telltalelaw06_Own_l0 p0 fu_0 y3_0 y4_0) fu_3 y5_d_1_3 y6_3 = some r)
     (fun (fu_3, y5_d_1_3, y6_3) => fu_3) (1152921504606846976, ([] : List GField), 0)
     (Weak.toK 121 0 0 [0, 1, 2]) hm ?_
   rintro ⟨fu_3, y5_d_1_3, y6_3⟩ n_3 hm ih_3
   try dsimp only at hm ih_3 ⊢
   cases fu_3 with
   | zero => exact absurd hm (by unfold m_telltalelaw06_Own_l3; simp)
   | succ fu_3 =>
    unfold m_telltalelaw06_Own_l3 at hm
    refine Sq <| Sx <| Wm (.i y6_3) rfl <| Wm (.l enc_GType p0) rfl <| Wm (.i y4_0) rfl ?_
    obtain ⟨x22_4, hx22_4, hm⟩ := bnd hm
    obtain ⟨hx22_4i, hx22_4g⟩ := geti_some hx22_4
    refine Wz (.d (.ref (List.drop ((Int.toNat y4_0) * 2) (flatD enc_GType p0)))) (Oia rfl enc_GType_len hx22_4i hx22_4g) <| Wz (.d (.ref (List.drop 1 (List.drop ((Int.toNat y4_0) * 2) (flatD enc_GType p0))))) (Ofa rfl) <| Wz (.l enc_GField x22_4.Fields) (Lfk1 1 rfl enc_GType_len hx22_4g) <| Wz (.i ((List.length x22_4.Fields : Nat) : Int)) (Oln rfl) <| Wz (.b (decide (y6_3 < ((List.length x22_4.Fields : Nat) : Int)))) (Obn rfl (fun _ => hb_lss (k := .i64))) <| Nk 67108985 7 ⟨.l enc_GType p0::tp 2 (.own 0::.i y4_0::.loc 1 0::.i y6_3::tp 19 (.b (decide (y6_3 < ((List.length x22_4.Fields : Nat) : Int)))::tp 20 [])), [(Ar 83 2 enc_GType y3_0), (.box [(.s x15_2.Name), (.own 2)]), (Ar 84 2 enc_GField y5_d_1_3)], 0⟩ ?_
    rcases tf_ (decide (y6_3 < ((List.length x22_4.Fields : Nat) : Int))) with hc26_8 | hc26_8
    ·
     replace hm := cT hc26_8 hm
     refine AiT hc26_8 <| Sk <| Tk 121 7 ⟨.l enc_GType p0::tp 2 (.own 0::.i y4_0::.loc 1 0::.i y6_3::tp 40 []), [(Ar 83 2 enc_GType y3_0), (.box [(.s x15_2.Name), (.own 2)]), (Ar 84 2 enc_GField y5_d_1_3)], 0⟩ <| Sq <| Bk <| Adr <| Wz (.loc 1 1) (Ofa rfl) <| Wz (.own 2) (Old rfl) <| Wm (.l enc_GType p0) rfl <| Wm (.i y4_0) rfl ?_
     obtain ⟨x33_5, hx33_5, hm⟩ := bnd hm
     obtain ⟨hx33_5i, hx33_5g⟩ := geti_some hx33_5
     refine Wz (.d (.ref (List.drop ((Int.toNat y4_0) * 2) (flatD enc_GType p0)))) (Oia rfl enc_GType_len hx33_5i hx33_5g) <| Wz (.d (.ref (List.drop 1 (List.drop ((Int.toNat y4_0) * 2) (flatD enc_GType p0))))) (Ofa rfl) <| Wz (.l enc_GField x33_5.Fields) (Lfk1 1 rfl enc_GType_len hx33_5g) <| Wm (.i y6_3) rfl ?_
     obtain ⟨x37_5, hx37_5, hm⟩ := bnd hm
     obtain ⟨hx37_5i, hx37_5g⟩ := geti_some hx37_5
     refine Wz (.d (.ref (List.drop ((Int.toNat y6_3) * 2) (flatD enc_GField x33_5.Fields)))) (Oia rfl enc_GField_len hx37_5i hx37_5g) <| Wz (.agg [(.s x37_5.Name), (.y x37_5.Kind)]) (Lf rfl enc_GField_len hx37_5g) <| Wy (.own 3) [(3, (Ar 84 2 enc_GField ([x37_5] : List GField)))] (Obs rfl) ?_
     obtain ⟨a40_5, ha40_5, hm⟩ := bnd hm; obtain ⟨ha40_5e, ha40_5l⟩ := app_some ha40_5
     refine Wy (.own 4) [(2, .gone), (4, (Ar 84 2 enc_GField a40_5))] (Oap rfl elemOK_81 enc_GField_len ha40_5e ha40_5l) <| Wz (.loc 1 1) (Ofa rfl) <| Wy (.tup []) [(1, (.box [(.s x15_2.Name), (.own 4)]))] (Ost rfl) <| Wdr <| Ino <| Tk 121 19 ⟨.l enc_GType p0::tp 2 (.own 0::.i y4_0::.loc 1 0::.i y6_3::tp 40 []), [(Ar 83 2 enc_GType y3_0), (.box [(.s x15_2.Name), (.own 4)]), .gone, .gone, (Ar 84 2 enc_GField a40_5)], 0⟩ <| Tx <| Wm (.i y6_3) rfl <| Wz (.i (W6 (y6_3 + 1))) (Obn rfl (fun _ => hb_add (k := .i64))) <| Wm (.i (W6 (y6_3 + 1))) rfl <| Wn0 <| RoundK.normal ?_
     exact Rounds.weak (Weak.toK 121 0 0 [0, 1, 4]) (ih_3 (fu_3, a40_5, (W6 (y6_3 + 1))) hm (Nat.lt_succ_self _))
    ·
     replace hm := cF hc26_8 hm
     refine AiF hc26_8 <| AWP.exit <| Then.exit <| RoundK.exit <| InBlock.same <| Tk 57 7 ⟨.l enc_GType p0::tp 2 (.own 0::.i y4_0::.loc 1 0::tp 41 []), [(Ar 83 2 enc_GType y3_0), (.box [(.s x15_2.Name), (.own 2)]), (Ar 84 2 enc_GField y5_d_1_3)], 0⟩ <| Afz [2] ⟨.l enc_GType p0::tp 2 (.own 0::.i y4_0::.loc 1 0::tp 41 []), [(Ar 83 2 enc_GType y3_0), (.box [(.s x15_2.Name), (.l enc_GField y5_d_1_3)]), (.fro 84 2 (List.length y5_d_1_3) (flatD enc_GField y5_d_1_3))], 0⟩ <| Tx <| Wm (.own 0) rfl <| Wz (.agg [(.s x15_2.Name), (.l enc_GField y5_d_1_3)]) (Old rfl) <| Wy (.own 3) [(3, (Ar 83 2 enc_GType ([(GType.mk x15_2.Name y5_d_1_3)] : List GType)))] (Obs rfl) ?_
     obtain ⟨a45_6, ha45_6, hm⟩ := bnd hm; obtain ⟨ha45_6e, ha45_6l⟩ := app_some ha45_6
     refine Wy (.own 4) [(0, .gone), (4, (Ar 83 2 enc_GType a45_6))] (Oap rfl elemOK_30 enc_GType_len ha45_6e ha45_6l) <| Wm (.own 4) rfl <| Wn0 <| Ino <| Tk 25 16 ⟨.l enc_GType p0::tp 2 (.own 4::.i y4_0::tp 42 []), [.gone, .gone, .gone, .gone, (Ar 83 2 enc_GType a45_6)], 0⟩ <| Tx <| Wm (.i y4_0) rfl <| Wz (.i (W6 (y4_0 + 1))) (Obn rfl (fun _ => hb_add (k := .i64))) <| Wm (.i (W6 (y4_0 + 1))) rfl <| Wn0 <| RoundK.normal ?_
     exact Rounds.weak (Weak.toK 25 0 0 [4]) (ih_0 (fu_0, a45_6, (W6 (y4_0 + 1))) hm (Nat.lt_succ_self _))
  ·
   replace hm := cF hc10_7 hm
   refine AiF hc10_7 <| AWP.exit <| Then.exit <| RoundK.exit <| InBlock.same <| Tk 8 1 ⟨tp 3 (.own 0::tp 43 []), [(Ar 83 2 enc_GType y3_0)], 0⟩ <| Sx <| Wm (.own 0) rfl <| Wm (.own 0) rfl <| Nn <| Rt ?_
   obtain rfl := Option.some.inj hm
   exact ret_i [0]

theorem ok_telltalelaw06_Vals (p0 : (List GValue)) (r : (List GValue)) (h : m_telltalelaw06_Vals p0 = some r) : GCall Try.prog 35 [(.l enc_GValue p0)] [] (.own 0) [(Ar 44 4 enc_GValue r)] := by
 refine GCall.of_body (n := 19) (rs := [(.tmp 2)]) Try.func35 rfl rfl rfl <| Ato ⟨.l enc_GValue p0::tu 18 [], [], 0⟩ ?_
 have hm := h
 unfold m_telltalelaw06_Vals at hm
 refine Sx <| Wm (.d .nil) rfl <| Nk 1 0 ⟨.l enc_GValue p0::tp 18 [], [], 0⟩ <| Sx <| Wm (.d .nil) rfl <| Nk 9 0 ⟨.l enc_GValue p0::tp 2 (.d .nil::tp 15 []), [], 0⟩ <| Sq <| Sx <| Wm (.i 0) rfl <| Nk 25 0 ⟨.l enc_GValue p0::tp 2 (.d .nil::.i 0::tp 14 []), [], 0⟩ <| Bk <| Aow 3 44 4 ⟨.l enc_GValue p0::tp 2 (.own 0::.i 0::tp 14 []), [(Ar 44 4 enc_GValue ([] : List GValue))], 0⟩ ?_
 refine AWP.loopI (α := Nat × (List GValue) × Int)
   (fun (fu_0, y3_0, y4_0) => (⟨.l enc_GValue p0::tp 2 (.own 0::.i y4_0::tp 14 []), [(Ar 44 4 enc_GValue y3_0)], 0⟩ : St))
   (fun (fu_0, y3_0, y4_0) => m_telltalelaw06_Vals_l0 p0 fu_0 y3_0 y4_0 = some r)
   (fun (fu_0, y3_0, y4_0) => fu_0) (1152921504606846976, ([] : List GValue), 0)
   (Weak.toK 25 0 0 [0]) hm ?_
 rintro ⟨fu_0, y3_0, y4_0⟩ n_0 hm ih_0
 try dsimp only at hm ih_0 ⊢
 cases fu_0 with
 | zero => exact absurd hm (by unfold m_telltalelaw06_Vals_l0; simp)
 | succ fu_0 =>
  unfold m_telltalelaw06_Vals_l0 at hm
  refine Sq <| Sx <| Wm (.i y4_0) rfl <| Wm (.l enc_GValue p0) rfl <| Wz (.i ((List.length p0 : Nat) : Int)) (Oln rfl) <| Wz (.b (decide (y4_0 < ((List.length p0 : Nat) : Int)))) (Obn rfl (fun _ => hb_lss (k := .i64))) <| Nk 281 1 ⟨.l enc_GValue p0::tp 2 (.own 0::.i y4_0::tp 3 (.b (decide (y4_0 < ((List.length p0 : Nat) : Int)))::tp 10 [])), [(Ar 44 4 enc_GValue y3_0)], 0⟩ ?_
  rcases tf_ (decide (y4_0 < ((List.length p0 : Nat) : Int))) with hc8_3 | hc8_3
  ·
   replace hm := cT hc8_3 hm
   refine AiT hc8_3 <| Sk <| Tk 25 1 ⟨.l enc_GValue p0::tp 2 (.own 0::.i y4_0::tp 14 []), [(Ar 44 4 enc_GValue y3_0)], 0⟩ <| Sq <| Bk <| Tx <| Wm (.own 0) rfl <| Wm (.l enc_GValue p0) rfl <| Wm (.i y4_0) rfl ?_
   obtain ⟨x14_2, hx14_2, hm⟩ := bnd hm
   obtain ⟨hx14_2i, hx14_2g⟩ := geti_some hx14_2
   refine Wz (.d (.ref (List.drop ((Int.toNat y4_0) * 4) (flatD enc_GValue p0)))) (Oia rfl enc_GValue_len hx14_2i hx14_2g) <| Wz (.agg [(.y x14_2.Kind), (.i x14_2.N), (.u x14_2.Bits), (.s x14_2.Text)]) (Lf rfl enc_GValue_len hx14_2g) <| Wy (.own 1) [(1, (Ar 44 4 enc_GValue ([x14_2] : List GValue)))] (Obs rfl) ?_
   obtain ⟨a17_2, ha17_2, hm⟩ := bnd hm; obtain ⟨ha17_2e, ha17_2l⟩ := app_some ha17_2
   refine Wy (.own 2) [(0, .gone), (2, (Ar 44 4 enc_GValue a17_2))] (Oap rfl elemOK_32 enc_GValue_len ha17_2e ha17_2l) <| Wm (.own 2) rfl <| Wn0 <| Ino <| Tk 25 4 ⟨.l enc_GValue p0::tp 2 (.own 2::.i y4_0::tp 14 []), [.gone, .gone, (Ar 44 4 enc_GValue a17_2)], 0⟩ <| Tx <| Wm (.i y4_0) rfl <| Wz (.i (W6 (y4_0 + 1))) (Obn rfl (fun _ => hb_add (k := .i64))) <| Wm (.i (W6 (y4_0 + 1))) rfl <| Wn0 <| RoundK.normal ?_
   exact Rounds.weak (Weak.toK 25 0 0 [2]) (ih_0 (fu_0, a17_2, (W6 (y4_0 + 1))) hm (Nat.lt_succ_self _))
  ·
   replace hm := cF hc8_3 hm
   refine AiF hc8_3 <| AWP.exit <| Then.exit <| RoundK.exit <| InBlock.same <| Tk 8 1 ⟨tp 3 (.own 0::tp 15 []), [(Ar 44 4 enc_GValue y3_0)], 0⟩ <| Sx <| Wm (.own 0) rfl <| Wm (.own 0) rfl <| Nn <| Rt ?_
   obtain rfl := Option.some.inj hm
   exact ret_i [0]

theorem ok_telltalelaw07_Own (p0 : GEvent) (r : GEvent) (h : m_telltalelaw07_Own p0 = some r) : GCall Try.prog 11 [(.agg [(.i p0.Time), (.i p0.Source), (.i p0.Seq), (.s p0.Type_), (.l enc_GValue p0.Vals)])] [] (.agg [(.i r.Time), (.i r.Source), (.i r.Seq), (.s r.Type_), (.own 0)]) [(Ar 44 4 enc_GValue r.Vals)] := by
 refine GCall.of_body (n := 15) (rs := [(.cell 2 34)]) Try.func11 rfl rfl rfl <| Ato ⟨.agg [(.i p0.Time), (.i p0.Source), (.i p0.Seq), (.s p0.Type_), (.l enc_GValue p0.Vals)]::tu 14 [], [], 0⟩ ?_
 have hm := h
 unfold m_telltalelaw07_Own at hm
 refine Sx <| Wy (.loc 0 0) [(0, (.box [(.i p0.Time), (.i p0.Source), (.i p0.Seq), (.s p0.Type_), (.l enc_GValue p0.Vals)]))] (Obx rfl) <| Wy (.loc 1 0) [(1, (.box [(.i 0), (.i 0), (.i 0), (.s ([] : List UInt8)), (.d .nil)]))] (Oal rfl) <| Nk 6 3 ⟨tp 1 (.loc 0 0::.loc 1 0::tp 12 []), [(.box [(.i p0.Time), (.i p0.Source), (.i p0.Seq), (.s p0.Type_), (.l enc_GValue p0.Vals)]), (.box [(.i 0), (.i 0), (.i 0), (.s ([] : List UInt8)), (.d .nil)])], 0⟩ <| Sq <| Adr <| Wz (.loc 0 0) (Ofa rfl) <| Wz (.i p0.Time) (Old rfl) <| Wz (.loc 0 1) (Ofa rfl) <| Wz (.i p0.Source) (Old rfl) <| Wz (.loc 0 2) (Ofa rfl) <| Wz (.i p0.Seq) (Old rfl) <| Wz (.loc 0 3) (Ofa rfl) <| Wz (.s p0.Type_) (Old rfl) ?_
 refine Wz (.loc 0 4) (Ofa rfl) <| Wz (.l enc_GValue p0.Vals) (Old rfl) ?_
 obtain ⟨r13_0, hr13_0, hm⟩ := bnd hm
 refine Wy (.own 2) [(2, (Ar 44 4 enc_GValue r13_0))] (Ocf [] [2] [] 0 (ok_telltalelaw06_Vals p0.Vals r13_0 hr13_0) (fun a w => Try.call35 a w) rfl trivial) <| Wz (.agg [(.i p0.Time), (.i p0.Source), (.i p0.Seq), (.s p0.Type_), (.own 2)]) (Obd rfl) <| Wy (.tup []) [(1, (.box [(.i p0.Time), (.i p0.Source), (.i p0.Seq), (.s p0.Type_), (.own 2)]))] (Ost rfl) <| Wdr <| Tn <| Rt ?_
 obtain rfl := Option.some.inj hm
 exact ret_i [2]

theorem ok_slices_Equal_Value (p0 : (List GValue)) (p1 : (List GValue)) (r : Bool) (h : m_slices_Equal_Value p0 p1 = some r) : GCall Try.prog 61 [(.l enc_GValue p0), (.l enc_GValue p1)] [] (.b r) [] := by
 refine GCall.of_body (n := 26) (rs := [(.tmp 4)]) Try.func61 rfl rfl rfl <| Ato ⟨.l enc_GValue p0::.l enc_GValue p1::tu 24 [], [], 0⟩ ?_
 have hm := h
 unfold m_slices_Equal_Value at hm
 refine Sx <| Wm (.b false) rfl <| Nk 3 0 ⟨.l enc_GValue p0::.l enc_GValue p1::tp 24 [], [], 0⟩ <| Sq <| Sx <| Wm (.l enc_GValue p0) rfl <| Wz (.i ((List.length p0 : Nat) : Int)) (Oln rfl) <| Wm (.l enc_GValue p1) rfl <| Wz (.i ((List.length p1 : Nat) : Int)) (Oln rfl) <| Wz (.b (decide (((List.length p0 : Nat) : Int) ≠ ((List.length p1 : Nat) : Int)))) (Obn rfl (fun _ => hb_neq (k := .i64))) <| Nk 1027 0 ⟨.l enc_GValue p0::.l enc_GValue p1::tp 8 (.b (decide (((List.length p0 : Nat) : Int) ≠ ((List.length p1 : Nat) : Int)))::tp 15 []), [], 0⟩ ?_
 rcases tf_ (decide (((List.length p0 : Nat) : Int) ≠ ((List.length p1 : Nat) : Int))) with hc10_4 | hc10_4
 ·
  replace hm := cT hc10_4 hm
  refine AiT hc10_4 <| Sx <| Wm (.b false) rfl <| Nn <| Rt <| Tr ?_
  obtain rfl := Option.some.inj hm
  exact ret_i []
 ·
  replace hm := cF hc10_4 hm
  refine AiF hc10_4 <| Sk <| Tk 3 0 ⟨.l enc_GValue p0::.l enc_GValue p1::tp 24 [], [], 0⟩ <| Sq <| Sx <| Wm (.l enc_GValue p0) rfl <| Wz (.i ((List.length p0 : Nat) : Int)) (Oln rfl) <| Wm (.i 0) rfl <| Nk 12291 0 ⟨.l enc_GValue p0::.l enc_GValue p1::tp 10 (.i ((List.length p0 : Nat) : Int)::.i 0::tp 12 []), [], 0⟩ <| Bk ?_
  refine AWP.loopI (α := Nat × Int)
    (fun (fu_2, y13_2) => (⟨.l enc_GValue p0::.l enc_GValue p1::tp 10 (.i ((List.length p0 : Nat) : Int)::.i y13_2::tp 12 []), [], 0⟩ : St))
    (fun (fu_2, y13_2) => m_slices_Equal_Value_l2 p0 p1 fu_2 y13_2 = some r)
    (fun (fu_2, y13_2) => fu_2) (1152921504606846976, 0)
    (Weak.toK 12291 0 0 []) hm ?_
  rintro ⟨fu_2, y13_2⟩ n_2 hm ih_2
  try dsimp only at hm ih_2 ⊢
  cases fu_2 with
  | zero => exact absurd hm (by unfold m_slices_Equal_Value_l2; simp)
  | succ fu_2 =>
   unfold m_slices_Equal_Value_l2 at hm
   refine Sx <| Wz (.b (decide (y13_2 < ((List.length p0 : Nat) : Int)))) (Obn rfl (fun _ => hb_lss (k := .i64))) <| Nk 28675 0 ⟨.l enc_GValue p0::.l enc_GValue p1::tp 10 (.i ((List.length p0 : Nat) : Int)::.i y13_2::.b (decide (y13_2 < ((List.length p0 : Nat) : Int)))::tp 11 []), [], 0⟩ <| Sq ?_
   rcases tf_ (decide (y13_2 < ((List.length p0 : Nat) : Int))) with hc14_5 | hc14_5
   ·
    replace hm := cT hc14_5 hm
    refine AiT hc14_5 <| Sk <| Tk 12291 0 ⟨.l enc_GValue p0::.l enc_GValue p1::tp 10 (.i ((List.length p0 : Nat) : Int)::.i y13_2::tp 12 []), [], 0⟩ <| Sq <| Bk <| Sx <| Wm (.i y13_2) rfl <| Wm (.i y13_2) rfl <| Nk 12323 0 ⟨.l enc_GValue p0::.l enc_GValue p1::tp 3 (.i y13_2::tp 6 (.i ((List.length p0 : Nat) : Int)::.i y13_2::tp 12 [])), [], 0⟩ <| Sq <| Adr <| Wm (.l enc_GValue p0) rfl <| Wm (.i y13_2) rfl ?_
    obtain ⟨x18_3, hx18_3, hm⟩ := bnd hm
    obtain ⟨hx18_3i, hx18_3g⟩ := geti_some hx18_3
    refine Wz (.d (.ref (List.drop ((Int.toNat y13_2) * 4) (flatD enc_GValue p0)))) (Oia rfl enc_GValue_len hx18_3i hx18_3g) <| Wz (.agg [(.y x18_3.Kind), (.i x18_3.N), (.u x18_3.Bits), (.s x18_3.Text)]) (Lf rfl enc_GValue_len hx18_3g) <| Wm (.l enc_GValue p1) rfl <| Wm (.i y13_2) rfl ?_
    obtain ⟨x22_3, hx22_3, hm⟩ := bnd hm
    obtain ⟨hx22_3i, hx22_3g⟩ := geti_some hx22_3
    refine Wz (.d (.ref (List.drop ((Int.toNat y13_2) * 4) (flatD enc_GValue p1)))) (Oia rfl enc_GValue_len hx22_3i hx22_3g) <| Wz (.agg [(.y x22_3.Kind), (.i x22_3.N), (.u x22_3.Bits), (.s x22_3.Text)]) (Lf rfl enc_GValue_len hx22_3g) ?_
    obtain ⟨v24_3, hv24_3, hm⟩ := bnd hm; replace hv24_3 := Option.some.inj hv24_3
    refine Wz (.b v24_3) (Ocs (Eq.trans (lit_tf (by simp only [toS_inj])) (congrArg (fun z => A.d (.lit (.bool z))) hv24_3)) (op_neq_struct rfl (la := [(.y x18_3.Kind), (.i x18_3.N), (.u x18_3.Bits), (.s x18_3.Text)]) (lb := [(.y x22_3.Kind), (.i x22_3.N), (.u x22_3.Bits), (.s x22_3.Text)]) (us := [.int .u8 ((x18_3.Kind.toNat : Nat) : Int), .int .i64 x18_3.N, .int .u64 x18_3.Bits, .string (toS x18_3.Text)]) (vs := [.int .u8 ((x22_3.Kind.toNat : Nat) : Int), .int .i64 x22_3.N, .int .u64 x22_3.Bits, .string (toS x22_3.Text)]) (r := (decide (((x18_3.Kind.toNat : Nat) : Int) = ((x22_3.Kind.toNat : Nat) : Int)) && (decide (x18_3.N = x22_3.N) && (decide (x18_3.Bits = x22_3.Bits) && (decide ((toS x18_3.Text) = (toS x22_3.Text)) && true))))) (by kernel_rfl) (by kernel_rfl) (by kernel_rfl) (by kernel_rfl) (by kernel_rfl))) <| Wdr <| Tk 16789507 0 ⟨.l enc_GValue p0::.l enc_GValue p1::tp 10 (.i ((List.length p0 : Nat) : Int)::.i y13_2::tp 10 (.b v24_3::tp 1 [])), [], 0⟩ ?_
    rcases tf_ v24_3 with hc24_6 | hc24_6
    ·
     replace hm := cT hc24_6 hm
     refine AiT hc24_6 <| Sx <| Wm (.b false) rfl <| Nn <| Rt <| Ir <| Tr <| RoundK.ret <| Ir <| Tr ?_
     obtain rfl := Option.some.inj hm
     exact ret_i []
    ·
     replace hm := cF hc24_6 hm
     refine AiF hc24_6 <| Sk <| Ino <| Tk 12291 0 ⟨.l enc_GValue p0::.l enc_GValue p1::tp 10 (.i ((List.length p0 : Nat) : Int)::.i y13_2::tp 12 []), [], 0⟩ <| Tx <| Wz (.i (W6 (y13_2 + 1))) (Obn rfl (fun _ => hb_add (k := .i64))) <| Wm (.i (W6 (y13_2 + 1))) rfl <| Wn0 <| RoundK.normal ?_
     exact Rounds.weak (Weak.toK 12291 0 0 []) (ih_2 (fu_2, (W6 (y13_2 + 1))) hm (Nat.lt_succ_self _))
   ·
    replace hm := cF hc14_5 hm
    refine AiF hc14_5 <| AWP.exit <| Then.exit <| RoundK.exit <| InBlock.same <| Tk 0 0 ⟨tp 26 [], [], 0⟩ <| Sx <| Wm (.b true) rfl <| Nn <| Rt ?_
    obtain rfl := Option.some.inj hm
    exact ret_i []

theorem ok_event_Same (p0 : GEvent) (p1 : GEvent) (r : Bool) (h : m_event_Same p0 p1 = some r) : GCall Try.prog 32 [(.agg [(.i p0.Time), (.i p0.Source), (.i p0.Seq), (.s p0.Type_), (.l enc_GValue p0.Vals)]), (.agg [(.i p1.Time), (.i p1.Source), (.i p1.Seq), (.s p1.Type_), (.l enc_GValue p1.Vals)])] [] (.b r) [] := by
 refine GCall.of_body (n := 24) (rs := [(.tmp 4)]) Try.func32 rfl rfl rfl <| Ato ⟨.agg [(.i p0.Time), (.i p0.Source), (.i p0.Seq), (.s p0.Type_), (.l enc_GValue p0.Vals)]::.agg [(.i p1.Time), (.i p1.Source), (.i p1.Seq), (.s p1.Type_), (.l enc_GValue p1.Vals)]::tu 22 [], [], 0⟩ ?_
 have hm := h
 unfold m_event_Same at hm
 refine Sx <| Wy (.loc 0 0) [(0, (.box [(.i p0.Time), (.i p0.Source), (.i p0.Seq), (.s p0.Type_), (.l enc_GValue p0.Vals)]))] (Obx rfl) <| Wy (.loc 1 0) [(1, (.box [(.i p1.Time), (.i p1.Source), (.i p1.Seq), (.s p1.Type_), (.l enc_GValue p1.Vals)]))] (Obx rfl) <| Wm (.b false) rfl <| Nk 12 3 ⟨tp 2 (.loc 0 0::.loc 1 0::tp 20 []), [(.box [(.i p0.Time), (.i p0.Source), (.i p0.Seq), (.s p0.Type_), (.l enc_GValue p0.Vals)]), (.box [(.i p1.Time), (.i p1.Source), (.i p1.Seq), (.s p1.Type_), (.l enc_GValue p1.Vals)])], 0⟩ <| Sq <| Adr <| Wz (.agg [(.i p0.Time), (.i p0.Source), (.i p0.Seq), (.s p0.Type_), (.l enc_GValue p0.Vals)]) (Old rfl) ?_
 obtain ⟨r6_0, hr6_0, hm⟩ := bnd hm
 refine Wz (.agg [(.i r6_0.Time), (.i r6_0.Source), (.i r6_0.Seq)]) (Ocf [] [] [] 0 (ok_event_Event_ID p0 r6_0 hr6_0) (fun a w => Try.call29 a w) rfl trivial) <| Wz (.agg [(.i p1.Time), (.i p1.Source), (.i p1.Seq), (.s p1.Type_), (.l enc_GValue p1.Vals)]) (Old rfl) ?_
 obtain ⟨r8_0, hr8_0, hm⟩ := bnd hm
 refine Wz (.agg [(.i r8_0.Time), (.i r8_0.Source), (.i r8_0.Seq)]) (Ocf [] [] [] 0 (ok_event_Event_ID p1 r8_0 hr8_0) (fun a w => Try.call29 a w) rfl trivial) ?_
 obtain ⟨v9_0, hv9_0, hm⟩ := bnd hm; replace hv9_0 := Option.some.inj hv9_0
 refine Wz (.b v9_0) (Ocs (Eq.trans (by kernel_rfl) (congrArg (fun z => A.d (.lit (.bool z))) hv9_0)) (op_eql_struct rfl (la := [(.i r6_0.Time), (.i r6_0.Source), (.i r6_0.Seq)]) (lb := [(.i r8_0.Time), (.i r8_0.Source), (.i r8_0.Seq)]) (us := [.int .i64 r6_0.Time, .int .i64 r6_0.Source, .int .i64 r6_0.Seq]) (vs := [.int .i64 r8_0.Time, .int .i64 r8_0.Source, .int .i64 r8_0.Seq]) (r := (decide (r6_0.Time = r8_0.Time) && (decide (r6_0.Source = r8_0.Source) && (decide (r6_0.Seq = r8_0.Seq) && true)))) (by kernel_rfl) (by kernel_rfl) (by kernel_rfl) (by kernel_rfl) (by kernel_rfl))) ?_
 rcases tf_ v9_0 with hq10_0 | hq10_0
 ·
  replace hm := cT hq10_0 hm
  refine Wz (.b true) (Oq hq10_0 rfl) <| Wz (.loc 0 3) (Ofa rfl) <| Wz (.s p0.Type_) (Old rfl) <| Wz (.loc 1 3) (Ofa rfl) <| Wz (.s p1.Type_) (Old rfl) <| Wz (.b (decide (p0.Type_ = p1.Type_))) (Ocs (lit_tf (by simp only [toS_inj, ne_eq])) (op_bin rfl (a1 := .string (toS p0.Type_)) (a2 := .string (toS p1.Type_)) (by kernel_rfl) (by kernel_rfl) (fun _ => hb_seql))) <| Wz (.b (decide (p0.Type_ = p1.Type_))) (OpT rfl) ?_
  rcases tf_ (decide (p0.Type_ = p1.Type_)) with hq17_0 | hq17_0
  ·
   replace hm := cT hq17_0 hm
   refine Wz (.b true) (Oq hq17_0 rfl) <| Wz (.loc 0 4) (Ofa rfl) <| Wz (.l enc_GValue p0.Vals) (Old rfl) <| Wz (.loc 1 4) (Ofa rfl) <| Wz (.l enc_GValue p1.Vals) (Old rfl) ?_
   obtain ⟨r22_0, hr22_0, hm⟩ := bnd hm
   refine Wz (.b r22_0) (Ocf [] [] [] 0 (ok_slices_Equal_Value p0.Vals p1.Vals r22_0 hr22_0) (fun a w => Try.call61 a w) rfl trivial) <| Wz (.b r22_0) (OpT rfl) <| Wm (.b r22_0) rfl <| Wdr <| Tn <| Rt ?_
   obtain rfl := Option.some.inj hm
   exact ret_i []
  ·
   replace hm := cF hq17_0 hm
   refine Wz (.b false) (Oq hq17_0 rfl) <| Wn <| Wn <| Wn <| Wn <| Wn <| Wz (.b false) (OpF rfl) <| Wm (.b false) rfl <| Wdr <| Tn <| Rt ?_
   obtain rfl := Option.some.inj hm
   exact ret_i []
 ·
  replace hm := cF hq10_0 hm
  refine Wz (.b false) (Oq hq10_0 rfl) <| Wn <| Wn <| Wn <| Wn <| Wn <| Wz (.b false) (OpF rfl) <| Wm (.b false) rfl <| Wn <| Wn <| Wn <| Wn <| Wn <| Wz (.b false) (OpF rfl) ?_
  refine Wm (.b false) rfl <| Wdr <| Tn <| Rt ?_
  obtain rfl := Option.some.inj hm
  exact ret_i []

theorem ok_telltalelaw07_EventBack (p0 : (List GType)) (p1 : GArr2_GEvent) (p2 : (List UInt8)) (r : Bool) (h : m_telltalelaw07_EventBack p0 p1 p2 = some r) : GCall Try.prog 6 [(.l enc_GType p0), (.agg [(.i p1.a0.Time), (.i p1.a0.Source), (.i p1.a0.Seq), (.s p1.a0.Type_), (.l enc_GValue p1.a0.Vals), (.i p1.a1.Time), (.i p1.a1.Source), (.i p1.a1.Seq), (.s p1.a1.Type_), (.l enc_GValue p1.a1.Vals)]), (.s p2)] [] (.b r) [] := by
 refine GCall.of_body (n := 143) (rs := [(.tmp 6)]) Try.func6 rfl rfl rfl <| Ato ⟨.l enc_GType p0::.agg [(.i p1.a0.Time), (.i p1.a0.Source), (.i p1.a0.Seq), (.s p1.a0.Type_), (.l enc_GValue p1.a0.Vals), (.i p1.a1.Time), (.i p1.a1.Source), (.i p1.a1.Seq), (.s p1.a1.Type_), (.l enc_GValue p1.a1.Vals)]::.s p2::tu 140 [], [], 0⟩ ?_
 have hm := h
 unfold m_telltalelaw07_EventBack at hm
 refine Sx <| Wy (.loc 0 0) [(0, (.box [(.i p1.a0.Time), (.i p1.a0.Source), (.i p1.a0.Seq), (.s p1.a0.Type_), (.l enc_GValue p1.a0.Vals), (.i p1.a1.Time), (.i p1.a1.Source), (.i p1.a1.Seq), (.s p1.a1.Type_), (.l enc_GValue p1.a1.Vals)]))] (Obx rfl) <| Wm (.b false) rfl <| Nk 21 1 ⟨.l enc_GType p0::tp 1 (.s p2::tp 1 (.loc 0 0::tp 138 [])), [(.box [(.i p1.a0.Time), (.i p1.a0.Source), (.i p1.a0.Seq), (.s p1.a0.Type_), (.l enc_GValue p1.a0.Vals), (.i p1.a1.Time), (.i p1.a1.Source), (.i p1.a1.Seq), (.s p1.a1.Type_), (.l enc_GValue p1.a1.Vals)])], 0⟩ <| Sq ?_
 refine AWP.cutJ (α := Unit) (fun x => match x with | () => (⟨.l enc_GType p0::tp 1 (.s p2::tp 1 (.d (.ref [(.lit (.int .i64 p1.a0.Time)), (.lit (.int .i64 p1.a0.Source)), (.lit (.int .i64 p1.a0.Seq)), (.lit (.string (toS p1.a0.Type_))), (.sl (List.length p1.a0.Vals) (flatD enc_GValue p1.a0.Vals)), (.lit (.int .i64 p1.a1.Time)), (.lit (.int .i64 p1.a1.Source)), (.lit (.int .i64 p1.a1.Seq)), (.lit (.string (toS p1.a1.Type_))), (.sl (List.length p1.a1.Vals) (flatD enc_GValue p1.a1.Vals))])::tp 27 (.b true::tp 110 []))), [], 0⟩ : St)) (fun x => match x with | () => m_telltalelaw07_EventBack_j1  = some r) ?_ (fun J1 => ?_)
 ·
  rintro ⟨⟩ hm
  try dsimp only at hm ⊢
  unfold m_telltalelaw07_EventBack_j1 at hm
  refine AWP.if_ true (by kernel_rfl) <| Sx ?_
  obtain ⟨r33_2, hr33_2, hm⟩ := bnd hm
  refine Wz (.b r33_2) (Ocf [] [] [] 0 (ok_telltalelaw07_awake  r33_2 hr33_2) (fun a w => Try.call9 a w) rfl trivial) <| Wm (.b r33_2) rfl <| Nn <| Rt <| Tr ?_
  obtain rfl := Option.some.inj hm
  exact ret_i []
 refine Sq <| Afz [0] ⟨.l enc_GType p0::tp 1 (.s p2::tp 1 (.d (.ref [(.lit (.int .i64 p1.a0.Time)), (.lit (.int .i64 p1.a0.Source)), (.lit (.int .i64 p1.a0.Seq)), (.lit (.string (toS p1.a0.Type_))), (.sl (List.length p1.a0.Vals) (flatD enc_GValue p1.a0.Vals)), (.lit (.int .i64 p1.a1.Time)), (.lit (.int .i64 p1.a1.Source)), (.lit (.int .i64 p1.a1.Seq)), (.lit (.string (toS p1.a1.Type_))), (.sl (List.length p1.a1.Vals) (flatD enc_GValue p1.a1.Vals))])::tp 138 [])), [.gone], 0⟩ <| Tx <| Wm (.l enc_GType p0) rfl ?_
 obtain ⟨r21_0, hr21_0, hm⟩ := bnd hm
 refine Wz (.i r21_0) (Ocf [] [] [] 0 (ok_telltalelaw06_Over p0 r21_0 hr21_0) (fun a w => Try.call7 a w) rfl trivial) <| Wz (.b (decide ((0 : Int) < r21_0))) (Obn rfl (fun _ => hb_gtr (k := .i64))) ?_
 rcases tf_ (decide ((0 : Int) < r21_0)) with hq23_0 | hq23_0
 ·
  replace hm := cT hq23_0 hm
  refine Wz (.b true) (Oq hq23_0 rfl) <| Wn <| Wn <| Wn <| Wz (.b true) (OpT rfl) <| Wm (.b true) rfl <| Wn <| Wn <| Wn <| Wz (.b true) (OpT rfl) <| Nn ?_
  exact AWP.weak (Weak.toK 4294967317 0 0 []) (J1 () hm)
 ·
  replace hm := cF hq23_0 hm
  refine Wz (.b false) (Oq hq23_0 rfl) <| Wz (.l enc_GEvent ([p1.a0, p1.a1] : List GEvent)) (Ocs (by kernel_rfl) (Oas rfl (n := 2) (e := 25) (sz := 5) (ds := [(.lit (.int .i64 p1.a0.Time)), (.lit (.int .i64 p1.a0.Source)), (.lit (.int .i64 p1.a0.Seq)), (.lit (.string (toS p1.a0.Type_))), (.sl (List.length p1.a0.Vals) (flatD enc_GValue p1.a0.Vals)), (.lit (.int .i64 p1.a1.Time)), (.lit (.int .i64 p1.a1.Source)), (.lit (.int .i64 p1.a1.Seq)), (.lit (.string (toS p1.a1.Type_))), (.sl (List.length p1.a1.Vals) (flatD enc_GValue p1.a1.Vals))]) (by kernel_rfl) (by kernel_rfl) (by rfl))) ?_
  obtain ⟨r25_0, hr25_0, hm⟩ := bnd hm
  refine Wz (.i r25_0) (Ocf [] [] [] 0 (ok_telltalelaw07_Over ([p1.a0, p1.a1] : List GEvent) 2 r25_0 hr25_0) (fun a w => Try.call8 a w) rfl trivial) <| Wz (.b (decide ((0 : Int) < r25_0))) (Obn rfl (fun _ => hb_gtr (k := .i64))) <| Wz (.b (decide ((0 : Int) < r25_0))) (OpF rfl) ?_
  rcases tf_ (decide ((0 : Int) < r25_0)) with hq28_0 | hq28_0
  ·
   replace hm := cT hq28_0 hm
   refine Wz (.b true) (Oq hq28_0 rfl) <| Wn <| Wn <| Wn <| Wz (.b true) (OpT rfl) <| Nn ?_
   exact AWP.weak (Weak.toK 4294967317 0 0 []) (J1 () hm)
  ·
   replace hm := cF hq28_0 hm
   refine Wz (.b false) (Oq hq28_0 rfl) <| Wm (.s p2) rfl <| Wz (.i ((List.length p2 : Nat) : Int)) (Oln rfl) <| Wz (.b (decide ((100 : Int) < ((List.length p2 : Nat) : Int)))) (Obn rfl (fun _ => hb_gtr (k := .i64))) <| Wz (.b (decide ((100 : Int) < ((List.length p2 : Nat) : Int)))) (OpF rfl) <| Nk 4294967317 0 ⟨.l enc_GType p0::tp 1 (.s p2::tp 1 (.d (.ref [(.lit (.int .i64 p1.a0.Time)), (.lit (.int .i64 p1.a0.Source)), (.lit (.int .i64 p1.a0.Seq)), (.lit (.string (toS p1.a0.Type_))), (.sl (List.length p1.a0.Vals) (flatD enc_GValue p1.a0.Vals)), (.lit (.int .i64 p1.a1.Time)), (.lit (.int .i64 p1.a1.Source)), (.lit (.int .i64 p1.a1.Seq)), (.lit (.string (toS p1.a1.Type_))), (.sl (List.length p1.a1.Vals) (flatD enc_GValue p1.a1.Vals))])::tp 27 (.b (decide ((100 : Int) < ((List.length p2 : Nat) : Int)))::tp 110 []))), [.gone], 0⟩ ?_
   rcases tf_ (decide ((100 : Int) < ((List.length p2 : Nat) : Int))) with hc32_17 | hc32_17
   ·
    replace hm := cT hc32_17 hm
    refine AiT hc32_17 <| Sx ?_
    obtain ⟨r33_3, hr33_3, hm⟩ := bnd hm
    refine Wz (.b r33_3) (Ocf [] [] [] 0 (ok_telltalelaw07_awake  r33_3 hr33_3) (fun a w => Try.call9 a w) rfl trivial) <| Wm (.b r33_3) rfl <| Nn <| Rt <| Tr ?_
    obtain rfl := Option.some.inj hm
    exact ret_i []
   ·
    replace hm := cF hc32_17 hm
    refine AiF hc32_17 <| Sk <| Tk 21 0 ⟨.l enc_GType p0::tp 1 (.s p2::tp 1 (.d (.ref [(.lit (.int .i64 p1.a0.Time)), (.lit (.int .i64 p1.a0.Source)), (.lit (.int .i64 p1.a0.Seq)), (.lit (.string (toS p1.a0.Type_))), (.sl (List.length p1.a0.Vals) (flatD enc_GValue p1.a0.Vals)), (.lit (.int .i64 p1.a1.Time)), (.lit (.int .i64 p1.a1.Source)), (.lit (.int .i64 p1.a1.Seq)), (.lit (.string (toS p1.a1.Type_))), (.sl (List.length p1.a1.Vals) (flatD enc_GValue p1.a1.Vals))])::tp 138 [])), [.gone], 0⟩ <| Sx <| Wm (.l enc_GType p0) rfl ?_
    obtain ⟨r35_4, hr35_4, hm⟩ := bnd hm
    refine Wy (.own 1) [(1, (Ar 83 2 enc_GType r35_4))] (Ocf [] [1] [] 0 (ok_telltalelaw06_Own p0 r35_4 hr35_4) (fun a w => Try.call10 a w) rfl trivial) <| Wm (.own 1) rfl <| Nk 148 2 ⟨tp 2 (.s p2::tp 1 (.d (.ref [(.lit (.int .i64 p1.a0.Time)), (.lit (.int .i64 p1.a0.Source)), (.lit (.int .i64 p1.a0.Seq)), (.lit (.string (toS p1.a0.Type_))), (.sl (List.length p1.a0.Vals) (flatD enc_GValue p1.a0.Vals)), (.lit (.int .i64 p1.a1.Time)), (.lit (.int .i64 p1.a1.Source)), (.lit (.int .i64 p1.a1.Seq)), (.lit (.string (toS p1.a1.Type_))), (.sl (List.length p1.a1.Vals) (flatD enc_GValue p1.a1.Vals))])::tp 2 (.own 1::tp 135 []))), [.gone, (Ar 83 2 enc_GType r35_4)], 0⟩ <| Sx <| Wm (.own 1) rfl <| Wm (.s p2) rfl ?_
    obtain ⟨r39_5, hr39_5, hm⟩ := bnd hm
    refine Wy (.tup [(.agg [(.i r39_5.1.Time), (.i r39_5.1.Source), (.i r39_5.1.Seq), (.s r39_5.1.Type_), (.own 2)]), (.i r39_5.2.1), (.i r39_5.2.2)]) [(2, (Ar 44 4 enc_GValue r39_5.1.Vals))] (Ocp [] [2] [1] 0 (ok_event_Take r35_4 p2 0 r39_5 hr39_5) (⟨by simp [A.Plain, A.Plains, D.Plain, byteD], plain_cons (flat_plain enc_GValue_plain) (plain_nil)⟩) (fun a w => Try.call18 a w) rfl trivial) <| Wm (.tup [(.agg [(.i r39_5.1.Time), (.i r39_5.1.Source), (.i r39_5.1.Seq), (.s r39_5.1.Type_), (.own 2)]), (.i r39_5.2.1), (.i r39_5.2.2)]) rfl <| Wz (.agg [(.i r39_5.1.Time), (.i r39_5.1.Source), (.i r39_5.1.Seq), (.s r39_5.1.Type_), (.own 2)]) (Oex rfl) <| Wz (.i r39_5.2.1) (Oex rfl) <| Wz (.i r39_5.2.2) (Oex rfl) <| Wy (.loc 3 0) [(3, (.box [(.i 0), (.i 0), (.i 0), (.s ([] : List UInt8)), (.d .nil)]))] (Oal rfl) <| Wy (.tup []) [(3, (.box [(.i r39_5.1.Time), (.i r39_5.1.Source), (.i r39_5.1.Seq), (.s r39_5.1.Type_), (.own 2)]))] (Ost rfl) <| Wm (.i r39_5.2.1) rfl <| Wm (.i r39_5.2.2) rfl <| Nk 1940 14 ⟨tp 2 (.s p2::tp 1 (.d (.ref [(.lit (.int .i64 p1.a0.Time)), (.lit (.int .i64 p1.a0.Source)), (.lit (.int .i64 p1.a0.Seq)), (.lit (.string (toS p1.a0.Type_))), (.sl (List.length p1.a0.Vals) (flatD enc_GValue p1.a0.Vals)), (.lit (.int .i64 p1.a1.Time)), (.lit (.int .i64 p1.a1.Source)), (.lit (.int .i64 p1.a1.Seq)), (.lit (.string (toS p1.a1.Type_))), (.sl (List.length p1.a1.Vals) (flatD enc_GValue p1.a1.Vals))])::tp 2 (.own 1::.loc 3 0::.i r39_5.2.1::.i r39_5.2.2::tp 132 []))), [.gone, (Ar 83 2 enc_GType r35_4), (Ar 44 4 enc_GValue r39_5.1.Vals), (.box [(.i r39_5.1.Time), (.i r39_5.1.Source), (.i r39_5.1.Seq), (.s r39_5.1.Type_), (.own 2)])], 0⟩ ?_
    refine AWP.cutJ (α := Unit) (fun x => match x with | () => (⟨tp 2 (.s p2::tp 1 (.d (.ref [(.lit (.int .i64 p1.a0.Time)), (.lit (.int .i64 p1.a0.Source)), (.lit (.int .i64 p1.a0.Seq)), (.lit (.string (toS p1.a0.Type_))), (.sl (List.length p1.a0.Vals) (flatD enc_GValue p1.a0.Vals)), (.lit (.int .i64 p1.a1.Time)), (.lit (.int .i64 p1.a1.Source)), (.lit (.int .i64 p1.a1.Seq)), (.lit (.string (toS p1.a1.Type_))), (.sl (List.length p1.a1.Vals) (flatD enc_GValue p1.a1.Vals))])::tp 2 (.l enc_GType r35_4::tp 135 []))), [], 0⟩ : St)) (fun x => match x with | () => m_telltalelaw07_EventBack_j9 p1 p2 r35_4 = some r) ?_ (fun J9 => ?_)
    ·
     rintro ⟨⟩ hm
     try dsimp only at hm ⊢
     unfold m_telltalelaw07_EventBack_j9 at hm
     refine Sx <| Wm (.l enc_GType r35_4) rfl <| Wz (.d (.ref [(.lit (.int .i64 p1.a0.Time)), (.lit (.int .i64 p1.a0.Source)), (.lit (.int .i64 p1.a0.Seq)), (.lit (.string (toS p1.a0.Type_))), (.sl (List.length p1.a0.Vals) (flatD enc_GValue p1.a0.Vals)), (.lit (.int .i64 p1.a1.Time)), (.lit (.int .i64 p1.a1.Source)), (.lit (.int .i64 p1.a1.Seq)), (.lit (.string (toS p1.a1.Type_))), (.sl (List.length p1.a1.Vals) (flatD enc_GValue p1.a1.Vals))])) (Ocs (by kernel_rfl) (op_iaddr_arr rfl (n := 2) (sz := 5) (y := (.d (.ref [(.lit (.int .i64 p1.a0.Time)), (.lit (.int .i64 p1.a0.Source)), (.lit (.int .i64 p1.a0.Seq)), (.lit (.string (toS p1.a0.Type_))), (.sl (List.length p1.a0.Vals) (flatD enc_GValue p1.a0.Vals)), (.lit (.int .i64 p1.a1.Time)), (.lit (.int .i64 p1.a1.Source)), (.lit (.int .i64 p1.a1.Seq)), (.lit (.string (toS p1.a1.Type_))), (.sl (List.length p1.a1.Vals) (flatD enc_GValue p1.a1.Vals))]))) (by kernel_rfl) (by kernel_rfl) (by kernel_rfl) (k := .i64) (iv := 0) (by kernel_rfl) (i := 0) (by rfl) (by decide))) <| Wz (.agg [(.i p1.a0.Time), (.i p1.a0.Source), (.i p1.a0.Seq), (.s p1.a0.Type_), (.l enc_GValue p1.a0.Vals)]) (Old rfl) ?_
     obtain ⟨r81_10, hr81_10, hm⟩ := bnd hm
     refine Wy (.agg [(.i r81_10.Time), (.i r81_10.Source), (.i r81_10.Seq), (.s r81_10.Type_), (.own 0)]) [(0, (Ar 44 4 enc_GValue r81_10.Vals))] (Ocf [] [0] [] 0 (ok_telltalelaw07_Own p1.a0 r81_10 hr81_10) (fun a w => Try.call11 a w) rfl trivial) ?_
     obtain ⟨r82_10, hr82_10, hm⟩ := bnd hm
     refine Wy (.tup [(.l encU8 r82_10.1), (.i r82_10.2)]) [(0, (.fro 44 4 (List.length r81_10.Vals) (flatD enc_GValue r81_10.Vals)))] (Ocf [] [] [0] 0 (ok_event_Put ([] : List UInt8) r35_4 r81_10 r82_10 hr82_10) (fun a w => Try.call12 a w) rfl trivial) <| Wm (.tup [(.l encU8 r82_10.1), (.i r82_10.2)]) rfl <| Wz (.l encU8 r82_10.1) (Oex rfl) <| Wz (.i r82_10.2) (Oex rfl) <| Wm (.l encU8 r82_10.1) rfl <| Wm (.i r82_10.2) rfl <| Nk 24724 0 ⟨tp 2 (.s p2::tp 1 (.d (.ref [(.lit (.int .i64 p1.a0.Time)), (.lit (.int .i64 p1.a0.Source)), (.lit (.int .i64 p1.a0.Seq)), (.lit (.string (toS p1.a0.Type_))), (.sl (List.length p1.a0.Vals) (flatD enc_GValue p1.a0.Vals)), (.lit (.int .i64 p1.a1.Time)), (.lit (.int .i64 p1.a1.Source)), (.lit (.int .i64 p1.a1.Seq)), (.lit (.string (toS p1.a1.Type_))), (.sl (List.length p1.a1.Vals) (flatD enc_GValue p1.a1.Vals))])::tp 2 (.l enc_GType r35_4::tp 5 (.l encU8 r82_10.1::.i r82_10.2::tp 128 [])))), [.gone], 0⟩ <| Sx <| Wm (.l enc_GType r35_4) rfl <| Wz (.d (.ref (List.drop 5 [(.lit (.int .i64 p1.a0.Time)), (.lit (.int .i64 p1.a0.Source)), (.lit (.int .i64 p1.a0.Seq)), (.lit (.string (toS p1.a0.Type_))), (.sl (List.length p1.a0.Vals) (flatD enc_GValue p1.a0.Vals)), (.lit (.int .i64 p1.a1.Time)), (.lit (.int .i64 p1.a1.Source)), (.lit (.int .i64 p1.a1.Seq)), (.lit (.string (toS p1.a1.Type_))), (.sl (List.length p1.a1.Vals) (flatD enc_GValue p1.a1.Vals))]))) (Ocs (by kernel_rfl) (op_iaddr_arr rfl (n := 2) (sz := 5) (y := (.d (.ref [(.lit (.int .i64 p1.a0.Time)), (.lit (.int .i64 p1.a0.Source)), (.lit (.int .i64 p1.a0.Seq)), (.lit (.string (toS p1.a0.Type_))), (.sl (List.length p1.a0.Vals) (flatD enc_GValue p1.a0.Vals)), (.lit (.int .i64 p1.a1.Time)), (.lit (.int .i64 p1.a1.Source)), (.lit (.int .i64 p1.a1.Seq)), (.lit (.string (toS p1.a1.Type_))), (.sl (List.length p1.a1.Vals) (flatD enc_GValue p1.a1.Vals))]))) (by kernel_rfl) (by kernel_rfl) (by kernel_rfl) (k := .i64) (iv := 1) (by kernel_rfl) (i := 1) (by rfl) (by decide))) <| Wz (.agg [(.i p1.a1.Time), (.i p1.a1.Source), (.i p1.a1.Seq), (.s p1.a1.Type_), (.l enc_GValue p1.a1.Vals)]) (Old rfl) ?_
     obtain ⟨r89_11, hr89_11, hm⟩ := bnd hm
     refine Wy (.agg [(.i r89_11.Time), (.i r89_11.Source), (.i r89_11.Seq), (.s r89_11.Type_), (.own 1)]) [(1, (Ar 44 4 enc_GValue r89_11.Vals))] (Ocf [] [1] [] 0 (ok_telltalelaw07_Own p1.a1 r89_11 hr89_11) (fun a w => Try.call11 a w) rfl trivial) ?_
     obtain ⟨r90_11, hr90_11, hm⟩ := bnd hm
     refine Wy (.tup [(.l encU8 r90_11.1), (.i r90_11.2)]) [(1, (.fro 44 4 (List.length r89_11.Vals) (flatD enc_GValue r89_11.Vals)))] (Ocf [] [] [1] 0 (ok_event_Put ([] : List UInt8) r35_4 r89_11 r90_11 hr90_11) (fun a w => Try.call12 a w) rfl trivial) <| Wm (.tup [(.l encU8 r90_11.1), (.i r90_11.2)]) rfl <| Wz (.l encU8 r90_11.1) (Oex rfl) <| Wz (.i r90_11.2) (Oex rfl) <| Wm (.l encU8 r90_11.1) rfl <| Wm (.i r90_11.2) rfl <| Nk 123028 0 ⟨tp 2 (.s p2::tp 1 (.d (.ref [(.lit (.int .i64 p1.a0.Time)), (.lit (.int .i64 p1.a0.Source)), (.lit (.int .i64 p1.a0.Seq)), (.lit (.string (toS p1.a0.Type_))), (.sl (List.length p1.a0.Vals) (flatD enc_GValue p1.a0.Vals)), (.lit (.int .i64 p1.a1.Time)), (.lit (.int .i64 p1.a1.Source)), (.lit (.int .i64 p1.a1.Seq)), (.lit (.string (toS p1.a1.Type_))), (.sl (List.length p1.a1.Vals) (flatD enc_GValue p1.a1.Vals))])::tp 2 (.l enc_GType r35_4::tp 5 (.l encU8 r82_10.1::.i r82_10.2::.l encU8 r90_11.1::.i r90_11.2::tp 126 [])))), [.gone, .gone], 0⟩ <| Sq <| Sx <| Wm (.i r82_10.2) rfl <| Wz (.b (decide (r82_10.2 ≠ 0))) (Obn rfl (fun _ => hb_neq (k := .i64))) ?_
     rcases tf_ (decide (r82_10.2 ≠ 0)) with hq95_12 | hq95_12
     ·
      replace hm := cT hq95_12 hm
      refine Wz (.b true) (Oq hq95_12 rfl) <| Wn <| Wn <| Wz (.b true) (OpT rfl) <| Nk 316912650057057350374175842452 0 ⟨tp 2 (.s p2::tp 1 (.d (.ref [(.lit (.int .i64 p1.a0.Time)), (.lit (.int .i64 p1.a0.Source)), (.lit (.int .i64 p1.a0.Seq)), (.lit (.string (toS p1.a0.Type_))), (.sl (List.length p1.a0.Vals) (flatD enc_GValue p1.a0.Vals)), (.lit (.int .i64 p1.a1.Time)), (.lit (.int .i64 p1.a1.Source)), (.lit (.int .i64 p1.a1.Seq)), (.lit (.string (toS p1.a1.Type_))), (.sl (List.length p1.a1.Vals) (flatD enc_GValue p1.a1.Vals))])::tp 2 (.l enc_GType r35_4::tp 5 (.l encU8 r82_10.1::tp 1 (.l encU8 r90_11.1::tp 82 (.b true::tp 44 [])))))), [.gone, .gone], 0⟩ <| AWP.if_ true (by kernel_rfl) <| Sx ?_
      obtain ⟨r99_13, hr99_13, hm⟩ := bnd hm
      refine Wz (.b r99_13) (Ocf [] [] [] 0 (ok_telltalelaw07_awake  r99_13 hr99_13) (fun a w => Try.call9 a w) rfl trivial) <| Wm (.b r99_13) rfl <| Nn <| Rt <| Tr ?_
      obtain rfl := Option.some.inj hm
      exact ret_i []
     ·
      replace hm := cF hq95_12 hm
      refine Wz (.b false) (Oq hq95_12 rfl) <| Wm (.i r90_11.2) rfl <| Wz (.b (decide (r90_11.2 ≠ 0))) (Obn rfl (fun _ => hb_neq (k := .i64))) <| Wz (.b (decide (r90_11.2 ≠ 0))) (OpF rfl) <| Nk 316912650057057350374175842452 0 ⟨tp 2 (.s p2::tp 1 (.d (.ref [(.lit (.int .i64 p1.a0.Time)), (.lit (.int .i64 p1.a0.Source)), (.lit (.int .i64 p1.a0.Seq)), (.lit (.string (toS p1.a0.Type_))), (.sl (List.length p1.a0.Vals) (flatD enc_GValue p1.a0.Vals)), (.lit (.int .i64 p1.a1.Time)), (.lit (.int .i64 p1.a1.Source)), (.lit (.int .i64 p1.a1.Seq)), (.lit (.string (toS p1.a1.Type_))), (.sl (List.length p1.a1.Vals) (flatD enc_GValue p1.a1.Vals))])::tp 2 (.l enc_GType r35_4::tp 5 (.l encU8 r82_10.1::tp 1 (.l encU8 r90_11.1::tp 82 (.b (decide (r90_11.2 ≠ 0))::tp 44 [])))))), [.gone, .gone], 0⟩ ?_
      rcases tf_ (decide (r90_11.2 ≠ 0)) with hc98_18 | hc98_18
      ·
       replace hm := cT hc98_18 hm
       refine AiT hc98_18 <| Sx ?_
       obtain ⟨r99_14, hr99_14, hm⟩ := bnd hm
       refine Wz (.b r99_14) (Ocf [] [] [] 0 (ok_telltalelaw07_awake  r99_14 hr99_14) (fun a w => Try.call9 a w) rfl trivial) <| Wm (.b r99_14) rfl <| Nn <| Rt <| Tr ?_
       obtain rfl := Option.some.inj hm
       exact ret_i []
      ·
       replace hm := cF hc98_18 hm
       refine AiF hc98_18 <| Sk <| Tk 41108 0 ⟨tp 2 (.s p2::tp 1 (.d (.ref [(.lit (.int .i64 p1.a0.Time)), (.lit (.int .i64 p1.a0.Source)), (.lit (.int .i64 p1.a0.Seq)), (.lit (.string (toS p1.a0.Type_))), (.sl (List.length p1.a0.Vals) (flatD enc_GValue p1.a0.Vals)), (.lit (.int .i64 p1.a1.Time)), (.lit (.int .i64 p1.a1.Source)), (.lit (.int .i64 p1.a1.Seq)), (.lit (.string (toS p1.a1.Type_))), (.sl (List.length p1.a1.Vals) (flatD enc_GValue p1.a1.Vals))])::tp 2 (.l enc_GType r35_4::tp 5 (.l encU8 r82_10.1::tp 1 (.l encU8 r90_11.1::tp 127 []))))), [.gone, .gone], 0⟩ <| Sx <| Wm (.l enc_GType r35_4) rfl <| Wm (.l encU8 r82_10.1) rfl <| Wz (.s r82_10.1) (Ocs (by kernel_rfl) (op_str rfl (e := 5) (by kernel_rfl) (by kernel_rfl) (by kernel_rfl) (y := (.l encU8 r82_10.1)) (by kernel_rfl) (ds := flatD encU8 r82_10.1) (off := 0) (n := List.length r82_10.1) (by kernel_rfl) (l := r82_10.1) flatU8_take rfl)) <| Wm (.s p2) rfl ?_
       obtain ⟨t105_15, ht105_15, hm⟩ := bnd hm; obtain ⟨ht105_15e, ht105_15l⟩ := app_some ht105_15
       refine Wz (.s t105_15) (op_bin rfl (a1 := .string (toS r82_10.1)) (a2 := .string (toS p2)) (by kernel_rfl) (by kernel_rfl) (fun _ => hb_sadd ht105_15e ht105_15l)) ?_
       obtain ⟨r106_15, hr106_15, hm⟩ := bnd hm
       refine Wy (.tup [(.agg [(.i r106_15.1.Time), (.i r106_15.1.Source), (.i r106_15.1.Seq), (.s r106_15.1.Type_), (.own 2)]), (.i r106_15.2.1), (.i r106_15.2.2)]) [(2, (Ar 44 4 enc_GValue r106_15.1.Vals))] (Ocf [] [2] [] 0 (ok_event_Take r35_4 t105_15 0 r106_15 hr106_15) (fun a w => Try.call18 a w) rfl trivial) <| Wm (.tup [(.agg [(.i r106_15.1.Time), (.i r106_15.1.Source), (.i r106_15.1.Seq), (.s r106_15.1.Type_), (.own 2)]), (.i r106_15.2.1), (.i r106_15.2.2)]) rfl <| Wz (.agg [(.i r106_15.1.Time), (.i r106_15.1.Source), (.i r106_15.1.Seq), (.s r106_15.1.Type_), (.own 2)]) (Oex rfl) <| Wz (.i r106_15.2.1) (Oex rfl) <| Wz (.i r106_15.2.2) (Oex rfl) <| Wy (.loc 3 0) [(3, (.box [(.i 0), (.i 0), (.i 0), (.s ([] : List UInt8)), (.d .nil)]))] (Oal rfl) <| Wy (.tup []) [(3, (.box [(.i r106_15.1.Time), (.i r106_15.1.Source), (.i r106_15.1.Seq), (.s r106_15.1.Type_), (.own 2)]))] (Ost rfl) <| Wm (.i r106_15.2.1) rfl <| Wm (.i r106_15.2.2) rfl <| Nk 958480 12 ⟨tp 4 (.d (.ref [(.lit (.int .i64 p1.a0.Time)), (.lit (.int .i64 p1.a0.Source)), (.lit (.int .i64 p1.a0.Seq)), (.lit (.string (toS p1.a0.Type_))), (.sl (List.length p1.a0.Vals) (flatD enc_GValue p1.a0.Vals)), (.lit (.int .i64 p1.a1.Time)), (.lit (.int .i64 p1.a1.Source)), (.lit (.int .i64 p1.a1.Seq)), (.lit (.string (toS p1.a1.Type_))), (.sl (List.length p1.a1.Vals) (flatD enc_GValue p1.a1.Vals))])::tp 8 (.l encU8 r82_10.1::tp 1 (.l encU8 r90_11.1::tp 1 (.loc 3 0::.i r106_15.2.1::.i r106_15.2.2::tp 123 [])))), [.gone, .gone, (Ar 44 4 enc_GValue r106_15.1.Vals), (.box [(.i r106_15.1.Time), (.i r106_15.1.Source), (.i r106_15.1.Seq), (.s r106_15.1.Type_), (.own 2)])], 0⟩ <| Sq <| Adr <| Wm (.i r106_15.2.2) rfl <| Wz (.b (decide (r106_15.2.2 = 0))) (Obn rfl (fun _ => hb_eql (k := .i64))) ?_
       rcases tf_ (decide (r106_15.2.2 = 0)) with hq112_16 | hq112_16
       ·
        replace hm := cT hq112_16 hm
        refine Wz (.b true) (Oq hq112_16 rfl) <| Wz (.agg [(.i r106_15.1.Time), (.i r106_15.1.Source), (.i r106_15.1.Seq), (.s r106_15.1.Type_), (.own 2)]) (Old rfl) <| Wz (.d (.ref [(.lit (.int .i64 p1.a0.Time)), (.lit (.int .i64 p1.a0.Source)), (.lit (.int .i64 p1.a0.Seq)), (.lit (.string (toS p1.a0.Type_))), (.sl (List.length p1.a0.Vals) (flatD enc_GValue p1.a0.Vals)), (.lit (.int .i64 p1.a1.Time)), (.lit (.int .i64 p1.a1.Source)), (.lit (.int .i64 p1.a1.Seq)), (.lit (.string (toS p1.a1.Type_))), (.sl (List.length p1.a1.Vals) (flatD enc_GValue p1.a1.Vals))])) (Ocs (by kernel_rfl) (op_iaddr_arr rfl (n := 2) (sz := 5) (y := (.d (.ref [(.lit (.int .i64 p1.a0.Time)), (.lit (.int .i64 p1.a0.Source)), (.lit (.int .i64 p1.a0.Seq)), (.lit (.string (toS p1.a0.Type_))), (.sl (List.length p1.a0.Vals) (flatD enc_GValue p1.a0.Vals)), (.lit (.int .i64 p1.a1.Time)), (.lit (.int .i64 p1.a1.Source)), (.lit (.int .i64 p1.a1.Seq)), (.lit (.string (toS p1.a1.Type_))), (.sl (List.length p1.a1.Vals) (flatD enc_GValue p1.a1.Vals))]))) (by kernel_rfl) (by kernel_rfl) (by kernel_rfl) (k := .i64) (iv := 0) (by kernel_rfl) (i := 0) (by rfl) (by decide))) <| Wz (.agg [(.i p1.a0.Time), (.i p1.a0.Source), (.i p1.a0.Seq), (.s p1.a0.Type_), (.l enc_GValue p1.a0.Vals)]) (Old rfl) ?_
        obtain ⟨r116_16, hr116_16, hm⟩ := bnd hm
        refine Wy (.agg [(.i r116_16.Time), (.i r116_16.Source), (.i r116_16.Seq), (.s r116_16.Type_), (.own 4)]) [(4, (Ar 44 4 enc_GValue r116_16.Vals))] (Ocf [] [4] [] 0 (ok_telltalelaw07_Own p1.a0 r116_16 hr116_16) (fun a w => Try.call11 a w) rfl trivial) ?_
        obtain ⟨r117_16, hr117_16, hm⟩ := bnd hm
        refine Wz (.b r117_16) (Ocp [] [] [2, 4] 0 (ok_event_Same r106_15.1 r116_16 r117_16 hr117_16) (plain_triv (by simp [A.Plain, A.Plains, D.Plain, byteD])) (fun a w => Try.call32 a w) rfl trivial) <| Wz (.b r117_16) (OpT rfl) ?_
        rcases tf_ r117_16 with hq119_16 | hq119_16
        ·
         replace hm := cT hq119_16 hm
         refine Wz (.b true) (Oq hq119_16 rfl) <| Wm (.i r106_15.2.1) rfl <| Wm (.l encU8 r82_10.1) rfl <| Wz (.i ((List.length r82_10.1 : Nat) : Int)) (Oln rfl) <| Wz (.b (decide (r106_15.2.1 = ((List.length r82_10.1 : Nat) : Int)))) (Obn rfl (fun _ => hb_eql (k := .i64))) <| Wz (.b (decide (r106_15.2.1 = ((List.length r82_10.1 : Nat) : Int)))) (OpT rfl) ?_
         rcases tf_ (decide (r106_15.2.1 = ((List.length r82_10.1 : Nat) : Int))) with hq125_16 | hq125_16
         ·
          replace hm := cT hq125_16 hm
          refine Wz (.b true) (Oq hq125_16 rfl) <| Wm (.l encU8 r82_10.1) rfl <| Wz (.s r82_10.1) (Ocs (by kernel_rfl) (op_str rfl (e := 5) (by kernel_rfl) (by kernel_rfl) (by kernel_rfl) (y := (.l encU8 r82_10.1)) (by kernel_rfl) (ds := flatD encU8 r82_10.1) (off := 0) (n := List.length r82_10.1) (by kernel_rfl) (l := r82_10.1) flatU8_take rfl)) <| Wm (.l encU8 r90_11.1) rfl <| Wz (.s r90_11.1) (Ocs (by kernel_rfl) (op_str rfl (e := 5) (by kernel_rfl) (by kernel_rfl) (by kernel_rfl) (y := (.l encU8 r90_11.1)) (by kernel_rfl) (ds := flatD encU8 r90_11.1) (off := 0) (n := List.length r90_11.1) (by kernel_rfl) (l := r90_11.1) flatU8_take rfl)) <| Wz (.b (decide (r82_10.1 = r90_11.1))) (Ocs (lit_tf (by simp only [toS_inj, ne_eq])) (op_bin rfl (a1 := .string (toS r82_10.1)) (a2 := .string (toS r90_11.1)) (by kernel_rfl) (by kernel_rfl) (fun _ => hb_seql))) <| Wz (.d (.ref [(.lit (.int .i64 p1.a0.Time)), (.lit (.int .i64 p1.a0.Source)), (.lit (.int .i64 p1.a0.Seq)), (.lit (.string (toS p1.a0.Type_))), (.sl (List.length p1.a0.Vals) (flatD enc_GValue p1.a0.Vals)), (.lit (.int .i64 p1.a1.Time)), (.lit (.int .i64 p1.a1.Source)), (.lit (.int .i64 p1.a1.Seq)), (.lit (.string (toS p1.a1.Type_))), (.sl (List.length p1.a1.Vals) (flatD enc_GValue p1.a1.Vals))])) (Ocs (by kernel_rfl) (op_iaddr_arr rfl (n := 2) (sz := 5) (y := (.d (.ref [(.lit (.int .i64 p1.a0.Time)), (.lit (.int .i64 p1.a0.Source)), (.lit (.int .i64 p1.a0.Seq)), (.lit (.string (toS p1.a0.Type_))), (.sl (List.length p1.a0.Vals) (flatD enc_GValue p1.a0.Vals)), (.lit (.int .i64 p1.a1.Time)), (.lit (.int .i64 p1.a1.Source)), (.lit (.int .i64 p1.a1.Seq)), (.lit (.string (toS p1.a1.Type_))), (.sl (List.length p1.a1.Vals) (flatD enc_GValue p1.a1.Vals))]))) (by kernel_rfl) (by kernel_rfl) (by kernel_rfl) (k := .i64) (iv := 0) (by kernel_rfl) (i := 0) (by rfl) (by decide))) <| Wz (.agg [(.i p1.a0.Time), (.i p1.a0.Source), (.i p1.a0.Seq), (.s p1.a0.Type_), (.l enc_GValue p1.a0.Vals)]) (Old rfl) ?_
          obtain ⟨r133_16, hr133_16, hm⟩ := bnd hm
          refine Wy (.agg [(.i r133_16.Time), (.i r133_16.Source), (.i r133_16.Seq), (.s r133_16.Type_), (.own 5)]) [(5, (Ar 44 4 enc_GValue r133_16.Vals))] (Ocf [] [5] [] 0 (ok_telltalelaw07_Own p1.a0 r133_16 hr133_16) (fun a w => Try.call11 a w) rfl trivial) <| Wz (.d (.ref (List.drop 5 [(.lit (.int .i64 p1.a0.Time)), (.lit (.int .i64 p1.a0.Source)), (.lit (.int .i64 p1.a0.Seq)), (.lit (.string (toS p1.a0.Type_))), (.sl (List.length p1.a0.Vals) (flatD enc_GValue p1.a0.Vals)), (.lit (.int .i64 p1.a1.Time)), (.lit (.int .i64 p1.a1.Source)), (.lit (.int .i64 p1.a1.Seq)), (.lit (.string (toS p1.a1.Type_))), (.sl (List.length p1.a1.Vals) (flatD enc_GValue p1.a1.Vals))]))) (Ocs (by kernel_rfl) (op_iaddr_arr rfl (n := 2) (sz := 5) (y := (.d (.ref [(.lit (.int .i64 p1.a0.Time)), (.lit (.int .i64 p1.a0.Source)), (.lit (.int .i64 p1.a0.Seq)), (.lit (.string (toS p1.a0.Type_))), (.sl (List.length p1.a0.Vals) (flatD enc_GValue p1.a0.Vals)), (.lit (.int .i64 p1.a1.Time)), (.lit (.int .i64 p1.a1.Source)), (.lit (.int .i64 p1.a1.Seq)), (.lit (.string (toS p1.a1.Type_))), (.sl (List.length p1.a1.Vals) (flatD enc_GValue p1.a1.Vals))]))) (by kernel_rfl) (by kernel_rfl) (by kernel_rfl) (k := .i64) (iv := 1) (by kernel_rfl) (i := 1) (by rfl) (by decide))) <| Wz (.agg [(.i p1.a1.Time), (.i p1.a1.Source), (.i p1.a1.Seq), (.s p1.a1.Type_), (.l enc_GValue p1.a1.Vals)]) (Old rfl) ?_
          obtain ⟨r136_16, hr136_16, hm⟩ := bnd hm
          refine Wy (.agg [(.i r136_16.Time), (.i r136_16.Source), (.i r136_16.Seq), (.s r136_16.Type_), (.own 6)]) [(6, (Ar 44 4 enc_GValue r136_16.Vals))] (Ocf [] [6] [] 0 (ok_telltalelaw07_Own p1.a1 r136_16 hr136_16) (fun a w => Try.call11 a w) rfl trivial) ?_
          obtain ⟨r137_16, hr137_16, hm⟩ := bnd hm
          refine Wz (.b r137_16) (Ocp [] [] [5, 6] 0 (ok_event_Same r133_16 r136_16 r137_16 hr137_16) (plain_triv (by simp [A.Plain, A.Plains, D.Plain, byteD])) (fun a w => Try.call32 a w) rfl trivial) <| Wz (.b (decide (decide (r82_10.1 = r90_11.1) = r137_16))) (Ob2 (.bool (decide (r82_10.1 = r90_11.1))) (.bool r137_16) rfl (fun _ => hb_beql (by kernel_rfl))) <| Wz (.b (decide (decide (r82_10.1 = r90_11.1) = r137_16))) (OpT rfl) ?_
          rcases tf_ (decide (decide (r82_10.1 = r90_11.1) = r137_16)) with hq140_16 | hq140_16
          ·
           replace hm := cT hq140_16 hm
           refine Wz (.b true) (Oq hq140_16 rfl) ?_
           obtain ⟨r141_16, hr141_16, hm⟩ := bnd hm
           refine Wz (.b r141_16) (Ocf [] [] [] 0 (ok_telltalelaw07_awake  r141_16 hr141_16) (fun a w => Try.call9 a w) rfl trivial) <| Wz (.b r141_16) (OpT rfl) <| Wm (.b r141_16) rfl <| Wdr <| Tn <| Rt ?_
           obtain rfl := Option.some.inj hm
           exact ret_i []
          ·
           replace hm := cF hq140_16 hm
           refine Wz (.b false) (Oq hq140_16 rfl) <| Wn <| Wz (.b false) (OpF rfl) <| Wm (.b false) rfl <| Wdr <| Tn <| Rt ?_
           obtain rfl := Option.some.inj hm
           exact ret_i []
         ·
          replace hm := cF hq125_16 hm
          refine Wz (.b false) (Oq hq125_16 rfl) <| Wn <| Wn <| Wn <| Wn <| Wn <| Wn <| Wn <| Wn <| Wn <| Wn <| Wn <| Wn <| Wn ?_
          refine Wz (.b false) (OpF rfl) <| Wm (.b false) rfl <| Wn <| Wz (.b false) (OpF rfl) <| Wm (.b false) rfl <| Wdr <| Tn <| Rt ?_
          obtain rfl := Option.some.inj hm
          exact ret_i []
        ·
         replace hm := cF hq119_16 hm
         refine Wz (.b false) (Oq hq119_16 rfl) <| Wn <| Wn <| Wn <| Wn <| Wz (.b false) (OpF rfl) <| Wm (.b false) rfl <| Wn <| Wn <| Wn <| Wn <| Wn <| Wn <| Wn ?_
         refine Wn <| Wn <| Wn <| Wn <| Wn <| Wn <| Wz (.b false) (OpF rfl) <| Wm (.b false) rfl <| Wn <| Wz (.b false) (OpF rfl) <| Wm (.b false) rfl <| Wdr <| Tn <| Rt ?_
         obtain rfl := Option.some.inj hm
         exact ret_i []
       ·
        replace hm := cF hq112_16 hm
        refine Wz (.b false) (Oq hq112_16 rfl) <| Wn <| Wn <| Wn <| Wn <| Wn <| Wz (.b false) (OpF rfl) <| Wm (.b false) rfl <| Wn <| Wn <| Wn <| Wn <| Wz (.b false) (OpF rfl) <| Wm (.b false) rfl ?_
        refine Wn <| Wn <| Wn <| Wn <| Wn <| Wn <| Wn <| Wn <| Wn <| Wn <| Wn <| Wn <| Wn <| Wz (.b false) (OpF rfl) ?_
        refine Wm (.b false) rfl <| Wn <| Wz (.b false) (OpF rfl) <| Wm (.b false) rfl <| Wdr <| Tn <| Rt ?_
        obtain rfl := Option.some.inj hm
        exact ret_i []
    refine Sq <| Sx <| Wm (.i r39_5.2.2) rfl <| Wz (.b (decide (r39_5.2.2 = 0))) (Obn rfl (fun _ => hb_eql (k := .i64))) <| Nk 17592186045332 14 ⟨tp 2 (.s p2::tp 1 (.d (.ref [(.lit (.int .i64 p1.a0.Time)), (.lit (.int .i64 p1.a0.Source)), (.lit (.int .i64 p1.a0.Seq)), (.lit (.string (toS p1.a0.Type_))), (.sl (List.length p1.a0.Vals) (flatD enc_GValue p1.a0.Vals)), (.lit (.int .i64 p1.a1.Time)), (.lit (.int .i64 p1.a1.Source)), (.lit (.int .i64 p1.a1.Seq)), (.lit (.string (toS p1.a1.Type_))), (.sl (List.length p1.a1.Vals) (flatD enc_GValue p1.a1.Vals))])::tp 2 (.own 1::.loc 3 0::.i r39_5.2.1::tp 34 (.b (decide (r39_5.2.2 = 0))::tp 98 [])))), [.gone, (Ar 83 2 enc_GType r35_4), (Ar 44 4 enc_GValue r39_5.1.Vals), (.box [(.i r39_5.1.Time), (.i r39_5.1.Source), (.i r39_5.1.Seq), (.s r39_5.1.Type_), (.own 2)])], 0⟩ ?_
    rcases tf_ (decide (r39_5.2.2 = 0)) with hc44_19 | hc44_19
    ·
     replace hm := cT hc44_19 hm
     refine AiT hc44_19 <| Sx <| Wm (.own 1) rfl <| Wz (.agg [(.i r39_5.1.Time), (.i r39_5.1.Source), (.i r39_5.1.Seq), (.s r39_5.1.Type_), (.own 2)]) (Old rfl) ?_
     obtain ⟨r48_6, hr48_6, hm⟩ := bnd hm
     refine Wy (.tup [(.l encU8 r48_6.1), (.i r48_6.2)]) [(1, (.fro 83 2 (List.length r35_4) (flatD enc_GType r35_4))), (2, (.fro 44 4 (List.length r39_5.1.Vals) (flatD enc_GValue r39_5.1.Vals)))] (Ocf [] [] [1, 2] 0 (ok_event_Put ([] : List UInt8) r35_4 r39_5.1 r48_6 hr48_6) (fun a w => Try.call12 a w) rfl trivial) <| Wm (.tup [(.l encU8 r48_6.1), (.i r48_6.2)]) rfl <| Wz (.l encU8 r48_6.1) (Oex rfl) <| Wz (.i r48_6.2) (Oex rfl) <| Wm (.l encU8 r48_6.1) rfl <| Wm (.i r48_6.2) rfl <| Nk 7060 14 ⟨tp 2 (.s p2::tp 1 (.d (.ref [(.lit (.int .i64 p1.a0.Time)), (.lit (.int .i64 p1.a0.Source)), (.lit (.int .i64 p1.a0.Seq)), (.lit (.string (toS p1.a0.Type_))), (.sl (List.length p1.a0.Vals) (flatD enc_GValue p1.a0.Vals)), (.lit (.int .i64 p1.a1.Time)), (.lit (.int .i64 p1.a1.Source)), (.lit (.int .i64 p1.a1.Seq)), (.lit (.string (toS p1.a1.Type_))), (.sl (List.length p1.a1.Vals) (flatD enc_GValue p1.a1.Vals))])::tp 2 (.own 1::.loc 3 0::.i r39_5.2.1::tp 1 (.l encU8 r48_6.1::.i r48_6.2::tp 130 [])))), [.gone, (.fro 83 2 (List.length r35_4) (flatD enc_GType r35_4)), (.fro 44 4 (List.length r39_5.1.Vals) (flatD enc_GValue r39_5.1.Vals)), (.box [(.i r39_5.1.Time), (.i r39_5.1.Source), (.i r39_5.1.Seq), (.s r39_5.1.Type_), (.own 2)])], 0⟩ ?_
     refine AWP.cutJ (α := Unit) (fun x => match x with | () => (⟨tp 2 (.s p2::tp 1 (.d (.ref [(.lit (.int .i64 p1.a0.Time)), (.lit (.int .i64 p1.a0.Source)), (.lit (.int .i64 p1.a0.Seq)), (.lit (.string (toS p1.a0.Type_))), (.sl (List.length p1.a0.Vals) (flatD enc_GValue p1.a0.Vals)), (.lit (.int .i64 p1.a1.Time)), (.lit (.int .i64 p1.a1.Source)), (.lit (.int .i64 p1.a1.Seq)), (.lit (.string (toS p1.a1.Type_))), (.sl (List.length p1.a1.Vals) (flatD enc_GValue p1.a1.Vals))])::tp 2 (.l enc_GType r35_4::tp 68 (.b true::tp 66 [])))), [], 0⟩ : St)) (fun x => match x with | () => m_telltalelaw07_EventBack_j8  = some r) ?_ (fun J8 => ?_)
     ·
      rintro ⟨⟩ hm
      try dsimp only at hm ⊢
      unfold m_telltalelaw07_EventBack_j8 at hm
      refine AWP.if_ true (by kernel_rfl) <| Sx <| Wm (.b false) rfl <| Nn <| Rt <| Tr ?_
      obtain rfl := Option.some.inj hm
      exact ret_i []
     refine Sq <| Adr <| Wm (.i r48_6.2) rfl <| Wz (.b (decide (r48_6.2 ≠ 0))) (Obn rfl (fun _ => hb_neq (k := .i64))) ?_
     rcases tf_ (decide (r48_6.2 ≠ 0)) with hq53_7 | hq53_7
     ·
      replace hm := cT hq53_7 hm
      refine Wz (.b true) (Oq hq53_7 rfl) <| Wn <| Wn <| Wz (.b true) (OpT rfl) <| Wm (.b true) rfl <| Wn <| Wn <| Wn <| Wn <| Wz (.b true) (OpT rfl) <| Wm (.b true) rfl <| Wn <| Wn <| Wn ?_
      refine Wn <| Wn <| Wn <| Wz (.b true) (OpT rfl) <| Wm (.b true) rfl <| Wn <| Wn <| Wn <| Wn <| Wz (.b true) (OpT rfl) <| Wdr <| Tn <| Afz [1] ⟨tp 2 (.s p2::tp 1 (.d (.ref [(.lit (.int .i64 p1.a0.Time)), (.lit (.int .i64 p1.a0.Source)), (.lit (.int .i64 p1.a0.Seq)), (.lit (.string (toS p1.a0.Type_))), (.sl (List.length p1.a0.Vals) (flatD enc_GValue p1.a0.Vals)), (.lit (.int .i64 p1.a1.Time)), (.lit (.int .i64 p1.a1.Source)), (.lit (.int .i64 p1.a1.Seq)), (.lit (.string (toS p1.a1.Type_))), (.sl (List.length p1.a1.Vals) (flatD enc_GValue p1.a1.Vals))])::tp 2 (.l enc_GType r35_4::.loc 3 0::.i r39_5.2.1::tp 1 (.l encU8 r48_6.1::.i r48_6.2::tp 38 (.i r48_6.2::.b (decide (r48_6.2 ≠ 0))::.b true::tu 2 (.b true::.b true::tu 4 (.b true::.b true::tu 6 (.b true::.b true::tu 4 (.b true::tp 66 []))))))))), [.gone, (.fro 83 2 (List.length r35_4) (flatD enc_GType r35_4)), (.fro 44 4 (List.length r39_5.1.Vals) (flatD enc_GValue r39_5.1.Vals)), (.box [(.i r39_5.1.Time), (.i r39_5.1.Source), (.i r39_5.1.Seq), (.s r39_5.1.Type_), (.own 2)])], 0⟩ ?_
      exact AWP.weak (Weak.toK 75557863725914323419284 0 0 []) (J8 () hm)
     ·
      replace hm := cF hq53_7 hm
      refine Wz (.b false) (Oq hq53_7 rfl) <| Wm (.i r39_5.2.1) rfl <| Wz (.b (decide (r39_5.2.1 < 0))) (Obn rfl (fun _ => hb_lss (k := .i64))) <| Wz (.b (decide (r39_5.2.1 < 0))) (OpF rfl) ?_
      rcases tf_ (decide (r39_5.2.1 < 0)) with hq57_7 | hq57_7
      ·
       replace hm := cT hq57_7 hm
       refine Wz (.b true) (Oq hq57_7 rfl) <| Wn <| Wn <| Wn <| Wn <| Wz (.b true) (OpT rfl) <| Wm (.b true) rfl <| Wn <| Wn <| Wn <| Wn <| Wn <| Wn <| Wz (.b true) (OpT rfl) ?_
       refine Wm (.b true) rfl <| Wn <| Wn <| Wn <| Wn <| Wz (.b true) (OpT rfl) <| Wdr <| Tn <| Afz [1] ⟨tp 2 (.s p2::tp 1 (.d (.ref [(.lit (.int .i64 p1.a0.Time)), (.lit (.int .i64 p1.a0.Source)), (.lit (.int .i64 p1.a0.Seq)), (.lit (.string (toS p1.a0.Type_))), (.sl (List.length p1.a0.Vals) (flatD enc_GValue p1.a0.Vals)), (.lit (.int .i64 p1.a1.Time)), (.lit (.int .i64 p1.a1.Source)), (.lit (.int .i64 p1.a1.Seq)), (.lit (.string (toS p1.a1.Type_))), (.sl (List.length p1.a1.Vals) (flatD enc_GValue p1.a1.Vals))])::tp 2 (.l enc_GType r35_4::.loc 3 0::.i r39_5.2.1::tp 1 (.l encU8 r48_6.1::.i r48_6.2::tp 38 (.i r48_6.2::.b (decide (r48_6.2 ≠ 0))::.b false::.i r39_5.2.1::.b (decide (r39_5.2.1 < 0))::.b (decide (r39_5.2.1 < 0))::.b true::tu 4 (.b true::.b true::tu 6 (.b true::.b true::tu 4 (.b true::tp 66 [])))))))), [.gone, (.fro 83 2 (List.length r35_4) (flatD enc_GType r35_4)), (.fro 44 4 (List.length r39_5.1.Vals) (flatD enc_GValue r39_5.1.Vals)), (.box [(.i r39_5.1.Time), (.i r39_5.1.Source), (.i r39_5.1.Seq), (.s r39_5.1.Type_), (.own 2)])], 0⟩ ?_
       exact AWP.weak (Weak.toK 75557863725914323419284 0 0 []) (J8 () hm)
      ·
       replace hm := cF hq57_7 hm
       refine Wz (.b false) (Oq hq57_7 rfl) <| Wm (.i r39_5.2.1) rfl <| Wm (.s p2) rfl <| Wz (.i ((List.length p2 : Nat) : Int)) (Oln rfl) <| Wz (.b (decide (((List.length p2 : Nat) : Int) < r39_5.2.1))) (Obn rfl (fun _ => hb_gtr (k := .i64))) <| Wz (.b (decide (((List.length p2 : Nat) : Int) < r39_5.2.1))) (OpF rfl) ?_
       rcases tf_ (decide (((List.length p2 : Nat) : Int) < r39_5.2.1)) with hq63_7 | hq63_7
       ·
        replace hm := cT hq63_7 hm
        refine Wz (.b true) (Oq hq63_7 rfl) <| Wn <| Wn <| Wn <| Wn <| Wn <| Wn <| Wz (.b true) (OpT rfl) <| Wm (.b true) rfl <| Wn <| Wn <| Wn <| Wn <| Wz (.b true) (OpT rfl) ?_
        refine Wdr <| Tn <| Afz [1] ⟨tp 2 (.s p2::tp 1 (.d (.ref [(.lit (.int .i64 p1.a0.Time)), (.lit (.int .i64 p1.a0.Source)), (.lit (.int .i64 p1.a0.Seq)), (.lit (.string (toS p1.a0.Type_))), (.sl (List.length p1.a0.Vals) (flatD enc_GValue p1.a0.Vals)), (.lit (.int .i64 p1.a1.Time)), (.lit (.int .i64 p1.a1.Source)), (.lit (.int .i64 p1.a1.Seq)), (.lit (.string (toS p1.a1.Type_))), (.sl (List.length p1.a1.Vals) (flatD enc_GValue p1.a1.Vals))])::tp 2 (.l enc_GType r35_4::.loc 3 0::.i r39_5.2.1::tp 1 (.l encU8 r48_6.1::.i r48_6.2::tp 38 (.i r48_6.2::.b (decide (r48_6.2 ≠ 0))::.b false::.i r39_5.2.1::.b (decide (r39_5.2.1 < 0))::.b (decide (r39_5.2.1 < 0))::.b false::.i r39_5.2.1::.s p2::.i ((List.length p2 : Nat) : Int)::.b (decide (((List.length p2 : Nat) : Int) < r39_5.2.1))::.b (decide (((List.length p2 : Nat) : Int) < r39_5.2.1))::.b true::tu 6 (.b true::.b true::tu 4 (.b true::tp 66 []))))))), [.gone, (.fro 83 2 (List.length r35_4) (flatD enc_GType r35_4)), (.fro 44 4 (List.length r39_5.1.Vals) (flatD enc_GValue r39_5.1.Vals)), (.box [(.i r39_5.1.Time), (.i r39_5.1.Source), (.i r39_5.1.Seq), (.s r39_5.1.Type_), (.own 2)])], 0⟩ ?_
        exact AWP.weak (Weak.toK 75557863725914323419284 0 0 []) (J8 () hm)
       ·
        replace hm := cF hq63_7 hm
        refine Wz (.b false) (Oq hq63_7 rfl) <| Wm (.l encU8 r48_6.1) rfl <| Wz (.s r48_6.1) (Ocs (by kernel_rfl) (op_str rfl (e := 5) (by kernel_rfl) (by kernel_rfl) (by kernel_rfl) (y := (.l encU8 r48_6.1)) (by kernel_rfl) (ds := flatD encU8 r48_6.1) (off := 0) (n := List.length r48_6.1) (by kernel_rfl) (l := r48_6.1) flatU8_take rfl)) <| Wm (.s p2) rfl <| Wm (.i r39_5.2.1) rfl ?_
        obtain ⟨s68_7, hs68_7, hm⟩ := bnd hm; obtain ⟨hs68_7a, hs68_7b, hs68_7c, hs68_7d, hs68_7e⟩ := cut_some hs68_7
        refine Wz (.s s68_7) (Ocs (lit_str (toS_cut hs68_7e)) (op_slice_str rfl (by kernel_rfl) (s := toS p2) (by kernel_rfl) (l := (Int.toNat 0)) (h := (Int.toNat r39_5.2.1)) (by exact rfl) (⟨.i64, r39_5.2.1, by kernel_rfl, hs68_7b⟩) hs68_7c hs68_7d)) <| Wz (.b (decide (r48_6.1 ≠ s68_7))) (Ocs (lit_tf (by simp only [toS_inj, ne_eq])) (op_bin rfl (a1 := .string (toS r48_6.1)) (a2 := .string (toS s68_7)) (by kernel_rfl) (by kernel_rfl) (fun _ => hb_sneq))) <| Wz (.b (decide (r48_6.1 ≠ s68_7))) (OpF rfl) ?_
        rcases tf_ (decide (r48_6.1 ≠ s68_7)) with hq71_7 | hq71_7
        ·
         replace hm := cT hq71_7 hm
         refine Wz (.b true) (Oq hq71_7 rfl) <| Wn <| Wn <| Wn <| Wn <| Wz (.b true) (OpT rfl) <| Wdr <| Tn <| Afz [1] ⟨tp 2 (.s p2::tp 1 (.d (.ref [(.lit (.int .i64 p1.a0.Time)), (.lit (.int .i64 p1.a0.Source)), (.lit (.int .i64 p1.a0.Seq)), (.lit (.string (toS p1.a0.Type_))), (.sl (List.length p1.a0.Vals) (flatD enc_GValue p1.a0.Vals)), (.lit (.int .i64 p1.a1.Time)), (.lit (.int .i64 p1.a1.Source)), (.lit (.int .i64 p1.a1.Seq)), (.lit (.string (toS p1.a1.Type_))), (.sl (List.length p1.a1.Vals) (flatD enc_GValue p1.a1.Vals))])::tp 2 (.l enc_GType r35_4::.loc 3 0::.i r39_5.2.1::tp 1 (.l encU8 r48_6.1::.i r48_6.2::tp 38 (.i r48_6.2::.b (decide (r48_6.2 ≠ 0))::.b false::.i r39_5.2.1::.b (decide (r39_5.2.1 < 0))::.b (decide (r39_5.2.1 < 0))::.b false::.i r39_5.2.1::.s p2::.i ((List.length p2 : Nat) : Int)::.b (decide (((List.length p2 : Nat) : Int) < r39_5.2.1))::.b (decide (((List.length p2 : Nat) : Int) < r39_5.2.1))::.b false::.l encU8 r48_6.1::.s r48_6.1::.s p2::.i r39_5.2.1::.s s68_7::.b (decide (r48_6.1 ≠ s68_7))::.b (decide (r48_6.1 ≠ s68_7))::.b true::tu 4 (.b true::tp 66 [])))))), [.gone, (.fro 83 2 (List.length r35_4) (flatD enc_GType r35_4)), (.fro 44 4 (List.length r39_5.1.Vals) (flatD enc_GValue r39_5.1.Vals)), (.box [(.i r39_5.1.Time), (.i r39_5.1.Source), (.i r39_5.1.Seq), (.s r39_5.1.Type_), (.own 2)])], 0⟩ ?_
         exact AWP.weak (Weak.toK 75557863725914323419284 0 0 []) (J8 () hm)
        ·
         replace hm := cF hq71_7 hm
         refine Wz (.b false) (Oq hq71_7 rfl) <| Wm (.own 1) rfl <| Wz (.agg [(.i r39_5.1.Time), (.i r39_5.1.Source), (.i r39_5.1.Seq), (.s r39_5.1.Type_), (.own 2)]) (Old rfl) ?_
         obtain ⟨r74_7, hr74_7, hm⟩ := bnd hm
         refine Wz (.i r74_7) (Ocp [] [] [1, 2] 0 (ok_event_Check r35_4 r39_5.1 r74_7 hr74_7) (plain_triv (by simp [A.Plain, A.Plains, D.Plain, byteD])) (fun a w => Try.call16 a w) rfl trivial) <| Wz (.b (decide (r74_7 ≠ 0))) (Obn rfl (fun _ => hb_neq (k := .i64))) <| Wz (.b (decide (r74_7 ≠ 0))) (OpF rfl) <| Wdr <| Tk 75557863725914323419284 2 ⟨tp 2 (.s p2::tp 1 (.d (.ref [(.lit (.int .i64 p1.a0.Time)), (.lit (.int .i64 p1.a0.Source)), (.lit (.int .i64 p1.a0.Seq)), (.lit (.string (toS p1.a0.Type_))), (.sl (List.length p1.a0.Vals) (flatD enc_GValue p1.a0.Vals)), (.lit (.int .i64 p1.a1.Time)), (.lit (.int .i64 p1.a1.Source)), (.lit (.int .i64 p1.a1.Seq)), (.lit (.string (toS p1.a1.Type_))), (.sl (List.length p1.a1.Vals) (flatD enc_GValue p1.a1.Vals))])::tp 2 (.own 1::tp 68 (.b (decide (r74_7 ≠ 0))::tp 66 [])))), [.gone, (.fro 83 2 (List.length r35_4) (flatD enc_GType r35_4)), .gone, .gone], 0⟩ ?_
         rcases tf_ (decide (r74_7 ≠ 0)) with hc76_20 | hc76_20
         ·
          replace hm := cT hc76_20 hm
          refine AiT hc76_20 <| Sx <| Wm (.b false) rfl <| Nn <| Rt <| Tr ?_
          obtain rfl := Option.some.inj hm
          exact ret_i []
         ·
          replace hm := cF hc76_20 hm
          refine AiF hc76_20 <| Sk <| Tn <| Afz [1] ⟨tp 2 (.s p2::tp 1 (.d (.ref [(.lit (.int .i64 p1.a0.Time)), (.lit (.int .i64 p1.a0.Source)), (.lit (.int .i64 p1.a0.Seq)), (.lit (.string (toS p1.a0.Type_))), (.sl (List.length p1.a0.Vals) (flatD enc_GValue p1.a0.Vals)), (.lit (.int .i64 p1.a1.Time)), (.lit (.int .i64 p1.a1.Source)), (.lit (.int .i64 p1.a1.Seq)), (.lit (.string (toS p1.a1.Type_))), (.sl (List.length p1.a1.Vals) (flatD enc_GValue p1.a1.Vals))])::tp 2 (.l enc_GType r35_4::tp 68 (.b (decide (r74_7 ≠ 0))::tp 66 [])))), [.gone, (.fro 83 2 (List.length r35_4) (flatD enc_GType r35_4)), .gone, .gone], 0⟩ ?_
          exact AWP.weak (Weak.toK 148 0 0 []) (J9 () hm)
    ·
     replace hm := cF hc44_19 hm
     refine AiF hc44_19 <| Sk <| Tn <| Afz [1] ⟨tp 2 (.s p2::tp 1 (.d (.ref [(.lit (.int .i64 p1.a0.Time)), (.lit (.int .i64 p1.a0.Source)), (.lit (.int .i64 p1.a0.Seq)), (.lit (.string (toS p1.a0.Type_))), (.sl (List.length p1.a0.Vals) (flatD enc_GValue p1.a0.Vals)), (.lit (.int .i64 p1.a1.Time)), (.lit (.int .i64 p1.a1.Source)), (.lit (.int .i64 p1.a1.Seq)), (.lit (.string (toS p1.a1.Type_))), (.sl (List.length p1.a1.Vals) (flatD enc_GValue p1.a1.Vals))])::tp 2 (.l enc_GType r35_4::.loc 3 0::.i r39_5.2.1::tp 34 (.b (decide (r39_5.2.2 = 0))::tp 98 [])))), [.gone, (.fro 83 2 (List.length r35_4) (flatD enc_GType r35_4)), (Ar 44 4 enc_GValue r39_5.1.Vals), (.box [(.i r39_5.1.Time), (.i r39_5.1.Source), (.i r39_5.1.Seq), (.s r39_5.1.Type_), (.own 2)])], 0⟩ ?_
     exact AWP.weak (Weak.toK 148 0 0 []) (J9 () hm)
end Go.Proofs.Ytbgioanegbipgaa.K
