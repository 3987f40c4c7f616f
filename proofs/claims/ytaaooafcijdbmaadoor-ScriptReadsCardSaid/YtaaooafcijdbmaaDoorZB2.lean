/- what telltalelaw37.ScriptReads needs (2) -/
import Derived.Test.YtaaooafcijdbmaaDoorZB1
import Derived.Test.YtaaooafcijdbmaaDoorZAm
import Derived.ProofKit
import Derived.OpenShut
import Derived.ShutString
import Derived.ChangeOld
import Derived.Carry
import Derived.Lib.BitFns
import Derived.Test.YtaaooafcijdbmaaDoorZOC
set_option linter.unusedVariables false
set_option linter.unusedSimpArgs false
namespace Go.Proofs.YtaaooafcijdbmaaDoor.K
open Go.RowKit Go.Lib
set_option maxRecDepth 20000
set_option maxHeartbeats 4000000

theorem ok_r37_Same (p0 : GCommand) (p1 : GCommand) (r : Bool) (h : m_r37_Same p0 p1 = some r) : GCall Tryd.prog 17 [(.agg [(.y p0.Kind), (.s p0.Text), (.i p0.A), (.i p0.B), (.i p0.E.Time), (.i p0.E.Source), (.i p0.E.Seq), (.s p0.E.Type_), (.l enc_GValue p0.E.Vals)]), (.agg [(.y p1.Kind), (.s p1.Text), (.i p1.A), (.i p1.B), (.i p1.E.Time), (.i p1.E.Source), (.i p1.E.Seq), (.s p1.E.Type_), (.l enc_GValue p1.E.Vals)])] [] (.b r) [] := by
 refine GCall.of_body (n := 38) (rs := [(.tmp 4)]) Tryd.func17 rfl rfl rfl <| Ato ⟨.agg [(.y p0.Kind), (.s p0.Text), (.i p0.A), (.i p0.B), (.i p0.E.Time), (.i p0.E.Source), (.i p0.E.Seq), (.s p0.E.Type_), (.l enc_GValue p0.E.Vals)]::.agg [(.y p1.Kind), (.s p1.Text), (.i p1.A), (.i p1.B), (.i p1.E.Time), (.i p1.E.Source), (.i p1.E.Seq), (.s p1.E.Type_), (.l enc_GValue p1.E.Vals)]::tu 36 [], [], 0⟩ ?_
 have hm := h
 unfold m_r37_Same at hm
 refine Sx <| Wy (.loc 0 0) [(0, (.box [(.y p0.Kind), (.s p0.Text), (.i p0.A), (.i p0.B), (.i p0.E.Time), (.i p0.E.Source), (.i p0.E.Seq), (.s p0.E.Type_), (.l enc_GValue p0.E.Vals)]))] (Obx rfl) <| Wy (.loc 1 0) [(1, (.box [(.y p1.Kind), (.s p1.Text), (.i p1.A), (.i p1.B), (.i p1.E.Time), (.i p1.E.Source), (.i p1.E.Seq), (.s p1.E.Type_), (.l enc_GValue p1.E.Vals)]))] (Obx rfl) <| Wm (.b false) rfl <| Nk 12 3 ⟨tp 2 (.loc 0 0::.loc 1 0::tp 34 []), [(.box [(.y p0.Kind), (.s p0.Text), (.i p0.A), (.i p0.B), (.i p0.E.Time), (.i p0.E.Source), (.i p0.E.Seq), (.s p0.E.Type_), (.l enc_GValue p0.E.Vals)]), (.box [(.y p1.Kind), (.s p1.Text), (.i p1.A), (.i p1.B), (.i p1.E.Time), (.i p1.E.Source), (.i p1.E.Seq), (.s p1.E.Type_), (.l enc_GValue p1.E.Vals)])], 0⟩ <| Sx <| Wz (.loc 0 0) (Ofa rfl) <| Wz (.y p0.Kind) (Old rfl) <| Wz (.loc 1 0) (Ofa rfl) <| Wz (.y p1.Kind) (Old rfl) <| Wz (.b (decide (((p0.Kind.toNat : Nat) : Int) = ((p1.Kind.toNat : Nat) : Int)))) (Ob2 (.int .u8 ((p0.Kind.toNat : Nat) : Int)) (.int .u8 ((p1.Kind.toNat : Nat) : Int)) rfl (fun _ => hb_eql)) ?_
 rcases tf_ (decide (((p0.Kind.toNat : Nat) : Int) = ((p1.Kind.toNat : Nat) : Int))) with hq10_0 | hq10_0
 ·
  replace hm := cT hq10_0 hm
  refine Wz (.b true) (Oq hq10_0 rfl) <| Wz (.loc 0 1) (Ofa rfl) <| Wz (.s p0.Text) (Old rfl) <| Wz (.loc 1 1) (Ofa rfl) <| Wz (.s p1.Text) (Old rfl) <| Wz (.b (decide (p0.Text = p1.Text))) (Ocs (lit_tf (by simp only [toS_inj, ne_eq])) (op_bin rfl (a1 := .string (toS p0.Text)) (a2 := .string (toS p1.Text)) (by kernel_rfl) (by kernel_rfl) (fun _ => hb_seql))) <| Wz (.b (decide (p0.Text = p1.Text))) (OpT rfl) ?_
  rcases tf_ (decide (p0.Text = p1.Text)) with hq17_0 | hq17_0
  ·
   replace hm := cT hq17_0 hm
   refine Wz (.b true) (Oq hq17_0 rfl) <| Wz (.loc 0 2) (Ofa rfl) <| Wz (.i p0.A) (Old rfl) <| Wz (.loc 1 2) (Ofa rfl) <| Wz (.i p1.A) (Old rfl) <| Wz (.b (decide (p0.A = p1.A))) (Obn rfl (fun _ => hb_eql (k := .i64))) <| Wz (.b (decide (p0.A = p1.A))) (OpT rfl) ?_
   rcases tf_ (decide (p0.A = p1.A)) with hq24_0 | hq24_0
   ·
    replace hm := cT hq24_0 hm
    refine Wz (.b true) (Oq hq24_0 rfl) <| Wz (.loc 0 3) (Ofa rfl) <| Wz (.i p0.B) (Old rfl) <| Wz (.loc 1 3) (Ofa rfl) <| Wz (.i p1.B) (Old rfl) <| Wz (.b (decide (p0.B = p1.B))) (Obn rfl (fun _ => hb_eql (k := .i64))) <| Wz (.b (decide (p0.B = p1.B))) (OpT rfl) ?_
    rcases tf_ (decide (p0.B = p1.B)) with hq31_0 | hq31_0
    ·
     replace hm := cT hq31_0 hm
     refine Wz (.b true) (Oq hq31_0 rfl) <| Wz (.loc 0 4) (Ofa rfl) <| Wz (.agg [(.i p0.E.Time), (.i p0.E.Source), (.i p0.E.Seq), (.s p0.E.Type_), (.l enc_GValue p0.E.Vals)]) (Old rfl) <| Wz (.loc 1 4) (Ofa rfl) <| Wz (.agg [(.i p1.E.Time), (.i p1.E.Source), (.i p1.E.Seq), (.s p1.E.Type_), (.l enc_GValue p1.E.Vals)]) (Old rfl) ?_
     obtain ⟨r36_0, hr36_0, hm⟩ := bnd hm
     refine Wz (.b r36_0) (Ocf [] [] [] 0 (ok_r07_Same p0.E p1.E r36_0 hr36_0) (fun a w => Tryd.call40 a w) rfl trivial) <| Wz (.b r36_0) (OpT rfl) <| Wm (.b r36_0) rfl <| Nn <| Rt ?_
     obtain rfl := Option.some.inj hm
     exact ret_i []
    ·
     replace hm := cF hq31_0 hm
     refine Wz (.b false) (Oq hq31_0 rfl) <| Wn <| Wn <| Wn <| Wn <| Wn <| Wz (.b false) (OpF rfl) <| Wm (.b false) rfl <| Nn <| Rt ?_
     obtain rfl := Option.some.inj hm
     exact ret_i []
   ·
    replace hm := cF hq24_0 hm
    refine Wz (.b false) (Oq hq24_0 rfl) <| Wn <| Wn <| Wn <| Wn <| Wn <| Wz (.b false) (OpF rfl) <| Wm (.b false) rfl <| Wn <| Wn <| Wn <| Wn <| Wn <| Wz (.b false) (OpF rfl) ?_
    refine Wm (.b false) rfl <| Nn <| Rt ?_
    obtain rfl := Option.some.inj hm
    exact ret_i []
  ·
   replace hm := cF hq17_0 hm
   refine Wz (.b false) (Oq hq17_0 rfl) <| Wn <| Wn <| Wn <| Wn <| Wn <| Wz (.b false) (OpF rfl) <| Wm (.b false) rfl <| Wn <| Wn <| Wn <| Wn <| Wn <| Wz (.b false) (OpF rfl) ?_
   refine Wm (.b false) rfl <| Wn <| Wn <| Wn <| Wn <| Wn <| Wz (.b false) (OpF rfl) <| Wm (.b false) rfl <| Nn <| Rt ?_
   obtain rfl := Option.some.inj hm
   exact ret_i []
 ·
  replace hm := cF hq10_0 hm
  refine Wz (.b false) (Oq hq10_0 rfl) <| Wn <| Wn <| Wn <| Wn <| Wn <| Wz (.b false) (OpF rfl) <| Wm (.b false) rfl <| Wn <| Wn <| Wn <| Wn <| Wn <| Wz (.b false) (OpF rfl) ?_
  refine Wm (.b false) rfl <| Wn <| Wn <| Wn <| Wn <| Wn <| Wz (.b false) (OpF rfl) <| Wm (.b false) rfl <| Wn <| Wn <| Wn <| Wn <| Wn <| Wz (.b false) (OpF rfl) ?_
  refine Wm (.b false) rfl <| Nn <| Rt ?_
  obtain rfl := Option.some.inj hm
  exact ret_i []

theorem ok_r01_Open (p0 : (List UInt8)) (r : GReader) (h : m_r01_Open p0 = some r) : GCall Tryd.prog 71 [(.s p0)] [] (.agg [(.s r.Text), (.i r.At), (.i r.E)]) [] := by
 refine GCall.of_body (n := 5) (rs := [(.cell 2 131)]) Tryd.func71 rfl rfl rfl <| Ato ⟨.s p0::tu 4 [], [], 0⟩ ?_
 have hm := h
 unfold m_r01_Open at hm
 refine Sx <| Wy (.loc 0 0) [(0, (.box [(.s ([] : List UInt8)), (.i 0), (.i 0)]))] (Oal rfl) <| Nk 5 1 ⟨.s p0::tp 1 (.loc 0 0::tp 2 []), [(.box [(.s ([] : List UInt8)), (.i 0), (.i 0)])], 0⟩ <| Sx <| Wm (.s p0) rfl <| Wz (.agg [(.s p0), (.i 0), (.i 0)]) (Obd rfl) <| Wy (.tup []) [(0, (.box [(.s p0), (.i 0), (.i 0)]))] (Ost rfl) <| Nn <| Rt ?_
 obtain rfl := Option.some.inj hm
 exact ret_i []

theorem ok_r01_rest (p0 : GReader) (r : (List UInt8)) (h : m_r01_rest p0 = some r) : GCall Tryd.prog 94 [(.agg [(.s p0.Text), (.i p0.At), (.i p0.E)])] [] (.s r) [] := by
 refine GCall.of_body (n := 19) (rs := [(.tmp 2)]) Tryd.func94 rfl rfl rfl <| Ato ⟨.agg [(.s p0.Text), (.i p0.At), (.i p0.E)]::tu 18 [], [], 0⟩ ?_
 have hm := h
 unfold m_r01_rest at hm
 refine Sx <| Wy (.loc 0 0) [(0, (.box [(.s p0.Text), (.i p0.At), (.i p0.E)]))] (Obx rfl) <| Wm (.s ([] : List UInt8)) rfl <| Nk 2 1 ⟨tp 1 (.loc 0 0::tp 17 []), [(.box [(.s p0.Text), (.i p0.At), (.i p0.E)])], 0⟩ <| Sq <| Sx <| Wz (.loc 0 1) (Ofa rfl) <| Wz (.i p0.At) (Old rfl) <| Wz (.b (decide (p0.At < 0))) (Obn rfl (fun _ => hb_lss (k := .i64))) ?_
 rcases tf_ (decide (p0.At < 0)) with hq6_0 | hq6_0
 ·
  replace hm := cT hq6_0 hm
  refine Wz (.b true) (Oq hq6_0 rfl) <| Wn <| Wn <| Wn <| Wn <| Wn <| Wn <| Wz (.b true) (OpT rfl) <| Nk 8194 1 ⟨tp 1 (.loc 0 0::tp 11 (.b true::tp 5 [])), [(.box [(.s p0.Text), (.i p0.At), (.i p0.E)])], 0⟩ <| AWP.if_ true (by kernel_rfl) <| Sx <| Wm (.s ([] : List UInt8)) rfl <| Nn <| Rt ?_
  refine Tr ?_
  obtain rfl := Option.some.inj hm
  exact ret_i []
 ·
  replace hm := cF hq6_0 hm
  refine Wz (.b false) (Oq hq6_0 rfl) <| Wz (.loc 0 1) (Ofa rfl) <| Wz (.i p0.At) (Old rfl) <| Wz (.loc 0 0) (Ofa rfl) <| Wz (.s p0.Text) (Old rfl) <| Wz (.i ((List.length p0.Text : Nat) : Int)) (Oln rfl) <| Wz (.b (decide (((List.length p0.Text : Nat) : Int) < p0.At))) (Obn rfl (fun _ => hb_gtr (k := .i64))) <| Wz (.b (decide (((List.length p0.Text : Nat) : Int) < p0.At))) (OpF rfl) <| Nk 8194 1 ⟨tp 1 (.loc 0 0::tp 11 (.b (decide (((List.length p0.Text : Nat) : Int) < p0.At))::tp 5 [])), [(.box [(.s p0.Text), (.i p0.At), (.i p0.E)])], 0⟩ ?_
  rcases tf_ (decide (((List.length p0.Text : Nat) : Int) < p0.At)) with hc13_2 | hc13_2
  ·
   replace hm := cT hc13_2 hm
   refine AiT hc13_2 <| Sx <| Wm (.s ([] : List UInt8)) rfl <| Nn <| Rt <| Tr ?_
   obtain rfl := Option.some.inj hm
   exact ret_i []
  ·
   replace hm := cF hc13_2 hm
   refine AiF hc13_2 <| Sk <| Tk 2 1 ⟨tp 1 (.loc 0 0::tp 17 []), [(.box [(.s p0.Text), (.i p0.At), (.i p0.E)])], 0⟩ <| Sx <| Wz (.loc 0 0) (Ofa rfl) <| Wz (.s p0.Text) (Old rfl) <| Wz (.loc 0 1) (Ofa rfl) <| Wz (.i p0.At) (Old rfl) ?_
   obtain ⟨s18_1, hs18_1, hm⟩ := bnd hm; obtain ⟨hs18_1a, hs18_1b, hs18_1c, hs18_1d, hs18_1e⟩ := cut_some hs18_1
   refine Wz (.s s18_1) (Ocs (lit_str (toS_cut hs18_1e)) (op_slice_str rfl (by kernel_rfl) (s := toS p0.Text) (by kernel_rfl) (l := (Int.toNat p0.At)) (h := (Int.toNat ((List.length p0.Text : Nat) : Int))) (⟨.i64, p0.At, by kernel_rfl, hs18_1a⟩) (by exact rfl) hs18_1c hs18_1d)) <| Wm (.s s18_1) rfl <| Nn <| Rt ?_
   obtain rfl := Option.some.inj hm
   exact ret_i []

theorem ok_r01_RNum (p0 : GReader) (p1 : Int) (r : (GReader × Int)) (h : m_r01_RNum p0 p1 = some r) : GCall Tryd.prog 93 [(.agg [(.s p0.Text), (.i p0.At), (.i p0.E)]), (.i p1)] [] (.tup [(.agg [(.s r.1.Text), (.i r.1.At), (.i r.1.E)]), (.i r.2)]) [] := by
 refine GCall.of_body (n := 48) (rs := [(.cell 4 131), (.tmp 5)]) Tryd.func93 rfl rfl rfl <| Ato ⟨.agg [(.s p0.Text), (.i p0.At), (.i p0.E)]::.i p1::tu 46 [], [], 0⟩ ?_
 have hm := h
 unfold m_r01_RNum at hm
 refine Sx <| Wy (.loc 0 0) [(0, (.box [(.s p0.Text), (.i p0.At), (.i p0.E)]))] (Obx rfl) <| Wy (.loc 1 0) [(1, (.box [(.s ([] : List UInt8)), (.i 0), (.i 0)]))] (Oal rfl) <| Wm (.i 0) rfl <| Nk 22 3 ⟨tp 1 (.i p1::.loc 0 0::tp 1 (.loc 1 0::tp 43 [])), [(.box [(.s p0.Text), (.i p0.At), (.i p0.E)]), (.box [(.s ([] : List UInt8)), (.i 0), (.i 0)])], 0⟩ <| Sx <| Wz (.agg [(.s p0.Text), (.i p0.At), (.i p0.E)]) (Old rfl) ?_
 obtain ⟨r10_0, hr10_0, hm⟩ := bnd hm
 refine Wz (.s r10_0) (Ocf [] [] [] 0 (ok_r01_rest p0 r10_0 hr10_0) (fun a w => Tryd.call94 a w) rfl trivial) <| Wm (.s r10_0) rfl <| Nk 86 3 ⟨tp 1 (.i p1::.loc 0 0::tp 1 (.loc 1 0::tp 1 (.s r10_0::tp 41 []))), [(.box [(.s p0.Text), (.i p0.At), (.i p0.E)]), (.box [(.s ([] : List UInt8)), (.i 0), (.i 0)])], 0⟩ <| Sq <| Sx <| Wz (.loc 0 2) (Ofa rfl) <| Wz (.i p0.E) (Old rfl) <| Wz (.b (decide (p0.E ≠ 0))) (Obn rfl (fun _ => hb_neq (k := .i64))) <| Nk 8278 3 ⟨tp 1 (.i p1::.loc 0 0::tp 1 (.loc 1 0::tp 1 (.s r10_0::tp 6 (.b (decide (p0.E ≠ 0))::tp 34 [])))), [(.box [(.s p0.Text), (.i p0.At), (.i p0.E)]), (.box [(.s ([] : List UInt8)), (.i 0), (.i 0)])], 0⟩ ?_
 rcases tf_ (decide (p0.E ≠ 0)) with hc13_5 | hc13_5
 ·
  replace hm := cT hc13_5 hm
  refine AiT hc13_5 <| Sx <| Wz (.agg [(.s p0.Text), (.i p0.At), (.i p0.E)]) (Old rfl) <| Wy (.tup []) [(1, (.box [(.s p0.Text), (.i p0.At), (.i p0.E)]))] (Ost rfl) <| Wm (.i 0) rfl <| Nn <| Rt <| Tr ?_
  obtain rfl := Option.some.inj hm
  exact ret_i []
 ·
  replace hm := cF hc13_5 hm
  refine AiF hc13_5 <| Sk <| Tk 86 3 ⟨tp 1 (.i p1::.loc 0 0::tp 1 (.loc 1 0::tp 1 (.s r10_0::tp 41 []))), [(.box [(.s p0.Text), (.i p0.At), (.i p0.E)]), (.box [(.s ([] : List UInt8)), (.i 0), (.i 0)])], 0⟩ <| Sq <| Sx <| Wm (.i p1) rfl <| Wz (.b (decide (p1 < 1))) (Obn rfl (fun _ => hb_lss (k := .i64))) ?_
  rcases tf_ (decide (p1 < 1)) with hq17_1 | hq17_1
  ·
   replace hm := cT hq17_1 hm
   refine Wz (.b true) (Oq hq17_1 rfl) <| Wn <| Wn <| Wz (.b true) (OpT rfl) <| Nk 1048662 3 ⟨tp 1 (.i p1::.loc 0 0::tp 1 (.loc 1 0::tp 1 (.s r10_0::tp 13 (.b true::tp 27 [])))), [(.box [(.s p0.Text), (.i p0.At), (.i p0.E)]), (.box [(.s ([] : List UInt8)), (.i 0), (.i 0)])], 0⟩ <| AWP.if_ true (by kernel_rfl) <| Sx <| Wz (.loc 0 2) (Ofa rfl) <| Wy (.tup []) [(0, (.box [(.s p0.Text), (.i p0.At), (.i 2)]))] (Ost rfl) <| Nk 20 3 ⟨tp 2 (.loc 0 0::tp 1 (.loc 1 0::tp 43 [])), [(.box [(.s p0.Text), (.i p0.At), (.i 2)]), (.box [(.s ([] : List UInt8)), (.i 0), (.i 0)])], 0⟩ <| Sx <| Wz (.agg [(.s p0.Text), (.i p0.At), (.i 2)]) (Old rfl) <| Wy (.tup []) [(1, (.box [(.s p0.Text), (.i p0.At), (.i 2)]))] (Ost rfl) <| Wm (.i 0) rfl ?_
   refine Nn <| Rt <| Tr ?_
   obtain rfl := Option.some.inj hm
   exact ret_i []
  ·
   replace hm := cF hq17_1 hm
   refine Wz (.b false) (Oq hq17_1 rfl) <| Wm (.i p1) rfl <| Wz (.b (decide ((6 : Int) < p1))) (Obn rfl (fun _ => hb_gtr (k := .i64))) <| Wz (.b (decide ((6 : Int) < p1))) (OpF rfl) <| Nk 1048662 3 ⟨tp 1 (.i p1::.loc 0 0::tp 1 (.loc 1 0::tp 1 (.s r10_0::tp 13 (.b (decide ((6 : Int) < p1))::tp 27 [])))), [(.box [(.s p0.Text), (.i p0.At), (.i p0.E)]), (.box [(.s ([] : List UInt8)), (.i 0), (.i 0)])], 0⟩ ?_
   rcases tf_ (decide ((6 : Int) < p1)) with hc20_6 | hc20_6
   ·
    replace hm := cT hc20_6 hm
    refine AiT hc20_6 <| Sx <| Wz (.loc 0 2) (Ofa rfl) <| Wy (.tup []) [(0, (.box [(.s p0.Text), (.i p0.At), (.i 2)]))] (Ost rfl) <| Nk 20 3 ⟨tp 2 (.loc 0 0::tp 1 (.loc 1 0::tp 43 [])), [(.box [(.s p0.Text), (.i p0.At), (.i 2)]), (.box [(.s ([] : List UInt8)), (.i 0), (.i 0)])], 0⟩ <| Sx <| Wz (.agg [(.s p0.Text), (.i p0.At), (.i 2)]) (Old rfl) <| Wy (.tup []) [(1, (.box [(.s p0.Text), (.i p0.At), (.i 2)]))] (Ost rfl) <| Wm (.i 0) rfl <| Nn <| Rt <| Tr ?_
    obtain rfl := Option.some.inj hm
    exact ret_i []
   ·
    replace hm := cF hc20_6 hm
    refine AiF hc20_6 <| Sk <| Tk 86 3 ⟨tp 1 (.i p1::.loc 0 0::tp 1 (.loc 1 0::tp 1 (.s r10_0::tp 41 []))), [(.box [(.s p0.Text), (.i p0.At), (.i p0.E)]), (.box [(.s ([] : List UInt8)), (.i 0), (.i 0)])], 0⟩ <| Sq <| Sx <| Wm (.s r10_0) rfl <| Wz (.i ((List.length r10_0 : Nat) : Int)) (Oln rfl) <| Wm (.i p1) rfl <| Wz (.b (decide (((List.length r10_0 : Nat) : Int) < p1))) (Obn rfl (fun _ => hb_lss (k := .i64))) <| Nk 67108950 3 ⟨tp 1 (.i p1::.loc 0 0::tp 1 (.loc 1 0::tp 1 (.s r10_0::tp 19 (.b (decide (((List.length r10_0 : Nat) : Int) < p1))::tp 21 [])))), [(.box [(.s p0.Text), (.i p0.At), (.i p0.E)]), (.box [(.s ([] : List UInt8)), (.i 0), (.i 0)])], 0⟩ ?_
    rcases tf_ (decide (((List.length r10_0 : Nat) : Int) < p1)) with hc26_7 | hc26_7
    ·
     replace hm := cT hc26_7 hm
     refine AiT hc26_7 <| Sx <| Wz (.loc 0 2) (Ofa rfl) <| Wy (.tup []) [(0, (.box [(.s p0.Text), (.i p0.At), (.i 3)]))] (Ost rfl) <| Nk 20 3 ⟨tp 2 (.loc 0 0::tp 1 (.loc 1 0::tp 43 [])), [(.box [(.s p0.Text), (.i p0.At), (.i 3)]), (.box [(.s ([] : List UInt8)), (.i 0), (.i 0)])], 0⟩ <| Sx <| Wz (.agg [(.s p0.Text), (.i p0.At), (.i 3)]) (Old rfl) <| Wy (.tup []) [(1, (.box [(.s p0.Text), (.i p0.At), (.i 3)]))] (Ost rfl) <| Wm (.i 0) rfl <| Nn <| Rt <| Tr ?_
     obtain rfl := Option.some.inj hm
     exact ret_i []
    ·
     replace hm := cF hc26_7 hm
     refine AiF hc26_7 <| Sk <| Tk 86 3 ⟨tp 1 (.i p1::.loc 0 0::tp 1 (.loc 1 0::tp 1 (.s r10_0::tp 41 []))), [(.box [(.s p0.Text), (.i p0.At), (.i p0.E)]), (.box [(.s ([] : List UInt8)), (.i 0), (.i 0)])], 0⟩ <| Sx <| Wm (.i 0) rfl <| Nk 214 3 ⟨tp 1 (.i p1::.loc 0 0::tp 1 (.loc 1 0::tp 1 (.s r10_0::.i 0::tp 40 []))), [(.box [(.s p0.Text), (.i p0.At), (.i p0.E)]), (.box [(.s ([] : List UInt8)), (.i 0), (.i 0)])], 0⟩ <| Sq <| Sx <| Wm (.i 0) rfl <| Nk 470 3 ⟨tp 1 (.i p1::.loc 0 0::tp 1 (.loc 1 0::tp 1 (.s r10_0::.i 0::.i 0::tp 39 []))), [(.box [(.s p0.Text), (.i p0.At), (.i p0.E)]), (.box [(.s ([] : List UInt8)), (.i 0), (.i 0)])], 0⟩ <| Bk ?_
     refine AWP.loopI (α := Nat × Int × Int)
       (fun (fu_3, y7_3, y8_3) => (⟨tp 1 (.i p1::.loc 0 0::tp 1 (.loc 1 0::tp 1 (.s r10_0::.i y7_3::.i y8_3::tp 39 []))), [(.box [(.s p0.Text), (.i p0.At), (.i p0.E)]), (.box [(.s ([] : List UInt8)), (.i 0), (.i 0)])], 0⟩ : St))
       (fun (fu_3, y7_3, y8_3) => m_r01_RNum_l3 p0 p1 r10_0 fu_3 y7_3 y8_3 = some r)
       (fun (fu_3, y7_3, y8_3) => fu_3) (1152921504606846976, 0, 0)
       (Weak.toK 470 0 0 [0, 1]) hm ?_
     rintro ⟨fu_3, y7_3, y8_3⟩ n_3 hm ih_3
     try dsimp only at hm ih_3 ⊢
     cases fu_3 with
     | zero => exact absurd hm (by unfold m_r01_RNum_l3; simp)
     | succ fu_3 =>
      unfold m_r01_RNum_l3 at hm
      refine Sq <| Sx <| Wm (.i y8_3) rfl <| Wm (.i p1) rfl <| Wz (.b (decide (y8_3 < p1))) (Obn rfl (fun _ => hb_lss (k := .i64))) <| Nk 2147484118 3 ⟨tp 1 (.i p1::.loc 0 0::tp 1 (.loc 1 0::tp 1 (.s r10_0::.i y7_3::.i y8_3::tp 22 (.b (decide (y8_3 < p1))::tp 16 [])))), [(.box [(.s p0.Text), (.i p0.At), (.i p0.E)]), (.box [(.s ([] : List UInt8)), (.i 0), (.i 0)])], 0⟩ ?_
      rcases tf_ (decide (y8_3 < p1)) with hc31_8 | hc31_8
      ·
       replace hm := cT hc31_8 hm
       refine AiT hc31_8 <| Sk <| Tk 470 3 ⟨tp 1 (.i p1::.loc 0 0::tp 1 (.loc 1 0::tp 1 (.s r10_0::.i y7_3::.i y8_3::tp 39 []))), [(.box [(.s p0.Text), (.i p0.At), (.i p0.E)]), (.box [(.s ([] : List UInt8)), (.i 0), (.i 0)])], 0⟩ <| Sq <| Bk <| Tx <| Wm (.i y7_3) rfl <| Wz (.i (W6 (y7_3 * 256))) (Obn rfl (fun _ => hb_mul (k := .i64))) <| Wm (.s r10_0) rfl <| Wm (.i y8_3) rfl ?_
       obtain ⟨x38_4, hx38_4, hm⟩ := bnd hm
       obtain ⟨hx38_4i, hx38_4g⟩ := geti_some hx38_4
       refine Wz (.y x38_4) (Ocs (by kernel_rfl) (op_index_str rfl (by kernel_rfl) (s := toS r10_0) (by kernel_rfl) (k := .i64) (iv := y8_3) (by kernel_rfl) (i := (Int.toNat y8_3)) (hx38_4i) (b := x38_4) (hx38_4g))) <| Wz (.i ((x38_4.toNat : Nat) : Int)) (Ocs (lit_int (wrap_of_u8 (by decide) _)) (op_convert rfl (a1 := .int .u8 ((x38_4.toNat : Nat) : Int)) (by kernel_rfl) (run_conv (ds := .int .u8) (k' := .i64) (by kernel_rfl) (by kernel_rfl)))) <| Wz (.i (W6 ((W6 (y7_3 * 256)) + ((x38_4.toNat : Nat) : Int)))) (Obn rfl (fun _ => hb_add (k := .i64))) <| Wm (.i (W6 ((W6 (y7_3 * 256)) + ((x38_4.toNat : Nat) : Int)))) rfl <| Wn0 <| Ino <| Tk 470 3 ⟨tp 1 (.i p1::.loc 0 0::tp 1 (.loc 1 0::tp 1 (.s r10_0::.i (W6 ((W6 (y7_3 * 256)) + ((x38_4.toNat : Nat) : Int)))::.i y8_3::tp 39 []))), [(.box [(.s p0.Text), (.i p0.At), (.i p0.E)]), (.box [(.s ([] : List UInt8)), (.i 0), (.i 0)])], 0⟩ <| Tx <| Wm (.i y8_3) rfl <| Wz (.i (W6 (y8_3 + 1))) (Obn rfl (fun _ => hb_add (k := .i64))) <| Wm (.i (W6 (y8_3 + 1))) rfl <| Wn0 <| RoundK.normal ?_
       exact Rounds.weak (Weak.toK 470 0 0 [0, 1]) (ih_3 (fu_3, (W6 ((W6 (y7_3 * 256)) + ((x38_4.toNat : Nat) : Int))), (W6 (y8_3 + 1))) hm (Nat.lt_succ_self _))
      ·
       replace hm := cF hc31_8 hm
       refine AiF hc31_8 <| AWP.exit <| Then.exit <| RoundK.exit <| InBlock.same <| Tk 150 3 ⟨tp 1 (.i p1::.loc 0 0::tp 1 (.loc 1 0::tp 2 (.i y7_3::tp 40 []))), [(.box [(.s p0.Text), (.i p0.At), (.i p0.E)]), (.box [(.s ([] : List UInt8)), (.i 0), (.i 0)])], 0⟩ <| Sx <| Wz (.loc 0 1) (Ofa rfl) <| Wz (.i p0.At) (Old rfl) <| Wm (.i p1) rfl <| Wz (.i (W6 (p0.At + p1))) (Obn rfl (fun _ => hb_add (k := .i64))) <| Wz (.loc 0 1) (Ofa rfl) <| Wy (.tup []) [(0, (.box [(.s p0.Text), (.i (W6 (p0.At + p1))), (.i p0.E)]))] (Ost rfl) <| Nk 148 3 ⟨tp 2 (.loc 0 0::tp 1 (.loc 1 0::tp 2 (.i y7_3::tp 40 []))), [(.box [(.s p0.Text), (.i (W6 (p0.At + p1))), (.i p0.E)]), (.box [(.s ([] : List UInt8)), (.i 0), (.i 0)])], 0⟩ ?_
       refine Sx <| Wz (.agg [(.s p0.Text), (.i (W6 (p0.At + p1))), (.i p0.E)]) (Old rfl) <| Wm (.i y7_3) rfl <| Wy (.tup []) [(1, (.box [(.s p0.Text), (.i (W6 (p0.At + p1))), (.i p0.E)]))] (Ost rfl) <| Wm (.i y7_3) rfl <| Nn <| Rt ?_
       obtain rfl := Option.some.inj hm
       exact ret_i []

theorem ok_r01_RStr (p0 : GReader) (r : (GReader × (List UInt8))) (h : m_r01_RStr p0 = some r) : GCall Tryd.prog 70 [(.agg [(.s p0.Text), (.i p0.At), (.i p0.E)])] [] (.tup [(.agg [(.s r.1.Text), (.i r.1.At), (.i r.1.E)]), (.s r.2)]) [] := by
 refine GCall.of_body (n := 33) (rs := [(.cell 2 131), (.tmp 3)]) Tryd.func70 rfl rfl rfl <| Ato ⟨.agg [(.s p0.Text), (.i p0.At), (.i p0.E)]::tu 32 [], [], 0⟩ ?_
 have hm := h
 unfold m_r01_RStr at hm
 refine Sx <| Wy (.loc 0 0) [(0, (.box [(.s p0.Text), (.i p0.At), (.i p0.E)]))] (Obx rfl) <| Wy (.loc 1 0) [(1, (.box [(.s ([] : List UInt8)), (.i 0), (.i 0)]))] (Oal rfl) <| Wm (.s ([] : List UInt8)) rfl <| Nk 6 3 ⟨tp 1 (.loc 0 0::.loc 1 0::tp 30 []), [(.box [(.s p0.Text), (.i p0.At), (.i p0.E)]), (.box [(.s ([] : List UInt8)), (.i 0), (.i 0)])], 0⟩ <| Sx <| Wz (.agg [(.s p0.Text), (.i p0.At), (.i p0.E)]) (Old rfl) ?_
 obtain ⟨r9_0, hr9_0, hm⟩ := bnd hm
 refine Wz (.tup [(.agg [(.s r9_0.1.Text), (.i r9_0.1.At), (.i r9_0.1.E)]), (.i r9_0.2)]) (Ocf [] [] [] 0 (ok_r01_RNum p0 2 r9_0 hr9_0) (fun a w => Tryd.call93 a w) rfl trivial) <| Wm (.tup [(.agg [(.s r9_0.1.Text), (.i r9_0.1.At), (.i r9_0.1.E)]), (.i r9_0.2)]) rfl <| Wz (.agg [(.s r9_0.1.Text), (.i r9_0.1.At), (.i r9_0.1.E)]) (Oex rfl) <| Wz (.i r9_0.2) (Oex rfl) <| Wy (.loc 2 0) [(2, (.box [(.s ([] : List UInt8)), (.i 0), (.i 0)]))] (Oal rfl) <| Wy (.tup []) [(2, (.box [(.s r9_0.1.Text), (.i r9_0.1.At), (.i r9_0.1.E)]))] (Ost rfl) <| Wm (.i r9_0.2) rfl <| Nk 54 7 ⟨tp 1 (.loc 0 0::.loc 1 0::tp 1 (.loc 2 0::.i r9_0.2::tp 27 [])), [(.box [(.s p0.Text), (.i p0.At), (.i p0.E)]), (.box [(.s ([] : List UInt8)), (.i 0), (.i 0)]), (.box [(.s r9_0.1.Text), (.i r9_0.1.At), (.i r9_0.1.E)])], 0⟩ <| Sq <| Sx <| Wz (.loc 2 2) (Ofa rfl) <| Wz (.i r9_0.1.E) (Old rfl) <| Wz (.b (decide (r9_0.1.E ≠ 0))) (Obn rfl (fun _ => hb_neq (k := .i64))) <| Nk 16438 7 ⟨tp 1 (.loc 0 0::.loc 1 0::tp 1 (.loc 2 0::.i r9_0.2::tp 8 (.b (decide (r9_0.1.E ≠ 0))::tp 18 []))), [(.box [(.s p0.Text), (.i p0.At), (.i p0.E)]), (.box [(.s ([] : List UInt8)), (.i 0), (.i 0)]), (.box [(.s r9_0.1.Text), (.i r9_0.1.At), (.i r9_0.1.E)])], 0⟩ ?_
 rcases tf_ (decide (r9_0.1.E ≠ 0)) with hc14_4 | hc14_4
 ·
  replace hm := cT hc14_4 hm
  refine AiT hc14_4 <| Sx <| Wz (.agg [(.s r9_0.1.Text), (.i r9_0.1.At), (.i r9_0.1.E)]) (Old rfl) <| Wy (.tup []) [(1, (.box [(.s r9_0.1.Text), (.i r9_0.1.At), (.i r9_0.1.E)]))] (Ost rfl) <| Wm (.s ([] : List UInt8)) rfl <| Nn <| Rt <| Tr ?_
  obtain rfl := Option.some.inj hm
  exact ret_i []
 ·
  replace hm := cF hc14_4 hm
  refine AiF hc14_4 <| Sk <| Tk 54 7 ⟨tp 1 (.loc 0 0::.loc 1 0::tp 1 (.loc 2 0::.i r9_0.2::tp 27 [])), [(.box [(.s p0.Text), (.i p0.At), (.i p0.E)]), (.box [(.s ([] : List UInt8)), (.i 0), (.i 0)]), (.box [(.s r9_0.1.Text), (.i r9_0.1.At), (.i r9_0.1.E)])], 0⟩ <| Sx <| Wz (.agg [(.s r9_0.1.Text), (.i r9_0.1.At), (.i r9_0.1.E)]) (Old rfl) ?_
  obtain ⟨r17_1, hr17_1, hm⟩ := bnd hm
  refine Wz (.s r17_1) (Ocf [] [] [] 0 (ok_r01_rest r9_0.1 r17_1 hr17_1) (fun a w => Tryd.call94 a w) rfl trivial) <| Wm (.s r17_1) rfl <| Nk 118 7 ⟨tp 1 (.loc 0 0::.loc 1 0::tp 1 (.loc 2 0::.i r9_0.2::.s r17_1::tp 26 [])), [(.box [(.s p0.Text), (.i p0.At), (.i p0.E)]), (.box [(.s ([] : List UInt8)), (.i 0), (.i 0)]), (.box [(.s r9_0.1.Text), (.i r9_0.1.At), (.i r9_0.1.E)])], 0⟩ <| Sq <| Sx <| Wm (.s r17_1) rfl <| Wz (.i ((List.length r17_1 : Nat) : Int)) (Oln rfl) <| Wm (.i r9_0.2) rfl <| Wz (.b (decide (((List.length r17_1 : Nat) : Int) < r9_0.2))) (Obn rfl (fun _ => hb_lss (k := .i64))) <| Nk 2097270 7 ⟨tp 1 (.loc 0 0::.loc 1 0::tp 1 (.loc 2 0::.i r9_0.2::.s r17_1::tp 14 (.b (decide (((List.length r17_1 : Nat) : Int) < r9_0.2))::tp 11 []))), [(.box [(.s p0.Text), (.i p0.At), (.i p0.E)]), (.box [(.s ([] : List UInt8)), (.i 0), (.i 0)]), (.box [(.s r9_0.1.Text), (.i r9_0.1.At), (.i r9_0.1.E)])], 0⟩ ?_
  rcases tf_ (decide (((List.length r17_1 : Nat) : Int) < r9_0.2)) with hc21_5 | hc21_5
  ·
   replace hm := cT hc21_5 hm
   refine AiT hc21_5 <| Sx <| Wz (.loc 0 2) (Ofa rfl) <| Wy (.tup []) [(0, (.box [(.s p0.Text), (.i p0.At), (.i 3)]))] (Ost rfl) <| Nk 6 3 ⟨tp 1 (.loc 0 0::.loc 1 0::tp 30 []), [(.box [(.s p0.Text), (.i p0.At), (.i 3)]), (.box [(.s ([] : List UInt8)), (.i 0), (.i 0)]), .gone], 0⟩ <| Sx <| Wz (.agg [(.s p0.Text), (.i p0.At), (.i 3)]) (Old rfl) <| Wy (.tup []) [(1, (.box [(.s p0.Text), (.i p0.At), (.i 3)]))] (Ost rfl) <| Wm (.s ([] : List UInt8)) rfl <| Nn <| Rt <| Tr ?_
   obtain rfl := Option.some.inj hm
   exact ret_i []
  ·
   replace hm := cF hc21_5 hm
   refine AiF hc21_5 <| Sk <| Tk 116 6 ⟨tp 2 (.loc 1 0::tp 1 (.loc 2 0::.i r9_0.2::.s r17_1::tp 26 [])), [.gone, (.box [(.s ([] : List UInt8)), (.i 0), (.i 0)]), (.box [(.s r9_0.1.Text), (.i r9_0.1.At), (.i r9_0.1.E)])], 0⟩ <| Sx <| Wz (.loc 2 1) (Ofa rfl) <| Wz (.i r9_0.1.At) (Old rfl) <| Wm (.i r9_0.2) rfl <| Wz (.i (W6 (r9_0.1.At + r9_0.2))) (Obn rfl (fun _ => hb_add (k := .i64))) <| Wz (.loc 2 1) (Ofa rfl) <| Wy (.tup []) [(2, (.box [(.s r9_0.1.Text), (.i (W6 (r9_0.1.At + r9_0.2))), (.i r9_0.1.E)]))] (Ost rfl) <| Nk 116 6 ⟨tp 2 (.loc 1 0::tp 1 (.loc 2 0::.i r9_0.2::.s r17_1::tp 26 [])), [.gone, (.box [(.s ([] : List UInt8)), (.i 0), (.i 0)]), (.box [(.s r9_0.1.Text), (.i (W6 (r9_0.1.At + r9_0.2))), (.i r9_0.1.E)])], 0⟩ <| Sq <| Adr <| Wz (.agg [(.s r9_0.1.Text), (.i (W6 (r9_0.1.At + r9_0.2))), (.i r9_0.1.E)]) (Old rfl) ?_
   refine Wm (.s r17_1) rfl <| Wm (.i r9_0.2) rfl ?_
   obtain ⟨s32_3, hs32_3, hm⟩ := bnd hm; obtain ⟨hs32_3a, hs32_3b, hs32_3c, hs32_3d, hs32_3e⟩ := cut_some hs32_3
   refine Wz (.s s32_3) (Ocs (lit_str (toS_cut hs32_3e)) (op_slice_str rfl (by kernel_rfl) (s := toS r17_1) (by kernel_rfl) (l := (Int.toNat 0)) (h := (Int.toNat r9_0.2)) (by exact rfl) (⟨.i64, r9_0.2, by kernel_rfl, hs32_3b⟩) hs32_3c hs32_3d)) <| Wy (.tup []) [(1, (.box [(.s r9_0.1.Text), (.i (W6 (r9_0.1.At + r9_0.2))), (.i r9_0.1.E)]))] (Ost rfl) <| Wm (.s s32_3) rfl <| Wdr <| Tn <| Rt ?_
   obtain rfl := Option.some.inj hm
   exact ret_i []

theorem ok_r02_Take (p0 : (List UInt8)) (p1 : Int) (r : (Int × Int × Int)) (h : m_r02_Take p0 p1 = some r) : GCall Tryd.prog 73 [(.s p0), (.i p1)] [] (.tup [(.u r.1), (.i r.2.1), (.i r.2.2)]) [] := by
 refine GCall.of_body (n := 63) (rs := [(.tmp 4), (.tmp 5), (.tmp 6)]) Tryd.func73 rfl rfl rfl <| Ato ⟨.s p0::.i p1::tu 61 [], [], 0⟩ ?_
 have hm := h
 unfold m_r02_Take at hm
 refine Sx <| Wm (.u 0) rfl <| Wm (.i 0) rfl <| Wm (.i 0) rfl <| Nk 3 0 ⟨.s p0::.i p1::tp 61 [], [], 0⟩ <| Sq <| Sx <| Wm (.i p1) rfl <| Wz (.b (decide (p1 < 0))) (Obn rfl (fun _ => hb_lss (k := .i64))) ?_
 rcases tf_ (decide (p1 < 0)) with hq13_0 | hq13_0
 ·
  replace hm := cT hq13_0 hm
  refine Wz (.b true) (Oq hq13_0 rfl) <| Wn <| Wn <| Wn <| Wn <| Wz (.b true) (OpT rfl) <| Nk 262147 0 ⟨.s p0::.i p1::tp 16 (.b true::tp 44 []), [], 0⟩ <| AWP.if_ true (by kernel_rfl) <| Sx <| Wm (.u 0) rfl <| Wm (.i 0) rfl <| Wm (.i 2) rfl <| Nn <| Rt ?_
  refine Tr ?_
  obtain rfl := Option.some.inj hm
  exact ret_i []
 ·
  replace hm := cF hq13_0 hm
  refine Wz (.b false) (Oq hq13_0 rfl) <| Wm (.i p1) rfl <| Wm (.s p0) rfl <| Wz (.i ((List.length p0 : Nat) : Int)) (Oln rfl) <| Wz (.b (decide (((List.length p0 : Nat) : Int) < p1))) (Obn rfl (fun _ => hb_gtr (k := .i64))) <| Wz (.b (decide (((List.length p0 : Nat) : Int) < p1))) (OpF rfl) <| Nk 262147 0 ⟨.s p0::.i p1::tp 16 (.b (decide (((List.length p0 : Nat) : Int) < p1))::tp 44 []), [], 0⟩ ?_
  rcases tf_ (decide (((List.length p0 : Nat) : Int) < p1)) with hc18_10 | hc18_10
  ·
   replace hm := cT hc18_10 hm
   refine AiT hc18_10 <| Sx <| Wm (.u 0) rfl <| Wm (.i 0) rfl <| Wm (.i 2) rfl <| Nn <| Rt <| Tr ?_
   obtain rfl := Option.some.inj hm
   exact ret_i []
  ·
   replace hm := cF hc18_10 hm
   refine AiF hc18_10 <| Sk <| Tk 3 0 ⟨.s p0::.i p1::tp 61 [], [], 0⟩ <| Sx <| Wm (.u 0) rfl <| Wm (.u 1) rfl <| Nk 387 0 ⟨.s p0::.i p1::tp 5 (.u 0::.u 1::tp 54 []), [], 0⟩ <| Sq <| Sx <| Wm (.i 0) rfl <| Nk 899 0 ⟨.s p0::.i p1::tp 5 (.u 0::.u 1::.i 0::tp 53 []), [], 0⟩ <| Bk ?_
   refine AWP.loopI (α := Nat × Int × Int × Int)
     (fun (fu_1, y7_1, y8_1, y9_1) => (⟨.s p0::.i p1::tp 5 (.u y7_1::.u y8_1::.i y9_1::tp 53 []), [], 0⟩ : St))
     (fun (fu_1, y7_1, y8_1, y9_1) => m_r02_Take_l1 p0 p1 fu_1 y7_1 y8_1 y9_1 = some r)
     (fun (fu_1, y7_1, y8_1, y9_1) => fu_1) (1152921504606846976, 0, 1, 0)
     (Weak.toK 899 0 0 []) hm ?_
   rintro ⟨fu_1, y7_1, y8_1, y9_1⟩ n_1 hm ih_1
   try dsimp only at hm ih_1 ⊢
   cases fu_1 with
   | zero => exact absurd hm (by unfold m_r02_Take_l1; simp)
   | succ fu_1 =>
    unfold m_r02_Take_l1 at hm
    refine Sq <| Sx <| Wm (.i y9_1) rfl <| Wz (.b (decide (y9_1 < 10))) (Obn rfl (fun _ => hb_lss (k := .i64))) <| Nk 1049475 0 ⟨.s p0::.i p1::tp 5 (.u y7_1::.u y8_1::.i y9_1::tp 10 (.b (decide (y9_1 < 10))::tp 42 [])), [], 0⟩ ?_
    rcases tf_ (decide (y9_1 < 10)) with hc20_11 | hc20_11
    ·
     replace hm := cT hc20_11 hm
     refine AiT hc20_11 <| Sk <| Tk 899 0 ⟨.s p0::.i p1::tp 5 (.u y7_1::.u y8_1::.i y9_1::tp 53 []), [], 0⟩ <| Sq <| Bk <| Sq <| Sx <| Wm (.i y9_1) rfl <| Wm (.s p0) rfl <| Wz (.i ((List.length p0 : Nat) : Int)) (Oln rfl) <| Wm (.i p1) rfl <| Wz (.i (W6 (((List.length p0 : Nat) : Int) - p1))) (Obn rfl (fun _ => hb_sub (k := .i64))) <| Wz (.b (decide ((W6 (((List.length p0 : Nat) : Int) - p1)) ≤ y9_1))) (Obn rfl (fun _ => hb_geq (k := .i64))) <| Nk 268436355 0 ⟨.s p0::.i p1::tp 5 (.u y7_1::.u y8_1::.i y9_1::tp 18 (.b (decide ((W6 (((List.length p0 : Nat) : Int) - p1)) ≤ y9_1))::tp 34 [])), [], 0⟩ ?_
     rcases tf_ (decide ((W6 (((List.length p0 : Nat) : Int) - p1)) ≤ y9_1)) with hc28_12 | hc28_12
     ·
      replace hm := cT hc28_12 hm
      refine AiT hc28_12 <| Sx <| Wm (.u 0) rfl <| Wm (.i 0) rfl <| Wm (.i 3) rfl <| Nn <| Rt <| Tr <| Ir <| Tr <| RoundK.ret <| Ir <| Tr ?_
      obtain rfl := Option.some.inj hm
      exact ret_i []
     ·
      replace hm := cF hc28_12 hm
      refine AiF hc28_12 <| Sk <| Tk 899 0 ⟨.s p0::.i p1::tp 5 (.u y7_1::.u y8_1::.i y9_1::tp 53 []), [], 0⟩ <| Sx <| Wm (.s p0) rfl <| Wm (.i p1) rfl <| Wm (.i y9_1) rfl <| Wz (.i (W6 (p1 + y9_1))) (Obn rfl (fun _ => hb_add (k := .i64))) ?_
      obtain ⟨x33_3, hx33_3, hm⟩ := bnd hm
      obtain ⟨hx33_3i, hx33_3g⟩ := geti_some hx33_3
      refine Wz (.y x33_3) (Ocs (by kernel_rfl) (op_index_str rfl (by kernel_rfl) (s := toS p0) (by kernel_rfl) (k := .i64) (iv := (W6 (p1 + y9_1))) (by kernel_rfl) (i := (Int.toNat (W6 (p1 + y9_1)))) (hx33_3i) (b := x33_3) (hx33_3g))) <| Wz (.i ((x33_3.toNat : Nat) : Int)) (Ocs (lit_int (wrap_of_u8 (by decide) _)) (op_convert rfl (a1 := .int .u8 ((x33_3.toNat : Nat) : Int)) (by kernel_rfl) (run_conv (ds := .int .u8) (k' := .i64) (by kernel_rfl) (by kernel_rfl)))) <| Wm (.i ((x33_3.toNat : Nat) : Int)) rfl <| Nk 1923 0 ⟨.s p0::.i p1::tp 5 (.u y7_1::.u y8_1::.i y9_1::.i ((x33_3.toNat : Nat) : Int)::tp 52 []), [], 0⟩ ?_
      refine AWP.cutJ (α := Unit) (fun x => match x with | () => (⟨.s p0::.i p1::tp 5 (.u y7_1::.u y8_1::.i y9_1::.i ((x33_3.toNat : Nat) : Int)::tp 52 []), [], 0⟩ : St)) (fun x => match x with | () => m_r02_Take_j8 p1 x33_3 y7_1 y8_1 y9_1 (fun y7_1 y8_1 y9_1 => m_r02_Take_l1 p0 p1 fu_1 y7_1 y8_1 y9_1) = some r) ?_ (fun J8 => ?_)
      ·
       rintro ⟨⟩ hm
       try dsimp only at hm ⊢
       unfold m_r02_Take_j8 at hm
       refine AWP.cutJ (α := Unit) (fun x => match x with | () => (⟨.s p0::.i p1::tp 5 (.u y7_1::.u y8_1::.i y9_1::.i ((x33_3.toNat : Nat) : Int)::tp 52 []), [], 0⟩ : St)) (fun x => match x with | () => m_r02_Take_j9 p1 x33_3 y7_1 y8_1 y9_1 (fun y7_1 y8_1 y9_1 => m_r02_Take_l1 p0 p1 fu_1 y7_1 y8_1 y9_1) = some r) ?_ (fun J9 => ?_)
       ·
        rintro ⟨⟩ hm
        try dsimp only at hm ⊢
        unfold m_r02_Take_j9 at hm
        refine Sx <| Wm (.u y7_1) rfl <| Wm (.i ((x33_3.toNat : Nat) : Int)) rfl <| Wz (.i (Int.tmod ((x33_3.toNat : Nat) : Int) 128)) (Ob2 (.int .i64 ((x33_3.toNat : Nat) : Int)) (.int .i64 128) rfl (fun _ => hb_rem (by decide))) <| Wz (.u (W7 (Int.tmod ((x33_3.toNat : Nat) : Int) 128))) (Oc2 (.int .i64 (Int.tmod ((x33_3.toNat : Nat) : Int) 128)) rfl (run_conv (ds := .int .i64) (k' := .u64) (by kernel_rfl) (by kernel_rfl))) <| Wm (.u y8_1) rfl <| Wz (.u (W7 ((W7 (Int.tmod ((x33_3.toNat : Nat) : Int) 128)) * y8_1))) (Obn rfl (fun _ => hb_mul (k := .u64))) ?_
        obtain ⟨v53_6, hv53_6, hm⟩ := bnd hm; replace hv53_6 := Option.some.inj hv53_6
        refine Wz (.u v53_6) (Ocs (congrArg (fun z => A.d (.lit (.int .u64 z))) hv53_6) (Obn rfl (fun _ => hb_add (k := .u64)))) <| Wm (.u v53_6) rfl <| Nk 1923 0 ⟨.s p0::.i p1::tp 5 (.u v53_6::.u y8_1::.i y9_1::.i ((x33_3.toNat : Nat) : Int)::tp 52 []), [], 0⟩ <| Sx <| Wm (.u y8_1) rfl <| Wz (.u (W7 (y8_1 * 128))) (Obn rfl (fun _ => hb_mul (k := .u64))) <| Wm (.u (W7 (y8_1 * 128))) rfl <| Nk 1923 0 ⟨.s p0::.i p1::tp 5 (.u v53_6::.u (W7 (y8_1 * 128))::.i y9_1::.i ((x33_3.toNat : Nat) : Int)::tp 52 []), [], 0⟩ <| Sx <| Wm (.i ((x33_3.toNat : Nat) : Int)) rfl <| Wz (.b (decide (((x33_3.toNat : Nat) : Int) < 128))) (Obn rfl (fun _ => hb_lss (k := .i64))) <| Nk 144115188075856771 0 ⟨.s p0::.i p1::tp 5 (.u v53_6::.u (W7 (y8_1 * 128))::.i y9_1::tp 47 (.b (decide (((x33_3.toNat : Nat) : Int) < 128))::tp 5 [])), [], 0⟩ ?_
        rcases tf_ (decide (((x33_3.toNat : Nat) : Int) < 128)) with hc57_13 | hc57_13
        ·
         replace hm := cT hc57_13 hm
         refine AiT hc57_13 <| Sx <| Wm (.u v53_6) rfl <| Wm (.i p1) rfl <| Wm (.i y9_1) rfl <| Wz (.i (W6 (p1 + y9_1))) (Obn rfl (fun _ => hb_add (k := .i64))) <| Wz (.i (W6 ((W6 (p1 + y9_1)) + 1))) (Obn rfl (fun _ => hb_add (k := .i64))) <| Wm (.u v53_6) rfl <| Wm (.i (W6 ((W6 (p1 + y9_1)) + 1))) rfl <| Wm (.i 0) rfl <| Nn <| Rt <| Ir <| Tr ?_
         refine RoundK.ret <| Ir <| Tr ?_
         obtain rfl := Option.some.inj hm
         exact ret_i []
        ·
         replace hm := cF hc57_13 hm
         refine AiF hc57_13 <| Sk <| Ino <| Tk 899 0 ⟨.s p0::.i p1::tp 5 (.u v53_6::.u (W7 (y8_1 * 128))::.i y9_1::tp 53 []), [], 0⟩ <| Tx <| Wm (.i y9_1) rfl <| Wz (.i (W6 (y9_1 + 1))) (Obn rfl (fun _ => hb_add (k := .i64))) <| Wm (.i (W6 (y9_1 + 1))) rfl <| Wn0 <| RoundK.normal ?_
         exact Rounds.weak (Weak.toK 899 0 0 []) (ih_1 (fu_1, v53_6, (W7 (y8_1 * 128)), (W6 (y9_1 + 1))) hm (Nat.lt_succ_self _))
       refine Sq <| Sx <| Wm (.i ((x33_3.toNat : Nat) : Int)) rfl <| Wz (.b (decide (((x33_3.toNat : Nat) : Int) = 0))) (Obn rfl (fun _ => hb_eql (k := .i64))) ?_
       rcases tf_ (decide (((x33_3.toNat : Nat) : Int) = 0)) with hq43_4 | hq43_4
       ·
        replace hm := cT hq43_4 hm
        refine Wz (.b true) (Oq hq43_4 rfl) <| Wm (.i y9_1) rfl <| Wz (.b (decide ((0 : Int) < y9_1))) (Obn rfl (fun _ => hb_gtr (k := .i64))) <| Wz (.b (decide ((0 : Int) < y9_1))) (OpT rfl) <| Nk 70368744179587 0 ⟨.s p0::.i p1::tp 5 (.u y7_1::.u y8_1::.i y9_1::.i ((x33_3.toNat : Nat) : Int)::tp 35 (.b (decide ((0 : Int) < y9_1))::tp 16 [])), [], 0⟩ ?_
        rcases tf_ (decide ((0 : Int) < y9_1)) with hc46_5 | hc46_5
        ·
         replace hm := cT hc46_5 hm
         refine AiT hc46_5 <| Sx <| Wm (.u 0) rfl <| Wm (.i 0) rfl <| Wm (.i 4) rfl <| Nn <| Rt <| Tr <| Ir <| Tr <| RoundK.ret <| Ir <| Tr ?_
         obtain rfl := Option.some.inj hm
         exact ret_i []
        ·
         replace hm := cF hc46_5 hm
         refine AiF hc46_5 <| Sk <| Tn ?_
         exact AWP.weak (Weak.toK 1923 0 0 []) (J9 () hm)
       ·
        replace hm := cF hq43_4 hm
        refine Wz (.b false) (Oq hq43_4 rfl) <| Wn <| Wn <| Wz (.b false) (OpF rfl) <| Nk 70368744179587 0 ⟨.s p0::.i p1::tp 5 (.u y7_1::.u y8_1::.i y9_1::.i ((x33_3.toNat : Nat) : Int)::tp 35 (.b false::tp 16 [])), [], 0⟩ <| AWP.if_ false (by kernel_rfl) <| Sk <| Tn ?_
        exact AWP.weak (Weak.toK 1923 0 0 []) (J9 () hm)
      refine Sq <| Sx <| Wm (.i y9_1) rfl <| Wz (.b (decide (y9_1 = 9))) (Obn rfl (fun _ => hb_eql (k := .i64))) ?_
      rcases tf_ (decide (y9_1 = 9)) with hq37_7 | hq37_7
      ·
       replace hm := cT hq37_7 hm
       refine Wz (.b true) (Oq hq37_7 rfl) <| Wm (.i ((x33_3.toNat : Nat) : Int)) rfl <| Wz (.b (decide ((1 : Int) < ((x33_3.toNat : Nat) : Int)))) (Obn rfl (fun _ => hb_gtr (k := .i64))) <| Wz (.b (decide ((1 : Int) < ((x33_3.toNat : Nat) : Int)))) (OpT rfl) <| Nk 1099511629699 0 ⟨.s p0::.i p1::tp 5 (.u y7_1::.u y8_1::.i y9_1::.i ((x33_3.toNat : Nat) : Int)::tp 29 (.b (decide ((1 : Int) < ((x33_3.toNat : Nat) : Int)))::tp 22 [])), [], 0⟩ ?_
       rcases tf_ (decide ((1 : Int) < ((x33_3.toNat : Nat) : Int))) with hc40_14 | hc40_14
       ·
        replace hm := cT hc40_14 hm
        refine AiT hc40_14 <| Sx <| Wm (.u 0) rfl <| Wm (.i 0) rfl <| Wm (.i 8) rfl <| Nn <| Rt <| Tr <| Ir <| Tr <| RoundK.ret <| Ir <| Tr ?_
        obtain rfl := Option.some.inj hm
        exact ret_i []
       ·
        replace hm := cF hc40_14 hm
        refine AiF hc40_14 <| Sk <| Tn ?_
        exact AWP.weak (Weak.toK 1923 0 0 []) (J8 () hm)
      ·
       replace hm := cF hq37_7 hm
       refine Wz (.b false) (Oq hq37_7 rfl) <| Wn <| Wn <| Wz (.b false) (OpF rfl) <| Nk 1099511629699 0 ⟨.s p0::.i p1::tp 5 (.u y7_1::.u y8_1::.i y9_1::.i ((x33_3.toNat : Nat) : Int)::tp 29 (.b false::tp 22 [])), [], 0⟩ <| AWP.if_ false (by kernel_rfl) <| Sk <| Tn ?_
       exact AWP.weak (Weak.toK 1923 0 0 []) (J8 () hm)
    ·
     replace hm := cF hc20_11 hm
     refine AiF hc20_11 <| AWP.exit <| Then.exit <| RoundK.exit <| InBlock.same <| Tk 0 0 ⟨tp 63 [], [], 0⟩ <| Sx <| Wm (.u 0) rfl <| Wm (.i 0) rfl <| Wm (.i 8) rfl <| Nn <| Rt ?_
     obtain rfl := Option.some.inj hm
     exact ret_i []

theorem ok_r01_RWord (p0 : GReader) (r : (GReader × Int)) (h : m_r01_RWord p0 = some r) : GCall Tryd.prog 108 [(.agg [(.s p0.Text), (.i p0.At), (.i p0.E)])] [] (.tup [(.agg [(.s r.1.Text), (.i r.1.At), (.i r.1.E)]), (.u r.2)]) [] := by
 refine GCall.of_body (n := 35) (rs := [(.cell 2 131), (.tmp 3)]) Tryd.func108 rfl rfl rfl <| Ato ⟨.agg [(.s p0.Text), (.i p0.At), (.i p0.E)]::tu 34 [], [], 0⟩ ?_
 have hm := h
 unfold m_r01_RWord at hm
 refine Sx <| Wy (.loc 0 0) [(0, (.box [(.s p0.Text), (.i p0.At), (.i p0.E)]))] (Obx rfl) <| Wy (.loc 1 0) [(1, (.box [(.s ([] : List UInt8)), (.i 0), (.i 0)]))] (Oal rfl) <| Wm (.u 0) rfl <| Nk 6 3 ⟨tp 1 (.loc 0 0::.loc 1 0::tp 32 []), [(.box [(.s p0.Text), (.i p0.At), (.i p0.E)]), (.box [(.s ([] : List UInt8)), (.i 0), (.i 0)])], 0⟩ <| Sx <| Wz (.agg [(.s p0.Text), (.i p0.At), (.i p0.E)]) (Old rfl) ?_
 obtain ⟨r8_0, hr8_0, hm⟩ := bnd hm
 refine Wz (.s r8_0) (Ocf [] [] [] 0 (ok_r01_rest p0 r8_0 hr8_0) (fun a w => Tryd.call94 a w) rfl trivial) <| Wm (.s r8_0) rfl <| Nk 22 3 ⟨tp 1 (.loc 0 0::.loc 1 0::tp 1 (.s r8_0::tp 30 [])), [(.box [(.s p0.Text), (.i p0.At), (.i p0.E)]), (.box [(.s ([] : List UInt8)), (.i 0), (.i 0)])], 0⟩ <| Sq <| Sx <| Wz (.loc 0 2) (Ofa rfl) <| Wz (.i p0.E) (Old rfl) <| Wz (.b (decide (p0.E ≠ 0))) (Obn rfl (fun _ => hb_neq (k := .i64))) <| Nk 2070 3 ⟨tp 1 (.loc 0 0::.loc 1 0::tp 1 (.s r8_0::tp 6 (.b (decide (p0.E ≠ 0))::tp 23 []))), [(.box [(.s p0.Text), (.i p0.At), (.i p0.E)]), (.box [(.s ([] : List UInt8)), (.i 0), (.i 0)])], 0⟩ ?_
 rcases tf_ (decide (p0.E ≠ 0)) with hc11_4 | hc11_4
 ·
  replace hm := cT hc11_4 hm
  refine AiT hc11_4 <| Sx <| Wz (.agg [(.s p0.Text), (.i p0.At), (.i p0.E)]) (Old rfl) <| Wy (.tup []) [(1, (.box [(.s p0.Text), (.i p0.At), (.i p0.E)]))] (Ost rfl) <| Wm (.u 0) rfl <| Nn <| Rt <| Tr ?_
  obtain rfl := Option.some.inj hm
  exact ret_i []
 ·
  replace hm := cF hc11_4 hm
  refine AiF hc11_4 <| Sk <| Tk 22 3 ⟨tp 1 (.loc 0 0::.loc 1 0::tp 1 (.s r8_0::tp 30 [])), [(.box [(.s p0.Text), (.i p0.At), (.i p0.E)]), (.box [(.s ([] : List UInt8)), (.i 0), (.i 0)])], 0⟩ <| Sq <| Sx <| Wm (.s r8_0) rfl <| Wz (.i ((List.length r8_0 : Nat) : Int)) (Oln rfl) <| Wz (.b (decide (((List.length r8_0 : Nat) : Int) < 8))) (Obn rfl (fun _ => hb_lss (k := .i64))) <| Nk 32790 3 ⟨tp 1 (.loc 0 0::.loc 1 0::tp 1 (.s r8_0::tp 10 (.b (decide (((List.length r8_0 : Nat) : Int) < 8))::tp 19 []))), [(.box [(.s p0.Text), (.i p0.At), (.i p0.E)]), (.box [(.s ([] : List UInt8)), (.i 0), (.i 0)])], 0⟩ ?_
  rcases tf_ (decide (((List.length r8_0 : Nat) : Int) < 8)) with hc15_5 | hc15_5
  ·
   replace hm := cT hc15_5 hm
   refine AiT hc15_5 <| Sx <| Wz (.loc 0 2) (Ofa rfl) <| Wy (.tup []) [(0, (.box [(.s p0.Text), (.i p0.At), (.i 3)]))] (Ost rfl) <| Nk 6 3 ⟨tp 1 (.loc 0 0::.loc 1 0::tp 32 []), [(.box [(.s p0.Text), (.i p0.At), (.i 3)]), (.box [(.s ([] : List UInt8)), (.i 0), (.i 0)])], 0⟩ <| Sx <| Wz (.agg [(.s p0.Text), (.i p0.At), (.i 3)]) (Old rfl) <| Wy (.tup []) [(1, (.box [(.s p0.Text), (.i p0.At), (.i 3)]))] (Ost rfl) <| Wm (.u 0) rfl <| Nn <| Rt <| Tr ?_
   obtain rfl := Option.some.inj hm
   exact ret_i []
  ·
   replace hm := cF hc15_5 hm
   refine AiF hc15_5 <| Sk <| Tk 22 3 ⟨tp 1 (.loc 0 0::.loc 1 0::tp 1 (.s r8_0::tp 30 [])), [(.box [(.s p0.Text), (.i p0.At), (.i p0.E)]), (.box [(.s ([] : List UInt8)), (.i 0), (.i 0)])], 0⟩ <| Sx <| Wm (.u 0) rfl <| Nk 54 3 ⟨tp 1 (.loc 0 0::.loc 1 0::tp 1 (.s r8_0::.u 0::tp 29 [])), [(.box [(.s p0.Text), (.i p0.At), (.i p0.E)]), (.box [(.s ([] : List UInt8)), (.i 0), (.i 0)])], 0⟩ <| Sq <| Sx <| Wm (.i 0) rfl <| Nk 118 3 ⟨tp 1 (.loc 0 0::.loc 1 0::tp 1 (.s r8_0::.u 0::.i 0::tp 28 [])), [(.box [(.s p0.Text), (.i p0.At), (.i p0.E)]), (.box [(.s ([] : List UInt8)), (.i 0), (.i 0)])], 0⟩ <| Bk ?_
   refine AWP.loopI (α := Nat × Int × Int)
     (fun (fu_2, y5_2, y6_2) => (⟨tp 1 (.loc 0 0::.loc 1 0::tp 1 (.s r8_0::.u y5_2::.i y6_2::tp 28 [])), [(.box [(.s p0.Text), (.i p0.At), (.i p0.E)]), (.box [(.s ([] : List UInt8)), (.i 0), (.i 0)])], 0⟩ : St))
     (fun (fu_2, y5_2, y6_2) => m_r01_RWord_l2 p0 r8_0 fu_2 y5_2 y6_2 = some r)
     (fun (fu_2, y5_2, y6_2) => fu_2) (1152921504606846976, 0, 0)
     (Weak.toK 118 0 0 [0, 1]) hm ?_
   rintro ⟨fu_2, y5_2, y6_2⟩ n_2 hm ih_2
   try dsimp only at hm ih_2 ⊢
   cases fu_2 with
   | zero => exact absurd hm (by unfold m_r01_RWord_l2; simp)
   | succ fu_2 =>
    unfold m_r01_RWord_l2 at hm
    refine Sq <| Sx <| Wm (.i y6_2) rfl <| Wz (.b (decide (y6_2 < 8))) (Obn rfl (fun _ => hb_lss (k := .i64))) <| Nk 524406 3 ⟨tp 1 (.loc 0 0::.loc 1 0::tp 1 (.s r8_0::.u y5_2::.i y6_2::tp 12 (.b (decide (y6_2 < 8))::tp 15 []))), [(.box [(.s p0.Text), (.i p0.At), (.i p0.E)]), (.box [(.s ([] : List UInt8)), (.i 0), (.i 0)])], 0⟩ ?_
    rcases tf_ (decide (y6_2 < 8)) with hc19_6 | hc19_6
    ·
     replace hm := cT hc19_6 hm
     refine AiT hc19_6 <| Sk <| Tk 118 3 ⟨tp 1 (.loc 0 0::.loc 1 0::tp 1 (.s r8_0::.u y5_2::.i y6_2::tp 28 [])), [(.box [(.s p0.Text), (.i p0.At), (.i p0.E)]), (.box [(.s ([] : List UInt8)), (.i 0), (.i 0)])], 0⟩ <| Sq <| Bk <| Tx <| Wm (.u y5_2) rfl <| Wz (.u (W7 (y5_2 * 256))) (Obn rfl (fun _ => hb_mul (k := .u64))) <| Wm (.s r8_0) rfl <| Wm (.i y6_2) rfl ?_
     obtain ⟨x26_3, hx26_3, hm⟩ := bnd hm
     obtain ⟨hx26_3i, hx26_3g⟩ := geti_some hx26_3
     refine Wz (.y x26_3) (Ocs (by kernel_rfl) (op_index_str rfl (by kernel_rfl) (s := toS r8_0) (by kernel_rfl) (k := .i64) (iv := y6_2) (by kernel_rfl) (i := (Int.toNat y6_2)) (hx26_3i) (b := x26_3) (hx26_3g))) <| Wz (.u ((x26_3.toNat : Nat) : Int)) (Ocs (lit_int (wrap_of_u8 (by decide) _)) (op_convert rfl (a1 := .int .u8 ((x26_3.toNat : Nat) : Int)) (by kernel_rfl) (run_conv (ds := .int .u8) (k' := .u64) (by kernel_rfl) (by kernel_rfl)))) <| Wz (.u (W7 ((W7 (y5_2 * 256)) + ((x26_3.toNat : Nat) : Int)))) (Obn rfl (fun _ => hb_add (k := .u64))) <| Wm (.u (W7 ((W7 (y5_2 * 256)) + ((x26_3.toNat : Nat) : Int)))) rfl <| Wn0 <| Ino <| Tk 118 3 ⟨tp 1 (.loc 0 0::.loc 1 0::tp 1 (.s r8_0::.u (W7 ((W7 (y5_2 * 256)) + ((x26_3.toNat : Nat) : Int)))::.i y6_2::tp 28 [])), [(.box [(.s p0.Text), (.i p0.At), (.i p0.E)]), (.box [(.s ([] : List UInt8)), (.i 0), (.i 0)])], 0⟩ <| Tx <| Wm (.i y6_2) rfl <| Wz (.i (W6 (y6_2 + 1))) (Obn rfl (fun _ => hb_add (k := .i64))) <| Wm (.i (W6 (y6_2 + 1))) rfl <| Wn0 <| RoundK.normal ?_
     exact Rounds.weak (Weak.toK 118 0 0 [0, 1]) (ih_2 (fu_2, (W7 ((W7 (y5_2 * 256)) + ((x26_3.toNat : Nat) : Int))), (W6 (y6_2 + 1))) hm (Nat.lt_succ_self _))
    ·
     replace hm := cF hc19_6 hm
     refine AiF hc19_6 <| AWP.exit <| Then.exit <| RoundK.exit <| InBlock.same <| Tk 38 3 ⟨tp 1 (.loc 0 0::.loc 1 0::tp 2 (.u y5_2::tp 29 [])), [(.box [(.s p0.Text), (.i p0.At), (.i p0.E)]), (.box [(.s ([] : List UInt8)), (.i 0), (.i 0)])], 0⟩ <| Sx <| Wz (.loc 0 1) (Ofa rfl) <| Wz (.i p0.At) (Old rfl) <| Wz (.i (W6 (p0.At + 8))) (Obn rfl (fun _ => hb_add (k := .i64))) <| Wz (.loc 0 1) (Ofa rfl) <| Wy (.tup []) [(0, (.box [(.s p0.Text), (.i (W6 (p0.At + 8))), (.i p0.E)]))] (Ost rfl) <| Nk 38 3 ⟨tp 1 (.loc 0 0::.loc 1 0::tp 2 (.u y5_2::tp 29 [])), [(.box [(.s p0.Text), (.i (W6 (p0.At + 8))), (.i p0.E)]), (.box [(.s ([] : List UInt8)), (.i 0), (.i 0)])], 0⟩ <| Sx ?_
     refine Wz (.agg [(.s p0.Text), (.i (W6 (p0.At + 8))), (.i p0.E)]) (Old rfl) <| Wm (.u y5_2) rfl <| Wy (.tup []) [(1, (.box [(.s p0.Text), (.i (W6 (p0.At + 8))), (.i p0.E)]))] (Ost rfl) <| Wm (.u y5_2) rfl <| Nn <| Rt ?_
     obtain rfl := Option.some.inj hm
     exact ret_i []

theorem ok_r02_Back (p0 : Int) (r : Int) (h : m_r02_Back p0 = some r) : GCall Tryd.prog 74 [(.u p0)] [] (.i r) [] := by
 refine GCall.of_body (n := 14) (rs := [(.tmp 2)]) Tryd.func74 rfl rfl rfl <| Ato ⟨.u p0::tu 13 [], [], 0⟩ ?_
 have hm := h
 unfold m_r02_Back at hm
 refine Sx <| Wm (.i 0) rfl <| Nk 1 0 ⟨.u p0::tp 13 [], [], 0⟩ <| Sq <| Sx <| Wm (.u p0) rfl <| Wz (.u (Int.tmod p0 2)) (Ob2 (.int .u64 p0) (.int .u64 2) rfl (fun _ => hb_rem (by decide))) <| Wz (.b (decide ((Int.tmod p0 2) = 1))) (Obn rfl (fun _ => hb_eql (k := .u64))) <| Nk 33 0 ⟨.u p0::tp 4 (.b (decide ((Int.tmod p0 2) = 1))::tp 8 []), [], 0⟩ ?_
 rcases tf_ (decide ((Int.tmod p0 2) = 1)) with hc5_2 | hc5_2
 ·
  replace hm := cT hc5_2 hm
  refine AiT hc5_2 <| Sx <| Wm (.u p0) rfl <| Wz (.u (W7 (Int.tdiv p0 2))) (Ob2 (.int .u64 p0) (.int .u64 2) rfl (fun _ => hb_quo (by decide))) <| Wz (.i (W6 (W7 (Int.tdiv p0 2)))) (Oc2 (.int .u64 (W7 (Int.tdiv p0 2))) rfl (run_conv (ds := .int .u64) (k' := .i64) (by kernel_rfl) (by kernel_rfl))) <| Wz (.i (W6 (0 - (W6 (W7 (Int.tdiv p0 2)))))) (Ocs (by kernel_rfl) (op_un rfl (a1 := .int .i64 (W6 (W7 (Int.tdiv p0 2)))) (by kernel_rfl) (fun _ => hu_neg))) <| Wz (.i (W6 ((W6 (0 - (W6 (W7 (Int.tdiv p0 2))))) - 1))) (Obn rfl (fun _ => hb_sub (k := .i64))) <| Wm (.i (W6 ((W6 (0 - (W6 (W7 (Int.tdiv p0 2))))) - 1))) rfl <| Nn <| Rt <| Tr ?_
  obtain rfl := Option.some.inj hm
  exact ret_i []
 ·
  replace hm := cF hc5_2 hm
  refine AiF hc5_2 <| Sk <| Tk 1 0 ⟨.u p0::tp 13 [], [], 0⟩ <| Sx <| Wm (.u p0) rfl <| Wz (.u (W7 (Int.tdiv p0 2))) (Ob2 (.int .u64 p0) (.int .u64 2) rfl (fun _ => hb_quo (by decide))) <| Wz (.i (W6 (W7 (Int.tdiv p0 2)))) (Oc2 (.int .u64 (W7 (Int.tdiv p0 2))) rfl (run_conv (ds := .int .u64) (k' := .i64) (by kernel_rfl) (by kernel_rfl))) <| Wm (.i (W6 (W7 (Int.tdiv p0 2)))) rfl <| Nn <| Rt ?_
  obtain rfl := Option.some.inj hm
  exact ret_i []

theorem ok_r04_Take (p0 : (List UInt8)) (p1 : Int) (r : (GValue × Int × Int)) (h : m_r04_Take p0 p1 = some r) : GCall Tryd.prog 95 [(.s p0), (.i p1)] [] (.tup [(.agg [(.y r.1.Kind), (.i r.1.N), (.u r.1.Bits), (.s r.1.Text)]), (.i r.2.1), (.i r.2.2)]) [] := by
 refine GCall.of_body (n := 127) (rs := [(.cell 4 98), (.tmp 5), (.tmp 6)]) Tryd.func95 rfl rfl rfl <| Ato ⟨.s p0::.i p1::tu 125 [], [], 0⟩ ?_
 have hm := h
 unfold m_r04_Take at hm
 refine Sx <| Wy (.loc 0 0) [(0, (.box [(.y 0), (.i 0), (.u 0), (.s ([] : List UInt8))]))] (Oal rfl) <| Wm (.i 0) rfl <| Wm (.i 0) rfl <| Nk 19 1 ⟨.s p0::.i p1::tp 2 (.loc 0 0::tp 122 []), [(.box [(.y 0), (.i 0), (.u 0), (.s ([] : List UInt8))])], 0⟩ <| Sq <| Sx <| Wm (.i p1) rfl <| Wz (.b (decide (p1 < 0))) (Obn rfl (fun _ => hb_lss (k := .i64))) ?_
 rcases tf_ (decide (p1 < 0)) with hq17_0 | hq17_0
 ·
  replace hm := cT hq17_0 hm
  refine Wz (.b true) (Oq hq17_0 rfl) <| Wn <| Wn <| Wn <| Wn <| Wz (.b true) (OpT rfl) <| Nk 4194323 1 ⟨.s p0::.i p1::tp 2 (.loc 0 0::tp 17 (.b true::tp 104 [])), [(.box [(.y 0), (.i 0), (.u 0), (.s ([] : List UInt8))])], 0⟩ <| AWP.if_ true (by kernel_rfl) <| Sx <| Wz (.agg [(.y 0), (.i 0), (.u 0), (.s ([] : List UInt8))]) (Obd rfl) <| Wy (.tup []) [(0, (.box [(.y 0), (.i 0), (.u 0), (.s ([] : List UInt8))]))] (Ost rfl) <| Wm (.i 0) rfl <| Wm (.i 2) rfl <| Nn ?_
  refine Rt <| Tr ?_
  obtain rfl := Option.some.inj hm
  exact ret_i []
 ·
  replace hm := cF hq17_0 hm
  refine Wz (.b false) (Oq hq17_0 rfl) <| Wm (.i p1) rfl <| Wm (.s p0) rfl <| Wz (.i ((List.length p0 : Nat) : Int)) (Oln rfl) <| Wz (.b (decide (((List.length p0 : Nat) : Int) < p1))) (Obn rfl (fun _ => hb_gtr (k := .i64))) <| Wz (.b (decide (((List.length p0 : Nat) : Int) < p1))) (OpF rfl) <| Nk 4194323 1 ⟨.s p0::.i p1::tp 2 (.loc 0 0::tp 17 (.b (decide (((List.length p0 : Nat) : Int) < p1))::tp 104 [])), [(.box [(.y 0), (.i 0), (.u 0), (.s ([] : List UInt8))])], 0⟩ ?_
  rcases tf_ (decide (((List.length p0 : Nat) : Int) < p1)) with hc22_14 | hc22_14
  ·
   replace hm := cT hc22_14 hm
   refine AiT hc22_14 <| Sx <| Wz (.agg [(.y 0), (.i 0), (.u 0), (.s ([] : List UInt8))]) (Obd rfl) <| Wy (.tup []) [(0, (.box [(.y 0), (.i 0), (.u 0), (.s ([] : List UInt8))]))] (Ost rfl) <| Wm (.i 0) rfl <| Wm (.i 2) rfl <| Nn <| Rt <| Tr ?_
   obtain rfl := Option.some.inj hm
   exact ret_i []
  ·
   replace hm := cF hc22_14 hm
   refine AiF hc22_14 <| Sk <| Tk 19 1 ⟨.s p0::.i p1::tp 2 (.loc 0 0::tp 122 []), [(.box [(.y 0), (.i 0), (.u 0), (.s ([] : List UInt8))])], 0⟩ <| Sq <| Sx <| Wm (.i p1) rfl <| Wm (.s p0) rfl <| Wz (.i ((List.length p0 : Nat) : Int)) (Oln rfl) <| Wz (.b (decide (p1 = ((List.length p0 : Nat) : Int)))) (Obn rfl (fun _ => hb_eql (k := .i64))) <| Nk 134217747 1 ⟨.s p0::.i p1::tp 2 (.loc 0 0::tp 22 (.b (decide (p1 = ((List.length p0 : Nat) : Int)))::tp 99 [])), [(.box [(.y 0), (.i 0), (.u 0), (.s ([] : List UInt8))])], 0⟩ ?_
   rcases tf_ (decide (p1 = ((List.length p0 : Nat) : Int))) with hc27_15 | hc27_15
   ·
    replace hm := cT hc27_15 hm
    refine AiT hc27_15 <| Sx <| Wz (.agg [(.y 0), (.i 0), (.u 0), (.s ([] : List UInt8))]) (Obd rfl) <| Wy (.tup []) [(0, (.box [(.y 0), (.i 0), (.u 0), (.s ([] : List UInt8))]))] (Ost rfl) <| Wm (.i 0) rfl <| Wm (.i 3) rfl <| Nn <| Rt <| Tr ?_
    obtain rfl := Option.some.inj hm
    exact ret_i []
   ·
    replace hm := cF hc27_15 hm
    refine AiF hc27_15 <| Sk <| Tk 19 1 ⟨.s p0::.i p1::tp 2 (.loc 0 0::tp 122 []), [(.box [(.y 0), (.i 0), (.u 0), (.s ([] : List UInt8))])], 0⟩ <| Sx <| Wm (.s p0) rfl <| Wm (.i p1) rfl ?_
    obtain ⟨x31_2, hx31_2, hm⟩ := bnd hm
    obtain ⟨hx31_2i, hx31_2g⟩ := geti_some hx31_2
    refine Wz (.y x31_2) (Ocs (by kernel_rfl) (op_index_str rfl (by kernel_rfl) (s := toS p0) (by kernel_rfl) (k := .i64) (iv := p1) (by kernel_rfl) (i := (Int.toNat p1)) (hx31_2i) (b := x31_2) (hx31_2g))) <| Wz (.agg [(.y x31_2), (.i 0), (.u 0), (.s ([] : List UInt8))]) (Obd rfl) <| Wy (.loc 1 0) [(1, (.box [(.y 0), (.i 0), (.u 0), (.s ([] : List UInt8))]))] (Oal rfl) <| Wy (.tup []) [(1, (.box [(.y x31_2), (.i 0), (.u 0), (.s ([] : List UInt8))]))] (Ost rfl) <| Nk 147 3 ⟨.s p0::.i p1::tp 2 (.loc 0 0::tp 2 (.loc 1 0::tp 119 [])), [(.box [(.y 0), (.i 0), (.u 0), (.s ([] : List UInt8))]), (.box [(.y x31_2), (.i 0), (.u 0), (.s ([] : List UInt8))])], 0⟩ <| Sq <| Sx <| Wz (.loc 1 0) (Ofa rfl) <| Wz (.y x31_2) (Old rfl) <| Wz (.b (decide (((x31_2.toNat : Nat) : Int) < 1))) (Ob2 (.int .u8 ((x31_2.toNat : Nat) : Int)) (.int .u8 1) rfl (fun _ => hb_lss)) ?_
    rcases tf_ (decide (((x31_2.toNat : Nat) : Int) < 1)) with hq36_3 | hq36_3
    ·
     replace hm := cT hq36_3 hm
     refine Wz (.b true) (Oq hq36_3 rfl) <| Wn <| Wn <| Wn <| Wz (.b true) (OpT rfl) <| Nk 1099511627923 3 ⟨.s p0::.i p1::tp 2 (.loc 0 0::tp 2 (.loc 1 0::tp 32 (.b true::tp 86 []))), [(.box [(.y 0), (.i 0), (.u 0), (.s ([] : List UInt8))]), (.box [(.y x31_2), (.i 0), (.u 0), (.s ([] : List UInt8))])], 0⟩ <| AWP.if_ true (by kernel_rfl) <| Sx <| Wz (.agg [(.y 0), (.i 0), (.u 0), (.s ([] : List UInt8))]) (Obd rfl) <| Wy (.tup []) [(0, (.box [(.y 0), (.i 0), (.u 0), (.s ([] : List UInt8))]))] (Ost rfl) <| Wm (.i 0) rfl <| Wm (.i 11) rfl <| Nn <| Rt ?_
     refine Tr ?_
     obtain rfl := Option.some.inj hm
     exact ret_i []
    ·
     replace hm := cF hq36_3 hm
     refine Wz (.b false) (Oq hq36_3 rfl) <| Wz (.loc 1 0) (Ofa rfl) <| Wz (.y x31_2) (Old rfl) <| Wz (.b (decide ((4 : Int) < ((x31_2.toNat : Nat) : Int)))) (Ob2 (.int .u8 ((x31_2.toNat : Nat) : Int)) (.int .u8 4) rfl (fun _ => hb_gtr)) <| Wz (.b (decide ((4 : Int) < ((x31_2.toNat : Nat) : Int)))) (OpF rfl) <| Nk 1099511627923 3 ⟨.s p0::.i p1::tp 2 (.loc 0 0::tp 2 (.loc 1 0::tp 32 (.b (decide ((4 : Int) < ((x31_2.toNat : Nat) : Int)))::tp 86 []))), [(.box [(.y 0), (.i 0), (.u 0), (.s ([] : List UInt8))]), (.box [(.y x31_2), (.i 0), (.u 0), (.s ([] : List UInt8))])], 0⟩ ?_
     rcases tf_ (decide ((4 : Int) < ((x31_2.toNat : Nat) : Int))) with hc40_16 | hc40_16
     ·
      replace hm := cT hc40_16 hm
      refine AiT hc40_16 <| Sx <| Wz (.agg [(.y 0), (.i 0), (.u 0), (.s ([] : List UInt8))]) (Obd rfl) <| Wy (.tup []) [(0, (.box [(.y 0), (.i 0), (.u 0), (.s ([] : List UInt8))]))] (Ost rfl) <| Wm (.i 0) rfl <| Wm (.i 11) rfl <| Nn <| Rt <| Tr ?_
      obtain rfl := Option.some.inj hm
      exact ret_i []
     ·
      replace hm := cF hc40_16 hm
      refine AiF hc40_16 <| Sk <| Tk 147 3 ⟨.s p0::.i p1::tp 2 (.loc 0 0::tp 2 (.loc 1 0::tp 119 [])), [(.box [(.y 0), (.i 0), (.u 0), (.s ([] : List UInt8))]), (.box [(.y x31_2), (.i 0), (.u 0), (.s ([] : List UInt8))])], 0⟩ <| Sx <| Wm (.i p1) rfl <| Wz (.i (W6 (p1 + 1))) (Obn rfl (fun _ => hb_add (k := .i64))) <| Wm (.i (W6 (p1 + 1))) rfl <| Nk 401 3 ⟨.s p0::tp 3 (.loc 0 0::tp 2 (.loc 1 0::.i (W6 (p1 + 1))::tp 118 [])), [(.box [(.y 0), (.i 0), (.u 0), (.s ([] : List UInt8))]), (.box [(.y x31_2), (.i 0), (.u 0), (.s ([] : List UInt8))])], 0⟩ ?_
      refine AWP.cutJ (α := GValue × Int) (fun (y7_d_12, y8_12) => (⟨tp 4 (.loc 0 0::tp 2 (.loc 1 0::.i y8_12::tp 118 [])), [(.box [(.y 0), (.i 0), (.u 0), (.s ([] : List UInt8))]), (.box [(.y y7_d_12.Kind), (.i y7_d_12.N), (.u y7_d_12.Bits), (.s y7_d_12.Text)])], 0⟩ : St)) (fun (y7_d_12, y8_12) => m_r04_Take_j12  y7_d_12 y8_12 = some r) ?_ (fun J12 => ?_)
      ·
       rintro ⟨y7_d_12, y8_12⟩ hm
       try dsimp only at hm ⊢
       unfold m_r04_Take_j12 at hm
       refine Sq <| Sx <| Wz (.agg [(.y y7_d_12.Kind), (.i y7_d_12.N), (.u y7_d_12.Bits), (.s y7_d_12.Text)]) (Old rfl) ?_
       obtain ⟨r120_13, hr120_13, hm⟩ := bnd hm
       refine Wz (.i r120_13) (Ocf [] [] [] 0 (ok_r04_Check y7_d_12 r120_13 hr120_13) (fun a w => Tryd.call78 a w) rfl trivial) <| Wm (.i r120_13) rfl <| Nk 16784 3 ⟨tp 4 (.loc 0 0::tp 2 (.loc 1 0::.i y8_12::tp 5 (.i r120_13::tp 112 []))), [(.box [(.y 0), (.i 0), (.u 0), (.s ([] : List UInt8))]), (.box [(.y y7_d_12.Kind), (.i y7_d_12.N), (.u y7_d_12.Bits), (.s y7_d_12.Text)])], 0⟩ <| Sx <| Wm (.i r120_13) rfl <| Wz (.b (decide (r120_13 ≠ 0))) (Obn rfl (fun _ => hb_neq (k := .i64))) <| Nk 5316911983139663491615228241121395088 3 ⟨tp 4 (.loc 0 0::tp 2 (.loc 1 0::.i y8_12::tp 5 (.i r120_13::tp 107 (.b (decide (r120_13 ≠ 0))::tp 4 [])))), [(.box [(.y 0), (.i 0), (.u 0), (.s ([] : List UInt8))]), (.box [(.y y7_d_12.Kind), (.i y7_d_12.N), (.u y7_d_12.Bits), (.s y7_d_12.Text)])], 0⟩ ?_
       rcases tf_ (decide (r120_13 ≠ 0)) with hc122_17 | hc122_17
       ·
        replace hm := cT hc122_17 hm
        refine AiT hc122_17 <| Sx <| Wz (.agg [(.y 0), (.i 0), (.u 0), (.s ([] : List UInt8))]) (Obd rfl) <| Wm (.i r120_13) rfl <| Wy (.tup []) [(0, (.box [(.y 0), (.i 0), (.u 0), (.s ([] : List UInt8))]))] (Ost rfl) <| Wm (.i 0) rfl <| Wm (.i r120_13) rfl <| Nn <| Rt <| Tr ?_
        obtain rfl := Option.some.inj hm
        exact ret_i []
       ·
        replace hm := cF hc122_17 hm
        refine AiF hc122_17 <| Sk <| Tk 400 3 ⟨tp 4 (.loc 0 0::tp 2 (.loc 1 0::.i y8_12::tp 118 [])), [(.box [(.y 0), (.i 0), (.u 0), (.s ([] : List UInt8))]), (.box [(.y y7_d_12.Kind), (.i y7_d_12.N), (.u y7_d_12.Bits), (.s y7_d_12.Text)])], 0⟩ <| Sx <| Wz (.agg [(.y y7_d_12.Kind), (.i y7_d_12.N), (.u y7_d_12.Bits), (.s y7_d_12.Text)]) (Old rfl) <| Wm (.i y8_12) rfl <| Wy (.tup []) [(0, (.box [(.y y7_d_12.Kind), (.i y7_d_12.N), (.u y7_d_12.Bits), (.s y7_d_12.Text)]))] (Ost rfl) <| Wm (.i y8_12) rfl <| Wm (.i 0) rfl <| Nn <| Rt ?_
        obtain rfl := Option.some.inj hm
        exact ret_i []
      refine Sq <| Sx <| Wz (.loc 1 0) (Ofa rfl) <| Wz (.y x31_2) (Old rfl) <| Wz (.b (decide (((x31_2.toNat : Nat) : Int) = 2))) (Ob2 (.int .u8 ((x31_2.toNat : Nat) : Int)) (.int .u8 2) rfl (fun _ => hb_eql)) <| Nk 70368744178065 3 ⟨.s p0::tp 3 (.loc 0 0::tp 2 (.loc 1 0::.i (W6 (p1 + 1))::tp 37 (.b (decide (((x31_2.toNat : Nat) : Int) = 2))::tp 80 []))), [(.box [(.y 0), (.i 0), (.u 0), (.s ([] : List UInt8))]), (.box [(.y x31_2), (.i 0), (.u 0), (.s ([] : List UInt8))])], 0⟩ ?_
      rcases tf_ (decide (((x31_2.toNat : Nat) : Int) = 2)) with hc46_18 | hc46_18
      ·
       replace hm := cT hc46_18 hm
       refine AiT hc46_18 <| Sq <| Sx <| Wm (.i (W6 (p1 + 1))) rfl <| Wm (.s p0) rfl <| Wz (.i ((List.length p0 : Nat) : Int)) (Oln rfl) <| Wz (.b (decide ((W6 (p1 + 1)) = ((List.length p0 : Nat) : Int)))) (Obn rfl (fun _ => hb_eql (k := .i64))) <| Nk 1125899906843025 3 ⟨.s p0::tp 3 (.loc 0 0::tp 2 (.loc 1 0::.i (W6 (p1 + 1))::tp 41 (.b (decide ((W6 (p1 + 1)) = ((List.length p0 : Nat) : Int)))::tp 76 []))), [(.box [(.y 0), (.i 0), (.u 0), (.s ([] : List UInt8))]), (.box [(.y x31_2), (.i 0), (.u 0), (.s ([] : List UInt8))])], 0⟩ ?_
       rcases tf_ (decide ((W6 (p1 + 1)) = ((List.length p0 : Nat) : Int))) with hc50_19 | hc50_19
       ·
        replace hm := cT hc50_19 hm
        refine AiT hc50_19 <| Sx <| Wz (.agg [(.y 0), (.i 0), (.u 0), (.s ([] : List UInt8))]) (Obd rfl) <| Wy (.tup []) [(0, (.box [(.y 0), (.i 0), (.u 0), (.s ([] : List UInt8))]))] (Ost rfl) <| Wm (.i 0) rfl <| Wm (.i 3) rfl <| Nn <| Rt <| Tr <| Tr ?_
        obtain rfl := Option.some.inj hm
        exact ret_i []
       ·
        replace hm := cF hc50_19 hm
        refine AiF hc50_19 <| Sk <| Tk 401 3 ⟨.s p0::tp 3 (.loc 0 0::tp 2 (.loc 1 0::.i (W6 (p1 + 1))::tp 118 [])), [(.box [(.y 0), (.i 0), (.u 0), (.s ([] : List UInt8))]), (.box [(.y x31_2), (.i 0), (.u 0), (.s ([] : List UInt8))])], 0⟩ <| Sx <| Wm (.s p0) rfl <| Wm (.i (W6 (p1 + 1))) rfl ?_
        obtain ⟨x54_5, hx54_5, hm⟩ := bnd hm
        obtain ⟨hx54_5i, hx54_5g⟩ := geti_some hx54_5
        refine Wz (.y x54_5) (Ocs (by kernel_rfl) (op_index_str rfl (by kernel_rfl) (s := toS p0) (by kernel_rfl) (k := .i64) (iv := (W6 (p1 + 1))) (by kernel_rfl) (i := (Int.toNat (W6 (p1 + 1)))) (hx54_5i) (b := x54_5) (hx54_5g))) <| Wz (.i ((x54_5.toNat : Nat) : Int)) (Ocs (lit_int (wrap_of_u8 (by decide) _)) (op_convert rfl (a1 := .int .u8 ((x54_5.toNat : Nat) : Int)) (by kernel_rfl) (run_conv (ds := .int .u8) (k' := .i64) (by kernel_rfl) (by kernel_rfl)))) <| Wz (.loc 1 1) (Ofa rfl) <| Wy (.tup []) [(1, (.box [(.y x31_2), (.i ((x54_5.toNat : Nat) : Int)), (.u 0), (.s ([] : List UInt8))]))] (Ost rfl) <| Nk 400 3 ⟨tp 4 (.loc 0 0::tp 2 (.loc 1 0::.i (W6 (p1 + 1))::tp 118 [])), [(.box [(.y 0), (.i 0), (.u 0), (.s ([] : List UInt8))]), (.box [(.y x31_2), (.i ((x54_5.toNat : Nat) : Int)), (.u 0), (.s ([] : List UInt8))])], 0⟩ <| Tx <| Wm (.i (W6 (p1 + 1))) rfl <| Wz (.i (W6 ((W6 (p1 + 1)) + 1))) (Obn rfl (fun _ => hb_add (k := .i64))) <| Wm (.i (W6 ((W6 (p1 + 1)) + 1))) rfl <| Nn ?_
        exact AWP.weak (Weak.toK 400 0 0 [0, 1]) (J12 ((GValue.mk x31_2 ((x54_5.toNat : Nat) : Int) 0 ([] : List UInt8)), (W6 ((W6 (p1 + 1)) + 1))) hm)
      ·
       replace hm := cF hc46_18 hm
       refine AiF hc46_18 <| Sx <| Wz (.loc 1 0) (Ofa rfl) <| Wz (.y x31_2) (Old rfl) <| Wz (.b (decide (((x31_2.toNat : Nat) : Int) = 3))) (Ob2 (.int .u8 ((x31_2.toNat : Nat) : Int)) (.int .u8 3) rfl (fun _ => hb_eql)) <| Nk 2305843009213694353 3 ⟨.s p0::tp 3 (.loc 0 0::tp 2 (.loc 1 0::.i (W6 (p1 + 1))::tp 52 (.b (decide (((x31_2.toNat : Nat) : Int) = 3))::tp 65 []))), [(.box [(.y 0), (.i 0), (.u 0), (.s ([] : List UInt8))]), (.box [(.y x31_2), (.i 0), (.u 0), (.s ([] : List UInt8))])], 0⟩ ?_
       rcases tf_ (decide (((x31_2.toNat : Nat) : Int) = 3)) with hc61_20 | hc61_20
       ·
        replace hm := cT hc61_20 hm
        refine AiT hc61_20 <| Sx <| Wm (.s p0) rfl <| Wm (.i (W6 (p1 + 1))) rfl ?_
        obtain ⟨s65_6, hs65_6, hm⟩ := bnd hm; obtain ⟨hs65_6a, hs65_6b, hs65_6c, hs65_6d, hs65_6e⟩ := cut_some hs65_6
        refine Wz (.s s65_6) (Ocs (lit_str (toS_cut hs65_6e)) (op_slice_str rfl (by kernel_rfl) (s := toS p0) (by kernel_rfl) (l := (Int.toNat (W6 (p1 + 1)))) (h := (Int.toNat ((List.length p0 : Nat) : Int))) (⟨.i64, (W6 (p1 + 1)), by kernel_rfl, hs65_6a⟩) (by exact rfl) hs65_6c hs65_6d)) ?_
        obtain ⟨r66_6, hr66_6, hm⟩ := bnd hm
        refine Wz (.agg [(.s r66_6.Text), (.i r66_6.At), (.i r66_6.E)]) (Ocf [] [] [] 0 (ok_r01_Open s65_6 r66_6 hr66_6) (fun a w => Tryd.call71 a w) rfl trivial) ?_
        obtain ⟨r67_6, hr67_6, hm⟩ := bnd hm
        refine Wz (.tup [(.agg [(.s r67_6.1.Text), (.i r67_6.1.At), (.i r67_6.1.E)]), (.u r67_6.2)]) (Ocf [] [] [] 0 (ok_r01_RWord r66_6 r67_6 hr67_6) (fun a w => Tryd.call108 a w) rfl trivial) <| Wm (.tup [(.agg [(.s r67_6.1.Text), (.i r67_6.1.At), (.i r67_6.1.E)]), (.u r67_6.2)]) rfl <| Wz (.agg [(.s r67_6.1.Text), (.i r67_6.1.At), (.i r67_6.1.E)]) (Oex rfl) <| Wz (.u r67_6.2) (Oex rfl) <| Wy (.loc 2 0) [(2, (.box [(.s ([] : List UInt8)), (.i 0), (.i 0)]))] (Oal rfl) <| Wy (.tup []) [(2, (.box [(.s r67_6.1.Text), (.i r67_6.1.At), (.i r67_6.1.E)]))] (Ost rfl) <| Wm (.u r67_6.2) rfl <| Nk 1936 7 ⟨tp 4 (.loc 0 0::tp 2 (.loc 1 0::.i (W6 (p1 + 1))::.loc 2 0::.u r67_6.2::tp 116 [])), [(.box [(.y 0), (.i 0), (.u 0), (.s ([] : List UInt8))]), (.box [(.y x31_2), (.i 0), (.u 0), (.s ([] : List UInt8))]), (.box [(.s r67_6.1.Text), (.i r67_6.1.At), (.i r67_6.1.E)])], 0⟩ <| Sq <| Sx <| Wz (.loc 2 2) (Ofa rfl) <| Wz (.i r67_6.1.E) (Old rfl) <| Wz (.b (decide (r67_6.1.E ≠ 0))) (Obn rfl (fun _ => hb_neq (k := .i64))) <| Nk 4722366482869645215120 3 ⟨tp 4 (.loc 0 0::tp 2 (.loc 1 0::.i (W6 (p1 + 1))::tp 1 (.u r67_6.2::tp 61 (.b (decide (r67_6.1.E ≠ 0))::tp 54 [])))), [(.box [(.y 0), (.i 0), (.u 0), (.s ([] : List UInt8))]), (.box [(.y x31_2), (.i 0), (.u 0), (.s ([] : List UInt8))]), .gone], 0⟩ ?_
        rcases tf_ (decide (r67_6.1.E ≠ 0)) with hc72_21 | hc72_21
        ·
         replace hm := cT hc72_21 hm
         refine AiT hc72_21 <| Sx <| Wz (.agg [(.y 0), (.i 0), (.u 0), (.s ([] : List UInt8))]) (Obd rfl) <| Wy (.tup []) [(0, (.box [(.y 0), (.i 0), (.u 0), (.s ([] : List UInt8))]))] (Ost rfl) <| Wm (.i 0) rfl <| Wm (.i 3) rfl <| Nn <| Rt <| Tr <| Tr ?_
         obtain rfl := Option.some.inj hm
         exact ret_i []
        ·
         replace hm := cF hc72_21 hm
         refine AiF hc72_21 <| Sk <| Tk 1424 3 ⟨tp 4 (.loc 0 0::tp 2 (.loc 1 0::.i (W6 (p1 + 1))::tp 1 (.u r67_6.2::tp 116 []))), [(.box [(.y 0), (.i 0), (.u 0), (.s ([] : List UInt8))]), (.box [(.y x31_2), (.i 0), (.u 0), (.s ([] : List UInt8))]), .gone], 0⟩ <| Sx <| Wm (.u r67_6.2) rfl <| Wz (.loc 1 2) (Ofa rfl) <| Wy (.tup []) [(1, (.box [(.y x31_2), (.i 0), (.u r67_6.2), (.s ([] : List UInt8))]))] (Ost rfl) <| Nk 400 3 ⟨tp 4 (.loc 0 0::tp 2 (.loc 1 0::.i (W6 (p1 + 1))::tp 118 [])), [(.box [(.y 0), (.i 0), (.u 0), (.s ([] : List UInt8))]), (.box [(.y x31_2), (.i 0), (.u r67_6.2), (.s ([] : List UInt8))]), .gone], 0⟩ <| Tx <| Wm (.i (W6 (p1 + 1))) rfl <| Wz (.i (W6 ((W6 (p1 + 1)) + 8))) (Obn rfl (fun _ => hb_add (k := .i64))) <| Wm (.i (W6 ((W6 (p1 + 1)) + 8))) rfl <| Nn ?_
         exact AWP.weak (Weak.toK 400 0 0 [0, 1]) (J12 ((GValue.mk x31_2 0 r67_6.2 ([] : List UInt8)), (W6 ((W6 (p1 + 1)) + 8))) hm)
       ·
        replace hm := cF hc61_20 hm
        refine AiF hc61_20 <| Sx <| Wm (.s p0) rfl <| Wm (.i (W6 (p1 + 1))) rfl ?_
        obtain ⟨r81_7, hr81_7, hm⟩ := bnd hm
        refine Wz (.tup [(.u r81_7.1), (.i r81_7.2.1), (.i r81_7.2.2)]) (Ocf [] [] [] 0 (ok_r02_Take p0 (W6 (p1 + 1)) r81_7 hr81_7) (fun a w => Tryd.call73 a w) rfl trivial) <| Wm (.tup [(.u r81_7.1), (.i r81_7.2.1), (.i r81_7.2.2)]) rfl <| Wz (.u r81_7.1) (Oex rfl) <| Wz (.i r81_7.2.1) (Oex rfl) <| Wz (.i r81_7.2.2) (Oex rfl) <| Wm (.u r81_7.1) rfl <| Wm (.i r81_7.2.1) rfl <| Wm (.i r81_7.2.2) rfl <| Nk 14481 3 ⟨.s p0::tp 3 (.loc 0 0::tp 2 (.loc 1 0::tp 3 (.u r81_7.1::.i r81_7.2.1::.i r81_7.2.2::tp 113 []))), [(.box [(.y 0), (.i 0), (.u 0), (.s ([] : List UInt8))]), (.box [(.y x31_2), (.i 0), (.u 0), (.s ([] : List UInt8))])], 0⟩ <| Sq <| Sx <| Wm (.i r81_7.2.2) rfl <| Wz (.b (decide (r81_7.2.2 ≠ 0))) (Obn rfl (fun _ => hb_neq (k := .i64))) <| Nk 77371252455336267181209745 3 ⟨.s p0::tp 3 (.loc 0 0::tp 2 (.loc 1 0::tp 3 (.u r81_7.1::.i r81_7.2.1::.i r81_7.2.2::tp 72 (.b (decide (r81_7.2.2 ≠ 0))::tp 40 [])))), [(.box [(.y 0), (.i 0), (.u 0), (.s ([] : List UInt8))]), (.box [(.y x31_2), (.i 0), (.u 0), (.s ([] : List UInt8))])], 0⟩ ?_
        rcases tf_ (decide (r81_7.2.2 ≠ 0)) with hc86_22 | hc86_22
        ·
         replace hm := cT hc86_22 hm
         refine AiT hc86_22 <| Sx <| Wz (.agg [(.y 0), (.i 0), (.u 0), (.s ([] : List UInt8))]) (Obd rfl) <| Wm (.i r81_7.2.2) rfl <| Wy (.tup []) [(0, (.box [(.y 0), (.i 0), (.u 0), (.s ([] : List UInt8))]))] (Ost rfl) <| Wm (.i 0) rfl <| Wm (.i r81_7.2.2) rfl <| Nn <| Rt <| Tr <| Tr ?_
         obtain rfl := Option.some.inj hm
         exact ret_i []
        ·
         replace hm := cF hc86_22 hm
         refine AiF hc86_22 <| Sk <| Tk 6289 3 ⟨.s p0::tp 3 (.loc 0 0::tp 2 (.loc 1 0::tp 3 (.u r81_7.1::.i r81_7.2.1::tp 114 []))), [(.box [(.y 0), (.i 0), (.u 0), (.s ([] : List UInt8))]), (.box [(.y x31_2), (.i 0), (.u 0), (.s ([] : List UInt8))])], 0⟩ <| Sx <| Wz (.loc 1 0) (Ofa rfl) <| Wz (.y x31_2) (Old rfl) <| Wz (.b (decide (((x31_2.toNat : Nat) : Int) = 1))) (Ob2 (.int .u8 ((x31_2.toNat : Nat) : Int)) (.int .u8 1) rfl (fun _ => hb_eql)) <| Nk 2475880078570760549798254737 3 ⟨.s p0::tp 3 (.loc 0 0::tp 2 (.loc 1 0::tp 3 (.u r81_7.1::.i r81_7.2.1::tp 78 (.b (decide (((x31_2.toNat : Nat) : Int) = 1))::tp 35 [])))), [(.box [(.y 0), (.i 0), (.u 0), (.s ([] : List UInt8))]), (.box [(.y x31_2), (.i 0), (.u 0), (.s ([] : List UInt8))])], 0⟩ ?_
         rcases tf_ (decide (((x31_2.toNat : Nat) : Int) = 1)) with hc91_23 | hc91_23
         ·
          replace hm := cT hc91_23 hm
          refine AiT hc91_23 <| Sx <| Wm (.u r81_7.1) rfl ?_
          obtain ⟨r93_8, hr93_8, hm⟩ := bnd hm
          refine Wz (.i r93_8) (Ocf [] [] [] 0 (ok_r02_Back r81_7.1 r93_8 hr93_8) (fun a w => Tryd.call74 a w) rfl trivial) <| Wz (.loc 1 1) (Ofa rfl) <| Wy (.tup []) [(1, (.box [(.y x31_2), (.i r93_8), (.u 0), (.s ([] : List UInt8))]))] (Ost rfl) <| Nk 4240 3 ⟨tp 4 (.loc 0 0::tp 2 (.loc 1 0::tp 4 (.i r81_7.2.1::tp 114 []))), [(.box [(.y 0), (.i 0), (.u 0), (.s ([] : List UInt8))]), (.box [(.y x31_2), (.i r93_8), (.u 0), (.s ([] : List UInt8))])], 0⟩ <| Tx <| Wm (.i r81_7.2.1) rfl <| Wm (.i r81_7.2.1) rfl <| Nn ?_
          exact AWP.weak (Weak.toK 400 0 0 [0, 1]) (J12 ((GValue.mk x31_2 r93_8 0 ([] : List UInt8)), r81_7.2.1) hm)
         ·
          replace hm := cF hc91_23 hm
          refine AiF hc91_23 <| Sx <| Wm (.u r81_7.1) rfl <| Wz (.b (decide ((24 : Int) < r81_7.1))) (Obn rfl (fun _ => hb_gtr (k := .u64))) <| Nk 158456325028528675187087906961 3 ⟨.s p0::tp 3 (.loc 0 0::tp 2 (.loc 1 0::tp 3 (.u r81_7.1::.i r81_7.2.1::tp 84 (.b (decide ((24 : Int) < r81_7.1))::tp 29 [])))), [(.box [(.y 0), (.i 0), (.u 0), (.s ([] : List UInt8))]), (.box [(.y x31_2), (.i 0), (.u 0), (.s ([] : List UInt8))])], 0⟩ ?_
          rcases tf_ (decide ((24 : Int) < r81_7.1)) with hc97_24 | hc97_24
          ·
           replace hm := cT hc97_24 hm
           refine AiT hc97_24 <| Sx <| Wz (.agg [(.y 0), (.i 0), (.u 0), (.s ([] : List UInt8))]) (Obd rfl) <| Wy (.tup []) [(0, (.box [(.y 0), (.i 0), (.u 0), (.s ([] : List UInt8))]))] (Ost rfl) <| Wm (.i 0) rfl <| Wm (.i 5) rfl <| Nn <| Rt <| Tr ?_
           obtain rfl := Option.some.inj hm
           exact ret_i []
          ·
           replace hm := cF hc97_24 hm
           refine AiF hc97_24 <| Sq <| Sx <| Wm (.s p0) rfl <| Wz (.i ((List.length p0 : Nat) : Int)) (Oln rfl) <| Wm (.i r81_7.2.1) rfl <| Wz (.i (W6 (((List.length p0 : Nat) : Int) - r81_7.2.1))) (Obn rfl (fun _ => hb_sub (k := .i64))) <| Wm (.u r81_7.1) rfl <| Wz (.i (W6 r81_7.1)) (Oc2 (.int .u64 r81_7.1) rfl (run_conv (ds := .int .u64) (k' := .i64) (by kernel_rfl) (by kernel_rfl))) <| Wz (.b (decide ((W6 (((List.length p0 : Nat) : Int) - r81_7.2.1)) < (W6 r81_7.1)))) (Obn rfl (fun _ => hb_lss (k := .i64))) <| Nk 40564819207303340847894502578321 3 ⟨.s p0::tp 3 (.loc 0 0::tp 2 (.loc 1 0::tp 3 (.u r81_7.1::.i r81_7.2.1::tp 92 (.b (decide ((W6 (((List.length p0 : Nat) : Int) - r81_7.2.1)) < (W6 r81_7.1)))::tp 21 [])))), [(.box [(.y 0), (.i 0), (.u 0), (.s ([] : List UInt8))]), (.box [(.y x31_2), (.i 0), (.u 0), (.s ([] : List UInt8))])], 0⟩ ?_
           rcases tf_ (decide ((W6 (((List.length p0 : Nat) : Int) - r81_7.2.1)) < (W6 r81_7.1))) with hc105_25 | hc105_25
           ·
            replace hm := cT hc105_25 hm
            refine AiT hc105_25 <| Sx <| Wz (.agg [(.y 0), (.i 0), (.u 0), (.s ([] : List UInt8))]) (Obd rfl) <| Wy (.tup []) [(0, (.box [(.y 0), (.i 0), (.u 0), (.s ([] : List UInt8))]))] (Ost rfl) <| Wm (.i 0) rfl <| Wm (.i 3) rfl <| Nn <| Rt <| Tr <| Tr ?_
            obtain rfl := Option.some.inj hm
            exact ret_i []
           ·
            replace hm := cF hc105_25 hm
            refine AiF hc105_25 <| Sk <| Tk 6289 3 ⟨.s p0::tp 3 (.loc 0 0::tp 2 (.loc 1 0::tp 3 (.u r81_7.1::.i r81_7.2.1::tp 114 []))), [(.box [(.y 0), (.i 0), (.u 0), (.s ([] : List UInt8))]), (.box [(.y x31_2), (.i 0), (.u 0), (.s ([] : List UInt8))])], 0⟩ <| Sx <| Wm (.s p0) rfl <| Wm (.i r81_7.2.1) rfl <| Wm (.i r81_7.2.1) rfl <| Wm (.u r81_7.1) rfl <| Wz (.i (W6 r81_7.1)) (Oc2 (.int .u64 r81_7.1) rfl (run_conv (ds := .int .u64) (k' := .i64) (by kernel_rfl) (by kernel_rfl))) <| Wz (.i (W6 (r81_7.2.1 + (W6 r81_7.1)))) (Obn rfl (fun _ => hb_add (k := .i64))) ?_
            obtain ⟨s113_10, hs113_10, hm⟩ := bnd hm; obtain ⟨hs113_10a, hs113_10b, hs113_10c, hs113_10d, hs113_10e⟩ := cut_some hs113_10
            refine Wz (.s s113_10) (Ocs (lit_str (toS_cut hs113_10e)) (op_slice_str rfl (by kernel_rfl) (s := toS p0) (by kernel_rfl) (l := (Int.toNat r81_7.2.1)) (h := (Int.toNat (W6 (r81_7.2.1 + (W6 r81_7.1))))) (⟨.i64, r81_7.2.1, by kernel_rfl, hs113_10a⟩) (⟨.i64, (W6 (r81_7.2.1 + (W6 r81_7.1))), by kernel_rfl, hs113_10b⟩) hs113_10c hs113_10d)) <| Wz (.loc 1 3) (Ofa rfl) <| Wy (.tup []) [(1, (.box [(.y x31_2), (.i 0), (.u 0), (.s s113_10)]))] (Ost rfl) <| Nk 6288 3 ⟨tp 4 (.loc 0 0::tp 2 (.loc 1 0::tp 3 (.u r81_7.1::.i r81_7.2.1::tp 114 []))), [(.box [(.y 0), (.i 0), (.u 0), (.s ([] : List UInt8))]), (.box [(.y x31_2), (.i 0), (.u 0), (.s s113_10)])], 0⟩ <| Tx <| Wm (.i r81_7.2.1) rfl <| Wm (.u r81_7.1) rfl <| Wz (.i (W6 r81_7.1)) (Oc2 (.int .u64 r81_7.1) rfl (run_conv (ds := .int .u64) (k' := .i64) (by kernel_rfl) (by kernel_rfl))) <| Wz (.i (W6 (r81_7.2.1 + (W6 r81_7.1)))) (Obn rfl (fun _ => hb_add (k := .i64))) <| Wm (.i (W6 (r81_7.2.1 + (W6 r81_7.1)))) rfl <| Nn ?_
            exact AWP.weak (Weak.toK 400 0 0 [0, 1]) (J12 ((GValue.mk x31_2 0 0 s113_10), (W6 (r81_7.2.1 + (W6 r81_7.1)))) hm)

theorem ok_r07_Take (p0 : (List GType)) (p1 : (List UInt8)) (p2 : Int) (r : (GEvent × Int × Int)) (h : m_r07_Take p0 p1 p2 = some r) : GCall Tryd.prog 72 [(.l enc_GType p0), (.s p1), (.i p2)] [] (.tup [(.agg [(.i r.1.Time), (.i r.1.Source), (.i r.1.Seq), (.s r.1.Type_), (.own 0)]), (.i r.2.1), (.i r.2.2)]) [(Ar 98 4 enc_GValue r.1.Vals)] := by
 refine GCall.of_body (n := 138) (rs := [(.cell 6 44), (.tmp 7), (.tmp 8)]) Tryd.func72 rfl rfl rfl <| Ato ⟨.l enc_GType p0::.s p1::.i p2::tu 135 [], [], 0⟩ ?_
 have hm := h
 unfold m_r07_Take at hm
 refine Sx <| Wy (.loc 0 0) [(0, (.box [(.i 0), (.i 0), (.i 0), (.s ([] : List UInt8)), (.d .nil)]))] (Oal rfl) <| Wm (.i 0) rfl <| Wm (.i 0) rfl <| Nk 71 1 ⟨.l enc_GType p0::.s p1::.i p2::tp 3 (.loc 0 0::tp 131 []), [(.box [(.i 0), (.i 0), (.i 0), (.s ([] : List UInt8)), (.d .nil)])], 0⟩ <| Sq ?_
 refine AWP.cutJ (α := Unit) (fun x => match x with | () => (⟨.l enc_GType p0::.s p1::.i p2::tp 3 (.loc 0 0::tp 26 (.b true::tp 104 [])), [(.box [(.i 0), (.i 0), (.i 0), (.s ([] : List UInt8)), (.d .nil)])], 0⟩ : St)) (fun x => match x with | () => m_r07_Take_j1  = some r) ?_ (fun J1 => ?_)
 ·
  rintro ⟨⟩ hm
  try dsimp only at hm ⊢
  unfold m_r07_Take_j1 at hm
  refine AWP.if_ true (by kernel_rfl) <| Sx <| Wz (.agg [(.i 0), (.i 0), (.i 0), (.s ([] : List UInt8)), (.d .nil)]) (Obd rfl) <| Wy (.tup []) [(0, (.box [(.i 0), (.i 0), (.i 0), (.s ([] : List UInt8)), (.d .nil)]))] (Ost rfl) <| Wm (.i 0) rfl <| Wm (.i 2) rfl <| Nn <| Aob 0 4 98 4 ⟨.l enc_GType p0::.s p1::.i p2::tp 3 (.loc 0 0::.i 0::.i 2::tp 24 (.b true::.agg [(.i 0), (.i 0), (.i 0), (.s ([] : List UInt8)), (.d .nil)]::tp 103 [])), [(.box [(.i 0), (.i 0), (.i 0), (.s ([] : List UInt8)), (.own 1)]), (Ar 98 4 enc_GValue ([] : List GValue))], 0⟩ <| Rt <| Tr ?_
  obtain rfl := Option.some.inj hm
  exact ret_i [1]
 refine Sx <| Wm (.l enc_GType p0) rfl ?_
 obtain ⟨r22_0, hr22_0, hm⟩ := bnd hm
 refine Wz (.i r22_0) (Ocf [] [] [] 0 (ok_r06_Check p0 r22_0 hr22_0) (fun a w => Tryd.call38 a w) rfl trivial) <| Wz (.b (decide (r22_0 ≠ 0))) (Obn rfl (fun _ => hb_neq (k := .i64))) ?_
 rcases tf_ (decide (r22_0 ≠ 0)) with hq24_0 | hq24_0
 ·
  replace hm := cT hq24_0 hm
  refine Wz (.b true) (Oq hq24_0 rfl) <| Wn <| Wn <| Wz (.b true) (OpT rfl) <| Wm (.b true) rfl <| Wn <| Wn <| Wn <| Wn <| Wz (.b true) (OpT rfl) <| Nn ?_
  exact AWP.weak (Weak.toK 8589934663 0 0 [0]) (J1 () hm)
 ·
  replace hm := cF hq24_0 hm
  refine Wz (.b false) (Oq hq24_0 rfl) <| Wm (.i p2) rfl <| Wz (.b (decide (p2 < 0))) (Obn rfl (fun _ => hb_lss (k := .i64))) <| Wz (.b (decide (p2 < 0))) (OpF rfl) ?_
  rcases tf_ (decide (p2 < 0)) with hq28_0 | hq28_0
  ·
   replace hm := cT hq28_0 hm
   refine Wz (.b true) (Oq hq28_0 rfl) <| Wn <| Wn <| Wn <| Wn <| Wz (.b true) (OpT rfl) <| Nn ?_
   exact AWP.weak (Weak.toK 8589934663 0 0 [0]) (J1 () hm)
  ·
   replace hm := cF hq28_0 hm
   refine Wz (.b false) (Oq hq28_0 rfl) <| Wm (.i p2) rfl <| Wm (.s p1) rfl <| Wz (.i ((List.length p1 : Nat) : Int)) (Oln rfl) <| Wz (.b (decide (((List.length p1 : Nat) : Int) < p2))) (Obn rfl (fun _ => hb_gtr (k := .i64))) <| Wz (.b (decide (((List.length p1 : Nat) : Int) < p2))) (OpF rfl) <| Nk 8589934663 1 ⟨.l enc_GType p0::.s p1::.i p2::tp 3 (.loc 0 0::tp 26 (.b (decide (((List.length p1 : Nat) : Int) < p2))::tp 104 [])), [(.box [(.i 0), (.i 0), (.i 0), (.s ([] : List UInt8)), (.d .nil)])], 0⟩ ?_
   rcases tf_ (decide (((List.length p1 : Nat) : Int) < p2)) with hc33_16 | hc33_16
   ·
    replace hm := cT hc33_16 hm
    refine AiT hc33_16 <| Sx <| Wz (.agg [(.i 0), (.i 0), (.i 0), (.s ([] : List UInt8)), (.d .nil)]) (Obd rfl) <| Wy (.tup []) [(0, (.box [(.i 0), (.i 0), (.i 0), (.s ([] : List UInt8)), (.d .nil)]))] (Ost rfl) <| Wm (.i 0) rfl <| Wm (.i 2) rfl <| Nn <| Aob 0 4 98 4 ⟨.l enc_GType p0::.s p1::.i p2::tp 3 (.loc 0 0::.i 0::.i 2::tp 24 (.b (decide (((List.length p1 : Nat) : Int) < p2))::.agg [(.i 0), (.i 0), (.i 0), (.s ([] : List UInt8)), (.d .nil)]::tp 103 [])), [(.box [(.i 0), (.i 0), (.i 0), (.s ([] : List UInt8)), (.own 1)]), (Ar 98 4 enc_GValue ([] : List GValue))], 0⟩ <| Rt <| Tr ?_
    obtain rfl := Option.some.inj hm
    exact ret_i [1]
   ·
    replace hm := cF hc33_16 hm
    refine AiF hc33_16 <| Sk <| Tk 71 1 ⟨.l enc_GType p0::.s p1::.i p2::tp 3 (.loc 0 0::tp 131 []), [(.box [(.i 0), (.i 0), (.i 0), (.s ([] : List UInt8)), (.d .nil)])], 0⟩ <| Sx <| Wm (.d .nil) rfl <| Nk 583 1 ⟨.l enc_GType p0::.s p1::.i p2::tp 3 (.loc 0 0::tp 2 (.d .nil::tp 128 [])), [(.box [(.i 0), (.i 0), (.i 0), (.s ([] : List UInt8)), (.d .nil)])], 0⟩ <| Sq <| Sx <| Wm (.i 0) rfl <| Nk 1607 1 ⟨.l enc_GType p0::.s p1::.i p2::tp 3 (.loc 0 0::tp 2 (.d .nil::.i 0::tp 127 [])), [(.box [(.i 0), (.i 0), (.i 0), (.s ([] : List UInt8)), (.d .nil)])], 0⟩ <| Bk <| Aow 9 84 1 ⟨.l enc_GType p0::.s p1::.i p2::tp 3 (.loc 0 0::tp 2 (.own 1::.i 0::tp 127 [])), [(.box [(.i 0), (.i 0), (.i 0), (.s ([] : List UInt8)), (.d .nil)]), (.arr 84 1 (List.length ([] : List Int)) (flatD (encI .u64) ([] : List Int)))], 0⟩ ?_
    refine AWP.loopI (α := Nat × Int × (List Int) × Int)
      (fun (fu_2, y2_2, y9_2, y10_2) => (⟨.l enc_GType p0::.s p1::.i y2_2::tp 3 (.loc 0 0::tp 2 (.own 1::.i y10_2::tp 127 [])), [(.box [(.i 0), (.i 0), (.i 0), (.s ([] : List UInt8)), (.d .nil)]), (.arr 84 1 (List.length y9_2) (flatD (encI .u64) y9_2))], 0⟩ : St))
      (fun (fu_2, y2_2, y9_2, y10_2) => m_r07_Take_l2 p0 p1 fu_2 y2_2 y9_2 y10_2 = some r)
      (fun (fu_2, y2_2, y9_2, y10_2) => fu_2) (1152921504606846976, p2, ([] : List Int), 0)
      (Weak.toK 1607 0 0 [0, 1]) hm ?_
    rintro ⟨fu_2, y2_2, y9_2, y10_2⟩ n_2 hm ih_2
    try dsimp only at hm ih_2 ⊢
    cases fu_2 with
    | zero => exact absurd hm (by unfold m_r07_Take_l2; simp)
    | succ fu_2 =>
     unfold m_r07_Take_l2 at hm
     refine Sq <| Sx <| Wm (.i y10_2) rfl <| Wz (.b (decide (y10_2 < 4))) (Obn rfl (fun _ => hb_lss (k := .i64))) <| Nk 68719478343 3 ⟨.l enc_GType p0::.s p1::.i y2_2::tp 3 (.loc 0 0::tp 2 (.own 1::.i y10_2::tp 25 (.b (decide (y10_2 < 4))::tp 101 []))), [(.box [(.i 0), (.i 0), (.i 0), (.s ([] : List UInt8)), (.d .nil)]), (.arr 84 1 (List.length y9_2) (flatD (encI .u64) y9_2))], 0⟩ ?_
     rcases tf_ (decide (y10_2 < 4)) with hc36_17 | hc36_17
     ·
      replace hm := cT hc36_17 hm
      refine AiT hc36_17 <| Sk <| Tk 1607 3 ⟨.l enc_GType p0::.s p1::.i y2_2::tp 3 (.loc 0 0::tp 2 (.own 1::.i y10_2::tp 127 [])), [(.box [(.i 0), (.i 0), (.i 0), (.s ([] : List UInt8)), (.d .nil)]), (.arr 84 1 (List.length y9_2) (flatD (encI .u64) y9_2))], 0⟩ <| Sq <| Bk <| Sx <| Wm (.s p1) rfl <| Wm (.i y2_2) rfl ?_
      obtain ⟨r42_3, hr42_3, hm⟩ := bnd hm
      refine Wz (.tup [(.u r42_3.1), (.i r42_3.2.1), (.i r42_3.2.2)]) (Ocf [] [] [] 0 (ok_r02_Take p1 y2_2 r42_3 hr42_3) (fun a w => Tryd.call73 a w) rfl trivial) <| Wm (.tup [(.u r42_3.1), (.i r42_3.2.1), (.i r42_3.2.2)]) rfl <| Wz (.u r42_3.1) (Oex rfl) <| Wz (.i r42_3.2.1) (Oex rfl) <| Wz (.i r42_3.2.2) (Oex rfl) <| Wm (.u r42_3.1) rfl <| Wm (.i r42_3.2.1) rfl <| Wm (.i r42_3.2.2) rfl <| Nk 15939 3 ⟨.l enc_GType p0::.s p1::tp 4 (.loc 0 0::tp 2 (.own 1::.i y10_2::.u r42_3.1::.i r42_3.2.1::.i r42_3.2.2::tp 124 [])), [(.box [(.i 0), (.i 0), (.i 0), (.s ([] : List UInt8)), (.d .nil)]), (.arr 84 1 (List.length y9_2) (flatD (encI .u64) y9_2))], 0⟩ <| Sq <| Sx <| Wm (.i r42_3.2.2) rfl <| Wz (.b (decide (r42_3.2.2 ≠ 0))) (Obn rfl (fun _ => hb_neq (k := .i64))) <| Nk 140737488371267 3 ⟨.l enc_GType p0::.s p1::tp 4 (.loc 0 0::tp 2 (.own 1::.i y10_2::.u r42_3.1::.i r42_3.2.1::.i r42_3.2.2::tp 33 (.b (decide (r42_3.2.2 ≠ 0))::tp 90 []))), [(.box [(.i 0), (.i 0), (.i 0), (.s ([] : List UInt8)), (.d .nil)]), (.arr 84 1 (List.length y9_2) (flatD (encI .u64) y9_2))], 0⟩ ?_
      rcases tf_ (decide (r42_3.2.2 ≠ 0)) with hc47_18 | hc47_18
      ·
       replace hm := cT hc47_18 hm
       refine AiT hc47_18 <| Sx <| Wz (.agg [(.i 0), (.i 0), (.i 0), (.s ([] : List UInt8)), (.d .nil)]) (Obd rfl) <| Wm (.i r42_3.2.2) rfl <| Wy (.tup []) [(0, (.box [(.i 0), (.i 0), (.i 0), (.s ([] : List UInt8)), (.d .nil)]))] (Ost rfl) <| Wm (.i 0) rfl <| Wm (.i r42_3.2.2) rfl <| Nn <| Aob 0 4 98 4 ⟨.l enc_GType p0::.s p1::tp 4 (.loc 0 0::.i 0::.i r42_3.2.2::.own 1::.i y10_2::.u r42_3.1::.i r42_3.2.1::.i r42_3.2.2::tp 33 (.b (decide (r42_3.2.2 ≠ 0))::.agg [(.i 0), (.i 0), (.i 0), (.s ([] : List UInt8)), (.d .nil)]::.i r42_3.2.2::tp 88 [])), [(.box [(.i 0), (.i 0), (.i 0), (.s ([] : List UInt8)), (.own 2)]), (.arr 84 1 (List.length y9_2) (flatD (encI .u64) y9_2)), (Ar 98 4 enc_GValue ([] : List GValue))], 0⟩ <| Rt <| Tr <| Ir <| Tr <| RoundK.ret ?_
       refine Ir <| Tr ?_
       obtain rfl := Option.some.inj hm
       exact ret_i [2]
      ·
       replace hm := cF hc47_18 hm
       refine AiF hc47_18 <| Sk <| Tk 7747 3 ⟨.l enc_GType p0::.s p1::tp 4 (.loc 0 0::tp 2 (.own 1::.i y10_2::.u r42_3.1::.i r42_3.2.1::tp 125 [])), [(.box [(.i 0), (.i 0), (.i 0), (.s ([] : List UInt8)), (.d .nil)]), (.arr 84 1 (List.length y9_2) (flatD (encI .u64) y9_2))], 0⟩ <| Sx <| Wm (.own 1) rfl <| Wm (.u r42_3.1) rfl <| Wy (.own 2) [(2, (.arr 84 1 (List.length ([r42_3.1] : List Int)) (flatD (encI .u64) ([r42_3.1] : List Int))))] (Obs rfl) ?_
       obtain ⟨a53_4, ha53_4, hm⟩ := bnd hm; obtain ⟨ha53_4e, ha53_4l⟩ := app_some ha53_4
       refine Wy (.own 3) [(1, .gone), (3, (.arr 84 1 (List.length a53_4) (flatD (encI .u64) a53_4)))] (Oap rfl elemOK_163 (encI_len (k := .u64)) ha53_4e ha53_4l) <| Wm (.own 3) rfl <| Nk 5699 9 ⟨.l enc_GType p0::.s p1::tp 4 (.loc 0 0::tp 2 (.own 3::.i y10_2::tp 1 (.i r42_3.2.1::tp 125 []))), [(.box [(.i 0), (.i 0), (.i 0), (.s ([] : List UInt8)), (.d .nil)]), .gone, .gone, (.arr 84 1 (List.length a53_4) (flatD (encI .u64) a53_4))], 0⟩ <| Tx <| Wm (.i r42_3.2.1) rfl <| Wm (.i r42_3.2.1) rfl <| Wn0 <| Ino <| Tk 1607 9 ⟨.l enc_GType p0::.s p1::.i r42_3.2.1::tp 3 (.loc 0 0::tp 2 (.own 3::.i y10_2::tp 127 [])), [(.box [(.i 0), (.i 0), (.i 0), (.s ([] : List UInt8)), (.d .nil)]), .gone, .gone, (.arr 84 1 (List.length a53_4) (flatD (encI .u64) a53_4))], 0⟩ <| Tx <| Wm (.i y10_2) rfl <| Wz (.i (W6 (y10_2 + 1))) (Obn rfl (fun _ => hb_add (k := .i64))) <| Wm (.i (W6 (y10_2 + 1))) rfl <| Wn0 ?_
       refine RoundK.normal ?_
       exact Rounds.weak (Weak.toK 1607 0 0 [0, 3]) (ih_2 (fu_2, r42_3.2.1, a53_4, (W6 (y10_2 + 1))) hm (Nat.lt_succ_self _))
     ·
      replace hm := cF hc36_17 hm
      refine AiF hc36_17 <| AWP.exit <| Then.exit <| RoundK.exit <| InBlock.same <| Tk 583 3 ⟨.l enc_GType p0::.s p1::.i y2_2::tp 3 (.loc 0 0::tp 2 (.own 1::tp 128 [])), [(.box [(.i 0), (.i 0), (.i 0), (.s ([] : List UInt8)), (.d .nil)]), (.arr 84 1 (List.length y9_2) (flatD (encI .u64) y9_2))], 0⟩ <| Sq <| Sx <| Wm (.own 1) rfl ?_
      obtain ⟨x56_5, hx56_5, hm⟩ := bnd hm
      obtain ⟨hx56_5i, hx56_5g⟩ := geti_some hx56_5
      refine Wz (.loc 1 ((Int.toNat 3) * 1)) (Oia rfl (encI_len (k := .u64)) hx56_5i hx56_5g) <| Wz (.u x56_5) (Lr1 rfl (encI_len (k := .u64)) hx56_5g) <| Wm (.l enc_GType p0) rfl <| Wz (.i ((List.length p0 : Nat) : Int)) (Oln rfl) <| Wz (.u (W7 ((List.length p0 : Nat) : Int))) (Oc2 (.int .i64 ((List.length p0 : Nat) : Int)) rfl (run_conv (ds := .int .i64) (k' := .u64) (by kernel_rfl) (by kernel_rfl))) <| Wz (.b (decide ((W7 ((List.length p0 : Nat) : Int)) ≤ x56_5))) (Obn rfl (fun _ => hb_geq (k := .u64))) <| Nk 2305843009213694535 3 ⟨.l enc_GType p0::.s p1::.i y2_2::tp 3 (.loc 0 0::tp 2 (.own 1::tp 51 (.b (decide ((W7 ((List.length p0 : Nat) : Int)) ≤ x56_5))::tp 76 []))), [(.box [(.i 0), (.i 0), (.i 0), (.s ([] : List UInt8)), (.d .nil)]), (.arr 84 1 (List.length y9_2) (flatD (encI .u64) y9_2))], 0⟩ ?_
      rcases tf_ (decide ((W7 ((List.length p0 : Nat) : Int)) ≤ x56_5)) with hc61_19 | hc61_19
      ·
       replace hm := cT hc61_19 hm
       refine AiT hc61_19 <| Sx <| Wz (.agg [(.i 0), (.i 0), (.i 0), (.s ([] : List UInt8)), (.d .nil)]) (Obd rfl) <| Wy (.tup []) [(0, (.box [(.i 0), (.i 0), (.i 0), (.s ([] : List UInt8)), (.d .nil)]))] (Ost rfl) <| Wm (.i 0) rfl <| Wm (.i 6) rfl <| Nn <| Aob 0 4 98 4 ⟨.l enc_GType p0::.s p1::.i y2_2::tp 3 (.loc 0 0::.i 0::.i 6::.own 1::tp 51 (.b (decide ((W7 ((List.length p0 : Nat) : Int)) ≤ x56_5))::.agg [(.i 0), (.i 0), (.i 0), (.s ([] : List UInt8)), (.d .nil)]::tp 75 [])), [(.box [(.i 0), (.i 0), (.i 0), (.s ([] : List UInt8)), (.own 2)]), (.arr 84 1 (List.length y9_2) (flatD (encI .u64) y9_2)), (Ar 98 4 enc_GValue ([] : List GValue))], 0⟩ <| Rt <| Tr ?_
       obtain rfl := Option.some.inj hm
       exact ret_i [2]
      ·
       replace hm := cF hc61_19 hm
       refine AiF hc61_19 <| Sk <| Tk 583 3 ⟨.l enc_GType p0::.s p1::.i y2_2::tp 3 (.loc 0 0::tp 2 (.own 1::tp 128 [])), [(.box [(.i 0), (.i 0), (.i 0), (.s ([] : List UInt8)), (.d .nil)]), (.arr 84 1 (List.length y9_2) (flatD (encI .u64) y9_2))], 0⟩ <| Sx <| Wm (.l enc_GType p0) rfl <| Wm (.own 1) rfl ?_
       obtain ⟨x65_6, hx65_6, hm⟩ := bnd hm
       obtain ⟨hx65_6i, hx65_6g⟩ := geti_some hx65_6
       refine Wz (.loc 1 ((Int.toNat 3) * 1)) (Oia rfl (encI_len (k := .u64)) hx65_6i hx65_6g) <| Wz (.u x65_6) (Lr1 rfl (encI_len (k := .u64)) hx65_6g) <| Wz (.i (W6 x65_6)) (Oc2 (.int .u64 x65_6) rfl (run_conv (ds := .int .u64) (k' := .i64) (by kernel_rfl) (by kernel_rfl))) ?_
       obtain ⟨x68_6, hx68_6, hm⟩ := bnd hm
       obtain ⟨hx68_6i, hx68_6g⟩ := geti_some hx68_6
       refine Wz (.d (.ref (List.drop ((Int.toNat (W6 x65_6)) * 2) (flatD enc_GType p0)))) (Oia rfl enc_GType_len hx68_6i hx68_6g) <| Wz (.agg [(.s x68_6.Name), (.l enc_GField x68_6.Fields)]) (Lf rfl enc_GType_len hx68_6g) <| Wy (.loc 2 0) [(2, (.box [(.s ([] : List UInt8)), (.d .nil)]))] (Oal rfl) <| Wy (.tup []) [(2, (.box [(.s x68_6.Name), (.l enc_GField x68_6.Fields)]))] (Ost rfl) <| Nk 16967 7 ⟨.l enc_GType p0::.s p1::.i y2_2::tp 3 (.loc 0 0::tp 2 (.own 1::tp 4 (.loc 2 0::tp 123 []))), [(.box [(.i 0), (.i 0), (.i 0), (.s ([] : List UInt8)), (.d .nil)]), (.arr 84 1 (List.length y9_2) (flatD (encI .u64) y9_2)), (.box [(.s x68_6.Name), (.l enc_GField x68_6.Fields)])], 0⟩ <| Sx <| Wz (.loc 2 0) (Ofa rfl) <| Wz (.s x68_6.Name) (Old rfl) <| Wz (.agg [(.i (-1)), (.i (-1)), (.i (-1)), (.s x68_6.Name), (.d .nil)]) (Obd rfl) <| Wy (.loc 3 0) [(3, (.box [(.i 0), (.i 0), (.i 0), (.s ([] : List UInt8)), (.d .nil)]))] (Oal rfl) <| Wy (.tup []) [(3, (.box [(.i (-1)), (.i (-1)), (.i (-1)), (.s x68_6.Name), (.d .nil)]))] (Ost rfl) <| Nk 49735 15 ⟨.l enc_GType p0::.s p1::.i y2_2::tp 3 (.loc 0 0::tp 2 (.own 1::tp 4 (.loc 2 0::.loc 3 0::tp 122 []))), [(.box [(.i 0), (.i 0), (.i 0), (.s ([] : List UInt8)), (.d .nil)]), (.arr 84 1 (List.length y9_2) (flatD (encI .u64) y9_2)), (.box [(.s x68_6.Name), (.l enc_GField x68_6.Fields)]), (.box [(.i (-1)), (.i (-1)), (.i (-1)), (.s x68_6.Name), (.d .nil)])], 0⟩ <| Sq <| Sx ?_
       refine Wm (.i 0) rfl <| Nk 115271 15 ⟨.l enc_GType p0::.s p1::.i y2_2::tp 3 (.loc 0 0::tp 2 (.own 1::tp 4 (.loc 2 0::.loc 3 0::.i 0::tp 121 []))), [(.box [(.i 0), (.i 0), (.i 0), (.s ([] : List UInt8)), (.d .nil)]), (.arr 84 1 (List.length y9_2) (flatD (encI .u64) y9_2)), (.box [(.s x68_6.Name), (.l enc_GField x68_6.Fields)]), (.box [(.i (-1)), (.i (-1)), (.i (-1)), (.s x68_6.Name), (.d .nil)])], 0⟩ <| Bk <| Aob 3 4 98 4 ⟨.l enc_GType p0::.s p1::.i y2_2::tp 3 (.loc 0 0::tp 2 (.own 1::tp 4 (.loc 2 0::.loc 3 0::.i 0::tp 121 []))), [(.box [(.i 0), (.i 0), (.i 0), (.s ([] : List UInt8)), (.d .nil)]), (.arr 84 1 (List.length y9_2) (flatD (encI .u64) y9_2)), (.box [(.s x68_6.Name), (.l enc_GField x68_6.Fields)]), (.box [(.i (-1)), (.i (-1)), (.i (-1)), (.s x68_6.Name), (.own 4)]), (Ar 98 4 enc_GValue ([] : List GValue))], 0⟩ ?_
       refine AWP.loopI (α := Nat × Int × (List GValue) × Int)
         (fun (fu_7, y2_7, y15_d_4_7, y16_7) => (⟨.l enc_GType p0::.s p1::.i y2_7::tp 3 (.loc 0 0::tp 2 (.own 1::tp 4 (.loc 2 0::.loc 3 0::.i y16_7::tp 121 []))), [(.box [(.i 0), (.i 0), (.i 0), (.s ([] : List UInt8)), (.d .nil)]), (.arr 84 1 (List.length y9_2) (flatD (encI .u64) y9_2)), (.box [(.s x68_6.Name), (.l enc_GField x68_6.Fields)]), (.box [(.i (-1)), (.i (-1)), (.i (-1)), (.s x68_6.Name), (.own 4)]), (Ar 98 4 enc_GValue y15_d_4_7)], 0⟩ : St))
         (fun (fu_7, y2_7, y15_d_4_7, y16_7) => m_r07_Take_l7 p0 p1 x68_6 y9_2 fu_7 y2_7 y15_d_4_7 y16_7 = some r)
         (fun (fu_7, y2_7, y15_d_4_7, y16_7) => fu_7) (1152921504606846976, y2_2, ([] : List GValue), 0)
         (Weak.toK 115271 0 0 [0, 1, 2, 3, 4]) hm ?_
       rintro ⟨fu_7, y2_7, y15_d_4_7, y16_7⟩ n_7 hm ih_7
       try dsimp only at hm ih_7 ⊢
       cases fu_7 with
       | zero => exact absurd hm (by unfold m_r07_Take_l7; simp)
       | succ fu_7 =>
        unfold m_r07_Take_l7 at hm
        refine Sq <| Sx <| Wm (.i y16_7) rfl <| Wz (.loc 2 1) (Ofa rfl) <| Wz (.l enc_GField x68_6.Fields) (Old rfl) <| Wz (.i ((List.length x68_6.Fields : Nat) : Int)) (Oln rfl) <| Wz (.b (decide (y16_7 < ((List.length x68_6.Fields : Nat) : Int)))) (Obn rfl (fun _ => hb_lss (k := .i64))) <| Nk 151115727451828646953543 31 ⟨.l enc_GType p0::.s p1::.i y2_7::tp 3 (.loc 0 0::tp 2 (.own 1::tp 4 (.loc 2 0::.loc 3 0::.i y16_7::tp 60 (.b (decide (y16_7 < ((List.length x68_6.Fields : Nat) : Int)))::tp 60 [])))), [(.box [(.i 0), (.i 0), (.i 0), (.s ([] : List UInt8)), (.d .nil)]), (.arr 84 1 (List.length y9_2) (flatD (encI .u64) y9_2)), (.box [(.s x68_6.Name), (.l enc_GField x68_6.Fields)]), (.box [(.i (-1)), (.i (-1)), (.i (-1)), (.s x68_6.Name), (.own 4)]), (Ar 98 4 enc_GValue y15_d_4_7)], 0⟩ ?_
        rcases tf_ (decide (y16_7 < ((List.length x68_6.Fields : Nat) : Int))) with hc77_20 | hc77_20
        ·
         replace hm := cT hc77_20 hm
         refine AiT hc77_20 <| Sk <| Tk 115271 31 ⟨.l enc_GType p0::.s p1::.i y2_7::tp 3 (.loc 0 0::tp 2 (.own 1::tp 4 (.loc 2 0::.loc 3 0::.i y16_7::tp 121 []))), [(.box [(.i 0), (.i 0), (.i 0), (.s ([] : List UInt8)), (.d .nil)]), (.arr 84 1 (List.length y9_2) (flatD (encI .u64) y9_2)), (.box [(.s x68_6.Name), (.l enc_GField x68_6.Fields)]), (.box [(.i (-1)), (.i (-1)), (.i (-1)), (.s x68_6.Name), (.own 4)]), (Ar 98 4 enc_GValue y15_d_4_7)], 0⟩ <| Sq <| Bk <| Sx <| Wm (.s p1) rfl <| Wm (.i y2_7) rfl ?_
         obtain ⟨r83_9, hr83_9, hm⟩ := bnd hm
         refine Wz (.tup [(.agg [(.y r83_9.1.Kind), (.i r83_9.1.N), (.u r83_9.1.Bits), (.s r83_9.1.Text)]), (.i r83_9.2.1), (.i r83_9.2.2)]) (Ocf [] [] [] 0 (ok_r04_Take p1 y2_7 r83_9 hr83_9) (fun a w => Tryd.call95 a w) rfl trivial) <| Wm (.tup [(.agg [(.y r83_9.1.Kind), (.i r83_9.1.N), (.u r83_9.1.Bits), (.s r83_9.1.Text)]), (.i r83_9.2.1), (.i r83_9.2.2)]) rfl <| Wz (.agg [(.y r83_9.1.Kind), (.i r83_9.1.N), (.u r83_9.1.Bits), (.s r83_9.1.Text)]) (Oex rfl) <| Wz (.i r83_9.2.1) (Oex rfl) <| Wz (.i r83_9.2.2) (Oex rfl) <| Wy (.loc 5 0) [(5, (.box [(.y 0), (.i 0), (.u 0), (.s ([] : List UInt8))]))] (Oal rfl) <| Wy (.tup []) [(5, (.box [(.y r83_9.1.Kind), (.i r83_9.1.N), (.u r83_9.1.Bits), (.s r83_9.1.Text)]))] (Ost rfl) <| Wm (.i r83_9.2.1) rfl <| Wm (.i r83_9.2.2) rfl <| Nk 1032771 63 ⟨.l enc_GType p0::.s p1::tp 4 (.loc 0 0::tp 2 (.own 1::tp 4 (.loc 2 0::.loc 3 0::.i y16_7::.loc 5 0::.i r83_9.2.1::.i r83_9.2.2::tp 118 []))), [(.box [(.i 0), (.i 0), (.i 0), (.s ([] : List UInt8)), (.d .nil)]), (.arr 84 1 (List.length y9_2) (flatD (encI .u64) y9_2)), (.box [(.s x68_6.Name), (.l enc_GField x68_6.Fields)]), (.box [(.i (-1)), (.i (-1)), (.i (-1)), (.s x68_6.Name), (.own 4)]), (Ar 98 4 enc_GValue y15_d_4_7), (.box [(.y r83_9.1.Kind), (.i r83_9.1.N), (.u r83_9.1.Bits), (.s r83_9.1.Text)])], 0⟩ <| Sq <| Sx <| Wm (.i r83_9.2.2) rfl <| Wz (.b (decide (r83_9.2.2 ≠ 0))) (Obn rfl (fun _ => hb_neq (k := .i64))) ?_
         refine Nk 309485009821345068725813827 63 ⟨.l enc_GType p0::.s p1::tp 4 (.loc 0 0::tp 2 (.own 1::tp 4 (.loc 2 0::.loc 3 0::.i y16_7::.loc 5 0::.i r83_9.2.1::.i r83_9.2.2::tp 68 (.b (decide (r83_9.2.2 ≠ 0))::tp 49 [])))), [(.box [(.i 0), (.i 0), (.i 0), (.s ([] : List UInt8)), (.d .nil)]), (.arr 84 1 (List.length y9_2) (flatD (encI .u64) y9_2)), (.box [(.s x68_6.Name), (.l enc_GField x68_6.Fields)]), (.box [(.i (-1)), (.i (-1)), (.i (-1)), (.s x68_6.Name), (.own 4)]), (Ar 98 4 enc_GValue y15_d_4_7), (.box [(.y r83_9.1.Kind), (.i r83_9.1.N), (.u r83_9.1.Bits), (.s r83_9.1.Text)])], 0⟩ ?_
         rcases tf_ (decide (r83_9.2.2 ≠ 0)) with hc88_21 | hc88_21
         ·
          replace hm := cT hc88_21 hm
          refine AiT hc88_21 <| Sx <| Wz (.agg [(.i 0), (.i 0), (.i 0), (.s ([] : List UInt8)), (.d .nil)]) (Obd rfl) <| Wm (.i r83_9.2.2) rfl <| Wy (.tup []) [(0, (.box [(.i 0), (.i 0), (.i 0), (.s ([] : List UInt8)), (.d .nil)]))] (Ost rfl) <| Wm (.i 0) rfl <| Wm (.i r83_9.2.2) rfl <| Nn <| Aob 0 4 98 4 ⟨.l enc_GType p0::.s p1::tp 4 (.loc 0 0::.i 0::.i r83_9.2.2::.own 1::tp 4 (.loc 2 0::.loc 3 0::.i y16_7::.loc 5 0::.i r83_9.2.1::.i r83_9.2.2::tp 68 (.b (decide (r83_9.2.2 ≠ 0))::.agg [(.i 0), (.i 0), (.i 0), (.s ([] : List UInt8)), (.d .nil)]::.i r83_9.2.2::tp 47 []))), [(.box [(.i 0), (.i 0), (.i 0), (.s ([] : List UInt8)), (.own 6)]), (.arr 84 1 (List.length y9_2) (flatD (encI .u64) y9_2)), (.box [(.s x68_6.Name), (.l enc_GField x68_6.Fields)]), (.box [(.i (-1)), (.i (-1)), (.i (-1)), (.s x68_6.Name), (.own 4)]), (Ar 98 4 enc_GValue y15_d_4_7), (.box [(.y r83_9.1.Kind), (.i r83_9.1.N), (.u r83_9.1.Bits), (.s r83_9.1.Text)]), (Ar 98 4 enc_GValue ([] : List GValue))], 0⟩ <| Rt <| Tr <| Ir <| Tr <| RoundK.ret ?_
          refine Ir <| Tr ?_
          obtain rfl := Option.some.inj hm
          exact ret_i [6]
         ·
          replace hm := cF hc88_21 hm
          refine AiF hc88_21 <| Sk <| Tk 508483 63 ⟨.l enc_GType p0::.s p1::tp 4 (.loc 0 0::tp 2 (.own 1::tp 4 (.loc 2 0::.loc 3 0::.i y16_7::.loc 5 0::.i r83_9.2.1::tp 119 []))), [(.box [(.i 0), (.i 0), (.i 0), (.s ([] : List UInt8)), (.d .nil)]), (.arr 84 1 (List.length y9_2) (flatD (encI .u64) y9_2)), (.box [(.s x68_6.Name), (.l enc_GField x68_6.Fields)]), (.box [(.i (-1)), (.i (-1)), (.i (-1)), (.s x68_6.Name), (.own 4)]), (Ar 98 4 enc_GValue y15_d_4_7), (.box [(.y r83_9.1.Kind), (.i r83_9.1.N), (.u r83_9.1.Bits), (.s r83_9.1.Text)])], 0⟩ <| Sx <| Wz (.loc 3 4) (Ofa rfl) <| Wz (.own 4) (Old rfl) <| Wz (.agg [(.y r83_9.1.Kind), (.i r83_9.1.N), (.u r83_9.1.Bits), (.s r83_9.1.Text)]) (Old rfl) <| Wy (.own 6) [(6, (Ar 98 4 enc_GValue ([r83_9.1] : List GValue)))] (Obs rfl) ?_
          obtain ⟨a95_10, ha95_10, hm⟩ := bnd hm; obtain ⟨ha95_10e, ha95_10l⟩ := app_some ha95_10
          refine Wy (.own 7) [(4, .gone), (7, (Ar 98 4 enc_GValue a95_10))] (Oap rfl elemOK_42 enc_GValue_len ha95_10e ha95_10l) <| Wz (.loc 3 4) (Ofa rfl) <| Wy (.tup []) [(3, (.box [(.i (-1)), (.i (-1)), (.i (-1)), (.s x68_6.Name), (.own 7)]))] (Ost rfl) <| Nk 377411 143 ⟨.l enc_GType p0::.s p1::tp 4 (.loc 0 0::tp 2 (.own 1::tp 4 (.loc 2 0::.loc 3 0::.i y16_7::tp 1 (.i r83_9.2.1::tp 119 [])))), [(.box [(.i 0), (.i 0), (.i 0), (.s ([] : List UInt8)), (.d .nil)]), (.arr 84 1 (List.length y9_2) (flatD (encI .u64) y9_2)), (.box [(.s x68_6.Name), (.l enc_GField x68_6.Fields)]), (.box [(.i (-1)), (.i (-1)), (.i (-1)), (.s x68_6.Name), (.own 7)]), .gone, .gone, .gone, (Ar 98 4 enc_GValue a95_10)], 0⟩ <| Tx <| Wm (.i r83_9.2.1) rfl <| Wm (.i r83_9.2.1) rfl <| Wn0 <| Ino <| Tk 115271 143 ⟨.l enc_GType p0::.s p1::.i r83_9.2.1::tp 3 (.loc 0 0::tp 2 (.own 1::tp 4 (.loc 2 0::.loc 3 0::.i y16_7::tp 121 []))), [(.box [(.i 0), (.i 0), (.i 0), (.s ([] : List UInt8)), (.d .nil)]), (.arr 84 1 (List.length y9_2) (flatD (encI .u64) y9_2)), (.box [(.s x68_6.Name), (.l enc_GField x68_6.Fields)]), (.box [(.i (-1)), (.i (-1)), (.i (-1)), (.s x68_6.Name), (.own 7)]), .gone, .gone, .gone, (Ar 98 4 enc_GValue a95_10)], 0⟩ <| Tx <| Wm (.i y16_7) rfl <| Wz (.i (W6 (y16_7 + 1))) (Obn rfl (fun _ => hb_add (k := .i64))) <| Wm (.i (W6 (y16_7 + 1))) rfl ?_
          refine Wn0 <| RoundK.normal ?_
          exact Rounds.weak (Weak.toK 115271 0 0 [0, 1, 2, 3, 7]) (ih_7 (fu_7, r83_9.2.1, a95_10, (W6 (y16_7 + 1))) hm (Nat.lt_succ_self _))
        ·
         replace hm := cF hc77_20 hm
         refine AiF hc77_20 <| AWP.exit <| Then.exit <| RoundK.exit <| InBlock.same <| Tk 33349 27 ⟨.l enc_GType p0::tp 1 (.i y2_7::tp 3 (.loc 0 0::tp 2 (.own 1::tp 5 (.loc 3 0::tp 122 [])))), [(.box [(.i 0), (.i 0), (.i 0), (.s ([] : List UInt8)), (.d .nil)]), (.arr 84 1 (List.length y9_2) (flatD (encI .u64) y9_2)), .gone, (.box [(.i (-1)), (.i (-1)), (.i (-1)), (.s x68_6.Name), (.own 4)]), (Ar 98 4 enc_GValue y15_d_4_7)], 0⟩ ?_
         refine AWP.cutJ (α := Int × Int × Int) (fun (y15_d_0_14, y15_d_1_14, y15_d_2_14) => (⟨.l enc_GType p0::tp 1 (.i y2_7::tp 3 (.loc 0 0::tp 8 (.loc 1 0::tp 122 []))), [(.box [(.i 0), (.i 0), (.i 0), (.s ([] : List UInt8)), (.d .nil)]), (.box [(.i y15_d_0_14), (.i y15_d_1_14), (.i y15_d_2_14), (.s x68_6.Name), (.own 2)]), (Ar 98 4 enc_GValue y15_d_4_7)], 0⟩ : St)) (fun (y15_d_0_14, y15_d_1_14, y15_d_2_14) => m_r07_Take_j14 p0 x68_6 y15_d_4_7 y2_7 y15_d_0_14 y15_d_1_14 y15_d_2_14 = some r) ?_ (fun J14 => ?_)
         ·
          rintro ⟨y15_d_0_14, y15_d_1_14, y15_d_2_14⟩ hm
          try dsimp only at hm ⊢
          unfold m_r07_Take_j14 at hm
          refine Sq <| Sx <| Wm (.l enc_GType p0) rfl <| Wz (.agg [(.i y15_d_0_14), (.i y15_d_1_14), (.i y15_d_2_14), (.s x68_6.Name), (.own 2)]) (Old rfl) ?_
          obtain ⟨r131_15, hr131_15, hm⟩ := bnd hm
          refine Wz (.i r131_15) (Ocp [] [] [2] 0 (ok_r07_Check p0 (GEvent.mk y15_d_0_14 y15_d_1_14 y15_d_2_14 x68_6.Name y15_d_4_7) r131_15 hr131_15) (plain_triv (by simp [A.Plain, A.Plains, D.Plain, byteD])) (fun a w => Tryd.call39 a w) rfl trivial) <| Wm (.i r131_15) rfl <| Nk 1081412 7 ⟨tp 2 (.i y2_7::tp 3 (.loc 0 0::tp 8 (.loc 1 0::tp 4 (.i r131_15::tp 117 [])))), [(.box [(.i 0), (.i 0), (.i 0), (.s ([] : List UInt8)), (.d .nil)]), (.box [(.i y15_d_0_14), (.i y15_d_1_14), (.i y15_d_2_14), (.s x68_6.Name), (.own 2)]), (Ar 98 4 enc_GValue y15_d_4_7)], 0⟩ <| Sx <| Wm (.i r131_15) rfl <| Wz (.b (decide (r131_15 ≠ 0))) (Obn rfl (fun _ => hb_neq (k := .i64))) <| Nk 10889035741470030830827987437816583848004 7 ⟨tp 2 (.i y2_7::tp 3 (.loc 0 0::tp 8 (.loc 1 0::tp 4 (.i r131_15::tp 112 (.b (decide (r131_15 ≠ 0))::tp 4 []))))), [(.box [(.i 0), (.i 0), (.i 0), (.s ([] : List UInt8)), (.d .nil)]), (.box [(.i y15_d_0_14), (.i y15_d_1_14), (.i y15_d_2_14), (.s x68_6.Name), (.own 2)]), (Ar 98 4 enc_GValue y15_d_4_7)], 0⟩ ?_
          rcases tf_ (decide (r131_15 ≠ 0)) with hc133_22 | hc133_22
          ·
           replace hm := cT hc133_22 hm
           refine AiT hc133_22 <| Sx <| Wz (.agg [(.i 0), (.i 0), (.i 0), (.s ([] : List UInt8)), (.d .nil)]) (Obd rfl) <| Wm (.i r131_15) rfl <| Wy (.tup []) [(0, (.box [(.i 0), (.i 0), (.i 0), (.s ([] : List UInt8)), (.d .nil)]))] (Ost rfl) <| Wm (.i 0) rfl <| Wm (.i r131_15) rfl <| Nn <| Aob 0 4 98 4 ⟨tp 2 (.i y2_7::tp 3 (.loc 0 0::.i 0::.i r131_15::tp 6 (.loc 1 0::tp 4 (.i r131_15::tp 112 (.b (decide (r131_15 ≠ 0))::.agg [(.i 0), (.i 0), (.i 0), (.s ([] : List UInt8)), (.d .nil)]::.i r131_15::tp 2 []))))), [(.box [(.i 0), (.i 0), (.i 0), (.s ([] : List UInt8)), (.own 3)]), (.box [(.i y15_d_0_14), (.i y15_d_1_14), (.i y15_d_2_14), (.s x68_6.Name), (.own 2)]), (Ar 98 4 enc_GValue y15_d_4_7), (Ar 98 4 enc_GValue ([] : List GValue))], 0⟩ <| Rt <| Tr ?_
           obtain rfl := Option.some.inj hm
           exact ret_i [3]
          ·
           replace hm := cF hc133_22 hm
           refine AiF hc133_22 <| Sk <| Tk 32836 7 ⟨tp 2 (.i y2_7::tp 3 (.loc 0 0::tp 8 (.loc 1 0::tp 122 []))), [(.box [(.i 0), (.i 0), (.i 0), (.s ([] : List UInt8)), (.d .nil)]), (.box [(.i y15_d_0_14), (.i y15_d_1_14), (.i y15_d_2_14), (.s x68_6.Name), (.own 2)]), (Ar 98 4 enc_GValue y15_d_4_7)], 0⟩ <| Sx <| Wz (.agg [(.i y15_d_0_14), (.i y15_d_1_14), (.i y15_d_2_14), (.s x68_6.Name), (.own 2)]) (Old rfl) <| Wm (.i y2_7) rfl <| Wy (.tup []) [(0, (.box [(.i y15_d_0_14), (.i y15_d_1_14), (.i y15_d_2_14), (.s x68_6.Name), (.own 2)]))] (Ost rfl) <| Wm (.i y2_7) rfl <| Wm (.i 0) rfl <| Nn <| Rt ?_
           obtain rfl := Option.some.inj hm
           exact ret_i [2]
         refine Sq ?_
         refine AWP.cutJ (α := Unit) (fun x => match x with | () => (⟨.l enc_GType p0::tp 1 (.i y2_7::tp 3 (.loc 0 0::tp 2 (.own 1::tp 5 (.loc 2 0::tp 97 (.b false::tp 24 []))))), [(.box [(.i 0), (.i 0), (.i 0), (.s ([] : List UInt8)), (.d .nil)]), (.arr 84 1 (List.length y9_2) (flatD (encI .u64) y9_2)), (.box [(.i (-1)), (.i (-1)), (.i (-1)), (.s x68_6.Name), (.own 3)]), (Ar 98 4 enc_GValue y15_d_4_7)], 0⟩ : St)) (fun x => match x with | () => m_r07_Take_j12 p0 x68_6 y15_d_4_7 y2_7 = some r) ?_ (fun J12 => ?_)
         ·
          rintro ⟨⟩ hm
          try dsimp only at hm ⊢
          unfold m_r07_Take_j12 at hm
          refine AWP.if_ false (by kernel_rfl) <| Sk <| Tn ?_
          exact AWP.weak (Weak.toK 32837 0 0 [0, 2, 3]) (J14 ((-1), (-1), (-1)) hm)
         refine Sx <| Wm (.own 1) rfl ?_
         obtain ⟨x99_11, hx99_11, hm⟩ := bnd hm
         obtain ⟨hx99_11i, hx99_11g⟩ := geti_some hx99_11
         refine Wz (.loc 1 ((Int.toNat 0) * 1)) (Oia rfl (encI_len (k := .u64)) hx99_11i hx99_11g) <| Wz (.u x99_11) (Lr1 rfl (encI_len (k := .u64)) hx99_11g) <| Wz (.b (decide (x99_11 ≤ 1099511627776))) (Obn rfl (fun _ => hb_leq (k := .u64))) ?_
         rcases tf_ (decide (x99_11 ≤ 1099511627776)) with hq102_11 | hq102_11
         ·
          replace hm := cT hq102_11 hm
          refine Wz (.b true) (Oq hq102_11 rfl) <| Wm (.own 1) rfl ?_
          obtain ⟨x104_11, hx104_11, hm⟩ := bnd hm
          obtain ⟨hx104_11i, hx104_11g⟩ := geti_some hx104_11
          refine Wz (.loc 1 ((Int.toNat 1) * 1)) (Oia rfl (encI_len (k := .u64)) hx104_11i hx104_11g) <| Wz (.u x104_11) (Lr1 rfl (encI_len (k := .u64)) hx104_11g) <| Wz (.b (decide (x104_11 < 16))) (Obn rfl (fun _ => hb_lss (k := .u64))) <| Wz (.b (decide (x104_11 < 16))) (OpT rfl) ?_
          rcases tf_ (decide (x104_11 < 16)) with hq108_11 | hq108_11
          ·
           replace hm := cT hq108_11 hm
           refine Wz (.b true) (Oq hq108_11 rfl) <| Wm (.own 1) rfl ?_
           obtain ⟨x110_11, hx110_11, hm⟩ := bnd hm
           obtain ⟨hx110_11i, hx110_11g⟩ := geti_some hx110_11
           refine Wz (.loc 1 ((Int.toNat 2) * 1)) (Oia rfl (encI_len (k := .u64)) hx110_11i hx110_11g) <| Wz (.u x110_11) (Lr1 rfl (encI_len (k := .u64)) hx110_11g) <| Wz (.b (decide (x110_11 ≤ 1099511627776))) (Obn rfl (fun _ => hb_leq (k := .u64))) <| Wz (.b (decide (x110_11 ≤ 1099511627776))) (OpT rfl) <| Nk 10384593717069655257060992658473541 27 ⟨.l enc_GType p0::tp 1 (.i y2_7::tp 3 (.loc 0 0::tp 2 (.own 1::tp 5 (.loc 3 0::tp 97 (.b (decide (x110_11 ≤ 1099511627776))::tp 24 []))))), [(.box [(.i 0), (.i 0), (.i 0), (.s ([] : List UInt8)), (.d .nil)]), (.arr 84 1 (List.length y9_2) (flatD (encI .u64) y9_2)), .gone, (.box [(.i (-1)), (.i (-1)), (.i (-1)), (.s x68_6.Name), (.own 4)]), (Ar 98 4 enc_GValue y15_d_4_7)], 0⟩ ?_
           rcases tf_ (decide (x110_11 ≤ 1099511627776)) with hc113_23 | hc113_23
           ·
            replace hm := cT hc113_23 hm
            refine AiT hc113_23 <| Adr <| Wm (.own 1) rfl ?_
            obtain ⟨x115_13, hx115_13, hm⟩ := bnd hm
            obtain ⟨hx115_13i, hx115_13g⟩ := geti_some hx115_13
            refine Wz (.loc 1 ((Int.toNat 0) * 1)) (Oia rfl (encI_len (k := .u64)) hx115_13i hx115_13g) <| Wz (.u x115_13) (Lr1 rfl (encI_len (k := .u64)) hx115_13g) <| Wz (.i (W6 x115_13)) (Oc2 (.int .u64 x115_13) rfl (run_conv (ds := .int .u64) (k' := .i64) (by kernel_rfl) (by kernel_rfl))) <| Wm (.own 1) rfl ?_
            obtain ⟨x119_13, hx119_13, hm⟩ := bnd hm
            obtain ⟨hx119_13i, hx119_13g⟩ := geti_some hx119_13
            refine Wz (.loc 1 ((Int.toNat 1) * 1)) (Oia rfl (encI_len (k := .u64)) hx119_13i hx119_13g) <| Wz (.u x119_13) (Lr1 rfl (encI_len (k := .u64)) hx119_13g) <| Wz (.i (W6 x119_13)) (Oc2 (.int .u64 x119_13) rfl (run_conv (ds := .int .u64) (k' := .i64) (by kernel_rfl) (by kernel_rfl))) <| Wm (.own 1) rfl ?_
            obtain ⟨x123_13, hx123_13, hm⟩ := bnd hm
            obtain ⟨hx123_13i, hx123_13g⟩ := geti_some hx123_13
            refine Wz (.loc 1 ((Int.toNat 2) * 1)) (Oia rfl (encI_len (k := .u64)) hx123_13i hx123_13g) <| Wz (.u x123_13) (Lr1 rfl (encI_len (k := .u64)) hx123_13g) <| Wz (.i (W6 x123_13)) (Oc2 (.int .u64 x123_13) rfl (run_conv (ds := .int .u64) (k' := .i64) (by kernel_rfl) (by kernel_rfl))) <| Wz (.loc 3 0) (Ofa rfl) <| Wy (.tup []) [(3, (.box [(.i (W6 x115_13)), (.i (-1)), (.i (-1)), (.s x68_6.Name), (.own 4)]))] (Ost rfl) <| Wz (.loc 3 1) (Ofa rfl) <| Wy (.tup []) [(3, (.box [(.i (W6 x115_13)), (.i (W6 x119_13)), (.i (-1)), (.s x68_6.Name), (.own 4)]))] (Ost rfl) <| Wz (.loc 3 2) (Ofa rfl) <| Wy (.tup []) [(3, (.box [(.i (W6 x115_13)), (.i (W6 x119_13)), (.i (W6 x123_13)), (.s x68_6.Name), (.own 4)]))] (Ost rfl) <| Wdr <| Tn ?_
            exact AWP.weak (Weak.toK 32837 0 0 [0, 3, 4]) (J14 ((W6 x115_13), (W6 x119_13), (W6 x123_13)) hm)
           ·
            replace hm := cF hc113_23 hm
            refine AiF hc113_23 <| Sk <| Tn ?_
            exact AWP.weak (Weak.toK 32837 0 0 [0, 3, 4]) (J14 ((-1), (-1), (-1)) hm)
          ·
           replace hm := cF hq108_11 hm
           refine Wz (.b false) (Oq hq108_11 rfl) <| Wn <| Wn <| Wn <| Wn <| Wz (.b false) (OpF rfl) <| Nn ?_
           exact AWP.weak (Weak.toK 10384593717069655257060992658473541 0 0 [0, 1, 3, 4]) (J12 () hm)
         ·
          replace hm := cF hq102_11 hm
          refine Wz (.b false) (Oq hq102_11 rfl) <| Wn <| Wn <| Wn <| Wn <| Wz (.b false) (OpF rfl) <| Wm (.b false) rfl <| Wn <| Wn <| Wn <| Wn <| Wz (.b false) (OpF rfl) <| Nn ?_
          exact AWP.weak (Weak.toK 10384593717069655257060992658473541 0 0 [0, 1, 3, 4]) (J12 () hm)

theorem ok_r37_one (p0 : (List GType)) (p1 : (List UInt8)) (p2 : Int) (r : (GCommand × Int × Int)) (h : m_r37_one p0 p1 p2 = some r) : GCall Tryd.prog 43 [(.l enc_GType p0), (.s p1), (.i p2)] [] (.tup [(.agg [(.y r.1.Kind), (.s r.1.Text), (.i r.1.A), (.i r.1.B), (.i r.1.E.Time), (.i r.1.E.Source), (.i r.1.E.Seq), (.s r.1.E.Type_), (.own 0)]), (.i r.2.1), (.i r.2.2)]) [(Ar 98 4 enc_GValue r.1.E.Vals)] := by
 refine GCall.of_body (n := 106) (rs := [(.cell 6 46), (.tmp 7), (.tmp 8)]) Tryd.func43 rfl rfl rfl <| Ato ⟨.l enc_GType p0::.s p1::.i p2::tu 103 [], [], 0⟩ ?_
 have hm := h
 unfold m_r37_one at hm
 refine Sx <| Wy (.loc 0 0) [(0, (.box [(.y 0), (.s ([] : List UInt8)), (.i 0), (.i 0), (.i 0), (.i 0), (.i 0), (.s ([] : List UInt8)), (.d .nil)]))] (Oal rfl) <| Wm (.i 0) rfl <| Wm (.i 0) rfl <| Nk 71 1 ⟨.l enc_GType p0::.s p1::.i p2::tp 3 (.loc 0 0::tp 99 []), [(.box [(.y 0), (.s ([] : List UInt8)), (.i 0), (.i 0), (.i 0), (.i 0), (.i 0), (.s ([] : List UInt8)), (.d .nil)])], 0⟩ <| Sx <| Wm (.s p1) rfl <| Wm (.i p2) rfl ?_
 obtain ⟨x17_0, hx17_0, hm⟩ := bnd hm
 obtain ⟨hx17_0i, hx17_0g⟩ := geti_some hx17_0
 refine Wz (.y x17_0) (Ocs (by kernel_rfl) (op_index_str rfl (by kernel_rfl) (s := toS p1) (by kernel_rfl) (k := .i64) (iv := p2) (by kernel_rfl) (i := (Int.toNat p2)) (hx17_0i) (b := x17_0) (hx17_0g))) <| Wz (.agg [(.y x17_0), (.s ([] : List UInt8)), (.i 0), (.i 0), (.i 0), (.i 0), (.i 0), (.s ([] : List UInt8)), (.d .nil)]) (Obd rfl) <| Wy (.loc 1 0) [(1, (.box [(.y 0), (.s ([] : List UInt8)), (.i 0), (.i 0), (.i 0), (.i 0), (.i 0), (.s ([] : List UInt8)), (.d .nil)]))] (Oal rfl) <| Wy (.tup []) [(1, (.box [(.y x17_0), (.s ([] : List UInt8)), (.i 0), (.i 0), (.i 0), (.i 0), (.i 0), (.s ([] : List UInt8)), (.d .nil)]))] (Ost rfl) <| Nk 583 3 ⟨.l enc_GType p0::.s p1::.i p2::tp 3 (.loc 0 0::tp 2 (.loc 1 0::tp 96 [])), [(.box [(.y 0), (.s ([] : List UInt8)), (.i 0), (.i 0), (.i 0), (.i 0), (.i 0), (.s ([] : List UInt8)), (.d .nil)]), (.box [(.y x17_0), (.s ([] : List UInt8)), (.i 0), (.i 0), (.i 0), (.i 0), (.i 0), (.s ([] : List UInt8)), (.d .nil)])], 0⟩ <| Sx <| Wm (.i p2) rfl <| Wz (.i (W6 (p2 + 1))) (Obn rfl (fun _ => hb_add (k := .i64))) <| Wm (.i (W6 (p2 + 1))) rfl <| Wm (.i 0) rfl <| Nk 3651 3 ⟨.l enc_GType p0::.s p1::tp 4 (.loc 0 0::tp 2 (.loc 1 0::.i (W6 (p2 + 1))::.i 0::tp 94 [])), [(.box [(.y 0), (.s ([] : List UInt8)), (.i 0), (.i 0), (.i 0), (.i 0), (.i 0), (.s ([] : List UInt8)), (.d .nil)]), (.box [(.y x17_0), (.s ([] : List UInt8)), (.i 0), (.i 0), (.i 0), (.i 0), (.i 0), (.s ([] : List UInt8)), (.d .nil)])], 0⟩ <| Sq <| Sx <| Wz (.loc 1 0) (Ofa rfl) ?_
 refine Wz (.y x17_0) (Old rfl) <| Wz (.b (decide (((x17_0.toNat : Nat) : Int) < 1))) (Ob2 (.int .u8 ((x17_0.toNat : Nat) : Int)) (.int .u8 1) rfl (fun _ => hb_lss)) ?_
 rcases tf_ (decide (((x17_0.toNat : Nat) : Int) < 1)) with hq24_1 | hq24_1
 ·
  replace hm := cT hq24_1 hm
  refine Wz (.b true) (Oq hq24_1 rfl) <| Wn <| Wn <| Wn <| Wz (.b true) (OpT rfl) <| Nk 268439107 3 ⟨.l enc_GType p0::.s p1::tp 4 (.loc 0 0::tp 2 (.loc 1 0::.i (W6 (p2 + 1))::.i 0::tp 16 (.b true::tp 77 []))), [(.box [(.y 0), (.s ([] : List UInt8)), (.i 0), (.i 0), (.i 0), (.i 0), (.i 0), (.s ([] : List UInt8)), (.d .nil)]), (.box [(.y x17_0), (.s ([] : List UInt8)), (.i 0), (.i 0), (.i 0), (.i 0), (.i 0), (.s ([] : List UInt8)), (.d .nil)])], 0⟩ <| AWP.if_ true (by kernel_rfl) <| Sx <| Wz (.agg [(.y 0), (.s ([] : List UInt8)), (.i 0), (.i 0), (.i 0), (.i 0), (.i 0), (.s ([] : List UInt8)), (.d .nil)]) (Obd rfl) <| Wy (.tup []) [(0, (.box [(.y 0), (.s ([] : List UInt8)), (.i 0), (.i 0), (.i 0), (.i 0), (.i 0), (.s ([] : List UInt8)), (.d .nil)]))] (Ost rfl) <| Wm (.i 0) rfl <| Wm (.i 11) rfl <| Nn <| Aob 0 8 98 4 ⟨.l enc_GType p0::.s p1::tp 4 (.loc 0 0::.i 0::.i 11::.loc 1 0::.i (W6 (p2 + 1))::.i 0::tp 16 (.b true::.agg [(.y 0), (.s ([] : List UInt8)), (.i 0), (.i 0), (.i 0), (.i 0), (.i 0), (.s ([] : List UInt8)), (.d .nil)]::tp 76 [])), [(.box [(.y 0), (.s ([] : List UInt8)), (.i 0), (.i 0), (.i 0), (.i 0), (.i 0), (.s ([] : List UInt8)), (.own 2)]), (.box [(.y x17_0), (.s ([] : List UInt8)), (.i 0), (.i 0), (.i 0), (.i 0), (.i 0), (.s ([] : List UInt8)), (.d .nil)]), (Ar 98 4 enc_GValue ([] : List GValue))], 0⟩ ?_
  refine Rt <| Tr ?_
  obtain rfl := Option.some.inj hm
  exact ret_i [2]
 ·
  replace hm := cF hq24_1 hm
  refine Wz (.b false) (Oq hq24_1 rfl) <| Wz (.loc 1 0) (Ofa rfl) <| Wz (.y x17_0) (Old rfl) <| Wz (.b (decide ((7 : Int) < ((x17_0.toNat : Nat) : Int)))) (Ob2 (.int .u8 ((x17_0.toNat : Nat) : Int)) (.int .u8 7) rfl (fun _ => hb_gtr)) <| Wz (.b (decide ((7 : Int) < ((x17_0.toNat : Nat) : Int)))) (OpF rfl) <| Nk 268439107 3 ⟨.l enc_GType p0::.s p1::tp 4 (.loc 0 0::tp 2 (.loc 1 0::.i (W6 (p2 + 1))::.i 0::tp 16 (.b (decide ((7 : Int) < ((x17_0.toNat : Nat) : Int)))::tp 77 []))), [(.box [(.y 0), (.s ([] : List UInt8)), (.i 0), (.i 0), (.i 0), (.i 0), (.i 0), (.s ([] : List UInt8)), (.d .nil)]), (.box [(.y x17_0), (.s ([] : List UInt8)), (.i 0), (.i 0), (.i 0), (.i 0), (.i 0), (.s ([] : List UInt8)), (.d .nil)])], 0⟩ ?_
  rcases tf_ (decide ((7 : Int) < ((x17_0.toNat : Nat) : Int))) with hc28_11 | hc28_11
  ·
   replace hm := cT hc28_11 hm
   refine AiT hc28_11 <| Sx <| Wz (.agg [(.y 0), (.s ([] : List UInt8)), (.i 0), (.i 0), (.i 0), (.i 0), (.i 0), (.s ([] : List UInt8)), (.d .nil)]) (Obd rfl) <| Wy (.tup []) [(0, (.box [(.y 0), (.s ([] : List UInt8)), (.i 0), (.i 0), (.i 0), (.i 0), (.i 0), (.s ([] : List UInt8)), (.d .nil)]))] (Ost rfl) <| Wm (.i 0) rfl <| Wm (.i 11) rfl <| Nn <| Aob 0 8 98 4 ⟨.l enc_GType p0::.s p1::tp 4 (.loc 0 0::.i 0::.i 11::.loc 1 0::.i (W6 (p2 + 1))::.i 0::tp 16 (.b (decide ((7 : Int) < ((x17_0.toNat : Nat) : Int)))::.agg [(.y 0), (.s ([] : List UInt8)), (.i 0), (.i 0), (.i 0), (.i 0), (.i 0), (.s ([] : List UInt8)), (.d .nil)]::tp 76 [])), [(.box [(.y 0), (.s ([] : List UInt8)), (.i 0), (.i 0), (.i 0), (.i 0), (.i 0), (.s ([] : List UInt8)), (.own 2)]), (.box [(.y x17_0), (.s ([] : List UInt8)), (.i 0), (.i 0), (.i 0), (.i 0), (.i 0), (.s ([] : List UInt8)), (.d .nil)]), (Ar 98 4 enc_GValue ([] : List GValue))], 0⟩ <| Rt <| Tr ?_
   obtain rfl := Option.some.inj hm
   exact ret_i [2]
  ·
   replace hm := cF hc28_11 hm
   refine AiF hc28_11 <| Sk <| Tk 3651 3 ⟨.l enc_GType p0::.s p1::tp 4 (.loc 0 0::tp 2 (.loc 1 0::.i (W6 (p2 + 1))::.i 0::tp 94 [])), [(.box [(.y 0), (.s ([] : List UInt8)), (.i 0), (.i 0), (.i 0), (.i 0), (.i 0), (.s ([] : List UInt8)), (.d .nil)]), (.box [(.y x17_0), (.s ([] : List UInt8)), (.i 0), (.i 0), (.i 0), (.i 0), (.i 0), (.s ([] : List UInt8)), (.d .nil)])], 0⟩ <| Sq <| Sx <| Wz (.loc 1 0) (Ofa rfl) <| Wz (.y x17_0) (Old rfl) <| Wz (.b (decide (((x17_0.toNat : Nat) : Int) = 1))) (Ob2 (.int .u8 ((x17_0.toNat : Nat) : Int)) (.int .u8 1) rfl (fun _ => hb_eql)) <| Nk 4294970947 3 ⟨.l enc_GType p0::.s p1::tp 4 (.loc 0 0::tp 2 (.loc 1 0::.i (W6 (p2 + 1))::.i 0::tp 20 (.b (decide (((x17_0.toNat : Nat) : Int) = 1))::tp 73 []))), [(.box [(.y 0), (.s ([] : List UInt8)), (.i 0), (.i 0), (.i 0), (.i 0), (.i 0), (.s ([] : List UInt8)), (.d .nil)]), (.box [(.y x17_0), (.s ([] : List UInt8)), (.i 0), (.i 0), (.i 0), (.i 0), (.i 0), (.s ([] : List UInt8)), (.d .nil)])], 0⟩ ?_
   rcases tf_ (decide (((x17_0.toNat : Nat) : Int) = 1)) with hc32_12 | hc32_12
   ·
    replace hm := cT hc32_12 hm
    refine AiT hc32_12 <| Sx <| Wm (.s p1) rfl <| Wm (.i (W6 (p2 + 1))) rfl ?_
    obtain ⟨s36_2, hs36_2, hm⟩ := bnd hm; obtain ⟨hs36_2a, hs36_2b, hs36_2c, hs36_2d, hs36_2e⟩ := cut_some hs36_2
    refine Wz (.s s36_2) (Ocs (lit_str (toS_cut hs36_2e)) (op_slice_str rfl (by kernel_rfl) (s := toS p1) (by kernel_rfl) (l := (Int.toNat (W6 (p2 + 1)))) (h := (Int.toNat ((List.length p1 : Nat) : Int))) (⟨.i64, (W6 (p2 + 1)), by kernel_rfl, hs36_2a⟩) (by exact rfl) hs36_2c hs36_2d)) ?_
    obtain ⟨r37_2, hr37_2, hm⟩ := bnd hm
    refine Wz (.agg [(.s r37_2.Text), (.i r37_2.At), (.i r37_2.E)]) (Ocf [] [] [] 0 (ok_r01_Open s36_2 r37_2 hr37_2) (fun a w => Tryd.call71 a w) rfl trivial) ?_
    obtain ⟨r38_2, hr38_2, hm⟩ := bnd hm
    refine Wz (.tup [(.agg [(.s r38_2.1.Text), (.i r38_2.1.At), (.i r38_2.1.E)]), (.s r38_2.2)]) (Ocf [] [] [] 0 (ok_r01_RStr r37_2 r38_2 hr38_2) (fun a w => Tryd.call70 a w) rfl trivial) <| Wm (.tup [(.agg [(.s r38_2.1.Text), (.i r38_2.1.At), (.i r38_2.1.E)]), (.s r38_2.2)]) rfl <| Wz (.agg [(.s r38_2.1.Text), (.i r38_2.1.At), (.i r38_2.1.E)]) (Oex rfl) <| Wz (.s r38_2.2) (Oex rfl) <| Wy (.loc 2 0) [(2, (.box [(.s ([] : List UInt8)), (.i 0), (.i 0)]))] (Oal rfl) <| Wy (.tup []) [(2, (.box [(.s r38_2.1.Text), (.i r38_2.1.At), (.i r38_2.1.E)]))] (Ost rfl) <| Wm (.s r38_2.2) rfl <| Nk 13888 7 ⟨tp 6 (.loc 0 0::tp 2 (.loc 1 0::.i (W6 (p2 + 1))::tp 1 (.loc 2 0::.s r38_2.2::tp 92 []))), [(.box [(.y 0), (.s ([] : List UInt8)), (.i 0), (.i 0), (.i 0), (.i 0), (.i 0), (.s ([] : List UInt8)), (.d .nil)]), (.box [(.y x17_0), (.s ([] : List UInt8)), (.i 0), (.i 0), (.i 0), (.i 0), (.i 0), (.s ([] : List UInt8)), (.d .nil)]), (.box [(.s r38_2.1.Text), (.i r38_2.1.At), (.i r38_2.1.E)])], 0⟩ <| Sq <| Sx <| Wz (.loc 2 2) (Ofa rfl) <| Wz (.i r38_2.1.E) (Old rfl) <| Wz (.b (decide (r38_2.1.E ≠ 0))) (Obn rfl (fun _ => hb_neq (k := .i64))) <| Nk 8796093036096 7 ⟨tp 6 (.loc 0 0::tp 2 (.loc 1 0::.i (W6 (p2 + 1))::tp 1 (.loc 2 0::.s r38_2.2::tp 29 (.b (decide (r38_2.1.E ≠ 0))::tp 62 [])))), [(.box [(.y 0), (.s ([] : List UInt8)), (.i 0), (.i 0), (.i 0), (.i 0), (.i 0), (.s ([] : List UInt8)), (.d .nil)]), (.box [(.y x17_0), (.s ([] : List UInt8)), (.i 0), (.i 0), (.i 0), (.i 0), (.i 0), (.s ([] : List UInt8)), (.d .nil)]), (.box [(.s r38_2.1.Text), (.i r38_2.1.At), (.i r38_2.1.E)])], 0⟩ ?_
    rcases tf_ (decide (r38_2.1.E ≠ 0)) with hc43_13 | hc43_13
    ·
     replace hm := cT hc43_13 hm
     refine AiT hc43_13 <| Sq <| Adr <| Wz (.agg [(.y 0), (.s ([] : List UInt8)), (.i 0), (.i 0), (.i 0), (.i 0), (.i 0), (.s ([] : List UInt8)), (.d .nil)]) (Obd rfl) <| Wz (.loc 2 2) (Ofa rfl) <| Wz (.i r38_2.1.E) (Old rfl) <| Wy (.tup []) [(0, (.box [(.y 0), (.s ([] : List UInt8)), (.i 0), (.i 0), (.i 0), (.i 0), (.i 0), (.s ([] : List UInt8)), (.d .nil)]))] (Ost rfl) <| Wm (.i 0) rfl <| Wm (.i r38_2.1.E) rfl <| Wdr <| Tn <| Aob 0 8 98 4 ⟨tp 6 (.loc 0 0::.i 0::.i r38_2.1.E::.loc 1 0::.i (W6 (p2 + 1))::tp 1 (.loc 2 0::.s r38_2.2::tp 29 (.b (decide (r38_2.1.E ≠ 0))::.agg [(.y 0), (.s ([] : List UInt8)), (.i 0), (.i 0), (.i 0), (.i 0), (.i 0), (.s ([] : List UInt8)), (.d .nil)]::.loc 2 2::.i r38_2.1.E::tp 59 []))), [(.box [(.y 0), (.s ([] : List UInt8)), (.i 0), (.i 0), (.i 0), (.i 0), (.i 0), (.s ([] : List UInt8)), (.own 3)]), (.box [(.y x17_0), (.s ([] : List UInt8)), (.i 0), (.i 0), (.i 0), (.i 0), (.i 0), (.s ([] : List UInt8)), (.d .nil)]), (.box [(.s r38_2.1.Text), (.i r38_2.1.At), (.i r38_2.1.E)]), (Ar 98 4 enc_GValue ([] : List GValue))], 0⟩ <| Rt <| Tr ?_
     refine Tr ?_
     obtain rfl := Option.some.inj hm
     exact ret_i [3]
    ·
     replace hm := cF hc43_13 hm
     refine AiF hc43_13 <| Sk <| Tk 13888 7 ⟨tp 6 (.loc 0 0::tp 2 (.loc 1 0::.i (W6 (p2 + 1))::tp 1 (.loc 2 0::.s r38_2.2::tp 92 []))), [(.box [(.y 0), (.s ([] : List UInt8)), (.i 0), (.i 0), (.i 0), (.i 0), (.i 0), (.s ([] : List UInt8)), (.d .nil)]), (.box [(.y x17_0), (.s ([] : List UInt8)), (.i 0), (.i 0), (.i 0), (.i 0), (.i 0), (.s ([] : List UInt8)), (.d .nil)]), (.box [(.s r38_2.1.Text), (.i r38_2.1.At), (.i r38_2.1.E)])], 0⟩ <| Sq <| Sx <| Wm (.s r38_2.2) rfl <| Wz (.i ((List.length r38_2.2 : Nat) : Int)) (Oln rfl) <| Wz (.b (decide ((600 : Int) < ((List.length r38_2.2 : Nat) : Int)))) (Obn rfl (fun _ => hb_gtr (k := .i64))) <| Nk 562949953435200 7 ⟨tp 6 (.loc 0 0::tp 2 (.loc 1 0::.i (W6 (p2 + 1))::tp 1 (.loc 2 0::.s r38_2.2::tp 35 (.b (decide ((600 : Int) < ((List.length r38_2.2 : Nat) : Int)))::tp 56 [])))), [(.box [(.y 0), (.s ([] : List UInt8)), (.i 0), (.i 0), (.i 0), (.i 0), (.i 0), (.s ([] : List UInt8)), (.d .nil)]), (.box [(.y x17_0), (.s ([] : List UInt8)), (.i 0), (.i 0), (.i 0), (.i 0), (.i 0), (.s ([] : List UInt8)), (.d .nil)]), (.box [(.s r38_2.1.Text), (.i r38_2.1.At), (.i r38_2.1.E)])], 0⟩ ?_
     rcases tf_ (decide ((600 : Int) < ((List.length r38_2.2 : Nat) : Int))) with hc49_14 | hc49_14
     ·
      replace hm := cT hc49_14 hm
      refine AiT hc49_14 <| Sx <| Wz (.agg [(.y 0), (.s ([] : List UInt8)), (.i 0), (.i 0), (.i 0), (.i 0), (.i 0), (.s ([] : List UInt8)), (.d .nil)]) (Obd rfl) <| Wy (.tup []) [(0, (.box [(.y 0), (.s ([] : List UInt8)), (.i 0), (.i 0), (.i 0), (.i 0), (.i 0), (.s ([] : List UInt8)), (.d .nil)]))] (Ost rfl) <| Wm (.i 0) rfl <| Wm (.i 5) rfl <| Nn <| Aob 0 8 98 4 ⟨tp 6 (.loc 0 0::.i 0::.i 5::.loc 1 0::.i (W6 (p2 + 1))::tp 1 (.loc 2 0::.s r38_2.2::tp 35 (.b (decide ((600 : Int) < ((List.length r38_2.2 : Nat) : Int)))::.agg [(.y 0), (.s ([] : List UInt8)), (.i 0), (.i 0), (.i 0), (.i 0), (.i 0), (.s ([] : List UInt8)), (.d .nil)]::tp 55 []))), [(.box [(.y 0), (.s ([] : List UInt8)), (.i 0), (.i 0), (.i 0), (.i 0), (.i 0), (.s ([] : List UInt8)), (.own 3)]), (.box [(.y x17_0), (.s ([] : List UInt8)), (.i 0), (.i 0), (.i 0), (.i 0), (.i 0), (.s ([] : List UInt8)), (.d .nil)]), (.box [(.s r38_2.1.Text), (.i r38_2.1.At), (.i r38_2.1.E)]), (Ar 98 4 enc_GValue ([] : List GValue))], 0⟩ <| Rt <| Tr <| Tr ?_
      obtain rfl := Option.some.inj hm
      exact ret_i [3]
     ·
      replace hm := cF hc49_14 hm
      refine AiF hc49_14 <| Sk <| Tk 13888 7 ⟨tp 6 (.loc 0 0::tp 2 (.loc 1 0::.i (W6 (p2 + 1))::tp 1 (.loc 2 0::.s r38_2.2::tp 92 []))), [(.box [(.y 0), (.s ([] : List UInt8)), (.i 0), (.i 0), (.i 0), (.i 0), (.i 0), (.s ([] : List UInt8)), (.d .nil)]), (.box [(.y x17_0), (.s ([] : List UInt8)), (.i 0), (.i 0), (.i 0), (.i 0), (.i 0), (.s ([] : List UInt8)), (.d .nil)]), (.box [(.s r38_2.1.Text), (.i r38_2.1.At), (.i r38_2.1.E)])], 0⟩ <| Sx <| Wm (.s r38_2.2) rfl <| Wz (.loc 1 1) (Ofa rfl) <| Wy (.tup []) [(1, (.box [(.y x17_0), (.s r38_2.2), (.i 0), (.i 0), (.i 0), (.i 0), (.i 0), (.s ([] : List UInt8)), (.d .nil)]))] (Ost rfl) <| Nk 5696 7 ⟨tp 6 (.loc 0 0::tp 2 (.loc 1 0::.i (W6 (p2 + 1))::tp 1 (.loc 2 0::tp 93 []))), [(.box [(.y 0), (.s ([] : List UInt8)), (.i 0), (.i 0), (.i 0), (.i 0), (.i 0), (.s ([] : List UInt8)), (.d .nil)]), (.box [(.y x17_0), (.s r38_2.2), (.i 0), (.i 0), (.i 0), (.i 0), (.i 0), (.s ([] : List UInt8)), (.d .nil)]), (.box [(.s r38_2.1.Text), (.i r38_2.1.At), (.i r38_2.1.E)])], 0⟩ <| Sq <| Adr <| Wz (.agg [(.y x17_0), (.s r38_2.2), (.i 0), (.i 0), (.i 0), (.i 0), (.i 0), (.s ([] : List UInt8)), (.d .nil)]) (Old rfl) <| Wm (.i (W6 (p2 + 1))) rfl <| Wz (.loc 2 1) (Ofa rfl) <| Wz (.i r38_2.1.At) (Old rfl) ?_
      refine Wz (.i (W6 ((W6 (p2 + 1)) + r38_2.1.At))) (Obn rfl (fun _ => hb_add (k := .i64))) <| Wy (.tup []) [(0, (.box [(.y x17_0), (.s r38_2.2), (.i 0), (.i 0), (.i 0), (.i 0), (.i 0), (.s ([] : List UInt8)), (.d .nil)]))] (Ost rfl) <| Wm (.i (W6 ((W6 (p2 + 1)) + r38_2.1.At))) rfl <| Wm (.i 0) rfl <| Wdr <| Tn <| Aob 0 8 98 4 ⟨tp 6 (.loc 0 0::.i (W6 ((W6 (p2 + 1)) + r38_2.1.At))::.i 0::.loc 1 0::.i (W6 (p2 + 1))::tp 1 (.loc 2 0::tp 40 (.agg [(.y x17_0), (.s r38_2.2), (.i 0), (.i 0), (.i 0), (.i 0), (.i 0), (.s ([] : List UInt8)), (.d .nil)]::.i (W6 (p2 + 1))::.loc 2 1::.i r38_2.1.At::.i (W6 ((W6 (p2 + 1)) + r38_2.1.At))::tp 48 []))), [(.box [(.y x17_0), (.s r38_2.2), (.i 0), (.i 0), (.i 0), (.i 0), (.i 0), (.s ([] : List UInt8)), (.own 3)]), (.box [(.y x17_0), (.s r38_2.2), (.i 0), (.i 0), (.i 0), (.i 0), (.i 0), (.s ([] : List UInt8)), (.d .nil)]), (.box [(.s r38_2.1.Text), (.i r38_2.1.At), (.i r38_2.1.E)]), (Ar 98 4 enc_GValue ([] : List GValue))], 0⟩ <| Rt <| Tr ?_
      obtain rfl := Option.some.inj hm
      exact ret_i [3]
   ·
    replace hm := cF hc32_12 hm
    refine AiF hc32_12 <| Sk <| Tk 3651 3 ⟨.l enc_GType p0::.s p1::tp 4 (.loc 0 0::tp 2 (.loc 1 0::.i (W6 (p2 + 1))::.i 0::tp 94 [])), [(.box [(.y 0), (.s ([] : List UInt8)), (.i 0), (.i 0), (.i 0), (.i 0), (.i 0), (.s ([] : List UInt8)), (.d .nil)]), (.box [(.y x17_0), (.s ([] : List UInt8)), (.i 0), (.i 0), (.i 0), (.i 0), (.i 0), (.s ([] : List UInt8)), (.d .nil)])], 0⟩ <| Sq <| Sx <| Wz (.loc 1 0) (Ofa rfl) <| Wz (.y x17_0) (Old rfl) <| Wz (.b (decide (((x17_0.toNat : Nat) : Int) = 3))) (Ob2 (.int .u8 ((x17_0.toNat : Nat) : Int)) (.int .u8 3) rfl (fun _ => hb_eql)) <| Nk 1152921504606850627 3 ⟨.l enc_GType p0::.s p1::tp 4 (.loc 0 0::tp 2 (.loc 1 0::.i (W6 (p2 + 1))::.i 0::tp 48 (.b (decide (((x17_0.toNat : Nat) : Int) = 3))::tp 45 []))), [(.box [(.y 0), (.s ([] : List UInt8)), (.i 0), (.i 0), (.i 0), (.i 0), (.i 0), (.s ([] : List UInt8)), (.d .nil)]), (.box [(.y x17_0), (.s ([] : List UInt8)), (.i 0), (.i 0), (.i 0), (.i 0), (.i 0), (.s ([] : List UInt8)), (.d .nil)])], 0⟩ ?_
    rcases tf_ (decide (((x17_0.toNat : Nat) : Int) = 3)) with hc60_15 | hc60_15
    ·
     replace hm := cT hc60_15 hm
     refine AiT hc60_15 <| Sx <| Wm (.l enc_GType p0) rfl <| Wm (.s p1) rfl <| Wm (.i (W6 (p2 + 1))) rfl ?_
     obtain ⟨r65_4, hr65_4, hm⟩ := bnd hm
     refine Wy (.tup [(.agg [(.i r65_4.1.Time), (.i r65_4.1.Source), (.i r65_4.1.Seq), (.s r65_4.1.Type_), (.own 2)]), (.i r65_4.2.1), (.i r65_4.2.2)]) [(2, (Ar 98 4 enc_GValue r65_4.1.Vals))] (Ocf [] [2] [] 0 (ok_r07_Take p0 p1 (W6 (p2 + 1)) r65_4 hr65_4) (fun a w => Tryd.call72 a w) rfl trivial) <| Wm (.tup [(.agg [(.i r65_4.1.Time), (.i r65_4.1.Source), (.i r65_4.1.Seq), (.s r65_4.1.Type_), (.own 2)]), (.i r65_4.2.1), (.i r65_4.2.2)]) rfl <| Wz (.agg [(.i r65_4.1.Time), (.i r65_4.1.Source), (.i r65_4.1.Seq), (.s r65_4.1.Type_), (.own 2)]) (Oex rfl) <| Wz (.i r65_4.2.1) (Oex rfl) <| Wz (.i r65_4.2.2) (Oex rfl) <| Wz (.loc 1 4) (Ofa rfl) <| Wy (.tup []) [(1, (.box [(.y x17_0), (.s ([] : List UInt8)), (.i 0), (.i 0), (.i r65_4.1.Time), (.i r65_4.1.Source), (.i r65_4.1.Seq), (.s r65_4.1.Type_), (.own 2)]))] (Ost rfl) <| Wm (.i r65_4.2.1) rfl <| Wm (.i r65_4.2.2) rfl <| Nk 3648 7 ⟨tp 6 (.loc 0 0::tp 2 (.loc 1 0::.i r65_4.2.1::.i r65_4.2.2::tp 94 [])), [(.box [(.y 0), (.s ([] : List UInt8)), (.i 0), (.i 0), (.i 0), (.i 0), (.i 0), (.s ([] : List UInt8)), (.d .nil)]), (.box [(.y x17_0), (.s ([] : List UInt8)), (.i 0), (.i 0), (.i r65_4.1.Time), (.i r65_4.1.Source), (.i r65_4.1.Seq), (.s r65_4.1.Type_), (.own 2)]), (Ar 98 4 enc_GValue r65_4.1.Vals)], 0⟩ <| Sx <| Wz (.agg [(.y x17_0), (.s ([] : List UInt8)), (.i 0), (.i 0), (.i r65_4.1.Time), (.i r65_4.1.Source), (.i r65_4.1.Seq), (.s r65_4.1.Type_), (.own 2)]) (Old rfl) <| Wm (.i r65_4.2.1) rfl <| Wm (.i r65_4.2.2) rfl ?_
     refine Wy (.tup []) [(0, (.box [(.y x17_0), (.s ([] : List UInt8)), (.i 0), (.i 0), (.i r65_4.1.Time), (.i r65_4.1.Source), (.i r65_4.1.Seq), (.s r65_4.1.Type_), (.own 2)]))] (Ost rfl) <| Wm (.i r65_4.2.1) rfl <| Wm (.i r65_4.2.2) rfl <| Nn <| Rt <| Tr ?_
     obtain rfl := Option.some.inj hm
     exact ret_i [2]
    ·
     replace hm := cF hc60_15 hm
     refine AiF hc60_15 <| Sk <| Tk 3650 3 ⟨tp 1 (.s p1::tp 4 (.loc 0 0::tp 2 (.loc 1 0::.i (W6 (p2 + 1))::.i 0::tp 94 []))), [(.box [(.y 0), (.s ([] : List UInt8)), (.i 0), (.i 0), (.i 0), (.i 0), (.i 0), (.s ([] : List UInt8)), (.d .nil)]), (.box [(.y x17_0), (.s ([] : List UInt8)), (.i 0), (.i 0), (.i 0), (.i 0), (.i 0), (.s ([] : List UInt8)), (.d .nil)])], 0⟩ <| Sx <| Wm (.u 0) rfl <| Nk 3650 3 ⟨tp 1 (.s p1::tp 4 (.loc 0 0::tp 2 (.loc 1 0::.i (W6 (p2 + 1))::.i 0::tp 94 []))), [(.box [(.y 0), (.s ([] : List UInt8)), (.i 0), (.i 0), (.i 0), (.i 0), (.i 0), (.s ([] : List UInt8)), (.d .nil)]), (.box [(.y x17_0), (.s ([] : List UInt8)), (.i 0), (.i 0), (.i 0), (.i 0), (.i 0), (.s ([] : List UInt8)), (.d .nil)])], 0⟩ ?_
     refine AWP.cutJ (α := GCommand × Int × Int) (fun (y9_d_7, y10_7, y11_7) => (⟨tp 1 (.s p1::tp 4 (.loc 0 0::tp 2 (.loc 1 0::.i y10_7::.i y11_7::tp 94 []))), [(.box [(.y 0), (.s ([] : List UInt8)), (.i 0), (.i 0), (.i 0), (.i 0), (.i 0), (.s ([] : List UInt8)), (.d .nil)]), (.box [(.y y9_d_7.Kind), (.s y9_d_7.Text), (.i y9_d_7.A), (.i y9_d_7.B), (.i y9_d_7.E.Time), (.i y9_d_7.E.Source), (.i y9_d_7.E.Seq), (.s y9_d_7.E.Type_), (.d .nil)])], 0⟩ : St)) (fun (y9_d_7, y10_7, y11_7) => m_r37_one_j7 p1 y9_d_7 y10_7 y11_7 = some r) ?_ (fun J7 => ?_)
     ·
      rintro ⟨y9_d_7, y10_7, y11_7⟩ hm
      try dsimp only at hm ⊢
      unfold m_r37_one_j7 at hm
      refine Sq <| Sx <| Wm (.i y11_7) rfl <| Wz (.b (decide (y11_7 = 0))) (Obn rfl (fun _ => hb_eql (k := .i64))) ?_
      rcases tf_ (decide (y11_7 = 0)) with hq88_8 | hq88_8
      ·
       replace hm := cT hq88_8 hm
       refine Wz (.b true) (Oq hq88_8 rfl) <| Wz (.loc 1 0) (Ofa rfl) <| Wz (.y y9_d_7.Kind) (Old rfl) <| Wz (.b (decide (((y9_d_7.Kind.toNat : Nat) : Int) = 4))) (Ob2 (.int .u8 ((y9_d_7.Kind.toNat : Nat) : Int)) (.int .u8 4) rfl (fun _ => hb_eql)) <| Wz (.b (decide (((y9_d_7.Kind.toNat : Nat) : Int) = 4))) (OpT rfl) <| Nk 4951760157141521099596500546 3 ⟨tp 1 (.s p1::tp 4 (.loc 0 0::tp 2 (.loc 1 0::.i y10_7::.i y11_7::tp 80 (.b (decide (((y9_d_7.Kind.toNat : Nat) : Int) = 4))::tp 13 [])))), [(.box [(.y 0), (.s ([] : List UInt8)), (.i 0), (.i 0), (.i 0), (.i 0), (.i 0), (.s ([] : List UInt8)), (.d .nil)]), (.box [(.y y9_d_7.Kind), (.s y9_d_7.Text), (.i y9_d_7.A), (.i y9_d_7.B), (.i y9_d_7.E.Time), (.i y9_d_7.E.Source), (.i y9_d_7.E.Seq), (.s y9_d_7.E.Type_), (.d .nil)])], 0⟩ ?_
       rcases tf_ (decide (((y9_d_7.Kind.toNat : Nat) : Int) = 4)) with hc92_16 | hc92_16
       ·
        replace hm := cT hc92_16 hm
        refine AiT hc92_16 <| Sx <| Wm (.s p1) rfl <| Wm (.i y10_7) rfl ?_
        obtain ⟨r96_9, hr96_9, hm⟩ := bnd hm
        refine Wz (.tup [(.u r96_9.1), (.i r96_9.2.1), (.i r96_9.2.2)]) (Ocf [] [] [] 0 (ok_r02_Take p1 y10_7 r96_9 hr96_9) (fun a w => Tryd.call73 a w) rfl trivial) <| Wm (.tup [(.u r96_9.1), (.i r96_9.2.1), (.i r96_9.2.2)]) rfl <| Wz (.u r96_9.1) (Oex rfl) <| Wz (.i r96_9.2.1) (Oex rfl) <| Wz (.i r96_9.2.2) (Oex rfl) <| Wm (.u r96_9.1) rfl <| Wm (.i r96_9.2.1) rfl <| Wm (.i r96_9.2.2) rfl <| Nk 20032 3 ⟨tp 6 (.loc 0 0::tp 2 (.loc 1 0::.i r96_9.2.1::.i r96_9.2.2::tp 2 (.u r96_9.1::tp 91 []))), [(.box [(.y 0), (.s ([] : List UInt8)), (.i 0), (.i 0), (.i 0), (.i 0), (.i 0), (.s ([] : List UInt8)), (.d .nil)]), (.box [(.y y9_d_7.Kind), (.s y9_d_7.Text), (.i y9_d_7.A), (.i y9_d_7.B), (.i y9_d_7.E.Time), (.i y9_d_7.E.Source), (.i y9_d_7.E.Seq), (.s y9_d_7.E.Type_), (.d .nil)])], 0⟩ <| Tx <| Wm (.u r96_9.1) rfl ?_
        obtain ⟨r101_10, hr101_10, hm⟩ := bnd hm
        refine Wz (.i r101_10) (Ocf [] [] [] 0 (ok_r02_Back r96_9.1 r101_10 hr101_10) (fun a w => Tryd.call74 a w) rfl trivial) <| Wz (.loc 1 3) (Ofa rfl) <| Wy (.tup []) [(1, (.box [(.y y9_d_7.Kind), (.s y9_d_7.Text), (.i y9_d_7.A), (.i r101_10), (.i y9_d_7.E.Time), (.i y9_d_7.E.Source), (.i y9_d_7.E.Seq), (.s y9_d_7.E.Type_), (.d .nil)]))] (Ost rfl) <| Nk 3648 3 ⟨tp 6 (.loc 0 0::tp 2 (.loc 1 0::.i r96_9.2.1::.i r96_9.2.2::tp 94 [])), [(.box [(.y 0), (.s ([] : List UInt8)), (.i 0), (.i 0), (.i 0), (.i 0), (.i 0), (.s ([] : List UInt8)), (.d .nil)]), (.box [(.y y9_d_7.Kind), (.s y9_d_7.Text), (.i y9_d_7.A), (.i r101_10), (.i y9_d_7.E.Time), (.i y9_d_7.E.Source), (.i y9_d_7.E.Seq), (.s y9_d_7.E.Type_), (.d .nil)])], 0⟩ <| Sx <| Wz (.agg [(.y y9_d_7.Kind), (.s y9_d_7.Text), (.i y9_d_7.A), (.i r101_10), (.i y9_d_7.E.Time), (.i y9_d_7.E.Source), (.i y9_d_7.E.Seq), (.s y9_d_7.E.Type_), (.d .nil)]) (Old rfl) <| Wm (.i r96_9.2.1) rfl <| Wm (.i r96_9.2.2) rfl <| Wy (.tup []) [(0, (.box [(.y y9_d_7.Kind), (.s y9_d_7.Text), (.i y9_d_7.A), (.i r101_10), (.i y9_d_7.E.Time), (.i y9_d_7.E.Source), (.i y9_d_7.E.Seq), (.s y9_d_7.E.Type_), (.d .nil)]))] (Ost rfl) <| Wm (.i r96_9.2.1) rfl <| Wm (.i r96_9.2.2) rfl <| Nn <| Aob 0 8 98 4 ⟨tp 6 (.loc 0 0::.i r96_9.2.1::.i r96_9.2.2::.loc 1 0::.i r96_9.2.1::.i r96_9.2.2::tp 91 (.agg [(.y y9_d_7.Kind), (.s y9_d_7.Text), (.i y9_d_7.A), (.i r101_10), (.i y9_d_7.E.Time), (.i y9_d_7.E.Source), (.i y9_d_7.E.Seq), (.s y9_d_7.E.Type_), (.d .nil)]::.i r96_9.2.1::.i r96_9.2.2::[])), [(.box [(.y y9_d_7.Kind), (.s y9_d_7.Text), (.i y9_d_7.A), (.i r101_10), (.i y9_d_7.E.Time), (.i y9_d_7.E.Source), (.i y9_d_7.E.Seq), (.s y9_d_7.E.Type_), (.own 2)]), (.box [(.y y9_d_7.Kind), (.s y9_d_7.Text), (.i y9_d_7.A), (.i r101_10), (.i y9_d_7.E.Time), (.i y9_d_7.E.Source), (.i y9_d_7.E.Seq), (.s y9_d_7.E.Type_), (.d .nil)]), (Ar 98 4 enc_GValue ([] : List GValue))], 0⟩ <| Rt ?_
        obtain rfl := Option.some.inj hm
        exact ret_i [2]
       ·
        replace hm := cF hc92_16 hm
        refine AiF hc92_16 <| Sk <| Tk 3648 3 ⟨tp 6 (.loc 0 0::tp 2 (.loc 1 0::.i y10_7::.i y11_7::tp 94 [])), [(.box [(.y 0), (.s ([] : List UInt8)), (.i 0), (.i 0), (.i 0), (.i 0), (.i 0), (.s ([] : List UInt8)), (.d .nil)]), (.box [(.y y9_d_7.Kind), (.s y9_d_7.Text), (.i y9_d_7.A), (.i y9_d_7.B), (.i y9_d_7.E.Time), (.i y9_d_7.E.Source), (.i y9_d_7.E.Seq), (.s y9_d_7.E.Type_), (.d .nil)])], 0⟩ <| Sx <| Wz (.agg [(.y y9_d_7.Kind), (.s y9_d_7.Text), (.i y9_d_7.A), (.i y9_d_7.B), (.i y9_d_7.E.Time), (.i y9_d_7.E.Source), (.i y9_d_7.E.Seq), (.s y9_d_7.E.Type_), (.d .nil)]) (Old rfl) <| Wm (.i y10_7) rfl <| Wm (.i y11_7) rfl <| Wy (.tup []) [(0, (.box [(.y y9_d_7.Kind), (.s y9_d_7.Text), (.i y9_d_7.A), (.i y9_d_7.B), (.i y9_d_7.E.Time), (.i y9_d_7.E.Source), (.i y9_d_7.E.Seq), (.s y9_d_7.E.Type_), (.d .nil)]))] (Ost rfl) <| Wm (.i y10_7) rfl <| Wm (.i y11_7) rfl <| Nn <| Aob 0 8 98 4 ⟨tp 6 (.loc 0 0::.i y10_7::.i y11_7::.loc 1 0::.i y10_7::.i y11_7::tp 91 (.agg [(.y y9_d_7.Kind), (.s y9_d_7.Text), (.i y9_d_7.A), (.i y9_d_7.B), (.i y9_d_7.E.Time), (.i y9_d_7.E.Source), (.i y9_d_7.E.Seq), (.s y9_d_7.E.Type_), (.d .nil)]::.i y10_7::.i y11_7::[])), [(.box [(.y y9_d_7.Kind), (.s y9_d_7.Text), (.i y9_d_7.A), (.i y9_d_7.B), (.i y9_d_7.E.Time), (.i y9_d_7.E.Source), (.i y9_d_7.E.Seq), (.s y9_d_7.E.Type_), (.own 2)]), (.box [(.y y9_d_7.Kind), (.s y9_d_7.Text), (.i y9_d_7.A), (.i y9_d_7.B), (.i y9_d_7.E.Time), (.i y9_d_7.E.Source), (.i y9_d_7.E.Seq), (.s y9_d_7.E.Type_), (.d .nil)]), (Ar 98 4 enc_GValue ([] : List GValue))], 0⟩ <| Rt ?_
        obtain rfl := Option.some.inj hm
        exact ret_i [2]
      ·
       replace hm := cF hq88_8 hm
       refine Wz (.b false) (Oq hq88_8 rfl) <| Wn <| Wn <| Wn <| Wz (.b false) (OpF rfl) <| Nk 4951760157141521099596500546 3 ⟨tp 1 (.s p1::tp 4 (.loc 0 0::tp 2 (.loc 1 0::.i y10_7::.i y11_7::tp 80 (.b false::tp 13 [])))), [(.box [(.y 0), (.s ([] : List UInt8)), (.i 0), (.i 0), (.i 0), (.i 0), (.i 0), (.s ([] : List UInt8)), (.d .nil)]), (.box [(.y y9_d_7.Kind), (.s y9_d_7.Text), (.i y9_d_7.A), (.i y9_d_7.B), (.i y9_d_7.E.Time), (.i y9_d_7.E.Source), (.i y9_d_7.E.Seq), (.s y9_d_7.E.Type_), (.d .nil)])], 0⟩ <| AWP.if_ false (by kernel_rfl) <| Sk <| Tk 3648 3 ⟨tp 6 (.loc 0 0::tp 2 (.loc 1 0::.i y10_7::.i y11_7::tp 94 [])), [(.box [(.y 0), (.s ([] : List UInt8)), (.i 0), (.i 0), (.i 0), (.i 0), (.i 0), (.s ([] : List UInt8)), (.d .nil)]), (.box [(.y y9_d_7.Kind), (.s y9_d_7.Text), (.i y9_d_7.A), (.i y9_d_7.B), (.i y9_d_7.E.Time), (.i y9_d_7.E.Source), (.i y9_d_7.E.Seq), (.s y9_d_7.E.Type_), (.d .nil)])], 0⟩ <| Sx <| Wz (.agg [(.y y9_d_7.Kind), (.s y9_d_7.Text), (.i y9_d_7.A), (.i y9_d_7.B), (.i y9_d_7.E.Time), (.i y9_d_7.E.Source), (.i y9_d_7.E.Seq), (.s y9_d_7.E.Type_), (.d .nil)]) (Old rfl) <| Wm (.i y10_7) rfl <| Wm (.i y11_7) rfl <| Wy (.tup []) [(0, (.box [(.y y9_d_7.Kind), (.s y9_d_7.Text), (.i y9_d_7.A), (.i y9_d_7.B), (.i y9_d_7.E.Time), (.i y9_d_7.E.Source), (.i y9_d_7.E.Seq), (.s y9_d_7.E.Type_), (.d .nil)]))] (Ost rfl) ?_
       refine Wm (.i y10_7) rfl <| Wm (.i y11_7) rfl <| Nn <| Aob 0 8 98 4 ⟨tp 6 (.loc 0 0::.i y10_7::.i y11_7::.loc 1 0::.i y10_7::.i y11_7::tp 91 (.agg [(.y y9_d_7.Kind), (.s y9_d_7.Text), (.i y9_d_7.A), (.i y9_d_7.B), (.i y9_d_7.E.Time), (.i y9_d_7.E.Source), (.i y9_d_7.E.Seq), (.s y9_d_7.E.Type_), (.d .nil)]::.i y10_7::.i y11_7::[])), [(.box [(.y y9_d_7.Kind), (.s y9_d_7.Text), (.i y9_d_7.A), (.i y9_d_7.B), (.i y9_d_7.E.Time), (.i y9_d_7.E.Source), (.i y9_d_7.E.Seq), (.s y9_d_7.E.Type_), (.own 2)]), (.box [(.y y9_d_7.Kind), (.s y9_d_7.Text), (.i y9_d_7.A), (.i y9_d_7.B), (.i y9_d_7.E.Time), (.i y9_d_7.E.Source), (.i y9_d_7.E.Seq), (.s y9_d_7.E.Type_), (.d .nil)]), (Ar 98 4 enc_GValue ([] : List GValue))], 0⟩ <| Rt ?_
       obtain rfl := Option.some.inj hm
       exact ret_i [2]
     refine Sq <| Sx <| Wz (.loc 1 0) (Ofa rfl) <| Wz (.y x17_0) (Old rfl) <| Wz (.b (decide ((4 : Int) ≤ ((x17_0.toNat : Nat) : Int)))) (Ob2 (.int .u8 ((x17_0.toNat : Nat) : Int)) (.int .u8 4) rfl (fun _ => hb_geq)) <| Nk 37778931862957161713218 3 ⟨tp 1 (.s p1::tp 4 (.loc 0 0::tp 2 (.loc 1 0::.i (W6 (p2 + 1))::.i 0::tp 63 (.b (decide ((4 : Int) ≤ ((x17_0.toNat : Nat) : Int)))::tp 30 [])))), [(.box [(.y 0), (.s ([] : List UInt8)), (.i 0), (.i 0), (.i 0), (.i 0), (.i 0), (.s ([] : List UInt8)), (.d .nil)]), (.box [(.y x17_0), (.s ([] : List UInt8)), (.i 0), (.i 0), (.i 0), (.i 0), (.i 0), (.s ([] : List UInt8)), (.d .nil)])], 0⟩ ?_
     rcases tf_ (decide ((4 : Int) ≤ ((x17_0.toNat : Nat) : Int))) with hc75_17 | hc75_17
     ·
      replace hm := cT hc75_17 hm
      refine AiT hc75_17 <| Sx <| Wm (.s p1) rfl <| Wm (.i (W6 (p2 + 1))) rfl ?_
      obtain ⟨r79_5, hr79_5, hm⟩ := bnd hm
      refine Wz (.tup [(.u r79_5.1), (.i r79_5.2.1), (.i r79_5.2.2)]) (Ocf [] [] [] 0 (ok_r02_Take p1 (W6 (p2 + 1)) r79_5 hr79_5) (fun a w => Tryd.call73 a w) rfl trivial) <| Wm (.tup [(.u r79_5.1), (.i r79_5.2.1), (.i r79_5.2.2)]) rfl <| Wz (.u r79_5.1) (Oex rfl) <| Wz (.i r79_5.2.1) (Oex rfl) <| Wz (.i r79_5.2.2) (Oex rfl) <| Wm (.u r79_5.1) rfl <| Wm (.i r79_5.2.1) rfl <| Wm (.i r79_5.2.2) rfl <| Nk 20034 3 ⟨tp 1 (.s p1::tp 4 (.loc 0 0::tp 2 (.loc 1 0::.i r79_5.2.1::.i r79_5.2.2::tp 2 (.u r79_5.1::tp 91 [])))), [(.box [(.y 0), (.s ([] : List UInt8)), (.i 0), (.i 0), (.i 0), (.i 0), (.i 0), (.s ([] : List UInt8)), (.d .nil)]), (.box [(.y x17_0), (.s ([] : List UInt8)), (.i 0), (.i 0), (.i 0), (.i 0), (.i 0), (.s ([] : List UInt8)), (.d .nil)])], 0⟩ <| Tx <| Wm (.u r79_5.1) rfl ?_
      obtain ⟨r84_6, hr84_6, hm⟩ := bnd hm
      refine Wz (.i r84_6) (Ocf [] [] [] 0 (ok_r02_Back r79_5.1 r84_6 hr84_6) (fun a w => Tryd.call74 a w) rfl trivial) <| Wz (.loc 1 2) (Ofa rfl) <| Wy (.tup []) [(1, (.box [(.y x17_0), (.s ([] : List UInt8)), (.i r84_6), (.i 0), (.i 0), (.i 0), (.i 0), (.s ([] : List UInt8)), (.d .nil)]))] (Ost rfl) <| Nn ?_
      exact AWP.weak (Weak.toK 3650 0 0 [0, 1]) (J7 ((GCommand.mk x17_0 ([] : List UInt8) r84_6 0 (GEvent.mk 0 0 0 ([] : List UInt8) ([] : List GValue))), r79_5.2.1, r79_5.2.2) hm)
     ·
      replace hm := cF hc75_17 hm
      refine AiF hc75_17 <| Sk <| Tn ?_
      exact AWP.weak (Weak.toK 3650 0 0 [0, 1]) (J7 ((GCommand.mk x17_0 ([] : List UInt8) 0 0 (GEvent.mk 0 0 0 ([] : List UInt8) ([] : List GValue))), (W6 (p2 + 1)), 0) hm)

theorem ok_r37_Read (p0 : (List GType)) (p1 : (List UInt8)) (r : ((List GCommand) × Int × Int)) (h : m_r37_Read p0 p1 = some r) : GCall Tryd.prog 21 [(.l enc_GType p0), (.s p1)] [] (.tup [(.own 0), (.i r.2.1), (.i r.2.2)]) [(Ar 46 9 enc_GCommand r.1)] := by
 refine GCall.of_body (n := 44) (rs := [(.tmp 4), (.tmp 5), (.tmp 6)]) Tryd.func21 rfl rfl rfl <| Ato ⟨.l enc_GType p0::.s p1::tu 42 [], [], 0⟩ ?_
 have hm := h
 unfold m_r37_Read at hm
 refine Sx <| Wm (.d .nil) rfl <| Wm (.i 0) rfl <| Wm (.i 0) rfl <| Nk 3 0 ⟨.l enc_GType p0::.s p1::tp 42 [], [], 0⟩ <| Sq <| Sx <| Wm (.l enc_GType p0) rfl ?_
 obtain ⟨r13_0, hr13_0, hm⟩ := bnd hm
 refine Wz (.i r13_0) (Ocf [] [] [] 0 (ok_r06_Check p0 r13_0 hr13_0) (fun a w => Tryd.call38 a w) rfl trivial) <| Wz (.b (decide (r13_0 ≠ 0))) (Obn rfl (fun _ => hb_neq (k := .i64))) <| Nk 16387 0 ⟨.l enc_GType p0::.s p1::tp 12 (.b (decide (r13_0 ≠ 0))::tp 29 []), [], 0⟩ ?_
 rcases tf_ (decide (r13_0 ≠ 0)) with hc14_6 | hc14_6
 ·
  replace hm := cT hc14_6 hm
  refine AiT hc14_6 <| Sx <| Wm (.d .nil) rfl <| Wm (.i 0) rfl <| Wm (.i 2) rfl <| Nn <| Aow 4 46 9 ⟨.l enc_GType p0::.s p1::tp 2 (.own 0::.i 0::.i 2::tp 7 (.b (decide (r13_0 ≠ 0))::tp 29 [])), [(Ar 46 9 enc_GCommand ([] : List GCommand))], 0⟩ <| Rt <| Tr ?_
  obtain rfl := Option.some.inj hm
  exact ret_i [0]
 ·
  replace hm := cF hc14_6 hm
  refine AiF hc14_6 <| Sk <| Tk 3 0 ⟨.l enc_GType p0::.s p1::tp 42 [], [], 0⟩ <| Sx <| Wm (.d .nil) rfl <| Nk 131 0 ⟨.l enc_GType p0::.s p1::tp 5 (.d .nil::tp 36 []), [], 0⟩ <| Sx <| Wm (.i 0) rfl <| Nk 387 0 ⟨.l enc_GType p0::.s p1::tp 5 (.d .nil::.i 0::tp 35 []), [], 0⟩ <| Sq <| Bk <| Aow 7 46 9 ⟨.l enc_GType p0::.s p1::tp 5 (.own 0::.i 0::tp 35 []), [(Ar 46 9 enc_GCommand ([] : List GCommand))], 0⟩ ?_
  refine AWP.loopI (α := Nat × (List GCommand) × Int)
    (fun (fu_1, y7_1, y8_1) => (⟨.l enc_GType p0::.s p1::tp 5 (.own 0::.i y8_1::tp 35 []), [(Ar 46 9 enc_GCommand y7_1)], 0⟩ : St))
    (fun (fu_1, y7_1, y8_1) => m_r37_Read_l1 p0 p1 fu_1 y7_1 y8_1 = some r)
    (fun (fu_1, y7_1, y8_1) => fu_1) (1152921504606846976, ([] : List GCommand), 0)
    (Weak.toK 387 0 0 [0]) hm ?_
  rintro ⟨fu_1, y7_1, y8_1⟩ n_1 hm ih_1
  try dsimp only at hm ih_1 ⊢
  cases fu_1 with
  | zero => exact absurd hm (by unfold m_r37_Read_l1; simp)
  | succ fu_1 =>
   unfold m_r37_Read_l1 at hm
   refine Sq <| Sx <| Wm (.i y8_1) rfl <| Wm (.s p1) rfl <| Wz (.i ((List.length p1 : Nat) : Int)) (Oln rfl) <| Wz (.b (decide (y8_1 < ((List.length p1 : Nat) : Int)))) (Obn rfl (fun _ => hb_lss (k := .i64))) <| Nk 262531 1 ⟨.l enc_GType p0::.s p1::tp 5 (.own 0::.i y8_1::tp 9 (.b (decide (y8_1 < ((List.length p1 : Nat) : Int)))::tp 25 [])), [(Ar 46 9 enc_GCommand y7_1)], 0⟩ ?_
   rcases tf_ (decide (y8_1 < ((List.length p1 : Nat) : Int))) with hc18_7 | hc18_7
   ·
    replace hm := cT hc18_7 hm
    refine AiT hc18_7 <| Sk <| Tk 387 1 ⟨.l enc_GType p0::.s p1::tp 5 (.own 0::.i y8_1::tp 35 []), [(Ar 46 9 enc_GCommand y7_1)], 0⟩ <| Bk <| Sq <| Sx <| Wm (.own 0) rfl <| Wz (.i ((List.length y7_1 : Nat) : Int)) (Oln rfl) <| Wz (.b (decide (((List.length y7_1 : Nat) : Int) = 400))) (Obn rfl (fun _ => hb_eql (k := .i64))) <| Nk 2097539 1 ⟨.l enc_GType p0::.s p1::tp 5 (.own 0::.i y8_1::tp 12 (.b (decide (((List.length y7_1 : Nat) : Int) = 400))::tp 22 [])), [(Ar 46 9 enc_GCommand y7_1)], 0⟩ ?_
    rcases tf_ (decide (((List.length y7_1 : Nat) : Int) = 400)) with hc21_8 | hc21_8
    ·
     replace hm := cT hc21_8 hm
     refine AiT hc21_8 <| Sx <| Wm (.own 0) rfl <| Wm (.i y8_1) rfl <| Wm (.own 0) rfl <| Wm (.i y8_1) rfl <| Wm (.i 5) rfl <| Nn <| Rt <| Tr <| Ir <| RoundK.ret <| Ir <| Tr ?_
     obtain rfl := Option.some.inj hm
     exact ret_i [0]
    ·
     replace hm := cF hc21_8 hm
     refine AiF hc21_8 <| Sk <| Tk 387 1 ⟨.l enc_GType p0::.s p1::tp 5 (.own 0::.i y8_1::tp 35 []), [(Ar 46 9 enc_GCommand y7_1)], 0⟩ <| Sx <| Wm (.l enc_GType p0) rfl <| Wm (.s p1) rfl <| Wm (.i y8_1) rfl ?_
     obtain ⟨r28_4, hr28_4, hm⟩ := bnd hm
     refine Wy (.tup [(.agg [(.y r28_4.1.Kind), (.s r28_4.1.Text), (.i r28_4.1.A), (.i r28_4.1.B), (.i r28_4.1.E.Time), (.i r28_4.1.E.Source), (.i r28_4.1.E.Seq), (.s r28_4.1.E.Type_), (.own 1)]), (.i r28_4.2.1), (.i r28_4.2.2)]) [(1, (Ar 98 4 enc_GValue r28_4.1.E.Vals))] (Ocf [] [1] [] 0 (ok_r37_one p0 p1 y8_1 r28_4 hr28_4) (fun a w => Tryd.call43 a w) rfl trivial) <| Wm (.tup [(.agg [(.y r28_4.1.Kind), (.s r28_4.1.Text), (.i r28_4.1.A), (.i r28_4.1.B), (.i r28_4.1.E.Time), (.i r28_4.1.E.Source), (.i r28_4.1.E.Seq), (.s r28_4.1.E.Type_), (.own 1)]), (.i r28_4.2.1), (.i r28_4.2.2)]) rfl <| Wz (.agg [(.y r28_4.1.Kind), (.s r28_4.1.Text), (.i r28_4.1.A), (.i r28_4.1.B), (.i r28_4.1.E.Time), (.i r28_4.1.E.Source), (.i r28_4.1.E.Seq), (.s r28_4.1.E.Type_), (.own 1)]) (Oex rfl) <| Wz (.i r28_4.2.1) (Oex rfl) <| Wz (.i r28_4.2.2) (Oex rfl) <| Wy (.loc 2 0) [(2, (.box [(.y 0), (.s ([] : List UInt8)), (.i 0), (.i 0), (.i 0), (.i 0), (.i 0), (.s ([] : List UInt8)), (.d .nil)]))] (Oal rfl) <| Wy (.tup []) [(2, (.box [(.y r28_4.1.Kind), (.s r28_4.1.Text), (.i r28_4.1.A), (.i r28_4.1.B), (.i r28_4.1.E.Time), (.i r28_4.1.E.Source), (.i r28_4.1.E.Seq), (.s r28_4.1.E.Type_), (.own 1)]))] (Ost rfl) <| Wm (.i r28_4.2.1) rfl <| Wm (.i r28_4.2.2) rfl <| Nk 3971 7 ⟨.l enc_GType p0::.s p1::tp 5 (.own 0::.i y8_1::.loc 2 0::.i r28_4.2.1::.i r28_4.2.2::tp 32 []), [(Ar 46 9 enc_GCommand y7_1), (Ar 98 4 enc_GValue r28_4.1.E.Vals), (.box [(.y r28_4.1.Kind), (.s r28_4.1.Text), (.i r28_4.1.A), (.i r28_4.1.B), (.i r28_4.1.E.Time), (.i r28_4.1.E.Source), (.i r28_4.1.E.Seq), (.s r28_4.1.E.Type_), (.own 1)])], 0⟩ <| Sq <| Sx <| Wm (.i r28_4.2.2) rfl <| Wz (.b (decide (r28_4.2.2 ≠ 0))) (Obn rfl (fun _ => hb_neq (k := .i64))) ?_
     refine Nk 8589938563 7 ⟨.l enc_GType p0::.s p1::tp 5 (.own 0::.i y8_1::.loc 2 0::.i r28_4.2.1::.i r28_4.2.2::tp 21 (.b (decide (r28_4.2.2 ≠ 0))::tp 10 [])), [(Ar 46 9 enc_GCommand y7_1), (Ar 98 4 enc_GValue r28_4.1.E.Vals), (.box [(.y r28_4.1.Kind), (.s r28_4.1.Text), (.i r28_4.1.A), (.i r28_4.1.B), (.i r28_4.1.E.Time), (.i r28_4.1.E.Source), (.i r28_4.1.E.Seq), (.s r28_4.1.E.Type_), (.own 1)])], 0⟩ ?_
     rcases tf_ (decide (r28_4.2.2 ≠ 0)) with hc33_9 | hc33_9
     ·
      replace hm := cT hc33_9 hm
      refine AiT hc33_9 <| Sx <| Wm (.own 0) rfl <| Wm (.i y8_1) rfl <| Wm (.i r28_4.2.2) rfl <| Wm (.own 0) rfl <| Wm (.i y8_1) rfl <| Wm (.i r28_4.2.2) rfl <| Nn <| Rt <| Tr <| Ir <| RoundK.ret <| Ir ?_
      refine Tr ?_
      obtain rfl := Option.some.inj hm
      exact ret_i [0]
     ·
      replace hm := cF hc33_9 hm
      refine AiF hc33_9 <| Sk <| Tk 1667 7 ⟨.l enc_GType p0::.s p1::tp 5 (.own 0::tp 1 (.loc 2 0::.i r28_4.2.1::tp 33 [])), [(Ar 46 9 enc_GCommand y7_1), (Ar 98 4 enc_GValue r28_4.1.E.Vals), (.box [(.y r28_4.1.Kind), (.s r28_4.1.Text), (.i r28_4.1.A), (.i r28_4.1.B), (.i r28_4.1.E.Time), (.i r28_4.1.E.Source), (.i r28_4.1.E.Seq), (.s r28_4.1.E.Type_), (.own 1)])], 0⟩ <| Sq <| Afz [1] ⟨.l enc_GType p0::.s p1::tp 5 (.own 0::tp 1 (.loc 2 0::.i r28_4.2.1::tp 33 [])), [(Ar 46 9 enc_GCommand y7_1), (.fro 98 4 (List.length r28_4.1.E.Vals) (flatD enc_GValue r28_4.1.E.Vals)), (.box [(.y r28_4.1.Kind), (.s r28_4.1.Text), (.i r28_4.1.A), (.i r28_4.1.B), (.i r28_4.1.E.Time), (.i r28_4.1.E.Source), (.i r28_4.1.E.Seq), (.s r28_4.1.E.Type_), (.l enc_GValue r28_4.1.E.Vals)])], 0⟩ <| Tx <| Wm (.own 0) rfl <| Wz (.agg [(.y r28_4.1.Kind), (.s r28_4.1.Text), (.i r28_4.1.A), (.i r28_4.1.B), (.i r28_4.1.E.Time), (.i r28_4.1.E.Source), (.i r28_4.1.E.Seq), (.s r28_4.1.E.Type_), (.l enc_GValue r28_4.1.E.Vals)]) (Old rfl) <| Wy (.own 3) [(3, (Ar 46 9 enc_GCommand ([r28_4.1] : List GCommand)))] (Obs rfl) ?_
      obtain ⟨a40_5, ha40_5, hm⟩ := bnd hm; obtain ⟨ha40_5e, ha40_5l⟩ := app_some ha40_5
      refine Wy (.own 4) [(0, .gone), (4, (Ar 46 9 enc_GCommand a40_5))] (Oap rfl elemOK_23 enc_GCommand_len ha40_5e ha40_5l) <| Wm (.own 4) rfl <| Nk 1155 16 ⟨.l enc_GType p0::.s p1::tp 5 (.own 4::tp 2 (.i r28_4.2.1::tp 33 [])), [.gone, .gone, .gone, .gone, (Ar 46 9 enc_GCommand a40_5)], 0⟩ <| Tx <| Wm (.i r28_4.2.1) rfl <| Wm (.i r28_4.2.1) rfl <| Wn0 <| Ino <| RoundK.normal ?_
      exact Rounds.weak (Weak.toK 387 0 0 [4]) (ih_1 (fu_1, a40_5, r28_4.2.1) hm (Nat.lt_succ_self _))
   ·
    replace hm := cF hc18_7 hm
    refine AiF hc18_7 <| AWP.exit <| Then.exit <| RoundK.exit <| InBlock.same <| Tk 384 1 ⟨tp 7 (.own 0::.i y8_1::tp 35 []), [(Ar 46 9 enc_GCommand y7_1)], 0⟩ <| Sx <| Wm (.own 0) rfl <| Wm (.i y8_1) rfl <| Wm (.own 0) rfl <| Wm (.i y8_1) rfl <| Wm (.i 0) rfl <| Nn <| Rt ?_
    obtain rfl := Option.some.inj hm
    exact ret_i [0]

theorem ok_w07_Back (p0 : GEvent) (r : GEvent) (h : m_w07_Back p0 = some r) : GCall Tryd.prog 44 [(.agg [(.i p0.Time), (.i p0.Source), (.i p0.Seq), (.s p0.Type_), (.l enc_GValue p0.Vals)])] [] (.agg [(.i r.Time), (.i r.Source), (.i r.Seq), (.s r.Type_), (.own 0)]) [(Ar 98 4 enc_GValue r.Vals)] := by
 refine GCall.of_body (n := 32) (rs := [(.cell 2 44)]) Tryd.func44 rfl rfl rfl <| Ato ⟨.agg [(.i p0.Time), (.i p0.Source), (.i p0.Seq), (.s p0.Type_), (.l enc_GValue p0.Vals)]::tu 31 [], [], 0⟩ ?_
 have hm := h
 unfold m_w07_Back at hm
 refine Sx <| Wy (.loc 0 0) [(0, (.box [(.i p0.Time), (.i p0.Source), (.i p0.Seq), (.s p0.Type_), (.l enc_GValue p0.Vals)]))] (Obx rfl) <| Wy (.loc 1 0) [(1, (.box [(.i 0), (.i 0), (.i 0), (.s ([] : List UInt8)), (.d .nil)]))] (Oal rfl) <| Nk 6 3 ⟨tp 1 (.loc 0 0::.loc 1 0::tp 29 []), [(.box [(.i p0.Time), (.i p0.Source), (.i p0.Seq), (.s p0.Type_), (.l enc_GValue p0.Vals)]), (.box [(.i 0), (.i 0), (.i 0), (.s ([] : List UInt8)), (.d .nil)])], 0⟩ <| Sx <| Wz (.loc 0 0) (Ofa rfl) <| Wz (.i p0.Time) (Old rfl) <| Wz (.loc 0 1) (Ofa rfl) <| Wz (.i p0.Source) (Old rfl) <| Wz (.loc 0 2) (Ofa rfl) <| Wz (.i p0.Seq) (Old rfl) <| Wz (.loc 0 3) (Ofa rfl) <| Wz (.s p0.Type_) (Old rfl) <| Wz (.agg [(.i p0.Time), (.i p0.Source), (.i p0.Seq), (.s p0.Type_), (.d .nil)]) (Obd rfl) ?_
 refine Wy (.loc 2 0) [(2, (.box [(.i 0), (.i 0), (.i 0), (.s ([] : List UInt8)), (.d .nil)]))] (Oal rfl) <| Wy (.tup []) [(2, (.box [(.i p0.Time), (.i p0.Source), (.i p0.Seq), (.s p0.Type_), (.d .nil)]))] (Ost rfl) <| Nk 14 7 ⟨tp 1 (.loc 0 0::.loc 1 0::.loc 2 0::tp 28 []), [(.box [(.i p0.Time), (.i p0.Source), (.i p0.Seq), (.s p0.Type_), (.l enc_GValue p0.Vals)]), (.box [(.i 0), (.i 0), (.i 0), (.s ([] : List UInt8)), (.d .nil)]), (.box [(.i p0.Time), (.i p0.Source), (.i p0.Seq), (.s p0.Type_), (.d .nil)])], 0⟩ <| Sq <| Sx <| Wm (.i 0) rfl <| Nk 30 7 ⟨tp 1 (.loc 0 0::.loc 1 0::.loc 2 0::.i 0::tp 27 []), [(.box [(.i p0.Time), (.i p0.Source), (.i p0.Seq), (.s p0.Type_), (.l enc_GValue p0.Vals)]), (.box [(.i 0), (.i 0), (.i 0), (.s ([] : List UInt8)), (.d .nil)]), (.box [(.i p0.Time), (.i p0.Source), (.i p0.Seq), (.s p0.Type_), (.d .nil)])], 0⟩ <| Bk <| Aob 2 4 98 4 ⟨tp 1 (.loc 0 0::.loc 1 0::.loc 2 0::.i 0::tp 27 []), [(.box [(.i p0.Time), (.i p0.Source), (.i p0.Seq), (.s p0.Type_), (.l enc_GValue p0.Vals)]), (.box [(.i 0), (.i 0), (.i 0), (.s ([] : List UInt8)), (.d .nil)]), (.box [(.i p0.Time), (.i p0.Source), (.i p0.Seq), (.s p0.Type_), (.own 3)]), (Ar 98 4 enc_GValue ([] : List GValue))], 0⟩ ?_
 refine AWP.loopI (α := Nat × (List GValue) × Int)
   (fun (fu_0, y3_d_4_0, y4_0) => (⟨tp 1 (.loc 0 0::.loc 1 0::.loc 2 0::.i y4_0::tp 27 []), [(.box [(.i p0.Time), (.i p0.Source), (.i p0.Seq), (.s p0.Type_), (.l enc_GValue p0.Vals)]), (.box [(.i 0), (.i 0), (.i 0), (.s ([] : List UInt8)), (.d .nil)]), (.box [(.i p0.Time), (.i p0.Source), (.i p0.Seq), (.s p0.Type_), (.own 3)]), (Ar 98 4 enc_GValue y3_d_4_0)], 0⟩ : St))
   (fun (fu_0, y3_d_4_0, y4_0) => m_w07_Back_l0 p0 fu_0 y3_d_4_0 y4_0 = some r)
   (fun (fu_0, y3_d_4_0, y4_0) => fu_0) (1152921504606846976, ([] : List GValue), 0)
   (Weak.toK 30 0 0 [0, 1, 2, 3]) hm ?_
 rintro ⟨fu_0, y3_d_4_0, y4_0⟩ n_0 hm ih_0
 try dsimp only at hm ih_0 ⊢
 cases fu_0 with
 | zero => exact absurd hm (by unfold m_w07_Back_l0; simp)
 | succ fu_0 =>
  unfold m_w07_Back_l0 at hm
  refine Sq <| Sx <| Wm (.i y4_0) rfl <| Wz (.loc 0 4) (Ofa rfl) <| Wz (.l enc_GValue p0.Vals) (Old rfl) <| Wz (.i ((List.length p0.Vals : Nat) : Int)) (Oln rfl) <| Wz (.b (decide (y4_0 < ((List.length p0.Vals : Nat) : Int)))) (Obn rfl (fun _ => hb_lss (k := .i64))) <| Nk 262174 15 ⟨tp 1 (.loc 0 0::.loc 1 0::.loc 2 0::.i y4_0::tp 13 (.b (decide (y4_0 < ((List.length p0.Vals : Nat) : Int)))::tp 13 [])), [(.box [(.i p0.Time), (.i p0.Source), (.i p0.Seq), (.s p0.Type_), (.l enc_GValue p0.Vals)]), (.box [(.i 0), (.i 0), (.i 0), (.s ([] : List UInt8)), (.d .nil)]), (.box [(.i p0.Time), (.i p0.Source), (.i p0.Seq), (.s p0.Type_), (.own 3)]), (Ar 98 4 enc_GValue y3_d_4_0)], 0⟩ ?_
  rcases tf_ (decide (y4_0 < ((List.length p0.Vals : Nat) : Int))) with hc18_3 | hc18_3
  ·
   replace hm := cT hc18_3 hm
   refine AiT hc18_3 <| Sk <| Tk 30 15 ⟨tp 1 (.loc 0 0::.loc 1 0::.loc 2 0::.i y4_0::tp 27 []), [(.box [(.i p0.Time), (.i p0.Source), (.i p0.Seq), (.s p0.Type_), (.l enc_GValue p0.Vals)]), (.box [(.i 0), (.i 0), (.i 0), (.s ([] : List UInt8)), (.d .nil)]), (.box [(.i p0.Time), (.i p0.Source), (.i p0.Seq), (.s p0.Type_), (.own 3)]), (Ar 98 4 enc_GValue y3_d_4_0)], 0⟩ <| Sq <| Bk <| Adr <| Wz (.loc 2 4) (Ofa rfl) <| Wz (.own 3) (Old rfl) <| Wz (.loc 0 4) (Ofa rfl) <| Wz (.l enc_GValue p0.Vals) (Old rfl) <| Wm (.i y4_0) rfl ?_
   obtain ⟨x26_2, hx26_2, hm⟩ := bnd hm
   obtain ⟨hx26_2i, hx26_2g⟩ := geti_some hx26_2
   refine Wz (.d (.ref (List.drop ((Int.toNat y4_0) * 4) (flatD enc_GValue p0.Vals)))) (Oia rfl enc_GValue_len hx26_2i hx26_2g) <| Wz (.agg [(.y x26_2.Kind), (.i x26_2.N), (.u x26_2.Bits), (.s x26_2.Text)]) (Lf rfl enc_GValue_len hx26_2g) <| Wy (.own 4) [(4, (Ar 98 4 enc_GValue ([x26_2] : List GValue)))] (Obs rfl) ?_
   obtain ⟨a29_2, ha29_2, hm⟩ := bnd hm; obtain ⟨ha29_2e, ha29_2l⟩ := app_some ha29_2
   refine Wy (.own 5) [(3, .gone), (5, (Ar 98 4 enc_GValue a29_2))] (Oap rfl elemOK_42 enc_GValue_len ha29_2e ha29_2l) <| Wz (.loc 2 4) (Ofa rfl) <| Wy (.tup []) [(2, (.box [(.i p0.Time), (.i p0.Source), (.i p0.Seq), (.s p0.Type_), (.own 5)]))] (Ost rfl) <| Wdr <| Ino <| Tk 30 39 ⟨tp 1 (.loc 0 0::.loc 1 0::.loc 2 0::.i y4_0::tp 27 []), [(.box [(.i p0.Time), (.i p0.Source), (.i p0.Seq), (.s p0.Type_), (.l enc_GValue p0.Vals)]), (.box [(.i 0), (.i 0), (.i 0), (.s ([] : List UInt8)), (.d .nil)]), (.box [(.i p0.Time), (.i p0.Source), (.i p0.Seq), (.s p0.Type_), (.own 5)]), .gone, .gone, (Ar 98 4 enc_GValue a29_2)], 0⟩ <| Tx <| Wm (.i y4_0) rfl <| Wz (.i (W6 (y4_0 + 1))) (Obn rfl (fun _ => hb_add (k := .i64))) <| Wm (.i (W6 (y4_0 + 1))) rfl <| Wn0 <| RoundK.normal ?_
   exact Rounds.weak (Weak.toK 30 0 0 [0, 1, 2, 5]) (ih_0 (fu_0, a29_2, (W6 (y4_0 + 1))) hm (Nat.lt_succ_self _))
  ·
   replace hm := cF hc18_3 hm
   refine AiF hc18_3 <| AWP.exit <| Then.exit <| RoundK.exit <| InBlock.same <| Tk 12 14 ⟨tp 2 (.loc 1 0::.loc 2 0::tp 28 []), [.gone, (.box [(.i 0), (.i 0), (.i 0), (.s ([] : List UInt8)), (.d .nil)]), (.box [(.i p0.Time), (.i p0.Source), (.i p0.Seq), (.s p0.Type_), (.own 3)]), (Ar 98 4 enc_GValue y3_d_4_0)], 0⟩ <| Sx <| Wz (.agg [(.i p0.Time), (.i p0.Source), (.i p0.Seq), (.s p0.Type_), (.own 3)]) (Old rfl) <| Wy (.tup []) [(1, (.box [(.i p0.Time), (.i p0.Source), (.i p0.Seq), (.s p0.Type_), (.own 3)]))] (Ost rfl) <| Nn <| Rt ?_
   obtain rfl := Option.some.inj hm
   exact ret_i [3]

theorem ok_w37_Back (p0 : (List GCommand)) (r : (List GCommand)) (h : m_w37_Back p0 = some r) : GCall Tryd.prog 23 [(.l enc_GCommand p0)] [] (.own 0) [(Ar 46 9 enc_GCommand r)] := by
 refine GCall.of_body (n := 32) (rs := [(.tmp 2)]) Tryd.func23 rfl rfl rfl <| Ato ⟨.l enc_GCommand p0::tu 31 [], [], 0⟩ ?_
 have hm := h
 unfold m_w37_Back at hm
 refine Sx <| Wm (.d .nil) rfl <| Nk 1 0 ⟨.l enc_GCommand p0::tp 31 [], [], 0⟩ <| Sx <| Wm (.d .nil) rfl <| Nk 9 0 ⟨.l enc_GCommand p0::tp 2 (.d .nil::tp 28 []), [], 0⟩ <| Sq <| Sx <| Wm (.i 0) rfl <| Nk 25 0 ⟨.l enc_GCommand p0::tp 2 (.d .nil::.i 0::tp 27 []), [], 0⟩ <| Bk <| Aow 3 46 9 ⟨.l enc_GCommand p0::tp 2 (.own 0::.i 0::tp 27 []), [(Ar 46 9 enc_GCommand ([] : List GCommand))], 0⟩ ?_
 refine AWP.loopI (α := Nat × (List GCommand) × Int)
   (fun (fu_0, y3_0, y4_0) => (⟨.l enc_GCommand p0::tp 2 (.own 0::.i y4_0::tp 27 []), [(Ar 46 9 enc_GCommand y3_0)], 0⟩ : St))
   (fun (fu_0, y3_0, y4_0) => m_w37_Back_l0 p0 fu_0 y3_0 y4_0 = some r)
   (fun (fu_0, y3_0, y4_0) => fu_0) (1152921504606846976, ([] : List GCommand), 0)
   (Weak.toK 25 0 0 [0]) hm ?_
 rintro ⟨fu_0, y3_0, y4_0⟩ n_0 hm ih_0
 try dsimp only at hm ih_0 ⊢
 cases fu_0 with
 | zero => exact absurd hm (by unfold m_w37_Back_l0; simp)
 | succ fu_0 =>
  unfold m_w37_Back_l0 at hm
  refine Sq <| Sx <| Wm (.i y4_0) rfl <| Wm (.l enc_GCommand p0) rfl <| Wz (.i ((List.length p0 : Nat) : Int)) (Oln rfl) <| Wz (.b (decide (y4_0 < ((List.length p0 : Nat) : Int)))) (Obn rfl (fun _ => hb_lss (k := .i64))) <| Nk 537 1 ⟨.l enc_GCommand p0::tp 2 (.own 0::.i y4_0::tp 4 (.b (decide (y4_0 < ((List.length p0 : Nat) : Int)))::tp 22 [])), [(Ar 46 9 enc_GCommand y3_0)], 0⟩ ?_
  rcases tf_ (decide (y4_0 < ((List.length p0 : Nat) : Int))) with hc9_4 | hc9_4
  ·
   replace hm := cT hc9_4 hm
   refine AiT hc9_4 <| Sk <| Tk 25 1 ⟨.l enc_GCommand p0::tp 2 (.own 0::.i y4_0::tp 27 []), [(Ar 46 9 enc_GCommand y3_0)], 0⟩ <| Sq <| Bk <| Sx <| Wm (.l enc_GCommand p0) rfl <| Wm (.i y4_0) rfl ?_
   obtain ⟨x14_2, hx14_2, hm⟩ := bnd hm
   obtain ⟨hx14_2i, hx14_2g⟩ := geti_some hx14_2
   refine Wz (.d (.ref (List.drop ((Int.toNat y4_0) * 9) (flatD enc_GCommand p0)))) (Oia rfl enc_GCommand_len hx14_2i hx14_2g) <| Wz (.agg [(.y x14_2.Kind), (.s x14_2.Text), (.i x14_2.A), (.i x14_2.B), (.i x14_2.E.Time), (.i x14_2.E.Source), (.i x14_2.E.Seq), (.s x14_2.E.Type_), (.l enc_GValue x14_2.E.Vals)]) (Lf rfl enc_GCommand_len hx14_2g) <| Wy (.loc 1 0) [(1, (.box [(.y 0), (.s ([] : List UInt8)), (.i 0), (.i 0), (.i 0), (.i 0), (.i 0), (.s ([] : List UInt8)), (.d .nil)]))] (Oal rfl) <| Wy (.tup []) [(1, (.box [(.y x14_2.Kind), (.s x14_2.Text), (.i x14_2.A), (.i x14_2.B), (.i x14_2.E.Time), (.i x14_2.E.Source), (.i x14_2.E.Seq), (.s x14_2.E.Type_), (.l enc_GValue x14_2.E.Vals)]))] (Ost rfl) <| Nk 57 3 ⟨.l enc_GCommand p0::tp 2 (.own 0::.i y4_0::.loc 1 0::tp 26 []), [(Ar 46 9 enc_GCommand y3_0), (.box [(.y x14_2.Kind), (.s x14_2.Text), (.i x14_2.A), (.i x14_2.B), (.i x14_2.E.Time), (.i x14_2.E.Source), (.i x14_2.E.Seq), (.s x14_2.E.Type_), (.l enc_GValue x14_2.E.Vals)])], 0⟩ <| Adr <| Wm (.own 0) rfl <| Wz (.loc 1 0) (Ofa rfl) <| Wz (.y x14_2.Kind) (Old rfl) <| Wz (.loc 1 1) (Ofa rfl) <| Wz (.s x14_2.Text) (Old rfl) <| Wz (.loc 1 2) (Ofa rfl) <| Wz (.i x14_2.A) (Old rfl) <| Wz (.loc 1 3) (Ofa rfl) ?_
   refine Wz (.i x14_2.B) (Old rfl) <| Wz (.loc 1 4) (Ofa rfl) <| Wz (.agg [(.i x14_2.E.Time), (.i x14_2.E.Source), (.i x14_2.E.Seq), (.s x14_2.E.Type_), (.l enc_GValue x14_2.E.Vals)]) (Old rfl) ?_
   obtain ⟨r27_3, hr27_3, hm⟩ := bnd hm
   refine Wy (.agg [(.i r27_3.Time), (.i r27_3.Source), (.i r27_3.Seq), (.s r27_3.Type_), (.l enc_GValue r27_3.Vals)]) [(2, (Ar 98 4 enc_GValue r27_3.Vals)), (2, (.fro 98 4 (List.length r27_3.Vals) (flatD enc_GValue r27_3.Vals)))] (Ofz [2] (.agg [(.i r27_3.Time), (.i r27_3.Source), (.i r27_3.Seq), (.s r27_3.Type_), (.own 2)]) [(2, (Ar 98 4 enc_GValue r27_3.Vals))] (Ocf [] [2] [] 0 (ok_w07_Back x14_2.E r27_3 hr27_3) (fun a w => Tryd.call44 a w) rfl trivial)) <| Wz (.agg [(.y x14_2.Kind), (.s x14_2.Text), (.i x14_2.A), (.i x14_2.B), (.i r27_3.Time), (.i r27_3.Source), (.i r27_3.Seq), (.s r27_3.Type_), (.l enc_GValue r27_3.Vals)]) (Obd rfl) <| Wy (.own 3) [(3, (Ar 46 9 enc_GCommand ([(GCommand.mk x14_2.Kind x14_2.Text x14_2.A x14_2.B r27_3)] : List GCommand)))] (Obs rfl) ?_
   obtain ⟨a30_3, ha30_3, hm⟩ := bnd hm; obtain ⟨ha30_3e, ha30_3l⟩ := app_some ha30_3
   refine Wy (.own 4) [(0, .gone), (4, (Ar 46 9 enc_GCommand a30_3))] (Oap rfl elemOK_23 enc_GCommand_len ha30_3e ha30_3l) <| Wm (.own 4) rfl <| Wdr <| Ino <| Tk 25 16 ⟨.l enc_GCommand p0::tp 2 (.own 4::.i y4_0::tp 27 []), [.gone, .gone, .gone, .gone, (Ar 46 9 enc_GCommand a30_3)], 0⟩ <| Tx <| Wm (.i y4_0) rfl <| Wz (.i (W6 (y4_0 + 1))) (Obn rfl (fun _ => hb_add (k := .i64))) <| Wm (.i (W6 (y4_0 + 1))) rfl <| Wn0 <| RoundK.normal ?_
   exact Rounds.weak (Weak.toK 25 0 0 [4]) (ih_0 (fu_0, a30_3, (W6 (y4_0 + 1))) hm (Nat.lt_succ_self _))
  ·
   replace hm := cF hc9_4 hm
   refine AiF hc9_4 <| AWP.exit <| Then.exit <| RoundK.exit <| InBlock.same <| Tk 8 1 ⟨tp 3 (.own 0::tp 28 []), [(Ar 46 9 enc_GCommand y3_0)], 0⟩ <| Sx <| Wm (.own 0) rfl <| Wm (.own 0) rfl <| Nn <| Rt ?_
   obtain rfl := Option.some.inj hm
   exact ret_i [0]

theorem ok_r37_SameAll (p0 : (List GCommand)) (p1 : (List GCommand)) (r : Bool) (h : m_r37_SameAll p0 p1 = some r) : GCall Tryd.prog 22 [(.l enc_GCommand p0), (.l enc_GCommand p1)] [] (.b r) [] := by
 refine GCall.of_body (n := 27) (rs := [(.tmp 4)]) Tryd.func22 rfl rfl rfl <| Ato ⟨.l enc_GCommand p0::.l enc_GCommand p1::tu 25 [], [], 0⟩ ?_
 have hm := h
 unfold m_r37_SameAll at hm
 refine Sx <| Wm (.b false) rfl <| Nk 3 0 ⟨.l enc_GCommand p0::.l enc_GCommand p1::tp 25 [], [], 0⟩ <| Sq <| Sx <| Wm (.l enc_GCommand p0) rfl <| Wz (.i ((List.length p0 : Nat) : Int)) (Oln rfl) <| Wm (.l enc_GCommand p1) rfl <| Wz (.i ((List.length p1 : Nat) : Int)) (Oln rfl) <| Wz (.b (decide (((List.length p0 : Nat) : Int) ≠ ((List.length p1 : Nat) : Int)))) (Obn rfl (fun _ => hb_neq (k := .i64))) <| Nk 1027 0 ⟨.l enc_GCommand p0::.l enc_GCommand p1::tp 8 (.b (decide (((List.length p0 : Nat) : Int) ≠ ((List.length p1 : Nat) : Int)))::tp 16 []), [], 0⟩ ?_
 rcases tf_ (decide (((List.length p0 : Nat) : Int) ≠ ((List.length p1 : Nat) : Int))) with hc10_4 | hc10_4
 ·
  replace hm := cT hc10_4 hm
  refine AiT hc10_4 <| Sx <| Wm (.b false) rfl <| Nn <| Rt <| Tr ?_
  obtain rfl := Option.some.inj hm
  exact ret_i []
 ·
  replace hm := cF hc10_4 hm
  refine AiF hc10_4 <| Sk <| Tk 3 0 ⟨.l enc_GCommand p0::.l enc_GCommand p1::tp 25 [], [], 0⟩ <| Sq <| Sx <| Wm (.i 0) rfl <| Nk 35 0 ⟨.l enc_GCommand p0::.l enc_GCommand p1::tp 3 (.i 0::tp 21 []), [], 0⟩ <| Bk ?_
  refine AWP.loopI (α := Nat × Int)
    (fun (fu_1, y5_1) => (⟨.l enc_GCommand p0::.l enc_GCommand p1::tp 3 (.i y5_1::tp 21 []), [], 0⟩ : St))
    (fun (fu_1, y5_1) => m_r37_SameAll_l1 p0 p1 fu_1 y5_1 = some r)
    (fun (fu_1, y5_1) => fu_1) (1152921504606846976, 0)
    (Weak.toK 35 0 0 []) hm ?_
  rintro ⟨fu_1, y5_1⟩ n_1 hm ih_1
  try dsimp only at hm ih_1 ⊢
  cases fu_1 with
  | zero => exact absurd hm (by unfold m_r37_SameAll_l1; simp)
  | succ fu_1 =>
   unfold m_r37_SameAll_l1 at hm
   refine Sq <| Sx <| Wm (.i y5_1) rfl <| Wm (.l enc_GCommand p0) rfl <| Wz (.i ((List.length p0 : Nat) : Int)) (Oln rfl) <| Wz (.b (decide (y5_1 < ((List.length p0 : Nat) : Int)))) (Obn rfl (fun _ => hb_lss (k := .i64))) <| Nk 16419 0 ⟨.l enc_GCommand p0::.l enc_GCommand p1::tp 3 (.i y5_1::tp 8 (.b (decide (y5_1 < ((List.length p0 : Nat) : Int)))::tp 12 [])), [], 0⟩ ?_
   rcases tf_ (decide (y5_1 < ((List.length p0 : Nat) : Int))) with hc14_5 | hc14_5
   ·
    replace hm := cT hc14_5 hm
    refine AiT hc14_5 <| Sk <| Tk 35 0 ⟨.l enc_GCommand p0::.l enc_GCommand p1::tp 3 (.i y5_1::tp 21 []), [], 0⟩ <| Sq <| Bk <| Sq <| Adr <| Wm (.l enc_GCommand p0) rfl <| Wm (.i y5_1) rfl ?_
    obtain ⟨x19_3, hx19_3, hm⟩ := bnd hm
    obtain ⟨hx19_3i, hx19_3g⟩ := geti_some hx19_3
    refine Wz (.d (.ref (List.drop ((Int.toNat y5_1) * 9) (flatD enc_GCommand p0)))) (Oia rfl enc_GCommand_len hx19_3i hx19_3g) <| Wz (.agg [(.y x19_3.Kind), (.s x19_3.Text), (.i x19_3.A), (.i x19_3.B), (.i x19_3.E.Time), (.i x19_3.E.Source), (.i x19_3.E.Seq), (.s x19_3.E.Type_), (.l enc_GValue x19_3.E.Vals)]) (Lf rfl enc_GCommand_len hx19_3g) <| Wm (.l enc_GCommand p1) rfl <| Wm (.i y5_1) rfl ?_
    obtain ⟨x23_3, hx23_3, hm⟩ := bnd hm
    obtain ⟨hx23_3i, hx23_3g⟩ := geti_some hx23_3
    refine Wz (.d (.ref (List.drop ((Int.toNat y5_1) * 9) (flatD enc_GCommand p1)))) (Oia rfl enc_GCommand_len hx23_3i hx23_3g) <| Wz (.agg [(.y x23_3.Kind), (.s x23_3.Text), (.i x23_3.A), (.i x23_3.B), (.i x23_3.E.Time), (.i x23_3.E.Source), (.i x23_3.E.Seq), (.s x23_3.E.Type_), (.l enc_GValue x23_3.E.Vals)]) (Lf rfl enc_GCommand_len hx23_3g) ?_
    obtain ⟨r25_3, hr25_3, hm⟩ := bnd hm
    refine Wz (.b r25_3) (Ocf [] [] [] 0 (ok_r37_Same x19_3 x23_3 r25_3 hr25_3) (fun a w => Tryd.call17 a w) rfl trivial) <| Wz (.b (!r25_3)) (Ocs (by kernel_rfl) (op_un rfl (a1 := .bool r25_3) (by kernel_rfl) (fun _ => hu_not))) <| Wdr <| Tk 67108899 0 ⟨.l enc_GCommand p0::.l enc_GCommand p1::tp 3 (.i y5_1::tp 20 (.b (!r25_3)::[])), [], 0⟩ ?_
    rcases tf_ (!r25_3) with hc26_6 | hc26_6
    ·
     replace hm := cT hc26_6 hm
     refine AiT hc26_6 <| Sx <| Wm (.b false) rfl <| Nn <| Rt <| Ir <| Tr <| RoundK.ret <| Ir <| Tr ?_
     obtain rfl := Option.some.inj hm
     exact ret_i []
    ·
     replace hm := cF hc26_6 hm
     refine AiF hc26_6 <| Sk <| Ino <| Tk 35 0 ⟨.l enc_GCommand p0::.l enc_GCommand p1::tp 3 (.i y5_1::tp 21 []), [], 0⟩ <| Tx <| Wm (.i y5_1) rfl <| Wz (.i (W6 (y5_1 + 1))) (Obn rfl (fun _ => hb_add (k := .i64))) <| Wm (.i (W6 (y5_1 + 1))) rfl <| Wn0 <| RoundK.normal ?_
     exact Rounds.weak (Weak.toK 35 0 0 []) (ih_1 (fu_1, (W6 (y5_1 + 1))) hm (Nat.lt_succ_self _))
   ·
    replace hm := cF hc14_5 hm
    refine AiF hc14_5 <| AWP.exit <| Then.exit <| RoundK.exit <| InBlock.same <| Tk 0 0 ⟨tp 27 [], [], 0⟩ <| Sx <| Wm (.b true) rfl <| Nn <| Rt ?_
    obtain rfl := Option.some.inj hm
    exact ret_i []

theorem ok_w37_ScriptReads (p0 : (List GType)) (p1 : (List UInt8)) (r : Bool) (h : m_w37_ScriptReads p0 p1 = some r) : GCall Tryd.prog 4 [(.l enc_GType p0), (.s p1)] [] (.b r) [] := by
 refine GCall.of_body (n := 52) (rs := [(.tmp 4)]) Tryd.func4 rfl rfl rfl <| Ato ⟨.l enc_GType p0::.s p1::tu 50 [], [], 0⟩ ?_
 have hm := h
 unfold m_w37_ScriptReads at hm
 refine Sx <| Wm (.b false) rfl <| Nk 3 0 ⟨.l enc_GType p0::.s p1::tp 50 [], [], 0⟩ <| Sq <| Sx <| Wm (.l enc_GType p0) rfl ?_
 obtain ⟨r12_0, hr12_0, hm⟩ := bnd hm
 refine Wz (.i r12_0) (Ocf [] [] [] 0 (ok_w06_Over p0 r12_0 hr12_0) (fun a w => Tryd.call7 a w) rfl trivial) <| Wz (.b (decide ((0 : Int) < r12_0))) (Obn rfl (fun _ => hb_gtr (k := .i64))) ?_
 rcases tf_ (decide ((0 : Int) < r12_0)) with hq14_0 | hq14_0
 ·
  replace hm := cT hq14_0 hm
  refine Wz (.b true) (Oq hq14_0 rfl) <| Wn <| Wn <| Wn <| Wz (.b true) (OpT rfl) <| Nk 262147 0 ⟨.l enc_GType p0::.s p1::tp 16 (.b true::tp 33 []), [], 0⟩ <| AWP.if_ true (by kernel_rfl) <| Sx ?_
  obtain ⟨r19_1, hr19_1, hm⟩ := bnd hm
  refine Wz (.b r19_1) (Ocf [] [] [] 0 (ok_w37_awake  r19_1 hr19_1) (fun a w => Tryd.call9 a w) rfl trivial) <| Wm (.b r19_1) rfl <| Nn <| Rt <| Tr ?_
  obtain rfl := Option.some.inj hm
  exact ret_i []
 ·
  replace hm := cF hq14_0 hm
  refine Wz (.b false) (Oq hq14_0 rfl) <| Wm (.s p1) rfl <| Wz (.i ((List.length p1 : Nat) : Int)) (Oln rfl) <| Wz (.b (decide ((900 : Int) < ((List.length p1 : Nat) : Int)))) (Obn rfl (fun _ => hb_gtr (k := .i64))) <| Wz (.b (decide ((900 : Int) < ((List.length p1 : Nat) : Int)))) (OpF rfl) <| Nk 262147 0 ⟨.l enc_GType p0::.s p1::tp 16 (.b (decide ((900 : Int) < ((List.length p1 : Nat) : Int)))::tp 33 []), [], 0⟩ ?_
  rcases tf_ (decide ((900 : Int) < ((List.length p1 : Nat) : Int))) with hc18_6 | hc18_6
  ·
   replace hm := cT hc18_6 hm
   refine AiT hc18_6 <| Sx ?_
   obtain ⟨r19_2, hr19_2, hm⟩ := bnd hm
   refine Wz (.b r19_2) (Ocf [] [] [] 0 (ok_w37_awake  r19_2 hr19_2) (fun a w => Tryd.call9 a w) rfl trivial) <| Wm (.b r19_2) rfl <| Nn <| Rt <| Tr ?_
   obtain rfl := Option.some.inj hm
   exact ret_i []
  ·
   replace hm := cF hc18_6 hm
   refine AiF hc18_6 <| Sk <| Tk 3 0 ⟨.l enc_GType p0::.s p1::tp 50 [], [], 0⟩ <| Sx <| Wm (.l enc_GType p0) rfl ?_
   obtain ⟨r22_3, hr22_3, hm⟩ := bnd hm
   refine Wy (.own 0) [(0, (Ar 74 2 enc_GType r22_3))] (Ocf [] [0] [] 0 (ok_w06_Own p0 r22_3 hr22_3) (fun a w => Tryd.call10 a w) rfl trivial) <| Wm (.s p1) rfl ?_
   obtain ⟨r24_3, hr24_3, hm⟩ := bnd hm
   refine Wy (.tup [(.own 1), (.i r24_3.2.1), (.i r24_3.2.2)]) [(1, (Ar 39 9 enc_GCommand r24_3.1)), (0, (.fro 74 2 (List.length r22_3) (flatD enc_GType r22_3)))] (Ocf [] [1] [0] 0 (ok_script_Read r22_3 p1 r24_3 hr24_3) (fun a w => Tryd.call20 a w) rfl trivial) <| Wm (.tup [(.own 1), (.i r24_3.2.1), (.i r24_3.2.2)]) rfl <| Wz (.own 1) (Oex rfl) <| Wz (.i r24_3.2.1) (Oex rfl) <| Wz (.i r24_3.2.2) (Oex rfl) <| Wm (.own 1) rfl <| Wm (.i r24_3.2.1) rfl <| Wm (.i r24_3.2.2) rfl <| Nk 227 2 ⟨.l enc_GType p0::.s p1::tp 3 (.own 1::.i r24_3.2.1::.i r24_3.2.2::tp 44 []), [.gone, (Ar 39 9 enc_GCommand r24_3.1)], 0⟩ <| Sx <| Wm (.l enc_GType p0) rfl <| Wm (.s p1) rfl ?_
   obtain ⟨r31_4, hr31_4, hm⟩ := bnd hm
   refine Wy (.tup [(.own 2), (.i r31_4.2.1), (.i r31_4.2.2)]) [(2, (Ar 46 9 enc_GCommand r31_4.1))] (Ocf [] [2] [] 0 (ok_r37_Read p0 p1 r31_4 hr31_4) (fun a w => Tryd.call21 a w) rfl trivial) <| Wm (.tup [(.own 2), (.i r31_4.2.1), (.i r31_4.2.2)]) rfl <| Wz (.own 2) (Oex rfl) <| Wz (.i r31_4.2.1) (Oex rfl) <| Wz (.i r31_4.2.2) (Oex rfl) <| Wm (.own 2) rfl <| Wm (.i r31_4.2.1) rfl <| Wm (.i r31_4.2.2) rfl <| Nk 2016 6 ⟨tp 5 (.own 1::.i r24_3.2.1::.i r24_3.2.2::.own 2::.i r31_4.2.1::.i r31_4.2.2::tp 41 []), [.gone, (Ar 39 9 enc_GCommand r24_3.1), (Ar 46 9 enc_GCommand r31_4.1)], 0⟩ <| Sx <| Wm (.own 1) rfl ?_
   obtain ⟨r36_5, hr36_5, hm⟩ := bnd hm
   refine Wy (.own 3) [(3, (Ar 46 9 enc_GCommand r36_5)), (1, (.fro 39 9 (List.length r24_3.1) (flatD enc_GCommand r24_3.1)))] (Ocf [] [3] [1] 0 (ok_w37_Back r24_3.1 r36_5 hr36_5) (fun a w => Tryd.call23 a w) rfl trivial) <| Wm (.own 2) rfl ?_
   obtain ⟨r38_5, hr38_5, hm⟩ := bnd hm
   refine Wz (.b r38_5) (Ocp [] [] [3, 2] 0 (ok_r37_SameAll r36_5 r31_4.1 r38_5 hr38_5) (plain_triv (by simp [A.Plain, A.Plains, D.Plain, byteD])) (fun a w => Tryd.call22 a w) rfl trivial) ?_
   rcases tf_ r38_5 with hq39_5 | hq39_5
   ·
    replace hm := cT hq39_5 hm
    refine Wz (.b true) (Oq hq39_5 rfl) <| Wm (.i r24_3.2.1) rfl <| Wm (.i r31_4.2.1) rfl <| Wz (.b (decide (r24_3.2.1 = r31_4.2.1))) (Obn rfl (fun _ => hb_eql (k := .i64))) <| Wz (.b (decide (r24_3.2.1 = r31_4.2.1))) (OpT rfl) ?_
    rcases tf_ (decide (r24_3.2.1 = r31_4.2.1)) with hq44_5 | hq44_5
    ·
     replace hm := cT hq44_5 hm
     refine Wz (.b true) (Oq hq44_5 rfl) <| Wm (.i r24_3.2.2) rfl <| Wm (.i r31_4.2.2) rfl <| Wz (.b (decide (r24_3.2.2 = r31_4.2.2))) (Obn rfl (fun _ => hb_eql (k := .i64))) <| Wz (.b (decide (r24_3.2.2 = r31_4.2.2))) (OpT rfl) ?_
     rcases tf_ (decide (r24_3.2.2 = r31_4.2.2)) with hq49_5 | hq49_5
     ·
      replace hm := cT hq49_5 hm
      refine Wz (.b true) (Oq hq49_5 rfl) ?_
      obtain ⟨r50_5, hr50_5, hm⟩ := bnd hm
      refine Wz (.b r50_5) (Ocf [] [] [] 0 (ok_w37_awake  r50_5 hr50_5) (fun a w => Tryd.call9 a w) rfl trivial) <| Wz (.b r50_5) (OpT rfl) <| Wm (.b r50_5) rfl <| Nn <| Rt ?_
      obtain rfl := Option.some.inj hm
      exact ret_i []
     ·
      replace hm := cF hq49_5 hm
      refine Wz (.b false) (Oq hq49_5 rfl) <| Wn <| Wz (.b false) (OpF rfl) <| Wm (.b false) rfl <| Nn <| Rt ?_
      obtain rfl := Option.some.inj hm
      exact ret_i []
    ·
     replace hm := cF hq44_5 hm
     refine Wz (.b false) (Oq hq44_5 rfl) <| Wn <| Wn <| Wn <| Wz (.b false) (OpF rfl) <| Wm (.b false) rfl <| Wn <| Wz (.b false) (OpF rfl) <| Wm (.b false) rfl <| Nn <| Rt ?_
     obtain rfl := Option.some.inj hm
     exact ret_i []
   ·
    replace hm := cF hq39_5 hm
    refine Wz (.b false) (Oq hq39_5 rfl) <| Wn <| Wn <| Wn <| Wz (.b false) (OpF rfl) <| Wm (.b false) rfl <| Wn <| Wn <| Wn <| Wz (.b false) (OpF rfl) <| Wm (.b false) rfl <| Wn <| Wz (.b false) (OpF rfl) <| Wm (.b false) rfl ?_
    refine Nn <| Rt ?_
    obtain rfl := Option.some.inj hm
    exact ret_i []
end Go.Proofs.YtaaooafcijdbmaaDoor.K

namespace Go.Proofs.YtaaooafcijdbmaaDoor
open Go.ChangeShapes Go.WideShapes Go.ChangeAt Go.RowKit
open Go.ChangeMaps (open_string shut_string)

section
variable {H : Type} {enc : TypeId × Value → H} {P : Program}
theorem trodAll_lt {w : World} {base : Nat} {spare : Nat → Bool} {held : Bool} : ∀ {ts : List TypeId} {vs : List Value} {ds : List (DataW H)} {ps : List MemPlace},
    DataW.TrodAll enc P w base spare held ts vs ds ps → ∀ x ∈ ps, x.block < w.heap.size
  | [], _, _, _, h => by obtain ⟨_, _, rfl⟩ := trodAll_nil h; simp
  | t :: ts, _, _, _, h => by
    obtain ⟨v, vs, d, ds, p, q, rfl, rfl, rfl, h0, h1⟩ := trodAll_cons h
    intro x hx
    rcases List.mem_append.1 hx with hx | hx
    · obtain ⟨m, hm⟩ := h0; exact DataW.trod_lt m _ _ _ hm x hx
    · exact trodAll_lt h1 x hx
theorem trodAll_below (hl : laidOutB P = true) {W W' : World} (hb : Below W.heap.size W W') : ∀ {ts : List TypeId} {vs : List Value} {ds : List (DataW H)} {ps : List MemPlace},
    (ts.all fun t => P.readableRec t && decide (t < P.types.size)) = true → DataW.TrodAll enc P W 0 (fun _ => true) true ts vs ds ps → DataW.TrodAll enc P W' 0 (fun b => decide (b < W.heap.size)) true ts vs ds ps
  | [], _, _, _, _, h => by obtain ⟨rfl, rfl, rfl⟩ := trodAll_nil h; exact trodAll_mk0
  | t :: ts, _, _, _, ht, h => by
    have hlt := trodAll_lt h
    obtain ⟨v, vs, d, ds, p, q, rfl, rfl, rfl, h0, h1⟩ := trodAll_cons h
    simp only [List.all_cons, Bool.and_eq_true, decide_eq_true_eq] at ht
    exact trodAll_cons_mk (Below.trod hl ht.1.1 ht.1.2 h0 hb fun x hx => hlt x (by simp [hx])) (trodAll_below hl hb (by simpa using ht.2) h1)

variable {W : World} {base : Nat} {spare : Nat → Bool} {held : Bool} {t : TypeId} {v : Value} {d : DataW H} {ps : List MemPlace}
theorem op_slice_ints {e : TypeId} {k : IntKind} (ht : P.underlying t = some (.slice e)) (he : P.underlying e = some (.int k)) (hc : P.cellsOf e = 1)
    {r : Reach} (hv : Value.okWide P W r base t v) (h : DataW.Trod enc P W 0 (fun _ => true) true t v d ps) :
    ∃ l : List Int, IsSl 1 (l.map (.int k)) v W ∧ ∀ n ∈ l, (Lit.int k n).wf = true := by
  obtain ⟨a, len, cap, rfl⟩ := okWide_slice ht hv
  obtain ⟨fuel, hf⟩ := h
  rcases open_ints ht he hc hf with ⟨hcs, _⟩ | ⟨x, l, c, zs, hcs, _, hl, hm, hz, _, hcell, hwz⟩
  · simp [Value.cells] at hcs
    obtain ⟨rfl, rfl, rfl⟩ := hcs
    exact ⟨[], ⟨none, 0, 0, rfl, by simp, Nat.le_refl _, by simp [maxLen], fun _ => ⟨rfl, rfl⟩, fun p hp => by cases hp⟩, by simp⟩
  · simp [Value.cells] at hcs
    obtain ⟨rfl, rfl, rfl⟩ := hcs
    simp only [if_true] at hz
    refine ⟨zs.take len, ⟨some x, len, cap, rfl, by simp; omega, hl, hm, (fun h => by cases h), fun p hp j u hj => ?_⟩, fun n hn => hwz n (List.mem_of_mem_take hn)⟩
    cases hp
    rw [List.getElem?_map, List.getElem?_take] at hj
    split at hj
    · rename_i hjl
      have hjz : j < zs.length := by omega
      rw [List.getElem?_eq_getElem hjz] at hj
      simp only [Option.map_some, Option.some.injEq] at hj
      rw [hcell j hjz, ← hj, List.getD_eq_getElem?_getD, List.getElem?_eq_getElem hjz]
      rfl
    · cases hj
theorem bytes_of_ints {l : List Int} (hw : ∀ n ∈ l, (Lit.int .u8 n).wf = true) : ∃ b : List UInt8, l.map (.int .u8) = bytesC b ∧ b.length = l.length := by
  refine ⟨l.map fun n => UInt8.ofNat n.toNat, ?_, by simp⟩
  unfold bytesC
  rw [List.map_map]
  refine List.map_congr_left fun n hn => ?_
  have := bounds_u8 (hw n hn)
  simp
  omega
theorem op_bytes {e : TypeId} (ht : P.underlying t = some (.slice e)) (he : P.underlying e = some (.int .u8)) (hc : P.cellsOf e = 1)
    {r : Reach} (hv : Value.okWide P W r base t v) (h : DataW.Trod enc P W 0 (fun _ => true) true t v d ps) : ∃ l : List UInt8, IsBytes l v W := by
  obtain ⟨l, h1, h2⟩ := op_slice_ints ht he hc hv h
  obtain ⟨b, h3, _⟩ := bytes_of_ints h2
  exact ⟨b, by rw [IsBytes, ← h3]; exact h1⟩
end
end Go.Proofs.YtaaooafcijdbmaaDoor

namespace Go.Proofs.YtaaooafcijdbmaaDoor.K
open Go.RowKit Go.Lib
def wfT {α : Type} (_ : α) : Prop := True
def wfS (l : List UInt8) : Prop := l.length ≤ maxLen
def wfL {α : Type} (q : α → Prop) (l : List α) : Prop := l.length ≤ maxLen ∧ ∀ x ∈ l, q x
section
variable {P : Program} {t e : TypeId} {ds : List D}
theorem td_u8 (hu : P.underlying t = some (.int .u8)) (h : TD P t ds) : ∃ b : UInt8, ds = encU8 b ∧ wfT b := by
  obtain ⟨n, rfl, hw⟩ := TD.of_int hu h
  simp [Lit.wf, IntKind.min, IntKind.max, IntKind.signed, IntKind.bits] at hw
  refine ⟨UInt8.ofNat n.toNat, ?_, trivial⟩
  have : (((UInt8.ofNat n.toNat).toNat : Nat) : Int) = n := by
    have h2 : (UInt8.ofNat n.toNat).toNat = n.toNat % 256 := UInt8.toNat_ofNat
    rw [h2]; omega
  unfold encU8 byteD
  rw [this]
theorem td_str (hu : P.underlying t = some .string) (h : TD P t ds) : ∃ l : List UInt8, ds = encS l ∧ wfS l := by
  obtain ⟨s, rfl, hs⟩ := TD.of_str hu h
  exact ⟨s.data.toList, rfl, hs⟩
theorem td_slice {α : Type} {enc : α → List D} {q : α → Prop} (hu : P.underlying t = some (.slice e)) (he : ∀ {r}, TD P e r → ∃ x, r = enc x ∧ q x) (h : TD P t ds) : ∃ l : List α, ds = encL enc l ∧ wfL q l := by
  obtain ⟨l, rfl, h1, h2⟩ := TD.of_slice hu he h
  exact ⟨l, rfl, h1, h2⟩
end
theorem rep_1 {S : Nat → Prop} {w : World} {m : Mp} {x : D} {v : Value} {xs : List D} (h : RepD S w x v) (e : [x] = xs) {y : D} (hy : xs = [y]) : Rep m S w (.d y) v := by
  subst hy
  cases e
  exact rep_d h
theorem rep_str {S : Nat → Prop} {w : World} {m : Mp} {s : ByteArray} : Rep m S w (.d (.lit (.string (toS s.data.toList)))) (.string s) := rep_lit rfl
end Go.Proofs.YtaaooafcijdbmaaDoor.K

namespace Go.Proofs.YtaaooafcijdbmaaDoor.K
open Go.RowKit Go.Lib
theorem w64 {n : Int} (h1 : -9223372036854775808 ≤ n) (h2 : n ≤ 9223372036854775807) : IntKind.i64.wrap n = n := by
  simp [IntKind.wrap, IntKind.signed, IntKind.bits]; omega
theorem wu64 (n : Int) : IntKind.u64.wrap n = n % 18446744073709551616 := K.wrap_u64 n
theorem maxLen_le {n : Nat} (h : n ≤ maxLen) : n ≤ 9223372036854775807 := by unfold maxLen at h; omega
section
variable {α : Type} {l r : List α} {i n : Nat} {x : α}
/-- One further. -/
theorem inc_ok (h2 : i ≤ 9223372036854775806) : IntKind.i64.wrap ((i : Int) + 1) = ((i + 1 : Nat) : Int) := by
  rw [w64 (by omega) (by omega)]; omega
theorem geti_nat : geti l (i : Int) = l[i]? := by simp [geti]
theorem geti_lt (h : i < l.length) : geti l (i : Int) = some l[i] := by rw [geti_nat, List.getElem?_eq_getElem h]
theorem geti_0 {y : α} : geti (y :: l) 0 = some y := rfl
theorem app_ok (h : l.length + r.length ≤ 1000000000) : app l r = some (l ++ r) := if_pos h
theorem cut_ok {a b : Nat} (h1 : a ≤ b) (h2 : b ≤ l.length) : cut l (a : Int) (b : Int) = some ((l.drop a).take (b - a)) := by unfold cut; rw [if_pos (by omega)]; rfl
theorem obind_some {β : Type} {f : α → Option β} : Option.bind (some x) f = f x := rfl
theorem bind_of {β : Type} {o : Option α} {f : α → Option β} (h : o = some x) : Option.bind o f = f x := by rw [h]; rfl
theorem chk_ok {p : Prop} [Decidable p] {o : Option α} (h : p) : chk p o = o := if_pos h
theorem d_lt {a b : Int} (h : a < b) : decide (a < b) = true := decide_eq_true h
theorem d_nlt {a b : Int} (h : ¬ a < b) : decide (a < b) = false := decide_eq_false h
theorem drop_cons (h : i < l.length) : l.drop i = l[i] :: l.drop (i + 1) := List.drop_eq_getElem_cons h
theorem take_snoc (h : i < l.length) : l.take (i + 1) = l.take i ++ [l[i]] := by rw [List.take_add_one, List.getElem?_eq_getElem h]; rfl
end
/-- A loop that counts up to n: by what it comes to from place i on, in state s. -/
theorem loopG {σ R : Type} {L : Nat → σ → Int → Option R} {n : Nat} {P : Nat → σ → Option R → Prop} (hend : ∀ fu s, P n s (L (fu + 1) s (n : Int)))
    (hstep : ∀ fu s i, i < n → (∀ s', P (i + 1) s' (L fu s' ((i + 1 : Nat) : Int))) → P i s (L (fu + 1) s (i : Int))) : ∀ fu i s, i ≤ n → n - i < fu → P i s (L fu s (i : Int))
  | 0, i, s, _, h => by omega
  | fu + 1, i, s, h1, h2 => by
    rcases Nat.lt_or_ge i n with h | h
    · exact hstep fu s i h fun s' => loopG hend hstep fu (i + 1) s' (by omega) (by omega)
    · obtain rfl : i = n := by omega
      exact hend fu s
/-- The same without a state. -/
theorem loop1 {R : Type} {L : Nat → Int → Option R} {n : Nat} {P : Nat → Option R → Prop} (hend : ∀ fu, P n (L (fu + 1) (n : Int)))
    (hstep : ∀ fu i, i < n → P (i + 1) (L fu ((i + 1 : Nat) : Int)) → P i (L (fu + 1) (i : Int))) (fu i : Nat) (h1 : i ≤ n) (h2 : n - i < fu) : P i (L fu (i : Int)) :=
  loopG (σ := Unit) (L := fun fu _ i => L fu i) (P := fun i _ o => P i o) (fun fu _ => hend fu) (fun fu _ i hi h => hstep fu i hi (h ())) fu i () h1 h2
/-- From the first place on. -/
theorem loop1_0 {R : Type} {L : Nat → Int → Option R} {n : Nat} {P : Nat → Option R → Prop} (hn : n < 1152921504606846976) (hend : ∀ fu, P n (L (fu + 1) (n : Int)))
    (hstep : ∀ fu i, i < n → P (i + 1) (L fu ((i + 1 : Nat) : Int)) → P i (L (fu + 1) (i : Int))) : P 0 (L 1152921504606846976 0) := loop1 hend hstep _ 0 (Nat.zero_le _) (by omega)
theorem loopG_0 {σ R : Type} {L : Nat → σ → Int → Option R} {n : Nat} {P : Nat → σ → Option R → Prop} (hn : n < 1152921504606846976) (hend : ∀ fu s, P n s (L (fu + 1) s (n : Int)))
    (hstep : ∀ fu s i, i < n → (∀ s', P (i + 1) s' (L fu s' ((i + 1 : Nat) : Int))) → P i s (L (fu + 1) s (i : Int))) (s : σ) : P 0 s (L 1152921504606846976 s 0) := loopG hend hstep _ 0 s (Nat.zero_le _) (by omega)
/-- A loop that lays f of each behind what there is. -/
theorem map_loop {α β R : Type} {L : Nat → List β → Int → Option R} {l : List α} {f : α → β} {e : List β → R} (hl : l.length ≤ 400000000)
    (hend : ∀ fu s, L (fu + 1) s (l.length : Int) = some (e s)) (hstep : ∀ fu s i, (h : i < l.length) → s.length ≤ 400000000 → L (fu + 1) s (i : Int) = L fu (s ++ [f l[i]]) ((i + 1 : Nat) : Int)) : L 1152921504606846976 [] 0 = some (e (l.map f)) := by
  have := loopG_0 (L := L) (n := l.length) (P := fun i s o => s.length = i → o = some (e (s ++ (l.drop i).map f))) (by omega) (fun fu s hs => by rw [hend]; simp) (fun fu s i hi ih hs => by
    rw [hstep fu s i hi (by omega), ih (s ++ [f l[i]]) (by simp [hs]), drop_cons hi, List.map_cons, List.append_assoc]; rfl) [] rfl
  simpa using this
end Go.Proofs.YtaaooafcijdbmaaDoor.K

namespace Go.Proofs.YtaaooafcijdbmaaDoor

def zs (u : Nat) : List Nat := if u < 128 then [u] else u % 128 :: zs (u / 128)
termination_by u
decreasing_by omega
theorem zs_lt {u : Nat} (h : u < 128) : zs u = [u] := by rw [zs, if_pos h]
theorem zs_ge {u : Nat} (h : ¬ u < 128) : zs u = u % 128 :: zs (u / 128) := by rw [zs, if_neg h]
def zn (u : Nat) : Nat := (zs u).length
theorem zn_lt {u : Nat} (h : u < 128) : zn u = 1 := by rw [zn, zs_lt h]; rfl
theorem zn_ge {u : Nat} (h : ¬ u < 128) : zn u = zn (u / 128) + 1 := by rw [zn, zs_ge h]; rfl
theorem zn_pos (u : Nat) : 1 ≤ zn u := by
  by_cases h : u < 128
  · rw [zn_lt h]; exact Nat.le_refl _
  · rw [zn_ge h]; omega
theorem zn_le (k : Nat) : ∀ u, u < 128 ^ (k + 1) → zn u ≤ k + 1 := by
  induction k with
  | zero => intro u h; rw [zn_lt (by simpa using h)]; exact Nat.le_refl _
  | succ k ih =>
    intro u h
    by_cases hu : u < 128
    · rw [zn_lt hu]; omega
    · rw [zn_ge hu]
      have := ih (u / 128) (by rw [Nat.pow_succ] at h; omega)
      omega
theorem zn_hi (u : Nat) : u < 128 ^ zn u := by
  induction u using Nat.strongRecOn with
  | ind u ih =>
    by_cases h : u < 128
    · rw [zn_lt h]; simpa using h
    · rw [zn_ge h, Nat.pow_succ]
      have := ih (u / 128) (by omega)
      omega
/-- The byte at a place: the last one says that there is no more. -/
def zbyte (u n i : Nat) : UInt8 := if i + 1 = n then UInt8.ofNat (u / 128 ^ i % 128) else UInt8.ofNat (u / 128 ^ i % 128 + 128)
def zb (u : Nat) : List UInt8 := (List.range (zn u)).map (zbyte u (zn u))
theorem zb_length (u : Nat) : (zb u).length = zn u := by simp [zb]

/-- Folding. -/
def zfold (n : Int) : Nat := if n < 0 then (2 * (-(n + 1)) + 1).toNat else (2 * n).toNat
def zback (u : Nat) : Int := if u % 2 = 1 then -((u / 2 : Nat) : Int) - 1 else ((u / 2 : Nat) : Int)
theorem zfold_back (u : Nat) : zfold (zback u) = u := by
  unfold zback zfold; split <;> split <;> omega
theorem zback_lo (u : Nat) (h : u < 18446744073709551616) : -9223372036854775808 ≤ zback u := by unfold zback; split <;> omega
theorem zback_hi (u : Nat) (h : u < 18446744073709551616) : zback u ≤ 9223372036854775807 := by unfold zback; split <;> omega
end Go.Proofs.YtaaooafcijdbmaaDoor
namespace Go.Proofs.YtaaooafcijdbmaaDoor
/-- A number read off bytes, from place i on, u being what was read: the number, the place behind it, the error. -/
def tk (l : List UInt8) : Nat → Nat → Nat → Nat × Nat × Nat
  | 0, _, _ => (0, 0, 8)
  | f + 1, i, u => match l[i]? with
    | none => (0, 0, 3)
    | some c => if i = 9 ∧ 1 < c.toNat then (0, 0, 8) else if 0 < i ∧ c.toNat = 0 then (0, 0, 4) else
      if c.toNat < 128 then (u + c.toNat % 128 * 128 ^ i, i + 1, 0) else tk l f (i + 1) (u + c.toNat % 128 * 128 ^ i)
/-- The same from a place of a text. -/
def ztk (l : List UInt8) (a : Int) : Nat × Nat × Nat :=
  if a < 0 ∨ (l.length : Int) < a then (0, 0, 2) else
    let r := tk (l.drop a.toNat) 10 0 0
    (r.1, if r.2.2 = 0 then a.toNat + r.2.1 else 0, r.2.2)
def zgo (l : List UInt8) (a : Nat) (r : Nat × Nat × Nat) : Nat × Nat × Nat := (r.1, if r.2.2 = 0 then a + r.2.1 else 0, r.2.2)

theorem mul_in {v k c : Nat} (hv : v < 128 ^ k) (hk : k ≤ 9) (hc : c < 256) (h9 : k = 9 → c ≤ 1) : v + c % 128 * 128 ^ k < 18446744073709551616 ∧ v + c % 128 * 128 ^ k < 128 ^ (k + 1) := by
  have h128 : (128 : Nat) ^ k ≤ 128 ^ 9 := Nat.pow_le_pow_right (by decide) hk
  have e9 : (128 : Nat) ^ 9 = 9223372036854775808 := by decide
  refine ⟨?_, ?_⟩
  · by_cases hk9 : k = 9
    · subst hk9; have := h9 rfl; rw [e9] at *; omega
    · have h8 : (128 : Nat) ^ k ≤ 128 ^ 8 := Nat.pow_le_pow_right (by decide) (by omega)
      have e8 : (128 : Nat) ^ 8 = 72057594037927936 := by decide
      have h2 : c % 128 * 128 ^ k ≤ 127 * 128 ^ 8 := Nat.mul_le_mul (by omega) h8
      rw [e8] at h2; omega
  · rw [Nat.pow_succ]
    have : c % 128 * 128 ^ k ≤ 127 * 128 ^ k := (Nat.mul_le_mul_right _ (by omega))
    omega
theorem tk_lt (l : List UInt8) : ∀ (f i u : Nat), f + i = 10 → u < 128 ^ i → (tk l f i u).1 < 18446744073709551616
  | 0, _, _, _, _ => by simp [tk]
  | f + 1, i, u, h, hu => by
    rw [tk]
    cases l[i]? with
    | none => simp
    | some c =>
      simp only
      split
      · simp
      · split
        · simp
        · rename_i h1 h2
          have hc : c.toNat < 256 := UInt8.toNat_lt _
          have := mul_in hu (by omega) hc (by omega)
          split
          · exact this.1
          · exact tk_lt l f (i + 1) _ (by omega) this.2
theorem ztk_lt (l : List UInt8) (a : Int) : (ztk l a).1 < 18446744073709551616 := by
  unfold ztk
  split
  · decide
  · exact tk_lt _ 10 0 0 rfl (by decide)
theorem zbyte_last {u n k : Nat} (h : k + 1 = n) : ((zbyte u n k).toNat : Int) = ((u / 128 ^ k % 128 : Nat) : Int) := by
  unfold zbyte; rw [if_pos h, UInt8.toNat_ofNat']; omega
theorem zbyte_more {u n k : Nat} (h : ¬ k + 1 = n) : ((zbyte u n k).toNat : Int) = ((u / 128 ^ k % 128 + 128 : Nat) : Int) := by
  unfold zbyte; rw [if_neg h, UInt8.toNat_ofNat']; omega
theorem zb_get (u : Nat) {i : Nat} (h : i < zn u) : (zb u)[i]? = some (zbyte u (zn u) i) := by
  simp [zb, h]
theorem zbyte_toNat_last {u n k : Nat} (h : k + 1 = n) : (zbyte u n k).toNat = u / 128 ^ k % 128 := by
  have := zbyte_last (u := u) h; omega
theorem zbyte_toNat_more {u n k : Nat} (h : ¬ k + 1 = n) : (zbyte u n k).toNat = u / 128 ^ k % 128 + 128 := by
  have := zbyte_more (u := u) h; omega
theorem digit_join (u k : Nat) : u % 128 ^ k + u / 128 ^ k % 128 * 128 ^ k = u % 128 ^ (k + 1) := by
  rw [Nat.pow_succ, Nat.mod_mul, Nat.mul_comm (128 ^ k)]
theorem zn_eq {u k : Nat} (h1 : u < 128 ^ (k + 1)) (h2 : k = 0 ∨ 128 ^ k ≤ u) : zn u = k + 1 := by
  have h3 := zn_le k u h1
  have h4 := zn_pos u
  rcases h2 with rfl | h2
  · omega
  · rcases Nat.lt_or_ge k (zn u) with h5 | h5
    · omega
    · have h6 := zn_hi u
      have h7 : 128 ^ zn u ≤ 128 ^ k := Nat.pow_le_pow_right (by decide) h5
      omega
/-- What is read has just these bytes. -/
theorem tk_back (l : List UInt8) : ∀ (f k v u n : Nat), f + k = 10 → v < 128 ^ k → tk l f k v = (u, n, 0) →
    k < n ∧ n ≤ l.length ∧ u % 128 ^ k = v ∧ zn u = n ∧ ∀ i, k ≤ i → i < n → l[i]? = some (zbyte u n i)
  | 0, k, v, u, n, _, _, h => by simp [tk] at h
  | f + 1, k, v, u, n, hf, hv, h => by
    rw [tk] at h
    cases hl : l[k]? with
    | none => rw [hl] at h; simp at h
    | some c =>
      rw [hl] at h
      simp only at h
      have hlen : k < l.length := (List.getElem?_eq_some_iff.1 hl).1
      have hc : c.toNat < 256 := UInt8.toNat_lt _
      split at h
      · simp at h
      · split at h
        · simp at h
        · rename_i h1 h2
          have hmul := mul_in hv (by omega) hc (by omega)
          have hpos : 0 < 128 ^ k := Nat.pow_pos (by decide)
          split at h
          · rename_i h3
            have hm : c.toNat % 128 = c.toNat := Nat.mod_eq_of_lt h3
            rw [hm] at h hmul
            simp only [Prod.mk.injEq] at h
            obtain ⟨rfl, rfl, _⟩ := h
            have hdiv : (v + c.toNat * 128 ^ k) / 128 ^ k = c.toNat := by
              rw [Nat.add_mul_div_right _ _ hpos, Nat.div_eq_of_lt hv, Nat.zero_add]
            have hzn : zn (v + c.toNat * 128 ^ k) = k + 1 := by
              refine zn_eq hmul.2 ?_
              by_cases hk0 : k = 0
              · exact .inl hk0
              · right
                have : 1 * 128 ^ k ≤ c.toNat * 128 ^ k := Nat.mul_le_mul_right _ (by omega)
                omega
            refine ⟨by omega, by omega, by rw [Nat.add_mul_mod_self_right, Nat.mod_eq_of_lt hv], hzn, fun i hi1 hi2 => ?_⟩
            obtain rfl : i = k := by omega
            rw [hl]
            congr 1
            apply UInt8.toNat_inj.1
            rw [zbyte_toNat_last rfl, hdiv, hm]
          · rename_i h3
            obtain ⟨h4, h5, h6, h7, h8⟩ := tk_back l f (k + 1) _ u n (by omega) hmul.2 h
            have h9 : u % 128 ^ k = v := by
              have := congrArg (fun x => x % 128 ^ k) h6
              rw [Nat.pow_succ, Nat.mod_mul_right_mod, Nat.add_mul_mod_self_right, Nat.mod_eq_of_lt hv] at this
              exact this
            refine ⟨by omega, h5, h9, h7, fun i hi1 hi2 => ?_⟩
            by_cases hik : i = k
            · subst hik
              rw [hl]
              congr 1
              apply UInt8.toNat_inj.1
              rw [zbyte_toNat_more (by omega)]
              have h10 := digit_join u i
              rw [h9, h6] at h10
              have h11 : u / 128 ^ i % 128 = c.toNat % 128 := Nat.eq_of_mul_eq_mul_right hpos (by omega)
              omega
            · exact h8 i (by omega) hi2
theorem tk_bytes {l : List UInt8} {u n : Nat} (h : tk l 10 0 0 = (u, n, 0)) : n ≤ l.length ∧ l.take n = zb u := by
  obtain ⟨_, h2, _, h4, h5⟩ := tk_back l 10 0 0 u n rfl (by decide) h
  refine ⟨h2, List.ext_getElem? fun i => ?_⟩
  by_cases hi : i < n
  · rw [List.getElem?_take, if_pos hi, h5 i (by omega) hi, zb_get u (by omega), h4]
  · rw [List.getElem?_eq_none (by rw [List.length_take]; omega), List.getElem?_eq_none (by rw [zb_length]; omega)]
end Go.Proofs.YtaaooafcijdbmaaDoor
namespace Go.Proofs.YtaaooafcijdbmaaDoor.K
open Go.RowKit Go.Lib
/-! ### doubles -/
theorem ford_self (n : Nat) : FloatKind.f64.format.order n n = if 9218868437227405312 < n % 9223372036854775808 then none else some .eq := by
  show (Ieee.double.read n).order (Ieee.double.read n) = _
  have e1 : Ieee.double.signWeight = 9223372036854775808 := by decide
  have e2 : Ieee.double.infRung = 9218868437227405312 := by decide
  have e3 : Ieee.double.binade = 4503599627370496 := by decide
  have hc : ∀ a : Int, compare a a = .eq := fun a => by simp [compare, compareOfLessAndEq]
  unfold Ieee.Format.read
  simp only [e1, e2, e3]
  by_cases h1 : n % 9223372036854775808 < 4503599627370496
  · rw [if_pos h1, if_neg (by omega)]; simp only [Ieee.Datum.order]; rw [hc]
  · rw [if_neg h1]
    by_cases h2 : n % 9223372036854775808 < 9218868437227405312
    · rw [if_pos h2, if_neg (by omega)]; simp only [Ieee.Datum.order]; rw [hc]
    · rw [if_neg h2]
      by_cases h3 : n % 9223372036854775808 = 9218868437227405312
      · rw [if_pos h3, if_neg (by omega)]
        simp only [Ieee.Datum.order]
        simp [compare, compareOfLessAndEq]
      · rw [if_neg h3, if_pos (by omega)]; rfl
theorem fne_self (n : Nat) : fne n n = decide (9218868437227405312 < n % 9223372036854775808) := by
  unfold fne
  rw [ford_self]
  by_cases h : 9218868437227405312 < n % 9223372036854775808
  · rw [if_pos h, decide_eq_true h]; rfl
  · rw [if_neg h, decide_eq_false h]; rfl
def nan (n : Int) : Bool := decide ((n / 4503599627370496) % 2048 = 2047) && decide (n % 4503599627370496 ≠ 0)
def clean (n : Int) : Int := if nan n = true then 9221120237041090560 else n
def u64B (n : Int) : Prop := 0 ≤ n ∧ n ≤ 18446744073709551615
theorem clean_ok {n : Int} (h : u64B n) : m_real_Clean n = some (clean n) := by
  unfold m_real_Clean m_real_of clean
  obtain ⟨h1, h2⟩ := h
  rw [obind_some, fne_self]
  have : decide (9218868437227405312 < n.toNat % 9223372036854775808) = nan n := by
    unfold nan
    rw [Bool.eq_iff_iff]
    simp only [Bool.and_eq_true, decide_eq_true_eq]
    omega
  rw [this]
  cases nan n <;> rfl
theorem exp3 {n : Int} (h : u64B n) : m_r03_Exp n = some ((n / 4503599627370496) % 2048) := by
  unfold m_r03_Exp
  obtain ⟨h1, h2⟩ := h
  rw [Int.tdiv_eq_ediv_of_nonneg h1, wu64, Int.emod_eq_of_lt (by omega) (by omega), Int.tmod_eq_emod_of_nonneg (by omega), w64 (by omega) (by omega)]
theorem frac3 {n : Int} (h : u64B n) : m_r03_Frac n = some (n % 4503599627370496) := by
  unfold m_r03_Frac
  rw [Int.tmod_eq_emod_of_nonneg h.1]
theorem rclean_ok {n : Int} (h : u64B n) : m_r03_Clean n = some (clean n) := by
  have hk : ∃ k : UInt8, m_r03_Kind n = some k ∧ decide (((k.toNat : Nat) : Int) = 5) = nan n := by
    have hj : ∃ k : UInt8, m_r03_Kind_j1 n = some k ∧ ((k.toNat : Nat) : Int) ≠ 5 := by
      unfold m_r03_Kind_j1
      rw [exp3 h, frac3 h]
      simp only [obind_some]
      cases decide ((n / 4503599627370496) % 2048 = 2047)
      · cases decide ((n / 4503599627370496) % 2048 ≠ 0)
        · cases decide (n % 4503599627370496 ≠ 0)
          · exact ⟨_, rfl, by decide⟩
          · exact ⟨_, rfl, by decide⟩
        · exact ⟨_, rfl, by decide⟩
      · exact ⟨_, rfl, by decide⟩
    obtain ⟨k, hk, hn⟩ := hj
    unfold m_r03_Kind nan
    rw [exp3 h, frac3 h]
    simp only [obind_some]
    rw [hk]
    cases decide ((n / 4503599627370496) % 2048 = 2047)
    · exact ⟨k, rfl, by simpa using hn⟩
    · cases decide (n % 4503599627370496 ≠ 0)
      · exact ⟨k, rfl, by simpa using hn⟩
      · exact ⟨_, rfl, by decide⟩
  obtain ⟨k, e, q⟩ := hk
  unfold m_r03_Clean clean
  rw [e, obind_some, q]
  cases nan n <;> rfl
/-! ### may it be? -/
theorem natbeq (a b : Nat) : Nat.beq a b = decide (a = b) := by
  cases h : Nat.beq a b with
  | true => rw [decide_eq_true (Nat.eq_of_beq_eq_true h)]
  | false => rw [decide_eq_false (Nat.ne_of_beq_eq_false h)]
def chkV (v : GValue) : Int :=
  if v.Kind.toNat = 1 then (if v.N < -4611686018427387904 ∨ 4611686018427387904 < v.N then 8 else if v.Bits = 0 ∧ v.Text = [] then 0 else 2)
  else if v.Kind.toNat = 2 then (if v.N < 0 ∨ 1 < v.N then 8 else if v.Bits = 0 ∧ v.Text = [] then 0 else 2)
  else if v.Kind.toNat = 3 then (if clean v.Bits ≠ v.Bits then 4 else if v.N = 0 ∧ v.Text = [] then 0 else 2)
  else if v.Kind.toNat = 4 then (if 24 < v.Text.length then 5 else if v.N = 0 ∧ v.Bits = 0 then 0 else 2)
  else 11
theorem check_ok {v : GValue} (hb : u64B v.Bits) : m_value_Check v = some (chkV v) := by
  obtain ⟨k, n, b, t⟩ := v
  simp only at hb
  unfold m_value_Check m_value_core chkV
  simp only
  by_cases h1 : k.toNat = 1
  · rw [decide_eq_true (by omega), if_pos h1, cond_true, obind_some]
    unfold m_value_Check_j9 m_value_Check_j11 m_value_number_whole
    rw [show tasI .i64 _ (Value.iface _ (.int .i64 n)) = some (n, true) from rfl, obind_some]
    simp only [isT, inI, Nat.beq_refl, cond_true, decide_true, obind_some]
    by_cases h2 : n < -4611686018427387904
    · simp [h2]
    · by_cases h3 : 4611686018427387904 < n
      · simp [h2, h3]
      · have : ((1 : UInt8).toNat : Int) = ((k.toNat : Nat) : Int) := by rw [h1]; rfl
        by_cases h4 : b = 0
        · by_cases h5 : t = []
          · simp [h2, h3, h4, h5, h1]
          · simp [h2, h3, h4, h5, h1, Ne.symm h5]
        · simp [h2, h3, h4, h1, Ne.symm h4]
  · rw [decide_eq_false (by omega), if_neg h1, cond_false]
    by_cases h2 : k.toNat = 2
    · rw [decide_eq_true (by omega), if_pos h2, cond_true, obind_some]
      unfold m_value_Check_j9 m_value_Check_j11 m_value_flag_whole
      rw [show tasI .i64 _ (Value.iface _ (.int .i64 n)) = some (0, false) from rfl, obind_some, cond_false, show tasI .i64 _ (Value.iface _ (.int .i64 n)) = some (n, true) from rfl, obind_some]
      simp only [isT, natbeq, inI, cond_true, decide_true, obind_some]
      by_cases h3 : n < 0
      · rw [decide_eq_true (by omega), cond_true, decide_eq_true (by omega), cond_true, if_pos (.inl h3)]
      · by_cases h4 : 1 < n
        · rw [decide_eq_true (by omega), cond_true, decide_eq_true (by omega), cond_true, if_pos (.inr h4)]
        · rw [if_neg (by omega)]
          have hn : n = 0 ∨ n = 1 := by omega
          by_cases h5 : b = 0
          · by_cases h6 : t = []
            · rcases hn with rfl | rfl <;> simp [h5, h6, h2]
            · rcases hn with rfl | rfl <;> simp [h5, h6, h2, Ne.symm h6]
          · rcases hn with rfl | rfl <;> simp [h5, h2, Ne.symm h5]
    · rw [decide_eq_false (by omega), if_neg h2, cond_false]
      by_cases h3 : k.toNat = 3
      · rw [decide_eq_true (by omega), if_pos h3, cond_true, obind_some]
        unfold m_value_Check_j9 m_value_Check_j11 m_value_double_whole
        rw [show tasI .i64 _ (Value.iface _ (.int .u64 b)) = some (0, false) from rfl, obind_some, cond_false, show tasI .i64 _ (Value.iface _ (.int .u64 b)) = some (0, false) from rfl, obind_some, cond_false, show tasI .u64 _ (Value.iface _ (.int .u64 b)) = some (b, true) from rfl, obind_some, cond_true, clean_ok hb, obind_some]
        simp only [isT, natbeq, inI, decide_true, obind_some]
        by_cases h4 : clean b = b
        · rw [decide_eq_false (by simp [h4]), cond_false, if_neg (by simp [h4])]
          by_cases h5 : n = 0
          · by_cases h6 : t = []
            · simp [h5, h6, h3]
            · simp [h5, h6, h3, Ne.symm h6]
          · simp [h5, h3, Ne.symm h5]
        · rw [decide_eq_true h4, cond_true, if_pos h4]
      · rw [decide_eq_false (by omega), if_neg h3, cond_false]
        by_cases h4 : k.toNat = 4
        · rw [decide_eq_true (by omega), if_pos h4, cond_true, obind_some]
          unfold m_value_Check_j9 m_value_Check_j11 m_value_words_whole
          rw [show tasI .i64 _ (Value.iface _ (.string (toS t))) = some (0, false) from rfl, obind_some, cond_false, show tasI .i64 _ (Value.iface _ (.string (toS t))) = some (0, false) from rfl, obind_some, cond_false, show tasI .u64 _ (Value.iface _ (.string (toS t))) = some (0, false) from rfl, obind_some, cond_false, show tasS _ (Value.iface _ (.string (toS t))) = some (t, true) from rfl, obind_some, cond_true]
          simp only [isT, natbeq]
          rw [show inS (Value.iface _ (.string (toS t))) = some t from rfl, obind_some, obind_some, obind_some]
          by_cases h5 : 24 < t.length
          · rw [d_lt (by omega), cond_true, if_pos h5]
          · rw [d_nlt (by omega), cond_false, if_neg h5]
            by_cases h6 : n = 0
            · by_cases h7 : b = 0
              · simp [h6, h7, h4]
              · simp [h6, h7, h4, Ne.symm h7]
            · simp [h6, h4, Ne.symm h6]
        · rw [decide_eq_false (by omega), if_neg h4, cond_false]; rfl
theorem rcheck_ok {v : GValue} (hb : u64B v.Bits) : m_r04_Check v = some (chkV v) := by
  obtain ⟨k, n, b, t⟩ := v
  simp only at hb
  unfold m_r04_Check m_r04_Check_j2 m_r04_Check_j3 m_r04_Check_j4 m_r04_Check_j5 m_r04_Check_j7 m_r04_Check_j9 m_r04_Check_j11 m_r04_Check_j12 m_r04_Check_j13 chkV
  simp only [rclean_ok hb, obind_some]
  have hk : k.toNat = 1 ∨ k.toNat = 2 ∨ k.toNat = 3 ∨ k.toNat = 4 ∨ (k.toNat < 1 ∨ 4 < k.toNat) := by omega
  rcases hk with h | h | h | h | h
  · simp only [h]
    by_cases h2 : n < -4611686018427387904
    · simp [h2]
    · by_cases h3 : 4611686018427387904 < n
      · simp [h2, h3]
      · by_cases h4 : b = 0 <;> by_cases h5 : t = [] <;> simp [h2, h3, h4, h5]
  · simp only [h]
    by_cases h2 : n < 0
    · simp [h2]
    · by_cases h3 : 1 < n
      · simp [h2, h3]
      · by_cases h4 : b = 0 <;> by_cases h5 : t = [] <;> simp [h2, h3, h4, h5]
  · simp only [h]
    by_cases h2 : clean b = b
    · by_cases h4 : n = 0 <;> by_cases h5 : t = [] <;> simp [h2, h4, h5]
    · simp [h2]
  · simp only [h]
    by_cases h2 : 24 < t.length
    · have : (24 : Int) < (t.length : Int) := by omega
      simp [h2, this]
    · have : ¬ (24 : Int) < (t.length : Int) := by omega
      by_cases h4 : n = 0 <;> by_cases h5 : b = 0 <;> simp [h2, this, h4, h5]
  · rw [if_neg (by omega), if_neg (by omega), if_neg (by omega), if_neg (by omega)]
    rcases h with h | h
    · rw [d_lt (by omega), cond_true]
    · rw [d_nlt (by omega), cond_false, d_lt (by omega), cond_true]
end Go.Proofs.YtaaooafcijdbmaaDoor.K
namespace Go.Proofs.YtaaooafcijdbmaaDoor.K
open Go.RowKit Go.Lib
theorem not128 (x : UInt8) : toU8 (((BitVec.ofInt 8 ((x.toNat : Nat) : Int) &&& ~~~ BitVec.ofInt 8 128).toNat : Nat) : Int) = UInt8.ofNat (x.toNat % 128) := by
  have : ∀ k : Fin 256, toU8 (((BitVec.ofInt 8 ((k.val : Nat) : Int) &&& ~~~ BitVec.ofInt 8 128).toNat : Nat) : Int) = UInt8.ofNat (k.val % 128) := by decide +kernel
  exact this ⟨x.toNat, x.toNat_lt⟩
theorem toU8_nat (n : Nat) : (toU8 (n : Int)).toNat = n % 256 := by unfold toU8; rw [UInt8.toNat_ofNat']; omega
/-! ### the document's -/
/-! ### folding -/
end Go.Proofs.YtaaooafcijdbmaaDoor.K
namespace Go.Proofs.YtaaooafcijdbmaaDoor.K
open Go.RowKit Go.Lib
def ztkI (r : Nat × Nat × Nat) : Int × Int × Int := ((r.1 : Int), (r.2.1 : Int), (r.2.2 : Int))
theorem orB {a b : Nat} (ha : a < 18446744073709551616) (hb : b < 18446744073709551616) : IntKind.u64.wrap (((BitVec.ofInt 64 (a : Int) ||| BitVec.ofInt 64 (b : Int)).toNat : Nat) : Int) = ((a ||| b : Nat) : Int) := by
  rw [BitVec.toNat_or, BitVec.toNat_ofInt, BitVec.toNat_ofInt, wu64]
  have e1 : ((a : Int) % ((2 ^ 64 : Nat) : Int)).toNat = a := by omega
  have e2 : ((b : Int) % ((2 ^ 64 : Nat) : Int)).toNat = b := by omega
  rw [e1, e2]
  have := Nat.or_lt_two_pow (n := 64) ha hb
  omega
theorem or_step {u i c : Nat} (hu : u < 128 ^ i) (h : u + c % 128 * 128 ^ i < 18446744073709551616) : u ||| (c % 128 * 128 ^ i) = u + c % 128 * 128 ^ i := by
  have e : (128 : Nat) ^ i = 2 ^ (7 * i) := by rw [Nat.pow_mul]
  rw [e] at hu ⊢
  rw [Nat.or_comm, Nat.mul_comm, ← Nat.two_pow_add_eq_or_of_lt hu, Nat.add_comm]
theorem not128i (x : UInt8) : (((toU8 (((BitVec.ofInt 8 ((x.toNat : Nat) : Int) &&& ~~~ BitVec.ofInt 8 128).toNat : Nat) : Int)).toNat : Nat) : Int) = ((x.toNat % 128 : Nat) : Int) := by
  rw [not128, UInt8.toNat_ofNat']; omega
theorem pow7 (i : Nat) : (2 : Int) ^ (Int.toNat ((7 * i : Nat) : Int)) = ((128 ^ i : Nat) : Int) := by
  rw [Int.toNat_natCast, show (128 : Nat) ^ i = 2 ^ (7 * i) by rw [Nat.pow_mul], Int.natCast_pow]; rfl
theorem take_jmp {X : Option (Int × Int × Int)} {i c : Nat} (b : Bool) : cond b (cond (decide ((1 : Int) < (c : Int))) (some ((0 : Int), (0 : Int), (8 : Int))) (cond (decide ((0 : Int) < (i : Int))) (cond (decide ((c : Int) = 0)) (some (0, 0, 4)) X) X)) (cond (decide ((0 : Int) < (i : Int))) (cond (decide ((c : Int) = 0)) (some (0, 0, 4)) X) X) = if b = true ∧ 1 < c then some (0, 0, 8) else if 0 < i ∧ c = 0 then some (0, 0, 4) else X := by
  have e1 : decide ((1 : Int) < (c : Int)) = decide (1 < c) := decide_eq_decide.2 (by omega)
  have e2 : decide ((0 : Int) < (i : Int)) = decide (0 < i) := decide_eq_decide.2 (by omega)
  have e3 : decide ((c : Int) = 0) = decide (c = 0) := decide_eq_decide.2 (by omega)
  rw [e1, e2, e3]
  by_cases h1 : 1 < c <;> by_cases h2 : 0 < i <;> by_cases h3 : c = 0 <;> cases b <;> simp [h1, h2, h3] <;> omega
theorem rtake_jmp {X : Option (Int × Int × Int)} {i c : Nat} (b : Bool) : cond b (cond (decide ((1 : Int) < (c : Int))) (some ((0 : Int), (0 : Int), (8 : Int))) (cond (decide ((c : Int) = 0)) (cond (decide ((0 : Int) < (i : Int))) (some (0, 0, 4)) X) X)) (cond (decide ((c : Int) = 0)) (cond (decide ((0 : Int) < (i : Int))) (some (0, 0, 4)) X) X) = if b = true ∧ 1 < c then some (0, 0, 8) else if 0 < i ∧ c = 0 then some (0, 0, 4) else X := by
  have e1 : decide ((1 : Int) < (c : Int)) = decide (1 < c) := decide_eq_decide.2 (by omega)
  have e2 : decide ((0 : Int) < (i : Int)) = decide (0 < i) := decide_eq_decide.2 (by omega)
  have e3 : decide ((c : Int) = 0) = decide (c = 0) := decide_eq_decide.2 (by omega)
  rw [e1, e2, e3]
  by_cases h1 : 1 < c <;> by_cases h2 : 0 < i <;> by_cases h3 : c = 0 <;> cases b <;> simp [h1, h2, h3] <;> omega
theorem take_l {l : List UInt8} {p : Nat} (hl : l.length ≤ 1000000) (hp : p ≤ l.length) : ∀ (f fu i u : Nat), f + i = 10 → f < fu → u < 128 ^ i → m_zig_Take_l1 l (p : Int) fu (u : Int) (i : Int) = some (ztkI (zgo l p (tk (l.drop p) f i u)))
  | f, 0, _, _, _, h, _ => by omega
  | 0, fu + 1, i, u, h, _, hu => by
    unfold m_zig_Take_l1
    rw [d_nlt (by omega), cond_false]; rfl
  | f + 1, fu + 1, i, u, h, hf, hu => by
    unfold m_zig_Take_l1 m_zig_Take_j6 m_zig_Take_j8
    rw [d_lt (by omega), cond_true, w64 (n := (p : Int) + i) (by omega) (by omega), show (p : Int) + (i : Int) = ((p + i : Nat) : Int) by omega, tk, List.getElem?_drop]
    by_cases hlen : p + i < l.length
    · rw [decide_eq_false (by omega), cond_false, geti_lt hlen, obind_some, List.getElem?_eq_getElem hlen]
      have hc := UInt8.toNat_lt l[p + i]
      simp only
      rw [not128i]
      generalize l[p + i].toNat = c at hc
      rw [obind_some, w64 (n := 7 * (i : Int)) (by omega) (by omega), show 7 * (i : Int) = ((7 * i : Nat) : Int) by omega, chk_ok (by omega), pow7, w64 (n := ((p + i : Nat) : Int) + 1) (by omega) (by omega), inc_ok (by omega)]
      by_cases h9 : i = 9 ∧ 1 < c
      · rw [decide_eq_true (p := (i : Int) = 9) (by omega), cond_true, d_lt (by omega), cond_true, if_pos h9]; rfl
      · have key : m_zig_Take_l1 l (p : Int) fu (u : Int) (i : Int) = m_zig_Take_l1 l (p : Int) fu (u : Int) (i : Int) := rfl
        have hm := mul_in (c := c) hu (by omega) (by omega) (fun h => by have : ¬ 1 < c := fun h' => h9 ⟨h, h'⟩; omega)
        rw [if_neg h9]
        have hw : IntKind.u64.wrap (((c % 128 : Nat) : Int) * ((128 ^ i : Nat) : Int)) = ((c % 128 * 128 ^ i : Nat) : Int) := by
          rw [wu64, ← Int.natCast_mul]; omega
        rw [hw, orB (by omega) (by omega), or_step hu hm.1, obind_some]
        have fin : (cond (decide ((c : Int) < 128)) (some (((u + c % 128 * 128 ^ i : Nat) : Int), ((p + i : Nat) : Int) + 1, 0)) (m_zig_Take_l1 l (p : Int) fu ((u + c % 128 * 128 ^ i : Nat) : Int) ((i + 1 : Nat) : Int))) = some (ztkI (zgo l p (if c < 128 then (u + c % 128 * 128 ^ i, i + 1, 0) else tk (l.drop p) f (i + 1) (u + c % 128 * 128 ^ i)))) := by
          by_cases hc2 : c < 128
          · rw [d_lt (by omega), cond_true, if_pos hc2]
            unfold zgo ztkI
            simp only
            rw [if_pos trivial]
            congr 3
          · rw [d_nlt (by omega), cond_false, if_neg hc2, take_l hl hp f fu (i + 1) _ (by omega) (by omega) hm.2]
        rw [fin, take_jmp, if_neg (by
          intro hh
          exact h9 ⟨by have := of_decide_eq_true hh.1; omega, hh.2⟩)]
        by_cases hz : 0 < i ∧ c = 0
        · rw [if_pos hz, if_pos hz]; rfl
        · rw [if_neg hz, if_neg hz]
    · rw [decide_eq_true (by omega), cond_true, List.getElem?_eq_none (by omega)]; rfl
theorem take_ok {l : List UInt8} (hl : l.length ≤ 1000000) (a : Int) : m_zig_Take l a = some (ztkI (ztk l a)) := by
  unfold m_zig_Take ztk
  by_cases h1 : a < 0
  · rw [d_lt h1, if_pos (.inl h1)]; rfl
  · rw [d_nlt h1, cond_false]
    by_cases h2 : (l.length : Int) < a
    · rw [d_lt h2, if_pos (.inr h2)]; rfl
    · rw [d_nlt h2, cond_false, if_neg (by omega)]
      have := take_l (p := a.toNat) hl (by omega) 10 1152921504606846976 0 0 rfl (by omega) (by decide)
      rw [show ((a.toNat : Nat) : Int) = a by omega] at this
      exact this
theorem rtake_l {l : List UInt8} {p : Nat} (hl : l.length ≤ 1000000) (hp : p ≤ l.length) : ∀ (f fu i u : Nat) (m : Int), f + i = 10 → f < fu → u < 128 ^ i → (i < 10 → m = ((128 ^ i : Nat) : Int)) → m_r02_Take_l1 l (p : Int) fu (u : Int) m (i : Int) = some (ztkI (zgo l p (tk (l.drop p) f i u)))
  | f, 0, _, _, _, _, h, _, _ => by omega
  | 0, fu + 1, i, u, m, h, _, hu, _ => by
    unfold m_r02_Take_l1
    rw [d_nlt (by omega), cond_false]; rfl
  | f + 1, fu + 1, i, u, m, h, hf, hu, hm0 => by
    unfold m_r02_Take_l1 m_r02_Take_j8 m_r02_Take_j9
    have hmm := hm0 (by omega)
    rw [d_lt (by omega), cond_true, w64 (n := (l.length : Int) - p) (by omega) (by omega), w64 (n := (p : Int) + i) (by omega) (by omega), show (p : Int) + (i : Int) = ((p + i : Nat) : Int) by omega, tk, List.getElem?_drop]
    by_cases hlen : p + i < l.length
    · rw [decide_eq_false (by omega), cond_false, geti_lt hlen, obind_some, List.getElem?_eq_getElem hlen]
      have hc := UInt8.toNat_lt l[p + i]
      simp only
      generalize l[p + i].toNat = c at hc
      rw [obind_some, w64 (n := ((p + i : Nat) : Int) + 1) (by omega) (by omega), inc_ok (by omega), Int.tmod_eq_emod_of_nonneg (by omega), hmm]
      by_cases h9 : i = 9 ∧ 1 < c
      · rw [decide_eq_true (p := (i : Int) = 9) (by omega), cond_true, d_lt (by omega), cond_true, if_pos h9]; rfl
      · have hm := mul_in (c := c) hu (by omega) (by omega) (fun h => by have : ¬ 1 < c := fun h' => h9 ⟨h, h'⟩; omega)
        rw [if_neg h9]
        have hw : IntKind.u64.wrap ((u : Int) + IntKind.u64.wrap (IntKind.u64.wrap ((c : Int) % 128) * ((128 ^ i : Nat) : Int))) = ((u + c % 128 * 128 ^ i : Nat) : Int) := by
          have e : IntKind.u64.wrap ((c : Int) % 128) = ((c % 128 : Nat) : Int) := by rw [wu64]; omega
          rw [e, wu64, wu64, ← Int.natCast_mul]; omega
        rw [hw]
        have fin : (cond (decide ((c : Int) < 128)) (some (((u + c % 128 * 128 ^ i : Nat) : Int), ((p + i : Nat) : Int) + 1, 0)) (m_r02_Take_l1 l (p : Int) fu ((u + c % 128 * 128 ^ i : Nat) : Int) (IntKind.u64.wrap (((128 ^ i : Nat) : Int) * 128)) ((i + 1 : Nat) : Int))) = some (ztkI (zgo l p (if c < 128 then (u + c % 128 * 128 ^ i, i + 1, 0) else tk (l.drop p) f (i + 1) (u + c % 128 * 128 ^ i)))) := by
          by_cases hc2 : c < 128
          · rw [d_lt (by omega), cond_true, if_pos hc2]
            unfold zgo ztkI
            simp only
            rw [if_pos trivial]
            congr 3
          · rw [d_nlt (by omega), cond_false, if_neg hc2, rtake_l hl hp f fu (i + 1) _ _ (by omega) (by omega) hm.2 (fun h10 => by
              have h8 : (128 : Nat) ^ i ≤ 128 ^ 8 := Nat.pow_le_pow_right (by decide) (by omega)
              have e8 : (128 : Nat) ^ 8 = 72057594037927936 := by decide
              rw [wu64, Nat.pow_succ]; omega)]
        rw [fin, rtake_jmp, if_neg (by
          intro hh
          exact h9 ⟨by have := of_decide_eq_true hh.1; omega, hh.2⟩)]
        by_cases hz : 0 < i ∧ c = 0
        · rw [if_pos hz, if_pos hz]; rfl
        · rw [if_neg hz, if_neg hz]
    · rw [decide_eq_true (by omega), cond_true, List.getElem?_eq_none (by omega)]; rfl
theorem rtake_ok {l : List UInt8} (hl : l.length ≤ 1000000) (a : Int) : m_r02_Take l a = some (ztkI (ztk l a)) := by
  unfold m_r02_Take ztk
  by_cases h1 : a < 0
  · rw [d_lt h1, if_pos (.inl h1)]; rfl
  · rw [d_nlt h1, cond_false]
    by_cases h2 : (l.length : Int) < a
    · rw [d_lt h2, if_pos (.inr h2)]; rfl
    · rw [d_nlt h2, cond_false, if_neg (by omega)]
      have := rtake_l (p := a.toNat) hl (by omega) 10 1152921504606846976 0 0 1 rfl (by omega) (by decide) (fun _ => rfl)
      rw [show ((a.toNat : Nat) : Int) = a by omega] at this
      exact this
/-! ### unfolding -/
theorem back_ok' {u : Nat} (h : u < 18446744073709551616) : m_zig_Back (u : Int) = some (zback u) := by
  unfold m_zig_Back zback
  rw [obind_some, obind_some, Int.fdiv_eq_ediv_of_nonneg _ (by decide), show (2 : Int) ^ 1 = 2 from rfl, show (u : Int) / 2 = ((u / 2 : Nat) : Int) by omega]
  have e1 : (BitVec.ofInt 64 (u : Int) &&& BitVec.ofInt 64 1).toNat = u % 2 := by
    rw [BitVec.toNat_and, BitVec.toNat_ofInt, BitVec.toNat_ofInt]
    have : ((u : Int) % ((2 ^ 64 : Nat) : Int)).toNat = u := by omega
    rw [this]
    exact Nat.and_one_is_mod u
  rw [e1, wu64, w64 (n := ((u / 2 : Nat) : Int)) (by omega) (by omega)]
  by_cases h2 : u % 2 = 1
  · rw [if_pos h2, h2]
    rw [show IntKind.i64.wrap (0 - IntKind.i64.wrap (((1 : Nat) : Int) % 18446744073709551616)) = -1 by decide, show BitVec.ofInt 64 (-1) = BitVec.allOnes 64 by decide, BitVec.xor_allOnes, BitVec.toNat_not, BitVec.toNat_ofInt]
    have : (((u / 2 : Nat) : Int) % ((2 ^ 64 : Nat) : Int)).toNat = u / 2 := by omega
    rw [this]
    congr 1
    simp [IntKind.wrap, IntKind.signed, IntKind.bits]
    omega
  · rw [if_neg h2, show u % 2 = 0 by omega]
    rw [show IntKind.i64.wrap (0 - IntKind.i64.wrap (((0 : Nat) : Int) % 18446744073709551616)) = 0 by decide, show BitVec.ofInt 64 0 = 0#64 by decide, BitVec.xor_zero, BitVec.toNat_ofInt]
    have : (((u / 2 : Nat) : Int) % ((2 ^ 64 : Nat) : Int)).toNat = u / 2 := by omega
    rw [this, w64 (by omega) (by omega)]
theorem rback_ok {u : Nat} (h : u < 18446744073709551616) : m_r02_Back (u : Int) = some (zback u) := by
  unfold m_r02_Back zback
  have e : IntKind.u64.wrap ((u / 2 : Nat) : Int) = ((u / 2 : Nat) : Int) := by rw [wu64]; omega
  rw [Int.tmod_eq_emod_of_nonneg (by omega), Int.tdiv_eq_ediv_of_nonneg (by omega), show (u : Int) / 2 = ((u / 2 : Nat) : Int) by omega, e, w64 (n := ((u / 2 : Nat) : Int)) (by omega) (by omega)]
  by_cases h2 : u % 2 = 1
  · rw [if_pos h2, decide_eq_true (by omega), cond_true, w64 (n := 0 - ((u / 2 : Nat) : Int)) (by omega) (by omega), w64 (by omega) (by omega)]
    congr 1; omega
  · rw [if_neg h2, decide_eq_false (by omega), cond_false]
theorem takeint_ok {l : List UInt8} (hl : l.length ≤ 1000000) (a : Int) : m_zig_TakeInt l a = some (zback (ztk l a).1, (((ztk l a).2.1 : Nat) : Int), (((ztk l a).2.2 : Nat) : Int)) := by
  unfold m_zig_TakeInt
  rw [take_ok hl, obind_some]
  unfold ztkI
  simp only
  rw [back_ok' (ztk_lt l a), obind_some]
end Go.Proofs.YtaaooafcijdbmaaDoor.K
namespace Go.Proofs.YtaaooafcijdbmaaDoor.K
open Go.RowKit Go.Lib
/-- A number's k bytes, the highest first. -/
def beB : Nat → Nat → List UInt8
  | 0, _ => []
  | k + 1, u => beB k (u / 256) ++ [UInt8.ofNat (u % 256)]
/-- A value's bytes. -/
def bytesV (v : GValue) : List UInt8 :=
  if v.Kind.toNat = 1 then zb (zfold v.N) else if v.Kind.toNat = 2 then [toU8 v.N] else if v.Kind.toNat = 3 then beB 8 v.Bits.toNat else zb v.Text.length ++ v.Text
structure okB (v : GValue) : Prop where
  N : -9223372036854775808 ≤ v.N ∧ v.N ≤ 9223372036854775807
  B : u64B v.Bits
  T : v.Text.length ≤ 1000
end Go.Proofs.YtaaooafcijdbmaaDoor.K
namespace Go.Proofs.YtaaooafcijdbmaaDoor.K
open Go.RowKit Go.Lib
def beN : Nat → List UInt8 → Nat
  | a, [] => a
  | a, x :: l => beN (a * 256 + x.toNat) l
theorem or_byte {a c : Nat} (ha : a < 72057594037927936) (hc : c < 256) : IntKind.u64.wrap (((BitVec.ofInt 64 (IntKind.u64.wrap ((a : Int) * 2 ^ 8)) ||| BitVec.ofInt 64 ((c : Nat) : Int)).toNat : Nat) : Int) = ((a * 256 + c : Nat) : Int) := by
  have e : IntKind.u64.wrap ((a : Int) * 2 ^ 8) = ((2 ^ 8 * a : Nat) : Int) := by rw [wu64, show (2 : Int) ^ 8 = 256 from rfl]; omega
  rw [e, orB (by omega) (by omega), ← Nat.two_pow_add_eq_or_of_lt (i := 8) (by omega)]
  congr 1; omega
theorem pow256 {i : Nat} (h : i ≤ 7) : (256 : Nat) ^ i ≤ 72057594037927936 := by
  have := Nat.pow_le_pow_right (n := 256) (by decide) h
  have e : (256 : Nat) ^ 7 = 72057594037927936 := by decide
  omega
theorem word_l {g : GReader} {n : Int} {s : List UInt8} (hs : s.length ≤ 8) (h0 : 0 ≤ g.At ∧ g.At ≤ 1000) (hn : 0 ≤ n ∧ n ≤ 1000) : m_octet_Reader_take_l4 g n s 1152921504606846976 0 0 = some (GReader.mk g.Text (g.At + n) g.E, ((beN 0 s : Nat) : Int)) := by
  have := loopG_0 (L := fun fu (u : Nat) i => m_octet_Reader_take_l4 g n s fu (u : Int) i) (n := s.length) (P := fun i u o => u < 256 ^ i → o = some (GReader.mk g.Text (g.At + n) g.E, ((beN u (s.drop i) : Nat) : Int))) (by omega)
    (fun fu u hu => by
      unfold m_octet_Reader_take_l4
      rw [d_nlt (by omega), cond_false, List.drop_of_length_le (Nat.le_refl _), w64 (by omega) (by omega)]; rfl)
    (fun fu u i hi ih hu => by
      unfold m_octet_Reader_take_l4
      have hc := UInt8.toNat_lt s[i]
      have hp := pow256 (show i ≤ 7 by omega)
      have := ih (u * 256 + s[i].toNat) (by rw [Nat.pow_succ]; omega)
      rw [d_lt (by omega), cond_true, geti_lt hi, obind_some, or_byte (by omega) (by omega), obind_some, inc_ok (by omega), this, drop_cons hi]; rfl) 0 (by decide)
  exact this
def rdW (s : List UInt8) : Option Nat := if s.length < 8 then none else some (beN 0 (s.take 8))
def rdG (s : List UInt8) : GReader × Int := match rdW s with
  | none => (GReader.mk s 0 3, 0)
  | some w => (GReader.mk s 8 0, (w : Int))
theorem pword_ok {s : List UInt8} (hs : s.length ≤ 1000000) : m_octet_Reader_Word (GReader.mk s 0 0) = some (rdG s) := by
  unfold m_octet_Reader_Word m_octet_Reader_take m_octet_Reader_Left m_octet_Reader_fail rdG rdW
  simp only
  rw [decide_eq_false (by decide), cond_false, d_nlt (by decide), cond_false, d_nlt (by omega), cond_false, w64 (by omega) (by omega), obind_some, Int.sub_zero]
  by_cases h : s.length < 8
  · rw [d_lt (by omega), cond_true, if_pos h]; rfl
  · have e := cut_ok (l := s) (a := 0) (b := 8) (by omega) (by omega)
    rw [Int.natCast_zero] at e
    rw [d_nlt (by omega), cond_false, if_neg h, show IntKind.i64.wrap (0 + 8) = ((8 : Nat) : Int) by decide, e, obind_some, List.drop_zero, Nat.sub_zero, chk_ok (by simp; omega), word_l (g := GReader.mk s 0 0) (n := 8) (by simp; omega) (by simp) (by decide)]
    rfl
theorem rword_rd {s : List UInt8} (hs : s.length ≤ 1000000) : m_r01_RWord (GReader.mk s 0 0) = some (rdG s) := by
  unfold m_r01_RWord m_r01_rest rdG rdW
  simp only
  have e := cut_ok (l := s) (a := 0) (b := s.length) (by omega) (Nat.le_refl _)
  rw [Int.natCast_zero] at e
  rw [d_nlt (by decide), cond_false, d_nlt (by omega), cond_false, e, obind_some, List.drop_zero, Nat.sub_zero, List.take_of_length_le (Nat.le_refl _), obind_some, decide_eq_false (by decide), cond_false]
  by_cases h : s.length < 8
  · rw [d_lt (by omega), cond_true, if_pos h]
  · rw [d_nlt (by omega), cond_false, if_neg h]
    have := loopG_0 (L := fun fu (u : Nat) i => m_r01_RWord_l2 (GReader.mk s 0 0) s fu (u : Int) i) (n := 8) (P := fun i u o => u < 256 ^ i → o = some (GReader.mk s 8 0, ((beN u ((s.take 8).drop i) : Nat) : Int))) (by omega)
      (fun fu u hu => by
        unfold m_r01_RWord_l2
        rw [d_nlt (by omega), cond_false, List.drop_of_length_le (by simp; omega)]; rfl)
      (fun fu u i hi ih hu => by
        unfold m_r01_RWord_l2
        have hil : i < s.length := by omega
        have hc := UInt8.toNat_lt s[i]
        have hp := pow256 (show i ≤ 7 by omega)
        have := ih (u * 256 + s[i].toNat) (by rw [Nat.pow_succ]; omega)
        have hw : IntKind.u64.wrap (IntKind.u64.wrap ((u : Int) * 256) + ((s[i].toNat : Nat) : Int)) = ((u * 256 + s[i].toNat : Nat) : Int) := by rw [wu64, wu64]; omega
        have ht : (s.take 8).drop i = s[i] :: (s.take 8).drop (i + 1) := by
          have hi2 : i < (s.take 8).length := by simp; omega
          rw [List.drop_eq_getElem_cons hi2, List.getElem_take]
        rw [d_lt (by omega), cond_true, geti_lt hil, obind_some, hw, inc_ok (by omega), this, ht]; rfl) 0 (by decide)
    exact this
theorem beN_lt : ∀ (l : List UInt8) (a k : Nat), a < 256 ^ k → beN a l < 256 ^ (k + l.length)
  | [], a, k, h => h
  | x :: l, a, k, h => by
    have hc := UInt8.toNat_lt x
    have := beN_lt l (a * 256 + x.toNat) (k + 1) (by rw [Nat.pow_succ]; omega)
    rw [show k + (x :: l).length = k + 1 + l.length by simp; omega]
    exact this
theorem rdW_lt {s : List UInt8} {w : Nat} (h : rdW s = some w) : w < 18446744073709551616 := by
  unfold rdW at h
  split at h
  · cases h
  · rename_i hl
    have := beN_lt (s.take 8) 0 0 (by decide)
    rw [show 0 + (s.take 8).length = 8 by simp; omega] at this
    cases h
    exact this
def zeroV : GValue := GValue.mk 0 0 0 []
/-- The body behind the kind, from place a on. -/
def bodyP (k : UInt8) (l : List UInt8) (a : Nat) : GValue × Int × Int :=
  if k.toNat = 1 then (GValue.mk k (zback (ztk l a).1) 0 [], (((ztk l a).2.1 : Nat) : Int), (((ztk l a).2.2 : Nat) : Int))
  else if k.toNat = 2 then (match l[a]? with | none => (GValue.mk k 0 0 [], 0, 3) | some x => (GValue.mk k ((x.toNat : Nat) : Int) 0 [], (a : Int) + 1, 0))
  else if k.toNat = 3 then (match rdW (l.drop a) with | none => (GValue.mk k 0 0 [], (a : Int), 3) | some w => (GValue.mk k 0 (w : Int) [], (a : Int) + 8, 0))
  else if k.toNat = 4 then (if (ztk l a).2.2 ≠ 0 then (GValue.mk k 0 0 [], 0, (((ztk l a).2.2 : Nat) : Int)) else if 24 < (ztk l a).1 then (GValue.mk k 0 0 [], 0, 5) else if l.length < (ztk l a).2.1 + (ztk l a).1 then (GValue.mk k 0 0 [], 0, 3) else (GValue.mk k 0 0 ((l.drop (ztk l a).2.1).take (ztk l a).1), (((ztk l a).2.1 + (ztk l a).1 : Nat) : Int), 0))
  else (GValue.mk k 0 0 [], 0, 11)
theorem tk_place (l : List UInt8) : ∀ (f i u : Nat), (tk l f i u).2.2 = 0 → (tk l f i u).2.1 ≤ l.length
  | 0, _, _, h => by simp [tk] at h
  | f + 1, i, u, h => by
    rw [tk] at h ⊢
    cases hl : l[i]? with
    | none => simp
    | some c =>
      rw [hl] at h
      simp only at h ⊢
      have hi := (List.getElem?_eq_some_iff.1 hl).1
      split
      · simp
      · split
        · simp
        · split
          · simp only; omega
          · rw [if_neg ‹_›, if_neg ‹_›, if_neg ‹_›] at h
            exact tk_place l f _ _ h
theorem ztk_place {l : List UInt8} {a : Nat} (ha : a ≤ l.length) : (ztk l a).2.1 ≤ l.length := by
  unfold ztk
  rw [if_neg (by omega)]
  simp only
  split
  · rename_i h
    have := tk_place _ _ _ _ h
    rw [List.length_drop] at this
    rw [Int.toNat_natCast] at *
    omega
  · omega
theorem body_ok {k : UInt8} {l : List UInt8} {a : Nat} (hl : l.length ≤ 1000000) (ha : a ≤ l.length) : m_value_body k l (a : Int) = some (bodyP k l a) := by
  have hpl := ztk_place (l := l) ha
  unfold m_value_body bodyP
  by_cases k1 : k.toNat = 1
  · rw [decide_eq_true (by omega), cond_true, if_pos k1, takeint_ok hl, obind_some]
  rw [decide_eq_false (by omega), cond_false, if_neg k1]
  by_cases k2 : k.toNat = 2
  · rw [decide_eq_true (by omega), cond_true, if_pos k2]
    by_cases h : a < l.length
    · rw [decide_eq_false (by omega), cond_false, geti_lt h, obind_some, List.getElem?_eq_getElem h, w64 (by omega) (by omega)]
    · rw [decide_eq_true (by omega), cond_true, List.getElem?_eq_none (by omega)]
  rw [decide_eq_false (by omega), cond_false, if_neg k2]
  by_cases k3 : k.toNat = 3
  · rw [decide_eq_true (by omega), cond_true, if_pos k3, cut_ok ha (Nat.le_refl _), obind_some, List.take_of_length_le (by simp)]
    unfold m_octet_Open
    rw [obind_some, pword_ok (by simp; omega), obind_some]
    unfold rdG
    cases rdW (l.drop a) with
    | none => simp only; rw [w64 (by omega) (by omega), Int.add_zero]
    | some w => simp only; rw [w64 (by omega) (by omega)]
  rw [decide_eq_false (by omega), cond_false, if_neg k3]
  by_cases k4 : k.toNat = 4
  · rw [decide_eq_true (by omega), cond_true, if_pos k4, take_ok hl, obind_some]
    unfold ztkI
    simp only
    by_cases c1 : (ztk l a).2.2 = 0
    · rw [decide_eq_false (by omega), cond_false, if_neg (by omega)]
      by_cases c2 : 24 < (ztk l a).1
      · rw [d_lt (by omega), cond_true, if_pos c2]
      · rw [d_nlt (by omega), cond_false, if_neg c2, w64 (n := (((ztk l a).1 : Nat) : Int)) (by omega) (by omega), w64 (n := ((l.length : Nat) : Int) - (((ztk l a).2.1 : Nat) : Int)) (by omega) (by omega)]
        by_cases c3 : l.length < (ztk l a).2.1 + (ztk l a).1
        · rw [d_lt (by omega), cond_true, if_pos c3]
        · rw [d_nlt (by omega), cond_false, if_neg c3, w64 (n := (((ztk l a).2.1 : Nat) : Int) + (((ztk l a).1 : Nat) : Int)) (by omega) (by omega), show (((ztk l a).2.1 : Nat) : Int) + (((ztk l a).1 : Nat) : Int) = (((ztk l a).2.1 + (ztk l a).1 : Nat) : Int) by omega, cut_ok (by omega) (by omega), obind_some, Nat.add_sub_cancel_left]
    · rw [decide_eq_true (by omega), cond_true, if_pos c1]
  · rw [decide_eq_false (by omega), cond_false, if_neg k4]
theorem body_u {k : UInt8} {l : List UInt8} {a : Nat} : u64B (bodyP k l a).1.Bits := by
  unfold bodyP
  split
  · exact ⟨by simp, by simp⟩
  · split
    · split <;> exact ⟨by simp, by simp⟩
    · split
      · split
        · exact ⟨by simp, by simp⟩
        · rename_i w h
          have := rdW_lt h
          exact ⟨by simp only; omega, by simp only; omega⟩
      · split
        · split
          · exact ⟨by simp, by simp⟩
          · split
            · exact ⟨by simp, by simp⟩
            · split <;> exact ⟨by simp, by simp⟩
        · exact ⟨by simp, by simp⟩
def endV (r : GValue × Int × Int) : GValue × Int × Int := if r.2.2 ≠ 0 then (zeroV, 0, r.2.2) else if chkV r.1 ≠ 0 then (zeroV, 0, chkV r.1) else (r.1, r.2.1, 0)
def vtk (l : List UInt8) (a : Int) : GValue × Int × Int :=
  if a < 0 ∨ (l.length : Int) < a then (zeroV, 0, 2) else match l[a.toNat]? with
    | none => (zeroV, 0, 3)
    | some k => endV (bodyP k l (a.toNat + 1))
theorem vtake_ok {l : List UInt8} (hl : l.length ≤ 1000000) (a : Int) : m_value_Take l a = some (vtk l a) := by
  unfold m_value_Take vtk
  by_cases h1 : a < 0
  · rw [d_lt h1, if_pos (.inl h1)]; rfl
  rw [d_nlt h1, cond_false]
  by_cases h2 : (l.length : Int) < a
  · rw [d_lt h2, if_pos (.inr h2)]; rfl
  rw [d_nlt h2, cond_false, if_neg (by omega)]
  obtain ⟨n, rfl⟩ : ∃ n : Nat, a = n := ⟨a.toNat, by omega⟩
  rw [Int.toNat_natCast]
  by_cases h3 : n < l.length
  · rw [decide_eq_false (by omega), cond_false, geti_lt h3, obind_some, List.getElem?_eq_getElem h3, inc_ok (by omega), body_ok hl (by omega), obind_some, check_ok body_u, obind_some]
    show _ = some (endV (bodyP l[n] l (n + 1)))
    unfold m_value_Take_j4 endV
    by_cases c1 : (bodyP l[n] l (n + 1)).2.2 = 0
    · rw [decide_eq_true c1, cond_true, if_neg (by simp [c1])]
      by_cases c2 : chkV (bodyP l[n] l (n + 1)).1 = 0
      · rw [decide_eq_false (by simp [c2]), cond_false, if_neg (by simp [c2])]
      · rw [decide_eq_true c2, cond_true, if_pos c2]; rfl
    · rw [decide_eq_false c1, cond_false, decide_eq_true c1, cond_true, if_pos c1]; rfl
  · rw [decide_eq_true (by omega), cond_true, List.getElem?_eq_none (by omega)]; rfl
theorem end_ok {v : GValue} {n : Int} (h : u64B v.Bits) : m_r04_Take_j12 v n = some (endV (v, n, 0)) := by
  unfold m_r04_Take_j12 endV
  rw [rcheck_ok h, obind_some, if_neg (by simp)]
  by_cases c : chkV v = 0
  · rw [decide_eq_false (by simp [c]), cond_false, if_neg (by simp [c])]
  · rw [decide_eq_true c, cond_true, if_pos c]; rfl
theorem end_err {v : GValue} {n e : Int} (h : e ≠ 0) : endV (v, n, e) = (GValue.mk 0 0 0 [], 0, e) := by
  unfold endV; rw [if_pos h]; rfl
theorem rvtake_ok {l : List UInt8} (hl : l.length ≤ 1000000) (a : Int) : m_r04_Take l a = some (vtk l a) := by
  unfold m_r04_Take vtk
  by_cases h1 : a < 0
  · rw [d_lt h1, if_pos (.inl h1)]; rfl
  rw [d_nlt h1, cond_false]
  by_cases h2 : (l.length : Int) < a
  · rw [d_lt h2, if_pos (.inr h2)]; rfl
  rw [d_nlt h2, cond_false, if_neg (by omega)]
  obtain ⟨n, rfl⟩ : ∃ n : Nat, a = n := ⟨a.toNat, by omega⟩
  rw [Int.toNat_natCast]
  by_cases h3 : n < l.length
  · rw [decide_eq_false (by omega), cond_false, geti_lt h3, obind_some, List.getElem?_eq_getElem h3, inc_ok (by omega)]
    show _ = some (endV (bodyP l[n] l (n + 1)))
    have hpl := ztk_place (l := l) (a := n + 1) (by omega)
    generalize l[n] = k
    unfold bodyP
    have z0 : u64B 0 := ⟨by decide, by decide⟩
    by_cases q1 : k.toNat < 1
    · rw [d_lt (by omega), cond_true, if_neg (by omega), if_neg (by omega), if_neg (by omega), if_neg (by omega), end_err (by decide)]
    rw [d_nlt (by omega), cond_false]
    by_cases q2 : 4 < k.toNat
    · rw [d_lt (by omega), cond_true, if_neg (by omega), if_neg (by omega), if_neg (by omega), if_neg (by omega), end_err (by decide)]
    rw [d_nlt (by omega), cond_false]
    by_cases k2 : k.toNat = 2
    · rw [decide_eq_true (by omega), cond_true, if_neg (by omega), if_pos k2]
      by_cases h : n + 1 < l.length
      · rw [decide_eq_false (by omega), cond_false, geti_lt h, obind_some, List.getElem?_eq_getElem h, inc_ok (by omega), end_ok (by exact z0)]
        simp only
        rw [show ((n + 1 : Nat) : Int) + 1 = ((n + 1 + 1 : Nat) : Int) by omega]
      · rw [decide_eq_true (by omega), cond_true, List.getElem?_eq_none (by omega)]
        simp only
        rw [end_err (by decide)]
    rw [decide_eq_false (by omega), cond_false]
    by_cases k3 : k.toNat = 3
    · rw [decide_eq_true (by omega), cond_true, if_neg (by omega), if_neg k2, if_pos k3, cut_ok (by omega) (Nat.le_refl _), obind_some, List.take_of_length_le (by simp)]
      unfold m_r01_Open
      rw [obind_some, rword_rd (by simp; omega), obind_some]
      unfold rdG
      cases hr : rdW (l.drop (n + 1)) with
      | none => simp only; rw [decide_eq_true (by decide), cond_true, end_err (by decide)]
      | some w =>
        have := rdW_lt hr
        simp only
        rw [decide_eq_false (by decide), cond_false, end_ok ⟨by simp only; omega, by simp only; omega⟩, w64 (by omega) (by omega)]
    rw [decide_eq_false (by omega), cond_false, rtake_ok hl, obind_some]
    unfold ztkI
    simp only
    generalize hz : ztk l ((n + 1 : Nat) : Int) = z at hpl
    by_cases c1 : z.2.2 = 0
    · rw [decide_eq_false (by omega), cond_false]
      by_cases k1 : k.toNat = 1
      · have hlt := ztk_lt l ((n + 1 : Nat) : Int)
        rw [hz] at hlt
        rw [decide_eq_true (by omega), cond_true, if_pos k1, rback_ok hlt, obind_some, end_ok (by exact z0), c1]; rfl
      · rw [decide_eq_false (by omega), cond_false, if_neg k1, if_neg k2, if_neg k3, if_pos (show k.toNat = 4 by omega), if_neg (by omega)]
        by_cases c2 : 24 < z.1
        · rw [d_lt (by omega), cond_true, if_pos c2, end_err (by decide)]
        · rw [d_nlt (by omega), cond_false, if_neg c2, w64 (n := ((z.1 : Nat) : Int)) (by omega) (by omega), w64 (n := ((l.length : Nat) : Int) - ((z.2.1 : Nat) : Int)) (by omega) (by omega)]
          by_cases c3 : l.length < z.2.1 + z.1
          · rw [d_lt (by omega), cond_true, if_pos c3, end_err (by decide)]
          · rw [d_nlt (by omega), cond_false, if_neg c3, w64 (n := ((z.2.1 : Nat) : Int) + ((z.1 : Nat) : Int)) (by omega) (by omega), show ((z.2.1 : Nat) : Int) + ((z.1 : Nat) : Int) = ((z.2.1 + z.1 : Nat) : Int) by omega, cut_ok (by omega) (by omega), obind_some, Nat.add_sub_cancel_left, end_ok (by exact z0)]
    · rw [decide_eq_true (by omega), cond_true]
      by_cases k1 : k.toNat = 1
      · rw [if_pos k1, end_err (by omega)]
      · rw [if_neg k1, if_neg k2, if_neg k3, if_pos (show k.toNat = 4 by omega), if_pos c1, end_err (by omega)]
  · rw [decide_eq_true (by omega), cond_true, List.getElem?_eq_none (by omega)]; rfl
end Go.Proofs.YtaaooafcijdbmaaDoor.K
namespace Go.Proofs.YtaaooafcijdbmaaDoor.K
open Go.RowKit Go.Lib
end Go.Proofs.YtaaooafcijdbmaaDoor.K
namespace Go.Proofs.YtaaooafcijdbmaaDoor.K
open Go.RowKit Go.Lib
theorem ztk_1 (k : UInt8) (t : List UInt8) : ztk (k :: t) ((1 : Nat) : Int) = zgo (k :: t) 1 (tk t 10 0 0) := by
  unfold ztk
  rw [if_neg (by simp only [List.length_cons]; omega)]
  rfl
theorem beN_snoc : ∀ (l : List UInt8) (a : Nat) (x : UInt8), beN a (l ++ [x]) = beN a l * 256 + x.toNat
  | [], a, x => rfl
  | y :: l, a, x => beN_snoc l (a * 256 + y.toNat) x
theorem beB_beN : ∀ (n : Nat) (l : List UInt8), l.length = n → beB n (beN 0 l) = l
  | 0, l, h => by rw [List.length_eq_zero_iff.1 h]; rfl
  | n + 1, l, h => by
    have hne : l ≠ [] := fun e => by rw [e] at h; simp at h
    obtain ⟨r, x, rfl⟩ : ∃ r x, l = r ++ [x] := ⟨_, _, (List.dropLast_concat_getLast hne).symm⟩
    have hx := UInt8.toNat_lt x
    rw [beN_snoc, beB, show (beN 0 r * 256 + x.toNat) / 256 = beN 0 r by omega, show (beN 0 r * 256 + x.toNat) % 256 = x.toNat by omega, beB_beN n r (by simpa using h)]
    simp
/-- What is taken has just these bytes. -/
theorem take_put {s : List UInt8} {x : GValue} {n : Int} (hs : s.length ≤ 100000) (h : vtk s 0 = (x, n, 0)) : chkV x = 0 ∧ okB x ∧ ∃ m : Nat, n = m ∧ m ≤ s.length ∧ x.Kind :: bytesV x = s.take m := by
  unfold vtk at h
  rw [if_neg (by simp)] at h
  cases s with
  | nil => simp at h
  | cons k t =>
    replace h : endV (bodyP k (k :: t) 1) = (x, n, 0) := h
    have hu := body_u (k := k) (l := k :: t) (a := 1)
    generalize hb : bodyP k (k :: t) 1 = y at h hu
    unfold endV at h
    by_cases c1 : y.2.2 ≠ 0
    · rw [if_pos c1] at h
      have := congrArg (fun p : GValue × Int × Int => p.2.2) h
      exact absurd this c1
    rw [if_neg c1] at h
    by_cases c2 : chkV y.1 ≠ 0
    · rw [if_pos c2] at h
      have := congrArg (fun p : GValue × Int × Int => p.2.2) h
      exact absurd this c2
    rw [if_neg c2] at h
    obtain ⟨y1, y2, y3⟩ := y
    simp only at c1 c2 h hu
    have hy3 : y3 = 0 := by omega
    subst hy3
    cases h
    have hc : chkV x = 0 := by omega
    simp only [List.length_cons] at hs
    refine ⟨hc, ?_⟩
    unfold bodyP at hb
    rw [ztk_1] at hb
    by_cases k1 : k.toNat = 1
    · rw [if_pos k1] at hb
      unfold zgo at hb
      simp only [Prod.mk.injEq] at hb
      obtain ⟨b1, b2, b3⟩ := hb
      have hlt := tk_lt t 10 0 0 rfl (by decide)
      have e0 : (tk t 10 0 0).2.2 = 0 := by omega
      obtain ⟨q1, q2⟩ := tk_bytes (l := t) (u := (tk t 10 0 0).1) (n := (tk t 10 0 0).2.1) (Prod.ext rfl (Prod.ext rfl e0))
      rw [if_pos e0] at b2
      subst b1
      refine ⟨⟨⟨zback_lo _ hlt, zback_hi _ hlt⟩, hu, by simp⟩, _, b2.symm, by simp only [List.length_cons]; omega, ?_⟩
      rw [Nat.add_comm, List.take_succ_cons, q2]
      unfold bytesV
      rw [if_pos k1, zfold_back]
    rw [if_neg k1] at hb
    by_cases k2 : k.toNat = 2
    · rw [if_pos k2] at hb
      cases t with
      | nil => simp at hb
      | cons z t =>
        simp only [List.getElem?_cons_succ, List.getElem?_cons_zero, Prod.mk.injEq] at hb
        obtain ⟨b1, b2, b3⟩ := hb
        subst b1
        have hz := UInt8.toNat_lt z
        refine ⟨⟨⟨by simp only; omega, by simp only; omega⟩, hu, by simp⟩, 2, by omega, by simp, ?_⟩
        unfold bytesV
        rw [if_neg (by simp only; omega), if_pos k2]
        have : toU8 ((z.toNat : Nat) : Int) = z := by
          apply UInt8.toNat_inj.1
          rw [toU8_nat]; omega
        rw [this]; rfl
    rw [if_neg k2] at hb
    by_cases k3 : k.toNat = 3
    · rw [if_pos k3] at hb
      rw [show List.drop 1 (k :: t) = t from rfl] at hb
      cases hw : rdW t with
      | none => rw [hw] at hb; simp at hb
      | some w =>
        rw [hw] at hb
        simp only [Prod.mk.injEq] at hb
        obtain ⟨b1, b2, b3⟩ := hb
        subst b1
        have hlt := rdW_lt hw
        unfold rdW at hw
        split at hw
        · cases hw
        · rename_i hl
          have hw := Option.some.inj hw
          refine ⟨⟨⟨by simp, by simp⟩, hu, by simp⟩, 9, by omega, by simp only [List.length_cons]; omega, ?_⟩
          unfold bytesV
          rw [if_neg (by simp only; omega), if_neg (by simp only; omega), if_pos k3, List.take_succ_cons]
          simp only [Int.toNat_natCast]
          rw [← hw, beB_beN 8 _ (by simp; omega)]
    rw [if_neg k3] at hb
    by_cases k4 : k.toNat = 4
    · rw [if_pos k4] at hb
      have hlt := tk_lt t 10 0 0 rfl (by decide)
      unfold zgo at hb
      simp only at hb
      by_cases d1 : (tk t 10 0 0).2.2 = 0
      · rw [if_neg (by simp [d1]), if_pos d1] at hb
        by_cases d2 : 24 < (tk t 10 0 0).1
        · rw [if_pos d2] at hb; simp at hb
        rw [if_neg d2] at hb
        by_cases d3 : (k :: t).length < 1 + (tk t 10 0 0).2.1 + (tk t 10 0 0).1
        · rw [if_pos d3] at hb; simp at hb
        rw [if_neg d3] at hb
        simp only [Prod.mk.injEq] at hb
        obtain ⟨b1, b2, b3⟩ := hb
        obtain ⟨q1, q2⟩ := tk_bytes (l := t) (u := (tk t 10 0 0).1) (n := (tk t 10 0 0).2.1) (Prod.ext rfl (Prod.ext rfl d1))
        generalize (tk t 10 0 0).2.1 = m at *
        generalize (tk t 10 0 0).1 = u at *
        rw [Nat.add_comm 1 m, List.drop_succ_cons] at b1
        subst b1
        simp only [List.length_cons] at d3
        have hlen : ((t.drop m).take u).length = u := by rw [List.length_take, List.length_drop]; omega
        refine ⟨⟨⟨by simp, by simp⟩, hu, by simp only [hlen]; omega⟩, _, b2.symm, by simp only [List.length_cons]; omega, ?_⟩
        unfold bytesV
        rw [if_neg (by simp only; omega), if_neg (by simp only; omega), if_neg (by simp only; omega)]
        simp only [hlen]
        rw [show 1 + m + u = (m + u) + 1 by omega, List.take_succ_cons, List.take_add, q2]
      · rw [if_pos (by simpa using d1)] at hb
        simp only [Prod.mk.injEq] at hb
        omega
    rw [if_neg k4] at hb
    simp at hb
theorem ztk_drop {l : List UInt8} {a b : Nat} (h : a + b ≤ l.length) : ztk l ((a + b : Nat) : Int) = ((ztk (l.drop a) (b : Int)).1, if (ztk (l.drop a) (b : Int)).2.2 = 0 then a + (ztk (l.drop a) (b : Int)).2.1 else 0, (ztk (l.drop a) (b : Int)).2.2) := by
  unfold ztk
  rw [if_neg (by omega), if_neg (by rw [List.length_drop]; omega)]
  simp only [Int.toNat_natCast, List.drop_drop]
  split
  · rw [Nat.add_assoc]
  · rfl
theorem ztk_drop0 {l : List UInt8} {a : Nat} (h : a ≤ l.length) : ztk l (a : Int) = zgo l a (tk (l.drop a) 10 0 0) := by
  unfold ztk zgo
  rw [if_neg (by omega)]
  simp only [Int.toNat_natCast]
/-- A body behind place a. -/
theorem body_drop {k : UInt8} {l : List UInt8} {a b : Nat} (h : a + b ≤ l.length) : (bodyP k l (a + b)).1 = (bodyP k (l.drop a) b).1 ∧ (bodyP k l (a + b)).2.2 = (bodyP k (l.drop a) b).2.2 ∧
    ((bodyP k l (a + b)).2.2 = 0 → (bodyP k l (a + b)).2.1 = (a : Int) + (bodyP k (l.drop a) b).2.1) := by
  have hz := ztk_drop h
  have hd : (l.drop a)[b]? = l[a + b]? := by rw [List.getElem?_drop]
  have hdd : (l.drop a).drop b = l.drop (a + b) := by rw [List.drop_drop]
  unfold bodyP
  rw [hz, hd, hdd]
  generalize ztk (l.drop a) (b : Int) = z
  obtain ⟨z1, z2, z3⟩ := z
  simp only
  by_cases k1 : k.toNat = 1
  · simp only [if_pos k1]
    refine ⟨trivial, trivial, fun h => ?_⟩
    rw [if_pos (by omega)]; omega
  simp only [if_neg k1]
  by_cases k2 : k.toNat = 2
  · simp only [if_pos k2]
    cases l[a + b]? with
    | none => exact ⟨rfl, rfl, fun h => by simp at h⟩
    | some x => exact ⟨rfl, rfl, fun h => by simp only; omega⟩
  simp only [if_neg k2]
  by_cases k3 : k.toNat = 3
  · simp only [if_pos k3]
    cases rdW (l.drop (a + b)) with
    | none => exact ⟨rfl, rfl, fun h => by simp at h⟩
    | some x => exact ⟨rfl, rfl, fun h => by simp only; omega⟩
  simp only [if_neg k3]
  by_cases k4 : k.toNat = 4
  · simp only [if_pos k4]
    by_cases c1 : z3 = 0
    · simp only [c1, ne_eq, not_true_eq_false, if_false, if_true]
      by_cases c2 : 24 < z1
      · simp only [if_pos c2]; exact ⟨trivial, trivial, fun h => by simp at h⟩
      · simp only [if_neg c2]
        by_cases c3 : l.length < a + z2 + z1
        · rw [if_pos c3, if_pos (by rw [List.length_drop]; omega)]; exact ⟨rfl, rfl, fun h => by simp at h⟩
        · rw [if_neg c3, if_neg (by rw [List.length_drop]; omega), List.drop_drop]; exact ⟨rfl, rfl, fun h => by simp only; omega⟩
    · simp only [ne_eq, c1, not_false_eq_true, if_true, if_false]; exact ⟨trivial, trivial, fun h => by omega⟩
  simp only [if_neg k4]
  exact ⟨trivial, trivial, fun h => by simp at h⟩
theorem endV_drop {r q : GValue × Int × Int} {a : Int} (h1 : r.1 = q.1) (h2 : r.2.2 = q.2.2) (h3 : r.2.2 = 0 → r.2.1 = a + q.2.1) : endV r = ((endV q).1, if (endV q).2.2 = 0 then a + (endV q).2.1 else 0, (endV q).2.2) := by
  obtain ⟨r1, r2, r3⟩ := r
  obtain ⟨q1, q2, q3⟩ := q
  simp only at h1 h2 h3
  subst h1; subst h2
  unfold endV
  by_cases c1 : r3 = 0
  · by_cases c2 : chkV r1 = 0
    · have h3 := h3 c1
      subst h3
      simp [c1, c2]
    · simp [c1, c2]
  · simp [c1]
/-- Taken behind place a. -/
theorem vtk_drop {l : List UInt8} {a : Nat} (h : a ≤ l.length) : vtk l (a : Int) = ((vtk (l.drop a) 0).1, if (vtk (l.drop a) 0).2.2 = 0 then (a : Int) + (vtk (l.drop a) 0).2.1 else 0, (vtk (l.drop a) 0).2.2) := by
  unfold vtk
  rw [if_neg (by omega), if_neg (by rw [List.length_drop]; omega), Int.toNat_natCast, Int.toNat_zero, show (l.drop a)[0]? = l[a]? by rw [List.getElem?_drop, Nat.add_zero]]
  by_cases hl : a < l.length
  · rw [List.getElem?_eq_getElem hl]
    simp only
    obtain ⟨b1, b2, b3⟩ := body_drop (k := l[a]) (l := l) (a := a) (b := 1) (by omega)
    exact endV_drop b1 b2 b3
  · rw [List.getElem?_eq_none (by omega)]
    simp
end Go.Proofs.YtaaooafcijdbmaaDoor.K

namespace Go.Proofs.YtaaooafcijdbmaaDoor.K
open Go.RowKit Go.Lib

structure wf_GField (x : GField) : Prop where
  Name : wfS x.Name
  Kind : wfT x.Kind
theorem td_69 {ds : List D} (h : TD Tryd.prog 69 ds) : ∃ x : GField, ds = enc_GField x ∧ wf_GField x := by
  have h0 := TD.of_struct Tryd.underlying69 h
  obtain ⟨p0, q0, e0, t0, h1⟩ := h0
  obtain ⟨x0, f0, w0⟩ := td_str Tryd.underlying9 t0
  obtain ⟨p1, q1, e1, t1, h2⟩ := h1
  obtain ⟨x1, f1, w1⟩ := td_u8 Tryd.underlying5 t1
  have h2 : q1 = [] := h2
  refine ⟨⟨x0, x1⟩, ?_, ⟨w0, w1⟩⟩
  rw [e0, f0, e1, f1, h2]; rfl
structure wf_GType (x : GType) : Prop where
  Name : wfS x.Name
  Fields : (wfL wf_GField) x.Fields
theorem td_67 {ds : List D} (h : TD Tryd.prog 67 ds) : ∃ x : GType, ds = enc_GType x ∧ wf_GType x := by
  have h0 := TD.of_struct Tryd.underlying67 h
  obtain ⟨p0, q0, e0, t0, h1⟩ := h0
  obtain ⟨x0, f0, w0⟩ := td_str Tryd.underlying9 t0
  obtain ⟨p1, q1, e1, t1, h2⟩ := h1
  obtain ⟨x1, f1, w1⟩ := td_slice (enc := enc_GField) (q := wf_GField) Tryd.underlying65 (fun {r} h => td_69 h) t1
  have h2 : q1 = [] := h2
  refine ⟨⟨x0, x1⟩, ?_, ⟨w0, w1⟩⟩
  rw [e0, f0, e1, f1, h2]; rfl
end Go.Proofs.YtaaooafcijdbmaaDoor.K
