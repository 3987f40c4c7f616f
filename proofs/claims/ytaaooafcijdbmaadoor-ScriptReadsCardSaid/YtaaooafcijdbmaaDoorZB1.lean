/- what telltalelaw37.ScriptReads needs (1) -/
import Derived.Test.YtaaooafcijdbmaaDoorZB0
set_option linter.unusedVariables false
set_option linter.unusedSimpArgs false
namespace Go.Proofs.YtaaooafcijdbmaaDoor.K
open Go.RowKit Go.Lib
set_option maxRecDepth 20000
set_option maxHeartbeats 4000000

theorem ok_zig_Take (p0 : (List UInt8)) (p1 : Int) (r : (Int × Int × Int)) (h : m_zig_Take p0 p1 = some r) : GCall Tryd.prog 91 [(.s p0), (.i p1)] [] (.tup [(.u r.1), (.i r.2.1), (.i r.2.2)]) [] := by
 refine GCall.of_body (n := 59) (rs := [(.tmp 4), (.tmp 5), (.tmp 6)]) Tryd.func91 rfl rfl rfl <| Ato ⟨.s p0::.i p1::tu 57 [], [], 0⟩ ?_
 have hm := h
 unfold m_zig_Take at hm
 refine Sx <| Wm (.u 0) rfl <| Wm (.i 0) rfl <| Wm (.i 0) rfl <| Nk 19 0 ⟨.s p0::.i p1::tp 2 (.u 0::tp 54 []), [], 0⟩ <| Sq <| Sx <| Wm (.i p1) rfl <| Wz (.b (decide (p1 < 0))) (Obn rfl (fun _ => hb_lss (k := .i64))) ?_
 rcases tf_ (decide (p1 < 0)) with hq11_0 | hq11_0
 ·
  replace hm := cT hq11_0 hm
  refine Wz (.b true) (Oq hq11_0 rfl) <| Wn <| Wn <| Wn <| Wn <| Wz (.b true) (OpT rfl) <| Nk 65555 0 ⟨.s p0::.i p1::tp 2 (.u 0::tp 11 (.b true::tp 42 [])), [], 0⟩ <| AWP.if_ true (by kernel_rfl) <| Sx <| Wm (.u 0) rfl <| Wm (.i 0) rfl <| Wm (.i 2) rfl <| Nn <| Rt ?_
  refine Tr ?_
  obtain rfl := Option.some.inj hm
  exact ret_i []
 ·
  replace hm := cF hq11_0 hm
  refine Wz (.b false) (Oq hq11_0 rfl) <| Wm (.i p1) rfl <| Wm (.s p0) rfl <| Wz (.i ((List.length p0 : Nat) : Int)) (Oln rfl) <| Wz (.b (decide (((List.length p0 : Nat) : Int) < p1))) (Obn rfl (fun _ => hb_gtr (k := .i64))) <| Wz (.b (decide (((List.length p0 : Nat) : Int) < p1))) (OpF rfl) <| Nk 65555 0 ⟨.s p0::.i p1::tp 2 (.u 0::tp 11 (.b (decide (((List.length p0 : Nat) : Int) < p1))::tp 42 [])), [], 0⟩ ?_
  rcases tf_ (decide (((List.length p0 : Nat) : Int) < p1)) with hc16_9 | hc16_9
  ·
   replace hm := cT hc16_9 hm
   refine AiT hc16_9 <| Sx <| Wm (.u 0) rfl <| Wm (.i 0) rfl <| Wm (.i 2) rfl <| Nn <| Rt <| Tr ?_
   obtain rfl := Option.some.inj hm
   exact ret_i []
  ·
   replace hm := cF hc16_9 hm
   refine AiF hc16_9 <| Sk <| Tk 19 0 ⟨.s p0::.i p1::tp 2 (.u 0::tp 54 []), [], 0⟩ <| Sq <| Sx <| Wm (.i 0) rfl <| Nk 131091 0 ⟨.s p0::.i p1::tp 2 (.u 0::tp 12 (.i 0::tp 41 [])), [], 0⟩ <| Bk ?_
   refine AWP.loopI (α := Nat × Int × Int)
     (fun (fu_1, y4_1, y17_1) => (⟨.s p0::.i p1::tp 2 (.u y4_1::tp 12 (.i y17_1::tp 41 [])), [], 0⟩ : St))
     (fun (fu_1, y4_1, y17_1) => m_zig_Take_l1 p0 p1 fu_1 y4_1 y17_1 = some r)
     (fun (fu_1, y4_1, y17_1) => fu_1) (1152921504606846976, 0, 0)
     (Weak.toK 131091 0 0 []) hm ?_
   rintro ⟨fu_1, y4_1, y17_1⟩ n_1 hm ih_1
   try dsimp only at hm ih_1 ⊢
   cases fu_1 with
   | zero => exact absurd hm (by unfold m_zig_Take_l1; simp)
   | succ fu_1 =>
    unfold m_zig_Take_l1 at hm
    refine Sx <| Wz (.b (decide (y17_1 < 10))) (Obn rfl (fun _ => hb_lss (k := .i64))) <| Nk 393235 0 ⟨.s p0::.i p1::tp 2 (.u y4_1::tp 12 (.i y17_1::.b (decide (y17_1 < 10))::tp 40 [])), [], 0⟩ <| Sq ?_
    rcases tf_ (decide (y17_1 < 10)) with hc18_10 | hc18_10
    ·
     replace hm := cT hc18_10 hm
     refine AiT hc18_10 <| Sk <| Tk 131091 0 ⟨.s p0::.i p1::tp 2 (.u y4_1::tp 12 (.i y17_1::tp 41 [])), [], 0⟩ <| Sq <| Bk <| Sx <| Wm (.i y17_1) rfl <| Wm (.i y17_1) rfl <| Nk 131219 0 ⟨.s p0::.i p1::tp 2 (.u y4_1::tp 2 (.i y17_1::tp 9 (.i y17_1::tp 41 []))), [], 0⟩ <| Sq <| Sx <| Wm (.i p1) rfl <| Wm (.i y17_1) rfl <| Wz (.i (W6 (p1 + y17_1))) (Obn rfl (fun _ => hb_add (k := .i64))) ?_
     refine Wm (.s p0) rfl <| Wz (.i ((List.length p0 : Nat) : Int)) (Oln rfl) <| Wz (.b (decide (((List.length p0 : Nat) : Int) ≤ (W6 (p1 + y17_1))))) (Obn rfl (fun _ => hb_geq (k := .i64))) <| Nk 33685651 0 ⟨.s p0::.i p1::tp 2 (.u y4_1::tp 2 (.i y17_1::tp 9 (.i y17_1::tp 7 (.b (decide (((List.length p0 : Nat) : Int) ≤ (W6 (p1 + y17_1))))::tp 33 [])))), [], 0⟩ ?_
     rcases tf_ (decide (((List.length p0 : Nat) : Int) ≤ (W6 (p1 + y17_1)))) with hc25_11 | hc25_11
     ·
      replace hm := cT hc25_11 hm
      refine AiT hc25_11 <| Sx <| Wm (.u 0) rfl <| Wm (.i 0) rfl <| Wm (.i 3) rfl <| Nn <| Rt <| Tr <| Ir <| Tr <| RoundK.ret <| Ir <| Tr ?_
      obtain rfl := Option.some.inj hm
      exact ret_i []
     ·
      replace hm := cF hc25_11 hm
      refine AiF hc25_11 <| Sk <| Tk 131219 0 ⟨.s p0::.i p1::tp 2 (.u y4_1::tp 2 (.i y17_1::tp 9 (.i y17_1::tp 41 []))), [], 0⟩ <| Sx <| Wm (.s p0) rfl <| Wm (.i p1) rfl <| Wm (.i y17_1) rfl <| Wz (.i (W6 (p1 + y17_1))) (Obn rfl (fun _ => hb_add (k := .i64))) ?_
      obtain ⟨x30_3, hx30_3, hm⟩ := bnd hm
      obtain ⟨hx30_3i, hx30_3g⟩ := geti_some hx30_3
      refine Wz (.y x30_3) (Ocs (by kernel_rfl) (op_index_str rfl (by kernel_rfl) (s := toS p0) (by kernel_rfl) (k := .i64) (iv := (W6 (p1 + y17_1))) (by kernel_rfl) (i := (Int.toNat (W6 (p1 + y17_1)))) (hx30_3i) (b := x30_3) (hx30_3g))) <| Wm (.y x30_3) rfl <| Nk 131475 0 ⟨.s p0::.i p1::tp 2 (.u y4_1::tp 2 (.i y17_1::.y x30_3::tp 8 (.i y17_1::tp 41 []))), [], 0⟩ ?_
      refine AWP.cutJ (α := Unit) (fun x => match x with | () => (⟨.s p0::.i p1::tp 2 (.u y4_1::tp 2 (.i y17_1::.y x30_3::tp 8 (.i y17_1::tp 41 []))), [], 0⟩ : St)) (fun x => match x with | () => m_zig_Take_j6 p1 x30_3 y17_1 y4_1 (fun y4_1 y17_1 => m_zig_Take_l1 p0 p1 fu_1 y4_1 y17_1) = some r) ?_ (fun J6 => ?_)
      ·
       rintro ⟨⟩ hm
       try dsimp only at hm ⊢
       unfold m_zig_Take_j6 at hm
       refine AWP.cutJ (α := Unit) (fun x => match x with | () => (⟨.s p0::.i p1::tp 2 (.u y4_1::tp 2 (.i y17_1::.y x30_3::tp 8 (.i y17_1::tp 41 []))), [], 0⟩ : St)) (fun x => match x with | () => m_zig_Take_j8 p1 x30_3 y17_1 y4_1 (fun y4_1 y17_1 => m_zig_Take_l1 p0 p1 fu_1 y4_1 y17_1) = some r) ?_ (fun J8 => ?_)
       ·
        rintro ⟨⟩ hm
        try dsimp only at hm ⊢
        unfold m_zig_Take_j8 at hm
        refine Sx <| Wm (.u y4_1) rfl <| Wm (.y x30_3) rfl <| Wz (.y (toU8 (((BitVec.ofInt 8 ((x30_3.toNat : Nat) : Int) &&& ~~~ BitVec.ofInt 8 128).toNat : Int)))) (Ocs (lit_int (u8w _)) (op_bin rfl (a1 := .int .u8 ((x30_3.toNat : Nat) : Int)) (a2 := .int .u8 128) (by kernel_rfl) (by kernel_rfl) (fun _ => hb_andNot))) ?_
        obtain ⟨v46_4, hv46_4, hm⟩ := bnd hm; replace hv46_4 := Option.some.inj hv46_4
        refine Wz (.u v46_4) (Ocs (Eq.trans (lit_int (wrap_of_u8 (by decide) _)) (congrArg (fun z => A.d (.lit (.int .u64 z))) hv46_4)) (op_convert rfl (a1 := .int .u8 (((toU8 (((BitVec.ofInt 8 ((x30_3.toNat : Nat) : Int) &&& ~~~ BitVec.ofInt 8 128).toNat : Int))).toNat : Nat) : Int)) (by kernel_rfl) (run_conv (ds := .int .u8) (k' := .u64) (by kernel_rfl) (by kernel_rfl)))) <| Wm (.i y17_1) rfl <| Wz (.i (W6 (7 * y17_1))) (Obn rfl (fun _ => hb_mul (k := .i64))) ?_
        obtain ⟨hs49_4, hm⟩ := chk_some hm
        refine Wz (.u (W7 (v46_4 * 2 ^ (Int.toNat (W6 (7 * y17_1)))))) (Ob2 (.int .u64 v46_4) (.int .i64 (W6 (7 * y17_1))) rfl (fun _ => hb_shl (n := (Int.toNat (W6 (7 * y17_1)))) (sh_le hs49_4.2) (sh_eq hs49_4.1))) ?_
        obtain ⟨v50_4, hv50_4, hm⟩ := bnd hm; replace hv50_4 := Option.some.inj hv50_4
        refine Wz (.u v50_4) (Ocs (Eq.trans (by kernel_rfl) (congrArg (fun z => A.d (.lit (.int .u64 z))) hv50_4)) (op_bin rfl (a1 := .int .u64 y4_1) (a2 := .int .u64 (W7 (v46_4 * 2 ^ (Int.toNat (W6 (7 * y17_1)))))) (by kernel_rfl) (by kernel_rfl) (fun _ => hb_or))) <| Wm (.u v50_4) rfl <| Nk 131475 0 ⟨.s p0::.i p1::tp 2 (.u v50_4::tp 2 (.i y17_1::.y x30_3::tp 8 (.i y17_1::tp 41 []))), [], 0⟩ <| Sx <| Wm (.y x30_3) rfl <| Wz (.b (decide (((x30_3.toNat : Nat) : Int) < 128))) (Ob2 (.int .u8 ((x30_3.toNat : Nat) : Int)) (.int .u8 128) rfl (fun _ => hb_lss)) <| Nk 4503599627501715 0 ⟨.s p0::.i p1::tp 2 (.u v50_4::tp 2 (.i y17_1::tp 9 (.i y17_1::tp 34 (.b (decide (((x30_3.toNat : Nat) : Int) < 128))::tp 6 [])))), [], 0⟩ ?_
        rcases tf_ (decide (((x30_3.toNat : Nat) : Int) < 128)) with hc52_12 | hc52_12
        ·
         replace hm := cT hc52_12 hm
         refine AiT hc52_12 <| Sx <| Wm (.u v50_4) rfl <| Wm (.i p1) rfl <| Wm (.i y17_1) rfl <| Wz (.i (W6 (p1 + y17_1))) (Obn rfl (fun _ => hb_add (k := .i64))) <| Wz (.i (W6 ((W6 (p1 + y17_1)) + 1))) (Obn rfl (fun _ => hb_add (k := .i64))) <| Wm (.u v50_4) rfl <| Wm (.i (W6 ((W6 (p1 + y17_1)) + 1))) rfl <| Wm (.i 0) rfl <| Nn <| Rt <| Ir <| Tr ?_
         refine RoundK.ret <| Ir <| Tr ?_
         obtain rfl := Option.some.inj hm
         exact ret_i []
        ·
         replace hm := cF hc52_12 hm
         refine AiF hc52_12 <| Sk <| Ino <| Tk 131091 0 ⟨.s p0::.i p1::tp 2 (.u v50_4::tp 12 (.i y17_1::tp 41 [])), [], 0⟩ <| Tx <| Wz (.i (W6 (y17_1 + 1))) (Obn rfl (fun _ => hb_add (k := .i64))) <| Wm (.i (W6 (y17_1 + 1))) rfl <| Wn0 <| RoundK.normal ?_
         exact Rounds.weak (Weak.toK 131091 0 0 []) (ih_1 (fu_1, v50_4, (W6 (y17_1 + 1))) hm (Nat.lt_succ_self _))
       refine Sq <| Sx <| Wm (.i y17_1) rfl <| Wz (.b (decide ((0 : Int) < y17_1))) (Obn rfl (fun _ => hb_gtr (k := .i64))) ?_
       rcases tf_ (decide ((0 : Int) < y17_1)) with hq39_7 | hq39_7
       ·
        replace hm := cT hq39_7 hm
        refine Wz (.b true) (Oq hq39_7 rfl) <| Wm (.y x30_3) rfl <| Wz (.b (decide (((x30_3.toNat : Nat) : Int) = 0))) (Ob2 (.int .u8 ((x30_3.toNat : Nat) : Int)) (.int .u8 0) rfl (fun _ => hb_eql)) <| Wz (.b (decide (((x30_3.toNat : Nat) : Int) = 0))) (OpT rfl) <| Nk 4398046642579 0 ⟨.s p0::.i p1::tp 2 (.u y4_1::tp 2 (.i y17_1::.y x30_3::tp 8 (.i y17_1::tp 24 (.b (decide (((x30_3.toNat : Nat) : Int) = 0))::tp 16 [])))), [], 0⟩ ?_
        rcases tf_ (decide (((x30_3.toNat : Nat) : Int) = 0)) with hc42_13 | hc42_13
        ·
         replace hm := cT hc42_13 hm
         refine AiT hc42_13 <| Sx <| Wm (.u 0) rfl <| Wm (.i 0) rfl <| Wm (.i 4) rfl <| Nn <| Rt <| Tr <| Ir <| Tr <| RoundK.ret <| Ir <| Tr ?_
         obtain rfl := Option.some.inj hm
         exact ret_i []
        ·
         replace hm := cF hc42_13 hm
         refine AiF hc42_13 <| Sk <| Tn ?_
         exact AWP.weak (Weak.toK 131475 0 0 []) (J8 () hm)
       ·
        replace hm := cF hq39_7 hm
        refine Wz (.b false) (Oq hq39_7 rfl) <| Wn <| Wn <| Wz (.b false) (OpF rfl) <| Nk 4398046642579 0 ⟨.s p0::.i p1::tp 2 (.u y4_1::tp 2 (.i y17_1::.y x30_3::tp 8 (.i y17_1::tp 24 (.b false::tp 16 [])))), [], 0⟩ <| AWP.if_ false (by kernel_rfl) <| Sk <| Tn ?_
        exact AWP.weak (Weak.toK 131475 0 0 []) (J8 () hm)
      refine Sq <| Sx <| Wm (.i y17_1) rfl <| Wz (.b (decide (y17_1 = 9))) (Obn rfl (fun _ => hb_eql (k := .i64))) ?_
      rcases tf_ (decide (y17_1 = 9)) with hq33_5 | hq33_5
      ·
       replace hm := cT hq33_5 hm
       refine Wz (.b true) (Oq hq33_5 rfl) <| Wm (.y x30_3) rfl <| Wz (.b (decide ((1 : Int) < ((x30_3.toNat : Nat) : Int)))) (Ob2 (.int .u8 ((x30_3.toNat : Nat) : Int)) (.int .u8 1) rfl (fun _ => hb_gtr)) <| Wz (.b (decide ((1 : Int) < ((x30_3.toNat : Nat) : Int)))) (OpT rfl) <| Nk 68719608211 0 ⟨.s p0::.i p1::tp 2 (.u y4_1::tp 2 (.i y17_1::.y x30_3::tp 8 (.i y17_1::tp 18 (.b (decide ((1 : Int) < ((x30_3.toNat : Nat) : Int)))::tp 22 [])))), [], 0⟩ ?_
       rcases tf_ (decide ((1 : Int) < ((x30_3.toNat : Nat) : Int))) with hc36_14 | hc36_14
       ·
        replace hm := cT hc36_14 hm
        refine AiT hc36_14 <| Sx <| Wm (.u 0) rfl <| Wm (.i 0) rfl <| Wm (.i 8) rfl <| Nn <| Rt <| Tr <| Ir <| Tr <| RoundK.ret <| Ir <| Tr ?_
        obtain rfl := Option.some.inj hm
        exact ret_i []
       ·
        replace hm := cF hc36_14 hm
        refine AiF hc36_14 <| Sk <| Tn ?_
        exact AWP.weak (Weak.toK 131475 0 0 []) (J6 () hm)
      ·
       replace hm := cF hq33_5 hm
       refine Wz (.b false) (Oq hq33_5 rfl) <| Wn <| Wn <| Wz (.b false) (OpF rfl) <| Nk 68719608211 0 ⟨.s p0::.i p1::tp 2 (.u y4_1::tp 2 (.i y17_1::.y x30_3::tp 8 (.i y17_1::tp 18 (.b false::tp 22 [])))), [], 0⟩ <| AWP.if_ false (by kernel_rfl) <| Sk <| Tn ?_
       exact AWP.weak (Weak.toK 131475 0 0 []) (J6 () hm)
    ·
     replace hm := cF hc18_10 hm
     refine AiF hc18_10 <| AWP.exit <| Then.exit <| RoundK.exit <| InBlock.same <| Tk 0 0 ⟨tp 59 [], [], 0⟩ <| Sx <| Wm (.u 0) rfl <| Wm (.i 0) rfl <| Wm (.i 8) rfl <| Nn <| Rt ?_
     obtain rfl := Option.some.inj hm
     exact ret_i []

theorem ok_event_numbers (p0 : (List UInt8)) (p1 : Int) (r : (GArr4_Int_ × Int × Int)) (h : m_event_numbers p0 p1 = some r) : GCall Tryd.prog 88 [(.s p0), (.i p1)] [] (.tup [(.agg [(.u r.1.a0), (.u r.1.a1), (.u r.1.a2), (.u r.1.a3)]), (.i r.2.1), (.i r.2.2)]) [] := by
 refine GCall.of_body (n := 32) (rs := [(.cell 4 152), (.tmp 5), (.tmp 6)]) Tryd.func88 rfl rfl rfl <| Ato ⟨.s p0::.i p1::tu 30 [], [], 0⟩ ?_
 have hm := h
 unfold m_event_numbers at hm
 refine Sx <| Wy (.loc 0 0) [(0, (.box [(.u 0), (.u 0), (.u 0), (.u 0)]))] (Oal rfl) <| Wm (.i 0) rfl <| Wm (.i 0) rfl <| Nk 19 1 ⟨.s p0::.i p1::tp 2 (.loc 0 0::tp 27 []), [(.box [(.u 0), (.u 0), (.u 0), (.u 0)])], 0⟩ <| Sq <| Sx <| Wm (.i 0) rfl <| Nk 2067 1 ⟨.s p0::.i p1::tp 2 (.loc 0 0::tp 6 (.i 0::tp 20 [])), [(.box [(.u 0), (.u 0), (.u 0), (.u 0)])], 0⟩ <| Bk ?_
 refine AWP.loopI (α := Nat × Int × GArr4_Int_ × Int)
   (fun (fu_0, y1_0, y4_d_0, y11_0) => (⟨.s p0::.i y1_0::tp 2 (.loc 0 0::tp 6 (.i y11_0::tp 20 [])), [(.box [(.u y4_d_0.a0), (.u y4_d_0.a1), (.u y4_d_0.a2), (.u y4_d_0.a3)])], 0⟩ : St))
   (fun (fu_0, y1_0, y4_d_0, y11_0) => m_event_numbers_l0 p0 fu_0 y1_0 y4_d_0 y11_0 = some r)
   (fun (fu_0, y1_0, y4_d_0, y11_0) => fu_0) (1152921504606846976, p1, (GArr4_Int_.mk 0 0 0 0), 0)
   (Weak.toK 2067 0 0 [0]) hm ?_
 rintro ⟨fu_0, y1_0, y4_d_0, y11_0⟩ n_0 hm ih_0
 try dsimp only at hm ih_0 ⊢
 cases fu_0 with
 | zero => exact absurd hm (by unfold m_event_numbers_l0; simp)
 | succ fu_0 =>
  unfold m_event_numbers_l0 at hm
  refine Sx <| Wz (.b (decide (y11_0 < 4))) (Obn rfl (fun _ => hb_lss (k := .i64))) <| Nk 6163 1 ⟨.s p0::.i y1_0::tp 2 (.loc 0 0::tp 6 (.i y11_0::.b (decide (y11_0 < 4))::tp 19 [])), [(.box [(.u y4_d_0.a0), (.u y4_d_0.a1), (.u y4_d_0.a2), (.u y4_d_0.a3)])], 0⟩ <| Sq ?_
  rcases tf_ (decide (y11_0 < 4)) with hc12_3 | hc12_3
  ·
   replace hm := cT hc12_3 hm
   refine AiT hc12_3 <| Sk <| Tk 2067 1 ⟨.s p0::.i y1_0::tp 2 (.loc 0 0::tp 6 (.i y11_0::tp 20 [])), [(.box [(.u y4_d_0.a0), (.u y4_d_0.a1), (.u y4_d_0.a2), (.u y4_d_0.a3)])], 0⟩ <| Sq <| Bk <| Sx <| Wm (.i y11_0) rfl <| Wm (.i y11_0) rfl <| Nk 2195 1 ⟨.s p0::.i y1_0::tp 2 (.loc 0 0::tp 2 (.i y11_0::tp 3 (.i y11_0::tp 20 []))), [(.box [(.u y4_d_0.a0), (.u y4_d_0.a1), (.u y4_d_0.a2), (.u y4_d_0.a3)])], 0⟩ <| Sx <| Wm (.s p0) rfl <| Wm (.i y1_0) rfl ?_
   obtain ⟨r17_1, hr17_1, hm⟩ := bnd hm
   refine Wz (.tup [(.u r17_1.1), (.i r17_1.2.1), (.i r17_1.2.2)]) (Ocf [] [] [] 0 (ok_zig_Take p0 y1_0 r17_1 hr17_1) (fun a w => Tryd.call91 a w) rfl trivial) <| Wm (.tup [(.u r17_1.1), (.i r17_1.2.1), (.i r17_1.2.2)]) rfl <| Wz (.u r17_1.1) (Oex rfl) <| Wz (.i r17_1.2.1) (Oex rfl) <| Wz (.i r17_1.2.2) (Oex rfl) <| Wm (.u r17_1.1) rfl <| Wm (.i r17_1.2.1) rfl <| Wm (.i r17_1.2.2) rfl <| Nk 3985 1 ⟨.s p0::tp 3 (.loc 0 0::tp 2 (.i y11_0::.u r17_1.1::.i r17_1.2.1::.i r17_1.2.2::.i y11_0::tp 20 [])), [(.box [(.u y4_d_0.a0), (.u y4_d_0.a1), (.u y4_d_0.a2), (.u y4_d_0.a3)])], 0⟩ <| Sq <| Sx <| Wm (.i r17_1.2.2) rfl <| Wz (.b (decide (r17_1.2.2 ≠ 0))) (Obn rfl (fun _ => hb_neq (k := .i64))) <| Nk 4198289 1 ⟨.s p0::tp 3 (.loc 0 0::tp 2 (.i y11_0::.u r17_1.1::.i r17_1.2.1::.i r17_1.2.2::.i y11_0::tp 10 (.b (decide (r17_1.2.2 ≠ 0))::tp 9 []))), [(.box [(.u y4_d_0.a0), (.u y4_d_0.a1), (.u y4_d_0.a2), (.u y4_d_0.a3)])], 0⟩ ?_
   rcases tf_ (decide (r17_1.2.2 ≠ 0)) with hc22_4 | hc22_4
   ·
    replace hm := cT hc22_4 hm
    refine AiT hc22_4 <| Sx <| Wz (.agg [(.u y4_d_0.a0), (.u y4_d_0.a1), (.u y4_d_0.a2), (.u y4_d_0.a3)]) (Old rfl) <| Wm (.i r17_1.2.2) rfl <| Wy (.tup []) [(0, (.box [(.u y4_d_0.a0), (.u y4_d_0.a1), (.u y4_d_0.a2), (.u y4_d_0.a3)]))] (Ost rfl) <| Wm (.i 0) rfl <| Wm (.i r17_1.2.2) rfl <| Nn <| Rt <| Tr <| Ir <| Tr <| RoundK.ret <| Ir ?_
    refine Tr ?_
    obtain rfl := Option.some.inj hm
    exact ret_i []
   ·
    replace hm := cF hc22_4 hm
    refine AiF hc22_4 <| Sk <| Tk 2961 1 ⟨.s p0::tp 3 (.loc 0 0::tp 2 (.i y11_0::.u r17_1.1::.i r17_1.2.1::tp 1 (.i y11_0::tp 20 []))), [(.box [(.u y4_d_0.a0), (.u y4_d_0.a1), (.u y4_d_0.a2), (.u y4_d_0.a3)])], 0⟩ <| Tx <| Wm (.i y11_0) rfl <| Wm (.u r17_1.1) rfl <| Wm (.i r17_1.2.1) rfl ?_
    rcases tf_ (decide (y11_0 = 0)) with hq28_2_0 | hq28_2_0
    ·
     replace hm := cT hq28_2_0 hm
     refine Wz (.loc 0 0) (Ocs (by kernel_rfl) (op_iaddr_arr rfl (n := 4) (sz := 1) (y := (.loc 0 0)) (by kernel_rfl) (by kernel_rfl) (by kernel_rfl) (k := .i64) (iv := y11_0) (by kernel_rfl) (i := 0) (of_decide_eq_true hq28_2_0) (by decide))) <| Wy (.tup []) [(0, (.box [(.u r17_1.1), (.u y4_d_0.a1), (.u y4_d_0.a2), (.u y4_d_0.a3)]))] (Ost rfl) <| Wm (.i r17_1.2.1) rfl <| Wn0 <| Ino <| Tk 2067 1 ⟨.s p0::.i r17_1.2.1::tp 2 (.loc 0 0::tp 6 (.i y11_0::tp 20 [])), [(.box [(.u r17_1.1), (.u y4_d_0.a1), (.u y4_d_0.a2), (.u y4_d_0.a3)])], 0⟩ <| Tx <| Wz (.i (W6 (y11_0 + 1))) (Obn rfl (fun _ => hb_add (k := .i64))) <| Wm (.i (W6 (y11_0 + 1))) rfl <| Wn0 <| RoundK.normal ?_
     exact Rounds.weak (Weak.toK 2067 0 0 [0]) (ih_0 (fu_0, r17_1.2.1, (GArr4_Int_.mk r17_1.1 y4_d_0.a1 y4_d_0.a2 y4_d_0.a3), (W6 (y11_0 + 1))) hm (Nat.lt_succ_self _))
    ·
     replace hm := cF hq28_2_0 hm
     rcases tf_ (decide (y11_0 = 1)) with hq28_2_1 | hq28_2_1
     ·
      replace hm := cT hq28_2_1 hm
      refine Wz (.loc 0 1) (Ocs (by kernel_rfl) (op_iaddr_arr rfl (n := 4) (sz := 1) (y := (.loc 0 0)) (by kernel_rfl) (by kernel_rfl) (by kernel_rfl) (k := .i64) (iv := y11_0) (by kernel_rfl) (i := 1) (of_decide_eq_true hq28_2_1) (by decide))) <| Wy (.tup []) [(0, (.box [(.u y4_d_0.a0), (.u r17_1.1), (.u y4_d_0.a2), (.u y4_d_0.a3)]))] (Ost rfl) <| Wm (.i r17_1.2.1) rfl <| Wn0 <| Ino <| Tk 2067 1 ⟨.s p0::.i r17_1.2.1::tp 2 (.loc 0 0::tp 6 (.i y11_0::tp 20 [])), [(.box [(.u y4_d_0.a0), (.u r17_1.1), (.u y4_d_0.a2), (.u y4_d_0.a3)])], 0⟩ <| Tx <| Wz (.i (W6 (y11_0 + 1))) (Obn rfl (fun _ => hb_add (k := .i64))) <| Wm (.i (W6 (y11_0 + 1))) rfl <| Wn0 <| RoundK.normal ?_
      exact Rounds.weak (Weak.toK 2067 0 0 [0]) (ih_0 (fu_0, r17_1.2.1, (GArr4_Int_.mk y4_d_0.a0 r17_1.1 y4_d_0.a2 y4_d_0.a3), (W6 (y11_0 + 1))) hm (Nat.lt_succ_self _))
     ·
      replace hm := cF hq28_2_1 hm
      rcases tf_ (decide (y11_0 = 2)) with hq28_2_2 | hq28_2_2
      ·
       replace hm := cT hq28_2_2 hm
       refine Wz (.loc 0 2) (Ocs (by kernel_rfl) (op_iaddr_arr rfl (n := 4) (sz := 1) (y := (.loc 0 0)) (by kernel_rfl) (by kernel_rfl) (by kernel_rfl) (k := .i64) (iv := y11_0) (by kernel_rfl) (i := 2) (of_decide_eq_true hq28_2_2) (by decide))) <| Wy (.tup []) [(0, (.box [(.u y4_d_0.a0), (.u y4_d_0.a1), (.u r17_1.1), (.u y4_d_0.a3)]))] (Ost rfl) <| Wm (.i r17_1.2.1) rfl <| Wn0 <| Ino <| Tk 2067 1 ⟨.s p0::.i r17_1.2.1::tp 2 (.loc 0 0::tp 6 (.i y11_0::tp 20 [])), [(.box [(.u y4_d_0.a0), (.u y4_d_0.a1), (.u r17_1.1), (.u y4_d_0.a3)])], 0⟩ <| Tx <| Wz (.i (W6 (y11_0 + 1))) (Obn rfl (fun _ => hb_add (k := .i64))) <| Wm (.i (W6 (y11_0 + 1))) rfl <| Wn0 <| RoundK.normal ?_
       exact Rounds.weak (Weak.toK 2067 0 0 [0]) (ih_0 (fu_0, r17_1.2.1, (GArr4_Int_.mk y4_d_0.a0 y4_d_0.a1 r17_1.1 y4_d_0.a3), (W6 (y11_0 + 1))) hm (Nat.lt_succ_self _))
      ·
       replace hm := cF hq28_2_2 hm
       rcases tf_ (decide (y11_0 = 3)) with hq28_2_3 | hq28_2_3
       ·
        replace hm := cT hq28_2_3 hm
        refine Wz (.loc 0 3) (Ocs (by kernel_rfl) (op_iaddr_arr rfl (n := 4) (sz := 1) (y := (.loc 0 0)) (by kernel_rfl) (by kernel_rfl) (by kernel_rfl) (k := .i64) (iv := y11_0) (by kernel_rfl) (i := 3) (of_decide_eq_true hq28_2_3) (by decide))) <| Wy (.tup []) [(0, (.box [(.u y4_d_0.a0), (.u y4_d_0.a1), (.u y4_d_0.a2), (.u r17_1.1)]))] (Ost rfl) <| Wm (.i r17_1.2.1) rfl <| Wn0 <| Ino <| Tk 2067 1 ⟨.s p0::.i r17_1.2.1::tp 2 (.loc 0 0::tp 6 (.i y11_0::tp 20 [])), [(.box [(.u y4_d_0.a0), (.u y4_d_0.a1), (.u y4_d_0.a2), (.u r17_1.1)])], 0⟩ <| Tx <| Wz (.i (W6 (y11_0 + 1))) (Obn rfl (fun _ => hb_add (k := .i64))) <| Wm (.i (W6 (y11_0 + 1))) rfl <| Wn0 <| RoundK.normal ?_
        exact Rounds.weak (Weak.toK 2067 0 0 [0]) (ih_0 (fu_0, r17_1.2.1, (GArr4_Int_.mk y4_d_0.a0 y4_d_0.a1 y4_d_0.a2 r17_1.1), (W6 (y11_0 + 1))) hm (Nat.lt_succ_self _))
       ·
        replace hm := cF hq28_2_3 hm
        exact nomatch hm
  ·
   replace hm := cF hc12_3 hm
   refine AiF hc12_3 <| AWP.exit <| Then.exit <| RoundK.exit <| InBlock.same <| Tk 18 1 ⟨tp 1 (.i y1_0::tp 2 (.loc 0 0::tp 27 [])), [(.box [(.u y4_d_0.a0), (.u y4_d_0.a1), (.u y4_d_0.a2), (.u y4_d_0.a3)])], 0⟩ <| Sx <| Wz (.agg [(.u y4_d_0.a0), (.u y4_d_0.a1), (.u y4_d_0.a2), (.u y4_d_0.a3)]) (Old rfl) <| Wm (.i y1_0) rfl <| Wy (.tup []) [(0, (.box [(.u y4_d_0.a0), (.u y4_d_0.a1), (.u y4_d_0.a2), (.u y4_d_0.a3)]))] (Ost rfl) <| Wm (.i y1_0) rfl <| Wm (.i 0) rfl <| Nn <| Rt ?_
   obtain rfl := Option.some.inj hm
   exact ret_i []

theorem ok_event_number (p0 : Int) (p1 : Int) (r : Int) (h : m_event_number p0 p1 = some r) : GCall Tryd.prog 89 [(.u p0), (.i p1)] [] (.i r) [] := by
 refine GCall.of_body (n := 11) (rs := [(.tmp 4)]) Tryd.func89 rfl rfl rfl <| Ato ⟨.u p0::.i p1::tu 9 [], [], 0⟩ ?_
 have hm := h
 unfold m_event_number at hm
 refine Sx <| Wm (.i 0) rfl <| Nk 3 0 ⟨.u p0::.i p1::tp 9 [], [], 0⟩ <| Sq <| Sx <| Wm (.u p0) rfl <| Wm (.i p1) rfl <| Wz (.u (W7 p1)) (Oc2 (.int .i64 p1) rfl (run_conv (ds := .int .i64) (k' := .u64) (by kernel_rfl) (by kernel_rfl))) <| Wz (.b (decide ((W7 p1) < p0))) (Obn rfl (fun _ => hb_gtr (k := .u64))) <| Nk 257 0 ⟨.u p0::tp 7 (.b (decide ((W7 p1) < p0))::tp 2 []), [], 0⟩ ?_
 rcases tf_ (decide ((W7 p1) < p0)) with hc8_2 | hc8_2
 ·
  replace hm := cT hc8_2 hm
  refine AiT hc8_2 <| Sx <| Wm (.i (-1)) rfl <| Nn <| Rt <| Tr ?_
  obtain rfl := Option.some.inj hm
  exact ret_i []
 ·
  replace hm := cF hc8_2 hm
  refine AiF hc8_2 <| Sk <| Tk 1 0 ⟨.u p0::tp 10 [], [], 0⟩ <| Sx <| Wm (.u p0) rfl <| Wz (.i (W6 p0)) (Oc2 (.int .u64 p0) rfl (run_conv (ds := .int .u64) (k' := .i64) (by kernel_rfl) (by kernel_rfl))) <| Wm (.i (W6 p0)) rfl <| Nn <| Rt ?_
  obtain rfl := Option.some.inj hm
  exact ret_i []

theorem ok_zig_Back (p0 : Int) (r : Int) (h : m_zig_Back p0 = some r) : GCall Tryd.prog 92 [(.u p0)] [] (.i r) [] := by
 refine GCall.of_body (n := 11) (rs := [(.tmp 2)]) Tryd.func92 rfl rfl rfl <| Ato ⟨.u p0::tu 10 [], [], 0⟩ ?_
 have hm := h
 unfold m_zig_Back at hm
 refine Sx <| Wm (.i 0) rfl <| Nk 1 0 ⟨.u p0::tp 10 [], [], 0⟩ <| Sx <| Wm (.u p0) rfl <| Wz (.u (Int.fdiv p0 (2 ^ 1))) (Ob2 (.int .u64 p0) (.int .u64 1) rfl (fun _ => hb_shr (n := 1) (by decide) rfl)) <| Wz (.i (W6 (Int.fdiv p0 (2 ^ 1)))) (Oc2 (.int .u64 (Int.fdiv p0 (2 ^ 1))) rfl (run_conv (ds := .int .u64) (k' := .i64) (by kernel_rfl) (by kernel_rfl))) <| Wm (.u p0) rfl <| Wz (.u (W7 (((BitVec.ofInt 64 p0 &&& BitVec.ofInt 64 1).toNat : Int)))) (Ob2 (.int .u64 p0) (.int .u64 1) rfl (fun _ => hb_and)) <| Wz (.i (W6 (W7 (((BitVec.ofInt 64 p0 &&& BitVec.ofInt 64 1).toNat : Int))))) (Oc2 (.int .u64 (W7 (((BitVec.ofInt 64 p0 &&& BitVec.ofInt 64 1).toNat : Int)))) rfl (run_conv (ds := .int .u64) (k' := .i64) (by kernel_rfl) (by kernel_rfl))) ?_
 obtain ⟨v9_0, hv9_0, hm⟩ := bnd hm; replace hv9_0 := Option.some.inj hv9_0
 refine Wz (.i v9_0) (Ocs (Eq.trans (by kernel_rfl) (congrArg (fun z => A.d (.lit (.int .i64 z))) hv9_0)) (op_un rfl (a1 := .int .i64 (W6 (W7 (((BitVec.ofInt 64 p0 &&& BitVec.ofInt 64 1).toNat : Int))))) (by kernel_rfl) (fun _ => hu_neg))) ?_
 obtain ⟨v10_0, hv10_0, hm⟩ := bnd hm; replace hv10_0 := Option.some.inj hv10_0
 refine Wz (.i v10_0) (Ocs (Eq.trans (by kernel_rfl) (congrArg (fun z => A.d (.lit (.int .i64 z))) hv10_0)) (op_bin rfl (a1 := .int .i64 (W6 (Int.fdiv p0 (2 ^ 1)))) (a2 := .int .i64 v9_0) (by kernel_rfl) (by kernel_rfl) (fun _ => hb_xor))) <| Wm (.i v10_0) rfl <| Nn <| Rt ?_
 obtain rfl := Option.some.inj hm
 exact ret_i []

theorem ok_zig_TakeInt (p0 : (List UInt8)) (p1 : Int) (r : (Int × Int × Int)) (h : m_zig_TakeInt p0 p1 = some r) : GCall Tryd.prog 69 [(.s p0), (.i p1)] [] (.tup [(.i r.1), (.i r.2.1), (.i r.2.2)]) [] := by
 refine GCall.of_body (n := 19) (rs := [(.tmp 4), (.tmp 5), (.tmp 6)]) Tryd.func69 rfl rfl rfl <| Ato ⟨.s p0::.i p1::tu 17 [], [], 0⟩ ?_
 have hm := h
 unfold m_zig_TakeInt at hm
 refine Sx <| Wm (.i 0) rfl <| Wm (.i 0) rfl <| Wm (.i 0) rfl <| Nk 3 0 ⟨.s p0::.i p1::tp 17 [], [], 0⟩ <| Sx <| Wm (.s p0) rfl <| Wm (.i p1) rfl ?_
 obtain ⟨r11_0, hr11_0, hm⟩ := bnd hm
 refine Wz (.tup [(.u r11_0.1), (.i r11_0.2.1), (.i r11_0.2.2)]) (Ocf [] [] [] 0 (ok_zig_Take p0 p1 r11_0 hr11_0) (fun a w => Tryd.call91 a w) rfl trivial) <| Wm (.tup [(.u r11_0.1), (.i r11_0.2.1), (.i r11_0.2.2)]) rfl <| Wz (.u r11_0.1) (Oex rfl) <| Wz (.i r11_0.2.1) (Oex rfl) <| Wz (.i r11_0.2.2) (Oex rfl) <| Wm (.u r11_0.1) rfl <| Wm (.i r11_0.2.1) rfl <| Wm (.i r11_0.2.2) rfl <| Nk 224 0 ⟨tp 5 (.i r11_0.2.1::.i r11_0.2.2::.u r11_0.1::tp 11 []), [], 0⟩ <| Sx <| Wm (.u r11_0.1) rfl ?_
 obtain ⟨r16_1, hr16_1, hm⟩ := bnd hm
 refine Wz (.i r16_1) (Ocf [] [] [] 0 (ok_zig_Back r11_0.1 r16_1 hr16_1) (fun a w => Tryd.call92 a w) rfl trivial) <| Wm (.i r11_0.2.1) rfl <| Wm (.i r11_0.2.2) rfl <| Wm (.i r16_1) rfl <| Wm (.i r11_0.2.1) rfl <| Wm (.i r11_0.2.2) rfl <| Nn <| Rt ?_
 obtain rfl := Option.some.inj hm
 exact ret_i []

theorem ok_octet_Reader_Word (p0 : GReader) (r : (GReader × Int)) (h : m_octet_Reader_Word p0 = some r) : GCall Tryd.prog 111 [(.agg [(.s p0.Text), (.i p0.At), (.i p0.E)])] [] (.tup [(.agg [(.s r.1.Text), (.i r.1.At), (.i r.1.E)]), (.u r.2)]) [] := by
 refine GCall.of_body (n := 8) (rs := [(.cell 2 148), (.tmp 3)]) Tryd.func111 rfl rfl rfl <| Ato ⟨.agg [(.s p0.Text), (.i p0.At), (.i p0.E)]::tu 7 [], [], 0⟩ ?_
 have hm := h
 unfold m_octet_Reader_Word at hm
 refine Sx <| Wy (.loc 0 0) [(0, (.box [(.s p0.Text), (.i p0.At), (.i p0.E)]))] (Obx rfl) <| Wy (.loc 1 0) [(1, (.box [(.s ([] : List UInt8)), (.i 0), (.i 0)]))] (Oal rfl) <| Wm (.u 0) rfl <| Nk 6 3 ⟨tp 1 (.loc 0 0::.loc 1 0::tp 5 []), [(.box [(.s p0.Text), (.i p0.At), (.i p0.E)]), (.box [(.s ([] : List UInt8)), (.i 0), (.i 0)])], 0⟩ <| Sx <| Wz (.agg [(.s p0.Text), (.i p0.At), (.i p0.E)]) (Old rfl) ?_
 obtain ⟨r5_0, hr5_0, hm⟩ := bnd hm
 refine Wz (.tup [(.agg [(.s r5_0.1.Text), (.i r5_0.1.At), (.i r5_0.1.E)]), (.u r5_0.2)]) (Ocf [] [] [] 0 (ok_octet_Reader_take p0 8 r5_0 hr5_0) (fun a w => Tryd.call104 a w) rfl trivial) <| Wz (.agg [(.s r5_0.1.Text), (.i r5_0.1.At), (.i r5_0.1.E)]) (Oex rfl) <| Wz (.u r5_0.2) (Oex rfl) <| Wy (.tup []) [(1, (.box [(.s r5_0.1.Text), (.i r5_0.1.At), (.i r5_0.1.E)]))] (Ost rfl) <| Wm (.u r5_0.2) rfl <| Nn <| Rt ?_
 obtain rfl := Option.some.inj hm
 exact ret_i []

theorem ok_value_body (p0 : UInt8) (p1 : (List UInt8)) (p2 : Int) (r : (GValue × Int × Int)) (h : m_value_body p0 p1 p2 = some r) : GCall Tryd.prog 107 [(.y p0), (.s p1), (.i p2)] [] (.tup [(.agg [(.y r.1.Kind), (.i r.1.N), (.u r.1.Bits), (.s r.1.Text)]), (.i r.2.1), (.i r.2.2)]) [] := by
 refine GCall.of_body (n := 107) (rs := [(.cell 6 105), (.tmp 7), (.tmp 8)]) Tryd.func107 rfl rfl rfl <| Ato ⟨.y p0::.s p1::.i p2::tu 104 [], [], 0⟩ ?_
 have hm := h
 unfold m_value_body at hm
 refine Sx <| Wy (.loc 0 0) [(0, (.box [(.y 0), (.i 0), (.u 0), (.s ([] : List UInt8))]))] (Oal rfl) <| Wm (.i 0) rfl <| Wm (.i 0) rfl <| Nk 71 1 ⟨.y p0::.s p1::.i p2::tp 3 (.loc 0 0::tp 100 []), [(.box [(.y 0), (.i 0), (.u 0), (.s ([] : List UInt8))])], 0⟩ <| Sx <| Wm (.y p0) rfl <| Wz (.agg [(.y p0), (.i 0), (.u 0), (.s ([] : List UInt8))]) (Obd rfl) <| Wy (.loc 1 0) [(1, (.box [(.y 0), (.i 0), (.u 0), (.s ([] : List UInt8))]))] (Oal rfl) <| Wy (.tup []) [(1, (.box [(.y p0), (.i 0), (.u 0), (.s ([] : List UInt8))]))] (Ost rfl) <| Nk 583 3 ⟨.y p0::.s p1::.i p2::tp 3 (.loc 0 0::tp 2 (.loc 1 0::tp 97 [])), [(.box [(.y 0), (.i 0), (.u 0), (.s ([] : List UInt8))]), (.box [(.y p0), (.i 0), (.u 0), (.s ([] : List UInt8))])], 0⟩ <| Sq <| Sx <| Wm (.y p0) rfl ?_
 refine Nk 1049158 3 ⟨tp 1 (.s p1::.i p2::tp 3 (.loc 0 0::tp 2 (.loc 1 0::tp 10 (.y p0::tp 86 [])))), [(.box [(.y 0), (.i 0), (.u 0), (.s ([] : List UInt8))]), (.box [(.y p0), (.i 0), (.u 0), (.s ([] : List UInt8))])], 0⟩ <| Bk <| Sx <| Wz (.b (decide (((p0.toNat : Nat) : Int) = 1))) (Ob2 (.int .u8 ((p0.toNat : Nat) : Int)) (.int .u8 1) rfl (fun _ => hb_eql)) <| Wm (.b (decide (((p0.toNat : Nat) : Int) = 1))) rfl <| Nk 3146310 3 ⟨tp 1 (.s p1::.i p2::tp 3 (.loc 0 0::tp 2 (.loc 1 0::tp 10 (.y p0::.b (decide (((p0.toNat : Nat) : Int) = 1))::tp 85 [])))), [(.box [(.y 0), (.i 0), (.u 0), (.s ([] : List UInt8))]), (.box [(.y p0), (.i 0), (.u 0), (.s ([] : List UInt8))])], 0⟩ ?_
 rcases tf_ (decide (((p0.toNat : Nat) : Int) = 1)) with hc21_8 | hc21_8
 ·
  replace hm := cT hc21_8 hm
  refine AiT hc21_8 <| Sx <| Wm (.s p1) rfl <| Wm (.i p2) rfl ?_
  obtain ⟨r26_0, hr26_0, hm⟩ := bnd hm
  refine Wz (.tup [(.i r26_0.1), (.i r26_0.2.1), (.i r26_0.2.2)]) (Ocf [] [] [] 0 (ok_zig_TakeInt p1 p2 r26_0 hr26_0) (fun a w => Tryd.call69 a w) rfl trivial) <| Wm (.tup [(.i r26_0.1), (.i r26_0.2.1), (.i r26_0.2.2)]) rfl <| Wz (.i r26_0.1) (Oex rfl) <| Wz (.i r26_0.2.1) (Oex rfl) <| Wz (.i r26_0.2.2) (Oex rfl) <| Wm (.i r26_0.1) rfl <| Wm (.i r26_0.2.1) rfl <| Wm (.i r26_0.2.2) rfl <| Nk 7744 3 ⟨tp 6 (.loc 0 0::tp 2 (.loc 1 0::.i r26_0.1::.i r26_0.2.1::.i r26_0.2.2::tp 94 [])), [(.box [(.y 0), (.i 0), (.u 0), (.s ([] : List UInt8))]), (.box [(.y p0), (.i 0), (.u 0), (.s ([] : List UInt8))])], 0⟩ <| Sx <| Wm (.i r26_0.1) rfl <| Wz (.loc 1 1) (Ofa rfl) <| Wy (.tup []) [(1, (.box [(.y p0), (.i r26_0.1), (.u 0), (.s ([] : List UInt8))]))] (Ost rfl) <| Nk 6720 3 ⟨tp 6 (.loc 0 0::tp 2 (.loc 1 0::tp 1 (.i r26_0.2.1::.i r26_0.2.2::tp 94 []))), [(.box [(.y 0), (.i 0), (.u 0), (.s ([] : List UInt8))]), (.box [(.y p0), (.i r26_0.1), (.u 0), (.s ([] : List UInt8))])], 0⟩ ?_
  refine Sx <| Wz (.agg [(.y p0), (.i r26_0.1), (.u 0), (.s ([] : List UInt8))]) (Old rfl) <| Wm (.i r26_0.2.1) rfl <| Wm (.i r26_0.2.2) rfl <| Wy (.tup []) [(0, (.box [(.y p0), (.i r26_0.1), (.u 0), (.s ([] : List UInt8))]))] (Ost rfl) <| Wm (.i r26_0.2.1) rfl <| Wm (.i r26_0.2.2) rfl <| Nn <| Rt <| Ir <| Tr ?_
  obtain rfl := Option.some.inj hm
  exact ret_i []
 ·
  replace hm := cF hc21_8 hm
  refine AiF hc21_8 <| Sx <| Wz (.b (decide (((p0.toNat : Nat) : Int) = 2))) (Ob2 (.int .u8 ((p0.toNat : Nat) : Int)) (.int .u8 2) rfl (fun _ => hb_eql)) <| Wm (.b (decide (((p0.toNat : Nat) : Int) = 2))) rfl <| Nk 34360787526 3 ⟨tp 1 (.s p1::.i p2::tp 3 (.loc 0 0::tp 2 (.loc 1 0::tp 10 (.y p0::tp 14 (.b (decide (((p0.toNat : Nat) : Int) = 2))::tp 71 []))))), [(.box [(.y 0), (.i 0), (.u 0), (.s ([] : List UInt8))]), (.box [(.y p0), (.i 0), (.u 0), (.s ([] : List UInt8))])], 0⟩ ?_
  rcases tf_ (decide (((p0.toNat : Nat) : Int) = 2)) with hc35_9 | hc35_9
  ·
   replace hm := cT hc35_9 hm
   refine AiT hc35_9 <| Sq <| Sx <| Wm (.i p2) rfl <| Wm (.s p1) rfl <| Wz (.i ((List.length p1 : Nat) : Int)) (Oln rfl) <| Wz (.b (decide (p2 = ((List.length p1 : Nat) : Int)))) (Obn rfl (fun _ => hb_eql (k := .i64))) <| Nk 1099511628358 3 ⟨tp 1 (.s p1::.i p2::tp 3 (.loc 0 0::tp 2 (.loc 1 0::tp 30 (.b (decide (p2 = ((List.length p1 : Nat) : Int)))::tp 66 [])))), [(.box [(.y 0), (.i 0), (.u 0), (.s ([] : List UInt8))]), (.box [(.y p0), (.i 0), (.u 0), (.s ([] : List UInt8))])], 0⟩ ?_
   rcases tf_ (decide (p2 = ((List.length p1 : Nat) : Int))) with hc40_10 | hc40_10
   ·
    replace hm := cT hc40_10 hm
    refine AiT hc40_10 <| Sx <| Wz (.agg [(.y p0), (.i 0), (.u 0), (.s ([] : List UInt8))]) (Old rfl) <| Wy (.tup []) [(0, (.box [(.y p0), (.i 0), (.u 0), (.s ([] : List UInt8))]))] (Ost rfl) <| Wm (.i 0) rfl <| Wm (.i 3) rfl <| Nn <| Rt <| Tr <| Ir <| Tr ?_
    obtain rfl := Option.some.inj hm
    exact ret_i []
   ·
    replace hm := cF hc40_10 hm
    refine AiF hc40_10 <| Sk <| Tk 582 3 ⟨tp 1 (.s p1::.i p2::tp 3 (.loc 0 0::tp 2 (.loc 1 0::tp 97 []))), [(.box [(.y 0), (.i 0), (.u 0), (.s ([] : List UInt8))]), (.box [(.y p0), (.i 0), (.u 0), (.s ([] : List UInt8))])], 0⟩ <| Sx <| Wm (.s p1) rfl <| Wm (.i p2) rfl ?_
    obtain ⟨x44_2, hx44_2, hm⟩ := bnd hm
    obtain ⟨hx44_2i, hx44_2g⟩ := geti_some hx44_2
    refine Wz (.y x44_2) (Ocs (by kernel_rfl) (op_index_str rfl (by kernel_rfl) (s := toS p1) (by kernel_rfl) (k := .i64) (iv := p2) (by kernel_rfl) (i := (Int.toNat p2)) (hx44_2i) (b := x44_2) (hx44_2g))) <| Wz (.i ((x44_2.toNat : Nat) : Int)) (Ocs (lit_int (wrap_of_u8 (by decide) _)) (op_convert rfl (a1 := .int .u8 ((x44_2.toNat : Nat) : Int)) (by kernel_rfl) (run_conv (ds := .int .u8) (k' := .i64) (by kernel_rfl) (by kernel_rfl)))) <| Wz (.loc 1 1) (Ofa rfl) <| Wy (.tup []) [(1, (.box [(.y p0), (.i ((x44_2.toNat : Nat) : Int)), (.u 0), (.s ([] : List UInt8))]))] (Ost rfl) <| Nk 580 3 ⟨tp 2 (.i p2::tp 3 (.loc 0 0::tp 2 (.loc 1 0::tp 97 []))), [(.box [(.y 0), (.i 0), (.u 0), (.s ([] : List UInt8))]), (.box [(.y p0), (.i ((x44_2.toNat : Nat) : Int)), (.u 0), (.s ([] : List UInt8))])], 0⟩ <| Sx <| Wz (.agg [(.y p0), (.i ((x44_2.toNat : Nat) : Int)), (.u 0), (.s ([] : List UInt8))]) (Old rfl) <| Wm (.i p2) rfl <| Wz (.i (W6 (p2 + 1))) (Obn rfl (fun _ => hb_add (k := .i64))) <| Wy (.tup []) [(0, (.box [(.y p0), (.i ((x44_2.toNat : Nat) : Int)), (.u 0), (.s ([] : List UInt8))]))] (Ost rfl) <| Wm (.i (W6 (p2 + 1))) rfl <| Wm (.i 0) rfl <| Nn <| Rt ?_
    refine Ir <| Tr ?_
    obtain rfl := Option.some.inj hm
    exact ret_i []
  ·
   replace hm := cF hc35_9 hm
   refine AiF hc35_9 <| Sx <| Wz (.b (decide (((p0.toNat : Nat) : Int) = 3))) (Ob2 (.int .u8 ((p0.toNat : Nat) : Int)) (.int .u8 3) rfl (fun _ => hb_eql)) <| Wm (.b (decide (((p0.toNat : Nat) : Int) = 3))) rfl <| Nk 1125899907891782 3 ⟨tp 1 (.s p1::.i p2::tp 3 (.loc 0 0::tp 2 (.loc 1 0::tp 10 (.y p0::tp 29 (.b (decide (((p0.toNat : Nat) : Int) = 3))::tp 56 []))))), [(.box [(.y 0), (.i 0), (.u 0), (.s ([] : List UInt8))]), (.box [(.y p0), (.i 0), (.u 0), (.s ([] : List UInt8))])], 0⟩ ?_
   rcases tf_ (decide (((p0.toNat : Nat) : Int) = 3)) with hc50_11 | hc50_11
   ·
    replace hm := cT hc50_11 hm
    refine AiT hc50_11 <| Sx <| Wm (.s p1) rfl <| Wm (.i p2) rfl ?_
    obtain ⟨s55_3, hs55_3, hm⟩ := bnd hm; obtain ⟨hs55_3a, hs55_3b, hs55_3c, hs55_3d, hs55_3e⟩ := cut_some hs55_3
    refine Wz (.s s55_3) (Ocs (lit_str (toS_cut hs55_3e)) (op_slice_str rfl (by kernel_rfl) (s := toS p1) (by kernel_rfl) (l := (Int.toNat p2)) (h := (Int.toNat ((List.length p1 : Nat) : Int))) (⟨.i64, p2, by kernel_rfl, hs55_3a⟩) (by exact rfl) hs55_3c hs55_3d)) ?_
    obtain ⟨r56_3, hr56_3, hm⟩ := bnd hm
    refine Wz (.agg [(.s r56_3.Text), (.i r56_3.At), (.i r56_3.E)]) (Ocf [] [] [] 0 (ok_octet_Open s55_3 r56_3 hr56_3) (fun a w => Tryd.call86 a w) rfl trivial) ?_
    obtain ⟨r57_3, hr57_3, hm⟩ := bnd hm
    refine Wz (.tup [(.agg [(.s r57_3.1.Text), (.i r57_3.1.At), (.i r57_3.1.E)]), (.u r57_3.2)]) (Ocf [] [] [] 0 (ok_octet_Reader_Word r56_3 r57_3 hr57_3) (fun a w => Tryd.call111 a w) rfl trivial) <| Wm (.tup [(.agg [(.s r57_3.1.Text), (.i r57_3.1.At), (.i r57_3.1.E)]), (.u r57_3.2)]) rfl <| Wz (.agg [(.s r57_3.1.Text), (.i r57_3.1.At), (.i r57_3.1.E)]) (Oex rfl) <| Wz (.u r57_3.2) (Oex rfl) <| Wy (.loc 2 0) [(2, (.box [(.s ([] : List UInt8)), (.i 0), (.i 0)]))] (Oal rfl) <| Wy (.tup []) [(2, (.box [(.s r57_3.1.Text), (.i r57_3.1.At), (.i r57_3.1.E)]))] (Ost rfl) <| Wm (.u r57_3.2) rfl <| Nk 25156 7 ⟨tp 2 (.i p2::tp 3 (.loc 0 0::tp 2 (.loc 1 0::tp 3 (.loc 2 0::.u r57_3.2::tp 92 [])))), [(.box [(.y 0), (.i 0), (.u 0), (.s ([] : List UInt8))]), (.box [(.y p0), (.i 0), (.u 0), (.s ([] : List UInt8))]), (.box [(.s r57_3.1.Text), (.i r57_3.1.At), (.i r57_3.1.E)])], 0⟩ <| Sx <| Wm (.u r57_3.2) rfl <| Wz (.loc 1 2) (Ofa rfl) <| Wy (.tup []) [(1, (.box [(.y p0), (.i 0), (.u r57_3.2), (.s ([] : List UInt8))]))] (Ost rfl) <| Nk 8772 7 ⟨tp 2 (.i p2::tp 3 (.loc 0 0::tp 2 (.loc 1 0::tp 3 (.loc 2 0::tp 93 [])))), [(.box [(.y 0), (.i 0), (.u 0), (.s ([] : List UInt8))]), (.box [(.y p0), (.i 0), (.u r57_3.2), (.s ([] : List UInt8))]), (.box [(.s r57_3.1.Text), (.i r57_3.1.At), (.i r57_3.1.E)])], 0⟩ <| Sq ?_
    refine Adr <| Wz (.agg [(.y p0), (.i 0), (.u r57_3.2), (.s ([] : List UInt8))]) (Old rfl) <| Wm (.i p2) rfl <| Wz (.loc 2 1) (Ofa rfl) <| Wz (.i r57_3.1.At) (Old rfl) <| Wz (.i (W6 (p2 + r57_3.1.At))) (Obn rfl (fun _ => hb_add (k := .i64))) <| Wz (.loc 2 2) (Ofa rfl) <| Wz (.i r57_3.1.E) (Old rfl) <| Wy (.tup []) [(0, (.box [(.y p0), (.i 0), (.u r57_3.2), (.s ([] : List UInt8))]))] (Ost rfl) <| Wm (.i (W6 (p2 + r57_3.1.At))) rfl <| Wm (.i r57_3.1.E) rfl <| Wdr <| Tn <| Rt ?_
    refine Ir <| Tr ?_
    obtain rfl := Option.some.inj hm
    exact ret_i []
   ·
    replace hm := cF hc50_11 hm
    refine AiF hc50_11 <| Sx <| Wz (.b (decide (((p0.toNat : Nat) : Int) = 4))) (Ob2 (.int .u8 ((p0.toNat : Nat) : Int)) (.int .u8 4) rfl (fun _ => hb_eql)) <| Wm (.b (decide (((p0.toNat : Nat) : Int) = 4))) rfl <| Nk 590295810358705652294 3 ⟨tp 1 (.s p1::.i p2::tp 3 (.loc 0 0::tp 2 (.loc 1 0::tp 59 (.b (decide (((p0.toNat : Nat) : Int) = 4))::tp 37 [])))), [(.box [(.y 0), (.i 0), (.u 0), (.s ([] : List UInt8))]), (.box [(.y p0), (.i 0), (.u 0), (.s ([] : List UInt8))])], 0⟩ ?_
    rcases tf_ (decide (((p0.toNat : Nat) : Int) = 4)) with hc69_12 | hc69_12
    ·
     replace hm := cT hc69_12 hm
     refine AiT hc69_12 <| Sx <| Wm (.s p1) rfl <| Wm (.i p2) rfl ?_
     obtain ⟨r74_4, hr74_4, hm⟩ := bnd hm
     refine Wz (.tup [(.u r74_4.1), (.i r74_4.2.1), (.i r74_4.2.2)]) (Ocf [] [] [] 0 (ok_zig_Take p1 p2 r74_4 hr74_4) (fun a w => Tryd.call91 a w) rfl trivial) <| Wm (.tup [(.u r74_4.1), (.i r74_4.2.1), (.i r74_4.2.2)]) rfl <| Wz (.u r74_4.1) (Oex rfl) <| Wz (.i r74_4.2.1) (Oex rfl) <| Wz (.i r74_4.2.2) (Oex rfl) <| Wm (.u r74_4.1) rfl <| Wm (.i r74_4.2.1) rfl <| Wm (.i r74_4.2.2) rfl <| Nk 229954 3 ⟨tp 1 (.s p1::tp 4 (.loc 0 0::tp 2 (.loc 1 0::tp 5 (.u r74_4.1::.i r74_4.2.1::.i r74_4.2.2::tp 89 [])))), [(.box [(.y 0), (.i 0), (.u 0), (.s ([] : List UInt8))]), (.box [(.y p0), (.i 0), (.u 0), (.s ([] : List UInt8))])], 0⟩ <| Sq <| Sx <| Wm (.i r74_4.2.2) rfl <| Wz (.b (decide (r74_4.2.2 ≠ 0))) (Obn rfl (fun _ => hb_neq (k := .i64))) <| Nk 604462909807314587583042 3 ⟨tp 1 (.s p1::tp 4 (.loc 0 0::tp 2 (.loc 1 0::tp 5 (.u r74_4.1::.i r74_4.2.1::.i r74_4.2.2::tp 61 (.b (decide (r74_4.2.2 ≠ 0))::tp 27 []))))), [(.box [(.y 0), (.i 0), (.u 0), (.s ([] : List UInt8))]), (.box [(.y p0), (.i 0), (.u 0), (.s ([] : List UInt8))])], 0⟩ ?_
     rcases tf_ (decide (r74_4.2.2 ≠ 0)) with hc79_13 | hc79_13
     ·
      replace hm := cT hc79_13 hm
      refine AiT hc79_13 <| Sx <| Wz (.agg [(.y p0), (.i 0), (.u 0), (.s ([] : List UInt8))]) (Old rfl) <| Wm (.i r74_4.2.2) rfl <| Wy (.tup []) [(0, (.box [(.y p0), (.i 0), (.u 0), (.s ([] : List UInt8))]))] (Ost rfl) <| Wm (.i 0) rfl <| Wm (.i r74_4.2.2) rfl <| Nn <| Rt <| Tr <| Ir <| Tr ?_
      obtain rfl := Option.some.inj hm
      exact ret_i []
     ·
      replace hm := cF hc79_13 hm
      refine AiF hc79_13 <| Sk <| Tk 98882 3 ⟨tp 1 (.s p1::tp 4 (.loc 0 0::tp 2 (.loc 1 0::tp 5 (.u r74_4.1::.i r74_4.2.1::tp 90 [])))), [(.box [(.y 0), (.i 0), (.u 0), (.s ([] : List UInt8))]), (.box [(.y p0), (.i 0), (.u 0), (.s ([] : List UInt8))])], 0⟩ <| Sq <| Sx <| Wm (.u r74_4.1) rfl <| Wz (.b (decide ((24 : Int) < r74_4.1))) (Obn rfl (fun _ => hb_gtr (k := .u64))) <| Nk 9671406556917033397748290 3 ⟨tp 1 (.s p1::tp 4 (.loc 0 0::tp 2 (.loc 1 0::tp 5 (.u r74_4.1::.i r74_4.2.1::tp 66 (.b (decide ((24 : Int) < r74_4.1))::tp 23 []))))), [(.box [(.y 0), (.i 0), (.u 0), (.s ([] : List UInt8))]), (.box [(.y p0), (.i 0), (.u 0), (.s ([] : List UInt8))])], 0⟩ ?_
      rcases tf_ (decide ((24 : Int) < r74_4.1)) with hc83_14 | hc83_14
      ·
       replace hm := cT hc83_14 hm
       refine AiT hc83_14 <| Sx <| Wz (.agg [(.y p0), (.i 0), (.u 0), (.s ([] : List UInt8))]) (Old rfl) <| Wy (.tup []) [(0, (.box [(.y p0), (.i 0), (.u 0), (.s ([] : List UInt8))]))] (Ost rfl) <| Wm (.i 0) rfl <| Wm (.i 5) rfl <| Nn <| Rt <| Tr <| Ir <| Tr ?_
       obtain rfl := Option.some.inj hm
       exact ret_i []
      ·
       replace hm := cF hc83_14 hm
       refine AiF hc83_14 <| Sk <| Tk 98882 3 ⟨tp 1 (.s p1::tp 4 (.loc 0 0::tp 2 (.loc 1 0::tp 5 (.u r74_4.1::.i r74_4.2.1::tp 90 [])))), [(.box [(.y 0), (.i 0), (.u 0), (.s ([] : List UInt8))]), (.box [(.y p0), (.i 0), (.u 0), (.s ([] : List UInt8))])], 0⟩ <| Sq <| Sx <| Wm (.s p1) rfl <| Wz (.i ((List.length p1 : Nat) : Int)) (Oln rfl) <| Wm (.i r74_4.2.1) rfl <| Wz (.i (W6 (((List.length p1 : Nat) : Int) - r74_4.2.1))) (Obn rfl (fun _ => hb_sub (k := .i64))) <| Wm (.u r74_4.1) rfl <| Wz (.i (W6 r74_4.1)) (Oc2 (.int .u64 r74_4.1) rfl (run_conv (ds := .int .u64) (k' := .i64) (by kernel_rfl) (by kernel_rfl))) <| Wz (.b (decide ((W6 (((List.length p1 : Nat) : Int) - r74_4.2.1)) < (W6 r74_4.1)))) (Obn rfl (fun _ => hb_lss (k := .i64))) <| Nk 2475880078570760549798347330 3 ⟨tp 1 (.s p1::tp 4 (.loc 0 0::tp 2 (.loc 1 0::tp 5 (.u r74_4.1::.i r74_4.2.1::tp 74 (.b (decide ((W6 (((List.length p1 : Nat) : Int) - r74_4.2.1)) < (W6 r74_4.1)))::tp 15 []))))), [(.box [(.y 0), (.i 0), (.u 0), (.s ([] : List UInt8))]), (.box [(.y p0), (.i 0), (.u 0), (.s ([] : List UInt8))])], 0⟩ ?_
       rcases tf_ (decide ((W6 (((List.length p1 : Nat) : Int) - r74_4.2.1)) < (W6 r74_4.1))) with hc91_15 | hc91_15
       ·
        replace hm := cT hc91_15 hm
        refine AiT hc91_15 <| Sx <| Wz (.agg [(.y p0), (.i 0), (.u 0), (.s ([] : List UInt8))]) (Old rfl) <| Wy (.tup []) [(0, (.box [(.y p0), (.i 0), (.u 0), (.s ([] : List UInt8))]))] (Ost rfl) <| Wm (.i 0) rfl <| Wm (.i 3) rfl <| Nn <| Rt <| Tr <| Ir <| Tr ?_
        obtain rfl := Option.some.inj hm
        exact ret_i []
       ·
        replace hm := cF hc91_15 hm
        refine AiF hc91_15 <| Sk <| Tk 98882 3 ⟨tp 1 (.s p1::tp 4 (.loc 0 0::tp 2 (.loc 1 0::tp 5 (.u r74_4.1::.i r74_4.2.1::tp 90 [])))), [(.box [(.y 0), (.i 0), (.u 0), (.s ([] : List UInt8))]), (.box [(.y p0), (.i 0), (.u 0), (.s ([] : List UInt8))])], 0⟩ <| Sx <| Wm (.s p1) rfl <| Wm (.i r74_4.2.1) rfl <| Wm (.i r74_4.2.1) rfl <| Wm (.u r74_4.1) rfl <| Wz (.i (W6 r74_4.1)) (Oc2 (.int .u64 r74_4.1) rfl (run_conv (ds := .int .u64) (k' := .i64) (by kernel_rfl) (by kernel_rfl))) <| Wz (.i (W6 (r74_4.2.1 + (W6 r74_4.1)))) (Obn rfl (fun _ => hb_add (k := .i64))) ?_
        obtain ⟨s99_6, hs99_6, hm⟩ := bnd hm; obtain ⟨hs99_6a, hs99_6b, hs99_6c, hs99_6d, hs99_6e⟩ := cut_some hs99_6
        refine Wz (.s s99_6) (Ocs (lit_str (toS_cut hs99_6e)) (op_slice_str rfl (by kernel_rfl) (s := toS p1) (by kernel_rfl) (l := (Int.toNat r74_4.2.1)) (h := (Int.toNat (W6 (r74_4.2.1 + (W6 r74_4.1))))) (⟨.i64, r74_4.2.1, by kernel_rfl, hs99_6a⟩) (⟨.i64, (W6 (r74_4.2.1 + (W6 r74_4.1))), by kernel_rfl, hs99_6b⟩) hs99_6c hs99_6d)) <| Wz (.loc 1 3) (Ofa rfl) <| Wy (.tup []) [(1, (.box [(.y p0), (.i 0), (.u 0), (.s s99_6)]))] (Ost rfl) <| Nk 98880 3 ⟨tp 6 (.loc 0 0::tp 2 (.loc 1 0::tp 5 (.u r74_4.1::.i r74_4.2.1::tp 90 []))), [(.box [(.y 0), (.i 0), (.u 0), (.s ([] : List UInt8))]), (.box [(.y p0), (.i 0), (.u 0), (.s s99_6)])], 0⟩ <| Sx <| Wz (.agg [(.y p0), (.i 0), (.u 0), (.s s99_6)]) (Old rfl) <| Wm (.i r74_4.2.1) rfl <| Wm (.u r74_4.1) rfl <| Wz (.i (W6 r74_4.1)) (Oc2 (.int .u64 r74_4.1) rfl (run_conv (ds := .int .u64) (k' := .i64) (by kernel_rfl) (by kernel_rfl))) <| Wz (.i (W6 (r74_4.2.1 + (W6 r74_4.1)))) (Obn rfl (fun _ => hb_add (k := .i64))) <| Wy (.tup []) [(0, (.box [(.y p0), (.i 0), (.u 0), (.s s99_6)]))] (Ost rfl) <| Wm (.i (W6 (r74_4.2.1 + (W6 r74_4.1)))) rfl <| Wm (.i 0) rfl <| Nn ?_
        refine Rt <| Ir <| Tr ?_
        obtain rfl := Option.some.inj hm
        exact ret_i []
    ·
     replace hm := cF hc69_12 hm
     refine AiF hc69_12 <| Sk <| Ino <| Tk 576 3 ⟨tp 6 (.loc 0 0::tp 2 (.loc 1 0::tp 97 [])), [(.box [(.y 0), (.i 0), (.u 0), (.s ([] : List UInt8))]), (.box [(.y p0), (.i 0), (.u 0), (.s ([] : List UInt8))])], 0⟩ <| Sx <| Wz (.agg [(.y p0), (.i 0), (.u 0), (.s ([] : List UInt8))]) (Old rfl) <| Wy (.tup []) [(0, (.box [(.y p0), (.i 0), (.u 0), (.s ([] : List UInt8))]))] (Ost rfl) <| Wm (.i 0) rfl <| Wm (.i 11) rfl <| Nn <| Rt ?_
     obtain rfl := Option.some.inj hm
     exact ret_i []

theorem ok_value_Take (p0 : (List UInt8)) (p1 : Int) (r : (GValue × Int × Int)) (h : m_value_Take p0 p1 = some r) : GCall Tryd.prog 90 [(.s p0), (.i p1)] [] (.tup [(.agg [(.y r.1.Kind), (.i r.1.N), (.u r.1.Bits), (.s r.1.Text)]), (.i r.2.1), (.i r.2.2)]) [] := by
 refine GCall.of_body (n := 42) (rs := [(.cell 4 105), (.tmp 5), (.tmp 6)]) Tryd.func90 rfl rfl rfl <| Ato ⟨.s p0::.i p1::tu 40 [], [], 0⟩ ?_
 have hm := h
 unfold m_value_Take at hm
 refine Sx <| Wy (.loc 0 0) [(0, (.box [(.y 0), (.i 0), (.u 0), (.s ([] : List UInt8))]))] (Oal rfl) <| Wm (.i 0) rfl <| Wm (.i 0) rfl <| Nk 19 1 ⟨.s p0::.i p1::tp 2 (.loc 0 0::tp 37 []), [(.box [(.y 0), (.i 0), (.u 0), (.s ([] : List UInt8))])], 0⟩ <| Sq <| Sx <| Wm (.i p1) rfl <| Wz (.b (decide (p1 < 0))) (Obn rfl (fun _ => hb_lss (k := .i64))) ?_
 rcases tf_ (decide (p1 < 0)) with hq9_0 | hq9_0
 ·
  replace hm := cT hq9_0 hm
  refine Wz (.b true) (Oq hq9_0 rfl) <| Wn <| Wn <| Wn <| Wn <| Wz (.b true) (OpT rfl) <| Nk 16403 1 ⟨.s p0::.i p1::tp 2 (.loc 0 0::tp 9 (.b true::tp 27 [])), [(.box [(.y 0), (.i 0), (.u 0), (.s ([] : List UInt8))])], 0⟩ <| AWP.if_ true (by kernel_rfl) <| Sx <| Wz (.agg [(.y 0), (.i 0), (.u 0), (.s ([] : List UInt8))]) (Obd rfl) <| Wy (.tup []) [(0, (.box [(.y 0), (.i 0), (.u 0), (.s ([] : List UInt8))]))] (Ost rfl) <| Wm (.i 0) rfl <| Wm (.i 2) rfl <| Nn ?_
  refine Rt <| Tr ?_
  obtain rfl := Option.some.inj hm
  exact ret_i []
 ·
  replace hm := cF hq9_0 hm
  refine Wz (.b false) (Oq hq9_0 rfl) <| Wm (.i p1) rfl <| Wm (.s p0) rfl <| Wz (.i ((List.length p0 : Nat) : Int)) (Oln rfl) <| Wz (.b (decide (((List.length p0 : Nat) : Int) < p1))) (Obn rfl (fun _ => hb_gtr (k := .i64))) <| Wz (.b (decide (((List.length p0 : Nat) : Int) < p1))) (OpF rfl) <| Nk 16403 1 ⟨.s p0::.i p1::tp 2 (.loc 0 0::tp 9 (.b (decide (((List.length p0 : Nat) : Int) < p1))::tp 27 [])), [(.box [(.y 0), (.i 0), (.u 0), (.s ([] : List UInt8))])], 0⟩ ?_
  rcases tf_ (decide (((List.length p0 : Nat) : Int) < p1)) with hc14_5 | hc14_5
  ·
   replace hm := cT hc14_5 hm
   refine AiT hc14_5 <| Sx <| Wz (.agg [(.y 0), (.i 0), (.u 0), (.s ([] : List UInt8))]) (Obd rfl) <| Wy (.tup []) [(0, (.box [(.y 0), (.i 0), (.u 0), (.s ([] : List UInt8))]))] (Ost rfl) <| Wm (.i 0) rfl <| Wm (.i 2) rfl <| Nn <| Rt <| Tr ?_
   obtain rfl := Option.some.inj hm
   exact ret_i []
  ·
   replace hm := cF hc14_5 hm
   refine AiF hc14_5 <| Sk <| Tk 19 1 ⟨.s p0::.i p1::tp 2 (.loc 0 0::tp 37 []), [(.box [(.y 0), (.i 0), (.u 0), (.s ([] : List UInt8))])], 0⟩ <| Sq <| Sx <| Wm (.i p1) rfl <| Wm (.s p0) rfl <| Wz (.i ((List.length p0 : Nat) : Int)) (Oln rfl) <| Wz (.b (decide (p1 = ((List.length p0 : Nat) : Int)))) (Obn rfl (fun _ => hb_eql (k := .i64))) <| Nk 524307 1 ⟨.s p0::.i p1::tp 2 (.loc 0 0::tp 14 (.b (decide (p1 = ((List.length p0 : Nat) : Int)))::tp 22 [])), [(.box [(.y 0), (.i 0), (.u 0), (.s ([] : List UInt8))])], 0⟩ ?_
   rcases tf_ (decide (p1 = ((List.length p0 : Nat) : Int))) with hc19_6 | hc19_6
   ·
    replace hm := cT hc19_6 hm
    refine AiT hc19_6 <| Sx <| Wz (.agg [(.y 0), (.i 0), (.u 0), (.s ([] : List UInt8))]) (Obd rfl) <| Wy (.tup []) [(0, (.box [(.y 0), (.i 0), (.u 0), (.s ([] : List UInt8))]))] (Ost rfl) <| Wm (.i 0) rfl <| Wm (.i 3) rfl <| Nn <| Rt <| Tr ?_
    obtain rfl := Option.some.inj hm
    exact ret_i []
   ·
    replace hm := cF hc19_6 hm
    refine AiF hc19_6 <| Sk <| Tk 19 1 ⟨.s p0::.i p1::tp 2 (.loc 0 0::tp 37 []), [(.box [(.y 0), (.i 0), (.u 0), (.s ([] : List UInt8))])], 0⟩ <| Sx <| Wm (.s p0) rfl <| Wm (.i p1) rfl ?_
    obtain ⟨x24_2, hx24_2, hm⟩ := bnd hm
    obtain ⟨hx24_2i, hx24_2g⟩ := geti_some hx24_2
    refine Wz (.y x24_2) (Ocs (by kernel_rfl) (op_index_str rfl (by kernel_rfl) (s := toS p0) (by kernel_rfl) (k := .i64) (iv := p1) (by kernel_rfl) (i := (Int.toNat p1)) (hx24_2i) (b := x24_2) (hx24_2g))) <| Wm (.s p0) rfl <| Wm (.i p1) rfl <| Wz (.i (W6 (p1 + 1))) (Obn rfl (fun _ => hb_add (k := .i64))) ?_
    obtain ⟨r28_2, hr28_2, hm⟩ := bnd hm
    refine Wz (.tup [(.agg [(.y r28_2.1.Kind), (.i r28_2.1.N), (.u r28_2.1.Bits), (.s r28_2.1.Text)]), (.i r28_2.2.1), (.i r28_2.2.2)]) (Ocf [] [] [] 0 (ok_value_body x24_2 p0 (W6 (p1 + 1)) r28_2 hr28_2) (fun a w => Tryd.call107 a w) rfl trivial) <| Wm (.tup [(.agg [(.y r28_2.1.Kind), (.i r28_2.1.N), (.u r28_2.1.Bits), (.s r28_2.1.Text)]), (.i r28_2.2.1), (.i r28_2.2.2)]) rfl <| Wz (.agg [(.y r28_2.1.Kind), (.i r28_2.1.N), (.u r28_2.1.Bits), (.s r28_2.1.Text)]) (Oex rfl) <| Wz (.i r28_2.2.1) (Oex rfl) <| Wz (.i r28_2.2.2) (Oex rfl) <| Wy (.tup []) [(0, (.box [(.y r28_2.1.Kind), (.i r28_2.1.N), (.u r28_2.1.Bits), (.s r28_2.1.Text)]))] (Ost rfl) <| Wm (.i r28_2.2.1) rfl <| Wm (.i r28_2.2.2) rfl <| Nk 112 1 ⟨tp 4 (.loc 0 0::.i r28_2.2.1::.i r28_2.2.2::tp 35 []), [(.box [(.y r28_2.1.Kind), (.i r28_2.1.N), (.u r28_2.1.Bits), (.s r28_2.1.Text)])], 0⟩ ?_
    refine AWP.cutJ (α := Int) (fun x => match x with | y6_4 => (⟨tp 4 (.loc 0 0::.i r28_2.2.1::.i y6_4::tp 35 []), [(.box [(.y r28_2.1.Kind), (.i r28_2.1.N), (.u r28_2.1.Bits), (.s r28_2.1.Text)])], 0⟩ : St)) (fun x => match x with | y6_4 => m_value_Take_j4 r28_2 y6_4 = some r) ?_ (fun J4 => ?_)
    ·
     rintro y6_4 hm
     try dsimp only at hm ⊢
     unfold m_value_Take_j4 at hm
     refine Sq <| Sx <| Wm (.i y6_4) rfl <| Wz (.b (decide (y6_4 ≠ 0))) (Obn rfl (fun _ => hb_neq (k := .i64))) <| Nk 137438953584 1 ⟨tp 4 (.loc 0 0::.i r28_2.2.1::.i y6_4::tp 30 (.b (decide (y6_4 ≠ 0))::tp 4 [])), [(.box [(.y r28_2.1.Kind), (.i r28_2.1.N), (.u r28_2.1.Bits), (.s r28_2.1.Text)])], 0⟩ ?_
     rcases tf_ (decide (y6_4 ≠ 0)) with hc37_7 | hc37_7
     ·
      replace hm := cT hc37_7 hm
      refine AiT hc37_7 <| Sx <| Wz (.agg [(.y 0), (.i 0), (.u 0), (.s ([] : List UInt8))]) (Obd rfl) <| Wm (.i y6_4) rfl <| Wy (.tup []) [(0, (.box [(.y 0), (.i 0), (.u 0), (.s ([] : List UInt8))]))] (Ost rfl) <| Wm (.i 0) rfl <| Wm (.i y6_4) rfl <| Nn <| Rt <| Tr ?_
      obtain rfl := Option.some.inj hm
      exact ret_i []
     ·
      replace hm := cF hc37_7 hm
      refine AiF hc37_7 <| Sk <| Tk 48 1 ⟨tp 4 (.loc 0 0::.i r28_2.2.1::tp 36 []), [(.box [(.y r28_2.1.Kind), (.i r28_2.1.N), (.u r28_2.1.Bits), (.s r28_2.1.Text)])], 0⟩ <| Sx <| Wz (.agg [(.y r28_2.1.Kind), (.i r28_2.1.N), (.u r28_2.1.Bits), (.s r28_2.1.Text)]) (Old rfl) <| Wm (.i r28_2.2.1) rfl <| Wy (.tup []) [(0, (.box [(.y r28_2.1.Kind), (.i r28_2.1.N), (.u r28_2.1.Bits), (.s r28_2.1.Text)]))] (Ost rfl) <| Wm (.i r28_2.2.1) rfl <| Wm (.i 0) rfl <| Nn <| Rt ?_
      obtain rfl := Option.some.inj hm
      exact ret_i []
    refine Sq <| Sx <| Wm (.i r28_2.2.2) rfl <| Wz (.b (decide (r28_2.2.2 = 0))) (Obn rfl (fun _ => hb_eql (k := .i64))) <| Nk 8589934704 1 ⟨tp 4 (.loc 0 0::.i r28_2.2.1::.i r28_2.2.2::tp 26 (.b (decide (r28_2.2.2 = 0))::tp 8 [])), [(.box [(.y r28_2.1.Kind), (.i r28_2.1.N), (.u r28_2.1.Bits), (.s r28_2.1.Text)])], 0⟩ ?_
    rcases tf_ (decide (r28_2.2.2 = 0)) with hc33_8 | hc33_8
    ·
     replace hm := cT hc33_8 hm
     refine AiT hc33_8 <| Tx <| Wz (.agg [(.y r28_2.1.Kind), (.i r28_2.1.N), (.u r28_2.1.Bits), (.s r28_2.1.Text)]) (Old rfl) ?_
     obtain ⟨r35_3, hr35_3, hm⟩ := bnd hm
     refine Wz (.i r35_3) (Ocf [] [] [] 0 (ok_value_Check r28_2.1 r35_3 hr35_3) (fun a w => Tryd.call76 a w) rfl trivial) <| Wm (.i r35_3) rfl <| Nn ?_
     exact AWP.weak (Weak.toK 112 0 0 [0]) (J4 (r35_3) hm)
    ·
     replace hm := cF hc33_8 hm
     refine AiF hc33_8 <| Sk <| Tn ?_
     exact AWP.weak (Weak.toK 112 0 0 [0]) (J4 (r28_2.2.2) hm)

theorem ok_event_Take (p0 : (List GType)) (p1 : (List UInt8)) (p2 : Int) (r : (GEvent × Int × Int)) (h : m_event_Take p0 p1 p2 = some r) : GCall Tryd.prog 68 [(.l enc_GType p0), (.s p1), (.i p2)] [] (.tup [(.agg [(.i r.1.Time), (.i r.1.Source), (.i r.1.Seq), (.s r.1.Type_), (.own 0)]), (.i r.2.1), (.i r.2.2)]) [(Ar 105 4 enc_GValue r.1.Vals)] := by
 refine GCall.of_body (n := 98) (rs := [(.cell 6 37), (.tmp 7), (.tmp 8)]) Tryd.func68 rfl rfl rfl <| Ato ⟨.l enc_GType p0::.s p1::.i p2::tu 95 [], [], 0⟩ ?_
 have hm := h
 unfold m_event_Take at hm
 refine Sx <| Wy (.loc 0 0) [(0, (.box [(.i 0), (.i 0), (.i 0), (.s ([] : List UInt8)), (.d .nil)]))] (Oal rfl) <| Wm (.i 0) rfl <| Wm (.i 0) rfl <| Nk 71 1 ⟨.l enc_GType p0::.s p1::.i p2::tp 3 (.loc 0 0::tp 91 []), [(.box [(.i 0), (.i 0), (.i 0), (.s ([] : List UInt8)), (.d .nil)])], 0⟩ <| Sq ?_
 refine AWP.cutJ (α := Unit) (fun x => match x with | () => (⟨.l enc_GType p0::.s p1::.i p2::tp 3 (.loc 0 0::tp 21 (.b true::tp 69 [])), [(.box [(.i 0), (.i 0), (.i 0), (.s ([] : List UInt8)), (.d .nil)])], 0⟩ : St)) (fun x => match x with | () => m_event_Take_j1  = some r) ?_ (fun J1 => ?_)
 ·
  rintro ⟨⟩ hm
  try dsimp only at hm ⊢
  unfold m_event_Take_j1 at hm
  refine AWP.if_ true (by kernel_rfl) <| Sx <| Wz (.agg [(.i 0), (.i 0), (.i 0), (.s ([] : List UInt8)), (.d .nil)]) (Obd rfl) <| Wy (.tup []) [(0, (.box [(.i 0), (.i 0), (.i 0), (.s ([] : List UInt8)), (.d .nil)]))] (Ost rfl) <| Wm (.i 0) rfl <| Wm (.i 2) rfl <| Nn <| Aob 0 4 105 4 ⟨.l enc_GType p0::.s p1::.i p2::tp 3 (.loc 0 0::.i 0::.i 2::tp 19 (.b true::.agg [(.i 0), (.i 0), (.i 0), (.s ([] : List UInt8)), (.d .nil)]::tp 68 [])), [(.box [(.i 0), (.i 0), (.i 0), (.s ([] : List UInt8)), (.own 1)]), (Ar 105 4 enc_GValue ([] : List GValue))], 0⟩ <| Rt <| Tr ?_
  obtain rfl := Option.some.inj hm
  exact ret_i [1]
 refine Sx <| Wm (.l enc_GType p0) rfl ?_
 obtain ⟨r17_0, hr17_0, hm⟩ := bnd hm
 refine Wz (.i r17_0) (Ocf [] [] [] 0 (ok_schema_Check p0 r17_0 hr17_0) (fun a w => Tryd.call34 a w) rfl trivial) <| Wz (.b (decide (r17_0 ≠ 0))) (Obn rfl (fun _ => hb_neq (k := .i64))) ?_
 rcases tf_ (decide (r17_0 ≠ 0)) with hq19_0 | hq19_0
 ·
  replace hm := cT hq19_0 hm
  refine Wz (.b true) (Oq hq19_0 rfl) <| Wn <| Wn <| Wz (.b true) (OpT rfl) <| Wm (.b true) rfl <| Wn <| Wn <| Wn <| Wn <| Wz (.b true) (OpT rfl) <| Nn ?_
  exact AWP.weak (Weak.toK 268435527 0 0 [0]) (J1 () hm)
 ·
  replace hm := cF hq19_0 hm
  refine Wz (.b false) (Oq hq19_0 rfl) <| Wm (.i p2) rfl <| Wz (.b (decide (p2 < 0))) (Obn rfl (fun _ => hb_lss (k := .i64))) <| Wz (.b (decide (p2 < 0))) (OpF rfl) ?_
  rcases tf_ (decide (p2 < 0)) with hq23_0 | hq23_0
  ·
   replace hm := cT hq23_0 hm
   refine Wz (.b true) (Oq hq23_0 rfl) <| Wn <| Wn <| Wn <| Wn <| Wz (.b true) (OpT rfl) <| Nn ?_
   exact AWP.weak (Weak.toK 268435527 0 0 [0]) (J1 () hm)
  ·
   replace hm := cF hq23_0 hm
   refine Wz (.b false) (Oq hq23_0 rfl) <| Wm (.i p2) rfl <| Wm (.s p1) rfl <| Wz (.i ((List.length p1 : Nat) : Int)) (Oln rfl) <| Wz (.b (decide (((List.length p1 : Nat) : Int) < p2))) (Obn rfl (fun _ => hb_gtr (k := .i64))) <| Wz (.b (decide (((List.length p1 : Nat) : Int) < p2))) (OpF rfl) <| Nk 268435527 1 ⟨.l enc_GType p0::.s p1::.i p2::tp 3 (.loc 0 0::tp 21 (.b (decide (((List.length p1 : Nat) : Int) < p2))::tp 69 [])), [(.box [(.i 0), (.i 0), (.i 0), (.s ([] : List UInt8)), (.d .nil)])], 0⟩ ?_
   rcases tf_ (decide (((List.length p1 : Nat) : Int) < p2)) with hc28_11 | hc28_11
   ·
    replace hm := cT hc28_11 hm
    refine AiT hc28_11 <| Sx <| Wz (.agg [(.i 0), (.i 0), (.i 0), (.s ([] : List UInt8)), (.d .nil)]) (Obd rfl) <| Wy (.tup []) [(0, (.box [(.i 0), (.i 0), (.i 0), (.s ([] : List UInt8)), (.d .nil)]))] (Ost rfl) <| Wm (.i 0) rfl <| Wm (.i 2) rfl <| Nn <| Aob 0 4 105 4 ⟨.l enc_GType p0::.s p1::.i p2::tp 3 (.loc 0 0::.i 0::.i 2::tp 19 (.b (decide (((List.length p1 : Nat) : Int) < p2))::.agg [(.i 0), (.i 0), (.i 0), (.s ([] : List UInt8)), (.d .nil)]::tp 68 [])), [(.box [(.i 0), (.i 0), (.i 0), (.s ([] : List UInt8)), (.own 1)]), (Ar 105 4 enc_GValue ([] : List GValue))], 0⟩ <| Rt <| Tr ?_
    obtain rfl := Option.some.inj hm
    exact ret_i [1]
   ·
    replace hm := cF hc28_11 hm
    refine AiF hc28_11 <| Sk <| Tk 71 1 ⟨.l enc_GType p0::.s p1::.i p2::tp 3 (.loc 0 0::tp 91 []), [(.box [(.i 0), (.i 0), (.i 0), (.s ([] : List UInt8)), (.d .nil)])], 0⟩ <| Sx <| Wm (.s p1) rfl <| Wm (.i p2) rfl ?_
    obtain ⟨r33_2, hr33_2, hm⟩ := bnd hm
    refine Wz (.tup [(.agg [(.u r33_2.1.a0), (.u r33_2.1.a1), (.u r33_2.1.a2), (.u r33_2.1.a3)]), (.i r33_2.2.1), (.i r33_2.2.2)]) (Ocf [] [] [] 0 (ok_event_numbers p1 p2 r33_2 hr33_2) (fun a w => Tryd.call88 a w) rfl trivial) <| Wm (.tup [(.agg [(.u r33_2.1.a0), (.u r33_2.1.a1), (.u r33_2.1.a2), (.u r33_2.1.a3)]), (.i r33_2.2.1), (.i r33_2.2.2)]) rfl <| Wz (.agg [(.u r33_2.1.a0), (.u r33_2.1.a1), (.u r33_2.1.a2), (.u r33_2.1.a3)]) (Oex rfl) <| Wz (.i r33_2.2.1) (Oex rfl) <| Wz (.i r33_2.2.2) (Oex rfl) <| Wy (.loc 1 0) [(1, (.box [(.u 0), (.u 0), (.u 0), (.u 0)]))] (Oal rfl) <| Wy (.tup []) [(1, (.box [(.u r33_2.1.a0), (.u r33_2.1.a1), (.u r33_2.1.a2), (.u r33_2.1.a3)]))] (Ost rfl) <| Wm (.i r33_2.2.1) rfl <| Wm (.i r33_2.2.2) rfl <| Nk 1731 3 ⟨.l enc_GType p0::.s p1::tp 4 (.loc 0 0::.i r33_2.2.1::tp 1 (.loc 1 0::.i r33_2.2.2::tp 87 [])), [(.box [(.i 0), (.i 0), (.i 0), (.s ([] : List UInt8)), (.d .nil)]), (.box [(.u r33_2.1.a0), (.u r33_2.1.a1), (.u r33_2.1.a2), (.u r33_2.1.a3)])], 0⟩ <| Sq <| Sx <| Wm (.i r33_2.2.2) rfl <| Wz (.b (decide (r33_2.2.2 ≠ 0))) (Obn rfl (fun _ => hb_neq (k := .i64))) ?_
    refine Nk 274877908675 3 ⟨.l enc_GType p0::.s p1::tp 4 (.loc 0 0::.i r33_2.2.1::tp 1 (.loc 1 0::.i r33_2.2.2::tp 27 (.b (decide (r33_2.2.2 ≠ 0))::tp 59 []))), [(.box [(.i 0), (.i 0), (.i 0), (.s ([] : List UInt8)), (.d .nil)]), (.box [(.u r33_2.1.a0), (.u r33_2.1.a1), (.u r33_2.1.a2), (.u r33_2.1.a3)])], 0⟩ ?_
    rcases tf_ (decide (r33_2.2.2 ≠ 0)) with hc38_12 | hc38_12
    ·
     replace hm := cT hc38_12 hm
     refine AiT hc38_12 <| Sx <| Wz (.agg [(.i 0), (.i 0), (.i 0), (.s ([] : List UInt8)), (.d .nil)]) (Obd rfl) <| Wm (.i r33_2.2.2) rfl <| Wy (.tup []) [(0, (.box [(.i 0), (.i 0), (.i 0), (.s ([] : List UInt8)), (.d .nil)]))] (Ost rfl) <| Wm (.i 0) rfl <| Wm (.i r33_2.2.2) rfl <| Nn <| Aob 0 4 105 4 ⟨.l enc_GType p0::.s p1::tp 4 (.loc 0 0::.i 0::.i r33_2.2.2::.loc 1 0::.i r33_2.2.2::tp 27 (.b (decide (r33_2.2.2 ≠ 0))::.agg [(.i 0), (.i 0), (.i 0), (.s ([] : List UInt8)), (.d .nil)]::.i r33_2.2.2::tp 57 [])), [(.box [(.i 0), (.i 0), (.i 0), (.s ([] : List UInt8)), (.own 2)]), (.box [(.u r33_2.1.a0), (.u r33_2.1.a1), (.u r33_2.1.a2), (.u r33_2.1.a3)]), (Ar 105 4 enc_GValue ([] : List GValue))], 0⟩ <| Rt <| Tr ?_
     obtain rfl := Option.some.inj hm
     exact ret_i [2]
    ·
     replace hm := cF hc38_12 hm
     refine AiF hc38_12 <| Sk <| Tk 707 3 ⟨.l enc_GType p0::.s p1::tp 4 (.loc 0 0::.i r33_2.2.1::tp 1 (.loc 1 0::tp 88 [])), [(.box [(.i 0), (.i 0), (.i 0), (.s ([] : List UInt8)), (.d .nil)]), (.box [(.u r33_2.1.a0), (.u r33_2.1.a1), (.u r33_2.1.a2), (.u r33_2.1.a3)])], 0⟩ <| Sq <| Sx <| Wz (.loc 1 3) (Ocs (by kernel_rfl) (op_iaddr_arr rfl (n := 4) (sz := 1) (y := (.loc 1 0)) (by kernel_rfl) (by kernel_rfl) (by kernel_rfl) (k := .i64) (iv := 3) (by kernel_rfl) (i := 3) (by rfl) (by decide))) <| Wz (.u r33_2.1.a3) (Old rfl) <| Wm (.l enc_GType p0) rfl <| Wz (.i ((List.length p0 : Nat) : Int)) (Oln rfl) <| Wz (.u (W7 ((List.length p0 : Nat) : Int))) (Oc2 (.int .i64 ((List.length p0 : Nat) : Int)) rfl (run_conv (ds := .int .i64) (k' := .u64) (by kernel_rfl) (by kernel_rfl))) <| Wz (.b (decide ((W7 ((List.length p0 : Nat) : Int)) ≤ r33_2.1.a3))) (Obn rfl (fun _ => hb_geq (k := .u64))) <| Nk 70368744178371 3 ⟨.l enc_GType p0::.s p1::tp 4 (.loc 0 0::.i r33_2.2.1::tp 1 (.loc 1 0::tp 36 (.b (decide ((W7 ((List.length p0 : Nat) : Int)) ≤ r33_2.1.a3))::tp 51 []))), [(.box [(.i 0), (.i 0), (.i 0), (.s ([] : List UInt8)), (.d .nil)]), (.box [(.u r33_2.1.a0), (.u r33_2.1.a1), (.u r33_2.1.a2), (.u r33_2.1.a3)])], 0⟩ ?_
     rcases tf_ (decide ((W7 ((List.length p0 : Nat) : Int)) ≤ r33_2.1.a3)) with hc46_13 | hc46_13
     ·
      replace hm := cT hc46_13 hm
      refine AiT hc46_13 <| Sx <| Wz (.agg [(.i 0), (.i 0), (.i 0), (.s ([] : List UInt8)), (.d .nil)]) (Obd rfl) <| Wy (.tup []) [(0, (.box [(.i 0), (.i 0), (.i 0), (.s ([] : List UInt8)), (.d .nil)]))] (Ost rfl) <| Wm (.i 0) rfl <| Wm (.i 6) rfl <| Nn <| Aob 0 4 105 4 ⟨.l enc_GType p0::.s p1::tp 4 (.loc 0 0::.i 0::.i 6::.loc 1 0::tp 36 (.b (decide ((W7 ((List.length p0 : Nat) : Int)) ≤ r33_2.1.a3))::.agg [(.i 0), (.i 0), (.i 0), (.s ([] : List UInt8)), (.d .nil)]::tp 50 [])), [(.box [(.i 0), (.i 0), (.i 0), (.s ([] : List UInt8)), (.own 2)]), (.box [(.u r33_2.1.a0), (.u r33_2.1.a1), (.u r33_2.1.a2), (.u r33_2.1.a3)]), (Ar 105 4 enc_GValue ([] : List GValue))], 0⟩ <| Rt <| Tr ?_
      obtain rfl := Option.some.inj hm
      exact ret_i [2]
     ·
      replace hm := cF hc46_13 hm
      refine AiF hc46_13 <| Sk <| Tk 707 3 ⟨.l enc_GType p0::.s p1::tp 4 (.loc 0 0::.i r33_2.2.1::tp 1 (.loc 1 0::tp 88 [])), [(.box [(.i 0), (.i 0), (.i 0), (.s ([] : List UInt8)), (.d .nil)]), (.box [(.u r33_2.1.a0), (.u r33_2.1.a1), (.u r33_2.1.a2), (.u r33_2.1.a3)])], 0⟩ <| Sx <| Wm (.l enc_GType p0) rfl <| Wz (.loc 1 3) (Ocs (by kernel_rfl) (op_iaddr_arr rfl (n := 4) (sz := 1) (y := (.loc 1 0)) (by kernel_rfl) (by kernel_rfl) (by kernel_rfl) (k := .i64) (iv := 3) (by kernel_rfl) (i := 3) (by rfl) (by decide))) <| Wz (.u r33_2.1.a3) (Old rfl) ?_
      obtain ⟨x51_4, hx51_4, hm⟩ := bnd hm
      obtain ⟨hx51_4i, hx51_4g⟩ := geti_some hx51_4
      refine Wz (.d (.ref (List.drop ((Int.toNat r33_2.1.a3) * 2) (flatD enc_GType p0)))) (Oia rfl enc_GType_len hx51_4i hx51_4g) <| Wz (.agg [(.s x51_4.Name), (.l enc_GField x51_4.Fields)]) (Lf rfl enc_GType_len hx51_4g) <| Wy (.loc 2 0) [(2, (.box [(.s ([] : List UInt8)), (.d .nil)]))] (Oal rfl) <| Wy (.tup []) [(2, (.box [(.s x51_4.Name), (.l enc_GField x51_4.Fields)]))] (Ost rfl) <| Nk 2755 7 ⟨.l enc_GType p0::.s p1::tp 4 (.loc 0 0::.i r33_2.2.1::tp 1 (.loc 1 0::tp 1 (.loc 2 0::tp 86 []))), [(.box [(.i 0), (.i 0), (.i 0), (.s ([] : List UInt8)), (.d .nil)]), (.box [(.u r33_2.1.a0), (.u r33_2.1.a1), (.u r33_2.1.a2), (.u r33_2.1.a3)]), (.box [(.s x51_4.Name), (.l enc_GField x51_4.Fields)])], 0⟩ <| Sq <| Adr <| Wz (.loc 1 0) (Ocs (by kernel_rfl) (op_iaddr_arr rfl (n := 4) (sz := 1) (y := (.loc 1 0)) (by kernel_rfl) (by kernel_rfl) (by kernel_rfl) (k := .i64) (iv := 0) (by kernel_rfl) (i := 0) (by rfl) (by decide))) <| Wz (.u r33_2.1.a0) (Old rfl) ?_
      obtain ⟨r55_5, hr55_5, hm⟩ := bnd hm
      refine Wz (.i r55_5) (Ocf [] [] [] 0 (ok_event_number r33_2.1.a0 1099511627776 r55_5 hr55_5) (fun a w => Tryd.call89 a w) rfl trivial) <| Wz (.loc 1 1) (Ocs (by kernel_rfl) (op_iaddr_arr rfl (n := 4) (sz := 1) (y := (.loc 1 0)) (by kernel_rfl) (by kernel_rfl) (by kernel_rfl) (k := .i64) (iv := 1) (by kernel_rfl) (i := 1) (by rfl) (by decide))) <| Wz (.u r33_2.1.a1) (Old rfl) ?_
      obtain ⟨r58_5, hr58_5, hm⟩ := bnd hm
      refine Wz (.i r58_5) (Ocf [] [] [] 0 (ok_event_number r33_2.1.a1 15 r58_5 hr58_5) (fun a w => Tryd.call89 a w) rfl trivial) <| Wz (.loc 1 2) (Ocs (by kernel_rfl) (op_iaddr_arr rfl (n := 4) (sz := 1) (y := (.loc 1 0)) (by kernel_rfl) (by kernel_rfl) (by kernel_rfl) (k := .i64) (iv := 2) (by kernel_rfl) (i := 2) (by rfl) (by decide))) <| Wz (.u r33_2.1.a2) (Old rfl) ?_
      obtain ⟨r61_5, hr61_5, hm⟩ := bnd hm
      refine Wz (.i r61_5) (Ocf [] [] [] 0 (ok_event_number r33_2.1.a2 1099511627776 r61_5 hr61_5) (fun a w => Tryd.call89 a w) rfl trivial) <| Wz (.loc 2 0) (Ofa rfl) <| Wz (.s x51_4.Name) (Old rfl) <| Wz (.agg [(.i r55_5), (.i r58_5), (.i r61_5), (.s x51_4.Name), (.d .nil)]) (Obd rfl) <| Wy (.tup []) [(0, (.box [(.i r55_5), (.i r58_5), (.i r61_5), (.s x51_4.Name), (.d .nil)]))] (Ost rfl) <| Wdr <| Tk 2243 5 ⟨.l enc_GType p0::.s p1::tp 4 (.loc 0 0::.i r33_2.2.1::tp 3 (.loc 2 0::tp 86 [])), [(.box [(.i r55_5), (.i r58_5), (.i r61_5), (.s x51_4.Name), (.d .nil)]), .gone, (.box [(.s x51_4.Name), (.l enc_GField x51_4.Fields)])], 0⟩ <| Sq <| Sx <| Wz (.loc 2 1) (Ofa rfl) <| Wz (.l enc_GField x51_4.Fields) (Old rfl) <| Wz (.i ((List.length x51_4.Fields : Nat) : Int)) (Oln rfl) <| Wm (.i 0) rfl <| Nk 442721857769029238979 1 ⟨.l enc_GType p0::.s p1::tp 4 (.loc 0 0::.i r33_2.2.1::tp 59 (.i ((List.length x51_4.Fields : Nat) : Int)::.i 0::tp 29 [])), [(.box [(.i r55_5), (.i r58_5), (.i r61_5), (.s x51_4.Name), (.d .nil)]), .gone, .gone], 0⟩ ?_
      refine Bk <| Aob 0 4 105 4 ⟨.l enc_GType p0::.s p1::tp 4 (.loc 0 0::.i r33_2.2.1::tp 59 (.i ((List.length x51_4.Fields : Nat) : Int)::.i 0::tp 29 [])), [(.box [(.i r55_5), (.i r58_5), (.i r61_5), (.s x51_4.Name), (.own 3)]), .gone, .gone, (Ar 105 4 enc_GValue ([] : List GValue))], 0⟩ ?_
      refine AWP.loopI (α := Nat × (List GValue) × Int × Int)
        (fun (fu_7, y6_d_4_7, y7_7, y68_7) => (⟨.l enc_GType p0::.s p1::tp 4 (.loc 0 0::.i y7_7::tp 59 (.i ((List.length x51_4.Fields : Nat) : Int)::.i y68_7::tp 29 [])), [(.box [(.i r55_5), (.i r58_5), (.i r61_5), (.s x51_4.Name), (.own 1)]), (Ar 105 4 enc_GValue y6_d_4_7)], 0⟩ : St))
        (fun (fu_7, y6_d_4_7, y7_7, y68_7) => m_event_Take_l7 p0 p1 r55_5 r58_5 r61_5 x51_4 fu_7 y6_d_4_7 y7_7 y68_7 = some r)
        (fun (fu_7, y6_d_4_7, y7_7, y68_7) => fu_7) (1152921504606846976, ([] : List GValue), r33_2.2.1, 0)
        (Weak.toK 442721857769029238979 0 0 [0, 3]) hm ?_
      rintro ⟨fu_7, y6_d_4_7, y7_7, y68_7⟩ n_7 hm ih_7
      try dsimp only at hm ih_7 ⊢
      cases fu_7 with
      | zero => exact absurd hm (by unfold m_event_Take_l7; simp)
      | succ fu_7 =>
       unfold m_event_Take_l7 at hm
       refine Sx <| Wz (.b (decide (y68_7 < ((List.length x51_4.Fields : Nat) : Int)))) (Obn rfl (fun _ => hb_lss (k := .i64))) <| Nk 1033017668127734890691 3 ⟨.l enc_GType p0::.s p1::tp 4 (.loc 0 0::.i y7_7::tp 59 (.i ((List.length x51_4.Fields : Nat) : Int)::.i y68_7::.b (decide (y68_7 < ((List.length x51_4.Fields : Nat) : Int)))::tp 28 [])), [(.box [(.i r55_5), (.i r58_5), (.i r61_5), (.s x51_4.Name), (.own 1)]), (Ar 105 4 enc_GValue y6_d_4_7)], 0⟩ <| Sq ?_
       rcases tf_ (decide (y68_7 < ((List.length x51_4.Fields : Nat) : Int))) with hc69_14 | hc69_14
       ·
        replace hm := cT hc69_14 hm
        refine AiT hc69_14 <| Sk <| Tk 442721857769029238979 3 ⟨.l enc_GType p0::.s p1::tp 4 (.loc 0 0::.i y7_7::tp 59 (.i ((List.length x51_4.Fields : Nat) : Int)::.i y68_7::tp 29 [])), [(.box [(.i r55_5), (.i r58_5), (.i r61_5), (.s x51_4.Name), (.own 1)]), (Ar 105 4 enc_GValue y6_d_4_7)], 0⟩ <| Sq <| Bk <| Sx <| Wm (.s p1) rfl <| Wm (.i y7_7) rfl ?_
        obtain ⟨r73_8, hr73_8, hm⟩ := bnd hm
        refine Wz (.tup [(.agg [(.y r73_8.1.Kind), (.i r73_8.1.N), (.u r73_8.1.Bits), (.s r73_8.1.Text)]), (.i r73_8.2.1), (.i r73_8.2.2)]) (Ocf [] [] [] 0 (ok_value_Take p1 y7_7 r73_8 hr73_8) (fun a w => Tryd.call90 a w) rfl trivial) <| Wm (.tup [(.agg [(.y r73_8.1.Kind), (.i r73_8.1.N), (.u r73_8.1.Bits), (.s r73_8.1.Text)]), (.i r73_8.2.1), (.i r73_8.2.2)]) rfl <| Wz (.agg [(.y r73_8.1.Kind), (.i r73_8.1.N), (.u r73_8.1.Bits), (.s r73_8.1.Text)]) (Oex rfl) <| Wz (.i r73_8.2.1) (Oex rfl) <| Wz (.i r73_8.2.2) (Oex rfl) <| Wy (.loc 2 0) [(2, (.box [(.y 0), (.i 0), (.u 0), (.s ([] : List UInt8))]))] (Oal rfl) <| Wy (.tup []) [(2, (.box [(.y r73_8.1.Kind), (.i r73_8.1.N), (.u r73_8.1.Bits), (.s r73_8.1.Text)]))] (Ost rfl) <| Wm (.i r73_8.2.1) rfl <| Wm (.i r73_8.2.2) rfl <| Nk 442721857769029267523 7 ⟨.l enc_GType p0::.s p1::tp 4 (.loc 0 0::tp 5 (.loc 2 0::.i r73_8.2.1::.i r73_8.2.2::tp 52 (.i ((List.length x51_4.Fields : Nat) : Int)::.i y68_7::tp 29 []))), [(.box [(.i r55_5), (.i r58_5), (.i r61_5), (.s x51_4.Name), (.own 1)]), (Ar 105 4 enc_GValue y6_d_4_7), (.box [(.y r73_8.1.Kind), (.i r73_8.1.N), (.u r73_8.1.Bits), (.s r73_8.1.Text)])], 0⟩ <| Sq <| Sx <| Wm (.i r73_8.2.2) rfl <| Wz (.b (decide (r73_8.2.2 ≠ 0))) (Obn rfl (fun _ => hb_neq (k := .i64))) ?_
        refine Nk 302674176761426322944067 7 ⟨.l enc_GType p0::.s p1::tp 4 (.loc 0 0::tp 5 (.loc 2 0::.i r73_8.2.1::.i r73_8.2.2::tp 52 (.i ((List.length x51_4.Fields : Nat) : Int)::.i y68_7::tp 9 (.b (decide (r73_8.2.2 ≠ 0))::tp 19 [])))), [(.box [(.i r55_5), (.i r58_5), (.i r61_5), (.s x51_4.Name), (.own 1)]), (Ar 105 4 enc_GValue y6_d_4_7), (.box [(.y r73_8.1.Kind), (.i r73_8.1.N), (.u r73_8.1.Bits), (.s r73_8.1.Text)])], 0⟩ ?_
        rcases tf_ (decide (r73_8.2.2 ≠ 0)) with hc78_15 | hc78_15
        ·
         replace hm := cT hc78_15 hm
         refine AiT hc78_15 <| Sx <| Wz (.agg [(.i 0), (.i 0), (.i 0), (.s ([] : List UInt8)), (.d .nil)]) (Obd rfl) <| Wm (.i r73_8.2.2) rfl <| Wy (.tup []) [(0, (.box [(.i 0), (.i 0), (.i 0), (.s ([] : List UInt8)), (.d .nil)]))] (Ost rfl) <| Wm (.i 0) rfl <| Wm (.i r73_8.2.2) rfl <| Nn <| Aob 0 4 105 4 ⟨.l enc_GType p0::.s p1::tp 4 (.loc 0 0::.i 0::.i r73_8.2.2::tp 3 (.loc 2 0::.i r73_8.2.1::.i r73_8.2.2::tp 52 (.i ((List.length x51_4.Fields : Nat) : Int)::.i y68_7::tp 9 (.b (decide (r73_8.2.2 ≠ 0))::.agg [(.i 0), (.i 0), (.i 0), (.s ([] : List UInt8)), (.d .nil)]::.i r73_8.2.2::tp 17 [])))), [(.box [(.i 0), (.i 0), (.i 0), (.s ([] : List UInt8)), (.own 3)]), (Ar 105 4 enc_GValue y6_d_4_7), (.box [(.y r73_8.1.Kind), (.i r73_8.1.N), (.u r73_8.1.Bits), (.s r73_8.1.Text)]), (Ar 105 4 enc_GValue ([] : List GValue))], 0⟩ <| Rt <| Tr <| Ir <| Tr <| RoundK.ret ?_
         refine Ir <| Tr ?_
         obtain rfl := Option.some.inj hm
         exact ret_i [3]
        ·
         replace hm := cF hc78_15 hm
         refine AiF hc78_15 <| Sk <| Tk 442721857769029251139 7 ⟨.l enc_GType p0::.s p1::tp 4 (.loc 0 0::tp 5 (.loc 2 0::.i r73_8.2.1::tp 53 (.i ((List.length x51_4.Fields : Nat) : Int)::.i y68_7::tp 29 []))), [(.box [(.i r55_5), (.i r58_5), (.i r61_5), (.s x51_4.Name), (.own 1)]), (Ar 105 4 enc_GValue y6_d_4_7), (.box [(.y r73_8.1.Kind), (.i r73_8.1.N), (.u r73_8.1.Bits), (.s r73_8.1.Text)])], 0⟩ <| Tx <| Wz (.loc 0 4) (Ofa rfl) <| Wz (.own 1) (Old rfl) <| Wz (.agg [(.y r73_8.1.Kind), (.i r73_8.1.N), (.u r73_8.1.Bits), (.s r73_8.1.Text)]) (Old rfl) <| Wy (.own 3) [(3, (Ar 105 4 enc_GValue ([r73_8.1] : List GValue)))] (Obs rfl) ?_
         obtain ⟨a85_9, ha85_9, hm⟩ := bnd hm; obtain ⟨ha85_9e, ha85_9l⟩ := app_some ha85_9
         refine Wy (.own 4) [(1, .gone), (4, (Ar 105 4 enc_GValue a85_9))] (Oap rfl elemOK_35 enc_GValue_len ha85_9e ha85_9l) <| Wm (.i r73_8.2.1) rfl <| Wz (.loc 0 4) (Ofa rfl) <| Wy (.tup []) [(0, (.box [(.i r55_5), (.i r58_5), (.i r61_5), (.s x51_4.Name), (.own 4)]))] (Ost rfl) <| Wm (.i r73_8.2.1) rfl <| Wn0 <| Ino <| Tk 442721857769029238979 17 ⟨.l enc_GType p0::.s p1::tp 4 (.loc 0 0::.i r73_8.2.1::tp 59 (.i ((List.length x51_4.Fields : Nat) : Int)::.i y68_7::tp 29 [])), [(.box [(.i r55_5), (.i r58_5), (.i r61_5), (.s x51_4.Name), (.own 4)]), .gone, .gone, .gone, (Ar 105 4 enc_GValue a85_9)], 0⟩ <| Tx <| Wz (.i (W6 (y68_7 + 1))) (Obn rfl (fun _ => hb_add (k := .i64))) <| Wm (.i (W6 (y68_7 + 1))) rfl <| Wn0 <| RoundK.normal ?_
         exact Rounds.weak (Weak.toK 442721857769029238979 0 0 [0, 4]) (ih_7 (fu_7, a85_9, r73_8.2.1, (W6 (y68_7 + 1))) hm (Nat.lt_succ_self _))
       ·
        replace hm := cF hc69_14 hm
        refine AiF hc69_14 <| AWP.exit <| Then.exit <| RoundK.exit <| InBlock.same <| Tk 193 3 ⟨.l enc_GType p0::tp 5 (.loc 0 0::.i y7_7::tp 90 []), [(.box [(.i r55_5), (.i r58_5), (.i r61_5), (.s x51_4.Name), (.own 1)]), (Ar 105 4 enc_GValue y6_d_4_7)], 0⟩ <| Sq <| Sx <| Wm (.l enc_GType p0) rfl <| Wz (.agg [(.i r55_5), (.i r58_5), (.i r61_5), (.s x51_4.Name), (.own 1)]) (Old rfl) ?_
        obtain ⟨r91_10, hr91_10, hm⟩ := bnd hm
        refine Wz (.i r91_10) (Ocp [] [] [1] 0 (ok_event_Check p0 (GEvent.mk r55_5 r58_5 r61_5 x51_4.Name y6_d_4_7) r91_10 hr91_10) (plain_triv (by simp [A.Plain, A.Plains, D.Plain, byteD])) (fun a w => Tryd.call36 a w) rfl trivial) <| Wm (.i r91_10) rfl <| Nk 32960 3 ⟨tp 6 (.loc 0 0::.i y7_7::tp 7 (.i r91_10::tp 82 [])), [(.box [(.i r55_5), (.i r58_5), (.i r61_5), (.s x51_4.Name), (.own 1)]), (Ar 105 4 enc_GValue y6_d_4_7)], 0⟩ <| Sx <| Wm (.i r91_10) rfl <| Wz (.b (decide (r91_10 ≠ 0))) (Obn rfl (fun _ => hb_neq (k := .i64))) <| Nk 9903520314283042199193026752 3 ⟨tp 6 (.loc 0 0::.i y7_7::tp 7 (.i r91_10::tp 77 (.b (decide (r91_10 ≠ 0))::tp 4 []))), [(.box [(.i r55_5), (.i r58_5), (.i r61_5), (.s x51_4.Name), (.own 1)]), (Ar 105 4 enc_GValue y6_d_4_7)], 0⟩ ?_
        rcases tf_ (decide (r91_10 ≠ 0)) with hc93_16 | hc93_16
        ·
         replace hm := cT hc93_16 hm
         refine AiT hc93_16 <| Sx <| Wz (.agg [(.i 0), (.i 0), (.i 0), (.s ([] : List UInt8)), (.d .nil)]) (Obd rfl) <| Wm (.i r91_10) rfl <| Wy (.tup []) [(0, (.box [(.i 0), (.i 0), (.i 0), (.s ([] : List UInt8)), (.d .nil)]))] (Ost rfl) <| Wm (.i 0) rfl <| Wm (.i r91_10) rfl <| Nn <| Aob 0 4 105 4 ⟨tp 6 (.loc 0 0::.i 0::.i r91_10::tp 6 (.i r91_10::tp 77 (.b (decide (r91_10 ≠ 0))::.agg [(.i 0), (.i 0), (.i 0), (.s ([] : List UInt8)), (.d .nil)]::.i r91_10::tp 2 []))), [(.box [(.i 0), (.i 0), (.i 0), (.s ([] : List UInt8)), (.own 2)]), (Ar 105 4 enc_GValue y6_d_4_7), (Ar 105 4 enc_GValue ([] : List GValue))], 0⟩ <| Rt <| Tr ?_
         obtain rfl := Option.some.inj hm
         exact ret_i [2]
        ·
         replace hm := cF hc93_16 hm
         refine AiF hc93_16 <| Sk <| Tk 192 3 ⟨tp 6 (.loc 0 0::.i y7_7::tp 90 []), [(.box [(.i r55_5), (.i r58_5), (.i r61_5), (.s x51_4.Name), (.own 1)]), (Ar 105 4 enc_GValue y6_d_4_7)], 0⟩ <| Sx <| Wz (.agg [(.i r55_5), (.i r58_5), (.i r61_5), (.s x51_4.Name), (.own 1)]) (Old rfl) <| Wm (.i y7_7) rfl <| Wy (.tup []) [(0, (.box [(.i r55_5), (.i r58_5), (.i r61_5), (.s x51_4.Name), (.own 1)]))] (Ost rfl) <| Wm (.i y7_7) rfl <| Wm (.i 0) rfl <| Nn <| Rt ?_
         obtain rfl := Option.some.inj hm
         exact ret_i [1]

theorem ok_script_take (p0 : (List GType)) (p1 : (List UInt8)) (p2 : Int) (r : (GCommand × Int × Int)) (h : m_script_take p0 p1 p2 = some r) : GCall Tryd.prog 42 [(.l enc_GType p0), (.s p1), (.i p2)] [] (.tup [(.agg [(.y r.1.Kind), (.s r.1.Text), (.i r.1.A), (.i r.1.B), (.i r.1.E.Time), (.i r.1.E.Source), (.i r.1.E.Seq), (.s r.1.E.Type_), (.own 0)]), (.i r.2.1), (.i r.2.2)]) [(Ar 105 4 enc_GValue r.1.E.Vals)] := by
 refine GCall.of_body (n := 67) (rs := [(.cell 6 39), (.tmp 7), (.tmp 8)]) Tryd.func42 rfl rfl rfl <| Ato ⟨.l enc_GType p0::.s p1::.i p2::tu 64 [], [], 0⟩ ?_
 have hm := h
 unfold m_script_take at hm
 refine Sx <| Wy (.loc 0 0) [(0, (.box [(.y 0), (.s ([] : List UInt8)), (.i 0), (.i 0), (.i 0), (.i 0), (.i 0), (.s ([] : List UInt8)), (.d .nil)]))] (Oal rfl) <| Wm (.i 0) rfl <| Wm (.i 0) rfl <| Nk 327 1 ⟨.l enc_GType p0::.s p1::.i p2::tp 3 (.loc 0 0::tp 1 (.i 0::tp 58 [])), [(.box [(.y 0), (.s ([] : List UInt8)), (.i 0), (.i 0), (.i 0), (.i 0), (.i 0), (.s ([] : List UInt8)), (.d .nil)])], 0⟩ <| Sx <| Wm (.s p1) rfl <| Wm (.i p2) rfl ?_
 obtain ⟨x11_0, hx11_0, hm⟩ := bnd hm
 obtain ⟨hx11_0i, hx11_0g⟩ := geti_some hx11_0
 refine Wz (.y x11_0) (Ocs (by kernel_rfl) (op_index_str rfl (by kernel_rfl) (s := toS p1) (by kernel_rfl) (k := .i64) (iv := p2) (by kernel_rfl) (i := (Int.toNat p2)) (hx11_0i) (b := x11_0) (hx11_0g))) <| Wm (.i p2) rfl <| Wz (.i (W6 (p2 + 1))) (Obn rfl (fun _ => hb_add (k := .i64))) <| Wz (.loc 0 0) (Ofa rfl) <| Wy (.tup []) [(0, (.box [(.y x11_0), (.s ([] : List UInt8)), (.i 0), (.i 0), (.i 0), (.i 0), (.i 0), (.s ([] : List UInt8)), (.d .nil)]))] (Ost rfl) <| Wm (.i (W6 (p2 + 1))) rfl <| Nk 451 1 ⟨.l enc_GType p0::.s p1::tp 4 (.loc 0 0::.i (W6 (p2 + 1))::.i 0::tp 58 []), [(.box [(.y x11_0), (.s ([] : List UInt8)), (.i 0), (.i 0), (.i 0), (.i 0), (.i 0), (.s ([] : List UInt8)), (.d .nil)])], 0⟩ <| Sq <| Sx <| Wz (.agg [(.y x11_0), (.s ([] : List UInt8)), (.i 0), (.i 0), (.i 0), (.i 0), (.i 0), (.s ([] : List UInt8)), (.d .nil)]) (Old rfl) ?_
 obtain ⟨r16_1, hr16_1, hm⟩ := bnd hm
 refine Wz (.b r16_1) (Ocf [] [] [] 0 (ok_script_Command_kind (GCommand.mk x11_0 ([] : List UInt8) 0 0 (GEvent.mk 0 0 0 ([] : List UInt8) ([] : List GValue))) r16_1 hr16_1) (fun a w => Tryd.call35 a w) rfl trivial) <| Wz (.b (!r16_1)) (Ocs (by kernel_rfl) (op_un rfl (a1 := .bool r16_1) (by kernel_rfl) (fun _ => hu_not))) <| Nk 131523 1 ⟨.l enc_GType p0::.s p1::tp 4 (.loc 0 0::.i (W6 (p2 + 1))::.i 0::tp 8 (.b (!r16_1)::tp 49 [])), [(.box [(.y x11_0), (.s ([] : List UInt8)), (.i 0), (.i 0), (.i 0), (.i 0), (.i 0), (.s ([] : List UInt8)), (.d .nil)])], 0⟩ ?_
 rcases tf_ (!r16_1) with hc17_13 | hc17_13
 ·
  replace hm := cT hc17_13 hm
  refine AiT hc17_13 <| Sx <| Wz (.agg [(.y x11_0), (.s ([] : List UInt8)), (.i 0), (.i 0), (.i 0), (.i 0), (.i 0), (.s ([] : List UInt8)), (.d .nil)]) (Old rfl) <| Wy (.tup []) [(0, (.box [(.y x11_0), (.s ([] : List UInt8)), (.i 0), (.i 0), (.i 0), (.i 0), (.i 0), (.s ([] : List UInt8)), (.d .nil)]))] (Ost rfl) <| Wm (.i 0) rfl <| Wm (.i 11) rfl <| Nn <| Aob 0 8 105 4 ⟨.l enc_GType p0::.s p1::tp 4 (.loc 0 0::.i 0::.i 11::tp 8 (.b (!r16_1)::.agg [(.y x11_0), (.s ([] : List UInt8)), (.i 0), (.i 0), (.i 0), (.i 0), (.i 0), (.s ([] : List UInt8)), (.d .nil)]::tp 48 [])), [(.box [(.y x11_0), (.s ([] : List UInt8)), (.i 0), (.i 0), (.i 0), (.i 0), (.i 0), (.s ([] : List UInt8)), (.own 1)]), (Ar 105 4 enc_GValue ([] : List GValue))], 0⟩ <| Rt <| Tr ?_
  obtain rfl := Option.some.inj hm
  exact ret_i [1]
 ·
  replace hm := cF hc17_13 hm
  refine AiF hc17_13 <| Sk <| Tk 451 1 ⟨.l enc_GType p0::.s p1::tp 4 (.loc 0 0::.i (W6 (p2 + 1))::.i 0::tp 58 []), [(.box [(.y x11_0), (.s ([] : List UInt8)), (.i 0), (.i 0), (.i 0), (.i 0), (.i 0), (.s ([] : List UInt8)), (.d .nil)])], 0⟩ ?_
  refine AWP.cutJ (α := GCommand × Int × Int) (fun (y6_d_4, y7_4, y8_4) => (⟨.l enc_GType p0::.s p1::tp 4 (.loc 0 0::.i y7_4::.i y8_4::tp 58 []), [(.box [(.y y6_d_4.Kind), (.s y6_d_4.Text), (.i y6_d_4.A), (.i y6_d_4.B), (.i y6_d_4.E.Time), (.i y6_d_4.E.Source), (.i y6_d_4.E.Seq), (.s y6_d_4.E.Type_), (.d .nil)])], 0⟩ : St)) (fun (y6_d_4, y7_4, y8_4) => m_script_take_j4 p0 p1 y6_d_4 y7_4 y8_4 = some r) ?_ (fun J4 => ?_)
  ·
   rintro ⟨y6_d_4, y7_4, y8_4⟩ hm
   try dsimp only at hm ⊢
   unfold m_script_take_j4 at hm
   refine AWP.cutJ (α := Int × Int × Int × (List UInt8) × (List GValue) × Int × Int) (fun (y6_d_4_0_7, y6_d_4_1_7, y6_d_4_2_7, y6_d_4_3_7, y6_d_4_4_7, y7_7, y8_7) => (⟨tp 1 (.s p1::tp 4 (.loc 0 0::.i y7_7::.i y8_7::tp 58 [])), [(.box [(.y y6_d_4.Kind), (.s y6_d_4.Text), (.i y6_d_4.A), (.i y6_d_4.B), (.i y6_d_4_0_7), (.i y6_d_4_1_7), (.i y6_d_4_2_7), (.s y6_d_4_3_7), (.own 1)]), (Ar 105 4 enc_GValue y6_d_4_4_7)], 0⟩ : St)) (fun (y6_d_4_0_7, y6_d_4_1_7, y6_d_4_2_7, y6_d_4_3_7, y6_d_4_4_7, y7_7, y8_7) => m_script_take_j7 p1 y6_d_4 y6_d_4_0_7 y6_d_4_1_7 y6_d_4_2_7 y6_d_4_3_7 y6_d_4_4_7 y7_7 y8_7 = some r) ?_ (fun J7 => ?_)
   ·
    rintro ⟨y6_d_4_0_7, y6_d_4_1_7, y6_d_4_2_7, y6_d_4_3_7, y6_d_4_4_7, y7_7, y8_7⟩ hm
    try dsimp only at hm ⊢
    unfold m_script_take_j7 at hm
    refine AWP.cutJ (α := Int × Int × Int) (fun (y6_d_2_10, y7_10, y8_10) => (⟨tp 1 (.s p1::tp 4 (.loc 0 0::.i y7_10::.i y8_10::tp 58 [])), [(.box [(.y y6_d_4.Kind), (.s y6_d_4.Text), (.i y6_d_2_10), (.i y6_d_4.B), (.i y6_d_4_0_7), (.i y6_d_4_1_7), (.i y6_d_4_2_7), (.s y6_d_4_3_7), (.own 1)]), (Ar 105 4 enc_GValue y6_d_4_4_7)], 0⟩ : St)) (fun (y6_d_2_10, y7_10, y8_10) => m_script_take_j10 p1 y6_d_4 y6_d_4_0_7 y6_d_4_1_7 y6_d_4_2_7 y6_d_4_3_7 y6_d_4_4_7 y6_d_2_10 y7_10 y8_10 = some r) ?_ (fun J10 => ?_)
    ·
     rintro ⟨y6_d_2_10, y7_10, y8_10⟩ hm
     try dsimp only at hm ⊢
     unfold m_script_take_j10 at hm
     refine Sq <| Sx <| Wm (.i y8_10) rfl <| Wz (.b (decide (y8_10 = 0))) (Obn rfl (fun _ => hb_eql (k := .i64))) ?_
     rcases tf_ (decide (y8_10 = 0)) with hq52_11 | hq52_11
     ·
      replace hm := cT hq52_11 hm
      refine Wz (.b true) (Oq hq52_11 rfl) <| Wz (.agg [(.y y6_d_4.Kind), (.s y6_d_4.Text), (.i y6_d_2_10), (.i y6_d_4.B), (.i y6_d_4_0_7), (.i y6_d_4_1_7), (.i y6_d_4_2_7), (.s y6_d_4_3_7), (.own 1)]) (Old rfl) ?_
      obtain ⟨r54_11, hr54_11, hm⟩ := bnd hm
      refine Wz (.b r54_11) (Ocp [] [] [1] 0 (ok_script_Command_has (GCommand.mk y6_d_4.Kind y6_d_4.Text y6_d_2_10 y6_d_4.B (GEvent.mk y6_d_4_0_7 y6_d_4_1_7 y6_d_4_2_7 y6_d_4_3_7 y6_d_4_4_7)) 8 r54_11 hr54_11) (plain_triv (by simp [A.Plain, A.Plains, D.Plain, byteD])) (fun a w => Tryd.call26 a w) rfl trivial) <| Wz (.b r54_11) (OpT rfl) <| Nk 36028797018964418 3 ⟨tp 1 (.s p1::tp 4 (.loc 0 0::.i y7_10::.i y8_10::tp 46 (.b r54_11::tp 11 []))), [(.box [(.y y6_d_4.Kind), (.s y6_d_4.Text), (.i y6_d_2_10), (.i y6_d_4.B), (.i y6_d_4_0_7), (.i y6_d_4_1_7), (.i y6_d_4_2_7), (.s y6_d_4_3_7), (.own 1)]), (Ar 105 4 enc_GValue y6_d_4_4_7)], 0⟩ ?_
      rcases tf_ r54_11 with hc55_14 | hc55_14
      ·
       replace hm := cT hc55_14 hm
       refine AiT hc55_14 <| Tx <| Wm (.s p1) rfl <| Wm (.i y7_10) rfl ?_
       obtain ⟨r59_12, hr59_12, hm⟩ := bnd hm
       refine Wz (.tup [(.i r59_12.1), (.i r59_12.2.1), (.i r59_12.2.2)]) (Ocf [] [] [] 0 (ok_zig_TakeInt p1 y7_10 r59_12 hr59_12) (fun a w => Tryd.call69 a w) rfl trivial) <| Wm (.tup [(.i r59_12.1), (.i r59_12.2.1), (.i r59_12.2.2)]) rfl <| Wz (.i r59_12.1) (Oex rfl) <| Wz (.i r59_12.2.1) (Oex rfl) <| Wz (.i r59_12.2.2) (Oex rfl) <| Wz (.loc 0 3) (Ofa rfl) <| Wy (.tup []) [(0, (.box [(.y y6_d_4.Kind), (.s y6_d_4.Text), (.i y6_d_2_10), (.i r59_12.1), (.i y6_d_4_0_7), (.i y6_d_4_1_7), (.i y6_d_4_2_7), (.s y6_d_4_3_7), (.own 1)]))] (Ost rfl) <| Wm (.i r59_12.2.1) rfl <| Wm (.i r59_12.2.2) rfl <| Nk 448 3 ⟨tp 6 (.loc 0 0::.i r59_12.2.1::.i r59_12.2.2::tp 58 []), [(.box [(.y y6_d_4.Kind), (.s y6_d_4.Text), (.i y6_d_2_10), (.i r59_12.1), (.i y6_d_4_0_7), (.i y6_d_4_1_7), (.i y6_d_4_2_7), (.s y6_d_4_3_7), (.own 1)]), (Ar 105 4 enc_GValue y6_d_4_4_7)], 0⟩ <| Sx <| Wz (.agg [(.y y6_d_4.Kind), (.s y6_d_4.Text), (.i y6_d_2_10), (.i r59_12.1), (.i y6_d_4_0_7), (.i y6_d_4_1_7), (.i y6_d_4_2_7), (.s y6_d_4_3_7), (.own 1)]) (Old rfl) <| Wm (.i r59_12.2.1) rfl <| Wm (.i r59_12.2.2) rfl ?_
       refine Wy (.tup []) [(0, (.box [(.y y6_d_4.Kind), (.s y6_d_4.Text), (.i y6_d_2_10), (.i r59_12.1), (.i y6_d_4_0_7), (.i y6_d_4_1_7), (.i y6_d_4_2_7), (.s y6_d_4_3_7), (.own 1)]))] (Ost rfl) <| Wm (.i r59_12.2.1) rfl <| Wm (.i r59_12.2.2) rfl <| Nn <| Rt ?_
       obtain rfl := Option.some.inj hm
       exact ret_i [1]
      ·
       replace hm := cF hc55_14 hm
       refine AiF hc55_14 <| Sk <| Tk 448 3 ⟨tp 6 (.loc 0 0::.i y7_10::.i y8_10::tp 58 []), [(.box [(.y y6_d_4.Kind), (.s y6_d_4.Text), (.i y6_d_2_10), (.i y6_d_4.B), (.i y6_d_4_0_7), (.i y6_d_4_1_7), (.i y6_d_4_2_7), (.s y6_d_4_3_7), (.own 1)]), (Ar 105 4 enc_GValue y6_d_4_4_7)], 0⟩ <| Sx <| Wz (.agg [(.y y6_d_4.Kind), (.s y6_d_4.Text), (.i y6_d_2_10), (.i y6_d_4.B), (.i y6_d_4_0_7), (.i y6_d_4_1_7), (.i y6_d_4_2_7), (.s y6_d_4_3_7), (.own 1)]) (Old rfl) <| Wm (.i y7_10) rfl <| Wm (.i y8_10) rfl <| Wy (.tup []) [(0, (.box [(.y y6_d_4.Kind), (.s y6_d_4.Text), (.i y6_d_2_10), (.i y6_d_4.B), (.i y6_d_4_0_7), (.i y6_d_4_1_7), (.i y6_d_4_2_7), (.s y6_d_4_3_7), (.own 1)]))] (Ost rfl) <| Wm (.i y7_10) rfl <| Wm (.i y8_10) rfl <| Nn <| Rt ?_
       obtain rfl := Option.some.inj hm
       exact ret_i [1]
     ·
      replace hm := cF hq52_11 hm
      refine Wz (.b false) (Oq hq52_11 rfl) <| Wn <| Wn <| Wz (.b false) (OpF rfl) <| Nk 36028797018964418 3 ⟨tp 1 (.s p1::tp 4 (.loc 0 0::.i y7_10::.i y8_10::tp 46 (.b false::tp 11 []))), [(.box [(.y y6_d_4.Kind), (.s y6_d_4.Text), (.i y6_d_2_10), (.i y6_d_4.B), (.i y6_d_4_0_7), (.i y6_d_4_1_7), (.i y6_d_4_2_7), (.s y6_d_4_3_7), (.own 1)]), (Ar 105 4 enc_GValue y6_d_4_4_7)], 0⟩ <| AWP.if_ false (by kernel_rfl) <| Sk <| Tk 448 3 ⟨tp 6 (.loc 0 0::.i y7_10::.i y8_10::tp 58 []), [(.box [(.y y6_d_4.Kind), (.s y6_d_4.Text), (.i y6_d_2_10), (.i y6_d_4.B), (.i y6_d_4_0_7), (.i y6_d_4_1_7), (.i y6_d_4_2_7), (.s y6_d_4_3_7), (.own 1)]), (Ar 105 4 enc_GValue y6_d_4_4_7)], 0⟩ <| Sx <| Wz (.agg [(.y y6_d_4.Kind), (.s y6_d_4.Text), (.i y6_d_2_10), (.i y6_d_4.B), (.i y6_d_4_0_7), (.i y6_d_4_1_7), (.i y6_d_4_2_7), (.s y6_d_4_3_7), (.own 1)]) (Old rfl) <| Wm (.i y7_10) rfl <| Wm (.i y8_10) rfl <| Wy (.tup []) [(0, (.box [(.y y6_d_4.Kind), (.s y6_d_4.Text), (.i y6_d_2_10), (.i y6_d_4.B), (.i y6_d_4_0_7), (.i y6_d_4_1_7), (.i y6_d_4_2_7), (.s y6_d_4_3_7), (.own 1)]))] (Ost rfl) <| Wm (.i y7_10) rfl ?_
      refine Wm (.i y8_10) rfl <| Nn <| Rt ?_
      obtain rfl := Option.some.inj hm
      exact ret_i [1]
    refine Sq <| Sx <| Wz (.agg [(.y y6_d_4.Kind), (.s y6_d_4.Text), (.i y6_d_4.A), (.i y6_d_4.B), (.i y6_d_4_0_7), (.i y6_d_4_1_7), (.i y6_d_4_2_7), (.s y6_d_4_3_7), (.own 1)]) (Old rfl) ?_
    obtain ⟨r41_8, hr41_8, hm⟩ := bnd hm
    refine Wz (.b r41_8) (Ocp [] [] [1] 0 (ok_script_Command_has (GCommand.mk y6_d_4.Kind y6_d_4.Text y6_d_4.A y6_d_4.B (GEvent.mk y6_d_4_0_7 y6_d_4_1_7 y6_d_4_2_7 y6_d_4_3_7 y6_d_4_4_7)) 4 r41_8 hr41_8) (plain_triv (by simp [A.Plain, A.Plains, D.Plain, byteD])) (fun a w => Tryd.call26 a w) rfl trivial) <| Nk 2199023256002 3 ⟨tp 1 (.s p1::tp 4 (.loc 0 0::.i y7_7::.i y8_7::tp 32 (.b r41_8::tp 25 []))), [(.box [(.y y6_d_4.Kind), (.s y6_d_4.Text), (.i y6_d_4.A), (.i y6_d_4.B), (.i y6_d_4_0_7), (.i y6_d_4_1_7), (.i y6_d_4_2_7), (.s y6_d_4_3_7), (.own 1)]), (Ar 105 4 enc_GValue y6_d_4_4_7)], 0⟩ ?_
    rcases tf_ r41_8 with hc41_15 | hc41_15
    ·
     replace hm := cT hc41_15 hm
     refine AiT hc41_15 <| Tx <| Wm (.s p1) rfl <| Wm (.i y7_7) rfl ?_
     obtain ⟨r45_9, hr45_9, hm⟩ := bnd hm
     refine Wz (.tup [(.i r45_9.1), (.i r45_9.2.1), (.i r45_9.2.2)]) (Ocf [] [] [] 0 (ok_zig_TakeInt p1 y7_7 r45_9 hr45_9) (fun a w => Tryd.call69 a w) rfl trivial) <| Wm (.tup [(.i r45_9.1), (.i r45_9.2.1), (.i r45_9.2.2)]) rfl <| Wz (.i r45_9.1) (Oex rfl) <| Wz (.i r45_9.2.1) (Oex rfl) <| Wz (.i r45_9.2.2) (Oex rfl) <| Wz (.loc 0 2) (Ofa rfl) <| Wy (.tup []) [(0, (.box [(.y y6_d_4.Kind), (.s y6_d_4.Text), (.i r45_9.1), (.i y6_d_4.B), (.i y6_d_4_0_7), (.i y6_d_4_1_7), (.i y6_d_4_2_7), (.s y6_d_4_3_7), (.own 1)]))] (Ost rfl) <| Wm (.i r45_9.2.1) rfl <| Wm (.i r45_9.2.2) rfl <| Nn ?_
     exact AWP.weak (Weak.toK 450 0 0 [0, 1]) (J10 (r45_9.1, r45_9.2.1, r45_9.2.2) hm)
    ·
     replace hm := cF hc41_15 hm
     refine AiF hc41_15 <| Sk <| Tn ?_
     exact AWP.weak (Weak.toK 450 0 0 [0, 1]) (J10 (y6_d_4.A, y7_7, y8_7) hm)
   refine Sq <| Sx <| Wz (.agg [(.y y6_d_4.Kind), (.s y6_d_4.Text), (.i y6_d_4.A), (.i y6_d_4.B), (.i y6_d_4.E.Time), (.i y6_d_4.E.Source), (.i y6_d_4.E.Seq), (.s y6_d_4.E.Type_), (.d .nil)]) (Old rfl) ?_
   obtain ⟨r30_5, hr30_5, hm⟩ := bnd hm
   refine Wz (.b r30_5) (Ocf [] [] [] 0 (ok_script_Command_has (GCommand.mk y6_d_4.Kind y6_d_4.Text y6_d_4.A y6_d_4.B (GEvent.mk y6_d_4.E.Time y6_d_4.E.Source y6_d_4.E.Seq y6_d_4.E.Type_ ([] : List GValue))) 2 r30_5 hr30_5) (fun a w => Tryd.call26 a w) rfl trivial) <| Nk 1073742275 1 ⟨.l enc_GType p0::.s p1::tp 4 (.loc 0 0::.i y7_4::.i y8_4::tp 21 (.b r30_5::tp 36 [])), [(.box [(.y y6_d_4.Kind), (.s y6_d_4.Text), (.i y6_d_4.A), (.i y6_d_4.B), (.i y6_d_4.E.Time), (.i y6_d_4.E.Source), (.i y6_d_4.E.Seq), (.s y6_d_4.E.Type_), (.d .nil)])], 0⟩ ?_
   rcases tf_ r30_5 with hc30_16 | hc30_16
   ·
    replace hm := cT hc30_16 hm
    refine AiT hc30_16 <| Tx <| Wm (.l enc_GType p0) rfl <| Wm (.s p1) rfl <| Wm (.i y7_4) rfl ?_
    obtain ⟨r35_6, hr35_6, hm⟩ := bnd hm
    refine Wy (.tup [(.agg [(.i r35_6.1.Time), (.i r35_6.1.Source), (.i r35_6.1.Seq), (.s r35_6.1.Type_), (.own 1)]), (.i r35_6.2.1), (.i r35_6.2.2)]) [(1, (Ar 105 4 enc_GValue r35_6.1.Vals))] (Ocf [] [1] [] 0 (ok_event_Take p0 p1 y7_4 r35_6 hr35_6) (fun a w => Tryd.call68 a w) rfl trivial) <| Wm (.tup [(.agg [(.i r35_6.1.Time), (.i r35_6.1.Source), (.i r35_6.1.Seq), (.s r35_6.1.Type_), (.own 1)]), (.i r35_6.2.1), (.i r35_6.2.2)]) rfl <| Wz (.agg [(.i r35_6.1.Time), (.i r35_6.1.Source), (.i r35_6.1.Seq), (.s r35_6.1.Type_), (.own 1)]) (Oex rfl) <| Wz (.i r35_6.2.1) (Oex rfl) <| Wz (.i r35_6.2.2) (Oex rfl) <| Wz (.loc 0 4) (Ofa rfl) <| Wy (.tup []) [(0, (.box [(.y y6_d_4.Kind), (.s y6_d_4.Text), (.i y6_d_4.A), (.i y6_d_4.B), (.i r35_6.1.Time), (.i r35_6.1.Source), (.i r35_6.1.Seq), (.s r35_6.1.Type_), (.own 1)]))] (Ost rfl) <| Wm (.i r35_6.2.1) rfl <| Wm (.i r35_6.2.2) rfl <| Nn ?_
    exact AWP.weak (Weak.toK 450 0 0 [0, 1]) (J7 (r35_6.1.Time, r35_6.1.Source, r35_6.1.Seq, r35_6.1.Type_, r35_6.1.Vals, r35_6.2.1, r35_6.2.2) hm)
   ·
    replace hm := cF hc30_16 hm
    refine AiF hc30_16 <| Sk <| Tn <| Aob 0 8 105 4 ⟨.l enc_GType p0::.s p1::tp 4 (.loc 0 0::.i y7_4::.i y8_4::tp 21 (.b r30_5::tp 36 [])), [(.box [(.y y6_d_4.Kind), (.s y6_d_4.Text), (.i y6_d_4.A), (.i y6_d_4.B), (.i y6_d_4.E.Time), (.i y6_d_4.E.Source), (.i y6_d_4.E.Seq), (.s y6_d_4.E.Type_), (.own 1)]), (Ar 105 4 enc_GValue ([] : List GValue))], 0⟩ ?_
    exact AWP.weak (Weak.toK 450 0 0 [0, 1]) (J7 (y6_d_4.E.Time, y6_d_4.E.Source, y6_d_4.E.Seq, y6_d_4.E.Type_, ([] : List GValue), y7_4, y8_4) hm)
  refine Sq <| Sx <| Wz (.agg [(.y x11_0), (.s ([] : List UInt8)), (.i 0), (.i 0), (.i 0), (.i 0), (.i 0), (.s ([] : List UInt8)), (.d .nil)]) (Old rfl) ?_
  obtain ⟨r20_2, hr20_2, hm⟩ := bnd hm
  refine Wz (.b r20_2) (Ocf [] [] [] 0 (ok_script_Command_has (GCommand.mk x11_0 ([] : List UInt8) 0 0 (GEvent.mk 0 0 0 ([] : List UInt8) ([] : List GValue))) 1 r20_2 hr20_2) (fun a w => Tryd.call26 a w) rfl trivial) <| Nk 1049027 1 ⟨.l enc_GType p0::.s p1::tp 4 (.loc 0 0::.i (W6 (p2 + 1))::.i 0::tp 11 (.b r20_2::tp 46 [])), [(.box [(.y x11_0), (.s ([] : List UInt8)), (.i 0), (.i 0), (.i 0), (.i 0), (.i 0), (.s ([] : List UInt8)), (.d .nil)])], 0⟩ ?_
  rcases tf_ r20_2 with hc20_17 | hc20_17
  ·
   replace hm := cT hc20_17 hm
   refine AiT hc20_17 <| Tx <| Wm (.s p1) rfl <| Wm (.i (W6 (p2 + 1))) rfl ?_
   obtain ⟨r24_3, hr24_3, hm⟩ := bnd hm
   refine Wz (.tup [(.s r24_3.1), (.i r24_3.2.1), (.i r24_3.2.2)]) (Ocf [] [] [] 0 (ok_script_words p1 (W6 (p2 + 1)) r24_3 hr24_3) (fun a w => Tryd.call67 a w) rfl trivial) <| Wm (.tup [(.s r24_3.1), (.i r24_3.2.1), (.i r24_3.2.2)]) rfl <| Wz (.s r24_3.1) (Oex rfl) <| Wz (.i r24_3.2.1) (Oex rfl) <| Wz (.i r24_3.2.2) (Oex rfl) <| Wz (.loc 0 1) (Ofa rfl) <| Wy (.tup []) [(0, (.box [(.y x11_0), (.s r24_3.1), (.i 0), (.i 0), (.i 0), (.i 0), (.i 0), (.s ([] : List UInt8)), (.d .nil)]))] (Ost rfl) <| Wm (.i r24_3.2.1) rfl <| Wm (.i r24_3.2.2) rfl <| Nn ?_
   exact AWP.weak (Weak.toK 451 0 0 [0]) (J4 ((GCommand.mk x11_0 r24_3.1 0 0 (GEvent.mk 0 0 0 ([] : List UInt8) ([] : List GValue))), r24_3.2.1, r24_3.2.2) hm)
  ·
   replace hm := cF hc20_17 hm
   refine AiF hc20_17 <| Sk <| Tn ?_
   exact AWP.weak (Weak.toK 451 0 0 [0]) (J4 ((GCommand.mk x11_0 ([] : List UInt8) 0 0 (GEvent.mk 0 0 0 ([] : List UInt8) ([] : List GValue))), (W6 (p2 + 1)), 0) hm)

theorem ok_script_Read (p0 : (List GType)) (p1 : (List UInt8)) (r : ((List GCommand) × Int × Int)) (h : m_script_Read p0 p1 = some r) : GCall Tryd.prog 20 [(.l enc_GType p0), (.s p1)] [] (.tup [(.own 0), (.i r.2.1), (.i r.2.2)]) [(Ar 39 9 enc_GCommand r.1)] := by
 refine GCall.of_body (n := 42) (rs := [(.tmp 4), (.tmp 5), (.tmp 6)]) Tryd.func20 rfl rfl rfl <| Ato ⟨.l enc_GType p0::.s p1::tu 40 [], [], 0⟩ ?_
 have hm := h
 unfold m_script_Read at hm
 refine Sx <| Wm (.d .nil) rfl <| Wm (.i 0) rfl <| Wm (.i 0) rfl <| Nk 51 0 ⟨.l enc_GType p0::.s p1::tp 2 (.d .nil::.i 0::tp 36 []), [], 0⟩ <| Sq <| Sx <| Wm (.l enc_GType p0) rfl ?_
 obtain ⟨r11_0, hr11_0, hm⟩ := bnd hm
 refine Wz (.i r11_0) (Ocf [] [] [] 0 (ok_schema_Check p0 r11_0 hr11_0) (fun a w => Tryd.call34 a w) rfl trivial) <| Wz (.b (decide (r11_0 ≠ 0))) (Obn rfl (fun _ => hb_neq (k := .i64))) <| Nk 4147 0 ⟨.l enc_GType p0::.s p1::tp 2 (.d .nil::.i 0::tp 6 (.b (decide (r11_0 ≠ 0))::tp 29 [])), [], 0⟩ ?_
 rcases tf_ (decide (r11_0 ≠ 0)) with hc12_6 | hc12_6
 ·
  replace hm := cT hc12_6 hm
  refine AiT hc12_6 <| Sx <| Wm (.d .nil) rfl <| Wm (.i 0) rfl <| Wm (.i 2) rfl <| Nn <| Aow 4 39 9 ⟨.l enc_GType p0::.s p1::tp 2 (.own 0::.i 0::.i 2::tp 5 (.b (decide (r11_0 ≠ 0))::tp 29 [])), [(Ar 39 9 enc_GCommand ([] : List GCommand))], 0⟩ <| Rt <| Tr ?_
  obtain rfl := Option.some.inj hm
  exact ret_i [0]
 ·
  replace hm := cF hc12_6 hm
  refine AiF hc12_6 <| Sk <| Tk 51 0 ⟨.l enc_GType p0::.s p1::tp 2 (.d .nil::.i 0::tp 36 []), [], 0⟩ <| Sq <| Bk <| Aow 4 39 9 ⟨.l enc_GType p0::.s p1::tp 2 (.own 0::.i 0::tp 36 []), [(Ar 39 9 enc_GCommand ([] : List GCommand))], 0⟩ ?_
  refine AWP.loopI (α := Nat × (List GCommand) × Int)
    (fun (fu_1, y4_1, y5_1) => (⟨.l enc_GType p0::.s p1::tp 2 (.own 0::.i y5_1::tp 36 []), [(Ar 39 9 enc_GCommand y4_1)], 0⟩ : St))
    (fun (fu_1, y4_1, y5_1) => m_script_Read_l1 p0 p1 fu_1 y4_1 y5_1 = some r)
    (fun (fu_1, y4_1, y5_1) => fu_1) (1152921504606846976, ([] : List GCommand), 0)
    (Weak.toK 51 0 0 [0]) hm ?_
  rintro ⟨fu_1, y4_1, y5_1⟩ n_1 hm ih_1
  try dsimp only at hm ih_1 ⊢
  cases fu_1 with
  | zero => exact absurd hm (by unfold m_script_Read_l1; simp)
  | succ fu_1 =>
   unfold m_script_Read_l1 at hm
   refine Sq <| Sx <| Wm (.i y5_1) rfl <| Wm (.s p1) rfl <| Wz (.i ((List.length p1 : Nat) : Int)) (Oln rfl) <| Wz (.b (decide (y5_1 < ((List.length p1 : Nat) : Int)))) (Obn rfl (fun _ => hb_lss (k := .i64))) <| Nk 65587 1 ⟨.l enc_GType p0::.s p1::tp 2 (.own 0::.i y5_1::tp 10 (.b (decide (y5_1 < ((List.length p1 : Nat) : Int)))::tp 25 [])), [(Ar 39 9 enc_GCommand y4_1)], 0⟩ ?_
   rcases tf_ (decide (y5_1 < ((List.length p1 : Nat) : Int))) with hc16_7 | hc16_7
   ·
    replace hm := cT hc16_7 hm
    refine AiT hc16_7 <| Sk <| Tk 51 1 ⟨.l enc_GType p0::.s p1::tp 2 (.own 0::.i y5_1::tp 36 []), [(Ar 39 9 enc_GCommand y4_1)], 0⟩ <| Bk <| Sq <| Sx <| Wm (.own 0) rfl <| Wz (.i ((List.length y4_1 : Nat) : Int)) (Oln rfl) <| Wz (.b (decide (((List.length y4_1 : Nat) : Int) = 400))) (Obn rfl (fun _ => hb_eql (k := .i64))) <| Nk 524339 1 ⟨.l enc_GType p0::.s p1::tp 2 (.own 0::.i y5_1::tp 13 (.b (decide (((List.length y4_1 : Nat) : Int) = 400))::tp 22 [])), [(Ar 39 9 enc_GCommand y4_1)], 0⟩ ?_
    rcases tf_ (decide (((List.length y4_1 : Nat) : Int) = 400)) with hc19_8 | hc19_8
    ·
     replace hm := cT hc19_8 hm
     refine AiT hc19_8 <| Sx <| Wm (.own 0) rfl <| Wm (.i y5_1) rfl <| Wm (.own 0) rfl <| Wm (.i y5_1) rfl <| Wm (.i 5) rfl <| Nn <| Rt <| Tr <| Ir <| RoundK.ret <| Ir <| Tr ?_
     obtain rfl := Option.some.inj hm
     exact ret_i [0]
    ·
     replace hm := cF hc19_8 hm
     refine AiF hc19_8 <| Sk <| Tk 51 1 ⟨.l enc_GType p0::.s p1::tp 2 (.own 0::.i y5_1::tp 36 []), [(Ar 39 9 enc_GCommand y4_1)], 0⟩ <| Sx <| Wm (.l enc_GType p0) rfl <| Wm (.s p1) rfl <| Wm (.i y5_1) rfl ?_
     obtain ⟨r26_4, hr26_4, hm⟩ := bnd hm
     refine Wy (.tup [(.agg [(.y r26_4.1.Kind), (.s r26_4.1.Text), (.i r26_4.1.A), (.i r26_4.1.B), (.i r26_4.1.E.Time), (.i r26_4.1.E.Source), (.i r26_4.1.E.Seq), (.s r26_4.1.E.Type_), (.own 1)]), (.i r26_4.2.1), (.i r26_4.2.2)]) [(1, (Ar 105 4 enc_GValue r26_4.1.E.Vals))] (Ocf [] [1] [] 0 (ok_script_take p0 p1 y5_1 r26_4 hr26_4) (fun a w => Tryd.call42 a w) rfl trivial) <| Wm (.tup [(.agg [(.y r26_4.1.Kind), (.s r26_4.1.Text), (.i r26_4.1.A), (.i r26_4.1.B), (.i r26_4.1.E.Time), (.i r26_4.1.E.Source), (.i r26_4.1.E.Seq), (.s r26_4.1.E.Type_), (.own 1)]), (.i r26_4.2.1), (.i r26_4.2.2)]) rfl <| Wz (.agg [(.y r26_4.1.Kind), (.s r26_4.1.Text), (.i r26_4.1.A), (.i r26_4.1.B), (.i r26_4.1.E.Time), (.i r26_4.1.E.Source), (.i r26_4.1.E.Seq), (.s r26_4.1.E.Type_), (.own 1)]) (Oex rfl) <| Wz (.i r26_4.2.1) (Oex rfl) <| Wz (.i r26_4.2.2) (Oex rfl) <| Wy (.loc 2 0) [(2, (.box [(.y 0), (.s ([] : List UInt8)), (.i 0), (.i 0), (.i 0), (.i 0), (.i 0), (.s ([] : List UInt8)), (.d .nil)]))] (Oal rfl) <| Wy (.tup []) [(2, (.box [(.y r26_4.1.Kind), (.s r26_4.1.Text), (.i r26_4.1.A), (.i r26_4.1.B), (.i r26_4.1.E.Time), (.i r26_4.1.E.Source), (.i r26_4.1.E.Seq), (.s r26_4.1.E.Type_), (.own 1)]))] (Ost rfl) <| Wm (.i r26_4.2.1) rfl <| Wm (.i r26_4.2.2) rfl <| Nk 947 7 ⟨.l enc_GType p0::.s p1::tp 2 (.own 0::.i y5_1::tp 1 (.loc 2 0::.i r26_4.2.1::.i r26_4.2.2::tp 32 [])), [(Ar 39 9 enc_GCommand y4_1), (Ar 105 4 enc_GValue r26_4.1.E.Vals), (.box [(.y r26_4.1.Kind), (.s r26_4.1.Text), (.i r26_4.1.A), (.i r26_4.1.B), (.i r26_4.1.E.Time), (.i r26_4.1.E.Source), (.i r26_4.1.E.Seq), (.s r26_4.1.E.Type_), (.own 1)])], 0⟩ <| Sq <| Sx <| Wm (.i r26_4.2.2) rfl <| Wz (.b (decide (r26_4.2.2 ≠ 0))) (Obn rfl (fun _ => hb_neq (k := .i64))) ?_
     refine Nk 2147484595 7 ⟨.l enc_GType p0::.s p1::tp 2 (.own 0::.i y5_1::tp 1 (.loc 2 0::.i r26_4.2.1::.i r26_4.2.2::tp 21 (.b (decide (r26_4.2.2 ≠ 0))::tp 10 []))), [(Ar 39 9 enc_GCommand y4_1), (Ar 105 4 enc_GValue r26_4.1.E.Vals), (.box [(.y r26_4.1.Kind), (.s r26_4.1.Text), (.i r26_4.1.A), (.i r26_4.1.B), (.i r26_4.1.E.Time), (.i r26_4.1.E.Source), (.i r26_4.1.E.Seq), (.s r26_4.1.E.Type_), (.own 1)])], 0⟩ ?_
     rcases tf_ (decide (r26_4.2.2 ≠ 0)) with hc31_9 | hc31_9
     ·
      replace hm := cT hc31_9 hm
      refine AiT hc31_9 <| Sx <| Wm (.own 0) rfl <| Wm (.i y5_1) rfl <| Wm (.i r26_4.2.2) rfl <| Wm (.own 0) rfl <| Wm (.i y5_1) rfl <| Wm (.i r26_4.2.2) rfl <| Nn <| Rt <| Tr <| Ir <| RoundK.ret <| Ir ?_
      refine Tr ?_
      obtain rfl := Option.some.inj hm
      exact ret_i [0]
     ·
      replace hm := cF hc31_9 hm
      refine AiF hc31_9 <| Sk <| Tk 403 7 ⟨.l enc_GType p0::.s p1::tp 2 (.own 0::tp 2 (.loc 2 0::.i r26_4.2.1::tp 33 [])), [(Ar 39 9 enc_GCommand y4_1), (Ar 105 4 enc_GValue r26_4.1.E.Vals), (.box [(.y r26_4.1.Kind), (.s r26_4.1.Text), (.i r26_4.1.A), (.i r26_4.1.B), (.i r26_4.1.E.Time), (.i r26_4.1.E.Source), (.i r26_4.1.E.Seq), (.s r26_4.1.E.Type_), (.own 1)])], 0⟩ <| Afz [1] ⟨.l enc_GType p0::.s p1::tp 2 (.own 0::tp 2 (.loc 2 0::.i r26_4.2.1::tp 33 [])), [(Ar 39 9 enc_GCommand y4_1), (.fro 105 4 (List.length r26_4.1.E.Vals) (flatD enc_GValue r26_4.1.E.Vals)), (.box [(.y r26_4.1.Kind), (.s r26_4.1.Text), (.i r26_4.1.A), (.i r26_4.1.B), (.i r26_4.1.E.Time), (.i r26_4.1.E.Source), (.i r26_4.1.E.Seq), (.s r26_4.1.E.Type_), (.l enc_GValue r26_4.1.E.Vals)])], 0⟩ <| Tx <| Wm (.own 0) rfl <| Wz (.agg [(.y r26_4.1.Kind), (.s r26_4.1.Text), (.i r26_4.1.A), (.i r26_4.1.B), (.i r26_4.1.E.Time), (.i r26_4.1.E.Source), (.i r26_4.1.E.Seq), (.s r26_4.1.E.Type_), (.l enc_GValue r26_4.1.E.Vals)]) (Old rfl) <| Wy (.own 3) [(3, (Ar 39 9 enc_GCommand ([r26_4.1] : List GCommand)))] (Obs rfl) ?_
      obtain ⟨a38_5, ha38_5, hm⟩ := bnd hm; obtain ⟨ha38_5e, ha38_5l⟩ := app_some ha38_5
      refine Wy (.own 4) [(0, .gone), (4, (Ar 39 9 enc_GCommand a38_5))] (Oap rfl elemOK_29 enc_GCommand_len ha38_5e ha38_5l) <| Wm (.i r26_4.2.1) rfl <| Wm (.own 4) rfl <| Wm (.i r26_4.2.1) rfl <| Wn0 <| Ino <| RoundK.normal ?_
      exact Rounds.weak (Weak.toK 51 0 0 [4]) (ih_1 (fu_1, a38_5, r26_4.2.1) hm (Nat.lt_succ_self _))
   ·
    replace hm := cF hc16_7 hm
    refine AiF hc16_7 <| AWP.exit <| Then.exit <| RoundK.exit <| InBlock.same <| Tk 48 1 ⟨tp 4 (.own 0::.i y5_1::tp 36 []), [(Ar 39 9 enc_GCommand y4_1)], 0⟩ <| Sx <| Wm (.own 0) rfl <| Wm (.i y5_1) rfl <| Wm (.own 0) rfl <| Wm (.i y5_1) rfl <| Wm (.i 0) rfl <| Nn <| Rt ?_
    obtain rfl := Option.some.inj hm
    exact ret_i [0]

theorem ok_script_Same (p0 : GCommand) (p1 : GCommand) (r : Bool) (h : m_script_Same p0 p1 = some r) : GCall Tryd.prog 16 [(.agg [(.y p0.Kind), (.s p0.Text), (.i p0.A), (.i p0.B), (.i p0.E.Time), (.i p0.E.Source), (.i p0.E.Seq), (.s p0.E.Type_), (.l enc_GValue p0.E.Vals)]), (.agg [(.y p1.Kind), (.s p1.Text), (.i p1.A), (.i p1.B), (.i p1.E.Time), (.i p1.E.Source), (.i p1.E.Seq), (.s p1.E.Type_), (.l enc_GValue p1.E.Vals)])] [] (.b r) [] := by
 refine GCall.of_body (n := 38) (rs := [(.tmp 4)]) Tryd.func16 rfl rfl rfl <| Ato ⟨.agg [(.y p0.Kind), (.s p0.Text), (.i p0.A), (.i p0.B), (.i p0.E.Time), (.i p0.E.Source), (.i p0.E.Seq), (.s p0.E.Type_), (.l enc_GValue p0.E.Vals)]::.agg [(.y p1.Kind), (.s p1.Text), (.i p1.A), (.i p1.B), (.i p1.E.Time), (.i p1.E.Source), (.i p1.E.Seq), (.s p1.E.Type_), (.l enc_GValue p1.E.Vals)]::tu 36 [], [], 0⟩ ?_
 have hm := h
 unfold m_script_Same at hm
 refine Sx <| Wy (.loc 0 0) [(0, (.box [(.y p0.Kind), (.s p0.Text), (.i p0.A), (.i p0.B), (.i p0.E.Time), (.i p0.E.Source), (.i p0.E.Seq), (.s p0.E.Type_), (.l enc_GValue p0.E.Vals)]))] (Obx rfl) <| Wy (.loc 1 0) [(1, (.box [(.y p1.Kind), (.s p1.Text), (.i p1.A), (.i p1.B), (.i p1.E.Time), (.i p1.E.Source), (.i p1.E.Seq), (.s p1.E.Type_), (.l enc_GValue p1.E.Vals)]))] (Obx rfl) <| Wm (.b false) rfl <| Nk 12 3 ⟨tp 2 (.loc 0 0::.loc 1 0::tp 34 []), [(.box [(.y p0.Kind), (.s p0.Text), (.i p0.A), (.i p0.B), (.i p0.E.Time), (.i p0.E.Source), (.i p0.E.Seq), (.s p0.E.Type_), (.l enc_GValue p0.E.Vals)]), (.box [(.y p1.Kind), (.s p1.Text), (.i p1.A), (.i p1.B), (.i p1.E.Time), (.i p1.E.Source), (.i p1.E.Seq), (.s p1.E.Type_), (.l enc_GValue p1.E.Vals)])], 0⟩ <| Sx <| Wz (.loc 0 0) (Ofa rfl) <| Wz (.y p0.Kind) (Old rfl) <| Wz (.loc 1 0) (Ofa rfl) <| Wz (.y p1.Kind) (Old rfl) <| Wz (.b (decide (((p0.Kind.toNat : Nat) : Int) = ((p1.Kind.toNat : Nat) : Int)))) (Ob2 (.int .u8 ((p0.Kind.toNat : Nat) : Int)) (.int .u8 ((p1.Kind.toNat : Nat) : Int)) rfl (fun _ => hb_eql)) ?_
 rcases tf_ (decide (((p0.Kind.toNat : Nat) : Int) = ((p1.Kind.toNat : Nat) : Int))) with hq10_0 | hq10_0
 ·
  replace hm := cT hq10_0 hm
  refine Wz (.b true) (Oq hq10_0 rfl) <| Wz (.loc 0 1) (Ofa rfl) <| Wz (.s p0.Text) (Old rfl) <| Wz (.loc 1 1) (Ofa rfl) <| Wz (.s p1.Text) (Old rfl) <| Wz (.b (decide (p0.Text = p1.Text))) (Ocs (lit_tf (by simp only [toS_inj, ne_eq])) (op_bin rfl (a1 := .string (toS p0.Text)) (a2 := .string (toS p1.Text)) (by kernel_rfl) (by kernel_rfl) (fun _ => hb_seql))) <| Wz (.b (decide (p0.Text = p1.Text))) (OpT rfl) ?_
  rcases tf_ (decide (p0.Text = p1.Text)) with hq17_0 | hq17_0
  ·
   replace hm := cT hq17_0 hm
   refine Wz (.b true) (Oq hq17_0 rfl) <| Wz (.loc 0 2) (Ofa rfl) <| Wz (.i p0.A) (Old rfl) <| Wz (.loc 1 2) (Ofa rfl) <| Wz (.i p1.A) (Old rfl) <| Wz (.b (decide (p0.A = p1.A))) (Obn rfl (fun _ => hb_eql (k := .i64))) <| Wz (.b (decide (p0.A = p1.A))) (OpT rfl) ?_
   rcases tf_ (decide (p0.A = p1.A)) with hq24_0 | hq24_0
   ·
    replace hm := cT hq24_0 hm
    refine Wz (.b true) (Oq hq24_0 rfl) <| Wz (.loc 0 3) (Ofa rfl) <| Wz (.i p0.B) (Old rfl) <| Wz (.loc 1 3) (Ofa rfl) <| Wz (.i p1.B) (Old rfl) <| Wz (.b (decide (p0.B = p1.B))) (Obn rfl (fun _ => hb_eql (k := .i64))) <| Wz (.b (decide (p0.B = p1.B))) (OpT rfl) ?_
    rcases tf_ (decide (p0.B = p1.B)) with hq31_0 | hq31_0
    ·
     replace hm := cT hq31_0 hm
     refine Wz (.b true) (Oq hq31_0 rfl) <| Wz (.loc 0 4) (Ofa rfl) <| Wz (.agg [(.i p0.E.Time), (.i p0.E.Source), (.i p0.E.Seq), (.s p0.E.Type_), (.l enc_GValue p0.E.Vals)]) (Old rfl) <| Wz (.loc 1 4) (Ofa rfl) <| Wz (.agg [(.i p1.E.Time), (.i p1.E.Source), (.i p1.E.Seq), (.s p1.E.Type_), (.l enc_GValue p1.E.Vals)]) (Old rfl) ?_
     obtain ⟨r36_0, hr36_0, hm⟩ := bnd hm
     refine Wz (.b r36_0) (Ocf [] [] [] 0 (ok_event_Same p0.E p1.E r36_0 hr36_0) (fun a w => Tryd.call41 a w) rfl trivial) <| Wz (.b r36_0) (OpT rfl) <| Wm (.b r36_0) rfl <| Nn <| Rt ?_
     obtain rfl := Option.some.inj hm
     exact ret_i []
    ·
     replace hm := cF hq31_0 hm
     refine Wz (.b false) (Oq hq31_0 rfl) <| Wn <| Wn <| Wn <| Wn <| Wn <| Wz (.b false) (OpF rfl) <| Wm (.b false) rfl <| Nn <| Rt ?_
     obtain rfl := Option.some.inj hm
     exact ret_i []
   ·
    replace hm := cF hq24_0 hm
    refine Wz (.b false) (Oq hq24_0 rfl) <| Wn <| Wn <| Wn <| Wn <| Wn <| Wz (.b false) (OpF rfl) <| Wm (.b false) rfl <| Wn <| Wn <| Wn <| Wn <| Wn <| Wz (.b false) (OpF rfl) ?_
    refine Wm (.b false) rfl <| Nn <| Rt ?_
    obtain rfl := Option.some.inj hm
    exact ret_i []
  ·
   replace hm := cF hq17_0 hm
   refine Wz (.b false) (Oq hq17_0 rfl) <| Wn <| Wn <| Wn <| Wn <| Wn <| Wz (.b false) (OpF rfl) <| Wm (.b false) rfl <| Wn <| Wn <| Wn <| Wn <| Wn <| Wz (.b false) (OpF rfl) ?_
   refine Wm (.b false) rfl <| Wn <| Wn <| Wn <| Wn <| Wn <| Wz (.b false) (OpF rfl) <| Wm (.b false) rfl <| Nn <| Rt ?_
   obtain rfl := Option.some.inj hm
   exact ret_i []
 ·
  replace hm := cF hq10_0 hm
  refine Wz (.b false) (Oq hq10_0 rfl) <| Wn <| Wn <| Wn <| Wn <| Wn <| Wz (.b false) (OpF rfl) <| Wm (.b false) rfl <| Wn <| Wn <| Wn <| Wn <| Wn <| Wz (.b false) (OpF rfl) ?_
  refine Wm (.b false) rfl <| Wn <| Wn <| Wn <| Wn <| Wn <| Wz (.b false) (OpF rfl) <| Wm (.b false) rfl <| Wn <| Wn <| Wn <| Wn <| Wn <| Wz (.b false) (OpF rfl) ?_
  refine Wm (.b false) rfl <| Nn <| Rt ?_
  obtain rfl := Option.some.inj hm
  exact ret_i []

theorem ok_w37_awake (r : Bool) (h : m_w37_awake = some r) : GCall Tryd.prog 9 [] [] (.b r) [] := by
 refine GCall.of_body (n := 108) (rs := [(.tmp 0)]) Tryd.func9 rfl rfl rfl <| Ato ⟨tu 108 [], [], 0⟩ ?_
 have hm := h
 unfold m_w37_awake at hm
 refine Sx <| Wm (.b false) rfl <| Nk 0 0 ⟨tp 108 [], [], 0⟩ <| Sx <| Wz (.agg [(.s ([116] : List UInt8)), (.d .nil)]) (Obd rfl) <| Wy (.own 0) [(0, (Ar 74 2 enc_GType ([(GType.mk ([116] : List UInt8) ([] : List GField))] : List GType)))] (Obs rfl) <| Wm (.own 0) rfl <| Nk 2 1 ⟨tp 1 (.own 0::tp 106 []), [(Ar 74 2 enc_GType ([(GType.mk ([116] : List UInt8) ([] : List GField))] : List GType))], 0⟩ <| Sx <| Wz (.agg [(.y 4), (.s ([] : List UInt8)), (.i 1), (.i 5), (.i 0), (.i 0), (.i 0), (.s ([] : List UInt8)), (.d .nil)]) (Obd rfl) <| Wz (.agg [(.y 2), (.s ([] : List UInt8)), (.i 0), (.i 0), (.i 0), (.i 0), (.i 0), (.s ([] : List UInt8)), (.d .nil)]) (Obd rfl) <| Wz (.agg [(.y 1), (.s ([97] : List UInt8)), (.i 0), (.i 0), (.i 0), (.i 0), (.i 0), (.s ([] : List UInt8)), (.d .nil)]) (Obd rfl) <| Wz (.agg [(.i 3), (.i 0), (.i 0), (.s ([116] : List UInt8)), (.d .nil)]) (Obd rfl) <| Wz (.agg [(.y 3), (.s ([] : List UInt8)), (.i 0), (.i 0), (.i 3), (.i 0), (.i 0), (.s ([116] : List UInt8)), (.d .nil)]) (Obd rfl) ?_
 refine Wz (.agg [(.y 7), (.s ([] : List UInt8)), (.i (-1)), (.i 0), (.i 0), (.i 0), (.i 0), (.s ([] : List UInt8)), (.d .nil)]) (Obd rfl) <| Wy (.own 1) [(1, (Ar 39 9 enc_GCommand ([(GCommand.mk 4 ([] : List UInt8) 1 5 (GEvent.mk 0 0 0 ([] : List UInt8) ([] : List GValue))), (GCommand.mk 2 ([] : List UInt8) 0 0 (GEvent.mk 0 0 0 ([] : List UInt8) ([] : List GValue))), (GCommand.mk 1 ([97] : List UInt8) 0 0 (GEvent.mk 0 0 0 ([] : List UInt8) ([] : List GValue))), (GCommand.mk 3 ([] : List UInt8) 0 0 (GEvent.mk 3 0 0 ([116] : List UInt8) ([] : List GValue))), (GCommand.mk 7 ([] : List UInt8) (-1) 0 (GEvent.mk 0 0 0 ([] : List UInt8) ([] : List GValue)))] : List GCommand)))] (Obs rfl) <| Wm (.own 1) rfl <| Nk 6 3 ⟨tp 1 (.own 0::.own 1::tp 105 []), [(Ar 74 2 enc_GType ([(GType.mk ([116] : List UInt8) ([] : List GField))] : List GType)), (Ar 39 9 enc_GCommand ([(GCommand.mk 4 ([] : List UInt8) 1 5 (GEvent.mk 0 0 0 ([] : List UInt8) ([] : List GValue))), (GCommand.mk 2 ([] : List UInt8) 0 0 (GEvent.mk 0 0 0 ([] : List UInt8) ([] : List GValue))), (GCommand.mk 1 ([97] : List UInt8) 0 0 (GEvent.mk 0 0 0 ([] : List UInt8) ([] : List GValue))), (GCommand.mk 3 ([] : List UInt8) 0 0 (GEvent.mk 3 0 0 ([116] : List UInt8) ([] : List GValue))), (GCommand.mk 7 ([] : List UInt8) (-1) 0 (GEvent.mk 0 0 0 ([] : List UInt8) ([] : List GValue)))] : List GCommand))], 0⟩ <| Sx <| Wm (.own 0) rfl <| Wm (.own 1) rfl ?_
 obtain ⟨r25_0, hr25_0, hm⟩ := bnd hm
 refine Wz (.tup [(.s r25_0.1), (.i r25_0.2)]) (Ocp [] [] [0, 1] 0 (ok_script_Write ([(GType.mk ([116] : List UInt8) ([] : List GField))] : List GType) ([(GCommand.mk 4 ([] : List UInt8) 1 5 (GEvent.mk 0 0 0 ([] : List UInt8) ([] : List GValue))), (GCommand.mk 2 ([] : List UInt8) 0 0 (GEvent.mk 0 0 0 ([] : List UInt8) ([] : List GValue))), (GCommand.mk 1 ([97] : List UInt8) 0 0 (GEvent.mk 0 0 0 ([] : List UInt8) ([] : List GValue))), (GCommand.mk 3 ([] : List UInt8) 0 0 (GEvent.mk 3 0 0 ([116] : List UInt8) ([] : List GValue))), (GCommand.mk 7 ([] : List UInt8) (-1) 0 (GEvent.mk 0 0 0 ([] : List UInt8) ([] : List GValue)))] : List GCommand) r25_0 hr25_0) (plain_triv (by simp [A.Plain, A.Plains, D.Plain, byteD])) (fun a w => Tryd.call18 a w) rfl trivial) <| Wm (.tup [(.s r25_0.1), (.i r25_0.2)]) rfl <| Wz (.s r25_0.1) (Oex rfl) <| Wz (.i r25_0.2) (Oex rfl) <| Wm (.s r25_0.1) rfl <| Wm (.i r25_0.2) rfl <| Nk 30 3 ⟨tp 1 (.own 0::.own 1::.s r25_0.1::.i r25_0.2::tp 103 []), [(Ar 74 2 enc_GType ([(GType.mk ([116] : List UInt8) ([] : List GField))] : List GType)), (Ar 39 9 enc_GCommand ([(GCommand.mk 4 ([] : List UInt8) 1 5 (GEvent.mk 0 0 0 ([] : List UInt8) ([] : List GValue))), (GCommand.mk 2 ([] : List UInt8) 0 0 (GEvent.mk 0 0 0 ([] : List UInt8) ([] : List GValue))), (GCommand.mk 1 ([97] : List UInt8) 0 0 (GEvent.mk 0 0 0 ([] : List UInt8) ([] : List GValue))), (GCommand.mk 3 ([] : List UInt8) 0 0 (GEvent.mk 3 0 0 ([116] : List UInt8) ([] : List GValue))), (GCommand.mk 7 ([] : List UInt8) (-1) 0 (GEvent.mk 0 0 0 ([] : List UInt8) ([] : List GValue)))] : List GCommand))], 0⟩ <| Sx <| Wm (.own 0) rfl <| Wm (.s r25_0.1) rfl ?_
 obtain ⟨r31_1, hr31_1, hm⟩ := bnd hm
 refine Wy (.tup [(.own 2), (.i r31_1.2.1), (.i r31_1.2.2)]) [(2, (Ar 39 9 enc_GCommand r31_1.1)), (0, (.fro 74 2 (List.length ([(GType.mk ([116] : List UInt8) ([] : List GField))] : List GType)) (flatD enc_GType ([(GType.mk ([116] : List UInt8) ([] : List GField))] : List GType))))] (Ocf [] [2] [0] 0 (ok_script_Read ([(GType.mk ([116] : List UInt8) ([] : List GField))] : List GType) r25_0.1 r31_1 hr31_1) (fun a w => Tryd.call20 a w) rfl trivial) <| Wm (.tup [(.own 2), (.i r31_1.2.1), (.i r31_1.2.2)]) rfl <| Wz (.own 2) (Oex rfl) <| Wz (.i r31_1.2.1) (Oex rfl) <| Wz (.i r31_1.2.2) (Oex rfl) <| Wm (.own 2) rfl <| Wm (.i r31_1.2.1) rfl <| Wm (.i r31_1.2.2) rfl <| Nk 254 7 ⟨tp 1 (.own 0::.own 1::.s r25_0.1::.i r25_0.2::.own 2::.i r31_1.2.1::.i r31_1.2.2::tp 100 []), [(.fro 74 2 (List.length ([(GType.mk ([116] : List UInt8) ([] : List GField))] : List GType)) (flatD enc_GType ([(GType.mk ([116] : List UInt8) ([] : List GField))] : List GType))), (Ar 39 9 enc_GCommand ([(GCommand.mk 4 ([] : List UInt8) 1 5 (GEvent.mk 0 0 0 ([] : List UInt8) ([] : List GValue))), (GCommand.mk 2 ([] : List UInt8) 0 0 (GEvent.mk 0 0 0 ([] : List UInt8) ([] : List GValue))), (GCommand.mk 1 ([97] : List UInt8) 0 0 (GEvent.mk 0 0 0 ([] : List UInt8) ([] : List GValue))), (GCommand.mk 3 ([] : List UInt8) 0 0 (GEvent.mk 3 0 0 ([116] : List UInt8) ([] : List GValue))), (GCommand.mk 7 ([] : List UInt8) (-1) 0 (GEvent.mk 0 0 0 ([] : List UInt8) ([] : List GValue)))] : List GCommand)), (Ar 39 9 enc_GCommand r31_1.1)], 0⟩ <| Sx <| Wm (.own 0) rfl <| Wm (.s r25_0.1) rfl ?_
 obtain ⟨t38_2, ht38_2, hm⟩ := bnd hm; obtain ⟨ht38_2e, ht38_2l⟩ := app_some ht38_2
 refine Wz (.s t38_2) (op_bin rfl (a1 := .string (toS r25_0.1)) (a2 := .string (toS ([8] : List UInt8))) (by kernel_rfl) (by kernel_rfl) (fun _ => hb_sadd ht38_2e ht38_2l)) ?_
 obtain ⟨r39_2, hr39_2, hm⟩ := bnd hm
 refine Wy (.tup [(.own 3), (.i r39_2.2.1), (.i r39_2.2.2)]) [(3, (Ar 39 9 enc_GCommand r39_2.1)), (0, (.fro 74 2 (List.length ([(GType.mk ([116] : List UInt8) ([] : List GField))] : List GType)) (flatD enc_GType ([(GType.mk ([116] : List UInt8) ([] : List GField))] : List GType))))] (Ocf [] [3] [0] 0 (ok_script_Read ([(GType.mk ([116] : List UInt8) ([] : List GField))] : List GType) t38_2 r39_2 hr39_2) (fun a w => Tryd.call20 a w) rfl trivial) <| Wm (.tup [(.own 3), (.i r39_2.2.1), (.i r39_2.2.2)]) rfl <| Wz (.own 3) (Oex rfl) <| Wz (.i r39_2.2.1) (Oex rfl) <| Wz (.i r39_2.2.2) (Oex rfl) <| Wm (.own 3) rfl <| Wm (.i r39_2.2.1) rfl <| Wm (.i r39_2.2.2) rfl <| Nk 2046 15 ⟨tp 1 (.own 0::.own 1::.s r25_0.1::.i r25_0.2::.own 2::.i r31_1.2.1::.i r31_1.2.2::.own 3::.i r39_2.2.1::.i r39_2.2.2::tp 97 []), [(.fro 74 2 (List.length ([(GType.mk ([116] : List UInt8) ([] : List GField))] : List GType)) (flatD enc_GType ([(GType.mk ([116] : List UInt8) ([] : List GField))] : List GType))), (Ar 39 9 enc_GCommand ([(GCommand.mk 4 ([] : List UInt8) 1 5 (GEvent.mk 0 0 0 ([] : List UInt8) ([] : List GValue))), (GCommand.mk 2 ([] : List UInt8) 0 0 (GEvent.mk 0 0 0 ([] : List UInt8) ([] : List GValue))), (GCommand.mk 1 ([97] : List UInt8) 0 0 (GEvent.mk 0 0 0 ([] : List UInt8) ([] : List GValue))), (GCommand.mk 3 ([] : List UInt8) 0 0 (GEvent.mk 3 0 0 ([116] : List UInt8) ([] : List GValue))), (GCommand.mk 7 ([] : List UInt8) (-1) 0 (GEvent.mk 0 0 0 ([] : List UInt8) ([] : List GValue)))] : List GCommand)), (Ar 39 9 enc_GCommand r31_1.1), (Ar 39 9 enc_GCommand r39_2.1)], 0⟩ <| Sx <| Wm (.own 0) rfl <| Wz (.agg [(.y 2), (.s ([] : List UInt8)), (.i 1), (.i 0), (.i 0), (.i 0), (.i 0), (.s ([] : List UInt8)), (.d .nil)]) (Obd rfl) ?_
 obtain ⟨r46_3, hr46_3, hm⟩ := bnd hm
 refine Wy (.tup [(.l encU8 r46_3.1), (.i r46_3.2)]) [(0, (.fro 74 2 (List.length ([(GType.mk ([116] : List UInt8) ([] : List GField))] : List GType)) (flatD enc_GType ([(GType.mk ([116] : List UInt8) ([] : List GField))] : List GType))))] (Ocf [] [] [0] 0 (ok_script_Put ([] : List UInt8) ([(GType.mk ([116] : List UInt8) ([] : List GField))] : List GType) (GCommand.mk 2 ([] : List UInt8) 1 0 (GEvent.mk 0 0 0 ([] : List UInt8) ([] : List GValue))) r46_3 hr46_3) (fun a w => Tryd.call12 a w) rfl trivial) <| Wm (.tup [(.l encU8 r46_3.1), (.i r46_3.2)]) rfl <| Wz (.l encU8 r46_3.1) (Oex rfl) <| Wz (.i r46_3.2) (Oex rfl) <| Wm (.l encU8 r46_3.1) rfl <| Wm (.i r46_3.2) rfl <| Nk 6142 15 ⟨tp 1 (.own 0::.own 1::.s r25_0.1::.i r25_0.2::.own 2::.i r31_1.2.1::.i r31_1.2.2::.own 3::.i r39_2.2.1::.i r39_2.2.2::tp 1 (.i r46_3.2::tp 95 [])), [(.fro 74 2 (List.length ([(GType.mk ([116] : List UInt8) ([] : List GField))] : List GType)) (flatD enc_GType ([(GType.mk ([116] : List UInt8) ([] : List GField))] : List GType))), (Ar 39 9 enc_GCommand ([(GCommand.mk 4 ([] : List UInt8) 1 5 (GEvent.mk 0 0 0 ([] : List UInt8) ([] : List GValue))), (GCommand.mk 2 ([] : List UInt8) 0 0 (GEvent.mk 0 0 0 ([] : List UInt8) ([] : List GValue))), (GCommand.mk 1 ([97] : List UInt8) 0 0 (GEvent.mk 0 0 0 ([] : List UInt8) ([] : List GValue))), (GCommand.mk 3 ([] : List UInt8) 0 0 (GEvent.mk 3 0 0 ([116] : List UInt8) ([] : List GValue))), (GCommand.mk 7 ([] : List UInt8) (-1) 0 (GEvent.mk 0 0 0 ([] : List UInt8) ([] : List GValue)))] : List GCommand)), (Ar 39 9 enc_GCommand r31_1.1), (Ar 39 9 enc_GCommand r39_2.1)], 0⟩ <| Sq <| Adr <| Wm (.i r25_0.2) rfl <| Wz (.b (decide (r25_0.2 = 0))) (Obn rfl (fun _ => hb_eql (k := .i64))) ?_
 rcases tf_ (decide (r25_0.2 = 0)) with hq51_4 | hq51_4
 ·
  replace hm := cT hq51_4 hm
  refine Wz (.b true) (Oq hq51_4 rfl) <| Wm (.s r25_0.1) rfl <| Wz (.b (decide (r25_0.1 = ([4, 2, 10, 2, 1, 0, 1, 97, 3, 3, 0, 0, 0, 7, 1] : List UInt8)))) (Ocs (lit_tf (by simp only [toS_inj, ne_eq])) (op_bin rfl (a1 := .string (toS r25_0.1)) (a2 := .string (toS ([4, 2, 10, 2, 1, 0, 1, 97, 3, 3, 0, 0, 0, 7, 1] : List UInt8))) (by kernel_rfl) (by kernel_rfl) (fun _ => hb_seql))) <| Wz (.b (decide (r25_0.1 = ([4, 2, 10, 2, 1, 0, 1, 97, 3, 3, 0, 0, 0, 7, 1] : List UInt8)))) (OpT rfl) ?_
  rcases tf_ (decide (r25_0.1 = ([4, 2, 10, 2, 1, 0, 1, 97, 3, 3, 0, 0, 0, 7, 1] : List UInt8))) with hq55_4 | hq55_4
  ·
   replace hm := cT hq55_4 hm
   refine Wz (.b true) (Oq hq55_4 rfl) <| Wm (.i r31_1.2.2) rfl <| Wz (.b (decide (r31_1.2.2 = 0))) (Obn rfl (fun _ => hb_eql (k := .i64))) <| Wz (.b (decide (r31_1.2.2 = 0))) (OpT rfl) ?_
   rcases tf_ (decide (r31_1.2.2 = 0)) with hq59_4 | hq59_4
   ·
    replace hm := cT hq59_4 hm
    refine Wz (.b true) (Oq hq59_4 rfl) <| Wm (.i r31_1.2.1) rfl <| Wm (.s r25_0.1) rfl <| Wz (.i ((List.length r25_0.1 : Nat) : Int)) (Oln rfl) <| Wz (.b (decide (r31_1.2.1 = ((List.length r25_0.1 : Nat) : Int)))) (Obn rfl (fun _ => hb_eql (k := .i64))) <| Wz (.b (decide (r31_1.2.1 = ((List.length r25_0.1 : Nat) : Int)))) (OpT rfl) ?_
    rcases tf_ (decide (r31_1.2.1 = ((List.length r25_0.1 : Nat) : Int))) with hq65_4 | hq65_4
    ·
     replace hm := cT hq65_4 hm
     refine Wz (.b true) (Oq hq65_4 rfl) <| Wm (.own 2) rfl <| Wz (.i ((List.length r31_1.1 : Nat) : Int)) (Oln rfl) <| Wz (.b (decide (((List.length r31_1.1 : Nat) : Int) = 5))) (Obn rfl (fun _ => hb_eql (k := .i64))) <| Wz (.b (decide (((List.length r31_1.1 : Nat) : Int) = 5))) (OpT rfl) ?_
     rcases tf_ (decide (((List.length r31_1.1 : Nat) : Int) = 5)) with hq70_4 | hq70_4
     ·
      replace hm := cT hq70_4 hm
      refine Wz (.b true) (Oq hq70_4 rfl) <| Wm (.own 2) rfl ?_
      obtain ⟨x72_4, hx72_4, hm⟩ := bnd hm
      obtain ⟨hx72_4i, hx72_4g⟩ := geti_some hx72_4
      refine Wz (.loc 2 ((Int.toNat 3) * 9)) (Oia rfl enc_GCommand_len hx72_4i hx72_4g) <| Wz (.agg [(.y x72_4.Kind), (.s x72_4.Text), (.i x72_4.A), (.i x72_4.B), (.i x72_4.E.Time), (.i x72_4.E.Source), (.i x72_4.E.Seq), (.s x72_4.E.Type_), (.l enc_GValue x72_4.E.Vals)]) (Lr rfl enc_GCommand_len hx72_4g) <| Wm (.own 1) rfl ?_
      obtain ⟨x75_4, hx75_4, hm⟩ := bnd hm
      obtain ⟨hx75_4i, hx75_4g⟩ := geti_some hx75_4
      refine Wz (.loc 1 ((Int.toNat 3) * 9)) (Oia rfl enc_GCommand_len hx75_4i hx75_4g) <| Wz (.agg [(.y x75_4.Kind), (.s x75_4.Text), (.i x75_4.A), (.i x75_4.B), (.i x75_4.E.Time), (.i x75_4.E.Source), (.i x75_4.E.Seq), (.s x75_4.E.Type_), (.l enc_GValue x75_4.E.Vals)]) (Lr rfl enc_GCommand_len hx75_4g) ?_
      obtain ⟨r77_4, hr77_4, hm⟩ := bnd hm
      refine Wz (.b r77_4) (Ocf [] [] [] 0 (ok_script_Same x72_4 x75_4 r77_4 hr77_4) (fun a w => Tryd.call16 a w) rfl trivial) <| Wz (.b r77_4) (OpT rfl) ?_
      rcases tf_ r77_4 with hq79_4 | hq79_4
      ·
       replace hm := cT hq79_4 hm
       refine Wz (.b true) (Oq hq79_4 rfl) <| Wm (.own 3) rfl <| Wz (.i ((List.length r39_2.1 : Nat) : Int)) (Oln rfl) <| Wz (.b (decide (((List.length r39_2.1 : Nat) : Int) = 5))) (Obn rfl (fun _ => hb_eql (k := .i64))) <| Wz (.b (decide (((List.length r39_2.1 : Nat) : Int) = 5))) (OpT rfl) ?_
       rcases tf_ (decide (((List.length r39_2.1 : Nat) : Int) = 5)) with hq84_4 | hq84_4
       ·
        replace hm := cT hq84_4 hm
        refine Wz (.b true) (Oq hq84_4 rfl) <| Wm (.i r39_2.2.1) rfl <| Wm (.s r25_0.1) rfl <| Wz (.i ((List.length r25_0.1 : Nat) : Int)) (Oln rfl) <| Wz (.b (decide (r39_2.2.1 = ((List.length r25_0.1 : Nat) : Int)))) (Obn rfl (fun _ => hb_eql (k := .i64))) <| Wz (.b (decide (r39_2.2.1 = ((List.length r25_0.1 : Nat) : Int)))) (OpT rfl) ?_
        rcases tf_ (decide (r39_2.2.1 = ((List.length r25_0.1 : Nat) : Int))) with hq90_4 | hq90_4
        ·
         replace hm := cT hq90_4 hm
         refine Wz (.b true) (Oq hq90_4 rfl) <| Wm (.i r39_2.2.2) rfl <| Wz (.b (decide (r39_2.2.2 = 11))) (Obn rfl (fun _ => hb_eql (k := .i64))) <| Wz (.b (decide (r39_2.2.2 = 11))) (OpT rfl) ?_
         rcases tf_ (decide (r39_2.2.2 = 11)) with hq94_4 | hq94_4
         ·
          replace hm := cT hq94_4 hm
          refine Wz (.b true) (Oq hq94_4 rfl) <| Wm (.i r46_3.2) rfl <| Wz (.b (decide (r46_3.2 = 2))) (Obn rfl (fun _ => hb_eql (k := .i64))) <| Wz (.b (decide (r46_3.2 = 2))) (OpT rfl) ?_
          rcases tf_ (decide (r46_3.2 = 2)) with hq98_4 | hq98_4
          ·
           replace hm := cT hq98_4 hm
           refine Wz (.b true) (Oq hq98_4 rfl) <| Wm (.own 0) rfl <| Wm (.own 1) rfl ?_
           obtain ⟨x101_4, hx101_4, hm⟩ := bnd hm
           obtain ⟨hx101_4i, hx101_4g⟩ := geti_some hx101_4
           refine Wz (.loc 1 ((Int.toNat 0) * 9)) (Oia rfl enc_GCommand_len hx101_4i hx101_4g) <| Wz (.agg [(.y x101_4.Kind), (.s x101_4.Text), (.i x101_4.A), (.i x101_4.B), (.i x101_4.E.Time), (.i x101_4.E.Source), (.i x101_4.E.Seq), (.s x101_4.E.Type_), (.l enc_GValue x101_4.E.Vals)]) (Lr rfl enc_GCommand_len hx101_4g) ?_
           obtain ⟨r103_4, hr103_4, hm⟩ := bnd hm
           refine Wz (.i r103_4) (Ocp [] [] [0] 0 (ok_script_Check ([(GType.mk ([116] : List UInt8) ([] : List GField))] : List GType) x101_4 r103_4 hr103_4) (plain_triv (by simp [A.Plain, A.Plains, D.Plain, byteD])) (fun a w => Tryd.call14 a w) rfl trivial) <| Wz (.b (decide (r103_4 = 0))) (Obn rfl (fun _ => hb_eql (k := .i64))) <| Wz (.b (decide (r103_4 = 0))) (OpT rfl) ?_
           rcases tf_ (decide (r103_4 = 0)) with hq106_4 | hq106_4
           ·
            replace hm := cT hq106_4 hm
            refine Wz (.b true) (Oq hq106_4 rfl) <| Wz (.b true) (OpT rfl) <| Wm (.b true) rfl <| Wdr <| Tn <| Rt ?_
            obtain rfl := Option.some.inj hm
            exact ret_i []
           ·
            replace hm := cF hq106_4 hm
            refine Wz (.b false) (Oq hq106_4 rfl) <| Wz (.b false) (OpF rfl) <| Wm (.b false) rfl <| Wdr <| Tn <| Rt ?_
            obtain rfl := Option.some.inj hm
            exact ret_i []
          ·
           replace hm := cF hq98_4 hm
           refine Wz (.b false) (Oq hq98_4 rfl) <| Wn <| Wn <| Wn <| Wn <| Wn <| Wn <| Wz (.b false) (OpF rfl) <| Wm (.b false) rfl <| Wz (.b false) (OpF rfl) <| Wm (.b false) rfl <| Wdr <| Tn <| Rt ?_
           obtain rfl := Option.some.inj hm
           exact ret_i []
         ·
          replace hm := cF hq94_4 hm
          refine Wz (.b false) (Oq hq94_4 rfl) <| Wn <| Wn <| Wz (.b false) (OpF rfl) <| Wm (.b false) rfl <| Wn <| Wn <| Wn <| Wn <| Wn <| Wn <| Wz (.b false) (OpF rfl) <| Wm (.b false) rfl <| Wz (.b false) (OpF rfl) ?_
          refine Wm (.b false) rfl <| Wdr <| Tn <| Rt ?_
          obtain rfl := Option.some.inj hm
          exact ret_i []
        ·
         replace hm := cF hq90_4 hm
         refine Wz (.b false) (Oq hq90_4 rfl) <| Wn <| Wn <| Wz (.b false) (OpF rfl) <| Wm (.b false) rfl <| Wn <| Wn <| Wz (.b false) (OpF rfl) <| Wm (.b false) rfl <| Wn <| Wn <| Wn <| Wn <| Wn ?_
         refine Wn <| Wz (.b false) (OpF rfl) <| Wm (.b false) rfl <| Wz (.b false) (OpF rfl) <| Wm (.b false) rfl <| Wdr <| Tn <| Rt ?_
         obtain rfl := Option.some.inj hm
         exact ret_i []
       ·
        replace hm := cF hq84_4 hm
        refine Wz (.b false) (Oq hq84_4 rfl) <| Wn <| Wn <| Wn <| Wn <| Wz (.b false) (OpF rfl) <| Wm (.b false) rfl <| Wn <| Wn <| Wz (.b false) (OpF rfl) <| Wm (.b false) rfl <| Wn <| Wn <| Wz (.b false) (OpF rfl) ?_
        refine Wm (.b false) rfl <| Wn <| Wn <| Wn <| Wn <| Wn <| Wn <| Wz (.b false) (OpF rfl) <| Wm (.b false) rfl <| Wz (.b false) (OpF rfl) <| Wm (.b false) rfl <| Wdr <| Tn <| Rt ?_
        obtain rfl := Option.some.inj hm
        exact ret_i []
      ·
       replace hm := cF hq79_4 hm
       refine Wz (.b false) (Oq hq79_4 rfl) <| Wn <| Wn <| Wn <| Wz (.b false) (OpF rfl) <| Wm (.b false) rfl <| Wn <| Wn <| Wn <| Wn <| Wz (.b false) (OpF rfl) <| Wm (.b false) rfl <| Wn <| Wn ?_
       refine Wz (.b false) (OpF rfl) <| Wm (.b false) rfl <| Wn <| Wn <| Wz (.b false) (OpF rfl) <| Wm (.b false) rfl <| Wn <| Wn <| Wn <| Wn <| Wn <| Wn <| Wz (.b false) (OpF rfl) <| Wm (.b false) rfl ?_
       refine Wz (.b false) (OpF rfl) <| Wm (.b false) rfl <| Wdr <| Tn <| Rt ?_
       obtain rfl := Option.some.inj hm
       exact ret_i []
     ·
      replace hm := cF hq70_4 hm
      refine Wz (.b false) (Oq hq70_4 rfl) <| Wn <| Wn <| Wn <| Wn <| Wn <| Wn <| Wn <| Wz (.b false) (OpF rfl) <| Wm (.b false) rfl <| Wn <| Wn <| Wn <| Wz (.b false) (OpF rfl) ?_
      refine Wm (.b false) rfl <| Wn <| Wn <| Wn <| Wn <| Wz (.b false) (OpF rfl) <| Wm (.b false) rfl <| Wn <| Wn <| Wz (.b false) (OpF rfl) <| Wm (.b false) rfl <| Wn <| Wn <| Wz (.b false) (OpF rfl) ?_
      refine Wm (.b false) rfl <| Wn <| Wn <| Wn <| Wn <| Wn <| Wn <| Wz (.b false) (OpF rfl) <| Wm (.b false) rfl <| Wz (.b false) (OpF rfl) <| Wm (.b false) rfl <| Wdr <| Tn <| Rt ?_
      obtain rfl := Option.some.inj hm
      exact ret_i []
    ·
     replace hm := cF hq65_4 hm
     refine Wz (.b false) (Oq hq65_4 rfl) <| Wn <| Wn <| Wn <| Wz (.b false) (OpF rfl) <| Wm (.b false) rfl <| Wn <| Wn <| Wn <| Wn <| Wn <| Wn <| Wn <| Wz (.b false) (OpF rfl) ?_
     refine Wm (.b false) rfl <| Wn <| Wn <| Wn <| Wz (.b false) (OpF rfl) <| Wm (.b false) rfl <| Wn <| Wn <| Wn <| Wn <| Wz (.b false) (OpF rfl) <| Wm (.b false) rfl <| Wn <| Wn ?_
     refine Wz (.b false) (OpF rfl) <| Wm (.b false) rfl <| Wn <| Wn <| Wz (.b false) (OpF rfl) <| Wm (.b false) rfl <| Wn <| Wn <| Wn <| Wn <| Wn <| Wn <| Wz (.b false) (OpF rfl) <| Wm (.b false) rfl ?_
     refine Wz (.b false) (OpF rfl) <| Wm (.b false) rfl <| Wdr <| Tn <| Rt ?_
     obtain rfl := Option.some.inj hm
     exact ret_i []
   ·
    replace hm := cF hq59_4 hm
    refine Wz (.b false) (Oq hq59_4 rfl) <| Wn <| Wn <| Wn <| Wn <| Wz (.b false) (OpF rfl) <| Wm (.b false) rfl <| Wn <| Wn <| Wn <| Wz (.b false) (OpF rfl) <| Wm (.b false) rfl <| Wn <| Wn ?_
    refine Wn <| Wn <| Wn <| Wn <| Wn <| Wz (.b false) (OpF rfl) <| Wm (.b false) rfl <| Wn <| Wn <| Wn <| Wz (.b false) (OpF rfl) <| Wm (.b false) rfl <| Wn <| Wn ?_
    refine Wn <| Wn <| Wz (.b false) (OpF rfl) <| Wm (.b false) rfl <| Wn <| Wn <| Wz (.b false) (OpF rfl) <| Wm (.b false) rfl <| Wn <| Wn <| Wz (.b false) (OpF rfl) <| Wm (.b false) rfl <| Wn <| Wn ?_
    refine Wn <| Wn <| Wn <| Wn <| Wz (.b false) (OpF rfl) <| Wm (.b false) rfl <| Wz (.b false) (OpF rfl) <| Wm (.b false) rfl <| Wdr <| Tn <| Rt ?_
    obtain rfl := Option.some.inj hm
    exact ret_i []
  ·
   replace hm := cF hq55_4 hm
   refine Wz (.b false) (Oq hq55_4 rfl) <| Wn <| Wn <| Wz (.b false) (OpF rfl) <| Wm (.b false) rfl <| Wn <| Wn <| Wn <| Wn <| Wz (.b false) (OpF rfl) <| Wm (.b false) rfl <| Wn <| Wn <| Wn ?_
   refine Wz (.b false) (OpF rfl) <| Wm (.b false) rfl <| Wn <| Wn <| Wn <| Wn <| Wn <| Wn <| Wn <| Wz (.b false) (OpF rfl) <| Wm (.b false) rfl <| Wn <| Wn <| Wn ?_
   refine Wz (.b false) (OpF rfl) <| Wm (.b false) rfl <| Wn <| Wn <| Wn <| Wn <| Wz (.b false) (OpF rfl) <| Wm (.b false) rfl <| Wn <| Wn <| Wz (.b false) (OpF rfl) <| Wm (.b false) rfl <| Wn <| Wn ?_
   refine Wz (.b false) (OpF rfl) <| Wm (.b false) rfl <| Wn <| Wn <| Wn <| Wn <| Wn <| Wn <| Wz (.b false) (OpF rfl) <| Wm (.b false) rfl <| Wz (.b false) (OpF rfl) <| Wm (.b false) rfl <| Wdr <| Tn ?_
   refine Rt ?_
   obtain rfl := Option.some.inj hm
   exact ret_i []
 ·
  replace hm := cF hq51_4 hm
  refine Wz (.b false) (Oq hq51_4 rfl) <| Wn <| Wn <| Wz (.b false) (OpF rfl) <| Wm (.b false) rfl <| Wn <| Wn <| Wz (.b false) (OpF rfl) <| Wm (.b false) rfl <| Wn <| Wn <| Wn <| Wn <| Wz (.b false) (OpF rfl) ?_
  refine Wm (.b false) rfl <| Wn <| Wn <| Wn <| Wz (.b false) (OpF rfl) <| Wm (.b false) rfl <| Wn <| Wn <| Wn <| Wn <| Wn <| Wn <| Wn <| Wz (.b false) (OpF rfl) ?_
  refine Wm (.b false) rfl <| Wn <| Wn <| Wn <| Wz (.b false) (OpF rfl) <| Wm (.b false) rfl <| Wn <| Wn <| Wn <| Wn <| Wz (.b false) (OpF rfl) <| Wm (.b false) rfl <| Wn <| Wn ?_
  refine Wz (.b false) (OpF rfl) <| Wm (.b false) rfl <| Wn <| Wn <| Wz (.b false) (OpF rfl) <| Wm (.b false) rfl <| Wn <| Wn <| Wn <| Wn <| Wn <| Wn <| Wz (.b false) (OpF rfl) <| Wm (.b false) rfl ?_
  refine Wz (.b false) (OpF rfl) <| Wm (.b false) rfl <| Wdr <| Tn <| Rt ?_
  obtain rfl := Option.some.inj hm
  exact ret_i []

theorem ok_w06_Own (p0 : (List GType)) (r : (List GType)) (h : m_w06_Own p0 = some r) : GCall Tryd.prog 10 [(.l enc_GType p0)] [] (.own 0) [(Ar 74 2 enc_GType r)] := by
 refine GCall.of_body (n := 47) (rs := [(.tmp 2)]) Tryd.func10 rfl rfl rfl <| Ato ⟨.l enc_GType p0::tu 46 [], [], 0⟩ ?_
 have hm := h
 unfold m_w06_Own at hm
 refine Sx <| Wm (.d .nil) rfl <| Nk 1 0 ⟨.l enc_GType p0::tp 46 [], [], 0⟩ <| Sx <| Wm (.d .nil) rfl <| Nk 9 0 ⟨.l enc_GType p0::tp 2 (.d .nil::tp 43 []), [], 0⟩ <| Sq <| Sx <| Wm (.i 0) rfl <| Nk 25 0 ⟨.l enc_GType p0::tp 2 (.d .nil::.i 0::tp 42 []), [], 0⟩ <| Bk <| Aow 3 74 2 ⟨.l enc_GType p0::tp 2 (.own 0::.i 0::tp 42 []), [(Ar 74 2 enc_GType ([] : List GType))], 0⟩ ?_
 refine AWP.loopI (α := Nat × (List GType) × Int)
   (fun (fu_0, y3_0, y4_0) => (⟨.l enc_GType p0::tp 2 (.own 0::.i y4_0::tp 42 []), [(Ar 74 2 enc_GType y3_0)], 0⟩ : St))
   (fun (fu_0, y3_0, y4_0) => m_w06_Own_l0 p0 fu_0 y3_0 y4_0 = some r)
   (fun (fu_0, y3_0, y4_0) => fu_0) (1152921504606846976, ([] : List GType), 0)
   (Weak.toK 25 0 0 [0]) hm ?_
 rintro ⟨fu_0, y3_0, y4_0⟩ n_0 hm ih_0
 try dsimp only at hm ih_0 ⊢
 cases fu_0 with
 | zero => exact absurd hm (by unfold m_w06_Own_l0; simp)
 | succ fu_0 =>
  unfold m_w06_Own_l0 at hm
  refine Sq <| Sx <| Wm (.i y4_0) rfl <| Wm (.l enc_GType p0) rfl <| Wz (.i ((List.length p0 : Nat) : Int)) (Oln rfl) <| Wz (.b (decide (y4_0 < ((List.length p0 : Nat) : Int)))) (Obn rfl (fun _ => hb_lss (k := .i64))) <| Nk 1049 1 ⟨.l enc_GType p0::tp 2 (.own 0::.i y4_0::tp 5 (.b (decide (y4_0 < ((List.length p0 : Nat) : Int)))::tp 36 [])), [(Ar 74 2 enc_GType y3_0)], 0⟩ ?_
  rcases tf_ (decide (y4_0 < ((List.length p0 : Nat) : Int))) with hc10_7 | hc10_7
  ·
   replace hm := cT hc10_7 hm
   refine AiT hc10_7 <| Sk <| Tk 25 1 ⟨.l enc_GType p0::tp 2 (.own 0::.i y4_0::tp 42 []), [(Ar 74 2 enc_GType y3_0)], 0⟩ <| Sq <| Bk <| Sx <| Wm (.l enc_GType p0) rfl <| Wm (.i y4_0) rfl ?_
   obtain ⟨x15_2, hx15_2, hm⟩ := bnd hm
   obtain ⟨hx15_2i, hx15_2g⟩ := geti_some hx15_2
   refine Wz (.d (.ref (List.drop ((Int.toNat y4_0) * 2) (flatD enc_GType p0)))) (Oia rfl enc_GType_len hx15_2i hx15_2g) <| Wz (.d (.ref (List.drop ((Int.toNat y4_0) * 2) (flatD enc_GType p0)))) (Ofa rfl) <| Wz (.s x15_2.Name) (Lf1 rfl enc_GType_len hx15_2g) <| Wz (.agg [(.s x15_2.Name), (.d .nil)]) (Obd rfl) <| Wy (.loc 1 0) [(1, (.box [(.s ([] : List UInt8)), (.d .nil)]))] (Oal rfl) <| Wy (.tup []) [(1, (.box [(.s x15_2.Name), (.d .nil)]))] (Ost rfl) <| Nk 57 3 ⟨.l enc_GType p0::tp 2 (.own 0::.i y4_0::.loc 1 0::tp 41 []), [(Ar 74 2 enc_GType y3_0), (.box [(.s x15_2.Name), (.d .nil)])], 0⟩ <| Sq <| Sx <| Wm (.i 0) rfl <| Nk 121 3 ⟨.l enc_GType p0::tp 2 (.own 0::.i y4_0::.loc 1 0::.i 0::tp 40 []), [(Ar 74 2 enc_GType y3_0), (.box [(.s x15_2.Name), (.d .nil)])], 0⟩ <| Bk <| Aob 1 1 75 2 ⟨.l enc_GType p0::tp 2 (.own 0::.i y4_0::.loc 1 0::.i 0::tp 40 []), [(Ar 74 2 enc_GType y3_0), (.box [(.s x15_2.Name), (.own 2)]), (Ar 75 2 enc_GField ([] : List GField))], 0⟩ ?_
   refine AWP.loopI (α := Nat × (List GField) × Int)
     (fun (fu_3, y5_d_1_3, y6_3) => (⟨.l enc_GType p0::tp 2 (.own 0::.i y4_0::.loc 1 0::.i y6_3::tp 40 []), [(Ar 74 2 enc_GType y3_0), (.box [(.s x15_2.Name), (.own 2)]), (Ar 75 2 enc_GField y5_d_1_3)], 0⟩ : St))
     (fun (fu_3, y5_d_1_3, y6_3) => m_w06_Own_l3 p0 x15_2 y3_0 y4_0 (fun y3_0 y4_0 => m_w06_Own_l0 p0 fu_0 y3_0 y4_0) fu_3 y5_d_1_3 y6_3 = some r)
     (fun (fu_3, y5_d_1_3, y6_3) => fu_3) (1152921504606846976, ([] : List GField), 0)
     (Weak.toK 121 0 0 [0, 1, 2]) hm ?_
   rintro ⟨fu_3, y5_d_1_3, y6_3⟩ n_3 hm ih_3
   try dsimp only at hm ih_3 ⊢
   cases fu_3 with
   | zero => exact absurd hm (by unfold m_w06_Own_l3; simp)
   | succ fu_3 =>
    unfold m_w06_Own_l3 at hm
    refine Sq <| Sx <| Wm (.i y6_3) rfl <| Wm (.l enc_GType p0) rfl <| Wm (.i y4_0) rfl ?_
    obtain ⟨x22_4, hx22_4, hm⟩ := bnd hm
    obtain ⟨hx22_4i, hx22_4g⟩ := geti_some hx22_4
    refine Wz (.d (.ref (List.drop ((Int.toNat y4_0) * 2) (flatD enc_GType p0)))) (Oia rfl enc_GType_len hx22_4i hx22_4g) <| Wz (.d (.ref (List.drop 1 (List.drop ((Int.toNat y4_0) * 2) (flatD enc_GType p0))))) (Ofa rfl) <| Wz (.l enc_GField x22_4.Fields) (Lfk1 1 rfl enc_GType_len hx22_4g) <| Wz (.i ((List.length x22_4.Fields : Nat) : Int)) (Oln rfl) <| Wz (.b (decide (y6_3 < ((List.length x22_4.Fields : Nat) : Int)))) (Obn rfl (fun _ => hb_lss (k := .i64))) <| Nk 67108985 7 ⟨.l enc_GType p0::tp 2 (.own 0::.i y4_0::.loc 1 0::.i y6_3::tp 19 (.b (decide (y6_3 < ((List.length x22_4.Fields : Nat) : Int)))::tp 20 [])), [(Ar 74 2 enc_GType y3_0), (.box [(.s x15_2.Name), (.own 2)]), (Ar 75 2 enc_GField y5_d_1_3)], 0⟩ ?_
    rcases tf_ (decide (y6_3 < ((List.length x22_4.Fields : Nat) : Int))) with hc26_8 | hc26_8
    ·
     replace hm := cT hc26_8 hm
     refine AiT hc26_8 <| Sk <| Tk 121 7 ⟨.l enc_GType p0::tp 2 (.own 0::.i y4_0::.loc 1 0::.i y6_3::tp 40 []), [(Ar 74 2 enc_GType y3_0), (.box [(.s x15_2.Name), (.own 2)]), (Ar 75 2 enc_GField y5_d_1_3)], 0⟩ <| Sq <| Bk <| Adr <| Wz (.loc 1 1) (Ofa rfl) <| Wz (.own 2) (Old rfl) <| Wm (.l enc_GType p0) rfl <| Wm (.i y4_0) rfl ?_
     obtain ⟨x33_5, hx33_5, hm⟩ := bnd hm
     obtain ⟨hx33_5i, hx33_5g⟩ := geti_some hx33_5
     refine Wz (.d (.ref (List.drop ((Int.toNat y4_0) * 2) (flatD enc_GType p0)))) (Oia rfl enc_GType_len hx33_5i hx33_5g) <| Wz (.d (.ref (List.drop 1 (List.drop ((Int.toNat y4_0) * 2) (flatD enc_GType p0))))) (Ofa rfl) <| Wz (.l enc_GField x33_5.Fields) (Lfk1 1 rfl enc_GType_len hx33_5g) <| Wm (.i y6_3) rfl ?_
     obtain ⟨x37_5, hx37_5, hm⟩ := bnd hm
     obtain ⟨hx37_5i, hx37_5g⟩ := geti_some hx37_5
     refine Wz (.d (.ref (List.drop ((Int.toNat y6_3) * 2) (flatD enc_GField x33_5.Fields)))) (Oia rfl enc_GField_len hx37_5i hx37_5g) <| Wz (.agg [(.s x37_5.Name), (.y x37_5.Kind)]) (Lf rfl enc_GField_len hx37_5g) <| Wy (.own 3) [(3, (Ar 75 2 enc_GField ([x37_5] : List GField)))] (Obs rfl) ?_
     obtain ⟨a40_5, ha40_5, hm⟩ := bnd hm; obtain ⟨ha40_5e, ha40_5l⟩ := app_some ha40_5
     refine Wy (.own 4) [(2, .gone), (4, (Ar 75 2 enc_GField a40_5))] (Oap rfl elemOK_72 enc_GField_len ha40_5e ha40_5l) <| Wz (.loc 1 1) (Ofa rfl) <| Wy (.tup []) [(1, (.box [(.s x15_2.Name), (.own 4)]))] (Ost rfl) <| Wdr <| Ino <| Tk 121 19 ⟨.l enc_GType p0::tp 2 (.own 0::.i y4_0::.loc 1 0::.i y6_3::tp 40 []), [(Ar 74 2 enc_GType y3_0), (.box [(.s x15_2.Name), (.own 4)]), .gone, .gone, (Ar 75 2 enc_GField a40_5)], 0⟩ <| Tx <| Wm (.i y6_3) rfl <| Wz (.i (W6 (y6_3 + 1))) (Obn rfl (fun _ => hb_add (k := .i64))) <| Wm (.i (W6 (y6_3 + 1))) rfl <| Wn0 <| RoundK.normal ?_
     exact Rounds.weak (Weak.toK 121 0 0 [0, 1, 4]) (ih_3 (fu_3, a40_5, (W6 (y6_3 + 1))) hm (Nat.lt_succ_self _))
    ·
     replace hm := cF hc26_8 hm
     refine AiF hc26_8 <| AWP.exit <| Then.exit <| RoundK.exit <| InBlock.same <| Tk 57 7 ⟨.l enc_GType p0::tp 2 (.own 0::.i y4_0::.loc 1 0::tp 41 []), [(Ar 74 2 enc_GType y3_0), (.box [(.s x15_2.Name), (.own 2)]), (Ar 75 2 enc_GField y5_d_1_3)], 0⟩ <| Afz [2] ⟨.l enc_GType p0::tp 2 (.own 0::.i y4_0::.loc 1 0::tp 41 []), [(Ar 74 2 enc_GType y3_0), (.box [(.s x15_2.Name), (.l enc_GField y5_d_1_3)]), (.fro 75 2 (List.length y5_d_1_3) (flatD enc_GField y5_d_1_3))], 0⟩ <| Tx <| Wm (.own 0) rfl <| Wz (.agg [(.s x15_2.Name), (.l enc_GField y5_d_1_3)]) (Old rfl) <| Wy (.own 3) [(3, (Ar 74 2 enc_GType ([(GType.mk x15_2.Name y5_d_1_3)] : List GType)))] (Obs rfl) ?_
     obtain ⟨a45_6, ha45_6, hm⟩ := bnd hm; obtain ⟨ha45_6e, ha45_6l⟩ := app_some ha45_6
     refine Wy (.own 4) [(0, .gone), (4, (Ar 74 2 enc_GType a45_6))] (Oap rfl elemOK_27 enc_GType_len ha45_6e ha45_6l) <| Wm (.own 4) rfl <| Wn0 <| Ino <| Tk 25 16 ⟨.l enc_GType p0::tp 2 (.own 4::.i y4_0::tp 42 []), [.gone, .gone, .gone, .gone, (Ar 74 2 enc_GType a45_6)], 0⟩ <| Tx <| Wm (.i y4_0) rfl <| Wz (.i (W6 (y4_0 + 1))) (Obn rfl (fun _ => hb_add (k := .i64))) <| Wm (.i (W6 (y4_0 + 1))) rfl <| Wn0 <| RoundK.normal ?_
     exact Rounds.weak (Weak.toK 25 0 0 [4]) (ih_0 (fu_0, a45_6, (W6 (y4_0 + 1))) hm (Nat.lt_succ_self _))
  ·
   replace hm := cF hc10_7 hm
   refine AiF hc10_7 <| AWP.exit <| Then.exit <| RoundK.exit <| InBlock.same <| Tk 8 1 ⟨tp 3 (.own 0::tp 43 []), [(Ar 74 2 enc_GType y3_0)], 0⟩ <| Sx <| Wm (.own 0) rfl <| Wm (.own 0) rfl <| Nn <| Rt ?_
   obtain rfl := Option.some.inj hm
   exact ret_i [0]

theorem ok_r06_Reserved (p0 : (List UInt8)) (r : Bool) (h : m_r06_Reserved p0 = some r) : GCall Tryd.prog 103 [(.s p0)] [] (.b r) [] := by
 refine GCall.of_body (n := 18) (rs := [(.tmp 2)]) Tryd.func103 rfl rfl rfl <| Ato ⟨.s p0::tu 17 [], [], 0⟩ ?_
 have hm := h
 unfold m_r06_Reserved at hm
 refine Sx <| Wm (.b false) rfl <| Nk 1 0 ⟨.s p0::tp 17 [], [], 0⟩ <| Sx <| Wy (.own 0) [(0, (Ar 9 1 encS ([([119, 105, 116, 104, 105, 110] : List UInt8), ([98, 121] : List UInt8), ([97, 110, 100] : List UInt8), ([111, 114] : List UInt8), ([110, 111, 116] : List UInt8), ([97, 110, 121] : List UInt8), ([110, 101, 120, 116] : List UInt8), ([115, 116, 114, 105, 99, 116] : List UInt8), ([116, 114, 117, 101] : List UInt8), ([102, 97, 108, 115, 101] : List UInt8)] : List (List UInt8))))] (Obs rfl) <| Wm (.own 0) rfl <| Nk 9 1 ⟨.s p0::tp 2 (.own 0::tp 14 []), [(Ar 9 1 encS ([([119, 105, 116, 104, 105, 110] : List UInt8), ([98, 121] : List UInt8), ([97, 110, 100] : List UInt8), ([111, 114] : List UInt8), ([110, 111, 116] : List UInt8), ([97, 110, 121] : List UInt8), ([110, 101, 120, 116] : List UInt8), ([115, 116, 114, 105, 99, 116] : List UInt8), ([116, 114, 117, 101] : List UInt8), ([102, 97, 108, 115, 101] : List UInt8)] : List (List UInt8)))], 0⟩ <| Sq <| Sx <| Wm (.i 0) rfl <| Nk 25 1 ⟨.s p0::tp 2 (.own 0::.i 0::tp 13 []), [(Ar 9 1 encS ([([119, 105, 116, 104, 105, 110] : List UInt8), ([98, 121] : List UInt8), ([97, 110, 100] : List UInt8), ([111, 114] : List UInt8), ([110, 111, 116] : List UInt8), ([97, 110, 121] : List UInt8), ([110, 101, 120, 116] : List UInt8), ([115, 116, 114, 105, 99, 116] : List UInt8), ([116, 114, 117, 101] : List UInt8), ([102, 97, 108, 115, 101] : List UInt8)] : List (List UInt8)))], 0⟩ <| Bk ?_
 refine AWP.loopI (α := Nat × Int)
   (fun (fu_0, y4_0) => (⟨.s p0::tp 2 (.own 0::.i y4_0::tp 13 []), [(Ar 9 1 encS ([([119, 105, 116, 104, 105, 110] : List UInt8), ([98, 121] : List UInt8), ([97, 110, 100] : List UInt8), ([111, 114] : List UInt8), ([110, 111, 116] : List UInt8), ([97, 110, 121] : List UInt8), ([110, 101, 120, 116] : List UInt8), ([115, 116, 114, 105, 99, 116] : List UInt8), ([116, 114, 117, 101] : List UInt8), ([102, 97, 108, 115, 101] : List UInt8)] : List (List UInt8)))], 0⟩ : St))
   (fun (fu_0, y4_0) => m_r06_Reserved_l0 p0 fu_0 y4_0 = some r)
   (fun (fu_0, y4_0) => fu_0) (1152921504606846976, 0)
   (Weak.toK 25 0 0 [0]) hm ?_
 rintro ⟨fu_0, y4_0⟩ n_0 hm ih_0
 try dsimp only at hm ih_0 ⊢
 cases fu_0 with
 | zero => exact absurd hm (by unfold m_r06_Reserved_l0; simp)
 | succ fu_0 =>
  unfold m_r06_Reserved_l0 at hm
  refine Sq <| Sx <| Wm (.i y4_0) rfl <| Wm (.own 0) rfl ?_
  obtain ⟨v8_2, hv8_2, hm⟩ := bnd hm; replace hv8_2 := Option.some.inj hv8_2
  refine Wz (.i v8_2) (Ocs (congrArg (fun z => A.d (.lit (.int .i64 z))) hv8_2) (Oln rfl)) <| Wz (.b (decide (y4_0 < v8_2))) (Obn rfl (fun _ => hb_lss (k := .i64))) <| Nk 537 1 ⟨.s p0::tp 2 (.own 0::.i y4_0::tp 4 (.b (decide (y4_0 < v8_2))::tp 8 [])), [(Ar 9 1 encS ([([119, 105, 116, 104, 105, 110] : List UInt8), ([98, 121] : List UInt8), ([97, 110, 100] : List UInt8), ([111, 114] : List UInt8), ([110, 111, 116] : List UInt8), ([97, 110, 121] : List UInt8), ([110, 101, 120, 116] : List UInt8), ([115, 116, 114, 105, 99, 116] : List UInt8), ([116, 114, 117, 101] : List UInt8), ([102, 97, 108, 115, 101] : List UInt8)] : List (List UInt8)))], 0⟩ ?_
  rcases tf_ (decide (y4_0 < v8_2)) with hc9_4 | hc9_4
  ·
   replace hm := cT hc9_4 hm
   refine AiT hc9_4 <| Sk <| Tk 25 1 ⟨.s p0::tp 2 (.own 0::.i y4_0::tp 13 []), [(Ar 9 1 encS ([([119, 105, 116, 104, 105, 110] : List UInt8), ([98, 121] : List UInt8), ([97, 110, 100] : List UInt8), ([111, 114] : List UInt8), ([110, 111, 116] : List UInt8), ([97, 110, 121] : List UInt8), ([110, 101, 120, 116] : List UInt8), ([115, 116, 114, 105, 99, 116] : List UInt8), ([116, 114, 117, 101] : List UInt8), ([102, 97, 108, 115, 101] : List UInt8)] : List (List UInt8)))], 0⟩ <| Sq <| Bk <| Sx <| Wm (.own 0) rfl <| Wm (.i y4_0) rfl ?_
   obtain ⟨x14_3, hx14_3, hm⟩ := bnd hm
   obtain ⟨hx14_3i, hx14_3g⟩ := geti_some hx14_3
   refine Wz (.loc 0 ((Int.toNat y4_0) * 1)) (Oia rfl encS_len hx14_3i hx14_3g) <| Wz (.s x14_3) (Lr1 rfl encS_len hx14_3g) <| Wm (.s p0) rfl <| Wz (.b (decide (x14_3 = p0))) (Ocs (lit_tf (by simp only [toS_inj, ne_eq])) (op_bin rfl (a1 := .string (toS x14_3)) (a2 := .string (toS p0)) (by kernel_rfl) (by kernel_rfl) (fun _ => hb_seql))) <| Nk 131097 1 ⟨.s p0::tp 2 (.own 0::.i y4_0::tp 12 (.b (decide (x14_3 = p0))::[])), [(Ar 9 1 encS ([([119, 105, 116, 104, 105, 110] : List UInt8), ([98, 121] : List UInt8), ([97, 110, 100] : List UInt8), ([111, 114] : List UInt8), ([110, 111, 116] : List UInt8), ([97, 110, 121] : List UInt8), ([110, 101, 120, 116] : List UInt8), ([115, 116, 114, 105, 99, 116] : List UInt8), ([116, 114, 117, 101] : List UInt8), ([102, 97, 108, 115, 101] : List UInt8)] : List (List UInt8)))], 0⟩ ?_
   rcases tf_ (decide (x14_3 = p0)) with hc17_5 | hc17_5
   ·
    replace hm := cT hc17_5 hm
    refine AiT hc17_5 <| Sx <| Wm (.b true) rfl <| Nn <| Rt <| Ir <| Tr <| RoundK.ret <| Ir <| Tr ?_
    obtain rfl := Option.some.inj hm
    exact ret_i []
   ·
    replace hm := cF hc17_5 hm
    refine AiF hc17_5 <| Sk <| Ino <| Tk 25 1 ⟨.s p0::tp 2 (.own 0::.i y4_0::tp 13 []), [(Ar 9 1 encS ([([119, 105, 116, 104, 105, 110] : List UInt8), ([98, 121] : List UInt8), ([97, 110, 100] : List UInt8), ([111, 114] : List UInt8), ([110, 111, 116] : List UInt8), ([97, 110, 121] : List UInt8), ([110, 101, 120, 116] : List UInt8), ([115, 116, 114, 105, 99, 116] : List UInt8), ([116, 114, 117, 101] : List UInt8), ([102, 97, 108, 115, 101] : List UInt8)] : List (List UInt8)))], 0⟩ <| Tx <| Wm (.i y4_0) rfl <| Wz (.i (W6 (y4_0 + 1))) (Obn rfl (fun _ => hb_add (k := .i64))) <| Wm (.i (W6 (y4_0 + 1))) rfl <| Wn0 <| RoundK.normal ?_
    exact Rounds.weak (Weak.toK 25 0 0 [0]) (ih_0 (fu_0, (W6 (y4_0 + 1))) hm (Nat.lt_succ_self _))
  ·
   replace hm := cF hc9_4 hm
   refine AiF hc9_4 <| AWP.exit <| Then.exit <| RoundK.exit <| InBlock.same <| Tk 0 0 ⟨tp 18 [], [.gone], 0⟩ <| Sx <| Wm (.b false) rfl <| Nn <| Rt ?_
   obtain rfl := Option.some.inj hm
   exact ret_i []

theorem ok_r06_Name (p0 : (List UInt8)) (r : Bool) (h : m_r06_Name p0 = some r) : GCall Tryd.prog 84 [(.s p0)] [] (.b r) [] := by
 refine GCall.of_body (n := 60) (rs := [(.tmp 2)]) Tryd.func84 rfl rfl rfl <| Ato ⟨.s p0::tu 59 [], [], 0⟩ ?_
 have hm := h
 unfold m_r06_Name at hm
 refine Sx <| Wm (.b false) rfl <| Nk 1 0 ⟨.s p0::tp 59 [], [], 0⟩ <| Sq ?_
 refine AWP.cutJ (α := Unit) (fun x => match x with | () => (⟨.s p0::tp 16 (.b true::tp 42 []), [], 0⟩ : St)) (fun x => match x with | () => m_r06_Name_j1  = some r) ?_ (fun J1 => ?_)
 ·
  rintro ⟨⟩ hm
  try dsimp only at hm ⊢
  unfold m_r06_Name_j1 at hm
  refine AWP.if_ true (by kernel_rfl) <| Sx <| Wm (.b false) rfl <| Nn <| Rt <| Tr ?_
  obtain rfl := Option.some.inj hm
  exact ret_i []
 refine Sx <| Wm (.s p0) rfl <| Wz (.i ((List.length p0 : Nat) : Int)) (Oln rfl) <| Wz (.b (decide (((List.length p0 : Nat) : Int) < 1))) (Obn rfl (fun _ => hb_lss (k := .i64))) ?_
 rcases tf_ (decide (((List.length p0 : Nat) : Int) < 1)) with hq9_0 | hq9_0
 ·
  replace hm := cT hq9_0 hm
  refine Wz (.b true) (Oq hq9_0 rfl) <| Wn <| Wn <| Wn <| Wz (.b true) (OpT rfl) <| Wm (.b true) rfl <| Wn <| Wn <| Wz (.b true) (OpT rfl) <| Nn ?_
  exact AWP.weak (Weak.toK 131073 0 0 []) (J1 () hm)
 ·
  replace hm := cF hq9_0 hm
  refine Wz (.b false) (Oq hq9_0 rfl) <| Wm (.s p0) rfl <| Wz (.i ((List.length p0 : Nat) : Int)) (Oln rfl) <| Wz (.b (decide ((12 : Int) < ((List.length p0 : Nat) : Int)))) (Obn rfl (fun _ => hb_gtr (k := .i64))) <| Wz (.b (decide ((12 : Int) < ((List.length p0 : Nat) : Int)))) (OpF rfl) ?_
  rcases tf_ (decide ((12 : Int) < ((List.length p0 : Nat) : Int))) with hq14_0 | hq14_0
  ·
   replace hm := cT hq14_0 hm
   refine Wz (.b true) (Oq hq14_0 rfl) <| Wn <| Wn <| Wz (.b true) (OpT rfl) <| Nn ?_
   exact AWP.weak (Weak.toK 131073 0 0 []) (J1 () hm)
  ·
   replace hm := cF hq14_0 hm
   refine Wz (.b false) (Oq hq14_0 rfl) <| Wm (.s p0) rfl ?_
   obtain ⟨r16_0, hr16_0, hm⟩ := bnd hm
   refine Wz (.b r16_0) (Ocf [] [] [] 0 (ok_r06_Reserved p0 r16_0 hr16_0) (fun a w => Tryd.call103 a w) rfl trivial) <| Wz (.b r16_0) (OpF rfl) <| Nk 131073 0 ⟨.s p0::tp 16 (.b r16_0::tp 42 []), [], 0⟩ ?_
   rcases tf_ r16_0 with hc17_14 | hc17_14
   ·
    replace hm := cT hc17_14 hm
    refine AiT hc17_14 <| Sx <| Wm (.b false) rfl <| Nn <| Rt <| Tr ?_
    obtain rfl := Option.some.inj hm
    exact ret_i []
   ·
    replace hm := cF hc17_14 hm
    refine AiF hc17_14 <| Sk <| Tk 1 0 ⟨.s p0::tp 59 [], [], 0⟩ <| Sq <| Sx <| Wm (.i 0) rfl <| Nk 9 0 ⟨.s p0::tp 2 (.i 0::tp 56 []), [], 0⟩ <| Bk ?_
    refine AWP.loopI (α := Nat × Int)
      (fun (fu_2, y3_2) => (⟨.s p0::tp 2 (.i y3_2::tp 56 []), [], 0⟩ : St))
      (fun (fu_2, y3_2) => m_r06_Name_l2 p0 fu_2 y3_2 = some r)
      (fun (fu_2, y3_2) => fu_2) (1152921504606846976, 0)
      (Weak.toK 9 0 0 []) hm ?_
    rintro ⟨fu_2, y3_2⟩ n_2 hm ih_2
    try dsimp only at hm ih_2 ⊢
    cases fu_2 with
    | zero => exact absurd hm (by unfold m_r06_Name_l2; simp)
    | succ fu_2 =>
     unfold m_r06_Name_l2 at hm
     refine Sq <| Sx <| Wm (.i y3_2) rfl <| Wm (.s p0) rfl <| Wz (.i ((List.length p0 : Nat) : Int)) (Oln rfl) <| Wz (.b (decide (y3_2 < ((List.length p0 : Nat) : Int)))) (Obn rfl (fun _ => hb_lss (k := .i64))) <| Nk 2097161 0 ⟨.s p0::tp 2 (.i y3_2::tp 17 (.b (decide (y3_2 < ((List.length p0 : Nat) : Int)))::tp 38 [])), [], 0⟩ ?_
     rcases tf_ (decide (y3_2 < ((List.length p0 : Nat) : Int))) with hc21_15 | hc21_15
     ·
      replace hm := cT hc21_15 hm
      refine AiT hc21_15 <| Sk <| Tk 9 0 ⟨.s p0::tp 2 (.i y3_2::tp 56 []), [], 0⟩ <| Sq <| Bk <| Sx <| Wm (.s p0) rfl <| Wm (.i y3_2) rfl ?_
      obtain ⟨x26_4, hx26_4, hm⟩ := bnd hm
      obtain ⟨hx26_4i, hx26_4g⟩ := geti_some hx26_4
      refine Wz (.y x26_4) (Ocs (by kernel_rfl) (op_index_str rfl (by kernel_rfl) (s := toS p0) (by kernel_rfl) (k := .i64) (iv := y3_2) (by kernel_rfl) (i := (Int.toNat y3_2)) (hx26_4i) (b := x26_4) (hx26_4g))) <| Wz (.b (decide ((97 : Int) ≤ ((x26_4.toNat : Nat) : Int)))) (Ob2 (.int .u8 ((x26_4.toNat : Nat) : Int)) (.int .u8 97) rfl (fun _ => hb_geq)) ?_
      rcases tf_ (decide ((97 : Int) ≤ ((x26_4.toNat : Nat) : Int))) with hq28_4 | hq28_4
      ·
       replace hm := cT hq28_4 hm
       refine Wz (.b true) (Oq hq28_4 rfl) <| Wm (.s p0) rfl <| Wm (.i y3_2) rfl ?_
       obtain ⟨x31_4, hx31_4, hm⟩ := bnd hm
       obtain ⟨hx31_4i, hx31_4g⟩ := geti_some hx31_4
       refine Wz (.y x31_4) (Ocs (by kernel_rfl) (op_index_str rfl (by kernel_rfl) (s := toS p0) (by kernel_rfl) (k := .i64) (iv := y3_2) (by kernel_rfl) (i := (Int.toNat y3_2)) (hx31_4i) (b := x31_4) (hx31_4g))) <| Wz (.b (decide (((x31_4.toNat : Nat) : Int) ≤ 122))) (Ob2 (.int .u8 ((x31_4.toNat : Nat) : Int)) (.int .u8 122) rfl (fun _ => hb_leq)) <| Wz (.b (decide (((x31_4.toNat : Nat) : Int) ≤ 122))) (OpT rfl) <| Wm (.b (decide (((x31_4.toNat : Nat) : Int) ≤ 122))) rfl <| Nk 25 0 ⟨.s p0::tp 2 (.i y3_2::.b (decide (((x31_4.toNat : Nat) : Int) ≤ 122))::tp 55 []), [], 0⟩ ?_
       refine AWP.cutJ (α := Bool) (fun x => match x with | y5_6 => (⟨.s p0::tp 2 (.i y3_2::.b (decide (((x31_4.toNat : Nat) : Int) ≤ 122))::.b y5_6::tp 54 []), [], 0⟩ : St)) (fun x => match x with | y5_6 => m_r06_Name_j6 x31_4 y3_2 (fun y3_2 => m_r06_Name_l2 p0 fu_2 y3_2) y5_6 = some r) ?_ (fun J6 => ?_)
       ·
        rintro y5_6 hm
        try dsimp only at hm ⊢
        unfold m_r06_Name_j6 at hm
        refine Sx <| Wm (.b (decide (((x31_4.toNat : Nat) : Int) ≤ 122))) rfl <| Wz (.b (!decide (((x31_4.toNat : Nat) : Int) ≤ 122))) (Ocs (by kernel_rfl) (op_un rfl (a1 := .bool (decide (((x31_4.toNat : Nat) : Int) ≤ 122))) (by kernel_rfl) (fun _ => hu_not))) ?_
        rcases tf_ (!decide (((x31_4.toNat : Nat) : Int) ≤ 122)) with hq52_8 | hq52_8
        ·
         replace hm := cT hq52_8 hm
         refine Wz (.b true) (Oq hq52_8 rfl) <| Wm (.i y3_2) rfl <| Wz (.b (decide (y3_2 = 0))) (Obn rfl (fun _ => hb_eql (k := .i64))) ?_
         rcases tf_ (decide (y3_2 = 0)) with hq55_8 | hq55_8
         ·
          replace hm := cT hq55_8 hm
          refine Wz (.b true) (Oq hq55_8 rfl) <| Wn <| Wn <| Wz (.b true) (OpT rfl) <| Wz (.b true) (OpT rfl) <| Nk 576460752303423497 0 ⟨.s p0::tp 2 (.i y3_2::tp 55 (.b true::[])), [], 0⟩ <| AWP.if_ true (by kernel_rfl) <| Sx <| Wm (.b false) rfl <| Nn <| Rt <| Ir <| Tr <| RoundK.ret ?_
          refine Ir <| Tr ?_
          obtain rfl := Option.some.inj hm
          exact ret_i []
         ·
          replace hm := cF hq55_8 hm
          refine Wz (.b false) (Oq hq55_8 rfl) <| Wm (.b y5_6) rfl <| Wz (.b (!y5_6)) (Ocs (by kernel_rfl) (op_un rfl (a1 := .bool y5_6) (by kernel_rfl) (fun _ => hu_not))) <| Wz (.b (!y5_6)) (OpF rfl) <| Wz (.b (!y5_6)) (OpT rfl) <| Nk 576460752303423497 0 ⟨.s p0::tp 2 (.i y3_2::tp 55 (.b (!y5_6)::[])), [], 0⟩ ?_
          rcases tf_ (!y5_6) with hc59_16 | hc59_16
          ·
           replace hm := cT hc59_16 hm
           refine AiT hc59_16 <| Sx <| Wm (.b false) rfl <| Nn <| Rt <| Ir <| Tr <| RoundK.ret <| Ir <| Tr ?_
           obtain rfl := Option.some.inj hm
           exact ret_i []
          ·
           replace hm := cF hc59_16 hm
           refine AiF hc59_16 <| Sk <| Ino <| Tk 9 0 ⟨.s p0::tp 2 (.i y3_2::tp 56 []), [], 0⟩ <| Tx <| Wm (.i y3_2) rfl <| Wz (.i (W6 (y3_2 + 1))) (Obn rfl (fun _ => hb_add (k := .i64))) <| Wm (.i (W6 (y3_2 + 1))) rfl <| Wn0 <| RoundK.normal ?_
           exact Rounds.weak (Weak.toK 9 0 0 []) (ih_2 (fu_2, (W6 (y3_2 + 1))) hm (Nat.lt_succ_self _))
        ·
         replace hm := cF hq52_8 hm
         refine Wz (.b false) (Oq hq52_8 rfl) <| Wn <| Wn <| Wn <| Wn <| Wn <| Wn <| Wz (.b false) (OpF rfl) <| Nk 576460752303423497 0 ⟨.s p0::tp 2 (.i y3_2::tp 55 (.b false::[])), [], 0⟩ <| AWP.if_ false (by kernel_rfl) <| Sk <| Ino <| Tk 9 0 ⟨.s p0::tp 2 (.i y3_2::tp 56 []), [], 0⟩ <| Tx ?_
         refine Wm (.i y3_2) rfl <| Wz (.i (W6 (y3_2 + 1))) (Obn rfl (fun _ => hb_add (k := .i64))) <| Wm (.i (W6 (y3_2 + 1))) rfl <| Wn0 <| RoundK.normal ?_
         exact Rounds.weak (Weak.toK 9 0 0 []) (ih_2 (fu_2, (W6 (y3_2 + 1))) hm (Nat.lt_succ_self _))
       refine Sx <| Wm (.s p0) rfl <| Wm (.i y3_2) rfl ?_
       obtain ⟨x36_5, hx36_5, hm⟩ := bnd hm
       obtain ⟨hx36_5i, hx36_5g⟩ := geti_some hx36_5
       refine Wz (.y x36_5) (Ocs (by kernel_rfl) (op_index_str rfl (by kernel_rfl) (s := toS p0) (by kernel_rfl) (k := .i64) (iv := y3_2) (by kernel_rfl) (i := (Int.toNat y3_2)) (hx36_5i) (b := x36_5) (hx36_5g))) <| Wz (.b (decide ((48 : Int) ≤ ((x36_5.toNat : Nat) : Int)))) (Ob2 (.int .u8 ((x36_5.toNat : Nat) : Int)) (.int .u8 48) rfl (fun _ => hb_geq)) ?_
       rcases tf_ (decide ((48 : Int) ≤ ((x36_5.toNat : Nat) : Int))) with hq38_5 | hq38_5
       ·
        replace hm := cT hq38_5 hm
        refine Wz (.b true) (Oq hq38_5 rfl) <| Wm (.s p0) rfl <| Wm (.i y3_2) rfl ?_
        obtain ⟨x41_5, hx41_5, hm⟩ := bnd hm
        obtain ⟨hx41_5i, hx41_5g⟩ := geti_some hx41_5
        refine Wz (.y x41_5) (Ocs (by kernel_rfl) (op_index_str rfl (by kernel_rfl) (s := toS p0) (by kernel_rfl) (k := .i64) (iv := y3_2) (by kernel_rfl) (i := (Int.toNat y3_2)) (hx41_5i) (b := x41_5) (hx41_5g))) <| Wz (.b (decide (((x41_5.toNat : Nat) : Int) ≤ 57))) (Ob2 (.int .u8 ((x41_5.toNat : Nat) : Int)) (.int .u8 57) rfl (fun _ => hb_leq)) <| Wz (.b (decide (((x41_5.toNat : Nat) : Int) ≤ 57))) (OpT rfl) ?_
        rcases tf_ (decide (((x41_5.toNat : Nat) : Int) ≤ 57)) with hq44_5 | hq44_5
        ·
         replace hm := cT hq44_5 hm
         refine Wz (.b true) (Oq hq44_5 rfl) <| Wn <| Wn <| Wn <| Wn <| Wz (.b true) (OpT rfl) <| Wm (.b true) rfl <| Nk 57 0 ⟨.s p0::tp 2 (.i y3_2::.b (decide (((x31_4.toNat : Nat) : Int) ≤ 122))::.b true::tp 54 []), [], 0⟩ ?_
         refine AWP.cutJ (α := Unit) (fun x => match x with | () => (⟨.s p0::tp 2 (.i y3_2::tp 55 (.b false::[])), [], 0⟩ : St)) (fun x => match x with | () => m_r06_Name_j11 y3_2 (fun y3_2 => m_r06_Name_l2 p0 fu_2 y3_2) = some r) ?_ (fun J11 => ?_)
         ·
          rintro ⟨⟩ hm
          try dsimp only at hm ⊢
          unfold m_r06_Name_j11 at hm
          refine AWP.if_ false (by kernel_rfl) <| Sk <| Ino <| Tk 9 0 ⟨.s p0::tp 2 (.i y3_2::tp 56 []), [], 0⟩ <| Tx <| Wm (.i y3_2) rfl <| Wz (.i (W6 (y3_2 + 1))) (Obn rfl (fun _ => hb_add (k := .i64))) <| Wm (.i (W6 (y3_2 + 1))) rfl <| Wn0 <| RoundK.normal ?_
          exact Rounds.weak (Weak.toK 9 0 0 []) (ih_2 (fu_2, (W6 (y3_2 + 1))) hm (Nat.lt_succ_self _))
         refine Sx <| Wm (.b (decide (((x31_4.toNat : Nat) : Int) ≤ 122))) rfl <| Wz (.b (!decide (((x31_4.toNat : Nat) : Int) ≤ 122))) (Ocs (by kernel_rfl) (op_un rfl (a1 := .bool (decide (((x31_4.toNat : Nat) : Int) ≤ 122))) (by kernel_rfl) (fun _ => hu_not))) ?_
         rcases tf_ (!decide (((x31_4.toNat : Nat) : Int) ≤ 122)) with hq52_7 | hq52_7
         ·
          replace hm := cT hq52_7 hm
          refine Wz (.b true) (Oq hq52_7 rfl) <| Wm (.i y3_2) rfl <| Wz (.b (decide (y3_2 = 0))) (Obn rfl (fun _ => hb_eql (k := .i64))) ?_
          rcases tf_ (decide (y3_2 = 0)) with hq55_7 | hq55_7
          ·
           replace hm := cT hq55_7 hm
           refine Wz (.b true) (Oq hq55_7 rfl) <| Wn <| Wn <| Wz (.b true) (OpT rfl) <| Wz (.b true) (OpT rfl) <| Nk 576460752303423497 0 ⟨.s p0::tp 2 (.i y3_2::tp 55 (.b true::[])), [], 0⟩ <| AWP.if_ true (by kernel_rfl) <| Sx <| Wm (.b false) rfl <| Nn <| Rt <| Ir <| Tr <| RoundK.ret ?_
           refine Ir <| Tr ?_
           obtain rfl := Option.some.inj hm
           exact ret_i []
          ·
           replace hm := cF hq55_7 hm
           refine Wz (.b false) (Oq hq55_7 rfl) <| Wm (.b true) rfl <| Wz (.b false) (Ocs (by kernel_rfl) (op_un rfl (a1 := .bool true) (by kernel_rfl) (fun _ => hu_not))) <| Wz (.b false) (OpF rfl) <| Wz (.b false) (OpT rfl) <| Nn ?_
           exact AWP.weak (Weak.toK 576460752303423497 0 0 []) (J11 () hm)
         ·
          replace hm := cF hq52_7 hm
          refine Wz (.b false) (Oq hq52_7 rfl) <| Wn <| Wn <| Wn <| Wn <| Wn <| Wn <| Wz (.b false) (OpF rfl) <| Nn ?_
          exact AWP.weak (Weak.toK 576460752303423497 0 0 []) (J11 () hm)
        ·
         replace hm := cF hq44_5 hm
         refine Wz (.b false) (Oq hq44_5 rfl) <| Wm (.s p0) rfl <| Wm (.i y3_2) rfl ?_
         obtain ⟨x47_5, hx47_5, hm⟩ := bnd hm
         obtain ⟨hx47_5i, hx47_5g⟩ := geti_some hx47_5
         refine Wz (.y x47_5) (Ocs (by kernel_rfl) (op_index_str rfl (by kernel_rfl) (s := toS p0) (by kernel_rfl) (k := .i64) (iv := y3_2) (by kernel_rfl) (i := (Int.toNat y3_2)) (hx47_5i) (b := x47_5) (hx47_5g))) <| Wz (.b (decide (((x47_5.toNat : Nat) : Int) = 95))) (Ob2 (.int .u8 ((x47_5.toNat : Nat) : Int)) (.int .u8 95) rfl (fun _ => hb_eql)) <| Wz (.b (decide (((x47_5.toNat : Nat) : Int) = 95))) (OpF rfl) <| Wm (.b (decide (((x47_5.toNat : Nat) : Int) = 95))) rfl <| Nn ?_
         exact AWP.weak (Weak.toK 57 0 0 []) (J6 (decide (((x47_5.toNat : Nat) : Int) = 95)) hm)
       ·
        replace hm := cF hq38_5 hm
        refine Wz (.b false) (Oq hq38_5 rfl) <| Wn <| Wn <| Wn <| Wn <| Wz (.b false) (OpF rfl) <| Wm (.b false) rfl <| Wm (.s p0) rfl <| Wm (.i y3_2) rfl ?_
        obtain ⟨x47_5, hx47_5, hm⟩ := bnd hm
        obtain ⟨hx47_5i, hx47_5g⟩ := geti_some hx47_5
        refine Wz (.y x47_5) (Ocs (by kernel_rfl) (op_index_str rfl (by kernel_rfl) (s := toS p0) (by kernel_rfl) (k := .i64) (iv := y3_2) (by kernel_rfl) (i := (Int.toNat y3_2)) (hx47_5i) (b := x47_5) (hx47_5g))) <| Wz (.b (decide (((x47_5.toNat : Nat) : Int) = 95))) (Ob2 (.int .u8 ((x47_5.toNat : Nat) : Int)) (.int .u8 95) rfl (fun _ => hb_eql)) <| Wz (.b (decide (((x47_5.toNat : Nat) : Int) = 95))) (OpF rfl) <| Wm (.b (decide (((x47_5.toNat : Nat) : Int) = 95))) rfl <| Nn ?_
        exact AWP.weak (Weak.toK 57 0 0 []) (J6 (decide (((x47_5.toNat : Nat) : Int) = 95)) hm)
      ·
       replace hm := cF hq28_4 hm
       refine Wz (.b false) (Oq hq28_4 rfl) <| Wn <| Wn <| Wn <| Wn <| Wz (.b false) (OpF rfl) <| Wm (.b false) rfl <| Nk 25 0 ⟨.s p0::tp 2 (.i y3_2::.b false::tp 55 []), [], 0⟩ ?_
       refine AWP.cutJ (α := Bool) (fun x => match x with | y5_10 => (⟨.s p0::tp 2 (.i y3_2::.b false::.b y5_10::tp 54 []), [], 0⟩ : St)) (fun x => match x with | y5_10 => m_r06_Name_j10 y3_2 (fun y3_2 => m_r06_Name_l2 p0 fu_2 y3_2) y5_10 = some r) ?_ (fun J10 => ?_)
       ·
        rintro y5_10 hm
        try dsimp only at hm ⊢
        unfold m_r06_Name_j10 at hm
        refine Sx <| Wm (.b false) rfl <| Wz (.b true) (Ocs (by kernel_rfl) (op_un rfl (a1 := .bool false) (by kernel_rfl) (fun _ => hu_not))) <| Wm (.b true) rfl <| Wm (.i y3_2) rfl <| Wz (.b (decide (y3_2 = 0))) (Obn rfl (fun _ => hb_eql (k := .i64))) ?_
        rcases tf_ (decide (y3_2 = 0)) with hq55_13 | hq55_13
        ·
         replace hm := cT hq55_13 hm
         refine Wz (.b true) (Oq hq55_13 rfl) <| Wn <| Wn <| Wz (.b true) (OpT rfl) <| Wz (.b true) (OpT rfl) <| Nk 576460752303423497 0 ⟨.s p0::tp 2 (.i y3_2::tp 55 (.b true::[])), [], 0⟩ <| AWP.if_ true (by kernel_rfl) <| Sx <| Wm (.b false) rfl <| Nn <| Rt <| Ir <| Tr <| RoundK.ret ?_
         refine Ir <| Tr ?_
         obtain rfl := Option.some.inj hm
         exact ret_i []
        ·
         replace hm := cF hq55_13 hm
         refine Wz (.b false) (Oq hq55_13 rfl) <| Wm (.b y5_10) rfl <| Wz (.b (!y5_10)) (Ocs (by kernel_rfl) (op_un rfl (a1 := .bool y5_10) (by kernel_rfl) (fun _ => hu_not))) <| Wz (.b (!y5_10)) (OpF rfl) <| Wz (.b (!y5_10)) (OpT rfl) <| Nk 576460752303423497 0 ⟨.s p0::tp 2 (.i y3_2::tp 55 (.b (!y5_10)::[])), [], 0⟩ ?_
         rcases tf_ (!y5_10) with hc59_17 | hc59_17
         ·
          replace hm := cT hc59_17 hm
          refine AiT hc59_17 <| Sx <| Wm (.b false) rfl <| Nn <| Rt <| Ir <| Tr <| RoundK.ret <| Ir <| Tr ?_
          obtain rfl := Option.some.inj hm
          exact ret_i []
         ·
          replace hm := cF hc59_17 hm
          refine AiF hc59_17 <| Sk <| Ino <| Tk 9 0 ⟨.s p0::tp 2 (.i y3_2::tp 56 []), [], 0⟩ <| Tx <| Wm (.i y3_2) rfl <| Wz (.i (W6 (y3_2 + 1))) (Obn rfl (fun _ => hb_add (k := .i64))) <| Wm (.i (W6 (y3_2 + 1))) rfl <| Wn0 <| RoundK.normal ?_
          exact Rounds.weak (Weak.toK 9 0 0 []) (ih_2 (fu_2, (W6 (y3_2 + 1))) hm (Nat.lt_succ_self _))
       refine Sx <| Wm (.s p0) rfl <| Wm (.i y3_2) rfl ?_
       obtain ⟨x36_9, hx36_9, hm⟩ := bnd hm
       obtain ⟨hx36_9i, hx36_9g⟩ := geti_some hx36_9
       refine Wz (.y x36_9) (Ocs (by kernel_rfl) (op_index_str rfl (by kernel_rfl) (s := toS p0) (by kernel_rfl) (k := .i64) (iv := y3_2) (by kernel_rfl) (i := (Int.toNat y3_2)) (hx36_9i) (b := x36_9) (hx36_9g))) <| Wz (.b (decide ((48 : Int) ≤ ((x36_9.toNat : Nat) : Int)))) (Ob2 (.int .u8 ((x36_9.toNat : Nat) : Int)) (.int .u8 48) rfl (fun _ => hb_geq)) ?_
       rcases tf_ (decide ((48 : Int) ≤ ((x36_9.toNat : Nat) : Int))) with hq38_9 | hq38_9
       ·
        replace hm := cT hq38_9 hm
        refine Wz (.b true) (Oq hq38_9 rfl) <| Wm (.s p0) rfl <| Wm (.i y3_2) rfl ?_
        obtain ⟨x41_9, hx41_9, hm⟩ := bnd hm
        obtain ⟨hx41_9i, hx41_9g⟩ := geti_some hx41_9
        refine Wz (.y x41_9) (Ocs (by kernel_rfl) (op_index_str rfl (by kernel_rfl) (s := toS p0) (by kernel_rfl) (k := .i64) (iv := y3_2) (by kernel_rfl) (i := (Int.toNat y3_2)) (hx41_9i) (b := x41_9) (hx41_9g))) <| Wz (.b (decide (((x41_9.toNat : Nat) : Int) ≤ 57))) (Ob2 (.int .u8 ((x41_9.toNat : Nat) : Int)) (.int .u8 57) rfl (fun _ => hb_leq)) <| Wz (.b (decide (((x41_9.toNat : Nat) : Int) ≤ 57))) (OpT rfl) ?_
        rcases tf_ (decide (((x41_9.toNat : Nat) : Int) ≤ 57)) with hq44_9 | hq44_9
        ·
         replace hm := cT hq44_9 hm
         refine Wz (.b true) (Oq hq44_9 rfl) <| Wn <| Wn <| Wn <| Wn <| Wz (.b true) (OpT rfl) <| Wm (.b true) rfl <| Nk 57 0 ⟨.s p0::tp 2 (.i y3_2::.b false::.b true::tp 54 []), [], 0⟩ <| Sx <| Wm (.b false) rfl <| Wz (.b true) (Ocs (by kernel_rfl) (op_un rfl (a1 := .bool false) (by kernel_rfl) (fun _ => hu_not))) <| Wm (.b true) rfl <| Wm (.i y3_2) rfl <| Wz (.b (decide (y3_2 = 0))) (Obn rfl (fun _ => hb_eql (k := .i64))) ?_
         rcases tf_ (decide (y3_2 = 0)) with hq55_12 | hq55_12
         ·
          replace hm := cT hq55_12 hm
          refine Wz (.b true) (Oq hq55_12 rfl) <| Wn <| Wn <| Wz (.b true) (OpT rfl) <| Wz (.b true) (OpT rfl) <| Nk 576460752303423497 0 ⟨.s p0::tp 2 (.i y3_2::tp 55 (.b true::[])), [], 0⟩ <| AWP.if_ true (by kernel_rfl) <| Sx <| Wm (.b false) rfl <| Nn <| Rt <| Ir <| Tr <| RoundK.ret ?_
          refine Ir <| Tr ?_
          obtain rfl := Option.some.inj hm
          exact ret_i []
         ·
          replace hm := cF hq55_12 hm
          refine Wz (.b false) (Oq hq55_12 rfl) <| Wm (.b true) rfl <| Wz (.b false) (Ocs (by kernel_rfl) (op_un rfl (a1 := .bool true) (by kernel_rfl) (fun _ => hu_not))) <| Wz (.b false) (OpF rfl) <| Wz (.b false) (OpT rfl) <| Nk 576460752303423497 0 ⟨.s p0::tp 2 (.i y3_2::tp 55 (.b false::[])), [], 0⟩ <| AWP.if_ false (by kernel_rfl) <| Sk <| Ino <| Tk 9 0 ⟨.s p0::tp 2 (.i y3_2::tp 56 []), [], 0⟩ <| Tx <| Wm (.i y3_2) rfl <| Wz (.i (W6 (y3_2 + 1))) (Obn rfl (fun _ => hb_add (k := .i64))) <| Wm (.i (W6 (y3_2 + 1))) rfl ?_
          refine Wn0 <| RoundK.normal ?_
          exact Rounds.weak (Weak.toK 9 0 0 []) (ih_2 (fu_2, (W6 (y3_2 + 1))) hm (Nat.lt_succ_self _))
        ·
         replace hm := cF hq44_9 hm
         refine Wz (.b false) (Oq hq44_9 rfl) <| Wm (.s p0) rfl <| Wm (.i y3_2) rfl ?_
         obtain ⟨x47_9, hx47_9, hm⟩ := bnd hm
         obtain ⟨hx47_9i, hx47_9g⟩ := geti_some hx47_9
         refine Wz (.y x47_9) (Ocs (by kernel_rfl) (op_index_str rfl (by kernel_rfl) (s := toS p0) (by kernel_rfl) (k := .i64) (iv := y3_2) (by kernel_rfl) (i := (Int.toNat y3_2)) (hx47_9i) (b := x47_9) (hx47_9g))) <| Wz (.b (decide (((x47_9.toNat : Nat) : Int) = 95))) (Ob2 (.int .u8 ((x47_9.toNat : Nat) : Int)) (.int .u8 95) rfl (fun _ => hb_eql)) <| Wz (.b (decide (((x47_9.toNat : Nat) : Int) = 95))) (OpF rfl) <| Wm (.b (decide (((x47_9.toNat : Nat) : Int) = 95))) rfl <| Nn ?_
         exact AWP.weak (Weak.toK 57 0 0 []) (J10 (decide (((x47_9.toNat : Nat) : Int) = 95)) hm)
       ·
        replace hm := cF hq38_9 hm
        refine Wz (.b false) (Oq hq38_9 rfl) <| Wn <| Wn <| Wn <| Wn <| Wz (.b false) (OpF rfl) <| Wm (.b false) rfl <| Wm (.s p0) rfl <| Wm (.i y3_2) rfl ?_
        obtain ⟨x47_9, hx47_9, hm⟩ := bnd hm
        obtain ⟨hx47_9i, hx47_9g⟩ := geti_some hx47_9
        refine Wz (.y x47_9) (Ocs (by kernel_rfl) (op_index_str rfl (by kernel_rfl) (s := toS p0) (by kernel_rfl) (k := .i64) (iv := y3_2) (by kernel_rfl) (i := (Int.toNat y3_2)) (hx47_9i) (b := x47_9) (hx47_9g))) <| Wz (.b (decide (((x47_9.toNat : Nat) : Int) = 95))) (Ob2 (.int .u8 ((x47_9.toNat : Nat) : Int)) (.int .u8 95) rfl (fun _ => hb_eql)) <| Wz (.b (decide (((x47_9.toNat : Nat) : Int) = 95))) (OpF rfl) <| Wm (.b (decide (((x47_9.toNat : Nat) : Int) = 95))) rfl <| Nn ?_
        exact AWP.weak (Weak.toK 57 0 0 []) (J10 (decide (((x47_9.toNat : Nat) : Int) = 95)) hm)
     ·
      replace hm := cF hc21_15 hm
      refine AiF hc21_15 <| AWP.exit <| Then.exit <| RoundK.exit <| InBlock.same <| Tk 0 0 ⟨tp 60 [], [], 0⟩ <| Sx <| Wm (.b true) rfl <| Nn <| Rt ?_
      obtain rfl := Option.some.inj hm
      exact ret_i []

theorem ok_r04_Word (p0 : UInt8) (r : (List UInt8)) (h : m_r04_Word p0 = some r) : GCall Tryd.prog 85 [(.y p0)] [] (.s r) [] := by
 refine GCall.of_body (n := 11) (rs := [(.tmp 2)]) Tryd.func85 rfl rfl rfl <| Ato ⟨.y p0::tu 10 [], [], 0⟩ ?_
 have hm := h
 unfold m_r04_Word at hm
 refine Sx <| Wm (.s ([] : List UInt8)) rfl <| Nk 1 0 ⟨.y p0::tp 10 [], [], 0⟩ <| Sq <| Sx <| Wm (.y p0) rfl <| Wz (.b (decide (((p0.toNat : Nat) : Int) = 1))) (Ob2 (.int .u8 ((p0.toNat : Nat) : Int)) (.int .u8 1) rfl (fun _ => hb_eql)) <| Nk 17 0 ⟨.y p0::tp 3 (.b (decide (((p0.toNat : Nat) : Int) = 1))::tp 6 []), [], 0⟩ ?_
 rcases tf_ (decide (((p0.toNat : Nat) : Int) = 1)) with hc4_0 | hc4_0
 ·
  replace hm := cT hc4_0 hm
  refine AiT hc4_0 <| Sx <| Wm (.s ([105, 110, 116] : List UInt8)) rfl <| Nn <| Rt <| Tr ?_
  obtain rfl := Option.some.inj hm
  exact ret_i []
 ·
  replace hm := cF hc4_0 hm
  refine AiF hc4_0 <| Sk <| Tk 1 0 ⟨.y p0::tp 10 [], [], 0⟩ <| Sq <| Sx <| Wm (.y p0) rfl <| Wz (.b (decide (((p0.toNat : Nat) : Int) = 2))) (Ob2 (.int .u8 ((p0.toNat : Nat) : Int)) (.int .u8 2) rfl (fun _ => hb_eql)) <| Nk 65 0 ⟨.y p0::tp 5 (.b (decide (((p0.toNat : Nat) : Int) = 2))::tp 4 []), [], 0⟩ ?_
  rcases tf_ (decide (((p0.toNat : Nat) : Int) = 2)) with hc6_1 | hc6_1
  ·
   replace hm := cT hc6_1 hm
   refine AiT hc6_1 <| Sx <| Wm (.s ([102, 108, 97, 103] : List UInt8)) rfl <| Nn <| Rt <| Tr ?_
   obtain rfl := Option.some.inj hm
   exact ret_i []
  ·
   replace hm := cF hc6_1 hm
   refine AiF hc6_1 <| Sk <| Tk 1 0 ⟨.y p0::tp 10 [], [], 0⟩ <| Sq <| Sx <| Wm (.y p0) rfl <| Wz (.b (decide (((p0.toNat : Nat) : Int) = 3))) (Ob2 (.int .u8 ((p0.toNat : Nat) : Int)) (.int .u8 3) rfl (fun _ => hb_eql)) <| Nk 257 0 ⟨.y p0::tp 7 (.b (decide (((p0.toNat : Nat) : Int) = 3))::tp 2 []), [], 0⟩ ?_
   rcases tf_ (decide (((p0.toNat : Nat) : Int) = 3)) with hc8_2 | hc8_2
   ·
    replace hm := cT hc8_2 hm
    refine AiT hc8_2 <| Sx <| Wm (.s ([114, 101, 97, 108] : List UInt8)) rfl <| Nn <| Rt <| Tr ?_
    obtain rfl := Option.some.inj hm
    exact ret_i []
   ·
    replace hm := cF hc8_2 hm
    refine AiF hc8_2 <| Sk <| Tk 1 0 ⟨.y p0::tp 10 [], [], 0⟩ <| Sq <| Sx <| Wm (.y p0) rfl <| Wz (.b (decide (((p0.toNat : Nat) : Int) = 4))) (Ob2 (.int .u8 ((p0.toNat : Nat) : Int)) (.int .u8 4) rfl (fun _ => hb_eql)) <| Nk 1024 0 ⟨tp 10 (.b (decide (((p0.toNat : Nat) : Int) = 4))::[]), [], 0⟩ ?_
    rcases tf_ (decide (((p0.toNat : Nat) : Int) = 4)) with hc10_3 | hc10_3
    ·
     replace hm := cT hc10_3 hm
     refine AiT hc10_3 <| Sx <| Wm (.s ([116, 101, 120, 116] : List UInt8)) rfl <| Nn <| Rt <| Tr ?_
     obtain rfl := Option.some.inj hm
     exact ret_i []
    ·
     replace hm := cF hc10_3 hm
     refine AiF hc10_3 <| Sk <| Tk 0 0 ⟨tp 11 [], [], 0⟩ <| Sx <| Wm (.s ([] : List UInt8)) rfl <| Nn <| Rt ?_
     obtain rfl := Option.some.inj hm
     exact ret_i []

theorem ok_r06_one (p0 : GType) (r : Int) (h : m_r06_one p0 = some r) : GCall Tryd.prog 63 [(.agg [(.s p0.Name), (.l enc_GField p0.Fields)])] [] (.i r) [] := by
 refine GCall.of_body (n := 48) (rs := [(.tmp 2)]) Tryd.func63 rfl rfl rfl <| Ato ⟨.agg [(.s p0.Name), (.l enc_GField p0.Fields)]::tu 47 [], [], 0⟩ ?_
 have hm := h
 unfold m_r06_one at hm
 refine Sx <| Wy (.loc 0 0) [(0, (.box [(.s p0.Name), (.l enc_GField p0.Fields)]))] (Obx rfl) <| Wm (.i 0) rfl <| Nk 2 1 ⟨tp 1 (.loc 0 0::tp 46 []), [(.box [(.s p0.Name), (.l enc_GField p0.Fields)])], 0⟩ <| Sq <| Sx <| Wz (.loc 0 0) (Ofa rfl) <| Wz (.s p0.Name) (Old rfl) ?_
 obtain ⟨r8_0, hr8_0, hm⟩ := bnd hm
 refine Wz (.b r8_0) (Ocf [] [] [] 0 (ok_r06_Name p0.Name r8_0 hr8_0) (fun a w => Tryd.call84 a w) rfl trivial) <| Wz (.b (!r8_0)) (Ocs (by kernel_rfl) (op_un rfl (a1 := .bool r8_0) (by kernel_rfl) (fun _ => hu_not))) <| Nk 514 1 ⟨tp 1 (.loc 0 0::tp 7 (.b (!r8_0)::tp 38 [])), [(.box [(.s p0.Name), (.l enc_GField p0.Fields)])], 0⟩ ?_
 rcases tf_ (!r8_0) with hc9_9 | hc9_9
 ·
  replace hm := cT hc9_9 hm
  refine AiT hc9_9 <| Sx <| Wm (.i 4) rfl <| Nn <| Rt <| Tr ?_
  obtain rfl := Option.some.inj hm
  exact ret_i []
 ·
  replace hm := cF hc9_9 hm
  refine AiF hc9_9 <| Sk <| Tk 2 1 ⟨tp 1 (.loc 0 0::tp 46 []), [(.box [(.s p0.Name), (.l enc_GField p0.Fields)])], 0⟩ <| Sq <| Sx <| Wz (.loc 0 1) (Ofa rfl) <| Wz (.l enc_GField p0.Fields) (Old rfl) <| Wz (.i ((List.length p0.Fields : Nat) : Int)) (Oln rfl) <| Wz (.b (decide ((6 : Int) < ((List.length p0.Fields : Nat) : Int)))) (Obn rfl (fun _ => hb_gtr (k := .i64))) <| Nk 8194 1 ⟨tp 1 (.loc 0 0::tp 11 (.b (decide ((6 : Int) < ((List.length p0.Fields : Nat) : Int)))::tp 34 [])), [(.box [(.s p0.Name), (.l enc_GField p0.Fields)])], 0⟩ ?_
  rcases tf_ (decide ((6 : Int) < ((List.length p0.Fields : Nat) : Int))) with hc13_10 | hc13_10
  ·
   replace hm := cT hc13_10 hm
   refine AiT hc13_10 <| Sx <| Wm (.i 5) rfl <| Nn <| Rt <| Tr ?_
   obtain rfl := Option.some.inj hm
   exact ret_i []
  ·
   replace hm := cF hc13_10 hm
   refine AiF hc13_10 <| Sk <| Tk 2 1 ⟨tp 1 (.loc 0 0::tp 46 []), [(.box [(.s p0.Name), (.l enc_GField p0.Fields)])], 0⟩ <| Sq <| Sx <| Wm (.i 0) rfl <| Nk 10 1 ⟨tp 1 (.loc 0 0::tp 1 (.i 0::tp 44 [])), [(.box [(.s p0.Name), (.l enc_GField p0.Fields)])], 0⟩ <| Bk ?_
   refine AWP.loopI (α := Nat × Int)
     (fun (fu_2, y3_2) => (⟨tp 1 (.loc 0 0::tp 1 (.i y3_2::tp 44 [])), [(.box [(.s p0.Name), (.l enc_GField p0.Fields)])], 0⟩ : St))
     (fun (fu_2, y3_2) => m_r06_one_l2 p0 fu_2 y3_2 = some r)
     (fun (fu_2, y3_2) => fu_2) (1152921504606846976, 0)
     (Weak.toK 10 0 0 [0]) hm ?_
   rintro ⟨fu_2, y3_2⟩ n_2 hm ih_2
   try dsimp only at hm ih_2 ⊢
   cases fu_2 with
   | zero => exact absurd hm (by unfold m_r06_one_l2; simp)
   | succ fu_2 =>
    unfold m_r06_one_l2 at hm
    refine Sq <| Sx <| Wm (.i y3_2) rfl <| Wz (.loc 0 1) (Ofa rfl) <| Wz (.l enc_GField p0.Fields) (Old rfl) <| Wz (.i ((List.length p0.Fields : Nat) : Int)) (Oln rfl) <| Wz (.b (decide (y3_2 < ((List.length p0.Fields : Nat) : Int)))) (Obn rfl (fun _ => hb_lss (k := .i64))) <| Nk 262154 1 ⟨tp 1 (.loc 0 0::tp 1 (.i y3_2::tp 14 (.b (decide (y3_2 < ((List.length p0.Fields : Nat) : Int)))::tp 29 []))), [(.box [(.s p0.Name), (.l enc_GField p0.Fields)])], 0⟩ ?_
    rcases tf_ (decide (y3_2 < ((List.length p0.Fields : Nat) : Int))) with hc18_11 | hc18_11
    ·
     replace hm := cT hc18_11 hm
     refine AiT hc18_11 <| Sk <| Tk 10 1 ⟨tp 1 (.loc 0 0::tp 1 (.i y3_2::tp 44 [])), [(.box [(.s p0.Name), (.l enc_GField p0.Fields)])], 0⟩ <| Sq <| Bk <| Sx <| Wz (.loc 0 1) (Ofa rfl) <| Wz (.l enc_GField p0.Fields) (Old rfl) <| Wm (.i y3_2) rfl ?_
     obtain ⟨x24_4, hx24_4, hm⟩ := bnd hm
     obtain ⟨hx24_4i, hx24_4g⟩ := geti_some hx24_4
     refine Wz (.d (.ref (List.drop ((Int.toNat y3_2) * 2) (flatD enc_GField p0.Fields)))) (Oia rfl enc_GField_len hx24_4i hx24_4g) <| Wz (.agg [(.s x24_4.Name), (.y x24_4.Kind)]) (Lf rfl enc_GField_len hx24_4g) <| Wy (.loc 1 0) [(1, (.box [(.s ([] : List UInt8)), (.y 0)]))] (Oal rfl) <| Wy (.tup []) [(1, (.box [(.s x24_4.Name), (.y x24_4.Kind)]))] (Ost rfl) <| Nk 26 3 ⟨tp 1 (.loc 0 0::tp 1 (.i y3_2::.loc 1 0::tp 43 [])), [(.box [(.s p0.Name), (.l enc_GField p0.Fields)]), (.box [(.s x24_4.Name), (.y x24_4.Kind)])], 0⟩ <| Sq <| Sx <| Wz (.loc 1 0) (Ofa rfl) <| Wz (.s x24_4.Name) (Old rfl) ?_
     obtain ⟨r28_5, hr28_5, hm⟩ := bnd hm
     refine Wz (.b r28_5) (Ocf [] [] [] 0 (ok_r06_Name x24_4.Name r28_5 hr28_5) (fun a w => Tryd.call84 a w) rfl trivial) <| Wz (.b (!r28_5)) (Ocs (by kernel_rfl) (op_un rfl (a1 := .bool r28_5) (by kernel_rfl) (fun _ => hu_not))) <| Nk 536870938 3 ⟨tp 1 (.loc 0 0::tp 1 (.i y3_2::.loc 1 0::tp 24 (.b (!r28_5)::tp 18 []))), [(.box [(.s p0.Name), (.l enc_GField p0.Fields)]), (.box [(.s x24_4.Name), (.y x24_4.Kind)])], 0⟩ ?_
     rcases tf_ (!r28_5) with hc29_12 | hc29_12
     ·
      replace hm := cT hc29_12 hm
      refine AiT hc29_12 <| Sx <| Wm (.i 4) rfl <| Nn <| Rt <| Tr <| Ir <| Tr <| RoundK.ret <| Ir <| Tr ?_
      obtain rfl := Option.some.inj hm
      exact ret_i []
     ·
      replace hm := cF hc29_12 hm
      refine AiF hc29_12 <| Sk <| Tk 26 3 ⟨tp 1 (.loc 0 0::tp 1 (.i y3_2::.loc 1 0::tp 43 [])), [(.box [(.s p0.Name), (.l enc_GField p0.Fields)]), (.box [(.s x24_4.Name), (.y x24_4.Kind)])], 0⟩ <| Sq <| Sx <| Wz (.loc 1 1) (Ofa rfl) <| Wz (.y x24_4.Kind) (Old rfl) ?_
      obtain ⟨r32_6, hr32_6, hm⟩ := bnd hm
      refine Wz (.s r32_6) (Ocf [] [] [] 0 (ok_r04_Word x24_4.Kind r32_6 hr32_6) (fun a w => Tryd.call85 a w) rfl trivial) <| Wz (.b (decide (r32_6 = ([] : List UInt8)))) (Ocs (lit_tf (by simp only [toS_inj, ne_eq])) (op_bin rfl (a1 := .string (toS r32_6)) (a2 := .string (toS ([] : List UInt8))) (by kernel_rfl) (by kernel_rfl) (fun _ => hb_seql))) <| Nk 8589934618 3 ⟨tp 1 (.loc 0 0::tp 1 (.i y3_2::.loc 1 0::tp 28 (.b (decide (r32_6 = ([] : List UInt8)))::tp 14 []))), [(.box [(.s p0.Name), (.l enc_GField p0.Fields)]), (.box [(.s x24_4.Name), (.y x24_4.Kind)])], 0⟩ ?_
      rcases tf_ (decide (r32_6 = ([] : List UInt8))) with hc33_13 | hc33_13
      ·
       replace hm := cT hc33_13 hm
       refine AiT hc33_13 <| Sx <| Wm (.i 11) rfl <| Nn <| Rt <| Tr <| Ir <| Tr <| RoundK.ret <| Ir <| Tr ?_
       obtain rfl := Option.some.inj hm
       exact ret_i []
      ·
       replace hm := cF hc33_13 hm
       refine AiF hc33_13 <| Sk <| Tk 26 3 ⟨tp 1 (.loc 0 0::tp 1 (.i y3_2::.loc 1 0::tp 43 [])), [(.box [(.s p0.Name), (.l enc_GField p0.Fields)]), (.box [(.s x24_4.Name), (.y x24_4.Kind)])], 0⟩ <| Sx <| Wm (.i 0) rfl <| Nk 58 3 ⟨tp 1 (.loc 0 0::tp 1 (.i y3_2::.loc 1 0::.i 0::tp 42 [])), [(.box [(.s p0.Name), (.l enc_GField p0.Fields)]), (.box [(.s x24_4.Name), (.y x24_4.Kind)])], 0⟩ <| Bk ?_
       refine AWP.loopI (α := Nat × Int)
         (fun (fu_7, y5_7) => (⟨tp 1 (.loc 0 0::tp 1 (.i y3_2::.loc 1 0::.i y5_7::tp 42 [])), [(.box [(.s p0.Name), (.l enc_GField p0.Fields)]), (.box [(.s x24_4.Name), (.y x24_4.Kind)])], 0⟩ : St))
         (fun (fu_7, y5_7) => m_r06_one_l7 p0 x24_4 y3_2 (fun y3_2 => m_r06_one_l2 p0 fu_2 y3_2) fu_7 y5_7 = some r)
         (fun (fu_7, y5_7) => fu_7) (1152921504606846976, 0)
         (Weak.toK 58 0 0 [0, 1]) hm ?_
       rintro ⟨fu_7, y5_7⟩ n_7 hm ih_7
       try dsimp only at hm ih_7 ⊢
       cases fu_7 with
       | zero => exact absurd hm (by unfold m_r06_one_l7; simp)
       | succ fu_7 =>
        unfold m_r06_one_l7 at hm
        refine Sq <| Sx <| Wm (.i y5_7) rfl <| Wm (.i y3_2) rfl <| Wz (.b (decide (y5_7 < y3_2))) (Obn rfl (fun _ => hb_lss (k := .i64))) <| Nk 68719476794 3 ⟨tp 1 (.loc 0 0::tp 1 (.i y3_2::.loc 1 0::.i y5_7::tp 30 (.b (decide (y5_7 < y3_2))::tp 11 []))), [(.box [(.s p0.Name), (.l enc_GField p0.Fields)]), (.box [(.s x24_4.Name), (.y x24_4.Kind)])], 0⟩ ?_
        rcases tf_ (decide (y5_7 < y3_2)) with hc36_14 | hc36_14
        ·
         replace hm := cT hc36_14 hm
         refine AiT hc36_14 <| Sk <| Tk 58 3 ⟨tp 1 (.loc 0 0::tp 1 (.i y3_2::.loc 1 0::.i y5_7::tp 42 [])), [(.box [(.s p0.Name), (.l enc_GField p0.Fields)]), (.box [(.s x24_4.Name), (.y x24_4.Kind)])], 0⟩ <| Sq <| Bk <| Sq <| Adr <| Wz (.loc 0 1) (Ofa rfl) <| Wz (.l enc_GField p0.Fields) (Old rfl) <| Wm (.i y5_7) rfl ?_
         obtain ⟨x42_8, hx42_8, hm⟩ := bnd hm
         obtain ⟨hx42_8i, hx42_8g⟩ := geti_some hx42_8
         refine Wz (.d (.ref (List.drop ((Int.toNat y5_7) * 2) (flatD enc_GField p0.Fields)))) (Oia rfl enc_GField_len hx42_8i hx42_8g) <| Wz (.d (.ref (List.drop ((Int.toNat y5_7) * 2) (flatD enc_GField p0.Fields)))) (Ofa rfl) <| Wz (.s x42_8.Name) (Lf1 rfl enc_GField_len hx42_8g) <| Wz (.loc 1 0) (Ofa rfl) <| Wz (.s x24_4.Name) (Old rfl) <| Wz (.b (decide (x42_8.Name = x24_4.Name))) (Ocs (lit_tf (by simp only [toS_inj, ne_eq])) (op_bin rfl (a1 := .string (toS x42_8.Name)) (a2 := .string (toS x24_4.Name)) (by kernel_rfl) (by kernel_rfl) (fun _ => hb_seql))) <| Wdr <| Tk 140737488355386 3 ⟨tp 1 (.loc 0 0::tp 1 (.i y3_2::.loc 1 0::.i y5_7::tp 41 (.b (decide (x42_8.Name = x24_4.Name))::[]))), [(.box [(.s p0.Name), (.l enc_GField p0.Fields)]), (.box [(.s x24_4.Name), (.y x24_4.Kind)])], 0⟩ ?_
         rcases tf_ (decide (x42_8.Name = x24_4.Name)) with hc47_15 | hc47_15
         ·
          replace hm := cT hc47_15 hm
          refine AiT hc47_15 <| Sx <| Wm (.i 21) rfl <| Nn <| Rt <| Ir <| Tr <| RoundK.ret <| Ir <| Ir <| Tr <| RoundK.ret <| Ir <| Tr ?_
          obtain rfl := Option.some.inj hm
          exact ret_i []
         ·
          replace hm := cF hc47_15 hm
          refine AiF hc47_15 <| Sk <| Ino <| Tk 58 3 ⟨tp 1 (.loc 0 0::tp 1 (.i y3_2::.loc 1 0::.i y5_7::tp 42 [])), [(.box [(.s p0.Name), (.l enc_GField p0.Fields)]), (.box [(.s x24_4.Name), (.y x24_4.Kind)])], 0⟩ <| Tx <| Wm (.i y5_7) rfl <| Wz (.i (W6 (y5_7 + 1))) (Obn rfl (fun _ => hb_add (k := .i64))) <| Wm (.i (W6 (y5_7 + 1))) rfl <| Wn0 <| RoundK.normal ?_
          exact Rounds.weak (Weak.toK 58 0 0 [0, 1]) (ih_7 (fu_7, (W6 (y5_7 + 1))) hm (Nat.lt_succ_self _))
        ·
         replace hm := cF hc36_14 hm
         refine AiF hc36_14 <| AWP.exit <| Then.exit <| RoundK.exit <| InBlock.same <| Ino <| Tk 10 1 ⟨tp 1 (.loc 0 0::tp 1 (.i y3_2::tp 44 [])), [(.box [(.s p0.Name), (.l enc_GField p0.Fields)]), .gone], 0⟩ <| Tx <| Wm (.i y3_2) rfl <| Wz (.i (W6 (y3_2 + 1))) (Obn rfl (fun _ => hb_add (k := .i64))) <| Wm (.i (W6 (y3_2 + 1))) rfl <| Wn0 <| RoundK.normal ?_
         exact Rounds.weak (Weak.toK 10 0 0 [0]) (ih_2 (fu_2, (W6 (y3_2 + 1))) hm (Nat.lt_succ_self _))
    ·
     replace hm := cF hc18_11 hm
     refine AiF hc18_11 <| AWP.exit <| Then.exit <| RoundK.exit <| InBlock.same <| Tk 0 0 ⟨tp 48 [], [.gone], 0⟩ <| Sx <| Wm (.i 0) rfl <| Nn <| Rt ?_
     obtain rfl := Option.some.inj hm
     exact ret_i []

theorem ok_r06_Check (p0 : (List GType)) (r : Int) (h : m_r06_Check p0 = some r) : GCall Tryd.prog 38 [(.l enc_GType p0)] [] (.i r) [] := by
 refine GCall.of_body (n := 39) (rs := [(.tmp 2)]) Tryd.func38 rfl rfl rfl <| Ato ⟨.l enc_GType p0::tu 38 [], [], 0⟩ ?_
 have hm := h
 unfold m_r06_Check at hm
 refine Sx <| Wm (.i 0) rfl <| Nk 1 0 ⟨.l enc_GType p0::tp 38 [], [], 0⟩ <| Sq <| Sx <| Wm (.l enc_GType p0) rfl <| Wz (.i ((List.length p0 : Nat) : Int)) (Oln rfl) <| Wz (.b (decide ((8 : Int) < ((List.length p0 : Nat) : Int)))) (Obn rfl (fun _ => hb_gtr (k := .i64))) <| Nk 257 0 ⟨.l enc_GType p0::tp 7 (.b (decide ((8 : Int) < ((List.length p0 : Nat) : Int)))::tp 30 []), [], 0⟩ ?_
 rcases tf_ (decide ((8 : Int) < ((List.length p0 : Nat) : Int))) with hc8_6 | hc8_6
 ·
  replace hm := cT hc8_6 hm
  refine AiT hc8_6 <| Sx <| Wm (.i 5) rfl <| Nn <| Rt <| Tr ?_
  obtain rfl := Option.some.inj hm
  exact ret_i []
 ·
  replace hm := cF hc8_6 hm
  refine AiF hc8_6 <| Sk <| Tk 1 0 ⟨.l enc_GType p0::tp 38 [], [], 0⟩ <| Sq <| Sx <| Wm (.i 0) rfl <| Nk 9 0 ⟨.l enc_GType p0::tp 2 (.i 0::tp 35 []), [], 0⟩ <| Bk ?_
  refine AWP.loopI (α := Nat × Int)
    (fun (fu_1, y3_1) => (⟨.l enc_GType p0::tp 2 (.i y3_1::tp 35 []), [], 0⟩ : St))
    (fun (fu_1, y3_1) => m_r06_Check_l1 p0 fu_1 y3_1 = some r)
    (fun (fu_1, y3_1) => fu_1) (1152921504606846976, 0)
    (Weak.toK 9 0 0 []) hm ?_
  rintro ⟨fu_1, y3_1⟩ n_1 hm ih_1
  try dsimp only at hm ih_1 ⊢
  cases fu_1 with
  | zero => exact absurd hm (by unfold m_r06_Check_l1; simp)
  | succ fu_1 =>
   unfold m_r06_Check_l1 at hm
   refine Sq <| Sx <| Wm (.i y3_1) rfl <| Wm (.l enc_GType p0) rfl <| Wz (.i ((List.length p0 : Nat) : Int)) (Oln rfl) <| Wz (.b (decide (y3_1 < ((List.length p0 : Nat) : Int)))) (Obn rfl (fun _ => hb_lss (k := .i64))) <| Nk 4105 0 ⟨.l enc_GType p0::tp 2 (.i y3_1::tp 8 (.b (decide (y3_1 < ((List.length p0 : Nat) : Int)))::tp 26 [])), [], 0⟩ ?_
   rcases tf_ (decide (y3_1 < ((List.length p0 : Nat) : Int))) with hc12_7 | hc12_7
   ·
    replace hm := cT hc12_7 hm
    refine AiT hc12_7 <| Sk <| Tk 9 0 ⟨.l enc_GType p0::tp 2 (.i y3_1::tp 35 []), [], 0⟩ <| Sq <| Bk <| Sq <| Sx <| Wm (.l enc_GType p0) rfl <| Wm (.i y3_1) rfl ?_
    obtain ⟨x17_3, hx17_3, hm⟩ := bnd hm
    obtain ⟨hx17_3i, hx17_3g⟩ := geti_some hx17_3
    refine Wz (.d (.ref (List.drop ((Int.toNat y3_1) * 2) (flatD enc_GType p0)))) (Oia rfl enc_GType_len hx17_3i hx17_3g) <| Wz (.agg [(.s x17_3.Name), (.l enc_GField x17_3.Fields)]) (Lf rfl enc_GType_len hx17_3g) ?_
    obtain ⟨r19_3, hr19_3, hm⟩ := bnd hm
    refine Wz (.i r19_3) (Ocf [] [] [] 0 (ok_r06_one x17_3 r19_3 hr19_3) (fun a w => Tryd.call63 a w) rfl trivial) <| Wm (.i r19_3) rfl <| Nk 25 0 ⟨.l enc_GType p0::tp 2 (.i y3_1::.i r19_3::tp 34 []), [], 0⟩ <| Sx <| Wm (.i r19_3) rfl <| Wz (.b (decide (r19_3 ≠ 0))) (Obn rfl (fun _ => hb_neq (k := .i64))) <| Nk 2097177 0 ⟨.l enc_GType p0::tp 2 (.i y3_1::.i r19_3::tp 16 (.b (decide (r19_3 ≠ 0))::tp 17 [])), [], 0⟩ ?_
    rcases tf_ (decide (r19_3 ≠ 0)) with hc21_8 | hc21_8
    ·
     replace hm := cT hc21_8 hm
     refine AiT hc21_8 <| Sx <| Wm (.i r19_3) rfl <| Wm (.i r19_3) rfl <| Nn <| Rt <| Tr <| Ir <| Tr <| RoundK.ret <| Ir <| Tr ?_
     obtain rfl := Option.some.inj hm
     exact ret_i []
    ·
     replace hm := cF hc21_8 hm
     refine AiF hc21_8 <| Sk <| Tk 9 0 ⟨.l enc_GType p0::tp 2 (.i y3_1::tp 35 []), [], 0⟩ <| Sx <| Wm (.i 0) rfl <| Nk 41 0 ⟨.l enc_GType p0::tp 2 (.i y3_1::tp 1 (.i 0::tp 33 [])), [], 0⟩ <| Bk ?_
     refine AWP.loopI (α := Nat × Int)
       (fun (fu_4, y5_4) => (⟨.l enc_GType p0::tp 2 (.i y3_1::tp 1 (.i y5_4::tp 33 [])), [], 0⟩ : St))
       (fun (fu_4, y5_4) => m_r06_Check_l4 p0 y3_1 (fun y3_1 => m_r06_Check_l1 p0 fu_1 y3_1) fu_4 y5_4 = some r)
       (fun (fu_4, y5_4) => fu_4) (1152921504606846976, 0)
       (Weak.toK 41 0 0 []) hm ?_
     rintro ⟨fu_4, y5_4⟩ n_4 hm ih_4
     try dsimp only at hm ih_4 ⊢
     cases fu_4 with
     | zero => exact absurd hm (by unfold m_r06_Check_l4; simp)
     | succ fu_4 =>
      unfold m_r06_Check_l4 at hm
      refine Sq <| Sx <| Wm (.i y5_4) rfl <| Wm (.i y3_1) rfl <| Wz (.b (decide (y5_4 < y3_1))) (Obn rfl (fun _ => hb_lss (k := .i64))) <| Nk 33554473 0 ⟨.l enc_GType p0::tp 2 (.i y3_1::tp 1 (.i y5_4::tp 19 (.b (decide (y5_4 < y3_1))::tp 13 []))), [], 0⟩ ?_
      rcases tf_ (decide (y5_4 < y3_1)) with hc25_9 | hc25_9
      ·
       replace hm := cT hc25_9 hm
       refine AiT hc25_9 <| Sk <| Tk 41 0 ⟨.l enc_GType p0::tp 2 (.i y3_1::tp 1 (.i y5_4::tp 33 [])), [], 0⟩ <| Sq <| Bk <| Sq <| Adr <| Wm (.l enc_GType p0) rfl <| Wm (.i y5_4) rfl ?_
       obtain ⟨x30_5, hx30_5, hm⟩ := bnd hm
       obtain ⟨hx30_5i, hx30_5g⟩ := geti_some hx30_5
       refine Wz (.d (.ref (List.drop ((Int.toNat y5_4) * 2) (flatD enc_GType p0)))) (Oia rfl enc_GType_len hx30_5i hx30_5g) <| Wz (.d (.ref (List.drop ((Int.toNat y5_4) * 2) (flatD enc_GType p0)))) (Ofa rfl) <| Wz (.s x30_5.Name) (Lf1 rfl enc_GType_len hx30_5g) <| Wm (.l enc_GType p0) rfl <| Wm (.i y3_1) rfl ?_
       obtain ⟨x35_5, hx35_5, hm⟩ := bnd hm
       obtain ⟨hx35_5i, hx35_5g⟩ := geti_some hx35_5
       refine Wz (.d (.ref (List.drop ((Int.toNat y3_1) * 2) (flatD enc_GType p0)))) (Oia rfl enc_GType_len hx35_5i hx35_5g) <| Wz (.d (.ref (List.drop ((Int.toNat y3_1) * 2) (flatD enc_GType p0)))) (Ofa rfl) <| Wz (.s x35_5.Name) (Lf1 rfl enc_GType_len hx35_5g) <| Wz (.b (decide (x30_5.Name = x35_5.Name))) (Ocs (lit_tf (by simp only [toS_inj, ne_eq])) (op_bin rfl (a1 := .string (toS x30_5.Name)) (a2 := .string (toS x35_5.Name)) (by kernel_rfl) (by kernel_rfl) (fun _ => hb_seql))) <| Wdr <| Tk 274877906985 0 ⟨.l enc_GType p0::tp 2 (.i y3_1::tp 1 (.i y5_4::tp 32 (.b (decide (x30_5.Name = x35_5.Name))::[]))), [], 0⟩ ?_
       rcases tf_ (decide (x30_5.Name = x35_5.Name)) with hc38_10 | hc38_10
       ·
        replace hm := cT hc38_10 hm
        refine AiT hc38_10 <| Sx <| Wm (.i 21) rfl <| Nn <| Rt <| Ir <| Tr <| RoundK.ret <| Ir <| Ir <| Tr <| RoundK.ret <| Ir <| Tr ?_
        obtain rfl := Option.some.inj hm
        exact ret_i []
       ·
        replace hm := cF hc38_10 hm
        refine AiF hc38_10 <| Sk <| Ino <| Tk 41 0 ⟨.l enc_GType p0::tp 2 (.i y3_1::tp 1 (.i y5_4::tp 33 [])), [], 0⟩ <| Tx <| Wm (.i y5_4) rfl <| Wz (.i (W6 (y5_4 + 1))) (Obn rfl (fun _ => hb_add (k := .i64))) <| Wm (.i (W6 (y5_4 + 1))) rfl <| Wn0 <| RoundK.normal ?_
        exact Rounds.weak (Weak.toK 41 0 0 []) (ih_4 (fu_4, (W6 (y5_4 + 1))) hm (Nat.lt_succ_self _))
      ·
       replace hm := cF hc25_9 hm
       refine AiF hc25_9 <| AWP.exit <| Then.exit <| RoundK.exit <| InBlock.same <| Ino <| Tk 9 0 ⟨.l enc_GType p0::tp 2 (.i y3_1::tp 35 []), [], 0⟩ <| Tx <| Wm (.i y3_1) rfl <| Wz (.i (W6 (y3_1 + 1))) (Obn rfl (fun _ => hb_add (k := .i64))) <| Wm (.i (W6 (y3_1 + 1))) rfl <| Wn0 <| RoundK.normal ?_
       exact Rounds.weak (Weak.toK 9 0 0 []) (ih_1 (fu_1, (W6 (y3_1 + 1))) hm (Nat.lt_succ_self _))
   ·
    replace hm := cF hc12_7 hm
    refine AiF hc12_7 <| AWP.exit <| Then.exit <| RoundK.exit <| InBlock.same <| Tk 0 0 ⟨tp 39 [], [], 0⟩ <| Sx <| Wm (.i 0) rfl <| Nn <| Rt ?_
    obtain rfl := Option.some.inj hm
    exact ret_i []

theorem ok_r06_Find (p0 : (List GType)) (p1 : (List UInt8)) (r : (GType × Bool)) (h : m_r06_Find p0 p1 = some r) : GCall Tryd.prog 64 [(.l enc_GType p0), (.s p1)] [] (.tup [(.agg [(.s r.1.Name), (.l enc_GField r.1.Fields)]), (.b r.2)]) [] := by
 refine GCall.of_body (n := 25) (rs := [(.cell 4 67), (.tmp 5)]) Tryd.func64 rfl rfl rfl <| Ato ⟨.l enc_GType p0::.s p1::tu 23 [], [], 0⟩ ?_
 have hm := h
 unfold m_r06_Find at hm
 refine Sx <| Wy (.loc 0 0) [(0, (.box [(.s ([] : List UInt8)), (.d .nil)]))] (Oal rfl) <| Wm (.b false) rfl <| Nk 19 1 ⟨.l enc_GType p0::.s p1::tp 2 (.loc 0 0::tp 20 []), [(.box [(.s ([] : List UInt8)), (.d .nil)])], 0⟩ <| Sq <| Sx <| Wm (.i 0) rfl <| Nk 83 1 ⟨.l enc_GType p0::.s p1::tp 2 (.loc 0 0::tp 1 (.i 0::tp 18 [])), [(.box [(.s ([] : List UInt8)), (.d .nil)])], 0⟩ <| Bk ?_
 refine AWP.loopI (α := Nat × Int)
   (fun (fu_0, y6_0) => (⟨.l enc_GType p0::.s p1::tp 2 (.loc 0 0::tp 1 (.i y6_0::tp 18 [])), [(.box [(.s ([] : List UInt8)), (.d .nil)])], 0⟩ : St))
   (fun (fu_0, y6_0) => m_r06_Find_l0 p0 p1 fu_0 y6_0 = some r)
   (fun (fu_0, y6_0) => fu_0) (1152921504606846976, 0)
   (Weak.toK 83 0 0 [0]) hm ?_
 rintro ⟨fu_0, y6_0⟩ n_0 hm ih_0
 try dsimp only at hm ih_0 ⊢
 cases fu_0 with
 | zero => exact absurd hm (by unfold m_r06_Find_l0; simp)
 | succ fu_0 =>
  unfold m_r06_Find_l0 at hm
  refine Sq <| Sx <| Wm (.i y6_0) rfl <| Wm (.l enc_GType p0) rfl <| Wz (.i ((List.length p0 : Nat) : Int)) (Oln rfl) <| Wz (.b (decide (y6_0 < ((List.length p0 : Nat) : Int)))) (Obn rfl (fun _ => hb_lss (k := .i64))) <| Nk 1107 1 ⟨.l enc_GType p0::.s p1::tp 2 (.loc 0 0::tp 1 (.i y6_0::tp 3 (.b (decide (y6_0 < ((List.length p0 : Nat) : Int)))::tp 14 []))), [(.box [(.s ([] : List UInt8)), (.d .nil)])], 0⟩ ?_
  rcases tf_ (decide (y6_0 < ((List.length p0 : Nat) : Int))) with hc10_4 | hc10_4
  ·
   replace hm := cT hc10_4 hm
   refine AiT hc10_4 <| Sk <| Tk 83 1 ⟨.l enc_GType p0::.s p1::tp 2 (.loc 0 0::tp 1 (.i y6_0::tp 18 [])), [(.box [(.s ([] : List UInt8)), (.d .nil)])], 0⟩ <| Sq <| Bk <| Sx <| Wm (.l enc_GType p0) rfl <| Wm (.i y6_0) rfl ?_
   obtain ⟨x15_2, hx15_2, hm⟩ := bnd hm
   obtain ⟨hx15_2i, hx15_2g⟩ := geti_some hx15_2
   refine Wz (.d (.ref (List.drop ((Int.toNat y6_0) * 2) (flatD enc_GType p0)))) (Oia rfl enc_GType_len hx15_2i hx15_2g) <| Wz (.d (.ref (List.drop ((Int.toNat y6_0) * 2) (flatD enc_GType p0)))) (Ofa rfl) <| Wz (.s x15_2.Name) (Lf1 rfl enc_GType_len hx15_2g) <| Wm (.s p1) rfl <| Wz (.b (decide (x15_2.Name = p1))) (Ocs (lit_tf (by simp only [toS_inj, ne_eq])) (op_bin rfl (a1 := .string (toS x15_2.Name)) (a2 := .string (toS p1)) (by kernel_rfl) (by kernel_rfl) (fun _ => hb_seql))) <| Nk 524371 1 ⟨.l enc_GType p0::.s p1::tp 2 (.loc 0 0::tp 1 (.i y6_0::tp 12 (.b (decide (x15_2.Name = p1))::tp 5 []))), [(.box [(.s ([] : List UInt8)), (.d .nil)])], 0⟩ ?_
   rcases tf_ (decide (x15_2.Name = p1)) with hc19_5 | hc19_5
   ·
    replace hm := cT hc19_5 hm
    refine AiT hc19_5 <| Sx <| Wm (.l enc_GType p0) rfl <| Wm (.i y6_0) rfl ?_
    obtain ⟨x22_3, hx22_3, hm⟩ := bnd hm
    obtain ⟨hx22_3i, hx22_3g⟩ := geti_some hx22_3
    refine Wz (.d (.ref (List.drop ((Int.toNat y6_0) * 2) (flatD enc_GType p0)))) (Oia rfl enc_GType_len hx22_3i hx22_3g) <| Wz (.agg [(.s x22_3.Name), (.l enc_GField x22_3.Fields)]) (Lf rfl enc_GType_len hx22_3g) <| Wy (.tup []) [(0, (.box [(.s x22_3.Name), (.l enc_GField x22_3.Fields)]))] (Ost rfl) <| Wm (.b true) rfl <| Nn <| Rt <| Ir <| Tr <| RoundK.ret <| Ir <| Tr ?_
    obtain rfl := Option.some.inj hm
    exact ret_i []
   ·
    replace hm := cF hc19_5 hm
    refine AiF hc19_5 <| Sk <| Ino <| Tk 83 1 ⟨.l enc_GType p0::.s p1::tp 2 (.loc 0 0::tp 1 (.i y6_0::tp 18 [])), [(.box [(.s ([] : List UInt8)), (.d .nil)])], 0⟩ <| Tx <| Wm (.i y6_0) rfl <| Wz (.i (W6 (y6_0 + 1))) (Obn rfl (fun _ => hb_add (k := .i64))) <| Wm (.i (W6 (y6_0 + 1))) rfl <| Wn0 <| RoundK.normal ?_
    exact Rounds.weak (Weak.toK 83 0 0 [0]) (ih_0 (fu_0, (W6 (y6_0 + 1))) hm (Nat.lt_succ_self _))
  ·
   replace hm := cF hc10_4 hm
   refine AiF hc10_4 <| AWP.exit <| Then.exit <| RoundK.exit <| InBlock.same <| Tk 16 1 ⟨tp 4 (.loc 0 0::tp 20 []), [(.box [(.s ([] : List UInt8)), (.d .nil)])], 0⟩ <| Sx <| Wz (.agg [(.s ([] : List UInt8)), (.d .nil)]) (Obd rfl) <| Wy (.tup []) [(0, (.box [(.s ([] : List UInt8)), (.d .nil)]))] (Ost rfl) <| Wm (.b false) rfl <| Nn <| Rt ?_
   obtain rfl := Option.some.inj hm
   exact ret_i []

theorem ok_r03_Exp (p0 : Int) (r : Int) (h : m_r03_Exp p0 = some r) : GCall Tryd.prog 113 [(.u p0)] [] (.i r) [] := by
 refine GCall.of_body (n := 7) (rs := [(.tmp 2)]) Tryd.func113 rfl rfl rfl <| Ato ⟨.u p0::tu 6 [], [], 0⟩ ?_
 have hm := h
 unfold m_r03_Exp at hm
 refine Sx <| Wm (.i 0) rfl <| Nk 1 0 ⟨.u p0::tp 6 [], [], 0⟩ <| Sx <| Wm (.u p0) rfl <| Wz (.u (W7 (Int.tdiv p0 4503599627370496))) (Ob2 (.int .u64 p0) (.int .u64 4503599627370496) rfl (fun _ => hb_quo (by decide))) <| Wz (.u (Int.tmod (W7 (Int.tdiv p0 4503599627370496)) 2048)) (Ob2 (.int .u64 (W7 (Int.tdiv p0 4503599627370496))) (.int .u64 2048) rfl (fun _ => hb_rem (by decide))) <| Wz (.i (W6 (Int.tmod (W7 (Int.tdiv p0 4503599627370496)) 2048))) (Oc2 (.int .u64 (Int.tmod (W7 (Int.tdiv p0 4503599627370496)) 2048)) rfl (run_conv (ds := .int .u64) (k' := .i64) (by kernel_rfl) (by kernel_rfl))) <| Wm (.i (W6 (Int.tmod (W7 (Int.tdiv p0 4503599627370496)) 2048))) rfl <| Nn <| Rt ?_
 obtain rfl := Option.some.inj hm
 exact ret_i []

theorem ok_r03_Frac (p0 : Int) (r : Int) (h : m_r03_Frac p0 = some r) : GCall Tryd.prog 114 [(.u p0)] [] (.u r) [] := by
 refine GCall.of_body (n := 5) (rs := [(.tmp 2)]) Tryd.func114 rfl rfl rfl <| Ato ⟨.u p0::tu 4 [], [], 0⟩ ?_
 have hm := h
 unfold m_r03_Frac at hm
 refine Sx <| Wm (.u 0) rfl <| Nk 1 0 ⟨.u p0::tp 4 [], [], 0⟩ <| Sx <| Wm (.u p0) rfl <| Wz (.u (Int.tmod p0 4503599627370496)) (Ob2 (.int .u64 p0) (.int .u64 4503599627370496) rfl (fun _ => hb_rem (by decide))) <| Wm (.u (Int.tmod p0 4503599627370496)) rfl <| Nn <| Rt ?_
 obtain rfl := Option.some.inj hm
 exact ret_i []

theorem ok_r03_Kind (p0 : Int) (r : UInt8) (h : m_r03_Kind p0 = some r) : GCall Tryd.prog 110 [(.u p0)] [] (.y r) [] := by
 refine GCall.of_body (n := 20) (rs := [(.tmp 2)]) Tryd.func110 rfl rfl rfl <| Ato ⟨.u p0::tu 19 [], [], 0⟩ ?_
 have hm := h
 unfold m_r03_Kind at hm
 refine Sx <| Wm (.y 0) rfl <| Nk 1 0 ⟨.u p0::tp 19 [], [], 0⟩ ?_
 refine AWP.cutJ (α := Unit) (fun x => match x with | () => (⟨.u p0::tp 19 [], [], 0⟩ : St)) (fun x => match x with | () => m_r03_Kind_j1 p0 = some r) ?_ (fun J1 => ?_)
 ·
  rintro ⟨⟩ hm
  try dsimp only at hm ⊢
  unfold m_r03_Kind_j1 at hm
  refine Sq <| Sx <| Wm (.u p0) rfl ?_
  obtain ⟨r12_2, hr12_2, hm⟩ := bnd hm
  refine Wz (.i r12_2) (Ocf [] [] [] 0 (ok_r03_Exp p0 r12_2 hr12_2) (fun a w => Tryd.call113 a w) rfl trivial) <| Wz (.b (decide (r12_2 = 2047))) (Obn rfl (fun _ => hb_eql (k := .i64))) <| Nk 8193 0 ⟨.u p0::tp 12 (.b (decide (r12_2 = 2047))::tp 6 []), [], 0⟩ ?_
  rcases tf_ (decide (r12_2 = 2047)) with hc13_5 | hc13_5
  ·
   replace hm := cT hc13_5 hm
   refine AiT hc13_5 <| Sx <| Wm (.y 4) rfl <| Nn <| Rt <| Tr ?_
   obtain rfl := Option.some.inj hm
   exact ret_i []
  ·
   replace hm := cF hc13_5 hm
   refine AiF hc13_5 <| Sk <| Tk 1 0 ⟨.u p0::tp 19 [], [], 0⟩ <| Sq <| Sx <| Wm (.u p0) rfl ?_
   obtain ⟨r15_3, hr15_3, hm⟩ := bnd hm
   refine Wz (.i r15_3) (Ocf [] [] [] 0 (ok_r03_Exp p0 r15_3 hr15_3) (fun a w => Tryd.call113 a w) rfl trivial) <| Wz (.b (decide (r15_3 ≠ 0))) (Obn rfl (fun _ => hb_neq (k := .i64))) <| Nk 65537 0 ⟨.u p0::tp 15 (.b (decide (r15_3 ≠ 0))::tp 3 []), [], 0⟩ ?_
   rcases tf_ (decide (r15_3 ≠ 0)) with hc16_6 | hc16_6
   ·
    replace hm := cT hc16_6 hm
    refine AiT hc16_6 <| Sx <| Wm (.y 3) rfl <| Nn <| Rt <| Tr ?_
    obtain rfl := Option.some.inj hm
    exact ret_i []
   ·
    replace hm := cF hc16_6 hm
    refine AiF hc16_6 <| Sk <| Tk 1 0 ⟨.u p0::tp 19 [], [], 0⟩ <| Sq <| Sx <| Wm (.u p0) rfl ?_
    obtain ⟨r18_4, hr18_4, hm⟩ := bnd hm
    refine Wz (.u r18_4) (Ocf [] [] [] 0 (ok_r03_Frac p0 r18_4 hr18_4) (fun a w => Tryd.call114 a w) rfl trivial) <| Wz (.b (decide (r18_4 ≠ 0))) (Obn rfl (fun _ => hb_neq (k := .u64))) <| Nk 524288 0 ⟨tp 19 (.b (decide (r18_4 ≠ 0))::[]), [], 0⟩ ?_
    rcases tf_ (decide (r18_4 ≠ 0)) with hc19_7 | hc19_7
    ·
     replace hm := cT hc19_7 hm
     refine AiT hc19_7 <| Sx <| Wm (.y 2) rfl <| Nn <| Rt <| Tr ?_
     obtain rfl := Option.some.inj hm
     exact ret_i []
    ·
     replace hm := cF hc19_7 hm
     refine AiF hc19_7 <| Sk <| Tk 0 0 ⟨tp 20 [], [], 0⟩ <| Sx <| Wm (.y 1) rfl <| Nn <| Rt ?_
     obtain rfl := Option.some.inj hm
     exact ret_i []
 refine Sq <| Sx <| Wm (.u p0) rfl ?_
 obtain ⟨r4_0, hr4_0, hm⟩ := bnd hm
 refine Wz (.i r4_0) (Ocf [] [] [] 0 (ok_r03_Exp p0 r4_0 hr4_0) (fun a w => Tryd.call113 a w) rfl trivial) <| Wz (.b (decide (r4_0 = 2047))) (Obn rfl (fun _ => hb_eql (k := .i64))) ?_
 rcases tf_ (decide (r4_0 = 2047)) with hq6_0 | hq6_0
 ·
  replace hm := cT hq6_0 hm
  refine Wz (.b true) (Oq hq6_0 rfl) <| Wm (.u p0) rfl ?_
  obtain ⟨r8_0, hr8_0, hm⟩ := bnd hm
  refine Wz (.u r8_0) (Ocf [] [] [] 0 (ok_r03_Frac p0 r8_0 hr8_0) (fun a w => Tryd.call114 a w) rfl trivial) <| Wz (.b (decide (r8_0 ≠ 0))) (Obn rfl (fun _ => hb_neq (k := .u64))) <| Wz (.b (decide (r8_0 ≠ 0))) (OpT rfl) <| Nk 1025 0 ⟨.u p0::tp 9 (.b (decide (r8_0 ≠ 0))::tp 9 []), [], 0⟩ ?_
  rcases tf_ (decide (r8_0 ≠ 0)) with hc10_8 | hc10_8
  ·
   replace hm := cT hc10_8 hm
   refine AiT hc10_8 <| Sx <| Wm (.y 5) rfl <| Nn <| Rt <| Tr ?_
   obtain rfl := Option.some.inj hm
   exact ret_i []
  ·
   replace hm := cF hc10_8 hm
   refine AiF hc10_8 <| Sk <| Tn ?_
   exact AWP.weak (Weak.toK 1 0 0 []) (J1 () hm)
 ·
  replace hm := cF hq6_0 hm
  refine Wz (.b false) (Oq hq6_0 rfl) <| Wn <| Wn <| Wn <| Wz (.b false) (OpF rfl) <| Nk 1025 0 ⟨.u p0::tp 9 (.b false::tp 9 []), [], 0⟩ <| AWP.if_ false (by kernel_rfl) <| Sk <| Tn ?_
  exact AWP.weak (Weak.toK 1 0 0 []) (J1 () hm)

theorem ok_r03_Clean (p0 : Int) (r : Int) (h : m_r03_Clean p0 = some r) : GCall Tryd.prog 99 [(.u p0)] [] (.u r) [] := by
 refine GCall.of_body (n := 7) (rs := [(.tmp 2)]) Tryd.func99 rfl rfl rfl <| Ato ⟨.u p0::tu 6 [], [], 0⟩ ?_
 have hm := h
 unfold m_r03_Clean at hm
 refine Sx <| Wm (.u 0) rfl <| Nk 1 0 ⟨.u p0::tp 6 [], [], 0⟩ <| Sq <| Sx <| Wm (.u p0) rfl ?_
 obtain ⟨r4_0, hr4_0, hm⟩ := bnd hm
 refine Wz (.y r4_0) (Ocf [] [] [] 0 (ok_r03_Kind p0 r4_0 hr4_0) (fun a w => Tryd.call110 a w) rfl trivial) <| Wz (.b (decide (((r4_0.toNat : Nat) : Int) = 5))) (Ob2 (.int .u8 ((r4_0.toNat : Nat) : Int)) (.int .u8 5) rfl (fun _ => hb_eql)) <| Nk 33 0 ⟨.u p0::tp 4 (.b (decide (((r4_0.toNat : Nat) : Int) = 5))::tp 1 []), [], 0⟩ ?_
 rcases tf_ (decide (((r4_0.toNat : Nat) : Int) = 5)) with hc5_1 | hc5_1
 ·
  replace hm := cT hc5_1 hm
  refine AiT hc5_1 <| Sx <| Wm (.u 9221120237041090560) rfl <| Nn <| Rt <| Tr ?_
  obtain rfl := Option.some.inj hm
  exact ret_i []
 ·
  replace hm := cF hc5_1 hm
  refine AiF hc5_1 <| Sk <| Tk 1 0 ⟨.u p0::tp 6 [], [], 0⟩ <| Sx <| Wm (.u p0) rfl <| Wm (.u p0) rfl <| Nn <| Rt ?_
  obtain rfl := Option.some.inj hm
  exact ret_i []

theorem ok_r04_Check (p0 : GValue) (r : Int) (h : m_r04_Check p0 = some r) : GCall Tryd.prog 78 [(.agg [(.y p0.Kind), (.i p0.N), (.u p0.Bits), (.s p0.Text)])] [] (.i r) [] := by
 refine GCall.of_body (n := 87) (rs := [(.tmp 2)]) Tryd.func78 rfl rfl rfl <| Ato ⟨.agg [(.y p0.Kind), (.i p0.N), (.u p0.Bits), (.s p0.Text)]::tu 86 [], [], 0⟩ ?_
 have hm := h
 unfold m_r04_Check at hm
 refine Sx <| Wy (.loc 0 0) [(0, (.box [(.y p0.Kind), (.i p0.N), (.u p0.Bits), (.s p0.Text)]))] (Obx rfl) <| Wm (.i 0) rfl <| Nk 2 1 ⟨tp 1 (.loc 0 0::tp 85 []), [(.box [(.y p0.Kind), (.i p0.N), (.u p0.Bits), (.s p0.Text)])], 0⟩ <| Sq <| Sx <| Wz (.loc 0 0) (Ofa rfl) <| Wz (.y p0.Kind) (Old rfl) <| Wz (.b (decide (((p0.Kind.toNat : Nat) : Int) < 1))) (Ob2 (.int .u8 ((p0.Kind.toNat : Nat) : Int)) (.int .u8 1) rfl (fun _ => hb_lss)) ?_
 rcases tf_ (decide (((p0.Kind.toNat : Nat) : Int) < 1)) with hq6_0 | hq6_0
 ·
  replace hm := cT hq6_0 hm
  refine Wz (.b true) (Oq hq6_0 rfl) <| Wn <| Wn <| Wn <| Wz (.b true) (OpT rfl) <| Nk 1026 1 ⟨tp 1 (.loc 0 0::tp 8 (.b true::tp 76 [])), [(.box [(.y p0.Kind), (.i p0.N), (.u p0.Bits), (.s p0.Text)])], 0⟩ <| AWP.if_ true (by kernel_rfl) <| Sx <| Wm (.i 11) rfl <| Nn <| Rt <| Tr ?_
  obtain rfl := Option.some.inj hm
  exact ret_i []
 ·
  replace hm := cF hq6_0 hm
  refine Wz (.b false) (Oq hq6_0 rfl) <| Wz (.loc 0 0) (Ofa rfl) <| Wz (.y p0.Kind) (Old rfl) <| Wz (.b (decide ((4 : Int) < ((p0.Kind.toNat : Nat) : Int)))) (Ob2 (.int .u8 ((p0.Kind.toNat : Nat) : Int)) (.int .u8 4) rfl (fun _ => hb_gtr)) <| Wz (.b (decide ((4 : Int) < ((p0.Kind.toNat : Nat) : Int)))) (OpF rfl) <| Nk 1026 1 ⟨tp 1 (.loc 0 0::tp 8 (.b (decide ((4 : Int) < ((p0.Kind.toNat : Nat) : Int)))::tp 76 [])), [(.box [(.y p0.Kind), (.i p0.N), (.u p0.Bits), (.s p0.Text)])], 0⟩ ?_
  rcases tf_ (decide ((4 : Int) < ((p0.Kind.toNat : Nat) : Int))) with hc10_14 | hc10_14
  ·
   replace hm := cT hc10_14 hm
   refine AiT hc10_14 <| Sx <| Wm (.i 11) rfl <| Nn <| Rt <| Tr ?_
   obtain rfl := Option.some.inj hm
   exact ret_i []
  ·
   replace hm := cF hc10_14 hm
   refine AiF hc10_14 <| Sk <| Tk 2 1 ⟨tp 1 (.loc 0 0::tp 85 []), [(.box [(.y p0.Kind), (.i p0.N), (.u p0.Bits), (.s p0.Text)])], 0⟩ ?_
   refine AWP.cutJ (α := Unit) (fun x => match x with | () => (⟨tp 1 (.loc 0 0::tp 85 []), [(.box [(.y p0.Kind), (.i p0.N), (.u p0.Bits), (.s p0.Text)])], 0⟩ : St)) (fun x => match x with | () => m_r04_Check_j5 p0 = some r) ?_ (fun J5 => ?_)
   ·
    rintro ⟨⟩ hm
    try dsimp only at hm ⊢
    unfold m_r04_Check_j5 at hm
    refine AWP.cutJ (α := Unit) (fun x => match x with | () => (⟨tp 1 (.loc 0 0::tp 85 []), [(.box [(.y p0.Kind), (.i p0.N), (.u p0.Bits), (.s p0.Text)])], 0⟩ : St)) (fun x => match x with | () => m_r04_Check_j7 p0 = some r) ?_ (fun J7 => ?_)
    ·
     rintro ⟨⟩ hm
     try dsimp only at hm ⊢
     unfold m_r04_Check_j7 at hm
     refine AWP.cutJ (α := Unit) (fun x => match x with | () => (⟨tp 1 (.loc 0 0::tp 85 []), [(.box [(.y p0.Kind), (.i p0.N), (.u p0.Bits), (.s p0.Text)])], 0⟩ : St)) (fun x => match x with | () => m_r04_Check_j9 p0 = some r) ?_ (fun J9 => ?_)
     ·
      rintro ⟨⟩ hm
      try dsimp only at hm ⊢
      unfold m_r04_Check_j9 at hm
      refine Sq ?_
      refine AWP.cutJ (α := Unit) (fun x => match x with | () => (⟨tp 86 (.b true::[]), [], 0⟩ : St)) (fun x => match x with | () => m_r04_Check_j11  = some r) ?_ (fun J11 => ?_)
      ·
       rintro ⟨⟩ hm
       try dsimp only at hm ⊢
       unfold m_r04_Check_j11 at hm
       refine AWP.if_ true (by kernel_rfl) <| Sx <| Wm (.i 2) rfl <| Nn <| Rt <| Tr ?_
       obtain rfl := Option.some.inj hm
       exact ret_i []
      refine AWP.cutJ (α := Unit) (fun x => match x with | () => (⟨tp 86 (.b (decide (p0.Text ≠ ([] : List UInt8)))::[]), [], 0⟩ : St)) (fun x => match x with | () => m_r04_Check_j12 p0 = some r) ?_ (fun J12 => ?_)
      ·
       rintro ⟨⟩ hm
       try dsimp only at hm ⊢
       unfold m_r04_Check_j12 at hm
       rcases tf_ (decide (p0.Text ≠ ([] : List UInt8))) with hc86_12 | hc86_12
       ·
        replace hm := cT hc86_12 hm
        refine AiT hc86_12 <| Sx <| Wm (.i 2) rfl <| Nn <| Rt <| Tr ?_
        obtain rfl := Option.some.inj hm
        exact ret_i []
       ·
        replace hm := cF hc86_12 hm
        refine AiF hc86_12 <| Sk <| Tk 0 0 ⟨tp 87 [], [], 0⟩ <| Sx <| Wm (.i 0) rfl <| Nn <| Rt ?_
        obtain rfl := Option.some.inj hm
        exact ret_i []
      refine AWP.cutJ (α := Unit) (fun x => match x with | () => (⟨tp 86 (.b false::[]), [], 0⟩ : St)) (fun x => match x with | () => m_r04_Check_j13  = some r) ?_ (fun J13 => ?_)
      ·
       rintro ⟨⟩ hm
       try dsimp only at hm ⊢
       unfold m_r04_Check_j13 at hm
       refine AWP.if_ false (by kernel_rfl) <| Sk <| Tk 0 0 ⟨tp 87 [], [], 0⟩ <| Sx <| Wm (.i 0) rfl <| Nn <| Rt ?_
       obtain rfl := Option.some.inj hm
       exact ret_i []
      refine Sx <| Wz (.loc 0 0) (Ofa rfl) <| Wz (.y p0.Kind) (Old rfl) <| Wz (.b (decide ((2 : Int) < ((p0.Kind.toNat : Nat) : Int)))) (Ob2 (.int .u8 ((p0.Kind.toNat : Nat) : Int)) (.int .u8 2) rfl (fun _ => hb_gtr)) ?_
      rcases tf_ (decide ((2 : Int) < ((p0.Kind.toNat : Nat) : Int))) with hq62_10 | hq62_10
      ·
       replace hm := cT hq62_10 hm
       refine Wz (.b true) (Oq hq62_10 rfl) <| Wz (.loc 0 1) (Ofa rfl) <| Wz (.i p0.N) (Old rfl) <| Wz (.b (decide (p0.N ≠ 0))) (Obn rfl (fun _ => hb_neq (k := .i64))) <| Wz (.b (decide (p0.N ≠ 0))) (OpT rfl) ?_
       rcases tf_ (decide (p0.N ≠ 0)) with hq67_10 | hq67_10
       ·
        replace hm := cT hq67_10 hm
        refine Wz (.b true) (Oq hq67_10 rfl) <| Wn <| Wn <| Wn <| Wn <| Wn <| Wn <| Wn <| Wn <| Wz (.b true) (OpT rfl) <| Wm (.b true) rfl <| Wn <| Wn <| Wn ?_
        refine Wn <| Wn <| Wn <| Wn <| Wn <| Wz (.b true) (OpT rfl) <| Nn ?_
        exact AWP.weak (Weak.toK 77371252455336267181195264 0 0 []) (J11 () hm)
       ·
        replace hm := cF hq67_10 hm
        refine Wz (.b false) (Oq hq67_10 rfl) <| Wz (.loc 0 0) (Ofa rfl) <| Wz (.y p0.Kind) (Old rfl) <| Wz (.b (decide (((p0.Kind.toNat : Nat) : Int) ≠ 3))) (Ob2 (.int .u8 ((p0.Kind.toNat : Nat) : Int)) (.int .u8 3) rfl (fun _ => hb_neq)) ?_
        rcases tf_ (decide (((p0.Kind.toNat : Nat) : Int) ≠ 3)) with hq71_10 | hq71_10
        ·
         replace hm := cT hq71_10 hm
         refine Wz (.b true) (Oq hq71_10 rfl) <| Wz (.loc 0 2) (Ofa rfl) <| Wz (.u p0.Bits) (Old rfl) <| Wz (.b (decide (p0.Bits ≠ 0))) (Obn rfl (fun _ => hb_neq (k := .u64))) <| Wz (.b (decide (p0.Bits ≠ 0))) (OpT rfl) <| Wz (.b (decide (p0.Bits ≠ 0))) (OpF rfl) ?_
         rcases tf_ (decide (p0.Bits ≠ 0)) with hq77_10 | hq77_10
         ·
          replace hm := cT hq77_10 hm
          refine Wz (.b true) (Oq hq77_10 rfl) <| Wn <| Wn <| Wn <| Wn <| Wn <| Wn <| Wn <| Wn <| Wz (.b true) (OpT rfl) <| Nn ?_
          exact AWP.weak (Weak.toK 77371252455336267181195264 0 0 []) (J11 () hm)
         ·
          replace hm := cF hq77_10 hm
          refine Wz (.b false) (Oq hq77_10 rfl) <| Wz (.loc 0 0) (Ofa rfl) <| Wz (.y p0.Kind) (Old rfl) <| Wz (.b (decide (((p0.Kind.toNat : Nat) : Int) ≠ 4))) (Ob2 (.int .u8 ((p0.Kind.toNat : Nat) : Int)) (.int .u8 4) rfl (fun _ => hb_neq)) ?_
          rcases tf_ (decide (((p0.Kind.toNat : Nat) : Int) ≠ 4)) with hq81_10 | hq81_10
          ·
           replace hm := cT hq81_10 hm
           refine Wz (.b true) (Oq hq81_10 rfl) <| Wz (.loc 0 3) (Ofa rfl) <| Wz (.s p0.Text) (Old rfl) <| Wz (.b (decide (p0.Text ≠ ([] : List UInt8)))) (Ocs (lit_tf (by simp only [toS_inj, ne_eq])) (op_bin rfl (a1 := .string (toS p0.Text)) (a2 := .string (toS ([] : List UInt8))) (by kernel_rfl) (by kernel_rfl) (fun _ => hb_sneq))) <| Wz (.b (decide (p0.Text ≠ ([] : List UInt8)))) (OpT rfl) <| Wz (.b (decide (p0.Text ≠ ([] : List UInt8)))) (OpF rfl) <| Nn ?_
           exact AWP.weak (Weak.toK 77371252455336267181195264 0 0 []) (J12 () hm)
          ·
           replace hm := cF hq81_10 hm
           refine Wz (.b false) (Oq hq81_10 rfl) <| Wn <| Wn <| Wn <| Wz (.b false) (OpF rfl) <| Wz (.b false) (OpF rfl) <| Nn ?_
           exact AWP.weak (Weak.toK 77371252455336267181195264 0 0 []) (J13 () hm)
        ·
         replace hm := cF hq71_10 hm
         refine Wz (.b false) (Oq hq71_10 rfl) <| Wn <| Wn <| Wn <| Wz (.b false) (OpF rfl) <| Wz (.b false) (OpF rfl) <| Wm (.b false) rfl <| Wz (.loc 0 0) (Ofa rfl) <| Wz (.y p0.Kind) (Old rfl) <| Wz (.b (decide (((p0.Kind.toNat : Nat) : Int) ≠ 4))) (Ob2 (.int .u8 ((p0.Kind.toNat : Nat) : Int)) (.int .u8 4) rfl (fun _ => hb_neq)) ?_
         rcases tf_ (decide (((p0.Kind.toNat : Nat) : Int) ≠ 4)) with hq81_10 | hq81_10
         ·
          replace hm := cT hq81_10 hm
          refine Wz (.b true) (Oq hq81_10 rfl) <| Wz (.loc 0 3) (Ofa rfl) <| Wz (.s p0.Text) (Old rfl) <| Wz (.b (decide (p0.Text ≠ ([] : List UInt8)))) (Ocs (lit_tf (by simp only [toS_inj, ne_eq])) (op_bin rfl (a1 := .string (toS p0.Text)) (a2 := .string (toS ([] : List UInt8))) (by kernel_rfl) (by kernel_rfl) (fun _ => hb_sneq))) <| Wz (.b (decide (p0.Text ≠ ([] : List UInt8)))) (OpT rfl) <| Wz (.b (decide (p0.Text ≠ ([] : List UInt8)))) (OpF rfl) <| Nn ?_
          exact AWP.weak (Weak.toK 77371252455336267181195264 0 0 []) (J12 () hm)
         ·
          replace hm := cF hq81_10 hm
          refine Wz (.b false) (Oq hq81_10 rfl) <| Wn <| Wn <| Wn <| Wz (.b false) (OpF rfl) <| Wz (.b false) (OpF rfl) <| Nn ?_
          exact AWP.weak (Weak.toK 77371252455336267181195264 0 0 []) (J13 () hm)
      ·
       replace hm := cF hq62_10 hm
       refine Wz (.b false) (Oq hq62_10 rfl) <| Wn <| Wn <| Wn <| Wz (.b false) (OpF rfl) <| Wm (.b false) rfl <| Wz (.loc 0 0) (Ofa rfl) <| Wz (.y p0.Kind) (Old rfl) <| Wz (.b (decide (((p0.Kind.toNat : Nat) : Int) ≠ 3))) (Ob2 (.int .u8 ((p0.Kind.toNat : Nat) : Int)) (.int .u8 3) rfl (fun _ => hb_neq)) ?_
       rcases tf_ (decide (((p0.Kind.toNat : Nat) : Int) ≠ 3)) with hq71_10 | hq71_10
       ·
        replace hm := cT hq71_10 hm
        refine Wz (.b true) (Oq hq71_10 rfl) <| Wz (.loc 0 2) (Ofa rfl) <| Wz (.u p0.Bits) (Old rfl) <| Wz (.b (decide (p0.Bits ≠ 0))) (Obn rfl (fun _ => hb_neq (k := .u64))) <| Wz (.b (decide (p0.Bits ≠ 0))) (OpT rfl) <| Wz (.b (decide (p0.Bits ≠ 0))) (OpF rfl) ?_
        rcases tf_ (decide (p0.Bits ≠ 0)) with hq77_10 | hq77_10
        ·
         replace hm := cT hq77_10 hm
         refine Wz (.b true) (Oq hq77_10 rfl) <| Wn <| Wn <| Wn <| Wn <| Wn <| Wn <| Wn <| Wn <| Wz (.b true) (OpT rfl) <| Nn ?_
         exact AWP.weak (Weak.toK 77371252455336267181195264 0 0 []) (J11 () hm)
        ·
         replace hm := cF hq77_10 hm
         refine Wz (.b false) (Oq hq77_10 rfl) <| Wz (.loc 0 0) (Ofa rfl) <| Wz (.y p0.Kind) (Old rfl) <| Wz (.b (decide (((p0.Kind.toNat : Nat) : Int) ≠ 4))) (Ob2 (.int .u8 ((p0.Kind.toNat : Nat) : Int)) (.int .u8 4) rfl (fun _ => hb_neq)) ?_
         rcases tf_ (decide (((p0.Kind.toNat : Nat) : Int) ≠ 4)) with hq81_10 | hq81_10
         ·
          replace hm := cT hq81_10 hm
          refine Wz (.b true) (Oq hq81_10 rfl) <| Wz (.loc 0 3) (Ofa rfl) <| Wz (.s p0.Text) (Old rfl) <| Wz (.b (decide (p0.Text ≠ ([] : List UInt8)))) (Ocs (lit_tf (by simp only [toS_inj, ne_eq])) (op_bin rfl (a1 := .string (toS p0.Text)) (a2 := .string (toS ([] : List UInt8))) (by kernel_rfl) (by kernel_rfl) (fun _ => hb_sneq))) <| Wz (.b (decide (p0.Text ≠ ([] : List UInt8)))) (OpT rfl) <| Wz (.b (decide (p0.Text ≠ ([] : List UInt8)))) (OpF rfl) <| Nn ?_
          exact AWP.weak (Weak.toK 77371252455336267181195264 0 0 []) (J12 () hm)
         ·
          replace hm := cF hq81_10 hm
          refine Wz (.b false) (Oq hq81_10 rfl) <| Wn <| Wn <| Wn <| Wz (.b false) (OpF rfl) <| Wz (.b false) (OpF rfl) <| Nn ?_
          exact AWP.weak (Weak.toK 77371252455336267181195264 0 0 []) (J13 () hm)
       ·
        replace hm := cF hq71_10 hm
        refine Wz (.b false) (Oq hq71_10 rfl) <| Wn <| Wn <| Wn <| Wz (.b false) (OpF rfl) <| Wz (.b false) (OpF rfl) <| Wm (.b false) rfl <| Wz (.loc 0 0) (Ofa rfl) <| Wz (.y p0.Kind) (Old rfl) <| Wz (.b (decide (((p0.Kind.toNat : Nat) : Int) ≠ 4))) (Ob2 (.int .u8 ((p0.Kind.toNat : Nat) : Int)) (.int .u8 4) rfl (fun _ => hb_neq)) ?_
        rcases tf_ (decide (((p0.Kind.toNat : Nat) : Int) ≠ 4)) with hq81_10 | hq81_10
        ·
         replace hm := cT hq81_10 hm
         refine Wz (.b true) (Oq hq81_10 rfl) <| Wz (.loc 0 3) (Ofa rfl) <| Wz (.s p0.Text) (Old rfl) <| Wz (.b (decide (p0.Text ≠ ([] : List UInt8)))) (Ocs (lit_tf (by simp only [toS_inj, ne_eq])) (op_bin rfl (a1 := .string (toS p0.Text)) (a2 := .string (toS ([] : List UInt8))) (by kernel_rfl) (by kernel_rfl) (fun _ => hb_sneq))) <| Wz (.b (decide (p0.Text ≠ ([] : List UInt8)))) (OpT rfl) <| Wz (.b (decide (p0.Text ≠ ([] : List UInt8)))) (OpF rfl) <| Nn ?_
         exact AWP.weak (Weak.toK 77371252455336267181195264 0 0 []) (J12 () hm)
        ·
         replace hm := cF hq81_10 hm
         refine Wz (.b false) (Oq hq81_10 rfl) <| Wn <| Wn <| Wn <| Wz (.b false) (OpF rfl) <| Wz (.b false) (OpF rfl) <| Nn ?_
         exact AWP.weak (Weak.toK 77371252455336267181195264 0 0 []) (J13 () hm)
     refine Sq <| Sx <| Wz (.loc 0 0) (Ofa rfl) <| Wz (.y p0.Kind) (Old rfl) <| Wz (.b (decide (((p0.Kind.toNat : Nat) : Int) = 4))) (Ob2 (.int .u8 ((p0.Kind.toNat : Nat) : Int)) (.int .u8 4) rfl (fun _ => hb_eql)) ?_
     rcases tf_ (decide (((p0.Kind.toNat : Nat) : Int) = 4)) with hq53_8 | hq53_8
     ·
      replace hm := cT hq53_8 hm
      refine Wz (.b true) (Oq hq53_8 rfl) <| Wz (.loc 0 3) (Ofa rfl) <| Wz (.s p0.Text) (Old rfl) <| Wz (.i ((List.length p0.Text : Nat) : Int)) (Oln rfl) <| Wz (.b (decide ((24 : Int) < ((List.length p0.Text : Nat) : Int)))) (Obn rfl (fun _ => hb_gtr (k := .i64))) <| Wz (.b (decide ((24 : Int) < ((List.length p0.Text : Nat) : Int)))) (OpT rfl) <| Nk 288230376151711746 1 ⟨tp 1 (.loc 0 0::tp 56 (.b (decide ((24 : Int) < ((List.length p0.Text : Nat) : Int)))::tp 28 [])), [(.box [(.y p0.Kind), (.i p0.N), (.u p0.Bits), (.s p0.Text)])], 0⟩ ?_
      rcases tf_ (decide ((24 : Int) < ((List.length p0.Text : Nat) : Int))) with hc58_15 | hc58_15
      ·
       replace hm := cT hc58_15 hm
       refine AiT hc58_15 <| Sx <| Wm (.i 5) rfl <| Nn <| Rt <| Tr ?_
       obtain rfl := Option.some.inj hm
       exact ret_i []
      ·
       replace hm := cF hc58_15 hm
       refine AiF hc58_15 <| Sk <| Tn ?_
       exact AWP.weak (Weak.toK 2 0 0 [0]) (J9 () hm)
     ·
      replace hm := cF hq53_8 hm
      refine Wz (.b false) (Oq hq53_8 rfl) <| Wn <| Wn <| Wn <| Wn <| Wz (.b false) (OpF rfl) <| Nk 288230376151711746 1 ⟨tp 1 (.loc 0 0::tp 56 (.b false::tp 28 [])), [(.box [(.y p0.Kind), (.i p0.N), (.u p0.Bits), (.s p0.Text)])], 0⟩ <| AWP.if_ false (by kernel_rfl) <| Sk <| Tn ?_
      exact AWP.weak (Weak.toK 2 0 0 [0]) (J9 () hm)
    refine Sq <| Sq <| Adr <| Wz (.loc 0 0) (Ofa rfl) <| Wz (.y p0.Kind) (Old rfl) <| Wz (.b (decide (((p0.Kind.toNat : Nat) : Int) = 3))) (Ob2 (.int .u8 ((p0.Kind.toNat : Nat) : Int)) (.int .u8 3) rfl (fun _ => hb_eql)) ?_
    rcases tf_ (decide (((p0.Kind.toNat : Nat) : Int) = 3)) with hq42_6 | hq42_6
    ·
     replace hm := cT hq42_6 hm
     refine Wz (.b true) (Oq hq42_6 rfl) <| Wz (.loc 0 2) (Ofa rfl) <| Wz (.u p0.Bits) (Old rfl) ?_
     obtain ⟨r45_6, hr45_6, hm⟩ := bnd hm
     refine Wz (.u r45_6) (Ocf [] [] [] 0 (ok_r03_Clean p0.Bits r45_6 hr45_6) (fun a w => Tryd.call99 a w) rfl trivial) <| Wz (.loc 0 2) (Ofa rfl) <| Wz (.u p0.Bits) (Old rfl) <| Wz (.b (decide (r45_6 ≠ p0.Bits))) (Obn rfl (fun _ => hb_neq (k := .u64))) <| Wz (.b (decide (r45_6 ≠ p0.Bits))) (OpT rfl) <| Wdr <| Tk 562949953421314 1 ⟨tp 1 (.loc 0 0::tp 47 (.b (decide (r45_6 ≠ p0.Bits))::tp 37 [])), [(.box [(.y p0.Kind), (.i p0.N), (.u p0.Bits), (.s p0.Text)])], 0⟩ ?_
     rcases tf_ (decide (r45_6 ≠ p0.Bits)) with hc49_16 | hc49_16
     ·
      replace hm := cT hc49_16 hm
      refine AiT hc49_16 <| Sx <| Wm (.i 4) rfl <| Nn <| Rt <| Tr ?_
      obtain rfl := Option.some.inj hm
      exact ret_i []
     ·
      replace hm := cF hc49_16 hm
      refine AiF hc49_16 <| Sk <| Tn ?_
      exact AWP.weak (Weak.toK 2 0 0 [0]) (J7 () hm)
    ·
     replace hm := cF hq42_6 hm
     refine Wz (.b false) (Oq hq42_6 rfl) <| Wn <| Wn <| Wn <| Wn <| Wn <| Wn <| Wz (.b false) (OpF rfl) <| Wdr <| Tk 562949953421314 1 ⟨tp 1 (.loc 0 0::tp 47 (.b false::tp 37 [])), [(.box [(.y p0.Kind), (.i p0.N), (.u p0.Bits), (.s p0.Text)])], 0⟩ <| AWP.if_ false (by kernel_rfl) <| Sk <| Tn ?_
     exact AWP.weak (Weak.toK 2 0 0 [0]) (J7 () hm)
   refine Sq ?_
   refine AWP.cutJ (α := Unit) (fun x => match x with | () => (⟨tp 1 (.loc 0 0::tp 36 (.b true::tp 48 [])), [(.box [(.y p0.Kind), (.i p0.N), (.u p0.Bits), (.s p0.Text)])], 0⟩ : St)) (fun x => match x with | () => m_r04_Check_j2  = some r) ?_ (fun J2 => ?_)
   ·
    rintro ⟨⟩ hm
    try dsimp only at hm ⊢
    unfold m_r04_Check_j2 at hm
    refine AWP.if_ true (by kernel_rfl) <| Sx <| Wm (.i 8) rfl <| Nn <| Rt <| Tr ?_
    obtain rfl := Option.some.inj hm
    exact ret_i []
   refine AWP.cutJ (α := Unit) (fun x => match x with | () => (⟨tp 1 (.loc 0 0::tp 36 (.b (decide ((1 : Int) < p0.N))::tp 48 [])), [(.box [(.y p0.Kind), (.i p0.N), (.u p0.Bits), (.s p0.Text)])], 0⟩ : St)) (fun x => match x with | () => m_r04_Check_j3 p0 = some r) ?_ (fun J3 => ?_)
   ·
    rintro ⟨⟩ hm
    try dsimp only at hm ⊢
    unfold m_r04_Check_j3 at hm
    rcases tf_ (decide ((1 : Int) < p0.N)) with hc38_3 | hc38_3
    ·
     replace hm := cT hc38_3 hm
     refine AiT hc38_3 <| Sx <| Wm (.i 8) rfl <| Nn <| Rt <| Tr ?_
     obtain rfl := Option.some.inj hm
     exact ret_i []
    ·
     replace hm := cF hc38_3 hm
     refine AiF hc38_3 <| Sk <| Tn ?_
     exact AWP.weak (Weak.toK 2 0 0 [0]) (J5 () hm)
   refine AWP.cutJ (α := Unit) (fun x => match x with | () => (⟨tp 1 (.loc 0 0::tp 36 (.b false::tp 48 [])), [(.box [(.y p0.Kind), (.i p0.N), (.u p0.Bits), (.s p0.Text)])], 0⟩ : St)) (fun x => match x with | () => m_r04_Check_j4 p0 = some r) ?_ (fun J4 => ?_)
   ·
    rintro ⟨⟩ hm
    try dsimp only at hm ⊢
    unfold m_r04_Check_j4 at hm
    refine AWP.if_ false (by kernel_rfl) <| Sk <| Tn ?_
    exact AWP.weak (Weak.toK 2 0 0 [0]) (J5 () hm)
   refine Sx <| Wz (.loc 0 0) (Ofa rfl) <| Wz (.y p0.Kind) (Old rfl) <| Wz (.b (decide (((p0.Kind.toNat : Nat) : Int) = 1))) (Ob2 (.int .u8 ((p0.Kind.toNat : Nat) : Int)) (.int .u8 1) rfl (fun _ => hb_eql)) ?_
   rcases tf_ (decide (((p0.Kind.toNat : Nat) : Int) = 1)) with hq14_1 | hq14_1
   ·
    replace hm := cT hq14_1 hm
    refine Wz (.b true) (Oq hq14_1 rfl) <| Wz (.loc 0 1) (Ofa rfl) <| Wz (.i p0.N) (Old rfl) <| Wz (.b (decide (p0.N < (-4611686018427387904)))) (Obn rfl (fun _ => hb_lss (k := .i64))) ?_
    rcases tf_ (decide (p0.N < (-4611686018427387904))) with hq18_1 | hq18_1
    ·
     replace hm := cT hq18_1 hm
     refine Wz (.b true) (Oq hq18_1 rfl) <| Wn <| Wn <| Wn <| Wz (.b true) (OpT rfl) <| Wz (.b true) (OpT rfl) <| Wm (.b true) rfl <| Wn <| Wn <| Wn <| Wn <| Wn <| Wn <| Wn ?_
     refine Wn <| Wn <| Wn <| Wn <| Wn <| Wn <| Wz (.b true) (OpT rfl) <| Nn ?_
     exact AWP.weak (Weak.toK 274877906946 0 0 [0]) (J2 () hm)
    ·
     replace hm := cF hq18_1 hm
     refine Wz (.b false) (Oq hq18_1 rfl) <| Wz (.loc 0 1) (Ofa rfl) <| Wz (.i p0.N) (Old rfl) <| Wz (.b (decide ((4611686018427387904 : Int) < p0.N))) (Obn rfl (fun _ => hb_gtr (k := .i64))) <| Wz (.b (decide ((4611686018427387904 : Int) < p0.N))) (OpF rfl) <| Wz (.b (decide ((4611686018427387904 : Int) < p0.N))) (OpT rfl) ?_
     rcases tf_ (decide ((4611686018427387904 : Int) < p0.N)) with hq24_1 | hq24_1
     ·
      replace hm := cT hq24_1 hm
      refine Wz (.b true) (Oq hq24_1 rfl) <| Wn <| Wn <| Wn <| Wn <| Wn <| Wn <| Wn <| Wn <| Wn <| Wn <| Wn <| Wn <| Wn ?_
      refine Wz (.b true) (OpT rfl) <| Nn ?_
      exact AWP.weak (Weak.toK 274877906946 0 0 [0]) (J2 () hm)
     ·
      replace hm := cF hq24_1 hm
      refine Wz (.b false) (Oq hq24_1 rfl) <| Wz (.loc 0 0) (Ofa rfl) <| Wz (.y p0.Kind) (Old rfl) <| Wz (.b (decide (((p0.Kind.toNat : Nat) : Int) = 2))) (Ob2 (.int .u8 ((p0.Kind.toNat : Nat) : Int)) (.int .u8 2) rfl (fun _ => hb_eql)) ?_
      rcases tf_ (decide (((p0.Kind.toNat : Nat) : Int) = 2)) with hq28_1 | hq28_1
      ·
       replace hm := cT hq28_1 hm
       refine Wz (.b true) (Oq hq28_1 rfl) <| Wz (.loc 0 1) (Ofa rfl) <| Wz (.i p0.N) (Old rfl) <| Wz (.b (decide (p0.N < 0))) (Obn rfl (fun _ => hb_lss (k := .i64))) ?_
       rcases tf_ (decide (p0.N < 0)) with hq32_1 | hq32_1
       ·
        replace hm := cT hq32_1 hm
        refine Wz (.b true) (Oq hq32_1 rfl) <| Wn <| Wn <| Wn <| Wz (.b true) (OpT rfl) <| Wz (.b true) (OpT rfl) <| Wz (.b true) (OpF rfl) <| Nn ?_
        exact AWP.weak (Weak.toK 274877906946 0 0 [0]) (J2 () hm)
       ·
        replace hm := cF hq32_1 hm
        refine Wz (.b false) (Oq hq32_1 rfl) <| Wz (.loc 0 1) (Ofa rfl) <| Wz (.i p0.N) (Old rfl) <| Wz (.b (decide ((1 : Int) < p0.N))) (Obn rfl (fun _ => hb_gtr (k := .i64))) <| Wz (.b (decide ((1 : Int) < p0.N))) (OpF rfl) <| Wz (.b (decide ((1 : Int) < p0.N))) (OpT rfl) <| Wz (.b (decide ((1 : Int) < p0.N))) (OpF rfl) <| Nn ?_
        exact AWP.weak (Weak.toK 274877906946 0 0 [0]) (J3 () hm)
      ·
       replace hm := cF hq28_1 hm
       refine Wz (.b false) (Oq hq28_1 rfl) <| Wn <| Wn <| Wn <| Wn <| Wn <| Wn <| Wn <| Wn <| Wz (.b false) (OpF rfl) <| Wz (.b false) (OpF rfl) <| Nn ?_
       exact AWP.weak (Weak.toK 274877906946 0 0 [0]) (J4 () hm)
   ·
    replace hm := cF hq14_1 hm
    refine Wz (.b false) (Oq hq14_1 rfl) <| Wn <| Wn <| Wn <| Wn <| Wn <| Wn <| Wn <| Wn <| Wz (.b false) (OpF rfl) <| Wm (.b false) rfl <| Wz (.loc 0 0) (Ofa rfl) <| Wz (.y p0.Kind) (Old rfl) <| Wz (.b (decide (((p0.Kind.toNat : Nat) : Int) = 2))) (Ob2 (.int .u8 ((p0.Kind.toNat : Nat) : Int)) (.int .u8 2) rfl (fun _ => hb_eql)) ?_
    rcases tf_ (decide (((p0.Kind.toNat : Nat) : Int) = 2)) with hq28_1 | hq28_1
    ·
     replace hm := cT hq28_1 hm
     refine Wz (.b true) (Oq hq28_1 rfl) <| Wz (.loc 0 1) (Ofa rfl) <| Wz (.i p0.N) (Old rfl) <| Wz (.b (decide (p0.N < 0))) (Obn rfl (fun _ => hb_lss (k := .i64))) ?_
     rcases tf_ (decide (p0.N < 0)) with hq32_1 | hq32_1
     ·
      replace hm := cT hq32_1 hm
      refine Wz (.b true) (Oq hq32_1 rfl) <| Wn <| Wn <| Wn <| Wz (.b true) (OpT rfl) <| Wz (.b true) (OpT rfl) <| Wz (.b true) (OpF rfl) <| Nn ?_
      exact AWP.weak (Weak.toK 274877906946 0 0 [0]) (J2 () hm)
     ·
      replace hm := cF hq32_1 hm
      refine Wz (.b false) (Oq hq32_1 rfl) <| Wz (.loc 0 1) (Ofa rfl) <| Wz (.i p0.N) (Old rfl) <| Wz (.b (decide ((1 : Int) < p0.N))) (Obn rfl (fun _ => hb_gtr (k := .i64))) <| Wz (.b (decide ((1 : Int) < p0.N))) (OpF rfl) <| Wz (.b (decide ((1 : Int) < p0.N))) (OpT rfl) <| Wz (.b (decide ((1 : Int) < p0.N))) (OpF rfl) <| Nn ?_
      exact AWP.weak (Weak.toK 274877906946 0 0 [0]) (J3 () hm)
    ·
     replace hm := cF hq28_1 hm
     refine Wz (.b false) (Oq hq28_1 rfl) <| Wn <| Wn <| Wn <| Wn <| Wn <| Wn <| Wn <| Wn <| Wz (.b false) (OpF rfl) <| Wz (.b false) (OpF rfl) <| Nn ?_
     exact AWP.weak (Weak.toK 274877906946 0 0 [0]) (J4 () hm)

theorem ok_r06_Fits (p0 : GType) (p1 : (List GValue)) (r : Int) (h : m_r06_Fits p0 p1 = some r) : GCall Tryd.prog 65 [(.agg [(.s p0.Name), (.l enc_GField p0.Fields)]), (.l enc_GValue p1)] [] (.i r) [] := by
 refine GCall.of_body (n := 39) (rs := [(.tmp 4)]) Tryd.func65 rfl rfl rfl <| Ato ⟨.agg [(.s p0.Name), (.l enc_GField p0.Fields)]::.l enc_GValue p1::tu 37 [], [], 0⟩ ?_
 have hm := h
 unfold m_r06_Fits at hm
 refine Sx <| Wy (.loc 0 0) [(0, (.box [(.s p0.Name), (.l enc_GField p0.Fields)]))] (Obx rfl) <| Wm (.i 0) rfl <| Nk 6 1 ⟨tp 1 (.l enc_GValue p1::.loc 0 0::tp 36 []), [(.box [(.s p0.Name), (.l enc_GField p0.Fields)])], 0⟩ <| Sq <| Sx <| Wm (.l enc_GValue p1) rfl <| Wz (.i ((List.length p1 : Nat) : Int)) (Oln rfl) <| Wz (.loc 0 1) (Ofa rfl) <| Wz (.l enc_GField p0.Fields) (Old rfl) <| Wz (.i ((List.length p0.Fields : Nat) : Int)) (Oln rfl) <| Wz (.b (decide (((List.length p1 : Nat) : Int) ≠ ((List.length p0.Fields : Nat) : Int)))) (Obn rfl (fun _ => hb_neq (k := .i64))) <| Nk 4102 1 ⟨tp 1 (.l enc_GValue p1::.loc 0 0::tp 9 (.b (decide (((List.length p1 : Nat) : Int) ≠ ((List.length p0.Fields : Nat) : Int)))::tp 26 [])), [(.box [(.s p0.Name), (.l enc_GField p0.Fields)])], 0⟩ ?_
 rcases tf_ (decide (((List.length p1 : Nat) : Int) ≠ ((List.length p0.Fields : Nat) : Int))) with hc12_5 | hc12_5
 ·
  replace hm := cT hc12_5 hm
  refine AiT hc12_5 <| Sx <| Wm (.i 5) rfl <| Nn <| Rt <| Tr ?_
  obtain rfl := Option.some.inj hm
  exact ret_i []
 ·
  replace hm := cF hc12_5 hm
  refine AiF hc12_5 <| Sk <| Tk 6 1 ⟨tp 1 (.l enc_GValue p1::.loc 0 0::tp 36 []), [(.box [(.s p0.Name), (.l enc_GField p0.Fields)])], 0⟩ <| Sq <| Sx <| Wm (.i 0) rfl <| Nk 38 1 ⟨tp 1 (.l enc_GValue p1::.loc 0 0::tp 2 (.i 0::tp 33 [])), [(.box [(.s p0.Name), (.l enc_GField p0.Fields)])], 0⟩ <| Bk ?_
  refine AWP.loopI (α := Nat × Int)
    (fun (fu_1, y5_1) => (⟨tp 1 (.l enc_GValue p1::.loc 0 0::tp 2 (.i y5_1::tp 33 [])), [(.box [(.s p0.Name), (.l enc_GField p0.Fields)])], 0⟩ : St))
    (fun (fu_1, y5_1) => m_r06_Fits_l1 p0 p1 fu_1 y5_1 = some r)
    (fun (fu_1, y5_1) => fu_1) (1152921504606846976, 0)
    (Weak.toK 38 0 0 [0]) hm ?_
  rintro ⟨fu_1, y5_1⟩ n_1 hm ih_1
  try dsimp only at hm ih_1 ⊢
  cases fu_1 with
  | zero => exact absurd hm (by unfold m_r06_Fits_l1; simp)
  | succ fu_1 =>
   unfold m_r06_Fits_l1 at hm
   refine Sq <| Sx <| Wm (.i y5_1) rfl <| Wm (.l enc_GValue p1) rfl <| Wz (.i ((List.length p1 : Nat) : Int)) (Oln rfl) <| Wz (.b (decide (y5_1 < ((List.length p1 : Nat) : Int)))) (Obn rfl (fun _ => hb_lss (k := .i64))) <| Nk 65574 1 ⟨tp 1 (.l enc_GValue p1::.loc 0 0::tp 2 (.i y5_1::tp 10 (.b (decide (y5_1 < ((List.length p1 : Nat) : Int)))::tp 22 []))), [(.box [(.s p0.Name), (.l enc_GField p0.Fields)])], 0⟩ ?_
   rcases tf_ (decide (y5_1 < ((List.length p1 : Nat) : Int))) with hc16_6 | hc16_6
   ·
    replace hm := cT hc16_6 hm
    refine AiT hc16_6 <| Sk <| Tk 38 1 ⟨tp 1 (.l enc_GValue p1::.loc 0 0::tp 2 (.i y5_1::tp 33 [])), [(.box [(.s p0.Name), (.l enc_GField p0.Fields)])], 0⟩ <| Sq <| Bk <| Sq <| Sx <| Wm (.l enc_GValue p1) rfl <| Wm (.i y5_1) rfl ?_
    obtain ⟨x21_3, hx21_3, hm⟩ := bnd hm
    obtain ⟨hx21_3i, hx21_3g⟩ := geti_some hx21_3
    refine Wz (.d (.ref (List.drop ((Int.toNat y5_1) * 4) (flatD enc_GValue p1)))) (Oia rfl enc_GValue_len hx21_3i hx21_3g) <| Wz (.agg [(.y x21_3.Kind), (.i x21_3.N), (.u x21_3.Bits), (.s x21_3.Text)]) (Lf rfl enc_GValue_len hx21_3g) ?_
    obtain ⟨r23_3, hr23_3, hm⟩ := bnd hm
    refine Wz (.i r23_3) (Ocf [] [] [] 0 (ok_r04_Check x21_3 r23_3 hr23_3) (fun a w => Tryd.call78 a w) rfl trivial) <| Wm (.i r23_3) rfl <| Nk 102 1 ⟨tp 1 (.l enc_GValue p1::.loc 0 0::tp 2 (.i y5_1::.i r23_3::tp 32 [])), [(.box [(.s p0.Name), (.l enc_GField p0.Fields)])], 0⟩ <| Sx <| Wm (.i r23_3) rfl <| Wz (.b (decide (r23_3 ≠ 0))) (Obn rfl (fun _ => hb_neq (k := .i64))) <| Nk 33554534 1 ⟨tp 1 (.l enc_GValue p1::.loc 0 0::tp 2 (.i y5_1::.i r23_3::tp 18 (.b (decide (r23_3 ≠ 0))::tp 13 []))), [(.box [(.s p0.Name), (.l enc_GField p0.Fields)])], 0⟩ ?_
    rcases tf_ (decide (r23_3 ≠ 0)) with hc25_7 | hc25_7
    ·
     replace hm := cT hc25_7 hm
     refine AiT hc25_7 <| Sx <| Wm (.i r23_3) rfl <| Wm (.i r23_3) rfl <| Nn <| Rt <| Tr <| Ir <| Tr <| RoundK.ret <| Ir <| Tr ?_
     obtain rfl := Option.some.inj hm
     exact ret_i []
    ·
     replace hm := cF hc25_7 hm
     refine AiF hc25_7 <| Sk <| Tk 38 1 ⟨tp 1 (.l enc_GValue p1::.loc 0 0::tp 2 (.i y5_1::tp 33 [])), [(.box [(.s p0.Name), (.l enc_GField p0.Fields)])], 0⟩ <| Sq <| Adr <| Wm (.l enc_GValue p1) rfl <| Wm (.i y5_1) rfl ?_
     obtain ⟨x29_4, hx29_4, hm⟩ := bnd hm
     obtain ⟨hx29_4i, hx29_4g⟩ := geti_some hx29_4
     refine Wz (.d (.ref (List.drop ((Int.toNat y5_1) * 4) (flatD enc_GValue p1)))) (Oia rfl enc_GValue_len hx29_4i hx29_4g) <| Wz (.d (.ref (List.drop ((Int.toNat y5_1) * 4) (flatD enc_GValue p1)))) (Ofa rfl) <| Wz (.y x29_4.Kind) (Lf1 rfl enc_GValue_len hx29_4g) <| Wz (.loc 0 1) (Ofa rfl) <| Wz (.l enc_GField p0.Fields) (Old rfl) <| Wm (.i y5_1) rfl ?_
     obtain ⟨x35_4, hx35_4, hm⟩ := bnd hm
     obtain ⟨hx35_4i, hx35_4g⟩ := geti_some hx35_4
     refine Wz (.d (.ref (List.drop ((Int.toNat y5_1) * 2) (flatD enc_GField p0.Fields)))) (Oia rfl enc_GField_len hx35_4i hx35_4g) <| Wz (.d (.ref (List.drop 1 (List.drop ((Int.toNat y5_1) * 2) (flatD enc_GField p0.Fields))))) (Ofa rfl) <| Wz (.y x35_4.Kind) (Lfk1 1 rfl enc_GField_len hx35_4g) <| Wz (.b (decide (((x29_4.Kind.toNat : Nat) : Int) ≠ ((x35_4.Kind.toNat : Nat) : Int)))) (Ob2 (.int .u8 ((x29_4.Kind.toNat : Nat) : Int)) (.int .u8 ((x35_4.Kind.toNat : Nat) : Int)) rfl (fun _ => hb_neq)) <| Wdr <| Tk 274877906982 1 ⟨tp 1 (.l enc_GValue p1::.loc 0 0::tp 2 (.i y5_1::tp 32 (.b (decide (((x29_4.Kind.toNat : Nat) : Int) ≠ ((x35_4.Kind.toNat : Nat) : Int)))::[]))), [(.box [(.s p0.Name), (.l enc_GField p0.Fields)])], 0⟩ ?_
     rcases tf_ (decide (((x29_4.Kind.toNat : Nat) : Int) ≠ ((x35_4.Kind.toNat : Nat) : Int))) with hc38_8 | hc38_8
     ·
      replace hm := cT hc38_8 hm
      refine AiT hc38_8 <| Sx <| Wm (.i 19) rfl <| Nn <| Rt <| Ir <| Tr <| RoundK.ret <| Ir <| Tr ?_
      obtain rfl := Option.some.inj hm
      exact ret_i []
     ·
      replace hm := cF hc38_8 hm
      refine AiF hc38_8 <| Sk <| Ino <| Tk 38 1 ⟨tp 1 (.l enc_GValue p1::.loc 0 0::tp 2 (.i y5_1::tp 33 [])), [(.box [(.s p0.Name), (.l enc_GField p0.Fields)])], 0⟩ <| Tx <| Wm (.i y5_1) rfl <| Wz (.i (W6 (y5_1 + 1))) (Obn rfl (fun _ => hb_add (k := .i64))) <| Wm (.i (W6 (y5_1 + 1))) rfl <| Wn0 <| RoundK.normal ?_
      exact Rounds.weak (Weak.toK 38 0 0 [0]) (ih_1 (fu_1, (W6 (y5_1 + 1))) hm (Nat.lt_succ_self _))
   ·
    replace hm := cF hc16_6 hm
    refine AiF hc16_6 <| AWP.exit <| Then.exit <| RoundK.exit <| InBlock.same <| Tk 0 0 ⟨tp 39 [], [.gone], 0⟩ <| Sx <| Wm (.i 0) rfl <| Nn <| Rt ?_
    obtain rfl := Option.some.inj hm
    exact ret_i []

theorem ok_r07_Check (p0 : (List GType)) (p1 : GEvent) (r : Int) (h : m_r07_Check p0 p1 = some r) : GCall Tryd.prog 39 [(.l enc_GType p0), (.agg [(.i p1.Time), (.i p1.Source), (.i p1.Seq), (.s p1.Type_), (.l enc_GValue p1.Vals)])] [] (.i r) [] := by
 refine GCall.of_body (n := 51) (rs := [(.tmp 4)]) Tryd.func39 rfl rfl rfl <| Ato ⟨.l enc_GType p0::.agg [(.i p1.Time), (.i p1.Source), (.i p1.Seq), (.s p1.Type_), (.l enc_GValue p1.Vals)]::tu 49 [], [], 0⟩ ?_
 have hm := h
 unfold m_r07_Check at hm
 refine Sx <| Wy (.loc 0 0) [(0, (.box [(.i p1.Time), (.i p1.Source), (.i p1.Seq), (.s p1.Type_), (.l enc_GValue p1.Vals)]))] (Obx rfl) <| Wm (.i 0) rfl <| Nk 9 1 ⟨.l enc_GType p0::tp 2 (.loc 0 0::tp 47 []), [(.box [(.i p1.Time), (.i p1.Source), (.i p1.Seq), (.s p1.Type_), (.l enc_GValue p1.Vals)])], 0⟩ <| Sq <| Sx <| Wm (.l enc_GType p0) rfl ?_
 obtain ⟨r8_0, hr8_0, hm⟩ := bnd hm
 refine Wz (.i r8_0) (Ocf [] [] [] 0 (ok_r06_Check p0 r8_0 hr8_0) (fun a w => Tryd.call38 a w) rfl trivial) <| Wz (.b (decide (r8_0 ≠ 0))) (Obn rfl (fun _ => hb_neq (k := .i64))) <| Nk 521 1 ⟨.l enc_GType p0::tp 2 (.loc 0 0::tp 5 (.b (decide (r8_0 ≠ 0))::tp 41 [])), [(.box [(.i p1.Time), (.i p1.Source), (.i p1.Seq), (.s p1.Type_), (.l enc_GValue p1.Vals)])], 0⟩ ?_
 rcases tf_ (decide (r8_0 ≠ 0)) with hc9_5 | hc9_5
 ·
  replace hm := cT hc9_5 hm
  refine AiT hc9_5 <| Sx <| Wm (.i 2) rfl <| Nn <| Rt <| Tr ?_
  obtain rfl := Option.some.inj hm
  exact ret_i []
 ·
  replace hm := cF hc9_5 hm
  refine AiF hc9_5 <| Sk <| Tk 9 1 ⟨.l enc_GType p0::tp 2 (.loc 0 0::tp 47 []), [(.box [(.i p1.Time), (.i p1.Source), (.i p1.Seq), (.s p1.Type_), (.l enc_GValue p1.Vals)])], 0⟩ <| Sq ?_
  refine AWP.cutJ (α := Unit) (fun x => match x with | () => (⟨.l enc_GType p0::tp 2 (.loc 0 0::tp 33 (.b true::tp 13 [])), [(.box [(.i p1.Time), (.i p1.Source), (.i p1.Seq), (.s p1.Type_), (.l enc_GValue p1.Vals)])], 0⟩ : St)) (fun x => match x with | () => m_r07_Check_j2  = some r) ?_ (fun J2 => ?_)
  ·
   rintro ⟨⟩ hm
   try dsimp only at hm ⊢
   unfold m_r07_Check_j2 at hm
   refine AWP.if_ true (by kernel_rfl) <| Sx <| Wm (.i 8) rfl <| Nn <| Rt <| Tr ?_
   obtain rfl := Option.some.inj hm
   exact ret_i []
  refine Sx <| Wz (.loc 0 0) (Ofa rfl) <| Wz (.i p1.Time) (Old rfl) <| Wz (.b (decide (p1.Time < 0))) (Obn rfl (fun _ => hb_lss (k := .i64))) ?_
  rcases tf_ (decide (p1.Time < 0)) with hq13_1 | hq13_1
  ·
   replace hm := cT hq13_1 hm
   refine Wz (.b true) (Oq hq13_1 rfl) <| Wn <| Wn <| Wn <| Wz (.b true) (OpT rfl) <| Wm (.b true) rfl <| Wn <| Wn <| Wn <| Wz (.b true) (OpT rfl) <| Wm (.b true) rfl <| Wn <| Wn <| Wn ?_
   refine Wz (.b true) (OpT rfl) <| Wm (.b true) rfl <| Wn <| Wn <| Wn <| Wz (.b true) (OpT rfl) <| Wm (.b true) rfl <| Wn <| Wn <| Wn <| Wz (.b true) (OpT rfl) <| Nn ?_
   exact AWP.weak (Weak.toK 137438953481 0 0 [0]) (J2 () hm)
  ·
   replace hm := cF hq13_1 hm
   refine Wz (.b false) (Oq hq13_1 rfl) <| Wz (.loc 0 0) (Ofa rfl) <| Wz (.i p1.Time) (Old rfl) <| Wz (.b (decide ((1099511627776 : Int) < p1.Time))) (Obn rfl (fun _ => hb_gtr (k := .i64))) <| Wz (.b (decide ((1099511627776 : Int) < p1.Time))) (OpF rfl) ?_
   rcases tf_ (decide ((1099511627776 : Int) < p1.Time)) with hq18_1 | hq18_1
   ·
    replace hm := cT hq18_1 hm
    refine Wz (.b true) (Oq hq18_1 rfl) <| Wn <| Wn <| Wn <| Wz (.b true) (OpT rfl) <| Wm (.b true) rfl <| Wn <| Wn <| Wn <| Wz (.b true) (OpT rfl) <| Wm (.b true) rfl <| Wn <| Wn <| Wn ?_
    refine Wz (.b true) (OpT rfl) <| Wm (.b true) rfl <| Wn <| Wn <| Wn <| Wz (.b true) (OpT rfl) <| Nn ?_
    exact AWP.weak (Weak.toK 137438953481 0 0 [0]) (J2 () hm)
   ·
    replace hm := cF hq18_1 hm
    refine Wz (.b false) (Oq hq18_1 rfl) <| Wz (.loc 0 1) (Ofa rfl) <| Wz (.i p1.Source) (Old rfl) <| Wz (.b (decide (p1.Source < 0))) (Obn rfl (fun _ => hb_lss (k := .i64))) <| Wz (.b (decide (p1.Source < 0))) (OpF rfl) ?_
    rcases tf_ (decide (p1.Source < 0)) with hq23_1 | hq23_1
    ·
     replace hm := cT hq23_1 hm
     refine Wz (.b true) (Oq hq23_1 rfl) <| Wn <| Wn <| Wn <| Wz (.b true) (OpT rfl) <| Wm (.b true) rfl <| Wn <| Wn <| Wn <| Wz (.b true) (OpT rfl) <| Wm (.b true) rfl <| Wn <| Wn <| Wn ?_
     refine Wz (.b true) (OpT rfl) <| Nn ?_
     exact AWP.weak (Weak.toK 137438953481 0 0 [0]) (J2 () hm)
    ·
     replace hm := cF hq23_1 hm
     refine Wz (.b false) (Oq hq23_1 rfl) <| Wz (.loc 0 1) (Ofa rfl) <| Wz (.i p1.Source) (Old rfl) <| Wz (.b (decide ((16 : Int) ≤ p1.Source))) (Obn rfl (fun _ => hb_geq (k := .i64))) <| Wz (.b (decide ((16 : Int) ≤ p1.Source))) (OpF rfl) ?_
     rcases tf_ (decide ((16 : Int) ≤ p1.Source)) with hq28_1 | hq28_1
     ·
      replace hm := cT hq28_1 hm
      refine Wz (.b true) (Oq hq28_1 rfl) <| Wn <| Wn <| Wn <| Wz (.b true) (OpT rfl) <| Wm (.b true) rfl <| Wn <| Wn <| Wn <| Wz (.b true) (OpT rfl) <| Nn ?_
      exact AWP.weak (Weak.toK 137438953481 0 0 [0]) (J2 () hm)
     ·
      replace hm := cF hq28_1 hm
      refine Wz (.b false) (Oq hq28_1 rfl) <| Wz (.loc 0 2) (Ofa rfl) <| Wz (.i p1.Seq) (Old rfl) <| Wz (.b (decide (p1.Seq < 0))) (Obn rfl (fun _ => hb_lss (k := .i64))) <| Wz (.b (decide (p1.Seq < 0))) (OpF rfl) ?_
      rcases tf_ (decide (p1.Seq < 0)) with hq33_1 | hq33_1
      ·
       replace hm := cT hq33_1 hm
       refine Wz (.b true) (Oq hq33_1 rfl) <| Wn <| Wn <| Wn <| Wz (.b true) (OpT rfl) <| Nn ?_
       exact AWP.weak (Weak.toK 137438953481 0 0 [0]) (J2 () hm)
      ·
       replace hm := cF hq33_1 hm
       refine Wz (.b false) (Oq hq33_1 rfl) <| Wz (.loc 0 2) (Ofa rfl) <| Wz (.i p1.Seq) (Old rfl) <| Wz (.b (decide ((1099511627776 : Int) < p1.Seq))) (Obn rfl (fun _ => hb_gtr (k := .i64))) <| Wz (.b (decide ((1099511627776 : Int) < p1.Seq))) (OpF rfl) <| Nk 137438953481 1 ⟨.l enc_GType p0::tp 2 (.loc 0 0::tp 33 (.b (decide ((1099511627776 : Int) < p1.Seq))::tp 13 [])), [(.box [(.i p1.Time), (.i p1.Source), (.i p1.Seq), (.s p1.Type_), (.l enc_GValue p1.Vals)])], 0⟩ ?_
       rcases tf_ (decide ((1099511627776 : Int) < p1.Seq)) with hc37_6 | hc37_6
       ·
        replace hm := cT hc37_6 hm
        refine AiT hc37_6 <| Sx <| Wm (.i 8) rfl <| Nn <| Rt <| Tr ?_
        obtain rfl := Option.some.inj hm
        exact ret_i []
       ·
        replace hm := cF hc37_6 hm
        refine AiF hc37_6 <| Sk <| Tk 9 1 ⟨.l enc_GType p0::tp 2 (.loc 0 0::tp 47 []), [(.box [(.i p1.Time), (.i p1.Source), (.i p1.Seq), (.s p1.Type_), (.l enc_GValue p1.Vals)])], 0⟩ <| Sx <| Wm (.l enc_GType p0) rfl <| Wz (.loc 0 3) (Ofa rfl) <| Wz (.s p1.Type_) (Old rfl) ?_
        obtain ⟨r42_3, hr42_3, hm⟩ := bnd hm
        refine Wz (.tup [(.agg [(.s r42_3.1.Name), (.l enc_GField r42_3.1.Fields)]), (.b r42_3.2)]) (Ocf [] [] [] 0 (ok_r06_Find p0 p1.Type_ r42_3 hr42_3) (fun a w => Tryd.call64 a w) rfl trivial) <| Wm (.tup [(.agg [(.s r42_3.1.Name), (.l enc_GField r42_3.1.Fields)]), (.b r42_3.2)]) rfl <| Wz (.agg [(.s r42_3.1.Name), (.l enc_GField r42_3.1.Fields)]) (Oex rfl) <| Wz (.b r42_3.2) (Oex rfl) <| Wy (.loc 1 0) [(1, (.box [(.s ([] : List UInt8)), (.d .nil)]))] (Oal rfl) <| Wy (.tup []) [(1, (.box [(.s r42_3.1.Name), (.l enc_GField r42_3.1.Fields)]))] (Ost rfl) <| Wm (.b r42_3.2) rfl <| Nk 104 3 ⟨tp 3 (.loc 0 0::tp 1 (.loc 1 0::.b r42_3.2::tp 44 [])), [(.box [(.i p1.Time), (.i p1.Source), (.i p1.Seq), (.s p1.Type_), (.l enc_GValue p1.Vals)]), (.box [(.s r42_3.1.Name), (.l enc_GField r42_3.1.Fields)])], 0⟩ <| Sq <| Sx <| Wm (.b r42_3.2) rfl <| Wz (.b (!r42_3.2)) (Ocs (by kernel_rfl) (op_un rfl (a1 := .bool r42_3.2) (by kernel_rfl) (fun _ => hu_not))) <| Nk 70368744177704 3 ⟨tp 3 (.loc 0 0::tp 1 (.loc 1 0::tp 40 (.b (!r42_3.2)::tp 4 []))), [(.box [(.i p1.Time), (.i p1.Source), (.i p1.Seq), (.s p1.Type_), (.l enc_GValue p1.Vals)]), (.box [(.s r42_3.1.Name), (.l enc_GField r42_3.1.Fields)])], 0⟩ ?_
        rcases tf_ (!r42_3.2) with hc46_7 | hc46_7
        ·
         replace hm := cT hc46_7 hm
         refine AiT hc46_7 <| Sx <| Wm (.i 6) rfl <| Nn <| Rt <| Tr ?_
         obtain rfl := Option.some.inj hm
         exact ret_i []
        ·
         replace hm := cF hc46_7 hm
         refine AiF hc46_7 <| Sk <| Tk 40 3 ⟨tp 3 (.loc 0 0::tp 1 (.loc 1 0::tp 45 [])), [(.box [(.i p1.Time), (.i p1.Source), (.i p1.Seq), (.s p1.Type_), (.l enc_GValue p1.Vals)]), (.box [(.s r42_3.1.Name), (.l enc_GField r42_3.1.Fields)])], 0⟩ <| Sx <| Wz (.agg [(.s r42_3.1.Name), (.l enc_GField r42_3.1.Fields)]) (Old rfl) <| Wz (.loc 0 4) (Ofa rfl) <| Wz (.l enc_GValue p1.Vals) (Old rfl) ?_
         obtain ⟨r50_4, hr50_4, hm⟩ := bnd hm
         refine Wz (.i r50_4) (Ocf [] [] [] 0 (ok_r06_Fits r42_3.1 p1.Vals r50_4 hr50_4) (fun a w => Tryd.call65 a w) rfl trivial) <| Wm (.i r50_4) rfl <| Nn <| Rt ?_
         obtain rfl := Option.some.inj hm
         exact ret_i []

theorem ok_r07_Same (p0 : GEvent) (p1 : GEvent) (r : Bool) (h : m_r07_Same p0 p1 = some r) : GCall Tryd.prog 40 [(.agg [(.i p0.Time), (.i p0.Source), (.i p0.Seq), (.s p0.Type_), (.l enc_GValue p0.Vals)]), (.agg [(.i p1.Time), (.i p1.Source), (.i p1.Seq), (.s p1.Type_), (.l enc_GValue p1.Vals)])] [] (.b r) [] := by
 refine GCall.of_body (n := 59) (rs := [(.tmp 4)]) Tryd.func40 rfl rfl rfl <| Ato ⟨.agg [(.i p0.Time), (.i p0.Source), (.i p0.Seq), (.s p0.Type_), (.l enc_GValue p0.Vals)]::.agg [(.i p1.Time), (.i p1.Source), (.i p1.Seq), (.s p1.Type_), (.l enc_GValue p1.Vals)]::tu 57 [], [], 0⟩ ?_
 have hm := h
 unfold m_r07_Same at hm
 refine Sx <| Wy (.loc 0 0) [(0, (.box [(.i p0.Time), (.i p0.Source), (.i p0.Seq), (.s p0.Type_), (.l enc_GValue p0.Vals)]))] (Obx rfl) <| Wy (.loc 1 0) [(1, (.box [(.i p1.Time), (.i p1.Source), (.i p1.Seq), (.s p1.Type_), (.l enc_GValue p1.Vals)]))] (Obx rfl) <| Wm (.b false) rfl <| Nk 12 3 ⟨tp 2 (.loc 0 0::.loc 1 0::tp 55 []), [(.box [(.i p0.Time), (.i p0.Source), (.i p0.Seq), (.s p0.Type_), (.l enc_GValue p0.Vals)]), (.box [(.i p1.Time), (.i p1.Source), (.i p1.Seq), (.s p1.Type_), (.l enc_GValue p1.Vals)])], 0⟩ <| Sq ?_
 refine AWP.cutJ (α := Unit) (fun x => match x with | () => (⟨tp 2 (.loc 0 0::.loc 1 0::tp 36 (.b true::tp 18 [])), [(.box [(.i p0.Time), (.i p0.Source), (.i p0.Seq), (.s p0.Type_), (.l enc_GValue p0.Vals)]), (.box [(.i p1.Time), (.i p1.Source), (.i p1.Seq), (.s p1.Type_), (.l enc_GValue p1.Vals)])], 0⟩ : St)) (fun x => match x with | () => m_r07_Same_j1  = some r) ?_ (fun J1 => ?_)
 ·
  rintro ⟨⟩ hm
  try dsimp only at hm ⊢
  unfold m_r07_Same_j1 at hm
  refine AWP.if_ true (by kernel_rfl) <| Sx <| Wm (.b false) rfl <| Nn <| Rt <| Tr ?_
  obtain rfl := Option.some.inj hm
  exact ret_i []
 refine Sx <| Wz (.loc 0 0) (Ofa rfl) <| Wz (.i p0.Time) (Old rfl) <| Wz (.loc 1 0) (Ofa rfl) <| Wz (.i p1.Time) (Old rfl) <| Wz (.b (decide (p0.Time ≠ p1.Time))) (Obn rfl (fun _ => hb_neq (k := .i64))) ?_
 rcases tf_ (decide (p0.Time ≠ p1.Time)) with hq11_0 | hq11_0
 ·
  replace hm := cT hq11_0 hm
  refine Wz (.b true) (Oq hq11_0 rfl) <| Wn <| Wn <| Wn <| Wn <| Wn <| Wz (.b true) (OpT rfl) <| Wm (.b true) rfl <| Wn <| Wn <| Wn <| Wn <| Wn <| Wz (.b true) (OpT rfl) ?_
  refine Wm (.b true) rfl <| Wn <| Wn <| Wn <| Wn <| Wn <| Wz (.b true) (OpT rfl) <| Wm (.b true) rfl <| Wn <| Wn <| Wn <| Wn <| Wn <| Wn ?_
  refine Wn <| Wz (.b true) (OpT rfl) <| Nn ?_
  exact AWP.weak (Weak.toK 1099511627788 0 0 [0, 1]) (J1 () hm)
 ·
  replace hm := cF hq11_0 hm
  refine Wz (.b false) (Oq hq11_0 rfl) <| Wz (.loc 0 1) (Ofa rfl) <| Wz (.i p0.Source) (Old rfl) <| Wz (.loc 1 1) (Ofa rfl) <| Wz (.i p1.Source) (Old rfl) <| Wz (.b (decide (p0.Source ≠ p1.Source))) (Obn rfl (fun _ => hb_neq (k := .i64))) <| Wz (.b (decide (p0.Source ≠ p1.Source))) (OpF rfl) ?_
  rcases tf_ (decide (p0.Source ≠ p1.Source)) with hq18_0 | hq18_0
  ·
   replace hm := cT hq18_0 hm
   refine Wz (.b true) (Oq hq18_0 rfl) <| Wn <| Wn <| Wn <| Wn <| Wn <| Wz (.b true) (OpT rfl) <| Wm (.b true) rfl <| Wn <| Wn <| Wn <| Wn <| Wn <| Wz (.b true) (OpT rfl) ?_
   refine Wm (.b true) rfl <| Wn <| Wn <| Wn <| Wn <| Wn <| Wn <| Wn <| Wz (.b true) (OpT rfl) <| Nn ?_
   exact AWP.weak (Weak.toK 1099511627788 0 0 [0, 1]) (J1 () hm)
  ·
   replace hm := cF hq18_0 hm
   refine Wz (.b false) (Oq hq18_0 rfl) <| Wz (.loc 0 2) (Ofa rfl) <| Wz (.i p0.Seq) (Old rfl) <| Wz (.loc 1 2) (Ofa rfl) <| Wz (.i p1.Seq) (Old rfl) <| Wz (.b (decide (p0.Seq ≠ p1.Seq))) (Obn rfl (fun _ => hb_neq (k := .i64))) <| Wz (.b (decide (p0.Seq ≠ p1.Seq))) (OpF rfl) ?_
   rcases tf_ (decide (p0.Seq ≠ p1.Seq)) with hq25_0 | hq25_0
   ·
    replace hm := cT hq25_0 hm
    refine Wz (.b true) (Oq hq25_0 rfl) <| Wn <| Wn <| Wn <| Wn <| Wn <| Wz (.b true) (OpT rfl) <| Wm (.b true) rfl <| Wn <| Wn <| Wn <| Wn <| Wn <| Wn ?_
    refine Wn <| Wz (.b true) (OpT rfl) <| Nn ?_
    exact AWP.weak (Weak.toK 1099511627788 0 0 [0, 1]) (J1 () hm)
   ·
    replace hm := cF hq25_0 hm
    refine Wz (.b false) (Oq hq25_0 rfl) <| Wz (.loc 0 3) (Ofa rfl) <| Wz (.s p0.Type_) (Old rfl) <| Wz (.loc 1 3) (Ofa rfl) <| Wz (.s p1.Type_) (Old rfl) <| Wz (.b (decide (p0.Type_ ≠ p1.Type_))) (Ocs (lit_tf (by simp only [toS_inj, ne_eq])) (op_bin rfl (a1 := .string (toS p0.Type_)) (a2 := .string (toS p1.Type_)) (by kernel_rfl) (by kernel_rfl) (fun _ => hb_sneq))) <| Wz (.b (decide (p0.Type_ ≠ p1.Type_))) (OpF rfl) ?_
    rcases tf_ (decide (p0.Type_ ≠ p1.Type_)) with hq32_0 | hq32_0
    ·
     replace hm := cT hq32_0 hm
     refine Wz (.b true) (Oq hq32_0 rfl) <| Wn <| Wn <| Wn <| Wn <| Wn <| Wn <| Wn <| Wz (.b true) (OpT rfl) <| Nn ?_
     exact AWP.weak (Weak.toK 1099511627788 0 0 [0, 1]) (J1 () hm)
    ·
     replace hm := cF hq32_0 hm
     refine Wz (.b false) (Oq hq32_0 rfl) <| Wz (.loc 0 4) (Ofa rfl) <| Wz (.l enc_GValue p0.Vals) (Old rfl) <| Wz (.i ((List.length p0.Vals : Nat) : Int)) (Oln rfl) <| Wz (.loc 1 4) (Ofa rfl) <| Wz (.l enc_GValue p1.Vals) (Old rfl) <| Wz (.i ((List.length p1.Vals : Nat) : Int)) (Oln rfl) <| Wz (.b (decide (((List.length p0.Vals : Nat) : Int) ≠ ((List.length p1.Vals : Nat) : Int)))) (Obn rfl (fun _ => hb_neq (k := .i64))) <| Wz (.b (decide (((List.length p0.Vals : Nat) : Int) ≠ ((List.length p1.Vals : Nat) : Int)))) (OpF rfl) <| Nk 1099511627788 3 ⟨tp 2 (.loc 0 0::.loc 1 0::tp 36 (.b (decide (((List.length p0.Vals : Nat) : Int) ≠ ((List.length p1.Vals : Nat) : Int)))::tp 18 [])), [(.box [(.i p0.Time), (.i p0.Source), (.i p0.Seq), (.s p0.Type_), (.l enc_GValue p0.Vals)]), (.box [(.i p1.Time), (.i p1.Source), (.i p1.Seq), (.s p1.Type_), (.l enc_GValue p1.Vals)])], 0⟩ ?_
     rcases tf_ (decide (((List.length p0.Vals : Nat) : Int) ≠ ((List.length p1.Vals : Nat) : Int))) with hc40_5 | hc40_5
     ·
      replace hm := cT hc40_5 hm
      refine AiT hc40_5 <| Sx <| Wm (.b false) rfl <| Nn <| Rt <| Tr ?_
      obtain rfl := Option.some.inj hm
      exact ret_i []
     ·
      replace hm := cF hc40_5 hm
      refine AiF hc40_5 <| Sk <| Tk 12 3 ⟨tp 2 (.loc 0 0::.loc 1 0::tp 55 []), [(.box [(.i p0.Time), (.i p0.Source), (.i p0.Seq), (.s p0.Type_), (.l enc_GValue p0.Vals)]), (.box [(.i p1.Time), (.i p1.Source), (.i p1.Seq), (.s p1.Type_), (.l enc_GValue p1.Vals)])], 0⟩ <| Sq <| Sx <| Wm (.i 0) rfl <| Nk 44 3 ⟨tp 2 (.loc 0 0::.loc 1 0::tp 1 (.i 0::tp 53 [])), [(.box [(.i p0.Time), (.i p0.Source), (.i p0.Seq), (.s p0.Type_), (.l enc_GValue p0.Vals)]), (.box [(.i p1.Time), (.i p1.Source), (.i p1.Seq), (.s p1.Type_), (.l enc_GValue p1.Vals)])], 0⟩ <| Bk ?_
      refine AWP.loopI (α := Nat × Int)
        (fun (fu_2, y5_2) => (⟨tp 2 (.loc 0 0::.loc 1 0::tp 1 (.i y5_2::tp 53 [])), [(.box [(.i p0.Time), (.i p0.Source), (.i p0.Seq), (.s p0.Type_), (.l enc_GValue p0.Vals)]), (.box [(.i p1.Time), (.i p1.Source), (.i p1.Seq), (.s p1.Type_), (.l enc_GValue p1.Vals)])], 0⟩ : St))
        (fun (fu_2, y5_2) => m_r07_Same_l2 p0 p1 fu_2 y5_2 = some r)
        (fun (fu_2, y5_2) => fu_2) (1152921504606846976, 0)
        (Weak.toK 44 0 0 [0, 1]) hm ?_
      rintro ⟨fu_2, y5_2⟩ n_2 hm ih_2
      try dsimp only at hm ih_2 ⊢
      cases fu_2 with
      | zero => exact absurd hm (by unfold m_r07_Same_l2; simp)
      | succ fu_2 =>
       unfold m_r07_Same_l2 at hm
       refine Sq <| Sx <| Wm (.i y5_2) rfl <| Wz (.loc 0 4) (Ofa rfl) <| Wz (.l enc_GValue p0.Vals) (Old rfl) <| Wz (.i ((List.length p0.Vals : Nat) : Int)) (Oln rfl) <| Wz (.b (decide (y5_2 < ((List.length p0.Vals : Nat) : Int)))) (Obn rfl (fun _ => hb_lss (k := .i64))) <| Nk 35184372088876 3 ⟨tp 2 (.loc 0 0::.loc 1 0::tp 1 (.i y5_2::tp 39 (.b (decide (y5_2 < ((List.length p0.Vals : Nat) : Int)))::tp 13 []))), [(.box [(.i p0.Time), (.i p0.Source), (.i p0.Seq), (.s p0.Type_), (.l enc_GValue p0.Vals)]), (.box [(.i p1.Time), (.i p1.Source), (.i p1.Seq), (.s p1.Type_), (.l enc_GValue p1.Vals)])], 0⟩ ?_
       rcases tf_ (decide (y5_2 < ((List.length p0.Vals : Nat) : Int))) with hc45_6 | hc45_6
       ·
        replace hm := cT hc45_6 hm
        refine AiT hc45_6 <| Sk <| Tk 44 3 ⟨tp 2 (.loc 0 0::.loc 1 0::tp 1 (.i y5_2::tp 53 [])), [(.box [(.i p0.Time), (.i p0.Source), (.i p0.Seq), (.s p0.Type_), (.l enc_GValue p0.Vals)]), (.box [(.i p1.Time), (.i p1.Source), (.i p1.Seq), (.s p1.Type_), (.l enc_GValue p1.Vals)])], 0⟩ <| Sq <| Bk <| Sq <| Adr <| Wz (.loc 0 4) (Ofa rfl) <| Wz (.l enc_GValue p0.Vals) (Old rfl) <| Wm (.i y5_2) rfl ?_
        obtain ⟨x51_4, hx51_4, hm⟩ := bnd hm
        obtain ⟨hx51_4i, hx51_4g⟩ := geti_some hx51_4
        refine Wz (.d (.ref (List.drop ((Int.toNat y5_2) * 4) (flatD enc_GValue p0.Vals)))) (Oia rfl enc_GValue_len hx51_4i hx51_4g) <| Wz (.agg [(.y x51_4.Kind), (.i x51_4.N), (.u x51_4.Bits), (.s x51_4.Text)]) (Lf rfl enc_GValue_len hx51_4g) <| Wz (.loc 1 4) (Ofa rfl) <| Wz (.l enc_GValue p1.Vals) (Old rfl) <| Wm (.i y5_2) rfl ?_
        obtain ⟨x56_4, hx56_4, hm⟩ := bnd hm
        obtain ⟨hx56_4i, hx56_4g⟩ := geti_some hx56_4
        refine Wz (.d (.ref (List.drop ((Int.toNat y5_2) * 4) (flatD enc_GValue p1.Vals)))) (Oia rfl enc_GValue_len hx56_4i hx56_4g) <| Wz (.agg [(.y x56_4.Kind), (.i x56_4.N), (.u x56_4.Bits), (.s x56_4.Text)]) (Lf rfl enc_GValue_len hx56_4g) ?_
        obtain ⟨v58_4, hv58_4, hm⟩ := bnd hm; replace hv58_4 := Option.some.inj hv58_4
        refine Wz (.b v58_4) (Ocs (Eq.trans (lit_tf (by simp only [toS_inj])) (congrArg (fun z => A.d (.lit (.bool z))) hv58_4)) (op_neq_struct rfl (la := [(.y x51_4.Kind), (.i x51_4.N), (.u x51_4.Bits), (.s x51_4.Text)]) (lb := [(.y x56_4.Kind), (.i x56_4.N), (.u x56_4.Bits), (.s x56_4.Text)]) (us := [.int .u8 ((x51_4.Kind.toNat : Nat) : Int), .int .i64 x51_4.N, .int .u64 x51_4.Bits, .string (toS x51_4.Text)]) (vs := [.int .u8 ((x56_4.Kind.toNat : Nat) : Int), .int .i64 x56_4.N, .int .u64 x56_4.Bits, .string (toS x56_4.Text)]) (r := (decide (((x51_4.Kind.toNat : Nat) : Int) = ((x56_4.Kind.toNat : Nat) : Int)) && (decide (x51_4.N = x56_4.N) && (decide (x51_4.Bits = x56_4.Bits) && (decide ((toS x51_4.Text) = (toS x56_4.Text)) && true))))) (by kernel_rfl) (by kernel_rfl) (by kernel_rfl) (by kernel_rfl) (by kernel_rfl))) <| Wdr <| Tk 288230376151711788 3 ⟨tp 2 (.loc 0 0::.loc 1 0::tp 1 (.i y5_2::tp 52 (.b v58_4::[]))), [(.box [(.i p0.Time), (.i p0.Source), (.i p0.Seq), (.s p0.Type_), (.l enc_GValue p0.Vals)]), (.box [(.i p1.Time), (.i p1.Source), (.i p1.Seq), (.s p1.Type_), (.l enc_GValue p1.Vals)])], 0⟩ ?_
        rcases tf_ v58_4 with hc58_7 | hc58_7
        ·
         replace hm := cT hc58_7 hm
         refine AiT hc58_7 <| Sx <| Wm (.b false) rfl <| Nn <| Rt <| Ir <| Tr <| RoundK.ret <| Ir <| Tr ?_
         obtain rfl := Option.some.inj hm
         exact ret_i []
        ·
         replace hm := cF hc58_7 hm
         refine AiF hc58_7 <| Sk <| Ino <| Tk 44 3 ⟨tp 2 (.loc 0 0::.loc 1 0::tp 1 (.i y5_2::tp 53 [])), [(.box [(.i p0.Time), (.i p0.Source), (.i p0.Seq), (.s p0.Type_), (.l enc_GValue p0.Vals)]), (.box [(.i p1.Time), (.i p1.Source), (.i p1.Seq), (.s p1.Type_), (.l enc_GValue p1.Vals)])], 0⟩ <| Tx <| Wm (.i y5_2) rfl <| Wz (.i (W6 (y5_2 + 1))) (Obn rfl (fun _ => hb_add (k := .i64))) <| Wm (.i (W6 (y5_2 + 1))) rfl <| Wn0 <| RoundK.normal ?_
         exact Rounds.weak (Weak.toK 44 0 0 [0, 1]) (ih_2 (fu_2, (W6 (y5_2 + 1))) hm (Nat.lt_succ_self _))
       ·
        replace hm := cF hc45_6 hm
        refine AiF hc45_6 <| AWP.exit <| Then.exit <| RoundK.exit <| InBlock.same <| Tk 0 0 ⟨tp 59 [], [.gone, .gone], 0⟩ <| Sx <| Wm (.b true) rfl <| Nn <| Rt ?_
        obtain rfl := Option.some.inj hm
        exact ret_i []
end Go.Proofs.YtaaooafcijdbmaaDoor.K
