/- what telltalelaw08.HashParts needs (0) -/
import Derived.Test.YtpacbldefdggjaaLM
namespace Go.Proofs.Ytpacbldefdggjaa.K
open Go.RowKit Go.Lib
set_option linter.unusedVariables false
set_option linter.unusedSimpArgs false
set_option maxRecDepth 20000
set_option maxHeartbeats 4000000

theorem ok_hash_Add (p0 : Int) (p1 : (List UInt8)) (r : Int) (h : m_hash_Add p0 p1 = some r) : GCall Try.prog 8 [(.u p0), (.s p1)] [] (.u r) [] := by
 refine GCall.of_body (n := 20) (rs := [(.tmp 4)]) Try.func8 rfl rfl rfl <| Ato ⟨.u p0::.s p1::tu 18 [], [], 0⟩ ?_
 have hm := h
 unfold m_hash_Add at hm
 refine Sx <| Wm (.u 0) rfl <| Nk 3 0 ⟨.u p0::.s p1::tp 18 [], [], 0⟩ ?_
 refine AWP.scopeL (l := 0) (α := Nat × Int × Int)
   (fun (fu_0, y0_0, y5_0) => (⟨.u y0_0::.s p1::tp 3 (.i y5_0::tp 14 []), [], 0⟩ : St))
   (fun (fu_0, y0_0, y5_0) => m_hash_Add_l0 p1 fu_0 y0_0 y5_0 = some r)
   (fun (fu_0, y0_0, y5_0) => fu_0) (by rfl) ?_ ?_
 ·
  refine Tx <| Wm (.i 0) rfl <| Wn0 ?_
  exact ⟨(1152921504606846976, p0, 0), hm, Weak.toK 35 0 0 []⟩
 rintro ⟨fu_0, y0_0, y5_0⟩ hm
 try dsimp only at hm ⊢
 cases fu_0 with
 | zero => exact absurd hm (by unfold m_hash_Add_l0; simp)
 | succ fu_0 =>
  unfold m_hash_Add_l0 at hm
  refine Sq <| Sx <| Wm (.i y5_0) rfl <| Wm (.s p1) rfl <| Wz (.i ((List.length p1 : Nat) : Int)) (Oln rfl) <| Wz (.b (decide (y5_0 < ((List.length p1 : Nat) : Int)))) (Obn rfl (fun _ => hb_lss (k := .i64))) <| Nk 547 0 ⟨.u y0_0::.s p1::tp 3 (.i y5_0::tp 3 (.b (decide (y5_0 < ((List.length p1 : Nat) : Int)))::tp 10 [])), [], 0⟩ ?_
  rcases tf_ (decide (y5_0 < ((List.length p1 : Nat) : Int))) with hc9_3 | hc9_3
  ·
   replace hm := cT hc9_3 hm
   refine AiT hc9_3 <| Sx <| Wm (.u y0_0) rfl <| Wm (.s p1) rfl <| Wm (.i y5_0) rfl ?_
   obtain ⟨x13_2, hx13_2, hm⟩ := bnd hm
   obtain ⟨hx13_2i, hx13_2g⟩ := geti_some hx13_2
   refine Wz (.y x13_2) (Ocs (by kernel_rfl) (op_index_str rfl (by kernel_rfl) (s := toS p1) (by kernel_rfl) (k := .i64) (iv := y5_0) (by kernel_rfl) (i := (Int.toNat y5_0)) (hx13_2i) (b := x13_2) (hx13_2g))) <| Wz (.u ((x13_2.toNat : Nat) : Int)) (Ocs (lit_int (wrap_of_u8 (by decide) _)) (op_convert rfl (a1 := .int .u8 ((x13_2.toNat : Nat) : Int)) (by kernel_rfl) (run_conv (ds := .int .u8) (k' := .u64) (by kernel_rfl) (by kernel_rfl)))) <| Wz (.u (W7 (((BitVec.ofInt 64 y0_0 ^^^ BitVec.ofInt 64 ((x13_2.toNat : Nat) : Int)).toNat : Int)))) (Ob2 (.int .u64 y0_0) (.int .u64 ((x13_2.toNat : Nat) : Int)) rfl (fun _ => hb_xor)) ?_
   obtain ⟨v16_2, hv16_2, hm⟩ := bnd hm; replace hv16_2 := Option.some.inj hv16_2
   refine Wz (.u v16_2) (Ocs (congrArg (fun z => A.d (.lit (.int .u64 z))) hv16_2) (Obn rfl (fun _ => hb_mul (k := .u64)))) <| Wm (.u v16_2) rfl <| Nk 35 0 ⟨.u v16_2::.s p1::tp 3 (.i y5_0::tp 14 []), [], 0⟩ <| Sx <| Wm (.i y5_0) rfl <| Wz (.i (W6 (y5_0 + 1))) (Obn rfl (fun _ => hb_add (k := .i64))) <| Wm (.i (W6 (y5_0 + 1))) rfl <| Nk 35 0 ⟨.u v16_2::.s p1::tp 3 (.i (W6 (y5_0 + 1))::tp 14 []), [], 0⟩ <| AWP.goto <| Then.goto ?_
   exact ⟨rfl, (fu_0, v16_2, (W6 (y5_0 + 1))), hm, Nat.lt_succ_self _, Weak.toK 35 0 0 []⟩
  ·
   replace hm := cF hc9_3 hm
   refine AiF hc9_3 <| Sk <| Tk 1 0 ⟨.u y0_0::tp 19 [], [], 0⟩ <| Sx <| Wm (.u y0_0) rfl <| Wm (.u y0_0) rfl <| Nn <| Rt <| JmpK.ret ?_
   obtain rfl := Option.some.inj hm
   exact ret_i []

theorem ok_hash_Sum (p0 : (List UInt8)) (r : Int) (h : m_hash_Sum p0 = some r) : GCall Try.prog 10 [(.s p0)] [] (.u r) [] := by
 refine GCall.of_body (n := 5) (rs := [(.tmp 2)]) Try.func10 rfl rfl rfl <| Ato ⟨.s p0::tu 4 [], [], 0⟩ ?_
 have hm := h
 unfold m_hash_Sum at hm
 refine Sx <| Wm (.u 0) rfl <| Nk 1 0 ⟨.s p0::tp 4 [], [], 0⟩ <| Sx <| Wm (.s p0) rfl ?_
 obtain ⟨r4_0, hr4_0, hm⟩ := bnd hm
 refine Wz (.u r4_0) (Ocf [] [] [] 0 (ok_hash_Add 14695981039346656037 p0 r4_0 hr4_0) (fun a w => Try.call8 a w) rfl trivial) <| Wm (.u r4_0) rfl <| Nn <| Rt ?_
 obtain rfl := Option.some.inj hm
 exact ret_i []

theorem ok_value_OfInt (p0 : Int) (r : GValue) (h : m_value_OfInt p0 = some r) : GCall Try.prog 23 [(.i p0)] [] (.agg [(.y r.Kind), (.i r.N), (.u r.Bits), (.s r.Text)]) [] := by
 refine GCall.of_body (n := 7) (rs := [(.cell 2 33)]) Try.func23 rfl rfl rfl <| Ato ⟨.i p0::tu 6 [], [], 0⟩ ?_
 have hm := h
 unfold m_value_OfInt at hm
 refine Sx <| Wy (.loc 0 0) [(0, (.box [(.y 0), (.i 0), (.u 0), (.s ([] : List UInt8))]))] (Oal rfl) <| Nk 5 1 ⟨.i p0::tp 1 (.loc 0 0::tp 4 []), [(.box [(.y 0), (.i 0), (.u 0), (.s ([] : List UInt8))])], 0⟩ <| Sx <| Wm (.i p0) rfl <| Wz (.i (min p0 4611686018427387904)) (op_bi2 rfl (a1 := .int .i64 p0) (a2 := .int .i64 4611686018427387904) (by kernel_rfl) (by kernel_rfl) hb_min) <| Wz (.i (max (-4611686018427387904) (min p0 4611686018427387904))) (op_bi2 rfl (a1 := .int .i64 (-4611686018427387904)) (a2 := .int .i64 (min p0 4611686018427387904)) (by kernel_rfl) (by kernel_rfl) hb_max) <| Wz (.agg [(.y 1), (.i (max (-4611686018427387904) (min p0 4611686018427387904))), (.u 0), (.s ([] : List UInt8))]) (Obd rfl) <| Wy (.tup []) [(0, (.box [(.y 1), (.i (max (-4611686018427387904) (min p0 4611686018427387904))), (.u 0), (.s ([] : List UInt8))]))] (Ost rfl) <| Nn <| Rt ?_
 obtain rfl := Option.some.inj hm
 exact ret_i []

theorem ok_value_core (p0 : GValue) (r : Value) (h : m_value_core p0 = some r) : GCall Try.prog 26 [(.agg [(.y p0.Kind), (.i p0.N), (.u p0.Bits), (.s p0.Text)])] [] (.d (.lit r)) [] := by
 refine GCall.of_body (n := 25) (rs := [(.tmp 2)]) Try.func26 rfl rfl rfl <| Ato ⟨.agg [(.y p0.Kind), (.i p0.N), (.u p0.Bits), (.s p0.Text)]::tu 24 [], [], 0⟩ ?_
 have hm := h
 unfold m_value_core at hm
 refine Sx <| Wy (.loc 0 0) [(0, (.box [(.y p0.Kind), (.i p0.N), (.u p0.Bits), (.s p0.Text)]))] (Obx rfl) <| Wm (.d (.lit Value.nilIface)) rfl <| Nk 2 1 ⟨tp 1 (.loc 0 0::tp 23 []), [(.box [(.y p0.Kind), (.i p0.N), (.u p0.Bits), (.s p0.Text)])], 0⟩ <| Sq <| Sx <| Wz (.loc 0 0) (Ofa rfl) <| Wz (.y p0.Kind) (Old rfl) <| Nk 18 1 ⟨tp 1 (.loc 0 0::tp 2 (.y p0.Kind::tp 20 [])), [(.box [(.y p0.Kind), (.i p0.N), (.u p0.Bits), (.s p0.Text)])], 0⟩ <| Bk <| Sx <| Wz (.b (decide (((p0.Kind.toNat : Nat) : Int) = 1))) (Ob2 (.int .u8 ((p0.Kind.toNat : Nat) : Int)) (.int .u8 1) rfl (fun _ => hb_eql)) <| Wm (.b (decide (((p0.Kind.toNat : Nat) : Int) = 1))) rfl <| Nk 50 1 ⟨tp 1 (.loc 0 0::tp 2 (.y p0.Kind::.b (decide (((p0.Kind.toNat : Nat) : Int) = 1))::tp 19 [])), [(.box [(.y p0.Kind), (.i p0.N), (.u p0.Bits), (.s p0.Text)])], 0⟩ ?_
 rcases tf_ (decide (((p0.Kind.toNat : Nat) : Int) = 1)) with hc5_0 | hc5_0
 ·
  replace hm := cT hc5_0 hm
  refine AiT hc5_0 <| Sx <| Wz (.loc 0 1) (Ofa rfl) <| Wz (.i p0.N) (Old rfl) <| Wz (.d (.lit (Value.iface 54 (.int .i64 p0.N)))) (Oif rfl) <| Wm (.d (.lit (Value.iface 54 (.int .i64 p0.N)))) rfl <| Nn <| Rt <| Ir <| Tr ?_
  obtain rfl := Option.some.inj hm
  exact ret_i []
 ·
  replace hm := cF hc5_0 hm
  refine AiF hc5_0 <| Sx <| Wz (.b (decide (((p0.Kind.toNat : Nat) : Int) = 2))) (Ob2 (.int .u8 ((p0.Kind.toNat : Nat) : Int)) (.int .u8 2) rfl (fun _ => hb_eql)) <| Wm (.b (decide (((p0.Kind.toNat : Nat) : Int) = 2))) rfl <| Nk 1042 1 ⟨tp 1 (.loc 0 0::tp 2 (.y p0.Kind::tp 5 (.b (decide (((p0.Kind.toNat : Nat) : Int) = 2))::tp 14 []))), [(.box [(.y p0.Kind), (.i p0.N), (.u p0.Bits), (.s p0.Text)])], 0⟩ ?_
  rcases tf_ (decide (((p0.Kind.toNat : Nat) : Int) = 2)) with hc10_1 | hc10_1
  ·
   replace hm := cT hc10_1 hm
   refine AiT hc10_1 <| Sx <| Wz (.loc 0 1) (Ofa rfl) <| Wz (.i p0.N) (Old rfl) <| Wz (.d (.lit (Value.iface 55 (.int .i64 p0.N)))) (Oif rfl) <| Wm (.d (.lit (Value.iface 55 (.int .i64 p0.N)))) rfl <| Nn <| Rt <| Ir <| Tr ?_
   obtain rfl := Option.some.inj hm
   exact ret_i []
  ·
   replace hm := cF hc10_1 hm
   refine AiF hc10_1 <| Sx <| Wz (.b (decide (((p0.Kind.toNat : Nat) : Int) = 3))) (Ob2 (.int .u8 ((p0.Kind.toNat : Nat) : Int)) (.int .u8 3) rfl (fun _ => hb_eql)) <| Wm (.b (decide (((p0.Kind.toNat : Nat) : Int) = 3))) rfl <| Nk 32786 1 ⟨tp 1 (.loc 0 0::tp 2 (.y p0.Kind::tp 10 (.b (decide (((p0.Kind.toNat : Nat) : Int) = 3))::tp 9 []))), [(.box [(.y p0.Kind), (.i p0.N), (.u p0.Bits), (.s p0.Text)])], 0⟩ ?_
   rcases tf_ (decide (((p0.Kind.toNat : Nat) : Int) = 3)) with hc15_2 | hc15_2
   ·
    replace hm := cT hc15_2 hm
    refine AiT hc15_2 <| Sx <| Wz (.loc 0 2) (Ofa rfl) <| Wz (.u p0.Bits) (Old rfl) <| Wz (.d (.lit (Value.iface 56 (.int .u64 p0.Bits)))) (Oif rfl) <| Wm (.d (.lit (Value.iface 56 (.int .u64 p0.Bits)))) rfl <| Nn <| Rt <| Ir <| Tr ?_
    obtain rfl := Option.some.inj hm
    exact ret_i []
   ·
    replace hm := cF hc15_2 hm
    refine AiF hc15_2 <| Sx <| Wz (.b (decide (((p0.Kind.toNat : Nat) : Int) = 4))) (Ob2 (.int .u8 ((p0.Kind.toNat : Nat) : Int)) (.int .u8 4) rfl (fun _ => hb_eql)) <| Wm (.b (decide (((p0.Kind.toNat : Nat) : Int) = 4))) rfl <| Nk 1048578 1 ⟨tp 1 (.loc 0 0::tp 18 (.b (decide (((p0.Kind.toNat : Nat) : Int) = 4))::tp 4 [])), [(.box [(.y p0.Kind), (.i p0.N), (.u p0.Bits), (.s p0.Text)])], 0⟩ ?_
    rcases tf_ (decide (((p0.Kind.toNat : Nat) : Int) = 4)) with hc20_3 | hc20_3
    ·
     replace hm := cT hc20_3 hm
     refine AiT hc20_3 <| Sx <| Wz (.loc 0 3) (Ofa rfl) <| Wz (.s p0.Text) (Old rfl) <| Wz (.d (.lit (Value.iface 57 (.string (toS p0.Text))))) (Oif rfl) <| Wm (.d (.lit (Value.iface 57 (.string (toS p0.Text))))) rfl <| Nn <| Rt <| Ir <| Tr ?_
     obtain rfl := Option.some.inj hm
     exact ret_i []
    ·
     replace hm := cF hc20_3 hm
     refine AiF hc20_3 <| Sk <| Ino <| Tk 0 0 ⟨tp 25 [], [.gone], 0⟩ <| Sx <| Wm (.d (.lit Value.nilIface)) rfl <| Nn <| Rt ?_
     obtain rfl := Option.some.inj hm
     exact ret_i []

theorem ok_real_of (p0 : Int) (r : Nat) (h : m_real_of p0 = some r) : GCall Try.prog 35 [(.u p0)] [] (.d (.lit (.float .f64 r))) [] := by
 refine GCall.of_body (n := 5) (rs := [(.tmp 2)]) Try.func35 rfl rfl rfl <| Ato ⟨.u p0::tu 4 [], [], 0⟩ ?_
 have hm := h
 unfold m_real_of at hm
 refine Sx <| Wm (.d (.lit (.float .f64 0))) rfl <| Nk 1 0 ⟨.u p0::tp 4 [], [], 0⟩ <| Sx <| Wm (.u p0) rfl <| Wz (.d (.lit (.float .f64 (Int.toNat p0)))) (Ofb (f := 42) (fun _ => by kernel_rfl) rfl) <| Wm (.d (.lit (.float .f64 (Int.toNat p0)))) rfl <| Nn <| Rt ?_
 obtain rfl := Option.some.inj hm
 exact ret_i []

theorem ok_real_Clean (p0 : Int) (r : Int) (h : m_real_Clean p0 = some r) : GCall Try.prog 27 [(.u p0)] [] (.u r) [] := by
 refine GCall.of_body (n := 10) (rs := [(.tmp 2)]) Try.func27 rfl rfl rfl <| Ato ⟨.u p0::tu 9 [], [], 0⟩ ?_
 have hm := h
 unfold m_real_Clean at hm
 refine Sx <| Wm (.u 0) rfl <| Nk 1 0 ⟨.u p0::tp 9 [], [], 0⟩ <| Sq <| Sx <| Wm (.u p0) rfl ?_
 obtain ⟨r5_0, hr5_0, hm⟩ := bnd hm
 refine Wz (.d (.lit (.float .f64 r5_0))) (Ocf [] [] [] 0 (ok_real_of p0 r5_0 hr5_0) (fun a w => Try.call35 a w) rfl trivial) <| Wm (.d (.lit (.float .f64 r5_0))) rfl <| Nk 9 0 ⟨.u p0::tp 2 (.d (.lit (.float .f64 r5_0))::tp 6 []), [], 0⟩ <| Sx <| Wm (.d (.lit (.float .f64 r5_0))) rfl <| Wm (.d (.lit (.float .f64 r5_0))) rfl <| Wz (.b (fne r5_0 r5_0)) (op_bin rfl (a1 := .float .f64 r5_0) (a2 := .float .f64 r5_0) (by kernel_rfl) (by kernel_rfl) (fun _ => hb_fneq)) <| Nk 257 0 ⟨.u p0::tp 7 (.b (fne r5_0 r5_0)::tp 1 []), [], 0⟩ ?_
 rcases tf_ (fne r5_0 r5_0) with hc8_1 | hc8_1
 ·
  replace hm := cT hc8_1 hm
  refine AiT hc8_1 <| Sx <| Wm (.u 9221120237041090560) rfl <| Nn <| Rt <| Tr ?_
  obtain rfl := Option.some.inj hm
  exact ret_i []
 ·
  replace hm := cF hc8_1 hm
  refine AiF hc8_1 <| Sk <| Tk 1 0 ⟨.u p0::tp 9 [], [], 0⟩ <| Sx <| Wm (.u p0) rfl <| Wm (.u p0) rfl <| Nn <| Rt ?_
  obtain rfl := Option.some.inj hm
  exact ret_i []

theorem ok_value_number_whole (p0 : Int) (r : GValue) (h : m_value_number_whole p0 = some r) : GCall Try.prog 63 [(.i p0)] [] (.agg [(.y r.Kind), (.i r.N), (.u r.Bits), (.s r.Text)]) [] := by
 refine GCall.of_body (n := 5) (rs := [(.cell 2 33)]) Try.func63 rfl rfl rfl <| Ato ⟨.i p0::tu 4 [], [], 0⟩ ?_
 have hm := h
 unfold m_value_number_whole at hm
 refine Sx <| Wy (.loc 0 0) [(0, (.box [(.y 0), (.i 0), (.u 0), (.s ([] : List UInt8))]))] (Oal rfl) <| Nk 5 1 ⟨.i p0::tp 1 (.loc 0 0::tp 2 []), [(.box [(.y 0), (.i 0), (.u 0), (.s ([] : List UInt8))])], 0⟩ <| Sx <| Wm (.i p0) rfl <| Wz (.agg [(.y 1), (.i p0), (.u 0), (.s ([] : List UInt8))]) (Obd rfl) <| Wy (.tup []) [(0, (.box [(.y 1), (.i p0), (.u 0), (.s ([] : List UInt8))]))] (Ost rfl) <| Nn <| Rt ?_
 obtain rfl := Option.some.inj hm
 exact ret_i []

theorem ok_value_flag_whole (p0 : Int) (r : GValue) (h : m_value_flag_whole p0 = some r) : GCall Try.prog 64 [(.i p0)] [] (.agg [(.y r.Kind), (.i r.N), (.u r.Bits), (.s r.Text)]) [] := by
 refine GCall.of_body (n := 5) (rs := [(.cell 2 33)]) Try.func64 rfl rfl rfl <| Ato ⟨.i p0::tu 4 [], [], 0⟩ ?_
 have hm := h
 unfold m_value_flag_whole at hm
 refine Sx <| Wy (.loc 0 0) [(0, (.box [(.y 0), (.i 0), (.u 0), (.s ([] : List UInt8))]))] (Oal rfl) <| Nk 5 1 ⟨.i p0::tp 1 (.loc 0 0::tp 2 []), [(.box [(.y 0), (.i 0), (.u 0), (.s ([] : List UInt8))])], 0⟩ <| Sx <| Wm (.i p0) rfl <| Wz (.agg [(.y 2), (.i p0), (.u 0), (.s ([] : List UInt8))]) (Obd rfl) <| Wy (.tup []) [(0, (.box [(.y 2), (.i p0), (.u 0), (.s ([] : List UInt8))]))] (Ost rfl) <| Nn <| Rt ?_
 obtain rfl := Option.some.inj hm
 exact ret_i []

theorem ok_value_double_whole (p0 : Int) (r : GValue) (h : m_value_double_whole p0 = some r) : GCall Try.prog 65 [(.u p0)] [] (.agg [(.y r.Kind), (.i r.N), (.u r.Bits), (.s r.Text)]) [] := by
 refine GCall.of_body (n := 5) (rs := [(.cell 2 33)]) Try.func65 rfl rfl rfl <| Ato ⟨.u p0::tu 4 [], [], 0⟩ ?_
 have hm := h
 unfold m_value_double_whole at hm
 refine Sx <| Wy (.loc 0 0) [(0, (.box [(.y 0), (.i 0), (.u 0), (.s ([] : List UInt8))]))] (Oal rfl) <| Nk 5 1 ⟨.u p0::tp 1 (.loc 0 0::tp 2 []), [(.box [(.y 0), (.i 0), (.u 0), (.s ([] : List UInt8))])], 0⟩ <| Sx <| Wm (.u p0) rfl <| Wz (.agg [(.y 3), (.i 0), (.u p0), (.s ([] : List UInt8))]) (Obd rfl) <| Wy (.tup []) [(0, (.box [(.y 3), (.i 0), (.u p0), (.s ([] : List UInt8))]))] (Ost rfl) <| Nn <| Rt ?_
 obtain rfl := Option.some.inj hm
 exact ret_i []

theorem ok_value_words_whole (p0 : (List UInt8)) (r : GValue) (h : m_value_words_whole p0 = some r) : GCall Try.prog 66 [(.s p0)] [] (.agg [(.y r.Kind), (.i r.N), (.u r.Bits), (.s r.Text)]) [] := by
 refine GCall.of_body (n := 5) (rs := [(.cell 2 33)]) Try.func66 rfl rfl rfl <| Ato ⟨.s p0::tu 4 [], [], 0⟩ ?_
 have hm := h
 unfold m_value_words_whole at hm
 refine Sx <| Wy (.loc 0 0) [(0, (.box [(.y 0), (.i 0), (.u 0), (.s ([] : List UInt8))]))] (Oal rfl) <| Nk 5 1 ⟨.s p0::tp 1 (.loc 0 0::tp 2 []), [(.box [(.y 0), (.i 0), (.u 0), (.s ([] : List UInt8))])], 0⟩ <| Sx <| Wm (.s p0) rfl <| Wz (.agg [(.y 4), (.i 0), (.u 0), (.s p0)]) (Obd rfl) <| Wy (.tup []) [(0, (.box [(.y 4), (.i 0), (.u 0), (.s p0)]))] (Ost rfl) <| Nn <| Rt ?_
 obtain rfl := Option.some.inj hm
 exact ret_i []

theorem ok_value_Check (p0 : GValue) (r : Int) (h : m_value_Check p0 = some r) : GCall Try.prog 22 [(.agg [(.y p0.Kind), (.i p0.N), (.u p0.Bits), (.s p0.Text)])] [] (.i r) [] := by
 refine GCall.of_body (n := 47) (rs := [(.tmp 2)]) Try.func22 rfl rfl rfl <| Ato ⟨.agg [(.y p0.Kind), (.i p0.N), (.u p0.Bits), (.s p0.Text)]::tu 46 [], [], 0⟩ ?_
 have hm := h
 unfold m_value_Check at hm
 refine Sx <| Wy (.loc 0 0) [(0, (.box [(.y p0.Kind), (.i p0.N), (.u p0.Bits), (.s p0.Text)]))] (Obx rfl) <| Wm (.i 0) rfl <| Nk 2 1 ⟨tp 1 (.loc 0 0::tp 45 []), [(.box [(.y p0.Kind), (.i p0.N), (.u p0.Bits), (.s p0.Text)])], 0⟩ <| Sx <| Wz (.agg [(.y p0.Kind), (.i p0.N), (.u p0.Bits), (.s p0.Text)]) (Old rfl) ?_
 obtain ⟨r10_0, hr10_0, hm⟩ := bnd hm
 refine Wz (.d (.lit r10_0)) (Ocf [] [] [] 0 (ok_value_core p0 r10_0 hr10_0) (fun a w => Try.call26 a w) rfl trivial) <| Wm (.d (.lit r10_0)) rfl <| Nk 10 1 ⟨tp 1 (.loc 0 0::tp 1 (.d (.lit r10_0)::tp 43 [])), [(.box [(.y p0.Kind), (.i p0.N), (.u p0.Bits), (.s p0.Text)])], 0⟩ ?_
 refine AWP.cutJ (α := Unit) (fun x => match x with | () => (⟨tp 1 (.loc 0 0::tp 1 (.d (.lit r10_0)::tp 43 [])), [(.box [(.y p0.Kind), (.i p0.N), (.u p0.Bits), (.s p0.Text)])], 0⟩ : St)) (fun x => match x with | () => m_value_Check_j9 p0 r10_0 = some r) ?_ (fun J9 => ?_)
 ·
  rintro ⟨⟩ hm
  try dsimp only at hm ⊢
  unfold m_value_Check_j9 at hm
  refine Sq ?_
  refine AWP.cutJ (α := Bool) (fun x => match x with | y46_11 => (⟨tp 46 (.b y46_11::[]), [], 0⟩ : St)) (fun x => match x with | y46_11 => m_value_Check_j11  y46_11 = some r) ?_ (fun J11 => ?_)
  ·
   rintro y46_11 hm
   try dsimp only at hm ⊢
   unfold m_value_Check_j11 at hm
   rcases tf_ y46_11 with hc46_11 | hc46_11
   ·
    replace hm := cT hc46_11 hm
    refine AiT hc46_11 <| Sx <| Wm (.i 2) rfl <| Nn <| Rt <| Tr ?_
    obtain rfl := Option.some.inj hm
    exact ret_i []
   ·
    replace hm := cF hc46_11 hm
    refine AiF hc46_11 <| Sk <| Tk 0 0 ⟨tp 47 [], [], 0⟩ <| Sx <| Wm (.i 0) rfl <| Nn <| Rt ?_
    obtain rfl := Option.some.inj hm
    exact ret_i []
  refine Sq <| Adr <| Wm (.d (.lit r10_0)) rfl ?_
  rcases tf_ (isT 54 r10_0) with hq44_10_54 | hq44_10_54
  ·
   replace hm := cT hq44_10_54 hm
   obtain ⟨n44_10_54, hn44_10_54, hm⟩ := bnd hm
   obtain ⟨r44_10_54, hr44_10_54, hm⟩ := bnd hm
   have hi_r44_10_54 := inI_some hq44_10_54 hn44_10_54
   refine Wz (.agg [(.y r44_10_54.Kind), (.i r44_10_54.N), (.u r44_10_54.Bits), (.s r44_10_54.Text)]) (Oiv (t := 54) (u := .int .i64 n44_10_54) (ok_value_number_whole n44_10_54 r44_10_54 hr44_10_54) (by simp [A.Plain, A.Plains, D.Plain, byteD]) (fun a w => Try.call63 a w) (fun w => by kernel_rfl) rfl (Eq.trans (by kernel_rfl) (congrArg (fun z => A.d (.lit z)) hi_r44_10_54))) <| Wz (.agg [(.y p0.Kind), (.i p0.N), (.u p0.Bits), (.s p0.Text)]) (Old rfl) ?_
   obtain ⟨v46_10, hv46_10, hm⟩ := bnd hm; replace hv46_10 := Option.some.inj hv46_10
   refine Wz (.b v46_10) (Ocs (Eq.trans (lit_tf (by simp only [toS_inj])) (congrArg (fun z => A.d (.lit (.bool z))) hv46_10)) (op_neq_struct rfl (la := [(.y r44_10_54.Kind), (.i r44_10_54.N), (.u r44_10_54.Bits), (.s r44_10_54.Text)]) (lb := [(.y p0.Kind), (.i p0.N), (.u p0.Bits), (.s p0.Text)]) (us := [.int .u8 ((r44_10_54.Kind.toNat : Nat) : Int), .int .i64 r44_10_54.N, .int .u64 r44_10_54.Bits, .string (toS r44_10_54.Text)]) (vs := [.int .u8 ((p0.Kind.toNat : Nat) : Int), .int .i64 p0.N, .int .u64 p0.Bits, .string (toS p0.Text)]) (r := (decide (((r44_10_54.Kind.toNat : Nat) : Int) = ((p0.Kind.toNat : Nat) : Int)) && (decide (r44_10_54.N = p0.N) && (decide (r44_10_54.Bits = p0.Bits) && (decide ((toS r44_10_54.Text) = (toS p0.Text)) && true))))) (by kernel_rfl) (by kernel_rfl) (by kernel_rfl) (by kernel_rfl) (by kernel_rfl))) <| Wdr <| Tn ?_
   exact AWP.weak (Weak.toK 70368744177664 0 0 []) (J11 (v46_10) hm)
  ·
   replace hm := cF hq44_10_54 hm
   rcases tf_ (isT 55 r10_0) with hq44_10_55 | hq44_10_55
   ·
    replace hm := cT hq44_10_55 hm
    obtain ⟨n44_10_55, hn44_10_55, hm⟩ := bnd hm
    obtain ⟨r44_10_55, hr44_10_55, hm⟩ := bnd hm
    have hi_r44_10_55 := inI_some hq44_10_55 hn44_10_55
    refine Wz (.agg [(.y r44_10_55.Kind), (.i r44_10_55.N), (.u r44_10_55.Bits), (.s r44_10_55.Text)]) (Oiv (t := 55) (u := .int .i64 n44_10_55) (ok_value_flag_whole n44_10_55 r44_10_55 hr44_10_55) (by simp [A.Plain, A.Plains, D.Plain, byteD]) (fun a w => Try.call64 a w) (fun w => by kernel_rfl) rfl (Eq.trans (by kernel_rfl) (congrArg (fun z => A.d (.lit z)) hi_r44_10_55))) <| Wz (.agg [(.y p0.Kind), (.i p0.N), (.u p0.Bits), (.s p0.Text)]) (Old rfl) ?_
    obtain ⟨v46_10, hv46_10, hm⟩ := bnd hm; replace hv46_10 := Option.some.inj hv46_10
    refine Wz (.b v46_10) (Ocs (Eq.trans (lit_tf (by simp only [toS_inj])) (congrArg (fun z => A.d (.lit (.bool z))) hv46_10)) (op_neq_struct rfl (la := [(.y r44_10_55.Kind), (.i r44_10_55.N), (.u r44_10_55.Bits), (.s r44_10_55.Text)]) (lb := [(.y p0.Kind), (.i p0.N), (.u p0.Bits), (.s p0.Text)]) (us := [.int .u8 ((r44_10_55.Kind.toNat : Nat) : Int), .int .i64 r44_10_55.N, .int .u64 r44_10_55.Bits, .string (toS r44_10_55.Text)]) (vs := [.int .u8 ((p0.Kind.toNat : Nat) : Int), .int .i64 p0.N, .int .u64 p0.Bits, .string (toS p0.Text)]) (r := (decide (((r44_10_55.Kind.toNat : Nat) : Int) = ((p0.Kind.toNat : Nat) : Int)) && (decide (r44_10_55.N = p0.N) && (decide (r44_10_55.Bits = p0.Bits) && (decide ((toS r44_10_55.Text) = (toS p0.Text)) && true))))) (by kernel_rfl) (by kernel_rfl) (by kernel_rfl) (by kernel_rfl) (by kernel_rfl))) <| Wdr <| Tn ?_
    exact AWP.weak (Weak.toK 70368744177664 0 0 []) (J11 (v46_10) hm)
   ·
    replace hm := cF hq44_10_55 hm
    rcases tf_ (isT 56 r10_0) with hq44_10_56 | hq44_10_56
    ·
     replace hm := cT hq44_10_56 hm
     obtain ⟨n44_10_56, hn44_10_56, hm⟩ := bnd hm
     obtain ⟨r44_10_56, hr44_10_56, hm⟩ := bnd hm
     have hi_r44_10_56 := inI_some hq44_10_56 hn44_10_56
     refine Wz (.agg [(.y r44_10_56.Kind), (.i r44_10_56.N), (.u r44_10_56.Bits), (.s r44_10_56.Text)]) (Oiv (t := 56) (u := .int .u64 n44_10_56) (ok_value_double_whole n44_10_56 r44_10_56 hr44_10_56) (by simp [A.Plain, A.Plains, D.Plain, byteD]) (fun a w => Try.call65 a w) (fun w => by kernel_rfl) rfl (Eq.trans (by kernel_rfl) (congrArg (fun z => A.d (.lit z)) hi_r44_10_56))) <| Wz (.agg [(.y p0.Kind), (.i p0.N), (.u p0.Bits), (.s p0.Text)]) (Old rfl) ?_
     obtain ⟨v46_10, hv46_10, hm⟩ := bnd hm; replace hv46_10 := Option.some.inj hv46_10
     refine Wz (.b v46_10) (Ocs (Eq.trans (lit_tf (by simp only [toS_inj])) (congrArg (fun z => A.d (.lit (.bool z))) hv46_10)) (op_neq_struct rfl (la := [(.y r44_10_56.Kind), (.i r44_10_56.N), (.u r44_10_56.Bits), (.s r44_10_56.Text)]) (lb := [(.y p0.Kind), (.i p0.N), (.u p0.Bits), (.s p0.Text)]) (us := [.int .u8 ((r44_10_56.Kind.toNat : Nat) : Int), .int .i64 r44_10_56.N, .int .u64 r44_10_56.Bits, .string (toS r44_10_56.Text)]) (vs := [.int .u8 ((p0.Kind.toNat : Nat) : Int), .int .i64 p0.N, .int .u64 p0.Bits, .string (toS p0.Text)]) (r := (decide (((r44_10_56.Kind.toNat : Nat) : Int) = ((p0.Kind.toNat : Nat) : Int)) && (decide (r44_10_56.N = p0.N) && (decide (r44_10_56.Bits = p0.Bits) && (decide ((toS r44_10_56.Text) = (toS p0.Text)) && true))))) (by kernel_rfl) (by kernel_rfl) (by kernel_rfl) (by kernel_rfl) (by kernel_rfl))) <| Wdr <| Tn ?_
     exact AWP.weak (Weak.toK 70368744177664 0 0 []) (J11 (v46_10) hm)
    ·
     replace hm := cF hq44_10_56 hm
     rcases tf_ (isT 57 r10_0) with hq44_10_57 | hq44_10_57
     ·
      replace hm := cT hq44_10_57 hm
      obtain ⟨n44_10_57, hn44_10_57, hm⟩ := bnd hm
      obtain ⟨r44_10_57, hr44_10_57, hm⟩ := bnd hm
      have hi_r44_10_57 := inS_some hq44_10_57 hn44_10_57
      refine Wz (.agg [(.y r44_10_57.Kind), (.i r44_10_57.N), (.u r44_10_57.Bits), (.s r44_10_57.Text)]) (Oiv (t := 57) (u := .string (toS n44_10_57)) (ok_value_words_whole n44_10_57 r44_10_57 hr44_10_57) (by simp [A.Plain, A.Plains, D.Plain, byteD]) (fun a w => Try.call66 a w) (fun w => by kernel_rfl) rfl (Eq.trans (by kernel_rfl) (congrArg (fun z => A.d (.lit z)) hi_r44_10_57))) <| Wz (.agg [(.y p0.Kind), (.i p0.N), (.u p0.Bits), (.s p0.Text)]) (Old rfl) ?_
      obtain ⟨v46_10, hv46_10, hm⟩ := bnd hm; replace hv46_10 := Option.some.inj hv46_10
      refine Wz (.b v46_10) (Ocs (Eq.trans (lit_tf (by simp only [toS_inj])) (congrArg (fun z => A.d (.lit (.bool z))) hv46_10)) (op_neq_struct rfl (la := [(.y r44_10_57.Kind), (.i r44_10_57.N), (.u r44_10_57.Bits), (.s r44_10_57.Text)]) (lb := [(.y p0.Kind), (.i p0.N), (.u p0.Bits), (.s p0.Text)]) (us := [.int .u8 ((r44_10_57.Kind.toNat : Nat) : Int), .int .i64 r44_10_57.N, .int .u64 r44_10_57.Bits, .string (toS r44_10_57.Text)]) (vs := [.int .u8 ((p0.Kind.toNat : Nat) : Int), .int .i64 p0.N, .int .u64 p0.Bits, .string (toS p0.Text)]) (r := (decide (((r44_10_57.Kind.toNat : Nat) : Int) = ((p0.Kind.toNat : Nat) : Int)) && (decide (r44_10_57.N = p0.N) && (decide (r44_10_57.Bits = p0.Bits) && (decide ((toS r44_10_57.Text) = (toS p0.Text)) && true))))) (by kernel_rfl) (by kernel_rfl) (by kernel_rfl) (by kernel_rfl) (by kernel_rfl))) <| Wdr <| Tn ?_
      exact AWP.weak (Weak.toK 70368744177664 0 0 []) (J11 (v46_10) hm)
     ·
      replace hm := cF hq44_10_57 hm
      exact nomatch hm
 refine Sq <| Sx <| Wm (.d (.lit r10_0)) rfl <| Nk 2058 1 ⟨tp 1 (.loc 0 0::tp 1 (.d (.lit r10_0)::tp 7 (.d (.lit r10_0)::tp 35 []))), [(.box [(.y p0.Kind), (.i p0.N), (.u p0.Bits), (.s p0.Text)])], 0⟩ <| Bk <| Sx ?_
 obtain ⟨z12_1, hz12_1, hm⟩ := bnd hm
 refine Wz (.tup [(.i z12_1.1), (.b z12_1.2)]) (OtI hz12_1 rfl) <| Wz (.b z12_1.2) (Oex rfl) <| Wz (.i z12_1.1) (Oex rfl) <| Nk 26634 1 ⟨tp 1 (.loc 0 0::tp 1 (.d (.lit r10_0)::tp 7 (.d (.lit r10_0)::tp 1 (.b z12_1.2::.i z12_1.1::tp 32 [])))), [(.box [(.y p0.Kind), (.i p0.N), (.u p0.Bits), (.s p0.Text)])], 0⟩ ?_
 rcases tf_ z12_1.2 with hc13_12 | hc13_12
 ·
  replace hm := cT hc13_12 hm
  refine AiT hc13_12 <| Sx <| Wm (.i z12_1.1) rfl <| Nk 26 1 ⟨tp 1 (.loc 0 0::tp 1 (.d (.lit r10_0)::.i z12_1.1::tp 42 [])), [(.box [(.y p0.Kind), (.i p0.N), (.u p0.Bits), (.s p0.Text)])], 0⟩ <| Sx <| Wm (.i z12_1.1) rfl <| Wz (.b (decide (z12_1.1 < (-4611686018427387904)))) (Obn rfl (fun _ => hb_lss (k := .i64))) ?_
  rcases tf_ (decide (z12_1.1 < (-4611686018427387904))) with hq17_2 | hq17_2
  ·
   replace hm := cT hq17_2 hm
   refine Wz (.b true) (Oq hq17_2 rfl) <| Wn <| Wn <| Wz (.b true) (OpT rfl) <| Nk 1048586 1 ⟨tp 1 (.loc 0 0::tp 1 (.d (.lit r10_0)::tp 16 (.b true::tp 26 []))), [(.box [(.y p0.Kind), (.i p0.N), (.u p0.Bits), (.s p0.Text)])], 0⟩ <| AWP.if_ true (by kernel_rfl) <| Sx <| Wm (.i 8) rfl <| Nn <| Rt <| Ir <| Tr ?_
   obtain rfl := Option.some.inj hm
   exact ret_i []
  ·
   replace hm := cF hq17_2 hm
   refine Wz (.b false) (Oq hq17_2 rfl) <| Wm (.i z12_1.1) rfl <| Wz (.b (decide ((4611686018427387904 : Int) < z12_1.1))) (Obn rfl (fun _ => hb_gtr (k := .i64))) <| Wz (.b (decide ((4611686018427387904 : Int) < z12_1.1))) (OpF rfl) <| Nk 1048586 1 ⟨tp 1 (.loc 0 0::tp 1 (.d (.lit r10_0)::tp 16 (.b (decide ((4611686018427387904 : Int) < z12_1.1))::tp 26 []))), [(.box [(.y p0.Kind), (.i p0.N), (.u p0.Bits), (.s p0.Text)])], 0⟩ ?_
   rcases tf_ (decide ((4611686018427387904 : Int) < z12_1.1)) with hc20_13 | hc20_13
   ·
    replace hm := cT hc20_13 hm
    refine AiT hc20_13 <| Sx <| Wm (.i 8) rfl <| Nn <| Rt <| Ir <| Tr ?_
    obtain rfl := Option.some.inj hm
    exact ret_i []
   ·
    replace hm := cF hc20_13 hm
    refine AiF hc20_13 <| Sk <| Ino <| Tn ?_
    exact AWP.weak (Weak.toK 10 0 0 [0]) (J9 () hm)
 ·
  replace hm := cF hc13_12 hm
  refine AiF hc13_12 <| Sx ?_
  obtain ⟨z21_3, hz21_3, hm⟩ := bnd hm
  refine Wz (.tup [(.i z21_3.1), (.b z21_3.2)]) (OtI hz21_3 rfl) <| Wz (.b z21_3.2) (Oex rfl) <| Wz (.i z21_3.1) (Oex rfl) <| Nk 12584970 1 ⟨tp 1 (.loc 0 0::tp 1 (.d (.lit r10_0)::tp 7 (.d (.lit r10_0)::tp 10 (.b z21_3.2::.i z21_3.1::tp 23 [])))), [(.box [(.y p0.Kind), (.i p0.N), (.u p0.Bits), (.s p0.Text)])], 0⟩ ?_
  rcases tf_ z21_3.2 with hc22_14 | hc22_14
  ·
   replace hm := cT hc22_14 hm
   refine AiT hc22_14 <| Sx <| Wm (.i z21_3.1) rfl <| Nk 42 1 ⟨tp 1 (.loc 0 0::tp 1 (.d (.lit r10_0)::tp 1 (.i z21_3.1::tp 41 []))), [(.box [(.y p0.Kind), (.i p0.N), (.u p0.Bits), (.s p0.Text)])], 0⟩ <| Sx <| Wm (.i z21_3.1) rfl <| Wz (.b (decide (z21_3.1 ≠ 0))) (Obn rfl (fun _ => hb_neq (k := .i64))) ?_
   rcases tf_ (decide (z21_3.1 ≠ 0)) with hq26_4 | hq26_4
   ·
    replace hm := cT hq26_4 hm
    refine Wz (.b true) (Oq hq26_4 rfl) <| Wm (.i z21_3.1) rfl <| Wz (.b (decide (z21_3.1 ≠ 1))) (Obn rfl (fun _ => hb_neq (k := .i64))) <| Wz (.b (decide (z21_3.1 ≠ 1))) (OpT rfl) <| Nk 536870922 1 ⟨tp 1 (.loc 0 0::tp 1 (.d (.lit r10_0)::tp 25 (.b (decide (z21_3.1 ≠ 1))::tp 17 []))), [(.box [(.y p0.Kind), (.i p0.N), (.u p0.Bits), (.s p0.Text)])], 0⟩ ?_
    rcases tf_ (decide (z21_3.1 ≠ 1)) with hc29_15 | hc29_15
    ·
     replace hm := cT hc29_15 hm
     refine AiT hc29_15 <| Sx <| Wm (.i 8) rfl <| Nn <| Rt <| Ir <| Tr ?_
     obtain rfl := Option.some.inj hm
     exact ret_i []
    ·
     replace hm := cF hc29_15 hm
     refine AiF hc29_15 <| Sk <| Ino <| Tn ?_
     exact AWP.weak (Weak.toK 10 0 0 [0]) (J9 () hm)
   ·
    replace hm := cF hq26_4 hm
    refine Wz (.b false) (Oq hq26_4 rfl) <| Wn <| Wn <| Wz (.b false) (OpF rfl) <| Nk 536870922 1 ⟨tp 1 (.loc 0 0::tp 1 (.d (.lit r10_0)::tp 25 (.b false::tp 17 []))), [(.box [(.y p0.Kind), (.i p0.N), (.u p0.Bits), (.s p0.Text)])], 0⟩ <| AWP.if_ false (by kernel_rfl) <| Sk <| Ino <| Tn ?_
    exact AWP.weak (Weak.toK 10 0 0 [0]) (J9 () hm)
  ·
   replace hm := cF hc22_14 hm
   refine AiF hc22_14 <| Sx ?_
   obtain ⟨z30_5, hz30_5, hm⟩ := bnd hm
   refine Wz (.tup [(.u z30_5.1), (.b z30_5.2)]) (OtI hz30_5 rfl) <| Wz (.b z30_5.2) (Oex rfl) <| Wz (.u z30_5.1) (Oex rfl) <| Nk 6442453002 1 ⟨tp 1 (.loc 0 0::tp 1 (.d (.lit r10_0)::tp 7 (.d (.lit r10_0)::tp 19 (.b z30_5.2::.u z30_5.1::tp 14 [])))), [(.box [(.y p0.Kind), (.i p0.N), (.u p0.Bits), (.s p0.Text)])], 0⟩ ?_
   rcases tf_ z30_5.2 with hc31_16 | hc31_16
   ·
    replace hm := cT hc31_16 hm
    refine AiT hc31_16 <| Sx <| Wm (.u z30_5.1) rfl <| Nk 74 1 ⟨tp 1 (.loc 0 0::tp 1 (.d (.lit r10_0)::tp 2 (.u z30_5.1::tp 40 []))), [(.box [(.y p0.Kind), (.i p0.N), (.u p0.Bits), (.s p0.Text)])], 0⟩ <| Sx <| Wm (.u z30_5.1) rfl ?_
    obtain ⟨r34_6, hr34_6, hm⟩ := bnd hm
    refine Wz (.u r34_6) (Ocf [] [] [] 0 (ok_real_Clean z30_5.1 r34_6 hr34_6) (fun a w => Try.call27 a w) rfl trivial) <| Wm (.u z30_5.1) rfl <| Wz (.b (decide (r34_6 ≠ z30_5.1))) (Obn rfl (fun _ => hb_neq (k := .u64))) <| Nk 68719476746 1 ⟨tp 1 (.loc 0 0::tp 1 (.d (.lit r10_0)::tp 32 (.b (decide (r34_6 ≠ z30_5.1))::tp 10 []))), [(.box [(.y p0.Kind), (.i p0.N), (.u p0.Bits), (.s p0.Text)])], 0⟩ ?_
    rcases tf_ (decide (r34_6 ≠ z30_5.1)) with hc36_17 | hc36_17
    ·
     replace hm := cT hc36_17 hm
     refine AiT hc36_17 <| Sx <| Wm (.i 4) rfl <| Nn <| Rt <| Ir <| Tr ?_
     obtain rfl := Option.some.inj hm
     exact ret_i []
    ·
     replace hm := cF hc36_17 hm
     refine AiF hc36_17 <| Sk <| Ino <| Tn ?_
     exact AWP.weak (Weak.toK 10 0 0 [0]) (J9 () hm)
   ·
    replace hm := cF hc31_16 hm
    refine AiF hc31_16 <| Sx ?_
    obtain ⟨z37_7, hz37_7, hm⟩ := bnd hm
    refine Wz (.tup [(.s z37_7.1), (.b z37_7.2)]) (OtS hz37_7 rfl) <| Wz (.b z37_7.2) (Oex rfl) <| Wz (.s z37_7.1) (Oex rfl) <| Nk 824633722890 1 ⟨tp 1 (.loc 0 0::tp 1 (.d (.lit r10_0)::tp 7 (.d (.lit r10_0)::tp 26 (.b z37_7.2::.s z37_7.1::tp 7 [])))), [(.box [(.y p0.Kind), (.i p0.N), (.u p0.Bits), (.s p0.Text)])], 0⟩ ?_
    rcases tf_ z37_7.2 with hc38_18 | hc38_18
    ·
     replace hm := cT hc38_18 hm
     refine AiT hc38_18 <| Sx <| Wm (.s z37_7.1) rfl <| Nk 138 1 ⟨tp 1 (.loc 0 0::tp 1 (.d (.lit r10_0)::tp 3 (.s z37_7.1::tp 39 []))), [(.box [(.y p0.Kind), (.i p0.N), (.u p0.Bits), (.s p0.Text)])], 0⟩ <| Sx <| Wm (.s z37_7.1) rfl <| Wz (.i ((List.length z37_7.1 : Nat) : Int)) (Oln rfl) <| Wz (.b (decide ((24 : Int) < ((List.length z37_7.1 : Nat) : Int)))) (Obn rfl (fun _ => hb_gtr (k := .i64))) <| Nk 4398046511114 1 ⟨tp 1 (.loc 0 0::tp 1 (.d (.lit r10_0)::tp 38 (.b (decide ((24 : Int) < ((List.length z37_7.1 : Nat) : Int)))::tp 4 []))), [(.box [(.y p0.Kind), (.i p0.N), (.u p0.Bits), (.s p0.Text)])], 0⟩ ?_
     rcases tf_ (decide ((24 : Int) < ((List.length z37_7.1 : Nat) : Int))) with hc42_19 | hc42_19
     ·
      replace hm := cT hc42_19 hm
      refine AiT hc42_19 <| Sx <| Wm (.i 5) rfl <| Nn <| Rt <| Ir <| Tr ?_
      obtain rfl := Option.some.inj hm
      exact ret_i []
     ·
      replace hm := cF hc42_19 hm
      refine AiF hc42_19 <| Sk <| Ino <| Tn ?_
      exact AWP.weak (Weak.toK 10 0 0 [0]) (J9 () hm)
    ·
     replace hm := cF hc38_18 hm
     refine AiF hc38_18 <| Sx <| Wm (.d (.lit r10_0)) rfl <| Nk 0 0 ⟨tp 47 [], [.gone], 0⟩ <| Sx <| Wm (.i 11) rfl <| Nn <| Rt <| Ir <| Tr ?_
     obtain rfl := Option.some.inj hm
     exact ret_i []

theorem ok_zig_Fold (p0 : Int) (r : Int) (h : m_zig_Fold p0 = some r) : GCall Try.prog 36 [(.i p0)] [] (.u r) [] := by
 refine GCall.of_body (n := 10) (rs := [(.tmp 2)]) Try.func36 rfl rfl rfl <| Ato ⟨.i p0::tu 9 [], [], 0⟩ ?_
 have hm := h
 unfold m_zig_Fold at hm
 refine Sx <| Wm (.u 0) rfl <| Nk 1 0 ⟨.i p0::tp 9 [], [], 0⟩ <| Sx <| Wm (.i p0) rfl <| Wz (.u (W7 p0)) (Oc2 (.int .i64 p0) rfl (run_conv (ds := .int .i64) (k' := .u64) (by kernel_rfl) (by kernel_rfl))) <| Wz (.u (W7 ((W7 p0) * 2 ^ 1))) (Ob2 (.int .u64 (W7 p0)) (.int .u64 1) rfl (fun _ => hb_shl (n := 1) (by decide) rfl)) <| Wm (.i p0) rfl <| Wz (.i (Int.fdiv p0 (2 ^ 63))) (Ob2 (.int .i64 p0) (.int .u64 63) rfl (fun _ => hb_shr (n := 63) (by decide) rfl)) <| Wz (.u (W7 (Int.fdiv p0 (2 ^ 63)))) (Oc2 (.int .i64 (Int.fdiv p0 (2 ^ 63))) rfl (run_conv (ds := .int .i64) (k' := .u64) (by kernel_rfl) (by kernel_rfl))) ?_
 obtain ⟨v9_0, hv9_0, hm⟩ := bnd hm; replace hv9_0 := Option.some.inj hv9_0
 refine Wz (.u v9_0) (Ocs (Eq.trans (by kernel_rfl) (congrArg (fun z => A.d (.lit (.int .u64 z))) hv9_0)) (op_bin rfl (a1 := .int .u64 (W7 ((W7 p0) * 2 ^ 1))) (a2 := .int .u64 (W7 (Int.fdiv p0 (2 ^ 63)))) (by kernel_rfl) (by kernel_rfl) (fun _ => hb_xor))) <| Wm (.u v9_0) rfl <| Nn <| Rt ?_
 obtain rfl := Option.some.inj hm
 exact ret_i []

theorem ok_math_bits_Len64 (p0 : Int) (r : Int) (h : m_math_bits_Len64 p0 = some r) : GCall Try.prog 43 [(.u p0)] [] (.i r) [] := by
 refine GCall.of_body (n := 25) (rs := [(.tmp 2)]) Try.func43 rfl rfl rfl <| Ato ⟨.u p0::tu 24 [], [], 0⟩ ?_
 have hm := h
 unfold m_math_bits_Len64 at hm
 refine Sx <| Wm (.i 0) rfl <| Nk 5 0 ⟨.u p0::tp 1 (.i 0::tp 22 []), [], 0⟩ ?_
 refine AWP.cutJ (α := Int × Int) (fun (y0_0, y2_0) => (⟨.u y0_0::tp 1 (.i y2_0::tp 22 []), [], 0⟩ : St)) (fun (y0_0, y2_0) => m_math_bits_Len64_j0  y0_0 y2_0 = some r) ?_ (fun J0 => ?_)
 ·
  rintro ⟨y0_0, y2_0⟩ hm
  try dsimp only at hm ⊢
  unfold m_math_bits_Len64_j0 at hm
  refine AWP.cutJ (α := Int × Int) (fun (y0_1, y2_1) => (⟨.u y0_1::tp 1 (.i y2_1::tp 22 []), [], 0⟩ : St)) (fun (y0_1, y2_1) => m_math_bits_Len64_j1  y0_1 y2_1 = some r) ?_ (fun J1 => ?_)
  ·
   rintro ⟨y0_1, y2_1⟩ hm
   try dsimp only at hm ⊢
   unfold m_math_bits_Len64_j1 at hm
   refine AWP.cutJ (α := Int × Int) (fun (y0_2, y2_2) => (⟨.u y0_2::tp 1 (.i y2_2::tp 22 []), [], 0⟩ : St)) (fun (y0_2, y2_2) => m_math_bits_Len64_j2  y0_2 y2_2 = some r) ?_ (fun J2 => ?_)
   ·
    rintro ⟨y0_2, y2_2⟩ hm
    try dsimp only at hm ⊢
    unfold m_math_bits_Len64_j2 at hm
    refine Sx <| Wm (.i y2_2) rfl <| Wm (.u y0_2) rfl <| Wz (.y (toU8 y0_2)) (Ocs (lit_int (u8w _)) (op_convert rfl (a1 := .int .u64 y0_2) (by kernel_rfl) (run_conv (ds := .int .u64) (k' := .u8) (by kernel_rfl) (by kernel_rfl)))) ?_
    obtain ⟨x22_3, hx22_3, hm⟩ := bnd hm
    obtain ⟨hx22_3i, hx22_3g⟩ := geti_some hx22_3
    refine Wz (.y x22_3) (Ocs (by kernel_rfl) (op_index_str rfl (by kernel_rfl) (s := toS ([0, 1, 2, 2, 3, 3, 3, 3, 4, 4, 4, 4, 4, 4, 4, 4, 5, 5, 5, 5, 5, 5, 5, 5, 5, 5, 5, 5, 5, 5, 5, 5, 6, 6, 6, 6, 6, 6, 6, 6, 6, 6, 6, 6, 6, 6, 6, 6, 6, 6, 6, 6, 6, 6, 6, 6, 6, 6, 6, 6, 6, 6, 6, 6, 7, 7, 7, 7, 7, 7, 7, 7, 7, 7, 7, 7, 7, 7, 7, 7, 7, 7, 7, 7, 7, 7, 7, 7, 7, 7, 7, 7, 7, 7, 7, 7, 7, 7, 7, 7, 7, 7, 7, 7, 7, 7, 7, 7, 7, 7, 7, 7, 7, 7, 7, 7, 7, 7, 7, 7, 7, 7, 7, 7, 7, 7, 7, 7, 8, 8, 8, 8, 8, 8, 8, 8, 8, 8, 8, 8, 8, 8, 8, 8, 8, 8, 8, 8, 8, 8, 8, 8, 8, 8, 8, 8, 8, 8, 8, 8, 8, 8, 8, 8, 8, 8, 8, 8, 8, 8, 8, 8, 8, 8, 8, 8, 8, 8, 8, 8, 8, 8, 8, 8, 8, 8, 8, 8, 8, 8, 8, 8, 8, 8, 8, 8, 8, 8, 8, 8, 8, 8, 8, 8, 8, 8, 8, 8, 8, 8, 8, 8, 8, 8, 8, 8, 8, 8, 8, 8, 8, 8, 8, 8, 8, 8, 8, 8, 8, 8, 8, 8, 8, 8, 8, 8, 8, 8, 8, 8, 8, 8, 8, 8, 8, 8, 8, 8, 8, 8, 8, 8, 8, 8, 8, 8] : List UInt8)) (by kernel_rfl) (k := .u8) (iv := (((toU8 y0_2).toNat : Nat) : Int)) (by kernel_rfl) (i := (Int.toNat (((toU8 y0_2).toNat : Nat) : Int))) (hx22_3i) (b := x22_3) (hx22_3g))) <| Wz (.i ((x22_3.toNat : Nat) : Int)) (Ocs (lit_int (wrap_of_u8 (by decide) _)) (op_convert rfl (a1 := .int .u8 ((x22_3.toNat : Nat) : Int)) (by kernel_rfl) (run_conv (ds := .int .u8) (k' := .i64) (by kernel_rfl) (by kernel_rfl)))) <| Wz (.i (W6 (y2_2 + ((x22_3.toNat : Nat) : Int)))) (Obn rfl (fun _ => hb_add (k := .i64))) <| Wm (.i (W6 (y2_2 + ((x22_3.toNat : Nat) : Int)))) rfl <| Nn <| Rt ?_
    obtain rfl := Option.some.inj hm
    exact ret_i []
   refine Sq <| Sx <| Wm (.u y0_1) rfl <| Wz (.b (decide ((256 : Int) ≤ y0_1))) (Obn rfl (fun _ => hb_geq (k := .u64))) <| Nk 16389 0 ⟨.u y0_1::tp 1 (.i y2_1::tp 11 (.b (decide ((256 : Int) ≤ y0_1))::tp 10 [])), [], 0⟩ ?_
   rcases tf_ (decide ((256 : Int) ≤ y0_1)) with hc14_4 | hc14_4
   ·
    replace hm := cT hc14_4 hm
    refine AiT hc14_4 <| Sx <| Wm (.u y0_1) rfl <| Wz (.u (Int.fdiv y0_1 (2 ^ 8))) (Ob2 (.int .u64 y0_1) (.int .u64 8) rfl (fun _ => hb_shr (n := 8) (by decide) rfl)) <| Wm (.u (Int.fdiv y0_1 (2 ^ 8))) rfl <| Nk 5 0 ⟨.u (Int.fdiv y0_1 (2 ^ 8))::tp 1 (.i y2_1::tp 22 []), [], 0⟩ <| Tx <| Wm (.i y2_1) rfl <| Wz (.i (W6 (y2_1 + 8))) (Obn rfl (fun _ => hb_add (k := .i64))) <| Wm (.i (W6 (y2_1 + 8))) rfl <| Nn ?_
    exact AWP.weak (Weak.toK 5 0 0 []) (J2 ((Int.fdiv y0_1 (2 ^ 8)), (W6 (y2_1 + 8))) hm)
   ·
    replace hm := cF hc14_4 hm
    refine AiF hc14_4 <| Sk <| Tn ?_
    exact AWP.weak (Weak.toK 5 0 0 []) (J2 (y0_1, y2_1) hm)
  refine Sq <| Sx <| Wm (.u y0_0) rfl <| Wz (.b (decide ((65536 : Int) ≤ y0_0))) (Obn rfl (fun _ => hb_geq (k := .u64))) <| Nk 261 0 ⟨.u y0_0::tp 1 (.i y2_0::tp 5 (.b (decide ((65536 : Int) ≤ y0_0))::tp 16 [])), [], 0⟩ ?_
  rcases tf_ (decide ((65536 : Int) ≤ y0_0)) with hc8_5 | hc8_5
  ·
   replace hm := cT hc8_5 hm
   refine AiT hc8_5 <| Sx <| Wm (.u y0_0) rfl <| Wz (.u (Int.fdiv y0_0 (2 ^ 16))) (Ob2 (.int .u64 y0_0) (.int .u64 16) rfl (fun _ => hb_shr (n := 16) (by decide) rfl)) <| Wm (.u (Int.fdiv y0_0 (2 ^ 16))) rfl <| Nk 5 0 ⟨.u (Int.fdiv y0_0 (2 ^ 16))::tp 1 (.i y2_0::tp 22 []), [], 0⟩ <| Tx <| Wm (.i y2_0) rfl <| Wz (.i (W6 (y2_0 + 16))) (Obn rfl (fun _ => hb_add (k := .i64))) <| Wm (.i (W6 (y2_0 + 16))) rfl <| Nn ?_
   exact AWP.weak (Weak.toK 5 0 0 []) (J1 ((Int.fdiv y0_0 (2 ^ 16)), (W6 (y2_0 + 16))) hm)
  ·
   replace hm := cF hc8_5 hm
   refine AiF hc8_5 <| Sk <| Tn ?_
   exact AWP.weak (Weak.toK 5 0 0 []) (J1 (y0_0, y2_0) hm)
 refine Sq <| Sx <| Wm (.u p0) rfl <| Wz (.b (decide ((4294967296 : Int) ≤ p0))) (Obn rfl (fun _ => hb_geq (k := .u64))) <| Nk 21 0 ⟨.u p0::tp 1 (.i 0::tp 1 (.b (decide ((4294967296 : Int) ≤ p0))::tp 20 [])), [], 0⟩ ?_
 rcases tf_ (decide ((4294967296 : Int) ≤ p0)) with hc4_6 | hc4_6
 ·
  replace hm := cT hc4_6 hm
  refine AiT hc4_6 <| Sx <| Wm (.u p0) rfl <| Wz (.u (Int.fdiv p0 (2 ^ 32))) (Ob2 (.int .u64 p0) (.int .u64 32) rfl (fun _ => hb_shr (n := 32) (by decide) rfl)) <| Wm (.u (Int.fdiv p0 (2 ^ 32))) rfl <| Nk 1 0 ⟨.u (Int.fdiv p0 (2 ^ 32))::tp 24 [], [], 0⟩ <| Tx <| Wm (.i 32) rfl <| Nn ?_
  exact AWP.weak (Weak.toK 5 0 0 []) (J0 ((Int.fdiv p0 (2 ^ 32)), 32) hm)
 ·
  replace hm := cF hc4_6 hm
  refine AiF hc4_6 <| Sk <| Tn ?_
  exact AWP.weak (Weak.toK 5 0 0 []) (J0 (p0, 0) hm)

theorem ok_zig_Size (p0 : Int) (r : Int) (h : m_zig_Size p0 = some r) : GCall Try.prog 39 [(.u p0)] [] (.i r) [] := by
 refine GCall.of_body (n := 9) (rs := [(.tmp 2)]) Try.func39 rfl rfl rfl <| Ato ⟨.u p0::tu 8 [], [], 0⟩ ?_
 have hm := h
 unfold m_zig_Size at hm
 refine Sx <| Wm (.i 0) rfl <| Nk 1 0 ⟨.u p0::tp 8 [], [], 0⟩ <| Sx <| Wm (.u p0) rfl ?_
 obtain ⟨r4_0, hr4_0, hm⟩ := bnd hm
 refine Wz (.i r4_0) (Ocf [] [] [] 0 (ok_math_bits_Len64 p0 r4_0 hr4_0) (fun a w => Try.call43 a w) rfl trivial) <| Wz (.i (W6 (r4_0 + 7))) (Obn rfl (fun _ => hb_add (k := .i64))) <| Wz (.i (W6 ((W6 (r4_0 + 7)) - 1))) (Obn rfl (fun _ => hb_sub (k := .i64))) <| Wz (.i (W6 (Int.tdiv (W6 ((W6 (r4_0 + 7)) - 1)) 7))) (Ob2 (.int .i64 (W6 ((W6 (r4_0 + 7)) - 1))) (.int .i64 7) rfl (fun _ => hb_quo (by decide))) <| Wz (.i (max 1 (W6 (Int.tdiv (W6 ((W6 (r4_0 + 7)) - 1)) 7)))) (op_bi2 rfl (a1 := .int .i64 1) (a2 := .int .i64 (W6 (Int.tdiv (W6 ((W6 (r4_0 + 7)) - 1)) 7))) (by kernel_rfl) (by kernel_rfl) hb_max) <| Wm (.i (max 1 (W6 (Int.tdiv (W6 ((W6 (r4_0 + 7)) - 1)) 7)))) rfl <| Nn <| Rt ?_
 obtain rfl := Option.some.inj hm
 exact ret_i []

theorem ok_zig_Put (p0 : (List UInt8)) (p1 : Int) (r : (List UInt8)) (h : m_zig_Put p0 p1 = some r) : GCall Try.prog 30 [(.l encU8 p0), (.u p1)] [] (.own 0) [(Ar 5 1 encU8 r)] := by
 refine GCall.of_body (n := 41) (rs := [(.tmp 4)]) Try.func30 rfl rfl rfl <| Ato ⟨.l encU8 p0::.u p1::tu 39 [], [], 0⟩ ?_
 have hm := h
 unfold m_zig_Put at hm
 refine Sx <| Wm (.d .nil) rfl <| Nk 3 0 ⟨.l encU8 p0::.u p1::tp 39 [], [], 0⟩ <| Sx <| Wm (.u p1) rfl ?_
 obtain ⟨r10_0, hr10_0, hm⟩ := bnd hm
 refine Wz (.i r10_0) (Ocf [] [] [] 0 (ok_zig_Size p1 r10_0 hr10_0) (fun a w => Try.call39 a w) rfl trivial) <| Wm (.i r10_0) rfl <| Nk 35 0 ⟨.l encU8 p0::.u p1::tp 3 (.i r10_0::tp 35 []), [], 0⟩ <| Sx <| Wm (.l encU8 p0) rfl <| Wz (.i ((List.length p0 : Nat) : Int)) (Oln rfl) <| Wm (.i r10_0) rfl <| Wz (.i (W6 (((List.length p0 : Nat) : Int) + r10_0))) (Obn rfl (fun _ => hb_add (k := .i64))) ?_
 obtain ⟨m15_1, hm15_1, hm⟩ := bnd hm; obtain ⟨hm15_1i, hm15_1j, hm15_1l, hm15_1k, hm15_1e⟩ := mkc_some hm15_1
 refine Wy (.own 0) [(0, (Ar 5 1 encU8 m15_1))] (OcB (op_makeC rfl elemOK_39 (by kernel_rfl) (kl := .i64) (kc := .i64) (L := 0) (C := (IntKind.i64.wrap (((List.length p0 : Nat) : Int) + r10_0))) (by kernel_rfl) (by kernel_rfl) (n := Int.toNat 0) (cp := Int.toNat (IntKind.i64.wrap (((List.length p0 : Nat) : Int) + r10_0))) hm15_1i hm15_1j hm15_1l (by omega) (by kernel_rfl)) (bl_one (by rw [hm15_1e]; simp) (by rw [hm15_1e]; exact (flat_rep (by kernel_rfl))))) <| Wm (.own 0) rfl <| Nk 99 1 ⟨.l encU8 p0::.u p1::tp 3 (.i r10_0::.own 0::tp 34 []), [(Ar 5 1 encU8 m15_1)], 0⟩ <| Sx <| Wm (.own 0) rfl <| Wm (.l encU8 p0) rfl ?_
 obtain ⟨a18_2, ha18_2, hm⟩ := bnd hm; obtain ⟨ha18_2e, ha18_2l⟩ := app_some ha18_2
 refine Wy (.own 1) [(0, .gone), (1, (Ar 5 1 encU8 a18_2))] (Oap rfl elemOK_39 encU8_len ha18_2e ha18_2l) <| Wm (.own 1) rfl <| Nk 98 2 ⟨tp 1 (.u p1::tp 3 (.i r10_0::.own 1::tp 34 [])), [.gone, (Ar 5 1 encU8 a18_2)], 0⟩ <| Sq <| Sx <| Wm (.i r10_0) rfl <| Wm (.i 0) rfl <| Nk 1572962 2 ⟨tp 1 (.u p1::tp 3 (.i r10_0::.own 1::tp 12 (.i r10_0::.i 0::tp 20 []))), [.gone, (Ar 5 1 encU8 a18_2)], 0⟩ <| Bk ?_
 refine AWP.loopI (α := Nat × (List UInt8) × Int)
   (fun (fu_3, y6_3, y20_3) => (⟨tp 1 (.u p1::tp 3 (.i r10_0::.own 0::tp 12 (.i r10_0::.i y20_3::tp 20 []))), [(Ar 5 1 encU8 y6_3)], 0⟩ : St))
   (fun (fu_3, y6_3, y20_3) => m_zig_Put_l3 p1 r10_0 fu_3 y6_3 y20_3 = some r)
   (fun (fu_3, y6_3, y20_3) => fu_3) (1152921504606846976, a18_2, 0)
   (Weak.toK 1572962 0 0 [1]) hm ?_
 rintro ⟨fu_3, y6_3, y20_3⟩ n_3 hm ih_3
 try dsimp only at hm ih_3 ⊢
 cases fu_3 with
 | zero => exact absurd hm (by unfold m_zig_Put_l3; simp)
 | succ fu_3 =>
  unfold m_zig_Put_l3 at hm
  refine Sx <| Wz (.b (decide (y20_3 < r10_0))) (Obn rfl (fun _ => hb_lss (k := .i64))) <| Nk 3670114 1 ⟨tp 1 (.u p1::tp 3 (.i r10_0::.own 0::tp 12 (.i r10_0::.i y20_3::.b (decide (y20_3 < r10_0))::tp 19 []))), [(Ar 5 1 encU8 y6_3)], 0⟩ <| Sq ?_
  rcases tf_ (decide (y20_3 < r10_0)) with hc21_6 | hc21_6
  ·
   replace hm := cT hc21_6 hm
   refine AiT hc21_6 <| Sk <| Tk 1572962 1 ⟨tp 1 (.u p1::tp 3 (.i r10_0::.own 0::tp 12 (.i r10_0::.i y20_3::tp 20 []))), [(Ar 5 1 encU8 y6_3)], 0⟩ <| Sq <| Bk <| Sx <| Wm (.i y20_3) rfl <| Wm (.i y20_3) rfl <| Nk 1573090 1 ⟨tp 1 (.u p1::tp 3 (.i r10_0::.own 0::.i y20_3::tp 11 (.i r10_0::.i y20_3::tp 20 []))), [(Ar 5 1 encU8 y6_3)], 0⟩ <| Sx <| Wm (.u p1) rfl <| Wm (.i y20_3) rfl <| Wz (.i (W6 (7 * y20_3))) (Obn rfl (fun _ => hb_mul (k := .i64))) ?_
   obtain ⟨hs26_4, hm⟩ := chk_some hm
   refine Wz (.u (Int.fdiv p1 (2 ^ (Int.toNat (W6 (7 * y20_3)))))) (Ob2 (.int .u64 p1) (.int .i64 (W6 (7 * y20_3))) rfl (fun _ => hb_shr (n := (Int.toNat (W6 (7 * y20_3)))) (sh_le hs26_4.2) (sh_eq hs26_4.1))) <| Wz (.y (toU8 (Int.fdiv p1 (2 ^ (Int.toNat (W6 (7 * y20_3))))))) (Ocs (lit_int (u8w _)) (op_convert rfl (a1 := .int .u64 (Int.fdiv p1 (2 ^ (Int.toNat (W6 (7 * y20_3)))))) (by kernel_rfl) (run_conv (ds := .int .u64) (k' := .u8) (by kernel_rfl) (by kernel_rfl)))) ?_
   obtain ⟨v28_4, hv28_4, hm⟩ := bnd hm; replace hv28_4 := Option.some.inj hv28_4
   refine Wz (.y v28_4) (Ocs (Eq.trans (lit_int (u8w _)) (congrArg (fun z => A.d (byteD z)) hv28_4)) (op_bin rfl (a1 := .int .u8 (((toU8 (Int.fdiv p1 (2 ^ (Int.toNat (W6 (7 * y20_3)))))).toNat : Nat) : Int)) (a2 := .int .u8 128) (by kernel_rfl) (by kernel_rfl) (fun _ => hb_or))) <| Wm (.y v28_4) rfl <| Nk 1573346 1 ⟨tp 1 (.u p1::tp 3 (.i r10_0::.own 0::.i y20_3::.y v28_4::tp 10 (.i r10_0::.i y20_3::tp 20 []))), [(Ar 5 1 encU8 y6_3)], 0⟩ ?_
   refine AWP.cutJ (α := UInt8) (fun x => match x with | y8_5 => (⟨tp 1 (.u p1::tp 3 (.i r10_0::.own 0::tp 1 (.y y8_5::tp 10 (.i r10_0::.i y20_3::tp 20 [])))), [(Ar 5 1 encU8 y6_3)], 0⟩ : St)) (fun x => match x with | y8_5 => m_zig_Put_j5 y20_3 y6_3 (fun y6_3 y20_3 => m_zig_Put_l3 p1 r10_0 fu_3 y6_3 y20_3) y8_5 = some r) ?_ (fun J5 => ?_)
   ·
    rintro y8_5 hm
    try dsimp only at hm ⊢
    unfold m_zig_Put_j5 at hm
    refine Tx <| Wm (.own 0) rfl <| Wm (.y y8_5) rfl <| Wy (.own 1) [(1, (Ar 5 1 encU8 ([y8_5] : List UInt8)))] (Obs rfl) ?_
    obtain ⟨a38_5, ha38_5, hm⟩ := bnd hm; obtain ⟨ha38_5e, ha38_5l⟩ := app_some ha38_5
    refine Wy (.own 2) [(0, .gone), (2, (Ar 5 1 encU8 a38_5))] (Oap rfl elemOK_39 encU8_len ha38_5e ha38_5l) <| Wm (.own 2) rfl <| Wn0 <| Ino <| Tk 1572962 4 ⟨tp 1 (.u p1::tp 3 (.i r10_0::.own 2::tp 12 (.i r10_0::.i y20_3::tp 20 []))), [.gone, .gone, (Ar 5 1 encU8 a38_5)], 0⟩ <| Tx <| Wz (.i (W6 (y20_3 + 1))) (Obn rfl (fun _ => hb_add (k := .i64))) <| Wm (.i (W6 (y20_3 + 1))) rfl <| Wn0 <| RoundK.normal ?_
    exact Rounds.weak (Weak.toK 1572962 0 0 [2]) (ih_3 (fu_3, a38_5, (W6 (y20_3 + 1))) hm (Nat.lt_succ_self _))
   refine Sq <| Sx <| Wm (.i y20_3) rfl <| Wm (.i r10_0) rfl <| Wz (.i (W6 (r10_0 - 1))) (Obn rfl (fun _ => hb_sub (k := .i64))) <| Wz (.b (decide (y20_3 = (W6 (r10_0 - 1))))) (Obn rfl (fun _ => hb_eql (k := .i64))) <| Nk 4296540514 1 ⟨tp 1 (.u p1::tp 3 (.i r10_0::.own 0::tp 1 (.y v28_4::tp 10 (.i r10_0::.i y20_3::tp 11 (.b (decide (y20_3 = (W6 (r10_0 - 1))))::tp 8 []))))), [(Ar 5 1 encU8 y6_3)], 0⟩ ?_
   rcases tf_ (decide (y20_3 = (W6 (r10_0 - 1)))) with hc32_7 | hc32_7
   ·
    replace hm := cT hc32_7 hm
    refine AiT hc32_7 <| Tx <| Wm (.y v28_4) rfl <| Wz (.y (toU8 (((BitVec.ofInt 8 ((v28_4.toNat : Nat) : Int) &&& ~~~ BitVec.ofInt 8 128).toNat : Int)))) (Ocs (lit_int (u8w _)) (op_bin rfl (a1 := .int .u8 ((v28_4.toNat : Nat) : Int)) (a2 := .int .u8 128) (by kernel_rfl) (by kernel_rfl) (fun _ => hb_andNot))) <| Wm (.y (toU8 (((BitVec.ofInt 8 ((v28_4.toNat : Nat) : Int) &&& ~~~ BitVec.ofInt 8 128).toNat : Int)))) rfl <| Nn ?_
    exact AWP.weak (Weak.toK 1573218 0 0 [0]) (J5 ((toU8 (((BitVec.ofInt 8 ((v28_4.toNat : Nat) : Int) &&& ~~~ BitVec.ofInt 8 128).toNat : Int)))) hm)
   ·
    replace hm := cF hc32_7 hm
    refine AiF hc32_7 <| Sk <| Tn ?_
    exact AWP.weak (Weak.toK 1573218 0 0 [0]) (J5 (v28_4) hm)
  ·
   replace hm := cF hc21_6 hm
   refine AiF hc21_6 <| AWP.exit <| Then.exit <| RoundK.exit <| InBlock.same <| Tk 64 1 ⟨tp 6 (.own 0::tp 34 []), [(Ar 5 1 encU8 y6_3)], 0⟩ <| Sx <| Wm (.own 0) rfl <| Wm (.own 0) rfl <| Nn <| Rt ?_
   obtain rfl := Option.some.inj hm
   exact ret_i [0]

theorem ok_zig_PutInt (p0 : (List UInt8)) (p1 : Int) (r : (List UInt8)) (h : m_zig_PutInt p0 p1 = some r) : GCall Try.prog 28 [(.l encU8 p0), (.i p1)] [] (.own 0) [(Ar 5 1 encU8 r)] := by
 refine GCall.of_body (n := 9) (rs := [(.tmp 4)]) Try.func28 rfl rfl rfl <| Ato ⟨.l encU8 p0::.i p1::tu 7 [], [], 0⟩ ?_
 have hm := h
 unfold m_zig_PutInt at hm
 refine Sx <| Wm (.d .nil) rfl <| Nk 3 0 ⟨.l encU8 p0::.i p1::tp 7 [], [], 0⟩ <| Sx <| Wm (.l encU8 p0) rfl <| Wm (.i p1) rfl ?_
 obtain ⟨r7_0, hr7_0, hm⟩ := bnd hm
 refine Wz (.u r7_0) (Ocf [] [] [] 0 (ok_zig_Fold p1 r7_0 hr7_0) (fun a w => Try.call36 a w) rfl trivial) ?_
 obtain ⟨r8_0, hr8_0, hm⟩ := bnd hm
 refine Wy (.own 0) [(0, (Ar 5 1 encU8 r8_0))] (Ocf [] [0] [] 0 (ok_zig_Put p0 r7_0 r8_0 hr8_0) (fun a w => Try.call30 a w) rfl trivial) <| Wm (.own 0) rfl <| Nn <| Rt ?_
 obtain rfl := Option.some.inj hm
 exact ret_i [0]

theorem ok_octet_grown (p0 : (List UInt8)) (p1 : Int) (r : (List UInt8)) (h : m_octet_grown p0 p1 = some r) : GCall Try.prog 37 [(.l encU8 p0), (.i p1)] [] (.own 0) [(Ar 5 1 encU8 r)] := by
 refine GCall.of_body (n := 15) (rs := [(.tmp 4)]) Try.func37 rfl rfl rfl <| Ato ⟨.l encU8 p0::.i p1::tu 13 [], [], 0⟩ ?_
 have hm := h
 unfold m_octet_grown at hm
 refine Sx <| Wm (.d .nil) rfl <| Nk 3 0 ⟨.l encU8 p0::.i p1::tp 13 [], [], 0⟩ <| Sx <| Wm (.l encU8 p0) rfl <| Wz (.i ((List.length p0 : Nat) : Int)) (Oln rfl) <| Wm (.i p1) rfl <| Wz (.i (W6 (((List.length p0 : Nat) : Int) + p1))) (Obn rfl (fun _ => hb_add (k := .i64))) ?_
 obtain ⟨m10_0, hm10_0, hm⟩ := bnd hm; obtain ⟨hm10_0i, hm10_0l, hm10_0e⟩ := mk_some hm10_0
 refine Wy (.own 0) [(0, (Ar 5 1 encU8 m10_0))] (OcB (op_make rfl elemOK_39 (by kernel_rfl) (kl := .i64) (kc := .i64) (L := (IntKind.i64.wrap (((List.length p0 : Nat) : Int) + p1))) (C := (IntKind.i64.wrap (((List.length p0 : Nat) : Int) + p1))) (by kernel_rfl) (by kernel_rfl) (n := Int.toNat (IntKind.i64.wrap (((List.length p0 : Nat) : Int) + p1))) hm10_0i hm10_0i (by omega) (by kernel_rfl)) (bl_one (by rw [hm10_0e]; simp) (by rw [hm10_0e]; exact (flat_rep (by kernel_rfl))))) <| Wm (.own 0) rfl <| Nk 33 1 ⟨.l encU8 p0::tp 4 (.own 0::tp 9 []), [(Ar 5 1 encU8 m10_0)], 0⟩ <| Sx <| Wm (.own 0) rfl <| Wm (.l encU8 p0) rfl ?_
 obtain ⟨c13_1, hc13_1, hm⟩ := bnd hm; obtain ⟨hc13_1e, hc13_1l⟩ := cpy_some hc13_1
 refine Wy (.i ((List.length p0 : Nat) : Int)) [(0, (Ar 5 1 encU8 c13_1))] (OcB (Ocs (by kernel_rfl) (op_copy rfl (e := 5) (sz := 1) (by kernel_rfl) (yd := (.own 0)) (by kernel_rfl) (id := 0) (off := 0) (dn := List.length m10_0) (by kernel_rfl) (n := List.length m10_0) (xs := flatD encU8 m10_0) (by kernel_rfl) (y := (.l encU8 p0)) (by kernel_rfl) (ds := flatD encU8 p0) (soff := 0) (k := List.length p0) (by kernel_rfl) (es := flatD encU8 p0) (flat_all encU8_len) (flatD_length encU8_len _) hc13_1l (cpy_fit encU8_len hc13_1l) (by decide))) (bl_one (cpy_len hc13_1e hc13_1l) (by rw [hc13_1e]; exact cpy_put encU8_len hc13_1l))) <| Nk 32 1 ⟨tp 5 (.own 0::tp 9 []), [(Ar 5 1 encU8 c13_1)], 0⟩ <| Sx <| Wm (.own 0) rfl <| Wm (.own 0) rfl <| Nn <| Rt ?_
 obtain rfl := Option.some.inj hm
 exact ret_i [0]

theorem ok_octet_lay (p0 : (List UInt8)) (p1 : Int) (p2 : Int) (r : (List UInt8)) (h : m_octet_lay p0 p1 p2 = some r) : GCall Try.prog 38 [(.own 0), (.i p1), (.u p2)] [(Ar 5 1 encU8 p0)] (.tup []) [(Ar 5 1 encU8 r)] := by
 refine GCall.of_body (n := 25) (rs := []) Try.func38 rfl rfl rfl <| Ato ⟨.own 0::.i p1::.u p2::tu 22 [], [(Ar 5 1 encU8 p0)], 1⟩ ?_
 have hm := h
 unfold m_octet_lay at hm
 refine Sx <| Wm (.own 0) rfl <| Wz (.i ((List.length p0 : Nat) : Int)) (Oln rfl) <| Wz (.i (W6 (((List.length p0 : Nat) : Int) - 1))) (Obn rfl (fun _ => hb_sub (k := .i64))) <| Wm (.i (W6 (((List.length p0 : Nat) : Int) - 1))) rfl <| Nk 71 1 ⟨.own 0::.i p1::.u p2::tp 3 (.i (W6 (((List.length p0 : Nat) : Int) - 1))::tp 18 []), [(Ar 5 1 encU8 p0)], 1⟩ <| Bk ?_
 refine AWP.loopI (α := Nat × (List UInt8) × Int × Int)
   (fun (fu_1, y0_1, y2_1, y6_1) => (⟨.own 0::.i p1::.u y2_1::tp 3 (.i y6_1::tp 18 []), [(Ar 5 1 encU8 y0_1)], 1⟩ : St))
   (fun (fu_1, y0_1, y2_1, y6_1) => m_octet_lay_l1 p1 fu_1 y0_1 y2_1 y6_1 = some r)
   (fun (fu_1, y0_1, y2_1, y6_1) => fu_1) (1152921504606846976, p0, p2, (W6 (((List.length p0 : Nat) : Int) - 1)))
   (Weak.toK 71 0 0 [0]) hm ?_
 rintro ⟨fu_1, y0_1, y2_1, y6_1⟩ n_1 hm ih_1
 try dsimp only at hm ih_1 ⊢
 cases fu_1 with
 | zero => exact absurd hm (by unfold m_octet_lay_l1; simp)
 | succ fu_1 =>
  unfold m_octet_lay_l1 at hm
  refine Sq <| Sx <| Wm (.i y6_1) rfl <| Wm (.own 0) rfl <| Wz (.i ((List.length y0_1 : Nat) : Int)) (Oln rfl) <| Wm (.i p1) rfl <| Wz (.i (W6 (((List.length y0_1 : Nat) : Int) - p1))) (Obn rfl (fun _ => hb_sub (k := .i64))) <| Wz (.b (decide ((W6 (((List.length y0_1 : Nat) : Int) - p1)) ≤ y6_1))) (Obn rfl (fun _ => hb_geq (k := .i64))) <| Nk 32839 1 ⟨.own 0::.i p1::.u y2_1::tp 3 (.i y6_1::tp 8 (.b (decide ((W6 (((List.length y0_1 : Nat) : Int) - p1)) ≤ y6_1))::tp 9 [])), [(Ar 5 1 encU8 y0_1)], 1⟩ ?_
  rcases tf_ (decide ((W6 (((List.length y0_1 : Nat) : Int) - p1)) ≤ y6_1)) with hc15_4 | hc15_4
  ·
   replace hm := cT hc15_4 hm
   refine AiT hc15_4 <| Sk <| Tk 71 1 ⟨.own 0::.i p1::.u y2_1::tp 3 (.i y6_1::tp 18 []), [(Ar 5 1 encU8 y0_1)], 1⟩ <| Sq <| Bk <| Sx <| Wm (.own 0) rfl <| Wm (.i y6_1) rfl <| Wm (.u y2_1) rfl <| Wz (.y (toU8 y2_1)) (Ocs (lit_int (u8w _)) (op_convert rfl (a1 := .int .u64 y2_1) (by kernel_rfl) (run_conv (ds := .int .u64) (k' := .u8) (by kernel_rfl) (by kernel_rfl)))) ?_
   obtain ⟨x22_3, hx22_3, hm⟩ := bnd hm
   obtain ⟨hx22_3i, hx22_3g⟩ := geti_some hx22_3
   refine Wz (.loc 0 ((Int.toNat y6_1) * 1)) (Oia rfl encU8_len hx22_3i hx22_3g) <| Wy (.tup []) [(0, (Ar 5 1 encU8 (List.set y0_1 (Int.toNat y6_1) (toU8 y2_1))))] (Osr 0 rfl encU8_len hx22_3g (toU8 y2_1)) <| Nk 71 1 ⟨.own 0::.i p1::.u y2_1::tp 3 (.i y6_1::tp 18 []), [(Ar 5 1 encU8 (List.set y0_1 (Int.toNat y6_1) (toU8 y2_1)))], 1⟩ <| Tx <| Wm (.u y2_1) rfl <| Wz (.u (Int.fdiv y2_1 (2 ^ 8))) (Ob2 (.int .u64 y2_1) (.int .u64 8) rfl (fun _ => hb_shr (n := 8) (by decide) rfl)) <| Wm (.u (Int.fdiv y2_1 (2 ^ 8))) rfl <| Wn0 <| Ino <| Tk 71 1 ⟨.own 0::.i p1::.u (Int.fdiv y2_1 (2 ^ 8))::tp 3 (.i y6_1::tp 18 []), [(Ar 5 1 encU8 (List.set y0_1 (Int.toNat y6_1) (toU8 y2_1)))], 1⟩ <| Tx <| Wm (.i y6_1) rfl <| Wz (.i (W6 (y6_1 - 1))) (Obn rfl (fun _ => hb_sub (k := .i64))) <| Wm (.i (W6 (y6_1 - 1))) rfl ?_
   refine Wn0 <| RoundK.normal ?_
   exact Rounds.weak (Weak.toK 71 0 0 [0]) (ih_1 (fu_1, (List.set y0_1 (Int.toNat y6_1) (toU8 y2_1)), (Int.fdiv y2_1 (2 ^ 8)), (W6 (y6_1 - 1))) hm (Nat.lt_succ_self _))
  ·
   replace hm := cF hc15_4 hm
   refine AiF hc15_4 <| AWP.exit <| Then.exit <| RoundK.exit <| InBlock.same ?_
   obtain rfl := Option.some.inj hm
   exact ret_n [0]

theorem ok_octet_Word (p0 : (List UInt8)) (p1 : Int) (r : (List UInt8)) (h : m_octet_Word p0 p1 = some r) : GCall Try.prog 29 [(.l encU8 p0), (.u p1)] [] (.own 0) [(Ar 5 1 encU8 r)] := by
 refine GCall.of_body (n := 12) (rs := [(.tmp 4)]) Try.func29 rfl rfl rfl <| Ato ⟨.l encU8 p0::.u p1::tu 10 [], [], 0⟩ ?_
 have hm := h
 unfold m_octet_Word at hm
 refine Sx <| Wm (.d .nil) rfl <| Nk 3 0 ⟨.l encU8 p0::.u p1::tp 10 [], [], 0⟩ <| Sx <| Wm (.l encU8 p0) rfl ?_
 obtain ⟨r7_0, hr7_0, hm⟩ := bnd hm
 refine Wy (.own 0) [(0, (Ar 5 1 encU8 r7_0))] (Ocf [] [0] [] 0 (ok_octet_grown p0 8 r7_0 hr7_0) (fun a w => Try.call37 a w) rfl trivial) <| Wm (.own 0) rfl <| Nk 34 1 ⟨tp 1 (.u p1::tp 3 (.own 0::tp 6 [])), [(Ar 5 1 encU8 r7_0)], 0⟩ <| Sx <| Wm (.own 0) rfl <| Wm (.u p1) rfl ?_
 obtain ⟨r10_1, hr10_1, hm⟩ := bnd hm
 refine Wy (.tup []) [(0, (Ar 5 1 encU8 r10_1))] (Ocf [0] [] [] 0 (ok_octet_lay r7_0 8 p1 r10_1 hr10_1) (fun a w => Try.call38 a w) rfl ⟨rfl, trivial⟩) <| Nk 32 1 ⟨tp 5 (.own 0::tp 6 []), [(Ar 5 1 encU8 r10_1)], 0⟩ <| Sx <| Wm (.own 0) rfl <| Wm (.own 0) rfl <| Nn <| Rt ?_
 obtain rfl := Option.some.inj hm
 exact ret_i [0]

theorem ok_value_Put (p0 : (List UInt8)) (p1 : GValue) (r : ((List UInt8) × Int)) (h : m_value_Put p0 p1 = some r) : GCall Try.prog 24 [(.l encU8 p0), (.agg [(.y p1.Kind), (.i p1.N), (.u p1.Bits), (.s p1.Text)])] [] (.tup [(.own 0), (.i r.2)]) [(Ar 5 1 encU8 r.1)] := by
 refine GCall.of_body (n := 58) (rs := [(.tmp 4), (.tmp 5)]) Try.func24 rfl rfl rfl <| Ato ⟨.l encU8 p0::.agg [(.y p1.Kind), (.i p1.N), (.u p1.Bits), (.s p1.Text)]::tu 56 [], [], 0⟩ ?_
 have hm := h
 unfold m_value_Put at hm
 refine Sx <| Wy (.loc 0 0) [(0, (.box [(.y p1.Kind), (.i p1.N), (.u p1.Bits), (.s p1.Text)]))] (Obx rfl) <| Wm (.d .nil) rfl <| Wm (.i 0) rfl <| Nk 9 1 ⟨.l encU8 p0::tp 2 (.loc 0 0::tp 54 []), [(.box [(.y p1.Kind), (.i p1.N), (.u p1.Bits), (.s p1.Text)])], 0⟩ <| Sq <| Sx <| Wz (.agg [(.y p1.Kind), (.i p1.N), (.u p1.Bits), (.s p1.Text)]) (Old rfl) ?_
 obtain ⟨r9_0, hr9_0, hm⟩ := bnd hm
 refine Wz (.i r9_0) (Ocf [] [] [] 0 (ok_value_Check p1 r9_0 hr9_0) (fun a w => Try.call22 a w) rfl trivial) <| Wm (.i r9_0) rfl <| Nk 73 1 ⟨.l encU8 p0::tp 2 (.loc 0 0::tp 2 (.i r9_0::tp 51 [])), [(.box [(.y p1.Kind), (.i p1.N), (.u p1.Bits), (.s p1.Text)])], 0⟩ <| Sx <| Wm (.i r9_0) rfl <| Wz (.b (decide (r9_0 ≠ 0))) (Obn rfl (fun _ => hb_neq (k := .i64))) <| Nk 2121 1 ⟨.l encU8 p0::tp 2 (.loc 0 0::tp 2 (.i r9_0::tp 4 (.b (decide (r9_0 ≠ 0))::tp 46 []))), [(.box [(.y p1.Kind), (.i p1.N), (.u p1.Bits), (.s p1.Text)])], 0⟩ ?_
 rcases tf_ (decide (r9_0 ≠ 0)) with hc11_8 | hc11_8
 ·
  replace hm := cT hc11_8 hm
  refine AiT hc11_8 <| Sx <| Wm (.i r9_0) rfl <| Wm (.d .nil) rfl <| Wm (.i r9_0) rfl <| Nn <| Aow 4 5 1 ⟨.l encU8 p0::tp 2 (.loc 0 0::.own 1::.i r9_0::.i r9_0::tp 4 (.b (decide (r9_0 ≠ 0))::.i r9_0::tp 45 [])), [(.box [(.y p1.Kind), (.i p1.N), (.u p1.Bits), (.s p1.Text)]), (Ar 5 1 encU8 ([] : List UInt8))], 0⟩ <| Rt <| Tr ?_
  obtain rfl := Option.some.inj hm
  exact ret_i [1]
 ·
  replace hm := cF hc11_8 hm
  refine AiF hc11_8 <| Sk <| Tk 9 1 ⟨.l encU8 p0::tp 2 (.loc 0 0::tp 54 []), [(.box [(.y p1.Kind), (.i p1.N), (.u p1.Bits), (.s p1.Text)])], 0⟩ <| Sx <| Wm (.l encU8 p0) rfl <| Wz (.i ((List.length p0 : Nat) : Int)) (Oln rfl) <| Wm (.l encU8 p0) rfl <| Wz (.i ((List.length p0 : Nat) : Int)) (Oln rfl) <| Wz (.i (W6 (((List.length p0 : Nat) : Int) + 1))) (Obn rfl (fun _ => hb_add (k := .i64))) ?_
  obtain ⟨m18_1, hm18_1, hm⟩ := bnd hm; obtain ⟨hm18_1i, hm18_1j, hm18_1l, hm18_1k, hm18_1e⟩ := mkc_some hm18_1
  refine Wy (.own 1) [(1, (Ar 5 1 encU8 m18_1))] (OcB (op_makeC rfl elemOK_39 (by kernel_rfl) (kl := .i64) (kc := .i64) (L := ((List.length p0 : Nat) : Int)) (C := (IntKind.i64.wrap (((List.length p0 : Nat) : Int) + 1))) (by kernel_rfl) (by kernel_rfl) (n := Int.toNat ((List.length p0 : Nat) : Int)) (cp := Int.toNat (IntKind.i64.wrap (((List.length p0 : Nat) : Int) + 1))) hm18_1i hm18_1j hm18_1l (by omega) (by kernel_rfl)) (bl_one (by rw [hm18_1e]; simp) (by rw [hm18_1e]; exact (flat_rep (by kernel_rfl))))) <| Wm (.own 1) rfl <| Nk 137 3 ⟨.l encU8 p0::tp 2 (.loc 0 0::tp 3 (.own 1::tp 50 [])), [(.box [(.y p1.Kind), (.i p1.N), (.u p1.Bits), (.s p1.Text)]), (Ar 5 1 encU8 m18_1)], 0⟩ <| Sx <| Wm (.own 1) rfl <| Wm (.l encU8 p0) rfl ?_
  obtain ⟨c21_2, hc21_2, hm⟩ := bnd hm; obtain ⟨hc21_2e, hc21_2l⟩ := cpy_some hc21_2
  refine Wy (.i ((List.length p0 : Nat) : Int)) [(1, (Ar 5 1 encU8 c21_2))] (OcB (Ocs (by kernel_rfl) (op_copy rfl (e := 5) (sz := 1) (by kernel_rfl) (yd := (.own 1)) (by kernel_rfl) (id := 1) (off := 0) (dn := List.length m18_1) (by kernel_rfl) (n := List.length m18_1) (xs := flatD encU8 m18_1) (by kernel_rfl) (y := (.l encU8 p0)) (by kernel_rfl) (ds := flatD encU8 p0) (soff := 0) (k := List.length p0) (by kernel_rfl) (es := flatD encU8 p0) (flat_all encU8_len) (flatD_length encU8_len _) hc21_2l (cpy_fit encU8_len hc21_2l) (by decide))) (bl_one (cpy_len hc21_2e hc21_2l) (by rw [hc21_2e]; exact cpy_put encU8_len hc21_2l))) <| Nk 136 3 ⟨tp 3 (.loc 0 0::tp 3 (.own 1::tp 50 [])), [(.box [(.y p1.Kind), (.i p1.N), (.u p1.Bits), (.s p1.Text)]), (Ar 5 1 encU8 c21_2)], 0⟩ <| Sx <| Wm (.own 1) rfl <| Wz (.loc 0 0) (Ofa rfl) <| Wz (.y p1.Kind) (Old rfl) <| Wy (.own 2) [(2, (Ar 5 1 encU8 ([p1.Kind] : List UInt8)))] (Obs rfl) ?_
  obtain ⟨a26_3, ha26_3, hm⟩ := bnd hm; obtain ⟨ha26_3e, ha26_3l⟩ := app_some ha26_3
  refine Wy (.own 3) [(1, .gone), (3, (Ar 5 1 encU8 a26_3))] (Oap rfl elemOK_39 encU8_len ha26_3e ha26_3l) <| Wm (.own 3) rfl <| Nk 136 9 ⟨tp 3 (.loc 0 0::tp 3 (.own 3::tp 50 [])), [(.box [(.y p1.Kind), (.i p1.N), (.u p1.Bits), (.s p1.Text)]), .gone, .gone, (Ar 5 1 encU8 a26_3)], 0⟩ <| Sq <| Sx <| Wz (.loc 0 0) (Ofa rfl) <| Wz (.y p1.Kind) (Old rfl) <| Nk 268435592 9 ⟨tp 3 (.loc 0 0::tp 3 (.own 3::tp 20 (.y p1.Kind::tp 29 []))), [(.box [(.y p1.Kind), (.i p1.N), (.u p1.Bits), (.s p1.Text)]), .gone, .gone, (Ar 5 1 encU8 a26_3)], 0⟩ <| Bk <| Sx <| Wz (.b (decide (((p1.Kind.toNat : Nat) : Int) = 1))) (Ob2 (.int .u8 ((p1.Kind.toNat : Nat) : Int)) (.int .u8 1) rfl (fun _ => hb_eql)) <| Wm (.b (decide (((p1.Kind.toNat : Nat) : Int) = 1))) rfl <| Nk 805306504 9 ⟨tp 3 (.loc 0 0::tp 3 (.own 3::tp 20 (.y p1.Kind::.b (decide (((p1.Kind.toNat : Nat) : Int) = 1))::tp 28 []))), [(.box [(.y p1.Kind), (.i p1.N), (.u p1.Bits), (.s p1.Text)]), .gone, .gone, (Ar 5 1 encU8 a26_3)], 0⟩ ?_
  rcases tf_ (decide (((p1.Kind.toNat : Nat) : Int) = 1)) with hc29_9 | hc29_9
  ·
   replace hm := cT hc29_9 hm
   refine AiT hc29_9 <| Sx <| Wm (.own 3) rfl <| Wz (.loc 0 1) (Ofa rfl) <| Wz (.i p1.N) (Old rfl) ?_
   obtain ⟨r34_4, hr34_4, hm⟩ := bnd hm
   refine Wy (.own 4) [(4, (Ar 5 1 encU8 r34_4))] (Ocp [] [4] [3] 0 (ok_zig_PutInt a26_3 p1.N r34_4 hr34_4) (⟨by simp [A.Plain, A.Plains, D.Plain, byteD], plain_cons (flat_plain encU8_plain) (plain_nil)⟩) (fun a w => Try.call28 a w) rfl trivial) <| Wm (.own 4) rfl <| Wm (.i 0) rfl <| Nn <| Rt <| Ir <| Tr ?_
   obtain rfl := Option.some.inj hm
   exact ret_i [4]
  ·
   replace hm := cF hc29_9 hm
   refine AiF hc29_9 <| Sx <| Wz (.b (decide (((p1.Kind.toNat : Nat) : Int) = 2))) (Ob2 (.int .u8 ((p1.Kind.toNat : Nat) : Int)) (.int .u8 2) rfl (fun _ => hb_eql)) <| Wm (.b (decide (((p1.Kind.toNat : Nat) : Int) = 2))) rfl <| Nk 34628173960 9 ⟨tp 3 (.loc 0 0::tp 3 (.own 3::tp 20 (.y p1.Kind::tp 6 (.b (decide (((p1.Kind.toNat : Nat) : Int) = 2))::tp 22 [])))), [(.box [(.y p1.Kind), (.i p1.N), (.u p1.Bits), (.s p1.Text)]), .gone, .gone, (Ar 5 1 encU8 a26_3)], 0⟩ ?_
   rcases tf_ (decide (((p1.Kind.toNat : Nat) : Int) = 2)) with hc35_10 | hc35_10
   ·
    replace hm := cT hc35_10 hm
    refine AiT hc35_10 <| Sx <| Wm (.own 3) rfl <| Wz (.loc 0 1) (Ofa rfl) <| Wz (.i p1.N) (Old rfl) <| Wz (.y (toU8 p1.N)) (Ocs (lit_int (u8w _)) (op_convert rfl (a1 := .int .i64 p1.N) (by kernel_rfl) (run_conv (ds := .int .i64) (k' := .u8) (by kernel_rfl) (by kernel_rfl)))) <| Wy (.own 4) [(4, (Ar 5 1 encU8 ([(toU8 p1.N)] : List UInt8)))] (Obs rfl) ?_
    obtain ⟨a42_5, ha42_5, hm⟩ := bnd hm; obtain ⟨ha42_5e, ha42_5l⟩ := app_some ha42_5
    refine Wy (.own 5) [(3, .gone), (5, (Ar 5 1 encU8 a42_5))] (Oap rfl elemOK_39 encU8_len ha42_5e ha42_5l) <| Wm (.own 5) rfl <| Wm (.i 0) rfl <| Nn <| Rt <| Ir <| Tr ?_
    obtain rfl := Option.some.inj hm
    exact ret_i [5]
   ·
    replace hm := cF hc35_10 hm
    refine AiF hc35_10 <| Sx <| Wz (.b (decide (((p1.Kind.toNat : Nat) : Int) = 3))) (Ob2 (.int .u8 ((p1.Kind.toNat : Nat) : Int)) (.int .u8 3) rfl (fun _ => hb_eql)) <| Wm (.b (decide (((p1.Kind.toNat : Nat) : Int) = 3))) rfl <| Nk 8796093022344 9 ⟨tp 3 (.loc 0 0::tp 3 (.own 3::tp 35 (.b (decide (((p1.Kind.toNat : Nat) : Int) = 3))::tp 14 []))), [(.box [(.y p1.Kind), (.i p1.N), (.u p1.Bits), (.s p1.Text)]), .gone, .gone, (Ar 5 1 encU8 a26_3)], 0⟩ ?_
    rcases tf_ (decide (((p1.Kind.toNat : Nat) : Int) = 3)) with hc43_11 | hc43_11
    ·
     replace hm := cT hc43_11 hm
     refine AiT hc43_11 <| Sx <| Wm (.own 3) rfl <| Wz (.loc 0 2) (Ofa rfl) <| Wz (.u p1.Bits) (Old rfl) ?_
     obtain ⟨r48_6, hr48_6, hm⟩ := bnd hm
     refine Wy (.own 4) [(4, (Ar 5 1 encU8 r48_6))] (Ocp [] [4] [3] 0 (ok_octet_Word a26_3 p1.Bits r48_6 hr48_6) (⟨by simp [A.Plain, A.Plains, D.Plain, byteD], plain_cons (flat_plain encU8_plain) (plain_nil)⟩) (fun a w => Try.call29 a w) rfl trivial) <| Wm (.own 4) rfl <| Wm (.i 0) rfl <| Nn <| Rt <| Ir <| Tr ?_
     obtain rfl := Option.some.inj hm
     exact ret_i [4]
    ·
     replace hm := cF hc43_11 hm
     refine AiF hc43_11 <| Sk <| Ino <| Tk 136 9 ⟨tp 3 (.loc 0 0::tp 3 (.own 3::tp 50 [])), [(.box [(.y p1.Kind), (.i p1.N), (.u p1.Bits), (.s p1.Text)]), .gone, .gone, (Ar 5 1 encU8 a26_3)], 0⟩ <| Sq <| Adr <| Wm (.own 3) rfl <| Wz (.loc 0 3) (Ofa rfl) <| Wz (.s p1.Text) (Old rfl) <| Wz (.i ((List.length p1.Text : Nat) : Int)) (Oln rfl) <| Wz (.u (W7 ((List.length p1.Text : Nat) : Int))) (Oc2 (.int .i64 ((List.length p1.Text : Nat) : Int)) rfl (run_conv (ds := .int .i64) (k' := .u64) (by kernel_rfl) (by kernel_rfl))) ?_
     obtain ⟨r54_7, hr54_7, hm⟩ := bnd hm
     refine Wy (.own 4) [(4, (Ar 5 1 encU8 r54_7))] (Ocp [] [4] [3] 0 (ok_zig_Put a26_3 (IntKind.u64.wrap ((List.length p1.Text : Nat) : Int)) r54_7 hr54_7) (⟨by simp [A.Plain, A.Plains, D.Plain, byteD], plain_cons (flat_plain encU8_plain) (plain_nil)⟩) (fun a w => Try.call30 a w) rfl trivial) <| Wz (.loc 0 3) (Ofa rfl) <| Wz (.s p1.Text) (Old rfl) ?_
     obtain ⟨a57_7, ha57_7, hm⟩ := bnd hm; obtain ⟨ha57_7e, ha57_7l⟩ := app_some ha57_7
     refine Wy (.own 5) [(4, .gone), (5, (Ar 5 1 encU8 a57_7))] (OcB (op_appendStr rfl elemOK_39 (by kernel_rfl) (id := 4) (by kernel_rfl) (n := List.length r54_7) (xs := flatD encU8 r54_7) (by kernel_rfl) (str := toS p1.Text) (by kernel_rfl) (app_str ha57_7l) (by kernel_rfl) (by decide)) (bl_app (by rw [ha57_7e, List.length_append]; rfl) (by rw [ha57_7e, flatD_append, flatU8 p1.Text]; rfl))) <| Wm (.own 5) rfl <| Wm (.i 0) rfl <| Wdr <| Tn <| Rt ?_
     obtain rfl := Option.some.inj hm
     exact ret_i [5]

theorem ok_hash_Key (p0 : Int) (p1 : GValue) (r : (List UInt8)) (h : m_hash_Key p0 p1 = some r) : GCall Try.prog 14 [(.i p0), (.agg [(.y p1.Kind), (.i p1.N), (.u p1.Bits), (.s p1.Text)])] [] (.s r) [] := by
 refine GCall.of_body (n := 19) (rs := [(.tmp 4)]) Try.func14 rfl rfl rfl <| Ato ⟨.i p0::.agg [(.y p1.Kind), (.i p1.N), (.u p1.Bits), (.s p1.Text)]::tu 17 [], [], 0⟩ ?_
 have hm := h
 unfold m_hash_Key at hm
 refine Sx <| Wy (.loc 0 0) [(0, (.box [(.y p1.Kind), (.i p1.N), (.u p1.Bits), (.s p1.Text)]))] (Obx rfl) <| Wm (.s ([] : List UInt8)) rfl <| Nk 9 1 ⟨.i p0::tp 2 (.loc 0 0::tp 15 []), [(.box [(.y p1.Kind), (.i p1.N), (.u p1.Bits), (.s p1.Text)])], 0⟩ <| Sx <| Wm (.i p0) rfl <| Wz (.y (toU8 p0)) (Ocs (lit_int (u8w _)) (op_convert rfl (a1 := .int .i64 p0) (by kernel_rfl) (run_conv (ds := .int .i64) (k' := .u8) (by kernel_rfl) (by kernel_rfl)))) <| Wy (.own 1) [(1, (Ar 5 1 encU8 ([(toU8 p0)] : List UInt8)))] (Obs rfl) <| Wz (.agg [(.y p1.Kind), (.i p1.N), (.u p1.Bits), (.s p1.Text)]) (Old rfl) ?_
 obtain ⟨r12_0, hr12_0, hm⟩ := bnd hm
 refine Wy (.tup [(.own 2), (.i r12_0.2)]) [(2, (Ar 5 1 encU8 r12_0.1))] (Ocp [] [2] [1] 0 (ok_value_Put ([(toU8 p0)] : List UInt8) p1 r12_0 hr12_0) (⟨by simp [A.Plain, A.Plains, D.Plain, byteD], plain_cons (flat_plain encU8_plain) (plain_nil)⟩) (fun a w => Try.call24 a w) rfl trivial) <| Wm (.tup [(.own 2), (.i r12_0.2)]) rfl <| Wz (.own 2) (Oex rfl) <| Wz (.i r12_0.2) (Oex rfl) <| Wm (.own 2) rfl <| Wm (.i r12_0.2) rfl <| Nk 96 4 ⟨tp 5 (.own 2::.i r12_0.2::tp 12 []), [.gone, .gone, (Ar 5 1 encU8 r12_0.1)], 0⟩ <| Sq <| Sx <| Wm (.i r12_0.2) rfl <| Wz (.b (decide (r12_0.2 ≠ 0))) (Obn rfl (fun _ => hb_neq (k := .i64))) <| Nk 65568 4 ⟨tp 5 (.own 2::tp 10 (.b (decide (r12_0.2 ≠ 0))::tp 2 [])), [.gone, .gone, (Ar 5 1 encU8 r12_0.1)], 0⟩ ?_
 rcases tf_ (decide (r12_0.2 ≠ 0)) with hc16_2 | hc16_2
 ·
  replace hm := cT hc16_2 hm
  refine AiT hc16_2 <| Sx <| Wm (.s ([] : List UInt8)) rfl <| Nn <| Rt <| Tr ?_
  obtain rfl := Option.some.inj hm
  exact ret_i []
 ·
  replace hm := cF hc16_2 hm
  refine AiF hc16_2 <| Sk <| Tk 32 4 ⟨tp 5 (.own 2::tp 13 []), [.gone, .gone, (Ar 5 1 encU8 r12_0.1)], 0⟩ <| Sx <| Wm (.own 2) rfl <| Wz (.s r12_0.1) (Ocs (by kernel_rfl) (op_str rfl (e := 5) (by kernel_rfl) (by kernel_rfl) (by kernel_rfl) (y := (.own 2)) (by kernel_rfl) (ds := flatD encU8 r12_0.1) (off := 0) (n := List.length r12_0.1) (by kernel_rfl) (l := r12_0.1) flatU8_take rfl)) <| Wm (.s r12_0.1) rfl <| Nn <| Rt ?_
  obtain rfl := Option.some.inj hm
  exact ret_i []

theorem ok_hash_Bare (p0 : Int) (r : (List UInt8)) (h : m_hash_Bare p0 = some r) : GCall Try.prog 16 [(.i p0)] [] (.s r) [] := by
 refine GCall.of_body (n := 7) (rs := [(.tmp 2)]) Try.func16 rfl rfl rfl <| Ato ⟨.i p0::tu 6 [], [], 0⟩ ?_
 have hm := h
 unfold m_hash_Bare at hm
 refine Sx <| Wm (.s ([] : List UInt8)) rfl <| Nk 1 0 ⟨.i p0::tp 6 [], [], 0⟩ <| Sx <| Wm (.i p0) rfl <| Wz (.y (toU8 p0)) (Ocs (lit_int (u8w _)) (op_convert rfl (a1 := .int .i64 p0) (by kernel_rfl) (run_conv (ds := .int .i64) (k' := .u8) (by kernel_rfl) (by kernel_rfl)))) <| Wy (.own 0) [(0, (Ar 5 1 encU8 ([(toU8 p0)] : List UInt8)))] (Obs rfl) <| Wz (.s ([(toU8 p0)] : List UInt8)) (Ocs (by kernel_rfl) (op_str rfl (e := 5) (by kernel_rfl) (by kernel_rfl) (by kernel_rfl) (y := (.own 0)) (by kernel_rfl) (ds := flatD encU8 ([(toU8 p0)] : List UInt8)) (off := 0) (n := List.length ([(toU8 p0)] : List UInt8)) (by kernel_rfl) (l := ([(toU8 p0)] : List UInt8)) flatU8_take rfl)) <| Wm (.s ([(toU8 p0)] : List UInt8)) rfl <| Nn <| Rt ?_
 obtain rfl := Option.some.inj hm
 exact ret_i []

theorem ok_hash_Pattern (p0 : (List UInt8)) (r : Int) (h : m_hash_Pattern p0 = some r) : GCall Try.prog 18 [(.s p0)] [] (.i r) [] := by
 refine GCall.of_body (n := 8) (rs := [(.tmp 2)]) Try.func18 rfl rfl rfl <| Ato ⟨.s p0::tu 7 [], [], 0⟩ ?_
 have hm := h
 unfold m_hash_Pattern at hm
 refine Sx <| Wm (.i 0) rfl <| Nk 1 0 ⟨.s p0::tp 7 [], [], 0⟩ <| Sq <| Sx <| Wm (.s p0) rfl <| Wz (.b (decide (p0 = ([] : List UInt8)))) (Ocs (lit_tf (by simp only [toS_inj, ne_eq])) (op_bin rfl (a1 := .string (toS p0)) (a2 := .string (toS ([] : List UInt8))) (by kernel_rfl) (by kernel_rfl) (fun _ => hb_seql))) <| Nk 17 0 ⟨.s p0::tp 3 (.b (decide (p0 = ([] : List UInt8)))::tp 3 []), [], 0⟩ ?_
 rcases tf_ (decide (p0 = ([] : List UInt8))) with hc4_1 | hc4_1
 ·
  replace hm := cT hc4_1 hm
  refine AiT hc4_1 <| Sx <| Wm (.i (-1)) rfl <| Nn <| Rt <| Tr ?_
  obtain rfl := Option.some.inj hm
  exact ret_i []
 ·
  replace hm := cF hc4_1 hm
  refine AiF hc4_1 <| Sk <| Tk 1 0 ⟨.s p0::tp 7 [], [], 0⟩ <| Sx <| Wm (.s p0) rfl ?_
  obtain ⟨x6_0, hx6_0, hm⟩ := bnd hm
  obtain ⟨hx6_0i, hx6_0g⟩ := geti_some hx6_0
  refine Wz (.y x6_0) (Ocs (by kernel_rfl) (op_index_str rfl (by kernel_rfl) (s := toS p0) (by kernel_rfl) (k := .i64) (iv := 0) (by kernel_rfl) (i := (Int.toNat 0)) (hx6_0i) (b := x6_0) (hx6_0g))) <| Wz (.i ((x6_0.toNat : Nat) : Int)) (Ocs (lit_int (wrap_of_u8 (by decide) _)) (op_convert rfl (a1 := .int .u8 ((x6_0.toNat : Nat) : Int)) (by kernel_rfl) (run_conv (ds := .int .u8) (k' := .i64) (by kernel_rfl) (by kernel_rfl)))) <| Wm (.i ((x6_0.toNat : Nat) : Int)) rfl <| Nn <| Rt ?_
  obtain rfl := Option.some.inj hm
  exact ret_i []

theorem ok_hash_Mix (p0 : Int) (r : Int) (h : m_hash_Mix p0 = some r) : GCall Try.prog 11 [(.u p0)] [] (.u r) [] := by
 refine GCall.of_body (n := 19) (rs := [(.tmp 2)]) Try.func11 rfl rfl rfl <| Ato ⟨.u p0::tu 18 [], [], 0⟩ ?_
 have hm := h
 unfold m_hash_Mix at hm
 refine Sx <| Wm (.u 0) rfl <| Nk 1 0 ⟨.u p0::tp 18 [], [], 0⟩ <| Sx <| Wm (.u p0) rfl <| Wm (.u p0) rfl <| Wz (.u (Int.fdiv p0 (2 ^ 30))) (Ob2 (.int .u64 p0) (.int .u64 30) rfl (fun _ => hb_shr (n := 30) (by decide) rfl)) <| Wz (.u (W7 (((BitVec.ofInt 64 p0 ^^^ BitVec.ofInt 64 (Int.fdiv p0 (2 ^ 30))).toNat : Int)))) (Ob2 (.int .u64 p0) (.int .u64 (Int.fdiv p0 (2 ^ 30))) rfl (fun _ => hb_xor)) <| Wm (.u (W7 (((BitVec.ofInt 64 p0 ^^^ BitVec.ofInt 64 (Int.fdiv p0 (2 ^ 30))).toNat : Int)))) rfl <| Nk 1 0 ⟨.u (W7 (((BitVec.ofInt 64 p0 ^^^ BitVec.ofInt 64 (Int.fdiv p0 (2 ^ 30))).toNat : Int)))::tp 18 [], [], 0⟩ <| Sx <| Wm (.u (W7 (((BitVec.ofInt 64 p0 ^^^ BitVec.ofInt 64 (Int.fdiv p0 (2 ^ 30))).toNat : Int)))) rfl ?_
 obtain ⟨v8_0, hv8_0, hm⟩ := bnd hm; replace hv8_0 := Option.some.inj hv8_0
 refine Wz (.u v8_0) (Ocs (congrArg (fun z => A.d (.lit (.int .u64 z))) hv8_0) (Obn rfl (fun _ => hb_mul (k := .u64)))) <| Wm (.u v8_0) rfl <| Nk 1 0 ⟨.u v8_0::tp 18 [], [], 0⟩ <| Sx <| Wm (.u v8_0) rfl <| Wm (.u v8_0) rfl <| Wz (.u (Int.fdiv v8_0 (2 ^ 27))) (Ob2 (.int .u64 v8_0) (.int .u64 27) rfl (fun _ => hb_shr (n := 27) (by decide) rfl)) <| Wz (.u (W7 (((BitVec.ofInt 64 v8_0 ^^^ BitVec.ofInt 64 (Int.fdiv v8_0 (2 ^ 27))).toNat : Int)))) (Ob2 (.int .u64 v8_0) (.int .u64 (Int.fdiv v8_0 (2 ^ 27))) rfl (fun _ => hb_xor)) <| Wm (.u (W7 (((BitVec.ofInt 64 v8_0 ^^^ BitVec.ofInt 64 (Int.fdiv v8_0 (2 ^ 27))).toNat : Int)))) rfl <| Nk 1 0 ⟨.u (W7 (((BitVec.ofInt 64 v8_0 ^^^ BitVec.ofInt 64 (Int.fdiv v8_0 (2 ^ 27))).toNat : Int)))::tp 18 [], [], 0⟩ <| Sx <| Wm (.u (W7 (((BitVec.ofInt 64 v8_0 ^^^ BitVec.ofInt 64 (Int.fdiv v8_0 (2 ^ 27))).toNat : Int)))) rfl ?_
 obtain ⟨v14_1, hv14_1, hm⟩ := bnd hm; replace hv14_1 := Option.some.inj hv14_1
 refine Wz (.u v14_1) (Ocs (congrArg (fun z => A.d (.lit (.int .u64 z))) hv14_1) (Obn rfl (fun _ => hb_mul (k := .u64)))) <| Wm (.u v14_1) rfl <| Nk 1 0 ⟨.u v14_1::tp 18 [], [], 0⟩ <| Sx <| Wm (.u v14_1) rfl <| Wm (.u v14_1) rfl <| Wz (.u (Int.fdiv v14_1 (2 ^ 31))) (Ob2 (.int .u64 v14_1) (.int .u64 31) rfl (fun _ => hb_shr (n := 31) (by decide) rfl)) <| Wz (.u (W7 (((BitVec.ofInt 64 v14_1 ^^^ BitVec.ofInt 64 (Int.fdiv v14_1 (2 ^ 31))).toNat : Int)))) (Ob2 (.int .u64 v14_1) (.int .u64 (Int.fdiv v14_1 (2 ^ 31))) rfl (fun _ => hb_xor)) <| Wm (.u (W7 (((BitVec.ofInt 64 v14_1 ^^^ BitVec.ofInt 64 (Int.fdiv v14_1 (2 ^ 31))).toNat : Int)))) rfl <| Nn <| Rt ?_
 obtain rfl := Option.some.inj hm
 exact ret_i []

theorem ok_hash_Worker (p0 : (List UInt8)) (p1 : Int) (r : Int) (h : m_hash_Worker p0 p1 = some r) : GCall Try.prog 20 [(.s p0), (.i p1)] [] (.i r) [] := by
 refine GCall.of_body (n := 14) (rs := [(.tmp 4)]) Try.func20 rfl rfl rfl <| Ato ⟨.s p0::.i p1::tu 12 [], [], 0⟩ ?_
 have hm := h
 unfold m_hash_Worker at hm
 refine Sx <| Wm (.i 0) rfl <| Nk 3 0 ⟨.s p0::.i p1::tp 12 [], [], 0⟩ <| Sq <| Sx <| Wm (.i p1) rfl <| Wz (.b (decide (p1 < 1))) (Obn rfl (fun _ => hb_lss (k := .i64))) <| Nk 67 0 ⟨.s p0::.i p1::tp 4 (.b (decide (p1 < 1))::tp 7 []), [], 0⟩ ?_
 rcases tf_ (decide (p1 < 1)) with hc6_1 | hc6_1
 ·
  replace hm := cT hc6_1 hm
  refine AiT hc6_1 <| Sx <| Wm (.i 0) rfl <| Nn <| Rt <| Tr ?_
  obtain rfl := Option.some.inj hm
  exact ret_i []
 ·
  replace hm := cF hc6_1 hm
  refine AiF hc6_1 <| Sk <| Tk 3 0 ⟨.s p0::.i p1::tp 12 [], [], 0⟩ <| Sx <| Wm (.s p0) rfl ?_
  obtain ⟨r8_0, hr8_0, hm⟩ := bnd hm
  refine Wz (.u r8_0) (Ocf [] [] [] 0 (ok_hash_Sum p0 r8_0 hr8_0) (fun a w => Try.call10 a w) rfl trivial) ?_
  obtain ⟨r9_0, hr9_0, hm⟩ := bnd hm
  refine Wz (.u r9_0) (Ocf [] [] [] 0 (ok_hash_Mix r8_0 r9_0 hr9_0) (fun a w => Try.call11 a w) rfl trivial) <| Wm (.i p1) rfl <| Wz (.u (W7 p1)) (Oc2 (.int .i64 p1) rfl (run_conv (ds := .int .i64) (k' := .u64) (by kernel_rfl) (by kernel_rfl))) ?_
  obtain ⟨hd12_0, hm⟩ := chk_some hm
  refine Wz (.u (Int.tmod r9_0 (W7 p1))) (Ob2 (.int .u64 r9_0) (.int .u64 (W7 p1)) rfl (fun _ => hb_rem hd12_0)) <| Wz (.i (W6 (Int.tmod r9_0 (W7 p1)))) (Oc2 (.int .u64 (Int.tmod r9_0 (W7 p1))) rfl (run_conv (ds := .int .u64) (k' := .i64) (by kernel_rfl) (by kernel_rfl))) <| Wm (.i (W6 (Int.tmod r9_0 (W7 p1)))) rfl <| Nn <| Rt ?_
  obtain rfl := Option.some.inj hm
  exact ret_i []

theorem ok_telltalelaw08_awake (r : Bool) (h : m_telltalelaw08_awake = some r) : GCall Try.prog 7 [] [] (.b r) [] := by
 refine GCall.of_body (n := 39) (rs := [(.tmp 0)]) Try.func7 rfl rfl rfl <| Ato ⟨tu 39 [], [], 0⟩ ?_
 have hm := h
 unfold m_telltalelaw08_awake at hm
 refine Sx <| Wm (.b false) rfl <| Nk 0 0 ⟨tp 39 [], [], 0⟩ <| Sx ?_
 obtain ⟨r1_0, hr1_0, hm⟩ := bnd hm
 refine Wz (.u r1_0) (Ocf [] [] [] 0 (ok_hash_Sum ([] : List UInt8) r1_0 hr1_0) (fun a w => Try.call10 a w) rfl trivial) <| Wz (.b (decide (r1_0 = 14695981039346656037))) (Obn rfl (fun _ => hb_eql (k := .u64))) ?_
 rcases tf_ (decide (r1_0 = 14695981039346656037)) with hq3_0 | hq3_0
 ·
  replace hm := cT hq3_0 hm
  refine Wz (.b true) (Oq hq3_0 rfl) ?_
  obtain ⟨r4_0, hr4_0, hm⟩ := bnd hm
  refine Wz (.u r4_0) (Ocf [] [] [] 0 (ok_hash_Sum ([97] : List UInt8) r4_0 hr4_0) (fun a w => Try.call10 a w) rfl trivial) <| Wz (.b (decide (r4_0 = 12638187200555641996))) (Obn rfl (fun _ => hb_eql (k := .u64))) <| Wz (.b (decide (r4_0 = 12638187200555641996))) (OpT rfl) ?_
  rcases tf_ (decide (r4_0 = 12638187200555641996)) with hq7_0 | hq7_0
  ·
   replace hm := cT hq7_0 hm
   refine Wz (.b true) (Oq hq7_0 rfl) <| Wz (.b true) (OpT rfl) <| Wm (.b true) rfl ?_
   obtain ⟨r10_0, hr10_0, hm⟩ := bnd hm
   refine Wz (.agg [(.y r10_0.Kind), (.i r10_0.N), (.u r10_0.Bits), (.s r10_0.Text)]) (Ocf [] [] [] 0 (ok_value_OfInt 1 r10_0 hr10_0) (fun a w => Try.call23 a w) rfl trivial) ?_
   obtain ⟨r11_0, hr11_0, hm⟩ := bnd hm
   refine Wz (.s r11_0) (Ocf [] [] [] 0 (ok_hash_Key 258 r10_0 r11_0 hr11_0) (fun a w => Try.call14 a w) rfl trivial) <| Wz (.b (decide (r11_0 = ([2, 1, 2] : List UInt8)))) (Ocs (lit_tf (by simp only [toS_inj, ne_eq])) (op_bin rfl (a1 := .string (toS r11_0)) (a2 := .string (toS ([2, 1, 2] : List UInt8))) (by kernel_rfl) (by kernel_rfl) (fun _ => hb_seql))) <| Wz (.b (decide (r11_0 = ([2, 1, 2] : List UInt8)))) (OpT rfl) ?_
   rcases tf_ (decide (r11_0 = ([2, 1, 2] : List UInt8))) with hq14_0 | hq14_0
   ·
    replace hm := cT hq14_0 hm
    refine Wz (.b true) (Oq hq14_0 rfl) ?_
    obtain ⟨r15_0, hr15_0, hm⟩ := bnd hm
    refine Wz (.s r15_0) (Ocf [] [] [] 0 (ok_hash_Bare (-1) r15_0 hr15_0) (fun a w => Try.call16 a w) rfl trivial) <| Wz (.b (decide (r15_0 = ([255] : List UInt8)))) (Ocs (lit_tf (by simp only [toS_inj, ne_eq])) (op_bin rfl (a1 := .string (toS r15_0)) (a2 := .string (toS ([255] : List UInt8))) (by kernel_rfl) (by kernel_rfl) (fun _ => hb_seql))) <| Wz (.b (decide (r15_0 = ([255] : List UInt8)))) (OpT rfl) ?_
    rcases tf_ (decide (r15_0 = ([255] : List UInt8))) with hq18_0 | hq18_0
    ·
     replace hm := cT hq18_0 hm
     refine Wz (.b true) (Oq hq18_0 rfl) ?_
     obtain ⟨r19_0, hr19_0, hm⟩ := bnd hm
     refine Wz (.i r19_0) (Ocf [] [] [] 0 (ok_hash_Pattern ([2, 120] : List UInt8) r19_0 hr19_0) (fun a w => Try.call18 a w) rfl trivial) <| Wz (.b (decide (r19_0 = 2))) (Obn rfl (fun _ => hb_eql (k := .i64))) <| Wz (.b (decide (r19_0 = 2))) (OpT rfl) ?_
     rcases tf_ (decide (r19_0 = 2)) with hq22_0 | hq22_0
     ·
      replace hm := cT hq22_0 hm
      refine Wz (.b true) (Oq hq22_0 rfl) ?_
      obtain ⟨r23_0, hr23_0, hm⟩ := bnd hm
      refine Wz (.i r23_0) (Ocf [] [] [] 0 (ok_hash_Pattern ([] : List UInt8) r23_0 hr23_0) (fun a w => Try.call18 a w) rfl trivial) <| Wz (.b (decide (r23_0 = (-1)))) (Obn rfl (fun _ => hb_eql (k := .i64))) <| Wz (.b (decide (r23_0 = (-1)))) (OpT rfl) ?_
      rcases tf_ (decide (r23_0 = (-1))) with hq26_0 | hq26_0
      ·
       replace hm := cT hq26_0 hm
       refine Wz (.b true) (Oq hq26_0 rfl) <| Wz (.agg [(.y 0), (.i 0), (.u 0), (.s ([] : List UInt8))]) (Obd rfl) ?_
       obtain ⟨r28_0, hr28_0, hm⟩ := bnd hm
       refine Wz (.s r28_0) (Ocf [] [] [] 0 (ok_hash_Key 1 (GValue.mk 0 0 0 ([] : List UInt8)) r28_0 hr28_0) (fun a w => Try.call14 a w) rfl trivial) <| Wz (.b (decide (r28_0 = ([] : List UInt8)))) (Ocs (lit_tf (by simp only [toS_inj, ne_eq])) (op_bin rfl (a1 := .string (toS r28_0)) (a2 := .string (toS ([] : List UInt8))) (by kernel_rfl) (by kernel_rfl) (fun _ => hb_seql))) <| Wz (.b (decide (r28_0 = ([] : List UInt8)))) (OpT rfl) ?_
       rcases tf_ (decide (r28_0 = ([] : List UInt8))) with hq31_0 | hq31_0
       ·
        replace hm := cT hq31_0 hm
        refine Wz (.b true) (Oq hq31_0 rfl) ?_
        obtain ⟨r32_0, hr32_0, hm⟩ := bnd hm
        refine Wz (.i r32_0) (Ocf [] [] [] 0 (ok_hash_Worker ([97] : List UInt8) 0 r32_0 hr32_0) (fun a w => Try.call20 a w) rfl trivial) <| Wz (.b (decide (r32_0 = 0))) (Obn rfl (fun _ => hb_eql (k := .i64))) <| Wz (.b (decide (r32_0 = 0))) (OpT rfl) ?_
        rcases tf_ (decide (r32_0 = 0)) with hq35_0 | hq35_0
        ·
         replace hm := cT hq35_0 hm
         refine Wz (.b true) (Oq hq35_0 rfl) ?_
         obtain ⟨r36_0, hr36_0, hm⟩ := bnd hm
         refine Wz (.u r36_0) (Ocf [] [] [] 0 (ok_hash_Mix 1 r36_0 hr36_0) (fun a w => Try.call11 a w) rfl trivial) <| Wz (.b (decide (r36_0 ≠ 1))) (Obn rfl (fun _ => hb_neq (k := .u64))) <| Wz (.b (decide (r36_0 ≠ 1))) (OpT rfl) <| Wm (.b (decide (r36_0 ≠ 1))) rfl <| Nn <| Rt ?_
         obtain rfl := Option.some.inj hm
         exact ret_i []
        ·
         replace hm := cF hq35_0 hm
         refine Wz (.b false) (Oq hq35_0 rfl) <| Wn <| Wn <| Wz (.b false) (OpF rfl) <| Wm (.b false) rfl <| Nn <| Rt ?_
         obtain rfl := Option.some.inj hm
         exact ret_i []
       ·
        replace hm := cF hq31_0 hm
        refine Wz (.b false) (Oq hq31_0 rfl) <| Wn <| Wn <| Wz (.b false) (OpF rfl) <| Wm (.b false) rfl <| Wn <| Wn <| Wz (.b false) (OpF rfl) <| Wm (.b false) rfl <| Nn <| Rt ?_
        obtain rfl := Option.some.inj hm
        exact ret_i []
      ·
       replace hm := cF hq26_0 hm
       refine Wz (.b false) (Oq hq26_0 rfl) <| Wn <| Wn <| Wn <| Wz (.b false) (OpF rfl) <| Wm (.b false) rfl <| Wn <| Wn <| Wz (.b false) (OpF rfl) <| Wm (.b false) rfl <| Wn <| Wn <| Wz (.b false) (OpF rfl) <| Wm (.b false) rfl ?_
       refine Nn <| Rt ?_
       obtain rfl := Option.some.inj hm
       exact ret_i []
     ·
      replace hm := cF hq22_0 hm
      refine Wz (.b false) (Oq hq22_0 rfl) <| Wn <| Wn <| Wz (.b false) (OpF rfl) <| Wm (.b false) rfl <| Wn <| Wn <| Wn <| Wz (.b false) (OpF rfl) <| Wm (.b false) rfl <| Wn <| Wn <| Wz (.b false) (OpF rfl) <| Wm (.b false) rfl ?_
      refine Wn <| Wn <| Wz (.b false) (OpF rfl) <| Wm (.b false) rfl <| Nn <| Rt ?_
      obtain rfl := Option.some.inj hm
      exact ret_i []
    ·
     replace hm := cF hq18_0 hm
     refine Wz (.b false) (Oq hq18_0 rfl) <| Wn <| Wn <| Wz (.b false) (OpF rfl) <| Wm (.b false) rfl <| Wn <| Wn <| Wz (.b false) (OpF rfl) <| Wm (.b false) rfl <| Wn <| Wn <| Wn <| Wz (.b false) (OpF rfl) <| Wm (.b false) rfl ?_
     refine Wn <| Wn <| Wz (.b false) (OpF rfl) <| Wm (.b false) rfl <| Wn <| Wn <| Wz (.b false) (OpF rfl) <| Wm (.b false) rfl <| Nn <| Rt ?_
     obtain rfl := Option.some.inj hm
     exact ret_i []
   ·
    replace hm := cF hq14_0 hm
    refine Wz (.b false) (Oq hq14_0 rfl) <| Wn <| Wn <| Wz (.b false) (OpF rfl) <| Wm (.b false) rfl <| Wn <| Wn <| Wz (.b false) (OpF rfl) <| Wm (.b false) rfl <| Wn <| Wn <| Wz (.b false) (OpF rfl) <| Wm (.b false) rfl <| Wn ?_
    refine Wn <| Wn <| Wz (.b false) (OpF rfl) <| Wm (.b false) rfl <| Wn <| Wn <| Wz (.b false) (OpF rfl) <| Wm (.b false) rfl <| Wn <| Wn <| Wz (.b false) (OpF rfl) <| Wm (.b false) rfl <| Nn <| Rt ?_
    obtain rfl := Option.some.inj hm
    exact ret_i []
  ·
   replace hm := cF hq7_0 hm
   refine Wz (.b false) (Oq hq7_0 rfl) <| Wz (.b false) (OpF rfl) <| Wm (.b false) rfl <| Wn <| Wn <| Wn <| Wz (.b false) (OpF rfl) <| Wm (.b false) rfl <| Wn <| Wn <| Wz (.b false) (OpF rfl) <| Wm (.b false) rfl <| Wn <| Wn ?_
   refine Wz (.b false) (OpF rfl) <| Wm (.b false) rfl <| Wn <| Wn <| Wz (.b false) (OpF rfl) <| Wm (.b false) rfl <| Wn <| Wn <| Wn <| Wz (.b false) (OpF rfl) <| Wm (.b false) rfl <| Wn <| Wn <| Wz (.b false) (OpF rfl) ?_
   refine Wm (.b false) rfl <| Wn <| Wn <| Wz (.b false) (OpF rfl) <| Wm (.b false) rfl <| Nn <| Rt ?_
   obtain rfl := Option.some.inj hm
   exact ret_i []
 ·
  replace hm := cF hq3_0 hm
  refine Wz (.b false) (Oq hq3_0 rfl) <| Wn <| Wn <| Wz (.b false) (OpF rfl) <| Wm (.b false) rfl <| Wz (.b false) (OpF rfl) <| Wm (.b false) rfl <| Wn <| Wn <| Wn <| Wz (.b false) (OpF rfl) <| Wm (.b false) rfl <| Wn <| Wn ?_
  refine Wz (.b false) (OpF rfl) <| Wm (.b false) rfl <| Wn <| Wn <| Wz (.b false) (OpF rfl) <| Wm (.b false) rfl <| Wn <| Wn <| Wz (.b false) (OpF rfl) <| Wm (.b false) rfl <| Wn <| Wn <| Wn <| Wz (.b false) (OpF rfl) ?_
  refine Wm (.b false) rfl <| Wn <| Wn <| Wz (.b false) (OpF rfl) <| Wm (.b false) rfl <| Wn <| Wn <| Wz (.b false) (OpF rfl) <| Wm (.b false) rfl <| Nn <| Rt ?_
  obtain rfl := Option.some.inj hm
  exact ret_i []

theorem ok_telltalelaw08_HashParts (p0 : (List UInt8)) (p1 : (List UInt8)) (p2 : GArr2_Int) (r : Bool) (h : m_telltalelaw08_HashParts p0 p1 p2 = some r) : GCall Try.prog 5 [(.s p0), (.s p1), (.agg [(.i p2.a0), (.i p2.a1)])] [] (.b r) [] := by
 refine GCall.of_body (n := 99) (rs := [(.tmp 6)]) Try.func5 rfl rfl rfl <| Ato ⟨.s p0::.s p1::.agg [(.i p2.a0), (.i p2.a1)]::tu 96 [], [], 0⟩ ?_
 have hm := h
 unfold m_telltalelaw08_HashParts at hm
 refine Sx <| Wy (.loc 0 0) [(0, (.box [(.i p2.a0), (.i p2.a1)]))] (Obx rfl) <| Wm (.b false) rfl <| Nk 35 1 ⟨.s p0::.s p1::tp 3 (.loc 0 0::tp 93 []), [(.box [(.i p2.a0), (.i p2.a1)])], 0⟩ <| Sq <| Sx <| Wm (.s p0) rfl <| Wz (.i ((List.length p0 : Nat) : Int)) (Oln rfl) <| Wz (.b (decide ((300 : Int) < ((List.length p0 : Nat) : Int)))) (Obn rfl (fun _ => hb_gtr (k := .i64))) ?_
 rcases tf_ (decide ((300 : Int) < ((List.length p0 : Nat) : Int))) with hq13_0 | hq13_0
 ·
  replace hm := cT hq13_0 hm
  refine Wz (.b true) (Oq hq13_0 rfl) <| Wn <| Wn <| Wn <| Wz (.b true) (OpT rfl) <| Nk 131107 1 ⟨.s p0::.s p1::tp 3 (.loc 0 0::tp 11 (.b true::tp 81 [])), [(.box [(.i p2.a0), (.i p2.a1)])], 0⟩ <| AWP.if_ true (by kernel_rfl) <| Sx ?_
  obtain ⟨r18_1, hr18_1, hm⟩ := bnd hm
  refine Wz (.b r18_1) (Ocf [] [] [] 0 (ok_telltalelaw08_awake  r18_1 hr18_1) (fun a w => Try.call7 a w) rfl trivial) <| Wm (.b r18_1) rfl <| Nn <| Rt <| Tr ?_
  obtain rfl := Option.some.inj hm
  exact ret_i []
 ·
  replace hm := cF hq13_0 hm
  refine Wz (.b false) (Oq hq13_0 rfl) <| Wm (.s p1) rfl <| Wz (.i ((List.length p1 : Nat) : Int)) (Oln rfl) <| Wz (.b (decide ((300 : Int) < ((List.length p1 : Nat) : Int)))) (Obn rfl (fun _ => hb_gtr (k := .i64))) <| Wz (.b (decide ((300 : Int) < ((List.length p1 : Nat) : Int)))) (OpF rfl) <| Nk 131107 1 ⟨.s p0::.s p1::tp 3 (.loc 0 0::tp 11 (.b (decide ((300 : Int) < ((List.length p1 : Nat) : Int)))::tp 81 [])), [(.box [(.i p2.a0), (.i p2.a1)])], 0⟩ ?_
  rcases tf_ (decide ((300 : Int) < ((List.length p1 : Nat) : Int))) with hc17_18 | hc17_18
  ·
   replace hm := cT hc17_18 hm
   refine AiT hc17_18 <| Sx ?_
   obtain ⟨r18_2, hr18_2, hm⟩ := bnd hm
   refine Wz (.b r18_2) (Ocf [] [] [] 0 (ok_telltalelaw08_awake  r18_2 hr18_2) (fun a w => Try.call7 a w) rfl trivial) <| Wm (.b r18_2) rfl <| Nn <| Rt <| Tr ?_
   obtain rfl := Option.some.inj hm
   exact ret_i []
  ·
   replace hm := cF hc17_18 hm
   refine AiF hc17_18 <| Sk <| Tk 35 1 ⟨.s p0::.s p1::tp 3 (.loc 0 0::tp 93 []), [(.box [(.i p2.a0), (.i p2.a1)])], 0⟩ ?_
   refine AWP.cutJ (α := Unit) (fun x => match x with | () => (⟨.s p0::tp 4 (.loc 0 0::tp 93 []), [(.box [(.i p2.a0), (.i p2.a1)])], 0⟩ : St)) (fun x => match x with | () => m_telltalelaw08_HashParts_j4 p0 p2 = some r) ?_ (fun J4 => ?_)
   ·
    rintro ⟨⟩ hm
    try dsimp only at hm ⊢
    unfold m_telltalelaw08_HashParts_j4 at hm
    refine Sx <| Wm (.s p0) rfl <| Wz (.loc 0 0) (Ocs (by kernel_rfl) (op_iaddr_arr rfl (n := 2) (sz := 1) (y := (.loc 0 0)) (by kernel_rfl) (by kernel_rfl) (by kernel_rfl) (k := .i64) (iv := 0) (by kernel_rfl) (i := 0) (by rfl) (by decide))) <| Wz (.i p2.a0) (Old rfl) ?_
    obtain ⟨r41_5, hr41_5, hm⟩ := bnd hm
    refine Wz (.i r41_5) (Ocf [] [] [] 0 (ok_hash_Worker p0 p2.a0 r41_5 hr41_5) (fun a w => Try.call20 a w) rfl trivial) <| Wm (.i r41_5) rfl <| Nk 161 1 ⟨.s p0::tp 4 (.loc 0 0::tp 1 (.i r41_5::tp 91 [])), [(.box [(.i p2.a0), (.i p2.a1)])], 0⟩ ?_
    refine AWP.cutJ (α := Unit) (fun x => match x with | () => (⟨.s p0::tp 4 (.loc 0 0::tp 93 []), [(.box [(.i p2.a0), (.i p2.a1)])], 0⟩ : St)) (fun x => match x with | () => m_telltalelaw08_HashParts_j10 p0 p2 = some r) ?_ (fun J10 => ?_)
    ·
     rintro ⟨⟩ hm
     try dsimp only at hm ⊢
     unfold m_telltalelaw08_HashParts_j10 at hm
     refine Sq <| Sx <| Wm (.s p0) rfl <| Wz (.i ((List.length p0 : Nat) : Int)) (Oln rfl) <| Wz (.b (decide (((List.length p0 : Nat) : Int) = 0))) (Obn rfl (fun _ => hb_eql (k := .i64))) <| Nk 73786976294838206497 1 ⟨.s p0::tp 4 (.loc 0 0::tp 60 (.b (decide (((List.length p0 : Nat) : Int) = 0))::tp 32 [])), [(.box [(.i p2.a0), (.i p2.a1)])], 0⟩ ?_
     rcases tf_ (decide (((List.length p0 : Nat) : Int) = 0)) with hc66_19 | hc66_19
     ·
      replace hm := cT hc66_19 hm
      refine AiT hc66_19 <| Sx ?_
      obtain ⟨r67_12, hr67_12, hm⟩ := bnd hm
      refine Wz (.b r67_12) (Ocf [] [] [] 0 (ok_telltalelaw08_awake  r67_12 hr67_12) (fun a w => Try.call7 a w) rfl trivial) <| Wm (.b r67_12) rfl <| Nn <| Rt <| Tr ?_
      obtain rfl := Option.some.inj hm
      exact ret_i []
     ·
      replace hm := cF hc66_19 hm
      refine AiF hc66_19 <| Sk <| Tk 33 1 ⟨.s p0::tp 4 (.loc 0 0::tp 93 []), [(.box [(.i p2.a0), (.i p2.a1)])], 0⟩ <| Sx <| Wm (.s p0) rfl ?_
      obtain ⟨hl69_13, hm⟩ := chk_some hm
      refine Wy (.own 1) [(1, (Ar 5 1 encU8 p0))] (OcB (Obo rfl (by kernel_rfl) (by kernel_rfl) (by kernel_rfl) (s := toS p0) (str_max hl69_13)) (bl_bytes)) <| Wm (.own 1) rfl <| Nk 289 3 ⟨.s p0::tp 4 (.loc 0 0::tp 2 (.own 1::tp 90 [])), [(.box [(.i p2.a0), (.i p2.a1)]), (Ar 5 1 encU8 p0)], 0⟩ <| Sx <| Wz (.loc 0 1) (Ocs (by kernel_rfl) (op_iaddr_arr rfl (n := 2) (sz := 1) (y := (.loc 0 0)) (by kernel_rfl) (by kernel_rfl) (by kernel_rfl) (k := .i64) (iv := 1) (by kernel_rfl) (i := 1) (by rfl) (by decide))) <| Wz (.i p2.a1) (Old rfl) <| Wz (.u (W7 p2.a1)) (Oc2 (.int .i64 p2.a1) rfl (run_conv (ds := .int .i64) (k' := .u64) (by kernel_rfl) (by kernel_rfl))) <| Wm (.own 1) rfl <| Wz (.i ((List.length p0 : Nat) : Int)) (Oln rfl) <| Wz (.u (W7 ((List.length p0 : Nat) : Int))) (Oc2 (.int .i64 ((List.length p0 : Nat) : Int)) rfl (run_conv (ds := .int .i64) (k' := .u64) (by kernel_rfl) (by kernel_rfl))) ?_
      obtain ⟨hd76_14, hm⟩ := chk_some hm
      refine Wz (.u (Int.tmod (W7 p2.a1) (W7 ((List.length p0 : Nat) : Int)))) (Ob2 (.int .u64 (W7 p2.a1)) (.int .u64 (W7 ((List.length p0 : Nat) : Int))) rfl (fun _ => hb_rem hd76_14)) <| Wz (.i (W6 (Int.tmod (W7 p2.a1) (W7 ((List.length p0 : Nat) : Int))))) (Oc2 (.int .u64 (Int.tmod (W7 p2.a1) (W7 ((List.length p0 : Nat) : Int)))) rfl (run_conv (ds := .int .u64) (k' := .i64) (by kernel_rfl) (by kernel_rfl))) <| Wm (.i (W6 (Int.tmod (W7 p2.a1) (W7 ((List.length p0 : Nat) : Int))))) rfl <| Nk 801 3 ⟨.s p0::tp 4 (.loc 0 0::tp 2 (.own 1::.i (W6 (Int.tmod (W7 p2.a1) (W7 ((List.length p0 : Nat) : Int))))::tp 89 [])), [(.box [(.i p2.a0), (.i p2.a1)]), (Ar 5 1 encU8 p0)], 0⟩ <| Sq <| Adr <| Wm (.own 1) rfl <| Wm (.i (W6 (Int.tmod (W7 p2.a1) (W7 ((List.length p0 : Nat) : Int))))) rfl ?_
      obtain ⟨x80_15, hx80_15, hm⟩ := bnd hm
      obtain ⟨hx80_15i, hx80_15g⟩ := geti_some hx80_15
      refine Wz (.loc 1 ((Int.toNat (W6 (Int.tmod (W7 p2.a1) (W7 ((List.length p0 : Nat) : Int))))) * 1)) (Oia rfl encU8_len hx80_15i hx80_15g) <| Wz (.y x80_15) (Lr1 rfl encU8_len hx80_15g) <| Wz (.loc 0 1) (Ocs (by kernel_rfl) (op_iaddr_arr rfl (n := 2) (sz := 1) (y := (.loc 0 0)) (by kernel_rfl) (by kernel_rfl) (by kernel_rfl) (k := .i64) (iv := 1) (by kernel_rfl) (i := 1) (by rfl) (by decide))) <| Wz (.i p2.a1) (Old rfl) <| Wz (.u (W7 p2.a1)) (Oc2 (.int .i64 p2.a1) rfl (run_conv (ds := .int .i64) (k' := .u64) (by kernel_rfl) (by kernel_rfl))) <| Wz (.u (Int.tmod (W7 p2.a1) 255)) (Ob2 (.int .u64 (W7 p2.a1)) (.int .u64 255) rfl (fun _ => hb_rem (by decide))) <| Wz (.u (W7 (1 + (Int.tmod (W7 p2.a1) 255)))) (Obn rfl (fun _ => hb_add (k := .u64))) <| Wz (.y (toU8 (W7 (1 + (Int.tmod (W7 p2.a1) 255))))) (Ocs (lit_int (u8w _)) (op_convert rfl (a1 := .int .u64 (W7 (1 + (Int.tmod (W7 p2.a1) 255)))) (by kernel_rfl) (run_conv (ds := .int .u64) (k' := .u8) (by kernel_rfl) (by kernel_rfl)))) ?_
      obtain ⟨v88_15, hv88_15, hm⟩ := bnd hm; replace hv88_15 := Option.some.inj hv88_15
      refine Wz (.y v88_15) (Ocs (Eq.trans (lit_int (u8w _)) (congrArg (fun z => A.d (byteD z)) hv88_15)) (op_bin rfl (a1 := .int .u8 ((x80_15.toNat : Nat) : Int)) (a2 := .int .u8 (((toU8 (W7 (1 + (Int.tmod (W7 p2.a1) 255)))).toNat : Nat) : Int)) (by kernel_rfl) (by kernel_rfl) (fun _ => hb_xor))) ?_
      obtain ⟨x89_15, hx89_15, hm⟩ := bnd hm
      obtain ⟨hx89_15i, hx89_15g⟩ := geti_some hx89_15
      refine Wz (.loc 1 ((Int.toNat (W6 (Int.tmod (W7 p2.a1) (W7 ((List.length p0 : Nat) : Int))))) * 1)) (Oia rfl encU8_len hx89_15i hx89_15g) <| Wy (.tup []) [(1, (Ar 5 1 encU8 (List.set p0 (Int.toNat (W6 (Int.tmod (W7 p2.a1) (W7 ((List.length p0 : Nat) : Int))))) v88_15)))] (Osr 0 rfl encU8_len hx89_15g v88_15) <| Wdr <| Tk 257 2 ⟨.s p0::tp 7 (.own 1::tp 90 []), [.gone, (Ar 5 1 encU8 (List.set p0 (Int.toNat (W6 (Int.tmod (W7 p2.a1) (W7 ((List.length p0 : Nat) : Int))))) v88_15))], 0⟩ <| Sx <| Wm (.own 1) rfl ?_
      obtain ⟨v91_17, hv91_17, hm⟩ := bnd hm; replace hv91_17 := Option.some.inj hv91_17
      refine Wz (.s v91_17) (Ocs (Eq.trans (by kernel_rfl) (congrArg (fun z => A.d (.lit (.string (toS z)))) hv91_17)) (op_str rfl (e := 5) (by kernel_rfl) (by kernel_rfl) (by kernel_rfl) (y := (.own 1)) (by kernel_rfl) (ds := flatD encU8 (List.set p0 (Int.toNat (W6 (Int.tmod (W7 p2.a1) (W7 ((List.length p0 : Nat) : Int))))) v88_15)) (off := 0) (n := List.length (List.set p0 (Int.toNat (W6 (Int.tmod (W7 p2.a1) (W7 ((List.length p0 : Nat) : Int))))) v88_15)) (by kernel_rfl) (l := (List.set p0 (Int.toNat (W6 (Int.tmod (W7 p2.a1) (W7 ((List.length p0 : Nat) : Int))))) v88_15)) flatU8_take rfl)) ?_
      obtain ⟨r92_16, hr92_16, hm⟩ := bnd hm
      refine Wz (.u r92_16) (Ocf [] [] [] 0 (ok_hash_Sum v91_17 r92_16 hr92_16) (fun a w => Try.call10 a w) rfl trivial) <| Wm (.s p0) rfl ?_
      obtain ⟨r94_16, hr94_16, hm⟩ := bnd hm
      refine Wz (.u r94_16) (Ocf [] [] [] 0 (ok_hash_Sum p0 r94_16 hr94_16) (fun a w => Try.call10 a w) rfl trivial) <| Wz (.b (decide (r92_16 ≠ r94_16))) (Obn rfl (fun _ => hb_neq (k := .u64))) ?_
      rcases tf_ (decide (r92_16 ≠ r94_16)) with hq96_16 | hq96_16
      ·
       replace hm := cT hq96_16 hm
       refine Wz (.b true) (Oq hq96_16 rfl) ?_
       obtain ⟨r97_16, hr97_16, hm⟩ := bnd hm
       refine Wz (.b r97_16) (Ocf [] [] [] 0 (ok_telltalelaw08_awake  r97_16 hr97_16) (fun a w => Try.call7 a w) rfl trivial) <| Wz (.b r97_16) (OpT rfl) <| Wm (.b r97_16) rfl <| Nn <| Rt ?_
       obtain rfl := Option.some.inj hm
       exact ret_i []
      ·
       replace hm := cF hq96_16 hm
       refine Wz (.b false) (Oq hq96_16 rfl) <| Wn <| Wz (.b false) (OpF rfl) <| Wm (.b false) rfl <| Nn <| Rt ?_
       obtain rfl := Option.some.inj hm
       exact ret_i []
    refine Sq ?_
    refine AWP.cutJ (α := Unit) (fun x => match x with | () => (⟨.s p0::tp 4 (.loc 0 0::tp 57 (.b true::tp 35 [])), [(.box [(.i p2.a0), (.i p2.a1)])], 0⟩ : St)) (fun x => match x with | () => m_telltalelaw08_HashParts_j7  = some r) ?_ (fun J7 => ?_)
    ·
     rintro ⟨⟩ hm
     try dsimp only at hm ⊢
     unfold m_telltalelaw08_HashParts_j7 at hm
     refine AWP.if_ true (by kernel_rfl) <| Sx <| Wm (.b false) rfl <| Nn <| Rt <| Tr ?_
     obtain rfl := Option.some.inj hm
     exact ret_i []
    refine AWP.cutJ (α := Unit) (fun x => match x with | () => (⟨.s p0::tp 4 (.loc 0 0::tp 57 (.b (decide (r41_5 ≠ 0))::tp 35 [])), [(.box [(.i p2.a0), (.i p2.a1)])], 0⟩ : St)) (fun x => match x with | () => m_telltalelaw08_HashParts_j8 p0 p2 r41_5 = some r) ?_ (fun J8 => ?_)
    ·
     rintro ⟨⟩ hm
     try dsimp only at hm ⊢
     unfold m_telltalelaw08_HashParts_j8 at hm
     rcases tf_ (decide (r41_5 ≠ 0)) with hc63_8 | hc63_8
     ·
      replace hm := cT hc63_8 hm
      refine AiT hc63_8 <| Sx <| Wm (.b false) rfl <| Nn <| Rt <| Tr ?_
      obtain rfl := Option.some.inj hm
      exact ret_i []
     ·
      replace hm := cF hc63_8 hm
      refine AiF hc63_8 <| Sk <| Tn ?_
      exact AWP.weak (Weak.toK 33 0 0 [0]) (J10 () hm)
    refine AWP.cutJ (α := Unit) (fun x => match x with | () => (⟨.s p0::tp 4 (.loc 0 0::tp 57 (.b false::tp 35 [])), [(.box [(.i p2.a0), (.i p2.a1)])], 0⟩ : St)) (fun x => match x with | () => m_telltalelaw08_HashParts_j9 p0 p2 = some r) ?_ (fun J9 => ?_)
    ·
     rintro ⟨⟩ hm
     try dsimp only at hm ⊢
     unfold m_telltalelaw08_HashParts_j9 at hm
     refine AWP.if_ false (by kernel_rfl) <| Sk <| Tn ?_
     exact AWP.weak (Weak.toK 33 0 0 [0]) (J10 () hm)
    refine Sx <| Wm (.i r41_5) rfl <| Wz (.b (decide (r41_5 < 0))) (Obn rfl (fun _ => hb_lss (k := .i64))) ?_
    rcases tf_ (decide (r41_5 < 0)) with hq44_6 | hq44_6
    ·
     replace hm := cT hq44_6 hm
     refine Wz (.b true) (Oq hq44_6 rfl) <| Wn <| Wn <| Wn <| Wn <| Wn <| Wn <| Wn <| Wn <| Wn <| Wz (.b true) (OpT rfl) <| Wm (.b true) rfl <| Wn <| Wn ?_
     refine Wn <| Wn <| Wn <| Wn <| Wn <| Wz (.b true) (OpT rfl) <| Nn ?_
     exact AWP.weak (Weak.toK 9223372036854775841 0 0 [0]) (J7 () hm)
    ·
     replace hm := cF hq44_6 hm
     refine Wz (.b false) (Oq hq44_6 rfl) <| Wz (.loc 0 0) (Ocs (by kernel_rfl) (op_iaddr_arr rfl (n := 2) (sz := 1) (y := (.loc 0 0)) (by kernel_rfl) (by kernel_rfl) (by kernel_rfl) (k := .i64) (iv := 0) (by kernel_rfl) (i := 0) (by rfl) (by decide))) <| Wz (.i p2.a0) (Old rfl) <| Wz (.b (decide ((0 : Int) < p2.a0))) (Obn rfl (fun _ => hb_gtr (k := .i64))) ?_
     rcases tf_ (decide ((0 : Int) < p2.a0)) with hq48_6 | hq48_6
     ·
      replace hm := cT hq48_6 hm
      refine Wz (.b true) (Oq hq48_6 rfl) <| Wm (.i r41_5) rfl <| Wz (.loc 0 0) (Ocs (by kernel_rfl) (op_iaddr_arr rfl (n := 2) (sz := 1) (y := (.loc 0 0)) (by kernel_rfl) (by kernel_rfl) (by kernel_rfl) (k := .i64) (iv := 0) (by kernel_rfl) (i := 0) (by rfl) (by decide))) <| Wz (.i p2.a0) (Old rfl) <| Wz (.b (decide (p2.a0 ≤ r41_5))) (Obn rfl (fun _ => hb_geq (k := .i64))) <| Wz (.b (decide (p2.a0 ≤ r41_5))) (OpT rfl) <| Wz (.b (decide (p2.a0 ≤ r41_5))) (OpF rfl) ?_
      rcases tf_ (decide (p2.a0 ≤ r41_5)) with hq55_6 | hq55_6
      ·
       replace hm := cT hq55_6 hm
       refine Wz (.b true) (Oq hq55_6 rfl) <| Wn <| Wn <| Wn <| Wn <| Wn <| Wn <| Wn <| Wz (.b true) (OpT rfl) <| Nn ?_
       exact AWP.weak (Weak.toK 9223372036854775841 0 0 [0]) (J7 () hm)
      ·
       replace hm := cF hq55_6 hm
       refine Wz (.b false) (Oq hq55_6 rfl) <| Wz (.loc 0 0) (Ocs (by kernel_rfl) (op_iaddr_arr rfl (n := 2) (sz := 1) (y := (.loc 0 0)) (by kernel_rfl) (by kernel_rfl) (by kernel_rfl) (k := .i64) (iv := 0) (by kernel_rfl) (i := 0) (by rfl) (by decide))) <| Wz (.i p2.a0) (Old rfl) <| Wz (.b (decide (p2.a0 ≤ 1))) (Obn rfl (fun _ => hb_leq (k := .i64))) ?_
       rcases tf_ (decide (p2.a0 ≤ 1)) with hq59_6 | hq59_6
       ·
        replace hm := cT hq59_6 hm
        refine Wz (.b true) (Oq hq59_6 rfl) <| Wm (.i r41_5) rfl <| Wz (.b (decide (r41_5 ≠ 0))) (Obn rfl (fun _ => hb_neq (k := .i64))) <| Wz (.b (decide (r41_5 ≠ 0))) (OpT rfl) <| Wz (.b (decide (r41_5 ≠ 0))) (OpF rfl) <| Nn ?_
        exact AWP.weak (Weak.toK 9223372036854775841 0 0 [0]) (J8 () hm)
       ·
        replace hm := cF hq59_6 hm
        refine Wz (.b false) (Oq hq59_6 rfl) <| Wn <| Wn <| Wz (.b false) (OpF rfl) <| Wz (.b false) (OpF rfl) <| Nn ?_
        exact AWP.weak (Weak.toK 9223372036854775841 0 0 [0]) (J9 () hm)
     ·
      replace hm := cF hq48_6 hm
      refine Wz (.b false) (Oq hq48_6 rfl) <| Wn <| Wn <| Wn <| Wn <| Wz (.b false) (OpF rfl) <| Wz (.b false) (OpF rfl) <| Wm (.b false) rfl <| Wz (.loc 0 0) (Ocs (by kernel_rfl) (op_iaddr_arr rfl (n := 2) (sz := 1) (y := (.loc 0 0)) (by kernel_rfl) (by kernel_rfl) (by kernel_rfl) (k := .i64) (iv := 0) (by kernel_rfl) (i := 0) (by rfl) (by decide))) <| Wz (.i p2.a0) (Old rfl) <| Wz (.b (decide (p2.a0 ≤ 1))) (Obn rfl (fun _ => hb_leq (k := .i64))) ?_
      rcases tf_ (decide (p2.a0 ≤ 1)) with hq59_6 | hq59_6
      ·
       replace hm := cT hq59_6 hm
       refine Wz (.b true) (Oq hq59_6 rfl) <| Wm (.i r41_5) rfl <| Wz (.b (decide (r41_5 ≠ 0))) (Obn rfl (fun _ => hb_neq (k := .i64))) <| Wz (.b (decide (r41_5 ≠ 0))) (OpT rfl) <| Wz (.b (decide (r41_5 ≠ 0))) (OpF rfl) <| Nn ?_
       exact AWP.weak (Weak.toK 9223372036854775841 0 0 [0]) (J8 () hm)
      ·
       replace hm := cF hq59_6 hm
       refine Wz (.b false) (Oq hq59_6 rfl) <| Wn <| Wn <| Wz (.b false) (OpF rfl) <| Wz (.b false) (OpF rfl) <| Nn ?_
       exact AWP.weak (Weak.toK 9223372036854775841 0 0 [0]) (J9 () hm)
   refine Sq <| Sx <| Wm (.s p0) rfl <| Wm (.s p1) rfl ?_
   obtain ⟨t21_3, ht21_3, hm⟩ := bnd hm; obtain ⟨ht21_3e, ht21_3l⟩ := app_some ht21_3
   refine Wz (.s t21_3) (op_bin rfl (a1 := .string (toS p0)) (a2 := .string (toS p1)) (by kernel_rfl) (by kernel_rfl) (fun _ => hb_sadd ht21_3e ht21_3l)) ?_
   obtain ⟨r22_3, hr22_3, hm⟩ := bnd hm
   refine Wz (.u r22_3) (Ocf [] [] [] 0 (ok_hash_Sum t21_3 r22_3 hr22_3) (fun a w => Try.call10 a w) rfl trivial) <| Wm (.s p0) rfl ?_
   obtain ⟨r24_3, hr24_3, hm⟩ := bnd hm
   refine Wz (.u r24_3) (Ocf [] [] [] 0 (ok_hash_Sum p0 r24_3 hr24_3) (fun a w => Try.call10 a w) rfl trivial) <| Wm (.s p1) rfl ?_
   obtain ⟨r26_3, hr26_3, hm⟩ := bnd hm
   refine Wz (.u r26_3) (Ocf [] [] [] 0 (ok_hash_Add r24_3 p1 r26_3 hr26_3) (fun a w => Try.call8 a w) rfl trivial) <| Wz (.b (decide (r22_3 ≠ r26_3))) (Obn rfl (fun _ => hb_neq (k := .u64))) ?_
   rcases tf_ (decide (r22_3 ≠ r26_3)) with hq28_3 | hq28_3
   ·
    replace hm := cT hq28_3 hm
    refine Wz (.b true) (Oq hq28_3 rfl) <| Wn <| Wn <| Wn <| Wn <| Wn <| Wn <| Wn <| Wn <| Wz (.b true) (OpT rfl) <| Nk 137438953505 1 ⟨.s p0::tp 4 (.loc 0 0::tp 31 (.b true::tp 61 [])), [(.box [(.i p2.a0), (.i p2.a1)])], 0⟩ <| AWP.if_ true (by kernel_rfl) <| Sx <| Wm (.b false) rfl ?_
    refine Nn <| Rt <| Tr ?_
    obtain rfl := Option.some.inj hm
    exact ret_i []
   ·
    replace hm := cF hq28_3 hm
    refine Wz (.b false) (Oq hq28_3 rfl) <| Wm (.s p0) rfl <| Wz (.i ((List.length p0 : Nat) : Int)) (Oln rfl) <| Wz (.b (decide (((List.length p0 : Nat) : Int) = 0))) (Obn rfl (fun _ => hb_eql (k := .i64))) ?_
    rcases tf_ (decide (((List.length p0 : Nat) : Int) = 0)) with hq32_3 | hq32_3
    ·
     replace hm := cT hq32_3 hm
     refine Wz (.b true) (Oq hq32_3 rfl) <| Wm (.s p0) rfl ?_
     obtain ⟨r34_3, hr34_3, hm⟩ := bnd hm
     refine Wz (.u r34_3) (Ocf [] [] [] 0 (ok_hash_Add 7 p0 r34_3 hr34_3) (fun a w => Try.call8 a w) rfl trivial) <| Wz (.b (decide (r34_3 ≠ 7))) (Obn rfl (fun _ => hb_neq (k := .u64))) <| Wz (.b (decide (r34_3 ≠ 7))) (OpT rfl) <| Wz (.b (decide (r34_3 ≠ 7))) (OpF rfl) <| Nk 137438953505 1 ⟨.s p0::tp 4 (.loc 0 0::tp 31 (.b (decide (r34_3 ≠ 7))::tp 61 [])), [(.box [(.i p2.a0), (.i p2.a1)])], 0⟩ ?_
     rcases tf_ (decide (r34_3 ≠ 7)) with hc37_20 | hc37_20
     ·
      replace hm := cT hc37_20 hm
      refine AiT hc37_20 <| Sx <| Wm (.b false) rfl <| Nn <| Rt <| Tr ?_
      obtain rfl := Option.some.inj hm
      exact ret_i []
     ·
      replace hm := cF hc37_20 hm
      refine AiF hc37_20 <| Sk <| Tn ?_
      exact AWP.weak (Weak.toK 33 0 0 [0]) (J4 () hm)
    ·
     replace hm := cF hq32_3 hm
     refine Wz (.b false) (Oq hq32_3 rfl) <| Wn <| Wn <| Wn <| Wz (.b false) (OpF rfl) <| Wz (.b false) (OpF rfl) <| Nk 137438953505 1 ⟨.s p0::tp 4 (.loc 0 0::tp 31 (.b false::tp 61 [])), [(.box [(.i p2.a0), (.i p2.a1)])], 0⟩ <| AWP.if_ false (by kernel_rfl) <| Sk <| Tn ?_
     exact AWP.weak (Weak.toK 33 0 0 [0]) (J4 () hm)
end Go.Proofs.Ytpacbldefdggjaa.K
