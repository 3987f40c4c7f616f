/- each function computes what its model says (0) -/
import Derived.Test.YtgocnknbiipcfaaLM
namespace Go.Proofs.Ytgocnknbiipcfaa.K
open Go.RowKit Go.Lib
set_option linter.unusedVariables false
set_option linter.unusedSimpArgs false

set_option maxRecDepth 20000 in
set_option maxHeartbeats 4000000 in
theorem ok_value_OfText (p0 : (List UInt8)) (r : GValue) (h : m_value_OfText p0 = some r) : GCall Try.prog 21 [(.d (.lit (.string (toS p0))))] [] (.agg [(.d (byteD r.Kind)), (.d (.lit (.int .i64 r.N))), (.d (.lit (.int .u64 r.Bits))), (.d (.lit (.string (toS r.Text))))]) [] := by
  refine GCall.of_body (n := 10) (rs := [(.cell 2 31)]) Try.func21 rfl rfl rfl ?_
  refine Ato ⟨((.d (.lit (.string (toS p0)))) :: (tu 9 [])), [], 0⟩ ?_
  have hm := h
  unfold m_value_OfText at hm
  refine AWP.seq ?_
  refine AWP.text ?_
  refine Wy (.loc 0 0) [(0, (.box [(.d (byteD 0)), (.d (.lit (.int .i64 0))), (.d (.lit (.int .u64 0))), (.d (.lit (.string (toS ([] : List UInt8)))))]))] (Oal rfl) ?_
  refine Walk.nil ?_
  refine Then.normal ?_
  refine Amk 5 1 ⟨((.d (.lit (.string (toS p0)))) :: (tp 1 ((.loc 0 0) :: (tp 7 [])))), [(.box [(.d (byteD 0)), (.d (.lit (.int .i64 0))), (.d (.lit (.int .u64 0))), (.d (.lit (.string (toS ([] : List UInt8)))))])], 0⟩ ?_
  refine AWP.cutJ (α := (List UInt8)) (fun x => match x with | y0_2 => (⟨((.d (.lit (.string (toS y0_2)))) :: (tp 1 ((.loc 0 0) :: (tp 7 [])))), [(.box [(.d (byteD 0)), (.d (.lit (.int .i64 0))), (.d (.lit (.int .u64 0))), (.d (.lit (.string (toS ([] : List UInt8)))))])], 0⟩ : St)) (fun x => match x with | y0_2 => m_value_OfText_j2  y0_2 = some r) ?_ (fun J2 => ?_)
  · rintro y0_2 hm
    try dsimp only at hm ⊢
    unfold m_value_OfText_j2 at hm
    refine AWP.seq ?_
    refine AWP.text ?_
    refine Wy (.d (.lit (.string (toS y0_2)))) [] (Omv rfl) ?_
    refine Wy (.agg [(.d (byteD 4)), (.d (.lit (.int .i64 0))), (.d (.lit (.int .u64 0))), (.d (.lit (.string (toS y0_2))))]) [] (Obd rfl) ?_
    refine Wy (.tup []) [(0, (.box [(.d (byteD 4)), (.d (.lit (.int .i64 0))), (.d (.lit (.int .u64 0))), (.d (.lit (.string (toS y0_2))))]))] (Ost rfl) ?_
    refine Walk.nil ?_
    refine Then.normal ?_
    refine AWP.ret ?_
    obtain rfl := Option.some.inj hm
    exact ret_i []
  refine AWP.seq ?_
  refine AWP.seq ?_
  refine AWP.text ?_
  refine Wy (.d (.lit (.string (toS p0)))) [] (Omv rfl) ?_
  refine Wy (.d (.lit (.int .i64 ((List.length p0 : Nat) : Int)))) [] (Oln rfl) ?_
  refine Wy (.d (.lit (.bool (decide ((24 : Int) < ((List.length p0 : Nat) : Int)))))) [] (Obn rfl (fun _ => hb_gtr (k := .i64))) ?_
  refine Walk.nil ?_
  refine Then.normal ?_
  refine Amk 37 1 ⟨((.d (.lit (.string (toS p0)))) :: (tp 1 ((.loc 0 0) :: (tp 2 ((.d (.lit (.bool (decide ((24 : Int) < ((List.length p0 : Nat) : Int)))))) :: (tp 4 [])))))), [(.box [(.d (byteD 0)), (.d (.lit (.int .i64 0))), (.d (.lit (.int .u64 0))), (.d (.lit (.string (toS ([] : List UInt8)))))])], 0⟩ ?_
  rcases tf_ (decide ((24 : Int) < ((List.length p0 : Nat) : Int))) with hc5_3 | hc5_3
  · replace hm := cT hc5_3 hm
    refine AWP.if_ true (Eq.trans (by kernel_rfl) (lit_tf (b := decide ((24 : Int) < ((List.length p0 : Nat) : Int))) hc5_3)) ?_
    refine AWP.text ?_
    refine Wy (.d (.lit (.string (toS p0)))) [] (Omv rfl) ?_
    obtain ⟨s7_1, hs7_1, hm⟩ := bnd hm; obtain ⟨hs7_1a, hs7_1b, hs7_1c, hs7_1d, hs7_1e⟩ := cut_some hs7_1
    refine Wy (.d (.lit (.string (toS s7_1)))) [] (Ocs (lit_str (toS_cut hs7_1e)) (op_slice_str rfl (by kernel_rfl) (s := toS p0) (by kernel_rfl) (l := (Int.toNat 0)) (h := (Int.toNat 24)) (by exact rfl) (⟨.i64, 24, by kernel_rfl, hs7_1b⟩) hs7_1c hs7_1d)) ?_
    refine Wy (.d (.lit (.string (toS s7_1)))) [] (Omv rfl) ?_
    refine Walk.nil ?_
    refine Then.normal ?_
    exact AWP.weak (Weak.toK 5 0 0 [0]) (J2 (s7_1) hm)
  · replace hm := cF hc5_3 hm
    refine AWP.if_ false (Eq.trans (by kernel_rfl) (lit_tf (b := decide ((24 : Int) < ((List.length p0 : Nat) : Int))) hc5_3)) ?_
    refine AWP.skip ?_
    refine Then.normal ?_
    exact AWP.weak (Weak.toK 5 0 0 [0]) (J2 (p0) hm)

set_option maxRecDepth 20000 in
set_option maxHeartbeats 4000000 in
theorem ok_value_core (p0 : GValue) (r : Value) (h : m_value_core p0 = some r) : GCall Try.prog 34 [(.agg [(.d (byteD p0.Kind)), (.d (.lit (.int .i64 p0.N))), (.d (.lit (.int .u64 p0.Bits))), (.d (.lit (.string (toS p0.Text))))])] [] (.d (.lit r)) [] := by
  refine GCall.of_body (n := 25) (rs := [(.tmp 2)]) Try.func34 rfl rfl rfl ?_
  refine Ato ⟨((.agg [(.d (byteD p0.Kind)), (.d (.lit (.int .i64 p0.N))), (.d (.lit (.int .u64 p0.Bits))), (.d (.lit (.string (toS p0.Text))))]) :: (tu 24 [])), [], 0⟩ ?_
  have hm := h
  unfold m_value_core at hm
  refine AWP.seq ?_
  refine AWP.text ?_
  refine Wy (.loc 0 0) [(0, (.box [(.d (byteD p0.Kind)), (.d (.lit (.int .i64 p0.N))), (.d (.lit (.int .u64 p0.Bits))), (.d (.lit (.string (toS p0.Text))))]))] (Obx rfl) ?_
  refine Wy (.d (.lit Value.nilIface)) [] (Omv rfl) ?_
  refine Walk.nil ?_
  refine Then.normal ?_
  refine Amk 2 1 ⟨(tp 1 ((.loc 0 0) :: (tp 23 []))), [(.box [(.d (byteD p0.Kind)), (.d (.lit (.int .i64 p0.N))), (.d (.lit (.int .u64 p0.Bits))), (.d (.lit (.string (toS p0.Text))))])], 0⟩ ?_
  refine AWP.seq ?_
  refine AWP.seq ?_
  refine AWP.text ?_
  refine Wy (.loc 0 0) [] (Ofa rfl) ?_
  refine Wy (.d (byteD p0.Kind)) [] (Old rfl) ?_
  refine Walk.nil ?_
  refine Then.normal ?_
  refine Amk 18 1 ⟨(tp 1 ((.loc 0 0) :: (tp 2 ((.d (byteD p0.Kind)) :: (tp 20 []))))), [(.box [(.d (byteD p0.Kind)), (.d (.lit (.int .i64 p0.N))), (.d (.lit (.int .u64 p0.Bits))), (.d (.lit (.string (toS p0.Text))))])], 0⟩ ?_
  refine AWP.block ?_
  refine AWP.seq ?_
  refine AWP.text ?_
  refine Wy (.d (.lit (.bool (decide (((p0.Kind.toNat : Nat) : Int) = 1))))) [] (Ocs (by kernel_rfl) (op_bin rfl (a1 := .int .u8 ((p0.Kind.toNat : Nat) : Int)) (a2 := .int .u8 1) (by kernel_rfl) (by kernel_rfl) (fun _ => hb_eql))) ?_
  refine Wy (.d (.lit (.bool (decide (((p0.Kind.toNat : Nat) : Int) = 1))))) [] (Omv rfl) ?_
  refine Walk.nil ?_
  refine Then.normal ?_
  refine Amk 50 1 ⟨(tp 1 ((.loc 0 0) :: (tp 2 ((.d (byteD p0.Kind)) :: ((.d (.lit (.bool (decide (((p0.Kind.toNat : Nat) : Int) = 1))))) :: (tp 19 [])))))), [(.box [(.d (byteD p0.Kind)), (.d (.lit (.int .i64 p0.N))), (.d (.lit (.int .u64 p0.Bits))), (.d (.lit (.string (toS p0.Text))))])], 0⟩ ?_
  rcases tf_ (decide (((p0.Kind.toNat : Nat) : Int) = 1)) with hc5_0 | hc5_0
  · replace hm := cT hc5_0 hm
    refine AWP.if_ true (Eq.trans (by kernel_rfl) (lit_tf (b := decide (((p0.Kind.toNat : Nat) : Int) = 1)) hc5_0)) ?_
    refine AWP.seq ?_
    refine AWP.text ?_
    refine Wy (.loc 0 1) [] (Ofa rfl) ?_
    refine Wy (.d (.lit (.int .i64 p0.N))) [] (Old rfl) ?_
    refine Wy (.d (.lit (Value.iface 62 (.int .i64 p0.N)))) [] (Oif rfl) ?_
    refine Wy (.d (.lit (Value.iface 62 (.int .i64 p0.N)))) [] (Omv rfl) ?_
    refine Walk.nil ?_
    refine Then.normal ?_
    refine AWP.ret ?_
    refine InBlock.ret ?_
    refine Then.ret ?_
    obtain rfl := Option.some.inj hm
    exact ret_i []
  · replace hm := cF hc5_0 hm
    refine AWP.if_ false (Eq.trans (by kernel_rfl) (lit_tf (b := decide (((p0.Kind.toNat : Nat) : Int) = 1)) hc5_0)) ?_
    refine AWP.seq ?_
    refine AWP.text ?_
    refine Wy (.d (.lit (.bool (decide (((p0.Kind.toNat : Nat) : Int) = 2))))) [] (Ocs (by kernel_rfl) (op_bin rfl (a1 := .int .u8 ((p0.Kind.toNat : Nat) : Int)) (a2 := .int .u8 2) (by kernel_rfl) (by kernel_rfl) (fun _ => hb_eql))) ?_
    refine Wy (.d (.lit (.bool (decide (((p0.Kind.toNat : Nat) : Int) = 2))))) [] (Omv rfl) ?_
    refine Walk.nil ?_
    refine Then.normal ?_
    refine Amk 1042 1 ⟨(tp 1 ((.loc 0 0) :: (tp 2 ((.d (byteD p0.Kind)) :: (tp 5 ((.d (.lit (.bool (decide (((p0.Kind.toNat : Nat) : Int) = 2))))) :: (tp 14 []))))))), [(.box [(.d (byteD p0.Kind)), (.d (.lit (.int .i64 p0.N))), (.d (.lit (.int .u64 p0.Bits))), (.d (.lit (.string (toS p0.Text))))])], 0⟩ ?_
    rcases tf_ (decide (((p0.Kind.toNat : Nat) : Int) = 2)) with hc10_1 | hc10_1
    · replace hm := cT hc10_1 hm
      refine AWP.if_ true (Eq.trans (by kernel_rfl) (lit_tf (b := decide (((p0.Kind.toNat : Nat) : Int) = 2)) hc10_1)) ?_
      refine AWP.seq ?_
      refine AWP.text ?_
      refine Wy (.loc 0 1) [] (Ofa rfl) ?_
      refine Wy (.d (.lit (.int .i64 p0.N))) [] (Old rfl) ?_
      refine Wy (.d (.lit (Value.iface 63 (.int .i64 p0.N)))) [] (Oif rfl) ?_
      refine Wy (.d (.lit (Value.iface 63 (.int .i64 p0.N)))) [] (Omv rfl) ?_
      refine Walk.nil ?_
      refine Then.normal ?_
      refine AWP.ret ?_
      refine InBlock.ret ?_
      refine Then.ret ?_
      obtain rfl := Option.some.inj hm
      exact ret_i []
    · replace hm := cF hc10_1 hm
      refine AWP.if_ false (Eq.trans (by kernel_rfl) (lit_tf (b := decide (((p0.Kind.toNat : Nat) : Int) = 2)) hc10_1)) ?_
      refine AWP.seq ?_
      refine AWP.text ?_
      refine Wy (.d (.lit (.bool (decide (((p0.Kind.toNat : Nat) : Int) = 3))))) [] (Ocs (by kernel_rfl) (op_bin rfl (a1 := .int .u8 ((p0.Kind.toNat : Nat) : Int)) (a2 := .int .u8 3) (by kernel_rfl) (by kernel_rfl) (fun _ => hb_eql))) ?_
      refine Wy (.d (.lit (.bool (decide (((p0.Kind.toNat : Nat) : Int) = 3))))) [] (Omv rfl) ?_
      refine Walk.nil ?_
      refine Then.normal ?_
      refine Amk 32786 1 ⟨(tp 1 ((.loc 0 0) :: (tp 2 ((.d (byteD p0.Kind)) :: (tp 10 ((.d (.lit (.bool (decide (((p0.Kind.toNat : Nat) : Int) = 3))))) :: (tp 9 []))))))), [(.box [(.d (byteD p0.Kind)), (.d (.lit (.int .i64 p0.N))), (.d (.lit (.int .u64 p0.Bits))), (.d (.lit (.string (toS p0.Text))))])], 0⟩ ?_
      rcases tf_ (decide (((p0.Kind.toNat : Nat) : Int) = 3)) with hc15_2 | hc15_2
      · replace hm := cT hc15_2 hm
        refine AWP.if_ true (Eq.trans (by kernel_rfl) (lit_tf (b := decide (((p0.Kind.toNat : Nat) : Int) = 3)) hc15_2)) ?_
        refine AWP.seq ?_
        refine AWP.text ?_
        refine Wy (.loc 0 2) [] (Ofa rfl) ?_
        refine Wy (.d (.lit (.int .u64 p0.Bits))) [] (Old rfl) ?_
        refine Wy (.d (.lit (Value.iface 64 (.int .u64 p0.Bits)))) [] (Oif rfl) ?_
        refine Wy (.d (.lit (Value.iface 64 (.int .u64 p0.Bits)))) [] (Omv rfl) ?_
        refine Walk.nil ?_
        refine Then.normal ?_
        refine AWP.ret ?_
        refine InBlock.ret ?_
        refine Then.ret ?_
        obtain rfl := Option.some.inj hm
        exact ret_i []
      · replace hm := cF hc15_2 hm
        refine AWP.if_ false (Eq.trans (by kernel_rfl) (lit_tf (b := decide (((p0.Kind.toNat : Nat) : Int) = 3)) hc15_2)) ?_
        refine AWP.seq ?_
        refine AWP.text ?_
        refine Wy (.d (.lit (.bool (decide (((p0.Kind.toNat : Nat) : Int) = 4))))) [] (Ocs (by kernel_rfl) (op_bin rfl (a1 := .int .u8 ((p0.Kind.toNat : Nat) : Int)) (a2 := .int .u8 4) (by kernel_rfl) (by kernel_rfl) (fun _ => hb_eql))) ?_
        refine Wy (.d (.lit (.bool (decide (((p0.Kind.toNat : Nat) : Int) = 4))))) [] (Omv rfl) ?_
        refine Walk.nil ?_
        refine Then.normal ?_
        refine Amk 1048578 1 ⟨(tp 1 ((.loc 0 0) :: (tp 18 ((.d (.lit (.bool (decide (((p0.Kind.toNat : Nat) : Int) = 4))))) :: (tp 4 []))))), [(.box [(.d (byteD p0.Kind)), (.d (.lit (.int .i64 p0.N))), (.d (.lit (.int .u64 p0.Bits))), (.d (.lit (.string (toS p0.Text))))])], 0⟩ ?_
        rcases tf_ (decide (((p0.Kind.toNat : Nat) : Int) = 4)) with hc20_3 | hc20_3
        · replace hm := cT hc20_3 hm
          refine AWP.if_ true (Eq.trans (by kernel_rfl) (lit_tf (b := decide (((p0.Kind.toNat : Nat) : Int) = 4)) hc20_3)) ?_
          refine AWP.seq ?_
          refine AWP.text ?_
          refine Wy (.loc 0 3) [] (Ofa rfl) ?_
          refine Wy (.d (.lit (.string (toS p0.Text)))) [] (Old rfl) ?_
          refine Wy (.d (.lit (Value.iface 66 (.string (toS p0.Text))))) [] (Oif rfl) ?_
          refine Wy (.d (.lit (Value.iface 66 (.string (toS p0.Text))))) [] (Omv rfl) ?_
          refine Walk.nil ?_
          refine Then.normal ?_
          refine AWP.ret ?_
          refine InBlock.ret ?_
          refine Then.ret ?_
          obtain rfl := Option.some.inj hm
          exact ret_i []
        · replace hm := cF hc20_3 hm
          refine AWP.if_ false (Eq.trans (by kernel_rfl) (lit_tf (b := decide (((p0.Kind.toNat : Nat) : Int) = 4)) hc20_3)) ?_
          refine AWP.skip ?_
          refine InBlock.normal ?_
          refine Then.normal ?_
          refine Amk 0 0 ⟨(tp 25 []), [.gone], 0⟩ ?_
          refine AWP.seq ?_
          refine AWP.text ?_
          refine Wy (.d (.lit Value.nilIface)) [] (Omv rfl) ?_
          refine Walk.nil ?_
          refine Then.normal ?_
          refine AWP.ret ?_
          obtain rfl := Option.some.inj hm
          exact ret_i []

set_option maxRecDepth 20000 in
set_option maxHeartbeats 4000000 in
theorem ok_real_of (p0 : Int) (r : Nat) (h : m_real_of p0 = some r) : GCall Try.prog 53 [(.d (.lit (.int .u64 p0)))] [] (.d (.lit (.float .f64 r))) [] := by
  refine GCall.of_body (n := 5) (rs := [(.tmp 2)]) Try.func53 rfl rfl rfl ?_
  refine Ato ⟨((.d (.lit (.int .u64 p0))) :: (tu 4 [])), [], 0⟩ ?_
  have hm := h
  unfold m_real_of at hm
  refine AWP.seq ?_
  refine AWP.text ?_
  refine Wy (.d (.lit (.float .f64 0))) [] (Omv rfl) ?_
  refine Walk.nil ?_
  refine Then.normal ?_
  refine Amk 1 0 ⟨((.d (.lit (.int .u64 p0))) :: (tp 4 [])), [], 0⟩ ?_
  refine AWP.seq ?_
  refine AWP.text ?_
  refine Wy (.d (.lit (.int .u64 p0))) [] (Omv rfl) ?_
  refine Wy (.d (.lit (.float .f64 (Int.toNat p0)))) [] (Ofb (f := 66) (fun _ => by kernel_rfl) rfl) ?_
  refine Wy (.d (.lit (.float .f64 (Int.toNat p0)))) [] (Omv rfl) ?_
  refine Walk.nil ?_
  refine Then.normal ?_
  refine AWP.ret ?_
  obtain rfl := Option.some.inj hm
  exact ret_i []

set_option maxRecDepth 20000 in
set_option maxHeartbeats 4000000 in
theorem ok_real_Clean (p0 : Int) (r : Int) (h : m_real_Clean p0 = some r) : GCall Try.prog 35 [(.d (.lit (.int .u64 p0)))] [] (.d (.lit (.int .u64 r))) [] := by
  refine GCall.of_body (n := 10) (rs := [(.tmp 2)]) Try.func35 rfl rfl rfl ?_
  refine Ato ⟨((.d (.lit (.int .u64 p0))) :: (tu 9 [])), [], 0⟩ ?_
  have hm := h
  unfold m_real_Clean at hm
  refine AWP.seq ?_
  refine AWP.text ?_
  refine Wy (.d (.lit (.int .u64 0))) [] (Omv rfl) ?_
  refine Walk.nil ?_
  refine Then.normal ?_
  refine Amk 1 0 ⟨((.d (.lit (.int .u64 p0))) :: (tp 9 [])), [], 0⟩ ?_
  refine AWP.seq ?_
  refine AWP.seq ?_
  refine AWP.text ?_
  refine Wy (.d (.lit (.int .u64 p0))) [] (Omv rfl) ?_
  obtain ⟨r5_0, hr5_0, hm⟩ := bnd hm
  refine Wy (.d (.lit (.float .f64 r5_0))) [] (Ocf [] [] [] 0 (ok_real_of p0 r5_0 hr5_0) (fun a w => Try.call53 a w) rfl trivial) ?_
  refine Wy (.d (.lit (.float .f64 r5_0))) [] (Omv rfl) ?_
  refine Walk.nil ?_
  refine Then.normal ?_
  refine Amk 9 0 ⟨((.d (.lit (.int .u64 p0))) :: (tp 2 ((.d (.lit (.float .f64 r5_0))) :: (tp 6 [])))), [], 0⟩ ?_
  refine AWP.seq ?_
  refine AWP.text ?_
  refine Wy (.d (.lit (.float .f64 r5_0))) [] (Omv rfl) ?_
  refine Wy (.d (.lit (.float .f64 r5_0))) [] (Omv rfl) ?_
  refine Wy (.d (.lit (.bool (fne r5_0 r5_0)))) [] (op_bin rfl (a1 := .float .f64 r5_0) (a2 := .float .f64 r5_0) (by kernel_rfl) (by kernel_rfl) (fun _ => hb_fneq)) ?_
  refine Walk.nil ?_
  refine Then.normal ?_
  refine Amk 257 0 ⟨((.d (.lit (.int .u64 p0))) :: (tp 7 ((.d (.lit (.bool (fne r5_0 r5_0)))) :: (tp 1 [])))), [], 0⟩ ?_
  rcases tf_ (fne r5_0 r5_0) with hc8_1 | hc8_1
  · replace hm := cT hc8_1 hm
    refine AWP.if_ true (Eq.trans (by kernel_rfl) (lit_tf (b := (fne r5_0 r5_0)) hc8_1)) ?_
    refine AWP.seq ?_
    refine AWP.text ?_
    refine Wy (.d (.lit (.int .u64 9221120237041090560))) [] (Omv rfl) ?_
    refine Walk.nil ?_
    refine Then.normal ?_
    refine AWP.ret ?_
    refine Then.ret ?_
    obtain rfl := Option.some.inj hm
    exact ret_i []
  · replace hm := cF hc8_1 hm
    refine AWP.if_ false (Eq.trans (by kernel_rfl) (lit_tf (b := (fne r5_0 r5_0)) hc8_1)) ?_
    refine AWP.skip ?_
    refine Then.normal ?_
    refine Amk 1 0 ⟨((.d (.lit (.int .u64 p0))) :: (tp 9 [])), [], 0⟩ ?_
    refine AWP.seq ?_
    refine AWP.text ?_
    refine Wy (.d (.lit (.int .u64 p0))) [] (Omv rfl) ?_
    refine Wy (.d (.lit (.int .u64 p0))) [] (Omv rfl) ?_
    refine Walk.nil ?_
    refine Then.normal ?_
    refine AWP.ret ?_
    obtain rfl := Option.some.inj hm
    exact ret_i []

set_option maxRecDepth 20000 in
set_option maxHeartbeats 4000000 in
theorem ok_value_number_whole (p0 : Int) (r : GValue) (h : m_value_number_whole p0 = some r) : GCall Try.prog 89 [(.d (.lit (.int .i64 p0)))] [] (.agg [(.d (byteD r.Kind)), (.d (.lit (.int .i64 r.N))), (.d (.lit (.int .u64 r.Bits))), (.d (.lit (.string (toS r.Text))))]) [] := by
  refine GCall.of_body (n := 5) (rs := [(.cell 2 31)]) Try.func89 rfl rfl rfl ?_
  refine Ato ⟨((.d (.lit (.int .i64 p0))) :: (tu 4 [])), [], 0⟩ ?_
  have hm := h
  unfold m_value_number_whole at hm
  refine AWP.seq ?_
  refine AWP.text ?_
  refine Wy (.loc 0 0) [(0, (.box [(.d (byteD 0)), (.d (.lit (.int .i64 0))), (.d (.lit (.int .u64 0))), (.d (.lit (.string (toS ([] : List UInt8)))))]))] (Oal rfl) ?_
  refine Walk.nil ?_
  refine Then.normal ?_
  refine Amk 5 1 ⟨((.d (.lit (.int .i64 p0))) :: (tp 1 ((.loc 0 0) :: (tp 2 [])))), [(.box [(.d (byteD 0)), (.d (.lit (.int .i64 0))), (.d (.lit (.int .u64 0))), (.d (.lit (.string (toS ([] : List UInt8)))))])], 0⟩ ?_
  refine AWP.seq ?_
  refine AWP.text ?_
  refine Wy (.d (.lit (.int .i64 p0))) [] (Omv rfl) ?_
  refine Wy (.agg [(.d (byteD 1)), (.d (.lit (.int .i64 p0))), (.d (.lit (.int .u64 0))), (.d (.lit (.string (toS ([] : List UInt8)))))]) [] (Obd rfl) ?_
  refine Wy (.tup []) [(0, (.box [(.d (byteD 1)), (.d (.lit (.int .i64 p0))), (.d (.lit (.int .u64 0))), (.d (.lit (.string (toS ([] : List UInt8)))))]))] (Ost rfl) ?_
  refine Walk.nil ?_
  refine Then.normal ?_
  refine AWP.ret ?_
  obtain rfl := Option.some.inj hm
  exact ret_i []

set_option maxRecDepth 20000 in
set_option maxHeartbeats 4000000 in
theorem ok_value_flag_whole (p0 : Int) (r : GValue) (h : m_value_flag_whole p0 = some r) : GCall Try.prog 90 [(.d (.lit (.int .i64 p0)))] [] (.agg [(.d (byteD r.Kind)), (.d (.lit (.int .i64 r.N))), (.d (.lit (.int .u64 r.Bits))), (.d (.lit (.string (toS r.Text))))]) [] := by
  refine GCall.of_body (n := 5) (rs := [(.cell 2 31)]) Try.func90 rfl rfl rfl ?_
  refine Ato ⟨((.d (.lit (.int .i64 p0))) :: (tu 4 [])), [], 0⟩ ?_
  have hm := h
  unfold m_value_flag_whole at hm
  refine AWP.seq ?_
  refine AWP.text ?_
  refine Wy (.loc 0 0) [(0, (.box [(.d (byteD 0)), (.d (.lit (.int .i64 0))), (.d (.lit (.int .u64 0))), (.d (.lit (.string (toS ([] : List UInt8)))))]))] (Oal rfl) ?_
  refine Walk.nil ?_
  refine Then.normal ?_
  refine Amk 5 1 ⟨((.d (.lit (.int .i64 p0))) :: (tp 1 ((.loc 0 0) :: (tp 2 [])))), [(.box [(.d (byteD 0)), (.d (.lit (.int .i64 0))), (.d (.lit (.int .u64 0))), (.d (.lit (.string (toS ([] : List UInt8)))))])], 0⟩ ?_
  refine AWP.seq ?_
  refine AWP.text ?_
  refine Wy (.d (.lit (.int .i64 p0))) [] (Omv rfl) ?_
  refine Wy (.agg [(.d (byteD 2)), (.d (.lit (.int .i64 p0))), (.d (.lit (.int .u64 0))), (.d (.lit (.string (toS ([] : List UInt8)))))]) [] (Obd rfl) ?_
  refine Wy (.tup []) [(0, (.box [(.d (byteD 2)), (.d (.lit (.int .i64 p0))), (.d (.lit (.int .u64 0))), (.d (.lit (.string (toS ([] : List UInt8)))))]))] (Ost rfl) ?_
  refine Walk.nil ?_
  refine Then.normal ?_
  refine AWP.ret ?_
  obtain rfl := Option.some.inj hm
  exact ret_i []

set_option maxRecDepth 20000 in
set_option maxHeartbeats 4000000 in
theorem ok_value_double_whole (p0 : Int) (r : GValue) (h : m_value_double_whole p0 = some r) : GCall Try.prog 91 [(.d (.lit (.int .u64 p0)))] [] (.agg [(.d (byteD r.Kind)), (.d (.lit (.int .i64 r.N))), (.d (.lit (.int .u64 r.Bits))), (.d (.lit (.string (toS r.Text))))]) [] := by
  refine GCall.of_body (n := 5) (rs := [(.cell 2 31)]) Try.func91 rfl rfl rfl ?_
  refine Ato ⟨((.d (.lit (.int .u64 p0))) :: (tu 4 [])), [], 0⟩ ?_
  have hm := h
  unfold m_value_double_whole at hm
  refine AWP.seq ?_
  refine AWP.text ?_
  refine Wy (.loc 0 0) [(0, (.box [(.d (byteD 0)), (.d (.lit (.int .i64 0))), (.d (.lit (.int .u64 0))), (.d (.lit (.string (toS ([] : List UInt8)))))]))] (Oal rfl) ?_
  refine Walk.nil ?_
  refine Then.normal ?_
  refine Amk 5 1 ⟨((.d (.lit (.int .u64 p0))) :: (tp 1 ((.loc 0 0) :: (tp 2 [])))), [(.box [(.d (byteD 0)), (.d (.lit (.int .i64 0))), (.d (.lit (.int .u64 0))), (.d (.lit (.string (toS ([] : List UInt8)))))])], 0⟩ ?_
  refine AWP.seq ?_
  refine AWP.text ?_
  refine Wy (.d (.lit (.int .u64 p0))) [] (Omv rfl) ?_
  refine Wy (.agg [(.d (byteD 3)), (.d (.lit (.int .i64 0))), (.d (.lit (.int .u64 p0))), (.d (.lit (.string (toS ([] : List UInt8)))))]) [] (Obd rfl) ?_
  refine Wy (.tup []) [(0, (.box [(.d (byteD 3)), (.d (.lit (.int .i64 0))), (.d (.lit (.int .u64 p0))), (.d (.lit (.string (toS ([] : List UInt8)))))]))] (Ost rfl) ?_
  refine Walk.nil ?_
  refine Then.normal ?_
  refine AWP.ret ?_
  obtain rfl := Option.some.inj hm
  exact ret_i []

set_option maxRecDepth 20000 in
set_option maxHeartbeats 4000000 in
theorem ok_value_words_whole (p0 : (List UInt8)) (r : GValue) (h : m_value_words_whole p0 = some r) : GCall Try.prog 92 [(.d (.lit (.string (toS p0))))] [] (.agg [(.d (byteD r.Kind)), (.d (.lit (.int .i64 r.N))), (.d (.lit (.int .u64 r.Bits))), (.d (.lit (.string (toS r.Text))))]) [] := by
  refine GCall.of_body (n := 5) (rs := [(.cell 2 31)]) Try.func92 rfl rfl rfl ?_
  refine Ato ⟨((.d (.lit (.string (toS p0)))) :: (tu 4 [])), [], 0⟩ ?_
  have hm := h
  unfold m_value_words_whole at hm
  refine AWP.seq ?_
  refine AWP.text ?_
  refine Wy (.loc 0 0) [(0, (.box [(.d (byteD 0)), (.d (.lit (.int .i64 0))), (.d (.lit (.int .u64 0))), (.d (.lit (.string (toS ([] : List UInt8)))))]))] (Oal rfl) ?_
  refine Walk.nil ?_
  refine Then.normal ?_
  refine Amk 5 1 ⟨((.d (.lit (.string (toS p0)))) :: (tp 1 ((.loc 0 0) :: (tp 2 [])))), [(.box [(.d (byteD 0)), (.d (.lit (.int .i64 0))), (.d (.lit (.int .u64 0))), (.d (.lit (.string (toS ([] : List UInt8)))))])], 0⟩ ?_
  refine AWP.seq ?_
  refine AWP.text ?_
  refine Wy (.d (.lit (.string (toS p0)))) [] (Omv rfl) ?_
  refine Wy (.agg [(.d (byteD 4)), (.d (.lit (.int .i64 0))), (.d (.lit (.int .u64 0))), (.d (.lit (.string (toS p0))))]) [] (Obd rfl) ?_
  refine Wy (.tup []) [(0, (.box [(.d (byteD 4)), (.d (.lit (.int .i64 0))), (.d (.lit (.int .u64 0))), (.d (.lit (.string (toS p0))))]))] (Ost rfl) ?_
  refine Walk.nil ?_
  refine Then.normal ?_
  refine AWP.ret ?_
  obtain rfl := Option.some.inj hm
  exact ret_i []

set_option maxRecDepth 20000 in
set_option maxHeartbeats 4000000 in
theorem ok_value_Check (p0 : GValue) (r : Int) (h : m_value_Check p0 = some r) : GCall Try.prog 12 [(.agg [(.d (byteD p0.Kind)), (.d (.lit (.int .i64 p0.N))), (.d (.lit (.int .u64 p0.Bits))), (.d (.lit (.string (toS p0.Text))))])] [] (.d (.lit (.int .i64 r))) [] := by
  refine GCall.of_body (n := 47) (rs := [(.tmp 2)]) Try.func12 rfl rfl rfl ?_
  refine Ato ⟨((.agg [(.d (byteD p0.Kind)), (.d (.lit (.int .i64 p0.N))), (.d (.lit (.int .u64 p0.Bits))), (.d (.lit (.string (toS p0.Text))))]) :: (tu 46 [])), [], 0⟩ ?_
  have hm := h
  unfold m_value_Check at hm
  refine AWP.seq ?_
  refine AWP.text ?_
  refine Wy (.loc 0 0) [(0, (.box [(.d (byteD p0.Kind)), (.d (.lit (.int .i64 p0.N))), (.d (.lit (.int .u64 p0.Bits))), (.d (.lit (.string (toS p0.Text))))]))] (Obx rfl) ?_
  refine Wy (.d (.lit (.int .i64 0))) [] (Omv rfl) ?_
  refine Walk.nil ?_
  refine Then.normal ?_
  refine Amk 2 1 ⟨(tp 1 ((.loc 0 0) :: (tp 45 []))), [(.box [(.d (byteD p0.Kind)), (.d (.lit (.int .i64 p0.N))), (.d (.lit (.int .u64 p0.Bits))), (.d (.lit (.string (toS p0.Text))))])], 0⟩ ?_
  refine AWP.seq ?_
  refine AWP.text ?_
  refine Wy (.agg [(.d (byteD p0.Kind)), (.d (.lit (.int .i64 p0.N))), (.d (.lit (.int .u64 p0.Bits))), (.d (.lit (.string (toS p0.Text))))]) [] (Old rfl) ?_
  obtain ⟨r10_0, hr10_0, hm⟩ := bnd hm
  refine Wy (.d (.lit r10_0)) [] (Ocf [] [] [] 0 (ok_value_core p0 r10_0 hr10_0) (fun a w => Try.call34 a w) rfl trivial) ?_
  refine Wy (.d (.lit r10_0)) [] (Omv rfl) ?_
  refine Walk.nil ?_
  refine Then.normal ?_
  refine Amk 10 1 ⟨(tp 1 ((.loc 0 0) :: (tp 1 ((.d (.lit r10_0)) :: (tp 43 []))))), [(.box [(.d (byteD p0.Kind)), (.d (.lit (.int .i64 p0.N))), (.d (.lit (.int .u64 p0.Bits))), (.d (.lit (.string (toS p0.Text))))])], 0⟩ ?_
  refine AWP.cutJ (α := Unit) (fun x => match x with | () => (⟨(tp 1 ((.loc 0 0) :: (tp 1 ((.d (.lit r10_0)) :: (tp 43 []))))), [(.box [(.d (byteD p0.Kind)), (.d (.lit (.int .i64 p0.N))), (.d (.lit (.int .u64 p0.Bits))), (.d (.lit (.string (toS p0.Text))))])], 0⟩ : St)) (fun x => match x with | () => m_value_Check_j9 p0 r10_0 = some r) ?_ (fun J9 => ?_)
  · rintro ⟨⟩ hm
    try dsimp only at hm ⊢
    unfold m_value_Check_j9 at hm
    refine AWP.seq ?_
    refine AWP.cutJ (α := Bool) (fun x => match x with | y46_11 => (⟨(tp 46 ((.d (.lit (.bool y46_11))) :: [])), [], 0⟩ : St)) (fun x => match x with | y46_11 => m_value_Check_j11  y46_11 = some r) ?_ (fun J11 => ?_)
    · rintro y46_11 hm
      try dsimp only at hm ⊢
      unfold m_value_Check_j11 at hm
      rcases tf_ y46_11 with hc46_11 | hc46_11
      · replace hm := cT hc46_11 hm
        refine AWP.if_ true (Eq.trans (by kernel_rfl) (lit_tf (b := y46_11) hc46_11)) ?_
        refine AWP.seq ?_
        refine AWP.text ?_
        refine Wy (.d (.lit (.int .i64 2))) [] (Omv rfl) ?_
        refine Walk.nil ?_
        refine Then.normal ?_
        refine AWP.ret ?_
        refine Then.ret ?_
        obtain rfl := Option.some.inj hm
        exact ret_i []
      · replace hm := cF hc46_11 hm
        refine AWP.if_ false (Eq.trans (by kernel_rfl) (lit_tf (b := y46_11) hc46_11)) ?_
        refine AWP.skip ?_
        refine Then.normal ?_
        refine Amk 0 0 ⟨(tp 47 []), [], 0⟩ ?_
        refine AWP.seq ?_
        refine AWP.text ?_
        refine Wy (.d (.lit (.int .i64 0))) [] (Omv rfl) ?_
        refine Walk.nil ?_
        refine Then.normal ?_
        refine AWP.ret ?_
        obtain rfl := Option.some.inj hm
        exact ret_i []
    refine AWP.seq ?_
    refine Adr ?_
    refine Wy (.d (.lit r10_0)) [] (Omv rfl) ?_
    rcases tf_ (isT 62 r10_0) with hq44_10_62 | hq44_10_62
    · replace hm := cT hq44_10_62 hm
      obtain ⟨n44_10_62, hn44_10_62, hm⟩ := bnd hm
      obtain ⟨r44_10_62, hr44_10_62, hm⟩ := bnd hm
      have hi_r44_10_62 := inI_some hq44_10_62 hn44_10_62
      refine Wy (.agg [(.d (byteD r44_10_62.Kind)), (.d (.lit (.int .i64 r44_10_62.N))), (.d (.lit (.int .u64 r44_10_62.Bits))), (.d (.lit (.string (toS r44_10_62.Text))))]) [] (Oiv (t := 62) (u := .int .i64 n44_10_62) (ok_value_number_whole n44_10_62 r44_10_62 hr44_10_62) (by simp [A.Plain, A.Plains, D.Plain, byteD]) (fun a w => Try.call89 a w) (fun w => by kernel_rfl) rfl (Eq.trans (by kernel_rfl) (congrArg (fun z => A.d (.lit z)) hi_r44_10_62))) ?_
      refine Wy (.agg [(.d (byteD p0.Kind)), (.d (.lit (.int .i64 p0.N))), (.d (.lit (.int .u64 p0.Bits))), (.d (.lit (.string (toS p0.Text))))]) [] (Old rfl) ?_
      obtain ⟨v46_10, hv46_10, hm⟩ := bnd hm; replace hv46_10 := Option.some.inj hv46_10
      refine Wy (.d (.lit (.bool v46_10))) [] (Ocs (Eq.trans (lit_tf (by simp only [toS_inj])) (congrArg (fun z => A.d (.lit (.bool z))) hv46_10)) (op_neq_struct rfl (la := [(.d (byteD r44_10_62.Kind)), (.d (.lit (.int .i64 r44_10_62.N))), (.d (.lit (.int .u64 r44_10_62.Bits))), (.d (.lit (.string (toS r44_10_62.Text))))]) (lb := [(.d (byteD p0.Kind)), (.d (.lit (.int .i64 p0.N))), (.d (.lit (.int .u64 p0.Bits))), (.d (.lit (.string (toS p0.Text))))]) (us := [.int .u8 ((r44_10_62.Kind.toNat : Nat) : Int), .int .i64 r44_10_62.N, .int .u64 r44_10_62.Bits, .string (toS r44_10_62.Text)]) (vs := [.int .u8 ((p0.Kind.toNat : Nat) : Int), .int .i64 p0.N, .int .u64 p0.Bits, .string (toS p0.Text)]) (r := (decide (((r44_10_62.Kind.toNat : Nat) : Int) = ((p0.Kind.toNat : Nat) : Int)) && (decide (r44_10_62.N = p0.N) && (decide (r44_10_62.Bits = p0.Bits) && (decide ((toS r44_10_62.Text) = (toS p0.Text)) && true))))) (by kernel_rfl) (by kernel_rfl) (by kernel_rfl) (by kernel_rfl) (by kernel_rfl))) ?_
      refine Wdr ?_
      refine Then.normal ?_
      exact AWP.weak (Weak.toK 70368744177664 0 0 []) (J11 (v46_10) hm)
    · replace hm := cF hq44_10_62 hm
      rcases tf_ (isT 63 r10_0) with hq44_10_63 | hq44_10_63
      · replace hm := cT hq44_10_63 hm
        obtain ⟨n44_10_63, hn44_10_63, hm⟩ := bnd hm
        obtain ⟨r44_10_63, hr44_10_63, hm⟩ := bnd hm
        have hi_r44_10_63 := inI_some hq44_10_63 hn44_10_63
        refine Wy (.agg [(.d (byteD r44_10_63.Kind)), (.d (.lit (.int .i64 r44_10_63.N))), (.d (.lit (.int .u64 r44_10_63.Bits))), (.d (.lit (.string (toS r44_10_63.Text))))]) [] (Oiv (t := 63) (u := .int .i64 n44_10_63) (ok_value_flag_whole n44_10_63 r44_10_63 hr44_10_63) (by simp [A.Plain, A.Plains, D.Plain, byteD]) (fun a w => Try.call90 a w) (fun w => by kernel_rfl) rfl (Eq.trans (by kernel_rfl) (congrArg (fun z => A.d (.lit z)) hi_r44_10_63))) ?_
        refine Wy (.agg [(.d (byteD p0.Kind)), (.d (.lit (.int .i64 p0.N))), (.d (.lit (.int .u64 p0.Bits))), (.d (.lit (.string (toS p0.Text))))]) [] (Old rfl) ?_
        obtain ⟨v46_10, hv46_10, hm⟩ := bnd hm; replace hv46_10 := Option.some.inj hv46_10
        refine Wy (.d (.lit (.bool v46_10))) [] (Ocs (Eq.trans (lit_tf (by simp only [toS_inj])) (congrArg (fun z => A.d (.lit (.bool z))) hv46_10)) (op_neq_struct rfl (la := [(.d (byteD r44_10_63.Kind)), (.d (.lit (.int .i64 r44_10_63.N))), (.d (.lit (.int .u64 r44_10_63.Bits))), (.d (.lit (.string (toS r44_10_63.Text))))]) (lb := [(.d (byteD p0.Kind)), (.d (.lit (.int .i64 p0.N))), (.d (.lit (.int .u64 p0.Bits))), (.d (.lit (.string (toS p0.Text))))]) (us := [.int .u8 ((r44_10_63.Kind.toNat : Nat) : Int), .int .i64 r44_10_63.N, .int .u64 r44_10_63.Bits, .string (toS r44_10_63.Text)]) (vs := [.int .u8 ((p0.Kind.toNat : Nat) : Int), .int .i64 p0.N, .int .u64 p0.Bits, .string (toS p0.Text)]) (r := (decide (((r44_10_63.Kind.toNat : Nat) : Int) = ((p0.Kind.toNat : Nat) : Int)) && (decide (r44_10_63.N = p0.N) && (decide (r44_10_63.Bits = p0.Bits) && (decide ((toS r44_10_63.Text) = (toS p0.Text)) && true))))) (by kernel_rfl) (by kernel_rfl) (by kernel_rfl) (by kernel_rfl) (by kernel_rfl))) ?_
        refine Wdr ?_
        refine Then.normal ?_
        exact AWP.weak (Weak.toK 70368744177664 0 0 []) (J11 (v46_10) hm)
      · replace hm := cF hq44_10_63 hm
        rcases tf_ (isT 64 r10_0) with hq44_10_64 | hq44_10_64
        · replace hm := cT hq44_10_64 hm
          obtain ⟨n44_10_64, hn44_10_64, hm⟩ := bnd hm
          obtain ⟨r44_10_64, hr44_10_64, hm⟩ := bnd hm
          have hi_r44_10_64 := inI_some hq44_10_64 hn44_10_64
          refine Wy (.agg [(.d (byteD r44_10_64.Kind)), (.d (.lit (.int .i64 r44_10_64.N))), (.d (.lit (.int .u64 r44_10_64.Bits))), (.d (.lit (.string (toS r44_10_64.Text))))]) [] (Oiv (t := 64) (u := .int .u64 n44_10_64) (ok_value_double_whole n44_10_64 r44_10_64 hr44_10_64) (by simp [A.Plain, A.Plains, D.Plain, byteD]) (fun a w => Try.call91 a w) (fun w => by kernel_rfl) rfl (Eq.trans (by kernel_rfl) (congrArg (fun z => A.d (.lit z)) hi_r44_10_64))) ?_
          refine Wy (.agg [(.d (byteD p0.Kind)), (.d (.lit (.int .i64 p0.N))), (.d (.lit (.int .u64 p0.Bits))), (.d (.lit (.string (toS p0.Text))))]) [] (Old rfl) ?_
          obtain ⟨v46_10, hv46_10, hm⟩ := bnd hm; replace hv46_10 := Option.some.inj hv46_10
          refine Wy (.d (.lit (.bool v46_10))) [] (Ocs (Eq.trans (lit_tf (by simp only [toS_inj])) (congrArg (fun z => A.d (.lit (.bool z))) hv46_10)) (op_neq_struct rfl (la := [(.d (byteD r44_10_64.Kind)), (.d (.lit (.int .i64 r44_10_64.N))), (.d (.lit (.int .u64 r44_10_64.Bits))), (.d (.lit (.string (toS r44_10_64.Text))))]) (lb := [(.d (byteD p0.Kind)), (.d (.lit (.int .i64 p0.N))), (.d (.lit (.int .u64 p0.Bits))), (.d (.lit (.string (toS p0.Text))))]) (us := [.int .u8 ((r44_10_64.Kind.toNat : Nat) : Int), .int .i64 r44_10_64.N, .int .u64 r44_10_64.Bits, .string (toS r44_10_64.Text)]) (vs := [.int .u8 ((p0.Kind.toNat : Nat) : Int), .int .i64 p0.N, .int .u64 p0.Bits, .string (toS p0.Text)]) (r := (decide (((r44_10_64.Kind.toNat : Nat) : Int) = ((p0.Kind.toNat : Nat) : Int)) && (decide (r44_10_64.N = p0.N) && (decide (r44_10_64.Bits = p0.Bits) && (decide ((toS r44_10_64.Text) = (toS p0.Text)) && true))))) (by kernel_rfl) (by kernel_rfl) (by kernel_rfl) (by kernel_rfl) (by kernel_rfl))) ?_
          refine Wdr ?_
          refine Then.normal ?_
          exact AWP.weak (Weak.toK 70368744177664 0 0 []) (J11 (v46_10) hm)
        · replace hm := cF hq44_10_64 hm
          rcases tf_ (isT 66 r10_0) with hq44_10_66 | hq44_10_66
          · replace hm := cT hq44_10_66 hm
            obtain ⟨n44_10_66, hn44_10_66, hm⟩ := bnd hm
            obtain ⟨r44_10_66, hr44_10_66, hm⟩ := bnd hm
            have hi_r44_10_66 := inS_some hq44_10_66 hn44_10_66
            refine Wy (.agg [(.d (byteD r44_10_66.Kind)), (.d (.lit (.int .i64 r44_10_66.N))), (.d (.lit (.int .u64 r44_10_66.Bits))), (.d (.lit (.string (toS r44_10_66.Text))))]) [] (Oiv (t := 66) (u := .string (toS n44_10_66)) (ok_value_words_whole n44_10_66 r44_10_66 hr44_10_66) (by simp [A.Plain, A.Plains, D.Plain, byteD]) (fun a w => Try.call92 a w) (fun w => by kernel_rfl) rfl (Eq.trans (by kernel_rfl) (congrArg (fun z => A.d (.lit z)) hi_r44_10_66))) ?_
            refine Wy (.agg [(.d (byteD p0.Kind)), (.d (.lit (.int .i64 p0.N))), (.d (.lit (.int .u64 p0.Bits))), (.d (.lit (.string (toS p0.Text))))]) [] (Old rfl) ?_
            obtain ⟨v46_10, hv46_10, hm⟩ := bnd hm; replace hv46_10 := Option.some.inj hv46_10
            refine Wy (.d (.lit (.bool v46_10))) [] (Ocs (Eq.trans (lit_tf (by simp only [toS_inj])) (congrArg (fun z => A.d (.lit (.bool z))) hv46_10)) (op_neq_struct rfl (la := [(.d (byteD r44_10_66.Kind)), (.d (.lit (.int .i64 r44_10_66.N))), (.d (.lit (.int .u64 r44_10_66.Bits))), (.d (.lit (.string (toS r44_10_66.Text))))]) (lb := [(.d (byteD p0.Kind)), (.d (.lit (.int .i64 p0.N))), (.d (.lit (.int .u64 p0.Bits))), (.d (.lit (.string (toS p0.Text))))]) (us := [.int .u8 ((r44_10_66.Kind.toNat : Nat) : Int), .int .i64 r44_10_66.N, .int .u64 r44_10_66.Bits, .string (toS r44_10_66.Text)]) (vs := [.int .u8 ((p0.Kind.toNat : Nat) : Int), .int .i64 p0.N, .int .u64 p0.Bits, .string (toS p0.Text)]) (r := (decide (((r44_10_66.Kind.toNat : Nat) : Int) = ((p0.Kind.toNat : Nat) : Int)) && (decide (r44_10_66.N = p0.N) && (decide (r44_10_66.Bits = p0.Bits) && (decide ((toS r44_10_66.Text) = (toS p0.Text)) && true))))) (by kernel_rfl) (by kernel_rfl) (by kernel_rfl) (by kernel_rfl) (by kernel_rfl))) ?_
            refine Wdr ?_
            refine Then.normal ?_
            exact AWP.weak (Weak.toK 70368744177664 0 0 []) (J11 (v46_10) hm)
          · replace hm := cF hq44_10_66 hm
            exact nomatch hm
  refine AWP.seq ?_
  refine AWP.seq ?_
  refine AWP.text ?_
  refine Wy (.d (.lit r10_0)) [] (Omv rfl) ?_
  refine Walk.nil ?_
  refine Then.normal ?_
  refine Amk 2058 1 ⟨(tp 1 ((.loc 0 0) :: (tp 1 ((.d (.lit r10_0)) :: (tp 7 ((.d (.lit r10_0)) :: (tp 35 []))))))), [(.box [(.d (byteD p0.Kind)), (.d (.lit (.int .i64 p0.N))), (.d (.lit (.int .u64 p0.Bits))), (.d (.lit (.string (toS p0.Text))))])], 0⟩ ?_
  refine AWP.block ?_
  refine AWP.seq ?_
  refine AWP.text ?_
  obtain ⟨z12_1, hz12_1, hm⟩ := bnd hm
  refine Wy (.tup [(.d (.lit (.int .i64 z12_1.1))), (.d (.lit (.bool z12_1.2)))]) [] (OtI hz12_1 rfl) ?_
  refine Wy (.d (.lit (.bool z12_1.2))) [] (Oex rfl) ?_
  refine Wy (.d (.lit (.int .i64 z12_1.1))) [] (Oex rfl) ?_
  refine Walk.nil ?_
  refine Then.normal ?_
  refine Amk 26634 1 ⟨(tp 1 ((.loc 0 0) :: (tp 1 ((.d (.lit r10_0)) :: (tp 7 ((.d (.lit r10_0)) :: (tp 1 ((.d (.lit (.bool z12_1.2))) :: ((.d (.lit (.int .i64 z12_1.1))) :: (tp 32 [])))))))))), [(.box [(.d (byteD p0.Kind)), (.d (.lit (.int .i64 p0.N))), (.d (.lit (.int .u64 p0.Bits))), (.d (.lit (.string (toS p0.Text))))])], 0⟩ ?_
  rcases tf_ z12_1.2 with hc13_12 | hc13_12
  · replace hm := cT hc13_12 hm
    refine AWP.if_ true (Eq.trans (by kernel_rfl) (lit_tf (b := z12_1.2) hc13_12)) ?_
    refine AWP.seq ?_
    refine AWP.text ?_
    refine Wy (.d (.lit (.int .i64 z12_1.1))) [] (Omv rfl) ?_
    refine Walk.nil ?_
    refine Then.normal ?_
    refine Amk 26 1 ⟨(tp 1 ((.loc 0 0) :: (tp 1 ((.d (.lit r10_0)) :: ((.d (.lit (.int .i64 z12_1.1))) :: (tp 42 [])))))), [(.box [(.d (byteD p0.Kind)), (.d (.lit (.int .i64 p0.N))), (.d (.lit (.int .u64 p0.Bits))), (.d (.lit (.string (toS p0.Text))))])], 0⟩ ?_
    refine AWP.seq ?_
    refine AWP.text ?_
    refine Wy (.d (.lit (.int .i64 z12_1.1))) [] (Omv rfl) ?_
    refine Wy (.d (.lit (.bool (decide (z12_1.1 < (-4611686018427387904)))))) [] (Obn rfl (fun _ => hb_lss (k := .i64))) ?_
    rcases tf_ (decide (z12_1.1 < (-4611686018427387904))) with hq17_2 | hq17_2
    · replace hm := cT hq17_2 hm
      refine Wy (.d (.lit (.bool true))) [] (Ocs (lit_tf (b := decide (z12_1.1 < (-4611686018427387904))) hq17_2) (Omv rfl)) ?_
      refine Wn ?_
      refine Wn ?_
      refine Wy (.d (.lit (.bool true))) [] (OpT rfl) ?_
      refine Walk.nil ?_
      refine Then.normal ?_
      refine Amk 1048586 1 ⟨(tp 1 ((.loc 0 0) :: (tp 1 ((.d (.lit r10_0)) :: (tp 16 ((.d (.lit (.bool true))) :: (tp 26 []))))))), [(.box [(.d (byteD p0.Kind)), (.d (.lit (.int .i64 p0.N))), (.d (.lit (.int .u64 p0.Bits))), (.d (.lit (.string (toS p0.Text))))])], 0⟩ ?_
      refine AWP.if_ true (by kernel_rfl) ?_
      refine AWP.seq ?_
      refine AWP.text ?_
      refine Wy (.d (.lit (.int .i64 8))) [] (Omv rfl) ?_
      refine Walk.nil ?_
      refine Then.normal ?_
      refine AWP.ret ?_
      refine InBlock.ret ?_
      refine Then.ret ?_
      obtain rfl := Option.some.inj hm
      exact ret_i []
    · replace hm := cF hq17_2 hm
      refine Wy (.d (.lit (.bool false))) [] (Ocs (lit_tf (b := decide (z12_1.1 < (-4611686018427387904))) hq17_2) (Omv rfl)) ?_
      refine Wy (.d (.lit (.int .i64 z12_1.1))) [] (Omv rfl) ?_
      refine Wy (.d (.lit (.bool (decide ((4611686018427387904 : Int) < z12_1.1))))) [] (Obn rfl (fun _ => hb_gtr (k := .i64))) ?_
      refine Wy (.d (.lit (.bool (decide ((4611686018427387904 : Int) < z12_1.1))))) [] (OpF rfl) ?_
      refine Walk.nil ?_
      refine Then.normal ?_
      refine Amk 1048586 1 ⟨(tp 1 ((.loc 0 0) :: (tp 1 ((.d (.lit r10_0)) :: (tp 16 ((.d (.lit (.bool (decide ((4611686018427387904 : Int) < z12_1.1))))) :: (tp 26 []))))))), [(.box [(.d (byteD p0.Kind)), (.d (.lit (.int .i64 p0.N))), (.d (.lit (.int .u64 p0.Bits))), (.d (.lit (.string (toS p0.Text))))])], 0⟩ ?_
      rcases tf_ (decide ((4611686018427387904 : Int) < z12_1.1)) with hc20_13 | hc20_13
      · replace hm := cT hc20_13 hm
        refine AWP.if_ true (Eq.trans (by kernel_rfl) (lit_tf (b := decide ((4611686018427387904 : Int) < z12_1.1)) hc20_13)) ?_
        refine AWP.seq ?_
        refine AWP.text ?_
        refine Wy (.d (.lit (.int .i64 8))) [] (Omv rfl) ?_
        refine Walk.nil ?_
        refine Then.normal ?_
        refine AWP.ret ?_
        refine InBlock.ret ?_
        refine Then.ret ?_
        obtain rfl := Option.some.inj hm
        exact ret_i []
      · replace hm := cF hc20_13 hm
        refine AWP.if_ false (Eq.trans (by kernel_rfl) (lit_tf (b := decide ((4611686018427387904 : Int) < z12_1.1)) hc20_13)) ?_
        refine AWP.skip ?_
        refine InBlock.normal ?_
        refine Then.normal ?_
        exact AWP.weak (Weak.toK 10 0 0 [0]) (J9 () hm)
  · replace hm := cF hc13_12 hm
    refine AWP.if_ false (Eq.trans (by kernel_rfl) (lit_tf (b := z12_1.2) hc13_12)) ?_
    refine AWP.seq ?_
    refine AWP.text ?_
    obtain ⟨z21_3, hz21_3, hm⟩ := bnd hm
    refine Wy (.tup [(.d (.lit (.int .i64 z21_3.1))), (.d (.lit (.bool z21_3.2)))]) [] (OtI hz21_3 rfl) ?_
    refine Wy (.d (.lit (.bool z21_3.2))) [] (Oex rfl) ?_
    refine Wy (.d (.lit (.int .i64 z21_3.1))) [] (Oex rfl) ?_
    refine Walk.nil ?_
    refine Then.normal ?_
    refine Amk 12584970 1 ⟨(tp 1 ((.loc 0 0) :: (tp 1 ((.d (.lit r10_0)) :: (tp 7 ((.d (.lit r10_0)) :: (tp 10 ((.d (.lit (.bool z21_3.2))) :: ((.d (.lit (.int .i64 z21_3.1))) :: (tp 23 [])))))))))), [(.box [(.d (byteD p0.Kind)), (.d (.lit (.int .i64 p0.N))), (.d (.lit (.int .u64 p0.Bits))), (.d (.lit (.string (toS p0.Text))))])], 0⟩ ?_
    rcases tf_ z21_3.2 with hc22_14 | hc22_14
    · replace hm := cT hc22_14 hm
      refine AWP.if_ true (Eq.trans (by kernel_rfl) (lit_tf (b := z21_3.2) hc22_14)) ?_
      refine AWP.seq ?_
      refine AWP.text ?_
      refine Wy (.d (.lit (.int .i64 z21_3.1))) [] (Omv rfl) ?_
      refine Walk.nil ?_
      refine Then.normal ?_
      refine Amk 42 1 ⟨(tp 1 ((.loc 0 0) :: (tp 1 ((.d (.lit r10_0)) :: (tp 1 ((.d (.lit (.int .i64 z21_3.1))) :: (tp 41 []))))))), [(.box [(.d (byteD p0.Kind)), (.d (.lit (.int .i64 p0.N))), (.d (.lit (.int .u64 p0.Bits))), (.d (.lit (.string (toS p0.Text))))])], 0⟩ ?_
      refine AWP.seq ?_
      refine AWP.text ?_
      refine Wy (.d (.lit (.int .i64 z21_3.1))) [] (Omv rfl) ?_
      refine Wy (.d (.lit (.bool (decide (z21_3.1 ≠ 0))))) [] (Obn rfl (fun _ => hb_neq (k := .i64))) ?_
      rcases tf_ (decide (z21_3.1 ≠ 0)) with hq26_4 | hq26_4
      · replace hm := cT hq26_4 hm
        refine Wy (.d (.lit (.bool true))) [] (Ocs (lit_tf (b := decide (z21_3.1 ≠ 0)) hq26_4) (Omv rfl)) ?_
        refine Wy (.d (.lit (.int .i64 z21_3.1))) [] (Omv rfl) ?_
        refine Wy (.d (.lit (.bool (decide (z21_3.1 ≠ 1))))) [] (Obn rfl (fun _ => hb_neq (k := .i64))) ?_
        refine Wy (.d (.lit (.bool (decide (z21_3.1 ≠ 1))))) [] (OpT rfl) ?_
        refine Walk.nil ?_
        refine Then.normal ?_
        refine Amk 536870922 1 ⟨(tp 1 ((.loc 0 0) :: (tp 1 ((.d (.lit r10_0)) :: (tp 25 ((.d (.lit (.bool (decide (z21_3.1 ≠ 1))))) :: (tp 17 []))))))), [(.box [(.d (byteD p0.Kind)), (.d (.lit (.int .i64 p0.N))), (.d (.lit (.int .u64 p0.Bits))), (.d (.lit (.string (toS p0.Text))))])], 0⟩ ?_
        rcases tf_ (decide (z21_3.1 ≠ 1)) with hc29_15 | hc29_15
        · replace hm := cT hc29_15 hm
          refine AWP.if_ true (Eq.trans (by kernel_rfl) (lit_tf (b := decide (z21_3.1 ≠ 1)) hc29_15)) ?_
          refine AWP.seq ?_
          refine AWP.text ?_
          refine Wy (.d (.lit (.int .i64 8))) [] (Omv rfl) ?_
          refine Walk.nil ?_
          refine Then.normal ?_
          refine AWP.ret ?_
          refine InBlock.ret ?_
          refine Then.ret ?_
          obtain rfl := Option.some.inj hm
          exact ret_i []
        · replace hm := cF hc29_15 hm
          refine AWP.if_ false (Eq.trans (by kernel_rfl) (lit_tf (b := decide (z21_3.1 ≠ 1)) hc29_15)) ?_
          refine AWP.skip ?_
          refine InBlock.normal ?_
          refine Then.normal ?_
          exact AWP.weak (Weak.toK 10 0 0 [0]) (J9 () hm)
      · replace hm := cF hq26_4 hm
        refine Wy (.d (.lit (.bool false))) [] (Ocs (lit_tf (b := decide (z21_3.1 ≠ 0)) hq26_4) (Omv rfl)) ?_
        refine Wn ?_
        refine Wn ?_
        refine Wy (.d (.lit (.bool false))) [] (OpF rfl) ?_
        refine Walk.nil ?_
        refine Then.normal ?_
        refine Amk 536870922 1 ⟨(tp 1 ((.loc 0 0) :: (tp 1 ((.d (.lit r10_0)) :: (tp 25 ((.d (.lit (.bool false))) :: (tp 17 []))))))), [(.box [(.d (byteD p0.Kind)), (.d (.lit (.int .i64 p0.N))), (.d (.lit (.int .u64 p0.Bits))), (.d (.lit (.string (toS p0.Text))))])], 0⟩ ?_
        refine AWP.if_ false (by kernel_rfl) ?_
        refine AWP.skip ?_
        refine InBlock.normal ?_
        refine Then.normal ?_
        exact AWP.weak (Weak.toK 10 0 0 [0]) (J9 () hm)
    · replace hm := cF hc22_14 hm
      refine AWP.if_ false (Eq.trans (by kernel_rfl) (lit_tf (b := z21_3.2) hc22_14)) ?_
      refine AWP.seq ?_
      refine AWP.text ?_
      obtain ⟨z30_5, hz30_5, hm⟩ := bnd hm
      refine Wy (.tup [(.d (.lit (.int .u64 z30_5.1))), (.d (.lit (.bool z30_5.2)))]) [] (OtI hz30_5 rfl) ?_
      refine Wy (.d (.lit (.bool z30_5.2))) [] (Oex rfl) ?_
      refine Wy (.d (.lit (.int .u64 z30_5.1))) [] (Oex rfl) ?_
      refine Walk.nil ?_
      refine Then.normal ?_
      refine Amk 6442453002 1 ⟨(tp 1 ((.loc 0 0) :: (tp 1 ((.d (.lit r10_0)) :: (tp 7 ((.d (.lit r10_0)) :: (tp 19 ((.d (.lit (.bool z30_5.2))) :: ((.d (.lit (.int .u64 z30_5.1))) :: (tp 14 [])))))))))), [(.box [(.d (byteD p0.Kind)), (.d (.lit (.int .i64 p0.N))), (.d (.lit (.int .u64 p0.Bits))), (.d (.lit (.string (toS p0.Text))))])], 0⟩ ?_
      rcases tf_ z30_5.2 with hc31_16 | hc31_16
      · replace hm := cT hc31_16 hm
        refine AWP.if_ true (Eq.trans (by kernel_rfl) (lit_tf (b := z30_5.2) hc31_16)) ?_
        refine AWP.seq ?_
        refine AWP.text ?_
        refine Wy (.d (.lit (.int .u64 z30_5.1))) [] (Omv rfl) ?_
        refine Walk.nil ?_
        refine Then.normal ?_
        refine Amk 74 1 ⟨(tp 1 ((.loc 0 0) :: (tp 1 ((.d (.lit r10_0)) :: (tp 2 ((.d (.lit (.int .u64 z30_5.1))) :: (tp 40 []))))))), [(.box [(.d (byteD p0.Kind)), (.d (.lit (.int .i64 p0.N))), (.d (.lit (.int .u64 p0.Bits))), (.d (.lit (.string (toS p0.Text))))])], 0⟩ ?_
        refine AWP.seq ?_
        refine AWP.text ?_
        refine Wy (.d (.lit (.int .u64 z30_5.1))) [] (Omv rfl) ?_
        obtain ⟨r34_6, hr34_6, hm⟩ := bnd hm
        refine Wy (.d (.lit (.int .u64 r34_6))) [] (Ocf [] [] [] 0 (ok_real_Clean z30_5.1 r34_6 hr34_6) (fun a w => Try.call35 a w) rfl trivial) ?_
        refine Wy (.d (.lit (.int .u64 z30_5.1))) [] (Omv rfl) ?_
        refine Wy (.d (.lit (.bool (decide (r34_6 ≠ z30_5.1))))) [] (Obn rfl (fun _ => hb_neq (k := .u64))) ?_
        refine Walk.nil ?_
        refine Then.normal ?_
        refine Amk 68719476746 1 ⟨(tp 1 ((.loc 0 0) :: (tp 1 ((.d (.lit r10_0)) :: (tp 32 ((.d (.lit (.bool (decide (r34_6 ≠ z30_5.1))))) :: (tp 10 []))))))), [(.box [(.d (byteD p0.Kind)), (.d (.lit (.int .i64 p0.N))), (.d (.lit (.int .u64 p0.Bits))), (.d (.lit (.string (toS p0.Text))))])], 0⟩ ?_
        rcases tf_ (decide (r34_6 ≠ z30_5.1)) with hc36_17 | hc36_17
        · replace hm := cT hc36_17 hm
          refine AWP.if_ true (Eq.trans (by kernel_rfl) (lit_tf (b := decide (r34_6 ≠ z30_5.1)) hc36_17)) ?_
          refine AWP.seq ?_
          refine AWP.text ?_
          refine Wy (.d (.lit (.int .i64 4))) [] (Omv rfl) ?_
          refine Walk.nil ?_
          refine Then.normal ?_
          refine AWP.ret ?_
          refine InBlock.ret ?_
          refine Then.ret ?_
          obtain rfl := Option.some.inj hm
          exact ret_i []
        · replace hm := cF hc36_17 hm
          refine AWP.if_ false (Eq.trans (by kernel_rfl) (lit_tf (b := decide (r34_6 ≠ z30_5.1)) hc36_17)) ?_
          refine AWP.skip ?_
          refine InBlock.normal ?_
          refine Then.normal ?_
          exact AWP.weak (Weak.toK 10 0 0 [0]) (J9 () hm)
      · replace hm := cF hc31_16 hm
        refine AWP.if_ false (Eq.trans (by kernel_rfl) (lit_tf (b := z30_5.2) hc31_16)) ?_
        refine AWP.seq ?_
        refine AWP.text ?_
        obtain ⟨z37_7, hz37_7, hm⟩ := bnd hm
        refine Wy (.tup [(.d (.lit (.string (toS z37_7.1)))), (.d (.lit (.bool z37_7.2)))]) [] (OtS hz37_7 rfl) ?_
        refine Wy (.d (.lit (.bool z37_7.2))) [] (Oex rfl) ?_
        refine Wy (.d (.lit (.string (toS z37_7.1)))) [] (Oex rfl) ?_
        refine Walk.nil ?_
        refine Then.normal ?_
        refine Amk 824633722890 1 ⟨(tp 1 ((.loc 0 0) :: (tp 1 ((.d (.lit r10_0)) :: (tp 7 ((.d (.lit r10_0)) :: (tp 26 ((.d (.lit (.bool z37_7.2))) :: ((.d (.lit (.string (toS z37_7.1)))) :: (tp 7 [])))))))))), [(.box [(.d (byteD p0.Kind)), (.d (.lit (.int .i64 p0.N))), (.d (.lit (.int .u64 p0.Bits))), (.d (.lit (.string (toS p0.Text))))])], 0⟩ ?_
        rcases tf_ z37_7.2 with hc38_18 | hc38_18
        · replace hm := cT hc38_18 hm
          refine AWP.if_ true (Eq.trans (by kernel_rfl) (lit_tf (b := z37_7.2) hc38_18)) ?_
          refine AWP.seq ?_
          refine AWP.text ?_
          refine Wy (.d (.lit (.string (toS z37_7.1)))) [] (Omv rfl) ?_
          refine Walk.nil ?_
          refine Then.normal ?_
          refine Amk 138 1 ⟨(tp 1 ((.loc 0 0) :: (tp 1 ((.d (.lit r10_0)) :: (tp 3 ((.d (.lit (.string (toS z37_7.1)))) :: (tp 39 []))))))), [(.box [(.d (byteD p0.Kind)), (.d (.lit (.int .i64 p0.N))), (.d (.lit (.int .u64 p0.Bits))), (.d (.lit (.string (toS p0.Text))))])], 0⟩ ?_
          refine AWP.seq ?_
          refine AWP.text ?_
          refine Wy (.d (.lit (.string (toS z37_7.1)))) [] (Omv rfl) ?_
          refine Wy (.d (.lit (.int .i64 ((List.length z37_7.1 : Nat) : Int)))) [] (Oln rfl) ?_
          refine Wy (.d (.lit (.bool (decide ((24 : Int) < ((List.length z37_7.1 : Nat) : Int)))))) [] (Obn rfl (fun _ => hb_gtr (k := .i64))) ?_
          refine Walk.nil ?_
          refine Then.normal ?_
          refine Amk 4398046511114 1 ⟨(tp 1 ((.loc 0 0) :: (tp 1 ((.d (.lit r10_0)) :: (tp 38 ((.d (.lit (.bool (decide ((24 : Int) < ((List.length z37_7.1 : Nat) : Int)))))) :: (tp 4 []))))))), [(.box [(.d (byteD p0.Kind)), (.d (.lit (.int .i64 p0.N))), (.d (.lit (.int .u64 p0.Bits))), (.d (.lit (.string (toS p0.Text))))])], 0⟩ ?_
          rcases tf_ (decide ((24 : Int) < ((List.length z37_7.1 : Nat) : Int))) with hc42_19 | hc42_19
          · replace hm := cT hc42_19 hm
            refine AWP.if_ true (Eq.trans (by kernel_rfl) (lit_tf (b := decide ((24 : Int) < ((List.length z37_7.1 : Nat) : Int))) hc42_19)) ?_
            refine AWP.seq ?_
            refine AWP.text ?_
            refine Wy (.d (.lit (.int .i64 5))) [] (Omv rfl) ?_
            refine Walk.nil ?_
            refine Then.normal ?_
            refine AWP.ret ?_
            refine InBlock.ret ?_
            refine Then.ret ?_
            obtain rfl := Option.some.inj hm
            exact ret_i []
          · replace hm := cF hc42_19 hm
            refine AWP.if_ false (Eq.trans (by kernel_rfl) (lit_tf (b := decide ((24 : Int) < ((List.length z37_7.1 : Nat) : Int))) hc42_19)) ?_
            refine AWP.skip ?_
            refine InBlock.normal ?_
            refine Then.normal ?_
            exact AWP.weak (Weak.toK 10 0 0 [0]) (J9 () hm)
        · replace hm := cF hc38_18 hm
          refine AWP.if_ false (Eq.trans (by kernel_rfl) (lit_tf (b := z37_7.2) hc38_18)) ?_
          refine AWP.seq ?_
          refine AWP.text ?_
          refine Wy (.d (.lit r10_0)) [] (Omv rfl) ?_
          refine Walk.nil ?_
          refine Then.normal ?_
          refine Amk 0 0 ⟨(tp 47 []), [.gone], 0⟩ ?_
          refine AWP.seq ?_
          refine AWP.text ?_
          refine Wy (.d (.lit (.int .i64 11))) [] (Omv rfl) ?_
          refine Walk.nil ?_
          refine Then.normal ?_
          refine AWP.ret ?_
          refine InBlock.ret ?_
          refine Then.ret ?_
          obtain rfl := Option.some.inj hm
          exact ret_i []

set_option maxRecDepth 20000 in
set_option maxHeartbeats 4000000 in
theorem ok_zig_Fold (p0 : Int) (r : Int) (h : m_zig_Fold p0 = some r) : GCall Try.prog 48 [(.d (.lit (.int .i64 p0)))] [] (.d (.lit (.int .u64 r))) [] := by
  refine GCall.of_body (n := 10) (rs := [(.tmp 2)]) Try.func48 rfl rfl rfl ?_
  refine Ato ⟨((.d (.lit (.int .i64 p0))) :: (tu 9 [])), [], 0⟩ ?_
  have hm := h
  unfold m_zig_Fold at hm
  refine AWP.seq ?_
  refine AWP.text ?_
  refine Wy (.d (.lit (.int .u64 0))) [] (Omv rfl) ?_
  refine Walk.nil ?_
  refine Then.normal ?_
  refine Amk 1 0 ⟨((.d (.lit (.int .i64 p0))) :: (tp 9 [])), [], 0⟩ ?_
  refine AWP.seq ?_
  refine AWP.text ?_
  refine Wy (.d (.lit (.int .i64 p0))) [] (Omv rfl) ?_
  refine Wy (.d (.lit (.int .u64 (IntKind.u64.wrap p0)))) [] (Ocs (by kernel_rfl) (op_convert rfl (a1 := .int .i64 p0) (by kernel_rfl) (run_conv (ds := .int .i64) (k' := .u64) (by kernel_rfl) (by kernel_rfl)))) ?_
  refine Wy (.d (.lit (.int .u64 (IntKind.u64.wrap ((IntKind.u64.wrap p0) * 2 ^ 1))))) [] (Ocs (by kernel_rfl) (op_bin rfl (a1 := .int .u64 (IntKind.u64.wrap p0)) (a2 := .int .u64 1) (by kernel_rfl) (by kernel_rfl) (fun _ => hb_shl (n := 1) (by decide) rfl))) ?_
  refine Wy (.d (.lit (.int .i64 p0))) [] (Omv rfl) ?_
  refine Wy (.d (.lit (.int .i64 (Int.fdiv p0 (2 ^ 63))))) [] (Ocs (by kernel_rfl) (op_bin rfl (a1 := .int .i64 p0) (a2 := .int .u64 63) (by kernel_rfl) (by kernel_rfl) (fun _ => hb_shr (n := 63) (by decide) rfl))) ?_
  refine Wy (.d (.lit (.int .u64 (IntKind.u64.wrap (Int.fdiv p0 (2 ^ 63)))))) [] (Ocs (by kernel_rfl) (op_convert rfl (a1 := .int .i64 (Int.fdiv p0 (2 ^ 63))) (by kernel_rfl) (run_conv (ds := .int .i64) (k' := .u64) (by kernel_rfl) (by kernel_rfl)))) ?_
  obtain ⟨v9_0, hv9_0, hm⟩ := bnd hm; replace hv9_0 := Option.some.inj hv9_0
  refine Wy (.d (.lit (.int .u64 v9_0))) [] (Ocs (Eq.trans (by kernel_rfl) (congrArg (fun z => A.d (.lit (.int .u64 z))) hv9_0)) (op_bin rfl (a1 := .int .u64 (IntKind.u64.wrap ((IntKind.u64.wrap p0) * 2 ^ 1))) (a2 := .int .u64 (IntKind.u64.wrap (Int.fdiv p0 (2 ^ 63)))) (by kernel_rfl) (by kernel_rfl) (fun _ => hb_xor))) ?_
  refine Wy (.d (.lit (.int .u64 v9_0))) [] (Omv rfl) ?_
  refine Walk.nil ?_
  refine Then.normal ?_
  refine AWP.ret ?_
  obtain rfl := Option.some.inj hm
  exact ret_i []

set_option maxRecDepth 20000 in
set_option maxHeartbeats 4000000 in
theorem ok_math_bits_Len64 (p0 : Int) (r : Int) (h : m_math_bits_Len64 p0 = some r) : GCall Try.prog 65 [(.d (.lit (.int .u64 p0)))] [] (.d (.lit (.int .i64 r))) [] := by
  refine GCall.of_body (n := 25) (rs := [(.tmp 2)]) Try.func65 rfl rfl rfl ?_
  refine Ato ⟨((.d (.lit (.int .u64 p0))) :: (tu 24 [])), [], 0⟩ ?_
  have hm := h
  unfold m_math_bits_Len64 at hm
  refine AWP.seq ?_
  refine AWP.text ?_
  refine Wy (.d (.lit (.int .i64 0))) [] (Omv rfl) ?_
  refine Walk.nil ?_
  refine Then.normal ?_
  refine Amk 5 0 ⟨((.d (.lit (.int .u64 p0))) :: (tp 1 ((.d (.lit (.int .i64 0))) :: (tp 22 [])))), [], 0⟩ ?_
  refine AWP.cutJ (α := Int × Int) (fun x => match x with | (y0_0, y2_0) => (⟨((.d (.lit (.int .u64 y0_0))) :: (tp 1 ((.d (.lit (.int .i64 y2_0))) :: (tp 22 [])))), [], 0⟩ : St)) (fun x => match x with | (y0_0, y2_0) => m_math_bits_Len64_j0  y0_0 y2_0 = some r) ?_ (fun J0 => ?_)
  · rintro ⟨y0_0, y2_0⟩ hm
    try dsimp only at hm ⊢
    unfold m_math_bits_Len64_j0 at hm
    refine AWP.cutJ (α := Int × Int) (fun x => match x with | (y0_1, y2_1) => (⟨((.d (.lit (.int .u64 y0_1))) :: (tp 1 ((.d (.lit (.int .i64 y2_1))) :: (tp 22 [])))), [], 0⟩ : St)) (fun x => match x with | (y0_1, y2_1) => m_math_bits_Len64_j1  y0_1 y2_1 = some r) ?_ (fun J1 => ?_)
    · rintro ⟨y0_1, y2_1⟩ hm
      try dsimp only at hm ⊢
      unfold m_math_bits_Len64_j1 at hm
      refine AWP.cutJ (α := Int × Int) (fun x => match x with | (y0_2, y2_2) => (⟨((.d (.lit (.int .u64 y0_2))) :: (tp 1 ((.d (.lit (.int .i64 y2_2))) :: (tp 22 [])))), [], 0⟩ : St)) (fun x => match x with | (y0_2, y2_2) => m_math_bits_Len64_j2  y0_2 y2_2 = some r) ?_ (fun J2 => ?_)
      · rintro ⟨y0_2, y2_2⟩ hm
        try dsimp only at hm ⊢
        unfold m_math_bits_Len64_j2 at hm
        refine AWP.seq ?_
        refine AWP.text ?_
        refine Wy (.d (.lit (.int .i64 y2_2))) [] (Omv rfl) ?_
        refine Wy (.d (.lit (.int .u64 y0_2))) [] (Omv rfl) ?_
        refine Wy (.d (byteD (toU8 y0_2))) [] (Ocs (lit_int (u8w _)) (op_convert rfl (a1 := .int .u64 y0_2) (by kernel_rfl) (run_conv (ds := .int .u64) (k' := .u8) (by kernel_rfl) (by kernel_rfl)))) ?_
        obtain ⟨x22_3, hx22_3, hm⟩ := bnd hm
        obtain ⟨hx22_3i, hx22_3g⟩ := geti_some hx22_3
        refine Wy (.d (byteD x22_3)) [] (Ocs (by kernel_rfl) (op_index_str rfl (by kernel_rfl) (s := toS ([0, 1, 2, 2, 3, 3, 3, 3, 4, 4, 4, 4, 4, 4, 4, 4, 5, 5, 5, 5, 5, 5, 5, 5, 5, 5, 5, 5, 5, 5, 5, 5, 6, 6, 6, 6, 6, 6, 6, 6, 6, 6, 6, 6, 6, 6, 6, 6, 6, 6, 6, 6, 6, 6, 6, 6, 6, 6, 6, 6, 6, 6, 6, 6, 7, 7, 7, 7, 7, 7, 7, 7, 7, 7, 7, 7, 7, 7, 7, 7, 7, 7, 7, 7, 7, 7, 7, 7, 7, 7, 7, 7, 7, 7, 7, 7, 7, 7, 7, 7, 7, 7, 7, 7, 7, 7, 7, 7, 7, 7, 7, 7, 7, 7, 7, 7, 7, 7, 7, 7, 7, 7, 7, 7, 7, 7, 7, 7, 8, 8, 8, 8, 8, 8, 8, 8, 8, 8, 8, 8, 8, 8, 8, 8, 8, 8, 8, 8, 8, 8, 8, 8, 8, 8, 8, 8, 8, 8, 8, 8, 8, 8, 8, 8, 8, 8, 8, 8, 8, 8, 8, 8, 8, 8, 8, 8, 8, 8, 8, 8, 8, 8, 8, 8, 8, 8, 8, 8, 8, 8, 8, 8, 8, 8, 8, 8, 8, 8, 8, 8, 8, 8, 8, 8, 8, 8, 8, 8, 8, 8, 8, 8, 8, 8, 8, 8, 8, 8, 8, 8, 8, 8, 8, 8, 8, 8, 8, 8, 8, 8, 8, 8, 8, 8, 8, 8, 8, 8, 8, 8, 8, 8, 8, 8, 8, 8, 8, 8, 8, 8, 8, 8, 8, 8, 8, 8] : List UInt8)) (by kernel_rfl) (k := .u8) (iv := (((toU8 y0_2).toNat : Nat) : Int)) (by kernel_rfl) (i := (Int.toNat (((toU8 y0_2).toNat : Nat) : Int))) (hx22_3i) (b := x22_3) (hx22_3g))) ?_
        refine Wy (.d (.lit (.int .i64 ((x22_3.toNat : Nat) : Int)))) [] (Ocs (lit_int (wrap_of_u8 (by decide) _)) (op_convert rfl (a1 := .int .u8 ((x22_3.toNat : Nat) : Int)) (by kernel_rfl) (run_conv (ds := .int .u8) (k' := .i64) (by kernel_rfl) (by kernel_rfl)))) ?_
        refine Wy (.d (.lit (.int .i64 (IntKind.i64.wrap (y2_2 + ((x22_3.toNat : Nat) : Int)))))) [] (Obn rfl (fun _ => hb_add (k := .i64))) ?_
        refine Wy (.d (.lit (.int .i64 (IntKind.i64.wrap (y2_2 + ((x22_3.toNat : Nat) : Int)))))) [] (Omv rfl) ?_
        refine Walk.nil ?_
        refine Then.normal ?_
        refine AWP.ret ?_
        obtain rfl := Option.some.inj hm
        exact ret_i []
      refine AWP.seq ?_
      refine AWP.seq ?_
      refine AWP.text ?_
      refine Wy (.d (.lit (.int .u64 y0_1))) [] (Omv rfl) ?_
      refine Wy (.d (.lit (.bool (decide ((256 : Int) ≤ y0_1))))) [] (Obn rfl (fun _ => hb_geq (k := .u64))) ?_
      refine Walk.nil ?_
      refine Then.normal ?_
      refine Amk 16389 0 ⟨((.d (.lit (.int .u64 y0_1))) :: (tp 1 ((.d (.lit (.int .i64 y2_1))) :: (tp 11 ((.d (.lit (.bool (decide ((256 : Int) ≤ y0_1))))) :: (tp 10 [])))))), [], 0⟩ ?_
      rcases tf_ (decide ((256 : Int) ≤ y0_1)) with hc14_4 | hc14_4
      · replace hm := cT hc14_4 hm
        refine AWP.if_ true (Eq.trans (by kernel_rfl) (lit_tf (b := decide ((256 : Int) ≤ y0_1)) hc14_4)) ?_
        refine AWP.seq ?_
        refine AWP.text ?_
        refine Wy (.d (.lit (.int .u64 y0_1))) [] (Omv rfl) ?_
        refine Wy (.d (.lit (.int .u64 (Int.fdiv y0_1 (2 ^ 8))))) [] (Ocs (by kernel_rfl) (op_bin rfl (a1 := .int .u64 y0_1) (a2 := .int .u64 8) (by kernel_rfl) (by kernel_rfl) (fun _ => hb_shr (n := 8) (by decide) rfl))) ?_
        refine Wy (.d (.lit (.int .u64 (Int.fdiv y0_1 (2 ^ 8))))) [] (Omv rfl) ?_
        refine Walk.nil ?_
        refine Then.normal ?_
        refine Amk 5 0 ⟨((.d (.lit (.int .u64 (Int.fdiv y0_1 (2 ^ 8))))) :: (tp 1 ((.d (.lit (.int .i64 y2_1))) :: (tp 22 [])))), [], 0⟩ ?_
        refine AWP.text ?_
        refine Wy (.d (.lit (.int .i64 y2_1))) [] (Omv rfl) ?_
        refine Wy (.d (.lit (.int .i64 (IntKind.i64.wrap (y2_1 + 8))))) [] (Obn rfl (fun _ => hb_add (k := .i64))) ?_
        refine Wy (.d (.lit (.int .i64 (IntKind.i64.wrap (y2_1 + 8))))) [] (Omv rfl) ?_
        refine Walk.nil ?_
        refine Then.normal ?_
        exact AWP.weak (Weak.toK 5 0 0 []) (J2 ((Int.fdiv y0_1 (2 ^ 8)), (IntKind.i64.wrap (y2_1 + 8))) hm)
      · replace hm := cF hc14_4 hm
        refine AWP.if_ false (Eq.trans (by kernel_rfl) (lit_tf (b := decide ((256 : Int) ≤ y0_1)) hc14_4)) ?_
        refine AWP.skip ?_
        refine Then.normal ?_
        exact AWP.weak (Weak.toK 5 0 0 []) (J2 (y0_1, y2_1) hm)
    refine AWP.seq ?_
    refine AWP.seq ?_
    refine AWP.text ?_
    refine Wy (.d (.lit (.int .u64 y0_0))) [] (Omv rfl) ?_
    refine Wy (.d (.lit (.bool (decide ((65536 : Int) ≤ y0_0))))) [] (Obn rfl (fun _ => hb_geq (k := .u64))) ?_
    refine Walk.nil ?_
    refine Then.normal ?_
    refine Amk 261 0 ⟨((.d (.lit (.int .u64 y0_0))) :: (tp 1 ((.d (.lit (.int .i64 y2_0))) :: (tp 5 ((.d (.lit (.bool (decide ((65536 : Int) ≤ y0_0))))) :: (tp 16 [])))))), [], 0⟩ ?_
    rcases tf_ (decide ((65536 : Int) ≤ y0_0)) with hc8_5 | hc8_5
    · replace hm := cT hc8_5 hm
      refine AWP.if_ true (Eq.trans (by kernel_rfl) (lit_tf (b := decide ((65536 : Int) ≤ y0_0)) hc8_5)) ?_
      refine AWP.seq ?_
      refine AWP.text ?_
      refine Wy (.d (.lit (.int .u64 y0_0))) [] (Omv rfl) ?_
      refine Wy (.d (.lit (.int .u64 (Int.fdiv y0_0 (2 ^ 16))))) [] (Ocs (by kernel_rfl) (op_bin rfl (a1 := .int .u64 y0_0) (a2 := .int .u64 16) (by kernel_rfl) (by kernel_rfl) (fun _ => hb_shr (n := 16) (by decide) rfl))) ?_
      refine Wy (.d (.lit (.int .u64 (Int.fdiv y0_0 (2 ^ 16))))) [] (Omv rfl) ?_
      refine Walk.nil ?_
      refine Then.normal ?_
      refine Amk 5 0 ⟨((.d (.lit (.int .u64 (Int.fdiv y0_0 (2 ^ 16))))) :: (tp 1 ((.d (.lit (.int .i64 y2_0))) :: (tp 22 [])))), [], 0⟩ ?_
      refine AWP.text ?_
      refine Wy (.d (.lit (.int .i64 y2_0))) [] (Omv rfl) ?_
      refine Wy (.d (.lit (.int .i64 (IntKind.i64.wrap (y2_0 + 16))))) [] (Obn rfl (fun _ => hb_add (k := .i64))) ?_
      refine Wy (.d (.lit (.int .i64 (IntKind.i64.wrap (y2_0 + 16))))) [] (Omv rfl) ?_
      refine Walk.nil ?_
      refine Then.normal ?_
      exact AWP.weak (Weak.toK 5 0 0 []) (J1 ((Int.fdiv y0_0 (2 ^ 16)), (IntKind.i64.wrap (y2_0 + 16))) hm)
    · replace hm := cF hc8_5 hm
      refine AWP.if_ false (Eq.trans (by kernel_rfl) (lit_tf (b := decide ((65536 : Int) ≤ y0_0)) hc8_5)) ?_
      refine AWP.skip ?_
      refine Then.normal ?_
      exact AWP.weak (Weak.toK 5 0 0 []) (J1 (y0_0, y2_0) hm)
  refine AWP.seq ?_
  refine AWP.seq ?_
  refine AWP.text ?_
  refine Wy (.d (.lit (.int .u64 p0))) [] (Omv rfl) ?_
  refine Wy (.d (.lit (.bool (decide ((4294967296 : Int) ≤ p0))))) [] (Obn rfl (fun _ => hb_geq (k := .u64))) ?_
  refine Walk.nil ?_
  refine Then.normal ?_
  refine Amk 21 0 ⟨((.d (.lit (.int .u64 p0))) :: (tp 1 ((.d (.lit (.int .i64 0))) :: (tp 1 ((.d (.lit (.bool (decide ((4294967296 : Int) ≤ p0))))) :: (tp 20 [])))))), [], 0⟩ ?_
  rcases tf_ (decide ((4294967296 : Int) ≤ p0)) with hc4_6 | hc4_6
  · replace hm := cT hc4_6 hm
    refine AWP.if_ true (Eq.trans (by kernel_rfl) (lit_tf (b := decide ((4294967296 : Int) ≤ p0)) hc4_6)) ?_
    refine AWP.seq ?_
    refine AWP.text ?_
    refine Wy (.d (.lit (.int .u64 p0))) [] (Omv rfl) ?_
    refine Wy (.d (.lit (.int .u64 (Int.fdiv p0 (2 ^ 32))))) [] (Ocs (by kernel_rfl) (op_bin rfl (a1 := .int .u64 p0) (a2 := .int .u64 32) (by kernel_rfl) (by kernel_rfl) (fun _ => hb_shr (n := 32) (by decide) rfl))) ?_
    refine Wy (.d (.lit (.int .u64 (Int.fdiv p0 (2 ^ 32))))) [] (Omv rfl) ?_
    refine Walk.nil ?_
    refine Then.normal ?_
    refine Amk 1 0 ⟨((.d (.lit (.int .u64 (Int.fdiv p0 (2 ^ 32))))) :: (tp 24 [])), [], 0⟩ ?_
    refine AWP.text ?_
    refine Wy (.d (.lit (.int .i64 32))) [] (Omv rfl) ?_
    refine Walk.nil ?_
    refine Then.normal ?_
    exact AWP.weak (Weak.toK 5 0 0 []) (J0 ((Int.fdiv p0 (2 ^ 32)), 32) hm)
  · replace hm := cF hc4_6 hm
    refine AWP.if_ false (Eq.trans (by kernel_rfl) (lit_tf (b := decide ((4294967296 : Int) ≤ p0)) hc4_6)) ?_
    refine AWP.skip ?_
    refine Then.normal ?_
    exact AWP.weak (Weak.toK 5 0 0 []) (J0 (p0, 0) hm)

set_option maxRecDepth 20000 in
set_option maxHeartbeats 4000000 in
theorem ok_zig_Size (p0 : Int) (r : Int) (h : m_zig_Size p0 = some r) : GCall Try.prog 51 [(.d (.lit (.int .u64 p0)))] [] (.d (.lit (.int .i64 r))) [] := by
  refine GCall.of_body (n := 9) (rs := [(.tmp 2)]) Try.func51 rfl rfl rfl ?_
  refine Ato ⟨((.d (.lit (.int .u64 p0))) :: (tu 8 [])), [], 0⟩ ?_
  have hm := h
  unfold m_zig_Size at hm
  refine AWP.seq ?_
  refine AWP.text ?_
  refine Wy (.d (.lit (.int .i64 0))) [] (Omv rfl) ?_
  refine Walk.nil ?_
  refine Then.normal ?_
  refine Amk 1 0 ⟨((.d (.lit (.int .u64 p0))) :: (tp 8 [])), [], 0⟩ ?_
  refine AWP.seq ?_
  refine AWP.text ?_
  refine Wy (.d (.lit (.int .u64 p0))) [] (Omv rfl) ?_
  obtain ⟨r4_0, hr4_0, hm⟩ := bnd hm
  refine Wy (.d (.lit (.int .i64 r4_0))) [] (Ocf [] [] [] 0 (ok_math_bits_Len64 p0 r4_0 hr4_0) (fun a w => Try.call65 a w) rfl trivial) ?_
  refine Wy (.d (.lit (.int .i64 (IntKind.i64.wrap (r4_0 + 7))))) [] (Obn rfl (fun _ => hb_add (k := .i64))) ?_
  refine Wy (.d (.lit (.int .i64 (IntKind.i64.wrap ((IntKind.i64.wrap (r4_0 + 7)) - 1))))) [] (Obn rfl (fun _ => hb_sub (k := .i64))) ?_
  refine Wy (.d (.lit (.int .i64 (IntKind.i64.wrap (Int.tdiv (IntKind.i64.wrap ((IntKind.i64.wrap (r4_0 + 7)) - 1)) 7))))) [] (Ocs (by kernel_rfl) (op_bin rfl (a1 := .int .i64 (IntKind.i64.wrap ((IntKind.i64.wrap (r4_0 + 7)) - 1))) (a2 := .int .i64 7) (by kernel_rfl) (by kernel_rfl) (fun _ => hb_quo (by decide)))) ?_
  refine Wy (.d (.lit (.int .i64 (max 1 (IntKind.i64.wrap (Int.tdiv (IntKind.i64.wrap ((IntKind.i64.wrap (r4_0 + 7)) - 1)) 7)))))) [] (op_bi2 rfl (a1 := .int .i64 1) (a2 := .int .i64 (IntKind.i64.wrap (Int.tdiv (IntKind.i64.wrap ((IntKind.i64.wrap (r4_0 + 7)) - 1)) 7))) (by kernel_rfl) (by kernel_rfl) hb_max) ?_
  refine Wy (.d (.lit (.int .i64 (max 1 (IntKind.i64.wrap (Int.tdiv (IntKind.i64.wrap ((IntKind.i64.wrap (r4_0 + 7)) - 1)) 7)))))) [] (Omv rfl) ?_
  refine Walk.nil ?_
  refine Then.normal ?_
  refine AWP.ret ?_
  obtain rfl := Option.some.inj hm
  exact ret_i []

set_option maxRecDepth 20000 in
set_option maxHeartbeats 4000000 in
theorem ok_zig_Put (p0 : (List UInt8)) (p1 : Int) (r : (List UInt8)) (h : m_zig_Put p0 p1 = some r) : GCall Try.prog 30 [(.d (.sl (List.length p0) (flatD encU8 p0))), (.d (.lit (.int .u64 p1)))] [] (.own 0) [(.arr 5 1 (List.length r) (flatD encU8 r))] := by
  refine GCall.of_body (n := 41) (rs := [(.tmp 4)]) Try.func30 rfl rfl rfl ?_
  refine Ato ⟨((.d (.sl (List.length p0) (flatD encU8 p0))) :: ((.d (.lit (.int .u64 p1))) :: (tu 39 []))), [], 0⟩ ?_
  have hm := h
  unfold m_zig_Put at hm
  refine AWP.seq ?_
  refine AWP.text ?_
  refine Wy (.d .nil) [] (Omv rfl) ?_
  refine Walk.nil ?_
  refine Then.normal ?_
  refine Amk 3 0 ⟨((.d (.sl (List.length p0) (flatD encU8 p0))) :: ((.d (.lit (.int .u64 p1))) :: (tp 39 []))), [], 0⟩ ?_
  refine AWP.seq ?_
  refine AWP.text ?_
  refine Wy (.d (.lit (.int .u64 p1))) [] (Omv rfl) ?_
  obtain ⟨r10_0, hr10_0, hm⟩ := bnd hm
  refine Wy (.d (.lit (.int .i64 r10_0))) [] (Ocf [] [] [] 0 (ok_zig_Size p1 r10_0 hr10_0) (fun a w => Try.call51 a w) rfl trivial) ?_
  refine Wy (.d (.lit (.int .i64 r10_0))) [] (Omv rfl) ?_
  refine Walk.nil ?_
  refine Then.normal ?_
  refine Amk 35 0 ⟨((.d (.sl (List.length p0) (flatD encU8 p0))) :: ((.d (.lit (.int .u64 p1))) :: (tp 3 ((.d (.lit (.int .i64 r10_0))) :: (tp 35 []))))), [], 0⟩ ?_
  refine AWP.seq ?_
  refine AWP.text ?_
  refine Wy (.d (.sl (List.length p0) (flatD encU8 p0))) [] (Omv rfl) ?_
  refine Wy (.d (.lit (.int .i64 ((List.length p0 : Nat) : Int)))) [] (Oln rfl) ?_
  refine Wy (.d (.lit (.int .i64 r10_0))) [] (Omv rfl) ?_
  refine Wy (.d (.lit (.int .i64 (IntKind.i64.wrap (((List.length p0 : Nat) : Int) + r10_0))))) [] (Obn rfl (fun _ => hb_add (k := .i64))) ?_
  obtain ⟨m15_1, hm15_1, hm⟩ := bnd hm; obtain ⟨hm15_1i, hm15_1j, hm15_1l, hm15_1k, hm15_1e⟩ := mkc_some hm15_1
  refine Wy (.own 0) [(0, (.arr 5 1 (List.length m15_1) (flatD encU8 m15_1)))] (OcB (op_makeC rfl elemOK_25 (by kernel_rfl) (kl := .i64) (kc := .i64) (L := 0) (C := (IntKind.i64.wrap (((List.length p0 : Nat) : Int) + r10_0))) (by kernel_rfl) (by kernel_rfl) (n := Int.toNat 0) (cp := Int.toNat (IntKind.i64.wrap (((List.length p0 : Nat) : Int) + r10_0))) hm15_1i hm15_1j hm15_1l (by omega) (by kernel_rfl)) (bl_one (by rw [hm15_1e]; simp) (by rw [hm15_1e]; exact (flat_rep (by kernel_rfl))))) ?_
  refine Wy (.own 0) [] (Omv rfl) ?_
  refine Walk.nil ?_
  refine Then.normal ?_
  refine Amk 99 1 ⟨((.d (.sl (List.length p0) (flatD encU8 p0))) :: ((.d (.lit (.int .u64 p1))) :: (tp 3 ((.d (.lit (.int .i64 r10_0))) :: ((.own 0) :: (tp 34 [])))))), [(.arr 5 1 (List.length m15_1) (flatD encU8 m15_1))], 0⟩ ?_
  refine AWP.seq ?_
  refine AWP.text ?_
  refine Wy (.own 0) [] (Omv rfl) ?_
  refine Wy (.d (.sl (List.length p0) (flatD encU8 p0))) [] (Omv rfl) ?_
  obtain ⟨a18_2, ha18_2, hm⟩ := bnd hm; obtain ⟨ha18_2e, ha18_2l⟩ := app_some ha18_2
  refine Wy (.own 1) [(0, .gone), (1, (.arr 5 1 (List.length a18_2) (flatD encU8 a18_2)))] (Oap rfl elemOK_25 encU8_len ha18_2e ha18_2l) ?_
  refine Wy (.own 1) [] (Omv rfl) ?_
  refine Walk.nil ?_
  refine Then.normal ?_
  refine Amk 98 2 ⟨(tp 1 ((.d (.lit (.int .u64 p1))) :: (tp 3 ((.d (.lit (.int .i64 r10_0))) :: ((.own 1) :: (tp 34 [])))))), [.gone, (.arr 5 1 (List.length a18_2) (flatD encU8 a18_2))], 0⟩ ?_
  refine AWP.seq ?_
  refine AWP.seq ?_
  refine AWP.text ?_
  refine Wy (.d (.lit (.int .i64 r10_0))) [] (Omv rfl) ?_
  refine Wy (.d (.lit (.int .i64 0))) [] (Omv rfl) ?_
  refine Walk.nil ?_
  refine Then.normal ?_
  refine Amk 1572962 2 ⟨(tp 1 ((.d (.lit (.int .u64 p1))) :: (tp 3 ((.d (.lit (.int .i64 r10_0))) :: ((.own 1) :: (tp 12 ((.d (.lit (.int .i64 r10_0))) :: ((.d (.lit (.int .i64 0))) :: (tp 20 []))))))))), [.gone, (.arr 5 1 (List.length a18_2) (flatD encU8 a18_2))], 0⟩ ?_
  refine AWP.block ?_
  refine AWP.loopI (α := Nat × (List UInt8) × Int)
    (fun x => match x with | (fu_3, y6_3, y20_3) => (⟨(tp 1 ((.d (.lit (.int .u64 p1))) :: (tp 3 ((.d (.lit (.int .i64 r10_0))) :: ((.own 0) :: (tp 12 ((.d (.lit (.int .i64 r10_0))) :: ((.d (.lit (.int .i64 y20_3))) :: (tp 20 []))))))))), [(.arr 5 1 (List.length y6_3) (flatD encU8 y6_3))], 0⟩ : St))
    (fun x => match x with | (fu_3, y6_3, y20_3) => m_zig_Put_l3 p1 r10_0 fu_3 y6_3 y20_3 = some r)
    (fun x => match x with | (fu_3, y6_3, y20_3) => fu_3) (1152921504606846976, a18_2, 0)
    (Weak.toK 1572962 0 0 [1]) hm ?_
  rintro ⟨fu_3, y6_3, y20_3⟩ n_3 hm ih_3
  try dsimp only at hm ih_3 ⊢
  cases fu_3 with
  | zero => exact absurd hm (by unfold m_zig_Put_l3; simp)
  | succ fu_3 =>
    unfold m_zig_Put_l3 at hm
    refine AWP.seq ?_
    refine AWP.text ?_
    refine Wy (.d (.lit (.bool (decide (y20_3 < r10_0))))) [] (Obn rfl (fun _ => hb_lss (k := .i64))) ?_
    refine Walk.nil ?_
    refine Then.normal ?_
    refine Amk 3670114 1 ⟨(tp 1 ((.d (.lit (.int .u64 p1))) :: (tp 3 ((.d (.lit (.int .i64 r10_0))) :: ((.own 0) :: (tp 12 ((.d (.lit (.int .i64 r10_0))) :: ((.d (.lit (.int .i64 y20_3))) :: ((.d (.lit (.bool (decide (y20_3 < r10_0))))) :: (tp 19 [])))))))))), [(.arr 5 1 (List.length y6_3) (flatD encU8 y6_3))], 0⟩ ?_
    refine AWP.seq ?_
    rcases tf_ (decide (y20_3 < r10_0)) with hc21_6 | hc21_6
    · replace hm := cT hc21_6 hm
      refine AWP.if_ true (Eq.trans (by kernel_rfl) (lit_tf (b := decide (y20_3 < r10_0)) hc21_6)) ?_
      refine AWP.skip ?_
      refine Then.normal ?_
      refine Amk 1572962 1 ⟨(tp 1 ((.d (.lit (.int .u64 p1))) :: (tp 3 ((.d (.lit (.int .i64 r10_0))) :: ((.own 0) :: (tp 12 ((.d (.lit (.int .i64 r10_0))) :: ((.d (.lit (.int .i64 y20_3))) :: (tp 20 []))))))))), [(.arr 5 1 (List.length y6_3) (flatD encU8 y6_3))], 0⟩ ?_
      refine AWP.seq ?_
      refine AWP.block ?_
      refine AWP.seq ?_
      refine AWP.text ?_
      refine Wy (.d (.lit (.int .i64 y20_3))) [] (Omv rfl) ?_
      refine Wy (.d (.lit (.int .i64 y20_3))) [] (Omv rfl) ?_
      refine Walk.nil ?_
      refine Then.normal ?_
      refine Amk 1573090 1 ⟨(tp 1 ((.d (.lit (.int .u64 p1))) :: (tp 3 ((.d (.lit (.int .i64 r10_0))) :: ((.own 0) :: ((.d (.lit (.int .i64 y20_3))) :: (tp 11 ((.d (.lit (.int .i64 r10_0))) :: ((.d (.lit (.int .i64 y20_3))) :: (tp 20 [])))))))))), [(.arr 5 1 (List.length y6_3) (flatD encU8 y6_3))], 0⟩ ?_
      refine AWP.seq ?_
      refine AWP.text ?_
      refine Wy (.d (.lit (.int .u64 p1))) [] (Omv rfl) ?_
      refine Wy (.d (.lit (.int .i64 y20_3))) [] (Omv rfl) ?_
      refine Wy (.d (.lit (.int .i64 (IntKind.i64.wrap (7 * y20_3))))) [] (Obn rfl (fun _ => hb_mul (k := .i64))) ?_
      obtain ⟨hs26_4, hm⟩ := chk_some hm
      refine Wy (.d (.lit (.int .u64 (Int.fdiv p1 (2 ^ (Int.toNat (IntKind.i64.wrap (7 * y20_3)))))))) [] (Ocs (by kernel_rfl) (op_bin rfl (a1 := .int .u64 p1) (a2 := .int .i64 (IntKind.i64.wrap (7 * y20_3))) (by kernel_rfl) (by kernel_rfl) (fun _ => hb_shr (n := (Int.toNat (IntKind.i64.wrap (7 * y20_3)))) (sh_le hs26_4.2) (sh_eq hs26_4.1)))) ?_
      refine Wy (.d (byteD (toU8 (Int.fdiv p1 (2 ^ (Int.toNat (IntKind.i64.wrap (7 * y20_3)))))))) [] (Ocs (lit_int (u8w _)) (op_convert rfl (a1 := .int .u64 (Int.fdiv p1 (2 ^ (Int.toNat (IntKind.i64.wrap (7 * y20_3)))))) (by kernel_rfl) (run_conv (ds := .int .u64) (k' := .u8) (by kernel_rfl) (by kernel_rfl)))) ?_
      obtain ⟨v28_4, hv28_4, hm⟩ := bnd hm; replace hv28_4 := Option.some.inj hv28_4
      refine Wy (.d (byteD v28_4)) [] (Ocs (Eq.trans (lit_int (u8w _)) (congrArg (fun z => A.d (byteD z)) hv28_4)) (op_bin rfl (a1 := .int .u8 (((toU8 (Int.fdiv p1 (2 ^ (Int.toNat (IntKind.i64.wrap (7 * y20_3)))))).toNat : Nat) : Int)) (a2 := .int .u8 128) (by kernel_rfl) (by kernel_rfl) (fun _ => hb_or))) ?_
      refine Wy (.d (byteD v28_4)) [] (Omv rfl) ?_
      refine Walk.nil ?_
      refine Then.normal ?_
      refine Amk 1573346 1 ⟨(tp 1 ((.d (.lit (.int .u64 p1))) :: (tp 3 ((.d (.lit (.int .i64 r10_0))) :: ((.own 0) :: ((.d (.lit (.int .i64 y20_3))) :: ((.d (byteD v28_4)) :: (tp 10 ((.d (.lit (.int .i64 r10_0))) :: ((.d (.lit (.int .i64 y20_3))) :: (tp 20 []))))))))))), [(.arr 5 1 (List.length y6_3) (flatD encU8 y6_3))], 0⟩ ?_
      refine AWP.cutJ (α := UInt8) (fun x => match x with | y8_5 => (⟨(tp 1 ((.d (.lit (.int .u64 p1))) :: (tp 3 ((.d (.lit (.int .i64 r10_0))) :: ((.own 0) :: (tp 1 ((.d (byteD y8_5)) :: (tp 10 ((.d (.lit (.int .i64 r10_0))) :: ((.d (.lit (.int .i64 y20_3))) :: (tp 20 []))))))))))), [(.arr 5 1 (List.length y6_3) (flatD encU8 y6_3))], 0⟩ : St)) (fun x => match x with | y8_5 => m_zig_Put_j5 y20_3 y6_3 (fun y6_3 y20_3 => m_zig_Put_l3 p1 r10_0 fu_3 y6_3 y20_3) y8_5 = some r) ?_ (fun J5 => ?_)
      · rintro y8_5 hm
        try dsimp only at hm ⊢
        unfold m_zig_Put_j5 at hm
        refine AWP.text ?_
        refine Wy (.own 0) [] (Omv rfl) ?_
        refine Wy (.d (byteD y8_5)) [] (Omv rfl) ?_
        refine Wy (.own 1) [(1, (.arr 5 1 (List.length ([y8_5] : List UInt8)) (flatD encU8 ([y8_5] : List UInt8))))] (Obs rfl) ?_
        obtain ⟨a38_5, ha38_5, hm⟩ := bnd hm; obtain ⟨ha38_5e, ha38_5l⟩ := app_some ha38_5
        refine Wy (.own 2) [(0, .gone), (2, (.arr 5 1 (List.length a38_5) (flatD encU8 a38_5)))] (Oap rfl elemOK_25 encU8_len ha38_5e ha38_5l) ?_
        refine Wy (.own 2) [] (Omv rfl) ?_
        refine Walk.nil ?_
        refine InBlock.normal ?_
        refine Then.normal ?_
        refine Amk 1572962 4 ⟨(tp 1 ((.d (.lit (.int .u64 p1))) :: (tp 3 ((.d (.lit (.int .i64 r10_0))) :: ((.own 2) :: (tp 12 ((.d (.lit (.int .i64 r10_0))) :: ((.d (.lit (.int .i64 y20_3))) :: (tp 20 []))))))))), [.gone, .gone, (.arr 5 1 (List.length a38_5) (flatD encU8 a38_5))], 0⟩ ?_
        refine AWP.text ?_
        refine Wy (.d (.lit (.int .i64 (IntKind.i64.wrap (y20_3 + 1))))) [] (Obn rfl (fun _ => hb_add (k := .i64))) ?_
        refine Wy (.d (.lit (.int .i64 (IntKind.i64.wrap (y20_3 + 1))))) [] (Omv rfl) ?_
        refine Walk.nil ?_
        refine RoundK.normal ?_
        exact Rounds.weak (Weak.toK 1572962 0 0 [2]) (ih_3 (fu_3, a38_5, (IntKind.i64.wrap (y20_3 + 1))) hm (Nat.lt_succ_self _))
      refine AWP.seq ?_
      refine AWP.seq ?_
      refine AWP.text ?_
      refine Wy (.d (.lit (.int .i64 y20_3))) [] (Omv rfl) ?_
      refine Wy (.d (.lit (.int .i64 r10_0))) [] (Omv rfl) ?_
      refine Wy (.d (.lit (.int .i64 (IntKind.i64.wrap (r10_0 - 1))))) [] (Obn rfl (fun _ => hb_sub (k := .i64))) ?_
      refine Wy (.d (.lit (.bool (decide (y20_3 = (IntKind.i64.wrap (r10_0 - 1))))))) [] (Obn rfl (fun _ => hb_eql (k := .i64))) ?_
      refine Walk.nil ?_
      refine Then.normal ?_
      refine Amk 4296540514 1 ⟨(tp 1 ((.d (.lit (.int .u64 p1))) :: (tp 3 ((.d (.lit (.int .i64 r10_0))) :: ((.own 0) :: (tp 1 ((.d (byteD v28_4)) :: (tp 10 ((.d (.lit (.int .i64 r10_0))) :: ((.d (.lit (.int .i64 y20_3))) :: (tp 11 ((.d (.lit (.bool (decide (y20_3 = (IntKind.i64.wrap (r10_0 - 1))))))) :: (tp 8 []))))))))))))), [(.arr 5 1 (List.length y6_3) (flatD encU8 y6_3))], 0⟩ ?_
      rcases tf_ (decide (y20_3 = (IntKind.i64.wrap (r10_0 - 1)))) with hc32_7 | hc32_7
      · replace hm := cT hc32_7 hm
        refine AWP.if_ true (Eq.trans (by kernel_rfl) (lit_tf (b := decide (y20_3 = (IntKind.i64.wrap (r10_0 - 1)))) hc32_7)) ?_
        refine AWP.text ?_
        refine Wy (.d (byteD v28_4)) [] (Omv rfl) ?_
        refine Wy (.d (byteD (toU8 (((BitVec.ofInt 8 ((v28_4.toNat : Nat) : Int) &&& ~~~ BitVec.ofInt 8 128).toNat : Int))))) [] (Ocs (lit_int (u8w _)) (op_bin rfl (a1 := .int .u8 ((v28_4.toNat : Nat) : Int)) (a2 := .int .u8 128) (by kernel_rfl) (by kernel_rfl) (fun _ => hb_andNot))) ?_
        refine Wy (.d (byteD (toU8 (((BitVec.ofInt 8 ((v28_4.toNat : Nat) : Int) &&& ~~~ BitVec.ofInt 8 128).toNat : Int))))) [] (Omv rfl) ?_
        refine Walk.nil ?_
        refine Then.normal ?_
        exact AWP.weak (Weak.toK 1573218 0 0 [0]) (J5 ((toU8 (((BitVec.ofInt 8 ((v28_4.toNat : Nat) : Int) &&& ~~~ BitVec.ofInt 8 128).toNat : Int)))) hm)
      · replace hm := cF hc32_7 hm
        refine AWP.if_ false (Eq.trans (by kernel_rfl) (lit_tf (b := decide (y20_3 = (IntKind.i64.wrap (r10_0 - 1)))) hc32_7)) ?_
        refine AWP.skip ?_
        refine Then.normal ?_
        exact AWP.weak (Weak.toK 1573218 0 0 [0]) (J5 (v28_4) hm)
    · replace hm := cF hc21_6 hm
      refine AWP.if_ false (Eq.trans (by kernel_rfl) (lit_tf (b := decide (y20_3 < r10_0)) hc21_6)) ?_
      refine AWP.exit ?_
      refine Then.exit ?_
      refine RoundK.exit ?_
      refine InBlock.same ?_
      refine Then.normal ?_
      refine Amk 64 1 ⟨(tp 6 ((.own 0) :: (tp 34 []))), [(.arr 5 1 (List.length y6_3) (flatD encU8 y6_3))], 0⟩ ?_
      refine AWP.seq ?_
      refine AWP.text ?_
      refine Wy (.own 0) [] (Omv rfl) ?_
      refine Wy (.own 0) [] (Omv rfl) ?_
      refine Walk.nil ?_
      refine Then.normal ?_
      refine AWP.ret ?_
      obtain rfl := Option.some.inj hm
      exact ret_i [0]

set_option maxRecDepth 20000 in
set_option maxHeartbeats 4000000 in
theorem ok_zig_PutInt (p0 : (List UInt8)) (p1 : Int) (r : (List UInt8)) (h : m_zig_PutInt p0 p1 = some r) : GCall Try.prog 28 [(.d (.sl (List.length p0) (flatD encU8 p0))), (.d (.lit (.int .i64 p1)))] [] (.own 0) [(.arr 5 1 (List.length r) (flatD encU8 r))] := by
  refine GCall.of_body (n := 9) (rs := [(.tmp 4)]) Try.func28 rfl rfl rfl ?_
  refine Ato ⟨((.d (.sl (List.length p0) (flatD encU8 p0))) :: ((.d (.lit (.int .i64 p1))) :: (tu 7 []))), [], 0⟩ ?_
  have hm := h
  unfold m_zig_PutInt at hm
  refine AWP.seq ?_
  refine AWP.text ?_
  refine Wy (.d .nil) [] (Omv rfl) ?_
  refine Walk.nil ?_
  refine Then.normal ?_
  refine Amk 3 0 ⟨((.d (.sl (List.length p0) (flatD encU8 p0))) :: ((.d (.lit (.int .i64 p1))) :: (tp 7 []))), [], 0⟩ ?_
  refine AWP.seq ?_
  refine AWP.text ?_
  refine Wy (.d (.sl (List.length p0) (flatD encU8 p0))) [] (Omv rfl) ?_
  refine Wy (.d (.lit (.int .i64 p1))) [] (Omv rfl) ?_
  obtain ⟨r7_0, hr7_0, hm⟩ := bnd hm
  refine Wy (.d (.lit (.int .u64 r7_0))) [] (Ocf [] [] [] 0 (ok_zig_Fold p1 r7_0 hr7_0) (fun a w => Try.call48 a w) rfl trivial) ?_
  obtain ⟨r8_0, hr8_0, hm⟩ := bnd hm
  refine Wy (.own 0) [(0, (.arr 5 1 (List.length r8_0) (flatD encU8 r8_0)))] (Ocf [] [0] [] 0 (ok_zig_Put p0 r7_0 r8_0 hr8_0) (fun a w => Try.call30 a w) rfl trivial) ?_
  refine Wy (.own 0) [] (Omv rfl) ?_
  refine Walk.nil ?_
  refine Then.normal ?_
  refine AWP.ret ?_
  obtain rfl := Option.some.inj hm
  exact ret_i [0]

set_option maxRecDepth 20000 in
set_option maxHeartbeats 4000000 in
theorem ok_octet_grown (p0 : (List UInt8)) (p1 : Int) (r : (List UInt8)) (h : m_octet_grown p0 p1 = some r) : GCall Try.prog 49 [(.d (.sl (List.length p0) (flatD encU8 p0))), (.d (.lit (.int .i64 p1)))] [] (.own 0) [(.arr 5 1 (List.length r) (flatD encU8 r))] := by
  refine GCall.of_body (n := 15) (rs := [(.tmp 4)]) Try.func49 rfl rfl rfl ?_
  refine Ato ⟨((.d (.sl (List.length p0) (flatD encU8 p0))) :: ((.d (.lit (.int .i64 p1))) :: (tu 13 []))), [], 0⟩ ?_
  have hm := h
  unfold m_octet_grown at hm
  refine AWP.seq ?_
  refine AWP.text ?_
  refine Wy (.d .nil) [] (Omv rfl) ?_
  refine Walk.nil ?_
  refine Then.normal ?_
  refine Amk 3 0 ⟨((.d (.sl (List.length p0) (flatD encU8 p0))) :: ((.d (.lit (.int .i64 p1))) :: (tp 13 []))), [], 0⟩ ?_
  refine AWP.seq ?_
  refine AWP.text ?_
  refine Wy (.d (.sl (List.length p0) (flatD encU8 p0))) [] (Omv rfl) ?_
  refine Wy (.d (.lit (.int .i64 ((List.length p0 : Nat) : Int)))) [] (Oln rfl) ?_
  refine Wy (.d (.lit (.int .i64 p1))) [] (Omv rfl) ?_
  refine Wy (.d (.lit (.int .i64 (IntKind.i64.wrap (((List.length p0 : Nat) : Int) + p1))))) [] (Obn rfl (fun _ => hb_add (k := .i64))) ?_
  obtain ⟨m10_0, hm10_0, hm⟩ := bnd hm; obtain ⟨hm10_0i, hm10_0l, hm10_0e⟩ := mk_some hm10_0
  refine Wy (.own 0) [(0, (.arr 5 1 (List.length m10_0) (flatD encU8 m10_0)))] (OcB (op_make rfl elemOK_25 (by kernel_rfl) (kl := .i64) (kc := .i64) (L := (IntKind.i64.wrap (((List.length p0 : Nat) : Int) + p1))) (C := (IntKind.i64.wrap (((List.length p0 : Nat) : Int) + p1))) (by kernel_rfl) (by kernel_rfl) (n := Int.toNat (IntKind.i64.wrap (((List.length p0 : Nat) : Int) + p1))) hm10_0i hm10_0i (by omega) (by kernel_rfl)) (bl_one (by rw [hm10_0e]; simp) (by rw [hm10_0e]; exact (flat_rep (by kernel_rfl))))) ?_
  refine Wy (.own 0) [] (Omv rfl) ?_
  refine Walk.nil ?_
  refine Then.normal ?_
  refine Amk 33 1 ⟨((.d (.sl (List.length p0) (flatD encU8 p0))) :: (tp 4 ((.own 0) :: (tp 9 [])))), [(.arr 5 1 (List.length m10_0) (flatD encU8 m10_0))], 0⟩ ?_
  refine AWP.seq ?_
  refine AWP.text ?_
  refine Wy (.own 0) [] (Omv rfl) ?_
  refine Wy (.d (.sl (List.length p0) (flatD encU8 p0))) [] (Omv rfl) ?_
  obtain ⟨c13_1, hc13_1, hm⟩ := bnd hm; obtain ⟨hc13_1e, hc13_1l⟩ := cpy_some hc13_1
  refine Wy (.d (.lit (.int .i64 ((List.length p0 : Nat) : Int)))) [(0, (.arr 5 1 (List.length c13_1) (flatD encU8 c13_1)))] (OcB (Ocs (by kernel_rfl) (op_copy rfl (e := 5) (sz := 1) (by kernel_rfl) (yd := (.own 0)) (by kernel_rfl) (id := 0) (off := 0) (dn := List.length m10_0) (by kernel_rfl) (n := List.length m10_0) (xs := flatD encU8 m10_0) (by kernel_rfl) (y := (.d (.sl (List.length p0) (flatD encU8 p0)))) (by kernel_rfl) (ds := flatD encU8 p0) (soff := 0) (k := List.length p0) (by kernel_rfl) (es := flatD encU8 p0) (flat_all encU8_len) (flatD_length encU8_len _) hc13_1l (cpy_fit encU8_len hc13_1l) (by decide))) (bl_one (cpy_len hc13_1e hc13_1l) (by rw [hc13_1e]; exact cpy_put encU8_len hc13_1l))) ?_
  refine Walk.nil ?_
  refine Then.normal ?_
  refine Amk 32 1 ⟨(tp 5 ((.own 0) :: (tp 9 []))), [(.arr 5 1 (List.length c13_1) (flatD encU8 c13_1))], 0⟩ ?_
  refine AWP.seq ?_
  refine AWP.text ?_
  refine Wy (.own 0) [] (Omv rfl) ?_
  refine Wy (.own 0) [] (Omv rfl) ?_
  refine Walk.nil ?_
  refine Then.normal ?_
  refine AWP.ret ?_
  obtain rfl := Option.some.inj hm
  exact ret_i [0]

set_option maxRecDepth 20000 in
set_option maxHeartbeats 4000000 in
theorem ok_octet_lay (p0 : (List UInt8)) (p1 : Int) (p2 : Int) (r : (List UInt8)) (h : m_octet_lay p0 p1 p2 = some r) : GCall Try.prog 50 [(.own 0), (.d (.lit (.int .i64 p1))), (.d (.lit (.int .u64 p2)))] [(.arr 5 1 (List.length p0) (flatD encU8 p0))] (.tup []) [(.arr 5 1 (List.length r) (flatD encU8 r))] := by
  refine GCall.of_body (n := 25) (rs := []) Try.func50 rfl rfl rfl ?_
  refine Ato ⟨((.own 0) :: ((.d (.lit (.int .i64 p1))) :: ((.d (.lit (.int .u64 p2))) :: (tu 22 [])))), [(.arr 5 1 (List.length p0) (flatD encU8 p0))], 1⟩ ?_
  have hm := h
  unfold m_octet_lay at hm
  refine AWP.seq ?_
  refine AWP.text ?_
  refine Wy (.own 0) [] (Omv rfl) ?_
  refine Wy (.d (.lit (.int .i64 ((List.length p0 : Nat) : Int)))) [] (Oln rfl) ?_
  refine Wy (.d (.lit (.int .i64 (IntKind.i64.wrap (((List.length p0 : Nat) : Int) - 1))))) [] (Obn rfl (fun _ => hb_sub (k := .i64))) ?_
  refine Wy (.d (.lit (.int .i64 (IntKind.i64.wrap (((List.length p0 : Nat) : Int) - 1))))) [] (Omv rfl) ?_
  refine Walk.nil ?_
  refine Then.normal ?_
  refine Amk 71 1 ⟨((.own 0) :: ((.d (.lit (.int .i64 p1))) :: ((.d (.lit (.int .u64 p2))) :: (tp 3 ((.d (.lit (.int .i64 (IntKind.i64.wrap (((List.length p0 : Nat) : Int) - 1))))) :: (tp 18 [])))))), [(.arr 5 1 (List.length p0) (flatD encU8 p0))], 1⟩ ?_
  refine AWP.block ?_
  refine AWP.loopI (α := Nat × (List UInt8) × Int × Int)
    (fun x => match x with | (fu_1, y0_1, y2_1, y6_1) => (⟨((.own 0) :: ((.d (.lit (.int .i64 p1))) :: ((.d (.lit (.int .u64 y2_1))) :: (tp 3 ((.d (.lit (.int .i64 y6_1))) :: (tp 18 [])))))), [(.arr 5 1 (List.length y0_1) (flatD encU8 y0_1))], 1⟩ : St))
    (fun x => match x with | (fu_1, y0_1, y2_1, y6_1) => m_octet_lay_l1 p1 fu_1 y0_1 y2_1 y6_1 = some r)
    (fun x => match x with | (fu_1, y0_1, y2_1, y6_1) => fu_1) (1152921504606846976, p0, p2, (IntKind.i64.wrap (((List.length p0 : Nat) : Int) - 1)))
    (Weak.toK 71 0 0 [0]) hm ?_
  rintro ⟨fu_1, y0_1, y2_1, y6_1⟩ n_1 hm ih_1
  try dsimp only at hm ih_1 ⊢
  cases fu_1 with
  | zero => exact absurd hm (by unfold m_octet_lay_l1; simp)
  | succ fu_1 =>
    unfold m_octet_lay_l1 at hm
    refine AWP.seq ?_
    refine AWP.seq ?_
    refine AWP.text ?_
    refine Wy (.d (.lit (.int .i64 y6_1))) [] (Omv rfl) ?_
    refine Wy (.own 0) [] (Omv rfl) ?_
    refine Wy (.d (.lit (.int .i64 ((List.length y0_1 : Nat) : Int)))) [] (Oln rfl) ?_
    refine Wy (.d (.lit (.int .i64 p1))) [] (Omv rfl) ?_
    refine Wy (.d (.lit (.int .i64 (IntKind.i64.wrap (((List.length y0_1 : Nat) : Int) - p1))))) [] (Obn rfl (fun _ => hb_sub (k := .i64))) ?_
    refine Wy (.d (.lit (.bool (decide ((IntKind.i64.wrap (((List.length y0_1 : Nat) : Int) - p1)) ≤ y6_1))))) [] (Obn rfl (fun _ => hb_geq (k := .i64))) ?_
    refine Walk.nil ?_
    refine Then.normal ?_
    refine Amk 32839 1 ⟨((.own 0) :: ((.d (.lit (.int .i64 p1))) :: ((.d (.lit (.int .u64 y2_1))) :: (tp 3 ((.d (.lit (.int .i64 y6_1))) :: (tp 8 ((.d (.lit (.bool (decide ((IntKind.i64.wrap (((List.length y0_1 : Nat) : Int) - p1)) ≤ y6_1))))) :: (tp 9 [])))))))), [(.arr 5 1 (List.length y0_1) (flatD encU8 y0_1))], 1⟩ ?_
    rcases tf_ (decide ((IntKind.i64.wrap (((List.length y0_1 : Nat) : Int) - p1)) ≤ y6_1)) with hc15_4 | hc15_4
    · replace hm := cT hc15_4 hm
      refine AWP.if_ true (Eq.trans (by kernel_rfl) (lit_tf (b := decide ((IntKind.i64.wrap (((List.length y0_1 : Nat) : Int) - p1)) ≤ y6_1)) hc15_4)) ?_
      refine AWP.skip ?_
      refine Then.normal ?_
      refine Amk 71 1 ⟨((.own 0) :: ((.d (.lit (.int .i64 p1))) :: ((.d (.lit (.int .u64 y2_1))) :: (tp 3 ((.d (.lit (.int .i64 y6_1))) :: (tp 18 [])))))), [(.arr 5 1 (List.length y0_1) (flatD encU8 y0_1))], 1⟩ ?_
      refine AWP.seq ?_
      refine AWP.block ?_
      refine AWP.seq ?_
      refine AWP.text ?_
      refine Wy (.own 0) [] (Omv rfl) ?_
      refine Wy (.d (.lit (.int .i64 y6_1))) [] (Omv rfl) ?_
      refine Wy (.d (.lit (.int .u64 y2_1))) [] (Omv rfl) ?_
      refine Wy (.d (byteD (toU8 y2_1))) [] (Ocs (lit_int (u8w _)) (op_convert rfl (a1 := .int .u64 y2_1) (by kernel_rfl) (run_conv (ds := .int .u64) (k' := .u8) (by kernel_rfl) (by kernel_rfl)))) ?_
      obtain ⟨x22_3, hx22_3, hm⟩ := bnd hm
      obtain ⟨hx22_3i, hx22_3g⟩ := geti_some hx22_3
      refine Wy (.loc 0 ((Int.toNat y6_1) * 1)) [] (Oia rfl encU8_len hx22_3i hx22_3g) ?_
      refine Wy (.tup []) [(0, (.arr 5 1 (List.length (List.set y0_1 (Int.toNat y6_1) (toU8 y2_1))) (flatD encU8 (List.set y0_1 (Int.toNat y6_1) (toU8 y2_1)))))] (Osr 0 rfl encU8_len hx22_3g (toU8 y2_1)) ?_
      refine Walk.nil ?_
      refine Then.normal ?_
      refine Amk 71 1 ⟨((.own 0) :: ((.d (.lit (.int .i64 p1))) :: ((.d (.lit (.int .u64 y2_1))) :: (tp 3 ((.d (.lit (.int .i64 y6_1))) :: (tp 18 [])))))), [(.arr 5 1 (List.length (List.set y0_1 (Int.toNat y6_1) (toU8 y2_1))) (flatD encU8 (List.set y0_1 (Int.toNat y6_1) (toU8 y2_1))))], 1⟩ ?_
      refine AWP.text ?_
      refine Wy (.d (.lit (.int .u64 y2_1))) [] (Omv rfl) ?_
      refine Wy (.d (.lit (.int .u64 (Int.fdiv y2_1 (2 ^ 8))))) [] (Ocs (by kernel_rfl) (op_bin rfl (a1 := .int .u64 y2_1) (a2 := .int .u64 8) (by kernel_rfl) (by kernel_rfl) (fun _ => hb_shr (n := 8) (by decide) rfl))) ?_
      refine Wy (.d (.lit (.int .u64 (Int.fdiv y2_1 (2 ^ 8))))) [] (Omv rfl) ?_
      refine Walk.nil ?_
      refine InBlock.normal ?_
      refine Then.normal ?_
      refine Amk 71 1 ⟨((.own 0) :: ((.d (.lit (.int .i64 p1))) :: ((.d (.lit (.int .u64 (Int.fdiv y2_1 (2 ^ 8))))) :: (tp 3 ((.d (.lit (.int .i64 y6_1))) :: (tp 18 [])))))), [(.arr 5 1 (List.length (List.set y0_1 (Int.toNat y6_1) (toU8 y2_1))) (flatD encU8 (List.set y0_1 (Int.toNat y6_1) (toU8 y2_1))))], 1⟩ ?_
      refine AWP.text ?_
      refine Wy (.d (.lit (.int .i64 y6_1))) [] (Omv rfl) ?_
      refine Wy (.d (.lit (.int .i64 (IntKind.i64.wrap (y6_1 - 1))))) [] (Obn rfl (fun _ => hb_sub (k := .i64))) ?_
      refine Wy (.d (.lit (.int .i64 (IntKind.i64.wrap (y6_1 - 1))))) [] (Omv rfl) ?_
      refine Walk.nil ?_
      refine RoundK.normal ?_
      exact Rounds.weak (Weak.toK 71 0 0 [0]) (ih_1 (fu_1, (List.set y0_1 (Int.toNat y6_1) (toU8 y2_1)), (Int.fdiv y2_1 (2 ^ 8)), (IntKind.i64.wrap (y6_1 - 1))) hm (Nat.lt_succ_self _))
    · replace hm := cF hc15_4 hm
      refine AWP.if_ false (Eq.trans (by kernel_rfl) (lit_tf (b := decide ((IntKind.i64.wrap (((List.length y0_1 : Nat) : Int) - p1)) ≤ y6_1)) hc15_4)) ?_
      refine AWP.exit ?_
      refine Then.exit ?_
      refine RoundK.exit ?_
      refine InBlock.same ?_
      obtain rfl := Option.some.inj hm
      exact ret_n [0]
end Go.Proofs.Ytgocnknbiipcfaa.K
