/- what telltalelaw04.ValueRanks needs (0) -/
import Derived.Test.YtgocnknbiipcfaaRM
namespace Go.Proofs.Ytgocnknbiipcfaa.K
open Go.RowKit Go.Lib
set_option linter.unusedVariables false
set_option linter.unusedSimpArgs false

set_option maxRecDepth 20000 in
set_option maxHeartbeats 4000000 in
theorem ok_value_OfText (p0 : (List UInt8)) (r : GValue) (h : m_value_OfText p0 = some r) : GCall Try.prog 21 [(.d (.lit (.string (toS p0))))] [] (.agg [(.d (byteD r.Kind)), (.d (.lit (.int .i64 r.N))), (.d (.lit (.int .u64 r.Bits))), (.d (.lit (.string (toS r.Text))))]) [] := by
  refine GCall.of_body (n := 10) (rs := [(.cell 2 31)]) Try.func21 rfl rfl rfl ?_
  refine Ato ⟨((.d (.lit (.string (toS p0)))) :: (tu 9 [])), [], 0⟩ ?_
  have hm := h
  unfold m_value_OfText at hm
  refine AWP.seq ?_
  refine AWP.text ?_
  refine Wy (.loc 0 0) [(0, (.box [(.d (byteD 0)), (.d (.lit (.int .i64 0))), (.d (.lit (.int .u64 0))), (.d (.lit (.string (toS ([] : List UInt8)))))]))] (Oal rfl) ?_
  refine Walk.nil ?_
  refine Then.normal ?_
  refine Amk 5 1 ⟨((.d (.lit (.string (toS p0)))) :: (tp 1 ((.loc 0 0) :: (tp 7 [])))), [(.box [(.d (byteD 0)), (.d (.lit (.int .i64 0))), (.d (.lit (.int .u64 0))), (.d (.lit (.string (toS ([] : List UInt8)))))])], 0⟩ ?_
  refine AWP.cutJ (α := (List UInt8)) (fun x => match x with | y0_2 => (⟨((.d (.lit (.string (toS y0_2)))) :: (tp 1 ((.loc 0 0) :: (tp 7 [])))), [(.box [(.d (byteD 0)), (.d (.lit (.int .i64 0))), (.d (.lit (.int .u64 0))), (.d (.lit (.string (toS ([] : List UInt8)))))])], 0⟩ : St)) (fun x => match x with | y0_2 => m_value_OfText_j2  y0_2 = some r) ?_ (fun J2 => ?_)
  · rintro y0_2 hm
    try dsimp only at hm ⊢
    unfold m_value_OfText_j2 at hm
    refine AWP.seq ?_
    refine AWP.text ?_
    refine Wy (.d (.lit (.string (toS y0_2)))) [] (Omv rfl) ?_
    refine Wy (.agg [(.d (byteD 4)), (.d (.lit (.int .i64 0))), (.d (.lit (.int .u64 0))), (.d (.lit (.string (toS y0_2))))]) [] (Obd rfl) ?_
    refine Wy (.tup []) [(0, (.box [(.d (byteD 4)), (.d (.lit (.int .i64 0))), (.d (.lit (.int .u64 0))), (.d (.lit (.string (toS y0_2))))]))] (Ost rfl) ?_
    refine Walk.nil ?_
    refine Then.normal ?_
    refine AWP.ret ?_
    obtain rfl := Option.some.inj hm
    exact ret_i []
  refine AWP.seq ?_
  refine AWP.seq ?_
  refine AWP.text ?_
  refine Wy (.d (.lit (.string (toS p0)))) [] (Omv rfl) ?_
  refine Wy (.d (.lit (.int .i64 ((List.length p0 : Nat) : Int)))) [] (Oln rfl) ?_
  refine Wy (.d (.lit (.bool (decide ((24 : Int) < ((List.length p0 : Nat) : Int)))))) [] (Obn rfl (fun _ => hb_gtr (k := .i64))) ?_
  refine Walk.nil ?_
  refine Then.normal ?_
  refine Amk 37 1 ⟨((.d (.lit (.string (toS p0)))) :: (tp 1 ((.loc 0 0) :: (tp 2 ((.d (.lit (.bool (decide ((24 : Int) < ((List.length p0 : Nat) : Int)))))) :: (tp 4 [])))))), [(.box [(.d (byteD 0)), (.d (.lit (.int .i64 0))), (.d (.lit (.int .u64 0))), (.d (.lit (.string (toS ([] : List UInt8)))))])], 0⟩ ?_
  rcases tf_ (decide ((24 : Int) < ((List.length p0 : Nat) : Int))) with hc5_3 | hc5_3
  · replace hm := cT hc5_3 hm
    refine AWP.if_ true (Eq.trans (by kernel_rfl) (lit_tf (b := decide ((24 : Int) < ((List.length p0 : Nat) : Int))) hc5_3)) ?_
    refine AWP.text ?_
    refine Wy (.d (.lit (.string (toS p0)))) [] (Omv rfl) ?_
    obtain ⟨s7_1, hs7_1, hm⟩ := bnd hm; obtain ⟨hs7_1a, hs7_1b, hs7_1c, hs7_1d, hs7_1e⟩ := cut_some hs7_1
    refine Wy (.d (.lit (.string (toS s7_1)))) [] (Ocs (lit_str (toS_cut hs7_1e)) (op_slice_str rfl (by kernel_rfl) (s := toS p0) (by kernel_rfl) (l := (Int.toNat 0)) (h := (Int.toNat 24)) (by exact rfl) (⟨.i64, 24, by kernel_rfl, hs7_1b⟩) hs7_1c hs7_1d)) ?_
    refine Wy (.d (.lit (.string (toS s7_1)))) [] (Omv rfl) ?_
    refine Walk.nil ?_
    refine Then.normal ?_
    exact AWP.weak (Weak.toK 5 0 0 [0]) (J2 (s7_1) hm)
  · replace hm := cF hc5_3 hm
    refine AWP.if_ false (Eq.trans (by kernel_rfl) (lit_tf (b := decide ((24 : Int) < ((List.length p0 : Nat) : Int))) hc5_3)) ?_
    refine AWP.skip ?_
    refine Then.normal ?_
    exact AWP.weak (Weak.toK 5 0 0 [0]) (J2 (p0) hm)

set_option maxRecDepth 20000 in
set_option maxHeartbeats 4000000 in
theorem ok_value_core (p0 : GValue) (r : Value) (h : m_value_core p0 = some r) : GCall Try.prog 34 [(.agg [(.d (byteD p0.Kind)), (.d (.lit (.int .i64 p0.N))), (.d (.lit (.int .u64 p0.Bits))), (.d (.lit (.string (toS p0.Text))))])] [] (.d (.lit r)) [] := by
  refine GCall.of_body (n := 25) (rs := [(.tmp 2)]) Try.func34 rfl rfl rfl ?_
  refine Ato ⟨((.agg [(.d (byteD p0.Kind)), (.d (.lit (.int .i64 p0.N))), (.d (.lit (.int .u64 p0.Bits))), (.d (.lit (.string (toS p0.Text))))]) :: (tu 24 [])), [], 0⟩ ?_
  have hm := h
  unfold m_value_core at hm
  refine AWP.seq ?_
  refine AWP.text ?_
  refine Wy (.loc 0 0) [(0, (.box [(.d (byteD p0.Kind)), (.d (.lit (.int .i64 p0.N))), (.d (.lit (.int .u64 p0.Bits))), (.d (.lit (.string (toS p0.Text))))]))] (Obx rfl) ?_
  refine Wy (.d (.lit Value.nilIface)) [] (Omv rfl) ?_
  refine Walk.nil ?_
  refine Then.normal ?_
  refine Amk 2 1 ⟨(tp 1 ((.loc 0 0) :: (tp 23 []))), [(.box [(.d (byteD p0.Kind)), (.d (.lit (.int .i64 p0.N))), (.d (.lit (.int .u64 p0.Bits))), (.d (.lit (.string (toS p0.Text))))])], 0⟩ ?_
  refine AWP.seq ?_
  refine AWP.seq ?_
  refine AWP.text ?_
  refine Wy (.loc 0 0) [] (Ofa rfl) ?_
  refine Wy (.d (byteD p0.Kind)) [] (Old rfl) ?_
  refine Walk.nil ?_
  refine Then.normal ?_
  refine Amk 18 1 ⟨(tp 1 ((.loc 0 0) :: (tp 2 ((.d (byteD p0.Kind)) :: (tp 20 []))))), [(.box [(.d (byteD p0.Kind)), (.d (.lit (.int .i64 p0.N))), (.d (.lit (.int .u64 p0.Bits))), (.d (.lit (.string (toS p0.Text))))])], 0⟩ ?_
  refine AWP.block ?_
  refine AWP.seq ?_
  refine AWP.text ?_
  refine Wy (.d (.lit (.bool (decide (((p0.Kind.toNat : Nat) : Int) = 1))))) [] (Ocs (by kernel_rfl) (op_bin rfl (a1 := .int .u8 ((p0.Kind.toNat : Nat) : Int)) (a2 := .int .u8 1) (by kernel_rfl) (by kernel_rfl) (fun _ => hb_eql))) ?_
  refine Wy (.d (.lit (.bool (decide (((p0.Kind.toNat : Nat) : Int) = 1))))) [] (Omv rfl) ?_
  refine Walk.nil ?_
  refine Then.normal ?_
  refine Amk 50 1 ⟨(tp 1 ((.loc 0 0) :: (tp 2 ((.d (byteD p0.Kind)) :: ((.d (.lit (.bool (decide (((p0.Kind.toNat : Nat) : Int) = 1))))) :: (tp 19 [])))))), [(.box [(.d (byteD p0.Kind)), (.d (.lit (.int .i64 p0.N))), (.d (.lit (.int .u64 p0.Bits))), (.d (.lit (.string (toS p0.Text))))])], 0⟩ ?_
  rcases tf_ (decide (((p0.Kind.toNat : Nat) : Int) = 1)) with hc5_0 | hc5_0
  · replace hm := cT hc5_0 hm
    refine AWP.if_ true (Eq.trans (by kernel_rfl) (lit_tf (b := decide (((p0.Kind.toNat : Nat) : Int) = 1)) hc5_0)) ?_
    refine AWP.seq ?_
    refine AWP.text ?_
    refine Wy (.loc 0 1) [] (Ofa rfl) ?_
    refine Wy (.d (.lit (.int .i64 p0.N))) [] (Old rfl) ?_
    refine Wy (.d (.lit (Value.iface 62 (.int .i64 p0.N)))) [] (Oif rfl) ?_
    refine Wy (.d (.lit (Value.iface 62 (.int .i64 p0.N)))) [] (Omv rfl) ?_
    refine Walk.nil ?_
    refine Then.normal ?_
    refine AWP.ret ?_
    refine InBlock.ret ?_
    refine Then.ret ?_
    obtain rfl := Option.some.inj hm
    exact ret_i []
  · replace hm := cF hc5_0 hm
    refine AWP.if_ false (Eq.trans (by kernel_rfl) (lit_tf (b := decide (((p0.Kind.toNat : Nat) : Int) = 1)) hc5_0)) ?_
    refine AWP.seq ?_
    refine AWP.text ?_
    refine Wy (.d (.lit (.bool (decide (((p0.Kind.toNat : Nat) : Int) = 2))))) [] (Ocs (by kernel_rfl) (op_bin rfl (a1 := .int .u8 ((p0.Kind.toNat : Nat) : Int)) (a2 := .int .u8 2) (by kernel_rfl) (by kernel_rfl) (fun _ => hb_eql))) ?_
    refine Wy (.d (.lit (.bool (decide (((p0.Kind.toNat : Nat) : Int) = 2))))) [] (Omv rfl) ?_
    refine Walk.nil ?_
    refine Then.normal ?_
    refine Amk 1042 1 ⟨(tp 1 ((.loc 0 0) :: (tp 2 ((.d (byteD p0.Kind)) :: (tp 5 ((.d (.lit (.bool (decide (((p0.Kind.toNat : Nat) : Int) = 2))))) :: (tp 14 []))))))), [(.box [(.d (byteD p0.Kind)), (.d (.lit (.int .i64 p0.N))), (.d (.lit (.int .u64 p0.Bits))), (.d (.lit (.string (toS p0.Text))))])], 0⟩ ?_
    rcases tf_ (decide (((p0.Kind.toNat : Nat) : Int) = 2)) with hc10_1 | hc10_1
    · replace hm := cT hc10_1 hm
      refine AWP.if_ true (Eq.trans (by kernel_rfl) (lit_tf (b := decide (((p0.Kind.toNat : Nat) : Int) = 2)) hc10_1)) ?_
      refine AWP.seq ?_
      refine AWP.text ?_
      refine Wy (.loc 0 1) [] (Ofa rfl) ?_
      refine Wy (.d (.lit (.int .i64 p0.N))) [] (Old rfl) ?_
      refine Wy (.d (.lit (Value.iface 63 (.int .i64 p0.N)))) [] (Oif rfl) ?_
      refine Wy (.d (.lit (Value.iface 63 (.int .i64 p0.N)))) [] (Omv rfl) ?_
      refine Walk.nil ?_
      refine Then.normal ?_
      refine AWP.ret ?_
      refine InBlock.ret ?_
      refine Then.ret ?_
      obtain rfl := Option.some.inj hm
      exact ret_i []
    · replace hm := cF hc10_1 hm
      refine AWP.if_ false (Eq.trans (by kernel_rfl) (lit_tf (b := decide (((p0.Kind.toNat : Nat) : Int) = 2)) hc10_1)) ?_
      refine AWP.seq ?_
      refine AWP.text ?_
      refine Wy (.d (.lit (.bool (decide (((p0.Kind.toNat : Nat) : Int) = 3))))) [] (Ocs (by kernel_rfl) (op_bin rfl (a1 := .int .u8 ((p0.Kind.toNat : Nat) : Int)) (a2 := .int .u8 3) (by kernel_rfl) (by kernel_rfl) (fun _ => hb_eql))) ?_
      refine Wy (.d (.lit (.bool (decide (((p0.Kind.toNat : Nat) : Int) = 3))))) [] (Omv rfl) ?_
      refine Walk.nil ?_
      refine Then.normal ?_
      refine Amk 32786 1 ⟨(tp 1 ((.loc 0 0) :: (tp 2 ((.d (byteD p0.Kind)) :: (tp 10 ((.d (.lit (.bool (decide (((p0.Kind.toNat : Nat) : Int) = 3))))) :: (tp 9 []))))))), [(.box [(.d (byteD p0.Kind)), (.d (.lit (.int .i64 p0.N))), (.d (.lit (.int .u64 p0.Bits))), (.d (.lit (.string (toS p0.Text))))])], 0⟩ ?_
      rcases tf_ (decide (((p0.Kind.toNat : Nat) : Int) = 3)) with hc15_2 | hc15_2
      · replace hm := cT hc15_2 hm
        refine AWP.if_ true (Eq.trans (by kernel_rfl) (lit_tf (b := decide (((p0.Kind.toNat : Nat) : Int) = 3)) hc15_2)) ?_
        refine AWP.seq ?_
        refine AWP.text ?_
        refine Wy (.loc 0 2) [] (Ofa rfl) ?_
        refine Wy (.d (.lit (.int .u64 p0.Bits))) [] (Old rfl) ?_
        refine Wy (.d (.lit (Value.iface 64 (.int .u64 p0.Bits)))) [] (Oif rfl) ?_
        refine Wy (.d (.lit (Value.iface 64 (.int .u64 p0.Bits)))) [] (Omv rfl) ?_
        refine Walk.nil ?_
        refine Then.normal ?_
        refine AWP.ret ?_
        refine InBlock.ret ?_
        refine Then.ret ?_
        obtain rfl := Option.some.inj hm
        exact ret_i []
      · replace hm := cF hc15_2 hm
        refine AWP.if_ false (Eq.trans (by kernel_rfl) (lit_tf (b := decide (((p0.Kind.toNat : Nat) : Int) = 3)) hc15_2)) ?_
        refine AWP.seq ?_
        refine AWP.text ?_
        refine Wy (.d (.lit (.bool (decide (((p0.Kind.toNat : Nat) : Int) = 4))))) [] (Ocs (by kernel_rfl) (op_bin rfl (a1 := .int .u8 ((p0.Kind.toNat : Nat) : Int)) (a2 := .int .u8 4) (by kernel_rfl) (by kernel_rfl) (fun _ => hb_eql))) ?_
        refine Wy (.d (.lit (.bool (decide (((p0.Kind.toNat : Nat) : Int) = 4))))) [] (Omv rfl) ?_
        refine Walk.nil ?_
        refine Then.normal ?_
        refine Amk 1048578 1 ⟨(tp 1 ((.loc 0 0) :: (tp 18 ((.d (.lit (.bool (decide (((p0.Kind.toNat : Nat) : Int) = 4))))) :: (tp 4 []))))), [(.box [(.d (byteD p0.Kind)), (.d (.lit (.int .i64 p0.N))), (.d (.lit (.int .u64 p0.Bits))), (.d (.lit (.string (toS p0.Text))))])], 0⟩ ?_
        rcases tf_ (decide (((p0.Kind.toNat : Nat) : Int) = 4)) with hc20_3 | hc20_3
        · replace hm := cT hc20_3 hm
          refine AWP.if_ true (Eq.trans (by kernel_rfl) (lit_tf (b := decide (((p0.Kind.toNat : Nat) : Int) = 4)) hc20_3)) ?_
          refine AWP.seq ?_
          refine AWP.text ?_
          refine Wy (.loc 0 3) [] (Ofa rfl) ?_
          refine Wy (.d (.lit (.string (toS p0.Text)))) [] (Old rfl) ?_
          refine Wy (.d (.lit (Value.iface 66 (.string (toS p0.Text))))) [] (Oif rfl) ?_
          refine Wy (.d (.lit (Value.iface 66 (.string (toS p0.Text))))) [] (Omv rfl) ?_
          refine Walk.nil ?_
          refine Then.normal ?_
          refine AWP.ret ?_
          refine InBlock.ret ?_
          refine Then.ret ?_
          obtain rfl := Option.some.inj hm
          exact ret_i []
        · replace hm := cF hc20_3 hm
          refine AWP.if_ false (Eq.trans (by kernel_rfl) (lit_tf (b := decide (((p0.Kind.toNat : Nat) : Int) = 4)) hc20_3)) ?_
          refine AWP.skip ?_
          refine InBlock.normal ?_
          refine Then.normal ?_
          refine Amk 0 0 ⟨(tp 25 []), [.gone], 0⟩ ?_
          refine AWP.seq ?_
          refine AWP.text ?_
          refine Wy (.d (.lit Value.nilIface)) [] (Omv rfl) ?_
          refine Walk.nil ?_
          refine Then.normal ?_
          refine AWP.ret ?_
          obtain rfl := Option.some.inj hm
          exact ret_i []

set_option maxRecDepth 20000 in
set_option maxHeartbeats 4000000 in
theorem ok_real_of (p0 : Int) (r : Nat) (h : m_real_of p0 = some r) : GCall Try.prog 53 [(.d (.lit (.int .u64 p0)))] [] (.d (.lit (.float .f64 r))) [] := by
  refine GCall.of_body (n := 5) (rs := [(.tmp 2)]) Try.func53 rfl rfl rfl ?_
  refine Ato ⟨((.d (.lit (.int .u64 p0))) :: (tu 4 [])), [], 0⟩ ?_
  have hm := h
  unfold m_real_of at hm
  refine AWP.seq ?_
  refine AWP.text ?_
  refine Wy (.d (.lit (.float .f64 0))) [] (Omv rfl) ?_
  refine Walk.nil ?_
  refine Then.normal ?_
  refine Amk 1 0 ⟨((.d (.lit (.int .u64 p0))) :: (tp 4 [])), [], 0⟩ ?_
  refine AWP.seq ?_
  refine AWP.text ?_
  refine Wy (.d (.lit (.int .u64 p0))) [] (Omv rfl) ?_
  refine Wy (.d (.lit (.float .f64 (Int.toNat p0)))) [] (Ofb (f := 66) (fun _ => by kernel_rfl) rfl) ?_
  refine Wy (.d (.lit (.float .f64 (Int.toNat p0)))) [] (Omv rfl) ?_
  refine Walk.nil ?_
  refine Then.normal ?_
  refine AWP.ret ?_
  obtain rfl := Option.some.inj hm
  exact ret_i []

set_option maxRecDepth 20000 in
set_option maxHeartbeats 4000000 in
theorem ok_real_Clean (p0 : Int) (r : Int) (h : m_real_Clean p0 = some r) : GCall Try.prog 35 [(.d (.lit (.int .u64 p0)))] [] (.d (.lit (.int .u64 r))) [] := by
  refine GCall.of_body (n := 10) (rs := [(.tmp 2)]) Try.func35 rfl rfl rfl ?_
  refine Ato ⟨((.d (.lit (.int .u64 p0))) :: (tu 9 [])), [], 0⟩ ?_
  have hm := h
  unfold m_real_Clean at hm
  refine AWP.seq ?_
  refine AWP.text ?_
  refine Wy (.d (.lit (.int .u64 0))) [] (Omv rfl) ?_
  refine Walk.nil ?_
  refine Then.normal ?_
  refine Amk 1 0 ⟨((.d (.lit (.int .u64 p0))) :: (tp 9 [])), [], 0⟩ ?_
  refine AWP.seq ?_
  refine AWP.seq ?_
  refine AWP.text ?_
  refine Wy (.d (.lit (.int .u64 p0))) [] (Omv rfl) ?_
  obtain ⟨r5_0, hr5_0, hm⟩ := bnd hm
  refine Wy (.d (.lit (.float .f64 r5_0))) [] (Ocf [] [] [] 0 (ok_real_of p0 r5_0 hr5_0) (fun a w => Try.call53 a w) rfl trivial) ?_
  refine Wy (.d (.lit (.float .f64 r5_0))) [] (Omv rfl) ?_
  refine Walk.nil ?_
  refine Then.normal ?_
  refine Amk 9 0 ⟨((.d (.lit (.int .u64 p0))) :: (tp 2 ((.d (.lit (.float .f64 r5_0))) :: (tp 6 [])))), [], 0⟩ ?_
  refine AWP.seq ?_
  refine AWP.text ?_
  refine Wy (.d (.lit (.float .f64 r5_0))) [] (Omv rfl) ?_
  refine Wy (.d (.lit (.float .f64 r5_0))) [] (Omv rfl) ?_
  refine Wy (.d (.lit (.bool (fne r5_0 r5_0)))) [] (op_bin rfl (a1 := .float .f64 r5_0) (a2 := .float .f64 r5_0) (by kernel_rfl) (by kernel_rfl) (fun _ => hb_fneq)) ?_
  refine Walk.nil ?_
  refine Then.normal ?_
  refine Amk 257 0 ⟨((.d (.lit (.int .u64 p0))) :: (tp 7 ((.d (.lit (.bool (fne r5_0 r5_0)))) :: (tp 1 [])))), [], 0⟩ ?_
  rcases tf_ (fne r5_0 r5_0) with hc8_1 | hc8_1
  · replace hm := cT hc8_1 hm
    refine AWP.if_ true (Eq.trans (by kernel_rfl) (lit_tf (b := (fne r5_0 r5_0)) hc8_1)) ?_
    refine AWP.seq ?_
    refine AWP.text ?_
    refine Wy (.d (.lit (.int .u64 9221120237041090560))) [] (Omv rfl) ?_
    refine Walk.nil ?_
    refine Then.normal ?_
    refine AWP.ret ?_
    refine Then.ret ?_
    obtain rfl := Option.some.inj hm
    exact ret_i []
  · replace hm := cF hc8_1 hm
    refine AWP.if_ false (Eq.trans (by kernel_rfl) (lit_tf (b := (fne r5_0 r5_0)) hc8_1)) ?_
    refine AWP.skip ?_
    refine Then.normal ?_
    refine Amk 1 0 ⟨((.d (.lit (.int .u64 p0))) :: (tp 9 [])), [], 0⟩ ?_
    refine AWP.seq ?_
    refine AWP.text ?_
    refine Wy (.d (.lit (.int .u64 p0))) [] (Omv rfl) ?_
    refine Wy (.d (.lit (.int .u64 p0))) [] (Omv rfl) ?_
    refine Walk.nil ?_
    refine Then.normal ?_
    refine AWP.ret ?_
    obtain rfl := Option.some.inj hm
    exact ret_i []

set_option maxRecDepth 20000 in
set_option maxHeartbeats 4000000 in
theorem ok_value_number_whole (p0 : Int) (r : GValue) (h : m_value_number_whole p0 = some r) : GCall Try.prog 89 [(.d (.lit (.int .i64 p0)))] [] (.agg [(.d (byteD r.Kind)), (.d (.lit (.int .i64 r.N))), (.d (.lit (.int .u64 r.Bits))), (.d (.lit (.string (toS r.Text))))]) [] := by
  refine GCall.of_body (n := 5) (rs := [(.cell 2 31)]) Try.func89 rfl rfl rfl ?_
  refine Ato ⟨((.d (.lit (.int .i64 p0))) :: (tu 4 [])), [], 0⟩ ?_
  have hm := h
  unfold m_value_number_whole at hm
  refine AWP.seq ?_
  refine AWP.text ?_
  refine Wy (.loc 0 0) [(0, (.box [(.d (byteD 0)), (.d (.lit (.int .i64 0))), (.d (.lit (.int .u64 0))), (.d (.lit (.string (toS ([] : List UInt8)))))]))] (Oal rfl) ?_
  refine Walk.nil ?_
  refine Then.normal ?_
  refine Amk 5 1 ⟨((.d (.lit (.int .i64 p0))) :: (tp 1 ((.loc 0 0) :: (tp 2 [])))), [(.box [(.d (byteD 0)), (.d (.lit (.int .i64 0))), (.d (.lit (.int .u64 0))), (.d (.lit (.string (toS ([] : List UInt8)))))])], 0⟩ ?_
  refine AWP.seq ?_
  refine AWP.text ?_
  refine Wy (.d (.lit (.int .i64 p0))) [] (Omv rfl) ?_
  refine Wy (.agg [(.d (byteD 1)), (.d (.lit (.int .i64 p0))), (.d (.lit (.int .u64 0))), (.d (.lit (.string (toS ([] : List UInt8)))))]) [] (Obd rfl) ?_
  refine Wy (.tup []) [(0, (.box [(.d (byteD 1)), (.d (.lit (.int .i64 p0))), (.d (.lit (.int .u64 0))), (.d (.lit (.string (toS ([] : List UInt8)))))]))] (Ost rfl) ?_
  refine Walk.nil ?_
  refine Then.normal ?_
  refine AWP.ret ?_
  obtain rfl := Option.some.inj hm
  exact ret_i []

set_option maxRecDepth 20000 in
set_option maxHeartbeats 4000000 in
theorem ok_value_flag_whole (p0 : Int) (r : GValue) (h : m_value_flag_whole p0 = some r) : GCall Try.prog 90 [(.d (.lit (.int .i64 p0)))] [] (.agg [(.d (byteD r.Kind)), (.d (.lit (.int .i64 r.N))), (.d (.lit (.int .u64 r.Bits))), (.d (.lit (.string (toS r.Text))))]) [] := by
  refine GCall.of_body (n := 5) (rs := [(.cell 2 31)]) Try.func90 rfl rfl rfl ?_
  refine Ato ⟨((.d (.lit (.int .i64 p0))) :: (tu 4 [])), [], 0⟩ ?_
  have hm := h
  unfold m_value_flag_whole at hm
  refine AWP.seq ?_
  refine AWP.text ?_
  refine Wy (.loc 0 0) [(0, (.box [(.d (byteD 0)), (.d (.lit (.int .i64 0))), (.d (.lit (.int .u64 0))), (.d (.lit (.string (toS ([] : List UInt8)))))]))] (Oal rfl) ?_
  refine Walk.nil ?_
  refine Then.normal ?_
  refine Amk 5 1 ⟨((.d (.lit (.int .i64 p0))) :: (tp 1 ((.loc 0 0) :: (tp 2 [])))), [(.box [(.d (byteD 0)), (.d (.lit (.int .i64 0))), (.d (.lit (.int .u64 0))), (.d (.lit (.string (toS ([] : List UInt8)))))])], 0⟩ ?_
  refine AWP.seq ?_
  refine AWP.text ?_
  refine Wy (.d (.lit (.int .i64 p0))) [] (Omv rfl) ?_
  refine Wy (.agg [(.d (byteD 2)), (.d (.lit (.int .i64 p0))), (.d (.lit (.int .u64 0))), (.d (.lit (.string (toS ([] : List UInt8)))))]) [] (Obd rfl) ?_
  refine Wy (.tup []) [(0, (.box [(.d (byteD 2)), (.d (.lit (.int .i64 p0))), (.d (.lit (.int .u64 0))), (.d (.lit (.string (toS ([] : List UInt8)))))]))] (Ost rfl) ?_
  refine Walk.nil ?_
  refine Then.normal ?_
  refine AWP.ret ?_
  obtain rfl := Option.some.inj hm
  exact ret_i []

set_option maxRecDepth 20000 in
set_option maxHeartbeats 4000000 in
theorem ok_value_double_whole (p0 : Int) (r : GValue) (h : m_value_double_whole p0 = some r) : GCall Try.prog 91 [(.d (.lit (.int .u64 p0)))] [] (.agg [(.d (byteD r.Kind)), (.d (.lit (.int .i64 r.N))), (.d (.lit (.int .u64 r.Bits))), (.d (.lit (.string (toS r.Text))))]) [] := by
  refine GCall.of_body (n := 5) (rs := [(.cell 2 31)]) Try.func91 rfl rfl rfl ?_
  refine Ato ⟨((.d (.lit (.int .u64 p0))) :: (tu 4 [])), [], 0⟩ ?_
  have hm := h
  unfold m_value_double_whole at hm
  refine AWP.seq ?_
  refine AWP.text ?_
  refine Wy (.loc 0 0) [(0, (.box [(.d (byteD 0)), (.d (.lit (.int .i64 0))), (.d (.lit (.int .u64 0))), (.d (.lit (.string (toS ([] : List UInt8)))))]))] (Oal rfl) ?_
  refine Walk.nil ?_
  refine Then.normal ?_
  refine Amk 5 1 ⟨((.d (.lit (.int .u64 p0))) :: (tp 1 ((.loc 0 0) :: (tp 2 [])))), [(.box [(.d (byteD 0)), (.d (.lit (.int .i64 0))), (.d (.lit (.int .u64 0))), (.d (.lit (.string (toS ([] : List UInt8)))))])], 0⟩ ?_
  refine AWP.seq ?_
  refine AWP.text ?_
  refine Wy (.d (.lit (.int .u64 p0))) [] (Omv rfl) ?_
  refine Wy (.agg [(.d (byteD 3)), (.d (.lit (.int .i64 0))), (.d (.lit (.int .u64 p0))), (.d (.lit (.string (toS ([] : List UInt8)))))]) [] (Obd rfl) ?_
  refine Wy (.tup []) [(0, (.box [(.d (byteD 3)), (.d (.lit (.int .i64 0))), (.d (.lit (.int .u64 p0))), (.d (.lit (.string (toS ([] : List UInt8)))))]))] (Ost rfl) ?_
  refine Walk.nil ?_
  refine Then.normal ?_
  refine AWP.ret ?_
  obtain rfl := Option.some.inj hm
  exact ret_i []

set_option maxRecDepth 20000 in
set_option maxHeartbeats 4000000 in
theorem ok_value_words_whole (p0 : (List UInt8)) (r : GValue) (h : m_value_words_whole p0 = some r) : GCall Try.prog 92 [(.d (.lit (.string (toS p0))))] [] (.agg [(.d (byteD r.Kind)), (.d (.lit (.int .i64 r.N))), (.d (.lit (.int .u64 r.Bits))), (.d (.lit (.string (toS r.Text))))]) [] := by
  refine GCall.of_body (n := 5) (rs := [(.cell 2 31)]) Try.func92 rfl rfl rfl ?_
  refine Ato ⟨((.d (.lit (.string (toS p0)))) :: (tu 4 [])), [], 0⟩ ?_
  have hm := h
  unfold m_value_words_whole at hm
  refine AWP.seq ?_
  refine AWP.text ?_
  refine Wy (.loc 0 0) [(0, (.box [(.d (byteD 0)), (.d (.lit (.int .i64 0))), (.d (.lit (.int .u64 0))), (.d (.lit (.string (toS ([] : List UInt8)))))]))] (Oal rfl) ?_
  refine Walk.nil ?_
  refine Then.normal ?_
  refine Amk 5 1 ⟨((.d (.lit (.string (toS p0)))) :: (tp 1 ((.loc 0 0) :: (tp 2 [])))), [(.box [(.d (byteD 0)), (.d (.lit (.int .i64 0))), (.d (.lit (.int .u64 0))), (.d (.lit (.string (toS ([] : List UInt8)))))])], 0⟩ ?_
  refine AWP.seq ?_
  refine AWP.text ?_
  refine Wy (.d (.lit (.string (toS p0)))) [] (Omv rfl) ?_
  refine Wy (.agg [(.d (byteD 4)), (.d (.lit (.int .i64 0))), (.d (.lit (.int .u64 0))), (.d (.lit (.string (toS p0))))]) [] (Obd rfl) ?_
  refine Wy (.tup []) [(0, (.box [(.d (byteD 4)), (.d (.lit (.int .i64 0))), (.d (.lit (.int .u64 0))), (.d (.lit (.string (toS p0))))]))] (Ost rfl) ?_
  refine Walk.nil ?_
  refine Then.normal ?_
  refine AWP.ret ?_
  obtain rfl := Option.some.inj hm
  exact ret_i []

set_option maxRecDepth 20000 in
set_option maxHeartbeats 4000000 in
theorem ok_value_Check (p0 : GValue) (r : Int) (h : m_value_Check p0 = some r) : GCall Try.prog 12 [(.agg [(.d (byteD p0.Kind)), (.d (.lit (.int .i64 p0.N))), (.d (.lit (.int .u64 p0.Bits))), (.d (.lit (.string (toS p0.Text))))])] [] (.d (.lit (.int .i64 r))) [] := by
  refine GCall.of_body (n := 47) (rs := [(.tmp 2)]) Try.func12 rfl rfl rfl ?_
  refine Ato ⟨((.agg [(.d (byteD p0.Kind)), (.d (.lit (.int .i64 p0.N))), (.d (.lit (.int .u64 p0.Bits))), (.d (.lit (.string (toS p0.Text))))]) :: (tu 46 [])), [], 0⟩ ?_
  have hm := h
  unfold m_value_Check at hm
  refine AWP.seq ?_
  refine AWP.text ?_
  refine Wy (.loc 0 0) [(0, (.box [(.d (byteD p0.Kind)), (.d (.lit (.int .i64 p0.N))), (.d (.lit (.int .u64 p0.Bits))), (.d (.lit (.string (toS p0.Text))))]))] (Obx rfl) ?_
  refine Wy (.d (.lit (.int .i64 0))) [] (Omv rfl) ?_
  refine Walk.nil ?_
  refine Then.normal ?_
  refine Amk 2 1 ⟨(tp 1 ((.loc 0 0) :: (tp 45 []))), [(.box [(.d (byteD p0.Kind)), (.d (.lit (.int .i64 p0.N))), (.d (.lit (.int .u64 p0.Bits))), (.d (.lit (.string (toS p0.Text))))])], 0⟩ ?_
  refine AWP.seq ?_
  refine AWP.text ?_
  refine Wy (.agg [(.d (byteD p0.Kind)), (.d (.lit (.int .i64 p0.N))), (.d (.lit (.int .u64 p0.Bits))), (.d (.lit (.string (toS p0.Text))))]) [] (Old rfl) ?_
  obtain ⟨r10_0, hr10_0, hm⟩ := bnd hm
  refine Wy (.d (.lit r10_0)) [] (Ocf [] [] [] 0 (ok_value_core p0 r10_0 hr10_0) (fun a w => Try.call34 a w) rfl trivial) ?_
  refine Wy (.d (.lit r10_0)) [] (Omv rfl) ?_
  refine Walk.nil ?_
  refine Then.normal ?_
  refine Amk 10 1 ⟨(tp 1 ((.loc 0 0) :: (tp 1 ((.d (.lit r10_0)) :: (tp 43 []))))), [(.box [(.d (byteD p0.Kind)), (.d (.lit (.int .i64 p0.N))), (.d (.lit (.int .u64 p0.Bits))), (.d (.lit (.string (toS p0.Text))))])], 0⟩ ?_
  refine AWP.cutJ (α := Unit) (fun x => match x with | () => (⟨(tp 1 ((.loc 0 0) :: (tp 1 ((.d (.lit r10_0)) :: (tp 43 []))))), [(.box [(.d (byteD p0.Kind)), (.d (.lit (.int .i64 p0.N))), (.d (.lit (.int .u64 p0.Bits))), (.d (.lit (.string (toS p0.Text))))])], 0⟩ : St)) (fun x => match x with | () => m_value_Check_j9 p0 r10_0 = some r) ?_ (fun J9 => ?_)
  · rintro ⟨⟩ hm
    try dsimp only at hm ⊢
    unfold m_value_Check_j9 at hm
    refine AWP.seq ?_
    refine AWP.cutJ (α := Bool) (fun x => match x with | y46_11 => (⟨(tp 46 ((.d (.lit (.bool y46_11))) :: [])), [], 0⟩ : St)) (fun x => match x with | y46_11 => m_value_Check_j11  y46_11 = some r) ?_ (fun J11 => ?_)
    · rintro y46_11 hm
      try dsimp only at hm ⊢
      unfold m_value_Check_j11 at hm
      rcases tf_ y46_11 with hc46_11 | hc46_11
      · replace hm := cT hc46_11 hm
        refine AWP.if_ true (Eq.trans (by kernel_rfl) (lit_tf (b := y46_11) hc46_11)) ?_
        refine AWP.seq ?_
        refine AWP.text ?_
        refine Wy (.d (.lit (.int .i64 2))) [] (Omv rfl) ?_
        refine Walk.nil ?_
        refine Then.normal ?_
        refine AWP.ret ?_
        refine Then.ret ?_
        obtain rfl := Option.some.inj hm
        exact ret_i []
      · replace hm := cF hc46_11 hm
        refine AWP.if_ false (Eq.trans (by kernel_rfl) (lit_tf (b := y46_11) hc46_11)) ?_
        refine AWP.skip ?_
        refine Then.normal ?_
        refine Amk 0 0 ⟨(tp 47 []), [], 0⟩ ?_
        refine AWP.seq ?_
        refine AWP.text ?_
        refine Wy (.d (.lit (.int .i64 0))) [] (Omv rfl) ?_
        refine Walk.nil ?_
        refine Then.normal ?_
        refine AWP.ret ?_
        obtain rfl := Option.some.inj hm
        exact ret_i []
    refine AWP.seq ?_
    refine Adr ?_
    refine Wy (.d (.lit r10_0)) [] (Omv rfl) ?_
    rcases tf_ (isT 62 r10_0) with hq44_10_62 | hq44_10_62
    · replace hm := cT hq44_10_62 hm
      obtain ⟨n44_10_62, hn44_10_62, hm⟩ := bnd hm
      obtain ⟨r44_10_62, hr44_10_62, hm⟩ := bnd hm
      have hi_r44_10_62 := inI_some hq44_10_62 hn44_10_62
      refine Wy (.agg [(.d (byteD r44_10_62.Kind)), (.d (.lit (.int .i64 r44_10_62.N))), (.d (.lit (.int .u64 r44_10_62.Bits))), (.d (.lit (.string (toS r44_10_62.Text))))]) [] (Oiv (t := 62) (u := .int .i64 n44_10_62) (ok_value_number_whole n44_10_62 r44_10_62 hr44_10_62) (by simp [A.Plain, A.Plains, D.Plain, byteD]) (fun a w => Try.call89 a w) (fun w => by kernel_rfl) rfl (Eq.trans (by kernel_rfl) (congrArg (fun z => A.d (.lit z)) hi_r44_10_62))) ?_
      refine Wy (.agg [(.d (byteD p0.Kind)), (.d (.lit (.int .i64 p0.N))), (.d (.lit (.int .u64 p0.Bits))), (.d (.lit (.string (toS p0.Text))))]) [] (Old rfl) ?_
      obtain ⟨v46_10, hv46_10, hm⟩ := bnd hm; replace hv46_10 := Option.some.inj hv46_10
      refine Wy (.d (.lit (.bool v46_10))) [] (Ocs (Eq.trans (lit_tf (by simp only [toS_inj])) (congrArg (fun z => A.d (.lit (.bool z))) hv46_10)) (op_neq_struct rfl (la := [(.d (byteD r44_10_62.Kind)), (.d (.lit (.int .i64 r44_10_62.N))), (.d (.lit (.int .u64 r44_10_62.Bits))), (.d (.lit (.string (toS r44_10_62.Text))))]) (lb := [(.d (byteD p0.Kind)), (.d (.lit (.int .i64 p0.N))), (.d (.lit (.int .u64 p0.Bits))), (.d (.lit (.string (toS p0.Text))))]) (us := [.int .u8 ((r44_10_62.Kind.toNat : Nat) : Int), .int .i64 r44_10_62.N, .int .u64 r44_10_62.Bits, .string (toS r44_10_62.Text)]) (vs := [.int .u8 ((p0.Kind.toNat : Nat) : Int), .int .i64 p0.N, .int .u64 p0.Bits, .string (toS p0.Text)]) (r := (decide (((r44_10_62.Kind.toNat : Nat) : Int) = ((p0.Kind.toNat : Nat) : Int)) && (decide (r44_10_62.N = p0.N) && (decide (r44_10_62.Bits = p0.Bits) && (decide ((toS r44_10_62.Text) = (toS p0.Text)) && true))))) (by kernel_rfl) (by kernel_rfl) (by kernel_rfl) (by kernel_rfl) (by kernel_rfl))) ?_
      refine Wdr ?_
      refine Then.normal ?_
      exact AWP.weak (Weak.toK 70368744177664 0 0 []) (J11 (v46_10) hm)
    · replace hm := cF hq44_10_62 hm
      rcases tf_ (isT 63 r10_0) with hq44_10_63 | hq44_10_63
      · replace hm := cT hq44_10_63 hm
        obtain ⟨n44_10_63, hn44_10_63, hm⟩ := bnd hm
        obtain ⟨r44_10_63, hr44_10_63, hm⟩ := bnd hm
        have hi_r44_10_63 := inI_some hq44_10_63 hn44_10_63
        refine Wy (.agg [(.d (byteD r44_10_63.Kind)), (.d (.lit (.int .i64 r44_10_63.N))), (.d (.lit (.int .u64 r44_10_63.Bits))), (.d (.lit (.string (toS r44_10_63.Text))))]) [] (Oiv (t := 63) (u := .int .i64 n44_10_63) (ok_value_flag_whole n44_10_63 r44_10_63 hr44_10_63) (by simp [A.Plain, A.Plains, D.Plain, byteD]) (fun a w => Try.call90 a w) (fun w => by kernel_rfl) rfl (Eq.trans (by kernel_rfl) (congrArg (fun z => A.d (.lit z)) hi_r44_10_63))) ?_
        refine Wy (.agg [(.d (byteD p0.Kind)), (.d (.lit (.int .i64 p0.N))), (.d (.lit (.int .u64 p0.Bits))), (.d (.lit (.string (toS p0.Text))))]) [] (Old rfl) ?_
        obtain ⟨v46_10, hv46_10, hm⟩ := bnd hm; replace hv46_10 := Option.some.inj hv46_10
        refine Wy (.d (.lit (.bool v46_10))) [] (Ocs (Eq.trans (lit_tf (by simp only [toS_inj])) (congrArg (fun z => A.d (.lit (.bool z))) hv46_10)) (op_neq_struct rfl (la := [(.d (byteD r44_10_63.Kind)), (.d (.lit (.int .i64 r44_10_63.N))), (.d (.lit (.int .u64 r44_10_63.Bits))), (.d (.lit (.string (toS r44_10_63.Text))))]) (lb := [(.d (byteD p0.Kind)), (.d (.lit (.int .i64 p0.N))), (.d (.lit (.int .u64 p0.Bits))), (.d (.lit (.string (toS p0.Text))))]) (us := [.int .u8 ((r44_10_63.Kind.toNat : Nat) : Int), .int .i64 r44_10_63.N, .int .u64 r44_10_63.Bits, .string (toS r44_10_63.Text)]) (vs := [.int .u8 ((p0.Kind.toNat : Nat) : Int), .int .i64 p0.N, .int .u64 p0.Bits, .string (toS p0.Text)]) (r := (decide (((r44_10_63.Kind.toNat : Nat) : Int) = ((p0.Kind.toNat : Nat) : Int)) && (decide (r44_10_63.N = p0.N) && (decide (r44_10_63.Bits = p0.Bits) && (decide ((toS r44_10_63.Text) = (toS p0.Text)) && true))))) (by kernel_rfl) (by kernel_rfl) (by kernel_rfl) (by kernel_rfl) (by kernel_rfl))) ?_
        refine Wdr ?_
        refine Then.normal ?_
        exact AWP.weak (Weak.toK 70368744177664 0 0 []) (J11 (v46_10) hm)
      · replace hm := cF hq44_10_63 hm
        rcases tf_ (isT 64 r10_0) with hq44_10_64 | hq44_10_64
        · replace hm := cT hq44_10_64 hm
          obtain ⟨n44_10_64, hn44_10_64, hm⟩ := bnd hm
          obtain ⟨r44_10_64, hr44_10_64, hm⟩ := bnd hm
          have hi_r44_10_64 := inI_some hq44_10_64 hn44_10_64
          refine Wy (.agg [(.d (byteD r44_10_64.Kind)), (.d (.lit (.int .i64 r44_10_64.N))), (.d (.lit (.int .u64 r44_10_64.Bits))), (.d (.lit (.string (toS r44_10_64.Text))))]) [] (Oiv (t := 64) (u := .int .u64 n44_10_64) (ok_value_double_whole n44_10_64 r44_10_64 hr44_10_64) (by simp [A.Plain, A.Plains, D.Plain, byteD]) (fun a w => Try.call91 a w) (fun w => by kernel_rfl) rfl (Eq.trans (by kernel_rfl) (congrArg (fun z => A.d (.lit z)) hi_r44_10_64))) ?_
          refine Wy (.agg [(.d (byteD p0.Kind)), (.d (.lit (.int .i64 p0.N))), (.d (.lit (.int .u64 p0.Bits))), (.d (.lit (.string (toS p0.Text))))]) [] (Old rfl) ?_
          obtain ⟨v46_10, hv46_10, hm⟩ := bnd hm; replace hv46_10 := Option.some.inj hv46_10
          refine Wy (.d (.lit (.bool v46_10))) [] (Ocs (Eq.trans (lit_tf (by simp only [toS_inj])) (congrArg (fun z => A.d (.lit (.bool z))) hv46_10)) (op_neq_struct rfl (la := [(.d (byteD r44_10_64.Kind)), (.d (.lit (.int .i64 r44_10_64.N))), (.d (.lit (.int .u64 r44_10_64.Bits))), (.d (.lit (.string (toS r44_10_64.Text))))]) (lb := [(.d (byteD p0.Kind)), (.d (.lit (.int .i64 p0.N))), (.d (.lit (.int .u64 p0.Bits))), (.d (.lit (.string (toS p0.Text))))]) (us := [.int .u8 ((r44_10_64.Kind.toNat : Nat) : Int), .int .i64 r44_10_64.N, .int .u64 r44_10_64.Bits, .string (toS r44_10_64.Text)]) (vs := [.int .u8 ((p0.Kind.toNat : Nat) : Int), .int .i64 p0.N, .int .u64 p0.Bits, .string (toS p0.Text)]) (r := (decide (((r44_10_64.Kind.toNat : Nat) : Int) = ((p0.Kind.toNat : Nat) : Int)) && (decide (r44_10_64.N = p0.N) && (decide (r44_10_64.Bits = p0.Bits) && (decide ((toS r44_10_64.Text) = (toS p0.Text)) && true))))) (by kernel_rfl) (by kernel_rfl) (by kernel_rfl) (by kernel_rfl) (by kernel_rfl))) ?_
          refine Wdr ?_
          refine Then.normal ?_
          exact AWP.weak (Weak.toK 70368744177664 0 0 []) (J11 (v46_10) hm)
        · replace hm := cF hq44_10_64 hm
          rcases tf_ (isT 66 r10_0) with hq44_10_66 | hq44_10_66
          · replace hm := cT hq44_10_66 hm
            obtain ⟨n44_10_66, hn44_10_66, hm⟩ := bnd hm
            obtain ⟨r44_10_66, hr44_10_66, hm⟩ := bnd hm
            have hi_r44_10_66 := inS_some hq44_10_66 hn44_10_66
            refine Wy (.agg [(.d (byteD r44_10_66.Kind)), (.d (.lit (.int .i64 r44_10_66.N))), (.d (.lit (.int .u64 r44_10_66.Bits))), (.d (.lit (.string (toS r44_10_66.Text))))]) [] (Oiv (t := 66) (u := .string (toS n44_10_66)) (ok_value_words_whole n44_10_66 r44_10_66 hr44_10_66) (by simp [A.Plain, A.Plains, D.Plain, byteD]) (fun a w => Try.call92 a w) (fun w => by kernel_rfl) rfl (Eq.trans (by kernel_rfl) (congrArg (fun z => A.d (.lit z)) hi_r44_10_66))) ?_
            refine Wy (.agg [(.d (byteD p0.Kind)), (.d (.lit (.int .i64 p0.N))), (.d (.lit (.int .u64 p0.Bits))), (.d (.lit (.string (toS p0.Text))))]) [] (Old rfl) ?_
            obtain ⟨v46_10, hv46_10, hm⟩ := bnd hm; replace hv46_10 := Option.some.inj hv46_10
            refine Wy (.d (.lit (.bool v46_10))) [] (Ocs (Eq.trans (lit_tf (by simp only [toS_inj])) (congrArg (fun z => A.d (.lit (.bool z))) hv46_10)) (op_neq_struct rfl (la := [(.d (byteD r44_10_66.Kind)), (.d (.lit (.int .i64 r44_10_66.N))), (.d (.lit (.int .u64 r44_10_66.Bits))), (.d (.lit (.string (toS r44_10_66.Text))))]) (lb := [(.d (byteD p0.Kind)), (.d (.lit (.int .i64 p0.N))), (.d (.lit (.int .u64 p0.Bits))), (.d (.lit (.string (toS p0.Text))))]) (us := [.int .u8 ((r44_10_66.Kind.toNat : Nat) : Int), .int .i64 r44_10_66.N, .int .u64 r44_10_66.Bits, .string (toS r44_10_66.Text)]) (vs := [.int .u8 ((p0.Kind.toNat : Nat) : Int), .int .i64 p0.N, .int .u64 p0.Bits, .string (toS p0.Text)]) (r := (decide (((r44_10_66.Kind.toNat : Nat) : Int) = ((p0.Kind.toNat : Nat) : Int)) && (decide (r44_10_66.N = p0.N) && (decide (r44_10_66.Bits = p0.Bits) && (decide ((toS r44_10_66.Text) = (toS p0.Text)) && true))))) (by kernel_rfl) (by kernel_rfl) (by kernel_rfl) (by kernel_rfl) (by kernel_rfl))) ?_
            refine Wdr ?_
            refine Then.normal ?_
            exact AWP.weak (Weak.toK 70368744177664 0 0 []) (J11 (v46_10) hm)
          · replace hm := cF hq44_10_66 hm
            exact nomatch hm
  refine AWP.seq ?_
  refine AWP.seq ?_
  refine AWP.text ?_
  refine Wy (.d (.lit r10_0)) [] (Omv rfl) ?_
  refine Walk.nil ?_
  refine Then.normal ?_
  refine Amk 2058 1 ⟨(tp 1 ((.loc 0 0) :: (tp 1 ((.d (.lit r10_0)) :: (tp 7 ((.d (.lit r10_0)) :: (tp 35 []))))))), [(.box [(.d (byteD p0.Kind)), (.d (.lit (.int .i64 p0.N))), (.d (.lit (.int .u64 p0.Bits))), (.d (.lit (.string (toS p0.Text))))])], 0⟩ ?_
  refine AWP.block ?_
  refine AWP.seq ?_
  refine AWP.text ?_
  obtain ⟨z12_1, hz12_1, hm⟩ := bnd hm
  refine Wy (.tup [(.d (.lit (.int .i64 z12_1.1))), (.d (.lit (.bool z12_1.2)))]) [] (OtI hz12_1 rfl) ?_
  refine Wy (.d (.lit (.bool z12_1.2))) [] (Oex rfl) ?_
  refine Wy (.d (.lit (.int .i64 z12_1.1))) [] (Oex rfl) ?_
  refine Walk.nil ?_
  refine Then.normal ?_
  refine Amk 26634 1 ⟨(tp 1 ((.loc 0 0) :: (tp 1 ((.d (.lit r10_0)) :: (tp 7 ((.d (.lit r10_0)) :: (tp 1 ((.d (.lit (.bool z12_1.2))) :: ((.d (.lit (.int .i64 z12_1.1))) :: (tp 32 [])))))))))), [(.box [(.d (byteD p0.Kind)), (.d (.lit (.int .i64 p0.N))), (.d (.lit (.int .u64 p0.Bits))), (.d (.lit (.string (toS p0.Text))))])], 0⟩ ?_
  rcases tf_ z12_1.2 with hc13_12 | hc13_12
  · replace hm := cT hc13_12 hm
    refine AWP.if_ true (Eq.trans (by kernel_rfl) (lit_tf (b := z12_1.2) hc13_12)) ?_
    refine AWP.seq ?_
    refine AWP.text ?_
    refine Wy (.d (.lit (.int .i64 z12_1.1))) [] (Omv rfl) ?_
    refine Walk.nil ?_
    refine Then.normal ?_
    refine Amk 26 1 ⟨(tp 1 ((.loc 0 0) :: (tp 1 ((.d (.lit r10_0)) :: ((.d (.lit (.int .i64 z12_1.1))) :: (tp 42 [])))))), [(.box [(.d (byteD p0.Kind)), (.d (.lit (.int .i64 p0.N))), (.d (.lit (.int .u64 p0.Bits))), (.d (.lit (.string (toS p0.Text))))])], 0⟩ ?_
    refine AWP.seq ?_
    refine AWP.text ?_
    refine Wy (.d (.lit (.int .i64 z12_1.1))) [] (Omv rfl) ?_
    refine Wy (.d (.lit (.bool (decide (z12_1.1 < (-4611686018427387904)))))) [] (Obn rfl (fun _ => hb_lss (k := .i64))) ?_
    rcases tf_ (decide (z12_1.1 < (-4611686018427387904))) with hq17_2 | hq17_2
    · replace hm := cT hq17_2 hm
      refine Wy (.d (.lit (.bool true))) [] (Ocs (lit_tf (b := decide (z12_1.1 < (-4611686018427387904))) hq17_2) (Omv rfl)) ?_
      refine Wn ?_
      refine Wn ?_
      refine Wy (.d (.lit (.bool true))) [] (OpT rfl) ?_
      refine Walk.nil ?_
      refine Then.normal ?_
      refine Amk 1048586 1 ⟨(tp 1 ((.loc 0 0) :: (tp 1 ((.d (.lit r10_0)) :: (tp 16 ((.d (.lit (.bool true))) :: (tp 26 []))))))), [(.box [(.d (byteD p0.Kind)), (.d (.lit (.int .i64 p0.N))), (.d (.lit (.int .u64 p0.Bits))), (.d (.lit (.string (toS p0.Text))))])], 0⟩ ?_
      refine AWP.if_ true (by kernel_rfl) ?_
      refine AWP.seq ?_
      refine AWP.text ?_
      refine Wy (.d (.lit (.int .i64 8))) [] (Omv rfl) ?_
      refine Walk.nil ?_
      refine Then.normal ?_
      refine AWP.ret ?_
      refine InBlock.ret ?_
      refine Then.ret ?_
      obtain rfl := Option.some.inj hm
      exact ret_i []
    · replace hm := cF hq17_2 hm
      refine Wy (.d (.lit (.bool false))) [] (Ocs (lit_tf (b := decide (z12_1.1 < (-4611686018427387904))) hq17_2) (Omv rfl)) ?_
      refine Wy (.d (.lit (.int .i64 z12_1.1))) [] (Omv rfl) ?_
      refine Wy (.d (.lit (.bool (decide ((4611686018427387904 : Int) < z12_1.1))))) [] (Obn rfl (fun _ => hb_gtr (k := .i64))) ?_
      refine Wy (.d (.lit (.bool (decide ((4611686018427387904 : Int) < z12_1.1))))) [] (OpF rfl) ?_
      refine Walk.nil ?_
      refine Then.normal ?_
      refine Amk 1048586 1 ⟨(tp 1 ((.loc 0 0) :: (tp 1 ((.d (.lit r10_0)) :: (tp 16 ((.d (.lit (.bool (decide ((4611686018427387904 : Int) < z12_1.1))))) :: (tp 26 []))))))), [(.box [(.d (byteD p0.Kind)), (.d (.lit (.int .i64 p0.N))), (.d (.lit (.int .u64 p0.Bits))), (.d (.lit (.string (toS p0.Text))))])], 0⟩ ?_
      rcases tf_ (decide ((4611686018427387904 : Int) < z12_1.1)) with hc20_13 | hc20_13
      · replace hm := cT hc20_13 hm
        refine AWP.if_ true (Eq.trans (by kernel_rfl) (lit_tf (b := decide ((4611686018427387904 : Int) < z12_1.1)) hc20_13)) ?_
        refine AWP.seq ?_
        refine AWP.text ?_
        refine Wy (.d (.lit (.int .i64 8))) [] (Omv rfl) ?_
        refine Walk.nil ?_
        refine Then.normal ?_
        refine AWP.ret ?_
        refine InBlock.ret ?_
        refine Then.ret ?_
        obtain rfl := Option.some.inj hm
        exact ret_i []
      · replace hm := cF hc20_13 hm
        refine AWP.if_ false (Eq.trans (by kernel_rfl) (lit_tf (b := decide ((4611686018427387904 : Int) < z12_1.1)) hc20_13)) ?_
        refine AWP.skip ?_
        refine InBlock.normal ?_
        refine Then.normal ?_
        exact AWP.weak (Weak.toK 10 0 0 [0]) (J9 () hm)
  · replace hm := cF hc13_12 hm
    refine AWP.if_ false (Eq.trans (by kernel_rfl) (lit_tf (b := z12_1.2) hc13_12)) ?_
    refine AWP.seq ?_
    refine AWP.text ?_
    obtain ⟨z21_3, hz21_3, hm⟩ := bnd hm
    refine Wy (.tup [(.d (.lit (.int .i64 z21_3.1))), (.d (.lit (.bool z21_3.2)))]) [] (OtI hz21_3 rfl) ?_
    refine Wy (.d (.lit (.bool z21_3.2))) [] (Oex rfl) ?_
    refine Wy (.d (.lit (.int .i64 z21_3.1))) [] (Oex rfl) ?_
    refine Walk.nil ?_
    refine Then.normal ?_
    refine Amk 12584970 1 ⟨(tp 1 ((.loc 0 0) :: (tp 1 ((.d (.lit r10_0)) :: (tp 7 ((.d (.lit r10_0)) :: (tp 10 ((.d (.lit (.bool z21_3.2))) :: ((.d (.lit (.int .i64 z21_3.1))) :: (tp 23 [])))))))))), [(.box [(.d (byteD p0.Kind)), (.d (.lit (.int .i64 p0.N))), (.d (.lit (.int .u64 p0.Bits))), (.d (.lit (.string (toS p0.Text))))])], 0⟩ ?_
    rcases tf_ z21_3.2 with hc22_14 | hc22_14
    · replace hm := cT hc22_14 hm
      refine AWP.if_ true (Eq.trans (by kernel_rfl) (lit_tf (b := z21_3.2) hc22_14)) ?_
      refine AWP.seq ?_
      refine AWP.text ?_
      refine Wy (.d (.lit (.int .i64 z21_3.1))) [] (Omv rfl) ?_
      refine Walk.nil ?_
      refine Then.normal ?_
      refine Amk 42 1 ⟨(tp 1 ((.loc 0 0) :: (tp 1 ((.d (.lit r10_0)) :: (tp 1 ((.d (.lit (.int .i64 z21_3.1))) :: (tp 41 []))))))), [(.box [(.d (byteD p0.Kind)), (.d (.lit (.int .i64 p0.N))), (.d (.lit (.int .u64 p0.Bits))), (.d (.lit (.string (toS p0.Text))))])], 0⟩ ?_
      refine AWP.seq ?_
      refine AWP.text ?_
      refine Wy (.d (.lit (.int .i64 z21_3.1))) [] (Omv rfl) ?_
      refine Wy (.d (.lit (.bool (decide (z21_3.1 ≠ 0))))) [] (Obn rfl (fun _ => hb_neq (k := .i64))) ?_
      rcases tf_ (decide (z21_3.1 ≠ 0)) with hq26_4 | hq26_4
      · replace hm := cT hq26_4 hm
        refine Wy (.d (.lit (.bool true))) [] (Ocs (lit_tf (b := decide (z21_3.1 ≠ 0)) hq26_4) (Omv rfl)) ?_
        refine Wy (.d (.lit (.int .i64 z21_3.1))) [] (Omv rfl) ?_
        refine Wy (.d (.lit (.bool (decide (z21_3.1 ≠ 1))))) [] (Obn rfl (fun _ => hb_neq (k := .i64))) ?_
        refine Wy (.d (.lit (.bool (decide (z21_3.1 ≠ 1))))) [] (OpT rfl) ?_
        refine Walk.nil ?_
        refine Then.normal ?_
        refine Amk 536870922 1 ⟨(tp 1 ((.loc 0 0) :: (tp 1 ((.d (.lit r10_0)) :: (tp 25 ((.d (.lit (.bool (decide (z21_3.1 ≠ 1))))) :: (tp 17 []))))))), [(.box [(.d (byteD p0.Kind)), (.d (.lit (.int .i64 p0.N))), (.d (.lit (.int .u64 p0.Bits))), (.d (.lit (.string (toS p0.Text))))])], 0⟩ ?_
        rcases tf_ (decide (z21_3.1 ≠ 1)) with hc29_15 | hc29_15
        · replace hm := cT hc29_15 hm
          refine AWP.if_ true (Eq.trans (by kernel_rfl) (lit_tf (b := decide (z21_3.1 ≠ 1)) hc29_15)) ?_
          refine AWP.seq ?_
          refine AWP.text ?_
          refine Wy (.d (.lit (.int .i64 8))) [] (Omv rfl) ?_
          refine Walk.nil ?_
          refine Then.normal ?_
          refine AWP.ret ?_
          refine InBlock.ret ?_
          refine Then.ret ?_
          obtain rfl := Option.some.inj hm
          exact ret_i []
        · replace hm := cF hc29_15 hm
          refine AWP.if_ false (Eq.trans (by kernel_rfl) (lit_tf (b := decide (z21_3.1 ≠ 1)) hc29_15)) ?_
          refine AWP.skip ?_
          refine InBlock.normal ?_
          refine Then.normal ?_
          exact AWP.weak (Weak.toK 10 0 0 [0]) (J9 () hm)
      · replace hm := cF hq26_4 hm
        refine Wy (.d (.lit (.bool false))) [] (Ocs (lit_tf (b := decide (z21_3.1 ≠ 0)) hq26_4) (Omv rfl)) ?_
        refine Wn ?_
        refine Wn ?_
        refine Wy (.d (.lit (.bool false))) [] (OpF rfl) ?_
        refine Walk.nil ?_
        refine Then.normal ?_
        refine Amk 536870922 1 ⟨(tp 1 ((.loc 0 0) :: (tp 1 ((.d (.lit r10_0)) :: (tp 25 ((.d (.lit (.bool false))) :: (tp 17 []))))))), [(.box [(.d (byteD p0.Kind)), (.d (.lit (.int .i64 p0.N))), (.d (.lit (.int .u64 p0.Bits))), (.d (.lit (.string (toS p0.Text))))])], 0⟩ ?_
        refine AWP.if_ false (by kernel_rfl) ?_
        refine AWP.skip ?_
        refine InBlock.normal ?_
        refine Then.normal ?_
        exact AWP.weak (Weak.toK 10 0 0 [0]) (J9 () hm)
    · replace hm := cF hc22_14 hm
      refine AWP.if_ false (Eq.trans (by kernel_rfl) (lit_tf (b := z21_3.2) hc22_14)) ?_
      refine AWP.seq ?_
      refine AWP.text ?_
      obtain ⟨z30_5, hz30_5, hm⟩ := bnd hm
      refine Wy (.tup [(.d (.lit (.int .u64 z30_5.1))), (.d (.lit (.bool z30_5.2)))]) [] (OtI hz30_5 rfl) ?_
      refine Wy (.d (.lit (.bool z30_5.2))) [] (Oex rfl) ?_
      refine Wy (.d (.lit (.int .u64 z30_5.1))) [] (Oex rfl) ?_
      refine Walk.nil ?_
      refine Then.normal ?_
      refine Amk 6442453002 1 ⟨(tp 1 ((.loc 0 0) :: (tp 1 ((.d (.lit r10_0)) :: (tp 7 ((.d (.lit r10_0)) :: (tp 19 ((.d (.lit (.bool z30_5.2))) :: ((.d (.lit (.int .u64 z30_5.1))) :: (tp 14 [])))))))))), [(.box [(.d (byteD p0.Kind)), (.d (.lit (.int .i64 p0.N))), (.d (.lit (.int .u64 p0.Bits))), (.d (.lit (.string (toS p0.Text))))])], 0⟩ ?_
      rcases tf_ z30_5.2 with hc31_16 | hc31_16
      · replace hm := cT hc31_16 hm
        refine AWP.if_ true (Eq.trans (by kernel_rfl) (lit_tf (b := z30_5.2) hc31_16)) ?_
        refine AWP.seq ?_
        refine AWP.text ?_
        refine Wy (.d (.lit (.int .u64 z30_5.1))) [] (Omv rfl) ?_
        refine Walk.nil ?_
        refine Then.normal ?_
        refine Amk 74 1 ⟨(tp 1 ((.loc 0 0) :: (tp 1 ((.d (.lit r10_0)) :: (tp 2 ((.d (.lit (.int .u64 z30_5.1))) :: (tp 40 []))))))), [(.box [(.d (byteD p0.Kind)), (.d (.lit (.int .i64 p0.N))), (.d (.lit (.int .u64 p0.Bits))), (.d (.lit (.string (toS p0.Text))))])], 0⟩ ?_
        refine AWP.seq ?_
        refine AWP.text ?_
        refine Wy (.d (.lit (.int .u64 z30_5.1))) [] (Omv rfl) ?_
        obtain ⟨r34_6, hr34_6, hm⟩ := bnd hm
        refine Wy (.d (.lit (.int .u64 r34_6))) [] (Ocf [] [] [] 0 (ok_real_Clean z30_5.1 r34_6 hr34_6) (fun a w => Try.call35 a w) rfl trivial) ?_
        refine Wy (.d (.lit (.int .u64 z30_5.1))) [] (Omv rfl) ?_
        refine Wy (.d (.lit (.bool (decide (r34_6 ≠ z30_5.1))))) [] (Obn rfl (fun _ => hb_neq (k := .u64))) ?_
        refine Walk.nil ?_
        refine Then.normal ?_
        refine Amk 68719476746 1 ⟨(tp 1 ((.loc 0 0) :: (tp 1 ((.d (.lit r10_0)) :: (tp 32 ((.d (.lit (.bool (decide (r34_6 ≠ z30_5.1))))) :: (tp 10 []))))))), [(.box [(.d (byteD p0.Kind)), (.d (.lit (.int .i64 p0.N))), (.d (.lit (.int .u64 p0.Bits))), (.d (.lit (.string (toS p0.Text))))])], 0⟩ ?_
        rcases tf_ (decide (r34_6 ≠ z30_5.1)) with hc36_17 | hc36_17
        · replace hm := cT hc36_17 hm
          refine AWP.if_ true (Eq.trans (by kernel_rfl) (lit_tf (b := decide (r34_6 ≠ z30_5.1)) hc36_17)) ?_
          refine AWP.seq ?_
          refine AWP.text ?_
          refine Wy (.d (.lit (.int .i64 4))) [] (Omv rfl) ?_
          refine Walk.nil ?_
          refine Then.normal ?_
          refine AWP.ret ?_
          refine InBlock.ret ?_
          refine Then.ret ?_
          obtain rfl := Option.some.inj hm
          exact ret_i []
        · replace hm := cF hc36_17 hm
          refine AWP.if_ false (Eq.trans (by kernel_rfl) (lit_tf (b := decide (r34_6 ≠ z30_5.1)) hc36_17)) ?_
          refine AWP.skip ?_
          refine InBlock.normal ?_
          refine Then.normal ?_
          exact AWP.weak (Weak.toK 10 0 0 [0]) (J9 () hm)
      · replace hm := cF hc31_16 hm
        refine AWP.if_ false (Eq.trans (by kernel_rfl) (lit_tf (b := z30_5.2) hc31_16)) ?_
        refine AWP.seq ?_
        refine AWP.text ?_
        obtain ⟨z37_7, hz37_7, hm⟩ := bnd hm
        refine Wy (.tup [(.d (.lit (.string (toS z37_7.1)))), (.d (.lit (.bool z37_7.2)))]) [] (OtS hz37_7 rfl) ?_
        refine Wy (.d (.lit (.bool z37_7.2))) [] (Oex rfl) ?_
        refine Wy (.d (.lit (.string (toS z37_7.1)))) [] (Oex rfl) ?_
        refine Walk.nil ?_
        refine Then.normal ?_
        refine Amk 824633722890 1 ⟨(tp 1 ((.loc 0 0) :: (tp 1 ((.d (.lit r10_0)) :: (tp 7 ((.d (.lit r10_0)) :: (tp 26 ((.d (.lit (.bool z37_7.2))) :: ((.d (.lit (.string (toS z37_7.1)))) :: (tp 7 [])))))))))), [(.box [(.d (byteD p0.Kind)), (.d (.lit (.int .i64 p0.N))), (.d (.lit (.int .u64 p0.Bits))), (.d (.lit (.string (toS p0.Text))))])], 0⟩ ?_
        rcases tf_ z37_7.2 with hc38_18 | hc38_18
        · replace hm := cT hc38_18 hm
          refine AWP.if_ true (Eq.trans (by kernel_rfl) (lit_tf (b := z37_7.2) hc38_18)) ?_
          refine AWP.seq ?_
          refine AWP.text ?_
          refine Wy (.d (.lit (.string (toS z37_7.1)))) [] (Omv rfl) ?_
          refine Walk.nil ?_
          refine Then.normal ?_
          refine Amk 138 1 ⟨(tp 1 ((.loc 0 0) :: (tp 1 ((.d (.lit r10_0)) :: (tp 3 ((.d (.lit (.string (toS z37_7.1)))) :: (tp 39 []))))))), [(.box [(.d (byteD p0.Kind)), (.d (.lit (.int .i64 p0.N))), (.d (.lit (.int .u64 p0.Bits))), (.d (.lit (.string (toS p0.Text))))])], 0⟩ ?_
          refine AWP.seq ?_
          refine AWP.text ?_
          refine Wy (.d (.lit (.string (toS z37_7.1)))) [] (Omv rfl) ?_
          refine Wy (.d (.lit (.int .i64 ((List.length z37_7.1 : Nat) : Int)))) [] (Oln rfl) ?_
          refine Wy (.d (.lit (.bool (decide ((24 : Int) < ((List.length z37_7.1 : Nat) : Int)))))) [] (Obn rfl (fun _ => hb_gtr (k := .i64))) ?_
          refine Walk.nil ?_
          refine Then.normal ?_
          refine Amk 4398046511114 1 ⟨(tp 1 ((.loc 0 0) :: (tp 1 ((.d (.lit r10_0)) :: (tp 38 ((.d (.lit (.bool (decide ((24 : Int) < ((List.length z37_7.1 : Nat) : Int)))))) :: (tp 4 []))))))), [(.box [(.d (byteD p0.Kind)), (.d (.lit (.int .i64 p0.N))), (.d (.lit (.int .u64 p0.Bits))), (.d (.lit (.string (toS p0.Text))))])], 0⟩ ?_
          rcases tf_ (decide ((24 : Int) < ((List.length z37_7.1 : Nat) : Int))) with hc42_19 | hc42_19
          · replace hm := cT hc42_19 hm
            refine AWP.if_ true (Eq.trans (by kernel_rfl) (lit_tf (b := decide ((24 : Int) < ((List.length z37_7.1 : Nat) : Int))) hc42_19)) ?_
            refine AWP.seq ?_
            refine AWP.text ?_
            refine Wy (.d (.lit (.int .i64 5))) [] (Omv rfl) ?_
            refine Walk.nil ?_
            refine Then.normal ?_
            refine AWP.ret ?_
            refine InBlock.ret ?_
            refine Then.ret ?_
            obtain rfl := Option.some.inj hm
            exact ret_i []
          · replace hm := cF hc42_19 hm
            refine AWP.if_ false (Eq.trans (by kernel_rfl) (lit_tf (b := decide ((24 : Int) < ((List.length z37_7.1 : Nat) : Int))) hc42_19)) ?_
            refine AWP.skip ?_
            refine InBlock.normal ?_
            refine Then.normal ?_
            exact AWP.weak (Weak.toK 10 0 0 [0]) (J9 () hm)
        · replace hm := cF hc38_18 hm
          refine AWP.if_ false (Eq.trans (by kernel_rfl) (lit_tf (b := z37_7.2) hc38_18)) ?_
          refine AWP.seq ?_
          refine AWP.text ?_
          refine Wy (.d (.lit r10_0)) [] (Omv rfl) ?_
          refine Walk.nil ?_
          refine Then.normal ?_
          refine Amk 0 0 ⟨(tp 47 []), [.gone], 0⟩ ?_
          refine AWP.seq ?_
          refine AWP.text ?_
          refine Wy (.d (.lit (.int .i64 11))) [] (Omv rfl) ?_
          refine Walk.nil ?_
          refine Then.normal ?_
          refine AWP.ret ?_
          refine InBlock.ret ?_
          refine Then.ret ?_
          obtain rfl := Option.some.inj hm
          exact ret_i []

set_option maxRecDepth 20000 in
set_option maxHeartbeats 4000000 in
theorem ok_zig_Fold (p0 : Int) (r : Int) (h : m_zig_Fold p0 = some r) : GCall Try.prog 48 [(.d (.lit (.int .i64 p0)))] [] (.d (.lit (.int .u64 r))) [] := by
  refine GCall.of_body (n := 10) (rs := [(.tmp 2)]) Try.func48 rfl rfl rfl ?_
  refine Ato ⟨((.d (.lit (.int .i64 p0))) :: (tu 9 [])), [], 0⟩ ?_
  have hm := h
  unfold m_zig_Fold at hm
  refine AWP.seq ?_
  refine AWP.text ?_
  refine Wy (.d (.lit (.int .u64 0))) [] (Omv rfl) ?_
  refine Walk.nil ?_
  refine Then.normal ?_
  refine Amk 1 0 ⟨((.d (.lit (.int .i64 p0))) :: (tp 9 [])), [], 0⟩ ?_
  refine AWP.seq ?_
  refine AWP.text ?_
  refine Wy (.d (.lit (.int .i64 p0))) [] (Omv rfl) ?_
  refine Wy (.d (.lit (.int .u64 (IntKind.u64.wrap p0)))) [] (Ocs (by kernel_rfl) (op_convert rfl (a1 := .int .i64 p0) (by kernel_rfl) (run_conv (ds := .int .i64) (k' := .u64) (by kernel_rfl) (by kernel_rfl)))) ?_
  refine Wy (.d (.lit (.int .u64 (IntKind.u64.wrap ((IntKind.u64.wrap p0) * 2 ^ 1))))) [] (Ocs (by kernel_rfl) (op_bin rfl (a1 := .int .u64 (IntKind.u64.wrap p0)) (a2 := .int .u64 1) (by kernel_rfl) (by kernel_rfl) (fun _ => hb_shl (n := 1) (by decide) rfl))) ?_
  refine Wy (.d (.lit (.int .i64 p0))) [] (Omv rfl) ?_
  refine Wy (.d (.lit (.int .i64 (Int.fdiv p0 (2 ^ 63))))) [] (Ocs (by kernel_rfl) (op_bin rfl (a1 := .int .i64 p0) (a2 := .int .u64 63) (by kernel_rfl) (by kernel_rfl) (fun _ => hb_shr (n := 63) (by decide) rfl))) ?_
  refine Wy (.d (.lit (.int .u64 (IntKind.u64.wrap (Int.fdiv p0 (2 ^ 63)))))) [] (Ocs (by kernel_rfl) (op_convert rfl (a1 := .int .i64 (Int.fdiv p0 (2 ^ 63))) (by kernel_rfl) (run_conv (ds := .int .i64) (k' := .u64) (by kernel_rfl) (by kernel_rfl)))) ?_
  obtain ⟨v9_0, hv9_0, hm⟩ := bnd hm; replace hv9_0 := Option.some.inj hv9_0
  refine Wy (.d (.lit (.int .u64 v9_0))) [] (Ocs (Eq.trans (by kernel_rfl) (congrArg (fun z => A.d (.lit (.int .u64 z))) hv9_0)) (op_bin rfl (a1 := .int .u64 (IntKind.u64.wrap ((IntKind.u64.wrap p0) * 2 ^ 1))) (a2 := .int .u64 (IntKind.u64.wrap (Int.fdiv p0 (2 ^ 63)))) (by kernel_rfl) (by kernel_rfl) (fun _ => hb_xor))) ?_
  refine Wy (.d (.lit (.int .u64 v9_0))) [] (Omv rfl) ?_
  refine Walk.nil ?_
  refine Then.normal ?_
  refine AWP.ret ?_
  obtain rfl := Option.some.inj hm
  exact ret_i []

set_option maxRecDepth 20000 in
set_option maxHeartbeats 4000000 in
theorem ok_math_bits_Len64 (p0 : Int) (r : Int) (h : m_math_bits_Len64 p0 = some r) : GCall Try.prog 65 [(.d (.lit (.int .u64 p0)))] [] (.d (.lit (.int .i64 r))) [] := by
  refine GCall.of_body (n := 25) (rs := [(.tmp 2)]) Try.func65 rfl rfl rfl ?_
  refine Ato ⟨((.d (.lit (.int .u64 p0))) :: (tu 24 [])), [], 0⟩ ?_
  have hm := h
  unfold m_math_bits_Len64 at hm
  refine AWP.seq ?_
  refine AWP.text ?_
  refine Wy (.d (.lit (.int .i64 0))) [] (Omv rfl) ?_
  refine Walk.nil ?_
  refine Then.normal ?_
  refine Amk 5 0 ⟨((.d (.lit (.int .u64 p0))) :: (tp 1 ((.d (.lit (.int .i64 0))) :: (tp 22 [])))), [], 0⟩ ?_
  refine AWP.cutJ (α := Int × Int) (fun x => match x with | (y0_0, y2_0) => (⟨((.d (.lit (.int .u64 y0_0))) :: (tp 1 ((.d (.lit (.int .i64 y2_0))) :: (tp 22 [])))), [], 0⟩ : St)) (fun x => match x with | (y0_0, y2_0) => m_math_bits_Len64_j0  y0_0 y2_0 = some r) ?_ (fun J0 => ?_)
  · rintro ⟨y0_0, y2_0⟩ hm
    try dsimp only at hm ⊢
    unfold m_math_bits_Len64_j0 at hm
    refine AWP.cutJ (α := Int × Int) (fun x => match x with | (y0_1, y2_1) => (⟨((.d (.lit (.int .u64 y0_1))) :: (tp 1 ((.d (.lit (.int .i64 y2_1))) :: (tp 22 [])))), [], 0⟩ : St)) (fun x => match x with | (y0_1, y2_1) => m_math_bits_Len64_j1  y0_1 y2_1 = some r) ?_ (fun J1 => ?_)
    · rintro ⟨y0_1, y2_1⟩ hm
      try dsimp only at hm ⊢
      unfold m_math_bits_Len64_j1 at hm
      refine AWP.cutJ (α := Int × Int) (fun x => match x with | (y0_2, y2_2) => (⟨((.d (.lit (.int .u64 y0_2))) :: (tp 1 ((.d (.lit (.int .i64 y2_2))) :: (tp 22 [])))), [], 0⟩ : St)) (fun x => match x with | (y0_2, y2_2) => m_math_bits_Len64_j2  y0_2 y2_2 = some r) ?_ (fun J2 => ?_)
      · rintro ⟨y0_2, y2_2⟩ hm
        try dsimp only at hm ⊢
        unfold m_math_bits_Len64_j2 at hm
        refine AWP.seq ?_
        refine AWP.text ?_
        refine Wy (.d (.lit (.int .i64 y2_2))) [] (Omv rfl) ?_
        refine Wy (.d (.lit (.int .u64 y0_2))) [] (Omv rfl) ?_
        refine Wy (.d (byteD (toU8 y0_2))) [] (Ocs (lit_int (u8w _)) (op_convert rfl (a1 := .int .u64 y0_2) (by kernel_rfl) (run_conv (ds := .int .u64) (k' := .u8) (by kernel_rfl) (by kernel_rfl)))) ?_
        obtain ⟨x22_3, hx22_3, hm⟩ := bnd hm
        obtain ⟨hx22_3i, hx22_3g⟩ := geti_some hx22_3
        refine Wy (.d (byteD x22_3)) [] (Ocs (by kernel_rfl) (op_index_str rfl (by kernel_rfl) (s := toS ([0, 1, 2, 2, 3, 3, 3, 3, 4, 4, 4, 4, 4, 4, 4, 4, 5, 5, 5, 5, 5, 5, 5, 5, 5, 5, 5, 5, 5, 5, 5, 5, 6, 6, 6, 6, 6, 6, 6, 6, 6, 6, 6, 6, 6, 6, 6, 6, 6, 6, 6, 6, 6, 6, 6, 6, 6, 6, 6, 6, 6, 6, 6, 6, 7, 7, 7, 7, 7, 7, 7, 7, 7, 7, 7, 7, 7, 7, 7, 7, 7, 7, 7, 7, 7, 7, 7, 7, 7, 7, 7, 7, 7, 7, 7, 7, 7, 7, 7, 7, 7, 7, 7, 7, 7, 7, 7, 7, 7, 7, 7, 7, 7, 7, 7, 7, 7, 7, 7, 7, 7, 7, 7, 7, 7, 7, 7, 7, 8, 8, 8, 8, 8, 8, 8, 8, 8, 8, 8, 8, 8, 8, 8, 8, 8, 8, 8, 8, 8, 8, 8, 8, 8, 8, 8, 8, 8, 8, 8, 8, 8, 8, 8, 8, 8, 8, 8, 8, 8, 8, 8, 8, 8, 8, 8, 8, 8, 8, 8, 8, 8, 8, 8, 8, 8, 8, 8, 8, 8, 8, 8, 8, 8, 8, 8, 8, 8, 8, 8, 8, 8, 8, 8, 8, 8, 8, 8, 8, 8, 8, 8, 8, 8, 8, 8, 8, 8, 8, 8, 8, 8, 8, 8, 8, 8, 8, 8, 8, 8, 8, 8, 8, 8, 8, 8, 8, 8, 8, 8, 8, 8, 8, 8, 8, 8, 8, 8, 8, 8, 8, 8, 8, 8, 8, 8, 8] : List UInt8)) (by kernel_rfl) (k := .u8) (iv := (((toU8 y0_2).toNat : Nat) : Int)) (by kernel_rfl) (i := (Int.toNat (((toU8 y0_2).toNat : Nat) : Int))) (hx22_3i) (b := x22_3) (hx22_3g))) ?_
        refine Wy (.d (.lit (.int .i64 ((x22_3.toNat : Nat) : Int)))) [] (Ocs (lit_int (wrap_of_u8 (by decide) _)) (op_convert rfl (a1 := .int .u8 ((x22_3.toNat : Nat) : Int)) (by kernel_rfl) (run_conv (ds := .int .u8) (k' := .i64) (by kernel_rfl) (by kernel_rfl)))) ?_
        refine Wy (.d (.lit (.int .i64 (IntKind.i64.wrap (y2_2 + ((x22_3.toNat : Nat) : Int)))))) [] (Obn rfl (fun _ => hb_add (k := .i64))) ?_
        refine Wy (.d (.lit (.int .i64 (IntKind.i64.wrap (y2_2 + ((x22_3.toNat : Nat) : Int)))))) [] (Omv rfl) ?_
        refine Walk.nil ?_
        refine Then.normal ?_
        refine AWP.ret ?_
        obtain rfl := Option.some.inj hm
        exact ret_i []
      refine AWP.seq ?_
      refine AWP.seq ?_
      refine AWP.text ?_
      refine Wy (.d (.lit (.int .u64 y0_1))) [] (Omv rfl) ?_
      refine Wy (.d (.lit (.bool (decide ((256 : Int) ≤ y0_1))))) [] (Obn rfl (fun _ => hb_geq (k := .u64))) ?_
      refine Walk.nil ?_
      refine Then.normal ?_
      refine Amk 16389 0 ⟨((.d (.lit (.int .u64 y0_1))) :: (tp 1 ((.d (.lit (.int .i64 y2_1))) :: (tp 11 ((.d (.lit (.bool (decide ((256 : Int) ≤ y0_1))))) :: (tp 10 [])))))), [], 0⟩ ?_
      rcases tf_ (decide ((256 : Int) ≤ y0_1)) with hc14_4 | hc14_4
      · replace hm := cT hc14_4 hm
        refine AWP.if_ true (Eq.trans (by kernel_rfl) (lit_tf (b := decide ((256 : Int) ≤ y0_1)) hc14_4)) ?_
        refine AWP.seq ?_
        refine AWP.text ?_
        refine Wy (.d (.lit (.int .u64 y0_1))) [] (Omv rfl) ?_
        refine Wy (.d (.lit (.int .u64 (Int.fdiv y0_1 (2 ^ 8))))) [] (Ocs (by kernel_rfl) (op_bin rfl (a1 := .int .u64 y0_1) (a2 := .int .u64 8) (by kernel_rfl) (by kernel_rfl) (fun _ => hb_shr (n := 8) (by decide) rfl))) ?_
        refine Wy (.d (.lit (.int .u64 (Int.fdiv y0_1 (2 ^ 8))))) [] (Omv rfl) ?_
        refine Walk.nil ?_
        refine Then.normal ?_
        refine Amk 5 0 ⟨((.d (.lit (.int .u64 (Int.fdiv y0_1 (2 ^ 8))))) :: (tp 1 ((.d (.lit (.int .i64 y2_1))) :: (tp 22 [])))), [], 0⟩ ?_
        refine AWP.text ?_
        refine Wy (.d (.lit (.int .i64 y2_1))) [] (Omv rfl) ?_
        refine Wy (.d (.lit (.int .i64 (IntKind.i64.wrap (y2_1 + 8))))) [] (Obn rfl (fun _ => hb_add (k := .i64))) ?_
        refine Wy (.d (.lit (.int .i64 (IntKind.i64.wrap (y2_1 + 8))))) [] (Omv rfl) ?_
        refine Walk.nil ?_
        refine Then.normal ?_
        exact AWP.weak (Weak.toK 5 0 0 []) (J2 ((Int.fdiv y0_1 (2 ^ 8)), (IntKind.i64.wrap (y2_1 + 8))) hm)
      · replace hm := cF hc14_4 hm
        refine AWP.if_ false (Eq.trans (by kernel_rfl) (lit_tf (b := decide ((256 : Int) ≤ y0_1)) hc14_4)) ?_
        refine AWP.skip ?_
        refine Then.normal ?_
        exact AWP.weak (Weak.toK 5 0 0 []) (J2 (y0_1, y2_1) hm)
    refine AWP.seq ?_
    refine AWP.seq ?_
    refine AWP.text ?_
    refine Wy (.d (.lit (.int .u64 y0_0))) [] (Omv rfl) ?_
    refine Wy (.d (.lit (.bool (decide ((65536 : Int) ≤ y0_0))))) [] (Obn rfl (fun _ => hb_geq (k := .u64))) ?_
    refine Walk.nil ?_
    refine Then.normal ?_
    refine Amk 261 0 ⟨((.d (.lit (.int .u64 y0_0))) :: (tp 1 ((.d (.lit (.int .i64 y2_0))) :: (tp 5 ((.d (.lit (.bool (decide ((65536 : Int) ≤ y0_0))))) :: (tp 16 [])))))), [], 0⟩ ?_
    rcases tf_ (decide ((65536 : Int) ≤ y0_0)) with hc8_5 | hc8_5
    · replace hm := cT hc8_5 hm
      refine AWP.if_ true (Eq.trans (by kernel_rfl) (lit_tf (b := decide ((65536 : Int) ≤ y0_0)) hc8_5)) ?_
      refine AWP.seq ?_
      refine AWP.text ?_
      refine Wy (.d (.lit (.int .u64 y0_0))) [] (Omv rfl) ?_
      refine Wy (.d (.lit (.int .u64 (Int.fdiv y0_0 (2 ^ 16))))) [] (Ocs (by kernel_rfl) (op_bin rfl (a1 := .int .u64 y0_0) (a2 := .int .u64 16) (by kernel_rfl) (by kernel_rfl) (fun _ => hb_shr (n := 16) (by decide) rfl))) ?_
      refine Wy (.d (.lit (.int .u64 (Int.fdiv y0_0 (2 ^ 16))))) [] (Omv rfl) ?_
      refine Walk.nil ?_
      refine Then.normal ?_
      refine Amk 5 0 ⟨((.d (.lit (.int .u64 (Int.fdiv y0_0 (2 ^ 16))))) :: (tp 1 ((.d (.lit (.int .i64 y2_0))) :: (tp 22 [])))), [], 0⟩ ?_
      refine AWP.text ?_
      refine Wy (.d (.lit (.int .i64 y2_0))) [] (Omv rfl) ?_
      refine Wy (.d (.lit (.int .i64 (IntKind.i64.wrap (y2_0 + 16))))) [] (Obn rfl (fun _ => hb_add (k := .i64))) ?_
      refine Wy (.d (.lit (.int .i64 (IntKind.i64.wrap (y2_0 + 16))))) [] (Omv rfl) ?_
      refine Walk.nil ?_
      refine Then.normal ?_
      exact AWP.weak (Weak.toK 5 0 0 []) (J1 ((Int.fdiv y0_0 (2 ^ 16)), (IntKind.i64.wrap (y2_0 + 16))) hm)
    · replace hm := cF hc8_5 hm
      refine AWP.if_ false (Eq.trans (by kernel_rfl) (lit_tf (b := decide ((65536 : Int) ≤ y0_0)) hc8_5)) ?_
      refine AWP.skip ?_
      refine Then.normal ?_
      exact AWP.weak (Weak.toK 5 0 0 []) (J1 (y0_0, y2_0) hm)
  refine AWP.seq ?_
  refine AWP.seq ?_
  refine AWP.text ?_
  refine Wy (.d (.lit (.int .u64 p0))) [] (Omv rfl) ?_
  refine Wy (.d (.lit (.bool (decide ((4294967296 : Int) ≤ p0))))) [] (Obn rfl (fun _ => hb_geq (k := .u64))) ?_
  refine Walk.nil ?_
  refine Then.normal ?_
  refine Amk 21 0 ⟨((.d (.lit (.int .u64 p0))) :: (tp 1 ((.d (.lit (.int .i64 0))) :: (tp 1 ((.d (.lit (.bool (decide ((4294967296 : Int) ≤ p0))))) :: (tp 20 [])))))), [], 0⟩ ?_
  rcases tf_ (decide ((4294967296 : Int) ≤ p0)) with hc4_6 | hc4_6
  · replace hm := cT hc4_6 hm
    refine AWP.if_ true (Eq.trans (by kernel_rfl) (lit_tf (b := decide ((4294967296 : Int) ≤ p0)) hc4_6)) ?_
    refine AWP.seq ?_
    refine AWP.text ?_
    refine Wy (.d (.lit (.int .u64 p0))) [] (Omv rfl) ?_
    refine Wy (.d (.lit (.int .u64 (Int.fdiv p0 (2 ^ 32))))) [] (Ocs (by kernel_rfl) (op_bin rfl (a1 := .int .u64 p0) (a2 := .int .u64 32) (by kernel_rfl) (by kernel_rfl) (fun _ => hb_shr (n := 32) (by decide) rfl))) ?_
    refine Wy (.d (.lit (.int .u64 (Int.fdiv p0 (2 ^ 32))))) [] (Omv rfl) ?_
    refine Walk.nil ?_
    refine Then.normal ?_
    refine Amk 1 0 ⟨((.d (.lit (.int .u64 (Int.fdiv p0 (2 ^ 32))))) :: (tp 24 [])), [], 0⟩ ?_
    refine AWP.text ?_
    refine Wy (.d (.lit (.int .i64 32))) [] (Omv rfl) ?_
    refine Walk.nil ?_
    refine Then.normal ?_
    exact AWP.weak (Weak.toK 5 0 0 []) (J0 ((Int.fdiv p0 (2 ^ 32)), 32) hm)
  · replace hm := cF hc4_6 hm
    refine AWP.if_ false (Eq.trans (by kernel_rfl) (lit_tf (b := decide ((4294967296 : Int) ≤ p0)) hc4_6)) ?_
    refine AWP.skip ?_
    refine Then.normal ?_
    exact AWP.weak (Weak.toK 5 0 0 []) (J0 (p0, 0) hm)

set_option maxRecDepth 20000 in
set_option maxHeartbeats 4000000 in
theorem ok_zig_Size (p0 : Int) (r : Int) (h : m_zig_Size p0 = some r) : GCall Try.prog 51 [(.d (.lit (.int .u64 p0)))] [] (.d (.lit (.int .i64 r))) [] := by
  refine GCall.of_body (n := 9) (rs := [(.tmp 2)]) Try.func51 rfl rfl rfl ?_
  refine Ato ⟨((.d (.lit (.int .u64 p0))) :: (tu 8 [])), [], 0⟩ ?_
  have hm := h
  unfold m_zig_Size at hm
  refine AWP.seq ?_
  refine AWP.text ?_
  refine Wy (.d (.lit (.int .i64 0))) [] (Omv rfl) ?_
  refine Walk.nil ?_
  refine Then.normal ?_
  refine Amk 1 0 ⟨((.d (.lit (.int .u64 p0))) :: (tp 8 [])), [], 0⟩ ?_
  refine AWP.seq ?_
  refine AWP.text ?_
  refine Wy (.d (.lit (.int .u64 p0))) [] (Omv rfl) ?_
  obtain ⟨r4_0, hr4_0, hm⟩ := bnd hm
  refine Wy (.d (.lit (.int .i64 r4_0))) [] (Ocf [] [] [] 0 (ok_math_bits_Len64 p0 r4_0 hr4_0) (fun a w => Try.call65 a w) rfl trivial) ?_
  refine Wy (.d (.lit (.int .i64 (IntKind.i64.wrap (r4_0 + 7))))) [] (Obn rfl (fun _ => hb_add (k := .i64))) ?_
  refine Wy (.d (.lit (.int .i64 (IntKind.i64.wrap ((IntKind.i64.wrap (r4_0 + 7)) - 1))))) [] (Obn rfl (fun _ => hb_sub (k := .i64))) ?_
  refine Wy (.d (.lit (.int .i64 (IntKind.i64.wrap (Int.tdiv (IntKind.i64.wrap ((IntKind.i64.wrap (r4_0 + 7)) - 1)) 7))))) [] (Ocs (by kernel_rfl) (op_bin rfl (a1 := .int .i64 (IntKind.i64.wrap ((IntKind.i64.wrap (r4_0 + 7)) - 1))) (a2 := .int .i64 7) (by kernel_rfl) (by kernel_rfl) (fun _ => hb_quo (by decide)))) ?_
  refine Wy (.d (.lit (.int .i64 (max 1 (IntKind.i64.wrap (Int.tdiv (IntKind.i64.wrap ((IntKind.i64.wrap (r4_0 + 7)) - 1)) 7)))))) [] (op_bi2 rfl (a1 := .int .i64 1) (a2 := .int .i64 (IntKind.i64.wrap (Int.tdiv (IntKind.i64.wrap ((IntKind.i64.wrap (r4_0 + 7)) - 1)) 7))) (by kernel_rfl) (by kernel_rfl) hb_max) ?_
  refine Wy (.d (.lit (.int .i64 (max 1 (IntKind.i64.wrap (Int.tdiv (IntKind.i64.wrap ((IntKind.i64.wrap (r4_0 + 7)) - 1)) 7)))))) [] (Omv rfl) ?_
  refine Walk.nil ?_
  refine Then.normal ?_
  refine AWP.ret ?_
  obtain rfl := Option.some.inj hm
  exact ret_i []

set_option maxRecDepth 20000 in
set_option maxHeartbeats 4000000 in
theorem ok_zig_Put (p0 : (List UInt8)) (p1 : Int) (r : (List UInt8)) (h : m_zig_Put p0 p1 = some r) : GCall Try.prog 30 [(.d (.sl (List.length p0) (flatD encU8 p0))), (.d (.lit (.int .u64 p1)))] [] (.own 0) [(.arr 5 1 (List.length r) (flatD encU8 r))] := by
  refine GCall.of_body (n := 41) (rs := [(.tmp 4)]) Try.func30 rfl rfl rfl ?_
  refine Ato ⟨((.d (.sl (List.length p0) (flatD encU8 p0))) :: ((.d (.lit (.int .u64 p1))) :: (tu 39 []))), [], 0⟩ ?_
  have hm := h
  unfold m_zig_Put at hm
  refine AWP.seq ?_
  refine AWP.text ?_
  refine Wy (.d .nil) [] (Omv rfl) ?_
  refine Walk.nil ?_
  refine Then.normal ?_
  refine Amk 3 0 ⟨((.d (.sl (List.length p0) (flatD encU8 p0))) :: ((.d (.lit (.int .u64 p1))) :: (tp 39 []))), [], 0⟩ ?_
  refine AWP.seq ?_
  refine AWP.text ?_
  refine Wy (.d (.lit (.int .u64 p1))) [] (Omv rfl) ?_
  obtain ⟨r10_0, hr10_0, hm⟩ := bnd hm
  refine Wy (.d (.lit (.int .i64 r10_0))) [] (Ocf [] [] [] 0 (ok_zig_Size p1 r10_0 hr10_0) (fun a w => Try.call51 a w) rfl trivial) ?_
  refine Wy (.d (.lit (.int .i64 r10_0))) [] (Omv rfl) ?_
  refine Walk.nil ?_
  refine Then.normal ?_
  refine Amk 35 0 ⟨((.d (.sl (List.length p0) (flatD encU8 p0))) :: ((.d (.lit (.int .u64 p1))) :: (tp 3 ((.d (.lit (.int .i64 r10_0))) :: (tp 35 []))))), [], 0⟩ ?_
  refine AWP.seq ?_
  refine AWP.text ?_
  refine Wy (.d (.sl (List.length p0) (flatD encU8 p0))) [] (Omv rfl) ?_
  refine Wy (.d (.lit (.int .i64 ((List.length p0 : Nat) : Int)))) [] (Oln rfl) ?_
  refine Wy (.d (.lit (.int .i64 r10_0))) [] (Omv rfl) ?_
  refine Wy (.d (.lit (.int .i64 (IntKind.i64.wrap (((List.length p0 : Nat) : Int) + r10_0))))) [] (Obn rfl (fun _ => hb_add (k := .i64))) ?_
  obtain ⟨m15_1, hm15_1, hm⟩ := bnd hm; obtain ⟨hm15_1i, hm15_1j, hm15_1l, hm15_1k, hm15_1e⟩ := mkc_some hm15_1
  refine Wy (.own 0) [(0, (.arr 5 1 (List.length m15_1) (flatD encU8 m15_1)))] (OcB (op_makeC rfl elemOK_25 (by kernel_rfl) (kl := .i64) (kc := .i64) (L := 0) (C := (IntKind.i64.wrap (((List.length p0 : Nat) : Int) + r10_0))) (by kernel_rfl) (by kernel_rfl) (n := Int.toNat 0) (cp := Int.toNat (IntKind.i64.wrap (((List.length p0 : Nat) : Int) + r10_0))) hm15_1i hm15_1j hm15_1l (by omega) (by kernel_rfl)) (bl_one (by rw [hm15_1e]; simp) (by rw [hm15_1e]; exact (flat_rep (by kernel_rfl))))) ?_
  refine Wy (.own 0) [] (Omv rfl) ?_
  refine Walk.nil ?_
  refine Then.normal ?_
  refine Amk 99 1 ⟨((.d (.sl (List.length p0) (flatD encU8 p0))) :: ((.d (.lit (.int .u64 p1))) :: (tp 3 ((.d (.lit (.int .i64 r10_0))) :: ((.own 0) :: (tp 34 [])))))), [(.arr 5 1 (List.length m15_1) (flatD encU8 m15_1))], 0⟩ ?_
  refine AWP.seq ?_
  refine AWP.text ?_
  refine Wy (.own 0) [] (Omv rfl) ?_
  refine Wy (.d (.sl (List.length p0) (flatD encU8 p0))) [] (Omv rfl) ?_
  obtain ⟨a18_2, ha18_2, hm⟩ := bnd hm; obtain ⟨ha18_2e, ha18_2l⟩ := app_some ha18_2
  refine Wy (.own 1) [(0, .gone), (1, (.arr 5 1 (List.length a18_2) (flatD encU8 a18_2)))] (Oap rfl elemOK_25 encU8_len ha18_2e ha18_2l) ?_
  refine Wy (.own 1) [] (Omv rfl) ?_
  refine Walk.nil ?_
  refine Then.normal ?_
  refine Amk 98 2 ⟨(tp 1 ((.d (.lit (.int .u64 p1))) :: (tp 3 ((.d (.lit (.int .i64 r10_0))) :: ((.own 1) :: (tp 34 [])))))), [.gone, (.arr 5 1 (List.length a18_2) (flatD encU8 a18_2))], 0⟩ ?_
  refine AWP.seq ?_
  refine AWP.seq ?_
  refine AWP.text ?_
  refine Wy (.d (.lit (.int .i64 r10_0))) [] (Omv rfl) ?_
  refine Wy (.d (.lit (.int .i64 0))) [] (Omv rfl) ?_
  refine Walk.nil ?_
  refine Then.normal ?_
  refine Amk 1572962 2 ⟨(tp 1 ((.d (.lit (.int .u64 p1))) :: (tp 3 ((.d (.lit (.int .i64 r10_0))) :: ((.own 1) :: (tp 12 ((.d (.lit (.int .i64 r10_0))) :: ((.d (.lit (.int .i64 0))) :: (tp 20 []))))))))), [.gone, (.arr 5 1 (List.length a18_2) (flatD encU8 a18_2))], 0⟩ ?_
  refine AWP.block ?_
  refine AWP.loopI (α := Nat × (List UInt8) × Int)
    (fun x => match x with | (fu_3, y6_3, y20_3) => (⟨(tp 1 ((.d (.lit (.int .u64 p1))) :: (tp 3 ((.d (.lit (.int .i64 r10_0))) :: ((.own 0) :: (tp 12 ((.d (.lit (.int .i64 r10_0))) :: ((.d (.lit (.int .i64 y20_3))) :: (tp 20 []))))))))), [(.arr 5 1 (List.length y6_3) (flatD encU8 y6_3))], 0⟩ : St))
    (fun x => match x with | (fu_3, y6_3, y20_3) => m_zig_Put_l3 p1 r10_0 fu_3 y6_3 y20_3 = some r)
    (fun x => match x with | (fu_3, y6_3, y20_3) => fu_3) (1152921504606846976, a18_2, 0)
    (Weak.toK 1572962 0 0 [1]) hm ?_
  rintro ⟨fu_3, y6_3, y20_3⟩ n_3 hm ih_3
  try dsimp only at hm ih_3 ⊢
  cases fu_3 with
  | zero => exact absurd hm (by unfold m_zig_Put_l3; simp)
  | succ fu_3 =>
    unfold m_zig_Put_l3 at hm
    refine AWP.seq ?_
    refine AWP.text ?_
    refine Wy (.d (.lit (.bool (decide (y20_3 < r10_0))))) [] (Obn rfl (fun _ => hb_lss (k := .i64))) ?_
    refine Walk.nil ?_
    refine Then.normal ?_
    refine Amk 3670114 1 ⟨(tp 1 ((.d (.lit (.int .u64 p1))) :: (tp 3 ((.d (.lit (.int .i64 r10_0))) :: ((.own 0) :: (tp 12 ((.d (.lit (.int .i64 r10_0))) :: ((.d (.lit (.int .i64 y20_3))) :: ((.d (.lit (.bool (decide (y20_3 < r10_0))))) :: (tp 19 [])))))))))), [(.arr 5 1 (List.length y6_3) (flatD encU8 y6_3))], 0⟩ ?_
    refine AWP.seq ?_
    rcases tf_ (decide (y20_3 < r10_0)) with hc21_6 | hc21_6
    · replace hm := cT hc21_6 hm
      refine AWP.if_ true (Eq.trans (by kernel_rfl) (lit_tf (b := decide (y20_3 < r10_0)) hc21_6)) ?_
      refine AWP.skip ?_
      refine Then.normal ?_
      refine Amk 1572962 1 ⟨(tp 1 ((.d (.lit (.int .u64 p1))) :: (tp 3 ((.d (.lit (.int .i64 r10_0))) :: ((.own 0) :: (tp 12 ((.d (.lit (.int .i64 r10_0))) :: ((.d (.lit (.int .i64 y20_3))) :: (tp 20 []))))))))), [(.arr 5 1 (List.length y6_3) (flatD encU8 y6_3))], 0⟩ ?_
      refine AWP.seq ?_
      refine AWP.block ?_
      refine AWP.seq ?_
      refine AWP.text ?_
      refine Wy (.d (.lit (.int .i64 y20_3))) [] (Omv rfl) ?_
      refine Wy (.d (.lit (.int .i64 y20_3))) [] (Omv rfl) ?_
      refine Walk.nil ?_
      refine Then.normal ?_
      refine Amk 1573090 1 ⟨(tp 1 ((.d (.lit (.int .u64 p1))) :: (tp 3 ((.d (.lit (.int .i64 r10_0))) :: ((.own 0) :: ((.d (.lit (.int .i64 y20_3))) :: (tp 11 ((.d (.lit (.int .i64 r10_0))) :: ((.d (.lit (.int .i64 y20_3))) :: (tp 20 [])))))))))), [(.arr 5 1 (List.length y6_3) (flatD encU8 y6_3))], 0⟩ ?_
      refine AWP.seq ?_
      refine AWP.text ?_
      refine Wy (.d (.lit (.int .u64 p1))) [] (Omv rfl) ?_
      refine Wy (.d (.lit (.int .i64 y20_3))) [] (Omv rfl) ?_
      refine Wy (.d (.lit (.int .i64 (IntKind.i64.wrap (7 * y20_3))))) [] (Obn rfl (fun _ => hb_mul (k := .i64))) ?_
      obtain ⟨hs26_4, hm⟩ := chk_some hm
      refine Wy (.d (.lit (.int .u64 (Int.fdiv p1 (2 ^ (Int.toNat (IntKind.i64.wrap (7 * y20_3)))))))) [] (Ocs (by kernel_rfl) (op_bin rfl (a1 := .int .u64 p1) (a2 := .int .i64 (IntKind.i64.wrap (7 * y20_3))) (by kernel_rfl) (by kernel_rfl) (fun _ => hb_shr (n := (Int.toNat (IntKind.i64.wrap (7 * y20_3)))) (sh_le hs26_4.2) (sh_eq hs26_4.1)))) ?_
      refine Wy (.d (byteD (toU8 (Int.fdiv p1 (2 ^ (Int.toNat (IntKind.i64.wrap (7 * y20_3)))))))) [] (Ocs (lit_int (u8w _)) (op_convert rfl (a1 := .int .u64 (Int.fdiv p1 (2 ^ (Int.toNat (IntKind.i64.wrap (7 * y20_3)))))) (by kernel_rfl) (run_conv (ds := .int .u64) (k' := .u8) (by kernel_rfl) (by kernel_rfl)))) ?_
      obtain ⟨v28_4, hv28_4, hm⟩ := bnd hm; replace hv28_4 := Option.some.inj hv28_4
      refine Wy (.d (byteD v28_4)) [] (Ocs (Eq.trans (lit_int (u8w _)) (congrArg (fun z => A.d (byteD z)) hv28_4)) (op_bin rfl (a1 := .int .u8 (((toU8 (Int.fdiv p1 (2 ^ (Int.toNat (IntKind.i64.wrap (7 * y20_3)))))).toNat : Nat) : Int)) (a2 := .int .u8 128) (by kernel_rfl) (by kernel_rfl) (fun _ => hb_or))) ?_
      refine Wy (.d (byteD v28_4)) [] (Omv rfl) ?_
      refine Walk.nil ?_
      refine Then.normal ?_
      refine Amk 1573346 1 ⟨(tp 1 ((.d (.lit (.int .u64 p1))) :: (tp 3 ((.d (.lit (.int .i64 r10_0))) :: ((.own 0) :: ((.d (.lit (.int .i64 y20_3))) :: ((.d (byteD v28_4)) :: (tp 10 ((.d (.lit (.int .i64 r10_0))) :: ((.d (.lit (.int .i64 y20_3))) :: (tp 20 []))))))))))), [(.arr 5 1 (List.length y6_3) (flatD encU8 y6_3))], 0⟩ ?_
      refine AWP.cutJ (α := UInt8) (fun x => match x with | y8_5 => (⟨(tp 1 ((.d (.lit (.int .u64 p1))) :: (tp 3 ((.d (.lit (.int .i64 r10_0))) :: ((.own 0) :: (tp 1 ((.d (byteD y8_5)) :: (tp 10 ((.d (.lit (.int .i64 r10_0))) :: ((.d (.lit (.int .i64 y20_3))) :: (tp 20 []))))))))))), [(.arr 5 1 (List.length y6_3) (flatD encU8 y6_3))], 0⟩ : St)) (fun x => match x with | y8_5 => m_zig_Put_j5 y20_3 y6_3 (fun y6_3 y20_3 => m_zig_Put_l3 p1 r10_0 fu_3 y6_3 y20_3) y8_5 = some r) ?_ (fun J5 => ?_)
      · rintro y8_5 hm
        try dsimp only at hm ⊢
        unfold m_zig_Put_j5 at hm
        refine AWP.text ?_
        refine Wy (.own 0) [] (Omv rfl) ?_
        refine Wy (.d (byteD y8_5)) [] (Omv rfl) ?_
        refine Wy (.own 1) [(1, (.arr 5 1 (List.length ([y8_5] : List UInt8)) (flatD encU8 ([y8_5] : List UInt8))))] (Obs rfl) ?_
        obtain ⟨a38_5, ha38_5, hm⟩ := bnd hm; obtain ⟨ha38_5e, ha38_5l⟩ := app_some ha38_5
        refine Wy (.own 2) [(0, .gone), (2, (.arr 5 1 (List.length a38_5) (flatD encU8 a38_5)))] (Oap rfl elemOK_25 encU8_len ha38_5e ha38_5l) ?_
        refine Wy (.own 2) [] (Omv rfl) ?_
        refine Walk.nil ?_
        refine InBlock.normal ?_
        refine Then.normal ?_
        refine Amk 1572962 4 ⟨(tp 1 ((.d (.lit (.int .u64 p1))) :: (tp 3 ((.d (.lit (.int .i64 r10_0))) :: ((.own 2) :: (tp 12 ((.d (.lit (.int .i64 r10_0))) :: ((.d (.lit (.int .i64 y20_3))) :: (tp 20 []))))))))), [.gone, .gone, (.arr 5 1 (List.length a38_5) (flatD encU8 a38_5))], 0⟩ ?_
        refine AWP.text ?_
        refine Wy (.d (.lit (.int .i64 (IntKind.i64.wrap (y20_3 + 1))))) [] (Obn rfl (fun _ => hb_add (k := .i64))) ?_
        refine Wy (.d (.lit (.int .i64 (IntKind.i64.wrap (y20_3 + 1))))) [] (Omv rfl) ?_
        refine Walk.nil ?_
        refine RoundK.normal ?_
        exact Rounds.weak (Weak.toK 1572962 0 0 [2]) (ih_3 (fu_3, a38_5, (IntKind.i64.wrap (y20_3 + 1))) hm (Nat.lt_succ_self _))
      refine AWP.seq ?_
      refine AWP.seq ?_
      refine AWP.text ?_
      refine Wy (.d (.lit (.int .i64 y20_3))) [] (Omv rfl) ?_
      refine Wy (.d (.lit (.int .i64 r10_0))) [] (Omv rfl) ?_
      refine Wy (.d (.lit (.int .i64 (IntKind.i64.wrap (r10_0 - 1))))) [] (Obn rfl (fun _ => hb_sub (k := .i64))) ?_
      refine Wy (.d (.lit (.bool (decide (y20_3 = (IntKind.i64.wrap (r10_0 - 1))))))) [] (Obn rfl (fun _ => hb_eql (k := .i64))) ?_
      refine Walk.nil ?_
      refine Then.normal ?_
      refine Amk 4296540514 1 ⟨(tp 1 ((.d (.lit (.int .u64 p1))) :: (tp 3 ((.d (.lit (.int .i64 r10_0))) :: ((.own 0) :: (tp 1 ((.d (byteD v28_4)) :: (tp 10 ((.d (.lit (.int .i64 r10_0))) :: ((.d (.lit (.int .i64 y20_3))) :: (tp 11 ((.d (.lit (.bool (decide (y20_3 = (IntKind.i64.wrap (r10_0 - 1))))))) :: (tp 8 []))))))))))))), [(.arr 5 1 (List.length y6_3) (flatD encU8 y6_3))], 0⟩ ?_
      rcases tf_ (decide (y20_3 = (IntKind.i64.wrap (r10_0 - 1)))) with hc32_7 | hc32_7
      · replace hm := cT hc32_7 hm
        refine AWP.if_ true (Eq.trans (by kernel_rfl) (lit_tf (b := decide (y20_3 = (IntKind.i64.wrap (r10_0 - 1)))) hc32_7)) ?_
        refine AWP.text ?_
        refine Wy (.d (byteD v28_4)) [] (Omv rfl) ?_
        refine Wy (.d (byteD (toU8 (((BitVec.ofInt 8 ((v28_4.toNat : Nat) : Int) &&& ~~~ BitVec.ofInt 8 128).toNat : Int))))) [] (Ocs (lit_int (u8w _)) (op_bin rfl (a1 := .int .u8 ((v28_4.toNat : Nat) : Int)) (a2 := .int .u8 128) (by kernel_rfl) (by kernel_rfl) (fun _ => hb_andNot))) ?_
        refine Wy (.d (byteD (toU8 (((BitVec.ofInt 8 ((v28_4.toNat : Nat) : Int) &&& ~~~ BitVec.ofInt 8 128).toNat : Int))))) [] (Omv rfl) ?_
        refine Walk.nil ?_
        refine Then.normal ?_
        exact AWP.weak (Weak.toK 1573218 0 0 [0]) (J5 ((toU8 (((BitVec.ofInt 8 ((v28_4.toNat : Nat) : Int) &&& ~~~ BitVec.ofInt 8 128).toNat : Int)))) hm)
      · replace hm := cF hc32_7 hm
        refine AWP.if_ false (Eq.trans (by kernel_rfl) (lit_tf (b := decide (y20_3 = (IntKind.i64.wrap (r10_0 - 1)))) hc32_7)) ?_
        refine AWP.skip ?_
        refine Then.normal ?_
        exact AWP.weak (Weak.toK 1573218 0 0 [0]) (J5 (v28_4) hm)
    · replace hm := cF hc21_6 hm
      refine AWP.if_ false (Eq.trans (by kernel_rfl) (lit_tf (b := decide (y20_3 < r10_0)) hc21_6)) ?_
      refine AWP.exit ?_
      refine Then.exit ?_
      refine RoundK.exit ?_
      refine InBlock.same ?_
      refine Then.normal ?_
      refine Amk 64 1 ⟨(tp 6 ((.own 0) :: (tp 34 []))), [(.arr 5 1 (List.length y6_3) (flatD encU8 y6_3))], 0⟩ ?_
      refine AWP.seq ?_
      refine AWP.text ?_
      refine Wy (.own 0) [] (Omv rfl) ?_
      refine Wy (.own 0) [] (Omv rfl) ?_
      refine Walk.nil ?_
      refine Then.normal ?_
      refine AWP.ret ?_
      obtain rfl := Option.some.inj hm
      exact ret_i [0]

set_option maxRecDepth 20000 in
set_option maxHeartbeats 4000000 in
theorem ok_zig_PutInt (p0 : (List UInt8)) (p1 : Int) (r : (List UInt8)) (h : m_zig_PutInt p0 p1 = some r) : GCall Try.prog 28 [(.d (.sl (List.length p0) (flatD encU8 p0))), (.d (.lit (.int .i64 p1)))] [] (.own 0) [(.arr 5 1 (List.length r) (flatD encU8 r))] := by
  refine GCall.of_body (n := 9) (rs := [(.tmp 4)]) Try.func28 rfl rfl rfl ?_
  refine Ato ⟨((.d (.sl (List.length p0) (flatD encU8 p0))) :: ((.d (.lit (.int .i64 p1))) :: (tu 7 []))), [], 0⟩ ?_
  have hm := h
  unfold m_zig_PutInt at hm
  refine AWP.seq ?_
  refine AWP.text ?_
  refine Wy (.d .nil) [] (Omv rfl) ?_
  refine Walk.nil ?_
  refine Then.normal ?_
  refine Amk 3 0 ⟨((.d (.sl (List.length p0) (flatD encU8 p0))) :: ((.d (.lit (.int .i64 p1))) :: (tp 7 []))), [], 0⟩ ?_
  refine AWP.seq ?_
  refine AWP.text ?_
  refine Wy (.d (.sl (List.length p0) (flatD encU8 p0))) [] (Omv rfl) ?_
  refine Wy (.d (.lit (.int .i64 p1))) [] (Omv rfl) ?_
  obtain ⟨r7_0, hr7_0, hm⟩ := bnd hm
  refine Wy (.d (.lit (.int .u64 r7_0))) [] (Ocf [] [] [] 0 (ok_zig_Fold p1 r7_0 hr7_0) (fun a w => Try.call48 a w) rfl trivial) ?_
  obtain ⟨r8_0, hr8_0, hm⟩ := bnd hm
  refine Wy (.own 0) [(0, (.arr 5 1 (List.length r8_0) (flatD encU8 r8_0)))] (Ocf [] [0] [] 0 (ok_zig_Put p0 r7_0 r8_0 hr8_0) (fun a w => Try.call30 a w) rfl trivial) ?_
  refine Wy (.own 0) [] (Omv rfl) ?_
  refine Walk.nil ?_
  refine Then.normal ?_
  refine AWP.ret ?_
  obtain rfl := Option.some.inj hm
  exact ret_i [0]

set_option maxRecDepth 20000 in
set_option maxHeartbeats 4000000 in
theorem ok_octet_grown (p0 : (List UInt8)) (p1 : Int) (r : (List UInt8)) (h : m_octet_grown p0 p1 = some r) : GCall Try.prog 49 [(.d (.sl (List.length p0) (flatD encU8 p0))), (.d (.lit (.int .i64 p1)))] [] (.own 0) [(.arr 5 1 (List.length r) (flatD encU8 r))] := by
  refine GCall.of_body (n := 15) (rs := [(.tmp 4)]) Try.func49 rfl rfl rfl ?_
  refine Ato ⟨((.d (.sl (List.length p0) (flatD encU8 p0))) :: ((.d (.lit (.int .i64 p1))) :: (tu 13 []))), [], 0⟩ ?_
  have hm := h
  unfold m_octet_grown at hm
  refine AWP.seq ?_
  refine AWP.text ?_
  refine Wy (.d .nil) [] (Omv rfl) ?_
  refine Walk.nil ?_
  refine Then.normal ?_
  refine Amk 3 0 ⟨((.d (.sl (List.length p0) (flatD encU8 p0))) :: ((.d (.lit (.int .i64 p1))) :: (tp 13 []))), [], 0⟩ ?_
  refine AWP.seq ?_
  refine AWP.text ?_
  refine Wy (.d (.sl (List.length p0) (flatD encU8 p0))) [] (Omv rfl) ?_
  refine Wy (.d (.lit (.int .i64 ((List.length p0 : Nat) : Int)))) [] (Oln rfl) ?_
  refine Wy (.d (.lit (.int .i64 p1))) [] (Omv rfl) ?_
  refine Wy (.d (.lit (.int .i64 (IntKind.i64.wrap (((List.length p0 : Nat) : Int) + p1))))) [] (Obn rfl (fun _ => hb_add (k := .i64))) ?_
  obtain ⟨m10_0, hm10_0, hm⟩ := bnd hm; obtain ⟨hm10_0i, hm10_0l, hm10_0e⟩ := mk_some hm10_0
  refine Wy (.own 0) [(0, (.arr 5 1 (List.length m10_0) (flatD encU8 m10_0)))] (OcB (op_make rfl elemOK_25 (by kernel_rfl) (kl := .i64) (kc := .i64) (L := (IntKind.i64.wrap (((List.length p0 : Nat) : Int) + p1))) (C := (IntKind.i64.wrap (((List.length p0 : Nat) : Int) + p1))) (by kernel_rfl) (by kernel_rfl) (n := Int.toNat (IntKind.i64.wrap (((List.length p0 : Nat) : Int) + p1))) hm10_0i hm10_0i (by omega) (by kernel_rfl)) (bl_one (by rw [hm10_0e]; simp) (by rw [hm10_0e]; exact (flat_rep (by kernel_rfl))))) ?_
  refine Wy (.own 0) [] (Omv rfl) ?_
  refine Walk.nil ?_
  refine Then.normal ?_
  refine Amk 33 1 ⟨((.d (.sl (List.length p0) (flatD encU8 p0))) :: (tp 4 ((.own 0) :: (tp 9 [])))), [(.arr 5 1 (List.length m10_0) (flatD encU8 m10_0))], 0⟩ ?_
  refine AWP.seq ?_
  refine AWP.text ?_
  refine Wy (.own 0) [] (Omv rfl) ?_
  refine Wy (.d (.sl (List.length p0) (flatD encU8 p0))) [] (Omv rfl) ?_
  obtain ⟨c13_1, hc13_1, hm⟩ := bnd hm; obtain ⟨hc13_1e, hc13_1l⟩ := cpy_some hc13_1
  refine Wy (.d (.lit (.int .i64 ((List.length p0 : Nat) : Int)))) [(0, (.arr 5 1 (List.length c13_1) (flatD encU8 c13_1)))] (OcB (Ocs (by kernel_rfl) (op_copy rfl (e := 5) (sz := 1) (by kernel_rfl) (yd := (.own 0)) (by kernel_rfl) (id := 0) (off := 0) (dn := List.length m10_0) (by kernel_rfl) (n := List.length m10_0) (xs := flatD encU8 m10_0) (by kernel_rfl) (y := (.d (.sl (List.length p0) (flatD encU8 p0)))) (by kernel_rfl) (ds := flatD encU8 p0) (soff := 0) (k := List.length p0) (by kernel_rfl) (es := flatD encU8 p0) (flat_all encU8_len) (flatD_length encU8_len _) hc13_1l (cpy_fit encU8_len hc13_1l) (by decide))) (bl_one (cpy_len hc13_1e hc13_1l) (by rw [hc13_1e]; exact cpy_put encU8_len hc13_1l))) ?_
  refine Walk.nil ?_
  refine Then.normal ?_
  refine Amk 32 1 ⟨(tp 5 ((.own 0) :: (tp 9 []))), [(.arr 5 1 (List.length c13_1) (flatD encU8 c13_1))], 0⟩ ?_
  refine AWP.seq ?_
  refine AWP.text ?_
  refine Wy (.own 0) [] (Omv rfl) ?_
  refine Wy (.own 0) [] (Omv rfl) ?_
  refine Walk.nil ?_
  refine Then.normal ?_
  refine AWP.ret ?_
  obtain rfl := Option.some.inj hm
  exact ret_i [0]

set_option maxRecDepth 20000 in
set_option maxHeartbeats 4000000 in
theorem ok_octet_lay (p0 : (List UInt8)) (p1 : Int) (p2 : Int) (r : (List UInt8)) (h : m_octet_lay p0 p1 p2 = some r) : GCall Try.prog 50 [(.own 0), (.d (.lit (.int .i64 p1))), (.d (.lit (.int .u64 p2)))] [(.arr 5 1 (List.length p0) (flatD encU8 p0))] (.tup []) [(.arr 5 1 (List.length r) (flatD encU8 r))] := by
  refine GCall.of_body (n := 25) (rs := []) Try.func50 rfl rfl rfl ?_
  refine Ato ⟨((.own 0) :: ((.d (.lit (.int .i64 p1))) :: ((.d (.lit (.int .u64 p2))) :: (tu 22 [])))), [(.arr 5 1 (List.length p0) (flatD encU8 p0))], 1⟩ ?_
  have hm := h
  unfold m_octet_lay at hm
  refine AWP.seq ?_
  refine AWP.text ?_
  refine Wy (.own 0) [] (Omv rfl) ?_
  refine Wy (.d (.lit (.int .i64 ((List.length p0 : Nat) : Int)))) [] (Oln rfl) ?_
  refine Wy (.d (.lit (.int .i64 (IntKind.i64.wrap (((List.length p0 : Nat) : Int) - 1))))) [] (Obn rfl (fun _ => hb_sub (k := .i64))) ?_
  refine Wy (.d (.lit (.int .i64 (IntKind.i64.wrap (((List.length p0 : Nat) : Int) - 1))))) [] (Omv rfl) ?_
  refine Walk.nil ?_
  refine Then.normal ?_
  refine Amk 71 1 ⟨((.own 0) :: ((.d (.lit (.int .i64 p1))) :: ((.d (.lit (.int .u64 p2))) :: (tp 3 ((.d (.lit (.int .i64 (IntKind.i64.wrap (((List.length p0 : Nat) : Int) - 1))))) :: (tp 18 [])))))), [(.arr 5 1 (List.length p0) (flatD encU8 p0))], 1⟩ ?_
  refine AWP.block ?_
  refine AWP.loopI (α := Nat × (List UInt8) × Int × Int)
    (fun x => match x with | (fu_1, y0_1, y2_1, y6_1) => (⟨((.own 0) :: ((.d (.lit (.int .i64 p1))) :: ((.d (.lit (.int .u64 y2_1))) :: (tp 3 ((.d (.lit (.int .i64 y6_1))) :: (tp 18 [])))))), [(.arr 5 1 (List.length y0_1) (flatD encU8 y0_1))], 1⟩ : St))
    (fun x => match x with | (fu_1, y0_1, y2_1, y6_1) => m_octet_lay_l1 p1 fu_1 y0_1 y2_1 y6_1 = some r)
    (fun x => match x with | (fu_1, y0_1, y2_1, y6_1) => fu_1) (1152921504606846976, p0, p2, (IntKind.i64.wrap (((List.length p0 : Nat) : Int) - 1)))
    (Weak.toK 71 0 0 [0]) hm ?_
  rintro ⟨fu_1, y0_1, y2_1, y6_1⟩ n_1 hm ih_1
  try dsimp only at hm ih_1 ⊢
  cases fu_1 with
  | zero => exact absurd hm (by unfold m_octet_lay_l1; simp)
  | succ fu_1 =>
    unfold m_octet_lay_l1 at hm
    refine AWP.seq ?_
    refine AWP.seq ?_
    refine AWP.text ?_
    refine Wy (.d (.lit (.int .i64 y6_1))) [] (Omv rfl) ?_
    refine Wy (.own 0) [] (Omv rfl) ?_
    refine Wy (.d (.lit (.int .i64 ((List.length y0_1 : Nat) : Int)))) [] (Oln rfl) ?_
    refine Wy (.d (.lit (.int .i64 p1))) [] (Omv rfl) ?_
    refine Wy (.d (.lit (.int .i64 (IntKind.i64.wrap (((List.length y0_1 : Nat) : Int) - p1))))) [] (Obn rfl (fun _ => hb_sub (k := .i64))) ?_
    refine Wy (.d (.lit (.bool (decide ((IntKind.i64.wrap (((List.length y0_1 : Nat) : Int) - p1)) ≤ y6_1))))) [] (Obn rfl (fun _ => hb_geq (k := .i64))) ?_
    refine Walk.nil ?_
    refine Then.normal ?_
    refine Amk 32839 1 ⟨((.own 0) :: ((.d (.lit (.int .i64 p1))) :: ((.d (.lit (.int .u64 y2_1))) :: (tp 3 ((.d (.lit (.int .i64 y6_1))) :: (tp 8 ((.d (.lit (.bool (decide ((IntKind.i64.wrap (((List.length y0_1 : Nat) : Int) - p1)) ≤ y6_1))))) :: (tp 9 [])))))))), [(.arr 5 1 (List.length y0_1) (flatD encU8 y0_1))], 1⟩ ?_
    rcases tf_ (decide ((IntKind.i64.wrap (((List.length y0_1 : Nat) : Int) - p1)) ≤ y6_1)) with hc15_4 | hc15_4
    · replace hm := cT hc15_4 hm
      refine AWP.if_ true (Eq.trans (by kernel_rfl) (lit_tf (b := decide ((IntKind.i64.wrap (((List.length y0_1 : Nat) : Int) - p1)) ≤ y6_1)) hc15_4)) ?_
      refine AWP.skip ?_
      refine Then.normal ?_
      refine Amk 71 1 ⟨((.own 0) :: ((.d (.lit (.int .i64 p1))) :: ((.d (.lit (.int .u64 y2_1))) :: (tp 3 ((.d (.lit (.int .i64 y6_1))) :: (tp 18 [])))))), [(.arr 5 1 (List.length y0_1) (flatD encU8 y0_1))], 1⟩ ?_
      refine AWP.seq ?_
      refine AWP.block ?_
      refine AWP.seq ?_
      refine AWP.text ?_
      refine Wy (.own 0) [] (Omv rfl) ?_
      refine Wy (.d (.lit (.int .i64 y6_1))) [] (Omv rfl) ?_
      refine Wy (.d (.lit (.int .u64 y2_1))) [] (Omv rfl) ?_
      refine Wy (.d (byteD (toU8 y2_1))) [] (Ocs (lit_int (u8w _)) (op_convert rfl (a1 := .int .u64 y2_1) (by kernel_rfl) (run_conv (ds := .int .u64) (k' := .u8) (by kernel_rfl) (by kernel_rfl)))) ?_
      obtain ⟨x22_3, hx22_3, hm⟩ := bnd hm
      obtain ⟨hx22_3i, hx22_3g⟩ := geti_some hx22_3
      refine Wy (.loc 0 ((Int.toNat y6_1) * 1)) [] (Oia rfl encU8_len hx22_3i hx22_3g) ?_
      refine Wy (.tup []) [(0, (.arr 5 1 (List.length (List.set y0_1 (Int.toNat y6_1) (toU8 y2_1))) (flatD encU8 (List.set y0_1 (Int.toNat y6_1) (toU8 y2_1)))))] (Osr 0 rfl encU8_len hx22_3g (toU8 y2_1)) ?_
      refine Walk.nil ?_
      refine Then.normal ?_
      refine Amk 71 1 ⟨((.own 0) :: ((.d (.lit (.int .i64 p1))) :: ((.d (.lit (.int .u64 y2_1))) :: (tp 3 ((.d (.lit (.int .i64 y6_1))) :: (tp 18 [])))))), [(.arr 5 1 (List.length (List.set y0_1 (Int.toNat y6_1) (toU8 y2_1))) (flatD encU8 (List.set y0_1 (Int.toNat y6_1) (toU8 y2_1))))], 1⟩ ?_
      refine AWP.text ?_
      refine Wy (.d (.lit (.int .u64 y2_1))) [] (Omv rfl) ?_
      refine Wy (.d (.lit (.int .u64 (Int.fdiv y2_1 (2 ^ 8))))) [] (Ocs (by kernel_rfl) (op_bin rfl (a1 := .int .u64 y2_1) (a2 := .int .u64 8) (by kernel_rfl) (by kernel_rfl) (fun _ => hb_shr (n := 8) (by decide) rfl))) ?_
      refine Wy (.d (.lit (.int .u64 (Int.fdiv y2_1 (2 ^ 8))))) [] (Omv rfl) ?_
      refine Walk.nil ?_
      refine InBlock.normal ?_
      refine Then.normal ?_
      refine Amk 71 1 ⟨((.own 0) :: ((.d (.lit (.int .i64 p1))) :: ((.d (.lit (.int .u64 (Int.fdiv y2_1 (2 ^ 8))))) :: (tp 3 ((.d (.lit (.int .i64 y6_1))) :: (tp 18 [])))))), [(.arr 5 1 (List.length (List.set y0_1 (Int.toNat y6_1) (toU8 y2_1))) (flatD encU8 (List.set y0_1 (Int.toNat y6_1) (toU8 y2_1))))], 1⟩ ?_
      refine AWP.text ?_
      refine Wy (.d (.lit (.int .i64 y6_1))) [] (Omv rfl) ?_
      refine Wy (.d (.lit (.int .i64 (IntKind.i64.wrap (y6_1 - 1))))) [] (Obn rfl (fun _ => hb_sub (k := .i64))) ?_
      refine Wy (.d (.lit (.int .i64 (IntKind.i64.wrap (y6_1 - 1))))) [] (Omv rfl) ?_
      refine Walk.nil ?_
      refine RoundK.normal ?_
      exact Rounds.weak (Weak.toK 71 0 0 [0]) (ih_1 (fu_1, (List.set y0_1 (Int.toNat y6_1) (toU8 y2_1)), (Int.fdiv y2_1 (2 ^ 8)), (IntKind.i64.wrap (y6_1 - 1))) hm (Nat.lt_succ_self _))
    · replace hm := cF hc15_4 hm
      refine AWP.if_ false (Eq.trans (by kernel_rfl) (lit_tf (b := decide ((IntKind.i64.wrap (((List.length y0_1 : Nat) : Int) - p1)) ≤ y6_1)) hc15_4)) ?_
      refine AWP.exit ?_
      refine Then.exit ?_
      refine RoundK.exit ?_
      refine InBlock.same ?_
      obtain rfl := Option.some.inj hm
      exact ret_n [0]

set_option maxRecDepth 20000 in
set_option maxHeartbeats 4000000 in
theorem ok_octet_Word (p0 : (List UInt8)) (p1 : Int) (r : (List UInt8)) (h : m_octet_Word p0 p1 = some r) : GCall Try.prog 29 [(.d (.sl (List.length p0) (flatD encU8 p0))), (.d (.lit (.int .u64 p1)))] [] (.own 0) [(.arr 5 1 (List.length r) (flatD encU8 r))] := by
  refine GCall.of_body (n := 12) (rs := [(.tmp 4)]) Try.func29 rfl rfl rfl ?_
  refine Ato ⟨((.d (.sl (List.length p0) (flatD encU8 p0))) :: ((.d (.lit (.int .u64 p1))) :: (tu 10 []))), [], 0⟩ ?_
  have hm := h
  unfold m_octet_Word at hm
  refine AWP.seq ?_
  refine AWP.text ?_
  refine Wy (.d .nil) [] (Omv rfl) ?_
  refine Walk.nil ?_
  refine Then.normal ?_
  refine Amk 3 0 ⟨((.d (.sl (List.length p0) (flatD encU8 p0))) :: ((.d (.lit (.int .u64 p1))) :: (tp 10 []))), [], 0⟩ ?_
  refine AWP.seq ?_
  refine AWP.text ?_
  refine Wy (.d (.sl (List.length p0) (flatD encU8 p0))) [] (Omv rfl) ?_
  obtain ⟨r7_0, hr7_0, hm⟩ := bnd hm
  refine Wy (.own 0) [(0, (.arr 5 1 (List.length r7_0) (flatD encU8 r7_0)))] (Ocf [] [0] [] 0 (ok_octet_grown p0 8 r7_0 hr7_0) (fun a w => Try.call49 a w) rfl trivial) ?_
  refine Wy (.own 0) [] (Omv rfl) ?_
  refine Walk.nil ?_
  refine Then.normal ?_
  refine Amk 34 1 ⟨(tp 1 ((.d (.lit (.int .u64 p1))) :: (tp 3 ((.own 0) :: (tp 6 []))))), [(.arr 5 1 (List.length r7_0) (flatD encU8 r7_0))], 0⟩ ?_
  refine AWP.seq ?_
  refine AWP.text ?_
  refine Wy (.own 0) [] (Omv rfl) ?_
  refine Wy (.d (.lit (.int .u64 p1))) [] (Omv rfl) ?_
  obtain ⟨r10_1, hr10_1, hm⟩ := bnd hm
  refine Wy (.tup []) [(0, (.arr 5 1 (List.length r10_1) (flatD encU8 r10_1)))] (Ocf [0] [] [] 0 (ok_octet_lay r7_0 8 p1 r10_1 hr10_1) (fun a w => Try.call50 a w) rfl ⟨rfl, trivial⟩) ?_
  refine Walk.nil ?_
  refine Then.normal ?_
  refine Amk 32 1 ⟨(tp 5 ((.own 0) :: (tp 6 []))), [(.arr 5 1 (List.length r10_1) (flatD encU8 r10_1))], 0⟩ ?_
  refine AWP.seq ?_
  refine AWP.text ?_
  refine Wy (.own 0) [] (Omv rfl) ?_
  refine Wy (.own 0) [] (Omv rfl) ?_
  refine Walk.nil ?_
  refine Then.normal ?_
  refine AWP.ret ?_
  obtain rfl := Option.some.inj hm
  exact ret_i [0]

set_option maxRecDepth 20000 in
set_option maxHeartbeats 4000000 in
theorem ok_value_Put (p0 : (List UInt8)) (p1 : GValue) (r : ((List UInt8) × Int)) (h : m_value_Put p0 p1 = some r) : GCall Try.prog 10 [(.d (.sl (List.length p0) (flatD encU8 p0))), (.agg [(.d (byteD p1.Kind)), (.d (.lit (.int .i64 p1.N))), (.d (.lit (.int .u64 p1.Bits))), (.d (.lit (.string (toS p1.Text))))])] [] (.tup [(.own 0), (.d (.lit (.int .i64 r.2)))]) [(.arr 5 1 (List.length r.1) (flatD encU8 r.1))] := by
  refine GCall.of_body (n := 58) (rs := [(.tmp 4), (.tmp 5)]) Try.func10 rfl rfl rfl ?_
  refine Ato ⟨((.d (.sl (List.length p0) (flatD encU8 p0))) :: ((.agg [(.d (byteD p1.Kind)), (.d (.lit (.int .i64 p1.N))), (.d (.lit (.int .u64 p1.Bits))), (.d (.lit (.string (toS p1.Text))))]) :: (tu 56 []))), [], 0⟩ ?_
  have hm := h
  unfold m_value_Put at hm
  refine AWP.seq ?_
  refine AWP.text ?_
  refine Wy (.loc 0 0) [(0, (.box [(.d (byteD p1.Kind)), (.d (.lit (.int .i64 p1.N))), (.d (.lit (.int .u64 p1.Bits))), (.d (.lit (.string (toS p1.Text))))]))] (Obx rfl) ?_
  refine Wy (.d .nil) [] (Omv rfl) ?_
  refine Wy (.d (.lit (.int .i64 0))) [] (Omv rfl) ?_
  refine Walk.nil ?_
  refine Then.normal ?_
  refine Amk 9 1 ⟨((.d (.sl (List.length p0) (flatD encU8 p0))) :: (tp 2 ((.loc 0 0) :: (tp 54 [])))), [(.box [(.d (byteD p1.Kind)), (.d (.lit (.int .i64 p1.N))), (.d (.lit (.int .u64 p1.Bits))), (.d (.lit (.string (toS p1.Text))))])], 0⟩ ?_
  refine AWP.seq ?_
  refine AWP.seq ?_
  refine AWP.text ?_
  refine Wy (.agg [(.d (byteD p1.Kind)), (.d (.lit (.int .i64 p1.N))), (.d (.lit (.int .u64 p1.Bits))), (.d (.lit (.string (toS p1.Text))))]) [] (Old rfl) ?_
  obtain ⟨r9_0, hr9_0, hm⟩ := bnd hm
  refine Wy (.d (.lit (.int .i64 r9_0))) [] (Ocf [] [] [] 0 (ok_value_Check p1 r9_0 hr9_0) (fun a w => Try.call12 a w) rfl trivial) ?_
  refine Wy (.d (.lit (.int .i64 r9_0))) [] (Omv rfl) ?_
  refine Walk.nil ?_
  refine Then.normal ?_
  refine Amk 73 1 ⟨((.d (.sl (List.length p0) (flatD encU8 p0))) :: (tp 2 ((.loc 0 0) :: (tp 2 ((.d (.lit (.int .i64 r9_0))) :: (tp 51 [])))))), [(.box [(.d (byteD p1.Kind)), (.d (.lit (.int .i64 p1.N))), (.d (.lit (.int .u64 p1.Bits))), (.d (.lit (.string (toS p1.Text))))])], 0⟩ ?_
  refine AWP.seq ?_
  refine AWP.text ?_
  refine Wy (.d (.lit (.int .i64 r9_0))) [] (Omv rfl) ?_
  refine Wy (.d (.lit (.bool (decide (r9_0 ≠ 0))))) [] (Obn rfl (fun _ => hb_neq (k := .i64))) ?_
  refine Walk.nil ?_
  refine Then.normal ?_
  refine Amk 2121 1 ⟨((.d (.sl (List.length p0) (flatD encU8 p0))) :: (tp 2 ((.loc 0 0) :: (tp 2 ((.d (.lit (.int .i64 r9_0))) :: (tp 4 ((.d (.lit (.bool (decide (r9_0 ≠ 0))))) :: (tp 46 [])))))))), [(.box [(.d (byteD p1.Kind)), (.d (.lit (.int .i64 p1.N))), (.d (.lit (.int .u64 p1.Bits))), (.d (.lit (.string (toS p1.Text))))])], 0⟩ ?_
  rcases tf_ (decide (r9_0 ≠ 0)) with hc11_8 | hc11_8
  · replace hm := cT hc11_8 hm
    refine AWP.if_ true (Eq.trans (by kernel_rfl) (lit_tf (b := decide (r9_0 ≠ 0)) hc11_8)) ?_
    refine AWP.seq ?_
    refine AWP.text ?_
    refine Wy (.d (.lit (.int .i64 r9_0))) [] (Omv rfl) ?_
    refine Wy (.d .nil) [] (Omv rfl) ?_
    refine Wy (.d (.lit (.int .i64 r9_0))) [] (Omv rfl) ?_
    refine Walk.nil ?_
    refine Then.normal ?_
    refine Aow 4 5 1 ⟨((.d (.sl (List.length p0) (flatD encU8 p0))) :: (tp 2 ((.loc 0 0) :: ((.own 1) :: ((.d (.lit (.int .i64 r9_0))) :: ((.d (.lit (.int .i64 r9_0))) :: (tp 4 ((.d (.lit (.bool (decide (r9_0 ≠ 0))))) :: ((.d (.lit (.int .i64 r9_0))) :: (tp 45 [])))))))))), [(.box [(.d (byteD p1.Kind)), (.d (.lit (.int .i64 p1.N))), (.d (.lit (.int .u64 p1.Bits))), (.d (.lit (.string (toS p1.Text))))]), (.arr 5 1 (List.length ([] : List UInt8)) (flatD encU8 ([] : List UInt8)))], 0⟩ ?_
    refine AWP.ret ?_
    refine Then.ret ?_
    obtain rfl := Option.some.inj hm
    exact ret_i [1]
  · replace hm := cF hc11_8 hm
    refine AWP.if_ false (Eq.trans (by kernel_rfl) (lit_tf (b := decide (r9_0 ≠ 0)) hc11_8)) ?_
    refine AWP.skip ?_
    refine Then.normal ?_
    refine Amk 9 1 ⟨((.d (.sl (List.length p0) (flatD encU8 p0))) :: (tp 2 ((.loc 0 0) :: (tp 54 [])))), [(.box [(.d (byteD p1.Kind)), (.d (.lit (.int .i64 p1.N))), (.d (.lit (.int .u64 p1.Bits))), (.d (.lit (.string (toS p1.Text))))])], 0⟩ ?_
    refine AWP.seq ?_
    refine AWP.text ?_
    refine Wy (.d (.sl (List.length p0) (flatD encU8 p0))) [] (Omv rfl) ?_
    refine Wy (.d (.lit (.int .i64 ((List.length p0 : Nat) : Int)))) [] (Oln rfl) ?_
    refine Wy (.d (.sl (List.length p0) (flatD encU8 p0))) [] (Omv rfl) ?_
    refine Wy (.d (.lit (.int .i64 ((List.length p0 : Nat) : Int)))) [] (Oln rfl) ?_
    refine Wy (.d (.lit (.int .i64 (IntKind.i64.wrap (((List.length p0 : Nat) : Int) + 1))))) [] (Obn rfl (fun _ => hb_add (k := .i64))) ?_
    obtain ⟨m18_1, hm18_1, hm⟩ := bnd hm; obtain ⟨hm18_1i, hm18_1j, hm18_1l, hm18_1k, hm18_1e⟩ := mkc_some hm18_1
    refine Wy (.own 1) [(1, (.arr 5 1 (List.length m18_1) (flatD encU8 m18_1)))] (OcB (op_makeC rfl elemOK_25 (by kernel_rfl) (kl := .i64) (kc := .i64) (L := ((List.length p0 : Nat) : Int)) (C := (IntKind.i64.wrap (((List.length p0 : Nat) : Int) + 1))) (by kernel_rfl) (by kernel_rfl) (n := Int.toNat ((List.length p0 : Nat) : Int)) (cp := Int.toNat (IntKind.i64.wrap (((List.length p0 : Nat) : Int) + 1))) hm18_1i hm18_1j hm18_1l (by omega) (by kernel_rfl)) (bl_one (by rw [hm18_1e]; simp) (by rw [hm18_1e]; exact (flat_rep (by kernel_rfl))))) ?_
    refine Wy (.own 1) [] (Omv rfl) ?_
    refine Walk.nil ?_
    refine Then.normal ?_
    refine Amk 137 3 ⟨((.d (.sl (List.length p0) (flatD encU8 p0))) :: (tp 2 ((.loc 0 0) :: (tp 3 ((.own 1) :: (tp 50 [])))))), [(.box [(.d (byteD p1.Kind)), (.d (.lit (.int .i64 p1.N))), (.d (.lit (.int .u64 p1.Bits))), (.d (.lit (.string (toS p1.Text))))]), (.arr 5 1 (List.length m18_1) (flatD encU8 m18_1))], 0⟩ ?_
    refine AWP.seq ?_
    refine AWP.text ?_
    refine Wy (.own 1) [] (Omv rfl) ?_
    refine Wy (.d (.sl (List.length p0) (flatD encU8 p0))) [] (Omv rfl) ?_
    obtain ⟨c21_2, hc21_2, hm⟩ := bnd hm; obtain ⟨hc21_2e, hc21_2l⟩ := cpy_some hc21_2
    refine Wy (.d (.lit (.int .i64 ((List.length p0 : Nat) : Int)))) [(1, (.arr 5 1 (List.length c21_2) (flatD encU8 c21_2)))] (OcB (Ocs (by kernel_rfl) (op_copy rfl (e := 5) (sz := 1) (by kernel_rfl) (yd := (.own 1)) (by kernel_rfl) (id := 1) (off := 0) (dn := List.length m18_1) (by kernel_rfl) (n := List.length m18_1) (xs := flatD encU8 m18_1) (by kernel_rfl) (y := (.d (.sl (List.length p0) (flatD encU8 p0)))) (by kernel_rfl) (ds := flatD encU8 p0) (soff := 0) (k := List.length p0) (by kernel_rfl) (es := flatD encU8 p0) (flat_all encU8_len) (flatD_length encU8_len _) hc21_2l (cpy_fit encU8_len hc21_2l) (by decide))) (bl_one (cpy_len hc21_2e hc21_2l) (by rw [hc21_2e]; exact cpy_put encU8_len hc21_2l))) ?_
    refine Walk.nil ?_
    refine Then.normal ?_
    refine Amk 136 3 ⟨(tp 3 ((.loc 0 0) :: (tp 3 ((.own 1) :: (tp 50 []))))), [(.box [(.d (byteD p1.Kind)), (.d (.lit (.int .i64 p1.N))), (.d (.lit (.int .u64 p1.Bits))), (.d (.lit (.string (toS p1.Text))))]), (.arr 5 1 (List.length c21_2) (flatD encU8 c21_2))], 0⟩ ?_
    refine AWP.seq ?_
    refine AWP.text ?_
    refine Wy (.own 1) [] (Omv rfl) ?_
    refine Wy (.loc 0 0) [] (Ofa rfl) ?_
    refine Wy (.d (byteD p1.Kind)) [] (Old rfl) ?_
    refine Wy (.own 2) [(2, (.arr 5 1 (List.length ([p1.Kind] : List UInt8)) (flatD encU8 ([p1.Kind] : List UInt8))))] (Obs rfl) ?_
    obtain ⟨a26_3, ha26_3, hm⟩ := bnd hm; obtain ⟨ha26_3e, ha26_3l⟩ := app_some ha26_3
    refine Wy (.own 3) [(1, .gone), (3, (.arr 5 1 (List.length a26_3) (flatD encU8 a26_3)))] (Oap rfl elemOK_25 encU8_len ha26_3e ha26_3l) ?_
    refine Wy (.own 3) [] (Omv rfl) ?_
    refine Walk.nil ?_
    refine Then.normal ?_
    refine Amk 136 9 ⟨(tp 3 ((.loc 0 0) :: (tp 3 ((.own 3) :: (tp 50 []))))), [(.box [(.d (byteD p1.Kind)), (.d (.lit (.int .i64 p1.N))), (.d (.lit (.int .u64 p1.Bits))), (.d (.lit (.string (toS p1.Text))))]), .gone, .gone, (.arr 5 1 (List.length a26_3) (flatD encU8 a26_3))], 0⟩ ?_
    refine AWP.seq ?_
    refine AWP.seq ?_
    refine AWP.text ?_
    refine Wy (.loc 0 0) [] (Ofa rfl) ?_
    refine Wy (.d (byteD p1.Kind)) [] (Old rfl) ?_
    refine Walk.nil ?_
    refine Then.normal ?_
    refine Amk 268435592 9 ⟨(tp 3 ((.loc 0 0) :: (tp 3 ((.own 3) :: (tp 20 ((.d (byteD p1.Kind)) :: (tp 29 []))))))), [(.box [(.d (byteD p1.Kind)), (.d (.lit (.int .i64 p1.N))), (.d (.lit (.int .u64 p1.Bits))), (.d (.lit (.string (toS p1.Text))))]), .gone, .gone, (.arr 5 1 (List.length a26_3) (flatD encU8 a26_3))], 0⟩ ?_
    refine AWP.block ?_
    refine AWP.seq ?_
    refine AWP.text ?_
    refine Wy (.d (.lit (.bool (decide (((p1.Kind.toNat : Nat) : Int) = 1))))) [] (Ocs (by kernel_rfl) (op_bin rfl (a1 := .int .u8 ((p1.Kind.toNat : Nat) : Int)) (a2 := .int .u8 1) (by kernel_rfl) (by kernel_rfl) (fun _ => hb_eql))) ?_
    refine Wy (.d (.lit (.bool (decide (((p1.Kind.toNat : Nat) : Int) = 1))))) [] (Omv rfl) ?_
    refine Walk.nil ?_
    refine Then.normal ?_
    refine Amk 805306504 9 ⟨(tp 3 ((.loc 0 0) :: (tp 3 ((.own 3) :: (tp 20 ((.d (byteD p1.Kind)) :: ((.d (.lit (.bool (decide (((p1.Kind.toNat : Nat) : Int) = 1))))) :: (tp 28 [])))))))), [(.box [(.d (byteD p1.Kind)), (.d (.lit (.int .i64 p1.N))), (.d (.lit (.int .u64 p1.Bits))), (.d (.lit (.string (toS p1.Text))))]), .gone, .gone, (.arr 5 1 (List.length a26_3) (flatD encU8 a26_3))], 0⟩ ?_
    rcases tf_ (decide (((p1.Kind.toNat : Nat) : Int) = 1)) with hc29_9 | hc29_9
    · replace hm := cT hc29_9 hm
      refine AWP.if_ true (Eq.trans (by kernel_rfl) (lit_tf (b := decide (((p1.Kind.toNat : Nat) : Int) = 1)) hc29_9)) ?_
      refine AWP.seq ?_
      refine AWP.text ?_
      refine Wy (.own 3) [] (Omv rfl) ?_
      refine Wy (.loc 0 1) [] (Ofa rfl) ?_
      refine Wy (.d (.lit (.int .i64 p1.N))) [] (Old rfl) ?_
      obtain ⟨r34_4, hr34_4, hm⟩ := bnd hm
      refine Wy (.own 4) [(4, (.arr 5 1 (List.length r34_4) (flatD encU8 r34_4)))] (Ocp [] [4] [3] 0 (ok_zig_PutInt a26_3 p1.N r34_4 hr34_4) (⟨by simp [A.Plain, A.Plains, D.Plain, byteD], plain_cons (flat_plain encU8_plain) (plain_nil)⟩) (fun a w => Try.call28 a w) rfl trivial) ?_
      refine Wy (.own 4) [] (Omv rfl) ?_
      refine Wy (.d (.lit (.int .i64 0))) [] (Omv rfl) ?_
      refine Walk.nil ?_
      refine Then.normal ?_
      refine AWP.ret ?_
      refine InBlock.ret ?_
      refine Then.ret ?_
      obtain rfl := Option.some.inj hm
      exact ret_i [4]
    · replace hm := cF hc29_9 hm
      refine AWP.if_ false (Eq.trans (by kernel_rfl) (lit_tf (b := decide (((p1.Kind.toNat : Nat) : Int) = 1)) hc29_9)) ?_
      refine AWP.seq ?_
      refine AWP.text ?_
      refine Wy (.d (.lit (.bool (decide (((p1.Kind.toNat : Nat) : Int) = 2))))) [] (Ocs (by kernel_rfl) (op_bin rfl (a1 := .int .u8 ((p1.Kind.toNat : Nat) : Int)) (a2 := .int .u8 2) (by kernel_rfl) (by kernel_rfl) (fun _ => hb_eql))) ?_
      refine Wy (.d (.lit (.bool (decide (((p1.Kind.toNat : Nat) : Int) = 2))))) [] (Omv rfl) ?_
      refine Walk.nil ?_
      refine Then.normal ?_
      refine Amk 34628173960 9 ⟨(tp 3 ((.loc 0 0) :: (tp 3 ((.own 3) :: (tp 20 ((.d (byteD p1.Kind)) :: (tp 6 ((.d (.lit (.bool (decide (((p1.Kind.toNat : Nat) : Int) = 2))))) :: (tp 22 []))))))))), [(.box [(.d (byteD p1.Kind)), (.d (.lit (.int .i64 p1.N))), (.d (.lit (.int .u64 p1.Bits))), (.d (.lit (.string (toS p1.Text))))]), .gone, .gone, (.arr 5 1 (List.length a26_3) (flatD encU8 a26_3))], 0⟩ ?_
      rcases tf_ (decide (((p1.Kind.toNat : Nat) : Int) = 2)) with hc35_10 | hc35_10
      · replace hm := cT hc35_10 hm
        refine AWP.if_ true (Eq.trans (by kernel_rfl) (lit_tf (b := decide (((p1.Kind.toNat : Nat) : Int) = 2)) hc35_10)) ?_
        refine AWP.seq ?_
        refine AWP.text ?_
        refine Wy (.own 3) [] (Omv rfl) ?_
        refine Wy (.loc 0 1) [] (Ofa rfl) ?_
        refine Wy (.d (.lit (.int .i64 p1.N))) [] (Old rfl) ?_
        refine Wy (.d (byteD (toU8 p1.N))) [] (Ocs (lit_int (u8w _)) (op_convert rfl (a1 := .int .i64 p1.N) (by kernel_rfl) (run_conv (ds := .int .i64) (k' := .u8) (by kernel_rfl) (by kernel_rfl)))) ?_
        refine Wy (.own 4) [(4, (.arr 5 1 (List.length ([(toU8 p1.N)] : List UInt8)) (flatD encU8 ([(toU8 p1.N)] : List UInt8))))] (Obs rfl) ?_
        obtain ⟨a42_5, ha42_5, hm⟩ := bnd hm; obtain ⟨ha42_5e, ha42_5l⟩ := app_some ha42_5
        refine Wy (.own 5) [(3, .gone), (5, (.arr 5 1 (List.length a42_5) (flatD encU8 a42_5)))] (Oap rfl elemOK_25 encU8_len ha42_5e ha42_5l) ?_
        refine Wy (.own 5) [] (Omv rfl) ?_
        refine Wy (.d (.lit (.int .i64 0))) [] (Omv rfl) ?_
        refine Walk.nil ?_
        refine Then.normal ?_
        refine AWP.ret ?_
        refine InBlock.ret ?_
        refine Then.ret ?_
        obtain rfl := Option.some.inj hm
        exact ret_i [5]
      · replace hm := cF hc35_10 hm
        refine AWP.if_ false (Eq.trans (by kernel_rfl) (lit_tf (b := decide (((p1.Kind.toNat : Nat) : Int) = 2)) hc35_10)) ?_
        refine AWP.seq ?_
        refine AWP.text ?_
        refine Wy (.d (.lit (.bool (decide (((p1.Kind.toNat : Nat) : Int) = 3))))) [] (Ocs (by kernel_rfl) (op_bin rfl (a1 := .int .u8 ((p1.Kind.toNat : Nat) : Int)) (a2 := .int .u8 3) (by kernel_rfl) (by kernel_rfl) (fun _ => hb_eql))) ?_
        refine Wy (.d (.lit (.bool (decide (((p1.Kind.toNat : Nat) : Int) = 3))))) [] (Omv rfl) ?_
        refine Walk.nil ?_
        refine Then.normal ?_
        refine Amk 8796093022344 9 ⟨(tp 3 ((.loc 0 0) :: (tp 3 ((.own 3) :: (tp 35 ((.d (.lit (.bool (decide (((p1.Kind.toNat : Nat) : Int) = 3))))) :: (tp 14 []))))))), [(.box [(.d (byteD p1.Kind)), (.d (.lit (.int .i64 p1.N))), (.d (.lit (.int .u64 p1.Bits))), (.d (.lit (.string (toS p1.Text))))]), .gone, .gone, (.arr 5 1 (List.length a26_3) (flatD encU8 a26_3))], 0⟩ ?_
        rcases tf_ (decide (((p1.Kind.toNat : Nat) : Int) = 3)) with hc43_11 | hc43_11
        · replace hm := cT hc43_11 hm
          refine AWP.if_ true (Eq.trans (by kernel_rfl) (lit_tf (b := decide (((p1.Kind.toNat : Nat) : Int) = 3)) hc43_11)) ?_
          refine AWP.seq ?_
          refine AWP.text ?_
          refine Wy (.own 3) [] (Omv rfl) ?_
          refine Wy (.loc 0 2) [] (Ofa rfl) ?_
          refine Wy (.d (.lit (.int .u64 p1.Bits))) [] (Old rfl) ?_
          obtain ⟨r48_6, hr48_6, hm⟩ := bnd hm
          refine Wy (.own 4) [(4, (.arr 5 1 (List.length r48_6) (flatD encU8 r48_6)))] (Ocp [] [4] [3] 0 (ok_octet_Word a26_3 p1.Bits r48_6 hr48_6) (⟨by simp [A.Plain, A.Plains, D.Plain, byteD], plain_cons (flat_plain encU8_plain) (plain_nil)⟩) (fun a w => Try.call29 a w) rfl trivial) ?_
          refine Wy (.own 4) [] (Omv rfl) ?_
          refine Wy (.d (.lit (.int .i64 0))) [] (Omv rfl) ?_
          refine Walk.nil ?_
          refine Then.normal ?_
          refine AWP.ret ?_
          refine InBlock.ret ?_
          refine Then.ret ?_
          obtain rfl := Option.some.inj hm
          exact ret_i [4]
        · replace hm := cF hc43_11 hm
          refine AWP.if_ false (Eq.trans (by kernel_rfl) (lit_tf (b := decide (((p1.Kind.toNat : Nat) : Int) = 3)) hc43_11)) ?_
          refine AWP.skip ?_
          refine InBlock.normal ?_
          refine Then.normal ?_
          refine Amk 136 9 ⟨(tp 3 ((.loc 0 0) :: (tp 3 ((.own 3) :: (tp 50 []))))), [(.box [(.d (byteD p1.Kind)), (.d (.lit (.int .i64 p1.N))), (.d (.lit (.int .u64 p1.Bits))), (.d (.lit (.string (toS p1.Text))))]), .gone, .gone, (.arr 5 1 (List.length a26_3) (flatD encU8 a26_3))], 0⟩ ?_
          refine AWP.seq ?_
          refine Adr ?_
          refine Wy (.own 3) [] (Omv rfl) ?_
          refine Wy (.loc 0 3) [] (Ofa rfl) ?_
          refine Wy (.d (.lit (.string (toS p1.Text)))) [] (Old rfl) ?_
          refine Wy (.d (.lit (.int .i64 ((List.length p1.Text : Nat) : Int)))) [] (Oln rfl) ?_
          refine Wy (.d (.lit (.int .u64 (IntKind.u64.wrap ((List.length p1.Text : Nat) : Int))))) [] (Ocs (by kernel_rfl) (op_convert rfl (a1 := .int .i64 ((List.length p1.Text : Nat) : Int)) (by kernel_rfl) (run_conv (ds := .int .i64) (k' := .u64) (by kernel_rfl) (by kernel_rfl)))) ?_
          obtain ⟨r54_7, hr54_7, hm⟩ := bnd hm
          refine Wy (.own 4) [(4, (.arr 5 1 (List.length r54_7) (flatD encU8 r54_7)))] (Ocp [] [4] [3] 0 (ok_zig_Put a26_3 (IntKind.u64.wrap ((List.length p1.Text : Nat) : Int)) r54_7 hr54_7) (⟨by simp [A.Plain, A.Plains, D.Plain, byteD], plain_cons (flat_plain encU8_plain) (plain_nil)⟩) (fun a w => Try.call30 a w) rfl trivial) ?_
          refine Wy (.loc 0 3) [] (Ofa rfl) ?_
          refine Wy (.d (.lit (.string (toS p1.Text)))) [] (Old rfl) ?_
          obtain ⟨a57_7, ha57_7, hm⟩ := bnd hm; obtain ⟨ha57_7e, ha57_7l⟩ := app_some ha57_7
          refine Wy (.own 5) [(4, .gone), (5, (.arr 5 1 (List.length a57_7) (flatD encU8 a57_7)))] (OcB (op_appendStr rfl elemOK_25 (by kernel_rfl) (id := 4) (by kernel_rfl) (n := List.length r54_7) (xs := flatD encU8 r54_7) (by kernel_rfl) (str := toS p1.Text) (by kernel_rfl) (app_str ha57_7l) (by kernel_rfl) (by decide)) (bl_app (by rw [ha57_7e, List.length_append]; rfl) (by rw [ha57_7e, flatD_append, flatU8 p1.Text]; rfl))) ?_
          refine Wy (.own 5) [] (Omv rfl) ?_
          refine Wy (.d (.lit (.int .i64 0))) [] (Omv rfl) ?_
          refine Wdr ?_
          refine Then.normal ?_
          refine AWP.ret ?_
          obtain rfl := Option.some.inj hm
          exact ret_i [5]

set_option maxRecDepth 20000 in
set_option maxHeartbeats 4000000 in
theorem ok_zig_Take (p0 : (List UInt8)) (p1 : Int) (r : (Int × Int × Int)) (h : m_zig_Take p0 p1 = some r) : GCall Try.prog 63 [(.d (.lit (.string (toS p0)))), (.d (.lit (.int .i64 p1)))] [] (.tup [(.d (.lit (.int .u64 r.1))), (.d (.lit (.int .i64 r.2.1))), (.d (.lit (.int .i64 r.2.2)))]) [] := by
  refine GCall.of_body (n := 59) (rs := [(.tmp 4), (.tmp 5), (.tmp 6)]) Try.func63 rfl rfl rfl ?_
  refine Ato ⟨((.d (.lit (.string (toS p0)))) :: ((.d (.lit (.int .i64 p1))) :: (tu 57 []))), [], 0⟩ ?_
  have hm := h
  unfold m_zig_Take at hm
  refine AWP.seq ?_
  refine AWP.text ?_
  refine Wy (.d (.lit (.int .u64 0))) [] (Omv rfl) ?_
  refine Wy (.d (.lit (.int .i64 0))) [] (Omv rfl) ?_
  refine Wy (.d (.lit (.int .i64 0))) [] (Omv rfl) ?_
  refine Walk.nil ?_
  refine Then.normal ?_
  refine Amk 19 0 ⟨((.d (.lit (.string (toS p0)))) :: ((.d (.lit (.int .i64 p1))) :: (tp 2 ((.d (.lit (.int .u64 0))) :: (tp 54 []))))), [], 0⟩ ?_
  refine AWP.seq ?_
  refine AWP.seq ?_
  refine AWP.text ?_
  refine Wy (.d (.lit (.int .i64 p1))) [] (Omv rfl) ?_
  refine Wy (.d (.lit (.bool (decide (p1 < 0))))) [] (Obn rfl (fun _ => hb_lss (k := .i64))) ?_
  rcases tf_ (decide (p1 < 0)) with hq11_0 | hq11_0
  · replace hm := cT hq11_0 hm
    refine Wy (.d (.lit (.bool true))) [] (Ocs (lit_tf (b := decide (p1 < 0)) hq11_0) (Omv rfl)) ?_
    refine Wn ?_
    refine Wn ?_
    refine Wn ?_
    refine Wn ?_
    refine Wy (.d (.lit (.bool true))) [] (OpT rfl) ?_
    refine Walk.nil ?_
    refine Then.normal ?_
    refine Amk 65555 0 ⟨((.d (.lit (.string (toS p0)))) :: ((.d (.lit (.int .i64 p1))) :: (tp 2 ((.d (.lit (.int .u64 0))) :: (tp 11 ((.d (.lit (.bool true))) :: (tp 42 []))))))), [], 0⟩ ?_
    refine AWP.if_ true (by kernel_rfl) ?_
    refine AWP.seq ?_
    refine AWP.text ?_
    refine Wy (.d (.lit (.int .u64 0))) [] (Omv rfl) ?_
    refine Wy (.d (.lit (.int .i64 0))) [] (Omv rfl) ?_
    refine Wy (.d (.lit (.int .i64 2))) [] (Omv rfl) ?_
    refine Walk.nil ?_
    refine Then.normal ?_
    refine AWP.ret ?_
    refine Then.ret ?_
    obtain rfl := Option.some.inj hm
    exact ret_i []
  · replace hm := cF hq11_0 hm
    refine Wy (.d (.lit (.bool false))) [] (Ocs (lit_tf (b := decide (p1 < 0)) hq11_0) (Omv rfl)) ?_
    refine Wy (.d (.lit (.int .i64 p1))) [] (Omv rfl) ?_
    refine Wy (.d (.lit (.string (toS p0)))) [] (Omv rfl) ?_
    refine Wy (.d (.lit (.int .i64 ((List.length p0 : Nat) : Int)))) [] (Oln rfl) ?_
    refine Wy (.d (.lit (.bool (decide (((List.length p0 : Nat) : Int) < p1))))) [] (Obn rfl (fun _ => hb_gtr (k := .i64))) ?_
    refine Wy (.d (.lit (.bool (decide (((List.length p0 : Nat) : Int) < p1))))) [] (OpF rfl) ?_
    refine Walk.nil ?_
    refine Then.normal ?_
    refine Amk 65555 0 ⟨((.d (.lit (.string (toS p0)))) :: ((.d (.lit (.int .i64 p1))) :: (tp 2 ((.d (.lit (.int .u64 0))) :: (tp 11 ((.d (.lit (.bool (decide (((List.length p0 : Nat) : Int) < p1))))) :: (tp 42 []))))))), [], 0⟩ ?_
    rcases tf_ (decide (((List.length p0 : Nat) : Int) < p1)) with hc16_9 | hc16_9
    · replace hm := cT hc16_9 hm
      refine AWP.if_ true (Eq.trans (by kernel_rfl) (lit_tf (b := decide (((List.length p0 : Nat) : Int) < p1)) hc16_9)) ?_
      refine AWP.seq ?_
      refine AWP.text ?_
      refine Wy (.d (.lit (.int .u64 0))) [] (Omv rfl) ?_
      refine Wy (.d (.lit (.int .i64 0))) [] (Omv rfl) ?_
      refine Wy (.d (.lit (.int .i64 2))) [] (Omv rfl) ?_
      refine Walk.nil ?_
      refine Then.normal ?_
      refine AWP.ret ?_
      refine Then.ret ?_
      obtain rfl := Option.some.inj hm
      exact ret_i []
    · replace hm := cF hc16_9 hm
      refine AWP.if_ false (Eq.trans (by kernel_rfl) (lit_tf (b := decide (((List.length p0 : Nat) : Int) < p1)) hc16_9)) ?_
      refine AWP.skip ?_
      refine Then.normal ?_
      refine Amk 19 0 ⟨((.d (.lit (.string (toS p0)))) :: ((.d (.lit (.int .i64 p1))) :: (tp 2 ((.d (.lit (.int .u64 0))) :: (tp 54 []))))), [], 0⟩ ?_
      refine AWP.seq ?_
      refine AWP.seq ?_
      refine AWP.text ?_
      refine Wy (.d (.lit (.int .i64 0))) [] (Omv rfl) ?_
      refine Walk.nil ?_
      refine Then.normal ?_
      refine Amk 131091 0 ⟨((.d (.lit (.string (toS p0)))) :: ((.d (.lit (.int .i64 p1))) :: (tp 2 ((.d (.lit (.int .u64 0))) :: (tp 12 ((.d (.lit (.int .i64 0))) :: (tp 41 []))))))), [], 0⟩ ?_
      refine AWP.block ?_
      refine AWP.loopI (α := Nat × Int × Int)
        (fun x => match x with | (fu_1, y4_1, y17_1) => (⟨((.d (.lit (.string (toS p0)))) :: ((.d (.lit (.int .i64 p1))) :: (tp 2 ((.d (.lit (.int .u64 y4_1))) :: (tp 12 ((.d (.lit (.int .i64 y17_1))) :: (tp 41 []))))))), [], 0⟩ : St))
        (fun x => match x with | (fu_1, y4_1, y17_1) => m_zig_Take_l1 p0 p1 fu_1 y4_1 y17_1 = some r)
        (fun x => match x with | (fu_1, y4_1, y17_1) => fu_1) (1152921504606846976, 0, 0)
        (Weak.toK 131091 0 0 []) hm ?_
      rintro ⟨fu_1, y4_1, y17_1⟩ n_1 hm ih_1
      try dsimp only at hm ih_1 ⊢
      cases fu_1 with
      | zero => exact absurd hm (by unfold m_zig_Take_l1; simp)
      | succ fu_1 =>
        unfold m_zig_Take_l1 at hm
        refine AWP.seq ?_
        refine AWP.text ?_
        refine Wy (.d (.lit (.bool (decide (y17_1 < 10))))) [] (Obn rfl (fun _ => hb_lss (k := .i64))) ?_
        refine Walk.nil ?_
        refine Then.normal ?_
        refine Amk 393235 0 ⟨((.d (.lit (.string (toS p0)))) :: ((.d (.lit (.int .i64 p1))) :: (tp 2 ((.d (.lit (.int .u64 y4_1))) :: (tp 12 ((.d (.lit (.int .i64 y17_1))) :: ((.d (.lit (.bool (decide (y17_1 < 10))))) :: (tp 40 [])))))))), [], 0⟩ ?_
        refine AWP.seq ?_
        rcases tf_ (decide (y17_1 < 10)) with hc18_10 | hc18_10
        · replace hm := cT hc18_10 hm
          refine AWP.if_ true (Eq.trans (by kernel_rfl) (lit_tf (b := decide (y17_1 < 10)) hc18_10)) ?_
          refine AWP.skip ?_
          refine Then.normal ?_
          refine Amk 131091 0 ⟨((.d (.lit (.string (toS p0)))) :: ((.d (.lit (.int .i64 p1))) :: (tp 2 ((.d (.lit (.int .u64 y4_1))) :: (tp 12 ((.d (.lit (.int .i64 y17_1))) :: (tp 41 []))))))), [], 0⟩ ?_
          refine AWP.seq ?_
          refine AWP.block ?_
          refine AWP.seq ?_
          refine AWP.text ?_
          refine Wy (.d (.lit (.int .i64 y17_1))) [] (Omv rfl) ?_
          refine Wy (.d (.lit (.int .i64 y17_1))) [] (Omv rfl) ?_
          refine Walk.nil ?_
          refine Then.normal ?_
          refine Amk 131219 0 ⟨((.d (.lit (.string (toS p0)))) :: ((.d (.lit (.int .i64 p1))) :: (tp 2 ((.d (.lit (.int .u64 y4_1))) :: (tp 2 ((.d (.lit (.int .i64 y17_1))) :: (tp 9 ((.d (.lit (.int .i64 y17_1))) :: (tp 41 []))))))))), [], 0⟩ ?_
          refine AWP.seq ?_
          refine AWP.seq ?_
          refine AWP.text ?_
          refine Wy (.d (.lit (.int .i64 p1))) [] (Omv rfl) ?_
          refine Wy (.d (.lit (.int .i64 y17_1))) [] (Omv rfl) ?_
          refine Wy (.d (.lit (.int .i64 (IntKind.i64.wrap (p1 + y17_1))))) [] (Obn rfl (fun _ => hb_add (k := .i64))) ?_
          refine Wy (.d (.lit (.string (toS p0)))) [] (Omv rfl) ?_
          refine Wy (.d (.lit (.int .i64 ((List.length p0 : Nat) : Int)))) [] (Oln rfl) ?_
          refine Wy (.d (.lit (.bool (decide (((List.length p0 : Nat) : Int) ≤ (IntKind.i64.wrap (p1 + y17_1))))))) [] (Obn rfl (fun _ => hb_geq (k := .i64))) ?_
          refine Walk.nil ?_
          refine Then.normal ?_
          refine Amk 33685651 0 ⟨((.d (.lit (.string (toS p0)))) :: ((.d (.lit (.int .i64 p1))) :: (tp 2 ((.d (.lit (.int .u64 y4_1))) :: (tp 2 ((.d (.lit (.int .i64 y17_1))) :: (tp 9 ((.d (.lit (.int .i64 y17_1))) :: (tp 7 ((.d (.lit (.bool (decide (((List.length p0 : Nat) : Int) ≤ (IntKind.i64.wrap (p1 + y17_1))))))) :: (tp 33 []))))))))))), [], 0⟩ ?_
          rcases tf_ (decide (((List.length p0 : Nat) : Int) ≤ (IntKind.i64.wrap (p1 + y17_1)))) with hc25_11 | hc25_11
          · replace hm := cT hc25_11 hm
            refine AWP.if_ true (Eq.trans (by kernel_rfl) (lit_tf (b := decide (((List.length p0 : Nat) : Int) ≤ (IntKind.i64.wrap (p1 + y17_1)))) hc25_11)) ?_
            refine AWP.seq ?_
            refine AWP.text ?_
            refine Wy (.d (.lit (.int .u64 0))) [] (Omv rfl) ?_
            refine Wy (.d (.lit (.int .i64 0))) [] (Omv rfl) ?_
            refine Wy (.d (.lit (.int .i64 3))) [] (Omv rfl) ?_
            refine Walk.nil ?_
            refine Then.normal ?_
            refine AWP.ret ?_
            refine Then.ret ?_
            refine InBlock.ret ?_
            refine Then.ret ?_
            refine RoundK.ret ?_
            refine InBlock.ret ?_
            refine Then.ret ?_
            obtain rfl := Option.some.inj hm
            exact ret_i []
          · replace hm := cF hc25_11 hm
            refine AWP.if_ false (Eq.trans (by kernel_rfl) (lit_tf (b := decide (((List.length p0 : Nat) : Int) ≤ (IntKind.i64.wrap (p1 + y17_1)))) hc25_11)) ?_
            refine AWP.skip ?_
            refine Then.normal ?_
            refine Amk 131219 0 ⟨((.d (.lit (.string (toS p0)))) :: ((.d (.lit (.int .i64 p1))) :: (tp 2 ((.d (.lit (.int .u64 y4_1))) :: (tp 2 ((.d (.lit (.int .i64 y17_1))) :: (tp 9 ((.d (.lit (.int .i64 y17_1))) :: (tp 41 []))))))))), [], 0⟩ ?_
            refine AWP.seq ?_
            refine AWP.text ?_
            refine Wy (.d (.lit (.string (toS p0)))) [] (Omv rfl) ?_
            refine Wy (.d (.lit (.int .i64 p1))) [] (Omv rfl) ?_
            refine Wy (.d (.lit (.int .i64 y17_1))) [] (Omv rfl) ?_
            refine Wy (.d (.lit (.int .i64 (IntKind.i64.wrap (p1 + y17_1))))) [] (Obn rfl (fun _ => hb_add (k := .i64))) ?_
            obtain ⟨x30_3, hx30_3, hm⟩ := bnd hm
            obtain ⟨hx30_3i, hx30_3g⟩ := geti_some hx30_3
            refine Wy (.d (byteD x30_3)) [] (Ocs (by kernel_rfl) (op_index_str rfl (by kernel_rfl) (s := toS p0) (by kernel_rfl) (k := .i64) (iv := (IntKind.i64.wrap (p1 + y17_1))) (by kernel_rfl) (i := (Int.toNat (IntKind.i64.wrap (p1 + y17_1)))) (hx30_3i) (b := x30_3) (hx30_3g))) ?_
            refine Wy (.d (byteD x30_3)) [] (Omv rfl) ?_
            refine Walk.nil ?_
            refine Then.normal ?_
            refine Amk 131475 0 ⟨((.d (.lit (.string (toS p0)))) :: ((.d (.lit (.int .i64 p1))) :: (tp 2 ((.d (.lit (.int .u64 y4_1))) :: (tp 2 ((.d (.lit (.int .i64 y17_1))) :: ((.d (byteD x30_3)) :: (tp 8 ((.d (.lit (.int .i64 y17_1))) :: (tp 41 [])))))))))), [], 0⟩ ?_
            refine AWP.cutJ (α := Unit) (fun x => match x with | () => (⟨((.d (.lit (.string (toS p0)))) :: ((.d (.lit (.int .i64 p1))) :: (tp 2 ((.d (.lit (.int .u64 y4_1))) :: (tp 2 ((.d (.lit (.int .i64 y17_1))) :: ((.d (byteD x30_3)) :: (tp 8 ((.d (.lit (.int .i64 y17_1))) :: (tp 41 [])))))))))), [], 0⟩ : St)) (fun x => match x with | () => m_zig_Take_j6 p1 x30_3 y17_1 y4_1 (fun y4_1 y17_1 => m_zig_Take_l1 p0 p1 fu_1 y4_1 y17_1) = some r) ?_ (fun J6 => ?_)
            · rintro ⟨⟩ hm
              try dsimp only at hm ⊢
              unfold m_zig_Take_j6 at hm
              refine AWP.cutJ (α := Unit) (fun x => match x with | () => (⟨((.d (.lit (.string (toS p0)))) :: ((.d (.lit (.int .i64 p1))) :: (tp 2 ((.d (.lit (.int .u64 y4_1))) :: (tp 2 ((.d (.lit (.int .i64 y17_1))) :: ((.d (byteD x30_3)) :: (tp 8 ((.d (.lit (.int .i64 y17_1))) :: (tp 41 [])))))))))), [], 0⟩ : St)) (fun x => match x with | () => m_zig_Take_j8 p1 x30_3 y17_1 y4_1 (fun y4_1 y17_1 => m_zig_Take_l1 p0 p1 fu_1 y4_1 y17_1) = some r) ?_ (fun J8 => ?_)
              · rintro ⟨⟩ hm
                try dsimp only at hm ⊢
                unfold m_zig_Take_j8 at hm
                refine AWP.seq ?_
                refine AWP.text ?_
                refine Wy (.d (.lit (.int .u64 y4_1))) [] (Omv rfl) ?_
                refine Wy (.d (byteD x30_3)) [] (Omv rfl) ?_
                refine Wy (.d (byteD (toU8 (((BitVec.ofInt 8 ((x30_3.toNat : Nat) : Int) &&& ~~~ BitVec.ofInt 8 128).toNat : Int))))) [] (Ocs (lit_int (u8w _)) (op_bin rfl (a1 := .int .u8 ((x30_3.toNat : Nat) : Int)) (a2 := .int .u8 128) (by kernel_rfl) (by kernel_rfl) (fun _ => hb_andNot))) ?_
                obtain ⟨v46_4, hv46_4, hm⟩ := bnd hm; replace hv46_4 := Option.some.inj hv46_4
                refine Wy (.d (.lit (.int .u64 v46_4))) [] (Ocs (Eq.trans (lit_int (wrap_of_u8 (by decide) _)) (congrArg (fun z => A.d (.lit (.int .u64 z))) hv46_4)) (op_convert rfl (a1 := .int .u8 (((toU8 (((BitVec.ofInt 8 ((x30_3.toNat : Nat) : Int) &&& ~~~ BitVec.ofInt 8 128).toNat : Int))).toNat : Nat) : Int)) (by kernel_rfl) (run_conv (ds := .int .u8) (k' := .u64) (by kernel_rfl) (by kernel_rfl)))) ?_
                refine Wy (.d (.lit (.int .i64 y17_1))) [] (Omv rfl) ?_
                refine Wy (.d (.lit (.int .i64 (IntKind.i64.wrap (7 * y17_1))))) [] (Obn rfl (fun _ => hb_mul (k := .i64))) ?_
                obtain ⟨hs49_4, hm⟩ := chk_some hm
                refine Wy (.d (.lit (.int .u64 (IntKind.u64.wrap (v46_4 * 2 ^ (Int.toNat (IntKind.i64.wrap (7 * y17_1)))))))) [] (Ocs (by kernel_rfl) (op_bin rfl (a1 := .int .u64 v46_4) (a2 := .int .i64 (IntKind.i64.wrap (7 * y17_1))) (by kernel_rfl) (by kernel_rfl) (fun _ => hb_shl (n := (Int.toNat (IntKind.i64.wrap (7 * y17_1)))) (sh_le hs49_4.2) (sh_eq hs49_4.1)))) ?_
                obtain ⟨v50_4, hv50_4, hm⟩ := bnd hm; replace hv50_4 := Option.some.inj hv50_4
                refine Wy (.d (.lit (.int .u64 v50_4))) [] (Ocs (Eq.trans (by kernel_rfl) (congrArg (fun z => A.d (.lit (.int .u64 z))) hv50_4)) (op_bin rfl (a1 := .int .u64 y4_1) (a2 := .int .u64 (IntKind.u64.wrap (v46_4 * 2 ^ (Int.toNat (IntKind.i64.wrap (7 * y17_1)))))) (by kernel_rfl) (by kernel_rfl) (fun _ => hb_or))) ?_
                refine Wy (.d (.lit (.int .u64 v50_4))) [] (Omv rfl) ?_
                refine Walk.nil ?_
                refine Then.normal ?_
                refine Amk 131475 0 ⟨((.d (.lit (.string (toS p0)))) :: ((.d (.lit (.int .i64 p1))) :: (tp 2 ((.d (.lit (.int .u64 v50_4))) :: (tp 2 ((.d (.lit (.int .i64 y17_1))) :: ((.d (byteD x30_3)) :: (tp 8 ((.d (.lit (.int .i64 y17_1))) :: (tp 41 [])))))))))), [], 0⟩ ?_
                refine AWP.seq ?_
                refine AWP.text ?_
                refine Wy (.d (byteD x30_3)) [] (Omv rfl) ?_
                refine Wy (.d (.lit (.bool (decide (((x30_3.toNat : Nat) : Int) < 128))))) [] (Ocs (by kernel_rfl) (op_bin rfl (a1 := .int .u8 ((x30_3.toNat : Nat) : Int)) (a2 := .int .u8 128) (by kernel_rfl) (by kernel_rfl) (fun _ => hb_lss))) ?_
                refine Walk.nil ?_
                refine Then.normal ?_
                refine Amk 4503599627501715 0 ⟨((.d (.lit (.string (toS p0)))) :: ((.d (.lit (.int .i64 p1))) :: (tp 2 ((.d (.lit (.int .u64 v50_4))) :: (tp 2 ((.d (.lit (.int .i64 y17_1))) :: (tp 9 ((.d (.lit (.int .i64 y17_1))) :: (tp 34 ((.d (.lit (.bool (decide (((x30_3.toNat : Nat) : Int) < 128))))) :: (tp 6 []))))))))))), [], 0⟩ ?_
                rcases tf_ (decide (((x30_3.toNat : Nat) : Int) < 128)) with hc52_12 | hc52_12
                · replace hm := cT hc52_12 hm
                  refine AWP.if_ true (Eq.trans (by kernel_rfl) (lit_tf (b := decide (((x30_3.toNat : Nat) : Int) < 128)) hc52_12)) ?_
                  refine AWP.seq ?_
                  refine AWP.text ?_
                  refine Wy (.d (.lit (.int .u64 v50_4))) [] (Omv rfl) ?_
                  refine Wy (.d (.lit (.int .i64 p1))) [] (Omv rfl) ?_
                  refine Wy (.d (.lit (.int .i64 y17_1))) [] (Omv rfl) ?_
                  refine Wy (.d (.lit (.int .i64 (IntKind.i64.wrap (p1 + y17_1))))) [] (Obn rfl (fun _ => hb_add (k := .i64))) ?_
                  refine Wy (.d (.lit (.int .i64 (IntKind.i64.wrap ((IntKind.i64.wrap (p1 + y17_1)) + 1))))) [] (Obn rfl (fun _ => hb_add (k := .i64))) ?_
                  refine Wy (.d (.lit (.int .u64 v50_4))) [] (Omv rfl) ?_
                  refine Wy (.d (.lit (.int .i64 (IntKind.i64.wrap ((IntKind.i64.wrap (p1 + y17_1)) + 1))))) [] (Omv rfl) ?_
                  refine Wy (.d (.lit (.int .i64 0))) [] (Omv rfl) ?_
                  refine Walk.nil ?_
                  refine Then.normal ?_
                  refine AWP.ret ?_
                  refine InBlock.ret ?_
                  refine Then.ret ?_
                  refine RoundK.ret ?_
                  refine InBlock.ret ?_
                  refine Then.ret ?_
                  obtain rfl := Option.some.inj hm
                  exact ret_i []
                · replace hm := cF hc52_12 hm
                  refine AWP.if_ false (Eq.trans (by kernel_rfl) (lit_tf (b := decide (((x30_3.toNat : Nat) : Int) < 128)) hc52_12)) ?_
                  refine AWP.skip ?_
                  refine InBlock.normal ?_
                  refine Then.normal ?_
                  refine Amk 131091 0 ⟨((.d (.lit (.string (toS p0)))) :: ((.d (.lit (.int .i64 p1))) :: (tp 2 ((.d (.lit (.int .u64 v50_4))) :: (tp 12 ((.d (.lit (.int .i64 y17_1))) :: (tp 41 []))))))), [], 0⟩ ?_
                  refine AWP.text ?_
                  refine Wy (.d (.lit (.int .i64 (IntKind.i64.wrap (y17_1 + 1))))) [] (Obn rfl (fun _ => hb_add (k := .i64))) ?_
                  refine Wy (.d (.lit (.int .i64 (IntKind.i64.wrap (y17_1 + 1))))) [] (Omv rfl) ?_
                  refine Walk.nil ?_
                  refine RoundK.normal ?_
                  exact Rounds.weak (Weak.toK 131091 0 0 []) (ih_1 (fu_1, v50_4, (IntKind.i64.wrap (y17_1 + 1))) hm (Nat.lt_succ_self _))
              refine AWP.seq ?_
              refine AWP.seq ?_
              refine AWP.text ?_
              refine Wy (.d (.lit (.int .i64 y17_1))) [] (Omv rfl) ?_
              refine Wy (.d (.lit (.bool (decide ((0 : Int) < y17_1))))) [] (Obn rfl (fun _ => hb_gtr (k := .i64))) ?_
              rcases tf_ (decide ((0 : Int) < y17_1)) with hq39_7 | hq39_7
              · replace hm := cT hq39_7 hm
                refine Wy (.d (.lit (.bool true))) [] (Ocs (lit_tf (b := decide ((0 : Int) < y17_1)) hq39_7) (Omv rfl)) ?_
                refine Wy (.d (byteD x30_3)) [] (Omv rfl) ?_
                refine Wy (.d (.lit (.bool (decide (((x30_3.toNat : Nat) : Int) = 0))))) [] (Ocs (by kernel_rfl) (op_bin rfl (a1 := .int .u8 ((x30_3.toNat : Nat) : Int)) (a2 := .int .u8 0) (by kernel_rfl) (by kernel_rfl) (fun _ => hb_eql))) ?_
                refine Wy (.d (.lit (.bool (decide (((x30_3.toNat : Nat) : Int) = 0))))) [] (OpT rfl) ?_
                refine Walk.nil ?_
                refine Then.normal ?_
                refine Amk 4398046642579 0 ⟨((.d (.lit (.string (toS p0)))) :: ((.d (.lit (.int .i64 p1))) :: (tp 2 ((.d (.lit (.int .u64 y4_1))) :: (tp 2 ((.d (.lit (.int .i64 y17_1))) :: ((.d (byteD x30_3)) :: (tp 8 ((.d (.lit (.int .i64 y17_1))) :: (tp 24 ((.d (.lit (.bool (decide (((x30_3.toNat : Nat) : Int) = 0))))) :: (tp 16 [])))))))))))), [], 0⟩ ?_
                rcases tf_ (decide (((x30_3.toNat : Nat) : Int) = 0)) with hc42_13 | hc42_13
                · replace hm := cT hc42_13 hm
                  refine AWP.if_ true (Eq.trans (by kernel_rfl) (lit_tf (b := decide (((x30_3.toNat : Nat) : Int) = 0)) hc42_13)) ?_
                  refine AWP.seq ?_
                  refine AWP.text ?_
                  refine Wy (.d (.lit (.int .u64 0))) [] (Omv rfl) ?_
                  refine Wy (.d (.lit (.int .i64 0))) [] (Omv rfl) ?_
                  refine Wy (.d (.lit (.int .i64 4))) [] (Omv rfl) ?_
                  refine Walk.nil ?_
                  refine Then.normal ?_
                  refine AWP.ret ?_
                  refine Then.ret ?_
                  refine InBlock.ret ?_
                  refine Then.ret ?_
                  refine RoundK.ret ?_
                  refine InBlock.ret ?_
                  refine Then.ret ?_
                  obtain rfl := Option.some.inj hm
                  exact ret_i []
                · replace hm := cF hc42_13 hm
                  refine AWP.if_ false (Eq.trans (by kernel_rfl) (lit_tf (b := decide (((x30_3.toNat : Nat) : Int) = 0)) hc42_13)) ?_
                  refine AWP.skip ?_
                  refine Then.normal ?_
                  exact AWP.weak (Weak.toK 131475 0 0 []) (J8 () hm)
              · replace hm := cF hq39_7 hm
                refine Wy (.d (.lit (.bool false))) [] (Ocs (lit_tf (b := decide ((0 : Int) < y17_1)) hq39_7) (Omv rfl)) ?_
                refine Wn ?_
                refine Wn ?_
                refine Wy (.d (.lit (.bool false))) [] (OpF rfl) ?_
                refine Walk.nil ?_
                refine Then.normal ?_
                refine Amk 4398046642579 0 ⟨((.d (.lit (.string (toS p0)))) :: ((.d (.lit (.int .i64 p1))) :: (tp 2 ((.d (.lit (.int .u64 y4_1))) :: (tp 2 ((.d (.lit (.int .i64 y17_1))) :: ((.d (byteD x30_3)) :: (tp 8 ((.d (.lit (.int .i64 y17_1))) :: (tp 24 ((.d (.lit (.bool false))) :: (tp 16 [])))))))))))), [], 0⟩ ?_
                refine AWP.if_ false (by kernel_rfl) ?_
                refine AWP.skip ?_
                refine Then.normal ?_
                exact AWP.weak (Weak.toK 131475 0 0 []) (J8 () hm)
            refine AWP.seq ?_
            refine AWP.seq ?_
            refine AWP.text ?_
            refine Wy (.d (.lit (.int .i64 y17_1))) [] (Omv rfl) ?_
            refine Wy (.d (.lit (.bool (decide (y17_1 = 9))))) [] (Obn rfl (fun _ => hb_eql (k := .i64))) ?_
            rcases tf_ (decide (y17_1 = 9)) with hq33_5 | hq33_5
            · replace hm := cT hq33_5 hm
              refine Wy (.d (.lit (.bool true))) [] (Ocs (lit_tf (b := decide (y17_1 = 9)) hq33_5) (Omv rfl)) ?_
              refine Wy (.d (byteD x30_3)) [] (Omv rfl) ?_
              refine Wy (.d (.lit (.bool (decide ((1 : Int) < ((x30_3.toNat : Nat) : Int)))))) [] (Ocs (by kernel_rfl) (op_bin rfl (a1 := .int .u8 ((x30_3.toNat : Nat) : Int)) (a2 := .int .u8 1) (by kernel_rfl) (by kernel_rfl) (fun _ => hb_gtr))) ?_
              refine Wy (.d (.lit (.bool (decide ((1 : Int) < ((x30_3.toNat : Nat) : Int)))))) [] (OpT rfl) ?_
              refine Walk.nil ?_
              refine Then.normal ?_
              refine Amk 68719608211 0 ⟨((.d (.lit (.string (toS p0)))) :: ((.d (.lit (.int .i64 p1))) :: (tp 2 ((.d (.lit (.int .u64 y4_1))) :: (tp 2 ((.d (.lit (.int .i64 y17_1))) :: ((.d (byteD x30_3)) :: (tp 8 ((.d (.lit (.int .i64 y17_1))) :: (tp 18 ((.d (.lit (.bool (decide ((1 : Int) < ((x30_3.toNat : Nat) : Int)))))) :: (tp 22 [])))))))))))), [], 0⟩ ?_
              rcases tf_ (decide ((1 : Int) < ((x30_3.toNat : Nat) : Int))) with hc36_14 | hc36_14
              · replace hm := cT hc36_14 hm
                refine AWP.if_ true (Eq.trans (by kernel_rfl) (lit_tf (b := decide ((1 : Int) < ((x30_3.toNat : Nat) : Int))) hc36_14)) ?_
                refine AWP.seq ?_
                refine AWP.text ?_
                refine Wy (.d (.lit (.int .u64 0))) [] (Omv rfl) ?_
                refine Wy (.d (.lit (.int .i64 0))) [] (Omv rfl) ?_
                refine Wy (.d (.lit (.int .i64 8))) [] (Omv rfl) ?_
                refine Walk.nil ?_
                refine Then.normal ?_
                refine AWP.ret ?_
                refine Then.ret ?_
                refine InBlock.ret ?_
                refine Then.ret ?_
                refine RoundK.ret ?_
                refine InBlock.ret ?_
                refine Then.ret ?_
                obtain rfl := Option.some.inj hm
                exact ret_i []
              · replace hm := cF hc36_14 hm
                refine AWP.if_ false (Eq.trans (by kernel_rfl) (lit_tf (b := decide ((1 : Int) < ((x30_3.toNat : Nat) : Int))) hc36_14)) ?_
                refine AWP.skip ?_
                refine Then.normal ?_
                exact AWP.weak (Weak.toK 131475 0 0 []) (J6 () hm)
            · replace hm := cF hq33_5 hm
              refine Wy (.d (.lit (.bool false))) [] (Ocs (lit_tf (b := decide (y17_1 = 9)) hq33_5) (Omv rfl)) ?_
              refine Wn ?_
              refine Wn ?_
              refine Wy (.d (.lit (.bool false))) [] (OpF rfl) ?_
              refine Walk.nil ?_
              refine Then.normal ?_
              refine Amk 68719608211 0 ⟨((.d (.lit (.string (toS p0)))) :: ((.d (.lit (.int .i64 p1))) :: (tp 2 ((.d (.lit (.int .u64 y4_1))) :: (tp 2 ((.d (.lit (.int .i64 y17_1))) :: ((.d (byteD x30_3)) :: (tp 8 ((.d (.lit (.int .i64 y17_1))) :: (tp 18 ((.d (.lit (.bool false))) :: (tp 22 [])))))))))))), [], 0⟩ ?_
              refine AWP.if_ false (by kernel_rfl) ?_
              refine AWP.skip ?_
              refine Then.normal ?_
              exact AWP.weak (Weak.toK 131475 0 0 []) (J6 () hm)
        · replace hm := cF hc18_10 hm
          refine AWP.if_ false (Eq.trans (by kernel_rfl) (lit_tf (b := decide (y17_1 < 10)) hc18_10)) ?_
          refine AWP.exit ?_
          refine Then.exit ?_
          refine RoundK.exit ?_
          refine InBlock.same ?_
          refine Then.normal ?_
          refine Amk 0 0 ⟨(tp 59 []), [], 0⟩ ?_
          refine AWP.seq ?_
          refine AWP.text ?_
          refine Wy (.d (.lit (.int .u64 0))) [] (Omv rfl) ?_
          refine Wy (.d (.lit (.int .i64 0))) [] (Omv rfl) ?_
          refine Wy (.d (.lit (.int .i64 8))) [] (Omv rfl) ?_
          refine Walk.nil ?_
          refine Then.normal ?_
          refine AWP.ret ?_
          obtain rfl := Option.some.inj hm
          exact ret_i []

set_option maxRecDepth 20000 in
set_option maxHeartbeats 4000000 in
theorem ok_zig_Back (p0 : Int) (r : Int) (h : m_zig_Back p0 = some r) : GCall Try.prog 69 [(.d (.lit (.int .u64 p0)))] [] (.d (.lit (.int .i64 r))) [] := by
  refine GCall.of_body (n := 11) (rs := [(.tmp 2)]) Try.func69 rfl rfl rfl ?_
  refine Ato ⟨((.d (.lit (.int .u64 p0))) :: (tu 10 [])), [], 0⟩ ?_
  have hm := h
  unfold m_zig_Back at hm
  refine AWP.seq ?_
  refine AWP.text ?_
  refine Wy (.d (.lit (.int .i64 0))) [] (Omv rfl) ?_
  refine Walk.nil ?_
  refine Then.normal ?_
  refine Amk 1 0 ⟨((.d (.lit (.int .u64 p0))) :: (tp 10 [])), [], 0⟩ ?_
  refine AWP.seq ?_
  refine AWP.text ?_
  refine Wy (.d (.lit (.int .u64 p0))) [] (Omv rfl) ?_
  refine Wy (.d (.lit (.int .u64 (Int.fdiv p0 (2 ^ 1))))) [] (Ocs (by kernel_rfl) (op_bin rfl (a1 := .int .u64 p0) (a2 := .int .u64 1) (by kernel_rfl) (by kernel_rfl) (fun _ => hb_shr (n := 1) (by decide) rfl))) ?_
  refine Wy (.d (.lit (.int .i64 (IntKind.i64.wrap (Int.fdiv p0 (2 ^ 1)))))) [] (Ocs (by kernel_rfl) (op_convert rfl (a1 := .int .u64 (Int.fdiv p0 (2 ^ 1))) (by kernel_rfl) (run_conv (ds := .int .u64) (k' := .i64) (by kernel_rfl) (by kernel_rfl)))) ?_
  refine Wy (.d (.lit (.int .u64 p0))) [] (Omv rfl) ?_
  refine Wy (.d (.lit (.int .u64 (IntKind.u64.wrap (((BitVec.ofInt 64 p0 &&& BitVec.ofInt 64 1).toNat : Int)))))) [] (Ocs (by kernel_rfl) (op_bin rfl (a1 := .int .u64 p0) (a2 := .int .u64 1) (by kernel_rfl) (by kernel_rfl) (fun _ => hb_and))) ?_
  refine Wy (.d (.lit (.int .i64 (IntKind.i64.wrap (IntKind.u64.wrap (((BitVec.ofInt 64 p0 &&& BitVec.ofInt 64 1).toNat : Int))))))) [] (Ocs (by kernel_rfl) (op_convert rfl (a1 := .int .u64 (IntKind.u64.wrap (((BitVec.ofInt 64 p0 &&& BitVec.ofInt 64 1).toNat : Int)))) (by kernel_rfl) (run_conv (ds := .int .u64) (k' := .i64) (by kernel_rfl) (by kernel_rfl)))) ?_
  obtain ⟨v9_0, hv9_0, hm⟩ := bnd hm; replace hv9_0 := Option.some.inj hv9_0
  refine Wy (.d (.lit (.int .i64 v9_0))) [] (Ocs (Eq.trans (by kernel_rfl) (congrArg (fun z => A.d (.lit (.int .i64 z))) hv9_0)) (op_un rfl (a1 := .int .i64 (IntKind.i64.wrap (IntKind.u64.wrap (((BitVec.ofInt 64 p0 &&& BitVec.ofInt 64 1).toNat : Int))))) (by kernel_rfl) (fun _ => hu_neg))) ?_
  obtain ⟨v10_0, hv10_0, hm⟩ := bnd hm; replace hv10_0 := Option.some.inj hv10_0
  refine Wy (.d (.lit (.int .i64 v10_0))) [] (Ocs (Eq.trans (by kernel_rfl) (congrArg (fun z => A.d (.lit (.int .i64 z))) hv10_0)) (op_bin rfl (a1 := .int .i64 (IntKind.i64.wrap (Int.fdiv p0 (2 ^ 1)))) (a2 := .int .i64 v9_0) (by kernel_rfl) (by kernel_rfl) (fun _ => hb_xor))) ?_
  refine Wy (.d (.lit (.int .i64 v10_0))) [] (Omv rfl) ?_
  refine Walk.nil ?_
  refine Then.normal ?_
  refine AWP.ret ?_
  obtain rfl := Option.some.inj hm
  exact ret_i []

set_option maxRecDepth 20000 in
set_option maxHeartbeats 4000000 in
theorem ok_zig_TakeInt (p0 : (List UInt8)) (p1 : Int) (r : (Int × Int × Int)) (h : m_zig_TakeInt p0 p1 = some r) : GCall Try.prog 60 [(.d (.lit (.string (toS p0)))), (.d (.lit (.int .i64 p1)))] [] (.tup [(.d (.lit (.int .i64 r.1))), (.d (.lit (.int .i64 r.2.1))), (.d (.lit (.int .i64 r.2.2)))]) [] := by
  refine GCall.of_body (n := 19) (rs := [(.tmp 4), (.tmp 5), (.tmp 6)]) Try.func60 rfl rfl rfl ?_
  refine Ato ⟨((.d (.lit (.string (toS p0)))) :: ((.d (.lit (.int .i64 p1))) :: (tu 17 []))), [], 0⟩ ?_
  have hm := h
  unfold m_zig_TakeInt at hm
  refine AWP.seq ?_
  refine AWP.text ?_
  refine Wy (.d (.lit (.int .i64 0))) [] (Omv rfl) ?_
  refine Wy (.d (.lit (.int .i64 0))) [] (Omv rfl) ?_
  refine Wy (.d (.lit (.int .i64 0))) [] (Omv rfl) ?_
  refine Walk.nil ?_
  refine Then.normal ?_
  refine Amk 3 0 ⟨((.d (.lit (.string (toS p0)))) :: ((.d (.lit (.int .i64 p1))) :: (tp 17 []))), [], 0⟩ ?_
  refine AWP.seq ?_
  refine AWP.text ?_
  refine Wy (.d (.lit (.string (toS p0)))) [] (Omv rfl) ?_
  refine Wy (.d (.lit (.int .i64 p1))) [] (Omv rfl) ?_
  obtain ⟨r11_0, hr11_0, hm⟩ := bnd hm
  refine Wy (.tup [(.d (.lit (.int .u64 r11_0.1))), (.d (.lit (.int .i64 r11_0.2.1))), (.d (.lit (.int .i64 r11_0.2.2)))]) [] (Ocf [] [] [] 0 (ok_zig_Take p0 p1 r11_0 hr11_0) (fun a w => Try.call63 a w) rfl trivial) ?_
  refine Wy (.tup [(.d (.lit (.int .u64 r11_0.1))), (.d (.lit (.int .i64 r11_0.2.1))), (.d (.lit (.int .i64 r11_0.2.2)))]) [] (Omv rfl) ?_
  refine Wy (.d (.lit (.int .u64 r11_0.1))) [] (Oex rfl) ?_
  refine Wy (.d (.lit (.int .i64 r11_0.2.1))) [] (Oex rfl) ?_
  refine Wy (.d (.lit (.int .i64 r11_0.2.2))) [] (Oex rfl) ?_
  refine Wy (.d (.lit (.int .u64 r11_0.1))) [] (Omv rfl) ?_
  refine Wy (.d (.lit (.int .i64 r11_0.2.1))) [] (Omv rfl) ?_
  refine Wy (.d (.lit (.int .i64 r11_0.2.2))) [] (Omv rfl) ?_
  refine Walk.nil ?_
  refine Then.normal ?_
  refine Amk 224 0 ⟨(tp 5 ((.d (.lit (.int .i64 r11_0.2.1))) :: ((.d (.lit (.int .i64 r11_0.2.2))) :: ((.d (.lit (.int .u64 r11_0.1))) :: (tp 11 []))))), [], 0⟩ ?_
  refine AWP.seq ?_
  refine AWP.text ?_
  refine Wy (.d (.lit (.int .u64 r11_0.1))) [] (Omv rfl) ?_
  obtain ⟨r16_1, hr16_1, hm⟩ := bnd hm
  refine Wy (.d (.lit (.int .i64 r16_1))) [] (Ocf [] [] [] 0 (ok_zig_Back r11_0.1 r16_1 hr16_1) (fun a w => Try.call69 a w) rfl trivial) ?_
  refine Wy (.d (.lit (.int .i64 r11_0.2.1))) [] (Omv rfl) ?_
  refine Wy (.d (.lit (.int .i64 r11_0.2.2))) [] (Omv rfl) ?_
  refine Wy (.d (.lit (.int .i64 r16_1))) [] (Omv rfl) ?_
  refine Wy (.d (.lit (.int .i64 r11_0.2.1))) [] (Omv rfl) ?_
  refine Wy (.d (.lit (.int .i64 r11_0.2.2))) [] (Omv rfl) ?_
  refine Walk.nil ?_
  refine Then.normal ?_
  refine AWP.ret ?_
  obtain rfl := Option.some.inj hm
  exact ret_i []

set_option maxRecDepth 20000 in
set_option maxHeartbeats 4000000 in
theorem ok_octet_Open (p0 : (List UInt8)) (r : GReader) (h : m_octet_Open p0 = some r) : GCall Try.prog 61 [(.d (.lit (.string (toS p0))))] [] (.agg [(.d (.lit (.string (toS r.Text)))), (.d (.lit (.int .i64 r.At))), (.d (.lit (.int .i64 r.E)))]) [] := by
  refine GCall.of_body (n := 5) (rs := [(.cell 2 94)]) Try.func61 rfl rfl rfl ?_
  refine Ato ⟨((.d (.lit (.string (toS p0)))) :: (tu 4 [])), [], 0⟩ ?_
  have hm := h
  unfold m_octet_Open at hm
  refine AWP.seq ?_
  refine AWP.text ?_
  refine Wy (.loc 0 0) [(0, (.box [(.d (.lit (.string (toS ([] : List UInt8))))), (.d (.lit (.int .i64 0))), (.d (.lit (.int .i64 0)))]))] (Oal rfl) ?_
  refine Walk.nil ?_
  refine Then.normal ?_
  refine Amk 5 1 ⟨((.d (.lit (.string (toS p0)))) :: (tp 1 ((.loc 0 0) :: (tp 2 [])))), [(.box [(.d (.lit (.string (toS ([] : List UInt8))))), (.d (.lit (.int .i64 0))), (.d (.lit (.int .i64 0)))])], 0⟩ ?_
  refine AWP.seq ?_
  refine AWP.text ?_
  refine Wy (.d (.lit (.string (toS p0)))) [] (Omv rfl) ?_
  refine Wy (.agg [(.d (.lit (.string (toS p0)))), (.d (.lit (.int .i64 0))), (.d (.lit (.int .i64 0)))]) [] (Obd rfl) ?_
  refine Wy (.tup []) [(0, (.box [(.d (.lit (.string (toS p0)))), (.d (.lit (.int .i64 0))), (.d (.lit (.int .i64 0)))]))] (Ost rfl) ?_
  refine Walk.nil ?_
  refine Then.normal ?_
  refine AWP.ret ?_
  obtain rfl := Option.some.inj hm
  exact ret_i []

set_option maxRecDepth 20000 in
set_option maxHeartbeats 4000000 in
theorem ok_octet_Reader_Left (p0 : GReader) (r : Int) (h : m_octet_Reader_Left p0 = some r) : GCall Try.prog 71 [(.agg [(.d (.lit (.string (toS p0.Text)))), (.d (.lit (.int .i64 p0.At))), (.d (.lit (.int .i64 p0.E)))])] [] (.d (.lit (.int .i64 r))) [] := by
  refine GCall.of_body (n := 20) (rs := [(.tmp 2)]) Try.func71 rfl rfl rfl ?_
  refine Ato ⟨((.agg [(.d (.lit (.string (toS p0.Text)))), (.d (.lit (.int .i64 p0.At))), (.d (.lit (.int .i64 p0.E)))]) :: (tu 19 [])), [], 0⟩ ?_
  have hm := h
  unfold m_octet_Reader_Left at hm
  refine AWP.seq ?_
  refine AWP.text ?_
  refine Wy (.loc 0 0) [(0, (.box [(.d (.lit (.string (toS p0.Text)))), (.d (.lit (.int .i64 p0.At))), (.d (.lit (.int .i64 p0.E)))]))] (Obx rfl) ?_
  refine Wy (.d (.lit (.int .i64 0))) [] (Omv rfl) ?_
  refine Walk.nil ?_
  refine Then.normal ?_
  refine Amk 2 1 ⟨(tp 1 ((.loc 0 0) :: (tp 18 []))), [(.box [(.d (.lit (.string (toS p0.Text)))), (.d (.lit (.int .i64 p0.At))), (.d (.lit (.int .i64 p0.E)))])], 0⟩ ?_
  refine AWP.seq ?_
  refine AWP.seq ?_
  refine AWP.text ?_
  refine Wy (.loc 0 1) [] (Ofa rfl) ?_
  refine Wy (.d (.lit (.int .i64 p0.At))) [] (Old rfl) ?_
  refine Wy (.d (.lit (.bool (decide (p0.At < 0))))) [] (Obn rfl (fun _ => hb_lss (k := .i64))) ?_
  rcases tf_ (decide (p0.At < 0)) with hq6_0 | hq6_0
  · replace hm := cT hq6_0 hm
    refine Wy (.d (.lit (.bool true))) [] (Ocs (lit_tf (b := decide (p0.At < 0)) hq6_0) (Omv rfl)) ?_
    refine Wn ?_
    refine Wn ?_
    refine Wn ?_
    refine Wn ?_
    refine Wn ?_
    refine Wn ?_
    refine Wy (.d (.lit (.bool true))) [] (OpT rfl) ?_
    refine Walk.nil ?_
    refine Then.normal ?_
    refine Amk 8194 1 ⟨(tp 1 ((.loc 0 0) :: (tp 11 ((.d (.lit (.bool true))) :: (tp 6 []))))), [(.box [(.d (.lit (.string (toS p0.Text)))), (.d (.lit (.int .i64 p0.At))), (.d (.lit (.int .i64 p0.E)))])], 0⟩ ?_
    refine AWP.if_ true (by kernel_rfl) ?_
    refine AWP.seq ?_
    refine AWP.text ?_
    refine Wy (.d (.lit (.int .i64 0))) [] (Omv rfl) ?_
    refine Walk.nil ?_
    refine Then.normal ?_
    refine AWP.ret ?_
    refine Then.ret ?_
    obtain rfl := Option.some.inj hm
    exact ret_i []
  · replace hm := cF hq6_0 hm
    refine Wy (.d (.lit (.bool false))) [] (Ocs (lit_tf (b := decide (p0.At < 0)) hq6_0) (Omv rfl)) ?_
    refine Wy (.loc 0 1) [] (Ofa rfl) ?_
    refine Wy (.d (.lit (.int .i64 p0.At))) [] (Old rfl) ?_
    refine Wy (.loc 0 0) [] (Ofa rfl) ?_
    refine Wy (.d (.lit (.string (toS p0.Text)))) [] (Old rfl) ?_
    refine Wy (.d (.lit (.int .i64 ((List.length p0.Text : Nat) : Int)))) [] (Oln rfl) ?_
    refine Wy (.d (.lit (.bool (decide (((List.length p0.Text : Nat) : Int) < p0.At))))) [] (Obn rfl (fun _ => hb_gtr (k := .i64))) ?_
    refine Wy (.d (.lit (.bool (decide (((List.length p0.Text : Nat) : Int) < p0.At))))) [] (OpF rfl) ?_
    refine Walk.nil ?_
    refine Then.normal ?_
    refine Amk 8194 1 ⟨(tp 1 ((.loc 0 0) :: (tp 11 ((.d (.lit (.bool (decide (((List.length p0.Text : Nat) : Int) < p0.At))))) :: (tp 6 []))))), [(.box [(.d (.lit (.string (toS p0.Text)))), (.d (.lit (.int .i64 p0.At))), (.d (.lit (.int .i64 p0.E)))])], 0⟩ ?_
    rcases tf_ (decide (((List.length p0.Text : Nat) : Int) < p0.At)) with hc13_2 | hc13_2
    · replace hm := cT hc13_2 hm
      refine AWP.if_ true (Eq.trans (by kernel_rfl) (lit_tf (b := decide (((List.length p0.Text : Nat) : Int) < p0.At)) hc13_2)) ?_
      refine AWP.seq ?_
      refine AWP.text ?_
      refine Wy (.d (.lit (.int .i64 0))) [] (Omv rfl) ?_
      refine Walk.nil ?_
      refine Then.normal ?_
      refine AWP.ret ?_
      refine Then.ret ?_
      obtain rfl := Option.some.inj hm
      exact ret_i []
    · replace hm := cF hc13_2 hm
      refine AWP.if_ false (Eq.trans (by kernel_rfl) (lit_tf (b := decide (((List.length p0.Text : Nat) : Int) < p0.At)) hc13_2)) ?_
      refine AWP.skip ?_
      refine Then.normal ?_
      refine Amk 2 1 ⟨(tp 1 ((.loc 0 0) :: (tp 18 []))), [(.box [(.d (.lit (.string (toS p0.Text)))), (.d (.lit (.int .i64 p0.At))), (.d (.lit (.int .i64 p0.E)))])], 0⟩ ?_
      refine AWP.seq ?_
      refine AWP.text ?_
      refine Wy (.loc 0 0) [] (Ofa rfl) ?_
      refine Wy (.d (.lit (.string (toS p0.Text)))) [] (Old rfl) ?_
      refine Wy (.d (.lit (.int .i64 ((List.length p0.Text : Nat) : Int)))) [] (Oln rfl) ?_
      refine Wy (.loc 0 1) [] (Ofa rfl) ?_
      refine Wy (.d (.lit (.int .i64 p0.At))) [] (Old rfl) ?_
      refine Wy (.d (.lit (.int .i64 (IntKind.i64.wrap (((List.length p0.Text : Nat) : Int) - p0.At))))) [] (Obn rfl (fun _ => hb_sub (k := .i64))) ?_
      refine Wy (.d (.lit (.int .i64 (IntKind.i64.wrap (((List.length p0.Text : Nat) : Int) - p0.At))))) [] (Omv rfl) ?_
      refine Walk.nil ?_
      refine Then.normal ?_
      refine AWP.ret ?_
      obtain rfl := Option.some.inj hm
      exact ret_i []

set_option maxRecDepth 20000 in
set_option maxHeartbeats 4000000 in
theorem ok_octet_Reader_fail (p0 : GReader) (p1 : Int) (r : GReader) (h : m_octet_Reader_fail p0 p1 = some r) : GCall Try.prog 72 [(.agg [(.d (.lit (.string (toS p0.Text)))), (.d (.lit (.int .i64 p0.At))), (.d (.lit (.int .i64 p0.E)))]), (.d (.lit (.int .i64 p1)))] [] (.agg [(.d (.lit (.string (toS r.Text)))), (.d (.lit (.int .i64 r.At))), (.d (.lit (.int .i64 r.E)))]) [] := by
  refine GCall.of_body (n := 11) (rs := [(.cell 4 94)]) Try.func72 rfl rfl rfl ?_
  refine Ato ⟨((.agg [(.d (.lit (.string (toS p0.Text)))), (.d (.lit (.int .i64 p0.At))), (.d (.lit (.int .i64 p0.E)))]) :: ((.d (.lit (.int .i64 p1))) :: (tu 9 []))), [], 0⟩ ?_
  have hm := h
  unfold m_octet_Reader_fail at hm
  refine AWP.seq ?_
  refine AWP.text ?_
  refine Wy (.loc 0 0) [(0, (.box [(.d (.lit (.string (toS p0.Text)))), (.d (.lit (.int .i64 p0.At))), (.d (.lit (.int .i64 p0.E)))]))] (Obx rfl) ?_
  refine Wy (.loc 1 0) [(1, (.box [(.d (.lit (.string (toS ([] : List UInt8))))), (.d (.lit (.int .i64 0))), (.d (.lit (.int .i64 0)))]))] (Oal rfl) ?_
  refine Walk.nil ?_
  refine Then.normal ?_
  refine Amk 22 3 ⟨(tp 1 ((.d (.lit (.int .i64 p1))) :: ((.loc 0 0) :: (tp 1 ((.loc 1 0) :: (tp 6 [])))))), [(.box [(.d (.lit (.string (toS p0.Text)))), (.d (.lit (.int .i64 p0.At))), (.d (.lit (.int .i64 p0.E)))]), (.box [(.d (.lit (.string (toS ([] : List UInt8))))), (.d (.lit (.int .i64 0))), (.d (.lit (.int .i64 0)))])], 0⟩ ?_
  refine AWP.seq ?_
  refine AWP.seq ?_
  refine AWP.text ?_
  refine Wy (.loc 0 2) [] (Ofa rfl) ?_
  refine Wy (.d (.lit (.int .i64 p0.E))) [] (Old rfl) ?_
  refine Wy (.d (.lit (.bool (decide (p0.E = 0))))) [] (Obn rfl (fun _ => hb_eql (k := .i64))) ?_
  refine Walk.nil ?_
  refine Then.normal ?_
  refine Amk 150 3 ⟨(tp 1 ((.d (.lit (.int .i64 p1))) :: ((.loc 0 0) :: (tp 1 ((.loc 1 0) :: (tp 2 ((.d (.lit (.bool (decide (p0.E = 0))))) :: (tp 3 [])))))))), [(.box [(.d (.lit (.string (toS p0.Text)))), (.d (.lit (.int .i64 p0.At))), (.d (.lit (.int .i64 p0.E)))]), (.box [(.d (.lit (.string (toS ([] : List UInt8))))), (.d (.lit (.int .i64 0))), (.d (.lit (.int .i64 0)))])], 0⟩ ?_
  rcases tf_ (decide (p0.E = 0)) with hc7_0 | hc7_0
  · replace hm := cT hc7_0 hm
    refine AWP.if_ true (Eq.trans (by kernel_rfl) (lit_tf (b := decide (p0.E = 0)) hc7_0)) ?_
    refine AWP.text ?_
    refine Wy (.d (.lit (.int .i64 p1))) [] (Omv rfl) ?_
    refine Wy (.loc 0 2) [] (Ofa rfl) ?_
    refine Wy (.tup []) [(0, (.box [(.d (.lit (.string (toS p0.Text)))), (.d (.lit (.int .i64 p0.At))), (.d (.lit (.int .i64 p1)))]))] (Ost rfl) ?_
    refine Walk.nil ?_
    refine Then.normal ?_
    refine Amk 20 3 ⟨(tp 2 ((.loc 0 0) :: (tp 1 ((.loc 1 0) :: (tp 6 []))))), [(.box [(.d (.lit (.string (toS p0.Text)))), (.d (.lit (.int .i64 p0.At))), (.d (.lit (.int .i64 p1)))]), (.box [(.d (.lit (.string (toS ([] : List UInt8))))), (.d (.lit (.int .i64 0))), (.d (.lit (.int .i64 0)))])], 0⟩ ?_
    refine AWP.seq ?_
    refine AWP.text ?_
    refine Wy (.agg [(.d (.lit (.string (toS p0.Text)))), (.d (.lit (.int .i64 p0.At))), (.d (.lit (.int .i64 p1)))]) [] (Old rfl) ?_
    refine Wy (.tup []) [(1, (.box [(.d (.lit (.string (toS p0.Text)))), (.d (.lit (.int .i64 p0.At))), (.d (.lit (.int .i64 p1)))]))] (Ost rfl) ?_
    refine Walk.nil ?_
    refine Then.normal ?_
    refine AWP.ret ?_
    obtain rfl := Option.some.inj hm
    exact ret_i []
  · replace hm := cF hc7_0 hm
    refine AWP.if_ false (Eq.trans (by kernel_rfl) (lit_tf (b := decide (p0.E = 0)) hc7_0)) ?_
    refine AWP.skip ?_
    refine Then.normal ?_
    refine Amk 20 3 ⟨(tp 2 ((.loc 0 0) :: (tp 1 ((.loc 1 0) :: (tp 6 []))))), [(.box [(.d (.lit (.string (toS p0.Text)))), (.d (.lit (.int .i64 p0.At))), (.d (.lit (.int .i64 p0.E)))]), (.box [(.d (.lit (.string (toS ([] : List UInt8))))), (.d (.lit (.int .i64 0))), (.d (.lit (.int .i64 0)))])], 0⟩ ?_
    refine AWP.seq ?_
    refine AWP.text ?_
    refine Wy (.agg [(.d (.lit (.string (toS p0.Text)))), (.d (.lit (.int .i64 p0.At))), (.d (.lit (.int .i64 p0.E)))]) [] (Old rfl) ?_
    refine Wy (.tup []) [(1, (.box [(.d (.lit (.string (toS p0.Text)))), (.d (.lit (.int .i64 p0.At))), (.d (.lit (.int .i64 p0.E)))]))] (Ost rfl) ?_
    refine Walk.nil ?_
    refine Then.normal ?_
    refine AWP.ret ?_
    obtain rfl := Option.some.inj hm
    exact ret_i []

set_option maxRecDepth 20000 in
set_option maxHeartbeats 4000000 in
theorem ok_octet_Reader_take (p0 : GReader) (p1 : Int) (r : (GReader × Int)) (h : m_octet_Reader_take p0 p1 = some r) : GCall Try.prog 70 [(.agg [(.d (.lit (.string (toS p0.Text)))), (.d (.lit (.int .i64 p0.At))), (.d (.lit (.int .i64 p0.E)))]), (.d (.lit (.int .i64 p1)))] [] (.tup [(.agg [(.d (.lit (.string (toS r.1.Text)))), (.d (.lit (.int .i64 r.1.At))), (.d (.lit (.int .i64 r.1.E)))]), (.d (.lit (.int .u64 r.2)))]) [] := by
  refine GCall.of_body (n := 48) (rs := [(.cell 4 94), (.tmp 5)]) Try.func70 rfl rfl rfl ?_
  refine Ato ⟨((.agg [(.d (.lit (.string (toS p0.Text)))), (.d (.lit (.int .i64 p0.At))), (.d (.lit (.int .i64 p0.E)))]) :: ((.d (.lit (.int .i64 p1))) :: (tu 46 []))), [], 0⟩ ?_
  have hm := h
  unfold m_octet_Reader_take at hm
  refine AWP.seq ?_
  refine AWP.text ?_
  refine Wy (.loc 0 0) [(0, (.box [(.d (.lit (.string (toS p0.Text)))), (.d (.lit (.int .i64 p0.At))), (.d (.lit (.int .i64 p0.E)))]))] (Obx rfl) ?_
  refine Wy (.loc 1 0) [(1, (.box [(.d (.lit (.string (toS ([] : List UInt8))))), (.d (.lit (.int .i64 0))), (.d (.lit (.int .i64 0)))]))] (Oal rfl) ?_
  refine Wy (.d (.lit (.int .u64 0))) [] (Omv rfl) ?_
  refine Walk.nil ?_
  refine Then.normal ?_
  refine Amk 22 3 ⟨(tp 1 ((.d (.lit (.int .i64 p1))) :: ((.loc 0 0) :: (tp 1 ((.loc 1 0) :: (tp 43 [])))))), [(.box [(.d (.lit (.string (toS p0.Text)))), (.d (.lit (.int .i64 p0.At))), (.d (.lit (.int .i64 p0.E)))]), (.box [(.d (.lit (.string (toS ([] : List UInt8))))), (.d (.lit (.int .i64 0))), (.d (.lit (.int .i64 0)))])], 0⟩ ?_
  refine AWP.seq ?_
  refine AWP.seq ?_
  refine AWP.text ?_
  refine Wy (.loc 0 2) [] (Ofa rfl) ?_
  refine Wy (.d (.lit (.int .i64 p0.E))) [] (Old rfl) ?_
  refine Wy (.d (.lit (.bool (decide (p0.E ≠ 0))))) [] (Obn rfl (fun _ => hb_neq (k := .i64))) ?_
  rcases tf_ (decide (p0.E ≠ 0)) with hq12_0 | hq12_0
  · replace hm := cT hq12_0 hm
    refine Wy (.d (.lit (.bool true))) [] (Ocs (lit_tf (b := decide (p0.E ≠ 0)) hq12_0) (Omv rfl)) ?_
    refine Wn ?_
    refine Wn ?_
    refine Wn ?_
    refine Wn ?_
    refine Wy (.d (.lit (.bool true))) [] (OpT rfl) ?_
    refine Walk.nil ?_
    refine Then.normal ?_
    refine Amk 131094 3 ⟨(tp 1 ((.d (.lit (.int .i64 p1))) :: ((.loc 0 0) :: (tp 1 ((.loc 1 0) :: (tp 12 ((.d (.lit (.bool true))) :: (tp 30 [])))))))), [(.box [(.d (.lit (.string (toS p0.Text)))), (.d (.lit (.int .i64 p0.At))), (.d (.lit (.int .i64 p0.E)))]), (.box [(.d (.lit (.string (toS ([] : List UInt8))))), (.d (.lit (.int .i64 0))), (.d (.lit (.int .i64 0)))])], 0⟩ ?_
    refine AWP.if_ true (by kernel_rfl) ?_
    refine AWP.seq ?_
    refine AWP.text ?_
    refine Wy (.agg [(.d (.lit (.string (toS p0.Text)))), (.d (.lit (.int .i64 p0.At))), (.d (.lit (.int .i64 p0.E)))]) [] (Old rfl) ?_
    obtain ⟨r19_1, hr19_1, hm⟩ := bnd hm
    refine Wy (.agg [(.d (.lit (.string (toS r19_1.Text)))), (.d (.lit (.int .i64 r19_1.At))), (.d (.lit (.int .i64 r19_1.E)))]) [] (Ocf [] [] [] 0 (ok_octet_Reader_fail p0 3 r19_1 hr19_1) (fun a w => Try.call72 a w) rfl trivial) ?_
    refine Wy (.tup []) [(1, (.box [(.d (.lit (.string (toS r19_1.Text)))), (.d (.lit (.int .i64 r19_1.At))), (.d (.lit (.int .i64 r19_1.E)))]))] (Ost rfl) ?_
    refine Wy (.d (.lit (.int .u64 0))) [] (Omv rfl) ?_
    refine Walk.nil ?_
    refine Then.normal ?_
    refine AWP.ret ?_
    refine Then.ret ?_
    obtain rfl := Option.some.inj hm
    exact ret_i []
  · replace hm := cF hq12_0 hm
    refine Wy (.d (.lit (.bool false))) [] (Ocs (lit_tf (b := decide (p0.E ≠ 0)) hq12_0) (Omv rfl)) ?_
    refine Wy (.agg [(.d (.lit (.string (toS p0.Text)))), (.d (.lit (.int .i64 p0.At))), (.d (.lit (.int .i64 p0.E)))]) [] (Old rfl) ?_
    obtain ⟨r14_0, hr14_0, hm⟩ := bnd hm
    refine Wy (.d (.lit (.int .i64 r14_0))) [] (Ocf [] [] [] 0 (ok_octet_Reader_Left p0 r14_0 hr14_0) (fun a w => Try.call71 a w) rfl trivial) ?_
    refine Wy (.d (.lit (.int .i64 p1))) [] (Omv rfl) ?_
    refine Wy (.d (.lit (.bool (decide (r14_0 < p1))))) [] (Obn rfl (fun _ => hb_lss (k := .i64))) ?_
    refine Wy (.d (.lit (.bool (decide (r14_0 < p1))))) [] (OpF rfl) ?_
    refine Walk.nil ?_
    refine Then.normal ?_
    refine Amk 131094 3 ⟨(tp 1 ((.d (.lit (.int .i64 p1))) :: ((.loc 0 0) :: (tp 1 ((.loc 1 0) :: (tp 12 ((.d (.lit (.bool (decide (r14_0 < p1))))) :: (tp 30 [])))))))), [(.box [(.d (.lit (.string (toS p0.Text)))), (.d (.lit (.int .i64 p0.At))), (.d (.lit (.int .i64 p0.E)))]), (.box [(.d (.lit (.string (toS ([] : List UInt8))))), (.d (.lit (.int .i64 0))), (.d (.lit (.int .i64 0)))])], 0⟩ ?_
    rcases tf_ (decide (r14_0 < p1)) with hc17_7 | hc17_7
    · replace hm := cT hc17_7 hm
      refine AWP.if_ true (Eq.trans (by kernel_rfl) (lit_tf (b := decide (r14_0 < p1)) hc17_7)) ?_
      refine AWP.seq ?_
      refine AWP.text ?_
      refine Wy (.agg [(.d (.lit (.string (toS p0.Text)))), (.d (.lit (.int .i64 p0.At))), (.d (.lit (.int .i64 p0.E)))]) [] (Old rfl) ?_
      obtain ⟨r19_2, hr19_2, hm⟩ := bnd hm
      refine Wy (.agg [(.d (.lit (.string (toS r19_2.Text)))), (.d (.lit (.int .i64 r19_2.At))), (.d (.lit (.int .i64 r19_2.E)))]) [] (Ocf [] [] [] 0 (ok_octet_Reader_fail p0 3 r19_2 hr19_2) (fun a w => Try.call72 a w) rfl trivial) ?_
      refine Wy (.tup []) [(1, (.box [(.d (.lit (.string (toS r19_2.Text)))), (.d (.lit (.int .i64 r19_2.At))), (.d (.lit (.int .i64 r19_2.E)))]))] (Ost rfl) ?_
      refine Wy (.d (.lit (.int .u64 0))) [] (Omv rfl) ?_
      refine Walk.nil ?_
      refine Then.normal ?_
      refine AWP.ret ?_
      refine Then.ret ?_
      obtain rfl := Option.some.inj hm
      exact ret_i []
    · replace hm := cF hc17_7 hm
      refine AWP.if_ false (Eq.trans (by kernel_rfl) (lit_tf (b := decide (r14_0 < p1)) hc17_7)) ?_
      refine AWP.skip ?_
      refine Then.normal ?_
      refine Amk 22 3 ⟨(tp 1 ((.d (.lit (.int .i64 p1))) :: ((.loc 0 0) :: (tp 1 ((.loc 1 0) :: (tp 43 [])))))), [(.box [(.d (.lit (.string (toS p0.Text)))), (.d (.lit (.int .i64 p0.At))), (.d (.lit (.int .i64 p0.E)))]), (.box [(.d (.lit (.string (toS ([] : List UInt8))))), (.d (.lit (.int .i64 0))), (.d (.lit (.int .i64 0)))])], 0⟩ ?_
      refine AWP.seq ?_
      refine AWP.text ?_
      refine Wy (.d (.lit (.int .u64 0))) [] (Omv rfl) ?_
      refine Walk.nil ?_
      refine Then.normal ?_
      refine Amk 86 3 ⟨(tp 1 ((.d (.lit (.int .i64 p1))) :: ((.loc 0 0) :: (tp 1 ((.loc 1 0) :: (tp 1 ((.d (.lit (.int .u64 0))) :: (tp 41 [])))))))), [(.box [(.d (.lit (.string (toS p0.Text)))), (.d (.lit (.int .i64 p0.At))), (.d (.lit (.int .i64 p0.E)))]), (.box [(.d (.lit (.string (toS ([] : List UInt8))))), (.d (.lit (.int .i64 0))), (.d (.lit (.int .i64 0)))])], 0⟩ ?_
      refine AWP.seq ?_
      refine AWP.seq ?_
      refine AWP.text ?_
      refine Wy (.loc 0 0) [] (Ofa rfl) ?_
      refine Wy (.d (.lit (.string (toS p0.Text)))) [] (Old rfl) ?_
      refine Wy (.loc 0 1) [] (Ofa rfl) ?_
      refine Wy (.d (.lit (.int .i64 p0.At))) [] (Old rfl) ?_
      refine Wy (.loc 0 1) [] (Ofa rfl) ?_
      refine Wy (.d (.lit (.int .i64 p0.At))) [] (Old rfl) ?_
      refine Wy (.d (.lit (.int .i64 p1))) [] (Omv rfl) ?_
      refine Wy (.d (.lit (.int .i64 (IntKind.i64.wrap (p0.At + p1))))) [] (Obn rfl (fun _ => hb_add (k := .i64))) ?_
      obtain ⟨s28_3, hs28_3, hm⟩ := bnd hm; obtain ⟨hs28_3a, hs28_3b, hs28_3c, hs28_3d, hs28_3e⟩ := cut_some hs28_3
      refine Wy (.d (.lit (.string (toS s28_3)))) [] (Ocs (lit_str (toS_cut hs28_3e)) (op_slice_str rfl (by kernel_rfl) (s := toS p0.Text) (by kernel_rfl) (l := (Int.toNat p0.At)) (h := (Int.toNat (IntKind.i64.wrap (p0.At + p1)))) (⟨.i64, p0.At, by kernel_rfl, hs28_3a⟩) (⟨.i64, (IntKind.i64.wrap (p0.At + p1)), by kernel_rfl, hs28_3b⟩) hs28_3c hs28_3d)) ?_
      obtain ⟨hl29_3, hm⟩ := chk_some hm
      refine Wy (.d (.sl (List.length s28_3) (flatD encU8 s28_3))) [] (Ocs (lit_bytes) (op_bytes rfl (e := 5) (by kernel_rfl) (by kernel_rfl) (by kernel_rfl) (s := toS s28_3) (by kernel_rfl) (str_max hl29_3))) ?_
      refine Wy (.d (.lit (.int .i64 ((List.length s28_3 : Nat) : Int)))) [] (Oln rfl) ?_
      refine Wy (.d (.lit (.int .i64 0))) [] (Omv rfl) ?_
      refine Walk.nil ?_
      refine Then.normal ?_
      refine Amk 3758096470 3 ⟨(tp 1 ((.d (.lit (.int .i64 p1))) :: ((.loc 0 0) :: (tp 1 ((.loc 1 0) :: (tp 1 ((.d (.lit (.int .u64 0))) :: (tp 22 ((.d (.sl (List.length s28_3) (flatD encU8 s28_3))) :: ((.d (.lit (.int .i64 ((List.length s28_3 : Nat) : Int)))) :: ((.d (.lit (.int .i64 0))) :: (tp 16 [])))))))))))), [(.box [(.d (.lit (.string (toS p0.Text)))), (.d (.lit (.int .i64 p0.At))), (.d (.lit (.int .i64 p0.E)))]), (.box [(.d (.lit (.string (toS ([] : List UInt8))))), (.d (.lit (.int .i64 0))), (.d (.lit (.int .i64 0)))])], 0⟩ ?_
      refine AWP.block ?_
      refine AWP.loopI (α := Nat × Int × Int)
        (fun x => match x with | (fu_4, y6_4, y31_4) => (⟨(tp 1 ((.d (.lit (.int .i64 p1))) :: ((.loc 0 0) :: (tp 1 ((.loc 1 0) :: (tp 1 ((.d (.lit (.int .u64 y6_4))) :: (tp 22 ((.d (.sl (List.length s28_3) (flatD encU8 s28_3))) :: ((.d (.lit (.int .i64 ((List.length s28_3 : Nat) : Int)))) :: ((.d (.lit (.int .i64 y31_4))) :: (tp 16 [])))))))))))), [(.box [(.d (.lit (.string (toS p0.Text)))), (.d (.lit (.int .i64 p0.At))), (.d (.lit (.int .i64 p0.E)))]), (.box [(.d (.lit (.string (toS ([] : List UInt8))))), (.d (.lit (.int .i64 0))), (.d (.lit (.int .i64 0)))])], 0⟩ : St))
        (fun x => match x with | (fu_4, y6_4, y31_4) => m_octet_Reader_take_l4 p0 p1 s28_3 fu_4 y6_4 y31_4 = some r)
        (fun x => match x with | (fu_4, y6_4, y31_4) => fu_4) (1152921504606846976, 0, 0)
        (Weak.toK 3758096470 0 0 [0, 1]) hm ?_
      rintro ⟨fu_4, y6_4, y31_4⟩ n_4 hm ih_4
      try dsimp only at hm ih_4 ⊢
      cases fu_4 with
      | zero => exact absurd hm (by unfold m_octet_Reader_take_l4; simp)
      | succ fu_4 =>
        unfold m_octet_Reader_take_l4 at hm
        refine AWP.seq ?_
        refine AWP.text ?_
        refine Wy (.d (.lit (.bool (decide (y31_4 < ((List.length s28_3 : Nat) : Int)))))) [] (Obn rfl (fun _ => hb_lss (k := .i64))) ?_
        refine Walk.nil ?_
        refine Then.normal ?_
        refine Amk 8053063766 3 ⟨(tp 1 ((.d (.lit (.int .i64 p1))) :: ((.loc 0 0) :: (tp 1 ((.loc 1 0) :: (tp 1 ((.d (.lit (.int .u64 y6_4))) :: (tp 22 ((.d (.sl (List.length s28_3) (flatD encU8 s28_3))) :: ((.d (.lit (.int .i64 ((List.length s28_3 : Nat) : Int)))) :: ((.d (.lit (.int .i64 y31_4))) :: ((.d (.lit (.bool (decide (y31_4 < ((List.length s28_3 : Nat) : Int)))))) :: (tp 15 []))))))))))))), [(.box [(.d (.lit (.string (toS p0.Text)))), (.d (.lit (.int .i64 p0.At))), (.d (.lit (.int .i64 p0.E)))]), (.box [(.d (.lit (.string (toS ([] : List UInt8))))), (.d (.lit (.int .i64 0))), (.d (.lit (.int .i64 0)))])], 0⟩ ?_
        refine AWP.seq ?_
        rcases tf_ (decide (y31_4 < ((List.length s28_3 : Nat) : Int))) with hc32_8 | hc32_8
        · replace hm := cT hc32_8 hm
          refine AWP.if_ true (Eq.trans (by kernel_rfl) (lit_tf (b := decide (y31_4 < ((List.length s28_3 : Nat) : Int))) hc32_8)) ?_
          refine AWP.skip ?_
          refine Then.normal ?_
          refine Amk 3758096470 3 ⟨(tp 1 ((.d (.lit (.int .i64 p1))) :: ((.loc 0 0) :: (tp 1 ((.loc 1 0) :: (tp 1 ((.d (.lit (.int .u64 y6_4))) :: (tp 22 ((.d (.sl (List.length s28_3) (flatD encU8 s28_3))) :: ((.d (.lit (.int .i64 ((List.length s28_3 : Nat) : Int)))) :: ((.d (.lit (.int .i64 y31_4))) :: (tp 16 [])))))))))))), [(.box [(.d (.lit (.string (toS p0.Text)))), (.d (.lit (.int .i64 p0.At))), (.d (.lit (.int .i64 p0.E)))]), (.box [(.d (.lit (.string (toS ([] : List UInt8))))), (.d (.lit (.int .i64 0))), (.d (.lit (.int .i64 0)))])], 0⟩ ?_
          refine AWP.seq ?_
          refine AWP.block ?_
          refine AWP.seq ?_
          refine AWP.text ?_
          obtain ⟨x33_5, hx33_5, hm⟩ := bnd hm
          obtain ⟨hx33_5i, hx33_5g⟩ := geti_some hx33_5
          refine Wy (.d (.ref (List.drop ((Int.toNat y31_4) * 1) (flatD encU8 s28_3)))) [] (Oia rfl encU8_len hx33_5i hx33_5g) ?_
          refine Wy (.d (byteD x33_5)) [] (Lf1 rfl encU8_len hx33_5g) ?_
          refine Wy (.d (byteD x33_5)) [] (Omv rfl) ?_
          refine Walk.nil ?_
          refine Then.normal ?_
          refine Amk 3758096726 3 ⟨(tp 1 ((.d (.lit (.int .i64 p1))) :: ((.loc 0 0) :: (tp 1 ((.loc 1 0) :: (tp 1 ((.d (.lit (.int .u64 y6_4))) :: (tp 1 ((.d (byteD x33_5)) :: (tp 20 ((.d (.sl (List.length s28_3) (flatD encU8 s28_3))) :: ((.d (.lit (.int .i64 ((List.length s28_3 : Nat) : Int)))) :: ((.d (.lit (.int .i64 y31_4))) :: (tp 16 [])))))))))))))), [(.box [(.d (.lit (.string (toS p0.Text)))), (.d (.lit (.int .i64 p0.At))), (.d (.lit (.int .i64 p0.E)))]), (.box [(.d (.lit (.string (toS ([] : List UInt8))))), (.d (.lit (.int .i64 0))), (.d (.lit (.int .i64 0)))])], 0⟩ ?_
          refine AWP.text ?_
          refine Wy (.d (.lit (.int .u64 y6_4))) [] (Omv rfl) ?_
          refine Wy (.d (.lit (.int .u64 (IntKind.u64.wrap (y6_4 * 2 ^ 8))))) [] (Ocs (by kernel_rfl) (op_bin rfl (a1 := .int .u64 y6_4) (a2 := .int .u64 8) (by kernel_rfl) (by kernel_rfl) (fun _ => hb_shl (n := 8) (by decide) rfl))) ?_
          refine Wy (.d (byteD x33_5)) [] (Omv rfl) ?_
          refine Wy (.d (.lit (.int .u64 ((x33_5.toNat : Nat) : Int)))) [] (Ocs (lit_int (wrap_of_u8 (by decide) _)) (op_convert rfl (a1 := .int .u8 ((x33_5.toNat : Nat) : Int)) (by kernel_rfl) (run_conv (ds := .int .u8) (k' := .u64) (by kernel_rfl) (by kernel_rfl)))) ?_
          obtain ⟨v39_6, hv39_6, hm⟩ := bnd hm; replace hv39_6 := Option.some.inj hv39_6
          refine Wy (.d (.lit (.int .u64 v39_6))) [] (Ocs (Eq.trans (by kernel_rfl) (congrArg (fun z => A.d (.lit (.int .u64 z))) hv39_6)) (op_bin rfl (a1 := .int .u64 (IntKind.u64.wrap (y6_4 * 2 ^ 8))) (a2 := .int .u64 ((x33_5.toNat : Nat) : Int)) (by kernel_rfl) (by kernel_rfl) (fun _ => hb_or))) ?_
          refine Wy (.d (.lit (.int .u64 v39_6))) [] (Omv rfl) ?_
          refine Walk.nil ?_
          refine InBlock.normal ?_
          refine Then.normal ?_
          refine Amk 3758096470 3 ⟨(tp 1 ((.d (.lit (.int .i64 p1))) :: ((.loc 0 0) :: (tp 1 ((.loc 1 0) :: (tp 1 ((.d (.lit (.int .u64 v39_6))) :: (tp 22 ((.d (.sl (List.length s28_3) (flatD encU8 s28_3))) :: ((.d (.lit (.int .i64 ((List.length s28_3 : Nat) : Int)))) :: ((.d (.lit (.int .i64 y31_4))) :: (tp 16 [])))))))))))), [(.box [(.d (.lit (.string (toS p0.Text)))), (.d (.lit (.int .i64 p0.At))), (.d (.lit (.int .i64 p0.E)))]), (.box [(.d (.lit (.string (toS ([] : List UInt8))))), (.d (.lit (.int .i64 0))), (.d (.lit (.int .i64 0)))])], 0⟩ ?_
          refine AWP.text ?_
          refine Wy (.d (.lit (.int .i64 (IntKind.i64.wrap (y31_4 + 1))))) [] (Obn rfl (fun _ => hb_add (k := .i64))) ?_
          refine Wy (.d (.lit (.int .i64 (IntKind.i64.wrap (y31_4 + 1))))) [] (Omv rfl) ?_
          refine Walk.nil ?_
          refine RoundK.normal ?_
          exact Rounds.weak (Weak.toK 3758096470 0 0 [0, 1]) (ih_4 (fu_4, v39_6, (IntKind.i64.wrap (y31_4 + 1))) hm (Nat.lt_succ_self _))
        · replace hm := cF hc32_8 hm
          refine AWP.if_ false (Eq.trans (by kernel_rfl) (lit_tf (b := decide (y31_4 < ((List.length s28_3 : Nat) : Int))) hc32_8)) ?_
          refine AWP.exit ?_
          refine Then.exit ?_
          refine RoundK.exit ?_
          refine InBlock.same ?_
          refine Then.normal ?_
          refine Amk 86 3 ⟨(tp 1 ((.d (.lit (.int .i64 p1))) :: ((.loc 0 0) :: (tp 1 ((.loc 1 0) :: (tp 1 ((.d (.lit (.int .u64 y6_4))) :: (tp 41 [])))))))), [(.box [(.d (.lit (.string (toS p0.Text)))), (.d (.lit (.int .i64 p0.At))), (.d (.lit (.int .i64 p0.E)))]), (.box [(.d (.lit (.string (toS ([] : List UInt8))))), (.d (.lit (.int .i64 0))), (.d (.lit (.int .i64 0)))])], 0⟩ ?_
          refine AWP.seq ?_
          refine AWP.text ?_
          refine Wy (.loc 0 1) [] (Ofa rfl) ?_
          refine Wy (.d (.lit (.int .i64 p0.At))) [] (Old rfl) ?_
          refine Wy (.d (.lit (.int .i64 p1))) [] (Omv rfl) ?_
          refine Wy (.d (.lit (.int .i64 (IntKind.i64.wrap (p0.At + p1))))) [] (Obn rfl (fun _ => hb_add (k := .i64))) ?_
          refine Wy (.loc 0 1) [] (Ofa rfl) ?_
          refine Wy (.tup []) [(0, (.box [(.d (.lit (.string (toS p0.Text)))), (.d (.lit (.int .i64 (IntKind.i64.wrap (p0.At + p1))))), (.d (.lit (.int .i64 p0.E)))]))] (Ost rfl) ?_
          refine Walk.nil ?_
          refine Then.normal ?_
          refine Amk 84 3 ⟨(tp 2 ((.loc 0 0) :: (tp 1 ((.loc 1 0) :: (tp 1 ((.d (.lit (.int .u64 y6_4))) :: (tp 41 []))))))), [(.box [(.d (.lit (.string (toS p0.Text)))), (.d (.lit (.int .i64 (IntKind.i64.wrap (p0.At + p1))))), (.d (.lit (.int .i64 p0.E)))]), (.box [(.d (.lit (.string (toS ([] : List UInt8))))), (.d (.lit (.int .i64 0))), (.d (.lit (.int .i64 0)))])], 0⟩ ?_
          refine AWP.seq ?_
          refine AWP.text ?_
          refine Wy (.agg [(.d (.lit (.string (toS p0.Text)))), (.d (.lit (.int .i64 (IntKind.i64.wrap (p0.At + p1))))), (.d (.lit (.int .i64 p0.E)))]) [] (Old rfl) ?_
          refine Wy (.d (.lit (.int .u64 y6_4))) [] (Omv rfl) ?_
          refine Wy (.tup []) [(1, (.box [(.d (.lit (.string (toS p0.Text)))), (.d (.lit (.int .i64 (IntKind.i64.wrap (p0.At + p1))))), (.d (.lit (.int .i64 p0.E)))]))] (Ost rfl) ?_
          refine Wy (.d (.lit (.int .u64 y6_4))) [] (Omv rfl) ?_
          refine Walk.nil ?_
          refine Then.normal ?_
          refine AWP.ret ?_
          obtain rfl := Option.some.inj hm
          exact ret_i []

set_option maxRecDepth 20000 in
set_option maxHeartbeats 4000000 in
theorem ok_octet_Reader_Word (p0 : GReader) (r : (GReader × Int)) (h : m_octet_Reader_Word p0 = some r) : GCall Try.prog 62 [(.agg [(.d (.lit (.string (toS p0.Text)))), (.d (.lit (.int .i64 p0.At))), (.d (.lit (.int .i64 p0.E)))])] [] (.tup [(.agg [(.d (.lit (.string (toS r.1.Text)))), (.d (.lit (.int .i64 r.1.At))), (.d (.lit (.int .i64 r.1.E)))]), (.d (.lit (.int .u64 r.2)))]) [] := by
  refine GCall.of_body (n := 8) (rs := [(.cell 2 94), (.tmp 3)]) Try.func62 rfl rfl rfl ?_
  refine Ato ⟨((.agg [(.d (.lit (.string (toS p0.Text)))), (.d (.lit (.int .i64 p0.At))), (.d (.lit (.int .i64 p0.E)))]) :: (tu 7 [])), [], 0⟩ ?_
  have hm := h
  unfold m_octet_Reader_Word at hm
  refine AWP.seq ?_
  refine AWP.text ?_
  refine Wy (.loc 0 0) [(0, (.box [(.d (.lit (.string (toS p0.Text)))), (.d (.lit (.int .i64 p0.At))), (.d (.lit (.int .i64 p0.E)))]))] (Obx rfl) ?_
  refine Wy (.loc 1 0) [(1, (.box [(.d (.lit (.string (toS ([] : List UInt8))))), (.d (.lit (.int .i64 0))), (.d (.lit (.int .i64 0)))]))] (Oal rfl) ?_
  refine Wy (.d (.lit (.int .u64 0))) [] (Omv rfl) ?_
  refine Walk.nil ?_
  refine Then.normal ?_
  refine Amk 6 3 ⟨(tp 1 ((.loc 0 0) :: ((.loc 1 0) :: (tp 5 [])))), [(.box [(.d (.lit (.string (toS p0.Text)))), (.d (.lit (.int .i64 p0.At))), (.d (.lit (.int .i64 p0.E)))]), (.box [(.d (.lit (.string (toS ([] : List UInt8))))), (.d (.lit (.int .i64 0))), (.d (.lit (.int .i64 0)))])], 0⟩ ?_
  refine AWP.seq ?_
  refine AWP.text ?_
  refine Wy (.agg [(.d (.lit (.string (toS p0.Text)))), (.d (.lit (.int .i64 p0.At))), (.d (.lit (.int .i64 p0.E)))]) [] (Old rfl) ?_
  obtain ⟨r5_0, hr5_0, hm⟩ := bnd hm
  refine Wy (.tup [(.agg [(.d (.lit (.string (toS r5_0.1.Text)))), (.d (.lit (.int .i64 r5_0.1.At))), (.d (.lit (.int .i64 r5_0.1.E)))]), (.d (.lit (.int .u64 r5_0.2)))]) [] (Ocf [] [] [] 0 (ok_octet_Reader_take p0 8 r5_0 hr5_0) (fun a w => Try.call70 a w) rfl trivial) ?_
  refine Wy (.agg [(.d (.lit (.string (toS r5_0.1.Text)))), (.d (.lit (.int .i64 r5_0.1.At))), (.d (.lit (.int .i64 r5_0.1.E)))]) [] (Oex rfl) ?_
  refine Wy (.d (.lit (.int .u64 r5_0.2))) [] (Oex rfl) ?_
  refine Wy (.tup []) [(1, (.box [(.d (.lit (.string (toS r5_0.1.Text)))), (.d (.lit (.int .i64 r5_0.1.At))), (.d (.lit (.int .i64 r5_0.1.E)))]))] (Ost rfl) ?_
  refine Wy (.d (.lit (.int .u64 r5_0.2))) [] (Omv rfl) ?_
  refine Walk.nil ?_
  refine Then.normal ?_
  refine AWP.ret ?_
  obtain rfl := Option.some.inj hm
  exact ret_i []

set_option maxRecDepth 20000 in
set_option maxHeartbeats 4000000 in
theorem ok_value_body (p0 : UInt8) (p1 : (List UInt8)) (p2 : Int) (r : (GValue × Int × Int)) (h : m_value_body p0 p1 p2 = some r) : GCall Try.prog 43 [(.d (byteD p0)), (.d (.lit (.string (toS p1)))), (.d (.lit (.int .i64 p2)))] [] (.tup [(.agg [(.d (byteD r.1.Kind)), (.d (.lit (.int .i64 r.1.N))), (.d (.lit (.int .u64 r.1.Bits))), (.d (.lit (.string (toS r.1.Text))))]), (.d (.lit (.int .i64 r.2.1))), (.d (.lit (.int .i64 r.2.2)))]) [] := by
  refine GCall.of_body (n := 107) (rs := [(.cell 6 31), (.tmp 7), (.tmp 8)]) Try.func43 rfl rfl rfl ?_
  refine Ato ⟨((.d (byteD p0)) :: ((.d (.lit (.string (toS p1)))) :: ((.d (.lit (.int .i64 p2))) :: (tu 104 [])))), [], 0⟩ ?_
  have hm := h
  unfold m_value_body at hm
  refine AWP.seq ?_
  refine AWP.text ?_
  refine Wy (.loc 0 0) [(0, (.box [(.d (byteD 0)), (.d (.lit (.int .i64 0))), (.d (.lit (.int .u64 0))), (.d (.lit (.string (toS ([] : List UInt8)))))]))] (Oal rfl) ?_
  refine Wy (.d (.lit (.int .i64 0))) [] (Omv rfl) ?_
  refine Wy (.d (.lit (.int .i64 0))) [] (Omv rfl) ?_
  refine Walk.nil ?_
  refine Then.normal ?_
  refine Amk 71 1 ⟨((.d (byteD p0)) :: ((.d (.lit (.string (toS p1)))) :: ((.d (.lit (.int .i64 p2))) :: (tp 3 ((.loc 0 0) :: (tp 100 [])))))), [(.box [(.d (byteD 0)), (.d (.lit (.int .i64 0))), (.d (.lit (.int .u64 0))), (.d (.lit (.string (toS ([] : List UInt8)))))])], 0⟩ ?_
  refine AWP.seq ?_
  refine AWP.text ?_
  refine Wy (.d (byteD p0)) [] (Omv rfl) ?_
  refine Wy (.agg [(.d (byteD p0)), (.d (.lit (.int .i64 0))), (.d (.lit (.int .u64 0))), (.d (.lit (.string (toS ([] : List UInt8)))))]) [] (Obd rfl) ?_
  refine Wy (.loc 1 0) [(1, (.box [(.d (byteD 0)), (.d (.lit (.int .i64 0))), (.d (.lit (.int .u64 0))), (.d (.lit (.string (toS ([] : List UInt8)))))]))] (Oal rfl) ?_
  refine Wy (.tup []) [(1, (.box [(.d (byteD p0)), (.d (.lit (.int .i64 0))), (.d (.lit (.int .u64 0))), (.d (.lit (.string (toS ([] : List UInt8)))))]))] (Ost rfl) ?_
  refine Walk.nil ?_
  refine Then.normal ?_
  refine Amk 583 3 ⟨((.d (byteD p0)) :: ((.d (.lit (.string (toS p1)))) :: ((.d (.lit (.int .i64 p2))) :: (tp 3 ((.loc 0 0) :: (tp 2 ((.loc 1 0) :: (tp 97 [])))))))), [(.box [(.d (byteD 0)), (.d (.lit (.int .i64 0))), (.d (.lit (.int .u64 0))), (.d (.lit (.string (toS ([] : List UInt8)))))]), (.box [(.d (byteD p0)), (.d (.lit (.int .i64 0))), (.d (.lit (.int .u64 0))), (.d (.lit (.string (toS ([] : List UInt8)))))])], 0⟩ ?_
  refine AWP.seq ?_
  refine AWP.seq ?_
  refine AWP.text ?_
  refine Wy (.d (byteD p0)) [] (Omv rfl) ?_
  refine Walk.nil ?_
  refine Then.normal ?_
  refine Amk 1049158 3 ⟨(tp 1 ((.d (.lit (.string (toS p1)))) :: ((.d (.lit (.int .i64 p2))) :: (tp 3 ((.loc 0 0) :: (tp 2 ((.loc 1 0) :: (tp 10 ((.d (byteD p0)) :: (tp 86 [])))))))))), [(.box [(.d (byteD 0)), (.d (.lit (.int .i64 0))), (.d (.lit (.int .u64 0))), (.d (.lit (.string (toS ([] : List UInt8)))))]), (.box [(.d (byteD p0)), (.d (.lit (.int .i64 0))), (.d (.lit (.int .u64 0))), (.d (.lit (.string (toS ([] : List UInt8)))))])], 0⟩ ?_
  refine AWP.block ?_
  refine AWP.seq ?_
  refine AWP.text ?_
  refine Wy (.d (.lit (.bool (decide (((p0.toNat : Nat) : Int) = 1))))) [] (Ocs (by kernel_rfl) (op_bin rfl (a1 := .int .u8 ((p0.toNat : Nat) : Int)) (a2 := .int .u8 1) (by kernel_rfl) (by kernel_rfl) (fun _ => hb_eql))) ?_
  refine Wy (.d (.lit (.bool (decide (((p0.toNat : Nat) : Int) = 1))))) [] (Omv rfl) ?_
  refine Walk.nil ?_
  refine Then.normal ?_
  refine Amk 3146310 3 ⟨(tp 1 ((.d (.lit (.string (toS p1)))) :: ((.d (.lit (.int .i64 p2))) :: (tp 3 ((.loc 0 0) :: (tp 2 ((.loc 1 0) :: (tp 10 ((.d (byteD p0)) :: ((.d (.lit (.bool (decide (((p0.toNat : Nat) : Int) = 1))))) :: (tp 85 []))))))))))), [(.box [(.d (byteD 0)), (.d (.lit (.int .i64 0))), (.d (.lit (.int .u64 0))), (.d (.lit (.string (toS ([] : List UInt8)))))]), (.box [(.d (byteD p0)), (.d (.lit (.int .i64 0))), (.d (.lit (.int .u64 0))), (.d (.lit (.string (toS ([] : List UInt8)))))])], 0⟩ ?_
  rcases tf_ (decide (((p0.toNat : Nat) : Int) = 1)) with hc21_8 | hc21_8
  · replace hm := cT hc21_8 hm
    refine AWP.if_ true (Eq.trans (by kernel_rfl) (lit_tf (b := decide (((p0.toNat : Nat) : Int) = 1)) hc21_8)) ?_
    refine AWP.seq ?_
    refine AWP.text ?_
    refine Wy (.d (.lit (.string (toS p1)))) [] (Omv rfl) ?_
    refine Wy (.d (.lit (.int .i64 p2))) [] (Omv rfl) ?_
    obtain ⟨r26_0, hr26_0, hm⟩ := bnd hm
    refine Wy (.tup [(.d (.lit (.int .i64 r26_0.1))), (.d (.lit (.int .i64 r26_0.2.1))), (.d (.lit (.int .i64 r26_0.2.2)))]) [] (Ocf [] [] [] 0 (ok_zig_TakeInt p1 p2 r26_0 hr26_0) (fun a w => Try.call60 a w) rfl trivial) ?_
    refine Wy (.tup [(.d (.lit (.int .i64 r26_0.1))), (.d (.lit (.int .i64 r26_0.2.1))), (.d (.lit (.int .i64 r26_0.2.2)))]) [] (Omv rfl) ?_
    refine Wy (.d (.lit (.int .i64 r26_0.1))) [] (Oex rfl) ?_
    refine Wy (.d (.lit (.int .i64 r26_0.2.1))) [] (Oex rfl) ?_
    refine Wy (.d (.lit (.int .i64 r26_0.2.2))) [] (Oex rfl) ?_
    refine Wy (.d (.lit (.int .i64 r26_0.1))) [] (Omv rfl) ?_
    refine Wy (.d (.lit (.int .i64 r26_0.2.1))) [] (Omv rfl) ?_
    refine Wy (.d (.lit (.int .i64 r26_0.2.2))) [] (Omv rfl) ?_
    refine Walk.nil ?_
    refine Then.normal ?_
    refine Amk 7744 3 ⟨(tp 6 ((.loc 0 0) :: (tp 2 ((.loc 1 0) :: ((.d (.lit (.int .i64 r26_0.1))) :: ((.d (.lit (.int .i64 r26_0.2.1))) :: ((.d (.lit (.int .i64 r26_0.2.2))) :: (tp 94 [])))))))), [(.box [(.d (byteD 0)), (.d (.lit (.int .i64 0))), (.d (.lit (.int .u64 0))), (.d (.lit (.string (toS ([] : List UInt8)))))]), (.box [(.d (byteD p0)), (.d (.lit (.int .i64 0))), (.d (.lit (.int .u64 0))), (.d (.lit (.string (toS ([] : List UInt8)))))])], 0⟩ ?_
    refine AWP.seq ?_
    refine AWP.text ?_
    refine Wy (.d (.lit (.int .i64 r26_0.1))) [] (Omv rfl) ?_
    refine Wy (.loc 1 1) [] (Ofa rfl) ?_
    refine Wy (.tup []) [(1, (.box [(.d (byteD p0)), (.d (.lit (.int .i64 r26_0.1))), (.d (.lit (.int .u64 0))), (.d (.lit (.string (toS ([] : List UInt8)))))]))] (Ost rfl) ?_
    refine Walk.nil ?_
    refine Then.normal ?_
    refine Amk 6720 3 ⟨(tp 6 ((.loc 0 0) :: (tp 2 ((.loc 1 0) :: (tp 1 ((.d (.lit (.int .i64 r26_0.2.1))) :: ((.d (.lit (.int .i64 r26_0.2.2))) :: (tp 94 [])))))))), [(.box [(.d (byteD 0)), (.d (.lit (.int .i64 0))), (.d (.lit (.int .u64 0))), (.d (.lit (.string (toS ([] : List UInt8)))))]), (.box [(.d (byteD p0)), (.d (.lit (.int .i64 r26_0.1))), (.d (.lit (.int .u64 0))), (.d (.lit (.string (toS ([] : List UInt8)))))])], 0⟩ ?_
    refine AWP.seq ?_
    refine AWP.text ?_
    refine Wy (.agg [(.d (byteD p0)), (.d (.lit (.int .i64 r26_0.1))), (.d (.lit (.int .u64 0))), (.d (.lit (.string (toS ([] : List UInt8)))))]) [] (Old rfl) ?_
    refine Wy (.d (.lit (.int .i64 r26_0.2.1))) [] (Omv rfl) ?_
    refine Wy (.d (.lit (.int .i64 r26_0.2.2))) [] (Omv rfl) ?_
    refine Wy (.tup []) [(0, (.box [(.d (byteD p0)), (.d (.lit (.int .i64 r26_0.1))), (.d (.lit (.int .u64 0))), (.d (.lit (.string (toS ([] : List UInt8)))))]))] (Ost rfl) ?_
    refine Wy (.d (.lit (.int .i64 r26_0.2.1))) [] (Omv rfl) ?_
    refine Wy (.d (.lit (.int .i64 r26_0.2.2))) [] (Omv rfl) ?_
    refine Walk.nil ?_
    refine Then.normal ?_
    refine AWP.ret ?_
    refine InBlock.ret ?_
    refine Then.ret ?_
    obtain rfl := Option.some.inj hm
    exact ret_i []
  · replace hm := cF hc21_8 hm
    refine AWP.if_ false (Eq.trans (by kernel_rfl) (lit_tf (b := decide (((p0.toNat : Nat) : Int) = 1)) hc21_8)) ?_
    refine AWP.seq ?_
    refine AWP.text ?_
    refine Wy (.d (.lit (.bool (decide (((p0.toNat : Nat) : Int) = 2))))) [] (Ocs (by kernel_rfl) (op_bin rfl (a1 := .int .u8 ((p0.toNat : Nat) : Int)) (a2 := .int .u8 2) (by kernel_rfl) (by kernel_rfl) (fun _ => hb_eql))) ?_
    refine Wy (.d (.lit (.bool (decide (((p0.toNat : Nat) : Int) = 2))))) [] (Omv rfl) ?_
    refine Walk.nil ?_
    refine Then.normal ?_
    refine Amk 34360787526 3 ⟨(tp 1 ((.d (.lit (.string (toS p1)))) :: ((.d (.lit (.int .i64 p2))) :: (tp 3 ((.loc 0 0) :: (tp 2 ((.loc 1 0) :: (tp 10 ((.d (byteD p0)) :: (tp 14 ((.d (.lit (.bool (decide (((p0.toNat : Nat) : Int) = 2))))) :: (tp 71 [])))))))))))), [(.box [(.d (byteD 0)), (.d (.lit (.int .i64 0))), (.d (.lit (.int .u64 0))), (.d (.lit (.string (toS ([] : List UInt8)))))]), (.box [(.d (byteD p0)), (.d (.lit (.int .i64 0))), (.d (.lit (.int .u64 0))), (.d (.lit (.string (toS ([] : List UInt8)))))])], 0⟩ ?_
    rcases tf_ (decide (((p0.toNat : Nat) : Int) = 2)) with hc35_9 | hc35_9
    · replace hm := cT hc35_9 hm
      refine AWP.if_ true (Eq.trans (by kernel_rfl) (lit_tf (b := decide (((p0.toNat : Nat) : Int) = 2)) hc35_9)) ?_
      refine AWP.seq ?_
      refine AWP.seq ?_
      refine AWP.text ?_
      refine Wy (.d (.lit (.int .i64 p2))) [] (Omv rfl) ?_
      refine Wy (.d (.lit (.string (toS p1)))) [] (Omv rfl) ?_
      refine Wy (.d (.lit (.int .i64 ((List.length p1 : Nat) : Int)))) [] (Oln rfl) ?_
      refine Wy (.d (.lit (.bool (decide (p2 = ((List.length p1 : Nat) : Int)))))) [] (Obn rfl (fun _ => hb_eql (k := .i64))) ?_
      refine Walk.nil ?_
      refine Then.normal ?_
      refine Amk 1099511628358 3 ⟨(tp 1 ((.d (.lit (.string (toS p1)))) :: ((.d (.lit (.int .i64 p2))) :: (tp 3 ((.loc 0 0) :: (tp 2 ((.loc 1 0) :: (tp 30 ((.d (.lit (.bool (decide (p2 = ((List.length p1 : Nat) : Int)))))) :: (tp 66 [])))))))))), [(.box [(.d (byteD 0)), (.d (.lit (.int .i64 0))), (.d (.lit (.int .u64 0))), (.d (.lit (.string (toS ([] : List UInt8)))))]), (.box [(.d (byteD p0)), (.d (.lit (.int .i64 0))), (.d (.lit (.int .u64 0))), (.d (.lit (.string (toS ([] : List UInt8)))))])], 0⟩ ?_
      rcases tf_ (decide (p2 = ((List.length p1 : Nat) : Int))) with hc40_10 | hc40_10
      · replace hm := cT hc40_10 hm
        refine AWP.if_ true (Eq.trans (by kernel_rfl) (lit_tf (b := decide (p2 = ((List.length p1 : Nat) : Int))) hc40_10)) ?_
        refine AWP.seq ?_
        refine AWP.text ?_
        refine Wy (.agg [(.d (byteD p0)), (.d (.lit (.int .i64 0))), (.d (.lit (.int .u64 0))), (.d (.lit (.string (toS ([] : List UInt8)))))]) [] (Old rfl) ?_
        refine Wy (.tup []) [(0, (.box [(.d (byteD p0)), (.d (.lit (.int .i64 0))), (.d (.lit (.int .u64 0))), (.d (.lit (.string (toS ([] : List UInt8)))))]))] (Ost rfl) ?_
        refine Wy (.d (.lit (.int .i64 0))) [] (Omv rfl) ?_
        refine Wy (.d (.lit (.int .i64 3))) [] (Omv rfl) ?_
        refine Walk.nil ?_
        refine Then.normal ?_
        refine AWP.ret ?_
        refine Then.ret ?_
        refine InBlock.ret ?_
        refine Then.ret ?_
        obtain rfl := Option.some.inj hm
        exact ret_i []
      · replace hm := cF hc40_10 hm
        refine AWP.if_ false (Eq.trans (by kernel_rfl) (lit_tf (b := decide (p2 = ((List.length p1 : Nat) : Int))) hc40_10)) ?_
        refine AWP.skip ?_
        refine Then.normal ?_
        refine Amk 582 3 ⟨(tp 1 ((.d (.lit (.string (toS p1)))) :: ((.d (.lit (.int .i64 p2))) :: (tp 3 ((.loc 0 0) :: (tp 2 ((.loc 1 0) :: (tp 97 [])))))))), [(.box [(.d (byteD 0)), (.d (.lit (.int .i64 0))), (.d (.lit (.int .u64 0))), (.d (.lit (.string (toS ([] : List UInt8)))))]), (.box [(.d (byteD p0)), (.d (.lit (.int .i64 0))), (.d (.lit (.int .u64 0))), (.d (.lit (.string (toS ([] : List UInt8)))))])], 0⟩ ?_
        refine AWP.seq ?_
        refine AWP.text ?_
        refine Wy (.d (.lit (.string (toS p1)))) [] (Omv rfl) ?_
        refine Wy (.d (.lit (.int .i64 p2))) [] (Omv rfl) ?_
        obtain ⟨x44_2, hx44_2, hm⟩ := bnd hm
        obtain ⟨hx44_2i, hx44_2g⟩ := geti_some hx44_2
        refine Wy (.d (byteD x44_2)) [] (Ocs (by kernel_rfl) (op_index_str rfl (by kernel_rfl) (s := toS p1) (by kernel_rfl) (k := .i64) (iv := p2) (by kernel_rfl) (i := (Int.toNat p2)) (hx44_2i) (b := x44_2) (hx44_2g))) ?_
        refine Wy (.d (.lit (.int .i64 ((x44_2.toNat : Nat) : Int)))) [] (Ocs (lit_int (wrap_of_u8 (by decide) _)) (op_convert rfl (a1 := .int .u8 ((x44_2.toNat : Nat) : Int)) (by kernel_rfl) (run_conv (ds := .int .u8) (k' := .i64) (by kernel_rfl) (by kernel_rfl)))) ?_
        refine Wy (.loc 1 1) [] (Ofa rfl) ?_
        refine Wy (.tup []) [(1, (.box [(.d (byteD p0)), (.d (.lit (.int .i64 ((x44_2.toNat : Nat) : Int)))), (.d (.lit (.int .u64 0))), (.d (.lit (.string (toS ([] : List UInt8)))))]))] (Ost rfl) ?_
        refine Walk.nil ?_
        refine Then.normal ?_
        refine Amk 580 3 ⟨(tp 2 ((.d (.lit (.int .i64 p2))) :: (tp 3 ((.loc 0 0) :: (tp 2 ((.loc 1 0) :: (tp 97 []))))))), [(.box [(.d (byteD 0)), (.d (.lit (.int .i64 0))), (.d (.lit (.int .u64 0))), (.d (.lit (.string (toS ([] : List UInt8)))))]), (.box [(.d (byteD p0)), (.d (.lit (.int .i64 ((x44_2.toNat : Nat) : Int)))), (.d (.lit (.int .u64 0))), (.d (.lit (.string (toS ([] : List UInt8)))))])], 0⟩ ?_
        refine AWP.seq ?_
        refine AWP.text ?_
        refine Wy (.agg [(.d (byteD p0)), (.d (.lit (.int .i64 ((x44_2.toNat : Nat) : Int)))), (.d (.lit (.int .u64 0))), (.d (.lit (.string (toS ([] : List UInt8)))))]) [] (Old rfl) ?_
        refine Wy (.d (.lit (.int .i64 p2))) [] (Omv rfl) ?_
        refine Wy (.d (.lit (.int .i64 (IntKind.i64.wrap (p2 + 1))))) [] (Obn rfl (fun _ => hb_add (k := .i64))) ?_
        refine Wy (.tup []) [(0, (.box [(.d (byteD p0)), (.d (.lit (.int .i64 ((x44_2.toNat : Nat) : Int)))), (.d (.lit (.int .u64 0))), (.d (.lit (.string (toS ([] : List UInt8)))))]))] (Ost rfl) ?_
        refine Wy (.d (.lit (.int .i64 (IntKind.i64.wrap (p2 + 1))))) [] (Omv rfl) ?_
        refine Wy (.d (.lit (.int .i64 0))) [] (Omv rfl) ?_
        refine Walk.nil ?_
        refine Then.normal ?_
        refine AWP.ret ?_
        refine InBlock.ret ?_
        refine Then.ret ?_
        obtain rfl := Option.some.inj hm
        exact ret_i []
    · replace hm := cF hc35_9 hm
      refine AWP.if_ false (Eq.trans (by kernel_rfl) (lit_tf (b := decide (((p0.toNat : Nat) : Int) = 2)) hc35_9)) ?_
      refine AWP.seq ?_
      refine AWP.text ?_
      refine Wy (.d (.lit (.bool (decide (((p0.toNat : Nat) : Int) = 3))))) [] (Ocs (by kernel_rfl) (op_bin rfl (a1 := .int .u8 ((p0.toNat : Nat) : Int)) (a2 := .int .u8 3) (by kernel_rfl) (by kernel_rfl) (fun _ => hb_eql))) ?_
      refine Wy (.d (.lit (.bool (decide (((p0.toNat : Nat) : Int) = 3))))) [] (Omv rfl) ?_
      refine Walk.nil ?_
      refine Then.normal ?_
      refine Amk 1125899907891782 3 ⟨(tp 1 ((.d (.lit (.string (toS p1)))) :: ((.d (.lit (.int .i64 p2))) :: (tp 3 ((.loc 0 0) :: (tp 2 ((.loc 1 0) :: (tp 10 ((.d (byteD p0)) :: (tp 29 ((.d (.lit (.bool (decide (((p0.toNat : Nat) : Int) = 3))))) :: (tp 56 [])))))))))))), [(.box [(.d (byteD 0)), (.d (.lit (.int .i64 0))), (.d (.lit (.int .u64 0))), (.d (.lit (.string (toS ([] : List UInt8)))))]), (.box [(.d (byteD p0)), (.d (.lit (.int .i64 0))), (.d (.lit (.int .u64 0))), (.d (.lit (.string (toS ([] : List UInt8)))))])], 0⟩ ?_
      rcases tf_ (decide (((p0.toNat : Nat) : Int) = 3)) with hc50_11 | hc50_11
      · replace hm := cT hc50_11 hm
        refine AWP.if_ true (Eq.trans (by kernel_rfl) (lit_tf (b := decide (((p0.toNat : Nat) : Int) = 3)) hc50_11)) ?_
        refine AWP.seq ?_
        refine AWP.text ?_
        refine Wy (.d (.lit (.string (toS p1)))) [] (Omv rfl) ?_
        refine Wy (.d (.lit (.int .i64 p2))) [] (Omv rfl) ?_
        obtain ⟨s55_3, hs55_3, hm⟩ := bnd hm; obtain ⟨hs55_3a, hs55_3b, hs55_3c, hs55_3d, hs55_3e⟩ := cut_some hs55_3
        refine Wy (.d (.lit (.string (toS s55_3)))) [] (Ocs (lit_str (toS_cut hs55_3e)) (op_slice_str rfl (by kernel_rfl) (s := toS p1) (by kernel_rfl) (l := (Int.toNat p2)) (h := (Int.toNat ((List.length p1 : Nat) : Int))) (⟨.i64, p2, by kernel_rfl, hs55_3a⟩) (by exact rfl) hs55_3c hs55_3d)) ?_
        obtain ⟨r56_3, hr56_3, hm⟩ := bnd hm
        refine Wy (.agg [(.d (.lit (.string (toS r56_3.Text)))), (.d (.lit (.int .i64 r56_3.At))), (.d (.lit (.int .i64 r56_3.E)))]) [] (Ocf [] [] [] 0 (ok_octet_Open s55_3 r56_3 hr56_3) (fun a w => Try.call61 a w) rfl trivial) ?_
        obtain ⟨r57_3, hr57_3, hm⟩ := bnd hm
        refine Wy (.tup [(.agg [(.d (.lit (.string (toS r57_3.1.Text)))), (.d (.lit (.int .i64 r57_3.1.At))), (.d (.lit (.int .i64 r57_3.1.E)))]), (.d (.lit (.int .u64 r57_3.2)))]) [] (Ocf [] [] [] 0 (ok_octet_Reader_Word r56_3 r57_3 hr57_3) (fun a w => Try.call62 a w) rfl trivial) ?_
        refine Wy (.tup [(.agg [(.d (.lit (.string (toS r57_3.1.Text)))), (.d (.lit (.int .i64 r57_3.1.At))), (.d (.lit (.int .i64 r57_3.1.E)))]), (.d (.lit (.int .u64 r57_3.2)))]) [] (Omv rfl) ?_
        refine Wy (.agg [(.d (.lit (.string (toS r57_3.1.Text)))), (.d (.lit (.int .i64 r57_3.1.At))), (.d (.lit (.int .i64 r57_3.1.E)))]) [] (Oex rfl) ?_
        refine Wy (.d (.lit (.int .u64 r57_3.2))) [] (Oex rfl) ?_
        refine Wy (.loc 2 0) [(2, (.box [(.d (.lit (.string (toS ([] : List UInt8))))), (.d (.lit (.int .i64 0))), (.d (.lit (.int .i64 0)))]))] (Oal rfl) ?_
        refine Wy (.tup []) [(2, (.box [(.d (.lit (.string (toS r57_3.1.Text)))), (.d (.lit (.int .i64 r57_3.1.At))), (.d (.lit (.int .i64 r57_3.1.E)))]))] (Ost rfl) ?_
        refine Wy (.d (.lit (.int .u64 r57_3.2))) [] (Omv rfl) ?_
        refine Walk.nil ?_
        refine Then.normal ?_
        refine Amk 25156 7 ⟨(tp 2 ((.d (.lit (.int .i64 p2))) :: (tp 3 ((.loc 0 0) :: (tp 2 ((.loc 1 0) :: (tp 3 ((.loc 2 0) :: ((.d (.lit (.int .u64 r57_3.2))) :: (tp 92 [])))))))))), [(.box [(.d (byteD 0)), (.d (.lit (.int .i64 0))), (.d (.lit (.int .u64 0))), (.d (.lit (.string (toS ([] : List UInt8)))))]), (.box [(.d (byteD p0)), (.d (.lit (.int .i64 0))), (.d (.lit (.int .u64 0))), (.d (.lit (.string (toS ([] : List UInt8)))))]), (.box [(.d (.lit (.string (toS r57_3.1.Text)))), (.d (.lit (.int .i64 r57_3.1.At))), (.d (.lit (.int .i64 r57_3.1.E)))])], 0⟩ ?_
        refine AWP.seq ?_
        refine AWP.text ?_
        refine Wy (.d (.lit (.int .u64 r57_3.2))) [] (Omv rfl) ?_
        refine Wy (.loc 1 2) [] (Ofa rfl) ?_
        refine Wy (.tup []) [(1, (.box [(.d (byteD p0)), (.d (.lit (.int .i64 0))), (.d (.lit (.int .u64 r57_3.2))), (.d (.lit (.string (toS ([] : List UInt8)))))]))] (Ost rfl) ?_
        refine Walk.nil ?_
        refine Then.normal ?_
        refine Amk 8772 7 ⟨(tp 2 ((.d (.lit (.int .i64 p2))) :: (tp 3 ((.loc 0 0) :: (tp 2 ((.loc 1 0) :: (tp 3 ((.loc 2 0) :: (tp 93 []))))))))), [(.box [(.d (byteD 0)), (.d (.lit (.int .i64 0))), (.d (.lit (.int .u64 0))), (.d (.lit (.string (toS ([] : List UInt8)))))]), (.box [(.d (byteD p0)), (.d (.lit (.int .i64 0))), (.d (.lit (.int .u64 r57_3.2))), (.d (.lit (.string (toS ([] : List UInt8)))))]), (.box [(.d (.lit (.string (toS r57_3.1.Text)))), (.d (.lit (.int .i64 r57_3.1.At))), (.d (.lit (.int .i64 r57_3.1.E)))])], 0⟩ ?_
        refine AWP.seq ?_
        refine Adr ?_
        refine Wy (.agg [(.d (byteD p0)), (.d (.lit (.int .i64 0))), (.d (.lit (.int .u64 r57_3.2))), (.d (.lit (.string (toS ([] : List UInt8)))))]) [] (Old rfl) ?_
        refine Wy (.d (.lit (.int .i64 p2))) [] (Omv rfl) ?_
        refine Wy (.loc 2 1) [] (Ofa rfl) ?_
        refine Wy (.d (.lit (.int .i64 r57_3.1.At))) [] (Old rfl) ?_
        refine Wy (.d (.lit (.int .i64 (IntKind.i64.wrap (p2 + r57_3.1.At))))) [] (Obn rfl (fun _ => hb_add (k := .i64))) ?_
        refine Wy (.loc 2 2) [] (Ofa rfl) ?_
        refine Wy (.d (.lit (.int .i64 r57_3.1.E))) [] (Old rfl) ?_
        refine Wy (.tup []) [(0, (.box [(.d (byteD p0)), (.d (.lit (.int .i64 0))), (.d (.lit (.int .u64 r57_3.2))), (.d (.lit (.string (toS ([] : List UInt8)))))]))] (Ost rfl) ?_
        refine Wy (.d (.lit (.int .i64 (IntKind.i64.wrap (p2 + r57_3.1.At))))) [] (Omv rfl) ?_
        refine Wy (.d (.lit (.int .i64 r57_3.1.E))) [] (Omv rfl) ?_
        refine Wdr ?_
        refine Then.normal ?_
        refine AWP.ret ?_
        refine InBlock.ret ?_
        refine Then.ret ?_
        obtain rfl := Option.some.inj hm
        exact ret_i []
      · replace hm := cF hc50_11 hm
        refine AWP.if_ false (Eq.trans (by kernel_rfl) (lit_tf (b := decide (((p0.toNat : Nat) : Int) = 3)) hc50_11)) ?_
        refine AWP.seq ?_
        refine AWP.text ?_
        refine Wy (.d (.lit (.bool (decide (((p0.toNat : Nat) : Int) = 4))))) [] (Ocs (by kernel_rfl) (op_bin rfl (a1 := .int .u8 ((p0.toNat : Nat) : Int)) (a2 := .int .u8 4) (by kernel_rfl) (by kernel_rfl) (fun _ => hb_eql))) ?_
        refine Wy (.d (.lit (.bool (decide (((p0.toNat : Nat) : Int) = 4))))) [] (Omv rfl) ?_
        refine Walk.nil ?_
        refine Then.normal ?_
        refine Amk 590295810358705652294 3 ⟨(tp 1 ((.d (.lit (.string (toS p1)))) :: ((.d (.lit (.int .i64 p2))) :: (tp 3 ((.loc 0 0) :: (tp 2 ((.loc 1 0) :: (tp 59 ((.d (.lit (.bool (decide (((p0.toNat : Nat) : Int) = 4))))) :: (tp 37 [])))))))))), [(.box [(.d (byteD 0)), (.d (.lit (.int .i64 0))), (.d (.lit (.int .u64 0))), (.d (.lit (.string (toS ([] : List UInt8)))))]), (.box [(.d (byteD p0)), (.d (.lit (.int .i64 0))), (.d (.lit (.int .u64 0))), (.d (.lit (.string (toS ([] : List UInt8)))))])], 0⟩ ?_
        rcases tf_ (decide (((p0.toNat : Nat) : Int) = 4)) with hc69_12 | hc69_12
        · replace hm := cT hc69_12 hm
          refine AWP.if_ true (Eq.trans (by kernel_rfl) (lit_tf (b := decide (((p0.toNat : Nat) : Int) = 4)) hc69_12)) ?_
          refine AWP.seq ?_
          refine AWP.text ?_
          refine Wy (.d (.lit (.string (toS p1)))) [] (Omv rfl) ?_
          refine Wy (.d (.lit (.int .i64 p2))) [] (Omv rfl) ?_
          obtain ⟨r74_4, hr74_4, hm⟩ := bnd hm
          refine Wy (.tup [(.d (.lit (.int .u64 r74_4.1))), (.d (.lit (.int .i64 r74_4.2.1))), (.d (.lit (.int .i64 r74_4.2.2)))]) [] (Ocf [] [] [] 0 (ok_zig_Take p1 p2 r74_4 hr74_4) (fun a w => Try.call63 a w) rfl trivial) ?_
          refine Wy (.tup [(.d (.lit (.int .u64 r74_4.1))), (.d (.lit (.int .i64 r74_4.2.1))), (.d (.lit (.int .i64 r74_4.2.2)))]) [] (Omv rfl) ?_
          refine Wy (.d (.lit (.int .u64 r74_4.1))) [] (Oex rfl) ?_
          refine Wy (.d (.lit (.int .i64 r74_4.2.1))) [] (Oex rfl) ?_
          refine Wy (.d (.lit (.int .i64 r74_4.2.2))) [] (Oex rfl) ?_
          refine Wy (.d (.lit (.int .u64 r74_4.1))) [] (Omv rfl) ?_
          refine Wy (.d (.lit (.int .i64 r74_4.2.1))) [] (Omv rfl) ?_
          refine Wy (.d (.lit (.int .i64 r74_4.2.2))) [] (Omv rfl) ?_
          refine Walk.nil ?_
          refine Then.normal ?_
          refine Amk 229954 3 ⟨(tp 1 ((.d (.lit (.string (toS p1)))) :: (tp 4 ((.loc 0 0) :: (tp 2 ((.loc 1 0) :: (tp 5 ((.d (.lit (.int .u64 r74_4.1))) :: ((.d (.lit (.int .i64 r74_4.2.1))) :: ((.d (.lit (.int .i64 r74_4.2.2))) :: (tp 89 []))))))))))), [(.box [(.d (byteD 0)), (.d (.lit (.int .i64 0))), (.d (.lit (.int .u64 0))), (.d (.lit (.string (toS ([] : List UInt8)))))]), (.box [(.d (byteD p0)), (.d (.lit (.int .i64 0))), (.d (.lit (.int .u64 0))), (.d (.lit (.string (toS ([] : List UInt8)))))])], 0⟩ ?_
          refine AWP.seq ?_
          refine AWP.seq ?_
          refine AWP.text ?_
          refine Wy (.d (.lit (.int .i64 r74_4.2.2))) [] (Omv rfl) ?_
          refine Wy (.d (.lit (.bool (decide (r74_4.2.2 ≠ 0))))) [] (Obn rfl (fun _ => hb_neq (k := .i64))) ?_
          refine Walk.nil ?_
          refine Then.normal ?_
          refine Amk 604462909807314587583042 3 ⟨(tp 1 ((.d (.lit (.string (toS p1)))) :: (tp 4 ((.loc 0 0) :: (tp 2 ((.loc 1 0) :: (tp 5 ((.d (.lit (.int .u64 r74_4.1))) :: ((.d (.lit (.int .i64 r74_4.2.1))) :: ((.d (.lit (.int .i64 r74_4.2.2))) :: (tp 61 ((.d (.lit (.bool (decide (r74_4.2.2 ≠ 0))))) :: (tp 27 []))))))))))))), [(.box [(.d (byteD 0)), (.d (.lit (.int .i64 0))), (.d (.lit (.int .u64 0))), (.d (.lit (.string (toS ([] : List UInt8)))))]), (.box [(.d (byteD p0)), (.d (.lit (.int .i64 0))), (.d (.lit (.int .u64 0))), (.d (.lit (.string (toS ([] : List UInt8)))))])], 0⟩ ?_
          rcases tf_ (decide (r74_4.2.2 ≠ 0)) with hc79_13 | hc79_13
          · replace hm := cT hc79_13 hm
            refine AWP.if_ true (Eq.trans (by kernel_rfl) (lit_tf (b := decide (r74_4.2.2 ≠ 0)) hc79_13)) ?_
            refine AWP.seq ?_
            refine AWP.text ?_
            refine Wy (.agg [(.d (byteD p0)), (.d (.lit (.int .i64 0))), (.d (.lit (.int .u64 0))), (.d (.lit (.string (toS ([] : List UInt8)))))]) [] (Old rfl) ?_
            refine Wy (.d (.lit (.int .i64 r74_4.2.2))) [] (Omv rfl) ?_
            refine Wy (.tup []) [(0, (.box [(.d (byteD p0)), (.d (.lit (.int .i64 0))), (.d (.lit (.int .u64 0))), (.d (.lit (.string (toS ([] : List UInt8)))))]))] (Ost rfl) ?_
            refine Wy (.d (.lit (.int .i64 0))) [] (Omv rfl) ?_
            refine Wy (.d (.lit (.int .i64 r74_4.2.2))) [] (Omv rfl) ?_
            refine Walk.nil ?_
            refine Then.normal ?_
            refine AWP.ret ?_
            refine Then.ret ?_
            refine InBlock.ret ?_
            refine Then.ret ?_
            obtain rfl := Option.some.inj hm
            exact ret_i []
          · replace hm := cF hc79_13 hm
            refine AWP.if_ false (Eq.trans (by kernel_rfl) (lit_tf (b := decide (r74_4.2.2 ≠ 0)) hc79_13)) ?_
            refine AWP.skip ?_
            refine Then.normal ?_
            refine Amk 98882 3 ⟨(tp 1 ((.d (.lit (.string (toS p1)))) :: (tp 4 ((.loc 0 0) :: (tp 2 ((.loc 1 0) :: (tp 5 ((.d (.lit (.int .u64 r74_4.1))) :: ((.d (.lit (.int .i64 r74_4.2.1))) :: (tp 90 [])))))))))), [(.box [(.d (byteD 0)), (.d (.lit (.int .i64 0))), (.d (.lit (.int .u64 0))), (.d (.lit (.string (toS ([] : List UInt8)))))]), (.box [(.d (byteD p0)), (.d (.lit (.int .i64 0))), (.d (.lit (.int .u64 0))), (.d (.lit (.string (toS ([] : List UInt8)))))])], 0⟩ ?_
            refine AWP.seq ?_
            refine AWP.seq ?_
            refine AWP.text ?_
            refine Wy (.d (.lit (.int .u64 r74_4.1))) [] (Omv rfl) ?_
            refine Wy (.d (.lit (.bool (decide ((24 : Int) < r74_4.1))))) [] (Obn rfl (fun _ => hb_gtr (k := .u64))) ?_
            refine Walk.nil ?_
            refine Then.normal ?_
            refine Amk 9671406556917033397748290 3 ⟨(tp 1 ((.d (.lit (.string (toS p1)))) :: (tp 4 ((.loc 0 0) :: (tp 2 ((.loc 1 0) :: (tp 5 ((.d (.lit (.int .u64 r74_4.1))) :: ((.d (.lit (.int .i64 r74_4.2.1))) :: (tp 66 ((.d (.lit (.bool (decide ((24 : Int) < r74_4.1))))) :: (tp 23 [])))))))))))), [(.box [(.d (byteD 0)), (.d (.lit (.int .i64 0))), (.d (.lit (.int .u64 0))), (.d (.lit (.string (toS ([] : List UInt8)))))]), (.box [(.d (byteD p0)), (.d (.lit (.int .i64 0))), (.d (.lit (.int .u64 0))), (.d (.lit (.string (toS ([] : List UInt8)))))])], 0⟩ ?_
            rcases tf_ (decide ((24 : Int) < r74_4.1)) with hc83_14 | hc83_14
            · replace hm := cT hc83_14 hm
              refine AWP.if_ true (Eq.trans (by kernel_rfl) (lit_tf (b := decide ((24 : Int) < r74_4.1)) hc83_14)) ?_
              refine AWP.seq ?_
              refine AWP.text ?_
              refine Wy (.agg [(.d (byteD p0)), (.d (.lit (.int .i64 0))), (.d (.lit (.int .u64 0))), (.d (.lit (.string (toS ([] : List UInt8)))))]) [] (Old rfl) ?_
              refine Wy (.tup []) [(0, (.box [(.d (byteD p0)), (.d (.lit (.int .i64 0))), (.d (.lit (.int .u64 0))), (.d (.lit (.string (toS ([] : List UInt8)))))]))] (Ost rfl) ?_
              refine Wy (.d (.lit (.int .i64 0))) [] (Omv rfl) ?_
              refine Wy (.d (.lit (.int .i64 5))) [] (Omv rfl) ?_
              refine Walk.nil ?_
              refine Then.normal ?_
              refine AWP.ret ?_
              refine Then.ret ?_
              refine InBlock.ret ?_
              refine Then.ret ?_
              obtain rfl := Option.some.inj hm
              exact ret_i []
            · replace hm := cF hc83_14 hm
              refine AWP.if_ false (Eq.trans (by kernel_rfl) (lit_tf (b := decide ((24 : Int) < r74_4.1)) hc83_14)) ?_
              refine AWP.skip ?_
              refine Then.normal ?_
              refine Amk 98882 3 ⟨(tp 1 ((.d (.lit (.string (toS p1)))) :: (tp 4 ((.loc 0 0) :: (tp 2 ((.loc 1 0) :: (tp 5 ((.d (.lit (.int .u64 r74_4.1))) :: ((.d (.lit (.int .i64 r74_4.2.1))) :: (tp 90 [])))))))))), [(.box [(.d (byteD 0)), (.d (.lit (.int .i64 0))), (.d (.lit (.int .u64 0))), (.d (.lit (.string (toS ([] : List UInt8)))))]), (.box [(.d (byteD p0)), (.d (.lit (.int .i64 0))), (.d (.lit (.int .u64 0))), (.d (.lit (.string (toS ([] : List UInt8)))))])], 0⟩ ?_
              refine AWP.seq ?_
              refine AWP.seq ?_
              refine AWP.text ?_
              refine Wy (.d (.lit (.string (toS p1)))) [] (Omv rfl) ?_
              refine Wy (.d (.lit (.int .i64 ((List.length p1 : Nat) : Int)))) [] (Oln rfl) ?_
              refine Wy (.d (.lit (.int .i64 r74_4.2.1))) [] (Omv rfl) ?_
              refine Wy (.d (.lit (.int .i64 (IntKind.i64.wrap (((List.length p1 : Nat) : Int) - r74_4.2.1))))) [] (Obn rfl (fun _ => hb_sub (k := .i64))) ?_
              refine Wy (.d (.lit (.int .u64 r74_4.1))) [] (Omv rfl) ?_
              refine Wy (.d (.lit (.int .i64 (IntKind.i64.wrap r74_4.1)))) [] (Ocs (by kernel_rfl) (op_convert rfl (a1 := .int .u64 r74_4.1) (by kernel_rfl) (run_conv (ds := .int .u64) (k' := .i64) (by kernel_rfl) (by kernel_rfl)))) ?_
              refine Wy (.d (.lit (.bool (decide ((IntKind.i64.wrap (((List.length p1 : Nat) : Int) - r74_4.2.1)) < (IntKind.i64.wrap r74_4.1)))))) [] (Obn rfl (fun _ => hb_lss (k := .i64))) ?_
              refine Walk.nil ?_
              refine Then.normal ?_
              refine Amk 2475880078570760549798347330 3 ⟨(tp 1 ((.d (.lit (.string (toS p1)))) :: (tp 4 ((.loc 0 0) :: (tp 2 ((.loc 1 0) :: (tp 5 ((.d (.lit (.int .u64 r74_4.1))) :: ((.d (.lit (.int .i64 r74_4.2.1))) :: (tp 74 ((.d (.lit (.bool (decide ((IntKind.i64.wrap (((List.length p1 : Nat) : Int) - r74_4.2.1)) < (IntKind.i64.wrap r74_4.1)))))) :: (tp 15 [])))))))))))), [(.box [(.d (byteD 0)), (.d (.lit (.int .i64 0))), (.d (.lit (.int .u64 0))), (.d (.lit (.string (toS ([] : List UInt8)))))]), (.box [(.d (byteD p0)), (.d (.lit (.int .i64 0))), (.d (.lit (.int .u64 0))), (.d (.lit (.string (toS ([] : List UInt8)))))])], 0⟩ ?_
              rcases tf_ (decide ((IntKind.i64.wrap (((List.length p1 : Nat) : Int) - r74_4.2.1)) < (IntKind.i64.wrap r74_4.1))) with hc91_15 | hc91_15
              · replace hm := cT hc91_15 hm
                refine AWP.if_ true (Eq.trans (by kernel_rfl) (lit_tf (b := decide ((IntKind.i64.wrap (((List.length p1 : Nat) : Int) - r74_4.2.1)) < (IntKind.i64.wrap r74_4.1))) hc91_15)) ?_
                refine AWP.seq ?_
                refine AWP.text ?_
                refine Wy (.agg [(.d (byteD p0)), (.d (.lit (.int .i64 0))), (.d (.lit (.int .u64 0))), (.d (.lit (.string (toS ([] : List UInt8)))))]) [] (Old rfl) ?_
                refine Wy (.tup []) [(0, (.box [(.d (byteD p0)), (.d (.lit (.int .i64 0))), (.d (.lit (.int .u64 0))), (.d (.lit (.string (toS ([] : List UInt8)))))]))] (Ost rfl) ?_
                refine Wy (.d (.lit (.int .i64 0))) [] (Omv rfl) ?_
                refine Wy (.d (.lit (.int .i64 3))) [] (Omv rfl) ?_
                refine Walk.nil ?_
                refine Then.normal ?_
                refine AWP.ret ?_
                refine Then.ret ?_
                refine InBlock.ret ?_
                refine Then.ret ?_
                obtain rfl := Option.some.inj hm
                exact ret_i []
              · replace hm := cF hc91_15 hm
                refine AWP.if_ false (Eq.trans (by kernel_rfl) (lit_tf (b := decide ((IntKind.i64.wrap (((List.length p1 : Nat) : Int) - r74_4.2.1)) < (IntKind.i64.wrap r74_4.1))) hc91_15)) ?_
                refine AWP.skip ?_
                refine Then.normal ?_
                refine Amk 98882 3 ⟨(tp 1 ((.d (.lit (.string (toS p1)))) :: (tp 4 ((.loc 0 0) :: (tp 2 ((.loc 1 0) :: (tp 5 ((.d (.lit (.int .u64 r74_4.1))) :: ((.d (.lit (.int .i64 r74_4.2.1))) :: (tp 90 [])))))))))), [(.box [(.d (byteD 0)), (.d (.lit (.int .i64 0))), (.d (.lit (.int .u64 0))), (.d (.lit (.string (toS ([] : List UInt8)))))]), (.box [(.d (byteD p0)), (.d (.lit (.int .i64 0))), (.d (.lit (.int .u64 0))), (.d (.lit (.string (toS ([] : List UInt8)))))])], 0⟩ ?_
                refine AWP.seq ?_
                refine AWP.text ?_
                refine Wy (.d (.lit (.string (toS p1)))) [] (Omv rfl) ?_
                refine Wy (.d (.lit (.int .i64 r74_4.2.1))) [] (Omv rfl) ?_
                refine Wy (.d (.lit (.int .i64 r74_4.2.1))) [] (Omv rfl) ?_
                refine Wy (.d (.lit (.int .u64 r74_4.1))) [] (Omv rfl) ?_
                refine Wy (.d (.lit (.int .i64 (IntKind.i64.wrap r74_4.1)))) [] (Ocs (by kernel_rfl) (op_convert rfl (a1 := .int .u64 r74_4.1) (by kernel_rfl) (run_conv (ds := .int .u64) (k' := .i64) (by kernel_rfl) (by kernel_rfl)))) ?_
                refine Wy (.d (.lit (.int .i64 (IntKind.i64.wrap (r74_4.2.1 + (IntKind.i64.wrap r74_4.1)))))) [] (Obn rfl (fun _ => hb_add (k := .i64))) ?_
                obtain ⟨s99_6, hs99_6, hm⟩ := bnd hm; obtain ⟨hs99_6a, hs99_6b, hs99_6c, hs99_6d, hs99_6e⟩ := cut_some hs99_6
                refine Wy (.d (.lit (.string (toS s99_6)))) [] (Ocs (lit_str (toS_cut hs99_6e)) (op_slice_str rfl (by kernel_rfl) (s := toS p1) (by kernel_rfl) (l := (Int.toNat r74_4.2.1)) (h := (Int.toNat (IntKind.i64.wrap (r74_4.2.1 + (IntKind.i64.wrap r74_4.1))))) (⟨.i64, r74_4.2.1, by kernel_rfl, hs99_6a⟩) (⟨.i64, (IntKind.i64.wrap (r74_4.2.1 + (IntKind.i64.wrap r74_4.1))), by kernel_rfl, hs99_6b⟩) hs99_6c hs99_6d)) ?_
                refine Wy (.loc 1 3) [] (Ofa rfl) ?_
                refine Wy (.tup []) [(1, (.box [(.d (byteD p0)), (.d (.lit (.int .i64 0))), (.d (.lit (.int .u64 0))), (.d (.lit (.string (toS s99_6))))]))] (Ost rfl) ?_
                refine Walk.nil ?_
                refine Then.normal ?_
                refine Amk 98880 3 ⟨(tp 6 ((.loc 0 0) :: (tp 2 ((.loc 1 0) :: (tp 5 ((.d (.lit (.int .u64 r74_4.1))) :: ((.d (.lit (.int .i64 r74_4.2.1))) :: (tp 90 [])))))))), [(.box [(.d (byteD 0)), (.d (.lit (.int .i64 0))), (.d (.lit (.int .u64 0))), (.d (.lit (.string (toS ([] : List UInt8)))))]), (.box [(.d (byteD p0)), (.d (.lit (.int .i64 0))), (.d (.lit (.int .u64 0))), (.d (.lit (.string (toS s99_6))))])], 0⟩ ?_
                refine AWP.seq ?_
                refine AWP.text ?_
                refine Wy (.agg [(.d (byteD p0)), (.d (.lit (.int .i64 0))), (.d (.lit (.int .u64 0))), (.d (.lit (.string (toS s99_6))))]) [] (Old rfl) ?_
                refine Wy (.d (.lit (.int .i64 r74_4.2.1))) [] (Omv rfl) ?_
                refine Wy (.d (.lit (.int .u64 r74_4.1))) [] (Omv rfl) ?_
                refine Wy (.d (.lit (.int .i64 (IntKind.i64.wrap r74_4.1)))) [] (Ocs (by kernel_rfl) (op_convert rfl (a1 := .int .u64 r74_4.1) (by kernel_rfl) (run_conv (ds := .int .u64) (k' := .i64) (by kernel_rfl) (by kernel_rfl)))) ?_
                refine Wy (.d (.lit (.int .i64 (IntKind.i64.wrap (r74_4.2.1 + (IntKind.i64.wrap r74_4.1)))))) [] (Obn rfl (fun _ => hb_add (k := .i64))) ?_
                refine Wy (.tup []) [(0, (.box [(.d (byteD p0)), (.d (.lit (.int .i64 0))), (.d (.lit (.int .u64 0))), (.d (.lit (.string (toS s99_6))))]))] (Ost rfl) ?_
                refine Wy (.d (.lit (.int .i64 (IntKind.i64.wrap (r74_4.2.1 + (IntKind.i64.wrap r74_4.1)))))) [] (Omv rfl) ?_
                refine Wy (.d (.lit (.int .i64 0))) [] (Omv rfl) ?_
                refine Walk.nil ?_
                refine Then.normal ?_
                refine AWP.ret ?_
                refine InBlock.ret ?_
                refine Then.ret ?_
                obtain rfl := Option.some.inj hm
                exact ret_i []
        · replace hm := cF hc69_12 hm
          refine AWP.if_ false (Eq.trans (by kernel_rfl) (lit_tf (b := decide (((p0.toNat : Nat) : Int) = 4)) hc69_12)) ?_
          refine AWP.skip ?_
          refine InBlock.normal ?_
          refine Then.normal ?_
          refine Amk 576 3 ⟨(tp 6 ((.loc 0 0) :: (tp 2 ((.loc 1 0) :: (tp 97 []))))), [(.box [(.d (byteD 0)), (.d (.lit (.int .i64 0))), (.d (.lit (.int .u64 0))), (.d (.lit (.string (toS ([] : List UInt8)))))]), (.box [(.d (byteD p0)), (.d (.lit (.int .i64 0))), (.d (.lit (.int .u64 0))), (.d (.lit (.string (toS ([] : List UInt8)))))])], 0⟩ ?_
          refine AWP.seq ?_
          refine AWP.text ?_
          refine Wy (.agg [(.d (byteD p0)), (.d (.lit (.int .i64 0))), (.d (.lit (.int .u64 0))), (.d (.lit (.string (toS ([] : List UInt8)))))]) [] (Old rfl) ?_
          refine Wy (.tup []) [(0, (.box [(.d (byteD p0)), (.d (.lit (.int .i64 0))), (.d (.lit (.int .u64 0))), (.d (.lit (.string (toS ([] : List UInt8)))))]))] (Ost rfl) ?_
          refine Wy (.d (.lit (.int .i64 0))) [] (Omv rfl) ?_
          refine Wy (.d (.lit (.int .i64 11))) [] (Omv rfl) ?_
          refine Walk.nil ?_
          refine Then.normal ?_
          refine AWP.ret ?_
          obtain rfl := Option.some.inj hm
          exact ret_i []

set_option maxRecDepth 20000 in
set_option maxHeartbeats 4000000 in
theorem ok_value_Take (p0 : (List UInt8)) (p1 : Int) (r : (GValue × Int × Int)) (h : m_value_Take p0 p1 = some r) : GCall Try.prog 16 [(.d (.lit (.string (toS p0)))), (.d (.lit (.int .i64 p1)))] [] (.tup [(.agg [(.d (byteD r.1.Kind)), (.d (.lit (.int .i64 r.1.N))), (.d (.lit (.int .u64 r.1.Bits))), (.d (.lit (.string (toS r.1.Text))))]), (.d (.lit (.int .i64 r.2.1))), (.d (.lit (.int .i64 r.2.2)))]) [] := by
  refine GCall.of_body (n := 42) (rs := [(.cell 4 31), (.tmp 5), (.tmp 6)]) Try.func16 rfl rfl rfl ?_
  refine Ato ⟨((.d (.lit (.string (toS p0)))) :: ((.d (.lit (.int .i64 p1))) :: (tu 40 []))), [], 0⟩ ?_
  have hm := h
  unfold m_value_Take at hm
  refine AWP.seq ?_
  refine AWP.text ?_
  refine Wy (.loc 0 0) [(0, (.box [(.d (byteD 0)), (.d (.lit (.int .i64 0))), (.d (.lit (.int .u64 0))), (.d (.lit (.string (toS ([] : List UInt8)))))]))] (Oal rfl) ?_
  refine Wy (.d (.lit (.int .i64 0))) [] (Omv rfl) ?_
  refine Wy (.d (.lit (.int .i64 0))) [] (Omv rfl) ?_
  refine Walk.nil ?_
  refine Then.normal ?_
  refine Amk 19 1 ⟨((.d (.lit (.string (toS p0)))) :: ((.d (.lit (.int .i64 p1))) :: (tp 2 ((.loc 0 0) :: (tp 37 []))))), [(.box [(.d (byteD 0)), (.d (.lit (.int .i64 0))), (.d (.lit (.int .u64 0))), (.d (.lit (.string (toS ([] : List UInt8)))))])], 0⟩ ?_
  refine AWP.seq ?_
  refine AWP.seq ?_
  refine AWP.text ?_
  refine Wy (.d (.lit (.int .i64 p1))) [] (Omv rfl) ?_
  refine Wy (.d (.lit (.bool (decide (p1 < 0))))) [] (Obn rfl (fun _ => hb_lss (k := .i64))) ?_
  rcases tf_ (decide (p1 < 0)) with hq9_0 | hq9_0
  · replace hm := cT hq9_0 hm
    refine Wy (.d (.lit (.bool true))) [] (Ocs (lit_tf (b := decide (p1 < 0)) hq9_0) (Omv rfl)) ?_
    refine Wn ?_
    refine Wn ?_
    refine Wn ?_
    refine Wn ?_
    refine Wy (.d (.lit (.bool true))) [] (OpT rfl) ?_
    refine Walk.nil ?_
    refine Then.normal ?_
    refine Amk 16403 1 ⟨((.d (.lit (.string (toS p0)))) :: ((.d (.lit (.int .i64 p1))) :: (tp 2 ((.loc 0 0) :: (tp 9 ((.d (.lit (.bool true))) :: (tp 27 []))))))), [(.box [(.d (byteD 0)), (.d (.lit (.int .i64 0))), (.d (.lit (.int .u64 0))), (.d (.lit (.string (toS ([] : List UInt8)))))])], 0⟩ ?_
    refine AWP.if_ true (by kernel_rfl) ?_
    refine AWP.seq ?_
    refine AWP.text ?_
    refine Wy (.agg [(.d (byteD 0)), (.d (.lit (.int .i64 0))), (.d (.lit (.int .u64 0))), (.d (.lit (.string (toS ([] : List UInt8)))))]) [] (Obd rfl) ?_
    refine Wy (.tup []) [(0, (.box [(.d (byteD 0)), (.d (.lit (.int .i64 0))), (.d (.lit (.int .u64 0))), (.d (.lit (.string (toS ([] : List UInt8)))))]))] (Ost rfl) ?_
    refine Wy (.d (.lit (.int .i64 0))) [] (Omv rfl) ?_
    refine Wy (.d (.lit (.int .i64 2))) [] (Omv rfl) ?_
    refine Walk.nil ?_
    refine Then.normal ?_
    refine AWP.ret ?_
    refine Then.ret ?_
    obtain rfl := Option.some.inj hm
    exact ret_i []
  · replace hm := cF hq9_0 hm
    refine Wy (.d (.lit (.bool false))) [] (Ocs (lit_tf (b := decide (p1 < 0)) hq9_0) (Omv rfl)) ?_
    refine Wy (.d (.lit (.int .i64 p1))) [] (Omv rfl) ?_
    refine Wy (.d (.lit (.string (toS p0)))) [] (Omv rfl) ?_
    refine Wy (.d (.lit (.int .i64 ((List.length p0 : Nat) : Int)))) [] (Oln rfl) ?_
    refine Wy (.d (.lit (.bool (decide (((List.length p0 : Nat) : Int) < p1))))) [] (Obn rfl (fun _ => hb_gtr (k := .i64))) ?_
    refine Wy (.d (.lit (.bool (decide (((List.length p0 : Nat) : Int) < p1))))) [] (OpF rfl) ?_
    refine Walk.nil ?_
    refine Then.normal ?_
    refine Amk 16403 1 ⟨((.d (.lit (.string (toS p0)))) :: ((.d (.lit (.int .i64 p1))) :: (tp 2 ((.loc 0 0) :: (tp 9 ((.d (.lit (.bool (decide (((List.length p0 : Nat) : Int) < p1))))) :: (tp 27 []))))))), [(.box [(.d (byteD 0)), (.d (.lit (.int .i64 0))), (.d (.lit (.int .u64 0))), (.d (.lit (.string (toS ([] : List UInt8)))))])], 0⟩ ?_
    rcases tf_ (decide (((List.length p0 : Nat) : Int) < p1)) with hc14_5 | hc14_5
    · replace hm := cT hc14_5 hm
      refine AWP.if_ true (Eq.trans (by kernel_rfl) (lit_tf (b := decide (((List.length p0 : Nat) : Int) < p1)) hc14_5)) ?_
      refine AWP.seq ?_
      refine AWP.text ?_
      refine Wy (.agg [(.d (byteD 0)), (.d (.lit (.int .i64 0))), (.d (.lit (.int .u64 0))), (.d (.lit (.string (toS ([] : List UInt8)))))]) [] (Obd rfl) ?_
      refine Wy (.tup []) [(0, (.box [(.d (byteD 0)), (.d (.lit (.int .i64 0))), (.d (.lit (.int .u64 0))), (.d (.lit (.string (toS ([] : List UInt8)))))]))] (Ost rfl) ?_
      refine Wy (.d (.lit (.int .i64 0))) [] (Omv rfl) ?_
      refine Wy (.d (.lit (.int .i64 2))) [] (Omv rfl) ?_
      refine Walk.nil ?_
      refine Then.normal ?_
      refine AWP.ret ?_
      refine Then.ret ?_
      obtain rfl := Option.some.inj hm
      exact ret_i []
    · replace hm := cF hc14_5 hm
      refine AWP.if_ false (Eq.trans (by kernel_rfl) (lit_tf (b := decide (((List.length p0 : Nat) : Int) < p1)) hc14_5)) ?_
      refine AWP.skip ?_
      refine Then.normal ?_
      refine Amk 19 1 ⟨((.d (.lit (.string (toS p0)))) :: ((.d (.lit (.int .i64 p1))) :: (tp 2 ((.loc 0 0) :: (tp 37 []))))), [(.box [(.d (byteD 0)), (.d (.lit (.int .i64 0))), (.d (.lit (.int .u64 0))), (.d (.lit (.string (toS ([] : List UInt8)))))])], 0⟩ ?_
      refine AWP.seq ?_
      refine AWP.seq ?_
      refine AWP.text ?_
      refine Wy (.d (.lit (.int .i64 p1))) [] (Omv rfl) ?_
      refine Wy (.d (.lit (.string (toS p0)))) [] (Omv rfl) ?_
      refine Wy (.d (.lit (.int .i64 ((List.length p0 : Nat) : Int)))) [] (Oln rfl) ?_
      refine Wy (.d (.lit (.bool (decide (p1 = ((List.length p0 : Nat) : Int)))))) [] (Obn rfl (fun _ => hb_eql (k := .i64))) ?_
      refine Walk.nil ?_
      refine Then.normal ?_
      refine Amk 524307 1 ⟨((.d (.lit (.string (toS p0)))) :: ((.d (.lit (.int .i64 p1))) :: (tp 2 ((.loc 0 0) :: (tp 14 ((.d (.lit (.bool (decide (p1 = ((List.length p0 : Nat) : Int)))))) :: (tp 22 []))))))), [(.box [(.d (byteD 0)), (.d (.lit (.int .i64 0))), (.d (.lit (.int .u64 0))), (.d (.lit (.string (toS ([] : List UInt8)))))])], 0⟩ ?_
      rcases tf_ (decide (p1 = ((List.length p0 : Nat) : Int))) with hc19_6 | hc19_6
      · replace hm := cT hc19_6 hm
        refine AWP.if_ true (Eq.trans (by kernel_rfl) (lit_tf (b := decide (p1 = ((List.length p0 : Nat) : Int))) hc19_6)) ?_
        refine AWP.seq ?_
        refine AWP.text ?_
        refine Wy (.agg [(.d (byteD 0)), (.d (.lit (.int .i64 0))), (.d (.lit (.int .u64 0))), (.d (.lit (.string (toS ([] : List UInt8)))))]) [] (Obd rfl) ?_
        refine Wy (.tup []) [(0, (.box [(.d (byteD 0)), (.d (.lit (.int .i64 0))), (.d (.lit (.int .u64 0))), (.d (.lit (.string (toS ([] : List UInt8)))))]))] (Ost rfl) ?_
        refine Wy (.d (.lit (.int .i64 0))) [] (Omv rfl) ?_
        refine Wy (.d (.lit (.int .i64 3))) [] (Omv rfl) ?_
        refine Walk.nil ?_
        refine Then.normal ?_
        refine AWP.ret ?_
        refine Then.ret ?_
        obtain rfl := Option.some.inj hm
        exact ret_i []
      · replace hm := cF hc19_6 hm
        refine AWP.if_ false (Eq.trans (by kernel_rfl) (lit_tf (b := decide (p1 = ((List.length p0 : Nat) : Int))) hc19_6)) ?_
        refine AWP.skip ?_
        refine Then.normal ?_
        refine Amk 19 1 ⟨((.d (.lit (.string (toS p0)))) :: ((.d (.lit (.int .i64 p1))) :: (tp 2 ((.loc 0 0) :: (tp 37 []))))), [(.box [(.d (byteD 0)), (.d (.lit (.int .i64 0))), (.d (.lit (.int .u64 0))), (.d (.lit (.string (toS ([] : List UInt8)))))])], 0⟩ ?_
        refine AWP.seq ?_
        refine AWP.text ?_
        refine Wy (.d (.lit (.string (toS p0)))) [] (Omv rfl) ?_
        refine Wy (.d (.lit (.int .i64 p1))) [] (Omv rfl) ?_
        obtain ⟨x24_2, hx24_2, hm⟩ := bnd hm
        obtain ⟨hx24_2i, hx24_2g⟩ := geti_some hx24_2
        refine Wy (.d (byteD x24_2)) [] (Ocs (by kernel_rfl) (op_index_str rfl (by kernel_rfl) (s := toS p0) (by kernel_rfl) (k := .i64) (iv := p1) (by kernel_rfl) (i := (Int.toNat p1)) (hx24_2i) (b := x24_2) (hx24_2g))) ?_
        refine Wy (.d (.lit (.string (toS p0)))) [] (Omv rfl) ?_
        refine Wy (.d (.lit (.int .i64 p1))) [] (Omv rfl) ?_
        refine Wy (.d (.lit (.int .i64 (IntKind.i64.wrap (p1 + 1))))) [] (Obn rfl (fun _ => hb_add (k := .i64))) ?_
        obtain ⟨r28_2, hr28_2, hm⟩ := bnd hm
        refine Wy (.tup [(.agg [(.d (byteD r28_2.1.Kind)), (.d (.lit (.int .i64 r28_2.1.N))), (.d (.lit (.int .u64 r28_2.1.Bits))), (.d (.lit (.string (toS r28_2.1.Text))))]), (.d (.lit (.int .i64 r28_2.2.1))), (.d (.lit (.int .i64 r28_2.2.2)))]) [] (Ocf [] [] [] 0 (ok_value_body x24_2 p0 (IntKind.i64.wrap (p1 + 1)) r28_2 hr28_2) (fun a w => Try.call43 a w) rfl trivial) ?_
        refine Wy (.tup [(.agg [(.d (byteD r28_2.1.Kind)), (.d (.lit (.int .i64 r28_2.1.N))), (.d (.lit (.int .u64 r28_2.1.Bits))), (.d (.lit (.string (toS r28_2.1.Text))))]), (.d (.lit (.int .i64 r28_2.2.1))), (.d (.lit (.int .i64 r28_2.2.2)))]) [] (Omv rfl) ?_
        refine Wy (.agg [(.d (byteD r28_2.1.Kind)), (.d (.lit (.int .i64 r28_2.1.N))), (.d (.lit (.int .u64 r28_2.1.Bits))), (.d (.lit (.string (toS r28_2.1.Text))))]) [] (Oex rfl) ?_
        refine Wy (.d (.lit (.int .i64 r28_2.2.1))) [] (Oex rfl) ?_
        refine Wy (.d (.lit (.int .i64 r28_2.2.2))) [] (Oex rfl) ?_
        refine Wy (.tup []) [(0, (.box [(.d (byteD r28_2.1.Kind)), (.d (.lit (.int .i64 r28_2.1.N))), (.d (.lit (.int .u64 r28_2.1.Bits))), (.d (.lit (.string (toS r28_2.1.Text))))]))] (Ost rfl) ?_
        refine Wy (.d (.lit (.int .i64 r28_2.2.1))) [] (Omv rfl) ?_
        refine Wy (.d (.lit (.int .i64 r28_2.2.2))) [] (Omv rfl) ?_
        refine Walk.nil ?_
        refine Then.normal ?_
        refine Amk 112 1 ⟨(tp 4 ((.loc 0 0) :: ((.d (.lit (.int .i64 r28_2.2.1))) :: ((.d (.lit (.int .i64 r28_2.2.2))) :: (tp 35 []))))), [(.box [(.d (byteD r28_2.1.Kind)), (.d (.lit (.int .i64 r28_2.1.N))), (.d (.lit (.int .u64 r28_2.1.Bits))), (.d (.lit (.string (toS r28_2.1.Text))))])], 0⟩ ?_
        refine AWP.cutJ (α := Int) (fun x => match x with | y6_4 => (⟨(tp 4 ((.loc 0 0) :: ((.d (.lit (.int .i64 r28_2.2.1))) :: ((.d (.lit (.int .i64 y6_4))) :: (tp 35 []))))), [(.box [(.d (byteD r28_2.1.Kind)), (.d (.lit (.int .i64 r28_2.1.N))), (.d (.lit (.int .u64 r28_2.1.Bits))), (.d (.lit (.string (toS r28_2.1.Text))))])], 0⟩ : St)) (fun x => match x with | y6_4 => m_value_Take_j4 r28_2 y6_4 = some r) ?_ (fun J4 => ?_)
        · rintro y6_4 hm
          try dsimp only at hm ⊢
          unfold m_value_Take_j4 at hm
          refine AWP.seq ?_
          refine AWP.seq ?_
          refine AWP.text ?_
          refine Wy (.d (.lit (.int .i64 y6_4))) [] (Omv rfl) ?_
          refine Wy (.d (.lit (.bool (decide (y6_4 ≠ 0))))) [] (Obn rfl (fun _ => hb_neq (k := .i64))) ?_
          refine Walk.nil ?_
          refine Then.normal ?_
          refine Amk 137438953584 1 ⟨(tp 4 ((.loc 0 0) :: ((.d (.lit (.int .i64 r28_2.2.1))) :: ((.d (.lit (.int .i64 y6_4))) :: (tp 30 ((.d (.lit (.bool (decide (y6_4 ≠ 0))))) :: (tp 4 []))))))), [(.box [(.d (byteD r28_2.1.Kind)), (.d (.lit (.int .i64 r28_2.1.N))), (.d (.lit (.int .u64 r28_2.1.Bits))), (.d (.lit (.string (toS r28_2.1.Text))))])], 0⟩ ?_
          rcases tf_ (decide (y6_4 ≠ 0)) with hc37_7 | hc37_7
          · replace hm := cT hc37_7 hm
            refine AWP.if_ true (Eq.trans (by kernel_rfl) (lit_tf (b := decide (y6_4 ≠ 0)) hc37_7)) ?_
            refine AWP.seq ?_
            refine AWP.text ?_
            refine Wy (.agg [(.d (byteD 0)), (.d (.lit (.int .i64 0))), (.d (.lit (.int .u64 0))), (.d (.lit (.string (toS ([] : List UInt8)))))]) [] (Obd rfl) ?_
            refine Wy (.d (.lit (.int .i64 y6_4))) [] (Omv rfl) ?_
            refine Wy (.tup []) [(0, (.box [(.d (byteD 0)), (.d (.lit (.int .i64 0))), (.d (.lit (.int .u64 0))), (.d (.lit (.string (toS ([] : List UInt8)))))]))] (Ost rfl) ?_
            refine Wy (.d (.lit (.int .i64 0))) [] (Omv rfl) ?_
            refine Wy (.d (.lit (.int .i64 y6_4))) [] (Omv rfl) ?_
            refine Walk.nil ?_
            refine Then.normal ?_
            refine AWP.ret ?_
            refine Then.ret ?_
            obtain rfl := Option.some.inj hm
            exact ret_i []
          · replace hm := cF hc37_7 hm
            refine AWP.if_ false (Eq.trans (by kernel_rfl) (lit_tf (b := decide (y6_4 ≠ 0)) hc37_7)) ?_
            refine AWP.skip ?_
            refine Then.normal ?_
            refine Amk 48 1 ⟨(tp 4 ((.loc 0 0) :: ((.d (.lit (.int .i64 r28_2.2.1))) :: (tp 36 [])))), [(.box [(.d (byteD r28_2.1.Kind)), (.d (.lit (.int .i64 r28_2.1.N))), (.d (.lit (.int .u64 r28_2.1.Bits))), (.d (.lit (.string (toS r28_2.1.Text))))])], 0⟩ ?_
            refine AWP.seq ?_
            refine AWP.text ?_
            refine Wy (.agg [(.d (byteD r28_2.1.Kind)), (.d (.lit (.int .i64 r28_2.1.N))), (.d (.lit (.int .u64 r28_2.1.Bits))), (.d (.lit (.string (toS r28_2.1.Text))))]) [] (Old rfl) ?_
            refine Wy (.d (.lit (.int .i64 r28_2.2.1))) [] (Omv rfl) ?_
            refine Wy (.tup []) [(0, (.box [(.d (byteD r28_2.1.Kind)), (.d (.lit (.int .i64 r28_2.1.N))), (.d (.lit (.int .u64 r28_2.1.Bits))), (.d (.lit (.string (toS r28_2.1.Text))))]))] (Ost rfl) ?_
            refine Wy (.d (.lit (.int .i64 r28_2.2.1))) [] (Omv rfl) ?_
            refine Wy (.d (.lit (.int .i64 0))) [] (Omv rfl) ?_
            refine Walk.nil ?_
            refine Then.normal ?_
            refine AWP.ret ?_
            obtain rfl := Option.some.inj hm
            exact ret_i []
        refine AWP.seq ?_
        refine AWP.seq ?_
        refine AWP.text ?_
        refine Wy (.d (.lit (.int .i64 r28_2.2.2))) [] (Omv rfl) ?_
        refine Wy (.d (.lit (.bool (decide (r28_2.2.2 = 0))))) [] (Obn rfl (fun _ => hb_eql (k := .i64))) ?_
        refine Walk.nil ?_
        refine Then.normal ?_
        refine Amk 8589934704 1 ⟨(tp 4 ((.loc 0 0) :: ((.d (.lit (.int .i64 r28_2.2.1))) :: ((.d (.lit (.int .i64 r28_2.2.2))) :: (tp 26 ((.d (.lit (.bool (decide (r28_2.2.2 = 0))))) :: (tp 8 []))))))), [(.box [(.d (byteD r28_2.1.Kind)), (.d (.lit (.int .i64 r28_2.1.N))), (.d (.lit (.int .u64 r28_2.1.Bits))), (.d (.lit (.string (toS r28_2.1.Text))))])], 0⟩ ?_
        rcases tf_ (decide (r28_2.2.2 = 0)) with hc33_8 | hc33_8
        · replace hm := cT hc33_8 hm
          refine AWP.if_ true (Eq.trans (by kernel_rfl) (lit_tf (b := decide (r28_2.2.2 = 0)) hc33_8)) ?_
          refine AWP.text ?_
          refine Wy (.agg [(.d (byteD r28_2.1.Kind)), (.d (.lit (.int .i64 r28_2.1.N))), (.d (.lit (.int .u64 r28_2.1.Bits))), (.d (.lit (.string (toS r28_2.1.Text))))]) [] (Old rfl) ?_
          obtain ⟨r35_3, hr35_3, hm⟩ := bnd hm
          refine Wy (.d (.lit (.int .i64 r35_3))) [] (Ocf [] [] [] 0 (ok_value_Check r28_2.1 r35_3 hr35_3) (fun a w => Try.call12 a w) rfl trivial) ?_
          refine Wy (.d (.lit (.int .i64 r35_3))) [] (Omv rfl) ?_
          refine Walk.nil ?_
          refine Then.normal ?_
          exact AWP.weak (Weak.toK 112 0 0 [0]) (J4 (r35_3) hm)
        · replace hm := cF hc33_8 hm
          refine AWP.if_ false (Eq.trans (by kernel_rfl) (lit_tf (b := decide (r28_2.2.2 = 0)) hc33_8)) ?_
          refine AWP.skip ?_
          refine Then.normal ?_
          exact AWP.weak (Weak.toK 112 0 0 [0]) (J4 (r28_2.2.2) hm)

set_option maxRecDepth 20000 in
set_option maxHeartbeats 4000000 in
theorem ok_value_OfFlag (p0 : Bool) (r : GValue) (h : m_value_OfFlag p0 = some r) : GCall Try.prog 19 [(.d (.lit (.bool p0)))] [] (.agg [(.d (byteD r.Kind)), (.d (.lit (.int .i64 r.N))), (.d (.lit (.int .u64 r.Bits))), (.d (.lit (.string (toS r.Text))))]) [] := by
  refine GCall.of_body (n := 8) (rs := [(.cell 2 31)]) Try.func19 rfl rfl rfl ?_
  refine Ato ⟨((.d (.lit (.bool p0))) :: (tu 7 [])), [], 0⟩ ?_
  have hm := h
  unfold m_value_OfFlag at hm
  refine AWP.seq ?_
  refine AWP.text ?_
  refine Wy (.loc 0 0) [(0, (.box [(.d (byteD 0)), (.d (.lit (.int .i64 0))), (.d (.lit (.int .u64 0))), (.d (.lit (.string (toS ([] : List UInt8)))))]))] (Oal rfl) ?_
  refine Walk.nil ?_
  refine Then.normal ?_
  refine Amk 5 1 ⟨((.d (.lit (.bool p0))) :: (tp 1 ((.loc 0 0) :: (tp 5 [])))), [(.box [(.d (byteD 0)), (.d (.lit (.int .i64 0))), (.d (.lit (.int .u64 0))), (.d (.lit (.string (toS ([] : List UInt8)))))])], 0⟩ ?_
  refine AWP.seq ?_
  refine AWP.text ?_
  refine Wy (.agg [(.d (byteD 2)), (.d (.lit (.int .i64 0))), (.d (.lit (.int .u64 0))), (.d (.lit (.string (toS ([] : List UInt8)))))]) [] (Obd rfl) ?_
  refine Wy (.loc 1 0) [(1, (.box [(.d (byteD 0)), (.d (.lit (.int .i64 0))), (.d (.lit (.int .u64 0))), (.d (.lit (.string (toS ([] : List UInt8)))))]))] (Oal rfl) ?_
  refine Wy (.tup []) [(1, (.box [(.d (byteD 2)), (.d (.lit (.int .i64 0))), (.d (.lit (.int .u64 0))), (.d (.lit (.string (toS ([] : List UInt8)))))]))] (Ost rfl) ?_
  refine Walk.nil ?_
  refine Then.normal ?_
  refine Amk 13 3 ⟨((.d (.lit (.bool p0))) :: (tp 1 ((.loc 0 0) :: ((.loc 1 0) :: (tp 4 []))))), [(.box [(.d (byteD 0)), (.d (.lit (.int .i64 0))), (.d (.lit (.int .u64 0))), (.d (.lit (.string (toS ([] : List UInt8)))))]), (.box [(.d (byteD 2)), (.d (.lit (.int .i64 0))), (.d (.lit (.int .u64 0))), (.d (.lit (.string (toS ([] : List UInt8)))))])], 0⟩ ?_
  refine AWP.seq ?_
  refine AWP.seq ?_
  refine AWP.text ?_
  refine Wy (.d (.lit (.bool p0))) [] (Omv rfl) ?_
  refine Walk.nil ?_
  refine Then.normal ?_
  refine Amk 44 3 ⟨(tp 2 ((.loc 0 0) :: ((.loc 1 0) :: (tp 1 ((.d (.lit (.bool p0))) :: (tp 2 [])))))), [(.box [(.d (byteD 0)), (.d (.lit (.int .i64 0))), (.d (.lit (.int .u64 0))), (.d (.lit (.string (toS ([] : List UInt8)))))]), (.box [(.d (byteD 2)), (.d (.lit (.int .i64 0))), (.d (.lit (.int .u64 0))), (.d (.lit (.string (toS ([] : List UInt8)))))])], 0⟩ ?_
  rcases tf_ p0 with hc5_0 | hc5_0
  · replace hm := cT hc5_0 hm
    refine AWP.if_ true (Eq.trans (by kernel_rfl) (lit_tf (b := p0) hc5_0)) ?_
    refine AWP.text ?_
    refine Wy (.loc 1 1) [] (Ofa rfl) ?_
    refine Wy (.tup []) [(1, (.box [(.d (byteD 2)), (.d (.lit (.int .i64 1))), (.d (.lit (.int .u64 0))), (.d (.lit (.string (toS ([] : List UInt8)))))]))] (Ost rfl) ?_
    refine Walk.nil ?_
    refine Then.normal ?_
    refine Amk 12 3 ⟨(tp 2 ((.loc 0 0) :: ((.loc 1 0) :: (tp 4 [])))), [(.box [(.d (byteD 0)), (.d (.lit (.int .i64 0))), (.d (.lit (.int .u64 0))), (.d (.lit (.string (toS ([] : List UInt8)))))]), (.box [(.d (byteD 2)), (.d (.lit (.int .i64 1))), (.d (.lit (.int .u64 0))), (.d (.lit (.string (toS ([] : List UInt8)))))])], 0⟩ ?_
    refine AWP.seq ?_
    refine AWP.text ?_
    refine Wy (.agg [(.d (byteD 2)), (.d (.lit (.int .i64 1))), (.d (.lit (.int .u64 0))), (.d (.lit (.string (toS ([] : List UInt8)))))]) [] (Old rfl) ?_
    refine Wy (.tup []) [(0, (.box [(.d (byteD 2)), (.d (.lit (.int .i64 1))), (.d (.lit (.int .u64 0))), (.d (.lit (.string (toS ([] : List UInt8)))))]))] (Ost rfl) ?_
    refine Walk.nil ?_
    refine Then.normal ?_
    refine AWP.ret ?_
    obtain rfl := Option.some.inj hm
    exact ret_i []
  · replace hm := cF hc5_0 hm
    refine AWP.if_ false (Eq.trans (by kernel_rfl) (lit_tf (b := p0) hc5_0)) ?_
    refine AWP.skip ?_
    refine Then.normal ?_
    refine Amk 12 3 ⟨(tp 2 ((.loc 0 0) :: ((.loc 1 0) :: (tp 4 [])))), [(.box [(.d (byteD 0)), (.d (.lit (.int .i64 0))), (.d (.lit (.int .u64 0))), (.d (.lit (.string (toS ([] : List UInt8)))))]), (.box [(.d (byteD 2)), (.d (.lit (.int .i64 0))), (.d (.lit (.int .u64 0))), (.d (.lit (.string (toS ([] : List UInt8)))))])], 0⟩ ?_
    refine AWP.seq ?_
    refine AWP.text ?_
    refine Wy (.agg [(.d (byteD 2)), (.d (.lit (.int .i64 0))), (.d (.lit (.int .u64 0))), (.d (.lit (.string (toS ([] : List UInt8)))))]) [] (Old rfl) ?_
    refine Wy (.tup []) [(0, (.box [(.d (byteD 2)), (.d (.lit (.int .i64 0))), (.d (.lit (.int .u64 0))), (.d (.lit (.string (toS ([] : List UInt8)))))]))] (Ost rfl) ?_
    refine Walk.nil ?_
    refine Then.normal ?_
    refine AWP.ret ?_
    obtain rfl := Option.some.inj hm
    exact ret_i []

set_option maxRecDepth 20000 in
set_option maxHeartbeats 4000000 in
theorem ok_value_OfInt (p0 : Int) (r : GValue) (h : m_value_OfInt p0 = some r) : GCall Try.prog 18 [(.d (.lit (.int .i64 p0)))] [] (.agg [(.d (byteD r.Kind)), (.d (.lit (.int .i64 r.N))), (.d (.lit (.int .u64 r.Bits))), (.d (.lit (.string (toS r.Text))))]) [] := by
  refine GCall.of_body (n := 7) (rs := [(.cell 2 31)]) Try.func18 rfl rfl rfl ?_
  refine Ato ⟨((.d (.lit (.int .i64 p0))) :: (tu 6 [])), [], 0⟩ ?_
  have hm := h
  unfold m_value_OfInt at hm
  refine AWP.seq ?_
  refine AWP.text ?_
  refine Wy (.loc 0 0) [(0, (.box [(.d (byteD 0)), (.d (.lit (.int .i64 0))), (.d (.lit (.int .u64 0))), (.d (.lit (.string (toS ([] : List UInt8)))))]))] (Oal rfl) ?_
  refine Walk.nil ?_
  refine Then.normal ?_
  refine Amk 5 1 ⟨((.d (.lit (.int .i64 p0))) :: (tp 1 ((.loc 0 0) :: (tp 4 [])))), [(.box [(.d (byteD 0)), (.d (.lit (.int .i64 0))), (.d (.lit (.int .u64 0))), (.d (.lit (.string (toS ([] : List UInt8)))))])], 0⟩ ?_
  refine AWP.seq ?_
  refine AWP.text ?_
  refine Wy (.d (.lit (.int .i64 p0))) [] (Omv rfl) ?_
  refine Wy (.d (.lit (.int .i64 (min p0 4611686018427387904)))) [] (op_bi2 rfl (a1 := .int .i64 p0) (a2 := .int .i64 4611686018427387904) (by kernel_rfl) (by kernel_rfl) hb_min) ?_
  refine Wy (.d (.lit (.int .i64 (max (-4611686018427387904) (min p0 4611686018427387904))))) [] (op_bi2 rfl (a1 := .int .i64 (-4611686018427387904)) (a2 := .int .i64 (min p0 4611686018427387904)) (by kernel_rfl) (by kernel_rfl) hb_max) ?_
  refine Wy (.agg [(.d (byteD 1)), (.d (.lit (.int .i64 (max (-4611686018427387904) (min p0 4611686018427387904))))), (.d (.lit (.int .u64 0))), (.d (.lit (.string (toS ([] : List UInt8)))))]) [] (Obd rfl) ?_
  refine Wy (.tup []) [(0, (.box [(.d (byteD 1)), (.d (.lit (.int .i64 (max (-4611686018427387904) (min p0 4611686018427387904))))), (.d (.lit (.int .u64 0))), (.d (.lit (.string (toS ([] : List UInt8)))))]))] (Ost rfl) ?_
  refine Walk.nil ?_
  refine Then.normal ?_
  refine AWP.ret ?_
  obtain rfl := Option.some.inj hm
  exact ret_i []

set_option maxRecDepth 20000 in
set_option maxHeartbeats 4000000 in
theorem ok_cmp_isNaN_uint8 (p0 : UInt8) (r : Bool) (h : m_cmp_isNaN_uint8 p0 = some r) : GCall Try.prog 55 [(.d (byteD p0))] [] (.d (.lit (.bool r))) [] := by
  refine GCall.of_body (n := 6) (rs := [(.tmp 2)]) Try.func55 rfl rfl rfl ?_
  refine Ato ⟨((.d (byteD p0)) :: (tu 5 [])), [], 0⟩ ?_
  have hm := h
  unfold m_cmp_isNaN_uint8 at hm
  refine AWP.seq ?_
  refine AWP.text ?_
  refine Wy (.d (.lit (.bool false))) [] (Omv rfl) ?_
  refine Walk.nil ?_
  refine Then.normal ?_
  refine Amk 1 0 ⟨((.d (byteD p0)) :: (tp 5 [])), [], 0⟩ ?_
  refine AWP.seq ?_
  refine AWP.text ?_
  refine Wy (.d (byteD p0)) [] (Omv rfl) ?_
  refine Wy (.d (byteD p0)) [] (Omv rfl) ?_
  refine Wy (.d (.lit (.bool (decide (((p0.toNat : Nat) : Int) ≠ ((p0.toNat : Nat) : Int)))))) [] (Ocs (by kernel_rfl) (op_bin rfl (a1 := .int .u8 ((p0.toNat : Nat) : Int)) (a2 := .int .u8 ((p0.toNat : Nat) : Int)) (by kernel_rfl) (by kernel_rfl) (fun _ => hb_neq))) ?_
  refine Wy (.d (.lit (.bool (decide (((p0.toNat : Nat) : Int) ≠ ((p0.toNat : Nat) : Int)))))) [] (Omv rfl) ?_
  refine Walk.nil ?_
  refine Then.normal ?_
  refine AWP.ret ?_
  obtain rfl := Option.some.inj hm
  exact ret_i []

set_option maxRecDepth 20000 in
set_option maxHeartbeats 4000000 in
theorem ok_cmp_Compare_uint8 (p0 : UInt8) (p1 : UInt8) (r : Int) (h : m_cmp_Compare_uint8 p0 p1 = some r) : GCall Try.prog 37 [(.d (byteD p0)), (.d (byteD p1))] [] (.d (.lit (.int .i64 r))) [] := by
  refine GCall.of_body (n := 20) (rs := [(.tmp 4)]) Try.func37 rfl rfl rfl ?_
  refine Ato ⟨((.d (byteD p0)) :: ((.d (byteD p1)) :: (tu 18 []))), [], 0⟩ ?_
  have hm := h
  unfold m_cmp_Compare_uint8 at hm
  refine AWP.seq ?_
  refine AWP.text ?_
  refine Wy (.d (.lit (.int .i64 0))) [] (Omv rfl) ?_
  refine Walk.nil ?_
  refine Then.normal ?_
  refine Amk 3 0 ⟨((.d (byteD p0)) :: ((.d (byteD p1)) :: (tp 18 []))), [], 0⟩ ?_
  refine AWP.seq ?_
  refine AWP.text ?_
  refine Wy (.d (byteD p0)) [] (Omv rfl) ?_
  obtain ⟨r8_0, hr8_0, hm⟩ := bnd hm
  refine Wy (.d (.lit (.bool r8_0))) [] (Ocf [] [] [] 0 (ok_cmp_isNaN_uint8 p0 r8_0 hr8_0) (fun a w => Try.call55 a w) rfl trivial) ?_
  refine Wy (.d (.lit (.bool r8_0))) [] (Omv rfl) ?_
  refine Walk.nil ?_
  refine Then.normal ?_
  refine Amk 35 0 ⟨((.d (byteD p0)) :: ((.d (byteD p1)) :: (tp 3 ((.d (.lit (.bool r8_0))) :: (tp 14 []))))), [], 0⟩ ?_
  refine AWP.seq ?_
  refine AWP.text ?_
  refine Wy (.d (byteD p1)) [] (Omv rfl) ?_
  obtain ⟨r10_1, hr10_1, hm⟩ := bnd hm
  refine Wy (.d (.lit (.bool r10_1))) [] (Ocf [] [] [] 0 (ok_cmp_isNaN_uint8 p1 r10_1 hr10_1) (fun a w => Try.call55 a w) rfl trivial) ?_
  refine Wy (.d (.lit (.bool r10_1))) [] (Omv rfl) ?_
  refine Walk.nil ?_
  refine Then.normal ?_
  refine Amk 99 0 ⟨((.d (byteD p0)) :: ((.d (byteD p1)) :: (tp 3 ((.d (.lit (.bool r8_0))) :: ((.d (.lit (.bool r10_1))) :: (tp 13 [])))))), [], 0⟩ ?_
  refine AWP.seq ?_
  refine AWP.seq ?_
  refine AWP.text ?_
  refine Wy (.d (.lit (.bool r8_0))) [] (Omv rfl) ?_
  refine Walk.nil ?_
  refine Then.normal ?_
  refine Amk 2115 0 ⟨((.d (byteD p0)) :: ((.d (byteD p1)) :: (tp 4 ((.d (.lit (.bool r10_1))) :: (tp 4 ((.d (.lit (.bool r8_0))) :: (tp 8 []))))))), [], 0⟩ ?_
  rcases tf_ r8_0 with hc11_2 | hc11_2
  · replace hm := cT hc11_2 hm
    refine AWP.if_ true (Eq.trans (by kernel_rfl) (lit_tf (b := r8_0) hc11_2)) ?_
    refine AWP.seq ?_
    refine AWP.seq ?_
    refine AWP.text ?_
    refine Wy (.d (.lit (.bool r10_1))) [] (Omv rfl) ?_
    refine Walk.nil ?_
    refine Then.normal ?_
    refine Amk 4096 0 ⟨(tp 12 ((.d (.lit (.bool r10_1))) :: (tp 7 []))), [], 0⟩ ?_
    rcases tf_ r10_1 with hc12_3 | hc12_3
    · replace hm := cT hc12_3 hm
      refine AWP.if_ true (Eq.trans (by kernel_rfl) (lit_tf (b := r10_1) hc12_3)) ?_
      refine AWP.seq ?_
      refine AWP.text ?_
      refine Wy (.d (.lit (.int .i64 0))) [] (Omv rfl) ?_
      refine Walk.nil ?_
      refine Then.normal ?_
      refine AWP.ret ?_
      refine Then.ret ?_
      refine Then.ret ?_
      obtain rfl := Option.some.inj hm
      exact ret_i []
    · replace hm := cF hc12_3 hm
      refine AWP.if_ false (Eq.trans (by kernel_rfl) (lit_tf (b := r10_1) hc12_3)) ?_
      refine AWP.skip ?_
      refine Then.normal ?_
      refine Amk 0 0 ⟨(tp 20 []), [], 0⟩ ?_
      refine AWP.seq ?_
      refine AWP.text ?_
      refine Wy (.d (.lit (.int .i64 (-1)))) [] (Omv rfl) ?_
      refine Walk.nil ?_
      refine Then.normal ?_
      refine AWP.ret ?_
      refine Then.ret ?_
      obtain rfl := Option.some.inj hm
      exact ret_i []
  · replace hm := cF hc11_2 hm
    refine AWP.if_ false (Eq.trans (by kernel_rfl) (lit_tf (b := r8_0) hc11_2)) ?_
    refine AWP.skip ?_
    refine Then.normal ?_
    refine Amk 67 0 ⟨((.d (byteD p0)) :: ((.d (byteD p1)) :: (tp 4 ((.d (.lit (.bool r10_1))) :: (tp 13 []))))), [], 0⟩ ?_
    refine AWP.seq ?_
    refine AWP.seq ?_
    refine AWP.text ?_
    refine Wy (.d (.lit (.bool r10_1))) [] (Omv rfl) ?_
    refine Walk.nil ?_
    refine Then.normal ?_
    refine Amk 8195 0 ⟨((.d (byteD p0)) :: ((.d (byteD p1)) :: (tp 11 ((.d (.lit (.bool r10_1))) :: (tp 6 []))))), [], 0⟩ ?_
    rcases tf_ r10_1 with hc13_4 | hc13_4
    · replace hm := cT hc13_4 hm
      refine AWP.if_ true (Eq.trans (by kernel_rfl) (lit_tf (b := r10_1) hc13_4)) ?_
      refine AWP.seq ?_
      refine AWP.text ?_
      refine Wy (.d (.lit (.int .i64 1))) [] (Omv rfl) ?_
      refine Walk.nil ?_
      refine Then.normal ?_
      refine AWP.ret ?_
      refine Then.ret ?_
      obtain rfl := Option.some.inj hm
      exact ret_i []
    · replace hm := cF hc13_4 hm
      refine AWP.if_ false (Eq.trans (by kernel_rfl) (lit_tf (b := r10_1) hc13_4)) ?_
      refine AWP.skip ?_
      refine Then.normal ?_
      refine Amk 3 0 ⟨((.d (byteD p0)) :: ((.d (byteD p1)) :: (tp 18 []))), [], 0⟩ ?_
      refine AWP.seq ?_
      refine AWP.seq ?_
      refine AWP.text ?_
      refine Wy (.d (byteD p0)) [] (Omv rfl) ?_
      refine Wy (.d (byteD p1)) [] (Omv rfl) ?_
      refine Wy (.d (.lit (.bool (decide (((p0.toNat : Nat) : Int) < ((p1.toNat : Nat) : Int)))))) [] (Ocs (by kernel_rfl) (op_bin rfl (a1 := .int .u8 ((p0.toNat : Nat) : Int)) (a2 := .int .u8 ((p1.toNat : Nat) : Int)) (by kernel_rfl) (by kernel_rfl) (fun _ => hb_lss))) ?_
      refine Walk.nil ?_
      refine Then.normal ?_
      refine Amk 65539 0 ⟨((.d (byteD p0)) :: ((.d (byteD p1)) :: (tp 14 ((.d (.lit (.bool (decide (((p0.toNat : Nat) : Int) < ((p1.toNat : Nat) : Int)))))) :: (tp 3 []))))), [], 0⟩ ?_
      rcases tf_ (decide (((p0.toNat : Nat) : Int) < ((p1.toNat : Nat) : Int))) with hc16_5 | hc16_5
      · replace hm := cT hc16_5 hm
        refine AWP.if_ true (Eq.trans (by kernel_rfl) (lit_tf (b := decide (((p0.toNat : Nat) : Int) < ((p1.toNat : Nat) : Int))) hc16_5)) ?_
        refine AWP.seq ?_
        refine AWP.text ?_
        refine Wy (.d (.lit (.int .i64 (-1)))) [] (Omv rfl) ?_
        refine Walk.nil ?_
        refine Then.normal ?_
        refine AWP.ret ?_
        refine Then.ret ?_
        obtain rfl := Option.some.inj hm
        exact ret_i []
      · replace hm := cF hc16_5 hm
        refine AWP.if_ false (Eq.trans (by kernel_rfl) (lit_tf (b := decide (((p0.toNat : Nat) : Int) < ((p1.toNat : Nat) : Int))) hc16_5)) ?_
        refine AWP.skip ?_
        refine Then.normal ?_
        refine Amk 3 0 ⟨((.d (byteD p0)) :: ((.d (byteD p1)) :: (tp 18 []))), [], 0⟩ ?_
        refine AWP.seq ?_
        refine AWP.seq ?_
        refine AWP.text ?_
        refine Wy (.d (byteD p0)) [] (Omv rfl) ?_
        refine Wy (.d (byteD p1)) [] (Omv rfl) ?_
        refine Wy (.d (.lit (.bool (decide (((p1.toNat : Nat) : Int) < ((p0.toNat : Nat) : Int)))))) [] (Ocs (by kernel_rfl) (op_bin rfl (a1 := .int .u8 ((p0.toNat : Nat) : Int)) (a2 := .int .u8 ((p1.toNat : Nat) : Int)) (by kernel_rfl) (by kernel_rfl) (fun _ => hb_gtr))) ?_
        refine Walk.nil ?_
        refine Then.normal ?_
        refine Amk 524288 0 ⟨(tp 19 ((.d (.lit (.bool (decide (((p1.toNat : Nat) : Int) < ((p0.toNat : Nat) : Int)))))) :: [])), [], 0⟩ ?_
        rcases tf_ (decide (((p1.toNat : Nat) : Int) < ((p0.toNat : Nat) : Int))) with hc19_6 | hc19_6
        · replace hm := cT hc19_6 hm
          refine AWP.if_ true (Eq.trans (by kernel_rfl) (lit_tf (b := decide (((p1.toNat : Nat) : Int) < ((p0.toNat : Nat) : Int))) hc19_6)) ?_
          refine AWP.seq ?_
          refine AWP.text ?_
          refine Wy (.d (.lit (.int .i64 1))) [] (Omv rfl) ?_
          refine Walk.nil ?_
          refine Then.normal ?_
          refine AWP.ret ?_
          refine Then.ret ?_
          obtain rfl := Option.some.inj hm
          exact ret_i []
        · replace hm := cF hc19_6 hm
          refine AWP.if_ false (Eq.trans (by kernel_rfl) (lit_tf (b := decide (((p1.toNat : Nat) : Int) < ((p0.toNat : Nat) : Int))) hc19_6)) ?_
          refine AWP.skip ?_
          refine Then.normal ?_
          refine Amk 0 0 ⟨(tp 20 []), [], 0⟩ ?_
          refine AWP.seq ?_
          refine AWP.text ?_
          refine Wy (.d (.lit (.int .i64 0))) [] (Omv rfl) ?_
          refine Walk.nil ?_
          refine Then.normal ?_
          refine AWP.ret ?_
          obtain rfl := Option.some.inj hm
          exact ret_i []

set_option maxRecDepth 20000 in
set_option maxHeartbeats 4000000 in
theorem ok_cmp_isNaN_int (p0 : Int) (r : Bool) (h : m_cmp_isNaN_int p0 = some r) : GCall Try.prog 56 [(.d (.lit (.int .i64 p0)))] [] (.d (.lit (.bool r))) [] := by
  refine GCall.of_body (n := 6) (rs := [(.tmp 2)]) Try.func56 rfl rfl rfl ?_
  refine Ato ⟨((.d (.lit (.int .i64 p0))) :: (tu 5 [])), [], 0⟩ ?_
  have hm := h
  unfold m_cmp_isNaN_int at hm
  refine AWP.seq ?_
  refine AWP.text ?_
  refine Wy (.d (.lit (.bool false))) [] (Omv rfl) ?_
  refine Walk.nil ?_
  refine Then.normal ?_
  refine Amk 1 0 ⟨((.d (.lit (.int .i64 p0))) :: (tp 5 [])), [], 0⟩ ?_
  refine AWP.seq ?_
  refine AWP.text ?_
  refine Wy (.d (.lit (.int .i64 p0))) [] (Omv rfl) ?_
  refine Wy (.d (.lit (.int .i64 p0))) [] (Omv rfl) ?_
  refine Wy (.d (.lit (.bool (decide (p0 ≠ p0))))) [] (Obn rfl (fun _ => hb_neq (k := .i64))) ?_
  refine Wy (.d (.lit (.bool (decide (p0 ≠ p0))))) [] (Omv rfl) ?_
  refine Walk.nil ?_
  refine Then.normal ?_
  refine AWP.ret ?_
  obtain rfl := Option.some.inj hm
  exact ret_i []

set_option maxRecDepth 20000 in
set_option maxHeartbeats 4000000 in
theorem ok_cmp_Compare_int (p0 : Int) (p1 : Int) (r : Int) (h : m_cmp_Compare_int p0 p1 = some r) : GCall Try.prog 38 [(.d (.lit (.int .i64 p0))), (.d (.lit (.int .i64 p1)))] [] (.d (.lit (.int .i64 r))) [] := by
  refine GCall.of_body (n := 20) (rs := [(.tmp 4)]) Try.func38 rfl rfl rfl ?_
  refine Ato ⟨((.d (.lit (.int .i64 p0))) :: ((.d (.lit (.int .i64 p1))) :: (tu 18 []))), [], 0⟩ ?_
  have hm := h
  unfold m_cmp_Compare_int at hm
  refine AWP.seq ?_
  refine AWP.text ?_
  refine Wy (.d (.lit (.int .i64 0))) [] (Omv rfl) ?_
  refine Walk.nil ?_
  refine Then.normal ?_
  refine Amk 3 0 ⟨((.d (.lit (.int .i64 p0))) :: ((.d (.lit (.int .i64 p1))) :: (tp 18 []))), [], 0⟩ ?_
  refine AWP.seq ?_
  refine AWP.text ?_
  refine Wy (.d (.lit (.int .i64 p0))) [] (Omv rfl) ?_
  obtain ⟨r8_0, hr8_0, hm⟩ := bnd hm
  refine Wy (.d (.lit (.bool r8_0))) [] (Ocf [] [] [] 0 (ok_cmp_isNaN_int p0 r8_0 hr8_0) (fun a w => Try.call56 a w) rfl trivial) ?_
  refine Wy (.d (.lit (.bool r8_0))) [] (Omv rfl) ?_
  refine Walk.nil ?_
  refine Then.normal ?_
  refine Amk 35 0 ⟨((.d (.lit (.int .i64 p0))) :: ((.d (.lit (.int .i64 p1))) :: (tp 3 ((.d (.lit (.bool r8_0))) :: (tp 14 []))))), [], 0⟩ ?_
  refine AWP.seq ?_
  refine AWP.text ?_
  refine Wy (.d (.lit (.int .i64 p1))) [] (Omv rfl) ?_
  obtain ⟨r10_1, hr10_1, hm⟩ := bnd hm
  refine Wy (.d (.lit (.bool r10_1))) [] (Ocf [] [] [] 0 (ok_cmp_isNaN_int p1 r10_1 hr10_1) (fun a w => Try.call56 a w) rfl trivial) ?_
  refine Wy (.d (.lit (.bool r10_1))) [] (Omv rfl) ?_
  refine Walk.nil ?_
  refine Then.normal ?_
  refine Amk 99 0 ⟨((.d (.lit (.int .i64 p0))) :: ((.d (.lit (.int .i64 p1))) :: (tp 3 ((.d (.lit (.bool r8_0))) :: ((.d (.lit (.bool r10_1))) :: (tp 13 [])))))), [], 0⟩ ?_
  refine AWP.seq ?_
  refine AWP.seq ?_
  refine AWP.text ?_
  refine Wy (.d (.lit (.bool r8_0))) [] (Omv rfl) ?_
  refine Walk.nil ?_
  refine Then.normal ?_
  refine Amk 2115 0 ⟨((.d (.lit (.int .i64 p0))) :: ((.d (.lit (.int .i64 p1))) :: (tp 4 ((.d (.lit (.bool r10_1))) :: (tp 4 ((.d (.lit (.bool r8_0))) :: (tp 8 []))))))), [], 0⟩ ?_
  rcases tf_ r8_0 with hc11_2 | hc11_2
  · replace hm := cT hc11_2 hm
    refine AWP.if_ true (Eq.trans (by kernel_rfl) (lit_tf (b := r8_0) hc11_2)) ?_
    refine AWP.seq ?_
    refine AWP.seq ?_
    refine AWP.text ?_
    refine Wy (.d (.lit (.bool r10_1))) [] (Omv rfl) ?_
    refine Walk.nil ?_
    refine Then.normal ?_
    refine Amk 4096 0 ⟨(tp 12 ((.d (.lit (.bool r10_1))) :: (tp 7 []))), [], 0⟩ ?_
    rcases tf_ r10_1 with hc12_3 | hc12_3
    · replace hm := cT hc12_3 hm
      refine AWP.if_ true (Eq.trans (by kernel_rfl) (lit_tf (b := r10_1) hc12_3)) ?_
      refine AWP.seq ?_
      refine AWP.text ?_
      refine Wy (.d (.lit (.int .i64 0))) [] (Omv rfl) ?_
      refine Walk.nil ?_
      refine Then.normal ?_
      refine AWP.ret ?_
      refine Then.ret ?_
      refine Then.ret ?_
      obtain rfl := Option.some.inj hm
      exact ret_i []
    · replace hm := cF hc12_3 hm
      refine AWP.if_ false (Eq.trans (by kernel_rfl) (lit_tf (b := r10_1) hc12_3)) ?_
      refine AWP.skip ?_
      refine Then.normal ?_
      refine Amk 0 0 ⟨(tp 20 []), [], 0⟩ ?_
      refine AWP.seq ?_
      refine AWP.text ?_
      refine Wy (.d (.lit (.int .i64 (-1)))) [] (Omv rfl) ?_
      refine Walk.nil ?_
      refine Then.normal ?_
      refine AWP.ret ?_
      refine Then.ret ?_
      obtain rfl := Option.some.inj hm
      exact ret_i []
  · replace hm := cF hc11_2 hm
    refine AWP.if_ false (Eq.trans (by kernel_rfl) (lit_tf (b := r8_0) hc11_2)) ?_
    refine AWP.skip ?_
    refine Then.normal ?_
    refine Amk 67 0 ⟨((.d (.lit (.int .i64 p0))) :: ((.d (.lit (.int .i64 p1))) :: (tp 4 ((.d (.lit (.bool r10_1))) :: (tp 13 []))))), [], 0⟩ ?_
    refine AWP.seq ?_
    refine AWP.seq ?_
    refine AWP.text ?_
    refine Wy (.d (.lit (.bool r10_1))) [] (Omv rfl) ?_
    refine Walk.nil ?_
    refine Then.normal ?_
    refine Amk 8195 0 ⟨((.d (.lit (.int .i64 p0))) :: ((.d (.lit (.int .i64 p1))) :: (tp 11 ((.d (.lit (.bool r10_1))) :: (tp 6 []))))), [], 0⟩ ?_
    rcases tf_ r10_1 with hc13_4 | hc13_4
    · replace hm := cT hc13_4 hm
      refine AWP.if_ true (Eq.trans (by kernel_rfl) (lit_tf (b := r10_1) hc13_4)) ?_
      refine AWP.seq ?_
      refine AWP.text ?_
      refine Wy (.d (.lit (.int .i64 1))) [] (Omv rfl) ?_
      refine Walk.nil ?_
      refine Then.normal ?_
      refine AWP.ret ?_
      refine Then.ret ?_
      obtain rfl := Option.some.inj hm
      exact ret_i []
    · replace hm := cF hc13_4 hm
      refine AWP.if_ false (Eq.trans (by kernel_rfl) (lit_tf (b := r10_1) hc13_4)) ?_
      refine AWP.skip ?_
      refine Then.normal ?_
      refine Amk 3 0 ⟨((.d (.lit (.int .i64 p0))) :: ((.d (.lit (.int .i64 p1))) :: (tp 18 []))), [], 0⟩ ?_
      refine AWP.seq ?_
      refine AWP.seq ?_
      refine AWP.text ?_
      refine Wy (.d (.lit (.int .i64 p0))) [] (Omv rfl) ?_
      refine Wy (.d (.lit (.int .i64 p1))) [] (Omv rfl) ?_
      refine Wy (.d (.lit (.bool (decide (p0 < p1))))) [] (Obn rfl (fun _ => hb_lss (k := .i64))) ?_
      refine Walk.nil ?_
      refine Then.normal ?_
      refine Amk 65539 0 ⟨((.d (.lit (.int .i64 p0))) :: ((.d (.lit (.int .i64 p1))) :: (tp 14 ((.d (.lit (.bool (decide (p0 < p1))))) :: (tp 3 []))))), [], 0⟩ ?_
      rcases tf_ (decide (p0 < p1)) with hc16_5 | hc16_5
      · replace hm := cT hc16_5 hm
        refine AWP.if_ true (Eq.trans (by kernel_rfl) (lit_tf (b := decide (p0 < p1)) hc16_5)) ?_
        refine AWP.seq ?_
        refine AWP.text ?_
        refine Wy (.d (.lit (.int .i64 (-1)))) [] (Omv rfl) ?_
        refine Walk.nil ?_
        refine Then.normal ?_
        refine AWP.ret ?_
        refine Then.ret ?_
        obtain rfl := Option.some.inj hm
        exact ret_i []
      · replace hm := cF hc16_5 hm
        refine AWP.if_ false (Eq.trans (by kernel_rfl) (lit_tf (b := decide (p0 < p1)) hc16_5)) ?_
        refine AWP.skip ?_
        refine Then.normal ?_
        refine Amk 3 0 ⟨((.d (.lit (.int .i64 p0))) :: ((.d (.lit (.int .i64 p1))) :: (tp 18 []))), [], 0⟩ ?_
        refine AWP.seq ?_
        refine AWP.seq ?_
        refine AWP.text ?_
        refine Wy (.d (.lit (.int .i64 p0))) [] (Omv rfl) ?_
        refine Wy (.d (.lit (.int .i64 p1))) [] (Omv rfl) ?_
        refine Wy (.d (.lit (.bool (decide (p1 < p0))))) [] (Obn rfl (fun _ => hb_gtr (k := .i64))) ?_
        refine Walk.nil ?_
        refine Then.normal ?_
        refine Amk 524288 0 ⟨(tp 19 ((.d (.lit (.bool (decide (p1 < p0))))) :: [])), [], 0⟩ ?_
        rcases tf_ (decide (p1 < p0)) with hc19_6 | hc19_6
        · replace hm := cT hc19_6 hm
          refine AWP.if_ true (Eq.trans (by kernel_rfl) (lit_tf (b := decide (p1 < p0)) hc19_6)) ?_
          refine AWP.seq ?_
          refine AWP.text ?_
          refine Wy (.d (.lit (.int .i64 1))) [] (Omv rfl) ?_
          refine Walk.nil ?_
          refine Then.normal ?_
          refine AWP.ret ?_
          refine Then.ret ?_
          obtain rfl := Option.some.inj hm
          exact ret_i []
        · replace hm := cF hc19_6 hm
          refine AWP.if_ false (Eq.trans (by kernel_rfl) (lit_tf (b := decide (p1 < p0)) hc19_6)) ?_
          refine AWP.skip ?_
          refine Then.normal ?_
          refine Amk 0 0 ⟨(tp 20 []), [], 0⟩ ?_
          refine AWP.seq ?_
          refine AWP.text ?_
          refine Wy (.d (.lit (.int .i64 0))) [] (Omv rfl) ?_
          refine Walk.nil ?_
          refine Then.normal ?_
          refine AWP.ret ?_
          obtain rfl := Option.some.inj hm
          exact ret_i []
end Go.Proofs.Ytgocnknbiipcfaa.K
