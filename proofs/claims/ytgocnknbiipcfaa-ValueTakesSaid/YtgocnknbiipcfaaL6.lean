/- each function computes what its model says (6) -/
import Derived.Test.YtgocnknbiipcfaaL5
namespace Go.Proofs.Ytgocnknbiipcfaa.K
open Go.RowKit Go.Lib
set_option linter.unusedVariables false
set_option linter.unusedSimpArgs false

set_option maxRecDepth 20000 in
set_option maxHeartbeats 4000000 in
theorem ok_value_Check_m2 (p0 : GValue) (r : Int) (h : m_value_Check p0 = some r) : GCall Try.prog 12 [(.agg [(.d (byteD p0.Kind)), (.d (.lit (.int .i64 p0.N))), (.d (.lit (.int .u64 p0.Bits))), (.d (.lit (.string (toS p0.Text))))])] [] (.d (.lit (.int .i64 r))) [] := by
  refine GCall.of_body (n := 47) (rs := [(.tmp 2)]) Try.func12 rfl rfl rfl ?_
  refine Ato ⟨((.agg [(.d (byteD p0.Kind)), (.d (.lit (.int .i64 p0.N))), (.d (.lit (.int .u64 p0.Bits))), (.d (.lit (.string (toS p0.Text))))]) :: (tu 46 [])), [], 0⟩ ?_
  have hm := h
  unfold m_value_Check at hm
  refine AWP.seq ?_
  refine AWP.text ?_
  refine Wy (.loc 0 0) [(0, (.box [(.d (byteD p0.Kind)), (.d (.lit (.int .i64 p0.N))), (.d (.lit (.int .u64 p0.Bits))), (.d (.lit (.string (toS p0.Text))))]))] (Obx rfl) ?_
  refine Wy (.d (.lit (.int .i64 0))) [] (Omv rfl) ?_
  refine Walk.nil ?_
  refine Then.normal ?_
  refine Amk 2 1 ⟨(tp 1 ((.loc 0 0) :: (tp 45 []))), [(.box [(.d (byteD p0.Kind)), (.d (.lit (.int .i64 p0.N))), (.d (.lit (.int .u64 p0.Bits))), (.d (.lit (.string (toS p0.Text))))])], 0⟩ ?_
  refine AWP.seq ?_
  refine AWP.text ?_
  refine Wy (.agg [(.d (byteD p0.Kind)), (.d (.lit (.int .i64 p0.N))), (.d (.lit (.int .u64 p0.Bits))), (.d (.lit (.string (toS p0.Text))))]) [] (Old rfl) ?_
  obtain ⟨r10_0, hr10_0, hm⟩ := bnd hm
  refine Wy (.d (.lit r10_0)) [] (Ocf [] [] [] 0 (ok_value_core p0 r10_0 hr10_0) (fun a w => Try.call34 a w) rfl trivial) ?_
  refine Wy (.d (.lit r10_0)) [] (Omv rfl) ?_
  refine Walk.nil ?_
  refine Then.normal ?_
  refine Amk 10 1 ⟨(tp 1 ((.loc 0 0) :: (tp 1 ((.d (.lit r10_0)) :: (tp 43 []))))), [(.box [(.d (byteD p0.Kind)), (.d (.lit (.int .i64 p0.N))), (.d (.lit (.int .u64 p0.Bits))), (.d (.lit (.string (toS p0.Text))))])], 0⟩ ?_
  refine AWP.cutJ (α := Unit) (fun x => match x with | () => (⟨(tp 1 ((.loc 0 0) :: (tp 1 ((.d (.lit r10_0)) :: (tp 43 []))))), [(.box [(.d (byteD p0.Kind)), (.d (.lit (.int .i64 p0.N))), (.d (.lit (.int .u64 p0.Bits))), (.d (.lit (.string (toS p0.Text))))])], 0⟩ : St)) (fun x => match x with | () => m_value_Check_j9 p0 r10_0 = some r) ?_ (fun J9 => ?_)
  · rintro ⟨⟩ hm
    try dsimp only at hm ⊢
    unfold m_value_Check_j9 at hm
    refine AWP.seq ?_
    refine AWP.cutJ (α := Bool) (fun x => match x with | y46_11 => (⟨(tp 46 ((.d (.lit (.bool y46_11))) :: [])), [], 0⟩ : St)) (fun x => match x with | y46_11 => m_value_Check_j11  y46_11 = some r) ?_ (fun J11 => ?_)
    · rintro y46_11 hm
      try dsimp only at hm ⊢
      unfold m_value_Check_j11 at hm
      rcases tf_ y46_11 with hc46_11 | hc46_11
      · replace hm := cT hc46_11 hm
        refine AWP.if_ true (Eq.trans (by kernel_rfl) (lit_tf (b := y46_11) hc46_11)) ?_
        refine AWP.seq ?_
        refine AWP.text ?_
        refine Wy (.d (.lit (.int .i64 2))) [] (Omv rfl) ?_
        refine Walk.nil ?_
        refine Then.normal ?_
        refine AWP.ret ?_
        refine Then.ret ?_
        obtain rfl := Option.some.inj hm
        exact ret_i []
      · replace hm := cF hc46_11 hm
        refine AWP.if_ false (Eq.trans (by kernel_rfl) (lit_tf (b := y46_11) hc46_11)) ?_
        refine AWP.skip ?_
        refine Then.normal ?_
        refine Amk 0 0 ⟨(tp 47 []), [], 0⟩ ?_
        refine AWP.seq ?_
        refine AWP.text ?_
        refine Wy (.d (.lit (.int .i64 0))) [] (Omv rfl) ?_
        refine Walk.nil ?_
        refine Then.normal ?_
        refine AWP.ret ?_
        obtain rfl := Option.some.inj hm
        exact ret_i []
    refine AWP.seq ?_
    refine Adr ?_
    refine Wy (.d (.lit r10_0)) [] (Omv rfl) ?_
    rcases tf_ (isT 62 r10_0) with hq44_10_62 | hq44_10_62
    · replace hm := cT hq44_10_62 hm
      obtain ⟨n44_10_62, hn44_10_62, hm⟩ := bnd hm
      obtain ⟨r44_10_62, hr44_10_62, hm⟩ := bnd hm
      have hi_r44_10_62 := inI_some hq44_10_62 hn44_10_62
      refine Wy (.agg [(.d (byteD r44_10_62.Kind)), (.d (.lit (.int .i64 r44_10_62.N))), (.d (.lit (.int .u64 r44_10_62.Bits))), (.d (.lit (.string (toS r44_10_62.Text))))]) [] (Oiv (t := 62) (u := .int .i64 n44_10_62) (ok_value_number_whole n44_10_62 r44_10_62 hr44_10_62) (by simp [A.Plain, A.Plains, D.Plain, byteD]) (fun a w => Try.call89 a w) (fun w => by kernel_rfl) rfl (Eq.trans (by kernel_rfl) (congrArg (fun z => A.d (.lit z)) hi_r44_10_62))) ?_
      refine Wy (.agg [(.d (byteD p0.Kind)), (.d (.lit (.int .i64 p0.N))), (.d (.lit (.int .u64 p0.Bits))), (.d (.lit (.string (toS p0.Text))))]) [] (Old rfl) ?_
      obtain ⟨v46_10, hv46_10, hm⟩ := bnd hm; replace hv46_10 := Option.some.inj hv46_10
      refine Wy (.d (.lit (.bool v46_10))) [] (Ocs (Eq.trans (lit_tf (by simp only [toS_inj])) (congrArg (fun z => A.d (.lit (.bool z))) hv46_10)) (op_neq_struct rfl (la := [(.d (byteD r44_10_62.Kind)), (.d (.lit (.int .i64 r44_10_62.N))), (.d (.lit (.int .u64 r44_10_62.Bits))), (.d (.lit (.string (toS r44_10_62.Text))))]) (lb := [(.d (byteD p0.Kind)), (.d (.lit (.int .i64 p0.N))), (.d (.lit (.int .u64 p0.Bits))), (.d (.lit (.string (toS p0.Text))))]) (us := [.int .u8 ((r44_10_62.Kind.toNat : Nat) : Int), .int .i64 r44_10_62.N, .int .u64 r44_10_62.Bits, .string (toS r44_10_62.Text)]) (vs := [.int .u8 ((p0.Kind.toNat : Nat) : Int), .int .i64 p0.N, .int .u64 p0.Bits, .string (toS p0.Text)]) (r := (decide (((r44_10_62.Kind.toNat : Nat) : Int) = ((p0.Kind.toNat : Nat) : Int)) && (decide (r44_10_62.N = p0.N) && (decide (r44_10_62.Bits = p0.Bits) && (decide ((toS r44_10_62.Text) = (toS p0.Text)) && true))))) (by kernel_rfl) (by kernel_rfl) (by kernel_rfl) (by kernel_rfl) (by kernel_rfl))) ?_
      refine Wdr ?_
      refine Then.normal ?_
      exact AWP.weak (Weak.toK 70368744177664 0 0 []) (J11 (v46_10) hm)
    · replace hm := cF hq44_10_62 hm
      rcases tf_ (isT 63 r10_0) with hq44_10_63 | hq44_10_63
      · replace hm := cT hq44_10_63 hm
        obtain ⟨n44_10_63, hn44_10_63, hm⟩ := bnd hm
        obtain ⟨r44_10_63, hr44_10_63, hm⟩ := bnd hm
        have hi_r44_10_63 := inI_some hq44_10_63 hn44_10_63
        refine Wy (.agg [(.d (byteD r44_10_63.Kind)), (.d (.lit (.int .i64 r44_10_63.N))), (.d (.lit (.int .u64 r44_10_63.Bits))), (.d (.lit (.string (toS r44_10_63.Text))))]) [] (Oiv (t := 63) (u := .int .i64 n44_10_63) (ok_value_flag_whole n44_10_63 r44_10_63 hr44_10_63) (by simp [A.Plain, A.Plains, D.Plain, byteD]) (fun a w => Try.call90 a w) (fun w => by kernel_rfl) rfl (Eq.trans (by kernel_rfl) (congrArg (fun z => A.d (.lit z)) hi_r44_10_63))) ?_
        refine Wy (.agg [(.d (byteD p0.Kind)), (.d (.lit (.int .i64 p0.N))), (.d (.lit (.int .u64 p0.Bits))), (.d (.lit (.string (toS p0.Text))))]) [] (Old rfl) ?_
        obtain ⟨v46_10, hv46_10, hm⟩ := bnd hm; replace hv46_10 := Option.some.inj hv46_10
        refine Wy (.d (.lit (.bool v46_10))) [] (Ocs (Eq.trans (lit_tf (by simp only [toS_inj])) (congrArg (fun z => A.d (.lit (.bool z))) hv46_10)) (op_neq_struct rfl (la := [(.d (byteD r44_10_63.Kind)), (.d (.lit (.int .i64 r44_10_63.N))), (.d (.lit (.int .u64 r44_10_63.Bits))), (.d (.lit (.string (toS r44_10_63.Text))))]) (lb := [(.d (byteD p0.Kind)), (.d (.lit (.int .i64 p0.N))), (.d (.lit (.int .u64 p0.Bits))), (.d (.lit (.string (toS p0.Text))))]) (us := [.int .u8 ((r44_10_63.Kind.toNat : Nat) : Int), .int .i64 r44_10_63.N, .int .u64 r44_10_63.Bits, .string (toS r44_10_63.Text)]) (vs := [.int .u8 ((p0.Kind.toNat : Nat) : Int), .int .i64 p0.N, .int .u64 p0.Bits, .string (toS p0.Text)]) (r := (decide (((r44_10_63.Kind.toNat : Nat) : Int) = ((p0.Kind.toNat : Nat) : Int)) && (decide (r44_10_63.N = p0.N) && (decide (r44_10_63.Bits = p0.Bits) && (decide ((toS r44_10_63.Text) = (toS p0.Text)) && true))))) (by kernel_rfl) (by kernel_rfl) (by kernel_rfl) (by kernel_rfl) (by kernel_rfl))) ?_
        refine Wdr ?_
        refine Then.normal ?_
        exact AWP.weak (Weak.toK 70368744177664 0 0 []) (J11 (v46_10) hm)
      · replace hm := cF hq44_10_63 hm
        rcases tf_ (isT 64 r10_0) with hq44_10_64 | hq44_10_64
        · replace hm := cT hq44_10_64 hm
          obtain ⟨n44_10_64, hn44_10_64, hm⟩ := bnd hm
          obtain ⟨r44_10_64, hr44_10_64, hm⟩ := bnd hm
          have hi_r44_10_64 := inI_some hq44_10_64 hn44_10_64
          refine Wy (.agg [(.d (byteD r44_10_64.Kind)), (.d (.lit (.int .i64 r44_10_64.N))), (.d (.lit (.int .u64 r44_10_64.Bits))), (.d (.lit (.string (toS r44_10_64.Text))))]) [] (Oiv (t := 64) (u := .int .u64 n44_10_64) (ok_value_double_whole n44_10_64 r44_10_64 hr44_10_64) (by simp [A.Plain, A.Plains, D.Plain, byteD]) (fun a w => Try.call91 a w) (fun w => by kernel_rfl) rfl (Eq.trans (by kernel_rfl) (congrArg (fun z => A.d (.lit z)) hi_r44_10_64))) ?_
          refine Wy (.agg [(.d (byteD p0.Kind)), (.d (.lit (.int .i64 p0.N))), (.d (.lit (.int .u64 p0.Bits))), (.d (.lit (.string (toS p0.Text))))]) [] (Old rfl) ?_
          obtain ⟨v46_10, hv46_10, hm⟩ := bnd hm; replace hv46_10 := Option.some.inj hv46_10
          refine Wy (.d (.lit (.bool v46_10))) [] (Ocs (Eq.trans (lit_tf (by simp only [toS_inj])) (congrArg (fun z => A.d (.lit (.bool z))) hv46_10)) (op_neq_struct rfl (la := [(.d (byteD r44_10_64.Kind)), (.d (.lit (.int .i64 r44_10_64.N))), (.d (.lit (.int .u64 r44_10_64.Bits))), (.d (.lit (.string (toS r44_10_64.Text))))]) (lb := [(.d (byteD p0.Kind)), (.d (.lit (.int .i64 p0.N))), (.d (.lit (.int .u64 p0.Bits))), (.d (.lit (.string (toS p0.Text))))]) (us := [.int .u8 ((r44_10_64.Kind.toNat : Nat) : Int), .int .i64 r44_10_64.N, .int .u64 r44_10_64.Bits, .string (toS r44_10_64.Text)]) (vs := [.int .u8 ((p0.Kind.toNat : Nat) : Int), .int .i64 p0.N, .int .u64 p0.Bits, .string (toS p0.Text)]) (r := (decide (((r44_10_64.Kind.toNat : Nat) : Int) = ((p0.Kind.toNat : Nat) : Int)) && (decide (r44_10_64.N = p0.N) && (decide (r44_10_64.Bits = p0.Bits) && (decide ((toS r44_10_64.Text) = (toS p0.Text)) && true))))) (by kernel_rfl) (by kernel_rfl) (by kernel_rfl) (by kernel_rfl) (by kernel_rfl))) ?_
          refine Wdr ?_
          refine Then.normal ?_
          exact AWP.weak (Weak.toK 70368744177664 0 0 []) (J11 (v46_10) hm)
        · replace hm := cF hq44_10_64 hm
          rcases tf_ (isT 66 r10_0) with hq44_10_66 | hq44_10_66
          · replace hm := cT hq44_10_66 hm
            obtain ⟨n44_10_66, hn44_10_66, hm⟩ := bnd hm
            obtain ⟨r44_10_66, hr44_10_66, hm⟩ := bnd hm
            have hi_r44_10_66 := inS_some hq44_10_66 hn44_10_66
            refine Wy (.agg [(.d (byteD r44_10_66.Kind)), (.d (.lit (.int .i64 r44_10_66.N))), (.d (.lit (.int .u64 r44_10_66.Bits))), (.d (.lit (.string (toS r44_10_66.Text))))]) [] (Oiv (t := 66) (u := .string (toS n44_10_66)) (ok_value_words_whole n44_10_66 r44_10_66 hr44_10_66) (by simp [A.Plain, A.Plains, D.Plain, byteD]) (fun a w => Try.call92 a w) (fun w => by kernel_rfl) rfl (Eq.trans (by kernel_rfl) (congrArg (fun z => A.d (.lit z)) hi_r44_10_66))) ?_
            refine Wy (.agg [(.d (byteD p0.Kind)), (.d (.lit (.int .i64 p0.N))), (.d (.lit (.int .u64 p0.Bits))), (.d (.lit (.string (toS p0.Text))))]) [] (Old rfl) ?_
            obtain ⟨v46_10, hv46_10, hm⟩ := bnd hm; replace hv46_10 := Option.some.inj hv46_10
            refine Wy (.d (.lit (.bool v46_10))) [] (Ocs (Eq.trans (lit_tf (by simp only [toS_inj])) (congrArg (fun z => A.d (.lit (.bool z))) hv46_10)) (op_neq_struct rfl (la := [(.d (byteD r44_10_66.Kind)), (.d (.lit (.int .i64 r44_10_66.N))), (.d (.lit (.int .u64 r44_10_66.Bits))), (.d (.lit (.string (toS r44_10_66.Text))))]) (lb := [(.d (byteD p0.Kind)), (.d (.lit (.int .i64 p0.N))), (.d (.lit (.int .u64 p0.Bits))), (.d (.lit (.string (toS p0.Text))))]) (us := [.int .u8 ((r44_10_66.Kind.toNat : Nat) : Int), .int .i64 r44_10_66.N, .int .u64 r44_10_66.Bits, .string (toS r44_10_66.Text)]) (vs := [.int .u8 ((p0.Kind.toNat : Nat) : Int), .int .i64 p0.N, .int .u64 p0.Bits, .string (toS p0.Text)]) (r := (decide (((r44_10_66.Kind.toNat : Nat) : Int) = ((p0.Kind.toNat : Nat) : Int)) && (decide (r44_10_66.N = p0.N) && (decide (r44_10_66.Bits = p0.Bits) && (decide ((toS r44_10_66.Text) = (toS p0.Text)) && true))))) (by kernel_rfl) (by kernel_rfl) (by kernel_rfl) (by kernel_rfl) (by kernel_rfl))) ?_
            refine Wdr ?_
            refine Then.normal ?_
            exact AWP.weak (Weak.toK 70368744177664 0 0 []) (J11 (v46_10) hm)
          · replace hm := cF hq44_10_66 hm
            exact nomatch hm
  refine AWP.seq ?_
  refine AWP.seq ?_
  refine AWP.text ?_
  refine Wy (.d (.lit r10_0)) [] (Omv rfl) ?_
  refine Walk.nil ?_
  refine Then.normal ?_
  refine Amk 2058 1 ⟨(tp 1 ((.loc 0 0) :: (tp 1 ((.d (.lit r10_0)) :: (tp 7 ((.d (.lit r10_0)) :: (tp 35 []))))))), [(.box [(.d (byteD p0.Kind)), (.d (.lit (.int .i64 p0.N))), (.d (.lit (.int .u64 p0.Bits))), (.d (.lit (.string (toS p0.Text))))])], 0⟩ ?_
  refine AWP.block ?_
  refine AWP.seq ?_
  refine AWP.text ?_
  obtain ⟨z12_1, hz12_1, hm⟩ := bnd hm
  refine Wy (.tup [(.d (.lit (.int .i64 z12_1.1))), (.d (.lit (.bool z12_1.2)))]) [] (OtI hz12_1 rfl) ?_
  refine Wy (.d (.lit (.bool z12_1.2))) [] (Oex rfl) ?_
  refine Wy (.d (.lit (.int .i64 z12_1.1))) [] (Oex rfl) ?_
  refine Walk.nil ?_
  refine Then.normal ?_
  refine Amk 26634 1 ⟨(tp 1 ((.loc 0 0) :: (tp 1 ((.d (.lit r10_0)) :: (tp 7 ((.d (.lit r10_0)) :: (tp 1 ((.d (.lit (.bool z12_1.2))) :: ((.d (.lit (.int .i64 z12_1.1))) :: (tp 32 [])))))))))), [(.box [(.d (byteD p0.Kind)), (.d (.lit (.int .i64 p0.N))), (.d (.lit (.int .u64 p0.Bits))), (.d (.lit (.string (toS p0.Text))))])], 0⟩ ?_
  rcases tf_ z12_1.2 with hc13_12 | hc13_12
  · replace hm := cT hc13_12 hm
    refine AWP.if_ true (Eq.trans (by kernel_rfl) (lit_tf (b := z12_1.2) hc13_12)) ?_
    refine AWP.seq ?_
    refine AWP.text ?_
    refine Wy (.d (.lit (.int .i64 z12_1.1))) [] (Omv rfl) ?_
    refine Walk.nil ?_
    refine Then.normal ?_
    refine Amk 26 1 ⟨(tp 1 ((.loc 0 0) :: (tp 1 ((.d (.lit r10_0)) :: ((.d (.lit (.int .i64 z12_1.1))) :: (tp 42 [])))))), [(.box [(.d (byteD p0.Kind)), (.d (.lit (.int .i64 p0.N))), (.d (.lit (.int .u64 p0.Bits))), (.d (.lit (.string (toS p0.Text))))])], 0⟩ ?_
    refine AWP.seq ?_
    refine AWP.text ?_
    refine Wy (.d (.lit (.int .i64 z12_1.1))) [] (Omv rfl) ?_
    refine Wy (.d (.lit (.bool (decide (z12_1.1 < (-4611686018427387904)))))) [] (Obn rfl (fun _ => hb_lss (k := .i64))) ?_
    rcases tf_ (decide (z12_1.1 < (-4611686018427387904))) with hq17_2 | hq17_2
    · replace hm := cT hq17_2 hm
      refine Wy (.d (.lit (.bool true))) [] (Ocs (lit_tf (b := decide (z12_1.1 < (-4611686018427387904))) hq17_2) (Omv rfl)) ?_
      refine Wn ?_
      refine Wn ?_
      refine Wy (.d (.lit (.bool true))) [] (OpT rfl) ?_
      refine Walk.nil ?_
      refine Then.normal ?_
      refine Amk 1048586 1 ⟨(tp 1 ((.loc 0 0) :: (tp 1 ((.d (.lit r10_0)) :: (tp 16 ((.d (.lit (.bool true))) :: (tp 26 []))))))), [(.box [(.d (byteD p0.Kind)), (.d (.lit (.int .i64 p0.N))), (.d (.lit (.int .u64 p0.Bits))), (.d (.lit (.string (toS p0.Text))))])], 0⟩ ?_
      refine AWP.if_ true (by kernel_rfl) ?_
      refine AWP.seq ?_
      refine AWP.text ?_
      refine Wy (.d (.lit (.int .i64 8))) [] (Omv rfl) ?_
      refine Walk.nil ?_
      refine Then.normal ?_
      refine AWP.ret ?_
      refine InBlock.ret ?_
      refine Then.ret ?_
      obtain rfl := Option.some.inj hm
      exact ret_i []
    · replace hm := cF hq17_2 hm
      refine Wy (.d (.lit (.bool false))) [] (Ocs (lit_tf (b := decide (z12_1.1 < (-4611686018427387904))) hq17_2) (Omv rfl)) ?_
      refine Wy (.d (.lit (.int .i64 z12_1.1))) [] (Omv rfl) ?_
      refine Wy (.d (.lit (.bool (decide ((4611686018427387904 : Int) < z12_1.1))))) [] (Obn rfl (fun _ => hb_gtr (k := .i64))) ?_
      refine Wy (.d (.lit (.bool (decide ((4611686018427387904 : Int) < z12_1.1))))) [] (OpF rfl) ?_
      refine Walk.nil ?_
      refine Then.normal ?_
      refine Amk 1048586 1 ⟨(tp 1 ((.loc 0 0) :: (tp 1 ((.d (.lit r10_0)) :: (tp 16 ((.d (.lit (.bool (decide ((4611686018427387904 : Int) < z12_1.1))))) :: (tp 26 []))))))), [(.box [(.d (byteD p0.Kind)), (.d (.lit (.int .i64 p0.N))), (.d (.lit (.int .u64 p0.Bits))), (.d (.lit (.string (toS p0.Text))))])], 0⟩ ?_
      rcases tf_ (decide ((4611686018427387904 : Int) < z12_1.1)) with hc20_13 | hc20_13
      · replace hm := cT hc20_13 hm
        refine AWP.if_ true (Eq.trans (by kernel_rfl) (lit_tf (b := decide ((4611686018427387904 : Int) < z12_1.1)) hc20_13)) ?_
        refine AWP.seq ?_
        refine AWP.text ?_
        refine Wy (.d (.lit (.int .i64 8))) [] (Omv rfl) ?_
        refine Walk.nil ?_
        refine Then.normal ?_
        refine AWP.ret ?_
        refine InBlock.ret ?_
        refine Then.ret ?_
        obtain rfl := Option.some.inj hm
        exact ret_i []
      · replace hm := cF hc20_13 hm
        refine AWP.if_ false (Eq.trans (by kernel_rfl) (lit_tf (b := decide ((4611686018427387904 : Int) < z12_1.1)) hc20_13)) ?_
        refine AWP.skip ?_
        refine InBlock.normal ?_
        refine Then.normal ?_
        exact AWP.weak (Weak.toK 10 0 0 [0]) (J9 () hm)
  · replace hm := cF hc13_12 hm
    refine AWP.if_ false (Eq.trans (by kernel_rfl) (lit_tf (b := z12_1.2) hc13_12)) ?_
    refine AWP.seq ?_
    refine AWP.text ?_
    obtain ⟨z21_3, hz21_3, hm⟩ := bnd hm
    refine Wy (.tup [(.d (.lit (.int .i64 z21_3.1))), (.d (.lit (.bool z21_3.2)))]) [] (OtI hz21_3 rfl) ?_
    refine Wy (.d (.lit (.bool z21_3.2))) [] (Oex rfl) ?_
    refine Wy (.d (.lit (.int .i64 z21_3.1))) [] (Oex rfl) ?_
    refine Walk.nil ?_
    refine Then.normal ?_
    refine Amk 12584970 1 ⟨(tp 1 ((.loc 0 0) :: (tp 1 ((.d (.lit r10_0)) :: (tp 7 ((.d (.lit r10_0)) :: (tp 10 ((.d (.lit (.bool z21_3.2))) :: ((.d (.lit (.int .i64 z21_3.1))) :: (tp 23 [])))))))))), [(.box [(.d (byteD p0.Kind)), (.d (.lit (.int .i64 p0.N))), (.d (.lit (.int .u64 p0.Bits))), (.d (.lit (.string (toS p0.Text))))])], 0⟩ ?_
    rcases tf_ z21_3.2 with hc22_14 | hc22_14
    · replace hm := cT hc22_14 hm
      refine AWP.if_ true (Eq.trans (by kernel_rfl) (lit_tf (b := z21_3.2) hc22_14)) ?_
      refine AWP.seq ?_
      refine AWP.text ?_
      refine Wy (.d (.lit (.int .i64 z21_3.1))) [] (Omv rfl) ?_
      refine Walk.nil ?_
      refine Then.normal ?_
      refine Amk 42 1 ⟨(tp 1 ((.loc 0 0) :: (tp 1 ((.d (.lit r10_0)) :: (tp 1 ((.d (.lit (.int .i64 z21_3.1))) :: (tp 41 []))))))), [(.box [(.d (byteD p0.Kind)), (.d (.lit (.int .i64 p0.N))), (.d (.lit (.int .u64 p0.Bits))), (.d (.lit (.string (toS p0.Text))))])], 0⟩ ?_
      refine AWP.seq ?_
      refine AWP.text ?_
      refine Wy (.d (.lit (.int .i64 z21_3.1))) [] (Omv rfl) ?_
      refine Wy (.d (.lit (.bool (decide (z21_3.1 ≠ 0))))) [] (Obn rfl (fun _ => hb_neq (k := .i64))) ?_
      rcases tf_ (decide (z21_3.1 ≠ 0)) with hq26_4 | hq26_4
      · replace hm := cT hq26_4 hm
        refine Wy (.d (.lit (.bool true))) [] (Ocs (lit_tf (b := decide (z21_3.1 ≠ 0)) hq26_4) (Omv rfl)) ?_
        refine Wy (.d (.lit (.int .i64 z21_3.1))) [] (Omv rfl) ?_
        refine Wy (.d (.lit (.bool (decide (z21_3.1 ≠ 1))))) [] (Obn rfl (fun _ => hb_neq (k := .i64))) ?_
        refine Wy (.d (.lit (.bool (decide (z21_3.1 ≠ 1))))) [] (OpT rfl) ?_
        refine Walk.nil ?_
        refine Then.normal ?_
        refine Amk 536870922 1 ⟨(tp 1 ((.loc 0 0) :: (tp 1 ((.d (.lit r10_0)) :: (tp 25 ((.d (.lit (.bool (decide (z21_3.1 ≠ 1))))) :: (tp 17 []))))))), [(.box [(.d (byteD p0.Kind)), (.d (.lit (.int .i64 p0.N))), (.d (.lit (.int .u64 p0.Bits))), (.d (.lit (.string (toS p0.Text))))])], 0⟩ ?_
        rcases tf_ (decide (z21_3.1 ≠ 1)) with hc29_15 | hc29_15
        · replace hm := cT hc29_15 hm
          refine AWP.if_ true (Eq.trans (by kernel_rfl) (lit_tf (b := decide (z21_3.1 ≠ 1)) hc29_15)) ?_
          refine AWP.seq ?_
          refine AWP.text ?_
          refine Wy (.d (.lit (.int .i64 8))) [] (Omv rfl) ?_
          refine Walk.nil ?_
          refine Then.normal ?_
          refine AWP.ret ?_
          refine InBlock.ret ?_
          refine Then.ret ?_
          obtain rfl := Option.some.inj hm
          exact ret_i []
        · replace hm := cF hc29_15 hm
          refine AWP.if_ false (Eq.trans (by kernel_rfl) (lit_tf (b := decide (z21_3.1 ≠ 1)) hc29_15)) ?_
          refine AWP.skip ?_
          refine InBlock.normal ?_
          refine Then.normal ?_
          exact AWP.weak (Weak.toK 10 0 0 [0]) (J9 () hm)
      · replace hm := cF hq26_4 hm
        refine Wy (.d (.lit (.bool false))) [] (Ocs (lit_tf (b := decide (z21_3.1 ≠ 0)) hq26_4) (Omv rfl)) ?_
        refine Wn ?_
        refine Wn ?_
        refine Wy (.d (.lit (.bool false))) [] (OpF rfl) ?_
        refine Walk.nil ?_
        refine Then.normal ?_
        refine Amk 536870922 1 ⟨(tp 1 ((.loc 0 0) :: (tp 1 ((.d (.lit r10_0)) :: (tp 25 ((.d (.lit (.bool false))) :: (tp 17 []))))))), [(.box [(.d (byteD p0.Kind)), (.d (.lit (.int .i64 p0.N))), (.d (.lit (.int .u64 p0.Bits))), (.d (.lit (.string (toS p0.Text))))])], 0⟩ ?_
        refine AWP.if_ false (by kernel_rfl) ?_
        refine AWP.skip ?_
        refine InBlock.normal ?_
        refine Then.normal ?_
        exact AWP.weak (Weak.toK 10 0 0 [0]) (J9 () hm)
    · replace hm := cF hc22_14 hm
      refine AWP.if_ false (Eq.trans (by kernel_rfl) (lit_tf (b := z21_3.2) hc22_14)) ?_
      refine AWP.seq ?_
      refine AWP.text ?_
      obtain ⟨z30_5, hz30_5, hm⟩ := bnd hm
      refine Wy (.tup [(.d (.lit (.int .u64 z30_5.1))), (.d (.lit (.bool z30_5.2)))]) [] (OtI hz30_5 rfl) ?_
      refine Wy (.d (.lit (.bool z30_5.2))) [] (Oex rfl) ?_
      refine Wy (.d (.lit (.int .u64 z30_5.1))) [] (Oex rfl) ?_
      refine Walk.nil ?_
      refine Then.normal ?_
      refine Amk 6442453002 1 ⟨(tp 1 ((.loc 0 0) :: (tp 1 ((.d (.lit r10_0)) :: (tp 7 ((.d (.lit r10_0)) :: (tp 19 ((.d (.lit (.bool z30_5.2))) :: ((.d (.lit (.int .u64 z30_5.1))) :: (tp 14 [])))))))))), [(.box [(.d (byteD p0.Kind)), (.d (.lit (.int .i64 p0.N))), (.d (.lit (.int .u64 p0.Bits))), (.d (.lit (.string (toS p0.Text))))])], 0⟩ ?_
      rcases tf_ z30_5.2 with hc31_16 | hc31_16
      · replace hm := cT hc31_16 hm
        refine AWP.if_ true (Eq.trans (by kernel_rfl) (lit_tf (b := z30_5.2) hc31_16)) ?_
        refine AWP.seq ?_
        refine AWP.text ?_
        refine Wy (.d (.lit (.int .u64 z30_5.1))) [] (Omv rfl) ?_
        refine Walk.nil ?_
        refine Then.normal ?_
        refine Amk 74 1 ⟨(tp 1 ((.loc 0 0) :: (tp 1 ((.d (.lit r10_0)) :: (tp 2 ((.d (.lit (.int .u64 z30_5.1))) :: (tp 40 []))))))), [(.box [(.d (byteD p0.Kind)), (.d (.lit (.int .i64 p0.N))), (.d (.lit (.int .u64 p0.Bits))), (.d (.lit (.string (toS p0.Text))))])], 0⟩ ?_
        refine AWP.seq ?_
        refine AWP.text ?_
        refine Wy (.d (.lit (.int .u64 z30_5.1))) [] (Omv rfl) ?_
        obtain ⟨r34_6, hr34_6, hm⟩ := bnd hm
        refine Wy (.d (.lit (.int .u64 r34_6))) [] (Ocf [] [] [] 0 (ok_real_Clean z30_5.1 r34_6 hr34_6) (fun a w => Try.call35 a w) rfl trivial) ?_
        refine Wy (.d (.lit (.int .u64 z30_5.1))) [] (Omv rfl) ?_
        refine Wy (.d (.lit (.bool (decide (r34_6 ≠ z30_5.1))))) [] (Obn rfl (fun _ => hb_neq (k := .u64))) ?_
        refine Walk.nil ?_
        refine Then.normal ?_
        refine Amk 68719476746 1 ⟨(tp 1 ((.loc 0 0) :: (tp 1 ((.d (.lit r10_0)) :: (tp 32 ((.d (.lit (.bool (decide (r34_6 ≠ z30_5.1))))) :: (tp 10 []))))))), [(.box [(.d (byteD p0.Kind)), (.d (.lit (.int .i64 p0.N))), (.d (.lit (.int .u64 p0.Bits))), (.d (.lit (.string (toS p0.Text))))])], 0⟩ ?_
        rcases tf_ (decide (r34_6 ≠ z30_5.1)) with hc36_17 | hc36_17
        · replace hm := cT hc36_17 hm
          refine AWP.if_ true (Eq.trans (by kernel_rfl) (lit_tf (b := decide (r34_6 ≠ z30_5.1)) hc36_17)) ?_
          refine AWP.seq ?_
          refine AWP.text ?_
          refine Wy (.d (.lit (.int .i64 4))) [] (Omv rfl) ?_
          refine Walk.nil ?_
          refine Then.normal ?_
          refine AWP.ret ?_
          refine InBlock.ret ?_
          refine Then.ret ?_
          obtain rfl := Option.some.inj hm
          exact ret_i []
        · replace hm := cF hc36_17 hm
          refine AWP.if_ false (Eq.trans (by kernel_rfl) (lit_tf (b := decide (r34_6 ≠ z30_5.1)) hc36_17)) ?_
          refine AWP.skip ?_
          refine InBlock.normal ?_
          refine Then.normal ?_
          exact AWP.weak (Weak.toK 10 0 0 [0]) (J9 () hm)
      · replace hm := cF hc31_16 hm
        refine AWP.if_ false (Eq.trans (by kernel_rfl) (lit_tf (b := z30_5.2) hc31_16)) ?_
        refine AWP.seq ?_
        refine AWP.text ?_
        obtain ⟨z37_7, hz37_7, hm⟩ := bnd hm
        refine Wy (.tup [(.d (.lit (.string (toS z37_7.1)))), (.d (.lit (.bool z37_7.2)))]) [] (OtS hz37_7 rfl) ?_
        refine Wy (.d (.lit (.bool z37_7.2))) [] (Oex rfl) ?_
        refine Wy (.d (.lit (.string (toS z37_7.1)))) [] (Oex rfl) ?_
        refine Walk.nil ?_
        refine Then.normal ?_
        refine Amk 824633722890 1 ⟨(tp 1 ((.loc 0 0) :: (tp 1 ((.d (.lit r10_0)) :: (tp 7 ((.d (.lit r10_0)) :: (tp 26 ((.d (.lit (.bool z37_7.2))) :: ((.d (.lit (.string (toS z37_7.1)))) :: (tp 7 [])))))))))), [(.box [(.d (byteD p0.Kind)), (.d (.lit (.int .i64 p0.N))), (.d (.lit (.int .u64 p0.Bits))), (.d (.lit (.string (toS p0.Text))))])], 0⟩ ?_
        rcases tf_ z37_7.2 with hc38_18 | hc38_18
        · replace hm := cT hc38_18 hm
          refine AWP.if_ true (Eq.trans (by kernel_rfl) (lit_tf (b := z37_7.2) hc38_18)) ?_
          refine AWP.seq ?_
          refine AWP.text ?_
          refine Wy (.d (.lit (.string (toS z37_7.1)))) [] (Omv rfl) ?_
          refine Walk.nil ?_
          refine Then.normal ?_
          refine Amk 138 1 ⟨(tp 1 ((.loc 0 0) :: (tp 1 ((.d (.lit r10_0)) :: (tp 3 ((.d (.lit (.string (toS z37_7.1)))) :: (tp 39 []))))))), [(.box [(.d (byteD p0.Kind)), (.d (.lit (.int .i64 p0.N))), (.d (.lit (.int .u64 p0.Bits))), (.d (.lit (.string (toS p0.Text))))])], 0⟩ ?_
          refine AWP.seq ?_
          refine AWP.text ?_
          refine Wy (.d (.lit (.string (toS z37_7.1)))) [] (Omv rfl) ?_
          refine Wy (.d (.lit (.int .i64 ((List.length z37_7.1 : Nat) : Int)))) [] (Oln rfl) ?_
          refine Wy (.d (.lit (.bool (decide ((24 : Int) < ((List.length z37_7.1 : Nat) : Int)))))) [] (Obn rfl (fun _ => hb_gtr (k := .i64))) ?_
          refine Walk.nil ?_
          refine Then.normal ?_
          refine Amk 4398046511114 1 ⟨(tp 1 ((.loc 0 0) :: (tp 1 ((.d (.lit r10_0)) :: (tp 38 ((.d (.lit (.bool (decide ((24 : Int) < ((List.length z37_7.1 : Nat) : Int)))))) :: (tp 4 []))))))), [(.box [(.d (byteD p0.Kind)), (.d (.lit (.int .i64 p0.N))), (.d (.lit (.int .u64 p0.Bits))), (.d (.lit (.string (toS p0.Text))))])], 0⟩ ?_
          rcases tf_ (decide ((24 : Int) < ((List.length z37_7.1 : Nat) : Int))) with hc42_19 | hc42_19
          · replace hm := cT hc42_19 hm
            refine AWP.if_ true (Eq.trans (by kernel_rfl) (lit_tf (b := decide ((24 : Int) < ((List.length z37_7.1 : Nat) : Int))) hc42_19)) ?_
            refine AWP.seq ?_
            refine AWP.text ?_
            refine Wy (.d (.lit (.int .i64 5))) [] (Omv rfl) ?_
            refine Walk.nil ?_
            refine Then.normal ?_
            refine AWP.ret ?_
            refine InBlock.ret ?_
            refine Then.ret ?_
            obtain rfl := Option.some.inj hm
            exact ret_i []
          · replace hm := cF hc42_19 hm
            refine AWP.if_ false (Eq.trans (by kernel_rfl) (lit_tf (b := decide ((24 : Int) < ((List.length z37_7.1 : Nat) : Int))) hc42_19)) ?_
            refine AWP.skip ?_
            refine InBlock.normal ?_
            refine Then.normal ?_
            exact AWP.weak (Weak.toK 10 0 0 [0]) (J9 () hm)
        · replace hm := cF hc38_18 hm
          refine AWP.if_ false (Eq.trans (by kernel_rfl) (lit_tf (b := z37_7.2) hc38_18)) ?_
          refine AWP.seq ?_
          refine AWP.text ?_
          refine Wy (.d (.lit r10_0)) [] (Omv rfl) ?_
          refine Walk.nil ?_
          refine Then.normal ?_
          refine Amk 0 0 ⟨(tp 47 []), [.gone], 0⟩ ?_
          refine AWP.seq ?_
          refine AWP.text ?_
          refine Wy (.d (.lit (.int .i64 11))) [] (Omv rfl) ?_
          refine Walk.nil ?_
          refine Then.normal ?_
          refine AWP.ret ?_
          refine InBlock.ret ?_
          refine Then.ret ?_
          obtain rfl := Option.some.inj hm
          exact ret_i []

set_option maxRecDepth 20000 in
set_option maxHeartbeats 4000000 in
theorem ok_value_Rank_m2 (p0 : GValue) (p1 : GValue) (r : Int) (h : m_value_Rank p0 p1 = some r) : GCall Try.prog 14 [(.agg [(.d (byteD p0.Kind)), (.d (.lit (.int .i64 p0.N))), (.d (.lit (.int .u64 p0.Bits))), (.d (.lit (.string (toS p0.Text))))]), (.agg [(.d (byteD p1.Kind)), (.d (.lit (.int .i64 p1.N))), (.d (.lit (.int .u64 p1.Bits))), (.d (.lit (.string (toS p1.Text))))])] [] (.d (.lit (.int .i64 r))) [] := by
  refine GCall.of_body (n := 40) (rs := [(.tmp 4)]) Try.func14 rfl rfl rfl ?_
  refine Ato ⟨((.agg [(.d (byteD p0.Kind)), (.d (.lit (.int .i64 p0.N))), (.d (.lit (.int .u64 p0.Bits))), (.d (.lit (.string (toS p0.Text))))]) :: ((.agg [(.d (byteD p1.Kind)), (.d (.lit (.int .i64 p1.N))), (.d (.lit (.int .u64 p1.Bits))), (.d (.lit (.string (toS p1.Text))))]) :: (tu 38 []))), [], 0⟩ ?_
  have hm := h
  unfold m_value_Rank at hm
  refine AWP.seq ?_
  refine AWP.text ?_
  refine Wy (.loc 0 0) [(0, (.box [(.d (byteD p0.Kind)), (.d (.lit (.int .i64 p0.N))), (.d (.lit (.int .u64 p0.Bits))), (.d (.lit (.string (toS p0.Text))))]))] (Obx rfl) ?_
  refine Wy (.loc 1 0) [(1, (.box [(.d (byteD p1.Kind)), (.d (.lit (.int .i64 p1.N))), (.d (.lit (.int .u64 p1.Bits))), (.d (.lit (.string (toS p1.Text))))]))] (Obx rfl) ?_
  refine Wy (.d (.lit (.int .i64 0))) [] (Omv rfl) ?_
  refine Walk.nil ?_
  refine Then.normal ?_
  refine Amk 12 3 ⟨(tp 2 ((.loc 0 0) :: ((.loc 1 0) :: (tp 36 [])))), [(.box [(.d (byteD p0.Kind)), (.d (.lit (.int .i64 p0.N))), (.d (.lit (.int .u64 p0.Bits))), (.d (.lit (.string (toS p0.Text))))]), (.box [(.d (byteD p1.Kind)), (.d (.lit (.int .i64 p1.N))), (.d (.lit (.int .u64 p1.Bits))), (.d (.lit (.string (toS p1.Text))))])], 0⟩ ?_
  refine AWP.seq ?_
  refine AWP.seq ?_
  refine AWP.text ?_
  refine Wy (.loc 0 0) [] (Ofa rfl) ?_
  refine Wy (.d (byteD p0.Kind)) [] (Old rfl) ?_
  refine Wy (.loc 1 0) [] (Ofa rfl) ?_
  refine Wy (.d (byteD p1.Kind)) [] (Old rfl) ?_
  obtain ⟨r10_0, hr10_0, hm⟩ := bnd hm
  refine Wy (.d (.lit (.int .i64 r10_0))) [] (Ocf [] [] [] 0 (ok_cmp_Compare_uint8 p0.Kind p1.Kind r10_0 hr10_0) (fun a w => Try.call37 a w) rfl trivial) ?_
  refine Wy (.d (.lit (.int .i64 r10_0))) [] (Omv rfl) ?_
  refine Walk.nil ?_
  refine Then.normal ?_
  refine Amk 44 3 ⟨(tp 2 ((.loc 0 0) :: ((.loc 1 0) :: (tp 1 ((.d (.lit (.int .i64 r10_0))) :: (tp 34 [])))))), [(.box [(.d (byteD p0.Kind)), (.d (.lit (.int .i64 p0.N))), (.d (.lit (.int .u64 p0.Bits))), (.d (.lit (.string (toS p0.Text))))]), (.box [(.d (byteD p1.Kind)), (.d (.lit (.int .i64 p1.N))), (.d (.lit (.int .u64 p1.Bits))), (.d (.lit (.string (toS p1.Text))))])], 0⟩ ?_
  refine AWP.seq ?_
  refine AWP.text ?_
  refine Wy (.d (.lit (.int .i64 r10_0))) [] (Omv rfl) ?_
  refine Wy (.d (.lit (.bool (decide (r10_0 ≠ 0))))) [] (Obn rfl (fun _ => hb_neq (k := .i64))) ?_
  refine Walk.nil ?_
  refine Then.normal ?_
  refine Amk 4140 3 ⟨(tp 2 ((.loc 0 0) :: ((.loc 1 0) :: (tp 1 ((.d (.lit (.int .i64 r10_0))) :: (tp 6 ((.d (.lit (.bool (decide (r10_0 ≠ 0))))) :: (tp 27 [])))))))), [(.box [(.d (byteD p0.Kind)), (.d (.lit (.int .i64 p0.N))), (.d (.lit (.int .u64 p0.Bits))), (.d (.lit (.string (toS p0.Text))))]), (.box [(.d (byteD p1.Kind)), (.d (.lit (.int .i64 p1.N))), (.d (.lit (.int .u64 p1.Bits))), (.d (.lit (.string (toS p1.Text))))])], 0⟩ ?_
  rcases tf_ (decide (r10_0 ≠ 0)) with hc12_5 | hc12_5
  · replace hm := cT hc12_5 hm
    refine AWP.if_ true (Eq.trans (by kernel_rfl) (lit_tf (b := decide (r10_0 ≠ 0)) hc12_5)) ?_
    refine AWP.seq ?_
    refine AWP.text ?_
    refine Wy (.d (.lit (.int .i64 r10_0))) [] (Omv rfl) ?_
    refine Wy (.d (.lit (.int .i64 r10_0))) [] (Omv rfl) ?_
    refine Walk.nil ?_
    refine Then.normal ?_
    refine AWP.ret ?_
    refine Then.ret ?_
    obtain rfl := Option.some.inj hm
    exact ret_i []
  · replace hm := cF hc12_5 hm
    refine AWP.if_ false (Eq.trans (by kernel_rfl) (lit_tf (b := decide (r10_0 ≠ 0)) hc12_5)) ?_
    refine AWP.skip ?_
    refine Then.normal ?_
    refine Amk 12 3 ⟨(tp 2 ((.loc 0 0) :: ((.loc 1 0) :: (tp 36 [])))), [(.box [(.d (byteD p0.Kind)), (.d (.lit (.int .i64 p0.N))), (.d (.lit (.int .u64 p0.Bits))), (.d (.lit (.string (toS p0.Text))))]), (.box [(.d (byteD p1.Kind)), (.d (.lit (.int .i64 p1.N))), (.d (.lit (.int .u64 p1.Bits))), (.d (.lit (.string (toS p1.Text))))])], 0⟩ ?_
    refine AWP.seq ?_
    refine AWP.seq ?_
    refine AWP.text ?_
    refine Wy (.loc 0 0) [] (Ofa rfl) ?_
    refine Wy (.d (byteD p0.Kind)) [] (Old rfl) ?_
    refine Walk.nil ?_
    refine Then.normal ?_
    refine Amk 32780 3 ⟨(tp 2 ((.loc 0 0) :: ((.loc 1 0) :: (tp 11 ((.d (byteD p0.Kind)) :: (tp 24 [])))))), [(.box [(.d (byteD p0.Kind)), (.d (.lit (.int .i64 p0.N))), (.d (.lit (.int .u64 p0.Bits))), (.d (.lit (.string (toS p0.Text))))]), (.box [(.d (byteD p1.Kind)), (.d (.lit (.int .i64 p1.N))), (.d (.lit (.int .u64 p1.Bits))), (.d (.lit (.string (toS p1.Text))))])], 0⟩ ?_
    refine AWP.block ?_
    refine AWP.cutJ (α := Bool) (fun x => match x with | y16_1 => (⟨(tp 2 ((.loc 0 0) :: ((.loc 1 0) :: (tp 11 ((.d (byteD p0.Kind)) :: ((.d (.lit (.bool y16_1))) :: (tp 23 []))))))), [(.box [(.d (byteD p0.Kind)), (.d (.lit (.int .i64 p0.N))), (.d (.lit (.int .u64 p0.Bits))), (.d (.lit (.string (toS p0.Text))))]), (.box [(.d (byteD p1.Kind)), (.d (.lit (.int .i64 p1.N))), (.d (.lit (.int .u64 p1.Bits))), (.d (.lit (.string (toS p1.Text))))])], 0⟩ : St)) (fun x => match x with | y16_1 => m_value_Rank_j1 p0 p1 y16_1 = some r) ?_ (fun J1 => ?_)
    · rintro y16_1 hm
      try dsimp only at hm ⊢
      unfold m_value_Rank_j1 at hm
      rcases tf_ y16_1 with hc16_1 | hc16_1
      · replace hm := cT hc16_1 hm
        refine AWP.if_ true (Eq.trans (by kernel_rfl) (lit_tf (b := y16_1) hc16_1)) ?_
        refine AWP.seq ?_
        refine AWP.text ?_
        refine Wy (.loc 0 1) [] (Ofa rfl) ?_
        refine Wy (.d (.lit (.int .i64 p0.N))) [] (Old rfl) ?_
        refine Wy (.loc 1 1) [] (Ofa rfl) ?_
        refine Wy (.d (.lit (.int .i64 p1.N))) [] (Old rfl) ?_
        obtain ⟨r23_2, hr23_2, hm⟩ := bnd hm
        refine Wy (.d (.lit (.int .i64 r23_2))) [] (Ocf [] [] [] 0 (ok_cmp_Compare_int p0.N p1.N r23_2 hr23_2) (fun a w => Try.call38 a w) rfl trivial) ?_
        refine Wy (.d (.lit (.int .i64 r23_2))) [] (Omv rfl) ?_
        refine Walk.nil ?_
        refine Then.normal ?_
        refine AWP.ret ?_
        refine InBlock.ret ?_
        refine Then.ret ?_
        obtain rfl := Option.some.inj hm
        exact ret_i []
      · replace hm := cF hc16_1 hm
        refine AWP.if_ false (Eq.trans (by kernel_rfl) (lit_tf (b := y16_1) hc16_1)) ?_
        refine AWP.seq ?_
        refine AWP.text ?_
        refine Wy (.d (.lit (.bool (decide (((p0.Kind.toNat : Nat) : Int) = 3))))) [] (Ocs (by kernel_rfl) (op_bin rfl (a1 := .int .u8 ((p0.Kind.toNat : Nat) : Int)) (a2 := .int .u8 3) (by kernel_rfl) (by kernel_rfl) (fun _ => hb_eql))) ?_
        refine Wy (.d (.lit (.bool (decide (((p0.Kind.toNat : Nat) : Int) = 3))))) [] (Omv rfl) ?_
        refine Walk.nil ?_
        refine Then.normal ?_
        refine Amk 16809996 3 ⟨(tp 2 ((.loc 0 0) :: ((.loc 1 0) :: (tp 11 ((.d (byteD p0.Kind)) :: (tp 8 ((.d (.lit (.bool (decide (((p0.Kind.toNat : Nat) : Int) = 3))))) :: (tp 15 [])))))))), [(.box [(.d (byteD p0.Kind)), (.d (.lit (.int .i64 p0.N))), (.d (.lit (.int .u64 p0.Bits))), (.d (.lit (.string (toS p0.Text))))]), (.box [(.d (byteD p1.Kind)), (.d (.lit (.int .i64 p1.N))), (.d (.lit (.int .u64 p1.Bits))), (.d (.lit (.string (toS p1.Text))))])], 0⟩ ?_
        rcases tf_ (decide (((p0.Kind.toNat : Nat) : Int) = 3)) with hc24_6 | hc24_6
        · replace hm := cT hc24_6 hm
          refine AWP.if_ true (Eq.trans (by kernel_rfl) (lit_tf (b := decide (((p0.Kind.toNat : Nat) : Int) = 3)) hc24_6)) ?_
          refine AWP.seq ?_
          refine Adr ?_
          refine Wy (.loc 0 2) [] (Ofa rfl) ?_
          refine Wy (.d (.lit (.int .u64 p0.Bits))) [] (Old rfl) ?_
          obtain ⟨r28_3, hr28_3, hm⟩ := bnd hm
          refine Wy (.d (.lit (.int .u64 r28_3))) [] (Ocf [] [] [] 0 (ok_real_Rank p0.Bits r28_3 hr28_3) (fun a w => Try.call40 a w) rfl trivial) ?_
          refine Wy (.loc 1 2) [] (Ofa rfl) ?_
          refine Wy (.d (.lit (.int .u64 p1.Bits))) [] (Old rfl) ?_
          obtain ⟨r31_3, hr31_3, hm⟩ := bnd hm
          refine Wy (.d (.lit (.int .u64 r31_3))) [] (Ocf [] [] [] 0 (ok_real_Rank p1.Bits r31_3 hr31_3) (fun a w => Try.call40 a w) rfl trivial) ?_
          obtain ⟨r32_3, hr32_3, hm⟩ := bnd hm
          refine Wy (.d (.lit (.int .i64 r32_3))) [] (Ocf [] [] [] 0 (ok_cmp_Compare_uint64 r28_3 r31_3 r32_3 hr32_3) (fun a w => Try.call39 a w) rfl trivial) ?_
          refine Wy (.d (.lit (.int .i64 r32_3))) [] (Omv rfl) ?_
          refine Wdr ?_
          refine Then.normal ?_
          refine AWP.ret ?_
          refine InBlock.ret ?_
          refine Then.ret ?_
          obtain rfl := Option.some.inj hm
          exact ret_i []
        · replace hm := cF hc24_6 hm
          refine AWP.if_ false (Eq.trans (by kernel_rfl) (lit_tf (b := decide (((p0.Kind.toNat : Nat) : Int) = 3)) hc24_6)) ?_
          refine AWP.seq ?_
          refine AWP.text ?_
          refine Wy (.d (.lit (.bool (decide (((p0.Kind.toNat : Nat) : Int) = 4))))) [] (Ocs (by kernel_rfl) (op_bin rfl (a1 := .int .u8 ((p0.Kind.toNat : Nat) : Int)) (a2 := .int .u8 4) (by kernel_rfl) (by kernel_rfl) (fun _ => hb_eql))) ?_
          refine Wy (.d (.lit (.bool (decide (((p0.Kind.toNat : Nat) : Int) = 4))))) [] (Omv rfl) ?_
          refine Walk.nil ?_
          refine Then.normal ?_
          refine Amk 8589934604 3 ⟨(tp 2 ((.loc 0 0) :: ((.loc 1 0) :: (tp 29 ((.d (.lit (.bool (decide (((p0.Kind.toNat : Nat) : Int) = 4))))) :: (tp 6 [])))))), [(.box [(.d (byteD p0.Kind)), (.d (.lit (.int .i64 p0.N))), (.d (.lit (.int .u64 p0.Bits))), (.d (.lit (.string (toS p0.Text))))]), (.box [(.d (byteD p1.Kind)), (.d (.lit (.int .i64 p1.N))), (.d (.lit (.int .u64 p1.Bits))), (.d (.lit (.string (toS p1.Text))))])], 0⟩ ?_
          rcases tf_ (decide (((p0.Kind.toNat : Nat) : Int) = 4)) with hc33_7 | hc33_7
          · replace hm := cT hc33_7 hm
            refine AWP.if_ true (Eq.trans (by kernel_rfl) (lit_tf (b := decide (((p0.Kind.toNat : Nat) : Int) = 4)) hc33_7)) ?_
            refine AWP.seq ?_
            refine AWP.text ?_
            refine Wy (.loc 0 3) [] (Ofa rfl) ?_
            refine Wy (.d (.lit (.string (toS p0.Text)))) [] (Old rfl) ?_
            refine Wy (.loc 1 3) [] (Ofa rfl) ?_
            refine Wy (.d (.lit (.string (toS p1.Text)))) [] (Old rfl) ?_
            obtain ⟨r39_4, hr39_4, hm⟩ := bnd hm
            refine Wy (.d (.lit (.int .i64 r39_4))) [] (Ocf [] [] [] 0 (ok_cmp_Compare_string p0.Text p1.Text r39_4 hr39_4) (fun a w => Try.call41 a w) rfl trivial) ?_
            refine Wy (.d (.lit (.int .i64 r39_4))) [] (Omv rfl) ?_
            refine Walk.nil ?_
            refine Then.normal ?_
            refine AWP.ret ?_
            refine InBlock.ret ?_
            refine Then.ret ?_
            obtain rfl := Option.some.inj hm
            exact ret_i []
          · replace hm := cF hc33_7 hm
            refine AWP.if_ false (Eq.trans (by kernel_rfl) (lit_tf (b := decide (((p0.Kind.toNat : Nat) : Int) = 4)) hc33_7)) ?_
            refine AWP.skip ?_
            refine InBlock.normal ?_
            refine Then.normal ?_
            refine Amk 0 0 ⟨(tp 40 []), [.gone, .gone], 0⟩ ?_
            refine AWP.seq ?_
            refine AWP.text ?_
            refine Wy (.d (.lit (.int .i64 0))) [] (Omv rfl) ?_
            refine Walk.nil ?_
            refine Then.normal ?_
            refine AWP.ret ?_
            obtain rfl := Option.some.inj hm
            exact ret_i []
    refine AWP.seq ?_
    refine AWP.seq ?_
    refine AWP.text ?_
    refine Wy (.d (.lit (.bool (decide (((p0.Kind.toNat : Nat) : Int) = 1))))) [] (Ocs (by kernel_rfl) (op_bin rfl (a1 := .int .u8 ((p0.Kind.toNat : Nat) : Int)) (a2 := .int .u8 1) (by kernel_rfl) (by kernel_rfl) (fun _ => hb_eql))) ?_
    refine Wy (.d (.lit (.bool (decide (((p0.Kind.toNat : Nat) : Int) = 1))))) [] (Omv rfl) ?_
    refine Walk.nil ?_
    refine Then.normal ?_
    refine Amk 98316 3 ⟨(tp 2 ((.loc 0 0) :: ((.loc 1 0) :: (tp 11 ((.d (byteD p0.Kind)) :: ((.d (.lit (.bool (decide (((p0.Kind.toNat : Nat) : Int) = 1))))) :: (tp 23 []))))))), [(.box [(.d (byteD p0.Kind)), (.d (.lit (.int .i64 p0.N))), (.d (.lit (.int .u64 p0.Bits))), (.d (.lit (.string (toS p0.Text))))]), (.box [(.d (byteD p1.Kind)), (.d (.lit (.int .i64 p1.N))), (.d (.lit (.int .u64 p1.Bits))), (.d (.lit (.string (toS p1.Text))))])], 0⟩ ?_
    rcases tf_ (decide (((p0.Kind.toNat : Nat) : Int) = 1)) with hc16_8 | hc16_8
    · replace hm := cT hc16_8 hm
      refine AWP.if_ true (Eq.trans (by kernel_rfl) (lit_tf (b := decide (((p0.Kind.toNat : Nat) : Int) = 1)) hc16_8)) ?_
      refine AWP.skip ?_
      refine Then.normal ?_
      exact AWP.weak (Weak.toK 98316 0 0 [0, 1]) (J1 (decide (((p0.Kind.toNat : Nat) : Int) = 1)) hm)
    · replace hm := cF hc16_8 hm
      refine AWP.if_ false (Eq.trans (by kernel_rfl) (lit_tf (b := decide (((p0.Kind.toNat : Nat) : Int) = 1)) hc16_8)) ?_
      refine AWP.text ?_
      refine Wy (.d (.lit (.bool (decide (((p0.Kind.toNat : Nat) : Int) = 2))))) [] (Ocs (by kernel_rfl) (op_bin rfl (a1 := .int .u8 ((p0.Kind.toNat : Nat) : Int)) (a2 := .int .u8 2) (by kernel_rfl) (by kernel_rfl) (fun _ => hb_eql))) ?_
      refine Wy (.d (.lit (.bool (decide (((p0.Kind.toNat : Nat) : Int) = 2))))) [] (Omv rfl) ?_
      refine Walk.nil ?_
      refine Then.normal ?_
      exact AWP.weak (Weak.toK 98316 0 0 [0, 1]) (J1 (decide (((p0.Kind.toNat : Nat) : Int) = 2)) hm)

set_option maxRecDepth 20000 in
set_option maxHeartbeats 4000000 in
theorem ok_telltaleref03_Sign (p0 : Int) (r : Bool) (h : m_telltaleref03_Sign p0 = some r) : GCall Try.prog 59 [(.d (.lit (.int .u64 p0)))] [] (.d (.lit (.bool r))) [] := by
  refine GCall.of_body (n := 5) (rs := [(.tmp 2)]) Try.func59 rfl rfl rfl ?_
  refine Ato ⟨((.d (.lit (.int .u64 p0))) :: (tu 4 [])), [], 0⟩ ?_
  have hm := h
  unfold m_telltaleref03_Sign at hm
  refine AWP.seq ?_
  refine AWP.text ?_
  refine Wy (.d (.lit (.bool false))) [] (Omv rfl) ?_
  refine Walk.nil ?_
  refine Then.normal ?_
  refine Amk 1 0 ⟨((.d (.lit (.int .u64 p0))) :: (tp 4 [])), [], 0⟩ ?_
  refine AWP.seq ?_
  refine AWP.text ?_
  refine Wy (.d (.lit (.int .u64 p0))) [] (Omv rfl) ?_
  refine Wy (.d (.lit (.bool (decide ((9223372036854775808 : Int) ≤ p0))))) [] (Obn rfl (fun _ => hb_geq (k := .u64))) ?_
  refine Wy (.d (.lit (.bool (decide ((9223372036854775808 : Int) ≤ p0))))) [] (Omv rfl) ?_
  refine Walk.nil ?_
  refine Then.normal ?_
  refine AWP.ret ?_
  obtain rfl := Option.some.inj hm
  exact ret_i []

set_option maxRecDepth 20000 in
set_option maxHeartbeats 4000000 in
theorem ok_telltaleref03_Rank (p0 : Int) (r : Int) (h : m_telltaleref03_Rank p0 = some r) : GCall Try.prog 42 [(.d (.lit (.int .u64 p0)))] [] (.d (.lit (.int .u64 r))) [] := by
  refine GCall.of_body (n := 11) (rs := [(.tmp 2)]) Try.func42 rfl rfl rfl ?_
  refine Ato ⟨((.d (.lit (.int .u64 p0))) :: (tu 10 [])), [], 0⟩ ?_
  have hm := h
  unfold m_telltaleref03_Rank at hm
  refine AWP.seq ?_
  refine AWP.text ?_
  refine Wy (.d (.lit (.int .u64 0))) [] (Omv rfl) ?_
  refine Walk.nil ?_
  refine Then.normal ?_
  refine Amk 1 0 ⟨((.d (.lit (.int .u64 p0))) :: (tp 10 [])), [], 0⟩ ?_
  refine AWP.seq ?_
  refine AWP.text ?_
  refine Wy (.d (.lit (.int .u64 p0))) [] (Omv rfl) ?_
  obtain ⟨r4_0, hr4_0, hm⟩ := bnd hm
  refine Wy (.d (.lit (.int .u64 r4_0))) [] (Ocf [] [] [] 0 (ok_telltaleref03_Clean p0 r4_0 hr4_0) (fun a w => Try.call36 a w) rfl trivial) ?_
  refine Wy (.d (.lit (.int .u64 r4_0))) [] (Omv rfl) ?_
  refine Walk.nil ?_
  refine Then.normal ?_
  refine Amk 1 0 ⟨((.d (.lit (.int .u64 r4_0))) :: (tp 10 [])), [], 0⟩ ?_
  refine AWP.seq ?_
  refine AWP.seq ?_
  refine AWP.text ?_
  refine Wy (.d (.lit (.int .u64 r4_0))) [] (Omv rfl) ?_
  obtain ⟨r6_1, hr6_1, hm⟩ := bnd hm
  refine Wy (.d (.lit (.bool r6_1))) [] (Ocf [] [] [] 0 (ok_telltaleref03_Sign r4_0 r6_1 hr6_1) (fun a w => Try.call59 a w) rfl trivial) ?_
  refine Walk.nil ?_
  refine Then.normal ?_
  refine Amk 65 0 ⟨((.d (.lit (.int .u64 r4_0))) :: (tp 5 ((.d (.lit (.bool r6_1))) :: (tp 4 [])))), [], 0⟩ ?_
  rcases tf_ r6_1 with hc6_2 | hc6_2
  · replace hm := cT hc6_2 hm
    refine AWP.if_ true (Eq.trans (by kernel_rfl) (lit_tf (b := r6_1) hc6_2)) ?_
    refine AWP.seq ?_
    refine AWP.text ?_
    refine Wy (.d (.lit (.int .u64 r4_0))) [] (Omv rfl) ?_
    refine Wy (.d (.lit (.int .u64 (IntKind.u64.wrap ((BitVec.ofInt 64 18446744073709551615 ^^^ BitVec.ofInt 64 r4_0).toNat : Int))))) [] (Ocs (by kernel_rfl) (op_un rfl (a1 := .int .u64 r4_0) (by kernel_rfl) (fun _ => hu_xor))) ?_
    refine Wy (.d (.lit (.int .u64 (IntKind.u64.wrap ((BitVec.ofInt 64 18446744073709551615 ^^^ BitVec.ofInt 64 r4_0).toNat : Int))))) [] (Omv rfl) ?_
    refine Walk.nil ?_
    refine Then.normal ?_
    refine AWP.ret ?_
    refine Then.ret ?_
    obtain rfl := Option.some.inj hm
    exact ret_i []
  · replace hm := cF hc6_2 hm
    refine AWP.if_ false (Eq.trans (by kernel_rfl) (lit_tf (b := r6_1) hc6_2)) ?_
    refine AWP.skip ?_
    refine Then.normal ?_
    refine Amk 1 0 ⟨((.d (.lit (.int .u64 r4_0))) :: (tp 10 [])), [], 0⟩ ?_
    refine AWP.seq ?_
    refine AWP.text ?_
    refine Wy (.d (.lit (.int .u64 r4_0))) [] (Omv rfl) ?_
    refine Wy (.d (.lit (.int .u64 (IntKind.u64.wrap (r4_0 + 9223372036854775808))))) [] (Obn rfl (fun _ => hb_add (k := .u64))) ?_
    refine Wy (.d (.lit (.int .u64 (IntKind.u64.wrap (r4_0 + 9223372036854775808))))) [] (Omv rfl) ?_
    refine Walk.nil ?_
    refine Then.normal ?_
    refine AWP.ret ?_
    obtain rfl := Option.some.inj hm
    exact ret_i []
end Go.Proofs.Ytgocnknbiipcfaa.K
