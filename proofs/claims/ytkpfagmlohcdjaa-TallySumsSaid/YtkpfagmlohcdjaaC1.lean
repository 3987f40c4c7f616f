/- what telltalelaw26.TallySums needs (1) -/
import Derived.Test.YtkpfagmlohcdjaaC0
namespace Go.Proofs.Ytkpfagmlohcdjaa.K
open Go.RowKit Go.Lib
set_option linter.unusedVariables false
set_option linter.unusedSimpArgs false

set_option maxRecDepth 20000 in
set_option maxHeartbeats 4000000 in
theorem ok_tally_Take (p0 : (List UInt8)) (p1 : Int) (r : ((List GChange) × Int × Int)) (h : m_tally_Take p0 p1 = some r) : GCall Try.prog 21 [(.s p0), (.i p1)] [] (.tup [(.own 0), (.i r.2.1), (.i r.2.2)]) [(.arr 36 3 (List.length r.1) (flatD enc_GChange r.1))] := by
 refine GCall.of_body (n := 71) (rs := [(.tmp 4), (.tmp 5), (.tmp 6)]) Try.func21 rfl rfl rfl ?_
 refine Ato ⟨((.s p0) :: ((.i p1) :: (tu 69 []))), [], 0⟩ ?_
 have hm := h
 unfold m_tally_Take at hm
 refine AWP.seq ?_
 refine AWP.text ?_
 refine Wy (.d .nil) [] (Omv rfl) ?_
 refine Wy (.i 0) [] (Omv rfl) ?_
 refine Wy (.i 0) [] (Omv rfl) ?_
 refine Walk.nil ?_
 refine Then.normal ?_
 refine Amk 19 0 ⟨((.s p0) :: ((.i p1) :: (tp 2 ((.d .nil) :: (tp 66 []))))), [], 0⟩ ?_
 refine AWP.seq ?_
 refine AWP.text ?_
 refine Wy (.s p0) [] (Omv rfl) ?_
 refine Wy (.i p1) [] (Omv rfl) ?_
 obtain ⟨r16_0, hr16_0, hm⟩ := bnd hm
 refine Wy (.tup [(.d (.lit (.int .u64 r16_0.1))), (.i r16_0.2.1), (.i r16_0.2.2)]) [] (Ocf [] [] [] 0 (ok_zig_Take p0 p1 r16_0 hr16_0) (fun a w => Try.call32 a w) rfl trivial) ?_
 refine Wy (.tup [(.d (.lit (.int .u64 r16_0.1))), (.i r16_0.2.1), (.i r16_0.2.2)]) [] (Omv rfl) ?_
 refine Wy (.d (.lit (.int .u64 r16_0.1))) [] (Oex rfl) ?_
 refine Wy (.i r16_0.2.1) [] (Oex rfl) ?_
 refine Wy (.i r16_0.2.2) [] (Oex rfl) ?_
 refine Wy (.d (.lit (.int .u64 r16_0.1))) [] (Omv rfl) ?_
 refine Wy (.i r16_0.2.1) [] (Omv rfl) ?_
 refine Wy (.i r16_0.2.2) [] (Omv rfl) ?_
 refine Walk.nil ?_
 refine Then.normal ?_
 refine Amk 241 0 ⟨((.s p0) :: (tp 3 ((.d .nil) :: ((.i r16_0.2.1) :: ((.i r16_0.2.2) :: ((.d (.lit (.int .u64 r16_0.1))) :: (tp 63 []))))))), [], 0⟩ ?_
 refine AWP.seq ?_
 refine AWP.seq ?_
 refine AWP.text ?_
 refine Wy (.i r16_0.2.2) [] (Omv rfl) ?_
 refine Wy (.b (decide (r16_0.2.2 ≠ 0))) [] (Obn rfl (fun _ => hb_neq (k := .i64))) ?_
 refine Walk.nil ?_
 refine Then.normal ?_
 refine Amk 2097393 0 ⟨((.s p0) :: (tp 3 ((.d .nil) :: ((.i r16_0.2.1) :: ((.i r16_0.2.2) :: ((.d (.lit (.int .u64 r16_0.1))) :: (tp 13 ((.b (decide (r16_0.2.2 ≠ 0))) :: (tp 49 []))))))))), [], 0⟩ ?_
 rcases tf_ (decide (r16_0.2.2 ≠ 0)) with hc21_8 | hc21_8
 ·
  replace hm := cT hc21_8 hm
  refine AWP.if_ true (Eq.trans (by kernel_rfl) (lit_tf (b := decide (r16_0.2.2 ≠ 0)) hc21_8)) ?_
  refine AWP.seq ?_
  refine AWP.text ?_
  refine Wy (.i r16_0.2.2) [] (Omv rfl) ?_
  refine Wy (.d .nil) [] (Omv rfl) ?_
  refine Wy (.i 0) [] (Omv rfl) ?_
  refine Wy (.i r16_0.2.2) [] (Omv rfl) ?_
  refine Walk.nil ?_
  refine Then.normal ?_
  refine Aow 4 36 3 ⟨((.s p0) :: (tp 3 ((.own 0) :: ((.i 0) :: ((.i r16_0.2.2) :: ((.d (.lit (.int .u64 r16_0.1))) :: (tp 13 ((.b (decide (r16_0.2.2 ≠ 0))) :: ((.i r16_0.2.2) :: (tp 48 [])))))))))), [(.arr 36 3 (List.length ([] : List GChange)) (flatD enc_GChange ([] : List GChange)))], 0⟩ ?_
  refine AWP.ret ?_
  refine Then.ret ?_
  obtain rfl := Option.some.inj hm
  exact ret_i [0]
 ·
  replace hm := cF hc21_8 hm
  refine AWP.if_ false (Eq.trans (by kernel_rfl) (lit_tf (b := decide (r16_0.2.2 ≠ 0)) hc21_8)) ?_
  refine AWP.skip ?_
  refine Then.normal ?_
  refine Amk 177 0 ⟨((.s p0) :: (tp 3 ((.d .nil) :: ((.i r16_0.2.1) :: (tp 1 ((.d (.lit (.int .u64 r16_0.1))) :: (tp 63 []))))))), [], 0⟩ ?_
  refine AWP.seq ?_
  refine AWP.seq ?_
  refine AWP.text ?_
  refine Wy (.d (.lit (.int .u64 r16_0.1))) [] (Omv rfl) ?_
  refine Wy (.b (decide ((1000 : Int) < r16_0.1))) [] (Obn rfl (fun _ => hb_gtr (k := .u64))) ?_
  refine Walk.nil ?_
  refine Then.normal ?_
  refine Amk 16777393 0 ⟨((.s p0) :: (tp 3 ((.d .nil) :: ((.i r16_0.2.1) :: (tp 1 ((.d (.lit (.int .u64 r16_0.1))) :: (tp 16 ((.b (decide ((1000 : Int) < r16_0.1))) :: (tp 46 []))))))))), [], 0⟩ ?_
  rcases tf_ (decide ((1000 : Int) < r16_0.1)) with hc24_9 | hc24_9
  ·
   replace hm := cT hc24_9 hm
   refine AWP.if_ true (Eq.trans (by kernel_rfl) (lit_tf (b := decide ((1000 : Int) < r16_0.1)) hc24_9)) ?_
   refine AWP.seq ?_
   refine AWP.text ?_
   refine Wy (.d .nil) [] (Omv rfl) ?_
   refine Wy (.i 0) [] (Omv rfl) ?_
   refine Wy (.i 5) [] (Omv rfl) ?_
   refine Walk.nil ?_
   refine Then.normal ?_
   refine Aow 4 36 3 ⟨((.s p0) :: (tp 3 ((.own 0) :: ((.i 0) :: ((.i 5) :: ((.d (.lit (.int .u64 r16_0.1))) :: (tp 16 ((.b (decide ((1000 : Int) < r16_0.1))) :: (tp 46 []))))))))), [(.arr 36 3 (List.length ([] : List GChange)) (flatD enc_GChange ([] : List GChange)))], 0⟩ ?_
   refine AWP.ret ?_
   refine Then.ret ?_
   obtain rfl := Option.some.inj hm
   exact ret_i [0]
  ·
   replace hm := cF hc24_9 hm
   refine AWP.if_ false (Eq.trans (by kernel_rfl) (lit_tf (b := decide ((1000 : Int) < r16_0.1)) hc24_9)) ?_
   refine AWP.skip ?_
   refine Then.normal ?_
   refine Amk 177 0 ⟨((.s p0) :: (tp 3 ((.d .nil) :: ((.i r16_0.2.1) :: (tp 1 ((.d (.lit (.int .u64 r16_0.1))) :: (tp 63 []))))))), [], 0⟩ ?_
   refine AWP.seq ?_
   refine AWP.seq ?_
   refine AWP.text ?_
   refine Wy (.d (.lit (.int .u64 r16_0.1))) [] (Omv rfl) ?_
   refine Wy (.d (.lit (.int .u64 0))) [] (Omv rfl) ?_
   refine Walk.nil ?_
   refine Then.normal ?_
   refine Amk 100663345 0 ⟨((.s p0) :: (tp 3 ((.d .nil) :: ((.i r16_0.2.1) :: (tp 19 ((.d (.lit (.int .u64 r16_0.1))) :: ((.d (.lit (.int .u64 0))) :: (tp 44 [])))))))), [], 0⟩ ?_
   refine AWP.block ?_
   refine Aow 4 36 3 ⟨((.s p0) :: (tp 3 ((.own 0) :: ((.i r16_0.2.1) :: (tp 19 ((.d (.lit (.int .u64 r16_0.1))) :: ((.d (.lit (.int .u64 0))) :: (tp 44 [])))))))), [(.arr 36 3 (List.length ([] : List GChange)) (flatD enc_GChange ([] : List GChange)))], 0⟩ ?_
   refine AWP.loopI (α := Nat × (List GChange) × Int × Int)
     (fun x => match x with | (fu_1, y4_1, y5_1, y26_1) => (⟨((.s p0) :: (tp 3 ((.own 0) :: ((.i y5_1) :: (tp 19 ((.d (.lit (.int .u64 r16_0.1))) :: ((.d (.lit (.int .u64 y26_1))) :: (tp 44 [])))))))), [(.arr 36 3 (List.length y4_1) (flatD enc_GChange y4_1))], 0⟩ : St))
     (fun x => match x with | (fu_1, y4_1, y5_1, y26_1) => m_tally_Take_l1 p0 r16_0 fu_1 y4_1 y5_1 y26_1 = some r)
     (fun x => match x with | (fu_1, y4_1, y5_1, y26_1) => fu_1) (1152921504606846976, ([] : List GChange), r16_0.2.1, 0)
     (Weak.toK 100663345 0 0 [0]) hm ?_
   rintro ⟨fu_1, y4_1, y5_1, y26_1⟩ n_1 hm ih_1
   try dsimp only at hm ih_1 ⊢
   cases fu_1 with
   | zero => exact absurd hm (by unfold m_tally_Take_l1; simp)
   | succ fu_1 =>
    unfold m_tally_Take_l1 at hm
    refine AWP.seq ?_
    refine AWP.text ?_
    refine Wy (.b (decide (y26_1 < r16_0.1))) [] (Obn rfl (fun _ => hb_lss (k := .u64))) ?_
    refine Walk.nil ?_
    refine Then.normal ?_
    refine Amk 234881073 1 ⟨((.s p0) :: (tp 3 ((.own 0) :: ((.i y5_1) :: (tp 19 ((.d (.lit (.int .u64 r16_0.1))) :: ((.d (.lit (.int .u64 y26_1))) :: ((.b (decide (y26_1 < r16_0.1))) :: (tp 43 []))))))))), [(.arr 36 3 (List.length y4_1) (flatD enc_GChange y4_1))], 0⟩ ?_
    refine AWP.seq ?_
    rcases tf_ (decide (y26_1 < r16_0.1)) with hc27_10 | hc27_10
    ·
     replace hm := cT hc27_10 hm
     refine AWP.if_ true (Eq.trans (by kernel_rfl) (lit_tf (b := decide (y26_1 < r16_0.1)) hc27_10)) ?_
     refine AWP.skip ?_
     refine Then.normal ?_
     refine Amk 100663345 1 ⟨((.s p0) :: (tp 3 ((.own 0) :: ((.i y5_1) :: (tp 19 ((.d (.lit (.int .u64 r16_0.1))) :: ((.d (.lit (.int .u64 y26_1))) :: (tp 44 [])))))))), [(.arr 36 3 (List.length y4_1) (flatD enc_GChange y4_1))], 0⟩ ?_
     refine AWP.seq ?_
     refine AWP.block ?_
     refine AWP.seq ?_
     refine AWP.text ?_
     refine Wy (.s p0) [] (Omv rfl) ?_
     refine Wy (.i y5_1) [] (Omv rfl) ?_
     obtain ⟨r31_2, hr31_2, hm⟩ := bnd hm
     refine Wy (.tup [(.agg [(.i r31_2.1.Loc), (.i r31_2.1.Time), (.i r31_2.1.N)]), (.i r31_2.2.1), (.i r31_2.2.2)]) [] (Ocf [] [] [] 0 (ok_tally_change p0 y5_1 r31_2 hr31_2) (fun a w => Try.call33 a w) rfl trivial) ?_
     refine Wy (.tup [(.agg [(.i r31_2.1.Loc), (.i r31_2.1.Time), (.i r31_2.1.N)]), (.i r31_2.2.1), (.i r31_2.2.2)]) [] (Omv rfl) ?_
     refine Wy (.agg [(.i r31_2.1.Loc), (.i r31_2.1.Time), (.i r31_2.1.N)]) [] (Oex rfl) ?_
     refine Wy (.i r31_2.2.1) [] (Oex rfl) ?_
     refine Wy (.i r31_2.2.2) [] (Oex rfl) ?_
     refine Wy (.loc 1 0) [(1, (.box [(.i 0), (.i 0), (.i 0)]))] (Oal rfl) ?_
     refine Wy (.tup []) [(1, (.box [(.i r31_2.1.Loc), (.i r31_2.1.Time), (.i r31_2.1.N)]))] (Ost rfl) ?_
     refine Wy (.i r31_2.2.1) [] (Omv rfl) ?_
     refine Wy (.i r31_2.2.2) [] (Omv rfl) ?_
     refine Walk.nil ?_
     refine Then.normal ?_
     refine Amk 100665105 3 ⟨((.s p0) :: (tp 3 ((.own 0) :: (tp 3 ((.loc 1 0) :: ((.i r31_2.2.1) :: ((.i r31_2.2.2) :: (tp 14 ((.d (.lit (.int .u64 r16_0.1))) :: ((.d (.lit (.int .u64 y26_1))) :: (tp 44 []))))))))))), [(.arr 36 3 (List.length y4_1) (flatD enc_GChange y4_1)), (.box [(.i r31_2.1.Loc), (.i r31_2.1.Time), (.i r31_2.1.N)])], 0⟩ ?_
     refine AWP.seq ?_
     refine AWP.seq ?_
     refine AWP.text ?_
     refine Wy (.i r31_2.2.2) [] (Omv rfl) ?_
     refine Wy (.b (decide (r31_2.2.2 ≠ 0))) [] (Obn rfl (fun _ => hb_neq (k := .i64))) ?_
     refine Walk.nil ?_
     refine Then.normal ?_
     refine Amk 68820141841 3 ⟨((.s p0) :: (tp 3 ((.own 0) :: (tp 3 ((.loc 1 0) :: ((.i r31_2.2.1) :: ((.i r31_2.2.2) :: (tp 14 ((.d (.lit (.int .u64 r16_0.1))) :: ((.d (.lit (.int .u64 y26_1))) :: (tp 9 ((.b (decide (r31_2.2.2 ≠ 0))) :: (tp 34 []))))))))))))), [(.arr 36 3 (List.length y4_1) (flatD enc_GChange y4_1)), (.box [(.i r31_2.1.Loc), (.i r31_2.1.Time), (.i r31_2.1.N)])], 0⟩ ?_
     rcases tf_ (decide (r31_2.2.2 ≠ 0)) with hc36_11 | hc36_11
     ·
      replace hm := cT hc36_11 hm
      refine AWP.if_ true (Eq.trans (by kernel_rfl) (lit_tf (b := decide (r31_2.2.2 ≠ 0)) hc36_11)) ?_
      refine AWP.seq ?_
      refine AWP.text ?_
      refine Wy (.i r31_2.2.2) [] (Omv rfl) ?_
      refine Wy (.d .nil) [] (Omv rfl) ?_
      refine Wy (.i 0) [] (Omv rfl) ?_
      refine Wy (.i r31_2.2.2) [] (Omv rfl) ?_
      refine Walk.nil ?_
      refine Then.normal ?_
      refine Aow 4 36 3 ⟨((.s p0) :: (tp 3 ((.own 2) :: ((.i 0) :: ((.i r31_2.2.2) :: (tp 1 ((.loc 1 0) :: ((.i r31_2.2.1) :: ((.i r31_2.2.2) :: (tp 14 ((.d (.lit (.int .u64 r16_0.1))) :: ((.d (.lit (.int .u64 y26_1))) :: (tp 9 ((.b (decide (r31_2.2.2 ≠ 0))) :: ((.i r31_2.2.2) :: (tp 33 [])))))))))))))))), [(.arr 36 3 (List.length y4_1) (flatD enc_GChange y4_1)), (.box [(.i r31_2.1.Loc), (.i r31_2.1.Time), (.i r31_2.1.N)]), (.arr 36 3 (List.length ([] : List GChange)) (flatD enc_GChange ([] : List GChange)))], 0⟩ ?_
      refine AWP.ret ?_
      refine Then.ret ?_
      refine InBlock.ret ?_
      refine Then.ret ?_
      refine RoundK.ret ?_
      refine InBlock.ret ?_
      refine Then.ret ?_
      obtain rfl := Option.some.inj hm
      exact ret_i [2]
     ·
      replace hm := cF hc36_11 hm
      refine AWP.if_ false (Eq.trans (by kernel_rfl) (lit_tf (b := decide (r31_2.2.2 ≠ 0)) hc36_11)) ?_
      refine AWP.skip ?_
      refine Then.normal ?_
      refine Amk 100664081 3 ⟨((.s p0) :: (tp 3 ((.own 0) :: (tp 3 ((.loc 1 0) :: ((.i r31_2.2.1) :: (tp 15 ((.d (.lit (.int .u64 r16_0.1))) :: ((.d (.lit (.int .u64 y26_1))) :: (tp 44 [])))))))))), [(.arr 36 3 (List.length y4_1) (flatD enc_GChange y4_1)), (.box [(.i r31_2.1.Loc), (.i r31_2.1.Time), (.i r31_2.1.N)])], 0⟩ ?_
      refine AWP.text ?_
      refine Wy (.own 0) [] (Omv rfl) ?_
      refine Wy (.agg [(.i r31_2.1.Loc), (.i r31_2.1.Time), (.i r31_2.1.N)]) [] (Old rfl) ?_
      refine Wy (.own 2) [(2, (.arr 36 3 (List.length ([r31_2.1] : List GChange)) (flatD enc_GChange ([r31_2.1] : List GChange))))] (Obs rfl) ?_
      obtain ⟨a41_3, ha41_3, hm⟩ := bnd hm; obtain ⟨ha41_3e, ha41_3l⟩ := app_some ha41_3
      refine Wy (.own 3) [(0, .gone), (3, (.arr 36 3 (List.length a41_3) (flatD enc_GChange a41_3)))] (Oap rfl elemOK_27 enc_GChange_len ha41_3e ha41_3l) ?_
      refine Wy (.i r31_2.2.1) [] (Omv rfl) ?_
      refine Wy (.own 3) [] (Omv rfl) ?_
      refine Wy (.i r31_2.2.1) [] (Omv rfl) ?_
      refine Walk.nil ?_
      refine InBlock.normal ?_
      refine Then.normal ?_
      refine Amk 100663345 8 ⟨((.s p0) :: (tp 3 ((.own 3) :: ((.i r31_2.2.1) :: (tp 19 ((.d (.lit (.int .u64 r16_0.1))) :: ((.d (.lit (.int .u64 y26_1))) :: (tp 44 [])))))))), [.gone, .gone, .gone, (.arr 36 3 (List.length a41_3) (flatD enc_GChange a41_3))], 0⟩ ?_
      refine AWP.text ?_
      refine Wy (.d (.lit (.int .u64 (IntKind.u64.wrap (y26_1 + 1))))) [] (Obn rfl (fun _ => hb_add (k := .u64))) ?_
      refine Wy (.d (.lit (.int .u64 (IntKind.u64.wrap (y26_1 + 1))))) [] (Omv rfl) ?_
      refine Walk.nil ?_
      refine RoundK.normal ?_
      exact Rounds.weak (Weak.toK 100663345 0 0 [3]) (ih_1 (fu_1, a41_3, r31_2.2.1, (IntKind.u64.wrap (y26_1 + 1))) hm (Nat.lt_succ_self _))
    ·
     replace hm := cF hc27_10 hm
     refine AWP.if_ false (Eq.trans (by kernel_rfl) (lit_tf (b := decide (y26_1 < r16_0.1)) hc27_10)) ?_
     refine AWP.exit ?_
     refine Then.exit ?_
     refine RoundK.exit ?_
     refine InBlock.same ?_
     refine Then.normal ?_
     refine Amk 48 1 ⟨(tp 4 ((.own 0) :: ((.i y5_1) :: (tp 65 [])))), [(.arr 36 3 (List.length y4_1) (flatD enc_GChange y4_1))], 0⟩ ?_
     refine AWP.seq ?_
     refine AWP.seq ?_
     refine AWP.text ?_
     refine Wy (.own 0) [] (Omv rfl) ?_
     refine Wy (.i ((List.length y4_1 : Nat) : Int)) [] (Oln rfl) ?_
     refine Wy (.i 0) [] (Omv rfl) ?_
     refine Walk.nil ?_
     refine Then.normal ?_
     refine Amk 123145302310960 1 ⟨(tp 4 ((.own 0) :: ((.i y5_1) :: (tp 38 ((.own 0) :: ((.i ((List.length y4_1 : Nat) : Int)) :: ((.i 0) :: (tp 24 [])))))))), [(.arr 36 3 (List.length y4_1) (flatD enc_GChange y4_1))], 0⟩ ?_
     refine AWP.block ?_
     refine AWP.loopI (α := Nat × Int)
       (fun x => match x with | (fu_5, y46_5) => (⟨(tp 4 ((.own 0) :: ((.i y5_1) :: (tp 38 ((.own 0) :: ((.i ((List.length y4_1 : Nat) : Int)) :: ((.i y46_5) :: (tp 24 [])))))))), [(.arr 36 3 (List.length y4_1) (flatD enc_GChange y4_1))], 0⟩ : St))
       (fun x => match x with | (fu_5, y46_5) => m_tally_Take_l5 y4_1 y5_1 fu_5 y46_5 = some r)
       (fun x => match x with | (fu_5, y46_5) => fu_5) (1152921504606846976, 0)
       (Weak.toK 123145302310960 0 0 [0]) hm ?_
     rintro ⟨fu_5, y46_5⟩ n_5 hm ih_5
     try dsimp only at hm ih_5 ⊢
     cases fu_5 with
     | zero => exact absurd hm (by unfold m_tally_Take_l5; simp)
     | succ fu_5 =>
      unfold m_tally_Take_l5 at hm
      refine AWP.seq ?_
      refine AWP.text ?_
      refine Wy (.b (decide (y46_5 < ((List.length y4_1 : Nat) : Int)))) [] (Obn rfl (fun _ => hb_lss (k := .i64))) ?_
      refine Walk.nil ?_
      refine Then.normal ?_
      refine Amk 263882790666288 1 ⟨(tp 4 ((.own 0) :: ((.i y5_1) :: (tp 38 ((.own 0) :: ((.i ((List.length y4_1 : Nat) : Int)) :: ((.i y46_5) :: ((.b (decide (y46_5 < ((List.length y4_1 : Nat) : Int)))) :: (tp 23 []))))))))), [(.arr 36 3 (List.length y4_1) (flatD enc_GChange y4_1))], 0⟩ ?_
      refine AWP.seq ?_
      rcases tf_ (decide (y46_5 < ((List.length y4_1 : Nat) : Int))) with hc47_12 | hc47_12
      ·
       replace hm := cT hc47_12 hm
       refine AWP.if_ true (Eq.trans (by kernel_rfl) (lit_tf (b := decide (y46_5 < ((List.length y4_1 : Nat) : Int))) hc47_12)) ?_
       refine AWP.skip ?_
       refine Then.normal ?_
       refine Amk 123145302310960 1 ⟨(tp 4 ((.own 0) :: ((.i y5_1) :: (tp 38 ((.own 0) :: ((.i ((List.length y4_1 : Nat) : Int)) :: ((.i y46_5) :: (tp 24 [])))))))), [(.arr 36 3 (List.length y4_1) (flatD enc_GChange y4_1))], 0⟩ ?_
       refine AWP.seq ?_
       refine AWP.block ?_
       refine AWP.seq ?_
       refine AWP.text ?_
       refine Wy (.i y46_5) [] (Omv rfl) ?_
       obtain ⟨x49_6, hx49_6, hm⟩ := bnd hm
       obtain ⟨hx49_6i, hx49_6g⟩ := geti_some hx49_6
       refine Wy (.loc 0 ((Int.toNat y46_5) * 3)) [] (Oia rfl enc_GChange_len hx49_6i hx49_6g) ?_
       refine Wy (.agg [(.i x49_6.Loc), (.i x49_6.Time), (.i x49_6.N)]) [] (Lr rfl enc_GChange_len hx49_6g) ?_
       refine Wy (.loc 1 0) [(1, (.box [(.i 0), (.i 0), (.i 0)]))] (Oal rfl) ?_
       refine Wy (.i y46_5) [] (Omv rfl) ?_
       refine Wy (.tup []) [(1, (.box [(.i x49_6.Loc), (.i x49_6.Time), (.i x49_6.N)]))] (Ost rfl) ?_
       refine Walk.nil ?_
       refine Then.normal ?_
       refine Amk 123145302317104 3 ⟨(tp 4 ((.own 0) :: ((.i y5_1) :: (tp 5 ((.i y46_5) :: ((.loc 1 0) :: (tp 31 ((.own 0) :: ((.i ((List.length y4_1 : Nat) : Int)) :: ((.i y46_5) :: (tp 24 []))))))))))), [(.arr 36 3 (List.length y4_1) (flatD enc_GChange y4_1)), (.box [(.i x49_6.Loc), (.i x49_6.Time), (.i x49_6.N)])], 0⟩ ?_
       refine AWP.seq ?_
       refine Adr ?_
       refine Wy (.loc 1 2) [] (Ofa rfl) ?_
       refine Wy (.i x49_6.N) [] (Old rfl) ?_
       refine Wy (.b (decide (x49_6.N = 0))) [] (Obn rfl (fun _ => hb_eql (k := .i64))) ?_
       rcases tf_ (decide (x49_6.N = 0)) with hq54_7 | hq54_7
       ·
        replace hm := cT hq54_7 hm
        refine Wy (.b true) [] (Ocs (lit_tf (b := decide (x49_6.N = 0)) hq54_7) (Omv rfl)) ?_
        refine Wn ?_
        refine Wn ?_
        refine Wn ?_
        refine Wn ?_
        refine Wn ?_
        refine Wn ?_
        refine Wn ?_
        refine Wn ?_
        refine Wn ?_
        refine Wn ?_
        refine Wn ?_
        refine Wn ?_
        refine Wy (.b true) [] (OpT rfl) ?_
        refine Wdr ?_
        refine Then.normal ?_
        refine Amk 147574075734978723888 1 ⟨(tp 4 ((.own 0) :: ((.i y5_1) :: (tp 38 ((.own 0) :: ((.i ((List.length y4_1 : Nat) : Int)) :: ((.i y46_5) :: (tp 20 ((.b true) :: (tp 3 [])))))))))), [(.arr 36 3 (List.length y4_1) (flatD enc_GChange y4_1)), .gone], 0⟩ ?_
        refine AWP.if_ true (by kernel_rfl) ?_
        refine AWP.seq ?_
        refine AWP.text ?_
        refine Wy (.d .nil) [] (Omv rfl) ?_
        refine Wy (.i 0) [] (Omv rfl) ?_
        refine Wy (.i 4) [] (Omv rfl) ?_
        refine Walk.nil ?_
        refine Then.normal ?_
        refine Aow 4 36 3 ⟨(tp 4 ((.own 2) :: ((.i 0) :: ((.i 4) :: (tp 37 ((.own 0) :: ((.i ((List.length y4_1 : Nat) : Int)) :: ((.i y46_5) :: (tp 20 ((.b true) :: (tp 3 []))))))))))), [(.arr 36 3 (List.length y4_1) (flatD enc_GChange y4_1)), .gone, (.arr 36 3 (List.length ([] : List GChange)) (flatD enc_GChange ([] : List GChange)))], 0⟩ ?_
        refine AWP.ret ?_
        refine InBlock.ret ?_
        refine Then.ret ?_
        refine RoundK.ret ?_
        refine InBlock.ret ?_
        refine Then.ret ?_
        obtain rfl := Option.some.inj hm
        exact ret_i [2]
       ·
        replace hm := cF hq54_7 hm
        refine Wy (.b false) [] (Ocs (lit_tf (b := decide (x49_6.N = 0)) hq54_7) (Omv rfl)) ?_
        refine Wy (.i y46_5) [] (Omv rfl) ?_
        refine Wy (.b (decide ((0 : Int) < y46_5))) [] (Obn rfl (fun _ => hb_gtr (k := .i64))) ?_
        rcases tf_ (decide ((0 : Int) < y46_5)) with hq57_7 | hq57_7
        ·
         replace hm := cT hq57_7 hm
         refine Wy (.b true) [] (Ocs (lit_tf (b := decide ((0 : Int) < y46_5)) hq57_7) (Omv rfl)) ?_
         refine Wy (.own 0) [] (Omv rfl) ?_
         refine Wy (.i y46_5) [] (Omv rfl) ?_
         refine Wy (.i (IntKind.i64.wrap (y46_5 - 1))) [] (Obn rfl (fun _ => hb_sub (k := .i64))) ?_
         obtain ⟨x61_7, hx61_7, hm⟩ := bnd hm
         obtain ⟨hx61_7i, hx61_7g⟩ := geti_some hx61_7
         refine Wy (.loc 0 ((Int.toNat (IntKind.i64.wrap (y46_5 - 1))) * 3)) [] (Oia rfl enc_GChange_len hx61_7i hx61_7g) ?_
         refine Wy (.agg [(.i x61_7.Loc), (.i x61_7.Time), (.i x61_7.N)]) [] (Lr rfl enc_GChange_len hx61_7g) ?_
         refine Wy (.agg [(.i x49_6.Loc), (.i x49_6.Time), (.i x49_6.N)]) [] (Old rfl) ?_
         obtain ⟨r64_7, hr64_7, hm⟩ := bnd hm
         refine Wy (.i r64_7) [] (Ocf [] [] [] 0 (ok_tally_order x61_7 x49_6 r64_7 hr64_7) (fun a w => Try.call26 a w) rfl trivial) ?_
         refine Wy (.b (decide ((0 : Int) ≤ r64_7))) [] (Obn rfl (fun _ => hb_geq (k := .i64))) ?_
         refine Wy (.b (decide ((0 : Int) ≤ r64_7))) [] (OpT rfl) ?_
         refine Wy (.b (decide ((0 : Int) ≤ r64_7))) [] (OpF rfl) ?_
         refine Wdr ?_
         refine Then.normal ?_
         refine Amk 147574075734978723888 1 ⟨(tp 4 ((.own 0) :: ((.i y5_1) :: (tp 38 ((.own 0) :: ((.i ((List.length y4_1 : Nat) : Int)) :: ((.i y46_5) :: (tp 20 ((.b (decide ((0 : Int) ≤ r64_7))) :: (tp 3 [])))))))))), [(.arr 36 3 (List.length y4_1) (flatD enc_GChange y4_1)), .gone], 0⟩ ?_
         rcases tf_ (decide ((0 : Int) ≤ r64_7)) with hc67_13 | hc67_13
         ·
          replace hm := cT hc67_13 hm
          refine AWP.if_ true (Eq.trans (by kernel_rfl) (lit_tf (b := decide ((0 : Int) ≤ r64_7)) hc67_13)) ?_
          refine AWP.seq ?_
          refine AWP.text ?_
          refine Wy (.d .nil) [] (Omv rfl) ?_
          refine Wy (.i 0) [] (Omv rfl) ?_
          refine Wy (.i 4) [] (Omv rfl) ?_
          refine Walk.nil ?_
          refine Then.normal ?_
          refine Aow 4 36 3 ⟨(tp 4 ((.own 2) :: ((.i 0) :: ((.i 4) :: (tp 37 ((.own 0) :: ((.i ((List.length y4_1 : Nat) : Int)) :: ((.i y46_5) :: (tp 20 ((.b (decide ((0 : Int) ≤ r64_7))) :: (tp 3 []))))))))))), [(.arr 36 3 (List.length y4_1) (flatD enc_GChange y4_1)), .gone, (.arr 36 3 (List.length ([] : List GChange)) (flatD enc_GChange ([] : List GChange)))], 0⟩ ?_
          refine AWP.ret ?_
          refine InBlock.ret ?_
          refine Then.ret ?_
          refine RoundK.ret ?_
          refine InBlock.ret ?_
          refine Then.ret ?_
          obtain rfl := Option.some.inj hm
          exact ret_i [2]
         ·
          replace hm := cF hc67_13 hm
          refine AWP.if_ false (Eq.trans (by kernel_rfl) (lit_tf (b := decide ((0 : Int) ≤ r64_7)) hc67_13)) ?_
          refine AWP.skip ?_
          refine InBlock.normal ?_
          refine Then.normal ?_
          refine Amk 123145302310960 1 ⟨(tp 4 ((.own 0) :: ((.i y5_1) :: (tp 38 ((.own 0) :: ((.i ((List.length y4_1 : Nat) : Int)) :: ((.i y46_5) :: (tp 24 [])))))))), [(.arr 36 3 (List.length y4_1) (flatD enc_GChange y4_1)), .gone], 0⟩ ?_
          refine AWP.text ?_
          refine Wy (.i (IntKind.i64.wrap (y46_5 + 1))) [] (Obn rfl (fun _ => hb_add (k := .i64))) ?_
          refine Wy (.i (IntKind.i64.wrap (y46_5 + 1))) [] (Omv rfl) ?_
          refine Walk.nil ?_
          refine RoundK.normal ?_
          exact Rounds.weak (Weak.toK 123145302310960 0 0 [0]) (ih_5 (fu_5, (IntKind.i64.wrap (y46_5 + 1))) hm (Nat.lt_succ_self _))
        ·
         replace hm := cF hq57_7 hm
         refine Wy (.b false) [] (Ocs (lit_tf (b := decide ((0 : Int) < y46_5)) hq57_7) (Omv rfl)) ?_
         refine Wn ?_
         refine Wn ?_
         refine Wn ?_
         refine Wn ?_
         refine Wn ?_
         refine Wn ?_
         refine Wn ?_
         refine Wn ?_
         refine Wy (.b false) [] (OpF rfl) ?_
         refine Wy (.b false) [] (OpF rfl) ?_
         refine Wdr ?_
         refine Then.normal ?_
         refine Amk 147574075734978723888 1 ⟨(tp 4 ((.own 0) :: ((.i y5_1) :: (tp 38 ((.own 0) :: ((.i ((List.length y4_1 : Nat) : Int)) :: ((.i y46_5) :: (tp 20 ((.b false) :: (tp 3 [])))))))))), [(.arr 36 3 (List.length y4_1) (flatD enc_GChange y4_1)), .gone], 0⟩ ?_
         refine AWP.if_ false (by kernel_rfl) ?_
         refine AWP.skip ?_
         refine InBlock.normal ?_
         refine Then.normal ?_
         refine Amk 123145302310960 1 ⟨(tp 4 ((.own 0) :: ((.i y5_1) :: (tp 38 ((.own 0) :: ((.i ((List.length y4_1 : Nat) : Int)) :: ((.i y46_5) :: (tp 24 [])))))))), [(.arr 36 3 (List.length y4_1) (flatD enc_GChange y4_1)), .gone], 0⟩ ?_
         refine AWP.text ?_
         refine Wy (.i (IntKind.i64.wrap (y46_5 + 1))) [] (Obn rfl (fun _ => hb_add (k := .i64))) ?_
         refine Wy (.i (IntKind.i64.wrap (y46_5 + 1))) [] (Omv rfl) ?_
         refine Walk.nil ?_
         refine RoundK.normal ?_
         exact Rounds.weak (Weak.toK 123145302310960 0 0 [0]) (ih_5 (fu_5, (IntKind.i64.wrap (y46_5 + 1))) hm (Nat.lt_succ_self _))
      ·
       replace hm := cF hc47_12 hm
       refine AWP.if_ false (Eq.trans (by kernel_rfl) (lit_tf (b := decide (y46_5 < ((List.length y4_1 : Nat) : Int))) hc47_12)) ?_
       refine AWP.exit ?_
       refine Then.exit ?_
       refine RoundK.exit ?_
       refine InBlock.same ?_
       refine Then.normal ?_
       refine Amk 48 1 ⟨(tp 4 ((.own 0) :: ((.i y5_1) :: (tp 65 [])))), [(.arr 36 3 (List.length y4_1) (flatD enc_GChange y4_1))], 0⟩ ?_
       refine AWP.seq ?_
       refine AWP.text ?_
       refine Wy (.own 0) [] (Omv rfl) ?_
       refine Wy (.i y5_1) [] (Omv rfl) ?_
       refine Wy (.own 0) [] (Omv rfl) ?_
       refine Wy (.i y5_1) [] (Omv rfl) ?_
       refine Wy (.i 0) [] (Omv rfl) ?_
       refine Walk.nil ?_
       refine Then.normal ?_
       refine AWP.ret ?_
       obtain rfl := Option.some.inj hm
       exact ret_i [0]

set_option maxRecDepth 20000 in
set_option maxHeartbeats 4000000 in
theorem ok_slices_Grow_Change (p1 : Int) (r : (List GChange)) (h : m_slices_Grow_Change p1 = some r) : GCall Try.prog 44 [(.d .nil), (.i p1)] [] (.own 0) [(.arr 36 3 (List.length r) (flatD enc_GChange r))] := by
 refine GCall.of_body (n := 27) (rs := [(.tmp 4)]) Try.func44 rfl rfl rfl ?_
 refine Ato ⟨((.d .nil) :: ((.i p1) :: (tu 25 []))), [], 0⟩ ?_
 have hm := h
 unfold m_slices_Grow_Change at hm
 refine AWP.seq ?_
 refine AWP.text ?_
 refine Wy (.d .nil) [] (Omv rfl) ?_
 refine Walk.nil ?_
 refine Then.normal ?_
 refine Amk 3 0 ⟨((.d .nil) :: ((.i p1) :: (tp 25 []))), [], 0⟩ ?_
 refine AWP.seq ?_
 refine AWP.seq ?_
 refine AWP.text ?_
 refine Wy (.i p1) [] (Omv rfl) ?_
 refine Wy (.b (decide (p1 < 0))) [] (Obn rfl (fun _ => hb_lss (k := .i64))) ?_
 refine Walk.nil ?_
 refine Then.normal ?_
 refine Amk 67 0 ⟨((.d .nil) :: ((.i p1) :: (tp 4 ((.b (decide (p1 < 0))) :: (tp 20 []))))), [], 0⟩ ?_
 rcases tf_ (decide (p1 < 0)) with hc6_2 | hc6_2
 ·
  replace hm := cT hc6_2 hm
  refine AWP.if_ true (Eq.trans (by kernel_rfl) (lit_tf (b := decide (p1 < 0)) hc6_2)) ?_
  refine AWP.text ?_
  refine Wy (.d (.lit (Value.iface 9 (.string (toS ([99, 97, 110, 110, 111, 116, 32, 98, 101, 32, 110, 101, 103, 97, 116, 105, 118, 101] : List UInt8)))))) [] (Oif rfl) ?_
  exact nomatch hm
 ·
  replace hm := cF hc6_2 hm
  refine AWP.if_ false (Eq.trans (by kernel_rfl) (lit_tf (b := decide (p1 < 0)) hc6_2)) ?_
  refine AWP.skip ?_
  refine Then.normal ?_
  refine Amk 3 0 ⟨((.d .nil) :: ((.i p1) :: (tp 25 []))), [], 0⟩ ?_
  refine AWP.seq ?_
  refine AWP.seq ?_
  refine AWP.text ?_
  refine Wy (.i p1) [] (Omv rfl) ?_
  refine Wy (.d .nil) [] (Omv rfl) ?_
  refine Wy (.i 0) [] (Ocap rfl (e := 36) (by kernel_rfl)) ?_
  refine Wy (.d .nil) [] (Omv rfl) ?_
  refine Wy (.i 0) [] (Oln rfl) ?_
  refine Wy (.i 0) [] (Ocs (by kernel_rfl) (op_bin rfl (a1 := .int .i64 0) (a2 := .int .i64 0) (by kernel_rfl) (by kernel_rfl) (fun _ => hb_sub))) ?_
  refine Wy (.i (IntKind.i64.wrap (p1 - 0))) [] (Obn rfl (fun _ => hb_sub (k := .i64))) ?_
  refine Wy (.i (IntKind.i64.wrap (p1 - 0))) [] (Omv rfl) ?_
  refine Walk.nil ?_
  refine Then.normal ?_
  refine Amk 3 0 ⟨((.d .nil) :: ((.i (IntKind.i64.wrap (p1 - 0))) :: (tp 25 []))), [], 0⟩ ?_
  refine AWP.seq ?_
  refine AWP.text ?_
  refine Wy (.i (IntKind.i64.wrap (p1 - 0))) [] (Omv rfl) ?_
  refine Wy (.b (decide ((0 : Int) < (IntKind.i64.wrap (p1 - 0))))) [] (Obn rfl (fun _ => hb_gtr (k := .i64))) ?_
  refine Walk.nil ?_
  refine Then.normal ?_
  refine Amk 65539 0 ⟨((.d .nil) :: ((.i (IntKind.i64.wrap (p1 - 0))) :: (tp 14 ((.b (decide ((0 : Int) < (IntKind.i64.wrap (p1 - 0))))) :: (tp 10 []))))), [], 0⟩ ?_
  rcases tf_ (decide ((0 : Int) < (IntKind.i64.wrap (p1 - 0)))) with hc16_3 | hc16_3
  ·
   replace hm := cT hc16_3 hm
   refine AWP.if_ true (Eq.trans (by kernel_rfl) (lit_tf (b := decide ((0 : Int) < (IntKind.i64.wrap (p1 - 0)))) hc16_3)) ?_
   refine AWP.text ?_
   refine Wy (.d .nil) [] (Omv rfl) ?_
   refine Wy (.d .nil) [] (Omv rfl) ?_
   refine Wy (.i 0) [] (Ocap rfl (e := 36) (by kernel_rfl)) ?_
   refine Wy (.d .nil) [] (Ocn rfl (k := .i64) (by kernel_rfl)) ?_
   refine Wy (.i (IntKind.i64.wrap (p1 - 0))) [] (Omv rfl) ?_
   obtain ⟨a22_1, ha22_1, hm⟩ := bnd hm; obtain ⟨ha22_1i, ha22_1l, ha22_1e⟩ := mk_some ha22_1
   obtain ⟨ha22_1p, hm⟩ := chk_some hm
   refine Wy (.own 0) [(0, (.arr 36 3 (List.length a22_1) (flatD enc_GChange a22_1)))] (OcB (OapZ rfl elemOK_27 (kn := .i64) (kq := .i64) (by kernel_rfl) (by kernel_rfl) (L := (IntKind.i64.wrap (p1 - 0))) (n := Int.toNat (IntKind.i64.wrap (p1 - 0))) ha22_1i ha22_1p ha22_1l) (bl_one (by rw [ha22_1e]; simp) (by rw [ha22_1e]; exact (flat_rep (by kernel_rfl))))) ?_
   refine Wy (.d .nil) [] (Omv rfl) ?_
   refine Wy (.i 0) [] (Oln rfl) ?_
   obtain ⟨s25_1, hs25_1, hm⟩ := bnd hm; obtain ⟨hs25_1a, hs25_1b, hs25_1c, hs25_1d, hs25_1e⟩ := cut_some hs25_1
   refine Wy (.own 1) [(0, .gone), (1, (.arr 36 3 (List.length s25_1) (flatD enc_GChange s25_1)))] (OcB (op_sliceTo rfl (id := 0) (e := 36) (sz := 3) (n := List.length a22_1) (xs := flatD enc_GChange a22_1) (by kernel_rfl) (by kernel_rfl) (by kernel_rfl) (k := .i64) (hv := 0) (by kernel_rfl) (h := (Int.toNat 0)) hs25_1b hs25_1d (by kernel_rfl) (by decide)) (bl_app (cut_len0 hs25_1e hs25_1d) (cut_take0 enc_GChange_len hs25_1e))) ?_
   refine Wy (.own 1) [] (Omv rfl) ?_
   refine Walk.nil ?_
   refine Then.normal ?_
   refine Amk 1 2 ⟨((.own 1) :: (tp 26 [])), [.gone, (.arr 36 3 (List.length s25_1) (flatD enc_GChange s25_1))], 0⟩ ?_
   refine AWP.seq ?_
   refine AWP.text ?_
   refine Wy (.own 1) [] (Omv rfl) ?_
   refine Wy (.own 1) [] (Omv rfl) ?_
   refine Walk.nil ?_
   refine Then.normal ?_
   refine AWP.ret ?_
   obtain rfl := Option.some.inj hm
   exact ret_i [1]
  ·
   replace hm := cF hc16_3 hm
   refine AWP.if_ false (Eq.trans (by kernel_rfl) (lit_tf (b := decide ((0 : Int) < (IntKind.i64.wrap (p1 - 0)))) hc16_3)) ?_
   refine AWP.skip ?_
   refine Then.normal ?_
   refine Amk 1 0 ⟨((.d .nil) :: (tp 26 [])), [], 0⟩ ?_
   refine AWP.seq ?_
   refine AWP.text ?_
   refine Wy (.d .nil) [] (Omv rfl) ?_
   refine Wy (.d .nil) [] (Omv rfl) ?_
   refine Walk.nil ?_
   refine Then.normal ?_
   refine Aow 4 36 3 ⟨((.d .nil) :: (tp 3 ((.own 0) :: (tp 21 ((.d .nil) :: []))))), [(.arr 36 3 (List.length ([] : List GChange)) (flatD enc_GChange ([] : List GChange)))], 0⟩ ?_
   refine AWP.ret ?_
   obtain rfl := Option.some.inj hm
   exact ret_i [0]

set_option maxRecDepth 20000 in
set_option maxHeartbeats 4000000 in
theorem ok_slices_Concat_Change (p0 : (List (List GChange))) (r : (List GChange)) (h : m_slices_Concat_Change p0 = some r) : GCall Try.prog 30 [(.l (encL enc_GChange) p0)] [] (.own 0) [(.arr 36 3 (List.length r) (flatD enc_GChange r))] := by
 refine GCall.of_body (n := 36) (rs := [(.tmp 2)]) Try.func30 rfl rfl rfl ?_
 refine Ato ⟨((.l (encL enc_GChange) p0) :: (tu 35 [])), [], 0⟩ ?_
 have hm := h
 unfold m_slices_Concat_Change at hm
 refine AWP.seq ?_
 refine AWP.text ?_
 refine Wy (.d .nil) [] (Omv rfl) ?_
 refine Walk.nil ?_
 refine Then.normal ?_
 refine Amk 1 0 ⟨((.l (encL enc_GChange) p0) :: (tp 35 [])), [], 0⟩ ?_
 refine AWP.seq ?_
 refine AWP.text ?_
 refine Wy (.i 0) [] (Omv rfl) ?_
 refine Walk.nil ?_
 refine Then.normal ?_
 refine Amk 9 0 ⟨((.l (encL enc_GChange) p0) :: (tp 2 ((.i 0) :: (tp 32 [])))), [], 0⟩ ?_
 refine AWP.seq ?_
 refine AWP.seq ?_
 refine AWP.text ?_
 refine Wy (.l (encL enc_GChange) p0) [] (Omv rfl) ?_
 refine Wy (.i ((List.length p0 : Nat) : Int)) [] (Oln rfl) ?_
 refine Wy (.i 0) [] (Omv rfl) ?_
 refine Walk.nil ?_
 refine Then.normal ?_
 refine Amk 3593 0 ⟨((.l (encL enc_GChange) p0) :: (tp 2 ((.i 0) :: (tp 5 ((.l (encL enc_GChange) p0) :: ((.i ((List.length p0 : Nat) : Int)) :: ((.i 0) :: (tp 24 [])))))))), [], 0⟩ ?_
 refine AWP.block ?_
 refine AWP.loopI (α := Nat × Int × Int)
   (fun x => match x with | (fu_1, y3_1, y11_1) => (⟨((.l (encL enc_GChange) p0) :: (tp 2 ((.i y3_1) :: (tp 5 ((.l (encL enc_GChange) p0) :: ((.i ((List.length p0 : Nat) : Int)) :: ((.i y11_1) :: (tp 24 [])))))))), [], 0⟩ : St))
   (fun x => match x with | (fu_1, y3_1, y11_1) => m_slices_Concat_Change_l1 p0 fu_1 y3_1 y11_1 = some r)
   (fun x => match x with | (fu_1, y3_1, y11_1) => fu_1) (1152921504606846976, 0, 0)
   (Weak.toK 3593 0 0 []) hm ?_
 rintro ⟨fu_1, y3_1, y11_1⟩ n_1 hm ih_1
 try dsimp only at hm ih_1 ⊢
 cases fu_1 with
 | zero => exact absurd hm (by unfold m_slices_Concat_Change_l1; simp)
 | succ fu_1 =>
  unfold m_slices_Concat_Change_l1 at hm
  refine AWP.seq ?_
  refine AWP.text ?_
  refine Wy (.b (decide (y11_1 < ((List.length p0 : Nat) : Int)))) [] (Obn rfl (fun _ => hb_lss (k := .i64))) ?_
  refine Walk.nil ?_
  refine Then.normal ?_
  refine Amk 7689 0 ⟨((.l (encL enc_GChange) p0) :: (tp 2 ((.i y3_1) :: (tp 5 ((.l (encL enc_GChange) p0) :: ((.i ((List.length p0 : Nat) : Int)) :: ((.i y11_1) :: ((.b (decide (y11_1 < ((List.length p0 : Nat) : Int)))) :: (tp 23 []))))))))), [], 0⟩ ?_
  refine AWP.seq ?_
  rcases tf_ (decide (y11_1 < ((List.length p0 : Nat) : Int))) with hc12_9 | hc12_9
  ·
   replace hm := cT hc12_9 hm
   refine AWP.if_ true (Eq.trans (by kernel_rfl) (lit_tf (b := decide (y11_1 < ((List.length p0 : Nat) : Int))) hc12_9)) ?_
   refine AWP.skip ?_
   refine Then.normal ?_
   refine Amk 3593 0 ⟨((.l (encL enc_GChange) p0) :: (tp 2 ((.i y3_1) :: (tp 5 ((.l (encL enc_GChange) p0) :: ((.i ((List.length p0 : Nat) : Int)) :: ((.i y11_1) :: (tp 24 [])))))))), [], 0⟩ ?_
   refine AWP.seq ?_
   refine AWP.block ?_
   refine AWP.seq ?_
   refine AWP.text ?_
   obtain ⟨x13_2, hx13_2, hm⟩ := bnd hm
   obtain ⟨hx13_2i, hx13_2g⟩ := geti_some hx13_2
   refine Wy (.d (.ref (List.drop ((Int.toNat y11_1) * 1) (flatD (encL enc_GChange) p0)))) [] (Oia rfl (encL_len (enc := enc_GChange)) hx13_2i hx13_2g) ?_
   refine Wy (.l enc_GChange x13_2) [] (Lf1 rfl (encL_len (enc := enc_GChange)) hx13_2g) ?_
   refine Wy (.l enc_GChange x13_2) [] (Omv rfl) ?_
   refine Walk.nil ?_
   refine Then.normal ?_
   refine Amk 3625 0 ⟨((.l (encL enc_GChange) p0) :: (tp 2 ((.i y3_1) :: (tp 1 ((.l enc_GChange x13_2) :: (tp 3 ((.l (encL enc_GChange) p0) :: ((.i ((List.length p0 : Nat) : Int)) :: ((.i y11_1) :: (tp 24 [])))))))))), [], 0⟩ ?_
   refine AWP.seq ?_
   refine AWP.text ?_
   refine Wy (.i y3_1) [] (Omv rfl) ?_
   refine Wy (.l enc_GChange x13_2) [] (Omv rfl) ?_
   refine Wy (.i ((List.length x13_2 : Nat) : Int)) [] (Oln rfl) ?_
   refine Wy (.i (IntKind.i64.wrap (y3_1 + ((List.length x13_2 : Nat) : Int)))) [] (Obn rfl (fun _ => hb_add (k := .i64))) ?_
   refine Wy (.i (IntKind.i64.wrap (y3_1 + ((List.length x13_2 : Nat) : Int)))) [] (Omv rfl) ?_
   refine Walk.nil ?_
   refine Then.normal ?_
   refine Amk 3593 0 ⟨((.l (encL enc_GChange) p0) :: (tp 2 ((.i (IntKind.i64.wrap (y3_1 + ((List.length x13_2 : Nat) : Int)))) :: (tp 5 ((.l (encL enc_GChange) p0) :: ((.i ((List.length p0 : Nat) : Int)) :: ((.i y11_1) :: (tp 24 [])))))))), [], 0⟩ ?_
   refine AWP.seq ?_
   refine AWP.text ?_
   refine Wy (.i (IntKind.i64.wrap (y3_1 + ((List.length x13_2 : Nat) : Int)))) [] (Omv rfl) ?_
   refine Wy (.b (decide ((IntKind.i64.wrap (y3_1 + ((List.length x13_2 : Nat) : Int))) < 0))) [] (Obn rfl (fun _ => hb_lss (k := .i64))) ?_
   refine Walk.nil ?_
   refine Then.normal ?_
   refine Amk 1052169 0 ⟨((.l (encL enc_GChange) p0) :: (tp 2 ((.i (IntKind.i64.wrap (y3_1 + ((List.length x13_2 : Nat) : Int)))) :: (tp 5 ((.l (encL enc_GChange) p0) :: ((.i ((List.length p0 : Nat) : Int)) :: ((.i y11_1) :: (tp 8 ((.b (decide ((IntKind.i64.wrap (y3_1 + ((List.length x13_2 : Nat) : Int))) < 0))) :: (tp 15 [])))))))))), [], 0⟩ ?_
   rcases tf_ (decide ((IntKind.i64.wrap (y3_1 + ((List.length x13_2 : Nat) : Int))) < 0)) with hc20_10 | hc20_10
   ·
    replace hm := cT hc20_10 hm
    refine AWP.if_ true (Eq.trans (by kernel_rfl) (lit_tf (b := decide ((IntKind.i64.wrap (y3_1 + ((List.length x13_2 : Nat) : Int))) < 0)) hc20_10)) ?_
    refine AWP.text ?_
    refine Wy (.d (.lit (Value.iface 9 (.string (toS ([108, 101, 110, 32, 111, 117, 116, 32, 111, 102, 32, 114, 97, 110, 103, 101] : List UInt8)))))) [] (Oif rfl) ?_
    exact nomatch hm
   ·
    replace hm := cF hc20_10 hm
    refine AWP.if_ false (Eq.trans (by kernel_rfl) (lit_tf (b := decide ((IntKind.i64.wrap (y3_1 + ((List.length x13_2 : Nat) : Int))) < 0)) hc20_10)) ?_
    refine AWP.skip ?_
    refine InBlock.normal ?_
    refine Then.normal ?_
    refine Amk 3593 0 ⟨((.l (encL enc_GChange) p0) :: (tp 2 ((.i (IntKind.i64.wrap (y3_1 + ((List.length x13_2 : Nat) : Int)))) :: (tp 5 ((.l (encL enc_GChange) p0) :: ((.i ((List.length p0 : Nat) : Int)) :: ((.i y11_1) :: (tp 24 [])))))))), [], 0⟩ ?_
    refine AWP.text ?_
    refine Wy (.i (IntKind.i64.wrap (y11_1 + 1))) [] (Obn rfl (fun _ => hb_add (k := .i64))) ?_
    refine Wy (.i (IntKind.i64.wrap (y11_1 + 1))) [] (Omv rfl) ?_
    refine Walk.nil ?_
    refine RoundK.normal ?_
    exact Rounds.weak (Weak.toK 3593 0 0 []) (ih_1 (fu_1, (IntKind.i64.wrap (y3_1 + ((List.length x13_2 : Nat) : Int))), (IntKind.i64.wrap (y11_1 + 1))) hm (Nat.lt_succ_self _))
  ·
   replace hm := cF hc12_9 hm
   refine AWP.if_ false (Eq.trans (by kernel_rfl) (lit_tf (b := decide (y11_1 < ((List.length p0 : Nat) : Int))) hc12_9)) ?_
   refine AWP.exit ?_
   refine Then.exit ?_
   refine RoundK.exit ?_
   refine InBlock.same ?_
   refine Then.normal ?_
   refine Amk 9 0 ⟨((.l (encL enc_GChange) p0) :: (tp 2 ((.i y3_1) :: (tp 32 [])))), [], 0⟩ ?_
   refine AWP.seq ?_
   refine AWP.text ?_
   refine Wy (.i y3_1) [] (Omv rfl) ?_
   obtain ⟨r24_4, hr24_4, hm⟩ := bnd hm
   refine Wy (.own 0) [(0, (.arr 36 3 (List.length r24_4) (flatD enc_GChange r24_4)))] (Ocf [] [0] [] 1 (ok_slices_Grow_Change y3_1 r24_4 hr24_4) (fun a w => Try.call44 a w) rfl trivial) ?_
   refine Wy (.own 0) [] (Omv rfl) ?_
   refine Walk.nil ?_
   refine Then.normal ?_
   refine Amk 65 1 ⟨((.l (encL enc_GChange) p0) :: (tp 5 ((.own 0) :: (tp 29 [])))), [(.arr 36 3 (List.length r24_4) (flatD enc_GChange r24_4))], 0⟩ ?_
   refine AWP.seq ?_
   refine AWP.seq ?_
   refine AWP.text ?_
   refine Wy (.l (encL enc_GChange) p0) [] (Omv rfl) ?_
   refine Wy (.i ((List.length p0 : Nat) : Int)) [] (Oln rfl) ?_
   refine Wy (.i 0) [] (Omv rfl) ?_
   refine Walk.nil ?_
   refine Then.normal ?_
   refine Amk 234881088 1 ⟨(tp 6 ((.own 0) :: (tp 18 ((.l (encL enc_GChange) p0) :: ((.i ((List.length p0 : Nat) : Int)) :: ((.i 0) :: (tp 8 []))))))), [(.arr 36 3 (List.length r24_4) (flatD enc_GChange r24_4))], 0⟩ ?_
   refine AWP.block ?_
   refine AWP.loopI (α := Nat × (List GChange) × Int)
     (fun x => match x with | (fu_6, y6_6, y27_6) => (⟨(tp 6 ((.own 0) :: (tp 18 ((.l (encL enc_GChange) p0) :: ((.i ((List.length p0 : Nat) : Int)) :: ((.i y27_6) :: (tp 8 []))))))), [(.arr 36 3 (List.length y6_6) (flatD enc_GChange y6_6))], 0⟩ : St))
     (fun x => match x with | (fu_6, y6_6, y27_6) => m_slices_Concat_Change_l6 p0 fu_6 y6_6 y27_6 = some r)
     (fun x => match x with | (fu_6, y6_6, y27_6) => fu_6) (1152921504606846976, r24_4, 0)
     (Weak.toK 234881088 0 0 [0]) hm ?_
   rintro ⟨fu_6, y6_6, y27_6⟩ n_6 hm ih_6
   try dsimp only at hm ih_6 ⊢
   cases fu_6 with
   | zero => exact absurd hm (by unfold m_slices_Concat_Change_l6; simp)
   | succ fu_6 =>
    unfold m_slices_Concat_Change_l6 at hm
    refine AWP.seq ?_
    refine AWP.text ?_
    refine Wy (.b (decide (y27_6 < ((List.length p0 : Nat) : Int)))) [] (Obn rfl (fun _ => hb_lss (k := .i64))) ?_
    refine Walk.nil ?_
    refine Then.normal ?_
    refine Amk 503316544 1 ⟨(tp 6 ((.own 0) :: (tp 18 ((.l (encL enc_GChange) p0) :: ((.i ((List.length p0 : Nat) : Int)) :: ((.i y27_6) :: ((.b (decide (y27_6 < ((List.length p0 : Nat) : Int)))) :: (tp 7 [])))))))), [(.arr 36 3 (List.length y6_6) (flatD enc_GChange y6_6))], 0⟩ ?_
    refine AWP.seq ?_
    rcases tf_ (decide (y27_6 < ((List.length p0 : Nat) : Int))) with hc28_11 | hc28_11
    ·
     replace hm := cT hc28_11 hm
     refine AWP.if_ true (Eq.trans (by kernel_rfl) (lit_tf (b := decide (y27_6 < ((List.length p0 : Nat) : Int))) hc28_11)) ?_
     refine AWP.skip ?_
     refine Then.normal ?_
     refine Amk 234881088 1 ⟨(tp 6 ((.own 0) :: (tp 18 ((.l (encL enc_GChange) p0) :: ((.i ((List.length p0 : Nat) : Int)) :: ((.i y27_6) :: (tp 8 []))))))), [(.arr 36 3 (List.length y6_6) (flatD enc_GChange y6_6))], 0⟩ ?_
     refine AWP.seq ?_
     refine AWP.block ?_
     refine AWP.seq ?_
     refine AWP.text ?_
     obtain ⟨x29_7, hx29_7, hm⟩ := bnd hm
     obtain ⟨hx29_7i, hx29_7g⟩ := geti_some hx29_7
     refine Wy (.d (.ref (List.drop ((Int.toNat y27_6) * 1) (flatD (encL enc_GChange) p0)))) [] (Oia rfl (encL_len (enc := enc_GChange)) hx29_7i hx29_7g) ?_
     refine Wy (.l enc_GChange x29_7) [] (Lf1 rfl (encL_len (enc := enc_GChange)) hx29_7g) ?_
     refine Wy (.l enc_GChange x29_7) [] (Omv rfl) ?_
     refine Walk.nil ?_
     refine Then.normal ?_
     refine Amk 234881344 1 ⟨(tp 6 ((.own 0) :: (tp 1 ((.l enc_GChange x29_7) :: (tp 16 ((.l (encL enc_GChange) p0) :: ((.i ((List.length p0 : Nat) : Int)) :: ((.i y27_6) :: (tp 8 []))))))))), [(.arr 36 3 (List.length y6_6) (flatD enc_GChange y6_6))], 0⟩ ?_
     refine AWP.text ?_
     refine Wy (.own 0) [] (Omv rfl) ?_
     refine Wy (.l enc_GChange x29_7) [] (Omv rfl) ?_
     obtain ⟨a33_8, ha33_8, hm⟩ := bnd hm; obtain ⟨ha33_8e, ha33_8l⟩ := app_some ha33_8
     refine Wy (.own 1) [(0, .gone), (1, (.arr 36 3 (List.length a33_8) (flatD enc_GChange a33_8)))] (Oap rfl elemOK_27 enc_GChange_len ha33_8e ha33_8l) ?_
     refine Wy (.own 1) [] (Omv rfl) ?_
     refine Walk.nil ?_
     refine InBlock.normal ?_
     refine Then.normal ?_
     refine Amk 234881088 2 ⟨(tp 6 ((.own 1) :: (tp 18 ((.l (encL enc_GChange) p0) :: ((.i ((List.length p0 : Nat) : Int)) :: ((.i y27_6) :: (tp 8 []))))))), [.gone, (.arr 36 3 (List.length a33_8) (flatD enc_GChange a33_8))], 0⟩ ?_
     refine AWP.text ?_
     refine Wy (.i (IntKind.i64.wrap (y27_6 + 1))) [] (Obn rfl (fun _ => hb_add (k := .i64))) ?_
     refine Wy (.i (IntKind.i64.wrap (y27_6 + 1))) [] (Omv rfl) ?_
     refine Walk.nil ?_
     refine RoundK.normal ?_
     exact Rounds.weak (Weak.toK 234881088 0 0 [1]) (ih_6 (fu_6, a33_8, (IntKind.i64.wrap (y27_6 + 1))) hm (Nat.lt_succ_self _))
    ·
     replace hm := cF hc28_11 hm
     refine AWP.if_ false (Eq.trans (by kernel_rfl) (lit_tf (b := decide (y27_6 < ((List.length p0 : Nat) : Int))) hc28_11)) ?_
     refine AWP.exit ?_
     refine Then.exit ?_
     refine RoundK.exit ?_
     refine InBlock.same ?_
     refine Then.normal ?_
     refine Amk 64 1 ⟨(tp 6 ((.own 0) :: (tp 29 []))), [(.arr 36 3 (List.length y6_6) (flatD enc_GChange y6_6))], 0⟩ ?_
     refine AWP.seq ?_
     refine AWP.text ?_
     refine Wy (.own 0) [] (Omv rfl) ?_
     refine Wy (.own 0) [] (Omv rfl) ?_
     refine Walk.nil ?_
     refine Then.normal ?_
     refine AWP.ret ?_
     obtain rfl := Option.some.inj hm
     exact ret_i [0]

set_option maxRecDepth 20000 in
set_option maxHeartbeats 4000000 in
theorem ok_tally_Merge (p0 : (List GChange)) (p1 : (List GChange)) (r : (List GChange)) (h : m_tally_Merge p0 p1 = some r) : GCall Try.prog 13 [(.l enc_GChange p0), (.l enc_GChange p1)] [] (.l enc_GChange r) [] := by
 refine GCall.of_body (n := 10) (rs := [(.tmp 4)]) Try.func13 rfl rfl rfl ?_
 refine Ato ⟨((.l enc_GChange p0) :: ((.l enc_GChange p1) :: (tu 8 []))), [], 0⟩ ?_
 have hm := h
 unfold m_tally_Merge at hm
 refine AWP.seq ?_
 refine AWP.text ?_
 refine Wy (.d .nil) [] (Omv rfl) ?_
 refine Walk.nil ?_
 refine Then.normal ?_
 refine Amk 3 0 ⟨((.l enc_GChange p0) :: ((.l enc_GChange p1) :: (tp 8 []))), [], 0⟩ ?_
 refine AWP.seq ?_
 refine AWP.text ?_
 refine Wy (.l enc_GChange p0) [] (Omv rfl) ?_
 refine Wy (.l enc_GChange p1) [] (Omv rfl) ?_
 refine Wy (.own 0) [(0, (.arr 27 1 (List.length ([p0, p1] : List (List GChange))) (flatD (encL enc_GChange) ([p0, p1] : List (List GChange)))))] (Obs rfl) ?_
 obtain ⟨r8_0, hr8_0, hm⟩ := bnd hm
 refine Wy (.own 1) [(1, (.arr 36 3 (List.length r8_0) (flatD enc_GChange r8_0)))] (Ocp [] [1] [0] 0 (ok_slices_Concat_Change ([p0, p1] : List (List GChange)) r8_0 hr8_0) (⟨by simp [A.Plain, A.Plains, D.Plain, byteD], plain_cons (flat_plain enc_GChange_plain) (plain_nil)⟩) (fun a w => Try.call30 a w) rfl trivial) ?_
 obtain ⟨r9_0, hr9_0, hm⟩ := bnd hm
 refine Wy (.l enc_GChange r9_0) [(1, (.fro 36 3 (List.length r8_0) (flatD enc_GChange r8_0)))] (Ocf [] [] [1] 0 (ok_tally_Normal r8_0 r9_0 hr9_0) (fun a w => Try.call11 a w) rfl trivial) ?_
 refine Wy (.l enc_GChange r9_0) [] (Omv rfl) ?_
 refine Walk.nil ?_
 refine Then.normal ?_
 refine AWP.ret ?_
 obtain rfl := Option.some.inj hm
 exact ret_i []

set_option maxRecDepth 20000 in
set_option maxHeartbeats 4000000 in
theorem ok_tally_Add (p0 : (List GChange)) (p1 : GChange) (r : (List GChange)) (h : m_tally_Add p0 p1 = some r) : GCall Try.prog 15 [(.l enc_GChange p0), (.agg [(.i p1.Loc), (.i p1.Time), (.i p1.N)])] [] (.l enc_GChange r) [] := by
 refine GCall.of_body (n := 9) (rs := [(.tmp 4)]) Try.func15 rfl rfl rfl ?_
 refine Ato ⟨((.l enc_GChange p0) :: ((.agg [(.i p1.Loc), (.i p1.Time), (.i p1.N)]) :: (tu 7 []))), [], 0⟩ ?_
 have hm := h
 unfold m_tally_Add at hm
 refine AWP.seq ?_
 refine AWP.text ?_
 refine Wy (.loc 0 0) [(0, (.box [(.i p1.Loc), (.i p1.Time), (.i p1.N)]))] (Obx rfl) ?_
 refine Wy (.d .nil) [] (Omv rfl) ?_
 refine Walk.nil ?_
 refine Then.normal ?_
 refine Amk 9 1 ⟨((.l enc_GChange p0) :: (tp 2 ((.loc 0 0) :: (tp 5 [])))), [(.box [(.i p1.Loc), (.i p1.Time), (.i p1.N)])], 0⟩ ?_
 refine AWP.seq ?_
 refine AWP.text ?_
 refine Wy (.l enc_GChange p0) [] (Omv rfl) ?_
 refine Wy (.agg [(.i p1.Loc), (.i p1.Time), (.i p1.N)]) [] (Old rfl) ?_
 refine Wy (.own 1) [(1, (.arr 36 3 (List.length ([p1] : List GChange)) (flatD enc_GChange ([p1] : List GChange))))] (Obs rfl) ?_
 obtain ⟨r8_0, hr8_0, hm⟩ := bnd hm
 refine Wy (.l enc_GChange r8_0) [(1, (.fro 36 3 (List.length ([p1] : List GChange)) (flatD enc_GChange ([p1] : List GChange))))] (Ocf [] [] [1] 0 (ok_tally_Merge p0 ([p1] : List GChange) r8_0 hr8_0) (fun a w => Try.call13 a w) rfl trivial) ?_
 refine Wy (.l enc_GChange r8_0) [] (Omv rfl) ?_
 refine Walk.nil ?_
 refine Then.normal ?_
 refine AWP.ret ?_
 obtain rfl := Option.some.inj hm
 exact ret_i []

set_option maxRecDepth 20000 in
set_option maxHeartbeats 4000000 in
theorem ok_slices_Equal_Change (p0 : (List GChange)) (p1 : (List GChange)) (r : Bool) (h : m_slices_Equal_Change p0 p1 = some r) : GCall Try.prog 31 [(.l enc_GChange p0), (.l enc_GChange p1)] [] (.b r) [] := by
 refine GCall.of_body (n := 26) (rs := [(.tmp 4)]) Try.func31 rfl rfl rfl ?_
 refine Ato ⟨((.l enc_GChange p0) :: ((.l enc_GChange p1) :: (tu 24 []))), [], 0⟩ ?_
 have hm := h
 unfold m_slices_Equal_Change at hm
 refine AWP.seq ?_
 refine AWP.text ?_
 refine Wy (.b false) [] (Omv rfl) ?_
 refine Walk.nil ?_
 refine Then.normal ?_
 refine Amk 3 0 ⟨((.l enc_GChange p0) :: ((.l enc_GChange p1) :: (tp 24 []))), [], 0⟩ ?_
 refine AWP.seq ?_
 refine AWP.seq ?_
 refine AWP.text ?_
 refine Wy (.l enc_GChange p0) [] (Omv rfl) ?_
 refine Wy (.i ((List.length p0 : Nat) : Int)) [] (Oln rfl) ?_
 refine Wy (.l enc_GChange p1) [] (Omv rfl) ?_
 refine Wy (.i ((List.length p1 : Nat) : Int)) [] (Oln rfl) ?_
 refine Wy (.b (decide (((List.length p0 : Nat) : Int) ≠ ((List.length p1 : Nat) : Int)))) [] (Obn rfl (fun _ => hb_neq (k := .i64))) ?_
 refine Walk.nil ?_
 refine Then.normal ?_
 refine Amk 1027 0 ⟨((.l enc_GChange p0) :: ((.l enc_GChange p1) :: (tp 8 ((.b (decide (((List.length p0 : Nat) : Int) ≠ ((List.length p1 : Nat) : Int)))) :: (tp 15 []))))), [], 0⟩ ?_
 rcases tf_ (decide (((List.length p0 : Nat) : Int) ≠ ((List.length p1 : Nat) : Int))) with hc10_4 | hc10_4
 ·
  replace hm := cT hc10_4 hm
  refine AWP.if_ true (Eq.trans (by kernel_rfl) (lit_tf (b := decide (((List.length p0 : Nat) : Int) ≠ ((List.length p1 : Nat) : Int))) hc10_4)) ?_
  refine AWP.seq ?_
  refine AWP.text ?_
  refine Wy (.b false) [] (Omv rfl) ?_
  refine Walk.nil ?_
  refine Then.normal ?_
  refine AWP.ret ?_
  refine Then.ret ?_
  obtain rfl := Option.some.inj hm
  exact ret_i []
 ·
  replace hm := cF hc10_4 hm
  refine AWP.if_ false (Eq.trans (by kernel_rfl) (lit_tf (b := decide (((List.length p0 : Nat) : Int) ≠ ((List.length p1 : Nat) : Int))) hc10_4)) ?_
  refine AWP.skip ?_
  refine Then.normal ?_
  refine Amk 3 0 ⟨((.l enc_GChange p0) :: ((.l enc_GChange p1) :: (tp 24 []))), [], 0⟩ ?_
  refine AWP.seq ?_
  refine AWP.seq ?_
  refine AWP.text ?_
  refine Wy (.l enc_GChange p0) [] (Omv rfl) ?_
  refine Wy (.i ((List.length p0 : Nat) : Int)) [] (Oln rfl) ?_
  refine Wy (.i 0) [] (Omv rfl) ?_
  refine Walk.nil ?_
  refine Then.normal ?_
  refine Amk 12291 0 ⟨((.l enc_GChange p0) :: ((.l enc_GChange p1) :: (tp 10 ((.i ((List.length p0 : Nat) : Int)) :: ((.i 0) :: (tp 12 [])))))), [], 0⟩ ?_
  refine AWP.block ?_
  refine AWP.loopI (α := Nat × Int)
    (fun x => match x with | (fu_2, y13_2) => (⟨((.l enc_GChange p0) :: ((.l enc_GChange p1) :: (tp 10 ((.i ((List.length p0 : Nat) : Int)) :: ((.i y13_2) :: (tp 12 [])))))), [], 0⟩ : St))
    (fun x => match x with | (fu_2, y13_2) => m_slices_Equal_Change_l2 p0 p1 fu_2 y13_2 = some r)
    (fun x => match x with | (fu_2, y13_2) => fu_2) (1152921504606846976, 0)
    (Weak.toK 12291 0 0 []) hm ?_
  rintro ⟨fu_2, y13_2⟩ n_2 hm ih_2
  try dsimp only at hm ih_2 ⊢
  cases fu_2 with
  | zero => exact absurd hm (by unfold m_slices_Equal_Change_l2; simp)
  | succ fu_2 =>
   unfold m_slices_Equal_Change_l2 at hm
   refine AWP.seq ?_
   refine AWP.text ?_
   refine Wy (.b (decide (y13_2 < ((List.length p0 : Nat) : Int)))) [] (Obn rfl (fun _ => hb_lss (k := .i64))) ?_
   refine Walk.nil ?_
   refine Then.normal ?_
   refine Amk 28675 0 ⟨((.l enc_GChange p0) :: ((.l enc_GChange p1) :: (tp 10 ((.i ((List.length p0 : Nat) : Int)) :: ((.i y13_2) :: ((.b (decide (y13_2 < ((List.length p0 : Nat) : Int)))) :: (tp 11 []))))))), [], 0⟩ ?_
   refine AWP.seq ?_
   rcases tf_ (decide (y13_2 < ((List.length p0 : Nat) : Int))) with hc14_5 | hc14_5
   ·
    replace hm := cT hc14_5 hm
    refine AWP.if_ true (Eq.trans (by kernel_rfl) (lit_tf (b := decide (y13_2 < ((List.length p0 : Nat) : Int))) hc14_5)) ?_
    refine AWP.skip ?_
    refine Then.normal ?_
    refine Amk 12291 0 ⟨((.l enc_GChange p0) :: ((.l enc_GChange p1) :: (tp 10 ((.i ((List.length p0 : Nat) : Int)) :: ((.i y13_2) :: (tp 12 [])))))), [], 0⟩ ?_
    refine AWP.seq ?_
    refine AWP.block ?_
    refine AWP.seq ?_
    refine AWP.text ?_
    refine Wy (.i y13_2) [] (Omv rfl) ?_
    refine Wy (.i y13_2) [] (Omv rfl) ?_
    refine Walk.nil ?_
    refine Then.normal ?_
    refine Amk 12323 0 ⟨((.l enc_GChange p0) :: ((.l enc_GChange p1) :: (tp 3 ((.i y13_2) :: (tp 6 ((.i ((List.length p0 : Nat) : Int)) :: ((.i y13_2) :: (tp 12 [])))))))), [], 0⟩ ?_
    refine AWP.seq ?_
    refine Adr ?_
    refine Wy (.l enc_GChange p0) [] (Omv rfl) ?_
    refine Wy (.i y13_2) [] (Omv rfl) ?_
    obtain ⟨x18_3, hx18_3, hm⟩ := bnd hm
    obtain ⟨hx18_3i, hx18_3g⟩ := geti_some hx18_3
    refine Wy (.d (.ref (List.drop ((Int.toNat y13_2) * 3) (flatD enc_GChange p0)))) [] (Oia rfl enc_GChange_len hx18_3i hx18_3g) ?_
    refine Wy (.agg [(.i x18_3.Loc), (.i x18_3.Time), (.i x18_3.N)]) [] (Lf rfl enc_GChange_len hx18_3g) ?_
    refine Wy (.l enc_GChange p1) [] (Omv rfl) ?_
    refine Wy (.i y13_2) [] (Omv rfl) ?_
    obtain ⟨x22_3, hx22_3, hm⟩ := bnd hm
    obtain ⟨hx22_3i, hx22_3g⟩ := geti_some hx22_3
    refine Wy (.d (.ref (List.drop ((Int.toNat y13_2) * 3) (flatD enc_GChange p1)))) [] (Oia rfl enc_GChange_len hx22_3i hx22_3g) ?_
    refine Wy (.agg [(.i x22_3.Loc), (.i x22_3.Time), (.i x22_3.N)]) [] (Lf rfl enc_GChange_len hx22_3g) ?_
    obtain ⟨v24_3, hv24_3, hm⟩ := bnd hm; replace hv24_3 := Option.some.inj hv24_3
    refine Wy (.b v24_3) [] (Ocs (Eq.trans (by kernel_rfl) (congrArg (fun z => A.d (.lit (.bool z))) hv24_3)) (op_neq_struct rfl (la := [(.i x18_3.Loc), (.i x18_3.Time), (.i x18_3.N)]) (lb := [(.i x22_3.Loc), (.i x22_3.Time), (.i x22_3.N)]) (us := [.int .i64 x18_3.Loc, .int .i64 x18_3.Time, .int .i64 x18_3.N]) (vs := [.int .i64 x22_3.Loc, .int .i64 x22_3.Time, .int .i64 x22_3.N]) (r := (decide (x18_3.Loc = x22_3.Loc) && (decide (x18_3.Time = x22_3.Time) && (decide (x18_3.N = x22_3.N) && true)))) (by kernel_rfl) (by kernel_rfl) (by kernel_rfl) (by kernel_rfl) (by kernel_rfl))) ?_
    refine Wdr ?_
    refine Then.normal ?_
    refine Amk 16789507 0 ⟨((.l enc_GChange p0) :: ((.l enc_GChange p1) :: (tp 10 ((.i ((List.length p0 : Nat) : Int)) :: ((.i y13_2) :: (tp 10 ((.b v24_3) :: (tp 1 [])))))))), [], 0⟩ ?_
    rcases tf_ v24_3 with hc24_6 | hc24_6
    ·
     replace hm := cT hc24_6 hm
     refine AWP.if_ true (Eq.trans (by kernel_rfl) (lit_tf (b := v24_3) hc24_6)) ?_
     refine AWP.seq ?_
     refine AWP.text ?_
     refine Wy (.b false) [] (Omv rfl) ?_
     refine Walk.nil ?_
     refine Then.normal ?_
     refine AWP.ret ?_
     refine InBlock.ret ?_
     refine Then.ret ?_
     refine RoundK.ret ?_
     refine InBlock.ret ?_
     refine Then.ret ?_
     obtain rfl := Option.some.inj hm
     exact ret_i []
    ·
     replace hm := cF hc24_6 hm
     refine AWP.if_ false (Eq.trans (by kernel_rfl) (lit_tf (b := v24_3) hc24_6)) ?_
     refine AWP.skip ?_
     refine InBlock.normal ?_
     refine Then.normal ?_
     refine Amk 12291 0 ⟨((.l enc_GChange p0) :: ((.l enc_GChange p1) :: (tp 10 ((.i ((List.length p0 : Nat) : Int)) :: ((.i y13_2) :: (tp 12 [])))))), [], 0⟩ ?_
     refine AWP.text ?_
     refine Wy (.i (IntKind.i64.wrap (y13_2 + 1))) [] (Obn rfl (fun _ => hb_add (k := .i64))) ?_
     refine Wy (.i (IntKind.i64.wrap (y13_2 + 1))) [] (Omv rfl) ?_
     refine Walk.nil ?_
     refine RoundK.normal ?_
     exact Rounds.weak (Weak.toK 12291 0 0 []) (ih_2 (fu_2, (IntKind.i64.wrap (y13_2 + 1))) hm (Nat.lt_succ_self _))
   ·
    replace hm := cF hc14_5 hm
    refine AWP.if_ false (Eq.trans (by kernel_rfl) (lit_tf (b := decide (y13_2 < ((List.length p0 : Nat) : Int))) hc14_5)) ?_
    refine AWP.exit ?_
    refine Then.exit ?_
    refine RoundK.exit ?_
    refine InBlock.same ?_
    refine Then.normal ?_
    refine Amk 0 0 ⟨(tp 26 []), [], 0⟩ ?_
    refine AWP.seq ?_
    refine AWP.text ?_
    refine Wy (.b true) [] (Omv rfl) ?_
    refine Walk.nil ?_
    refine Then.normal ?_
    refine AWP.ret ?_
    obtain rfl := Option.some.inj hm
    exact ret_i []

set_option maxRecDepth 20000 in
set_option maxHeartbeats 4000000 in
theorem ok_tally_Same (p0 : (List GChange)) (p1 : (List GChange)) (r : Bool) (h : m_tally_Same p0 p1 = some r) : GCall Try.prog 20 [(.l enc_GChange p0), (.l enc_GChange p1)] [] (.b r) [] := by
 refine GCall.of_body (n := 8) (rs := [(.tmp 4)]) Try.func20 rfl rfl rfl ?_
 refine Ato ⟨((.l enc_GChange p0) :: ((.l enc_GChange p1) :: (tu 6 []))), [], 0⟩ ?_
 have hm := h
 unfold m_tally_Same at hm
 refine AWP.seq ?_
 refine AWP.text ?_
 refine Wy (.b false) [] (Omv rfl) ?_
 refine Walk.nil ?_
 refine Then.normal ?_
 refine Amk 3 0 ⟨((.l enc_GChange p0) :: ((.l enc_GChange p1) :: (tp 6 []))), [], 0⟩ ?_
 refine AWP.seq ?_
 refine AWP.text ?_
 refine Wy (.l enc_GChange p0) [] (Omv rfl) ?_
 refine Wy (.l enc_GChange p1) [] (Omv rfl) ?_
 obtain ⟨r7_0, hr7_0, hm⟩ := bnd hm
 refine Wy (.b r7_0) [] (Ocf [] [] [] 0 (ok_slices_Equal_Change p0 p1 r7_0 hr7_0) (fun a w => Try.call31 a w) rfl trivial) ?_
 refine Wy (.b r7_0) [] (Omv rfl) ?_
 refine Walk.nil ?_
 refine Then.normal ?_
 refine AWP.ret ?_
 obtain rfl := Option.some.inj hm
 exact ret_i []

set_option maxRecDepth 20000 in
set_option maxHeartbeats 4000000 in
theorem ok_tally_At (p0 : (List GChange)) (p1 : Int) (p2 : Int) (r : Int) (h : m_tally_At p0 p1 p2 = some r) : GCall Try.prog 18 [(.l enc_GChange p0), (.i p1), (.i p2)] [] (.i r) [] := by
 refine GCall.of_body (n := 32) (rs := [(.tmp 6)]) Try.func18 rfl rfl rfl ?_
 refine Ato ⟨((.l enc_GChange p0) :: ((.i p1) :: ((.i p2) :: (tu 29 [])))), [], 0⟩ ?_
 have hm := h
 unfold m_tally_At at hm
 refine AWP.seq ?_
 refine AWP.text ?_
 refine Wy (.i 0) [] (Omv rfl) ?_
 refine Walk.nil ?_
 refine Then.normal ?_
 refine Amk 7 0 ⟨((.l enc_GChange p0) :: ((.i p1) :: ((.i p2) :: (tp 29 [])))), [], 0⟩ ?_
 refine AWP.seq ?_
 refine AWP.text ?_
 refine Wy (.i 0) [] (Omv rfl) ?_
 refine Walk.nil ?_
 refine Then.normal ?_
 refine Amk 135 0 ⟨((.l enc_GChange p0) :: ((.i p1) :: ((.i p2) :: (tp 4 ((.i 0) :: (tp 24 [])))))), [], 0⟩ ?_
 refine AWP.seq ?_
 refine AWP.seq ?_
 refine AWP.text ?_
 refine Wy (.l enc_GChange p0) [] (Omv rfl) ?_
 refine Wy (.i ((List.length p0 : Nat) : Int)) [] (Oln rfl) ?_
 refine Wy (.i 0) [] (Omv rfl) ?_
 refine Walk.nil ?_
 refine Then.normal ?_
 refine Amk 7302 0 ⟨(tp 1 ((.i p1) :: ((.i p2) :: (tp 4 ((.i 0) :: (tp 2 ((.l enc_GChange p0) :: ((.i ((List.length p0 : Nat) : Int)) :: ((.i 0) :: (tp 19 [])))))))))), [], 0⟩ ?_
 refine AWP.block ?_
 refine AWP.loopI (α := Nat × Int × Int)
   (fun x => match x with | (fu_1, y7_1, y12_1) => (⟨(tp 1 ((.i p1) :: ((.i p2) :: (tp 4 ((.i y7_1) :: (tp 2 ((.l enc_GChange p0) :: ((.i ((List.length p0 : Nat) : Int)) :: ((.i y12_1) :: (tp 19 [])))))))))), [], 0⟩ : St))
   (fun x => match x with | (fu_1, y7_1, y12_1) => m_tally_At_l1 p0 p1 p2 fu_1 y7_1 y12_1 = some r)
   (fun x => match x with | (fu_1, y7_1, y12_1) => fu_1) (1152921504606846976, 0, 0)
   (Weak.toK 7302 0 0 []) hm ?_
 rintro ⟨fu_1, y7_1, y12_1⟩ n_1 hm ih_1
 try dsimp only at hm ih_1 ⊢
 cases fu_1 with
 | zero => exact absurd hm (by unfold m_tally_At_l1; simp)
 | succ fu_1 =>
  unfold m_tally_At_l1 at hm
  refine AWP.seq ?_
  refine AWP.text ?_
  refine Wy (.b (decide (y12_1 < ((List.length p0 : Nat) : Int)))) [] (Obn rfl (fun _ => hb_lss (k := .i64))) ?_
  refine Walk.nil ?_
  refine Then.normal ?_
  refine Amk 15494 0 ⟨(tp 1 ((.i p1) :: ((.i p2) :: (tp 4 ((.i y7_1) :: (tp 2 ((.l enc_GChange p0) :: ((.i ((List.length p0 : Nat) : Int)) :: ((.i y12_1) :: ((.b (decide (y12_1 < ((List.length p0 : Nat) : Int)))) :: (tp 18 []))))))))))), [], 0⟩ ?_
  refine AWP.seq ?_
  rcases tf_ (decide (y12_1 < ((List.length p0 : Nat) : Int))) with hc13_4 | hc13_4
  ·
   replace hm := cT hc13_4 hm
   refine AWP.if_ true (Eq.trans (by kernel_rfl) (lit_tf (b := decide (y12_1 < ((List.length p0 : Nat) : Int))) hc13_4)) ?_
   refine AWP.skip ?_
   refine Then.normal ?_
   refine Amk 7302 0 ⟨(tp 1 ((.i p1) :: ((.i p2) :: (tp 4 ((.i y7_1) :: (tp 2 ((.l enc_GChange p0) :: ((.i ((List.length p0 : Nat) : Int)) :: ((.i y12_1) :: (tp 19 [])))))))))), [], 0⟩ ?_
   refine AWP.seq ?_
   refine AWP.block ?_
   refine AWP.seq ?_
   refine AWP.text ?_
   obtain ⟨x14_2, hx14_2, hm⟩ := bnd hm
   obtain ⟨hx14_2i, hx14_2g⟩ := geti_some hx14_2
   refine Wy (.d (.ref (List.drop ((Int.toNat y12_1) * 3) (flatD enc_GChange p0)))) [] (Oia rfl enc_GChange_len hx14_2i hx14_2g) ?_
   refine Wy (.agg [(.i x14_2.Loc), (.i x14_2.Time), (.i x14_2.N)]) [] (Lf rfl enc_GChange_len hx14_2g) ?_
   refine Wy (.loc 0 0) [(0, (.box [(.i 0), (.i 0), (.i 0)]))] (Oal rfl) ?_
   refine Wy (.tup []) [(0, (.box [(.i x14_2.Loc), (.i x14_2.Time), (.i x14_2.N)]))] (Ost rfl) ?_
   refine Walk.nil ?_
   refine Then.normal ?_
   refine Amk 7814 1 ⟨(tp 1 ((.i p1) :: ((.i p2) :: (tp 4 ((.i y7_1) :: (tp 1 ((.loc 0 0) :: ((.l enc_GChange p0) :: ((.i ((List.length p0 : Nat) : Int)) :: ((.i y12_1) :: (tp 19 []))))))))))), [(.box [(.i x14_2.Loc), (.i x14_2.Time), (.i x14_2.N)])], 0⟩ ?_
   refine AWP.seq ?_
   refine AWP.text ?_
   refine Wy (.loc 0 0) [] (Ofa rfl) ?_
   refine Wy (.i x14_2.Loc) [] (Old rfl) ?_
   refine Wy (.i p1) [] (Omv rfl) ?_
   refine Wy (.b (decide (x14_2.Loc = p1))) [] (Obn rfl (fun _ => hb_eql (k := .i64))) ?_
   rcases tf_ (decide (x14_2.Loc = p1)) with hq20_3 | hq20_3
   ·
    replace hm := cT hq20_3 hm
    refine Wy (.b true) [] (Ocs (lit_tf (b := decide (x14_2.Loc = p1)) hq20_3) (Omv rfl)) ?_
    refine Wy (.loc 0 1) [] (Ofa rfl) ?_
    refine Wy (.i x14_2.Time) [] (Old rfl) ?_
    refine Wy (.i p2) [] (Omv rfl) ?_
    refine Wy (.b (decide (x14_2.Time = p2))) [] (Obn rfl (fun _ => hb_eql (k := .i64))) ?_
    refine Wy (.b (decide (x14_2.Time = p2))) [] (OpT rfl) ?_
    refine Walk.nil ?_
    refine Then.normal ?_
    refine Amk 33562246 1 ⟨(tp 1 ((.i p1) :: ((.i p2) :: (tp 4 ((.i y7_1) :: (tp 1 ((.loc 0 0) :: ((.l enc_GChange p0) :: ((.i ((List.length p0 : Nat) : Int)) :: ((.i y12_1) :: (tp 12 ((.b (decide (x14_2.Time = p2))) :: (tp 6 []))))))))))))), [(.box [(.i x14_2.Loc), (.i x14_2.Time), (.i x14_2.N)])], 0⟩ ?_
    rcases tf_ (decide (x14_2.Time = p2)) with hc25_5 | hc25_5
    ·
     replace hm := cT hc25_5 hm
     refine AWP.if_ true (Eq.trans (by kernel_rfl) (lit_tf (b := decide (x14_2.Time = p2)) hc25_5)) ?_
     refine AWP.text ?_
     refine Wy (.i y7_1) [] (Omv rfl) ?_
     refine Wy (.loc 0 2) [] (Ofa rfl) ?_
     refine Wy (.i x14_2.N) [] (Old rfl) ?_
     refine Wy (.i (IntKind.i64.wrap (y7_1 + x14_2.N))) [] (Obn rfl (fun _ => hb_add (k := .i64))) ?_
     refine Wy (.i (IntKind.i64.wrap (y7_1 + x14_2.N))) [] (Omv rfl) ?_
     refine Walk.nil ?_
     refine InBlock.normal ?_
     refine Then.normal ?_
     refine Amk 7302 0 ⟨(tp 1 ((.i p1) :: ((.i p2) :: (tp 4 ((.i (IntKind.i64.wrap (y7_1 + x14_2.N))) :: (tp 2 ((.l enc_GChange p0) :: ((.i ((List.length p0 : Nat) : Int)) :: ((.i y12_1) :: (tp 19 [])))))))))), [.gone], 0⟩ ?_
     refine AWP.text ?_
     refine Wy (.i (IntKind.i64.wrap (y12_1 + 1))) [] (Obn rfl (fun _ => hb_add (k := .i64))) ?_
     refine Wy (.i (IntKind.i64.wrap (y12_1 + 1))) [] (Omv rfl) ?_
     refine Walk.nil ?_
     refine RoundK.normal ?_
     exact Rounds.weak (Weak.toK 7302 0 0 []) (ih_1 (fu_1, (IntKind.i64.wrap (y7_1 + x14_2.N)), (IntKind.i64.wrap (y12_1 + 1))) hm (Nat.lt_succ_self _))
    ·
     replace hm := cF hc25_5 hm
     refine AWP.if_ false (Eq.trans (by kernel_rfl) (lit_tf (b := decide (x14_2.Time = p2)) hc25_5)) ?_
     refine AWP.skip ?_
     refine InBlock.normal ?_
     refine Then.normal ?_
     refine Amk 7302 0 ⟨(tp 1 ((.i p1) :: ((.i p2) :: (tp 4 ((.i y7_1) :: (tp 2 ((.l enc_GChange p0) :: ((.i ((List.length p0 : Nat) : Int)) :: ((.i y12_1) :: (tp 19 [])))))))))), [.gone], 0⟩ ?_
     refine AWP.text ?_
     refine Wy (.i (IntKind.i64.wrap (y12_1 + 1))) [] (Obn rfl (fun _ => hb_add (k := .i64))) ?_
     refine Wy (.i (IntKind.i64.wrap (y12_1 + 1))) [] (Omv rfl) ?_
     refine Walk.nil ?_
     refine RoundK.normal ?_
     exact Rounds.weak (Weak.toK 7302 0 0 []) (ih_1 (fu_1, y7_1, (IntKind.i64.wrap (y12_1 + 1))) hm (Nat.lt_succ_self _))
   ·
    replace hm := cF hq20_3 hm
    refine Wy (.b false) [] (Ocs (lit_tf (b := decide (x14_2.Loc = p1)) hq20_3) (Omv rfl)) ?_
    refine Wn ?_
    refine Wn ?_
    refine Wn ?_
    refine Wn ?_
    refine Wy (.b false) [] (OpF rfl) ?_
    refine Walk.nil ?_
    refine Then.normal ?_
    refine Amk 33562246 1 ⟨(tp 1 ((.i p1) :: ((.i p2) :: (tp 4 ((.i y7_1) :: (tp 1 ((.loc 0 0) :: ((.l enc_GChange p0) :: ((.i ((List.length p0 : Nat) : Int)) :: ((.i y12_1) :: (tp 12 ((.b false) :: (tp 6 []))))))))))))), [(.box [(.i x14_2.Loc), (.i x14_2.Time), (.i x14_2.N)])], 0⟩ ?_
    refine AWP.if_ false (by kernel_rfl) ?_
    refine AWP.skip ?_
    refine InBlock.normal ?_
    refine Then.normal ?_
    refine Amk 7302 0 ⟨(tp 1 ((.i p1) :: ((.i p2) :: (tp 4 ((.i y7_1) :: (tp 2 ((.l enc_GChange p0) :: ((.i ((List.length p0 : Nat) : Int)) :: ((.i y12_1) :: (tp 19 [])))))))))), [.gone], 0⟩ ?_
    refine AWP.text ?_
    refine Wy (.i (IntKind.i64.wrap (y12_1 + 1))) [] (Obn rfl (fun _ => hb_add (k := .i64))) ?_
    refine Wy (.i (IntKind.i64.wrap (y12_1 + 1))) [] (Omv rfl) ?_
    refine Walk.nil ?_
    refine RoundK.normal ?_
    exact Rounds.weak (Weak.toK 7302 0 0 []) (ih_1 (fu_1, y7_1, (IntKind.i64.wrap (y12_1 + 1))) hm (Nat.lt_succ_self _))
  ·
   replace hm := cF hc13_4 hm
   refine AWP.if_ false (Eq.trans (by kernel_rfl) (lit_tf (b := decide (y12_1 < ((List.length p0 : Nat) : Int))) hc13_4)) ?_
   refine AWP.exit ?_
   refine Then.exit ?_
   refine RoundK.exit ?_
   refine InBlock.same ?_
   refine Then.normal ?_
   refine Amk 128 0 ⟨(tp 7 ((.i y7_1) :: (tp 24 []))), [], 0⟩ ?_
   refine AWP.seq ?_
   refine AWP.text ?_
   refine Wy (.i y7_1) [] (Omv rfl) ?_
   refine Wy (.i y7_1) [] (Omv rfl) ?_
   refine Walk.nil ?_
   refine Then.normal ?_
   refine AWP.ret ?_
   obtain rfl := Option.some.inj hm
   exact ret_i []

set_option maxRecDepth 20000 in
set_option maxHeartbeats 4000000 in
theorem ok_tally_Neg (p0 : (List GChange)) (r : (List GChange)) (h : m_tally_Neg p0 = some r) : GCall Try.prog 16 [(.l enc_GChange p0)] [] (.l enc_GChange r) [] := by
 refine GCall.of_body (n := 23) (rs := [(.tmp 2)]) Try.func16 rfl rfl rfl ?_
 refine Ato ⟨((.l enc_GChange p0) :: (tu 22 [])), [], 0⟩ ?_
 have hm := h
 unfold m_tally_Neg at hm
 refine AWP.seq ?_
 refine AWP.text ?_
 refine Wy (.d .nil) [] (Omv rfl) ?_
 refine Walk.nil ?_
 refine Then.normal ?_
 refine Amk 1 0 ⟨((.l enc_GChange p0) :: (tp 22 [])), [], 0⟩ ?_
 refine AWP.seq ?_
 refine AWP.text ?_
 refine Wy (.d .nil) [] (Omv rfl) ?_
 refine Walk.nil ?_
 refine Then.normal ?_
 refine Amk 9 0 ⟨((.l enc_GChange p0) :: (tp 2 ((.d .nil) :: (tp 19 [])))), [], 0⟩ ?_
 refine AWP.seq ?_
 refine AWP.seq ?_
 refine AWP.text ?_
 refine Wy (.l enc_GChange p0) [] (Omv rfl) ?_
 refine Wy (.i ((List.length p0 : Nat) : Int)) [] (Oln rfl) ?_
 refine Wy (.i 0) [] (Omv rfl) ?_
 refine Walk.nil ?_
 refine Then.normal ?_
 refine Amk 456 0 ⟨(tp 3 ((.d .nil) :: (tp 2 ((.l enc_GChange p0) :: ((.i ((List.length p0 : Nat) : Int)) :: ((.i 0) :: (tp 14 []))))))), [], 0⟩ ?_
 refine AWP.block ?_
 refine Aow 3 36 3 ⟨(tp 3 ((.own 0) :: (tp 2 ((.l enc_GChange p0) :: ((.i ((List.length p0 : Nat) : Int)) :: ((.i 0) :: (tp 14 []))))))), [(.arr 36 3 (List.length ([] : List GChange)) (flatD enc_GChange ([] : List GChange)))], 0⟩ ?_
 refine AWP.loopI (α := Nat × (List GChange) × Int)
   (fun x => match x with | (fu_1, y3_1, y8_1) => (⟨(tp 3 ((.own 0) :: (tp 2 ((.l enc_GChange p0) :: ((.i ((List.length p0 : Nat) : Int)) :: ((.i y8_1) :: (tp 14 []))))))), [(.arr 36 3 (List.length y3_1) (flatD enc_GChange y3_1))], 0⟩ : St))
   (fun x => match x with | (fu_1, y3_1, y8_1) => m_tally_Neg_l1 p0 fu_1 y3_1 y8_1 = some r)
   (fun x => match x with | (fu_1, y3_1, y8_1) => fu_1) (1152921504606846976, ([] : List GChange), 0)
   (Weak.toK 456 0 0 [0]) hm ?_
 rintro ⟨fu_1, y3_1, y8_1⟩ n_1 hm ih_1
 try dsimp only at hm ih_1 ⊢
 cases fu_1 with
 | zero => exact absurd hm (by unfold m_tally_Neg_l1; simp)
 | succ fu_1 =>
  unfold m_tally_Neg_l1 at hm
  refine AWP.seq ?_
  refine AWP.text ?_
  refine Wy (.b (decide (y8_1 < ((List.length p0 : Nat) : Int)))) [] (Obn rfl (fun _ => hb_lss (k := .i64))) ?_
  refine Walk.nil ?_
  refine Then.normal ?_
  refine Amk 968 1 ⟨(tp 3 ((.own 0) :: (tp 2 ((.l enc_GChange p0) :: ((.i ((List.length p0 : Nat) : Int)) :: ((.i y8_1) :: ((.b (decide (y8_1 < ((List.length p0 : Nat) : Int)))) :: (tp 13 [])))))))), [(.arr 36 3 (List.length y3_1) (flatD enc_GChange y3_1))], 0⟩ ?_
  refine AWP.seq ?_
  rcases tf_ (decide (y8_1 < ((List.length p0 : Nat) : Int))) with hc9_5 | hc9_5
  ·
   replace hm := cT hc9_5 hm
   refine AWP.if_ true (Eq.trans (by kernel_rfl) (lit_tf (b := decide (y8_1 < ((List.length p0 : Nat) : Int))) hc9_5)) ?_
   refine AWP.skip ?_
   refine Then.normal ?_
   refine Amk 456 1 ⟨(tp 3 ((.own 0) :: (tp 2 ((.l enc_GChange p0) :: ((.i ((List.length p0 : Nat) : Int)) :: ((.i y8_1) :: (tp 14 []))))))), [(.arr 36 3 (List.length y3_1) (flatD enc_GChange y3_1))], 0⟩ ?_
   refine AWP.seq ?_
   refine AWP.block ?_
   refine AWP.seq ?_
   refine AWP.text ?_
   obtain ⟨x10_2, hx10_2, hm⟩ := bnd hm
   obtain ⟨hx10_2i, hx10_2g⟩ := geti_some hx10_2
   refine Wy (.d (.ref (List.drop ((Int.toNat y8_1) * 3) (flatD enc_GChange p0)))) [] (Oia rfl enc_GChange_len hx10_2i hx10_2g) ?_
   refine Wy (.agg [(.i x10_2.Loc), (.i x10_2.Time), (.i x10_2.N)]) [] (Lf rfl enc_GChange_len hx10_2g) ?_
   refine Wy (.loc 1 0) [(1, (.box [(.i 0), (.i 0), (.i 0)]))] (Oal rfl) ?_
   refine Wy (.tup []) [(1, (.box [(.i x10_2.Loc), (.i x10_2.Time), (.i x10_2.N)]))] (Ost rfl) ?_
   refine Walk.nil ?_
   refine Then.normal ?_
   refine Amk 488 3 ⟨(tp 3 ((.own 0) :: (tp 1 ((.loc 1 0) :: ((.l enc_GChange p0) :: ((.i ((List.length p0 : Nat) : Int)) :: ((.i y8_1) :: (tp 14 [])))))))), [(.arr 36 3 (List.length y3_1) (flatD enc_GChange y3_1)), (.box [(.i x10_2.Loc), (.i x10_2.Time), (.i x10_2.N)])], 0⟩ ?_
   refine AWP.seq ?_
   refine AWP.text ?_
   refine Wy (.loc 1 2) [] (Ofa rfl) ?_
   refine Wy (.i x10_2.N) [] (Old rfl) ?_
   refine Wy (.i (IntKind.i64.wrap (0 - x10_2.N))) [] (Ocs (by kernel_rfl) (op_un rfl (a1 := .int .i64 x10_2.N) (by kernel_rfl) (fun _ => hu_neg))) ?_
   refine Wy (.loc 1 2) [] (Ofa rfl) ?_
   refine Wy (.tup []) [(1, (.box [(.i x10_2.Loc), (.i x10_2.Time), (.i (IntKind.i64.wrap (0 - x10_2.N)))]))] (Ost rfl) ?_
   refine Walk.nil ?_
   refine Then.normal ?_
   refine Amk 488 3 ⟨(tp 3 ((.own 0) :: (tp 1 ((.loc 1 0) :: ((.l enc_GChange p0) :: ((.i ((List.length p0 : Nat) : Int)) :: ((.i y8_1) :: (tp 14 [])))))))), [(.arr 36 3 (List.length y3_1) (flatD enc_GChange y3_1)), (.box [(.i x10_2.Loc), (.i x10_2.Time), (.i (IntKind.i64.wrap (0 - x10_2.N)))])], 0⟩ ?_
   refine AWP.text ?_
   refine Wy (.own 0) [] (Omv rfl) ?_
   refine Wy (.agg [(.i x10_2.Loc), (.i x10_2.Time), (.i (IntKind.i64.wrap (0 - x10_2.N)))]) [] (Old rfl) ?_
   refine Wy (.own 2) [(2, (.arr 36 3 (List.length ([(GChange.mk x10_2.Loc x10_2.Time (IntKind.i64.wrap (0 - x10_2.N)))] : List GChange)) (flatD enc_GChange ([(GChange.mk x10_2.Loc x10_2.Time (IntKind.i64.wrap (0 - x10_2.N)))] : List GChange))))] (Obs rfl) ?_
   obtain ⟨a19_3, ha19_3, hm⟩ := bnd hm; obtain ⟨ha19_3e, ha19_3l⟩ := app_some ha19_3
   refine Wy (.own 3) [(0, .gone), (3, (.arr 36 3 (List.length a19_3) (flatD enc_GChange a19_3)))] (Oap rfl elemOK_27 enc_GChange_len ha19_3e ha19_3l) ?_
   refine Wy (.own 3) [] (Omv rfl) ?_
   refine Walk.nil ?_
   refine InBlock.normal ?_
   refine Then.normal ?_
   refine Amk 456 8 ⟨(tp 3 ((.own 3) :: (tp 2 ((.l enc_GChange p0) :: ((.i ((List.length p0 : Nat) : Int)) :: ((.i y8_1) :: (tp 14 []))))))), [.gone, .gone, .gone, (.arr 36 3 (List.length a19_3) (flatD enc_GChange a19_3))], 0⟩ ?_
   refine AWP.text ?_
   refine Wy (.i (IntKind.i64.wrap (y8_1 + 1))) [] (Obn rfl (fun _ => hb_add (k := .i64))) ?_
   refine Wy (.i (IntKind.i64.wrap (y8_1 + 1))) [] (Omv rfl) ?_
   refine Walk.nil ?_
   refine RoundK.normal ?_
   exact Rounds.weak (Weak.toK 456 0 0 [3]) (ih_1 (fu_1, a19_3, (IntKind.i64.wrap (y8_1 + 1))) hm (Nat.lt_succ_self _))
  ·
   replace hm := cF hc9_5 hm
   refine AWP.if_ false (Eq.trans (by kernel_rfl) (lit_tf (b := decide (y8_1 < ((List.length p0 : Nat) : Int))) hc9_5)) ?_
   refine AWP.exit ?_
   refine Then.exit ?_
   refine RoundK.exit ?_
   refine InBlock.same ?_
   refine Then.normal ?_
   refine Amk 8 1 ⟨(tp 3 ((.own 0) :: (tp 19 []))), [(.arr 36 3 (List.length y3_1) (flatD enc_GChange y3_1))], 0⟩ ?_
   refine AWP.seq ?_
   refine AWP.text ?_
   refine Wy (.own 0) [] (Omv rfl) ?_
   obtain ⟨r22_4, hr22_4, hm⟩ := bnd hm
   refine Wy (.l enc_GChange r22_4) [(0, (.fro 36 3 (List.length y3_1) (flatD enc_GChange y3_1)))] (Ocf [] [] [0] 0 (ok_tally_Normal y3_1 r22_4 hr22_4) (fun a w => Try.call11 a w) rfl trivial) ?_
   refine Wy (.l enc_GChange r22_4) [] (Omv rfl) ?_
   refine Walk.nil ?_
   refine Then.normal ?_
   refine AWP.ret ?_
   obtain rfl := Option.some.inj hm
   exact ret_i []

set_option maxRecDepth 20000 in
set_option maxHeartbeats 4000000 in
theorem ok_telltalelaw26_awake (r : Bool) (h : m_telltalelaw26_awake = some r) : GCall Try.prog 7 [] [] (.b r) [] := by
 refine GCall.of_body (n := 103) (rs := [(.tmp 0)]) Try.func7 rfl rfl rfl ?_
 refine Ato ⟨(tu 103 []), [], 0⟩ ?_
 have hm := h
 unfold m_telltalelaw26_awake at hm
 refine AWP.seq ?_
 refine AWP.text ?_
 refine Wy (.b false) [] (Omv rfl) ?_
 refine Walk.nil ?_
 refine Then.normal ?_
 refine Amk 0 0 ⟨(tp 103 []), [], 0⟩ ?_
 refine AWP.seq ?_
 refine AWP.text ?_
 refine Wy (.agg [(.i 0), (.i 5), (.i 2)]) [] (Obd rfl) ?_
 refine Wy (.agg [(.i 0), (.i 3), (.i 1)]) [] (Obd rfl) ?_
 refine Wy (.agg [(.i 0), (.i 5), (.i (-2))]) [] (Obd rfl) ?_
 refine Wy (.agg [(.i 1), (.i 2), (.i 4)]) [] (Obd rfl) ?_
 refine Wy (.own 0) [(0, (.arr 36 3 (List.length ([(GChange.mk 0 5 2), (GChange.mk 0 3 1), (GChange.mk 0 5 (-2)), (GChange.mk 1 2 4)] : List GChange)) (flatD enc_GChange ([(GChange.mk 0 5 2), (GChange.mk 0 3 1), (GChange.mk 0 5 (-2)), (GChange.mk 1 2 4)] : List GChange))))] (Obs rfl) ?_
 obtain ⟨r15_0, hr15_0, hm⟩ := bnd hm
 refine Wy (.l enc_GChange r15_0) [(0, (.fro 36 3 (List.length ([(GChange.mk 0 5 2), (GChange.mk 0 3 1), (GChange.mk 0 5 (-2)), (GChange.mk 1 2 4)] : List GChange)) (flatD enc_GChange ([(GChange.mk 0 5 2), (GChange.mk 0 3 1), (GChange.mk 0 5 (-2)), (GChange.mk 1 2 4)] : List GChange))))] (Ocf [] [] [0] 0 (ok_tally_Normal ([(GChange.mk 0 5 2), (GChange.mk 0 3 1), (GChange.mk 0 5 (-2)), (GChange.mk 1 2 4)] : List GChange) r15_0 hr15_0) (fun a w => Try.call11 a w) rfl trivial) ?_
 refine Wy (.l enc_GChange r15_0) [] (Omv rfl) ?_
 refine Walk.nil ?_
 refine Then.normal ?_
 refine Amk 2 0 ⟨(tp 1 ((.l enc_GChange r15_0) :: (tp 101 []))), [.gone], 0⟩ ?_
 refine AWP.seq ?_
 refine AWP.text ?_
 refine Wy (.own 1) [(1, (.arr 5 1 (List.length ([112] : List UInt8)) (flatD encU8 ([112] : List UInt8))))] (Obs rfl) ?_
 refine Wy (.own 1) [(1, (.arr 5 1 (List.length ([112] : List UInt8)) (flatD encU8 ([112] : List UInt8))))] (Omk rfl (by kernel_rfl) (by kernel_rfl) (n := List.length ([112] : List UInt8)) (by decide)) ?_
 refine Wy (.l enc_GChange r15_0) [] (Omv rfl) ?_
 obtain ⟨r19_1, hr19_1, hm⟩ := bnd hm
 refine Wy (.own 2) [(2, (.arr 5 1 (List.length r19_1) (flatD encU8 r19_1)))] (Ocp [] [2] [1] 0 (ok_tally_Put ([112] : List UInt8) r15_0 r19_1 hr19_1) (⟨by simp [A.Plain, A.Plains, D.Plain, byteD], plain_cons (flat_plain encU8_plain) (plain_nil)⟩) (fun a w => Try.call23 a w) rfl trivial) ?_
 refine Wy (.own 2) [] (Omv rfl) ?_
 refine Walk.nil ?_
 refine Then.normal ?_
 refine Amk 6 4 ⟨(tp 1 ((.l enc_GChange r15_0) :: ((.own 2) :: (tp 100 [])))), [.gone, .gone, (.arr 5 1 (List.length r19_1) (flatD encU8 r19_1))], 0⟩ ?_
 refine AWP.seq ?_
 refine AWP.text ?_
 refine Wy (.own 2) [] (Omv rfl) ?_
 refine Wy (.s r19_1) [] (Ocs (by kernel_rfl) (op_str rfl (e := 5) (by kernel_rfl) (by kernel_rfl) (by kernel_rfl) (y := (.own 2)) (by kernel_rfl) (ds := flatD encU8 r19_1) (off := 0) (n := List.length r19_1) (by kernel_rfl) (l := r19_1) flatU8_take rfl)) ?_
 obtain ⟨r23_2, hr23_2, hm⟩ := bnd hm
 refine Wy (.tup [(.own 3), (.i r23_2.2.1), (.i r23_2.2.2)]) [(3, (.arr 36 3 (List.length r23_2.1) (flatD enc_GChange r23_2.1)))] (Ocf [] [3] [] 0 (ok_tally_Take r19_1 1 r23_2 hr23_2) (fun a w => Try.call21 a w) rfl trivial) ?_
 refine Wy (.tup [(.own 3), (.i r23_2.2.1), (.i r23_2.2.2)]) [] (Omv rfl) ?_
 refine Wy (.own 3) [] (Oex rfl) ?_
 refine Wy (.i r23_2.2.1) [] (Oex rfl) ?_
 refine Wy (.i r23_2.2.2) [] (Oex rfl) ?_
 refine Wy (.own 3) [] (Omv rfl) ?_
 refine Wy (.i r23_2.2.1) [] (Omv rfl) ?_
 refine Wy (.i r23_2.2.2) [] (Omv rfl) ?_
 refine Walk.nil ?_
 refine Then.normal ?_
 refine Amk 62 12 ⟨(tp 1 ((.l enc_GChange r15_0) :: ((.own 2) :: ((.own 3) :: ((.i r23_2.2.1) :: ((.i r23_2.2.2) :: (tp 97 []))))))), [.gone, .gone, (.arr 5 1 (List.length r19_1) (flatD encU8 r19_1)), (.arr 36 3 (List.length r23_2.1) (flatD enc_GChange r23_2.1))], 0⟩ ?_
 refine AWP.seq ?_
 refine AWP.text ?_
 obtain ⟨r28_3, hr28_3, hm⟩ := bnd hm
 refine Wy (.tup [(.own 4), (.i r28_3.2.1), (.i r28_3.2.2)]) [(4, (.arr 36 3 (List.length r28_3.1) (flatD enc_GChange r28_3.1)))] (Ocf [] [4] [] 0 (ok_tally_Take ([1, 0, 0, 0] : List UInt8) 0 r28_3 hr28_3) (fun a w => Try.call21 a w) rfl trivial) ?_
 refine Wy (.tup [(.own 4), (.i r28_3.2.1), (.i r28_3.2.2)]) [] (Omv rfl) ?_
 refine Wy (.own 4) [] (Oex rfl) ?_
 refine Wy (.i r28_3.2.1) [] (Oex rfl) ?_
 refine Wy (.i r28_3.2.2) [] (Oex rfl) ?_
 refine Wy (.own 4) [] (Omv rfl) ?_
 refine Wy (.i r28_3.2.1) [] (Omv rfl) ?_
 refine Wy (.i r28_3.2.2) [] (Omv rfl) ?_
 refine Walk.nil ?_
 refine Then.normal ?_
 refine Amk 318 12 ⟨(tp 1 ((.l enc_GChange r15_0) :: ((.own 2) :: ((.own 3) :: ((.i r23_2.2.1) :: ((.i r23_2.2.2) :: (tp 2 ((.i r28_3.2.2) :: (tp 94 []))))))))), [.gone, .gone, (.arr 5 1 (List.length r19_1) (flatD encU8 r19_1)), (.arr 36 3 (List.length r23_2.1) (flatD enc_GChange r23_2.1)), .gone], 0⟩ ?_
 refine AWP.seq ?_
 refine AWP.text ?_
 refine Wy (.l enc_GChange r15_0) [] (Omv rfl) ?_
 refine Wy (.agg [(.i 0), (.i 3), (.i 1)]) [] (Obd rfl) ?_
 obtain ⟨r34_4, hr34_4, hm⟩ := bnd hm
 refine Wy (.l enc_GChange r34_4) [] (Ocf [] [] [] 0 (ok_tally_Add r15_0 (GChange.mk 0 3 1) r34_4 hr34_4) (fun a w => Try.call15 a w) rfl trivial) ?_
 refine Wy (.l enc_GChange r34_4) [] (Omv rfl) ?_
 refine Walk.nil ?_
 refine Then.normal ?_
 refine Amk 830 12 ⟨(tp 1 ((.l enc_GChange r15_0) :: ((.own 2) :: ((.own 3) :: ((.i r23_2.2.1) :: ((.i r23_2.2.2) :: (tp 2 ((.i r28_3.2.2) :: ((.l enc_GChange r34_4) :: (tp 93 [])))))))))), [.gone, .gone, (.arr 5 1 (List.length r19_1) (flatD encU8 r19_1)), (.arr 36 3 (List.length r23_2.1) (flatD enc_GChange r23_2.1)), .gone], 0⟩ ?_
 refine AWP.seq ?_
 refine AWP.text ?_
 refine Wy (.l enc_GChange r15_0) [] (Omv rfl) ?_
 refine Wy (.i ((List.length r15_0 : Nat) : Int)) [] (Oln rfl) ?_
 refine Wy (.b (decide (((List.length r15_0 : Nat) : Int) = 2))) [] (Obn rfl (fun _ => hb_eql (k := .i64))) ?_
 rcases tf_ (decide (((List.length r15_0 : Nat) : Int) = 2)) with hq38_5 | hq38_5
 ·
  replace hm := cT hq38_5 hm
  refine Wy (.b true) [] (Ocs (lit_tf (b := decide (((List.length r15_0 : Nat) : Int) = 2)) hq38_5) (Omv rfl)) ?_
  refine Wy (.l enc_GChange r15_0) [] (Omv rfl) ?_
  obtain ⟨x40_5, hx40_5, hm⟩ := bnd hm
  obtain ⟨hx40_5i, hx40_5g⟩ := geti_some hx40_5
  refine Wy (.d (.ref (List.drop ((Int.toNat 0) * 3) (flatD enc_GChange r15_0)))) [] (Oia rfl enc_GChange_len hx40_5i hx40_5g) ?_
  refine Wy (.agg [(.i x40_5.Loc), (.i x40_5.Time), (.i x40_5.N)]) [] (Lf rfl enc_GChange_len hx40_5g) ?_
  refine Wy (.agg [(.i 0), (.i 3), (.i 1)]) [] (Obd rfl) ?_
  refine Wy (.b (decide (x40_5.Loc = 0) && (decide (x40_5.Time = 3) && (decide (x40_5.N = 1) && true)))) [] (Ocs (by kernel_rfl) (op_eql_struct rfl (la := [(.i x40_5.Loc), (.i x40_5.Time), (.i x40_5.N)]) (lb := [(.i 0), (.i 3), (.i 1)]) (us := [.int .i64 x40_5.Loc, .int .i64 x40_5.Time, .int .i64 x40_5.N]) (vs := [.int .i64 0, .int .i64 3, .int .i64 1]) (r := (decide (x40_5.Loc = 0) && (decide (x40_5.Time = 3) && (decide (x40_5.N = 1) && true)))) (by kernel_rfl) (by kernel_rfl) (by kernel_rfl) (by kernel_rfl) (by kernel_rfl))) ?_
  refine Wy (.b (decide (x40_5.Loc = 0) && (decide (x40_5.Time = 3) && (decide (x40_5.N = 1) && true)))) [] (OpT rfl) ?_
  rcases tf_ (decide (x40_5.Loc = 0) && (decide (x40_5.Time = 3) && (decide (x40_5.N = 1) && true))) with hq45_5 | hq45_5
  ·
   replace hm := cT hq45_5 hm
   refine Wy (.b true) [] (Ocs (lit_tf (b := (decide (x40_5.Loc = 0) && (decide (x40_5.Time = 3) && (decide (x40_5.N = 1) && true)))) hq45_5) (Omv rfl)) ?_
   refine Wy (.l enc_GChange r15_0) [] (Omv rfl) ?_
   obtain ⟨x47_5, hx47_5, hm⟩ := bnd hm
   obtain ⟨hx47_5i, hx47_5g⟩ := geti_some hx47_5
   refine Wy (.d (.ref (List.drop ((Int.toNat 1) * 3) (flatD enc_GChange r15_0)))) [] (Oia rfl enc_GChange_len hx47_5i hx47_5g) ?_
   refine Wy (.agg [(.i x47_5.Loc), (.i x47_5.Time), (.i x47_5.N)]) [] (Lf rfl enc_GChange_len hx47_5g) ?_
   refine Wy (.agg [(.i 1), (.i 2), (.i 4)]) [] (Obd rfl) ?_
   refine Wy (.b (decide (x47_5.Loc = 1) && (decide (x47_5.Time = 2) && (decide (x47_5.N = 4) && true)))) [] (Ocs (by kernel_rfl) (op_eql_struct rfl (la := [(.i x47_5.Loc), (.i x47_5.Time), (.i x47_5.N)]) (lb := [(.i 1), (.i 2), (.i 4)]) (us := [.int .i64 x47_5.Loc, .int .i64 x47_5.Time, .int .i64 x47_5.N]) (vs := [.int .i64 1, .int .i64 2, .int .i64 4]) (r := (decide (x47_5.Loc = 1) && (decide (x47_5.Time = 2) && (decide (x47_5.N = 4) && true)))) (by kernel_rfl) (by kernel_rfl) (by kernel_rfl) (by kernel_rfl) (by kernel_rfl))) ?_
   refine Wy (.b (decide (x47_5.Loc = 1) && (decide (x47_5.Time = 2) && (decide (x47_5.N = 4) && true)))) [] (OpT rfl) ?_
   rcases tf_ (decide (x47_5.Loc = 1) && (decide (x47_5.Time = 2) && (decide (x47_5.N = 4) && true))) with hq52_5 | hq52_5
   ·
    replace hm := cT hq52_5 hm
    refine Wy (.b true) [] (Ocs (lit_tf (b := (decide (x47_5.Loc = 1) && (decide (x47_5.Time = 2) && (decide (x47_5.N = 4) && true)))) hq52_5) (Omv rfl)) ?_
    refine Wy (.i r23_2.2.2) [] (Omv rfl) ?_
    refine Wy (.b (decide (r23_2.2.2 = 0))) [] (Obn rfl (fun _ => hb_eql (k := .i64))) ?_
    refine Wy (.b (decide (r23_2.2.2 = 0))) [] (OpT rfl) ?_
    rcases tf_ (decide (r23_2.2.2 = 0)) with hq56_5 | hq56_5
    ·
     replace hm := cT hq56_5 hm
     refine Wy (.b true) [] (Ocs (lit_tf (b := decide (r23_2.2.2 = 0)) hq56_5) (Omv rfl)) ?_
     refine Wy (.i r23_2.2.1) [] (Omv rfl) ?_
     refine Wy (.own 2) [] (Omv rfl) ?_
     refine Wy (.i ((List.length r19_1 : Nat) : Int)) [] (Oln rfl) ?_
     refine Wy (.b (decide (r23_2.2.1 = ((List.length r19_1 : Nat) : Int)))) [] (Obn rfl (fun _ => hb_eql (k := .i64))) ?_
     refine Wy (.b (decide (r23_2.2.1 = ((List.length r19_1 : Nat) : Int)))) [] (OpT rfl) ?_
     rcases tf_ (decide (r23_2.2.1 = ((List.length r19_1 : Nat) : Int))) with hq62_5 | hq62_5
     ·
      replace hm := cT hq62_5 hm
      refine Wy (.b true) [] (Ocs (lit_tf (b := decide (r23_2.2.1 = ((List.length r19_1 : Nat) : Int))) hq62_5) (Omv rfl)) ?_
      refine Wy (.own 2) [] (Omv rfl) ?_
      refine Wy (.i ((List.length r19_1 : Nat) : Int)) [] (Oln rfl) ?_
      refine Wy (.b (decide (((List.length r19_1 : Nat) : Int) = 8))) [] (Obn rfl (fun _ => hb_eql (k := .i64))) ?_
      refine Wy (.b (decide (((List.length r19_1 : Nat) : Int) = 8))) [] (OpT rfl) ?_
      rcases tf_ (decide (((List.length r19_1 : Nat) : Int) = 8)) with hq67_5 | hq67_5
      ·
       replace hm := cT hq67_5 hm
       refine Wy (.b true) [] (Ocs (lit_tf (b := decide (((List.length r19_1 : Nat) : Int) = 8)) hq67_5) (Omv rfl)) ?_
       refine Wy (.l enc_GChange r15_0) [] (Omv rfl) ?_
       refine Wy (.own 3) [] (Omv rfl) ?_
       obtain ⟨r70_5, hr70_5, hm⟩ := bnd hm
       refine Wy (.b r70_5) [] (Ocp [] [] [3] 0 (ok_tally_Same r15_0 r23_2.1 r70_5 hr70_5) (plain_triv (by simp [A.Plain, A.Plains, D.Plain, byteD])) (fun a w => Try.call20 a w) rfl trivial) ?_
       refine Wy (.b r70_5) [] (OpT rfl) ?_
       rcases tf_ r70_5 with hq72_5 | hq72_5
       ·
        replace hm := cT hq72_5 hm
        refine Wy (.b true) [] (Ocs (lit_tf (b := r70_5) hq72_5) (Omv rfl)) ?_
        refine Wy (.i r28_3.2.2) [] (Omv rfl) ?_
        refine Wy (.b (decide (r28_3.2.2 = 4))) [] (Obn rfl (fun _ => hb_eql (k := .i64))) ?_
        refine Wy (.b (decide (r28_3.2.2 = 4))) [] (OpT rfl) ?_
        rcases tf_ (decide (r28_3.2.2 = 4)) with hq76_5 | hq76_5
        ·
         replace hm := cT hq76_5 hm
         refine Wy (.b true) [] (Ocs (lit_tf (b := decide (r28_3.2.2 = 4)) hq76_5) (Omv rfl)) ?_
         refine Wy (.l enc_GChange r15_0) [] (Omv rfl) ?_
         obtain ⟨r78_5, hr78_5, hm⟩ := bnd hm
         refine Wy (.i r78_5) [] (Ocf [] [] [] 0 (ok_tally_At r15_0 1 2 r78_5 hr78_5) (fun a w => Try.call18 a w) rfl trivial) ?_
         refine Wy (.b (decide (r78_5 = 4))) [] (Obn rfl (fun _ => hb_eql (k := .i64))) ?_
         refine Wy (.b (decide (r78_5 = 4))) [] (OpT rfl) ?_
         rcases tf_ (decide (r78_5 = 4)) with hq81_5 | hq81_5
         ·
          replace hm := cT hq81_5 hm
          refine Wy (.b true) [] (Ocs (lit_tf (b := decide (r78_5 = 4)) hq81_5) (Omv rfl)) ?_
          refine Wy (.l enc_GChange r15_0) [] (Omv rfl) ?_
          refine Wy (.l enc_GChange r15_0) [] (Omv rfl) ?_
          obtain ⟨r84_5, hr84_5, hm⟩ := bnd hm
          refine Wy (.l enc_GChange r84_5) [] (Ocf [] [] [] 0 (ok_tally_Neg r15_0 r84_5 hr84_5) (fun a w => Try.call16 a w) rfl trivial) ?_
          obtain ⟨r85_5, hr85_5, hm⟩ := bnd hm
          refine Wy (.l enc_GChange r85_5) [] (Ocf [] [] [] 0 (ok_tally_Merge r15_0 r84_5 r85_5 hr85_5) (fun a w => Try.call13 a w) rfl trivial) ?_
          refine Wy (.i ((List.length r85_5 : Nat) : Int)) [] (Oln rfl) ?_
          refine Wy (.b (decide (((List.length r85_5 : Nat) : Int) = 0))) [] (Obn rfl (fun _ => hb_eql (k := .i64))) ?_
          refine Wy (.b (decide (((List.length r85_5 : Nat) : Int) = 0))) [] (OpT rfl) ?_
          rcases tf_ (decide (((List.length r85_5 : Nat) : Int) = 0)) with hq89_5 | hq89_5
          ·
           replace hm := cT hq89_5 hm
           refine Wy (.b true) [] (Ocs (lit_tf (b := decide (((List.length r85_5 : Nat) : Int) = 0)) hq89_5) (Omv rfl)) ?_
           refine Wy (.l enc_GChange r34_4) [] (Omv rfl) ?_
           refine Wy (.i ((List.length r34_4 : Nat) : Int)) [] (Oln rfl) ?_
           refine Wy (.b (decide (((List.length r34_4 : Nat) : Int) = 2))) [] (Obn rfl (fun _ => hb_eql (k := .i64))) ?_
           refine Wy (.b (decide (((List.length r34_4 : Nat) : Int) = 2))) [] (OpT rfl) ?_
           rcases tf_ (decide (((List.length r34_4 : Nat) : Int) = 2)) with hq94_5 | hq94_5
           ·
            replace hm := cT hq94_5 hm
            refine Wy (.b true) [] (Ocs (lit_tf (b := decide (((List.length r34_4 : Nat) : Int) = 2)) hq94_5) (Omv rfl)) ?_
            refine Wy (.l enc_GChange r34_4) [] (Omv rfl) ?_
            obtain ⟨x96_5, hx96_5, hm⟩ := bnd hm
            obtain ⟨hx96_5i, hx96_5g⟩ := geti_some hx96_5
            refine Wy (.d (.ref (List.drop ((Int.toNat 0) * 3) (flatD enc_GChange r34_4)))) [] (Oia rfl enc_GChange_len hx96_5i hx96_5g) ?_
            refine Wy (.d (.ref (List.drop 2 (List.drop ((Int.toNat 0) * 3) (flatD enc_GChange r34_4))))) [] (Ofa rfl) ?_
            refine Wy (.i x96_5.N) [] (Lfk1 2 rfl enc_GChange_len hx96_5g) ?_
            refine Wy (.b (decide (x96_5.N = 2))) [] (Obn rfl (fun _ => hb_eql (k := .i64))) ?_
            refine Wy (.b (decide (x96_5.N = 2))) [] (OpT rfl) ?_
            rcases tf_ (decide (x96_5.N = 2)) with hq101_5 | hq101_5
            ·
             replace hm := cT hq101_5 hm
             refine Wy (.b true) [] (Ocs (lit_tf (b := decide (x96_5.N = 2)) hq101_5) (Omv rfl)) ?_
             refine Wy (.b true) [] (OpT rfl) ?_
             refine Wy (.b true) [] (Omv rfl) ?_
             refine Walk.nil ?_
             refine Then.normal ?_
             refine AWP.ret ?_
             obtain rfl := Option.some.inj hm
             exact ret_i []
            ·
             replace hm := cF hq101_5 hm
             refine Wy (.b false) [] (Ocs (lit_tf (b := decide (x96_5.N = 2)) hq101_5) (Omv rfl)) ?_
             refine Wy (.b false) [] (OpF rfl) ?_
             refine Wy (.b false) [] (Omv rfl) ?_
             refine Walk.nil ?_
             refine Then.normal ?_
             refine AWP.ret ?_
             obtain rfl := Option.some.inj hm
             exact ret_i []
           ·
            replace hm := cF hq94_5 hm
            refine Wy (.b false) [] (Ocs (lit_tf (b := decide (((List.length r34_4 : Nat) : Int) = 2)) hq94_5) (Omv rfl)) ?_
            refine Wn ?_
            refine Wn ?_
            refine Wn ?_
            refine Wn ?_
            refine Wn ?_
            refine Wy (.b false) [] (OpF rfl) ?_
            refine Wy (.b false) [] (Omv rfl) ?_
            refine Wy (.b false) [] (OpF rfl) ?_
            refine Wy (.b false) [] (Omv rfl) ?_
            refine Walk.nil ?_
            refine Then.normal ?_
            refine AWP.ret ?_
            obtain rfl := Option.some.inj hm
            exact ret_i []
          ·
           replace hm := cF hq89_5 hm
           refine Wy (.b false) [] (Ocs (lit_tf (b := decide (((List.length r85_5 : Nat) : Int) = 0)) hq89_5) (Omv rfl)) ?_
           refine Wn ?_
           refine Wn ?_
           refine Wn ?_
           refine Wy (.b false) [] (OpF rfl) ?_
           refine Wy (.b false) [] (Omv rfl) ?_
           refine Wn ?_
           refine Wn ?_
           refine Wn ?_
           refine Wn ?_
           refine Wn ?_
           refine Wy (.b false) [] (OpF rfl) ?_
           refine Wy (.b false) [] (Omv rfl) ?_
           refine Wy (.b false) [] (OpF rfl) ?_
           refine Wy (.b false) [] (Omv rfl) ?_
           refine Walk.nil ?_
           refine Then.normal ?_
           refine AWP.ret ?_
           obtain rfl := Option.some.inj hm
           exact ret_i []
         ·
          replace hm := cF hq81_5 hm
          refine Wy (.b false) [] (Ocs (lit_tf (b := decide (r78_5 = 4)) hq81_5) (Omv rfl)) ?_
          refine Wn ?_
          refine Wn ?_
          refine Wn ?_
          refine Wn ?_
          refine Wn ?_
          refine Wn ?_
          refine Wy (.b false) [] (OpF rfl) ?_
          refine Wy (.b false) [] (Omv rfl) ?_
          refine Wn ?_
          refine Wn ?_
          refine Wn ?_
          refine Wy (.b false) [] (OpF rfl) ?_
          refine Wy (.b false) [] (Omv rfl) ?_
          refine Wn ?_
          refine Wn ?_
          refine Wn ?_
          refine Wn ?_
          refine Wn ?_
          refine Wy (.b false) [] (OpF rfl) ?_
          refine Wy (.b false) [] (Omv rfl) ?_
          refine Wy (.b false) [] (OpF rfl) ?_
          refine Wy (.b false) [] (Omv rfl) ?_
          refine Walk.nil ?_
          refine Then.normal ?_
          refine AWP.ret ?_
          obtain rfl := Option.some.inj hm
          exact ret_i []
        ·
         replace hm := cF hq76_5 hm
         refine Wy (.b false) [] (Ocs (lit_tf (b := decide (r28_3.2.2 = 4)) hq76_5) (Omv rfl)) ?_
         refine Wn ?_
         refine Wn ?_
         refine Wn ?_
         refine Wy (.b false) [] (OpF rfl) ?_
         refine Wy (.b false) [] (Omv rfl) ?_
         refine Wn ?_
         refine Wn ?_
         refine Wn ?_
         refine Wn ?_
         refine Wn ?_
         refine Wn ?_
         refine Wy (.b false) [] (OpF rfl) ?_
         refine Wy (.b false) [] (Omv rfl) ?_
         refine Wn ?_
         refine Wn ?_
         refine Wn ?_
         refine Wy (.b false) [] (OpF rfl) ?_
         refine Wy (.b false) [] (Omv rfl) ?_
         refine Wn ?_
         refine Wn ?_
         refine Wn ?_
         refine Wn ?_
         refine Wn ?_
         refine Wy (.b false) [] (OpF rfl) ?_
         refine Wy (.b false) [] (Omv rfl) ?_
         refine Wy (.b false) [] (OpF rfl) ?_
         refine Wy (.b false) [] (Omv rfl) ?_
         refine Walk.nil ?_
         refine Then.normal ?_
         refine AWP.ret ?_
         obtain rfl := Option.some.inj hm
         exact ret_i []
       ·
        replace hm := cF hq72_5 hm
        refine Wy (.b false) [] (Ocs (lit_tf (b := r70_5) hq72_5) (Omv rfl)) ?_
        refine Wn ?_
        refine Wn ?_
        refine Wy (.b false) [] (OpF rfl) ?_
        refine Wy (.b false) [] (Omv rfl) ?_
        refine Wn ?_
        refine Wn ?_
        refine Wn ?_
        refine Wy (.b false) [] (OpF rfl) ?_
        refine Wy (.b false) [] (Omv rfl) ?_
        refine Wn ?_
        refine Wn ?_
        refine Wn ?_
        refine Wn ?_
        refine Wn ?_
        refine Wn ?_
        refine Wy (.b false) [] (OpF rfl) ?_
        refine Wy (.b false) [] (Omv rfl) ?_
        refine Wn ?_
        refine Wn ?_
        refine Wn ?_
        refine Wy (.b false) [] (OpF rfl) ?_
        refine Wy (.b false) [] (Omv rfl) ?_
        refine Wn ?_
        refine Wn ?_
        refine Wn ?_
        refine Wn ?_
        refine Wn ?_
        refine Wy (.b false) [] (OpF rfl) ?_
        refine Wy (.b false) [] (Omv rfl) ?_
        refine Wy (.b false) [] (OpF rfl) ?_
        refine Wy (.b false) [] (Omv rfl) ?_
        refine Walk.nil ?_
        refine Then.normal ?_
        refine AWP.ret ?_
        obtain rfl := Option.some.inj hm
        exact ret_i []
      ·
       replace hm := cF hq67_5 hm
       refine Wy (.b false) [] (Ocs (lit_tf (b := decide (((List.length r19_1 : Nat) : Int) = 8)) hq67_5) (Omv rfl)) ?_
       refine Wn ?_
       refine Wn ?_
       refine Wn ?_
       refine Wy (.b false) [] (OpF rfl) ?_
       refine Wy (.b false) [] (Omv rfl) ?_
       refine Wn ?_
       refine Wn ?_
       refine Wy (.b false) [] (OpF rfl) ?_
       refine Wy (.b false) [] (Omv rfl) ?_
       refine Wn ?_
       refine Wn ?_
       refine Wn ?_
       refine Wy (.b false) [] (OpF rfl) ?_
       refine Wy (.b false) [] (Omv rfl) ?_
       refine Wn ?_
       refine Wn ?_
       refine Wn ?_
       refine Wn ?_
       refine Wn ?_
       refine Wn ?_
       refine Wy (.b false) [] (OpF rfl) ?_
       refine Wy (.b false) [] (Omv rfl) ?_
       refine Wn ?_
       refine Wn ?_
       refine Wn ?_
       refine Wy (.b false) [] (OpF rfl) ?_
       refine Wy (.b false) [] (Omv rfl) ?_
       refine Wn ?_
       refine Wn ?_
       refine Wn ?_
       refine Wn ?_
       refine Wn ?_
       refine Wy (.b false) [] (OpF rfl) ?_
       refine Wy (.b false) [] (Omv rfl) ?_
       refine Wy (.b false) [] (OpF rfl) ?_
       refine Wy (.b false) [] (Omv rfl) ?_
       refine Walk.nil ?_
       refine Then.normal ?_
       refine AWP.ret ?_
       obtain rfl := Option.some.inj hm
       exact ret_i []
     ·
      replace hm := cF hq62_5 hm
      refine Wy (.b false) [] (Ocs (lit_tf (b := decide (r23_2.2.1 = ((List.length r19_1 : Nat) : Int))) hq62_5) (Omv rfl)) ?_
      refine Wn ?_
      refine Wn ?_
      refine Wn ?_
      refine Wy (.b false) [] (OpF rfl) ?_
      refine Wy (.b false) [] (Omv rfl) ?_
      refine Wn ?_
      refine Wn ?_
      refine Wn ?_
      refine Wy (.b false) [] (OpF rfl) ?_
      refine Wy (.b false) [] (Omv rfl) ?_
      refine Wn ?_
      refine Wn ?_
      refine Wy (.b false) [] (OpF rfl) ?_
      refine Wy (.b false) [] (Omv rfl) ?_
      refine Wn ?_
      refine Wn ?_
      refine Wn ?_
      refine Wy (.b false) [] (OpF rfl) ?_
      refine Wy (.b false) [] (Omv rfl) ?_
      refine Wn ?_
      refine Wn ?_
      refine Wn ?_
      refine Wn ?_
      refine Wn ?_
      refine Wn ?_
      refine Wy (.b false) [] (OpF rfl) ?_
      refine Wy (.b false) [] (Omv rfl) ?_
      refine Wn ?_
      refine Wn ?_
      refine Wn ?_
      refine Wy (.b false) [] (OpF rfl) ?_
      refine Wy (.b false) [] (Omv rfl) ?_
      refine Wn ?_
      refine Wn ?_
      refine Wn ?_
      refine Wn ?_
      refine Wn ?_
      refine Wy (.b false) [] (OpF rfl) ?_
      refine Wy (.b false) [] (Omv rfl) ?_
      refine Wy (.b false) [] (OpF rfl) ?_
      refine Wy (.b false) [] (Omv rfl) ?_
      refine Walk.nil ?_
      refine Then.normal ?_
      refine AWP.ret ?_
      obtain rfl := Option.some.inj hm
      exact ret_i []
    ·
     replace hm := cF hq56_5 hm
     refine Wy (.b false) [] (Ocs (lit_tf (b := decide (r23_2.2.2 = 0)) hq56_5) (Omv rfl)) ?_
     refine Wn ?_
     refine Wn ?_
     refine Wn ?_
     refine Wn ?_
     refine Wy (.b false) [] (OpF rfl) ?_
     refine Wy (.b false) [] (Omv rfl) ?_
     refine Wn ?_
     refine Wn ?_
     refine Wn ?_
     refine Wy (.b false) [] (OpF rfl) ?_
     refine Wy (.b false) [] (Omv rfl) ?_
     refine Wn ?_
     refine Wn ?_
     refine Wn ?_
     refine Wy (.b false) [] (OpF rfl) ?_
     refine Wy (.b false) [] (Omv rfl) ?_
     refine Wn ?_
     refine Wn ?_
     refine Wy (.b false) [] (OpF rfl) ?_
     refine Wy (.b false) [] (Omv rfl) ?_
     refine Wn ?_
     refine Wn ?_
     refine Wn ?_
     refine Wy (.b false) [] (OpF rfl) ?_
     refine Wy (.b false) [] (Omv rfl) ?_
     refine Wn ?_
     refine Wn ?_
     refine Wn ?_
     refine Wn ?_
     refine Wn ?_
     refine Wn ?_
     refine Wy (.b false) [] (OpF rfl) ?_
     refine Wy (.b false) [] (Omv rfl) ?_
     refine Wn ?_
     refine Wn ?_
     refine Wn ?_
     refine Wy (.b false) [] (OpF rfl) ?_
     refine Wy (.b false) [] (Omv rfl) ?_
     refine Wn ?_
     refine Wn ?_
     refine Wn ?_
     refine Wn ?_
     refine Wn ?_
     refine Wy (.b false) [] (OpF rfl) ?_
     refine Wy (.b false) [] (Omv rfl) ?_
     refine Wy (.b false) [] (OpF rfl) ?_
     refine Wy (.b false) [] (Omv rfl) ?_
     refine Walk.nil ?_
     refine Then.normal ?_
     refine AWP.ret ?_
     obtain rfl := Option.some.inj hm
     exact ret_i []
   ·
    replace hm := cF hq52_5 hm
    refine Wy (.b false) [] (Ocs (lit_tf (b := (decide (x47_5.Loc = 1) && (decide (x47_5.Time = 2) && (decide (x47_5.N = 4) && true)))) hq52_5) (Omv rfl)) ?_
    refine Wn ?_
    refine Wn ?_
    refine Wy (.b false) [] (OpF rfl) ?_
    refine Wy (.b false) [] (Omv rfl) ?_
    refine Wn ?_
    refine Wn ?_
    refine Wn ?_
    refine Wn ?_
    refine Wy (.b false) [] (OpF rfl) ?_
    refine Wy (.b false) [] (Omv rfl) ?_
    refine Wn ?_
    refine Wn ?_
    refine Wn ?_
    refine Wy (.b false) [] (OpF rfl) ?_
    refine Wy (.b false) [] (Omv rfl) ?_
    refine Wn ?_
    refine Wn ?_
    refine Wn ?_
    refine Wy (.b false) [] (OpF rfl) ?_
    refine Wy (.b false) [] (Omv rfl) ?_
    refine Wn ?_
    refine Wn ?_
    refine Wy (.b false) [] (OpF rfl) ?_
    refine Wy (.b false) [] (Omv rfl) ?_
    refine Wn ?_
    refine Wn ?_
    refine Wn ?_
    refine Wy (.b false) [] (OpF rfl) ?_
    refine Wy (.b false) [] (Omv rfl) ?_
    refine Wn ?_
    refine Wn ?_
    refine Wn ?_
    refine Wn ?_
    refine Wn ?_
    refine Wn ?_
    refine Wy (.b false) [] (OpF rfl) ?_
    refine Wy (.b false) [] (Omv rfl) ?_
    refine Wn ?_
    refine Wn ?_
    refine Wn ?_
    refine Wy (.b false) [] (OpF rfl) ?_
    refine Wy (.b false) [] (Omv rfl) ?_
    refine Wn ?_
    refine Wn ?_
    refine Wn ?_
    refine Wn ?_
    refine Wn ?_
    refine Wy (.b false) [] (OpF rfl) ?_
    refine Wy (.b false) [] (Omv rfl) ?_
    refine Wy (.b false) [] (OpF rfl) ?_
    refine Wy (.b false) [] (Omv rfl) ?_
    refine Walk.nil ?_
    refine Then.normal ?_
    refine AWP.ret ?_
    obtain rfl := Option.some.inj hm
    exact ret_i []
  ·
   replace hm := cF hq45_5 hm
   refine Wy (.b false) [] (Ocs (lit_tf (b := (decide (x40_5.Loc = 0) && (decide (x40_5.Time = 3) && (decide (x40_5.N = 1) && true)))) hq45_5) (Omv rfl)) ?_
   refine Wn ?_
   refine Wn ?_
   refine Wn ?_
   refine Wn ?_
   refine Wn ?_
   refine Wy (.b false) [] (OpF rfl) ?_
   refine Wy (.b false) [] (Omv rfl) ?_
   refine Wn ?_
   refine Wn ?_
   refine Wy (.b false) [] (OpF rfl) ?_
   refine Wy (.b false) [] (Omv rfl) ?_
   refine Wn ?_
   refine Wn ?_
   refine Wn ?_
   refine Wn ?_
   refine Wy (.b false) [] (OpF rfl) ?_
   refine Wy (.b false) [] (Omv rfl) ?_
   refine Wn ?_
   refine Wn ?_
   refine Wn ?_
   refine Wy (.b false) [] (OpF rfl) ?_
   refine Wy (.b false) [] (Omv rfl) ?_
   refine Wn ?_
   refine Wn ?_
   refine Wn ?_
   refine Wy (.b false) [] (OpF rfl) ?_
   refine Wy (.b false) [] (Omv rfl) ?_
   refine Wn ?_
   refine Wn ?_
   refine Wy (.b false) [] (OpF rfl) ?_
   refine Wy (.b false) [] (Omv rfl) ?_
   refine Wn ?_
   refine Wn ?_
   refine Wn ?_
   refine Wy (.b false) [] (OpF rfl) ?_
   refine Wy (.b false) [] (Omv rfl) ?_
   refine Wn ?_
   refine Wn ?_
   refine Wn ?_
   refine Wn ?_
   refine Wn ?_
   refine Wn ?_
   refine Wy (.b false) [] (OpF rfl) ?_
   refine Wy (.b false) [] (Omv rfl) ?_
   refine Wn ?_
   refine Wn ?_
   refine Wn ?_
   refine Wy (.b false) [] (OpF rfl) ?_
   refine Wy (.b false) [] (Omv rfl) ?_
   refine Wn ?_
   refine Wn ?_
   refine Wn ?_
   refine Wn ?_
   refine Wn ?_
   refine Wy (.b false) [] (OpF rfl) ?_
   refine Wy (.b false) [] (Omv rfl) ?_
   refine Wy (.b false) [] (OpF rfl) ?_
   refine Wy (.b false) [] (Omv rfl) ?_
   refine Walk.nil ?_
   refine Then.normal ?_
   refine AWP.ret ?_
   obtain rfl := Option.some.inj hm
   exact ret_i []
 ·
  replace hm := cF hq38_5 hm
  refine Wy (.b false) [] (Ocs (lit_tf (b := decide (((List.length r15_0 : Nat) : Int) = 2)) hq38_5) (Omv rfl)) ?_
  refine Wn ?_
  refine Wn ?_
  refine Wn ?_
  refine Wn ?_
  refine Wn ?_
  refine Wy (.b false) [] (OpF rfl) ?_
  refine Wy (.b false) [] (Omv rfl) ?_
  refine Wn ?_
  refine Wn ?_
  refine Wn ?_
  refine Wn ?_
  refine Wn ?_
  refine Wy (.b false) [] (OpF rfl) ?_
  refine Wy (.b false) [] (Omv rfl) ?_
  refine Wn ?_
  refine Wn ?_
  refine Wy (.b false) [] (OpF rfl) ?_
  refine Wy (.b false) [] (Omv rfl) ?_
  refine Wn ?_
  refine Wn ?_
  refine Wn ?_
  refine Wn ?_
  refine Wy (.b false) [] (OpF rfl) ?_
  refine Wy (.b false) [] (Omv rfl) ?_
  refine Wn ?_
  refine Wn ?_
  refine Wn ?_
  refine Wy (.b false) [] (OpF rfl) ?_
  refine Wy (.b false) [] (Omv rfl) ?_
  refine Wn ?_
  refine Wn ?_
  refine Wn ?_
  refine Wy (.b false) [] (OpF rfl) ?_
  refine Wy (.b false) [] (Omv rfl) ?_
  refine Wn ?_
  refine Wn ?_
  refine Wy (.b false) [] (OpF rfl) ?_
  refine Wy (.b false) [] (Omv rfl) ?_
  refine Wn ?_
  refine Wn ?_
  refine Wn ?_
  refine Wy (.b false) [] (OpF rfl) ?_
  refine Wy (.b false) [] (Omv rfl) ?_
  refine Wn ?_
  refine Wn ?_
  refine Wn ?_
  refine Wn ?_
  refine Wn ?_
  refine Wn ?_
  refine Wy (.b false) [] (OpF rfl) ?_
  refine Wy (.b false) [] (Omv rfl) ?_
  refine Wn ?_
  refine Wn ?_
  refine Wn ?_
  refine Wy (.b false) [] (OpF rfl) ?_
  refine Wy (.b false) [] (Omv rfl) ?_
  refine Wn ?_
  refine Wn ?_
  refine Wn ?_
  refine Wn ?_
  refine Wn ?_
  refine Wy (.b false) [] (OpF rfl) ?_
  refine Wy (.b false) [] (Omv rfl) ?_
  refine Wy (.b false) [] (OpF rfl) ?_
  refine Wy (.b false) [] (Omv rfl) ?_
  refine Walk.nil ?_
  refine Then.normal ?_
  refine AWP.ret ?_
  obtain rfl := Option.some.inj hm
  exact ret_i []

set_option maxRecDepth 20000 in
set_option maxHeartbeats 4000000 in
theorem ok_telltalelaw26_Own (p0 : (List GChange)) (r : (List GChange)) (h : m_telltalelaw26_Own p0 = some r) : GCall Try.prog 8 [(.l enc_GChange p0)] [] (.own 0) [(.arr 36 3 (List.length r) (flatD enc_GChange r))] := by
 refine GCall.of_body (n := 19) (rs := [(.tmp 2)]) Try.func8 rfl rfl rfl ?_
 refine Ato ⟨((.l enc_GChange p0) :: (tu 18 [])), [], 0⟩ ?_
 have hm := h
 unfold m_telltalelaw26_Own at hm
 refine AWP.seq ?_
 refine AWP.text ?_
 refine Wy (.d .nil) [] (Omv rfl) ?_
 refine Walk.nil ?_
 refine Then.normal ?_
 refine Amk 1 0 ⟨((.l enc_GChange p0) :: (tp 18 [])), [], 0⟩ ?_
 refine AWP.seq ?_
 refine AWP.text ?_
 refine Wy (.d .nil) [] (Omv rfl) ?_
 refine Walk.nil ?_
 refine Then.normal ?_
 refine Amk 9 0 ⟨((.l enc_GChange p0) :: (tp 2 ((.d .nil) :: (tp 15 [])))), [], 0⟩ ?_
 refine AWP.seq ?_
 refine AWP.seq ?_
 refine AWP.text ?_
 refine Wy (.i 0) [] (Omv rfl) ?_
 refine Walk.nil ?_
 refine Then.normal ?_
 refine Amk 25 0 ⟨((.l enc_GChange p0) :: (tp 2 ((.d .nil) :: ((.i 0) :: (tp 14 []))))), [], 0⟩ ?_
 refine AWP.block ?_
 refine Aow 3 36 3 ⟨((.l enc_GChange p0) :: (tp 2 ((.own 0) :: ((.i 0) :: (tp 14 []))))), [(.arr 36 3 (List.length ([] : List GChange)) (flatD enc_GChange ([] : List GChange)))], 0⟩ ?_
 refine AWP.loopI (α := Nat × (List GChange) × Int)
   (fun x => match x with | (fu_0, y3_0, y4_0) => (⟨((.l enc_GChange p0) :: (tp 2 ((.own 0) :: ((.i y4_0) :: (tp 14 []))))), [(.arr 36 3 (List.length y3_0) (flatD enc_GChange y3_0))], 0⟩ : St))
   (fun x => match x with | (fu_0, y3_0, y4_0) => m_telltalelaw26_Own_l0 p0 fu_0 y3_0 y4_0 = some r)
   (fun x => match x with | (fu_0, y3_0, y4_0) => fu_0) (1152921504606846976, ([] : List GChange), 0)
   (Weak.toK 25 0 0 [0]) hm ?_
 rintro ⟨fu_0, y3_0, y4_0⟩ n_0 hm ih_0
 try dsimp only at hm ih_0 ⊢
 cases fu_0 with
 | zero => exact absurd hm (by unfold m_telltalelaw26_Own_l0; simp)
 | succ fu_0 =>
  unfold m_telltalelaw26_Own_l0 at hm
  refine AWP.seq ?_
  refine AWP.seq ?_
  refine AWP.text ?_
  refine Wy (.i y4_0) [] (Omv rfl) ?_
  refine Wy (.l enc_GChange p0) [] (Omv rfl) ?_
  refine Wy (.i ((List.length p0 : Nat) : Int)) [] (Oln rfl) ?_
  refine Wy (.b (decide (y4_0 < ((List.length p0 : Nat) : Int)))) [] (Obn rfl (fun _ => hb_lss (k := .i64))) ?_
  refine Walk.nil ?_
  refine Then.normal ?_
  refine Amk 281 1 ⟨((.l enc_GChange p0) :: (tp 2 ((.own 0) :: ((.i y4_0) :: (tp 3 ((.b (decide (y4_0 < ((List.length p0 : Nat) : Int)))) :: (tp 10 []))))))), [(.arr 36 3 (List.length y3_0) (flatD enc_GChange y3_0))], 0⟩ ?_
  rcases tf_ (decide (y4_0 < ((List.length p0 : Nat) : Int))) with hc8_3 | hc8_3
  ·
   replace hm := cT hc8_3 hm
   refine AWP.if_ true (Eq.trans (by kernel_rfl) (lit_tf (b := decide (y4_0 < ((List.length p0 : Nat) : Int))) hc8_3)) ?_
   refine AWP.skip ?_
   refine Then.normal ?_
   refine Amk 25 1 ⟨((.l enc_GChange p0) :: (tp 2 ((.own 0) :: ((.i y4_0) :: (tp 14 []))))), [(.arr 36 3 (List.length y3_0) (flatD enc_GChange y3_0))], 0⟩ ?_
   refine AWP.seq ?_
   refine AWP.block ?_
   refine AWP.text ?_
   refine Wy (.own 0) [] (Omv rfl) ?_
   refine Wy (.l enc_GChange p0) [] (Omv rfl) ?_
   refine Wy (.i y4_0) [] (Omv rfl) ?_
   obtain ⟨x14_2, hx14_2, hm⟩ := bnd hm
   obtain ⟨hx14_2i, hx14_2g⟩ := geti_some hx14_2
   refine Wy (.d (.ref (List.drop ((Int.toNat y4_0) * 3) (flatD enc_GChange p0)))) [] (Oia rfl enc_GChange_len hx14_2i hx14_2g) ?_
   refine Wy (.agg [(.i x14_2.Loc), (.i x14_2.Time), (.i x14_2.N)]) [] (Lf rfl enc_GChange_len hx14_2g) ?_
   refine Wy (.own 1) [(1, (.arr 36 3 (List.length ([x14_2] : List GChange)) (flatD enc_GChange ([x14_2] : List GChange))))] (Obs rfl) ?_
   obtain ⟨a17_2, ha17_2, hm⟩ := bnd hm; obtain ⟨ha17_2e, ha17_2l⟩ := app_some ha17_2
   refine Wy (.own 2) [(0, .gone), (2, (.arr 36 3 (List.length a17_2) (flatD enc_GChange a17_2)))] (Oap rfl elemOK_27 enc_GChange_len ha17_2e ha17_2l) ?_
   refine Wy (.own 2) [] (Omv rfl) ?_
   refine Walk.nil ?_
   refine InBlock.normal ?_
   refine Then.normal ?_
   refine Amk 25 4 ⟨((.l enc_GChange p0) :: (tp 2 ((.own 2) :: ((.i y4_0) :: (tp 14 []))))), [.gone, .gone, (.arr 36 3 (List.length a17_2) (flatD enc_GChange a17_2))], 0⟩ ?_
   refine AWP.text ?_
   refine Wy (.i y4_0) [] (Omv rfl) ?_
   refine Wy (.i (IntKind.i64.wrap (y4_0 + 1))) [] (Obn rfl (fun _ => hb_add (k := .i64))) ?_
   refine Wy (.i (IntKind.i64.wrap (y4_0 + 1))) [] (Omv rfl) ?_
   refine Walk.nil ?_
   refine RoundK.normal ?_
   exact Rounds.weak (Weak.toK 25 0 0 [2]) (ih_0 (fu_0, a17_2, (IntKind.i64.wrap (y4_0 + 1))) hm (Nat.lt_succ_self _))
  ·
   replace hm := cF hc8_3 hm
   refine AWP.if_ false (Eq.trans (by kernel_rfl) (lit_tf (b := decide (y4_0 < ((List.length p0 : Nat) : Int))) hc8_3)) ?_
   refine AWP.exit ?_
   refine Then.exit ?_
   refine RoundK.exit ?_
   refine InBlock.same ?_
   refine Then.normal ?_
   refine Amk 8 1 ⟨(tp 3 ((.own 0) :: (tp 15 []))), [(.arr 36 3 (List.length y3_0) (flatD enc_GChange y3_0))], 0⟩ ?_
   refine AWP.seq ?_
   refine AWP.text ?_
   refine Wy (.own 0) [] (Omv rfl) ?_
   refine Wy (.own 0) [] (Omv rfl) ?_
   refine Walk.nil ?_
   refine Then.normal ?_
   refine AWP.ret ?_
   obtain rfl := Option.some.inj hm
   exact ret_i [0]

set_option maxRecDepth 20000 in
set_option maxHeartbeats 4000000 in
theorem ok_telltalelaw26_TallySums (p0 : (List GChange)) (p1 : (List GChange)) (r : Bool) (h : m_telltalelaw26_TallySums p0 p1 = some r) : GCall Try.prog 5 [(.l enc_GChange p0), (.l enc_GChange p1)] [] (.b r) [] := by
 refine GCall.of_body (n := 189) (rs := [(.tmp 4)]) Try.func5 rfl rfl rfl ?_
 refine Ato ⟨((.l enc_GChange p0) :: ((.l enc_GChange p1) :: (tu 187 []))), [], 0⟩ ?_
 have hm := h
 unfold m_telltalelaw26_TallySums at hm
 refine AWP.seq ?_
 refine AWP.text ?_
 refine Wy (.b false) [] (Omv rfl) ?_
 refine Walk.nil ?_
 refine Then.normal ?_
 refine Amk 3 0 ⟨((.l enc_GChange p0) :: ((.l enc_GChange p1) :: (tp 187 []))), [], 0⟩ ?_
 refine AWP.seq ?_
 refine AWP.seq ?_
 refine AWP.text ?_
 refine Wy (.l enc_GChange p0) [] (Omv rfl) ?_
 obtain ⟨r15_0, hr15_0, hm⟩ := bnd hm
 refine Wy (.i r15_0) [] (Ocf [] [] [] 0 (ok_telltalelaw26_Over p0 r15_0 hr15_0) (fun a w => Try.call6 a w) rfl trivial) ?_
 refine Wy (.b (decide ((0 : Int) < r15_0))) [] (Obn rfl (fun _ => hb_gtr (k := .i64))) ?_
 rcases tf_ (decide ((0 : Int) < r15_0)) with hq17_0 | hq17_0
 ·
  replace hm := cT hq17_0 hm
  refine Wy (.b true) [] (Ocs (lit_tf (b := decide ((0 : Int) < r15_0)) hq17_0) (Omv rfl)) ?_
  refine Wn ?_
  refine Wn ?_
  refine Wn ?_
  refine Wy (.b true) [] (OpT rfl) ?_
  refine Walk.nil ?_
  refine Then.normal ?_
  refine Amk 2097155 0 ⟨((.l enc_GChange p0) :: ((.l enc_GChange p1) :: (tp 19 ((.b true) :: (tp 167 []))))), [], 0⟩ ?_
  refine AWP.if_ true (by kernel_rfl) ?_
  refine AWP.seq ?_
  refine AWP.text ?_
  obtain ⟨r22_1, hr22_1, hm⟩ := bnd hm
  refine Wy (.b r22_1) [] (Ocf [] [] [] 0 (ok_telltalelaw26_awake  r22_1 hr22_1) (fun a w => Try.call7 a w) rfl trivial) ?_
  refine Wy (.b r22_1) [] (Omv rfl) ?_
  refine Walk.nil ?_
  refine Then.normal ?_
  refine AWP.ret ?_
  refine Then.ret ?_
  obtain rfl := Option.some.inj hm
  exact ret_i []
 ·
  replace hm := cF hq17_0 hm
  refine Wy (.b false) [] (Ocs (lit_tf (b := decide ((0 : Int) < r15_0)) hq17_0) (Omv rfl)) ?_
  refine Wy (.l enc_GChange p1) [] (Omv rfl) ?_
  obtain ⟨r19_0, hr19_0, hm⟩ := bnd hm
  refine Wy (.i r19_0) [] (Ocf [] [] [] 0 (ok_telltalelaw26_Over p1 r19_0 hr19_0) (fun a w => Try.call6 a w) rfl trivial) ?_
  refine Wy (.b (decide ((0 : Int) < r19_0))) [] (Obn rfl (fun _ => hb_gtr (k := .i64))) ?_
  refine Wy (.b (decide ((0 : Int) < r19_0))) [] (OpF rfl) ?_
  refine Walk.nil ?_
  refine Then.normal ?_
  refine Amk 2097155 0 ⟨((.l enc_GChange p0) :: ((.l enc_GChange p1) :: (tp 19 ((.b (decide ((0 : Int) < r19_0))) :: (tp 167 []))))), [], 0⟩ ?_
  rcases tf_ (decide ((0 : Int) < r19_0)) with hc21_18 | hc21_18
  ·
   replace hm := cT hc21_18 hm
   refine AWP.if_ true (Eq.trans (by kernel_rfl) (lit_tf (b := decide ((0 : Int) < r19_0)) hc21_18)) ?_
   refine AWP.seq ?_
   refine AWP.text ?_
   obtain ⟨r22_2, hr22_2, hm⟩ := bnd hm
   refine Wy (.b r22_2) [] (Ocf [] [] [] 0 (ok_telltalelaw26_awake  r22_2 hr22_2) (fun a w => Try.call7 a w) rfl trivial) ?_
   refine Wy (.b r22_2) [] (Omv rfl) ?_
   refine Walk.nil ?_
   refine Then.normal ?_
   refine AWP.ret ?_
   refine Then.ret ?_
   obtain rfl := Option.some.inj hm
   exact ret_i []
  ·
   replace hm := cF hc21_18 hm
   refine AWP.if_ false (Eq.trans (by kernel_rfl) (lit_tf (b := decide ((0 : Int) < r19_0)) hc21_18)) ?_
   refine AWP.skip ?_
   refine Then.normal ?_
   refine Amk 3 0 ⟨((.l enc_GChange p0) :: ((.l enc_GChange p1) :: (tp 187 []))), [], 0⟩ ?_
   refine AWP.seq ?_
   refine AWP.text ?_
   refine Wy (.l enc_GChange p0) [] (Omv rfl) ?_
   obtain ⟨r24_3, hr24_3, hm⟩ := bnd hm
   refine Wy (.own 0) [(0, (.arr 36 3 (List.length r24_3) (flatD enc_GChange r24_3)))] (Ocf [] [0] [] 0 (ok_telltalelaw26_Own p0 r24_3 hr24_3) (fun a w => Try.call8 a w) rfl trivial) ?_
   refine Wy (.l enc_GChange p1) [] (Omv rfl) ?_
   obtain ⟨r26_3, hr26_3, hm⟩ := bnd hm
   refine Wy (.own 1) [(1, (.arr 36 3 (List.length r26_3) (flatD enc_GChange r26_3)))] (Ocf [] [1] [] 0 (ok_telltalelaw26_Own p1 r26_3 hr26_3) (fun a w => Try.call8 a w) rfl trivial) ?_
   refine Wy (.own 0) [] (Omv rfl) ?_
   refine Wy (.own 1) [] (Omv rfl) ?_
   refine Walk.nil ?_
   refine Then.normal ?_
   refine Amk 96 3 ⟨(tp 5 ((.own 0) :: ((.own 1) :: (tp 182 [])))), [(.arr 36 3 (List.length r24_3) (flatD enc_GChange r24_3)), (.arr 36 3 (List.length r26_3) (flatD enc_GChange r26_3))], 0⟩ ?_
   refine AWP.seq ?_
   refine AWP.text ?_
   refine Wy (.own 0) [] (Omv rfl) ?_
   refine Wy (.own 1) [] (Omv rfl) ?_
   obtain ⟨r29_4, hr29_4, hm⟩ := bnd hm
   refine Wy (.l enc_GChange r29_4) [(0, (.fro 36 3 (List.length r24_3) (flatD enc_GChange r24_3))), (1, (.fro 36 3 (List.length r26_3) (flatD enc_GChange r26_3)))] (Ocf [] [] [0, 1] 0 (ok_tally_Merge r24_3 r26_3 r29_4 hr29_4) (fun a w => Try.call13 a w) rfl trivial) ?_
   refine Wy (.l enc_GChange r29_4) [] (Omv rfl) ?_
   refine Walk.nil ?_
   refine Then.normal ?_
   refine Amk 224 3 ⟨(tp 5 ((.own 0) :: ((.own 1) :: ((.l enc_GChange r29_4) :: (tp 181 []))))), [(.fro 36 3 (List.length r24_3) (flatD enc_GChange r24_3)), (.fro 36 3 (List.length r26_3) (flatD enc_GChange r26_3))], 0⟩ ?_
   refine AWP.seq ?_
   refine AWP.cutJ (α := Unit) (fun x => match x with | () => (⟨(tp 5 ((.l enc_GChange r24_3) :: ((.l enc_GChange r26_3) :: ((.l enc_GChange r29_4) :: (tp 52 ((.b true) :: (tp 128 []))))))), [], 0⟩ : St)) (fun x => match x with | () => m_telltalelaw26_TallySums_j6  = some r) ?_ (fun J6 => ?_)
   ·
    rintro ⟨⟩ hm
    try dsimp only at hm ⊢
    unfold m_telltalelaw26_TallySums_j6 at hm
    refine AWP.if_ true (by kernel_rfl) ?_
    refine AWP.seq ?_
    refine AWP.text ?_
    refine Wy (.b false) [] (Omv rfl) ?_
    refine Walk.nil ?_
    refine Then.normal ?_
    refine AWP.ret ?_
    refine Then.ret ?_
    obtain rfl := Option.some.inj hm
    exact ret_i []
   refine AWP.seq ?_
   refine AWP.text ?_
   refine Wy (.l enc_GChange r29_4) [] (Omv rfl) ?_
   refine Wy (.own 1) [] (Omv rfl) ?_
   refine Wy (.own 0) [] (Omv rfl) ?_
   obtain ⟨r33_5, hr33_5, hm⟩ := bnd hm
   refine Wy (.l enc_GChange r33_5) [(1, (.fro 36 3 (List.length r26_3) (flatD enc_GChange r26_3))), (0, (.fro 36 3 (List.length r24_3) (flatD enc_GChange r24_3)))] (Ocf [] [] [1, 0] 0 (ok_tally_Merge r26_3 r24_3 r33_5 hr33_5) (fun a w => Try.call13 a w) rfl trivial) ?_
   obtain ⟨r34_5, hr34_5, hm⟩ := bnd hm
   refine Wy (.b r34_5) [] (Ocf [] [] [] 0 (ok_tally_Same r29_4 r33_5 r34_5 hr34_5) (fun a w => Try.call20 a w) rfl trivial) ?_
   refine Wy (.b (!r34_5)) [] (Ocs (by kernel_rfl) (op_un rfl (a1 := .bool r34_5) (by kernel_rfl) (fun _ => hu_not))) ?_
   rcases tf_ (!r34_5) with hq36_5 | hq36_5
   ·
    replace hm := cT hq36_5 hm
    refine Wy (.b true) [] (Ocs (lit_tf (b := (!r34_5)) hq36_5) (Omv rfl)) ?_
    refine Wn ?_
    refine Wn ?_
    refine Wn ?_
    refine Wn ?_
    refine Wn ?_
    refine Wn ?_
    refine Wn ?_
    refine Wn ?_
    refine Wy (.b true) [] (OpT rfl) ?_
    refine Wy (.b true) [] (Omv rfl) ?_
    refine Wn ?_
    refine Wn ?_
    refine Wn ?_
    refine Wn ?_
    refine Wn ?_
    refine Wy (.b true) [] (OpT rfl) ?_
    refine Wy (.b true) [] (Omv rfl) ?_
    refine Wn ?_
    refine Wn ?_
    refine Wn ?_
    refine Wn ?_
    refine Wn ?_
    refine Wn ?_
    refine Wy (.b true) [] (OpT rfl) ?_
    refine Walk.nil ?_
    refine Then.normal ?_
    refine Afz [0, 1] ⟨(tp 5 ((.l enc_GChange r24_3) :: ((.l enc_GChange r26_3) :: ((.l enc_GChange r29_4) :: (tp 22 ((.l enc_GChange r29_4) :: ((.l enc_GChange r26_3) :: ((.l enc_GChange r24_3) :: ((.l enc_GChange r33_5) :: ((.b r34_5) :: ((.b (!r34_5)) :: ((.b true) :: (tu 8 ((.b true) :: ((.b true) :: (tu 5 ((.b true) :: ((.b true) :: (tu 6 ((.b true) :: (tp 128 []))))))))))))))))))))), [(.fro 36 3 (List.length r24_3) (flatD enc_GChange r24_3)), (.fro 36 3 (List.length r26_3) (flatD enc_GChange r26_3))], 0⟩ ?_
    exact AWP.weak (Weak.toK 1152921504606847200 0 0 []) (J6 () hm)
   ·
    replace hm := cF hq36_5 hm
    refine Wy (.b false) [] (Ocs (lit_tf (b := (!r34_5)) hq36_5) (Omv rfl)) ?_
    refine Wy (.l enc_GChange r29_4) [] (Omv rfl) ?_
    refine Wy (.own 0) [] (Omv rfl) ?_
    obtain ⟨r39_5, hr39_5, hm⟩ := bnd hm
    refine Wy (.l enc_GChange r39_5) [(0, (.fro 36 3 (List.length r24_3) (flatD enc_GChange r24_3)))] (Ocf [] [] [0] 0 (ok_tally_Normal r24_3 r39_5 hr39_5) (fun a w => Try.call11 a w) rfl trivial) ?_
    refine Wy (.own 1) [] (Omv rfl) ?_
    obtain ⟨r41_5, hr41_5, hm⟩ := bnd hm
    refine Wy (.l enc_GChange r41_5) [(1, (.fro 36 3 (List.length r26_3) (flatD enc_GChange r26_3)))] (Ocf [] [] [1] 0 (ok_tally_Normal r26_3 r41_5 hr41_5) (fun a w => Try.call11 a w) rfl trivial) ?_
    obtain ⟨r42_5, hr42_5, hm⟩ := bnd hm
    refine Wy (.l enc_GChange r42_5) [] (Ocf [] [] [] 0 (ok_tally_Merge r39_5 r41_5 r42_5 hr42_5) (fun a w => Try.call13 a w) rfl trivial) ?_
    obtain ⟨r43_5, hr43_5, hm⟩ := bnd hm
    refine Wy (.b r43_5) [] (Ocf [] [] [] 0 (ok_tally_Same r29_4 r42_5 r43_5 hr43_5) (fun a w => Try.call20 a w) rfl trivial) ?_
    refine Wy (.b (!r43_5)) [] (Ocs (by kernel_rfl) (op_un rfl (a1 := .bool r43_5) (by kernel_rfl) (fun _ => hu_not))) ?_
    refine Wy (.b (!r43_5)) [] (OpF rfl) ?_
    rcases tf_ (!r43_5) with hq46_5 | hq46_5
    ·
     replace hm := cT hq46_5 hm
     refine Wy (.b true) [] (Ocs (lit_tf (b := (!r43_5)) hq46_5) (Omv rfl)) ?_
     refine Wn ?_
     refine Wn ?_
     refine Wn ?_
     refine Wn ?_
     refine Wn ?_
     refine Wy (.b true) [] (OpT rfl) ?_
     refine Wy (.b true) [] (Omv rfl) ?_
     refine Wn ?_
     refine Wn ?_
     refine Wn ?_
     refine Wn ?_
     refine Wn ?_
     refine Wn ?_
     refine Wy (.b true) [] (OpT rfl) ?_
     refine Walk.nil ?_
     refine Then.normal ?_
     refine Afz [0, 1] ⟨(tp 5 ((.l enc_GChange r24_3) :: ((.l enc_GChange r26_3) :: ((.l enc_GChange r29_4) :: (tp 22 ((.l enc_GChange r29_4) :: ((.l enc_GChange r26_3) :: ((.l enc_GChange r24_3) :: ((.l enc_GChange r33_5) :: ((.b r34_5) :: ((.b (!r34_5)) :: ((.b false) :: ((.l enc_GChange r29_4) :: ((.l enc_GChange r24_3) :: ((.l enc_GChange r39_5) :: ((.l enc_GChange r26_3) :: ((.l enc_GChange r41_5) :: ((.l enc_GChange r42_5) :: ((.b r43_5) :: ((.b (!r43_5)) :: ((.b (!r43_5)) :: ((.b true) :: (tu 5 ((.b true) :: ((.b true) :: (tu 6 ((.b true) :: (tp 128 [])))))))))))))))))))))))))))), [(.fro 36 3 (List.length r24_3) (flatD enc_GChange r24_3)), (.fro 36 3 (List.length r26_3) (flatD enc_GChange r26_3))], 0⟩ ?_
     exact AWP.weak (Weak.toK 1152921504606847200 0 0 []) (J6 () hm)
    ·
     replace hm := cF hq46_5 hm
     refine Wy (.b false) [] (Ocs (lit_tf (b := (!r43_5)) hq46_5) (Omv rfl)) ?_
     refine Wy (.l enc_GChange r29_4) [] (Omv rfl) ?_
     refine Wy (.l enc_GChange r29_4) [] (Omv rfl) ?_
     obtain ⟨r49_5, hr49_5, hm⟩ := bnd hm
     refine Wy (.l enc_GChange r49_5) [] (Ocf [] [] [] 0 (ok_tally_Normal r29_4 r49_5 hr49_5) (fun a w => Try.call11 a w) rfl trivial) ?_
     obtain ⟨r50_5, hr50_5, hm⟩ := bnd hm
     refine Wy (.b r50_5) [] (Ocf [] [] [] 0 (ok_tally_Same r29_4 r49_5 r50_5 hr50_5) (fun a w => Try.call20 a w) rfl trivial) ?_
     refine Wy (.b (!r50_5)) [] (Ocs (by kernel_rfl) (op_un rfl (a1 := .bool r50_5) (by kernel_rfl) (fun _ => hu_not))) ?_
     refine Wy (.b (!r50_5)) [] (OpF rfl) ?_
     rcases tf_ (!r50_5) with hq53_5 | hq53_5
     ·
      replace hm := cT hq53_5 hm
      refine Wy (.b true) [] (Ocs (lit_tf (b := (!r50_5)) hq53_5) (Omv rfl)) ?_
      refine Wn ?_
      refine Wn ?_
      refine Wn ?_
      refine Wn ?_
      refine Wn ?_
      refine Wn ?_
      refine Wy (.b true) [] (OpT rfl) ?_
      refine Walk.nil ?_
      refine Then.normal ?_
      refine Afz [0, 1] ⟨(tp 5 ((.l enc_GChange r24_3) :: ((.l enc_GChange r26_3) :: ((.l enc_GChange r29_4) :: (tp 22 ((.l enc_GChange r29_4) :: ((.l enc_GChange r26_3) :: ((.l enc_GChange r24_3) :: ((.l enc_GChange r33_5) :: ((.b r34_5) :: ((.b (!r34_5)) :: ((.b false) :: ((.l enc_GChange r29_4) :: ((.l enc_GChange r24_3) :: ((.l enc_GChange r39_5) :: ((.l enc_GChange r26_3) :: ((.l enc_GChange r41_5) :: ((.l enc_GChange r42_5) :: ((.b r43_5) :: ((.b (!r43_5)) :: ((.b (!r43_5)) :: ((.b false) :: ((.l enc_GChange r29_4) :: ((.l enc_GChange r29_4) :: ((.l enc_GChange r49_5) :: ((.b r50_5) :: ((.b (!r50_5)) :: ((.b (!r50_5)) :: ((.b true) :: (tu 6 ((.b true) :: (tp 128 [])))))))))))))))))))))))))))))))), [(.fro 36 3 (List.length r24_3) (flatD enc_GChange r24_3)), (.fro 36 3 (List.length r26_3) (flatD enc_GChange r26_3))], 0⟩ ?_
      exact AWP.weak (Weak.toK 1152921504606847200 0 0 []) (J6 () hm)
     ·
      replace hm := cF hq53_5 hm
      refine Wy (.b false) [] (Ocs (lit_tf (b := (!r50_5)) hq53_5) (Omv rfl)) ?_
      refine Wy (.l enc_GChange r29_4) [] (Omv rfl) ?_
      refine Wy (.l enc_GChange r29_4) [] (Omv rfl) ?_
      obtain ⟨r56_5, hr56_5, hm⟩ := bnd hm
      refine Wy (.l enc_GChange r56_5) [] (Ocf [] [] [] 0 (ok_tally_Neg r29_4 r56_5 hr56_5) (fun a w => Try.call16 a w) rfl trivial) ?_
      obtain ⟨r57_5, hr57_5, hm⟩ := bnd hm
      refine Wy (.l enc_GChange r57_5) [] (Ocf [] [] [] 0 (ok_tally_Merge r29_4 r56_5 r57_5 hr57_5) (fun a w => Try.call13 a w) rfl trivial) ?_
      refine Wy (.i ((List.length r57_5 : Nat) : Int)) [] (Oln rfl) ?_
      refine Wy (.b (decide (((List.length r57_5 : Nat) : Int) ≠ 0))) [] (Obn rfl (fun _ => hb_neq (k := .i64))) ?_
      refine Wy (.b (decide (((List.length r57_5 : Nat) : Int) ≠ 0))) [] (OpF rfl) ?_
      refine Walk.nil ?_
      refine Then.normal ?_
      refine Amk 1152921504606847200 3 ⟨(tp 5 ((.own 0) :: ((.own 1) :: ((.l enc_GChange r29_4) :: (tp 52 ((.b (decide (((List.length r57_5 : Nat) : Int) ≠ 0))) :: (tp 128 []))))))), [(.fro 36 3 (List.length r24_3) (flatD enc_GChange r24_3)), (.fro 36 3 (List.length r26_3) (flatD enc_GChange r26_3))], 0⟩ ?_
      rcases tf_ (decide (((List.length r57_5 : Nat) : Int) ≠ 0)) with hc60_19 | hc60_19
      ·
       replace hm := cT hc60_19 hm
       refine AWP.if_ true (Eq.trans (by kernel_rfl) (lit_tf (b := decide (((List.length r57_5 : Nat) : Int) ≠ 0)) hc60_19)) ?_
       refine AWP.seq ?_
       refine AWP.text ?_
       refine Wy (.b false) [] (Omv rfl) ?_
       refine Walk.nil ?_
       refine Then.normal ?_
       refine AWP.ret ?_
       refine Then.ret ?_
       obtain rfl := Option.some.inj hm
       exact ret_i []
      ·
       replace hm := cF hc60_19 hm
       refine AWP.if_ false (Eq.trans (by kernel_rfl) (lit_tf (b := decide (((List.length r57_5 : Nat) : Int) ≠ 0)) hc60_19)) ?_
       refine AWP.skip ?_
       refine Then.normal ?_
       refine Amk 224 3 ⟨(tp 5 ((.own 0) :: ((.own 1) :: ((.l enc_GChange r29_4) :: (tp 181 []))))), [(.fro 36 3 (List.length r24_3) (flatD enc_GChange r24_3)), (.fro 36 3 (List.length r26_3) (flatD enc_GChange r26_3))], 0⟩ ?_
       refine AWP.seq ?_
       refine AWP.seq ?_
       refine AWP.text ?_
       refine Wy (.i 0) [] (Omv rfl) ?_
       refine Walk.nil ?_
       refine Then.normal ?_
       refine Amk 480 3 ⟨(tp 5 ((.own 0) :: ((.own 1) :: ((.l enc_GChange r29_4) :: ((.i 0) :: (tp 180 [])))))), [(.fro 36 3 (List.length r24_3) (flatD enc_GChange r24_3)), (.fro 36 3 (List.length r26_3) (flatD enc_GChange r26_3))], 0⟩ ?_
       refine AWP.block ?_
       refine Afz [0, 1] ⟨(tp 5 ((.l enc_GChange r24_3) :: ((.l enc_GChange r26_3) :: ((.l enc_GChange r29_4) :: ((.i 0) :: (tp 180 [])))))), [(.fro 36 3 (List.length r24_3) (flatD enc_GChange r24_3)), (.fro 36 3 (List.length r26_3) (flatD enc_GChange r26_3))], 0⟩ ?_
       refine AWP.loopI (α := Nat × Int)
         (fun x => match x with | (fu_7, y8_7) => (⟨(tp 5 ((.l enc_GChange r24_3) :: ((.l enc_GChange r26_3) :: ((.l enc_GChange r29_4) :: ((.i y8_7) :: (tp 180 [])))))), [], 0⟩ : St))
         (fun x => match x with | (fu_7, y8_7) => m_telltalelaw26_TallySums_l7 r24_3 r26_3 r29_4 fu_7 y8_7 = some r)
         (fun x => match x with | (fu_7, y8_7) => fu_7) (1152921504606846976, 0)
         (Weak.toK 480 0 0 []) hm ?_
       rintro ⟨fu_7, y8_7⟩ n_7 hm ih_7
       try dsimp only at hm ih_7 ⊢
       cases fu_7 with
       | zero => exact absurd hm (by unfold m_telltalelaw26_TallySums_l7; simp)
       | succ fu_7 =>
        unfold m_telltalelaw26_TallySums_l7 at hm
        refine AWP.seq ?_
        refine AWP.seq ?_
        refine AWP.text ?_
        refine Wy (.i y8_7) [] (Omv rfl) ?_
        refine Wy (.l enc_GChange r24_3) [] (Omv rfl) ?_
        refine Wy (.i ((List.length r24_3 : Nat) : Int)) [] (Oln rfl) ?_
        refine Wy (.b (decide (y8_7 < ((List.length r24_3 : Nat) : Int)))) [] (Obn rfl (fun _ => hb_lss (k := .i64))) ?_
        refine Walk.nil ?_
        refine Then.normal ?_
        refine Amk 18446744073709552096 0 ⟨(tp 5 ((.l enc_GChange r24_3) :: ((.l enc_GChange r26_3) :: ((.l enc_GChange r29_4) :: ((.i y8_7) :: (tp 55 ((.b (decide (y8_7 < ((List.length r24_3 : Nat) : Int)))) :: (tp 124 [])))))))), [], 0⟩ ?_
        rcases tf_ (decide (y8_7 < ((List.length r24_3 : Nat) : Int))) with hc64_20 | hc64_20
        ·
         replace hm := cT hc64_20 hm
         refine AWP.if_ true (Eq.trans (by kernel_rfl) (lit_tf (b := decide (y8_7 < ((List.length r24_3 : Nat) : Int))) hc64_20)) ?_
         refine AWP.skip ?_
         refine Then.normal ?_
         refine Amk 480 0 ⟨(tp 5 ((.l enc_GChange r24_3) :: ((.l enc_GChange r26_3) :: ((.l enc_GChange r29_4) :: ((.i y8_7) :: (tp 180 [])))))), [], 0⟩ ?_
         refine AWP.seq ?_
         refine AWP.block ?_
         refine AWP.seq ?_
         refine Adr ?_
         refine Wy (.l enc_GChange r29_4) [] (Omv rfl) ?_
         refine Wy (.l enc_GChange r24_3) [] (Omv rfl) ?_
         refine Wy (.i y8_7) [] (Omv rfl) ?_
         obtain ⟨x70_9, hx70_9, hm⟩ := bnd hm
         obtain ⟨hx70_9i, hx70_9g⟩ := geti_some hx70_9
         refine Wy (.d (.ref (List.drop ((Int.toNat y8_7) * 3) (flatD enc_GChange r24_3)))) [] (Oia rfl enc_GChange_len hx70_9i hx70_9g) ?_
         refine Wy (.d (.ref (List.drop ((Int.toNat y8_7) * 3) (flatD enc_GChange r24_3)))) [] (Ofa rfl) ?_
         refine Wy (.i x70_9.Loc) [] (Lf1 rfl enc_GChange_len hx70_9g) ?_
         refine Wy (.l enc_GChange r24_3) [] (Omv rfl) ?_
         refine Wy (.i y8_7) [] (Omv rfl) ?_
         obtain ⟨x75_9, hx75_9, hm⟩ := bnd hm
         obtain ⟨hx75_9i, hx75_9g⟩ := geti_some hx75_9
         refine Wy (.d (.ref (List.drop ((Int.toNat y8_7) * 3) (flatD enc_GChange r24_3)))) [] (Oia rfl enc_GChange_len hx75_9i hx75_9g) ?_
         refine Wy (.d (.ref (List.drop 1 (List.drop ((Int.toNat y8_7) * 3) (flatD enc_GChange r24_3))))) [] (Ofa rfl) ?_
         refine Wy (.i x75_9.Time) [] (Lfk1 1 rfl enc_GChange_len hx75_9g) ?_
         obtain ⟨r78_9, hr78_9, hm⟩ := bnd hm
         refine Wy (.i r78_9) [] (Ocf [] [] [] 0 (ok_tally_At r29_4 x70_9.Loc x75_9.Time r78_9 hr78_9) (fun a w => Try.call18 a w) rfl trivial) ?_
         refine Wy (.l enc_GChange r24_3) [] (Omv rfl) ?_
         refine Wy (.l enc_GChange r24_3) [] (Omv rfl) ?_
         refine Wy (.i y8_7) [] (Omv rfl) ?_
         obtain ⟨x82_9, hx82_9, hm⟩ := bnd hm
         obtain ⟨hx82_9i, hx82_9g⟩ := geti_some hx82_9
         refine Wy (.d (.ref (List.drop ((Int.toNat y8_7) * 3) (flatD enc_GChange r24_3)))) [] (Oia rfl enc_GChange_len hx82_9i hx82_9g) ?_
         refine Wy (.d (.ref (List.drop ((Int.toNat y8_7) * 3) (flatD enc_GChange r24_3)))) [] (Ofa rfl) ?_
         refine Wy (.i x82_9.Loc) [] (Lf1 rfl enc_GChange_len hx82_9g) ?_
         refine Wy (.l enc_GChange r24_3) [] (Omv rfl) ?_
         refine Wy (.i y8_7) [] (Omv rfl) ?_
         obtain ⟨x87_9, hx87_9, hm⟩ := bnd hm
         obtain ⟨hx87_9i, hx87_9g⟩ := geti_some hx87_9
         refine Wy (.d (.ref (List.drop ((Int.toNat y8_7) * 3) (flatD enc_GChange r24_3)))) [] (Oia rfl enc_GChange_len hx87_9i hx87_9g) ?_
         refine Wy (.d (.ref (List.drop 1 (List.drop ((Int.toNat y8_7) * 3) (flatD enc_GChange r24_3))))) [] (Ofa rfl) ?_
         refine Wy (.i x87_9.Time) [] (Lfk1 1 rfl enc_GChange_len hx87_9g) ?_
         obtain ⟨r90_9, hr90_9, hm⟩ := bnd hm
         refine Wy (.i r90_9) [] (Ocf [] [] [] 0 (ok_tally_At r24_3 x82_9.Loc x87_9.Time r90_9 hr90_9) (fun a w => Try.call18 a w) rfl trivial) ?_
         refine Wy (.l enc_GChange r26_3) [] (Omv rfl) ?_
         refine Wy (.l enc_GChange r24_3) [] (Omv rfl) ?_
         refine Wy (.i y8_7) [] (Omv rfl) ?_
         obtain ⟨x94_9, hx94_9, hm⟩ := bnd hm
         obtain ⟨hx94_9i, hx94_9g⟩ := geti_some hx94_9
         refine Wy (.d (.ref (List.drop ((Int.toNat y8_7) * 3) (flatD enc_GChange r24_3)))) [] (Oia rfl enc_GChange_len hx94_9i hx94_9g) ?_
         refine Wy (.d (.ref (List.drop ((Int.toNat y8_7) * 3) (flatD enc_GChange r24_3)))) [] (Ofa rfl) ?_
         refine Wy (.i x94_9.Loc) [] (Lf1 rfl enc_GChange_len hx94_9g) ?_
         refine Wy (.l enc_GChange r24_3) [] (Omv rfl) ?_
         refine Wy (.i y8_7) [] (Omv rfl) ?_
         obtain ⟨x99_9, hx99_9, hm⟩ := bnd hm
         obtain ⟨hx99_9i, hx99_9g⟩ := geti_some hx99_9
         refine Wy (.d (.ref (List.drop ((Int.toNat y8_7) * 3) (flatD enc_GChange r24_3)))) [] (Oia rfl enc_GChange_len hx99_9i hx99_9g) ?_
         refine Wy (.d (.ref (List.drop 1 (List.drop ((Int.toNat y8_7) * 3) (flatD enc_GChange r24_3))))) [] (Ofa rfl) ?_
         refine Wy (.i x99_9.Time) [] (Lfk1 1 rfl enc_GChange_len hx99_9g) ?_
         obtain ⟨r102_9, hr102_9, hm⟩ := bnd hm
         refine Wy (.i r102_9) [] (Ocf [] [] [] 0 (ok_tally_At r26_3 x94_9.Loc x99_9.Time r102_9 hr102_9) (fun a w => Try.call18 a w) rfl trivial) ?_
         refine Wy (.i (IntKind.i64.wrap (r90_9 + r102_9))) [] (Obn rfl (fun _ => hb_add (k := .i64))) ?_
         refine Wy (.b (decide (r78_9 ≠ (IntKind.i64.wrap (r90_9 + r102_9))))) [] (Obn rfl (fun _ => hb_neq (k := .i64))) ?_
         refine Wdr ?_
         refine Then.normal ?_
         refine Amk 20282409603651670423947251286496 0 ⟨(tp 5 ((.l enc_GChange r24_3) :: ((.l enc_GChange r26_3) :: ((.l enc_GChange r29_4) :: ((.i y8_7) :: (tp 95 ((.b (decide (r78_9 ≠ (IntKind.i64.wrap (r90_9 + r102_9))))) :: (tp 84 [])))))))), [], 0⟩ ?_
         rcases tf_ (decide (r78_9 ≠ (IntKind.i64.wrap (r90_9 + r102_9)))) with hc104_21 | hc104_21
         ·
          replace hm := cT hc104_21 hm
          refine AWP.if_ true (Eq.trans (by kernel_rfl) (lit_tf (b := decide (r78_9 ≠ (IntKind.i64.wrap (r90_9 + r102_9)))) hc104_21)) ?_
          refine AWP.seq ?_
          refine AWP.text ?_
          refine Wy (.b false) [] (Omv rfl) ?_
          refine Walk.nil ?_
          refine Then.normal ?_
          refine AWP.ret ?_
          refine InBlock.ret ?_
          refine Then.ret ?_
          refine RoundK.ret ?_
          refine InBlock.ret ?_
          refine Then.ret ?_
          obtain rfl := Option.some.inj hm
          exact ret_i []
         ·
          replace hm := cF hc104_21 hm
          refine AWP.if_ false (Eq.trans (by kernel_rfl) (lit_tf (b := decide (r78_9 ≠ (IntKind.i64.wrap (r90_9 + r102_9)))) hc104_21)) ?_
          refine AWP.skip ?_
          refine InBlock.normal ?_
          refine Then.normal ?_
          refine Amk 480 0 ⟨(tp 5 ((.l enc_GChange r24_3) :: ((.l enc_GChange r26_3) :: ((.l enc_GChange r29_4) :: ((.i y8_7) :: (tp 180 [])))))), [], 0⟩ ?_
          refine AWP.text ?_
          refine Wy (.i y8_7) [] (Omv rfl) ?_
          refine Wy (.i (IntKind.i64.wrap (y8_7 + 1))) [] (Obn rfl (fun _ => hb_add (k := .i64))) ?_
          refine Wy (.i (IntKind.i64.wrap (y8_7 + 1))) [] (Omv rfl) ?_
          refine Walk.nil ?_
          refine RoundK.normal ?_
          exact Rounds.weak (Weak.toK 480 0 0 []) (ih_7 (fu_7, (IntKind.i64.wrap (y8_7 + 1))) hm (Nat.lt_succ_self _))
        ·
         replace hm := cF hc64_20 hm
         refine AWP.if_ false (Eq.trans (by kernel_rfl) (lit_tf (b := decide (y8_7 < ((List.length r24_3 : Nat) : Int))) hc64_20)) ?_
         refine AWP.exit ?_
         refine Then.exit ?_
         refine RoundK.exit ?_
         refine InBlock.same ?_
         refine Then.normal ?_
         refine Amk 128 0 ⟨(tp 7 ((.l enc_GChange r29_4) :: (tp 181 []))), [], 0⟩ ?_
         refine AWP.seq ?_
         refine AWP.seq ?_
         refine AWP.text ?_
         refine Wy (.i 0) [] (Omv rfl) ?_
         refine Walk.nil ?_
         refine Then.normal ?_
         refine Amk 640 0 ⟨(tp 7 ((.l enc_GChange r29_4) :: (tp 1 ((.i 0) :: (tp 179 []))))), [], 0⟩ ?_
         refine AWP.block ?_
         refine AWP.loopI (α := Nat × Int)
           (fun x => match x with | (fu_10, y9_10) => (⟨(tp 7 ((.l enc_GChange r29_4) :: (tp 1 ((.i y9_10) :: (tp 179 []))))), [], 0⟩ : St))
           (fun x => match x with | (fu_10, y9_10) => m_telltalelaw26_TallySums_l10 r29_4 fu_10 y9_10 = some r)
           (fun x => match x with | (fu_10, y9_10) => fu_10) (1152921504606846976, 0)
           (Weak.toK 640 0 0 []) hm ?_
         rintro ⟨fu_10, y9_10⟩ n_10 hm ih_10
         try dsimp only at hm ih_10 ⊢
         cases fu_10 with
         | zero => exact absurd hm (by unfold m_telltalelaw26_TallySums_l10; simp)
         | succ fu_10 =>
          unfold m_telltalelaw26_TallySums_l10 at hm
          refine AWP.seq ?_
          refine AWP.seq ?_
          refine AWP.text ?_
          refine Wy (.i y9_10) [] (Omv rfl) ?_
          refine Wy (.l enc_GChange r29_4) [] (Omv rfl) ?_
          refine Wy (.i ((List.length r29_4 : Nat) : Int)) [] (Oln rfl) ?_
          refine Wy (.b (decide (y9_10 < ((List.length r29_4 : Nat) : Int)))) [] (Obn rfl (fun _ => hb_lss (k := .i64))) ?_
          refine Walk.nil ?_
          refine Then.normal ?_
          refine Amk 324518553658426726783156020576896 0 ⟨(tp 7 ((.l enc_GChange r29_4) :: (tp 1 ((.i y9_10) :: (tp 98 ((.b (decide (y9_10 < ((List.length r29_4 : Nat) : Int)))) :: (tp 80 []))))))), [], 0⟩ ?_
          rcases tf_ (decide (y9_10 < ((List.length r29_4 : Nat) : Int))) with hc108_22 | hc108_22
          ·
           replace hm := cT hc108_22 hm
           refine AWP.if_ true (Eq.trans (by kernel_rfl) (lit_tf (b := decide (y9_10 < ((List.length r29_4 : Nat) : Int))) hc108_22)) ?_
           refine AWP.skip ?_
           refine Then.normal ?_
           refine Amk 640 0 ⟨(tp 7 ((.l enc_GChange r29_4) :: (tp 1 ((.i y9_10) :: (tp 179 []))))), [], 0⟩ ?_
           refine AWP.seq ?_
           refine AWP.block ?_
           refine AWP.cutJ (α := Unit) (fun x => match x with | () => (⟨(tp 7 ((.l enc_GChange r29_4) :: (tp 1 ((.i y9_10) :: (tp 152 ((.b true) :: (tp 26 []))))))), [], 0⟩ : St)) (fun x => match x with | () => m_telltalelaw26_TallySums_j13  = some r) ?_ (fun J13 => ?_)
           ·
            rintro ⟨⟩ hm
            try dsimp only at hm ⊢
            unfold m_telltalelaw26_TallySums_j13 at hm
            refine AWP.if_ true (by kernel_rfl) ?_
            refine AWP.seq ?_
            refine AWP.text ?_
            refine Wy (.b false) [] (Omv rfl) ?_
            refine Walk.nil ?_
            refine Then.normal ?_
            refine AWP.ret ?_
            refine InBlock.ret ?_
            refine Then.ret ?_
            refine RoundK.ret ?_
            refine InBlock.ret ?_
            refine Then.ret ?_
            obtain rfl := Option.some.inj hm
            exact ret_i []
           refine AWP.cutJ (α := Unit) (fun x => match x with | () => (⟨(tp 7 ((.l enc_GChange r29_4) :: (tp 1 ((.i y9_10) :: (tp 152 ((.b false) :: (tp 26 []))))))), [], 0⟩ : St)) (fun x => match x with | () => m_telltalelaw26_TallySums_j14 y9_10 (fun y9_10 => m_telltalelaw26_TallySums_l10 r29_4 fu_10 y9_10) = some r) ?_ (fun J14 => ?_)
           ·
            rintro ⟨⟩ hm
            try dsimp only at hm ⊢
            unfold m_telltalelaw26_TallySums_j14 at hm
            refine AWP.if_ false (by kernel_rfl) ?_
            refine AWP.skip ?_
            refine InBlock.normal ?_
            refine Then.normal ?_
            refine Amk 640 0 ⟨(tp 7 ((.l enc_GChange r29_4) :: (tp 1 ((.i y9_10) :: (tp 179 []))))), [], 0⟩ ?_
            refine AWP.text ?_
            refine Wy (.i y9_10) [] (Omv rfl) ?_
            refine Wy (.i (IntKind.i64.wrap (y9_10 + 1))) [] (Obn rfl (fun _ => hb_add (k := .i64))) ?_
            refine Wy (.i (IntKind.i64.wrap (y9_10 + 1))) [] (Omv rfl) ?_
            refine Walk.nil ?_
            refine RoundK.normal ?_
            exact Rounds.weak (Weak.toK 640 0 0 []) (ih_10 (fu_10, (IntKind.i64.wrap (y9_10 + 1))) hm (Nat.lt_succ_self _))
           refine AWP.seq ?_
           refine Adr ?_
           refine Wy (.l enc_GChange r29_4) [] (Omv rfl) ?_
           refine Wy (.i y9_10) [] (Omv rfl) ?_
           obtain ⟨x113_12, hx113_12, hm⟩ := bnd hm
           obtain ⟨hx113_12i, hx113_12g⟩ := geti_some hx113_12
           refine Wy (.d (.ref (List.drop ((Int.toNat y9_10) * 3) (flatD enc_GChange r29_4)))) [] (Oia rfl enc_GChange_len hx113_12i hx113_12g) ?_
           refine Wy (.d (.ref (List.drop 2 (List.drop ((Int.toNat y9_10) * 3) (flatD enc_GChange r29_4))))) [] (Ofa rfl) ?_
           refine Wy (.i x113_12.N) [] (Lfk1 2 rfl enc_GChange_len hx113_12g) ?_
           refine Wy (.b (decide (x113_12.N = 0))) [] (Obn rfl (fun _ => hb_eql (k := .i64))) ?_
           rcases tf_ (decide (x113_12.N = 0)) with hq117_12 | hq117_12
           ·
            replace hm := cT hq117_12 hm
            refine Wy (.b true) [] (Ocs (lit_tf (b := decide (x113_12.N = 0)) hq117_12) (Omv rfl)) ?_
            refine Wn ?_
            refine Wn ?_
            refine Wn ?_
            refine Wn ?_
            refine Wn ?_
            refine Wn ?_
            refine Wn ?_
            refine Wn ?_
            refine Wn ?_
            refine Wn ?_
            refine Wn ?_
            refine Wn ?_
            refine Wn ?_
            refine Wn ?_
            refine Wn ?_
            refine Wn ?_
            refine Wn ?_
            refine Wn ?_
            refine Wn ?_
            refine Wn ?_
            refine Wn ?_
            refine Wn ?_
            refine Wn ?_
            refine Wn ?_
            refine Wn ?_
            refine Wn ?_
            refine Wn ?_
            refine Wn ?_
            refine Wn ?_
            refine Wn ?_
            refine Wn ?_
            refine Wn ?_
            refine Wn ?_
            refine Wn ?_
            refine Wn ?_
            refine Wn ?_
            refine Wn ?_
            refine Wn ?_
            refine Wn ?_
            refine Wn ?_
            refine Wn ?_
            refine Wn ?_
            refine Wn ?_
            refine Wn ?_
            refine Wy (.b true) [] (OpT rfl) ?_
            refine Wdr ?_
            refine Then.normal ?_
            exact AWP.weak (Weak.toK 5846006549323611672814739330865132078623730172544 0 0 []) (J13 () hm)
           ·
            replace hm := cF hq117_12 hm
            refine Wy (.b false) [] (Ocs (lit_tf (b := decide (x113_12.N = 0)) hq117_12) (Omv rfl)) ?_
            refine Wy (.i y9_10) [] (Omv rfl) ?_
            refine Wy (.b (decide ((0 : Int) < y9_10))) [] (Obn rfl (fun _ => hb_gtr (k := .i64))) ?_
            rcases tf_ (decide ((0 : Int) < y9_10)) with hq120_12 | hq120_12
            ·
             replace hm := cT hq120_12 hm
             refine Wy (.b true) [] (Ocs (lit_tf (b := decide ((0 : Int) < y9_10)) hq120_12) (Omv rfl)) ?_
             refine Wy (.l enc_GChange r29_4) [] (Omv rfl) ?_
             refine Wy (.i y9_10) [] (Omv rfl) ?_
             refine Wy (.i (IntKind.i64.wrap (y9_10 - 1))) [] (Obn rfl (fun _ => hb_sub (k := .i64))) ?_
             obtain ⟨x124_12, hx124_12, hm⟩ := bnd hm
             obtain ⟨hx124_12i, hx124_12g⟩ := geti_some hx124_12
             refine Wy (.d (.ref (List.drop ((Int.toNat (IntKind.i64.wrap (y9_10 - 1))) * 3) (flatD enc_GChange r29_4)))) [] (Oia rfl enc_GChange_len hx124_12i hx124_12g) ?_
             refine Wy (.d (.ref (List.drop ((Int.toNat (IntKind.i64.wrap (y9_10 - 1))) * 3) (flatD enc_GChange r29_4)))) [] (Ofa rfl) ?_
             refine Wy (.i x124_12.Loc) [] (Lf1 rfl enc_GChange_len hx124_12g) ?_
             refine Wy (.l enc_GChange r29_4) [] (Omv rfl) ?_
             refine Wy (.i y9_10) [] (Omv rfl) ?_
             obtain ⟨x129_12, hx129_12, hm⟩ := bnd hm
             obtain ⟨hx129_12i, hx129_12g⟩ := geti_some hx129_12
             refine Wy (.d (.ref (List.drop ((Int.toNat y9_10) * 3) (flatD enc_GChange r29_4)))) [] (Oia rfl enc_GChange_len hx129_12i hx129_12g) ?_
             refine Wy (.d (.ref (List.drop ((Int.toNat y9_10) * 3) (flatD enc_GChange r29_4)))) [] (Ofa rfl) ?_
             refine Wy (.i x129_12.Loc) [] (Lf1 rfl enc_GChange_len hx129_12g) ?_
             refine Wy (.b (decide (x129_12.Loc < x124_12.Loc))) [] (Obn rfl (fun _ => hb_gtr (k := .i64))) ?_
             rcases tf_ (decide (x129_12.Loc < x124_12.Loc)) with hq133_12 | hq133_12
             ·
              replace hm := cT hq133_12 hm
              refine Wy (.b true) [] (Ocs (lit_tf (b := decide (x129_12.Loc < x124_12.Loc)) hq133_12) (Omv rfl)) ?_
              refine Wn ?_
              refine Wn ?_
              refine Wn ?_
              refine Wn ?_
              refine Wn ?_
              refine Wn ?_
              refine Wn ?_
              refine Wn ?_
              refine Wn ?_
              refine Wn ?_
              refine Wn ?_
              refine Wn ?_
              refine Wn ?_
              refine Wn ?_
              refine Wn ?_
              refine Wn ?_
              refine Wn ?_
              refine Wn ?_
              refine Wn ?_
              refine Wn ?_
              refine Wn ?_
              refine Wn ?_
              refine Wn ?_
              refine Wn ?_
              refine Wn ?_
              refine Wn ?_
              refine Wy (.b true) [] (OpT rfl) ?_
              refine Wy (.b true) [] (OpT rfl) ?_
              refine Wy (.b true) [] (OpF rfl) ?_
              refine Wdr ?_
              refine Then.normal ?_
              exact AWP.weak (Weak.toK 5846006549323611672814739330865132078623730172544 0 0 []) (J13 () hm)
             ·
              replace hm := cF hq133_12 hm
              refine Wy (.b false) [] (Ocs (lit_tf (b := decide (x129_12.Loc < x124_12.Loc)) hq133_12) (Omv rfl)) ?_
              refine Wy (.l enc_GChange r29_4) [] (Omv rfl) ?_
              refine Wy (.i y9_10) [] (Omv rfl) ?_
              refine Wy (.i (IntKind.i64.wrap (y9_10 - 1))) [] (Obn rfl (fun _ => hb_sub (k := .i64))) ?_
              obtain ⟨x137_12, hx137_12, hm⟩ := bnd hm
              obtain ⟨hx137_12i, hx137_12g⟩ := geti_some hx137_12
              refine Wy (.d (.ref (List.drop ((Int.toNat (IntKind.i64.wrap (y9_10 - 1))) * 3) (flatD enc_GChange r29_4)))) [] (Oia rfl enc_GChange_len hx137_12i hx137_12g) ?_
              refine Wy (.d (.ref (List.drop ((Int.toNat (IntKind.i64.wrap (y9_10 - 1))) * 3) (flatD enc_GChange r29_4)))) [] (Ofa rfl) ?_
              refine Wy (.i x137_12.Loc) [] (Lf1 rfl enc_GChange_len hx137_12g) ?_
              refine Wy (.l enc_GChange r29_4) [] (Omv rfl) ?_
              refine Wy (.i y9_10) [] (Omv rfl) ?_
              obtain ⟨x142_12, hx142_12, hm⟩ := bnd hm
              obtain ⟨hx142_12i, hx142_12g⟩ := geti_some hx142_12
              refine Wy (.d (.ref (List.drop ((Int.toNat y9_10) * 3) (flatD enc_GChange r29_4)))) [] (Oia rfl enc_GChange_len hx142_12i hx142_12g) ?_
              refine Wy (.d (.ref (List.drop ((Int.toNat y9_10) * 3) (flatD enc_GChange r29_4)))) [] (Ofa rfl) ?_
              refine Wy (.i x142_12.Loc) [] (Lf1 rfl enc_GChange_len hx142_12g) ?_
              refine Wy (.b (decide (x137_12.Loc = x142_12.Loc))) [] (Obn rfl (fun _ => hb_eql (k := .i64))) ?_
              rcases tf_ (decide (x137_12.Loc = x142_12.Loc)) with hq146_12 | hq146_12
              ·
               replace hm := cT hq146_12 hm
               refine Wy (.b true) [] (Ocs (lit_tf (b := decide (x137_12.Loc = x142_12.Loc)) hq146_12) (Omv rfl)) ?_
               refine Wy (.l enc_GChange r29_4) [] (Omv rfl) ?_
               refine Wy (.i y9_10) [] (Omv rfl) ?_
               refine Wy (.i (IntKind.i64.wrap (y9_10 - 1))) [] (Obn rfl (fun _ => hb_sub (k := .i64))) ?_
               obtain ⟨x150_12, hx150_12, hm⟩ := bnd hm
               obtain ⟨hx150_12i, hx150_12g⟩ := geti_some hx150_12
               refine Wy (.d (.ref (List.drop ((Int.toNat (IntKind.i64.wrap (y9_10 - 1))) * 3) (flatD enc_GChange r29_4)))) [] (Oia rfl enc_GChange_len hx150_12i hx150_12g) ?_
               refine Wy (.d (.ref (List.drop 1 (List.drop ((Int.toNat (IntKind.i64.wrap (y9_10 - 1))) * 3) (flatD enc_GChange r29_4))))) [] (Ofa rfl) ?_
               refine Wy (.i x150_12.Time) [] (Lfk1 1 rfl enc_GChange_len hx150_12g) ?_
               refine Wy (.l enc_GChange r29_4) [] (Omv rfl) ?_
               refine Wy (.i y9_10) [] (Omv rfl) ?_
               obtain ⟨x155_12, hx155_12, hm⟩ := bnd hm
               obtain ⟨hx155_12i, hx155_12g⟩ := geti_some hx155_12
               refine Wy (.d (.ref (List.drop ((Int.toNat y9_10) * 3) (flatD enc_GChange r29_4)))) [] (Oia rfl enc_GChange_len hx155_12i hx155_12g) ?_
               refine Wy (.d (.ref (List.drop 1 (List.drop ((Int.toNat y9_10) * 3) (flatD enc_GChange r29_4))))) [] (Ofa rfl) ?_
               refine Wy (.i x155_12.Time) [] (Lfk1 1 rfl enc_GChange_len hx155_12g) ?_
               refine Wy (.b (decide (x155_12.Time ≤ x150_12.Time))) [] (Obn rfl (fun _ => hb_geq (k := .i64))) ?_
               refine Wy (.b (decide (x155_12.Time ≤ x150_12.Time))) [] (OpT rfl) ?_
               refine Wy (.b (decide (x155_12.Time ≤ x150_12.Time))) [] (OpF rfl) ?_
               refine Wy (.b (decide (x155_12.Time ≤ x150_12.Time))) [] (OpT rfl) ?_
               refine Wy (.b (decide (x155_12.Time ≤ x150_12.Time))) [] (OpF rfl) ?_
               refine Wdr ?_
               refine Then.normal ?_
               refine Amk 5846006549323611672814739330865132078623730172544 0 ⟨(tp 7 ((.l enc_GChange r29_4) :: (tp 1 ((.i y9_10) :: (tp 152 ((.b (decide (x155_12.Time ≤ x150_12.Time))) :: (tp 26 []))))))), [], 0⟩ ?_
               rcases tf_ (decide (x155_12.Time ≤ x150_12.Time)) with hc162_23 | hc162_23
               ·
                replace hm := cT hc162_23 hm
                refine AWP.if_ true (Eq.trans (by kernel_rfl) (lit_tf (b := decide (x155_12.Time ≤ x150_12.Time)) hc162_23)) ?_
                refine AWP.seq ?_
                refine AWP.text ?_
                refine Wy (.b false) [] (Omv rfl) ?_
                refine Walk.nil ?_
                refine Then.normal ?_
                refine AWP.ret ?_
                refine InBlock.ret ?_
                refine Then.ret ?_
                refine RoundK.ret ?_
                refine InBlock.ret ?_
                refine Then.ret ?_
                obtain rfl := Option.some.inj hm
                exact ret_i []
               ·
                replace hm := cF hc162_23 hm
                refine AWP.if_ false (Eq.trans (by kernel_rfl) (lit_tf (b := decide (x155_12.Time ≤ x150_12.Time)) hc162_23)) ?_
                refine AWP.skip ?_
                refine InBlock.normal ?_
                refine Then.normal ?_
                refine Amk 640 0 ⟨(tp 7 ((.l enc_GChange r29_4) :: (tp 1 ((.i y9_10) :: (tp 179 []))))), [], 0⟩ ?_
                refine AWP.text ?_
                refine Wy (.i y9_10) [] (Omv rfl) ?_
                refine Wy (.i (IntKind.i64.wrap (y9_10 + 1))) [] (Obn rfl (fun _ => hb_add (k := .i64))) ?_
                refine Wy (.i (IntKind.i64.wrap (y9_10 + 1))) [] (Omv rfl) ?_
                refine Walk.nil ?_
                refine RoundK.normal ?_
                exact Rounds.weak (Weak.toK 640 0 0 []) (ih_10 (fu_10, (IntKind.i64.wrap (y9_10 + 1))) hm (Nat.lt_succ_self _))
              ·
               replace hm := cF hq146_12 hm
               refine Wy (.b false) [] (Ocs (lit_tf (b := decide (x137_12.Loc = x142_12.Loc)) hq146_12) (Omv rfl)) ?_
               refine Wn ?_
               refine Wn ?_
               refine Wn ?_
               refine Wn ?_
               refine Wn ?_
               refine Wn ?_
               refine Wn ?_
               refine Wn ?_
               refine Wn ?_
               refine Wn ?_
               refine Wn ?_
               refine Wn ?_
               refine Wy (.b false) [] (OpF rfl) ?_
               refine Wy (.b false) [] (OpF rfl) ?_
               refine Wy (.b false) [] (OpT rfl) ?_
               refine Wy (.b false) [] (OpF rfl) ?_
               refine Wdr ?_
               refine Then.normal ?_
               exact AWP.weak (Weak.toK 5846006549323611672814739330865132078623730172544 0 0 []) (J14 () hm)
            ·
             replace hm := cF hq120_12 hm
             refine Wy (.b false) [] (Ocs (lit_tf (b := decide ((0 : Int) < y9_10)) hq120_12) (Omv rfl)) ?_
             refine Wn ?_
             refine Wn ?_
             refine Wn ?_
             refine Wn ?_
             refine Wn ?_
             refine Wn ?_
             refine Wn ?_
             refine Wn ?_
             refine Wn ?_
             refine Wn ?_
             refine Wn ?_
             refine Wn ?_
             refine Wn ?_
             refine Wn ?_
             refine Wn ?_
             refine Wn ?_
             refine Wn ?_
             refine Wn ?_
             refine Wn ?_
             refine Wn ?_
             refine Wn ?_
             refine Wn ?_
             refine Wn ?_
             refine Wn ?_
             refine Wn ?_
             refine Wn ?_
             refine Wn ?_
             refine Wn ?_
             refine Wn ?_
             refine Wn ?_
             refine Wn ?_
             refine Wn ?_
             refine Wn ?_
             refine Wn ?_
             refine Wn ?_
             refine Wn ?_
             refine Wn ?_
             refine Wn ?_
             refine Wn ?_
             refine Wn ?_
             refine Wy (.b false) [] (OpF rfl) ?_
             refine Wy (.b false) [] (OpF rfl) ?_
             refine Wdr ?_
             refine Then.normal ?_
             exact AWP.weak (Weak.toK 5846006549323611672814739330865132078623730172544 0 0 []) (J14 () hm)
          ·
           replace hm := cF hc108_22 hm
           refine AWP.if_ false (Eq.trans (by kernel_rfl) (lit_tf (b := decide (y9_10 < ((List.length r29_4 : Nat) : Int))) hc108_22)) ?_
           refine AWP.exit ?_
           refine Then.exit ?_
           refine RoundK.exit ?_
           refine InBlock.same ?_
           refine Then.normal ?_
           refine Amk 128 0 ⟨(tp 7 ((.l enc_GChange r29_4) :: (tp 181 []))), [], 0⟩ ?_
           refine AWP.seq ?_
           refine AWP.text ?_
           refine Wy (.l enc_GChange r29_4) [] (Omv rfl) ?_
           obtain ⟨r164_15, hr164_15, hm⟩ := bnd hm
           refine Wy (.own 0) [(0, (.arr 5 1 (List.length r164_15) (flatD encU8 r164_15)))] (Ocf [] [0] [] 0 (ok_tally_Put ([] : List UInt8) r29_4 r164_15 hr164_15) (fun a w => Try.call23 a w) rfl trivial) ?_
           refine Wy (.own 0) [] (Omv rfl) ?_
           refine Walk.nil ?_
           refine Then.normal ?_
           refine Amk 1152 1 ⟨(tp 7 ((.l enc_GChange r29_4) :: (tp 2 ((.own 0) :: (tp 178 []))))), [(.arr 5 1 (List.length r164_15) (flatD encU8 r164_15))], 0⟩ ?_
           refine AWP.seq ?_
           refine AWP.text ?_
           refine Wy (.own 0) [] (Omv rfl) ?_
           refine Wy (.s r164_15) [] (Ocs (by kernel_rfl) (op_str rfl (e := 5) (by kernel_rfl) (by kernel_rfl) (by kernel_rfl) (y := (.own 0)) (by kernel_rfl) (ds := flatD encU8 r164_15) (off := 0) (n := List.length r164_15) (by kernel_rfl) (l := r164_15) flatU8_take rfl)) ?_
           obtain ⟨t168_16, ht168_16, hm⟩ := bnd hm; obtain ⟨ht168_16e, ht168_16l⟩ := app_some ht168_16
           refine Wy (.s t168_16) [] (op_bin rfl (a1 := .string (toS r164_15)) (a2 := .string (toS ([120] : List UInt8))) (by kernel_rfl) (by kernel_rfl) (fun _ => hb_sadd ht168_16e ht168_16l)) ?_
           obtain ⟨r169_16, hr169_16, hm⟩ := bnd hm
           refine Wy (.tup [(.own 1), (.i r169_16.2.1), (.i r169_16.2.2)]) [(1, (.arr 36 3 (List.length r169_16.1) (flatD enc_GChange r169_16.1)))] (Ocf [] [1] [] 0 (ok_tally_Take t168_16 0 r169_16 hr169_16) (fun a w => Try.call21 a w) rfl trivial) ?_
           refine Wy (.tup [(.own 1), (.i r169_16.2.1), (.i r169_16.2.2)]) [] (Omv rfl) ?_
           refine Wy (.own 1) [] (Oex rfl) ?_
           refine Wy (.i r169_16.2.1) [] (Oex rfl) ?_
           refine Wy (.i r169_16.2.2) [] (Oex rfl) ?_
           refine Wy (.own 1) [] (Omv rfl) ?_
           refine Wy (.i r169_16.2.1) [] (Omv rfl) ?_
           refine Wy (.i r169_16.2.2) [] (Omv rfl) ?_
           refine Walk.nil ?_
           refine Then.normal ?_
           refine Amk 15488 3 ⟨(tp 7 ((.l enc_GChange r29_4) :: (tp 2 ((.own 0) :: ((.own 1) :: ((.i r169_16.2.1) :: ((.i r169_16.2.2) :: (tp 175 [])))))))), [(.arr 5 1 (List.length r164_15) (flatD encU8 r164_15)), (.arr 36 3 (List.length r169_16.1) (flatD enc_GChange r169_16.1))], 0⟩ ?_
           refine AWP.seq ?_
           refine AWP.text ?_
           refine Wy (.i r169_16.2.2) [] (Omv rfl) ?_
           refine Wy (.b (decide (r169_16.2.2 = 0))) [] (Obn rfl (fun _ => hb_eql (k := .i64))) ?_
           rcases tf_ (decide (r169_16.2.2 = 0)) with hq175_17 | hq175_17
           ·
            replace hm := cT hq175_17 hm
            refine Wy (.b true) [] (Ocs (lit_tf (b := decide (r169_16.2.2 = 0)) hq175_17) (Omv rfl)) ?_
            refine Wy (.i r169_16.2.1) [] (Omv rfl) ?_
            refine Wy (.own 0) [] (Omv rfl) ?_
            refine Wy (.i ((List.length r164_15 : Nat) : Int)) [] (Oln rfl) ?_
            refine Wy (.b (decide (r169_16.2.1 = ((List.length r164_15 : Nat) : Int)))) [] (Obn rfl (fun _ => hb_eql (k := .i64))) ?_
            refine Wy (.b (decide (r169_16.2.1 = ((List.length r164_15 : Nat) : Int)))) [] (OpT rfl) ?_
            rcases tf_ (decide (r169_16.2.1 = ((List.length r164_15 : Nat) : Int))) with hq181_17 | hq181_17
            ·
             replace hm := cT hq181_17 hm
             refine Wy (.b true) [] (Ocs (lit_tf (b := decide (r169_16.2.1 = ((List.length r164_15 : Nat) : Int))) hq181_17) (Omv rfl)) ?_
             refine Wy (.l enc_GChange r29_4) [] (Omv rfl) ?_
             refine Wy (.own 1) [] (Omv rfl) ?_
             obtain ⟨r184_17, hr184_17, hm⟩ := bnd hm
             refine Wy (.b r184_17) [] (Ocp [] [] [1] 0 (ok_tally_Same r29_4 r169_16.1 r184_17 hr184_17) (plain_triv (by simp [A.Plain, A.Plains, D.Plain, byteD])) (fun a w => Try.call20 a w) rfl trivial) ?_
             refine Wy (.b r184_17) [] (OpT rfl) ?_
             rcases tf_ r184_17 with hq186_17 | hq186_17
             ·
              replace hm := cT hq186_17 hm
              refine Wy (.b true) [] (Ocs (lit_tf (b := r184_17) hq186_17) (Omv rfl)) ?_
              obtain ⟨r187_17, hr187_17, hm⟩ := bnd hm
              refine Wy (.b r187_17) [] (Ocf [] [] [] 0 (ok_telltalelaw26_awake  r187_17 hr187_17) (fun a w => Try.call7 a w) rfl trivial) ?_
              refine Wy (.b r187_17) [] (OpT rfl) ?_
              refine Wy (.b r187_17) [] (Omv rfl) ?_
              refine Walk.nil ?_
              refine Then.normal ?_
              refine AWP.ret ?_
              obtain rfl := Option.some.inj hm
              exact ret_i []
             ·
              replace hm := cF hq186_17 hm
              refine Wy (.b false) [] (Ocs (lit_tf (b := r184_17) hq186_17) (Omv rfl)) ?_
              refine Wn ?_
              refine Wy (.b false) [] (OpF rfl) ?_
              refine Wy (.b false) [] (Omv rfl) ?_
              refine Walk.nil ?_
              refine Then.normal ?_
              refine AWP.ret ?_
              obtain rfl := Option.some.inj hm
              exact ret_i []
            ·
             replace hm := cF hq181_17 hm
             refine Wy (.b false) [] (Ocs (lit_tf (b := decide (r169_16.2.1 = ((List.length r164_15 : Nat) : Int))) hq181_17) (Omv rfl)) ?_
             refine Wn ?_
             refine Wn ?_
             refine Wn ?_
             refine Wy (.b false) [] (OpF rfl) ?_
             refine Wy (.b false) [] (Omv rfl) ?_
             refine Wn ?_
             refine Wy (.b false) [] (OpF rfl) ?_
             refine Wy (.b false) [] (Omv rfl) ?_
             refine Walk.nil ?_
             refine Then.normal ?_
             refine AWP.ret ?_
             obtain rfl := Option.some.inj hm
             exact ret_i []
           ·
            replace hm := cF hq175_17 hm
            refine Wy (.b false) [] (Ocs (lit_tf (b := decide (r169_16.2.2 = 0)) hq175_17) (Omv rfl)) ?_
            refine Wn ?_
            refine Wn ?_
            refine Wn ?_
            refine Wn ?_
            refine Wy (.b false) [] (OpF rfl) ?_
            refine Wy (.b false) [] (Omv rfl) ?_
            refine Wn ?_
            refine Wn ?_
            refine Wn ?_
            refine Wy (.b false) [] (OpF rfl) ?_
            refine Wy (.b false) [] (Omv rfl) ?_
            refine Wn ?_
            refine Wy (.b false) [] (OpF rfl) ?_
            refine Wy (.b false) [] (Omv rfl) ?_
            refine Walk.nil ?_
            refine Then.normal ?_
            refine AWP.ret ?_
            obtain rfl := Option.some.inj hm
            exact ret_i []
end Go.Proofs.Ytkpfagmlohcdjaa.K
