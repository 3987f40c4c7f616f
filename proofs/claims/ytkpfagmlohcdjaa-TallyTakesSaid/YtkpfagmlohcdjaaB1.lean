/- what telltalelaw26.TallyTakes needs (1) -/
import Derived.Test.YtkpfagmlohcdjaaB0
namespace Go.Proofs.Ytkpfagmlohcdjaa.K
open Go.RowKit Go.Lib
set_option linter.unusedVariables false
set_option linter.unusedSimpArgs false

set_option maxRecDepth 20000 in
set_option maxHeartbeats 4000000 in
theorem ok_tally_Take (p0 : (List UInt8)) (p1 : Int) (r : ((List GChange) × Int × Int)) (h : m_tally_Take p0 p1 = some r) : GCall Try.prog 21 [(.s p0), (.i p1)] [] (.tup [(.own 0), (.i r.2.1), (.i r.2.2)]) [(.arr 36 3 (List.length r.1) (flatD enc_GChange r.1))] := by
 refine GCall.of_body (n := 71) (rs := [(.tmp 4), (.tmp 5), (.tmp 6)]) Try.func21 rfl rfl rfl ?_
 refine Ato ⟨((.s p0) :: ((.i p1) :: (tu 69 []))), [], 0⟩ ?_
 have hm := h
 unfold m_tally_Take at hm
 refine AWP.seq ?_
 refine AWP.text ?_
 refine Wy (.d .nil) [] (Omv rfl) ?_
 refine Wy (.i 0) [] (Omv rfl) ?_
 refine Wy (.i 0) [] (Omv rfl) ?_
 refine Walk.nil ?_
 refine Then.normal ?_
 refine Amk 19 0 ⟨((.s p0) :: ((.i p1) :: (tp 2 ((.d .nil) :: (tp 66 []))))), [], 0⟩ ?_
 refine AWP.seq ?_
 refine AWP.text ?_
 refine Wy (.s p0) [] (Omv rfl) ?_
 refine Wy (.i p1) [] (Omv rfl) ?_
 obtain ⟨r16_0, hr16_0, hm⟩ := bnd hm
 refine Wy (.tup [(.d (.lit (.int .u64 r16_0.1))), (.i r16_0.2.1), (.i r16_0.2.2)]) [] (Ocf [] [] [] 0 (ok_zig_Take p0 p1 r16_0 hr16_0) (fun a w => Try.call32 a w) rfl trivial) ?_
 refine Wy (.tup [(.d (.lit (.int .u64 r16_0.1))), (.i r16_0.2.1), (.i r16_0.2.2)]) [] (Omv rfl) ?_
 refine Wy (.d (.lit (.int .u64 r16_0.1))) [] (Oex rfl) ?_
 refine Wy (.i r16_0.2.1) [] (Oex rfl) ?_
 refine Wy (.i r16_0.2.2) [] (Oex rfl) ?_
 refine Wy (.d (.lit (.int .u64 r16_0.1))) [] (Omv rfl) ?_
 refine Wy (.i r16_0.2.1) [] (Omv rfl) ?_
 refine Wy (.i r16_0.2.2) [] (Omv rfl) ?_
 refine Walk.nil ?_
 refine Then.normal ?_
 refine Amk 241 0 ⟨((.s p0) :: (tp 3 ((.d .nil) :: ((.i r16_0.2.1) :: ((.i r16_0.2.2) :: ((.d (.lit (.int .u64 r16_0.1))) :: (tp 63 []))))))), [], 0⟩ ?_
 refine AWP.seq ?_
 refine AWP.seq ?_
 refine AWP.text ?_
 refine Wy (.i r16_0.2.2) [] (Omv rfl) ?_
 refine Wy (.b (decide (r16_0.2.2 ≠ 0))) [] (Obn rfl (fun _ => hb_neq (k := .i64))) ?_
 refine Walk.nil ?_
 refine Then.normal ?_
 refine Amk 2097393 0 ⟨((.s p0) :: (tp 3 ((.d .nil) :: ((.i r16_0.2.1) :: ((.i r16_0.2.2) :: ((.d (.lit (.int .u64 r16_0.1))) :: (tp 13 ((.b (decide (r16_0.2.2 ≠ 0))) :: (tp 49 []))))))))), [], 0⟩ ?_
 rcases tf_ (decide (r16_0.2.2 ≠ 0)) with hc21_8 | hc21_8
 ·
  replace hm := cT hc21_8 hm
  refine AWP.if_ true (Eq.trans (by kernel_rfl) (lit_tf (b := decide (r16_0.2.2 ≠ 0)) hc21_8)) ?_
  refine AWP.seq ?_
  refine AWP.text ?_
  refine Wy (.i r16_0.2.2) [] (Omv rfl) ?_
  refine Wy (.d .nil) [] (Omv rfl) ?_
  refine Wy (.i 0) [] (Omv rfl) ?_
  refine Wy (.i r16_0.2.2) [] (Omv rfl) ?_
  refine Walk.nil ?_
  refine Then.normal ?_
  refine Aow 4 36 3 ⟨((.s p0) :: (tp 3 ((.own 0) :: ((.i 0) :: ((.i r16_0.2.2) :: ((.d (.lit (.int .u64 r16_0.1))) :: (tp 13 ((.b (decide (r16_0.2.2 ≠ 0))) :: ((.i r16_0.2.2) :: (tp 48 [])))))))))), [(.arr 36 3 (List.length ([] : List GChange)) (flatD enc_GChange ([] : List GChange)))], 0⟩ ?_
  refine AWP.ret ?_
  refine Then.ret ?_
  obtain rfl := Option.some.inj hm
  exact ret_i [0]
 ·
  replace hm := cF hc21_8 hm
  refine AWP.if_ false (Eq.trans (by kernel_rfl) (lit_tf (b := decide (r16_0.2.2 ≠ 0)) hc21_8)) ?_
  refine AWP.skip ?_
  refine Then.normal ?_
  refine Amk 177 0 ⟨((.s p0) :: (tp 3 ((.d .nil) :: ((.i r16_0.2.1) :: (tp 1 ((.d (.lit (.int .u64 r16_0.1))) :: (tp 63 []))))))), [], 0⟩ ?_
  refine AWP.seq ?_
  refine AWP.seq ?_
  refine AWP.text ?_
  refine Wy (.d (.lit (.int .u64 r16_0.1))) [] (Omv rfl) ?_
  refine Wy (.b (decide ((1000 : Int) < r16_0.1))) [] (Obn rfl (fun _ => hb_gtr (k := .u64))) ?_
  refine Walk.nil ?_
  refine Then.normal ?_
  refine Amk 16777393 0 ⟨((.s p0) :: (tp 3 ((.d .nil) :: ((.i r16_0.2.1) :: (tp 1 ((.d (.lit (.int .u64 r16_0.1))) :: (tp 16 ((.b (decide ((1000 : Int) < r16_0.1))) :: (tp 46 []))))))))), [], 0⟩ ?_
  rcases tf_ (decide ((1000 : Int) < r16_0.1)) with hc24_9 | hc24_9
  ·
   replace hm := cT hc24_9 hm
   refine AWP.if_ true (Eq.trans (by kernel_rfl) (lit_tf (b := decide ((1000 : Int) < r16_0.1)) hc24_9)) ?_
   refine AWP.seq ?_
   refine AWP.text ?_
   refine Wy (.d .nil) [] (Omv rfl) ?_
   refine Wy (.i 0) [] (Omv rfl) ?_
   refine Wy (.i 5) [] (Omv rfl) ?_
   refine Walk.nil ?_
   refine Then.normal ?_
   refine Aow 4 36 3 ⟨((.s p0) :: (tp 3 ((.own 0) :: ((.i 0) :: ((.i 5) :: ((.d (.lit (.int .u64 r16_0.1))) :: (tp 16 ((.b (decide ((1000 : Int) < r16_0.1))) :: (tp 46 []))))))))), [(.arr 36 3 (List.length ([] : List GChange)) (flatD enc_GChange ([] : List GChange)))], 0⟩ ?_
   refine AWP.ret ?_
   refine Then.ret ?_
   obtain rfl := Option.some.inj hm
   exact ret_i [0]
  ·
   replace hm := cF hc24_9 hm
   refine AWP.if_ false (Eq.trans (by kernel_rfl) (lit_tf (b := decide ((1000 : Int) < r16_0.1)) hc24_9)) ?_
   refine AWP.skip ?_
   refine Then.normal ?_
   refine Amk 177 0 ⟨((.s p0) :: (tp 3 ((.d .nil) :: ((.i r16_0.2.1) :: (tp 1 ((.d (.lit (.int .u64 r16_0.1))) :: (tp 63 []))))))), [], 0⟩ ?_
   refine AWP.seq ?_
   refine AWP.seq ?_
   refine AWP.text ?_
   refine Wy (.d (.lit (.int .u64 r16_0.1))) [] (Omv rfl) ?_
   refine Wy (.d (.lit (.int .u64 0))) [] (Omv rfl) ?_
   refine Walk.nil ?_
   refine Then.normal ?_
   refine Amk 100663345 0 ⟨((.s p0) :: (tp 3 ((.d .nil) :: ((.i r16_0.2.1) :: (tp 19 ((.d (.lit (.int .u64 r16_0.1))) :: ((.d (.lit (.int .u64 0))) :: (tp 44 [])))))))), [], 0⟩ ?_
   refine AWP.block ?_
   refine Aow 4 36 3 ⟨((.s p0) :: (tp 3 ((.own 0) :: ((.i r16_0.2.1) :: (tp 19 ((.d (.lit (.int .u64 r16_0.1))) :: ((.d (.lit (.int .u64 0))) :: (tp 44 [])))))))), [(.arr 36 3 (List.length ([] : List GChange)) (flatD enc_GChange ([] : List GChange)))], 0⟩ ?_
   refine AWP.loopI (α := Nat × (List GChange) × Int × Int)
     (fun x => match x with | (fu_1, y4_1, y5_1, y26_1) => (⟨((.s p0) :: (tp 3 ((.own 0) :: ((.i y5_1) :: (tp 19 ((.d (.lit (.int .u64 r16_0.1))) :: ((.d (.lit (.int .u64 y26_1))) :: (tp 44 [])))))))), [(.arr 36 3 (List.length y4_1) (flatD enc_GChange y4_1))], 0⟩ : St))
     (fun x => match x with | (fu_1, y4_1, y5_1, y26_1) => m_tally_Take_l1 p0 r16_0 fu_1 y4_1 y5_1 y26_1 = some r)
     (fun x => match x with | (fu_1, y4_1, y5_1, y26_1) => fu_1) (1152921504606846976, ([] : List GChange), r16_0.2.1, 0)
     (Weak.toK 100663345 0 0 [0]) hm ?_
   rintro ⟨fu_1, y4_1, y5_1, y26_1⟩ n_1 hm ih_1
   try dsimp only at hm ih_1 ⊢
   cases fu_1 with
   | zero => exact absurd hm (by unfold m_tally_Take_l1; simp)
   | succ fu_1 =>
    unfold m_tally_Take_l1 at hm
    refine AWP.seq ?_
    refine AWP.text ?_
    refine Wy (.b (decide (y26_1 < r16_0.1))) [] (Obn rfl (fun _ => hb_lss (k := .u64))) ?_
    refine Walk.nil ?_
    refine Then.normal ?_
    refine Amk 234881073 1 ⟨((.s p0) :: (tp 3 ((.own 0) :: ((.i y5_1) :: (tp 19 ((.d (.lit (.int .u64 r16_0.1))) :: ((.d (.lit (.int .u64 y26_1))) :: ((.b (decide (y26_1 < r16_0.1))) :: (tp 43 []))))))))), [(.arr 36 3 (List.length y4_1) (flatD enc_GChange y4_1))], 0⟩ ?_
    refine AWP.seq ?_
    rcases tf_ (decide (y26_1 < r16_0.1)) with hc27_10 | hc27_10
    ·
     replace hm := cT hc27_10 hm
     refine AWP.if_ true (Eq.trans (by kernel_rfl) (lit_tf (b := decide (y26_1 < r16_0.1)) hc27_10)) ?_
     refine AWP.skip ?_
     refine Then.normal ?_
     refine Amk 100663345 1 ⟨((.s p0) :: (tp 3 ((.own 0) :: ((.i y5_1) :: (tp 19 ((.d (.lit (.int .u64 r16_0.1))) :: ((.d (.lit (.int .u64 y26_1))) :: (tp 44 [])))))))), [(.arr 36 3 (List.length y4_1) (flatD enc_GChange y4_1))], 0⟩ ?_
     refine AWP.seq ?_
     refine AWP.block ?_
     refine AWP.seq ?_
     refine AWP.text ?_
     refine Wy (.s p0) [] (Omv rfl) ?_
     refine Wy (.i y5_1) [] (Omv rfl) ?_
     obtain ⟨r31_2, hr31_2, hm⟩ := bnd hm
     refine Wy (.tup [(.agg [(.i r31_2.1.Loc), (.i r31_2.1.Time), (.i r31_2.1.N)]), (.i r31_2.2.1), (.i r31_2.2.2)]) [] (Ocf [] [] [] 0 (ok_tally_change p0 y5_1 r31_2 hr31_2) (fun a w => Try.call33 a w) rfl trivial) ?_
     refine Wy (.tup [(.agg [(.i r31_2.1.Loc), (.i r31_2.1.Time), (.i r31_2.1.N)]), (.i r31_2.2.1), (.i r31_2.2.2)]) [] (Omv rfl) ?_
     refine Wy (.agg [(.i r31_2.1.Loc), (.i r31_2.1.Time), (.i r31_2.1.N)]) [] (Oex rfl) ?_
     refine Wy (.i r31_2.2.1) [] (Oex rfl) ?_
     refine Wy (.i r31_2.2.2) [] (Oex rfl) ?_
     refine Wy (.loc 1 0) [(1, (.box [(.i 0), (.i 0), (.i 0)]))] (Oal rfl) ?_
     refine Wy (.tup []) [(1, (.box [(.i r31_2.1.Loc), (.i r31_2.1.Time), (.i r31_2.1.N)]))] (Ost rfl) ?_
     refine Wy (.i r31_2.2.1) [] (Omv rfl) ?_
     refine Wy (.i r31_2.2.2) [] (Omv rfl) ?_
     refine Walk.nil ?_
     refine Then.normal ?_
     refine Amk 100665105 3 ⟨((.s p0) :: (tp 3 ((.own 0) :: (tp 3 ((.loc 1 0) :: ((.i r31_2.2.1) :: ((.i r31_2.2.2) :: (tp 14 ((.d (.lit (.int .u64 r16_0.1))) :: ((.d (.lit (.int .u64 y26_1))) :: (tp 44 []))))))))))), [(.arr 36 3 (List.length y4_1) (flatD enc_GChange y4_1)), (.box [(.i r31_2.1.Loc), (.i r31_2.1.Time), (.i r31_2.1.N)])], 0⟩ ?_
     refine AWP.seq ?_
     refine AWP.seq ?_
     refine AWP.text ?_
     refine Wy (.i r31_2.2.2) [] (Omv rfl) ?_
     refine Wy (.b (decide (r31_2.2.2 ≠ 0))) [] (Obn rfl (fun _ => hb_neq (k := .i64))) ?_
     refine Walk.nil ?_
     refine Then.normal ?_
     refine Amk 68820141841 3 ⟨((.s p0) :: (tp 3 ((.own 0) :: (tp 3 ((.loc 1 0) :: ((.i r31_2.2.1) :: ((.i r31_2.2.2) :: (tp 14 ((.d (.lit (.int .u64 r16_0.1))) :: ((.d (.lit (.int .u64 y26_1))) :: (tp 9 ((.b (decide (r31_2.2.2 ≠ 0))) :: (tp 34 []))))))))))))), [(.arr 36 3 (List.length y4_1) (flatD enc_GChange y4_1)), (.box [(.i r31_2.1.Loc), (.i r31_2.1.Time), (.i r31_2.1.N)])], 0⟩ ?_
     rcases tf_ (decide (r31_2.2.2 ≠ 0)) with hc36_11 | hc36_11
     ·
      replace hm := cT hc36_11 hm
      refine AWP.if_ true (Eq.trans (by kernel_rfl) (lit_tf (b := decide (r31_2.2.2 ≠ 0)) hc36_11)) ?_
      refine AWP.seq ?_
      refine AWP.text ?_
      refine Wy (.i r31_2.2.2) [] (Omv rfl) ?_
      refine Wy (.d .nil) [] (Omv rfl) ?_
      refine Wy (.i 0) [] (Omv rfl) ?_
      refine Wy (.i r31_2.2.2) [] (Omv rfl) ?_
      refine Walk.nil ?_
      refine Then.normal ?_
      refine Aow 4 36 3 ⟨((.s p0) :: (tp 3 ((.own 2) :: ((.i 0) :: ((.i r31_2.2.2) :: (tp 1 ((.loc 1 0) :: ((.i r31_2.2.1) :: ((.i r31_2.2.2) :: (tp 14 ((.d (.lit (.int .u64 r16_0.1))) :: ((.d (.lit (.int .u64 y26_1))) :: (tp 9 ((.b (decide (r31_2.2.2 ≠ 0))) :: ((.i r31_2.2.2) :: (tp 33 [])))))))))))))))), [(.arr 36 3 (List.length y4_1) (flatD enc_GChange y4_1)), (.box [(.i r31_2.1.Loc), (.i r31_2.1.Time), (.i r31_2.1.N)]), (.arr 36 3 (List.length ([] : List GChange)) (flatD enc_GChange ([] : List GChange)))], 0⟩ ?_
      refine AWP.ret ?_
      refine Then.ret ?_
      refine InBlock.ret ?_
      refine Then.ret ?_
      refine RoundK.ret ?_
      refine InBlock.ret ?_
      refine Then.ret ?_
      obtain rfl := Option.some.inj hm
      exact ret_i [2]
     ·
      replace hm := cF hc36_11 hm
      refine AWP.if_ false (Eq.trans (by kernel_rfl) (lit_tf (b := decide (r31_2.2.2 ≠ 0)) hc36_11)) ?_
      refine AWP.skip ?_
      refine Then.normal ?_
      refine Amk 100664081 3 ⟨((.s p0) :: (tp 3 ((.own 0) :: (tp 3 ((.loc 1 0) :: ((.i r31_2.2.1) :: (tp 15 ((.d (.lit (.int .u64 r16_0.1))) :: ((.d (.lit (.int .u64 y26_1))) :: (tp 44 [])))))))))), [(.arr 36 3 (List.length y4_1) (flatD enc_GChange y4_1)), (.box [(.i r31_2.1.Loc), (.i r31_2.1.Time), (.i r31_2.1.N)])], 0⟩ ?_
      refine AWP.text ?_
      refine Wy (.own 0) [] (Omv rfl) ?_
      refine Wy (.agg [(.i r31_2.1.Loc), (.i r31_2.1.Time), (.i r31_2.1.N)]) [] (Old rfl) ?_
      refine Wy (.own 2) [(2, (.arr 36 3 (List.length ([r31_2.1] : List GChange)) (flatD enc_GChange ([r31_2.1] : List GChange))))] (Obs rfl) ?_
      obtain ⟨a41_3, ha41_3, hm⟩ := bnd hm; obtain ⟨ha41_3e, ha41_3l⟩ := app_some ha41_3
      refine Wy (.own 3) [(0, .gone), (3, (.arr 36 3 (List.length a41_3) (flatD enc_GChange a41_3)))] (Oap rfl elemOK_27 enc_GChange_len ha41_3e ha41_3l) ?_
      refine Wy (.i r31_2.2.1) [] (Omv rfl) ?_
      refine Wy (.own 3) [] (Omv rfl) ?_
      refine Wy (.i r31_2.2.1) [] (Omv rfl) ?_
      refine Walk.nil ?_
      refine InBlock.normal ?_
      refine Then.normal ?_
      refine Amk 100663345 8 ⟨((.s p0) :: (tp 3 ((.own 3) :: ((.i r31_2.2.1) :: (tp 19 ((.d (.lit (.int .u64 r16_0.1))) :: ((.d (.lit (.int .u64 y26_1))) :: (tp 44 [])))))))), [.gone, .gone, .gone, (.arr 36 3 (List.length a41_3) (flatD enc_GChange a41_3))], 0⟩ ?_
      refine AWP.text ?_
      refine Wy (.d (.lit (.int .u64 (IntKind.u64.wrap (y26_1 + 1))))) [] (Obn rfl (fun _ => hb_add (k := .u64))) ?_
      refine Wy (.d (.lit (.int .u64 (IntKind.u64.wrap (y26_1 + 1))))) [] (Omv rfl) ?_
      refine Walk.nil ?_
      refine RoundK.normal ?_
      exact Rounds.weak (Weak.toK 100663345 0 0 [3]) (ih_1 (fu_1, a41_3, r31_2.2.1, (IntKind.u64.wrap (y26_1 + 1))) hm (Nat.lt_succ_self _))
    ·
     replace hm := cF hc27_10 hm
     refine AWP.if_ false (Eq.trans (by kernel_rfl) (lit_tf (b := decide (y26_1 < r16_0.1)) hc27_10)) ?_
     refine AWP.exit ?_
     refine Then.exit ?_
     refine RoundK.exit ?_
     refine InBlock.same ?_
     refine Then.normal ?_
     refine Amk 48 1 ⟨(tp 4 ((.own 0) :: ((.i y5_1) :: (tp 65 [])))), [(.arr 36 3 (List.length y4_1) (flatD enc_GChange y4_1))], 0⟩ ?_
     refine AWP.seq ?_
     refine AWP.seq ?_
     refine AWP.text ?_
     refine Wy (.own 0) [] (Omv rfl) ?_
     refine Wy (.i ((List.length y4_1 : Nat) : Int)) [] (Oln rfl) ?_
     refine Wy (.i 0) [] (Omv rfl) ?_
     refine Walk.nil ?_
     refine Then.normal ?_
     refine Amk 123145302310960 1 ⟨(tp 4 ((.own 0) :: ((.i y5_1) :: (tp 38 ((.own 0) :: ((.i ((List.length y4_1 : Nat) : Int)) :: ((.i 0) :: (tp 24 [])))))))), [(.arr 36 3 (List.length y4_1) (flatD enc_GChange y4_1))], 0⟩ ?_
     refine AWP.block ?_
     refine AWP.loopI (α := Nat × Int)
       (fun x => match x with | (fu_5, y46_5) => (⟨(tp 4 ((.own 0) :: ((.i y5_1) :: (tp 38 ((.own 0) :: ((.i ((List.length y4_1 : Nat) : Int)) :: ((.i y46_5) :: (tp 24 [])))))))), [(.arr 36 3 (List.length y4_1) (flatD enc_GChange y4_1))], 0⟩ : St))
       (fun x => match x with | (fu_5, y46_5) => m_tally_Take_l5 y4_1 y5_1 fu_5 y46_5 = some r)
       (fun x => match x with | (fu_5, y46_5) => fu_5) (1152921504606846976, 0)
       (Weak.toK 123145302310960 0 0 [0]) hm ?_
     rintro ⟨fu_5, y46_5⟩ n_5 hm ih_5
     try dsimp only at hm ih_5 ⊢
     cases fu_5 with
     | zero => exact absurd hm (by unfold m_tally_Take_l5; simp)
     | succ fu_5 =>
      unfold m_tally_Take_l5 at hm
      refine AWP.seq ?_
      refine AWP.text ?_
      refine Wy (.b (decide (y46_5 < ((List.length y4_1 : Nat) : Int)))) [] (Obn rfl (fun _ => hb_lss (k := .i64))) ?_
      refine Walk.nil ?_
      refine Then.normal ?_
      refine Amk 263882790666288 1 ⟨(tp 4 ((.own 0) :: ((.i y5_1) :: (tp 38 ((.own 0) :: ((.i ((List.length y4_1 : Nat) : Int)) :: ((.i y46_5) :: ((.b (decide (y46_5 < ((List.length y4_1 : Nat) : Int)))) :: (tp 23 []))))))))), [(.arr 36 3 (List.length y4_1) (flatD enc_GChange y4_1))], 0⟩ ?_
      refine AWP.seq ?_
      rcases tf_ (decide (y46_5 < ((List.length y4_1 : Nat) : Int))) with hc47_12 | hc47_12
      ·
       replace hm := cT hc47_12 hm
       refine AWP.if_ true (Eq.trans (by kernel_rfl) (lit_tf (b := decide (y46_5 < ((List.length y4_1 : Nat) : Int))) hc47_12)) ?_
       refine AWP.skip ?_
       refine Then.normal ?_
       refine Amk 123145302310960 1 ⟨(tp 4 ((.own 0) :: ((.i y5_1) :: (tp 38 ((.own 0) :: ((.i ((List.length y4_1 : Nat) : Int)) :: ((.i y46_5) :: (tp 24 [])))))))), [(.arr 36 3 (List.length y4_1) (flatD enc_GChange y4_1))], 0⟩ ?_
       refine AWP.seq ?_
       refine AWP.block ?_
       refine AWP.seq ?_
       refine AWP.text ?_
       refine Wy (.i y46_5) [] (Omv rfl) ?_
       obtain ⟨x49_6, hx49_6, hm⟩ := bnd hm
       obtain ⟨hx49_6i, hx49_6g⟩ := geti_some hx49_6
       refine Wy (.loc 0 ((Int.toNat y46_5) * 3)) [] (Oia rfl enc_GChange_len hx49_6i hx49_6g) ?_
       refine Wy (.agg [(.i x49_6.Loc), (.i x49_6.Time), (.i x49_6.N)]) [] (Lr rfl enc_GChange_len hx49_6g) ?_
       refine Wy (.loc 1 0) [(1, (.box [(.i 0), (.i 0), (.i 0)]))] (Oal rfl) ?_
       refine Wy (.i y46_5) [] (Omv rfl) ?_
       refine Wy (.tup []) [(1, (.box [(.i x49_6.Loc), (.i x49_6.Time), (.i x49_6.N)]))] (Ost rfl) ?_
       refine Walk.nil ?_
       refine Then.normal ?_
       refine Amk 123145302317104 3 ⟨(tp 4 ((.own 0) :: ((.i y5_1) :: (tp 5 ((.i y46_5) :: ((.loc 1 0) :: (tp 31 ((.own 0) :: ((.i ((List.length y4_1 : Nat) : Int)) :: ((.i y46_5) :: (tp 24 []))))))))))), [(.arr 36 3 (List.length y4_1) (flatD enc_GChange y4_1)), (.box [(.i x49_6.Loc), (.i x49_6.Time), (.i x49_6.N)])], 0⟩ ?_
       refine AWP.seq ?_
       refine Adr ?_
       refine Wy (.loc 1 2) [] (Ofa rfl) ?_
       refine Wy (.i x49_6.N) [] (Old rfl) ?_
       refine Wy (.b (decide (x49_6.N = 0))) [] (Obn rfl (fun _ => hb_eql (k := .i64))) ?_
       rcases tf_ (decide (x49_6.N = 0)) with hq54_7 | hq54_7
       ·
        replace hm := cT hq54_7 hm
        refine Wy (.b true) [] (Ocs (lit_tf (b := decide (x49_6.N = 0)) hq54_7) (Omv rfl)) ?_
        refine Wn ?_
        refine Wn ?_
        refine Wn ?_
        refine Wn ?_
        refine Wn ?_
        refine Wn ?_
        refine Wn ?_
        refine Wn ?_
        refine Wn ?_
        refine Wn ?_
        refine Wn ?_
        refine Wn ?_
        refine Wy (.b true) [] (OpT rfl) ?_
        refine Wdr ?_
        refine Then.normal ?_
        refine Amk 147574075734978723888 1 ⟨(tp 4 ((.own 0) :: ((.i y5_1) :: (tp 38 ((.own 0) :: ((.i ((List.length y4_1 : Nat) : Int)) :: ((.i y46_5) :: (tp 20 ((.b true) :: (tp 3 [])))))))))), [(.arr 36 3 (List.length y4_1) (flatD enc_GChange y4_1)), .gone], 0⟩ ?_
        refine AWP.if_ true (by kernel_rfl) ?_
        refine AWP.seq ?_
        refine AWP.text ?_
        refine Wy (.d .nil) [] (Omv rfl) ?_
        refine Wy (.i 0) [] (Omv rfl) ?_
        refine Wy (.i 4) [] (Omv rfl) ?_
        refine Walk.nil ?_
        refine Then.normal ?_
        refine Aow 4 36 3 ⟨(tp 4 ((.own 2) :: ((.i 0) :: ((.i 4) :: (tp 37 ((.own 0) :: ((.i ((List.length y4_1 : Nat) : Int)) :: ((.i y46_5) :: (tp 20 ((.b true) :: (tp 3 []))))))))))), [(.arr 36 3 (List.length y4_1) (flatD enc_GChange y4_1)), .gone, (.arr 36 3 (List.length ([] : List GChange)) (flatD enc_GChange ([] : List GChange)))], 0⟩ ?_
        refine AWP.ret ?_
        refine InBlock.ret ?_
        refine Then.ret ?_
        refine RoundK.ret ?_
        refine InBlock.ret ?_
        refine Then.ret ?_
        obtain rfl := Option.some.inj hm
        exact ret_i [2]
       ·
        replace hm := cF hq54_7 hm
        refine Wy (.b false) [] (Ocs (lit_tf (b := decide (x49_6.N = 0)) hq54_7) (Omv rfl)) ?_
        refine Wy (.i y46_5) [] (Omv rfl) ?_
        refine Wy (.b (decide ((0 : Int) < y46_5))) [] (Obn rfl (fun _ => hb_gtr (k := .i64))) ?_
        rcases tf_ (decide ((0 : Int) < y46_5)) with hq57_7 | hq57_7
        ·
         replace hm := cT hq57_7 hm
         refine Wy (.b true) [] (Ocs (lit_tf (b := decide ((0 : Int) < y46_5)) hq57_7) (Omv rfl)) ?_
         refine Wy (.own 0) [] (Omv rfl) ?_
         refine Wy (.i y46_5) [] (Omv rfl) ?_
         refine Wy (.i (IntKind.i64.wrap (y46_5 - 1))) [] (Obn rfl (fun _ => hb_sub (k := .i64))) ?_
         obtain ⟨x61_7, hx61_7, hm⟩ := bnd hm
         obtain ⟨hx61_7i, hx61_7g⟩ := geti_some hx61_7
         refine Wy (.loc 0 ((Int.toNat (IntKind.i64.wrap (y46_5 - 1))) * 3)) [] (Oia rfl enc_GChange_len hx61_7i hx61_7g) ?_
         refine Wy (.agg [(.i x61_7.Loc), (.i x61_7.Time), (.i x61_7.N)]) [] (Lr rfl enc_GChange_len hx61_7g) ?_
         refine Wy (.agg [(.i x49_6.Loc), (.i x49_6.Time), (.i x49_6.N)]) [] (Old rfl) ?_
         obtain ⟨r64_7, hr64_7, hm⟩ := bnd hm
         refine Wy (.i r64_7) [] (Ocf [] [] [] 0 (ok_tally_order x61_7 x49_6 r64_7 hr64_7) (fun a w => Try.call26 a w) rfl trivial) ?_
         refine Wy (.b (decide ((0 : Int) ≤ r64_7))) [] (Obn rfl (fun _ => hb_geq (k := .i64))) ?_
         refine Wy (.b (decide ((0 : Int) ≤ r64_7))) [] (OpT rfl) ?_
         refine Wy (.b (decide ((0 : Int) ≤ r64_7))) [] (OpF rfl) ?_
         refine Wdr ?_
         refine Then.normal ?_
         refine Amk 147574075734978723888 1 ⟨(tp 4 ((.own 0) :: ((.i y5_1) :: (tp 38 ((.own 0) :: ((.i ((List.length y4_1 : Nat) : Int)) :: ((.i y46_5) :: (tp 20 ((.b (decide ((0 : Int) ≤ r64_7))) :: (tp 3 [])))))))))), [(.arr 36 3 (List.length y4_1) (flatD enc_GChange y4_1)), .gone], 0⟩ ?_
         rcases tf_ (decide ((0 : Int) ≤ r64_7)) with hc67_13 | hc67_13
         ·
          replace hm := cT hc67_13 hm
          refine AWP.if_ true (Eq.trans (by kernel_rfl) (lit_tf (b := decide ((0 : Int) ≤ r64_7)) hc67_13)) ?_
          refine AWP.seq ?_
          refine AWP.text ?_
          refine Wy (.d .nil) [] (Omv rfl) ?_
          refine Wy (.i 0) [] (Omv rfl) ?_
          refine Wy (.i 4) [] (Omv rfl) ?_
          refine Walk.nil ?_
          refine Then.normal ?_
          refine Aow 4 36 3 ⟨(tp 4 ((.own 2) :: ((.i 0) :: ((.i 4) :: (tp 37 ((.own 0) :: ((.i ((List.length y4_1 : Nat) : Int)) :: ((.i y46_5) :: (tp 20 ((.b (decide ((0 : Int) ≤ r64_7))) :: (tp 3 []))))))))))), [(.arr 36 3 (List.length y4_1) (flatD enc_GChange y4_1)), .gone, (.arr 36 3 (List.length ([] : List GChange)) (flatD enc_GChange ([] : List GChange)))], 0⟩ ?_
          refine AWP.ret ?_
          refine InBlock.ret ?_
          refine Then.ret ?_
          refine RoundK.ret ?_
          refine InBlock.ret ?_
          refine Then.ret ?_
          obtain rfl := Option.some.inj hm
          exact ret_i [2]
         ·
          replace hm := cF hc67_13 hm
          refine AWP.if_ false (Eq.trans (by kernel_rfl) (lit_tf (b := decide ((0 : Int) ≤ r64_7)) hc67_13)) ?_
          refine AWP.skip ?_
          refine InBlock.normal ?_
          refine Then.normal ?_
          refine Amk 123145302310960 1 ⟨(tp 4 ((.own 0) :: ((.i y5_1) :: (tp 38 ((.own 0) :: ((.i ((List.length y4_1 : Nat) : Int)) :: ((.i y46_5) :: (tp 24 [])))))))), [(.arr 36 3 (List.length y4_1) (flatD enc_GChange y4_1)), .gone], 0⟩ ?_
          refine AWP.text ?_
          refine Wy (.i (IntKind.i64.wrap (y46_5 + 1))) [] (Obn rfl (fun _ => hb_add (k := .i64))) ?_
          refine Wy (.i (IntKind.i64.wrap (y46_5 + 1))) [] (Omv rfl) ?_
          refine Walk.nil ?_
          refine RoundK.normal ?_
          exact Rounds.weak (Weak.toK 123145302310960 0 0 [0]) (ih_5 (fu_5, (IntKind.i64.wrap (y46_5 + 1))) hm (Nat.lt_succ_self _))
        ·
         replace hm := cF hq57_7 hm
         refine Wy (.b false) [] (Ocs (lit_tf (b := decide ((0 : Int) < y46_5)) hq57_7) (Omv rfl)) ?_
         refine Wn ?_
         refine Wn ?_
         refine Wn ?_
         refine Wn ?_
         refine Wn ?_
         refine Wn ?_
         refine Wn ?_
         refine Wn ?_
         refine Wy (.b false) [] (OpF rfl) ?_
         refine Wy (.b false) [] (OpF rfl) ?_
         refine Wdr ?_
         refine Then.normal ?_
         refine Amk 147574075734978723888 1 ⟨(tp 4 ((.own 0) :: ((.i y5_1) :: (tp 38 ((.own 0) :: ((.i ((List.length y4_1 : Nat) : Int)) :: ((.i y46_5) :: (tp 20 ((.b false) :: (tp 3 [])))))))))), [(.arr 36 3 (List.length y4_1) (flatD enc_GChange y4_1)), .gone], 0⟩ ?_
         refine AWP.if_ false (by kernel_rfl) ?_
         refine AWP.skip ?_
         refine InBlock.normal ?_
         refine Then.normal ?_
         refine Amk 123145302310960 1 ⟨(tp 4 ((.own 0) :: ((.i y5_1) :: (tp 38 ((.own 0) :: ((.i ((List.length y4_1 : Nat) : Int)) :: ((.i y46_5) :: (tp 24 [])))))))), [(.arr 36 3 (List.length y4_1) (flatD enc_GChange y4_1)), .gone], 0⟩ ?_
         refine AWP.text ?_
         refine Wy (.i (IntKind.i64.wrap (y46_5 + 1))) [] (Obn rfl (fun _ => hb_add (k := .i64))) ?_
         refine Wy (.i (IntKind.i64.wrap (y46_5 + 1))) [] (Omv rfl) ?_
         refine Walk.nil ?_
         refine RoundK.normal ?_
         exact Rounds.weak (Weak.toK 123145302310960 0 0 [0]) (ih_5 (fu_5, (IntKind.i64.wrap (y46_5 + 1))) hm (Nat.lt_succ_self _))
      ·
       replace hm := cF hc47_12 hm
       refine AWP.if_ false (Eq.trans (by kernel_rfl) (lit_tf (b := decide (y46_5 < ((List.length y4_1 : Nat) : Int))) hc47_12)) ?_
       refine AWP.exit ?_
       refine Then.exit ?_
       refine RoundK.exit ?_
       refine InBlock.same ?_
       refine Then.normal ?_
       refine Amk 48 1 ⟨(tp 4 ((.own 0) :: ((.i y5_1) :: (tp 65 [])))), [(.arr 36 3 (List.length y4_1) (flatD enc_GChange y4_1))], 0⟩ ?_
       refine AWP.seq ?_
       refine AWP.text ?_
       refine Wy (.own 0) [] (Omv rfl) ?_
       refine Wy (.i y5_1) [] (Omv rfl) ?_
       refine Wy (.own 0) [] (Omv rfl) ?_
       refine Wy (.i y5_1) [] (Omv rfl) ?_
       refine Wy (.i 0) [] (Omv rfl) ?_
       refine Walk.nil ?_
       refine Then.normal ?_
       refine AWP.ret ?_
       obtain rfl := Option.some.inj hm
       exact ret_i [0]

set_option maxRecDepth 20000 in
set_option maxHeartbeats 4000000 in
theorem ok_slices_Grow_Change (p1 : Int) (r : (List GChange)) (h : m_slices_Grow_Change p1 = some r) : GCall Try.prog 44 [(.d .nil), (.i p1)] [] (.own 0) [(.arr 36 3 (List.length r) (flatD enc_GChange r))] := by
 refine GCall.of_body (n := 27) (rs := [(.tmp 4)]) Try.func44 rfl rfl rfl ?_
 refine Ato ⟨((.d .nil) :: ((.i p1) :: (tu 25 []))), [], 0⟩ ?_
 have hm := h
 unfold m_slices_Grow_Change at hm
 refine AWP.seq ?_
 refine AWP.text ?_
 refine Wy (.d .nil) [] (Omv rfl) ?_
 refine Walk.nil ?_
 refine Then.normal ?_
 refine Amk 3 0 ⟨((.d .nil) :: ((.i p1) :: (tp 25 []))), [], 0⟩ ?_
 refine AWP.seq ?_
 refine AWP.seq ?_
 refine AWP.text ?_
 refine Wy (.i p1) [] (Omv rfl) ?_
 refine Wy (.b (decide (p1 < 0))) [] (Obn rfl (fun _ => hb_lss (k := .i64))) ?_
 refine Walk.nil ?_
 refine Then.normal ?_
 refine Amk 67 0 ⟨((.d .nil) :: ((.i p1) :: (tp 4 ((.b (decide (p1 < 0))) :: (tp 20 []))))), [], 0⟩ ?_
 rcases tf_ (decide (p1 < 0)) with hc6_2 | hc6_2
 ·
  replace hm := cT hc6_2 hm
  refine AWP.if_ true (Eq.trans (by kernel_rfl) (lit_tf (b := decide (p1 < 0)) hc6_2)) ?_
  refine AWP.text ?_
  refine Wy (.d (.lit (Value.iface 9 (.string (toS ([99, 97, 110, 110, 111, 116, 32, 98, 101, 32, 110, 101, 103, 97, 116, 105, 118, 101] : List UInt8)))))) [] (Oif rfl) ?_
  exact nomatch hm
 ·
  replace hm := cF hc6_2 hm
  refine AWP.if_ false (Eq.trans (by kernel_rfl) (lit_tf (b := decide (p1 < 0)) hc6_2)) ?_
  refine AWP.skip ?_
  refine Then.normal ?_
  refine Amk 3 0 ⟨((.d .nil) :: ((.i p1) :: (tp 25 []))), [], 0⟩ ?_
  refine AWP.seq ?_
  refine AWP.seq ?_
  refine AWP.text ?_
  refine Wy (.i p1) [] (Omv rfl) ?_
  refine Wy (.d .nil) [] (Omv rfl) ?_
  refine Wy (.i 0) [] (Ocap rfl (e := 36) (by kernel_rfl)) ?_
  refine Wy (.d .nil) [] (Omv rfl) ?_
  refine Wy (.i 0) [] (Oln rfl) ?_
  refine Wy (.i 0) [] (Ocs (by kernel_rfl) (op_bin rfl (a1 := .int .i64 0) (a2 := .int .i64 0) (by kernel_rfl) (by kernel_rfl) (fun _ => hb_sub))) ?_
  refine Wy (.i (IntKind.i64.wrap (p1 - 0))) [] (Obn rfl (fun _ => hb_sub (k := .i64))) ?_
  refine Wy (.i (IntKind.i64.wrap (p1 - 0))) [] (Omv rfl) ?_
  refine Walk.nil ?_
  refine Then.normal ?_
  refine Amk 3 0 ⟨((.d .nil) :: ((.i (IntKind.i64.wrap (p1 - 0))) :: (tp 25 []))), [], 0⟩ ?_
  refine AWP.seq ?_
  refine AWP.text ?_
  refine Wy (.i (IntKind.i64.wrap (p1 - 0))) [] (Omv rfl) ?_
  refine Wy (.b (decide ((0 : Int) < (IntKind.i64.wrap (p1 - 0))))) [] (Obn rfl (fun _ => hb_gtr (k := .i64))) ?_
  refine Walk.nil ?_
  refine Then.normal ?_
  refine Amk 65539 0 ⟨((.d .nil) :: ((.i (IntKind.i64.wrap (p1 - 0))) :: (tp 14 ((.b (decide ((0 : Int) < (IntKind.i64.wrap (p1 - 0))))) :: (tp 10 []))))), [], 0⟩ ?_
  rcases tf_ (decide ((0 : Int) < (IntKind.i64.wrap (p1 - 0)))) with hc16_3 | hc16_3
  ·
   replace hm := cT hc16_3 hm
   refine AWP.if_ true (Eq.trans (by kernel_rfl) (lit_tf (b := decide ((0 : Int) < (IntKind.i64.wrap (p1 - 0)))) hc16_3)) ?_
   refine AWP.text ?_
   refine Wy (.d .nil) [] (Omv rfl) ?_
   refine Wy (.d .nil) [] (Omv rfl) ?_
   refine Wy (.i 0) [] (Ocap rfl (e := 36) (by kernel_rfl)) ?_
   refine Wy (.d .nil) [] (Ocn rfl (k := .i64) (by kernel_rfl)) ?_
   refine Wy (.i (IntKind.i64.wrap (p1 - 0))) [] (Omv rfl) ?_
   obtain ⟨a22_1, ha22_1, hm⟩ := bnd hm; obtain ⟨ha22_1i, ha22_1l, ha22_1e⟩ := mk_some ha22_1
   obtain ⟨ha22_1p, hm⟩ := chk_some hm
   refine Wy (.own 0) [(0, (.arr 36 3 (List.length a22_1) (flatD enc_GChange a22_1)))] (OcB (OapZ rfl elemOK_27 (kn := .i64) (kq := .i64) (by kernel_rfl) (by kernel_rfl) (L := (IntKind.i64.wrap (p1 - 0))) (n := Int.toNat (IntKind.i64.wrap (p1 - 0))) ha22_1i ha22_1p ha22_1l) (bl_one (by rw [ha22_1e]; simp) (by rw [ha22_1e]; exact (flat_rep (by kernel_rfl))))) ?_
   refine Wy (.d .nil) [] (Omv rfl) ?_
   refine Wy (.i 0) [] (Oln rfl) ?_
   obtain ⟨s25_1, hs25_1, hm⟩ := bnd hm; obtain ⟨hs25_1a, hs25_1b, hs25_1c, hs25_1d, hs25_1e⟩ := cut_some hs25_1
   refine Wy (.own 1) [(0, .gone), (1, (.arr 36 3 (List.length s25_1) (flatD enc_GChange s25_1)))] (OcB (op_sliceTo rfl (id := 0) (e := 36) (sz := 3) (n := List.length a22_1) (xs := flatD enc_GChange a22_1) (by kernel_rfl) (by kernel_rfl) (by kernel_rfl) (k := .i64) (hv := 0) (by kernel_rfl) (h := (Int.toNat 0)) hs25_1b hs25_1d (by kernel_rfl) (by decide)) (bl_app (cut_len0 hs25_1e hs25_1d) (cut_take0 enc_GChange_len hs25_1e))) ?_
   refine Wy (.own 1) [] (Omv rfl) ?_
   refine Walk.nil ?_
   refine Then.normal ?_
   refine Amk 1 2 ⟨((.own 1) :: (tp 26 [])), [.gone, (.arr 36 3 (List.length s25_1) (flatD enc_GChange s25_1))], 0⟩ ?_
   refine AWP.seq ?_
   refine AWP.text ?_
   refine Wy (.own 1) [] (Omv rfl) ?_
   refine Wy (.own 1) [] (Omv rfl) ?_
   refine Walk.nil ?_
   refine Then.normal ?_
   refine AWP.ret ?_
   obtain rfl := Option.some.inj hm
   exact ret_i [1]
  ·
   replace hm := cF hc16_3 hm
   refine AWP.if_ false (Eq.trans (by kernel_rfl) (lit_tf (b := decide ((0 : Int) < (IntKind.i64.wrap (p1 - 0)))) hc16_3)) ?_
   refine AWP.skip ?_
   refine Then.normal ?_
   refine Amk 1 0 ⟨((.d .nil) :: (tp 26 [])), [], 0⟩ ?_
   refine AWP.seq ?_
   refine AWP.text ?_
   refine Wy (.d .nil) [] (Omv rfl) ?_
   refine Wy (.d .nil) [] (Omv rfl) ?_
   refine Walk.nil ?_
   refine Then.normal ?_
   refine Aow 4 36 3 ⟨((.d .nil) :: (tp 3 ((.own 0) :: (tp 21 ((.d .nil) :: []))))), [(.arr 36 3 (List.length ([] : List GChange)) (flatD enc_GChange ([] : List GChange)))], 0⟩ ?_
   refine AWP.ret ?_
   obtain rfl := Option.some.inj hm
   exact ret_i [0]

set_option maxRecDepth 20000 in
set_option maxHeartbeats 4000000 in
theorem ok_slices_Concat_Change (p0 : (List (List GChange))) (r : (List GChange)) (h : m_slices_Concat_Change p0 = some r) : GCall Try.prog 30 [(.l (encL enc_GChange) p0)] [] (.own 0) [(.arr 36 3 (List.length r) (flatD enc_GChange r))] := by
 refine GCall.of_body (n := 36) (rs := [(.tmp 2)]) Try.func30 rfl rfl rfl ?_
 refine Ato ⟨((.l (encL enc_GChange) p0) :: (tu 35 [])), [], 0⟩ ?_
 have hm := h
 unfold m_slices_Concat_Change at hm
 refine AWP.seq ?_
 refine AWP.text ?_
 refine Wy (.d .nil) [] (Omv rfl) ?_
 refine Walk.nil ?_
 refine Then.normal ?_
 refine Amk 1 0 ⟨((.l (encL enc_GChange) p0) :: (tp 35 [])), [], 0⟩ ?_
 refine AWP.seq ?_
 refine AWP.text ?_
 refine Wy (.i 0) [] (Omv rfl) ?_
 refine Walk.nil ?_
 refine Then.normal ?_
 refine Amk 9 0 ⟨((.l (encL enc_GChange) p0) :: (tp 2 ((.i 0) :: (tp 32 [])))), [], 0⟩ ?_
 refine AWP.seq ?_
 refine AWP.seq ?_
 refine AWP.text ?_
 refine Wy (.l (encL enc_GChange) p0) [] (Omv rfl) ?_
 refine Wy (.i ((List.length p0 : Nat) : Int)) [] (Oln rfl) ?_
 refine Wy (.i 0) [] (Omv rfl) ?_
 refine Walk.nil ?_
 refine Then.normal ?_
 refine Amk 3593 0 ⟨((.l (encL enc_GChange) p0) :: (tp 2 ((.i 0) :: (tp 5 ((.l (encL enc_GChange) p0) :: ((.i ((List.length p0 : Nat) : Int)) :: ((.i 0) :: (tp 24 [])))))))), [], 0⟩ ?_
 refine AWP.block ?_
 refine AWP.loopI (α := Nat × Int × Int)
   (fun x => match x with | (fu_1, y3_1, y11_1) => (⟨((.l (encL enc_GChange) p0) :: (tp 2 ((.i y3_1) :: (tp 5 ((.l (encL enc_GChange) p0) :: ((.i ((List.length p0 : Nat) : Int)) :: ((.i y11_1) :: (tp 24 [])))))))), [], 0⟩ : St))
   (fun x => match x with | (fu_1, y3_1, y11_1) => m_slices_Concat_Change_l1 p0 fu_1 y3_1 y11_1 = some r)
   (fun x => match x with | (fu_1, y3_1, y11_1) => fu_1) (1152921504606846976, 0, 0)
   (Weak.toK 3593 0 0 []) hm ?_
 rintro ⟨fu_1, y3_1, y11_1⟩ n_1 hm ih_1
 try dsimp only at hm ih_1 ⊢
 cases fu_1 with
 | zero => exact absurd hm (by unfold m_slices_Concat_Change_l1; simp)
 | succ fu_1 =>
  unfold m_slices_Concat_Change_l1 at hm
  refine AWP.seq ?_
  refine AWP.text ?_
  refine Wy (.b (decide (y11_1 < ((List.length p0 : Nat) : Int)))) [] (Obn rfl (fun _ => hb_lss (k := .i64))) ?_
  refine Walk.nil ?_
  refine Then.normal ?_
  refine Amk 7689 0 ⟨((.l (encL enc_GChange) p0) :: (tp 2 ((.i y3_1) :: (tp 5 ((.l (encL enc_GChange) p0) :: ((.i ((List.length p0 : Nat) : Int)) :: ((.i y11_1) :: ((.b (decide (y11_1 < ((List.length p0 : Nat) : Int)))) :: (tp 23 []))))))))), [], 0⟩ ?_
  refine AWP.seq ?_
  rcases tf_ (decide (y11_1 < ((List.length p0 : Nat) : Int))) with hc12_9 | hc12_9
  ·
   replace hm := cT hc12_9 hm
   refine AWP.if_ true (Eq.trans (by kernel_rfl) (lit_tf (b := decide (y11_1 < ((List.length p0 : Nat) : Int))) hc12_9)) ?_
   refine AWP.skip ?_
   refine Then.normal ?_
   refine Amk 3593 0 ⟨((.l (encL enc_GChange) p0) :: (tp 2 ((.i y3_1) :: (tp 5 ((.l (encL enc_GChange) p0) :: ((.i ((List.length p0 : Nat) : Int)) :: ((.i y11_1) :: (tp 24 [])))))))), [], 0⟩ ?_
   refine AWP.seq ?_
   refine AWP.block ?_
   refine AWP.seq ?_
   refine AWP.text ?_
   obtain ⟨x13_2, hx13_2, hm⟩ := bnd hm
   obtain ⟨hx13_2i, hx13_2g⟩ := geti_some hx13_2
   refine Wy (.d (.ref (List.drop ((Int.toNat y11_1) * 1) (flatD (encL enc_GChange) p0)))) [] (Oia rfl (encL_len (enc := enc_GChange)) hx13_2i hx13_2g) ?_
   refine Wy (.l enc_GChange x13_2) [] (Lf1 rfl (encL_len (enc := enc_GChange)) hx13_2g) ?_
   refine Wy (.l enc_GChange x13_2) [] (Omv rfl) ?_
   refine Walk.nil ?_
   refine Then.normal ?_
   refine Amk 3625 0 ⟨((.l (encL enc_GChange) p0) :: (tp 2 ((.i y3_1) :: (tp 1 ((.l enc_GChange x13_2) :: (tp 3 ((.l (encL enc_GChange) p0) :: ((.i ((List.length p0 : Nat) : Int)) :: ((.i y11_1) :: (tp 24 [])))))))))), [], 0⟩ ?_
   refine AWP.seq ?_
   refine AWP.text ?_
   refine Wy (.i y3_1) [] (Omv rfl) ?_
   refine Wy (.l enc_GChange x13_2) [] (Omv rfl) ?_
   refine Wy (.i ((List.length x13_2 : Nat) : Int)) [] (Oln rfl) ?_
   refine Wy (.i (IntKind.i64.wrap (y3_1 + ((List.length x13_2 : Nat) : Int)))) [] (Obn rfl (fun _ => hb_add (k := .i64))) ?_
   refine Wy (.i (IntKind.i64.wrap (y3_1 + ((List.length x13_2 : Nat) : Int)))) [] (Omv rfl) ?_
   refine Walk.nil ?_
   refine Then.normal ?_
   refine Amk 3593 0 ⟨((.l (encL enc_GChange) p0) :: (tp 2 ((.i (IntKind.i64.wrap (y3_1 + ((List.length x13_2 : Nat) : Int)))) :: (tp 5 ((.l (encL enc_GChange) p0) :: ((.i ((List.length p0 : Nat) : Int)) :: ((.i y11_1) :: (tp 24 [])))))))), [], 0⟩ ?_
   refine AWP.seq ?_
   refine AWP.text ?_
   refine Wy (.i (IntKind.i64.wrap (y3_1 + ((List.length x13_2 : Nat) : Int)))) [] (Omv rfl) ?_
   refine Wy (.b (decide ((IntKind.i64.wrap (y3_1 + ((List.length x13_2 : Nat) : Int))) < 0))) [] (Obn rfl (fun _ => hb_lss (k := .i64))) ?_
   refine Walk.nil ?_
   refine Then.normal ?_
   refine Amk 1052169 0 ⟨((.l (encL enc_GChange) p0) :: (tp 2 ((.i (IntKind.i64.wrap (y3_1 + ((List.length x13_2 : Nat) : Int)))) :: (tp 5 ((.l (encL enc_GChange) p0) :: ((.i ((List.length p0 : Nat) : Int)) :: ((.i y11_1) :: (tp 8 ((.b (decide ((IntKind.i64.wrap (y3_1 + ((List.length x13_2 : Nat) : Int))) < 0))) :: (tp 15 [])))))))))), [], 0⟩ ?_
   rcases tf_ (decide ((IntKind.i64.wrap (y3_1 + ((List.length x13_2 : Nat) : Int))) < 0)) with hc20_10 | hc20_10
   ·
    replace hm := cT hc20_10 hm
    refine AWP.if_ true (Eq.trans (by kernel_rfl) (lit_tf (b := decide ((IntKind.i64.wrap (y3_1 + ((List.length x13_2 : Nat) : Int))) < 0)) hc20_10)) ?_
    refine AWP.text ?_
    refine Wy (.d (.lit (Value.iface 9 (.string (toS ([108, 101, 110, 32, 111, 117, 116, 32, 111, 102, 32, 114, 97, 110, 103, 101] : List UInt8)))))) [] (Oif rfl) ?_
    exact nomatch hm
   ·
    replace hm := cF hc20_10 hm
    refine AWP.if_ false (Eq.trans (by kernel_rfl) (lit_tf (b := decide ((IntKind.i64.wrap (y3_1 + ((List.length x13_2 : Nat) : Int))) < 0)) hc20_10)) ?_
    refine AWP.skip ?_
    refine InBlock.normal ?_
    refine Then.normal ?_
    refine Amk 3593 0 ⟨((.l (encL enc_GChange) p0) :: (tp 2 ((.i (IntKind.i64.wrap (y3_1 + ((List.length x13_2 : Nat) : Int)))) :: (tp 5 ((.l (encL enc_GChange) p0) :: ((.i ((List.length p0 : Nat) : Int)) :: ((.i y11_1) :: (tp 24 [])))))))), [], 0⟩ ?_
    refine AWP.text ?_
    refine Wy (.i (IntKind.i64.wrap (y11_1 + 1))) [] (Obn rfl (fun _ => hb_add (k := .i64))) ?_
    refine Wy (.i (IntKind.i64.wrap (y11_1 + 1))) [] (Omv rfl) ?_
    refine Walk.nil ?_
    refine RoundK.normal ?_
    exact Rounds.weak (Weak.toK 3593 0 0 []) (ih_1 (fu_1, (IntKind.i64.wrap (y3_1 + ((List.length x13_2 : Nat) : Int))), (IntKind.i64.wrap (y11_1 + 1))) hm (Nat.lt_succ_self _))
  ·
   replace hm := cF hc12_9 hm
   refine AWP.if_ false (Eq.trans (by kernel_rfl) (lit_tf (b := decide (y11_1 < ((List.length p0 : Nat) : Int))) hc12_9)) ?_
   refine AWP.exit ?_
   refine Then.exit ?_
   refine RoundK.exit ?_
   refine InBlock.same ?_
   refine Then.normal ?_
   refine Amk 9 0 ⟨((.l (encL enc_GChange) p0) :: (tp 2 ((.i y3_1) :: (tp 32 [])))), [], 0⟩ ?_
   refine AWP.seq ?_
   refine AWP.text ?_
   refine Wy (.i y3_1) [] (Omv rfl) ?_
   obtain ⟨r24_4, hr24_4, hm⟩ := bnd hm
   refine Wy (.own 0) [(0, (.arr 36 3 (List.length r24_4) (flatD enc_GChange r24_4)))] (Ocf [] [0] [] 1 (ok_slices_Grow_Change y3_1 r24_4 hr24_4) (fun a w => Try.call44 a w) rfl trivial) ?_
   refine Wy (.own 0) [] (Omv rfl) ?_
   refine Walk.nil ?_
   refine Then.normal ?_
   refine Amk 65 1 ⟨((.l (encL enc_GChange) p0) :: (tp 5 ((.own 0) :: (tp 29 [])))), [(.arr 36 3 (List.length r24_4) (flatD enc_GChange r24_4))], 0⟩ ?_
   refine AWP.seq ?_
   refine AWP.seq ?_
   refine AWP.text ?_
   refine Wy (.l (encL enc_GChange) p0) [] (Omv rfl) ?_
   refine Wy (.i ((List.length p0 : Nat) : Int)) [] (Oln rfl) ?_
   refine Wy (.i 0) [] (Omv rfl) ?_
   refine Walk.nil ?_
   refine Then.normal ?_
   refine Amk 234881088 1 ⟨(tp 6 ((.own 0) :: (tp 18 ((.l (encL enc_GChange) p0) :: ((.i ((List.length p0 : Nat) : Int)) :: ((.i 0) :: (tp 8 []))))))), [(.arr 36 3 (List.length r24_4) (flatD enc_GChange r24_4))], 0⟩ ?_
   refine AWP.block ?_
   refine AWP.loopI (α := Nat × (List GChange) × Int)
     (fun x => match x with | (fu_6, y6_6, y27_6) => (⟨(tp 6 ((.own 0) :: (tp 18 ((.l (encL enc_GChange) p0) :: ((.i ((List.length p0 : Nat) : Int)) :: ((.i y27_6) :: (tp 8 []))))))), [(.arr 36 3 (List.length y6_6) (flatD enc_GChange y6_6))], 0⟩ : St))
     (fun x => match x with | (fu_6, y6_6, y27_6) => m_slices_Concat_Change_l6 p0 fu_6 y6_6 y27_6 = some r)
     (fun x => match x with | (fu_6, y6_6, y27_6) => fu_6) (1152921504606846976, r24_4, 0)
     (Weak.toK 234881088 0 0 [0]) hm ?_
   rintro ⟨fu_6, y6_6, y27_6⟩ n_6 hm ih_6
   try dsimp only at hm ih_6 ⊢
   cases fu_6 with
   | zero => exact absurd hm (by unfold m_slices_Concat_Change_l6; simp)
   | succ fu_6 =>
    unfold m_slices_Concat_Change_l6 at hm
    refine AWP.seq ?_
    refine AWP.text ?_
    refine Wy (.b (decide (y27_6 < ((List.length p0 : Nat) : Int)))) [] (Obn rfl (fun _ => hb_lss (k := .i64))) ?_
    refine Walk.nil ?_
    refine Then.normal ?_
    refine Amk 503316544 1 ⟨(tp 6 ((.own 0) :: (tp 18 ((.l (encL enc_GChange) p0) :: ((.i ((List.length p0 : Nat) : Int)) :: ((.i y27_6) :: ((.b (decide (y27_6 < ((List.length p0 : Nat) : Int)))) :: (tp 7 [])))))))), [(.arr 36 3 (List.length y6_6) (flatD enc_GChange y6_6))], 0⟩ ?_
    refine AWP.seq ?_
    rcases tf_ (decide (y27_6 < ((List.length p0 : Nat) : Int))) with hc28_11 | hc28_11
    ·
     replace hm := cT hc28_11 hm
     refine AWP.if_ true (Eq.trans (by kernel_rfl) (lit_tf (b := decide (y27_6 < ((List.length p0 : Nat) : Int))) hc28_11)) ?_
     refine AWP.skip ?_
     refine Then.normal ?_
     refine Amk 234881088 1 ⟨(tp 6 ((.own 0) :: (tp 18 ((.l (encL enc_GChange) p0) :: ((.i ((List.length p0 : Nat) : Int)) :: ((.i y27_6) :: (tp 8 []))))))), [(.arr 36 3 (List.length y6_6) (flatD enc_GChange y6_6))], 0⟩ ?_
     refine AWP.seq ?_
     refine AWP.block ?_
     refine AWP.seq ?_
     refine AWP.text ?_
     obtain ⟨x29_7, hx29_7, hm⟩ := bnd hm
     obtain ⟨hx29_7i, hx29_7g⟩ := geti_some hx29_7
     refine Wy (.d (.ref (List.drop ((Int.toNat y27_6) * 1) (flatD (encL enc_GChange) p0)))) [] (Oia rfl (encL_len (enc := enc_GChange)) hx29_7i hx29_7g) ?_
     refine Wy (.l enc_GChange x29_7) [] (Lf1 rfl (encL_len (enc := enc_GChange)) hx29_7g) ?_
     refine Wy (.l enc_GChange x29_7) [] (Omv rfl) ?_
     refine Walk.nil ?_
     refine Then.normal ?_
     refine Amk 234881344 1 ⟨(tp 6 ((.own 0) :: (tp 1 ((.l enc_GChange x29_7) :: (tp 16 ((.l (encL enc_GChange) p0) :: ((.i ((List.length p0 : Nat) : Int)) :: ((.i y27_6) :: (tp 8 []))))))))), [(.arr 36 3 (List.length y6_6) (flatD enc_GChange y6_6))], 0⟩ ?_
     refine AWP.text ?_
     refine Wy (.own 0) [] (Omv rfl) ?_
     refine Wy (.l enc_GChange x29_7) [] (Omv rfl) ?_
     obtain ⟨a33_8, ha33_8, hm⟩ := bnd hm; obtain ⟨ha33_8e, ha33_8l⟩ := app_some ha33_8
     refine Wy (.own 1) [(0, .gone), (1, (.arr 36 3 (List.length a33_8) (flatD enc_GChange a33_8)))] (Oap rfl elemOK_27 enc_GChange_len ha33_8e ha33_8l) ?_
     refine Wy (.own 1) [] (Omv rfl) ?_
     refine Walk.nil ?_
     refine InBlock.normal ?_
     refine Then.normal ?_
     refine Amk 234881088 2 ⟨(tp 6 ((.own 1) :: (tp 18 ((.l (encL enc_GChange) p0) :: ((.i ((List.length p0 : Nat) : Int)) :: ((.i y27_6) :: (tp 8 []))))))), [.gone, (.arr 36 3 (List.length a33_8) (flatD enc_GChange a33_8))], 0⟩ ?_
     refine AWP.text ?_
     refine Wy (.i (IntKind.i64.wrap (y27_6 + 1))) [] (Obn rfl (fun _ => hb_add (k := .i64))) ?_
     refine Wy (.i (IntKind.i64.wrap (y27_6 + 1))) [] (Omv rfl) ?_
     refine Walk.nil ?_
     refine RoundK.normal ?_
     exact Rounds.weak (Weak.toK 234881088 0 0 [1]) (ih_6 (fu_6, a33_8, (IntKind.i64.wrap (y27_6 + 1))) hm (Nat.lt_succ_self _))
    ·
     replace hm := cF hc28_11 hm
     refine AWP.if_ false (Eq.trans (by kernel_rfl) (lit_tf (b := decide (y27_6 < ((List.length p0 : Nat) : Int))) hc28_11)) ?_
     refine AWP.exit ?_
     refine Then.exit ?_
     refine RoundK.exit ?_
     refine InBlock.same ?_
     refine Then.normal ?_
     refine Amk 64 1 ⟨(tp 6 ((.own 0) :: (tp 29 []))), [(.arr 36 3 (List.length y6_6) (flatD enc_GChange y6_6))], 0⟩ ?_
     refine AWP.seq ?_
     refine AWP.text ?_
     refine Wy (.own 0) [] (Omv rfl) ?_
     refine Wy (.own 0) [] (Omv rfl) ?_
     refine Walk.nil ?_
     refine Then.normal ?_
     refine AWP.ret ?_
     obtain rfl := Option.some.inj hm
     exact ret_i [0]

set_option maxRecDepth 20000 in
set_option maxHeartbeats 4000000 in
theorem ok_tally_Merge (p0 : (List GChange)) (p1 : (List GChange)) (r : (List GChange)) (h : m_tally_Merge p0 p1 = some r) : GCall Try.prog 13 [(.l enc_GChange p0), (.l enc_GChange p1)] [] (.l enc_GChange r) [] := by
 refine GCall.of_body (n := 10) (rs := [(.tmp 4)]) Try.func13 rfl rfl rfl ?_
 refine Ato ⟨((.l enc_GChange p0) :: ((.l enc_GChange p1) :: (tu 8 []))), [], 0⟩ ?_
 have hm := h
 unfold m_tally_Merge at hm
 refine AWP.seq ?_
 refine AWP.text ?_
 refine Wy (.d .nil) [] (Omv rfl) ?_
 refine Walk.nil ?_
 refine Then.normal ?_
 refine Amk 3 0 ⟨((.l enc_GChange p0) :: ((.l enc_GChange p1) :: (tp 8 []))), [], 0⟩ ?_
 refine AWP.seq ?_
 refine AWP.text ?_
 refine Wy (.l enc_GChange p0) [] (Omv rfl) ?_
 refine Wy (.l enc_GChange p1) [] (Omv rfl) ?_
 refine Wy (.own 0) [(0, (.arr 27 1 (List.length ([p0, p1] : List (List GChange))) (flatD (encL enc_GChange) ([p0, p1] : List (List GChange)))))] (Obs rfl) ?_
 obtain ⟨r8_0, hr8_0, hm⟩ := bnd hm
 refine Wy (.own 1) [(1, (.arr 36 3 (List.length r8_0) (flatD enc_GChange r8_0)))] (Ocp [] [1] [0] 0 (ok_slices_Concat_Change ([p0, p1] : List (List GChange)) r8_0 hr8_0) (⟨by simp [A.Plain, A.Plains, D.Plain, byteD], plain_cons (flat_plain enc_GChange_plain) (plain_nil)⟩) (fun a w => Try.call30 a w) rfl trivial) ?_
 obtain ⟨r9_0, hr9_0, hm⟩ := bnd hm
 refine Wy (.l enc_GChange r9_0) [(1, (.fro 36 3 (List.length r8_0) (flatD enc_GChange r8_0)))] (Ocf [] [] [1] 0 (ok_tally_Normal r8_0 r9_0 hr9_0) (fun a w => Try.call11 a w) rfl trivial) ?_
 refine Wy (.l enc_GChange r9_0) [] (Omv rfl) ?_
 refine Walk.nil ?_
 refine Then.normal ?_
 refine AWP.ret ?_
 obtain rfl := Option.some.inj hm
 exact ret_i []

set_option maxRecDepth 20000 in
set_option maxHeartbeats 4000000 in
theorem ok_tally_Add (p0 : (List GChange)) (p1 : GChange) (r : (List GChange)) (h : m_tally_Add p0 p1 = some r) : GCall Try.prog 15 [(.l enc_GChange p0), (.agg [(.i p1.Loc), (.i p1.Time), (.i p1.N)])] [] (.l enc_GChange r) [] := by
 refine GCall.of_body (n := 9) (rs := [(.tmp 4)]) Try.func15 rfl rfl rfl ?_
 refine Ato ⟨((.l enc_GChange p0) :: ((.agg [(.i p1.Loc), (.i p1.Time), (.i p1.N)]) :: (tu 7 []))), [], 0⟩ ?_
 have hm := h
 unfold m_tally_Add at hm
 refine AWP.seq ?_
 refine AWP.text ?_
 refine Wy (.loc 0 0) [(0, (.box [(.i p1.Loc), (.i p1.Time), (.i p1.N)]))] (Obx rfl) ?_
 refine Wy (.d .nil) [] (Omv rfl) ?_
 refine Walk.nil ?_
 refine Then.normal ?_
 refine Amk 9 1 ⟨((.l enc_GChange p0) :: (tp 2 ((.loc 0 0) :: (tp 5 [])))), [(.box [(.i p1.Loc), (.i p1.Time), (.i p1.N)])], 0⟩ ?_
 refine AWP.seq ?_
 refine AWP.text ?_
 refine Wy (.l enc_GChange p0) [] (Omv rfl) ?_
 refine Wy (.agg [(.i p1.Loc), (.i p1.Time), (.i p1.N)]) [] (Old rfl) ?_
 refine Wy (.own 1) [(1, (.arr 36 3 (List.length ([p1] : List GChange)) (flatD enc_GChange ([p1] : List GChange))))] (Obs rfl) ?_
 obtain ⟨r8_0, hr8_0, hm⟩ := bnd hm
 refine Wy (.l enc_GChange r8_0) [(1, (.fro 36 3 (List.length ([p1] : List GChange)) (flatD enc_GChange ([p1] : List GChange))))] (Ocf [] [] [1] 0 (ok_tally_Merge p0 ([p1] : List GChange) r8_0 hr8_0) (fun a w => Try.call13 a w) rfl trivial) ?_
 refine Wy (.l enc_GChange r8_0) [] (Omv rfl) ?_
 refine Walk.nil ?_
 refine Then.normal ?_
 refine AWP.ret ?_
 obtain rfl := Option.some.inj hm
 exact ret_i []

set_option maxRecDepth 20000 in
set_option maxHeartbeats 4000000 in
theorem ok_slices_Equal_Change (p0 : (List GChange)) (p1 : (List GChange)) (r : Bool) (h : m_slices_Equal_Change p0 p1 = some r) : GCall Try.prog 31 [(.l enc_GChange p0), (.l enc_GChange p1)] [] (.b r) [] := by
 refine GCall.of_body (n := 26) (rs := [(.tmp 4)]) Try.func31 rfl rfl rfl ?_
 refine Ato ⟨((.l enc_GChange p0) :: ((.l enc_GChange p1) :: (tu 24 []))), [], 0⟩ ?_
 have hm := h
 unfold m_slices_Equal_Change at hm
 refine AWP.seq ?_
 refine AWP.text ?_
 refine Wy (.b false) [] (Omv rfl) ?_
 refine Walk.nil ?_
 refine Then.normal ?_
 refine Amk 3 0 ⟨((.l enc_GChange p0) :: ((.l enc_GChange p1) :: (tp 24 []))), [], 0⟩ ?_
 refine AWP.seq ?_
 refine AWP.seq ?_
 refine AWP.text ?_
 refine Wy (.l enc_GChange p0) [] (Omv rfl) ?_
 refine Wy (.i ((List.length p0 : Nat) : Int)) [] (Oln rfl) ?_
 refine Wy (.l enc_GChange p1) [] (Omv rfl) ?_
 refine Wy (.i ((List.length p1 : Nat) : Int)) [] (Oln rfl) ?_
 refine Wy (.b (decide (((List.length p0 : Nat) : Int) ≠ ((List.length p1 : Nat) : Int)))) [] (Obn rfl (fun _ => hb_neq (k := .i64))) ?_
 refine Walk.nil ?_
 refine Then.normal ?_
 refine Amk 1027 0 ⟨((.l enc_GChange p0) :: ((.l enc_GChange p1) :: (tp 8 ((.b (decide (((List.length p0 : Nat) : Int) ≠ ((List.length p1 : Nat) : Int)))) :: (tp 15 []))))), [], 0⟩ ?_
 rcases tf_ (decide (((List.length p0 : Nat) : Int) ≠ ((List.length p1 : Nat) : Int))) with hc10_4 | hc10_4
 ·
  replace hm := cT hc10_4 hm
  refine AWP.if_ true (Eq.trans (by kernel_rfl) (lit_tf (b := decide (((List.length p0 : Nat) : Int) ≠ ((List.length p1 : Nat) : Int))) hc10_4)) ?_
  refine AWP.seq ?_
  refine AWP.text ?_
  refine Wy (.b false) [] (Omv rfl) ?_
  refine Walk.nil ?_
  refine Then.normal ?_
  refine AWP.ret ?_
  refine Then.ret ?_
  obtain rfl := Option.some.inj hm
  exact ret_i []
 ·
  replace hm := cF hc10_4 hm
  refine AWP.if_ false (Eq.trans (by kernel_rfl) (lit_tf (b := decide (((List.length p0 : Nat) : Int) ≠ ((List.length p1 : Nat) : Int))) hc10_4)) ?_
  refine AWP.skip ?_
  refine Then.normal ?_
  refine Amk 3 0 ⟨((.l enc_GChange p0) :: ((.l enc_GChange p1) :: (tp 24 []))), [], 0⟩ ?_
  refine AWP.seq ?_
  refine AWP.seq ?_
  refine AWP.text ?_
  refine Wy (.l enc_GChange p0) [] (Omv rfl) ?_
  refine Wy (.i ((List.length p0 : Nat) : Int)) [] (Oln rfl) ?_
  refine Wy (.i 0) [] (Omv rfl) ?_
  refine Walk.nil ?_
  refine Then.normal ?_
  refine Amk 12291 0 ⟨((.l enc_GChange p0) :: ((.l enc_GChange p1) :: (tp 10 ((.i ((List.length p0 : Nat) : Int)) :: ((.i 0) :: (tp 12 [])))))), [], 0⟩ ?_
  refine AWP.block ?_
  refine AWP.loopI (α := Nat × Int)
    (fun x => match x with | (fu_2, y13_2) => (⟨((.l enc_GChange p0) :: ((.l enc_GChange p1) :: (tp 10 ((.i ((List.length p0 : Nat) : Int)) :: ((.i y13_2) :: (tp 12 [])))))), [], 0⟩ : St))
    (fun x => match x with | (fu_2, y13_2) => m_slices_Equal_Change_l2 p0 p1 fu_2 y13_2 = some r)
    (fun x => match x with | (fu_2, y13_2) => fu_2) (1152921504606846976, 0)
    (Weak.toK 12291 0 0 []) hm ?_
  rintro ⟨fu_2, y13_2⟩ n_2 hm ih_2
  try dsimp only at hm ih_2 ⊢
  cases fu_2 with
  | zero => exact absurd hm (by unfold m_slices_Equal_Change_l2; simp)
  | succ fu_2 =>
   unfold m_slices_Equal_Change_l2 at hm
   refine AWP.seq ?_
   refine AWP.text ?_
   refine Wy (.b (decide (y13_2 < ((List.length p0 : Nat) : Int)))) [] (Obn rfl (fun _ => hb_lss (k := .i64))) ?_
   refine Walk.nil ?_
   refine Then.normal ?_
   refine Amk 28675 0 ⟨((.l enc_GChange p0) :: ((.l enc_GChange p1) :: (tp 10 ((.i ((List.length p0 : Nat) : Int)) :: ((.i y13_2) :: ((.b (decide (y13_2 < ((List.length p0 : Nat) : Int)))) :: (tp 11 []))))))), [], 0⟩ ?_
   refine AWP.seq ?_
   rcases tf_ (decide (y13_2 < ((List.length p0 : Nat) : Int))) with hc14_5 | hc14_5
   ·
    replace hm := cT hc14_5 hm
    refine AWP.if_ true (Eq.trans (by kernel_rfl) (lit_tf (b := decide (y13_2 < ((List.length p0 : Nat) : Int))) hc14_5)) ?_
    refine AWP.skip ?_
    refine Then.normal ?_
    refine Amk 12291 0 ⟨((.l enc_GChange p0) :: ((.l enc_GChange p1) :: (tp 10 ((.i ((List.length p0 : Nat) : Int)) :: ((.i y13_2) :: (tp 12 [])))))), [], 0⟩ ?_
    refine AWP.seq ?_
    refine AWP.block ?_
    refine AWP.seq ?_
    refine AWP.text ?_
    refine Wy (.i y13_2) [] (Omv rfl) ?_
    refine Wy (.i y13_2) [] (Omv rfl) ?_
    refine Walk.nil ?_
    refine Then.normal ?_
    refine Amk 12323 0 ⟨((.l enc_GChange p0) :: ((.l enc_GChange p1) :: (tp 3 ((.i y13_2) :: (tp 6 ((.i ((List.length p0 : Nat) : Int)) :: ((.i y13_2) :: (tp 12 [])))))))), [], 0⟩ ?_
    refine AWP.seq ?_
    refine Adr ?_
    refine Wy (.l enc_GChange p0) [] (Omv rfl) ?_
    refine Wy (.i y13_2) [] (Omv rfl) ?_
    obtain ⟨x18_3, hx18_3, hm⟩ := bnd hm
    obtain ⟨hx18_3i, hx18_3g⟩ := geti_some hx18_3
    refine Wy (.d (.ref (List.drop ((Int.toNat y13_2) * 3) (flatD enc_GChange p0)))) [] (Oia rfl enc_GChange_len hx18_3i hx18_3g) ?_
    refine Wy (.agg [(.i x18_3.Loc), (.i x18_3.Time), (.i x18_3.N)]) [] (Lf rfl enc_GChange_len hx18_3g) ?_
    refine Wy (.l enc_GChange p1) [] (Omv rfl) ?_
    refine Wy (.i y13_2) [] (Omv rfl) ?_
    obtain ⟨x22_3, hx22_3, hm⟩ := bnd hm
    obtain ⟨hx22_3i, hx22_3g⟩ := geti_some hx22_3
    refine Wy (.d (.ref (List.drop ((Int.toNat y13_2) * 3) (flatD enc_GChange p1)))) [] (Oia rfl enc_GChange_len hx22_3i hx22_3g) ?_
    refine Wy (.agg [(.i x22_3.Loc), (.i x22_3.Time), (.i x22_3.N)]) [] (Lf rfl enc_GChange_len hx22_3g) ?_
    obtain ⟨v24_3, hv24_3, hm⟩ := bnd hm; replace hv24_3 := Option.some.inj hv24_3
    refine Wy (.b v24_3) [] (Ocs (Eq.trans (by kernel_rfl) (congrArg (fun z => A.d (.lit (.bool z))) hv24_3)) (op_neq_struct rfl (la := [(.i x18_3.Loc), (.i x18_3.Time), (.i x18_3.N)]) (lb := [(.i x22_3.Loc), (.i x22_3.Time), (.i x22_3.N)]) (us := [.int .i64 x18_3.Loc, .int .i64 x18_3.Time, .int .i64 x18_3.N]) (vs := [.int .i64 x22_3.Loc, .int .i64 x22_3.Time, .int .i64 x22_3.N]) (r := (decide (x18_3.Loc = x22_3.Loc) && (decide (x18_3.Time = x22_3.Time) && (decide (x18_3.N = x22_3.N) && true)))) (by kernel_rfl) (by kernel_rfl) (by kernel_rfl) (by kernel_rfl) (by kernel_rfl))) ?_
    refine Wdr ?_
    refine Then.normal ?_
    refine Amk 16789507 0 ⟨((.l enc_GChange p0) :: ((.l enc_GChange p1) :: (tp 10 ((.i ((List.length p0 : Nat) : Int)) :: ((.i y13_2) :: (tp 10 ((.b v24_3) :: (tp 1 [])))))))), [], 0⟩ ?_
    rcases tf_ v24_3 with hc24_6 | hc24_6
    ·
     replace hm := cT hc24_6 hm
     refine AWP.if_ true (Eq.trans (by kernel_rfl) (lit_tf (b := v24_3) hc24_6)) ?_
     refine AWP.seq ?_
     refine AWP.text ?_
     refine Wy (.b false) [] (Omv rfl) ?_
     refine Walk.nil ?_
     refine Then.normal ?_
     refine AWP.ret ?_
     refine InBlock.ret ?_
     refine Then.ret ?_
     refine RoundK.ret ?_
     refine InBlock.ret ?_
     refine Then.ret ?_
     obtain rfl := Option.some.inj hm
     exact ret_i []
    ·
     replace hm := cF hc24_6 hm
     refine AWP.if_ false (Eq.trans (by kernel_rfl) (lit_tf (b := v24_3) hc24_6)) ?_
     refine AWP.skip ?_
     refine InBlock.normal ?_
     refine Then.normal ?_
     refine Amk 12291 0 ⟨((.l enc_GChange p0) :: ((.l enc_GChange p1) :: (tp 10 ((.i ((List.length p0 : Nat) : Int)) :: ((.i y13_2) :: (tp 12 [])))))), [], 0⟩ ?_
     refine AWP.text ?_
     refine Wy (.i (IntKind.i64.wrap (y13_2 + 1))) [] (Obn rfl (fun _ => hb_add (k := .i64))) ?_
     refine Wy (.i (IntKind.i64.wrap (y13_2 + 1))) [] (Omv rfl) ?_
     refine Walk.nil ?_
     refine RoundK.normal ?_
     exact Rounds.weak (Weak.toK 12291 0 0 []) (ih_2 (fu_2, (IntKind.i64.wrap (y13_2 + 1))) hm (Nat.lt_succ_self _))
   ·
    replace hm := cF hc14_5 hm
    refine AWP.if_ false (Eq.trans (by kernel_rfl) (lit_tf (b := decide (y13_2 < ((List.length p0 : Nat) : Int))) hc14_5)) ?_
    refine AWP.exit ?_
    refine Then.exit ?_
    refine RoundK.exit ?_
    refine InBlock.same ?_
    refine Then.normal ?_
    refine Amk 0 0 ⟨(tp 26 []), [], 0⟩ ?_
    refine AWP.seq ?_
    refine AWP.text ?_
    refine Wy (.b true) [] (Omv rfl) ?_
    refine Walk.nil ?_
    refine Then.normal ?_
    refine AWP.ret ?_
    obtain rfl := Option.some.inj hm
    exact ret_i []

set_option maxRecDepth 20000 in
set_option maxHeartbeats 4000000 in
theorem ok_tally_Same (p0 : (List GChange)) (p1 : (List GChange)) (r : Bool) (h : m_tally_Same p0 p1 = some r) : GCall Try.prog 20 [(.l enc_GChange p0), (.l enc_GChange p1)] [] (.b r) [] := by
 refine GCall.of_body (n := 8) (rs := [(.tmp 4)]) Try.func20 rfl rfl rfl ?_
 refine Ato ⟨((.l enc_GChange p0) :: ((.l enc_GChange p1) :: (tu 6 []))), [], 0⟩ ?_
 have hm := h
 unfold m_tally_Same at hm
 refine AWP.seq ?_
 refine AWP.text ?_
 refine Wy (.b false) [] (Omv rfl) ?_
 refine Walk.nil ?_
 refine Then.normal ?_
 refine Amk 3 0 ⟨((.l enc_GChange p0) :: ((.l enc_GChange p1) :: (tp 6 []))), [], 0⟩ ?_
 refine AWP.seq ?_
 refine AWP.text ?_
 refine Wy (.l enc_GChange p0) [] (Omv rfl) ?_
 refine Wy (.l enc_GChange p1) [] (Omv rfl) ?_
 obtain ⟨r7_0, hr7_0, hm⟩ := bnd hm
 refine Wy (.b r7_0) [] (Ocf [] [] [] 0 (ok_slices_Equal_Change p0 p1 r7_0 hr7_0) (fun a w => Try.call31 a w) rfl trivial) ?_
 refine Wy (.b r7_0) [] (Omv rfl) ?_
 refine Walk.nil ?_
 refine Then.normal ?_
 refine AWP.ret ?_
 obtain rfl := Option.some.inj hm
 exact ret_i []

set_option maxRecDepth 20000 in
set_option maxHeartbeats 4000000 in
theorem ok_tally_At (p0 : (List GChange)) (p1 : Int) (p2 : Int) (r : Int) (h : m_tally_At p0 p1 p2 = some r) : GCall Try.prog 18 [(.l enc_GChange p0), (.i p1), (.i p2)] [] (.i r) [] := by
 refine GCall.of_body (n := 32) (rs := [(.tmp 6)]) Try.func18 rfl rfl rfl ?_
 refine Ato ⟨((.l enc_GChange p0) :: ((.i p1) :: ((.i p2) :: (tu 29 [])))), [], 0⟩ ?_
 have hm := h
 unfold m_tally_At at hm
 refine AWP.seq ?_
 refine AWP.text ?_
 refine Wy (.i 0) [] (Omv rfl) ?_
 refine Walk.nil ?_
 refine Then.normal ?_
 refine Amk 7 0 ⟨((.l enc_GChange p0) :: ((.i p1) :: ((.i p2) :: (tp 29 [])))), [], 0⟩ ?_
 refine AWP.seq ?_
 refine AWP.text ?_
 refine Wy (.i 0) [] (Omv rfl) ?_
 refine Walk.nil ?_
 refine Then.normal ?_
 refine Amk 135 0 ⟨((.l enc_GChange p0) :: ((.i p1) :: ((.i p2) :: (tp 4 ((.i 0) :: (tp 24 [])))))), [], 0⟩ ?_
 refine AWP.seq ?_
 refine AWP.seq ?_
 refine AWP.text ?_
 refine Wy (.l enc_GChange p0) [] (Omv rfl) ?_
 refine Wy (.i ((List.length p0 : Nat) : Int)) [] (Oln rfl) ?_
 refine Wy (.i 0) [] (Omv rfl) ?_
 refine Walk.nil ?_
 refine Then.normal ?_
 refine Amk 7302 0 ⟨(tp 1 ((.i p1) :: ((.i p2) :: (tp 4 ((.i 0) :: (tp 2 ((.l enc_GChange p0) :: ((.i ((List.length p0 : Nat) : Int)) :: ((.i 0) :: (tp 19 [])))))))))), [], 0⟩ ?_
 refine AWP.block ?_
 refine AWP.loopI (α := Nat × Int × Int)
   (fun x => match x with | (fu_1, y7_1, y12_1) => (⟨(tp 1 ((.i p1) :: ((.i p2) :: (tp 4 ((.i y7_1) :: (tp 2 ((.l enc_GChange p0) :: ((.i ((List.length p0 : Nat) : Int)) :: ((.i y12_1) :: (tp 19 [])))))))))), [], 0⟩ : St))
   (fun x => match x with | (fu_1, y7_1, y12_1) => m_tally_At_l1 p0 p1 p2 fu_1 y7_1 y12_1 = some r)
   (fun x => match x with | (fu_1, y7_1, y12_1) => fu_1) (1152921504606846976, 0, 0)
   (Weak.toK 7302 0 0 []) hm ?_
 rintro ⟨fu_1, y7_1, y12_1⟩ n_1 hm ih_1
 try dsimp only at hm ih_1 ⊢
 cases fu_1 with
 | zero => exact absurd hm (by unfold m_tally_At_l1; simp)
 | succ fu_1 =>
  unfold m_tally_At_l1 at hm
  refine AWP.seq ?_
  refine AWP.text ?_
  refine Wy (.b (decide (y12_1 < ((List.length p0 : Nat) : Int)))) [] (Obn rfl (fun _ => hb_lss (k := .i64))) ?_
  refine Walk.nil ?_
  refine Then.normal ?_
  refine Amk 15494 0 ⟨(tp 1 ((.i p1) :: ((.i p2) :: (tp 4 ((.i y7_1) :: (tp 2 ((.l enc_GChange p0) :: ((.i ((List.length p0 : Nat) : Int)) :: ((.i y12_1) :: ((.b (decide (y12_1 < ((List.length p0 : Nat) : Int)))) :: (tp 18 []))))))))))), [], 0⟩ ?_
  refine AWP.seq ?_
  rcases tf_ (decide (y12_1 < ((List.length p0 : Nat) : Int))) with hc13_4 | hc13_4
  ·
   replace hm := cT hc13_4 hm
   refine AWP.if_ true (Eq.trans (by kernel_rfl) (lit_tf (b := decide (y12_1 < ((List.length p0 : Nat) : Int))) hc13_4)) ?_
   refine AWP.skip ?_
   refine Then.normal ?_
   refine Amk 7302 0 ⟨(tp 1 ((.i p1) :: ((.i p2) :: (tp 4 ((.i y7_1) :: (tp 2 ((.l enc_GChange p0) :: ((.i ((List.length p0 : Nat) : Int)) :: ((.i y12_1) :: (tp 19 [])))))))))), [], 0⟩ ?_
   refine AWP.seq ?_
   refine AWP.block ?_
   refine AWP.seq ?_
   refine AWP.text ?_
   obtain ⟨x14_2, hx14_2, hm⟩ := bnd hm
   obtain ⟨hx14_2i, hx14_2g⟩ := geti_some hx14_2
   refine Wy (.d (.ref (List.drop ((Int.toNat y12_1) * 3) (flatD enc_GChange p0)))) [] (Oia rfl enc_GChange_len hx14_2i hx14_2g) ?_
   refine Wy (.agg [(.i x14_2.Loc), (.i x14_2.Time), (.i x14_2.N)]) [] (Lf rfl enc_GChange_len hx14_2g) ?_
   refine Wy (.loc 0 0) [(0, (.box [(.i 0), (.i 0), (.i 0)]))] (Oal rfl) ?_
   refine Wy (.tup []) [(0, (.box [(.i x14_2.Loc), (.i x14_2.Time), (.i x14_2.N)]))] (Ost rfl) ?_
   refine Walk.nil ?_
   refine Then.normal ?_
   refine Amk 7814 1 ⟨(tp 1 ((.i p1) :: ((.i p2) :: (tp 4 ((.i y7_1) :: (tp 1 ((.loc 0 0) :: ((.l enc_GChange p0) :: ((.i ((List.length p0 : Nat) : Int)) :: ((.i y12_1) :: (tp 19 []))))))))))), [(.box [(.i x14_2.Loc), (.i x14_2.Time), (.i x14_2.N)])], 0⟩ ?_
   refine AWP.seq ?_
   refine AWP.text ?_
   refine Wy (.loc 0 0) [] (Ofa rfl) ?_
   refine Wy (.i x14_2.Loc) [] (Old rfl) ?_
   refine Wy (.i p1) [] (Omv rfl) ?_
   refine Wy (.b (decide (x14_2.Loc = p1))) [] (Obn rfl (fun _ => hb_eql (k := .i64))) ?_
   rcases tf_ (decide (x14_2.Loc = p1)) with hq20_3 | hq20_3
   ·
    replace hm := cT hq20_3 hm
    refine Wy (.b true) [] (Ocs (lit_tf (b := decide (x14_2.Loc = p1)) hq20_3) (Omv rfl)) ?_
    refine Wy (.loc 0 1) [] (Ofa rfl) ?_
    refine Wy (.i x14_2.Time) [] (Old rfl) ?_
    refine Wy (.i p2) [] (Omv rfl) ?_
    refine Wy (.b (decide (x14_2.Time = p2))) [] (Obn rfl (fun _ => hb_eql (k := .i64))) ?_
    refine Wy (.b (decide (x14_2.Time = p2))) [] (OpT rfl) ?_
    refine Walk.nil ?_
    refine Then.normal ?_
    refine Amk 33562246 1 ⟨(tp 1 ((.i p1) :: ((.i p2) :: (tp 4 ((.i y7_1) :: (tp 1 ((.loc 0 0) :: ((.l enc_GChange p0) :: ((.i ((List.length p0 : Nat) : Int)) :: ((.i y12_1) :: (tp 12 ((.b (decide (x14_2.Time = p2))) :: (tp 6 []))))))))))))), [(.box [(.i x14_2.Loc), (.i x14_2.Time), (.i x14_2.N)])], 0⟩ ?_
    rcases tf_ (decide (x14_2.Time = p2)) with hc25_5 | hc25_5
    ·
     replace hm := cT hc25_5 hm
     refine AWP.if_ true (Eq.trans (by kernel_rfl) (lit_tf (b := decide (x14_2.Time = p2)) hc25_5)) ?_
     refine AWP.text ?_
     refine Wy (.i y7_1) [] (Omv rfl) ?_
     refine Wy (.loc 0 2) [] (Ofa rfl) ?_
     refine Wy (.i x14_2.N) [] (Old rfl) ?_
     refine Wy (.i (IntKind.i64.wrap (y7_1 + x14_2.N))) [] (Obn rfl (fun _ => hb_add (k := .i64))) ?_
     refine Wy (.i (IntKind.i64.wrap (y7_1 + x14_2.N))) [] (Omv rfl) ?_
     refine Walk.nil ?_
     refine InBlock.normal ?_
     refine Then.normal ?_
     refine Amk 7302 0 ⟨(tp 1 ((.i p1) :: ((.i p2) :: (tp 4 ((.i (IntKind.i64.wrap (y7_1 + x14_2.N))) :: (tp 2 ((.l enc_GChange p0) :: ((.i ((List.length p0 : Nat) : Int)) :: ((.i y12_1) :: (tp 19 [])))))))))), [.gone], 0⟩ ?_
     refine AWP.text ?_
     refine Wy (.i (IntKind.i64.wrap (y12_1 + 1))) [] (Obn rfl (fun _ => hb_add (k := .i64))) ?_
     refine Wy (.i (IntKind.i64.wrap (y12_1 + 1))) [] (Omv rfl) ?_
     refine Walk.nil ?_
     refine RoundK.normal ?_
     exact Rounds.weak (Weak.toK 7302 0 0 []) (ih_1 (fu_1, (IntKind.i64.wrap (y7_1 + x14_2.N)), (IntKind.i64.wrap (y12_1 + 1))) hm (Nat.lt_succ_self _))
    ·
     replace hm := cF hc25_5 hm
     refine AWP.if_ false (Eq.trans (by kernel_rfl) (lit_tf (b := decide (x14_2.Time = p2)) hc25_5)) ?_
     refine AWP.skip ?_
     refine InBlock.normal ?_
     refine Then.normal ?_
     refine Amk 7302 0 ⟨(tp 1 ((.i p1) :: ((.i p2) :: (tp 4 ((.i y7_1) :: (tp 2 ((.l enc_GChange p0) :: ((.i ((List.length p0 : Nat) : Int)) :: ((.i y12_1) :: (tp 19 [])))))))))), [.gone], 0⟩ ?_
     refine AWP.text ?_
     refine Wy (.i (IntKind.i64.wrap (y12_1 + 1))) [] (Obn rfl (fun _ => hb_add (k := .i64))) ?_
     refine Wy (.i (IntKind.i64.wrap (y12_1 + 1))) [] (Omv rfl) ?_
     refine Walk.nil ?_
     refine RoundK.normal ?_
     exact Rounds.weak (Weak.toK 7302 0 0 []) (ih_1 (fu_1, y7_1, (IntKind.i64.wrap (y12_1 + 1))) hm (Nat.lt_succ_self _))
   ·
    replace hm := cF hq20_3 hm
    refine Wy (.b false) [] (Ocs (lit_tf (b := decide (x14_2.Loc = p1)) hq20_3) (Omv rfl)) ?_
    refine Wn ?_
    refine Wn ?_
    refine Wn ?_
    refine Wn ?_
    refine Wy (.b false) [] (OpF rfl) ?_
    refine Walk.nil ?_
    refine Then.normal ?_
    refine Amk 33562246 1 ⟨(tp 1 ((.i p1) :: ((.i p2) :: (tp 4 ((.i y7_1) :: (tp 1 ((.loc 0 0) :: ((.l enc_GChange p0) :: ((.i ((List.length p0 : Nat) : Int)) :: ((.i y12_1) :: (tp 12 ((.b false) :: (tp 6 []))))))))))))), [(.box [(.i x14_2.Loc), (.i x14_2.Time), (.i x14_2.N)])], 0⟩ ?_
    refine AWP.if_ false (by kernel_rfl) ?_
    refine AWP.skip ?_
    refine InBlock.normal ?_
    refine Then.normal ?_
    refine Amk 7302 0 ⟨(tp 1 ((.i p1) :: ((.i p2) :: (tp 4 ((.i y7_1) :: (tp 2 ((.l enc_GChange p0) :: ((.i ((List.length p0 : Nat) : Int)) :: ((.i y12_1) :: (tp 19 [])))))))))), [.gone], 0⟩ ?_
    refine AWP.text ?_
    refine Wy (.i (IntKind.i64.wrap (y12_1 + 1))) [] (Obn rfl (fun _ => hb_add (k := .i64))) ?_
    refine Wy (.i (IntKind.i64.wrap (y12_1 + 1))) [] (Omv rfl) ?_
    refine Walk.nil ?_
    refine RoundK.normal ?_
    exact Rounds.weak (Weak.toK 7302 0 0 []) (ih_1 (fu_1, y7_1, (IntKind.i64.wrap (y12_1 + 1))) hm (Nat.lt_succ_self _))
  ·
   replace hm := cF hc13_4 hm
   refine AWP.if_ false (Eq.trans (by kernel_rfl) (lit_tf (b := decide (y12_1 < ((List.length p0 : Nat) : Int))) hc13_4)) ?_
   refine AWP.exit ?_
   refine Then.exit ?_
   refine RoundK.exit ?_
   refine InBlock.same ?_
   refine Then.normal ?_
   refine Amk 128 0 ⟨(tp 7 ((.i y7_1) :: (tp 24 []))), [], 0⟩ ?_
   refine AWP.seq ?_
   refine AWP.text ?_
   refine Wy (.i y7_1) [] (Omv rfl) ?_
   refine Wy (.i y7_1) [] (Omv rfl) ?_
   refine Walk.nil ?_
   refine Then.normal ?_
   refine AWP.ret ?_
   obtain rfl := Option.some.inj hm
   exact ret_i []

set_option maxRecDepth 20000 in
set_option maxHeartbeats 4000000 in
theorem ok_tally_Neg (p0 : (List GChange)) (r : (List GChange)) (h : m_tally_Neg p0 = some r) : GCall Try.prog 16 [(.l enc_GChange p0)] [] (.l enc_GChange r) [] := by
 refine GCall.of_body (n := 23) (rs := [(.tmp 2)]) Try.func16 rfl rfl rfl ?_
 refine Ato ⟨((.l enc_GChange p0) :: (tu 22 [])), [], 0⟩ ?_
 have hm := h
 unfold m_tally_Neg at hm
 refine AWP.seq ?_
 refine AWP.text ?_
 refine Wy (.d .nil) [] (Omv rfl) ?_
 refine Walk.nil ?_
 refine Then.normal ?_
 refine Amk 1 0 ⟨((.l enc_GChange p0) :: (tp 22 [])), [], 0⟩ ?_
 refine AWP.seq ?_
 refine AWP.text ?_
 refine Wy (.d .nil) [] (Omv rfl) ?_
 refine Walk.nil ?_
 refine Then.normal ?_
 refine Amk 9 0 ⟨((.l enc_GChange p0) :: (tp 2 ((.d .nil) :: (tp 19 [])))), [], 0⟩ ?_
 refine AWP.seq ?_
 refine AWP.seq ?_
 refine AWP.text ?_
 refine Wy (.l enc_GChange p0) [] (Omv rfl) ?_
 refine Wy (.i ((List.length p0 : Nat) : Int)) [] (Oln rfl) ?_
 refine Wy (.i 0) [] (Omv rfl) ?_
 refine Walk.nil ?_
 refine Then.normal ?_
 refine Amk 456 0 ⟨(tp 3 ((.d .nil) :: (tp 2 ((.l enc_GChange p0) :: ((.i ((List.length p0 : Nat) : Int)) :: ((.i 0) :: (tp 14 []))))))), [], 0⟩ ?_
 refine AWP.block ?_
 refine Aow 3 36 3 ⟨(tp 3 ((.own 0) :: (tp 2 ((.l enc_GChange p0) :: ((.i ((List.length p0 : Nat) : Int)) :: ((.i 0) :: (tp 14 []))))))), [(.arr 36 3 (List.length ([] : List GChange)) (flatD enc_GChange ([] : List GChange)))], 0⟩ ?_
 refine AWP.loopI (α := Nat × (List GChange) × Int)
   (fun x => match x with | (fu_1, y3_1, y8_1) => (⟨(tp 3 ((.own 0) :: (tp 2 ((.l enc_GChange p0) :: ((.i ((List.length p0 : Nat) : Int)) :: ((.i y8_1) :: (tp 14 []))))))), [(.arr 36 3 (List.length y3_1) (flatD enc_GChange y3_1))], 0⟩ : St))
   (fun x => match x with | (fu_1, y3_1, y8_1) => m_tally_Neg_l1 p0 fu_1 y3_1 y8_1 = some r)
   (fun x => match x with | (fu_1, y3_1, y8_1) => fu_1) (1152921504606846976, ([] : List GChange), 0)
   (Weak.toK 456 0 0 [0]) hm ?_
 rintro ⟨fu_1, y3_1, y8_1⟩ n_1 hm ih_1
 try dsimp only at hm ih_1 ⊢
 cases fu_1 with
 | zero => exact absurd hm (by unfold m_tally_Neg_l1; simp)
 | succ fu_1 =>
  unfold m_tally_Neg_l1 at hm
  refine AWP.seq ?_
  refine AWP.text ?_
  refine Wy (.b (decide (y8_1 < ((List.length p0 : Nat) : Int)))) [] (Obn rfl (fun _ => hb_lss (k := .i64))) ?_
  refine Walk.nil ?_
  refine Then.normal ?_
  refine Amk 968 1 ⟨(tp 3 ((.own 0) :: (tp 2 ((.l enc_GChange p0) :: ((.i ((List.length p0 : Nat) : Int)) :: ((.i y8_1) :: ((.b (decide (y8_1 < ((List.length p0 : Nat) : Int)))) :: (tp 13 [])))))))), [(.arr 36 3 (List.length y3_1) (flatD enc_GChange y3_1))], 0⟩ ?_
  refine AWP.seq ?_
  rcases tf_ (decide (y8_1 < ((List.length p0 : Nat) : Int))) with hc9_5 | hc9_5
  ·
   replace hm := cT hc9_5 hm
   refine AWP.if_ true (Eq.trans (by kernel_rfl) (lit_tf (b := decide (y8_1 < ((List.length p0 : Nat) : Int))) hc9_5)) ?_
   refine AWP.skip ?_
   refine Then.normal ?_
   refine Amk 456 1 ⟨(tp 3 ((.own 0) :: (tp 2 ((.l enc_GChange p0) :: ((.i ((List.length p0 : Nat) : Int)) :: ((.i y8_1) :: (tp 14 []))))))), [(.arr 36 3 (List.length y3_1) (flatD enc_GChange y3_1))], 0⟩ ?_
   refine AWP.seq ?_
   refine AWP.block ?_
   refine AWP.seq ?_
   refine AWP.text ?_
   obtain ⟨x10_2, hx10_2, hm⟩ := bnd hm
   obtain ⟨hx10_2i, hx10_2g⟩ := geti_some hx10_2
   refine Wy (.d (.ref (List.drop ((Int.toNat y8_1) * 3) (flatD enc_GChange p0)))) [] (Oia rfl enc_GChange_len hx10_2i hx10_2g) ?_
   refine Wy (.agg [(.i x10_2.Loc), (.i x10_2.Time), (.i x10_2.N)]) [] (Lf rfl enc_GChange_len hx10_2g) ?_
   refine Wy (.loc 1 0) [(1, (.box [(.i 0), (.i 0), (.i 0)]))] (Oal rfl) ?_
   refine Wy (.tup []) [(1, (.box [(.i x10_2.Loc), (.i x10_2.Time), (.i x10_2.N)]))] (Ost rfl) ?_
   refine Walk.nil ?_
   refine Then.normal ?_
   refine Amk 488 3 ⟨(tp 3 ((.own 0) :: (tp 1 ((.loc 1 0) :: ((.l enc_GChange p0) :: ((.i ((List.length p0 : Nat) : Int)) :: ((.i y8_1) :: (tp 14 [])))))))), [(.arr 36 3 (List.length y3_1) (flatD enc_GChange y3_1)), (.box [(.i x10_2.Loc), (.i x10_2.Time), (.i x10_2.N)])], 0⟩ ?_
   refine AWP.seq ?_
   refine AWP.text ?_
   refine Wy (.loc 1 2) [] (Ofa rfl) ?_
   refine Wy (.i x10_2.N) [] (Old rfl) ?_
   refine Wy (.i (IntKind.i64.wrap (0 - x10_2.N))) [] (Ocs (by kernel_rfl) (op_un rfl (a1 := .int .i64 x10_2.N) (by kernel_rfl) (fun _ => hu_neg))) ?_
   refine Wy (.loc 1 2) [] (Ofa rfl) ?_
   refine Wy (.tup []) [(1, (.box [(.i x10_2.Loc), (.i x10_2.Time), (.i (IntKind.i64.wrap (0 - x10_2.N)))]))] (Ost rfl) ?_
   refine Walk.nil ?_
   refine Then.normal ?_
   refine Amk 488 3 ⟨(tp 3 ((.own 0) :: (tp 1 ((.loc 1 0) :: ((.l enc_GChange p0) :: ((.i ((List.length p0 : Nat) : Int)) :: ((.i y8_1) :: (tp 14 [])))))))), [(.arr 36 3 (List.length y3_1) (flatD enc_GChange y3_1)), (.box [(.i x10_2.Loc), (.i x10_2.Time), (.i (IntKind.i64.wrap (0 - x10_2.N)))])], 0⟩ ?_
   refine AWP.text ?_
   refine Wy (.own 0) [] (Omv rfl) ?_
   refine Wy (.agg [(.i x10_2.Loc), (.i x10_2.Time), (.i (IntKind.i64.wrap (0 - x10_2.N)))]) [] (Old rfl) ?_
   refine Wy (.own 2) [(2, (.arr 36 3 (List.length ([(GChange.mk x10_2.Loc x10_2.Time (IntKind.i64.wrap (0 - x10_2.N)))] : List GChange)) (flatD enc_GChange ([(GChange.mk x10_2.Loc x10_2.Time (IntKind.i64.wrap (0 - x10_2.N)))] : List GChange))))] (Obs rfl) ?_
   obtain ⟨a19_3, ha19_3, hm⟩ := bnd hm; obtain ⟨ha19_3e, ha19_3l⟩ := app_some ha19_3
   refine Wy (.own 3) [(0, .gone), (3, (.arr 36 3 (List.length a19_3) (flatD enc_GChange a19_3)))] (Oap rfl elemOK_27 enc_GChange_len ha19_3e ha19_3l) ?_
   refine Wy (.own 3) [] (Omv rfl) ?_
   refine Walk.nil ?_
   refine InBlock.normal ?_
   refine Then.normal ?_
   refine Amk 456 8 ⟨(tp 3 ((.own 3) :: (tp 2 ((.l enc_GChange p0) :: ((.i ((List.length p0 : Nat) : Int)) :: ((.i y8_1) :: (tp 14 []))))))), [.gone, .gone, .gone, (.arr 36 3 (List.length a19_3) (flatD enc_GChange a19_3))], 0⟩ ?_
   refine AWP.text ?_
   refine Wy (.i (IntKind.i64.wrap (y8_1 + 1))) [] (Obn rfl (fun _ => hb_add (k := .i64))) ?_
   refine Wy (.i (IntKind.i64.wrap (y8_1 + 1))) [] (Omv rfl) ?_
   refine Walk.nil ?_
   refine RoundK.normal ?_
   exact Rounds.weak (Weak.toK 456 0 0 [3]) (ih_1 (fu_1, a19_3, (IntKind.i64.wrap (y8_1 + 1))) hm (Nat.lt_succ_self _))
  ·
   replace hm := cF hc9_5 hm
   refine AWP.if_ false (Eq.trans (by kernel_rfl) (lit_tf (b := decide (y8_1 < ((List.length p0 : Nat) : Int))) hc9_5)) ?_
   refine AWP.exit ?_
   refine Then.exit ?_
   refine RoundK.exit ?_
   refine InBlock.same ?_
   refine Then.normal ?_
   refine Amk 8 1 ⟨(tp 3 ((.own 0) :: (tp 19 []))), [(.arr 36 3 (List.length y3_1) (flatD enc_GChange y3_1))], 0⟩ ?_
   refine AWP.seq ?_
   refine AWP.text ?_
   refine Wy (.own 0) [] (Omv rfl) ?_
   obtain ⟨r22_4, hr22_4, hm⟩ := bnd hm
   refine Wy (.l enc_GChange r22_4) [(0, (.fro 36 3 (List.length y3_1) (flatD enc_GChange y3_1)))] (Ocf [] [] [0] 0 (ok_tally_Normal y3_1 r22_4 hr22_4) (fun a w => Try.call11 a w) rfl trivial) ?_
   refine Wy (.l enc_GChange r22_4) [] (Omv rfl) ?_
   refine Walk.nil ?_
   refine Then.normal ?_
   refine AWP.ret ?_
   obtain rfl := Option.some.inj hm
   exact ret_i []

set_option maxRecDepth 20000 in
set_option maxHeartbeats 4000000 in
theorem ok_telltalelaw26_awake (r : Bool) (h : m_telltalelaw26_awake = some r) : GCall Try.prog 7 [] [] (.b r) [] := by
 refine GCall.of_body (n := 103) (rs := [(.tmp 0)]) Try.func7 rfl rfl rfl ?_
 refine Ato ⟨(tu 103 []), [], 0⟩ ?_
 have hm := h
 unfold m_telltalelaw26_awake at hm
 refine AWP.seq ?_
 refine AWP.text ?_
 refine Wy (.b false) [] (Omv rfl) ?_
 refine Walk.nil ?_
 refine Then.normal ?_
 refine Amk 0 0 ⟨(tp 103 []), [], 0⟩ ?_
 refine AWP.seq ?_
 refine AWP.text ?_
 refine Wy (.agg [(.i 0), (.i 5), (.i 2)]) [] (Obd rfl) ?_
 refine Wy (.agg [(.i 0), (.i 3), (.i 1)]) [] (Obd rfl) ?_
 refine Wy (.agg [(.i 0), (.i 5), (.i (-2))]) [] (Obd rfl) ?_
 refine Wy (.agg [(.i 1), (.i 2), (.i 4)]) [] (Obd rfl) ?_
 refine Wy (.own 0) [(0, (.arr 36 3 (List.length ([(GChange.mk 0 5 2), (GChange.mk 0 3 1), (GChange.mk 0 5 (-2)), (GChange.mk 1 2 4)] : List GChange)) (flatD enc_GChange ([(GChange.mk 0 5 2), (GChange.mk 0 3 1), (GChange.mk 0 5 (-2)), (GChange.mk 1 2 4)] : List GChange))))] (Obs rfl) ?_
 obtain ⟨r15_0, hr15_0, hm⟩ := bnd hm
 refine Wy (.l enc_GChange r15_0) [(0, (.fro 36 3 (List.length ([(GChange.mk 0 5 2), (GChange.mk 0 3 1), (GChange.mk 0 5 (-2)), (GChange.mk 1 2 4)] : List GChange)) (flatD enc_GChange ([(GChange.mk 0 5 2), (GChange.mk 0 3 1), (GChange.mk 0 5 (-2)), (GChange.mk 1 2 4)] : List GChange))))] (Ocf [] [] [0] 0 (ok_tally_Normal ([(GChange.mk 0 5 2), (GChange.mk 0 3 1), (GChange.mk 0 5 (-2)), (GChange.mk 1 2 4)] : List GChange) r15_0 hr15_0) (fun a w => Try.call11 a w) rfl trivial) ?_
 refine Wy (.l enc_GChange r15_0) [] (Omv rfl) ?_
 refine Walk.nil ?_
 refine Then.normal ?_
 refine Amk 2 0 ⟨(tp 1 ((.l enc_GChange r15_0) :: (tp 101 []))), [.gone], 0⟩ ?_
 refine AWP.seq ?_
 refine AWP.text ?_
 refine Wy (.own 1) [(1, (.arr 5 1 (List.length ([112] : List UInt8)) (flatD encU8 ([112] : List UInt8))))] (Obs rfl) ?_
 refine Wy (.own 1) [(1, (.arr 5 1 (List.length ([112] : List UInt8)) (flatD encU8 ([112] : List UInt8))))] (Omk rfl (by kernel_rfl) (by kernel_rfl) (n := List.length ([112] : List UInt8)) (by decide)) ?_
 refine Wy (.l enc_GChange r15_0) [] (Omv rfl) ?_
 obtain ⟨r19_1, hr19_1, hm⟩ := bnd hm
 refine Wy (.own 2) [(2, (.arr 5 1 (List.length r19_1) (flatD encU8 r19_1)))] (Ocp [] [2] [1] 0 (ok_tally_Put ([112] : List UInt8) r15_0 r19_1 hr19_1) (⟨by simp [A.Plain, A.Plains, D.Plain, byteD], plain_cons (flat_plain encU8_plain) (plain_nil)⟩) (fun a w => Try.call23 a w) rfl trivial) ?_
 refine Wy (.own 2) [] (Omv rfl) ?_
 refine Walk.nil ?_
 refine Then.normal ?_
 refine Amk 6 4 ⟨(tp 1 ((.l enc_GChange r15_0) :: ((.own 2) :: (tp 100 [])))), [.gone, .gone, (.arr 5 1 (List.length r19_1) (flatD encU8 r19_1))], 0⟩ ?_
 refine AWP.seq ?_
 refine AWP.text ?_
 refine Wy (.own 2) [] (Omv rfl) ?_
 refine Wy (.s r19_1) [] (Ocs (by kernel_rfl) (op_str rfl (e := 5) (by kernel_rfl) (by kernel_rfl) (by kernel_rfl) (y := (.own 2)) (by kernel_rfl) (ds := flatD encU8 r19_1) (off := 0) (n := List.length r19_1) (by kernel_rfl) (l := r19_1) flatU8_take rfl)) ?_
 obtain ⟨r23_2, hr23_2, hm⟩ := bnd hm
 refine Wy (.tup [(.own 3), (.i r23_2.2.1), (.i r23_2.2.2)]) [(3, (.arr 36 3 (List.length r23_2.1) (flatD enc_GChange r23_2.1)))] (Ocf [] [3] [] 0 (ok_tally_Take r19_1 1 r23_2 hr23_2) (fun a w => Try.call21 a w) rfl trivial) ?_
 refine Wy (.tup [(.own 3), (.i r23_2.2.1), (.i r23_2.2.2)]) [] (Omv rfl) ?_
 refine Wy (.own 3) [] (Oex rfl) ?_
 refine Wy (.i r23_2.2.1) [] (Oex rfl) ?_
 refine Wy (.i r23_2.2.2) [] (Oex rfl) ?_
 refine Wy (.own 3) [] (Omv rfl) ?_
 refine Wy (.i r23_2.2.1) [] (Omv rfl) ?_
 refine Wy (.i r23_2.2.2) [] (Omv rfl) ?_
 refine Walk.nil ?_
 refine Then.normal ?_
 refine Amk 62 12 ⟨(tp 1 ((.l enc_GChange r15_0) :: ((.own 2) :: ((.own 3) :: ((.i r23_2.2.1) :: ((.i r23_2.2.2) :: (tp 97 []))))))), [.gone, .gone, (.arr 5 1 (List.length r19_1) (flatD encU8 r19_1)), (.arr 36 3 (List.length r23_2.1) (flatD enc_GChange r23_2.1))], 0⟩ ?_
 refine AWP.seq ?_
 refine AWP.text ?_
 obtain ⟨r28_3, hr28_3, hm⟩ := bnd hm
 refine Wy (.tup [(.own 4), (.i r28_3.2.1), (.i r28_3.2.2)]) [(4, (.arr 36 3 (List.length r28_3.1) (flatD enc_GChange r28_3.1)))] (Ocf [] [4] [] 0 (ok_tally_Take ([1, 0, 0, 0] : List UInt8) 0 r28_3 hr28_3) (fun a w => Try.call21 a w) rfl trivial) ?_
 refine Wy (.tup [(.own 4), (.i r28_3.2.1), (.i r28_3.2.2)]) [] (Omv rfl) ?_
 refine Wy (.own 4) [] (Oex rfl) ?_
 refine Wy (.i r28_3.2.1) [] (Oex rfl) ?_
 refine Wy (.i r28_3.2.2) [] (Oex rfl) ?_
 refine Wy (.own 4) [] (Omv rfl) ?_
 refine Wy (.i r28_3.2.1) [] (Omv rfl) ?_
 refine Wy (.i r28_3.2.2) [] (Omv rfl) ?_
 refine Walk.nil ?_
 refine Then.normal ?_
 refine Amk 318 12 ⟨(tp 1 ((.l enc_GChange r15_0) :: ((.own 2) :: ((.own 3) :: ((.i r23_2.2.1) :: ((.i r23_2.2.2) :: (tp 2 ((.i r28_3.2.2) :: (tp 94 []))))))))), [.gone, .gone, (.arr 5 1 (List.length r19_1) (flatD encU8 r19_1)), (.arr 36 3 (List.length r23_2.1) (flatD enc_GChange r23_2.1)), .gone], 0⟩ ?_
 refine AWP.seq ?_
 refine AWP.text ?_
 refine Wy (.l enc_GChange r15_0) [] (Omv rfl) ?_
 refine Wy (.agg [(.i 0), (.i 3), (.i 1)]) [] (Obd rfl) ?_
 obtain ⟨r34_4, hr34_4, hm⟩ := bnd hm
 refine Wy (.l enc_GChange r34_4) [] (Ocf [] [] [] 0 (ok_tally_Add r15_0 (GChange.mk 0 3 1) r34_4 hr34_4) (fun a w => Try.call15 a w) rfl trivial) ?_
 refine Wy (.l enc_GChange r34_4) [] (Omv rfl) ?_
 refine Walk.nil ?_
 refine Then.normal ?_
 refine Amk 830 12 ⟨(tp 1 ((.l enc_GChange r15_0) :: ((.own 2) :: ((.own 3) :: ((.i r23_2.2.1) :: ((.i r23_2.2.2) :: (tp 2 ((.i r28_3.2.2) :: ((.l enc_GChange r34_4) :: (tp 93 [])))))))))), [.gone, .gone, (.arr 5 1 (List.length r19_1) (flatD encU8 r19_1)), (.arr 36 3 (List.length r23_2.1) (flatD enc_GChange r23_2.1)), .gone], 0⟩ ?_
 refine AWP.seq ?_
 refine AWP.text ?_
 refine Wy (.l enc_GChange r15_0) [] (Omv rfl) ?_
 refine Wy (.i ((List.length r15_0 : Nat) : Int)) [] (Oln rfl) ?_
 refine Wy (.b (decide (((List.length r15_0 : Nat) : Int) = 2))) [] (Obn rfl (fun _ => hb_eql (k := .i64))) ?_
 rcases tf_ (decide (((List.length r15_0 : Nat) : Int) = 2)) with hq38_5 | hq38_5
 ·
  replace hm := cT hq38_5 hm
  refine Wy (.b true) [] (Ocs (lit_tf (b := decide (((List.length r15_0 : Nat) : Int) = 2)) hq38_5) (Omv rfl)) ?_
  refine Wy (.l enc_GChange r15_0) [] (Omv rfl) ?_
  obtain ⟨x40_5, hx40_5, hm⟩ := bnd hm
  obtain ⟨hx40_5i, hx40_5g⟩ := geti_some hx40_5
  refine Wy (.d (.ref (List.drop ((Int.toNat 0) * 3) (flatD enc_GChange r15_0)))) [] (Oia rfl enc_GChange_len hx40_5i hx40_5g) ?_
  refine Wy (.agg [(.i x40_5.Loc), (.i x40_5.Time), (.i x40_5.N)]) [] (Lf rfl enc_GChange_len hx40_5g) ?_
  refine Wy (.agg [(.i 0), (.i 3), (.i 1)]) [] (Obd rfl) ?_
  refine Wy (.b (decide (x40_5.Loc = 0) && (decide (x40_5.Time = 3) && (decide (x40_5.N = 1) && true)))) [] (Ocs (by kernel_rfl) (op_eql_struct rfl (la := [(.i x40_5.Loc), (.i x40_5.Time), (.i x40_5.N)]) (lb := [(.i 0), (.i 3), (.i 1)]) (us := [.int .i64 x40_5.Loc, .int .i64 x40_5.Time, .int .i64 x40_5.N]) (vs := [.int .i64 0, .int .i64 3, .int .i64 1]) (r := (decide (x40_5.Loc = 0) && (decide (x40_5.Time = 3) && (decide (x40_5.N = 1) && true)))) (by kernel_rfl) (by kernel_rfl) (by kernel_rfl) (by kernel_rfl) (by kernel_rfl))) ?_
  refine Wy (.b (decide (x40_5.Loc = 0) && (decide (x40_5.Time = 3) && (decide (x40_5.N = 1) && true)))) [] (OpT rfl) ?_
  rcases tf_ (decide (x40_5.Loc = 0) && (decide (x40_5.Time = 3) && (decide (x40_5.N = 1) && true))) with hq45_5 | hq45_5
  ·
   replace hm := cT hq45_5 hm
   refine Wy (.b true) [] (Ocs (lit_tf (b := (decide (x40_5.Loc = 0) && (decide (x40_5.Time = 3) && (decide (x40_5.N = 1) && true)))) hq45_5) (Omv rfl)) ?_
   refine Wy (.l enc_GChange r15_0) [] (Omv rfl) ?_
   obtain ⟨x47_5, hx47_5, hm⟩ := bnd hm
   obtain ⟨hx47_5i, hx47_5g⟩ := geti_some hx47_5
   refine Wy (.d (.ref (List.drop ((Int.toNat 1) * 3) (flatD enc_GChange r15_0)))) [] (Oia rfl enc_GChange_len hx47_5i hx47_5g) ?_
   refine Wy (.agg [(.i x47_5.Loc), (.i x47_5.Time), (.i x47_5.N)]) [] (Lf rfl enc_GChange_len hx47_5g) ?_
   refine Wy (.agg [(.i 1), (.i 2), (.i 4)]) [] (Obd rfl) ?_
   refine Wy (.b (decide (x47_5.Loc = 1) && (decide (x47_5.Time = 2) && (decide (x47_5.N = 4) && true)))) [] (Ocs (by kernel_rfl) (op_eql_struct rfl (la := [(.i x47_5.Loc), (.i x47_5.Time), (.i x47_5.N)]) (lb := [(.i 1), (.i 2), (.i 4)]) (us := [.int .i64 x47_5.Loc, .int .i64 x47_5.Time, .int .i64 x47_5.N]) (vs := [.int .i64 1, .int .i64 2, .int .i64 4]) (r := (decide (x47_5.Loc = 1) && (decide (x47_5.Time = 2) && (decide (x47_5.N = 4) && true)))) (by kernel_rfl) (by kernel_rfl) (by kernel_rfl) (by kernel_rfl) (by kernel_rfl))) ?_
   refine Wy (.b (decide (x47_5.Loc = 1) && (decide (x47_5.Time = 2) && (decide (x47_5.N = 4) && true)))) [] (OpT rfl) ?_
   rcases tf_ (decide (x47_5.Loc = 1) && (decide (x47_5.Time = 2) && (decide (x47_5.N = 4) && true))) with hq52_5 | hq52_5
   ·
    replace hm := cT hq52_5 hm
    refine Wy (.b true) [] (Ocs (lit_tf (b := (decide (x47_5.Loc = 1) && (decide (x47_5.Time = 2) && (decide (x47_5.N = 4) && true)))) hq52_5) (Omv rfl)) ?_
    refine Wy (.i r23_2.2.2) [] (Omv rfl) ?_
    refine Wy (.b (decide (r23_2.2.2 = 0))) [] (Obn rfl (fun _ => hb_eql (k := .i64))) ?_
    refine Wy (.b (decide (r23_2.2.2 = 0))) [] (OpT rfl) ?_
    rcases tf_ (decide (r23_2.2.2 = 0)) with hq56_5 | hq56_5
    ·
     replace hm := cT hq56_5 hm
     refine Wy (.b true) [] (Ocs (lit_tf (b := decide (r23_2.2.2 = 0)) hq56_5) (Omv rfl)) ?_
     refine Wy (.i r23_2.2.1) [] (Omv rfl) ?_
     refine Wy (.own 2) [] (Omv rfl) ?_
     refine Wy (.i ((List.length r19_1 : Nat) : Int)) [] (Oln rfl) ?_
     refine Wy (.b (decide (r23_2.2.1 = ((List.length r19_1 : Nat) : Int)))) [] (Obn rfl (fun _ => hb_eql (k := .i64))) ?_
     refine Wy (.b (decide (r23_2.2.1 = ((List.length r19_1 : Nat) : Int)))) [] (OpT rfl) ?_
     rcases tf_ (decide (r23_2.2.1 = ((List.length r19_1 : Nat) : Int))) with hq62_5 | hq62_5
     ·
      replace hm := cT hq62_5 hm
      refine Wy (.b true) [] (Ocs (lit_tf (b := decide (r23_2.2.1 = ((List.length r19_1 : Nat) : Int))) hq62_5) (Omv rfl)) ?_
      refine Wy (.own 2) [] (Omv rfl) ?_
      refine Wy (.i ((List.length r19_1 : Nat) : Int)) [] (Oln rfl) ?_
      refine Wy (.b (decide (((List.length r19_1 : Nat) : Int) = 8))) [] (Obn rfl (fun _ => hb_eql (k := .i64))) ?_
      refine Wy (.b (decide (((List.length r19_1 : Nat) : Int) = 8))) [] (OpT rfl) ?_
      rcases tf_ (decide (((List.length r19_1 : Nat) : Int) = 8)) with hq67_5 | hq67_5
      ·
       replace hm := cT hq67_5 hm
       refine Wy (.b true) [] (Ocs (lit_tf (b := decide (((List.length r19_1 : Nat) : Int) = 8)) hq67_5) (Omv rfl)) ?_
       refine Wy (.l enc_GChange r15_0) [] (Omv rfl) ?_
       refine Wy (.own 3) [] (Omv rfl) ?_
       obtain ⟨r70_5, hr70_5, hm⟩ := bnd hm
       refine Wy (.b r70_5) [] (Ocp [] [] [3] 0 (ok_tally_Same r15_0 r23_2.1 r70_5 hr70_5) (plain_triv (by simp [A.Plain, A.Plains, D.Plain, byteD])) (fun a w => Try.call20 a w) rfl trivial) ?_
       refine Wy (.b r70_5) [] (OpT rfl) ?_
       rcases tf_ r70_5 with hq72_5 | hq72_5
       ·
        replace hm := cT hq72_5 hm
        refine Wy (.b true) [] (Ocs (lit_tf (b := r70_5) hq72_5) (Omv rfl)) ?_
        refine Wy (.i r28_3.2.2) [] (Omv rfl) ?_
        refine Wy (.b (decide (r28_3.2.2 = 4))) [] (Obn rfl (fun _ => hb_eql (k := .i64))) ?_
        refine Wy (.b (decide (r28_3.2.2 = 4))) [] (OpT rfl) ?_
        rcases tf_ (decide (r28_3.2.2 = 4)) with hq76_5 | hq76_5
        ·
         replace hm := cT hq76_5 hm
         refine Wy (.b true) [] (Ocs (lit_tf (b := decide (r28_3.2.2 = 4)) hq76_5) (Omv rfl)) ?_
         refine Wy (.l enc_GChange r15_0) [] (Omv rfl) ?_
         obtain ⟨r78_5, hr78_5, hm⟩ := bnd hm
         refine Wy (.i r78_5) [] (Ocf [] [] [] 0 (ok_tally_At r15_0 1 2 r78_5 hr78_5) (fun a w => Try.call18 a w) rfl trivial) ?_
         refine Wy (.b (decide (r78_5 = 4))) [] (Obn rfl (fun _ => hb_eql (k := .i64))) ?_
         refine Wy (.b (decide (r78_5 = 4))) [] (OpT rfl) ?_
         rcases tf_ (decide (r78_5 = 4)) with hq81_5 | hq81_5
         ·
          replace hm := cT hq81_5 hm
          refine Wy (.b true) [] (Ocs (lit_tf (b := decide (r78_5 = 4)) hq81_5) (Omv rfl)) ?_
          refine Wy (.l enc_GChange r15_0) [] (Omv rfl) ?_
          refine Wy (.l enc_GChange r15_0) [] (Omv rfl) ?_
          obtain ⟨r84_5, hr84_5, hm⟩ := bnd hm
          refine Wy (.l enc_GChange r84_5) [] (Ocf [] [] [] 0 (ok_tally_Neg r15_0 r84_5 hr84_5) (fun a w => Try.call16 a w) rfl trivial) ?_
          obtain ⟨r85_5, hr85_5, hm⟩ := bnd hm
          refine Wy (.l enc_GChange r85_5) [] (Ocf [] [] [] 0 (ok_tally_Merge r15_0 r84_5 r85_5 hr85_5) (fun a w => Try.call13 a w) rfl trivial) ?_
          refine Wy (.i ((List.length r85_5 : Nat) : Int)) [] (Oln rfl) ?_
          refine Wy (.b (decide (((List.length r85_5 : Nat) : Int) = 0))) [] (Obn rfl (fun _ => hb_eql (k := .i64))) ?_
          refine Wy (.b (decide (((List.length r85_5 : Nat) : Int) = 0))) [] (OpT rfl) ?_
          rcases tf_ (decide (((List.length r85_5 : Nat) : Int) = 0)) with hq89_5 | hq89_5
          ·
           replace hm := cT hq89_5 hm
           refine Wy (.b true) [] (Ocs (lit_tf (b := decide (((List.length r85_5 : Nat) : Int) = 0)) hq89_5) (Omv rfl)) ?_
           refine Wy (.l enc_GChange r34_4) [] (Omv rfl) ?_
           refine Wy (.i ((List.length r34_4 : Nat) : Int)) [] (Oln rfl) ?_
           refine Wy (.b (decide (((List.length r34_4 : Nat) : Int) = 2))) [] (Obn rfl (fun _ => hb_eql (k := .i64))) ?_
           refine Wy (.b (decide (((List.length r34_4 : Nat) : Int) = 2))) [] (OpT rfl) ?_
           rcases tf_ (decide (((List.length r34_4 : Nat) : Int) = 2)) with hq94_5 | hq94_5
           ·
            replace hm := cT hq94_5 hm
            refine Wy (.b true) [] (Ocs (lit_tf (b := decide (((List.length r34_4 : Nat) : Int) = 2)) hq94_5) (Omv rfl)) ?_
            refine Wy (.l enc_GChange r34_4) [] (Omv rfl) ?_
            obtain ⟨x96_5, hx96_5, hm⟩ := bnd hm
            obtain ⟨hx96_5i, hx96_5g⟩ := geti_some hx96_5
            refine Wy (.d (.ref (List.drop ((Int.toNat 0) * 3) (flatD enc_GChange r34_4)))) [] (Oia rfl enc_GChange_len hx96_5i hx96_5g) ?_
            refine Wy (.d (.ref (List.drop 2 (List.drop ((Int.toNat 0) * 3) (flatD enc_GChange r34_4))))) [] (Ofa rfl) ?_
            refine Wy (.i x96_5.N) [] (Lfk1 2 rfl enc_GChange_len hx96_5g) ?_
            refine Wy (.b (decide (x96_5.N = 2))) [] (Obn rfl (fun _ => hb_eql (k := .i64))) ?_
            refine Wy (.b (decide (x96_5.N = 2))) [] (OpT rfl) ?_
            rcases tf_ (decide (x96_5.N = 2)) with hq101_5 | hq101_5
            ·
             replace hm := cT hq101_5 hm
             refine Wy (.b true) [] (Ocs (lit_tf (b := decide (x96_5.N = 2)) hq101_5) (Omv rfl)) ?_
             refine Wy (.b true) [] (OpT rfl) ?_
             refine Wy (.b true) [] (Omv rfl) ?_
             refine Walk.nil ?_
             refine Then.normal ?_
             refine AWP.ret ?_
             obtain rfl := Option.some.inj hm
             exact ret_i []
            ·
             replace hm := cF hq101_5 hm
             refine Wy (.b false) [] (Ocs (lit_tf (b := decide (x96_5.N = 2)) hq101_5) (Omv rfl)) ?_
             refine Wy (.b false) [] (OpF rfl) ?_
             refine Wy (.b false) [] (Omv rfl) ?_
             refine Walk.nil ?_
             refine Then.normal ?_
             refine AWP.ret ?_
             obtain rfl := Option.some.inj hm
             exact ret_i []
           ·
            replace hm := cF hq94_5 hm
            refine Wy (.b false) [] (Ocs (lit_tf (b := decide (((List.length r34_4 : Nat) : Int) = 2)) hq94_5) (Omv rfl)) ?_
            refine Wn ?_
            refine Wn ?_
            refine Wn ?_
            refine Wn ?_
            refine Wn ?_
            refine Wy (.b false) [] (OpF rfl) ?_
            refine Wy (.b false) [] (Omv rfl) ?_
            refine Wy (.b false) [] (OpF rfl) ?_
            refine Wy (.b false) [] (Omv rfl) ?_
            refine Walk.nil ?_
            refine Then.normal ?_
            refine AWP.ret ?_
            obtain rfl := Option.some.inj hm
            exact ret_i []
          ·
           replace hm := cF hq89_5 hm
           refine Wy (.b false) [] (Ocs (lit_tf (b := decide (((List.length r85_5 : Nat) : Int) = 0)) hq89_5) (Omv rfl)) ?_
           refine Wn ?_
           refine Wn ?_
           refine Wn ?_
           refine Wy (.b false) [] (OpF rfl) ?_
           refine Wy (.b false) [] (Omv rfl) ?_
           refine Wn ?_
           refine Wn ?_
           refine Wn ?_
           refine Wn ?_
           refine Wn ?_
           refine Wy (.b false) [] (OpF rfl) ?_
           refine Wy (.b false) [] (Omv rfl) ?_
           refine Wy (.b false) [] (OpF rfl) ?_
           refine Wy (.b false) [] (Omv rfl) ?_
           refine Walk.nil ?_
           refine Then.normal ?_
           refine AWP.ret ?_
           obtain rfl := Option.some.inj hm
           exact ret_i []
         ·
          replace hm := cF hq81_5 hm
          refine Wy (.b false) [] (Ocs (lit_tf (b := decide (r78_5 = 4)) hq81_5) (Omv rfl)) ?_
          refine Wn ?_
          refine Wn ?_
          refine Wn ?_
          refine Wn ?_
          refine Wn ?_
          refine Wn ?_
          refine Wy (.b false) [] (OpF rfl) ?_
          refine Wy (.b false) [] (Omv rfl) ?_
          refine Wn ?_
          refine Wn ?_
          refine Wn ?_
          refine Wy (.b false) [] (OpF rfl) ?_
          refine Wy (.b false) [] (Omv rfl) ?_
          refine Wn ?_
          refine Wn ?_
          refine Wn ?_
          refine Wn ?_
          refine Wn ?_
          refine Wy (.b false) [] (OpF rfl) ?_
          refine Wy (.b false) [] (Omv rfl) ?_
          refine Wy (.b false) [] (OpF rfl) ?_
          refine Wy (.b false) [] (Omv rfl) ?_
          refine Walk.nil ?_
          refine Then.normal ?_
          refine AWP.ret ?_
          obtain rfl := Option.some.inj hm
          exact ret_i []
        ·
         replace hm := cF hq76_5 hm
         refine Wy (.b false) [] (Ocs (lit_tf (b := decide (r28_3.2.2 = 4)) hq76_5) (Omv rfl)) ?_
         refine Wn ?_
         refine Wn ?_
         refine Wn ?_
         refine Wy (.b false) [] (OpF rfl) ?_
         refine Wy (.b false) [] (Omv rfl) ?_
         refine Wn ?_
         refine Wn ?_
         refine Wn ?_
         refine Wn ?_
         refine Wn ?_
         refine Wn ?_
         refine Wy (.b false) [] (OpF rfl) ?_
         refine Wy (.b false) [] (Omv rfl) ?_
         refine Wn ?_
         refine Wn ?_
         refine Wn ?_
         refine Wy (.b false) [] (OpF rfl) ?_
         refine Wy (.b false) [] (Omv rfl) ?_
         refine Wn ?_
         refine Wn ?_
         refine Wn ?_
         refine Wn ?_
         refine Wn ?_
         refine Wy (.b false) [] (OpF rfl) ?_
         refine Wy (.b false) [] (Omv rfl) ?_
         refine Wy (.b false) [] (OpF rfl) ?_
         refine Wy (.b false) [] (Omv rfl) ?_
         refine Walk.nil ?_
         refine Then.normal ?_
         refine AWP.ret ?_
         obtain rfl := Option.some.inj hm
         exact ret_i []
       ·
        replace hm := cF hq72_5 hm
        refine Wy (.b false) [] (Ocs (lit_tf (b := r70_5) hq72_5) (Omv rfl)) ?_
        refine Wn ?_
        refine Wn ?_
        refine Wy (.b false) [] (OpF rfl) ?_
        refine Wy (.b false) [] (Omv rfl) ?_
        refine Wn ?_
        refine Wn ?_
        refine Wn ?_
        refine Wy (.b false) [] (OpF rfl) ?_
        refine Wy (.b false) [] (Omv rfl) ?_
        refine Wn ?_
        refine Wn ?_
        refine Wn ?_
        refine Wn ?_
        refine Wn ?_
        refine Wn ?_
        refine Wy (.b false) [] (OpF rfl) ?_
        refine Wy (.b false) [] (Omv rfl) ?_
        refine Wn ?_
        refine Wn ?_
        refine Wn ?_
        refine Wy (.b false) [] (OpF rfl) ?_
        refine Wy (.b false) [] (Omv rfl) ?_
        refine Wn ?_
        refine Wn ?_
        refine Wn ?_
        refine Wn ?_
        refine Wn ?_
        refine Wy (.b false) [] (OpF rfl) ?_
        refine Wy (.b false) [] (Omv rfl) ?_
        refine Wy (.b false) [] (OpF rfl) ?_
        refine Wy (.b false) [] (Omv rfl) ?_
        refine Walk.nil ?_
        refine Then.normal ?_
        refine AWP.ret ?_
        obtain rfl := Option.some.inj hm
        exact ret_i []
      ·
       replace hm := cF hq67_5 hm
       refine Wy (.b false) [] (Ocs (lit_tf (b := decide (((List.length r19_1 : Nat) : Int) = 8)) hq67_5) (Omv rfl)) ?_
       refine Wn ?_
       refine Wn ?_
       refine Wn ?_
       refine Wy (.b false) [] (OpF rfl) ?_
       refine Wy (.b false) [] (Omv rfl) ?_
       refine Wn ?_
       refine Wn ?_
       refine Wy (.b false) [] (OpF rfl) ?_
       refine Wy (.b false) [] (Omv rfl) ?_
       refine Wn ?_
       refine Wn ?_
       refine Wn ?_
       refine Wy (.b false) [] (OpF rfl) ?_
       refine Wy (.b false) [] (Omv rfl) ?_
       refine Wn ?_
       refine Wn ?_
       refine Wn ?_
       refine Wn ?_
       refine Wn ?_
       refine Wn ?_
       refine Wy (.b false) [] (OpF rfl) ?_
       refine Wy (.b false) [] (Omv rfl) ?_
       refine Wn ?_
       refine Wn ?_
       refine Wn ?_
       refine Wy (.b false) [] (OpF rfl) ?_
       refine Wy (.b false) [] (Omv rfl) ?_
       refine Wn ?_
       refine Wn ?_
       refine Wn ?_
       refine Wn ?_
       refine Wn ?_
       refine Wy (.b false) [] (OpF rfl) ?_
       refine Wy (.b false) [] (Omv rfl) ?_
       refine Wy (.b false) [] (OpF rfl) ?_
       refine Wy (.b false) [] (Omv rfl) ?_
       refine Walk.nil ?_
       refine Then.normal ?_
       refine AWP.ret ?_
       obtain rfl := Option.some.inj hm
       exact ret_i []
     ·
      replace hm := cF hq62_5 hm
      refine Wy (.b false) [] (Ocs (lit_tf (b := decide (r23_2.2.1 = ((List.length r19_1 : Nat) : Int))) hq62_5) (Omv rfl)) ?_
      refine Wn ?_
      refine Wn ?_
      refine Wn ?_
      refine Wy (.b false) [] (OpF rfl) ?_
      refine Wy (.b false) [] (Omv rfl) ?_
      refine Wn ?_
      refine Wn ?_
      refine Wn ?_
      refine Wy (.b false) [] (OpF rfl) ?_
      refine Wy (.b false) [] (Omv rfl) ?_
      refine Wn ?_
      refine Wn ?_
      refine Wy (.b false) [] (OpF rfl) ?_
      refine Wy (.b false) [] (Omv rfl) ?_
      refine Wn ?_
      refine Wn ?_
      refine Wn ?_
      refine Wy (.b false) [] (OpF rfl) ?_
      refine Wy (.b false) [] (Omv rfl) ?_
      refine Wn ?_
      refine Wn ?_
      refine Wn ?_
      refine Wn ?_
      refine Wn ?_
      refine Wn ?_
      refine Wy (.b false) [] (OpF rfl) ?_
      refine Wy (.b false) [] (Omv rfl) ?_
      refine Wn ?_
      refine Wn ?_
      refine Wn ?_
      refine Wy (.b false) [] (OpF rfl) ?_
      refine Wy (.b false) [] (Omv rfl) ?_
      refine Wn ?_
      refine Wn ?_
      refine Wn ?_
      refine Wn ?_
      refine Wn ?_
      refine Wy (.b false) [] (OpF rfl) ?_
      refine Wy (.b false) [] (Omv rfl) ?_
      refine Wy (.b false) [] (OpF rfl) ?_
      refine Wy (.b false) [] (Omv rfl) ?_
      refine Walk.nil ?_
      refine Then.normal ?_
      refine AWP.ret ?_
      obtain rfl := Option.some.inj hm
      exact ret_i []
    ·
     replace hm := cF hq56_5 hm
     refine Wy (.b false) [] (Ocs (lit_tf (b := decide (r23_2.2.2 = 0)) hq56_5) (Omv rfl)) ?_
     refine Wn ?_
     refine Wn ?_
     refine Wn ?_
     refine Wn ?_
     refine Wy (.b false) [] (OpF rfl) ?_
     refine Wy (.b false) [] (Omv rfl) ?_
     refine Wn ?_
     refine Wn ?_
     refine Wn ?_
     refine Wy (.b false) [] (OpF rfl) ?_
     refine Wy (.b false) [] (Omv rfl) ?_
     refine Wn ?_
     refine Wn ?_
     refine Wn ?_
     refine Wy (.b false) [] (OpF rfl) ?_
     refine Wy (.b false) [] (Omv rfl) ?_
     refine Wn ?_
     refine Wn ?_
     refine Wy (.b false) [] (OpF rfl) ?_
     refine Wy (.b false) [] (Omv rfl) ?_
     refine Wn ?_
     refine Wn ?_
     refine Wn ?_
     refine Wy (.b false) [] (OpF rfl) ?_
     refine Wy (.b false) [] (Omv rfl) ?_
     refine Wn ?_
     refine Wn ?_
     refine Wn ?_
     refine Wn ?_
     refine Wn ?_
     refine Wn ?_
     refine Wy (.b false) [] (OpF rfl) ?_
     refine Wy (.b false) [] (Omv rfl) ?_
     refine Wn ?_
     refine Wn ?_
     refine Wn ?_
     refine Wy (.b false) [] (OpF rfl) ?_
     refine Wy (.b false) [] (Omv rfl) ?_
     refine Wn ?_
     refine Wn ?_
     refine Wn ?_
     refine Wn ?_
     refine Wn ?_
     refine Wy (.b false) [] (OpF rfl) ?_
     refine Wy (.b false) [] (Omv rfl) ?_
     refine Wy (.b false) [] (OpF rfl) ?_
     refine Wy (.b false) [] (Omv rfl) ?_
     refine Walk.nil ?_
     refine Then.normal ?_
     refine AWP.ret ?_
     obtain rfl := Option.some.inj hm
     exact ret_i []
   ·
    replace hm := cF hq52_5 hm
    refine Wy (.b false) [] (Ocs (lit_tf (b := (decide (x47_5.Loc = 1) && (decide (x47_5.Time = 2) && (decide (x47_5.N = 4) && true)))) hq52_5) (Omv rfl)) ?_
    refine Wn ?_
    refine Wn ?_
    refine Wy (.b false) [] (OpF rfl) ?_
    refine Wy (.b false) [] (Omv rfl) ?_
    refine Wn ?_
    refine Wn ?_
    refine Wn ?_
    refine Wn ?_
    refine Wy (.b false) [] (OpF rfl) ?_
    refine Wy (.b false) [] (Omv rfl) ?_
    refine Wn ?_
    refine Wn ?_
    refine Wn ?_
    refine Wy (.b false) [] (OpF rfl) ?_
    refine Wy (.b false) [] (Omv rfl) ?_
    refine Wn ?_
    refine Wn ?_
    refine Wn ?_
    refine Wy (.b false) [] (OpF rfl) ?_
    refine Wy (.b false) [] (Omv rfl) ?_
    refine Wn ?_
    refine Wn ?_
    refine Wy (.b false) [] (OpF rfl) ?_
    refine Wy (.b false) [] (Omv rfl) ?_
    refine Wn ?_
    refine Wn ?_
    refine Wn ?_
    refine Wy (.b false) [] (OpF rfl) ?_
    refine Wy (.b false) [] (Omv rfl) ?_
    refine Wn ?_
    refine Wn ?_
    refine Wn ?_
    refine Wn ?_
    refine Wn ?_
    refine Wn ?_
    refine Wy (.b false) [] (OpF rfl) ?_
    refine Wy (.b false) [] (Omv rfl) ?_
    refine Wn ?_
    refine Wn ?_
    refine Wn ?_
    refine Wy (.b false) [] (OpF rfl) ?_
    refine Wy (.b false) [] (Omv rfl) ?_
    refine Wn ?_
    refine Wn ?_
    refine Wn ?_
    refine Wn ?_
    refine Wn ?_
    refine Wy (.b false) [] (OpF rfl) ?_
    refine Wy (.b false) [] (Omv rfl) ?_
    refine Wy (.b false) [] (OpF rfl) ?_
    refine Wy (.b false) [] (Omv rfl) ?_
    refine Walk.nil ?_
    refine Then.normal ?_
    refine AWP.ret ?_
    obtain rfl := Option.some.inj hm
    exact ret_i []
  ·
   replace hm := cF hq45_5 hm
   refine Wy (.b false) [] (Ocs (lit_tf (b := (decide (x40_5.Loc = 0) && (decide (x40_5.Time = 3) && (decide (x40_5.N = 1) && true)))) hq45_5) (Omv rfl)) ?_
   refine Wn ?_
   refine Wn ?_
   refine Wn ?_
   refine Wn ?_
   refine Wn ?_
   refine Wy (.b false) [] (OpF rfl) ?_
   refine Wy (.b false) [] (Omv rfl) ?_
   refine Wn ?_
   refine Wn ?_
   refine Wy (.b false) [] (OpF rfl) ?_
   refine Wy (.b false) [] (Omv rfl) ?_
   refine Wn ?_
   refine Wn ?_
   refine Wn ?_
   refine Wn ?_
   refine Wy (.b false) [] (OpF rfl) ?_
   refine Wy (.b false) [] (Omv rfl) ?_
   refine Wn ?_
   refine Wn ?_
   refine Wn ?_
   refine Wy (.b false) [] (OpF rfl) ?_
   refine Wy (.b false) [] (Omv rfl) ?_
   refine Wn ?_
   refine Wn ?_
   refine Wn ?_
   refine Wy (.b false) [] (OpF rfl) ?_
   refine Wy (.b false) [] (Omv rfl) ?_
   refine Wn ?_
   refine Wn ?_
   refine Wy (.b false) [] (OpF rfl) ?_
   refine Wy (.b false) [] (Omv rfl) ?_
   refine Wn ?_
   refine Wn ?_
   refine Wn ?_
   refine Wy (.b false) [] (OpF rfl) ?_
   refine Wy (.b false) [] (Omv rfl) ?_
   refine Wn ?_
   refine Wn ?_
   refine Wn ?_
   refine Wn ?_
   refine Wn ?_
   refine Wn ?_
   refine Wy (.b false) [] (OpF rfl) ?_
   refine Wy (.b false) [] (Omv rfl) ?_
   refine Wn ?_
   refine Wn ?_
   refine Wn ?_
   refine Wy (.b false) [] (OpF rfl) ?_
   refine Wy (.b false) [] (Omv rfl) ?_
   refine Wn ?_
   refine Wn ?_
   refine Wn ?_
   refine Wn ?_
   refine Wn ?_
   refine Wy (.b false) [] (OpF rfl) ?_
   refine Wy (.b false) [] (Omv rfl) ?_
   refine Wy (.b false) [] (OpF rfl) ?_
   refine Wy (.b false) [] (Omv rfl) ?_
   refine Walk.nil ?_
   refine Then.normal ?_
   refine AWP.ret ?_
   obtain rfl := Option.some.inj hm
   exact ret_i []
 ·
  replace hm := cF hq38_5 hm
  refine Wy (.b false) [] (Ocs (lit_tf (b := decide (((List.length r15_0 : Nat) : Int) = 2)) hq38_5) (Omv rfl)) ?_
  refine Wn ?_
  refine Wn ?_
  refine Wn ?_
  refine Wn ?_
  refine Wn ?_
  refine Wy (.b false) [] (OpF rfl) ?_
  refine Wy (.b false) [] (Omv rfl) ?_
  refine Wn ?_
  refine Wn ?_
  refine Wn ?_
  refine Wn ?_
  refine Wn ?_
  refine Wy (.b false) [] (OpF rfl) ?_
  refine Wy (.b false) [] (Omv rfl) ?_
  refine Wn ?_
  refine Wn ?_
  refine Wy (.b false) [] (OpF rfl) ?_
  refine Wy (.b false) [] (Omv rfl) ?_
  refine Wn ?_
  refine Wn ?_
  refine Wn ?_
  refine Wn ?_
  refine Wy (.b false) [] (OpF rfl) ?_
  refine Wy (.b false) [] (Omv rfl) ?_
  refine Wn ?_
  refine Wn ?_
  refine Wn ?_
  refine Wy (.b false) [] (OpF rfl) ?_
  refine Wy (.b false) [] (Omv rfl) ?_
  refine Wn ?_
  refine Wn ?_
  refine Wn ?_
  refine Wy (.b false) [] (OpF rfl) ?_
  refine Wy (.b false) [] (Omv rfl) ?_
  refine Wn ?_
  refine Wn ?_
  refine Wy (.b false) [] (OpF rfl) ?_
  refine Wy (.b false) [] (Omv rfl) ?_
  refine Wn ?_
  refine Wn ?_
  refine Wn ?_
  refine Wy (.b false) [] (OpF rfl) ?_
  refine Wy (.b false) [] (Omv rfl) ?_
  refine Wn ?_
  refine Wn ?_
  refine Wn ?_
  refine Wn ?_
  refine Wn ?_
  refine Wn ?_
  refine Wy (.b false) [] (OpF rfl) ?_
  refine Wy (.b false) [] (Omv rfl) ?_
  refine Wn ?_
  refine Wn ?_
  refine Wn ?_
  refine Wy (.b false) [] (OpF rfl) ?_
  refine Wy (.b false) [] (Omv rfl) ?_
  refine Wn ?_
  refine Wn ?_
  refine Wn ?_
  refine Wn ?_
  refine Wn ?_
  refine Wy (.b false) [] (OpF rfl) ?_
  refine Wy (.b false) [] (Omv rfl) ?_
  refine Wy (.b false) [] (OpF rfl) ?_
  refine Wy (.b false) [] (Omv rfl) ?_
  refine Walk.nil ?_
  refine Then.normal ?_
  refine AWP.ret ?_
  obtain rfl := Option.some.inj hm
  exact ret_i []

set_option maxRecDepth 20000 in
set_option maxHeartbeats 4000000 in
theorem ok_telltalelaw26_Own (p0 : (List GChange)) (r : (List GChange)) (h : m_telltalelaw26_Own p0 = some r) : GCall Try.prog 8 [(.l enc_GChange p0)] [] (.own 0) [(.arr 36 3 (List.length r) (flatD enc_GChange r))] := by
 refine GCall.of_body (n := 19) (rs := [(.tmp 2)]) Try.func8 rfl rfl rfl ?_
 refine Ato ⟨((.l enc_GChange p0) :: (tu 18 [])), [], 0⟩ ?_
 have hm := h
 unfold m_telltalelaw26_Own at hm
 refine AWP.seq ?_
 refine AWP.text ?_
 refine Wy (.d .nil) [] (Omv rfl) ?_
 refine Walk.nil ?_
 refine Then.normal ?_
 refine Amk 1 0 ⟨((.l enc_GChange p0) :: (tp 18 [])), [], 0⟩ ?_
 refine AWP.seq ?_
 refine AWP.text ?_
 refine Wy (.d .nil) [] (Omv rfl) ?_
 refine Walk.nil ?_
 refine Then.normal ?_
 refine Amk 9 0 ⟨((.l enc_GChange p0) :: (tp 2 ((.d .nil) :: (tp 15 [])))), [], 0⟩ ?_
 refine AWP.seq ?_
 refine AWP.seq ?_
 refine AWP.text ?_
 refine Wy (.i 0) [] (Omv rfl) ?_
 refine Walk.nil ?_
 refine Then.normal ?_
 refine Amk 25 0 ⟨((.l enc_GChange p0) :: (tp 2 ((.d .nil) :: ((.i 0) :: (tp 14 []))))), [], 0⟩ ?_
 refine AWP.block ?_
 refine Aow 3 36 3 ⟨((.l enc_GChange p0) :: (tp 2 ((.own 0) :: ((.i 0) :: (tp 14 []))))), [(.arr 36 3 (List.length ([] : List GChange)) (flatD enc_GChange ([] : List GChange)))], 0⟩ ?_
 refine AWP.loopI (α := Nat × (List GChange) × Int)
   (fun x => match x with | (fu_0, y3_0, y4_0) => (⟨((.l enc_GChange p0) :: (tp 2 ((.own 0) :: ((.i y4_0) :: (tp 14 []))))), [(.arr 36 3 (List.length y3_0) (flatD enc_GChange y3_0))], 0⟩ : St))
   (fun x => match x with | (fu_0, y3_0, y4_0) => m_telltalelaw26_Own_l0 p0 fu_0 y3_0 y4_0 = some r)
   (fun x => match x with | (fu_0, y3_0, y4_0) => fu_0) (1152921504606846976, ([] : List GChange), 0)
   (Weak.toK 25 0 0 [0]) hm ?_
 rintro ⟨fu_0, y3_0, y4_0⟩ n_0 hm ih_0
 try dsimp only at hm ih_0 ⊢
 cases fu_0 with
 | zero => exact absurd hm (by unfold m_telltalelaw26_Own_l0; simp)
 | succ fu_0 =>
  unfold m_telltalelaw26_Own_l0 at hm
  refine AWP.seq ?_
  refine AWP.seq ?_
  refine AWP.text ?_
  refine Wy (.i y4_0) [] (Omv rfl) ?_
  refine Wy (.l enc_GChange p0) [] (Omv rfl) ?_
  refine Wy (.i ((List.length p0 : Nat) : Int)) [] (Oln rfl) ?_
  refine Wy (.b (decide (y4_0 < ((List.length p0 : Nat) : Int)))) [] (Obn rfl (fun _ => hb_lss (k := .i64))) ?_
  refine Walk.nil ?_
  refine Then.normal ?_
  refine Amk 281 1 ⟨((.l enc_GChange p0) :: (tp 2 ((.own 0) :: ((.i y4_0) :: (tp 3 ((.b (decide (y4_0 < ((List.length p0 : Nat) : Int)))) :: (tp 10 []))))))), [(.arr 36 3 (List.length y3_0) (flatD enc_GChange y3_0))], 0⟩ ?_
  rcases tf_ (decide (y4_0 < ((List.length p0 : Nat) : Int))) with hc8_3 | hc8_3
  ·
   replace hm := cT hc8_3 hm
   refine AWP.if_ true (Eq.trans (by kernel_rfl) (lit_tf (b := decide (y4_0 < ((List.length p0 : Nat) : Int))) hc8_3)) ?_
   refine AWP.skip ?_
   refine Then.normal ?_
   refine Amk 25 1 ⟨((.l enc_GChange p0) :: (tp 2 ((.own 0) :: ((.i y4_0) :: (tp 14 []))))), [(.arr 36 3 (List.length y3_0) (flatD enc_GChange y3_0))], 0⟩ ?_
   refine AWP.seq ?_
   refine AWP.block ?_
   refine AWP.text ?_
   refine Wy (.own 0) [] (Omv rfl) ?_
   refine Wy (.l enc_GChange p0) [] (Omv rfl) ?_
   refine Wy (.i y4_0) [] (Omv rfl) ?_
   obtain ⟨x14_2, hx14_2, hm⟩ := bnd hm
   obtain ⟨hx14_2i, hx14_2g⟩ := geti_some hx14_2
   refine Wy (.d (.ref (List.drop ((Int.toNat y4_0) * 3) (flatD enc_GChange p0)))) [] (Oia rfl enc_GChange_len hx14_2i hx14_2g) ?_
   refine Wy (.agg [(.i x14_2.Loc), (.i x14_2.Time), (.i x14_2.N)]) [] (Lf rfl enc_GChange_len hx14_2g) ?_
   refine Wy (.own 1) [(1, (.arr 36 3 (List.length ([x14_2] : List GChange)) (flatD enc_GChange ([x14_2] : List GChange))))] (Obs rfl) ?_
   obtain ⟨a17_2, ha17_2, hm⟩ := bnd hm; obtain ⟨ha17_2e, ha17_2l⟩ := app_some ha17_2
   refine Wy (.own 2) [(0, .gone), (2, (.arr 36 3 (List.length a17_2) (flatD enc_GChange a17_2)))] (Oap rfl elemOK_27 enc_GChange_len ha17_2e ha17_2l) ?_
   refine Wy (.own 2) [] (Omv rfl) ?_
   refine Walk.nil ?_
   refine InBlock.normal ?_
   refine Then.normal ?_
   refine Amk 25 4 ⟨((.l enc_GChange p0) :: (tp 2 ((.own 2) :: ((.i y4_0) :: (tp 14 []))))), [.gone, .gone, (.arr 36 3 (List.length a17_2) (flatD enc_GChange a17_2))], 0⟩ ?_
   refine AWP.text ?_
   refine Wy (.i y4_0) [] (Omv rfl) ?_
   refine Wy (.i (IntKind.i64.wrap (y4_0 + 1))) [] (Obn rfl (fun _ => hb_add (k := .i64))) ?_
   refine Wy (.i (IntKind.i64.wrap (y4_0 + 1))) [] (Omv rfl) ?_
   refine Walk.nil ?_
   refine RoundK.normal ?_
   exact Rounds.weak (Weak.toK 25 0 0 [2]) (ih_0 (fu_0, a17_2, (IntKind.i64.wrap (y4_0 + 1))) hm (Nat.lt_succ_self _))
  ·
   replace hm := cF hc8_3 hm
   refine AWP.if_ false (Eq.trans (by kernel_rfl) (lit_tf (b := decide (y4_0 < ((List.length p0 : Nat) : Int))) hc8_3)) ?_
   refine AWP.exit ?_
   refine Then.exit ?_
   refine RoundK.exit ?_
   refine InBlock.same ?_
   refine Then.normal ?_
   refine Amk 8 1 ⟨(tp 3 ((.own 0) :: (tp 15 []))), [(.arr 36 3 (List.length y3_0) (flatD enc_GChange y3_0))], 0⟩ ?_
   refine AWP.seq ?_
   refine AWP.text ?_
   refine Wy (.own 0) [] (Omv rfl) ?_
   refine Wy (.own 0) [] (Omv rfl) ?_
   refine Walk.nil ?_
   refine Then.normal ?_
   refine AWP.ret ?_
   obtain rfl := Option.some.inj hm
   exact ret_i [0]

set_option maxRecDepth 20000 in
set_option maxHeartbeats 4000000 in
theorem ok_telltalelaw26_Back (p0 : (List GChange)) (r : (List GChange)) (h : m_telltalelaw26_Back p0 = some r) : GCall Try.prog 10 [(.l enc_GChange p0)] [] (.own 0) [(.arr 24 3 (List.length r) (flatD enc_GChange r))] := by
 refine GCall.of_body (n := 19) (rs := [(.tmp 2)]) Try.func10 rfl rfl rfl ?_
 refine Ato ⟨((.l enc_GChange p0) :: (tu 18 [])), [], 0⟩ ?_
 have hm := h
 unfold m_telltalelaw26_Back at hm
 refine AWP.seq ?_
 refine AWP.text ?_
 refine Wy (.d .nil) [] (Omv rfl) ?_
 refine Walk.nil ?_
 refine Then.normal ?_
 refine Amk 1 0 ⟨((.l enc_GChange p0) :: (tp 18 [])), [], 0⟩ ?_
 refine AWP.seq ?_
 refine AWP.text ?_
 refine Wy (.d .nil) [] (Omv rfl) ?_
 refine Walk.nil ?_
 refine Then.normal ?_
 refine Amk 9 0 ⟨((.l enc_GChange p0) :: (tp 2 ((.d .nil) :: (tp 15 [])))), [], 0⟩ ?_
 refine AWP.seq ?_
 refine AWP.seq ?_
 refine AWP.text ?_
 refine Wy (.i 0) [] (Omv rfl) ?_
 refine Walk.nil ?_
 refine Then.normal ?_
 refine Amk 25 0 ⟨((.l enc_GChange p0) :: (tp 2 ((.d .nil) :: ((.i 0) :: (tp 14 []))))), [], 0⟩ ?_
 refine AWP.block ?_
 refine Aow 3 24 3 ⟨((.l enc_GChange p0) :: (tp 2 ((.own 0) :: ((.i 0) :: (tp 14 []))))), [(.arr 24 3 (List.length ([] : List GChange)) (flatD enc_GChange ([] : List GChange)))], 0⟩ ?_
 refine AWP.loopI (α := Nat × (List GChange) × Int)
   (fun x => match x with | (fu_0, y3_0, y4_0) => (⟨((.l enc_GChange p0) :: (tp 2 ((.own 0) :: ((.i y4_0) :: (tp 14 []))))), [(.arr 24 3 (List.length y3_0) (flatD enc_GChange y3_0))], 0⟩ : St))
   (fun x => match x with | (fu_0, y3_0, y4_0) => m_telltalelaw26_Back_l0 p0 fu_0 y3_0 y4_0 = some r)
   (fun x => match x with | (fu_0, y3_0, y4_0) => fu_0) (1152921504606846976, ([] : List GChange), 0)
   (Weak.toK 25 0 0 [0]) hm ?_
 rintro ⟨fu_0, y3_0, y4_0⟩ n_0 hm ih_0
 try dsimp only at hm ih_0 ⊢
 cases fu_0 with
 | zero => exact absurd hm (by unfold m_telltalelaw26_Back_l0; simp)
 | succ fu_0 =>
  unfold m_telltalelaw26_Back_l0 at hm
  refine AWP.seq ?_
  refine AWP.seq ?_
  refine AWP.text ?_
  refine Wy (.i y4_0) [] (Omv rfl) ?_
  refine Wy (.l enc_GChange p0) [] (Omv rfl) ?_
  refine Wy (.i ((List.length p0 : Nat) : Int)) [] (Oln rfl) ?_
  refine Wy (.b (decide (y4_0 < ((List.length p0 : Nat) : Int)))) [] (Obn rfl (fun _ => hb_lss (k := .i64))) ?_
  refine Walk.nil ?_
  refine Then.normal ?_
  refine Amk 281 1 ⟨((.l enc_GChange p0) :: (tp 2 ((.own 0) :: ((.i y4_0) :: (tp 3 ((.b (decide (y4_0 < ((List.length p0 : Nat) : Int)))) :: (tp 10 []))))))), [(.arr 24 3 (List.length y3_0) (flatD enc_GChange y3_0))], 0⟩ ?_
  rcases tf_ (decide (y4_0 < ((List.length p0 : Nat) : Int))) with hc8_3 | hc8_3
  ·
   replace hm := cT hc8_3 hm
   refine AWP.if_ true (Eq.trans (by kernel_rfl) (lit_tf (b := decide (y4_0 < ((List.length p0 : Nat) : Int))) hc8_3)) ?_
   refine AWP.skip ?_
   refine Then.normal ?_
   refine Amk 25 1 ⟨((.l enc_GChange p0) :: (tp 2 ((.own 0) :: ((.i y4_0) :: (tp 14 []))))), [(.arr 24 3 (List.length y3_0) (flatD enc_GChange y3_0))], 0⟩ ?_
   refine AWP.seq ?_
   refine AWP.block ?_
   refine AWP.text ?_
   refine Wy (.own 0) [] (Omv rfl) ?_
   refine Wy (.l enc_GChange p0) [] (Omv rfl) ?_
   refine Wy (.i y4_0) [] (Omv rfl) ?_
   obtain ⟨x14_2, hx14_2, hm⟩ := bnd hm
   obtain ⟨hx14_2i, hx14_2g⟩ := geti_some hx14_2
   refine Wy (.d (.ref (List.drop ((Int.toNat y4_0) * 3) (flatD enc_GChange p0)))) [] (Oia rfl enc_GChange_len hx14_2i hx14_2g) ?_
   refine Wy (.agg [(.i x14_2.Loc), (.i x14_2.Time), (.i x14_2.N)]) [] (Lf rfl enc_GChange_len hx14_2g) ?_
   refine Wy (.own 1) [(1, (.arr 24 3 (List.length ([x14_2] : List GChange)) (flatD enc_GChange ([x14_2] : List GChange))))] (Obs rfl) ?_
   obtain ⟨a17_2, ha17_2, hm⟩ := bnd hm; obtain ⟨ha17_2e, ha17_2l⟩ := app_some ha17_2
   refine Wy (.own 2) [(0, .gone), (2, (.arr 24 3 (List.length a17_2) (flatD enc_GChange a17_2)))] (Oap rfl elemOK_22 enc_GChange_len ha17_2e ha17_2l) ?_
   refine Wy (.own 2) [] (Omv rfl) ?_
   refine Walk.nil ?_
   refine InBlock.normal ?_
   refine Then.normal ?_
   refine Amk 25 4 ⟨((.l enc_GChange p0) :: (tp 2 ((.own 2) :: ((.i y4_0) :: (tp 14 []))))), [.gone, .gone, (.arr 24 3 (List.length a17_2) (flatD enc_GChange a17_2))], 0⟩ ?_
   refine AWP.text ?_
   refine Wy (.i y4_0) [] (Omv rfl) ?_
   refine Wy (.i (IntKind.i64.wrap (y4_0 + 1))) [] (Obn rfl (fun _ => hb_add (k := .i64))) ?_
   refine Wy (.i (IntKind.i64.wrap (y4_0 + 1))) [] (Omv rfl) ?_
   refine Walk.nil ?_
   refine RoundK.normal ?_
   exact Rounds.weak (Weak.toK 25 0 0 [2]) (ih_0 (fu_0, a17_2, (IntKind.i64.wrap (y4_0 + 1))) hm (Nat.lt_succ_self _))
  ·
   replace hm := cF hc8_3 hm
   refine AWP.if_ false (Eq.trans (by kernel_rfl) (lit_tf (b := decide (y4_0 < ((List.length p0 : Nat) : Int))) hc8_3)) ?_
   refine AWP.exit ?_
   refine Then.exit ?_
   refine RoundK.exit ?_
   refine InBlock.same ?_
   refine Then.normal ?_
   refine Amk 8 1 ⟨(tp 3 ((.own 0) :: (tp 15 []))), [(.arr 24 3 (List.length y3_0) (flatD enc_GChange y3_0))], 0⟩ ?_
   refine AWP.seq ?_
   refine AWP.text ?_
   refine Wy (.own 0) [] (Omv rfl) ?_
   refine Wy (.own 0) [] (Omv rfl) ?_
   refine Walk.nil ?_
   refine Then.normal ?_
   refine AWP.ret ?_
   obtain rfl := Option.some.inj hm
   exact ret_i [0]

set_option maxRecDepth 20000 in
set_option maxHeartbeats 4000000 in
theorem ok_telltaleref26_before (p0 : GChange) (p1 : GChange) (r : Bool) (h : m_telltaleref26_before p0 p1 = some r) : GCall Try.prog 29 [(.agg [(.i p0.Loc), (.i p0.Time), (.i p0.N)]), (.agg [(.i p1.Loc), (.i p1.Time), (.i p1.N)])] [] (.b r) [] := by
 refine GCall.of_body (n := 24) (rs := [(.tmp 4)]) Try.func29 rfl rfl rfl ?_
 refine Ato ⟨((.agg [(.i p0.Loc), (.i p0.Time), (.i p0.N)]) :: ((.agg [(.i p1.Loc), (.i p1.Time), (.i p1.N)]) :: (tu 22 []))), [], 0⟩ ?_
 have hm := h
 unfold m_telltaleref26_before at hm
 refine AWP.seq ?_
 refine AWP.text ?_
 refine Wy (.loc 0 0) [(0, (.box [(.i p0.Loc), (.i p0.Time), (.i p0.N)]))] (Obx rfl) ?_
 refine Wy (.loc 1 0) [(1, (.box [(.i p1.Loc), (.i p1.Time), (.i p1.N)]))] (Obx rfl) ?_
 refine Wy (.b false) [] (Omv rfl) ?_
 refine Walk.nil ?_
 refine Then.normal ?_
 refine Amk 12 3 ⟨(tp 2 ((.loc 0 0) :: ((.loc 1 0) :: (tp 20 [])))), [(.box [(.i p0.Loc), (.i p0.Time), (.i p0.N)]), (.box [(.i p1.Loc), (.i p1.Time), (.i p1.N)])], 0⟩ ?_
 refine AWP.seq ?_
 refine AWP.text ?_
 refine Wy (.loc 0 0) [] (Ofa rfl) ?_
 refine Wy (.i p0.Loc) [] (Old rfl) ?_
 refine Wy (.loc 1 0) [] (Ofa rfl) ?_
 refine Wy (.i p1.Loc) [] (Old rfl) ?_
 refine Wy (.b (decide (p0.Loc < p1.Loc))) [] (Obn rfl (fun _ => hb_lss (k := .i64))) ?_
 rcases tf_ (decide (p0.Loc < p1.Loc)) with hq10_0 | hq10_0
 ·
  replace hm := cT hq10_0 hm
  refine Wy (.b true) [] (Ocs (lit_tf (b := decide (p0.Loc < p1.Loc)) hq10_0) (Omv rfl)) ?_
  refine Wn ?_
  refine Wn ?_
  refine Wn ?_
  refine Wn ?_
  refine Wn ?_
  refine Wn ?_
  refine Wn ?_
  refine Wn ?_
  refine Wn ?_
  refine Wn ?_
  refine Wn ?_
  refine Wn ?_
  refine Wy (.b true) [] (OpT rfl) ?_
  refine Wy (.b true) [] (Omv rfl) ?_
  refine Walk.nil ?_
  refine Then.normal ?_
  refine AWP.ret ?_
  obtain rfl := Option.some.inj hm
  exact ret_i []
 ·
  replace hm := cF hq10_0 hm
  refine Wy (.b false) [] (Ocs (lit_tf (b := decide (p0.Loc < p1.Loc)) hq10_0) (Omv rfl)) ?_
  refine Wy (.loc 0 0) [] (Ofa rfl) ?_
  refine Wy (.i p0.Loc) [] (Old rfl) ?_
  refine Wy (.loc 1 0) [] (Ofa rfl) ?_
  refine Wy (.i p1.Loc) [] (Old rfl) ?_
  refine Wy (.b (decide (p0.Loc = p1.Loc))) [] (Obn rfl (fun _ => hb_eql (k := .i64))) ?_
  rcases tf_ (decide (p0.Loc = p1.Loc)) with hq16_0 | hq16_0
  ·
   replace hm := cT hq16_0 hm
   refine Wy (.b true) [] (Ocs (lit_tf (b := decide (p0.Loc = p1.Loc)) hq16_0) (Omv rfl)) ?_
   refine Wy (.loc 0 1) [] (Ofa rfl) ?_
   refine Wy (.i p0.Time) [] (Old rfl) ?_
   refine Wy (.loc 1 1) [] (Ofa rfl) ?_
   refine Wy (.i p1.Time) [] (Old rfl) ?_
   refine Wy (.b (decide (p0.Time < p1.Time))) [] (Obn rfl (fun _ => hb_lss (k := .i64))) ?_
   refine Wy (.b (decide (p0.Time < p1.Time))) [] (OpT rfl) ?_
   refine Wy (.b (decide (p0.Time < p1.Time))) [] (OpF rfl) ?_
   refine Wy (.b (decide (p0.Time < p1.Time))) [] (Omv rfl) ?_
   refine Walk.nil ?_
   refine Then.normal ?_
   refine AWP.ret ?_
   obtain rfl := Option.some.inj hm
   exact ret_i []
  ·
   replace hm := cF hq16_0 hm
   refine Wy (.b false) [] (Ocs (lit_tf (b := decide (p0.Loc = p1.Loc)) hq16_0) (Omv rfl)) ?_
   refine Wn ?_
   refine Wn ?_
   refine Wn ?_
   refine Wn ?_
   refine Wn ?_
   refine Wy (.b false) [] (OpF rfl) ?_
   refine Wy (.b false) [] (OpF rfl) ?_
   refine Wy (.b false) [] (Omv rfl) ?_
   refine Walk.nil ?_
   refine Then.normal ?_
   refine AWP.ret ?_
   obtain rfl := Option.some.inj hm
   exact ret_i []

set_option maxRecDepth 20000 in
set_option maxHeartbeats 4000000 in
theorem ok_telltaleref26_Same (p0 : (List GChange)) (p1 : (List GChange)) (r : Bool) (h : m_telltaleref26_Same p0 p1 = some r) : GCall Try.prog 9 [(.l enc_GChange p0), (.l enc_GChange p1)] [] (.b r) [] := by
 refine GCall.of_body (n := 26) (rs := [(.tmp 4)]) Try.func9 rfl rfl rfl ?_
 refine Ato ⟨((.l enc_GChange p0) :: ((.l enc_GChange p1) :: (tu 24 []))), [], 0⟩ ?_
 have hm := h
 unfold m_telltaleref26_Same at hm
 refine AWP.seq ?_
 refine AWP.text ?_
 refine Wy (.b false) [] (Omv rfl) ?_
 refine Walk.nil ?_
 refine Then.normal ?_
 refine Amk 3 0 ⟨((.l enc_GChange p0) :: ((.l enc_GChange p1) :: (tp 24 []))), [], 0⟩ ?_
 refine AWP.seq ?_
 refine AWP.seq ?_
 refine AWP.text ?_
 refine Wy (.l enc_GChange p0) [] (Omv rfl) ?_
 refine Wy (.i ((List.length p0 : Nat) : Int)) [] (Oln rfl) ?_
 refine Wy (.l enc_GChange p1) [] (Omv rfl) ?_
 refine Wy (.i ((List.length p1 : Nat) : Int)) [] (Oln rfl) ?_
 refine Wy (.b (decide (((List.length p0 : Nat) : Int) ≠ ((List.length p1 : Nat) : Int)))) [] (Obn rfl (fun _ => hb_neq (k := .i64))) ?_
 refine Walk.nil ?_
 refine Then.normal ?_
 refine Amk 1027 0 ⟨((.l enc_GChange p0) :: ((.l enc_GChange p1) :: (tp 8 ((.b (decide (((List.length p0 : Nat) : Int) ≠ ((List.length p1 : Nat) : Int)))) :: (tp 15 []))))), [], 0⟩ ?_
 rcases tf_ (decide (((List.length p0 : Nat) : Int) ≠ ((List.length p1 : Nat) : Int))) with hc10_4 | hc10_4
 ·
  replace hm := cT hc10_4 hm
  refine AWP.if_ true (Eq.trans (by kernel_rfl) (lit_tf (b := decide (((List.length p0 : Nat) : Int) ≠ ((List.length p1 : Nat) : Int))) hc10_4)) ?_
  refine AWP.seq ?_
  refine AWP.text ?_
  refine Wy (.b false) [] (Omv rfl) ?_
  refine Walk.nil ?_
  refine Then.normal ?_
  refine AWP.ret ?_
  refine Then.ret ?_
  obtain rfl := Option.some.inj hm
  exact ret_i []
 ·
  replace hm := cF hc10_4 hm
  refine AWP.if_ false (Eq.trans (by kernel_rfl) (lit_tf (b := decide (((List.length p0 : Nat) : Int) ≠ ((List.length p1 : Nat) : Int))) hc10_4)) ?_
  refine AWP.skip ?_
  refine Then.normal ?_
  refine Amk 3 0 ⟨((.l enc_GChange p0) :: ((.l enc_GChange p1) :: (tp 24 []))), [], 0⟩ ?_
  refine AWP.seq ?_
  refine AWP.seq ?_
  refine AWP.text ?_
  refine Wy (.i 0) [] (Omv rfl) ?_
  refine Walk.nil ?_
  refine Then.normal ?_
  refine Amk 35 0 ⟨((.l enc_GChange p0) :: ((.l enc_GChange p1) :: (tp 3 ((.i 0) :: (tp 20 []))))), [], 0⟩ ?_
  refine AWP.block ?_
  refine AWP.loopI (α := Nat × Int)
    (fun x => match x with | (fu_1, y5_1) => (⟨((.l enc_GChange p0) :: ((.l enc_GChange p1) :: (tp 3 ((.i y5_1) :: (tp 20 []))))), [], 0⟩ : St))
    (fun x => match x with | (fu_1, y5_1) => m_telltaleref26_Same_l1 p0 p1 fu_1 y5_1 = some r)
    (fun x => match x with | (fu_1, y5_1) => fu_1) (1152921504606846976, 0)
    (Weak.toK 35 0 0 []) hm ?_
  rintro ⟨fu_1, y5_1⟩ n_1 hm ih_1
  try dsimp only at hm ih_1 ⊢
  cases fu_1 with
  | zero => exact absurd hm (by unfold m_telltaleref26_Same_l1; simp)
  | succ fu_1 =>
   unfold m_telltaleref26_Same_l1 at hm
   refine AWP.seq ?_
   refine AWP.seq ?_
   refine AWP.text ?_
   refine Wy (.i y5_1) [] (Omv rfl) ?_
   refine Wy (.l enc_GChange p0) [] (Omv rfl) ?_
   refine Wy (.i ((List.length p0 : Nat) : Int)) [] (Oln rfl) ?_
   refine Wy (.b (decide (y5_1 < ((List.length p0 : Nat) : Int)))) [] (Obn rfl (fun _ => hb_lss (k := .i64))) ?_
   refine Walk.nil ?_
   refine Then.normal ?_
   refine Amk 16419 0 ⟨((.l enc_GChange p0) :: ((.l enc_GChange p1) :: (tp 3 ((.i y5_1) :: (tp 8 ((.b (decide (y5_1 < ((List.length p0 : Nat) : Int)))) :: (tp 11 []))))))), [], 0⟩ ?_
   rcases tf_ (decide (y5_1 < ((List.length p0 : Nat) : Int))) with hc14_5 | hc14_5
   ·
    replace hm := cT hc14_5 hm
    refine AWP.if_ true (Eq.trans (by kernel_rfl) (lit_tf (b := decide (y5_1 < ((List.length p0 : Nat) : Int))) hc14_5)) ?_
    refine AWP.skip ?_
    refine Then.normal ?_
    refine Amk 35 0 ⟨((.l enc_GChange p0) :: ((.l enc_GChange p1) :: (tp 3 ((.i y5_1) :: (tp 20 []))))), [], 0⟩ ?_
    refine AWP.seq ?_
    refine AWP.block ?_
    refine AWP.seq ?_
    refine Adr ?_
    refine Wy (.l enc_GChange p0) [] (Omv rfl) ?_
    refine Wy (.i y5_1) [] (Omv rfl) ?_
    obtain ⟨x19_3, hx19_3, hm⟩ := bnd hm
    obtain ⟨hx19_3i, hx19_3g⟩ := geti_some hx19_3
    refine Wy (.d (.ref (List.drop ((Int.toNat y5_1) * 3) (flatD enc_GChange p0)))) [] (Oia rfl enc_GChange_len hx19_3i hx19_3g) ?_
    refine Wy (.agg [(.i x19_3.Loc), (.i x19_3.Time), (.i x19_3.N)]) [] (Lf rfl enc_GChange_len hx19_3g) ?_
    refine Wy (.l enc_GChange p1) [] (Omv rfl) ?_
    refine Wy (.i y5_1) [] (Omv rfl) ?_
    obtain ⟨x23_3, hx23_3, hm⟩ := bnd hm
    obtain ⟨hx23_3i, hx23_3g⟩ := geti_some hx23_3
    refine Wy (.d (.ref (List.drop ((Int.toNat y5_1) * 3) (flatD enc_GChange p1)))) [] (Oia rfl enc_GChange_len hx23_3i hx23_3g) ?_
    refine Wy (.agg [(.i x23_3.Loc), (.i x23_3.Time), (.i x23_3.N)]) [] (Lf rfl enc_GChange_len hx23_3g) ?_
    obtain ⟨v25_3, hv25_3, hm⟩ := bnd hm; replace hv25_3 := Option.some.inj hv25_3
    refine Wy (.b v25_3) [] (Ocs (Eq.trans (by kernel_rfl) (congrArg (fun z => A.d (.lit (.bool z))) hv25_3)) (op_neq_struct rfl (la := [(.i x19_3.Loc), (.i x19_3.Time), (.i x19_3.N)]) (lb := [(.i x23_3.Loc), (.i x23_3.Time), (.i x23_3.N)]) (us := [.int .i64 x19_3.Loc, .int .i64 x19_3.Time, .int .i64 x19_3.N]) (vs := [.int .i64 x23_3.Loc, .int .i64 x23_3.Time, .int .i64 x23_3.N]) (r := (decide (x19_3.Loc = x23_3.Loc) && (decide (x19_3.Time = x23_3.Time) && (decide (x19_3.N = x23_3.N) && true)))) (by kernel_rfl) (by kernel_rfl) (by kernel_rfl) (by kernel_rfl) (by kernel_rfl))) ?_
    refine Wdr ?_
    refine Then.normal ?_
    refine Amk 33554467 0 ⟨((.l enc_GChange p0) :: ((.l enc_GChange p1) :: (tp 3 ((.i y5_1) :: (tp 19 ((.b v25_3) :: [])))))), [], 0⟩ ?_
    rcases tf_ v25_3 with hc25_6 | hc25_6
    ·
     replace hm := cT hc25_6 hm
     refine AWP.if_ true (Eq.trans (by kernel_rfl) (lit_tf (b := v25_3) hc25_6)) ?_
     refine AWP.seq ?_
     refine AWP.text ?_
     refine Wy (.b false) [] (Omv rfl) ?_
     refine Walk.nil ?_
     refine Then.normal ?_
     refine AWP.ret ?_
     refine InBlock.ret ?_
     refine Then.ret ?_
     refine RoundK.ret ?_
     refine InBlock.ret ?_
     refine Then.ret ?_
     obtain rfl := Option.some.inj hm
     exact ret_i []
    ·
     replace hm := cF hc25_6 hm
     refine AWP.if_ false (Eq.trans (by kernel_rfl) (lit_tf (b := v25_3) hc25_6)) ?_
     refine AWP.skip ?_
     refine InBlock.normal ?_
     refine Then.normal ?_
     refine Amk 35 0 ⟨((.l enc_GChange p0) :: ((.l enc_GChange p1) :: (tp 3 ((.i y5_1) :: (tp 20 []))))), [], 0⟩ ?_
     refine AWP.text ?_
     refine Wy (.i y5_1) [] (Omv rfl) ?_
     refine Wy (.i (IntKind.i64.wrap (y5_1 + 1))) [] (Obn rfl (fun _ => hb_add (k := .i64))) ?_
     refine Wy (.i (IntKind.i64.wrap (y5_1 + 1))) [] (Omv rfl) ?_
     refine Walk.nil ?_
     refine RoundK.normal ?_
     exact Rounds.weak (Weak.toK 35 0 0 []) (ih_1 (fu_1, (IntKind.i64.wrap (y5_1 + 1))) hm (Nat.lt_succ_self _))
   ·
    replace hm := cF hc14_5 hm
    refine AWP.if_ false (Eq.trans (by kernel_rfl) (lit_tf (b := decide (y5_1 < ((List.length p0 : Nat) : Int))) hc14_5)) ?_
    refine AWP.exit ?_
    refine Then.exit ?_
    refine RoundK.exit ?_
    refine InBlock.same ?_
    refine Then.normal ?_
    refine Amk 0 0 ⟨(tp 26 []), [], 0⟩ ?_
    refine AWP.seq ?_
    refine AWP.text ?_
    refine Wy (.b true) [] (Omv rfl) ?_
    refine Walk.nil ?_
    refine Then.normal ?_
    refine AWP.ret ?_
    obtain rfl := Option.some.inj hm
    exact ret_i []

set_option maxRecDepth 20000 in
set_option maxHeartbeats 4000000 in
theorem ok_telltaleref02_Take (p0 : (List UInt8)) (p1 : Int) (r : (Int × Int × Int)) (h : m_telltaleref02_Take p0 p1 = some r) : GCall Try.prog 34 [(.s p0), (.i p1)] [] (.tup [(.d (.lit (.int .u64 r.1))), (.i r.2.1), (.i r.2.2)]) [] := by
 refine GCall.of_body (n := 63) (rs := [(.tmp 4), (.tmp 5), (.tmp 6)]) Try.func34 rfl rfl rfl ?_
 refine Ato ⟨((.s p0) :: ((.i p1) :: (tu 61 []))), [], 0⟩ ?_
 have hm := h
 unfold m_telltaleref02_Take at hm
 refine AWP.seq ?_
 refine AWP.text ?_
 refine Wy (.d (.lit (.int .u64 0))) [] (Omv rfl) ?_
 refine Wy (.i 0) [] (Omv rfl) ?_
 refine Wy (.i 0) [] (Omv rfl) ?_
 refine Walk.nil ?_
 refine Then.normal ?_
 refine Amk 3 0 ⟨((.s p0) :: ((.i p1) :: (tp 61 []))), [], 0⟩ ?_
 refine AWP.seq ?_
 refine AWP.seq ?_
 refine AWP.text ?_
 refine Wy (.i p1) [] (Omv rfl) ?_
 refine Wy (.b (decide (p1 < 0))) [] (Obn rfl (fun _ => hb_lss (k := .i64))) ?_
 rcases tf_ (decide (p1 < 0)) with hq13_0 | hq13_0
 ·
  replace hm := cT hq13_0 hm
  refine Wy (.b true) [] (Ocs (lit_tf (b := decide (p1 < 0)) hq13_0) (Omv rfl)) ?_
  refine Wn ?_
  refine Wn ?_
  refine Wn ?_
  refine Wn ?_
  refine Wy (.b true) [] (OpT rfl) ?_
  refine Walk.nil ?_
  refine Then.normal ?_
  refine Amk 262147 0 ⟨((.s p0) :: ((.i p1) :: (tp 16 ((.b true) :: (tp 44 []))))), [], 0⟩ ?_
  refine AWP.if_ true (by kernel_rfl) ?_
  refine AWP.seq ?_
  refine AWP.text ?_
  refine Wy (.d (.lit (.int .u64 0))) [] (Omv rfl) ?_
  refine Wy (.i 0) [] (Omv rfl) ?_
  refine Wy (.i 2) [] (Omv rfl) ?_
  refine Walk.nil ?_
  refine Then.normal ?_
  refine AWP.ret ?_
  refine Then.ret ?_
  obtain rfl := Option.some.inj hm
  exact ret_i []
 ·
  replace hm := cF hq13_0 hm
  refine Wy (.b false) [] (Ocs (lit_tf (b := decide (p1 < 0)) hq13_0) (Omv rfl)) ?_
  refine Wy (.i p1) [] (Omv rfl) ?_
  refine Wy (.s p0) [] (Omv rfl) ?_
  refine Wy (.i ((List.length p0 : Nat) : Int)) [] (Oln rfl) ?_
  refine Wy (.b (decide (((List.length p0 : Nat) : Int) < p1))) [] (Obn rfl (fun _ => hb_gtr (k := .i64))) ?_
  refine Wy (.b (decide (((List.length p0 : Nat) : Int) < p1))) [] (OpF rfl) ?_
  refine Walk.nil ?_
  refine Then.normal ?_
  refine Amk 262147 0 ⟨((.s p0) :: ((.i p1) :: (tp 16 ((.b (decide (((List.length p0 : Nat) : Int) < p1))) :: (tp 44 []))))), [], 0⟩ ?_
  rcases tf_ (decide (((List.length p0 : Nat) : Int) < p1)) with hc18_10 | hc18_10
  ·
   replace hm := cT hc18_10 hm
   refine AWP.if_ true (Eq.trans (by kernel_rfl) (lit_tf (b := decide (((List.length p0 : Nat) : Int) < p1)) hc18_10)) ?_
   refine AWP.seq ?_
   refine AWP.text ?_
   refine Wy (.d (.lit (.int .u64 0))) [] (Omv rfl) ?_
   refine Wy (.i 0) [] (Omv rfl) ?_
   refine Wy (.i 2) [] (Omv rfl) ?_
   refine Walk.nil ?_
   refine Then.normal ?_
   refine AWP.ret ?_
   refine Then.ret ?_
   obtain rfl := Option.some.inj hm
   exact ret_i []
  ·
   replace hm := cF hc18_10 hm
   refine AWP.if_ false (Eq.trans (by kernel_rfl) (lit_tf (b := decide (((List.length p0 : Nat) : Int) < p1)) hc18_10)) ?_
   refine AWP.skip ?_
   refine Then.normal ?_
   refine Amk 3 0 ⟨((.s p0) :: ((.i p1) :: (tp 61 []))), [], 0⟩ ?_
   refine AWP.seq ?_
   refine AWP.text ?_
   refine Wy (.d (.lit (.int .u64 0))) [] (Omv rfl) ?_
   refine Wy (.d (.lit (.int .u64 1))) [] (Omv rfl) ?_
   refine Walk.nil ?_
   refine Then.normal ?_
   refine Amk 387 0 ⟨((.s p0) :: ((.i p1) :: (tp 5 ((.d (.lit (.int .u64 0))) :: ((.d (.lit (.int .u64 1))) :: (tp 54 [])))))), [], 0⟩ ?_
   refine AWP.seq ?_
   refine AWP.seq ?_
   refine AWP.text ?_
   refine Wy (.i 0) [] (Omv rfl) ?_
   refine Walk.nil ?_
   refine Then.normal ?_
   refine Amk 899 0 ⟨((.s p0) :: ((.i p1) :: (tp 5 ((.d (.lit (.int .u64 0))) :: ((.d (.lit (.int .u64 1))) :: ((.i 0) :: (tp 53 []))))))), [], 0⟩ ?_
   refine AWP.block ?_
   refine AWP.loopI (α := Nat × Int × Int × Int)
     (fun x => match x with | (fu_1, y7_1, y8_1, y9_1) => (⟨((.s p0) :: ((.i p1) :: (tp 5 ((.d (.lit (.int .u64 y7_1))) :: ((.d (.lit (.int .u64 y8_1))) :: ((.i y9_1) :: (tp 53 []))))))), [], 0⟩ : St))
     (fun x => match x with | (fu_1, y7_1, y8_1, y9_1) => m_telltaleref02_Take_l1 p0 p1 fu_1 y7_1 y8_1 y9_1 = some r)
     (fun x => match x with | (fu_1, y7_1, y8_1, y9_1) => fu_1) (1152921504606846976, 0, 1, 0)
     (Weak.toK 899 0 0 []) hm ?_
   rintro ⟨fu_1, y7_1, y8_1, y9_1⟩ n_1 hm ih_1
   try dsimp only at hm ih_1 ⊢
   cases fu_1 with
   | zero => exact absurd hm (by unfold m_telltaleref02_Take_l1; simp)
   | succ fu_1 =>
    unfold m_telltaleref02_Take_l1 at hm
    refine AWP.seq ?_
    refine AWP.seq ?_
    refine AWP.text ?_
    refine Wy (.i y9_1) [] (Omv rfl) ?_
    refine Wy (.b (decide (y9_1 < 10))) [] (Obn rfl (fun _ => hb_lss (k := .i64))) ?_
    refine Walk.nil ?_
    refine Then.normal ?_
    refine Amk 1049475 0 ⟨((.s p0) :: ((.i p1) :: (tp 5 ((.d (.lit (.int .u64 y7_1))) :: ((.d (.lit (.int .u64 y8_1))) :: ((.i y9_1) :: (tp 10 ((.b (decide (y9_1 < 10))) :: (tp 42 []))))))))), [], 0⟩ ?_
    rcases tf_ (decide (y9_1 < 10)) with hc20_11 | hc20_11
    ·
     replace hm := cT hc20_11 hm
     refine AWP.if_ true (Eq.trans (by kernel_rfl) (lit_tf (b := decide (y9_1 < 10)) hc20_11)) ?_
     refine AWP.skip ?_
     refine Then.normal ?_
     refine Amk 899 0 ⟨((.s p0) :: ((.i p1) :: (tp 5 ((.d (.lit (.int .u64 y7_1))) :: ((.d (.lit (.int .u64 y8_1))) :: ((.i y9_1) :: (tp 53 []))))))), [], 0⟩ ?_
     refine AWP.seq ?_
     refine AWP.block ?_
     refine AWP.seq ?_
     refine AWP.seq ?_
     refine AWP.text ?_
     refine Wy (.i y9_1) [] (Omv rfl) ?_
     refine Wy (.s p0) [] (Omv rfl) ?_
     refine Wy (.i ((List.length p0 : Nat) : Int)) [] (Oln rfl) ?_
     refine Wy (.i p1) [] (Omv rfl) ?_
     refine Wy (.i (IntKind.i64.wrap (((List.length p0 : Nat) : Int) - p1))) [] (Obn rfl (fun _ => hb_sub (k := .i64))) ?_
     refine Wy (.b (decide ((IntKind.i64.wrap (((List.length p0 : Nat) : Int) - p1)) ≤ y9_1))) [] (Obn rfl (fun _ => hb_geq (k := .i64))) ?_
     refine Walk.nil ?_
     refine Then.normal ?_
     refine Amk 268436355 0 ⟨((.s p0) :: ((.i p1) :: (tp 5 ((.d (.lit (.int .u64 y7_1))) :: ((.d (.lit (.int .u64 y8_1))) :: ((.i y9_1) :: (tp 18 ((.b (decide ((IntKind.i64.wrap (((List.length p0 : Nat) : Int) - p1)) ≤ y9_1))) :: (tp 34 []))))))))), [], 0⟩ ?_
     rcases tf_ (decide ((IntKind.i64.wrap (((List.length p0 : Nat) : Int) - p1)) ≤ y9_1)) with hc28_12 | hc28_12
     ·
      replace hm := cT hc28_12 hm
      refine AWP.if_ true (Eq.trans (by kernel_rfl) (lit_tf (b := decide ((IntKind.i64.wrap (((List.length p0 : Nat) : Int) - p1)) ≤ y9_1)) hc28_12)) ?_
      refine AWP.seq ?_
      refine AWP.text ?_
      refine Wy (.d (.lit (.int .u64 0))) [] (Omv rfl) ?_
      refine Wy (.i 0) [] (Omv rfl) ?_
      refine Wy (.i 3) [] (Omv rfl) ?_
      refine Walk.nil ?_
      refine Then.normal ?_
      refine AWP.ret ?_
      refine Then.ret ?_
      refine InBlock.ret ?_
      refine Then.ret ?_
      refine RoundK.ret ?_
      refine InBlock.ret ?_
      refine Then.ret ?_
      obtain rfl := Option.some.inj hm
      exact ret_i []
     ·
      replace hm := cF hc28_12 hm
      refine AWP.if_ false (Eq.trans (by kernel_rfl) (lit_tf (b := decide ((IntKind.i64.wrap (((List.length p0 : Nat) : Int) - p1)) ≤ y9_1)) hc28_12)) ?_
      refine AWP.skip ?_
      refine Then.normal ?_
      refine Amk 899 0 ⟨((.s p0) :: ((.i p1) :: (tp 5 ((.d (.lit (.int .u64 y7_1))) :: ((.d (.lit (.int .u64 y8_1))) :: ((.i y9_1) :: (tp 53 []))))))), [], 0⟩ ?_
      refine AWP.seq ?_
      refine AWP.text ?_
      refine Wy (.s p0) [] (Omv rfl) ?_
      refine Wy (.i p1) [] (Omv rfl) ?_
      refine Wy (.i y9_1) [] (Omv rfl) ?_
      refine Wy (.i (IntKind.i64.wrap (p1 + y9_1))) [] (Obn rfl (fun _ => hb_add (k := .i64))) ?_
      obtain ⟨x33_3, hx33_3, hm⟩ := bnd hm
      obtain ⟨hx33_3i, hx33_3g⟩ := geti_some hx33_3
      refine Wy (.y x33_3) [] (Ocs (by kernel_rfl) (op_index_str rfl (by kernel_rfl) (s := toS p0) (by kernel_rfl) (k := .i64) (iv := (IntKind.i64.wrap (p1 + y9_1))) (by kernel_rfl) (i := (Int.toNat (IntKind.i64.wrap (p1 + y9_1)))) (hx33_3i) (b := x33_3) (hx33_3g))) ?_
      refine Wy (.i ((x33_3.toNat : Nat) : Int)) [] (Ocs (lit_int (wrap_of_u8 (by decide) _)) (op_convert rfl (a1 := .int .u8 ((x33_3.toNat : Nat) : Int)) (by kernel_rfl) (run_conv (ds := .int .u8) (k' := .i64) (by kernel_rfl) (by kernel_rfl)))) ?_
      refine Wy (.i ((x33_3.toNat : Nat) : Int)) [] (Omv rfl) ?_
      refine Walk.nil ?_
      refine Then.normal ?_
      refine Amk 1923 0 ⟨((.s p0) :: ((.i p1) :: (tp 5 ((.d (.lit (.int .u64 y7_1))) :: ((.d (.lit (.int .u64 y8_1))) :: ((.i y9_1) :: ((.i ((x33_3.toNat : Nat) : Int)) :: (tp 52 [])))))))), [], 0⟩ ?_
      refine AWP.cutJ (α := Unit) (fun x => match x with | () => (⟨((.s p0) :: ((.i p1) :: (tp 5 ((.d (.lit (.int .u64 y7_1))) :: ((.d (.lit (.int .u64 y8_1))) :: ((.i y9_1) :: ((.i ((x33_3.toNat : Nat) : Int)) :: (tp 52 [])))))))), [], 0⟩ : St)) (fun x => match x with | () => m_telltaleref02_Take_j8 p1 x33_3 y7_1 y8_1 y9_1 (fun y7_1 y8_1 y9_1 => m_telltaleref02_Take_l1 p0 p1 fu_1 y7_1 y8_1 y9_1) = some r) ?_ (fun J8 => ?_)
      ·
       rintro ⟨⟩ hm
       try dsimp only at hm ⊢
       unfold m_telltaleref02_Take_j8 at hm
       refine AWP.cutJ (α := Unit) (fun x => match x with | () => (⟨((.s p0) :: ((.i p1) :: (tp 5 ((.d (.lit (.int .u64 y7_1))) :: ((.d (.lit (.int .u64 y8_1))) :: ((.i y9_1) :: ((.i ((x33_3.toNat : Nat) : Int)) :: (tp 52 [])))))))), [], 0⟩ : St)) (fun x => match x with | () => m_telltaleref02_Take_j9 p1 x33_3 y7_1 y8_1 y9_1 (fun y7_1 y8_1 y9_1 => m_telltaleref02_Take_l1 p0 p1 fu_1 y7_1 y8_1 y9_1) = some r) ?_ (fun J9 => ?_)
       ·
        rintro ⟨⟩ hm
        try dsimp only at hm ⊢
        unfold m_telltaleref02_Take_j9 at hm
        refine AWP.seq ?_
        refine AWP.text ?_
        refine Wy (.d (.lit (.int .u64 y7_1))) [] (Omv rfl) ?_
        refine Wy (.i ((x33_3.toNat : Nat) : Int)) [] (Omv rfl) ?_
        refine Wy (.i (Int.tmod ((x33_3.toNat : Nat) : Int) 128)) [] (Ocs (by kernel_rfl) (op_bin rfl (a1 := .int .i64 ((x33_3.toNat : Nat) : Int)) (a2 := .int .i64 128) (by kernel_rfl) (by kernel_rfl) (fun _ => hb_rem (by decide)))) ?_
        refine Wy (.d (.lit (.int .u64 (IntKind.u64.wrap (Int.tmod ((x33_3.toNat : Nat) : Int) 128))))) [] (Ocs (by kernel_rfl) (op_convert rfl (a1 := .int .i64 (Int.tmod ((x33_3.toNat : Nat) : Int) 128)) (by kernel_rfl) (run_conv (ds := .int .i64) (k' := .u64) (by kernel_rfl) (by kernel_rfl)))) ?_
        refine Wy (.d (.lit (.int .u64 y8_1))) [] (Omv rfl) ?_
        refine Wy (.d (.lit (.int .u64 (IntKind.u64.wrap ((IntKind.u64.wrap (Int.tmod ((x33_3.toNat : Nat) : Int) 128)) * y8_1))))) [] (Obn rfl (fun _ => hb_mul (k := .u64))) ?_
        obtain ⟨v53_6, hv53_6, hm⟩ := bnd hm; replace hv53_6 := Option.some.inj hv53_6
        refine Wy (.d (.lit (.int .u64 v53_6))) [] (Ocs (congrArg (fun z => A.d (.lit (.int .u64 z))) hv53_6) (Obn rfl (fun _ => hb_add (k := .u64)))) ?_
        refine Wy (.d (.lit (.int .u64 v53_6))) [] (Omv rfl) ?_
        refine Walk.nil ?_
        refine Then.normal ?_
        refine Amk 1923 0 ⟨((.s p0) :: ((.i p1) :: (tp 5 ((.d (.lit (.int .u64 v53_6))) :: ((.d (.lit (.int .u64 y8_1))) :: ((.i y9_1) :: ((.i ((x33_3.toNat : Nat) : Int)) :: (tp 52 [])))))))), [], 0⟩ ?_
        refine AWP.seq ?_
        refine AWP.text ?_
        refine Wy (.d (.lit (.int .u64 y8_1))) [] (Omv rfl) ?_
        refine Wy (.d (.lit (.int .u64 (IntKind.u64.wrap (y8_1 * 128))))) [] (Obn rfl (fun _ => hb_mul (k := .u64))) ?_
        refine Wy (.d (.lit (.int .u64 (IntKind.u64.wrap (y8_1 * 128))))) [] (Omv rfl) ?_
        refine Walk.nil ?_
        refine Then.normal ?_
        refine Amk 1923 0 ⟨((.s p0) :: ((.i p1) :: (tp 5 ((.d (.lit (.int .u64 v53_6))) :: ((.d (.lit (.int .u64 (IntKind.u64.wrap (y8_1 * 128))))) :: ((.i y9_1) :: ((.i ((x33_3.toNat : Nat) : Int)) :: (tp 52 [])))))))), [], 0⟩ ?_
        refine AWP.seq ?_
        refine AWP.text ?_
        refine Wy (.i ((x33_3.toNat : Nat) : Int)) [] (Omv rfl) ?_
        refine Wy (.b (decide (((x33_3.toNat : Nat) : Int) < 128))) [] (Obn rfl (fun _ => hb_lss (k := .i64))) ?_
        refine Walk.nil ?_
        refine Then.normal ?_
        refine Amk 144115188075856771 0 ⟨((.s p0) :: ((.i p1) :: (tp 5 ((.d (.lit (.int .u64 v53_6))) :: ((.d (.lit (.int .u64 (IntKind.u64.wrap (y8_1 * 128))))) :: ((.i y9_1) :: (tp 47 ((.b (decide (((x33_3.toNat : Nat) : Int) < 128))) :: (tp 5 []))))))))), [], 0⟩ ?_
        rcases tf_ (decide (((x33_3.toNat : Nat) : Int) < 128)) with hc57_13 | hc57_13
        ·
         replace hm := cT hc57_13 hm
         refine AWP.if_ true (Eq.trans (by kernel_rfl) (lit_tf (b := decide (((x33_3.toNat : Nat) : Int) < 128)) hc57_13)) ?_
         refine AWP.seq ?_
         refine AWP.text ?_
         refine Wy (.d (.lit (.int .u64 v53_6))) [] (Omv rfl) ?_
         refine Wy (.i p1) [] (Omv rfl) ?_
         refine Wy (.i y9_1) [] (Omv rfl) ?_
         refine Wy (.i (IntKind.i64.wrap (p1 + y9_1))) [] (Obn rfl (fun _ => hb_add (k := .i64))) ?_
         refine Wy (.i (IntKind.i64.wrap ((IntKind.i64.wrap (p1 + y9_1)) + 1))) [] (Obn rfl (fun _ => hb_add (k := .i64))) ?_
         refine Wy (.d (.lit (.int .u64 v53_6))) [] (Omv rfl) ?_
         refine Wy (.i (IntKind.i64.wrap ((IntKind.i64.wrap (p1 + y9_1)) + 1))) [] (Omv rfl) ?_
         refine Wy (.i 0) [] (Omv rfl) ?_
         refine Walk.nil ?_
         refine Then.normal ?_
         refine AWP.ret ?_
         refine InBlock.ret ?_
         refine Then.ret ?_
         refine RoundK.ret ?_
         refine InBlock.ret ?_
         refine Then.ret ?_
         obtain rfl := Option.some.inj hm
         exact ret_i []
        ·
         replace hm := cF hc57_13 hm
         refine AWP.if_ false (Eq.trans (by kernel_rfl) (lit_tf (b := decide (((x33_3.toNat : Nat) : Int) < 128)) hc57_13)) ?_
         refine AWP.skip ?_
         refine InBlock.normal ?_
         refine Then.normal ?_
         refine Amk 899 0 ⟨((.s p0) :: ((.i p1) :: (tp 5 ((.d (.lit (.int .u64 v53_6))) :: ((.d (.lit (.int .u64 (IntKind.u64.wrap (y8_1 * 128))))) :: ((.i y9_1) :: (tp 53 []))))))), [], 0⟩ ?_
         refine AWP.text ?_
         refine Wy (.i y9_1) [] (Omv rfl) ?_
         refine Wy (.i (IntKind.i64.wrap (y9_1 + 1))) [] (Obn rfl (fun _ => hb_add (k := .i64))) ?_
         refine Wy (.i (IntKind.i64.wrap (y9_1 + 1))) [] (Omv rfl) ?_
         refine Walk.nil ?_
         refine RoundK.normal ?_
         exact Rounds.weak (Weak.toK 899 0 0 []) (ih_1 (fu_1, v53_6, (IntKind.u64.wrap (y8_1 * 128)), (IntKind.i64.wrap (y9_1 + 1))) hm (Nat.lt_succ_self _))
       refine AWP.seq ?_
       refine AWP.seq ?_
       refine AWP.text ?_
       refine Wy (.i ((x33_3.toNat : Nat) : Int)) [] (Omv rfl) ?_
       refine Wy (.b (decide (((x33_3.toNat : Nat) : Int) = 0))) [] (Obn rfl (fun _ => hb_eql (k := .i64))) ?_
       rcases tf_ (decide (((x33_3.toNat : Nat) : Int) = 0)) with hq43_4 | hq43_4
       ·
        replace hm := cT hq43_4 hm
        refine Wy (.b true) [] (Ocs (lit_tf (b := decide (((x33_3.toNat : Nat) : Int) = 0)) hq43_4) (Omv rfl)) ?_
        refine Wy (.i y9_1) [] (Omv rfl) ?_
        refine Wy (.b (decide ((0 : Int) < y9_1))) [] (Obn rfl (fun _ => hb_gtr (k := .i64))) ?_
        refine Wy (.b (decide ((0 : Int) < y9_1))) [] (OpT rfl) ?_
        refine Walk.nil ?_
        refine Then.normal ?_
        refine Amk 70368744179587 0 ⟨((.s p0) :: ((.i p1) :: (tp 5 ((.d (.lit (.int .u64 y7_1))) :: ((.d (.lit (.int .u64 y8_1))) :: ((.i y9_1) :: ((.i ((x33_3.toNat : Nat) : Int)) :: (tp 35 ((.b (decide ((0 : Int) < y9_1))) :: (tp 16 [])))))))))), [], 0⟩ ?_
        rcases tf_ (decide ((0 : Int) < y9_1)) with hc46_5 | hc46_5
        ·
         replace hm := cT hc46_5 hm
         refine AWP.if_ true (Eq.trans (by kernel_rfl) (lit_tf (b := decide ((0 : Int) < y9_1)) hc46_5)) ?_
         refine AWP.seq ?_
         refine AWP.text ?_
         refine Wy (.d (.lit (.int .u64 0))) [] (Omv rfl) ?_
         refine Wy (.i 0) [] (Omv rfl) ?_
         refine Wy (.i 4) [] (Omv rfl) ?_
         refine Walk.nil ?_
         refine Then.normal ?_
         refine AWP.ret ?_
         refine Then.ret ?_
         refine InBlock.ret ?_
         refine Then.ret ?_
         refine RoundK.ret ?_
         refine InBlock.ret ?_
         refine Then.ret ?_
         obtain rfl := Option.some.inj hm
         exact ret_i []
        ·
         replace hm := cF hc46_5 hm
         refine AWP.if_ false (Eq.trans (by kernel_rfl) (lit_tf (b := decide ((0 : Int) < y9_1)) hc46_5)) ?_
         refine AWP.skip ?_
         refine Then.normal ?_
         exact AWP.weak (Weak.toK 1923 0 0 []) (J9 () hm)
       ·
        replace hm := cF hq43_4 hm
        refine Wy (.b false) [] (Ocs (lit_tf (b := decide (((x33_3.toNat : Nat) : Int) = 0)) hq43_4) (Omv rfl)) ?_
        refine Wn ?_
        refine Wn ?_
        refine Wy (.b false) [] (OpF rfl) ?_
        refine Walk.nil ?_
        refine Then.normal ?_
        refine Amk 70368744179587 0 ⟨((.s p0) :: ((.i p1) :: (tp 5 ((.d (.lit (.int .u64 y7_1))) :: ((.d (.lit (.int .u64 y8_1))) :: ((.i y9_1) :: ((.i ((x33_3.toNat : Nat) : Int)) :: (tp 35 ((.b false) :: (tp 16 [])))))))))), [], 0⟩ ?_
        refine AWP.if_ false (by kernel_rfl) ?_
        refine AWP.skip ?_
        refine Then.normal ?_
        exact AWP.weak (Weak.toK 1923 0 0 []) (J9 () hm)
      refine AWP.seq ?_
      refine AWP.seq ?_
      refine AWP.text ?_
      refine Wy (.i y9_1) [] (Omv rfl) ?_
      refine Wy (.b (decide (y9_1 = 9))) [] (Obn rfl (fun _ => hb_eql (k := .i64))) ?_
      rcases tf_ (decide (y9_1 = 9)) with hq37_7 | hq37_7
      ·
       replace hm := cT hq37_7 hm
       refine Wy (.b true) [] (Ocs (lit_tf (b := decide (y9_1 = 9)) hq37_7) (Omv rfl)) ?_
       refine Wy (.i ((x33_3.toNat : Nat) : Int)) [] (Omv rfl) ?_
       refine Wy (.b (decide ((1 : Int) < ((x33_3.toNat : Nat) : Int)))) [] (Obn rfl (fun _ => hb_gtr (k := .i64))) ?_
       refine Wy (.b (decide ((1 : Int) < ((x33_3.toNat : Nat) : Int)))) [] (OpT rfl) ?_
       refine Walk.nil ?_
       refine Then.normal ?_
       refine Amk 1099511629699 0 ⟨((.s p0) :: ((.i p1) :: (tp 5 ((.d (.lit (.int .u64 y7_1))) :: ((.d (.lit (.int .u64 y8_1))) :: ((.i y9_1) :: ((.i ((x33_3.toNat : Nat) : Int)) :: (tp 29 ((.b (decide ((1 : Int) < ((x33_3.toNat : Nat) : Int)))) :: (tp 22 [])))))))))), [], 0⟩ ?_
       rcases tf_ (decide ((1 : Int) < ((x33_3.toNat : Nat) : Int))) with hc40_14 | hc40_14
       ·
        replace hm := cT hc40_14 hm
        refine AWP.if_ true (Eq.trans (by kernel_rfl) (lit_tf (b := decide ((1 : Int) < ((x33_3.toNat : Nat) : Int))) hc40_14)) ?_
        refine AWP.seq ?_
        refine AWP.text ?_
        refine Wy (.d (.lit (.int .u64 0))) [] (Omv rfl) ?_
        refine Wy (.i 0) [] (Omv rfl) ?_
        refine Wy (.i 8) [] (Omv rfl) ?_
        refine Walk.nil ?_
        refine Then.normal ?_
        refine AWP.ret ?_
        refine Then.ret ?_
        refine InBlock.ret ?_
        refine Then.ret ?_
        refine RoundK.ret ?_
        refine InBlock.ret ?_
        refine Then.ret ?_
        obtain rfl := Option.some.inj hm
        exact ret_i []
       ·
        replace hm := cF hc40_14 hm
        refine AWP.if_ false (Eq.trans (by kernel_rfl) (lit_tf (b := decide ((1 : Int) < ((x33_3.toNat : Nat) : Int))) hc40_14)) ?_
        refine AWP.skip ?_
        refine Then.normal ?_
        exact AWP.weak (Weak.toK 1923 0 0 []) (J8 () hm)
      ·
       replace hm := cF hq37_7 hm
       refine Wy (.b false) [] (Ocs (lit_tf (b := decide (y9_1 = 9)) hq37_7) (Omv rfl)) ?_
       refine Wn ?_
       refine Wn ?_
       refine Wy (.b false) [] (OpF rfl) ?_
       refine Walk.nil ?_
       refine Then.normal ?_
       refine Amk 1099511629699 0 ⟨((.s p0) :: ((.i p1) :: (tp 5 ((.d (.lit (.int .u64 y7_1))) :: ((.d (.lit (.int .u64 y8_1))) :: ((.i y9_1) :: ((.i ((x33_3.toNat : Nat) : Int)) :: (tp 29 ((.b false) :: (tp 22 [])))))))))), [], 0⟩ ?_
       refine AWP.if_ false (by kernel_rfl) ?_
       refine AWP.skip ?_
       refine Then.normal ?_
       exact AWP.weak (Weak.toK 1923 0 0 []) (J8 () hm)
    ·
     replace hm := cF hc20_11 hm
     refine AWP.if_ false (Eq.trans (by kernel_rfl) (lit_tf (b := decide (y9_1 < 10)) hc20_11)) ?_
     refine AWP.exit ?_
     refine Then.exit ?_
     refine RoundK.exit ?_
     refine InBlock.same ?_
     refine Then.normal ?_
     refine Amk 0 0 ⟨(tp 63 []), [], 0⟩ ?_
     refine AWP.seq ?_
     refine AWP.text ?_
     refine Wy (.d (.lit (.int .u64 0))) [] (Omv rfl) ?_
     refine Wy (.i 0) [] (Omv rfl) ?_
     refine Wy (.i 8) [] (Omv rfl) ?_
     refine Walk.nil ?_
     refine Then.normal ?_
     refine AWP.ret ?_
     obtain rfl := Option.some.inj hm
     exact ret_i []

set_option maxRecDepth 20000 in
set_option maxHeartbeats 4000000 in
theorem ok_telltaleref02_Back (p0 : Int) (r : Int) (h : m_telltaleref02_Back p0 = some r) : GCall Try.prog 35 [(.d (.lit (.int .u64 p0)))] [] (.i r) [] := by
 refine GCall.of_body (n := 14) (rs := [(.tmp 2)]) Try.func35 rfl rfl rfl ?_
 refine Ato ⟨((.d (.lit (.int .u64 p0))) :: (tu 13 [])), [], 0⟩ ?_
 have hm := h
 unfold m_telltaleref02_Back at hm
 refine AWP.seq ?_
 refine AWP.text ?_
 refine Wy (.i 0) [] (Omv rfl) ?_
 refine Walk.nil ?_
 refine Then.normal ?_
 refine Amk 1 0 ⟨((.d (.lit (.int .u64 p0))) :: (tp 13 [])), [], 0⟩ ?_
 refine AWP.seq ?_
 refine AWP.seq ?_
 refine AWP.text ?_
 refine Wy (.d (.lit (.int .u64 p0))) [] (Omv rfl) ?_
 refine Wy (.d (.lit (.int .u64 (Int.tmod p0 2)))) [] (Ocs (by kernel_rfl) (op_bin rfl (a1 := .int .u64 p0) (a2 := .int .u64 2) (by kernel_rfl) (by kernel_rfl) (fun _ => hb_rem (by decide)))) ?_
 refine Wy (.b (decide ((Int.tmod p0 2) = 1))) [] (Obn rfl (fun _ => hb_eql (k := .u64))) ?_
 refine Walk.nil ?_
 refine Then.normal ?_
 refine Amk 33 0 ⟨((.d (.lit (.int .u64 p0))) :: (tp 4 ((.b (decide ((Int.tmod p0 2) = 1))) :: (tp 8 [])))), [], 0⟩ ?_
 rcases tf_ (decide ((Int.tmod p0 2) = 1)) with hc5_2 | hc5_2
 ·
  replace hm := cT hc5_2 hm
  refine AWP.if_ true (Eq.trans (by kernel_rfl) (lit_tf (b := decide ((Int.tmod p0 2) = 1)) hc5_2)) ?_
  refine AWP.seq ?_
  refine AWP.text ?_
  refine Wy (.d (.lit (.int .u64 p0))) [] (Omv rfl) ?_
  refine Wy (.d (.lit (.int .u64 (IntKind.u64.wrap (Int.tdiv p0 2))))) [] (Ocs (by kernel_rfl) (op_bin rfl (a1 := .int .u64 p0) (a2 := .int .u64 2) (by kernel_rfl) (by kernel_rfl) (fun _ => hb_quo (by decide)))) ?_
  refine Wy (.i (IntKind.i64.wrap (IntKind.u64.wrap (Int.tdiv p0 2)))) [] (Ocs (by kernel_rfl) (op_convert rfl (a1 := .int .u64 (IntKind.u64.wrap (Int.tdiv p0 2))) (by kernel_rfl) (run_conv (ds := .int .u64) (k' := .i64) (by kernel_rfl) (by kernel_rfl)))) ?_
  refine Wy (.i (IntKind.i64.wrap (0 - (IntKind.i64.wrap (IntKind.u64.wrap (Int.tdiv p0 2)))))) [] (Ocs (by kernel_rfl) (op_un rfl (a1 := .int .i64 (IntKind.i64.wrap (IntKind.u64.wrap (Int.tdiv p0 2)))) (by kernel_rfl) (fun _ => hu_neg))) ?_
  refine Wy (.i (IntKind.i64.wrap ((IntKind.i64.wrap (0 - (IntKind.i64.wrap (IntKind.u64.wrap (Int.tdiv p0 2))))) - 1))) [] (Obn rfl (fun _ => hb_sub (k := .i64))) ?_
  refine Wy (.i (IntKind.i64.wrap ((IntKind.i64.wrap (0 - (IntKind.i64.wrap (IntKind.u64.wrap (Int.tdiv p0 2))))) - 1))) [] (Omv rfl) ?_
  refine Walk.nil ?_
  refine Then.normal ?_
  refine AWP.ret ?_
  refine Then.ret ?_
  obtain rfl := Option.some.inj hm
  exact ret_i []
 ·
  replace hm := cF hc5_2 hm
  refine AWP.if_ false (Eq.trans (by kernel_rfl) (lit_tf (b := decide ((Int.tmod p0 2) = 1)) hc5_2)) ?_
  refine AWP.skip ?_
  refine Then.normal ?_
  refine Amk 1 0 ⟨((.d (.lit (.int .u64 p0))) :: (tp 13 [])), [], 0⟩ ?_
  refine AWP.seq ?_
  refine AWP.text ?_
  refine Wy (.d (.lit (.int .u64 p0))) [] (Omv rfl) ?_
  refine Wy (.d (.lit (.int .u64 (IntKind.u64.wrap (Int.tdiv p0 2))))) [] (Ocs (by kernel_rfl) (op_bin rfl (a1 := .int .u64 p0) (a2 := .int .u64 2) (by kernel_rfl) (by kernel_rfl) (fun _ => hb_quo (by decide)))) ?_
  refine Wy (.i (IntKind.i64.wrap (IntKind.u64.wrap (Int.tdiv p0 2)))) [] (Ocs (by kernel_rfl) (op_convert rfl (a1 := .int .u64 (IntKind.u64.wrap (Int.tdiv p0 2))) (by kernel_rfl) (run_conv (ds := .int .u64) (k' := .i64) (by kernel_rfl) (by kernel_rfl)))) ?_
  refine Wy (.i (IntKind.i64.wrap (IntKind.u64.wrap (Int.tdiv p0 2)))) [] (Omv rfl) ?_
  refine Walk.nil ?_
  refine Then.normal ?_
  refine AWP.ret ?_
  obtain rfl := Option.some.inj hm
  exact ret_i []

set_option maxRecDepth 20000 in
set_option maxHeartbeats 4000000 in
theorem ok_telltaleref26_Take (p0 : (List UInt8)) (p1 : Int) (r : ((List GChange) × Int × Int)) (h : m_telltaleref26_Take p0 p1 = some r) : GCall Try.prog 22 [(.s p0), (.i p1)] [] (.tup [(.own 0), (.i r.2.1), (.i r.2.2)]) [(.arr 24 3 (List.length r.1) (flatD enc_GChange r.1))] := by
 refine GCall.of_body (n := 96) (rs := [(.tmp 4), (.tmp 5), (.tmp 6)]) Try.func22 rfl rfl rfl ?_
 refine Ato ⟨((.s p0) :: ((.i p1) :: (tu 94 []))), [], 0⟩ ?_
 have hm := h
 unfold m_telltaleref26_Take at hm
 refine AWP.seq ?_
 refine AWP.text ?_
 refine Wy (.d .nil) [] (Omv rfl) ?_
 refine Wy (.i 0) [] (Omv rfl) ?_
 refine Wy (.i 0) [] (Omv rfl) ?_
 refine Walk.nil ?_
 refine Then.normal ?_
 refine Amk 3 0 ⟨((.s p0) :: ((.i p1) :: (tp 94 []))), [], 0⟩ ?_
 refine AWP.seq ?_
 refine AWP.text ?_
 refine Wy (.s p0) [] (Omv rfl) ?_
 refine Wy (.i p1) [] (Omv rfl) ?_
 obtain ⟨r21_0, hr21_0, hm⟩ := bnd hm
 refine Wy (.tup [(.d (.lit (.int .u64 r21_0.1))), (.i r21_0.2.1), (.i r21_0.2.2)]) [] (Ocf [] [] [] 0 (ok_telltaleref02_Take p0 p1 r21_0 hr21_0) (fun a w => Try.call34 a w) rfl trivial) ?_
 refine Wy (.tup [(.d (.lit (.int .u64 r21_0.1))), (.i r21_0.2.1), (.i r21_0.2.2)]) [] (Omv rfl) ?_
 refine Wy (.d (.lit (.int .u64 r21_0.1))) [] (Oex rfl) ?_
 refine Wy (.i r21_0.2.1) [] (Oex rfl) ?_
 refine Wy (.i r21_0.2.2) [] (Oex rfl) ?_
 refine Wy (.d (.lit (.int .u64 r21_0.1))) [] (Omv rfl) ?_
 refine Wy (.i r21_0.2.1) [] (Omv rfl) ?_
 refine Wy (.i r21_0.2.2) [] (Omv rfl) ?_
 refine Walk.nil ?_
 refine Then.normal ?_
 refine Amk 897 0 ⟨((.s p0) :: (tp 6 ((.d (.lit (.int .u64 r21_0.1))) :: ((.i r21_0.2.1) :: ((.i r21_0.2.2) :: (tp 86 [])))))), [], 0⟩ ?_
 refine AWP.seq ?_
 refine AWP.seq ?_
 refine AWP.text ?_
 refine Wy (.i r21_0.2.2) [] (Omv rfl) ?_
 refine Wy (.b (decide (r21_0.2.2 ≠ 0))) [] (Obn rfl (fun _ => hb_neq (k := .i64))) ?_
 refine Walk.nil ?_
 refine Then.normal ?_
 refine Amk 67109761 0 ⟨((.s p0) :: (tp 6 ((.d (.lit (.int .u64 r21_0.1))) :: ((.i r21_0.2.1) :: ((.i r21_0.2.2) :: (tp 16 ((.b (decide (r21_0.2.2 ≠ 0))) :: (tp 69 [])))))))), [], 0⟩ ?_
 rcases tf_ (decide (r21_0.2.2 ≠ 0)) with hc26_10 | hc26_10
 ·
  replace hm := cT hc26_10 hm
  refine AWP.if_ true (Eq.trans (by kernel_rfl) (lit_tf (b := decide (r21_0.2.2 ≠ 0)) hc26_10)) ?_
  refine AWP.seq ?_
  refine AWP.text ?_
  refine Wy (.i r21_0.2.2) [] (Omv rfl) ?_
  refine Wy (.d .nil) [] (Omv rfl) ?_
  refine Wy (.i 0) [] (Omv rfl) ?_
  refine Wy (.i r21_0.2.2) [] (Omv rfl) ?_
  refine Walk.nil ?_
  refine Then.normal ?_
  refine Aow 4 24 3 ⟨((.s p0) :: (tp 3 ((.own 0) :: ((.i 0) :: ((.i r21_0.2.2) :: ((.d (.lit (.int .u64 r21_0.1))) :: ((.i r21_0.2.1) :: ((.i r21_0.2.2) :: (tp 16 ((.b (decide (r21_0.2.2 ≠ 0))) :: ((.i r21_0.2.2) :: (tp 68 [])))))))))))), [(.arr 24 3 (List.length ([] : List GChange)) (flatD enc_GChange ([] : List GChange)))], 0⟩ ?_
  refine AWP.ret ?_
  refine Then.ret ?_
  obtain rfl := Option.some.inj hm
  exact ret_i [0]
 ·
  replace hm := cF hc26_10 hm
  refine AWP.if_ false (Eq.trans (by kernel_rfl) (lit_tf (b := decide (r21_0.2.2 ≠ 0)) hc26_10)) ?_
  refine AWP.skip ?_
  refine Then.normal ?_
  refine Amk 385 0 ⟨((.s p0) :: (tp 6 ((.d (.lit (.int .u64 r21_0.1))) :: ((.i r21_0.2.1) :: (tp 87 []))))), [], 0⟩ ?_
  refine AWP.seq ?_
  refine AWP.seq ?_
  refine AWP.text ?_
  refine Wy (.d (.lit (.int .u64 r21_0.1))) [] (Omv rfl) ?_
  refine Wy (.b (decide ((1000 : Int) < r21_0.1))) [] (Obn rfl (fun _ => hb_gtr (k := .u64))) ?_
  refine Walk.nil ?_
  refine Then.normal ?_
  refine Amk 536871297 0 ⟨((.s p0) :: (tp 6 ((.d (.lit (.int .u64 r21_0.1))) :: ((.i r21_0.2.1) :: (tp 20 ((.b (decide ((1000 : Int) < r21_0.1))) :: (tp 66 []))))))), [], 0⟩ ?_
  rcases tf_ (decide ((1000 : Int) < r21_0.1)) with hc29_11 | hc29_11
  ·
   replace hm := cT hc29_11 hm
   refine AWP.if_ true (Eq.trans (by kernel_rfl) (lit_tf (b := decide ((1000 : Int) < r21_0.1)) hc29_11)) ?_
   refine AWP.seq ?_
   refine AWP.text ?_
   refine Wy (.d .nil) [] (Omv rfl) ?_
   refine Wy (.i 0) [] (Omv rfl) ?_
   refine Wy (.i 5) [] (Omv rfl) ?_
   refine Walk.nil ?_
   refine Then.normal ?_
   refine Aow 4 24 3 ⟨((.s p0) :: (tp 3 ((.own 0) :: ((.i 0) :: ((.i 5) :: ((.d (.lit (.int .u64 r21_0.1))) :: ((.i r21_0.2.1) :: (tp 20 ((.b (decide ((1000 : Int) < r21_0.1))) :: (tp 66 [])))))))))), [(.arr 24 3 (List.length ([] : List GChange)) (flatD enc_GChange ([] : List GChange)))], 0⟩ ?_
   refine AWP.ret ?_
   refine Then.ret ?_
   obtain rfl := Option.some.inj hm
   exact ret_i [0]
  ·
   replace hm := cF hc29_11 hm
   refine AWP.if_ false (Eq.trans (by kernel_rfl) (lit_tf (b := decide ((1000 : Int) < r21_0.1)) hc29_11)) ?_
   refine AWP.skip ?_
   refine Then.normal ?_
   refine Amk 385 0 ⟨((.s p0) :: (tp 6 ((.d (.lit (.int .u64 r21_0.1))) :: ((.i r21_0.2.1) :: (tp 87 []))))), [], 0⟩ ?_
   refine AWP.seq ?_
   refine AWP.text ?_
   refine Wy (.d .nil) [] (Omv rfl) ?_
   refine Walk.nil ?_
   refine Then.normal ?_
   refine Amk 1409 0 ⟨((.s p0) :: (tp 6 ((.d (.lit (.int .u64 r21_0.1))) :: ((.i r21_0.2.1) :: (tp 1 ((.d .nil) :: (tp 85 []))))))), [], 0⟩ ?_
   refine AWP.seq ?_
   refine AWP.seq ?_
   refine AWP.text ?_
   refine Wy (.i 0) [] (Omv rfl) ?_
   refine Walk.nil ?_
   refine Then.normal ?_
   refine Amk 3457 0 ⟨((.s p0) :: (tp 6 ((.d (.lit (.int .u64 r21_0.1))) :: ((.i r21_0.2.1) :: (tp 1 ((.d .nil) :: ((.i 0) :: (tp 84 [])))))))), [], 0⟩ ?_
   refine AWP.block ?_
   refine Aow 10 24 3 ⟨((.s p0) :: (tp 6 ((.d (.lit (.int .u64 r21_0.1))) :: ((.i r21_0.2.1) :: (tp 1 ((.own 0) :: ((.i 0) :: (tp 84 [])))))))), [(.arr 24 3 (List.length ([] : List GChange)) (flatD enc_GChange ([] : List GChange)))], 0⟩ ?_
   refine AWP.loopI (α := Nat × Int × (List GChange) × Int)
     (fun x => match x with | (fu_1, y8_1, y10_1, y11_1) => (⟨((.s p0) :: (tp 6 ((.d (.lit (.int .u64 r21_0.1))) :: ((.i y8_1) :: (tp 1 ((.own 0) :: ((.i y11_1) :: (tp 84 [])))))))), [(.arr 24 3 (List.length y10_1) (flatD enc_GChange y10_1))], 0⟩ : St))
     (fun x => match x with | (fu_1, y8_1, y10_1, y11_1) => m_telltaleref26_Take_l1 p0 r21_0 fu_1 y8_1 y10_1 y11_1 = some r)
     (fun x => match x with | (fu_1, y8_1, y10_1, y11_1) => fu_1) (1152921504606846976, r21_0.2.1, ([] : List GChange), 0)
     (Weak.toK 3457 0 0 [0]) hm ?_
   rintro ⟨fu_1, y8_1, y10_1, y11_1⟩ n_1 hm ih_1
   try dsimp only at hm ih_1 ⊢
   cases fu_1 with
   | zero => exact absurd hm (by unfold m_telltaleref26_Take_l1; simp)
   | succ fu_1 =>
    unfold m_telltaleref26_Take_l1 at hm
    refine AWP.seq ?_
    refine AWP.seq ?_
    refine AWP.text ?_
    refine Wy (.i y11_1) [] (Omv rfl) ?_
    refine Wy (.d (.lit (.int .u64 r21_0.1))) [] (Omv rfl) ?_
    refine Wy (.i (IntKind.i64.wrap r21_0.1)) [] (Ocs (by kernel_rfl) (op_convert rfl (a1 := .int .u64 r21_0.1) (by kernel_rfl) (run_conv (ds := .int .u64) (k' := .i64) (by kernel_rfl) (by kernel_rfl)))) ?_
    refine Wy (.b (decide (y11_1 < (IntKind.i64.wrap r21_0.1)))) [] (Obn rfl (fun _ => hb_lss (k := .i64))) ?_
    refine Walk.nil ?_
    refine Then.normal ?_
    refine Amk 8589938049 1 ⟨((.s p0) :: (tp 6 ((.d (.lit (.int .u64 r21_0.1))) :: ((.i y8_1) :: (tp 1 ((.own 0) :: ((.i y11_1) :: (tp 21 ((.b (decide (y11_1 < (IntKind.i64.wrap r21_0.1)))) :: (tp 62 [])))))))))), [(.arr 24 3 (List.length y10_1) (flatD enc_GChange y10_1))], 0⟩ ?_
    rcases tf_ (decide (y11_1 < (IntKind.i64.wrap r21_0.1))) with hc33_12 | hc33_12
    ·
     replace hm := cT hc33_12 hm
     refine AWP.if_ true (Eq.trans (by kernel_rfl) (lit_tf (b := decide (y11_1 < (IntKind.i64.wrap r21_0.1))) hc33_12)) ?_
     refine AWP.skip ?_
     refine Then.normal ?_
     refine Amk 3457 1 ⟨((.s p0) :: (tp 6 ((.d (.lit (.int .u64 r21_0.1))) :: ((.i y8_1) :: (tp 1 ((.own 0) :: ((.i y11_1) :: (tp 84 [])))))))), [(.arr 24 3 (List.length y10_1) (flatD enc_GChange y10_1))], 0⟩ ?_
     refine AWP.seq ?_
     refine AWP.block ?_
     refine AWP.seq ?_
     refine AWP.text ?_
     refine Wy (.loc 1 0) [(1, (.box [(.i 0), (.i 0), (.i 0)]))] (Oal rfl) ?_
     refine Walk.nil ?_
     refine Then.normal ?_
     refine Amk 7553 3 ⟨((.s p0) :: (tp 6 ((.d (.lit (.int .u64 r21_0.1))) :: ((.i y8_1) :: (tp 1 ((.own 0) :: ((.i y11_1) :: ((.loc 1 0) :: (tp 83 []))))))))), [(.arr 24 3 (List.length y10_1) (flatD enc_GChange y10_1)), (.box [(.i 0), (.i 0), (.i 0)])], 0⟩ ?_
     refine AWP.seq ?_
     refine AWP.seq ?_
     refine AWP.text ?_
     refine Wy (.i 0) [] (Omv rfl) ?_
     refine Walk.nil ?_
     refine Then.normal ?_
     refine Amk 15745 3 ⟨((.s p0) :: (tp 6 ((.d (.lit (.int .u64 r21_0.1))) :: ((.i y8_1) :: (tp 1 ((.own 0) :: ((.i y11_1) :: ((.loc 1 0) :: ((.i 0) :: (tp 82 [])))))))))), [(.arr 24 3 (List.length y10_1) (flatD enc_GChange y10_1)), (.box [(.i 0), (.i 0), (.i 0)])], 0⟩ ?_
     refine AWP.block ?_
     refine AWP.loopI (α := Nat × Int × GArr3_Int × Int)
       (fun x => match x with | (fu_3, y8_3, y12_d_3, y13_3) => (⟨((.s p0) :: (tp 6 ((.d (.lit (.int .u64 r21_0.1))) :: ((.i y8_3) :: (tp 1 ((.own 0) :: ((.i y11_1) :: ((.loc 1 0) :: ((.i y13_3) :: (tp 82 [])))))))))), [(.arr 24 3 (List.length y10_1) (flatD enc_GChange y10_1)), (.box [(.i y12_d_3.a0), (.i y12_d_3.a1), (.i y12_d_3.a2)])], 0⟩ : St))
       (fun x => match x with | (fu_3, y8_3, y12_d_3, y13_3) => m_telltaleref26_Take_l3 p0 y10_1 y11_1 (fun y8_1 y10_1 y11_1 => m_telltaleref26_Take_l1 p0 r21_0 fu_1 y8_1 y10_1 y11_1) fu_3 y8_3 y12_d_3 y13_3 = some r)
       (fun x => match x with | (fu_3, y8_3, y12_d_3, y13_3) => fu_3) (1152921504606846976, y8_1, (GArr3_Int.mk 0 0 0), 0)
       (Weak.toK 15745 0 0 [0, 1]) hm ?_
     rintro ⟨fu_3, y8_3, y12_d_3, y13_3⟩ n_3 hm ih_3
     try dsimp only at hm ih_3 ⊢
     cases fu_3 with
     | zero => exact absurd hm (by unfold m_telltaleref26_Take_l3; simp)
     | succ fu_3 =>
      unfold m_telltaleref26_Take_l3 at hm
      refine AWP.seq ?_
      refine AWP.seq ?_
      refine AWP.text ?_
      refine Wy (.i y13_3) [] (Omv rfl) ?_
      refine Wy (.b (decide (y13_3 < 3))) [] (Obn rfl (fun _ => hb_lss (k := .i64))) ?_
      refine Walk.nil ?_
      refine Then.normal ?_
      refine Amk 137438969217 3 ⟨((.s p0) :: (tp 6 ((.d (.lit (.int .u64 r21_0.1))) :: ((.i y8_3) :: (tp 1 ((.own 0) :: ((.i y11_1) :: ((.loc 1 0) :: ((.i y13_3) :: (tp 23 ((.b (decide (y13_3 < 3))) :: (tp 58 [])))))))))))), [(.arr 24 3 (List.length y10_1) (flatD enc_GChange y10_1)), (.box [(.i y12_d_3.a0), (.i y12_d_3.a1), (.i y12_d_3.a2)])], 0⟩ ?_
      rcases tf_ (decide (y13_3 < 3)) with hc37_13 | hc37_13
      ·
       replace hm := cT hc37_13 hm
       refine AWP.if_ true (Eq.trans (by kernel_rfl) (lit_tf (b := decide (y13_3 < 3)) hc37_13)) ?_
       refine AWP.skip ?_
       refine Then.normal ?_
       refine Amk 15745 3 ⟨((.s p0) :: (tp 6 ((.d (.lit (.int .u64 r21_0.1))) :: ((.i y8_3) :: (tp 1 ((.own 0) :: ((.i y11_1) :: ((.loc 1 0) :: ((.i y13_3) :: (tp 82 [])))))))))), [(.arr 24 3 (List.length y10_1) (flatD enc_GChange y10_1)), (.box [(.i y12_d_3.a0), (.i y12_d_3.a1), (.i y12_d_3.a2)])], 0⟩ ?_
       refine AWP.seq ?_
       refine AWP.block ?_
       refine AWP.seq ?_
       refine AWP.text ?_
       refine Wy (.s p0) [] (Omv rfl) ?_
       refine Wy (.i y8_3) [] (Omv rfl) ?_
       obtain ⟨r43_4, hr43_4, hm⟩ := bnd hm
       refine Wy (.tup [(.d (.lit (.int .u64 r43_4.1))), (.i r43_4.2.1), (.i r43_4.2.2)]) [] (Ocf [] [] [] 0 (ok_telltaleref02_Take p0 y8_3 r43_4 hr43_4) (fun a w => Try.call34 a w) rfl trivial) ?_
       refine Wy (.tup [(.d (.lit (.int .u64 r43_4.1))), (.i r43_4.2.1), (.i r43_4.2.2)]) [] (Omv rfl) ?_
       refine Wy (.d (.lit (.int .u64 r43_4.1))) [] (Oex rfl) ?_
       refine Wy (.i r43_4.2.1) [] (Oex rfl) ?_
       refine Wy (.i r43_4.2.2) [] (Oex rfl) ?_
       refine Wy (.d (.lit (.int .u64 r43_4.1))) [] (Omv rfl) ?_
       refine Wy (.i r43_4.2.1) [] (Omv rfl) ?_
       refine Wy (.i r43_4.2.2) [] (Omv rfl) ?_
       refine Walk.nil ?_
       refine Then.normal ?_
       refine Amk 130177 3 ⟨((.s p0) :: (tp 6 ((.d (.lit (.int .u64 r21_0.1))) :: (tp 2 ((.own 0) :: ((.i y11_1) :: ((.loc 1 0) :: ((.i y13_3) :: ((.d (.lit (.int .u64 r43_4.1))) :: ((.i r43_4.2.1) :: ((.i r43_4.2.2) :: (tp 79 [])))))))))))), [(.arr 24 3 (List.length y10_1) (flatD enc_GChange y10_1)), (.box [(.i y12_d_3.a0), (.i y12_d_3.a1), (.i y12_d_3.a2)])], 0⟩ ?_
       refine AWP.seq ?_
       refine AWP.seq ?_
       refine AWP.text ?_
       refine Wy (.i r43_4.2.2) [] (Omv rfl) ?_
       refine Wy (.b (decide (r43_4.2.2 ≠ 0))) [] (Obn rfl (fun _ => hb_neq (k := .i64))) ?_
       refine Walk.nil ?_
       refine Then.normal ?_
       refine Amk 281474976840833 3 ⟨((.s p0) :: (tp 6 ((.d (.lit (.int .u64 r21_0.1))) :: (tp 2 ((.own 0) :: ((.i y11_1) :: ((.loc 1 0) :: ((.i y13_3) :: ((.d (.lit (.int .u64 r43_4.1))) :: ((.i r43_4.2.1) :: ((.i r43_4.2.2) :: (tp 31 ((.b (decide (r43_4.2.2 ≠ 0))) :: (tp 47 [])))))))))))))), [(.arr 24 3 (List.length y10_1) (flatD enc_GChange y10_1)), (.box [(.i y12_d_3.a0), (.i y12_d_3.a1), (.i y12_d_3.a2)])], 0⟩ ?_
       rcases tf_ (decide (r43_4.2.2 ≠ 0)) with hc48_14 | hc48_14
       ·
        replace hm := cT hc48_14 hm
        refine AWP.if_ true (Eq.trans (by kernel_rfl) (lit_tf (b := decide (r43_4.2.2 ≠ 0)) hc48_14)) ?_
        refine AWP.seq ?_
        refine AWP.text ?_
        refine Wy (.i r43_4.2.2) [] (Omv rfl) ?_
        refine Wy (.d .nil) [] (Omv rfl) ?_
        refine Wy (.i 0) [] (Omv rfl) ?_
        refine Wy (.i r43_4.2.2) [] (Omv rfl) ?_
        refine Walk.nil ?_
        refine Then.normal ?_
        refine Aow 4 24 3 ⟨((.s p0) :: (tp 3 ((.own 2) :: ((.i 0) :: ((.i r43_4.2.2) :: ((.d (.lit (.int .u64 r21_0.1))) :: (tp 2 ((.own 0) :: ((.i y11_1) :: ((.loc 1 0) :: ((.i y13_3) :: ((.d (.lit (.int .u64 r43_4.1))) :: ((.i r43_4.2.1) :: ((.i r43_4.2.2) :: (tp 31 ((.b (decide (r43_4.2.2 ≠ 0))) :: ((.i r43_4.2.2) :: (tp 46 [])))))))))))))))))), [(.arr 24 3 (List.length y10_1) (flatD enc_GChange y10_1)), (.box [(.i y12_d_3.a0), (.i y12_d_3.a1), (.i y12_d_3.a2)]), (.arr 24 3 (List.length ([] : List GChange)) (flatD enc_GChange ([] : List GChange)))], 0⟩ ?_
        refine AWP.ret ?_
        refine Then.ret ?_
        refine InBlock.ret ?_
        refine Then.ret ?_
        refine RoundK.ret ?_
        refine InBlock.ret ?_
        refine Then.ret ?_
        refine InBlock.ret ?_
        refine Then.ret ?_
        refine RoundK.ret ?_
        refine InBlock.ret ?_
        refine Then.ret ?_
        obtain rfl := Option.some.inj hm
        exact ret_i [2]
       ·
        replace hm := cF hc48_14 hm
        refine AWP.if_ false (Eq.trans (by kernel_rfl) (lit_tf (b := decide (r43_4.2.2 ≠ 0)) hc48_14)) ?_
        refine AWP.skip ?_
        refine Then.normal ?_
        refine Amk 64641 3 ⟨((.s p0) :: (tp 6 ((.d (.lit (.int .u64 r21_0.1))) :: (tp 2 ((.own 0) :: ((.i y11_1) :: ((.loc 1 0) :: ((.i y13_3) :: ((.d (.lit (.int .u64 r43_4.1))) :: ((.i r43_4.2.1) :: (tp 80 []))))))))))), [(.arr 24 3 (List.length y10_1) (flatD enc_GChange y10_1)), (.box [(.i y12_d_3.a0), (.i y12_d_3.a1), (.i y12_d_3.a2)])], 0⟩ ?_
        refine AWP.seq ?_
        refine AWP.text ?_
        refine Wy (.i y13_3) [] (Omv rfl) ?_
        refine Wy (.d (.lit (.int .u64 r43_4.1))) [] (Omv rfl) ?_
        obtain ⟨r52_5, hr52_5, hm⟩ := bnd hm
        refine Wy (.i r52_5) [] (Ocf [] [] [] 0 (ok_telltaleref02_Back r43_4.1 r52_5 hr52_5) (fun a w => Try.call35 a w) rfl trivial) ?_
        rcases tf_ (decide (y13_3 = 0)) with hq53_5_0 | hq53_5_0
        ·
         replace hm := cT hq53_5_0 hm
         refine Wy (.loc 1 0) [] (Ocs (by kernel_rfl) (op_iaddr_arr rfl (n := 3) (sz := 1) (y := (.loc 1 0)) (by kernel_rfl) (by kernel_rfl) (by kernel_rfl) (k := .i64) (iv := y13_3) (by kernel_rfl) (i := 0) (of_decide_eq_true hq53_5_0) (by decide))) ?_
         refine Wy (.tup []) [(1, (.box [(.i r52_5), (.i y12_d_3.a1), (.i y12_d_3.a2)]))] (Ost rfl) ?_
         refine Walk.nil ?_
         refine Then.normal ?_
         refine Amk 48257 3 ⟨((.s p0) :: (tp 6 ((.d (.lit (.int .u64 r21_0.1))) :: (tp 2 ((.own 0) :: ((.i y11_1) :: ((.loc 1 0) :: ((.i y13_3) :: (tp 1 ((.i r43_4.2.1) :: (tp 80 []))))))))))), [(.arr 24 3 (List.length y10_1) (flatD enc_GChange y10_1)), (.box [(.i r52_5), (.i y12_d_3.a1), (.i y12_d_3.a2)])], 0⟩ ?_
         refine AWP.text ?_
         refine Wy (.i r43_4.2.1) [] (Omv rfl) ?_
         refine Wy (.i r43_4.2.1) [] (Omv rfl) ?_
         refine Walk.nil ?_
         refine InBlock.normal ?_
         refine Then.normal ?_
         refine Amk 15745 3 ⟨((.s p0) :: (tp 6 ((.d (.lit (.int .u64 r21_0.1))) :: ((.i r43_4.2.1) :: (tp 1 ((.own 0) :: ((.i y11_1) :: ((.loc 1 0) :: ((.i y13_3) :: (tp 82 [])))))))))), [(.arr 24 3 (List.length y10_1) (flatD enc_GChange y10_1)), (.box [(.i r52_5), (.i y12_d_3.a1), (.i y12_d_3.a2)])], 0⟩ ?_
         refine AWP.text ?_
         refine Wy (.i y13_3) [] (Omv rfl) ?_
         refine Wy (.i (IntKind.i64.wrap (y13_3 + 1))) [] (Obn rfl (fun _ => hb_add (k := .i64))) ?_
         refine Wy (.i (IntKind.i64.wrap (y13_3 + 1))) [] (Omv rfl) ?_
         refine Walk.nil ?_
         refine RoundK.normal ?_
         exact Rounds.weak (Weak.toK 15745 0 0 [0, 1]) (ih_3 (fu_3, r43_4.2.1, (GArr3_Int.mk r52_5 y12_d_3.a1 y12_d_3.a2), (IntKind.i64.wrap (y13_3 + 1))) hm (Nat.lt_succ_self _))
        ·
         replace hm := cF hq53_5_0 hm
         rcases tf_ (decide (y13_3 = 1)) with hq53_5_1 | hq53_5_1
         ·
          replace hm := cT hq53_5_1 hm
          refine Wy (.loc 1 1) [] (Ocs (by kernel_rfl) (op_iaddr_arr rfl (n := 3) (sz := 1) (y := (.loc 1 0)) (by kernel_rfl) (by kernel_rfl) (by kernel_rfl) (k := .i64) (iv := y13_3) (by kernel_rfl) (i := 1) (of_decide_eq_true hq53_5_1) (by decide))) ?_
          refine Wy (.tup []) [(1, (.box [(.i y12_d_3.a0), (.i r52_5), (.i y12_d_3.a2)]))] (Ost rfl) ?_
          refine Walk.nil ?_
          refine Then.normal ?_
          refine Amk 48257 3 ⟨((.s p0) :: (tp 6 ((.d (.lit (.int .u64 r21_0.1))) :: (tp 2 ((.own 0) :: ((.i y11_1) :: ((.loc 1 0) :: ((.i y13_3) :: (tp 1 ((.i r43_4.2.1) :: (tp 80 []))))))))))), [(.arr 24 3 (List.length y10_1) (flatD enc_GChange y10_1)), (.box [(.i y12_d_3.a0), (.i r52_5), (.i y12_d_3.a2)])], 0⟩ ?_
          refine AWP.text ?_
          refine Wy (.i r43_4.2.1) [] (Omv rfl) ?_
          refine Wy (.i r43_4.2.1) [] (Omv rfl) ?_
          refine Walk.nil ?_
          refine InBlock.normal ?_
          refine Then.normal ?_
          refine Amk 15745 3 ⟨((.s p0) :: (tp 6 ((.d (.lit (.int .u64 r21_0.1))) :: ((.i r43_4.2.1) :: (tp 1 ((.own 0) :: ((.i y11_1) :: ((.loc 1 0) :: ((.i y13_3) :: (tp 82 [])))))))))), [(.arr 24 3 (List.length y10_1) (flatD enc_GChange y10_1)), (.box [(.i y12_d_3.a0), (.i r52_5), (.i y12_d_3.a2)])], 0⟩ ?_
          refine AWP.text ?_
          refine Wy (.i y13_3) [] (Omv rfl) ?_
          refine Wy (.i (IntKind.i64.wrap (y13_3 + 1))) [] (Obn rfl (fun _ => hb_add (k := .i64))) ?_
          refine Wy (.i (IntKind.i64.wrap (y13_3 + 1))) [] (Omv rfl) ?_
          refine Walk.nil ?_
          refine RoundK.normal ?_
          exact Rounds.weak (Weak.toK 15745 0 0 [0, 1]) (ih_3 (fu_3, r43_4.2.1, (GArr3_Int.mk y12_d_3.a0 r52_5 y12_d_3.a2), (IntKind.i64.wrap (y13_3 + 1))) hm (Nat.lt_succ_self _))
         ·
          replace hm := cF hq53_5_1 hm
          rcases tf_ (decide (y13_3 = 2)) with hq53_5_2 | hq53_5_2
          ·
           replace hm := cT hq53_5_2 hm
           refine Wy (.loc 1 2) [] (Ocs (by kernel_rfl) (op_iaddr_arr rfl (n := 3) (sz := 1) (y := (.loc 1 0)) (by kernel_rfl) (by kernel_rfl) (by kernel_rfl) (k := .i64) (iv := y13_3) (by kernel_rfl) (i := 2) (of_decide_eq_true hq53_5_2) (by decide))) ?_
           refine Wy (.tup []) [(1, (.box [(.i y12_d_3.a0), (.i y12_d_3.a1), (.i r52_5)]))] (Ost rfl) ?_
           refine Walk.nil ?_
           refine Then.normal ?_
           refine Amk 48257 3 ⟨((.s p0) :: (tp 6 ((.d (.lit (.int .u64 r21_0.1))) :: (tp 2 ((.own 0) :: ((.i y11_1) :: ((.loc 1 0) :: ((.i y13_3) :: (tp 1 ((.i r43_4.2.1) :: (tp 80 []))))))))))), [(.arr 24 3 (List.length y10_1) (flatD enc_GChange y10_1)), (.box [(.i y12_d_3.a0), (.i y12_d_3.a1), (.i r52_5)])], 0⟩ ?_
           refine AWP.text ?_
           refine Wy (.i r43_4.2.1) [] (Omv rfl) ?_
           refine Wy (.i r43_4.2.1) [] (Omv rfl) ?_
           refine Walk.nil ?_
           refine InBlock.normal ?_
           refine Then.normal ?_
           refine Amk 15745 3 ⟨((.s p0) :: (tp 6 ((.d (.lit (.int .u64 r21_0.1))) :: ((.i r43_4.2.1) :: (tp 1 ((.own 0) :: ((.i y11_1) :: ((.loc 1 0) :: ((.i y13_3) :: (tp 82 [])))))))))), [(.arr 24 3 (List.length y10_1) (flatD enc_GChange y10_1)), (.box [(.i y12_d_3.a0), (.i y12_d_3.a1), (.i r52_5)])], 0⟩ ?_
           refine AWP.text ?_
           refine Wy (.i y13_3) [] (Omv rfl) ?_
           refine Wy (.i (IntKind.i64.wrap (y13_3 + 1))) [] (Obn rfl (fun _ => hb_add (k := .i64))) ?_
           refine Wy (.i (IntKind.i64.wrap (y13_3 + 1))) [] (Omv rfl) ?_
           refine Walk.nil ?_
           refine RoundK.normal ?_
           exact Rounds.weak (Weak.toK 15745 0 0 [0, 1]) (ih_3 (fu_3, r43_4.2.1, (GArr3_Int.mk y12_d_3.a0 y12_d_3.a1 r52_5), (IntKind.i64.wrap (y13_3 + 1))) hm (Nat.lt_succ_self _))
          ·
           replace hm := cF hq53_5_2 hm
           exact nomatch hm
      ·
       replace hm := cF hc37_13 hm
       refine AWP.if_ false (Eq.trans (by kernel_rfl) (lit_tf (b := decide (y13_3 < 3)) hc37_13)) ?_
       refine AWP.exit ?_
       refine Then.exit ?_
       refine RoundK.exit ?_
       refine InBlock.same ?_
       refine Then.normal ?_
       refine Amk 7553 3 ⟨((.s p0) :: (tp 6 ((.d (.lit (.int .u64 r21_0.1))) :: ((.i y8_3) :: (tp 1 ((.own 0) :: ((.i y11_1) :: ((.loc 1 0) :: (tp 83 []))))))))), [(.arr 24 3 (List.length y10_1) (flatD enc_GChange y10_1)), (.box [(.i y12_d_3.a0), (.i y12_d_3.a1), (.i y12_d_3.a2)])], 0⟩ ?_
       refine AWP.text ?_
       refine Wy (.own 0) [] (Omv rfl) ?_
       refine Wy (.loc 1 0) [] (Ocs (by kernel_rfl) (op_iaddr_arr rfl (n := 3) (sz := 1) (y := (.loc 1 0)) (by kernel_rfl) (by kernel_rfl) (by kernel_rfl) (k := .i64) (iv := 0) (by kernel_rfl) (i := 0) (by rfl) (by decide))) ?_
       refine Wy (.i y12_d_3.a0) [] (Old rfl) ?_
       refine Wy (.loc 1 1) [] (Ocs (by kernel_rfl) (op_iaddr_arr rfl (n := 3) (sz := 1) (y := (.loc 1 0)) (by kernel_rfl) (by kernel_rfl) (by kernel_rfl) (k := .i64) (iv := 1) (by kernel_rfl) (i := 1) (by rfl) (by decide))) ?_
       refine Wy (.i y12_d_3.a1) [] (Old rfl) ?_
       refine Wy (.loc 1 2) [] (Ocs (by kernel_rfl) (op_iaddr_arr rfl (n := 3) (sz := 1) (y := (.loc 1 0)) (by kernel_rfl) (by kernel_rfl) (by kernel_rfl) (k := .i64) (iv := 2) (by kernel_rfl) (i := 2) (by rfl) (by decide))) ?_
       refine Wy (.i y12_d_3.a2) [] (Old rfl) ?_
       refine Wy (.agg [(.i y12_d_3.a0), (.i y12_d_3.a1), (.i y12_d_3.a2)]) [] (Obd rfl) ?_
       refine Wy (.own 2) [(2, (.arr 24 3 (List.length ([(GChange.mk y12_d_3.a0 y12_d_3.a1 y12_d_3.a2)] : List GChange)) (flatD enc_GChange ([(GChange.mk y12_d_3.a0 y12_d_3.a1 y12_d_3.a2)] : List GChange))))] (Obs rfl) ?_
       obtain ⟨a64_6, ha64_6, hm⟩ := bnd hm; obtain ⟨ha64_6e, ha64_6l⟩ := app_some ha64_6
       refine Wy (.own 3) [(0, .gone), (3, (.arr 24 3 (List.length a64_6) (flatD enc_GChange a64_6)))] (Oap rfl elemOK_22 enc_GChange_len ha64_6e ha64_6l) ?_
       refine Wy (.own 3) [] (Omv rfl) ?_
       refine Walk.nil ?_
       refine InBlock.normal ?_
       refine Then.normal ?_
       refine Amk 3457 8 ⟨((.s p0) :: (tp 6 ((.d (.lit (.int .u64 r21_0.1))) :: ((.i y8_3) :: (tp 1 ((.own 3) :: ((.i y11_1) :: (tp 84 [])))))))), [.gone, .gone, .gone, (.arr 24 3 (List.length a64_6) (flatD enc_GChange a64_6))], 0⟩ ?_
       refine AWP.text ?_
       refine Wy (.i y11_1) [] (Omv rfl) ?_
       refine Wy (.i (IntKind.i64.wrap (y11_1 + 1))) [] (Obn rfl (fun _ => hb_add (k := .i64))) ?_
       refine Wy (.i (IntKind.i64.wrap (y11_1 + 1))) [] (Omv rfl) ?_
       refine Walk.nil ?_
       refine RoundK.normal ?_
       exact Rounds.weak (Weak.toK 3457 0 0 [3]) (ih_1 (fu_1, y8_3, a64_6, (IntKind.i64.wrap (y11_1 + 1))) hm (Nat.lt_succ_self _))
    ·
     replace hm := cF hc33_12 hm
     refine AWP.if_ false (Eq.trans (by kernel_rfl) (lit_tf (b := decide (y11_1 < (IntKind.i64.wrap r21_0.1))) hc33_12)) ?_
     refine AWP.exit ?_
     refine Then.exit ?_
     refine RoundK.exit ?_
     refine InBlock.same ?_
     refine Then.normal ?_
     refine Amk 1280 1 ⟨(tp 8 ((.i y8_1) :: (tp 1 ((.own 0) :: (tp 85 []))))), [(.arr 24 3 (List.length y10_1) (flatD enc_GChange y10_1))], 0⟩ ?_
     refine AWP.seq ?_
     refine AWP.seq ?_
     refine AWP.text ?_
     refine Wy (.i 0) [] (Omv rfl) ?_
     refine Walk.nil ?_
     refine Then.normal ?_
     refine Amk 132352 1 ⟨(tp 8 ((.i y8_1) :: (tp 1 ((.own 0) :: (tp 6 ((.i 0) :: (tp 78 []))))))), [(.arr 24 3 (List.length y10_1) (flatD enc_GChange y10_1))], 0⟩ ?_
     refine AWP.block ?_
     refine AWP.loopI (α := Nat × Int)
       (fun x => match x with | (fu_7, y17_7) => (⟨(tp 8 ((.i y8_1) :: (tp 1 ((.own 0) :: (tp 6 ((.i y17_7) :: (tp 78 []))))))), [(.arr 24 3 (List.length y10_1) (flatD enc_GChange y10_1))], 0⟩ : St))
       (fun x => match x with | (fu_7, y17_7) => m_telltaleref26_Take_l7 y10_1 y8_1 fu_7 y17_7 = some r)
       (fun x => match x with | (fu_7, y17_7) => fu_7) (1152921504606846976, 0)
       (Weak.toK 132352 0 0 [0]) hm ?_
     rintro ⟨fu_7, y17_7⟩ n_7 hm ih_7
     try dsimp only at hm ih_7 ⊢
     cases fu_7 with
     | zero => exact absurd hm (by unfold m_telltaleref26_Take_l7; simp)
     | succ fu_7 =>
      unfold m_telltaleref26_Take_l7 at hm
      refine AWP.seq ?_
      refine AWP.seq ?_
      refine AWP.text ?_
      refine Wy (.i y17_7) [] (Omv rfl) ?_
      refine Wy (.own 0) [] (Omv rfl) ?_
      refine Wy (.i ((List.length y10_1 : Nat) : Int)) [] (Oln rfl) ?_
      refine Wy (.b (decide (y17_7 < ((List.length y10_1 : Nat) : Int)))) [] (Obn rfl (fun _ => hb_lss (k := .i64))) ?_
      refine Walk.nil ?_
      refine Then.normal ?_
      refine Amk 295147905179352958208 1 ⟨(tp 8 ((.i y8_1) :: (tp 1 ((.own 0) :: (tp 6 ((.i y17_7) :: (tp 50 ((.b (decide (y17_7 < ((List.length y10_1 : Nat) : Int)))) :: (tp 27 []))))))))), [(.arr 24 3 (List.length y10_1) (flatD enc_GChange y10_1))], 0⟩ ?_
      rcases tf_ (decide (y17_7 < ((List.length y10_1 : Nat) : Int))) with hc68_15 | hc68_15
      ·
       replace hm := cT hc68_15 hm
       refine AWP.if_ true (Eq.trans (by kernel_rfl) (lit_tf (b := decide (y17_7 < ((List.length y10_1 : Nat) : Int))) hc68_15)) ?_
       refine AWP.skip ?_
       refine Then.normal ?_
       refine Amk 132352 1 ⟨(tp 8 ((.i y8_1) :: (tp 1 ((.own 0) :: (tp 6 ((.i y17_7) :: (tp 78 []))))))), [(.arr 24 3 (List.length y10_1) (flatD enc_GChange y10_1))], 0⟩ ?_
       refine AWP.seq ?_
       refine AWP.block ?_
       refine AWP.seq ?_
       refine Adr ?_
       refine Wy (.own 0) [] (Omv rfl) ?_
       refine Wy (.i y17_7) [] (Omv rfl) ?_
       obtain ⟨x73_9, hx73_9, hm⟩ := bnd hm
       obtain ⟨hx73_9i, hx73_9g⟩ := geti_some hx73_9
       refine Wy (.loc 0 ((Int.toNat y17_7) * 3)) [] (Oia rfl enc_GChange_len hx73_9i hx73_9g) ?_
       refine Wy (.loc 0 ((Int.toNat y17_7) * 3 + 2)) [] (Ofa rfl) ?_
       refine Wy (.i x73_9.N) [] (Lrk1 2 rfl enc_GChange_len hx73_9g) ?_
       refine Wy (.b (decide (x73_9.N = 0))) [] (Obn rfl (fun _ => hb_eql (k := .i64))) ?_
       rcases tf_ (decide (x73_9.N = 0)) with hq77_9 | hq77_9
       ·
        replace hm := cT hq77_9 hm
        refine Wy (.b true) [] (Ocs (lit_tf (b := decide (x73_9.N = 0)) hq77_9) (Omv rfl)) ?_
        refine Wn ?_
        refine Wn ?_
        refine Wn ?_
        refine Wn ?_
        refine Wn ?_
        refine Wn ?_
        refine Wn ?_
        refine Wn ?_
        refine Wn ?_
        refine Wn ?_
        refine Wn ?_
        refine Wn ?_
        refine Wn ?_
        refine Wn ?_
        refine Wn ?_
        refine Wy (.b true) [] (OpT rfl) ?_
        refine Wdr ?_
        refine Then.normal ?_
        refine Amk 9903520314283042199193126144 1 ⟨(tp 8 ((.i y8_1) :: (tp 1 ((.own 0) :: (tp 6 ((.i y17_7) :: (tp 75 ((.b true) :: (tp 2 []))))))))), [(.arr 24 3 (List.length y10_1) (flatD enc_GChange y10_1))], 0⟩ ?_
        refine AWP.if_ true (by kernel_rfl) ?_
        refine AWP.seq ?_
        refine AWP.text ?_
        refine Wy (.d .nil) [] (Omv rfl) ?_
        refine Wy (.i 0) [] (Omv rfl) ?_
        refine Wy (.i 4) [] (Omv rfl) ?_
        refine Walk.nil ?_
        refine Then.normal ?_
        refine Aow 4 24 3 ⟨(tp 4 ((.own 1) :: ((.i 0) :: ((.i 4) :: (tp 1 ((.i y8_1) :: (tp 1 ((.own 0) :: (tp 6 ((.i y17_7) :: (tp 75 ((.b true) :: (tp 2 []))))))))))))), [(.arr 24 3 (List.length y10_1) (flatD enc_GChange y10_1)), (.arr 24 3 (List.length ([] : List GChange)) (flatD enc_GChange ([] : List GChange)))], 0⟩ ?_
        refine AWP.ret ?_
        refine InBlock.ret ?_
        refine Then.ret ?_
        refine RoundK.ret ?_
        refine InBlock.ret ?_
        refine Then.ret ?_
        obtain rfl := Option.some.inj hm
        exact ret_i [1]
       ·
        replace hm := cF hq77_9 hm
        refine Wy (.b false) [] (Ocs (lit_tf (b := decide (x73_9.N = 0)) hq77_9) (Omv rfl)) ?_
        refine Wy (.i y17_7) [] (Omv rfl) ?_
        refine Wy (.b (decide ((0 : Int) < y17_7))) [] (Obn rfl (fun _ => hb_gtr (k := .i64))) ?_
        rcases tf_ (decide ((0 : Int) < y17_7)) with hq80_9 | hq80_9
        ·
         replace hm := cT hq80_9 hm
         refine Wy (.b true) [] (Ocs (lit_tf (b := decide ((0 : Int) < y17_7)) hq80_9) (Omv rfl)) ?_
         refine Wy (.own 0) [] (Omv rfl) ?_
         refine Wy (.i y17_7) [] (Omv rfl) ?_
         refine Wy (.i (IntKind.i64.wrap (y17_7 - 1))) [] (Obn rfl (fun _ => hb_sub (k := .i64))) ?_
         obtain ⟨x84_9, hx84_9, hm⟩ := bnd hm
         obtain ⟨hx84_9i, hx84_9g⟩ := geti_some hx84_9
         refine Wy (.loc 0 ((Int.toNat (IntKind.i64.wrap (y17_7 - 1))) * 3)) [] (Oia rfl enc_GChange_len hx84_9i hx84_9g) ?_
         refine Wy (.agg [(.i x84_9.Loc), (.i x84_9.Time), (.i x84_9.N)]) [] (Lr rfl enc_GChange_len hx84_9g) ?_
         refine Wy (.own 0) [] (Omv rfl) ?_
         refine Wy (.i y17_7) [] (Omv rfl) ?_
         obtain ⟨x88_9, hx88_9, hm⟩ := bnd hm
         obtain ⟨hx88_9i, hx88_9g⟩ := geti_some hx88_9
         refine Wy (.loc 0 ((Int.toNat y17_7) * 3)) [] (Oia rfl enc_GChange_len hx88_9i hx88_9g) ?_
         refine Wy (.agg [(.i x88_9.Loc), (.i x88_9.Time), (.i x88_9.N)]) [] (Lr rfl enc_GChange_len hx88_9g) ?_
         obtain ⟨r90_9, hr90_9, hm⟩ := bnd hm
         refine Wy (.b r90_9) [] (Ocf [] [] [] 0 (ok_telltaleref26_before x84_9 x88_9 r90_9 hr90_9) (fun a w => Try.call29 a w) rfl trivial) ?_
         refine Wy (.b (!r90_9)) [] (Ocs (by kernel_rfl) (op_un rfl (a1 := .bool r90_9) (by kernel_rfl) (fun _ => hu_not))) ?_
         refine Wy (.b (!r90_9)) [] (OpT rfl) ?_
         refine Wy (.b (!r90_9)) [] (OpF rfl) ?_
         refine Wdr ?_
         refine Then.normal ?_
         refine Amk 9903520314283042199193126144 1 ⟨(tp 8 ((.i y8_1) :: (tp 1 ((.own 0) :: (tp 6 ((.i y17_7) :: (tp 75 ((.b (!r90_9)) :: (tp 2 []))))))))), [(.arr 24 3 (List.length y10_1) (flatD enc_GChange y10_1))], 0⟩ ?_
         rcases tf_ (!r90_9) with hc93_16 | hc93_16
         ·
          replace hm := cT hc93_16 hm
          refine AWP.if_ true (Eq.trans (by kernel_rfl) (lit_tf (b := (!r90_9)) hc93_16)) ?_
          refine AWP.seq ?_
          refine AWP.text ?_
          refine Wy (.d .nil) [] (Omv rfl) ?_
          refine Wy (.i 0) [] (Omv rfl) ?_
          refine Wy (.i 4) [] (Omv rfl) ?_
          refine Walk.nil ?_
          refine Then.normal ?_
          refine Aow 4 24 3 ⟨(tp 4 ((.own 1) :: ((.i 0) :: ((.i 4) :: (tp 1 ((.i y8_1) :: (tp 1 ((.own 0) :: (tp 6 ((.i y17_7) :: (tp 75 ((.b (!r90_9)) :: (tp 2 []))))))))))))), [(.arr 24 3 (List.length y10_1) (flatD enc_GChange y10_1)), (.arr 24 3 (List.length ([] : List GChange)) (flatD enc_GChange ([] : List GChange)))], 0⟩ ?_
          refine AWP.ret ?_
          refine InBlock.ret ?_
          refine Then.ret ?_
          refine RoundK.ret ?_
          refine InBlock.ret ?_
          refine Then.ret ?_
          obtain rfl := Option.some.inj hm
          exact ret_i [1]
         ·
          replace hm := cF hc93_16 hm
          refine AWP.if_ false (Eq.trans (by kernel_rfl) (lit_tf (b := (!r90_9)) hc93_16)) ?_
          refine AWP.skip ?_
          refine InBlock.normal ?_
          refine Then.normal ?_
          refine Amk 132352 1 ⟨(tp 8 ((.i y8_1) :: (tp 1 ((.own 0) :: (tp 6 ((.i y17_7) :: (tp 78 []))))))), [(.arr 24 3 (List.length y10_1) (flatD enc_GChange y10_1))], 0⟩ ?_
          refine AWP.text ?_
          refine Wy (.i y17_7) [] (Omv rfl) ?_
          refine Wy (.i (IntKind.i64.wrap (y17_7 + 1))) [] (Obn rfl (fun _ => hb_add (k := .i64))) ?_
          refine Wy (.i (IntKind.i64.wrap (y17_7 + 1))) [] (Omv rfl) ?_
          refine Walk.nil ?_
          refine RoundK.normal ?_
          exact Rounds.weak (Weak.toK 132352 0 0 [0]) (ih_7 (fu_7, (IntKind.i64.wrap (y17_7 + 1))) hm (Nat.lt_succ_self _))
        ·
         replace hm := cF hq80_9 hm
         refine Wy (.b false) [] (Ocs (lit_tf (b := decide ((0 : Int) < y17_7)) hq80_9) (Omv rfl)) ?_
         refine Wn ?_
         refine Wn ?_
         refine Wn ?_
         refine Wn ?_
         refine Wn ?_
         refine Wn ?_
         refine Wn ?_
         refine Wn ?_
         refine Wn ?_
         refine Wn ?_
         refine Wn ?_
         refine Wy (.b false) [] (OpF rfl) ?_
         refine Wy (.b false) [] (OpF rfl) ?_
         refine Wdr ?_
         refine Then.normal ?_
         refine Amk 9903520314283042199193126144 1 ⟨(tp 8 ((.i y8_1) :: (tp 1 ((.own 0) :: (tp 6 ((.i y17_7) :: (tp 75 ((.b false) :: (tp 2 []))))))))), [(.arr 24 3 (List.length y10_1) (flatD enc_GChange y10_1))], 0⟩ ?_
         refine AWP.if_ false (by kernel_rfl) ?_
         refine AWP.skip ?_
         refine InBlock.normal ?_
         refine Then.normal ?_
         refine Amk 132352 1 ⟨(tp 8 ((.i y8_1) :: (tp 1 ((.own 0) :: (tp 6 ((.i y17_7) :: (tp 78 []))))))), [(.arr 24 3 (List.length y10_1) (flatD enc_GChange y10_1))], 0⟩ ?_
         refine AWP.text ?_
         refine Wy (.i y17_7) [] (Omv rfl) ?_
         refine Wy (.i (IntKind.i64.wrap (y17_7 + 1))) [] (Obn rfl (fun _ => hb_add (k := .i64))) ?_
         refine Wy (.i (IntKind.i64.wrap (y17_7 + 1))) [] (Omv rfl) ?_
         refine Walk.nil ?_
         refine RoundK.normal ?_
         exact Rounds.weak (Weak.toK 132352 0 0 [0]) (ih_7 (fu_7, (IntKind.i64.wrap (y17_7 + 1))) hm (Nat.lt_succ_self _))
      ·
       replace hm := cF hc68_15 hm
       refine AWP.if_ false (Eq.trans (by kernel_rfl) (lit_tf (b := decide (y17_7 < ((List.length y10_1 : Nat) : Int))) hc68_15)) ?_
       refine AWP.exit ?_
       refine Then.exit ?_
       refine RoundK.exit ?_
       refine InBlock.same ?_
       refine Then.normal ?_
       refine Amk 1280 1 ⟨(tp 8 ((.i y8_1) :: (tp 1 ((.own 0) :: (tp 85 []))))), [(.arr 24 3 (List.length y10_1) (flatD enc_GChange y10_1))], 0⟩ ?_
       refine AWP.seq ?_
       refine AWP.text ?_
       refine Wy (.own 0) [] (Omv rfl) ?_
       refine Wy (.i y8_1) [] (Omv rfl) ?_
       refine Wy (.own 0) [] (Omv rfl) ?_
       refine Wy (.i y8_1) [] (Omv rfl) ?_
       refine Wy (.i 0) [] (Omv rfl) ?_
       refine Walk.nil ?_
       refine Then.normal ?_
       refine AWP.ret ?_
       obtain rfl := Option.some.inj hm
       exact ret_i [0]

set_option maxRecDepth 20000 in
set_option maxHeartbeats 4000000 in
theorem ok_telltaleref02_sevens (p0 : Int) (r : (List Int)) (h : m_telltaleref02_sevens p0 = some r) : GCall Try.prog 48 [(.d (.lit (.int .u64 p0)))] [] (.own 0) [(.arr 3 1 (List.length r) (flatD (encI .i64) r))] := by
 refine GCall.of_body (n := 21) (rs := [(.tmp 2)]) Try.func48 rfl rfl rfl ?_
 refine Ato ⟨((.d (.lit (.int .u64 p0))) :: (tu 20 [])), [], 0⟩ ?_
 have hm := h
 unfold m_telltaleref02_sevens at hm
 refine AWP.seq ?_
 refine AWP.text ?_
 refine Wy (.d .nil) [] (Omv rfl) ?_
 refine Walk.nil ?_
 refine Then.normal ?_
 refine Amk 1 0 ⟨((.d (.lit (.int .u64 p0))) :: (tp 20 [])), [], 0⟩ ?_
 refine AWP.seq ?_
 refine AWP.text ?_
 refine Wy (.d (.lit (.int .u64 p0))) [] (Omv rfl) ?_
 refine Wy (.d (.lit (.int .u64 (Int.tmod p0 128)))) [] (Ocs (by kernel_rfl) (op_bin rfl (a1 := .int .u64 p0) (a2 := .int .u64 128) (by kernel_rfl) (by kernel_rfl) (fun _ => hb_rem (by decide)))) ?_
 refine Wy (.i (IntKind.i64.wrap (Int.tmod p0 128))) [] (Ocs (by kernel_rfl) (op_convert rfl (a1 := .int .u64 (Int.tmod p0 128)) (by kernel_rfl) (run_conv (ds := .int .u64) (k' := .i64) (by kernel_rfl) (by kernel_rfl)))) ?_
 refine Wy (.own 0) [(0, (.arr 3 1 (List.length ([(IntKind.i64.wrap (Int.tmod p0 128))] : List Int)) (flatD (encI .i64) ([(IntKind.i64.wrap (Int.tmod p0 128))] : List Int))))] (Obs rfl) ?_
 refine Wy (.own 0) [] (Omv rfl) ?_
 refine Walk.nil ?_
 refine Then.normal ?_
 refine Amk 9 1 ⟨((.d (.lit (.int .u64 p0))) :: (tp 2 ((.own 0) :: (tp 17 [])))), [(.arr 3 1 (List.length ([(IntKind.i64.wrap (Int.tmod p0 128))] : List Int)) (flatD (encI .i64) ([(IntKind.i64.wrap (Int.tmod p0 128))] : List Int)))], 0⟩ ?_
 refine AWP.seq ?_
 refine AWP.text ?_
 refine Wy (.d (.lit (.int .u64 p0))) [] (Omv rfl) ?_
 refine Wy (.d (.lit (.int .u64 (IntKind.u64.wrap (Int.tdiv p0 128))))) [] (Ocs (by kernel_rfl) (op_bin rfl (a1 := .int .u64 p0) (a2 := .int .u64 128) (by kernel_rfl) (by kernel_rfl) (fun _ => hb_quo (by decide)))) ?_
 refine Wy (.d (.lit (.int .u64 (IntKind.u64.wrap (Int.tdiv p0 128))))) [] (Omv rfl) ?_
 refine Walk.nil ?_
 refine Then.normal ?_
 refine Amk 9 1 ⟨((.d (.lit (.int .u64 (IntKind.u64.wrap (Int.tdiv p0 128))))) :: (tp 2 ((.own 0) :: (tp 17 [])))), [(.arr 3 1 (List.length ([(IntKind.i64.wrap (Int.tmod p0 128))] : List Int)) (flatD (encI .i64) ([(IntKind.i64.wrap (Int.tmod p0 128))] : List Int)))], 0⟩ ?_
 refine AWP.seq ?_
 refine AWP.block ?_
 refine AWP.loopI (α := Nat × Int × (List Int))
   (fun x => match x with | (fu_1, y0_1, y3_1) => (⟨((.d (.lit (.int .u64 y0_1))) :: (tp 2 ((.own 0) :: (tp 17 [])))), [(.arr 3 1 (List.length y3_1) (flatD (encI .i64) y3_1))], 0⟩ : St))
   (fun x => match x with | (fu_1, y0_1, y3_1) => m_telltaleref02_sevens_l1  fu_1 y0_1 y3_1 = some r)
   (fun x => match x with | (fu_1, y0_1, y3_1) => fu_1) (1152921504606846976, (IntKind.u64.wrap (Int.tdiv p0 128)), ([(IntKind.i64.wrap (Int.tmod p0 128))] : List Int))
   (Weak.toK 9 0 0 [0]) hm ?_
 rintro ⟨fu_1, y0_1, y3_1⟩ n_1 hm ih_1
 try dsimp only at hm ih_1 ⊢
 cases fu_1 with
 | zero => exact absurd hm (by unfold m_telltaleref02_sevens_l1; simp)
 | succ fu_1 =>
  unfold m_telltaleref02_sevens_l1 at hm
  refine AWP.seq ?_
  refine AWP.seq ?_
  refine AWP.text ?_
  refine Wy (.d (.lit (.int .u64 y0_1))) [] (Omv rfl) ?_
  refine Wy (.b (decide ((0 : Int) < y0_1))) [] (Obn rfl (fun _ => hb_gtr (k := .u64))) ?_
  refine Walk.nil ?_
  refine Then.normal ?_
  refine Amk 2057 1 ⟨((.d (.lit (.int .u64 y0_1))) :: (tp 2 ((.own 0) :: (tp 7 ((.b (decide ((0 : Int) < y0_1))) :: (tp 9 [])))))), [(.arr 3 1 (List.length y3_1) (flatD (encI .i64) y3_1))], 0⟩ ?_
  rcases tf_ (decide ((0 : Int) < y0_1)) with hc11_3 | hc11_3
  ·
   replace hm := cT hc11_3 hm
   refine AWP.if_ true (Eq.trans (by kernel_rfl) (lit_tf (b := decide ((0 : Int) < y0_1)) hc11_3)) ?_
   refine AWP.skip ?_
   refine Then.normal ?_
   refine Amk 9 1 ⟨((.d (.lit (.int .u64 y0_1))) :: (tp 2 ((.own 0) :: (tp 17 [])))), [(.arr 3 1 (List.length y3_1) (flatD (encI .i64) y3_1))], 0⟩ ?_
   refine AWP.block ?_
   refine AWP.seq ?_
   refine AWP.text ?_
   refine Wy (.own 0) [] (Omv rfl) ?_
   refine Wy (.d (.lit (.int .u64 y0_1))) [] (Omv rfl) ?_
   refine Wy (.d (.lit (.int .u64 (Int.tmod y0_1 128)))) [] (Ocs (by kernel_rfl) (op_bin rfl (a1 := .int .u64 y0_1) (a2 := .int .u64 128) (by kernel_rfl) (by kernel_rfl) (fun _ => hb_rem (by decide)))) ?_
   refine Wy (.i (IntKind.i64.wrap (Int.tmod y0_1 128))) [] (Ocs (by kernel_rfl) (op_convert rfl (a1 := .int .u64 (Int.tmod y0_1 128)) (by kernel_rfl) (run_conv (ds := .int .u64) (k' := .i64) (by kernel_rfl) (by kernel_rfl)))) ?_
   refine Wy (.own 1) [(1, (.arr 3 1 (List.length ([(IntKind.i64.wrap (Int.tmod y0_1 128))] : List Int)) (flatD (encI .i64) ([(IntKind.i64.wrap (Int.tmod y0_1 128))] : List Int))))] (Obs rfl) ?_
   obtain ⟨a17_2, ha17_2, hm⟩ := bnd hm; obtain ⟨ha17_2e, ha17_2l⟩ := app_some ha17_2
   refine Wy (.own 2) [(0, .gone), (2, (.arr 3 1 (List.length a17_2) (flatD (encI .i64) a17_2)))] (Oap rfl elemOK_76 (encI_len (k := .i64)) ha17_2e ha17_2l) ?_
   refine Wy (.own 2) [] (Omv rfl) ?_
   refine Walk.nil ?_
   refine Then.normal ?_
   refine Amk 9 4 ⟨((.d (.lit (.int .u64 y0_1))) :: (tp 2 ((.own 2) :: (tp 17 [])))), [.gone, .gone, (.arr 3 1 (List.length a17_2) (flatD (encI .i64) a17_2))], 0⟩ ?_
   refine AWP.text ?_
   refine Wy (.d (.lit (.int .u64 y0_1))) [] (Omv rfl) ?_
   refine Wy (.d (.lit (.int .u64 (IntKind.u64.wrap (Int.tdiv y0_1 128))))) [] (Ocs (by kernel_rfl) (op_bin rfl (a1 := .int .u64 y0_1) (a2 := .int .u64 128) (by kernel_rfl) (by kernel_rfl) (fun _ => hb_quo (by decide)))) ?_
   refine Wy (.d (.lit (.int .u64 (IntKind.u64.wrap (Int.tdiv y0_1 128))))) [] (Omv rfl) ?_
   refine Walk.nil ?_
   refine InBlock.normal ?_
   refine RoundK.normal ?_
   exact Rounds.weak (Weak.toK 9 0 0 [2]) (ih_1 (fu_1, (IntKind.u64.wrap (Int.tdiv y0_1 128)), a17_2) hm (Nat.lt_succ_self _))
  ·
   replace hm := cF hc11_3 hm
   refine AWP.if_ false (Eq.trans (by kernel_rfl) (lit_tf (b := decide ((0 : Int) < y0_1)) hc11_3)) ?_
   refine AWP.exit ?_
   refine Then.exit ?_
   refine RoundK.exit ?_
   refine InBlock.same ?_
   refine Then.normal ?_
   refine Amk 8 1 ⟨(tp 3 ((.own 0) :: (tp 17 []))), [(.arr 3 1 (List.length y3_1) (flatD (encI .i64) y3_1))], 0⟩ ?_
   refine AWP.seq ?_
   refine AWP.text ?_
   refine Wy (.own 0) [] (Omv rfl) ?_
   refine Wy (.own 0) [] (Omv rfl) ?_
   refine Walk.nil ?_
   refine Then.normal ?_
   refine AWP.ret ?_
   obtain rfl := Option.some.inj hm
   exact ret_i [0]

set_option maxRecDepth 20000 in
set_option maxHeartbeats 4000000 in
theorem ok_telltaleref02_Put (p0 : (List UInt8)) (p1 : Int) (r : (List UInt8)) (h : m_telltaleref02_Put p0 p1 = some r) : GCall Try.prog 38 [(.l encU8 p0), (.d (.lit (.int .u64 p1)))] [] (.own 0) [(.arr 5 1 (List.length r) (flatD encU8 r))] := by
 refine GCall.of_body (n := 42) (rs := [(.tmp 4)]) Try.func38 rfl rfl rfl ?_
 refine Ato ⟨((.l encU8 p0) :: ((.d (.lit (.int .u64 p1))) :: (tu 40 []))), [], 0⟩ ?_
 have hm := h
 unfold m_telltaleref02_Put at hm
 refine AWP.seq ?_
 refine AWP.text ?_
 refine Wy (.d .nil) [] (Omv rfl) ?_
 refine Walk.nil ?_
 refine Then.normal ?_
 refine Amk 3 0 ⟨((.l encU8 p0) :: ((.d (.lit (.int .u64 p1))) :: (tp 40 []))), [], 0⟩ ?_
 refine AWP.seq ?_
 refine AWP.text ?_
 refine Wy (.own 0) [(0, (.arr 5 1 (List.length ([] : List UInt8)) (flatD encU8 ([] : List UInt8))))] (Obs rfl) ?_
 refine Wy (.l encU8 p0) [] (Omv rfl) ?_
 obtain ⟨a10_0, ha10_0, hm⟩ := bnd hm; obtain ⟨ha10_0e, ha10_0l⟩ := app_some ha10_0
 refine Wy (.own 1) [(0, .gone), (1, (.arr 5 1 (List.length a10_0) (flatD encU8 a10_0)))] (Oap rfl elemOK_46 encU8_len ha10_0e ha10_0l) ?_
 refine Wy (.own 1) [] (Omv rfl) ?_
 refine Walk.nil ?_
 refine Then.normal ?_
 refine Amk 34 2 ⟨(tp 1 ((.d (.lit (.int .u64 p1))) :: (tp 3 ((.own 1) :: (tp 36 []))))), [.gone, (.arr 5 1 (List.length a10_0) (flatD encU8 a10_0))], 0⟩ ?_
 refine AWP.seq ?_
 refine AWP.text ?_
 refine Wy (.d (.lit (.int .u64 p1))) [] (Omv rfl) ?_
 obtain ⟨r12_1, hr12_1, hm⟩ := bnd hm
 refine Wy (.own 2) [(2, (.arr 3 1 (List.length r12_1) (flatD (encI .i64) r12_1)))] (Ocf [] [2] [] 0 (ok_telltaleref02_sevens p1 r12_1 hr12_1) (fun a w => Try.call48 a w) rfl trivial) ?_
 refine Wy (.own 2) [] (Omv rfl) ?_
 refine Walk.nil ?_
 refine Then.normal ?_
 refine Amk 96 6 ⟨(tp 5 ((.own 1) :: ((.own 2) :: (tp 35 [])))), [.gone, (.arr 5 1 (List.length a10_0) (flatD encU8 a10_0)), (.arr 3 1 (List.length r12_1) (flatD (encI .i64) r12_1))], 0⟩ ?_
 refine AWP.seq ?_
 refine AWP.seq ?_
 refine AWP.text ?_
 refine Wy (.i 0) [] (Omv rfl) ?_
 refine Walk.nil ?_
 refine Then.normal ?_
 refine Amk 224 6 ⟨(tp 5 ((.own 1) :: ((.own 2) :: ((.i 0) :: (tp 34 []))))), [.gone, (.arr 5 1 (List.length a10_0) (flatD encU8 a10_0)), (.arr 3 1 (List.length r12_1) (flatD (encI .i64) r12_1))], 0⟩ ?_
 refine AWP.block ?_
 refine AWP.loopI (α := Nat × (List UInt8) × Int)
   (fun x => match x with | (fu_2, y5_2, y7_2) => (⟨(tp 5 ((.own 0) :: ((.own 1) :: ((.i y7_2) :: (tp 34 []))))), [(.arr 5 1 (List.length y5_2) (flatD encU8 y5_2)), (.arr 3 1 (List.length r12_1) (flatD (encI .i64) r12_1))], 0⟩ : St))
   (fun x => match x with | (fu_2, y5_2, y7_2) => m_telltaleref02_Put_l2 r12_1 fu_2 y5_2 y7_2 = some r)
   (fun x => match x with | (fu_2, y5_2, y7_2) => fu_2) (1152921504606846976, a10_0, 0)
   (Weak.toK 224 0 0 [1, 2]) hm ?_
 rintro ⟨fu_2, y5_2, y7_2⟩ n_2 hm ih_2
 try dsimp only at hm ih_2 ⊢
 cases fu_2 with
 | zero => exact absurd hm (by unfold m_telltaleref02_Put_l2; simp)
 | succ fu_2 =>
  unfold m_telltaleref02_Put_l2 at hm
  refine AWP.seq ?_
  refine AWP.seq ?_
  refine AWP.text ?_
  refine Wy (.i y7_2) [] (Omv rfl) ?_
  refine Wy (.own 1) [] (Omv rfl) ?_
  refine Wy (.i ((List.length r12_1 : Nat) : Int)) [] (Oln rfl) ?_
  refine Wy (.b (decide (y7_2 < ((List.length r12_1 : Nat) : Int)))) [] (Obn rfl (fun _ => hb_lss (k := .i64))) ?_
  refine Walk.nil ?_
  refine Then.normal ?_
  refine Amk 65760 3 ⟨(tp 5 ((.own 0) :: ((.own 1) :: ((.i y7_2) :: (tp 8 ((.b (decide (y7_2 < ((List.length r12_1 : Nat) : Int)))) :: (tp 25 []))))))), [(.arr 5 1 (List.length y5_2) (flatD encU8 y5_2)), (.arr 3 1 (List.length r12_1) (flatD (encI .i64) r12_1))], 0⟩ ?_
  rcases tf_ (decide (y7_2 < ((List.length r12_1 : Nat) : Int))) with hc16_7 | hc16_7
  ·
   replace hm := cT hc16_7 hm
   refine AWP.if_ true (Eq.trans (by kernel_rfl) (lit_tf (b := decide (y7_2 < ((List.length r12_1 : Nat) : Int))) hc16_7)) ?_
   refine AWP.skip ?_
   refine Then.normal ?_
   refine Amk 224 3 ⟨(tp 5 ((.own 0) :: ((.own 1) :: ((.i y7_2) :: (tp 34 []))))), [(.arr 5 1 (List.length y5_2) (flatD encU8 y5_2)), (.arr 3 1 (List.length r12_1) (flatD (encI .i64) r12_1))], 0⟩ ?_
   refine AWP.seq ?_
   refine AWP.block ?_
   refine AWP.seq ?_
   refine AWP.text ?_
   refine Wy (.i y7_2) [] (Omv rfl) ?_
   refine Wy (.own 1) [] (Omv rfl) ?_
   refine Wy (.i ((List.length r12_1 : Nat) : Int)) [] (Oln rfl) ?_
   refine Wy (.i (IntKind.i64.wrap (((List.length r12_1 : Nat) : Int) - 1))) [] (Obn rfl (fun _ => hb_sub (k := .i64))) ?_
   refine Wy (.b (decide (y7_2 < (IntKind.i64.wrap (((List.length r12_1 : Nat) : Int) - 1))))) [] (Obn rfl (fun _ => hb_lss (k := .i64))) ?_
   refine Walk.nil ?_
   refine Then.normal ?_
   refine Amk 8388832 3 ⟨(tp 5 ((.own 0) :: ((.own 1) :: ((.i y7_2) :: (tp 15 ((.b (decide (y7_2 < (IntKind.i64.wrap (((List.length r12_1 : Nat) : Int) - 1))))) :: (tp 18 []))))))), [(.arr 5 1 (List.length y5_2) (flatD encU8 y5_2)), (.arr 3 1 (List.length r12_1) (flatD (encI .i64) r12_1))], 0⟩ ?_
   rcases tf_ (decide (y7_2 < (IntKind.i64.wrap (((List.length r12_1 : Nat) : Int) - 1)))) with hc23_8 | hc23_8
   ·
    replace hm := cT hc23_8 hm
    refine AWP.if_ true (Eq.trans (by kernel_rfl) (lit_tf (b := decide (y7_2 < (IntKind.i64.wrap (((List.length r12_1 : Nat) : Int) - 1)))) hc23_8)) ?_
    refine AWP.text ?_
    refine Wy (.own 0) [] (Omv rfl) ?_
    refine Wy (.own 1) [] (Omv rfl) ?_
    refine Wy (.i y7_2) [] (Omv rfl) ?_
    obtain ⟨x27_5, hx27_5, hm⟩ := bnd hm
    obtain ⟨hx27_5i, hx27_5g⟩ := geti_some hx27_5
    refine Wy (.loc 1 ((Int.toNat y7_2) * 1)) [] (Oia rfl (encI_len (k := .i64)) hx27_5i hx27_5g) ?_
    refine Wy (.i x27_5) [] (Lr1 rfl (encI_len (k := .i64)) hx27_5g) ?_
    refine Wy (.i (IntKind.i64.wrap (128 + x27_5))) [] (Obn rfl (fun _ => hb_add (k := .i64))) ?_
    refine Wy (.y (toU8 (IntKind.i64.wrap (128 + x27_5)))) [] (Ocs (lit_int (u8w _)) (op_convert rfl (a1 := .int .i64 (IntKind.i64.wrap (128 + x27_5))) (by kernel_rfl) (run_conv (ds := .int .i64) (k' := .u8) (by kernel_rfl) (by kernel_rfl)))) ?_
    refine Wy (.own 2) [(2, (.arr 5 1 (List.length ([(toU8 (IntKind.i64.wrap (128 + x27_5)))] : List UInt8)) (flatD encU8 ([(toU8 (IntKind.i64.wrap (128 + x27_5)))] : List UInt8))))] (Obs rfl) ?_
    obtain ⟨a32_5, ha32_5, hm⟩ := bnd hm; obtain ⟨ha32_5e, ha32_5l⟩ := app_some ha32_5
    refine Wy (.own 3) [(0, .gone), (3, (.arr 5 1 (List.length a32_5) (flatD encU8 a32_5)))] (Oap rfl elemOK_46 encU8_len ha32_5e ha32_5l) ?_
    refine Wy (.own 3) [] (Omv rfl) ?_
    refine Walk.nil ?_
    refine InBlock.normal ?_
    refine Then.normal ?_
    refine Amk 224 10 ⟨(tp 5 ((.own 3) :: ((.own 1) :: ((.i y7_2) :: (tp 34 []))))), [.gone, (.arr 3 1 (List.length r12_1) (flatD (encI .i64) r12_1)), .gone, (.arr 5 1 (List.length a32_5) (flatD encU8 a32_5))], 0⟩ ?_
    refine AWP.text ?_
    refine Wy (.i y7_2) [] (Omv rfl) ?_
    refine Wy (.i (IntKind.i64.wrap (y7_2 + 1))) [] (Obn rfl (fun _ => hb_add (k := .i64))) ?_
    refine Wy (.i (IntKind.i64.wrap (y7_2 + 1))) [] (Omv rfl) ?_
    refine Walk.nil ?_
    refine RoundK.normal ?_
    exact Rounds.weak (Weak.toK 224 0 0 [3, 1]) (ih_2 (fu_2, a32_5, (IntKind.i64.wrap (y7_2 + 1))) hm (Nat.lt_succ_self _))
   ·
    replace hm := cF hc23_8 hm
    refine AWP.if_ false (Eq.trans (by kernel_rfl) (lit_tf (b := decide (y7_2 < (IntKind.i64.wrap (((List.length r12_1 : Nat) : Int) - 1)))) hc23_8)) ?_
    refine AWP.text ?_
    refine Wy (.own 0) [] (Omv rfl) ?_
    refine Wy (.own 1) [] (Omv rfl) ?_
    refine Wy (.i y7_2) [] (Omv rfl) ?_
    obtain ⟨x36_6, hx36_6, hm⟩ := bnd hm
    obtain ⟨hx36_6i, hx36_6g⟩ := geti_some hx36_6
    refine Wy (.loc 1 ((Int.toNat y7_2) * 1)) [] (Oia rfl (encI_len (k := .i64)) hx36_6i hx36_6g) ?_
    refine Wy (.i x36_6) [] (Lr1 rfl (encI_len (k := .i64)) hx36_6g) ?_
    refine Wy (.y (toU8 x36_6)) [] (Ocs (lit_int (u8w _)) (op_convert rfl (a1 := .int .i64 x36_6) (by kernel_rfl) (run_conv (ds := .int .i64) (k' := .u8) (by kernel_rfl) (by kernel_rfl)))) ?_
    refine Wy (.own 2) [(2, (.arr 5 1 (List.length ([(toU8 x36_6)] : List UInt8)) (flatD encU8 ([(toU8 x36_6)] : List UInt8))))] (Obs rfl) ?_
    obtain ⟨a40_6, ha40_6, hm⟩ := bnd hm; obtain ⟨ha40_6e, ha40_6l⟩ := app_some ha40_6
    refine Wy (.own 3) [(0, .gone), (3, (.arr 5 1 (List.length a40_6) (flatD encU8 a40_6)))] (Oap rfl elemOK_46 encU8_len ha40_6e ha40_6l) ?_
    refine Wy (.own 3) [] (Omv rfl) ?_
    refine Walk.nil ?_
    refine InBlock.normal ?_
    refine Then.normal ?_
    refine Amk 224 10 ⟨(tp 5 ((.own 3) :: ((.own 1) :: ((.i y7_2) :: (tp 34 []))))), [.gone, (.arr 3 1 (List.length r12_1) (flatD (encI .i64) r12_1)), .gone, (.arr 5 1 (List.length a40_6) (flatD encU8 a40_6))], 0⟩ ?_
    refine AWP.text ?_
    refine Wy (.i y7_2) [] (Omv rfl) ?_
    refine Wy (.i (IntKind.i64.wrap (y7_2 + 1))) [] (Obn rfl (fun _ => hb_add (k := .i64))) ?_
    refine Wy (.i (IntKind.i64.wrap (y7_2 + 1))) [] (Omv rfl) ?_
    refine Walk.nil ?_
    refine RoundK.normal ?_
    exact Rounds.weak (Weak.toK 224 0 0 [3, 1]) (ih_2 (fu_2, a40_6, (IntKind.i64.wrap (y7_2 + 1))) hm (Nat.lt_succ_self _))
  ·
   replace hm := cF hc16_7 hm
   refine AWP.if_ false (Eq.trans (by kernel_rfl) (lit_tf (b := decide (y7_2 < ((List.length r12_1 : Nat) : Int))) hc16_7)) ?_
   refine AWP.exit ?_
   refine Then.exit ?_
   refine RoundK.exit ?_
   refine InBlock.same ?_
   refine Then.normal ?_
   refine Amk 32 1 ⟨(tp 5 ((.own 0) :: (tp 36 []))), [(.arr 5 1 (List.length y5_2) (flatD encU8 y5_2)), .gone], 0⟩ ?_
   refine AWP.seq ?_
   refine AWP.text ?_
   refine Wy (.own 0) [] (Omv rfl) ?_
   refine Wy (.own 0) [] (Omv rfl) ?_
   refine Walk.nil ?_
   refine Then.normal ?_
   refine AWP.ret ?_
   obtain rfl := Option.some.inj hm
   exact ret_i [0]

set_option maxRecDepth 20000 in
set_option maxHeartbeats 4000000 in
theorem ok_telltaleref02_Fold (p0 : Int) (r : Int) (h : m_telltaleref02_Fold p0 = some r) : GCall Try.prog 39 [(.i p0)] [] (.d (.lit (.int .u64 r))) [] := by
 refine GCall.of_body (n := 14) (rs := [(.tmp 2)]) Try.func39 rfl rfl rfl ?_
 refine Ato ⟨((.i p0) :: (tu 13 [])), [], 0⟩ ?_
 have hm := h
 unfold m_telltaleref02_Fold at hm
 refine AWP.seq ?_
 refine AWP.text ?_
 refine Wy (.d (.lit (.int .u64 0))) [] (Omv rfl) ?_
 refine Walk.nil ?_
 refine Then.normal ?_
 refine Amk 1 0 ⟨((.i p0) :: (tp 13 [])), [], 0⟩ ?_
 refine AWP.seq ?_
 refine AWP.seq ?_
 refine AWP.text ?_
 refine Wy (.i p0) [] (Omv rfl) ?_
 refine Wy (.b (decide (p0 < 0))) [] (Obn rfl (fun _ => hb_lss (k := .i64))) ?_
 refine Walk.nil ?_
 refine Then.normal ?_
 refine Amk 17 0 ⟨((.i p0) :: (tp 3 ((.b (decide (p0 < 0))) :: (tp 9 [])))), [], 0⟩ ?_
 rcases tf_ (decide (p0 < 0)) with hc4_2 | hc4_2
 ·
  replace hm := cT hc4_2 hm
  refine AWP.if_ true (Eq.trans (by kernel_rfl) (lit_tf (b := decide (p0 < 0)) hc4_2)) ?_
  refine AWP.seq ?_
  refine AWP.text ?_
  refine Wy (.i p0) [] (Omv rfl) ?_
  refine Wy (.i (IntKind.i64.wrap (p0 + 1))) [] (Obn rfl (fun _ => hb_add (k := .i64))) ?_
  refine Wy (.i (IntKind.i64.wrap (0 - (IntKind.i64.wrap (p0 + 1))))) [] (Ocs (by kernel_rfl) (op_un rfl (a1 := .int .i64 (IntKind.i64.wrap (p0 + 1))) (by kernel_rfl) (fun _ => hu_neg))) ?_
  refine Wy (.d (.lit (.int .u64 (IntKind.u64.wrap (IntKind.i64.wrap (0 - (IntKind.i64.wrap (p0 + 1)))))))) [] (Ocs (by kernel_rfl) (op_convert rfl (a1 := .int .i64 (IntKind.i64.wrap (0 - (IntKind.i64.wrap (p0 + 1))))) (by kernel_rfl) (run_conv (ds := .int .i64) (k' := .u64) (by kernel_rfl) (by kernel_rfl)))) ?_
  refine Wy (.d (.lit (.int .u64 (IntKind.u64.wrap (2 * (IntKind.u64.wrap (IntKind.i64.wrap (0 - (IntKind.i64.wrap (p0 + 1)))))))))) [] (Obn rfl (fun _ => hb_mul (k := .u64))) ?_
  obtain ⟨v10_0, hv10_0, hm⟩ := bnd hm; replace hv10_0 := Option.some.inj hv10_0
  refine Wy (.d (.lit (.int .u64 v10_0))) [] (Ocs (congrArg (fun z => A.d (.lit (.int .u64 z))) hv10_0) (Obn rfl (fun _ => hb_add (k := .u64)))) ?_
  refine Wy (.d (.lit (.int .u64 v10_0))) [] (Omv rfl) ?_
  refine Walk.nil ?_
  refine Then.normal ?_
  refine AWP.ret ?_
  refine Then.ret ?_
  obtain rfl := Option.some.inj hm
  exact ret_i []
 ·
  replace hm := cF hc4_2 hm
  refine AWP.if_ false (Eq.trans (by kernel_rfl) (lit_tf (b := decide (p0 < 0)) hc4_2)) ?_
  refine AWP.skip ?_
  refine Then.normal ?_
  refine Amk 1 0 ⟨((.i p0) :: (tp 13 [])), [], 0⟩ ?_
  refine AWP.seq ?_
  refine AWP.text ?_
  refine Wy (.i p0) [] (Omv rfl) ?_
  refine Wy (.d (.lit (.int .u64 (IntKind.u64.wrap p0)))) [] (Ocs (by kernel_rfl) (op_convert rfl (a1 := .int .i64 p0) (by kernel_rfl) (run_conv (ds := .int .i64) (k' := .u64) (by kernel_rfl) (by kernel_rfl)))) ?_
  refine Wy (.d (.lit (.int .u64 (IntKind.u64.wrap (2 * (IntKind.u64.wrap p0)))))) [] (Obn rfl (fun _ => hb_mul (k := .u64))) ?_
  refine Wy (.d (.lit (.int .u64 (IntKind.u64.wrap (2 * (IntKind.u64.wrap p0)))))) [] (Omv rfl) ?_
  refine Walk.nil ?_
  refine Then.normal ?_
  refine AWP.ret ?_
  obtain rfl := Option.some.inj hm
  exact ret_i []

set_option maxRecDepth 20000 in
set_option maxHeartbeats 4000000 in
theorem ok_telltaleref26_Put (p0 : (List UInt8)) (p1 : (List GChange)) (r : (List UInt8)) (h : m_telltaleref26_Put p0 p1 = some r) : GCall Try.prog 24 [(.l encU8 p0), (.l enc_GChange p1)] [] (.own 0) [(.arr 5 1 (List.length r) (flatD encU8 r))] := by
 refine GCall.of_body (n := 42) (rs := [(.tmp 4)]) Try.func24 rfl rfl rfl ?_
 refine Ato ⟨((.l encU8 p0) :: ((.l enc_GChange p1) :: (tu 40 []))), [], 0⟩ ?_
 have hm := h
 unfold m_telltaleref26_Put at hm
 refine AWP.seq ?_
 refine AWP.text ?_
 refine Wy (.d .nil) [] (Omv rfl) ?_
 refine Walk.nil ?_
 refine Then.normal ?_
 refine Amk 3 0 ⟨((.l encU8 p0) :: ((.l enc_GChange p1) :: (tp 40 []))), [], 0⟩ ?_
 refine AWP.seq ?_
 refine AWP.text ?_
 refine Wy (.l encU8 p0) [] (Omv rfl) ?_
 refine Wy (.l enc_GChange p1) [] (Omv rfl) ?_
 refine Wy (.i ((List.length p1 : Nat) : Int)) [] (Oln rfl) ?_
 refine Wy (.d (.lit (.int .u64 (IntKind.u64.wrap ((List.length p1 : Nat) : Int))))) [] (Ocs (by kernel_rfl) (op_convert rfl (a1 := .int .i64 ((List.length p1 : Nat) : Int)) (by kernel_rfl) (run_conv (ds := .int .i64) (k' := .u64) (by kernel_rfl) (by kernel_rfl)))) ?_
 obtain ⟨r10_0, hr10_0, hm⟩ := bnd hm
 refine Wy (.own 0) [(0, (.arr 5 1 (List.length r10_0) (flatD encU8 r10_0)))] (Ocf [] [0] [] 0 (ok_telltaleref02_Put p0 (IntKind.u64.wrap ((List.length p1 : Nat) : Int)) r10_0 hr10_0) (fun a w => Try.call38 a w) rfl trivial) ?_
 refine Wy (.own 0) [] (Omv rfl) ?_
 refine Walk.nil ?_
 refine Then.normal ?_
 refine Amk 3 1 ⟨((.own 0) :: ((.l enc_GChange p1) :: (tp 40 []))), [(.arr 5 1 (List.length r10_0) (flatD encU8 r10_0))], 0⟩ ?_
 refine AWP.seq ?_
 refine AWP.seq ?_
 refine AWP.text ?_
 refine Wy (.i 0) [] (Omv rfl) ?_
 refine Walk.nil ?_
 refine Then.normal ?_
 refine Amk 35 1 ⟨((.own 0) :: ((.l enc_GChange p1) :: (tp 3 ((.i 0) :: (tp 36 []))))), [(.arr 5 1 (List.length r10_0) (flatD encU8 r10_0))], 0⟩ ?_
 refine AWP.block ?_
 refine AWP.loopI (α := Nat × (List UInt8) × Int)
   (fun x => match x with | (fu_1, y0_1, y5_1) => (⟨((.own 0) :: ((.l enc_GChange p1) :: (tp 3 ((.i y5_1) :: (tp 36 []))))), [(.arr 5 1 (List.length y0_1) (flatD encU8 y0_1))], 0⟩ : St))
   (fun x => match x with | (fu_1, y0_1, y5_1) => m_telltaleref26_Put_l1 p1 fu_1 y0_1 y5_1 = some r)
   (fun x => match x with | (fu_1, y0_1, y5_1) => fu_1) (1152921504606846976, r10_0, 0)
   (Weak.toK 35 0 0 [0]) hm ?_
 rintro ⟨fu_1, y0_1, y5_1⟩ n_1 hm ih_1
 try dsimp only at hm ih_1 ⊢
 cases fu_1 with
 | zero => exact absurd hm (by unfold m_telltaleref26_Put_l1; simp)
 | succ fu_1 =>
  unfold m_telltaleref26_Put_l1 at hm
  refine AWP.seq ?_
  refine AWP.seq ?_
  refine AWP.text ?_
  refine Wy (.i y5_1) [] (Omv rfl) ?_
  refine Wy (.l enc_GChange p1) [] (Omv rfl) ?_
  refine Wy (.i ((List.length p1 : Nat) : Int)) [] (Oln rfl) ?_
  refine Wy (.b (decide (y5_1 < ((List.length p1 : Nat) : Int)))) [] (Obn rfl (fun _ => hb_lss (k := .i64))) ?_
  refine Walk.nil ?_
  refine Then.normal ?_
  refine Amk 16419 1 ⟨((.own 0) :: ((.l enc_GChange p1) :: (tp 3 ((.i y5_1) :: (tp 8 ((.b (decide (y5_1 < ((List.length p1 : Nat) : Int)))) :: (tp 27 []))))))), [(.arr 5 1 (List.length y0_1) (flatD encU8 y0_1))], 0⟩ ?_
  rcases tf_ (decide (y5_1 < ((List.length p1 : Nat) : Int))) with hc14_6 | hc14_6
  ·
   replace hm := cT hc14_6 hm
   refine AWP.if_ true (Eq.trans (by kernel_rfl) (lit_tf (b := decide (y5_1 < ((List.length p1 : Nat) : Int))) hc14_6)) ?_
   refine AWP.skip ?_
   refine Then.normal ?_
   refine Amk 35 1 ⟨((.own 0) :: ((.l enc_GChange p1) :: (tp 3 ((.i y5_1) :: (tp 36 []))))), [(.arr 5 1 (List.length y0_1) (flatD encU8 y0_1))], 0⟩ ?_
   refine AWP.seq ?_
   refine AWP.block ?_
   refine AWP.seq ?_
   refine AWP.text ?_
   refine Wy (.own 0) [] (Omv rfl) ?_
   refine Wy (.l enc_GChange p1) [] (Omv rfl) ?_
   refine Wy (.i y5_1) [] (Omv rfl) ?_
   obtain ⟨x20_3, hx20_3, hm⟩ := bnd hm
   obtain ⟨hx20_3i, hx20_3g⟩ := geti_some hx20_3
   refine Wy (.d (.ref (List.drop ((Int.toNat y5_1) * 3) (flatD enc_GChange p1)))) [] (Oia rfl enc_GChange_len hx20_3i hx20_3g) ?_
   refine Wy (.d (.ref (List.drop ((Int.toNat y5_1) * 3) (flatD enc_GChange p1)))) [] (Ofa rfl) ?_
   refine Wy (.i x20_3.Loc) [] (Lf1 rfl enc_GChange_len hx20_3g) ?_
   obtain ⟨r23_3, hr23_3, hm⟩ := bnd hm
   refine Wy (.d (.lit (.int .u64 r23_3))) [] (Ocf [] [] [] 0 (ok_telltaleref02_Fold x20_3.Loc r23_3 hr23_3) (fun a w => Try.call39 a w) rfl trivial) ?_
   obtain ⟨r24_3, hr24_3, hm⟩ := bnd hm
   refine Wy (.own 1) [(1, (.arr 5 1 (List.length r24_3) (flatD encU8 r24_3)))] (Ocp [] [1] [0] 0 (ok_telltaleref02_Put y0_1 r23_3 r24_3 hr24_3) (⟨by simp [A.Plain, A.Plains, D.Plain, byteD], plain_cons (flat_plain encU8_plain) (plain_nil)⟩) (fun a w => Try.call38 a w) rfl trivial) ?_
   refine Wy (.own 1) [] (Omv rfl) ?_
   refine Walk.nil ?_
   refine Then.normal ?_
   refine Amk 35 2 ⟨((.own 1) :: ((.l enc_GChange p1) :: (tp 3 ((.i y5_1) :: (tp 36 []))))), [.gone, (.arr 5 1 (List.length r24_3) (flatD encU8 r24_3))], 0⟩ ?_
   refine AWP.seq ?_
   refine AWP.text ?_
   refine Wy (.own 1) [] (Omv rfl) ?_
   refine Wy (.l enc_GChange p1) [] (Omv rfl) ?_
   refine Wy (.i y5_1) [] (Omv rfl) ?_
   obtain ⟨x28_4, hx28_4, hm⟩ := bnd hm
   obtain ⟨hx28_4i, hx28_4g⟩ := geti_some hx28_4
   refine Wy (.d (.ref (List.drop ((Int.toNat y5_1) * 3) (flatD enc_GChange p1)))) [] (Oia rfl enc_GChange_len hx28_4i hx28_4g) ?_
   refine Wy (.d (.ref (List.drop 1 (List.drop ((Int.toNat y5_1) * 3) (flatD enc_GChange p1))))) [] (Ofa rfl) ?_
   refine Wy (.i x28_4.Time) [] (Lfk1 1 rfl enc_GChange_len hx28_4g) ?_
   obtain ⟨r31_4, hr31_4, hm⟩ := bnd hm
   refine Wy (.d (.lit (.int .u64 r31_4))) [] (Ocf [] [] [] 0 (ok_telltaleref02_Fold x28_4.Time r31_4 hr31_4) (fun a w => Try.call39 a w) rfl trivial) ?_
   obtain ⟨r32_4, hr32_4, hm⟩ := bnd hm
   refine Wy (.own 2) [(2, (.arr 5 1 (List.length r32_4) (flatD encU8 r32_4)))] (Ocp [] [2] [1] 0 (ok_telltaleref02_Put r24_3 r31_4 r32_4 hr32_4) (⟨by simp [A.Plain, A.Plains, D.Plain, byteD], plain_cons (flat_plain encU8_plain) (plain_nil)⟩) (fun a w => Try.call38 a w) rfl trivial) ?_
   refine Wy (.own 2) [] (Omv rfl) ?_
   refine Walk.nil ?_
   refine Then.normal ?_
   refine Amk 35 4 ⟨((.own 2) :: ((.l enc_GChange p1) :: (tp 3 ((.i y5_1) :: (tp 36 []))))), [.gone, .gone, (.arr 5 1 (List.length r32_4) (flatD encU8 r32_4))], 0⟩ ?_
   refine AWP.text ?_
   refine Wy (.own 2) [] (Omv rfl) ?_
   refine Wy (.l enc_GChange p1) [] (Omv rfl) ?_
   refine Wy (.i y5_1) [] (Omv rfl) ?_
   obtain ⟨x36_5, hx36_5, hm⟩ := bnd hm
   obtain ⟨hx36_5i, hx36_5g⟩ := geti_some hx36_5
   refine Wy (.d (.ref (List.drop ((Int.toNat y5_1) * 3) (flatD enc_GChange p1)))) [] (Oia rfl enc_GChange_len hx36_5i hx36_5g) ?_
   refine Wy (.d (.ref (List.drop 2 (List.drop ((Int.toNat y5_1) * 3) (flatD enc_GChange p1))))) [] (Ofa rfl) ?_
   refine Wy (.i x36_5.N) [] (Lfk1 2 rfl enc_GChange_len hx36_5g) ?_
   obtain ⟨r39_5, hr39_5, hm⟩ := bnd hm
   refine Wy (.d (.lit (.int .u64 r39_5))) [] (Ocf [] [] [] 0 (ok_telltaleref02_Fold x36_5.N r39_5 hr39_5) (fun a w => Try.call39 a w) rfl trivial) ?_
   obtain ⟨r40_5, hr40_5, hm⟩ := bnd hm
   refine Wy (.own 3) [(3, (.arr 5 1 (List.length r40_5) (flatD encU8 r40_5)))] (Ocp [] [3] [2] 0 (ok_telltaleref02_Put r32_4 r39_5 r40_5 hr40_5) (⟨by simp [A.Plain, A.Plains, D.Plain, byteD], plain_cons (flat_plain encU8_plain) (plain_nil)⟩) (fun a w => Try.call38 a w) rfl trivial) ?_
   refine Wy (.own 3) [] (Omv rfl) ?_
   refine Walk.nil ?_
   refine InBlock.normal ?_
   refine Then.normal ?_
   refine Amk 35 8 ⟨((.own 3) :: ((.l enc_GChange p1) :: (tp 3 ((.i y5_1) :: (tp 36 []))))), [.gone, .gone, .gone, (.arr 5 1 (List.length r40_5) (flatD encU8 r40_5))], 0⟩ ?_
   refine AWP.text ?_
   refine Wy (.i y5_1) [] (Omv rfl) ?_
   refine Wy (.i (IntKind.i64.wrap (y5_1 + 1))) [] (Obn rfl (fun _ => hb_add (k := .i64))) ?_
   refine Wy (.i (IntKind.i64.wrap (y5_1 + 1))) [] (Omv rfl) ?_
   refine Walk.nil ?_
   refine RoundK.normal ?_
   exact Rounds.weak (Weak.toK 35 0 0 [3]) (ih_1 (fu_1, r40_5, (IntKind.i64.wrap (y5_1 + 1))) hm (Nat.lt_succ_self _))
  ·
   replace hm := cF hc14_6 hm
   refine AWP.if_ false (Eq.trans (by kernel_rfl) (lit_tf (b := decide (y5_1 < ((List.length p1 : Nat) : Int))) hc14_6)) ?_
   refine AWP.exit ?_
   refine Then.exit ?_
   refine RoundK.exit ?_
   refine InBlock.same ?_
   refine Then.normal ?_
   refine Amk 1 1 ⟨((.own 0) :: (tp 41 [])), [(.arr 5 1 (List.length y0_1) (flatD encU8 y0_1))], 0⟩ ?_
   refine AWP.seq ?_
   refine AWP.text ?_
   refine Wy (.own 0) [] (Omv rfl) ?_
   refine Wy (.own 0) [] (Omv rfl) ?_
   refine Walk.nil ?_
   refine Then.normal ?_
   refine AWP.ret ?_
   obtain rfl := Option.some.inj hm
   exact ret_i [0]

set_option maxRecDepth 20000 in
set_option maxHeartbeats 4000000 in
theorem ok_telltalelaw26_TallyTakes (p0 : (List GChange)) (p1 : (List UInt8)) (p2 : Int) (r : Bool) (h : m_telltalelaw26_TallyTakes p0 p1 p2 = some r) : GCall Try.prog 4 [(.l enc_GChange p0), (.s p1), (.i p2)] [] (.b r) [] := by
 refine GCall.of_body (n := 67) (rs := [(.tmp 6)]) Try.func4 rfl rfl rfl ?_
 refine Ato ⟨((.l enc_GChange p0) :: ((.s p1) :: ((.i p2) :: (tu 64 [])))), [], 0⟩ ?_
 have hm := h
 unfold m_telltalelaw26_TallyTakes at hm
 refine AWP.seq ?_
 refine AWP.text ?_
 refine Wy (.b false) [] (Omv rfl) ?_
 refine Walk.nil ?_
 refine Then.normal ?_
 refine Amk 7 0 ⟨((.l enc_GChange p0) :: ((.s p1) :: ((.i p2) :: (tp 64 [])))), [], 0⟩ ?_
 refine AWP.seq ?_
 refine AWP.seq ?_
 refine AWP.text ?_
 refine Wy (.l enc_GChange p0) [] (Omv rfl) ?_
 refine Wy (.i ((List.length p0 : Nat) : Int)) [] (Oln rfl) ?_
 refine Wy (.b (decide ((40 : Int) < ((List.length p0 : Nat) : Int)))) [] (Obn rfl (fun _ => hb_gtr (k := .i64))) ?_
 rcases tf_ (decide ((40 : Int) < ((List.length p0 : Nat) : Int))) with hq16_0 | hq16_0
 ·
  replace hm := cT hq16_0 hm
  refine Wy (.b true) [] (Ocs (lit_tf (b := decide ((40 : Int) < ((List.length p0 : Nat) : Int))) hq16_0) (Omv rfl)) ?_
  refine Wn ?_
  refine Wn ?_
  refine Wn ?_
  refine Wy (.b true) [] (OpT rfl) ?_
  refine Walk.nil ?_
  refine Then.normal ?_
  refine Amk 1048583 0 ⟨((.l enc_GChange p0) :: ((.s p1) :: ((.i p2) :: (tp 17 ((.b true) :: (tp 46 [])))))), [], 0⟩ ?_
  refine AWP.if_ true (by kernel_rfl) ?_
  refine AWP.seq ?_
  refine AWP.text ?_
  obtain ⟨r21_1, hr21_1, hm⟩ := bnd hm
  refine Wy (.b r21_1) [] (Ocf [] [] [] 0 (ok_telltalelaw26_awake  r21_1 hr21_1) (fun a w => Try.call7 a w) rfl trivial) ?_
  refine Wy (.b r21_1) [] (Omv rfl) ?_
  refine Walk.nil ?_
  refine Then.normal ?_
  refine AWP.ret ?_
  refine Then.ret ?_
  obtain rfl := Option.some.inj hm
  exact ret_i []
 ·
  replace hm := cF hq16_0 hm
  refine Wy (.b false) [] (Ocs (lit_tf (b := decide ((40 : Int) < ((List.length p0 : Nat) : Int))) hq16_0) (Omv rfl)) ?_
  refine Wy (.s p1) [] (Omv rfl) ?_
  refine Wy (.i ((List.length p1 : Nat) : Int)) [] (Oln rfl) ?_
  refine Wy (.b (decide ((300 : Int) < ((List.length p1 : Nat) : Int)))) [] (Obn rfl (fun _ => hb_gtr (k := .i64))) ?_
  refine Wy (.b (decide ((300 : Int) < ((List.length p1 : Nat) : Int)))) [] (OpF rfl) ?_
  refine Walk.nil ?_
  refine Then.normal ?_
  refine Amk 1048583 0 ⟨((.l enc_GChange p0) :: ((.s p1) :: ((.i p2) :: (tp 17 ((.b (decide ((300 : Int) < ((List.length p1 : Nat) : Int)))) :: (tp 46 [])))))), [], 0⟩ ?_
  rcases tf_ (decide ((300 : Int) < ((List.length p1 : Nat) : Int))) with hc20_6 | hc20_6
  ·
   replace hm := cT hc20_6 hm
   refine AWP.if_ true (Eq.trans (by kernel_rfl) (lit_tf (b := decide ((300 : Int) < ((List.length p1 : Nat) : Int))) hc20_6)) ?_
   refine AWP.seq ?_
   refine AWP.text ?_
   obtain ⟨r21_2, hr21_2, hm⟩ := bnd hm
   refine Wy (.b r21_2) [] (Ocf [] [] [] 0 (ok_telltalelaw26_awake  r21_2 hr21_2) (fun a w => Try.call7 a w) rfl trivial) ?_
   refine Wy (.b r21_2) [] (Omv rfl) ?_
   refine Walk.nil ?_
   refine Then.normal ?_
   refine AWP.ret ?_
   refine Then.ret ?_
   obtain rfl := Option.some.inj hm
   exact ret_i []
  ·
   replace hm := cF hc20_6 hm
   refine AWP.if_ false (Eq.trans (by kernel_rfl) (lit_tf (b := decide ((300 : Int) < ((List.length p1 : Nat) : Int))) hc20_6)) ?_
   refine AWP.skip ?_
   refine Then.normal ?_
   refine Amk 7 0 ⟨((.l enc_GChange p0) :: ((.s p1) :: ((.i p2) :: (tp 64 [])))), [], 0⟩ ?_
   refine AWP.seq ?_
   refine AWP.text ?_
   refine Wy (.s p1) [] (Omv rfl) ?_
   refine Wy (.i p2) [] (Omv rfl) ?_
   obtain ⟨r25_3, hr25_3, hm⟩ := bnd hm
   refine Wy (.tup [(.own 0), (.i r25_3.2.1), (.i r25_3.2.2)]) [(0, (.arr 36 3 (List.length r25_3.1) (flatD enc_GChange r25_3.1)))] (Ocf [] [0] [] 0 (ok_tally_Take p1 p2 r25_3 hr25_3) (fun a w => Try.call21 a w) rfl trivial) ?_
   refine Wy (.tup [(.own 0), (.i r25_3.2.1), (.i r25_3.2.2)]) [] (Omv rfl) ?_
   refine Wy (.own 0) [] (Oex rfl) ?_
   refine Wy (.i r25_3.2.1) [] (Oex rfl) ?_
   refine Wy (.i r25_3.2.2) [] (Oex rfl) ?_
   refine Wy (.own 0) [] (Omv rfl) ?_
   refine Wy (.i r25_3.2.1) [] (Omv rfl) ?_
   refine Wy (.i r25_3.2.2) [] (Omv rfl) ?_
   refine Walk.nil ?_
   refine Then.normal ?_
   refine Amk 903 1 ⟨((.l enc_GChange p0) :: ((.s p1) :: ((.i p2) :: (tp 4 ((.own 0) :: ((.i r25_3.2.1) :: ((.i r25_3.2.2) :: (tp 57 [])))))))), [(.arr 36 3 (List.length r25_3.1) (flatD enc_GChange r25_3.1))], 0⟩ ?_
   refine AWP.seq ?_
   refine AWP.text ?_
   refine Wy (.s p1) [] (Omv rfl) ?_
   refine Wy (.i p2) [] (Omv rfl) ?_
   obtain ⟨r32_4, hr32_4, hm⟩ := bnd hm
   refine Wy (.tup [(.own 1), (.i r32_4.2.1), (.i r32_4.2.2)]) [(1, (.arr 24 3 (List.length r32_4.1) (flatD enc_GChange r32_4.1)))] (Ocf [] [1] [] 0 (ok_telltaleref26_Take p1 p2 r32_4 hr32_4) (fun a w => Try.call22 a w) rfl trivial) ?_
   refine Wy (.tup [(.own 1), (.i r32_4.2.1), (.i r32_4.2.2)]) [] (Omv rfl) ?_
   refine Wy (.own 1) [] (Oex rfl) ?_
   refine Wy (.i r32_4.2.1) [] (Oex rfl) ?_
   refine Wy (.i r32_4.2.2) [] (Oex rfl) ?_
   refine Wy (.own 1) [] (Omv rfl) ?_
   refine Wy (.i r32_4.2.1) [] (Omv rfl) ?_
   refine Wy (.i r32_4.2.2) [] (Omv rfl) ?_
   refine Walk.nil ?_
   refine Then.normal ?_
   refine Amk 8065 3 ⟨((.l enc_GChange p0) :: (tp 6 ((.own 0) :: ((.i r25_3.2.1) :: ((.i r25_3.2.2) :: ((.own 1) :: ((.i r32_4.2.1) :: ((.i r32_4.2.2) :: (tp 54 []))))))))), [(.arr 36 3 (List.length r25_3.1) (flatD enc_GChange r25_3.1)), (.arr 24 3 (List.length r32_4.1) (flatD enc_GChange r32_4.1))], 0⟩ ?_
   refine AWP.seq ?_
   refine Adr ?_
   refine Wy (.own 2) [(2, (.arr 5 1 (List.length ([112] : List UInt8)) (flatD encU8 ([112] : List UInt8))))] (Obs rfl) ?_
   refine Wy (.own 2) [(2, (.arr 5 1 (List.length ([112] : List UInt8)) (flatD encU8 ([112] : List UInt8))))] (Omk rfl (by kernel_rfl) (by kernel_rfl) (n := List.length ([112] : List UInt8)) (by decide)) ?_
   refine Wy (.l enc_GChange p0) [] (Omv rfl) ?_
   obtain ⟨r39_5, hr39_5, hm⟩ := bnd hm
   refine Wy (.own 3) [(3, (.arr 36 3 (List.length r39_5) (flatD enc_GChange r39_5)))] (Ocf [] [3] [] 0 (ok_telltalelaw26_Own p0 r39_5 hr39_5) (fun a w => Try.call8 a w) rfl trivial) ?_
   obtain ⟨r40_5, hr40_5, hm⟩ := bnd hm
   refine Wy (.own 4) [(4, (.arr 5 1 (List.length r40_5) (flatD encU8 r40_5)))] (Ocp [] [4] [2, 3] 0 (ok_tally_Put ([112] : List UInt8) r39_5 r40_5 hr40_5) (⟨by simp [A.Plain, A.Plains, D.Plain, byteD], plain_cons (flat_plain encU8_plain) (plain_nil)⟩) (fun a w => Try.call23 a w) rfl trivial) ?_
   refine Wy (.s r40_5) [] (Ocs (by kernel_rfl) (op_str rfl (e := 5) (by kernel_rfl) (by kernel_rfl) (by kernel_rfl) (y := (.own 4)) (by kernel_rfl) (ds := flatD encU8 r40_5) (off := 0) (n := List.length r40_5) (by kernel_rfl) (l := r40_5) flatU8_take rfl)) ?_
   refine Wy (.own 5) [(5, (.arr 5 1 (List.length ([112] : List UInt8)) (flatD encU8 ([112] : List UInt8))))] (Obs rfl) ?_
   refine Wy (.own 5) [(5, (.arr 5 1 (List.length ([112] : List UInt8)) (flatD encU8 ([112] : List UInt8))))] (Omk rfl (by kernel_rfl) (by kernel_rfl) (n := List.length ([112] : List UInt8)) (by decide)) ?_
   refine Wy (.l enc_GChange p0) [] (Omv rfl) ?_
   obtain ⟨r45_5, hr45_5, hm⟩ := bnd hm
   refine Wy (.own 6) [(6, (.arr 5 1 (List.length r45_5) (flatD encU8 r45_5)))] (Ocp [] [6] [5] 0 (ok_telltaleref26_Put ([112] : List UInt8) p0 r45_5 hr45_5) (⟨by simp [A.Plain, A.Plains, D.Plain, byteD], plain_cons (flat_plain encU8_plain) (plain_nil)⟩) (fun a w => Try.call24 a w) rfl trivial) ?_
   refine Wy (.s r45_5) [] (Ocs (by kernel_rfl) (op_str rfl (e := 5) (by kernel_rfl) (by kernel_rfl) (by kernel_rfl) (y := (.own 6)) (by kernel_rfl) (ds := flatD encU8 r45_5) (off := 0) (n := List.length r45_5) (by kernel_rfl) (l := r45_5) flatU8_take rfl)) ?_
   refine Wy (.b (decide (r40_5 = r45_5))) [] (Ocs (lit_tf (by simp only [toS_inj, ne_eq])) (op_bin rfl (a1 := .string (toS r40_5)) (a2 := .string (toS r45_5)) (by kernel_rfl) (by kernel_rfl) (fun _ => hb_seql))) ?_
   rcases tf_ (decide (r40_5 = r45_5)) with hq48_5 | hq48_5
   ·
    replace hm := cT hq48_5 hm
    refine Wy (.b true) [] (Ocs (lit_tf (b := decide (r40_5 = r45_5)) hq48_5) (Omv rfl)) ?_
    refine Wy (.own 0) [] (Omv rfl) ?_
    obtain ⟨r50_5, hr50_5, hm⟩ := bnd hm
    refine Wy (.own 7) [(7, (.arr 24 3 (List.length r50_5) (flatD enc_GChange r50_5)))] (Ocp [] [7] [0] 0 (ok_telltalelaw26_Back r25_3.1 r50_5 hr50_5) (⟨by simp [A.Plain, A.Plains, D.Plain, byteD], plain_cons (flat_plain enc_GChange_plain) (plain_nil)⟩) (fun a w => Try.call10 a w) rfl trivial) ?_
    refine Wy (.own 1) [] (Omv rfl) ?_
    obtain ⟨r52_5, hr52_5, hm⟩ := bnd hm
    refine Wy (.b r52_5) [] (Ocp [] [] [7, 1] 0 (ok_telltaleref26_Same r50_5 r32_4.1 r52_5 hr52_5) (plain_triv (by simp [A.Plain, A.Plains, D.Plain, byteD])) (fun a w => Try.call9 a w) rfl trivial) ?_
    refine Wy (.b r52_5) [] (OpT rfl) ?_
    rcases tf_ r52_5 with hq54_5 | hq54_5
    ·
     replace hm := cT hq54_5 hm
     refine Wy (.b true) [] (Ocs (lit_tf (b := r52_5) hq54_5) (Omv rfl)) ?_
     refine Wy (.i r25_3.2.1) [] (Omv rfl) ?_
     refine Wy (.i r32_4.2.1) [] (Omv rfl) ?_
     refine Wy (.b (decide (r25_3.2.1 = r32_4.2.1))) [] (Obn rfl (fun _ => hb_eql (k := .i64))) ?_
     refine Wy (.b (decide (r25_3.2.1 = r32_4.2.1))) [] (OpT rfl) ?_
     rcases tf_ (decide (r25_3.2.1 = r32_4.2.1)) with hq59_5 | hq59_5
     ·
      replace hm := cT hq59_5 hm
      refine Wy (.b true) [] (Ocs (lit_tf (b := decide (r25_3.2.1 = r32_4.2.1)) hq59_5) (Omv rfl)) ?_
      refine Wy (.i r25_3.2.2) [] (Omv rfl) ?_
      refine Wy (.i r32_4.2.2) [] (Omv rfl) ?_
      refine Wy (.b (decide (r25_3.2.2 = r32_4.2.2))) [] (Obn rfl (fun _ => hb_eql (k := .i64))) ?_
      refine Wy (.b (decide (r25_3.2.2 = r32_4.2.2))) [] (OpT rfl) ?_
      rcases tf_ (decide (r25_3.2.2 = r32_4.2.2)) with hq64_5 | hq64_5
      ·
       replace hm := cT hq64_5 hm
       refine Wy (.b true) [] (Ocs (lit_tf (b := decide (r25_3.2.2 = r32_4.2.2)) hq64_5) (Omv rfl)) ?_
       obtain ⟨r65_5, hr65_5, hm⟩ := bnd hm
       refine Wy (.b r65_5) [] (Ocf [] [] [] 0 (ok_telltalelaw26_awake  r65_5 hr65_5) (fun a w => Try.call7 a w) rfl trivial) ?_
       refine Wy (.b r65_5) [] (OpT rfl) ?_
       refine Wy (.b r65_5) [] (Omv rfl) ?_
       refine Wdr ?_
       refine Then.normal ?_
       refine AWP.ret ?_
       obtain rfl := Option.some.inj hm
       exact ret_i []
      ·
       replace hm := cF hq64_5 hm
       refine Wy (.b false) [] (Ocs (lit_tf (b := decide (r25_3.2.2 = r32_4.2.2)) hq64_5) (Omv rfl)) ?_
       refine Wn ?_
       refine Wy (.b false) [] (OpF rfl) ?_
       refine Wy (.b false) [] (Omv rfl) ?_
       refine Wdr ?_
       refine Then.normal ?_
       refine AWP.ret ?_
       obtain rfl := Option.some.inj hm
       exact ret_i []
     ·
      replace hm := cF hq59_5 hm
      refine Wy (.b false) [] (Ocs (lit_tf (b := decide (r25_3.2.1 = r32_4.2.1)) hq59_5) (Omv rfl)) ?_
      refine Wn ?_
      refine Wn ?_
      refine Wn ?_
      refine Wy (.b false) [] (OpF rfl) ?_
      refine Wy (.b false) [] (Omv rfl) ?_
      refine Wn ?_
      refine Wy (.b false) [] (OpF rfl) ?_
      refine Wy (.b false) [] (Omv rfl) ?_
      refine Wdr ?_
      refine Then.normal ?_
      refine AWP.ret ?_
      obtain rfl := Option.some.inj hm
      exact ret_i []
    ·
     replace hm := cF hq54_5 hm
     refine Wy (.b false) [] (Ocs (lit_tf (b := r52_5) hq54_5) (Omv rfl)) ?_
     refine Wn ?_
     refine Wn ?_
     refine Wn ?_
     refine Wy (.b false) [] (OpF rfl) ?_
     refine Wy (.b false) [] (Omv rfl) ?_
     refine Wn ?_
     refine Wn ?_
     refine Wn ?_
     refine Wy (.b false) [] (OpF rfl) ?_
     refine Wy (.b false) [] (Omv rfl) ?_
     refine Wn ?_
     refine Wy (.b false) [] (OpF rfl) ?_
     refine Wy (.b false) [] (Omv rfl) ?_
     refine Wdr ?_
     refine Then.normal ?_
     refine AWP.ret ?_
     obtain rfl := Option.some.inj hm
     exact ret_i []
   ·
    replace hm := cF hq48_5 hm
    refine Wy (.b false) [] (Ocs (lit_tf (b := decide (r40_5 = r45_5)) hq48_5) (Omv rfl)) ?_
    refine Wn ?_
    refine Wn ?_
    refine Wn ?_
    refine Wn ?_
    refine Wy (.b false) [] (OpF rfl) ?_
    refine Wy (.b false) [] (Omv rfl) ?_
    refine Wn ?_
    refine Wn ?_
    refine Wn ?_
    refine Wy (.b false) [] (OpF rfl) ?_
    refine Wy (.b false) [] (Omv rfl) ?_
    refine Wn ?_
    refine Wn ?_
    refine Wn ?_
    refine Wy (.b false) [] (OpF rfl) ?_
    refine Wy (.b false) [] (Omv rfl) ?_
    refine Wn ?_
    refine Wy (.b false) [] (OpF rfl) ?_
    refine Wy (.b false) [] (Omv rfl) ?_
    refine Wdr ?_
    refine Then.normal ?_
    refine AWP.ret ?_
    obtain rfl := Option.some.inj hm
    exact ret_i []
end Go.Proofs.Ytkpfagmlohcdjaa.K
