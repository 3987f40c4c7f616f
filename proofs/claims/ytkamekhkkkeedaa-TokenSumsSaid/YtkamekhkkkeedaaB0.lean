/- what telltalelaw28.TokenSums needs (0) -/
import Derived.Test.YtkamekhkkkeedaaLM
namespace Go.Proofs.Ytkamekhkkkeedaa.K
open Go.RowKit Go.Lib
set_option linter.unusedVariables false
set_option linter.unusedSimpArgs false

set_option maxRecDepth 20000 in
set_option maxHeartbeats 4000000 in
theorem ok_front_Leads (p0 : Int) (p1 : Int) (r : Bool) (h : m_front_Leads p0 p1 = some r) : GCall Try.prog 27 [(.i p0), (.i p1)] [] (.b r) [] := by
 refine GCall.of_body (n := 16) (rs := [(.tmp 4)]) Try.func27 rfl rfl rfl ?_
 refine Ato ⟨((.i p0) :: ((.i p1) :: (tu 14 []))), [], 0⟩ ?_
 have hm := h
 unfold m_front_Leads at hm
 refine AWP.seq ?_
 refine AWP.text ?_
 refine Wy (.b false) [] (Omv rfl) ?_
 refine Walk.nil ?_
 refine Then.normal ?_
 refine Amk 3 0 ⟨((.i p0) :: ((.i p1) :: (tp 14 []))), [], 0⟩ ?_
 refine AWP.seq ?_
 refine AWP.text ?_
 refine Wy (.i p0) [] (Omv rfl) ?_
 refine Wy (.b (decide ((0 : Int) ≤ p0))) [] (Obn rfl (fun _ => hb_leq (k := .i64))) ?_
 rcases tf_ (decide ((0 : Int) ≤ p0)) with hq7_0 | hq7_0
 ·
  replace hm := cT hq7_0 hm
  refine Wy (.b true) [] (Ocs (lit_tf (b := decide ((0 : Int) ≤ p0)) hq7_0) (Omv rfl)) ?_
  refine Wy (.i p0) [] (Omv rfl) ?_
  refine Wy (.i p1) [] (Omv rfl) ?_
  refine Wy (.b (decide (p0 ≤ p1))) [] (Obn rfl (fun _ => hb_leq (k := .i64))) ?_
  refine Wy (.b (decide (p0 ≤ p1))) [] (OpT rfl) ?_
  rcases tf_ (decide (p0 ≤ p1)) with hq12_0 | hq12_0
  ·
   replace hm := cT hq12_0 hm
   refine Wy (.b true) [] (Ocs (lit_tf (b := decide (p0 ≤ p1)) hq12_0) (Omv rfl)) ?_
   refine Wy (.i p1) [] (Omv rfl) ?_
   refine Wy (.b (decide (p1 < 4))) [] (Obn rfl (fun _ => hb_lss (k := .i64))) ?_
   refine Wy (.b (decide (p1 < 4))) [] (OpT rfl) ?_
   refine Wy (.b (decide (p1 < 4))) [] (Omv rfl) ?_
   refine Walk.nil ?_
   refine Then.normal ?_
   refine AWP.ret ?_
   obtain rfl := Option.some.inj hm
   exact ret_i []
  ·
   replace hm := cF hq12_0 hm
   refine Wy (.b false) [] (Ocs (lit_tf (b := decide (p0 ≤ p1)) hq12_0) (Omv rfl)) ?_
   refine Wn ?_
   refine Wn ?_
   refine Wy (.b false) [] (OpF rfl) ?_
   refine Wy (.b false) [] (Omv rfl) ?_
   refine Walk.nil ?_
   refine Then.normal ?_
   refine AWP.ret ?_
   obtain rfl := Option.some.inj hm
   exact ret_i []
 ·
  replace hm := cF hq7_0 hm
  refine Wy (.b false) [] (Ocs (lit_tf (b := decide ((0 : Int) ≤ p0)) hq7_0) (Omv rfl)) ?_
  refine Wn ?_
  refine Wn ?_
  refine Wn ?_
  refine Wy (.b false) [] (OpF rfl) ?_
  refine Wy (.b false) [] (Omv rfl) ?_
  refine Wn ?_
  refine Wn ?_
  refine Wy (.b false) [] (OpF rfl) ?_
  refine Wy (.b false) [] (Omv rfl) ?_
  refine Walk.nil ?_
  refine Then.normal ?_
  refine AWP.ret ?_
  obtain rfl := Option.some.inj hm
  exact ret_i []

set_option maxRecDepth 20000 in
set_option maxHeartbeats 4000000 in
theorem ok_token_Point_may (p0 : GPoint) (r : Bool) (h : m_token_Point_may p0 = some r) : GCall Try.prog 28 [(.agg [(.i p0.Loc), (.i p0.Time)])] [] (.b r) [] := by
 refine GCall.of_body (n := 16) (rs := [(.tmp 2)]) Try.func28 rfl rfl rfl ?_
 refine Ato ⟨((.agg [(.i p0.Loc), (.i p0.Time)]) :: (tu 15 [])), [], 0⟩ ?_
 have hm := h
 unfold m_token_Point_may at hm
 refine AWP.seq ?_
 refine AWP.text ?_
 refine Wy (.loc 0 0) [(0, (.box [(.i p0.Loc), (.i p0.Time)]))] (Obx rfl) ?_
 refine Wy (.b false) [] (Omv rfl) ?_
 refine Walk.nil ?_
 refine Then.normal ?_
 refine Amk 2 1 ⟨(tp 1 ((.loc 0 0) :: (tp 14 []))), [(.box [(.i p0.Loc), (.i p0.Time)])], 0⟩ ?_
 refine AWP.seq ?_
 refine AWP.text ?_
 refine Wy (.loc 0 0) [] (Ofa rfl) ?_
 refine Wy (.i p0.Loc) [] (Old rfl) ?_
 obtain ⟨r5_0, hr5_0, hm⟩ := bnd hm
 refine Wy (.b r5_0) [] (Ocf [] [] [] 0 (ok_front_Leads p0.Loc 3 r5_0 hr5_0) (fun a w => Try.call27 a w) rfl trivial) ?_
 rcases tf_ r5_0 with hq6_0 | hq6_0
 ·
  replace hm := cT hq6_0 hm
  refine Wy (.b true) [] (Ocs (lit_tf (b := r5_0) hq6_0) (Omv rfl)) ?_
  refine Wy (.loc 0 1) [] (Ofa rfl) ?_
  refine Wy (.i p0.Time) [] (Old rfl) ?_
  refine Wy (.b (decide ((0 : Int) ≤ p0.Time))) [] (Obn rfl (fun _ => hb_geq (k := .i64))) ?_
  refine Wy (.b (decide ((0 : Int) ≤ p0.Time))) [] (OpT rfl) ?_
  rcases tf_ (decide ((0 : Int) ≤ p0.Time)) with hq11_0 | hq11_0
  ·
   replace hm := cT hq11_0 hm
   refine Wy (.b true) [] (Ocs (lit_tf (b := decide ((0 : Int) ≤ p0.Time)) hq11_0) (Omv rfl)) ?_
   refine Wy (.loc 0 1) [] (Ofa rfl) ?_
   refine Wy (.i p0.Time) [] (Old rfl) ?_
   refine Wy (.b (decide (p0.Time ≤ 1099511627776))) [] (Obn rfl (fun _ => hb_leq (k := .i64))) ?_
   refine Wy (.b (decide (p0.Time ≤ 1099511627776))) [] (OpT rfl) ?_
   refine Wy (.b (decide (p0.Time ≤ 1099511627776))) [] (Omv rfl) ?_
   refine Walk.nil ?_
   refine Then.normal ?_
   refine AWP.ret ?_
   obtain rfl := Option.some.inj hm
   exact ret_i []
  ·
   replace hm := cF hq11_0 hm
   refine Wy (.b false) [] (Ocs (lit_tf (b := decide ((0 : Int) ≤ p0.Time)) hq11_0) (Omv rfl)) ?_
   refine Wn ?_
   refine Wn ?_
   refine Wn ?_
   refine Wy (.b false) [] (OpF rfl) ?_
   refine Wy (.b false) [] (Omv rfl) ?_
   refine Walk.nil ?_
   refine Then.normal ?_
   refine AWP.ret ?_
   obtain rfl := Option.some.inj hm
   exact ret_i []
 ·
  replace hm := cF hq6_0 hm
  refine Wy (.b false) [] (Ocs (lit_tf (b := r5_0) hq6_0) (Omv rfl)) ?_
  refine Wn ?_
  refine Wn ?_
  refine Wn ?_
  refine Wy (.b false) [] (OpF rfl) ?_
  refine Wy (.b false) [] (Omv rfl) ?_
  refine Wn ?_
  refine Wn ?_
  refine Wn ?_
  refine Wy (.b false) [] (OpF rfl) ?_
  refine Wy (.b false) [] (Omv rfl) ?_
  refine Walk.nil ?_
  refine Then.normal ?_
  refine AWP.ret ?_
  obtain rfl := Option.some.inj hm
  exact ret_i []

set_option maxRecDepth 20000 in
set_option maxHeartbeats 4000000 in
theorem ok_slices_Clone_Leave (p0 : (List GLeave_)) (r : (List GLeave_)) (h : m_slices_Clone_Leave p0 = some r) : GCall Try.prog 29 [(.l enc_GLeave_ p0)] [] (.own 0) [(.arr 47 3 (List.length r) (flatD enc_GLeave_ r))] := by
 refine GCall.of_body (n := 8) (rs := [(.tmp 2)]) Try.func29 rfl rfl rfl ?_
 refine Ato ⟨((.l enc_GLeave_ p0) :: (tu 7 [])), [], 0⟩ ?_
 have hm := h
 unfold m_slices_Clone_Leave at hm
 refine AWP.seq ?_
 refine AWP.text ?_
 refine Wy (.d .nil) [] (Omv rfl) ?_
 refine Walk.nil ?_
 refine Then.normal ?_
 refine Amk 1 0 ⟨((.l enc_GLeave_ p0) :: (tp 7 [])), [], 0⟩ ?_
 refine AWP.seq ?_
 refine AWP.seq ?_
 refine AWP.text ?_
 refine Wy (.l enc_GLeave_ p0) [] (Omv rfl) ?_
 refine Wy (.ab (List.length p0 = 0)) [] (op_eqnil rfl (e := 47) (by kernel_rfl) (ya := (.l enc_GLeave_ p0)) (by kernel_rfl) (ds := flatD enc_GLeave_ p0) (off := 0) (by kernel_rfl) (by kernel_rfl)) ?_
 refine Walk.nil ?_
 refine Then.normal ?_
 refine Amk 17 0 ⟨((.l enc_GLeave_ p0) :: (tp 3 ((.ab (List.length p0 = 0)) :: (tp 3 [])))), [], 0⟩ ?_
 refine AWP.condU (p := List.length p0 = 0) (by kernel_rfl) (fun hnil => ?_) ?_
 ·
  refine AWP.seq ?_
  refine AWP.text ?_
  refine Wy (.d .nil) [] (Omv rfl) ?_
  refine Walk.nil ?_
  refine Then.normal ?_
  refine Aow 2 47 3 ⟨((.l enc_GLeave_ p0) :: (tp 1 ((.own 0) :: (tp 1 ((.ab (List.length p0 = 0)) :: (tp 3 [])))))), [(.arr 47 3 (List.length ([] : List GLeave_)) (flatD enc_GLeave_ ([] : List GLeave_)))], 0⟩ ?_
  refine AWP.ret ?_
  refine Then.ret ?_
  obtain rfl := nil_app hm (List.eq_nil_of_length_eq_zero hnil)
  exact ret_i [0]
 refine AWP.skip ?_
 refine Then.normal ?_
 refine Amk 1 0 ⟨((.l enc_GLeave_ p0) :: (tp 7 [])), [], 0⟩ ?_
 refine AWP.seq ?_
 refine AWP.text ?_
 refine Wy (.own 0) [(0, (.arr 47 3 (List.length ([] : List GLeave_)) (flatD enc_GLeave_ ([] : List GLeave_))))] (Obs rfl) ?_
 refine Wy (.l enc_GLeave_ p0) [] (Omv rfl) ?_
 obtain ⟨a7_0, ha7_0, hm⟩ := bnd hm; obtain ⟨ha7_0e, ha7_0l⟩ := app_some ha7_0
 refine Wy (.own 1) [(0, .gone), (1, (.arr 47 3 (List.length a7_0) (flatD enc_GLeave_ a7_0)))] (Oap rfl elemOK_27 enc_GLeave__len ha7_0e ha7_0l) ?_
 refine Wy (.own 1) [] (Omv rfl) ?_
 refine Walk.nil ?_
 refine Then.normal ?_
 refine AWP.ret ?_
 obtain rfl := Option.some.inj hm
 exact ret_i [1]

set_option maxRecDepth 20000 in
set_option maxHeartbeats 4000000 in
theorem ok_token_Point_change (p0 : GPoint) (p1 : Int) (r : GChange) (h : m_token_Point_change p0 p1 = some r) : GCall Try.prog 30 [(.agg [(.i p0.Loc), (.i p0.Time)]), (.i p1)] [] (.agg [(.i r.Loc), (.i r.Time), (.i r.N)]) [] := by
 refine GCall.of_body (n := 11) (rs := [(.cell 4 65)]) Try.func30 rfl rfl rfl ?_
 refine Ato ⟨((.agg [(.i p0.Loc), (.i p0.Time)]) :: ((.i p1) :: (tu 9 []))), [], 0⟩ ?_
 have hm := h
 unfold m_token_Point_change at hm
 refine AWP.seq ?_
 refine AWP.text ?_
 refine Wy (.loc 0 0) [(0, (.box [(.i p0.Loc), (.i p0.Time)]))] (Obx rfl) ?_
 refine Wy (.loc 1 0) [(1, (.box [(.i 0), (.i 0), (.i 0)]))] (Oal rfl) ?_
 refine Walk.nil ?_
 refine Then.normal ?_
 refine Amk 22 3 ⟨(tp 1 ((.i p1) :: ((.loc 0 0) :: (tp 1 ((.loc 1 0) :: (tp 6 [])))))), [(.box [(.i p0.Loc), (.i p0.Time)]), (.box [(.i 0), (.i 0), (.i 0)])], 0⟩ ?_
 refine AWP.seq ?_
 refine AWP.text ?_
 refine Wy (.loc 0 0) [] (Ofa rfl) ?_
 refine Wy (.i p0.Loc) [] (Old rfl) ?_
 refine Wy (.loc 0 1) [] (Ofa rfl) ?_
 refine Wy (.i p0.Time) [] (Old rfl) ?_
 refine Wy (.i p1) [] (Omv rfl) ?_
 refine Wy (.agg [(.i p0.Loc), (.i p0.Time), (.i p1)]) [] (Obd rfl) ?_
 refine Wy (.tup []) [(1, (.box [(.i p0.Loc), (.i p0.Time), (.i p1)]))] (Ost rfl) ?_
 refine Walk.nil ?_
 refine Then.normal ?_
 refine AWP.ret ?_
 obtain rfl := Option.some.inj hm
 exact ret_i []

set_option maxRecDepth 20000 in
set_option maxHeartbeats 4000000 in
theorem ok_token_Book_Hold (p0 : GBook) (p1 : GPoint) (r : (GBook × Int × (List GChange) × Int)) (h : m_token_Book_Hold p0 p1 = some r) : GCall Try.prog 7 [(.agg [(.l enc_GLeave_ p0.L)]), (.agg [(.i p1.Loc), (.i p1.Time)])] [] (.tup [(.agg [(.l enc_GLeave_ r.1.L)]), (.i r.2.1), (.own 0), (.i r.2.2.2)]) [(.arr 65 3 (List.length r.2.2.1) (flatD enc_GChange r.2.2.1))] := by
 refine GCall.of_body (n := 35) (rs := [(.cell 4 29), (.tmp 5), (.tmp 6), (.tmp 7)]) Try.func7 rfl rfl rfl ?_
 refine Ato ⟨((.agg [(.l enc_GLeave_ p0.L)]) :: ((.agg [(.i p1.Loc), (.i p1.Time)]) :: (tu 33 []))), [], 0⟩ ?_
 have hm := h
 unfold m_token_Book_Hold at hm
 refine AWP.seq ?_
 refine AWP.text ?_
 refine Wy (.loc 0 0) [(0, (.box [(.l enc_GLeave_ p0.L)]))] (Obx rfl) ?_
 refine Wy (.loc 1 0) [(1, (.box [(.i p1.Loc), (.i p1.Time)]))] (Obx rfl) ?_
 refine Wy (.loc 2 0) [(2, (.box [(.d .nil)]))] (Oal rfl) ?_
 refine Wy (.i 0) [] (Omv rfl) ?_
 refine Wy (.d .nil) [] (Omv rfl) ?_
 refine Wy (.i 0) [] (Omv rfl) ?_
 refine Walk.nil ?_
 refine Then.normal ?_
 refine Amk 28 7 ⟨(tp 2 ((.loc 0 0) :: ((.loc 1 0) :: ((.loc 2 0) :: (tp 30 []))))), [(.box [(.l enc_GLeave_ p0.L)]), (.box [(.i p1.Loc), (.i p1.Time)]), (.box [(.d .nil)])], 0⟩ ?_
 refine AWP.seq ?_
 refine AWP.block ?_
 refine AWP.seq ?_
 refine AWP.text ?_
 refine Wy (.agg [(.i p1.Loc), (.i p1.Time)]) [] (Old rfl) ?_
 obtain ⟨r11_0, hr11_0, hm⟩ := bnd hm
 refine Wy (.b r11_0) [] (Ocf [] [] [] 0 (ok_token_Point_may p1 r11_0 hr11_0) (fun a w => Try.call28 a w) rfl trivial) ?_
 refine Wy (.b (!r11_0)) [] (Ocs (by kernel_rfl) (op_un rfl (a1 := .bool r11_0) (by kernel_rfl) (fun _ => hu_not))) ?_
 refine Wy (.b (!r11_0)) [] (Omv rfl) ?_
 refine Walk.nil ?_
 refine Then.normal ?_
 refine Amk 540 7 ⟨(tp 2 ((.loc 0 0) :: ((.loc 1 0) :: ((.loc 2 0) :: (tp 4 ((.b (!r11_0)) :: (tp 25 []))))))), [(.box [(.l enc_GLeave_ p0.L)]), (.box [(.i p1.Loc), (.i p1.Time)]), (.box [(.d .nil)])], 0⟩ ?_
 rcases tf_ (!r11_0) with hc9_4 | hc9_4
 ·
  replace hm := cT hc9_4 hm
  refine AWP.if_ true (Eq.trans (by kernel_rfl) (lit_tf (b := (!r11_0)) hc9_4)) ?_
  refine AWP.seq ?_
  refine AWP.text ?_
  refine Wy (.agg [(.l enc_GLeave_ p0.L)]) [] (Old rfl) ?_
  refine Wy (.tup []) [(2, (.box [(.l enc_GLeave_ p0.L)]))] (Ost rfl) ?_
  refine Wy (.i (-1)) [] (Omv rfl) ?_
  refine Wy (.d .nil) [] (Omv rfl) ?_
  refine Wy (.i 8) [] (Omv rfl) ?_
  refine Walk.nil ?_
  refine Then.normal ?_
  refine Aow 6 65 3 ⟨(tp 2 ((.loc 0 0) :: ((.loc 1 0) :: ((.loc 2 0) :: ((.i (-1)) :: ((.own 3) :: ((.i 8) :: (tp 1 ((.b (!r11_0)) :: (tp 3 ((.agg [(.l enc_GLeave_ p0.L)]) :: (tp 21 [])))))))))))), [(.box [(.l enc_GLeave_ p0.L)]), (.box [(.i p1.Loc), (.i p1.Time)]), (.box [(.l enc_GLeave_ p0.L)]), (.arr 65 3 (List.length ([] : List GChange)) (flatD enc_GChange ([] : List GChange)))], 0⟩ ?_
  refine AWP.ret ?_
  refine InBlock.ret ?_
  refine Then.ret ?_
  obtain rfl := Option.some.inj hm
  exact ret_i [3]
 ·
  replace hm := cF hc9_4 hm
  refine AWP.if_ false (Eq.trans (by kernel_rfl) (lit_tf (b := (!r11_0)) hc9_4)) ?_
  refine AWP.seq ?_
  refine AWP.text ?_
  refine Wy (.loc 0 0) [] (Ofa rfl) ?_
  refine Wy (.l enc_GLeave_ p0.L) [] (Old rfl) ?_
  refine Wy (.i ((List.length p0.L : Nat) : Int)) [] (Oln rfl) ?_
  refine Wy (.b (decide ((100 : Int) ≤ ((List.length p0.L : Nat) : Int)))) [] (Obn rfl (fun _ => hb_geq (k := .i64))) ?_
  refine Wy (.b (decide ((100 : Int) ≤ ((List.length p0.L : Nat) : Int)))) [] (Omv rfl) ?_
  refine Walk.nil ?_
  refine Then.normal ?_
  refine Amk 16412 7 ⟨(tp 2 ((.loc 0 0) :: ((.loc 1 0) :: ((.loc 2 0) :: (tp 9 ((.b (decide ((100 : Int) ≤ ((List.length p0.L : Nat) : Int)))) :: (tp 20 []))))))), [(.box [(.l enc_GLeave_ p0.L)]), (.box [(.i p1.Loc), (.i p1.Time)]), (.box [(.d .nil)])], 0⟩ ?_
  rcases tf_ (decide ((100 : Int) ≤ ((List.length p0.L : Nat) : Int))) with hc14_5 | hc14_5
  ·
   replace hm := cT hc14_5 hm
   refine AWP.if_ true (Eq.trans (by kernel_rfl) (lit_tf (b := decide ((100 : Int) ≤ ((List.length p0.L : Nat) : Int))) hc14_5)) ?_
   refine AWP.seq ?_
   refine AWP.text ?_
   refine Wy (.agg [(.l enc_GLeave_ p0.L)]) [] (Old rfl) ?_
   refine Wy (.tup []) [(2, (.box [(.l enc_GLeave_ p0.L)]))] (Ost rfl) ?_
   refine Wy (.i (-1)) [] (Omv rfl) ?_
   refine Wy (.d .nil) [] (Omv rfl) ?_
   refine Wy (.i 7) [] (Omv rfl) ?_
   refine Walk.nil ?_
   refine Then.normal ?_
   refine Aow 6 65 3 ⟨(tp 2 ((.loc 0 0) :: ((.loc 1 0) :: ((.loc 2 0) :: ((.i (-1)) :: ((.own 3) :: ((.i 7) :: (tp 6 ((.b (decide ((100 : Int) ≤ ((List.length p0.L : Nat) : Int)))) :: (tp 4 ((.agg [(.l enc_GLeave_ p0.L)]) :: (tp 15 [])))))))))))), [(.box [(.l enc_GLeave_ p0.L)]), (.box [(.i p1.Loc), (.i p1.Time)]), (.box [(.l enc_GLeave_ p0.L)]), (.arr 65 3 (List.length ([] : List GChange)) (flatD enc_GChange ([] : List GChange)))], 0⟩ ?_
   refine AWP.ret ?_
   refine InBlock.ret ?_
   refine Then.ret ?_
   obtain rfl := Option.some.inj hm
   exact ret_i [3]
  ·
   replace hm := cF hc14_5 hm
   refine AWP.if_ false (Eq.trans (by kernel_rfl) (lit_tf (b := decide ((100 : Int) ≤ ((List.length p0.L : Nat) : Int))) hc14_5)) ?_
   refine AWP.skip ?_
   refine InBlock.normal ?_
   refine Then.normal ?_
   refine Amk 28 7 ⟨(tp 2 ((.loc 0 0) :: ((.loc 1 0) :: ((.loc 2 0) :: (tp 30 []))))), [(.box [(.l enc_GLeave_ p0.L)]), (.box [(.i p1.Loc), (.i p1.Time)]), (.box [(.d .nil)])], 0⟩ ?_
   refine AWP.seq ?_
   refine Adr ?_
   refine Wy (.loc 0 0) [] (Ofa rfl) ?_
   refine Wy (.l enc_GLeave_ p0.L) [] (Old rfl) ?_
   obtain ⟨r22_2, hr22_2, hm⟩ := bnd hm
   refine Wy (.own 3) [(3, (.arr 47 3 (List.length r22_2) (flatD enc_GLeave_ r22_2)))] (Ocf [] [3] [] 0 (ok_slices_Clone_Leave p0.L r22_2 hr22_2) (fun a w => Try.call29 a w) rfl trivial) ?_
   refine Wy (.agg [(.i p1.Loc), (.i p1.Time)]) [] (Old rfl) ?_
   refine Wy (.agg [(.i p1.Loc), (.i p1.Time), (.b true)]) [] (Obd rfl) ?_
   refine Wy (.own 4) [(4, (.arr 47 3 (List.length ([(GLeave_.mk p1 true)] : List GLeave_)) (flatD enc_GLeave_ ([(GLeave_.mk p1 true)] : List GLeave_))))] (Obs rfl) ?_
   obtain ⟨a26_2, ha26_2, hm⟩ := bnd hm; obtain ⟨ha26_2e, ha26_2l⟩ := app_some ha26_2
   refine Wy (.own 5) [(3, .gone), (5, (.arr 47 3 (List.length a26_2) (flatD enc_GLeave_ a26_2)))] (Oap rfl elemOK_27 enc_GLeave__len ha26_2e ha26_2l) ?_
   refine Wy (.own 5) [] (Omv rfl) ?_
   refine Wdr ?_
   refine Then.normal ?_
   refine Amk 284 39 ⟨(tp 2 ((.loc 0 0) :: ((.loc 1 0) :: ((.loc 2 0) :: (tp 3 ((.own 5) :: (tp 26 []))))))), [(.box [(.l enc_GLeave_ p0.L)]), (.box [(.i p1.Loc), (.i p1.Time)]), (.box [(.d .nil)]), .gone, .gone, (.arr 47 3 (List.length a26_2) (flatD enc_GLeave_ a26_2))], 0⟩ ?_
   refine AWP.seq ?_
   refine Adr ?_
   refine Wy (.own 5) [] (Omv rfl) ?_
   refine Wy (.agg [(.own 5)]) [] (Obd rfl) ?_
   refine Wy (.loc 0 0) [] (Ofa rfl) ?_
   refine Wy (.l enc_GLeave_ p0.L) [] (Old rfl) ?_
   refine Wy (.i ((List.length p0.L : Nat) : Int)) [] (Oln rfl) ?_
   refine Wy (.agg [(.i p1.Loc), (.i p1.Time)]) [] (Old rfl) ?_
   obtain ⟨r33_3, hr33_3, hm⟩ := bnd hm
   refine Wy (.agg [(.i r33_3.Loc), (.i r33_3.Time), (.i r33_3.N)]) [] (Ocf [] [] [] 0 (ok_token_Point_change p1 1 r33_3 hr33_3) (fun a w => Try.call30 a w) rfl trivial) ?_
   refine Wy (.own 6) [(6, (.arr 65 3 (List.length ([r33_3] : List GChange)) (flatD enc_GChange ([r33_3] : List GChange))))] (Obs rfl) ?_
   refine Wy (.tup []) [(2, (.box [(.own 5)]))] (Ost rfl) ?_
   refine Wy (.i ((List.length p0.L : Nat) : Int)) [] (Omv rfl) ?_
   refine Wy (.own 6) [] (Omv rfl) ?_
   refine Wy (.i 0) [] (Omv rfl) ?_
   refine Wdr ?_
   refine Then.normal ?_
   refine Afz [5] ⟨(tp 2 ((.loc 0 0) :: ((.loc 1 0) :: ((.loc 2 0) :: ((.i ((List.length p0.L : Nat) : Int)) :: ((.own 6) :: ((.i 0) :: ((.l enc_GLeave_ a26_2) :: (tp 18 ((.l enc_GLeave_ a26_2) :: ((.agg [(.l enc_GLeave_ a26_2)]) :: ((.loc 0 0) :: ((.l enc_GLeave_ p0.L) :: ((.i ((List.length p0.L : Nat) : Int)) :: ((.agg [(.i p1.Loc), (.i p1.Time)]) :: ((.agg [(.i r33_3.Loc), (.i r33_3.Time), (.i r33_3.N)]) :: ((.own 6) :: []))))))))))))))))), [(.box [(.l enc_GLeave_ p0.L)]), (.box [(.i p1.Loc), (.i p1.Time)]), (.box [(.l enc_GLeave_ a26_2)]), .gone, .gone, (.fro 47 3 (List.length a26_2) (flatD enc_GLeave_ a26_2)), (.arr 65 3 (List.length ([r33_3] : List GChange)) (flatD enc_GChange ([r33_3] : List GChange)))], 0⟩ ?_
   refine AWP.ret ?_
   obtain rfl := Option.some.inj hm
   exact ret_i [6]

set_option maxRecDepth 20000 in
set_option maxHeartbeats 4000000 in
theorem ok_token_Book_Get (p0 : GBook) (p1 : Int) (r : (GLeave_ × Bool)) (h : m_token_Book_Get p0 p1 = some r) : GCall Try.prog 13 [(.agg [(.l enc_GLeave_ p0.L)]), (.i p1)] [] (.tup [(.agg [(.i r.1.Point.Loc), (.i r.1.Point.Time), (.b r.1.Held)]), (.b r.2)]) [] := by
 refine GCall.of_body (n := 21) (rs := [(.cell 4 47), (.tmp 5)]) Try.func13 rfl rfl rfl ?_
 refine Ato ⟨((.agg [(.l enc_GLeave_ p0.L)]) :: ((.i p1) :: (tu 19 []))), [], 0⟩ ?_
 have hm := h
 unfold m_token_Book_Get at hm
 refine AWP.seq ?_
 refine AWP.text ?_
 refine Wy (.loc 0 0) [(0, (.box [(.l enc_GLeave_ p0.L)]))] (Obx rfl) ?_
 refine Wy (.loc 1 0) [(1, (.box [(.i 0), (.i 0), (.b false)]))] (Oal rfl) ?_
 refine Wy (.b false) [] (Omv rfl) ?_
 refine Walk.nil ?_
 refine Then.normal ?_
 refine Amk 22 3 ⟨(tp 1 ((.i p1) :: ((.loc 0 0) :: (tp 1 ((.loc 1 0) :: (tp 16 [])))))), [(.box [(.l enc_GLeave_ p0.L)]), (.box [(.i 0), (.i 0), (.b false)])], 0⟩ ?_
 refine AWP.seq ?_
 refine AWP.seq ?_
 refine AWP.text ?_
 refine Wy (.i p1) [] (Omv rfl) ?_
 refine Wy (.b (decide (p1 < 0))) [] (Obn rfl (fun _ => hb_lss (k := .i64))) ?_
 rcases tf_ (decide (p1 < 0)) with hq8_0 | hq8_0
 ·
  replace hm := cT hq8_0 hm
  refine Wy (.b true) [] (Ocs (lit_tf (b := decide (p1 < 0)) hq8_0) (Omv rfl)) ?_
  refine Wn ?_
  refine Wn ?_
  refine Wn ?_
  refine Wn ?_
  refine Wn ?_
  refine Wy (.b true) [] (OpT rfl) ?_
  refine Walk.nil ?_
  refine Then.normal ?_
  refine Amk 16406 3 ⟨(tp 1 ((.i p1) :: ((.loc 0 0) :: (tp 1 ((.loc 1 0) :: (tp 9 ((.b true) :: (tp 6 [])))))))), [(.box [(.l enc_GLeave_ p0.L)]), (.box [(.i 0), (.i 0), (.b false)])], 0⟩ ?_
  refine AWP.if_ true (by kernel_rfl) ?_
  refine AWP.seq ?_
  refine AWP.text ?_
  refine Wy (.agg [(.i 0), (.i 0), (.b false)]) [] (Obd rfl) ?_
  refine Wy (.tup []) [(1, (.box [(.i 0), (.i 0), (.b false)]))] (Ost rfl) ?_
  refine Wy (.b false) [] (Omv rfl) ?_
  refine Walk.nil ?_
  refine Then.normal ?_
  refine AWP.ret ?_
  refine Then.ret ?_
  obtain rfl := Option.some.inj hm
  exact ret_i []
 ·
  replace hm := cF hq8_0 hm
  refine Wy (.b false) [] (Ocs (lit_tf (b := decide (p1 < 0)) hq8_0) (Omv rfl)) ?_
  refine Wy (.i p1) [] (Omv rfl) ?_
  refine Wy (.loc 0 0) [] (Ofa rfl) ?_
  refine Wy (.l enc_GLeave_ p0.L) [] (Old rfl) ?_
  refine Wy (.i ((List.length p0.L : Nat) : Int)) [] (Oln rfl) ?_
  refine Wy (.b (decide (((List.length p0.L : Nat) : Int) ≤ p1))) [] (Obn rfl (fun _ => hb_geq (k := .i64))) ?_
  refine Wy (.b (decide (((List.length p0.L : Nat) : Int) ≤ p1))) [] (OpF rfl) ?_
  refine Walk.nil ?_
  refine Then.normal ?_
  refine Amk 16406 3 ⟨(tp 1 ((.i p1) :: ((.loc 0 0) :: (tp 1 ((.loc 1 0) :: (tp 9 ((.b (decide (((List.length p0.L : Nat) : Int) ≤ p1))) :: (tp 6 [])))))))), [(.box [(.l enc_GLeave_ p0.L)]), (.box [(.i 0), (.i 0), (.b false)])], 0⟩ ?_
  rcases tf_ (decide (((List.length p0.L : Nat) : Int) ≤ p1)) with hc14_2 | hc14_2
  ·
   replace hm := cT hc14_2 hm
   refine AWP.if_ true (Eq.trans (by kernel_rfl) (lit_tf (b := decide (((List.length p0.L : Nat) : Int) ≤ p1)) hc14_2)) ?_
   refine AWP.seq ?_
   refine AWP.text ?_
   refine Wy (.agg [(.i 0), (.i 0), (.b false)]) [] (Obd rfl) ?_
   refine Wy (.tup []) [(1, (.box [(.i 0), (.i 0), (.b false)]))] (Ost rfl) ?_
   refine Wy (.b false) [] (Omv rfl) ?_
   refine Walk.nil ?_
   refine Then.normal ?_
   refine AWP.ret ?_
   refine Then.ret ?_
   obtain rfl := Option.some.inj hm
   exact ret_i []
  ·
   replace hm := cF hc14_2 hm
   refine AWP.if_ false (Eq.trans (by kernel_rfl) (lit_tf (b := decide (((List.length p0.L : Nat) : Int) ≤ p1)) hc14_2)) ?_
   refine AWP.skip ?_
   refine Then.normal ?_
   refine Amk 22 3 ⟨(tp 1 ((.i p1) :: ((.loc 0 0) :: (tp 1 ((.loc 1 0) :: (tp 16 [])))))), [(.box [(.l enc_GLeave_ p0.L)]), (.box [(.i 0), (.i 0), (.b false)])], 0⟩ ?_
   refine AWP.seq ?_
   refine AWP.text ?_
   refine Wy (.loc 0 0) [] (Ofa rfl) ?_
   refine Wy (.l enc_GLeave_ p0.L) [] (Old rfl) ?_
   refine Wy (.i p1) [] (Omv rfl) ?_
   obtain ⟨x19_1, hx19_1, hm⟩ := bnd hm
   obtain ⟨hx19_1i, hx19_1g⟩ := geti_some hx19_1
   refine Wy (.d (.ref (List.drop ((Int.toNat p1) * 3) (flatD enc_GLeave_ p0.L)))) [] (Oia rfl enc_GLeave__len hx19_1i hx19_1g) ?_
   refine Wy (.agg [(.i x19_1.Point.Loc), (.i x19_1.Point.Time), (.b x19_1.Held)]) [] (Lf rfl enc_GLeave__len hx19_1g) ?_
   refine Wy (.tup []) [(1, (.box [(.i x19_1.Point.Loc), (.i x19_1.Point.Time), (.b x19_1.Held)]))] (Ost rfl) ?_
   refine Wy (.b true) [] (Omv rfl) ?_
   refine Walk.nil ?_
   refine Then.normal ?_
   refine AWP.ret ?_
   obtain rfl := Option.some.inj hm
   exact ret_i []

set_option maxRecDepth 20000 in
set_option maxHeartbeats 4000000 in
theorem ok_token_Book_held (p0 : GBook) (p1 : Int) (r : (GLeave_ × Int)) (h : m_token_Book_held p0 p1 = some r) : GCall Try.prog 31 [(.agg [(.l enc_GLeave_ p0.L)]), (.i p1)] [] (.tup [(.agg [(.i r.1.Point.Loc), (.i r.1.Point.Time), (.b r.1.Held)]), (.i r.2)]) [] := by
 refine GCall.of_body (n := 24) (rs := [(.cell 4 47), (.tmp 5)]) Try.func31 rfl rfl rfl ?_
 refine Ato ⟨((.agg [(.l enc_GLeave_ p0.L)]) :: ((.i p1) :: (tu 22 []))), [], 0⟩ ?_
 have hm := h
 unfold m_token_Book_held at hm
 refine AWP.seq ?_
 refine AWP.text ?_
 refine Wy (.loc 0 0) [(0, (.box [(.l enc_GLeave_ p0.L)]))] (Obx rfl) ?_
 refine Wy (.loc 1 0) [(1, (.box [(.i 0), (.i 0), (.b false)]))] (Oal rfl) ?_
 refine Wy (.i 0) [] (Omv rfl) ?_
 refine Walk.nil ?_
 refine Then.normal ?_
 refine Amk 22 3 ⟨(tp 1 ((.i p1) :: ((.loc 0 0) :: (tp 1 ((.loc 1 0) :: (tp 19 [])))))), [(.box [(.l enc_GLeave_ p0.L)]), (.box [(.i 0), (.i 0), (.b false)])], 0⟩ ?_
 refine AWP.seq ?_
 refine AWP.text ?_
 refine Wy (.agg [(.l enc_GLeave_ p0.L)]) [] (Old rfl) ?_
 refine Wy (.i p1) [] (Omv rfl) ?_
 obtain ⟨r11_0, hr11_0, hm⟩ := bnd hm
 refine Wy (.tup [(.agg [(.i r11_0.1.Point.Loc), (.i r11_0.1.Point.Time), (.b r11_0.1.Held)]), (.b r11_0.2)]) [] (Ocf [] [] [] 0 (ok_token_Book_Get p0 p1 r11_0 hr11_0) (fun a w => Try.call13 a w) rfl trivial) ?_
 refine Wy (.tup [(.agg [(.i r11_0.1.Point.Loc), (.i r11_0.1.Point.Time), (.b r11_0.1.Held)]), (.b r11_0.2)]) [] (Omv rfl) ?_
 refine Wy (.agg [(.i r11_0.1.Point.Loc), (.i r11_0.1.Point.Time), (.b r11_0.1.Held)]) [] (Oex rfl) ?_
 refine Wy (.b r11_0.2) [] (Oex rfl) ?_
 refine Wy (.loc 2 0) [(2, (.box [(.i 0), (.i 0), (.b false)]))] (Oal rfl) ?_
 refine Wy (.tup []) [(2, (.box [(.i r11_0.1.Point.Loc), (.i r11_0.1.Point.Time), (.b r11_0.1.Held)]))] (Ost rfl) ?_
 refine Wy (.b r11_0.2) [] (Omv rfl) ?_
 refine Walk.nil ?_
 refine Then.normal ?_
 refine Amk 208 6 ⟨(tp 4 ((.loc 1 0) :: (tp 1 ((.loc 2 0) :: ((.b r11_0.2) :: (tp 16 [])))))), [.gone, (.box [(.i 0), (.i 0), (.b false)]), (.box [(.i r11_0.1.Point.Loc), (.i r11_0.1.Point.Time), (.b r11_0.1.Held)])], 0⟩ ?_
 refine AWP.seq ?_
 refine AWP.block ?_
 refine AWP.seq ?_
 refine AWP.text ?_
 refine Wy (.b r11_0.2) [] (Omv rfl) ?_
 refine Wy (.b (!r11_0.2)) [] (Ocs (by kernel_rfl) (op_un rfl (a1 := .bool r11_0.2) (by kernel_rfl) (fun _ => hu_not))) ?_
 refine Wy (.b (!r11_0.2)) [] (Omv rfl) ?_
 refine Walk.nil ?_
 refine Then.normal ?_
 refine Amk 16464 6 ⟨(tp 4 ((.loc 1 0) :: (tp 1 ((.loc 2 0) :: (tp 7 ((.b (!r11_0.2)) :: (tp 9 []))))))), [.gone, (.box [(.i 0), (.i 0), (.b false)]), (.box [(.i r11_0.1.Point.Loc), (.i r11_0.1.Point.Time), (.b r11_0.1.Held)])], 0⟩ ?_
 rcases tf_ (!r11_0.2) with hc14_1 | hc14_1
 ·
  replace hm := cT hc14_1 hm
  refine AWP.if_ true (Eq.trans (by kernel_rfl) (lit_tf (b := (!r11_0.2)) hc14_1)) ?_
  refine AWP.seq ?_
  refine AWP.text ?_
  refine Wy (.agg [(.i 0), (.i 0), (.b false)]) [] (Obd rfl) ?_
  refine Wy (.tup []) [(1, (.box [(.i 0), (.i 0), (.b false)]))] (Ost rfl) ?_
  refine Wy (.i 6) [] (Omv rfl) ?_
  refine Walk.nil ?_
  refine Then.normal ?_
  refine AWP.ret ?_
  refine InBlock.ret ?_
  refine Then.ret ?_
  obtain rfl := Option.some.inj hm
  exact ret_i []
 ·
  replace hm := cF hc14_1 hm
  refine AWP.if_ false (Eq.trans (by kernel_rfl) (lit_tf (b := (!r11_0.2)) hc14_1)) ?_
  refine AWP.seq ?_
  refine AWP.text ?_
  refine Wy (.loc 2 2) [] (Ofa rfl) ?_
  refine Wy (.b r11_0.1.Held) [] (Old rfl) ?_
  refine Wy (.b (!r11_0.1.Held)) [] (Ocs (by kernel_rfl) (op_un rfl (a1 := .bool r11_0.1.Held) (by kernel_rfl) (fun _ => hu_not))) ?_
  refine Wy (.b (!r11_0.1.Held)) [] (Omv rfl) ?_
  refine Walk.nil ?_
  refine Then.normal ?_
  refine Amk 262224 6 ⟨(tp 4 ((.loc 1 0) :: (tp 1 ((.loc 2 0) :: (tp 11 ((.b (!r11_0.1.Held)) :: (tp 5 []))))))), [.gone, (.box [(.i 0), (.i 0), (.b false)]), (.box [(.i r11_0.1.Point.Loc), (.i r11_0.1.Point.Time), (.b r11_0.1.Held)])], 0⟩ ?_
  rcases tf_ (!r11_0.1.Held) with hc18_2 | hc18_2
  ·
   replace hm := cT hc18_2 hm
   refine AWP.if_ true (Eq.trans (by kernel_rfl) (lit_tf (b := (!r11_0.1.Held)) hc18_2)) ?_
   refine AWP.seq ?_
   refine AWP.text ?_
   refine Wy (.agg [(.i 0), (.i 0), (.b false)]) [] (Obd rfl) ?_
   refine Wy (.tup []) [(1, (.box [(.i 0), (.i 0), (.b false)]))] (Ost rfl) ?_
   refine Wy (.i 20) [] (Omv rfl) ?_
   refine Walk.nil ?_
   refine Then.normal ?_
   refine AWP.ret ?_
   refine InBlock.ret ?_
   refine Then.ret ?_
   obtain rfl := Option.some.inj hm
   exact ret_i []
  ·
   replace hm := cF hc18_2 hm
   refine AWP.if_ false (Eq.trans (by kernel_rfl) (lit_tf (b := (!r11_0.1.Held)) hc18_2)) ?_
   refine AWP.skip ?_
   refine InBlock.normal ?_
   refine Then.normal ?_
   refine Amk 80 6 ⟨(tp 4 ((.loc 1 0) :: (tp 1 ((.loc 2 0) :: (tp 17 []))))), [.gone, (.box [(.i 0), (.i 0), (.b false)]), (.box [(.i r11_0.1.Point.Loc), (.i r11_0.1.Point.Time), (.b r11_0.1.Held)])], 0⟩ ?_
   refine AWP.seq ?_
   refine AWP.text ?_
   refine Wy (.agg [(.i r11_0.1.Point.Loc), (.i r11_0.1.Point.Time), (.b r11_0.1.Held)]) [] (Old rfl) ?_
   refine Wy (.tup []) [(1, (.box [(.i r11_0.1.Point.Loc), (.i r11_0.1.Point.Time), (.b r11_0.1.Held)]))] (Ost rfl) ?_
   refine Wy (.i 0) [] (Omv rfl) ?_
   refine Walk.nil ?_
   refine Then.normal ?_
   refine AWP.ret ?_
   obtain rfl := Option.some.inj hm
   exact ret_i []

set_option maxRecDepth 20000 in
set_option maxHeartbeats 4000000 in
theorem ok_token_Book_with (p0 : GBook) (p1 : Int) (p2 : GLeave_) (r : GBook) (h : m_token_Book_with p0 p1 p2 = some r) : GCall Try.prog 32 [(.agg [(.l enc_GLeave_ p0.L)]), (.i p1), (.agg [(.i p2.Point.Loc), (.i p2.Point.Time), (.b p2.Held)])] [] (.agg [(.own 0)]) [(.arr 47 3 (List.length r.L) (flatD enc_GLeave_ r.L))] := by
 refine GCall.of_body (n := 17) (rs := [(.cell 6 29)]) Try.func32 rfl rfl rfl ?_
 refine Ato ⟨((.agg [(.l enc_GLeave_ p0.L)]) :: ((.i p1) :: ((.agg [(.i p2.Point.Loc), (.i p2.Point.Time), (.b p2.Held)]) :: (tu 14 [])))), [], 0⟩ ?_
 have hm := h
 unfold m_token_Book_with at hm
 refine AWP.seq ?_
 refine AWP.text ?_
 refine Wy (.loc 0 0) [(0, (.box [(.l enc_GLeave_ p0.L)]))] (Obx rfl) ?_
 refine Wy (.loc 1 0) [(1, (.box [(.i p2.Point.Loc), (.i p2.Point.Time), (.b p2.Held)]))] (Obx rfl) ?_
 refine Wy (.loc 2 0) [(2, (.box [(.d .nil)]))] (Oal rfl) ?_
 refine Walk.nil ?_
 refine Then.normal ?_
 refine Amk 106 7 ⟨(tp 1 ((.i p1) :: (tp 1 ((.loc 0 0) :: (tp 1 ((.loc 1 0) :: ((.loc 2 0) :: (tp 10 [])))))))), [(.box [(.l enc_GLeave_ p0.L)]), (.box [(.i p2.Point.Loc), (.i p2.Point.Time), (.b p2.Held)]), (.box [(.d .nil)])], 0⟩ ?_
 refine AWP.seq ?_
 refine AWP.text ?_
 refine Wy (.loc 0 0) [] (Ofa rfl) ?_
 refine Wy (.l enc_GLeave_ p0.L) [] (Old rfl) ?_
 obtain ⟨r10_0, hr10_0, hm⟩ := bnd hm
 refine Wy (.own 3) [(3, (.arr 47 3 (List.length r10_0) (flatD enc_GLeave_ r10_0)))] (Ocf [] [3] [] 0 (ok_slices_Clone_Leave p0.L r10_0 hr10_0) (fun a w => Try.call29 a w) rfl trivial) ?_
 refine Wy (.own 3) [] (Omv rfl) ?_
 refine Walk.nil ?_
 refine Then.normal ?_
 refine Amk 226 14 ⟨(tp 1 ((.i p1) :: (tp 3 ((.loc 1 0) :: ((.loc 2 0) :: ((.own 3) :: (tp 9 []))))))), [.gone, (.box [(.i p2.Point.Loc), (.i p2.Point.Time), (.b p2.Held)]), (.box [(.d .nil)]), (.arr 47 3 (List.length r10_0) (flatD enc_GLeave_ r10_0))], 0⟩ ?_
 refine AWP.seq ?_
 refine AWP.text ?_
 refine Wy (.own 3) [] (Omv rfl) ?_
 refine Wy (.i p1) [] (Omv rfl) ?_
 refine Wy (.agg [(.i p2.Point.Loc), (.i p2.Point.Time), (.b p2.Held)]) [] (Old rfl) ?_
 obtain ⟨x14_1, hx14_1, hm⟩ := bnd hm
 obtain ⟨hx14_1i, hx14_1g⟩ := geti_some hx14_1
 refine Wy (.loc 3 ((Int.toNat p1) * 3)) [] (Oia rfl enc_GLeave__len hx14_1i hx14_1g) ?_
 refine Wy (.tup []) [(3, (.arr 47 3 (List.length (List.set r10_0 (Int.toNat p1) p2)) (flatD enc_GLeave_ (List.set r10_0 (Int.toNat p1) p2))))] (Osr 0 rfl enc_GLeave__len hx14_1g p2) ?_
 refine Walk.nil ?_
 refine Then.normal ?_
 refine Amk 192 12 ⟨(tp 6 ((.loc 2 0) :: ((.own 3) :: (tp 9 [])))), [.gone, .gone, (.box [(.d .nil)]), (.arr 47 3 (List.length (List.set r10_0 (Int.toNat p1) p2)) (flatD enc_GLeave_ (List.set r10_0 (Int.toNat p1) p2)))], 0⟩ ?_
 refine AWP.seq ?_
 refine AWP.text ?_
 refine Wy (.own 3) [] (Omv rfl) ?_
 refine Wy (.agg [(.own 3)]) [] (Obd rfl) ?_
 refine Wy (.tup []) [(2, (.box [(.own 3)]))] (Ost rfl) ?_
 refine Walk.nil ?_
 refine Then.normal ?_
 refine AWP.ret ?_
 obtain rfl := Option.some.inj hm
 exact ret_i [3]

set_option maxRecDepth 20000 in
set_option maxHeartbeats 4000000 in
theorem ok_cmp_isNaN_int (p0 : Int) (r : Bool) (h : m_cmp_isNaN_int p0 = some r) : GCall Try.prog 57 [(.i p0)] [] (.b r) [] := by
 refine GCall.of_body (n := 6) (rs := [(.tmp 2)]) Try.func57 rfl rfl rfl ?_
 refine Ato ⟨((.i p0) :: (tu 5 [])), [], 0⟩ ?_
 have hm := h
 unfold m_cmp_isNaN_int at hm
 refine AWP.seq ?_
 refine AWP.text ?_
 refine Wy (.b false) [] (Omv rfl) ?_
 refine Walk.nil ?_
 refine Then.normal ?_
 refine Amk 1 0 ⟨((.i p0) :: (tp 5 [])), [], 0⟩ ?_
 refine AWP.seq ?_
 refine AWP.text ?_
 refine Wy (.i p0) [] (Omv rfl) ?_
 refine Wy (.i p0) [] (Omv rfl) ?_
 refine Wy (.b (decide (p0 ≠ p0))) [] (Obn rfl (fun _ => hb_neq (k := .i64))) ?_
 refine Wy (.b (decide (p0 ≠ p0))) [] (Omv rfl) ?_
 refine Walk.nil ?_
 refine Then.normal ?_
 refine AWP.ret ?_
 obtain rfl := Option.some.inj hm
 exact ret_i []

set_option maxRecDepth 20000 in
set_option maxHeartbeats 4000000 in
theorem ok_cmp_Compare_int (p0 : Int) (p1 : Int) (r : Int) (h : m_cmp_Compare_int p0 p1 = some r) : GCall Try.prog 53 [(.i p0), (.i p1)] [] (.i r) [] := by
 refine GCall.of_body (n := 20) (rs := [(.tmp 4)]) Try.func53 rfl rfl rfl ?_
 refine Ato ⟨((.i p0) :: ((.i p1) :: (tu 18 []))), [], 0⟩ ?_
 have hm := h
 unfold m_cmp_Compare_int at hm
 refine AWP.seq ?_
 refine AWP.text ?_
 refine Wy (.i 0) [] (Omv rfl) ?_
 refine Walk.nil ?_
 refine Then.normal ?_
 refine Amk 3 0 ⟨((.i p0) :: ((.i p1) :: (tp 18 []))), [], 0⟩ ?_
 refine AWP.seq ?_
 refine AWP.text ?_
 refine Wy (.i p0) [] (Omv rfl) ?_
 obtain ⟨r8_0, hr8_0, hm⟩ := bnd hm
 refine Wy (.b r8_0) [] (Ocf [] [] [] 0 (ok_cmp_isNaN_int p0 r8_0 hr8_0) (fun a w => Try.call57 a w) rfl trivial) ?_
 refine Wy (.b r8_0) [] (Omv rfl) ?_
 refine Walk.nil ?_
 refine Then.normal ?_
 refine Amk 35 0 ⟨((.i p0) :: ((.i p1) :: (tp 3 ((.b r8_0) :: (tp 14 []))))), [], 0⟩ ?_
 refine AWP.seq ?_
 refine AWP.text ?_
 refine Wy (.i p1) [] (Omv rfl) ?_
 obtain ⟨r10_1, hr10_1, hm⟩ := bnd hm
 refine Wy (.b r10_1) [] (Ocf [] [] [] 0 (ok_cmp_isNaN_int p1 r10_1 hr10_1) (fun a w => Try.call57 a w) rfl trivial) ?_
 refine Wy (.b r10_1) [] (Omv rfl) ?_
 refine Walk.nil ?_
 refine Then.normal ?_
 refine Amk 99 0 ⟨((.i p0) :: ((.i p1) :: (tp 3 ((.b r8_0) :: ((.b r10_1) :: (tp 13 [])))))), [], 0⟩ ?_
 refine AWP.seq ?_
 refine AWP.seq ?_
 refine AWP.text ?_
 refine Wy (.b r8_0) [] (Omv rfl) ?_
 refine Walk.nil ?_
 refine Then.normal ?_
 refine Amk 2115 0 ⟨((.i p0) :: ((.i p1) :: (tp 4 ((.b r10_1) :: (tp 4 ((.b r8_0) :: (tp 8 []))))))), [], 0⟩ ?_
 rcases tf_ r8_0 with hc11_2 | hc11_2
 ·
  replace hm := cT hc11_2 hm
  refine AWP.if_ true (Eq.trans (by kernel_rfl) (lit_tf (b := r8_0) hc11_2)) ?_
  refine AWP.seq ?_
  refine AWP.seq ?_
  refine AWP.text ?_
  refine Wy (.b r10_1) [] (Omv rfl) ?_
  refine Walk.nil ?_
  refine Then.normal ?_
  refine Amk 4096 0 ⟨(tp 12 ((.b r10_1) :: (tp 7 []))), [], 0⟩ ?_
  rcases tf_ r10_1 with hc12_3 | hc12_3
  ·
   replace hm := cT hc12_3 hm
   refine AWP.if_ true (Eq.trans (by kernel_rfl) (lit_tf (b := r10_1) hc12_3)) ?_
   refine AWP.seq ?_
   refine AWP.text ?_
   refine Wy (.i 0) [] (Omv rfl) ?_
   refine Walk.nil ?_
   refine Then.normal ?_
   refine AWP.ret ?_
   refine Then.ret ?_
   refine Then.ret ?_
   obtain rfl := Option.some.inj hm
   exact ret_i []
  ·
   replace hm := cF hc12_3 hm
   refine AWP.if_ false (Eq.trans (by kernel_rfl) (lit_tf (b := r10_1) hc12_3)) ?_
   refine AWP.skip ?_
   refine Then.normal ?_
   refine Amk 0 0 ⟨(tp 20 []), [], 0⟩ ?_
   refine AWP.seq ?_
   refine AWP.text ?_
   refine Wy (.i (-1)) [] (Omv rfl) ?_
   refine Walk.nil ?_
   refine Then.normal ?_
   refine AWP.ret ?_
   refine Then.ret ?_
   obtain rfl := Option.some.inj hm
   exact ret_i []
 ·
  replace hm := cF hc11_2 hm
  refine AWP.if_ false (Eq.trans (by kernel_rfl) (lit_tf (b := r8_0) hc11_2)) ?_
  refine AWP.skip ?_
  refine Then.normal ?_
  refine Amk 67 0 ⟨((.i p0) :: ((.i p1) :: (tp 4 ((.b r10_1) :: (tp 13 []))))), [], 0⟩ ?_
  refine AWP.seq ?_
  refine AWP.seq ?_
  refine AWP.text ?_
  refine Wy (.b r10_1) [] (Omv rfl) ?_
  refine Walk.nil ?_
  refine Then.normal ?_
  refine Amk 8195 0 ⟨((.i p0) :: ((.i p1) :: (tp 11 ((.b r10_1) :: (tp 6 []))))), [], 0⟩ ?_
  rcases tf_ r10_1 with hc13_4 | hc13_4
  ·
   replace hm := cT hc13_4 hm
   refine AWP.if_ true (Eq.trans (by kernel_rfl) (lit_tf (b := r10_1) hc13_4)) ?_
   refine AWP.seq ?_
   refine AWP.text ?_
   refine Wy (.i 1) [] (Omv rfl) ?_
   refine Walk.nil ?_
   refine Then.normal ?_
   refine AWP.ret ?_
   refine Then.ret ?_
   obtain rfl := Option.some.inj hm
   exact ret_i []
  ·
   replace hm := cF hc13_4 hm
   refine AWP.if_ false (Eq.trans (by kernel_rfl) (lit_tf (b := r10_1) hc13_4)) ?_
   refine AWP.skip ?_
   refine Then.normal ?_
   refine Amk 3 0 ⟨((.i p0) :: ((.i p1) :: (tp 18 []))), [], 0⟩ ?_
   refine AWP.seq ?_
   refine AWP.seq ?_
   refine AWP.text ?_
   refine Wy (.i p0) [] (Omv rfl) ?_
   refine Wy (.i p1) [] (Omv rfl) ?_
   refine Wy (.b (decide (p0 < p1))) [] (Obn rfl (fun _ => hb_lss (k := .i64))) ?_
   refine Walk.nil ?_
   refine Then.normal ?_
   refine Amk 65539 0 ⟨((.i p0) :: ((.i p1) :: (tp 14 ((.b (decide (p0 < p1))) :: (tp 3 []))))), [], 0⟩ ?_
   rcases tf_ (decide (p0 < p1)) with hc16_5 | hc16_5
   ·
    replace hm := cT hc16_5 hm
    refine AWP.if_ true (Eq.trans (by kernel_rfl) (lit_tf (b := decide (p0 < p1)) hc16_5)) ?_
    refine AWP.seq ?_
    refine AWP.text ?_
    refine Wy (.i (-1)) [] (Omv rfl) ?_
    refine Walk.nil ?_
    refine Then.normal ?_
    refine AWP.ret ?_
    refine Then.ret ?_
    obtain rfl := Option.some.inj hm
    exact ret_i []
   ·
    replace hm := cF hc16_5 hm
    refine AWP.if_ false (Eq.trans (by kernel_rfl) (lit_tf (b := decide (p0 < p1)) hc16_5)) ?_
    refine AWP.skip ?_
    refine Then.normal ?_
    refine Amk 3 0 ⟨((.i p0) :: ((.i p1) :: (tp 18 []))), [], 0⟩ ?_
    refine AWP.seq ?_
    refine AWP.seq ?_
    refine AWP.text ?_
    refine Wy (.i p0) [] (Omv rfl) ?_
    refine Wy (.i p1) [] (Omv rfl) ?_
    refine Wy (.b (decide (p1 < p0))) [] (Obn rfl (fun _ => hb_gtr (k := .i64))) ?_
    refine Walk.nil ?_
    refine Then.normal ?_
    refine Amk 524288 0 ⟨(tp 19 ((.b (decide (p1 < p0))) :: [])), [], 0⟩ ?_
    rcases tf_ (decide (p1 < p0)) with hc19_6 | hc19_6
    ·
     replace hm := cT hc19_6 hm
     refine AWP.if_ true (Eq.trans (by kernel_rfl) (lit_tf (b := decide (p1 < p0)) hc19_6)) ?_
     refine AWP.seq ?_
     refine AWP.text ?_
     refine Wy (.i 1) [] (Omv rfl) ?_
     refine Walk.nil ?_
     refine Then.normal ?_
     refine AWP.ret ?_
     refine Then.ret ?_
     obtain rfl := Option.some.inj hm
     exact ret_i []
    ·
     replace hm := cF hc19_6 hm
     refine AWP.if_ false (Eq.trans (by kernel_rfl) (lit_tf (b := decide (p1 < p0)) hc19_6)) ?_
     refine AWP.skip ?_
     refine Then.normal ?_
     refine Amk 0 0 ⟨(tp 20 []), [], 0⟩ ?_
     refine AWP.seq ?_
     refine AWP.text ?_
     refine Wy (.i 0) [] (Omv rfl) ?_
     refine Walk.nil ?_
     refine Then.normal ?_
     refine AWP.ret ?_
     obtain rfl := Option.some.inj hm
     exact ret_i []

set_option maxRecDepth 20000 in
set_option maxHeartbeats 4000000 in
theorem ok_cmp_Or_int (p0 : (List Int)) (r : Int) (h : m_cmp_Or_int p0 = some r) : GCall Try.prog 52 [(.l (encI .i64) p0)] [] (.i r) [] := by
 refine GCall.of_body (n := 18) (rs := [(.tmp 2)]) Try.func52 rfl rfl rfl ?_
 refine Ato ⟨((.l (encI .i64) p0) :: (tu 17 [])), [], 0⟩ ?_
 have hm := h
 unfold m_cmp_Or_int at hm
 refine AWP.seq ?_
 refine AWP.text ?_
 refine Wy (.i 0) [] (Omv rfl) ?_
 refine Walk.nil ?_
 refine Then.normal ?_
 refine Amk 1 0 ⟨((.l (encI .i64) p0) :: (tp 17 [])), [], 0⟩ ?_
 refine AWP.seq ?_
 refine AWP.text ?_
 refine Wy (.i 0) [] (Omv rfl) ?_
 refine Walk.nil ?_
 refine Then.normal ?_
 refine Amk 9 0 ⟨((.l (encI .i64) p0) :: (tp 2 ((.i 0) :: (tp 14 [])))), [], 0⟩ ?_
 refine AWP.seq ?_
 refine AWP.seq ?_
 refine AWP.text ?_
 refine Wy (.l (encI .i64) p0) [] (Omv rfl) ?_
 refine Wy (.i ((List.length p0 : Nat) : Int)) [] (Oln rfl) ?_
 refine Wy (.i 0) [] (Omv rfl) ?_
 refine Walk.nil ?_
 refine Then.normal ?_
 refine Amk 456 0 ⟨(tp 3 ((.i 0) :: (tp 2 ((.l (encI .i64) p0) :: ((.i ((List.length p0 : Nat) : Int)) :: ((.i 0) :: (tp 9 []))))))), [], 0⟩ ?_
 refine AWP.block ?_
 refine AWP.loopI (α := Nat × Int)
   (fun x => match x with | (fu_1, y8_1) => (⟨(tp 3 ((.i 0) :: (tp 2 ((.l (encI .i64) p0) :: ((.i ((List.length p0 : Nat) : Int)) :: ((.i y8_1) :: (tp 9 []))))))), [], 0⟩ : St))
   (fun x => match x with | (fu_1, y8_1) => m_cmp_Or_int_l1 p0 fu_1 y8_1 = some r)
   (fun x => match x with | (fu_1, y8_1) => fu_1) (1152921504606846976, 0)
   (Weak.toK 456 0 0 []) hm ?_
 rintro ⟨fu_1, y8_1⟩ n_1 hm ih_1
 try dsimp only at hm ih_1 ⊢
 cases fu_1 with
 | zero => exact absurd hm (by unfold m_cmp_Or_int_l1; simp)
 | succ fu_1 =>
  unfold m_cmp_Or_int_l1 at hm
  refine AWP.seq ?_
  refine AWP.text ?_
  refine Wy (.b (decide (y8_1 < ((List.length p0 : Nat) : Int)))) [] (Obn rfl (fun _ => hb_lss (k := .i64))) ?_
  refine Walk.nil ?_
  refine Then.normal ?_
  refine Amk 968 0 ⟨(tp 3 ((.i 0) :: (tp 2 ((.l (encI .i64) p0) :: ((.i ((List.length p0 : Nat) : Int)) :: ((.i y8_1) :: ((.b (decide (y8_1 < ((List.length p0 : Nat) : Int)))) :: (tp 8 [])))))))), [], 0⟩ ?_
  refine AWP.seq ?_
  rcases tf_ (decide (y8_1 < ((List.length p0 : Nat) : Int))) with hc9_3 | hc9_3
  ·
   replace hm := cT hc9_3 hm
   refine AWP.if_ true (Eq.trans (by kernel_rfl) (lit_tf (b := decide (y8_1 < ((List.length p0 : Nat) : Int))) hc9_3)) ?_
   refine AWP.skip ?_
   refine Then.normal ?_
   refine Amk 456 0 ⟨(tp 3 ((.i 0) :: (tp 2 ((.l (encI .i64) p0) :: ((.i ((List.length p0 : Nat) : Int)) :: ((.i y8_1) :: (tp 9 []))))))), [], 0⟩ ?_
   refine AWP.seq ?_
   refine AWP.block ?_
   refine AWP.seq ?_
   refine AWP.text ?_
   obtain ⟨x10_2, hx10_2, hm⟩ := bnd hm
   obtain ⟨hx10_2i, hx10_2g⟩ := geti_some hx10_2
   refine Wy (.d (.ref (List.drop ((Int.toNat y8_1) * 1) (flatD (encI .i64) p0)))) [] (Oia rfl (encI_len (k := .i64)) hx10_2i hx10_2g) ?_
   refine Wy (.i x10_2) [] (Lf1 rfl (encI_len (k := .i64)) hx10_2g) ?_
   refine Wy (.i x10_2) [] (Omv rfl) ?_
   refine Walk.nil ?_
   refine Then.normal ?_
   refine Amk 488 0 ⟨(tp 3 ((.i 0) :: (tp 1 ((.i x10_2) :: ((.l (encI .i64) p0) :: ((.i ((List.length p0 : Nat) : Int)) :: ((.i y8_1) :: (tp 9 [])))))))), [], 0⟩ ?_
   refine AWP.seq ?_
   refine AWP.text ?_
   refine Wy (.i x10_2) [] (Omv rfl) ?_
   refine Wy (.i 0) [] (Omv rfl) ?_
   refine Wy (.b (decide (x10_2 ≠ 0))) [] (Obn rfl (fun _ => hb_neq (k := .i64))) ?_
   refine Walk.nil ?_
   refine Then.normal ?_
   refine Amk 16872 0 ⟨(tp 3 ((.i 0) :: (tp 1 ((.i x10_2) :: ((.l (encI .i64) p0) :: ((.i ((List.length p0 : Nat) : Int)) :: ((.i y8_1) :: (tp 5 ((.b (decide (x10_2 ≠ 0))) :: (tp 3 [])))))))))), [], 0⟩ ?_
   rcases tf_ (decide (x10_2 ≠ 0)) with hc14_4 | hc14_4
   ·
    replace hm := cT hc14_4 hm
    refine AWP.if_ true (Eq.trans (by kernel_rfl) (lit_tf (b := decide (x10_2 ≠ 0)) hc14_4)) ?_
    refine AWP.seq ?_
    refine AWP.text ?_
    refine Wy (.i x10_2) [] (Omv rfl) ?_
    refine Wy (.i x10_2) [] (Omv rfl) ?_
    refine Walk.nil ?_
    refine Then.normal ?_
    refine AWP.ret ?_
    refine InBlock.ret ?_
    refine Then.ret ?_
    refine RoundK.ret ?_
    refine InBlock.ret ?_
    refine Then.ret ?_
    obtain rfl := Option.some.inj hm
    exact ret_i []
   ·
    replace hm := cF hc14_4 hm
    refine AWP.if_ false (Eq.trans (by kernel_rfl) (lit_tf (b := decide (x10_2 ≠ 0)) hc14_4)) ?_
    refine AWP.skip ?_
    refine InBlock.normal ?_
    refine Then.normal ?_
    refine Amk 456 0 ⟨(tp 3 ((.i 0) :: (tp 2 ((.l (encI .i64) p0) :: ((.i ((List.length p0 : Nat) : Int)) :: ((.i y8_1) :: (tp 9 []))))))), [], 0⟩ ?_
    refine AWP.text ?_
    refine Wy (.i (IntKind.i64.wrap (y8_1 + 1))) [] (Obn rfl (fun _ => hb_add (k := .i64))) ?_
    refine Wy (.i (IntKind.i64.wrap (y8_1 + 1))) [] (Omv rfl) ?_
    refine Walk.nil ?_
    refine RoundK.normal ?_
    exact Rounds.weak (Weak.toK 456 0 0 []) (ih_1 (fu_1, (IntKind.i64.wrap (y8_1 + 1))) hm (Nat.lt_succ_self _))
  ·
   replace hm := cF hc9_3 hm
   refine AWP.if_ false (Eq.trans (by kernel_rfl) (lit_tf (b := decide (y8_1 < ((List.length p0 : Nat) : Int))) hc9_3)) ?_
   refine AWP.exit ?_
   refine Then.exit ?_
   refine RoundK.exit ?_
   refine InBlock.same ?_
   refine Then.normal ?_
   refine Amk 8 0 ⟨(tp 3 ((.i 0) :: (tp 14 []))), [], 0⟩ ?_
   refine AWP.seq ?_
   refine AWP.text ?_
   refine Wy (.i 0) [] (Omv rfl) ?_
   refine Wy (.i 0) [] (Omv rfl) ?_
   refine Walk.nil ?_
   refine Then.normal ?_
   refine AWP.ret ?_
   obtain rfl := Option.some.inj hm
   exact ret_i []

set_option maxRecDepth 20000 in
set_option maxHeartbeats 4000000 in
theorem ok_tally_order (p0 : GChange) (p1 : GChange) (r : Int) (h : m_tally_order p0 p1 = some r) : GCall Try.prog 44 [(.agg [(.i p0.Loc), (.i p0.Time), (.i p0.N)]), (.agg [(.i p1.Loc), (.i p1.Time), (.i p1.N)])] [] (.i r) [] := by
 refine GCall.of_body (n := 17) (rs := [(.tmp 4)]) Try.func44 rfl rfl rfl ?_
 refine Ato ⟨((.agg [(.i p0.Loc), (.i p0.Time), (.i p0.N)]) :: ((.agg [(.i p1.Loc), (.i p1.Time), (.i p1.N)]) :: (tu 15 []))), [], 0⟩ ?_
 have hm := h
 unfold m_tally_order at hm
 refine AWP.seq ?_
 refine AWP.text ?_
 refine Wy (.loc 0 0) [(0, (.box [(.i p0.Loc), (.i p0.Time), (.i p0.N)]))] (Obx rfl) ?_
 refine Wy (.loc 1 0) [(1, (.box [(.i p1.Loc), (.i p1.Time), (.i p1.N)]))] (Obx rfl) ?_
 refine Wy (.i 0) [] (Omv rfl) ?_
 refine Walk.nil ?_
 refine Then.normal ?_
 refine Amk 12 3 ⟨(tp 2 ((.loc 0 0) :: ((.loc 1 0) :: (tp 13 [])))), [(.box [(.i p0.Loc), (.i p0.Time), (.i p0.N)]), (.box [(.i p1.Loc), (.i p1.Time), (.i p1.N)])], 0⟩ ?_
 refine AWP.seq ?_
 refine Adr ?_
 refine Wy (.loc 0 0) [] (Ofa rfl) ?_
 refine Wy (.i p0.Loc) [] (Old rfl) ?_
 refine Wy (.loc 1 0) [] (Ofa rfl) ?_
 refine Wy (.i p1.Loc) [] (Old rfl) ?_
 obtain ⟨r9_0, hr9_0, hm⟩ := bnd hm
 refine Wy (.i r9_0) [] (Ocf [] [] [] 0 (ok_cmp_Compare_int p0.Loc p1.Loc r9_0 hr9_0) (fun a w => Try.call53 a w) rfl trivial) ?_
 refine Wy (.loc 0 1) [] (Ofa rfl) ?_
 refine Wy (.i p0.Time) [] (Old rfl) ?_
 refine Wy (.loc 1 1) [] (Ofa rfl) ?_
 refine Wy (.i p1.Time) [] (Old rfl) ?_
 obtain ⟨r14_0, hr14_0, hm⟩ := bnd hm
 refine Wy (.i r14_0) [] (Ocf [] [] [] 0 (ok_cmp_Compare_int p0.Time p1.Time r14_0 hr14_0) (fun a w => Try.call53 a w) rfl trivial) ?_
 refine Wy (.own 2) [(2, (.arr 3 1 (List.length ([r9_0, r14_0] : List Int)) (flatD (encI .i64) ([r9_0, r14_0] : List Int))))] (Obs rfl) ?_
 obtain ⟨r16_0, hr16_0, hm⟩ := bnd hm
 refine Wy (.i r16_0) [] (Ocp [] [] [2] 0 (ok_cmp_Or_int ([r9_0, r14_0] : List Int) r16_0 hr16_0) (plain_triv (by simp [A.Plain, A.Plains, D.Plain, byteD])) (fun a w => Try.call52 a w) rfl trivial) ?_
 refine Wy (.i r16_0) [] (Omv rfl) ?_
 refine Wdr ?_
 refine Then.normal ?_
 refine AWP.ret ?_
 obtain rfl := Option.some.inj hm
 exact ret_i []

set_option maxRecDepth 20000 in
set_option maxHeartbeats 4000000 in
theorem ok_slices_insertionSortCmpFunc_tally_Change__tally_order (p0 : (List GChange)) (p1 : Int) (p2 : Int) (r : (List GChange)) (h : m_slices_insertionSortCmpFunc_tally_Change__tally_order p0 p1 p2 = some r) : GCall Try.prog 55 [(.own 0), (.i p1), (.i p2), (.clo (.func 44) [] [])] [(.arr 65 3 (List.length p0) (flatD enc_GChange p0))] (.tup []) [(.arr 65 3 (List.length r) (flatD enc_GChange r))] := by
 refine GCall.of_body (n := 53) (rs := []) Try.func55 rfl rfl rfl ?_
 refine Ato ⟨((.own 0) :: ((.i p1) :: ((.i p2) :: ((.clo (.func 44) [] []) :: (tu 49 []))))), [(.arr 65 3 (List.length p0) (flatD enc_GChange p0))], 1⟩ ?_
 have hm := h
 unfold m_slices_insertionSortCmpFunc_tally_Change__tally_order at hm
 refine AWP.seq ?_
 refine AWP.text ?_
 refine Wy (.i p1) [] (Omv rfl) ?_
 refine Wy (.i (IntKind.i64.wrap (p1 + 1))) [] (Obn rfl (fun _ => hb_add (k := .i64))) ?_
 refine Wy (.i (IntKind.i64.wrap (p1 + 1))) [] (Omv rfl) ?_
 refine Walk.nil ?_
 refine Then.normal ?_
 refine Amk 271 1 ⟨((.own 0) :: ((.i p1) :: ((.i p2) :: ((.clo (.func 44) [] []) :: (tp 4 ((.i (IntKind.i64.wrap (p1 + 1))) :: (tp 44 []))))))), [(.arr 65 3 (List.length p0) (flatD enc_GChange p0))], 1⟩ ?_
 refine AWP.block ?_
 refine AWP.loopI (α := Nat × (List GChange) × Int)
   (fun x => match x with | (fu_0, y0_0, y8_0) => (⟨((.own 0) :: ((.i p1) :: ((.i p2) :: ((.clo (.func 44) [] []) :: (tp 4 ((.i y8_0) :: (tp 44 []))))))), [(.arr 65 3 (List.length y0_0) (flatD enc_GChange y0_0))], 1⟩ : St))
   (fun x => match x with | (fu_0, y0_0, y8_0) => m_slices_insertionSortCmpFunc_tally_Change__tally_order_l0 p1 p2 fu_0 y0_0 y8_0 = some r)
   (fun x => match x with | (fu_0, y0_0, y8_0) => fu_0) (1152921504606846976, p0, (IntKind.i64.wrap (p1 + 1)))
   (Weak.toK 271 0 0 [0]) hm ?_
 rintro ⟨fu_0, y0_0, y8_0⟩ n_0 hm ih_0
 try dsimp only at hm ih_0 ⊢
 cases fu_0 with
 | zero => exact absurd hm (by unfold m_slices_insertionSortCmpFunc_tally_Change__tally_order_l0; simp)
 | succ fu_0 =>
  unfold m_slices_insertionSortCmpFunc_tally_Change__tally_order_l0 at hm
  refine AWP.seq ?_
  refine AWP.seq ?_
  refine AWP.text ?_
  refine Wy (.i y8_0) [] (Omv rfl) ?_
  refine Wy (.i p2) [] (Omv rfl) ?_
  refine Wy (.b (decide (y8_0 < p2))) [] (Obn rfl (fun _ => hb_lss (k := .i64))) ?_
  refine Walk.nil ?_
  refine Then.normal ?_
  refine Amk 16655 1 ⟨((.own 0) :: ((.i p1) :: ((.i p2) :: ((.clo (.func 44) [] []) :: (tp 4 ((.i y8_0) :: (tp 5 ((.b (decide (y8_0 < p2))) :: (tp 38 []))))))))), [(.arr 65 3 (List.length y0_0) (flatD enc_GChange y0_0))], 1⟩ ?_
  rcases tf_ (decide (y8_0 < p2)) with hc14_4 | hc14_4
  ·
   replace hm := cT hc14_4 hm
   refine AWP.if_ true (Eq.trans (by kernel_rfl) (lit_tf (b := decide (y8_0 < p2)) hc14_4)) ?_
   refine AWP.skip ?_
   refine Then.normal ?_
   refine Amk 271 1 ⟨((.own 0) :: ((.i p1) :: ((.i p2) :: ((.clo (.func 44) [] []) :: (tp 4 ((.i y8_0) :: (tp 44 []))))))), [(.arr 65 3 (List.length y0_0) (flatD enc_GChange y0_0))], 1⟩ ?_
   refine AWP.seq ?_
   refine AWP.block ?_
   refine AWP.seq ?_
   refine AWP.text ?_
   refine Wy (.i y8_0) [] (Omv rfl) ?_
   refine Wy (.i y8_0) [] (Omv rfl) ?_
   refine Walk.nil ?_
   refine Then.normal ?_
   refine Amk 783 1 ⟨((.own 0) :: ((.i p1) :: ((.i p2) :: ((.clo (.func 44) [] []) :: (tp 4 ((.i y8_0) :: ((.i y8_0) :: (tp 43 [])))))))), [(.arr 65 3 (List.length y0_0) (flatD enc_GChange y0_0))], 1⟩ ?_
   refine AWP.block ?_
   refine AWP.loopI (α := Nat × (List GChange) × Int)
     (fun x => match x with | (fu_1, y0_1, y9_1) => (⟨((.own 0) :: ((.i p1) :: ((.i p2) :: ((.clo (.func 44) [] []) :: (tp 4 ((.i y8_0) :: ((.i y9_1) :: (tp 43 [])))))))), [(.arr 65 3 (List.length y0_1) (flatD enc_GChange y0_1))], 1⟩ : St))
     (fun x => match x with | (fu_1, y0_1, y9_1) => m_slices_insertionSortCmpFunc_tally_Change__tally_order_l1 p1 y8_0 (fun y0_0 y8_0 => m_slices_insertionSortCmpFunc_tally_Change__tally_order_l0 p1 p2 fu_0 y0_0 y8_0) fu_1 y0_1 y9_1 = some r)
     (fun x => match x with | (fu_1, y0_1, y9_1) => fu_1) (1152921504606846976, y0_0, y8_0)
     (Weak.toK 783 0 0 [0]) hm ?_
   rintro ⟨fu_1, y0_1, y9_1⟩ n_1 hm ih_1
   try dsimp only at hm ih_1 ⊢
   cases fu_1 with
   | zero => exact absurd hm (by unfold m_slices_insertionSortCmpFunc_tally_Change__tally_order_l1; simp)
   | succ fu_1 =>
    unfold m_slices_insertionSortCmpFunc_tally_Change__tally_order_l1 at hm
    refine AWP.seq ?_
    refine AWP.seq ?_
    refine Adr ?_
    refine Wy (.i y9_1) [] (Omv rfl) ?_
    refine Wy (.i p1) [] (Omv rfl) ?_
    refine Wy (.b (decide (p1 < y9_1))) [] (Obn rfl (fun _ => hb_gtr (k := .i64))) ?_
    rcases tf_ (decide (p1 < y9_1)) with hq21_2 | hq21_2
    ·
     replace hm := cT hq21_2 hm
     refine Wy (.b true) [] (Ocs (lit_tf (b := decide (p1 < y9_1)) hq21_2) (Omv rfl)) ?_
     refine Wy (.clo (.func 44) [] []) [] (Omv rfl) ?_
     refine Wy (.own 0) [] (Omv rfl) ?_
     refine Wy (.i y9_1) [] (Omv rfl) ?_
     obtain ⟨x25_2, hx25_2, hm⟩ := bnd hm
     obtain ⟨hx25_2i, hx25_2g⟩ := geti_some hx25_2
     refine Wy (.loc 0 ((Int.toNat y9_1) * 3)) [] (Oia rfl enc_GChange_len hx25_2i hx25_2g) ?_
     refine Wy (.agg [(.i x25_2.Loc), (.i x25_2.Time), (.i x25_2.N)]) [] (Lr rfl enc_GChange_len hx25_2g) ?_
     refine Wy (.own 0) [] (Omv rfl) ?_
     refine Wy (.i y9_1) [] (Omv rfl) ?_
     refine Wy (.i (IntKind.i64.wrap (y9_1 - 1))) [] (Obn rfl (fun _ => hb_sub (k := .i64))) ?_
     obtain ⟨x30_2, hx30_2, hm⟩ := bnd hm
     obtain ⟨hx30_2i, hx30_2g⟩ := geti_some hx30_2
     refine Wy (.loc 0 ((Int.toNat (IntKind.i64.wrap (y9_1 - 1))) * 3)) [] (Oia rfl enc_GChange_len hx30_2i hx30_2g) ?_
     refine Wy (.agg [(.i x30_2.Loc), (.i x30_2.Time), (.i x30_2.N)]) [] (Lr rfl enc_GChange_len hx30_2g) ?_
     obtain ⟨r32_2, hr32_2, hm⟩ := bnd hm
     refine Wy (.i r32_2) [] (Ocf [] [] [] 0 (ok_tally_order x25_2 x30_2 r32_2 hr32_2) (fun a w => Try.call44 a w) rfl trivial) ?_
     refine Wy (.b (decide (r32_2 < 0))) [] (Obn rfl (fun _ => hb_lss (k := .i64))) ?_
     refine Wy (.b (decide (r32_2 < 0))) [] (OpT rfl) ?_
     refine Wdr ?_
     refine Then.normal ?_
     refine Amk 17179869967 1 ⟨((.own 0) :: ((.i p1) :: ((.i p2) :: ((.clo (.func 44) [] []) :: (tp 4 ((.i y8_0) :: ((.i y9_1) :: (tp 24 ((.b (decide (r32_2 < 0))) :: (tp 18 [])))))))))), [(.arr 65 3 (List.length y0_1) (flatD enc_GChange y0_1))], 1⟩ ?_
     rcases tf_ (decide (r32_2 < 0)) with hc34_5 | hc34_5
     ·
      replace hm := cT hc34_5 hm
      refine AWP.if_ true (Eq.trans (by kernel_rfl) (lit_tf (b := decide (r32_2 < 0)) hc34_5)) ?_
      refine AWP.skip ?_
      refine Then.normal ?_
      refine Amk 783 1 ⟨((.own 0) :: ((.i p1) :: ((.i p2) :: ((.clo (.func 44) [] []) :: (tp 4 ((.i y8_0) :: ((.i y9_1) :: (tp 43 [])))))))), [(.arr 65 3 (List.length y0_1) (flatD enc_GChange y0_1))], 1⟩ ?_
      refine AWP.seq ?_
      refine AWP.block ?_
      refine Adr ?_
      refine Wy (.own 0) [] (Omv rfl) ?_
      refine Wy (.i y9_1) [] (Omv rfl) ?_
      refine Wy (.own 0) [] (Omv rfl) ?_
      refine Wy (.i y9_1) [] (Omv rfl) ?_
      refine Wy (.i (IntKind.i64.wrap (y9_1 - 1))) [] (Obn rfl (fun _ => hb_sub (k := .i64))) ?_
      refine Wy (.own 0) [] (Omv rfl) ?_
      refine Wy (.i y9_1) [] (Omv rfl) ?_
      refine Wy (.i (IntKind.i64.wrap (y9_1 - 1))) [] (Obn rfl (fun _ => hb_sub (k := .i64))) ?_
      obtain ⟨x45_3, hx45_3, hm⟩ := bnd hm
      obtain ⟨hx45_3i, hx45_3g⟩ := geti_some hx45_3
      refine Wy (.loc 0 ((Int.toNat (IntKind.i64.wrap (y9_1 - 1))) * 3)) [] (Oia rfl enc_GChange_len hx45_3i hx45_3g) ?_
      refine Wy (.agg [(.i x45_3.Loc), (.i x45_3.Time), (.i x45_3.N)]) [] (Lr rfl enc_GChange_len hx45_3g) ?_
      refine Wy (.own 0) [] (Omv rfl) ?_
      refine Wy (.i y9_1) [] (Omv rfl) ?_
      obtain ⟨x49_3, hx49_3, hm⟩ := bnd hm
      obtain ⟨hx49_3i, hx49_3g⟩ := geti_some hx49_3
      refine Wy (.loc 0 ((Int.toNat y9_1) * 3)) [] (Oia rfl enc_GChange_len hx49_3i hx49_3g) ?_
      refine Wy (.agg [(.i x49_3.Loc), (.i x49_3.Time), (.i x49_3.N)]) [] (Lr rfl enc_GChange_len hx49_3g) ?_
      obtain ⟨x51_3, hx51_3, hm⟩ := bnd hm
      obtain ⟨hx51_3i, hx51_3g⟩ := geti_some hx51_3
      refine Wy (.loc 0 ((Int.toNat y9_1) * 3)) [] (Oia rfl enc_GChange_len hx51_3i hx51_3g) ?_
      refine Wy (.tup []) [(0, (.arr 65 3 (List.length (List.set y0_1 (Int.toNat y9_1) x45_3)) (flatD enc_GChange (List.set y0_1 (Int.toNat y9_1) x45_3))))] (Osr 0 rfl enc_GChange_len hx51_3g x45_3) ?_
      obtain ⟨x52_3, hx52_3, hm⟩ := bnd hm
      obtain ⟨hx52_3i, hx52_3g⟩ := geti_some hx52_3
      refine Wy (.loc 0 ((Int.toNat (IntKind.i64.wrap (y9_1 - 1))) * 3)) [] (Oia rfl enc_GChange_len hx52_3i hx52_3g) ?_
      refine Wy (.tup []) [(0, (.arr 65 3 (List.length (List.set (List.set y0_1 (Int.toNat y9_1) x45_3) (Int.toNat (IntKind.i64.wrap (y9_1 - 1))) x49_3)) (flatD enc_GChange (List.set (List.set y0_1 (Int.toNat y9_1) x45_3) (Int.toNat (IntKind.i64.wrap (y9_1 - 1))) x49_3))))] (Osr 0 rfl enc_GChange_len hx52_3g x49_3) ?_
      refine Wdr ?_
      refine InBlock.normal ?_
      refine Then.normal ?_
      refine Amk 783 1 ⟨((.own 0) :: ((.i p1) :: ((.i p2) :: ((.clo (.func 44) [] []) :: (tp 4 ((.i y8_0) :: ((.i y9_1) :: (tp 43 [])))))))), [(.arr 65 3 (List.length (List.set (List.set y0_1 (Int.toNat y9_1) x45_3) (Int.toNat (IntKind.i64.wrap (y9_1 - 1))) x49_3)) (flatD enc_GChange (List.set (List.set y0_1 (Int.toNat y9_1) x45_3) (Int.toNat (IntKind.i64.wrap (y9_1 - 1))) x49_3)))], 1⟩ ?_
      refine AWP.text ?_
      refine Wy (.i y9_1) [] (Omv rfl) ?_
      refine Wy (.i (IntKind.i64.wrap (y9_1 - 1))) [] (Obn rfl (fun _ => hb_sub (k := .i64))) ?_
      refine Wy (.i (IntKind.i64.wrap (y9_1 - 1))) [] (Omv rfl) ?_
      refine Walk.nil ?_
      refine RoundK.normal ?_
      exact Rounds.weak (Weak.toK 783 0 0 [0]) (ih_1 (fu_1, (List.set (List.set y0_1 (Int.toNat y9_1) x45_3) (Int.toNat (IntKind.i64.wrap (y9_1 - 1))) x49_3), (IntKind.i64.wrap (y9_1 - 1))) hm (Nat.lt_succ_self _))
     ·
      replace hm := cF hc34_5 hm
      refine AWP.if_ false (Eq.trans (by kernel_rfl) (lit_tf (b := decide (r32_2 < 0)) hc34_5)) ?_
      refine AWP.exit ?_
      refine Then.exit ?_
      refine RoundK.exit ?_
      refine InBlock.same ?_
      refine InBlock.normal ?_
      refine Then.normal ?_
      refine Amk 271 1 ⟨((.own 0) :: ((.i p1) :: ((.i p2) :: ((.clo (.func 44) [] []) :: (tp 4 ((.i y8_0) :: (tp 44 []))))))), [(.arr 65 3 (List.length y0_1) (flatD enc_GChange y0_1))], 1⟩ ?_
      refine AWP.text ?_
      refine Wy (.i y8_0) [] (Omv rfl) ?_
      refine Wy (.i (IntKind.i64.wrap (y8_0 + 1))) [] (Obn rfl (fun _ => hb_add (k := .i64))) ?_
      refine Wy (.i (IntKind.i64.wrap (y8_0 + 1))) [] (Omv rfl) ?_
      refine Walk.nil ?_
      refine RoundK.normal ?_
      exact Rounds.weak (Weak.toK 271 0 0 [0]) (ih_0 (fu_0, y0_1, (IntKind.i64.wrap (y8_0 + 1))) hm (Nat.lt_succ_self _))
    ·
     replace hm := cF hq21_2 hm
     refine Wy (.b false) [] (Ocs (lit_tf (b := decide (p1 < y9_1)) hq21_2) (Omv rfl)) ?_
     refine Wn ?_
     refine Wn ?_
     refine Wn ?_
     refine Wn ?_
     refine Wn ?_
     refine Wn ?_
     refine Wn ?_
     refine Wn ?_
     refine Wn ?_
     refine Wn ?_
     refine Wn ?_
     refine Wn ?_
     refine Wy (.b false) [] (OpF rfl) ?_
     refine Wdr ?_
     refine Then.normal ?_
     refine Amk 17179869967 1 ⟨((.own 0) :: ((.i p1) :: ((.i p2) :: ((.clo (.func 44) [] []) :: (tp 4 ((.i y8_0) :: ((.i y9_1) :: (tp 24 ((.b false) :: (tp 18 [])))))))))), [(.arr 65 3 (List.length y0_1) (flatD enc_GChange y0_1))], 1⟩ ?_
     refine AWP.if_ false (by kernel_rfl) ?_
     refine AWP.exit ?_
     refine Then.exit ?_
     refine RoundK.exit ?_
     refine InBlock.same ?_
     refine InBlock.normal ?_
     refine Then.normal ?_
     refine Amk 271 1 ⟨((.own 0) :: ((.i p1) :: ((.i p2) :: ((.clo (.func 44) [] []) :: (tp 4 ((.i y8_0) :: (tp 44 []))))))), [(.arr 65 3 (List.length y0_1) (flatD enc_GChange y0_1))], 1⟩ ?_
     refine AWP.text ?_
     refine Wy (.i y8_0) [] (Omv rfl) ?_
     refine Wy (.i (IntKind.i64.wrap (y8_0 + 1))) [] (Obn rfl (fun _ => hb_add (k := .i64))) ?_
     refine Wy (.i (IntKind.i64.wrap (y8_0 + 1))) [] (Omv rfl) ?_
     refine Walk.nil ?_
     refine RoundK.normal ?_
     exact Rounds.weak (Weak.toK 271 0 0 [0]) (ih_0 (fu_0, y0_1, (IntKind.i64.wrap (y8_0 + 1))) hm (Nat.lt_succ_self _))
  ·
   replace hm := cF hc14_4 hm
   refine AWP.if_ false (Eq.trans (by kernel_rfl) (lit_tf (b := decide (y8_0 < p2)) hc14_4)) ?_
   refine AWP.exit ?_
   refine Then.exit ?_
   refine RoundK.exit ?_
   refine InBlock.same ?_
   obtain rfl := Option.some.inj hm
   exact ret_n [0]

set_option maxRecDepth 20000 in
set_option maxHeartbeats 4000000 in
theorem ok_slices_swapRangeCmpFunc_tally_Change__tally_order (p0 : (List GChange)) (p1 : Int) (p2 : Int) (p3 : Int) (r : (List GChange)) (h : m_slices_swapRangeCmpFunc_tally_Change__tally_order p0 p1 p2 p3 = some r) : GCall Try.prog 59 [(.own 0), (.i p1), (.i p2), (.i p3), (.clo (.func 44) [] [])] [(.arr 65 3 (List.length p0) (flatD enc_GChange p0))] (.tup []) [(.arr 65 3 (List.length r) (flatD enc_GChange r))] := by
 refine GCall.of_body (n := 38) (rs := []) Try.func59 rfl rfl rfl ?_
 refine Ato ⟨((.own 0) :: ((.i p1) :: ((.i p2) :: ((.i p3) :: ((.clo (.func 44) [] []) :: (tu 33 [])))))), [(.arr 65 3 (List.length p0) (flatD enc_GChange p0))], 1⟩ ?_
 have hm := h
 unfold m_slices_swapRangeCmpFunc_tally_Change__tally_order at hm
 refine AWP.seq ?_
 refine AWP.text ?_
 refine Wy (.i 0) [] (Omv rfl) ?_
 refine Walk.nil ?_
 refine Then.normal ?_
 refine Amk 1039 1 ⟨((.own 0) :: ((.i p1) :: ((.i p2) :: ((.i p3) :: (tp 6 ((.i 0) :: (tp 27 []))))))), [(.arr 65 3 (List.length p0) (flatD enc_GChange p0))], 1⟩ ?_
 refine AWP.block ?_
 refine AWP.loopI (α := Nat × (List GChange) × Int)
   (fun x => match x with | (fu_0, y0_0, y10_0) => (⟨((.own 0) :: ((.i p1) :: ((.i p2) :: ((.i p3) :: (tp 6 ((.i y10_0) :: (tp 27 []))))))), [(.arr 65 3 (List.length y0_0) (flatD enc_GChange y0_0))], 1⟩ : St))
   (fun x => match x with | (fu_0, y0_0, y10_0) => m_slices_swapRangeCmpFunc_tally_Change__tally_order_l0 p1 p2 p3 fu_0 y0_0 y10_0 = some r)
   (fun x => match x with | (fu_0, y0_0, y10_0) => fu_0) (1152921504606846976, p0, 0)
   (Weak.toK 1039 0 0 [0]) hm ?_
 rintro ⟨fu_0, y0_0, y10_0⟩ n_0 hm ih_0
 try dsimp only at hm ih_0 ⊢
 cases fu_0 with
 | zero => exact absurd hm (by unfold m_slices_swapRangeCmpFunc_tally_Change__tally_order_l0; simp)
 | succ fu_0 =>
  unfold m_slices_swapRangeCmpFunc_tally_Change__tally_order_l0 at hm
  refine AWP.seq ?_
  refine AWP.seq ?_
  refine AWP.text ?_
  refine Wy (.i y10_0) [] (Omv rfl) ?_
  refine Wy (.i p3) [] (Omv rfl) ?_
  refine Wy (.b (decide (y10_0 < p3))) [] (Obn rfl (fun _ => hb_lss (k := .i64))) ?_
  refine Walk.nil ?_
  refine Then.normal ?_
  refine Amk 9231 1 ⟨((.own 0) :: ((.i p1) :: ((.i p2) :: ((.i p3) :: (tp 6 ((.i y10_0) :: (tp 2 ((.b (decide (y10_0 < p3))) :: (tp 24 []))))))))), [(.arr 65 3 (List.length y0_0) (flatD enc_GChange y0_0))], 1⟩ ?_
  rcases tf_ (decide (y10_0 < p3)) with hc13_2 | hc13_2
  ·
   replace hm := cT hc13_2 hm
   refine AWP.if_ true (Eq.trans (by kernel_rfl) (lit_tf (b := decide (y10_0 < p3)) hc13_2)) ?_
   refine AWP.skip ?_
   refine Then.normal ?_
   refine Amk 1039 1 ⟨((.own 0) :: ((.i p1) :: ((.i p2) :: ((.i p3) :: (tp 6 ((.i y10_0) :: (tp 27 []))))))), [(.arr 65 3 (List.length y0_0) (flatD enc_GChange y0_0))], 1⟩ ?_
   refine AWP.seq ?_
   refine AWP.block ?_
   refine Adr ?_
   refine Wy (.own 0) [] (Omv rfl) ?_
   refine Wy (.i p1) [] (Omv rfl) ?_
   refine Wy (.i y10_0) [] (Omv rfl) ?_
   refine Wy (.i (IntKind.i64.wrap (p1 + y10_0))) [] (Obn rfl (fun _ => hb_add (k := .i64))) ?_
   refine Wy (.own 0) [] (Omv rfl) ?_
   refine Wy (.i p2) [] (Omv rfl) ?_
   refine Wy (.i y10_0) [] (Omv rfl) ?_
   refine Wy (.i (IntKind.i64.wrap (p2 + y10_0))) [] (Obn rfl (fun _ => hb_add (k := .i64))) ?_
   refine Wy (.own 0) [] (Omv rfl) ?_
   refine Wy (.i p2) [] (Omv rfl) ?_
   refine Wy (.i y10_0) [] (Omv rfl) ?_
   refine Wy (.i (IntKind.i64.wrap (p2 + y10_0))) [] (Obn rfl (fun _ => hb_add (k := .i64))) ?_
   obtain ⟨x28_1, hx28_1, hm⟩ := bnd hm
   obtain ⟨hx28_1i, hx28_1g⟩ := geti_some hx28_1
   refine Wy (.loc 0 ((Int.toNat (IntKind.i64.wrap (p2 + y10_0))) * 3)) [] (Oia rfl enc_GChange_len hx28_1i hx28_1g) ?_
   refine Wy (.agg [(.i x28_1.Loc), (.i x28_1.Time), (.i x28_1.N)]) [] (Lr rfl enc_GChange_len hx28_1g) ?_
   refine Wy (.own 0) [] (Omv rfl) ?_
   refine Wy (.i p1) [] (Omv rfl) ?_
   refine Wy (.i y10_0) [] (Omv rfl) ?_
   refine Wy (.i (IntKind.i64.wrap (p1 + y10_0))) [] (Obn rfl (fun _ => hb_add (k := .i64))) ?_
   obtain ⟨x34_1, hx34_1, hm⟩ := bnd hm
   obtain ⟨hx34_1i, hx34_1g⟩ := geti_some hx34_1
   refine Wy (.loc 0 ((Int.toNat (IntKind.i64.wrap (p1 + y10_0))) * 3)) [] (Oia rfl enc_GChange_len hx34_1i hx34_1g) ?_
   refine Wy (.agg [(.i x34_1.Loc), (.i x34_1.Time), (.i x34_1.N)]) [] (Lr rfl enc_GChange_len hx34_1g) ?_
   obtain ⟨x36_1, hx36_1, hm⟩ := bnd hm
   obtain ⟨hx36_1i, hx36_1g⟩ := geti_some hx36_1
   refine Wy (.loc 0 ((Int.toNat (IntKind.i64.wrap (p1 + y10_0))) * 3)) [] (Oia rfl enc_GChange_len hx36_1i hx36_1g) ?_
   refine Wy (.tup []) [(0, (.arr 65 3 (List.length (List.set y0_0 (Int.toNat (IntKind.i64.wrap (p1 + y10_0))) x28_1)) (flatD enc_GChange (List.set y0_0 (Int.toNat (IntKind.i64.wrap (p1 + y10_0))) x28_1))))] (Osr 0 rfl enc_GChange_len hx36_1g x28_1) ?_
   obtain ⟨x37_1, hx37_1, hm⟩ := bnd hm
   obtain ⟨hx37_1i, hx37_1g⟩ := geti_some hx37_1
   refine Wy (.loc 0 ((Int.toNat (IntKind.i64.wrap (p2 + y10_0))) * 3)) [] (Oia rfl enc_GChange_len hx37_1i hx37_1g) ?_
   refine Wy (.tup []) [(0, (.arr 65 3 (List.length (List.set (List.set y0_0 (Int.toNat (IntKind.i64.wrap (p1 + y10_0))) x28_1) (Int.toNat (IntKind.i64.wrap (p2 + y10_0))) x34_1)) (flatD enc_GChange (List.set (List.set y0_0 (Int.toNat (IntKind.i64.wrap (p1 + y10_0))) x28_1) (Int.toNat (IntKind.i64.wrap (p2 + y10_0))) x34_1))))] (Osr 0 rfl enc_GChange_len hx37_1g x34_1) ?_
   refine Wdr ?_
   refine InBlock.normal ?_
   refine Then.normal ?_
   refine Amk 1039 1 ⟨((.own 0) :: ((.i p1) :: ((.i p2) :: ((.i p3) :: (tp 6 ((.i y10_0) :: (tp 27 []))))))), [(.arr 65 3 (List.length (List.set (List.set y0_0 (Int.toNat (IntKind.i64.wrap (p1 + y10_0))) x28_1) (Int.toNat (IntKind.i64.wrap (p2 + y10_0))) x34_1)) (flatD enc_GChange (List.set (List.set y0_0 (Int.toNat (IntKind.i64.wrap (p1 + y10_0))) x28_1) (Int.toNat (IntKind.i64.wrap (p2 + y10_0))) x34_1)))], 1⟩ ?_
   refine AWP.text ?_
   refine Wy (.i y10_0) [] (Omv rfl) ?_
   refine Wy (.i (IntKind.i64.wrap (y10_0 + 1))) [] (Obn rfl (fun _ => hb_add (k := .i64))) ?_
   refine Wy (.i (IntKind.i64.wrap (y10_0 + 1))) [] (Omv rfl) ?_
   refine Walk.nil ?_
   refine RoundK.normal ?_
   exact Rounds.weak (Weak.toK 1039 0 0 [0]) (ih_0 (fu_0, (List.set (List.set y0_0 (Int.toNat (IntKind.i64.wrap (p1 + y10_0))) x28_1) (Int.toNat (IntKind.i64.wrap (p2 + y10_0))) x34_1), (IntKind.i64.wrap (y10_0 + 1))) hm (Nat.lt_succ_self _))
  ·
   replace hm := cF hc13_2 hm
   refine AWP.if_ false (Eq.trans (by kernel_rfl) (lit_tf (b := decide (y10_0 < p3)) hc13_2)) ?_
   refine AWP.exit ?_
   refine Then.exit ?_
   refine RoundK.exit ?_
   refine InBlock.same ?_
   obtain rfl := Option.some.inj hm
   exact ret_n [0]

set_option maxRecDepth 20000 in
set_option maxHeartbeats 4000000 in
theorem ok_slices_rotateCmpFunc_tally_Change__tally_order (p0 : (List GChange)) (p1 : Int) (p2 : Int) (p3 : Int) (r : (List GChange)) (h : m_slices_rotateCmpFunc_tally_Change__tally_order p0 p1 p2 p3 = some r) : GCall Try.prog 58 [(.own 0), (.i p1), (.i p2), (.i p3), (.clo (.func 44) [] [])] [(.arr 65 3 (List.length p0) (flatD enc_GChange p0))] (.tup []) [(.arr 65 3 (List.length r) (flatD enc_GChange r))] := by
 refine GCall.of_body (n := 58) (rs := []) Try.func58 rfl rfl rfl ?_
 refine Ato ⟨((.own 0) :: ((.i p1) :: ((.i p2) :: ((.i p3) :: ((.clo (.func 44) [] []) :: (tu 53 [])))))), [(.arr 65 3 (List.length p0) (flatD enc_GChange p0))], 1⟩ ?_
 have hm := h
 unfold m_slices_rotateCmpFunc_tally_Change__tally_order at hm
 refine AWP.seq ?_
 refine AWP.text ?_
 refine Wy (.i p2) [] (Omv rfl) ?_
 refine Wy (.i p1) [] (Omv rfl) ?_
 refine Wy (.i (IntKind.i64.wrap (p2 - p1))) [] (Obn rfl (fun _ => hb_sub (k := .i64))) ?_
 refine Wy (.i (IntKind.i64.wrap (p2 - p1))) [] (Omv rfl) ?_
 refine Walk.nil ?_
 refine Then.normal ?_
 refine Amk 1053 1 ⟨((.own 0) :: (tp 1 ((.i p2) :: ((.i p3) :: ((.clo (.func 44) [] []) :: (tp 5 ((.i (IntKind.i64.wrap (p2 - p1))) :: (tp 47 [])))))))), [(.arr 65 3 (List.length p0) (flatD enc_GChange p0))], 1⟩ ?_
 refine AWP.seq ?_
 refine AWP.text ?_
 refine Wy (.i p3) [] (Omv rfl) ?_
 refine Wy (.i p2) [] (Omv rfl) ?_
 refine Wy (.i (IntKind.i64.wrap (p3 - p2))) [] (Obn rfl (fun _ => hb_sub (k := .i64))) ?_
 refine Wy (.i (IntKind.i64.wrap (p3 - p2))) [] (Omv rfl) ?_
 refine Walk.nil ?_
 refine Then.normal ?_
 refine Amk 3093 1 ⟨((.own 0) :: (tp 1 ((.i p2) :: (tp 1 ((.clo (.func 44) [] []) :: (tp 5 ((.i (IntKind.i64.wrap (p2 - p1))) :: ((.i (IntKind.i64.wrap (p3 - p2))) :: (tp 46 []))))))))), [(.arr 65 3 (List.length p0) (flatD enc_GChange p0))], 1⟩ ?_
 refine AWP.seq ?_
 refine AWP.block ?_
 refine AWP.loopI (α := Nat × (List GChange) × Int × Int)
   (fun x => match x with | (fu_0, y0_0, y10_0, y11_0) => (⟨((.own 0) :: (tp 1 ((.i p2) :: (tp 1 ((.clo (.func 44) [] []) :: (tp 5 ((.i y10_0) :: ((.i y11_0) :: (tp 46 []))))))))), [(.arr 65 3 (List.length y0_0) (flatD enc_GChange y0_0))], 1⟩ : St))
   (fun x => match x with | (fu_0, y0_0, y10_0, y11_0) => m_slices_rotateCmpFunc_tally_Change__tally_order_l0 p2 fu_0 y0_0 y10_0 y11_0 = some r)
   (fun x => match x with | (fu_0, y0_0, y10_0, y11_0) => fu_0) (1152921504606846976, p0, (IntKind.i64.wrap (p2 - p1)), (IntKind.i64.wrap (p3 - p2)))
   (Weak.toK 3093 0 0 [0]) hm ?_
 rintro ⟨fu_0, y0_0, y10_0, y11_0⟩ n_0 hm ih_0
 try dsimp only at hm ih_0 ⊢
 cases fu_0 with
 | zero => exact absurd hm (by unfold m_slices_rotateCmpFunc_tally_Change__tally_order_l0; simp)
 | succ fu_0 =>
  unfold m_slices_rotateCmpFunc_tally_Change__tally_order_l0 at hm
  refine AWP.seq ?_
  refine AWP.seq ?_
  refine AWP.text ?_
  refine Wy (.i y10_0) [] (Omv rfl) ?_
  refine Wy (.i y11_0) [] (Omv rfl) ?_
  refine Wy (.b (decide (y10_0 ≠ y11_0))) [] (Obn rfl (fun _ => hb_neq (k := .i64))) ?_
  refine Walk.nil ?_
  refine Then.normal ?_
  refine Amk 1051669 1 ⟨((.own 0) :: (tp 1 ((.i p2) :: (tp 1 ((.clo (.func 44) [] []) :: (tp 5 ((.i y10_0) :: ((.i y11_0) :: (tp 8 ((.b (decide (y10_0 ≠ y11_0))) :: (tp 37 []))))))))))), [(.arr 65 3 (List.length y0_0) (flatD enc_GChange y0_0))], 1⟩ ?_
  rcases tf_ (decide (y10_0 ≠ y11_0)) with hc20_4 | hc20_4
  ·
   replace hm := cT hc20_4 hm
   refine AWP.if_ true (Eq.trans (by kernel_rfl) (lit_tf (b := decide (y10_0 ≠ y11_0)) hc20_4)) ?_
   refine AWP.skip ?_
   refine Then.normal ?_
   refine Amk 3093 1 ⟨((.own 0) :: (tp 1 ((.i p2) :: (tp 1 ((.clo (.func 44) [] []) :: (tp 5 ((.i y10_0) :: ((.i y11_0) :: (tp 46 []))))))))), [(.arr 65 3 (List.length y0_0) (flatD enc_GChange y0_0))], 1⟩ ?_
   refine AWP.block ?_
   refine AWP.seq ?_
   refine AWP.text ?_
   refine Wy (.i y10_0) [] (Omv rfl) ?_
   refine Wy (.i y11_0) [] (Omv rfl) ?_
   refine Wy (.b (decide (y11_0 < y10_0))) [] (Obn rfl (fun _ => hb_gtr (k := .i64))) ?_
   refine Walk.nil ?_
   refine Then.normal ?_
   refine Amk 8391701 1 ⟨((.own 0) :: (tp 1 ((.i p2) :: (tp 1 ((.clo (.func 44) [] []) :: (tp 5 ((.i y10_0) :: ((.i y11_0) :: (tp 11 ((.b (decide (y11_0 < y10_0))) :: (tp 34 []))))))))))), [(.arr 65 3 (List.length y0_0) (flatD enc_GChange y0_0))], 1⟩ ?_
   rcases tf_ (decide (y11_0 < y10_0)) with hc23_5 | hc23_5
   ·
    replace hm := cT hc23_5 hm
    refine AWP.if_ true (Eq.trans (by kernel_rfl) (lit_tf (b := decide (y11_0 < y10_0)) hc23_5)) ?_
    refine AWP.seq ?_
    refine AWP.text ?_
    refine Wy (.own 0) [] (Omv rfl) ?_
    refine Wy (.i p2) [] (Omv rfl) ?_
    refine Wy (.i y10_0) [] (Omv rfl) ?_
    refine Wy (.i (IntKind.i64.wrap (p2 - y10_0))) [] (Obn rfl (fun _ => hb_sub (k := .i64))) ?_
    refine Wy (.i p2) [] (Omv rfl) ?_
    refine Wy (.i y11_0) [] (Omv rfl) ?_
    refine Wy (.clo (.func 44) [] []) [] (Omv rfl) ?_
    obtain ⟨r31_1, hr31_1, hm⟩ := bnd hm
    refine Wy (.tup []) [(0, (.arr 65 3 (List.length r31_1) (flatD enc_GChange r31_1)))] (Ocf [0] [] [] 0 (ok_slices_swapRangeCmpFunc_tally_Change__tally_order y0_0 (IntKind.i64.wrap (p2 - y10_0)) p2 y11_0 r31_1 hr31_1) (fun a w => Try.call59 a w) rfl ⟨rfl, trivial⟩) ?_
    refine Walk.nil ?_
    refine Then.normal ?_
    refine Amk 3093 1 ⟨((.own 0) :: (tp 1 ((.i p2) :: (tp 1 ((.clo (.func 44) [] []) :: (tp 5 ((.i y10_0) :: ((.i y11_0) :: (tp 46 []))))))))), [(.arr 65 3 (List.length r31_1) (flatD enc_GChange r31_1))], 1⟩ ?_
    refine AWP.text ?_
    refine Wy (.i y10_0) [] (Omv rfl) ?_
    refine Wy (.i y11_0) [] (Omv rfl) ?_
    refine Wy (.i (IntKind.i64.wrap (y10_0 - y11_0))) [] (Obn rfl (fun _ => hb_sub (k := .i64))) ?_
    refine Wy (.i (IntKind.i64.wrap (y10_0 - y11_0))) [] (Omv rfl) ?_
    refine Walk.nil ?_
    refine InBlock.normal ?_
    refine RoundK.normal ?_
    exact Rounds.weak (Weak.toK 3093 0 0 [0]) (ih_0 (fu_0, r31_1, (IntKind.i64.wrap (y10_0 - y11_0)), y11_0) hm (Nat.lt_succ_self _))
   ·
    replace hm := cF hc23_5 hm
    refine AWP.if_ false (Eq.trans (by kernel_rfl) (lit_tf (b := decide (y11_0 < y10_0)) hc23_5)) ?_
    refine AWP.seq ?_
    refine AWP.text ?_
    refine Wy (.own 0) [] (Omv rfl) ?_
    refine Wy (.i p2) [] (Omv rfl) ?_
    refine Wy (.i y10_0) [] (Omv rfl) ?_
    refine Wy (.i (IntKind.i64.wrap (p2 - y10_0))) [] (Obn rfl (fun _ => hb_sub (k := .i64))) ?_
    refine Wy (.i p2) [] (Omv rfl) ?_
    refine Wy (.i y11_0) [] (Omv rfl) ?_
    refine Wy (.i (IntKind.i64.wrap (p2 + y11_0))) [] (Obn rfl (fun _ => hb_add (k := .i64))) ?_
    refine Wy (.i y10_0) [] (Omv rfl) ?_
    refine Wy (.i (IntKind.i64.wrap ((IntKind.i64.wrap (p2 + y11_0)) - y10_0))) [] (Obn rfl (fun _ => hb_sub (k := .i64))) ?_
    refine Wy (.i y10_0) [] (Omv rfl) ?_
    refine Wy (.clo (.func 44) [] []) [] (Omv rfl) ?_
    obtain ⟨r46_2, hr46_2, hm⟩ := bnd hm
    refine Wy (.tup []) [(0, (.arr 65 3 (List.length r46_2) (flatD enc_GChange r46_2)))] (Ocf [0] [] [] 0 (ok_slices_swapRangeCmpFunc_tally_Change__tally_order y0_0 (IntKind.i64.wrap (p2 - y10_0)) (IntKind.i64.wrap ((IntKind.i64.wrap (p2 + y11_0)) - y10_0)) y10_0 r46_2 hr46_2) (fun a w => Try.call59 a w) rfl ⟨rfl, trivial⟩) ?_
    refine Walk.nil ?_
    refine Then.normal ?_
    refine Amk 3093 1 ⟨((.own 0) :: (tp 1 ((.i p2) :: (tp 1 ((.clo (.func 44) [] []) :: (tp 5 ((.i y10_0) :: ((.i y11_0) :: (tp 46 []))))))))), [(.arr 65 3 (List.length r46_2) (flatD enc_GChange r46_2))], 1⟩ ?_
    refine AWP.text ?_
    refine Wy (.i y11_0) [] (Omv rfl) ?_
    refine Wy (.i y10_0) [] (Omv rfl) ?_
    refine Wy (.i (IntKind.i64.wrap (y11_0 - y10_0))) [] (Obn rfl (fun _ => hb_sub (k := .i64))) ?_
    refine Wy (.i (IntKind.i64.wrap (y11_0 - y10_0))) [] (Omv rfl) ?_
    refine Walk.nil ?_
    refine InBlock.normal ?_
    refine RoundK.normal ?_
    exact Rounds.weak (Weak.toK 3093 0 0 [0]) (ih_0 (fu_0, r46_2, y10_0, (IntKind.i64.wrap (y11_0 - y10_0))) hm (Nat.lt_succ_self _))
  ·
   replace hm := cF hc20_4 hm
   refine AWP.if_ false (Eq.trans (by kernel_rfl) (lit_tf (b := decide (y10_0 ≠ y11_0)) hc20_4)) ?_
   refine AWP.exit ?_
   refine Then.exit ?_
   refine RoundK.exit ?_
   refine InBlock.same ?_
   refine Then.normal ?_
   refine Amk 1045 1 ⟨((.own 0) :: (tp 1 ((.i p2) :: (tp 1 ((.clo (.func 44) [] []) :: (tp 5 ((.i y10_0) :: (tp 47 [])))))))), [(.arr 65 3 (List.length y0_0) (flatD enc_GChange y0_0))], 1⟩ ?_
   refine AWP.text ?_
   refine Wy (.own 0) [] (Omv rfl) ?_
   refine Wy (.i p2) [] (Omv rfl) ?_
   refine Wy (.i y10_0) [] (Omv rfl) ?_
   refine Wy (.i (IntKind.i64.wrap (p2 - y10_0))) [] (Obn rfl (fun _ => hb_sub (k := .i64))) ?_
   refine Wy (.i p2) [] (Omv rfl) ?_
   refine Wy (.i y10_0) [] (Omv rfl) ?_
   refine Wy (.clo (.func 44) [] []) [] (Omv rfl) ?_
   obtain ⟨r57_3, hr57_3, hm⟩ := bnd hm
   refine Wy (.tup []) [(0, (.arr 65 3 (List.length r57_3) (flatD enc_GChange r57_3)))] (Ocf [0] [] [] 0 (ok_slices_swapRangeCmpFunc_tally_Change__tally_order y0_0 (IntKind.i64.wrap (p2 - y10_0)) p2 y10_0 r57_3 hr57_3) (fun a w => Try.call59 a w) rfl ⟨rfl, trivial⟩) ?_
   refine Walk.nil ?_
   obtain rfl := Option.some.inj hm
   exact ret_n [0]

set_option maxRecDepth 20000 in
set_option maxHeartbeats 4000000 in
theorem ok_slices_symMergeCmpFunc_tally_Change__tally_order : ∀ (fuR : Nat) (p0 : (List GChange)) (p1 : Int) (p2 : Int) (p3 : Int) (r : (List GChange)) (h : m_slices_symMergeCmpFunc_tally_Change__tally_order fuR p0 p1 p2 p3 = some r), GCall Try.prog 56 [(.own 0), (.i p1), (.i p2), (.i p3), (.clo (.func 44) [] [])] [(.arr 65 3 (List.length p0) (flatD enc_GChange p0))] (.tup []) [(.arr 65 3 (List.length r) (flatD enc_GChange r))] := by
 intro fuR; induction fuR with
 | zero => intro p0 p1 p2 p3 r h; exact absurd h (by unfold m_slices_symMergeCmpFunc_tally_Change__tally_order; simp)
 | succ fuR ih =>
 intro p0 p1 p2 p3 r h
 refine GCall.of_body (n := 220) (rs := []) Try.func56 rfl rfl rfl ?_
 refine Ato ⟨((.own 0) :: ((.i p1) :: ((.i p2) :: ((.i p3) :: ((.clo (.func 44) [] []) :: (tu 215 [])))))), [(.arr 65 3 (List.length p0) (flatD enc_GChange p0))], 1⟩ ?_
 have hm := h
 unfold m_slices_symMergeCmpFunc_tally_Change__tally_order at hm
 refine AWP.seq ?_
 refine AWP.seq ?_
 refine AWP.text ?_
 refine Wy (.i p2) [] (Omv rfl) ?_
 refine Wy (.i p1) [] (Omv rfl) ?_
 refine Wy (.i (IntKind.i64.wrap (p2 - p1))) [] (Obn rfl (fun _ => hb_sub (k := .i64))) ?_
 refine Wy (.b (decide ((IntKind.i64.wrap (p2 - p1)) = 1))) [] (Obn rfl (fun _ => hb_eql (k := .i64))) ?_
 refine Walk.nil ?_
 refine Then.normal ?_
 refine Amk 268435487 1 ⟨((.own 0) :: ((.i p1) :: ((.i p2) :: ((.i p3) :: ((.clo (.func 44) [] []) :: (tp 23 ((.b (decide ((IntKind.i64.wrap (p2 - p1)) = 1))) :: (tp 191 [])))))))), [(.arr 65 3 (List.length p0) (flatD enc_GChange p0))], 1⟩ ?_
 rcases tf_ (decide ((IntKind.i64.wrap (p2 - p1)) = 1)) with hc28_27 | hc28_27
 ·
  replace hm := cT hc28_27 hm
  refine AWP.if_ true (Eq.trans (by kernel_rfl) (lit_tf (b := decide ((IntKind.i64.wrap (p2 - p1)) = 1)) hc28_27)) ?_
  refine AWP.seq ?_
  refine AWP.text ?_
  refine Wy (.i p2) [] (Omv rfl) ?_
  refine Wy (.i p2) [] (Omv rfl) ?_
  refine Walk.nil ?_
  refine Then.normal ?_
  refine Amk 1051 1 ⟨((.own 0) :: ((.i p1) :: (tp 1 ((.i p3) :: ((.clo (.func 44) [] []) :: (tp 5 ((.i p2) :: (tp 209 [])))))))), [(.arr 65 3 (List.length p0) (flatD enc_GChange p0))], 1⟩ ?_
  refine AWP.seq ?_
  refine AWP.text ?_
  refine Wy (.i p3) [] (Omv rfl) ?_
  refine Wy (.i p3) [] (Omv rfl) ?_
  refine Walk.nil ?_
  refine Then.normal ?_
  refine Amk 3091 1 ⟨((.own 0) :: ((.i p1) :: (tp 2 ((.clo (.func 44) [] []) :: (tp 5 ((.i p2) :: ((.i p3) :: (tp 208 [])))))))), [(.arr 65 3 (List.length p0) (flatD enc_GChange p0))], 1⟩ ?_
  refine AWP.seq ?_
  refine AWP.block ?_
  refine AWP.loopI (α := Nat × Int × Int)
    (fun x => match x with | (fu_0, y10_0, y11_0) => (⟨((.own 0) :: ((.i p1) :: (tp 2 ((.clo (.func 44) [] []) :: (tp 5 ((.i y10_0) :: ((.i y11_0) :: (tp 208 [])))))))), [(.arr 65 3 (List.length p0) (flatD enc_GChange p0))], 1⟩ : St))
    (fun x => match x with | (fu_0, y10_0, y11_0) => m_slices_symMergeCmpFunc_tally_Change__tally_order_l0 p0 p1 fu_0 y10_0 y11_0 = some r)
    (fun x => match x with | (fu_0, y10_0, y11_0) => fu_0) (1152921504606846976, p2, p3)
    (Weak.toK 3091 0 0 [0]) hm ?_
  rintro ⟨fu_0, y10_0, y11_0⟩ n_0 hm ih_0
  try dsimp only at hm ih_0 ⊢
  cases fu_0 with
  | zero => exact absurd hm (by unfold m_slices_symMergeCmpFunc_tally_Change__tally_order_l0; simp)
  | succ fu_0 =>
   unfold m_slices_symMergeCmpFunc_tally_Change__tally_order_l0 at hm
   refine AWP.seq ?_
   refine AWP.seq ?_
   refine AWP.text ?_
   refine Wy (.i y10_0) [] (Omv rfl) ?_
   refine Wy (.i y11_0) [] (Omv rfl) ?_
   refine Wy (.b (decide (y10_0 < y11_0))) [] (Obn rfl (fun _ => hb_lss (k := .i64))) ?_
   refine Walk.nil ?_
   refine Then.normal ?_
   refine Amk 8589937683 1 ⟨((.own 0) :: ((.i p1) :: (tp 2 ((.clo (.func 44) [] []) :: (tp 5 ((.i y10_0) :: ((.i y11_0) :: (tp 21 ((.b (decide (y10_0 < y11_0))) :: (tp 186 [])))))))))), [(.arr 65 3 (List.length p0) (flatD enc_GChange p0))], 1⟩ ?_
   rcases tf_ (decide (y10_0 < y11_0)) with hc33_28 | hc33_28
   ·
    replace hm := cT hc33_28 hm
    refine AWP.if_ true (Eq.trans (by kernel_rfl) (lit_tf (b := decide (y10_0 < y11_0)) hc33_28)) ?_
    refine AWP.skip ?_
    refine Then.normal ?_
    refine Amk 3091 1 ⟨((.own 0) :: ((.i p1) :: (tp 2 ((.clo (.func 44) [] []) :: (tp 5 ((.i y10_0) :: ((.i y11_0) :: (tp 208 [])))))))), [(.arr 65 3 (List.length p0) (flatD enc_GChange p0))], 1⟩ ?_
    refine AWP.block ?_
    refine AWP.seq ?_
    refine AWP.text ?_
    refine Wy (.i y10_0) [] (Omv rfl) ?_
    refine Wy (.i y11_0) [] (Omv rfl) ?_
    refine Wy (.i (IntKind.i64.wrap (y10_0 + y11_0))) [] (Obn rfl (fun _ => hb_add (k := .i64))) ?_
    refine Wy (.d (.lit (.int .u64 (IntKind.u64.wrap (IntKind.i64.wrap (y10_0 + y11_0)))))) [] (Ocs (by kernel_rfl) (op_convert rfl (a1 := .int .i64 (IntKind.i64.wrap (y10_0 + y11_0))) (by kernel_rfl) (run_conv (ds := .int .i64) (k' := .u64) (by kernel_rfl) (by kernel_rfl)))) ?_
    refine Wy (.d (.lit (.int .u64 (Int.fdiv (IntKind.u64.wrap (IntKind.i64.wrap (y10_0 + y11_0))) (2 ^ 1))))) [] (Ocs (by kernel_rfl) (op_bin rfl (a1 := .int .u64 (IntKind.u64.wrap (IntKind.i64.wrap (y10_0 + y11_0)))) (a2 := .int .u64 1) (by kernel_rfl) (by kernel_rfl) (fun _ => hb_shr (n := 1) (by decide) rfl))) ?_
    refine Wy (.i (IntKind.i64.wrap (Int.fdiv (IntKind.u64.wrap (IntKind.i64.wrap (y10_0 + y11_0))) (2 ^ 1)))) [] (Ocs (by kernel_rfl) (op_convert rfl (a1 := .int .u64 (Int.fdiv (IntKind.u64.wrap (IntKind.i64.wrap (y10_0 + y11_0))) (2 ^ 1))) (by kernel_rfl) (run_conv (ds := .int .u64) (k' := .i64) (by kernel_rfl) (by kernel_rfl)))) ?_
    refine Wy (.i (IntKind.i64.wrap (Int.fdiv (IntKind.u64.wrap (IntKind.i64.wrap (y10_0 + y11_0))) (2 ^ 1)))) [] (Omv rfl) ?_
    refine Walk.nil ?_
    refine Then.normal ?_
    refine Amk 7187 1 ⟨((.own 0) :: ((.i p1) :: (tp 2 ((.clo (.func 44) [] []) :: (tp 5 ((.i y10_0) :: ((.i y11_0) :: ((.i (IntKind.i64.wrap (Int.fdiv (IntKind.u64.wrap (IntKind.i64.wrap (y10_0 + y11_0))) (2 ^ 1)))) :: (tp 207 []))))))))), [(.arr 65 3 (List.length p0) (flatD enc_GChange p0))], 1⟩ ?_
    refine AWP.seq ?_
    refine Adr ?_
    refine Wy (.clo (.func 44) [] []) [] (Omv rfl) ?_
    refine Wy (.own 0) [] (Omv rfl) ?_
    refine Wy (.i (IntKind.i64.wrap (Int.fdiv (IntKind.u64.wrap (IntKind.i64.wrap (y10_0 + y11_0))) (2 ^ 1)))) [] (Omv rfl) ?_
    obtain ⟨x43_2, hx43_2, hm⟩ := bnd hm
    obtain ⟨hx43_2i, hx43_2g⟩ := geti_some hx43_2
    refine Wy (.loc 0 ((Int.toNat (IntKind.i64.wrap (Int.fdiv (IntKind.u64.wrap (IntKind.i64.wrap (y10_0 + y11_0))) (2 ^ 1)))) * 3)) [] (Oia rfl enc_GChange_len hx43_2i hx43_2g) ?_
    refine Wy (.agg [(.i x43_2.Loc), (.i x43_2.Time), (.i x43_2.N)]) [] (Lr rfl enc_GChange_len hx43_2g) ?_
    refine Wy (.own 0) [] (Omv rfl) ?_
    refine Wy (.i p1) [] (Omv rfl) ?_
    obtain ⟨x47_2, hx47_2, hm⟩ := bnd hm
    obtain ⟨hx47_2i, hx47_2g⟩ := geti_some hx47_2
    refine Wy (.loc 0 ((Int.toNat p1) * 3)) [] (Oia rfl enc_GChange_len hx47_2i hx47_2g) ?_
    refine Wy (.agg [(.i x47_2.Loc), (.i x47_2.Time), (.i x47_2.N)]) [] (Lr rfl enc_GChange_len hx47_2g) ?_
    obtain ⟨r49_2, hr49_2, hm⟩ := bnd hm
    refine Wy (.i r49_2) [] (Ocf [] [] [] 0 (ok_tally_order x43_2 x47_2 r49_2 hr49_2) (fun a w => Try.call44 a w) rfl trivial) ?_
    refine Wy (.b (decide (r49_2 < 0))) [] (Obn rfl (fun _ => hb_lss (k := .i64))) ?_
    refine Wdr ?_
    refine Then.normal ?_
    refine Amk 1125899906849811 1 ⟨((.own 0) :: ((.i p1) :: (tp 2 ((.clo (.func 44) [] []) :: (tp 5 ((.i y10_0) :: ((.i y11_0) :: ((.i (IntKind.i64.wrap (Int.fdiv (IntKind.u64.wrap (IntKind.i64.wrap (y10_0 + y11_0))) (2 ^ 1)))) :: (tp 37 ((.b (decide (r49_2 < 0))) :: (tp 169 []))))))))))), [(.arr 65 3 (List.length p0) (flatD enc_GChange p0))], 1⟩ ?_
    rcases tf_ (decide (r49_2 < 0)) with hc50_29 | hc50_29
    ·
     replace hm := cT hc50_29 hm
     refine AWP.if_ true (Eq.trans (by kernel_rfl) (lit_tf (b := decide (r49_2 < 0)) hc50_29)) ?_
     refine AWP.text ?_
     refine Wy (.i (IntKind.i64.wrap (Int.fdiv (IntKind.u64.wrap (IntKind.i64.wrap (y10_0 + y11_0))) (2 ^ 1)))) [] (Omv rfl) ?_
     obtain ⟨v52_3, hv52_3, hm⟩ := bnd hm; replace hv52_3 := Option.some.inj hv52_3
     refine Wy (.i v52_3) [] (Ocs (congrArg (fun z => A.d (.lit (.int .i64 z))) hv52_3) (Obn rfl (fun _ => hb_add (k := .i64)))) ?_
     refine Wy (.i v52_3) [] (Omv rfl) ?_
     refine Walk.nil ?_
     refine InBlock.normal ?_
     refine RoundK.normal ?_
     exact Rounds.weak (Weak.toK 3091 0 0 [0]) (ih_0 (fu_0, v52_3, y11_0) hm (Nat.lt_succ_self _))
    ·
     replace hm := cF hc50_29 hm
     refine AWP.if_ false (Eq.trans (by kernel_rfl) (lit_tf (b := decide (r49_2 < 0)) hc50_29)) ?_
     refine AWP.text ?_
     refine Wy (.i (IntKind.i64.wrap (Int.fdiv (IntKind.u64.wrap (IntKind.i64.wrap (y10_0 + y11_0))) (2 ^ 1)))) [] (Omv rfl) ?_
     refine Wy (.i (IntKind.i64.wrap (Int.fdiv (IntKind.u64.wrap (IntKind.i64.wrap (y10_0 + y11_0))) (2 ^ 1)))) [] (Omv rfl) ?_
     refine Walk.nil ?_
     refine InBlock.normal ?_
     refine RoundK.normal ?_
     exact Rounds.weak (Weak.toK 3091 0 0 [0]) (ih_0 (fu_0, y10_0, (IntKind.i64.wrap (Int.fdiv (IntKind.u64.wrap (IntKind.i64.wrap (y10_0 + y11_0))) (2 ^ 1)))) hm (Nat.lt_succ_self _))
   ·
    replace hm := cF hc33_28 hm
    refine AWP.if_ false (Eq.trans (by kernel_rfl) (lit_tf (b := decide (y10_0 < y11_0)) hc33_28)) ?_
    refine AWP.exit ?_
    refine Then.exit ?_
    refine RoundK.exit ?_
    refine InBlock.same ?_
    refine Then.normal ?_
    refine Amk 1027 1 ⟨((.own 0) :: ((.i p1) :: (tp 8 ((.i y10_0) :: (tp 209 []))))), [(.arr 65 3 (List.length p0) (flatD enc_GChange p0))], 1⟩ ?_
    refine AWP.seq ?_
    refine AWP.seq ?_
    refine AWP.text ?_
    refine Wy (.i p1) [] (Omv rfl) ?_
    refine Wy (.i p1) [] (Omv rfl) ?_
    refine Walk.nil ?_
    refine Then.normal ?_
    refine Amk 9217 1 ⟨((.own 0) :: (tp 9 ((.i y10_0) :: (tp 2 ((.i p1) :: (tp 206 [])))))), [(.arr 65 3 (List.length p0) (flatD enc_GChange p0))], 1⟩ ?_
    refine AWP.block ?_
    refine AWP.loopI (α := Nat × (List GChange) × Int)
      (fun x => match x with | (fu_4, y0_4, y13_4) => (⟨((.own 0) :: (tp 9 ((.i y10_0) :: (tp 2 ((.i y13_4) :: (tp 206 [])))))), [(.arr 65 3 (List.length y0_4) (flatD enc_GChange y0_4))], 1⟩ : St))
      (fun x => match x with | (fu_4, y0_4, y13_4) => m_slices_symMergeCmpFunc_tally_Change__tally_order_l4 y10_0 fu_4 y0_4 y13_4 = some r)
      (fun x => match x with | (fu_4, y0_4, y13_4) => fu_4) (1152921504606846976, p0, p1)
      (Weak.toK 9217 0 0 [0]) hm ?_
    rintro ⟨fu_4, y0_4, y13_4⟩ n_4 hm ih_4
    try dsimp only at hm ih_4 ⊢
    cases fu_4 with
    | zero => exact absurd hm (by unfold m_slices_symMergeCmpFunc_tally_Change__tally_order_l4; simp)
    | succ fu_4 =>
     unfold m_slices_symMergeCmpFunc_tally_Change__tally_order_l4 at hm
     refine AWP.seq ?_
     refine AWP.seq ?_
     refine AWP.text ?_
     refine Wy (.i y13_4) [] (Omv rfl) ?_
     refine Wy (.i y10_0) [] (Omv rfl) ?_
     refine Wy (.i (IntKind.i64.wrap (y10_0 - 1))) [] (Obn rfl (fun _ => hb_sub (k := .i64))) ?_
     refine Wy (.b (decide (y13_4 < (IntKind.i64.wrap (y10_0 - 1))))) [] (Obn rfl (fun _ => hb_lss (k := .i64))) ?_
     refine Walk.nil ?_
     refine Then.normal ?_
     refine Amk 288230376151720961 1 ⟨((.own 0) :: (tp 9 ((.i y10_0) :: (tp 2 ((.i y13_4) :: (tp 44 ((.b (decide (y13_4 < (IntKind.i64.wrap (y10_0 - 1))))) :: (tp 161 [])))))))), [(.arr 65 3 (List.length y0_4) (flatD enc_GChange y0_4))], 1⟩ ?_
     rcases tf_ (decide (y13_4 < (IntKind.i64.wrap (y10_0 - 1)))) with hc58_30 | hc58_30
     ·
      replace hm := cT hc58_30 hm
      refine AWP.if_ true (Eq.trans (by kernel_rfl) (lit_tf (b := decide (y13_4 < (IntKind.i64.wrap (y10_0 - 1)))) hc58_30)) ?_
      refine AWP.skip ?_
      refine Then.normal ?_
      refine Amk 9217 1 ⟨((.own 0) :: (tp 9 ((.i y10_0) :: (tp 2 ((.i y13_4) :: (tp 206 [])))))), [(.arr 65 3 (List.length y0_4) (flatD enc_GChange y0_4))], 1⟩ ?_
      refine AWP.seq ?_
      refine AWP.block ?_
      refine Adr ?_
      refine Wy (.own 0) [] (Omv rfl) ?_
      refine Wy (.i y13_4) [] (Omv rfl) ?_
      refine Wy (.own 0) [] (Omv rfl) ?_
      refine Wy (.i y13_4) [] (Omv rfl) ?_
      refine Wy (.i (IntKind.i64.wrap (y13_4 + 1))) [] (Obn rfl (fun _ => hb_add (k := .i64))) ?_
      refine Wy (.own 0) [] (Omv rfl) ?_
      refine Wy (.i y13_4) [] (Omv rfl) ?_
      refine Wy (.i (IntKind.i64.wrap (y13_4 + 1))) [] (Obn rfl (fun _ => hb_add (k := .i64))) ?_
      obtain ⟨x69_5, hx69_5, hm⟩ := bnd hm
      obtain ⟨hx69_5i, hx69_5g⟩ := geti_some hx69_5
      refine Wy (.loc 0 ((Int.toNat (IntKind.i64.wrap (y13_4 + 1))) * 3)) [] (Oia rfl enc_GChange_len hx69_5i hx69_5g) ?_
      refine Wy (.agg [(.i x69_5.Loc), (.i x69_5.Time), (.i x69_5.N)]) [] (Lr rfl enc_GChange_len hx69_5g) ?_
      refine Wy (.own 0) [] (Omv rfl) ?_
      refine Wy (.i y13_4) [] (Omv rfl) ?_
      obtain ⟨x73_5, hx73_5, hm⟩ := bnd hm
      obtain ⟨hx73_5i, hx73_5g⟩ := geti_some hx73_5
      refine Wy (.loc 0 ((Int.toNat y13_4) * 3)) [] (Oia rfl enc_GChange_len hx73_5i hx73_5g) ?_
      refine Wy (.agg [(.i x73_5.Loc), (.i x73_5.Time), (.i x73_5.N)]) [] (Lr rfl enc_GChange_len hx73_5g) ?_
      obtain ⟨x75_5, hx75_5, hm⟩ := bnd hm
      obtain ⟨hx75_5i, hx75_5g⟩ := geti_some hx75_5
      refine Wy (.loc 0 ((Int.toNat y13_4) * 3)) [] (Oia rfl enc_GChange_len hx75_5i hx75_5g) ?_
      refine Wy (.tup []) [(0, (.arr 65 3 (List.length (List.set y0_4 (Int.toNat y13_4) x69_5)) (flatD enc_GChange (List.set y0_4 (Int.toNat y13_4) x69_5))))] (Osr 0 rfl enc_GChange_len hx75_5g x69_5) ?_
      obtain ⟨x76_5, hx76_5, hm⟩ := bnd hm
      obtain ⟨hx76_5i, hx76_5g⟩ := geti_some hx76_5
      refine Wy (.loc 0 ((Int.toNat (IntKind.i64.wrap (y13_4 + 1))) * 3)) [] (Oia rfl enc_GChange_len hx76_5i hx76_5g) ?_
      refine Wy (.tup []) [(0, (.arr 65 3 (List.length (List.set (List.set y0_4 (Int.toNat y13_4) x69_5) (Int.toNat (IntKind.i64.wrap (y13_4 + 1))) x73_5)) (flatD enc_GChange (List.set (List.set y0_4 (Int.toNat y13_4) x69_5) (Int.toNat (IntKind.i64.wrap (y13_4 + 1))) x73_5))))] (Osr 0 rfl enc_GChange_len hx76_5g x73_5) ?_
      refine Wdr ?_
      refine InBlock.normal ?_
      refine Then.normal ?_
      refine Amk 9217 1 ⟨((.own 0) :: (tp 9 ((.i y10_0) :: (tp 2 ((.i y13_4) :: (tp 206 [])))))), [(.arr 65 3 (List.length (List.set (List.set y0_4 (Int.toNat y13_4) x69_5) (Int.toNat (IntKind.i64.wrap (y13_4 + 1))) x73_5)) (flatD enc_GChange (List.set (List.set y0_4 (Int.toNat y13_4) x69_5) (Int.toNat (IntKind.i64.wrap (y13_4 + 1))) x73_5)))], 1⟩ ?_
      refine AWP.text ?_
      refine Wy (.i y13_4) [] (Omv rfl) ?_
      refine Wy (.i (IntKind.i64.wrap (y13_4 + 1))) [] (Obn rfl (fun _ => hb_add (k := .i64))) ?_
      refine Wy (.i (IntKind.i64.wrap (y13_4 + 1))) [] (Omv rfl) ?_
      refine Walk.nil ?_
      refine RoundK.normal ?_
      exact Rounds.weak (Weak.toK 9217 0 0 [0]) (ih_4 (fu_4, (List.set (List.set y0_4 (Int.toNat y13_4) x69_5) (Int.toNat (IntKind.i64.wrap (y13_4 + 1))) x73_5), (IntKind.i64.wrap (y13_4 + 1))) hm (Nat.lt_succ_self _))
     ·
      replace hm := cF hc58_30 hm
      refine AWP.if_ false (Eq.trans (by kernel_rfl) (lit_tf (b := decide (y13_4 < (IntKind.i64.wrap (y10_0 - 1)))) hc58_30)) ?_
      refine AWP.exit ?_
      refine Then.exit ?_
      refine RoundK.exit ?_
      refine InBlock.same ?_
      refine Then.normal ?_
      refine AWP.ret ?_
      refine Then.ret ?_
      obtain rfl := Option.some.inj hm
      exact ret_i [0]
 ·
  replace hm := cF hc28_27 hm
  refine AWP.if_ false (Eq.trans (by kernel_rfl) (lit_tf (b := decide ((IntKind.i64.wrap (p2 - p1)) = 1)) hc28_27)) ?_
  refine AWP.skip ?_
  refine Then.normal ?_
  refine Amk 31 1 ⟨((.own 0) :: ((.i p1) :: ((.i p2) :: ((.i p3) :: ((.clo (.func 44) [] []) :: (tp 215 [])))))), [(.arr 65 3 (List.length p0) (flatD enc_GChange p0))], 1⟩ ?_
  refine AWP.seq ?_
  refine AWP.seq ?_
  refine AWP.text ?_
  refine Wy (.i p3) [] (Omv rfl) ?_
  refine Wy (.i p2) [] (Omv rfl) ?_
  refine Wy (.i (IntKind.i64.wrap (p3 - p2))) [] (Obn rfl (fun _ => hb_sub (k := .i64))) ?_
  refine Wy (.b (decide ((IntKind.i64.wrap (p3 - p2)) = 1))) [] (Obn rfl (fun _ => hb_eql (k := .i64))) ?_
  refine Walk.nil ?_
  refine Then.normal ?_
  refine Amk 1208925819614629174706207 1 ⟨((.own 0) :: ((.i p1) :: ((.i p2) :: ((.i p3) :: ((.clo (.func 44) [] []) :: (tp 75 ((.b (decide ((IntKind.i64.wrap (p3 - p2)) = 1))) :: (tp 139 [])))))))), [(.arr 65 3 (List.length p0) (flatD enc_GChange p0))], 1⟩ ?_
  rcases tf_ (decide ((IntKind.i64.wrap (p3 - p2)) = 1)) with hc80_31 | hc80_31
  ·
   replace hm := cT hc80_31 hm
   refine AWP.if_ true (Eq.trans (by kernel_rfl) (lit_tf (b := decide ((IntKind.i64.wrap (p3 - p2)) = 1)) hc80_31)) ?_
   refine AWP.seq ?_
   refine AWP.text ?_
   refine Wy (.i p1) [] (Omv rfl) ?_
   refine Wy (.i p1) [] (Omv rfl) ?_
   refine Walk.nil ?_
   refine Then.normal ?_
   refine Amk 16405 1 ⟨((.own 0) :: (tp 1 ((.i p2) :: (tp 1 ((.clo (.func 44) [] []) :: (tp 9 ((.i p1) :: (tp 205 [])))))))), [(.arr 65 3 (List.length p0) (flatD enc_GChange p0))], 1⟩ ?_
   refine AWP.seq ?_
   refine AWP.text ?_
   refine Wy (.i p2) [] (Omv rfl) ?_
   refine Wy (.i p2) [] (Omv rfl) ?_
   refine Walk.nil ?_
   refine Then.normal ?_
   refine Amk 49173 1 ⟨((.own 0) :: (tp 1 ((.i p2) :: (tp 1 ((.clo (.func 44) [] []) :: (tp 9 ((.i p1) :: ((.i p2) :: (tp 204 []))))))))), [(.arr 65 3 (List.length p0) (flatD enc_GChange p0))], 1⟩ ?_
   refine AWP.seq ?_
   refine AWP.block ?_
   refine AWP.loopI (α := Nat × Int × Int)
     (fun x => match x with | (fu_6, y14_6, y15_6) => (⟨((.own 0) :: (tp 1 ((.i p2) :: (tp 1 ((.clo (.func 44) [] []) :: (tp 9 ((.i y14_6) :: ((.i y15_6) :: (tp 204 []))))))))), [(.arr 65 3 (List.length p0) (flatD enc_GChange p0))], 1⟩ : St))
     (fun x => match x with | (fu_6, y14_6, y15_6) => m_slices_symMergeCmpFunc_tally_Change__tally_order_l6 p0 p2 fu_6 y14_6 y15_6 = some r)
     (fun x => match x with | (fu_6, y14_6, y15_6) => fu_6) (1152921504606846976, p1, p2)
     (Weak.toK 49173 0 0 [0]) hm ?_
   rintro ⟨fu_6, y14_6, y15_6⟩ n_6 hm ih_6
   try dsimp only at hm ih_6 ⊢
   cases fu_6 with
   | zero => exact absurd hm (by unfold m_slices_symMergeCmpFunc_tally_Change__tally_order_l6; simp)
   | succ fu_6 =>
    unfold m_slices_symMergeCmpFunc_tally_Change__tally_order_l6 at hm
    refine AWP.seq ?_
    refine AWP.seq ?_
    refine AWP.text ?_
    refine Wy (.i y14_6) [] (Omv rfl) ?_
    refine Wy (.i y15_6) [] (Omv rfl) ?_
    refine Wy (.b (decide (y14_6 < y15_6))) [] (Obn rfl (fun _ => hb_lss (k := .i64))) ?_
    refine Walk.nil ?_
    refine Then.normal ?_
    refine Amk 38685626227668133590646805 1 ⟨((.own 0) :: (tp 1 ((.i p2) :: (tp 1 ((.clo (.func 44) [] []) :: (tp 9 ((.i y14_6) :: ((.i y15_6) :: (tp 69 ((.b (decide (y14_6 < y15_6))) :: (tp 134 []))))))))))), [(.arr 65 3 (List.length p0) (flatD enc_GChange p0))], 1⟩ ?_
    rcases tf_ (decide (y14_6 < y15_6)) with hc85_32 | hc85_32
    ·
     replace hm := cT hc85_32 hm
     refine AWP.if_ true (Eq.trans (by kernel_rfl) (lit_tf (b := decide (y14_6 < y15_6)) hc85_32)) ?_
     refine AWP.skip ?_
     refine Then.normal ?_
     refine Amk 49173 1 ⟨((.own 0) :: (tp 1 ((.i p2) :: (tp 1 ((.clo (.func 44) [] []) :: (tp 9 ((.i y14_6) :: ((.i y15_6) :: (tp 204 []))))))))), [(.arr 65 3 (List.length p0) (flatD enc_GChange p0))], 1⟩ ?_
     refine AWP.block ?_
     refine AWP.seq ?_
     refine AWP.text ?_
     refine Wy (.i y14_6) [] (Omv rfl) ?_
     refine Wy (.i y15_6) [] (Omv rfl) ?_
     refine Wy (.i (IntKind.i64.wrap (y14_6 + y15_6))) [] (Obn rfl (fun _ => hb_add (k := .i64))) ?_
     refine Wy (.d (.lit (.int .u64 (IntKind.u64.wrap (IntKind.i64.wrap (y14_6 + y15_6)))))) [] (Ocs (by kernel_rfl) (op_convert rfl (a1 := .int .i64 (IntKind.i64.wrap (y14_6 + y15_6))) (by kernel_rfl) (run_conv (ds := .int .i64) (k' := .u64) (by kernel_rfl) (by kernel_rfl)))) ?_
     refine Wy (.d (.lit (.int .u64 (Int.fdiv (IntKind.u64.wrap (IntKind.i64.wrap (y14_6 + y15_6))) (2 ^ 1))))) [] (Ocs (by kernel_rfl) (op_bin rfl (a1 := .int .u64 (IntKind.u64.wrap (IntKind.i64.wrap (y14_6 + y15_6)))) (a2 := .int .u64 1) (by kernel_rfl) (by kernel_rfl) (fun _ => hb_shr (n := 1) (by decide) rfl))) ?_
     refine Wy (.i (IntKind.i64.wrap (Int.fdiv (IntKind.u64.wrap (IntKind.i64.wrap (y14_6 + y15_6))) (2 ^ 1)))) [] (Ocs (by kernel_rfl) (op_convert rfl (a1 := .int .u64 (Int.fdiv (IntKind.u64.wrap (IntKind.i64.wrap (y14_6 + y15_6))) (2 ^ 1))) (by kernel_rfl) (run_conv (ds := .int .u64) (k' := .i64) (by kernel_rfl) (by kernel_rfl)))) ?_
     refine Wy (.i (IntKind.i64.wrap (Int.fdiv (IntKind.u64.wrap (IntKind.i64.wrap (y14_6 + y15_6))) (2 ^ 1)))) [] (Omv rfl) ?_
     refine Walk.nil ?_
     refine Then.normal ?_
     refine Amk 114709 1 ⟨((.own 0) :: (tp 1 ((.i p2) :: (tp 1 ((.clo (.func 44) [] []) :: (tp 9 ((.i y14_6) :: ((.i y15_6) :: ((.i (IntKind.i64.wrap (Int.fdiv (IntKind.u64.wrap (IntKind.i64.wrap (y14_6 + y15_6))) (2 ^ 1)))) :: (tp 203 [])))))))))), [(.arr 65 3 (List.length p0) (flatD enc_GChange p0))], 1⟩ ?_
     refine AWP.seq ?_
     refine Adr ?_
     refine Wy (.clo (.func 44) [] []) [] (Omv rfl) ?_
     refine Wy (.own 0) [] (Omv rfl) ?_
     refine Wy (.i p2) [] (Omv rfl) ?_
     obtain ⟨x95_8, hx95_8, hm⟩ := bnd hm
     obtain ⟨hx95_8i, hx95_8g⟩ := geti_some hx95_8
     refine Wy (.loc 0 ((Int.toNat p2) * 3)) [] (Oia rfl enc_GChange_len hx95_8i hx95_8g) ?_
     refine Wy (.agg [(.i x95_8.Loc), (.i x95_8.Time), (.i x95_8.N)]) [] (Lr rfl enc_GChange_len hx95_8g) ?_
     refine Wy (.own 0) [] (Omv rfl) ?_
     refine Wy (.i (IntKind.i64.wrap (Int.fdiv (IntKind.u64.wrap (IntKind.i64.wrap (y14_6 + y15_6))) (2 ^ 1)))) [] (Omv rfl) ?_
     obtain ⟨x99_8, hx99_8, hm⟩ := bnd hm
     obtain ⟨hx99_8i, hx99_8g⟩ := geti_some hx99_8
     refine Wy (.loc 0 ((Int.toNat (IntKind.i64.wrap (Int.fdiv (IntKind.u64.wrap (IntKind.i64.wrap (y14_6 + y15_6))) (2 ^ 1)))) * 3)) [] (Oia rfl enc_GChange_len hx99_8i hx99_8g) ?_
     refine Wy (.agg [(.i x99_8.Loc), (.i x99_8.Time), (.i x99_8.N)]) [] (Lr rfl enc_GChange_len hx99_8g) ?_
     obtain ⟨r101_8, hr101_8, hm⟩ := bnd hm
     refine Wy (.i r101_8) [] (Ocf [] [] [] 0 (ok_tally_order x95_8 x99_8 r101_8 hr101_8) (fun a w => Try.call44 a w) rfl trivial) ?_
     refine Wy (.b (decide (r101_8 < 0))) [] (Obn rfl (fun _ => hb_lss (k := .i64))) ?_
     refine Wy (.b (!decide (r101_8 < 0))) [] (Ocs (by kernel_rfl) (op_un rfl (a1 := .bool (decide (r101_8 < 0))) (by kernel_rfl) (fun _ => hu_not))) ?_
     refine Wdr ?_
     refine Then.normal ?_
     refine Amk 10141204801825835211973625757717 1 ⟨((.own 0) :: (tp 1 ((.i p2) :: (tp 1 ((.clo (.func 44) [] []) :: (tp 9 ((.i y14_6) :: ((.i y15_6) :: ((.i (IntKind.i64.wrap (Int.fdiv (IntKind.u64.wrap (IntKind.i64.wrap (y14_6 + y15_6))) (2 ^ 1)))) :: (tp 86 ((.b (!decide (r101_8 < 0))) :: (tp 116 [])))))))))))), [(.arr 65 3 (List.length p0) (flatD enc_GChange p0))], 1⟩ ?_
     rcases tf_ (!decide (r101_8 < 0)) with hc103_33 | hc103_33
     ·
      replace hm := cT hc103_33 hm
      refine AWP.if_ true (Eq.trans (by kernel_rfl) (lit_tf (b := (!decide (r101_8 < 0))) hc103_33)) ?_
      refine AWP.text ?_
      refine Wy (.i (IntKind.i64.wrap (Int.fdiv (IntKind.u64.wrap (IntKind.i64.wrap (y14_6 + y15_6))) (2 ^ 1)))) [] (Omv rfl) ?_
      obtain ⟨v105_9, hv105_9, hm⟩ := bnd hm; replace hv105_9 := Option.some.inj hv105_9
      refine Wy (.i v105_9) [] (Ocs (congrArg (fun z => A.d (.lit (.int .i64 z))) hv105_9) (Obn rfl (fun _ => hb_add (k := .i64)))) ?_
      refine Wy (.i v105_9) [] (Omv rfl) ?_
      refine Walk.nil ?_
      refine InBlock.normal ?_
      refine RoundK.normal ?_
      exact Rounds.weak (Weak.toK 49173 0 0 [0]) (ih_6 (fu_6, v105_9, y15_6) hm (Nat.lt_succ_self _))
     ·
      replace hm := cF hc103_33 hm
      refine AWP.if_ false (Eq.trans (by kernel_rfl) (lit_tf (b := (!decide (r101_8 < 0))) hc103_33)) ?_
      refine AWP.text ?_
      refine Wy (.i (IntKind.i64.wrap (Int.fdiv (IntKind.u64.wrap (IntKind.i64.wrap (y14_6 + y15_6))) (2 ^ 1)))) [] (Omv rfl) ?_
      refine Wy (.i (IntKind.i64.wrap (Int.fdiv (IntKind.u64.wrap (IntKind.i64.wrap (y14_6 + y15_6))) (2 ^ 1)))) [] (Omv rfl) ?_
      refine Walk.nil ?_
      refine InBlock.normal ?_
      refine RoundK.normal ?_
      exact Rounds.weak (Weak.toK 49173 0 0 [0]) (ih_6 (fu_6, y14_6, (IntKind.i64.wrap (Int.fdiv (IntKind.u64.wrap (IntKind.i64.wrap (y14_6 + y15_6))) (2 ^ 1)))) hm (Nat.lt_succ_self _))
    ·
     replace hm := cF hc85_32 hm
     refine AWP.if_ false (Eq.trans (by kernel_rfl) (lit_tf (b := decide (y14_6 < y15_6)) hc85_32)) ?_
     refine AWP.exit ?_
     refine Then.exit ?_
     refine RoundK.exit ?_
     refine InBlock.same ?_
     refine Then.normal ?_
     refine Amk 16389 1 ⟨((.own 0) :: (tp 1 ((.i p2) :: (tp 11 ((.i y14_6) :: (tp 205 [])))))), [(.arr 65 3 (List.length p0) (flatD enc_GChange p0))], 1⟩ ?_
     refine AWP.seq ?_
     refine AWP.seq ?_
     refine AWP.text ?_
     refine Wy (.i p2) [] (Omv rfl) ?_
     refine Wy (.i p2) [] (Omv rfl) ?_
     refine Walk.nil ?_
     refine Then.normal ?_
     refine Amk 147457 1 ⟨((.own 0) :: (tp 13 ((.i y14_6) :: (tp 2 ((.i p2) :: (tp 202 [])))))), [(.arr 65 3 (List.length p0) (flatD enc_GChange p0))], 1⟩ ?_
     refine AWP.block ?_
     refine AWP.loopI (α := Nat × (List GChange) × Int)
       (fun x => match x with | (fu_10, y0_10, y17_10) => (⟨((.own 0) :: (tp 13 ((.i y14_6) :: (tp 2 ((.i y17_10) :: (tp 202 [])))))), [(.arr 65 3 (List.length y0_10) (flatD enc_GChange y0_10))], 1⟩ : St))
       (fun x => match x with | (fu_10, y0_10, y17_10) => m_slices_symMergeCmpFunc_tally_Change__tally_order_l10 y14_6 fu_10 y0_10 y17_10 = some r)
       (fun x => match x with | (fu_10, y0_10, y17_10) => fu_10) (1152921504606846976, p0, p2)
       (Weak.toK 147457 0 0 [0]) hm ?_
     rintro ⟨fu_10, y0_10, y17_10⟩ n_10 hm ih_10
     try dsimp only at hm ih_10 ⊢
     cases fu_10 with
     | zero => exact absurd hm (by unfold m_slices_symMergeCmpFunc_tally_Change__tally_order_l10; simp)
     | succ fu_10 =>
      unfold m_slices_symMergeCmpFunc_tally_Change__tally_order_l10 at hm
      refine AWP.seq ?_
      refine AWP.seq ?_
      refine AWP.text ?_
      refine Wy (.i y17_10) [] (Omv rfl) ?_
      refine Wy (.i y14_6) [] (Omv rfl) ?_
      refine Wy (.b (decide (y14_6 < y17_10))) [] (Obn rfl (fun _ => hb_gtr (k := .i64))) ?_
      refine Walk.nil ?_
      refine Then.normal ?_
      refine Amk 1298074214633706907132624082452481 1 ⟨((.own 0) :: (tp 13 ((.i y14_6) :: (tp 2 ((.i y17_10) :: (tp 92 ((.b (decide (y14_6 < y17_10))) :: (tp 109 [])))))))), [(.arr 65 3 (List.length y0_10) (flatD enc_GChange y0_10))], 1⟩ ?_
      rcases tf_ (decide (y14_6 < y17_10)) with hc110_34 | hc110_34
      ·
       replace hm := cT hc110_34 hm
       refine AWP.if_ true (Eq.trans (by kernel_rfl) (lit_tf (b := decide (y14_6 < y17_10)) hc110_34)) ?_
       refine AWP.skip ?_
       refine Then.normal ?_
       refine Amk 147457 1 ⟨((.own 0) :: (tp 13 ((.i y14_6) :: (tp 2 ((.i y17_10) :: (tp 202 [])))))), [(.arr 65 3 (List.length y0_10) (flatD enc_GChange y0_10))], 1⟩ ?_
       refine AWP.seq ?_
       refine AWP.block ?_
       refine Adr ?_
       refine Wy (.own 0) [] (Omv rfl) ?_
       refine Wy (.i y17_10) [] (Omv rfl) ?_
       refine Wy (.own 0) [] (Omv rfl) ?_
       refine Wy (.i y17_10) [] (Omv rfl) ?_
       refine Wy (.i (IntKind.i64.wrap (y17_10 - 1))) [] (Obn rfl (fun _ => hb_sub (k := .i64))) ?_
       refine Wy (.own 0) [] (Omv rfl) ?_
       refine Wy (.i y17_10) [] (Omv rfl) ?_
       refine Wy (.i (IntKind.i64.wrap (y17_10 - 1))) [] (Obn rfl (fun _ => hb_sub (k := .i64))) ?_
       obtain ⟨x121_11, hx121_11, hm⟩ := bnd hm
       obtain ⟨hx121_11i, hx121_11g⟩ := geti_some hx121_11
       refine Wy (.loc 0 ((Int.toNat (IntKind.i64.wrap (y17_10 - 1))) * 3)) [] (Oia rfl enc_GChange_len hx121_11i hx121_11g) ?_
       refine Wy (.agg [(.i x121_11.Loc), (.i x121_11.Time), (.i x121_11.N)]) [] (Lr rfl enc_GChange_len hx121_11g) ?_
       refine Wy (.own 0) [] (Omv rfl) ?_
       refine Wy (.i y17_10) [] (Omv rfl) ?_
       obtain ⟨x125_11, hx125_11, hm⟩ := bnd hm
       obtain ⟨hx125_11i, hx125_11g⟩ := geti_some hx125_11
       refine Wy (.loc 0 ((Int.toNat y17_10) * 3)) [] (Oia rfl enc_GChange_len hx125_11i hx125_11g) ?_
       refine Wy (.agg [(.i x125_11.Loc), (.i x125_11.Time), (.i x125_11.N)]) [] (Lr rfl enc_GChange_len hx125_11g) ?_
       obtain ⟨x127_11, hx127_11, hm⟩ := bnd hm
       obtain ⟨hx127_11i, hx127_11g⟩ := geti_some hx127_11
       refine Wy (.loc 0 ((Int.toNat y17_10) * 3)) [] (Oia rfl enc_GChange_len hx127_11i hx127_11g) ?_
       refine Wy (.tup []) [(0, (.arr 65 3 (List.length (List.set y0_10 (Int.toNat y17_10) x121_11)) (flatD enc_GChange (List.set y0_10 (Int.toNat y17_10) x121_11))))] (Osr 0 rfl enc_GChange_len hx127_11g x121_11) ?_
       obtain ⟨x128_11, hx128_11, hm⟩ := bnd hm
       obtain ⟨hx128_11i, hx128_11g⟩ := geti_some hx128_11
       refine Wy (.loc 0 ((Int.toNat (IntKind.i64.wrap (y17_10 - 1))) * 3)) [] (Oia rfl enc_GChange_len hx128_11i hx128_11g) ?_
       refine Wy (.tup []) [(0, (.arr 65 3 (List.length (List.set (List.set y0_10 (Int.toNat y17_10) x121_11) (Int.toNat (IntKind.i64.wrap (y17_10 - 1))) x125_11)) (flatD enc_GChange (List.set (List.set y0_10 (Int.toNat y17_10) x121_11) (Int.toNat (IntKind.i64.wrap (y17_10 - 1))) x125_11))))] (Osr 0 rfl enc_GChange_len hx128_11g x125_11) ?_
       refine Wdr ?_
       refine InBlock.normal ?_
       refine Then.normal ?_
       refine Amk 147457 1 ⟨((.own 0) :: (tp 13 ((.i y14_6) :: (tp 2 ((.i y17_10) :: (tp 202 [])))))), [(.arr 65 3 (List.length (List.set (List.set y0_10 (Int.toNat y17_10) x121_11) (Int.toNat (IntKind.i64.wrap (y17_10 - 1))) x125_11)) (flatD enc_GChange (List.set (List.set y0_10 (Int.toNat y17_10) x121_11) (Int.toNat (IntKind.i64.wrap (y17_10 - 1))) x125_11)))], 1⟩ ?_
       refine AWP.text ?_
       refine Wy (.i y17_10) [] (Omv rfl) ?_
       refine Wy (.i (IntKind.i64.wrap (y17_10 - 1))) [] (Obn rfl (fun _ => hb_sub (k := .i64))) ?_
       refine Wy (.i (IntKind.i64.wrap (y17_10 - 1))) [] (Omv rfl) ?_
       refine Walk.nil ?_
       refine RoundK.normal ?_
       exact Rounds.weak (Weak.toK 147457 0 0 [0]) (ih_10 (fu_10, (List.set (List.set y0_10 (Int.toNat y17_10) x121_11) (Int.toNat (IntKind.i64.wrap (y17_10 - 1))) x125_11), (IntKind.i64.wrap (y17_10 - 1))) hm (Nat.lt_succ_self _))
      ·
       replace hm := cF hc110_34 hm
       refine AWP.if_ false (Eq.trans (by kernel_rfl) (lit_tf (b := decide (y14_6 < y17_10)) hc110_34)) ?_
       refine AWP.exit ?_
       refine Then.exit ?_
       refine RoundK.exit ?_
       refine InBlock.same ?_
       refine Then.normal ?_
       refine AWP.ret ?_
       refine Then.ret ?_
       obtain rfl := Option.some.inj hm
       exact ret_i [0]
  ·
   replace hm := cF hc80_31 hm
   refine AWP.if_ false (Eq.trans (by kernel_rfl) (lit_tf (b := decide ((IntKind.i64.wrap (p3 - p2)) = 1)) hc80_31)) ?_
   refine AWP.skip ?_
   refine Then.normal ?_
   refine Amk 31 1 ⟨((.own 0) :: ((.i p1) :: ((.i p2) :: ((.i p3) :: ((.clo (.func 44) [] []) :: (tp 215 [])))))), [(.arr 65 3 (List.length p0) (flatD enc_GChange p0))], 1⟩ ?_
   refine AWP.seq ?_
   refine AWP.text ?_
   refine Wy (.i p1) [] (Omv rfl) ?_
   refine Wy (.i p3) [] (Omv rfl) ?_
   refine Wy (.i (IntKind.i64.wrap (p1 + p3))) [] (Obn rfl (fun _ => hb_add (k := .i64))) ?_
   refine Wy (.d (.lit (.int .u64 (IntKind.u64.wrap (IntKind.i64.wrap (p1 + p3)))))) [] (Ocs (by kernel_rfl) (op_convert rfl (a1 := .int .i64 (IntKind.i64.wrap (p1 + p3))) (by kernel_rfl) (run_conv (ds := .int .i64) (k' := .u64) (by kernel_rfl) (by kernel_rfl)))) ?_
   refine Wy (.d (.lit (.int .u64 (Int.fdiv (IntKind.u64.wrap (IntKind.i64.wrap (p1 + p3))) (2 ^ 1))))) [] (Ocs (by kernel_rfl) (op_bin rfl (a1 := .int .u64 (IntKind.u64.wrap (IntKind.i64.wrap (p1 + p3)))) (a2 := .int .u64 1) (by kernel_rfl) (by kernel_rfl) (fun _ => hb_shr (n := 1) (by decide) rfl))) ?_
   refine Wy (.i (IntKind.i64.wrap (Int.fdiv (IntKind.u64.wrap (IntKind.i64.wrap (p1 + p3))) (2 ^ 1)))) [] (Ocs (by kernel_rfl) (op_convert rfl (a1 := .int .u64 (Int.fdiv (IntKind.u64.wrap (IntKind.i64.wrap (p1 + p3))) (2 ^ 1))) (by kernel_rfl) (run_conv (ds := .int .u64) (k' := .i64) (by kernel_rfl) (by kernel_rfl)))) ?_
   refine Wy (.i (IntKind.i64.wrap (Int.fdiv (IntKind.u64.wrap (IntKind.i64.wrap (p1 + p3))) (2 ^ 1)))) [] (Omv rfl) ?_
   refine Walk.nil ?_
   refine Then.normal ?_
   refine Amk 262175 1 ⟨((.own 0) :: ((.i p1) :: ((.i p2) :: ((.i p3) :: ((.clo (.func 44) [] []) :: (tp 13 ((.i (IntKind.i64.wrap (Int.fdiv (IntKind.u64.wrap (IntKind.i64.wrap (p1 + p3))) (2 ^ 1)))) :: (tp 201 [])))))))), [(.arr 65 3 (List.length p0) (flatD enc_GChange p0))], 1⟩ ?_
   refine AWP.seq ?_
   refine AWP.text ?_
   refine Wy (.i (IntKind.i64.wrap (Int.fdiv (IntKind.u64.wrap (IntKind.i64.wrap (p1 + p3))) (2 ^ 1)))) [] (Omv rfl) ?_
   refine Wy (.i p2) [] (Omv rfl) ?_
   obtain ⟨v137_13, hv137_13, hm⟩ := bnd hm; replace hv137_13 := Option.some.inj hv137_13
   refine Wy (.i v137_13) [] (Ocs (congrArg (fun z => A.d (.lit (.int .i64 z))) hv137_13) (Obn rfl (fun _ => hb_add (k := .i64)))) ?_
   refine Wy (.i v137_13) [] (Omv rfl) ?_
   refine Walk.nil ?_
   refine Then.normal ?_
   refine Amk 786463 1 ⟨((.own 0) :: ((.i p1) :: ((.i p2) :: ((.i p3) :: ((.clo (.func 44) [] []) :: (tp 13 ((.i (IntKind.i64.wrap (Int.fdiv (IntKind.u64.wrap (IntKind.i64.wrap (p1 + p3))) (2 ^ 1)))) :: ((.i v137_13) :: (tp 200 []))))))))), [(.arr 65 3 (List.length p0) (flatD enc_GChange p0))], 1⟩ ?_
   refine AWP.seq ?_
   refine AWP.text ?_
   refine Wy (.i 0) [] (Omv rfl) ?_
   refine Wy (.i 0) [] (Omv rfl) ?_
   refine Walk.nil ?_
   refine Then.normal ?_
   refine Amk 786463 1 ⟨((.own 0) :: ((.i p1) :: ((.i p2) :: ((.i p3) :: ((.clo (.func 44) [] []) :: (tp 13 ((.i (IntKind.i64.wrap (Int.fdiv (IntKind.u64.wrap (IntKind.i64.wrap (p1 + p3))) (2 ^ 1)))) :: ((.i v137_13) :: (tp 200 []))))))))), [(.arr 65 3 (List.length p0) (flatD enc_GChange p0))], 1⟩ ?_
   refine AWP.cutJ (α := Int × Int) (fun x => match x with | (y20_14, y21_14) => (⟨((.own 0) :: ((.i p1) :: ((.i p2) :: ((.i p3) :: ((.clo (.func 44) [] []) :: (tp 13 ((.i (IntKind.i64.wrap (Int.fdiv (IntKind.u64.wrap (IntKind.i64.wrap (p1 + p3))) (2 ^ 1)))) :: ((.i v137_13) :: ((.i y20_14) :: ((.i y21_14) :: (tp 198 []))))))))))), [(.arr 65 3 (List.length p0) (flatD enc_GChange p0))], 1⟩ : St)) (fun x => match x with | (y20_14, y21_14) => m_slices_symMergeCmpFunc_tally_Change__tally_order_j14 p0 p1 p2 p3 v137_13 (fun p0 p1 p2 p3 => m_slices_symMergeCmpFunc_tally_Change__tally_order fuR p0 p1 p2 p3) y20_14 y21_14 = some r) ?_ (fun J14 => ?_)
   ·
    rintro ⟨y20_14, y21_14⟩ hm
    try dsimp only at hm ⊢
    unfold m_slices_symMergeCmpFunc_tally_Change__tally_order_j14 at hm
    refine AWP.seq ?_
    refine AWP.text ?_
    refine Wy (.i v137_13) [] (Omv rfl) ?_
    refine Wy (.i (IntKind.i64.wrap (v137_13 - 1))) [] (Obn rfl (fun _ => hb_sub (k := .i64))) ?_
    refine Wy (.i (IntKind.i64.wrap (v137_13 - 1))) [] (Omv rfl) ?_
    refine Walk.nil ?_
    refine Then.normal ?_
    refine Amk 8126495 1 ⟨((.own 0) :: ((.i p1) :: ((.i p2) :: ((.i p3) :: ((.clo (.func 44) [] []) :: (tp 13 ((.i (IntKind.i64.wrap (Int.fdiv (IntKind.u64.wrap (IntKind.i64.wrap (p1 + p3))) (2 ^ 1)))) :: ((.i v137_13) :: ((.i y20_14) :: ((.i y21_14) :: ((.i (IntKind.i64.wrap (v137_13 - 1))) :: (tp 197 [])))))))))))), [(.arr 65 3 (List.length p0) (flatD enc_GChange p0))], 1⟩ ?_
    refine AWP.seq ?_
    refine AWP.block ?_
    refine AWP.loopI (α := Nat × Int × Int)
      (fun x => match x with | (fu_15, y20_15, y21_15) => (⟨((.own 0) :: ((.i p1) :: ((.i p2) :: ((.i p3) :: ((.clo (.func 44) [] []) :: (tp 13 ((.i (IntKind.i64.wrap (Int.fdiv (IntKind.u64.wrap (IntKind.i64.wrap (p1 + p3))) (2 ^ 1)))) :: ((.i v137_13) :: ((.i y20_15) :: ((.i y21_15) :: ((.i (IntKind.i64.wrap (v137_13 - 1))) :: (tp 197 [])))))))))))), [(.arr 65 3 (List.length p0) (flatD enc_GChange p0))], 1⟩ : St))
      (fun x => match x with | (fu_15, y20_15, y21_15) => m_slices_symMergeCmpFunc_tally_Change__tally_order_l15 p0 p1 p2 p3 v137_13 (fun p0 p1 p2 p3 => m_slices_symMergeCmpFunc_tally_Change__tally_order fuR p0 p1 p2 p3) fu_15 y20_15 y21_15 = some r)
      (fun x => match x with | (fu_15, y20_15, y21_15) => fu_15) (1152921504606846976, y20_14, y21_14)
      (Weak.toK 8126495 0 0 [0]) hm ?_
    rintro ⟨fu_15, y20_15, y21_15⟩ n_15 hm ih_15
    try dsimp only at hm ih_15 ⊢
    cases fu_15 with
    | zero => exact absurd hm (by unfold m_slices_symMergeCmpFunc_tally_Change__tally_order_l15; simp)
    | succ fu_15 =>
     unfold m_slices_symMergeCmpFunc_tally_Change__tally_order_l15 at hm
     refine AWP.seq ?_
     refine AWP.seq ?_
     refine AWP.text ?_
     refine Wy (.i y20_15) [] (Omv rfl) ?_
     refine Wy (.i y21_15) [] (Omv rfl) ?_
     refine Wy (.b (decide (y20_15 < y21_15))) [] (Obn rfl (fun _ => hb_lss (k := .i64))) ?_
     refine Walk.nil ?_
     refine Then.normal ?_
     refine Amk 2854495385411919762116571938898990272773619743 1 ⟨((.own 0) :: ((.i p1) :: ((.i p2) :: ((.i p3) :: ((.clo (.func 44) [] []) :: (tp 13 ((.i (IntKind.i64.wrap (Int.fdiv (IntKind.u64.wrap (IntKind.i64.wrap (p1 + p3))) (2 ^ 1)))) :: ((.i v137_13) :: ((.i y20_15) :: ((.i y21_15) :: ((.i (IntKind.i64.wrap (v137_13 - 1))) :: (tp 128 ((.b (decide (y20_15 < y21_15))) :: (tp 68 [])))))))))))))), [(.arr 65 3 (List.length p0) (flatD enc_GChange p0))], 1⟩ ?_
     rcases tf_ (decide (y20_15 < y21_15)) with hc151_35 | hc151_35
     ·
      replace hm := cT hc151_35 hm
      refine AWP.if_ true (Eq.trans (by kernel_rfl) (lit_tf (b := decide (y20_15 < y21_15)) hc151_35)) ?_
      refine AWP.skip ?_
      refine Then.normal ?_
      refine Amk 8126495 1 ⟨((.own 0) :: ((.i p1) :: ((.i p2) :: ((.i p3) :: ((.clo (.func 44) [] []) :: (tp 13 ((.i (IntKind.i64.wrap (Int.fdiv (IntKind.u64.wrap (IntKind.i64.wrap (p1 + p3))) (2 ^ 1)))) :: ((.i v137_13) :: ((.i y20_15) :: ((.i y21_15) :: ((.i (IntKind.i64.wrap (v137_13 - 1))) :: (tp 197 [])))))))))))), [(.arr 65 3 (List.length p0) (flatD enc_GChange p0))], 1⟩ ?_
      refine AWP.block ?_
      refine AWP.seq ?_
      refine AWP.text ?_
      refine Wy (.i y20_15) [] (Omv rfl) ?_
      refine Wy (.i y21_15) [] (Omv rfl) ?_
      refine Wy (.i (IntKind.i64.wrap (y20_15 + y21_15))) [] (Obn rfl (fun _ => hb_add (k := .i64))) ?_
      refine Wy (.d (.lit (.int .u64 (IntKind.u64.wrap (IntKind.i64.wrap (y20_15 + y21_15)))))) [] (Ocs (by kernel_rfl) (op_convert rfl (a1 := .int .i64 (IntKind.i64.wrap (y20_15 + y21_15))) (by kernel_rfl) (run_conv (ds := .int .i64) (k' := .u64) (by kernel_rfl) (by kernel_rfl)))) ?_
      refine Wy (.d (.lit (.int .u64 (Int.fdiv (IntKind.u64.wrap (IntKind.i64.wrap (y20_15 + y21_15))) (2 ^ 1))))) [] (Ocs (by kernel_rfl) (op_bin rfl (a1 := .int .u64 (IntKind.u64.wrap (IntKind.i64.wrap (y20_15 + y21_15)))) (a2 := .int .u64 1) (by kernel_rfl) (by kernel_rfl) (fun _ => hb_shr (n := 1) (by decide) rfl))) ?_
      refine Wy (.i (IntKind.i64.wrap (Int.fdiv (IntKind.u64.wrap (IntKind.i64.wrap (y20_15 + y21_15))) (2 ^ 1)))) [] (Ocs (by kernel_rfl) (op_convert rfl (a1 := .int .u64 (Int.fdiv (IntKind.u64.wrap (IntKind.i64.wrap (y20_15 + y21_15))) (2 ^ 1))) (by kernel_rfl) (run_conv (ds := .int .u64) (k' := .i64) (by kernel_rfl) (by kernel_rfl)))) ?_
      refine Wy (.i (IntKind.i64.wrap (Int.fdiv (IntKind.u64.wrap (IntKind.i64.wrap (y20_15 + y21_15))) (2 ^ 1)))) [] (Omv rfl) ?_
      refine Walk.nil ?_
      refine Then.normal ?_
      refine Amk 16515103 1 ⟨((.own 0) :: ((.i p1) :: ((.i p2) :: ((.i p3) :: ((.clo (.func 44) [] []) :: (tp 13 ((.i (IntKind.i64.wrap (Int.fdiv (IntKind.u64.wrap (IntKind.i64.wrap (p1 + p3))) (2 ^ 1)))) :: ((.i v137_13) :: ((.i y20_15) :: ((.i y21_15) :: ((.i (IntKind.i64.wrap (v137_13 - 1))) :: ((.i (IntKind.i64.wrap (Int.fdiv (IntKind.u64.wrap (IntKind.i64.wrap (y20_15 + y21_15))) (2 ^ 1)))) :: (tp 196 []))))))))))))), [(.arr 65 3 (List.length p0) (flatD enc_GChange p0))], 1⟩ ?_
      refine AWP.seq ?_
      refine Adr ?_
      refine Wy (.clo (.func 44) [] []) [] (Omv rfl) ?_
      refine Wy (.own 0) [] (Omv rfl) ?_
      refine Wy (.i (IntKind.i64.wrap (v137_13 - 1))) [] (Omv rfl) ?_
      refine Wy (.i (IntKind.i64.wrap (Int.fdiv (IntKind.u64.wrap (IntKind.i64.wrap (y20_15 + y21_15))) (2 ^ 1)))) [] (Omv rfl) ?_
      obtain ⟨v162_17, hv162_17, hm⟩ := bnd hm; replace hv162_17 := Option.some.inj hv162_17
      refine Wy (.i v162_17) [] (Ocs (congrArg (fun z => A.d (.lit (.int .i64 z))) hv162_17) (Obn rfl (fun _ => hb_sub (k := .i64)))) ?_
      obtain ⟨x163_17, hx163_17, hm⟩ := bnd hm
      obtain ⟨hx163_17i, hx163_17g⟩ := geti_some hx163_17
      refine Wy (.loc 0 ((Int.toNat v162_17) * 3)) [] (Oia rfl enc_GChange_len hx163_17i hx163_17g) ?_
      refine Wy (.agg [(.i x163_17.Loc), (.i x163_17.Time), (.i x163_17.N)]) [] (Lr rfl enc_GChange_len hx163_17g) ?_
      refine Wy (.own 0) [] (Omv rfl) ?_
      refine Wy (.i (IntKind.i64.wrap (Int.fdiv (IntKind.u64.wrap (IntKind.i64.wrap (y20_15 + y21_15))) (2 ^ 1)))) [] (Omv rfl) ?_
      obtain ⟨x167_17, hx167_17, hm⟩ := bnd hm
      obtain ⟨hx167_17i, hx167_17g⟩ := geti_some hx167_17
      refine Wy (.loc 0 ((Int.toNat (IntKind.i64.wrap (Int.fdiv (IntKind.u64.wrap (IntKind.i64.wrap (y20_15 + y21_15))) (2 ^ 1)))) * 3)) [] (Oia rfl enc_GChange_len hx167_17i hx167_17g) ?_
      refine Wy (.agg [(.i x167_17.Loc), (.i x167_17.Time), (.i x167_17.N)]) [] (Lr rfl enc_GChange_len hx167_17g) ?_
      obtain ⟨r169_17, hr169_17, hm⟩ := bnd hm
      refine Wy (.i r169_17) [] (Ocf [] [] [] 0 (ok_tally_order x163_17 x167_17 r169_17 hr169_17) (fun a w => Try.call44 a w) rfl trivial) ?_
      refine Wy (.b (decide (r169_17 < 0))) [] (Obn rfl (fun _ => hb_lss (k := .i64))) ?_
      refine Wy (.b (!decide (r169_17 < 0))) [] (Ocs (by kernel_rfl) (op_un rfl (a1 := .bool (decide (r169_17 < 0))) (by kernel_rfl) (fun _ => hu_not))) ?_
      refine Wdr ?_
      refine Then.normal ?_
      refine Amk 2993155353253689176481146537402947624255349864529951 1 ⟨((.own 0) :: ((.i p1) :: ((.i p2) :: ((.i p3) :: ((.clo (.func 44) [] []) :: (tp 13 ((.i (IntKind.i64.wrap (Int.fdiv (IntKind.u64.wrap (IntKind.i64.wrap (p1 + p3))) (2 ^ 1)))) :: ((.i v137_13) :: ((.i y20_15) :: ((.i y21_15) :: ((.i (IntKind.i64.wrap (v137_13 - 1))) :: ((.i (IntKind.i64.wrap (Int.fdiv (IntKind.u64.wrap (IntKind.i64.wrap (y20_15 + y21_15))) (2 ^ 1)))) :: (tp 147 ((.b (!decide (r169_17 < 0))) :: (tp 48 []))))))))))))))), [(.arr 65 3 (List.length p0) (flatD enc_GChange p0))], 1⟩ ?_
      rcases tf_ (!decide (r169_17 < 0)) with hc171_36 | hc171_36
      ·
       replace hm := cT hc171_36 hm
       refine AWP.if_ true (Eq.trans (by kernel_rfl) (lit_tf (b := (!decide (r169_17 < 0))) hc171_36)) ?_
       refine AWP.text ?_
       refine Wy (.i (IntKind.i64.wrap (Int.fdiv (IntKind.u64.wrap (IntKind.i64.wrap (y20_15 + y21_15))) (2 ^ 1)))) [] (Omv rfl) ?_
       obtain ⟨v173_18, hv173_18, hm⟩ := bnd hm; replace hv173_18 := Option.some.inj hv173_18
       refine Wy (.i v173_18) [] (Ocs (congrArg (fun z => A.d (.lit (.int .i64 z))) hv173_18) (Obn rfl (fun _ => hb_add (k := .i64)))) ?_
       refine Wy (.i v173_18) [] (Omv rfl) ?_
       refine Walk.nil ?_
       refine InBlock.normal ?_
       refine RoundK.normal ?_
       exact Rounds.weak (Weak.toK 8126495 0 0 [0]) (ih_15 (fu_15, v173_18, y21_15) hm (Nat.lt_succ_self _))
      ·
       replace hm := cF hc171_36 hm
       refine AWP.if_ false (Eq.trans (by kernel_rfl) (lit_tf (b := (!decide (r169_17 < 0))) hc171_36)) ?_
       refine AWP.text ?_
       refine Wy (.i (IntKind.i64.wrap (Int.fdiv (IntKind.u64.wrap (IntKind.i64.wrap (y20_15 + y21_15))) (2 ^ 1)))) [] (Omv rfl) ?_
       refine Wy (.i (IntKind.i64.wrap (Int.fdiv (IntKind.u64.wrap (IntKind.i64.wrap (y20_15 + y21_15))) (2 ^ 1)))) [] (Omv rfl) ?_
       refine Walk.nil ?_
       refine InBlock.normal ?_
       refine RoundK.normal ?_
       exact Rounds.weak (Weak.toK 8126495 0 0 [0]) (ih_15 (fu_15, y20_15, (IntKind.i64.wrap (Int.fdiv (IntKind.u64.wrap (IntKind.i64.wrap (y20_15 + y21_15))) (2 ^ 1)))) hm (Nat.lt_succ_self _))
     ·
      replace hm := cF hc151_35 hm
      refine AWP.if_ false (Eq.trans (by kernel_rfl) (lit_tf (b := decide (y20_15 < y21_15)) hc151_35)) ?_
      refine AWP.exit ?_
      refine Then.exit ?_
      refine RoundK.exit ?_
      refine InBlock.same ?_
      refine Then.normal ?_
      refine Amk 1835039 1 ⟨((.own 0) :: ((.i p1) :: ((.i p2) :: ((.i p3) :: ((.clo (.func 44) [] []) :: (tp 13 ((.i (IntKind.i64.wrap (Int.fdiv (IntKind.u64.wrap (IntKind.i64.wrap (p1 + p3))) (2 ^ 1)))) :: ((.i v137_13) :: ((.i y20_15) :: (tp 199 [])))))))))), [(.arr 65 3 (List.length p0) (flatD enc_GChange p0))], 1⟩ ?_
      refine AWP.seq ?_
      refine AWP.text ?_
      refine Wy (.i v137_13) [] (Omv rfl) ?_
      refine Wy (.i y20_15) [] (Omv rfl) ?_
      refine Wy (.i (IntKind.i64.wrap (v137_13 - y20_15))) [] (Obn rfl (fun _ => hb_sub (k := .i64))) ?_
      refine Wy (.i (IntKind.i64.wrap (v137_13 - y20_15))) [] (Omv rfl) ?_
      refine Walk.nil ?_
      refine Then.normal ?_
      refine Amk 18087967 1 ⟨((.own 0) :: ((.i p1) :: ((.i p2) :: ((.i p3) :: ((.clo (.func 44) [] []) :: (tp 13 ((.i (IntKind.i64.wrap (Int.fdiv (IntKind.u64.wrap (IntKind.i64.wrap (p1 + p3))) (2 ^ 1)))) :: (tp 1 ((.i y20_15) :: (tp 3 ((.i (IntKind.i64.wrap (v137_13 - y20_15))) :: (tp 195 [])))))))))))), [(.arr 65 3 (List.length p0) (flatD enc_GChange p0))], 1⟩ ?_
      refine AWP.cutJ (α := (List GChange)) (fun x => match x with | y0_21 => (⟨((.own 0) :: ((.i p1) :: (tp 1 ((.i p3) :: ((.clo (.func 44) [] []) :: (tp 13 ((.i (IntKind.i64.wrap (Int.fdiv (IntKind.u64.wrap (IntKind.i64.wrap (p1 + p3))) (2 ^ 1)))) :: (tp 1 ((.i y20_15) :: (tp 3 ((.i (IntKind.i64.wrap (v137_13 - y20_15))) :: (tp 195 [])))))))))))), [(.arr 65 3 (List.length y0_21) (flatD enc_GChange y0_21))], 1⟩ : St)) (fun x => match x with | y0_21 => m_slices_symMergeCmpFunc_tally_Change__tally_order_j21 p1 p3 v137_13 y20_15 (fun p0 p1 p2 p3 => m_slices_symMergeCmpFunc_tally_Change__tally_order fuR p0 p1 p2 p3) y0_21 = some r) ?_ (fun J21 => ?_)
      ·
       rintro y0_21 hm
       try dsimp only at hm ⊢
       unfold m_slices_symMergeCmpFunc_tally_Change__tally_order_j21 at hm
       refine AWP.cutJ (α := (List GChange)) (fun x => match x with | y0_24 => (⟨((.own 0) :: (tp 2 ((.i p3) :: ((.clo (.func 44) [] []) :: (tp 13 ((.i (IntKind.i64.wrap (Int.fdiv (IntKind.u64.wrap (IntKind.i64.wrap (p1 + p3))) (2 ^ 1)))) :: (tp 5 ((.i (IntKind.i64.wrap (v137_13 - y20_15))) :: (tp 195 []))))))))), [(.arr 65 3 (List.length y0_24) (flatD enc_GChange y0_24))], 1⟩ : St)) (fun x => match x with | y0_24 => m_slices_symMergeCmpFunc_tally_Change__tally_order_j24 p1 p3 v137_13 y20_15 (fun p0 p1 p2 p3 => m_slices_symMergeCmpFunc_tally_Change__tally_order fuR p0 p1 p2 p3) y0_24 = some r) ?_ (fun J24 => ?_)
       ·
        rintro y0_24 hm
        try dsimp only at hm ⊢
        unfold m_slices_symMergeCmpFunc_tally_Change__tally_order_j24 at hm
        refine AWP.seq ?_
        refine AWP.text ?_
        refine Wy (.i (IntKind.i64.wrap (Int.fdiv (IntKind.u64.wrap (IntKind.i64.wrap (p1 + p3))) (2 ^ 1)))) [] (Omv rfl) ?_
        refine Wy (.i (IntKind.i64.wrap (v137_13 - y20_15))) [] (Omv rfl) ?_
        obtain ⟨v208_25, hv208_25, hm⟩ := bnd hm; replace hv208_25 := Option.some.inj hv208_25
        refine Wy (.b v208_25) [] (Ocs (congrArg (fun z => A.d (.lit (.bool z))) hv208_25) (Obn rfl (fun _ => hb_lss (k := .i64)))) ?_
        rcases tf_ v208_25 with hq209_25 | hq209_25
        ·
         replace hm := cT hq209_25 hm
         refine Wy (.b true) [] (Ocs (lit_tf (b := v208_25) hq209_25) (Omv rfl)) ?_
         refine Wy (.i (IntKind.i64.wrap (v137_13 - y20_15))) [] (Omv rfl) ?_
         refine Wy (.i p3) [] (Omv rfl) ?_
         refine Wy (.b (decide ((IntKind.i64.wrap (v137_13 - y20_15)) < p3))) [] (Obn rfl (fun _ => hb_lss (k := .i64))) ?_
         refine Wy (.b (decide ((IntKind.i64.wrap (v137_13 - y20_15)) < p3))) [] (OpT rfl) ?_
         refine Walk.nil ?_
         refine Then.normal ?_
         refine Amk 13164036458569648337239753460458804039861886925068638906805911577 1 ⟨((.own 0) :: (tp 2 ((.i p3) :: ((.clo (.func 44) [] []) :: (tp 13 ((.i (IntKind.i64.wrap (Int.fdiv (IntKind.u64.wrap (IntKind.i64.wrap (p1 + p3))) (2 ^ 1)))) :: (tp 5 ((.i (IntKind.i64.wrap (v137_13 - y20_15))) :: (tp 188 ((.b (decide ((IntKind.i64.wrap (v137_13 - y20_15)) < p3))) :: (tp 6 []))))))))))), [(.arr 65 3 (List.length y0_24) (flatD enc_GChange y0_24))], 1⟩ ?_
         rcases tf_ (decide ((IntKind.i64.wrap (v137_13 - y20_15)) < p3)) with hc213_37 | hc213_37
         ·
          replace hm := cT hc213_37 hm
          refine AWP.if_ true (Eq.trans (by kernel_rfl) (lit_tf (b := decide ((IntKind.i64.wrap (v137_13 - y20_15)) < p3)) hc213_37)) ?_
          refine AWP.text ?_
          refine Wy (.own 0) [] (Omv rfl) ?_
          refine Wy (.i (IntKind.i64.wrap (Int.fdiv (IntKind.u64.wrap (IntKind.i64.wrap (p1 + p3))) (2 ^ 1)))) [] (Omv rfl) ?_
          refine Wy (.i (IntKind.i64.wrap (v137_13 - y20_15))) [] (Omv rfl) ?_
          refine Wy (.i p3) [] (Omv rfl) ?_
          refine Wy (.clo (.func 44) [] []) [] (Omv rfl) ?_
          obtain ⟨r219_26, hr219_26, hm⟩ := bnd hm
          refine Wy (.tup []) [(0, (.arr 65 3 (List.length r219_26) (flatD enc_GChange r219_26)))] (Ocf [0] [] [] 0 (ih y0_24 (IntKind.i64.wrap (Int.fdiv (IntKind.u64.wrap (IntKind.i64.wrap (p1 + p3))) (2 ^ 1))) (IntKind.i64.wrap (v137_13 - y20_15)) p3 r219_26 hr219_26) (fun a w => Try.call56 a w) rfl ⟨rfl, trivial⟩) ?_
          refine Walk.nil ?_
          obtain rfl := Option.some.inj hm
          exact ret_n [0]
         ·
          replace hm := cF hc213_37 hm
          refine AWP.if_ false (Eq.trans (by kernel_rfl) (lit_tf (b := decide ((IntKind.i64.wrap (v137_13 - y20_15)) < p3)) hc213_37)) ?_
          refine AWP.skip ?_
          obtain rfl := Option.some.inj hm
          exact ret_n [0]
        ·
         replace hm := cF hq209_25 hm
         refine Wy (.b false) [] (Ocs (lit_tf (b := v208_25) hq209_25) (Omv rfl)) ?_
         refine Wn ?_
         refine Wn ?_
         refine Wn ?_
         refine Wy (.b false) [] (OpF rfl) ?_
         refine Walk.nil ?_
         refine Then.normal ?_
         refine Amk 13164036458569648337239753460458804039861886925068638906805911577 1 ⟨((.own 0) :: (tp 2 ((.i p3) :: ((.clo (.func 44) [] []) :: (tp 13 ((.i (IntKind.i64.wrap (Int.fdiv (IntKind.u64.wrap (IntKind.i64.wrap (p1 + p3))) (2 ^ 1)))) :: (tp 5 ((.i (IntKind.i64.wrap (v137_13 - y20_15))) :: (tp 188 ((.b false) :: (tp 6 []))))))))))), [(.arr 65 3 (List.length y0_24) (flatD enc_GChange y0_24))], 1⟩ ?_
         refine AWP.if_ false (by kernel_rfl) ?_
         refine AWP.skip ?_
         obtain rfl := Option.some.inj hm
         exact ret_n [0]
       refine AWP.seq ?_
       refine AWP.seq ?_
       refine AWP.text ?_
       refine Wy (.i p1) [] (Omv rfl) ?_
       refine Wy (.i y20_15) [] (Omv rfl) ?_
       refine Wy (.b (decide (p1 < y20_15))) [] (Obn rfl (fun _ => hb_lss (k := .i64))) ?_
       rcases tf_ (decide (p1 < y20_15)) with hq195_22 | hq195_22
       ·
        replace hm := cT hq195_22 hm
        refine Wy (.b true) [] (Ocs (lit_tf (b := decide (p1 < y20_15)) hq195_22) (Omv rfl)) ?_
        refine Wy (.i y20_15) [] (Omv rfl) ?_
        refine Wy (.i (IntKind.i64.wrap (Int.fdiv (IntKind.u64.wrap (IntKind.i64.wrap (p1 + p3))) (2 ^ 1)))) [] (Omv rfl) ?_
        refine Wy (.b (decide (y20_15 < (IntKind.i64.wrap (Int.fdiv (IntKind.u64.wrap (IntKind.i64.wrap (p1 + p3))) (2 ^ 1)))))) [] (Obn rfl (fun _ => hb_lss (k := .i64))) ?_
        refine Wy (.b (decide (y20_15 < (IntKind.i64.wrap (Int.fdiv (IntKind.u64.wrap (IntKind.i64.wrap (p1 + p3))) (2 ^ 1)))))) [] (OpT rfl) ?_
        refine Walk.nil ?_
        refine Then.normal ?_
        refine Amk 803469022129495137770981046170581301261101496891396435738651 1 ⟨((.own 0) :: ((.i p1) :: (tp 1 ((.i p3) :: ((.clo (.func 44) [] []) :: (tp 13 ((.i (IntKind.i64.wrap (Int.fdiv (IntKind.u64.wrap (IntKind.i64.wrap (p1 + p3))) (2 ^ 1)))) :: (tp 1 ((.i y20_15) :: (tp 3 ((.i (IntKind.i64.wrap (v137_13 - y20_15))) :: (tp 174 ((.b (decide (y20_15 < (IntKind.i64.wrap (Int.fdiv (IntKind.u64.wrap (IntKind.i64.wrap (p1 + p3))) (2 ^ 1)))))) :: (tp 20 [])))))))))))))), [(.arr 65 3 (List.length y0_21) (flatD enc_GChange y0_21))], 1⟩ ?_
        rcases tf_ (decide (y20_15 < (IntKind.i64.wrap (Int.fdiv (IntKind.u64.wrap (IntKind.i64.wrap (p1 + p3))) (2 ^ 1))))) with hc199_38 | hc199_38
        ·
         replace hm := cT hc199_38 hm
         refine AWP.if_ true (Eq.trans (by kernel_rfl) (lit_tf (b := decide (y20_15 < (IntKind.i64.wrap (Int.fdiv (IntKind.u64.wrap (IntKind.i64.wrap (p1 + p3))) (2 ^ 1))))) hc199_38)) ?_
         refine AWP.text ?_
         refine Wy (.own 0) [] (Omv rfl) ?_
         refine Wy (.i p1) [] (Omv rfl) ?_
         refine Wy (.i y20_15) [] (Omv rfl) ?_
         refine Wy (.i (IntKind.i64.wrap (Int.fdiv (IntKind.u64.wrap (IntKind.i64.wrap (p1 + p3))) (2 ^ 1)))) [] (Omv rfl) ?_
         refine Wy (.clo (.func 44) [] []) [] (Omv rfl) ?_
         obtain ⟨r205_23, hr205_23, hm⟩ := bnd hm
         refine Wy (.tup []) [(0, (.arr 65 3 (List.length r205_23) (flatD enc_GChange r205_23)))] (Ocf [0] [] [] 0 (ih y0_21 p1 y20_15 (IntKind.i64.wrap (Int.fdiv (IntKind.u64.wrap (IntKind.i64.wrap (p1 + p3))) (2 ^ 1))) r205_23 hr205_23) (fun a w => Try.call56 a w) rfl ⟨rfl, trivial⟩) ?_
         refine Walk.nil ?_
         refine Then.normal ?_
         exact AWP.weak (Weak.toK 17039385 0 0 [0]) (J24 (r205_23) hm)
        ·
         replace hm := cF hc199_38 hm
         refine AWP.if_ false (Eq.trans (by kernel_rfl) (lit_tf (b := decide (y20_15 < (IntKind.i64.wrap (Int.fdiv (IntKind.u64.wrap (IntKind.i64.wrap (p1 + p3))) (2 ^ 1))))) hc199_38)) ?_
         refine AWP.skip ?_
         refine Then.normal ?_
         exact AWP.weak (Weak.toK 17039385 0 0 [0]) (J24 (y0_21) hm)
       ·
        replace hm := cF hq195_22 hm
        refine Wy (.b false) [] (Ocs (lit_tf (b := decide (p1 < y20_15)) hq195_22) (Omv rfl)) ?_
        refine Wn ?_
        refine Wn ?_
        refine Wn ?_
        refine Wy (.b false) [] (OpF rfl) ?_
        refine Walk.nil ?_
        refine Then.normal ?_
        refine Amk 803469022129495137770981046170581301261101496891396435738651 1 ⟨((.own 0) :: ((.i p1) :: (tp 1 ((.i p3) :: ((.clo (.func 44) [] []) :: (tp 13 ((.i (IntKind.i64.wrap (Int.fdiv (IntKind.u64.wrap (IntKind.i64.wrap (p1 + p3))) (2 ^ 1)))) :: (tp 1 ((.i y20_15) :: (tp 3 ((.i (IntKind.i64.wrap (v137_13 - y20_15))) :: (tp 174 ((.b false) :: (tp 20 [])))))))))))))), [(.arr 65 3 (List.length y0_21) (flatD enc_GChange y0_21))], 1⟩ ?_
        refine AWP.if_ false (by kernel_rfl) ?_
        refine AWP.skip ?_
        refine Then.normal ?_
        exact AWP.weak (Weak.toK 17039385 0 0 [0]) (J24 (y0_21) hm)
      refine AWP.seq ?_
      refine AWP.seq ?_
      refine AWP.text ?_
      refine Wy (.i y20_15) [] (Omv rfl) ?_
      refine Wy (.i p2) [] (Omv rfl) ?_
      refine Wy (.b (decide (y20_15 < p2))) [] (Obn rfl (fun _ => hb_lss (k := .i64))) ?_
      rcases tf_ (decide (y20_15 < p2)) with hq181_19 | hq181_19
      ·
       replace hm := cT hq181_19 hm
       refine Wy (.b true) [] (Ocs (lit_tf (b := decide (y20_15 < p2)) hq181_19) (Omv rfl)) ?_
       refine Wy (.i p2) [] (Omv rfl) ?_
       refine Wy (.i (IntKind.i64.wrap (v137_13 - y20_15))) [] (Omv rfl) ?_
       refine Wy (.b (decide (p2 < (IntKind.i64.wrap (v137_13 - y20_15))))) [] (Obn rfl (fun _ => hb_lss (k := .i64))) ?_
       refine Wy (.b (decide (p2 < (IntKind.i64.wrap (v137_13 - y20_15))))) [] (OpT rfl) ?_
       refine Walk.nil ?_
       refine Then.normal ?_
       refine Amk 49039857307708443467467104868809893875799651909893357599 1 ⟨((.own 0) :: ((.i p1) :: ((.i p2) :: ((.i p3) :: ((.clo (.func 44) [] []) :: (tp 13 ((.i (IntKind.i64.wrap (Int.fdiv (IntKind.u64.wrap (IntKind.i64.wrap (p1 + p3))) (2 ^ 1)))) :: (tp 1 ((.i y20_15) :: (tp 3 ((.i (IntKind.i64.wrap (v137_13 - y20_15))) :: (tp 160 ((.b (decide (p2 < (IntKind.i64.wrap (v137_13 - y20_15))))) :: (tp 34 [])))))))))))))), [(.arr 65 3 (List.length p0) (flatD enc_GChange p0))], 1⟩ ?_
       rcases tf_ (decide (p2 < (IntKind.i64.wrap (v137_13 - y20_15)))) with hc185_39 | hc185_39
       ·
        replace hm := cT hc185_39 hm
        refine AWP.if_ true (Eq.trans (by kernel_rfl) (lit_tf (b := decide (p2 < (IntKind.i64.wrap (v137_13 - y20_15)))) hc185_39)) ?_
        refine AWP.text ?_
        refine Wy (.own 0) [] (Omv rfl) ?_
        refine Wy (.i y20_15) [] (Omv rfl) ?_
        refine Wy (.i p2) [] (Omv rfl) ?_
        refine Wy (.i (IntKind.i64.wrap (v137_13 - y20_15))) [] (Omv rfl) ?_
        refine Wy (.clo (.func 44) [] []) [] (Omv rfl) ?_
        obtain ⟨r191_20, hr191_20, hm⟩ := bnd hm
        refine Wy (.tup []) [(0, (.arr 65 3 (List.length r191_20) (flatD enc_GChange r191_20)))] (Ocf [0] [] [] 0 (ok_slices_rotateCmpFunc_tally_Change__tally_order p0 y20_15 p2 (IntKind.i64.wrap (v137_13 - y20_15)) r191_20 hr191_20) (fun a w => Try.call58 a w) rfl ⟨rfl, trivial⟩) ?_
        refine Walk.nil ?_
        refine Then.normal ?_
        exact AWP.weak (Weak.toK 18087963 0 0 [0]) (J21 (r191_20) hm)
       ·
        replace hm := cF hc185_39 hm
        refine AWP.if_ false (Eq.trans (by kernel_rfl) (lit_tf (b := decide (p2 < (IntKind.i64.wrap (v137_13 - y20_15)))) hc185_39)) ?_
        refine AWP.skip ?_
        refine Then.normal ?_
        exact AWP.weak (Weak.toK 18087963 0 0 [0]) (J21 (p0) hm)
      ·
       replace hm := cF hq181_19 hm
       refine Wy (.b false) [] (Ocs (lit_tf (b := decide (y20_15 < p2)) hq181_19) (Omv rfl)) ?_
       refine Wn ?_
       refine Wn ?_
       refine Wn ?_
       refine Wy (.b false) [] (OpF rfl) ?_
       refine Walk.nil ?_
       refine Then.normal ?_
       refine Amk 49039857307708443467467104868809893875799651909893357599 1 ⟨((.own 0) :: ((.i p1) :: ((.i p2) :: ((.i p3) :: ((.clo (.func 44) [] []) :: (tp 13 ((.i (IntKind.i64.wrap (Int.fdiv (IntKind.u64.wrap (IntKind.i64.wrap (p1 + p3))) (2 ^ 1)))) :: (tp 1 ((.i y20_15) :: (tp 3 ((.i (IntKind.i64.wrap (v137_13 - y20_15))) :: (tp 160 ((.b false) :: (tp 34 [])))))))))))))), [(.arr 65 3 (List.length p0) (flatD enc_GChange p0))], 1⟩ ?_
       refine AWP.if_ false (by kernel_rfl) ?_
       refine AWP.skip ?_
       refine Then.normal ?_
       exact AWP.weak (Weak.toK 18087963 0 0 [0]) (J21 (p0) hm)
   refine AWP.seq ?_
   refine AWP.seq ?_
   refine AWP.text ?_
   refine Wy (.i p2) [] (Omv rfl) ?_
   refine Wy (.i (IntKind.i64.wrap (Int.fdiv (IntKind.u64.wrap (IntKind.i64.wrap (p1 + p3))) (2 ^ 1)))) [] (Omv rfl) ?_
   refine Wy (.b (decide ((IntKind.i64.wrap (Int.fdiv (IntKind.u64.wrap (IntKind.i64.wrap (p1 + p3))) (2 ^ 1))) < p2))) [] (Obn rfl (fun _ => hb_gtr (k := .i64))) ?_
   refine Walk.nil ?_
   refine Then.normal ?_
   refine Amk 1393796574908163946345982392040522594910239 1 ⟨((.own 0) :: ((.i p1) :: ((.i p2) :: ((.i p3) :: ((.clo (.func 44) [] []) :: (tp 13 ((.i (IntKind.i64.wrap (Int.fdiv (IntKind.u64.wrap (IntKind.i64.wrap (p1 + p3))) (2 ^ 1)))) :: ((.i v137_13) :: (tp 120 ((.b (decide ((IntKind.i64.wrap (Int.fdiv (IntKind.u64.wrap (IntKind.i64.wrap (p1 + p3))) (2 ^ 1))) < p2))) :: (tp 79 []))))))))))), [(.arr 65 3 (List.length p0) (flatD enc_GChange p0))], 1⟩ ?_
   rcases tf_ (decide ((IntKind.i64.wrap (Int.fdiv (IntKind.u64.wrap (IntKind.i64.wrap (p1 + p3))) (2 ^ 1))) < p2)) with hc140_40 | hc140_40
   ·
    replace hm := cT hc140_40 hm
    refine AWP.if_ true (Eq.trans (by kernel_rfl) (lit_tf (b := decide ((IntKind.i64.wrap (Int.fdiv (IntKind.u64.wrap (IntKind.i64.wrap (p1 + p3))) (2 ^ 1))) < p2)) hc140_40)) ?_
    refine AWP.seq ?_
    refine AWP.text ?_
    refine Wy (.i v137_13) [] (Omv rfl) ?_
    refine Wy (.i p3) [] (Omv rfl) ?_
    refine Wy (.i (IntKind.i64.wrap (v137_13 - p3))) [] (Obn rfl (fun _ => hb_sub (k := .i64))) ?_
    refine Wy (.i (IntKind.i64.wrap (v137_13 - p3))) [] (Omv rfl) ?_
    refine Walk.nil ?_
    refine Then.normal ?_
    refine Amk 1835039 1 ⟨((.own 0) :: ((.i p1) :: ((.i p2) :: ((.i p3) :: ((.clo (.func 44) [] []) :: (tp 13 ((.i (IntKind.i64.wrap (Int.fdiv (IntKind.u64.wrap (IntKind.i64.wrap (p1 + p3))) (2 ^ 1)))) :: ((.i v137_13) :: ((.i (IntKind.i64.wrap (v137_13 - p3))) :: (tp 199 [])))))))))), [(.arr 65 3 (List.length p0) (flatD enc_GChange p0))], 1⟩ ?_
    refine AWP.text ?_
    refine Wy (.i (IntKind.i64.wrap (Int.fdiv (IntKind.u64.wrap (IntKind.i64.wrap (p1 + p3))) (2 ^ 1)))) [] (Omv rfl) ?_
    refine Wy (.i (IntKind.i64.wrap (Int.fdiv (IntKind.u64.wrap (IntKind.i64.wrap (p1 + p3))) (2 ^ 1)))) [] (Omv rfl) ?_
    refine Walk.nil ?_
    refine Then.normal ?_
    exact AWP.weak (Weak.toK 3932191 0 0 [0]) (J14 ((IntKind.i64.wrap (v137_13 - p3)), (IntKind.i64.wrap (Int.fdiv (IntKind.u64.wrap (IntKind.i64.wrap (p1 + p3))) (2 ^ 1)))) hm)
   ·
    replace hm := cF hc140_40 hm
    refine AWP.if_ false (Eq.trans (by kernel_rfl) (lit_tf (b := decide ((IntKind.i64.wrap (Int.fdiv (IntKind.u64.wrap (IntKind.i64.wrap (p1 + p3))) (2 ^ 1))) < p2)) hc140_40)) ?_
    refine AWP.seq ?_
    refine AWP.text ?_
    refine Wy (.i p1) [] (Omv rfl) ?_
    refine Wy (.i p1) [] (Omv rfl) ?_
    refine Walk.nil ?_
    refine Then.normal ?_
    refine Amk 1835039 1 ⟨((.own 0) :: ((.i p1) :: ((.i p2) :: ((.i p3) :: ((.clo (.func 44) [] []) :: (tp 13 ((.i (IntKind.i64.wrap (Int.fdiv (IntKind.u64.wrap (IntKind.i64.wrap (p1 + p3))) (2 ^ 1)))) :: ((.i v137_13) :: ((.i p1) :: (tp 199 [])))))))))), [(.arr 65 3 (List.length p0) (flatD enc_GChange p0))], 1⟩ ?_
    refine AWP.text ?_
    refine Wy (.i p2) [] (Omv rfl) ?_
    refine Wy (.i p2) [] (Omv rfl) ?_
    refine Walk.nil ?_
    refine Then.normal ?_
    exact AWP.weak (Weak.toK 3932191 0 0 [0]) (J14 (p1, p2) hm)

set_option maxRecDepth 20000 in
set_option maxHeartbeats 4000000 in
theorem ok_slices_stableCmpFunc_tally_Change__tally_order (p0 : (List GChange)) (p1 : Int) (r : (List GChange)) (h : m_slices_stableCmpFunc_tally_Change__tally_order p0 p1 = some r) : GCall Try.prog 51 [(.own 0), (.i p1), (.clo (.func 44) [] [])] [(.arr 65 3 (List.length p0) (flatD enc_GChange p0))] (.tup []) [(.arr 65 3 (List.length r) (flatD enc_GChange r))] := by
 refine GCall.of_body (n := 63) (rs := []) Try.func51 rfl rfl rfl ?_
 refine Ato ⟨((.own 0) :: ((.i p1) :: ((.clo (.func 44) [] []) :: (tu 60 [])))), [(.arr 65 3 (List.length p0) (flatD enc_GChange p0))], 1⟩ ?_
 have hm := h
 unfold m_slices_stableCmpFunc_tally_Change__tally_order at hm
 refine AWP.seq ?_
 refine AWP.text ?_
 refine Wy (.i 20) [] (Omv rfl) ?_
 refine Walk.nil ?_
 refine Then.normal ?_
 refine Amk 71 1 ⟨((.own 0) :: ((.i p1) :: ((.clo (.func 44) [] []) :: (tp 3 ((.i 20) :: (tp 56 [])))))), [(.arr 65 3 (List.length p0) (flatD enc_GChange p0))], 1⟩ ?_
 refine AWP.seq ?_
 refine AWP.text ?_
 refine Wy (.i 20) [] (Omv rfl) ?_
 refine Wy (.i 0) [] (Omv rfl) ?_
 refine Wy (.i 20) [] (Omv rfl) ?_
 refine Walk.nil ?_
 refine Then.normal ?_
 refine Amk 455 1 ⟨((.own 0) :: ((.i p1) :: ((.clo (.func 44) [] []) :: (tp 3 ((.i 20) :: ((.i 0) :: ((.i 20) :: (tp 54 [])))))))), [(.arr 65 3 (List.length p0) (flatD enc_GChange p0))], 1⟩ ?_
 refine AWP.seq ?_
 refine AWP.block ?_
 refine AWP.loopI (α := Nat × (List GChange) × Int × Int)
   (fun x => match x with | (fu_0, y0_0, y7_0, y8_0) => (⟨((.own 0) :: ((.i p1) :: ((.clo (.func 44) [] []) :: (tp 3 ((.i 20) :: ((.i y7_0) :: ((.i y8_0) :: (tp 54 [])))))))), [(.arr 65 3 (List.length y0_0) (flatD enc_GChange y0_0))], 1⟩ : St))
   (fun x => match x with | (fu_0, y0_0, y7_0, y8_0) => m_slices_stableCmpFunc_tally_Change__tally_order_l0 p1 fu_0 y0_0 y7_0 y8_0 = some r)
   (fun x => match x with | (fu_0, y0_0, y7_0, y8_0) => fu_0) (1152921504606846976, p0, 0, 20)
   (Weak.toK 455 0 0 [0]) hm ?_
 rintro ⟨fu_0, y0_0, y7_0, y8_0⟩ n_0 hm ih_0
 try dsimp only at hm ih_0 ⊢
 cases fu_0 with
 | zero => exact absurd hm (by unfold m_slices_stableCmpFunc_tally_Change__tally_order_l0; simp)
 | succ fu_0 =>
  unfold m_slices_stableCmpFunc_tally_Change__tally_order_l0 at hm
  refine AWP.seq ?_
  refine AWP.seq ?_
  refine AWP.text ?_
  refine Wy (.i y8_0) [] (Omv rfl) ?_
  refine Wy (.i p1) [] (Omv rfl) ?_
  refine Wy (.b (decide (y8_0 ≤ p1))) [] (Obn rfl (fun _ => hb_leq (k := .i64))) ?_
  refine Walk.nil ?_
  refine Then.normal ?_
  refine Amk 8647 1 ⟨((.own 0) :: ((.i p1) :: ((.clo (.func 44) [] []) :: (tp 3 ((.i 20) :: ((.i y7_0) :: ((.i y8_0) :: (tp 4 ((.b (decide (y8_0 ≤ p1))) :: (tp 49 [])))))))))), [(.arr 65 3 (List.length y0_0) (flatD enc_GChange y0_0))], 1⟩ ?_
  rcases tf_ (decide (y8_0 ≤ p1)) with hc13_7 | hc13_7
  ·
   replace hm := cT hc13_7 hm
   refine AWP.if_ true (Eq.trans (by kernel_rfl) (lit_tf (b := decide (y8_0 ≤ p1)) hc13_7)) ?_
   refine AWP.skip ?_
   refine Then.normal ?_
   refine Amk 455 1 ⟨((.own 0) :: ((.i p1) :: ((.clo (.func 44) [] []) :: (tp 3 ((.i 20) :: ((.i y7_0) :: ((.i y8_0) :: (tp 54 [])))))))), [(.arr 65 3 (List.length y0_0) (flatD enc_GChange y0_0))], 1⟩ ?_
   refine AWP.block ?_
   refine AWP.seq ?_
   refine AWP.text ?_
   refine Wy (.own 0) [] (Omv rfl) ?_
   refine Wy (.i y7_0) [] (Omv rfl) ?_
   refine Wy (.i y8_0) [] (Omv rfl) ?_
   refine Wy (.clo (.func 44) [] []) [] (Omv rfl) ?_
   obtain ⟨r18_1, hr18_1, hm⟩ := bnd hm
   refine Wy (.tup []) [(0, (.arr 65 3 (List.length r18_1) (flatD enc_GChange r18_1)))] (Ocf [0] [] [] 0 (ok_slices_insertionSortCmpFunc_tally_Change__tally_order y0_0 y7_0 y8_0 r18_1 hr18_1) (fun a w => Try.call55 a w) rfl ⟨rfl, trivial⟩) ?_
   refine Walk.nil ?_
   refine Then.normal ?_
   refine Amk 327 1 ⟨((.own 0) :: ((.i p1) :: ((.clo (.func 44) [] []) :: (tp 3 ((.i 20) :: (tp 1 ((.i y8_0) :: (tp 54 [])))))))), [(.arr 65 3 (List.length r18_1) (flatD enc_GChange r18_1))], 1⟩ ?_
   refine AWP.seq ?_
   refine AWP.text ?_
   refine Wy (.i y8_0) [] (Omv rfl) ?_
   refine Wy (.i y8_0) [] (Omv rfl) ?_
   refine Walk.nil ?_
   refine Then.normal ?_
   refine Amk 455 1 ⟨((.own 0) :: ((.i p1) :: ((.clo (.func 44) [] []) :: (tp 3 ((.i 20) :: ((.i y8_0) :: ((.i y8_0) :: (tp 54 [])))))))), [(.arr 65 3 (List.length r18_1) (flatD enc_GChange r18_1))], 1⟩ ?_
   refine AWP.text ?_
   refine Wy (.i y8_0) [] (Omv rfl) ?_
   refine Wy (.i 20) [] (Omv rfl) ?_
   refine Wy (.i (IntKind.i64.wrap (y8_0 + 20))) [] (Obn rfl (fun _ => hb_add (k := .i64))) ?_
   refine Wy (.i (IntKind.i64.wrap (y8_0 + 20))) [] (Omv rfl) ?_
   refine Walk.nil ?_
   refine InBlock.normal ?_
   refine RoundK.normal ?_
   exact Rounds.weak (Weak.toK 455 0 0 [0]) (ih_0 (fu_0, r18_1, y8_0, (IntKind.i64.wrap (y8_0 + 20))) hm (Nat.lt_succ_self _))
  ·
   replace hm := cF hc13_7 hm
   refine AWP.if_ false (Eq.trans (by kernel_rfl) (lit_tf (b := decide (y8_0 ≤ p1)) hc13_7)) ?_
   refine AWP.exit ?_
   refine Then.exit ?_
   refine RoundK.exit ?_
   refine InBlock.same ?_
   refine Then.normal ?_
   refine Amk 199 1 ⟨((.own 0) :: ((.i p1) :: ((.clo (.func 44) [] []) :: (tp 3 ((.i 20) :: ((.i y7_0) :: (tp 55 []))))))), [(.arr 65 3 (List.length y0_0) (flatD enc_GChange y0_0))], 1⟩ ?_
   refine AWP.seq ?_
   refine AWP.text ?_
   refine Wy (.own 0) [] (Omv rfl) ?_
   refine Wy (.i y7_0) [] (Omv rfl) ?_
   refine Wy (.i p1) [] (Omv rfl) ?_
   refine Wy (.clo (.func 44) [] []) [] (Omv rfl) ?_
   obtain ⟨r27_2, hr27_2, hm⟩ := bnd hm
   refine Wy (.tup []) [(0, (.arr 65 3 (List.length r27_2) (flatD enc_GChange r27_2)))] (Ocf [0] [] [] 0 (ok_slices_insertionSortCmpFunc_tally_Change__tally_order y0_0 y7_0 p1 r27_2 hr27_2) (fun a w => Try.call55 a w) rfl ⟨rfl, trivial⟩) ?_
   refine Walk.nil ?_
   refine Then.normal ?_
   refine Amk 71 1 ⟨((.own 0) :: ((.i p1) :: ((.clo (.func 44) [] []) :: (tp 3 ((.i 20) :: (tp 56 [])))))), [(.arr 65 3 (List.length r27_2) (flatD enc_GChange r27_2))], 1⟩ ?_
   refine AWP.block ?_
   refine AWP.loopI (α := Nat × (List GChange) × Int)
     (fun x => match x with | (fu_3, y0_3, y6_3) => (⟨((.own 0) :: ((.i p1) :: ((.clo (.func 44) [] []) :: (tp 3 ((.i y6_3) :: (tp 56 [])))))), [(.arr 65 3 (List.length y0_3) (flatD enc_GChange y0_3))], 1⟩ : St))
     (fun x => match x with | (fu_3, y0_3, y6_3) => m_slices_stableCmpFunc_tally_Change__tally_order_l3 p1 fu_3 y0_3 y6_3 = some r)
     (fun x => match x with | (fu_3, y0_3, y6_3) => fu_3) (1152921504606846976, r27_2, 20)
     (Weak.toK 71 0 0 [0]) hm ?_
   rintro ⟨fu_3, y0_3, y6_3⟩ n_3 hm ih_3
   try dsimp only at hm ih_3 ⊢
   cases fu_3 with
   | zero => exact absurd hm (by unfold m_slices_stableCmpFunc_tally_Change__tally_order_l3; simp)
   | succ fu_3 =>
    unfold m_slices_stableCmpFunc_tally_Change__tally_order_l3 at hm
    refine AWP.seq ?_
    refine AWP.seq ?_
    refine AWP.text ?_
    refine Wy (.i y6_3) [] (Omv rfl) ?_
    refine Wy (.i p1) [] (Omv rfl) ?_
    refine Wy (.b (decide (y6_3 < p1))) [] (Obn rfl (fun _ => hb_lss (k := .i64))) ?_
    refine Walk.nil ?_
    refine Then.normal ?_
    refine Amk 1073741895 1 ⟨((.own 0) :: ((.i p1) :: ((.clo (.func 44) [] []) :: (tp 3 ((.i y6_3) :: (tp 23 ((.b (decide (y6_3 < p1))) :: (tp 32 [])))))))), [(.arr 65 3 (List.length y0_3) (flatD enc_GChange y0_3))], 1⟩ ?_
    rcases tf_ (decide (y6_3 < p1)) with hc30_8 | hc30_8
    ·
     replace hm := cT hc30_8 hm
     refine AWP.if_ true (Eq.trans (by kernel_rfl) (lit_tf (b := decide (y6_3 < p1)) hc30_8)) ?_
     refine AWP.skip ?_
     refine Then.normal ?_
     refine Amk 71 1 ⟨((.own 0) :: ((.i p1) :: ((.clo (.func 44) [] []) :: (tp 3 ((.i y6_3) :: (tp 56 [])))))), [(.arr 65 3 (List.length y0_3) (flatD enc_GChange y0_3))], 1⟩ ?_
     refine AWP.block ?_
     refine AWP.seq ?_
     refine AWP.text ?_
     refine Wy (.i y6_3) [] (Omv rfl) ?_
     refine Wy (.i (IntKind.i64.wrap (2 * y6_3))) [] (Obn rfl (fun _ => hb_mul (k := .i64))) ?_
     refine Wy (.i 0) [] (Omv rfl) ?_
     refine Wy (.i (IntKind.i64.wrap (2 * y6_3))) [] (Omv rfl) ?_
     refine Walk.nil ?_
     refine Then.normal ?_
     refine Amk 455 1 ⟨((.own 0) :: ((.i p1) :: ((.clo (.func 44) [] []) :: (tp 3 ((.i y6_3) :: ((.i 0) :: ((.i (IntKind.i64.wrap (2 * y6_3))) :: (tp 54 [])))))))), [(.arr 65 3 (List.length y0_3) (flatD enc_GChange y0_3))], 1⟩ ?_
     refine AWP.seq ?_
     refine AWP.block ?_
     refine AWP.loopI (α := Nat × (List GChange) × Int × Int)
       (fun x => match x with | (fu_4, y0_4, y7_4, y8_4) => (⟨((.own 0) :: ((.i p1) :: ((.clo (.func 44) [] []) :: (tp 3 ((.i y6_3) :: ((.i y7_4) :: ((.i y8_4) :: (tp 54 [])))))))), [(.arr 65 3 (List.length y0_4) (flatD enc_GChange y0_4))], 1⟩ : St))
       (fun x => match x with | (fu_4, y0_4, y7_4, y8_4) => m_slices_stableCmpFunc_tally_Change__tally_order_l4 p1 y6_3 (fun y0_3 y6_3 => m_slices_stableCmpFunc_tally_Change__tally_order_l3 p1 fu_3 y0_3 y6_3) fu_4 y0_4 y7_4 y8_4 = some r)
       (fun x => match x with | (fu_4, y0_4, y7_4, y8_4) => fu_4) (1152921504606846976, y0_3, 0, (IntKind.i64.wrap (2 * y6_3)))
       (Weak.toK 455 0 0 [0]) hm ?_
     rintro ⟨fu_4, y0_4, y7_4, y8_4⟩ n_4 hm ih_4
     try dsimp only at hm ih_4 ⊢
     cases fu_4 with
     | zero => exact absurd hm (by unfold m_slices_stableCmpFunc_tally_Change__tally_order_l4; simp)
     | succ fu_4 =>
      unfold m_slices_stableCmpFunc_tally_Change__tally_order_l4 at hm
      refine AWP.seq ?_
      refine AWP.seq ?_
      refine AWP.text ?_
      refine Wy (.i y8_4) [] (Omv rfl) ?_
      refine Wy (.i p1) [] (Omv rfl) ?_
      refine Wy (.b (decide (y8_4 ≤ p1))) [] (Obn rfl (fun _ => hb_leq (k := .i64))) ?_
      refine Walk.nil ?_
      refine Then.normal ?_
      refine Amk 34359738823 1 ⟨((.own 0) :: ((.i p1) :: ((.clo (.func 44) [] []) :: (tp 3 ((.i y6_3) :: ((.i y7_4) :: ((.i y8_4) :: (tp 26 ((.b (decide (y8_4 ≤ p1))) :: (tp 27 [])))))))))), [(.arr 65 3 (List.length y0_4) (flatD enc_GChange y0_4))], 1⟩ ?_
      rcases tf_ (decide (y8_4 ≤ p1)) with hc35_9 | hc35_9
      ·
       replace hm := cT hc35_9 hm
       refine AWP.if_ true (Eq.trans (by kernel_rfl) (lit_tf (b := decide (y8_4 ≤ p1)) hc35_9)) ?_
       refine AWP.skip ?_
       refine Then.normal ?_
       refine Amk 455 1 ⟨((.own 0) :: ((.i p1) :: ((.clo (.func 44) [] []) :: (tp 3 ((.i y6_3) :: ((.i y7_4) :: ((.i y8_4) :: (tp 54 [])))))))), [(.arr 65 3 (List.length y0_4) (flatD enc_GChange y0_4))], 1⟩ ?_
       refine AWP.block ?_
       refine AWP.seq ?_
       refine AWP.text ?_
       refine Wy (.own 0) [] (Omv rfl) ?_
       refine Wy (.i y7_4) [] (Omv rfl) ?_
       refine Wy (.i y7_4) [] (Omv rfl) ?_
       refine Wy (.i y6_3) [] (Omv rfl) ?_
       refine Wy (.i (IntKind.i64.wrap (y7_4 + y6_3))) [] (Obn rfl (fun _ => hb_add (k := .i64))) ?_
       refine Wy (.i y8_4) [] (Omv rfl) ?_
       refine Wy (.clo (.func 44) [] []) [] (Omv rfl) ?_
       obtain ⟨r43_5, hr43_5, hm⟩ := bnd hm
       refine Wy (.tup []) [(0, (.arr 65 3 (List.length r43_5) (flatD enc_GChange r43_5)))] (Ocf [0] [] [] 0 (ok_slices_symMergeCmpFunc_tally_Change__tally_order 1152921504606846976 y0_4 y7_4 (IntKind.i64.wrap (y7_4 + y6_3)) y8_4 r43_5 hr43_5) (fun a w => Try.call56 a w) rfl ⟨rfl, trivial⟩) ?_
       refine Walk.nil ?_
       refine Then.normal ?_
       refine Amk 327 1 ⟨((.own 0) :: ((.i p1) :: ((.clo (.func 44) [] []) :: (tp 3 ((.i y6_3) :: (tp 1 ((.i y8_4) :: (tp 54 [])))))))), [(.arr 65 3 (List.length r43_5) (flatD enc_GChange r43_5))], 1⟩ ?_
       refine AWP.seq ?_
       refine AWP.text ?_
       refine Wy (.i y8_4) [] (Omv rfl) ?_
       refine Wy (.i y8_4) [] (Omv rfl) ?_
       refine Walk.nil ?_
       refine Then.normal ?_
       refine Amk 455 1 ⟨((.own 0) :: ((.i p1) :: ((.clo (.func 44) [] []) :: (tp 3 ((.i y6_3) :: ((.i y8_4) :: ((.i y8_4) :: (tp 54 [])))))))), [(.arr 65 3 (List.length r43_5) (flatD enc_GChange r43_5))], 1⟩ ?_
       refine AWP.text ?_
       refine Wy (.i y8_4) [] (Omv rfl) ?_
       refine Wy (.i y6_3) [] (Omv rfl) ?_
       refine Wy (.i (IntKind.i64.wrap (2 * y6_3))) [] (Obn rfl (fun _ => hb_mul (k := .i64))) ?_
       refine Wy (.i (IntKind.i64.wrap (y8_4 + (IntKind.i64.wrap (2 * y6_3))))) [] (Obn rfl (fun _ => hb_add (k := .i64))) ?_
       refine Wy (.i (IntKind.i64.wrap (y8_4 + (IntKind.i64.wrap (2 * y6_3))))) [] (Omv rfl) ?_
       refine Walk.nil ?_
       refine InBlock.normal ?_
       refine RoundK.normal ?_
       exact Rounds.weak (Weak.toK 455 0 0 [0]) (ih_4 (fu_4, r43_5, y8_4, (IntKind.i64.wrap (y8_4 + (IntKind.i64.wrap (2 * y6_3))))) hm (Nat.lt_succ_self _))
      ·
       replace hm := cF hc35_9 hm
       refine AWP.if_ false (Eq.trans (by kernel_rfl) (lit_tf (b := decide (y8_4 ≤ p1)) hc35_9)) ?_
       refine AWP.exit ?_
       refine Then.exit ?_
       refine RoundK.exit ?_
       refine InBlock.same ?_
       refine Then.normal ?_
       refine Amk 199 1 ⟨((.own 0) :: ((.i p1) :: ((.clo (.func 44) [] []) :: (tp 3 ((.i y6_3) :: ((.i y7_4) :: (tp 55 []))))))), [(.arr 65 3 (List.length y0_4) (flatD enc_GChange y0_4))], 1⟩ ?_
       refine AWP.seq ?_
       refine AWP.seq ?_
       refine AWP.text ?_
       refine Wy (.i y7_4) [] (Omv rfl) ?_
       refine Wy (.i y6_3) [] (Omv rfl) ?_
       refine Wy (.i (IntKind.i64.wrap (y7_4 + y6_3))) [] (Obn rfl (fun _ => hb_add (k := .i64))) ?_
       refine Wy (.i (IntKind.i64.wrap (y7_4 + y6_3))) [] (Omv rfl) ?_
       refine Walk.nil ?_
       refine Then.normal ?_
       refine Amk 711 1 ⟨((.own 0) :: ((.i p1) :: ((.clo (.func 44) [] []) :: (tp 3 ((.i y6_3) :: ((.i y7_4) :: (tp 1 ((.i (IntKind.i64.wrap (y7_4 + y6_3))) :: (tp 53 []))))))))), [(.arr 65 3 (List.length y0_4) (flatD enc_GChange y0_4))], 1⟩ ?_
       refine AWP.seq ?_
       refine AWP.text ?_
       refine Wy (.i (IntKind.i64.wrap (y7_4 + y6_3))) [] (Omv rfl) ?_
       refine Wy (.i p1) [] (Omv rfl) ?_
       refine Wy (.b (decide ((IntKind.i64.wrap (y7_4 + y6_3)) < p1))) [] (Obn rfl (fun _ => hb_lss (k := .i64))) ?_
       refine Walk.nil ?_
       refine Then.normal ?_
       refine Amk 18014398509482695 1 ⟨((.own 0) :: ((.i p1) :: ((.clo (.func 44) [] []) :: (tp 3 ((.i y6_3) :: ((.i y7_4) :: (tp 1 ((.i (IntKind.i64.wrap (y7_4 + y6_3))) :: (tp 44 ((.b (decide ((IntKind.i64.wrap (y7_4 + y6_3)) < p1))) :: (tp 8 []))))))))))), [(.arr 65 3 (List.length y0_4) (flatD enc_GChange y0_4))], 1⟩ ?_
       rcases tf_ (decide ((IntKind.i64.wrap (y7_4 + y6_3)) < p1)) with hc54_10 | hc54_10
       ·
        replace hm := cT hc54_10 hm
        refine AWP.if_ true (Eq.trans (by kernel_rfl) (lit_tf (b := decide ((IntKind.i64.wrap (y7_4 + y6_3)) < p1)) hc54_10)) ?_
        refine AWP.text ?_
        refine Wy (.own 0) [] (Omv rfl) ?_
        refine Wy (.i y7_4) [] (Omv rfl) ?_
        refine Wy (.i (IntKind.i64.wrap (y7_4 + y6_3))) [] (Omv rfl) ?_
        refine Wy (.i p1) [] (Omv rfl) ?_
        refine Wy (.clo (.func 44) [] []) [] (Omv rfl) ?_
        obtain ⟨r60_6, hr60_6, hm⟩ := bnd hm
        refine Wy (.tup []) [(0, (.arr 65 3 (List.length r60_6) (flatD enc_GChange r60_6)))] (Ocf [0] [] [] 0 (ok_slices_symMergeCmpFunc_tally_Change__tally_order 1152921504606846976 y0_4 y7_4 (IntKind.i64.wrap (y7_4 + y6_3)) p1 r60_6 hr60_6) (fun a w => Try.call56 a w) rfl ⟨rfl, trivial⟩) ?_
        refine Walk.nil ?_
        refine Then.normal ?_
        refine Amk 71 1 ⟨((.own 0) :: ((.i p1) :: ((.clo (.func 44) [] []) :: (tp 3 ((.i y6_3) :: (tp 56 [])))))), [(.arr 65 3 (List.length r60_6) (flatD enc_GChange r60_6))], 1⟩ ?_
        refine AWP.text ?_
        refine Wy (.i y6_3) [] (Omv rfl) ?_
        refine Wy (.i (IntKind.i64.wrap (y6_3 * 2))) [] (Obn rfl (fun _ => hb_mul (k := .i64))) ?_
        refine Wy (.i (IntKind.i64.wrap (y6_3 * 2))) [] (Omv rfl) ?_
        refine Walk.nil ?_
        refine InBlock.normal ?_
        refine RoundK.normal ?_
        exact Rounds.weak (Weak.toK 71 0 0 [0]) (ih_3 (fu_3, r60_6, (IntKind.i64.wrap (y6_3 * 2))) hm (Nat.lt_succ_self _))
       ·
        replace hm := cF hc54_10 hm
        refine AWP.if_ false (Eq.trans (by kernel_rfl) (lit_tf (b := decide ((IntKind.i64.wrap (y7_4 + y6_3)) < p1)) hc54_10)) ?_
        refine AWP.skip ?_
        refine Then.normal ?_
        refine Amk 71 1 ⟨((.own 0) :: ((.i p1) :: ((.clo (.func 44) [] []) :: (tp 3 ((.i y6_3) :: (tp 56 [])))))), [(.arr 65 3 (List.length y0_4) (flatD enc_GChange y0_4))], 1⟩ ?_
        refine AWP.text ?_
        refine Wy (.i y6_3) [] (Omv rfl) ?_
        refine Wy (.i (IntKind.i64.wrap (y6_3 * 2))) [] (Obn rfl (fun _ => hb_mul (k := .i64))) ?_
        refine Wy (.i (IntKind.i64.wrap (y6_3 * 2))) [] (Omv rfl) ?_
        refine Walk.nil ?_
        refine InBlock.normal ?_
        refine RoundK.normal ?_
        exact Rounds.weak (Weak.toK 71 0 0 [0]) (ih_3 (fu_3, y0_4, (IntKind.i64.wrap (y6_3 * 2))) hm (Nat.lt_succ_self _))
    ·
     replace hm := cF hc30_8 hm
     refine AWP.if_ false (Eq.trans (by kernel_rfl) (lit_tf (b := decide (y6_3 < p1)) hc30_8)) ?_
     refine AWP.exit ?_
     refine Then.exit ?_
     refine RoundK.exit ?_
     refine InBlock.same ?_
     obtain rfl := Option.some.inj hm
     exact ret_n [0]

set_option maxRecDepth 20000 in
set_option maxHeartbeats 4000000 in
theorem ok_slices_SortStableFunc_Change__tally_order (p0 : (List GChange)) (r : (List GChange)) (h : m_slices_SortStableFunc_Change__tally_order p0 = some r) : GCall Try.prog 43 [(.own 0), (.clo (.func 44) [] [])] [(.arr 65 3 (List.length p0) (flatD enc_GChange p0))] (.tup []) [(.arr 65 3 (List.length r) (flatD enc_GChange r))] := by
 refine GCall.of_body (n := 9) (rs := []) Try.func43 rfl rfl rfl ?_
 refine Ato ⟨((.own 0) :: ((.clo (.func 44) [] []) :: (tu 7 []))), [(.arr 65 3 (List.length p0) (flatD enc_GChange p0))], 1⟩ ?_
 have hm := h
 unfold m_slices_SortStableFunc_Change__tally_order at hm
 refine AWP.text ?_
 refine Wy (.own 0) [] (Omv rfl) ?_
 refine Wy (.own 0) [] (Omv rfl) ?_
 refine Wy (.i ((List.length p0 : Nat) : Int)) [] (Oln rfl) ?_
 refine Wy (.clo (.func 44) [] []) [] (Omv rfl) ?_
 obtain ⟨r8_0, hr8_0, hm⟩ := bnd hm
 refine Wy (.tup []) [(0, (.arr 65 3 (List.length r8_0) (flatD enc_GChange r8_0)))] (Ocf [0] [] [] 0 (ok_slices_stableCmpFunc_tally_Change__tally_order p0 ((List.length p0 : Nat) : Int) r8_0 hr8_0) (fun a w => Try.call51 a w) rfl ⟨rfl, trivial⟩) ?_
 refine Walk.nil ?_
 obtain rfl := Option.some.inj hm
 exact ret_n [0]

set_option maxRecDepth 20000 in
set_option maxHeartbeats 4000000 in
theorem ok_tally_Normal_1 (p0 : GChange) (r : Bool) (h : m_tally_Normal_1 p0 = some r) : GCall Try.prog 46 [(.agg [(.i p0.Loc), (.i p0.Time), (.i p0.N)])] [] (.b r) [] := by
 refine GCall.of_body (n := 6) (rs := [(.tmp 2)]) Try.func46 rfl rfl rfl ?_
 refine Ato ⟨((.agg [(.i p0.Loc), (.i p0.Time), (.i p0.N)]) :: (tu 5 [])), [], 0⟩ ?_
 have hm := h
 unfold m_tally_Normal_1 at hm
 refine AWP.seq ?_
 refine AWP.text ?_
 refine Wy (.loc 0 0) [(0, (.box [(.i p0.Loc), (.i p0.Time), (.i p0.N)]))] (Obx rfl) ?_
 refine Wy (.b false) [] (Omv rfl) ?_
 refine Walk.nil ?_
 refine Then.normal ?_
 refine Amk 2 1 ⟨(tp 1 ((.loc 0 0) :: (tp 4 []))), [(.box [(.i p0.Loc), (.i p0.Time), (.i p0.N)])], 0⟩ ?_
 refine AWP.seq ?_
 refine AWP.text ?_
 refine Wy (.loc 0 2) [] (Ofa rfl) ?_
 refine Wy (.i p0.N) [] (Old rfl) ?_
 refine Wy (.b (decide (p0.N = 0))) [] (Obn rfl (fun _ => hb_eql (k := .i64))) ?_
 refine Wy (.b (decide (p0.N = 0))) [] (Omv rfl) ?_
 refine Walk.nil ?_
 refine Then.normal ?_
 refine AWP.ret ?_
 obtain rfl := Option.some.inj hm
 exact ret_i []

set_option maxRecDepth 20000 in
set_option maxHeartbeats 4000000 in
theorem ok_slices_IndexFunc_Change__tally_Normal_1 (p0 : (List GChange)) (r : Int) (h : m_slices_IndexFunc_Change__tally_Normal_1 p0 = some r) : GCall Try.prog 54 [(.l enc_GChange p0), (.clo (.func 46) [] [])] [] (.i r) [] := by
 refine GCall.of_body (n := 19) (rs := [(.tmp 4)]) Try.func54 rfl rfl rfl ?_
 refine Ato ⟨((.l enc_GChange p0) :: ((.clo (.func 46) [] []) :: (tu 17 []))), [], 0⟩ ?_
 have hm := h
 unfold m_slices_IndexFunc_Change__tally_Normal_1 at hm
 refine AWP.seq ?_
 refine AWP.text ?_
 refine Wy (.i 0) [] (Omv rfl) ?_
 refine Walk.nil ?_
 refine Then.normal ?_
 refine Amk 3 0 ⟨((.l enc_GChange p0) :: ((.clo (.func 46) [] []) :: (tp 17 []))), [], 0⟩ ?_
 refine AWP.seq ?_
 refine AWP.seq ?_
 refine AWP.text ?_
 refine Wy (.l enc_GChange p0) [] (Omv rfl) ?_
 refine Wy (.i ((List.length p0 : Nat) : Int)) [] (Oln rfl) ?_
 refine Wy (.i 0) [] (Omv rfl) ?_
 refine Walk.nil ?_
 refine Then.normal ?_
 refine Amk 387 0 ⟨((.l enc_GChange p0) :: ((.clo (.func 46) [] []) :: (tp 5 ((.i ((List.length p0 : Nat) : Int)) :: ((.i 0) :: (tp 10 [])))))), [], 0⟩ ?_
 refine AWP.block ?_
 refine AWP.loopI (α := Nat × Int)
   (fun x => match x with | (fu_1, y8_1) => (⟨((.l enc_GChange p0) :: ((.clo (.func 46) [] []) :: (tp 5 ((.i ((List.length p0 : Nat) : Int)) :: ((.i y8_1) :: (tp 10 [])))))), [], 0⟩ : St))
   (fun x => match x with | (fu_1, y8_1) => m_slices_IndexFunc_Change__tally_Normal_1_l1 p0 fu_1 y8_1 = some r)
   (fun x => match x with | (fu_1, y8_1) => fu_1) (1152921504606846976, 0)
   (Weak.toK 387 0 0 []) hm ?_
 rintro ⟨fu_1, y8_1⟩ n_1 hm ih_1
 try dsimp only at hm ih_1 ⊢
 cases fu_1 with
 | zero => exact absurd hm (by unfold m_slices_IndexFunc_Change__tally_Normal_1_l1; simp)
 | succ fu_1 =>
  unfold m_slices_IndexFunc_Change__tally_Normal_1_l1 at hm
  refine AWP.seq ?_
  refine AWP.text ?_
  refine Wy (.b (decide (y8_1 < ((List.length p0 : Nat) : Int)))) [] (Obn rfl (fun _ => hb_lss (k := .i64))) ?_
  refine Walk.nil ?_
  refine Then.normal ?_
  refine Amk 899 0 ⟨((.l enc_GChange p0) :: ((.clo (.func 46) [] []) :: (tp 5 ((.i ((List.length p0 : Nat) : Int)) :: ((.i y8_1) :: ((.b (decide (y8_1 < ((List.length p0 : Nat) : Int)))) :: (tp 9 []))))))), [], 0⟩ ?_
  refine AWP.seq ?_
  rcases tf_ (decide (y8_1 < ((List.length p0 : Nat) : Int))) with hc9_3 | hc9_3
  ·
   replace hm := cT hc9_3 hm
   refine AWP.if_ true (Eq.trans (by kernel_rfl) (lit_tf (b := decide (y8_1 < ((List.length p0 : Nat) : Int))) hc9_3)) ?_
   refine AWP.skip ?_
   refine Then.normal ?_
   refine Amk 387 0 ⟨((.l enc_GChange p0) :: ((.clo (.func 46) [] []) :: (tp 5 ((.i ((List.length p0 : Nat) : Int)) :: ((.i y8_1) :: (tp 10 [])))))), [], 0⟩ ?_
   refine AWP.seq ?_
   refine AWP.block ?_
   refine AWP.seq ?_
   refine AWP.text ?_
   refine Wy (.i y8_1) [] (Omv rfl) ?_
   refine Wy (.i y8_1) [] (Omv rfl) ?_
   refine Walk.nil ?_
   refine Then.normal ?_
   refine Amk 419 0 ⟨((.l enc_GChange p0) :: ((.clo (.func 46) [] []) :: (tp 3 ((.i y8_1) :: (tp 1 ((.i ((List.length p0 : Nat) : Int)) :: ((.i y8_1) :: (tp 10 [])))))))), [], 0⟩ ?_
   refine AWP.seq ?_
   refine AWP.text ?_
   refine Wy (.clo (.func 46) [] []) [] (Omv rfl) ?_
   refine Wy (.l enc_GChange p0) [] (Omv rfl) ?_
   refine Wy (.i y8_1) [] (Omv rfl) ?_
   obtain ⟨x14_2, hx14_2, hm⟩ := bnd hm
   obtain ⟨hx14_2i, hx14_2g⟩ := geti_some hx14_2
   refine Wy (.d (.ref (List.drop ((Int.toNat y8_1) * 3) (flatD enc_GChange p0)))) [] (Oia rfl enc_GChange_len hx14_2i hx14_2g) ?_
   refine Wy (.agg [(.i x14_2.Loc), (.i x14_2.Time), (.i x14_2.N)]) [] (Lf rfl enc_GChange_len hx14_2g) ?_
   obtain ⟨r16_2, hr16_2, hm⟩ := bnd hm
   refine Wy (.b r16_2) [] (Ocf [] [] [] 0 (ok_tally_Normal_1 x14_2 r16_2 hr16_2) (fun a w => Try.call46 a w) rfl trivial) ?_
   refine Walk.nil ?_
   refine Then.normal ?_
   refine Amk 65955 0 ⟨((.l enc_GChange p0) :: ((.clo (.func 46) [] []) :: (tp 3 ((.i y8_1) :: (tp 1 ((.i ((List.length p0 : Nat) : Int)) :: ((.i y8_1) :: (tp 7 ((.b r16_2) :: (tp 2 [])))))))))), [], 0⟩ ?_
   rcases tf_ r16_2 with hc16_4 | hc16_4
   ·
    replace hm := cT hc16_4 hm
    refine AWP.if_ true (Eq.trans (by kernel_rfl) (lit_tf (b := r16_2) hc16_4)) ?_
    refine AWP.seq ?_
    refine AWP.text ?_
    refine Wy (.i y8_1) [] (Omv rfl) ?_
    refine Wy (.i y8_1) [] (Omv rfl) ?_
    refine Walk.nil ?_
    refine Then.normal ?_
    refine AWP.ret ?_
    refine InBlock.ret ?_
    refine Then.ret ?_
    refine RoundK.ret ?_
    refine InBlock.ret ?_
    refine Then.ret ?_
    obtain rfl := Option.some.inj hm
    exact ret_i []
   ·
    replace hm := cF hc16_4 hm
    refine AWP.if_ false (Eq.trans (by kernel_rfl) (lit_tf (b := r16_2) hc16_4)) ?_
    refine AWP.skip ?_
    refine InBlock.normal ?_
    refine Then.normal ?_
    refine Amk 387 0 ⟨((.l enc_GChange p0) :: ((.clo (.func 46) [] []) :: (tp 5 ((.i ((List.length p0 : Nat) : Int)) :: ((.i y8_1) :: (tp 10 [])))))), [], 0⟩ ?_
    refine AWP.text ?_
    refine Wy (.i (IntKind.i64.wrap (y8_1 + 1))) [] (Obn rfl (fun _ => hb_add (k := .i64))) ?_
    refine Wy (.i (IntKind.i64.wrap (y8_1 + 1))) [] (Omv rfl) ?_
    refine Walk.nil ?_
    refine RoundK.normal ?_
    exact Rounds.weak (Weak.toK 387 0 0 []) (ih_1 (fu_1, (IntKind.i64.wrap (y8_1 + 1))) hm (Nat.lt_succ_self _))
  ·
   replace hm := cF hc9_3 hm
   refine AWP.if_ false (Eq.trans (by kernel_rfl) (lit_tf (b := decide (y8_1 < ((List.length p0 : Nat) : Int))) hc9_3)) ?_
   refine AWP.exit ?_
   refine Then.exit ?_
   refine RoundK.exit ?_
   refine InBlock.same ?_
   refine Then.normal ?_
   refine Amk 0 0 ⟨(tp 19 []), [], 0⟩ ?_
   refine AWP.seq ?_
   refine AWP.text ?_
   refine Wy (.i (-1)) [] (Omv rfl) ?_
   refine Walk.nil ?_
   refine Then.normal ?_
   refine AWP.ret ?_
   obtain rfl := Option.some.inj hm
   exact ret_i []

set_option maxRecDepth 20000 in
set_option maxHeartbeats 4000000 in
theorem ok_slices_DeleteFunc_Change__tally_Normal_1 (p0 : (List GChange)) (r : (List GChange)) (h : m_slices_DeleteFunc_Change__tally_Normal_1 p0 = some r) : GCall Try.prog 45 [(.own 0), (.clo (.func 46) [] [])] [(.arr 65 3 (List.length p0) (flatD enc_GChange p0))] (.l enc_GChange r) [.gone] := by
 refine GCall.of_body (n := 42) (rs := [(.tmp 4)]) Try.func45 rfl rfl rfl ?_
 refine Ato ⟨((.own 0) :: ((.clo (.func 46) [] []) :: (tu 40 []))), [(.arr 65 3 (List.length p0) (flatD enc_GChange p0))], 1⟩ ?_
 have hm := h
 unfold m_slices_DeleteFunc_Change__tally_Normal_1 at hm
 refine AWP.seq ?_
 refine AWP.text ?_
 refine Wy (.d .nil) [] (Omv rfl) ?_
 refine Walk.nil ?_
 refine Then.normal ?_
 refine Amk 3 1 ⟨((.own 0) :: ((.clo (.func 46) [] []) :: (tp 40 []))), [(.arr 65 3 (List.length p0) (flatD enc_GChange p0))], 1⟩ ?_
 refine AWP.seq ?_
 refine AWP.text ?_
 refine Wy (.own 0) [] (Omv rfl) ?_
 refine Wy (.clo (.func 46) [] []) [] (Omv rfl) ?_
 obtain ⟨r10_0, hr10_0, hm⟩ := bnd hm
 refine Wy (.i r10_0) [] (Ocp [] [] [0] 0 (ok_slices_IndexFunc_Change__tally_Normal_1 p0 r10_0 hr10_0) (plain_triv (by simp [A.Plain, A.Plains, D.Plain, byteD])) (fun a w => Try.call54 a w) rfl trivial) ?_
 refine Wy (.i r10_0) [] (Omv rfl) ?_
 refine Walk.nil ?_
 refine Then.normal ?_
 refine Amk 35 1 ⟨((.own 0) :: ((.clo (.func 46) [] []) :: (tp 3 ((.i r10_0) :: (tp 36 []))))), [(.arr 65 3 (List.length p0) (flatD enc_GChange p0))], 1⟩ ?_
 refine AWP.seq ?_
 refine AWP.seq ?_
 refine AWP.text ?_
 refine Wy (.i r10_0) [] (Omv rfl) ?_
 refine Wy (.b (decide (r10_0 = (-1)))) [] (Obn rfl (fun _ => hb_eql (k := .i64))) ?_
 refine Walk.nil ?_
 refine Then.normal ?_
 refine Amk 4131 1 ⟨((.own 0) :: ((.clo (.func 46) [] []) :: (tp 3 ((.i r10_0) :: (tp 6 ((.b (decide (r10_0 = (-1)))) :: (tp 29 []))))))), [(.arr 65 3 (List.length p0) (flatD enc_GChange p0))], 1⟩ ?_
 rcases tf_ (decide (r10_0 = (-1))) with hc12_8 | hc12_8
 ·
  replace hm := cT hc12_8 hm
  refine AWP.if_ true (Eq.trans (by kernel_rfl) (lit_tf (b := decide (r10_0 = (-1))) hc12_8)) ?_
  refine AWP.seq ?_
  refine AWP.text ?_
  refine Wy (.own 0) [] (Omv rfl) ?_
  refine Wy (.own 0) [] (Omv rfl) ?_
  refine Walk.nil ?_
  refine Then.normal ?_
  refine Afz [0] ⟨((.l enc_GChange p0) :: ((.clo (.func 46) [] []) :: (tp 2 ((.l enc_GChange p0) :: ((.i r10_0) :: (tp 6 ((.b (decide (r10_0 = (-1)))) :: ((.l enc_GChange p0) :: (tp 28 []))))))))), [(.fro 65 3 (List.length p0) (flatD enc_GChange p0))], 1⟩ ?_
  refine Ago 0 ⟨((.l enc_GChange p0) :: ((.clo (.func 46) [] []) :: (tp 2 ((.l enc_GChange p0) :: ((.i r10_0) :: (tp 6 ((.b (decide (r10_0 = (-1)))) :: ((.l enc_GChange p0) :: (tp 28 []))))))))), [.gone], 1⟩ ?_
  refine AWP.ret ?_
  refine Then.ret ?_
  obtain rfl := Option.some.inj hm
  exact ret_i [0]
 ·
  replace hm := cF hc12_8 hm
  refine AWP.if_ false (Eq.trans (by kernel_rfl) (lit_tf (b := decide (r10_0 = (-1))) hc12_8)) ?_
  refine AWP.skip ?_
  refine Then.normal ?_
  refine Amk 35 1 ⟨((.own 0) :: ((.clo (.func 46) [] []) :: (tp 3 ((.i r10_0) :: (tp 36 []))))), [(.arr 65 3 (List.length p0) (flatD enc_GChange p0))], 1⟩ ?_
  refine AWP.seq ?_
  refine AWP.seq ?_
  refine AWP.text ?_
  refine Wy (.i r10_0) [] (Omv rfl) ?_
  refine Wy (.i (IntKind.i64.wrap (r10_0 + 1))) [] (Obn rfl (fun _ => hb_add (k := .i64))) ?_
  refine Wy (.i (IntKind.i64.wrap (r10_0 + 1))) [] (Omv rfl) ?_
  refine Walk.nil ?_
  refine Then.normal ?_
  refine Amk 99 1 ⟨((.own 0) :: ((.clo (.func 46) [] []) :: (tp 3 ((.i r10_0) :: ((.i (IntKind.i64.wrap (r10_0 + 1))) :: (tp 35 [])))))), [(.arr 65 3 (List.length p0) (flatD enc_GChange p0))], 1⟩ ?_
  refine AWP.block ?_
  refine AWP.loopI (α := Nat × (List GChange) × Int × Int)
    (fun x => match x with | (fu_1, y0_1, y5_1, y6_1) => (⟨((.own 0) :: ((.clo (.func 46) [] []) :: (tp 3 ((.i y5_1) :: ((.i y6_1) :: (tp 35 [])))))), [(.arr 65 3 (List.length y0_1) (flatD enc_GChange y0_1))], 1⟩ : St))
    (fun x => match x with | (fu_1, y0_1, y5_1, y6_1) => m_slices_DeleteFunc_Change__tally_Normal_1_l1  fu_1 y0_1 y5_1 y6_1 = some r)
    (fun x => match x with | (fu_1, y0_1, y5_1, y6_1) => fu_1) (1152921504606846976, p0, r10_0, (IntKind.i64.wrap (r10_0 + 1)))
    (Weak.toK 99 0 0 [0]) hm ?_
  rintro ⟨fu_1, y0_1, y5_1, y6_1⟩ n_1 hm ih_1
  try dsimp only at hm ih_1 ⊢
  cases fu_1 with
  | zero => exact absurd hm (by unfold m_slices_DeleteFunc_Change__tally_Normal_1_l1; simp)
  | succ fu_1 =>
   unfold m_slices_DeleteFunc_Change__tally_Normal_1_l1 at hm
   refine AWP.seq ?_
   refine AWP.seq ?_
   refine AWP.text ?_
   refine Wy (.i y6_1) [] (Omv rfl) ?_
   refine Wy (.own 0) [] (Omv rfl) ?_
   refine Wy (.i ((List.length y0_1 : Nat) : Int)) [] (Oln rfl) ?_
   refine Wy (.b (decide (y6_1 < ((List.length y0_1 : Nat) : Int)))) [] (Obn rfl (fun _ => hb_lss (k := .i64))) ?_
   refine Walk.nil ?_
   refine Then.normal ?_
   refine Amk 524387 1 ⟨((.own 0) :: ((.clo (.func 46) [] []) :: (tp 3 ((.i y5_1) :: ((.i y6_1) :: (tp 12 ((.b (decide (y6_1 < ((List.length y0_1 : Nat) : Int)))) :: (tp 22 [])))))))), [(.arr 65 3 (List.length y0_1) (flatD enc_GChange y0_1))], 1⟩ ?_
   rcases tf_ (decide (y6_1 < ((List.length y0_1 : Nat) : Int))) with hc19_9 | hc19_9
   ·
    replace hm := cT hc19_9 hm
    refine AWP.if_ true (Eq.trans (by kernel_rfl) (lit_tf (b := decide (y6_1 < ((List.length y0_1 : Nat) : Int))) hc19_9)) ?_
    refine AWP.skip ?_
    refine Then.normal ?_
    refine Amk 99 1 ⟨((.own 0) :: ((.clo (.func 46) [] []) :: (tp 3 ((.i y5_1) :: ((.i y6_1) :: (tp 35 [])))))), [(.arr 65 3 (List.length y0_1) (flatD enc_GChange y0_1))], 1⟩ ?_
    refine AWP.seq ?_
    refine AWP.block ?_
    refine AWP.seq ?_
    refine AWP.text ?_
    refine Wy (.own 0) [] (Omv rfl) ?_
    refine Wy (.i y6_1) [] (Omv rfl) ?_
    obtain ⟨x24_3, hx24_3, hm⟩ := bnd hm
    obtain ⟨hx24_3i, hx24_3g⟩ := geti_some hx24_3
    refine Wy (.loc 0 ((Int.toNat y6_1) * 3)) [] (Oia rfl enc_GChange_len hx24_3i hx24_3g) ?_
    refine Wy (.agg [(.i x24_3.Loc), (.i x24_3.Time), (.i x24_3.N)]) [] (Lr rfl enc_GChange_len hx24_3g) ?_
    refine Wy (.loc 1 0) [(1, (.box [(.i 0), (.i 0), (.i 0)]))] (Oal rfl) ?_
    refine Wy (.tup []) [(1, (.box [(.i x24_3.Loc), (.i x24_3.Time), (.i x24_3.N)]))] (Ost rfl) ?_
    refine Walk.nil ?_
    refine Then.normal ?_
    refine Amk 227 3 ⟨((.own 0) :: ((.clo (.func 46) [] []) :: (tp 3 ((.i y5_1) :: ((.i y6_1) :: ((.loc 1 0) :: (tp 34 []))))))), [(.arr 65 3 (List.length y0_1) (flatD enc_GChange y0_1)), (.box [(.i x24_3.Loc), (.i x24_3.Time), (.i x24_3.N)])], 1⟩ ?_
    refine AWP.seq ?_
    refine AWP.text ?_
    refine Wy (.clo (.func 46) [] []) [] (Omv rfl) ?_
    refine Wy (.agg [(.i x24_3.Loc), (.i x24_3.Time), (.i x24_3.N)]) [] (Old rfl) ?_
    obtain ⟨r28_4, hr28_4, hm⟩ := bnd hm
    refine Wy (.b r28_4) [] (Ocf [] [] [] 0 (ok_tally_Normal_1 x24_3 r28_4 hr28_4) (fun a w => Try.call46 a w) rfl trivial) ?_
    refine Wy (.b (!r28_4)) [] (Ocs (by kernel_rfl) (op_un rfl (a1 := .bool r28_4) (by kernel_rfl) (fun _ => hu_not))) ?_
    refine Walk.nil ?_
    refine Then.normal ?_
    refine Amk 536871139 3 ⟨((.own 0) :: ((.clo (.func 46) [] []) :: (tp 3 ((.i y5_1) :: ((.i y6_1) :: ((.loc 1 0) :: (tp 21 ((.b (!r28_4)) :: (tp 12 []))))))))), [(.arr 65 3 (List.length y0_1) (flatD enc_GChange y0_1)), (.box [(.i x24_3.Loc), (.i x24_3.Time), (.i x24_3.N)])], 1⟩ ?_
    rcases tf_ (!r28_4) with hc29_10 | hc29_10
    ·
     replace hm := cT hc29_10 hm
     refine AWP.if_ true (Eq.trans (by kernel_rfl) (lit_tf (b := (!r28_4)) hc29_10)) ?_
     refine AWP.seq ?_
     refine AWP.text ?_
     refine Wy (.own 0) [] (Omv rfl) ?_
     refine Wy (.i y5_1) [] (Omv rfl) ?_
     refine Wy (.agg [(.i x24_3.Loc), (.i x24_3.Time), (.i x24_3.N)]) [] (Old rfl) ?_
     obtain ⟨x33_5, hx33_5, hm⟩ := bnd hm
     obtain ⟨hx33_5i, hx33_5g⟩ := geti_some hx33_5
     refine Wy (.loc 0 ((Int.toNat y5_1) * 3)) [] (Oia rfl enc_GChange_len hx33_5i hx33_5g) ?_
     refine Wy (.tup []) [(0, (.arr 65 3 (List.length (List.set y0_1 (Int.toNat y5_1) x24_3)) (flatD enc_GChange (List.set y0_1 (Int.toNat y5_1) x24_3))))] (Osr 0 rfl enc_GChange_len hx33_5g x24_3) ?_
     refine Walk.nil ?_
     refine Then.normal ?_
     refine Amk 99 1 ⟨((.own 0) :: ((.clo (.func 46) [] []) :: (tp 3 ((.i y5_1) :: ((.i y6_1) :: (tp 35 [])))))), [(.arr 65 3 (List.length (List.set y0_1 (Int.toNat y5_1) x24_3)) (flatD enc_GChange (List.set y0_1 (Int.toNat y5_1) x24_3))), .gone], 1⟩ ?_
     refine AWP.text ?_
     refine Wy (.i y5_1) [] (Omv rfl) ?_
     refine Wy (.i (IntKind.i64.wrap (y5_1 + 1))) [] (Obn rfl (fun _ => hb_add (k := .i64))) ?_
     refine Wy (.i (IntKind.i64.wrap (y5_1 + 1))) [] (Omv rfl) ?_
     refine Walk.nil ?_
     refine InBlock.normal ?_
     refine Then.normal ?_
     refine Amk 99 1 ⟨((.own 0) :: ((.clo (.func 46) [] []) :: (tp 3 ((.i (IntKind.i64.wrap (y5_1 + 1))) :: ((.i y6_1) :: (tp 35 [])))))), [(.arr 65 3 (List.length (List.set y0_1 (Int.toNat y5_1) x24_3)) (flatD enc_GChange (List.set y0_1 (Int.toNat y5_1) x24_3))), .gone], 1⟩ ?_
     refine AWP.text ?_
     refine Wy (.i y6_1) [] (Omv rfl) ?_
     refine Wy (.i (IntKind.i64.wrap (y6_1 + 1))) [] (Obn rfl (fun _ => hb_add (k := .i64))) ?_
     refine Wy (.i (IntKind.i64.wrap (y6_1 + 1))) [] (Omv rfl) ?_
     refine Walk.nil ?_
     refine RoundK.normal ?_
     exact Rounds.weak (Weak.toK 99 0 0 [0]) (ih_1 (fu_1, (List.set y0_1 (Int.toNat y5_1) x24_3), (IntKind.i64.wrap (y5_1 + 1)), (IntKind.i64.wrap (y6_1 + 1))) hm (Nat.lt_succ_self _))
    ·
     replace hm := cF hc29_10 hm
     refine AWP.if_ false (Eq.trans (by kernel_rfl) (lit_tf (b := (!r28_4)) hc29_10)) ?_
     refine AWP.skip ?_
     refine InBlock.normal ?_
     refine Then.normal ?_
     refine Amk 99 1 ⟨((.own 0) :: ((.clo (.func 46) [] []) :: (tp 3 ((.i y5_1) :: ((.i y6_1) :: (tp 35 [])))))), [(.arr 65 3 (List.length y0_1) (flatD enc_GChange y0_1)), .gone], 1⟩ ?_
     refine AWP.text ?_
     refine Wy (.i y6_1) [] (Omv rfl) ?_
     refine Wy (.i (IntKind.i64.wrap (y6_1 + 1))) [] (Obn rfl (fun _ => hb_add (k := .i64))) ?_
     refine Wy (.i (IntKind.i64.wrap (y6_1 + 1))) [] (Omv rfl) ?_
     refine Walk.nil ?_
     refine RoundK.normal ?_
     exact Rounds.weak (Weak.toK 99 0 0 [0]) (ih_1 (fu_1, y0_1, y5_1, (IntKind.i64.wrap (y6_1 + 1))) hm (Nat.lt_succ_self _))
   ·
    replace hm := cF hc19_9 hm
    refine AWP.if_ false (Eq.trans (by kernel_rfl) (lit_tf (b := decide (y6_1 < ((List.length y0_1 : Nat) : Int))) hc19_9)) ?_
    refine AWP.exit ?_
    refine Then.exit ?_
    refine RoundK.exit ?_
    refine InBlock.same ?_
    refine Then.normal ?_
    refine Amk 33 1 ⟨((.own 0) :: (tp 4 ((.i y5_1) :: (tp 36 [])))), [(.arr 65 3 (List.length y0_1) (flatD enc_GChange y0_1))], 1⟩ ?_
    refine AWP.seq ?_
    refine AWP.text ?_
    refine Wy (.own 0) [] (Omv rfl) ?_
    refine Wy (.i y5_1) [] (Omv rfl) ?_
    obtain ⟨hb38_6, hm⟩ := chk_some hm
    refine Wy (.sub 0 ((Int.toNat y5_1) * 3) (List.length y0_1 - (Int.toNat y5_1) - 1 + 1)) [] (Osb rfl (e := 65) (k := .i64) (iv := y5_1) enc_GChange_len (by omega) (by omega)) ?_
    refine Wy (.tup []) [(0, (.arr 65 3 (List.length (clr y0_1 (Int.toNat y5_1) ((GChange.mk 0 0 0) : GChange))) (flatD enc_GChange (clr y0_1 (Int.toNat y5_1) ((GChange.mk 0 0 0) : GChange)))))] (Ocl rfl elemOK_31 enc_GChange_len (by omega)) ?_
    refine Walk.nil ?_
    refine Then.normal ?_
    refine Amk 33 1 ⟨((.own 0) :: (tp 4 ((.i y5_1) :: (tp 36 [])))), [(.arr 65 3 (List.length (clr y0_1 (Int.toNat y5_1) ((GChange.mk 0 0 0) : GChange))) (flatD enc_GChange (clr y0_1 (Int.toNat y5_1) ((GChange.mk 0 0 0) : GChange))))], 1⟩ ?_
    refine AWP.seq ?_
    refine Afz [0] ⟨((.l enc_GChange (clr y0_1 (Int.toNat y5_1) ((GChange.mk 0 0 0) : GChange))) :: (tp 4 ((.i y5_1) :: (tp 36 [])))), [(.fro 65 3 (List.length (clr y0_1 (Int.toNat y5_1) ((GChange.mk 0 0 0) : GChange))) (flatD enc_GChange (clr y0_1 (Int.toNat y5_1) ((GChange.mk 0 0 0) : GChange))))], 1⟩ ?_
    refine AWP.text ?_
    refine Wy (.l enc_GChange (clr y0_1 (Int.toNat y5_1) ((GChange.mk 0 0 0) : GChange))) [] (Omv rfl) ?_
    refine Wy (.i y5_1) [] (Omv rfl) ?_
    obtain ⟨s41_7, hs41_7, hm⟩ := bnd hm; obtain ⟨hs41_7a, hs41_7b, hs41_7c, hs41_7d, hs41_7e⟩ := cut_some hs41_7
    refine Wy (.l enc_GChange s41_7) [] (op_cut rfl (e := 65) (sz := 3) (by kernel_rfl) (l := (clr y0_1 (Int.toNat y5_1) ((GChange.mk 0 0 0) : GChange))) (enc := enc_GChange) (by kernel_rfl) enc_GChange_len (a := (Int.toNat 0)) (b := (Int.toNat y5_1)) (by exact rfl) (⟨.i64, y5_1, by kernel_rfl, hs41_7b⟩) hs41_7c hs41_7d hs41_7e) ?_
    refine Wy (.l enc_GChange s41_7) [] (Omv rfl) ?_
    refine Walk.nil ?_
    refine Then.normal ?_
    refine Ago 0 ⟨((.l enc_GChange (clr y0_1 (Int.toNat y5_1) ((GChange.mk 0 0 0) : GChange))) :: (tp 3 ((.l enc_GChange s41_7) :: ((.i y5_1) :: (tp 33 ((.l enc_GChange (clr y0_1 (Int.toNat y5_1) ((GChange.mk 0 0 0) : GChange))) :: ((.i y5_1) :: ((.l enc_GChange s41_7) :: [])))))))), [.gone], 1⟩ ?_
    refine AWP.ret ?_
    obtain rfl := Option.some.inj hm
    exact ret_i [0]

set_option maxRecDepth 20000 in
set_option maxHeartbeats 4000000 in
theorem ok_tally_Normal (p0 : (List GChange)) (r : (List GChange)) (h : m_tally_Normal p0 = some r) : GCall Try.prog 33 [(.l enc_GChange p0)] [] (.l enc_GChange r) [] := by
 refine GCall.of_body (n := 53) (rs := [(.tmp 2)]) Try.func33 rfl rfl rfl ?_
 refine Ato ⟨((.l enc_GChange p0) :: (tu 52 [])), [], 0⟩ ?_
 have hm := h
 unfold m_tally_Normal at hm
 refine AWP.seq ?_
 refine AWP.text ?_
 refine Wy (.d .nil) [] (Omv rfl) ?_
 refine Walk.nil ?_
 refine Then.normal ?_
 refine Amk 1 0 ⟨((.l enc_GChange p0) :: (tp 52 [])), [], 0⟩ ?_
 refine AWP.seq ?_
 refine AWP.text ?_
 refine Wy (.l enc_GChange p0) [] (Omv rfl) ?_
 refine Wy (.i ((List.length p0 : Nat) : Int)) [] (Oln rfl) ?_
 obtain ⟨m9_0, hm9_0, hm⟩ := bnd hm; obtain ⟨hm9_0i, hm9_0l, hm9_0e⟩ := mk_some hm9_0
 refine Wy (.own 0) [(0, (.arr 65 3 (List.length m9_0) (flatD enc_GChange m9_0)))] (OcB (op_make rfl elemOK_31 (by kernel_rfl) (kl := .i64) (kc := .i64) (L := ((List.length p0 : Nat) : Int)) (C := ((List.length p0 : Nat) : Int)) (by kernel_rfl) (by kernel_rfl) (n := Int.toNat ((List.length p0 : Nat) : Int)) hm9_0i hm9_0i (by omega) (by kernel_rfl)) (bl_one (by rw [hm9_0e]; simp) (by rw [hm9_0e]; exact (flat_rep (by kernel_rfl))))) ?_
 refine Wy (.own 0) [] (Omv rfl) ?_
 refine Walk.nil ?_
 refine Then.normal ?_
 refine Amk 9 1 ⟨((.l enc_GChange p0) :: (tp 2 ((.own 0) :: (tp 49 [])))), [(.arr 65 3 (List.length m9_0) (flatD enc_GChange m9_0))], 0⟩ ?_
 refine AWP.seq ?_
 refine AWP.text ?_
 refine Wy (.own 0) [] (Omv rfl) ?_
 refine Wy (.l enc_GChange p0) [] (Omv rfl) ?_
 obtain ⟨c12_1, hc12_1, hm⟩ := bnd hm; obtain ⟨hc12_1e, hc12_1l⟩ := cpy_some hc12_1
 refine Wy (.i ((List.length p0 : Nat) : Int)) [(0, (.arr 65 3 (List.length c12_1) (flatD enc_GChange c12_1)))] (OcB (Ocs (by kernel_rfl) (op_copy rfl (e := 65) (sz := 3) (by kernel_rfl) (yd := (.own 0)) (by kernel_rfl) (id := 0) (off := 0) (dn := List.length m9_0) (by kernel_rfl) (n := List.length m9_0) (xs := flatD enc_GChange m9_0) (by kernel_rfl) (y := (.l enc_GChange p0)) (by kernel_rfl) (ds := flatD enc_GChange p0) (soff := 0) (k := List.length p0) (by kernel_rfl) (es := flatD enc_GChange p0) (flat_all enc_GChange_len) (flatD_length enc_GChange_len _) hc12_1l (cpy_fit enc_GChange_len hc12_1l) (by decide))) (bl_one (cpy_len hc12_1e hc12_1l) (by rw [hc12_1e]; exact cpy_put enc_GChange_len hc12_1l))) ?_
 refine Walk.nil ?_
 refine Then.normal ?_
 refine Amk 8 1 ⟨(tp 3 ((.own 0) :: (tp 49 []))), [(.arr 65 3 (List.length c12_1) (flatD enc_GChange c12_1))], 0⟩ ?_
 refine AWP.seq ?_
 refine AWP.text ?_
 refine Wy (.own 0) [] (Omv rfl) ?_
 obtain ⟨r14_2, hr14_2, hm⟩ := bnd hm
 refine Wy (.tup []) [(0, (.arr 65 3 (List.length r14_2) (flatD enc_GChange r14_2)))] (Ocf [0] [] [] 0 (ok_slices_SortStableFunc_Change__tally_order c12_1 r14_2 hr14_2) (fun a w => Try.call43 a w) rfl ⟨rfl, trivial⟩) ?_
 refine Walk.nil ?_
 refine Then.normal ?_
 refine Amk 8 1 ⟨(tp 3 ((.own 0) :: (tp 49 []))), [(.arr 65 3 (List.length r14_2) (flatD enc_GChange r14_2))], 0⟩ ?_
 refine AWP.seq ?_
 refine AWP.text ?_
 refine Wy (.d .nil) [] (Omv rfl) ?_
 refine Walk.nil ?_
 refine Then.normal ?_
 refine Amk 24 1 ⟨(tp 3 ((.own 0) :: ((.d .nil) :: (tp 48 [])))), [(.arr 65 3 (List.length r14_2) (flatD enc_GChange r14_2))], 0⟩ ?_
 refine AWP.seq ?_
 refine AWP.seq ?_
 refine AWP.text ?_
 refine Wy (.own 0) [] (Omv rfl) ?_
 refine Wy (.i ((List.length r14_2 : Nat) : Int)) [] (Oln rfl) ?_
 refine Wy (.i 0) [] (Omv rfl) ?_
 refine Walk.nil ?_
 refine Then.normal ?_
 refine Amk 229400 1 ⟨(tp 3 ((.own 0) :: ((.d .nil) :: (tp 10 ((.own 0) :: ((.i ((List.length r14_2 : Nat) : Int)) :: ((.i 0) :: (tp 35 [])))))))), [(.arr 65 3 (List.length r14_2) (flatD enc_GChange r14_2))], 0⟩ ?_
 refine AWP.block ?_
 refine Aow 4 65 3 ⟨(tp 3 ((.own 0) :: ((.own 1) :: (tp 10 ((.own 0) :: ((.i ((List.length r14_2 : Nat) : Int)) :: ((.i 0) :: (tp 35 [])))))))), [(.arr 65 3 (List.length r14_2) (flatD enc_GChange r14_2)), (.arr 65 3 (List.length ([] : List GChange)) (flatD enc_GChange ([] : List GChange)))], 0⟩ ?_
 refine AWP.loopI (α := Nat × (List GChange) × Int)
   (fun x => match x with | (fu_4, y4_4, y17_4) => (⟨(tp 3 ((.own 0) :: ((.own 1) :: (tp 10 ((.own 0) :: ((.i ((List.length r14_2 : Nat) : Int)) :: ((.i y17_4) :: (tp 35 [])))))))), [(.arr 65 3 (List.length r14_2) (flatD enc_GChange r14_2)), (.arr 65 3 (List.length y4_4) (flatD enc_GChange y4_4))], 0⟩ : St))
   (fun x => match x with | (fu_4, y4_4, y17_4) => m_tally_Normal_l4 r14_2 fu_4 y4_4 y17_4 = some r)
   (fun x => match x with | (fu_4, y4_4, y17_4) => fu_4) (1152921504606846976, ([] : List GChange), 0)
   (Weak.toK 229400 0 0 [0, 1]) hm ?_
 rintro ⟨fu_4, y4_4, y17_4⟩ n_4 hm ih_4
 try dsimp only at hm ih_4 ⊢
 cases fu_4 with
 | zero => exact absurd hm (by unfold m_tally_Normal_l4; simp)
 | succ fu_4 =>
  unfold m_tally_Normal_l4 at hm
  refine AWP.seq ?_
  refine AWP.text ?_
  refine Wy (.b (decide (y17_4 < ((List.length r14_2 : Nat) : Int)))) [] (Obn rfl (fun _ => hb_lss (k := .i64))) ?_
  refine Walk.nil ?_
  refine Then.normal ?_
  refine Amk 491544 3 ⟨(tp 3 ((.own 0) :: ((.own 1) :: (tp 10 ((.own 0) :: ((.i ((List.length r14_2 : Nat) : Int)) :: ((.i y17_4) :: ((.b (decide (y17_4 < ((List.length r14_2 : Nat) : Int)))) :: (tp 34 []))))))))), [(.arr 65 3 (List.length r14_2) (flatD enc_GChange r14_2)), (.arr 65 3 (List.length y4_4) (flatD enc_GChange y4_4))], 0⟩ ?_
  refine AWP.seq ?_
  rcases tf_ (decide (y17_4 < ((List.length r14_2 : Nat) : Int))) with hc18_11 | hc18_11
  ·
   replace hm := cT hc18_11 hm
   refine AWP.if_ true (Eq.trans (by kernel_rfl) (lit_tf (b := decide (y17_4 < ((List.length r14_2 : Nat) : Int))) hc18_11)) ?_
   refine AWP.skip ?_
   refine Then.normal ?_
   refine Amk 229400 3 ⟨(tp 3 ((.own 0) :: ((.own 1) :: (tp 10 ((.own 0) :: ((.i ((List.length r14_2 : Nat) : Int)) :: ((.i y17_4) :: (tp 35 [])))))))), [(.arr 65 3 (List.length r14_2) (flatD enc_GChange r14_2)), (.arr 65 3 (List.length y4_4) (flatD enc_GChange y4_4))], 0⟩ ?_
   refine AWP.seq ?_
   refine AWP.block ?_
   refine AWP.seq ?_
   refine AWP.text ?_
   refine Wy (.i y17_4) [] (Omv rfl) ?_
   obtain ⟨x20_5, hx20_5, hm⟩ := bnd hm
   obtain ⟨hx20_5i, hx20_5g⟩ := geti_some hx20_5
   refine Wy (.loc 0 ((Int.toNat y17_4) * 3)) [] (Oia rfl enc_GChange_len hx20_5i hx20_5g) ?_
   refine Wy (.agg [(.i x20_5.Loc), (.i x20_5.Time), (.i x20_5.N)]) [] (Lr rfl enc_GChange_len hx20_5g) ?_
   refine Wy (.loc 2 0) [(2, (.box [(.i 0), (.i 0), (.i 0)]))] (Oal rfl) ?_
   refine Wy (.i y17_4) [] (Omv rfl) ?_
   refine Wy (.tup []) [(2, (.box [(.i x20_5.Loc), (.i x20_5.Time), (.i x20_5.N)]))] (Ost rfl) ?_
   refine Walk.nil ?_
   refine Then.normal ?_
   refine Amk 229496 7 ⟨(tp 3 ((.own 0) :: ((.own 1) :: ((.i y17_4) :: ((.loc 2 0) :: (tp 8 ((.own 0) :: ((.i ((List.length r14_2 : Nat) : Int)) :: ((.i y17_4) :: (tp 35 [])))))))))), [(.arr 65 3 (List.length r14_2) (flatD enc_GChange r14_2)), (.arr 65 3 (List.length y4_4) (flatD enc_GChange y4_4)), (.box [(.i x20_5.Loc), (.i x20_5.Time), (.i x20_5.N)])], 0⟩ ?_
   refine AWP.seq ?_
   refine Adr ?_
   refine Wy (.i y17_4) [] (Omv rfl) ?_
   refine Wy (.b (decide ((0 : Int) < y17_4))) [] (Obn rfl (fun _ => hb_gtr (k := .i64))) ?_
   rcases tf_ (decide ((0 : Int) < y17_4)) with hq24_7 | hq24_7
   ·
    replace hm := cT hq24_7 hm
    refine Wy (.b true) [] (Ocs (lit_tf (b := decide ((0 : Int) < y17_4)) hq24_7) (Omv rfl)) ?_
    refine Wy (.own 0) [] (Omv rfl) ?_
    refine Wy (.i y17_4) [] (Omv rfl) ?_
    refine Wy (.i (IntKind.i64.wrap (y17_4 - 1))) [] (Obn rfl (fun _ => hb_sub (k := .i64))) ?_
    obtain ⟨x28_7, hx28_7, hm⟩ := bnd hm
    obtain ⟨hx28_7i, hx28_7g⟩ := geti_some hx28_7
    refine Wy (.loc 0 ((Int.toNat (IntKind.i64.wrap (y17_4 - 1))) * 3)) [] (Oia rfl enc_GChange_len hx28_7i hx28_7g) ?_
    refine Wy (.agg [(.i x28_7.Loc), (.i x28_7.Time), (.i x28_7.N)]) [] (Lr rfl enc_GChange_len hx28_7g) ?_
    refine Wy (.agg [(.i x20_5.Loc), (.i x20_5.Time), (.i x20_5.N)]) [] (Old rfl) ?_
    obtain ⟨r31_7, hr31_7, hm⟩ := bnd hm
    refine Wy (.i r31_7) [] (Ocf [] [] [] 0 (ok_tally_order x28_7 x20_5 r31_7 hr31_7) (fun a w => Try.call44 a w) rfl trivial) ?_
    refine Wy (.b (decide (r31_7 = 0))) [] (Obn rfl (fun _ => hb_eql (k := .i64))) ?_
    refine Wy (.b (decide (r31_7 = 0))) [] (OpT rfl) ?_
    refine Wdr ?_
    refine Then.normal ?_
    refine Amk 8590164056 7 ⟨(tp 3 ((.own 0) :: ((.own 1) :: (tp 1 ((.loc 2 0) :: (tp 8 ((.own 0) :: ((.i ((List.length r14_2 : Nat) : Int)) :: ((.i y17_4) :: (tp 15 ((.b (decide (r31_7 = 0))) :: (tp 19 [])))))))))))), [(.arr 65 3 (List.length r14_2) (flatD enc_GChange r14_2)), (.arr 65 3 (List.length y4_4) (flatD enc_GChange y4_4)), (.box [(.i x20_5.Loc), (.i x20_5.Time), (.i x20_5.N)])], 0⟩ ?_
    rcases tf_ (decide (r31_7 = 0)) with hc33_12 | hc33_12
    ·
     replace hm := cT hc33_12 hm
     refine AWP.if_ true (Eq.trans (by kernel_rfl) (lit_tf (b := decide (r31_7 = 0)) hc33_12)) ?_
     refine Adr ?_
     refine Wy (.own 1) [] (Omv rfl) ?_
     refine Wy (.own 1) [] (Omv rfl) ?_
     refine Wy (.i ((List.length y4_4 : Nat) : Int)) [] (Oln rfl) ?_
     refine Wy (.i (IntKind.i64.wrap (((List.length y4_4 : Nat) : Int) - 1))) [] (Obn rfl (fun _ => hb_sub (k := .i64))) ?_
     obtain ⟨x38_8, hx38_8, hm⟩ := bnd hm
     obtain ⟨hx38_8i, hx38_8g⟩ := geti_some hx38_8
     refine Wy (.loc 1 ((Int.toNat (IntKind.i64.wrap (((List.length y4_4 : Nat) : Int) - 1))) * 3)) [] (Oia rfl enc_GChange_len hx38_8i hx38_8g) ?_
     refine Wy (.loc 1 ((Int.toNat (IntKind.i64.wrap (((List.length y4_4 : Nat) : Int) - 1))) * 3 + 2)) [] (Ofa rfl) ?_
     refine Wy (.i x38_8.N) [] (Lrk1 2 rfl enc_GChange_len hx38_8g) ?_
     refine Wy (.loc 2 2) [] (Ofa rfl) ?_
     refine Wy (.i x20_5.N) [] (Old rfl) ?_
     refine Wy (.i (IntKind.i64.wrap (x38_8.N + x20_5.N))) [] (Obn rfl (fun _ => hb_add (k := .i64))) ?_
     obtain ⟨x44_8, hx44_8, hm⟩ := bnd hm
     obtain ⟨hx44_8i, hx44_8g⟩ := geti_some hx44_8
     refine Wy (.loc 1 ((Int.toNat (IntKind.i64.wrap (((List.length y4_4 : Nat) : Int) - 1))) * 3)) [] (Oia rfl enc_GChange_len hx44_8i hx44_8g) ?_
     refine Wy (.loc 1 ((Int.toNat (IntKind.i64.wrap (((List.length y4_4 : Nat) : Int) - 1))) * 3 + 2)) [] (Ofa rfl) ?_
     refine Wy (.tup []) [(1, (.arr 65 3 (List.length (List.set y4_4 (Int.toNat (IntKind.i64.wrap (((List.length y4_4 : Nat) : Int) - 1))) (GChange.mk x44_8.Loc x44_8.Time (IntKind.i64.wrap (x38_8.N + x20_5.N))))) (flatD enc_GChange (List.set y4_4 (Int.toNat (IntKind.i64.wrap (((List.length y4_4 : Nat) : Int) - 1))) (GChange.mk x44_8.Loc x44_8.Time (IntKind.i64.wrap (x38_8.N + x20_5.N)))))))] (Osr 2 rfl enc_GChange_len hx44_8g (GChange.mk x44_8.Loc x44_8.Time (IntKind.i64.wrap (x38_8.N + x20_5.N)))) ?_
     refine Wdr ?_
     refine InBlock.normal ?_
     refine Then.normal ?_
     refine Amk 229400 3 ⟨(tp 3 ((.own 0) :: ((.own 1) :: (tp 10 ((.own 0) :: ((.i ((List.length r14_2 : Nat) : Int)) :: ((.i y17_4) :: (tp 35 [])))))))), [(.arr 65 3 (List.length r14_2) (flatD enc_GChange r14_2)), (.arr 65 3 (List.length (List.set y4_4 (Int.toNat (IntKind.i64.wrap (((List.length y4_4 : Nat) : Int) - 1))) (GChange.mk x44_8.Loc x44_8.Time (IntKind.i64.wrap (x38_8.N + x20_5.N))))) (flatD enc_GChange (List.set y4_4 (Int.toNat (IntKind.i64.wrap (((List.length y4_4 : Nat) : Int) - 1))) (GChange.mk x44_8.Loc x44_8.Time (IntKind.i64.wrap (x38_8.N + x20_5.N)))))), .gone], 0⟩ ?_
     refine AWP.text ?_
     refine Wy (.i (IntKind.i64.wrap (y17_4 + 1))) [] (Obn rfl (fun _ => hb_add (k := .i64))) ?_
     refine Wy (.i (IntKind.i64.wrap (y17_4 + 1))) [] (Omv rfl) ?_
     refine Walk.nil ?_
     refine RoundK.normal ?_
     exact Rounds.weak (Weak.toK 229400 0 0 [0, 1]) (ih_4 (fu_4, (List.set y4_4 (Int.toNat (IntKind.i64.wrap (((List.length y4_4 : Nat) : Int) - 1))) (GChange.mk x44_8.Loc x44_8.Time (IntKind.i64.wrap (x38_8.N + x20_5.N)))), (IntKind.i64.wrap (y17_4 + 1))) hm (Nat.lt_succ_self _))
    ·
     replace hm := cF hc33_12 hm
     refine AWP.if_ false (Eq.trans (by kernel_rfl) (lit_tf (b := decide (r31_7 = 0)) hc33_12)) ?_
     refine AWP.text ?_
     refine Wy (.own 1) [] (Omv rfl) ?_
     refine Wy (.agg [(.i x20_5.Loc), (.i x20_5.Time), (.i x20_5.N)]) [] (Old rfl) ?_
     refine Wy (.own 3) [(3, (.arr 65 3 (List.length ([x20_5] : List GChange)) (flatD enc_GChange ([x20_5] : List GChange))))] (Obs rfl) ?_
     obtain ⟨a49_6, ha49_6, hm⟩ := bnd hm; obtain ⟨ha49_6e, ha49_6l⟩ := app_some ha49_6
     refine Wy (.own 4) [(1, .gone), (4, (.arr 65 3 (List.length a49_6) (flatD enc_GChange a49_6)))] (Oap rfl elemOK_31 enc_GChange_len ha49_6e ha49_6l) ?_
     refine Wy (.own 4) [] (Omv rfl) ?_
     refine Walk.nil ?_
     refine InBlock.normal ?_
     refine Then.normal ?_
     refine Amk 229400 17 ⟨(tp 3 ((.own 0) :: ((.own 4) :: (tp 10 ((.own 0) :: ((.i ((List.length r14_2 : Nat) : Int)) :: ((.i y17_4) :: (tp 35 [])))))))), [(.arr 65 3 (List.length r14_2) (flatD enc_GChange r14_2)), .gone, .gone, .gone, (.arr 65 3 (List.length a49_6) (flatD enc_GChange a49_6))], 0⟩ ?_
     refine AWP.text ?_
     refine Wy (.i (IntKind.i64.wrap (y17_4 + 1))) [] (Obn rfl (fun _ => hb_add (k := .i64))) ?_
     refine Wy (.i (IntKind.i64.wrap (y17_4 + 1))) [] (Omv rfl) ?_
     refine Walk.nil ?_
     refine RoundK.normal ?_
     exact Rounds.weak (Weak.toK 229400 0 0 [0, 4]) (ih_4 (fu_4, a49_6, (IntKind.i64.wrap (y17_4 + 1))) hm (Nat.lt_succ_self _))
   ·
    replace hm := cF hq24_7 hm
    refine Wy (.b false) [] (Ocs (lit_tf (b := decide ((0 : Int) < y17_4)) hq24_7) (Omv rfl)) ?_
    refine Wn ?_
    refine Wn ?_
    refine Wn ?_
    refine Wn ?_
    refine Wn ?_
    refine Wn ?_
    refine Wn ?_
    refine Wn ?_
    refine Wy (.b false) [] (OpF rfl) ?_
    refine Wdr ?_
    refine Then.normal ?_
    refine Amk 8590164056 7 ⟨(tp 3 ((.own 0) :: ((.own 1) :: (tp 1 ((.loc 2 0) :: (tp 8 ((.own 0) :: ((.i ((List.length r14_2 : Nat) : Int)) :: ((.i y17_4) :: (tp 15 ((.b false) :: (tp 19 [])))))))))))), [(.arr 65 3 (List.length r14_2) (flatD enc_GChange r14_2)), (.arr 65 3 (List.length y4_4) (flatD enc_GChange y4_4)), (.box [(.i x20_5.Loc), (.i x20_5.Time), (.i x20_5.N)])], 0⟩ ?_
    refine AWP.if_ false (by kernel_rfl) ?_
    refine AWP.text ?_
    refine Wy (.own 1) [] (Omv rfl) ?_
    refine Wy (.agg [(.i x20_5.Loc), (.i x20_5.Time), (.i x20_5.N)]) [] (Old rfl) ?_
    refine Wy (.own 3) [(3, (.arr 65 3 (List.length ([x20_5] : List GChange)) (flatD enc_GChange ([x20_5] : List GChange))))] (Obs rfl) ?_
    obtain ⟨a49_9, ha49_9, hm⟩ := bnd hm; obtain ⟨ha49_9e, ha49_9l⟩ := app_some ha49_9
    refine Wy (.own 4) [(1, .gone), (4, (.arr 65 3 (List.length a49_9) (flatD enc_GChange a49_9)))] (Oap rfl elemOK_31 enc_GChange_len ha49_9e ha49_9l) ?_
    refine Wy (.own 4) [] (Omv rfl) ?_
    refine Walk.nil ?_
    refine InBlock.normal ?_
    refine Then.normal ?_
    refine Amk 229400 17 ⟨(tp 3 ((.own 0) :: ((.own 4) :: (tp 10 ((.own 0) :: ((.i ((List.length r14_2 : Nat) : Int)) :: ((.i y17_4) :: (tp 35 [])))))))), [(.arr 65 3 (List.length r14_2) (flatD enc_GChange r14_2)), .gone, .gone, .gone, (.arr 65 3 (List.length a49_9) (flatD enc_GChange a49_9))], 0⟩ ?_
    refine AWP.text ?_
    refine Wy (.i (IntKind.i64.wrap (y17_4 + 1))) [] (Obn rfl (fun _ => hb_add (k := .i64))) ?_
    refine Wy (.i (IntKind.i64.wrap (y17_4 + 1))) [] (Omv rfl) ?_
    refine Walk.nil ?_
    refine RoundK.normal ?_
    exact Rounds.weak (Weak.toK 229400 0 0 [0, 4]) (ih_4 (fu_4, a49_9, (IntKind.i64.wrap (y17_4 + 1))) hm (Nat.lt_succ_self _))
  ·
   replace hm := cF hc18_11 hm
   refine AWP.if_ false (Eq.trans (by kernel_rfl) (lit_tf (b := decide (y17_4 < ((List.length r14_2 : Nat) : Int))) hc18_11)) ?_
   refine AWP.exit ?_
   refine Then.exit ?_
   refine RoundK.exit ?_
   refine InBlock.same ?_
   refine Then.normal ?_
   refine Amk 16 2 ⟨(tp 4 ((.own 1) :: (tp 48 []))), [.gone, (.arr 65 3 (List.length y4_4) (flatD enc_GChange y4_4))], 0⟩ ?_
   refine AWP.seq ?_
   refine AWP.text ?_
   refine Wy (.own 1) [] (Omv rfl) ?_
   obtain ⟨r52_10, hr52_10, hm⟩ := bnd hm
   refine Wy (.l enc_GChange r52_10) [(1, .gone)] (Ocf [1] [] [] 0 (ok_slices_DeleteFunc_Change__tally_Normal_1 y4_4 r52_10 hr52_10) (fun a w => Try.call45 a w) rfl ⟨rfl, trivial⟩) ?_
   refine Wy (.l enc_GChange r52_10) [] (Omv rfl) ?_
   refine Walk.nil ?_
   refine Then.normal ?_
   refine AWP.ret ?_
   obtain rfl := Option.some.inj hm
   exact ret_i []

set_option maxRecDepth 20000 in
set_option maxHeartbeats 4000000 in
theorem ok_token_Book_Lower (p0 : GBook) (p1 : Int) (p2 : Int) (r : (GBook × (List GChange) × Int)) (h : m_token_Book_Lower p0 p1 p2 = some r) : GCall Try.prog 9 [(.agg [(.l enc_GLeave_ p0.L)]), (.i p1), (.i p2)] [] (.tup [(.agg [(.l enc_GLeave_ r.1.L)]), (.l enc_GChange r.2.1), (.i r.2.2)]) [] := by
 refine GCall.of_body (n := 48) (rs := [(.cell 6 29), (.tmp 7), (.tmp 8)]) Try.func9 rfl rfl rfl ?_
 refine Ato ⟨((.agg [(.l enc_GLeave_ p0.L)]) :: ((.i p1) :: ((.i p2) :: (tu 45 [])))), [], 0⟩ ?_
 have hm := h
 unfold m_token_Book_Lower at hm
 refine AWP.seq ?_
 refine AWP.text ?_
 refine Wy (.loc 0 0) [(0, (.box [(.l enc_GLeave_ p0.L)]))] (Obx rfl) ?_
 refine Wy (.loc 1 0) [(1, (.box [(.d .nil)]))] (Oal rfl) ?_
 refine Wy (.d .nil) [] (Omv rfl) ?_
 refine Wy (.i 0) [] (Omv rfl) ?_
 refine Walk.nil ?_
 refine Then.normal ?_
 refine Amk 78 3 ⟨(tp 1 ((.i p1) :: ((.i p2) :: ((.loc 0 0) :: (tp 2 ((.loc 1 0) :: (tp 41 []))))))), [(.box [(.l enc_GLeave_ p0.L)]), (.box [(.d .nil)])], 0⟩ ?_
 refine AWP.seq ?_
 refine AWP.text ?_
 refine Wy (.agg [(.l enc_GLeave_ p0.L)]) [] (Old rfl) ?_
 refine Wy (.i p1) [] (Omv rfl) ?_
 obtain ⟨r15_0, hr15_0, hm⟩ := bnd hm
 refine Wy (.tup [(.agg [(.i r15_0.1.Point.Loc), (.i r15_0.1.Point.Time), (.b r15_0.1.Held)]), (.i r15_0.2)]) [] (Ocf [] [] [] 0 (ok_token_Book_held p0 p1 r15_0 hr15_0) (fun a w => Try.call31 a w) rfl trivial) ?_
 refine Wy (.tup [(.agg [(.i r15_0.1.Point.Loc), (.i r15_0.1.Point.Time), (.b r15_0.1.Held)]), (.i r15_0.2)]) [] (Omv rfl) ?_
 refine Wy (.agg [(.i r15_0.1.Point.Loc), (.i r15_0.1.Point.Time), (.b r15_0.1.Held)]) [] (Oex rfl) ?_
 refine Wy (.i r15_0.2) [] (Oex rfl) ?_
 refine Wy (.loc 2 0) [(2, (.box [(.i 0), (.i 0), (.b false)]))] (Oal rfl) ?_
 refine Wy (.tup []) [(2, (.box [(.i r15_0.1.Point.Loc), (.i r15_0.1.Point.Time), (.b r15_0.1.Held)]))] (Ost rfl) ?_
 refine Wy (.i r15_0.2) [] (Omv rfl) ?_
 refine Walk.nil ?_
 refine Then.normal ?_
 refine Amk 1614 7 ⟨(tp 1 ((.i p1) :: ((.i p2) :: ((.loc 0 0) :: (tp 2 ((.loc 1 0) :: (tp 2 ((.loc 2 0) :: ((.i r15_0.2) :: (tp 37 [])))))))))), [(.box [(.l enc_GLeave_ p0.L)]), (.box [(.d .nil)]), (.box [(.i r15_0.1.Point.Loc), (.i r15_0.1.Point.Time), (.b r15_0.1.Held)])], 0⟩ ?_
 refine AWP.seq ?_
 refine AWP.seq ?_
 refine AWP.text ?_
 refine Wy (.i r15_0.2) [] (Omv rfl) ?_
 refine Wy (.b (decide (r15_0.2 ≠ 0))) [] (Obn rfl (fun _ => hb_neq (k := .i64))) ?_
 refine Walk.nil ?_
 refine Then.normal ?_
 refine Amk 525902 7 ⟨(tp 1 ((.i p1) :: ((.i p2) :: ((.loc 0 0) :: (tp 2 ((.loc 1 0) :: (tp 2 ((.loc 2 0) :: ((.i r15_0.2) :: (tp 8 ((.b (decide (r15_0.2 ≠ 0))) :: (tp 28 [])))))))))))), [(.box [(.l enc_GLeave_ p0.L)]), (.box [(.d .nil)]), (.box [(.i r15_0.1.Point.Loc), (.i r15_0.1.Point.Time), (.b r15_0.1.Held)])], 0⟩ ?_
 rcases tf_ (decide (r15_0.2 ≠ 0)) with hc19_4 | hc19_4
 ·
  replace hm := cT hc19_4 hm
  refine AWP.if_ true (Eq.trans (by kernel_rfl) (lit_tf (b := decide (r15_0.2 ≠ 0)) hc19_4)) ?_
  refine AWP.seq ?_
  refine AWP.text ?_
  refine Wy (.agg [(.l enc_GLeave_ p0.L)]) [] (Old rfl) ?_
  refine Wy (.i r15_0.2) [] (Omv rfl) ?_
  refine Wy (.tup []) [(1, (.box [(.l enc_GLeave_ p0.L)]))] (Ost rfl) ?_
  refine Wy (.d .nil) [] (Omv rfl) ?_
  refine Wy (.i r15_0.2) [] (Omv rfl) ?_
  refine Walk.nil ?_
  refine Then.normal ?_
  refine AWP.ret ?_
  refine Then.ret ?_
  obtain rfl := Option.some.inj hm
  exact ret_i []
 ·
  replace hm := cF hc19_4 hm
  refine AWP.if_ false (Eq.trans (by kernel_rfl) (lit_tf (b := decide (r15_0.2 ≠ 0)) hc19_4)) ?_
  refine AWP.skip ?_
  refine Then.normal ?_
  refine Amk 590 7 ⟨(tp 1 ((.i p1) :: ((.i p2) :: ((.loc 0 0) :: (tp 2 ((.loc 1 0) :: (tp 2 ((.loc 2 0) :: (tp 38 []))))))))), [(.box [(.l enc_GLeave_ p0.L)]), (.box [(.d .nil)]), (.box [(.i r15_0.1.Point.Loc), (.i r15_0.1.Point.Time), (.b r15_0.1.Held)])], 0⟩ ?_
  refine AWP.seq ?_
  refine AWP.seq ?_
  refine AWP.text ?_
  refine Wy (.i p2) [] (Omv rfl) ?_
  refine Wy (.b (decide ((1099511627776 : Int) < p2))) [] (Obn rfl (fun _ => hb_gtr (k := .i64))) ?_
  rcases tf_ (decide ((1099511627776 : Int) < p2)) with hq24_1 | hq24_1
  ·
   replace hm := cT hq24_1 hm
   refine Wy (.b true) [] (Ocs (lit_tf (b := decide ((1099511627776 : Int) < p2)) hq24_1) (Omv rfl)) ?_
   refine Wn ?_
   refine Wn ?_
   refine Wn ?_
   refine Wn ?_
   refine Wn ?_
   refine Wy (.b true) [] (OpT rfl) ?_
   refine Walk.nil ?_
   refine Then.normal ?_
   refine Amk 1073742414 7 ⟨(tp 1 ((.i p1) :: ((.i p2) :: ((.loc 0 0) :: (tp 2 ((.loc 1 0) :: (tp 2 ((.loc 2 0) :: (tp 20 ((.b true) :: (tp 17 []))))))))))), [(.box [(.l enc_GLeave_ p0.L)]), (.box [(.d .nil)]), (.box [(.i r15_0.1.Point.Loc), (.i r15_0.1.Point.Time), (.b r15_0.1.Held)])], 0⟩ ?_
   refine AWP.if_ true (by kernel_rfl) ?_
   refine AWP.seq ?_
   refine AWP.text ?_
   refine Wy (.agg [(.l enc_GLeave_ p0.L)]) [] (Old rfl) ?_
   refine Wy (.tup []) [(1, (.box [(.l enc_GLeave_ p0.L)]))] (Ost rfl) ?_
   refine Wy (.d .nil) [] (Omv rfl) ?_
   refine Wy (.i 8) [] (Omv rfl) ?_
   refine Walk.nil ?_
   refine Then.normal ?_
   refine AWP.ret ?_
   refine Then.ret ?_
   obtain rfl := Option.some.inj hm
   exact ret_i []
  ·
   replace hm := cF hq24_1 hm
   refine Wy (.b false) [] (Ocs (lit_tf (b := decide ((1099511627776 : Int) < p2)) hq24_1) (Omv rfl)) ?_
   refine Wy (.i p2) [] (Omv rfl) ?_
   refine Wy (.loc 2 0) [] (Ofa rfl) ?_
   refine Wy (.loc 2 1) [] (Ofa rfl) ?_
   refine Wy (.i r15_0.1.Point.Time) [] (Old rfl) ?_
   refine Wy (.b (decide (p2 < r15_0.1.Point.Time))) [] (Obn rfl (fun _ => hb_lss (k := .i64))) ?_
   refine Wy (.b (decide (p2 < r15_0.1.Point.Time))) [] (OpF rfl) ?_
   refine Walk.nil ?_
   refine Then.normal ?_
   refine Amk 1073742414 7 ⟨(tp 1 ((.i p1) :: ((.i p2) :: ((.loc 0 0) :: (tp 2 ((.loc 1 0) :: (tp 2 ((.loc 2 0) :: (tp 20 ((.b (decide (p2 < r15_0.1.Point.Time))) :: (tp 17 []))))))))))), [(.box [(.l enc_GLeave_ p0.L)]), (.box [(.d .nil)]), (.box [(.i r15_0.1.Point.Loc), (.i r15_0.1.Point.Time), (.b r15_0.1.Held)])], 0⟩ ?_
   rcases tf_ (decide (p2 < r15_0.1.Point.Time)) with hc30_5 | hc30_5
   ·
    replace hm := cT hc30_5 hm
    refine AWP.if_ true (Eq.trans (by kernel_rfl) (lit_tf (b := decide (p2 < r15_0.1.Point.Time)) hc30_5)) ?_
    refine AWP.seq ?_
    refine AWP.text ?_
    refine Wy (.agg [(.l enc_GLeave_ p0.L)]) [] (Old rfl) ?_
    refine Wy (.tup []) [(1, (.box [(.l enc_GLeave_ p0.L)]))] (Ost rfl) ?_
    refine Wy (.d .nil) [] (Omv rfl) ?_
    refine Wy (.i 8) [] (Omv rfl) ?_
    refine Walk.nil ?_
    refine Then.normal ?_
    refine AWP.ret ?_
    refine Then.ret ?_
    obtain rfl := Option.some.inj hm
    exact ret_i []
   ·
    replace hm := cF hc30_5 hm
    refine AWP.if_ false (Eq.trans (by kernel_rfl) (lit_tf (b := decide (p2 < r15_0.1.Point.Time)) hc30_5)) ?_
    refine AWP.skip ?_
    refine Then.normal ?_
    refine Amk 590 7 ⟨(tp 1 ((.i p1) :: ((.i p2) :: ((.loc 0 0) :: (tp 2 ((.loc 1 0) :: (tp 2 ((.loc 2 0) :: (tp 38 []))))))))), [(.box [(.l enc_GLeave_ p0.L)]), (.box [(.d .nil)]), (.box [(.i r15_0.1.Point.Loc), (.i r15_0.1.Point.Time), (.b r15_0.1.Held)])], 0⟩ ?_
    refine AWP.seq ?_
    refine AWP.text ?_
    refine Wy (.loc 2 0) [] (Ofa rfl) ?_
    refine Wy (.agg [(.i r15_0.1.Point.Loc), (.i r15_0.1.Point.Time)]) [] (Old rfl) ?_
    obtain ⟨r34_2, hr34_2, hm⟩ := bnd hm
    refine Wy (.agg [(.i r34_2.Loc), (.i r34_2.Time), (.i r34_2.N)]) [] (Ocf [] [] [] 0 (ok_token_Point_change r15_0.1.Point (-1) r34_2 hr34_2) (fun a w => Try.call30 a w) rfl trivial) ?_
    refine Wy (.loc 3 0) [(3, (.box [(.i 0), (.i 0), (.i 0)]))] (Oal rfl) ?_
    refine Wy (.tup []) [(3, (.box [(.i r34_2.Loc), (.i r34_2.Time), (.i r34_2.N)]))] (Ost rfl) ?_
    refine Walk.nil ?_
    refine Then.normal ?_
    refine Amk 2638 15 ⟨(tp 1 ((.i p1) :: ((.i p2) :: ((.loc 0 0) :: (tp 2 ((.loc 1 0) :: (tp 2 ((.loc 2 0) :: (tp 1 ((.loc 3 0) :: (tp 36 []))))))))))), [(.box [(.l enc_GLeave_ p0.L)]), (.box [(.d .nil)]), (.box [(.i r15_0.1.Point.Loc), (.i r15_0.1.Point.Time), (.b r15_0.1.Held)]), (.box [(.i r34_2.Loc), (.i r34_2.Time), (.i r34_2.N)])], 0⟩ ?_
    refine AWP.seq ?_
    refine AWP.text ?_
    refine Wy (.i p2) [] (Omv rfl) ?_
    refine Wy (.loc 2 0) [] (Ofa rfl) ?_
    refine Wy (.loc 2 1) [] (Ofa rfl) ?_
    refine Wy (.tup []) [(2, (.box [(.i r15_0.1.Point.Loc), (.i p2), (.b r15_0.1.Held)]))] (Ost rfl) ?_
    refine Walk.nil ?_
    refine Then.normal ?_
    refine Amk 2634 15 ⟨(tp 1 ((.i p1) :: (tp 1 ((.loc 0 0) :: (tp 2 ((.loc 1 0) :: (tp 2 ((.loc 2 0) :: (tp 1 ((.loc 3 0) :: (tp 36 []))))))))))), [(.box [(.l enc_GLeave_ p0.L)]), (.box [(.d .nil)]), (.box [(.i r15_0.1.Point.Loc), (.i p2), (.b r15_0.1.Held)]), (.box [(.i r34_2.Loc), (.i r34_2.Time), (.i r34_2.N)])], 0⟩ ?_
    refine AWP.seq ?_
    refine Adr ?_
    refine Wy (.agg [(.l enc_GLeave_ p0.L)]) [] (Old rfl) ?_
    refine Wy (.i p1) [] (Omv rfl) ?_
    refine Wy (.agg [(.i r15_0.1.Point.Loc), (.i p2), (.b r15_0.1.Held)]) [] (Old rfl) ?_
    obtain ⟨r41_3, hr41_3, hm⟩ := bnd hm
    refine Wy (.agg [(.own 4)]) [(4, (.arr 47 3 (List.length r41_3.L) (flatD enc_GLeave_ r41_3.L)))] (Ocf [] [4] [] 0 (ok_token_Book_with p0 p1 (GLeave_.mk (GPoint.mk r15_0.1.Point.Loc p2) r15_0.1.Held) r41_3 hr41_3) (fun a w => Try.call32 a w) rfl trivial) ?_
    refine Wy (.agg [(.i r34_2.Loc), (.i r34_2.Time), (.i r34_2.N)]) [] (Old rfl) ?_
    refine Wy (.loc 2 0) [] (Ofa rfl) ?_
    refine Wy (.agg [(.i r15_0.1.Point.Loc), (.i p2)]) [] (Old rfl) ?_
    obtain ⟨r45_3, hr45_3, hm⟩ := bnd hm
    refine Wy (.agg [(.i r45_3.Loc), (.i r45_3.Time), (.i r45_3.N)]) [] (Ocf [] [] [] 0 (ok_token_Point_change (GPoint.mk r15_0.1.Point.Loc p2) 1 r45_3 hr45_3) (fun a w => Try.call30 a w) rfl trivial) ?_
    refine Wy (.own 5) [(5, (.arr 65 3 (List.length ([r34_2, r45_3] : List GChange)) (flatD enc_GChange ([r34_2, r45_3] : List GChange))))] (Obs rfl) ?_
    obtain ⟨r47_3, hr47_3, hm⟩ := bnd hm
    refine Wy (.l enc_GChange r47_3) [(5, (.fro 65 3 (List.length ([r34_2, r45_3] : List GChange)) (flatD enc_GChange ([r34_2, r45_3] : List GChange))))] (Ocf [] [] [5] 0 (ok_tally_Normal ([r34_2, r45_3] : List GChange) r47_3 hr47_3) (fun a w => Try.call33 a w) rfl trivial) ?_
    refine Wy (.tup []) [(1, (.box [(.own 4)]))] (Ost rfl) ?_
    refine Wy (.l enc_GChange r47_3) [] (Omv rfl) ?_
    refine Wy (.i 0) [] (Omv rfl) ?_
    refine Wdr ?_
    refine Then.normal ?_
    refine Afz [4] ⟨(tp 1 ((.i p1) :: (tp 1 ((.loc 0 0) :: (tp 2 ((.loc 1 0) :: ((.l enc_GChange r47_3) :: ((.i 0) :: ((.loc 2 0) :: (tp 1 ((.loc 3 0) :: (tp 26 ((.agg [(.l enc_GLeave_ p0.L)]) :: ((.i p1) :: ((.agg [(.i r15_0.1.Point.Loc), (.i p2), (.b r15_0.1.Held)]) :: ((.agg [(.l enc_GLeave_ r41_3.L)]) :: ((.agg [(.i r34_2.Loc), (.i r34_2.Time), (.i r34_2.N)]) :: ((.loc 2 0) :: ((.agg [(.i r15_0.1.Point.Loc), (.i p2)]) :: ((.agg [(.i r45_3.Loc), (.i r45_3.Time), (.i r45_3.N)]) :: ((.own 5) :: ((.l enc_GChange r47_3) :: [])))))))))))))))))))))), [(.box [(.l enc_GLeave_ p0.L)]), (.box [(.l enc_GLeave_ r41_3.L)]), (.box [(.i r15_0.1.Point.Loc), (.i p2), (.b r15_0.1.Held)]), (.box [(.i r34_2.Loc), (.i r34_2.Time), (.i r34_2.N)]), (.fro 47 3 (List.length r41_3.L) (flatD enc_GLeave_ r41_3.L)), (.fro 65 3 (List.length ([r34_2, r45_3] : List GChange)) (flatD enc_GChange ([r34_2, r45_3] : List GChange)))], 0⟩ ?_
    refine AWP.ret ?_
    obtain rfl := Option.some.inj hm
    exact ret_i []

set_option maxRecDepth 20000 in
set_option maxHeartbeats 4000000 in
theorem ok_token_Book_Drop (p0 : GBook) (p1 : Int) (r : (GBook × (List GChange) × Int)) (h : m_token_Book_Drop p0 p1 = some r) : GCall Try.prog 11 [(.agg [(.l enc_GLeave_ p0.L)]), (.i p1)] [] (.tup [(.agg [(.l enc_GLeave_ r.1.L)]), (.own 0), (.i r.2.2)]) [(.arr 65 3 (List.length r.2.1) (flatD enc_GChange r.2.1))] := by
 refine GCall.of_body (n := 28) (rs := [(.cell 4 29), (.tmp 5), (.tmp 6)]) Try.func11 rfl rfl rfl ?_
 refine Ato ⟨((.agg [(.l enc_GLeave_ p0.L)]) :: ((.i p1) :: (tu 26 []))), [], 0⟩ ?_
 have hm := h
 unfold m_token_Book_Drop at hm
 refine AWP.seq ?_
 refine AWP.text ?_
 refine Wy (.loc 0 0) [(0, (.box [(.l enc_GLeave_ p0.L)]))] (Obx rfl) ?_
 refine Wy (.loc 1 0) [(1, (.box [(.d .nil)]))] (Oal rfl) ?_
 refine Wy (.d .nil) [] (Omv rfl) ?_
 refine Wy (.i 0) [] (Omv rfl) ?_
 refine Walk.nil ?_
 refine Then.normal ?_
 refine Amk 22 3 ⟨(tp 1 ((.i p1) :: ((.loc 0 0) :: (tp 1 ((.loc 1 0) :: (tp 23 [])))))), [(.box [(.l enc_GLeave_ p0.L)]), (.box [(.d .nil)])], 0⟩ ?_
 refine AWP.seq ?_
 refine AWP.text ?_
 refine Wy (.agg [(.l enc_GLeave_ p0.L)]) [] (Old rfl) ?_
 refine Wy (.i p1) [] (Omv rfl) ?_
 obtain ⟨r12_0, hr12_0, hm⟩ := bnd hm
 refine Wy (.tup [(.agg [(.i r12_0.1.Point.Loc), (.i r12_0.1.Point.Time), (.b r12_0.1.Held)]), (.i r12_0.2)]) [] (Ocf [] [] [] 0 (ok_token_Book_held p0 p1 r12_0 hr12_0) (fun a w => Try.call31 a w) rfl trivial) ?_
 refine Wy (.tup [(.agg [(.i r12_0.1.Point.Loc), (.i r12_0.1.Point.Time), (.b r12_0.1.Held)]), (.i r12_0.2)]) [] (Omv rfl) ?_
 refine Wy (.agg [(.i r12_0.1.Point.Loc), (.i r12_0.1.Point.Time), (.b r12_0.1.Held)]) [] (Oex rfl) ?_
 refine Wy (.i r12_0.2) [] (Oex rfl) ?_
 refine Wy (.loc 2 0) [(2, (.box [(.i 0), (.i 0), (.b false)]))] (Oal rfl) ?_
 refine Wy (.tup []) [(2, (.box [(.i r12_0.1.Point.Loc), (.i r12_0.1.Point.Time), (.b r12_0.1.Held)]))] (Ost rfl) ?_
 refine Wy (.i r12_0.2) [] (Omv rfl) ?_
 refine Walk.nil ?_
 refine Then.normal ?_
 refine Amk 406 7 ⟨(tp 1 ((.i p1) :: ((.loc 0 0) :: (tp 1 ((.loc 1 0) :: (tp 2 ((.loc 2 0) :: ((.i r12_0.2) :: (tp 19 []))))))))), [(.box [(.l enc_GLeave_ p0.L)]), (.box [(.d .nil)]), (.box [(.i r12_0.1.Point.Loc), (.i r12_0.1.Point.Time), (.b r12_0.1.Held)])], 0⟩ ?_
 refine AWP.seq ?_
 refine AWP.seq ?_
 refine AWP.text ?_
 refine Wy (.i r12_0.2) [] (Omv rfl) ?_
 refine Wy (.b (decide (r12_0.2 ≠ 0))) [] (Obn rfl (fun _ => hb_neq (k := .i64))) ?_
 refine Walk.nil ?_
 refine Then.normal ?_
 refine Amk 65942 7 ⟨(tp 1 ((.i p1) :: ((.loc 0 0) :: (tp 1 ((.loc 1 0) :: (tp 2 ((.loc 2 0) :: ((.i r12_0.2) :: (tp 7 ((.b (decide (r12_0.2 ≠ 0))) :: (tp 11 []))))))))))), [(.box [(.l enc_GLeave_ p0.L)]), (.box [(.d .nil)]), (.box [(.i r12_0.1.Point.Loc), (.i r12_0.1.Point.Time), (.b r12_0.1.Held)])], 0⟩ ?_
 rcases tf_ (decide (r12_0.2 ≠ 0)) with hc16_2 | hc16_2
 ·
  replace hm := cT hc16_2 hm
  refine AWP.if_ true (Eq.trans (by kernel_rfl) (lit_tf (b := decide (r12_0.2 ≠ 0)) hc16_2)) ?_
  refine AWP.seq ?_
  refine AWP.text ?_
  refine Wy (.agg [(.l enc_GLeave_ p0.L)]) [] (Old rfl) ?_
  refine Wy (.i r12_0.2) [] (Omv rfl) ?_
  refine Wy (.tup []) [(1, (.box [(.l enc_GLeave_ p0.L)]))] (Ost rfl) ?_
  refine Wy (.d .nil) [] (Omv rfl) ?_
  refine Wy (.i r12_0.2) [] (Omv rfl) ?_
  refine Walk.nil ?_
  refine Then.normal ?_
  refine Aow 5 65 3 ⟨(tp 1 ((.i p1) :: ((.loc 0 0) :: (tp 1 ((.loc 1 0) :: ((.own 3) :: ((.i r12_0.2) :: ((.loc 2 0) :: ((.i r12_0.2) :: (tp 7 ((.b (decide (r12_0.2 ≠ 0))) :: ((.agg [(.l enc_GLeave_ p0.L)]) :: ((.i r12_0.2) :: (tp 9 [])))))))))))))), [(.box [(.l enc_GLeave_ p0.L)]), (.box [(.l enc_GLeave_ p0.L)]), (.box [(.i r12_0.1.Point.Loc), (.i r12_0.1.Point.Time), (.b r12_0.1.Held)]), (.arr 65 3 (List.length ([] : List GChange)) (flatD enc_GChange ([] : List GChange)))], 0⟩ ?_
  refine AWP.ret ?_
  refine Then.ret ?_
  obtain rfl := Option.some.inj hm
  exact ret_i [3]
 ·
  replace hm := cF hc16_2 hm
  refine AWP.if_ false (Eq.trans (by kernel_rfl) (lit_tf (b := decide (r12_0.2 ≠ 0)) hc16_2)) ?_
  refine AWP.skip ?_
  refine Then.normal ?_
  refine Amk 150 7 ⟨(tp 1 ((.i p1) :: ((.loc 0 0) :: (tp 1 ((.loc 1 0) :: (tp 2 ((.loc 2 0) :: (tp 20 [])))))))), [(.box [(.l enc_GLeave_ p0.L)]), (.box [(.d .nil)]), (.box [(.i r12_0.1.Point.Loc), (.i r12_0.1.Point.Time), (.b r12_0.1.Held)])], 0⟩ ?_
  refine AWP.seq ?_
  refine AWP.text ?_
  refine Wy (.loc 2 2) [] (Ofa rfl) ?_
  refine Wy (.tup []) [(2, (.box [(.i r12_0.1.Point.Loc), (.i r12_0.1.Point.Time), (.b false)]))] (Ost rfl) ?_
  refine Walk.nil ?_
  refine Then.normal ?_
  refine Amk 150 7 ⟨(tp 1 ((.i p1) :: ((.loc 0 0) :: (tp 1 ((.loc 1 0) :: (tp 2 ((.loc 2 0) :: (tp 20 [])))))))), [(.box [(.l enc_GLeave_ p0.L)]), (.box [(.d .nil)]), (.box [(.i r12_0.1.Point.Loc), (.i r12_0.1.Point.Time), (.b false)])], 0⟩ ?_
  refine AWP.seq ?_
  refine Adr ?_
  refine Wy (.agg [(.l enc_GLeave_ p0.L)]) [] (Old rfl) ?_
  refine Wy (.i p1) [] (Omv rfl) ?_
  refine Wy (.agg [(.i r12_0.1.Point.Loc), (.i r12_0.1.Point.Time), (.b false)]) [] (Old rfl) ?_
  obtain ⟨r23_1, hr23_1, hm⟩ := bnd hm
  refine Wy (.agg [(.own 3)]) [(3, (.arr 47 3 (List.length r23_1.L) (flatD enc_GLeave_ r23_1.L)))] (Ocf [] [3] [] 0 (ok_token_Book_with p0 p1 (GLeave_.mk r12_0.1.Point false) r23_1 hr23_1) (fun a w => Try.call32 a w) rfl trivial) ?_
  refine Wy (.loc 2 0) [] (Ofa rfl) ?_
  refine Wy (.agg [(.i r12_0.1.Point.Loc), (.i r12_0.1.Point.Time)]) [] (Old rfl) ?_
  obtain ⟨r26_1, hr26_1, hm⟩ := bnd hm
  refine Wy (.agg [(.i r26_1.Loc), (.i r26_1.Time), (.i r26_1.N)]) [] (Ocf [] [] [] 0 (ok_token_Point_change r12_0.1.Point (-1) r26_1 hr26_1) (fun a w => Try.call30 a w) rfl trivial) ?_
  refine Wy (.own 4) [(4, (.arr 65 3 (List.length ([r26_1] : List GChange)) (flatD enc_GChange ([r26_1] : List GChange))))] (Obs rfl) ?_
  refine Wy (.tup []) [(1, (.box [(.own 3)]))] (Ost rfl) ?_
  refine Wy (.own 4) [] (Omv rfl) ?_
  refine Wy (.i 0) [] (Omv rfl) ?_
  refine Wdr ?_
  refine Then.normal ?_
  refine Afz [3] ⟨(tp 1 ((.i p1) :: ((.loc 0 0) :: (tp 1 ((.loc 1 0) :: ((.own 4) :: ((.i 0) :: ((.loc 2 0) :: (tp 12 ((.agg [(.l enc_GLeave_ p0.L)]) :: ((.i p1) :: ((.agg [(.i r12_0.1.Point.Loc), (.i r12_0.1.Point.Time), (.b false)]) :: ((.agg [(.l enc_GLeave_ r23_1.L)]) :: ((.loc 2 0) :: ((.agg [(.i r12_0.1.Point.Loc), (.i r12_0.1.Point.Time)]) :: ((.agg [(.i r26_1.Loc), (.i r26_1.Time), (.i r26_1.N)]) :: ((.own 4) :: []))))))))))))))))), [(.box [(.l enc_GLeave_ p0.L)]), (.box [(.l enc_GLeave_ r23_1.L)]), (.box [(.i r12_0.1.Point.Loc), (.i r12_0.1.Point.Time), (.b false)]), (.fro 47 3 (List.length r23_1.L) (flatD enc_GLeave_ r23_1.L)), (.arr 65 3 (List.length ([r26_1] : List GChange)) (flatD enc_GChange ([r26_1] : List GChange)))], 0⟩ ?_
  refine AWP.ret ?_
  obtain rfl := Option.some.inj hm
  exact ret_i [4]

set_option maxRecDepth 20000 in
set_option maxHeartbeats 4000000 in
theorem ok_token_Book_May_1 (p0 : GLeave_) (p1 : Int) (p2 : Int) (r : Bool) (h : m_token_Book_May_1 p0 p1 p2 = some r) : GCall Try.prog 38 [(.agg [(.i p0.Point.Loc), (.i p0.Point.Time), (.b p0.Held)]), (.d (.ref [(.lit (.int .i64 p1))])), (.d (.ref [(.lit (.int .i64 p2))]))] [] (.b r) [] := by
 refine GCall.of_body (n := 21) (rs := [(.tmp 4)]) Try.func38 rfl rfl rfl ?_
 refine Ato ⟨((.agg [(.i p0.Point.Loc), (.i p0.Point.Time), (.b p0.Held)]) :: ((.d (.ref [(.lit (.int .i64 p1))])) :: ((.d (.ref [(.lit (.int .i64 p2))])) :: (tu 18 [])))), [], 0⟩ ?_
 have hm := h
 unfold m_token_Book_May_1 at hm
 refine AWP.seq ?_
 refine AWP.text ?_
 refine Wy (.loc 0 0) [(0, (.box [(.i p0.Point.Loc), (.i p0.Point.Time), (.b p0.Held)]))] (Obx rfl) ?_
 refine Wy (.b false) [] (Omv rfl) ?_
 refine Walk.nil ?_
 refine Then.normal ?_
 refine Amk 14 1 ⟨(tp 1 ((.d (.ref [(.lit (.int .i64 p1))])) :: ((.d (.ref [(.lit (.int .i64 p2))])) :: ((.loc 0 0) :: (tp 17 []))))), [(.box [(.i p0.Point.Loc), (.i p0.Point.Time), (.b p0.Held)])], 0⟩ ?_
 refine AWP.seq ?_
 refine AWP.text ?_
 refine Wy (.loc 0 2) [] (Ofa rfl) ?_
 refine Wy (.b p0.Held) [] (Old rfl) ?_
 rcases tf_ p0.Held with hq7_0 | hq7_0
 ·
  replace hm := cT hq7_0 hm
  refine Wy (.b true) [] (Ocs (lit_tf (b := p0.Held) hq7_0) (Omv rfl)) ?_
  refine Wy (.loc 0 0) [] (Ofa rfl) ?_
  refine Wy (.loc 0 0) [] (Ofa rfl) ?_
  refine Wy (.i p0.Point.Loc) [] (Old rfl) ?_
  refine Wy (.i p1) [] (Old rfl) ?_
  refine Wy (.b (decide (p0.Point.Loc = p1))) [] (Obn rfl (fun _ => hb_eql (k := .i64))) ?_
  refine Wy (.b (decide (p0.Point.Loc = p1))) [] (OpT rfl) ?_
  rcases tf_ (decide (p0.Point.Loc = p1)) with hq14_0 | hq14_0
  ·
   replace hm := cT hq14_0 hm
   refine Wy (.b true) [] (Ocs (lit_tf (b := decide (p0.Point.Loc = p1)) hq14_0) (Omv rfl)) ?_
   refine Wy (.loc 0 0) [] (Ofa rfl) ?_
   refine Wy (.loc 0 1) [] (Ofa rfl) ?_
   refine Wy (.i p0.Point.Time) [] (Old rfl) ?_
   refine Wy (.i p2) [] (Old rfl) ?_
   refine Wy (.b (decide (p0.Point.Time ≤ p2))) [] (Obn rfl (fun _ => hb_leq (k := .i64))) ?_
   refine Wy (.b (decide (p0.Point.Time ≤ p2))) [] (OpT rfl) ?_
   refine Wy (.b (decide (p0.Point.Time ≤ p2))) [] (Omv rfl) ?_
   refine Walk.nil ?_
   refine Then.normal ?_
   refine AWP.ret ?_
   obtain rfl := Option.some.inj hm
   exact ret_i []
  ·
   replace hm := cF hq14_0 hm
   refine Wy (.b false) [] (Ocs (lit_tf (b := decide (p0.Point.Loc = p1)) hq14_0) (Omv rfl)) ?_
   refine Wn ?_
   refine Wn ?_
   refine Wn ?_
   refine Wn ?_
   refine Wn ?_
   refine Wy (.b false) [] (OpF rfl) ?_
   refine Wy (.b false) [] (Omv rfl) ?_
   refine Walk.nil ?_
   refine Then.normal ?_
   refine AWP.ret ?_
   obtain rfl := Option.some.inj hm
   exact ret_i []
 ·
  replace hm := cF hq7_0 hm
  refine Wy (.b false) [] (Ocs (lit_tf (b := p0.Held) hq7_0) (Omv rfl)) ?_
  refine Wn ?_
  refine Wn ?_
  refine Wn ?_
  refine Wn ?_
  refine Wn ?_
  refine Wy (.b false) [] (OpF rfl) ?_
  refine Wy (.b false) [] (Omv rfl) ?_
  refine Wn ?_
  refine Wn ?_
  refine Wn ?_
  refine Wn ?_
  refine Wn ?_
  refine Wy (.b false) [] (OpF rfl) ?_
  refine Wy (.b false) [] (Omv rfl) ?_
  refine Walk.nil ?_
  refine Then.normal ?_
  refine AWP.ret ?_
  obtain rfl := Option.some.inj hm
  exact ret_i []

set_option maxRecDepth 20000 in
set_option maxHeartbeats 4000000 in
theorem ok_slices_IndexFunc_Leave__token_Book_May_1 (p0 : (List GLeave_)) (p1c0 : Int) (p1c1 : Int) (r : Int) (h : m_slices_IndexFunc_Leave__token_Book_May_1 p0 p1c0 p1c1 = some r) : GCall Try.prog 49 [(.l enc_GLeave_ p0), (.clo (.func 38) [] [(.d (.ref [(.lit (.int .i64 p1c0))])), (.d (.ref [(.lit (.int .i64 p1c1))]))])] [] (.i r) [] := by
 refine GCall.of_body (n := 19) (rs := [(.tmp 4)]) Try.func49 rfl rfl rfl ?_
 refine Ato ⟨((.l enc_GLeave_ p0) :: ((.clo (.func 38) [] [(.d (.ref [(.lit (.int .i64 p1c0))])), (.d (.ref [(.lit (.int .i64 p1c1))]))]) :: (tu 17 []))), [], 0⟩ ?_
 have hm := h
 unfold m_slices_IndexFunc_Leave__token_Book_May_1 at hm
 refine AWP.seq ?_
 refine AWP.text ?_
 refine Wy (.i 0) [] (Omv rfl) ?_
 refine Walk.nil ?_
 refine Then.normal ?_
 refine Amk 3 0 ⟨((.l enc_GLeave_ p0) :: ((.clo (.func 38) [] [(.d (.ref [(.lit (.int .i64 p1c0))])), (.d (.ref [(.lit (.int .i64 p1c1))]))]) :: (tp 17 []))), [], 0⟩ ?_
 refine AWP.seq ?_
 refine AWP.seq ?_
 refine AWP.text ?_
 refine Wy (.l enc_GLeave_ p0) [] (Omv rfl) ?_
 refine Wy (.i ((List.length p0 : Nat) : Int)) [] (Oln rfl) ?_
 refine Wy (.i 0) [] (Omv rfl) ?_
 refine Walk.nil ?_
 refine Then.normal ?_
 refine Amk 387 0 ⟨((.l enc_GLeave_ p0) :: ((.clo (.func 38) [] [(.d (.ref [(.lit (.int .i64 p1c0))])), (.d (.ref [(.lit (.int .i64 p1c1))]))]) :: (tp 5 ((.i ((List.length p0 : Nat) : Int)) :: ((.i 0) :: (tp 10 [])))))), [], 0⟩ ?_
 refine AWP.block ?_
 refine AWP.loopI (α := Nat × Int)
   (fun x => match x with | (fu_1, y8_1) => (⟨((.l enc_GLeave_ p0) :: ((.clo (.func 38) [] [(.d (.ref [(.lit (.int .i64 p1c0))])), (.d (.ref [(.lit (.int .i64 p1c1))]))]) :: (tp 5 ((.i ((List.length p0 : Nat) : Int)) :: ((.i y8_1) :: (tp 10 [])))))), [], 0⟩ : St))
   (fun x => match x with | (fu_1, y8_1) => m_slices_IndexFunc_Leave__token_Book_May_1_l1 p0 p1c0 p1c1 fu_1 y8_1 = some r)
   (fun x => match x with | (fu_1, y8_1) => fu_1) (1152921504606846976, 0)
   (Weak.toK 387 0 0 []) hm ?_
 rintro ⟨fu_1, y8_1⟩ n_1 hm ih_1
 try dsimp only at hm ih_1 ⊢
 cases fu_1 with
 | zero => exact absurd hm (by unfold m_slices_IndexFunc_Leave__token_Book_May_1_l1; simp)
 | succ fu_1 =>
  unfold m_slices_IndexFunc_Leave__token_Book_May_1_l1 at hm
  refine AWP.seq ?_
  refine AWP.text ?_
  refine Wy (.b (decide (y8_1 < ((List.length p0 : Nat) : Int)))) [] (Obn rfl (fun _ => hb_lss (k := .i64))) ?_
  refine Walk.nil ?_
  refine Then.normal ?_
  refine Amk 899 0 ⟨((.l enc_GLeave_ p0) :: ((.clo (.func 38) [] [(.d (.ref [(.lit (.int .i64 p1c0))])), (.d (.ref [(.lit (.int .i64 p1c1))]))]) :: (tp 5 ((.i ((List.length p0 : Nat) : Int)) :: ((.i y8_1) :: ((.b (decide (y8_1 < ((List.length p0 : Nat) : Int)))) :: (tp 9 []))))))), [], 0⟩ ?_
  refine AWP.seq ?_
  rcases tf_ (decide (y8_1 < ((List.length p0 : Nat) : Int))) with hc9_3 | hc9_3
  ·
   replace hm := cT hc9_3 hm
   refine AWP.if_ true (Eq.trans (by kernel_rfl) (lit_tf (b := decide (y8_1 < ((List.length p0 : Nat) : Int))) hc9_3)) ?_
   refine AWP.skip ?_
   refine Then.normal ?_
   refine Amk 387 0 ⟨((.l enc_GLeave_ p0) :: ((.clo (.func 38) [] [(.d (.ref [(.lit (.int .i64 p1c0))])), (.d (.ref [(.lit (.int .i64 p1c1))]))]) :: (tp 5 ((.i ((List.length p0 : Nat) : Int)) :: ((.i y8_1) :: (tp 10 [])))))), [], 0⟩ ?_
   refine AWP.seq ?_
   refine AWP.block ?_
   refine AWP.seq ?_
   refine AWP.text ?_
   refine Wy (.i y8_1) [] (Omv rfl) ?_
   refine Wy (.i y8_1) [] (Omv rfl) ?_
   refine Walk.nil ?_
   refine Then.normal ?_
   refine Amk 419 0 ⟨((.l enc_GLeave_ p0) :: ((.clo (.func 38) [] [(.d (.ref [(.lit (.int .i64 p1c0))])), (.d (.ref [(.lit (.int .i64 p1c1))]))]) :: (tp 3 ((.i y8_1) :: (tp 1 ((.i ((List.length p0 : Nat) : Int)) :: ((.i y8_1) :: (tp 10 [])))))))), [], 0⟩ ?_
   refine AWP.seq ?_
   refine AWP.text ?_
   refine Wy (.clo (.func 38) [] [(.d (.ref [(.lit (.int .i64 p1c0))])), (.d (.ref [(.lit (.int .i64 p1c1))]))]) [] (Omv rfl) ?_
   refine Wy (.l enc_GLeave_ p0) [] (Omv rfl) ?_
   refine Wy (.i y8_1) [] (Omv rfl) ?_
   obtain ⟨x14_2, hx14_2, hm⟩ := bnd hm
   obtain ⟨hx14_2i, hx14_2g⟩ := geti_some hx14_2
   refine Wy (.d (.ref (List.drop ((Int.toNat y8_1) * 3) (flatD enc_GLeave_ p0)))) [] (Oia rfl enc_GLeave__len hx14_2i hx14_2g) ?_
   refine Wy (.agg [(.i x14_2.Point.Loc), (.i x14_2.Point.Time), (.b x14_2.Held)]) [] (Lf rfl enc_GLeave__len hx14_2g) ?_
   obtain ⟨r16_2, hr16_2, hm⟩ := bnd hm
   refine Wy (.b r16_2) [] (Ocf [] [] [] 0 (ok_token_Book_May_1 x14_2 p1c0 p1c1 r16_2 hr16_2) (fun a w => Try.call38 a w) rfl trivial) ?_
   refine Walk.nil ?_
   refine Then.normal ?_
   refine Amk 65955 0 ⟨((.l enc_GLeave_ p0) :: ((.clo (.func 38) [] [(.d (.ref [(.lit (.int .i64 p1c0))])), (.d (.ref [(.lit (.int .i64 p1c1))]))]) :: (tp 3 ((.i y8_1) :: (tp 1 ((.i ((List.length p0 : Nat) : Int)) :: ((.i y8_1) :: (tp 7 ((.b r16_2) :: (tp 2 [])))))))))), [], 0⟩ ?_
   rcases tf_ r16_2 with hc16_4 | hc16_4
   ·
    replace hm := cT hc16_4 hm
    refine AWP.if_ true (Eq.trans (by kernel_rfl) (lit_tf (b := r16_2) hc16_4)) ?_
    refine AWP.seq ?_
    refine AWP.text ?_
    refine Wy (.i y8_1) [] (Omv rfl) ?_
    refine Wy (.i y8_1) [] (Omv rfl) ?_
    refine Walk.nil ?_
    refine Then.normal ?_
    refine AWP.ret ?_
    refine InBlock.ret ?_
    refine Then.ret ?_
    refine RoundK.ret ?_
    refine InBlock.ret ?_
    refine Then.ret ?_
    obtain rfl := Option.some.inj hm
    exact ret_i []
   ·
    replace hm := cF hc16_4 hm
    refine AWP.if_ false (Eq.trans (by kernel_rfl) (lit_tf (b := r16_2) hc16_4)) ?_
    refine AWP.skip ?_
    refine InBlock.normal ?_
    refine Then.normal ?_
    refine Amk 387 0 ⟨((.l enc_GLeave_ p0) :: ((.clo (.func 38) [] [(.d (.ref [(.lit (.int .i64 p1c0))])), (.d (.ref [(.lit (.int .i64 p1c1))]))]) :: (tp 5 ((.i ((List.length p0 : Nat) : Int)) :: ((.i y8_1) :: (tp 10 [])))))), [], 0⟩ ?_
    refine AWP.text ?_
    refine Wy (.i (IntKind.i64.wrap (y8_1 + 1))) [] (Obn rfl (fun _ => hb_add (k := .i64))) ?_
    refine Wy (.i (IntKind.i64.wrap (y8_1 + 1))) [] (Omv rfl) ?_
    refine Walk.nil ?_
    refine RoundK.normal ?_
    exact Rounds.weak (Weak.toK 387 0 0 []) (ih_1 (fu_1, (IntKind.i64.wrap (y8_1 + 1))) hm (Nat.lt_succ_self _))
  ·
   replace hm := cF hc9_3 hm
   refine AWP.if_ false (Eq.trans (by kernel_rfl) (lit_tf (b := decide (y8_1 < ((List.length p0 : Nat) : Int))) hc9_3)) ?_
   refine AWP.exit ?_
   refine Then.exit ?_
   refine RoundK.exit ?_
   refine InBlock.same ?_
   refine Then.normal ?_
   refine Amk 0 0 ⟨(tp 19 []), [], 0⟩ ?_
   refine AWP.seq ?_
   refine AWP.text ?_
   refine Wy (.i (-1)) [] (Omv rfl) ?_
   refine Walk.nil ?_
   refine Then.normal ?_
   refine AWP.ret ?_
   obtain rfl := Option.some.inj hm
   exact ret_i []

set_option maxRecDepth 20000 in
set_option maxHeartbeats 4000000 in
theorem ok_slices_ContainsFunc_Leave__token_Book_May_1 (p0 : (List GLeave_)) (p1c0 : Int) (p1c1 : Int) (r : Bool) (h : m_slices_ContainsFunc_Leave__token_Book_May_1 p0 p1c0 p1c1 = some r) : GCall Try.prog 37 [(.l enc_GLeave_ p0), (.clo (.func 38) [] [(.d (.ref [(.lit (.int .i64 p1c0))])), (.d (.ref [(.lit (.int .i64 p1c1))]))])] [] (.b r) [] := by
 refine GCall.of_body (n := 9) (rs := [(.tmp 4)]) Try.func37 rfl rfl rfl ?_
 refine Ato ⟨((.l enc_GLeave_ p0) :: ((.clo (.func 38) [] [(.d (.ref [(.lit (.int .i64 p1c0))])), (.d (.ref [(.lit (.int .i64 p1c1))]))]) :: (tu 7 []))), [], 0⟩ ?_
 have hm := h
 unfold m_slices_ContainsFunc_Leave__token_Book_May_1 at hm
 refine AWP.seq ?_
 refine AWP.text ?_
 refine Wy (.b false) [] (Omv rfl) ?_
 refine Walk.nil ?_
 refine Then.normal ?_
 refine Amk 3 0 ⟨((.l enc_GLeave_ p0) :: ((.clo (.func 38) [] [(.d (.ref [(.lit (.int .i64 p1c0))])), (.d (.ref [(.lit (.int .i64 p1c1))]))]) :: (tp 7 []))), [], 0⟩ ?_
 refine AWP.seq ?_
 refine AWP.text ?_
 refine Wy (.l enc_GLeave_ p0) [] (Omv rfl) ?_
 refine Wy (.clo (.func 38) [] [(.d (.ref [(.lit (.int .i64 p1c0))])), (.d (.ref [(.lit (.int .i64 p1c1))]))]) [] (Omv rfl) ?_
 obtain ⟨r7_0, hr7_0, hm⟩ := bnd hm
 refine Wy (.i r7_0) [] (Ocf [] [] [] 0 (ok_slices_IndexFunc_Leave__token_Book_May_1 p0 p1c0 p1c1 r7_0 hr7_0) (fun a w => Try.call49 a w) rfl trivial) ?_
 refine Wy (.b (decide ((0 : Int) ≤ r7_0))) [] (Obn rfl (fun _ => hb_geq (k := .i64))) ?_
 refine Wy (.b (decide ((0 : Int) ≤ r7_0))) [] (Omv rfl) ?_
 refine Walk.nil ?_
 refine Then.normal ?_
 refine AWP.ret ?_
 obtain rfl := Option.some.inj hm
 exact ret_i []

set_option maxRecDepth 20000 in
set_option maxHeartbeats 4000000 in
theorem ok_token_Book_May (p0 : GBook) (p1 : Int) (p2 : Int) (r : Bool) (h : m_token_Book_May p0 p1 p2 = some r) : GCall Try.prog 18 [(.agg [(.l enc_GLeave_ p0.L)]), (.i p1), (.i p2)] [] (.b r) [] := by
 refine GCall.of_body (n := 11) (rs := [(.tmp 6)]) Try.func18 rfl rfl rfl ?_
 refine Ato ⟨((.agg [(.l enc_GLeave_ p0.L)]) :: ((.i p1) :: ((.i p2) :: (tu 8 [])))), [], 0⟩ ?_
 have hm := h
 unfold m_token_Book_May at hm
 refine AWP.seq ?_
 refine AWP.text ?_
 refine Wy (.loc 0 0) [(0, (.box [(.l enc_GLeave_ p0.L)]))] (Obx rfl) ?_
 refine Wy (.loc 1 0) [(1, (.box [(.i p1)]))] (Obx rfl) ?_
 refine Wy (.loc 2 0) [(2, (.box [(.i p2)]))] (Obx rfl) ?_
 refine Wy (.b false) [] (Omv rfl) ?_
 refine Walk.nil ?_
 refine Then.normal ?_
 refine Amk 56 7 ⟨(tp 3 ((.loc 0 0) :: ((.loc 1 0) :: ((.loc 2 0) :: (tp 5 []))))), [(.box [(.l enc_GLeave_ p0.L)]), (.box [(.i p1)]), (.box [(.i p2)])], 0⟩ ?_
 refine AWP.seq ?_
 refine AWP.text ?_
 refine Wy (.loc 0 0) [] (Ofa rfl) ?_
 refine Wy (.l enc_GLeave_ p0.L) [] (Old rfl) ?_
 refine Wy (.clo (.func 38) [] [(.loc 1 0), (.loc 2 0)]) [] (Ocs (by kernel_rfl) (op_mkfn rfl)) ?_
 obtain ⟨r10_0, hr10_0, hm⟩ := bnd hm
 refine Wy (.b r10_0) [] (Ocp [] [] [1, 2] 0 (ok_slices_ContainsFunc_Leave__token_Book_May_1 p0.L p1 p2 r10_0 hr10_0) (plain_triv (by simp [A.Plain, A.Plains, D.Plain, byteD])) (fun a w => Try.call37 a w) rfl trivial) ?_
 refine Wy (.b r10_0) [] (Omv rfl) ?_
 refine Walk.nil ?_
 refine Then.normal ?_
 refine AWP.ret ?_
 obtain rfl := Option.some.inj hm
 exact ret_i []

set_option maxRecDepth 20000 in
set_option maxHeartbeats 4000000 in
theorem ok_token_Book_Tally (p0 : GBook) (r : (List GChange)) (h : m_token_Book_Tally p0 = some r) : GCall Try.prog 20 [(.agg [(.l enc_GLeave_ p0.L)])] [] (.l enc_GChange r) [] := by
 refine GCall.of_body (n := 24) (rs := [(.tmp 2)]) Try.func20 rfl rfl rfl ?_
 refine Ato ⟨((.agg [(.l enc_GLeave_ p0.L)]) :: (tu 23 [])), [], 0⟩ ?_
 have hm := h
 unfold m_token_Book_Tally at hm
 refine AWP.seq ?_
 refine AWP.text ?_
 refine Wy (.loc 0 0) [(0, (.box [(.l enc_GLeave_ p0.L)]))] (Obx rfl) ?_
 refine Wy (.d .nil) [] (Omv rfl) ?_
 refine Walk.nil ?_
 refine Then.normal ?_
 refine Amk 2 1 ⟨(tp 1 ((.loc 0 0) :: (tp 22 []))), [(.box [(.l enc_GLeave_ p0.L)])], 0⟩ ?_
 refine AWP.seq ?_
 refine AWP.text ?_
 refine Wy (.d .nil) [] (Omv rfl) ?_
 refine Walk.nil ?_
 refine Then.normal ?_
 refine Amk 10 1 ⟨(tp 1 ((.loc 0 0) :: (tp 1 ((.d .nil) :: (tp 20 []))))), [(.box [(.l enc_GLeave_ p0.L)])], 0⟩ ?_
 refine AWP.seq ?_
 refine AWP.seq ?_
 refine AWP.text ?_
 refine Wy (.loc 0 0) [] (Ofa rfl) ?_
 refine Wy (.l enc_GLeave_ p0.L) [] (Old rfl) ?_
 refine Wy (.i ((List.length p0.L : Nat) : Int)) [] (Oln rfl) ?_
 refine Wy (.i 0) [] (Omv rfl) ?_
 refine Walk.nil ?_
 refine Then.normal ?_
 refine Amk 904 0 ⟨(tp 3 ((.d .nil) :: (tp 3 ((.l enc_GLeave_ p0.L) :: ((.i ((List.length p0.L : Nat) : Int)) :: ((.i 0) :: (tp 14 []))))))), [.gone], 0⟩ ?_
 refine AWP.block ?_
 refine Aow 3 65 3 ⟨(tp 3 ((.own 1) :: (tp 3 ((.l enc_GLeave_ p0.L) :: ((.i ((List.length p0.L : Nat) : Int)) :: ((.i 0) :: (tp 14 []))))))), [.gone, (.arr 65 3 (List.length ([] : List GChange)) (flatD enc_GChange ([] : List GChange)))], 0⟩ ?_
 refine AWP.loopI (α := Nat × (List GChange) × Int)
   (fun x => match x with | (fu_1, y3_1, y9_1) => (⟨(tp 3 ((.own 0) :: (tp 3 ((.l enc_GLeave_ p0.L) :: ((.i ((List.length p0.L : Nat) : Int)) :: ((.i y9_1) :: (tp 14 []))))))), [(.arr 65 3 (List.length y3_1) (flatD enc_GChange y3_1))], 0⟩ : St))
   (fun x => match x with | (fu_1, y3_1, y9_1) => m_token_Book_Tally_l1 p0 fu_1 y3_1 y9_1 = some r)
   (fun x => match x with | (fu_1, y3_1, y9_1) => fu_1) (1152921504606846976, ([] : List GChange), 0)
   (Weak.toK 904 0 0 [1]) hm ?_
 rintro ⟨fu_1, y3_1, y9_1⟩ n_1 hm ih_1
 try dsimp only at hm ih_1 ⊢
 cases fu_1 with
 | zero => exact absurd hm (by unfold m_token_Book_Tally_l1; simp)
 | succ fu_1 =>
  unfold m_token_Book_Tally_l1 at hm
  refine AWP.seq ?_
  refine AWP.text ?_
  refine Wy (.b (decide (y9_1 < ((List.length p0.L : Nat) : Int)))) [] (Obn rfl (fun _ => hb_lss (k := .i64))) ?_
  refine Walk.nil ?_
  refine Then.normal ?_
  refine Amk 1928 1 ⟨(tp 3 ((.own 0) :: (tp 3 ((.l enc_GLeave_ p0.L) :: ((.i ((List.length p0.L : Nat) : Int)) :: ((.i y9_1) :: ((.b (decide (y9_1 < ((List.length p0.L : Nat) : Int)))) :: (tp 13 [])))))))), [(.arr 65 3 (List.length y3_1) (flatD enc_GChange y3_1))], 0⟩ ?_
  refine AWP.seq ?_
  rcases tf_ (decide (y9_1 < ((List.length p0.L : Nat) : Int))) with hc10_5 | hc10_5
  ·
   replace hm := cT hc10_5 hm
   refine AWP.if_ true (Eq.trans (by kernel_rfl) (lit_tf (b := decide (y9_1 < ((List.length p0.L : Nat) : Int))) hc10_5)) ?_
   refine AWP.skip ?_
   refine Then.normal ?_
   refine Amk 904 1 ⟨(tp 3 ((.own 0) :: (tp 3 ((.l enc_GLeave_ p0.L) :: ((.i ((List.length p0.L : Nat) : Int)) :: ((.i y9_1) :: (tp 14 []))))))), [(.arr 65 3 (List.length y3_1) (flatD enc_GChange y3_1))], 0⟩ ?_
   refine AWP.seq ?_
   refine AWP.block ?_
   refine AWP.seq ?_
   refine AWP.text ?_
   obtain ⟨x11_2, hx11_2, hm⟩ := bnd hm
   obtain ⟨hx11_2i, hx11_2g⟩ := geti_some hx11_2
   refine Wy (.d (.ref (List.drop ((Int.toNat y9_1) * 3) (flatD enc_GLeave_ p0.L)))) [] (Oia rfl enc_GLeave__len hx11_2i hx11_2g) ?_
   refine Wy (.agg [(.i x11_2.Point.Loc), (.i x11_2.Point.Time), (.b x11_2.Held)]) [] (Lf rfl enc_GLeave__len hx11_2g) ?_
   refine Wy (.loc 1 0) [(1, (.box [(.i 0), (.i 0), (.b false)]))] (Oal rfl) ?_
   refine Wy (.tup []) [(1, (.box [(.i x11_2.Point.Loc), (.i x11_2.Point.Time), (.b x11_2.Held)]))] (Ost rfl) ?_
   refine Walk.nil ?_
   refine Then.normal ?_
   refine Amk 936 3 ⟨(tp 3 ((.own 0) :: (tp 1 ((.loc 1 0) :: (tp 1 ((.l enc_GLeave_ p0.L) :: ((.i ((List.length p0.L : Nat) : Int)) :: ((.i y9_1) :: (tp 14 []))))))))), [(.arr 65 3 (List.length y3_1) (flatD enc_GChange y3_1)), (.box [(.i x11_2.Point.Loc), (.i x11_2.Point.Time), (.b x11_2.Held)])], 0⟩ ?_
   refine AWP.seq ?_
   refine AWP.text ?_
   refine Wy (.loc 1 2) [] (Ofa rfl) ?_
   refine Wy (.b x11_2.Held) [] (Old rfl) ?_
   refine Walk.nil ?_
   refine Then.normal ?_
   refine Amk 17320 3 ⟨(tp 3 ((.own 0) :: (tp 1 ((.loc 1 0) :: (tp 1 ((.l enc_GLeave_ p0.L) :: ((.i ((List.length p0.L : Nat) : Int)) :: ((.i y9_1) :: (tp 4 ((.b x11_2.Held) :: (tp 9 []))))))))))), [(.arr 65 3 (List.length y3_1) (flatD enc_GChange y3_1)), (.box [(.i x11_2.Point.Loc), (.i x11_2.Point.Time), (.b x11_2.Held)])], 0⟩ ?_
   rcases tf_ x11_2.Held with hc14_6 | hc14_6
   ·
    replace hm := cT hc14_6 hm
    refine AWP.if_ true (Eq.trans (by kernel_rfl) (lit_tf (b := x11_2.Held) hc14_6)) ?_
    refine AWP.text ?_
    refine Wy (.own 0) [] (Omv rfl) ?_
    refine Wy (.loc 1 0) [] (Ofa rfl) ?_
    refine Wy (.agg [(.i x11_2.Point.Loc), (.i x11_2.Point.Time)]) [] (Old rfl) ?_
    obtain ⟨r18_3, hr18_3, hm⟩ := bnd hm
    refine Wy (.agg [(.i r18_3.Loc), (.i r18_3.Time), (.i r18_3.N)]) [] (Ocf [] [] [] 0 (ok_token_Point_change x11_2.Point 1 r18_3 hr18_3) (fun a w => Try.call30 a w) rfl trivial) ?_
    refine Wy (.own 2) [(2, (.arr 65 3 (List.length ([r18_3] : List GChange)) (flatD enc_GChange ([r18_3] : List GChange))))] (Obs rfl) ?_
    obtain ⟨a20_3, ha20_3, hm⟩ := bnd hm; obtain ⟨ha20_3e, ha20_3l⟩ := app_some ha20_3
    refine Wy (.own 3) [(0, .gone), (3, (.arr 65 3 (List.length a20_3) (flatD enc_GChange a20_3)))] (Oap rfl elemOK_31 enc_GChange_len ha20_3e ha20_3l) ?_
    refine Wy (.own 3) [] (Omv rfl) ?_
    refine Walk.nil ?_
    refine InBlock.normal ?_
    refine Then.normal ?_
    refine Amk 904 8 ⟨(tp 3 ((.own 3) :: (tp 3 ((.l enc_GLeave_ p0.L) :: ((.i ((List.length p0.L : Nat) : Int)) :: ((.i y9_1) :: (tp 14 []))))))), [.gone, .gone, .gone, (.arr 65 3 (List.length a20_3) (flatD enc_GChange a20_3))], 0⟩ ?_
    refine AWP.text ?_
    refine Wy (.i (IntKind.i64.wrap (y9_1 + 1))) [] (Obn rfl (fun _ => hb_add (k := .i64))) ?_
    refine Wy (.i (IntKind.i64.wrap (y9_1 + 1))) [] (Omv rfl) ?_
    refine Walk.nil ?_
    refine RoundK.normal ?_
    exact Rounds.weak (Weak.toK 904 0 0 [3]) (ih_1 (fu_1, a20_3, (IntKind.i64.wrap (y9_1 + 1))) hm (Nat.lt_succ_self _))
   ·
    replace hm := cF hc14_6 hm
    refine AWP.if_ false (Eq.trans (by kernel_rfl) (lit_tf (b := x11_2.Held) hc14_6)) ?_
    refine AWP.skip ?_
    refine InBlock.normal ?_
    refine Then.normal ?_
    refine Amk 904 1 ⟨(tp 3 ((.own 0) :: (tp 3 ((.l enc_GLeave_ p0.L) :: ((.i ((List.length p0.L : Nat) : Int)) :: ((.i y9_1) :: (tp 14 []))))))), [(.arr 65 3 (List.length y3_1) (flatD enc_GChange y3_1)), .gone], 0⟩ ?_
    refine AWP.text ?_
    refine Wy (.i (IntKind.i64.wrap (y9_1 + 1))) [] (Obn rfl (fun _ => hb_add (k := .i64))) ?_
    refine Wy (.i (IntKind.i64.wrap (y9_1 + 1))) [] (Omv rfl) ?_
    refine Walk.nil ?_
    refine RoundK.normal ?_
    exact Rounds.weak (Weak.toK 904 0 0 [0]) (ih_1 (fu_1, y3_1, (IntKind.i64.wrap (y9_1 + 1))) hm (Nat.lt_succ_self _))
  ·
   replace hm := cF hc10_5 hm
   refine AWP.if_ false (Eq.trans (by kernel_rfl) (lit_tf (b := decide (y9_1 < ((List.length p0.L : Nat) : Int))) hc10_5)) ?_
   refine AWP.exit ?_
   refine Then.exit ?_
   refine RoundK.exit ?_
   refine InBlock.same ?_
   refine Then.normal ?_
   refine Amk 8 1 ⟨(tp 3 ((.own 0) :: (tp 20 []))), [(.arr 65 3 (List.length y3_1) (flatD enc_GChange y3_1))], 0⟩ ?_
   refine AWP.seq ?_
   refine AWP.text ?_
   refine Wy (.own 0) [] (Omv rfl) ?_
   obtain ⟨r23_4, hr23_4, hm⟩ := bnd hm
   refine Wy (.l enc_GChange r23_4) [(0, (.fro 65 3 (List.length y3_1) (flatD enc_GChange y3_1)))] (Ocf [] [] [0] 0 (ok_tally_Normal y3_1 r23_4 hr23_4) (fun a w => Try.call33 a w) rfl trivial) ?_
   refine Wy (.l enc_GChange r23_4) [] (Omv rfl) ?_
   refine Walk.nil ?_
   refine Then.normal ?_
   refine AWP.ret ?_
   obtain rfl := Option.some.inj hm
   exact ret_i []

set_option maxRecDepth 20000 in
set_option maxHeartbeats 4000000 in
theorem ok_slices_Equal_Leave (p0 : (List GLeave_)) (p1 : (List GLeave_)) (r : Bool) (h : m_slices_Equal_Leave p0 p1 = some r) : GCall Try.prog 39 [(.l enc_GLeave_ p0), (.l enc_GLeave_ p1)] [] (.b r) [] := by
 refine GCall.of_body (n := 26) (rs := [(.tmp 4)]) Try.func39 rfl rfl rfl ?_
 refine Ato ⟨((.l enc_GLeave_ p0) :: ((.l enc_GLeave_ p1) :: (tu 24 []))), [], 0⟩ ?_
 have hm := h
 unfold m_slices_Equal_Leave at hm
 refine AWP.seq ?_
 refine AWP.text ?_
 refine Wy (.b false) [] (Omv rfl) ?_
 refine Walk.nil ?_
 refine Then.normal ?_
 refine Amk 3 0 ⟨((.l enc_GLeave_ p0) :: ((.l enc_GLeave_ p1) :: (tp 24 []))), [], 0⟩ ?_
 refine AWP.seq ?_
 refine AWP.seq ?_
 refine AWP.text ?_
 refine Wy (.l enc_GLeave_ p0) [] (Omv rfl) ?_
 refine Wy (.i ((List.length p0 : Nat) : Int)) [] (Oln rfl) ?_
 refine Wy (.l enc_GLeave_ p1) [] (Omv rfl) ?_
 refine Wy (.i ((List.length p1 : Nat) : Int)) [] (Oln rfl) ?_
 refine Wy (.b (decide (((List.length p0 : Nat) : Int) ≠ ((List.length p1 : Nat) : Int)))) [] (Obn rfl (fun _ => hb_neq (k := .i64))) ?_
 refine Walk.nil ?_
 refine Then.normal ?_
 refine Amk 1027 0 ⟨((.l enc_GLeave_ p0) :: ((.l enc_GLeave_ p1) :: (tp 8 ((.b (decide (((List.length p0 : Nat) : Int) ≠ ((List.length p1 : Nat) : Int)))) :: (tp 15 []))))), [], 0⟩ ?_
 rcases tf_ (decide (((List.length p0 : Nat) : Int) ≠ ((List.length p1 : Nat) : Int))) with hc10_4 | hc10_4
 ·
  replace hm := cT hc10_4 hm
  refine AWP.if_ true (Eq.trans (by kernel_rfl) (lit_tf (b := decide (((List.length p0 : Nat) : Int) ≠ ((List.length p1 : Nat) : Int))) hc10_4)) ?_
  refine AWP.seq ?_
  refine AWP.text ?_
  refine Wy (.b false) [] (Omv rfl) ?_
  refine Walk.nil ?_
  refine Then.normal ?_
  refine AWP.ret ?_
  refine Then.ret ?_
  obtain rfl := Option.some.inj hm
  exact ret_i []
 ·
  replace hm := cF hc10_4 hm
  refine AWP.if_ false (Eq.trans (by kernel_rfl) (lit_tf (b := decide (((List.length p0 : Nat) : Int) ≠ ((List.length p1 : Nat) : Int))) hc10_4)) ?_
  refine AWP.skip ?_
  refine Then.normal ?_
  refine Amk 3 0 ⟨((.l enc_GLeave_ p0) :: ((.l enc_GLeave_ p1) :: (tp 24 []))), [], 0⟩ ?_
  refine AWP.seq ?_
  refine AWP.seq ?_
  refine AWP.text ?_
  refine Wy (.l enc_GLeave_ p0) [] (Omv rfl) ?_
  refine Wy (.i ((List.length p0 : Nat) : Int)) [] (Oln rfl) ?_
  refine Wy (.i 0) [] (Omv rfl) ?_
  refine Walk.nil ?_
  refine Then.normal ?_
  refine Amk 12291 0 ⟨((.l enc_GLeave_ p0) :: ((.l enc_GLeave_ p1) :: (tp 10 ((.i ((List.length p0 : Nat) : Int)) :: ((.i 0) :: (tp 12 [])))))), [], 0⟩ ?_
  refine AWP.block ?_
  refine AWP.loopI (α := Nat × Int)
    (fun x => match x with | (fu_2, y13_2) => (⟨((.l enc_GLeave_ p0) :: ((.l enc_GLeave_ p1) :: (tp 10 ((.i ((List.length p0 : Nat) : Int)) :: ((.i y13_2) :: (tp 12 [])))))), [], 0⟩ : St))
    (fun x => match x with | (fu_2, y13_2) => m_slices_Equal_Leave_l2 p0 p1 fu_2 y13_2 = some r)
    (fun x => match x with | (fu_2, y13_2) => fu_2) (1152921504606846976, 0)
    (Weak.toK 12291 0 0 []) hm ?_
  rintro ⟨fu_2, y13_2⟩ n_2 hm ih_2
  try dsimp only at hm ih_2 ⊢
  cases fu_2 with
  | zero => exact absurd hm (by unfold m_slices_Equal_Leave_l2; simp)
  | succ fu_2 =>
   unfold m_slices_Equal_Leave_l2 at hm
   refine AWP.seq ?_
   refine AWP.text ?_
   refine Wy (.b (decide (y13_2 < ((List.length p0 : Nat) : Int)))) [] (Obn rfl (fun _ => hb_lss (k := .i64))) ?_
   refine Walk.nil ?_
   refine Then.normal ?_
   refine Amk 28675 0 ⟨((.l enc_GLeave_ p0) :: ((.l enc_GLeave_ p1) :: (tp 10 ((.i ((List.length p0 : Nat) : Int)) :: ((.i y13_2) :: ((.b (decide (y13_2 < ((List.length p0 : Nat) : Int)))) :: (tp 11 []))))))), [], 0⟩ ?_
   refine AWP.seq ?_
   rcases tf_ (decide (y13_2 < ((List.length p0 : Nat) : Int))) with hc14_5 | hc14_5
   ·
    replace hm := cT hc14_5 hm
    refine AWP.if_ true (Eq.trans (by kernel_rfl) (lit_tf (b := decide (y13_2 < ((List.length p0 : Nat) : Int))) hc14_5)) ?_
    refine AWP.skip ?_
    refine Then.normal ?_
    refine Amk 12291 0 ⟨((.l enc_GLeave_ p0) :: ((.l enc_GLeave_ p1) :: (tp 10 ((.i ((List.length p0 : Nat) : Int)) :: ((.i y13_2) :: (tp 12 [])))))), [], 0⟩ ?_
    refine AWP.seq ?_
    refine AWP.block ?_
    refine AWP.seq ?_
    refine AWP.text ?_
    refine Wy (.i y13_2) [] (Omv rfl) ?_
    refine Wy (.i y13_2) [] (Omv rfl) ?_
    refine Walk.nil ?_
    refine Then.normal ?_
    refine Amk 12323 0 ⟨((.l enc_GLeave_ p0) :: ((.l enc_GLeave_ p1) :: (tp 3 ((.i y13_2) :: (tp 6 ((.i ((List.length p0 : Nat) : Int)) :: ((.i y13_2) :: (tp 12 [])))))))), [], 0⟩ ?_
    refine AWP.seq ?_
    refine Adr ?_
    refine Wy (.l enc_GLeave_ p0) [] (Omv rfl) ?_
    refine Wy (.i y13_2) [] (Omv rfl) ?_
    obtain ⟨x18_3, hx18_3, hm⟩ := bnd hm
    obtain ⟨hx18_3i, hx18_3g⟩ := geti_some hx18_3
    refine Wy (.d (.ref (List.drop ((Int.toNat y13_2) * 3) (flatD enc_GLeave_ p0)))) [] (Oia rfl enc_GLeave__len hx18_3i hx18_3g) ?_
    refine Wy (.agg [(.i x18_3.Point.Loc), (.i x18_3.Point.Time), (.b x18_3.Held)]) [] (Lf rfl enc_GLeave__len hx18_3g) ?_
    refine Wy (.l enc_GLeave_ p1) [] (Omv rfl) ?_
    refine Wy (.i y13_2) [] (Omv rfl) ?_
    obtain ⟨x22_3, hx22_3, hm⟩ := bnd hm
    obtain ⟨hx22_3i, hx22_3g⟩ := geti_some hx22_3
    refine Wy (.d (.ref (List.drop ((Int.toNat y13_2) * 3) (flatD enc_GLeave_ p1)))) [] (Oia rfl enc_GLeave__len hx22_3i hx22_3g) ?_
    refine Wy (.agg [(.i x22_3.Point.Loc), (.i x22_3.Point.Time), (.b x22_3.Held)]) [] (Lf rfl enc_GLeave__len hx22_3g) ?_
    obtain ⟨v24_3, hv24_3, hm⟩ := bnd hm; replace hv24_3 := Option.some.inj hv24_3
    refine Wy (.b v24_3) [] (Ocs (Eq.trans (by kernel_rfl) (congrArg (fun z => A.d (.lit (.bool z))) hv24_3)) (op_neq_deep rfl (la := [(.i x18_3.Point.Loc), (.i x18_3.Point.Time), (.b x18_3.Held)]) (lb := [(.i x22_3.Point.Loc), (.i x22_3.Point.Time), (.b x22_3.Held)]) (us := [.int .i64 x18_3.Point.Loc, .int .i64 x18_3.Point.Time, .bool x18_3.Held]) (vs := [.int .i64 x22_3.Point.Loc, .int .i64 x22_3.Point.Time, .bool x22_3.Held]) (r := ((decide (x18_3.Point.Loc = x22_3.Point.Loc) && (decide (x18_3.Point.Time = x22_3.Point.Time) && true)) && (decide (x18_3.Held = x22_3.Held) && true))) (by kernel_rfl) (by kernel_rfl) (by kernel_rfl) (by kernel_rfl) (by kernel_rfl) (by kernel_rfl))) ?_
    refine Wdr ?_
    refine Then.normal ?_
    refine Amk 16789507 0 ⟨((.l enc_GLeave_ p0) :: ((.l enc_GLeave_ p1) :: (tp 10 ((.i ((List.length p0 : Nat) : Int)) :: ((.i y13_2) :: (tp 10 ((.b v24_3) :: (tp 1 [])))))))), [], 0⟩ ?_
    rcases tf_ v24_3 with hc24_6 | hc24_6
    ·
     replace hm := cT hc24_6 hm
     refine AWP.if_ true (Eq.trans (by kernel_rfl) (lit_tf (b := v24_3) hc24_6)) ?_
     refine AWP.seq ?_
     refine AWP.text ?_
     refine Wy (.b false) [] (Omv rfl) ?_
     refine Walk.nil ?_
     refine Then.normal ?_
     refine AWP.ret ?_
     refine InBlock.ret ?_
     refine Then.ret ?_
     refine RoundK.ret ?_
     refine InBlock.ret ?_
     refine Then.ret ?_
     obtain rfl := Option.some.inj hm
     exact ret_i []
    ·
     replace hm := cF hc24_6 hm
     refine AWP.if_ false (Eq.trans (by kernel_rfl) (lit_tf (b := v24_3) hc24_6)) ?_
     refine AWP.skip ?_
     refine InBlock.normal ?_
     refine Then.normal ?_
     refine Amk 12291 0 ⟨((.l enc_GLeave_ p0) :: ((.l enc_GLeave_ p1) :: (tp 10 ((.i ((List.length p0 : Nat) : Int)) :: ((.i y13_2) :: (tp 12 [])))))), [], 0⟩ ?_
     refine AWP.text ?_
     refine Wy (.i (IntKind.i64.wrap (y13_2 + 1))) [] (Obn rfl (fun _ => hb_add (k := .i64))) ?_
     refine Wy (.i (IntKind.i64.wrap (y13_2 + 1))) [] (Omv rfl) ?_
     refine Walk.nil ?_
     refine RoundK.normal ?_
     exact Rounds.weak (Weak.toK 12291 0 0 []) (ih_2 (fu_2, (IntKind.i64.wrap (y13_2 + 1))) hm (Nat.lt_succ_self _))
   ·
    replace hm := cF hc14_5 hm
    refine AWP.if_ false (Eq.trans (by kernel_rfl) (lit_tf (b := decide (y13_2 < ((List.length p0 : Nat) : Int))) hc14_5)) ?_
    refine AWP.exit ?_
    refine Then.exit ?_
    refine RoundK.exit ?_
    refine InBlock.same ?_
    refine Then.normal ?_
    refine Amk 0 0 ⟨(tp 26 []), [], 0⟩ ?_
    refine AWP.seq ?_
    refine AWP.text ?_
    refine Wy (.b true) [] (Omv rfl) ?_
    refine Walk.nil ?_
    refine Then.normal ?_
    refine AWP.ret ?_
    obtain rfl := Option.some.inj hm
    exact ret_i []

set_option maxRecDepth 20000 in
set_option maxHeartbeats 4000000 in
theorem ok_token_Same (p0 : GBook) (p1 : GBook) (r : Bool) (h : m_token_Same p0 p1 = some r) : GCall Try.prog 22 [(.agg [(.l enc_GLeave_ p0.L)]), (.agg [(.l enc_GLeave_ p1.L)])] [] (.b r) [] := by
 refine GCall.of_body (n := 10) (rs := [(.tmp 4)]) Try.func22 rfl rfl rfl ?_
 refine Ato ⟨((.agg [(.l enc_GLeave_ p0.L)]) :: ((.agg [(.l enc_GLeave_ p1.L)]) :: (tu 8 []))), [], 0⟩ ?_
 have hm := h
 unfold m_token_Same at hm
 refine AWP.seq ?_
 refine AWP.text ?_
 refine Wy (.loc 0 0) [(0, (.box [(.l enc_GLeave_ p0.L)]))] (Obx rfl) ?_
 refine Wy (.loc 1 0) [(1, (.box [(.l enc_GLeave_ p1.L)]))] (Obx rfl) ?_
 refine Wy (.b false) [] (Omv rfl) ?_
 refine Walk.nil ?_
 refine Then.normal ?_
 refine Amk 12 3 ⟨(tp 2 ((.loc 0 0) :: ((.loc 1 0) :: (tp 6 [])))), [(.box [(.l enc_GLeave_ p0.L)]), (.box [(.l enc_GLeave_ p1.L)])], 0⟩ ?_
 refine AWP.seq ?_
 refine AWP.text ?_
 refine Wy (.loc 0 0) [] (Ofa rfl) ?_
 refine Wy (.l enc_GLeave_ p0.L) [] (Old rfl) ?_
 refine Wy (.loc 1 0) [] (Ofa rfl) ?_
 refine Wy (.l enc_GLeave_ p1.L) [] (Old rfl) ?_
 obtain ⟨r9_0, hr9_0, hm⟩ := bnd hm
 refine Wy (.b r9_0) [] (Ocf [] [] [] 0 (ok_slices_Equal_Leave p0.L p1.L r9_0 hr9_0) (fun a w => Try.call39 a w) rfl trivial) ?_
 refine Wy (.b r9_0) [] (Omv rfl) ?_
 refine Walk.nil ?_
 refine Then.normal ?_
 refine AWP.ret ?_
 obtain rfl := Option.some.inj hm
 exact ret_i []
end Go.Proofs.Ytkamekhkkkeedaa.K
