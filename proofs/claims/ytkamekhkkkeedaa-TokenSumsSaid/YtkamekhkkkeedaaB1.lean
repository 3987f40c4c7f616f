/- what telltalelaw28.TokenSums needs (1) -/
import Derived.Test.YtkamekhkkkeedaaB0
namespace Go.Proofs.Ytkamekhkkkeedaa.K
open Go.RowKit Go.Lib
set_option linter.unusedVariables false
set_option linter.unusedSimpArgs false

set_option maxRecDepth 20000 in
set_option maxHeartbeats 4000000 in
theorem ok_telltalelaw28_awake (r : Bool) (h : m_telltalelaw28_awake = some r) : GCall Try.prog 5 [] [] (.b r) [] := by
 refine GCall.of_body (n := 206) (rs := [(.tmp 0)]) Try.func5 rfl rfl rfl ?_
 refine Ato ⟨(tu 206 []), [], 0⟩ ?_
 have hm := h
 unfold m_telltalelaw28_awake at hm
 refine AWP.seq ?_
 refine AWP.text ?_
 refine Wy (.b false) [] (Omv rfl) ?_
 refine Walk.nil ?_
 refine Then.normal ?_
 refine Amk 0 0 ⟨(tp 206 []), [], 0⟩ ?_
 refine AWP.seq ?_
 refine AWP.text ?_
 refine Wy (.loc 0 0) [(0, (.box [(.d .nil)]))] (Oal rfl) ?_
 refine Walk.nil ?_
 refine Then.normal ?_
 refine Amk 2 1 ⟨(tp 1 ((.loc 0 0) :: (tp 204 []))), [(.box [(.d .nil)])], 0⟩ ?_
 refine AWP.seq ?_
 refine AWP.text ?_
 refine Wy (.agg [(.d .nil)]) [] (Old rfl) ?_
 refine Wy (.agg [(.i 0), (.i 0)]) [] (Obd rfl) ?_
 obtain ⟨r30_0, hr30_0, hm⟩ := bnd hm
 refine Wy (.tup [(.agg [(.l enc_GLeave_ r30_0.1.L)]), (.i r30_0.2.1), (.own 1), (.i r30_0.2.2.2)]) [(1, (.arr 65 3 (List.length r30_0.2.2.1) (flatD enc_GChange r30_0.2.2.1)))] (Ocf [] [1] [] 0 (ok_token_Book_Hold (GBook.mk ([] : List GLeave_)) (GPoint.mk 0 0) r30_0 hr30_0) (fun a w => Try.call7 a w) rfl trivial) ?_
 refine Wy (.tup [(.agg [(.l enc_GLeave_ r30_0.1.L)]), (.i r30_0.2.1), (.own 1), (.i r30_0.2.2.2)]) [] (Omv rfl) ?_
 refine Wy (.agg [(.l enc_GLeave_ r30_0.1.L)]) [] (Oex rfl) ?_
 refine Wy (.i r30_0.2.1) [] (Oex rfl) ?_
 refine Wy (.own 1) [] (Oex rfl) ?_
 refine Wy (.i r30_0.2.2.2) [] (Oex rfl) ?_
 refine Wy (.loc 2 0) [(2, (.box [(.d .nil)]))] (Oal rfl) ?_
 refine Wy (.tup []) [(2, (.box [(.l enc_GLeave_ r30_0.1.L)]))] (Ost rfl) ?_
 refine Wy (.i r30_0.2.1) [] (Omv rfl) ?_
 refine Wy (.own 1) [] (Omv rfl) ?_
 refine Wy (.i r30_0.2.2.2) [] (Omv rfl) ?_
 refine Walk.nil ?_
 refine Then.normal ?_
 refine Amk 62 7 ⟨(tp 1 ((.loc 0 0) :: ((.loc 2 0) :: ((.i r30_0.2.1) :: ((.own 1) :: ((.i r30_0.2.2.2) :: (tp 200 []))))))), [(.box [(.d .nil)]), (.arr 65 3 (List.length r30_0.2.2.1) (flatD enc_GChange r30_0.2.2.1)), (.box [(.l enc_GLeave_ r30_0.1.L)])], 0⟩ ?_
 refine AWP.seq ?_
 refine AWP.text ?_
 refine Wy (.agg [(.l enc_GLeave_ r30_0.1.L)]) [] (Old rfl) ?_
 refine Wy (.i r30_0.2.1) [] (Omv rfl) ?_
 obtain ⟨r38_1, hr38_1, hm⟩ := bnd hm
 refine Wy (.tup [(.agg [(.l enc_GLeave_ r38_1.1.L)]), (.l enc_GChange r38_1.2.1), (.i r38_1.2.2)]) [] (Ocf [] [] [] 0 (ok_token_Book_Lower r30_0.1 r30_0.2.1 5 r38_1 hr38_1) (fun a w => Try.call9 a w) rfl trivial) ?_
 refine Wy (.tup [(.agg [(.l enc_GLeave_ r38_1.1.L)]), (.l enc_GChange r38_1.2.1), (.i r38_1.2.2)]) [] (Omv rfl) ?_
 refine Wy (.agg [(.l enc_GLeave_ r38_1.1.L)]) [] (Oex rfl) ?_
 refine Wy (.l enc_GChange r38_1.2.1) [] (Oex rfl) ?_
 refine Wy (.i r38_1.2.2) [] (Oex rfl) ?_
 refine Wy (.loc 3 0) [(3, (.box [(.d .nil)]))] (Oal rfl) ?_
 refine Wy (.tup []) [(3, (.box [(.l enc_GLeave_ r38_1.1.L)]))] (Ost rfl) ?_
 refine Wy (.l enc_GChange r38_1.2.1) [] (Omv rfl) ?_
 refine Wy (.i r38_1.2.2) [] (Omv rfl) ?_
 refine Walk.nil ?_
 refine Then.normal ?_
 refine Amk 510 15 ⟨(tp 1 ((.loc 0 0) :: ((.loc 2 0) :: ((.i r30_0.2.1) :: ((.own 1) :: ((.i r30_0.2.2.2) :: ((.loc 3 0) :: ((.l enc_GChange r38_1.2.1) :: ((.i r38_1.2.2) :: (tp 197 [])))))))))), [(.box [(.d .nil)]), (.arr 65 3 (List.length r30_0.2.2.1) (flatD enc_GChange r30_0.2.2.1)), (.box [(.l enc_GLeave_ r30_0.1.L)]), (.box [(.l enc_GLeave_ r38_1.1.L)])], 0⟩ ?_
 refine AWP.seq ?_
 refine AWP.text ?_
 refine Wy (.agg [(.l enc_GLeave_ r38_1.1.L)]) [] (Old rfl) ?_
 refine Wy (.i r30_0.2.1) [] (Omv rfl) ?_
 obtain ⟨r45_2, hr45_2, hm⟩ := bnd hm
 refine Wy (.tup [(.agg [(.l enc_GLeave_ r45_2.1.L)]), (.l enc_GChange r45_2.2.1), (.i r45_2.2.2)]) [] (Ocf [] [] [] 0 (ok_token_Book_Lower r38_1.1 r30_0.2.1 4 r45_2 hr45_2) (fun a w => Try.call9 a w) rfl trivial) ?_
 refine Wy (.tup [(.agg [(.l enc_GLeave_ r45_2.1.L)]), (.l enc_GChange r45_2.2.1), (.i r45_2.2.2)]) [] (Omv rfl) ?_
 refine Wy (.agg [(.l enc_GLeave_ r45_2.1.L)]) [] (Oex rfl) ?_
 refine Wy (.l enc_GChange r45_2.2.1) [] (Oex rfl) ?_
 refine Wy (.i r45_2.2.2) [] (Oex rfl) ?_
 refine Wy (.loc 4 0) [(4, (.box [(.d .nil)]))] (Oal rfl) ?_
 refine Wy (.tup []) [(4, (.box [(.l enc_GLeave_ r45_2.1.L)]))] (Ost rfl) ?_
 refine Wy (.l enc_GChange r45_2.2.1) [] (Omv rfl) ?_
 refine Wy (.i r45_2.2.2) [] (Omv rfl) ?_
 refine Walk.nil ?_
 refine Then.normal ?_
 refine Amk 2558 15 ⟨(tp 1 ((.loc 0 0) :: ((.loc 2 0) :: ((.i r30_0.2.1) :: ((.own 1) :: ((.i r30_0.2.2.2) :: ((.loc 3 0) :: ((.l enc_GChange r38_1.2.1) :: ((.i r38_1.2.2) :: (tp 2 ((.i r45_2.2.2) :: (tp 194 [])))))))))))), [(.box [(.d .nil)]), (.arr 65 3 (List.length r30_0.2.2.1) (flatD enc_GChange r30_0.2.2.1)), (.box [(.l enc_GLeave_ r30_0.1.L)]), (.box [(.l enc_GLeave_ r38_1.1.L)]), .gone], 0⟩ ?_
 refine AWP.seq ?_
 refine AWP.text ?_
 refine Wy (.agg [(.l enc_GLeave_ r38_1.1.L)]) [] (Old rfl) ?_
 refine Wy (.i r30_0.2.1) [] (Omv rfl) ?_
 obtain ⟨r52_3, hr52_3, hm⟩ := bnd hm
 refine Wy (.tup [(.agg [(.l enc_GLeave_ r52_3.1.L)]), (.own 5), (.i r52_3.2.2)]) [(5, (.arr 65 3 (List.length r52_3.2.1) (flatD enc_GChange r52_3.2.1)))] (Ocf [] [5] [] 0 (ok_token_Book_Drop r38_1.1 r30_0.2.1 r52_3 hr52_3) (fun a w => Try.call11 a w) rfl trivial) ?_
 refine Wy (.tup [(.agg [(.l enc_GLeave_ r52_3.1.L)]), (.own 5), (.i r52_3.2.2)]) [] (Omv rfl) ?_
 refine Wy (.agg [(.l enc_GLeave_ r52_3.1.L)]) [] (Oex rfl) ?_
 refine Wy (.own 5) [] (Oex rfl) ?_
 refine Wy (.i r52_3.2.2) [] (Oex rfl) ?_
 refine Wy (.loc 6 0) [(6, (.box [(.d .nil)]))] (Oal rfl) ?_
 refine Wy (.tup []) [(6, (.box [(.l enc_GLeave_ r52_3.1.L)]))] (Ost rfl) ?_
 refine Wy (.own 5) [] (Omv rfl) ?_
 refine Wy (.i r52_3.2.2) [] (Omv rfl) ?_
 refine Walk.nil ?_
 refine Then.normal ?_
 refine Amk 31230 111 ⟨(tp 1 ((.loc 0 0) :: ((.loc 2 0) :: ((.i r30_0.2.1) :: ((.own 1) :: ((.i r30_0.2.2.2) :: ((.loc 3 0) :: ((.l enc_GChange r38_1.2.1) :: ((.i r38_1.2.2) :: (tp 2 ((.i r45_2.2.2) :: ((.loc 6 0) :: ((.own 5) :: ((.i r52_3.2.2) :: (tp 191 []))))))))))))))), [(.box [(.d .nil)]), (.arr 65 3 (List.length r30_0.2.2.1) (flatD enc_GChange r30_0.2.2.1)), (.box [(.l enc_GLeave_ r30_0.1.L)]), (.box [(.l enc_GLeave_ r38_1.1.L)]), .gone, (.arr 65 3 (List.length r52_3.2.1) (flatD enc_GChange r52_3.2.1)), (.box [(.l enc_GLeave_ r52_3.1.L)])], 0⟩ ?_
 refine AWP.seq ?_
 refine AWP.text ?_
 refine Wy (.agg [(.l enc_GLeave_ r52_3.1.L)]) [] (Old rfl) ?_
 refine Wy (.i r30_0.2.1) [] (Omv rfl) ?_
 obtain ⟨r59_4, hr59_4, hm⟩ := bnd hm
 refine Wy (.tup [(.agg [(.l enc_GLeave_ r59_4.1.L)]), (.own 7), (.i r59_4.2.2)]) [(7, (.arr 65 3 (List.length r59_4.2.1) (flatD enc_GChange r59_4.2.1)))] (Ocf [] [7] [] 0 (ok_token_Book_Drop r52_3.1 r30_0.2.1 r59_4 hr59_4) (fun a w => Try.call11 a w) rfl trivial) ?_
 refine Wy (.tup [(.agg [(.l enc_GLeave_ r59_4.1.L)]), (.own 7), (.i r59_4.2.2)]) [] (Omv rfl) ?_
 refine Wy (.agg [(.l enc_GLeave_ r59_4.1.L)]) [] (Oex rfl) ?_
 refine Wy (.own 7) [] (Oex rfl) ?_
 refine Wy (.i r59_4.2.2) [] (Oex rfl) ?_
 refine Wy (.loc 8 0) [(8, (.box [(.d .nil)]))] (Oal rfl) ?_
 refine Wy (.tup []) [(8, (.box [(.l enc_GLeave_ r59_4.1.L)]))] (Ost rfl) ?_
 refine Wy (.own 7) [] (Omv rfl) ?_
 refine Wy (.i r59_4.2.2) [] (Omv rfl) ?_
 refine Walk.nil ?_
 refine Then.normal ?_
 refine Amk 162302 111 ⟨(tp 1 ((.loc 0 0) :: ((.loc 2 0) :: ((.i r30_0.2.1) :: ((.own 1) :: ((.i r30_0.2.2.2) :: ((.loc 3 0) :: ((.l enc_GChange r38_1.2.1) :: ((.i r38_1.2.2) :: (tp 2 ((.i r45_2.2.2) :: ((.loc 6 0) :: ((.own 5) :: ((.i r52_3.2.2) :: (tp 2 ((.i r59_4.2.2) :: (tp 188 []))))))))))))))))), [(.box [(.d .nil)]), (.arr 65 3 (List.length r30_0.2.2.1) (flatD enc_GChange r30_0.2.2.1)), (.box [(.l enc_GLeave_ r30_0.1.L)]), (.box [(.l enc_GLeave_ r38_1.1.L)]), .gone, (.arr 65 3 (List.length r52_3.2.1) (flatD enc_GChange r52_3.2.1)), (.box [(.l enc_GLeave_ r52_3.1.L)]), .gone, .gone], 0⟩ ?_
 refine AWP.seq ?_
 refine AWP.text ?_
 refine Wy (.agg [(.l enc_GLeave_ r52_3.1.L)]) [] (Old rfl) ?_
 obtain ⟨r65_5, hr65_5, hm⟩ := bnd hm
 refine Wy (.tup [(.agg [(.l enc_GLeave_ r65_5.1.L)]), (.own 9), (.i r65_5.2.2)]) [(9, (.arr 65 3 (List.length r65_5.2.1) (flatD enc_GChange r65_5.2.1)))] (Ocf [] [9] [] 0 (ok_token_Book_Drop r52_3.1 1 r65_5 hr65_5) (fun a w => Try.call11 a w) rfl trivial) ?_
 refine Wy (.tup [(.agg [(.l enc_GLeave_ r65_5.1.L)]), (.own 9), (.i r65_5.2.2)]) [] (Omv rfl) ?_
 refine Wy (.agg [(.l enc_GLeave_ r65_5.1.L)]) [] (Oex rfl) ?_
 refine Wy (.own 9) [] (Oex rfl) ?_
 refine Wy (.i r65_5.2.2) [] (Oex rfl) ?_
 refine Wy (.loc 10 0) [(10, (.box [(.d .nil)]))] (Oal rfl) ?_
 refine Wy (.tup []) [(10, (.box [(.l enc_GLeave_ r65_5.1.L)]))] (Ost rfl) ?_
 refine Wy (.own 9) [] (Omv rfl) ?_
 refine Wy (.i r65_5.2.2) [] (Omv rfl) ?_
 refine Walk.nil ?_
 refine Then.normal ?_
 refine Amk 1210878 111 ⟨(tp 1 ((.loc 0 0) :: ((.loc 2 0) :: ((.i r30_0.2.1) :: ((.own 1) :: ((.i r30_0.2.2.2) :: ((.loc 3 0) :: ((.l enc_GChange r38_1.2.1) :: ((.i r38_1.2.2) :: (tp 2 ((.i r45_2.2.2) :: ((.loc 6 0) :: ((.own 5) :: ((.i r52_3.2.2) :: (tp 2 ((.i r59_4.2.2) :: (tp 2 ((.i r65_5.2.2) :: (tp 185 []))))))))))))))))))), [(.box [(.d .nil)]), (.arr 65 3 (List.length r30_0.2.2.1) (flatD enc_GChange r30_0.2.2.1)), (.box [(.l enc_GLeave_ r30_0.1.L)]), (.box [(.l enc_GLeave_ r38_1.1.L)]), .gone, (.arr 65 3 (List.length r52_3.2.1) (flatD enc_GChange r52_3.2.1)), (.box [(.l enc_GLeave_ r52_3.1.L)]), .gone, .gone, .gone, .gone], 0⟩ ?_
 refine AWP.seq ?_
 refine AWP.text ?_
 refine Wy (.agg [(.d .nil)]) [] (Old rfl) ?_
 refine Wy (.agg [(.i 4), (.i 0)]) [] (Obd rfl) ?_
 obtain ⟨r72_6, hr72_6, hm⟩ := bnd hm
 refine Wy (.tup [(.agg [(.l enc_GLeave_ r72_6.1.L)]), (.i r72_6.2.1), (.own 11), (.i r72_6.2.2.2)]) [(11, (.arr 65 3 (List.length r72_6.2.2.1) (flatD enc_GChange r72_6.2.2.1)))] (Ocf [] [11] [] 0 (ok_token_Book_Hold (GBook.mk ([] : List GLeave_)) (GPoint.mk 4 0) r72_6 hr72_6) (fun a w => Try.call7 a w) rfl trivial) ?_
 refine Wy (.tup [(.agg [(.l enc_GLeave_ r72_6.1.L)]), (.i r72_6.2.1), (.own 11), (.i r72_6.2.2.2)]) [] (Omv rfl) ?_
 refine Wy (.agg [(.l enc_GLeave_ r72_6.1.L)]) [] (Oex rfl) ?_
 refine Wy (.i r72_6.2.1) [] (Oex rfl) ?_
 refine Wy (.own 11) [] (Oex rfl) ?_
 refine Wy (.i r72_6.2.2.2) [] (Oex rfl) ?_
 refine Wy (.loc 12 0) [(12, (.box [(.d .nil)]))] (Oal rfl) ?_
 refine Wy (.tup []) [(12, (.box [(.l enc_GLeave_ r72_6.1.L)]))] (Ost rfl) ?_
 refine Wy (.i r72_6.2.1) [] (Omv rfl) ?_
 refine Wy (.own 11) [] (Omv rfl) ?_
 refine Wy (.i r72_6.2.2.2) [] (Omv rfl) ?_
 refine Walk.nil ?_
 refine Then.normal ?_
 refine Amk 22182396 110 ⟨(tp 2 ((.loc 2 0) :: ((.i r30_0.2.1) :: ((.own 1) :: ((.i r30_0.2.2.2) :: ((.loc 3 0) :: ((.l enc_GChange r38_1.2.1) :: ((.i r38_1.2.2) :: (tp 2 ((.i r45_2.2.2) :: ((.loc 6 0) :: ((.own 5) :: ((.i r52_3.2.2) :: (tp 2 ((.i r59_4.2.2) :: (tp 2 ((.i r65_5.2.2) :: (tp 1 ((.i r72_6.2.1) :: (tp 1 ((.i r72_6.2.2.2) :: (tp 181 [])))))))))))))))))))))), [.gone, (.arr 65 3 (List.length r30_0.2.2.1) (flatD enc_GChange r30_0.2.2.1)), (.box [(.l enc_GLeave_ r30_0.1.L)]), (.box [(.l enc_GLeave_ r38_1.1.L)]), .gone, (.arr 65 3 (List.length r52_3.2.1) (flatD enc_GChange r52_3.2.1)), (.box [(.l enc_GLeave_ r52_3.1.L)]), .gone, .gone, .gone, .gone, .gone, .gone], 0⟩ ?_
 refine AWP.seq ?_
 refine AWP.text ?_
 refine Wy (.agg [(.l enc_GLeave_ r38_1.1.L)]) [] (Old rfl) ?_
 obtain ⟨r79_7, hr79_7, hm⟩ := bnd hm
 refine Wy (.tup [(.agg [(.i r79_7.1.Point.Loc), (.i r79_7.1.Point.Time), (.b r79_7.1.Held)]), (.b r79_7.2)]) [] (Ocf [] [] [] 0 (ok_token_Book_Get r38_1.1 0 r79_7 hr79_7) (fun a w => Try.call13 a w) rfl trivial) ?_
 refine Wy (.tup [(.agg [(.i r79_7.1.Point.Loc), (.i r79_7.1.Point.Time), (.b r79_7.1.Held)]), (.b r79_7.2)]) [] (Omv rfl) ?_
 refine Wy (.agg [(.i r79_7.1.Point.Loc), (.i r79_7.1.Point.Time), (.b r79_7.1.Held)]) [] (Oex rfl) ?_
 refine Wy (.b r79_7.2) [] (Oex rfl) ?_
 refine Wy (.loc 13 0) [(13, (.box [(.i 0), (.i 0), (.b false)]))] (Oal rfl) ?_
 refine Wy (.tup []) [(13, (.box [(.i r79_7.1.Point.Loc), (.i r79_7.1.Point.Time), (.b r79_7.1.Held)]))] (Ost rfl) ?_
 refine Wy (.b r79_7.2) [] (Omv rfl) ?_
 refine Walk.nil ?_
 refine Then.normal ?_
 refine Amk 122845692 8302 ⟨(tp 2 ((.loc 2 0) :: ((.i r30_0.2.1) :: ((.own 1) :: ((.i r30_0.2.2.2) :: ((.loc 3 0) :: ((.l enc_GChange r38_1.2.1) :: ((.i r38_1.2.2) :: (tp 2 ((.i r45_2.2.2) :: ((.loc 6 0) :: ((.own 5) :: ((.i r52_3.2.2) :: (tp 2 ((.i r59_4.2.2) :: (tp 2 ((.i r65_5.2.2) :: (tp 1 ((.i r72_6.2.1) :: (tp 1 ((.i r72_6.2.2.2) :: ((.loc 13 0) :: ((.b r79_7.2) :: (tp 179 [])))))))))))))))))))))))), [.gone, (.arr 65 3 (List.length r30_0.2.2.1) (flatD enc_GChange r30_0.2.2.1)), (.box [(.l enc_GLeave_ r30_0.1.L)]), (.box [(.l enc_GLeave_ r38_1.1.L)]), .gone, (.arr 65 3 (List.length r52_3.2.1) (flatD enc_GChange r52_3.2.1)), (.box [(.l enc_GLeave_ r52_3.1.L)]), .gone, .gone, .gone, .gone, .gone, .gone, (.box [(.i r79_7.1.Point.Loc), (.i r79_7.1.Point.Time), (.b r79_7.1.Held)])], 0⟩ ?_
 refine AWP.seq ?_
 refine AWP.text ?_
 refine Wy (.i r30_0.2.2.2) [] (Omv rfl) ?_
 refine Wy (.b (decide (r30_0.2.2.2 = 0))) [] (Obn rfl (fun _ => hb_eql (k := .i64))) ?_
 rcases tf_ (decide (r30_0.2.2.2 = 0)) with hq84_8 | hq84_8
 ·
  replace hm := cT hq84_8 hm
  refine Wy (.b true) [] (Ocs (lit_tf (b := decide (r30_0.2.2.2 = 0)) hq84_8) (Omv rfl)) ?_
  refine Wy (.i r30_0.2.1) [] (Omv rfl) ?_
  refine Wy (.b (decide (r30_0.2.1 = 0))) [] (Obn rfl (fun _ => hb_eql (k := .i64))) ?_
  refine Wy (.b (decide (r30_0.2.1 = 0))) [] (OpT rfl) ?_
  rcases tf_ (decide (r30_0.2.1 = 0)) with hq88_8 | hq88_8
  ·
   replace hm := cT hq88_8 hm
   refine Wy (.b true) [] (Ocs (lit_tf (b := decide (r30_0.2.1 = 0)) hq88_8) (Omv rfl)) ?_
   refine Wy (.own 1) [] (Omv rfl) ?_
   refine Wy (.i ((List.length r30_0.2.2.1 : Nat) : Int)) [] (Oln rfl) ?_
   refine Wy (.b (decide (((List.length r30_0.2.2.1 : Nat) : Int) = 1))) [] (Obn rfl (fun _ => hb_eql (k := .i64))) ?_
   refine Wy (.b (decide (((List.length r30_0.2.2.1 : Nat) : Int) = 1))) [] (OpT rfl) ?_
   rcases tf_ (decide (((List.length r30_0.2.2.1 : Nat) : Int) = 1)) with hq93_8 | hq93_8
   ·
    replace hm := cT hq93_8 hm
    refine Wy (.b true) [] (Ocs (lit_tf (b := decide (((List.length r30_0.2.2.1 : Nat) : Int) = 1)) hq93_8) (Omv rfl)) ?_
    refine Wy (.own 1) [] (Omv rfl) ?_
    obtain ⟨x95_8, hx95_8, hm⟩ := bnd hm
    obtain ⟨hx95_8i, hx95_8g⟩ := geti_some hx95_8
    refine Wy (.loc 1 ((Int.toNat 0) * 3)) [] (Oia rfl enc_GChange_len hx95_8i hx95_8g) ?_
    refine Wy (.loc 1 ((Int.toNat 0) * 3 + 2)) [] (Ofa rfl) ?_
    refine Wy (.i x95_8.N) [] (Lrk1 2 rfl enc_GChange_len hx95_8g) ?_
    refine Wy (.b (decide (x95_8.N = 1))) [] (Obn rfl (fun _ => hb_eql (k := .i64))) ?_
    refine Wy (.b (decide (x95_8.N = 1))) [] (OpT rfl) ?_
    rcases tf_ (decide (x95_8.N = 1)) with hq100_8 | hq100_8
    ·
     replace hm := cT hq100_8 hm
     refine Wy (.b true) [] (Ocs (lit_tf (b := decide (x95_8.N = 1)) hq100_8) (Omv rfl)) ?_
     refine Wy (.i r38_1.2.2) [] (Omv rfl) ?_
     refine Wy (.b (decide (r38_1.2.2 = 0))) [] (Obn rfl (fun _ => hb_eql (k := .i64))) ?_
     refine Wy (.b (decide (r38_1.2.2 = 0))) [] (OpT rfl) ?_
     rcases tf_ (decide (r38_1.2.2 = 0)) with hq104_8 | hq104_8
     ·
      replace hm := cT hq104_8 hm
      refine Wy (.b true) [] (Ocs (lit_tf (b := decide (r38_1.2.2 = 0)) hq104_8) (Omv rfl)) ?_
      refine Wy (.l enc_GChange r38_1.2.1) [] (Omv rfl) ?_
      refine Wy (.i ((List.length r38_1.2.1 : Nat) : Int)) [] (Oln rfl) ?_
      refine Wy (.b (decide (((List.length r38_1.2.1 : Nat) : Int) = 2))) [] (Obn rfl (fun _ => hb_eql (k := .i64))) ?_
      refine Wy (.b (decide (((List.length r38_1.2.1 : Nat) : Int) = 2))) [] (OpT rfl) ?_
      rcases tf_ (decide (((List.length r38_1.2.1 : Nat) : Int) = 2)) with hq109_8 | hq109_8
      ·
       replace hm := cT hq109_8 hm
       refine Wy (.b true) [] (Ocs (lit_tf (b := decide (((List.length r38_1.2.1 : Nat) : Int) = 2)) hq109_8) (Omv rfl)) ?_
       refine Wy (.l enc_GChange r38_1.2.1) [] (Omv rfl) ?_
       obtain ⟨x111_8, hx111_8, hm⟩ := bnd hm
       obtain ⟨hx111_8i, hx111_8g⟩ := geti_some hx111_8
       refine Wy (.d (.ref (List.drop ((Int.toNat 0) * 3) (flatD enc_GChange r38_1.2.1)))) [] (Oia rfl enc_GChange_len hx111_8i hx111_8g) ?_
       refine Wy (.agg [(.i x111_8.Loc), (.i x111_8.Time), (.i x111_8.N)]) [] (Lf rfl enc_GChange_len hx111_8g) ?_
       refine Wy (.agg [(.i 0), (.i 0), (.i (-1))]) [] (Obd rfl) ?_
       refine Wy (.b (decide (x111_8.Loc = 0) && (decide (x111_8.Time = 0) && (decide (x111_8.N = (-1)) && true)))) [] (Ocs (by kernel_rfl) (op_eql_struct rfl (la := [(.i x111_8.Loc), (.i x111_8.Time), (.i x111_8.N)]) (lb := [(.i 0), (.i 0), (.i (-1))]) (us := [.int .i64 x111_8.Loc, .int .i64 x111_8.Time, .int .i64 x111_8.N]) (vs := [.int .i64 0, .int .i64 0, .int .i64 (-1)]) (r := (decide (x111_8.Loc = 0) && (decide (x111_8.Time = 0) && (decide (x111_8.N = (-1)) && true)))) (by kernel_rfl) (by kernel_rfl) (by kernel_rfl) (by kernel_rfl) (by kernel_rfl))) ?_
       refine Wy (.b (decide (x111_8.Loc = 0) && (decide (x111_8.Time = 0) && (decide (x111_8.N = (-1)) && true)))) [] (OpT rfl) ?_
       rcases tf_ (decide (x111_8.Loc = 0) && (decide (x111_8.Time = 0) && (decide (x111_8.N = (-1)) && true))) with hq116_8 | hq116_8
       ·
        replace hm := cT hq116_8 hm
        refine Wy (.b true) [] (Ocs (lit_tf (b := (decide (x111_8.Loc = 0) && (decide (x111_8.Time = 0) && (decide (x111_8.N = (-1)) && true)))) hq116_8) (Omv rfl)) ?_
        refine Wy (.l enc_GChange r38_1.2.1) [] (Omv rfl) ?_
        obtain ⟨x118_8, hx118_8, hm⟩ := bnd hm
        obtain ⟨hx118_8i, hx118_8g⟩ := geti_some hx118_8
        refine Wy (.d (.ref (List.drop ((Int.toNat 1) * 3) (flatD enc_GChange r38_1.2.1)))) [] (Oia rfl enc_GChange_len hx118_8i hx118_8g) ?_
        refine Wy (.agg [(.i x118_8.Loc), (.i x118_8.Time), (.i x118_8.N)]) [] (Lf rfl enc_GChange_len hx118_8g) ?_
        refine Wy (.agg [(.i 0), (.i 5), (.i 1)]) [] (Obd rfl) ?_
        refine Wy (.b (decide (x118_8.Loc = 0) && (decide (x118_8.Time = 5) && (decide (x118_8.N = 1) && true)))) [] (Ocs (by kernel_rfl) (op_eql_struct rfl (la := [(.i x118_8.Loc), (.i x118_8.Time), (.i x118_8.N)]) (lb := [(.i 0), (.i 5), (.i 1)]) (us := [.int .i64 x118_8.Loc, .int .i64 x118_8.Time, .int .i64 x118_8.N]) (vs := [.int .i64 0, .int .i64 5, .int .i64 1]) (r := (decide (x118_8.Loc = 0) && (decide (x118_8.Time = 5) && (decide (x118_8.N = 1) && true)))) (by kernel_rfl) (by kernel_rfl) (by kernel_rfl) (by kernel_rfl) (by kernel_rfl))) ?_
        refine Wy (.b (decide (x118_8.Loc = 0) && (decide (x118_8.Time = 5) && (decide (x118_8.N = 1) && true)))) [] (OpT rfl) ?_
        rcases tf_ (decide (x118_8.Loc = 0) && (decide (x118_8.Time = 5) && (decide (x118_8.N = 1) && true))) with hq123_8 | hq123_8
        ·
         replace hm := cT hq123_8 hm
         refine Wy (.b true) [] (Ocs (lit_tf (b := (decide (x118_8.Loc = 0) && (decide (x118_8.Time = 5) && (decide (x118_8.N = 1) && true)))) hq123_8) (Omv rfl)) ?_
         refine Wy (.i r45_2.2.2) [] (Omv rfl) ?_
         refine Wy (.b (decide (r45_2.2.2 = 8))) [] (Obn rfl (fun _ => hb_eql (k := .i64))) ?_
         refine Wy (.b (decide (r45_2.2.2 = 8))) [] (OpT rfl) ?_
         rcases tf_ (decide (r45_2.2.2 = 8)) with hq127_8 | hq127_8
         ·
          replace hm := cT hq127_8 hm
          refine Wy (.b true) [] (Ocs (lit_tf (b := decide (r45_2.2.2 = 8)) hq127_8) (Omv rfl)) ?_
          refine Wy (.i r52_3.2.2) [] (Omv rfl) ?_
          refine Wy (.b (decide (r52_3.2.2 = 0))) [] (Obn rfl (fun _ => hb_eql (k := .i64))) ?_
          refine Wy (.b (decide (r52_3.2.2 = 0))) [] (OpT rfl) ?_
          rcases tf_ (decide (r52_3.2.2 = 0)) with hq131_8 | hq131_8
          ·
           replace hm := cT hq131_8 hm
           refine Wy (.b true) [] (Ocs (lit_tf (b := decide (r52_3.2.2 = 0)) hq131_8) (Omv rfl)) ?_
           refine Wy (.own 5) [] (Omv rfl) ?_
           refine Wy (.i ((List.length r52_3.2.1 : Nat) : Int)) [] (Oln rfl) ?_
           refine Wy (.b (decide (((List.length r52_3.2.1 : Nat) : Int) = 1))) [] (Obn rfl (fun _ => hb_eql (k := .i64))) ?_
           refine Wy (.b (decide (((List.length r52_3.2.1 : Nat) : Int) = 1))) [] (OpT rfl) ?_
           rcases tf_ (decide (((List.length r52_3.2.1 : Nat) : Int) = 1)) with hq136_8 | hq136_8
           ·
            replace hm := cT hq136_8 hm
            refine Wy (.b true) [] (Ocs (lit_tf (b := decide (((List.length r52_3.2.1 : Nat) : Int) = 1)) hq136_8) (Omv rfl)) ?_
            refine Wy (.own 5) [] (Omv rfl) ?_
            obtain ⟨x138_8, hx138_8, hm⟩ := bnd hm
            obtain ⟨hx138_8i, hx138_8g⟩ := geti_some hx138_8
            refine Wy (.loc 5 ((Int.toNat 0) * 3)) [] (Oia rfl enc_GChange_len hx138_8i hx138_8g) ?_
            refine Wy (.loc 5 ((Int.toNat 0) * 3 + 2)) [] (Ofa rfl) ?_
            refine Wy (.i x138_8.N) [] (Lrk1 2 rfl enc_GChange_len hx138_8g) ?_
            refine Wy (.b (decide (x138_8.N = (-1)))) [] (Obn rfl (fun _ => hb_eql (k := .i64))) ?_
            refine Wy (.b (decide (x138_8.N = (-1)))) [] (OpT rfl) ?_
            rcases tf_ (decide (x138_8.N = (-1))) with hq143_8 | hq143_8
            ·
             replace hm := cT hq143_8 hm
             refine Wy (.b true) [] (Ocs (lit_tf (b := decide (x138_8.N = (-1))) hq143_8) (Omv rfl)) ?_
             refine Wy (.i r59_4.2.2) [] (Omv rfl) ?_
             refine Wy (.b (decide (r59_4.2.2 = 20))) [] (Obn rfl (fun _ => hb_eql (k := .i64))) ?_
             refine Wy (.b (decide (r59_4.2.2 = 20))) [] (OpT rfl) ?_
             rcases tf_ (decide (r59_4.2.2 = 20)) with hq147_8 | hq147_8
             ·
              replace hm := cT hq147_8 hm
              refine Wy (.b true) [] (Ocs (lit_tf (b := decide (r59_4.2.2 = 20)) hq147_8) (Omv rfl)) ?_
              refine Wy (.i r65_5.2.2) [] (Omv rfl) ?_
              refine Wy (.b (decide (r65_5.2.2 = 6))) [] (Obn rfl (fun _ => hb_eql (k := .i64))) ?_
              refine Wy (.b (decide (r65_5.2.2 = 6))) [] (OpT rfl) ?_
              rcases tf_ (decide (r65_5.2.2 = 6)) with hq151_8 | hq151_8
              ·
               replace hm := cT hq151_8 hm
               refine Wy (.b true) [] (Ocs (lit_tf (b := decide (r65_5.2.2 = 6)) hq151_8) (Omv rfl)) ?_
               refine Wy (.i r72_6.2.2.2) [] (Omv rfl) ?_
               refine Wy (.b (decide (r72_6.2.2.2 = 8))) [] (Obn rfl (fun _ => hb_eql (k := .i64))) ?_
               refine Wy (.b (decide (r72_6.2.2.2 = 8))) [] (OpT rfl) ?_
               rcases tf_ (decide (r72_6.2.2.2 = 8)) with hq155_8 | hq155_8
               ·
                replace hm := cT hq155_8 hm
                refine Wy (.b true) [] (Ocs (lit_tf (b := decide (r72_6.2.2.2 = 8)) hq155_8) (Omv rfl)) ?_
                refine Wy (.i r72_6.2.1) [] (Omv rfl) ?_
                refine Wy (.b (decide (r72_6.2.1 = (-1)))) [] (Obn rfl (fun _ => hb_eql (k := .i64))) ?_
                refine Wy (.b (decide (r72_6.2.1 = (-1)))) [] (OpT rfl) ?_
                rcases tf_ (decide (r72_6.2.1 = (-1))) with hq159_8 | hq159_8
                ·
                 replace hm := cT hq159_8 hm
                 refine Wy (.b true) [] (Ocs (lit_tf (b := decide (r72_6.2.1 = (-1))) hq159_8) (Omv rfl)) ?_
                 refine Wy (.agg [(.l enc_GLeave_ r38_1.1.L)]) [] (Old rfl) ?_
                 obtain ⟨r161_8, hr161_8, hm⟩ := bnd hm
                 refine Wy (.b r161_8) [] (Ocf [] [] [] 0 (ok_token_Book_May r38_1.1 0 5 r161_8 hr161_8) (fun a w => Try.call18 a w) rfl trivial) ?_
                 refine Wy (.b r161_8) [] (OpT rfl) ?_
                 rcases tf_ r161_8 with hq163_8 | hq163_8
                 ·
                  replace hm := cT hq163_8 hm
                  refine Wy (.b true) [] (Ocs (lit_tf (b := r161_8) hq163_8) (Omv rfl)) ?_
                  refine Wy (.agg [(.l enc_GLeave_ r38_1.1.L)]) [] (Old rfl) ?_
                  obtain ⟨r165_8, hr165_8, hm⟩ := bnd hm
                  refine Wy (.b r165_8) [] (Ocf [] [] [] 0 (ok_token_Book_May r38_1.1 0 4 r165_8 hr165_8) (fun a w => Try.call18 a w) rfl trivial) ?_
                  refine Wy (.b (!r165_8)) [] (Ocs (by kernel_rfl) (op_un rfl (a1 := .bool r165_8) (by kernel_rfl) (fun _ => hu_not))) ?_
                  refine Wy (.b (!r165_8)) [] (OpT rfl) ?_
                  rcases tf_ (!r165_8) with hq168_8 | hq168_8
                  ·
                   replace hm := cT hq168_8 hm
                   refine Wy (.b true) [] (Ocs (lit_tf (b := (!r165_8)) hq168_8) (Omv rfl)) ?_
                   refine Wy (.b r79_7.2) [] (Omv rfl) ?_
                   refine Wy (.b r79_7.2) [] (OpT rfl) ?_
                   rcases tf_ r79_7.2 with hq171_8 | hq171_8
                   ·
                    replace hm := cT hq171_8 hm
                    refine Wy (.b true) [] (Ocs (lit_tf (b := r79_7.2) hq171_8) (Omv rfl)) ?_
                    refine Wy (.loc 13 0) [] (Ofa rfl) ?_
                    refine Wy (.loc 13 1) [] (Ofa rfl) ?_
                    refine Wy (.i r79_7.1.Point.Time) [] (Old rfl) ?_
                    refine Wy (.b (decide (r79_7.1.Point.Time = 5))) [] (Obn rfl (fun _ => hb_eql (k := .i64))) ?_
                    refine Wy (.b (decide (r79_7.1.Point.Time = 5))) [] (OpT rfl) ?_
                    rcases tf_ (decide (r79_7.1.Point.Time = 5)) with hq177_8 | hq177_8
                    ·
                     replace hm := cT hq177_8 hm
                     refine Wy (.b true) [] (Ocs (lit_tf (b := decide (r79_7.1.Point.Time = 5)) hq177_8) (Omv rfl)) ?_
                     refine Wy (.loc 13 2) [] (Ofa rfl) ?_
                     refine Wy (.b r79_7.1.Held) [] (Old rfl) ?_
                     refine Wy (.b r79_7.1.Held) [] (OpT rfl) ?_
                     rcases tf_ r79_7.1.Held with hq181_8 | hq181_8
                     ·
                      replace hm := cT hq181_8 hm
                      refine Wy (.b true) [] (Ocs (lit_tf (b := r79_7.1.Held) hq181_8) (Omv rfl)) ?_
                      refine Wy (.agg [(.l enc_GLeave_ r38_1.1.L)]) [] (Old rfl) ?_
                      obtain ⟨r183_8, hr183_8, hm⟩ := bnd hm
                      refine Wy (.l enc_GChange r183_8) [] (Ocf [] [] [] 0 (ok_token_Book_Tally r38_1.1 r183_8 hr183_8) (fun a w => Try.call20 a w) rfl trivial) ?_
                      refine Wy (.i ((List.length r183_8 : Nat) : Int)) [] (Oln rfl) ?_
                      refine Wy (.b (decide (((List.length r183_8 : Nat) : Int) = 1))) [] (Obn rfl (fun _ => hb_eql (k := .i64))) ?_
                      refine Wy (.b (decide (((List.length r183_8 : Nat) : Int) = 1))) [] (OpT rfl) ?_
                      rcases tf_ (decide (((List.length r183_8 : Nat) : Int) = 1)) with hq187_8 | hq187_8
                      ·
                       replace hm := cT hq187_8 hm
                       refine Wy (.b true) [] (Ocs (lit_tf (b := decide (((List.length r183_8 : Nat) : Int) = 1)) hq187_8) (Omv rfl)) ?_
                       refine Wy (.agg [(.l enc_GLeave_ r52_3.1.L)]) [] (Old rfl) ?_
                       obtain ⟨r189_8, hr189_8, hm⟩ := bnd hm
                       refine Wy (.l enc_GChange r189_8) [] (Ocf [] [] [] 0 (ok_token_Book_Tally r52_3.1 r189_8 hr189_8) (fun a w => Try.call20 a w) rfl trivial) ?_
                       refine Wy (.i ((List.length r189_8 : Nat) : Int)) [] (Oln rfl) ?_
                       refine Wy (.b (decide (((List.length r189_8 : Nat) : Int) = 0))) [] (Obn rfl (fun _ => hb_eql (k := .i64))) ?_
                       refine Wy (.b (decide (((List.length r189_8 : Nat) : Int) = 0))) [] (OpT rfl) ?_
                       rcases tf_ (decide (((List.length r189_8 : Nat) : Int) = 0)) with hq193_8 | hq193_8
                       ·
                        replace hm := cT hq193_8 hm
                        refine Wy (.b true) [] (Ocs (lit_tf (b := decide (((List.length r189_8 : Nat) : Int) = 0)) hq193_8) (Omv rfl)) ?_
                        refine Wy (.agg [(.l enc_GLeave_ r38_1.1.L)]) [] (Old rfl) ?_
                        refine Wy (.agg [(.l enc_GLeave_ r38_1.1.L)]) [] (Old rfl) ?_
                        obtain ⟨r196_8, hr196_8, hm⟩ := bnd hm
                        refine Wy (.b r196_8) [] (Ocf [] [] [] 0 (ok_token_Same r38_1.1 r38_1.1 r196_8 hr196_8) (fun a w => Try.call22 a w) rfl trivial) ?_
                        refine Wy (.b r196_8) [] (OpT rfl) ?_
                        rcases tf_ r196_8 with hq198_8 | hq198_8
                        ·
                         replace hm := cT hq198_8 hm
                         refine Wy (.b true) [] (Ocs (lit_tf (b := r196_8) hq198_8) (Omv rfl)) ?_
                         refine Wy (.agg [(.l enc_GLeave_ r30_0.1.L)]) [] (Old rfl) ?_
                         refine Wy (.agg [(.l enc_GLeave_ r38_1.1.L)]) [] (Old rfl) ?_
                         obtain ⟨r201_8, hr201_8, hm⟩ := bnd hm
                         refine Wy (.b r201_8) [] (Ocf [] [] [] 0 (ok_token_Same r30_0.1 r38_1.1 r201_8 hr201_8) (fun a w => Try.call22 a w) rfl trivial) ?_
                         refine Wy (.b (!r201_8)) [] (Ocs (by kernel_rfl) (op_un rfl (a1 := .bool r201_8) (by kernel_rfl) (fun _ => hu_not))) ?_
                         refine Wy (.b (!r201_8)) [] (OpT rfl) ?_
                         rcases tf_ (!r201_8) with hq204_8 | hq204_8
                         ·
                          replace hm := cT hq204_8 hm
                          refine Wy (.b true) [] (Ocs (lit_tf (b := (!r201_8)) hq204_8) (Omv rfl)) ?_
                          refine Wy (.b true) [] (OpT rfl) ?_
                          refine Wy (.b true) [] (Omv rfl) ?_
                          refine Walk.nil ?_
                          refine Then.normal ?_
                          refine AWP.ret ?_
                          obtain rfl := Option.some.inj hm
                          exact ret_i []
                         ·
                          replace hm := cF hq204_8 hm
                          refine Wy (.b false) [] (Ocs (lit_tf (b := (!r201_8)) hq204_8) (Omv rfl)) ?_
                          refine Wy (.b false) [] (OpF rfl) ?_
                          refine Wy (.b false) [] (Omv rfl) ?_
                          refine Walk.nil ?_
                          refine Then.normal ?_
                          refine AWP.ret ?_
                          obtain rfl := Option.some.inj hm
                          exact ret_i []
                        ·
                         replace hm := cF hq198_8 hm
                         refine Wy (.b false) [] (Ocs (lit_tf (b := r196_8) hq198_8) (Omv rfl)) ?_
                         refine Wn ?_
                         refine Wn ?_
                         refine Wn ?_
                         refine Wn ?_
                         refine Wy (.b false) [] (OpF rfl) ?_
                         refine Wy (.b false) [] (Omv rfl) ?_
                         refine Wy (.b false) [] (OpF rfl) ?_
                         refine Wy (.b false) [] (Omv rfl) ?_
                         refine Walk.nil ?_
                         refine Then.normal ?_
                         refine AWP.ret ?_
                         obtain rfl := Option.some.inj hm
                         exact ret_i []
                       ·
                        replace hm := cF hq193_8 hm
                        refine Wy (.b false) [] (Ocs (lit_tf (b := decide (((List.length r189_8 : Nat) : Int) = 0)) hq193_8) (Omv rfl)) ?_
                        refine Wn ?_
                        refine Wn ?_
                        refine Wn ?_
                        refine Wy (.b false) [] (OpF rfl) ?_
                        refine Wy (.b false) [] (Omv rfl) ?_
                        refine Wn ?_
                        refine Wn ?_
                        refine Wn ?_
                        refine Wn ?_
                        refine Wy (.b false) [] (OpF rfl) ?_
                        refine Wy (.b false) [] (Omv rfl) ?_
                        refine Wy (.b false) [] (OpF rfl) ?_
                        refine Wy (.b false) [] (Omv rfl) ?_
                        refine Walk.nil ?_
                        refine Then.normal ?_
                        refine AWP.ret ?_
                        obtain rfl := Option.some.inj hm
                        exact ret_i []
                      ·
                       replace hm := cF hq187_8 hm
                       refine Wy (.b false) [] (Ocs (lit_tf (b := decide (((List.length r183_8 : Nat) : Int) = 1)) hq187_8) (Omv rfl)) ?_
                       refine Wn ?_
                       refine Wn ?_
                       refine Wn ?_
                       refine Wn ?_
                       refine Wy (.b false) [] (OpF rfl) ?_
                       refine Wy (.b false) [] (Omv rfl) ?_
                       refine Wn ?_
                       refine Wn ?_
                       refine Wn ?_
                       refine Wy (.b false) [] (OpF rfl) ?_
                       refine Wy (.b false) [] (Omv rfl) ?_
                       refine Wn ?_
                       refine Wn ?_
                       refine Wn ?_
                       refine Wn ?_
                       refine Wy (.b false) [] (OpF rfl) ?_
                       refine Wy (.b false) [] (Omv rfl) ?_
                       refine Wy (.b false) [] (OpF rfl) ?_
                       refine Wy (.b false) [] (Omv rfl) ?_
                       refine Walk.nil ?_
                       refine Then.normal ?_
                       refine AWP.ret ?_
                       obtain rfl := Option.some.inj hm
                       exact ret_i []
                     ·
                      replace hm := cF hq181_8 hm
                      refine Wy (.b false) [] (Ocs (lit_tf (b := r79_7.1.Held) hq181_8) (Omv rfl)) ?_
                      refine Wn ?_
                      refine Wn ?_
                      refine Wn ?_
                      refine Wn ?_
                      refine Wy (.b false) [] (OpF rfl) ?_
                      refine Wy (.b false) [] (Omv rfl) ?_
                      refine Wn ?_
                      refine Wn ?_
                      refine Wn ?_
                      refine Wn ?_
                      refine Wy (.b false) [] (OpF rfl) ?_
                      refine Wy (.b false) [] (Omv rfl) ?_
                      refine Wn ?_
                      refine Wn ?_
                      refine Wn ?_
                      refine Wy (.b false) [] (OpF rfl) ?_
                      refine Wy (.b false) [] (Omv rfl) ?_
                      refine Wn ?_
                      refine Wn ?_
                      refine Wn ?_
                      refine Wn ?_
                      refine Wy (.b false) [] (OpF rfl) ?_
                      refine Wy (.b false) [] (Omv rfl) ?_
                      refine Wy (.b false) [] (OpF rfl) ?_
                      refine Wy (.b false) [] (Omv rfl) ?_
                      refine Walk.nil ?_
                      refine Then.normal ?_
                      refine AWP.ret ?_
                      obtain rfl := Option.some.inj hm
                      exact ret_i []
                    ·
                     replace hm := cF hq177_8 hm
                     refine Wy (.b false) [] (Ocs (lit_tf (b := decide (r79_7.1.Point.Time = 5)) hq177_8) (Omv rfl)) ?_
                     refine Wn ?_
                     refine Wn ?_
                     refine Wy (.b false) [] (OpF rfl) ?_
                     refine Wy (.b false) [] (Omv rfl) ?_
                     refine Wn ?_
                     refine Wn ?_
                     refine Wn ?_
                     refine Wn ?_
                     refine Wy (.b false) [] (OpF rfl) ?_
                     refine Wy (.b false) [] (Omv rfl) ?_
                     refine Wn ?_
                     refine Wn ?_
                     refine Wn ?_
                     refine Wn ?_
                     refine Wy (.b false) [] (OpF rfl) ?_
                     refine Wy (.b false) [] (Omv rfl) ?_
                     refine Wn ?_
                     refine Wn ?_
                     refine Wn ?_
                     refine Wy (.b false) [] (OpF rfl) ?_
                     refine Wy (.b false) [] (Omv rfl) ?_
                     refine Wn ?_
                     refine Wn ?_
                     refine Wn ?_
                     refine Wn ?_
                     refine Wy (.b false) [] (OpF rfl) ?_
                     refine Wy (.b false) [] (Omv rfl) ?_
                     refine Wy (.b false) [] (OpF rfl) ?_
                     refine Wy (.b false) [] (Omv rfl) ?_
                     refine Walk.nil ?_
                     refine Then.normal ?_
                     refine AWP.ret ?_
                     obtain rfl := Option.some.inj hm
                     exact ret_i []
                   ·
                    replace hm := cF hq171_8 hm
                    refine Wy (.b false) [] (Ocs (lit_tf (b := r79_7.2) hq171_8) (Omv rfl)) ?_
                    refine Wn ?_
                    refine Wn ?_
                    refine Wn ?_
                    refine Wn ?_
                    refine Wy (.b false) [] (OpF rfl) ?_
                    refine Wy (.b false) [] (Omv rfl) ?_
                    refine Wn ?_
                    refine Wn ?_
                    refine Wy (.b false) [] (OpF rfl) ?_
                    refine Wy (.b false) [] (Omv rfl) ?_
                    refine Wn ?_
                    refine Wn ?_
                    refine Wn ?_
                    refine Wn ?_
                    refine Wy (.b false) [] (OpF rfl) ?_
                    refine Wy (.b false) [] (Omv rfl) ?_
                    refine Wn ?_
                    refine Wn ?_
                    refine Wn ?_
                    refine Wn ?_
                    refine Wy (.b false) [] (OpF rfl) ?_
                    refine Wy (.b false) [] (Omv rfl) ?_
                    refine Wn ?_
                    refine Wn ?_
                    refine Wn ?_
                    refine Wy (.b false) [] (OpF rfl) ?_
                    refine Wy (.b false) [] (Omv rfl) ?_
                    refine Wn ?_
                    refine Wn ?_
                    refine Wn ?_
                    refine Wn ?_
                    refine Wy (.b false) [] (OpF rfl) ?_
                    refine Wy (.b false) [] (Omv rfl) ?_
                    refine Wy (.b false) [] (OpF rfl) ?_
                    refine Wy (.b false) [] (Omv rfl) ?_
                    refine Walk.nil ?_
                    refine Then.normal ?_
                    refine AWP.ret ?_
                    obtain rfl := Option.some.inj hm
                    exact ret_i []
                  ·
                   replace hm := cF hq168_8 hm
                   refine Wy (.b false) [] (Ocs (lit_tf (b := (!r165_8)) hq168_8) (Omv rfl)) ?_
                   refine Wn ?_
                   refine Wy (.b false) [] (OpF rfl) ?_
                   refine Wy (.b false) [] (Omv rfl) ?_
                   refine Wn ?_
                   refine Wn ?_
                   refine Wn ?_
                   refine Wn ?_
                   refine Wy (.b false) [] (OpF rfl) ?_
                   refine Wy (.b false) [] (Omv rfl) ?_
                   refine Wn ?_
                   refine Wn ?_
                   refine Wy (.b false) [] (OpF rfl) ?_
                   refine Wy (.b false) [] (Omv rfl) ?_
                   refine Wn ?_
                   refine Wn ?_
                   refine Wn ?_
                   refine Wn ?_
                   refine Wy (.b false) [] (OpF rfl) ?_
                   refine Wy (.b false) [] (Omv rfl) ?_
                   refine Wn ?_
                   refine Wn ?_
                   refine Wn ?_
                   refine Wn ?_
                   refine Wy (.b false) [] (OpF rfl) ?_
                   refine Wy (.b false) [] (Omv rfl) ?_
                   refine Wn ?_
                   refine Wn ?_
                   refine Wn ?_
                   refine Wy (.b false) [] (OpF rfl) ?_
                   refine Wy (.b false) [] (Omv rfl) ?_
                   refine Wn ?_
                   refine Wn ?_
                   refine Wn ?_
                   refine Wn ?_
                   refine Wy (.b false) [] (OpF rfl) ?_
                   refine Wy (.b false) [] (Omv rfl) ?_
                   refine Wy (.b false) [] (OpF rfl) ?_
                   refine Wy (.b false) [] (Omv rfl) ?_
                   refine Walk.nil ?_
                   refine Then.normal ?_
                   refine AWP.ret ?_
                   obtain rfl := Option.some.inj hm
                   exact ret_i []
                 ·
                  replace hm := cF hq163_8 hm
                  refine Wy (.b false) [] (Ocs (lit_tf (b := r161_8) hq163_8) (Omv rfl)) ?_
                  refine Wn ?_
                  refine Wn ?_
                  refine Wn ?_
                  refine Wy (.b false) [] (OpF rfl) ?_
                  refine Wy (.b false) [] (Omv rfl) ?_
                  refine Wn ?_
                  refine Wy (.b false) [] (OpF rfl) ?_
                  refine Wy (.b false) [] (Omv rfl) ?_
                  refine Wn ?_
                  refine Wn ?_
                  refine Wn ?_
                  refine Wn ?_
                  refine Wy (.b false) [] (OpF rfl) ?_
                  refine Wy (.b false) [] (Omv rfl) ?_
                  refine Wn ?_
                  refine Wn ?_
                  refine Wy (.b false) [] (OpF rfl) ?_
                  refine Wy (.b false) [] (Omv rfl) ?_
                  refine Wn ?_
                  refine Wn ?_
                  refine Wn ?_
                  refine Wn ?_
                  refine Wy (.b false) [] (OpF rfl) ?_
                  refine Wy (.b false) [] (Omv rfl) ?_
                  refine Wn ?_
                  refine Wn ?_
                  refine Wn ?_
                  refine Wn ?_
                  refine Wy (.b false) [] (OpF rfl) ?_
                  refine Wy (.b false) [] (Omv rfl) ?_
                  refine Wn ?_
                  refine Wn ?_
                  refine Wn ?_
                  refine Wy (.b false) [] (OpF rfl) ?_
                  refine Wy (.b false) [] (Omv rfl) ?_
                  refine Wn ?_
                  refine Wn ?_
                  refine Wn ?_
                  refine Wn ?_
                  refine Wy (.b false) [] (OpF rfl) ?_
                  refine Wy (.b false) [] (Omv rfl) ?_
                  refine Wy (.b false) [] (OpF rfl) ?_
                  refine Wy (.b false) [] (Omv rfl) ?_
                  refine Walk.nil ?_
                  refine Then.normal ?_
                  refine AWP.ret ?_
                  obtain rfl := Option.some.inj hm
                  exact ret_i []
                ·
                 replace hm := cF hq159_8 hm
                 refine Wy (.b false) [] (Ocs (lit_tf (b := decide (r72_6.2.1 = (-1))) hq159_8) (Omv rfl)) ?_
                 refine Wn ?_
                 refine Wn ?_
                 refine Wy (.b false) [] (OpF rfl) ?_
                 refine Wy (.b false) [] (Omv rfl) ?_
                 refine Wn ?_
                 refine Wn ?_
                 refine Wn ?_
                 refine Wy (.b false) [] (OpF rfl) ?_
                 refine Wy (.b false) [] (Omv rfl) ?_
                 refine Wn ?_
                 refine Wy (.b false) [] (OpF rfl) ?_
                 refine Wy (.b false) [] (Omv rfl) ?_
                 refine Wn ?_
                 refine Wn ?_
                 refine Wn ?_
                 refine Wn ?_
                 refine Wy (.b false) [] (OpF rfl) ?_
                 refine Wy (.b false) [] (Omv rfl) ?_
                 refine Wn ?_
                 refine Wn ?_
                 refine Wy (.b false) [] (OpF rfl) ?_
                 refine Wy (.b false) [] (Omv rfl) ?_
                 refine Wn ?_
                 refine Wn ?_
                 refine Wn ?_
                 refine Wn ?_
                 refine Wy (.b false) [] (OpF rfl) ?_
                 refine Wy (.b false) [] (Omv rfl) ?_
                 refine Wn ?_
                 refine Wn ?_
                 refine Wn ?_
                 refine Wn ?_
                 refine Wy (.b false) [] (OpF rfl) ?_
                 refine Wy (.b false) [] (Omv rfl) ?_
                 refine Wn ?_
                 refine Wn ?_
                 refine Wn ?_
                 refine Wy (.b false) [] (OpF rfl) ?_
                 refine Wy (.b false) [] (Omv rfl) ?_
                 refine Wn ?_
                 refine Wn ?_
                 refine Wn ?_
                 refine Wn ?_
                 refine Wy (.b false) [] (OpF rfl) ?_
                 refine Wy (.b false) [] (Omv rfl) ?_
                 refine Wy (.b false) [] (OpF rfl) ?_
                 refine Wy (.b false) [] (Omv rfl) ?_
                 refine Walk.nil ?_
                 refine Then.normal ?_
                 refine AWP.ret ?_
                 obtain rfl := Option.some.inj hm
                 exact ret_i []
               ·
                replace hm := cF hq155_8 hm
                refine Wy (.b false) [] (Ocs (lit_tf (b := decide (r72_6.2.2.2 = 8)) hq155_8) (Omv rfl)) ?_
                refine Wn ?_
                refine Wn ?_
                refine Wy (.b false) [] (OpF rfl) ?_
                refine Wy (.b false) [] (Omv rfl) ?_
                refine Wn ?_
                refine Wn ?_
                refine Wy (.b false) [] (OpF rfl) ?_
                refine Wy (.b false) [] (Omv rfl) ?_
                refine Wn ?_
                refine Wn ?_
                refine Wn ?_
                refine Wy (.b false) [] (OpF rfl) ?_
                refine Wy (.b false) [] (Omv rfl) ?_
                refine Wn ?_
                refine Wy (.b false) [] (OpF rfl) ?_
                refine Wy (.b false) [] (Omv rfl) ?_
                refine Wn ?_
                refine Wn ?_
                refine Wn ?_
                refine Wn ?_
                refine Wy (.b false) [] (OpF rfl) ?_
                refine Wy (.b false) [] (Omv rfl) ?_
                refine Wn ?_
                refine Wn ?_
                refine Wy (.b false) [] (OpF rfl) ?_
                refine Wy (.b false) [] (Omv rfl) ?_
                refine Wn ?_
                refine Wn ?_
                refine Wn ?_
                refine Wn ?_
                refine Wy (.b false) [] (OpF rfl) ?_
                refine Wy (.b false) [] (Omv rfl) ?_
                refine Wn ?_
                refine Wn ?_
                refine Wn ?_
                refine Wn ?_
                refine Wy (.b false) [] (OpF rfl) ?_
                refine Wy (.b false) [] (Omv rfl) ?_
                refine Wn ?_
                refine Wn ?_
                refine Wn ?_
                refine Wy (.b false) [] (OpF rfl) ?_
                refine Wy (.b false) [] (Omv rfl) ?_
                refine Wn ?_
                refine Wn ?_
                refine Wn ?_
                refine Wn ?_
                refine Wy (.b false) [] (OpF rfl) ?_
                refine Wy (.b false) [] (Omv rfl) ?_
                refine Wy (.b false) [] (OpF rfl) ?_
                refine Wy (.b false) [] (Omv rfl) ?_
                refine Walk.nil ?_
                refine Then.normal ?_
                refine AWP.ret ?_
                obtain rfl := Option.some.inj hm
                exact ret_i []
              ·
               replace hm := cF hq151_8 hm
               refine Wy (.b false) [] (Ocs (lit_tf (b := decide (r65_5.2.2 = 6)) hq151_8) (Omv rfl)) ?_
               refine Wn ?_
               refine Wn ?_
               refine Wy (.b false) [] (OpF rfl) ?_
               refine Wy (.b false) [] (Omv rfl) ?_
               refine Wn ?_
               refine Wn ?_
               refine Wy (.b false) [] (OpF rfl) ?_
               refine Wy (.b false) [] (Omv rfl) ?_
               refine Wn ?_
               refine Wn ?_
               refine Wy (.b false) [] (OpF rfl) ?_
               refine Wy (.b false) [] (Omv rfl) ?_
               refine Wn ?_
               refine Wn ?_
               refine Wn ?_
               refine Wy (.b false) [] (OpF rfl) ?_
               refine Wy (.b false) [] (Omv rfl) ?_
               refine Wn ?_
               refine Wy (.b false) [] (OpF rfl) ?_
               refine Wy (.b false) [] (Omv rfl) ?_
               refine Wn ?_
               refine Wn ?_
               refine Wn ?_
               refine Wn ?_
               refine Wy (.b false) [] (OpF rfl) ?_
               refine Wy (.b false) [] (Omv rfl) ?_
               refine Wn ?_
               refine Wn ?_
               refine Wy (.b false) [] (OpF rfl) ?_
               refine Wy (.b false) [] (Omv rfl) ?_
               refine Wn ?_
               refine Wn ?_
               refine Wn ?_
               refine Wn ?_
               refine Wy (.b false) [] (OpF rfl) ?_
               refine Wy (.b false) [] (Omv rfl) ?_
               refine Wn ?_
               refine Wn ?_
               refine Wn ?_
               refine Wn ?_
               refine Wy (.b false) [] (OpF rfl) ?_
               refine Wy (.b false) [] (Omv rfl) ?_
               refine Wn ?_
               refine Wn ?_
               refine Wn ?_
               refine Wy (.b false) [] (OpF rfl) ?_
               refine Wy (.b false) [] (Omv rfl) ?_
               refine Wn ?_
               refine Wn ?_
               refine Wn ?_
               refine Wn ?_
               refine Wy (.b false) [] (OpF rfl) ?_
               refine Wy (.b false) [] (Omv rfl) ?_
               refine Wy (.b false) [] (OpF rfl) ?_
               refine Wy (.b false) [] (Omv rfl) ?_
               refine Walk.nil ?_
               refine Then.normal ?_
               refine AWP.ret ?_
               obtain rfl := Option.some.inj hm
               exact ret_i []
             ·
              replace hm := cF hq147_8 hm
              refine Wy (.b false) [] (Ocs (lit_tf (b := decide (r59_4.2.2 = 20)) hq147_8) (Omv rfl)) ?_
              refine Wn ?_
              refine Wn ?_
              refine Wy (.b false) [] (OpF rfl) ?_
              refine Wy (.b false) [] (Omv rfl) ?_
              refine Wn ?_
              refine Wn ?_
              refine Wy (.b false) [] (OpF rfl) ?_
              refine Wy (.b false) [] (Omv rfl) ?_
              refine Wn ?_
              refine Wn ?_
              refine Wy (.b false) [] (OpF rfl) ?_
              refine Wy (.b false) [] (Omv rfl) ?_
              refine Wn ?_
              refine Wn ?_
              refine Wy (.b false) [] (OpF rfl) ?_
              refine Wy (.b false) [] (Omv rfl) ?_
              refine Wn ?_
              refine Wn ?_
              refine Wn ?_
              refine Wy (.b false) [] (OpF rfl) ?_
              refine Wy (.b false) [] (Omv rfl) ?_
              refine Wn ?_
              refine Wy (.b false) [] (OpF rfl) ?_
              refine Wy (.b false) [] (Omv rfl) ?_
              refine Wn ?_
              refine Wn ?_
              refine Wn ?_
              refine Wn ?_
              refine Wy (.b false) [] (OpF rfl) ?_
              refine Wy (.b false) [] (Omv rfl) ?_
              refine Wn ?_
              refine Wn ?_
              refine Wy (.b false) [] (OpF rfl) ?_
              refine Wy (.b false) [] (Omv rfl) ?_
              refine Wn ?_
              refine Wn ?_
              refine Wn ?_
              refine Wn ?_
              refine Wy (.b false) [] (OpF rfl) ?_
              refine Wy (.b false) [] (Omv rfl) ?_
              refine Wn ?_
              refine Wn ?_
              refine Wn ?_
              refine Wn ?_
              refine Wy (.b false) [] (OpF rfl) ?_
              refine Wy (.b false) [] (Omv rfl) ?_
              refine Wn ?_
              refine Wn ?_
              refine Wn ?_
              refine Wy (.b false) [] (OpF rfl) ?_
              refine Wy (.b false) [] (Omv rfl) ?_
              refine Wn ?_
              refine Wn ?_
              refine Wn ?_
              refine Wn ?_
              refine Wy (.b false) [] (OpF rfl) ?_
              refine Wy (.b false) [] (Omv rfl) ?_
              refine Wy (.b false) [] (OpF rfl) ?_
              refine Wy (.b false) [] (Omv rfl) ?_
              refine Walk.nil ?_
              refine Then.normal ?_
              refine AWP.ret ?_
              obtain rfl := Option.some.inj hm
              exact ret_i []
            ·
             replace hm := cF hq143_8 hm
             refine Wy (.b false) [] (Ocs (lit_tf (b := decide (x138_8.N = (-1))) hq143_8) (Omv rfl)) ?_
             refine Wn ?_
             refine Wn ?_
             refine Wy (.b false) [] (OpF rfl) ?_
             refine Wy (.b false) [] (Omv rfl) ?_
             refine Wn ?_
             refine Wn ?_
             refine Wy (.b false) [] (OpF rfl) ?_
             refine Wy (.b false) [] (Omv rfl) ?_
             refine Wn ?_
             refine Wn ?_
             refine Wy (.b false) [] (OpF rfl) ?_
             refine Wy (.b false) [] (Omv rfl) ?_
             refine Wn ?_
             refine Wn ?_
             refine Wy (.b false) [] (OpF rfl) ?_
             refine Wy (.b false) [] (Omv rfl) ?_
             refine Wn ?_
             refine Wn ?_
             refine Wy (.b false) [] (OpF rfl) ?_
             refine Wy (.b false) [] (Omv rfl) ?_
             refine Wn ?_
             refine Wn ?_
             refine Wn ?_
             refine Wy (.b false) [] (OpF rfl) ?_
             refine Wy (.b false) [] (Omv rfl) ?_
             refine Wn ?_
             refine Wy (.b false) [] (OpF rfl) ?_
             refine Wy (.b false) [] (Omv rfl) ?_
             refine Wn ?_
             refine Wn ?_
             refine Wn ?_
             refine Wn ?_
             refine Wy (.b false) [] (OpF rfl) ?_
             refine Wy (.b false) [] (Omv rfl) ?_
             refine Wn ?_
             refine Wn ?_
             refine Wy (.b false) [] (OpF rfl) ?_
             refine Wy (.b false) [] (Omv rfl) ?_
             refine Wn ?_
             refine Wn ?_
             refine Wn ?_
             refine Wn ?_
             refine Wy (.b false) [] (OpF rfl) ?_
             refine Wy (.b false) [] (Omv rfl) ?_
             refine Wn ?_
             refine Wn ?_
             refine Wn ?_
             refine Wn ?_
             refine Wy (.b false) [] (OpF rfl) ?_
             refine Wy (.b false) [] (Omv rfl) ?_
             refine Wn ?_
             refine Wn ?_
             refine Wn ?_
             refine Wy (.b false) [] (OpF rfl) ?_
             refine Wy (.b false) [] (Omv rfl) ?_
             refine Wn ?_
             refine Wn ?_
             refine Wn ?_
             refine Wn ?_
             refine Wy (.b false) [] (OpF rfl) ?_
             refine Wy (.b false) [] (Omv rfl) ?_
             refine Wy (.b false) [] (OpF rfl) ?_
             refine Wy (.b false) [] (Omv rfl) ?_
             refine Walk.nil ?_
             refine Then.normal ?_
             refine AWP.ret ?_
             obtain rfl := Option.some.inj hm
             exact ret_i []
           ·
            replace hm := cF hq136_8 hm
            refine Wy (.b false) [] (Ocs (lit_tf (b := decide (((List.length r52_3.2.1 : Nat) : Int) = 1)) hq136_8) (Omv rfl)) ?_
            refine Wn ?_
            refine Wn ?_
            refine Wn ?_
            refine Wn ?_
            refine Wn ?_
            refine Wy (.b false) [] (OpF rfl) ?_
            refine Wy (.b false) [] (Omv rfl) ?_
            refine Wn ?_
            refine Wn ?_
            refine Wy (.b false) [] (OpF rfl) ?_
            refine Wy (.b false) [] (Omv rfl) ?_
            refine Wn ?_
            refine Wn ?_
            refine Wy (.b false) [] (OpF rfl) ?_
            refine Wy (.b false) [] (Omv rfl) ?_
            refine Wn ?_
            refine Wn ?_
            refine Wy (.b false) [] (OpF rfl) ?_
            refine Wy (.b false) [] (Omv rfl) ?_
            refine Wn ?_
            refine Wn ?_
            refine Wy (.b false) [] (OpF rfl) ?_
            refine Wy (.b false) [] (Omv rfl) ?_
            refine Wn ?_
            refine Wn ?_
            refine Wy (.b false) [] (OpF rfl) ?_
            refine Wy (.b false) [] (Omv rfl) ?_
            refine Wn ?_
            refine Wn ?_
            refine Wn ?_
            refine Wy (.b false) [] (OpF rfl) ?_
            refine Wy (.b false) [] (Omv rfl) ?_
            refine Wn ?_
            refine Wy (.b false) [] (OpF rfl) ?_
            refine Wy (.b false) [] (Omv rfl) ?_
            refine Wn ?_
            refine Wn ?_
            refine Wn ?_
            refine Wn ?_
            refine Wy (.b false) [] (OpF rfl) ?_
            refine Wy (.b false) [] (Omv rfl) ?_
            refine Wn ?_
            refine Wn ?_
            refine Wy (.b false) [] (OpF rfl) ?_
            refine Wy (.b false) [] (Omv rfl) ?_
            refine Wn ?_
            refine Wn ?_
            refine Wn ?_
            refine Wn ?_
            refine Wy (.b false) [] (OpF rfl) ?_
            refine Wy (.b false) [] (Omv rfl) ?_
            refine Wn ?_
            refine Wn ?_
            refine Wn ?_
            refine Wn ?_
            refine Wy (.b false) [] (OpF rfl) ?_
            refine Wy (.b false) [] (Omv rfl) ?_
            refine Wn ?_
            refine Wn ?_
            refine Wn ?_
            refine Wy (.b false) [] (OpF rfl) ?_
            refine Wy (.b false) [] (Omv rfl) ?_
            refine Wn ?_
            refine Wn ?_
            refine Wn ?_
            refine Wn ?_
            refine Wy (.b false) [] (OpF rfl) ?_
            refine Wy (.b false) [] (Omv rfl) ?_
            refine Wy (.b false) [] (OpF rfl) ?_
            refine Wy (.b false) [] (Omv rfl) ?_
            refine Walk.nil ?_
            refine Then.normal ?_
            refine AWP.ret ?_
            obtain rfl := Option.some.inj hm
            exact ret_i []
          ·
           replace hm := cF hq131_8 hm
           refine Wy (.b false) [] (Ocs (lit_tf (b := decide (r52_3.2.2 = 0)) hq131_8) (Omv rfl)) ?_
           refine Wn ?_
           refine Wn ?_
           refine Wn ?_
           refine Wy (.b false) [] (OpF rfl) ?_
           refine Wy (.b false) [] (Omv rfl) ?_
           refine Wn ?_
           refine Wn ?_
           refine Wn ?_
           refine Wn ?_
           refine Wn ?_
           refine Wy (.b false) [] (OpF rfl) ?_
           refine Wy (.b false) [] (Omv rfl) ?_
           refine Wn ?_
           refine Wn ?_
           refine Wy (.b false) [] (OpF rfl) ?_
           refine Wy (.b false) [] (Omv rfl) ?_
           refine Wn ?_
           refine Wn ?_
           refine Wy (.b false) [] (OpF rfl) ?_
           refine Wy (.b false) [] (Omv rfl) ?_
           refine Wn ?_
           refine Wn ?_
           refine Wy (.b false) [] (OpF rfl) ?_
           refine Wy (.b false) [] (Omv rfl) ?_
           refine Wn ?_
           refine Wn ?_
           refine Wy (.b false) [] (OpF rfl) ?_
           refine Wy (.b false) [] (Omv rfl) ?_
           refine Wn ?_
           refine Wn ?_
           refine Wy (.b false) [] (OpF rfl) ?_
           refine Wy (.b false) [] (Omv rfl) ?_
           refine Wn ?_
           refine Wn ?_
           refine Wn ?_
           refine Wy (.b false) [] (OpF rfl) ?_
           refine Wy (.b false) [] (Omv rfl) ?_
           refine Wn ?_
           refine Wy (.b false) [] (OpF rfl) ?_
           refine Wy (.b false) [] (Omv rfl) ?_
           refine Wn ?_
           refine Wn ?_
           refine Wn ?_
           refine Wn ?_
           refine Wy (.b false) [] (OpF rfl) ?_
           refine Wy (.b false) [] (Omv rfl) ?_
           refine Wn ?_
           refine Wn ?_
           refine Wy (.b false) [] (OpF rfl) ?_
           refine Wy (.b false) [] (Omv rfl) ?_
           refine Wn ?_
           refine Wn ?_
           refine Wn ?_
           refine Wn ?_
           refine Wy (.b false) [] (OpF rfl) ?_
           refine Wy (.b false) [] (Omv rfl) ?_
           refine Wn ?_
           refine Wn ?_
           refine Wn ?_
           refine Wn ?_
           refine Wy (.b false) [] (OpF rfl) ?_
           refine Wy (.b false) [] (Omv rfl) ?_
           refine Wn ?_
           refine Wn ?_
           refine Wn ?_
           refine Wy (.b false) [] (OpF rfl) ?_
           refine Wy (.b false) [] (Omv rfl) ?_
           refine Wn ?_
           refine Wn ?_
           refine Wn ?_
           refine Wn ?_
           refine Wy (.b false) [] (OpF rfl) ?_
           refine Wy (.b false) [] (Omv rfl) ?_
           refine Wy (.b false) [] (OpF rfl) ?_
           refine Wy (.b false) [] (Omv rfl) ?_
           refine Walk.nil ?_
           refine Then.normal ?_
           refine AWP.ret ?_
           obtain rfl := Option.some.inj hm
           exact ret_i []
         ·
          replace hm := cF hq127_8 hm
          refine Wy (.b false) [] (Ocs (lit_tf (b := decide (r45_2.2.2 = 8)) hq127_8) (Omv rfl)) ?_
          refine Wn ?_
          refine Wn ?_
          refine Wy (.b false) [] (OpF rfl) ?_
          refine Wy (.b false) [] (Omv rfl) ?_
          refine Wn ?_
          refine Wn ?_
          refine Wn ?_
          refine Wy (.b false) [] (OpF rfl) ?_
          refine Wy (.b false) [] (Omv rfl) ?_
          refine Wn ?_
          refine Wn ?_
          refine Wn ?_
          refine Wn ?_
          refine Wn ?_
          refine Wy (.b false) [] (OpF rfl) ?_
          refine Wy (.b false) [] (Omv rfl) ?_
          refine Wn ?_
          refine Wn ?_
          refine Wy (.b false) [] (OpF rfl) ?_
          refine Wy (.b false) [] (Omv rfl) ?_
          refine Wn ?_
          refine Wn ?_
          refine Wy (.b false) [] (OpF rfl) ?_
          refine Wy (.b false) [] (Omv rfl) ?_
          refine Wn ?_
          refine Wn ?_
          refine Wy (.b false) [] (OpF rfl) ?_
          refine Wy (.b false) [] (Omv rfl) ?_
          refine Wn ?_
          refine Wn ?_
          refine Wy (.b false) [] (OpF rfl) ?_
          refine Wy (.b false) [] (Omv rfl) ?_
          refine Wn ?_
          refine Wn ?_
          refine Wy (.b false) [] (OpF rfl) ?_
          refine Wy (.b false) [] (Omv rfl) ?_
          refine Wn ?_
          refine Wn ?_
          refine Wn ?_
          refine Wy (.b false) [] (OpF rfl) ?_
          refine Wy (.b false) [] (Omv rfl) ?_
          refine Wn ?_
          refine Wy (.b false) [] (OpF rfl) ?_
          refine Wy (.b false) [] (Omv rfl) ?_
          refine Wn ?_
          refine Wn ?_
          refine Wn ?_
          refine Wn ?_
          refine Wy (.b false) [] (OpF rfl) ?_
          refine Wy (.b false) [] (Omv rfl) ?_
          refine Wn ?_
          refine Wn ?_
          refine Wy (.b false) [] (OpF rfl) ?_
          refine Wy (.b false) [] (Omv rfl) ?_
          refine Wn ?_
          refine Wn ?_
          refine Wn ?_
          refine Wn ?_
          refine Wy (.b false) [] (OpF rfl) ?_
          refine Wy (.b false) [] (Omv rfl) ?_
          refine Wn ?_
          refine Wn ?_
          refine Wn ?_
          refine Wn ?_
          refine Wy (.b false) [] (OpF rfl) ?_
          refine Wy (.b false) [] (Omv rfl) ?_
          refine Wn ?_
          refine Wn ?_
          refine Wn ?_
          refine Wy (.b false) [] (OpF rfl) ?_
          refine Wy (.b false) [] (Omv rfl) ?_
          refine Wn ?_
          refine Wn ?_
          refine Wn ?_
          refine Wn ?_
          refine Wy (.b false) [] (OpF rfl) ?_
          refine Wy (.b false) [] (Omv rfl) ?_
          refine Wy (.b false) [] (OpF rfl) ?_
          refine Wy (.b false) [] (Omv rfl) ?_
          refine Walk.nil ?_
          refine Then.normal ?_
          refine AWP.ret ?_
          obtain rfl := Option.some.inj hm
          exact ret_i []
        ·
         replace hm := cF hq123_8 hm
         refine Wy (.b false) [] (Ocs (lit_tf (b := (decide (x118_8.Loc = 0) && (decide (x118_8.Time = 5) && (decide (x118_8.N = 1) && true)))) hq123_8) (Omv rfl)) ?_
         refine Wn ?_
         refine Wn ?_
         refine Wy (.b false) [] (OpF rfl) ?_
         refine Wy (.b false) [] (Omv rfl) ?_
         refine Wn ?_
         refine Wn ?_
         refine Wy (.b false) [] (OpF rfl) ?_
         refine Wy (.b false) [] (Omv rfl) ?_
         refine Wn ?_
         refine Wn ?_
         refine Wn ?_
         refine Wy (.b false) [] (OpF rfl) ?_
         refine Wy (.b false) [] (Omv rfl) ?_
         refine Wn ?_
         refine Wn ?_
         refine Wn ?_
         refine Wn ?_
         refine Wn ?_
         refine Wy (.b false) [] (OpF rfl) ?_
         refine Wy (.b false) [] (Omv rfl) ?_
         refine Wn ?_
         refine Wn ?_
         refine Wy (.b false) [] (OpF rfl) ?_
         refine Wy (.b false) [] (Omv rfl) ?_
         refine Wn ?_
         refine Wn ?_
         refine Wy (.b false) [] (OpF rfl) ?_
         refine Wy (.b false) [] (Omv rfl) ?_
         refine Wn ?_
         refine Wn ?_
         refine Wy (.b false) [] (OpF rfl) ?_
         refine Wy (.b false) [] (Omv rfl) ?_
         refine Wn ?_
         refine Wn ?_
         refine Wy (.b false) [] (OpF rfl) ?_
         refine Wy (.b false) [] (Omv rfl) ?_
         refine Wn ?_
         refine Wn ?_
         refine Wy (.b false) [] (OpF rfl) ?_
         refine Wy (.b false) [] (Omv rfl) ?_
         refine Wn ?_
         refine Wn ?_
         refine Wn ?_
         refine Wy (.b false) [] (OpF rfl) ?_
         refine Wy (.b false) [] (Omv rfl) ?_
         refine Wn ?_
         refine Wy (.b false) [] (OpF rfl) ?_
         refine Wy (.b false) [] (Omv rfl) ?_
         refine Wn ?_
         refine Wn ?_
         refine Wn ?_
         refine Wn ?_
         refine Wy (.b false) [] (OpF rfl) ?_
         refine Wy (.b false) [] (Omv rfl) ?_
         refine Wn ?_
         refine Wn ?_
         refine Wy (.b false) [] (OpF rfl) ?_
         refine Wy (.b false) [] (Omv rfl) ?_
         refine Wn ?_
         refine Wn ?_
         refine Wn ?_
         refine Wn ?_
         refine Wy (.b false) [] (OpF rfl) ?_
         refine Wy (.b false) [] (Omv rfl) ?_
         refine Wn ?_
         refine Wn ?_
         refine Wn ?_
         refine Wn ?_
         refine Wy (.b false) [] (OpF rfl) ?_
         refine Wy (.b false) [] (Omv rfl) ?_
         refine Wn ?_
         refine Wn ?_
         refine Wn ?_
         refine Wy (.b false) [] (OpF rfl) ?_
         refine Wy (.b false) [] (Omv rfl) ?_
         refine Wn ?_
         refine Wn ?_
         refine Wn ?_
         refine Wn ?_
         refine Wy (.b false) [] (OpF rfl) ?_
         refine Wy (.b false) [] (Omv rfl) ?_
         refine Wy (.b false) [] (OpF rfl) ?_
         refine Wy (.b false) [] (Omv rfl) ?_
         refine Walk.nil ?_
         refine Then.normal ?_
         refine AWP.ret ?_
         obtain rfl := Option.some.inj hm
         exact ret_i []
       ·
        replace hm := cF hq116_8 hm
        refine Wy (.b false) [] (Ocs (lit_tf (b := (decide (x111_8.Loc = 0) && (decide (x111_8.Time = 0) && (decide (x111_8.N = (-1)) && true)))) hq116_8) (Omv rfl)) ?_
        refine Wn ?_
        refine Wn ?_
        refine Wn ?_
        refine Wn ?_
        refine Wn ?_
        refine Wy (.b false) [] (OpF rfl) ?_
        refine Wy (.b false) [] (Omv rfl) ?_
        refine Wn ?_
        refine Wn ?_
        refine Wy (.b false) [] (OpF rfl) ?_
        refine Wy (.b false) [] (Omv rfl) ?_
        refine Wn ?_
        refine Wn ?_
        refine Wy (.b false) [] (OpF rfl) ?_
        refine Wy (.b false) [] (Omv rfl) ?_
        refine Wn ?_
        refine Wn ?_
        refine Wn ?_
        refine Wy (.b false) [] (OpF rfl) ?_
        refine Wy (.b false) [] (Omv rfl) ?_
        refine Wn ?_
        refine Wn ?_
        refine Wn ?_
        refine Wn ?_
        refine Wn ?_
        refine Wy (.b false) [] (OpF rfl) ?_
        refine Wy (.b false) [] (Omv rfl) ?_
        refine Wn ?_
        refine Wn ?_
        refine Wy (.b false) [] (OpF rfl) ?_
        refine Wy (.b false) [] (Omv rfl) ?_
        refine Wn ?_
        refine Wn ?_
        refine Wy (.b false) [] (OpF rfl) ?_
        refine Wy (.b false) [] (Omv rfl) ?_
        refine Wn ?_
        refine Wn ?_
        refine Wy (.b false) [] (OpF rfl) ?_
        refine Wy (.b false) [] (Omv rfl) ?_
        refine Wn ?_
        refine Wn ?_
        refine Wy (.b false) [] (OpF rfl) ?_
        refine Wy (.b false) [] (Omv rfl) ?_
        refine Wn ?_
        refine Wn ?_
        refine Wy (.b false) [] (OpF rfl) ?_
        refine Wy (.b false) [] (Omv rfl) ?_
        refine Wn ?_
        refine Wn ?_
        refine Wn ?_
        refine Wy (.b false) [] (OpF rfl) ?_
        refine Wy (.b false) [] (Omv rfl) ?_
        refine Wn ?_
        refine Wy (.b false) [] (OpF rfl) ?_
        refine Wy (.b false) [] (Omv rfl) ?_
        refine Wn ?_
        refine Wn ?_
        refine Wn ?_
        refine Wn ?_
        refine Wy (.b false) [] (OpF rfl) ?_
        refine Wy (.b false) [] (Omv rfl) ?_
        refine Wn ?_
        refine Wn ?_
        refine Wy (.b false) [] (OpF rfl) ?_
        refine Wy (.b false) [] (Omv rfl) ?_
        refine Wn ?_
        refine Wn ?_
        refine Wn ?_
        refine Wn ?_
        refine Wy (.b false) [] (OpF rfl) ?_
        refine Wy (.b false) [] (Omv rfl) ?_
        refine Wn ?_
        refine Wn ?_
        refine Wn ?_
        refine Wn ?_
        refine Wy (.b false) [] (OpF rfl) ?_
        refine Wy (.b false) [] (Omv rfl) ?_
        refine Wn ?_
        refine Wn ?_
        refine Wn ?_
        refine Wy (.b false) [] (OpF rfl) ?_
        refine Wy (.b false) [] (Omv rfl) ?_
        refine Wn ?_
        refine Wn ?_
        refine Wn ?_
        refine Wn ?_
        refine Wy (.b false) [] (OpF rfl) ?_
        refine Wy (.b false) [] (Omv rfl) ?_
        refine Wy (.b false) [] (OpF rfl) ?_
        refine Wy (.b false) [] (Omv rfl) ?_
        refine Walk.nil ?_
        refine Then.normal ?_
        refine AWP.ret ?_
        obtain rfl := Option.some.inj hm
        exact ret_i []
      ·
       replace hm := cF hq109_8 hm
       refine Wy (.b false) [] (Ocs (lit_tf (b := decide (((List.length r38_1.2.1 : Nat) : Int) = 2)) hq109_8) (Omv rfl)) ?_
       refine Wn ?_
       refine Wn ?_
       refine Wn ?_
       refine Wn ?_
       refine Wn ?_
       refine Wy (.b false) [] (OpF rfl) ?_
       refine Wy (.b false) [] (Omv rfl) ?_
       refine Wn ?_
       refine Wn ?_
       refine Wn ?_
       refine Wn ?_
       refine Wn ?_
       refine Wy (.b false) [] (OpF rfl) ?_
       refine Wy (.b false) [] (Omv rfl) ?_
       refine Wn ?_
       refine Wn ?_
       refine Wy (.b false) [] (OpF rfl) ?_
       refine Wy (.b false) [] (Omv rfl) ?_
       refine Wn ?_
       refine Wn ?_
       refine Wy (.b false) [] (OpF rfl) ?_
       refine Wy (.b false) [] (Omv rfl) ?_
       refine Wn ?_
       refine Wn ?_
       refine Wn ?_
       refine Wy (.b false) [] (OpF rfl) ?_
       refine Wy (.b false) [] (Omv rfl) ?_
       refine Wn ?_
       refine Wn ?_
       refine Wn ?_
       refine Wn ?_
       refine Wn ?_
       refine Wy (.b false) [] (OpF rfl) ?_
       refine Wy (.b false) [] (Omv rfl) ?_
       refine Wn ?_
       refine Wn ?_
       refine Wy (.b false) [] (OpF rfl) ?_
       refine Wy (.b false) [] (Omv rfl) ?_
       refine Wn ?_
       refine Wn ?_
       refine Wy (.b false) [] (OpF rfl) ?_
       refine Wy (.b false) [] (Omv rfl) ?_
       refine Wn ?_
       refine Wn ?_
       refine Wy (.b false) [] (OpF rfl) ?_
       refine Wy (.b false) [] (Omv rfl) ?_
       refine Wn ?_
       refine Wn ?_
       refine Wy (.b false) [] (OpF rfl) ?_
       refine Wy (.b false) [] (Omv rfl) ?_
       refine Wn ?_
       refine Wn ?_
       refine Wy (.b false) [] (OpF rfl) ?_
       refine Wy (.b false) [] (Omv rfl) ?_
       refine Wn ?_
       refine Wn ?_
       refine Wn ?_
       refine Wy (.b false) [] (OpF rfl) ?_
       refine Wy (.b false) [] (Omv rfl) ?_
       refine Wn ?_
       refine Wy (.b false) [] (OpF rfl) ?_
       refine Wy (.b false) [] (Omv rfl) ?_
       refine Wn ?_
       refine Wn ?_
       refine Wn ?_
       refine Wn ?_
       refine Wy (.b false) [] (OpF rfl) ?_
       refine Wy (.b false) [] (Omv rfl) ?_
       refine Wn ?_
       refine Wn ?_
       refine Wy (.b false) [] (OpF rfl) ?_
       refine Wy (.b false) [] (Omv rfl) ?_
       refine Wn ?_
       refine Wn ?_
       refine Wn ?_
       refine Wn ?_
       refine Wy (.b false) [] (OpF rfl) ?_
       refine Wy (.b false) [] (Omv rfl) ?_
       refine Wn ?_
       refine Wn ?_
       refine Wn ?_
       refine Wn ?_
       refine Wy (.b false) [] (OpF rfl) ?_
       refine Wy (.b false) [] (Omv rfl) ?_
       refine Wn ?_
       refine Wn ?_
       refine Wn ?_
       refine Wy (.b false) [] (OpF rfl) ?_
       refine Wy (.b false) [] (Omv rfl) ?_
       refine Wn ?_
       refine Wn ?_
       refine Wn ?_
       refine Wn ?_
       refine Wy (.b false) [] (OpF rfl) ?_
       refine Wy (.b false) [] (Omv rfl) ?_
       refine Wy (.b false) [] (OpF rfl) ?_
       refine Wy (.b false) [] (Omv rfl) ?_
       refine Walk.nil ?_
       refine Then.normal ?_
       refine AWP.ret ?_
       obtain rfl := Option.some.inj hm
       exact ret_i []
     ·
      replace hm := cF hq104_8 hm
      refine Wy (.b false) [] (Ocs (lit_tf (b := decide (r38_1.2.2 = 0)) hq104_8) (Omv rfl)) ?_
      refine Wn ?_
      refine Wn ?_
      refine Wn ?_
      refine Wy (.b false) [] (OpF rfl) ?_
      refine Wy (.b false) [] (Omv rfl) ?_
      refine Wn ?_
      refine Wn ?_
      refine Wn ?_
      refine Wn ?_
      refine Wn ?_
      refine Wy (.b false) [] (OpF rfl) ?_
      refine Wy (.b false) [] (Omv rfl) ?_
      refine Wn ?_
      refine Wn ?_
      refine Wn ?_
      refine Wn ?_
      refine Wn ?_
      refine Wy (.b false) [] (OpF rfl) ?_
      refine Wy (.b false) [] (Omv rfl) ?_
      refine Wn ?_
      refine Wn ?_
      refine Wy (.b false) [] (OpF rfl) ?_
      refine Wy (.b false) [] (Omv rfl) ?_
      refine Wn ?_
      refine Wn ?_
      refine Wy (.b false) [] (OpF rfl) ?_
      refine Wy (.b false) [] (Omv rfl) ?_
      refine Wn ?_
      refine Wn ?_
      refine Wn ?_
      refine Wy (.b false) [] (OpF rfl) ?_
      refine Wy (.b false) [] (Omv rfl) ?_
      refine Wn ?_
      refine Wn ?_
      refine Wn ?_
      refine Wn ?_
      refine Wn ?_
      refine Wy (.b false) [] (OpF rfl) ?_
      refine Wy (.b false) [] (Omv rfl) ?_
      refine Wn ?_
      refine Wn ?_
      refine Wy (.b false) [] (OpF rfl) ?_
      refine Wy (.b false) [] (Omv rfl) ?_
      refine Wn ?_
      refine Wn ?_
      refine Wy (.b false) [] (OpF rfl) ?_
      refine Wy (.b false) [] (Omv rfl) ?_
      refine Wn ?_
      refine Wn ?_
      refine Wy (.b false) [] (OpF rfl) ?_
      refine Wy (.b false) [] (Omv rfl) ?_
      refine Wn ?_
      refine Wn ?_
      refine Wy (.b false) [] (OpF rfl) ?_
      refine Wy (.b false) [] (Omv rfl) ?_
      refine Wn ?_
      refine Wn ?_
      refine Wy (.b false) [] (OpF rfl) ?_
      refine Wy (.b false) [] (Omv rfl) ?_
      refine Wn ?_
      refine Wn ?_
      refine Wn ?_
      refine Wy (.b false) [] (OpF rfl) ?_
      refine Wy (.b false) [] (Omv rfl) ?_
      refine Wn ?_
      refine Wy (.b false) [] (OpF rfl) ?_
      refine Wy (.b false) [] (Omv rfl) ?_
      refine Wn ?_
      refine Wn ?_
      refine Wn ?_
      refine Wn ?_
      refine Wy (.b false) [] (OpF rfl) ?_
      refine Wy (.b false) [] (Omv rfl) ?_
      refine Wn ?_
      refine Wn ?_
      refine Wy (.b false) [] (OpF rfl) ?_
      refine Wy (.b false) [] (Omv rfl) ?_
      refine Wn ?_
      refine Wn ?_
      refine Wn ?_
      refine Wn ?_
      refine Wy (.b false) [] (OpF rfl) ?_
      refine Wy (.b false) [] (Omv rfl) ?_
      refine Wn ?_
      refine Wn ?_
      refine Wn ?_
      refine Wn ?_
      refine Wy (.b false) [] (OpF rfl) ?_
      refine Wy (.b false) [] (Omv rfl) ?_
      refine Wn ?_
      refine Wn ?_
      refine Wn ?_
      refine Wy (.b false) [] (OpF rfl) ?_
      refine Wy (.b false) [] (Omv rfl) ?_
      refine Wn ?_
      refine Wn ?_
      refine Wn ?_
      refine Wn ?_
      refine Wy (.b false) [] (OpF rfl) ?_
      refine Wy (.b false) [] (Omv rfl) ?_
      refine Wy (.b false) [] (OpF rfl) ?_
      refine Wy (.b false) [] (Omv rfl) ?_
      refine Walk.nil ?_
      refine Then.normal ?_
      refine AWP.ret ?_
      obtain rfl := Option.some.inj hm
      exact ret_i []
    ·
     replace hm := cF hq100_8 hm
     refine Wy (.b false) [] (Ocs (lit_tf (b := decide (x95_8.N = 1)) hq100_8) (Omv rfl)) ?_
     refine Wn ?_
     refine Wn ?_
     refine Wy (.b false) [] (OpF rfl) ?_
     refine Wy (.b false) [] (Omv rfl) ?_
     refine Wn ?_
     refine Wn ?_
     refine Wn ?_
     refine Wy (.b false) [] (OpF rfl) ?_
     refine Wy (.b false) [] (Omv rfl) ?_
     refine Wn ?_
     refine Wn ?_
     refine Wn ?_
     refine Wn ?_
     refine Wn ?_
     refine Wy (.b false) [] (OpF rfl) ?_
     refine Wy (.b false) [] (Omv rfl) ?_
     refine Wn ?_
     refine Wn ?_
     refine Wn ?_
     refine Wn ?_
     refine Wn ?_
     refine Wy (.b false) [] (OpF rfl) ?_
     refine Wy (.b false) [] (Omv rfl) ?_
     refine Wn ?_
     refine Wn ?_
     refine Wy (.b false) [] (OpF rfl) ?_
     refine Wy (.b false) [] (Omv rfl) ?_
     refine Wn ?_
     refine Wn ?_
     refine Wy (.b false) [] (OpF rfl) ?_
     refine Wy (.b false) [] (Omv rfl) ?_
     refine Wn ?_
     refine Wn ?_
     refine Wn ?_
     refine Wy (.b false) [] (OpF rfl) ?_
     refine Wy (.b false) [] (Omv rfl) ?_
     refine Wn ?_
     refine Wn ?_
     refine Wn ?_
     refine Wn ?_
     refine Wn ?_
     refine Wy (.b false) [] (OpF rfl) ?_
     refine Wy (.b false) [] (Omv rfl) ?_
     refine Wn ?_
     refine Wn ?_
     refine Wy (.b false) [] (OpF rfl) ?_
     refine Wy (.b false) [] (Omv rfl) ?_
     refine Wn ?_
     refine Wn ?_
     refine Wy (.b false) [] (OpF rfl) ?_
     refine Wy (.b false) [] (Omv rfl) ?_
     refine Wn ?_
     refine Wn ?_
     refine Wy (.b false) [] (OpF rfl) ?_
     refine Wy (.b false) [] (Omv rfl) ?_
     refine Wn ?_
     refine Wn ?_
     refine Wy (.b false) [] (OpF rfl) ?_
     refine Wy (.b false) [] (Omv rfl) ?_
     refine Wn ?_
     refine Wn ?_
     refine Wy (.b false) [] (OpF rfl) ?_
     refine Wy (.b false) [] (Omv rfl) ?_
     refine Wn ?_
     refine Wn ?_
     refine Wn ?_
     refine Wy (.b false) [] (OpF rfl) ?_
     refine Wy (.b false) [] (Omv rfl) ?_
     refine Wn ?_
     refine Wy (.b false) [] (OpF rfl) ?_
     refine Wy (.b false) [] (Omv rfl) ?_
     refine Wn ?_
     refine Wn ?_
     refine Wn ?_
     refine Wn ?_
     refine Wy (.b false) [] (OpF rfl) ?_
     refine Wy (.b false) [] (Omv rfl) ?_
     refine Wn ?_
     refine Wn ?_
     refine Wy (.b false) [] (OpF rfl) ?_
     refine Wy (.b false) [] (Omv rfl) ?_
     refine Wn ?_
     refine Wn ?_
     refine Wn ?_
     refine Wn ?_
     refine Wy (.b false) [] (OpF rfl) ?_
     refine Wy (.b false) [] (Omv rfl) ?_
     refine Wn ?_
     refine Wn ?_
     refine Wn ?_
     refine Wn ?_
     refine Wy (.b false) [] (OpF rfl) ?_
     refine Wy (.b false) [] (Omv rfl) ?_
     refine Wn ?_
     refine Wn ?_
     refine Wn ?_
     refine Wy (.b false) [] (OpF rfl) ?_
     refine Wy (.b false) [] (Omv rfl) ?_
     refine Wn ?_
     refine Wn ?_
     refine Wn ?_
     refine Wn ?_
     refine Wy (.b false) [] (OpF rfl) ?_
     refine Wy (.b false) [] (Omv rfl) ?_
     refine Wy (.b false) [] (OpF rfl) ?_
     refine Wy (.b false) [] (Omv rfl) ?_
     refine Walk.nil ?_
     refine Then.normal ?_
     refine AWP.ret ?_
     obtain rfl := Option.some.inj hm
     exact ret_i []
   ·
    replace hm := cF hq93_8 hm
    refine Wy (.b false) [] (Ocs (lit_tf (b := decide (((List.length r30_0.2.2.1 : Nat) : Int) = 1)) hq93_8) (Omv rfl)) ?_
    refine Wn ?_
    refine Wn ?_
    refine Wn ?_
    refine Wn ?_
    refine Wn ?_
    refine Wy (.b false) [] (OpF rfl) ?_
    refine Wy (.b false) [] (Omv rfl) ?_
    refine Wn ?_
    refine Wn ?_
    refine Wy (.b false) [] (OpF rfl) ?_
    refine Wy (.b false) [] (Omv rfl) ?_
    refine Wn ?_
    refine Wn ?_
    refine Wn ?_
    refine Wy (.b false) [] (OpF rfl) ?_
    refine Wy (.b false) [] (Omv rfl) ?_
    refine Wn ?_
    refine Wn ?_
    refine Wn ?_
    refine Wn ?_
    refine Wn ?_
    refine Wy (.b false) [] (OpF rfl) ?_
    refine Wy (.b false) [] (Omv rfl) ?_
    refine Wn ?_
    refine Wn ?_
    refine Wn ?_
    refine Wn ?_
    refine Wn ?_
    refine Wy (.b false) [] (OpF rfl) ?_
    refine Wy (.b false) [] (Omv rfl) ?_
    refine Wn ?_
    refine Wn ?_
    refine Wy (.b false) [] (OpF rfl) ?_
    refine Wy (.b false) [] (Omv rfl) ?_
    refine Wn ?_
    refine Wn ?_
    refine Wy (.b false) [] (OpF rfl) ?_
    refine Wy (.b false) [] (Omv rfl) ?_
    refine Wn ?_
    refine Wn ?_
    refine Wn ?_
    refine Wy (.b false) [] (OpF rfl) ?_
    refine Wy (.b false) [] (Omv rfl) ?_
    refine Wn ?_
    refine Wn ?_
    refine Wn ?_
    refine Wn ?_
    refine Wn ?_
    refine Wy (.b false) [] (OpF rfl) ?_
    refine Wy (.b false) [] (Omv rfl) ?_
    refine Wn ?_
    refine Wn ?_
    refine Wy (.b false) [] (OpF rfl) ?_
    refine Wy (.b false) [] (Omv rfl) ?_
    refine Wn ?_
    refine Wn ?_
    refine Wy (.b false) [] (OpF rfl) ?_
    refine Wy (.b false) [] (Omv rfl) ?_
    refine Wn ?_
    refine Wn ?_
    refine Wy (.b false) [] (OpF rfl) ?_
    refine Wy (.b false) [] (Omv rfl) ?_
    refine Wn ?_
    refine Wn ?_
    refine Wy (.b false) [] (OpF rfl) ?_
    refine Wy (.b false) [] (Omv rfl) ?_
    refine Wn ?_
    refine Wn ?_
    refine Wy (.b false) [] (OpF rfl) ?_
    refine Wy (.b false) [] (Omv rfl) ?_
    refine Wn ?_
    refine Wn ?_
    refine Wn ?_
    refine Wy (.b false) [] (OpF rfl) ?_
    refine Wy (.b false) [] (Omv rfl) ?_
    refine Wn ?_
    refine Wy (.b false) [] (OpF rfl) ?_
    refine Wy (.b false) [] (Omv rfl) ?_
    refine Wn ?_
    refine Wn ?_
    refine Wn ?_
    refine Wn ?_
    refine Wy (.b false) [] (OpF rfl) ?_
    refine Wy (.b false) [] (Omv rfl) ?_
    refine Wn ?_
    refine Wn ?_
    refine Wy (.b false) [] (OpF rfl) ?_
    refine Wy (.b false) [] (Omv rfl) ?_
    refine Wn ?_
    refine Wn ?_
    refine Wn ?_
    refine Wn ?_
    refine Wy (.b false) [] (OpF rfl) ?_
    refine Wy (.b false) [] (Omv rfl) ?_
    refine Wn ?_
    refine Wn ?_
    refine Wn ?_
    refine Wn ?_
    refine Wy (.b false) [] (OpF rfl) ?_
    refine Wy (.b false) [] (Omv rfl) ?_
    refine Wn ?_
    refine Wn ?_
    refine Wn ?_
    refine Wy (.b false) [] (OpF rfl) ?_
    refine Wy (.b false) [] (Omv rfl) ?_
    refine Wn ?_
    refine Wn ?_
    refine Wn ?_
    refine Wn ?_
    refine Wy (.b false) [] (OpF rfl) ?_
    refine Wy (.b false) [] (Omv rfl) ?_
    refine Wy (.b false) [] (OpF rfl) ?_
    refine Wy (.b false) [] (Omv rfl) ?_
    refine Walk.nil ?_
    refine Then.normal ?_
    refine AWP.ret ?_
    obtain rfl := Option.some.inj hm
    exact ret_i []
  ·
   replace hm := cF hq88_8 hm
   refine Wy (.b false) [] (Ocs (lit_tf (b := decide (r30_0.2.1 = 0)) hq88_8) (Omv rfl)) ?_
   refine Wn ?_
   refine Wn ?_
   refine Wn ?_
   refine Wy (.b false) [] (OpF rfl) ?_
   refine Wy (.b false) [] (Omv rfl) ?_
   refine Wn ?_
   refine Wn ?_
   refine Wn ?_
   refine Wn ?_
   refine Wn ?_
   refine Wy (.b false) [] (OpF rfl) ?_
   refine Wy (.b false) [] (Omv rfl) ?_
   refine Wn ?_
   refine Wn ?_
   refine Wy (.b false) [] (OpF rfl) ?_
   refine Wy (.b false) [] (Omv rfl) ?_
   refine Wn ?_
   refine Wn ?_
   refine Wn ?_
   refine Wy (.b false) [] (OpF rfl) ?_
   refine Wy (.b false) [] (Omv rfl) ?_
   refine Wn ?_
   refine Wn ?_
   refine Wn ?_
   refine Wn ?_
   refine Wn ?_
   refine Wy (.b false) [] (OpF rfl) ?_
   refine Wy (.b false) [] (Omv rfl) ?_
   refine Wn ?_
   refine Wn ?_
   refine Wn ?_
   refine Wn ?_
   refine Wn ?_
   refine Wy (.b false) [] (OpF rfl) ?_
   refine Wy (.b false) [] (Omv rfl) ?_
   refine Wn ?_
   refine Wn ?_
   refine Wy (.b false) [] (OpF rfl) ?_
   refine Wy (.b false) [] (Omv rfl) ?_
   refine Wn ?_
   refine Wn ?_
   refine Wy (.b false) [] (OpF rfl) ?_
   refine Wy (.b false) [] (Omv rfl) ?_
   refine Wn ?_
   refine Wn ?_
   refine Wn ?_
   refine Wy (.b false) [] (OpF rfl) ?_
   refine Wy (.b false) [] (Omv rfl) ?_
   refine Wn ?_
   refine Wn ?_
   refine Wn ?_
   refine Wn ?_
   refine Wn ?_
   refine Wy (.b false) [] (OpF rfl) ?_
   refine Wy (.b false) [] (Omv rfl) ?_
   refine Wn ?_
   refine Wn ?_
   refine Wy (.b false) [] (OpF rfl) ?_
   refine Wy (.b false) [] (Omv rfl) ?_
   refine Wn ?_
   refine Wn ?_
   refine Wy (.b false) [] (OpF rfl) ?_
   refine Wy (.b false) [] (Omv rfl) ?_
   refine Wn ?_
   refine Wn ?_
   refine Wy (.b false) [] (OpF rfl) ?_
   refine Wy (.b false) [] (Omv rfl) ?_
   refine Wn ?_
   refine Wn ?_
   refine Wy (.b false) [] (OpF rfl) ?_
   refine Wy (.b false) [] (Omv rfl) ?_
   refine Wn ?_
   refine Wn ?_
   refine Wy (.b false) [] (OpF rfl) ?_
   refine Wy (.b false) [] (Omv rfl) ?_
   refine Wn ?_
   refine Wn ?_
   refine Wn ?_
   refine Wy (.b false) [] (OpF rfl) ?_
   refine Wy (.b false) [] (Omv rfl) ?_
   refine Wn ?_
   refine Wy (.b false) [] (OpF rfl) ?_
   refine Wy (.b false) [] (Omv rfl) ?_
   refine Wn ?_
   refine Wn ?_
   refine Wn ?_
   refine Wn ?_
   refine Wy (.b false) [] (OpF rfl) ?_
   refine Wy (.b false) [] (Omv rfl) ?_
   refine Wn ?_
   refine Wn ?_
   refine Wy (.b false) [] (OpF rfl) ?_
   refine Wy (.b false) [] (Omv rfl) ?_
   refine Wn ?_
   refine Wn ?_
   refine Wn ?_
   refine Wn ?_
   refine Wy (.b false) [] (OpF rfl) ?_
   refine Wy (.b false) [] (Omv rfl) ?_
   refine Wn ?_
   refine Wn ?_
   refine Wn ?_
   refine Wn ?_
   refine Wy (.b false) [] (OpF rfl) ?_
   refine Wy (.b false) [] (Omv rfl) ?_
   refine Wn ?_
   refine Wn ?_
   refine Wn ?_
   refine Wy (.b false) [] (OpF rfl) ?_
   refine Wy (.b false) [] (Omv rfl) ?_
   refine Wn ?_
   refine Wn ?_
   refine Wn ?_
   refine Wn ?_
   refine Wy (.b false) [] (OpF rfl) ?_
   refine Wy (.b false) [] (Omv rfl) ?_
   refine Wy (.b false) [] (OpF rfl) ?_
   refine Wy (.b false) [] (Omv rfl) ?_
   refine Walk.nil ?_
   refine Then.normal ?_
   refine AWP.ret ?_
   obtain rfl := Option.some.inj hm
   exact ret_i []
 ·
  replace hm := cF hq84_8 hm
  refine Wy (.b false) [] (Ocs (lit_tf (b := decide (r30_0.2.2.2 = 0)) hq84_8) (Omv rfl)) ?_
  refine Wn ?_
  refine Wn ?_
  refine Wy (.b false) [] (OpF rfl) ?_
  refine Wy (.b false) [] (Omv rfl) ?_
  refine Wn ?_
  refine Wn ?_
  refine Wn ?_
  refine Wy (.b false) [] (OpF rfl) ?_
  refine Wy (.b false) [] (Omv rfl) ?_
  refine Wn ?_
  refine Wn ?_
  refine Wn ?_
  refine Wn ?_
  refine Wn ?_
  refine Wy (.b false) [] (OpF rfl) ?_
  refine Wy (.b false) [] (Omv rfl) ?_
  refine Wn ?_
  refine Wn ?_
  refine Wy (.b false) [] (OpF rfl) ?_
  refine Wy (.b false) [] (Omv rfl) ?_
  refine Wn ?_
  refine Wn ?_
  refine Wn ?_
  refine Wy (.b false) [] (OpF rfl) ?_
  refine Wy (.b false) [] (Omv rfl) ?_
  refine Wn ?_
  refine Wn ?_
  refine Wn ?_
  refine Wn ?_
  refine Wn ?_
  refine Wy (.b false) [] (OpF rfl) ?_
  refine Wy (.b false) [] (Omv rfl) ?_
  refine Wn ?_
  refine Wn ?_
  refine Wn ?_
  refine Wn ?_
  refine Wn ?_
  refine Wy (.b false) [] (OpF rfl) ?_
  refine Wy (.b false) [] (Omv rfl) ?_
  refine Wn ?_
  refine Wn ?_
  refine Wy (.b false) [] (OpF rfl) ?_
  refine Wy (.b false) [] (Omv rfl) ?_
  refine Wn ?_
  refine Wn ?_
  refine Wy (.b false) [] (OpF rfl) ?_
  refine Wy (.b false) [] (Omv rfl) ?_
  refine Wn ?_
  refine Wn ?_
  refine Wn ?_
  refine Wy (.b false) [] (OpF rfl) ?_
  refine Wy (.b false) [] (Omv rfl) ?_
  refine Wn ?_
  refine Wn ?_
  refine Wn ?_
  refine Wn ?_
  refine Wn ?_
  refine Wy (.b false) [] (OpF rfl) ?_
  refine Wy (.b false) [] (Omv rfl) ?_
  refine Wn ?_
  refine Wn ?_
  refine Wy (.b false) [] (OpF rfl) ?_
  refine Wy (.b false) [] (Omv rfl) ?_
  refine Wn ?_
  refine Wn ?_
  refine Wy (.b false) [] (OpF rfl) ?_
  refine Wy (.b false) [] (Omv rfl) ?_
  refine Wn ?_
  refine Wn ?_
  refine Wy (.b false) [] (OpF rfl) ?_
  refine Wy (.b false) [] (Omv rfl) ?_
  refine Wn ?_
  refine Wn ?_
  refine Wy (.b false) [] (OpF rfl) ?_
  refine Wy (.b false) [] (Omv rfl) ?_
  refine Wn ?_
  refine Wn ?_
  refine Wy (.b false) [] (OpF rfl) ?_
  refine Wy (.b false) [] (Omv rfl) ?_
  refine Wn ?_
  refine Wn ?_
  refine Wn ?_
  refine Wy (.b false) [] (OpF rfl) ?_
  refine Wy (.b false) [] (Omv rfl) ?_
  refine Wn ?_
  refine Wy (.b false) [] (OpF rfl) ?_
  refine Wy (.b false) [] (Omv rfl) ?_
  refine Wn ?_
  refine Wn ?_
  refine Wn ?_
  refine Wn ?_
  refine Wy (.b false) [] (OpF rfl) ?_
  refine Wy (.b false) [] (Omv rfl) ?_
  refine Wn ?_
  refine Wn ?_
  refine Wy (.b false) [] (OpF rfl) ?_
  refine Wy (.b false) [] (Omv rfl) ?_
  refine Wn ?_
  refine Wn ?_
  refine Wn ?_
  refine Wn ?_
  refine Wy (.b false) [] (OpF rfl) ?_
  refine Wy (.b false) [] (Omv rfl) ?_
  refine Wn ?_
  refine Wn ?_
  refine Wn ?_
  refine Wn ?_
  refine Wy (.b false) [] (OpF rfl) ?_
  refine Wy (.b false) [] (Omv rfl) ?_
  refine Wn ?_
  refine Wn ?_
  refine Wn ?_
  refine Wy (.b false) [] (OpF rfl) ?_
  refine Wy (.b false) [] (Omv rfl) ?_
  refine Wn ?_
  refine Wn ?_
  refine Wn ?_
  refine Wn ?_
  refine Wy (.b false) [] (OpF rfl) ?_
  refine Wy (.b false) [] (Omv rfl) ?_
  refine Wy (.b false) [] (OpF rfl) ?_
  refine Wy (.b false) [] (Omv rfl) ?_
  refine Walk.nil ?_
  refine Then.normal ?_
  refine AWP.ret ?_
  obtain rfl := Option.some.inj hm
  exact ret_i []

set_option maxRecDepth 20000 in
set_option maxHeartbeats 4000000 in
theorem ok_slices_Grow_Change (p1 : Int) (r : (List GChange)) (h : m_slices_Grow_Change p1 = some r) : GCall Try.prog 50 [(.d .nil), (.i p1)] [] (.own 0) [(.arr 65 3 (List.length r) (flatD enc_GChange r))] := by
 refine GCall.of_body (n := 27) (rs := [(.tmp 4)]) Try.func50 rfl rfl rfl ?_
 refine Ato ⟨((.d .nil) :: ((.i p1) :: (tu 25 []))), [], 0⟩ ?_
 have hm := h
 unfold m_slices_Grow_Change at hm
 refine AWP.seq ?_
 refine AWP.text ?_
 refine Wy (.d .nil) [] (Omv rfl) ?_
 refine Walk.nil ?_
 refine Then.normal ?_
 refine Amk 3 0 ⟨((.d .nil) :: ((.i p1) :: (tp 25 []))), [], 0⟩ ?_
 refine AWP.seq ?_
 refine AWP.seq ?_
 refine AWP.text ?_
 refine Wy (.i p1) [] (Omv rfl) ?_
 refine Wy (.b (decide (p1 < 0))) [] (Obn rfl (fun _ => hb_lss (k := .i64))) ?_
 refine Walk.nil ?_
 refine Then.normal ?_
 refine Amk 67 0 ⟨((.d .nil) :: ((.i p1) :: (tp 4 ((.b (decide (p1 < 0))) :: (tp 20 []))))), [], 0⟩ ?_
 rcases tf_ (decide (p1 < 0)) with hc6_2 | hc6_2
 ·
  replace hm := cT hc6_2 hm
  refine AWP.if_ true (Eq.trans (by kernel_rfl) (lit_tf (b := decide (p1 < 0)) hc6_2)) ?_
  refine AWP.text ?_
  refine Wy (.d (.lit (Value.iface 9 (.string (toS ([99, 97, 110, 110, 111, 116, 32, 98, 101, 32, 110, 101, 103, 97, 116, 105, 118, 101] : List UInt8)))))) [] (Oif rfl) ?_
  exact nomatch hm
 ·
  replace hm := cF hc6_2 hm
  refine AWP.if_ false (Eq.trans (by kernel_rfl) (lit_tf (b := decide (p1 < 0)) hc6_2)) ?_
  refine AWP.skip ?_
  refine Then.normal ?_
  refine Amk 3 0 ⟨((.d .nil) :: ((.i p1) :: (tp 25 []))), [], 0⟩ ?_
  refine AWP.seq ?_
  refine AWP.seq ?_
  refine AWP.text ?_
  refine Wy (.i p1) [] (Omv rfl) ?_
  refine Wy (.d .nil) [] (Omv rfl) ?_
  refine Wy (.i 0) [] (Ocap rfl (e := 65) (by kernel_rfl)) ?_
  refine Wy (.d .nil) [] (Omv rfl) ?_
  refine Wy (.i 0) [] (Oln rfl) ?_
  refine Wy (.i 0) [] (Ocs (by kernel_rfl) (op_bin rfl (a1 := .int .i64 0) (a2 := .int .i64 0) (by kernel_rfl) (by kernel_rfl) (fun _ => hb_sub))) ?_
  refine Wy (.i (IntKind.i64.wrap (p1 - 0))) [] (Obn rfl (fun _ => hb_sub (k := .i64))) ?_
  refine Wy (.i (IntKind.i64.wrap (p1 - 0))) [] (Omv rfl) ?_
  refine Walk.nil ?_
  refine Then.normal ?_
  refine Amk 3 0 ⟨((.d .nil) :: ((.i (IntKind.i64.wrap (p1 - 0))) :: (tp 25 []))), [], 0⟩ ?_
  refine AWP.seq ?_
  refine AWP.text ?_
  refine Wy (.i (IntKind.i64.wrap (p1 - 0))) [] (Omv rfl) ?_
  refine Wy (.b (decide ((0 : Int) < (IntKind.i64.wrap (p1 - 0))))) [] (Obn rfl (fun _ => hb_gtr (k := .i64))) ?_
  refine Walk.nil ?_
  refine Then.normal ?_
  refine Amk 65539 0 ⟨((.d .nil) :: ((.i (IntKind.i64.wrap (p1 - 0))) :: (tp 14 ((.b (decide ((0 : Int) < (IntKind.i64.wrap (p1 - 0))))) :: (tp 10 []))))), [], 0⟩ ?_
  rcases tf_ (decide ((0 : Int) < (IntKind.i64.wrap (p1 - 0)))) with hc16_3 | hc16_3
  ·
   replace hm := cT hc16_3 hm
   refine AWP.if_ true (Eq.trans (by kernel_rfl) (lit_tf (b := decide ((0 : Int) < (IntKind.i64.wrap (p1 - 0)))) hc16_3)) ?_
   refine AWP.text ?_
   refine Wy (.d .nil) [] (Omv rfl) ?_
   refine Wy (.d .nil) [] (Omv rfl) ?_
   refine Wy (.i 0) [] (Ocap rfl (e := 65) (by kernel_rfl)) ?_
   refine Wy (.d .nil) [] (Ocn rfl (k := .i64) (by kernel_rfl)) ?_
   refine Wy (.i (IntKind.i64.wrap (p1 - 0))) [] (Omv rfl) ?_
   obtain ⟨a22_1, ha22_1, hm⟩ := bnd hm; obtain ⟨ha22_1i, ha22_1l, ha22_1e⟩ := mk_some ha22_1
   obtain ⟨ha22_1p, hm⟩ := chk_some hm
   refine Wy (.own 0) [(0, (.arr 65 3 (List.length a22_1) (flatD enc_GChange a22_1)))] (OcB (OapZ rfl elemOK_31 (kn := .i64) (kq := .i64) (by kernel_rfl) (by kernel_rfl) (L := (IntKind.i64.wrap (p1 - 0))) (n := Int.toNat (IntKind.i64.wrap (p1 - 0))) ha22_1i ha22_1p ha22_1l) (bl_one (by rw [ha22_1e]; simp) (by rw [ha22_1e]; exact (flat_rep (by kernel_rfl))))) ?_
   refine Wy (.d .nil) [] (Omv rfl) ?_
   refine Wy (.i 0) [] (Oln rfl) ?_
   obtain ⟨s25_1, hs25_1, hm⟩ := bnd hm; obtain ⟨hs25_1a, hs25_1b, hs25_1c, hs25_1d, hs25_1e⟩ := cut_some hs25_1
   refine Wy (.own 1) [(0, .gone), (1, (.arr 65 3 (List.length s25_1) (flatD enc_GChange s25_1)))] (OcB (op_sliceTo rfl (id := 0) (e := 65) (sz := 3) (n := List.length a22_1) (xs := flatD enc_GChange a22_1) (by kernel_rfl) (by kernel_rfl) (by kernel_rfl) (k := .i64) (hv := 0) (by kernel_rfl) (h := (Int.toNat 0)) hs25_1b hs25_1d (by kernel_rfl) (by decide)) (bl_app (cut_len0 hs25_1e hs25_1d) (cut_take0 enc_GChange_len hs25_1e))) ?_
   refine Wy (.own 1) [] (Omv rfl) ?_
   refine Walk.nil ?_
   refine Then.normal ?_
   refine Amk 1 2 ⟨((.own 1) :: (tp 26 [])), [.gone, (.arr 65 3 (List.length s25_1) (flatD enc_GChange s25_1))], 0⟩ ?_
   refine AWP.seq ?_
   refine AWP.text ?_
   refine Wy (.own 1) [] (Omv rfl) ?_
   refine Wy (.own 1) [] (Omv rfl) ?_
   refine Walk.nil ?_
   refine Then.normal ?_
   refine AWP.ret ?_
   obtain rfl := Option.some.inj hm
   exact ret_i [1]
  ·
   replace hm := cF hc16_3 hm
   refine AWP.if_ false (Eq.trans (by kernel_rfl) (lit_tf (b := decide ((0 : Int) < (IntKind.i64.wrap (p1 - 0)))) hc16_3)) ?_
   refine AWP.skip ?_
   refine Then.normal ?_
   refine Amk 1 0 ⟨((.d .nil) :: (tp 26 [])), [], 0⟩ ?_
   refine AWP.seq ?_
   refine AWP.text ?_
   refine Wy (.d .nil) [] (Omv rfl) ?_
   refine Wy (.d .nil) [] (Omv rfl) ?_
   refine Walk.nil ?_
   refine Then.normal ?_
   refine Aow 4 65 3 ⟨((.d .nil) :: (tp 3 ((.own 0) :: (tp 21 ((.d .nil) :: []))))), [(.arr 65 3 (List.length ([] : List GChange)) (flatD enc_GChange ([] : List GChange)))], 0⟩ ?_
   refine AWP.ret ?_
   obtain rfl := Option.some.inj hm
   exact ret_i [0]

set_option maxRecDepth 20000 in
set_option maxHeartbeats 4000000 in
theorem ok_slices_Concat_Change (p0 : (List (List GChange))) (r : (List GChange)) (h : m_slices_Concat_Change p0 = some r) : GCall Try.prog 40 [(.l (encL enc_GChange) p0)] [] (.own 0) [(.arr 65 3 (List.length r) (flatD enc_GChange r))] := by
 refine GCall.of_body (n := 36) (rs := [(.tmp 2)]) Try.func40 rfl rfl rfl ?_
 refine Ato ⟨((.l (encL enc_GChange) p0) :: (tu 35 [])), [], 0⟩ ?_
 have hm := h
 unfold m_slices_Concat_Change at hm
 refine AWP.seq ?_
 refine AWP.text ?_
 refine Wy (.d .nil) [] (Omv rfl) ?_
 refine Walk.nil ?_
 refine Then.normal ?_
 refine Amk 1 0 ⟨((.l (encL enc_GChange) p0) :: (tp 35 [])), [], 0⟩ ?_
 refine AWP.seq ?_
 refine AWP.text ?_
 refine Wy (.i 0) [] (Omv rfl) ?_
 refine Walk.nil ?_
 refine Then.normal ?_
 refine Amk 9 0 ⟨((.l (encL enc_GChange) p0) :: (tp 2 ((.i 0) :: (tp 32 [])))), [], 0⟩ ?_
 refine AWP.seq ?_
 refine AWP.seq ?_
 refine AWP.text ?_
 refine Wy (.l (encL enc_GChange) p0) [] (Omv rfl) ?_
 refine Wy (.i ((List.length p0 : Nat) : Int)) [] (Oln rfl) ?_
 refine Wy (.i 0) [] (Omv rfl) ?_
 refine Walk.nil ?_
 refine Then.normal ?_
 refine Amk 3593 0 ⟨((.l (encL enc_GChange) p0) :: (tp 2 ((.i 0) :: (tp 5 ((.l (encL enc_GChange) p0) :: ((.i ((List.length p0 : Nat) : Int)) :: ((.i 0) :: (tp 24 [])))))))), [], 0⟩ ?_
 refine AWP.block ?_
 refine AWP.loopI (α := Nat × Int × Int)
   (fun x => match x with | (fu_1, y3_1, y11_1) => (⟨((.l (encL enc_GChange) p0) :: (tp 2 ((.i y3_1) :: (tp 5 ((.l (encL enc_GChange) p0) :: ((.i ((List.length p0 : Nat) : Int)) :: ((.i y11_1) :: (tp 24 [])))))))), [], 0⟩ : St))
   (fun x => match x with | (fu_1, y3_1, y11_1) => m_slices_Concat_Change_l1 p0 fu_1 y3_1 y11_1 = some r)
   (fun x => match x with | (fu_1, y3_1, y11_1) => fu_1) (1152921504606846976, 0, 0)
   (Weak.toK 3593 0 0 []) hm ?_
 rintro ⟨fu_1, y3_1, y11_1⟩ n_1 hm ih_1
 try dsimp only at hm ih_1 ⊢
 cases fu_1 with
 | zero => exact absurd hm (by unfold m_slices_Concat_Change_l1; simp)
 | succ fu_1 =>
  unfold m_slices_Concat_Change_l1 at hm
  refine AWP.seq ?_
  refine AWP.text ?_
  refine Wy (.b (decide (y11_1 < ((List.length p0 : Nat) : Int)))) [] (Obn rfl (fun _ => hb_lss (k := .i64))) ?_
  refine Walk.nil ?_
  refine Then.normal ?_
  refine Amk 7689 0 ⟨((.l (encL enc_GChange) p0) :: (tp 2 ((.i y3_1) :: (tp 5 ((.l (encL enc_GChange) p0) :: ((.i ((List.length p0 : Nat) : Int)) :: ((.i y11_1) :: ((.b (decide (y11_1 < ((List.length p0 : Nat) : Int)))) :: (tp 23 []))))))))), [], 0⟩ ?_
  refine AWP.seq ?_
  rcases tf_ (decide (y11_1 < ((List.length p0 : Nat) : Int))) with hc12_9 | hc12_9
  ·
   replace hm := cT hc12_9 hm
   refine AWP.if_ true (Eq.trans (by kernel_rfl) (lit_tf (b := decide (y11_1 < ((List.length p0 : Nat) : Int))) hc12_9)) ?_
   refine AWP.skip ?_
   refine Then.normal ?_
   refine Amk 3593 0 ⟨((.l (encL enc_GChange) p0) :: (tp 2 ((.i y3_1) :: (tp 5 ((.l (encL enc_GChange) p0) :: ((.i ((List.length p0 : Nat) : Int)) :: ((.i y11_1) :: (tp 24 [])))))))), [], 0⟩ ?_
   refine AWP.seq ?_
   refine AWP.block ?_
   refine AWP.seq ?_
   refine AWP.text ?_
   obtain ⟨x13_2, hx13_2, hm⟩ := bnd hm
   obtain ⟨hx13_2i, hx13_2g⟩ := geti_some hx13_2
   refine Wy (.d (.ref (List.drop ((Int.toNat y11_1) * 1) (flatD (encL enc_GChange) p0)))) [] (Oia rfl (encL_len (enc := enc_GChange)) hx13_2i hx13_2g) ?_
   refine Wy (.l enc_GChange x13_2) [] (Lf1 rfl (encL_len (enc := enc_GChange)) hx13_2g) ?_
   refine Wy (.l enc_GChange x13_2) [] (Omv rfl) ?_
   refine Walk.nil ?_
   refine Then.normal ?_
   refine Amk 3625 0 ⟨((.l (encL enc_GChange) p0) :: (tp 2 ((.i y3_1) :: (tp 1 ((.l enc_GChange x13_2) :: (tp 3 ((.l (encL enc_GChange) p0) :: ((.i ((List.length p0 : Nat) : Int)) :: ((.i y11_1) :: (tp 24 [])))))))))), [], 0⟩ ?_
   refine AWP.seq ?_
   refine AWP.text ?_
   refine Wy (.i y3_1) [] (Omv rfl) ?_
   refine Wy (.l enc_GChange x13_2) [] (Omv rfl) ?_
   refine Wy (.i ((List.length x13_2 : Nat) : Int)) [] (Oln rfl) ?_
   refine Wy (.i (IntKind.i64.wrap (y3_1 + ((List.length x13_2 : Nat) : Int)))) [] (Obn rfl (fun _ => hb_add (k := .i64))) ?_
   refine Wy (.i (IntKind.i64.wrap (y3_1 + ((List.length x13_2 : Nat) : Int)))) [] (Omv rfl) ?_
   refine Walk.nil ?_
   refine Then.normal ?_
   refine Amk 3593 0 ⟨((.l (encL enc_GChange) p0) :: (tp 2 ((.i (IntKind.i64.wrap (y3_1 + ((List.length x13_2 : Nat) : Int)))) :: (tp 5 ((.l (encL enc_GChange) p0) :: ((.i ((List.length p0 : Nat) : Int)) :: ((.i y11_1) :: (tp 24 [])))))))), [], 0⟩ ?_
   refine AWP.seq ?_
   refine AWP.text ?_
   refine Wy (.i (IntKind.i64.wrap (y3_1 + ((List.length x13_2 : Nat) : Int)))) [] (Omv rfl) ?_
   refine Wy (.b (decide ((IntKind.i64.wrap (y3_1 + ((List.length x13_2 : Nat) : Int))) < 0))) [] (Obn rfl (fun _ => hb_lss (k := .i64))) ?_
   refine Walk.nil ?_
   refine Then.normal ?_
   refine Amk 1052169 0 ⟨((.l (encL enc_GChange) p0) :: (tp 2 ((.i (IntKind.i64.wrap (y3_1 + ((List.length x13_2 : Nat) : Int)))) :: (tp 5 ((.l (encL enc_GChange) p0) :: ((.i ((List.length p0 : Nat) : Int)) :: ((.i y11_1) :: (tp 8 ((.b (decide ((IntKind.i64.wrap (y3_1 + ((List.length x13_2 : Nat) : Int))) < 0))) :: (tp 15 [])))))))))), [], 0⟩ ?_
   rcases tf_ (decide ((IntKind.i64.wrap (y3_1 + ((List.length x13_2 : Nat) : Int))) < 0)) with hc20_10 | hc20_10
   ·
    replace hm := cT hc20_10 hm
    refine AWP.if_ true (Eq.trans (by kernel_rfl) (lit_tf (b := decide ((IntKind.i64.wrap (y3_1 + ((List.length x13_2 : Nat) : Int))) < 0)) hc20_10)) ?_
    refine AWP.text ?_
    refine Wy (.d (.lit (Value.iface 9 (.string (toS ([108, 101, 110, 32, 111, 117, 116, 32, 111, 102, 32, 114, 97, 110, 103, 101] : List UInt8)))))) [] (Oif rfl) ?_
    exact nomatch hm
   ·
    replace hm := cF hc20_10 hm
    refine AWP.if_ false (Eq.trans (by kernel_rfl) (lit_tf (b := decide ((IntKind.i64.wrap (y3_1 + ((List.length x13_2 : Nat) : Int))) < 0)) hc20_10)) ?_
    refine AWP.skip ?_
    refine InBlock.normal ?_
    refine Then.normal ?_
    refine Amk 3593 0 ⟨((.l (encL enc_GChange) p0) :: (tp 2 ((.i (IntKind.i64.wrap (y3_1 + ((List.length x13_2 : Nat) : Int)))) :: (tp 5 ((.l (encL enc_GChange) p0) :: ((.i ((List.length p0 : Nat) : Int)) :: ((.i y11_1) :: (tp 24 [])))))))), [], 0⟩ ?_
    refine AWP.text ?_
    refine Wy (.i (IntKind.i64.wrap (y11_1 + 1))) [] (Obn rfl (fun _ => hb_add (k := .i64))) ?_
    refine Wy (.i (IntKind.i64.wrap (y11_1 + 1))) [] (Omv rfl) ?_
    refine Walk.nil ?_
    refine RoundK.normal ?_
    exact Rounds.weak (Weak.toK 3593 0 0 []) (ih_1 (fu_1, (IntKind.i64.wrap (y3_1 + ((List.length x13_2 : Nat) : Int))), (IntKind.i64.wrap (y11_1 + 1))) hm (Nat.lt_succ_self _))
  ·
   replace hm := cF hc12_9 hm
   refine AWP.if_ false (Eq.trans (by kernel_rfl) (lit_tf (b := decide (y11_1 < ((List.length p0 : Nat) : Int))) hc12_9)) ?_
   refine AWP.exit ?_
   refine Then.exit ?_
   refine RoundK.exit ?_
   refine InBlock.same ?_
   refine Then.normal ?_
   refine Amk 9 0 ⟨((.l (encL enc_GChange) p0) :: (tp 2 ((.i y3_1) :: (tp 32 [])))), [], 0⟩ ?_
   refine AWP.seq ?_
   refine AWP.text ?_
   refine Wy (.i y3_1) [] (Omv rfl) ?_
   obtain ⟨r24_4, hr24_4, hm⟩ := bnd hm
   refine Wy (.own 0) [(0, (.arr 65 3 (List.length r24_4) (flatD enc_GChange r24_4)))] (Ocf [] [0] [] 1 (ok_slices_Grow_Change y3_1 r24_4 hr24_4) (fun a w => Try.call50 a w) rfl trivial) ?_
   refine Wy (.own 0) [] (Omv rfl) ?_
   refine Walk.nil ?_
   refine Then.normal ?_
   refine Amk 65 1 ⟨((.l (encL enc_GChange) p0) :: (tp 5 ((.own 0) :: (tp 29 [])))), [(.arr 65 3 (List.length r24_4) (flatD enc_GChange r24_4))], 0⟩ ?_
   refine AWP.seq ?_
   refine AWP.seq ?_
   refine AWP.text ?_
   refine Wy (.l (encL enc_GChange) p0) [] (Omv rfl) ?_
   refine Wy (.i ((List.length p0 : Nat) : Int)) [] (Oln rfl) ?_
   refine Wy (.i 0) [] (Omv rfl) ?_
   refine Walk.nil ?_
   refine Then.normal ?_
   refine Amk 234881088 1 ⟨(tp 6 ((.own 0) :: (tp 18 ((.l (encL enc_GChange) p0) :: ((.i ((List.length p0 : Nat) : Int)) :: ((.i 0) :: (tp 8 []))))))), [(.arr 65 3 (List.length r24_4) (flatD enc_GChange r24_4))], 0⟩ ?_
   refine AWP.block ?_
   refine AWP.loopI (α := Nat × (List GChange) × Int)
     (fun x => match x with | (fu_6, y6_6, y27_6) => (⟨(tp 6 ((.own 0) :: (tp 18 ((.l (encL enc_GChange) p0) :: ((.i ((List.length p0 : Nat) : Int)) :: ((.i y27_6) :: (tp 8 []))))))), [(.arr 65 3 (List.length y6_6) (flatD enc_GChange y6_6))], 0⟩ : St))
     (fun x => match x with | (fu_6, y6_6, y27_6) => m_slices_Concat_Change_l6 p0 fu_6 y6_6 y27_6 = some r)
     (fun x => match x with | (fu_6, y6_6, y27_6) => fu_6) (1152921504606846976, r24_4, 0)
     (Weak.toK 234881088 0 0 [0]) hm ?_
   rintro ⟨fu_6, y6_6, y27_6⟩ n_6 hm ih_6
   try dsimp only at hm ih_6 ⊢
   cases fu_6 with
   | zero => exact absurd hm (by unfold m_slices_Concat_Change_l6; simp)
   | succ fu_6 =>
    unfold m_slices_Concat_Change_l6 at hm
    refine AWP.seq ?_
    refine AWP.text ?_
    refine Wy (.b (decide (y27_6 < ((List.length p0 : Nat) : Int)))) [] (Obn rfl (fun _ => hb_lss (k := .i64))) ?_
    refine Walk.nil ?_
    refine Then.normal ?_
    refine Amk 503316544 1 ⟨(tp 6 ((.own 0) :: (tp 18 ((.l (encL enc_GChange) p0) :: ((.i ((List.length p0 : Nat) : Int)) :: ((.i y27_6) :: ((.b (decide (y27_6 < ((List.length p0 : Nat) : Int)))) :: (tp 7 [])))))))), [(.arr 65 3 (List.length y6_6) (flatD enc_GChange y6_6))], 0⟩ ?_
    refine AWP.seq ?_
    rcases tf_ (decide (y27_6 < ((List.length p0 : Nat) : Int))) with hc28_11 | hc28_11
    ·
     replace hm := cT hc28_11 hm
     refine AWP.if_ true (Eq.trans (by kernel_rfl) (lit_tf (b := decide (y27_6 < ((List.length p0 : Nat) : Int))) hc28_11)) ?_
     refine AWP.skip ?_
     refine Then.normal ?_
     refine Amk 234881088 1 ⟨(tp 6 ((.own 0) :: (tp 18 ((.l (encL enc_GChange) p0) :: ((.i ((List.length p0 : Nat) : Int)) :: ((.i y27_6) :: (tp 8 []))))))), [(.arr 65 3 (List.length y6_6) (flatD enc_GChange y6_6))], 0⟩ ?_
     refine AWP.seq ?_
     refine AWP.block ?_
     refine AWP.seq ?_
     refine AWP.text ?_
     obtain ⟨x29_7, hx29_7, hm⟩ := bnd hm
     obtain ⟨hx29_7i, hx29_7g⟩ := geti_some hx29_7
     refine Wy (.d (.ref (List.drop ((Int.toNat y27_6) * 1) (flatD (encL enc_GChange) p0)))) [] (Oia rfl (encL_len (enc := enc_GChange)) hx29_7i hx29_7g) ?_
     refine Wy (.l enc_GChange x29_7) [] (Lf1 rfl (encL_len (enc := enc_GChange)) hx29_7g) ?_
     refine Wy (.l enc_GChange x29_7) [] (Omv rfl) ?_
     refine Walk.nil ?_
     refine Then.normal ?_
     refine Amk 234881344 1 ⟨(tp 6 ((.own 0) :: (tp 1 ((.l enc_GChange x29_7) :: (tp 16 ((.l (encL enc_GChange) p0) :: ((.i ((List.length p0 : Nat) : Int)) :: ((.i y27_6) :: (tp 8 []))))))))), [(.arr 65 3 (List.length y6_6) (flatD enc_GChange y6_6))], 0⟩ ?_
     refine AWP.text ?_
     refine Wy (.own 0) [] (Omv rfl) ?_
     refine Wy (.l enc_GChange x29_7) [] (Omv rfl) ?_
     obtain ⟨a33_8, ha33_8, hm⟩ := bnd hm; obtain ⟨ha33_8e, ha33_8l⟩ := app_some ha33_8
     refine Wy (.own 1) [(0, .gone), (1, (.arr 65 3 (List.length a33_8) (flatD enc_GChange a33_8)))] (Oap rfl elemOK_31 enc_GChange_len ha33_8e ha33_8l) ?_
     refine Wy (.own 1) [] (Omv rfl) ?_
     refine Walk.nil ?_
     refine InBlock.normal ?_
     refine Then.normal ?_
     refine Amk 234881088 2 ⟨(tp 6 ((.own 1) :: (tp 18 ((.l (encL enc_GChange) p0) :: ((.i ((List.length p0 : Nat) : Int)) :: ((.i y27_6) :: (tp 8 []))))))), [.gone, (.arr 65 3 (List.length a33_8) (flatD enc_GChange a33_8))], 0⟩ ?_
     refine AWP.text ?_
     refine Wy (.i (IntKind.i64.wrap (y27_6 + 1))) [] (Obn rfl (fun _ => hb_add (k := .i64))) ?_
     refine Wy (.i (IntKind.i64.wrap (y27_6 + 1))) [] (Omv rfl) ?_
     refine Walk.nil ?_
     refine RoundK.normal ?_
     exact Rounds.weak (Weak.toK 234881088 0 0 [1]) (ih_6 (fu_6, a33_8, (IntKind.i64.wrap (y27_6 + 1))) hm (Nat.lt_succ_self _))
    ·
     replace hm := cF hc28_11 hm
     refine AWP.if_ false (Eq.trans (by kernel_rfl) (lit_tf (b := decide (y27_6 < ((List.length p0 : Nat) : Int))) hc28_11)) ?_
     refine AWP.exit ?_
     refine Then.exit ?_
     refine RoundK.exit ?_
     refine InBlock.same ?_
     refine Then.normal ?_
     refine Amk 64 1 ⟨(tp 6 ((.own 0) :: (tp 29 []))), [(.arr 65 3 (List.length y6_6) (flatD enc_GChange y6_6))], 0⟩ ?_
     refine AWP.seq ?_
     refine AWP.text ?_
     refine Wy (.own 0) [] (Omv rfl) ?_
     refine Wy (.own 0) [] (Omv rfl) ?_
     refine Walk.nil ?_
     refine Then.normal ?_
     refine AWP.ret ?_
     obtain rfl := Option.some.inj hm
     exact ret_i [0]

set_option maxRecDepth 20000 in
set_option maxHeartbeats 4000000 in
theorem ok_tally_Merge (p0 : (List GChange)) (p1 : (List GChange)) (r : (List GChange)) (h : m_tally_Merge p0 p1 = some r) : GCall Try.prog 23 [(.l enc_GChange p0), (.l enc_GChange p1)] [] (.l enc_GChange r) [] := by
 refine GCall.of_body (n := 10) (rs := [(.tmp 4)]) Try.func23 rfl rfl rfl ?_
 refine Ato ⟨((.l enc_GChange p0) :: ((.l enc_GChange p1) :: (tu 8 []))), [], 0⟩ ?_
 have hm := h
 unfold m_tally_Merge at hm
 refine AWP.seq ?_
 refine AWP.text ?_
 refine Wy (.d .nil) [] (Omv rfl) ?_
 refine Walk.nil ?_
 refine Then.normal ?_
 refine Amk 3 0 ⟨((.l enc_GChange p0) :: ((.l enc_GChange p1) :: (tp 8 []))), [], 0⟩ ?_
 refine AWP.seq ?_
 refine AWP.text ?_
 refine Wy (.l enc_GChange p0) [] (Omv rfl) ?_
 refine Wy (.l enc_GChange p1) [] (Omv rfl) ?_
 refine Wy (.own 0) [(0, (.arr 31 1 (List.length ([p0, p1] : List (List GChange))) (flatD (encL enc_GChange) ([p0, p1] : List (List GChange)))))] (Obs rfl) ?_
 obtain ⟨r8_0, hr8_0, hm⟩ := bnd hm
 refine Wy (.own 1) [(1, (.arr 65 3 (List.length r8_0) (flatD enc_GChange r8_0)))] (Ocp [] [1] [0] 0 (ok_slices_Concat_Change ([p0, p1] : List (List GChange)) r8_0 hr8_0) (⟨by simp [A.Plain, A.Plains, D.Plain, byteD], plain_cons (flat_plain enc_GChange_plain) (plain_nil)⟩) (fun a w => Try.call40 a w) rfl trivial) ?_
 obtain ⟨r9_0, hr9_0, hm⟩ := bnd hm
 refine Wy (.l enc_GChange r9_0) [(1, (.fro 65 3 (List.length r8_0) (flatD enc_GChange r8_0)))] (Ocf [] [] [1] 0 (ok_tally_Normal r8_0 r9_0 hr9_0) (fun a w => Try.call33 a w) rfl trivial) ?_
 refine Wy (.l enc_GChange r9_0) [] (Omv rfl) ?_
 refine Walk.nil ?_
 refine Then.normal ?_
 refine AWP.ret ?_
 obtain rfl := Option.some.inj hm
 exact ret_i []

set_option maxRecDepth 20000 in
set_option maxHeartbeats 4000000 in
theorem ok_slices_Equal_Change (p0 : (List GChange)) (p1 : (List GChange)) (r : Bool) (h : m_slices_Equal_Change p0 p1 = some r) : GCall Try.prog 41 [(.l enc_GChange p0), (.l enc_GChange p1)] [] (.b r) [] := by
 refine GCall.of_body (n := 26) (rs := [(.tmp 4)]) Try.func41 rfl rfl rfl ?_
 refine Ato ⟨((.l enc_GChange p0) :: ((.l enc_GChange p1) :: (tu 24 []))), [], 0⟩ ?_
 have hm := h
 unfold m_slices_Equal_Change at hm
 refine AWP.seq ?_
 refine AWP.text ?_
 refine Wy (.b false) [] (Omv rfl) ?_
 refine Walk.nil ?_
 refine Then.normal ?_
 refine Amk 3 0 ⟨((.l enc_GChange p0) :: ((.l enc_GChange p1) :: (tp 24 []))), [], 0⟩ ?_
 refine AWP.seq ?_
 refine AWP.seq ?_
 refine AWP.text ?_
 refine Wy (.l enc_GChange p0) [] (Omv rfl) ?_
 refine Wy (.i ((List.length p0 : Nat) : Int)) [] (Oln rfl) ?_
 refine Wy (.l enc_GChange p1) [] (Omv rfl) ?_
 refine Wy (.i ((List.length p1 : Nat) : Int)) [] (Oln rfl) ?_
 refine Wy (.b (decide (((List.length p0 : Nat) : Int) ≠ ((List.length p1 : Nat) : Int)))) [] (Obn rfl (fun _ => hb_neq (k := .i64))) ?_
 refine Walk.nil ?_
 refine Then.normal ?_
 refine Amk 1027 0 ⟨((.l enc_GChange p0) :: ((.l enc_GChange p1) :: (tp 8 ((.b (decide (((List.length p0 : Nat) : Int) ≠ ((List.length p1 : Nat) : Int)))) :: (tp 15 []))))), [], 0⟩ ?_
 rcases tf_ (decide (((List.length p0 : Nat) : Int) ≠ ((List.length p1 : Nat) : Int))) with hc10_4 | hc10_4
 ·
  replace hm := cT hc10_4 hm
  refine AWP.if_ true (Eq.trans (by kernel_rfl) (lit_tf (b := decide (((List.length p0 : Nat) : Int) ≠ ((List.length p1 : Nat) : Int))) hc10_4)) ?_
  refine AWP.seq ?_
  refine AWP.text ?_
  refine Wy (.b false) [] (Omv rfl) ?_
  refine Walk.nil ?_
  refine Then.normal ?_
  refine AWP.ret ?_
  refine Then.ret ?_
  obtain rfl := Option.some.inj hm
  exact ret_i []
 ·
  replace hm := cF hc10_4 hm
  refine AWP.if_ false (Eq.trans (by kernel_rfl) (lit_tf (b := decide (((List.length p0 : Nat) : Int) ≠ ((List.length p1 : Nat) : Int))) hc10_4)) ?_
  refine AWP.skip ?_
  refine Then.normal ?_
  refine Amk 3 0 ⟨((.l enc_GChange p0) :: ((.l enc_GChange p1) :: (tp 24 []))), [], 0⟩ ?_
  refine AWP.seq ?_
  refine AWP.seq ?_
  refine AWP.text ?_
  refine Wy (.l enc_GChange p0) [] (Omv rfl) ?_
  refine Wy (.i ((List.length p0 : Nat) : Int)) [] (Oln rfl) ?_
  refine Wy (.i 0) [] (Omv rfl) ?_
  refine Walk.nil ?_
  refine Then.normal ?_
  refine Amk 12291 0 ⟨((.l enc_GChange p0) :: ((.l enc_GChange p1) :: (tp 10 ((.i ((List.length p0 : Nat) : Int)) :: ((.i 0) :: (tp 12 [])))))), [], 0⟩ ?_
  refine AWP.block ?_
  refine AWP.loopI (α := Nat × Int)
    (fun x => match x with | (fu_2, y13_2) => (⟨((.l enc_GChange p0) :: ((.l enc_GChange p1) :: (tp 10 ((.i ((List.length p0 : Nat) : Int)) :: ((.i y13_2) :: (tp 12 [])))))), [], 0⟩ : St))
    (fun x => match x with | (fu_2, y13_2) => m_slices_Equal_Change_l2 p0 p1 fu_2 y13_2 = some r)
    (fun x => match x with | (fu_2, y13_2) => fu_2) (1152921504606846976, 0)
    (Weak.toK 12291 0 0 []) hm ?_
  rintro ⟨fu_2, y13_2⟩ n_2 hm ih_2
  try dsimp only at hm ih_2 ⊢
  cases fu_2 with
  | zero => exact absurd hm (by unfold m_slices_Equal_Change_l2; simp)
  | succ fu_2 =>
   unfold m_slices_Equal_Change_l2 at hm
   refine AWP.seq ?_
   refine AWP.text ?_
   refine Wy (.b (decide (y13_2 < ((List.length p0 : Nat) : Int)))) [] (Obn rfl (fun _ => hb_lss (k := .i64))) ?_
   refine Walk.nil ?_
   refine Then.normal ?_
   refine Amk 28675 0 ⟨((.l enc_GChange p0) :: ((.l enc_GChange p1) :: (tp 10 ((.i ((List.length p0 : Nat) : Int)) :: ((.i y13_2) :: ((.b (decide (y13_2 < ((List.length p0 : Nat) : Int)))) :: (tp 11 []))))))), [], 0⟩ ?_
   refine AWP.seq ?_
   rcases tf_ (decide (y13_2 < ((List.length p0 : Nat) : Int))) with hc14_5 | hc14_5
   ·
    replace hm := cT hc14_5 hm
    refine AWP.if_ true (Eq.trans (by kernel_rfl) (lit_tf (b := decide (y13_2 < ((List.length p0 : Nat) : Int))) hc14_5)) ?_
    refine AWP.skip ?_
    refine Then.normal ?_
    refine Amk 12291 0 ⟨((.l enc_GChange p0) :: ((.l enc_GChange p1) :: (tp 10 ((.i ((List.length p0 : Nat) : Int)) :: ((.i y13_2) :: (tp 12 [])))))), [], 0⟩ ?_
    refine AWP.seq ?_
    refine AWP.block ?_
    refine AWP.seq ?_
    refine AWP.text ?_
    refine Wy (.i y13_2) [] (Omv rfl) ?_
    refine Wy (.i y13_2) [] (Omv rfl) ?_
    refine Walk.nil ?_
    refine Then.normal ?_
    refine Amk 12323 0 ⟨((.l enc_GChange p0) :: ((.l enc_GChange p1) :: (tp 3 ((.i y13_2) :: (tp 6 ((.i ((List.length p0 : Nat) : Int)) :: ((.i y13_2) :: (tp 12 [])))))))), [], 0⟩ ?_
    refine AWP.seq ?_
    refine Adr ?_
    refine Wy (.l enc_GChange p0) [] (Omv rfl) ?_
    refine Wy (.i y13_2) [] (Omv rfl) ?_
    obtain ⟨x18_3, hx18_3, hm⟩ := bnd hm
    obtain ⟨hx18_3i, hx18_3g⟩ := geti_some hx18_3
    refine Wy (.d (.ref (List.drop ((Int.toNat y13_2) * 3) (flatD enc_GChange p0)))) [] (Oia rfl enc_GChange_len hx18_3i hx18_3g) ?_
    refine Wy (.agg [(.i x18_3.Loc), (.i x18_3.Time), (.i x18_3.N)]) [] (Lf rfl enc_GChange_len hx18_3g) ?_
    refine Wy (.l enc_GChange p1) [] (Omv rfl) ?_
    refine Wy (.i y13_2) [] (Omv rfl) ?_
    obtain ⟨x22_3, hx22_3, hm⟩ := bnd hm
    obtain ⟨hx22_3i, hx22_3g⟩ := geti_some hx22_3
    refine Wy (.d (.ref (List.drop ((Int.toNat y13_2) * 3) (flatD enc_GChange p1)))) [] (Oia rfl enc_GChange_len hx22_3i hx22_3g) ?_
    refine Wy (.agg [(.i x22_3.Loc), (.i x22_3.Time), (.i x22_3.N)]) [] (Lf rfl enc_GChange_len hx22_3g) ?_
    obtain ⟨v24_3, hv24_3, hm⟩ := bnd hm; replace hv24_3 := Option.some.inj hv24_3
    refine Wy (.b v24_3) [] (Ocs (Eq.trans (by kernel_rfl) (congrArg (fun z => A.d (.lit (.bool z))) hv24_3)) (op_neq_struct rfl (la := [(.i x18_3.Loc), (.i x18_3.Time), (.i x18_3.N)]) (lb := [(.i x22_3.Loc), (.i x22_3.Time), (.i x22_3.N)]) (us := [.int .i64 x18_3.Loc, .int .i64 x18_3.Time, .int .i64 x18_3.N]) (vs := [.int .i64 x22_3.Loc, .int .i64 x22_3.Time, .int .i64 x22_3.N]) (r := (decide (x18_3.Loc = x22_3.Loc) && (decide (x18_3.Time = x22_3.Time) && (decide (x18_3.N = x22_3.N) && true)))) (by kernel_rfl) (by kernel_rfl) (by kernel_rfl) (by kernel_rfl) (by kernel_rfl))) ?_
    refine Wdr ?_
    refine Then.normal ?_
    refine Amk 16789507 0 ⟨((.l enc_GChange p0) :: ((.l enc_GChange p1) :: (tp 10 ((.i ((List.length p0 : Nat) : Int)) :: ((.i y13_2) :: (tp 10 ((.b v24_3) :: (tp 1 [])))))))), [], 0⟩ ?_
    rcases tf_ v24_3 with hc24_6 | hc24_6
    ·
     replace hm := cT hc24_6 hm
     refine AWP.if_ true (Eq.trans (by kernel_rfl) (lit_tf (b := v24_3) hc24_6)) ?_
     refine AWP.seq ?_
     refine AWP.text ?_
     refine Wy (.b false) [] (Omv rfl) ?_
     refine Walk.nil ?_
     refine Then.normal ?_
     refine AWP.ret ?_
     refine InBlock.ret ?_
     refine Then.ret ?_
     refine RoundK.ret ?_
     refine InBlock.ret ?_
     refine Then.ret ?_
     obtain rfl := Option.some.inj hm
     exact ret_i []
    ·
     replace hm := cF hc24_6 hm
     refine AWP.if_ false (Eq.trans (by kernel_rfl) (lit_tf (b := v24_3) hc24_6)) ?_
     refine AWP.skip ?_
     refine InBlock.normal ?_
     refine Then.normal ?_
     refine Amk 12291 0 ⟨((.l enc_GChange p0) :: ((.l enc_GChange p1) :: (tp 10 ((.i ((List.length p0 : Nat) : Int)) :: ((.i y13_2) :: (tp 12 [])))))), [], 0⟩ ?_
     refine AWP.text ?_
     refine Wy (.i (IntKind.i64.wrap (y13_2 + 1))) [] (Obn rfl (fun _ => hb_add (k := .i64))) ?_
     refine Wy (.i (IntKind.i64.wrap (y13_2 + 1))) [] (Omv rfl) ?_
     refine Walk.nil ?_
     refine RoundK.normal ?_
     exact Rounds.weak (Weak.toK 12291 0 0 []) (ih_2 (fu_2, (IntKind.i64.wrap (y13_2 + 1))) hm (Nat.lt_succ_self _))
   ·
    replace hm := cF hc14_5 hm
    refine AWP.if_ false (Eq.trans (by kernel_rfl) (lit_tf (b := decide (y13_2 < ((List.length p0 : Nat) : Int))) hc14_5)) ?_
    refine AWP.exit ?_
    refine Then.exit ?_
    refine RoundK.exit ?_
    refine InBlock.same ?_
    refine Then.normal ?_
    refine Amk 0 0 ⟨(tp 26 []), [], 0⟩ ?_
    refine AWP.seq ?_
    refine AWP.text ?_
    refine Wy (.b true) [] (Omv rfl) ?_
    refine Walk.nil ?_
    refine Then.normal ?_
    refine AWP.ret ?_
    obtain rfl := Option.some.inj hm
    exact ret_i []

set_option maxRecDepth 20000 in
set_option maxHeartbeats 4000000 in
theorem ok_tally_Same (p0 : (List GChange)) (p1 : (List GChange)) (r : Bool) (h : m_tally_Same p0 p1 = some r) : GCall Try.prog 24 [(.l enc_GChange p0), (.l enc_GChange p1)] [] (.b r) [] := by
 refine GCall.of_body (n := 8) (rs := [(.tmp 4)]) Try.func24 rfl rfl rfl ?_
 refine Ato ⟨((.l enc_GChange p0) :: ((.l enc_GChange p1) :: (tu 6 []))), [], 0⟩ ?_
 have hm := h
 unfold m_tally_Same at hm
 refine AWP.seq ?_
 refine AWP.text ?_
 refine Wy (.b false) [] (Omv rfl) ?_
 refine Walk.nil ?_
 refine Then.normal ?_
 refine Amk 3 0 ⟨((.l enc_GChange p0) :: ((.l enc_GChange p1) :: (tp 6 []))), [], 0⟩ ?_
 refine AWP.seq ?_
 refine AWP.text ?_
 refine Wy (.l enc_GChange p0) [] (Omv rfl) ?_
 refine Wy (.l enc_GChange p1) [] (Omv rfl) ?_
 obtain ⟨r7_0, hr7_0, hm⟩ := bnd hm
 refine Wy (.b r7_0) [] (Ocf [] [] [] 0 (ok_slices_Equal_Change p0 p1 r7_0 hr7_0) (fun a w => Try.call41 a w) rfl trivial) ?_
 refine Wy (.b r7_0) [] (Omv rfl) ?_
 refine Walk.nil ?_
 refine Then.normal ?_
 refine AWP.ret ?_
 obtain rfl := Option.some.inj hm
 exact ret_i []

set_option maxRecDepth 20000 in
set_option maxHeartbeats 4000000 in
theorem ok_front_Of (p0 : (List GChange)) (p1 : Int) (r : Int) (h : m_front_Of p0 p1 = some r) : GCall Try.prog 26 [(.l enc_GChange p0), (.i p1)] [] (.i r) [] := by
 refine GCall.of_body (n := 35) (rs := [(.tmp 4)]) Try.func26 rfl rfl rfl ?_
 refine Ato ⟨((.l enc_GChange p0) :: ((.i p1) :: (tu 33 []))), [], 0⟩ ?_
 have hm := h
 unfold m_front_Of at hm
 refine AWP.seq ?_
 refine AWP.text ?_
 refine Wy (.i 0) [] (Omv rfl) ?_
 refine Walk.nil ?_
 refine Then.normal ?_
 refine Amk 3 0 ⟨((.l enc_GChange p0) :: ((.i p1) :: (tp 33 []))), [], 0⟩ ?_
 refine AWP.seq ?_
 refine AWP.text ?_
 refine Wy (.i 1099511627777) [] (Omv rfl) ?_
 refine Walk.nil ?_
 refine Then.normal ?_
 refine Amk 35 0 ⟨((.l enc_GChange p0) :: ((.i p1) :: (tp 3 ((.i 1099511627777) :: (tp 29 []))))), [], 0⟩ ?_
 refine AWP.seq ?_
 refine AWP.seq ?_
 refine AWP.text ?_
 refine Wy (.l enc_GChange p0) [] (Omv rfl) ?_
 obtain ⟨r9_0, hr9_0, hm⟩ := bnd hm
 refine Wy (.l enc_GChange r9_0) [] (Ocf [] [] [] 0 (ok_tally_Normal p0 r9_0 hr9_0) (fun a w => Try.call33 a w) rfl trivial) ?_
 refine Wy (.i ((List.length r9_0 : Nat) : Int)) [] (Oln rfl) ?_
 refine Wy (.i 0) [] (Omv rfl) ?_
 refine Walk.nil ?_
 refine Then.normal ?_
 refine Amk 3618 0 ⟨(tp 1 ((.i p1) :: (tp 3 ((.i 1099511627777) :: (tp 3 ((.l enc_GChange r9_0) :: ((.i ((List.length r9_0 : Nat) : Int)) :: ((.i 0) :: (tp 23 []))))))))), [], 0⟩ ?_
 refine AWP.block ?_
 refine AWP.loopI (α := Nat × Int × Int)
   (fun x => match x with | (fu_1, y5_1, y11_1) => (⟨(tp 1 ((.i p1) :: (tp 3 ((.i y5_1) :: (tp 3 ((.l enc_GChange r9_0) :: ((.i ((List.length r9_0 : Nat) : Int)) :: ((.i y11_1) :: (tp 23 []))))))))), [], 0⟩ : St))
   (fun x => match x with | (fu_1, y5_1, y11_1) => m_front_Of_l1 p1 r9_0 fu_1 y5_1 y11_1 = some r)
   (fun x => match x with | (fu_1, y5_1, y11_1) => fu_1) (1152921504606846976, 1099511627777, 0)
   (Weak.toK 3618 0 0 []) hm ?_
 rintro ⟨fu_1, y5_1, y11_1⟩ n_1 hm ih_1
 try dsimp only at hm ih_1 ⊢
 cases fu_1 with
 | zero => exact absurd hm (by unfold m_front_Of_l1; simp)
 | succ fu_1 =>
  unfold m_front_Of_l1 at hm
  refine AWP.seq ?_
  refine AWP.text ?_
  refine Wy (.b (decide (y11_1 < ((List.length r9_0 : Nat) : Int)))) [] (Obn rfl (fun _ => hb_lss (k := .i64))) ?_
  refine Walk.nil ?_
  refine Then.normal ?_
  refine Amk 7714 0 ⟨(tp 1 ((.i p1) :: (tp 3 ((.i y5_1) :: (tp 3 ((.l enc_GChange r9_0) :: ((.i ((List.length r9_0 : Nat) : Int)) :: ((.i y11_1) :: ((.b (decide (y11_1 < ((List.length r9_0 : Nat) : Int)))) :: (tp 22 [])))))))))), [], 0⟩ ?_
  refine AWP.seq ?_
  rcases tf_ (decide (y11_1 < ((List.length r9_0 : Nat) : Int))) with hc12_6 | hc12_6
  ·
   replace hm := cT hc12_6 hm
   refine AWP.if_ true (Eq.trans (by kernel_rfl) (lit_tf (b := decide (y11_1 < ((List.length r9_0 : Nat) : Int))) hc12_6)) ?_
   refine AWP.skip ?_
   refine Then.normal ?_
   refine Amk 3618 0 ⟨(tp 1 ((.i p1) :: (tp 3 ((.i y5_1) :: (tp 3 ((.l enc_GChange r9_0) :: ((.i ((List.length r9_0 : Nat) : Int)) :: ((.i y11_1) :: (tp 23 []))))))))), [], 0⟩ ?_
   refine AWP.seq ?_
   refine AWP.block ?_
   refine AWP.seq ?_
   refine AWP.text ?_
   obtain ⟨x13_2, hx13_2, hm⟩ := bnd hm
   obtain ⟨hx13_2i, hx13_2g⟩ := geti_some hx13_2
   refine Wy (.d (.ref (List.drop ((Int.toNat y11_1) * 3) (flatD enc_GChange r9_0)))) [] (Oia rfl enc_GChange_len hx13_2i hx13_2g) ?_
   refine Wy (.agg [(.i x13_2.Loc), (.i x13_2.Time), (.i x13_2.N)]) [] (Lf rfl enc_GChange_len hx13_2g) ?_
   refine Wy (.loc 0 0) [(0, (.box [(.i 0), (.i 0), (.i 0)]))] (Oal rfl) ?_
   refine Wy (.tup []) [(0, (.box [(.i x13_2.Loc), (.i x13_2.Time), (.i x13_2.N)]))] (Ost rfl) ?_
   refine Walk.nil ?_
   refine Then.normal ?_
   refine Amk 3746 1 ⟨(tp 1 ((.i p1) :: (tp 3 ((.i y5_1) :: (tp 1 ((.loc 0 0) :: (tp 1 ((.l enc_GChange r9_0) :: ((.i ((List.length r9_0 : Nat) : Int)) :: ((.i y11_1) :: (tp 23 []))))))))))), [(.box [(.i x13_2.Loc), (.i x13_2.Time), (.i x13_2.N)])], 0⟩ ?_
   refine AWP.cutJ (α := Unit) (fun x => match x with | () => (⟨(tp 1 ((.i p1) :: (tp 3 ((.i y5_1) :: (tp 1 ((.loc 0 0) :: (tp 1 ((.l enc_GChange r9_0) :: ((.i ((List.length r9_0 : Nat) : Int)) :: ((.i y11_1) :: (tp 17 ((.b false) :: (tp 5 []))))))))))))), [(.box [(.i x13_2.Loc), (.i x13_2.Time), (.i x13_2.N)])], 0⟩ : St)) (fun x => match x with | () => m_front_Of_j4 y11_1 y5_1 (fun y5_1 y11_1 => m_front_Of_l1 p1 r9_0 fu_1 y5_1 y11_1) = some r) ?_ (fun J4 => ?_)
   ·
    rintro ⟨⟩ hm
    try dsimp only at hm ⊢
    unfold m_front_Of_j4 at hm
    refine AWP.if_ false (by kernel_rfl) ?_
    refine AWP.skip ?_
    refine InBlock.normal ?_
    refine Then.normal ?_
    refine Amk 3618 0 ⟨(tp 1 ((.i p1) :: (tp 3 ((.i y5_1) :: (tp 3 ((.l enc_GChange r9_0) :: ((.i ((List.length r9_0 : Nat) : Int)) :: ((.i y11_1) :: (tp 23 []))))))))), [.gone], 0⟩ ?_
    refine AWP.text ?_
    refine Wy (.i (IntKind.i64.wrap (y11_1 + 1))) [] (Obn rfl (fun _ => hb_add (k := .i64))) ?_
    refine Wy (.i (IntKind.i64.wrap (y11_1 + 1))) [] (Omv rfl) ?_
    refine Walk.nil ?_
    refine RoundK.normal ?_
    exact Rounds.weak (Weak.toK 3618 0 0 []) (ih_1 (fu_1, y5_1, (IntKind.i64.wrap (y11_1 + 1))) hm (Nat.lt_succ_self _))
   refine AWP.seq ?_
   refine AWP.text ?_
   refine Wy (.loc 0 2) [] (Ofa rfl) ?_
   refine Wy (.i x13_2.N) [] (Old rfl) ?_
   refine Wy (.b (decide ((0 : Int) < x13_2.N))) [] (Obn rfl (fun _ => hb_gtr (k := .i64))) ?_
   rcases tf_ (decide ((0 : Int) < x13_2.N)) with hq18_3 | hq18_3
   ·
    replace hm := cT hq18_3 hm
    refine Wy (.b true) [] (Ocs (lit_tf (b := decide ((0 : Int) < x13_2.N)) hq18_3) (Omv rfl)) ?_
    refine Wy (.loc 0 0) [] (Ofa rfl) ?_
    refine Wy (.i x13_2.Loc) [] (Old rfl) ?_
    refine Wy (.i p1) [] (Omv rfl) ?_
    obtain ⟨r22_3, hr22_3, hm⟩ := bnd hm
    refine Wy (.b r22_3) [] (Ocf [] [] [] 0 (ok_front_Leads x13_2.Loc p1 r22_3 hr22_3) (fun a w => Try.call27 a w) rfl trivial) ?_
    refine Wy (.b r22_3) [] (OpT rfl) ?_
    rcases tf_ r22_3 with hq24_3 | hq24_3
    ·
     replace hm := cT hq24_3 hm
     refine Wy (.b true) [] (Ocs (lit_tf (b := r22_3) hq24_3) (Omv rfl)) ?_
     refine Wy (.loc 0 1) [] (Ofa rfl) ?_
     refine Wy (.i x13_2.Time) [] (Old rfl) ?_
     refine Wy (.i y5_1) [] (Omv rfl) ?_
     refine Wy (.b (decide (x13_2.Time < y5_1))) [] (Obn rfl (fun _ => hb_lss (k := .i64))) ?_
     refine Wy (.b (decide (x13_2.Time < y5_1))) [] (OpT rfl) ?_
     refine Walk.nil ?_
     refine Then.normal ?_
     refine Amk 536874658 1 ⟨(tp 1 ((.i p1) :: (tp 3 ((.i y5_1) :: (tp 1 ((.loc 0 0) :: (tp 1 ((.l enc_GChange r9_0) :: ((.i ((List.length r9_0 : Nat) : Int)) :: ((.i y11_1) :: (tp 17 ((.b (decide (x13_2.Time < y5_1))) :: (tp 5 []))))))))))))), [(.box [(.i x13_2.Loc), (.i x13_2.Time), (.i x13_2.N)])], 0⟩ ?_
     rcases tf_ (decide (x13_2.Time < y5_1)) with hc29_7 | hc29_7
     ·
      replace hm := cT hc29_7 hm
      refine AWP.if_ true (Eq.trans (by kernel_rfl) (lit_tf (b := decide (x13_2.Time < y5_1)) hc29_7)) ?_
      refine AWP.text ?_
      refine Wy (.loc 0 1) [] (Ofa rfl) ?_
      refine Wy (.i x13_2.Time) [] (Old rfl) ?_
      refine Wy (.i x13_2.Time) [] (Omv rfl) ?_
      refine Walk.nil ?_
      refine InBlock.normal ?_
      refine Then.normal ?_
      refine Amk 3618 0 ⟨(tp 1 ((.i p1) :: (tp 3 ((.i x13_2.Time) :: (tp 3 ((.l enc_GChange r9_0) :: ((.i ((List.length r9_0 : Nat) : Int)) :: ((.i y11_1) :: (tp 23 []))))))))), [.gone], 0⟩ ?_
      refine AWP.text ?_
      refine Wy (.i (IntKind.i64.wrap (y11_1 + 1))) [] (Obn rfl (fun _ => hb_add (k := .i64))) ?_
      refine Wy (.i (IntKind.i64.wrap (y11_1 + 1))) [] (Omv rfl) ?_
      refine Walk.nil ?_
      refine RoundK.normal ?_
      exact Rounds.weak (Weak.toK 3618 0 0 []) (ih_1 (fu_1, x13_2.Time, (IntKind.i64.wrap (y11_1 + 1))) hm (Nat.lt_succ_self _))
     ·
      replace hm := cF hc29_7 hm
      refine AWP.if_ false (Eq.trans (by kernel_rfl) (lit_tf (b := decide (x13_2.Time < y5_1)) hc29_7)) ?_
      refine AWP.skip ?_
      refine InBlock.normal ?_
      refine Then.normal ?_
      refine Amk 3618 0 ⟨(tp 1 ((.i p1) :: (tp 3 ((.i y5_1) :: (tp 3 ((.l enc_GChange r9_0) :: ((.i ((List.length r9_0 : Nat) : Int)) :: ((.i y11_1) :: (tp 23 []))))))))), [.gone], 0⟩ ?_
      refine AWP.text ?_
      refine Wy (.i (IntKind.i64.wrap (y11_1 + 1))) [] (Obn rfl (fun _ => hb_add (k := .i64))) ?_
      refine Wy (.i (IntKind.i64.wrap (y11_1 + 1))) [] (Omv rfl) ?_
      refine Walk.nil ?_
      refine RoundK.normal ?_
      exact Rounds.weak (Weak.toK 3618 0 0 []) (ih_1 (fu_1, y5_1, (IntKind.i64.wrap (y11_1 + 1))) hm (Nat.lt_succ_self _))
    ·
     replace hm := cF hq24_3 hm
     refine Wy (.b false) [] (Ocs (lit_tf (b := r22_3) hq24_3) (Omv rfl)) ?_
     refine Wn ?_
     refine Wn ?_
     refine Wn ?_
     refine Wn ?_
     refine Wy (.b false) [] (OpF rfl) ?_
     refine Walk.nil ?_
     refine Then.normal ?_
     exact AWP.weak (Weak.toK 536874658 0 0 [0]) (J4 () hm)
   ·
    replace hm := cF hq18_3 hm
    refine Wy (.b false) [] (Ocs (lit_tf (b := decide ((0 : Int) < x13_2.N)) hq18_3) (Omv rfl)) ?_
    refine Wn ?_
    refine Wn ?_
    refine Wn ?_
    refine Wn ?_
    refine Wy (.b false) [] (OpF rfl) ?_
    refine Wy (.b false) [] (Omv rfl) ?_
    refine Wn ?_
    refine Wn ?_
    refine Wn ?_
    refine Wn ?_
    refine Wy (.b false) [] (OpF rfl) ?_
    refine Walk.nil ?_
    refine Then.normal ?_
    exact AWP.weak (Weak.toK 536874658 0 0 [0]) (J4 () hm)
  ·
   replace hm := cF hc12_6 hm
   refine AWP.if_ false (Eq.trans (by kernel_rfl) (lit_tf (b := decide (y11_1 < ((List.length r9_0 : Nat) : Int))) hc12_6)) ?_
   refine AWP.exit ?_
   refine Then.exit ?_
   refine RoundK.exit ?_
   refine InBlock.same ?_
   refine Then.normal ?_
   refine Amk 32 0 ⟨(tp 5 ((.i y5_1) :: (tp 29 []))), [], 0⟩ ?_
   refine AWP.seq ?_
   refine AWP.text ?_
   refine Wy (.i y5_1) [] (Omv rfl) ?_
   refine Wy (.i (max y5_1 0)) [] (op_bi2 rfl (a1 := .int .i64 y5_1) (a2 := .int .i64 0) (by kernel_rfl) (by kernel_rfl) hb_max) ?_
   refine Wy (.i (max y5_1 0)) [] (Omv rfl) ?_
   refine Walk.nil ?_
   refine Then.normal ?_
   refine AWP.ret ?_
   obtain rfl := Option.some.inj hm
   exact ret_i []

set_option maxRecDepth 20000 in
set_option maxHeartbeats 4000000 in
theorem ok_front_All (p0 : (List GChange)) (r : GArr4_Int) (h : m_front_All p0 = some r) : GCall Try.prog 42 [(.l enc_GChange p0)] [] (.agg [(.i r.a0), (.i r.a1), (.i r.a2), (.i r.a3)]) [] := by
 refine GCall.of_body (n := 15) (rs := [(.cell 2 83)]) Try.func42 rfl rfl rfl ?_
 refine Ato ⟨((.l enc_GChange p0) :: (tu 14 [])), [], 0⟩ ?_
 have hm := h
 unfold m_front_All at hm
 refine AWP.seq ?_
 refine AWP.text ?_
 refine Wy (.loc 0 0) [(0, (.box [(.i 0), (.i 0), (.i 0), (.i 0)]))] (Oal rfl) ?_
 refine Walk.nil ?_
 refine Then.normal ?_
 refine Amk 5 1 ⟨((.l enc_GChange p0) :: (tp 1 ((.loc 0 0) :: (tp 12 [])))), [(.box [(.i 0), (.i 0), (.i 0), (.i 0)])], 0⟩ ?_
 refine AWP.seq ?_
 refine AWP.text ?_
 refine Wy (.loc 1 0) [(1, (.box [(.i 0), (.i 0), (.i 0), (.i 0)]))] (Oal rfl) ?_
 refine Walk.nil ?_
 refine Then.normal ?_
 refine Amk 13 3 ⟨((.l enc_GChange p0) :: (tp 1 ((.loc 0 0) :: ((.loc 1 0) :: (tp 11 []))))), [(.box [(.i 0), (.i 0), (.i 0), (.i 0)]), (.box [(.i 0), (.i 0), (.i 0), (.i 0)])], 0⟩ ?_
 refine AWP.seq ?_
 refine AWP.seq ?_
 refine AWP.text ?_
 refine Wy (.i 0) [] (Omv rfl) ?_
 refine Walk.nil ?_
 refine Then.normal ?_
 refine Amk 45 3 ⟨((.l enc_GChange p0) :: (tp 1 ((.loc 0 0) :: ((.loc 1 0) :: (tp 1 ((.i 0) :: (tp 9 []))))))), [(.box [(.i 0), (.i 0), (.i 0), (.i 0)]), (.box [(.i 0), (.i 0), (.i 0), (.i 0)])], 0⟩ ?_
 refine AWP.block ?_
 refine AWP.loopI (α := Nat × GArr4_Int × Int)
   (fun x => match x with | (fu_0, y3_d_0, y5_0) => (⟨((.l enc_GChange p0) :: (tp 1 ((.loc 0 0) :: ((.loc 1 0) :: (tp 1 ((.i y5_0) :: (tp 9 []))))))), [(.box [(.i 0), (.i 0), (.i 0), (.i 0)]), (.box [(.i y3_d_0.a0), (.i y3_d_0.a1), (.i y3_d_0.a2), (.i y3_d_0.a3)])], 0⟩ : St))
   (fun x => match x with | (fu_0, y3_d_0, y5_0) => m_front_All_l0 p0 fu_0 y3_d_0 y5_0 = some r)
   (fun x => match x with | (fu_0, y3_d_0, y5_0) => fu_0) (1152921504606846976, (GArr4_Int.mk 0 0 0 0), 0)
   (Weak.toK 45 0 0 [0, 1]) hm ?_
 rintro ⟨fu_0, y3_d_0, y5_0⟩ n_0 hm ih_0
 try dsimp only at hm ih_0 ⊢
 cases fu_0 with
 | zero => exact absurd hm (by unfold m_front_All_l0; simp)
 | succ fu_0 =>
  unfold m_front_All_l0 at hm
  refine AWP.seq ?_
  refine AWP.text ?_
  refine Wy (.b (decide (y5_0 < 4))) [] (Obn rfl (fun _ => hb_lss (k := .i64))) ?_
  refine Walk.nil ?_
  refine Then.normal ?_
  refine Amk 109 3 ⟨((.l enc_GChange p0) :: (tp 1 ((.loc 0 0) :: ((.loc 1 0) :: (tp 1 ((.i y5_0) :: ((.b (decide (y5_0 < 4))) :: (tp 8 [])))))))), [(.box [(.i 0), (.i 0), (.i 0), (.i 0)]), (.box [(.i y3_d_0.a0), (.i y3_d_0.a1), (.i y3_d_0.a2), (.i y3_d_0.a3)])], 0⟩ ?_
  refine AWP.seq ?_
  rcases tf_ (decide (y5_0 < 4)) with hc6_2 | hc6_2
  ·
   replace hm := cT hc6_2 hm
   refine AWP.if_ true (Eq.trans (by kernel_rfl) (lit_tf (b := decide (y5_0 < 4)) hc6_2)) ?_
   refine AWP.skip ?_
   refine Then.normal ?_
   refine Amk 45 3 ⟨((.l enc_GChange p0) :: (tp 1 ((.loc 0 0) :: ((.loc 1 0) :: (tp 1 ((.i y5_0) :: (tp 9 []))))))), [(.box [(.i 0), (.i 0), (.i 0), (.i 0)]), (.box [(.i y3_d_0.a0), (.i y3_d_0.a1), (.i y3_d_0.a2), (.i y3_d_0.a3)])], 0⟩ ?_
   refine AWP.seq ?_
   refine AWP.block ?_
   refine AWP.seq ?_
   refine AWP.text ?_
   refine Wy (.i y5_0) [] (Omv rfl) ?_
   refine Wy (.i y5_0) [] (Omv rfl) ?_
   refine Walk.nil ?_
   refine Then.normal ?_
   refine Amk 61 3 ⟨((.l enc_GChange p0) :: (tp 1 ((.loc 0 0) :: ((.loc 1 0) :: ((.i y5_0) :: ((.i y5_0) :: (tp 9 []))))))), [(.box [(.i 0), (.i 0), (.i 0), (.i 0)]), (.box [(.i y3_d_0.a0), (.i y3_d_0.a1), (.i y3_d_0.a2), (.i y3_d_0.a3)])], 0⟩ ?_
   refine AWP.text ?_
   refine Wy (.i y5_0) [] (Omv rfl) ?_
   refine Wy (.l enc_GChange p0) [] (Omv rfl) ?_
   refine Wy (.i y5_0) [] (Omv rfl) ?_
   obtain ⟨r11_1, hr11_1, hm⟩ := bnd hm
   refine Wy (.i r11_1) [] (Ocf [] [] [] 0 (ok_front_Of p0 y5_0 r11_1 hr11_1) (fun a w => Try.call26 a w) rfl trivial) ?_
   rcases tf_ (decide (y5_0 = 0)) with hq12_1_0 | hq12_1_0
   ·
    replace hm := cT hq12_1_0 hm
    refine Wy (.loc 1 0) [] (Ocs (by kernel_rfl) (op_iaddr_arr rfl (n := 4) (sz := 1) (y := (.loc 1 0)) (by kernel_rfl) (by kernel_rfl) (by kernel_rfl) (k := .i64) (iv := y5_0) (by kernel_rfl) (i := 0) (of_decide_eq_true hq12_1_0) (by decide))) ?_
    refine Wy (.tup []) [(1, (.box [(.i r11_1), (.i y3_d_0.a1), (.i y3_d_0.a2), (.i y3_d_0.a3)]))] (Ost rfl) ?_
    refine Walk.nil ?_
    refine InBlock.normal ?_
    refine Then.normal ?_
    refine Amk 45 3 ⟨((.l enc_GChange p0) :: (tp 1 ((.loc 0 0) :: ((.loc 1 0) :: (tp 1 ((.i y5_0) :: (tp 9 []))))))), [(.box [(.i 0), (.i 0), (.i 0), (.i 0)]), (.box [(.i r11_1), (.i y3_d_0.a1), (.i y3_d_0.a2), (.i y3_d_0.a3)])], 0⟩ ?_
    refine AWP.text ?_
    refine Wy (.i (IntKind.i64.wrap (y5_0 + 1))) [] (Obn rfl (fun _ => hb_add (k := .i64))) ?_
    refine Wy (.i (IntKind.i64.wrap (y5_0 + 1))) [] (Omv rfl) ?_
    refine Walk.nil ?_
    refine RoundK.normal ?_
    exact Rounds.weak (Weak.toK 45 0 0 [0, 1]) (ih_0 (fu_0, (GArr4_Int.mk r11_1 y3_d_0.a1 y3_d_0.a2 y3_d_0.a3), (IntKind.i64.wrap (y5_0 + 1))) hm (Nat.lt_succ_self _))
   ·
    replace hm := cF hq12_1_0 hm
    rcases tf_ (decide (y5_0 = 1)) with hq12_1_1 | hq12_1_1
    ·
     replace hm := cT hq12_1_1 hm
     refine Wy (.loc 1 1) [] (Ocs (by kernel_rfl) (op_iaddr_arr rfl (n := 4) (sz := 1) (y := (.loc 1 0)) (by kernel_rfl) (by kernel_rfl) (by kernel_rfl) (k := .i64) (iv := y5_0) (by kernel_rfl) (i := 1) (of_decide_eq_true hq12_1_1) (by decide))) ?_
     refine Wy (.tup []) [(1, (.box [(.i y3_d_0.a0), (.i r11_1), (.i y3_d_0.a2), (.i y3_d_0.a3)]))] (Ost rfl) ?_
     refine Walk.nil ?_
     refine InBlock.normal ?_
     refine Then.normal ?_
     refine Amk 45 3 ⟨((.l enc_GChange p0) :: (tp 1 ((.loc 0 0) :: ((.loc 1 0) :: (tp 1 ((.i y5_0) :: (tp 9 []))))))), [(.box [(.i 0), (.i 0), (.i 0), (.i 0)]), (.box [(.i y3_d_0.a0), (.i r11_1), (.i y3_d_0.a2), (.i y3_d_0.a3)])], 0⟩ ?_
     refine AWP.text ?_
     refine Wy (.i (IntKind.i64.wrap (y5_0 + 1))) [] (Obn rfl (fun _ => hb_add (k := .i64))) ?_
     refine Wy (.i (IntKind.i64.wrap (y5_0 + 1))) [] (Omv rfl) ?_
     refine Walk.nil ?_
     refine RoundK.normal ?_
     exact Rounds.weak (Weak.toK 45 0 0 [0, 1]) (ih_0 (fu_0, (GArr4_Int.mk y3_d_0.a0 r11_1 y3_d_0.a2 y3_d_0.a3), (IntKind.i64.wrap (y5_0 + 1))) hm (Nat.lt_succ_self _))
    ·
     replace hm := cF hq12_1_1 hm
     rcases tf_ (decide (y5_0 = 2)) with hq12_1_2 | hq12_1_2
     ·
      replace hm := cT hq12_1_2 hm
      refine Wy (.loc 1 2) [] (Ocs (by kernel_rfl) (op_iaddr_arr rfl (n := 4) (sz := 1) (y := (.loc 1 0)) (by kernel_rfl) (by kernel_rfl) (by kernel_rfl) (k := .i64) (iv := y5_0) (by kernel_rfl) (i := 2) (of_decide_eq_true hq12_1_2) (by decide))) ?_
      refine Wy (.tup []) [(1, (.box [(.i y3_d_0.a0), (.i y3_d_0.a1), (.i r11_1), (.i y3_d_0.a3)]))] (Ost rfl) ?_
      refine Walk.nil ?_
      refine InBlock.normal ?_
      refine Then.normal ?_
      refine Amk 45 3 ⟨((.l enc_GChange p0) :: (tp 1 ((.loc 0 0) :: ((.loc 1 0) :: (tp 1 ((.i y5_0) :: (tp 9 []))))))), [(.box [(.i 0), (.i 0), (.i 0), (.i 0)]), (.box [(.i y3_d_0.a0), (.i y3_d_0.a1), (.i r11_1), (.i y3_d_0.a3)])], 0⟩ ?_
      refine AWP.text ?_
      refine Wy (.i (IntKind.i64.wrap (y5_0 + 1))) [] (Obn rfl (fun _ => hb_add (k := .i64))) ?_
      refine Wy (.i (IntKind.i64.wrap (y5_0 + 1))) [] (Omv rfl) ?_
      refine Walk.nil ?_
      refine RoundK.normal ?_
      exact Rounds.weak (Weak.toK 45 0 0 [0, 1]) (ih_0 (fu_0, (GArr4_Int.mk y3_d_0.a0 y3_d_0.a1 r11_1 y3_d_0.a3), (IntKind.i64.wrap (y5_0 + 1))) hm (Nat.lt_succ_self _))
     ·
      replace hm := cF hq12_1_2 hm
      rcases tf_ (decide (y5_0 = 3)) with hq12_1_3 | hq12_1_3
      ·
       replace hm := cT hq12_1_3 hm
       refine Wy (.loc 1 3) [] (Ocs (by kernel_rfl) (op_iaddr_arr rfl (n := 4) (sz := 1) (y := (.loc 1 0)) (by kernel_rfl) (by kernel_rfl) (by kernel_rfl) (k := .i64) (iv := y5_0) (by kernel_rfl) (i := 3) (of_decide_eq_true hq12_1_3) (by decide))) ?_
       refine Wy (.tup []) [(1, (.box [(.i y3_d_0.a0), (.i y3_d_0.a1), (.i y3_d_0.a2), (.i r11_1)]))] (Ost rfl) ?_
       refine Walk.nil ?_
       refine InBlock.normal ?_
       refine Then.normal ?_
       refine Amk 45 3 ⟨((.l enc_GChange p0) :: (tp 1 ((.loc 0 0) :: ((.loc 1 0) :: (tp 1 ((.i y5_0) :: (tp 9 []))))))), [(.box [(.i 0), (.i 0), (.i 0), (.i 0)]), (.box [(.i y3_d_0.a0), (.i y3_d_0.a1), (.i y3_d_0.a2), (.i r11_1)])], 0⟩ ?_
       refine AWP.text ?_
       refine Wy (.i (IntKind.i64.wrap (y5_0 + 1))) [] (Obn rfl (fun _ => hb_add (k := .i64))) ?_
       refine Wy (.i (IntKind.i64.wrap (y5_0 + 1))) [] (Omv rfl) ?_
       refine Walk.nil ?_
       refine RoundK.normal ?_
       exact Rounds.weak (Weak.toK 45 0 0 [0, 1]) (ih_0 (fu_0, (GArr4_Int.mk y3_d_0.a0 y3_d_0.a1 y3_d_0.a2 r11_1), (IntKind.i64.wrap (y5_0 + 1))) hm (Nat.lt_succ_self _))
      ·
       replace hm := cF hq12_1_3 hm
       exact nomatch hm
  ·
   replace hm := cF hc6_2 hm
   refine AWP.if_ false (Eq.trans (by kernel_rfl) (lit_tf (b := decide (y5_0 < 4)) hc6_2)) ?_
   refine AWP.exit ?_
   refine Then.exit ?_
   refine RoundK.exit ?_
   refine InBlock.same ?_
   refine Then.normal ?_
   refine Amk 12 3 ⟨(tp 2 ((.loc 0 0) :: ((.loc 1 0) :: (tp 11 [])))), [(.box [(.i 0), (.i 0), (.i 0), (.i 0)]), (.box [(.i y3_d_0.a0), (.i y3_d_0.a1), (.i y3_d_0.a2), (.i y3_d_0.a3)])], 0⟩ ?_
   refine AWP.seq ?_
   refine AWP.text ?_
   refine Wy (.agg [(.i y3_d_0.a0), (.i y3_d_0.a1), (.i y3_d_0.a2), (.i y3_d_0.a3)]) [] (Old rfl) ?_
   refine Wy (.tup []) [(0, (.box [(.i y3_d_0.a0), (.i y3_d_0.a1), (.i y3_d_0.a2), (.i y3_d_0.a3)]))] (Ost rfl) ?_
   refine Walk.nil ?_
   refine Then.normal ?_
   refine AWP.ret ?_
   obtain rfl := Option.some.inj hm
   exact ret_i []

set_option maxRecDepth 20000 in
set_option maxHeartbeats 4000000 in
theorem ok_front_Drops (p0 : (List GChange)) (p1 : (List GChange)) (r : Bool) (h : m_front_Drops p0 p1 = some r) : GCall Try.prog 25 [(.l enc_GChange p0), (.l enc_GChange p1)] [] (.b r) [] := by
 refine GCall.of_body (n := 23) (rs := [(.tmp 4)]) Try.func25 rfl rfl rfl ?_
 refine Ato ⟨((.l enc_GChange p0) :: ((.l enc_GChange p1) :: (tu 21 []))), [], 0⟩ ?_
 have hm := h
 unfold m_front_Drops at hm
 refine AWP.seq ?_
 refine AWP.text ?_
 refine Wy (.b false) [] (Omv rfl) ?_
 refine Walk.nil ?_
 refine Then.normal ?_
 refine Amk 3 0 ⟨((.l enc_GChange p0) :: ((.l enc_GChange p1) :: (tp 21 []))), [], 0⟩ ?_
 refine AWP.seq ?_
 refine AWP.text ?_
 refine Wy (.l enc_GChange p0) [] (Omv rfl) ?_
 obtain ⟨r9_0, hr9_0, hm⟩ := bnd hm
 refine Wy (.agg [(.i r9_0.a0), (.i r9_0.a1), (.i r9_0.a2), (.i r9_0.a3)]) [] (Ocf [] [] [] 0 (ok_front_All p0 r9_0 hr9_0) (fun a w => Try.call42 a w) rfl trivial) ?_
 refine Wy (.l enc_GChange p1) [] (Omv rfl) ?_
 obtain ⟨r11_0, hr11_0, hm⟩ := bnd hm
 refine Wy (.agg [(.i r11_0.a0), (.i r11_0.a1), (.i r11_0.a2), (.i r11_0.a3)]) [] (Ocf [] [] [] 0 (ok_front_All p1 r11_0 hr11_0) (fun a w => Try.call42 a w) rfl trivial) ?_
 refine Wy (.loc 0 0) [(0, (.box [(.i 0), (.i 0), (.i 0), (.i 0)]))] (Oal rfl) ?_
 refine Wy (.loc 1 0) [(1, (.box [(.i 0), (.i 0), (.i 0), (.i 0)]))] (Oal rfl) ?_
 refine Wy (.tup []) [(0, (.box [(.i r9_0.a0), (.i r9_0.a1), (.i r9_0.a2), (.i r9_0.a3)]))] (Ost rfl) ?_
 refine Wy (.tup []) [(1, (.box [(.i r11_0.a0), (.i r11_0.a1), (.i r11_0.a2), (.i r11_0.a3)]))] (Ost rfl) ?_
 refine Walk.nil ?_
 refine Then.normal ?_
 refine Amk 96 3 ⟨(tp 5 ((.loc 0 0) :: ((.loc 1 0) :: (tp 16 [])))), [(.box [(.i r9_0.a0), (.i r9_0.a1), (.i r9_0.a2), (.i r9_0.a3)]), (.box [(.i r11_0.a0), (.i r11_0.a1), (.i r11_0.a2), (.i r11_0.a3)])], 0⟩ ?_
 refine AWP.seq ?_
 refine AWP.seq ?_
 refine AWP.text ?_
 refine Wy (.i 0) [] (Omv rfl) ?_
 refine Walk.nil ?_
 refine Then.normal ?_
 refine Amk 4192 3 ⟨(tp 5 ((.loc 0 0) :: ((.loc 1 0) :: (tp 5 ((.i 0) :: (tp 10 [])))))), [(.box [(.i r9_0.a0), (.i r9_0.a1), (.i r9_0.a2), (.i r9_0.a3)]), (.box [(.i r11_0.a0), (.i r11_0.a1), (.i r11_0.a2), (.i r11_0.a3)])], 0⟩ ?_
 refine AWP.block ?_
 refine AWP.loopI (α := Nat × Int)
   (fun x => match x with | (fu_1, y12_1) => (⟨(tp 5 ((.loc 0 0) :: ((.loc 1 0) :: (tp 5 ((.i y12_1) :: (tp 10 [])))))), [(.box [(.i r9_0.a0), (.i r9_0.a1), (.i r9_0.a2), (.i r9_0.a3)]), (.box [(.i r11_0.a0), (.i r11_0.a1), (.i r11_0.a2), (.i r11_0.a3)])], 0⟩ : St))
   (fun x => match x with | (fu_1, y12_1) => m_front_Drops_l1 r11_0 r9_0 fu_1 y12_1 = some r)
   (fun x => match x with | (fu_1, y12_1) => fu_1) (1152921504606846976, 0)
   (Weak.toK 4192 0 0 [0, 1]) hm ?_
 rintro ⟨fu_1, y12_1⟩ n_1 hm ih_1
 try dsimp only at hm ih_1 ⊢
 cases fu_1 with
 | zero => exact absurd hm (by unfold m_front_Drops_l1; simp)
 | succ fu_1 =>
  unfold m_front_Drops_l1 at hm
  refine AWP.seq ?_
  refine AWP.text ?_
  refine Wy (.b (decide (y12_1 < 4))) [] (Obn rfl (fun _ => hb_lss (k := .i64))) ?_
  refine Walk.nil ?_
  refine Then.normal ?_
  refine Amk 12384 3 ⟨(tp 5 ((.loc 0 0) :: ((.loc 1 0) :: (tp 5 ((.i y12_1) :: ((.b (decide (y12_1 < 4))) :: (tp 9 []))))))), [(.box [(.i r9_0.a0), (.i r9_0.a1), (.i r9_0.a2), (.i r9_0.a3)]), (.box [(.i r11_0.a0), (.i r11_0.a1), (.i r11_0.a2), (.i r11_0.a3)])], 0⟩ ?_
  refine AWP.seq ?_
  rcases tf_ (decide (y12_1 < 4)) with hc13_3 | hc13_3
  ·
   replace hm := cT hc13_3 hm
   refine AWP.if_ true (Eq.trans (by kernel_rfl) (lit_tf (b := decide (y12_1 < 4)) hc13_3)) ?_
   refine AWP.skip ?_
   refine Then.normal ?_
   refine Amk 4192 3 ⟨(tp 5 ((.loc 0 0) :: ((.loc 1 0) :: (tp 5 ((.i y12_1) :: (tp 10 [])))))), [(.box [(.i r9_0.a0), (.i r9_0.a1), (.i r9_0.a2), (.i r9_0.a3)]), (.box [(.i r11_0.a0), (.i r11_0.a1), (.i r11_0.a2), (.i r11_0.a3)])], 0⟩ ?_
   refine AWP.seq ?_
   refine AWP.block ?_
   refine AWP.seq ?_
   refine AWP.text ?_
   refine Wy (.i y12_1) [] (Omv rfl) ?_
   refine Wy (.i y12_1) [] (Omv rfl) ?_
   refine Walk.nil ?_
   refine Then.normal ?_
   refine Amk 4320 3 ⟨(tp 5 ((.loc 0 0) :: ((.loc 1 0) :: ((.i y12_1) :: (tp 4 ((.i y12_1) :: (tp 10 []))))))), [(.box [(.i r9_0.a0), (.i r9_0.a1), (.i r9_0.a2), (.i r9_0.a3)]), (.box [(.i r11_0.a0), (.i r11_0.a1), (.i r11_0.a2), (.i r11_0.a3)])], 0⟩ ?_
   refine AWP.seq ?_
   refine Adr ?_
   refine Wy (.i y12_1) [] (Omv rfl) ?_
   obtain ⟨x16_2, hx16_2, hm⟩ := bnd hm
   obtain ⟨hx16_2i, hx16_2g⟩ := geti_some hx16_2
   refine Wy (.loc 1 (0 + (Int.toNat y12_1) * 1)) [] (Ocs (by kernel_rfl) (op_iaddr_arr rfl (n := 4) (sz := 1) (y := (.loc 1 0)) (by kernel_rfl) (by kernel_rfl) (by kernel_rfl) (k := .i64) (iv := y12_1) (by kernel_rfl) (i := (Int.toNat y12_1)) (hx16_2i) (getlt hx16_2g))) ?_
   refine Wy (.i x16_2) [] (OldD rfl (id := 1) (off := 0 + (Int.toNat y12_1) * 1) (cs := [(.i r11_0.a0), (.i r11_0.a1), (.i r11_0.a2), (.i r11_0.a3)]) (xs := (flatD (encI .i64) ([r11_0.a0, r11_0.a1, r11_0.a2, r11_0.a3] : List Int)).map A.d) (by kernel_rfl) (by kernel_rfl) (by kernel_rfl) ((loadA_scalar (by kernel_rfl)).trans (by rw [Nat.zero_add]; exact flat_row_at (l := ([r11_0.a0, r11_0.a1, r11_0.a2, r11_0.a3] : List Int)) (sz := 1) (encI_len (k := .i64)) (hx16_2g) (by kernel_rfl)))) ?_
   refine Wy (.i y12_1) [] (Omv rfl) ?_
   obtain ⟨x19_2, hx19_2, hm⟩ := bnd hm
   obtain ⟨hx19_2i, hx19_2g⟩ := geti_some hx19_2
   refine Wy (.loc 0 (0 + (Int.toNat y12_1) * 1)) [] (Ocs (by kernel_rfl) (op_iaddr_arr rfl (n := 4) (sz := 1) (y := (.loc 0 0)) (by kernel_rfl) (by kernel_rfl) (by kernel_rfl) (k := .i64) (iv := y12_1) (by kernel_rfl) (i := (Int.toNat y12_1)) (hx19_2i) (getlt hx19_2g))) ?_
   refine Wy (.i x19_2) [] (OldD rfl (id := 0) (off := 0 + (Int.toNat y12_1) * 1) (cs := [(.i r9_0.a0), (.i r9_0.a1), (.i r9_0.a2), (.i r9_0.a3)]) (xs := (flatD (encI .i64) ([r9_0.a0, r9_0.a1, r9_0.a2, r9_0.a3] : List Int)).map A.d) (by kernel_rfl) (by kernel_rfl) (by kernel_rfl) ((loadA_scalar (by kernel_rfl)).trans (by rw [Nat.zero_add]; exact flat_row_at (l := ([r9_0.a0, r9_0.a1, r9_0.a2, r9_0.a3] : List Int)) (sz := 1) (encI_len (k := .i64)) (hx19_2g) (by kernel_rfl)))) ?_
   refine Wy (.b (decide (x16_2 < x19_2))) [] (Obn rfl (fun _ => hb_lss (k := .i64))) ?_
   refine Wdr ?_
   refine Then.normal ?_
   refine Amk 2101344 3 ⟨(tp 5 ((.loc 0 0) :: ((.loc 1 0) :: (tp 5 ((.i y12_1) :: (tp 8 ((.b (decide (x16_2 < x19_2))) :: (tp 1 [])))))))), [(.box [(.i r9_0.a0), (.i r9_0.a1), (.i r9_0.a2), (.i r9_0.a3)]), (.box [(.i r11_0.a0), (.i r11_0.a1), (.i r11_0.a2), (.i r11_0.a3)])], 0⟩ ?_
   rcases tf_ (decide (x16_2 < x19_2)) with hc21_4 | hc21_4
   ·
    replace hm := cT hc21_4 hm
    refine AWP.if_ true (Eq.trans (by kernel_rfl) (lit_tf (b := decide (x16_2 < x19_2)) hc21_4)) ?_
    refine AWP.seq ?_
    refine AWP.text ?_
    refine Wy (.b true) [] (Omv rfl) ?_
    refine Walk.nil ?_
    refine Then.normal ?_
    refine AWP.ret ?_
    refine InBlock.ret ?_
    refine Then.ret ?_
    refine RoundK.ret ?_
    refine InBlock.ret ?_
    refine Then.ret ?_
    obtain rfl := Option.some.inj hm
    exact ret_i []
   ·
    replace hm := cF hc21_4 hm
    refine AWP.if_ false (Eq.trans (by kernel_rfl) (lit_tf (b := decide (x16_2 < x19_2)) hc21_4)) ?_
    refine AWP.skip ?_
    refine InBlock.normal ?_
    refine Then.normal ?_
    refine Amk 4192 3 ⟨(tp 5 ((.loc 0 0) :: ((.loc 1 0) :: (tp 5 ((.i y12_1) :: (tp 10 [])))))), [(.box [(.i r9_0.a0), (.i r9_0.a1), (.i r9_0.a2), (.i r9_0.a3)]), (.box [(.i r11_0.a0), (.i r11_0.a1), (.i r11_0.a2), (.i r11_0.a3)])], 0⟩ ?_
    refine AWP.text ?_
    refine Wy (.i (IntKind.i64.wrap (y12_1 + 1))) [] (Obn rfl (fun _ => hb_add (k := .i64))) ?_
    refine Wy (.i (IntKind.i64.wrap (y12_1 + 1))) [] (Omv rfl) ?_
    refine Walk.nil ?_
    refine RoundK.normal ?_
    exact Rounds.weak (Weak.toK 4192 0 0 [0, 1]) (ih_1 (fu_1, (IntKind.i64.wrap (y12_1 + 1))) hm (Nat.lt_succ_self _))
  ·
   replace hm := cF hc13_3 hm
   refine AWP.if_ false (Eq.trans (by kernel_rfl) (lit_tf (b := decide (y12_1 < 4)) hc13_3)) ?_
   refine AWP.exit ?_
   refine Then.exit ?_
   refine RoundK.exit ?_
   refine InBlock.same ?_
   refine Then.normal ?_
   refine Amk 0 0 ⟨(tp 23 []), [.gone, .gone], 0⟩ ?_
   refine AWP.seq ?_
   refine AWP.text ?_
   refine Wy (.b false) [] (Omv rfl) ?_
   refine Walk.nil ?_
   refine Then.normal ?_
   refine AWP.ret ?_
   obtain rfl := Option.some.inj hm
   exact ret_i []

set_option maxRecDepth 20000 in
set_option maxHeartbeats 4000000 in
theorem ok_telltalelaw28_TokenSums (p0 : (List GTurn)) (r : Bool) (h : m_telltalelaw28_TokenSums p0 = some r) : GCall Try.prog 4 [(.l enc_GTurn p0)] [] (.b r) [] := by
 refine GCall.of_body (n := 234) (rs := [(.tmp 2)]) Try.func4 rfl rfl rfl ?_
 refine Ato ⟨((.l enc_GTurn p0) :: (tu 233 [])), [], 0⟩ ?_
 have hm := h
 unfold m_telltalelaw28_TokenSums at hm
 refine AWP.seq ?_
 refine AWP.text ?_
 refine Wy (.b false) [] (Omv rfl) ?_
 refine Walk.nil ?_
 refine Then.normal ?_
 refine Amk 1 0 ⟨((.l enc_GTurn p0) :: (tp 233 [])), [], 0⟩ ?_
 refine AWP.seq ?_
 refine AWP.seq ?_
 refine AWP.text ?_
 refine Wy (.l enc_GTurn p0) [] (Omv rfl) ?_
 refine Wy (.i ((List.length p0 : Nat) : Int)) [] (Oln rfl) ?_
 refine Wy (.b (decide ((40 : Int) < ((List.length p0 : Nat) : Int)))) [] (Obn rfl (fun _ => hb_gtr (k := .i64))) ?_
 refine Walk.nil ?_
 refine Then.normal ?_
 refine Amk 131073 0 ⟨((.l enc_GTurn p0) :: (tp 16 ((.b (decide ((40 : Int) < ((List.length p0 : Nat) : Int)))) :: (tp 216 [])))), [], 0⟩ ?_
 rcases tf_ (decide ((40 : Int) < ((List.length p0 : Nat) : Int))) with hc17_27 | hc17_27
 ·
  replace hm := cT hc17_27 hm
  refine AWP.if_ true (Eq.trans (by kernel_rfl) (lit_tf (b := decide ((40 : Int) < ((List.length p0 : Nat) : Int))) hc17_27)) ?_
  refine AWP.seq ?_
  refine AWP.text ?_
  obtain ⟨r18_1, hr18_1, hm⟩ := bnd hm
  refine Wy (.b r18_1) [] (Ocf [] [] [] 0 (ok_telltalelaw28_awake  r18_1 hr18_1) (fun a w => Try.call5 a w) rfl trivial) ?_
  refine Wy (.b r18_1) [] (Omv rfl) ?_
  refine Walk.nil ?_
  refine Then.normal ?_
  refine AWP.ret ?_
  refine Then.ret ?_
  obtain rfl := Option.some.inj hm
  exact ret_i []
 ·
  replace hm := cF hc17_27 hm
  refine AWP.if_ false (Eq.trans (by kernel_rfl) (lit_tf (b := decide ((40 : Int) < ((List.length p0 : Nat) : Int))) hc17_27)) ?_
  refine AWP.skip ?_
  refine Then.normal ?_
  refine Amk 1 0 ⟨((.l enc_GTurn p0) :: (tp 233 [])), [], 0⟩ ?_
  refine AWP.seq ?_
  refine AWP.text ?_
  refine Wy (.loc 0 0) [(0, (.box [(.d .nil)]))] (Oal rfl) ?_
  refine Walk.nil ?_
  refine Then.normal ?_
  refine Amk 9 1 ⟨((.l enc_GTurn p0) :: (tp 2 ((.loc 0 0) :: (tp 230 [])))), [(.box [(.d .nil)])], 0⟩ ?_
  refine AWP.seq ?_
  refine AWP.text ?_
  refine Wy (.d .nil) [] (Omv rfl) ?_
  refine Walk.nil ?_
  refine Then.normal ?_
  refine Amk 25 1 ⟨((.l enc_GTurn p0) :: (tp 2 ((.loc 0 0) :: ((.d .nil) :: (tp 229 []))))), [(.box [(.d .nil)])], 0⟩ ?_
  refine AWP.seq ?_
  refine AWP.seq ?_
  refine AWP.text ?_
  refine Wy (.i 0) [] (Omv rfl) ?_
  refine Walk.nil ?_
  refine Then.normal ?_
  refine Amk 57 1 ⟨((.l enc_GTurn p0) :: (tp 2 ((.loc 0 0) :: ((.d .nil) :: ((.i 0) :: (tp 228 [])))))), [(.box [(.d .nil)])], 0⟩ ?_
  refine AWP.block ?_
  refine AWP.loopI (α := Nat × GBook × (List GChange) × Int)
    (fun x => match x with | (fu_2, y3_d_2, y4_2, y5_2) => (⟨((.l enc_GTurn p0) :: (tp 2 ((.loc 0 0) :: ((.l enc_GChange y4_2) :: ((.i y5_2) :: (tp 228 [])))))), [(.box [(.l enc_GLeave_ y3_d_2.L)])], 0⟩ : St))
    (fun x => match x with | (fu_2, y3_d_2, y4_2, y5_2) => m_telltalelaw28_TokenSums_l2 p0 fu_2 y3_d_2 y4_2 y5_2 = some r)
    (fun x => match x with | (fu_2, y3_d_2, y4_2, y5_2) => fu_2) (1152921504606846976, (GBook.mk ([] : List GLeave_)), ([] : List GChange), 0)
    (Weak.toK 57 16 1 [0]) hm ?_
  rintro ⟨fu_2, y3_d_2, y4_2, y5_2⟩ n_2 hm ih_2
  try dsimp only at hm ih_2 ⊢
  cases fu_2 with
  | zero => exact absurd hm (by unfold m_telltalelaw28_TokenSums_l2; simp)
  | succ fu_2 =>
   unfold m_telltalelaw28_TokenSums_l2 at hm
   refine AWP.seq ?_
   refine AWP.seq ?_
   refine AWP.text ?_
   refine Wy (.i y5_2) [] (Omv rfl) ?_
   refine Wy (.l enc_GTurn p0) [] (Omv rfl) ?_
   refine Wy (.i ((List.length p0 : Nat) : Int)) [] (Oln rfl) ?_
   refine Wy (.b (decide (y5_2 < ((List.length p0 : Nat) : Int)))) [] (Obn rfl (fun _ => hb_lss (k := .i64))) ?_
   refine Walk.nil ?_
   refine Then.normal ?_
   refine Amk 4194361 1 ⟨((.l enc_GTurn p0) :: (tp 2 ((.loc 0 0) :: ((.l enc_GChange y4_2) :: ((.i y5_2) :: (tp 16 ((.b (decide (y5_2 < ((List.length p0 : Nat) : Int)))) :: (tp 211 [])))))))), [(.box [(.l enc_GLeave_ y3_d_2.L)])], 0⟩ ?_
   rcases tf_ (decide (y5_2 < ((List.length p0 : Nat) : Int))) with hc22_28 | hc22_28
   ·
    replace hm := cT hc22_28 hm
    refine AWP.if_ true (Eq.trans (by kernel_rfl) (lit_tf (b := decide (y5_2 < ((List.length p0 : Nat) : Int))) hc22_28)) ?_
    refine AWP.skip ?_
    refine Then.normal ?_
    refine Amk 57 1 ⟨((.l enc_GTurn p0) :: (tp 2 ((.loc 0 0) :: ((.l enc_GChange y4_2) :: ((.i y5_2) :: (tp 228 [])))))), [(.box [(.l enc_GLeave_ y3_d_2.L)])], 0⟩ ?_
    refine AWP.seq ?_
    refine AWP.block ?_
    refine AWP.seq ?_
    refine AWP.text ?_
    refine Wy (.agg [(.l enc_GLeave_ y3_d_2.L)]) [] (Old rfl) ?_
    refine Wy (.loc 1 0) [(1, (.box [(.d .nil)]))] (Oal rfl) ?_
    refine Wy (.tup []) [(1, (.box [(.l enc_GLeave_ y3_d_2.L)]))] (Ost rfl) ?_
    refine Wy (.d .nil) [] (Omv rfl) ?_
    refine Wy (.i 0) [] (Omv rfl) ?_
    refine Wy (.i 0) [] (Omv rfl) ?_
    refine Walk.nil ?_
    refine Then.normal ?_
    refine Amk 633 3 ⟨((.l enc_GTurn p0) :: (tp 2 ((.loc 0 0) :: ((.l enc_GChange y4_2) :: ((.i y5_2) :: ((.loc 1 0) :: (tp 2 ((.i 0) :: (tp 224 []))))))))), [(.box [(.l enc_GLeave_ y3_d_2.L)]), (.box [(.l enc_GLeave_ y3_d_2.L)])], 0⟩ ?_
    refine AWP.cutJ (α := GBook × (List GChange) × Int × Int) (fun x => match x with | (y6_d_9, y7_9, y8_9, y9_9) => (⟨((.l enc_GTurn p0) :: (tp 2 ((.loc 0 0) :: ((.l enc_GChange y4_2) :: ((.i y5_2) :: ((.loc 1 0) :: ((.l enc_GChange y7_9) :: ((.i y8_9) :: ((.i y9_9) :: (tp 224 [])))))))))), [(.box [(.l enc_GLeave_ y3_d_2.L)]), (.box [(.l enc_GLeave_ y6_d_9.L)])], 0⟩ : St)) (fun x => match x with | (y6_d_9, y7_9, y8_9, y9_9) => m_telltalelaw28_TokenSums_j9 p0 y3_d_2 y4_2 y5_2 (fun y3_d_2 y4_2 y5_2 => m_telltalelaw28_TokenSums_l2 p0 fu_2 y3_d_2 y4_2 y5_2) y6_d_9 y7_9 y8_9 y9_9 = some r) ?_ (fun J9 => ?_)
    ·
     rintro ⟨y6_d_9, y7_9, y8_9, y9_9⟩ hm
     try dsimp only at hm ⊢
     unfold m_telltalelaw28_TokenSums_j9 at hm
     refine AWP.cutJ (α := Unit) (fun x => match x with | () => (⟨((.l enc_GTurn p0) :: (tp 2 ((.loc 0 0) :: ((.l enc_GChange y4_2) :: ((.i y5_2) :: ((.loc 1 0) :: ((.l enc_GChange y7_9) :: ((.i y8_9) :: ((.i y9_9) :: (tp 224 [])))))))))), [(.box [(.l enc_GLeave_ y3_d_2.L)]), (.box [(.l enc_GLeave_ y6_d_9.L)])], 0⟩ : St)) (fun x => match x with | () => m_telltalelaw28_TokenSums_j11 p0 y4_2 y5_2 y6_d_9 y7_9 y8_9 y9_9 (fun y3_d_2 y4_2 y5_2 => m_telltalelaw28_TokenSums_l2 p0 fu_2 y3_d_2 y4_2 y5_2) = some r) ?_ (fun J11 => ?_)
     ·
      rintro ⟨⟩ hm
      try dsimp only at hm ⊢
      unfold m_telltalelaw28_TokenSums_j11 at hm
      refine AWP.seq ?_
      refine AWP.text ?_
      refine Wy (.l enc_GChange y4_2) [] (Omv rfl) ?_
      refine Wy (.l enc_GChange y7_9) [] (Omv rfl) ?_
      obtain ⟨r98_12, hr98_12, hm⟩ := bnd hm
      refine Wy (.l enc_GChange r98_12) [] (Ocf [] [] [] 0 (ok_tally_Merge y4_2 y7_9 r98_12 hr98_12) (fun a w => Try.call23 a w) rfl trivial) ?_
      refine Wy (.l enc_GChange r98_12) [] (Omv rfl) ?_
      refine Walk.nil ?_
      refine Then.normal ?_
      refine Amk 1913 3 ⟨((.l enc_GTurn p0) :: (tp 2 ((.loc 0 0) :: ((.l enc_GChange y4_2) :: ((.i y5_2) :: ((.loc 1 0) :: (tp 1 ((.i y8_9) :: ((.i y9_9) :: ((.l enc_GChange r98_12) :: (tp 223 []))))))))))), [(.box [(.l enc_GLeave_ y3_d_2.L)]), (.box [(.l enc_GLeave_ y6_d_9.L)])], 0⟩ ?_
      refine AWP.cutJ (α := Unit) (fun x => match x with | () => (⟨((.l enc_GTurn p0) :: (tp 2 ((.loc 0 0) :: ((.l enc_GChange y4_2) :: ((.i y5_2) :: ((.loc 1 0) :: (tp 1 ((.i y8_9) :: ((.i y9_9) :: ((.l enc_GChange r98_12) :: (tp 223 []))))))))))), [(.box [(.l enc_GLeave_ y3_d_2.L)]), (.box [(.l enc_GLeave_ y6_d_9.L)])], 0⟩ : St)) (fun x => match x with | () => m_telltalelaw28_TokenSums_j14 p0 r98_12 y4_2 y5_2 y6_d_9 y8_9 y9_9 (fun y3_d_2 y4_2 y5_2 => m_telltalelaw28_TokenSums_l2 p0 fu_2 y3_d_2 y4_2 y5_2) = some r) ?_ (fun J14 => ?_)
      ·
       rintro ⟨⟩ hm
       try dsimp only at hm ⊢
       unfold m_telltalelaw28_TokenSums_j14 at hm
       refine AWP.seq ?_
       refine AWP.seq ?_
       refine AWP.text ?_
       refine Wy (.i 0) [] (Omv rfl) ?_
       refine Walk.nil ?_
       refine Then.normal ?_
       refine Amk 3961 3 ⟨((.l enc_GTurn p0) :: (tp 2 ((.loc 0 0) :: ((.l enc_GChange y4_2) :: ((.i y5_2) :: ((.loc 1 0) :: (tp 1 ((.i y8_9) :: ((.i y9_9) :: ((.l enc_GChange r98_12) :: ((.i 0) :: (tp 222 [])))))))))))), [(.box [(.l enc_GLeave_ y3_d_2.L)]), (.box [(.l enc_GLeave_ y6_d_9.L)])], 0⟩ ?_
       refine AWP.block ?_
       refine AWP.loopI (α := Nat × Int)
         (fun x => match x with | (fu_15, y11_15) => (⟨((.l enc_GTurn p0) :: (tp 2 ((.loc 0 0) :: ((.l enc_GChange y4_2) :: ((.i y5_2) :: ((.loc 1 0) :: (tp 1 ((.i y8_9) :: ((.i y9_9) :: ((.l enc_GChange r98_12) :: ((.i y11_15) :: (tp 222 [])))))))))))), [(.box [(.l enc_GLeave_ y3_d_2.L)]), (.box [(.l enc_GLeave_ y6_d_9.L)])], 0⟩ : St))
         (fun x => match x with | (fu_15, y11_15) => m_telltalelaw28_TokenSums_l15 p0 r98_12 y4_2 y5_2 y6_d_9 y8_9 y9_9 (fun y3_d_2 y4_2 y5_2 => m_telltalelaw28_TokenSums_l2 p0 fu_2 y3_d_2 y4_2 y5_2) fu_15 y11_15 = some r)
         (fun x => match x with | (fu_15, y11_15) => fu_15) (1152921504606846976, 0)
         (Weak.toK 3961 0 0 [0, 1]) hm ?_
       rintro ⟨fu_15, y11_15⟩ n_15 hm ih_15
       try dsimp only at hm ih_15 ⊢
       cases fu_15 with
       | zero => exact absurd hm (by unfold m_telltalelaw28_TokenSums_l15; simp)
       | succ fu_15 =>
        unfold m_telltalelaw28_TokenSums_l15 at hm
        refine AWP.seq ?_
        refine AWP.seq ?_
        refine AWP.text ?_
        refine Wy (.i y11_15) [] (Omv rfl) ?_
        refine Wy (.b (decide (y11_15 < 4))) [] (Obn rfl (fun _ => hb_lss (k := .i64))) ?_
        refine Walk.nil ?_
        refine Then.normal ?_
        refine Amk 332306998946228968225951765070090105 3 ⟨((.l enc_GTurn p0) :: (tp 2 ((.loc 0 0) :: ((.l enc_GChange y4_2) :: ((.i y5_2) :: ((.loc 1 0) :: (tp 1 ((.i y8_9) :: ((.i y9_9) :: ((.l enc_GChange r98_12) :: ((.i y11_15) :: (tp 106 ((.b (decide (y11_15 < 4))) :: (tp 115 [])))))))))))))), [(.box [(.l enc_GLeave_ y3_d_2.L)]), (.box [(.l enc_GLeave_ y6_d_9.L)])], 0⟩ ?_
        rcases tf_ (decide (y11_15 < 4)) with hc118_29 | hc118_29
        ·
         replace hm := cT hc118_29 hm
         refine AWP.if_ true (Eq.trans (by kernel_rfl) (lit_tf (b := decide (y11_15 < 4)) hc118_29)) ?_
         refine AWP.skip ?_
         refine Then.normal ?_
         refine Amk 3961 3 ⟨((.l enc_GTurn p0) :: (tp 2 ((.loc 0 0) :: ((.l enc_GChange y4_2) :: ((.i y5_2) :: ((.loc 1 0) :: (tp 1 ((.i y8_9) :: ((.i y9_9) :: ((.l enc_GChange r98_12) :: ((.i y11_15) :: (tp 222 [])))))))))))), [(.box [(.l enc_GLeave_ y3_d_2.L)]), (.box [(.l enc_GLeave_ y6_d_9.L)])], 0⟩ ?_
         refine AWP.seq ?_
         refine AWP.block ?_
         refine AWP.cutJ (α := Unit) (fun x => match x with | () => (⟨((.l enc_GTurn p0) :: (tp 2 ((.loc 0 0) :: ((.l enc_GChange y4_2) :: ((.i y5_2) :: ((.loc 1 0) :: (tp 1 ((.i y8_9) :: ((.i y9_9) :: ((.l enc_GChange r98_12) :: ((.i y11_15) :: (tp 148 ((.b false) :: (tp 73 [])))))))))))))), [(.box [(.l enc_GLeave_ y3_d_2.L)]), (.box [(.l enc_GLeave_ y6_d_9.L)])], 0⟩ : St)) (fun x => match x with | () => m_telltalelaw28_TokenSums_j17 y11_15 (fun y11_15 => m_telltalelaw28_TokenSums_l15 p0 r98_12 y4_2 y5_2 y6_d_9 y8_9 y9_9 (fun y3_d_2 y4_2 y5_2 => m_telltalelaw28_TokenSums_l2 p0 fu_2 y3_d_2 y4_2 y5_2) fu_15 y11_15) = some r) ?_ (fun J17 => ?_)
         ·
          rintro ⟨⟩ hm
          try dsimp only at hm ⊢
          unfold m_telltalelaw28_TokenSums_j17 at hm
          refine AWP.if_ false (by kernel_rfl) ?_
          refine AWP.skip ?_
          refine InBlock.normal ?_
          refine Then.normal ?_
          refine Amk 3961 3 ⟨((.l enc_GTurn p0) :: (tp 2 ((.loc 0 0) :: ((.l enc_GChange y4_2) :: ((.i y5_2) :: ((.loc 1 0) :: (tp 1 ((.i y8_9) :: ((.i y9_9) :: ((.l enc_GChange r98_12) :: ((.i y11_15) :: (tp 222 [])))))))))))), [(.box [(.l enc_GLeave_ y3_d_2.L)]), (.box [(.l enc_GLeave_ y6_d_9.L)])], 0⟩ ?_
          refine AWP.text ?_
          refine Wy (.i y11_15) [] (Omv rfl) ?_
          refine Wy (.i (IntKind.i64.wrap (y11_15 + 1))) [] (Obn rfl (fun _ => hb_add (k := .i64))) ?_
          refine Wy (.i (IntKind.i64.wrap (y11_15 + 1))) [] (Omv rfl) ?_
          refine Walk.nil ?_
          refine RoundK.normal ?_
          exact Rounds.weak (Weak.toK 3961 0 0 [0, 1]) (ih_15 (fu_15, (IntKind.i64.wrap (y11_15 + 1))) hm (Nat.lt_succ_self _))
         refine AWP.seq ?_
         refine Adr ?_
         refine Wy (.i y8_9) [] (Omv rfl) ?_
         refine Wy (.b (decide (y8_9 = 0))) [] (Obn rfl (fun _ => hb_eql (k := .i64))) ?_
         rcases tf_ (decide (y8_9 = 0)) with hq123_16 | hq123_16
         ·
          replace hm := cT hq123_16 hm
          refine Wy (.b true) [] (Ocs (lit_tf (b := decide (y8_9 = 0)) hq123_16) (Omv rfl)) ?_
          refine Wy (.l enc_GTurn p0) [] (Omv rfl) ?_
          refine Wy (.i y5_2) [] (Omv rfl) ?_
          obtain ⟨x126_16, hx126_16, hm⟩ := bnd hm
          obtain ⟨hx126_16i, hx126_16g⟩ := geti_some hx126_16
          refine Wy (.d (.ref (List.drop ((Int.toNat y5_2) * 3) (flatD enc_GTurn p0)))) [] (Oia rfl enc_GTurn_len hx126_16i hx126_16g) ?_
          refine Wy (.d (.ref (List.drop ((Int.toNat y5_2) * 3) (flatD enc_GTurn p0)))) [] (Ofa rfl) ?_
          refine Wy (.y x126_16.Kind) [] (Lf1 rfl enc_GTurn_len hx126_16g) ?_
          refine Wy (.b (decide (((x126_16.Kind.toNat : Nat) : Int) = 0))) [] (Ocs (by kernel_rfl) (op_bin rfl (a1 := .int .u8 ((x126_16.Kind.toNat : Nat) : Int)) (a2 := .int .u8 0) (by kernel_rfl) (by kernel_rfl) (fun _ => hb_eql))) ?_
          refine Wy (.b (decide (((x126_16.Kind.toNat : Nat) : Int) = 0))) [] (OpT rfl) ?_
          rcases tf_ (decide (((x126_16.Kind.toNat : Nat) : Int) = 0)) with hq131_16 | hq131_16
          ·
           replace hm := cT hq131_16 hm
           refine Wy (.b true) [] (Ocs (lit_tf (b := decide (((x126_16.Kind.toNat : Nat) : Int) = 0)) hq131_16) (Omv rfl)) ?_
           refine Wy (.l enc_GChange r98_12) [] (Omv rfl) ?_
           refine Wy (.i y11_15) [] (Omv rfl) ?_
           obtain ⟨r134_16, hr134_16, hm⟩ := bnd hm
           refine Wy (.i r134_16) [] (Ocf [] [] [] 0 (ok_front_Of r98_12 y11_15 r134_16 hr134_16) (fun a w => Try.call26 a w) rfl trivial) ?_
           refine Wy (.l enc_GChange y4_2) [] (Omv rfl) ?_
           refine Wy (.i y11_15) [] (Omv rfl) ?_
           obtain ⟨r137_16, hr137_16, hm⟩ := bnd hm
           refine Wy (.i r137_16) [] (Ocf [] [] [] 0 (ok_front_Of y4_2 y11_15 r137_16 hr137_16) (fun a w => Try.call26 a w) rfl trivial) ?_
           refine Wy (.b (decide (r134_16 < r137_16))) [] (Obn rfl (fun _ => hb_lss (k := .i64))) ?_
           refine Wy (.b (decide (r134_16 < r137_16))) [] (OpT rfl) ?_
           rcases tf_ (decide (r134_16 < r137_16)) with hq140_16 | hq140_16
           ·
            replace hm := cT hq140_16 hm
            refine Wy (.b true) [] (Ocs (lit_tf (b := decide (r134_16 < r137_16)) hq140_16) (Omv rfl)) ?_
            refine Wy (.l enc_GChange r98_12) [] (Omv rfl) ?_
            refine Wy (.i y11_15) [] (Omv rfl) ?_
            obtain ⟨r143_16, hr143_16, hm⟩ := bnd hm
            refine Wy (.i r143_16) [] (Ocf [] [] [] 0 (ok_front_Of r98_12 y11_15 r143_16 hr143_16) (fun a w => Try.call26 a w) rfl trivial) ?_
            refine Wy (.l enc_GTurn p0) [] (Omv rfl) ?_
            refine Wy (.i y5_2) [] (Omv rfl) ?_
            obtain ⟨x146_16, hx146_16, hm⟩ := bnd hm
            obtain ⟨hx146_16i, hx146_16g⟩ := geti_some hx146_16
            refine Wy (.d (.ref (List.drop ((Int.toNat y5_2) * 3) (flatD enc_GTurn p0)))) [] (Oia rfl enc_GTurn_len hx146_16i hx146_16g) ?_
            refine Wy (.d (.ref (List.drop 2 (List.drop ((Int.toNat y5_2) * 3) (flatD enc_GTurn p0))))) [] (Ofa rfl) ?_
            refine Wy (.i x146_16.B) [] (Lfk1 2 rfl enc_GTurn_len hx146_16g) ?_
            refine Wy (.b (decide (r143_16 ≠ x146_16.B))) [] (Obn rfl (fun _ => hb_neq (k := .i64))) ?_
            rcases tf_ (decide (r143_16 ≠ x146_16.B)) with hq150_16 | hq150_16
            ·
             replace hm := cT hq150_16 hm
             refine Wy (.b true) [] (Ocs (lit_tf (b := decide (r143_16 ≠ x146_16.B)) hq150_16) (Omv rfl)) ?_
             refine Wn ?_
             refine Wn ?_
             refine Wn ?_
             refine Wn ?_
             refine Wn ?_
             refine Wn ?_
             refine Wn ?_
             refine Wn ?_
             refine Wy (.b true) [] (OpT rfl) ?_
             refine Wy (.b true) [] (OpT rfl) ?_
             refine Wdr ?_
             refine Then.normal ?_
             refine Amk 1461501637330902918203684832716283019655932546937 3 ⟨((.l enc_GTurn p0) :: (tp 2 ((.loc 0 0) :: ((.l enc_GChange y4_2) :: ((.i y5_2) :: ((.loc 1 0) :: (tp 1 ((.i y8_9) :: ((.i y9_9) :: ((.l enc_GChange r98_12) :: ((.i y11_15) :: (tp 148 ((.b true) :: (tp 73 [])))))))))))))), [(.box [(.l enc_GLeave_ y3_d_2.L)]), (.box [(.l enc_GLeave_ y6_d_9.L)])], 0⟩ ?_
             refine AWP.if_ true (by kernel_rfl) ?_
             refine AWP.seq ?_
             refine AWP.text ?_
             refine Wy (.b false) [] (Omv rfl) ?_
             refine Walk.nil ?_
             refine Then.normal ?_
             refine AWP.ret ?_
             refine InBlock.ret ?_
             refine Then.ret ?_
             refine RoundK.ret ?_
             refine InBlock.ret ?_
             refine Then.ret ?_
             refine InBlock.ret ?_
             refine Then.ret ?_
             refine RoundK.ret ?_
             refine InBlock.ret ?_
             refine Then.ret ?_
             obtain rfl := Option.some.inj hm
             exact ret_i []
            ·
             replace hm := cF hq150_16 hm
             refine Wy (.b false) [] (Ocs (lit_tf (b := decide (r143_16 ≠ x146_16.B)) hq150_16) (Omv rfl)) ?_
             refine Wy (.l enc_GTurn p0) [] (Omv rfl) ?_
             refine Wy (.i y5_2) [] (Omv rfl) ?_
             obtain ⟨x153_16, hx153_16, hm⟩ := bnd hm
             obtain ⟨hx153_16i, hx153_16g⟩ := geti_some hx153_16
             refine Wy (.d (.ref (List.drop ((Int.toNat y5_2) * 3) (flatD enc_GTurn p0)))) [] (Oia rfl enc_GTurn_len hx153_16i hx153_16g) ?_
             refine Wy (.d (.ref (List.drop 1 (List.drop ((Int.toNat y5_2) * 3) (flatD enc_GTurn p0))))) [] (Ofa rfl) ?_
             refine Wy (.i x153_16.A) [] (Lfk1 1 rfl enc_GTurn_len hx153_16g) ?_
             refine Wy (.i y11_15) [] (Omv rfl) ?_
             obtain ⟨r157_16, hr157_16, hm⟩ := bnd hm
             refine Wy (.b r157_16) [] (Ocf [] [] [] 0 (ok_front_Leads x153_16.A y11_15 r157_16 hr157_16) (fun a w => Try.call27 a w) rfl trivial) ?_
             refine Wy (.b (!r157_16)) [] (Ocs (by kernel_rfl) (op_un rfl (a1 := .bool r157_16) (by kernel_rfl) (fun _ => hu_not))) ?_
             refine Wy (.b (!r157_16)) [] (OpF rfl) ?_
             refine Wy (.b (!r157_16)) [] (OpT rfl) ?_
             refine Wdr ?_
             refine Then.normal ?_
             refine Amk 1461501637330902918203684832716283019655932546937 3 ⟨((.l enc_GTurn p0) :: (tp 2 ((.loc 0 0) :: ((.l enc_GChange y4_2) :: ((.i y5_2) :: ((.loc 1 0) :: (tp 1 ((.i y8_9) :: ((.i y9_9) :: ((.l enc_GChange r98_12) :: ((.i y11_15) :: (tp 148 ((.b (!r157_16)) :: (tp 73 [])))))))))))))), [(.box [(.l enc_GLeave_ y3_d_2.L)]), (.box [(.l enc_GLeave_ y6_d_9.L)])], 0⟩ ?_
             rcases tf_ (!r157_16) with hc160_30 | hc160_30
             ·
              replace hm := cT hc160_30 hm
              refine AWP.if_ true (Eq.trans (by kernel_rfl) (lit_tf (b := (!r157_16)) hc160_30)) ?_
              refine AWP.seq ?_
              refine AWP.text ?_
              refine Wy (.b false) [] (Omv rfl) ?_
              refine Walk.nil ?_
              refine Then.normal ?_
              refine AWP.ret ?_
              refine InBlock.ret ?_
              refine Then.ret ?_
              refine RoundK.ret ?_
              refine InBlock.ret ?_
              refine Then.ret ?_
              refine InBlock.ret ?_
              refine Then.ret ?_
              refine RoundK.ret ?_
              refine InBlock.ret ?_
              refine Then.ret ?_
              obtain rfl := Option.some.inj hm
              exact ret_i []
             ·
              replace hm := cF hc160_30 hm
              refine AWP.if_ false (Eq.trans (by kernel_rfl) (lit_tf (b := (!r157_16)) hc160_30)) ?_
              refine AWP.skip ?_
              refine InBlock.normal ?_
              refine Then.normal ?_
              refine Amk 3961 3 ⟨((.l enc_GTurn p0) :: (tp 2 ((.loc 0 0) :: ((.l enc_GChange y4_2) :: ((.i y5_2) :: ((.loc 1 0) :: (tp 1 ((.i y8_9) :: ((.i y9_9) :: ((.l enc_GChange r98_12) :: ((.i y11_15) :: (tp 222 [])))))))))))), [(.box [(.l enc_GLeave_ y3_d_2.L)]), (.box [(.l enc_GLeave_ y6_d_9.L)])], 0⟩ ?_
              refine AWP.text ?_
              refine Wy (.i y11_15) [] (Omv rfl) ?_
              refine Wy (.i (IntKind.i64.wrap (y11_15 + 1))) [] (Obn rfl (fun _ => hb_add (k := .i64))) ?_
              refine Wy (.i (IntKind.i64.wrap (y11_15 + 1))) [] (Omv rfl) ?_
              refine Walk.nil ?_
              refine RoundK.normal ?_
              exact Rounds.weak (Weak.toK 3961 0 0 [0, 1]) (ih_15 (fu_15, (IntKind.i64.wrap (y11_15 + 1))) hm (Nat.lt_succ_self _))
           ·
            replace hm := cF hq140_16 hm
            refine Wy (.b false) [] (Ocs (lit_tf (b := decide (r134_16 < r137_16)) hq140_16) (Omv rfl)) ?_
            refine Wn ?_
            refine Wn ?_
            refine Wn ?_
            refine Wn ?_
            refine Wn ?_
            refine Wn ?_
            refine Wn ?_
            refine Wn ?_
            refine Wn ?_
            refine Wn ?_
            refine Wn ?_
            refine Wn ?_
            refine Wn ?_
            refine Wn ?_
            refine Wn ?_
            refine Wn ?_
            refine Wn ?_
            refine Wn ?_
            refine Wn ?_
            refine Wy (.b false) [] (OpF rfl) ?_
            refine Wdr ?_
            refine Then.normal ?_
            exact AWP.weak (Weak.toK 1461501637330902918203684832716283019655932546937 0 0 [0, 1]) (J17 () hm)
          ·
           replace hm := cF hq131_16 hm
           refine Wy (.b false) [] (Ocs (lit_tf (b := decide (((x126_16.Kind.toNat : Nat) : Int) = 0)) hq131_16) (Omv rfl)) ?_
           refine Wn ?_
           refine Wn ?_
           refine Wn ?_
           refine Wn ?_
           refine Wn ?_
           refine Wn ?_
           refine Wn ?_
           refine Wy (.b false) [] (OpF rfl) ?_
           refine Wy (.b false) [] (Omv rfl) ?_
           refine Wn ?_
           refine Wn ?_
           refine Wn ?_
           refine Wn ?_
           refine Wn ?_
           refine Wn ?_
           refine Wn ?_
           refine Wn ?_
           refine Wn ?_
           refine Wn ?_
           refine Wn ?_
           refine Wn ?_
           refine Wn ?_
           refine Wn ?_
           refine Wn ?_
           refine Wn ?_
           refine Wn ?_
           refine Wn ?_
           refine Wn ?_
           refine Wy (.b false) [] (OpF rfl) ?_
           refine Wdr ?_
           refine Then.normal ?_
           exact AWP.weak (Weak.toK 1461501637330902918203684832716283019655932546937 0 0 [0, 1]) (J17 () hm)
         ·
          replace hm := cF hq123_16 hm
          refine Wy (.b false) [] (Ocs (lit_tf (b := decide (y8_9 = 0)) hq123_16) (Omv rfl)) ?_
          refine Wn ?_
          refine Wn ?_
          refine Wn ?_
          refine Wn ?_
          refine Wn ?_
          refine Wn ?_
          refine Wy (.b false) [] (OpF rfl) ?_
          refine Wy (.b false) [] (Omv rfl) ?_
          refine Wn ?_
          refine Wn ?_
          refine Wn ?_
          refine Wn ?_
          refine Wn ?_
          refine Wn ?_
          refine Wn ?_
          refine Wy (.b false) [] (OpF rfl) ?_
          refine Wy (.b false) [] (Omv rfl) ?_
          refine Wn ?_
          refine Wn ?_
          refine Wn ?_
          refine Wn ?_
          refine Wn ?_
          refine Wn ?_
          refine Wn ?_
          refine Wn ?_
          refine Wn ?_
          refine Wn ?_
          refine Wn ?_
          refine Wn ?_
          refine Wn ?_
          refine Wn ?_
          refine Wn ?_
          refine Wn ?_
          refine Wn ?_
          refine Wn ?_
          refine Wn ?_
          refine Wy (.b false) [] (OpF rfl) ?_
          refine Wdr ?_
          refine Then.normal ?_
          exact AWP.weak (Weak.toK 1461501637330902918203684832716283019655932546937 0 0 [0, 1]) (J17 () hm)
        ·
         replace hm := cF hc118_29 hm
         refine AWP.if_ false (Eq.trans (by kernel_rfl) (lit_tf (b := decide (y11_15 < 4)) hc118_29)) ?_
         refine AWP.exit ?_
         refine Then.exit ?_
         refine RoundK.exit ?_
         refine InBlock.same ?_
         refine Then.normal ?_
         refine Amk 1897 3 ⟨((.l enc_GTurn p0) :: (tp 2 ((.loc 0 0) :: (tp 1 ((.i y5_2) :: ((.loc 1 0) :: (tp 1 ((.i y8_9) :: ((.i y9_9) :: ((.l enc_GChange r98_12) :: (tp 223 []))))))))))), [(.box [(.l enc_GLeave_ y3_d_2.L)]), (.box [(.l enc_GLeave_ y6_d_9.L)])], 0⟩ ?_
         refine AWP.cutJ (α := Unit) (fun x => match x with | () => (⟨((.l enc_GTurn p0) :: (tp 2 ((.loc 0 0) :: (tp 1 ((.i y5_2) :: ((.loc 1 0) :: (tp 3 ((.l enc_GChange r98_12) :: (tp 223 []))))))))), [(.box [(.l enc_GLeave_ y3_d_2.L)]), (.box [(.l enc_GLeave_ y6_d_9.L)])], 0⟩ : St)) (fun x => match x with | () => m_telltalelaw28_TokenSums_j22 r98_12 y5_2 y6_d_9 (fun y3_d_2 y4_2 y5_2 => m_telltalelaw28_TokenSums_l2 p0 fu_2 y3_d_2 y4_2 y5_2) = some r) ?_ (fun J22 => ?_)
         ·
          rintro ⟨⟩ hm
          try dsimp only at hm ⊢
          unfold m_telltalelaw28_TokenSums_j22 at hm
          refine AWP.seq ?_
          refine AWP.seq ?_
          refine AWP.text ?_
          refine Wy (.i 0) [] (Omv rfl) ?_
          refine Walk.nil ?_
          refine Then.normal ?_
          refine Amk 17513 3 ⟨((.l enc_GTurn p0) :: (tp 2 ((.loc 0 0) :: (tp 1 ((.i y5_2) :: ((.loc 1 0) :: (tp 3 ((.l enc_GChange r98_12) :: (tp 3 ((.i 0) :: (tp 219 []))))))))))), [(.box [(.l enc_GLeave_ y3_d_2.L)]), (.box [(.l enc_GLeave_ y6_d_9.L)])], 0⟩ ?_
          refine AWP.block ?_
          refine AWP.loopI (α := Nat × Int)
            (fun x => match x with | (fu_23, y14_23) => (⟨((.l enc_GTurn p0) :: (tp 2 ((.loc 0 0) :: (tp 1 ((.i y5_2) :: ((.loc 1 0) :: (tp 3 ((.l enc_GChange r98_12) :: (tp 3 ((.i y14_23) :: (tp 219 []))))))))))), [(.box [(.l enc_GLeave_ y3_d_2.L)]), (.box [(.l enc_GLeave_ y6_d_9.L)])], 0⟩ : St))
            (fun x => match x with | (fu_23, y14_23) => m_telltalelaw28_TokenSums_l23 r98_12 y5_2 y6_d_9 (fun y3_d_2 y4_2 y5_2 => m_telltalelaw28_TokenSums_l2 p0 fu_2 y3_d_2 y4_2 y5_2) fu_23 y14_23 = some r)
            (fun x => match x with | (fu_23, y14_23) => fu_23) (1152921504606846976, 0)
            (Weak.toK 17513 0 0 [0, 1]) hm ?_
          rintro ⟨fu_23, y14_23⟩ n_23 hm ih_23
          try dsimp only at hm ih_23 ⊢
          cases fu_23 with
          | zero => exact absurd hm (by unfold m_telltalelaw28_TokenSums_l23; simp)
          | succ fu_23 =>
           unfold m_telltalelaw28_TokenSums_l23 at hm
           refine AWP.seq ?_
           refine AWP.seq ?_
           refine AWP.text ?_
           refine Wy (.i y14_23) [] (Omv rfl) ?_
           refine Wy (.l enc_GChange r98_12) [] (Omv rfl) ?_
           refine Wy (.i ((List.length r98_12 : Nat) : Int)) [] (Oln rfl) ?_
           refine Wy (.b (decide (y14_23 < ((List.length r98_12 : Nat) : Int)))) [] (Obn rfl (fun _ => hb_lss (k := .i64))) ?_
           refine Walk.nil ?_
           refine Then.normal ?_
           refine Amk 6739986666787659948666753771754907668409286105635143120275902579817 3 ⟨((.l enc_GTurn p0) :: (tp 2 ((.loc 0 0) :: (tp 1 ((.i y5_2) :: ((.loc 1 0) :: (tp 3 ((.l enc_GChange r98_12) :: (tp 3 ((.i y14_23) :: (tp 207 ((.b (decide (y14_23 < ((List.length r98_12 : Nat) : Int)))) :: (tp 11 []))))))))))))), [(.box [(.l enc_GLeave_ y3_d_2.L)]), (.box [(.l enc_GLeave_ y6_d_9.L)])], 0⟩ ?_
           rcases tf_ (decide (y14_23 < ((List.length r98_12 : Nat) : Int))) with hc222_31 | hc222_31
           ·
            replace hm := cT hc222_31 hm
            refine AWP.if_ true (Eq.trans (by kernel_rfl) (lit_tf (b := decide (y14_23 < ((List.length r98_12 : Nat) : Int))) hc222_31)) ?_
            refine AWP.skip ?_
            refine Then.normal ?_
            refine Amk 17513 3 ⟨((.l enc_GTurn p0) :: (tp 2 ((.loc 0 0) :: (tp 1 ((.i y5_2) :: ((.loc 1 0) :: (tp 3 ((.l enc_GChange r98_12) :: (tp 3 ((.i y14_23) :: (tp 219 []))))))))))), [(.box [(.l enc_GLeave_ y3_d_2.L)]), (.box [(.l enc_GLeave_ y6_d_9.L)])], 0⟩ ?_
            refine AWP.seq ?_
            refine AWP.block ?_
            refine AWP.seq ?_
            refine AWP.text ?_
            refine Wy (.l enc_GChange r98_12) [] (Omv rfl) ?_
            refine Wy (.i y14_23) [] (Omv rfl) ?_
            obtain ⟨x227_25, hx227_25, hm⟩ := bnd hm
            obtain ⟨hx227_25i, hx227_25g⟩ := geti_some hx227_25
            refine Wy (.d (.ref (List.drop ((Int.toNat y14_23) * 3) (flatD enc_GChange r98_12)))) [] (Oia rfl enc_GChange_len hx227_25i hx227_25g) ?_
            refine Wy (.d (.ref (List.drop 2 (List.drop ((Int.toNat y14_23) * 3) (flatD enc_GChange r98_12))))) [] (Ofa rfl) ?_
            refine Wy (.i x227_25.N) [] (Lfk1 2 rfl enc_GChange_len hx227_25g) ?_
            refine Wy (.b (decide (x227_25.N ≤ 0))) [] (Obn rfl (fun _ => hb_leq (k := .i64))) ?_
            refine Walk.nil ?_
            refine Then.normal ?_
            refine Amk 1725436586697640946858688965569256363112777243042596638790631055967337 3 ⟨((.l enc_GTurn p0) :: (tp 2 ((.loc 0 0) :: (tp 1 ((.i y5_2) :: ((.loc 1 0) :: (tp 3 ((.l enc_GChange r98_12) :: (tp 3 ((.i y14_23) :: (tp 215 ((.b (decide (x227_25.N ≤ 0))) :: (tp 3 []))))))))))))), [(.box [(.l enc_GLeave_ y3_d_2.L)]), (.box [(.l enc_GLeave_ y6_d_9.L)])], 0⟩ ?_
            rcases tf_ (decide (x227_25.N ≤ 0)) with hc230_32 | hc230_32
            ·
             replace hm := cT hc230_32 hm
             refine AWP.if_ true (Eq.trans (by kernel_rfl) (lit_tf (b := decide (x227_25.N ≤ 0)) hc230_32)) ?_
             refine AWP.seq ?_
             refine AWP.text ?_
             refine Wy (.b false) [] (Omv rfl) ?_
             refine Walk.nil ?_
             refine Then.normal ?_
             refine AWP.ret ?_
             refine InBlock.ret ?_
             refine Then.ret ?_
             refine RoundK.ret ?_
             refine InBlock.ret ?_
             refine Then.ret ?_
             refine InBlock.ret ?_
             refine Then.ret ?_
             refine RoundK.ret ?_
             refine InBlock.ret ?_
             refine Then.ret ?_
             obtain rfl := Option.some.inj hm
             exact ret_i []
            ·
             replace hm := cF hc230_32 hm
             refine AWP.if_ false (Eq.trans (by kernel_rfl) (lit_tf (b := decide (x227_25.N ≤ 0)) hc230_32)) ?_
             refine AWP.skip ?_
             refine InBlock.normal ?_
             refine Then.normal ?_
             refine Amk 17513 3 ⟨((.l enc_GTurn p0) :: (tp 2 ((.loc 0 0) :: (tp 1 ((.i y5_2) :: ((.loc 1 0) :: (tp 3 ((.l enc_GChange r98_12) :: (tp 3 ((.i y14_23) :: (tp 219 []))))))))))), [(.box [(.l enc_GLeave_ y3_d_2.L)]), (.box [(.l enc_GLeave_ y6_d_9.L)])], 0⟩ ?_
             refine AWP.text ?_
             refine Wy (.i y14_23) [] (Omv rfl) ?_
             refine Wy (.i (IntKind.i64.wrap (y14_23 + 1))) [] (Obn rfl (fun _ => hb_add (k := .i64))) ?_
             refine Wy (.i (IntKind.i64.wrap (y14_23 + 1))) [] (Omv rfl) ?_
             refine Walk.nil ?_
             refine RoundK.normal ?_
             exact Rounds.weak (Weak.toK 17513 0 0 [0, 1]) (ih_23 (fu_23, (IntKind.i64.wrap (y14_23 + 1))) hm (Nat.lt_succ_self _))
           ·
            replace hm := cF hc222_31 hm
            refine AWP.if_ false (Eq.trans (by kernel_rfl) (lit_tf (b := decide (y14_23 < ((List.length r98_12 : Nat) : Int))) hc222_31)) ?_
            refine AWP.exit ?_
            refine Then.exit ?_
            refine RoundK.exit ?_
            refine InBlock.same ?_
            refine Then.normal ?_
            refine Amk 1129 3 ⟨((.l enc_GTurn p0) :: (tp 2 ((.loc 0 0) :: (tp 1 ((.i y5_2) :: ((.loc 1 0) :: (tp 3 ((.l enc_GChange r98_12) :: (tp 223 []))))))))), [(.box [(.l enc_GLeave_ y3_d_2.L)]), (.box [(.l enc_GLeave_ y6_d_9.L)])], 0⟩ ?_
            refine AWP.text ?_
            refine Wy (.agg [(.l enc_GLeave_ y6_d_9.L)]) [] (Old rfl) ?_
            refine Wy (.l enc_GChange r98_12) [] (Omv rfl) ?_
            refine Wy (.tup []) [(0, (.box [(.l enc_GLeave_ y6_d_9.L)]))] (Ost rfl) ?_
            refine Wy (.l enc_GChange r98_12) [] (Omv rfl) ?_
            refine Walk.nil ?_
            refine InBlock.normal ?_
            refine Then.normal ?_
            refine Amk 57 1 ⟨((.l enc_GTurn p0) :: (tp 2 ((.loc 0 0) :: ((.l enc_GChange r98_12) :: ((.i y5_2) :: (tp 228 [])))))), [(.box [(.l enc_GLeave_ y6_d_9.L)]), .gone], 0⟩ ?_
            refine AWP.text ?_
            refine Wy (.i y5_2) [] (Omv rfl) ?_
            refine Wy (.i (IntKind.i64.wrap (y5_2 + 1))) [] (Obn rfl (fun _ => hb_add (k := .i64))) ?_
            refine Wy (.i (IntKind.i64.wrap (y5_2 + 1))) [] (Omv rfl) ?_
            refine Walk.nil ?_
            refine RoundK.normal ?_
            exact Rounds.weak (Weak.toK 57 0 0 [0]) (ih_2 (fu_2, y6_d_9, r98_12, (IntKind.i64.wrap (y5_2 + 1))) hm (Nat.lt_succ_self _))
         refine AWP.seq ?_
         refine AWP.seq ?_
         refine AWP.text ?_
         refine Wy (.agg [(.l enc_GLeave_ y6_d_9.L)]) [] (Old rfl) ?_
         refine Wy (.i y9_9) [] (Omv rfl) ?_
         obtain ⟨r164_18, hr164_18, hm⟩ := bnd hm
         refine Wy (.tup [(.agg [(.i r164_18.1.Point.Loc), (.i r164_18.1.Point.Time), (.b r164_18.1.Held)]), (.b r164_18.2)]) [] (Ocf [] [] [] 0 (ok_token_Book_Get y6_d_9 y9_9 r164_18 hr164_18) (fun a w => Try.call13 a w) rfl trivial) ?_
         refine Wy (.tup [(.agg [(.i r164_18.1.Point.Loc), (.i r164_18.1.Point.Time), (.b r164_18.1.Held)]), (.b r164_18.2)]) [] (Omv rfl) ?_
         refine Wy (.agg [(.i r164_18.1.Point.Loc), (.i r164_18.1.Point.Time), (.b r164_18.1.Held)]) [] (Oex rfl) ?_
         refine Wy (.b r164_18.2) [] (Oex rfl) ?_
         refine Wy (.loc 2 0) [(2, (.box [(.i 0), (.i 0), (.b false)]))] (Oal rfl) ?_
         refine Wy (.tup []) [(2, (.box [(.i r164_18.1.Point.Loc), (.i r164_18.1.Point.Time), (.b r164_18.1.Held)]))] (Ost rfl) ?_
         refine Wy (.b r164_18.2) [] (Omv rfl) ?_
         refine Walk.nil ?_
         refine Then.normal ?_
         refine Amk 13673 7 ⟨((.l enc_GTurn p0) :: (tp 2 ((.loc 0 0) :: (tp 1 ((.i y5_2) :: ((.loc 1 0) :: (tp 1 ((.i y8_9) :: (tp 1 ((.l enc_GChange r98_12) :: (tp 1 ((.loc 2 0) :: ((.b r164_18.2) :: (tp 220 [])))))))))))))), [(.box [(.l enc_GLeave_ y3_d_2.L)]), (.box [(.l enc_GLeave_ y6_d_9.L)]), (.box [(.i r164_18.1.Point.Loc), (.i r164_18.1.Point.Time), (.b r164_18.1.Held)])], 0⟩ ?_
         refine AWP.cutJ (α := Unit) (fun x => match x with | () => (⟨((.l enc_GTurn p0) :: (tp 2 ((.loc 0 0) :: (tp 1 ((.i y5_2) :: ((.loc 1 0) :: (tp 3 ((.l enc_GChange r98_12) :: (tp 207 ((.b true) :: (tp 15 []))))))))))), [(.box [(.l enc_GLeave_ y3_d_2.L)]), (.box [(.l enc_GLeave_ y6_d_9.L)])], 0⟩ : St)) (fun x => match x with | () => m_telltalelaw28_TokenSums_j20  = some r) ?_ (fun J20 => ?_)
         ·
          rintro ⟨⟩ hm
          try dsimp only at hm ⊢
          unfold m_telltalelaw28_TokenSums_j20 at hm
          refine AWP.if_ true (by kernel_rfl) ?_
          refine AWP.seq ?_
          refine AWP.text ?_
          refine Wy (.b false) [] (Omv rfl) ?_
          refine Walk.nil ?_
          refine Then.normal ?_
          refine AWP.ret ?_
          refine Then.ret ?_
          refine InBlock.ret ?_
          refine Then.ret ?_
          refine RoundK.ret ?_
          refine InBlock.ret ?_
          refine Then.ret ?_
          obtain rfl := Option.some.inj hm
          exact ret_i []
         refine AWP.cutJ (α := Unit) (fun x => match x with | () => (⟨((.l enc_GTurn p0) :: (tp 2 ((.loc 0 0) :: (tp 1 ((.i y5_2) :: ((.loc 1 0) :: (tp 3 ((.l enc_GChange r98_12) :: (tp 207 ((.b false) :: (tp 15 []))))))))))), [(.box [(.l enc_GLeave_ y3_d_2.L)]), (.box [(.l enc_GLeave_ y6_d_9.L)])], 0⟩ : St)) (fun x => match x with | () => m_telltalelaw28_TokenSums_j21 r98_12 y5_2 y6_d_9 (fun y3_d_2 y4_2 y5_2 => m_telltalelaw28_TokenSums_l2 p0 fu_2 y3_d_2 y4_2 y5_2) = some r) ?_ (fun J21 => ?_)
         ·
          rintro ⟨⟩ hm
          try dsimp only at hm ⊢
          unfold m_telltalelaw28_TokenSums_j21 at hm
          refine AWP.if_ false (by kernel_rfl) ?_
          refine AWP.skip ?_
          refine Then.normal ?_
          exact AWP.weak (Weak.toK 1129 0 0 [0, 1]) (J22 () hm)
         refine AWP.seq ?_
         refine Adr ?_
         refine Wy (.i y8_9) [] (Omv rfl) ?_
         refine Wy (.b (decide (y8_9 = 0))) [] (Obn rfl (fun _ => hb_eql (k := .i64))) ?_
         rcases tf_ (decide (y8_9 = 0)) with hq169_19 | hq169_19
         ·
          replace hm := cT hq169_19 hm
          refine Wy (.b true) [] (Ocs (lit_tf (b := decide (y8_9 = 0)) hq169_19) (Omv rfl)) ?_
          refine Wy (.l enc_GTurn p0) [] (Omv rfl) ?_
          refine Wy (.i y5_2) [] (Omv rfl) ?_
          obtain ⟨x172_19, hx172_19, hm⟩ := bnd hm
          obtain ⟨hx172_19i, hx172_19g⟩ := geti_some hx172_19
          refine Wy (.d (.ref (List.drop ((Int.toNat y5_2) * 3) (flatD enc_GTurn p0)))) [] (Oia rfl enc_GTurn_len hx172_19i hx172_19g) ?_
          refine Wy (.d (.ref (List.drop ((Int.toNat y5_2) * 3) (flatD enc_GTurn p0)))) [] (Ofa rfl) ?_
          refine Wy (.y x172_19.Kind) [] (Lf1 rfl enc_GTurn_len hx172_19g) ?_
          refine Wy (.b (decide (((x172_19.Kind.toNat : Nat) : Int) = 0))) [] (Ocs (by kernel_rfl) (op_bin rfl (a1 := .int .u8 ((x172_19.Kind.toNat : Nat) : Int)) (a2 := .int .u8 0) (by kernel_rfl) (by kernel_rfl) (fun _ => hb_eql))) ?_
          refine Wy (.b (decide (((x172_19.Kind.toNat : Nat) : Int) = 0))) [] (OpT rfl) ?_
          rcases tf_ (decide (((x172_19.Kind.toNat : Nat) : Int) = 0)) with hq177_19 | hq177_19
          ·
           replace hm := cT hq177_19 hm
           refine Wy (.b true) [] (Ocs (lit_tf (b := decide (((x172_19.Kind.toNat : Nat) : Int) = 0)) hq177_19) (Omv rfl)) ?_
           refine Wy (.b r164_18.2) [] (Omv rfl) ?_
           refine Wy (.b (!r164_18.2)) [] (Ocs (by kernel_rfl) (op_un rfl (a1 := .bool r164_18.2) (by kernel_rfl) (fun _ => hu_not))) ?_
           rcases tf_ (!r164_18.2) with hq180_19 | hq180_19
           ·
            replace hm := cT hq180_19 hm
            refine Wy (.b true) [] (Ocs (lit_tf (b := (!r164_18.2)) hq180_19) (Omv rfl)) ?_
            refine Wn ?_
            refine Wn ?_
            refine Wn ?_
            refine Wy (.b true) [] (OpT rfl) ?_
            refine Wy (.b true) [] (Omv rfl) ?_
            refine Wn ?_
            refine Wn ?_
            refine Wn ?_
            refine Wn ?_
            refine Wn ?_
            refine Wn ?_
            refine Wn ?_
            refine Wn ?_
            refine Wn ?_
            refine Wy (.b true) [] (OpT rfl) ?_
            refine Wy (.b true) [] (Omv rfl) ?_
            refine Wn ?_
            refine Wn ?_
            refine Wn ?_
            refine Wn ?_
            refine Wn ?_
            refine Wn ?_
            refine Wn ?_
            refine Wn ?_
            refine Wn ?_
            refine Wy (.b true) [] (OpT rfl) ?_
            refine Wy (.b true) [] (Omv rfl) ?_
            refine Wn ?_
            refine Wn ?_
            refine Wn ?_
            refine Wn ?_
            refine Wn ?_
            refine Wn ?_
            refine Wn ?_
            refine Wn ?_
            refine Wn ?_
            refine Wy (.b true) [] (OpT rfl) ?_
            refine Wy (.b true) [] (OpT rfl) ?_
            refine Wdr ?_
            refine Then.normal ?_
            exact AWP.weak (Weak.toK 421249166674228746791672110734681729275580381602196445017243911273 0 0 [0, 1]) (J20 () hm)
           ·
            replace hm := cF hq180_19 hm
            refine Wy (.b false) [] (Ocs (lit_tf (b := (!r164_18.2)) hq180_19) (Omv rfl)) ?_
            refine Wy (.loc 2 2) [] (Ofa rfl) ?_
            refine Wy (.b r164_18.1.Held) [] (Old rfl) ?_
            refine Wy (.b (!r164_18.1.Held)) [] (Ocs (by kernel_rfl) (op_un rfl (a1 := .bool r164_18.1.Held) (by kernel_rfl) (fun _ => hu_not))) ?_
            refine Wy (.b (!r164_18.1.Held)) [] (OpF rfl) ?_
            rcases tf_ (!r164_18.1.Held) with hq185_19 | hq185_19
            ·
             replace hm := cT hq185_19 hm
             refine Wy (.b true) [] (Ocs (lit_tf (b := (!r164_18.1.Held)) hq185_19) (Omv rfl)) ?_
             refine Wn ?_
             refine Wn ?_
             refine Wn ?_
             refine Wn ?_
             refine Wn ?_
             refine Wn ?_
             refine Wn ?_
             refine Wn ?_
             refine Wn ?_
             refine Wy (.b true) [] (OpT rfl) ?_
             refine Wy (.b true) [] (Omv rfl) ?_
             refine Wn ?_
             refine Wn ?_
             refine Wn ?_
             refine Wn ?_
             refine Wn ?_
             refine Wn ?_
             refine Wn ?_
             refine Wn ?_
             refine Wn ?_
             refine Wy (.b true) [] (OpT rfl) ?_
             refine Wy (.b true) [] (Omv rfl) ?_
             refine Wn ?_
             refine Wn ?_
             refine Wn ?_
             refine Wn ?_
             refine Wn ?_
             refine Wn ?_
             refine Wn ?_
             refine Wn ?_
             refine Wn ?_
             refine Wy (.b true) [] (OpT rfl) ?_
             refine Wy (.b true) [] (OpT rfl) ?_
             refine Wdr ?_
             refine Then.normal ?_
             exact AWP.weak (Weak.toK 421249166674228746791672110734681729275580381602196445017243911273 0 0 [0, 1]) (J20 () hm)
            ·
             replace hm := cF hq185_19 hm
             refine Wy (.b false) [] (Ocs (lit_tf (b := (!r164_18.1.Held)) hq185_19) (Omv rfl)) ?_
             refine Wy (.loc 2 0) [] (Ofa rfl) ?_
             refine Wy (.loc 2 0) [] (Ofa rfl) ?_
             refine Wy (.i r164_18.1.Point.Loc) [] (Old rfl) ?_
             refine Wy (.l enc_GTurn p0) [] (Omv rfl) ?_
             refine Wy (.i y5_2) [] (Omv rfl) ?_
             obtain ⟨x191_19, hx191_19, hm⟩ := bnd hm
             obtain ⟨hx191_19i, hx191_19g⟩ := geti_some hx191_19
             refine Wy (.d (.ref (List.drop ((Int.toNat y5_2) * 3) (flatD enc_GTurn p0)))) [] (Oia rfl enc_GTurn_len hx191_19i hx191_19g) ?_
             refine Wy (.d (.ref (List.drop 1 (List.drop ((Int.toNat y5_2) * 3) (flatD enc_GTurn p0))))) [] (Ofa rfl) ?_
             refine Wy (.i x191_19.A) [] (Lfk1 1 rfl enc_GTurn_len hx191_19g) ?_
             refine Wy (.b (decide (r164_18.1.Point.Loc ≠ x191_19.A))) [] (Obn rfl (fun _ => hb_neq (k := .i64))) ?_
             refine Wy (.b (decide (r164_18.1.Point.Loc ≠ x191_19.A))) [] (OpF rfl) ?_
             rcases tf_ (decide (r164_18.1.Point.Loc ≠ x191_19.A)) with hq196_19 | hq196_19
             ·
              replace hm := cT hq196_19 hm
              refine Wy (.b true) [] (Ocs (lit_tf (b := decide (r164_18.1.Point.Loc ≠ x191_19.A)) hq196_19) (Omv rfl)) ?_
              refine Wn ?_
              refine Wn ?_
              refine Wn ?_
              refine Wn ?_
              refine Wn ?_
              refine Wn ?_
              refine Wn ?_
              refine Wn ?_
              refine Wn ?_
              refine Wy (.b true) [] (OpT rfl) ?_
              refine Wy (.b true) [] (Omv rfl) ?_
              refine Wn ?_
              refine Wn ?_
              refine Wn ?_
              refine Wn ?_
              refine Wn ?_
              refine Wn ?_
              refine Wn ?_
              refine Wn ?_
              refine Wn ?_
              refine Wy (.b true) [] (OpT rfl) ?_
              refine Wy (.b true) [] (OpT rfl) ?_
              refine Wdr ?_
              refine Then.normal ?_
              exact AWP.weak (Weak.toK 421249166674228746791672110734681729275580381602196445017243911273 0 0 [0, 1]) (J20 () hm)
             ·
              replace hm := cF hq196_19 hm
              refine Wy (.b false) [] (Ocs (lit_tf (b := decide (r164_18.1.Point.Loc ≠ x191_19.A)) hq196_19) (Omv rfl)) ?_
              refine Wy (.loc 2 0) [] (Ofa rfl) ?_
              refine Wy (.loc 2 1) [] (Ofa rfl) ?_
              refine Wy (.i r164_18.1.Point.Time) [] (Old rfl) ?_
              refine Wy (.l enc_GTurn p0) [] (Omv rfl) ?_
              refine Wy (.i y5_2) [] (Omv rfl) ?_
              obtain ⟨x202_19, hx202_19, hm⟩ := bnd hm
              obtain ⟨hx202_19i, hx202_19g⟩ := geti_some hx202_19
              refine Wy (.d (.ref (List.drop ((Int.toNat y5_2) * 3) (flatD enc_GTurn p0)))) [] (Oia rfl enc_GTurn_len hx202_19i hx202_19g) ?_
              refine Wy (.d (.ref (List.drop 2 (List.drop ((Int.toNat y5_2) * 3) (flatD enc_GTurn p0))))) [] (Ofa rfl) ?_
              refine Wy (.i x202_19.B) [] (Lfk1 2 rfl enc_GTurn_len hx202_19g) ?_
              refine Wy (.b (decide (r164_18.1.Point.Time ≠ x202_19.B))) [] (Obn rfl (fun _ => hb_neq (k := .i64))) ?_
              refine Wy (.b (decide (r164_18.1.Point.Time ≠ x202_19.B))) [] (OpF rfl) ?_
              rcases tf_ (decide (r164_18.1.Point.Time ≠ x202_19.B)) with hq207_19 | hq207_19
              ·
               replace hm := cT hq207_19 hm
               refine Wy (.b true) [] (Ocs (lit_tf (b := decide (r164_18.1.Point.Time ≠ x202_19.B)) hq207_19) (Omv rfl)) ?_
               refine Wn ?_
               refine Wn ?_
               refine Wn ?_
               refine Wn ?_
               refine Wn ?_
               refine Wn ?_
               refine Wn ?_
               refine Wn ?_
               refine Wn ?_
               refine Wy (.b true) [] (OpT rfl) ?_
               refine Wy (.b true) [] (OpT rfl) ?_
               refine Wdr ?_
               refine Then.normal ?_
               exact AWP.weak (Weak.toK 421249166674228746791672110734681729275580381602196445017243911273 0 0 [0, 1]) (J20 () hm)
              ·
               replace hm := cF hq207_19 hm
               refine Wy (.b false) [] (Ocs (lit_tf (b := decide (r164_18.1.Point.Time ≠ x202_19.B)) hq207_19) (Omv rfl)) ?_
               refine Wy (.agg [(.l enc_GLeave_ y6_d_9.L)]) [] (Old rfl) ?_
               refine Wy (.loc 2 0) [] (Ofa rfl) ?_
               refine Wy (.loc 2 0) [] (Ofa rfl) ?_
               refine Wy (.i r164_18.1.Point.Loc) [] (Old rfl) ?_
               refine Wy (.loc 2 0) [] (Ofa rfl) ?_
               refine Wy (.loc 2 1) [] (Ofa rfl) ?_
               refine Wy (.i r164_18.1.Point.Time) [] (Old rfl) ?_
               obtain ⟨r215_19, hr215_19, hm⟩ := bnd hm
               refine Wy (.b r215_19) [] (Ocf [] [] [] 0 (ok_token_Book_May y6_d_9 r164_18.1.Point.Loc r164_18.1.Point.Time r215_19 hr215_19) (fun a w => Try.call18 a w) rfl trivial) ?_
               refine Wy (.b (!r215_19)) [] (Ocs (by kernel_rfl) (op_un rfl (a1 := .bool r215_19) (by kernel_rfl) (fun _ => hu_not))) ?_
               refine Wy (.b (!r215_19)) [] (OpF rfl) ?_
               refine Wy (.b (!r215_19)) [] (OpT rfl) ?_
               refine Wdr ?_
               refine Then.normal ?_
               refine Amk 421249166674228746791672110734681729275580381602196445017243911273 3 ⟨((.l enc_GTurn p0) :: (tp 2 ((.loc 0 0) :: (tp 1 ((.i y5_2) :: ((.loc 1 0) :: (tp 3 ((.l enc_GChange r98_12) :: (tp 207 ((.b (!r215_19)) :: (tp 15 []))))))))))), [(.box [(.l enc_GLeave_ y3_d_2.L)]), (.box [(.l enc_GLeave_ y6_d_9.L)]), .gone], 0⟩ ?_
               rcases tf_ (!r215_19) with hc218_33 | hc218_33
               ·
                replace hm := cT hc218_33 hm
                refine AWP.if_ true (Eq.trans (by kernel_rfl) (lit_tf (b := (!r215_19)) hc218_33)) ?_
                refine AWP.seq ?_
                refine AWP.text ?_
                refine Wy (.b false) [] (Omv rfl) ?_
                refine Walk.nil ?_
                refine Then.normal ?_
                refine AWP.ret ?_
                refine Then.ret ?_
                refine InBlock.ret ?_
                refine Then.ret ?_
                refine RoundK.ret ?_
                refine InBlock.ret ?_
                refine Then.ret ?_
                obtain rfl := Option.some.inj hm
                exact ret_i []
               ·
                replace hm := cF hc218_33 hm
                refine AWP.if_ false (Eq.trans (by kernel_rfl) (lit_tf (b := (!r215_19)) hc218_33)) ?_
                refine AWP.skip ?_
                refine Then.normal ?_
                exact AWP.weak (Weak.toK 1129 0 0 [0, 1]) (J22 () hm)
          ·
           replace hm := cF hq177_19 hm
           refine Wy (.b false) [] (Ocs (lit_tf (b := decide (((x172_19.Kind.toNat : Nat) : Int) = 0)) hq177_19) (Omv rfl)) ?_
           refine Wn ?_
           refine Wn ?_
           refine Wn ?_
           refine Wn ?_
           refine Wn ?_
           refine Wn ?_
           refine Wn ?_
           refine Wn ?_
           refine Wn ?_
           refine Wn ?_
           refine Wn ?_
           refine Wn ?_
           refine Wn ?_
           refine Wn ?_
           refine Wn ?_
           refine Wn ?_
           refine Wn ?_
           refine Wn ?_
           refine Wn ?_
           refine Wn ?_
           refine Wn ?_
           refine Wn ?_
           refine Wn ?_
           refine Wn ?_
           refine Wn ?_
           refine Wn ?_
           refine Wn ?_
           refine Wn ?_
           refine Wn ?_
           refine Wn ?_
           refine Wn ?_
           refine Wn ?_
           refine Wn ?_
           refine Wn ?_
           refine Wn ?_
           refine Wn ?_
           refine Wn ?_
           refine Wn ?_
           refine Wn ?_
           refine Wn ?_
           refine Wy (.b false) [] (OpF rfl) ?_
           refine Wdr ?_
           refine Then.normal ?_
           exact AWP.weak (Weak.toK 421249166674228746791672110734681729275580381602196445017243911273 0 0 [0, 1]) (J21 () hm)
         ·
          replace hm := cF hq169_19 hm
          refine Wy (.b false) [] (Ocs (lit_tf (b := decide (y8_9 = 0)) hq169_19) (Omv rfl)) ?_
          refine Wn ?_
          refine Wn ?_
          refine Wn ?_
          refine Wn ?_
          refine Wn ?_
          refine Wn ?_
          refine Wy (.b false) [] (OpF rfl) ?_
          refine Wy (.b false) [] (Omv rfl) ?_
          refine Wn ?_
          refine Wn ?_
          refine Wn ?_
          refine Wn ?_
          refine Wn ?_
          refine Wn ?_
          refine Wn ?_
          refine Wn ?_
          refine Wn ?_
          refine Wn ?_
          refine Wn ?_
          refine Wn ?_
          refine Wn ?_
          refine Wn ?_
          refine Wn ?_
          refine Wn ?_
          refine Wn ?_
          refine Wn ?_
          refine Wn ?_
          refine Wn ?_
          refine Wn ?_
          refine Wn ?_
          refine Wn ?_
          refine Wn ?_
          refine Wn ?_
          refine Wn ?_
          refine Wn ?_
          refine Wn ?_
          refine Wn ?_
          refine Wn ?_
          refine Wn ?_
          refine Wn ?_
          refine Wn ?_
          refine Wn ?_
          refine Wn ?_
          refine Wn ?_
          refine Wn ?_
          refine Wn ?_
          refine Wn ?_
          refine Wn ?_
          refine Wy (.b false) [] (OpF rfl) ?_
          refine Wdr ?_
          refine Then.normal ?_
          exact AWP.weak (Weak.toK 421249166674228746791672110734681729275580381602196445017243911273 0 0 [0, 1]) (J21 () hm)
      refine AWP.seq ?_
      refine AWP.seq ?_
      refine AWP.text ?_
      refine Wy (.l enc_GChange r98_12) [] (Omv rfl) ?_
      refine Wy (.agg [(.l enc_GLeave_ y6_d_9.L)]) [] (Old rfl) ?_
      obtain ⟨r101_13, hr101_13, hm⟩ := bnd hm
      refine Wy (.l enc_GChange r101_13) [] (Ocf [] [] [] 0 (ok_token_Book_Tally y6_d_9 r101_13 hr101_13) (fun a w => Try.call20 a w) rfl trivial) ?_
      obtain ⟨r102_13, hr102_13, hm⟩ := bnd hm
      refine Wy (.b r102_13) [] (Ocf [] [] [] 0 (ok_tally_Same r98_12 r101_13 r102_13 hr102_13) (fun a w => Try.call24 a w) rfl trivial) ?_
      refine Wy (.b (!r102_13)) [] (Ocs (by kernel_rfl) (op_un rfl (a1 := .bool r102_13) (by kernel_rfl) (fun _ => hu_not))) ?_
      rcases tf_ (!r102_13) with hq104_13 | hq104_13
      ·
       replace hm := cT hq104_13 hm
       refine Wy (.b true) [] (Ocs (lit_tf (b := (!r102_13)) hq104_13) (Omv rfl)) ?_
       refine Wn ?_
       refine Wn ?_
       refine Wn ?_
       refine Wn ?_
       refine Wn ?_
       refine Wn ?_
       refine Wn ?_
       refine Wn ?_
       refine Wn ?_
       refine Wn ?_
       refine Wn ?_
       refine Wy (.b true) [] (OpT rfl) ?_
       refine Walk.nil ?_
       refine Then.normal ?_
       refine Amk 83076749736557242056487941267523449 3 ⟨((.l enc_GTurn p0) :: (tp 2 ((.loc 0 0) :: ((.l enc_GChange y4_2) :: ((.i y5_2) :: ((.loc 1 0) :: (tp 1 ((.i y8_9) :: ((.i y9_9) :: ((.l enc_GChange r98_12) :: (tp 105 ((.b true) :: (tp 117 []))))))))))))), [(.box [(.l enc_GLeave_ y3_d_2.L)]), (.box [(.l enc_GLeave_ y6_d_9.L)])], 0⟩ ?_
       refine AWP.if_ true (by kernel_rfl) ?_
       refine AWP.seq ?_
       refine AWP.text ?_
       refine Wy (.b false) [] (Omv rfl) ?_
       refine Walk.nil ?_
       refine Then.normal ?_
       refine AWP.ret ?_
       refine Then.ret ?_
       refine InBlock.ret ?_
       refine Then.ret ?_
       refine RoundK.ret ?_
       refine InBlock.ret ?_
       refine Then.ret ?_
       obtain rfl := Option.some.inj hm
       exact ret_i []
      ·
       replace hm := cF hq104_13 hm
       refine Wy (.b false) [] (Ocs (lit_tf (b := (!r102_13)) hq104_13) (Omv rfl)) ?_
       refine Wy (.l enc_GTurn p0) [] (Omv rfl) ?_
       refine Wy (.i y5_2) [] (Omv rfl) ?_
       obtain ⟨x107_13, hx107_13, hm⟩ := bnd hm
       obtain ⟨hx107_13i, hx107_13g⟩ := geti_some hx107_13
       refine Wy (.d (.ref (List.drop ((Int.toNat y5_2) * 3) (flatD enc_GTurn p0)))) [] (Oia rfl enc_GTurn_len hx107_13i hx107_13g) ?_
       refine Wy (.d (.ref (List.drop ((Int.toNat y5_2) * 3) (flatD enc_GTurn p0)))) [] (Ofa rfl) ?_
       refine Wy (.y x107_13.Kind) [] (Lf1 rfl enc_GTurn_len hx107_13g) ?_
       refine Wy (.b (decide (((x107_13.Kind.toNat : Nat) : Int) ≠ 0))) [] (Ocs (by kernel_rfl) (op_bin rfl (a1 := .int .u8 ((x107_13.Kind.toNat : Nat) : Int)) (a2 := .int .u8 0) (by kernel_rfl) (by kernel_rfl) (fun _ => hb_neq))) ?_
       rcases tf_ (decide (((x107_13.Kind.toNat : Nat) : Int) ≠ 0)) with hq111_13 | hq111_13
       ·
        replace hm := cT hq111_13 hm
        refine Wy (.b true) [] (Ocs (lit_tf (b := decide (((x107_13.Kind.toNat : Nat) : Int) ≠ 0)) hq111_13) (Omv rfl)) ?_
        refine Wy (.l enc_GChange y4_2) [] (Omv rfl) ?_
        refine Wy (.l enc_GChange r98_12) [] (Omv rfl) ?_
        obtain ⟨r114_13, hr114_13, hm⟩ := bnd hm
        refine Wy (.b r114_13) [] (Ocf [] [] [] 0 (ok_front_Drops y4_2 r98_12 r114_13 hr114_13) (fun a w => Try.call25 a w) rfl trivial) ?_
        refine Wy (.b r114_13) [] (OpT rfl) ?_
        refine Wy (.b r114_13) [] (OpF rfl) ?_
        refine Walk.nil ?_
        refine Then.normal ?_
        refine Amk 83076749736557242056487941267523449 3 ⟨((.l enc_GTurn p0) :: (tp 2 ((.loc 0 0) :: ((.l enc_GChange y4_2) :: ((.i y5_2) :: ((.loc 1 0) :: (tp 1 ((.i y8_9) :: ((.i y9_9) :: ((.l enc_GChange r98_12) :: (tp 105 ((.b r114_13) :: (tp 117 []))))))))))))), [(.box [(.l enc_GLeave_ y3_d_2.L)]), (.box [(.l enc_GLeave_ y6_d_9.L)])], 0⟩ ?_
        rcases tf_ r114_13 with hc116_34 | hc116_34
        ·
         replace hm := cT hc116_34 hm
         refine AWP.if_ true (Eq.trans (by kernel_rfl) (lit_tf (b := r114_13) hc116_34)) ?_
         refine AWP.seq ?_
         refine AWP.text ?_
         refine Wy (.b false) [] (Omv rfl) ?_
         refine Walk.nil ?_
         refine Then.normal ?_
         refine AWP.ret ?_
         refine Then.ret ?_
         refine InBlock.ret ?_
         refine Then.ret ?_
         refine RoundK.ret ?_
         refine InBlock.ret ?_
         refine Then.ret ?_
         obtain rfl := Option.some.inj hm
         exact ret_i []
        ·
         replace hm := cF hc116_34 hm
         refine AWP.if_ false (Eq.trans (by kernel_rfl) (lit_tf (b := r114_13) hc116_34)) ?_
         refine AWP.skip ?_
         refine Then.normal ?_
         exact AWP.weak (Weak.toK 1913 0 0 [0, 1]) (J14 () hm)
       ·
        replace hm := cF hq111_13 hm
        refine Wy (.b false) [] (Ocs (lit_tf (b := decide (((x107_13.Kind.toNat : Nat) : Int) ≠ 0)) hq111_13) (Omv rfl)) ?_
        refine Wn ?_
        refine Wn ?_
        refine Wn ?_
        refine Wy (.b false) [] (OpF rfl) ?_
        refine Wy (.b false) [] (OpF rfl) ?_
        refine Walk.nil ?_
        refine Then.normal ?_
        refine Amk 83076749736557242056487941267523449 3 ⟨((.l enc_GTurn p0) :: (tp 2 ((.loc 0 0) :: ((.l enc_GChange y4_2) :: ((.i y5_2) :: ((.loc 1 0) :: (tp 1 ((.i y8_9) :: ((.i y9_9) :: ((.l enc_GChange r98_12) :: (tp 105 ((.b false) :: (tp 117 []))))))))))))), [(.box [(.l enc_GLeave_ y3_d_2.L)]), (.box [(.l enc_GLeave_ y6_d_9.L)])], 0⟩ ?_
        refine AWP.if_ false (by kernel_rfl) ?_
        refine AWP.skip ?_
        refine Then.normal ?_
        exact AWP.weak (Weak.toK 1913 0 0 [0, 1]) (J14 () hm)
     refine AWP.seq ?_
     refine AWP.seq ?_
     refine AWP.text ?_
     refine Wy (.i y8_9) [] (Omv rfl) ?_
     refine Wy (.b (decide (y8_9 ≠ 0))) [] (Obn rfl (fun _ => hb_neq (k := .i64))) ?_
     rcases tf_ (decide (y8_9 ≠ 0)) with hq85_10 | hq85_10
     ·
      replace hm := cT hq85_10 hm
      refine Wy (.b true) [] (Ocs (lit_tf (b := decide (y8_9 ≠ 0)) hq85_10) (Omv rfl)) ?_
      refine Wy (.agg [(.l enc_GLeave_ y6_d_9.L)]) [] (Old rfl) ?_
      refine Wy (.agg [(.l enc_GLeave_ y3_d_2.L)]) [] (Old rfl) ?_
      obtain ⟨r88_10, hr88_10, hm⟩ := bnd hm
      refine Wy (.b r88_10) [] (Ocf [] [] [] 0 (ok_token_Same y6_d_9 y3_d_2 r88_10 hr88_10) (fun a w => Try.call22 a w) rfl trivial) ?_
      refine Wy (.b (!r88_10)) [] (Ocs (by kernel_rfl) (op_un rfl (a1 := .bool r88_10) (by kernel_rfl) (fun _ => hu_not))) ?_
      rcases tf_ (!r88_10) with hq90_10 | hq90_10
      ·
       replace hm := cT hq90_10 hm
       refine Wy (.b true) [] (Ocs (lit_tf (b := (!r88_10)) hq90_10) (Omv rfl)) ?_
       refine Wn ?_
       refine Wn ?_
       refine Wn ?_
       refine Wy (.b true) [] (OpT rfl) ?_
       refine Wy (.b true) [] (OpT rfl) ?_
       refine Walk.nil ?_
       refine Then.normal ?_
       refine Amk 39614081257132168796771976185 3 ⟨((.l enc_GTurn p0) :: (tp 2 ((.loc 0 0) :: ((.l enc_GChange y4_2) :: ((.i y5_2) :: ((.loc 1 0) :: ((.l enc_GChange y7_9) :: ((.i y8_9) :: ((.i y9_9) :: (tp 85 ((.b true) :: (tp 138 [])))))))))))), [(.box [(.l enc_GLeave_ y3_d_2.L)]), (.box [(.l enc_GLeave_ y6_d_9.L)])], 0⟩ ?_
       refine AWP.if_ true (by kernel_rfl) ?_
       refine AWP.seq ?_
       refine AWP.text ?_
       refine Wy (.b false) [] (Omv rfl) ?_
       refine Walk.nil ?_
       refine Then.normal ?_
       refine AWP.ret ?_
       refine Then.ret ?_
       refine InBlock.ret ?_
       refine Then.ret ?_
       refine RoundK.ret ?_
       refine InBlock.ret ?_
       refine Then.ret ?_
       obtain rfl := Option.some.inj hm
       exact ret_i []
      ·
       replace hm := cF hq90_10 hm
       refine Wy (.b false) [] (Ocs (lit_tf (b := (!r88_10)) hq90_10) (Omv rfl)) ?_
       refine Wy (.l enc_GChange y7_9) [] (Omv rfl) ?_
       refine Wy (.i ((List.length y7_9 : Nat) : Int)) [] (Oln rfl) ?_
       refine Wy (.b (decide (((List.length y7_9 : Nat) : Int) ≠ 0))) [] (Obn rfl (fun _ => hb_neq (k := .i64))) ?_
       refine Wy (.b (decide (((List.length y7_9 : Nat) : Int) ≠ 0))) [] (OpF rfl) ?_
       refine Wy (.b (decide (((List.length y7_9 : Nat) : Int) ≠ 0))) [] (OpT rfl) ?_
       refine Walk.nil ?_
       refine Then.normal ?_
       refine Amk 39614081257132168796771976185 3 ⟨((.l enc_GTurn p0) :: (tp 2 ((.loc 0 0) :: ((.l enc_GChange y4_2) :: ((.i y5_2) :: ((.loc 1 0) :: ((.l enc_GChange y7_9) :: ((.i y8_9) :: ((.i y9_9) :: (tp 85 ((.b (decide (((List.length y7_9 : Nat) : Int) ≠ 0))) :: (tp 138 [])))))))))))), [(.box [(.l enc_GLeave_ y3_d_2.L)]), (.box [(.l enc_GLeave_ y6_d_9.L)])], 0⟩ ?_
       rcases tf_ (decide (((List.length y7_9 : Nat) : Int) ≠ 0)) with hc95_35 | hc95_35
       ·
        replace hm := cT hc95_35 hm
        refine AWP.if_ true (Eq.trans (by kernel_rfl) (lit_tf (b := decide (((List.length y7_9 : Nat) : Int) ≠ 0)) hc95_35)) ?_
        refine AWP.seq ?_
        refine AWP.text ?_
        refine Wy (.b false) [] (Omv rfl) ?_
        refine Walk.nil ?_
        refine Then.normal ?_
        refine AWP.ret ?_
        refine Then.ret ?_
        refine InBlock.ret ?_
        refine Then.ret ?_
        refine RoundK.ret ?_
        refine InBlock.ret ?_
        refine Then.ret ?_
        obtain rfl := Option.some.inj hm
        exact ret_i []
       ·
        replace hm := cF hc95_35 hm
        refine AWP.if_ false (Eq.trans (by kernel_rfl) (lit_tf (b := decide (((List.length y7_9 : Nat) : Int) ≠ 0)) hc95_35)) ?_
        refine AWP.skip ?_
        refine Then.normal ?_
        exact AWP.weak (Weak.toK 1017 0 0 [0, 1]) (J11 () hm)
     ·
      replace hm := cF hq85_10 hm
      refine Wy (.b false) [] (Ocs (lit_tf (b := decide (y8_9 ≠ 0)) hq85_10) (Omv rfl)) ?_
      refine Wn ?_
      refine Wn ?_
      refine Wn ?_
      refine Wn ?_
      refine Wn ?_
      refine Wn ?_
      refine Wn ?_
      refine Wn ?_
      refine Wn ?_
      refine Wy (.b false) [] (OpF rfl) ?_
      refine Walk.nil ?_
      refine Then.normal ?_
      refine Amk 39614081257132168796771976185 3 ⟨((.l enc_GTurn p0) :: (tp 2 ((.loc 0 0) :: ((.l enc_GChange y4_2) :: ((.i y5_2) :: ((.loc 1 0) :: ((.l enc_GChange y7_9) :: ((.i y8_9) :: ((.i y9_9) :: (tp 85 ((.b false) :: (tp 138 [])))))))))))), [(.box [(.l enc_GLeave_ y3_d_2.L)]), (.box [(.l enc_GLeave_ y6_d_9.L)])], 0⟩ ?_
      refine AWP.if_ false (by kernel_rfl) ?_
      refine AWP.skip ?_
      refine Then.normal ?_
      exact AWP.weak (Weak.toK 1017 0 0 [0, 1]) (J11 () hm)
    refine AWP.seq ?_
    refine AWP.seq ?_
    refine AWP.text ?_
    refine Wy (.l enc_GTurn p0) [] (Omv rfl) ?_
    refine Wy (.i y5_2) [] (Omv rfl) ?_
    obtain ⟨x28_4, hx28_4, hm⟩ := bnd hm
    obtain ⟨hx28_4i, hx28_4g⟩ := geti_some hx28_4
    refine Wy (.d (.ref (List.drop ((Int.toNat y5_2) * 3) (flatD enc_GTurn p0)))) [] (Oia rfl enc_GTurn_len hx28_4i hx28_4g) ?_
    refine Wy (.d (.ref (List.drop ((Int.toNat y5_2) * 3) (flatD enc_GTurn p0)))) [] (Ofa rfl) ?_
    refine Wy (.y x28_4.Kind) [] (Lf1 rfl enc_GTurn_len hx28_4g) ?_
    refine Wy (.b (decide (((x28_4.Kind.toNat : Nat) : Int) = 0))) [] (Ocs (by kernel_rfl) (op_bin rfl (a1 := .int .u8 ((x28_4.Kind.toNat : Nat) : Int)) (a2 := .int .u8 0) (by kernel_rfl) (by kernel_rfl) (fun _ => hb_eql))) ?_
    refine Walk.nil ?_
    refine Then.normal ?_
    refine Amk 2147484281 3 ⟨((.l enc_GTurn p0) :: (tp 2 ((.loc 0 0) :: ((.l enc_GChange y4_2) :: ((.i y5_2) :: ((.loc 1 0) :: (tp 2 ((.i 0) :: (tp 21 ((.b (decide (((x28_4.Kind.toNat : Nat) : Int) = 0))) :: (tp 202 []))))))))))), [(.box [(.l enc_GLeave_ y3_d_2.L)]), (.box [(.l enc_GLeave_ y3_d_2.L)])], 0⟩ ?_
    rcases tf_ (decide (((x28_4.Kind.toNat : Nat) : Int) = 0)) with hc31_36 | hc31_36
    ·
     replace hm := cT hc31_36 hm
     refine AWP.if_ true (Eq.trans (by kernel_rfl) (lit_tf (b := decide (((x28_4.Kind.toNat : Nat) : Int) = 0)) hc31_36)) ?_
     refine Adr ?_
     refine Wy (.agg [(.l enc_GLeave_ y3_d_2.L)]) [] (Old rfl) ?_
     refine Wy (.l enc_GTurn p0) [] (Omv rfl) ?_
     refine Wy (.i y5_2) [] (Omv rfl) ?_
     obtain ⟨x36_5, hx36_5, hm⟩ := bnd hm
     obtain ⟨hx36_5i, hx36_5g⟩ := geti_some hx36_5
     refine Wy (.d (.ref (List.drop ((Int.toNat y5_2) * 3) (flatD enc_GTurn p0)))) [] (Oia rfl enc_GTurn_len hx36_5i hx36_5g) ?_
     refine Wy (.d (.ref (List.drop 1 (List.drop ((Int.toNat y5_2) * 3) (flatD enc_GTurn p0))))) [] (Ofa rfl) ?_
     refine Wy (.i x36_5.A) [] (Lfk1 1 rfl enc_GTurn_len hx36_5g) ?_
     refine Wy (.l enc_GTurn p0) [] (Omv rfl) ?_
     refine Wy (.i y5_2) [] (Omv rfl) ?_
     obtain ⟨x41_5, hx41_5, hm⟩ := bnd hm
     obtain ⟨hx41_5i, hx41_5g⟩ := geti_some hx41_5
     refine Wy (.d (.ref (List.drop ((Int.toNat y5_2) * 3) (flatD enc_GTurn p0)))) [] (Oia rfl enc_GTurn_len hx41_5i hx41_5g) ?_
     refine Wy (.d (.ref (List.drop 2 (List.drop ((Int.toNat y5_2) * 3) (flatD enc_GTurn p0))))) [] (Ofa rfl) ?_
     refine Wy (.i x41_5.B) [] (Lfk1 2 rfl enc_GTurn_len hx41_5g) ?_
     refine Wy (.agg [(.i x36_5.A), (.i x41_5.B)]) [] (Obd rfl) ?_
     obtain ⟨r45_5, hr45_5, hm⟩ := bnd hm
     refine Wy (.tup [(.agg [(.l enc_GLeave_ r45_5.1.L)]), (.i r45_5.2.1), (.own 2), (.i r45_5.2.2.2)]) [(2, (.arr 65 3 (List.length r45_5.2.2.1) (flatD enc_GChange r45_5.2.2.1)))] (Ocf [] [2] [] 0 (ok_token_Book_Hold y3_d_2 (GPoint.mk x36_5.A x41_5.B) r45_5 hr45_5) (fun a w => Try.call7 a w) rfl trivial) ?_
     refine Wy (.tup [(.agg [(.l enc_GLeave_ r45_5.1.L)]), (.i r45_5.2.1), (.own 2), (.i r45_5.2.2.2)]) [] (Omv rfl) ?_
     refine Wy (.agg [(.l enc_GLeave_ r45_5.1.L)]) [] (Oex rfl) ?_
     refine Wy (.i r45_5.2.1) [] (Oex rfl) ?_
     refine Wy (.own 2) [] (Oex rfl) ?_
     refine Wy (.i r45_5.2.2.2) [] (Oex rfl) ?_
     refine Wy (.tup []) [(1, (.box [(.l enc_GLeave_ r45_5.1.L)]))] (Ost rfl) ?_
     refine Wy (.i r45_5.2.1) [] (Omv rfl) ?_
     refine Wy (.own 2) [] (Omv rfl) ?_
     refine Wy (.i r45_5.2.2.2) [] (Omv rfl) ?_
     refine Wdr ?_
     refine Then.normal ?_
     refine Afz [2] ⟨((.l enc_GTurn p0) :: (tp 2 ((.loc 0 0) :: ((.l enc_GChange y4_2) :: ((.i y5_2) :: ((.loc 1 0) :: ((.l enc_GChange r45_5.2.2.1) :: ((.i r45_5.2.2.2) :: ((.i r45_5.2.1) :: (tp 21 ((.b (decide (((x28_4.Kind.toNat : Nat) : Int) = 0))) :: ((.tup [(.agg [(.l enc_GLeave_ r45_5.1.L)]), (.i r45_5.2.1), (.l enc_GChange r45_5.2.2.1), (.i r45_5.2.2.2)]) :: ((.agg [(.l enc_GLeave_ y3_d_2.L)]) :: ((.l enc_GTurn p0) :: ((.i y5_2) :: ((.d (.ref (List.drop ((Int.toNat y5_2) * 3) (flatD enc_GTurn p0)))) :: ((.d (.ref (List.drop 1 (List.drop ((Int.toNat y5_2) * 3) (flatD enc_GTurn p0))))) :: ((.i x36_5.A) :: ((.l enc_GTurn p0) :: ((.i y5_2) :: ((.d (.ref (List.drop ((Int.toNat y5_2) * 3) (flatD enc_GTurn p0)))) :: ((.d (.ref (List.drop 2 (List.drop ((Int.toNat y5_2) * 3) (flatD enc_GTurn p0))))) :: ((.i x41_5.B) :: ((.agg [(.i x36_5.A), (.i x41_5.B)]) :: ((.tup [(.agg [(.l enc_GLeave_ r45_5.1.L)]), (.i r45_5.2.1), (.l enc_GChange r45_5.2.2.1), (.i r45_5.2.2.2)]) :: ((.agg [(.l enc_GLeave_ r45_5.1.L)]) :: ((.i r45_5.2.1) :: ((.l enc_GChange r45_5.2.2.1) :: ((.i r45_5.2.2.2) :: (tp 184 [])))))))))))))))))))))))))))))), [(.box [(.l enc_GLeave_ y3_d_2.L)]), (.box [(.l enc_GLeave_ r45_5.1.L)]), (.fro 65 3 (List.length r45_5.2.2.1) (flatD enc_GChange r45_5.2.2.1))], 0⟩ ?_
     exact AWP.weak (Weak.toK 1017 0 0 [0, 1]) (J9 (r45_5.1, r45_5.2.2.1, r45_5.2.2.2, r45_5.2.1) hm)
    ·
     replace hm := cF hc31_36 hm
     refine AWP.if_ false (Eq.trans (by kernel_rfl) (lit_tf (b := decide (((x28_4.Kind.toNat : Nat) : Int) = 0)) hc31_36)) ?_
     refine AWP.seq ?_
     refine AWP.text ?_
     refine Wy (.l enc_GTurn p0) [] (Omv rfl) ?_
     refine Wy (.i y5_2) [] (Omv rfl) ?_
     obtain ⟨x52_6, hx52_6, hm⟩ := bnd hm
     obtain ⟨hx52_6i, hx52_6g⟩ := geti_some hx52_6
     refine Wy (.d (.ref (List.drop ((Int.toNat y5_2) * 3) (flatD enc_GTurn p0)))) [] (Oia rfl enc_GTurn_len hx52_6i hx52_6g) ?_
     refine Wy (.d (.ref (List.drop ((Int.toNat y5_2) * 3) (flatD enc_GTurn p0)))) [] (Ofa rfl) ?_
     refine Wy (.y x52_6.Kind) [] (Lf1 rfl enc_GTurn_len hx52_6g) ?_
     refine Wy (.b (decide (((x52_6.Kind.toNat : Nat) : Int) = 1))) [] (Ocs (by kernel_rfl) (op_bin rfl (a1 := .int .u8 ((x52_6.Kind.toNat : Nat) : Int)) (a2 := .int .u8 1) (by kernel_rfl) (by kernel_rfl) (fun _ => hb_eql))) ?_
     refine Walk.nil ?_
     refine Then.normal ?_
     refine Amk 36028797018964601 3 ⟨((.l enc_GTurn p0) :: (tp 2 ((.loc 0 0) :: ((.l enc_GChange y4_2) :: ((.i y5_2) :: ((.loc 1 0) :: (tp 2 ((.i 0) :: (tp 45 ((.b (decide (((x52_6.Kind.toNat : Nat) : Int) = 1))) :: (tp 178 []))))))))))), [(.box [(.l enc_GLeave_ y3_d_2.L)]), (.box [(.l enc_GLeave_ y3_d_2.L)])], 0⟩ ?_
     rcases tf_ (decide (((x52_6.Kind.toNat : Nat) : Int) = 1)) with hc55_37 | hc55_37
     ·
      replace hm := cT hc55_37 hm
      refine AWP.if_ true (Eq.trans (by kernel_rfl) (lit_tf (b := decide (((x52_6.Kind.toNat : Nat) : Int) = 1)) hc55_37)) ?_
      refine Adr ?_
      refine Wy (.agg [(.l enc_GLeave_ y3_d_2.L)]) [] (Old rfl) ?_
      refine Wy (.l enc_GTurn p0) [] (Omv rfl) ?_
      refine Wy (.i y5_2) [] (Omv rfl) ?_
      obtain ⟨x60_7, hx60_7, hm⟩ := bnd hm
      obtain ⟨hx60_7i, hx60_7g⟩ := geti_some hx60_7
      refine Wy (.d (.ref (List.drop ((Int.toNat y5_2) * 3) (flatD enc_GTurn p0)))) [] (Oia rfl enc_GTurn_len hx60_7i hx60_7g) ?_
      refine Wy (.d (.ref (List.drop 1 (List.drop ((Int.toNat y5_2) * 3) (flatD enc_GTurn p0))))) [] (Ofa rfl) ?_
      refine Wy (.i x60_7.A) [] (Lfk1 1 rfl enc_GTurn_len hx60_7g) ?_
      refine Wy (.l enc_GTurn p0) [] (Omv rfl) ?_
      refine Wy (.i y5_2) [] (Omv rfl) ?_
      obtain ⟨x65_7, hx65_7, hm⟩ := bnd hm
      obtain ⟨hx65_7i, hx65_7g⟩ := geti_some hx65_7
      refine Wy (.d (.ref (List.drop ((Int.toNat y5_2) * 3) (flatD enc_GTurn p0)))) [] (Oia rfl enc_GTurn_len hx65_7i hx65_7g) ?_
      refine Wy (.d (.ref (List.drop 2 (List.drop ((Int.toNat y5_2) * 3) (flatD enc_GTurn p0))))) [] (Ofa rfl) ?_
      refine Wy (.i x65_7.B) [] (Lfk1 2 rfl enc_GTurn_len hx65_7g) ?_
      obtain ⟨r68_7, hr68_7, hm⟩ := bnd hm
      refine Wy (.tup [(.agg [(.l enc_GLeave_ r68_7.1.L)]), (.l enc_GChange r68_7.2.1), (.i r68_7.2.2)]) [] (Ocf [] [] [] 0 (ok_token_Book_Lower y3_d_2 x60_7.A x65_7.B r68_7 hr68_7) (fun a w => Try.call9 a w) rfl trivial) ?_
      refine Wy (.tup [(.agg [(.l enc_GLeave_ r68_7.1.L)]), (.l enc_GChange r68_7.2.1), (.i r68_7.2.2)]) [] (Omv rfl) ?_
      refine Wy (.agg [(.l enc_GLeave_ r68_7.1.L)]) [] (Oex rfl) ?_
      refine Wy (.l enc_GChange r68_7.2.1) [] (Oex rfl) ?_
      refine Wy (.i r68_7.2.2) [] (Oex rfl) ?_
      refine Wy (.tup []) [(1, (.box [(.l enc_GLeave_ r68_7.1.L)]))] (Ost rfl) ?_
      refine Wy (.l enc_GChange r68_7.2.1) [] (Omv rfl) ?_
      refine Wy (.i r68_7.2.2) [] (Omv rfl) ?_
      refine Wdr ?_
      refine Then.normal ?_
      exact AWP.weak (Weak.toK 1017 0 0 [0, 1]) (J9 (r68_7.1, r68_7.2.1, r68_7.2.2, 0) hm)
     ·
      replace hm := cF hc55_37 hm
      refine AWP.if_ false (Eq.trans (by kernel_rfl) (lit_tf (b := decide (((x52_6.Kind.toNat : Nat) : Int) = 1)) hc55_37)) ?_
      refine Adr ?_
      refine Wy (.agg [(.l enc_GLeave_ y3_d_2.L)]) [] (Old rfl) ?_
      refine Wy (.l enc_GTurn p0) [] (Omv rfl) ?_
      refine Wy (.i y5_2) [] (Omv rfl) ?_
      obtain ⟨x76_8, hx76_8, hm⟩ := bnd hm
      obtain ⟨hx76_8i, hx76_8g⟩ := geti_some hx76_8
      refine Wy (.d (.ref (List.drop ((Int.toNat y5_2) * 3) (flatD enc_GTurn p0)))) [] (Oia rfl enc_GTurn_len hx76_8i hx76_8g) ?_
      refine Wy (.d (.ref (List.drop 1 (List.drop ((Int.toNat y5_2) * 3) (flatD enc_GTurn p0))))) [] (Ofa rfl) ?_
      refine Wy (.i x76_8.A) [] (Lfk1 1 rfl enc_GTurn_len hx76_8g) ?_
      obtain ⟨r79_8, hr79_8, hm⟩ := bnd hm
      refine Wy (.tup [(.agg [(.l enc_GLeave_ r79_8.1.L)]), (.own 2), (.i r79_8.2.2)]) [(2, (.arr 65 3 (List.length r79_8.2.1) (flatD enc_GChange r79_8.2.1)))] (Ocf [] [2] [] 0 (ok_token_Book_Drop y3_d_2 x76_8.A r79_8 hr79_8) (fun a w => Try.call11 a w) rfl trivial) ?_
      refine Wy (.tup [(.agg [(.l enc_GLeave_ r79_8.1.L)]), (.own 2), (.i r79_8.2.2)]) [] (Omv rfl) ?_
      refine Wy (.agg [(.l enc_GLeave_ r79_8.1.L)]) [] (Oex rfl) ?_
      refine Wy (.own 2) [] (Oex rfl) ?_
      refine Wy (.i r79_8.2.2) [] (Oex rfl) ?_
      refine Wy (.tup []) [(1, (.box [(.l enc_GLeave_ r79_8.1.L)]))] (Ost rfl) ?_
      refine Wy (.own 2) [] (Omv rfl) ?_
      refine Wy (.i r79_8.2.2) [] (Omv rfl) ?_
      refine Wdr ?_
      refine Then.normal ?_
      refine Afz [2] ⟨((.l enc_GTurn p0) :: (tp 2 ((.loc 0 0) :: ((.l enc_GChange y4_2) :: ((.i y5_2) :: ((.loc 1 0) :: ((.l enc_GChange r79_8.2.1) :: ((.i r79_8.2.2) :: ((.i 0) :: (tp 45 ((.b (decide (((x52_6.Kind.toNat : Nat) : Int) = 1))) :: (tp 16 ((.tup [(.agg [(.l enc_GLeave_ r79_8.1.L)]), (.l enc_GChange r79_8.2.1), (.i r79_8.2.2)]) :: ((.agg [(.l enc_GLeave_ y3_d_2.L)]) :: ((.l enc_GTurn p0) :: ((.i y5_2) :: ((.d (.ref (List.drop ((Int.toNat y5_2) * 3) (flatD enc_GTurn p0)))) :: ((.d (.ref (List.drop 1 (List.drop ((Int.toNat y5_2) * 3) (flatD enc_GTurn p0))))) :: ((.i x76_8.A) :: ((.tup [(.agg [(.l enc_GLeave_ r79_8.1.L)]), (.l enc_GChange r79_8.2.1), (.i r79_8.2.2)]) :: ((.agg [(.l enc_GLeave_ r79_8.1.L)]) :: ((.l enc_GChange r79_8.2.1) :: ((.i r79_8.2.2) :: (tp 151 [])))))))))))))))))))))))), [(.box [(.l enc_GLeave_ y3_d_2.L)]), (.box [(.l enc_GLeave_ r79_8.1.L)]), (.fro 65 3 (List.length r79_8.2.1) (flatD enc_GChange r79_8.2.1))], 0⟩ ?_
      exact AWP.weak (Weak.toK 1017 0 0 [0, 1]) (J9 (r79_8.1, r79_8.2.1, r79_8.2.2, 0) hm)
   ·
    replace hm := cF hc22_28 hm
    refine AWP.if_ false (Eq.trans (by kernel_rfl) (lit_tf (b := decide (y5_2 < ((List.length p0 : Nat) : Int))) hc22_28)) ?_
    refine AWP.exit ?_
    refine Then.exit ?_
    refine RoundK.exit ?_
    refine InBlock.same ?_
    refine Then.normal ?_
    refine Amk 0 0 ⟨(tp 234 []), [.gone], 0⟩ ?_
    refine AWP.seq ?_
    refine AWP.text ?_
    obtain ⟨r233_26, hr233_26, hm⟩ := bnd hm
    refine Wy (.b r233_26) [] (Ocf [] [] [] 0 (ok_telltalelaw28_awake  r233_26 hr233_26) (fun a w => Try.call5 a w) rfl trivial) ?_
    refine Wy (.b r233_26) [] (Omv rfl) ?_
    refine Walk.nil ?_
    refine Then.normal ?_
    refine AWP.ret ?_
    obtain rfl := Option.some.inj hm
    exact ret_i []
end Go.Proofs.Ytkamekhkkkeedaa.K
