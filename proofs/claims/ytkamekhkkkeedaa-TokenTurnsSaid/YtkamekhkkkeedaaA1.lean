/- what telltalelaw28.TokenTurns needs (1) -/
import Derived.Test.YtkamekhkkkeedaaA0
namespace Go.Proofs.Ytkamekhkkkeedaa.K
open Go.RowKit Go.Lib
set_option linter.unusedVariables false
set_option linter.unusedSimpArgs false

set_option maxRecDepth 20000 in
set_option maxHeartbeats 4000000 in
theorem ok_telltalelaw28_awake (r : Bool) (h : m_telltalelaw28_awake = some r) : GCall Try.prog 5 [] [] (.b r) [] := by
 refine GCall.of_body (n := 206) (rs := [(.tmp 0)]) Try.func5 rfl rfl rfl ?_
 refine Ato ⟨(tu 206 []), [], 0⟩ ?_
 have hm := h
 unfold m_telltalelaw28_awake at hm
 refine AWP.seq ?_
 refine AWP.text ?_
 refine Wy (.b false) [] (Omv rfl) ?_
 refine Walk.nil ?_
 refine Then.normal ?_
 refine Amk 0 0 ⟨(tp 206 []), [], 0⟩ ?_
 refine AWP.seq ?_
 refine AWP.text ?_
 refine Wy (.loc 0 0) [(0, (.box [(.d .nil)]))] (Oal rfl) ?_
 refine Walk.nil ?_
 refine Then.normal ?_
 refine Amk 2 1 ⟨(tp 1 ((.loc 0 0) :: (tp 204 []))), [(.box [(.d .nil)])], 0⟩ ?_
 refine AWP.seq ?_
 refine AWP.text ?_
 refine Wy (.agg [(.d .nil)]) [] (Old rfl) ?_
 refine Wy (.agg [(.i 0), (.i 0)]) [] (Obd rfl) ?_
 obtain ⟨r30_0, hr30_0, hm⟩ := bnd hm
 refine Wy (.tup [(.agg [(.l enc_GLeave_ r30_0.1.L)]), (.i r30_0.2.1), (.own 1), (.i r30_0.2.2.2)]) [(1, (.arr 65 3 (List.length r30_0.2.2.1) (flatD enc_GChange r30_0.2.2.1)))] (Ocf [] [1] [] 0 (ok_token_Book_Hold (GBook.mk ([] : List GLeave_)) (GPoint.mk 0 0) r30_0 hr30_0) (fun a w => Try.call7 a w) rfl trivial) ?_
 refine Wy (.tup [(.agg [(.l enc_GLeave_ r30_0.1.L)]), (.i r30_0.2.1), (.own 1), (.i r30_0.2.2.2)]) [] (Omv rfl) ?_
 refine Wy (.agg [(.l enc_GLeave_ r30_0.1.L)]) [] (Oex rfl) ?_
 refine Wy (.i r30_0.2.1) [] (Oex rfl) ?_
 refine Wy (.own 1) [] (Oex rfl) ?_
 refine Wy (.i r30_0.2.2.2) [] (Oex rfl) ?_
 refine Wy (.loc 2 0) [(2, (.box [(.d .nil)]))] (Oal rfl) ?_
 refine Wy (.tup []) [(2, (.box [(.l enc_GLeave_ r30_0.1.L)]))] (Ost rfl) ?_
 refine Wy (.i r30_0.2.1) [] (Omv rfl) ?_
 refine Wy (.own 1) [] (Omv rfl) ?_
 refine Wy (.i r30_0.2.2.2) [] (Omv rfl) ?_
 refine Walk.nil ?_
 refine Then.normal ?_
 refine Amk 62 7 ⟨(tp 1 ((.loc 0 0) :: ((.loc 2 0) :: ((.i r30_0.2.1) :: ((.own 1) :: ((.i r30_0.2.2.2) :: (tp 200 []))))))), [(.box [(.d .nil)]), (.arr 65 3 (List.length r30_0.2.2.1) (flatD enc_GChange r30_0.2.2.1)), (.box [(.l enc_GLeave_ r30_0.1.L)])], 0⟩ ?_
 refine AWP.seq ?_
 refine AWP.text ?_
 refine Wy (.agg [(.l enc_GLeave_ r30_0.1.L)]) [] (Old rfl) ?_
 refine Wy (.i r30_0.2.1) [] (Omv rfl) ?_
 obtain ⟨r38_1, hr38_1, hm⟩ := bnd hm
 refine Wy (.tup [(.agg [(.l enc_GLeave_ r38_1.1.L)]), (.l enc_GChange r38_1.2.1), (.i r38_1.2.2)]) [] (Ocf [] [] [] 0 (ok_token_Book_Lower r30_0.1 r30_0.2.1 5 r38_1 hr38_1) (fun a w => Try.call9 a w) rfl trivial) ?_
 refine Wy (.tup [(.agg [(.l enc_GLeave_ r38_1.1.L)]), (.l enc_GChange r38_1.2.1), (.i r38_1.2.2)]) [] (Omv rfl) ?_
 refine Wy (.agg [(.l enc_GLeave_ r38_1.1.L)]) [] (Oex rfl) ?_
 refine Wy (.l enc_GChange r38_1.2.1) [] (Oex rfl) ?_
 refine Wy (.i r38_1.2.2) [] (Oex rfl) ?_
 refine Wy (.loc 3 0) [(3, (.box [(.d .nil)]))] (Oal rfl) ?_
 refine Wy (.tup []) [(3, (.box [(.l enc_GLeave_ r38_1.1.L)]))] (Ost rfl) ?_
 refine Wy (.l enc_GChange r38_1.2.1) [] (Omv rfl) ?_
 refine Wy (.i r38_1.2.2) [] (Omv rfl) ?_
 refine Walk.nil ?_
 refine Then.normal ?_
 refine Amk 510 15 ⟨(tp 1 ((.loc 0 0) :: ((.loc 2 0) :: ((.i r30_0.2.1) :: ((.own 1) :: ((.i r30_0.2.2.2) :: ((.loc 3 0) :: ((.l enc_GChange r38_1.2.1) :: ((.i r38_1.2.2) :: (tp 197 [])))))))))), [(.box [(.d .nil)]), (.arr 65 3 (List.length r30_0.2.2.1) (flatD enc_GChange r30_0.2.2.1)), (.box [(.l enc_GLeave_ r30_0.1.L)]), (.box [(.l enc_GLeave_ r38_1.1.L)])], 0⟩ ?_
 refine AWP.seq ?_
 refine AWP.text ?_
 refine Wy (.agg [(.l enc_GLeave_ r38_1.1.L)]) [] (Old rfl) ?_
 refine Wy (.i r30_0.2.1) [] (Omv rfl) ?_
 obtain ⟨r45_2, hr45_2, hm⟩ := bnd hm
 refine Wy (.tup [(.agg [(.l enc_GLeave_ r45_2.1.L)]), (.l enc_GChange r45_2.2.1), (.i r45_2.2.2)]) [] (Ocf [] [] [] 0 (ok_token_Book_Lower r38_1.1 r30_0.2.1 4 r45_2 hr45_2) (fun a w => Try.call9 a w) rfl trivial) ?_
 refine Wy (.tup [(.agg [(.l enc_GLeave_ r45_2.1.L)]), (.l enc_GChange r45_2.2.1), (.i r45_2.2.2)]) [] (Omv rfl) ?_
 refine Wy (.agg [(.l enc_GLeave_ r45_2.1.L)]) [] (Oex rfl) ?_
 refine Wy (.l enc_GChange r45_2.2.1) [] (Oex rfl) ?_
 refine Wy (.i r45_2.2.2) [] (Oex rfl) ?_
 refine Wy (.loc 4 0) [(4, (.box [(.d .nil)]))] (Oal rfl) ?_
 refine Wy (.tup []) [(4, (.box [(.l enc_GLeave_ r45_2.1.L)]))] (Ost rfl) ?_
 refine Wy (.l enc_GChange r45_2.2.1) [] (Omv rfl) ?_
 refine Wy (.i r45_2.2.2) [] (Omv rfl) ?_
 refine Walk.nil ?_
 refine Then.normal ?_
 refine Amk 2558 15 ⟨(tp 1 ((.loc 0 0) :: ((.loc 2 0) :: ((.i r30_0.2.1) :: ((.own 1) :: ((.i r30_0.2.2.2) :: ((.loc 3 0) :: ((.l enc_GChange r38_1.2.1) :: ((.i r38_1.2.2) :: (tp 2 ((.i r45_2.2.2) :: (tp 194 [])))))))))))), [(.box [(.d .nil)]), (.arr 65 3 (List.length r30_0.2.2.1) (flatD enc_GChange r30_0.2.2.1)), (.box [(.l enc_GLeave_ r30_0.1.L)]), (.box [(.l enc_GLeave_ r38_1.1.L)]), .gone], 0⟩ ?_
 refine AWP.seq ?_
 refine AWP.text ?_
 refine Wy (.agg [(.l enc_GLeave_ r38_1.1.L)]) [] (Old rfl) ?_
 refine Wy (.i r30_0.2.1) [] (Omv rfl) ?_
 obtain ⟨r52_3, hr52_3, hm⟩ := bnd hm
 refine Wy (.tup [(.agg [(.l enc_GLeave_ r52_3.1.L)]), (.own 5), (.i r52_3.2.2)]) [(5, (.arr 65 3 (List.length r52_3.2.1) (flatD enc_GChange r52_3.2.1)))] (Ocf [] [5] [] 0 (ok_token_Book_Drop r38_1.1 r30_0.2.1 r52_3 hr52_3) (fun a w => Try.call11 a w) rfl trivial) ?_
 refine Wy (.tup [(.agg [(.l enc_GLeave_ r52_3.1.L)]), (.own 5), (.i r52_3.2.2)]) [] (Omv rfl) ?_
 refine Wy (.agg [(.l enc_GLeave_ r52_3.1.L)]) [] (Oex rfl) ?_
 refine Wy (.own 5) [] (Oex rfl) ?_
 refine Wy (.i r52_3.2.2) [] (Oex rfl) ?_
 refine Wy (.loc 6 0) [(6, (.box [(.d .nil)]))] (Oal rfl) ?_
 refine Wy (.tup []) [(6, (.box [(.l enc_GLeave_ r52_3.1.L)]))] (Ost rfl) ?_
 refine Wy (.own 5) [] (Omv rfl) ?_
 refine Wy (.i r52_3.2.2) [] (Omv rfl) ?_
 refine Walk.nil ?_
 refine Then.normal ?_
 refine Amk 31230 111 ⟨(tp 1 ((.loc 0 0) :: ((.loc 2 0) :: ((.i r30_0.2.1) :: ((.own 1) :: ((.i r30_0.2.2.2) :: ((.loc 3 0) :: ((.l enc_GChange r38_1.2.1) :: ((.i r38_1.2.2) :: (tp 2 ((.i r45_2.2.2) :: ((.loc 6 0) :: ((.own 5) :: ((.i r52_3.2.2) :: (tp 191 []))))))))))))))), [(.box [(.d .nil)]), (.arr 65 3 (List.length r30_0.2.2.1) (flatD enc_GChange r30_0.2.2.1)), (.box [(.l enc_GLeave_ r30_0.1.L)]), (.box [(.l enc_GLeave_ r38_1.1.L)]), .gone, (.arr 65 3 (List.length r52_3.2.1) (flatD enc_GChange r52_3.2.1)), (.box [(.l enc_GLeave_ r52_3.1.L)])], 0⟩ ?_
 refine AWP.seq ?_
 refine AWP.text ?_
 refine Wy (.agg [(.l enc_GLeave_ r52_3.1.L)]) [] (Old rfl) ?_
 refine Wy (.i r30_0.2.1) [] (Omv rfl) ?_
 obtain ⟨r59_4, hr59_4, hm⟩ := bnd hm
 refine Wy (.tup [(.agg [(.l enc_GLeave_ r59_4.1.L)]), (.own 7), (.i r59_4.2.2)]) [(7, (.arr 65 3 (List.length r59_4.2.1) (flatD enc_GChange r59_4.2.1)))] (Ocf [] [7] [] 0 (ok_token_Book_Drop r52_3.1 r30_0.2.1 r59_4 hr59_4) (fun a w => Try.call11 a w) rfl trivial) ?_
 refine Wy (.tup [(.agg [(.l enc_GLeave_ r59_4.1.L)]), (.own 7), (.i r59_4.2.2)]) [] (Omv rfl) ?_
 refine Wy (.agg [(.l enc_GLeave_ r59_4.1.L)]) [] (Oex rfl) ?_
 refine Wy (.own 7) [] (Oex rfl) ?_
 refine Wy (.i r59_4.2.2) [] (Oex rfl) ?_
 refine Wy (.loc 8 0) [(8, (.box [(.d .nil)]))] (Oal rfl) ?_
 refine Wy (.tup []) [(8, (.box [(.l enc_GLeave_ r59_4.1.L)]))] (Ost rfl) ?_
 refine Wy (.own 7) [] (Omv rfl) ?_
 refine Wy (.i r59_4.2.2) [] (Omv rfl) ?_
 refine Walk.nil ?_
 refine Then.normal ?_
 refine Amk 162302 111 ⟨(tp 1 ((.loc 0 0) :: ((.loc 2 0) :: ((.i r30_0.2.1) :: ((.own 1) :: ((.i r30_0.2.2.2) :: ((.loc 3 0) :: ((.l enc_GChange r38_1.2.1) :: ((.i r38_1.2.2) :: (tp 2 ((.i r45_2.2.2) :: ((.loc 6 0) :: ((.own 5) :: ((.i r52_3.2.2) :: (tp 2 ((.i r59_4.2.2) :: (tp 188 []))))))))))))))))), [(.box [(.d .nil)]), (.arr 65 3 (List.length r30_0.2.2.1) (flatD enc_GChange r30_0.2.2.1)), (.box [(.l enc_GLeave_ r30_0.1.L)]), (.box [(.l enc_GLeave_ r38_1.1.L)]), .gone, (.arr 65 3 (List.length r52_3.2.1) (flatD enc_GChange r52_3.2.1)), (.box [(.l enc_GLeave_ r52_3.1.L)]), .gone, .gone], 0⟩ ?_
 refine AWP.seq ?_
 refine AWP.text ?_
 refine Wy (.agg [(.l enc_GLeave_ r52_3.1.L)]) [] (Old rfl) ?_
 obtain ⟨r65_5, hr65_5, hm⟩ := bnd hm
 refine Wy (.tup [(.agg [(.l enc_GLeave_ r65_5.1.L)]), (.own 9), (.i r65_5.2.2)]) [(9, (.arr 65 3 (List.length r65_5.2.1) (flatD enc_GChange r65_5.2.1)))] (Ocf [] [9] [] 0 (ok_token_Book_Drop r52_3.1 1 r65_5 hr65_5) (fun a w => Try.call11 a w) rfl trivial) ?_
 refine Wy (.tup [(.agg [(.l enc_GLeave_ r65_5.1.L)]), (.own 9), (.i r65_5.2.2)]) [] (Omv rfl) ?_
 refine Wy (.agg [(.l enc_GLeave_ r65_5.1.L)]) [] (Oex rfl) ?_
 refine Wy (.own 9) [] (Oex rfl) ?_
 refine Wy (.i r65_5.2.2) [] (Oex rfl) ?_
 refine Wy (.loc 10 0) [(10, (.box [(.d .nil)]))] (Oal rfl) ?_
 refine Wy (.tup []) [(10, (.box [(.l enc_GLeave_ r65_5.1.L)]))] (Ost rfl) ?_
 refine Wy (.own 9) [] (Omv rfl) ?_
 refine Wy (.i r65_5.2.2) [] (Omv rfl) ?_
 refine Walk.nil ?_
 refine Then.normal ?_
 refine Amk 1210878 111 ⟨(tp 1 ((.loc 0 0) :: ((.loc 2 0) :: ((.i r30_0.2.1) :: ((.own 1) :: ((.i r30_0.2.2.2) :: ((.loc 3 0) :: ((.l enc_GChange r38_1.2.1) :: ((.i r38_1.2.2) :: (tp 2 ((.i r45_2.2.2) :: ((.loc 6 0) :: ((.own 5) :: ((.i r52_3.2.2) :: (tp 2 ((.i r59_4.2.2) :: (tp 2 ((.i r65_5.2.2) :: (tp 185 []))))))))))))))))))), [(.box [(.d .nil)]), (.arr 65 3 (List.length r30_0.2.2.1) (flatD enc_GChange r30_0.2.2.1)), (.box [(.l enc_GLeave_ r30_0.1.L)]), (.box [(.l enc_GLeave_ r38_1.1.L)]), .gone, (.arr 65 3 (List.length r52_3.2.1) (flatD enc_GChange r52_3.2.1)), (.box [(.l enc_GLeave_ r52_3.1.L)]), .gone, .gone, .gone, .gone], 0⟩ ?_
 refine AWP.seq ?_
 refine AWP.text ?_
 refine Wy (.agg [(.d .nil)]) [] (Old rfl) ?_
 refine Wy (.agg [(.i 4), (.i 0)]) [] (Obd rfl) ?_
 obtain ⟨r72_6, hr72_6, hm⟩ := bnd hm
 refine Wy (.tup [(.agg [(.l enc_GLeave_ r72_6.1.L)]), (.i r72_6.2.1), (.own 11), (.i r72_6.2.2.2)]) [(11, (.arr 65 3 (List.length r72_6.2.2.1) (flatD enc_GChange r72_6.2.2.1)))] (Ocf [] [11] [] 0 (ok_token_Book_Hold (GBook.mk ([] : List GLeave_)) (GPoint.mk 4 0) r72_6 hr72_6) (fun a w => Try.call7 a w) rfl trivial) ?_
 refine Wy (.tup [(.agg [(.l enc_GLeave_ r72_6.1.L)]), (.i r72_6.2.1), (.own 11), (.i r72_6.2.2.2)]) [] (Omv rfl) ?_
 refine Wy (.agg [(.l enc_GLeave_ r72_6.1.L)]) [] (Oex rfl) ?_
 refine Wy (.i r72_6.2.1) [] (Oex rfl) ?_
 refine Wy (.own 11) [] (Oex rfl) ?_
 refine Wy (.i r72_6.2.2.2) [] (Oex rfl) ?_
 refine Wy (.loc 12 0) [(12, (.box [(.d .nil)]))] (Oal rfl) ?_
 refine Wy (.tup []) [(12, (.box [(.l enc_GLeave_ r72_6.1.L)]))] (Ost rfl) ?_
 refine Wy (.i r72_6.2.1) [] (Omv rfl) ?_
 refine Wy (.own 11) [] (Omv rfl) ?_
 refine Wy (.i r72_6.2.2.2) [] (Omv rfl) ?_
 refine Walk.nil ?_
 refine Then.normal ?_
 refine Amk 22182396 110 ⟨(tp 2 ((.loc 2 0) :: ((.i r30_0.2.1) :: ((.own 1) :: ((.i r30_0.2.2.2) :: ((.loc 3 0) :: ((.l enc_GChange r38_1.2.1) :: ((.i r38_1.2.2) :: (tp 2 ((.i r45_2.2.2) :: ((.loc 6 0) :: ((.own 5) :: ((.i r52_3.2.2) :: (tp 2 ((.i r59_4.2.2) :: (tp 2 ((.i r65_5.2.2) :: (tp 1 ((.i r72_6.2.1) :: (tp 1 ((.i r72_6.2.2.2) :: (tp 181 [])))))))))))))))))))))), [.gone, (.arr 65 3 (List.length r30_0.2.2.1) (flatD enc_GChange r30_0.2.2.1)), (.box [(.l enc_GLeave_ r30_0.1.L)]), (.box [(.l enc_GLeave_ r38_1.1.L)]), .gone, (.arr 65 3 (List.length r52_3.2.1) (flatD enc_GChange r52_3.2.1)), (.box [(.l enc_GLeave_ r52_3.1.L)]), .gone, .gone, .gone, .gone, .gone, .gone], 0⟩ ?_
 refine AWP.seq ?_
 refine AWP.text ?_
 refine Wy (.agg [(.l enc_GLeave_ r38_1.1.L)]) [] (Old rfl) ?_
 obtain ⟨r79_7, hr79_7, hm⟩ := bnd hm
 refine Wy (.tup [(.agg [(.i r79_7.1.Point.Loc), (.i r79_7.1.Point.Time), (.b r79_7.1.Held)]), (.b r79_7.2)]) [] (Ocf [] [] [] 0 (ok_token_Book_Get r38_1.1 0 r79_7 hr79_7) (fun a w => Try.call13 a w) rfl trivial) ?_
 refine Wy (.tup [(.agg [(.i r79_7.1.Point.Loc), (.i r79_7.1.Point.Time), (.b r79_7.1.Held)]), (.b r79_7.2)]) [] (Omv rfl) ?_
 refine Wy (.agg [(.i r79_7.1.Point.Loc), (.i r79_7.1.Point.Time), (.b r79_7.1.Held)]) [] (Oex rfl) ?_
 refine Wy (.b r79_7.2) [] (Oex rfl) ?_
 refine Wy (.loc 13 0) [(13, (.box [(.i 0), (.i 0), (.b false)]))] (Oal rfl) ?_
 refine Wy (.tup []) [(13, (.box [(.i r79_7.1.Point.Loc), (.i r79_7.1.Point.Time), (.b r79_7.1.Held)]))] (Ost rfl) ?_
 refine Wy (.b r79_7.2) [] (Omv rfl) ?_
 refine Walk.nil ?_
 refine Then.normal ?_
 refine Amk 122845692 8302 ⟨(tp 2 ((.loc 2 0) :: ((.i r30_0.2.1) :: ((.own 1) :: ((.i r30_0.2.2.2) :: ((.loc 3 0) :: ((.l enc_GChange r38_1.2.1) :: ((.i r38_1.2.2) :: (tp 2 ((.i r45_2.2.2) :: ((.loc 6 0) :: ((.own 5) :: ((.i r52_3.2.2) :: (tp 2 ((.i r59_4.2.2) :: (tp 2 ((.i r65_5.2.2) :: (tp 1 ((.i r72_6.2.1) :: (tp 1 ((.i r72_6.2.2.2) :: ((.loc 13 0) :: ((.b r79_7.2) :: (tp 179 [])))))))))))))))))))))))), [.gone, (.arr 65 3 (List.length r30_0.2.2.1) (flatD enc_GChange r30_0.2.2.1)), (.box [(.l enc_GLeave_ r30_0.1.L)]), (.box [(.l enc_GLeave_ r38_1.1.L)]), .gone, (.arr 65 3 (List.length r52_3.2.1) (flatD enc_GChange r52_3.2.1)), (.box [(.l enc_GLeave_ r52_3.1.L)]), .gone, .gone, .gone, .gone, .gone, .gone, (.box [(.i r79_7.1.Point.Loc), (.i r79_7.1.Point.Time), (.b r79_7.1.Held)])], 0⟩ ?_
 refine AWP.seq ?_
 refine AWP.text ?_
 refine Wy (.i r30_0.2.2.2) [] (Omv rfl) ?_
 refine Wy (.b (decide (r30_0.2.2.2 = 0))) [] (Obn rfl (fun _ => hb_eql (k := .i64))) ?_
 rcases tf_ (decide (r30_0.2.2.2 = 0)) with hq84_8 | hq84_8
 ·
  replace hm := cT hq84_8 hm
  refine Wy (.b true) [] (Ocs (lit_tf (b := decide (r30_0.2.2.2 = 0)) hq84_8) (Omv rfl)) ?_
  refine Wy (.i r30_0.2.1) [] (Omv rfl) ?_
  refine Wy (.b (decide (r30_0.2.1 = 0))) [] (Obn rfl (fun _ => hb_eql (k := .i64))) ?_
  refine Wy (.b (decide (r30_0.2.1 = 0))) [] (OpT rfl) ?_
  rcases tf_ (decide (r30_0.2.1 = 0)) with hq88_8 | hq88_8
  ·
   replace hm := cT hq88_8 hm
   refine Wy (.b true) [] (Ocs (lit_tf (b := decide (r30_0.2.1 = 0)) hq88_8) (Omv rfl)) ?_
   refine Wy (.own 1) [] (Omv rfl) ?_
   refine Wy (.i ((List.length r30_0.2.2.1 : Nat) : Int)) [] (Oln rfl) ?_
   refine Wy (.b (decide (((List.length r30_0.2.2.1 : Nat) : Int) = 1))) [] (Obn rfl (fun _ => hb_eql (k := .i64))) ?_
   refine Wy (.b (decide (((List.length r30_0.2.2.1 : Nat) : Int) = 1))) [] (OpT rfl) ?_
   rcases tf_ (decide (((List.length r30_0.2.2.1 : Nat) : Int) = 1)) with hq93_8 | hq93_8
   ·
    replace hm := cT hq93_8 hm
    refine Wy (.b true) [] (Ocs (lit_tf (b := decide (((List.length r30_0.2.2.1 : Nat) : Int) = 1)) hq93_8) (Omv rfl)) ?_
    refine Wy (.own 1) [] (Omv rfl) ?_
    obtain ⟨x95_8, hx95_8, hm⟩ := bnd hm
    obtain ⟨hx95_8i, hx95_8g⟩ := geti_some hx95_8
    refine Wy (.loc 1 ((Int.toNat 0) * 3)) [] (Oia rfl enc_GChange_len hx95_8i hx95_8g) ?_
    refine Wy (.loc 1 ((Int.toNat 0) * 3 + 2)) [] (Ofa rfl) ?_
    refine Wy (.i x95_8.N) [] (Lrk1 2 rfl enc_GChange_len hx95_8g) ?_
    refine Wy (.b (decide (x95_8.N = 1))) [] (Obn rfl (fun _ => hb_eql (k := .i64))) ?_
    refine Wy (.b (decide (x95_8.N = 1))) [] (OpT rfl) ?_
    rcases tf_ (decide (x95_8.N = 1)) with hq100_8 | hq100_8
    ·
     replace hm := cT hq100_8 hm
     refine Wy (.b true) [] (Ocs (lit_tf (b := decide (x95_8.N = 1)) hq100_8) (Omv rfl)) ?_
     refine Wy (.i r38_1.2.2) [] (Omv rfl) ?_
     refine Wy (.b (decide (r38_1.2.2 = 0))) [] (Obn rfl (fun _ => hb_eql (k := .i64))) ?_
     refine Wy (.b (decide (r38_1.2.2 = 0))) [] (OpT rfl) ?_
     rcases tf_ (decide (r38_1.2.2 = 0)) with hq104_8 | hq104_8
     ·
      replace hm := cT hq104_8 hm
      refine Wy (.b true) [] (Ocs (lit_tf (b := decide (r38_1.2.2 = 0)) hq104_8) (Omv rfl)) ?_
      refine Wy (.l enc_GChange r38_1.2.1) [] (Omv rfl) ?_
      refine Wy (.i ((List.length r38_1.2.1 : Nat) : Int)) [] (Oln rfl) ?_
      refine Wy (.b (decide (((List.length r38_1.2.1 : Nat) : Int) = 2))) [] (Obn rfl (fun _ => hb_eql (k := .i64))) ?_
      refine Wy (.b (decide (((List.length r38_1.2.1 : Nat) : Int) = 2))) [] (OpT rfl) ?_
      rcases tf_ (decide (((List.length r38_1.2.1 : Nat) : Int) = 2)) with hq109_8 | hq109_8
      ·
       replace hm := cT hq109_8 hm
       refine Wy (.b true) [] (Ocs (lit_tf (b := decide (((List.length r38_1.2.1 : Nat) : Int) = 2)) hq109_8) (Omv rfl)) ?_
       refine Wy (.l enc_GChange r38_1.2.1) [] (Omv rfl) ?_
       obtain ⟨x111_8, hx111_8, hm⟩ := bnd hm
       obtain ⟨hx111_8i, hx111_8g⟩ := geti_some hx111_8
       refine Wy (.d (.ref (List.drop ((Int.toNat 0) * 3) (flatD enc_GChange r38_1.2.1)))) [] (Oia rfl enc_GChange_len hx111_8i hx111_8g) ?_
       refine Wy (.agg [(.i x111_8.Loc), (.i x111_8.Time), (.i x111_8.N)]) [] (Lf rfl enc_GChange_len hx111_8g) ?_
       refine Wy (.agg [(.i 0), (.i 0), (.i (-1))]) [] (Obd rfl) ?_
       refine Wy (.b (decide (x111_8.Loc = 0) && (decide (x111_8.Time = 0) && (decide (x111_8.N = (-1)) && true)))) [] (Ocs (by kernel_rfl) (op_eql_struct rfl (la := [(.i x111_8.Loc), (.i x111_8.Time), (.i x111_8.N)]) (lb := [(.i 0), (.i 0), (.i (-1))]) (us := [.int .i64 x111_8.Loc, .int .i64 x111_8.Time, .int .i64 x111_8.N]) (vs := [.int .i64 0, .int .i64 0, .int .i64 (-1)]) (r := (decide (x111_8.Loc = 0) && (decide (x111_8.Time = 0) && (decide (x111_8.N = (-1)) && true)))) (by kernel_rfl) (by kernel_rfl) (by kernel_rfl) (by kernel_rfl) (by kernel_rfl))) ?_
       refine Wy (.b (decide (x111_8.Loc = 0) && (decide (x111_8.Time = 0) && (decide (x111_8.N = (-1)) && true)))) [] (OpT rfl) ?_
       rcases tf_ (decide (x111_8.Loc = 0) && (decide (x111_8.Time = 0) && (decide (x111_8.N = (-1)) && true))) with hq116_8 | hq116_8
       ·
        replace hm := cT hq116_8 hm
        refine Wy (.b true) [] (Ocs (lit_tf (b := (decide (x111_8.Loc = 0) && (decide (x111_8.Time = 0) && (decide (x111_8.N = (-1)) && true)))) hq116_8) (Omv rfl)) ?_
        refine Wy (.l enc_GChange r38_1.2.1) [] (Omv rfl) ?_
        obtain ⟨x118_8, hx118_8, hm⟩ := bnd hm
        obtain ⟨hx118_8i, hx118_8g⟩ := geti_some hx118_8
        refine Wy (.d (.ref (List.drop ((Int.toNat 1) * 3) (flatD enc_GChange r38_1.2.1)))) [] (Oia rfl enc_GChange_len hx118_8i hx118_8g) ?_
        refine Wy (.agg [(.i x118_8.Loc), (.i x118_8.Time), (.i x118_8.N)]) [] (Lf rfl enc_GChange_len hx118_8g) ?_
        refine Wy (.agg [(.i 0), (.i 5), (.i 1)]) [] (Obd rfl) ?_
        refine Wy (.b (decide (x118_8.Loc = 0) && (decide (x118_8.Time = 5) && (decide (x118_8.N = 1) && true)))) [] (Ocs (by kernel_rfl) (op_eql_struct rfl (la := [(.i x118_8.Loc), (.i x118_8.Time), (.i x118_8.N)]) (lb := [(.i 0), (.i 5), (.i 1)]) (us := [.int .i64 x118_8.Loc, .int .i64 x118_8.Time, .int .i64 x118_8.N]) (vs := [.int .i64 0, .int .i64 5, .int .i64 1]) (r := (decide (x118_8.Loc = 0) && (decide (x118_8.Time = 5) && (decide (x118_8.N = 1) && true)))) (by kernel_rfl) (by kernel_rfl) (by kernel_rfl) (by kernel_rfl) (by kernel_rfl))) ?_
        refine Wy (.b (decide (x118_8.Loc = 0) && (decide (x118_8.Time = 5) && (decide (x118_8.N = 1) && true)))) [] (OpT rfl) ?_
        rcases tf_ (decide (x118_8.Loc = 0) && (decide (x118_8.Time = 5) && (decide (x118_8.N = 1) && true))) with hq123_8 | hq123_8
        ·
         replace hm := cT hq123_8 hm
         refine Wy (.b true) [] (Ocs (lit_tf (b := (decide (x118_8.Loc = 0) && (decide (x118_8.Time = 5) && (decide (x118_8.N = 1) && true)))) hq123_8) (Omv rfl)) ?_
         refine Wy (.i r45_2.2.2) [] (Omv rfl) ?_
         refine Wy (.b (decide (r45_2.2.2 = 8))) [] (Obn rfl (fun _ => hb_eql (k := .i64))) ?_
         refine Wy (.b (decide (r45_2.2.2 = 8))) [] (OpT rfl) ?_
         rcases tf_ (decide (r45_2.2.2 = 8)) with hq127_8 | hq127_8
         ·
          replace hm := cT hq127_8 hm
          refine Wy (.b true) [] (Ocs (lit_tf (b := decide (r45_2.2.2 = 8)) hq127_8) (Omv rfl)) ?_
          refine Wy (.i r52_3.2.2) [] (Omv rfl) ?_
          refine Wy (.b (decide (r52_3.2.2 = 0))) [] (Obn rfl (fun _ => hb_eql (k := .i64))) ?_
          refine Wy (.b (decide (r52_3.2.2 = 0))) [] (OpT rfl) ?_
          rcases tf_ (decide (r52_3.2.2 = 0)) with hq131_8 | hq131_8
          ·
           replace hm := cT hq131_8 hm
           refine Wy (.b true) [] (Ocs (lit_tf (b := decide (r52_3.2.2 = 0)) hq131_8) (Omv rfl)) ?_
           refine Wy (.own 5) [] (Omv rfl) ?_
           refine Wy (.i ((List.length r52_3.2.1 : Nat) : Int)) [] (Oln rfl) ?_
           refine Wy (.b (decide (((List.length r52_3.2.1 : Nat) : Int) = 1))) [] (Obn rfl (fun _ => hb_eql (k := .i64))) ?_
           refine Wy (.b (decide (((List.length r52_3.2.1 : Nat) : Int) = 1))) [] (OpT rfl) ?_
           rcases tf_ (decide (((List.length r52_3.2.1 : Nat) : Int) = 1)) with hq136_8 | hq136_8
           ·
            replace hm := cT hq136_8 hm
            refine Wy (.b true) [] (Ocs (lit_tf (b := decide (((List.length r52_3.2.1 : Nat) : Int) = 1)) hq136_8) (Omv rfl)) ?_
            refine Wy (.own 5) [] (Omv rfl) ?_
            obtain ⟨x138_8, hx138_8, hm⟩ := bnd hm
            obtain ⟨hx138_8i, hx138_8g⟩ := geti_some hx138_8
            refine Wy (.loc 5 ((Int.toNat 0) * 3)) [] (Oia rfl enc_GChange_len hx138_8i hx138_8g) ?_
            refine Wy (.loc 5 ((Int.toNat 0) * 3 + 2)) [] (Ofa rfl) ?_
            refine Wy (.i x138_8.N) [] (Lrk1 2 rfl enc_GChange_len hx138_8g) ?_
            refine Wy (.b (decide (x138_8.N = (-1)))) [] (Obn rfl (fun _ => hb_eql (k := .i64))) ?_
            refine Wy (.b (decide (x138_8.N = (-1)))) [] (OpT rfl) ?_
            rcases tf_ (decide (x138_8.N = (-1))) with hq143_8 | hq143_8
            ·
             replace hm := cT hq143_8 hm
             refine Wy (.b true) [] (Ocs (lit_tf (b := decide (x138_8.N = (-1))) hq143_8) (Omv rfl)) ?_
             refine Wy (.i r59_4.2.2) [] (Omv rfl) ?_
             refine Wy (.b (decide (r59_4.2.2 = 20))) [] (Obn rfl (fun _ => hb_eql (k := .i64))) ?_
             refine Wy (.b (decide (r59_4.2.2 = 20))) [] (OpT rfl) ?_
             rcases tf_ (decide (r59_4.2.2 = 20)) with hq147_8 | hq147_8
             ·
              replace hm := cT hq147_8 hm
              refine Wy (.b true) [] (Ocs (lit_tf (b := decide (r59_4.2.2 = 20)) hq147_8) (Omv rfl)) ?_
              refine Wy (.i r65_5.2.2) [] (Omv rfl) ?_
              refine Wy (.b (decide (r65_5.2.2 = 6))) [] (Obn rfl (fun _ => hb_eql (k := .i64))) ?_
              refine Wy (.b (decide (r65_5.2.2 = 6))) [] (OpT rfl) ?_
              rcases tf_ (decide (r65_5.2.2 = 6)) with hq151_8 | hq151_8
              ·
               replace hm := cT hq151_8 hm
               refine Wy (.b true) [] (Ocs (lit_tf (b := decide (r65_5.2.2 = 6)) hq151_8) (Omv rfl)) ?_
               refine Wy (.i r72_6.2.2.2) [] (Omv rfl) ?_
               refine Wy (.b (decide (r72_6.2.2.2 = 8))) [] (Obn rfl (fun _ => hb_eql (k := .i64))) ?_
               refine Wy (.b (decide (r72_6.2.2.2 = 8))) [] (OpT rfl) ?_
               rcases tf_ (decide (r72_6.2.2.2 = 8)) with hq155_8 | hq155_8
               ·
                replace hm := cT hq155_8 hm
                refine Wy (.b true) [] (Ocs (lit_tf (b := decide (r72_6.2.2.2 = 8)) hq155_8) (Omv rfl)) ?_
                refine Wy (.i r72_6.2.1) [] (Omv rfl) ?_
                refine Wy (.b (decide (r72_6.2.1 = (-1)))) [] (Obn rfl (fun _ => hb_eql (k := .i64))) ?_
                refine Wy (.b (decide (r72_6.2.1 = (-1)))) [] (OpT rfl) ?_
                rcases tf_ (decide (r72_6.2.1 = (-1))) with hq159_8 | hq159_8
                ·
                 replace hm := cT hq159_8 hm
                 refine Wy (.b true) [] (Ocs (lit_tf (b := decide (r72_6.2.1 = (-1))) hq159_8) (Omv rfl)) ?_
                 refine Wy (.agg [(.l enc_GLeave_ r38_1.1.L)]) [] (Old rfl) ?_
                 obtain ⟨r161_8, hr161_8, hm⟩ := bnd hm
                 refine Wy (.b r161_8) [] (Ocf [] [] [] 0 (ok_token_Book_May r38_1.1 0 5 r161_8 hr161_8) (fun a w => Try.call18 a w) rfl trivial) ?_
                 refine Wy (.b r161_8) [] (OpT rfl) ?_
                 rcases tf_ r161_8 with hq163_8 | hq163_8
                 ·
                  replace hm := cT hq163_8 hm
                  refine Wy (.b true) [] (Ocs (lit_tf (b := r161_8) hq163_8) (Omv rfl)) ?_
                  refine Wy (.agg [(.l enc_GLeave_ r38_1.1.L)]) [] (Old rfl) ?_
                  obtain ⟨r165_8, hr165_8, hm⟩ := bnd hm
                  refine Wy (.b r165_8) [] (Ocf [] [] [] 0 (ok_token_Book_May r38_1.1 0 4 r165_8 hr165_8) (fun a w => Try.call18 a w) rfl trivial) ?_
                  refine Wy (.b (!r165_8)) [] (Ocs (by kernel_rfl) (op_un rfl (a1 := .bool r165_8) (by kernel_rfl) (fun _ => hu_not))) ?_
                  refine Wy (.b (!r165_8)) [] (OpT rfl) ?_
                  rcases tf_ (!r165_8) with hq168_8 | hq168_8
                  ·
                   replace hm := cT hq168_8 hm
                   refine Wy (.b true) [] (Ocs (lit_tf (b := (!r165_8)) hq168_8) (Omv rfl)) ?_
                   refine Wy (.b r79_7.2) [] (Omv rfl) ?_
                   refine Wy (.b r79_7.2) [] (OpT rfl) ?_
                   rcases tf_ r79_7.2 with hq171_8 | hq171_8
                   ·
                    replace hm := cT hq171_8 hm
                    refine Wy (.b true) [] (Ocs (lit_tf (b := r79_7.2) hq171_8) (Omv rfl)) ?_
                    refine Wy (.loc 13 0) [] (Ofa rfl) ?_
                    refine Wy (.loc 13 1) [] (Ofa rfl) ?_
                    refine Wy (.i r79_7.1.Point.Time) [] (Old rfl) ?_
                    refine Wy (.b (decide (r79_7.1.Point.Time = 5))) [] (Obn rfl (fun _ => hb_eql (k := .i64))) ?_
                    refine Wy (.b (decide (r79_7.1.Point.Time = 5))) [] (OpT rfl) ?_
                    rcases tf_ (decide (r79_7.1.Point.Time = 5)) with hq177_8 | hq177_8
                    ·
                     replace hm := cT hq177_8 hm
                     refine Wy (.b true) [] (Ocs (lit_tf (b := decide (r79_7.1.Point.Time = 5)) hq177_8) (Omv rfl)) ?_
                     refine Wy (.loc 13 2) [] (Ofa rfl) ?_
                     refine Wy (.b r79_7.1.Held) [] (Old rfl) ?_
                     refine Wy (.b r79_7.1.Held) [] (OpT rfl) ?_
                     rcases tf_ r79_7.1.Held with hq181_8 | hq181_8
                     ·
                      replace hm := cT hq181_8 hm
                      refine Wy (.b true) [] (Ocs (lit_tf (b := r79_7.1.Held) hq181_8) (Omv rfl)) ?_
                      refine Wy (.agg [(.l enc_GLeave_ r38_1.1.L)]) [] (Old rfl) ?_
                      obtain ⟨r183_8, hr183_8, hm⟩ := bnd hm
                      refine Wy (.l enc_GChange r183_8) [] (Ocf [] [] [] 0 (ok_token_Book_Tally r38_1.1 r183_8 hr183_8) (fun a w => Try.call20 a w) rfl trivial) ?_
                      refine Wy (.i ((List.length r183_8 : Nat) : Int)) [] (Oln rfl) ?_
                      refine Wy (.b (decide (((List.length r183_8 : Nat) : Int) = 1))) [] (Obn rfl (fun _ => hb_eql (k := .i64))) ?_
                      refine Wy (.b (decide (((List.length r183_8 : Nat) : Int) = 1))) [] (OpT rfl) ?_
                      rcases tf_ (decide (((List.length r183_8 : Nat) : Int) = 1)) with hq187_8 | hq187_8
                      ·
                       replace hm := cT hq187_8 hm
                       refine Wy (.b true) [] (Ocs (lit_tf (b := decide (((List.length r183_8 : Nat) : Int) = 1)) hq187_8) (Omv rfl)) ?_
                       refine Wy (.agg [(.l enc_GLeave_ r52_3.1.L)]) [] (Old rfl) ?_
                       obtain ⟨r189_8, hr189_8, hm⟩ := bnd hm
                       refine Wy (.l enc_GChange r189_8) [] (Ocf [] [] [] 0 (ok_token_Book_Tally r52_3.1 r189_8 hr189_8) (fun a w => Try.call20 a w) rfl trivial) ?_
                       refine Wy (.i ((List.length r189_8 : Nat) : Int)) [] (Oln rfl) ?_
                       refine Wy (.b (decide (((List.length r189_8 : Nat) : Int) = 0))) [] (Obn rfl (fun _ => hb_eql (k := .i64))) ?_
                       refine Wy (.b (decide (((List.length r189_8 : Nat) : Int) = 0))) [] (OpT rfl) ?_
                       rcases tf_ (decide (((List.length r189_8 : Nat) : Int) = 0)) with hq193_8 | hq193_8
                       ·
                        replace hm := cT hq193_8 hm
                        refine Wy (.b true) [] (Ocs (lit_tf (b := decide (((List.length r189_8 : Nat) : Int) = 0)) hq193_8) (Omv rfl)) ?_
                        refine Wy (.agg [(.l enc_GLeave_ r38_1.1.L)]) [] (Old rfl) ?_
                        refine Wy (.agg [(.l enc_GLeave_ r38_1.1.L)]) [] (Old rfl) ?_
                        obtain ⟨r196_8, hr196_8, hm⟩ := bnd hm
                        refine Wy (.b r196_8) [] (Ocf [] [] [] 0 (ok_token_Same r38_1.1 r38_1.1 r196_8 hr196_8) (fun a w => Try.call22 a w) rfl trivial) ?_
                        refine Wy (.b r196_8) [] (OpT rfl) ?_
                        rcases tf_ r196_8 with hq198_8 | hq198_8
                        ·
                         replace hm := cT hq198_8 hm
                         refine Wy (.b true) [] (Ocs (lit_tf (b := r196_8) hq198_8) (Omv rfl)) ?_
                         refine Wy (.agg [(.l enc_GLeave_ r30_0.1.L)]) [] (Old rfl) ?_
                         refine Wy (.agg [(.l enc_GLeave_ r38_1.1.L)]) [] (Old rfl) ?_
                         obtain ⟨r201_8, hr201_8, hm⟩ := bnd hm
                         refine Wy (.b r201_8) [] (Ocf [] [] [] 0 (ok_token_Same r30_0.1 r38_1.1 r201_8 hr201_8) (fun a w => Try.call22 a w) rfl trivial) ?_
                         refine Wy (.b (!r201_8)) [] (Ocs (by kernel_rfl) (op_un rfl (a1 := .bool r201_8) (by kernel_rfl) (fun _ => hu_not))) ?_
                         refine Wy (.b (!r201_8)) [] (OpT rfl) ?_
                         rcases tf_ (!r201_8) with hq204_8 | hq204_8
                         ·
                          replace hm := cT hq204_8 hm
                          refine Wy (.b true) [] (Ocs (lit_tf (b := (!r201_8)) hq204_8) (Omv rfl)) ?_
                          refine Wy (.b true) [] (OpT rfl) ?_
                          refine Wy (.b true) [] (Omv rfl) ?_
                          refine Walk.nil ?_
                          refine Then.normal ?_
                          refine AWP.ret ?_
                          obtain rfl := Option.some.inj hm
                          exact ret_i []
                         ·
                          replace hm := cF hq204_8 hm
                          refine Wy (.b false) [] (Ocs (lit_tf (b := (!r201_8)) hq204_8) (Omv rfl)) ?_
                          refine Wy (.b false) [] (OpF rfl) ?_
                          refine Wy (.b false) [] (Omv rfl) ?_
                          refine Walk.nil ?_
                          refine Then.normal ?_
                          refine AWP.ret ?_
                          obtain rfl := Option.some.inj hm
                          exact ret_i []
                        ·
                         replace hm := cF hq198_8 hm
                         refine Wy (.b false) [] (Ocs (lit_tf (b := r196_8) hq198_8) (Omv rfl)) ?_
                         refine Wn ?_
                         refine Wn ?_
                         refine Wn ?_
                         refine Wn ?_
                         refine Wy (.b false) [] (OpF rfl) ?_
                         refine Wy (.b false) [] (Omv rfl) ?_
                         refine Wy (.b false) [] (OpF rfl) ?_
                         refine Wy (.b false) [] (Omv rfl) ?_
                         refine Walk.nil ?_
                         refine Then.normal ?_
                         refine AWP.ret ?_
                         obtain rfl := Option.some.inj hm
                         exact ret_i []
                       ·
                        replace hm := cF hq193_8 hm
                        refine Wy (.b false) [] (Ocs (lit_tf (b := decide (((List.length r189_8 : Nat) : Int) = 0)) hq193_8) (Omv rfl)) ?_
                        refine Wn ?_
                        refine Wn ?_
                        refine Wn ?_
                        refine Wy (.b false) [] (OpF rfl) ?_
                        refine Wy (.b false) [] (Omv rfl) ?_
                        refine Wn ?_
                        refine Wn ?_
                        refine Wn ?_
                        refine Wn ?_
                        refine Wy (.b false) [] (OpF rfl) ?_
                        refine Wy (.b false) [] (Omv rfl) ?_
                        refine Wy (.b false) [] (OpF rfl) ?_
                        refine Wy (.b false) [] (Omv rfl) ?_
                        refine Walk.nil ?_
                        refine Then.normal ?_
                        refine AWP.ret ?_
                        obtain rfl := Option.some.inj hm
                        exact ret_i []
                      ·
                       replace hm := cF hq187_8 hm
                       refine Wy (.b false) [] (Ocs (lit_tf (b := decide (((List.length r183_8 : Nat) : Int) = 1)) hq187_8) (Omv rfl)) ?_
                       refine Wn ?_
                       refine Wn ?_
                       refine Wn ?_
                       refine Wn ?_
                       refine Wy (.b false) [] (OpF rfl) ?_
                       refine Wy (.b false) [] (Omv rfl) ?_
                       refine Wn ?_
                       refine Wn ?_
                       refine Wn ?_
                       refine Wy (.b false) [] (OpF rfl) ?_
                       refine Wy (.b false) [] (Omv rfl) ?_
                       refine Wn ?_
                       refine Wn ?_
                       refine Wn ?_
                       refine Wn ?_
                       refine Wy (.b false) [] (OpF rfl) ?_
                       refine Wy (.b false) [] (Omv rfl) ?_
                       refine Wy (.b false) [] (OpF rfl) ?_
                       refine Wy (.b false) [] (Omv rfl) ?_
                       refine Walk.nil ?_
                       refine Then.normal ?_
                       refine AWP.ret ?_
                       obtain rfl := Option.some.inj hm
                       exact ret_i []
                     ·
                      replace hm := cF hq181_8 hm
                      refine Wy (.b false) [] (Ocs (lit_tf (b := r79_7.1.Held) hq181_8) (Omv rfl)) ?_
                      refine Wn ?_
                      refine Wn ?_
                      refine Wn ?_
                      refine Wn ?_
                      refine Wy (.b false) [] (OpF rfl) ?_
                      refine Wy (.b false) [] (Omv rfl) ?_
                      refine Wn ?_
                      refine Wn ?_
                      refine Wn ?_
                      refine Wn ?_
                      refine Wy (.b false) [] (OpF rfl) ?_
                      refine Wy (.b false) [] (Omv rfl) ?_
                      refine Wn ?_
                      refine Wn ?_
                      refine Wn ?_
                      refine Wy (.b false) [] (OpF rfl) ?_
                      refine Wy (.b false) [] (Omv rfl) ?_
                      refine Wn ?_
                      refine Wn ?_
                      refine Wn ?_
                      refine Wn ?_
                      refine Wy (.b false) [] (OpF rfl) ?_
                      refine Wy (.b false) [] (Omv rfl) ?_
                      refine Wy (.b false) [] (OpF rfl) ?_
                      refine Wy (.b false) [] (Omv rfl) ?_
                      refine Walk.nil ?_
                      refine Then.normal ?_
                      refine AWP.ret ?_
                      obtain rfl := Option.some.inj hm
                      exact ret_i []
                    ·
                     replace hm := cF hq177_8 hm
                     refine Wy (.b false) [] (Ocs (lit_tf (b := decide (r79_7.1.Point.Time = 5)) hq177_8) (Omv rfl)) ?_
                     refine Wn ?_
                     refine Wn ?_
                     refine Wy (.b false) [] (OpF rfl) ?_
                     refine Wy (.b false) [] (Omv rfl) ?_
                     refine Wn ?_
                     refine Wn ?_
                     refine Wn ?_
                     refine Wn ?_
                     refine Wy (.b false) [] (OpF rfl) ?_
                     refine Wy (.b false) [] (Omv rfl) ?_
                     refine Wn ?_
                     refine Wn ?_
                     refine Wn ?_
                     refine Wn ?_
                     refine Wy (.b false) [] (OpF rfl) ?_
                     refine Wy (.b false) [] (Omv rfl) ?_
                     refine Wn ?_
                     refine Wn ?_
                     refine Wn ?_
                     refine Wy (.b false) [] (OpF rfl) ?_
                     refine Wy (.b false) [] (Omv rfl) ?_
                     refine Wn ?_
                     refine Wn ?_
                     refine Wn ?_
                     refine Wn ?_
                     refine Wy (.b false) [] (OpF rfl) ?_
                     refine Wy (.b false) [] (Omv rfl) ?_
                     refine Wy (.b false) [] (OpF rfl) ?_
                     refine Wy (.b false) [] (Omv rfl) ?_
                     refine Walk.nil ?_
                     refine Then.normal ?_
                     refine AWP.ret ?_
                     obtain rfl := Option.some.inj hm
                     exact ret_i []
                   ·
                    replace hm := cF hq171_8 hm
                    refine Wy (.b false) [] (Ocs (lit_tf (b := r79_7.2) hq171_8) (Omv rfl)) ?_
                    refine Wn ?_
                    refine Wn ?_
                    refine Wn ?_
                    refine Wn ?_
                    refine Wy (.b false) [] (OpF rfl) ?_
                    refine Wy (.b false) [] (Omv rfl) ?_
                    refine Wn ?_
                    refine Wn ?_
                    refine Wy (.b false) [] (OpF rfl) ?_
                    refine Wy (.b false) [] (Omv rfl) ?_
                    refine Wn ?_
                    refine Wn ?_
                    refine Wn ?_
                    refine Wn ?_
                    refine Wy (.b false) [] (OpF rfl) ?_
                    refine Wy (.b false) [] (Omv rfl) ?_
                    refine Wn ?_
                    refine Wn ?_
                    refine Wn ?_
                    refine Wn ?_
                    refine Wy (.b false) [] (OpF rfl) ?_
                    refine Wy (.b false) [] (Omv rfl) ?_
                    refine Wn ?_
                    refine Wn ?_
                    refine Wn ?_
                    refine Wy (.b false) [] (OpF rfl) ?_
                    refine Wy (.b false) [] (Omv rfl) ?_
                    refine Wn ?_
                    refine Wn ?_
                    refine Wn ?_
                    refine Wn ?_
                    refine Wy (.b false) [] (OpF rfl) ?_
                    refine Wy (.b false) [] (Omv rfl) ?_
                    refine Wy (.b false) [] (OpF rfl) ?_
                    refine Wy (.b false) [] (Omv rfl) ?_
                    refine Walk.nil ?_
                    refine Then.normal ?_
                    refine AWP.ret ?_
                    obtain rfl := Option.some.inj hm
                    exact ret_i []
                  ·
                   replace hm := cF hq168_8 hm
                   refine Wy (.b false) [] (Ocs (lit_tf (b := (!r165_8)) hq168_8) (Omv rfl)) ?_
                   refine Wn ?_
                   refine Wy (.b false) [] (OpF rfl) ?_
                   refine Wy (.b false) [] (Omv rfl) ?_
                   refine Wn ?_
                   refine Wn ?_
                   refine Wn ?_
                   refine Wn ?_
                   refine Wy (.b false) [] (OpF rfl) ?_
                   refine Wy (.b false) [] (Omv rfl) ?_
                   refine Wn ?_
                   refine Wn ?_
                   refine Wy (.b false) [] (OpF rfl) ?_
                   refine Wy (.b false) [] (Omv rfl) ?_
                   refine Wn ?_
                   refine Wn ?_
                   refine Wn ?_
                   refine Wn ?_
                   refine Wy (.b false) [] (OpF rfl) ?_
                   refine Wy (.b false) [] (Omv rfl) ?_
                   refine Wn ?_
                   refine Wn ?_
                   refine Wn ?_
                   refine Wn ?_
                   refine Wy (.b false) [] (OpF rfl) ?_
                   refine Wy (.b false) [] (Omv rfl) ?_
                   refine Wn ?_
                   refine Wn ?_
                   refine Wn ?_
                   refine Wy (.b false) [] (OpF rfl) ?_
                   refine Wy (.b false) [] (Omv rfl) ?_
                   refine Wn ?_
                   refine Wn ?_
                   refine Wn ?_
                   refine Wn ?_
                   refine Wy (.b false) [] (OpF rfl) ?_
                   refine Wy (.b false) [] (Omv rfl) ?_
                   refine Wy (.b false) [] (OpF rfl) ?_
                   refine Wy (.b false) [] (Omv rfl) ?_
                   refine Walk.nil ?_
                   refine Then.normal ?_
                   refine AWP.ret ?_
                   obtain rfl := Option.some.inj hm
                   exact ret_i []
                 ·
                  replace hm := cF hq163_8 hm
                  refine Wy (.b false) [] (Ocs (lit_tf (b := r161_8) hq163_8) (Omv rfl)) ?_
                  refine Wn ?_
                  refine Wn ?_
                  refine Wn ?_
                  refine Wy (.b false) [] (OpF rfl) ?_
                  refine Wy (.b false) [] (Omv rfl) ?_
                  refine Wn ?_
                  refine Wy (.b false) [] (OpF rfl) ?_
                  refine Wy (.b false) [] (Omv rfl) ?_
                  refine Wn ?_
                  refine Wn ?_
                  refine Wn ?_
                  refine Wn ?_
                  refine Wy (.b false) [] (OpF rfl) ?_
                  refine Wy (.b false) [] (Omv rfl) ?_
                  refine Wn ?_
                  refine Wn ?_
                  refine Wy (.b false) [] (OpF rfl) ?_
                  refine Wy (.b false) [] (Omv rfl) ?_
                  refine Wn ?_
                  refine Wn ?_
                  refine Wn ?_
                  refine Wn ?_
                  refine Wy (.b false) [] (OpF rfl) ?_
                  refine Wy (.b false) [] (Omv rfl) ?_
                  refine Wn ?_
                  refine Wn ?_
                  refine Wn ?_
                  refine Wn ?_
                  refine Wy (.b false) [] (OpF rfl) ?_
                  refine Wy (.b false) [] (Omv rfl) ?_
                  refine Wn ?_
                  refine Wn ?_
                  refine Wn ?_
                  refine Wy (.b false) [] (OpF rfl) ?_
                  refine Wy (.b false) [] (Omv rfl) ?_
                  refine Wn ?_
                  refine Wn ?_
                  refine Wn ?_
                  refine Wn ?_
                  refine Wy (.b false) [] (OpF rfl) ?_
                  refine Wy (.b false) [] (Omv rfl) ?_
                  refine Wy (.b false) [] (OpF rfl) ?_
                  refine Wy (.b false) [] (Omv rfl) ?_
                  refine Walk.nil ?_
                  refine Then.normal ?_
                  refine AWP.ret ?_
                  obtain rfl := Option.some.inj hm
                  exact ret_i []
                ·
                 replace hm := cF hq159_8 hm
                 refine Wy (.b false) [] (Ocs (lit_tf (b := decide (r72_6.2.1 = (-1))) hq159_8) (Omv rfl)) ?_
                 refine Wn ?_
                 refine Wn ?_
                 refine Wy (.b false) [] (OpF rfl) ?_
                 refine Wy (.b false) [] (Omv rfl) ?_
                 refine Wn ?_
                 refine Wn ?_
                 refine Wn ?_
                 refine Wy (.b false) [] (OpF rfl) ?_
                 refine Wy (.b false) [] (Omv rfl) ?_
                 refine Wn ?_
                 refine Wy (.b false) [] (OpF rfl) ?_
                 refine Wy (.b false) [] (Omv rfl) ?_
                 refine Wn ?_
                 refine Wn ?_
                 refine Wn ?_
                 refine Wn ?_
                 refine Wy (.b false) [] (OpF rfl) ?_
                 refine Wy (.b false) [] (Omv rfl) ?_
                 refine Wn ?_
                 refine Wn ?_
                 refine Wy (.b false) [] (OpF rfl) ?_
                 refine Wy (.b false) [] (Omv rfl) ?_
                 refine Wn ?_
                 refine Wn ?_
                 refine Wn ?_
                 refine Wn ?_
                 refine Wy (.b false) [] (OpF rfl) ?_
                 refine Wy (.b false) [] (Omv rfl) ?_
                 refine Wn ?_
                 refine Wn ?_
                 refine Wn ?_
                 refine Wn ?_
                 refine Wy (.b false) [] (OpF rfl) ?_
                 refine Wy (.b false) [] (Omv rfl) ?_
                 refine Wn ?_
                 refine Wn ?_
                 refine Wn ?_
                 refine Wy (.b false) [] (OpF rfl) ?_
                 refine Wy (.b false) [] (Omv rfl) ?_
                 refine Wn ?_
                 refine Wn ?_
                 refine Wn ?_
                 refine Wn ?_
                 refine Wy (.b false) [] (OpF rfl) ?_
                 refine Wy (.b false) [] (Omv rfl) ?_
                 refine Wy (.b false) [] (OpF rfl) ?_
                 refine Wy (.b false) [] (Omv rfl) ?_
                 refine Walk.nil ?_
                 refine Then.normal ?_
                 refine AWP.ret ?_
                 obtain rfl := Option.some.inj hm
                 exact ret_i []
               ·
                replace hm := cF hq155_8 hm
                refine Wy (.b false) [] (Ocs (lit_tf (b := decide (r72_6.2.2.2 = 8)) hq155_8) (Omv rfl)) ?_
                refine Wn ?_
                refine Wn ?_
                refine Wy (.b false) [] (OpF rfl) ?_
                refine Wy (.b false) [] (Omv rfl) ?_
                refine Wn ?_
                refine Wn ?_
                refine Wy (.b false) [] (OpF rfl) ?_
                refine Wy (.b false) [] (Omv rfl) ?_
                refine Wn ?_
                refine Wn ?_
                refine Wn ?_
                refine Wy (.b false) [] (OpF rfl) ?_
                refine Wy (.b false) [] (Omv rfl) ?_
                refine Wn ?_
                refine Wy (.b false) [] (OpF rfl) ?_
                refine Wy (.b false) [] (Omv rfl) ?_
                refine Wn ?_
                refine Wn ?_
                refine Wn ?_
                refine Wn ?_
                refine Wy (.b false) [] (OpF rfl) ?_
                refine Wy (.b false) [] (Omv rfl) ?_
                refine Wn ?_
                refine Wn ?_
                refine Wy (.b false) [] (OpF rfl) ?_
                refine Wy (.b false) [] (Omv rfl) ?_
                refine Wn ?_
                refine Wn ?_
                refine Wn ?_
                refine Wn ?_
                refine Wy (.b false) [] (OpF rfl) ?_
                refine Wy (.b false) [] (Omv rfl) ?_
                refine Wn ?_
                refine Wn ?_
                refine Wn ?_
                refine Wn ?_
                refine Wy (.b false) [] (OpF rfl) ?_
                refine Wy (.b false) [] (Omv rfl) ?_
                refine Wn ?_
                refine Wn ?_
                refine Wn ?_
                refine Wy (.b false) [] (OpF rfl) ?_
                refine Wy (.b false) [] (Omv rfl) ?_
                refine Wn ?_
                refine Wn ?_
                refine Wn ?_
                refine Wn ?_
                refine Wy (.b false) [] (OpF rfl) ?_
                refine Wy (.b false) [] (Omv rfl) ?_
                refine Wy (.b false) [] (OpF rfl) ?_
                refine Wy (.b false) [] (Omv rfl) ?_
                refine Walk.nil ?_
                refine Then.normal ?_
                refine AWP.ret ?_
                obtain rfl := Option.some.inj hm
                exact ret_i []
              ·
               replace hm := cF hq151_8 hm
               refine Wy (.b false) [] (Ocs (lit_tf (b := decide (r65_5.2.2 = 6)) hq151_8) (Omv rfl)) ?_
               refine Wn ?_
               refine Wn ?_
               refine Wy (.b false) [] (OpF rfl) ?_
               refine Wy (.b false) [] (Omv rfl) ?_
               refine Wn ?_
               refine Wn ?_
               refine Wy (.b false) [] (OpF rfl) ?_
               refine Wy (.b false) [] (Omv rfl) ?_
               refine Wn ?_
               refine Wn ?_
               refine Wy (.b false) [] (OpF rfl) ?_
               refine Wy (.b false) [] (Omv rfl) ?_
               refine Wn ?_
               refine Wn ?_
               refine Wn ?_
               refine Wy (.b false) [] (OpF rfl) ?_
               refine Wy (.b false) [] (Omv rfl) ?_
               refine Wn ?_
               refine Wy (.b false) [] (OpF rfl) ?_
               refine Wy (.b false) [] (Omv rfl) ?_
               refine Wn ?_
               refine Wn ?_
               refine Wn ?_
               refine Wn ?_
               refine Wy (.b false) [] (OpF rfl) ?_
               refine Wy (.b false) [] (Omv rfl) ?_
               refine Wn ?_
               refine Wn ?_
               refine Wy (.b false) [] (OpF rfl) ?_
               refine Wy (.b false) [] (Omv rfl) ?_
               refine Wn ?_
               refine Wn ?_
               refine Wn ?_
               refine Wn ?_
               refine Wy (.b false) [] (OpF rfl) ?_
               refine Wy (.b false) [] (Omv rfl) ?_
               refine Wn ?_
               refine Wn ?_
               refine Wn ?_
               refine Wn ?_
               refine Wy (.b false) [] (OpF rfl) ?_
               refine Wy (.b false) [] (Omv rfl) ?_
               refine Wn ?_
               refine Wn ?_
               refine Wn ?_
               refine Wy (.b false) [] (OpF rfl) ?_
               refine Wy (.b false) [] (Omv rfl) ?_
               refine Wn ?_
               refine Wn ?_
               refine Wn ?_
               refine Wn ?_
               refine Wy (.b false) [] (OpF rfl) ?_
               refine Wy (.b false) [] (Omv rfl) ?_
               refine Wy (.b false) [] (OpF rfl) ?_
               refine Wy (.b false) [] (Omv rfl) ?_
               refine Walk.nil ?_
               refine Then.normal ?_
               refine AWP.ret ?_
               obtain rfl := Option.some.inj hm
               exact ret_i []
             ·
              replace hm := cF hq147_8 hm
              refine Wy (.b false) [] (Ocs (lit_tf (b := decide (r59_4.2.2 = 20)) hq147_8) (Omv rfl)) ?_
              refine Wn ?_
              refine Wn ?_
              refine Wy (.b false) [] (OpF rfl) ?_
              refine Wy (.b false) [] (Omv rfl) ?_
              refine Wn ?_
              refine Wn ?_
              refine Wy (.b false) [] (OpF rfl) ?_
              refine Wy (.b false) [] (Omv rfl) ?_
              refine Wn ?_
              refine Wn ?_
              refine Wy (.b false) [] (OpF rfl) ?_
              refine Wy (.b false) [] (Omv rfl) ?_
              refine Wn ?_
              refine Wn ?_
              refine Wy (.b false) [] (OpF rfl) ?_
              refine Wy (.b false) [] (Omv rfl) ?_
              refine Wn ?_
              refine Wn ?_
              refine Wn ?_
              refine Wy (.b false) [] (OpF rfl) ?_
              refine Wy (.b false) [] (Omv rfl) ?_
              refine Wn ?_
              refine Wy (.b false) [] (OpF rfl) ?_
              refine Wy (.b false) [] (Omv rfl) ?_
              refine Wn ?_
              refine Wn ?_
              refine Wn ?_
              refine Wn ?_
              refine Wy (.b false) [] (OpF rfl) ?_
              refine Wy (.b false) [] (Omv rfl) ?_
              refine Wn ?_
              refine Wn ?_
              refine Wy (.b false) [] (OpF rfl) ?_
              refine Wy (.b false) [] (Omv rfl) ?_
              refine Wn ?_
              refine Wn ?_
              refine Wn ?_
              refine Wn ?_
              refine Wy (.b false) [] (OpF rfl) ?_
              refine Wy (.b false) [] (Omv rfl) ?_
              refine Wn ?_
              refine Wn ?_
              refine Wn ?_
              refine Wn ?_
              refine Wy (.b false) [] (OpF rfl) ?_
              refine Wy (.b false) [] (Omv rfl) ?_
              refine Wn ?_
              refine Wn ?_
              refine Wn ?_
              refine Wy (.b false) [] (OpF rfl) ?_
              refine Wy (.b false) [] (Omv rfl) ?_
              refine Wn ?_
              refine Wn ?_
              refine Wn ?_
              refine Wn ?_
              refine Wy (.b false) [] (OpF rfl) ?_
              refine Wy (.b false) [] (Omv rfl) ?_
              refine Wy (.b false) [] (OpF rfl) ?_
              refine Wy (.b false) [] (Omv rfl) ?_
              refine Walk.nil ?_
              refine Then.normal ?_
              refine AWP.ret ?_
              obtain rfl := Option.some.inj hm
              exact ret_i []
            ·
             replace hm := cF hq143_8 hm
             refine Wy (.b false) [] (Ocs (lit_tf (b := decide (x138_8.N = (-1))) hq143_8) (Omv rfl)) ?_
             refine Wn ?_
             refine Wn ?_
             refine Wy (.b false) [] (OpF rfl) ?_
             refine Wy (.b false) [] (Omv rfl) ?_
             refine Wn ?_
             refine Wn ?_
             refine Wy (.b false) [] (OpF rfl) ?_
             refine Wy (.b false) [] (Omv rfl) ?_
             refine Wn ?_
             refine Wn ?_
             refine Wy (.b false) [] (OpF rfl) ?_
             refine Wy (.b false) [] (Omv rfl) ?_
             refine Wn ?_
             refine Wn ?_
             refine Wy (.b false) [] (OpF rfl) ?_
             refine Wy (.b false) [] (Omv rfl) ?_
             refine Wn ?_
             refine Wn ?_
             refine Wy (.b false) [] (OpF rfl) ?_
             refine Wy (.b false) [] (Omv rfl) ?_
             refine Wn ?_
             refine Wn ?_
             refine Wn ?_
             refine Wy (.b false) [] (OpF rfl) ?_
             refine Wy (.b false) [] (Omv rfl) ?_
             refine Wn ?_
             refine Wy (.b false) [] (OpF rfl) ?_
             refine Wy (.b false) [] (Omv rfl) ?_
             refine Wn ?_
             refine Wn ?_
             refine Wn ?_
             refine Wn ?_
             refine Wy (.b false) [] (OpF rfl) ?_
             refine Wy (.b false) [] (Omv rfl) ?_
             refine Wn ?_
             refine Wn ?_
             refine Wy (.b false) [] (OpF rfl) ?_
             refine Wy (.b false) [] (Omv rfl) ?_
             refine Wn ?_
             refine Wn ?_
             refine Wn ?_
             refine Wn ?_
             refine Wy (.b false) [] (OpF rfl) ?_
             refine Wy (.b false) [] (Omv rfl) ?_
             refine Wn ?_
             refine Wn ?_
             refine Wn ?_
             refine Wn ?_
             refine Wy (.b false) [] (OpF rfl) ?_
             refine Wy (.b false) [] (Omv rfl) ?_
             refine Wn ?_
             refine Wn ?_
             refine Wn ?_
             refine Wy (.b false) [] (OpF rfl) ?_
             refine Wy (.b false) [] (Omv rfl) ?_
             refine Wn ?_
             refine Wn ?_
             refine Wn ?_
             refine Wn ?_
             refine Wy (.b false) [] (OpF rfl) ?_
             refine Wy (.b false) [] (Omv rfl) ?_
             refine Wy (.b false) [] (OpF rfl) ?_
             refine Wy (.b false) [] (Omv rfl) ?_
             refine Walk.nil ?_
             refine Then.normal ?_
             refine AWP.ret ?_
             obtain rfl := Option.some.inj hm
             exact ret_i []
           ·
            replace hm := cF hq136_8 hm
            refine Wy (.b false) [] (Ocs (lit_tf (b := decide (((List.length r52_3.2.1 : Nat) : Int) = 1)) hq136_8) (Omv rfl)) ?_
            refine Wn ?_
            refine Wn ?_
            refine Wn ?_
            refine Wn ?_
            refine Wn ?_
            refine Wy (.b false) [] (OpF rfl) ?_
            refine Wy (.b false) [] (Omv rfl) ?_
            refine Wn ?_
            refine Wn ?_
            refine Wy (.b false) [] (OpF rfl) ?_
            refine Wy (.b false) [] (Omv rfl) ?_
            refine Wn ?_
            refine Wn ?_
            refine Wy (.b false) [] (OpF rfl) ?_
            refine Wy (.b false) [] (Omv rfl) ?_
            refine Wn ?_
            refine Wn ?_
            refine Wy (.b false) [] (OpF rfl) ?_
            refine Wy (.b false) [] (Omv rfl) ?_
            refine Wn ?_
            refine Wn ?_
            refine Wy (.b false) [] (OpF rfl) ?_
            refine Wy (.b false) [] (Omv rfl) ?_
            refine Wn ?_
            refine Wn ?_
            refine Wy (.b false) [] (OpF rfl) ?_
            refine Wy (.b false) [] (Omv rfl) ?_
            refine Wn ?_
            refine Wn ?_
            refine Wn ?_
            refine Wy (.b false) [] (OpF rfl) ?_
            refine Wy (.b false) [] (Omv rfl) ?_
            refine Wn ?_
            refine Wy (.b false) [] (OpF rfl) ?_
            refine Wy (.b false) [] (Omv rfl) ?_
            refine Wn ?_
            refine Wn ?_
            refine Wn ?_
            refine Wn ?_
            refine Wy (.b false) [] (OpF rfl) ?_
            refine Wy (.b false) [] (Omv rfl) ?_
            refine Wn ?_
            refine Wn ?_
            refine Wy (.b false) [] (OpF rfl) ?_
            refine Wy (.b false) [] (Omv rfl) ?_
            refine Wn ?_
            refine Wn ?_
            refine Wn ?_
            refine Wn ?_
            refine Wy (.b false) [] (OpF rfl) ?_
            refine Wy (.b false) [] (Omv rfl) ?_
            refine Wn ?_
            refine Wn ?_
            refine Wn ?_
            refine Wn ?_
            refine Wy (.b false) [] (OpF rfl) ?_
            refine Wy (.b false) [] (Omv rfl) ?_
            refine Wn ?_
            refine Wn ?_
            refine Wn ?_
            refine Wy (.b false) [] (OpF rfl) ?_
            refine Wy (.b false) [] (Omv rfl) ?_
            refine Wn ?_
            refine Wn ?_
            refine Wn ?_
            refine Wn ?_
            refine Wy (.b false) [] (OpF rfl) ?_
            refine Wy (.b false) [] (Omv rfl) ?_
            refine Wy (.b false) [] (OpF rfl) ?_
            refine Wy (.b false) [] (Omv rfl) ?_
            refine Walk.nil ?_
            refine Then.normal ?_
            refine AWP.ret ?_
            obtain rfl := Option.some.inj hm
            exact ret_i []
          ·
           replace hm := cF hq131_8 hm
           refine Wy (.b false) [] (Ocs (lit_tf (b := decide (r52_3.2.2 = 0)) hq131_8) (Omv rfl)) ?_
           refine Wn ?_
           refine Wn ?_
           refine Wn ?_
           refine Wy (.b false) [] (OpF rfl) ?_
           refine Wy (.b false) [] (Omv rfl) ?_
           refine Wn ?_
           refine Wn ?_
           refine Wn ?_
           refine Wn ?_
           refine Wn ?_
           refine Wy (.b false) [] (OpF rfl) ?_
           refine Wy (.b false) [] (Omv rfl) ?_
           refine Wn ?_
           refine Wn ?_
           refine Wy (.b false) [] (OpF rfl) ?_
           refine Wy (.b false) [] (Omv rfl) ?_
           refine Wn ?_
           refine Wn ?_
           refine Wy (.b false) [] (OpF rfl) ?_
           refine Wy (.b false) [] (Omv rfl) ?_
           refine Wn ?_
           refine Wn ?_
           refine Wy (.b false) [] (OpF rfl) ?_
           refine Wy (.b false) [] (Omv rfl) ?_
           refine Wn ?_
           refine Wn ?_
           refine Wy (.b false) [] (OpF rfl) ?_
           refine Wy (.b false) [] (Omv rfl) ?_
           refine Wn ?_
           refine Wn ?_
           refine Wy (.b false) [] (OpF rfl) ?_
           refine Wy (.b false) [] (Omv rfl) ?_
           refine Wn ?_
           refine Wn ?_
           refine Wn ?_
           refine Wy (.b false) [] (OpF rfl) ?_
           refine Wy (.b false) [] (Omv rfl) ?_
           refine Wn ?_
           refine Wy (.b false) [] (OpF rfl) ?_
           refine Wy (.b false) [] (Omv rfl) ?_
           refine Wn ?_
           refine Wn ?_
           refine Wn ?_
           refine Wn ?_
           refine Wy (.b false) [] (OpF rfl) ?_
           refine Wy (.b false) [] (Omv rfl) ?_
           refine Wn ?_
           refine Wn ?_
           refine Wy (.b false) [] (OpF rfl) ?_
           refine Wy (.b false) [] (Omv rfl) ?_
           refine Wn ?_
           refine Wn ?_
           refine Wn ?_
           refine Wn ?_
           refine Wy (.b false) [] (OpF rfl) ?_
           refine Wy (.b false) [] (Omv rfl) ?_
           refine Wn ?_
           refine Wn ?_
           refine Wn ?_
           refine Wn ?_
           refine Wy (.b false) [] (OpF rfl) ?_
           refine Wy (.b false) [] (Omv rfl) ?_
           refine Wn ?_
           refine Wn ?_
           refine Wn ?_
           refine Wy (.b false) [] (OpF rfl) ?_
           refine Wy (.b false) [] (Omv rfl) ?_
           refine Wn ?_
           refine Wn ?_
           refine Wn ?_
           refine Wn ?_
           refine Wy (.b false) [] (OpF rfl) ?_
           refine Wy (.b false) [] (Omv rfl) ?_
           refine Wy (.b false) [] (OpF rfl) ?_
           refine Wy (.b false) [] (Omv rfl) ?_
           refine Walk.nil ?_
           refine Then.normal ?_
           refine AWP.ret ?_
           obtain rfl := Option.some.inj hm
           exact ret_i []
         ·
          replace hm := cF hq127_8 hm
          refine Wy (.b false) [] (Ocs (lit_tf (b := decide (r45_2.2.2 = 8)) hq127_8) (Omv rfl)) ?_
          refine Wn ?_
          refine Wn ?_
          refine Wy (.b false) [] (OpF rfl) ?_
          refine Wy (.b false) [] (Omv rfl) ?_
          refine Wn ?_
          refine Wn ?_
          refine Wn ?_
          refine Wy (.b false) [] (OpF rfl) ?_
          refine Wy (.b false) [] (Omv rfl) ?_
          refine Wn ?_
          refine Wn ?_
          refine Wn ?_
          refine Wn ?_
          refine Wn ?_
          refine Wy (.b false) [] (OpF rfl) ?_
          refine Wy (.b false) [] (Omv rfl) ?_
          refine Wn ?_
          refine Wn ?_
          refine Wy (.b false) [] (OpF rfl) ?_
          refine Wy (.b false) [] (Omv rfl) ?_
          refine Wn ?_
          refine Wn ?_
          refine Wy (.b false) [] (OpF rfl) ?_
          refine Wy (.b false) [] (Omv rfl) ?_
          refine Wn ?_
          refine Wn ?_
          refine Wy (.b false) [] (OpF rfl) ?_
          refine Wy (.b false) [] (Omv rfl) ?_
          refine Wn ?_
          refine Wn ?_
          refine Wy (.b false) [] (OpF rfl) ?_
          refine Wy (.b false) [] (Omv rfl) ?_
          refine Wn ?_
          refine Wn ?_
          refine Wy (.b false) [] (OpF rfl) ?_
          refine Wy (.b false) [] (Omv rfl) ?_
          refine Wn ?_
          refine Wn ?_
          refine Wn ?_
          refine Wy (.b false) [] (OpF rfl) ?_
          refine Wy (.b false) [] (Omv rfl) ?_
          refine Wn ?_
          refine Wy (.b false) [] (OpF rfl) ?_
          refine Wy (.b false) [] (Omv rfl) ?_
          refine Wn ?_
          refine Wn ?_
          refine Wn ?_
          refine Wn ?_
          refine Wy (.b false) [] (OpF rfl) ?_
          refine Wy (.b false) [] (Omv rfl) ?_
          refine Wn ?_
          refine Wn ?_
          refine Wy (.b false) [] (OpF rfl) ?_
          refine Wy (.b false) [] (Omv rfl) ?_
          refine Wn ?_
          refine Wn ?_
          refine Wn ?_
          refine Wn ?_
          refine Wy (.b false) [] (OpF rfl) ?_
          refine Wy (.b false) [] (Omv rfl) ?_
          refine Wn ?_
          refine Wn ?_
          refine Wn ?_
          refine Wn ?_
          refine Wy (.b false) [] (OpF rfl) ?_
          refine Wy (.b false) [] (Omv rfl) ?_
          refine Wn ?_
          refine Wn ?_
          refine Wn ?_
          refine Wy (.b false) [] (OpF rfl) ?_
          refine Wy (.b false) [] (Omv rfl) ?_
          refine Wn ?_
          refine Wn ?_
          refine Wn ?_
          refine Wn ?_
          refine Wy (.b false) [] (OpF rfl) ?_
          refine Wy (.b false) [] (Omv rfl) ?_
          refine Wy (.b false) [] (OpF rfl) ?_
          refine Wy (.b false) [] (Omv rfl) ?_
          refine Walk.nil ?_
          refine Then.normal ?_
          refine AWP.ret ?_
          obtain rfl := Option.some.inj hm
          exact ret_i []
        ·
         replace hm := cF hq123_8 hm
         refine Wy (.b false) [] (Ocs (lit_tf (b := (decide (x118_8.Loc = 0) && (decide (x118_8.Time = 5) && (decide (x118_8.N = 1) && true)))) hq123_8) (Omv rfl)) ?_
         refine Wn ?_
         refine Wn ?_
         refine Wy (.b false) [] (OpF rfl) ?_
         refine Wy (.b false) [] (Omv rfl) ?_
         refine Wn ?_
         refine Wn ?_
         refine Wy (.b false) [] (OpF rfl) ?_
         refine Wy (.b false) [] (Omv rfl) ?_
         refine Wn ?_
         refine Wn ?_
         refine Wn ?_
         refine Wy (.b false) [] (OpF rfl) ?_
         refine Wy (.b false) [] (Omv rfl) ?_
         refine Wn ?_
         refine Wn ?_
         refine Wn ?_
         refine Wn ?_
         refine Wn ?_
         refine Wy (.b false) [] (OpF rfl) ?_
         refine Wy (.b false) [] (Omv rfl) ?_
         refine Wn ?_
         refine Wn ?_
         refine Wy (.b false) [] (OpF rfl) ?_
         refine Wy (.b false) [] (Omv rfl) ?_
         refine Wn ?_
         refine Wn ?_
         refine Wy (.b false) [] (OpF rfl) ?_
         refine Wy (.b false) [] (Omv rfl) ?_
         refine Wn ?_
         refine Wn ?_
         refine Wy (.b false) [] (OpF rfl) ?_
         refine Wy (.b false) [] (Omv rfl) ?_
         refine Wn ?_
         refine Wn ?_
         refine Wy (.b false) [] (OpF rfl) ?_
         refine Wy (.b false) [] (Omv rfl) ?_
         refine Wn ?_
         refine Wn ?_
         refine Wy (.b false) [] (OpF rfl) ?_
         refine Wy (.b false) [] (Omv rfl) ?_
         refine Wn ?_
         refine Wn ?_
         refine Wn ?_
         refine Wy (.b false) [] (OpF rfl) ?_
         refine Wy (.b false) [] (Omv rfl) ?_
         refine Wn ?_
         refine Wy (.b false) [] (OpF rfl) ?_
         refine Wy (.b false) [] (Omv rfl) ?_
         refine Wn ?_
         refine Wn ?_
         refine Wn ?_
         refine Wn ?_
         refine Wy (.b false) [] (OpF rfl) ?_
         refine Wy (.b false) [] (Omv rfl) ?_
         refine Wn ?_
         refine Wn ?_
         refine Wy (.b false) [] (OpF rfl) ?_
         refine Wy (.b false) [] (Omv rfl) ?_
         refine Wn ?_
         refine Wn ?_
         refine Wn ?_
         refine Wn ?_
         refine Wy (.b false) [] (OpF rfl) ?_
         refine Wy (.b false) [] (Omv rfl) ?_
         refine Wn ?_
         refine Wn ?_
         refine Wn ?_
         refine Wn ?_
         refine Wy (.b false) [] (OpF rfl) ?_
         refine Wy (.b false) [] (Omv rfl) ?_
         refine Wn ?_
         refine Wn ?_
         refine Wn ?_
         refine Wy (.b false) [] (OpF rfl) ?_
         refine Wy (.b false) [] (Omv rfl) ?_
         refine Wn ?_
         refine Wn ?_
         refine Wn ?_
         refine Wn ?_
         refine Wy (.b false) [] (OpF rfl) ?_
         refine Wy (.b false) [] (Omv rfl) ?_
         refine Wy (.b false) [] (OpF rfl) ?_
         refine Wy (.b false) [] (Omv rfl) ?_
         refine Walk.nil ?_
         refine Then.normal ?_
         refine AWP.ret ?_
         obtain rfl := Option.some.inj hm
         exact ret_i []
       ·
        replace hm := cF hq116_8 hm
        refine Wy (.b false) [] (Ocs (lit_tf (b := (decide (x111_8.Loc = 0) && (decide (x111_8.Time = 0) && (decide (x111_8.N = (-1)) && true)))) hq116_8) (Omv rfl)) ?_
        refine Wn ?_
        refine Wn ?_
        refine Wn ?_
        refine Wn ?_
        refine Wn ?_
        refine Wy (.b false) [] (OpF rfl) ?_
        refine Wy (.b false) [] (Omv rfl) ?_
        refine Wn ?_
        refine Wn ?_
        refine Wy (.b false) [] (OpF rfl) ?_
        refine Wy (.b false) [] (Omv rfl) ?_
        refine Wn ?_
        refine Wn ?_
        refine Wy (.b false) [] (OpF rfl) ?_
        refine Wy (.b false) [] (Omv rfl) ?_
        refine Wn ?_
        refine Wn ?_
        refine Wn ?_
        refine Wy (.b false) [] (OpF rfl) ?_
        refine Wy (.b false) [] (Omv rfl) ?_
        refine Wn ?_
        refine Wn ?_
        refine Wn ?_
        refine Wn ?_
        refine Wn ?_
        refine Wy (.b false) [] (OpF rfl) ?_
        refine Wy (.b false) [] (Omv rfl) ?_
        refine Wn ?_
        refine Wn ?_
        refine Wy (.b false) [] (OpF rfl) ?_
        refine Wy (.b false) [] (Omv rfl) ?_
        refine Wn ?_
        refine Wn ?_
        refine Wy (.b false) [] (OpF rfl) ?_
        refine Wy (.b false) [] (Omv rfl) ?_
        refine Wn ?_
        refine Wn ?_
        refine Wy (.b false) [] (OpF rfl) ?_
        refine Wy (.b false) [] (Omv rfl) ?_
        refine Wn ?_
        refine Wn ?_
        refine Wy (.b false) [] (OpF rfl) ?_
        refine Wy (.b false) [] (Omv rfl) ?_
        refine Wn ?_
        refine Wn ?_
        refine Wy (.b false) [] (OpF rfl) ?_
        refine Wy (.b false) [] (Omv rfl) ?_
        refine Wn ?_
        refine Wn ?_
        refine Wn ?_
        refine Wy (.b false) [] (OpF rfl) ?_
        refine Wy (.b false) [] (Omv rfl) ?_
        refine Wn ?_
        refine Wy (.b false) [] (OpF rfl) ?_
        refine Wy (.b false) [] (Omv rfl) ?_
        refine Wn ?_
        refine Wn ?_
        refine Wn ?_
        refine Wn ?_
        refine Wy (.b false) [] (OpF rfl) ?_
        refine Wy (.b false) [] (Omv rfl) ?_
        refine Wn ?_
        refine Wn ?_
        refine Wy (.b false) [] (OpF rfl) ?_
        refine Wy (.b false) [] (Omv rfl) ?_
        refine Wn ?_
        refine Wn ?_
        refine Wn ?_
        refine Wn ?_
        refine Wy (.b false) [] (OpF rfl) ?_
        refine Wy (.b false) [] (Omv rfl) ?_
        refine Wn ?_
        refine Wn ?_
        refine Wn ?_
        refine Wn ?_
        refine Wy (.b false) [] (OpF rfl) ?_
        refine Wy (.b false) [] (Omv rfl) ?_
        refine Wn ?_
        refine Wn ?_
        refine Wn ?_
        refine Wy (.b false) [] (OpF rfl) ?_
        refine Wy (.b false) [] (Omv rfl) ?_
        refine Wn ?_
        refine Wn ?_
        refine Wn ?_
        refine Wn ?_
        refine Wy (.b false) [] (OpF rfl) ?_
        refine Wy (.b false) [] (Omv rfl) ?_
        refine Wy (.b false) [] (OpF rfl) ?_
        refine Wy (.b false) [] (Omv rfl) ?_
        refine Walk.nil ?_
        refine Then.normal ?_
        refine AWP.ret ?_
        obtain rfl := Option.some.inj hm
        exact ret_i []
      ·
       replace hm := cF hq109_8 hm
       refine Wy (.b false) [] (Ocs (lit_tf (b := decide (((List.length r38_1.2.1 : Nat) : Int) = 2)) hq109_8) (Omv rfl)) ?_
       refine Wn ?_
       refine Wn ?_
       refine Wn ?_
       refine Wn ?_
       refine Wn ?_
       refine Wy (.b false) [] (OpF rfl) ?_
       refine Wy (.b false) [] (Omv rfl) ?_
       refine Wn ?_
       refine Wn ?_
       refine Wn ?_
       refine Wn ?_
       refine Wn ?_
       refine Wy (.b false) [] (OpF rfl) ?_
       refine Wy (.b false) [] (Omv rfl) ?_
       refine Wn ?_
       refine Wn ?_
       refine Wy (.b false) [] (OpF rfl) ?_
       refine Wy (.b false) [] (Omv rfl) ?_
       refine Wn ?_
       refine Wn ?_
       refine Wy (.b false) [] (OpF rfl) ?_
       refine Wy (.b false) [] (Omv rfl) ?_
       refine Wn ?_
       refine Wn ?_
       refine Wn ?_
       refine Wy (.b false) [] (OpF rfl) ?_
       refine Wy (.b false) [] (Omv rfl) ?_
       refine Wn ?_
       refine Wn ?_
       refine Wn ?_
       refine Wn ?_
       refine Wn ?_
       refine Wy (.b false) [] (OpF rfl) ?_
       refine Wy (.b false) [] (Omv rfl) ?_
       refine Wn ?_
       refine Wn ?_
       refine Wy (.b false) [] (OpF rfl) ?_
       refine Wy (.b false) [] (Omv rfl) ?_
       refine Wn ?_
       refine Wn ?_
       refine Wy (.b false) [] (OpF rfl) ?_
       refine Wy (.b false) [] (Omv rfl) ?_
       refine Wn ?_
       refine Wn ?_
       refine Wy (.b false) [] (OpF rfl) ?_
       refine Wy (.b false) [] (Omv rfl) ?_
       refine Wn ?_
       refine Wn ?_
       refine Wy (.b false) [] (OpF rfl) ?_
       refine Wy (.b false) [] (Omv rfl) ?_
       refine Wn ?_
       refine Wn ?_
       refine Wy (.b false) [] (OpF rfl) ?_
       refine Wy (.b false) [] (Omv rfl) ?_
       refine Wn ?_
       refine Wn ?_
       refine Wn ?_
       refine Wy (.b false) [] (OpF rfl) ?_
       refine Wy (.b false) [] (Omv rfl) ?_
       refine Wn ?_
       refine Wy (.b false) [] (OpF rfl) ?_
       refine Wy (.b false) [] (Omv rfl) ?_
       refine Wn ?_
       refine Wn ?_
       refine Wn ?_
       refine Wn ?_
       refine Wy (.b false) [] (OpF rfl) ?_
       refine Wy (.b false) [] (Omv rfl) ?_
       refine Wn ?_
       refine Wn ?_
       refine Wy (.b false) [] (OpF rfl) ?_
       refine Wy (.b false) [] (Omv rfl) ?_
       refine Wn ?_
       refine Wn ?_
       refine Wn ?_
       refine Wn ?_
       refine Wy (.b false) [] (OpF rfl) ?_
       refine Wy (.b false) [] (Omv rfl) ?_
       refine Wn ?_
       refine Wn ?_
       refine Wn ?_
       refine Wn ?_
       refine Wy (.b false) [] (OpF rfl) ?_
       refine Wy (.b false) [] (Omv rfl) ?_
       refine Wn ?_
       refine Wn ?_
       refine Wn ?_
       refine Wy (.b false) [] (OpF rfl) ?_
       refine Wy (.b false) [] (Omv rfl) ?_
       refine Wn ?_
       refine Wn ?_
       refine Wn ?_
       refine Wn ?_
       refine Wy (.b false) [] (OpF rfl) ?_
       refine Wy (.b false) [] (Omv rfl) ?_
       refine Wy (.b false) [] (OpF rfl) ?_
       refine Wy (.b false) [] (Omv rfl) ?_
       refine Walk.nil ?_
       refine Then.normal ?_
       refine AWP.ret ?_
       obtain rfl := Option.some.inj hm
       exact ret_i []
     ·
      replace hm := cF hq104_8 hm
      refine Wy (.b false) [] (Ocs (lit_tf (b := decide (r38_1.2.2 = 0)) hq104_8) (Omv rfl)) ?_
      refine Wn ?_
      refine Wn ?_
      refine Wn ?_
      refine Wy (.b false) [] (OpF rfl) ?_
      refine Wy (.b false) [] (Omv rfl) ?_
      refine Wn ?_
      refine Wn ?_
      refine Wn ?_
      refine Wn ?_
      refine Wn ?_
      refine Wy (.b false) [] (OpF rfl) ?_
      refine Wy (.b false) [] (Omv rfl) ?_
      refine Wn ?_
      refine Wn ?_
      refine Wn ?_
      refine Wn ?_
      refine Wn ?_
      refine Wy (.b false) [] (OpF rfl) ?_
      refine Wy (.b false) [] (Omv rfl) ?_
      refine Wn ?_
      refine Wn ?_
      refine Wy (.b false) [] (OpF rfl) ?_
      refine Wy (.b false) [] (Omv rfl) ?_
      refine Wn ?_
      refine Wn ?_
      refine Wy (.b false) [] (OpF rfl) ?_
      refine Wy (.b false) [] (Omv rfl) ?_
      refine Wn ?_
      refine Wn ?_
      refine Wn ?_
      refine Wy (.b false) [] (OpF rfl) ?_
      refine Wy (.b false) [] (Omv rfl) ?_
      refine Wn ?_
      refine Wn ?_
      refine Wn ?_
      refine Wn ?_
      refine Wn ?_
      refine Wy (.b false) [] (OpF rfl) ?_
      refine Wy (.b false) [] (Omv rfl) ?_
      refine Wn ?_
      refine Wn ?_
      refine Wy (.b false) [] (OpF rfl) ?_
      refine Wy (.b false) [] (Omv rfl) ?_
      refine Wn ?_
      refine Wn ?_
      refine Wy (.b false) [] (OpF rfl) ?_
      refine Wy (.b false) [] (Omv rfl) ?_
      refine Wn ?_
      refine Wn ?_
      refine Wy (.b false) [] (OpF rfl) ?_
      refine Wy (.b false) [] (Omv rfl) ?_
      refine Wn ?_
      refine Wn ?_
      refine Wy (.b false) [] (OpF rfl) ?_
      refine Wy (.b false) [] (Omv rfl) ?_
      refine Wn ?_
      refine Wn ?_
      refine Wy (.b false) [] (OpF rfl) ?_
      refine Wy (.b false) [] (Omv rfl) ?_
      refine Wn ?_
      refine Wn ?_
      refine Wn ?_
      refine Wy (.b false) [] (OpF rfl) ?_
      refine Wy (.b false) [] (Omv rfl) ?_
      refine Wn ?_
      refine Wy (.b false) [] (OpF rfl) ?_
      refine Wy (.b false) [] (Omv rfl) ?_
      refine Wn ?_
      refine Wn ?_
      refine Wn ?_
      refine Wn ?_
      refine Wy (.b false) [] (OpF rfl) ?_
      refine Wy (.b false) [] (Omv rfl) ?_
      refine Wn ?_
      refine Wn ?_
      refine Wy (.b false) [] (OpF rfl) ?_
      refine Wy (.b false) [] (Omv rfl) ?_
      refine Wn ?_
      refine Wn ?_
      refine Wn ?_
      refine Wn ?_
      refine Wy (.b false) [] (OpF rfl) ?_
      refine Wy (.b false) [] (Omv rfl) ?_
      refine Wn ?_
      refine Wn ?_
      refine Wn ?_
      refine Wn ?_
      refine Wy (.b false) [] (OpF rfl) ?_
      refine Wy (.b false) [] (Omv rfl) ?_
      refine Wn ?_
      refine Wn ?_
      refine Wn ?_
      refine Wy (.b false) [] (OpF rfl) ?_
      refine Wy (.b false) [] (Omv rfl) ?_
      refine Wn ?_
      refine Wn ?_
      refine Wn ?_
      refine Wn ?_
      refine Wy (.b false) [] (OpF rfl) ?_
      refine Wy (.b false) [] (Omv rfl) ?_
      refine Wy (.b false) [] (OpF rfl) ?_
      refine Wy (.b false) [] (Omv rfl) ?_
      refine Walk.nil ?_
      refine Then.normal ?_
      refine AWP.ret ?_
      obtain rfl := Option.some.inj hm
      exact ret_i []
    ·
     replace hm := cF hq100_8 hm
     refine Wy (.b false) [] (Ocs (lit_tf (b := decide (x95_8.N = 1)) hq100_8) (Omv rfl)) ?_
     refine Wn ?_
     refine Wn ?_
     refine Wy (.b false) [] (OpF rfl) ?_
     refine Wy (.b false) [] (Omv rfl) ?_
     refine Wn ?_
     refine Wn ?_
     refine Wn ?_
     refine Wy (.b false) [] (OpF rfl) ?_
     refine Wy (.b false) [] (Omv rfl) ?_
     refine Wn ?_
     refine Wn ?_
     refine Wn ?_
     refine Wn ?_
     refine Wn ?_
     refine Wy (.b false) [] (OpF rfl) ?_
     refine Wy (.b false) [] (Omv rfl) ?_
     refine Wn ?_
     refine Wn ?_
     refine Wn ?_
     refine Wn ?_
     refine Wn ?_
     refine Wy (.b false) [] (OpF rfl) ?_
     refine Wy (.b false) [] (Omv rfl) ?_
     refine Wn ?_
     refine Wn ?_
     refine Wy (.b false) [] (OpF rfl) ?_
     refine Wy (.b false) [] (Omv rfl) ?_
     refine Wn ?_
     refine Wn ?_
     refine Wy (.b false) [] (OpF rfl) ?_
     refine Wy (.b false) [] (Omv rfl) ?_
     refine Wn ?_
     refine Wn ?_
     refine Wn ?_
     refine Wy (.b false) [] (OpF rfl) ?_
     refine Wy (.b false) [] (Omv rfl) ?_
     refine Wn ?_
     refine Wn ?_
     refine Wn ?_
     refine Wn ?_
     refine Wn ?_
     refine Wy (.b false) [] (OpF rfl) ?_
     refine Wy (.b false) [] (Omv rfl) ?_
     refine Wn ?_
     refine Wn ?_
     refine Wy (.b false) [] (OpF rfl) ?_
     refine Wy (.b false) [] (Omv rfl) ?_
     refine Wn ?_
     refine Wn ?_
     refine Wy (.b false) [] (OpF rfl) ?_
     refine Wy (.b false) [] (Omv rfl) ?_
     refine Wn ?_
     refine Wn ?_
     refine Wy (.b false) [] (OpF rfl) ?_
     refine Wy (.b false) [] (Omv rfl) ?_
     refine Wn ?_
     refine Wn ?_
     refine Wy (.b false) [] (OpF rfl) ?_
     refine Wy (.b false) [] (Omv rfl) ?_
     refine Wn ?_
     refine Wn ?_
     refine Wy (.b false) [] (OpF rfl) ?_
     refine Wy (.b false) [] (Omv rfl) ?_
     refine Wn ?_
     refine Wn ?_
     refine Wn ?_
     refine Wy (.b false) [] (OpF rfl) ?_
     refine Wy (.b false) [] (Omv rfl) ?_
     refine Wn ?_
     refine Wy (.b false) [] (OpF rfl) ?_
     refine Wy (.b false) [] (Omv rfl) ?_
     refine Wn ?_
     refine Wn ?_
     refine Wn ?_
     refine Wn ?_
     refine Wy (.b false) [] (OpF rfl) ?_
     refine Wy (.b false) [] (Omv rfl) ?_
     refine Wn ?_
     refine Wn ?_
     refine Wy (.b false) [] (OpF rfl) ?_
     refine Wy (.b false) [] (Omv rfl) ?_
     refine Wn ?_
     refine Wn ?_
     refine Wn ?_
     refine Wn ?_
     refine Wy (.b false) [] (OpF rfl) ?_
     refine Wy (.b false) [] (Omv rfl) ?_
     refine Wn ?_
     refine Wn ?_
     refine Wn ?_
     refine Wn ?_
     refine Wy (.b false) [] (OpF rfl) ?_
     refine Wy (.b false) [] (Omv rfl) ?_
     refine Wn ?_
     refine Wn ?_
     refine Wn ?_
     refine Wy (.b false) [] (OpF rfl) ?_
     refine Wy (.b false) [] (Omv rfl) ?_
     refine Wn ?_
     refine Wn ?_
     refine Wn ?_
     refine Wn ?_
     refine Wy (.b false) [] (OpF rfl) ?_
     refine Wy (.b false) [] (Omv rfl) ?_
     refine Wy (.b false) [] (OpF rfl) ?_
     refine Wy (.b false) [] (Omv rfl) ?_
     refine Walk.nil ?_
     refine Then.normal ?_
     refine AWP.ret ?_
     obtain rfl := Option.some.inj hm
     exact ret_i []
   ·
    replace hm := cF hq93_8 hm
    refine Wy (.b false) [] (Ocs (lit_tf (b := decide (((List.length r30_0.2.2.1 : Nat) : Int) = 1)) hq93_8) (Omv rfl)) ?_
    refine Wn ?_
    refine Wn ?_
    refine Wn ?_
    refine Wn ?_
    refine Wn ?_
    refine Wy (.b false) [] (OpF rfl) ?_
    refine Wy (.b false) [] (Omv rfl) ?_
    refine Wn ?_
    refine Wn ?_
    refine Wy (.b false) [] (OpF rfl) ?_
    refine Wy (.b false) [] (Omv rfl) ?_
    refine Wn ?_
    refine Wn ?_
    refine Wn ?_
    refine Wy (.b false) [] (OpF rfl) ?_
    refine Wy (.b false) [] (Omv rfl) ?_
    refine Wn ?_
    refine Wn ?_
    refine Wn ?_
    refine Wn ?_
    refine Wn ?_
    refine Wy (.b false) [] (OpF rfl) ?_
    refine Wy (.b false) [] (Omv rfl) ?_
    refine Wn ?_
    refine Wn ?_
    refine Wn ?_
    refine Wn ?_
    refine Wn ?_
    refine Wy (.b false) [] (OpF rfl) ?_
    refine Wy (.b false) [] (Omv rfl) ?_
    refine Wn ?_
    refine Wn ?_
    refine Wy (.b false) [] (OpF rfl) ?_
    refine Wy (.b false) [] (Omv rfl) ?_
    refine Wn ?_
    refine Wn ?_
    refine Wy (.b false) [] (OpF rfl) ?_
    refine Wy (.b false) [] (Omv rfl) ?_
    refine Wn ?_
    refine Wn ?_
    refine Wn ?_
    refine Wy (.b false) [] (OpF rfl) ?_
    refine Wy (.b false) [] (Omv rfl) ?_
    refine Wn ?_
    refine Wn ?_
    refine Wn ?_
    refine Wn ?_
    refine Wn ?_
    refine Wy (.b false) [] (OpF rfl) ?_
    refine Wy (.b false) [] (Omv rfl) ?_
    refine Wn ?_
    refine Wn ?_
    refine Wy (.b false) [] (OpF rfl) ?_
    refine Wy (.b false) [] (Omv rfl) ?_
    refine Wn ?_
    refine Wn ?_
    refine Wy (.b false) [] (OpF rfl) ?_
    refine Wy (.b false) [] (Omv rfl) ?_
    refine Wn ?_
    refine Wn ?_
    refine Wy (.b false) [] (OpF rfl) ?_
    refine Wy (.b false) [] (Omv rfl) ?_
    refine Wn ?_
    refine Wn ?_
    refine Wy (.b false) [] (OpF rfl) ?_
    refine Wy (.b false) [] (Omv rfl) ?_
    refine Wn ?_
    refine Wn ?_
    refine Wy (.b false) [] (OpF rfl) ?_
    refine Wy (.b false) [] (Omv rfl) ?_
    refine Wn ?_
    refine Wn ?_
    refine Wn ?_
    refine Wy (.b false) [] (OpF rfl) ?_
    refine Wy (.b false) [] (Omv rfl) ?_
    refine Wn ?_
    refine Wy (.b false) [] (OpF rfl) ?_
    refine Wy (.b false) [] (Omv rfl) ?_
    refine Wn ?_
    refine Wn ?_
    refine Wn ?_
    refine Wn ?_
    refine Wy (.b false) [] (OpF rfl) ?_
    refine Wy (.b false) [] (Omv rfl) ?_
    refine Wn ?_
    refine Wn ?_
    refine Wy (.b false) [] (OpF rfl) ?_
    refine Wy (.b false) [] (Omv rfl) ?_
    refine Wn ?_
    refine Wn ?_
    refine Wn ?_
    refine Wn ?_
    refine Wy (.b false) [] (OpF rfl) ?_
    refine Wy (.b false) [] (Omv rfl) ?_
    refine Wn ?_
    refine Wn ?_
    refine Wn ?_
    refine Wn ?_
    refine Wy (.b false) [] (OpF rfl) ?_
    refine Wy (.b false) [] (Omv rfl) ?_
    refine Wn ?_
    refine Wn ?_
    refine Wn ?_
    refine Wy (.b false) [] (OpF rfl) ?_
    refine Wy (.b false) [] (Omv rfl) ?_
    refine Wn ?_
    refine Wn ?_
    refine Wn ?_
    refine Wn ?_
    refine Wy (.b false) [] (OpF rfl) ?_
    refine Wy (.b false) [] (Omv rfl) ?_
    refine Wy (.b false) [] (OpF rfl) ?_
    refine Wy (.b false) [] (Omv rfl) ?_
    refine Walk.nil ?_
    refine Then.normal ?_
    refine AWP.ret ?_
    obtain rfl := Option.some.inj hm
    exact ret_i []
  ·
   replace hm := cF hq88_8 hm
   refine Wy (.b false) [] (Ocs (lit_tf (b := decide (r30_0.2.1 = 0)) hq88_8) (Omv rfl)) ?_
   refine Wn ?_
   refine Wn ?_
   refine Wn ?_
   refine Wy (.b false) [] (OpF rfl) ?_
   refine Wy (.b false) [] (Omv rfl) ?_
   refine Wn ?_
   refine Wn ?_
   refine Wn ?_
   refine Wn ?_
   refine Wn ?_
   refine Wy (.b false) [] (OpF rfl) ?_
   refine Wy (.b false) [] (Omv rfl) ?_
   refine Wn ?_
   refine Wn ?_
   refine Wy (.b false) [] (OpF rfl) ?_
   refine Wy (.b false) [] (Omv rfl) ?_
   refine Wn ?_
   refine Wn ?_
   refine Wn ?_
   refine Wy (.b false) [] (OpF rfl) ?_
   refine Wy (.b false) [] (Omv rfl) ?_
   refine Wn ?_
   refine Wn ?_
   refine Wn ?_
   refine Wn ?_
   refine Wn ?_
   refine Wy (.b false) [] (OpF rfl) ?_
   refine Wy (.b false) [] (Omv rfl) ?_
   refine Wn ?_
   refine Wn ?_
   refine Wn ?_
   refine Wn ?_
   refine Wn ?_
   refine Wy (.b false) [] (OpF rfl) ?_
   refine Wy (.b false) [] (Omv rfl) ?_
   refine Wn ?_
   refine Wn ?_
   refine Wy (.b false) [] (OpF rfl) ?_
   refine Wy (.b false) [] (Omv rfl) ?_
   refine Wn ?_
   refine Wn ?_
   refine Wy (.b false) [] (OpF rfl) ?_
   refine Wy (.b false) [] (Omv rfl) ?_
   refine Wn ?_
   refine Wn ?_
   refine Wn ?_
   refine Wy (.b false) [] (OpF rfl) ?_
   refine Wy (.b false) [] (Omv rfl) ?_
   refine Wn ?_
   refine Wn ?_
   refine Wn ?_
   refine Wn ?_
   refine Wn ?_
   refine Wy (.b false) [] (OpF rfl) ?_
   refine Wy (.b false) [] (Omv rfl) ?_
   refine Wn ?_
   refine Wn ?_
   refine Wy (.b false) [] (OpF rfl) ?_
   refine Wy (.b false) [] (Omv rfl) ?_
   refine Wn ?_
   refine Wn ?_
   refine Wy (.b false) [] (OpF rfl) ?_
   refine Wy (.b false) [] (Omv rfl) ?_
   refine Wn ?_
   refine Wn ?_
   refine Wy (.b false) [] (OpF rfl) ?_
   refine Wy (.b false) [] (Omv rfl) ?_
   refine Wn ?_
   refine Wn ?_
   refine Wy (.b false) [] (OpF rfl) ?_
   refine Wy (.b false) [] (Omv rfl) ?_
   refine Wn ?_
   refine Wn ?_
   refine Wy (.b false) [] (OpF rfl) ?_
   refine Wy (.b false) [] (Omv rfl) ?_
   refine Wn ?_
   refine Wn ?_
   refine Wn ?_
   refine Wy (.b false) [] (OpF rfl) ?_
   refine Wy (.b false) [] (Omv rfl) ?_
   refine Wn ?_
   refine Wy (.b false) [] (OpF rfl) ?_
   refine Wy (.b false) [] (Omv rfl) ?_
   refine Wn ?_
   refine Wn ?_
   refine Wn ?_
   refine Wn ?_
   refine Wy (.b false) [] (OpF rfl) ?_
   refine Wy (.b false) [] (Omv rfl) ?_
   refine Wn ?_
   refine Wn ?_
   refine Wy (.b false) [] (OpF rfl) ?_
   refine Wy (.b false) [] (Omv rfl) ?_
   refine Wn ?_
   refine Wn ?_
   refine Wn ?_
   refine Wn ?_
   refine Wy (.b false) [] (OpF rfl) ?_
   refine Wy (.b false) [] (Omv rfl) ?_
   refine Wn ?_
   refine Wn ?_
   refine Wn ?_
   refine Wn ?_
   refine Wy (.b false) [] (OpF rfl) ?_
   refine Wy (.b false) [] (Omv rfl) ?_
   refine Wn ?_
   refine Wn ?_
   refine Wn ?_
   refine Wy (.b false) [] (OpF rfl) ?_
   refine Wy (.b false) [] (Omv rfl) ?_
   refine Wn ?_
   refine Wn ?_
   refine Wn ?_
   refine Wn ?_
   refine Wy (.b false) [] (OpF rfl) ?_
   refine Wy (.b false) [] (Omv rfl) ?_
   refine Wy (.b false) [] (OpF rfl) ?_
   refine Wy (.b false) [] (Omv rfl) ?_
   refine Walk.nil ?_
   refine Then.normal ?_
   refine AWP.ret ?_
   obtain rfl := Option.some.inj hm
   exact ret_i []
 ·
  replace hm := cF hq84_8 hm
  refine Wy (.b false) [] (Ocs (lit_tf (b := decide (r30_0.2.2.2 = 0)) hq84_8) (Omv rfl)) ?_
  refine Wn ?_
  refine Wn ?_
  refine Wy (.b false) [] (OpF rfl) ?_
  refine Wy (.b false) [] (Omv rfl) ?_
  refine Wn ?_
  refine Wn ?_
  refine Wn ?_
  refine Wy (.b false) [] (OpF rfl) ?_
  refine Wy (.b false) [] (Omv rfl) ?_
  refine Wn ?_
  refine Wn ?_
  refine Wn ?_
  refine Wn ?_
  refine Wn ?_
  refine Wy (.b false) [] (OpF rfl) ?_
  refine Wy (.b false) [] (Omv rfl) ?_
  refine Wn ?_
  refine Wn ?_
  refine Wy (.b false) [] (OpF rfl) ?_
  refine Wy (.b false) [] (Omv rfl) ?_
  refine Wn ?_
  refine Wn ?_
  refine Wn ?_
  refine Wy (.b false) [] (OpF rfl) ?_
  refine Wy (.b false) [] (Omv rfl) ?_
  refine Wn ?_
  refine Wn ?_
  refine Wn ?_
  refine Wn ?_
  refine Wn ?_
  refine Wy (.b false) [] (OpF rfl) ?_
  refine Wy (.b false) [] (Omv rfl) ?_
  refine Wn ?_
  refine Wn ?_
  refine Wn ?_
  refine Wn ?_
  refine Wn ?_
  refine Wy (.b false) [] (OpF rfl) ?_
  refine Wy (.b false) [] (Omv rfl) ?_
  refine Wn ?_
  refine Wn ?_
  refine Wy (.b false) [] (OpF rfl) ?_
  refine Wy (.b false) [] (Omv rfl) ?_
  refine Wn ?_
  refine Wn ?_
  refine Wy (.b false) [] (OpF rfl) ?_
  refine Wy (.b false) [] (Omv rfl) ?_
  refine Wn ?_
  refine Wn ?_
  refine Wn ?_
  refine Wy (.b false) [] (OpF rfl) ?_
  refine Wy (.b false) [] (Omv rfl) ?_
  refine Wn ?_
  refine Wn ?_
  refine Wn ?_
  refine Wn ?_
  refine Wn ?_
  refine Wy (.b false) [] (OpF rfl) ?_
  refine Wy (.b false) [] (Omv rfl) ?_
  refine Wn ?_
  refine Wn ?_
  refine Wy (.b false) [] (OpF rfl) ?_
  refine Wy (.b false) [] (Omv rfl) ?_
  refine Wn ?_
  refine Wn ?_
  refine Wy (.b false) [] (OpF rfl) ?_
  refine Wy (.b false) [] (Omv rfl) ?_
  refine Wn ?_
  refine Wn ?_
  refine Wy (.b false) [] (OpF rfl) ?_
  refine Wy (.b false) [] (Omv rfl) ?_
  refine Wn ?_
  refine Wn ?_
  refine Wy (.b false) [] (OpF rfl) ?_
  refine Wy (.b false) [] (Omv rfl) ?_
  refine Wn ?_
  refine Wn ?_
  refine Wy (.b false) [] (OpF rfl) ?_
  refine Wy (.b false) [] (Omv rfl) ?_
  refine Wn ?_
  refine Wn ?_
  refine Wn ?_
  refine Wy (.b false) [] (OpF rfl) ?_
  refine Wy (.b false) [] (Omv rfl) ?_
  refine Wn ?_
  refine Wy (.b false) [] (OpF rfl) ?_
  refine Wy (.b false) [] (Omv rfl) ?_
  refine Wn ?_
  refine Wn ?_
  refine Wn ?_
  refine Wn ?_
  refine Wy (.b false) [] (OpF rfl) ?_
  refine Wy (.b false) [] (Omv rfl) ?_
  refine Wn ?_
  refine Wn ?_
  refine Wy (.b false) [] (OpF rfl) ?_
  refine Wy (.b false) [] (Omv rfl) ?_
  refine Wn ?_
  refine Wn ?_
  refine Wn ?_
  refine Wn ?_
  refine Wy (.b false) [] (OpF rfl) ?_
  refine Wy (.b false) [] (Omv rfl) ?_
  refine Wn ?_
  refine Wn ?_
  refine Wn ?_
  refine Wn ?_
  refine Wy (.b false) [] (OpF rfl) ?_
  refine Wy (.b false) [] (Omv rfl) ?_
  refine Wn ?_
  refine Wn ?_
  refine Wn ?_
  refine Wy (.b false) [] (OpF rfl) ?_
  refine Wy (.b false) [] (Omv rfl) ?_
  refine Wn ?_
  refine Wn ?_
  refine Wn ?_
  refine Wn ?_
  refine Wy (.b false) [] (OpF rfl) ?_
  refine Wy (.b false) [] (Omv rfl) ?_
  refine Wy (.b false) [] (OpF rfl) ?_
  refine Wy (.b false) [] (Omv rfl) ?_
  refine Walk.nil ?_
  refine Then.normal ?_
  refine AWP.ret ?_
  obtain rfl := Option.some.inj hm
  exact ret_i []

set_option maxRecDepth 20000 in
set_option maxHeartbeats 4000000 in
theorem ok_telltalelaw28_Own (p0 : (List GLeave)) (r : GBook) (h : m_telltalelaw28_Own p0 = some r) : GCall Try.prog 6 [(.l enc_GLeave p0)] [] (.agg [(.own 0)]) [(.arr 47 3 (List.length r.L) (flatD enc_GLeave_ r.L))] := by
 refine GCall.of_body (n := 34) (rs := [(.cell 2 29)]) Try.func6 rfl rfl rfl ?_
 refine Ato ⟨((.l enc_GLeave p0) :: (tu 33 [])), [], 0⟩ ?_
 have hm := h
 unfold m_telltalelaw28_Own at hm
 refine AWP.seq ?_
 refine AWP.text ?_
 refine Wy (.loc 0 0) [(0, (.box [(.d .nil)]))] (Oal rfl) ?_
 refine Walk.nil ?_
 refine Then.normal ?_
 refine Amk 5 1 ⟨((.l enc_GLeave p0) :: (tp 1 ((.loc 0 0) :: (tp 31 [])))), [(.box [(.d .nil)])], 0⟩ ?_
 refine AWP.seq ?_
 refine AWP.text ?_
 refine Wy (.loc 1 0) [(1, (.box [(.d .nil)]))] (Oal rfl) ?_
 refine Walk.nil ?_
 refine Then.normal ?_
 refine Amk 13 3 ⟨((.l enc_GLeave p0) :: (tp 1 ((.loc 0 0) :: ((.loc 1 0) :: (tp 30 []))))), [(.box [(.d .nil)]), (.box [(.d .nil)])], 0⟩ ?_
 refine AWP.seq ?_
 refine AWP.seq ?_
 refine AWP.text ?_
 refine Wy (.i 0) [] (Omv rfl) ?_
 refine Walk.nil ?_
 refine Then.normal ?_
 refine Amk 29 3 ⟨((.l enc_GLeave p0) :: (tp 1 ((.loc 0 0) :: ((.loc 1 0) :: ((.i 0) :: (tp 29 [])))))), [(.box [(.d .nil)]), (.box [(.d .nil)])], 0⟩ ?_
 refine AWP.block ?_
 refine Aob 1 0 47 3 ⟨((.l enc_GLeave p0) :: (tp 1 ((.loc 0 0) :: ((.loc 1 0) :: ((.i 0) :: (tp 29 [])))))), [(.box [(.d .nil)]), (.box [(.own 2)]), (.arr 47 3 (List.length ([] : List GLeave_)) (flatD enc_GLeave_ ([] : List GLeave_)))], 0⟩ ?_
 refine AWP.loopI (α := Nat × (List GLeave_) × Int)
   (fun x => match x with | (fu_0, y3_d_0_0, y4_0) => (⟨((.l enc_GLeave p0) :: (tp 1 ((.loc 0 0) :: ((.loc 1 0) :: ((.i y4_0) :: (tp 29 [])))))), [(.box [(.d .nil)]), (.box [(.own 2)]), (.arr 47 3 (List.length y3_d_0_0) (flatD enc_GLeave_ y3_d_0_0))], 0⟩ : St))
   (fun x => match x with | (fu_0, y3_d_0_0, y4_0) => m_telltalelaw28_Own_l0 p0 fu_0 y3_d_0_0 y4_0 = some r)
   (fun x => match x with | (fu_0, y3_d_0_0, y4_0) => fu_0) (1152921504606846976, ([] : List GLeave_), 0)
   (Weak.toK 29 0 0 [0, 1, 2]) hm ?_
 rintro ⟨fu_0, y3_d_0_0, y4_0⟩ n_0 hm ih_0
 try dsimp only at hm ih_0 ⊢
 cases fu_0 with
 | zero => exact absurd hm (by unfold m_telltalelaw28_Own_l0; simp)
 | succ fu_0 =>
  unfold m_telltalelaw28_Own_l0 at hm
  refine AWP.seq ?_
  refine AWP.seq ?_
  refine AWP.text ?_
  refine Wy (.i y4_0) [] (Omv rfl) ?_
  refine Wy (.l enc_GLeave p0) [] (Omv rfl) ?_
  refine Wy (.i ((List.length p0 : Nat) : Int)) [] (Oln rfl) ?_
  refine Wy (.b (decide (y4_0 < ((List.length p0 : Nat) : Int)))) [] (Obn rfl (fun _ => hb_lss (k := .i64))) ?_
  refine Walk.nil ?_
  refine Then.normal ?_
  refine Amk 285 7 ⟨((.l enc_GLeave p0) :: (tp 1 ((.loc 0 0) :: ((.loc 1 0) :: ((.i y4_0) :: (tp 3 ((.b (decide (y4_0 < ((List.length p0 : Nat) : Int)))) :: (tp 25 [])))))))), [(.box [(.d .nil)]), (.box [(.own 2)]), (.arr 47 3 (List.length y3_d_0_0) (flatD enc_GLeave_ y3_d_0_0))], 0⟩ ?_
  rcases tf_ (decide (y4_0 < ((List.length p0 : Nat) : Int))) with hc8_3 | hc8_3
  ·
   replace hm := cT hc8_3 hm
   refine AWP.if_ true (Eq.trans (by kernel_rfl) (lit_tf (b := decide (y4_0 < ((List.length p0 : Nat) : Int))) hc8_3)) ?_
   refine AWP.skip ?_
   refine Then.normal ?_
   refine Amk 29 7 ⟨((.l enc_GLeave p0) :: (tp 1 ((.loc 0 0) :: ((.loc 1 0) :: ((.i y4_0) :: (tp 29 [])))))), [(.box [(.d .nil)]), (.box [(.own 2)]), (.arr 47 3 (List.length y3_d_0_0) (flatD enc_GLeave_ y3_d_0_0))], 0⟩ ?_
   refine AWP.seq ?_
   refine AWP.block ?_
   refine Adr ?_
   refine Wy (.loc 1 0) [] (Ofa rfl) ?_
   refine Wy (.own 2) [] (Old rfl) ?_
   refine Wy (.l enc_GLeave p0) [] (Omv rfl) ?_
   refine Wy (.i y4_0) [] (Omv rfl) ?_
   obtain ⟨x15_2, hx15_2, hm⟩ := bnd hm
   obtain ⟨hx15_2i, hx15_2g⟩ := geti_some hx15_2
   refine Wy (.d (.ref (List.drop ((Int.toNat y4_0) * 3) (flatD enc_GLeave p0)))) [] (Oia rfl enc_GLeave_len hx15_2i hx15_2g) ?_
   refine Wy (.d (.ref (List.drop ((Int.toNat y4_0) * 3) (flatD enc_GLeave p0)))) [] (Ofa rfl) ?_
   refine Wy (.i x15_2.Loc) [] (Lf1 rfl enc_GLeave_len hx15_2g) ?_
   refine Wy (.l enc_GLeave p0) [] (Omv rfl) ?_
   refine Wy (.i y4_0) [] (Omv rfl) ?_
   obtain ⟨x20_2, hx20_2, hm⟩ := bnd hm
   obtain ⟨hx20_2i, hx20_2g⟩ := geti_some hx20_2
   refine Wy (.d (.ref (List.drop ((Int.toNat y4_0) * 3) (flatD enc_GLeave p0)))) [] (Oia rfl enc_GLeave_len hx20_2i hx20_2g) ?_
   refine Wy (.d (.ref (List.drop 1 (List.drop ((Int.toNat y4_0) * 3) (flatD enc_GLeave p0))))) [] (Ofa rfl) ?_
   refine Wy (.i x20_2.Time) [] (Lfk1 1 rfl enc_GLeave_len hx20_2g) ?_
   refine Wy (.agg [(.i x15_2.Loc), (.i x20_2.Time)]) [] (Obd rfl) ?_
   refine Wy (.l enc_GLeave p0) [] (Omv rfl) ?_
   refine Wy (.i y4_0) [] (Omv rfl) ?_
   obtain ⟨x26_2, hx26_2, hm⟩ := bnd hm
   obtain ⟨hx26_2i, hx26_2g⟩ := geti_some hx26_2
   refine Wy (.d (.ref (List.drop ((Int.toNat y4_0) * 3) (flatD enc_GLeave p0)))) [] (Oia rfl enc_GLeave_len hx26_2i hx26_2g) ?_
   refine Wy (.d (.ref (List.drop 2 (List.drop ((Int.toNat y4_0) * 3) (flatD enc_GLeave p0))))) [] (Ofa rfl) ?_
   refine Wy (.b x26_2.Held) [] (Lfk1 2 rfl enc_GLeave_len hx26_2g) ?_
   refine Wy (.agg [(.i x15_2.Loc), (.i x20_2.Time), (.b x26_2.Held)]) [] (Obd rfl) ?_
   refine Wy (.own 3) [(3, (.arr 47 3 (List.length ([(GLeave_.mk (GPoint.mk x15_2.Loc x20_2.Time) x26_2.Held)] : List GLeave_)) (flatD enc_GLeave_ ([(GLeave_.mk (GPoint.mk x15_2.Loc x20_2.Time) x26_2.Held)] : List GLeave_))))] (Obs rfl) ?_
   obtain ⟨a31_2, ha31_2, hm⟩ := bnd hm; obtain ⟨ha31_2e, ha31_2l⟩ := app_some ha31_2
   refine Wy (.own 4) [(2, .gone), (4, (.arr 47 3 (List.length a31_2) (flatD enc_GLeave_ a31_2)))] (Oap rfl elemOK_27 enc_GLeave__len ha31_2e ha31_2l) ?_
   refine Wy (.loc 1 0) [] (Ofa rfl) ?_
   refine Wy (.tup []) [(1, (.box [(.own 4)]))] (Ost rfl) ?_
   refine Wdr ?_
   refine InBlock.normal ?_
   refine Then.normal ?_
   refine Amk 29 19 ⟨((.l enc_GLeave p0) :: (tp 1 ((.loc 0 0) :: ((.loc 1 0) :: ((.i y4_0) :: (tp 29 [])))))), [(.box [(.d .nil)]), (.box [(.own 4)]), .gone, .gone, (.arr 47 3 (List.length a31_2) (flatD enc_GLeave_ a31_2))], 0⟩ ?_
   refine AWP.text ?_
   refine Wy (.i y4_0) [] (Omv rfl) ?_
   refine Wy (.i (IntKind.i64.wrap (y4_0 + 1))) [] (Obn rfl (fun _ => hb_add (k := .i64))) ?_
   refine Wy (.i (IntKind.i64.wrap (y4_0 + 1))) [] (Omv rfl) ?_
   refine Walk.nil ?_
   refine RoundK.normal ?_
   exact Rounds.weak (Weak.toK 29 0 0 [0, 1, 4]) (ih_0 (fu_0, a31_2, (IntKind.i64.wrap (y4_0 + 1))) hm (Nat.lt_succ_self _))
  ·
   replace hm := cF hc8_3 hm
   refine AWP.if_ false (Eq.trans (by kernel_rfl) (lit_tf (b := decide (y4_0 < ((List.length p0 : Nat) : Int))) hc8_3)) ?_
   refine AWP.exit ?_
   refine Then.exit ?_
   refine RoundK.exit ?_
   refine InBlock.same ?_
   refine Then.normal ?_
   refine Amk 12 7 ⟨(tp 2 ((.loc 0 0) :: ((.loc 1 0) :: (tp 30 [])))), [(.box [(.d .nil)]), (.box [(.own 2)]), (.arr 47 3 (List.length y3_d_0_0) (flatD enc_GLeave_ y3_d_0_0))], 0⟩ ?_
   refine AWP.seq ?_
   refine AWP.text ?_
   refine Wy (.agg [(.own 2)]) [] (Old rfl) ?_
   refine Wy (.tup []) [(0, (.box [(.own 2)]))] (Ost rfl) ?_
   refine Walk.nil ?_
   refine Then.normal ?_
   refine AWP.ret ?_
   obtain rfl := Option.some.inj hm
   exact ret_i [2]

set_option maxRecDepth 20000 in
set_option maxHeartbeats 4000000 in
theorem ok_telltaleref28_Hold (p0 : (List GLeave)) (p1 : Int) (p2 : Int) (r : ((List GLeave) × Int × (List GChange) × Int)) (h : m_telltaleref28_Hold p0 p1 p2 = some r) : GCall Try.prog 8 [(.l enc_GLeave p0), (.i p1), (.i p2)] [] (.tup [(.l enc_GLeave r.1), (.i r.2.1), (.own 0), (.i r.2.2.2)]) [(.arr 71 3 (List.length r.2.2.1) (flatD enc_GChange r.2.2.1))] := by
 refine GCall.of_body (n := 45) (rs := [(.tmp 6), (.tmp 7), (.tmp 8), (.tmp 9)]) Try.func8 rfl rfl rfl ?_
 refine Ato ⟨((.l enc_GLeave p0) :: ((.i p1) :: ((.i p2) :: (tu 42 [])))), [], 0⟩ ?_
 have hm := h
 unfold m_telltaleref28_Hold at hm
 refine AWP.seq ?_
 refine AWP.text ?_
 refine Wy (.d .nil) [] (Omv rfl) ?_
 refine Wy (.i 0) [] (Omv rfl) ?_
 refine Wy (.d .nil) [] (Omv rfl) ?_
 refine Wy (.i 0) [] (Omv rfl) ?_
 refine Walk.nil ?_
 refine Then.normal ?_
 refine Amk 7 0 ⟨((.l enc_GLeave p0) :: ((.i p1) :: ((.i p2) :: (tp 42 [])))), [], 0⟩ ?_
 refine AWP.seq ?_
 refine AWP.cutJ (α := Unit) (fun x => match x with | () => (⟨((.l enc_GLeave p0) :: ((.i p1) :: ((.i p2) :: (tp 21 ((.b true) :: (tp 20 [])))))), [], 0⟩ : St)) (fun x => match x with | () => m_telltaleref28_Hold_j1 p0 = some r) ?_ (fun J1 => ?_)
 ·
  rintro ⟨⟩ hm
  try dsimp only at hm ⊢
  unfold m_telltaleref28_Hold_j1 at hm
  refine AWP.if_ true (by kernel_rfl) ?_
  refine AWP.seq ?_
  refine AWP.text ?_
  refine Wy (.l enc_GLeave p0) [] (Omv rfl) ?_
  refine Wy (.l enc_GLeave p0) [] (Omv rfl) ?_
  refine Wy (.i (-1)) [] (Omv rfl) ?_
  refine Wy (.d .nil) [] (Omv rfl) ?_
  refine Wy (.i 8) [] (Omv rfl) ?_
  refine Walk.nil ?_
  refine Then.normal ?_
  refine Aow 8 71 3 ⟨((.l enc_GLeave p0) :: ((.i p1) :: ((.i p2) :: (tp 3 ((.l enc_GLeave p0) :: ((.i (-1)) :: ((.own 0) :: ((.i 8) :: (tp 14 ((.b true) :: ((.l enc_GLeave p0) :: (tp 19 [])))))))))))), [(.arr 71 3 (List.length ([] : List GChange)) (flatD enc_GChange ([] : List GChange)))], 0⟩ ?_
  refine AWP.ret ?_
  refine Then.ret ?_
  obtain rfl := Option.some.inj hm
  exact ret_i [0]
 refine AWP.seq ?_
 refine AWP.text ?_
 refine Wy (.i p1) [] (Omv rfl) ?_
 refine Wy (.b (decide (p1 < 0))) [] (Obn rfl (fun _ => hb_lss (k := .i64))) ?_
 rcases tf_ (decide (p1 < 0)) with hq13_0 | hq13_0
 ·
  replace hm := cT hq13_0 hm
  refine Wy (.b true) [] (Ocs (lit_tf (b := decide (p1 < 0)) hq13_0) (Omv rfl)) ?_
  refine Wn ?_
  refine Wn ?_
  refine Wy (.b true) [] (OpT rfl) ?_
  refine Wy (.b true) [] (Omv rfl) ?_
  refine Wn ?_
  refine Wn ?_
  refine Wy (.b true) [] (OpT rfl) ?_
  refine Wy (.b true) [] (Omv rfl) ?_
  refine Wn ?_
  refine Wn ?_
  refine Wy (.b true) [] (OpT rfl) ?_
  refine Walk.nil ?_
  refine Then.normal ?_
  exact AWP.weak (Weak.toK 16777223 0 0 []) (J1 () hm)
 ·
  replace hm := cF hq13_0 hm
  refine Wy (.b false) [] (Ocs (lit_tf (b := decide (p1 < 0)) hq13_0) (Omv rfl)) ?_
  refine Wy (.i p1) [] (Omv rfl) ?_
  refine Wy (.b (decide ((3 : Int) < p1))) [] (Obn rfl (fun _ => hb_gtr (k := .i64))) ?_
  refine Wy (.b (decide ((3 : Int) < p1))) [] (OpF rfl) ?_
  rcases tf_ (decide ((3 : Int) < p1)) with hq17_0 | hq17_0
  ·
   replace hm := cT hq17_0 hm
   refine Wy (.b true) [] (Ocs (lit_tf (b := decide ((3 : Int) < p1)) hq17_0) (Omv rfl)) ?_
   refine Wn ?_
   refine Wn ?_
   refine Wy (.b true) [] (OpT rfl) ?_
   refine Wy (.b true) [] (Omv rfl) ?_
   refine Wn ?_
   refine Wn ?_
   refine Wy (.b true) [] (OpT rfl) ?_
   refine Walk.nil ?_
   refine Then.normal ?_
   exact AWP.weak (Weak.toK 16777223 0 0 []) (J1 () hm)
  ·
   replace hm := cF hq17_0 hm
   refine Wy (.b false) [] (Ocs (lit_tf (b := decide ((3 : Int) < p1)) hq17_0) (Omv rfl)) ?_
   refine Wy (.i p2) [] (Omv rfl) ?_
   refine Wy (.b (decide (p2 < 0))) [] (Obn rfl (fun _ => hb_lss (k := .i64))) ?_
   refine Wy (.b (decide (p2 < 0))) [] (OpF rfl) ?_
   rcases tf_ (decide (p2 < 0)) with hq21_0 | hq21_0
   ·
    replace hm := cT hq21_0 hm
    refine Wy (.b true) [] (Ocs (lit_tf (b := decide (p2 < 0)) hq21_0) (Omv rfl)) ?_
    refine Wn ?_
    refine Wn ?_
    refine Wy (.b true) [] (OpT rfl) ?_
    refine Walk.nil ?_
    refine Then.normal ?_
    exact AWP.weak (Weak.toK 16777223 0 0 []) (J1 () hm)
   ·
    replace hm := cF hq21_0 hm
    refine Wy (.b false) [] (Ocs (lit_tf (b := decide (p2 < 0)) hq21_0) (Omv rfl)) ?_
    refine Wy (.i p2) [] (Omv rfl) ?_
    refine Wy (.b (decide ((1099511627776 : Int) < p2))) [] (Obn rfl (fun _ => hb_gtr (k := .i64))) ?_
    refine Wy (.b (decide ((1099511627776 : Int) < p2))) [] (OpF rfl) ?_
    refine Walk.nil ?_
    refine Then.normal ?_
    refine Amk 16777223 0 ⟨((.l enc_GLeave p0) :: ((.i p1) :: ((.i p2) :: (tp 21 ((.b (decide ((1099511627776 : Int) < p2))) :: (tp 20 [])))))), [], 0⟩ ?_
    rcases tf_ (decide ((1099511627776 : Int) < p2)) with hc24_5 | hc24_5
    ·
     replace hm := cT hc24_5 hm
     refine AWP.if_ true (Eq.trans (by kernel_rfl) (lit_tf (b := decide ((1099511627776 : Int) < p2)) hc24_5)) ?_
     refine AWP.seq ?_
     refine AWP.text ?_
     refine Wy (.l enc_GLeave p0) [] (Omv rfl) ?_
     refine Wy (.l enc_GLeave p0) [] (Omv rfl) ?_
     refine Wy (.i (-1)) [] (Omv rfl) ?_
     refine Wy (.d .nil) [] (Omv rfl) ?_
     refine Wy (.i 8) [] (Omv rfl) ?_
     refine Walk.nil ?_
     refine Then.normal ?_
     refine Aow 8 71 3 ⟨((.l enc_GLeave p0) :: ((.i p1) :: ((.i p2) :: (tp 3 ((.l enc_GLeave p0) :: ((.i (-1)) :: ((.own 0) :: ((.i 8) :: (tp 14 ((.b (decide ((1099511627776 : Int) < p2))) :: ((.l enc_GLeave p0) :: (tp 19 [])))))))))))), [(.arr 71 3 (List.length ([] : List GChange)) (flatD enc_GChange ([] : List GChange)))], 0⟩ ?_
     refine AWP.ret ?_
     refine Then.ret ?_
     obtain rfl := Option.some.inj hm
     exact ret_i [0]
    ·
     replace hm := cF hc24_5 hm
     refine AWP.if_ false (Eq.trans (by kernel_rfl) (lit_tf (b := decide ((1099511627776 : Int) < p2)) hc24_5)) ?_
     refine AWP.skip ?_
     refine Then.normal ?_
     refine Amk 7 0 ⟨((.l enc_GLeave p0) :: ((.i p1) :: ((.i p2) :: (tp 42 [])))), [], 0⟩ ?_
     refine AWP.seq ?_
     refine AWP.seq ?_
     refine AWP.text ?_
     refine Wy (.l enc_GLeave p0) [] (Omv rfl) ?_
     refine Wy (.i ((List.length p0 : Nat) : Int)) [] (Oln rfl) ?_
     refine Wy (.b (decide ((100 : Int) ≤ ((List.length p0 : Nat) : Int)))) [] (Obn rfl (fun _ => hb_geq (k := .i64))) ?_
     refine Walk.nil ?_
     refine Then.normal ?_
     refine Amk 268435463 0 ⟨((.l enc_GLeave p0) :: ((.i p1) :: ((.i p2) :: (tp 25 ((.b (decide ((100 : Int) ≤ ((List.length p0 : Nat) : Int)))) :: (tp 16 [])))))), [], 0⟩ ?_
     rcases tf_ (decide ((100 : Int) ≤ ((List.length p0 : Nat) : Int))) with hc28_6 | hc28_6
     ·
      replace hm := cT hc28_6 hm
      refine AWP.if_ true (Eq.trans (by kernel_rfl) (lit_tf (b := decide ((100 : Int) ≤ ((List.length p0 : Nat) : Int))) hc28_6)) ?_
      refine AWP.seq ?_
      refine AWP.text ?_
      refine Wy (.l enc_GLeave p0) [] (Omv rfl) ?_
      refine Wy (.l enc_GLeave p0) [] (Omv rfl) ?_
      refine Wy (.i (-1)) [] (Omv rfl) ?_
      refine Wy (.d .nil) [] (Omv rfl) ?_
      refine Wy (.i 7) [] (Omv rfl) ?_
      refine Walk.nil ?_
      refine Then.normal ?_
      refine Aow 8 71 3 ⟨((.l enc_GLeave p0) :: ((.i p1) :: ((.i p2) :: (tp 3 ((.l enc_GLeave p0) :: ((.i (-1)) :: ((.own 0) :: ((.i 7) :: (tp 18 ((.b (decide ((100 : Int) ≤ ((List.length p0 : Nat) : Int)))) :: ((.l enc_GLeave p0) :: (tp 15 [])))))))))))), [(.arr 71 3 (List.length ([] : List GChange)) (flatD enc_GChange ([] : List GChange)))], 0⟩ ?_
      refine AWP.ret ?_
      refine Then.ret ?_
      obtain rfl := Option.some.inj hm
      exact ret_i [0]
     ·
      replace hm := cF hc28_6 hm
      refine AWP.if_ false (Eq.trans (by kernel_rfl) (lit_tf (b := decide ((100 : Int) ≤ ((List.length p0 : Nat) : Int))) hc28_6)) ?_
      refine AWP.skip ?_
      refine Then.normal ?_
      refine Amk 7 0 ⟨((.l enc_GLeave p0) :: ((.i p1) :: ((.i p2) :: (tp 42 [])))), [], 0⟩ ?_
      refine AWP.seq ?_
      refine AWP.text ?_
      refine Wy (.own 0) [(0, (.arr 68 3 (List.length ([] : List GLeave)) (flatD enc_GLeave ([] : List GLeave))))] (Obs rfl) ?_
      refine Wy (.l enc_GLeave p0) [] (Omv rfl) ?_
      obtain ⟨a32_3, ha32_3, hm⟩ := bnd hm; obtain ⟨ha32_3e, ha32_3l⟩ := app_some ha32_3
      refine Wy (.own 1) [(0, .gone), (1, (.arr 68 3 (List.length a32_3) (flatD enc_GLeave a32_3)))] (Oap rfl elemOK_22 enc_GLeave_len ha32_3e ha32_3l) ?_
      refine Wy (.i p1) [] (Omv rfl) ?_
      refine Wy (.i p2) [] (Omv rfl) ?_
      refine Wy (.agg [(.i p1), (.i p2), (.b true)]) [] (Obd rfl) ?_
      refine Wy (.own 2) [(2, (.arr 68 3 (List.length ([(GLeave.mk p1 p2 true)] : List GLeave)) (flatD enc_GLeave ([(GLeave.mk p1 p2 true)] : List GLeave))))] (Obs rfl) ?_
      obtain ⟨a37_3, ha37_3, hm⟩ := bnd hm; obtain ⟨ha37_3e, ha37_3l⟩ := app_some ha37_3
      refine Wy (.own 3) [(1, .gone), (3, (.arr 68 3 (List.length a37_3) (flatD enc_GLeave a37_3)))] (Oap rfl elemOK_22 enc_GLeave_len ha37_3e ha37_3l) ?_
      refine Wy (.own 3) [] (Omv rfl) ?_
      refine Walk.nil ?_
      refine Then.normal ?_
      refine Amk 1031 8 ⟨((.l enc_GLeave p0) :: ((.i p1) :: ((.i p2) :: (tp 7 ((.own 3) :: (tp 34 [])))))), [.gone, .gone, .gone, (.arr 68 3 (List.length a37_3) (flatD enc_GLeave a37_3))], 0⟩ ?_
      refine AWP.seq ?_
      refine AWP.text ?_
      refine Wy (.own 3) [] (Omv rfl) ?_
      refine Wy (.l enc_GLeave p0) [] (Omv rfl) ?_
      refine Wy (.i ((List.length p0 : Nat) : Int)) [] (Oln rfl) ?_
      refine Wy (.i p1) [] (Omv rfl) ?_
      refine Wy (.i p2) [] (Omv rfl) ?_
      refine Wy (.agg [(.i p1), (.i p2), (.i 1)]) [] (Obd rfl) ?_
      refine Wy (.own 4) [(4, (.arr 71 3 (List.length ([(GChange.mk p1 p2 1)] : List GChange)) (flatD enc_GChange ([(GChange.mk p1 p2 1)] : List GChange))))] (Obs rfl) ?_
      refine Wy (.own 3) [] (Omv rfl) ?_
      refine Wy (.i ((List.length p0 : Nat) : Int)) [] (Omv rfl) ?_
      refine Wy (.own 4) [] (Omv rfl) ?_
      refine Wy (.i 0) [] (Omv rfl) ?_
      refine Walk.nil ?_
      refine Then.normal ?_
      refine Afz [3] ⟨((.l enc_GLeave p0) :: ((.i p1) :: ((.i p2) :: (tp 3 ((.l enc_GLeave a37_3) :: ((.i ((List.length p0 : Nat) : Int)) :: ((.own 4) :: ((.i 0) :: ((.l enc_GLeave a37_3) :: (tp 27 ((.l enc_GLeave a37_3) :: ((.l enc_GLeave p0) :: ((.i ((List.length p0 : Nat) : Int)) :: ((.i p1) :: ((.i p2) :: ((.agg [(.i p1), (.i p2), (.i 1)]) :: ((.own 4) :: []))))))))))))))))), [.gone, .gone, .gone, (.fro 68 3 (List.length a37_3) (flatD enc_GLeave a37_3)), (.arr 71 3 (List.length ([(GChange.mk p1 p2 1)] : List GChange)) (flatD enc_GChange ([(GChange.mk p1 p2 1)] : List GChange)))], 0⟩ ?_
      refine AWP.ret ?_
      obtain rfl := Option.some.inj hm
      exact ret_i [4]

set_option maxRecDepth 20000 in
set_option maxHeartbeats 4000000 in
theorem ok_telltaleref28_why (p0 : (List GLeave)) (p1 : Int) (r : Int) (h : m_telltaleref28_why p0 p1 = some r) : GCall Try.prog 34 [(.l enc_GLeave p0), (.i p1)] [] (.i r) [] := by
 refine GCall.of_body (n := 19) (rs := [(.tmp 4)]) Try.func34 rfl rfl rfl ?_
 refine Ato ⟨((.l enc_GLeave p0) :: ((.i p1) :: (tu 17 []))), [], 0⟩ ?_
 have hm := h
 unfold m_telltaleref28_why at hm
 refine AWP.seq ?_
 refine AWP.text ?_
 refine Wy (.i 0) [] (Omv rfl) ?_
 refine Walk.nil ?_
 refine Then.normal ?_
 refine Amk 3 0 ⟨((.l enc_GLeave p0) :: ((.i p1) :: (tp 17 []))), [], 0⟩ ?_
 refine AWP.seq ?_
 refine AWP.seq ?_
 refine AWP.text ?_
 refine Wy (.i p1) [] (Omv rfl) ?_
 refine Wy (.b (decide (p1 < 0))) [] (Obn rfl (fun _ => hb_lss (k := .i64))) ?_
 rcases tf_ (decide (p1 < 0)) with hq7_0 | hq7_0
 ·
  replace hm := cT hq7_0 hm
  refine Wy (.b true) [] (Ocs (lit_tf (b := decide (p1 < 0)) hq7_0) (Omv rfl)) ?_
  refine Wn ?_
  refine Wn ?_
  refine Wn ?_
  refine Wn ?_
  refine Wy (.b true) [] (OpT rfl) ?_
  refine Walk.nil ?_
  refine Then.normal ?_
  refine Amk 4099 0 ⟨((.l enc_GLeave p0) :: ((.i p1) :: (tp 10 ((.b true) :: (tp 6 []))))), [], 0⟩ ?_
  refine AWP.if_ true (by kernel_rfl) ?_
  refine AWP.seq ?_
  refine AWP.text ?_
  refine Wy (.i 6) [] (Omv rfl) ?_
  refine Walk.nil ?_
  refine Then.normal ?_
  refine AWP.ret ?_
  refine Then.ret ?_
  obtain rfl := Option.some.inj hm
  exact ret_i []
 ·
  replace hm := cF hq7_0 hm
  refine Wy (.b false) [] (Ocs (lit_tf (b := decide (p1 < 0)) hq7_0) (Omv rfl)) ?_
  refine Wy (.i p1) [] (Omv rfl) ?_
  refine Wy (.l enc_GLeave p0) [] (Omv rfl) ?_
  refine Wy (.i ((List.length p0 : Nat) : Int)) [] (Oln rfl) ?_
  refine Wy (.b (decide (((List.length p0 : Nat) : Int) ≤ p1))) [] (Obn rfl (fun _ => hb_geq (k := .i64))) ?_
  refine Wy (.b (decide (((List.length p0 : Nat) : Int) ≤ p1))) [] (OpF rfl) ?_
  refine Walk.nil ?_
  refine Then.normal ?_
  refine Amk 4099 0 ⟨((.l enc_GLeave p0) :: ((.i p1) :: (tp 10 ((.b (decide (((List.length p0 : Nat) : Int) ≤ p1))) :: (tp 6 []))))), [], 0⟩ ?_
  rcases tf_ (decide (((List.length p0 : Nat) : Int) ≤ p1)) with hc12_2 | hc12_2
  ·
   replace hm := cT hc12_2 hm
   refine AWP.if_ true (Eq.trans (by kernel_rfl) (lit_tf (b := decide (((List.length p0 : Nat) : Int) ≤ p1)) hc12_2)) ?_
   refine AWP.seq ?_
   refine AWP.text ?_
   refine Wy (.i 6) [] (Omv rfl) ?_
   refine Walk.nil ?_
   refine Then.normal ?_
   refine AWP.ret ?_
   refine Then.ret ?_
   obtain rfl := Option.some.inj hm
   exact ret_i []
  ·
   replace hm := cF hc12_2 hm
   refine AWP.if_ false (Eq.trans (by kernel_rfl) (lit_tf (b := decide (((List.length p0 : Nat) : Int) ≤ p1)) hc12_2)) ?_
   refine AWP.skip ?_
   refine Then.normal ?_
   refine Amk 3 0 ⟨((.l enc_GLeave p0) :: ((.i p1) :: (tp 17 []))), [], 0⟩ ?_
   refine AWP.seq ?_
   refine AWP.seq ?_
   refine AWP.text ?_
   refine Wy (.l enc_GLeave p0) [] (Omv rfl) ?_
   refine Wy (.i p1) [] (Omv rfl) ?_
   obtain ⟨x15_1, hx15_1, hm⟩ := bnd hm
   obtain ⟨hx15_1i, hx15_1g⟩ := geti_some hx15_1
   refine Wy (.d (.ref (List.drop ((Int.toNat p1) * 3) (flatD enc_GLeave p0)))) [] (Oia rfl enc_GLeave_len hx15_1i hx15_1g) ?_
   refine Wy (.d (.ref (List.drop 2 (List.drop ((Int.toNat p1) * 3) (flatD enc_GLeave p0))))) [] (Ofa rfl) ?_
   refine Wy (.b x15_1.Held) [] (Lfk1 2 rfl enc_GLeave_len hx15_1g) ?_
   refine Wy (.b (!x15_1.Held)) [] (Ocs (by kernel_rfl) (op_un rfl (a1 := .bool x15_1.Held) (by kernel_rfl) (fun _ => hu_not))) ?_
   refine Walk.nil ?_
   refine Then.normal ?_
   refine Amk 262144 0 ⟨(tp 18 ((.b (!x15_1.Held)) :: [])), [], 0⟩ ?_
   rcases tf_ (!x15_1.Held) with hc18_3 | hc18_3
   ·
    replace hm := cT hc18_3 hm
    refine AWP.if_ true (Eq.trans (by kernel_rfl) (lit_tf (b := (!x15_1.Held)) hc18_3)) ?_
    refine AWP.seq ?_
    refine AWP.text ?_
    refine Wy (.i 20) [] (Omv rfl) ?_
    refine Walk.nil ?_
    refine Then.normal ?_
    refine AWP.ret ?_
    refine Then.ret ?_
    obtain rfl := Option.some.inj hm
    exact ret_i []
   ·
    replace hm := cF hc18_3 hm
    refine AWP.if_ false (Eq.trans (by kernel_rfl) (lit_tf (b := (!x15_1.Held)) hc18_3)) ?_
    refine AWP.skip ?_
    refine Then.normal ?_
    refine Amk 0 0 ⟨(tp 19 []), [], 0⟩ ?_
    refine AWP.seq ?_
    refine AWP.text ?_
    refine Wy (.i 0) [] (Omv rfl) ?_
    refine Walk.nil ?_
    refine Then.normal ?_
    refine AWP.ret ?_
    obtain rfl := Option.some.inj hm
    exact ret_i []

set_option maxRecDepth 20000 in
set_option maxHeartbeats 4000000 in
theorem ok_telltaleref28_with (p0 : (List GLeave)) (p1 : Int) (p2 : GLeave) (r : (List GLeave)) (h : m_telltaleref28_with p0 p1 p2 = some r) : GCall Try.prog 35 [(.l enc_GLeave p0), (.i p1), (.agg [(.i p2.Loc), (.i p2.Time), (.b p2.Held)])] [] (.own 0) [(.arr 68 3 (List.length r) (flatD enc_GLeave r))] := by
 refine GCall.of_body (n := 16) (rs := [(.tmp 6)]) Try.func35 rfl rfl rfl ?_
 refine Ato ⟨((.l enc_GLeave p0) :: ((.i p1) :: ((.agg [(.i p2.Loc), (.i p2.Time), (.b p2.Held)]) :: (tu 13 [])))), [], 0⟩ ?_
 have hm := h
 unfold m_telltaleref28_with at hm
 refine AWP.seq ?_
 refine AWP.text ?_
 refine Wy (.loc 0 0) [(0, (.box [(.i p2.Loc), (.i p2.Time), (.b p2.Held)]))] (Obx rfl) ?_
 refine Wy (.d .nil) [] (Omv rfl) ?_
 refine Walk.nil ?_
 refine Then.normal ?_
 refine Amk 35 1 ⟨((.l enc_GLeave p0) :: ((.i p1) :: (tp 3 ((.loc 0 0) :: (tp 10 []))))), [(.box [(.i p2.Loc), (.i p2.Time), (.b p2.Held)])], 0⟩ ?_
 refine AWP.seq ?_
 refine AWP.text ?_
 refine Wy (.own 1) [(1, (.arr 68 3 (List.length ([] : List GLeave)) (flatD enc_GLeave ([] : List GLeave))))] (Obs rfl) ?_
 refine Wy (.l enc_GLeave p0) [] (Omv rfl) ?_
 obtain ⟨a10_0, ha10_0, hm⟩ := bnd hm; obtain ⟨ha10_0e, ha10_0l⟩ := app_some ha10_0
 refine Wy (.own 2) [(1, .gone), (2, (.arr 68 3 (List.length a10_0) (flatD enc_GLeave a10_0)))] (Oap rfl elemOK_22 enc_GLeave_len ha10_0e ha10_0l) ?_
 refine Wy (.own 2) [] (Omv rfl) ?_
 refine Walk.nil ?_
 refine Then.normal ?_
 refine Amk 162 5 ⟨(tp 1 ((.i p1) :: (tp 3 ((.loc 0 0) :: (tp 1 ((.own 2) :: (tp 8 []))))))), [(.box [(.i p2.Loc), (.i p2.Time), (.b p2.Held)]), .gone, (.arr 68 3 (List.length a10_0) (flatD enc_GLeave a10_0))], 0⟩ ?_
 refine AWP.seq ?_
 refine AWP.text ?_
 refine Wy (.own 2) [] (Omv rfl) ?_
 refine Wy (.i p1) [] (Omv rfl) ?_
 refine Wy (.agg [(.i p2.Loc), (.i p2.Time), (.b p2.Held)]) [] (Old rfl) ?_
 obtain ⟨x14_1, hx14_1, hm⟩ := bnd hm
 obtain ⟨hx14_1i, hx14_1g⟩ := geti_some hx14_1
 refine Wy (.loc 2 ((Int.toNat p1) * 3)) [] (Oia rfl enc_GLeave_len hx14_1i hx14_1g) ?_
 refine Wy (.tup []) [(2, (.arr 68 3 (List.length (List.set a10_0 (Int.toNat p1) p2)) (flatD enc_GLeave (List.set a10_0 (Int.toNat p1) p2))))] (Osr 0 rfl enc_GLeave_len hx14_1g p2) ?_
 refine Walk.nil ?_
 refine Then.normal ?_
 refine Amk 128 4 ⟨(tp 7 ((.own 2) :: (tp 8 []))), [.gone, .gone, (.arr 68 3 (List.length (List.set a10_0 (Int.toNat p1) p2)) (flatD enc_GLeave (List.set a10_0 (Int.toNat p1) p2)))], 0⟩ ?_
 refine AWP.seq ?_
 refine AWP.text ?_
 refine Wy (.own 2) [] (Omv rfl) ?_
 refine Wy (.own 2) [] (Omv rfl) ?_
 refine Walk.nil ?_
 refine Then.normal ?_
 refine AWP.ret ?_
 obtain rfl := Option.some.inj hm
 exact ret_i [2]

set_option maxRecDepth 20000 in
set_option maxHeartbeats 4000000 in
theorem ok_telltaleref26_At (p0 : (List GChange)) (p1 : Int) (p2 : Int) (r : Int) (h : m_telltaleref26_At p0 p1 p2 = some r) : GCall Try.prog 47 [(.l enc_GChange p0), (.i p1), (.i p2)] [] (.i r) [] := by
 refine GCall.of_body (n := 39) (rs := [(.tmp 6)]) Try.func47 rfl rfl rfl ?_
 refine Ato ⟨((.l enc_GChange p0) :: ((.i p1) :: ((.i p2) :: (tu 36 [])))), [], 0⟩ ?_
 have hm := h
 unfold m_telltaleref26_At at hm
 refine AWP.seq ?_
 refine AWP.text ?_
 refine Wy (.i 0) [] (Omv rfl) ?_
 refine Walk.nil ?_
 refine Then.normal ?_
 refine Amk 7 0 ⟨((.l enc_GChange p0) :: ((.i p1) :: ((.i p2) :: (tp 36 [])))), [], 0⟩ ?_
 refine AWP.seq ?_
 refine AWP.text ?_
 refine Wy (.i 0) [] (Omv rfl) ?_
 refine Walk.nil ?_
 refine Then.normal ?_
 refine Amk 135 0 ⟨((.l enc_GChange p0) :: ((.i p1) :: ((.i p2) :: (tp 4 ((.i 0) :: (tp 31 [])))))), [], 0⟩ ?_
 refine AWP.seq ?_
 refine AWP.seq ?_
 refine AWP.text ?_
 refine Wy (.i 0) [] (Omv rfl) ?_
 refine Walk.nil ?_
 refine Then.normal ?_
 refine Amk 391 0 ⟨((.l enc_GChange p0) :: ((.i p1) :: ((.i p2) :: (tp 4 ((.i 0) :: ((.i 0) :: (tp 30 []))))))), [], 0⟩ ?_
 refine AWP.block ?_
 refine AWP.loopI (α := Nat × Int × Int)
   (fun x => match x with | (fu_0, y7_0, y8_0) => (⟨((.l enc_GChange p0) :: ((.i p1) :: ((.i p2) :: (tp 4 ((.i y7_0) :: ((.i y8_0) :: (tp 30 []))))))), [], 0⟩ : St))
   (fun x => match x with | (fu_0, y7_0, y8_0) => m_telltaleref26_At_l0 p0 p1 p2 fu_0 y7_0 y8_0 = some r)
   (fun x => match x with | (fu_0, y7_0, y8_0) => fu_0) (1152921504606846976, 0, 0)
   (Weak.toK 391 0 0 []) hm ?_
 rintro ⟨fu_0, y7_0, y8_0⟩ n_0 hm ih_0
 try dsimp only at hm ih_0 ⊢
 cases fu_0 with
 | zero => exact absurd hm (by unfold m_telltaleref26_At_l0; simp)
 | succ fu_0 =>
  unfold m_telltaleref26_At_l0 at hm
  refine AWP.seq ?_
  refine AWP.seq ?_
  refine AWP.text ?_
  refine Wy (.i y8_0) [] (Omv rfl) ?_
  refine Wy (.l enc_GChange p0) [] (Omv rfl) ?_
  refine Wy (.i ((List.length p0 : Nat) : Int)) [] (Oln rfl) ?_
  refine Wy (.b (decide (y8_0 < ((List.length p0 : Nat) : Int)))) [] (Obn rfl (fun _ => hb_lss (k := .i64))) ?_
  refine Walk.nil ?_
  refine Then.normal ?_
  refine Amk 4487 0 ⟨((.l enc_GChange p0) :: ((.i p1) :: ((.i p2) :: (tp 4 ((.i y7_0) :: ((.i y8_0) :: (tp 3 ((.b (decide (y8_0 < ((List.length p0 : Nat) : Int)))) :: (tp 26 []))))))))), [], 0⟩ ?_
  rcases tf_ (decide (y8_0 < ((List.length p0 : Nat) : Int))) with hc12_4 | hc12_4
  ·
   replace hm := cT hc12_4 hm
   refine AWP.if_ true (Eq.trans (by kernel_rfl) (lit_tf (b := decide (y8_0 < ((List.length p0 : Nat) : Int))) hc12_4)) ?_
   refine AWP.skip ?_
   refine Then.normal ?_
   refine Amk 391 0 ⟨((.l enc_GChange p0) :: ((.i p1) :: ((.i p2) :: (tp 4 ((.i y7_0) :: ((.i y8_0) :: (tp 30 []))))))), [], 0⟩ ?_
   refine AWP.seq ?_
   refine AWP.block ?_
   refine AWP.seq ?_
   refine AWP.text ?_
   refine Wy (.l enc_GChange p0) [] (Omv rfl) ?_
   refine Wy (.i y8_0) [] (Omv rfl) ?_
   obtain ⟨x17_2, hx17_2, hm⟩ := bnd hm
   obtain ⟨hx17_2i, hx17_2g⟩ := geti_some hx17_2
   refine Wy (.d (.ref (List.drop ((Int.toNat y8_0) * 3) (flatD enc_GChange p0)))) [] (Oia rfl enc_GChange_len hx17_2i hx17_2g) ?_
   refine Wy (.d (.ref (List.drop ((Int.toNat y8_0) * 3) (flatD enc_GChange p0)))) [] (Ofa rfl) ?_
   refine Wy (.i x17_2.Loc) [] (Lf1 rfl enc_GChange_len hx17_2g) ?_
   refine Wy (.i p1) [] (Omv rfl) ?_
   refine Wy (.b (decide (x17_2.Loc = p1))) [] (Obn rfl (fun _ => hb_eql (k := .i64))) ?_
   rcases tf_ (decide (x17_2.Loc = p1)) with hq22_2 | hq22_2
   ·
    replace hm := cT hq22_2 hm
    refine Wy (.b true) [] (Ocs (lit_tf (b := decide (x17_2.Loc = p1)) hq22_2) (Omv rfl)) ?_
    refine Wy (.l enc_GChange p0) [] (Omv rfl) ?_
    refine Wy (.i y8_0) [] (Omv rfl) ?_
    obtain ⟨x25_2, hx25_2, hm⟩ := bnd hm
    obtain ⟨hx25_2i, hx25_2g⟩ := geti_some hx25_2
    refine Wy (.d (.ref (List.drop ((Int.toNat y8_0) * 3) (flatD enc_GChange p0)))) [] (Oia rfl enc_GChange_len hx25_2i hx25_2g) ?_
    refine Wy (.d (.ref (List.drop 1 (List.drop ((Int.toNat y8_0) * 3) (flatD enc_GChange p0))))) [] (Ofa rfl) ?_
    refine Wy (.i x25_2.Time) [] (Lfk1 1 rfl enc_GChange_len hx25_2g) ?_
    refine Wy (.i p2) [] (Omv rfl) ?_
    refine Wy (.b (decide (x25_2.Time = p2))) [] (Obn rfl (fun _ => hb_eql (k := .i64))) ?_
    refine Wy (.b (decide (x25_2.Time = p2))) [] (OpT rfl) ?_
    refine Walk.nil ?_
    refine Then.normal ?_
    refine Amk 1073742215 0 ⟨((.l enc_GChange p0) :: ((.i p1) :: ((.i p2) :: (tp 4 ((.i y7_0) :: ((.i y8_0) :: (tp 21 ((.b (decide (x25_2.Time = p2))) :: (tp 8 []))))))))), [], 0⟩ ?_
    rcases tf_ (decide (x25_2.Time = p2)) with hc30_5 | hc30_5
    ·
     replace hm := cT hc30_5 hm
     refine AWP.if_ true (Eq.trans (by kernel_rfl) (lit_tf (b := decide (x25_2.Time = p2)) hc30_5)) ?_
     refine AWP.text ?_
     refine Wy (.i y7_0) [] (Omv rfl) ?_
     refine Wy (.l enc_GChange p0) [] (Omv rfl) ?_
     refine Wy (.i y8_0) [] (Omv rfl) ?_
     obtain ⟨x34_3, hx34_3, hm⟩ := bnd hm
     obtain ⟨hx34_3i, hx34_3g⟩ := geti_some hx34_3
     refine Wy (.d (.ref (List.drop ((Int.toNat y8_0) * 3) (flatD enc_GChange p0)))) [] (Oia rfl enc_GChange_len hx34_3i hx34_3g) ?_
     refine Wy (.d (.ref (List.drop 2 (List.drop ((Int.toNat y8_0) * 3) (flatD enc_GChange p0))))) [] (Ofa rfl) ?_
     refine Wy (.i x34_3.N) [] (Lfk1 2 rfl enc_GChange_len hx34_3g) ?_
     refine Wy (.i (IntKind.i64.wrap (y7_0 + x34_3.N))) [] (Obn rfl (fun _ => hb_add (k := .i64))) ?_
     refine Wy (.i (IntKind.i64.wrap (y7_0 + x34_3.N))) [] (Omv rfl) ?_
     refine Walk.nil ?_
     refine InBlock.normal ?_
     refine Then.normal ?_
     refine Amk 391 0 ⟨((.l enc_GChange p0) :: ((.i p1) :: ((.i p2) :: (tp 4 ((.i (IntKind.i64.wrap (y7_0 + x34_3.N))) :: ((.i y8_0) :: (tp 30 []))))))), [], 0⟩ ?_
     refine AWP.text ?_
     refine Wy (.i y8_0) [] (Omv rfl) ?_
     refine Wy (.i (IntKind.i64.wrap (y8_0 + 1))) [] (Obn rfl (fun _ => hb_add (k := .i64))) ?_
     refine Wy (.i (IntKind.i64.wrap (y8_0 + 1))) [] (Omv rfl) ?_
     refine Walk.nil ?_
     refine RoundK.normal ?_
     exact Rounds.weak (Weak.toK 391 0 0 []) (ih_0 (fu_0, (IntKind.i64.wrap (y7_0 + x34_3.N)), (IntKind.i64.wrap (y8_0 + 1))) hm (Nat.lt_succ_self _))
    ·
     replace hm := cF hc30_5 hm
     refine AWP.if_ false (Eq.trans (by kernel_rfl) (lit_tf (b := decide (x25_2.Time = p2)) hc30_5)) ?_
     refine AWP.skip ?_
     refine InBlock.normal ?_
     refine Then.normal ?_
     refine Amk 391 0 ⟨((.l enc_GChange p0) :: ((.i p1) :: ((.i p2) :: (tp 4 ((.i y7_0) :: ((.i y8_0) :: (tp 30 []))))))), [], 0⟩ ?_
     refine AWP.text ?_
     refine Wy (.i y8_0) [] (Omv rfl) ?_
     refine Wy (.i (IntKind.i64.wrap (y8_0 + 1))) [] (Obn rfl (fun _ => hb_add (k := .i64))) ?_
     refine Wy (.i (IntKind.i64.wrap (y8_0 + 1))) [] (Omv rfl) ?_
     refine Walk.nil ?_
     refine RoundK.normal ?_
     exact Rounds.weak (Weak.toK 391 0 0 []) (ih_0 (fu_0, y7_0, (IntKind.i64.wrap (y8_0 + 1))) hm (Nat.lt_succ_self _))
   ·
    replace hm := cF hq22_2 hm
    refine Wy (.b false) [] (Ocs (lit_tf (b := decide (x17_2.Loc = p1)) hq22_2) (Omv rfl)) ?_
    refine Wn ?_
    refine Wn ?_
    refine Wn ?_
    refine Wn ?_
    refine Wn ?_
    refine Wn ?_
    refine Wn ?_
    refine Wy (.b false) [] (OpF rfl) ?_
    refine Walk.nil ?_
    refine Then.normal ?_
    refine Amk 1073742215 0 ⟨((.l enc_GChange p0) :: ((.i p1) :: ((.i p2) :: (tp 4 ((.i y7_0) :: ((.i y8_0) :: (tp 21 ((.b false) :: (tp 8 []))))))))), [], 0⟩ ?_
    refine AWP.if_ false (by kernel_rfl) ?_
    refine AWP.skip ?_
    refine InBlock.normal ?_
    refine Then.normal ?_
    refine Amk 391 0 ⟨((.l enc_GChange p0) :: ((.i p1) :: ((.i p2) :: (tp 4 ((.i y7_0) :: ((.i y8_0) :: (tp 30 []))))))), [], 0⟩ ?_
    refine AWP.text ?_
    refine Wy (.i y8_0) [] (Omv rfl) ?_
    refine Wy (.i (IntKind.i64.wrap (y8_0 + 1))) [] (Obn rfl (fun _ => hb_add (k := .i64))) ?_
    refine Wy (.i (IntKind.i64.wrap (y8_0 + 1))) [] (Omv rfl) ?_
    refine Walk.nil ?_
    refine RoundK.normal ?_
    exact Rounds.weak (Weak.toK 391 0 0 []) (ih_0 (fu_0, y7_0, (IntKind.i64.wrap (y8_0 + 1))) hm (Nat.lt_succ_self _))
  ·
   replace hm := cF hc12_4 hm
   refine AWP.if_ false (Eq.trans (by kernel_rfl) (lit_tf (b := decide (y8_0 < ((List.length p0 : Nat) : Int))) hc12_4)) ?_
   refine AWP.exit ?_
   refine Then.exit ?_
   refine RoundK.exit ?_
   refine InBlock.same ?_
   refine Then.normal ?_
   refine Amk 128 0 ⟨(tp 7 ((.i y7_0) :: (tp 31 []))), [], 0⟩ ?_
   refine AWP.seq ?_
   refine AWP.text ?_
   refine Wy (.i y7_0) [] (Omv rfl) ?_
   refine Wy (.i y7_0) [] (Omv rfl) ?_
   refine Walk.nil ?_
   refine Then.normal ?_
   refine AWP.ret ?_
   obtain rfl := Option.some.inj hm
   exact ret_i []

set_option maxRecDepth 20000 in
set_option maxHeartbeats 4000000 in
theorem ok_telltaleref26_before (p0 : GChange) (p1 : GChange) (r : Bool) (h : m_telltaleref26_before p0 p1 = some r) : GCall Try.prog 48 [(.agg [(.i p0.Loc), (.i p0.Time), (.i p0.N)]), (.agg [(.i p1.Loc), (.i p1.Time), (.i p1.N)])] [] (.b r) [] := by
 refine GCall.of_body (n := 24) (rs := [(.tmp 4)]) Try.func48 rfl rfl rfl ?_
 refine Ato ⟨((.agg [(.i p0.Loc), (.i p0.Time), (.i p0.N)]) :: ((.agg [(.i p1.Loc), (.i p1.Time), (.i p1.N)]) :: (tu 22 []))), [], 0⟩ ?_
 have hm := h
 unfold m_telltaleref26_before at hm
 refine AWP.seq ?_
 refine AWP.text ?_
 refine Wy (.loc 0 0) [(0, (.box [(.i p0.Loc), (.i p0.Time), (.i p0.N)]))] (Obx rfl) ?_
 refine Wy (.loc 1 0) [(1, (.box [(.i p1.Loc), (.i p1.Time), (.i p1.N)]))] (Obx rfl) ?_
 refine Wy (.b false) [] (Omv rfl) ?_
 refine Walk.nil ?_
 refine Then.normal ?_
 refine Amk 12 3 ⟨(tp 2 ((.loc 0 0) :: ((.loc 1 0) :: (tp 20 [])))), [(.box [(.i p0.Loc), (.i p0.Time), (.i p0.N)]), (.box [(.i p1.Loc), (.i p1.Time), (.i p1.N)])], 0⟩ ?_
 refine AWP.seq ?_
 refine AWP.text ?_
 refine Wy (.loc 0 0) [] (Ofa rfl) ?_
 refine Wy (.i p0.Loc) [] (Old rfl) ?_
 refine Wy (.loc 1 0) [] (Ofa rfl) ?_
 refine Wy (.i p1.Loc) [] (Old rfl) ?_
 refine Wy (.b (decide (p0.Loc < p1.Loc))) [] (Obn rfl (fun _ => hb_lss (k := .i64))) ?_
 rcases tf_ (decide (p0.Loc < p1.Loc)) with hq10_0 | hq10_0
 ·
  replace hm := cT hq10_0 hm
  refine Wy (.b true) [] (Ocs (lit_tf (b := decide (p0.Loc < p1.Loc)) hq10_0) (Omv rfl)) ?_
  refine Wn ?_
  refine Wn ?_
  refine Wn ?_
  refine Wn ?_
  refine Wn ?_
  refine Wn ?_
  refine Wn ?_
  refine Wn ?_
  refine Wn ?_
  refine Wn ?_
  refine Wn ?_
  refine Wn ?_
  refine Wy (.b true) [] (OpT rfl) ?_
  refine Wy (.b true) [] (Omv rfl) ?_
  refine Walk.nil ?_
  refine Then.normal ?_
  refine AWP.ret ?_
  obtain rfl := Option.some.inj hm
  exact ret_i []
 ·
  replace hm := cF hq10_0 hm
  refine Wy (.b false) [] (Ocs (lit_tf (b := decide (p0.Loc < p1.Loc)) hq10_0) (Omv rfl)) ?_
  refine Wy (.loc 0 0) [] (Ofa rfl) ?_
  refine Wy (.i p0.Loc) [] (Old rfl) ?_
  refine Wy (.loc 1 0) [] (Ofa rfl) ?_
  refine Wy (.i p1.Loc) [] (Old rfl) ?_
  refine Wy (.b (decide (p0.Loc = p1.Loc))) [] (Obn rfl (fun _ => hb_eql (k := .i64))) ?_
  rcases tf_ (decide (p0.Loc = p1.Loc)) with hq16_0 | hq16_0
  ·
   replace hm := cT hq16_0 hm
   refine Wy (.b true) [] (Ocs (lit_tf (b := decide (p0.Loc = p1.Loc)) hq16_0) (Omv rfl)) ?_
   refine Wy (.loc 0 1) [] (Ofa rfl) ?_
   refine Wy (.i p0.Time) [] (Old rfl) ?_
   refine Wy (.loc 1 1) [] (Ofa rfl) ?_
   refine Wy (.i p1.Time) [] (Old rfl) ?_
   refine Wy (.b (decide (p0.Time < p1.Time))) [] (Obn rfl (fun _ => hb_lss (k := .i64))) ?_
   refine Wy (.b (decide (p0.Time < p1.Time))) [] (OpT rfl) ?_
   refine Wy (.b (decide (p0.Time < p1.Time))) [] (OpF rfl) ?_
   refine Wy (.b (decide (p0.Time < p1.Time))) [] (Omv rfl) ?_
   refine Walk.nil ?_
   refine Then.normal ?_
   refine AWP.ret ?_
   obtain rfl := Option.some.inj hm
   exact ret_i []
  ·
   replace hm := cF hq16_0 hm
   refine Wy (.b false) [] (Ocs (lit_tf (b := decide (p0.Loc = p1.Loc)) hq16_0) (Omv rfl)) ?_
   refine Wn ?_
   refine Wn ?_
   refine Wn ?_
   refine Wn ?_
   refine Wn ?_
   refine Wy (.b false) [] (OpF rfl) ?_
   refine Wy (.b false) [] (OpF rfl) ?_
   refine Wy (.b false) [] (Omv rfl) ?_
   refine Walk.nil ?_
   refine Then.normal ?_
   refine AWP.ret ?_
   obtain rfl := Option.some.inj hm
   exact ret_i []

set_option maxRecDepth 20000 in
set_option maxHeartbeats 4000000 in
theorem ok_telltaleref26_Normal (p0 : (List GChange)) (r : (List GChange)) (h : m_telltaleref26_Normal p0 = some r) : GCall Try.prog 36 [(.l enc_GChange p0)] [] (.own 0) [(.arr 71 3 (List.length r) (flatD enc_GChange r))] := by
 refine GCall.of_body (n := 86) (rs := [(.tmp 2)]) Try.func36 rfl rfl rfl ?_
 refine Ato ⟨((.l enc_GChange p0) :: (tu 85 [])), [], 0⟩ ?_
 have hm := h
 unfold m_telltaleref26_Normal at hm
 refine AWP.seq ?_
 refine AWP.text ?_
 refine Wy (.d .nil) [] (Omv rfl) ?_
 refine Walk.nil ?_
 refine Then.normal ?_
 refine Amk 1 0 ⟨((.l enc_GChange p0) :: (tp 85 [])), [], 0⟩ ?_
 refine AWP.seq ?_
 refine AWP.text ?_
 refine Wy (.d .nil) [] (Omv rfl) ?_
 refine Walk.nil ?_
 refine Then.normal ?_
 refine Amk 9 0 ⟨((.l enc_GChange p0) :: (tp 2 ((.d .nil) :: (tp 82 [])))), [], 0⟩ ?_
 refine AWP.seq ?_
 refine AWP.seq ?_
 refine AWP.text ?_
 refine Wy (.i 0) [] (Omv rfl) ?_
 refine Walk.nil ?_
 refine Then.normal ?_
 refine Amk 25 0 ⟨((.l enc_GChange p0) :: (tp 2 ((.d .nil) :: ((.i 0) :: (tp 81 []))))), [], 0⟩ ?_
 refine AWP.block ?_
 refine Aow 3 71 3 ⟨((.l enc_GChange p0) :: (tp 2 ((.own 0) :: ((.i 0) :: (tp 81 []))))), [(.arr 71 3 (List.length ([] : List GChange)) (flatD enc_GChange ([] : List GChange)))], 0⟩ ?_
 refine AWP.loopI (α := Nat × (List GChange) × Int)
   (fun x => match x with | (fu_0, y3_0, y4_0) => (⟨((.l enc_GChange p0) :: (tp 2 ((.own 0) :: ((.i y4_0) :: (tp 81 []))))), [(.arr 71 3 (List.length y3_0) (flatD enc_GChange y3_0))], 0⟩ : St))
   (fun x => match x with | (fu_0, y3_0, y4_0) => m_telltaleref26_Normal_l0 p0 fu_0 y3_0 y4_0 = some r)
   (fun x => match x with | (fu_0, y3_0, y4_0) => fu_0) (1152921504606846976, ([] : List GChange), 0)
   (Weak.toK 25 0 0 [0]) hm ?_
 rintro ⟨fu_0, y3_0, y4_0⟩ n_0 hm ih_0
 try dsimp only at hm ih_0 ⊢
 cases fu_0 with
 | zero => exact absurd hm (by unfold m_telltaleref26_Normal_l0; simp)
 | succ fu_0 =>
  unfold m_telltaleref26_Normal_l0 at hm
  refine AWP.seq ?_
  refine AWP.seq ?_
  refine AWP.text ?_
  refine Wy (.i y4_0) [] (Omv rfl) ?_
  refine Wy (.l enc_GChange p0) [] (Omv rfl) ?_
  refine Wy (.i ((List.length p0 : Nat) : Int)) [] (Oln rfl) ?_
  refine Wy (.b (decide (y4_0 < ((List.length p0 : Nat) : Int)))) [] (Obn rfl (fun _ => hb_lss (k := .i64))) ?_
  refine Walk.nil ?_
  refine Then.normal ?_
  refine Amk 4121 1 ⟨((.l enc_GChange p0) :: (tp 2 ((.own 0) :: ((.i y4_0) :: (tp 7 ((.b (decide (y4_0 < ((List.length p0 : Nat) : Int)))) :: (tp 73 []))))))), [(.arr 71 3 (List.length y3_0) (flatD enc_GChange y3_0))], 0⟩ ?_
  rcases tf_ (decide (y4_0 < ((List.length p0 : Nat) : Int))) with hc12_12 | hc12_12
  ·
   replace hm := cT hc12_12 hm
   refine AWP.if_ true (Eq.trans (by kernel_rfl) (lit_tf (b := decide (y4_0 < ((List.length p0 : Nat) : Int))) hc12_12)) ?_
   refine AWP.skip ?_
   refine Then.normal ?_
   refine Amk 25 1 ⟨((.l enc_GChange p0) :: (tp 2 ((.own 0) :: ((.i y4_0) :: (tp 81 []))))), [(.arr 71 3 (List.length y3_0) (flatD enc_GChange y3_0))], 0⟩ ?_
   refine AWP.seq ?_
   refine AWP.block ?_
   refine AWP.seq ?_
   refine Adr ?_
   refine Wy (.l enc_GChange p0) [] (Omv rfl) ?_
   refine Wy (.i y4_0) [] (Omv rfl) ?_
   obtain ⟨x17_2, hx17_2, hm⟩ := bnd hm
   obtain ⟨hx17_2i, hx17_2g⟩ := geti_some hx17_2
   refine Wy (.d (.ref (List.drop ((Int.toNat y4_0) * 3) (flatD enc_GChange p0)))) [] (Oia rfl enc_GChange_len hx17_2i hx17_2g) ?_
   refine Wy (.d (.ref (List.drop ((Int.toNat y4_0) * 3) (flatD enc_GChange p0)))) [] (Ofa rfl) ?_
   refine Wy (.i x17_2.Loc) [] (Lf1 rfl enc_GChange_len hx17_2g) ?_
   refine Wy (.l enc_GChange p0) [] (Omv rfl) ?_
   refine Wy (.i y4_0) [] (Omv rfl) ?_
   obtain ⟨x22_2, hx22_2, hm⟩ := bnd hm
   obtain ⟨hx22_2i, hx22_2g⟩ := geti_some hx22_2
   refine Wy (.d (.ref (List.drop ((Int.toNat y4_0) * 3) (flatD enc_GChange p0)))) [] (Oia rfl enc_GChange_len hx22_2i hx22_2g) ?_
   refine Wy (.d (.ref (List.drop 1 (List.drop ((Int.toNat y4_0) * 3) (flatD enc_GChange p0))))) [] (Ofa rfl) ?_
   refine Wy (.i x22_2.Time) [] (Lfk1 1 rfl enc_GChange_len hx22_2g) ?_
   refine Wy (.l enc_GChange p0) [] (Omv rfl) ?_
   refine Wy (.l enc_GChange p0) [] (Omv rfl) ?_
   refine Wy (.i y4_0) [] (Omv rfl) ?_
   obtain ⟨x28_2, hx28_2, hm⟩ := bnd hm
   obtain ⟨hx28_2i, hx28_2g⟩ := geti_some hx28_2
   refine Wy (.d (.ref (List.drop ((Int.toNat y4_0) * 3) (flatD enc_GChange p0)))) [] (Oia rfl enc_GChange_len hx28_2i hx28_2g) ?_
   refine Wy (.d (.ref (List.drop ((Int.toNat y4_0) * 3) (flatD enc_GChange p0)))) [] (Ofa rfl) ?_
   refine Wy (.i x28_2.Loc) [] (Lf1 rfl enc_GChange_len hx28_2g) ?_
   refine Wy (.l enc_GChange p0) [] (Omv rfl) ?_
   refine Wy (.i y4_0) [] (Omv rfl) ?_
   obtain ⟨x33_2, hx33_2, hm⟩ := bnd hm
   obtain ⟨hx33_2i, hx33_2g⟩ := geti_some hx33_2
   refine Wy (.d (.ref (List.drop ((Int.toNat y4_0) * 3) (flatD enc_GChange p0)))) [] (Oia rfl enc_GChange_len hx33_2i hx33_2g) ?_
   refine Wy (.d (.ref (List.drop 1 (List.drop ((Int.toNat y4_0) * 3) (flatD enc_GChange p0))))) [] (Ofa rfl) ?_
   refine Wy (.i x33_2.Time) [] (Lfk1 1 rfl enc_GChange_len hx33_2g) ?_
   obtain ⟨r36_2, hr36_2, hm⟩ := bnd hm
   refine Wy (.i r36_2) [] (Ocf [] [] [] 0 (ok_telltaleref26_At p0 x28_2.Loc x33_2.Time r36_2 hr36_2) (fun a w => Try.call47 a w) rfl trivial) ?_
   refine Wy (.agg [(.i x17_2.Loc), (.i x22_2.Time), (.i r36_2)]) [] (Obd rfl) ?_
   refine Wy (.loc 1 0) [(1, (.box [(.i 0), (.i 0), (.i 0)]))] (Oal rfl) ?_
   refine Wy (.tup []) [(1, (.box [(.i x17_2.Loc), (.i x22_2.Time), (.i r36_2)]))] (Ost rfl) ?_
   refine Wdr ?_
   refine Then.normal ?_
   refine Amk 57 3 ⟨((.l enc_GChange p0) :: (tp 2 ((.own 0) :: ((.i y4_0) :: ((.loc 1 0) :: (tp 80 [])))))), [(.arr 71 3 (List.length y3_0) (flatD enc_GChange y3_0)), (.box [(.i x17_2.Loc), (.i x22_2.Time), (.i r36_2)])], 0⟩ ?_
   refine AWP.seq ?_
   refine AWP.text ?_
   refine Wy (.i 0) [] (Omv rfl) ?_
   refine Walk.nil ?_
   refine Then.normal ?_
   refine Amk 121 3 ⟨((.l enc_GChange p0) :: (tp 2 ((.own 0) :: ((.i y4_0) :: ((.loc 1 0) :: ((.i 0) :: (tp 79 []))))))), [(.arr 71 3 (List.length y3_0) (flatD enc_GChange y3_0)), (.box [(.i x17_2.Loc), (.i x22_2.Time), (.i r36_2)])], 0⟩ ?_
   refine AWP.cutJ (α := Int) (fun x => match x with | y6_8 => (⟨((.l enc_GChange p0) :: (tp 2 ((.own 0) :: ((.i y4_0) :: ((.loc 1 0) :: ((.i y6_8) :: (tp 79 []))))))), [(.arr 71 3 (List.length y3_0) (flatD enc_GChange y3_0)), (.box [(.i x17_2.Loc), (.i x22_2.Time), (.i r36_2)])], 0⟩ : St)) (fun x => match x with | y6_8 => m_telltaleref26_Normal_j8 r36_2 x17_2 x22_2 y3_0 y4_0 (fun y3_0 y4_0 => m_telltaleref26_Normal_l0 p0 fu_0 y3_0 y4_0) y6_8 = some r) ?_ (fun J8 => ?_)
   ·
    rintro y6_8 hm
    try dsimp only at hm ⊢
    unfold m_telltaleref26_Normal_j8 at hm
    refine AWP.seq ?_
    refine Adr ?_
    refine Wy (.i y6_8) [] (Omv rfl) ?_
    refine Wy (.own 0) [] (Omv rfl) ?_
    refine Wy (.i ((List.length y3_0 : Nat) : Int)) [] (Oln rfl) ?_
    refine Wy (.b (decide (y6_8 < ((List.length y3_0 : Nat) : Int)))) [] (Obn rfl (fun _ => hb_lss (k := .i64))) ?_
    rcases tf_ (decide (y6_8 < ((List.length y3_0 : Nat) : Int))) with hq56_5 | hq56_5
    ·
     replace hm := cT hq56_5 hm
     refine Wy (.b true) [] (Ocs (lit_tf (b := decide (y6_8 < ((List.length y3_0 : Nat) : Int))) hq56_5) (Omv rfl)) ?_
     refine Wy (.agg [(.i x17_2.Loc), (.i x22_2.Time), (.i r36_2)]) [] (Old rfl) ?_
     refine Wy (.own 0) [] (Omv rfl) ?_
     refine Wy (.i y6_8) [] (Omv rfl) ?_
     obtain ⟨x60_5, hx60_5, hm⟩ := bnd hm
     obtain ⟨hx60_5i, hx60_5g⟩ := geti_some hx60_5
     refine Wy (.loc 0 ((Int.toNat y6_8) * 3)) [] (Oia rfl enc_GChange_len hx60_5i hx60_5g) ?_
     refine Wy (.agg [(.i x60_5.Loc), (.i x60_5.Time), (.i x60_5.N)]) [] (Lr rfl enc_GChange_len hx60_5g) ?_
     obtain ⟨r62_5, hr62_5, hm⟩ := bnd hm
     refine Wy (.b r62_5) [] (Ocf [] [] [] 0 (ok_telltaleref26_before (GChange.mk x17_2.Loc x22_2.Time r36_2) x60_5 r62_5 hr62_5) (fun a w => Try.call48 a w) rfl trivial) ?_
     refine Wy (.b (!r62_5)) [] (Ocs (by kernel_rfl) (op_un rfl (a1 := .bool r62_5) (by kernel_rfl) (fun _ => hu_not))) ?_
     refine Wy (.b (!r62_5)) [] (OpT rfl) ?_
     refine Wy (.b (!r62_5)) [] (Omv rfl) ?_
     refine Wdr ?_
     refine Then.normal ?_
     refine Amk 249 3 ⟨((.l enc_GChange p0) :: (tp 2 ((.own 0) :: ((.i y4_0) :: ((.loc 1 0) :: ((.i y6_8) :: ((.b (!r62_5)) :: (tp 78 [])))))))), [(.arr 71 3 (List.length y3_0) (flatD enc_GChange y3_0)), (.box [(.i x17_2.Loc), (.i x22_2.Time), (.i r36_2)])], 0⟩ ?_
     refine AWP.seq ?_
     refine AWP.text ?_
     refine Wy (.b (!r62_5)) [] (Omv rfl) ?_
     refine Wy (.b (!(!r62_5))) [] (Ocs (by kernel_rfl) (op_un rfl (a1 := .bool (!r62_5)) (by kernel_rfl) (fun _ => hu_not))) ?_
     rcases tf_ (!(!r62_5)) with hq67_9 | hq67_9
     ·
      replace hm := cT hq67_9 hm
      refine Wy (.b true) [] (Ocs (lit_tf (b := (!(!r62_5))) hq67_9) (Omv rfl)) ?_
      refine Wy (.loc 1 2) [] (Ofa rfl) ?_
      refine Wy (.i r36_2) [] (Old rfl) ?_
      refine Wy (.b (decide (r36_2 ≠ 0))) [] (Obn rfl (fun _ => hb_neq (k := .i64))) ?_
      refine Wy (.b (decide (r36_2 ≠ 0))) [] (OpT rfl) ?_
      refine Walk.nil ?_
      refine Then.normal ?_
      refine Amk 2361183241434822606969 3 ⟨((.l enc_GChange p0) :: (tp 2 ((.own 0) :: ((.i y4_0) :: ((.loc 1 0) :: ((.i y6_8) :: (tp 64 ((.b (decide (r36_2 ≠ 0))) :: (tp 14 []))))))))), [(.arr 71 3 (List.length y3_0) (flatD enc_GChange y3_0)), (.box [(.i x17_2.Loc), (.i x22_2.Time), (.i r36_2)])], 0⟩ ?_
      rcases tf_ (decide (r36_2 ≠ 0)) with hc71_13 | hc71_13
      ·
       replace hm := cT hc71_13 hm
       refine AWP.if_ true (Eq.trans (by kernel_rfl) (lit_tf (b := decide (r36_2 ≠ 0)) hc71_13)) ?_
       refine AWP.seq ?_
       refine Afz [0] ⟨((.l enc_GChange p0) :: (tp 2 ((.l enc_GChange y3_0) :: ((.i y4_0) :: ((.loc 1 0) :: ((.i y6_8) :: (tp 64 ((.b (decide (r36_2 ≠ 0))) :: (tp 14 []))))))))), [(.fro 71 3 (List.length y3_0) (flatD enc_GChange y3_0)), (.box [(.i x17_2.Loc), (.i x22_2.Time), (.i r36_2)])], 0⟩ ?_
       refine Adr ?_
       refine Wy (.own 2) [(2, (.arr 71 3 (List.length ([] : List GChange)) (flatD enc_GChange ([] : List GChange))))] (Obs rfl) ?_
       refine Wy (.l enc_GChange y3_0) [] (Omv rfl) ?_
       refine Wy (.i y6_8) [] (Omv rfl) ?_
       obtain ⟨s75_6, hs75_6, hm⟩ := bnd hm; obtain ⟨hs75_6a, hs75_6b, hs75_6c, hs75_6d, hs75_6e⟩ := cut_some hs75_6
       refine Wy (.l enc_GChange s75_6) [] (op_cut rfl (e := 71) (sz := 3) (by kernel_rfl) (l := y3_0) (enc := enc_GChange) (by kernel_rfl) enc_GChange_len (a := (Int.toNat 0)) (b := (Int.toNat y6_8)) (by exact rfl) (⟨.i64, y6_8, by kernel_rfl, hs75_6b⟩) hs75_6c hs75_6d hs75_6e) ?_
       obtain ⟨a76_6, ha76_6, hm⟩ := bnd hm; obtain ⟨ha76_6e, ha76_6l⟩ := app_some ha76_6
       refine Wy (.own 3) [(2, .gone), (3, (.arr 71 3 (List.length a76_6) (flatD enc_GChange a76_6)))] (Oap rfl elemOK_32 enc_GChange_len ha76_6e ha76_6l) ?_
       refine Wy (.agg [(.i x17_2.Loc), (.i x22_2.Time), (.i r36_2)]) [] (Old rfl) ?_
       refine Wy (.own 4) [(4, (.arr 71 3 (List.length ([(GChange.mk x17_2.Loc x22_2.Time r36_2)] : List GChange)) (flatD enc_GChange ([(GChange.mk x17_2.Loc x22_2.Time r36_2)] : List GChange))))] (Obs rfl) ?_
       obtain ⟨a79_6, ha79_6, hm⟩ := bnd hm; obtain ⟨ha79_6e, ha79_6l⟩ := app_some ha79_6
       refine Wy (.own 5) [(3, .gone), (5, (.arr 71 3 (List.length a79_6) (flatD enc_GChange a79_6)))] (Oap rfl elemOK_32 enc_GChange_len ha79_6e ha79_6l) ?_
       refine Wy (.own 5) [] (Omv rfl) ?_
       refine Wdr ?_
       refine Then.normal ?_
       refine Amk 345 32 ⟨((.l enc_GChange p0) :: (tp 2 ((.l enc_GChange y3_0) :: ((.i y4_0) :: (tp 1 ((.i y6_8) :: (tp 1 ((.own 5) :: (tp 77 []))))))))), [.gone, .gone, .gone, .gone, .gone, (.arr 71 3 (List.length a79_6) (flatD enc_GChange a79_6))], 0⟩ ?_
       refine AWP.text ?_
       refine Wy (.own 5) [] (Omv rfl) ?_
       refine Wy (.l enc_GChange y3_0) [] (Omv rfl) ?_
       refine Wy (.i y6_8) [] (Omv rfl) ?_
       obtain ⟨s83_7, hs83_7, hm⟩ := bnd hm; obtain ⟨hs83_7a, hs83_7b, hs83_7c, hs83_7d, hs83_7e⟩ := cut_some hs83_7
       refine Wy (.l enc_GChange s83_7) [] (op_cut rfl (e := 71) (sz := 3) (by kernel_rfl) (l := y3_0) (enc := enc_GChange) (by kernel_rfl) enc_GChange_len (a := (Int.toNat y6_8)) (b := (Int.toNat ((List.length y3_0 : Nat) : Int))) (⟨.i64, y6_8, by kernel_rfl, hs83_7a⟩) (by exact rfl) hs83_7c hs83_7d hs83_7e) ?_
       obtain ⟨a84_7, ha84_7, hm⟩ := bnd hm; obtain ⟨ha84_7e, ha84_7l⟩ := app_some ha84_7
       refine Wy (.own 6) [(5, .gone), (6, (.arr 71 3 (List.length a84_7) (flatD enc_GChange a84_7)))] (Oap rfl elemOK_32 enc_GChange_len ha84_7e ha84_7l) ?_
       refine Wy (.own 6) [] (Omv rfl) ?_
       refine Walk.nil ?_
       refine InBlock.normal ?_
       refine Then.normal ?_
       refine Amk 25 64 ⟨((.l enc_GChange p0) :: (tp 2 ((.own 6) :: ((.i y4_0) :: (tp 81 []))))), [.gone, .gone, .gone, .gone, .gone, .gone, (.arr 71 3 (List.length a84_7) (flatD enc_GChange a84_7))], 0⟩ ?_
       refine AWP.text ?_
       refine Wy (.i y4_0) [] (Omv rfl) ?_
       refine Wy (.i (IntKind.i64.wrap (y4_0 + 1))) [] (Obn rfl (fun _ => hb_add (k := .i64))) ?_
       refine Wy (.i (IntKind.i64.wrap (y4_0 + 1))) [] (Omv rfl) ?_
       refine Walk.nil ?_
       refine RoundK.normal ?_
       exact Rounds.weak (Weak.toK 25 0 0 [6]) (ih_0 (fu_0, a84_7, (IntKind.i64.wrap (y4_0 + 1))) hm (Nat.lt_succ_self _))
      ·
       replace hm := cF hc71_13 hm
       refine AWP.if_ false (Eq.trans (by kernel_rfl) (lit_tf (b := decide (r36_2 ≠ 0)) hc71_13)) ?_
       refine AWP.skip ?_
       refine InBlock.normal ?_
       refine Then.normal ?_
       refine Amk 25 1 ⟨((.l enc_GChange p0) :: (tp 2 ((.own 0) :: ((.i y4_0) :: (tp 81 []))))), [(.arr 71 3 (List.length y3_0) (flatD enc_GChange y3_0)), .gone], 0⟩ ?_
       refine AWP.text ?_
       refine Wy (.i y4_0) [] (Omv rfl) ?_
       refine Wy (.i (IntKind.i64.wrap (y4_0 + 1))) [] (Obn rfl (fun _ => hb_add (k := .i64))) ?_
       refine Wy (.i (IntKind.i64.wrap (y4_0 + 1))) [] (Omv rfl) ?_
       refine Walk.nil ?_
       refine RoundK.normal ?_
       exact Rounds.weak (Weak.toK 25 0 0 [0]) (ih_0 (fu_0, y3_0, (IntKind.i64.wrap (y4_0 + 1))) hm (Nat.lt_succ_self _))
     ·
      replace hm := cF hq67_9 hm
      refine Wy (.b false) [] (Ocs (lit_tf (b := (!(!r62_5))) hq67_9) (Omv rfl)) ?_
      refine Wn ?_
      refine Wn ?_
      refine Wn ?_
      refine Wy (.b false) [] (OpF rfl) ?_
      refine Walk.nil ?_
      refine Then.normal ?_
      refine Amk 2361183241434822606969 3 ⟨((.l enc_GChange p0) :: (tp 2 ((.own 0) :: ((.i y4_0) :: ((.loc 1 0) :: ((.i y6_8) :: (tp 64 ((.b false) :: (tp 14 []))))))))), [(.arr 71 3 (List.length y3_0) (flatD enc_GChange y3_0)), (.box [(.i x17_2.Loc), (.i x22_2.Time), (.i r36_2)])], 0⟩ ?_
      refine AWP.if_ false (by kernel_rfl) ?_
      refine AWP.skip ?_
      refine InBlock.normal ?_
      refine Then.normal ?_
      refine Amk 25 1 ⟨((.l enc_GChange p0) :: (tp 2 ((.own 0) :: ((.i y4_0) :: (tp 81 []))))), [(.arr 71 3 (List.length y3_0) (flatD enc_GChange y3_0)), .gone], 0⟩ ?_
      refine AWP.text ?_
      refine Wy (.i y4_0) [] (Omv rfl) ?_
      refine Wy (.i (IntKind.i64.wrap (y4_0 + 1))) [] (Obn rfl (fun _ => hb_add (k := .i64))) ?_
      refine Wy (.i (IntKind.i64.wrap (y4_0 + 1))) [] (Omv rfl) ?_
      refine Walk.nil ?_
      refine RoundK.normal ?_
      exact Rounds.weak (Weak.toK 25 0 0 [0]) (ih_0 (fu_0, y3_0, (IntKind.i64.wrap (y4_0 + 1))) hm (Nat.lt_succ_self _))
    ·
     replace hm := cF hq56_5 hm
     refine Wy (.b false) [] (Ocs (lit_tf (b := decide (y6_8 < ((List.length y3_0 : Nat) : Int))) hq56_5) (Omv rfl)) ?_
     refine Wn ?_
     refine Wn ?_
     refine Wn ?_
     refine Wn ?_
     refine Wn ?_
     refine Wn ?_
     refine Wn ?_
     refine Wy (.b false) [] (OpF rfl) ?_
     refine Wy (.b false) [] (Omv rfl) ?_
     refine Wdr ?_
     refine Then.normal ?_
     refine Amk 249 3 ⟨((.l enc_GChange p0) :: (tp 2 ((.own 0) :: ((.i y4_0) :: ((.loc 1 0) :: ((.i y6_8) :: ((.b false) :: (tp 78 [])))))))), [(.arr 71 3 (List.length y3_0) (flatD enc_GChange y3_0)), (.box [(.i x17_2.Loc), (.i x22_2.Time), (.i r36_2)])], 0⟩ ?_
     refine AWP.seq ?_
     refine AWP.text ?_
     refine Wy (.b false) [] (Omv rfl) ?_
     refine Wy (.b true) [] (Ocs (by kernel_rfl) (op_un rfl (a1 := .bool false) (by kernel_rfl) (fun _ => hu_not))) ?_
     refine Wy (.b true) [] (Omv rfl) ?_
     refine Wy (.loc 1 2) [] (Ofa rfl) ?_
     refine Wy (.i r36_2) [] (Old rfl) ?_
     refine Wy (.b (decide (r36_2 ≠ 0))) [] (Obn rfl (fun _ => hb_neq (k := .i64))) ?_
     refine Wy (.b (decide (r36_2 ≠ 0))) [] (OpT rfl) ?_
     refine Walk.nil ?_
     refine Then.normal ?_
     refine Amk 2361183241434822606969 3 ⟨((.l enc_GChange p0) :: (tp 2 ((.own 0) :: ((.i y4_0) :: ((.loc 1 0) :: ((.i y6_8) :: (tp 64 ((.b (decide (r36_2 ≠ 0))) :: (tp 14 []))))))))), [(.arr 71 3 (List.length y3_0) (flatD enc_GChange y3_0)), (.box [(.i x17_2.Loc), (.i x22_2.Time), (.i r36_2)])], 0⟩ ?_
     rcases tf_ (decide (r36_2 ≠ 0)) with hc71_14 | hc71_14
     ·
      replace hm := cT hc71_14 hm
      refine AWP.if_ true (Eq.trans (by kernel_rfl) (lit_tf (b := decide (r36_2 ≠ 0)) hc71_14)) ?_
      refine AWP.seq ?_
      refine Afz [0] ⟨((.l enc_GChange p0) :: (tp 2 ((.l enc_GChange y3_0) :: ((.i y4_0) :: ((.loc 1 0) :: ((.i y6_8) :: (tp 64 ((.b (decide (r36_2 ≠ 0))) :: (tp 14 []))))))))), [(.fro 71 3 (List.length y3_0) (flatD enc_GChange y3_0)), (.box [(.i x17_2.Loc), (.i x22_2.Time), (.i r36_2)])], 0⟩ ?_
      refine Adr ?_
      refine Wy (.own 2) [(2, (.arr 71 3 (List.length ([] : List GChange)) (flatD enc_GChange ([] : List GChange))))] (Obs rfl) ?_
      refine Wy (.l enc_GChange y3_0) [] (Omv rfl) ?_
      refine Wy (.i y6_8) [] (Omv rfl) ?_
      obtain ⟨s75_10, hs75_10, hm⟩ := bnd hm; obtain ⟨hs75_10a, hs75_10b, hs75_10c, hs75_10d, hs75_10e⟩ := cut_some hs75_10
      refine Wy (.l enc_GChange s75_10) [] (op_cut rfl (e := 71) (sz := 3) (by kernel_rfl) (l := y3_0) (enc := enc_GChange) (by kernel_rfl) enc_GChange_len (a := (Int.toNat 0)) (b := (Int.toNat y6_8)) (by exact rfl) (⟨.i64, y6_8, by kernel_rfl, hs75_10b⟩) hs75_10c hs75_10d hs75_10e) ?_
      obtain ⟨a76_10, ha76_10, hm⟩ := bnd hm; obtain ⟨ha76_10e, ha76_10l⟩ := app_some ha76_10
      refine Wy (.own 3) [(2, .gone), (3, (.arr 71 3 (List.length a76_10) (flatD enc_GChange a76_10)))] (Oap rfl elemOK_32 enc_GChange_len ha76_10e ha76_10l) ?_
      refine Wy (.agg [(.i x17_2.Loc), (.i x22_2.Time), (.i r36_2)]) [] (Old rfl) ?_
      refine Wy (.own 4) [(4, (.arr 71 3 (List.length ([(GChange.mk x17_2.Loc x22_2.Time r36_2)] : List GChange)) (flatD enc_GChange ([(GChange.mk x17_2.Loc x22_2.Time r36_2)] : List GChange))))] (Obs rfl) ?_
      obtain ⟨a79_10, ha79_10, hm⟩ := bnd hm; obtain ⟨ha79_10e, ha79_10l⟩ := app_some ha79_10
      refine Wy (.own 5) [(3, .gone), (5, (.arr 71 3 (List.length a79_10) (flatD enc_GChange a79_10)))] (Oap rfl elemOK_32 enc_GChange_len ha79_10e ha79_10l) ?_
      refine Wy (.own 5) [] (Omv rfl) ?_
      refine Wdr ?_
      refine Then.normal ?_
      refine Amk 345 32 ⟨((.l enc_GChange p0) :: (tp 2 ((.l enc_GChange y3_0) :: ((.i y4_0) :: (tp 1 ((.i y6_8) :: (tp 1 ((.own 5) :: (tp 77 []))))))))), [.gone, .gone, .gone, .gone, .gone, (.arr 71 3 (List.length a79_10) (flatD enc_GChange a79_10))], 0⟩ ?_
      refine AWP.text ?_
      refine Wy (.own 5) [] (Omv rfl) ?_
      refine Wy (.l enc_GChange y3_0) [] (Omv rfl) ?_
      refine Wy (.i y6_8) [] (Omv rfl) ?_
      obtain ⟨s83_11, hs83_11, hm⟩ := bnd hm; obtain ⟨hs83_11a, hs83_11b, hs83_11c, hs83_11d, hs83_11e⟩ := cut_some hs83_11
      refine Wy (.l enc_GChange s83_11) [] (op_cut rfl (e := 71) (sz := 3) (by kernel_rfl) (l := y3_0) (enc := enc_GChange) (by kernel_rfl) enc_GChange_len (a := (Int.toNat y6_8)) (b := (Int.toNat ((List.length y3_0 : Nat) : Int))) (⟨.i64, y6_8, by kernel_rfl, hs83_11a⟩) (by exact rfl) hs83_11c hs83_11d hs83_11e) ?_
      obtain ⟨a84_11, ha84_11, hm⟩ := bnd hm; obtain ⟨ha84_11e, ha84_11l⟩ := app_some ha84_11
      refine Wy (.own 6) [(5, .gone), (6, (.arr 71 3 (List.length a84_11) (flatD enc_GChange a84_11)))] (Oap rfl elemOK_32 enc_GChange_len ha84_11e ha84_11l) ?_
      refine Wy (.own 6) [] (Omv rfl) ?_
      refine Walk.nil ?_
      refine InBlock.normal ?_
      refine Then.normal ?_
      refine Amk 25 64 ⟨((.l enc_GChange p0) :: (tp 2 ((.own 6) :: ((.i y4_0) :: (tp 81 []))))), [.gone, .gone, .gone, .gone, .gone, .gone, (.arr 71 3 (List.length a84_11) (flatD enc_GChange a84_11))], 0⟩ ?_
      refine AWP.text ?_
      refine Wy (.i y4_0) [] (Omv rfl) ?_
      refine Wy (.i (IntKind.i64.wrap (y4_0 + 1))) [] (Obn rfl (fun _ => hb_add (k := .i64))) ?_
      refine Wy (.i (IntKind.i64.wrap (y4_0 + 1))) [] (Omv rfl) ?_
      refine Walk.nil ?_
      refine RoundK.normal ?_
      exact Rounds.weak (Weak.toK 25 0 0 [6]) (ih_0 (fu_0, a84_11, (IntKind.i64.wrap (y4_0 + 1))) hm (Nat.lt_succ_self _))
     ·
      replace hm := cF hc71_14 hm
      refine AWP.if_ false (Eq.trans (by kernel_rfl) (lit_tf (b := decide (r36_2 ≠ 0)) hc71_14)) ?_
      refine AWP.skip ?_
      refine InBlock.normal ?_
      refine Then.normal ?_
      refine Amk 25 1 ⟨((.l enc_GChange p0) :: (tp 2 ((.own 0) :: ((.i y4_0) :: (tp 81 []))))), [(.arr 71 3 (List.length y3_0) (flatD enc_GChange y3_0)), .gone], 0⟩ ?_
      refine AWP.text ?_
      refine Wy (.i y4_0) [] (Omv rfl) ?_
      refine Wy (.i (IntKind.i64.wrap (y4_0 + 1))) [] (Obn rfl (fun _ => hb_add (k := .i64))) ?_
      refine Wy (.i (IntKind.i64.wrap (y4_0 + 1))) [] (Omv rfl) ?_
      refine Walk.nil ?_
      refine RoundK.normal ?_
      exact Rounds.weak (Weak.toK 25 0 0 [0]) (ih_0 (fu_0, y3_0, (IntKind.i64.wrap (y4_0 + 1))) hm (Nat.lt_succ_self _))
   refine AWP.seq ?_
   refine AWP.block ?_
   refine AWP.loopI (α := Nat × Int)
     (fun x => match x with | (fu_3, y6_3) => (⟨((.l enc_GChange p0) :: (tp 2 ((.own 0) :: ((.i y4_0) :: ((.loc 1 0) :: ((.i y6_3) :: (tp 79 []))))))), [(.arr 71 3 (List.length y3_0) (flatD enc_GChange y3_0)), (.box [(.i x17_2.Loc), (.i x22_2.Time), (.i r36_2)])], 0⟩ : St))
     (fun x => match x with | (fu_3, y6_3) => m_telltaleref26_Normal_l3 r36_2 x17_2 x22_2 y3_0 y4_0 (fun y3_0 y4_0 => m_telltaleref26_Normal_l0 p0 fu_0 y3_0 y4_0) fu_3 y6_3 = some r)
     (fun x => match x with | (fu_3, y6_3) => fu_3) (1152921504606846976, 0)
     (Weak.toK 121 0 0 [0, 1]) hm ?_
   rintro ⟨fu_3, y6_3⟩ n_3 hm ih_3
   try dsimp only at hm ih_3 ⊢
   cases fu_3 with
   | zero => exact absurd hm (by unfold m_telltaleref26_Normal_l3; simp)
   | succ fu_3 =>
    unfold m_telltaleref26_Normal_l3 at hm
    refine AWP.seq ?_
    refine AWP.seq ?_
    refine Adr ?_
    refine Wy (.i y6_3) [] (Omv rfl) ?_
    refine Wy (.own 0) [] (Omv rfl) ?_
    refine Wy (.i ((List.length y3_0 : Nat) : Int)) [] (Oln rfl) ?_
    refine Wy (.b (decide (y6_3 < ((List.length y3_0 : Nat) : Int)))) [] (Obn rfl (fun _ => hb_lss (k := .i64))) ?_
    rcases tf_ (decide (y6_3 < ((List.length y3_0 : Nat) : Int))) with hq42_4 | hq42_4
    ·
     replace hm := cT hq42_4 hm
     refine Wy (.b true) [] (Ocs (lit_tf (b := decide (y6_3 < ((List.length y3_0 : Nat) : Int))) hq42_4) (Omv rfl)) ?_
     refine Wy (.own 0) [] (Omv rfl) ?_
     refine Wy (.i y6_3) [] (Omv rfl) ?_
     obtain ⟨x45_4, hx45_4, hm⟩ := bnd hm
     obtain ⟨hx45_4i, hx45_4g⟩ := geti_some hx45_4
     refine Wy (.loc 0 ((Int.toNat y6_3) * 3)) [] (Oia rfl enc_GChange_len hx45_4i hx45_4g) ?_
     refine Wy (.agg [(.i x45_4.Loc), (.i x45_4.Time), (.i x45_4.N)]) [] (Lr rfl enc_GChange_len hx45_4g) ?_
     refine Wy (.agg [(.i x17_2.Loc), (.i x22_2.Time), (.i r36_2)]) [] (Old rfl) ?_
     obtain ⟨r48_4, hr48_4, hm⟩ := bnd hm
     refine Wy (.b r48_4) [] (Ocf [] [] [] 0 (ok_telltaleref26_before x45_4 (GChange.mk x17_2.Loc x22_2.Time r36_2) r48_4 hr48_4) (fun a w => Try.call48 a w) rfl trivial) ?_
     refine Wy (.b r48_4) [] (OpT rfl) ?_
     refine Wdr ?_
     refine Then.normal ?_
     refine Amk 562949953421433 3 ⟨((.l enc_GChange p0) :: (tp 2 ((.own 0) :: ((.i y4_0) :: ((.loc 1 0) :: ((.i y6_3) :: (tp 42 ((.b r48_4) :: (tp 36 []))))))))), [(.arr 71 3 (List.length y3_0) (flatD enc_GChange y3_0)), (.box [(.i x17_2.Loc), (.i x22_2.Time), (.i r36_2)])], 0⟩ ?_
     rcases tf_ r48_4 with hc49_15 | hc49_15
     ·
      replace hm := cT hc49_15 hm
      refine AWP.if_ true (Eq.trans (by kernel_rfl) (lit_tf (b := r48_4) hc49_15)) ?_
      refine AWP.skip ?_
      refine Then.normal ?_
      refine Amk 121 3 ⟨((.l enc_GChange p0) :: (tp 2 ((.own 0) :: ((.i y4_0) :: ((.loc 1 0) :: ((.i y6_3) :: (tp 79 []))))))), [(.arr 71 3 (List.length y3_0) (flatD enc_GChange y3_0)), (.box [(.i x17_2.Loc), (.i x22_2.Time), (.i r36_2)])], 0⟩ ?_
      refine AWP.block ?_
      refine AWP.text ?_
      refine Wy (.i y6_3) [] (Omv rfl) ?_
      refine Wy (.i (IntKind.i64.wrap (y6_3 + 1))) [] (Obn rfl (fun _ => hb_add (k := .i64))) ?_
      refine Wy (.i (IntKind.i64.wrap (y6_3 + 1))) [] (Omv rfl) ?_
      refine Walk.nil ?_
      refine InBlock.normal ?_
      refine RoundK.normal ?_
      exact Rounds.weak (Weak.toK 121 0 0 [0, 1]) (ih_3 (fu_3, (IntKind.i64.wrap (y6_3 + 1))) hm (Nat.lt_succ_self _))
     ·
      replace hm := cF hc49_15 hm
      refine AWP.if_ false (Eq.trans (by kernel_rfl) (lit_tf (b := r48_4) hc49_15)) ?_
      refine AWP.exit ?_
      refine Then.exit ?_
      refine RoundK.exit ?_
      refine InBlock.same ?_
      refine Then.normal ?_
      exact AWP.weak (Weak.toK 121 0 0 [0, 1]) (J8 (y6_3) hm)
    ·
     replace hm := cF hq42_4 hm
     refine Wy (.b false) [] (Ocs (lit_tf (b := decide (y6_3 < ((List.length y3_0 : Nat) : Int))) hq42_4) (Omv rfl)) ?_
     refine Wn ?_
     refine Wn ?_
     refine Wn ?_
     refine Wn ?_
     refine Wn ?_
     refine Wn ?_
     refine Wy (.b false) [] (OpF rfl) ?_
     refine Wdr ?_
     refine Then.normal ?_
     refine Amk 562949953421433 3 ⟨((.l enc_GChange p0) :: (tp 2 ((.own 0) :: ((.i y4_0) :: ((.loc 1 0) :: ((.i y6_3) :: (tp 42 ((.b false) :: (tp 36 []))))))))), [(.arr 71 3 (List.length y3_0) (flatD enc_GChange y3_0)), (.box [(.i x17_2.Loc), (.i x22_2.Time), (.i r36_2)])], 0⟩ ?_
     refine AWP.if_ false (by kernel_rfl) ?_
     refine AWP.exit ?_
     refine Then.exit ?_
     refine RoundK.exit ?_
     refine InBlock.same ?_
     refine Then.normal ?_
     exact AWP.weak (Weak.toK 121 0 0 [0, 1]) (J8 (y6_3) hm)
  ·
   replace hm := cF hc12_12 hm
   refine AWP.if_ false (Eq.trans (by kernel_rfl) (lit_tf (b := decide (y4_0 < ((List.length p0 : Nat) : Int))) hc12_12)) ?_
   refine AWP.exit ?_
   refine Then.exit ?_
   refine RoundK.exit ?_
   refine InBlock.same ?_
   refine Then.normal ?_
   refine Amk 8 1 ⟨(tp 3 ((.own 0) :: (tp 82 []))), [(.arr 71 3 (List.length y3_0) (flatD enc_GChange y3_0))], 0⟩ ?_
   refine AWP.seq ?_
   refine AWP.text ?_
   refine Wy (.own 0) [] (Omv rfl) ?_
   refine Wy (.own 0) [] (Omv rfl) ?_
   refine Walk.nil ?_
   refine Then.normal ?_
   refine AWP.ret ?_
   obtain rfl := Option.some.inj hm
   exact ret_i [0]

set_option maxRecDepth 20000 in
set_option maxHeartbeats 4000000 in
theorem ok_telltaleref28_Lower (p0 : (List GLeave)) (p1 : Int) (p2 : Int) (r : ((List GLeave) × (List GChange) × Int)) (h : m_telltaleref28_Lower p0 p1 p2 = some r) : GCall Try.prog 10 [(.l enc_GLeave p0), (.i p1), (.i p2)] [] (.tup [(.l enc_GLeave r.1), (.own 0), (.i r.2.2)]) [(.arr 71 3 (List.length r.2.1) (flatD enc_GChange r.2.1))] := by
 refine GCall.of_body (n := 51) (rs := [(.tmp 6), (.tmp 7), (.tmp 8)]) Try.func10 rfl rfl rfl ?_
 refine Ato ⟨((.l enc_GLeave p0) :: ((.i p1) :: ((.i p2) :: (tu 48 [])))), [], 0⟩ ?_
 have hm := h
 unfold m_telltaleref28_Lower at hm
 refine AWP.seq ?_
 refine AWP.text ?_
 refine Wy (.d .nil) [] (Omv rfl) ?_
 refine Wy (.d .nil) [] (Omv rfl) ?_
 refine Wy (.i 0) [] (Omv rfl) ?_
 refine Walk.nil ?_
 refine Then.normal ?_
 refine Amk 7 0 ⟨((.l enc_GLeave p0) :: ((.i p1) :: ((.i p2) :: (tp 48 [])))), [], 0⟩ ?_
 refine AWP.seq ?_
 refine AWP.seq ?_
 refine AWP.text ?_
 refine Wy (.l enc_GLeave p0) [] (Omv rfl) ?_
 refine Wy (.i p1) [] (Omv rfl) ?_
 obtain ⟨r14_0, hr14_0, hm⟩ := bnd hm
 refine Wy (.i r14_0) [] (Ocf [] [] [] 0 (ok_telltaleref28_why p0 p1 r14_0 hr14_0) (fun a w => Try.call34 a w) rfl trivial) ?_
 refine Wy (.i r14_0) [] (Omv rfl) ?_
 refine Walk.nil ?_
 refine Then.normal ?_
 refine Amk 519 0 ⟨((.l enc_GLeave p0) :: ((.i p1) :: ((.i p2) :: (tp 6 ((.i r14_0) :: (tp 41 [])))))), [], 0⟩ ?_
 refine AWP.seq ?_
 refine AWP.text ?_
 refine Wy (.i r14_0) [] (Omv rfl) ?_
 refine Wy (.b (decide (r14_0 ≠ 0))) [] (Obn rfl (fun _ => hb_neq (k := .i64))) ?_
 refine Walk.nil ?_
 refine Then.normal ?_
 refine Amk 66055 0 ⟨((.l enc_GLeave p0) :: ((.i p1) :: ((.i p2) :: (tp 6 ((.i r14_0) :: (tp 6 ((.b (decide (r14_0 ≠ 0))) :: (tp 34 [])))))))), [], 0⟩ ?_
 rcases tf_ (decide (r14_0 ≠ 0)) with hc16_4 | hc16_4
 ·
  replace hm := cT hc16_4 hm
  refine AWP.if_ true (Eq.trans (by kernel_rfl) (lit_tf (b := decide (r14_0 ≠ 0)) hc16_4)) ?_
  refine AWP.seq ?_
  refine AWP.text ?_
  refine Wy (.l enc_GLeave p0) [] (Omv rfl) ?_
  refine Wy (.i r14_0) [] (Omv rfl) ?_
  refine Wy (.l enc_GLeave p0) [] (Omv rfl) ?_
  refine Wy (.d .nil) [] (Omv rfl) ?_
  refine Wy (.i r14_0) [] (Omv rfl) ?_
  refine Walk.nil ?_
  refine Then.normal ?_
  refine Aow 7 71 3 ⟨((.l enc_GLeave p0) :: ((.i p1) :: ((.i p2) :: (tp 3 ((.l enc_GLeave p0) :: ((.own 0) :: ((.i r14_0) :: ((.i r14_0) :: (tp 6 ((.b (decide (r14_0 ≠ 0))) :: ((.l enc_GLeave p0) :: ((.i r14_0) :: (tp 32 []))))))))))))), [(.arr 71 3 (List.length ([] : List GChange)) (flatD enc_GChange ([] : List GChange)))], 0⟩ ?_
  refine AWP.ret ?_
  refine Then.ret ?_
  obtain rfl := Option.some.inj hm
  exact ret_i [0]
 ·
  replace hm := cF hc16_4 hm
  refine AWP.if_ false (Eq.trans (by kernel_rfl) (lit_tf (b := decide (r14_0 ≠ 0)) hc16_4)) ?_
  refine AWP.skip ?_
  refine Then.normal ?_
  refine Amk 7 0 ⟨((.l enc_GLeave p0) :: ((.i p1) :: ((.i p2) :: (tp 48 [])))), [], 0⟩ ?_
  refine AWP.seq ?_
  refine AWP.text ?_
  refine Wy (.l enc_GLeave p0) [] (Omv rfl) ?_
  refine Wy (.i p1) [] (Omv rfl) ?_
  obtain ⟨x21_1, hx21_1, hm⟩ := bnd hm
  obtain ⟨hx21_1i, hx21_1g⟩ := geti_some hx21_1
  refine Wy (.d (.ref (List.drop ((Int.toNat p1) * 3) (flatD enc_GLeave p0)))) [] (Oia rfl enc_GLeave_len hx21_1i hx21_1g) ?_
  refine Wy (.agg [(.i x21_1.Loc), (.i x21_1.Time), (.b x21_1.Held)]) [] (Lf rfl enc_GLeave_len hx21_1g) ?_
  refine Wy (.loc 0 0) [(0, (.box [(.i 0), (.i 0), (.b false)]))] (Oal rfl) ?_
  refine Wy (.tup []) [(0, (.box [(.i x21_1.Loc), (.i x21_1.Time), (.b x21_1.Held)]))] (Ost rfl) ?_
  refine Walk.nil ?_
  refine Then.normal ?_
  refine Amk 1031 1 ⟨((.l enc_GLeave p0) :: ((.i p1) :: ((.i p2) :: (tp 7 ((.loc 0 0) :: (tp 40 [])))))), [(.box [(.i x21_1.Loc), (.i x21_1.Time), (.b x21_1.Held)])], 0⟩ ?_
  refine AWP.seq ?_
  refine AWP.seq ?_
  refine AWP.text ?_
  refine Wy (.i p2) [] (Omv rfl) ?_
  refine Wy (.b (decide ((1099511627776 : Int) < p2))) [] (Obn rfl (fun _ => hb_gtr (k := .i64))) ?_
  rcases tf_ (decide ((1099511627776 : Int) < p2)) with hq25_2 | hq25_2
  ·
   replace hm := cT hq25_2 hm
   refine Wy (.b true) [] (Ocs (lit_tf (b := decide ((1099511627776 : Int) < p2)) hq25_2) (Omv rfl)) ?_
   refine Wn ?_
   refine Wn ?_
   refine Wn ?_
   refine Wn ?_
   refine Wy (.b true) [] (OpT rfl) ?_
   refine Walk.nil ?_
   refine Then.normal ?_
   refine Amk 1073742855 1 ⟨((.l enc_GLeave p0) :: ((.i p1) :: ((.i p2) :: (tp 7 ((.loc 0 0) :: (tp 19 ((.b true) :: (tp 20 [])))))))), [(.box [(.i x21_1.Loc), (.i x21_1.Time), (.b x21_1.Held)])], 0⟩ ?_
   refine AWP.if_ true (by kernel_rfl) ?_
   refine AWP.seq ?_
   refine AWP.text ?_
   refine Wy (.l enc_GLeave p0) [] (Omv rfl) ?_
   refine Wy (.l enc_GLeave p0) [] (Omv rfl) ?_
   refine Wy (.d .nil) [] (Omv rfl) ?_
   refine Wy (.i 8) [] (Omv rfl) ?_
   refine Walk.nil ?_
   refine Then.normal ?_
   refine Aow 7 71 3 ⟨((.l enc_GLeave p0) :: ((.i p1) :: ((.i p2) :: (tp 3 ((.l enc_GLeave p0) :: ((.own 1) :: ((.i 8) :: (tp 1 ((.loc 0 0) :: (tp 19 ((.b true) :: ((.l enc_GLeave p0) :: (tp 19 []))))))))))))), [(.box [(.i x21_1.Loc), (.i x21_1.Time), (.b x21_1.Held)]), (.arr 71 3 (List.length ([] : List GChange)) (flatD enc_GChange ([] : List GChange)))], 0⟩ ?_
   refine AWP.ret ?_
   refine Then.ret ?_
   obtain rfl := Option.some.inj hm
   exact ret_i [1]
  ·
   replace hm := cF hq25_2 hm
   refine Wy (.b false) [] (Ocs (lit_tf (b := decide ((1099511627776 : Int) < p2)) hq25_2) (Omv rfl)) ?_
   refine Wy (.i p2) [] (Omv rfl) ?_
   refine Wy (.loc 0 1) [] (Ofa rfl) ?_
   refine Wy (.i x21_1.Time) [] (Old rfl) ?_
   refine Wy (.b (decide (p2 < x21_1.Time))) [] (Obn rfl (fun _ => hb_lss (k := .i64))) ?_
   refine Wy (.b (decide (p2 < x21_1.Time))) [] (OpF rfl) ?_
   refine Walk.nil ?_
   refine Then.normal ?_
   refine Amk 1073742855 1 ⟨((.l enc_GLeave p0) :: ((.i p1) :: ((.i p2) :: (tp 7 ((.loc 0 0) :: (tp 19 ((.b (decide (p2 < x21_1.Time))) :: (tp 20 [])))))))), [(.box [(.i x21_1.Loc), (.i x21_1.Time), (.b x21_1.Held)])], 0⟩ ?_
   rcases tf_ (decide (p2 < x21_1.Time)) with hc30_5 | hc30_5
   ·
    replace hm := cT hc30_5 hm
    refine AWP.if_ true (Eq.trans (by kernel_rfl) (lit_tf (b := decide (p2 < x21_1.Time)) hc30_5)) ?_
    refine AWP.seq ?_
    refine AWP.text ?_
    refine Wy (.l enc_GLeave p0) [] (Omv rfl) ?_
    refine Wy (.l enc_GLeave p0) [] (Omv rfl) ?_
    refine Wy (.d .nil) [] (Omv rfl) ?_
    refine Wy (.i 8) [] (Omv rfl) ?_
    refine Walk.nil ?_
    refine Then.normal ?_
    refine Aow 7 71 3 ⟨((.l enc_GLeave p0) :: ((.i p1) :: ((.i p2) :: (tp 3 ((.l enc_GLeave p0) :: ((.own 1) :: ((.i 8) :: (tp 1 ((.loc 0 0) :: (tp 19 ((.b (decide (p2 < x21_1.Time))) :: ((.l enc_GLeave p0) :: (tp 19 []))))))))))))), [(.box [(.i x21_1.Loc), (.i x21_1.Time), (.b x21_1.Held)]), (.arr 71 3 (List.length ([] : List GChange)) (flatD enc_GChange ([] : List GChange)))], 0⟩ ?_
    refine AWP.ret ?_
    refine Then.ret ?_
    obtain rfl := Option.some.inj hm
    exact ret_i [1]
   ·
    replace hm := cF hc30_5 hm
    refine AWP.if_ false (Eq.trans (by kernel_rfl) (lit_tf (b := decide (p2 < x21_1.Time)) hc30_5)) ?_
    refine AWP.skip ?_
    refine Then.normal ?_
    refine Amk 1031 1 ⟨((.l enc_GLeave p0) :: ((.i p1) :: ((.i p2) :: (tp 7 ((.loc 0 0) :: (tp 40 [])))))), [(.box [(.i x21_1.Loc), (.i x21_1.Time), (.b x21_1.Held)])], 0⟩ ?_
    refine AWP.seq ?_
    refine AWP.text ?_
    refine Wy (.loc 0 0) [] (Ofa rfl) ?_
    refine Wy (.i x21_1.Loc) [] (Old rfl) ?_
    refine Wy (.loc 0 1) [] (Ofa rfl) ?_
    refine Wy (.i x21_1.Time) [] (Old rfl) ?_
    refine Wy (.agg [(.i x21_1.Loc), (.i x21_1.Time), (.i (-1))]) [] (Obd rfl) ?_
    refine Wy (.loc 0 0) [] (Ofa rfl) ?_
    refine Wy (.i x21_1.Loc) [] (Old rfl) ?_
    refine Wy (.i p2) [] (Omv rfl) ?_
    refine Wy (.agg [(.i x21_1.Loc), (.i p2), (.i 1)]) [] (Obd rfl) ?_
    refine Wy (.own 1) [(1, (.arr 71 3 (List.length ([(GChange.mk x21_1.Loc x21_1.Time (-1)), (GChange.mk x21_1.Loc p2 1)] : List GChange)) (flatD enc_GChange ([(GChange.mk x21_1.Loc x21_1.Time (-1)), (GChange.mk x21_1.Loc p2 1)] : List GChange))))] (Obs rfl) ?_
    refine Wy (.own 1) [] (Omv rfl) ?_
    refine Walk.nil ?_
    refine Then.normal ?_
    refine Amk 3079 3 ⟨((.l enc_GLeave p0) :: ((.i p1) :: ((.i p2) :: (tp 7 ((.loc 0 0) :: ((.own 1) :: (tp 39 []))))))), [(.box [(.i x21_1.Loc), (.i x21_1.Time), (.b x21_1.Held)]), (.arr 71 3 (List.length ([(GChange.mk x21_1.Loc x21_1.Time (-1)), (GChange.mk x21_1.Loc p2 1)] : List GChange)) (flatD enc_GChange ([(GChange.mk x21_1.Loc x21_1.Time (-1)), (GChange.mk x21_1.Loc p2 1)] : List GChange)))], 0⟩ ?_
    refine AWP.seq ?_
    refine AWP.text ?_
    refine Wy (.l enc_GLeave p0) [] (Omv rfl) ?_
    refine Wy (.i p1) [] (Omv rfl) ?_
    refine Wy (.loc 0 0) [] (Ofa rfl) ?_
    refine Wy (.i x21_1.Loc) [] (Old rfl) ?_
    refine Wy (.i p2) [] (Omv rfl) ?_
    refine Wy (.agg [(.i x21_1.Loc), (.i p2), (.b true)]) [] (Obd rfl) ?_
    obtain ⟨r48_3, hr48_3, hm⟩ := bnd hm
    refine Wy (.own 2) [(2, (.arr 68 3 (List.length r48_3) (flatD enc_GLeave r48_3)))] (Ocf [] [2] [] 0 (ok_telltaleref28_with p0 p1 (GLeave.mk x21_1.Loc p2 true) r48_3 hr48_3) (fun a w => Try.call35 a w) rfl trivial) ?_
    refine Wy (.own 1) [] (Omv rfl) ?_
    obtain ⟨r50_3, hr50_3, hm⟩ := bnd hm
    refine Wy (.own 3) [(3, (.arr 71 3 (List.length r50_3) (flatD enc_GChange r50_3)))] (Ocp [] [3] [1] 0 (ok_telltaleref26_Normal ([(GChange.mk x21_1.Loc x21_1.Time (-1)), (GChange.mk x21_1.Loc p2 1)] : List GChange) r50_3 hr50_3) (⟨by simp [A.Plain, A.Plains, D.Plain, byteD], plain_cons (flat_plain enc_GChange_plain) (plain_nil)⟩) (fun a w => Try.call36 a w) rfl trivial) ?_
    refine Wy (.own 2) [] (Omv rfl) ?_
    refine Wy (.own 3) [] (Omv rfl) ?_
    refine Wy (.i 0) [] (Omv rfl) ?_
    refine Walk.nil ?_
    refine Then.normal ?_
    refine Afz [2] ⟨((.l enc_GLeave p0) :: ((.i p1) :: ((.i p2) :: (tp 3 ((.l enc_GLeave r48_3) :: ((.own 3) :: ((.i 0) :: (tp 1 ((.loc 0 0) :: ((.own 1) :: (tp 30 ((.l enc_GLeave p0) :: ((.i p1) :: ((.loc 0 0) :: ((.i x21_1.Loc) :: ((.i p2) :: ((.agg [(.i x21_1.Loc), (.i p2), (.b true)]) :: ((.l enc_GLeave r48_3) :: ((.own 1) :: ((.own 3) :: [])))))))))))))))))))), [(.box [(.i x21_1.Loc), (.i x21_1.Time), (.b x21_1.Held)]), (.arr 71 3 (List.length ([(GChange.mk x21_1.Loc x21_1.Time (-1)), (GChange.mk x21_1.Loc p2 1)] : List GChange)) (flatD enc_GChange ([(GChange.mk x21_1.Loc x21_1.Time (-1)), (GChange.mk x21_1.Loc p2 1)] : List GChange))), (.fro 68 3 (List.length r48_3) (flatD enc_GLeave r48_3)), (.arr 71 3 (List.length r50_3) (flatD enc_GChange r50_3))], 0⟩ ?_
    refine AWP.ret ?_
    obtain rfl := Option.some.inj hm
    exact ret_i [3]

set_option maxRecDepth 20000 in
set_option maxHeartbeats 4000000 in
theorem ok_telltaleref28_Drop (p0 : (List GLeave)) (p1 : Int) (r : ((List GLeave) × (List GChange) × Int)) (h : m_telltaleref28_Drop p0 p1 = some r) : GCall Try.prog 12 [(.l enc_GLeave p0), (.i p1)] [] (.tup [(.l enc_GLeave r.1), (.own 0), (.i r.2.2)]) [(.arr 71 3 (List.length r.2.1) (flatD enc_GChange r.2.1))] := by
 refine GCall.of_body (n := 34) (rs := [(.tmp 4), (.tmp 5), (.tmp 6)]) Try.func12 rfl rfl rfl ?_
 refine Ato ⟨((.l enc_GLeave p0) :: ((.i p1) :: (tu 32 []))), [], 0⟩ ?_
 have hm := h
 unfold m_telltaleref28_Drop at hm
 refine AWP.seq ?_
 refine AWP.text ?_
 refine Wy (.d .nil) [] (Omv rfl) ?_
 refine Wy (.d .nil) [] (Omv rfl) ?_
 refine Wy (.i 0) [] (Omv rfl) ?_
 refine Walk.nil ?_
 refine Then.normal ?_
 refine Amk 3 0 ⟨((.l enc_GLeave p0) :: ((.i p1) :: (tp 32 []))), [], 0⟩ ?_
 refine AWP.seq ?_
 refine AWP.seq ?_
 refine AWP.text ?_
 refine Wy (.l enc_GLeave p0) [] (Omv rfl) ?_
 refine Wy (.i p1) [] (Omv rfl) ?_
 obtain ⟨r11_0, hr11_0, hm⟩ := bnd hm
 refine Wy (.i r11_0) [] (Ocf [] [] [] 0 (ok_telltaleref28_why p0 p1 r11_0 hr11_0) (fun a w => Try.call34 a w) rfl trivial) ?_
 refine Wy (.i r11_0) [] (Omv rfl) ?_
 refine Walk.nil ?_
 refine Then.normal ?_
 refine Amk 131 0 ⟨((.l enc_GLeave p0) :: ((.i p1) :: (tp 5 ((.i r11_0) :: (tp 26 []))))), [], 0⟩ ?_
 refine AWP.seq ?_
 refine AWP.text ?_
 refine Wy (.i r11_0) [] (Omv rfl) ?_
 refine Wy (.b (decide (r11_0 ≠ 0))) [] (Obn rfl (fun _ => hb_neq (k := .i64))) ?_
 refine Walk.nil ?_
 refine Then.normal ?_
 refine Amk 8323 0 ⟨((.l enc_GLeave p0) :: ((.i p1) :: (tp 5 ((.i r11_0) :: (tp 5 ((.b (decide (r11_0 ≠ 0))) :: (tp 20 []))))))), [], 0⟩ ?_
 rcases tf_ (decide (r11_0 ≠ 0)) with hc13_3 | hc13_3
 ·
  replace hm := cT hc13_3 hm
  refine AWP.if_ true (Eq.trans (by kernel_rfl) (lit_tf (b := decide (r11_0 ≠ 0)) hc13_3)) ?_
  refine AWP.seq ?_
  refine AWP.text ?_
  refine Wy (.l enc_GLeave p0) [] (Omv rfl) ?_
  refine Wy (.i r11_0) [] (Omv rfl) ?_
  refine Wy (.l enc_GLeave p0) [] (Omv rfl) ?_
  refine Wy (.d .nil) [] (Omv rfl) ?_
  refine Wy (.i r11_0) [] (Omv rfl) ?_
  refine Walk.nil ?_
  refine Then.normal ?_
  refine Aow 5 71 3 ⟨((.l enc_GLeave p0) :: ((.i p1) :: (tp 2 ((.l enc_GLeave p0) :: ((.own 0) :: ((.i r11_0) :: ((.i r11_0) :: (tp 5 ((.b (decide (r11_0 ≠ 0))) :: ((.l enc_GLeave p0) :: ((.i r11_0) :: (tp 18 [])))))))))))), [(.arr 71 3 (List.length ([] : List GChange)) (flatD enc_GChange ([] : List GChange)))], 0⟩ ?_
  refine AWP.ret ?_
  refine Then.ret ?_
  obtain rfl := Option.some.inj hm
  exact ret_i [0]
 ·
  replace hm := cF hc13_3 hm
  refine AWP.if_ false (Eq.trans (by kernel_rfl) (lit_tf (b := decide (r11_0 ≠ 0)) hc13_3)) ?_
  refine AWP.skip ?_
  refine Then.normal ?_
  refine Amk 3 0 ⟨((.l enc_GLeave p0) :: ((.i p1) :: (tp 32 []))), [], 0⟩ ?_
  refine AWP.seq ?_
  refine AWP.text ?_
  refine Wy (.l enc_GLeave p0) [] (Omv rfl) ?_
  refine Wy (.i p1) [] (Omv rfl) ?_
  obtain ⟨x18_1, hx18_1, hm⟩ := bnd hm
  obtain ⟨hx18_1i, hx18_1g⟩ := geti_some hx18_1
  refine Wy (.d (.ref (List.drop ((Int.toNat p1) * 3) (flatD enc_GLeave p0)))) [] (Oia rfl enc_GLeave_len hx18_1i hx18_1g) ?_
  refine Wy (.agg [(.i x18_1.Loc), (.i x18_1.Time), (.b x18_1.Held)]) [] (Lf rfl enc_GLeave_len hx18_1g) ?_
  refine Wy (.loc 0 0) [(0, (.box [(.i 0), (.i 0), (.b false)]))] (Oal rfl) ?_
  refine Wy (.tup []) [(0, (.box [(.i x18_1.Loc), (.i x18_1.Time), (.b x18_1.Held)]))] (Ost rfl) ?_
  refine Walk.nil ?_
  refine Then.normal ?_
  refine Amk 259 1 ⟨((.l enc_GLeave p0) :: ((.i p1) :: (tp 6 ((.loc 0 0) :: (tp 25 []))))), [(.box [(.i x18_1.Loc), (.i x18_1.Time), (.b x18_1.Held)])], 0⟩ ?_
  refine AWP.seq ?_
  refine Adr ?_
  refine Wy (.l enc_GLeave p0) [] (Omv rfl) ?_
  refine Wy (.i p1) [] (Omv rfl) ?_
  refine Wy (.loc 0 0) [] (Ofa rfl) ?_
  refine Wy (.i x18_1.Loc) [] (Old rfl) ?_
  refine Wy (.loc 0 1) [] (Ofa rfl) ?_
  refine Wy (.i x18_1.Time) [] (Old rfl) ?_
  refine Wy (.agg [(.i x18_1.Loc), (.i x18_1.Time), (.b false)]) [] (Obd rfl) ?_
  obtain ⟨r27_2, hr27_2, hm⟩ := bnd hm
  refine Wy (.own 1) [(1, (.arr 68 3 (List.length r27_2) (flatD enc_GLeave r27_2)))] (Ocf [] [1] [] 0 (ok_telltaleref28_with p0 p1 (GLeave.mk x18_1.Loc x18_1.Time false) r27_2 hr27_2) (fun a w => Try.call35 a w) rfl trivial) ?_
  refine Wy (.loc 0 0) [] (Ofa rfl) ?_
  refine Wy (.i x18_1.Loc) [] (Old rfl) ?_
  refine Wy (.loc 0 1) [] (Ofa rfl) ?_
  refine Wy (.i x18_1.Time) [] (Old rfl) ?_
  refine Wy (.agg [(.i x18_1.Loc), (.i x18_1.Time), (.i (-1))]) [] (Obd rfl) ?_
  refine Wy (.own 2) [(2, (.arr 71 3 (List.length ([(GChange.mk x18_1.Loc x18_1.Time (-1))] : List GChange)) (flatD enc_GChange ([(GChange.mk x18_1.Loc x18_1.Time (-1))] : List GChange))))] (Obs rfl) ?_
  refine Wy (.own 1) [] (Omv rfl) ?_
  refine Wy (.own 2) [] (Omv rfl) ?_
  refine Wy (.i 0) [] (Omv rfl) ?_
  refine Wdr ?_
  refine Then.normal ?_
  refine Afz [1] ⟨((.l enc_GLeave p0) :: ((.i p1) :: (tp 2 ((.l enc_GLeave r27_2) :: ((.own 2) :: ((.i 0) :: (tp 1 ((.loc 0 0) :: (tp 11 ((.l enc_GLeave p0) :: ((.i p1) :: ((.loc 0 0) :: ((.i x18_1.Loc) :: ((.loc 0 1) :: ((.i x18_1.Time) :: ((.agg [(.i x18_1.Loc), (.i x18_1.Time), (.b false)]) :: ((.l enc_GLeave r27_2) :: ((.loc 0 0) :: ((.i x18_1.Loc) :: ((.loc 0 1) :: ((.i x18_1.Time) :: ((.agg [(.i x18_1.Loc), (.i x18_1.Time), (.i (-1))]) :: ((.own 2) :: []))))))))))))))))))))))), [(.box [(.i x18_1.Loc), (.i x18_1.Time), (.b x18_1.Held)]), (.fro 68 3 (List.length r27_2) (flatD enc_GLeave r27_2)), (.arr 71 3 (List.length ([(GChange.mk x18_1.Loc x18_1.Time (-1))] : List GChange)) (flatD enc_GChange ([(GChange.mk x18_1.Loc x18_1.Time (-1))] : List GChange)))], 0⟩ ?_
  refine AWP.ret ?_
  obtain rfl := Option.some.inj hm
  exact ret_i [2]

set_option maxRecDepth 20000 in
set_option maxHeartbeats 4000000 in
theorem ok_telltalelaw28_Back (p0 : GBook) (r : (List GLeave)) (h : m_telltalelaw28_Back p0 = some r) : GCall Try.prog 15 [(.agg [(.l enc_GLeave_ p0.L)])] [] (.own 0) [(.arr 68 3 (List.length r) (flatD enc_GLeave r))] := by
 refine GCall.of_body (n := 37) (rs := [(.tmp 2)]) Try.func15 rfl rfl rfl ?_
 refine Ato ⟨((.agg [(.l enc_GLeave_ p0.L)]) :: (tu 36 [])), [], 0⟩ ?_
 have hm := h
 unfold m_telltalelaw28_Back at hm
 refine AWP.seq ?_
 refine AWP.text ?_
 refine Wy (.loc 0 0) [(0, (.box [(.l enc_GLeave_ p0.L)]))] (Obx rfl) ?_
 refine Wy (.d .nil) [] (Omv rfl) ?_
 refine Walk.nil ?_
 refine Then.normal ?_
 refine Amk 2 1 ⟨(tp 1 ((.loc 0 0) :: (tp 35 []))), [(.box [(.l enc_GLeave_ p0.L)])], 0⟩ ?_
 refine AWP.seq ?_
 refine AWP.text ?_
 refine Wy (.d .nil) [] (Omv rfl) ?_
 refine Walk.nil ?_
 refine Then.normal ?_
 refine Amk 10 1 ⟨(tp 1 ((.loc 0 0) :: (tp 1 ((.d .nil) :: (tp 33 []))))), [(.box [(.l enc_GLeave_ p0.L)])], 0⟩ ?_
 refine AWP.seq ?_
 refine AWP.seq ?_
 refine AWP.text ?_
 refine Wy (.i 0) [] (Omv rfl) ?_
 refine Walk.nil ?_
 refine Then.normal ?_
 refine Amk 26 1 ⟨(tp 1 ((.loc 0 0) :: (tp 1 ((.d .nil) :: ((.i 0) :: (tp 32 [])))))), [(.box [(.l enc_GLeave_ p0.L)])], 0⟩ ?_
 refine AWP.block ?_
 refine Aow 3 68 3 ⟨(tp 1 ((.loc 0 0) :: (tp 1 ((.own 1) :: ((.i 0) :: (tp 32 [])))))), [(.box [(.l enc_GLeave_ p0.L)]), (.arr 68 3 (List.length ([] : List GLeave)) (flatD enc_GLeave ([] : List GLeave)))], 0⟩ ?_
 refine AWP.loopI (α := Nat × (List GLeave) × Int)
   (fun x => match x with | (fu_0, y3_0, y4_0) => (⟨(tp 1 ((.loc 0 0) :: (tp 1 ((.own 1) :: ((.i y4_0) :: (tp 32 [])))))), [(.box [(.l enc_GLeave_ p0.L)]), (.arr 68 3 (List.length y3_0) (flatD enc_GLeave y3_0))], 0⟩ : St))
   (fun x => match x with | (fu_0, y3_0, y4_0) => m_telltalelaw28_Back_l0 p0 fu_0 y3_0 y4_0 = some r)
   (fun x => match x with | (fu_0, y3_0, y4_0) => fu_0) (1152921504606846976, ([] : List GLeave), 0)
   (Weak.toK 26 0 0 [0, 1]) hm ?_
 rintro ⟨fu_0, y3_0, y4_0⟩ n_0 hm ih_0
 try dsimp only at hm ih_0 ⊢
 cases fu_0 with
 | zero => exact absurd hm (by unfold m_telltalelaw28_Back_l0; simp)
 | succ fu_0 =>
  unfold m_telltalelaw28_Back_l0 at hm
  refine AWP.seq ?_
  refine AWP.seq ?_
  refine AWP.text ?_
  refine Wy (.i y4_0) [] (Omv rfl) ?_
  refine Wy (.loc 0 0) [] (Ofa rfl) ?_
  refine Wy (.l enc_GLeave_ p0.L) [] (Old rfl) ?_
  refine Wy (.i ((List.length p0.L : Nat) : Int)) [] (Oln rfl) ?_
  refine Wy (.b (decide (y4_0 < ((List.length p0.L : Nat) : Int)))) [] (Obn rfl (fun _ => hb_lss (k := .i64))) ?_
  refine Walk.nil ?_
  refine Then.normal ?_
  refine Amk 538 3 ⟨(tp 1 ((.loc 0 0) :: (tp 1 ((.own 1) :: ((.i y4_0) :: (tp 4 ((.b (decide (y4_0 < ((List.length p0.L : Nat) : Int)))) :: (tp 27 [])))))))), [(.box [(.l enc_GLeave_ p0.L)]), (.arr 68 3 (List.length y3_0) (flatD enc_GLeave y3_0))], 0⟩ ?_
  rcases tf_ (decide (y4_0 < ((List.length p0.L : Nat) : Int))) with hc9_3 | hc9_3
  ·
   replace hm := cT hc9_3 hm
   refine AWP.if_ true (Eq.trans (by kernel_rfl) (lit_tf (b := decide (y4_0 < ((List.length p0.L : Nat) : Int))) hc9_3)) ?_
   refine AWP.skip ?_
   refine Then.normal ?_
   refine Amk 26 3 ⟨(tp 1 ((.loc 0 0) :: (tp 1 ((.own 1) :: ((.i y4_0) :: (tp 32 [])))))), [(.box [(.l enc_GLeave_ p0.L)]), (.arr 68 3 (List.length y3_0) (flatD enc_GLeave y3_0))], 0⟩ ?_
   refine AWP.seq ?_
   refine AWP.block ?_
   refine Adr ?_
   refine Wy (.own 1) [] (Omv rfl) ?_
   refine Wy (.loc 0 0) [] (Ofa rfl) ?_
   refine Wy (.l enc_GLeave_ p0.L) [] (Old rfl) ?_
   refine Wy (.i y4_0) [] (Omv rfl) ?_
   obtain ⟨x16_2, hx16_2, hm⟩ := bnd hm
   obtain ⟨hx16_2i, hx16_2g⟩ := geti_some hx16_2
   refine Wy (.d (.ref (List.drop ((Int.toNat y4_0) * 3) (flatD enc_GLeave_ p0.L)))) [] (Oia rfl enc_GLeave__len hx16_2i hx16_2g) ?_
   refine Wy (.d (.ref (List.drop ((Int.toNat y4_0) * 3) (flatD enc_GLeave_ p0.L)))) [] (Ofa rfl) ?_
   refine Wy (.d (.ref (List.drop ((Int.toNat y4_0) * 3) (flatD enc_GLeave_ p0.L)))) [] (Ofa rfl) ?_
   refine Wy (.i x16_2.Point.Loc) [] (Lf1 rfl enc_GLeave__len hx16_2g) ?_
   refine Wy (.loc 0 0) [] (Ofa rfl) ?_
   refine Wy (.l enc_GLeave_ p0.L) [] (Old rfl) ?_
   refine Wy (.i y4_0) [] (Omv rfl) ?_
   obtain ⟨x23_2, hx23_2, hm⟩ := bnd hm
   obtain ⟨hx23_2i, hx23_2g⟩ := geti_some hx23_2
   refine Wy (.d (.ref (List.drop ((Int.toNat y4_0) * 3) (flatD enc_GLeave_ p0.L)))) [] (Oia rfl enc_GLeave__len hx23_2i hx23_2g) ?_
   refine Wy (.d (.ref (List.drop ((Int.toNat y4_0) * 3) (flatD enc_GLeave_ p0.L)))) [] (Ofa rfl) ?_
   refine Wy (.d (.ref (List.drop 1 (List.drop ((Int.toNat y4_0) * 3) (flatD enc_GLeave_ p0.L))))) [] (Ofa rfl) ?_
   refine Wy (.i x23_2.Point.Time) [] (Lfk1 1 rfl enc_GLeave__len hx23_2g) ?_
   refine Wy (.loc 0 0) [] (Ofa rfl) ?_
   refine Wy (.l enc_GLeave_ p0.L) [] (Old rfl) ?_
   refine Wy (.i y4_0) [] (Omv rfl) ?_
   obtain ⟨x30_2, hx30_2, hm⟩ := bnd hm
   obtain ⟨hx30_2i, hx30_2g⟩ := geti_some hx30_2
   refine Wy (.d (.ref (List.drop ((Int.toNat y4_0) * 3) (flatD enc_GLeave_ p0.L)))) [] (Oia rfl enc_GLeave__len hx30_2i hx30_2g) ?_
   refine Wy (.d (.ref (List.drop 2 (List.drop ((Int.toNat y4_0) * 3) (flatD enc_GLeave_ p0.L))))) [] (Ofa rfl) ?_
   refine Wy (.b x30_2.Held) [] (Lfk1 2 rfl enc_GLeave__len hx30_2g) ?_
   refine Wy (.agg [(.i x16_2.Point.Loc), (.i x23_2.Point.Time), (.b x30_2.Held)]) [] (Obd rfl) ?_
   refine Wy (.own 2) [(2, (.arr 68 3 (List.length ([(GLeave.mk x16_2.Point.Loc x23_2.Point.Time x30_2.Held)] : List GLeave)) (flatD enc_GLeave ([(GLeave.mk x16_2.Point.Loc x23_2.Point.Time x30_2.Held)] : List GLeave))))] (Obs rfl) ?_
   obtain ⟨a35_2, ha35_2, hm⟩ := bnd hm; obtain ⟨ha35_2e, ha35_2l⟩ := app_some ha35_2
   refine Wy (.own 3) [(1, .gone), (3, (.arr 68 3 (List.length a35_2) (flatD enc_GLeave a35_2)))] (Oap rfl elemOK_22 enc_GLeave_len ha35_2e ha35_2l) ?_
   refine Wy (.own 3) [] (Omv rfl) ?_
   refine Wdr ?_
   refine InBlock.normal ?_
   refine Then.normal ?_
   refine Amk 26 9 ⟨(tp 1 ((.loc 0 0) :: (tp 1 ((.own 3) :: ((.i y4_0) :: (tp 32 [])))))), [(.box [(.l enc_GLeave_ p0.L)]), .gone, .gone, (.arr 68 3 (List.length a35_2) (flatD enc_GLeave a35_2))], 0⟩ ?_
   refine AWP.text ?_
   refine Wy (.i y4_0) [] (Omv rfl) ?_
   refine Wy (.i (IntKind.i64.wrap (y4_0 + 1))) [] (Obn rfl (fun _ => hb_add (k := .i64))) ?_
   refine Wy (.i (IntKind.i64.wrap (y4_0 + 1))) [] (Omv rfl) ?_
   refine Walk.nil ?_
   refine RoundK.normal ?_
   exact Rounds.weak (Weak.toK 26 0 0 [0, 3]) (ih_0 (fu_0, a35_2, (IntKind.i64.wrap (y4_0 + 1))) hm (Nat.lt_succ_self _))
  ·
   replace hm := cF hc9_3 hm
   refine AWP.if_ false (Eq.trans (by kernel_rfl) (lit_tf (b := decide (y4_0 < ((List.length p0.L : Nat) : Int))) hc9_3)) ?_
   refine AWP.exit ?_
   refine Then.exit ?_
   refine RoundK.exit ?_
   refine InBlock.same ?_
   refine Then.normal ?_
   refine Amk 8 2 ⟨(tp 3 ((.own 1) :: (tp 33 []))), [.gone, (.arr 68 3 (List.length y3_0) (flatD enc_GLeave y3_0))], 0⟩ ?_
   refine AWP.seq ?_
   refine AWP.text ?_
   refine Wy (.own 1) [] (Omv rfl) ?_
   refine Wy (.own 1) [] (Omv rfl) ?_
   refine Walk.nil ?_
   refine Then.normal ?_
   refine AWP.ret ?_
   obtain rfl := Option.some.inj hm
   exact ret_i [1]

set_option maxRecDepth 20000 in
set_option maxHeartbeats 4000000 in
theorem ok_telltaleref28_Same (p0 : (List GLeave)) (p1 : (List GLeave)) (r : Bool) (h : m_telltaleref28_Same p0 p1 = some r) : GCall Try.prog 14 [(.l enc_GLeave p0), (.l enc_GLeave p1)] [] (.b r) [] := by
 refine GCall.of_body (n := 26) (rs := [(.tmp 4)]) Try.func14 rfl rfl rfl ?_
 refine Ato ⟨((.l enc_GLeave p0) :: ((.l enc_GLeave p1) :: (tu 24 []))), [], 0⟩ ?_
 have hm := h
 unfold m_telltaleref28_Same at hm
 refine AWP.seq ?_
 refine AWP.text ?_
 refine Wy (.b false) [] (Omv rfl) ?_
 refine Walk.nil ?_
 refine Then.normal ?_
 refine Amk 3 0 ⟨((.l enc_GLeave p0) :: ((.l enc_GLeave p1) :: (tp 24 []))), [], 0⟩ ?_
 refine AWP.seq ?_
 refine AWP.seq ?_
 refine AWP.text ?_
 refine Wy (.l enc_GLeave p0) [] (Omv rfl) ?_
 refine Wy (.i ((List.length p0 : Nat) : Int)) [] (Oln rfl) ?_
 refine Wy (.l enc_GLeave p1) [] (Omv rfl) ?_
 refine Wy (.i ((List.length p1 : Nat) : Int)) [] (Oln rfl) ?_
 refine Wy (.b (decide (((List.length p0 : Nat) : Int) ≠ ((List.length p1 : Nat) : Int)))) [] (Obn rfl (fun _ => hb_neq (k := .i64))) ?_
 refine Walk.nil ?_
 refine Then.normal ?_
 refine Amk 1027 0 ⟨((.l enc_GLeave p0) :: ((.l enc_GLeave p1) :: (tp 8 ((.b (decide (((List.length p0 : Nat) : Int) ≠ ((List.length p1 : Nat) : Int)))) :: (tp 15 []))))), [], 0⟩ ?_
 rcases tf_ (decide (((List.length p0 : Nat) : Int) ≠ ((List.length p1 : Nat) : Int))) with hc10_4 | hc10_4
 ·
  replace hm := cT hc10_4 hm
  refine AWP.if_ true (Eq.trans (by kernel_rfl) (lit_tf (b := decide (((List.length p0 : Nat) : Int) ≠ ((List.length p1 : Nat) : Int))) hc10_4)) ?_
  refine AWP.seq ?_
  refine AWP.text ?_
  refine Wy (.b false) [] (Omv rfl) ?_
  refine Walk.nil ?_
  refine Then.normal ?_
  refine AWP.ret ?_
  refine Then.ret ?_
  obtain rfl := Option.some.inj hm
  exact ret_i []
 ·
  replace hm := cF hc10_4 hm
  refine AWP.if_ false (Eq.trans (by kernel_rfl) (lit_tf (b := decide (((List.length p0 : Nat) : Int) ≠ ((List.length p1 : Nat) : Int))) hc10_4)) ?_
  refine AWP.skip ?_
  refine Then.normal ?_
  refine Amk 3 0 ⟨((.l enc_GLeave p0) :: ((.l enc_GLeave p1) :: (tp 24 []))), [], 0⟩ ?_
  refine AWP.seq ?_
  refine AWP.seq ?_
  refine AWP.text ?_
  refine Wy (.i 0) [] (Omv rfl) ?_
  refine Walk.nil ?_
  refine Then.normal ?_
  refine Amk 35 0 ⟨((.l enc_GLeave p0) :: ((.l enc_GLeave p1) :: (tp 3 ((.i 0) :: (tp 20 []))))), [], 0⟩ ?_
  refine AWP.block ?_
  refine AWP.loopI (α := Nat × Int)
    (fun x => match x with | (fu_1, y5_1) => (⟨((.l enc_GLeave p0) :: ((.l enc_GLeave p1) :: (tp 3 ((.i y5_1) :: (tp 20 []))))), [], 0⟩ : St))
    (fun x => match x with | (fu_1, y5_1) => m_telltaleref28_Same_l1 p0 p1 fu_1 y5_1 = some r)
    (fun x => match x with | (fu_1, y5_1) => fu_1) (1152921504606846976, 0)
    (Weak.toK 35 0 0 []) hm ?_
  rintro ⟨fu_1, y5_1⟩ n_1 hm ih_1
  try dsimp only at hm ih_1 ⊢
  cases fu_1 with
  | zero => exact absurd hm (by unfold m_telltaleref28_Same_l1; simp)
  | succ fu_1 =>
   unfold m_telltaleref28_Same_l1 at hm
   refine AWP.seq ?_
   refine AWP.seq ?_
   refine AWP.text ?_
   refine Wy (.i y5_1) [] (Omv rfl) ?_
   refine Wy (.l enc_GLeave p0) [] (Omv rfl) ?_
   refine Wy (.i ((List.length p0 : Nat) : Int)) [] (Oln rfl) ?_
   refine Wy (.b (decide (y5_1 < ((List.length p0 : Nat) : Int)))) [] (Obn rfl (fun _ => hb_lss (k := .i64))) ?_
   refine Walk.nil ?_
   refine Then.normal ?_
   refine Amk 16419 0 ⟨((.l enc_GLeave p0) :: ((.l enc_GLeave p1) :: (tp 3 ((.i y5_1) :: (tp 8 ((.b (decide (y5_1 < ((List.length p0 : Nat) : Int)))) :: (tp 11 []))))))), [], 0⟩ ?_
   rcases tf_ (decide (y5_1 < ((List.length p0 : Nat) : Int))) with hc14_5 | hc14_5
   ·
    replace hm := cT hc14_5 hm
    refine AWP.if_ true (Eq.trans (by kernel_rfl) (lit_tf (b := decide (y5_1 < ((List.length p0 : Nat) : Int))) hc14_5)) ?_
    refine AWP.skip ?_
    refine Then.normal ?_
    refine Amk 35 0 ⟨((.l enc_GLeave p0) :: ((.l enc_GLeave p1) :: (tp 3 ((.i y5_1) :: (tp 20 []))))), [], 0⟩ ?_
    refine AWP.seq ?_
    refine AWP.block ?_
    refine AWP.seq ?_
    refine Adr ?_
    refine Wy (.l enc_GLeave p0) [] (Omv rfl) ?_
    refine Wy (.i y5_1) [] (Omv rfl) ?_
    obtain ⟨x19_3, hx19_3, hm⟩ := bnd hm
    obtain ⟨hx19_3i, hx19_3g⟩ := geti_some hx19_3
    refine Wy (.d (.ref (List.drop ((Int.toNat y5_1) * 3) (flatD enc_GLeave p0)))) [] (Oia rfl enc_GLeave_len hx19_3i hx19_3g) ?_
    refine Wy (.agg [(.i x19_3.Loc), (.i x19_3.Time), (.b x19_3.Held)]) [] (Lf rfl enc_GLeave_len hx19_3g) ?_
    refine Wy (.l enc_GLeave p1) [] (Omv rfl) ?_
    refine Wy (.i y5_1) [] (Omv rfl) ?_
    obtain ⟨x23_3, hx23_3, hm⟩ := bnd hm
    obtain ⟨hx23_3i, hx23_3g⟩ := geti_some hx23_3
    refine Wy (.d (.ref (List.drop ((Int.toNat y5_1) * 3) (flatD enc_GLeave p1)))) [] (Oia rfl enc_GLeave_len hx23_3i hx23_3g) ?_
    refine Wy (.agg [(.i x23_3.Loc), (.i x23_3.Time), (.b x23_3.Held)]) [] (Lf rfl enc_GLeave_len hx23_3g) ?_
    obtain ⟨v25_3, hv25_3, hm⟩ := bnd hm; replace hv25_3 := Option.some.inj hv25_3
    refine Wy (.b v25_3) [] (Ocs (Eq.trans (by kernel_rfl) (congrArg (fun z => A.d (.lit (.bool z))) hv25_3)) (op_neq_struct rfl (la := [(.i x19_3.Loc), (.i x19_3.Time), (.b x19_3.Held)]) (lb := [(.i x23_3.Loc), (.i x23_3.Time), (.b x23_3.Held)]) (us := [.int .i64 x19_3.Loc, .int .i64 x19_3.Time, .bool x19_3.Held]) (vs := [.int .i64 x23_3.Loc, .int .i64 x23_3.Time, .bool x23_3.Held]) (r := (decide (x19_3.Loc = x23_3.Loc) && (decide (x19_3.Time = x23_3.Time) && (decide (x19_3.Held = x23_3.Held) && true)))) (by kernel_rfl) (by kernel_rfl) (by kernel_rfl) (by kernel_rfl) (by kernel_rfl))) ?_
    refine Wdr ?_
    refine Then.normal ?_
    refine Amk 33554467 0 ⟨((.l enc_GLeave p0) :: ((.l enc_GLeave p1) :: (tp 3 ((.i y5_1) :: (tp 19 ((.b v25_3) :: [])))))), [], 0⟩ ?_
    rcases tf_ v25_3 with hc25_6 | hc25_6
    ·
     replace hm := cT hc25_6 hm
     refine AWP.if_ true (Eq.trans (by kernel_rfl) (lit_tf (b := v25_3) hc25_6)) ?_
     refine AWP.seq ?_
     refine AWP.text ?_
     refine Wy (.b false) [] (Omv rfl) ?_
     refine Walk.nil ?_
     refine Then.normal ?_
     refine AWP.ret ?_
     refine InBlock.ret ?_
     refine Then.ret ?_
     refine RoundK.ret ?_
     refine InBlock.ret ?_
     refine Then.ret ?_
     obtain rfl := Option.some.inj hm
     exact ret_i []
    ·
     replace hm := cF hc25_6 hm
     refine AWP.if_ false (Eq.trans (by kernel_rfl) (lit_tf (b := v25_3) hc25_6)) ?_
     refine AWP.skip ?_
     refine InBlock.normal ?_
     refine Then.normal ?_
     refine Amk 35 0 ⟨((.l enc_GLeave p0) :: ((.l enc_GLeave p1) :: (tp 3 ((.i y5_1) :: (tp 20 []))))), [], 0⟩ ?_
     refine AWP.text ?_
     refine Wy (.i y5_1) [] (Omv rfl) ?_
     refine Wy (.i (IntKind.i64.wrap (y5_1 + 1))) [] (Obn rfl (fun _ => hb_add (k := .i64))) ?_
     refine Wy (.i (IntKind.i64.wrap (y5_1 + 1))) [] (Omv rfl) ?_
     refine Walk.nil ?_
     refine RoundK.normal ?_
     exact Rounds.weak (Weak.toK 35 0 0 []) (ih_1 (fu_1, (IntKind.i64.wrap (y5_1 + 1))) hm (Nat.lt_succ_self _))
   ·
    replace hm := cF hc14_5 hm
    refine AWP.if_ false (Eq.trans (by kernel_rfl) (lit_tf (b := decide (y5_1 < ((List.length p0 : Nat) : Int))) hc14_5)) ?_
    refine AWP.exit ?_
    refine Then.exit ?_
    refine RoundK.exit ?_
    refine InBlock.same ?_
    refine Then.normal ?_
    refine Amk 0 0 ⟨(tp 26 []), [], 0⟩ ?_
    refine AWP.seq ?_
    refine AWP.text ?_
    refine Wy (.b true) [] (Omv rfl) ?_
    refine Walk.nil ?_
    refine Then.normal ?_
    refine AWP.ret ?_
    obtain rfl := Option.some.inj hm
    exact ret_i []

set_option maxRecDepth 20000 in
set_option maxHeartbeats 4000000 in
theorem ok_telltalelaw26_Back (p0 : (List GChange)) (r : (List GChange)) (h : m_telltalelaw26_Back p0 = some r) : GCall Try.prog 17 [(.l enc_GChange p0)] [] (.own 0) [(.arr 71 3 (List.length r) (flatD enc_GChange r))] := by
 refine GCall.of_body (n := 19) (rs := [(.tmp 2)]) Try.func17 rfl rfl rfl ?_
 refine Ato ⟨((.l enc_GChange p0) :: (tu 18 [])), [], 0⟩ ?_
 have hm := h
 unfold m_telltalelaw26_Back at hm
 refine AWP.seq ?_
 refine AWP.text ?_
 refine Wy (.d .nil) [] (Omv rfl) ?_
 refine Walk.nil ?_
 refine Then.normal ?_
 refine Amk 1 0 ⟨((.l enc_GChange p0) :: (tp 18 [])), [], 0⟩ ?_
 refine AWP.seq ?_
 refine AWP.text ?_
 refine Wy (.d .nil) [] (Omv rfl) ?_
 refine Walk.nil ?_
 refine Then.normal ?_
 refine Amk 9 0 ⟨((.l enc_GChange p0) :: (tp 2 ((.d .nil) :: (tp 15 [])))), [], 0⟩ ?_
 refine AWP.seq ?_
 refine AWP.seq ?_
 refine AWP.text ?_
 refine Wy (.i 0) [] (Omv rfl) ?_
 refine Walk.nil ?_
 refine Then.normal ?_
 refine Amk 25 0 ⟨((.l enc_GChange p0) :: (tp 2 ((.d .nil) :: ((.i 0) :: (tp 14 []))))), [], 0⟩ ?_
 refine AWP.block ?_
 refine Aow 3 71 3 ⟨((.l enc_GChange p0) :: (tp 2 ((.own 0) :: ((.i 0) :: (tp 14 []))))), [(.arr 71 3 (List.length ([] : List GChange)) (flatD enc_GChange ([] : List GChange)))], 0⟩ ?_
 refine AWP.loopI (α := Nat × (List GChange) × Int)
   (fun x => match x with | (fu_0, y3_0, y4_0) => (⟨((.l enc_GChange p0) :: (tp 2 ((.own 0) :: ((.i y4_0) :: (tp 14 []))))), [(.arr 71 3 (List.length y3_0) (flatD enc_GChange y3_0))], 0⟩ : St))
   (fun x => match x with | (fu_0, y3_0, y4_0) => m_telltalelaw26_Back_l0 p0 fu_0 y3_0 y4_0 = some r)
   (fun x => match x with | (fu_0, y3_0, y4_0) => fu_0) (1152921504606846976, ([] : List GChange), 0)
   (Weak.toK 25 0 0 [0]) hm ?_
 rintro ⟨fu_0, y3_0, y4_0⟩ n_0 hm ih_0
 try dsimp only at hm ih_0 ⊢
 cases fu_0 with
 | zero => exact absurd hm (by unfold m_telltalelaw26_Back_l0; simp)
 | succ fu_0 =>
  unfold m_telltalelaw26_Back_l0 at hm
  refine AWP.seq ?_
  refine AWP.seq ?_
  refine AWP.text ?_
  refine Wy (.i y4_0) [] (Omv rfl) ?_
  refine Wy (.l enc_GChange p0) [] (Omv rfl) ?_
  refine Wy (.i ((List.length p0 : Nat) : Int)) [] (Oln rfl) ?_
  refine Wy (.b (decide (y4_0 < ((List.length p0 : Nat) : Int)))) [] (Obn rfl (fun _ => hb_lss (k := .i64))) ?_
  refine Walk.nil ?_
  refine Then.normal ?_
  refine Amk 281 1 ⟨((.l enc_GChange p0) :: (tp 2 ((.own 0) :: ((.i y4_0) :: (tp 3 ((.b (decide (y4_0 < ((List.length p0 : Nat) : Int)))) :: (tp 10 []))))))), [(.arr 71 3 (List.length y3_0) (flatD enc_GChange y3_0))], 0⟩ ?_
  rcases tf_ (decide (y4_0 < ((List.length p0 : Nat) : Int))) with hc8_3 | hc8_3
  ·
   replace hm := cT hc8_3 hm
   refine AWP.if_ true (Eq.trans (by kernel_rfl) (lit_tf (b := decide (y4_0 < ((List.length p0 : Nat) : Int))) hc8_3)) ?_
   refine AWP.skip ?_
   refine Then.normal ?_
   refine Amk 25 1 ⟨((.l enc_GChange p0) :: (tp 2 ((.own 0) :: ((.i y4_0) :: (tp 14 []))))), [(.arr 71 3 (List.length y3_0) (flatD enc_GChange y3_0))], 0⟩ ?_
   refine AWP.seq ?_
   refine AWP.block ?_
   refine AWP.text ?_
   refine Wy (.own 0) [] (Omv rfl) ?_
   refine Wy (.l enc_GChange p0) [] (Omv rfl) ?_
   refine Wy (.i y4_0) [] (Omv rfl) ?_
   obtain ⟨x14_2, hx14_2, hm⟩ := bnd hm
   obtain ⟨hx14_2i, hx14_2g⟩ := geti_some hx14_2
   refine Wy (.d (.ref (List.drop ((Int.toNat y4_0) * 3) (flatD enc_GChange p0)))) [] (Oia rfl enc_GChange_len hx14_2i hx14_2g) ?_
   refine Wy (.agg [(.i x14_2.Loc), (.i x14_2.Time), (.i x14_2.N)]) [] (Lf rfl enc_GChange_len hx14_2g) ?_
   refine Wy (.own 1) [(1, (.arr 71 3 (List.length ([x14_2] : List GChange)) (flatD enc_GChange ([x14_2] : List GChange))))] (Obs rfl) ?_
   obtain ⟨a17_2, ha17_2, hm⟩ := bnd hm; obtain ⟨ha17_2e, ha17_2l⟩ := app_some ha17_2
   refine Wy (.own 2) [(0, .gone), (2, (.arr 71 3 (List.length a17_2) (flatD enc_GChange a17_2)))] (Oap rfl elemOK_32 enc_GChange_len ha17_2e ha17_2l) ?_
   refine Wy (.own 2) [] (Omv rfl) ?_
   refine Walk.nil ?_
   refine InBlock.normal ?_
   refine Then.normal ?_
   refine Amk 25 4 ⟨((.l enc_GChange p0) :: (tp 2 ((.own 2) :: ((.i y4_0) :: (tp 14 []))))), [.gone, .gone, (.arr 71 3 (List.length a17_2) (flatD enc_GChange a17_2))], 0⟩ ?_
   refine AWP.text ?_
   refine Wy (.i y4_0) [] (Omv rfl) ?_
   refine Wy (.i (IntKind.i64.wrap (y4_0 + 1))) [] (Obn rfl (fun _ => hb_add (k := .i64))) ?_
   refine Wy (.i (IntKind.i64.wrap (y4_0 + 1))) [] (Omv rfl) ?_
   refine Walk.nil ?_
   refine RoundK.normal ?_
   exact Rounds.weak (Weak.toK 25 0 0 [2]) (ih_0 (fu_0, a17_2, (IntKind.i64.wrap (y4_0 + 1))) hm (Nat.lt_succ_self _))
  ·
   replace hm := cF hc8_3 hm
   refine AWP.if_ false (Eq.trans (by kernel_rfl) (lit_tf (b := decide (y4_0 < ((List.length p0 : Nat) : Int))) hc8_3)) ?_
   refine AWP.exit ?_
   refine Then.exit ?_
   refine RoundK.exit ?_
   refine InBlock.same ?_
   refine Then.normal ?_
   refine Amk 8 1 ⟨(tp 3 ((.own 0) :: (tp 15 []))), [(.arr 71 3 (List.length y3_0) (flatD enc_GChange y3_0))], 0⟩ ?_
   refine AWP.seq ?_
   refine AWP.text ?_
   refine Wy (.own 0) [] (Omv rfl) ?_
   refine Wy (.own 0) [] (Omv rfl) ?_
   refine Walk.nil ?_
   refine Then.normal ?_
   refine AWP.ret ?_
   obtain rfl := Option.some.inj hm
   exact ret_i [0]

set_option maxRecDepth 20000 in
set_option maxHeartbeats 4000000 in
theorem ok_telltaleref26_Same (p0 : (List GChange)) (p1 : (List GChange)) (r : Bool) (h : m_telltaleref26_Same p0 p1 = some r) : GCall Try.prog 16 [(.l enc_GChange p0), (.l enc_GChange p1)] [] (.b r) [] := by
 refine GCall.of_body (n := 26) (rs := [(.tmp 4)]) Try.func16 rfl rfl rfl ?_
 refine Ato ⟨((.l enc_GChange p0) :: ((.l enc_GChange p1) :: (tu 24 []))), [], 0⟩ ?_
 have hm := h
 unfold m_telltaleref26_Same at hm
 refine AWP.seq ?_
 refine AWP.text ?_
 refine Wy (.b false) [] (Omv rfl) ?_
 refine Walk.nil ?_
 refine Then.normal ?_
 refine Amk 3 0 ⟨((.l enc_GChange p0) :: ((.l enc_GChange p1) :: (tp 24 []))), [], 0⟩ ?_
 refine AWP.seq ?_
 refine AWP.seq ?_
 refine AWP.text ?_
 refine Wy (.l enc_GChange p0) [] (Omv rfl) ?_
 refine Wy (.i ((List.length p0 : Nat) : Int)) [] (Oln rfl) ?_
 refine Wy (.l enc_GChange p1) [] (Omv rfl) ?_
 refine Wy (.i ((List.length p1 : Nat) : Int)) [] (Oln rfl) ?_
 refine Wy (.b (decide (((List.length p0 : Nat) : Int) ≠ ((List.length p1 : Nat) : Int)))) [] (Obn rfl (fun _ => hb_neq (k := .i64))) ?_
 refine Walk.nil ?_
 refine Then.normal ?_
 refine Amk 1027 0 ⟨((.l enc_GChange p0) :: ((.l enc_GChange p1) :: (tp 8 ((.b (decide (((List.length p0 : Nat) : Int) ≠ ((List.length p1 : Nat) : Int)))) :: (tp 15 []))))), [], 0⟩ ?_
 rcases tf_ (decide (((List.length p0 : Nat) : Int) ≠ ((List.length p1 : Nat) : Int))) with hc10_4 | hc10_4
 ·
  replace hm := cT hc10_4 hm
  refine AWP.if_ true (Eq.trans (by kernel_rfl) (lit_tf (b := decide (((List.length p0 : Nat) : Int) ≠ ((List.length p1 : Nat) : Int))) hc10_4)) ?_
  refine AWP.seq ?_
  refine AWP.text ?_
  refine Wy (.b false) [] (Omv rfl) ?_
  refine Walk.nil ?_
  refine Then.normal ?_
  refine AWP.ret ?_
  refine Then.ret ?_
  obtain rfl := Option.some.inj hm
  exact ret_i []
 ·
  replace hm := cF hc10_4 hm
  refine AWP.if_ false (Eq.trans (by kernel_rfl) (lit_tf (b := decide (((List.length p0 : Nat) : Int) ≠ ((List.length p1 : Nat) : Int))) hc10_4)) ?_
  refine AWP.skip ?_
  refine Then.normal ?_
  refine Amk 3 0 ⟨((.l enc_GChange p0) :: ((.l enc_GChange p1) :: (tp 24 []))), [], 0⟩ ?_
  refine AWP.seq ?_
  refine AWP.seq ?_
  refine AWP.text ?_
  refine Wy (.i 0) [] (Omv rfl) ?_
  refine Walk.nil ?_
  refine Then.normal ?_
  refine Amk 35 0 ⟨((.l enc_GChange p0) :: ((.l enc_GChange p1) :: (tp 3 ((.i 0) :: (tp 20 []))))), [], 0⟩ ?_
  refine AWP.block ?_
  refine AWP.loopI (α := Nat × Int)
    (fun x => match x with | (fu_1, y5_1) => (⟨((.l enc_GChange p0) :: ((.l enc_GChange p1) :: (tp 3 ((.i y5_1) :: (tp 20 []))))), [], 0⟩ : St))
    (fun x => match x with | (fu_1, y5_1) => m_telltaleref26_Same_l1 p0 p1 fu_1 y5_1 = some r)
    (fun x => match x with | (fu_1, y5_1) => fu_1) (1152921504606846976, 0)
    (Weak.toK 35 0 0 []) hm ?_
  rintro ⟨fu_1, y5_1⟩ n_1 hm ih_1
  try dsimp only at hm ih_1 ⊢
  cases fu_1 with
  | zero => exact absurd hm (by unfold m_telltaleref26_Same_l1; simp)
  | succ fu_1 =>
   unfold m_telltaleref26_Same_l1 at hm
   refine AWP.seq ?_
   refine AWP.seq ?_
   refine AWP.text ?_
   refine Wy (.i y5_1) [] (Omv rfl) ?_
   refine Wy (.l enc_GChange p0) [] (Omv rfl) ?_
   refine Wy (.i ((List.length p0 : Nat) : Int)) [] (Oln rfl) ?_
   refine Wy (.b (decide (y5_1 < ((List.length p0 : Nat) : Int)))) [] (Obn rfl (fun _ => hb_lss (k := .i64))) ?_
   refine Walk.nil ?_
   refine Then.normal ?_
   refine Amk 16419 0 ⟨((.l enc_GChange p0) :: ((.l enc_GChange p1) :: (tp 3 ((.i y5_1) :: (tp 8 ((.b (decide (y5_1 < ((List.length p0 : Nat) : Int)))) :: (tp 11 []))))))), [], 0⟩ ?_
   rcases tf_ (decide (y5_1 < ((List.length p0 : Nat) : Int))) with hc14_5 | hc14_5
   ·
    replace hm := cT hc14_5 hm
    refine AWP.if_ true (Eq.trans (by kernel_rfl) (lit_tf (b := decide (y5_1 < ((List.length p0 : Nat) : Int))) hc14_5)) ?_
    refine AWP.skip ?_
    refine Then.normal ?_
    refine Amk 35 0 ⟨((.l enc_GChange p0) :: ((.l enc_GChange p1) :: (tp 3 ((.i y5_1) :: (tp 20 []))))), [], 0⟩ ?_
    refine AWP.seq ?_
    refine AWP.block ?_
    refine AWP.seq ?_
    refine Adr ?_
    refine Wy (.l enc_GChange p0) [] (Omv rfl) ?_
    refine Wy (.i y5_1) [] (Omv rfl) ?_
    obtain ⟨x19_3, hx19_3, hm⟩ := bnd hm
    obtain ⟨hx19_3i, hx19_3g⟩ := geti_some hx19_3
    refine Wy (.d (.ref (List.drop ((Int.toNat y5_1) * 3) (flatD enc_GChange p0)))) [] (Oia rfl enc_GChange_len hx19_3i hx19_3g) ?_
    refine Wy (.agg [(.i x19_3.Loc), (.i x19_3.Time), (.i x19_3.N)]) [] (Lf rfl enc_GChange_len hx19_3g) ?_
    refine Wy (.l enc_GChange p1) [] (Omv rfl) ?_
    refine Wy (.i y5_1) [] (Omv rfl) ?_
    obtain ⟨x23_3, hx23_3, hm⟩ := bnd hm
    obtain ⟨hx23_3i, hx23_3g⟩ := geti_some hx23_3
    refine Wy (.d (.ref (List.drop ((Int.toNat y5_1) * 3) (flatD enc_GChange p1)))) [] (Oia rfl enc_GChange_len hx23_3i hx23_3g) ?_
    refine Wy (.agg [(.i x23_3.Loc), (.i x23_3.Time), (.i x23_3.N)]) [] (Lf rfl enc_GChange_len hx23_3g) ?_
    obtain ⟨v25_3, hv25_3, hm⟩ := bnd hm; replace hv25_3 := Option.some.inj hv25_3
    refine Wy (.b v25_3) [] (Ocs (Eq.trans (by kernel_rfl) (congrArg (fun z => A.d (.lit (.bool z))) hv25_3)) (op_neq_struct rfl (la := [(.i x19_3.Loc), (.i x19_3.Time), (.i x19_3.N)]) (lb := [(.i x23_3.Loc), (.i x23_3.Time), (.i x23_3.N)]) (us := [.int .i64 x19_3.Loc, .int .i64 x19_3.Time, .int .i64 x19_3.N]) (vs := [.int .i64 x23_3.Loc, .int .i64 x23_3.Time, .int .i64 x23_3.N]) (r := (decide (x19_3.Loc = x23_3.Loc) && (decide (x19_3.Time = x23_3.Time) && (decide (x19_3.N = x23_3.N) && true)))) (by kernel_rfl) (by kernel_rfl) (by kernel_rfl) (by kernel_rfl) (by kernel_rfl))) ?_
    refine Wdr ?_
    refine Then.normal ?_
    refine Amk 33554467 0 ⟨((.l enc_GChange p0) :: ((.l enc_GChange p1) :: (tp 3 ((.i y5_1) :: (tp 19 ((.b v25_3) :: [])))))), [], 0⟩ ?_
    rcases tf_ v25_3 with hc25_6 | hc25_6
    ·
     replace hm := cT hc25_6 hm
     refine AWP.if_ true (Eq.trans (by kernel_rfl) (lit_tf (b := v25_3) hc25_6)) ?_
     refine AWP.seq ?_
     refine AWP.text ?_
     refine Wy (.b false) [] (Omv rfl) ?_
     refine Walk.nil ?_
     refine Then.normal ?_
     refine AWP.ret ?_
     refine InBlock.ret ?_
     refine Then.ret ?_
     refine RoundK.ret ?_
     refine InBlock.ret ?_
     refine Then.ret ?_
     obtain rfl := Option.some.inj hm
     exact ret_i []
    ·
     replace hm := cF hc25_6 hm
     refine AWP.if_ false (Eq.trans (by kernel_rfl) (lit_tf (b := v25_3) hc25_6)) ?_
     refine AWP.skip ?_
     refine InBlock.normal ?_
     refine Then.normal ?_
     refine Amk 35 0 ⟨((.l enc_GChange p0) :: ((.l enc_GChange p1) :: (tp 3 ((.i y5_1) :: (tp 20 []))))), [], 0⟩ ?_
     refine AWP.text ?_
     refine Wy (.i y5_1) [] (Omv rfl) ?_
     refine Wy (.i (IntKind.i64.wrap (y5_1 + 1))) [] (Obn rfl (fun _ => hb_add (k := .i64))) ?_
     refine Wy (.i (IntKind.i64.wrap (y5_1 + 1))) [] (Omv rfl) ?_
     refine Walk.nil ?_
     refine RoundK.normal ?_
     exact Rounds.weak (Weak.toK 35 0 0 []) (ih_1 (fu_1, (IntKind.i64.wrap (y5_1 + 1))) hm (Nat.lt_succ_self _))
   ·
    replace hm := cF hc14_5 hm
    refine AWP.if_ false (Eq.trans (by kernel_rfl) (lit_tf (b := decide (y5_1 < ((List.length p0 : Nat) : Int))) hc14_5)) ?_
    refine AWP.exit ?_
    refine Then.exit ?_
    refine RoundK.exit ?_
    refine InBlock.same ?_
    refine Then.normal ?_
    refine Amk 0 0 ⟨(tp 26 []), [], 0⟩ ?_
    refine AWP.seq ?_
    refine AWP.text ?_
    refine Wy (.b true) [] (Omv rfl) ?_
    refine Walk.nil ?_
    refine Then.normal ?_
    refine AWP.ret ?_
    obtain rfl := Option.some.inj hm
    exact ret_i []

set_option maxRecDepth 20000 in
set_option maxHeartbeats 4000000 in
theorem ok_telltaleref28_May (p0 : (List GLeave)) (p1 : Int) (p2 : Int) (r : Bool) (h : m_telltaleref28_May p0 p1 p2 = some r) : GCall Try.prog 19 [(.l enc_GLeave p0), (.i p1), (.i p2)] [] (.b r) [] := by
 refine GCall.of_body (n := 37) (rs := [(.tmp 6)]) Try.func19 rfl rfl rfl ?_
 refine Ato ⟨((.l enc_GLeave p0) :: ((.i p1) :: ((.i p2) :: (tu 34 [])))), [], 0⟩ ?_
 have hm := h
 unfold m_telltaleref28_May at hm
 refine AWP.seq ?_
 refine AWP.text ?_
 refine Wy (.b false) [] (Omv rfl) ?_
 refine Walk.nil ?_
 refine Then.normal ?_
 refine Amk 7 0 ⟨((.l enc_GLeave p0) :: ((.i p1) :: ((.i p2) :: (tp 34 [])))), [], 0⟩ ?_
 refine AWP.seq ?_
 refine AWP.seq ?_
 refine AWP.text ?_
 refine Wy (.i 0) [] (Omv rfl) ?_
 refine Walk.nil ?_
 refine Then.normal ?_
 refine Amk 135 0 ⟨((.l enc_GLeave p0) :: ((.i p1) :: ((.i p2) :: (tp 4 ((.i 0) :: (tp 29 [])))))), [], 0⟩ ?_
 refine AWP.block ?_
 refine AWP.loopI (α := Nat × Int)
   (fun x => match x with | (fu_0, y7_0) => (⟨((.l enc_GLeave p0) :: ((.i p1) :: ((.i p2) :: (tp 4 ((.i y7_0) :: (tp 29 [])))))), [], 0⟩ : St))
   (fun x => match x with | (fu_0, y7_0) => m_telltaleref28_May_l0 p0 p1 p2 fu_0 y7_0 = some r)
   (fun x => match x with | (fu_0, y7_0) => fu_0) (1152921504606846976, 0)
   (Weak.toK 135 0 0 []) hm ?_
 rintro ⟨fu_0, y7_0⟩ n_0 hm ih_0
 try dsimp only at hm ih_0 ⊢
 cases fu_0 with
 | zero => exact absurd hm (by unfold m_telltaleref28_May_l0; simp)
 | succ fu_0 =>
  unfold m_telltaleref28_May_l0 at hm
  refine AWP.seq ?_
  refine AWP.seq ?_
  refine AWP.text ?_
  refine Wy (.i y7_0) [] (Omv rfl) ?_
  refine Wy (.l enc_GLeave p0) [] (Omv rfl) ?_
  refine Wy (.i ((List.length p0 : Nat) : Int)) [] (Oln rfl) ?_
  refine Wy (.b (decide (y7_0 < ((List.length p0 : Nat) : Int)))) [] (Obn rfl (fun _ => hb_lss (k := .i64))) ?_
  refine Walk.nil ?_
  refine Then.normal ?_
  refine Amk 2183 0 ⟨((.l enc_GLeave p0) :: ((.i p1) :: ((.i p2) :: (tp 4 ((.i y7_0) :: (tp 3 ((.b (decide (y7_0 < ((List.length p0 : Nat) : Int)))) :: (tp 25 [])))))))), [], 0⟩ ?_
  rcases tf_ (decide (y7_0 < ((List.length p0 : Nat) : Int))) with hc11_4 | hc11_4
  ·
   replace hm := cT hc11_4 hm
   refine AWP.if_ true (Eq.trans (by kernel_rfl) (lit_tf (b := decide (y7_0 < ((List.length p0 : Nat) : Int))) hc11_4)) ?_
   refine AWP.skip ?_
   refine Then.normal ?_
   refine Amk 135 0 ⟨((.l enc_GLeave p0) :: ((.i p1) :: ((.i p2) :: (tp 4 ((.i y7_0) :: (tp 29 [])))))), [], 0⟩ ?_
   refine AWP.seq ?_
   refine AWP.block ?_
   refine AWP.cutJ (α := Unit) (fun x => match x with | () => (⟨((.l enc_GLeave p0) :: ((.i p1) :: ((.i p2) :: (tp 4 ((.i y7_0) :: (tp 28 ((.b false) :: []))))))), [], 0⟩ : St)) (fun x => match x with | () => m_telltaleref28_May_j3 y7_0 (fun y7_0 => m_telltaleref28_May_l0 p0 p1 p2 fu_0 y7_0) = some r) ?_ (fun J3 => ?_)
   ·
    rintro ⟨⟩ hm
    try dsimp only at hm ⊢
    unfold m_telltaleref28_May_j3 at hm
    refine AWP.if_ false (by kernel_rfl) ?_
    refine AWP.skip ?_
    refine InBlock.normal ?_
    refine Then.normal ?_
    refine Amk 135 0 ⟨((.l enc_GLeave p0) :: ((.i p1) :: ((.i p2) :: (tp 4 ((.i y7_0) :: (tp 29 [])))))), [], 0⟩ ?_
    refine AWP.text ?_
    refine Wy (.i y7_0) [] (Omv rfl) ?_
    refine Wy (.i (IntKind.i64.wrap (y7_0 + 1))) [] (Obn rfl (fun _ => hb_add (k := .i64))) ?_
    refine Wy (.i (IntKind.i64.wrap (y7_0 + 1))) [] (Omv rfl) ?_
    refine Walk.nil ?_
    refine RoundK.normal ?_
    exact Rounds.weak (Weak.toK 135 0 0 []) (ih_0 (fu_0, (IntKind.i64.wrap (y7_0 + 1))) hm (Nat.lt_succ_self _))
   refine AWP.seq ?_
   refine AWP.text ?_
   refine Wy (.l enc_GLeave p0) [] (Omv rfl) ?_
   refine Wy (.i y7_0) [] (Omv rfl) ?_
   obtain ⟨x16_2, hx16_2, hm⟩ := bnd hm
   obtain ⟨hx16_2i, hx16_2g⟩ := geti_some hx16_2
   refine Wy (.d (.ref (List.drop ((Int.toNat y7_0) * 3) (flatD enc_GLeave p0)))) [] (Oia rfl enc_GLeave_len hx16_2i hx16_2g) ?_
   refine Wy (.d (.ref (List.drop 2 (List.drop ((Int.toNat y7_0) * 3) (flatD enc_GLeave p0))))) [] (Ofa rfl) ?_
   refine Wy (.b x16_2.Held) [] (Lfk1 2 rfl enc_GLeave_len hx16_2g) ?_
   rcases tf_ x16_2.Held with hq19_2 | hq19_2
   ·
    replace hm := cT hq19_2 hm
    refine Wy (.b true) [] (Ocs (lit_tf (b := x16_2.Held) hq19_2) (Omv rfl)) ?_
    refine Wy (.l enc_GLeave p0) [] (Omv rfl) ?_
    refine Wy (.i y7_0) [] (Omv rfl) ?_
    obtain ⟨x22_2, hx22_2, hm⟩ := bnd hm
    obtain ⟨hx22_2i, hx22_2g⟩ := geti_some hx22_2
    refine Wy (.d (.ref (List.drop ((Int.toNat y7_0) * 3) (flatD enc_GLeave p0)))) [] (Oia rfl enc_GLeave_len hx22_2i hx22_2g) ?_
    refine Wy (.d (.ref (List.drop ((Int.toNat y7_0) * 3) (flatD enc_GLeave p0)))) [] (Ofa rfl) ?_
    refine Wy (.i x22_2.Loc) [] (Lf1 rfl enc_GLeave_len hx22_2g) ?_
    refine Wy (.i p1) [] (Omv rfl) ?_
    refine Wy (.b (decide (x22_2.Loc = p1))) [] (Obn rfl (fun _ => hb_eql (k := .i64))) ?_
    refine Wy (.b (decide (x22_2.Loc = p1))) [] (OpT rfl) ?_
    rcases tf_ (decide (x22_2.Loc = p1)) with hq28_2 | hq28_2
    ·
     replace hm := cT hq28_2 hm
     refine Wy (.b true) [] (Ocs (lit_tf (b := decide (x22_2.Loc = p1)) hq28_2) (Omv rfl)) ?_
     refine Wy (.l enc_GLeave p0) [] (Omv rfl) ?_
     refine Wy (.i y7_0) [] (Omv rfl) ?_
     obtain ⟨x31_2, hx31_2, hm⟩ := bnd hm
     obtain ⟨hx31_2i, hx31_2g⟩ := geti_some hx31_2
     refine Wy (.d (.ref (List.drop ((Int.toNat y7_0) * 3) (flatD enc_GLeave p0)))) [] (Oia rfl enc_GLeave_len hx31_2i hx31_2g) ?_
     refine Wy (.d (.ref (List.drop 1 (List.drop ((Int.toNat y7_0) * 3) (flatD enc_GLeave p0))))) [] (Ofa rfl) ?_
     refine Wy (.i x31_2.Time) [] (Lfk1 1 rfl enc_GLeave_len hx31_2g) ?_
     refine Wy (.i p2) [] (Omv rfl) ?_
     refine Wy (.b (decide (x31_2.Time ≤ p2))) [] (Obn rfl (fun _ => hb_leq (k := .i64))) ?_
     refine Wy (.b (decide (x31_2.Time ≤ p2))) [] (OpT rfl) ?_
     refine Walk.nil ?_
     refine Then.normal ?_
     refine Amk 68719476871 0 ⟨((.l enc_GLeave p0) :: ((.i p1) :: ((.i p2) :: (tp 4 ((.i y7_0) :: (tp 28 ((.b (decide (x31_2.Time ≤ p2))) :: []))))))), [], 0⟩ ?_
     rcases tf_ (decide (x31_2.Time ≤ p2)) with hc36_5 | hc36_5
     ·
      replace hm := cT hc36_5 hm
      refine AWP.if_ true (Eq.trans (by kernel_rfl) (lit_tf (b := decide (x31_2.Time ≤ p2)) hc36_5)) ?_
      refine AWP.seq ?_
      refine AWP.text ?_
      refine Wy (.b true) [] (Omv rfl) ?_
      refine Walk.nil ?_
      refine Then.normal ?_
      refine AWP.ret ?_
      refine InBlock.ret ?_
      refine Then.ret ?_
      refine RoundK.ret ?_
      refine InBlock.ret ?_
      refine Then.ret ?_
      obtain rfl := Option.some.inj hm
      exact ret_i []
     ·
      replace hm := cF hc36_5 hm
      refine AWP.if_ false (Eq.trans (by kernel_rfl) (lit_tf (b := decide (x31_2.Time ≤ p2)) hc36_5)) ?_
      refine AWP.skip ?_
      refine InBlock.normal ?_
      refine Then.normal ?_
      refine Amk 135 0 ⟨((.l enc_GLeave p0) :: ((.i p1) :: ((.i p2) :: (tp 4 ((.i y7_0) :: (tp 29 [])))))), [], 0⟩ ?_
      refine AWP.text ?_
      refine Wy (.i y7_0) [] (Omv rfl) ?_
      refine Wy (.i (IntKind.i64.wrap (y7_0 + 1))) [] (Obn rfl (fun _ => hb_add (k := .i64))) ?_
      refine Wy (.i (IntKind.i64.wrap (y7_0 + 1))) [] (Omv rfl) ?_
      refine Walk.nil ?_
      refine RoundK.normal ?_
      exact Rounds.weak (Weak.toK 135 0 0 []) (ih_0 (fu_0, (IntKind.i64.wrap (y7_0 + 1))) hm (Nat.lt_succ_self _))
    ·
     replace hm := cF hq28_2 hm
     refine Wy (.b false) [] (Ocs (lit_tf (b := decide (x22_2.Loc = p1)) hq28_2) (Omv rfl)) ?_
     refine Wn ?_
     refine Wn ?_
     refine Wn ?_
     refine Wn ?_
     refine Wn ?_
     refine Wn ?_
     refine Wn ?_
     refine Wy (.b false) [] (OpF rfl) ?_
     refine Walk.nil ?_
     refine Then.normal ?_
     exact AWP.weak (Weak.toK 68719476871 0 0 []) (J3 () hm)
   ·
    replace hm := cF hq19_2 hm
    refine Wy (.b false) [] (Ocs (lit_tf (b := x16_2.Held) hq19_2) (Omv rfl)) ?_
    refine Wn ?_
    refine Wn ?_
    refine Wn ?_
    refine Wn ?_
    refine Wn ?_
    refine Wn ?_
    refine Wn ?_
    refine Wy (.b false) [] (OpF rfl) ?_
    refine Wy (.b false) [] (Omv rfl) ?_
    refine Wn ?_
    refine Wn ?_
    refine Wn ?_
    refine Wn ?_
    refine Wn ?_
    refine Wn ?_
    refine Wn ?_
    refine Wy (.b false) [] (OpF rfl) ?_
    refine Walk.nil ?_
    refine Then.normal ?_
    exact AWP.weak (Weak.toK 68719476871 0 0 []) (J3 () hm)
  ·
   replace hm := cF hc11_4 hm
   refine AWP.if_ false (Eq.trans (by kernel_rfl) (lit_tf (b := decide (y7_0 < ((List.length p0 : Nat) : Int))) hc11_4)) ?_
   refine AWP.exit ?_
   refine Then.exit ?_
   refine RoundK.exit ?_
   refine InBlock.same ?_
   refine Then.normal ?_
   refine Amk 0 0 ⟨(tp 37 []), [], 0⟩ ?_
   refine AWP.seq ?_
   refine AWP.text ?_
   refine Wy (.b false) [] (Omv rfl) ?_
   refine Walk.nil ?_
   refine Then.normal ?_
   refine AWP.ret ?_
   obtain rfl := Option.some.inj hm
   exact ret_i []

set_option maxRecDepth 20000 in
set_option maxHeartbeats 4000000 in
theorem ok_telltaleref28_Tally (p0 : (List GLeave)) (r : (List GChange)) (h : m_telltaleref28_Tally p0 = some r) : GCall Try.prog 21 [(.l enc_GLeave p0)] [] (.own 0) [(.arr 71 3 (List.length r) (flatD enc_GChange r))] := by
 refine GCall.of_body (n := 32) (rs := [(.tmp 2)]) Try.func21 rfl rfl rfl ?_
 refine Ato ⟨((.l enc_GLeave p0) :: (tu 31 [])), [], 0⟩ ?_
 have hm := h
 unfold m_telltaleref28_Tally at hm
 refine AWP.seq ?_
 refine AWP.text ?_
 refine Wy (.d .nil) [] (Omv rfl) ?_
 refine Walk.nil ?_
 refine Then.normal ?_
 refine Amk 1 0 ⟨((.l enc_GLeave p0) :: (tp 31 [])), [], 0⟩ ?_
 refine AWP.seq ?_
 refine AWP.text ?_
 refine Wy (.d .nil) [] (Omv rfl) ?_
 refine Walk.nil ?_
 refine Then.normal ?_
 refine Amk 9 0 ⟨((.l enc_GLeave p0) :: (tp 2 ((.d .nil) :: (tp 28 [])))), [], 0⟩ ?_
 refine AWP.seq ?_
 refine AWP.seq ?_
 refine AWP.text ?_
 refine Wy (.i 0) [] (Omv rfl) ?_
 refine Walk.nil ?_
 refine Then.normal ?_
 refine Amk 25 0 ⟨((.l enc_GLeave p0) :: (tp 2 ((.d .nil) :: ((.i 0) :: (tp 27 []))))), [], 0⟩ ?_
 refine AWP.block ?_
 refine Aow 3 71 3 ⟨((.l enc_GLeave p0) :: (tp 2 ((.own 0) :: ((.i 0) :: (tp 27 []))))), [(.arr 71 3 (List.length ([] : List GChange)) (flatD enc_GChange ([] : List GChange)))], 0⟩ ?_
 refine AWP.loopI (α := Nat × (List GChange) × Int)
   (fun x => match x with | (fu_0, y3_0, y4_0) => (⟨((.l enc_GLeave p0) :: (tp 2 ((.own 0) :: ((.i y4_0) :: (tp 27 []))))), [(.arr 71 3 (List.length y3_0) (flatD enc_GChange y3_0))], 0⟩ : St))
   (fun x => match x with | (fu_0, y3_0, y4_0) => m_telltaleref28_Tally_l0 p0 fu_0 y3_0 y4_0 = some r)
   (fun x => match x with | (fu_0, y3_0, y4_0) => fu_0) (1152921504606846976, ([] : List GChange), 0)
   (Weak.toK 25 0 0 [0]) hm ?_
 rintro ⟨fu_0, y3_0, y4_0⟩ n_0 hm ih_0
 try dsimp only at hm ih_0 ⊢
 cases fu_0 with
 | zero => exact absurd hm (by unfold m_telltaleref28_Tally_l0; simp)
 | succ fu_0 =>
  unfold m_telltaleref28_Tally_l0 at hm
  refine AWP.seq ?_
  refine AWP.seq ?_
  refine AWP.text ?_
  refine Wy (.i y4_0) [] (Omv rfl) ?_
  refine Wy (.l enc_GLeave p0) [] (Omv rfl) ?_
  refine Wy (.i ((List.length p0 : Nat) : Int)) [] (Oln rfl) ?_
  refine Wy (.b (decide (y4_0 < ((List.length p0 : Nat) : Int)))) [] (Obn rfl (fun _ => hb_lss (k := .i64))) ?_
  refine Walk.nil ?_
  refine Then.normal ?_
  refine Amk 281 1 ⟨((.l enc_GLeave p0) :: (tp 2 ((.own 0) :: ((.i y4_0) :: (tp 3 ((.b (decide (y4_0 < ((List.length p0 : Nat) : Int)))) :: (tp 23 []))))))), [(.arr 71 3 (List.length y3_0) (flatD enc_GChange y3_0))], 0⟩ ?_
  rcases tf_ (decide (y4_0 < ((List.length p0 : Nat) : Int))) with hc8_5 | hc8_5
  ·
   replace hm := cT hc8_5 hm
   refine AWP.if_ true (Eq.trans (by kernel_rfl) (lit_tf (b := decide (y4_0 < ((List.length p0 : Nat) : Int))) hc8_5)) ?_
   refine AWP.skip ?_
   refine Then.normal ?_
   refine Amk 25 1 ⟨((.l enc_GLeave p0) :: (tp 2 ((.own 0) :: ((.i y4_0) :: (tp 27 []))))), [(.arr 71 3 (List.length y3_0) (flatD enc_GChange y3_0))], 0⟩ ?_
   refine AWP.seq ?_
   refine AWP.block ?_
   refine AWP.seq ?_
   refine AWP.text ?_
   refine Wy (.l enc_GLeave p0) [] (Omv rfl) ?_
   refine Wy (.i y4_0) [] (Omv rfl) ?_
   obtain ⟨x13_2, hx13_2, hm⟩ := bnd hm
   obtain ⟨hx13_2i, hx13_2g⟩ := geti_some hx13_2
   refine Wy (.d (.ref (List.drop ((Int.toNat y4_0) * 3) (flatD enc_GLeave p0)))) [] (Oia rfl enc_GLeave_len hx13_2i hx13_2g) ?_
   refine Wy (.d (.ref (List.drop 2 (List.drop ((Int.toNat y4_0) * 3) (flatD enc_GLeave p0))))) [] (Ofa rfl) ?_
   refine Wy (.b x13_2.Held) [] (Lfk1 2 rfl enc_GLeave_len hx13_2g) ?_
   refine Walk.nil ?_
   refine Then.normal ?_
   refine Amk 32793 1 ⟨((.l enc_GLeave p0) :: (tp 2 ((.own 0) :: ((.i y4_0) :: (tp 10 ((.b x13_2.Held) :: (tp 16 []))))))), [(.arr 71 3 (List.length y3_0) (flatD enc_GChange y3_0))], 0⟩ ?_
   rcases tf_ x13_2.Held with hc15_6 | hc15_6
   ·
    replace hm := cT hc15_6 hm
    refine AWP.if_ true (Eq.trans (by kernel_rfl) (lit_tf (b := x13_2.Held) hc15_6)) ?_
    refine Adr ?_
    refine Wy (.own 0) [] (Omv rfl) ?_
    refine Wy (.l enc_GLeave p0) [] (Omv rfl) ?_
    refine Wy (.i y4_0) [] (Omv rfl) ?_
    obtain ⟨x19_3, hx19_3, hm⟩ := bnd hm
    obtain ⟨hx19_3i, hx19_3g⟩ := geti_some hx19_3
    refine Wy (.d (.ref (List.drop ((Int.toNat y4_0) * 3) (flatD enc_GLeave p0)))) [] (Oia rfl enc_GLeave_len hx19_3i hx19_3g) ?_
    refine Wy (.d (.ref (List.drop ((Int.toNat y4_0) * 3) (flatD enc_GLeave p0)))) [] (Ofa rfl) ?_
    refine Wy (.i x19_3.Loc) [] (Lf1 rfl enc_GLeave_len hx19_3g) ?_
    refine Wy (.l enc_GLeave p0) [] (Omv rfl) ?_
    refine Wy (.i y4_0) [] (Omv rfl) ?_
    obtain ⟨x24_3, hx24_3, hm⟩ := bnd hm
    obtain ⟨hx24_3i, hx24_3g⟩ := geti_some hx24_3
    refine Wy (.d (.ref (List.drop ((Int.toNat y4_0) * 3) (flatD enc_GLeave p0)))) [] (Oia rfl enc_GLeave_len hx24_3i hx24_3g) ?_
    refine Wy (.d (.ref (List.drop 1 (List.drop ((Int.toNat y4_0) * 3) (flatD enc_GLeave p0))))) [] (Ofa rfl) ?_
    refine Wy (.i x24_3.Time) [] (Lfk1 1 rfl enc_GLeave_len hx24_3g) ?_
    refine Wy (.agg [(.i x19_3.Loc), (.i x24_3.Time), (.i 1)]) [] (Obd rfl) ?_
    refine Wy (.own 1) [(1, (.arr 71 3 (List.length ([(GChange.mk x19_3.Loc x24_3.Time 1)] : List GChange)) (flatD enc_GChange ([(GChange.mk x19_3.Loc x24_3.Time 1)] : List GChange))))] (Obs rfl) ?_
    obtain ⟨a29_3, ha29_3, hm⟩ := bnd hm; obtain ⟨ha29_3e, ha29_3l⟩ := app_some ha29_3
    refine Wy (.own 2) [(0, .gone), (2, (.arr 71 3 (List.length a29_3) (flatD enc_GChange a29_3)))] (Oap rfl elemOK_32 enc_GChange_len ha29_3e ha29_3l) ?_
    refine Wy (.own 2) [] (Omv rfl) ?_
    refine Wdr ?_
    refine InBlock.normal ?_
    refine Then.normal ?_
    refine Amk 25 4 ⟨((.l enc_GLeave p0) :: (tp 2 ((.own 2) :: ((.i y4_0) :: (tp 27 []))))), [.gone, .gone, (.arr 71 3 (List.length a29_3) (flatD enc_GChange a29_3))], 0⟩ ?_
    refine AWP.text ?_
    refine Wy (.i y4_0) [] (Omv rfl) ?_
    refine Wy (.i (IntKind.i64.wrap (y4_0 + 1))) [] (Obn rfl (fun _ => hb_add (k := .i64))) ?_
    refine Wy (.i (IntKind.i64.wrap (y4_0 + 1))) [] (Omv rfl) ?_
    refine Walk.nil ?_
    refine RoundK.normal ?_
    exact Rounds.weak (Weak.toK 25 0 0 [2]) (ih_0 (fu_0, a29_3, (IntKind.i64.wrap (y4_0 + 1))) hm (Nat.lt_succ_self _))
   ·
    replace hm := cF hc15_6 hm
    refine AWP.if_ false (Eq.trans (by kernel_rfl) (lit_tf (b := x13_2.Held) hc15_6)) ?_
    refine AWP.skip ?_
    refine InBlock.normal ?_
    refine Then.normal ?_
    refine Amk 25 1 ⟨((.l enc_GLeave p0) :: (tp 2 ((.own 0) :: ((.i y4_0) :: (tp 27 []))))), [(.arr 71 3 (List.length y3_0) (flatD enc_GChange y3_0))], 0⟩ ?_
    refine AWP.text ?_
    refine Wy (.i y4_0) [] (Omv rfl) ?_
    refine Wy (.i (IntKind.i64.wrap (y4_0 + 1))) [] (Obn rfl (fun _ => hb_add (k := .i64))) ?_
    refine Wy (.i (IntKind.i64.wrap (y4_0 + 1))) [] (Omv rfl) ?_
    refine Walk.nil ?_
    refine RoundK.normal ?_
    exact Rounds.weak (Weak.toK 25 0 0 [0]) (ih_0 (fu_0, y3_0, (IntKind.i64.wrap (y4_0 + 1))) hm (Nat.lt_succ_self _))
  ·
   replace hm := cF hc8_5 hm
   refine AWP.if_ false (Eq.trans (by kernel_rfl) (lit_tf (b := decide (y4_0 < ((List.length p0 : Nat) : Int))) hc8_5)) ?_
   refine AWP.exit ?_
   refine Then.exit ?_
   refine RoundK.exit ?_
   refine InBlock.same ?_
   refine Then.normal ?_
   refine Amk 8 1 ⟨(tp 3 ((.own 0) :: (tp 28 []))), [(.arr 71 3 (List.length y3_0) (flatD enc_GChange y3_0))], 0⟩ ?_
   refine AWP.seq ?_
   refine AWP.text ?_
   refine Wy (.own 0) [] (Omv rfl) ?_
   obtain ⟨r31_4, hr31_4, hm⟩ := bnd hm
   refine Wy (.own 1) [(1, (.arr 71 3 (List.length r31_4) (flatD enc_GChange r31_4)))] (Ocp [] [1] [0] 0 (ok_telltaleref26_Normal y3_0 r31_4 hr31_4) (⟨by simp [A.Plain, A.Plains, D.Plain, byteD], plain_cons (flat_plain enc_GChange_plain) (plain_nil)⟩) (fun a w => Try.call36 a w) rfl trivial) ?_
   refine Wy (.own 1) [] (Omv rfl) ?_
   refine Walk.nil ?_
   refine Then.normal ?_
   refine AWP.ret ?_
   obtain rfl := Option.some.inj hm
   exact ret_i [1]
end Go.Proofs.Ytkamekhkkkeedaa.K
