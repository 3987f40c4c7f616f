/- each function computes what its model says (3) -/
import Derived.Test.YtlbajkdbbffefaaL2
namespace Go.Proofs.Ytlbajkdbbffefaa.K
open Go.RowKit Go.Lib
set_option linter.unusedVariables false
set_option linter.unusedSimpArgs false

set_option maxRecDepth 20000 in
set_option maxHeartbeats 4000000 in
theorem ok_telltalelaw21_awake (r : Bool) (h : m_telltalelaw21_awake = some r) : GCall Try.prog 7 [] [] (.d (.lit (.bool r))) [] := by
  refine GCall.of_body (n := 150) (rs := [(.tmp 0)]) Try.func7 rfl rfl rfl ?_
  refine Ato ⟨(tu 150 []), [], 0⟩ ?_
  have hm := h
  unfold m_telltalelaw21_awake at hm
  refine AWP.seq ?_
  refine AWP.text ?_
  refine Wy (.d (.lit (.bool false))) [] (Omv rfl) ?_
  refine Walk.nil ?_
  refine Then.normal ?_
  refine Amk 0 0 ⟨(tp 150 []), [], 0⟩ ?_
  refine AWP.seq ?_
  refine AWP.text ?_
  obtain ⟨r18_0, hr18_0, hm⟩ := bnd hm
  refine Wy (.tup [(.agg [(.d (.lit (.int .i64 r18_0.1.Cap))), (.d (.sl (List.length r18_0.1.L) (flatD enc_GRun r18_0.1.L)))]), (.d (.lit (.int .i64 r18_0.2)))]) [] (Ocf [] [] [] 0 (ok_runs_New 2 r18_0 hr18_0) (fun a w => Try.call12 a w) rfl trivial) ?_
  refine Wy (.tup [(.agg [(.d (.lit (.int .i64 r18_0.1.Cap))), (.d (.sl (List.length r18_0.1.L) (flatD enc_GRun r18_0.1.L)))]), (.d (.lit (.int .i64 r18_0.2)))]) [] (Omv rfl) ?_
  refine Wy (.agg [(.d (.lit (.int .i64 r18_0.1.Cap))), (.d (.sl (List.length r18_0.1.L) (flatD enc_GRun r18_0.1.L)))]) [] (Oex rfl) ?_
  refine Wy (.d (.lit (.int .i64 r18_0.2))) [] (Oex rfl) ?_
  refine Wy (.loc 0 0) [(0, (.box [(.d (.lit (.int .i64 0))), (.d .nil)]))] (Oal rfl) ?_
  refine Wy (.tup []) [(0, (.box [(.d (.lit (.int .i64 r18_0.1.Cap))), (.d (.sl (List.length r18_0.1.L) (flatD enc_GRun r18_0.1.L)))]))] (Ost rfl) ?_
  refine Wy (.d (.lit (.int .i64 r18_0.2))) [] (Omv rfl) ?_
  refine Walk.nil ?_
  refine Then.normal ?_
  refine Amk 6 1 ⟨(tp 1 ((.loc 0 0) :: ((.d (.lit (.int .i64 r18_0.2))) :: (tp 147 [])))), [(.box [(.d (.lit (.int .i64 r18_0.1.Cap))), (.d (.sl (List.length r18_0.1.L) (flatD enc_GRun r18_0.1.L)))])], 0⟩ ?_
  refine AWP.seq ?_
  refine AWP.text ?_
  obtain ⟨r22_1, hr22_1, hm⟩ := bnd hm
  refine Wy (.tup [(.agg [(.d (.lit (.int .i64 r22_1.1.Cap))), (.d (.sl (List.length r22_1.1.L) (flatD enc_GRun r22_1.1.L)))]), (.d (.lit (.int .i64 r22_1.2)))]) [] (Ocf [] [] [] 0 (ok_runs_New 0 r22_1 hr22_1) (fun a w => Try.call12 a w) rfl trivial) ?_
  refine Wy (.tup [(.agg [(.d (.lit (.int .i64 r22_1.1.Cap))), (.d (.sl (List.length r22_1.1.L) (flatD enc_GRun r22_1.1.L)))]), (.d (.lit (.int .i64 r22_1.2)))]) [] (Omv rfl) ?_
  refine Wy (.agg [(.d (.lit (.int .i64 r22_1.1.Cap))), (.d (.sl (List.length r22_1.1.L) (flatD enc_GRun r22_1.1.L)))]) [] (Oex rfl) ?_
  refine Wy (.d (.lit (.int .i64 r22_1.2))) [] (Oex rfl) ?_
  refine Wy (.loc 1 0) [(1, (.box [(.d (.lit (.int .i64 0))), (.d .nil)]))] (Oal rfl) ?_
  refine Wy (.tup []) [(1, (.box [(.d (.lit (.int .i64 r22_1.1.Cap))), (.d (.sl (List.length r22_1.1.L) (flatD enc_GRun r22_1.1.L)))]))] (Ost rfl) ?_
  refine Wy (.d (.lit (.int .i64 r22_1.2))) [] (Omv rfl) ?_
  refine Walk.nil ?_
  refine Then.normal ?_
  refine Amk 22 1 ⟨(tp 1 ((.loc 0 0) :: ((.d (.lit (.int .i64 r18_0.2))) :: (tp 1 ((.d (.lit (.int .i64 r22_1.2))) :: (tp 145 [])))))), [(.box [(.d (.lit (.int .i64 r18_0.1.Cap))), (.d (.sl (List.length r18_0.1.L) (flatD enc_GRun r18_0.1.L)))]), .gone], 0⟩ ?_
  refine AWP.seq ?_
  refine Adr ?_
  refine Wy (.agg [(.d (.lit (.int .i64 r18_0.1.Cap))), (.d (.sl (List.length r18_0.1.L) (flatD enc_GRun r18_0.1.L)))]) [] (Old rfl) ?_
  obtain ⟨r27_2, hr27_2, hm⟩ := bnd hm
  refine Wy (.own 2) [(2, (.arr 93 6 (List.length r27_2) (flatD enc_GPair r27_2)))] (Ocf [] [2] [] 0 (ok_telltalelaw21_at 4 r27_2 hr27_2) (fun a w => Try.call27 a w) rfl trivial) ?_
  refine Wy (.agg [(.d (.lit (.int .i64 1))), (.own 2), (.d (.lit (.int .u32 0)))]) [] (Obd rfl) ?_
  obtain ⟨r29_2, hr29_2, hm⟩ := bnd hm
  refine Wy (.tup [(.agg [(.d (.lit (.int .i64 r29_2.1.Cap))), (.own 3)]), (.d (.lit (.int .i64 r29_2.2)))]) [(3, (.arr 42 3 (List.length r29_2.1.L) (flatD enc_GRun r29_2.1.L))), (2, (.fro 93 6 (List.length r27_2) (flatD enc_GPair r27_2)))] (Ocf [] [3] [2] 0 (ok_runs_Runs_Add r18_0.1 (GRun.mk 1 r27_2 0) r29_2 hr29_2) (fun a w => Try.call9 a w) rfl trivial) ?_
  refine Wy (.tup [(.agg [(.d (.lit (.int .i64 r29_2.1.Cap))), (.own 3)]), (.d (.lit (.int .i64 r29_2.2)))]) [] (Omv rfl) ?_
  refine Wy (.agg [(.d (.lit (.int .i64 r29_2.1.Cap))), (.own 3)]) [] (Oex rfl) ?_
  refine Wy (.d (.lit (.int .i64 r29_2.2))) [] (Oex rfl) ?_
  refine Wy (.loc 4 0) [(4, (.box [(.d (.lit (.int .i64 0))), (.d .nil)]))] (Oal rfl) ?_
  refine Wy (.tup []) [(4, (.box [(.d (.lit (.int .i64 r29_2.1.Cap))), (.own 3)]))] (Ost rfl) ?_
  refine Wy (.d (.lit (.int .i64 r29_2.2))) [] (Omv rfl) ?_
  refine Wdr ?_
  refine Then.normal ?_
  refine Amk 116 24 ⟨(tp 2 ((.d (.lit (.int .i64 r18_0.2))) :: (tp 1 ((.d (.lit (.int .i64 r22_1.2))) :: ((.loc 4 0) :: ((.d (.lit (.int .i64 r29_2.2))) :: (tp 143 []))))))), [.gone, .gone, .gone, (.arr 42 3 (List.length r29_2.1.L) (flatD enc_GRun r29_2.1.L)), (.box [(.d (.lit (.int .i64 r29_2.1.Cap))), (.own 3)])], 0⟩ ?_
  refine AWP.seq ?_
  refine Adr ?_
  refine Wy (.agg [(.d (.lit (.int .i64 r29_2.1.Cap))), (.own 3)]) [] (Old rfl) ?_
  obtain ⟨r34_3, hr34_3, hm⟩ := bnd hm
  refine Wy (.own 5) [(5, (.arr 93 6 (List.length r34_3) (flatD enc_GPair r34_3)))] (Ocf [] [5] [] 0 (ok_telltalelaw21_at 5 r34_3 hr34_3) (fun a w => Try.call27 a w) rfl trivial) ?_
  refine Wy (.agg [(.d (.lit (.int .i64 1))), (.own 5), (.d (.lit (.int .u32 0)))]) [] (Obd rfl) ?_
  obtain ⟨r36_3, hr36_3, hm⟩ := bnd hm
  refine Wy (.tup [(.agg [(.d (.lit (.int .i64 r36_3.1.Cap))), (.own 6)]), (.d (.lit (.int .i64 r36_3.2)))]) [(6, (.arr 42 3 (List.length r36_3.1.L) (flatD enc_GRun r36_3.1.L))), (3, (.fro 42 3 (List.length r29_2.1.L) (flatD enc_GRun r29_2.1.L))), (5, (.fro 93 6 (List.length r34_3) (flatD enc_GPair r34_3)))] (Ocf [] [6] [3, 5] 0 (ok_runs_Runs_Add r29_2.1 (GRun.mk 1 r34_3 0) r36_3 hr36_3) (fun a w => Try.call9 a w) rfl trivial) ?_
  refine Wy (.tup [(.agg [(.d (.lit (.int .i64 r36_3.1.Cap))), (.own 6)]), (.d (.lit (.int .i64 r36_3.2)))]) [] (Omv rfl) ?_
  refine Wy (.agg [(.d (.lit (.int .i64 r36_3.1.Cap))), (.own 6)]) [] (Oex rfl) ?_
  refine Wy (.d (.lit (.int .i64 r36_3.2))) [] (Oex rfl) ?_
  refine Wy (.loc 7 0) [(7, (.box [(.d (.lit (.int .i64 0))), (.d .nil)]))] (Oal rfl) ?_
  refine Wy (.tup []) [(7, (.box [(.d (.lit (.int .i64 r36_3.1.Cap))), (.own 6)]))] (Ost rfl) ?_
  refine Wy (.d (.lit (.int .i64 r36_3.2))) [] (Omv rfl) ?_
  refine Wdr ?_
  refine Then.normal ?_
  refine Amk 500 216 ⟨(tp 2 ((.d (.lit (.int .i64 r18_0.2))) :: (tp 1 ((.d (.lit (.int .i64 r22_1.2))) :: ((.loc 4 0) :: ((.d (.lit (.int .i64 r29_2.2))) :: ((.loc 7 0) :: ((.d (.lit (.int .i64 r36_3.2))) :: (tp 141 []))))))))), [.gone, .gone, .gone, (.fro 42 3 (List.length r29_2.1.L) (flatD enc_GRun r29_2.1.L)), (.box [(.d (.lit (.int .i64 r29_2.1.Cap))), (.own 3)]), .gone, (.arr 42 3 (List.length r36_3.1.L) (flatD enc_GRun r36_3.1.L)), (.box [(.d (.lit (.int .i64 r36_3.1.Cap))), (.own 6)])], 0⟩ ?_
  refine AWP.seq ?_
  refine Adr ?_
  refine Wy (.agg [(.d (.lit (.int .i64 r36_3.1.Cap))), (.own 6)]) [] (Old rfl) ?_
  obtain ⟨r41_4, hr41_4, hm⟩ := bnd hm
  refine Wy (.own 8) [(8, (.arr 93 6 (List.length r41_4) (flatD enc_GPair r41_4)))] (Ocf [] [8] [] 0 (ok_telltalelaw21_at 5 r41_4 hr41_4) (fun a w => Try.call27 a w) rfl trivial) ?_
  refine Wy (.agg [(.d (.lit (.int .i64 2))), (.own 8), (.d (.lit (.int .u32 0)))]) [] (Obd rfl) ?_
  obtain ⟨r43_4, hr43_4, hm⟩ := bnd hm
  refine Wy (.tup [(.agg [(.d (.lit (.int .i64 r43_4.1.Cap))), (.own 9)]), (.d (.lit (.int .i64 r43_4.2)))]) [(9, (.arr 42 3 (List.length r43_4.1.L) (flatD enc_GRun r43_4.1.L))), (6, (.fro 42 3 (List.length r36_3.1.L) (flatD enc_GRun r36_3.1.L))), (8, (.fro 93 6 (List.length r41_4) (flatD enc_GPair r41_4)))] (Ocf [] [9] [6, 8] 0 (ok_runs_Runs_Add r36_3.1 (GRun.mk 2 r41_4 0) r43_4 hr43_4) (fun a w => Try.call9 a w) rfl trivial) ?_
  refine Wy (.tup [(.agg [(.d (.lit (.int .i64 r43_4.1.Cap))), (.own 9)]), (.d (.lit (.int .i64 r43_4.2)))]) [] (Omv rfl) ?_
  refine Wy (.agg [(.d (.lit (.int .i64 r43_4.1.Cap))), (.own 9)]) [] (Oex rfl) ?_
  refine Wy (.d (.lit (.int .i64 r43_4.2))) [] (Oex rfl) ?_
  refine Wy (.loc 10 0) [(10, (.box [(.d (.lit (.int .i64 0))), (.d .nil)]))] (Oal rfl) ?_
  refine Wy (.tup []) [(10, (.box [(.d (.lit (.int .i64 r43_4.1.Cap))), (.own 9)]))] (Ost rfl) ?_
  refine Wy (.d (.lit (.int .i64 r43_4.2))) [] (Omv rfl) ?_
  refine Wdr ?_
  refine Then.normal ?_
  refine Amk 2036 1752 ⟨(tp 2 ((.d (.lit (.int .i64 r18_0.2))) :: (tp 1 ((.d (.lit (.int .i64 r22_1.2))) :: ((.loc 4 0) :: ((.d (.lit (.int .i64 r29_2.2))) :: ((.loc 7 0) :: ((.d (.lit (.int .i64 r36_3.2))) :: ((.loc 10 0) :: ((.d (.lit (.int .i64 r43_4.2))) :: (tp 139 []))))))))))), [.gone, .gone, .gone, (.fro 42 3 (List.length r29_2.1.L) (flatD enc_GRun r29_2.1.L)), (.box [(.d (.lit (.int .i64 r29_2.1.Cap))), (.own 3)]), .gone, (.fro 42 3 (List.length r36_3.1.L) (flatD enc_GRun r36_3.1.L)), (.box [(.d (.lit (.int .i64 r36_3.1.Cap))), (.own 6)]), .gone, (.arr 42 3 (List.length r43_4.1.L) (flatD enc_GRun r43_4.1.L)), (.box [(.d (.lit (.int .i64 r43_4.1.Cap))), (.own 9)])], 0⟩ ?_
  refine AWP.seq ?_
  refine Adr ?_
  refine Wy (.agg [(.d (.lit (.int .i64 r36_3.1.Cap))), (.own 6)]) [] (Old rfl) ?_
  obtain ⟨r48_5, hr48_5, hm⟩ := bnd hm
  refine Wy (.own 11) [(11, (.arr 93 6 (List.length r48_5) (flatD enc_GPair r48_5)))] (Ocf [] [11] [] 0 (ok_telltalelaw21_at 5 r48_5 hr48_5) (fun a w => Try.call27 a w) rfl trivial) ?_
  refine Wy (.agg [(.d (.lit (.int .i64 1))), (.own 11), (.d (.lit (.int .u32 3)))]) [] (Obd rfl) ?_
  obtain ⟨r50_5, hr50_5, hm⟩ := bnd hm
  refine Wy (.tup [(.agg [(.d (.lit (.int .i64 r50_5.1.Cap))), (.own 12)]), (.d (.lit (.int .i64 r50_5.2)))]) [(12, (.arr 42 3 (List.length r50_5.1.L) (flatD enc_GRun r50_5.1.L))), (6, (.fro 42 3 (List.length r36_3.1.L) (flatD enc_GRun r36_3.1.L))), (11, (.fro 93 6 (List.length r48_5) (flatD enc_GPair r48_5)))] (Ocf [] [12] [6, 11] 0 (ok_runs_Runs_Add r36_3.1 (GRun.mk 1 r48_5 3) r50_5 hr50_5) (fun a w => Try.call9 a w) rfl trivial) ?_
  refine Wy (.tup [(.agg [(.d (.lit (.int .i64 r50_5.1.Cap))), (.own 12)]), (.d (.lit (.int .i64 r50_5.2)))]) [] (Omv rfl) ?_
  refine Wy (.agg [(.d (.lit (.int .i64 r50_5.1.Cap))), (.own 12)]) [] (Oex rfl) ?_
  refine Wy (.d (.lit (.int .i64 r50_5.2))) [] (Oex rfl) ?_
  refine Wy (.loc 13 0) [(13, (.box [(.d (.lit (.int .i64 0))), (.d .nil)]))] (Oal rfl) ?_
  refine Wy (.tup []) [(13, (.box [(.d (.lit (.int .i64 r50_5.1.Cap))), (.own 12)]))] (Ost rfl) ?_
  refine Wy (.d (.lit (.int .i64 r50_5.2))) [] (Omv rfl) ?_
  refine Wdr ?_
  refine Then.normal ?_
  refine Amk 8180 14040 ⟨(tp 2 ((.d (.lit (.int .i64 r18_0.2))) :: (tp 1 ((.d (.lit (.int .i64 r22_1.2))) :: ((.loc 4 0) :: ((.d (.lit (.int .i64 r29_2.2))) :: ((.loc 7 0) :: ((.d (.lit (.int .i64 r36_3.2))) :: ((.loc 10 0) :: ((.d (.lit (.int .i64 r43_4.2))) :: ((.loc 13 0) :: ((.d (.lit (.int .i64 r50_5.2))) :: (tp 137 []))))))))))))), [.gone, .gone, .gone, (.fro 42 3 (List.length r29_2.1.L) (flatD enc_GRun r29_2.1.L)), (.box [(.d (.lit (.int .i64 r29_2.1.Cap))), (.own 3)]), .gone, (.fro 42 3 (List.length r36_3.1.L) (flatD enc_GRun r36_3.1.L)), (.box [(.d (.lit (.int .i64 r36_3.1.Cap))), (.own 6)]), .gone, (.arr 42 3 (List.length r43_4.1.L) (flatD enc_GRun r43_4.1.L)), (.box [(.d (.lit (.int .i64 r43_4.1.Cap))), (.own 9)]), .gone, (.arr 42 3 (List.length r50_5.1.L) (flatD enc_GRun r50_5.1.L)), (.box [(.d (.lit (.int .i64 r50_5.1.Cap))), (.own 12)])], 0⟩ ?_
  refine AWP.seq ?_
  refine AWP.text ?_
  refine Wy (.agg [(.d (.lit (.int .i64 r36_3.1.Cap))), (.own 6)]) [] (Old rfl) ?_
  obtain ⟨r54_6, hr54_6, hm⟩ := bnd hm
  refine Wy (.agg [(.d (.lit (.int .i64 r54_6.Cap))), (.own 14)]) [(14, (.arr 42 3 (List.length r54_6.L) (flatD enc_GRun r54_6.L))), (6, (.fro 42 3 (List.length r36_3.1.L) (flatD enc_GRun r36_3.1.L)))] (Ocf [] [14] [6] 0 (ok_runs_Runs_Prune r36_3.1 10 5 r54_6 hr54_6) (fun a w => Try.call23 a w) rfl trivial) ?_
  refine Wy (.loc 15 0) [(15, (.box [(.d (.lit (.int .i64 0))), (.d .nil)]))] (Oal rfl) ?_
  refine Wy (.tup []) [(15, (.box [(.d (.lit (.int .i64 r54_6.Cap))), (.own 14)]))] (Ost rfl) ?_
  refine Walk.nil ?_
  refine Then.normal ?_
  refine Amk 16372 63192 ⟨(tp 2 ((.d (.lit (.int .i64 r18_0.2))) :: (tp 1 ((.d (.lit (.int .i64 r22_1.2))) :: ((.loc 4 0) :: ((.d (.lit (.int .i64 r29_2.2))) :: ((.loc 7 0) :: ((.d (.lit (.int .i64 r36_3.2))) :: ((.loc 10 0) :: ((.d (.lit (.int .i64 r43_4.2))) :: ((.loc 13 0) :: ((.d (.lit (.int .i64 r50_5.2))) :: ((.loc 15 0) :: (tp 136 [])))))))))))))), [.gone, .gone, .gone, (.fro 42 3 (List.length r29_2.1.L) (flatD enc_GRun r29_2.1.L)), (.box [(.d (.lit (.int .i64 r29_2.1.Cap))), (.own 3)]), .gone, (.fro 42 3 (List.length r36_3.1.L) (flatD enc_GRun r36_3.1.L)), (.box [(.d (.lit (.int .i64 r36_3.1.Cap))), (.own 6)]), .gone, (.arr 42 3 (List.length r43_4.1.L) (flatD enc_GRun r43_4.1.L)), (.box [(.d (.lit (.int .i64 r43_4.1.Cap))), (.own 9)]), .gone, (.arr 42 3 (List.length r50_5.1.L) (flatD enc_GRun r50_5.1.L)), (.box [(.d (.lit (.int .i64 r50_5.1.Cap))), (.own 12)]), (.arr 42 3 (List.length r54_6.L) (flatD enc_GRun r54_6.L)), (.box [(.d (.lit (.int .i64 r54_6.Cap))), (.own 14)])], 0⟩ ?_
  refine AWP.seq ?_
  refine AWP.text ?_
  refine Wy (.agg [(.d (.lit (.int .i64 r36_3.1.Cap))), (.own 6)]) [] (Old rfl) ?_
  obtain ⟨r57_7, hr57_7, hm⟩ := bnd hm
  refine Wy (.tup [(.d (.lit (.int .i64 r57_7.1))), (.d (.lit (.bool r57_7.2)))]) [] (Ocp [] [] [6] 0 (ok_runs_Runs_Least r36_3.1 r57_7 hr57_7) (plain_triv (by simp [A.Plain, A.Plains, D.Plain, byteD])) (fun a w => Try.call20 a w) rfl trivial) ?_
  refine Wy (.tup [(.d (.lit (.int .i64 r57_7.1))), (.d (.lit (.bool r57_7.2)))]) [] (Omv rfl) ?_
  refine Wy (.d (.lit (.int .i64 r57_7.1))) [] (Oex rfl) ?_
  refine Wy (.d (.lit (.bool r57_7.2))) [] (Oex rfl) ?_
  refine Wy (.d (.lit (.int .i64 r57_7.1))) [] (Omv rfl) ?_
  refine Wy (.d (.lit (.bool r57_7.2))) [] (Omv rfl) ?_
  refine Walk.nil ?_
  refine Then.normal ?_
  refine Amk 65524 63192 ⟨(tp 2 ((.d (.lit (.int .i64 r18_0.2))) :: (tp 1 ((.d (.lit (.int .i64 r22_1.2))) :: ((.loc 4 0) :: ((.d (.lit (.int .i64 r29_2.2))) :: ((.loc 7 0) :: ((.d (.lit (.int .i64 r36_3.2))) :: ((.loc 10 0) :: ((.d (.lit (.int .i64 r43_4.2))) :: ((.loc 13 0) :: ((.d (.lit (.int .i64 r50_5.2))) :: ((.loc 15 0) :: ((.d (.lit (.int .i64 r57_7.1))) :: ((.d (.lit (.bool r57_7.2))) :: (tp 134 [])))))))))))))))), [.gone, .gone, .gone, (.fro 42 3 (List.length r29_2.1.L) (flatD enc_GRun r29_2.1.L)), (.box [(.d (.lit (.int .i64 r29_2.1.Cap))), (.own 3)]), .gone, (.fro 42 3 (List.length r36_3.1.L) (flatD enc_GRun r36_3.1.L)), (.box [(.d (.lit (.int .i64 r36_3.1.Cap))), (.own 6)]), .gone, (.arr 42 3 (List.length r43_4.1.L) (flatD enc_GRun r43_4.1.L)), (.box [(.d (.lit (.int .i64 r43_4.1.Cap))), (.own 9)]), .gone, (.arr 42 3 (List.length r50_5.1.L) (flatD enc_GRun r50_5.1.L)), (.box [(.d (.lit (.int .i64 r50_5.1.Cap))), (.own 12)]), (.arr 42 3 (List.length r54_6.L) (flatD enc_GRun r54_6.L)), (.box [(.d (.lit (.int .i64 r54_6.Cap))), (.own 14)])], 0⟩ ?_
  refine AWP.seq ?_
  refine AWP.text ?_
  refine Wy (.agg [(.d (.lit (.int .i64 r36_3.1.Cap))), (.own 6)]) [] (Old rfl) ?_
  obtain ⟨r61_8, hr61_8, hm⟩ := bnd hm
  refine Wy (.agg [(.d (.lit (.int .i64 r61_8.Cap))), (.own 16)]) [(16, (.arr 42 3 (List.length r61_8.L) (flatD enc_GRun r61_8.L))), (6, (.fro 42 3 (List.length r36_3.1.L) (flatD enc_GRun r36_3.1.L)))] (Ocf [] [16] [6] 0 (ok_runs_Runs_Break r36_3.1 1 6 r61_8 hr61_8) (fun a w => Try.call18 a w) rfl trivial) ?_
  refine Wy (.loc 17 0) [(17, (.box [(.d (.lit (.int .i64 0))), (.d .nil)]))] (Oal rfl) ?_
  refine Wy (.tup []) [(17, (.box [(.d (.lit (.int .i64 r61_8.Cap))), (.own 16)]))] (Ost rfl) ?_
  refine Walk.nil ?_
  refine Then.normal ?_
  refine Amk 131060 259800 ⟨(tp 2 ((.d (.lit (.int .i64 r18_0.2))) :: (tp 1 ((.d (.lit (.int .i64 r22_1.2))) :: ((.loc 4 0) :: ((.d (.lit (.int .i64 r29_2.2))) :: ((.loc 7 0) :: ((.d (.lit (.int .i64 r36_3.2))) :: ((.loc 10 0) :: ((.d (.lit (.int .i64 r43_4.2))) :: ((.loc 13 0) :: ((.d (.lit (.int .i64 r50_5.2))) :: ((.loc 15 0) :: ((.d (.lit (.int .i64 r57_7.1))) :: ((.d (.lit (.bool r57_7.2))) :: ((.loc 17 0) :: (tp 133 []))))))))))))))))), [.gone, .gone, .gone, (.fro 42 3 (List.length r29_2.1.L) (flatD enc_GRun r29_2.1.L)), (.box [(.d (.lit (.int .i64 r29_2.1.Cap))), (.own 3)]), .gone, (.fro 42 3 (List.length r36_3.1.L) (flatD enc_GRun r36_3.1.L)), (.box [(.d (.lit (.int .i64 r36_3.1.Cap))), (.own 6)]), .gone, (.arr 42 3 (List.length r43_4.1.L) (flatD enc_GRun r43_4.1.L)), (.box [(.d (.lit (.int .i64 r43_4.1.Cap))), (.own 9)]), .gone, (.arr 42 3 (List.length r50_5.1.L) (flatD enc_GRun r50_5.1.L)), (.box [(.d (.lit (.int .i64 r50_5.1.Cap))), (.own 12)]), (.arr 42 3 (List.length r54_6.L) (flatD enc_GRun r54_6.L)), (.box [(.d (.lit (.int .i64 r54_6.Cap))), (.own 14)]), (.arr 42 3 (List.length r61_8.L) (flatD enc_GRun r61_8.L)), (.box [(.d (.lit (.int .i64 r61_8.Cap))), (.own 16)])], 0⟩ ?_
  refine AWP.seq ?_
  refine AWP.text ?_
  refine Wy (.d (.lit (.int .i64 r18_0.2))) [] (Omv rfl) ?_
  refine Wy (.d (.lit (.bool (decide (r18_0.2 = 0))))) [] (Obn rfl (fun _ => hb_eql (k := .i64))) ?_
  rcases tf_ (decide (r18_0.2 = 0)) with hq64_9 | hq64_9
  · replace hm := cT hq64_9 hm
    refine Wy (.d (.lit (.bool true))) [] (Ocs (lit_tf (b := decide (r18_0.2 = 0)) hq64_9) (Omv rfl)) ?_
    refine Wy (.d (.lit (.int .i64 r22_1.2))) [] (Omv rfl) ?_
    refine Wy (.d (.lit (.bool (decide (r22_1.2 = 2))))) [] (Obn rfl (fun _ => hb_eql (k := .i64))) ?_
    refine Wy (.d (.lit (.bool (decide (r22_1.2 = 2))))) [] (OpT rfl) ?_
    rcases tf_ (decide (r22_1.2 = 2)) with hq68_9 | hq68_9
    · replace hm := cT hq68_9 hm
      refine Wy (.d (.lit (.bool true))) [] (Ocs (lit_tf (b := decide (r22_1.2 = 2)) hq68_9) (Omv rfl)) ?_
      refine Wy (.d (.lit (.int .i64 r29_2.2))) [] (Omv rfl) ?_
      refine Wy (.d (.lit (.bool (decide (r29_2.2 = 0))))) [] (Obn rfl (fun _ => hb_eql (k := .i64))) ?_
      refine Wy (.d (.lit (.bool (decide (r29_2.2 = 0))))) [] (OpT rfl) ?_
      rcases tf_ (decide (r29_2.2 = 0)) with hq72_9 | hq72_9
      · replace hm := cT hq72_9 hm
        refine Wy (.d (.lit (.bool true))) [] (Ocs (lit_tf (b := decide (r29_2.2 = 0)) hq72_9) (Omv rfl)) ?_
        refine Wy (.d (.lit (.int .i64 r36_3.2))) [] (Omv rfl) ?_
        refine Wy (.d (.lit (.bool (decide (r36_3.2 = 0))))) [] (Obn rfl (fun _ => hb_eql (k := .i64))) ?_
        refine Wy (.d (.lit (.bool (decide (r36_3.2 = 0))))) [] (OpT rfl) ?_
        rcases tf_ (decide (r36_3.2 = 0)) with hq76_9 | hq76_9
        · replace hm := cT hq76_9 hm
          refine Wy (.d (.lit (.bool true))) [] (Ocs (lit_tf (b := decide (r36_3.2 = 0)) hq76_9) (Omv rfl)) ?_
          refine Wy (.d (.lit (.int .i64 r43_4.2))) [] (Omv rfl) ?_
          refine Wy (.d (.lit (.bool (decide (r43_4.2 = 7))))) [] (Obn rfl (fun _ => hb_eql (k := .i64))) ?_
          refine Wy (.d (.lit (.bool (decide (r43_4.2 = 7))))) [] (OpT rfl) ?_
          rcases tf_ (decide (r43_4.2 = 7)) with hq80_9 | hq80_9
          · replace hm := cT hq80_9 hm
            refine Wy (.d (.lit (.bool true))) [] (Ocs (lit_tf (b := decide (r43_4.2 = 7)) hq80_9) (Omv rfl)) ?_
            refine Wy (.d (.lit (.int .i64 r50_5.2))) [] (Omv rfl) ?_
            refine Wy (.d (.lit (.bool (decide (r50_5.2 = 0))))) [] (Obn rfl (fun _ => hb_eql (k := .i64))) ?_
            refine Wy (.d (.lit (.bool (decide (r50_5.2 = 0))))) [] (OpT rfl) ?_
            rcases tf_ (decide (r50_5.2 = 0)) with hq84_9 | hq84_9
            · replace hm := cT hq84_9 hm
              refine Wy (.d (.lit (.bool true))) [] (Ocs (lit_tf (b := decide (r50_5.2 = 0)) hq84_9) (Omv rfl)) ?_
              refine Wy (.loc 7 1) [] (Ofa rfl) ?_
              refine Wy (.own 6) [] (Old rfl) ?_
              refine Wy (.d (.lit (.int .i64 ((List.length r36_3.1.L : Nat) : Int)))) [] (Oln rfl) ?_
              refine Wy (.d (.lit (.bool (decide (((List.length r36_3.1.L : Nat) : Int) = 2))))) [] (Obn rfl (fun _ => hb_eql (k := .i64))) ?_
              refine Wy (.d (.lit (.bool (decide (((List.length r36_3.1.L : Nat) : Int) = 2))))) [] (OpT rfl) ?_
              rcases tf_ (decide (((List.length r36_3.1.L : Nat) : Int) = 2)) with hq90_9 | hq90_9
              · replace hm := cT hq90_9 hm
                refine Wy (.d (.lit (.bool true))) [] (Ocs (lit_tf (b := decide (((List.length r36_3.1.L : Nat) : Int) = 2)) hq90_9) (Omv rfl)) ?_
                refine Wy (.loc 10 1) [] (Ofa rfl) ?_
                refine Wy (.own 9) [] (Old rfl) ?_
                refine Wy (.d (.lit (.int .i64 ((List.length r43_4.1.L : Nat) : Int)))) [] (Oln rfl) ?_
                refine Wy (.d (.lit (.bool (decide (((List.length r43_4.1.L : Nat) : Int) = 2))))) [] (Obn rfl (fun _ => hb_eql (k := .i64))) ?_
                refine Wy (.d (.lit (.bool (decide (((List.length r43_4.1.L : Nat) : Int) = 2))))) [] (OpT rfl) ?_
                rcases tf_ (decide (((List.length r43_4.1.L : Nat) : Int) = 2)) with hq96_9 | hq96_9
                · replace hm := cT hq96_9 hm
                  refine Wy (.d (.lit (.bool true))) [] (Ocs (lit_tf (b := decide (((List.length r43_4.1.L : Nat) : Int) = 2)) hq96_9) (Omv rfl)) ?_
                  refine Wy (.loc 13 1) [] (Ofa rfl) ?_
                  refine Wy (.own 12) [] (Old rfl) ?_
                  refine Wy (.d (.lit (.int .i64 ((List.length r50_5.1.L : Nat) : Int)))) [] (Oln rfl) ?_
                  refine Wy (.d (.lit (.bool (decide (((List.length r50_5.1.L : Nat) : Int) = 2))))) [] (Obn rfl (fun _ => hb_eql (k := .i64))) ?_
                  refine Wy (.d (.lit (.bool (decide (((List.length r50_5.1.L : Nat) : Int) = 2))))) [] (OpT rfl) ?_
                  rcases tf_ (decide (((List.length r50_5.1.L : Nat) : Int) = 2)) with hq102_9 | hq102_9
                  · replace hm := cT hq102_9 hm
                    refine Wy (.d (.lit (.bool true))) [] (Ocs (lit_tf (b := decide (((List.length r50_5.1.L : Nat) : Int) = 2)) hq102_9) (Omv rfl)) ?_
                    refine Wy (.loc 15 1) [] (Ofa rfl) ?_
                    refine Wy (.own 14) [] (Old rfl) ?_
                    refine Wy (.d (.lit (.int .i64 ((List.length r54_6.L : Nat) : Int)))) [] (Oln rfl) ?_
                    refine Wy (.d (.lit (.bool (decide (((List.length r54_6.L : Nat) : Int) = 1))))) [] (Obn rfl (fun _ => hb_eql (k := .i64))) ?_
                    refine Wy (.d (.lit (.bool (decide (((List.length r54_6.L : Nat) : Int) = 1))))) [] (OpT rfl) ?_
                    rcases tf_ (decide (((List.length r54_6.L : Nat) : Int) = 1)) with hq108_9 | hq108_9
                    · replace hm := cT hq108_9 hm
                      refine Wy (.d (.lit (.bool true))) [] (Ocs (lit_tf (b := decide (((List.length r54_6.L : Nat) : Int) = 1)) hq108_9) (Omv rfl)) ?_
                      refine Wy (.d (.lit (.int .i64 r57_7.1))) [] (Omv rfl) ?_
                      refine Wy (.d (.lit (.bool (decide (r57_7.1 = 4))))) [] (Obn rfl (fun _ => hb_eql (k := .i64))) ?_
                      refine Wy (.d (.lit (.bool (decide (r57_7.1 = 4))))) [] (OpT rfl) ?_
                      rcases tf_ (decide (r57_7.1 = 4)) with hq112_9 | hq112_9
                      · replace hm := cT hq112_9 hm
                        refine Wy (.d (.lit (.bool true))) [] (Ocs (lit_tf (b := decide (r57_7.1 = 4)) hq112_9) (Omv rfl)) ?_
                        refine Wy (.d (.lit (.bool r57_7.2))) [] (Omv rfl) ?_
                        refine Wy (.d (.lit (.bool r57_7.2))) [] (OpT rfl) ?_
                        rcases tf_ r57_7.2 with hq115_9 | hq115_9
                        · replace hm := cT hq115_9 hm
                          refine Wy (.d (.lit (.bool true))) [] (Ocs (lit_tf (b := r57_7.2) hq115_9) (Omv rfl)) ?_
                          refine Wy (.agg [(.d (.lit (.int .i64 r36_3.1.Cap))), (.own 6)]) [] (Old rfl) ?_
                          refine Wy (.own 18) [(18, (.arr 4 1 (List.length ([true] : List Bool)) (flatD encB ([true] : List Bool))))] (Obs rfl) ?_
                          obtain ⟨r118_9, hr118_9, hm⟩ := bnd hm
                          refine Wy (.agg [(.d (.lit (.int .i64 r118_9.Cap))), (.own 19)]) [(19, (.arr 42 3 (List.length r118_9.L) (flatD enc_GRun r118_9.L))), (6, (.fro 42 3 (List.length r36_3.1.L) (flatD enc_GRun r36_3.1.L))), (18, (.fro 4 1 (List.length ([true] : List Bool)) (flatD encB ([true] : List Bool))))] (Ocf [] [19] [6, 18] 0 (ok_runs_Runs_Keep r36_3.1 ([true] : List Bool) r118_9 hr118_9) (fun a w => Try.call16 a w) rfl trivial) ?_
                          refine Wy (.own 19) [] (Ofd rfl) ?_
                          refine Wy (.d (.lit (.int .i64 ((List.length r118_9.L : Nat) : Int)))) [] (Oln rfl) ?_
                          refine Wy (.d (.lit (.bool (decide (((List.length r118_9.L : Nat) : Int) = 1))))) [] (Obn rfl (fun _ => hb_eql (k := .i64))) ?_
                          refine Wy (.d (.lit (.bool (decide (((List.length r118_9.L : Nat) : Int) = 1))))) [] (OpT rfl) ?_
                          rcases tf_ (decide (((List.length r118_9.L : Nat) : Int) = 1)) with hq123_9 | hq123_9
                          · replace hm := cT hq123_9 hm
                            refine Wy (.d (.lit (.bool true))) [] (Ocs (lit_tf (b := decide (((List.length r118_9.L : Nat) : Int) = 1)) hq123_9) (Omv rfl)) ?_
                            refine Wy (.loc 17 1) [] (Ofa rfl) ?_
                            refine Wy (.own 16) [] (Old rfl) ?_
                            refine Wy (.d (.lit (.int .i64 ((List.length r61_8.L : Nat) : Int)))) [] (Oln rfl) ?_
                            refine Wy (.d (.lit (.bool (decide (((List.length r61_8.L : Nat) : Int) = 2))))) [] (Obn rfl (fun _ => hb_eql (k := .i64))) ?_
                            refine Wy (.d (.lit (.bool (decide (((List.length r61_8.L : Nat) : Int) = 2))))) [] (OpT rfl) ?_
                            rcases tf_ (decide (((List.length r61_8.L : Nat) : Int) = 2)) with hq129_9 | hq129_9
                            · replace hm := cT hq129_9 hm
                              refine Wy (.d (.lit (.bool true))) [] (Ocs (lit_tf (b := decide (((List.length r61_8.L : Nat) : Int) = 2)) hq129_9) (Omv rfl)) ?_
                              refine Wy (.loc 17 1) [] (Ofa rfl) ?_
                              refine Wy (.own 16) [] (Old rfl) ?_
                              obtain ⟨x132_9, hx132_9, hm⟩ := bnd hm
                              obtain ⟨hx132_9i, hx132_9g⟩ := geti_some hx132_9
                              refine Wy (.loc 16 ((Int.toNat 1) * 3)) [] (Oia rfl enc_GRun_len hx132_9i hx132_9g) ?_
                              refine Wy (.loc 16 ((Int.toNat 1) * 3 + 2)) [] (Ofa rfl) ?_
                              refine Wy (.d (.lit (.int .u32 x132_9.Broken))) [] (Lrk1 2 rfl enc_GRun_len hx132_9g) ?_
                              refine Wy (.d (.lit (.bool (decide (x132_9.Broken = 6))))) [] (Obn rfl (fun _ => hb_eql (k := .u32))) ?_
                              refine Wy (.d (.lit (.bool (decide (x132_9.Broken = 6))))) [] (OpT rfl) ?_
                              rcases tf_ (decide (x132_9.Broken = 6)) with hq137_9 | hq137_9
                              · replace hm := cT hq137_9 hm
                                refine Wy (.d (.lit (.bool true))) [] (Ocs (lit_tf (b := decide (x132_9.Broken = 6)) hq137_9) (Omv rfl)) ?_
                                refine Wy (.agg [(.d (.lit (.int .i64 r36_3.1.Cap))), (.own 6)]) [] (Old rfl) ?_
                                refine Wy (.agg [(.d (.lit (.int .i64 r43_4.1.Cap))), (.own 9)]) [] (Old rfl) ?_
                                obtain ⟨r140_9, hr140_9, hm⟩ := bnd hm
                                refine Wy (.d (.lit (.bool r140_9))) [] (Ocp [] [] [6, 9] 0 (ok_runs_Same r36_3.1 r43_4.1 r140_9 hr140_9) (plain_triv (by simp [A.Plain, A.Plains, D.Plain, byteD])) (fun a w => Try.call22 a w) rfl trivial) ?_
                                refine Wy (.d (.lit (.bool r140_9))) [] (OpT rfl) ?_
                                rcases tf_ r140_9 with hq142_9 | hq142_9
                                · replace hm := cT hq142_9 hm
                                  refine Wy (.d (.lit (.bool true))) [] (Ocs (lit_tf (b := r140_9) hq142_9) (Omv rfl)) ?_
                                  refine Wy (.agg [(.d (.lit (.int .i64 r29_2.1.Cap))), (.own 3)]) [] (Old rfl) ?_
                                  refine Wy (.agg [(.d (.lit (.int .i64 r36_3.1.Cap))), (.own 6)]) [] (Old rfl) ?_
                                  obtain ⟨r145_9, hr145_9, hm⟩ := bnd hm
                                  refine Wy (.d (.lit (.bool r145_9))) [] (Ocp [] [] [3, 6] 0 (ok_runs_Same r29_2.1 r36_3.1 r145_9 hr145_9) (plain_triv (by simp [A.Plain, A.Plains, D.Plain, byteD])) (fun a w => Try.call22 a w) rfl trivial) ?_
                                  refine Wy (.d (.lit (.bool (!r145_9)))) [] (Ocs (by kernel_rfl) (op_un rfl (a1 := .bool r145_9) (by kernel_rfl) (fun _ => hu_not))) ?_
                                  refine Wy (.d (.lit (.bool (!r145_9)))) [] (OpT rfl) ?_
                                  rcases tf_ (!r145_9) with hq148_9 | hq148_9
                                  · replace hm := cT hq148_9 hm
                                    refine Wy (.d (.lit (.bool true))) [] (Ocs (lit_tf (b := (!r145_9)) hq148_9) (Omv rfl)) ?_
                                    refine Wy (.d (.lit (.bool true))) [] (OpT rfl) ?_
                                    refine Wy (.d (.lit (.bool true))) [] (Omv rfl) ?_
                                    refine Walk.nil ?_
                                    refine Then.normal ?_
                                    refine AWP.ret ?_
                                    obtain rfl := Option.some.inj hm
                                    exact ret_i []
                                  · replace hm := cF hq148_9 hm
                                    refine Wy (.d (.lit (.bool false))) [] (Ocs (lit_tf (b := (!r145_9)) hq148_9) (Omv rfl)) ?_
                                    refine Wy (.d (.lit (.bool false))) [] (OpF rfl) ?_
                                    refine Wy (.d (.lit (.bool false))) [] (Omv rfl) ?_
                                    refine Walk.nil ?_
                                    refine Then.normal ?_
                                    refine AWP.ret ?_
                                    obtain rfl := Option.some.inj hm
                                    exact ret_i []
                                · replace hm := cF hq142_9 hm
                                  refine Wy (.d (.lit (.bool false))) [] (Ocs (lit_tf (b := r140_9) hq142_9) (Omv rfl)) ?_
                                  refine Wn ?_
                                  refine Wn ?_
                                  refine Wn ?_
                                  refine Wn ?_
                                  refine Wy (.d (.lit (.bool false))) [] (OpF rfl) ?_
                                  refine Wy (.d (.lit (.bool false))) [] (Omv rfl) ?_
                                  refine Wy (.d (.lit (.bool false))) [] (OpF rfl) ?_
                                  refine Wy (.d (.lit (.bool false))) [] (Omv rfl) ?_
                                  refine Walk.nil ?_
                                  refine Then.normal ?_
                                  refine AWP.ret ?_
                                  obtain rfl := Option.some.inj hm
                                  exact ret_i []
                              · replace hm := cF hq137_9 hm
                                refine Wy (.d (.lit (.bool false))) [] (Ocs (lit_tf (b := decide (x132_9.Broken = 6)) hq137_9) (Omv rfl)) ?_
                                refine Wn ?_
                                refine Wn ?_
                                refine Wn ?_
                                refine Wy (.d (.lit (.bool false))) [] (OpF rfl) ?_
                                refine Wy (.d (.lit (.bool false))) [] (Omv rfl) ?_
                                refine Wn ?_
                                refine Wn ?_
                                refine Wn ?_
                                refine Wn ?_
                                refine Wy (.d (.lit (.bool false))) [] (OpF rfl) ?_
                                refine Wy (.d (.lit (.bool false))) [] (Omv rfl) ?_
                                refine Wy (.d (.lit (.bool false))) [] (OpF rfl) ?_
                                refine Wy (.d (.lit (.bool false))) [] (Omv rfl) ?_
                                refine Walk.nil ?_
                                refine Then.normal ?_
                                refine AWP.ret ?_
                                obtain rfl := Option.some.inj hm
                                exact ret_i []
                            · replace hm := cF hq129_9 hm
                              refine Wy (.d (.lit (.bool false))) [] (Ocs (lit_tf (b := decide (((List.length r61_8.L : Nat) : Int) = 2)) hq129_9) (Omv rfl)) ?_
                              refine Wn ?_
                              refine Wn ?_
                              refine Wn ?_
                              refine Wn ?_
                              refine Wn ?_
                              refine Wn ?_
                              refine Wy (.d (.lit (.bool false))) [] (OpF rfl) ?_
                              refine Wy (.d (.lit (.bool false))) [] (Omv rfl) ?_
                              refine Wn ?_
                              refine Wn ?_
                              refine Wn ?_
                              refine Wy (.d (.lit (.bool false))) [] (OpF rfl) ?_
                              refine Wy (.d (.lit (.bool false))) [] (Omv rfl) ?_
                              refine Wn ?_
                              refine Wn ?_
                              refine Wn ?_
                              refine Wn ?_
                              refine Wy (.d (.lit (.bool false))) [] (OpF rfl) ?_
                              refine Wy (.d (.lit (.bool false))) [] (Omv rfl) ?_
                              refine Wy (.d (.lit (.bool false))) [] (OpF rfl) ?_
                              refine Wy (.d (.lit (.bool false))) [] (Omv rfl) ?_
                              refine Walk.nil ?_
                              refine Then.normal ?_
                              refine AWP.ret ?_
                              obtain rfl := Option.some.inj hm
                              exact ret_i []
                          · replace hm := cF hq123_9 hm
                            refine Wy (.d (.lit (.bool false))) [] (Ocs (lit_tf (b := decide (((List.length r118_9.L : Nat) : Int) = 1)) hq123_9) (Omv rfl)) ?_
                            refine Wn ?_
                            refine Wn ?_
                            refine Wn ?_
                            refine Wn ?_
                            refine Wy (.d (.lit (.bool false))) [] (OpF rfl) ?_
                            refine Wy (.d (.lit (.bool false))) [] (Omv rfl) ?_
                            refine Wn ?_
                            refine Wn ?_
                            refine Wn ?_
                            refine Wn ?_
                            refine Wn ?_
                            refine Wn ?_
                            refine Wy (.d (.lit (.bool false))) [] (OpF rfl) ?_
                            refine Wy (.d (.lit (.bool false))) [] (Omv rfl) ?_
                            refine Wn ?_
                            refine Wn ?_
                            refine Wn ?_
                            refine Wy (.d (.lit (.bool false))) [] (OpF rfl) ?_
                            refine Wy (.d (.lit (.bool false))) [] (Omv rfl) ?_
                            refine Wn ?_
                            refine Wn ?_
                            refine Wn ?_
                            refine Wn ?_
                            refine Wy (.d (.lit (.bool false))) [] (OpF rfl) ?_
                            refine Wy (.d (.lit (.bool false))) [] (Omv rfl) ?_
                            refine Wy (.d (.lit (.bool false))) [] (OpF rfl) ?_
                            refine Wy (.d (.lit (.bool false))) [] (Omv rfl) ?_
                            refine Walk.nil ?_
                            refine Then.normal ?_
                            refine AWP.ret ?_
                            obtain rfl := Option.some.inj hm
                            exact ret_i []
                        · replace hm := cF hq115_9 hm
                          refine Wy (.d (.lit (.bool false))) [] (Ocs (lit_tf (b := r57_7.2) hq115_9) (Omv rfl)) ?_
                          refine Wn ?_
                          refine Wn ?_
                          refine Wn ?_
                          refine Wn ?_
                          refine Wn ?_
                          refine Wn ?_
                          refine Wy (.d (.lit (.bool false))) [] (OpF rfl) ?_
                          refine Wy (.d (.lit (.bool false))) [] (Omv rfl) ?_
                          refine Wn ?_
                          refine Wn ?_
                          refine Wn ?_
                          refine Wn ?_
                          refine Wy (.d (.lit (.bool false))) [] (OpF rfl) ?_
                          refine Wy (.d (.lit (.bool false))) [] (Omv rfl) ?_
                          refine Wn ?_
                          refine Wn ?_
                          refine Wn ?_
                          refine Wn ?_
                          refine Wn ?_
                          refine Wn ?_
                          refine Wy (.d (.lit (.bool false))) [] (OpF rfl) ?_
                          refine Wy (.d (.lit (.bool false))) [] (Omv rfl) ?_
                          refine Wn ?_
                          refine Wn ?_
                          refine Wn ?_
                          refine Wy (.d (.lit (.bool false))) [] (OpF rfl) ?_
                          refine Wy (.d (.lit (.bool false))) [] (Omv rfl) ?_
                          refine Wn ?_
                          refine Wn ?_
                          refine Wn ?_
                          refine Wn ?_
                          refine Wy (.d (.lit (.bool false))) [] (OpF rfl) ?_
                          refine Wy (.d (.lit (.bool false))) [] (Omv rfl) ?_
                          refine Wy (.d (.lit (.bool false))) [] (OpF rfl) ?_
                          refine Wy (.d (.lit (.bool false))) [] (Omv rfl) ?_
                          refine Walk.nil ?_
                          refine Then.normal ?_
                          refine AWP.ret ?_
                          obtain rfl := Option.some.inj hm
                          exact ret_i []
                      · replace hm := cF hq112_9 hm
                        refine Wy (.d (.lit (.bool false))) [] (Ocs (lit_tf (b := decide (r57_7.1 = 4)) hq112_9) (Omv rfl)) ?_
                        refine Wn ?_
                        refine Wy (.d (.lit (.bool false))) [] (OpF rfl) ?_
                        refine Wy (.d (.lit (.bool false))) [] (Omv rfl) ?_
                        refine Wn ?_
                        refine Wn ?_
                        refine Wn ?_
                        refine Wn ?_
                        refine Wn ?_
                        refine Wn ?_
                        refine Wy (.d (.lit (.bool false))) [] (OpF rfl) ?_
                        refine Wy (.d (.lit (.bool false))) [] (Omv rfl) ?_
                        refine Wn ?_
                        refine Wn ?_
                        refine Wn ?_
                        refine Wn ?_
                        refine Wy (.d (.lit (.bool false))) [] (OpF rfl) ?_
                        refine Wy (.d (.lit (.bool false))) [] (Omv rfl) ?_
                        refine Wn ?_
                        refine Wn ?_
                        refine Wn ?_
                        refine Wn ?_
                        refine Wn ?_
                        refine Wn ?_
                        refine Wy (.d (.lit (.bool false))) [] (OpF rfl) ?_
                        refine Wy (.d (.lit (.bool false))) [] (Omv rfl) ?_
                        refine Wn ?_
                        refine Wn ?_
                        refine Wn ?_
                        refine Wy (.d (.lit (.bool false))) [] (OpF rfl) ?_
                        refine Wy (.d (.lit (.bool false))) [] (Omv rfl) ?_
                        refine Wn ?_
                        refine Wn ?_
                        refine Wn ?_
                        refine Wn ?_
                        refine Wy (.d (.lit (.bool false))) [] (OpF rfl) ?_
                        refine Wy (.d (.lit (.bool false))) [] (Omv rfl) ?_
                        refine Wy (.d (.lit (.bool false))) [] (OpF rfl) ?_
                        refine Wy (.d (.lit (.bool false))) [] (Omv rfl) ?_
                        refine Walk.nil ?_
                        refine Then.normal ?_
                        refine AWP.ret ?_
                        obtain rfl := Option.some.inj hm
                        exact ret_i []
                    · replace hm := cF hq108_9 hm
                      refine Wy (.d (.lit (.bool false))) [] (Ocs (lit_tf (b := decide (((List.length r54_6.L : Nat) : Int) = 1)) hq108_9) (Omv rfl)) ?_
                      refine Wn ?_
                      refine Wn ?_
                      refine Wy (.d (.lit (.bool false))) [] (OpF rfl) ?_
                      refine Wy (.d (.lit (.bool false))) [] (Omv rfl) ?_
                      refine Wn ?_
                      refine Wy (.d (.lit (.bool false))) [] (OpF rfl) ?_
                      refine Wy (.d (.lit (.bool false))) [] (Omv rfl) ?_
                      refine Wn ?_
                      refine Wn ?_
                      refine Wn ?_
                      refine Wn ?_
                      refine Wn ?_
                      refine Wn ?_
                      refine Wy (.d (.lit (.bool false))) [] (OpF rfl) ?_
                      refine Wy (.d (.lit (.bool false))) [] (Omv rfl) ?_
                      refine Wn ?_
                      refine Wn ?_
                      refine Wn ?_
                      refine Wn ?_
                      refine Wy (.d (.lit (.bool false))) [] (OpF rfl) ?_
                      refine Wy (.d (.lit (.bool false))) [] (Omv rfl) ?_
                      refine Wn ?_
                      refine Wn ?_
                      refine Wn ?_
                      refine Wn ?_
                      refine Wn ?_
                      refine Wn ?_
                      refine Wy (.d (.lit (.bool false))) [] (OpF rfl) ?_
                      refine Wy (.d (.lit (.bool false))) [] (Omv rfl) ?_
                      refine Wn ?_
                      refine Wn ?_
                      refine Wn ?_
                      refine Wy (.d (.lit (.bool false))) [] (OpF rfl) ?_
                      refine Wy (.d (.lit (.bool false))) [] (Omv rfl) ?_
                      refine Wn ?_
                      refine Wn ?_
                      refine Wn ?_
                      refine Wn ?_
                      refine Wy (.d (.lit (.bool false))) [] (OpF rfl) ?_
                      refine Wy (.d (.lit (.bool false))) [] (Omv rfl) ?_
                      refine Wy (.d (.lit (.bool false))) [] (OpF rfl) ?_
                      refine Wy (.d (.lit (.bool false))) [] (Omv rfl) ?_
                      refine Walk.nil ?_
                      refine Then.normal ?_
                      refine AWP.ret ?_
                      obtain rfl := Option.some.inj hm
                      exact ret_i []
                  · replace hm := cF hq102_9 hm
                    refine Wy (.d (.lit (.bool false))) [] (Ocs (lit_tf (b := decide (((List.length r50_5.1.L : Nat) : Int) = 2)) hq102_9) (Omv rfl)) ?_
                    refine Wn ?_
                    refine Wn ?_
                    refine Wn ?_
                    refine Wn ?_
                    refine Wy (.d (.lit (.bool false))) [] (OpF rfl) ?_
                    refine Wy (.d (.lit (.bool false))) [] (Omv rfl) ?_
                    refine Wn ?_
                    refine Wn ?_
                    refine Wy (.d (.lit (.bool false))) [] (OpF rfl) ?_
                    refine Wy (.d (.lit (.bool false))) [] (Omv rfl) ?_
                    refine Wn ?_
                    refine Wy (.d (.lit (.bool false))) [] (OpF rfl) ?_
                    refine Wy (.d (.lit (.bool false))) [] (Omv rfl) ?_
                    refine Wn ?_
                    refine Wn ?_
                    refine Wn ?_
                    refine Wn ?_
                    refine Wn ?_
                    refine Wn ?_
                    refine Wy (.d (.lit (.bool false))) [] (OpF rfl) ?_
                    refine Wy (.d (.lit (.bool false))) [] (Omv rfl) ?_
                    refine Wn ?_
                    refine Wn ?_
                    refine Wn ?_
                    refine Wn ?_
                    refine Wy (.d (.lit (.bool false))) [] (OpF rfl) ?_
                    refine Wy (.d (.lit (.bool false))) [] (Omv rfl) ?_
                    refine Wn ?_
                    refine Wn ?_
                    refine Wn ?_
                    refine Wn ?_
                    refine Wn ?_
                    refine Wn ?_
                    refine Wy (.d (.lit (.bool false))) [] (OpF rfl) ?_
                    refine Wy (.d (.lit (.bool false))) [] (Omv rfl) ?_
                    refine Wn ?_
                    refine Wn ?_
                    refine Wn ?_
                    refine Wy (.d (.lit (.bool false))) [] (OpF rfl) ?_
                    refine Wy (.d (.lit (.bool false))) [] (Omv rfl) ?_
                    refine Wn ?_
                    refine Wn ?_
                    refine Wn ?_
                    refine Wn ?_
                    refine Wy (.d (.lit (.bool false))) [] (OpF rfl) ?_
                    refine Wy (.d (.lit (.bool false))) [] (Omv rfl) ?_
                    refine Wy (.d (.lit (.bool false))) [] (OpF rfl) ?_
                    refine Wy (.d (.lit (.bool false))) [] (Omv rfl) ?_
                    refine Walk.nil ?_
                    refine Then.normal ?_
                    refine AWP.ret ?_
                    obtain rfl := Option.some.inj hm
                    exact ret_i []
                · replace hm := cF hq96_9 hm
                  refine Wy (.d (.lit (.bool false))) [] (Ocs (lit_tf (b := decide (((List.length r43_4.1.L : Nat) : Int) = 2)) hq96_9) (Omv rfl)) ?_
                  refine Wn ?_
                  refine Wn ?_
                  refine Wn ?_
                  refine Wn ?_
                  refine Wy (.d (.lit (.bool false))) [] (OpF rfl) ?_
                  refine Wy (.d (.lit (.bool false))) [] (Omv rfl) ?_
                  refine Wn ?_
                  refine Wn ?_
                  refine Wn ?_
                  refine Wn ?_
                  refine Wy (.d (.lit (.bool false))) [] (OpF rfl) ?_
                  refine Wy (.d (.lit (.bool false))) [] (Omv rfl) ?_
                  refine Wn ?_
                  refine Wn ?_
                  refine Wy (.d (.lit (.bool false))) [] (OpF rfl) ?_
                  refine Wy (.d (.lit (.bool false))) [] (Omv rfl) ?_
                  refine Wn ?_
                  refine Wy (.d (.lit (.bool false))) [] (OpF rfl) ?_
                  refine Wy (.d (.lit (.bool false))) [] (Omv rfl) ?_
                  refine Wn ?_
                  refine Wn ?_
                  refine Wn ?_
                  refine Wn ?_
                  refine Wn ?_
                  refine Wn ?_
                  refine Wy (.d (.lit (.bool false))) [] (OpF rfl) ?_
                  refine Wy (.d (.lit (.bool false))) [] (Omv rfl) ?_
                  refine Wn ?_
                  refine Wn ?_
                  refine Wn ?_
                  refine Wn ?_
                  refine Wy (.d (.lit (.bool false))) [] (OpF rfl) ?_
                  refine Wy (.d (.lit (.bool false))) [] (Omv rfl) ?_
                  refine Wn ?_
                  refine Wn ?_
                  refine Wn ?_
                  refine Wn ?_
                  refine Wn ?_
                  refine Wn ?_
                  refine Wy (.d (.lit (.bool false))) [] (OpF rfl) ?_
                  refine Wy (.d (.lit (.bool false))) [] (Omv rfl) ?_
                  refine Wn ?_
                  refine Wn ?_
                  refine Wn ?_
                  refine Wy (.d (.lit (.bool false))) [] (OpF rfl) ?_
                  refine Wy (.d (.lit (.bool false))) [] (Omv rfl) ?_
                  refine Wn ?_
                  refine Wn ?_
                  refine Wn ?_
                  refine Wn ?_
                  refine Wy (.d (.lit (.bool false))) [] (OpF rfl) ?_
                  refine Wy (.d (.lit (.bool false))) [] (Omv rfl) ?_
                  refine Wy (.d (.lit (.bool false))) [] (OpF rfl) ?_
                  refine Wy (.d (.lit (.bool false))) [] (Omv rfl) ?_
                  refine Walk.nil ?_
                  refine Then.normal ?_
                  refine AWP.ret ?_
                  obtain rfl := Option.some.inj hm
                  exact ret_i []
              · replace hm := cF hq90_9 hm
                refine Wy (.d (.lit (.bool false))) [] (Ocs (lit_tf (b := decide (((List.length r36_3.1.L : Nat) : Int) = 2)) hq90_9) (Omv rfl)) ?_
                refine Wn ?_
                refine Wn ?_
                refine Wn ?_
                refine Wn ?_
                refine Wy (.d (.lit (.bool false))) [] (OpF rfl) ?_
                refine Wy (.d (.lit (.bool false))) [] (Omv rfl) ?_
                refine Wn ?_
                refine Wn ?_
                refine Wn ?_
                refine Wn ?_
                refine Wy (.d (.lit (.bool false))) [] (OpF rfl) ?_
                refine Wy (.d (.lit (.bool false))) [] (Omv rfl) ?_
                refine Wn ?_
                refine Wn ?_
                refine Wn ?_
                refine Wn ?_
                refine Wy (.d (.lit (.bool false))) [] (OpF rfl) ?_
                refine Wy (.d (.lit (.bool false))) [] (Omv rfl) ?_
                refine Wn ?_
                refine Wn ?_
                refine Wy (.d (.lit (.bool false))) [] (OpF rfl) ?_
                refine Wy (.d (.lit (.bool false))) [] (Omv rfl) ?_
                refine Wn ?_
                refine Wy (.d (.lit (.bool false))) [] (OpF rfl) ?_
                refine Wy (.d (.lit (.bool false))) [] (Omv rfl) ?_
                refine Wn ?_
                refine Wn ?_
                refine Wn ?_
                refine Wn ?_
                refine Wn ?_
                refine Wn ?_
                refine Wy (.d (.lit (.bool false))) [] (OpF rfl) ?_
                refine Wy (.d (.lit (.bool false))) [] (Omv rfl) ?_
                refine Wn ?_
                refine Wn ?_
                refine Wn ?_
                refine Wn ?_
                refine Wy (.d (.lit (.bool false))) [] (OpF rfl) ?_
                refine Wy (.d (.lit (.bool false))) [] (Omv rfl) ?_
                refine Wn ?_
                refine Wn ?_
                refine Wn ?_
                refine Wn ?_
                refine Wn ?_
                refine Wn ?_
                refine Wy (.d (.lit (.bool false))) [] (OpF rfl) ?_
                refine Wy (.d (.lit (.bool false))) [] (Omv rfl) ?_
                refine Wn ?_
                refine Wn ?_
                refine Wn ?_
                refine Wy (.d (.lit (.bool false))) [] (OpF rfl) ?_
                refine Wy (.d (.lit (.bool false))) [] (Omv rfl) ?_
                refine Wn ?_
                refine Wn ?_
                refine Wn ?_
                refine Wn ?_
                refine Wy (.d (.lit (.bool false))) [] (OpF rfl) ?_
                refine Wy (.d (.lit (.bool false))) [] (Omv rfl) ?_
                refine Wy (.d (.lit (.bool false))) [] (OpF rfl) ?_
                refine Wy (.d (.lit (.bool false))) [] (Omv rfl) ?_
                refine Walk.nil ?_
                refine Then.normal ?_
                refine AWP.ret ?_
                obtain rfl := Option.some.inj hm
                exact ret_i []
            · replace hm := cF hq84_9 hm
              refine Wy (.d (.lit (.bool false))) [] (Ocs (lit_tf (b := decide (r50_5.2 = 0)) hq84_9) (Omv rfl)) ?_
              refine Wn ?_
              refine Wn ?_
              refine Wn ?_
              refine Wn ?_
              refine Wy (.d (.lit (.bool false))) [] (OpF rfl) ?_
              refine Wy (.d (.lit (.bool false))) [] (Omv rfl) ?_
              refine Wn ?_
              refine Wn ?_
              refine Wn ?_
              refine Wn ?_
              refine Wy (.d (.lit (.bool false))) [] (OpF rfl) ?_
              refine Wy (.d (.lit (.bool false))) [] (Omv rfl) ?_
              refine Wn ?_
              refine Wn ?_
              refine Wn ?_
              refine Wn ?_
              refine Wy (.d (.lit (.bool false))) [] (OpF rfl) ?_
              refine Wy (.d (.lit (.bool false))) [] (Omv rfl) ?_
              refine Wn ?_
              refine Wn ?_
              refine Wn ?_
              refine Wn ?_
              refine Wy (.d (.lit (.bool false))) [] (OpF rfl) ?_
              refine Wy (.d (.lit (.bool false))) [] (Omv rfl) ?_
              refine Wn ?_
              refine Wn ?_
              refine Wy (.d (.lit (.bool false))) [] (OpF rfl) ?_
              refine Wy (.d (.lit (.bool false))) [] (Omv rfl) ?_
              refine Wn ?_
              refine Wy (.d (.lit (.bool false))) [] (OpF rfl) ?_
              refine Wy (.d (.lit (.bool false))) [] (Omv rfl) ?_
              refine Wn ?_
              refine Wn ?_
              refine Wn ?_
              refine Wn ?_
              refine Wn ?_
              refine Wn ?_
              refine Wy (.d (.lit (.bool false))) [] (OpF rfl) ?_
              refine Wy (.d (.lit (.bool false))) [] (Omv rfl) ?_
              refine Wn ?_
              refine Wn ?_
              refine Wn ?_
              refine Wn ?_
              refine Wy (.d (.lit (.bool false))) [] (OpF rfl) ?_
              refine Wy (.d (.lit (.bool false))) [] (Omv rfl) ?_
              refine Wn ?_
              refine Wn ?_
              refine Wn ?_
              refine Wn ?_
              refine Wn ?_
              refine Wn ?_
              refine Wy (.d (.lit (.bool false))) [] (OpF rfl) ?_
              refine Wy (.d (.lit (.bool false))) [] (Omv rfl) ?_
              refine Wn ?_
              refine Wn ?_
              refine Wn ?_
              refine Wy (.d (.lit (.bool false))) [] (OpF rfl) ?_
              refine Wy (.d (.lit (.bool false))) [] (Omv rfl) ?_
              refine Wn ?_
              refine Wn ?_
              refine Wn ?_
              refine Wn ?_
              refine Wy (.d (.lit (.bool false))) [] (OpF rfl) ?_
              refine Wy (.d (.lit (.bool false))) [] (Omv rfl) ?_
              refine Wy (.d (.lit (.bool false))) [] (OpF rfl) ?_
              refine Wy (.d (.lit (.bool false))) [] (Omv rfl) ?_
              refine Walk.nil ?_
              refine Then.normal ?_
              refine AWP.ret ?_
              obtain rfl := Option.some.inj hm
              exact ret_i []
          · replace hm := cF hq80_9 hm
            refine Wy (.d (.lit (.bool false))) [] (Ocs (lit_tf (b := decide (r43_4.2 = 7)) hq80_9) (Omv rfl)) ?_
            refine Wn ?_
            refine Wn ?_
            refine Wy (.d (.lit (.bool false))) [] (OpF rfl) ?_
            refine Wy (.d (.lit (.bool false))) [] (Omv rfl) ?_
            refine Wn ?_
            refine Wn ?_
            refine Wn ?_
            refine Wn ?_
            refine Wy (.d (.lit (.bool false))) [] (OpF rfl) ?_
            refine Wy (.d (.lit (.bool false))) [] (Omv rfl) ?_
            refine Wn ?_
            refine Wn ?_
            refine Wn ?_
            refine Wn ?_
            refine Wy (.d (.lit (.bool false))) [] (OpF rfl) ?_
            refine Wy (.d (.lit (.bool false))) [] (Omv rfl) ?_
            refine Wn ?_
            refine Wn ?_
            refine Wn ?_
            refine Wn ?_
            refine Wy (.d (.lit (.bool false))) [] (OpF rfl) ?_
            refine Wy (.d (.lit (.bool false))) [] (Omv rfl) ?_
            refine Wn ?_
            refine Wn ?_
            refine Wn ?_
            refine Wn ?_
            refine Wy (.d (.lit (.bool false))) [] (OpF rfl) ?_
            refine Wy (.d (.lit (.bool false))) [] (Omv rfl) ?_
            refine Wn ?_
            refine Wn ?_
            refine Wy (.d (.lit (.bool false))) [] (OpF rfl) ?_
            refine Wy (.d (.lit (.bool false))) [] (Omv rfl) ?_
            refine Wn ?_
            refine Wy (.d (.lit (.bool false))) [] (OpF rfl) ?_
            refine Wy (.d (.lit (.bool false))) [] (Omv rfl) ?_
            refine Wn ?_
            refine Wn ?_
            refine Wn ?_
            refine Wn ?_
            refine Wn ?_
            refine Wn ?_
            refine Wy (.d (.lit (.bool false))) [] (OpF rfl) ?_
            refine Wy (.d (.lit (.bool false))) [] (Omv rfl) ?_
            refine Wn ?_
            refine Wn ?_
            refine Wn ?_
            refine Wn ?_
            refine Wy (.d (.lit (.bool false))) [] (OpF rfl) ?_
            refine Wy (.d (.lit (.bool false))) [] (Omv rfl) ?_
            refine Wn ?_
            refine Wn ?_
            refine Wn ?_
            refine Wn ?_
            refine Wn ?_
            refine Wn ?_
            refine Wy (.d (.lit (.bool false))) [] (OpF rfl) ?_
            refine Wy (.d (.lit (.bool false))) [] (Omv rfl) ?_
            refine Wn ?_
            refine Wn ?_
            refine Wn ?_
            refine Wy (.d (.lit (.bool false))) [] (OpF rfl) ?_
            refine Wy (.d (.lit (.bool false))) [] (Omv rfl) ?_
            refine Wn ?_
            refine Wn ?_
            refine Wn ?_
            refine Wn ?_
            refine Wy (.d (.lit (.bool false))) [] (OpF rfl) ?_
            refine Wy (.d (.lit (.bool false))) [] (Omv rfl) ?_
            refine Wy (.d (.lit (.bool false))) [] (OpF rfl) ?_
            refine Wy (.d (.lit (.bool false))) [] (Omv rfl) ?_
            refine Walk.nil ?_
            refine Then.normal ?_
            refine AWP.ret ?_
            obtain rfl := Option.some.inj hm
            exact ret_i []
        · replace hm := cF hq76_9 hm
          refine Wy (.d (.lit (.bool false))) [] (Ocs (lit_tf (b := decide (r36_3.2 = 0)) hq76_9) (Omv rfl)) ?_
          refine Wn ?_
          refine Wn ?_
          refine Wy (.d (.lit (.bool false))) [] (OpF rfl) ?_
          refine Wy (.d (.lit (.bool false))) [] (Omv rfl) ?_
          refine Wn ?_
          refine Wn ?_
          refine Wy (.d (.lit (.bool false))) [] (OpF rfl) ?_
          refine Wy (.d (.lit (.bool false))) [] (Omv rfl) ?_
          refine Wn ?_
          refine Wn ?_
          refine Wn ?_
          refine Wn ?_
          refine Wy (.d (.lit (.bool false))) [] (OpF rfl) ?_
          refine Wy (.d (.lit (.bool false))) [] (Omv rfl) ?_
          refine Wn ?_
          refine Wn ?_
          refine Wn ?_
          refine Wn ?_
          refine Wy (.d (.lit (.bool false))) [] (OpF rfl) ?_
          refine Wy (.d (.lit (.bool false))) [] (Omv rfl) ?_
          refine Wn ?_
          refine Wn ?_
          refine Wn ?_
          refine Wn ?_
          refine Wy (.d (.lit (.bool false))) [] (OpF rfl) ?_
          refine Wy (.d (.lit (.bool false))) [] (Omv rfl) ?_
          refine Wn ?_
          refine Wn ?_
          refine Wn ?_
          refine Wn ?_
          refine Wy (.d (.lit (.bool false))) [] (OpF rfl) ?_
          refine Wy (.d (.lit (.bool false))) [] (Omv rfl) ?_
          refine Wn ?_
          refine Wn ?_
          refine Wy (.d (.lit (.bool false))) [] (OpF rfl) ?_
          refine Wy (.d (.lit (.bool false))) [] (Omv rfl) ?_
          refine Wn ?_
          refine Wy (.d (.lit (.bool false))) [] (OpF rfl) ?_
          refine Wy (.d (.lit (.bool false))) [] (Omv rfl) ?_
          refine Wn ?_
          refine Wn ?_
          refine Wn ?_
          refine Wn ?_
          refine Wn ?_
          refine Wn ?_
          refine Wy (.d (.lit (.bool false))) [] (OpF rfl) ?_
          refine Wy (.d (.lit (.bool false))) [] (Omv rfl) ?_
          refine Wn ?_
          refine Wn ?_
          refine Wn ?_
          refine Wn ?_
          refine Wy (.d (.lit (.bool false))) [] (OpF rfl) ?_
          refine Wy (.d (.lit (.bool false))) [] (Omv rfl) ?_
          refine Wn ?_
          refine Wn ?_
          refine Wn ?_
          refine Wn ?_
          refine Wn ?_
          refine Wn ?_
          refine Wy (.d (.lit (.bool false))) [] (OpF rfl) ?_
          refine Wy (.d (.lit (.bool false))) [] (Omv rfl) ?_
          refine Wn ?_
          refine Wn ?_
          refine Wn ?_
          refine Wy (.d (.lit (.bool false))) [] (OpF rfl) ?_
          refine Wy (.d (.lit (.bool false))) [] (Omv rfl) ?_
          refine Wn ?_
          refine Wn ?_
          refine Wn ?_
          refine Wn ?_
          refine Wy (.d (.lit (.bool false))) [] (OpF rfl) ?_
          refine Wy (.d (.lit (.bool false))) [] (Omv rfl) ?_
          refine Wy (.d (.lit (.bool false))) [] (OpF rfl) ?_
          refine Wy (.d (.lit (.bool false))) [] (Omv rfl) ?_
          refine Walk.nil ?_
          refine Then.normal ?_
          refine AWP.ret ?_
          obtain rfl := Option.some.inj hm
          exact ret_i []
      · replace hm := cF hq72_9 hm
        refine Wy (.d (.lit (.bool false))) [] (Ocs (lit_tf (b := decide (r29_2.2 = 0)) hq72_9) (Omv rfl)) ?_
        refine Wn ?_
        refine Wn ?_
        refine Wy (.d (.lit (.bool false))) [] (OpF rfl) ?_
        refine Wy (.d (.lit (.bool false))) [] (Omv rfl) ?_
        refine Wn ?_
        refine Wn ?_
        refine Wy (.d (.lit (.bool false))) [] (OpF rfl) ?_
        refine Wy (.d (.lit (.bool false))) [] (Omv rfl) ?_
        refine Wn ?_
        refine Wn ?_
        refine Wy (.d (.lit (.bool false))) [] (OpF rfl) ?_
        refine Wy (.d (.lit (.bool false))) [] (Omv rfl) ?_
        refine Wn ?_
        refine Wn ?_
        refine Wn ?_
        refine Wn ?_
        refine Wy (.d (.lit (.bool false))) [] (OpF rfl) ?_
        refine Wy (.d (.lit (.bool false))) [] (Omv rfl) ?_
        refine Wn ?_
        refine Wn ?_
        refine Wn ?_
        refine Wn ?_
        refine Wy (.d (.lit (.bool false))) [] (OpF rfl) ?_
        refine Wy (.d (.lit (.bool false))) [] (Omv rfl) ?_
        refine Wn ?_
        refine Wn ?_
        refine Wn ?_
        refine Wn ?_
        refine Wy (.d (.lit (.bool false))) [] (OpF rfl) ?_
        refine Wy (.d (.lit (.bool false))) [] (Omv rfl) ?_
        refine Wn ?_
        refine Wn ?_
        refine Wn ?_
        refine Wn ?_
        refine Wy (.d (.lit (.bool false))) [] (OpF rfl) ?_
        refine Wy (.d (.lit (.bool false))) [] (Omv rfl) ?_
        refine Wn ?_
        refine Wn ?_
        refine Wy (.d (.lit (.bool false))) [] (OpF rfl) ?_
        refine Wy (.d (.lit (.bool false))) [] (Omv rfl) ?_
        refine Wn ?_
        refine Wy (.d (.lit (.bool false))) [] (OpF rfl) ?_
        refine Wy (.d (.lit (.bool false))) [] (Omv rfl) ?_
        refine Wn ?_
        refine Wn ?_
        refine Wn ?_
        refine Wn ?_
        refine Wn ?_
        refine Wn ?_
        refine Wy (.d (.lit (.bool false))) [] (OpF rfl) ?_
        refine Wy (.d (.lit (.bool false))) [] (Omv rfl) ?_
        refine Wn ?_
        refine Wn ?_
        refine Wn ?_
        refine Wn ?_
        refine Wy (.d (.lit (.bool false))) [] (OpF rfl) ?_
        refine Wy (.d (.lit (.bool false))) [] (Omv rfl) ?_
        refine Wn ?_
        refine Wn ?_
        refine Wn ?_
        refine Wn ?_
        refine Wn ?_
        refine Wn ?_
        refine Wy (.d (.lit (.bool false))) [] (OpF rfl) ?_
        refine Wy (.d (.lit (.bool false))) [] (Omv rfl) ?_
        refine Wn ?_
        refine Wn ?_
        refine Wn ?_
        refine Wy (.d (.lit (.bool false))) [] (OpF rfl) ?_
        refine Wy (.d (.lit (.bool false))) [] (Omv rfl) ?_
        refine Wn ?_
        refine Wn ?_
        refine Wn ?_
        refine Wn ?_
        refine Wy (.d (.lit (.bool false))) [] (OpF rfl) ?_
        refine Wy (.d (.lit (.bool false))) [] (Omv rfl) ?_
        refine Wy (.d (.lit (.bool false))) [] (OpF rfl) ?_
        refine Wy (.d (.lit (.bool false))) [] (Omv rfl) ?_
        refine Walk.nil ?_
        refine Then.normal ?_
        refine AWP.ret ?_
        obtain rfl := Option.some.inj hm
        exact ret_i []
    · replace hm := cF hq68_9 hm
      refine Wy (.d (.lit (.bool false))) [] (Ocs (lit_tf (b := decide (r22_1.2 = 2)) hq68_9) (Omv rfl)) ?_
      refine Wn ?_
      refine Wn ?_
      refine Wy (.d (.lit (.bool false))) [] (OpF rfl) ?_
      refine Wy (.d (.lit (.bool false))) [] (Omv rfl) ?_
      refine Wn ?_
      refine Wn ?_
      refine Wy (.d (.lit (.bool false))) [] (OpF rfl) ?_
      refine Wy (.d (.lit (.bool false))) [] (Omv rfl) ?_
      refine Wn ?_
      refine Wn ?_
      refine Wy (.d (.lit (.bool false))) [] (OpF rfl) ?_
      refine Wy (.d (.lit (.bool false))) [] (Omv rfl) ?_
      refine Wn ?_
      refine Wn ?_
      refine Wy (.d (.lit (.bool false))) [] (OpF rfl) ?_
      refine Wy (.d (.lit (.bool false))) [] (Omv rfl) ?_
      refine Wn ?_
      refine Wn ?_
      refine Wn ?_
      refine Wn ?_
      refine Wy (.d (.lit (.bool false))) [] (OpF rfl) ?_
      refine Wy (.d (.lit (.bool false))) [] (Omv rfl) ?_
      refine Wn ?_
      refine Wn ?_
      refine Wn ?_
      refine Wn ?_
      refine Wy (.d (.lit (.bool false))) [] (OpF rfl) ?_
      refine Wy (.d (.lit (.bool false))) [] (Omv rfl) ?_
      refine Wn ?_
      refine Wn ?_
      refine Wn ?_
      refine Wn ?_
      refine Wy (.d (.lit (.bool false))) [] (OpF rfl) ?_
      refine Wy (.d (.lit (.bool false))) [] (Omv rfl) ?_
      refine Wn ?_
      refine Wn ?_
      refine Wn ?_
      refine Wn ?_
      refine Wy (.d (.lit (.bool false))) [] (OpF rfl) ?_
      refine Wy (.d (.lit (.bool false))) [] (Omv rfl) ?_
      refine Wn ?_
      refine Wn ?_
      refine Wy (.d (.lit (.bool false))) [] (OpF rfl) ?_
      refine Wy (.d (.lit (.bool false))) [] (Omv rfl) ?_
      refine Wn ?_
      refine Wy (.d (.lit (.bool false))) [] (OpF rfl) ?_
      refine Wy (.d (.lit (.bool false))) [] (Omv rfl) ?_
      refine Wn ?_
      refine Wn ?_
      refine Wn ?_
      refine Wn ?_
      refine Wn ?_
      refine Wn ?_
      refine Wy (.d (.lit (.bool false))) [] (OpF rfl) ?_
      refine Wy (.d (.lit (.bool false))) [] (Omv rfl) ?_
      refine Wn ?_
      refine Wn ?_
      refine Wn ?_
      refine Wn ?_
      refine Wy (.d (.lit (.bool false))) [] (OpF rfl) ?_
      refine Wy (.d (.lit (.bool false))) [] (Omv rfl) ?_
      refine Wn ?_
      refine Wn ?_
      refine Wn ?_
      refine Wn ?_
      refine Wn ?_
      refine Wn ?_
      refine Wy (.d (.lit (.bool false))) [] (OpF rfl) ?_
      refine Wy (.d (.lit (.bool false))) [] (Omv rfl) ?_
      refine Wn ?_
      refine Wn ?_
      refine Wn ?_
      refine Wy (.d (.lit (.bool false))) [] (OpF rfl) ?_
      refine Wy (.d (.lit (.bool false))) [] (Omv rfl) ?_
      refine Wn ?_
      refine Wn ?_
      refine Wn ?_
      refine Wn ?_
      refine Wy (.d (.lit (.bool false))) [] (OpF rfl) ?_
      refine Wy (.d (.lit (.bool false))) [] (Omv rfl) ?_
      refine Wy (.d (.lit (.bool false))) [] (OpF rfl) ?_
      refine Wy (.d (.lit (.bool false))) [] (Omv rfl) ?_
      refine Walk.nil ?_
      refine Then.normal ?_
      refine AWP.ret ?_
      obtain rfl := Option.some.inj hm
      exact ret_i []
  · replace hm := cF hq64_9 hm
    refine Wy (.d (.lit (.bool false))) [] (Ocs (lit_tf (b := decide (r18_0.2 = 0)) hq64_9) (Omv rfl)) ?_
    refine Wn ?_
    refine Wn ?_
    refine Wy (.d (.lit (.bool false))) [] (OpF rfl) ?_
    refine Wy (.d (.lit (.bool false))) [] (Omv rfl) ?_
    refine Wn ?_
    refine Wn ?_
    refine Wy (.d (.lit (.bool false))) [] (OpF rfl) ?_
    refine Wy (.d (.lit (.bool false))) [] (Omv rfl) ?_
    refine Wn ?_
    refine Wn ?_
    refine Wy (.d (.lit (.bool false))) [] (OpF rfl) ?_
    refine Wy (.d (.lit (.bool false))) [] (Omv rfl) ?_
    refine Wn ?_
    refine Wn ?_
    refine Wy (.d (.lit (.bool false))) [] (OpF rfl) ?_
    refine Wy (.d (.lit (.bool false))) [] (Omv rfl) ?_
    refine Wn ?_
    refine Wn ?_
    refine Wy (.d (.lit (.bool false))) [] (OpF rfl) ?_
    refine Wy (.d (.lit (.bool false))) [] (Omv rfl) ?_
    refine Wn ?_
    refine Wn ?_
    refine Wn ?_
    refine Wn ?_
    refine Wy (.d (.lit (.bool false))) [] (OpF rfl) ?_
    refine Wy (.d (.lit (.bool false))) [] (Omv rfl) ?_
    refine Wn ?_
    refine Wn ?_
    refine Wn ?_
    refine Wn ?_
    refine Wy (.d (.lit (.bool false))) [] (OpF rfl) ?_
    refine Wy (.d (.lit (.bool false))) [] (Omv rfl) ?_
    refine Wn ?_
    refine Wn ?_
    refine Wn ?_
    refine Wn ?_
    refine Wy (.d (.lit (.bool false))) [] (OpF rfl) ?_
    refine Wy (.d (.lit (.bool false))) [] (Omv rfl) ?_
    refine Wn ?_
    refine Wn ?_
    refine Wn ?_
    refine Wn ?_
    refine Wy (.d (.lit (.bool false))) [] (OpF rfl) ?_
    refine Wy (.d (.lit (.bool false))) [] (Omv rfl) ?_
    refine Wn ?_
    refine Wn ?_
    refine Wy (.d (.lit (.bool false))) [] (OpF rfl) ?_
    refine Wy (.d (.lit (.bool false))) [] (Omv rfl) ?_
    refine Wn ?_
    refine Wy (.d (.lit (.bool false))) [] (OpF rfl) ?_
    refine Wy (.d (.lit (.bool false))) [] (Omv rfl) ?_
    refine Wn ?_
    refine Wn ?_
    refine Wn ?_
    refine Wn ?_
    refine Wn ?_
    refine Wn ?_
    refine Wy (.d (.lit (.bool false))) [] (OpF rfl) ?_
    refine Wy (.d (.lit (.bool false))) [] (Omv rfl) ?_
    refine Wn ?_
    refine Wn ?_
    refine Wn ?_
    refine Wn ?_
    refine Wy (.d (.lit (.bool false))) [] (OpF rfl) ?_
    refine Wy (.d (.lit (.bool false))) [] (Omv rfl) ?_
    refine Wn ?_
    refine Wn ?_
    refine Wn ?_
    refine Wn ?_
    refine Wn ?_
    refine Wn ?_
    refine Wy (.d (.lit (.bool false))) [] (OpF rfl) ?_
    refine Wy (.d (.lit (.bool false))) [] (Omv rfl) ?_
    refine Wn ?_
    refine Wn ?_
    refine Wn ?_
    refine Wy (.d (.lit (.bool false))) [] (OpF rfl) ?_
    refine Wy (.d (.lit (.bool false))) [] (Omv rfl) ?_
    refine Wn ?_
    refine Wn ?_
    refine Wn ?_
    refine Wn ?_
    refine Wy (.d (.lit (.bool false))) [] (OpF rfl) ?_
    refine Wy (.d (.lit (.bool false))) [] (Omv rfl) ?_
    refine Wy (.d (.lit (.bool false))) [] (OpF rfl) ?_
    refine Wy (.d (.lit (.bool false))) [] (Omv rfl) ?_
    refine Walk.nil ?_
    refine Then.normal ?_
    refine AWP.ret ?_
    obtain rfl := Option.some.inj hm
    exact ret_i []

set_option maxRecDepth 20000 in
set_option maxHeartbeats 4000000 in
theorem ok_telltalelaw06_Vals (p0 : (List GValue)) (r : (List GValue)) (h : m_telltalelaw06_Vals p0 = some r) : GCall Try.prog 61 [(.d (.sl (List.length p0) (flatD enc_GValue p0)))] [] (.own 0) [(.arr 116 4 (List.length r) (flatD enc_GValue r))] := by
  refine GCall.of_body (n := 19) (rs := [(.tmp 2)]) Try.func61 rfl rfl rfl ?_
  refine Ato ⟨((.d (.sl (List.length p0) (flatD enc_GValue p0))) :: (tu 18 [])), [], 0⟩ ?_
  have hm := h
  unfold m_telltalelaw06_Vals at hm
  refine AWP.seq ?_
  refine AWP.text ?_
  refine Wy (.d .nil) [] (Omv rfl) ?_
  refine Walk.nil ?_
  refine Then.normal ?_
  refine Amk 1 0 ⟨((.d (.sl (List.length p0) (flatD enc_GValue p0))) :: (tp 18 [])), [], 0⟩ ?_
  refine AWP.seq ?_
  refine AWP.text ?_
  refine Wy (.d .nil) [] (Omv rfl) ?_
  refine Walk.nil ?_
  refine Then.normal ?_
  refine Amk 9 0 ⟨((.d (.sl (List.length p0) (flatD enc_GValue p0))) :: (tp 2 ((.d .nil) :: (tp 15 [])))), [], 0⟩ ?_
  refine AWP.seq ?_
  refine AWP.seq ?_
  refine AWP.text ?_
  refine Wy (.d (.lit (.int .i64 0))) [] (Omv rfl) ?_
  refine Walk.nil ?_
  refine Then.normal ?_
  refine Amk 25 0 ⟨((.d (.sl (List.length p0) (flatD enc_GValue p0))) :: (tp 2 ((.d .nil) :: ((.d (.lit (.int .i64 0))) :: (tp 14 []))))), [], 0⟩ ?_
  refine AWP.block ?_
  refine Aow 3 116 4 ⟨((.d (.sl (List.length p0) (flatD enc_GValue p0))) :: (tp 2 ((.own 0) :: ((.d (.lit (.int .i64 0))) :: (tp 14 []))))), [(.arr 116 4 (List.length ([] : List GValue)) (flatD enc_GValue ([] : List GValue)))], 0⟩ ?_
  refine AWP.loopI (α := Nat × (List GValue) × Int)
    (fun x => match x with | (fu_0, y3_0, y4_0) => (⟨((.d (.sl (List.length p0) (flatD enc_GValue p0))) :: (tp 2 ((.own 0) :: ((.d (.lit (.int .i64 y4_0))) :: (tp 14 []))))), [(.arr 116 4 (List.length y3_0) (flatD enc_GValue y3_0))], 0⟩ : St))
    (fun x => match x with | (fu_0, y3_0, y4_0) => m_telltalelaw06_Vals_l0 p0 fu_0 y3_0 y4_0 = some r)
    (fun x => match x with | (fu_0, y3_0, y4_0) => fu_0) (1152921504606846976, ([] : List GValue), 0)
    (Weak.toK 25 0 0 [0]) hm ?_
  rintro ⟨fu_0, y3_0, y4_0⟩ n_0 hm ih_0
  try dsimp only at hm ih_0 ⊢
  cases fu_0 with
  | zero => exact absurd hm (by unfold m_telltalelaw06_Vals_l0; simp)
  | succ fu_0 =>
    unfold m_telltalelaw06_Vals_l0 at hm
    refine AWP.seq ?_
    refine AWP.seq ?_
    refine AWP.text ?_
    refine Wy (.d (.lit (.int .i64 y4_0))) [] (Omv rfl) ?_
    refine Wy (.d (.sl (List.length p0) (flatD enc_GValue p0))) [] (Omv rfl) ?_
    refine Wy (.d (.lit (.int .i64 ((List.length p0 : Nat) : Int)))) [] (Oln rfl) ?_
    refine Wy (.d (.lit (.bool (decide (y4_0 < ((List.length p0 : Nat) : Int)))))) [] (Obn rfl (fun _ => hb_lss (k := .i64))) ?_
    refine Walk.nil ?_
    refine Then.normal ?_
    refine Amk 281 1 ⟨((.d (.sl (List.length p0) (flatD enc_GValue p0))) :: (tp 2 ((.own 0) :: ((.d (.lit (.int .i64 y4_0))) :: (tp 3 ((.d (.lit (.bool (decide (y4_0 < ((List.length p0 : Nat) : Int)))))) :: (tp 10 []))))))), [(.arr 116 4 (List.length y3_0) (flatD enc_GValue y3_0))], 0⟩ ?_
    rcases tf_ (decide (y4_0 < ((List.length p0 : Nat) : Int))) with hc8_3 | hc8_3
    · replace hm := cT hc8_3 hm
      refine AWP.if_ true (Eq.trans (by kernel_rfl) (lit_tf (b := decide (y4_0 < ((List.length p0 : Nat) : Int))) hc8_3)) ?_
      refine AWP.skip ?_
      refine Then.normal ?_
      refine Amk 25 1 ⟨((.d (.sl (List.length p0) (flatD enc_GValue p0))) :: (tp 2 ((.own 0) :: ((.d (.lit (.int .i64 y4_0))) :: (tp 14 []))))), [(.arr 116 4 (List.length y3_0) (flatD enc_GValue y3_0))], 0⟩ ?_
      refine AWP.seq ?_
      refine AWP.block ?_
      refine AWP.text ?_
      refine Wy (.own 0) [] (Omv rfl) ?_
      refine Wy (.d (.sl (List.length p0) (flatD enc_GValue p0))) [] (Omv rfl) ?_
      refine Wy (.d (.lit (.int .i64 y4_0))) [] (Omv rfl) ?_
      obtain ⟨x14_2, hx14_2, hm⟩ := bnd hm
      obtain ⟨hx14_2i, hx14_2g⟩ := geti_some hx14_2
      refine Wy (.d (.ref (List.drop ((Int.toNat y4_0) * 4) (flatD enc_GValue p0)))) [] (Oia rfl enc_GValue_len hx14_2i hx14_2g) ?_
      refine Wy (.agg [(.d (byteD x14_2.Kind)), (.d (.lit (.int .i64 x14_2.N))), (.d (.lit (.int .u64 x14_2.Bits))), (.d (.lit (.string (toS x14_2.Text))))]) [] (Lf rfl enc_GValue_len hx14_2g) ?_
      refine Wy (.own 1) [(1, (.arr 116 4 (List.length ([x14_2] : List GValue)) (flatD enc_GValue ([x14_2] : List GValue))))] (Obs rfl) ?_
      obtain ⟨a17_2, ha17_2, hm⟩ := bnd hm; obtain ⟨ha17_2e, ha17_2l⟩ := app_some ha17_2
      refine Wy (.own 2) [(0, .gone), (2, (.arr 116 4 (List.length a17_2) (flatD enc_GValue a17_2)))] (Oap rfl elemOK_89 enc_GValue_len ha17_2e ha17_2l) ?_
      refine Wy (.own 2) [] (Omv rfl) ?_
      refine Walk.nil ?_
      refine InBlock.normal ?_
      refine Then.normal ?_
      refine Amk 25 4 ⟨((.d (.sl (List.length p0) (flatD enc_GValue p0))) :: (tp 2 ((.own 2) :: ((.d (.lit (.int .i64 y4_0))) :: (tp 14 []))))), [.gone, .gone, (.arr 116 4 (List.length a17_2) (flatD enc_GValue a17_2))], 0⟩ ?_
      refine AWP.text ?_
      refine Wy (.d (.lit (.int .i64 y4_0))) [] (Omv rfl) ?_
      refine Wy (.d (.lit (.int .i64 (IntKind.i64.wrap (y4_0 + 1))))) [] (Obn rfl (fun _ => hb_add (k := .i64))) ?_
      refine Wy (.d (.lit (.int .i64 (IntKind.i64.wrap (y4_0 + 1))))) [] (Omv rfl) ?_
      refine Walk.nil ?_
      refine RoundK.normal ?_
      exact Rounds.weak (Weak.toK 25 0 0 [2]) (ih_0 (fu_0, a17_2, (IntKind.i64.wrap (y4_0 + 1))) hm (Nat.lt_succ_self _))
    · replace hm := cF hc8_3 hm
      refine AWP.if_ false (Eq.trans (by kernel_rfl) (lit_tf (b := decide (y4_0 < ((List.length p0 : Nat) : Int))) hc8_3)) ?_
      refine AWP.exit ?_
      refine Then.exit ?_
      refine RoundK.exit ?_
      refine InBlock.same ?_
      refine Then.normal ?_
      refine Amk 8 1 ⟨(tp 3 ((.own 0) :: (tp 15 []))), [(.arr 116 4 (List.length y3_0) (flatD enc_GValue y3_0))], 0⟩ ?_
      refine AWP.seq ?_
      refine AWP.text ?_
      refine Wy (.own 0) [] (Omv rfl) ?_
      refine Wy (.own 0) [] (Omv rfl) ?_
      refine Walk.nil ?_
      refine Then.normal ?_
      refine AWP.ret ?_
      obtain rfl := Option.some.inj hm
      exact ret_i [0]

set_option maxRecDepth 20000 in
set_option maxHeartbeats 4000000 in
theorem ok_telltalelaw07_Own (p0 : GEvent) (r : GEvent) (h : m_telltalelaw07_Own p0 = some r) : GCall Try.prog 50 [(.agg [(.d (.lit (.int .i64 p0.Time))), (.d (.lit (.int .i64 p0.Source))), (.d (.lit (.int .i64 p0.Seq))), (.d (.lit (.string (toS p0.Type_)))), (.d (.sl (List.length p0.Vals) (flatD enc_GValue p0.Vals)))])] [] (.agg [(.d (.lit (.int .i64 r.Time))), (.d (.lit (.int .i64 r.Source))), (.d (.lit (.int .i64 r.Seq))), (.d (.lit (.string (toS r.Type_)))), (.own 0)]) [(.arr 116 4 (List.length r.Vals) (flatD enc_GValue r.Vals))] := by
  refine GCall.of_body (n := 15) (rs := [(.cell 2 91)]) Try.func50 rfl rfl rfl ?_
  refine Ato ⟨((.agg [(.d (.lit (.int .i64 p0.Time))), (.d (.lit (.int .i64 p0.Source))), (.d (.lit (.int .i64 p0.Seq))), (.d (.lit (.string (toS p0.Type_)))), (.d (.sl (List.length p0.Vals) (flatD enc_GValue p0.Vals)))]) :: (tu 14 [])), [], 0⟩ ?_
  have hm := h
  unfold m_telltalelaw07_Own at hm
  refine AWP.seq ?_
  refine AWP.text ?_
  refine Wy (.loc 0 0) [(0, (.box [(.d (.lit (.int .i64 p0.Time))), (.d (.lit (.int .i64 p0.Source))), (.d (.lit (.int .i64 p0.Seq))), (.d (.lit (.string (toS p0.Type_)))), (.d (.sl (List.length p0.Vals) (flatD enc_GValue p0.Vals)))]))] (Obx rfl) ?_
  refine Wy (.loc 1 0) [(1, (.box [(.d (.lit (.int .i64 0))), (.d (.lit (.int .i64 0))), (.d (.lit (.int .i64 0))), (.d (.lit (.string (toS ([] : List UInt8))))), (.d .nil)]))] (Oal rfl) ?_
  refine Walk.nil ?_
  refine Then.normal ?_
  refine Amk 6 3 ⟨(tp 1 ((.loc 0 0) :: ((.loc 1 0) :: (tp 12 [])))), [(.box [(.d (.lit (.int .i64 p0.Time))), (.d (.lit (.int .i64 p0.Source))), (.d (.lit (.int .i64 p0.Seq))), (.d (.lit (.string (toS p0.Type_)))), (.d (.sl (List.length p0.Vals) (flatD enc_GValue p0.Vals)))]), (.box [(.d (.lit (.int .i64 0))), (.d (.lit (.int .i64 0))), (.d (.lit (.int .i64 0))), (.d (.lit (.string (toS ([] : List UInt8))))), (.d .nil)])], 0⟩ ?_
  refine AWP.seq ?_
  refine Adr ?_
  refine Wy (.loc 0 0) [] (Ofa rfl) ?_
  refine Wy (.d (.lit (.int .i64 p0.Time))) [] (Old rfl) ?_
  refine Wy (.loc 0 1) [] (Ofa rfl) ?_
  refine Wy (.d (.lit (.int .i64 p0.Source))) [] (Old rfl) ?_
  refine Wy (.loc 0 2) [] (Ofa rfl) ?_
  refine Wy (.d (.lit (.int .i64 p0.Seq))) [] (Old rfl) ?_
  refine Wy (.loc 0 3) [] (Ofa rfl) ?_
  refine Wy (.d (.lit (.string (toS p0.Type_)))) [] (Old rfl) ?_
  refine Wy (.loc 0 4) [] (Ofa rfl) ?_
  refine Wy (.d (.sl (List.length p0.Vals) (flatD enc_GValue p0.Vals))) [] (Old rfl) ?_
  obtain ⟨r13_0, hr13_0, hm⟩ := bnd hm
  refine Wy (.own 2) [(2, (.arr 116 4 (List.length r13_0) (flatD enc_GValue r13_0)))] (Ocf [] [2] [] 0 (ok_telltalelaw06_Vals p0.Vals r13_0 hr13_0) (fun a w => Try.call61 a w) rfl trivial) ?_
  refine Wy (.agg [(.d (.lit (.int .i64 p0.Time))), (.d (.lit (.int .i64 p0.Source))), (.d (.lit (.int .i64 p0.Seq))), (.d (.lit (.string (toS p0.Type_)))), (.own 2)]) [] (Obd rfl) ?_
  refine Wy (.tup []) [(1, (.box [(.d (.lit (.int .i64 p0.Time))), (.d (.lit (.int .i64 p0.Source))), (.d (.lit (.int .i64 p0.Seq))), (.d (.lit (.string (toS p0.Type_)))), (.own 2)]))] (Ost rfl) ?_
  refine Wdr ?_
  refine Then.normal ?_
  refine AWP.ret ?_
  obtain rfl := Option.some.inj hm
  exact ret_i [2]

set_option maxRecDepth 20000 in
set_option maxHeartbeats 4000000 in
theorem ok_telltalelaw19_Pairs (p0 : (List GPair)) (r : (List GPair)) (h : m_telltalelaw19_Pairs p0 = some r) : GCall Try.prog 33 [(.d (.sl (List.length p0) (flatD enc_GPair p0)))] [] (.own 0) [(.arr 93 6 (List.length r) (flatD enc_GPair r))] := by
  refine GCall.of_body (n := 27) (rs := [(.tmp 2)]) Try.func33 rfl rfl rfl ?_
  refine Ato ⟨((.d (.sl (List.length p0) (flatD enc_GPair p0))) :: (tu 26 [])), [], 0⟩ ?_
  have hm := h
  unfold m_telltalelaw19_Pairs at hm
  refine AWP.seq ?_
  refine AWP.text ?_
  refine Wy (.d .nil) [] (Omv rfl) ?_
  refine Walk.nil ?_
  refine Then.normal ?_
  refine Amk 1 0 ⟨((.d (.sl (List.length p0) (flatD enc_GPair p0))) :: (tp 26 [])), [], 0⟩ ?_
  refine AWP.seq ?_
  refine AWP.text ?_
  refine Wy (.d .nil) [] (Omv rfl) ?_
  refine Walk.nil ?_
  refine Then.normal ?_
  refine Amk 9 0 ⟨((.d (.sl (List.length p0) (flatD enc_GPair p0))) :: (tp 2 ((.d .nil) :: (tp 23 [])))), [], 0⟩ ?_
  refine AWP.seq ?_
  refine AWP.seq ?_
  refine AWP.text ?_
  refine Wy (.d (.lit (.int .i64 0))) [] (Omv rfl) ?_
  refine Walk.nil ?_
  refine Then.normal ?_
  refine Amk 25 0 ⟨((.d (.sl (List.length p0) (flatD enc_GPair p0))) :: (tp 2 ((.d .nil) :: ((.d (.lit (.int .i64 0))) :: (tp 22 []))))), [], 0⟩ ?_
  refine AWP.block ?_
  refine Aow 3 93 6 ⟨((.d (.sl (List.length p0) (flatD enc_GPair p0))) :: (tp 2 ((.own 0) :: ((.d (.lit (.int .i64 0))) :: (tp 22 []))))), [(.arr 93 6 (List.length ([] : List GPair)) (flatD enc_GPair ([] : List GPair)))], 0⟩ ?_
  refine AWP.loopI (α := Nat × (List GPair) × Int)
    (fun x => match x with | (fu_0, y3_0, y4_0) => (⟨((.d (.sl (List.length p0) (flatD enc_GPair p0))) :: (tp 2 ((.own 0) :: ((.d (.lit (.int .i64 y4_0))) :: (tp 22 []))))), [(.arr 93 6 (List.length y3_0) (flatD enc_GPair y3_0))], 0⟩ : St))
    (fun x => match x with | (fu_0, y3_0, y4_0) => m_telltalelaw19_Pairs_l0 p0 fu_0 y3_0 y4_0 = some r)
    (fun x => match x with | (fu_0, y3_0, y4_0) => fu_0) (1152921504606846976, ([] : List GPair), 0)
    (Weak.toK 25 0 0 [0]) hm ?_
  rintro ⟨fu_0, y3_0, y4_0⟩ n_0 hm ih_0
  try dsimp only at hm ih_0 ⊢
  cases fu_0 with
  | zero => exact absurd hm (by unfold m_telltalelaw19_Pairs_l0; simp)
  | succ fu_0 =>
    unfold m_telltalelaw19_Pairs_l0 at hm
    refine AWP.seq ?_
    refine AWP.seq ?_
    refine AWP.text ?_
    refine Wy (.d (.lit (.int .i64 y4_0))) [] (Omv rfl) ?_
    refine Wy (.d (.sl (List.length p0) (flatD enc_GPair p0))) [] (Omv rfl) ?_
    refine Wy (.d (.lit (.int .i64 ((List.length p0 : Nat) : Int)))) [] (Oln rfl) ?_
    refine Wy (.d (.lit (.bool (decide (y4_0 < ((List.length p0 : Nat) : Int)))))) [] (Obn rfl (fun _ => hb_lss (k := .i64))) ?_
    refine Walk.nil ?_
    refine Then.normal ?_
    refine Amk 281 1 ⟨((.d (.sl (List.length p0) (flatD enc_GPair p0))) :: (tp 2 ((.own 0) :: ((.d (.lit (.int .i64 y4_0))) :: (tp 3 ((.d (.lit (.bool (decide (y4_0 < ((List.length p0 : Nat) : Int)))))) :: (tp 18 []))))))), [(.arr 93 6 (List.length y3_0) (flatD enc_GPair y3_0))], 0⟩ ?_
    rcases tf_ (decide (y4_0 < ((List.length p0 : Nat) : Int))) with hc8_3 | hc8_3
    · replace hm := cT hc8_3 hm
      refine AWP.if_ true (Eq.trans (by kernel_rfl) (lit_tf (b := decide (y4_0 < ((List.length p0 : Nat) : Int))) hc8_3)) ?_
      refine AWP.skip ?_
      refine Then.normal ?_
      refine Amk 25 1 ⟨((.d (.sl (List.length p0) (flatD enc_GPair p0))) :: (tp 2 ((.own 0) :: ((.d (.lit (.int .i64 y4_0))) :: (tp 22 []))))), [(.arr 93 6 (List.length y3_0) (flatD enc_GPair y3_0))], 0⟩ ?_
      refine AWP.seq ?_
      refine AWP.block ?_
      refine Adr ?_
      refine Wy (.own 0) [] (Omv rfl) ?_
      refine Wy (.d (.sl (List.length p0) (flatD enc_GPair p0))) [] (Omv rfl) ?_
      refine Wy (.d (.lit (.int .i64 y4_0))) [] (Omv rfl) ?_
      obtain ⟨x14_2, hx14_2, hm⟩ := bnd hm
      obtain ⟨hx14_2i, hx14_2g⟩ := geti_some hx14_2
      refine Wy (.d (.ref (List.drop ((Int.toNat y4_0) * 6) (flatD enc_GPair p0)))) [] (Oia rfl enc_GPair_len hx14_2i hx14_2g) ?_
      refine Wy (.d (.ref (List.drop ((Int.toNat y4_0) * 6) (flatD enc_GPair p0)))) [] (Ofa rfl) ?_
      refine Wy (.d (.lit (.string (toS x14_2.Var)))) [] (Lf1 rfl enc_GPair_len hx14_2g) ?_
      refine Wy (.d (.sl (List.length p0) (flatD enc_GPair p0))) [] (Omv rfl) ?_
      refine Wy (.d (.lit (.int .i64 y4_0))) [] (Omv rfl) ?_
      obtain ⟨x19_2, hx19_2, hm⟩ := bnd hm
      obtain ⟨hx19_2i, hx19_2g⟩ := geti_some hx19_2
      refine Wy (.d (.ref (List.drop ((Int.toNat y4_0) * 6) (flatD enc_GPair p0)))) [] (Oia rfl enc_GPair_len hx19_2i hx19_2g) ?_
      refine Wy (.d (.ref (List.drop 1 (List.drop ((Int.toNat y4_0) * 6) (flatD enc_GPair p0))))) [] (Ofa rfl) ?_
      refine Wy (.agg [(.d (.lit (.int .i64 x19_2.E.Time))), (.d (.lit (.int .i64 x19_2.E.Source))), (.d (.lit (.int .i64 x19_2.E.Seq))), (.d (.lit (.string (toS x19_2.E.Type_)))), (.d (.sl (List.length x19_2.E.Vals) (flatD enc_GValue x19_2.E.Vals)))]) [] (Lfk 1 rfl enc_GPair_len hx19_2g) ?_
      obtain ⟨r22_2, hr22_2, hm⟩ := bnd hm
      refine Wy (.agg [(.d (.lit (.int .i64 r22_2.Time))), (.d (.lit (.int .i64 r22_2.Source))), (.d (.lit (.int .i64 r22_2.Seq))), (.d (.lit (.string (toS r22_2.Type_)))), (.d (.sl (List.length r22_2.Vals) (flatD enc_GValue r22_2.Vals)))]) [(1, (.arr 116 4 (List.length r22_2.Vals) (flatD enc_GValue r22_2.Vals))), (1, (.fro 116 4 (List.length r22_2.Vals) (flatD enc_GValue r22_2.Vals)))] (Ofz [1] (.agg [(.d (.lit (.int .i64 r22_2.Time))), (.d (.lit (.int .i64 r22_2.Source))), (.d (.lit (.int .i64 r22_2.Seq))), (.d (.lit (.string (toS r22_2.Type_)))), (.own 1)]) [(1, (.arr 116 4 (List.length r22_2.Vals) (flatD enc_GValue r22_2.Vals)))] (Ocf [] [1] [] 0 (ok_telltalelaw07_Own x19_2.E r22_2 hr22_2) (fun a w => Try.call50 a w) rfl trivial)) ?_
      refine Wy (.agg [(.d (.lit (.string (toS x14_2.Var)))), (.d (.lit (.int .i64 r22_2.Time))), (.d (.lit (.int .i64 r22_2.Source))), (.d (.lit (.int .i64 r22_2.Seq))), (.d (.lit (.string (toS r22_2.Type_)))), (.d (.sl (List.length r22_2.Vals) (flatD enc_GValue r22_2.Vals)))]) [] (Obd rfl) ?_
      refine Wy (.own 2) [(2, (.arr 93 6 (List.length ([(GPair.mk x14_2.Var r22_2)] : List GPair)) (flatD enc_GPair ([(GPair.mk x14_2.Var r22_2)] : List GPair))))] (Obs rfl) ?_
      obtain ⟨a25_2, ha25_2, hm⟩ := bnd hm; obtain ⟨ha25_2e, ha25_2l⟩ := app_some ha25_2
      refine Wy (.own 3) [(0, .gone), (3, (.arr 93 6 (List.length a25_2) (flatD enc_GPair a25_2)))] (Oap rfl elemOK_40 enc_GPair_len ha25_2e ha25_2l) ?_
      refine Wy (.own 3) [] (Omv rfl) ?_
      refine Wdr ?_
      refine InBlock.normal ?_
      refine Then.normal ?_
      refine Amk 25 8 ⟨((.d (.sl (List.length p0) (flatD enc_GPair p0))) :: (tp 2 ((.own 3) :: ((.d (.lit (.int .i64 y4_0))) :: (tp 22 []))))), [.gone, .gone, .gone, (.arr 93 6 (List.length a25_2) (flatD enc_GPair a25_2))], 0⟩ ?_
      refine AWP.text ?_
      refine Wy (.d (.lit (.int .i64 y4_0))) [] (Omv rfl) ?_
      refine Wy (.d (.lit (.int .i64 (IntKind.i64.wrap (y4_0 + 1))))) [] (Obn rfl (fun _ => hb_add (k := .i64))) ?_
      refine Wy (.d (.lit (.int .i64 (IntKind.i64.wrap (y4_0 + 1))))) [] (Omv rfl) ?_
      refine Walk.nil ?_
      refine RoundK.normal ?_
      exact Rounds.weak (Weak.toK 25 0 0 [3]) (ih_0 (fu_0, a25_2, (IntKind.i64.wrap (y4_0 + 1))) hm (Nat.lt_succ_self _))
    · replace hm := cF hc8_3 hm
      refine AWP.if_ false (Eq.trans (by kernel_rfl) (lit_tf (b := decide (y4_0 < ((List.length p0 : Nat) : Int))) hc8_3)) ?_
      refine AWP.exit ?_
      refine Then.exit ?_
      refine RoundK.exit ?_
      refine InBlock.same ?_
      refine Then.normal ?_
      refine Amk 8 1 ⟨(tp 3 ((.own 0) :: (tp 23 []))), [(.arr 93 6 (List.length y3_0) (flatD enc_GPair y3_0))], 0⟩ ?_
      refine AWP.seq ?_
      refine AWP.text ?_
      refine Wy (.own 0) [] (Omv rfl) ?_
      refine Wy (.own 0) [] (Omv rfl) ?_
      refine Walk.nil ?_
      refine Then.normal ?_
      refine AWP.ret ?_
      obtain rfl := Option.some.inj hm
      exact ret_i [0]
end Go.Proofs.Ytlbajkdbbffefaa.K
