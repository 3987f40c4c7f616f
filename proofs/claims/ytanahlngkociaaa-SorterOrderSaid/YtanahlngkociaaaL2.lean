/- each function computes what its model says (2) -/
import Derived.Test.YtanahlngkociaaaL1
namespace Go.Proofs.Ytanahlngkociaaa.K
open Go.RowKit Go.Lib
set_option linter.unusedVariables false
set_option linter.unusedSimpArgs false

set_option maxRecDepth 20000 in
set_option maxHeartbeats 4000000 in
theorem ok_sorter_Heap_int_Pop__telltalelaw24_less (p0_L : (List Int)) (r : (Int × (List Int) × Bool)) (h : m_sorter_Heap_int_Pop__telltalelaw24_less p0_L = some r) : GCall Try.prog 21 [(.agg [(.d (.sl (List.length p0_L) (flatD (encI .i64) p0_L))), (.clo (.func 20) [] [])])] [] (.tup [(.d (.lit (.int .i64 r.1))), (.agg [(.own 0), (.clo (.func 20) [] [])]), (.d (.lit (.bool r.2.2)))]) [(.arr 3 1 (List.length r.2.1) (flatD (encI .i64) r.2.1))] := by
  refine GCall.of_body (n := 48) (rs := [(.tmp 2), (.cell 3 60), (.tmp 4)]) Try.func21 rfl rfl rfl ?_
  refine Ato ⟨((.agg [(.d (.sl (List.length p0_L) (flatD (encI .i64) p0_L))), (.clo (.func 20) [] [])]) :: (tu 47 [])), [], 0⟩ ?_
  have hm := h
  unfold m_sorter_Heap_int_Pop__telltalelaw24_less at hm
  refine AWP.seq ?_
  refine AWP.text ?_
  refine Wy (.loc 0 0) [(0, (.box [(.d (.sl (List.length p0_L) (flatD (encI .i64) p0_L))), (.clo (.func 20) [] [])]))] (Obx rfl) ?_
  refine Wy (.d (.lit (.int .i64 0))) [] (Omv rfl) ?_
  refine Wy (.loc 1 0) [(1, (.box [(.d .nil), (.d (.lit .nilFunc))]))] (Oal rfl) ?_
  refine Wy (.d (.lit (.bool false))) [] (Omv rfl) ?_
  refine Walk.nil ?_
  refine Then.normal ?_
  refine Amk 10 3 ⟨(tp 1 ((.loc 0 0) :: (tp 1 ((.loc 1 0) :: (tp 44 []))))), [(.box [(.d (.sl (List.length p0_L) (flatD (encI .i64) p0_L))), (.clo (.func 20) [] [])]), (.box [(.d .nil), (.d (.lit .nilFunc))])], 0⟩ ?_
  refine AWP.seq ?_
  refine AWP.text ?_
  refine Wy (.agg [(.d (.sl (List.length p0_L) (flatD (encI .i64) p0_L))), (.clo (.func 20) [] [])]) [] (Old rfl) ?_
  obtain ⟨r12_0, hr12_0, hm⟩ := bnd hm
  refine Wy (.agg [(.own 2), (.clo (.func 20) [] [])]) [(2, (.arr 3 1 (List.length r12_0) (flatD (encI .i64) r12_0)))] (Ocf [] [2] [] 0 (ok_sorter_Heap_int_clone__telltalelaw24_less p0_L r12_0 hr12_0) (fun a w => Try.call38 a w) rfl trivial) ?_
  refine Wy (.loc 3 0) [(3, (.box [(.d .nil), (.d (.lit .nilFunc))]))] (Oal rfl) ?_
  refine Wy (.tup []) [(3, (.box [(.own 2), (.clo (.func 20) [] [])]))] (Ost rfl) ?_
  refine Walk.nil ?_
  refine Then.normal ?_
  refine Amk 40 14 ⟨(tp 3 ((.loc 1 0) :: (tp 1 ((.loc 3 0) :: (tp 42 []))))), [.gone, (.box [(.d .nil), (.d (.lit .nilFunc))]), (.arr 3 1 (List.length r12_0) (flatD (encI .i64) r12_0)), (.box [(.own 2), (.clo (.func 20) [] [])])], 0⟩ ?_
  refine AWP.seq ?_
  refine AWP.seq ?_
  refine AWP.text ?_
  refine Wy (.loc 3 0) [] (Ofa rfl) ?_
  refine Wy (.own 2) [] (Old rfl) ?_
  refine Wy (.d (.lit (.int .i64 ((List.length r12_0 : Nat) : Int)))) [] (Oln rfl) ?_
  refine Wy (.d (.lit (.bool (decide (((List.length r12_0 : Nat) : Int) = 0))))) [] (Obn rfl (fun _ => hb_eql (k := .i64))) ?_
  refine Walk.nil ?_
  refine Then.normal ?_
  refine Amk 65576 14 ⟨(tp 3 ((.loc 1 0) :: (tp 1 ((.loc 3 0) :: (tp 10 ((.d (.lit (.bool (decide (((List.length r12_0 : Nat) : Int) = 0))))) :: (tp 31 []))))))), [.gone, (.box [(.d .nil), (.d (.lit .nilFunc))]), (.arr 3 1 (List.length r12_0) (flatD (encI .i64) r12_0)), (.box [(.own 2), (.clo (.func 20) [] [])])], 0⟩ ?_
  rcases tf_ (decide (((List.length r12_0 : Nat) : Int) = 0)) with hc16_8 | hc16_8
  · replace hm := cT hc16_8 hm
    refine AWP.if_ true (Eq.trans (by kernel_rfl) (lit_tf (b := decide (((List.length r12_0 : Nat) : Int) = 0)) hc16_8)) ?_
    refine AWP.seq ?_
    refine AWP.text ?_
    refine Wy (.d (.lit (.int .i64 0))) [] (Omv rfl) ?_
    refine Walk.nil ?_
    refine Then.normal ?_
    refine Amk 104 14 ⟨(tp 3 ((.loc 1 0) :: (tp 1 ((.loc 3 0) :: ((.d (.lit (.int .i64 0))) :: (tp 41 [])))))), [.gone, (.box [(.d .nil), (.d (.lit .nilFunc))]), (.arr 3 1 (List.length r12_0) (flatD (encI .i64) r12_0)), (.box [(.own 2), (.clo (.func 20) [] [])])], 0⟩ ?_
    refine AWP.seq ?_
    refine Adr ?_
    refine Wy (.d (.lit (.int .i64 0))) [] (Omv rfl) ?_
    refine Wy (.agg [(.own 2), (.clo (.func 20) [] [])]) [] (Old rfl) ?_
    refine Wy (.d (.lit (.int .i64 0))) [] (Omv rfl) ?_
    refine Wy (.tup []) [(1, (.box [(.own 2), (.clo (.func 20) [] [])]))] (Ost rfl) ?_
    refine Wy (.d (.lit (.bool false))) [] (Omv rfl) ?_
    refine Wdr ?_
    refine Then.normal ?_
    refine AWP.ret ?_
    refine Then.ret ?_
    obtain rfl := Option.some.inj hm
    exact ret_i [2]
  · replace hm := cF hc16_8 hm
    refine AWP.if_ false (Eq.trans (by kernel_rfl) (lit_tf (b := decide (((List.length r12_0 : Nat) : Int) = 0)) hc16_8)) ?_
    refine AWP.skip ?_
    refine Then.normal ?_
    refine Amk 40 14 ⟨(tp 3 ((.loc 1 0) :: (tp 1 ((.loc 3 0) :: (tp 42 []))))), [.gone, (.box [(.d .nil), (.d (.lit .nilFunc))]), (.arr 3 1 (List.length r12_0) (flatD (encI .i64) r12_0)), (.box [(.own 2), (.clo (.func 20) [] [])])], 0⟩ ?_
    refine AWP.seq ?_
    refine Adr ?_
    refine Wy (.loc 3 0) [] (Ofa rfl) ?_
    refine Wy (.own 2) [] (Old rfl) ?_
    obtain ⟨x21_2, hx21_2, hm⟩ := bnd hm
    obtain ⟨hx21_2i, hx21_2g⟩ := geti_some hx21_2
    refine Wy (.loc 2 ((Int.toNat 0) * 1)) [] (Oia rfl (encI_len (k := .i64)) hx21_2i hx21_2g) ?_
    refine Wy (.d (.lit (.int .i64 x21_2))) [] (Lr1 rfl (encI_len (k := .i64)) hx21_2g) ?_
    refine Wy (.loc 3 0) [] (Ofa rfl) ?_
    refine Wy (.own 2) [] (Old rfl) ?_
    refine Wy (.d (.lit (.int .i64 ((List.length r12_0 : Nat) : Int)))) [] (Oln rfl) ?_
    refine Wy (.d (.lit (.int .i64 (IntKind.i64.wrap (((List.length r12_0 : Nat) : Int) - 1))))) [] (Obn rfl (fun _ => hb_sub (k := .i64))) ?_
    refine Wy (.d (.lit (.int .i64 x21_2))) [] (Omv rfl) ?_
    refine Wy (.d (.lit (.int .i64 (IntKind.i64.wrap (((List.length r12_0 : Nat) : Int) - 1))))) [] (Omv rfl) ?_
    refine Wdr ?_
    refine Then.normal ?_
    refine Amk 424 14 ⟨(tp 3 ((.loc 1 0) :: (tp 1 ((.loc 3 0) :: (tp 1 ((.d (.lit (.int .i64 x21_2))) :: ((.d (.lit (.int .i64 (IntKind.i64.wrap (((List.length r12_0 : Nat) : Int) - 1))))) :: (tp 39 [])))))))), [.gone, (.box [(.d .nil), (.d (.lit .nilFunc))]), (.arr 3 1 (List.length r12_0) (flatD (encI .i64) r12_0)), (.box [(.own 2), (.clo (.func 20) [] [])])], 0⟩ ?_
    refine AWP.seq ?_
    refine AWP.text ?_
    refine Wy (.agg [(.own 2), (.clo (.func 20) [] [])]) [] (Old rfl) ?_
    refine Wy (.d (.lit (.int .i64 (IntKind.i64.wrap (((List.length r12_0 : Nat) : Int) - 1))))) [] (Omv rfl) ?_
    obtain ⟨r29_3, hr29_3, hm⟩ := bnd hm
    refine Wy (.tup []) [(2, (.arr 3 1 (List.length r29_3) (flatD (encI .i64) r29_3)))] (Ocf [2] [] [] 0 (ok_sorter_Heap_int_swap__telltalelaw24_less r12_0 0 (IntKind.i64.wrap (((List.length r12_0 : Nat) : Int) - 1)) r29_3 hr29_3) (fun a w => Try.call39 a w) rfl ⟨rfl, trivial⟩) ?_
    refine Walk.nil ?_
    refine Then.normal ?_
    refine Amk 424 14 ⟨(tp 3 ((.loc 1 0) :: (tp 1 ((.loc 3 0) :: (tp 1 ((.d (.lit (.int .i64 x21_2))) :: ((.d (.lit (.int .i64 (IntKind.i64.wrap (((List.length r12_0 : Nat) : Int) - 1))))) :: (tp 39 [])))))))), [.gone, (.box [(.d .nil), (.d (.lit .nilFunc))]), (.arr 3 1 (List.length r29_3) (flatD (encI .i64) r29_3)), (.box [(.own 2), (.clo (.func 20) [] [])])], 0⟩ ?_
    refine AWP.seq ?_
    refine AWP.text ?_
    refine Wy (.loc 3 0) [] (Ofa rfl) ?_
    refine Wy (.own 2) [] (Old rfl) ?_
    refine Wy (.d (.lit (.int .i64 (IntKind.i64.wrap (((List.length r12_0 : Nat) : Int) - 1))))) [] (Omv rfl) ?_
    obtain ⟨s33_4, hs33_4, hm⟩ := bnd hm; obtain ⟨hs33_4a, hs33_4b, hs33_4c, hs33_4d, hs33_4e⟩ := cut_some hs33_4
    refine Wy (.own 4) [(2, .gone), (4, (.arr 3 1 (List.length s33_4) (flatD (encI .i64) s33_4)))] (OcB (op_sliceTo rfl (id := 2) (e := 3) (sz := 1) (n := List.length r29_3) (xs := flatD (encI .i64) r29_3) (by kernel_rfl) (by kernel_rfl) (by kernel_rfl) (k := .i64) (hv := (IntKind.i64.wrap (((List.length r12_0 : Nat) : Int) - 1))) (by kernel_rfl) (h := (Int.toNat (IntKind.i64.wrap (((List.length r12_0 : Nat) : Int) - 1)))) hs33_4b hs33_4d (by kernel_rfl) (by decide)) (bl_app (cut_len0 hs33_4e hs33_4d) (cut_take0 (encI_len (k := .i64)) hs33_4e))) ?_
    refine Wy (.loc 3 0) [] (Ofa rfl) ?_
    refine Wy (.tup []) [(3, (.box [(.own 4), (.clo (.func 20) [] [])]))] (Ost rfl) ?_
    refine Walk.nil ?_
    refine Then.normal ?_
    refine Amk 168 26 ⟨(tp 3 ((.loc 1 0) :: (tp 1 ((.loc 3 0) :: (tp 1 ((.d (.lit (.int .i64 x21_2))) :: (tp 40 []))))))), [.gone, (.box [(.d .nil), (.d (.lit .nilFunc))]), .gone, (.box [(.own 4), (.clo (.func 20) [] [])]), (.arr 3 1 (List.length s33_4) (flatD (encI .i64) s33_4))], 0⟩ ?_
    refine AWP.seq ?_
    refine AWP.seq ?_
    refine AWP.text ?_
    refine Wy (.d (.lit (.int .i64 0))) [] (Omv rfl) ?_
    refine Walk.nil ?_
    refine Then.normal ?_
    refine Amk 680 26 ⟨(tp 3 ((.loc 1 0) :: (tp 1 ((.loc 3 0) :: (tp 1 ((.d (.lit (.int .i64 x21_2))) :: (tp 1 ((.d (.lit (.int .i64 0))) :: (tp 38 []))))))))), [.gone, (.box [(.d .nil), (.d (.lit .nilFunc))]), .gone, (.box [(.own 4), (.clo (.func 20) [] [])]), (.arr 3 1 (List.length s33_4) (flatD (encI .i64) s33_4))], 0⟩ ?_
    refine AWP.block ?_
    refine AWP.loopI (α := Nat × (List Int) × Int)
      (fun x => match x with | (fu_5, y5_d_0_5, y9_5) => (⟨(tp 3 ((.loc 0 0) :: (tp 1 ((.loc 1 0) :: (tp 1 ((.d (.lit (.int .i64 x21_2))) :: (tp 1 ((.d (.lit (.int .i64 y9_5))) :: (tp 38 []))))))))), [(.box [(.d .nil), (.d (.lit .nilFunc))]), (.box [(.own 2), (.clo (.func 20) [] [])]), (.arr 3 1 (List.length y5_d_0_5) (flatD (encI .i64) y5_d_0_5))], 0⟩ : St))
      (fun x => match x with | (fu_5, y5_d_0_5, y9_5) => m_sorter_Heap_int_Pop__telltalelaw24_less_l5 x21_2 fu_5 y5_d_0_5 y9_5 = some r)
      (fun x => match x with | (fu_5, y5_d_0_5, y9_5) => fu_5) (1152921504606846976, s33_4, 0)
      (Weak.toK 680 0 0 [1, 3, 4]) hm ?_
    rintro ⟨fu_5, y5_d_0_5, y9_5⟩ n_5 hm ih_5
    try dsimp only at hm ih_5 ⊢
    cases fu_5 with
    | zero => exact absurd hm (by unfold m_sorter_Heap_int_Pop__telltalelaw24_less_l5; simp)
    | succ fu_5 =>
      unfold m_sorter_Heap_int_Pop__telltalelaw24_less_l5 at hm
      refine AWP.block ?_
      refine AWP.seq ?_
      refine AWP.text ?_
      refine Wy (.agg [(.own 2), (.clo (.func 20) [] [])]) [] (Old rfl) ?_
      refine Wy (.d (.lit (.int .i64 y9_5))) [] (Omv rfl) ?_
      obtain ⟨r37_6, hr37_6, hm⟩ := bnd hm
      refine Wy (.d (.lit (.int .i64 r37_6))) [] (Ocp [] [] [2] 0 (ok_sorter_Heap_int_least__telltalelaw24_less y5_d_0_5 y9_5 r37_6 hr37_6) (plain_triv (by simp [A.Plain, A.Plains, D.Plain, byteD])) (fun a w => Try.call40 a w) rfl trivial) ?_
      refine Wy (.d (.lit (.int .i64 r37_6))) [] (Omv rfl) ?_
      refine Walk.nil ?_
      refine Then.normal ?_
      refine Amk 1704 7 ⟨(tp 3 ((.loc 0 0) :: (tp 1 ((.loc 1 0) :: (tp 1 ((.d (.lit (.int .i64 x21_2))) :: (tp 1 ((.d (.lit (.int .i64 y9_5))) :: ((.d (.lit (.int .i64 r37_6))) :: (tp 37 [])))))))))), [(.box [(.d .nil), (.d (.lit .nilFunc))]), (.box [(.own 2), (.clo (.func 20) [] [])]), (.arr 3 1 (List.length y5_d_0_5) (flatD (encI .i64) y5_d_0_5))], 0⟩ ?_
      refine AWP.seq ?_
      refine AWP.seq ?_
      refine AWP.text ?_
      refine Wy (.d (.lit (.int .i64 r37_6))) [] (Omv rfl) ?_
      refine Wy (.d (.lit (.int .i64 y9_5))) [] (Omv rfl) ?_
      refine Wy (.d (.lit (.bool (decide (r37_6 = y9_5))))) [] (Obn rfl (fun _ => hb_eql (k := .i64))) ?_
      refine Walk.nil ?_
      refine Then.normal ?_
      refine Amk 1099511629480 7 ⟨(tp 3 ((.loc 0 0) :: (tp 1 ((.loc 1 0) :: (tp 1 ((.d (.lit (.int .i64 x21_2))) :: (tp 1 ((.d (.lit (.int .i64 y9_5))) :: ((.d (.lit (.int .i64 r37_6))) :: (tp 29 ((.d (.lit (.bool (decide (r37_6 = y9_5))))) :: (tp 7 [])))))))))))), [(.box [(.d .nil), (.d (.lit .nilFunc))]), (.box [(.own 2), (.clo (.func 20) [] [])]), (.arr 3 1 (List.length y5_d_0_5) (flatD (encI .i64) y5_d_0_5))], 0⟩ ?_
      rcases tf_ (decide (r37_6 = y9_5)) with hc40_9 | hc40_9
      · replace hm := cT hc40_9 hm
        refine AWP.if_ true (Eq.trans (by kernel_rfl) (lit_tf (b := decide (r37_6 = y9_5)) hc40_9)) ?_
        refine AWP.exit ?_
        refine Then.exit ?_
        refine InBlock.other (by rfl) ?_
        refine RoundK.exit ?_
        refine InBlock.same ?_
        refine Then.normal ?_
        refine Amk 168 7 ⟨(tp 3 ((.loc 0 0) :: (tp 1 ((.loc 1 0) :: (tp 1 ((.d (.lit (.int .i64 x21_2))) :: (tp 40 []))))))), [(.box [(.d .nil), (.d (.lit .nilFunc))]), (.box [(.own 2), (.clo (.func 20) [] [])]), (.arr 3 1 (List.length y5_d_0_5) (flatD (encI .i64) y5_d_0_5))], 0⟩ ?_
        refine AWP.seq ?_
        refine Adr ?_
        refine Wy (.d (.lit (.int .i64 x21_2))) [] (Omv rfl) ?_
        refine Wy (.agg [(.own 2), (.clo (.func 20) [] [])]) [] (Old rfl) ?_
        refine Wy (.d (.lit (.int .i64 x21_2))) [] (Omv rfl) ?_
        refine Wy (.tup []) [(0, (.box [(.own 2), (.clo (.func 20) [] [])]))] (Ost rfl) ?_
        refine Wy (.d (.lit (.bool true))) [] (Omv rfl) ?_
        refine Wdr ?_
        refine Then.normal ?_
        refine AWP.ret ?_
        obtain rfl := Option.some.inj hm
        exact ret_i [2]
      · replace hm := cF hc40_9 hm
        refine AWP.if_ false (Eq.trans (by kernel_rfl) (lit_tf (b := decide (r37_6 = y9_5)) hc40_9)) ?_
        refine AWP.skip ?_
        refine Then.normal ?_
        refine Amk 1704 7 ⟨(tp 3 ((.loc 0 0) :: (tp 1 ((.loc 1 0) :: (tp 1 ((.d (.lit (.int .i64 x21_2))) :: (tp 1 ((.d (.lit (.int .i64 y9_5))) :: ((.d (.lit (.int .i64 r37_6))) :: (tp 37 [])))))))))), [(.box [(.d .nil), (.d (.lit .nilFunc))]), (.box [(.own 2), (.clo (.func 20) [] [])]), (.arr 3 1 (List.length y5_d_0_5) (flatD (encI .i64) y5_d_0_5))], 0⟩ ?_
        refine AWP.seq ?_
        refine AWP.text ?_
        refine Wy (.agg [(.own 2), (.clo (.func 20) [] [])]) [] (Old rfl) ?_
        refine Wy (.d (.lit (.int .i64 y9_5))) [] (Omv rfl) ?_
        refine Wy (.d (.lit (.int .i64 r37_6))) [] (Omv rfl) ?_
        obtain ⟨r44_7, hr44_7, hm⟩ := bnd hm
        refine Wy (.tup []) [(2, (.arr 3 1 (List.length r44_7) (flatD (encI .i64) r44_7)))] (Ocf [2] [] [] 0 (ok_sorter_Heap_int_swap__telltalelaw24_less y5_d_0_5 y9_5 r37_6 r44_7 hr44_7) (fun a w => Try.call39 a w) rfl ⟨rfl, trivial⟩) ?_
        refine Walk.nil ?_
        refine Then.normal ?_
        refine Amk 1192 7 ⟨(tp 3 ((.loc 0 0) :: (tp 1 ((.loc 1 0) :: (tp 1 ((.d (.lit (.int .i64 x21_2))) :: (tp 2 ((.d (.lit (.int .i64 r37_6))) :: (tp 37 []))))))))), [(.box [(.d .nil), (.d (.lit .nilFunc))]), (.box [(.own 2), (.clo (.func 20) [] [])]), (.arr 3 1 (List.length r44_7) (flatD (encI .i64) r44_7))], 0⟩ ?_
        refine AWP.text ?_
        refine Wy (.d (.lit (.int .i64 r37_6))) [] (Omv rfl) ?_
        refine Wy (.d (.lit (.int .i64 r37_6))) [] (Omv rfl) ?_
        refine Walk.nil ?_
        refine InBlock.normal ?_
        refine RoundK.normal ?_
        exact Rounds.weak (Weak.toK 680 0 0 [0, 1, 2]) (ih_5 (fu_5, r44_7, r37_6) hm (Nat.lt_succ_self _))

set_option maxRecDepth 20000 in
set_option maxHeartbeats 4000000 in
theorem ok_sorter_Fine_int__telltalelaw24_less (p0_L : (List Int)) (r : Bool) (h : m_sorter_Fine_int__telltalelaw24_less p0_L = some r) : GCall Try.prog 23 [(.agg [(.d (.sl (List.length p0_L) (flatD (encI .i64) p0_L))), (.clo (.func 20) [] [])])] [] (.d (.lit (.bool r))) [] := by
  refine GCall.of_body (n := 17) (rs := [(.tmp 2)]) Try.func23 rfl rfl rfl ?_
  refine Ato ⟨((.agg [(.d (.sl (List.length p0_L) (flatD (encI .i64) p0_L))), (.clo (.func 20) [] [])]) :: (tu 16 [])), [], 0⟩ ?_
  have hm := h
  unfold m_sorter_Fine_int__telltalelaw24_less at hm
  refine AWP.seq ?_
  refine AWP.text ?_
  refine Wy (.loc 0 0) [(0, (.box [(.d (.sl (List.length p0_L) (flatD (encI .i64) p0_L))), (.clo (.func 20) [] [])]))] (Obx rfl) ?_
  refine Wy (.d (.lit (.bool false))) [] (Omv rfl) ?_
  refine Walk.nil ?_
  refine Then.normal ?_
  refine Amk 2 1 ⟨(tp 1 ((.loc 0 0) :: (tp 15 []))), [(.box [(.d (.sl (List.length p0_L) (flatD (encI .i64) p0_L))), (.clo (.func 20) [] [])])], 0⟩ ?_
  refine AWP.seq ?_
  refine AWP.seq ?_
  refine AWP.text ?_
  refine Wy (.d (.lit (.int .i64 1))) [] (Omv rfl) ?_
  refine Walk.nil ?_
  refine Then.normal ?_
  refine Amk 10 1 ⟨(tp 1 ((.loc 0 0) :: (tp 1 ((.d (.lit (.int .i64 1))) :: (tp 13 []))))), [(.box [(.d (.sl (List.length p0_L) (flatD (encI .i64) p0_L))), (.clo (.func 20) [] [])])], 0⟩ ?_
  refine AWP.block ?_
  refine AWP.loopI (α := Nat × Int)
    (fun x => match x with | (fu_0, y3_0) => (⟨(tp 1 ((.loc 0 0) :: (tp 1 ((.d (.lit (.int .i64 y3_0))) :: (tp 13 []))))), [(.box [(.d (.sl (List.length p0_L) (flatD (encI .i64) p0_L))), (.clo (.func 20) [] [])])], 0⟩ : St))
    (fun x => match x with | (fu_0, y3_0) => m_sorter_Fine_int__telltalelaw24_less_l0 p0_L fu_0 y3_0 = some r)
    (fun x => match x with | (fu_0, y3_0) => fu_0) (1152921504606846976, 1)
    (Weak.toK 10 0 0 [0]) hm ?_
  rintro ⟨fu_0, y3_0⟩ n_0 hm ih_0
  try dsimp only at hm ih_0 ⊢
  cases fu_0 with
  | zero => exact absurd hm (by unfold m_sorter_Fine_int__telltalelaw24_less_l0; simp)
  | succ fu_0 =>
    unfold m_sorter_Fine_int__telltalelaw24_less_l0 at hm
    refine AWP.seq ?_
    refine AWP.seq ?_
    refine AWP.text ?_
    refine Wy (.d (.lit (.int .i64 y3_0))) [] (Omv rfl) ?_
    refine Wy (.loc 0 0) [] (Ofa rfl) ?_
    refine Wy (.d (.sl (List.length p0_L) (flatD (encI .i64) p0_L))) [] (Old rfl) ?_
    refine Wy (.d (.lit (.int .i64 ((List.length p0_L : Nat) : Int)))) [] (Oln rfl) ?_
    refine Wy (.d (.lit (.bool (decide (y3_0 < ((List.length p0_L : Nat) : Int)))))) [] (Obn rfl (fun _ => hb_lss (k := .i64))) ?_
    refine Walk.nil ?_
    refine Then.normal ?_
    refine Amk 266 1 ⟨(tp 1 ((.loc 0 0) :: (tp 1 ((.d (.lit (.int .i64 y3_0))) :: (tp 4 ((.d (.lit (.bool (decide (y3_0 < ((List.length p0_L : Nat) : Int)))))) :: (tp 8 []))))))), [(.box [(.d (.sl (List.length p0_L) (flatD (encI .i64) p0_L))), (.clo (.func 20) [] [])])], 0⟩ ?_
    rcases tf_ (decide (y3_0 < ((List.length p0_L : Nat) : Int))) with hc8_3 | hc8_3
    · replace hm := cT hc8_3 hm
      refine AWP.if_ true (Eq.trans (by kernel_rfl) (lit_tf (b := decide (y3_0 < ((List.length p0_L : Nat) : Int))) hc8_3)) ?_
      refine AWP.skip ?_
      refine Then.normal ?_
      refine Amk 10 1 ⟨(tp 1 ((.loc 0 0) :: (tp 1 ((.d (.lit (.int .i64 y3_0))) :: (tp 13 []))))), [(.box [(.d (.sl (List.length p0_L) (flatD (encI .i64) p0_L))), (.clo (.func 20) [] [])])], 0⟩ ?_
      refine AWP.seq ?_
      refine AWP.block ?_
      refine AWP.seq ?_
      refine AWP.text ?_
      refine Wy (.agg [(.d (.sl (List.length p0_L) (flatD (encI .i64) p0_L))), (.clo (.func 20) [] [])]) [] (Old rfl) ?_
      refine Wy (.d (.lit (.int .i64 y3_0))) [] (Omv rfl) ?_
      refine Wy (.d (.lit (.int .i64 y3_0))) [] (Omv rfl) ?_
      refine Wy (.d (.lit (.int .i64 (IntKind.i64.wrap (y3_0 - 1))))) [] (Obn rfl (fun _ => hb_sub (k := .i64))) ?_
      refine Wy (.d (.lit (.int .i64 (IntKind.i64.wrap (Int.tdiv (IntKind.i64.wrap (y3_0 - 1)) 2))))) [] (Ocs (by kernel_rfl) (op_bin rfl (a1 := .int .i64 (IntKind.i64.wrap (y3_0 - 1))) (a2 := .int .i64 2) (by kernel_rfl) (by kernel_rfl) (fun _ => hb_quo (by decide)))) ?_
      obtain ⟨r16_2, hr16_2, hm⟩ := bnd hm
      refine Wy (.d (.lit (.bool r16_2))) [] (Ocf [] [] [] 0 (ok_sorter_Heap_int_less__telltalelaw24_less p0_L y3_0 (IntKind.i64.wrap (Int.tdiv (IntKind.i64.wrap (y3_0 - 1)) 2)) r16_2 hr16_2) (fun a w => Try.call41 a w) rfl trivial) ?_
      refine Walk.nil ?_
      refine Then.normal ?_
      refine Amk 65546 1 ⟨(tp 1 ((.loc 0 0) :: (tp 1 ((.d (.lit (.int .i64 y3_0))) :: (tp 12 ((.d (.lit (.bool r16_2))) :: [])))))), [(.box [(.d (.sl (List.length p0_L) (flatD (encI .i64) p0_L))), (.clo (.func 20) [] [])])], 0⟩ ?_
      rcases tf_ r16_2 with hc16_4 | hc16_4
      · replace hm := cT hc16_4 hm
        refine AWP.if_ true (Eq.trans (by kernel_rfl) (lit_tf (b := r16_2) hc16_4)) ?_
        refine AWP.seq ?_
        refine AWP.text ?_
        refine Wy (.d (.lit (.bool false))) [] (Omv rfl) ?_
        refine Walk.nil ?_
        refine Then.normal ?_
        refine AWP.ret ?_
        refine InBlock.ret ?_
        refine Then.ret ?_
        refine RoundK.ret ?_
        refine InBlock.ret ?_
        refine Then.ret ?_
        obtain rfl := Option.some.inj hm
        exact ret_i []
      · replace hm := cF hc16_4 hm
        refine AWP.if_ false (Eq.trans (by kernel_rfl) (lit_tf (b := r16_2) hc16_4)) ?_
        refine AWP.skip ?_
        refine InBlock.normal ?_
        refine Then.normal ?_
        refine Amk 10 1 ⟨(tp 1 ((.loc 0 0) :: (tp 1 ((.d (.lit (.int .i64 y3_0))) :: (tp 13 []))))), [(.box [(.d (.sl (List.length p0_L) (flatD (encI .i64) p0_L))), (.clo (.func 20) [] [])])], 0⟩ ?_
        refine AWP.text ?_
        refine Wy (.d (.lit (.int .i64 y3_0))) [] (Omv rfl) ?_
        refine Wy (.d (.lit (.int .i64 (IntKind.i64.wrap (y3_0 + 1))))) [] (Obn rfl (fun _ => hb_add (k := .i64))) ?_
        refine Wy (.d (.lit (.int .i64 (IntKind.i64.wrap (y3_0 + 1))))) [] (Omv rfl) ?_
        refine Walk.nil ?_
        refine RoundK.normal ?_
        exact Rounds.weak (Weak.toK 10 0 0 [0]) (ih_0 (fu_0, (IntKind.i64.wrap (y3_0 + 1))) hm (Nat.lt_succ_self _))
    · replace hm := cF hc8_3 hm
      refine AWP.if_ false (Eq.trans (by kernel_rfl) (lit_tf (b := decide (y3_0 < ((List.length p0_L : Nat) : Int))) hc8_3)) ?_
      refine AWP.exit ?_
      refine Then.exit ?_
      refine RoundK.exit ?_
      refine InBlock.same ?_
      refine Then.normal ?_
      refine Amk 0 0 ⟨(tp 17 []), [.gone], 0⟩ ?_
      refine AWP.seq ?_
      refine AWP.text ?_
      refine Wy (.d (.lit (.bool true))) [] (Omv rfl) ?_
      refine Walk.nil ?_
      refine Then.normal ?_
      refine AWP.ret ?_
      obtain rfl := Option.some.inj hm
      exact ret_i []

set_option maxRecDepth 20000 in
set_option maxHeartbeats 4000000 in
theorem ok_telltalelaw24_awake (r : Bool) (h : m_telltalelaw24_awake = some r) : GCall Try.prog 7 [] [] (.d (.lit (.bool r))) [] := by
  refine GCall.of_body (n := 146) (rs := [(.tmp 0)]) Try.func7 rfl rfl rfl ?_
  refine Ato ⟨(tu 146 []), [], 0⟩ ?_
  have hm := h
  unfold m_telltalelaw24_awake at hm
  refine AWP.seq ?_
  refine AWP.text ?_
  refine Wy (.d (.lit (.bool false))) [] (Omv rfl) ?_
  refine Walk.nil ?_
  refine Then.normal ?_
  refine Amk 0 0 ⟨(tp 146 []), [], 0⟩ ?_
  refine AWP.seq ?_
  refine AWP.text ?_
  obtain ⟨r21_0, hr21_0, hm⟩ := bnd hm
  refine Wy (.tup [(.agg [(.d (.lit (.int .i64 r21_0.1.Cap))), (.d (.sl (List.length r21_0.1.L) (flatD enc_GEvent r21_0.1.L)))]), (.d (.lit (.int .i64 r21_0.2)))]) [] (Ocf [] [] [] 0 (ok_sorter_New 3 r21_0 hr21_0) (fun a w => Try.call8 a w) rfl trivial) ?_
  refine Wy (.tup [(.agg [(.d (.lit (.int .i64 r21_0.1.Cap))), (.d (.sl (List.length r21_0.1.L) (flatD enc_GEvent r21_0.1.L)))]), (.d (.lit (.int .i64 r21_0.2)))]) [] (Omv rfl) ?_
  refine Wy (.agg [(.d (.lit (.int .i64 r21_0.1.Cap))), (.d (.sl (List.length r21_0.1.L) (flatD enc_GEvent r21_0.1.L)))]) [] (Oex rfl) ?_
  refine Wy (.d (.lit (.int .i64 r21_0.2))) [] (Oex rfl) ?_
  refine Wy (.loc 0 0) [(0, (.box [(.d (.lit (.int .i64 0))), (.d .nil)]))] (Oal rfl) ?_
  refine Wy (.tup []) [(0, (.box [(.d (.lit (.int .i64 r21_0.1.Cap))), (.d (.sl (List.length r21_0.1.L) (flatD enc_GEvent r21_0.1.L)))]))] (Ost rfl) ?_
  refine Wy (.d (.lit (.int .i64 r21_0.2))) [] (Omv rfl) ?_
  refine Walk.nil ?_
  refine Then.normal ?_
  refine Amk 6 1 ⟨(tp 1 ((.loc 0 0) :: ((.d (.lit (.int .i64 r21_0.2))) :: (tp 143 [])))), [(.box [(.d (.lit (.int .i64 r21_0.1.Cap))), (.d (.sl (List.length r21_0.1.L) (flatD enc_GEvent r21_0.1.L)))])], 0⟩ ?_
  refine AWP.seq ?_
  refine AWP.text ?_
  refine Wy (.agg [(.d (.lit (.int .i64 r21_0.1.Cap))), (.d (.sl (List.length r21_0.1.L) (flatD enc_GEvent r21_0.1.L)))]) [] (Old rfl) ?_
  refine Wy (.agg [(.d (.lit (.int .i64 5))), (.d (.lit (.int .i64 0))), (.d (.lit (.int .i64 0))), (.d (.lit (.string (toS ([] : List UInt8))))), (.d .nil)]) [] (Obd rfl) ?_
  obtain ⟨r27_1, hr27_1, hm⟩ := bnd hm
  refine Wy (.tup [(.agg [(.d (.lit (.int .i64 r27_1.1.Cap))), (.d (.sl (List.length r27_1.1.L) (flatD enc_GEvent r27_1.1.L)))]), (.d (.lit (.int .i64 r27_1.2)))]) [] (Ocf [] [] [] 0 (ok_sorter_Sorter_Put r21_0.1 (GEvent.mk 5 0 0 ([] : List UInt8) ([] : List GValue)) r27_1 hr27_1) (fun a w => Try.call15 a w) rfl trivial) ?_
  refine Wy (.tup [(.agg [(.d (.lit (.int .i64 r27_1.1.Cap))), (.d (.sl (List.length r27_1.1.L) (flatD enc_GEvent r27_1.1.L)))]), (.d (.lit (.int .i64 r27_1.2)))]) [] (Omv rfl) ?_
  refine Wy (.agg [(.d (.lit (.int .i64 r27_1.1.Cap))), (.d (.sl (List.length r27_1.1.L) (flatD enc_GEvent r27_1.1.L)))]) [] (Oex rfl) ?_
  refine Wy (.d (.lit (.int .i64 r27_1.2))) [] (Oex rfl) ?_
  refine Wy (.loc 1 0) [(1, (.box [(.d (.lit (.int .i64 0))), (.d .nil)]))] (Oal rfl) ?_
  refine Wy (.tup []) [(1, (.box [(.d (.lit (.int .i64 r27_1.1.Cap))), (.d (.sl (List.length r27_1.1.L) (flatD enc_GEvent r27_1.1.L)))]))] (Ost rfl) ?_
  refine Wy (.d (.lit (.int .i64 r27_1.2))) [] (Omv rfl) ?_
  refine Walk.nil ?_
  refine Then.normal ?_
  refine Amk 28 2 ⟨(tp 2 ((.d (.lit (.int .i64 r21_0.2))) :: ((.loc 1 0) :: ((.d (.lit (.int .i64 r27_1.2))) :: (tp 141 []))))), [.gone, (.box [(.d (.lit (.int .i64 r27_1.1.Cap))), (.d (.sl (List.length r27_1.1.L) (flatD enc_GEvent r27_1.1.L)))])], 0⟩ ?_
  refine AWP.seq ?_
  refine AWP.text ?_
  refine Wy (.agg [(.d (.lit (.int .i64 r27_1.1.Cap))), (.d (.sl (List.length r27_1.1.L) (flatD enc_GEvent r27_1.1.L)))]) [] (Old rfl) ?_
  refine Wy (.agg [(.d (.lit (.int .i64 3))), (.d (.lit (.int .i64 0))), (.d (.lit (.int .i64 0))), (.d (.lit (.string (toS ([] : List UInt8))))), (.d .nil)]) [] (Obd rfl) ?_
  obtain ⟨r33_2, hr33_2, hm⟩ := bnd hm
  refine Wy (.tup [(.agg [(.d (.lit (.int .i64 r33_2.1.Cap))), (.d (.sl (List.length r33_2.1.L) (flatD enc_GEvent r33_2.1.L)))]), (.d (.lit (.int .i64 r33_2.2)))]) [] (Ocf [] [] [] 0 (ok_sorter_Sorter_Put r27_1.1 (GEvent.mk 3 0 0 ([] : List UInt8) ([] : List GValue)) r33_2 hr33_2) (fun a w => Try.call15 a w) rfl trivial) ?_
  refine Wy (.tup [(.agg [(.d (.lit (.int .i64 r33_2.1.Cap))), (.d (.sl (List.length r33_2.1.L) (flatD enc_GEvent r33_2.1.L)))]), (.d (.lit (.int .i64 r33_2.2)))]) [] (Omv rfl) ?_
  refine Wy (.agg [(.d (.lit (.int .i64 r33_2.1.Cap))), (.d (.sl (List.length r33_2.1.L) (flatD enc_GEvent r33_2.1.L)))]) [] (Oex rfl) ?_
  refine Wy (.d (.lit (.int .i64 r33_2.2))) [] (Oex rfl) ?_
  refine Wy (.loc 2 0) [(2, (.box [(.d (.lit (.int .i64 0))), (.d .nil)]))] (Oal rfl) ?_
  refine Wy (.tup []) [(2, (.box [(.d (.lit (.int .i64 r33_2.1.Cap))), (.d (.sl (List.length r33_2.1.L) (flatD enc_GEvent r33_2.1.L)))]))] (Ost rfl) ?_
  refine Wy (.d (.lit (.int .i64 r33_2.2))) [] (Omv rfl) ?_
  refine Walk.nil ?_
  refine Then.normal ?_
  refine Amk 116 4 ⟨(tp 2 ((.d (.lit (.int .i64 r21_0.2))) :: (tp 1 ((.d (.lit (.int .i64 r27_1.2))) :: ((.loc 2 0) :: ((.d (.lit (.int .i64 r33_2.2))) :: (tp 139 []))))))), [.gone, .gone, (.box [(.d (.lit (.int .i64 r33_2.1.Cap))), (.d (.sl (List.length r33_2.1.L) (flatD enc_GEvent r33_2.1.L)))])], 0⟩ ?_
  refine AWP.seq ?_
  refine AWP.text ?_
  refine Wy (.agg [(.d (.lit (.int .i64 r33_2.1.Cap))), (.d (.sl (List.length r33_2.1.L) (flatD enc_GEvent r33_2.1.L)))]) [] (Old rfl) ?_
  refine Wy (.agg [(.d (.lit (.int .i64 5))), (.d (.lit (.int .i64 0))), (.d (.lit (.int .i64 0))), (.d (.lit (.string (toS ([] : List UInt8))))), (.d .nil)]) [] (Obd rfl) ?_
  obtain ⟨r39_3, hr39_3, hm⟩ := bnd hm
  refine Wy (.tup [(.agg [(.d (.lit (.int .i64 r39_3.1.Cap))), (.d (.sl (List.length r39_3.1.L) (flatD enc_GEvent r39_3.1.L)))]), (.d (.lit (.int .i64 r39_3.2)))]) [] (Ocf [] [] [] 0 (ok_sorter_Sorter_Put r33_2.1 (GEvent.mk 5 0 0 ([] : List UInt8) ([] : List GValue)) r39_3 hr39_3) (fun a w => Try.call15 a w) rfl trivial) ?_
  refine Wy (.tup [(.agg [(.d (.lit (.int .i64 r39_3.1.Cap))), (.d (.sl (List.length r39_3.1.L) (flatD enc_GEvent r39_3.1.L)))]), (.d (.lit (.int .i64 r39_3.2)))]) [] (Omv rfl) ?_
  refine Wy (.agg [(.d (.lit (.int .i64 r39_3.1.Cap))), (.d (.sl (List.length r39_3.1.L) (flatD enc_GEvent r39_3.1.L)))]) [] (Oex rfl) ?_
  refine Wy (.d (.lit (.int .i64 r39_3.2))) [] (Oex rfl) ?_
  refine Wy (.loc 3 0) [(3, (.box [(.d (.lit (.int .i64 0))), (.d .nil)]))] (Oal rfl) ?_
  refine Wy (.tup []) [(3, (.box [(.d (.lit (.int .i64 r39_3.1.Cap))), (.d (.sl (List.length r39_3.1.L) (flatD enc_GEvent r39_3.1.L)))]))] (Ost rfl) ?_
  refine Wy (.d (.lit (.int .i64 r39_3.2))) [] (Omv rfl) ?_
  refine Walk.nil ?_
  refine Then.normal ?_
  refine Amk 372 4 ⟨(tp 2 ((.d (.lit (.int .i64 r21_0.2))) :: (tp 1 ((.d (.lit (.int .i64 r27_1.2))) :: ((.loc 2 0) :: ((.d (.lit (.int .i64 r33_2.2))) :: (tp 1 ((.d (.lit (.int .i64 r39_3.2))) :: (tp 137 []))))))))), [.gone, .gone, (.box [(.d (.lit (.int .i64 r33_2.1.Cap))), (.d (.sl (List.length r33_2.1.L) (flatD enc_GEvent r33_2.1.L)))]), .gone], 0⟩ ?_
  refine AWP.seq ?_
  refine AWP.text ?_
  refine Wy (.agg [(.d (.lit (.int .i64 r33_2.1.Cap))), (.d (.sl (List.length r33_2.1.L) (flatD enc_GEvent r33_2.1.L)))]) [] (Old rfl) ?_
  refine Wy (.agg [(.d (.lit (.int .i64 4))), (.d (.lit (.int .i64 0))), (.d (.lit (.int .i64 0))), (.d (.lit (.string (toS ([] : List UInt8))))), (.d .nil)]) [] (Obd rfl) ?_
  obtain ⟨r45_4, hr45_4, hm⟩ := bnd hm
  refine Wy (.tup [(.agg [(.d (.lit (.int .i64 r45_4.1.Cap))), (.d (.sl (List.length r45_4.1.L) (flatD enc_GEvent r45_4.1.L)))]), (.d (.lit (.int .i64 r45_4.2)))]) [] (Ocf [] [] [] 0 (ok_sorter_Sorter_Put r33_2.1 (GEvent.mk 4 0 0 ([] : List UInt8) ([] : List GValue)) r45_4 hr45_4) (fun a w => Try.call15 a w) rfl trivial) ?_
  refine Wy (.tup [(.agg [(.d (.lit (.int .i64 r45_4.1.Cap))), (.d (.sl (List.length r45_4.1.L) (flatD enc_GEvent r45_4.1.L)))]), (.d (.lit (.int .i64 r45_4.2)))]) [] (Omv rfl) ?_
  refine Wy (.agg [(.d (.lit (.int .i64 r45_4.1.Cap))), (.d (.sl (List.length r45_4.1.L) (flatD enc_GEvent r45_4.1.L)))]) [] (Oex rfl) ?_
  refine Wy (.d (.lit (.int .i64 r45_4.2))) [] (Oex rfl) ?_
  refine Wy (.loc 4 0) [(4, (.box [(.d (.lit (.int .i64 0))), (.d .nil)]))] (Oal rfl) ?_
  refine Wy (.tup []) [(4, (.box [(.d (.lit (.int .i64 r45_4.1.Cap))), (.d (.sl (List.length r45_4.1.L) (flatD enc_GEvent r45_4.1.L)))]))] (Ost rfl) ?_
  refine Wy (.d (.lit (.int .i64 r45_4.2))) [] (Omv rfl) ?_
  refine Walk.nil ?_
  refine Then.normal ?_
  refine Amk 1876 16 ⟨(tp 2 ((.d (.lit (.int .i64 r21_0.2))) :: (tp 1 ((.d (.lit (.int .i64 r27_1.2))) :: (tp 1 ((.d (.lit (.int .i64 r33_2.2))) :: (tp 1 ((.d (.lit (.int .i64 r39_3.2))) :: ((.loc 4 0) :: ((.d (.lit (.int .i64 r45_4.2))) :: (tp 135 []))))))))))), [.gone, .gone, .gone, .gone, (.box [(.d (.lit (.int .i64 r45_4.1.Cap))), (.d (.sl (List.length r45_4.1.L) (flatD enc_GEvent r45_4.1.L)))])], 0⟩ ?_
  refine AWP.seq ?_
  refine AWP.text ?_
  refine Wy (.agg [(.d (.lit (.int .i64 r45_4.1.Cap))), (.d (.sl (List.length r45_4.1.L) (flatD enc_GEvent r45_4.1.L)))]) [] (Old rfl) ?_
  refine Wy (.agg [(.d (.lit (.int .i64 9))), (.d (.lit (.int .i64 0))), (.d (.lit (.int .i64 0))), (.d (.lit (.string (toS ([] : List UInt8))))), (.d .nil)]) [] (Obd rfl) ?_
  obtain ⟨r51_5, hr51_5, hm⟩ := bnd hm
  refine Wy (.tup [(.agg [(.d (.lit (.int .i64 r51_5.1.Cap))), (.d (.sl (List.length r51_5.1.L) (flatD enc_GEvent r51_5.1.L)))]), (.d (.lit (.int .i64 r51_5.2)))]) [] (Ocf [] [] [] 0 (ok_sorter_Sorter_Put r45_4.1 (GEvent.mk 9 0 0 ([] : List UInt8) ([] : List GValue)) r51_5 hr51_5) (fun a w => Try.call15 a w) rfl trivial) ?_
  refine Wy (.tup [(.agg [(.d (.lit (.int .i64 r51_5.1.Cap))), (.d (.sl (List.length r51_5.1.L) (flatD enc_GEvent r51_5.1.L)))]), (.d (.lit (.int .i64 r51_5.2)))]) [] (Omv rfl) ?_
  refine Wy (.agg [(.d (.lit (.int .i64 r51_5.1.Cap))), (.d (.sl (List.length r51_5.1.L) (flatD enc_GEvent r51_5.1.L)))]) [] (Oex rfl) ?_
  refine Wy (.d (.lit (.int .i64 r51_5.2))) [] (Oex rfl) ?_
  refine Wy (.loc 5 0) [(5, (.box [(.d (.lit (.int .i64 0))), (.d .nil)]))] (Oal rfl) ?_
  refine Wy (.tup []) [(5, (.box [(.d (.lit (.int .i64 r51_5.1.Cap))), (.d (.sl (List.length r51_5.1.L) (flatD enc_GEvent r51_5.1.L)))]))] (Ost rfl) ?_
  refine Wy (.d (.lit (.int .i64 r51_5.2))) [] (Omv rfl) ?_
  refine Walk.nil ?_
  refine Then.normal ?_
  refine Amk 5972 16 ⟨(tp 2 ((.d (.lit (.int .i64 r21_0.2))) :: (tp 1 ((.d (.lit (.int .i64 r27_1.2))) :: (tp 1 ((.d (.lit (.int .i64 r33_2.2))) :: (tp 1 ((.d (.lit (.int .i64 r39_3.2))) :: ((.loc 4 0) :: ((.d (.lit (.int .i64 r45_4.2))) :: (tp 1 ((.d (.lit (.int .i64 r51_5.2))) :: (tp 133 []))))))))))))), [.gone, .gone, .gone, .gone, (.box [(.d (.lit (.int .i64 r45_4.1.Cap))), (.d (.sl (List.length r45_4.1.L) (flatD enc_GEvent r45_4.1.L)))]), .gone], 0⟩ ?_
  refine AWP.seq ?_
  refine AWP.text ?_
  refine Wy (.agg [(.d (.lit (.int .i64 r45_4.1.Cap))), (.d (.sl (List.length r45_4.1.L) (flatD enc_GEvent r45_4.1.L)))]) [] (Old rfl) ?_
  obtain ⟨r56_6, hr56_6, hm⟩ := bnd hm
  refine Wy (.tup [(.own 6), (.agg [(.d (.lit (.int .i64 r56_6.2.Cap))), (.d (.sl (List.length r56_6.2.L) (flatD enc_GEvent r56_6.2.L)))])]) [(6, (.arr 50 5 (List.length r56_6.1) (flatD enc_GEvent r56_6.1)))] (Ocf [] [6] [] 0 (ok_sorter_Sorter_Release r45_4.1 5 r56_6 hr56_6) (fun a w => Try.call11 a w) rfl trivial) ?_
  refine Wy (.tup [(.own 6), (.agg [(.d (.lit (.int .i64 r56_6.2.Cap))), (.d (.sl (List.length r56_6.2.L) (flatD enc_GEvent r56_6.2.L)))])]) [] (Omv rfl) ?_
  refine Wy (.own 6) [] (Oex rfl) ?_
  refine Wy (.agg [(.d (.lit (.int .i64 r56_6.2.Cap))), (.d (.sl (List.length r56_6.2.L) (flatD enc_GEvent r56_6.2.L)))]) [] (Oex rfl) ?_
  refine Wy (.loc 7 0) [(7, (.box [(.d (.lit (.int .i64 0))), (.d .nil)]))] (Oal rfl) ?_
  refine Wy (.own 6) [] (Omv rfl) ?_
  refine Wy (.tup []) [(7, (.box [(.d (.lit (.int .i64 r56_6.2.Cap))), (.d (.sl (List.length r56_6.2.L) (flatD enc_GEvent r56_6.2.L)))]))] (Ost rfl) ?_
  refine Walk.nil ?_
  refine Then.normal ?_
  refine Amk 30548 208 ⟨(tp 2 ((.d (.lit (.int .i64 r21_0.2))) :: (tp 1 ((.d (.lit (.int .i64 r27_1.2))) :: (tp 1 ((.d (.lit (.int .i64 r33_2.2))) :: (tp 1 ((.d (.lit (.int .i64 r39_3.2))) :: ((.loc 4 0) :: ((.d (.lit (.int .i64 r45_4.2))) :: (tp 1 ((.d (.lit (.int .i64 r51_5.2))) :: ((.own 6) :: ((.loc 7 0) :: (tp 131 []))))))))))))))), [.gone, .gone, .gone, .gone, (.box [(.d (.lit (.int .i64 r45_4.1.Cap))), (.d (.sl (List.length r45_4.1.L) (flatD enc_GEvent r45_4.1.L)))]), .gone, (.arr 50 5 (List.length r56_6.1) (flatD enc_GEvent r56_6.1)), (.box [(.d (.lit (.int .i64 r56_6.2.Cap))), (.d (.sl (List.length r56_6.2.L) (flatD enc_GEvent r56_6.2.L)))])], 0⟩ ?_
  refine AWP.seq ?_
  refine AWP.text ?_
  refine Wy (.agg [(.d (.lit (.int .i64 r45_4.1.Cap))), (.d (.sl (List.length r45_4.1.L) (flatD enc_GEvent r45_4.1.L)))]) [] (Old rfl) ?_
  obtain ⟨r61_7, hr61_7, hm⟩ := bnd hm
  refine Wy (.tup [(.d (.lit (.int .i64 r61_7.1))), (.d (.lit (.bool r61_7.2)))]) [] (Ocf [] [] [] 0 (ok_sorter_Sorter_Least r45_4.1 r61_7 hr61_7) (fun a w => Try.call18 a w) rfl trivial) ?_
  refine Wy (.tup [(.d (.lit (.int .i64 r61_7.1))), (.d (.lit (.bool r61_7.2)))]) [] (Omv rfl) ?_
  refine Wy (.d (.lit (.int .i64 r61_7.1))) [] (Oex rfl) ?_
  refine Wy (.d (.lit (.bool r61_7.2))) [] (Oex rfl) ?_
  refine Wy (.d (.lit (.int .i64 r61_7.1))) [] (Omv rfl) ?_
  refine Wy (.d (.lit (.bool r61_7.2))) [] (Omv rfl) ?_
  refine Walk.nil ?_
  refine Then.normal ?_
  refine Amk 128340 192 ⟨(tp 2 ((.d (.lit (.int .i64 r21_0.2))) :: (tp 1 ((.d (.lit (.int .i64 r27_1.2))) :: (tp 1 ((.d (.lit (.int .i64 r33_2.2))) :: (tp 1 ((.d (.lit (.int .i64 r39_3.2))) :: (tp 1 ((.d (.lit (.int .i64 r45_4.2))) :: (tp 1 ((.d (.lit (.int .i64 r51_5.2))) :: ((.own 6) :: ((.loc 7 0) :: ((.d (.lit (.int .i64 r61_7.1))) :: ((.d (.lit (.bool r61_7.2))) :: (tp 129 []))))))))))))))))), [.gone, .gone, .gone, .gone, .gone, .gone, (.arr 50 5 (List.length r56_6.1) (flatD enc_GEvent r56_6.1)), (.box [(.d (.lit (.int .i64 r56_6.2.Cap))), (.d (.sl (List.length r56_6.2.L) (flatD enc_GEvent r56_6.2.L)))])], 0⟩ ?_
  refine AWP.seq ?_
  refine AWP.text ?_
  refine Wy (.agg [(.d .nil), (.clo (.func 20) [] [])]) [] (Obd rfl) ?_
  obtain ⟨r66_8, hr66_8, hm⟩ := bnd hm
  refine Wy (.agg [(.own 8), (.clo (.func 20) [] [])]) [(8, (.arr 3 1 (List.length r66_8) (flatD (encI .i64) r66_8)))] (Ocf [] [8] [] 0 (ok_sorter_Heap_int_Push__telltalelaw24_less ([] : List Int) 4 r66_8 hr66_8) (fun a w => Try.call22 a w) rfl trivial) ?_
  obtain ⟨r67_8, hr67_8, hm⟩ := bnd hm
  refine Wy (.agg [(.own 9), (.clo (.func 20) [] [])]) [(9, (.arr 3 1 (List.length r67_8) (flatD (encI .i64) r67_8)))] (Ocp [] [9] [8] 0 (ok_sorter_Heap_int_Push__telltalelaw24_less r66_8 2 r67_8 hr67_8) (⟨by simp [A.Plain, A.Plains, D.Plain, byteD], plain_cons (flat_plain (encI_plain (k := .i64))) (plain_nil)⟩) (fun a w => Try.call22 a w) rfl trivial) ?_
  obtain ⟨r68_8, hr68_8, hm⟩ := bnd hm
  refine Wy (.agg [(.own 10), (.clo (.func 20) [] [])]) [(10, (.arr 3 1 (List.length r68_8) (flatD (encI .i64) r68_8)))] (Ocp [] [10] [9] 0 (ok_sorter_Heap_int_Push__telltalelaw24_less r67_8 3 r68_8 hr68_8) (⟨by simp [A.Plain, A.Plains, D.Plain, byteD], plain_cons (flat_plain (encI_plain (k := .i64))) (plain_nil)⟩) (fun a w => Try.call22 a w) rfl trivial) ?_
  obtain ⟨r69_8, hr69_8, hm⟩ := bnd hm
  refine Wy (.tup [(.d (.lit (.int .i64 r69_8.1))), (.agg [(.own 11), (.clo (.func 20) [] [])]), (.d (.lit (.bool r69_8.2.2)))]) [(11, (.arr 3 1 (List.length r69_8.2.1) (flatD (encI .i64) r69_8.2.1)))] (Ocp [] [11] [10] 0 (ok_sorter_Heap_int_Pop__telltalelaw24_less r68_8 r69_8 hr69_8) (⟨by simp [A.Plain, A.Plains, D.Plain, byteD], plain_cons (flat_plain (encI_plain (k := .i64))) (plain_nil)⟩) (fun a w => Try.call21 a w) rfl trivial) ?_
  refine Wy (.tup [(.d (.lit (.int .i64 r69_8.1))), (.agg [(.own 11), (.clo (.func 20) [] [])]), (.d (.lit (.bool r69_8.2.2)))]) [] (Omv rfl) ?_
  refine Wy (.d (.lit (.int .i64 r69_8.1))) [] (Oex rfl) ?_
  refine Wy (.agg [(.own 11), (.clo (.func 20) [] [])]) [] (Oex rfl) ?_
  refine Wy (.d (.lit (.bool r69_8.2.2))) [] (Oex rfl) ?_
  refine Wy (.loc 12 0) [(12, (.box [(.d .nil), (.d (.lit .nilFunc))]))] (Oal rfl) ?_
  refine Wy (.d (.lit (.int .i64 r69_8.1))) [] (Omv rfl) ?_
  refine Wy (.tup []) [(12, (.box [(.own 11), (.clo (.func 20) [] [])]))] (Ost rfl) ?_
  refine Wy (.d (.lit (.bool r69_8.2.2))) [] (Omv rfl) ?_
  refine Walk.nil ?_
  refine Then.normal ?_
  refine Amk 1045844 6336 ⟨(tp 2 ((.d (.lit (.int .i64 r21_0.2))) :: (tp 1 ((.d (.lit (.int .i64 r27_1.2))) :: (tp 1 ((.d (.lit (.int .i64 r33_2.2))) :: (tp 1 ((.d (.lit (.int .i64 r39_3.2))) :: (tp 1 ((.d (.lit (.int .i64 r45_4.2))) :: (tp 1 ((.d (.lit (.int .i64 r51_5.2))) :: ((.own 6) :: ((.loc 7 0) :: ((.d (.lit (.int .i64 r61_7.1))) :: ((.d (.lit (.bool r61_7.2))) :: ((.d (.lit (.int .i64 r69_8.1))) :: ((.loc 12 0) :: ((.d (.lit (.bool r69_8.2.2))) :: (tp 126 [])))))))))))))))))))), [.gone, .gone, .gone, .gone, .gone, .gone, (.arr 50 5 (List.length r56_6.1) (flatD enc_GEvent r56_6.1)), (.box [(.d (.lit (.int .i64 r56_6.2.Cap))), (.d (.sl (List.length r56_6.2.L) (flatD enc_GEvent r56_6.2.L)))]), .gone, .gone, .gone, (.arr 3 1 (List.length r69_8.2.1) (flatD (encI .i64) r69_8.2.1)), (.box [(.own 11), (.clo (.func 20) [] [])])], 0⟩ ?_
  refine AWP.seq ?_
  refine AWP.text ?_
  refine Wy (.d (.lit (.int .i64 r21_0.2))) [] (Omv rfl) ?_
  refine Wy (.d (.lit (.bool (decide (r21_0.2 = 0))))) [] (Obn rfl (fun _ => hb_eql (k := .i64))) ?_
  rcases tf_ (decide (r21_0.2 = 0)) with hq75_9 | hq75_9
  · replace hm := cT hq75_9 hm
    refine Wy (.d (.lit (.bool true))) [] (Ocs (lit_tf (b := decide (r21_0.2 = 0)) hq75_9) (Omv rfl)) ?_
    refine Wy (.d (.lit (.int .i64 r27_1.2))) [] (Omv rfl) ?_
    refine Wy (.d (.lit (.bool (decide (r27_1.2 = 0))))) [] (Obn rfl (fun _ => hb_eql (k := .i64))) ?_
    refine Wy (.d (.lit (.bool (decide (r27_1.2 = 0))))) [] (OpT rfl) ?_
    rcases tf_ (decide (r27_1.2 = 0)) with hq79_9 | hq79_9
    · replace hm := cT hq79_9 hm
      refine Wy (.d (.lit (.bool true))) [] (Ocs (lit_tf (b := decide (r27_1.2 = 0)) hq79_9) (Omv rfl)) ?_
      refine Wy (.d (.lit (.int .i64 r33_2.2))) [] (Omv rfl) ?_
      refine Wy (.d (.lit (.bool (decide (r33_2.2 = 0))))) [] (Obn rfl (fun _ => hb_eql (k := .i64))) ?_
      refine Wy (.d (.lit (.bool (decide (r33_2.2 = 0))))) [] (OpT rfl) ?_
      rcases tf_ (decide (r33_2.2 = 0)) with hq83_9 | hq83_9
      · replace hm := cT hq83_9 hm
        refine Wy (.d (.lit (.bool true))) [] (Ocs (lit_tf (b := decide (r33_2.2 = 0)) hq83_9) (Omv rfl)) ?_
        refine Wy (.d (.lit (.int .i64 r39_3.2))) [] (Omv rfl) ?_
        refine Wy (.d (.lit (.bool (decide (r39_3.2 = 12))))) [] (Obn rfl (fun _ => hb_eql (k := .i64))) ?_
        refine Wy (.d (.lit (.bool (decide (r39_3.2 = 12))))) [] (OpT rfl) ?_
        rcases tf_ (decide (r39_3.2 = 12)) with hq87_9 | hq87_9
        · replace hm := cT hq87_9 hm
          refine Wy (.d (.lit (.bool true))) [] (Ocs (lit_tf (b := decide (r39_3.2 = 12)) hq87_9) (Omv rfl)) ?_
          refine Wy (.d (.lit (.int .i64 r45_4.2))) [] (Omv rfl) ?_
          refine Wy (.d (.lit (.bool (decide (r45_4.2 = 0))))) [] (Obn rfl (fun _ => hb_eql (k := .i64))) ?_
          refine Wy (.d (.lit (.bool (decide (r45_4.2 = 0))))) [] (OpT rfl) ?_
          rcases tf_ (decide (r45_4.2 = 0)) with hq91_9 | hq91_9
          · replace hm := cT hq91_9 hm
            refine Wy (.d (.lit (.bool true))) [] (Ocs (lit_tf (b := decide (r45_4.2 = 0)) hq91_9) (Omv rfl)) ?_
            refine Wy (.d (.lit (.int .i64 r51_5.2))) [] (Omv rfl) ?_
            refine Wy (.d (.lit (.bool (decide (r51_5.2 = 7))))) [] (Obn rfl (fun _ => hb_eql (k := .i64))) ?_
            refine Wy (.d (.lit (.bool (decide (r51_5.2 = 7))))) [] (OpT rfl) ?_
            rcases tf_ (decide (r51_5.2 = 7)) with hq95_9 | hq95_9
            · replace hm := cT hq95_9 hm
              refine Wy (.d (.lit (.bool true))) [] (Ocs (lit_tf (b := decide (r51_5.2 = 7)) hq95_9) (Omv rfl)) ?_
              refine Wy (.own 6) [] (Omv rfl) ?_
              refine Wy (.d (.lit (.int .i64 ((List.length r56_6.1 : Nat) : Int)))) [] (Oln rfl) ?_
              refine Wy (.d (.lit (.bool (decide (((List.length r56_6.1 : Nat) : Int) = 2))))) [] (Obn rfl (fun _ => hb_eql (k := .i64))) ?_
              refine Wy (.d (.lit (.bool (decide (((List.length r56_6.1 : Nat) : Int) = 2))))) [] (OpT rfl) ?_
              rcases tf_ (decide (((List.length r56_6.1 : Nat) : Int) = 2)) with hq100_9 | hq100_9
              · replace hm := cT hq100_9 hm
                refine Wy (.d (.lit (.bool true))) [] (Ocs (lit_tf (b := decide (((List.length r56_6.1 : Nat) : Int) = 2)) hq100_9) (Omv rfl)) ?_
                refine Wy (.own 6) [] (Omv rfl) ?_
                obtain ⟨x102_9, hx102_9, hm⟩ := bnd hm
                obtain ⟨hx102_9i, hx102_9g⟩ := geti_some hx102_9
                refine Wy (.loc 6 ((Int.toNat 0) * 5)) [] (Oia rfl enc_GEvent_len hx102_9i hx102_9g) ?_
                refine Wy (.loc 6 ((Int.toNat 0) * 5)) [] (Ofa rfl) ?_
                refine Wy (.d (.lit (.int .i64 x102_9.Time))) [] (Lr1 rfl enc_GEvent_len hx102_9g) ?_
                refine Wy (.d (.lit (.bool (decide (x102_9.Time = 3))))) [] (Obn rfl (fun _ => hb_eql (k := .i64))) ?_
                refine Wy (.d (.lit (.bool (decide (x102_9.Time = 3))))) [] (OpT rfl) ?_
                rcases tf_ (decide (x102_9.Time = 3)) with hq107_9 | hq107_9
                · replace hm := cT hq107_9 hm
                  refine Wy (.d (.lit (.bool true))) [] (Ocs (lit_tf (b := decide (x102_9.Time = 3)) hq107_9) (Omv rfl)) ?_
                  refine Wy (.own 6) [] (Omv rfl) ?_
                  obtain ⟨x109_9, hx109_9, hm⟩ := bnd hm
                  obtain ⟨hx109_9i, hx109_9g⟩ := geti_some hx109_9
                  refine Wy (.loc 6 ((Int.toNat 1) * 5)) [] (Oia rfl enc_GEvent_len hx109_9i hx109_9g) ?_
                  refine Wy (.loc 6 ((Int.toNat 1) * 5)) [] (Ofa rfl) ?_
                  refine Wy (.d (.lit (.int .i64 x109_9.Time))) [] (Lr1 rfl enc_GEvent_len hx109_9g) ?_
                  refine Wy (.d (.lit (.bool (decide (x109_9.Time = 4))))) [] (Obn rfl (fun _ => hb_eql (k := .i64))) ?_
                  refine Wy (.d (.lit (.bool (decide (x109_9.Time = 4))))) [] (OpT rfl) ?_
                  rcases tf_ (decide (x109_9.Time = 4)) with hq114_9 | hq114_9
                  · replace hm := cT hq114_9 hm
                    refine Wy (.d (.lit (.bool true))) [] (Ocs (lit_tf (b := decide (x109_9.Time = 4)) hq114_9) (Omv rfl)) ?_
                    refine Wy (.loc 7 1) [] (Ofa rfl) ?_
                    refine Wy (.d (.sl (List.length r56_6.2.L) (flatD enc_GEvent r56_6.2.L))) [] (Old rfl) ?_
                    refine Wy (.d (.lit (.int .i64 ((List.length r56_6.2.L : Nat) : Int)))) [] (Oln rfl) ?_
                    refine Wy (.d (.lit (.bool (decide (((List.length r56_6.2.L : Nat) : Int) = 1))))) [] (Obn rfl (fun _ => hb_eql (k := .i64))) ?_
                    refine Wy (.d (.lit (.bool (decide (((List.length r56_6.2.L : Nat) : Int) = 1))))) [] (OpT rfl) ?_
                    rcases tf_ (decide (((List.length r56_6.2.L : Nat) : Int) = 1)) with hq120_9 | hq120_9
                    · replace hm := cT hq120_9 hm
                      refine Wy (.d (.lit (.bool true))) [] (Ocs (lit_tf (b := decide (((List.length r56_6.2.L : Nat) : Int) = 1)) hq120_9) (Omv rfl)) ?_
                      refine Wy (.d (.lit (.int .i64 r61_7.1))) [] (Omv rfl) ?_
                      refine Wy (.d (.lit (.bool (decide (r61_7.1 = 3))))) [] (Obn rfl (fun _ => hb_eql (k := .i64))) ?_
                      refine Wy (.d (.lit (.bool (decide (r61_7.1 = 3))))) [] (OpT rfl) ?_
                      rcases tf_ (decide (r61_7.1 = 3)) with hq124_9 | hq124_9
                      · replace hm := cT hq124_9 hm
                        refine Wy (.d (.lit (.bool true))) [] (Ocs (lit_tf (b := decide (r61_7.1 = 3)) hq124_9) (Omv rfl)) ?_
                        refine Wy (.d (.lit (.bool r61_7.2))) [] (Omv rfl) ?_
                        refine Wy (.d (.lit (.bool r61_7.2))) [] (OpT rfl) ?_
                        rcases tf_ r61_7.2 with hq127_9 | hq127_9
                        · replace hm := cT hq127_9 hm
                          refine Wy (.d (.lit (.bool true))) [] (Ocs (lit_tf (b := r61_7.2) hq127_9) (Omv rfl)) ?_
                          refine Wy (.d (.lit (.int .i64 r69_8.1))) [] (Omv rfl) ?_
                          refine Wy (.d (.lit (.bool (decide (r69_8.1 = 2))))) [] (Obn rfl (fun _ => hb_eql (k := .i64))) ?_
                          refine Wy (.d (.lit (.bool (decide (r69_8.1 = 2))))) [] (OpT rfl) ?_
                          rcases tf_ (decide (r69_8.1 = 2)) with hq131_9 | hq131_9
                          · replace hm := cT hq131_9 hm
                            refine Wy (.d (.lit (.bool true))) [] (Ocs (lit_tf (b := decide (r69_8.1 = 2)) hq131_9) (Omv rfl)) ?_
                            refine Wy (.d (.lit (.bool r69_8.2.2))) [] (Omv rfl) ?_
                            refine Wy (.d (.lit (.bool r69_8.2.2))) [] (OpT rfl) ?_
                            rcases tf_ r69_8.2.2 with hq134_9 | hq134_9
                            · replace hm := cT hq134_9 hm
                              refine Wy (.d (.lit (.bool true))) [] (Ocs (lit_tf (b := r69_8.2.2) hq134_9) (Omv rfl)) ?_
                              refine Wy (.loc 12 0) [] (Ofa rfl) ?_
                              refine Wy (.own 11) [] (Old rfl) ?_
                              refine Wy (.d (.lit (.int .i64 ((List.length r69_8.2.1 : Nat) : Int)))) [] (Oln rfl) ?_
                              refine Wy (.d (.lit (.bool (decide (((List.length r69_8.2.1 : Nat) : Int) = 2))))) [] (Obn rfl (fun _ => hb_eql (k := .i64))) ?_
                              refine Wy (.d (.lit (.bool (decide (((List.length r69_8.2.1 : Nat) : Int) = 2))))) [] (OpT rfl) ?_
                              rcases tf_ (decide (((List.length r69_8.2.1 : Nat) : Int) = 2)) with hq140_9 | hq140_9
                              · replace hm := cT hq140_9 hm
                                refine Wy (.d (.lit (.bool true))) [] (Ocs (lit_tf (b := decide (((List.length r69_8.2.1 : Nat) : Int) = 2)) hq140_9) (Omv rfl)) ?_
                                refine Wy (.agg [(.own 11), (.clo (.func 20) [] [])]) [] (Old rfl) ?_
                                obtain ⟨r142_9, hr142_9, hm⟩ := bnd hm
                                refine Wy (.d (.lit (.bool r142_9))) [] (Ocp [] [] [11] 0 (ok_sorter_Fine_int__telltalelaw24_less r69_8.2.1 r142_9 hr142_9) (plain_triv (by simp [A.Plain, A.Plains, D.Plain, byteD])) (fun a w => Try.call23 a w) rfl trivial) ?_
                                refine Wy (.d (.lit (.bool r142_9))) [] (OpT rfl) ?_
                                rcases tf_ r142_9 with hq144_9 | hq144_9
                                · replace hm := cT hq144_9 hm
                                  refine Wy (.d (.lit (.bool true))) [] (Ocs (lit_tf (b := r142_9) hq144_9) (Omv rfl)) ?_
                                  refine Wy (.d (.lit (.bool true))) [] (OpT rfl) ?_
                                  refine Wy (.d (.lit (.bool true))) [] (Omv rfl) ?_
                                  refine Walk.nil ?_
                                  refine Then.normal ?_
                                  refine AWP.ret ?_
                                  obtain rfl := Option.some.inj hm
                                  exact ret_i []
                                · replace hm := cF hq144_9 hm
                                  refine Wy (.d (.lit (.bool false))) [] (Ocs (lit_tf (b := r142_9) hq144_9) (Omv rfl)) ?_
                                  refine Wy (.d (.lit (.bool false))) [] (OpF rfl) ?_
                                  refine Wy (.d (.lit (.bool false))) [] (Omv rfl) ?_
                                  refine Walk.nil ?_
                                  refine Then.normal ?_
                                  refine AWP.ret ?_
                                  obtain rfl := Option.some.inj hm
                                  exact ret_i []
                              · replace hm := cF hq140_9 hm
                                refine Wy (.d (.lit (.bool false))) [] (Ocs (lit_tf (b := decide (((List.length r69_8.2.1 : Nat) : Int) = 2)) hq140_9) (Omv rfl)) ?_
                                refine Wn ?_
                                refine Wn ?_
                                refine Wy (.d (.lit (.bool false))) [] (OpF rfl) ?_
                                refine Wy (.d (.lit (.bool false))) [] (Omv rfl) ?_
                                refine Wy (.d (.lit (.bool false))) [] (OpF rfl) ?_
                                refine Wy (.d (.lit (.bool false))) [] (Omv rfl) ?_
                                refine Walk.nil ?_
                                refine Then.normal ?_
                                refine AWP.ret ?_
                                obtain rfl := Option.some.inj hm
                                exact ret_i []
                            · replace hm := cF hq134_9 hm
                              refine Wy (.d (.lit (.bool false))) [] (Ocs (lit_tf (b := r69_8.2.2) hq134_9) (Omv rfl)) ?_
                              refine Wn ?_
                              refine Wn ?_
                              refine Wn ?_
                              refine Wn ?_
                              refine Wy (.d (.lit (.bool false))) [] (OpF rfl) ?_
                              refine Wy (.d (.lit (.bool false))) [] (Omv rfl) ?_
                              refine Wn ?_
                              refine Wn ?_
                              refine Wy (.d (.lit (.bool false))) [] (OpF rfl) ?_
                              refine Wy (.d (.lit (.bool false))) [] (Omv rfl) ?_
                              refine Wy (.d (.lit (.bool false))) [] (OpF rfl) ?_
                              refine Wy (.d (.lit (.bool false))) [] (Omv rfl) ?_
                              refine Walk.nil ?_
                              refine Then.normal ?_
                              refine AWP.ret ?_
                              obtain rfl := Option.some.inj hm
                              exact ret_i []
                          · replace hm := cF hq131_9 hm
                            refine Wy (.d (.lit (.bool false))) [] (Ocs (lit_tf (b := decide (r69_8.1 = 2)) hq131_9) (Omv rfl)) ?_
                            refine Wn ?_
                            refine Wy (.d (.lit (.bool false))) [] (OpF rfl) ?_
                            refine Wy (.d (.lit (.bool false))) [] (Omv rfl) ?_
                            refine Wn ?_
                            refine Wn ?_
                            refine Wn ?_
                            refine Wn ?_
                            refine Wy (.d (.lit (.bool false))) [] (OpF rfl) ?_
                            refine Wy (.d (.lit (.bool false))) [] (Omv rfl) ?_
                            refine Wn ?_
                            refine Wn ?_
                            refine Wy (.d (.lit (.bool false))) [] (OpF rfl) ?_
                            refine Wy (.d (.lit (.bool false))) [] (Omv rfl) ?_
                            refine Wy (.d (.lit (.bool false))) [] (OpF rfl) ?_
                            refine Wy (.d (.lit (.bool false))) [] (Omv rfl) ?_
                            refine Walk.nil ?_
                            refine Then.normal ?_
                            refine AWP.ret ?_
                            obtain rfl := Option.some.inj hm
                            exact ret_i []
                        · replace hm := cF hq127_9 hm
                          refine Wy (.d (.lit (.bool false))) [] (Ocs (lit_tf (b := r61_7.2) hq127_9) (Omv rfl)) ?_
                          refine Wn ?_
                          refine Wn ?_
                          refine Wy (.d (.lit (.bool false))) [] (OpF rfl) ?_
                          refine Wy (.d (.lit (.bool false))) [] (Omv rfl) ?_
                          refine Wn ?_
                          refine Wy (.d (.lit (.bool false))) [] (OpF rfl) ?_
                          refine Wy (.d (.lit (.bool false))) [] (Omv rfl) ?_
                          refine Wn ?_
                          refine Wn ?_
                          refine Wn ?_
                          refine Wn ?_
                          refine Wy (.d (.lit (.bool false))) [] (OpF rfl) ?_
                          refine Wy (.d (.lit (.bool false))) [] (Omv rfl) ?_
                          refine Wn ?_
                          refine Wn ?_
                          refine Wy (.d (.lit (.bool false))) [] (OpF rfl) ?_
                          refine Wy (.d (.lit (.bool false))) [] (Omv rfl) ?_
                          refine Wy (.d (.lit (.bool false))) [] (OpF rfl) ?_
                          refine Wy (.d (.lit (.bool false))) [] (Omv rfl) ?_
                          refine Walk.nil ?_
                          refine Then.normal ?_
                          refine AWP.ret ?_
                          obtain rfl := Option.some.inj hm
                          exact ret_i []
                      · replace hm := cF hq124_9 hm
                        refine Wy (.d (.lit (.bool false))) [] (Ocs (lit_tf (b := decide (r61_7.1 = 3)) hq124_9) (Omv rfl)) ?_
                        refine Wn ?_
                        refine Wy (.d (.lit (.bool false))) [] (OpF rfl) ?_
                        refine Wy (.d (.lit (.bool false))) [] (Omv rfl) ?_
                        refine Wn ?_
                        refine Wn ?_
                        refine Wy (.d (.lit (.bool false))) [] (OpF rfl) ?_
                        refine Wy (.d (.lit (.bool false))) [] (Omv rfl) ?_
                        refine Wn ?_
                        refine Wy (.d (.lit (.bool false))) [] (OpF rfl) ?_
                        refine Wy (.d (.lit (.bool false))) [] (Omv rfl) ?_
                        refine Wn ?_
                        refine Wn ?_
                        refine Wn ?_
                        refine Wn ?_
                        refine Wy (.d (.lit (.bool false))) [] (OpF rfl) ?_
                        refine Wy (.d (.lit (.bool false))) [] (Omv rfl) ?_
                        refine Wn ?_
                        refine Wn ?_
                        refine Wy (.d (.lit (.bool false))) [] (OpF rfl) ?_
                        refine Wy (.d (.lit (.bool false))) [] (Omv rfl) ?_
                        refine Wy (.d (.lit (.bool false))) [] (OpF rfl) ?_
                        refine Wy (.d (.lit (.bool false))) [] (Omv rfl) ?_
                        refine Walk.nil ?_
                        refine Then.normal ?_
                        refine AWP.ret ?_
                        obtain rfl := Option.some.inj hm
                        exact ret_i []
                    · replace hm := cF hq120_9 hm
                      refine Wy (.d (.lit (.bool false))) [] (Ocs (lit_tf (b := decide (((List.length r56_6.2.L : Nat) : Int) = 1)) hq120_9) (Omv rfl)) ?_
                      refine Wn ?_
                      refine Wn ?_
                      refine Wy (.d (.lit (.bool false))) [] (OpF rfl) ?_
                      refine Wy (.d (.lit (.bool false))) [] (Omv rfl) ?_
                      refine Wn ?_
                      refine Wy (.d (.lit (.bool false))) [] (OpF rfl) ?_
                      refine Wy (.d (.lit (.bool false))) [] (Omv rfl) ?_
                      refine Wn ?_
                      refine Wn ?_
                      refine Wy (.d (.lit (.bool false))) [] (OpF rfl) ?_
                      refine Wy (.d (.lit (.bool false))) [] (Omv rfl) ?_
                      refine Wn ?_
                      refine Wy (.d (.lit (.bool false))) [] (OpF rfl) ?_
                      refine Wy (.d (.lit (.bool false))) [] (Omv rfl) ?_
                      refine Wn ?_
                      refine Wn ?_
                      refine Wn ?_
                      refine Wn ?_
                      refine Wy (.d (.lit (.bool false))) [] (OpF rfl) ?_
                      refine Wy (.d (.lit (.bool false))) [] (Omv rfl) ?_
                      refine Wn ?_
                      refine Wn ?_
                      refine Wy (.d (.lit (.bool false))) [] (OpF rfl) ?_
                      refine Wy (.d (.lit (.bool false))) [] (Omv rfl) ?_
                      refine Wy (.d (.lit (.bool false))) [] (OpF rfl) ?_
                      refine Wy (.d (.lit (.bool false))) [] (Omv rfl) ?_
                      refine Walk.nil ?_
                      refine Then.normal ?_
                      refine AWP.ret ?_
                      obtain rfl := Option.some.inj hm
                      exact ret_i []
                  · replace hm := cF hq114_9 hm
                    refine Wy (.d (.lit (.bool false))) [] (Ocs (lit_tf (b := decide (x109_9.Time = 4)) hq114_9) (Omv rfl)) ?_
                    refine Wn ?_
                    refine Wn ?_
                    refine Wn ?_
                    refine Wn ?_
                    refine Wy (.d (.lit (.bool false))) [] (OpF rfl) ?_
                    refine Wy (.d (.lit (.bool false))) [] (Omv rfl) ?_
                    refine Wn ?_
                    refine Wn ?_
                    refine Wy (.d (.lit (.bool false))) [] (OpF rfl) ?_
                    refine Wy (.d (.lit (.bool false))) [] (Omv rfl) ?_
                    refine Wn ?_
                    refine Wy (.d (.lit (.bool false))) [] (OpF rfl) ?_
                    refine Wy (.d (.lit (.bool false))) [] (Omv rfl) ?_
                    refine Wn ?_
                    refine Wn ?_
                    refine Wy (.d (.lit (.bool false))) [] (OpF rfl) ?_
                    refine Wy (.d (.lit (.bool false))) [] (Omv rfl) ?_
                    refine Wn ?_
                    refine Wy (.d (.lit (.bool false))) [] (OpF rfl) ?_
                    refine Wy (.d (.lit (.bool false))) [] (Omv rfl) ?_
                    refine Wn ?_
                    refine Wn ?_
                    refine Wn ?_
                    refine Wn ?_
                    refine Wy (.d (.lit (.bool false))) [] (OpF rfl) ?_
                    refine Wy (.d (.lit (.bool false))) [] (Omv rfl) ?_
                    refine Wn ?_
                    refine Wn ?_
                    refine Wy (.d (.lit (.bool false))) [] (OpF rfl) ?_
                    refine Wy (.d (.lit (.bool false))) [] (Omv rfl) ?_
                    refine Wy (.d (.lit (.bool false))) [] (OpF rfl) ?_
                    refine Wy (.d (.lit (.bool false))) [] (Omv rfl) ?_
                    refine Walk.nil ?_
                    refine Then.normal ?_
                    refine AWP.ret ?_
                    obtain rfl := Option.some.inj hm
                    exact ret_i []
                · replace hm := cF hq107_9 hm
                  refine Wy (.d (.lit (.bool false))) [] (Ocs (lit_tf (b := decide (x102_9.Time = 3)) hq107_9) (Omv rfl)) ?_
                  refine Wn ?_
                  refine Wn ?_
                  refine Wn ?_
                  refine Wn ?_
                  refine Wn ?_
                  refine Wy (.d (.lit (.bool false))) [] (OpF rfl) ?_
                  refine Wy (.d (.lit (.bool false))) [] (Omv rfl) ?_
                  refine Wn ?_
                  refine Wn ?_
                  refine Wn ?_
                  refine Wn ?_
                  refine Wy (.d (.lit (.bool false))) [] (OpF rfl) ?_
                  refine Wy (.d (.lit (.bool false))) [] (Omv rfl) ?_
                  refine Wn ?_
                  refine Wn ?_
                  refine Wy (.d (.lit (.bool false))) [] (OpF rfl) ?_
                  refine Wy (.d (.lit (.bool false))) [] (Omv rfl) ?_
                  refine Wn ?_
                  refine Wy (.d (.lit (.bool false))) [] (OpF rfl) ?_
                  refine Wy (.d (.lit (.bool false))) [] (Omv rfl) ?_
                  refine Wn ?_
                  refine Wn ?_
                  refine Wy (.d (.lit (.bool false))) [] (OpF rfl) ?_
                  refine Wy (.d (.lit (.bool false))) [] (Omv rfl) ?_
                  refine Wn ?_
                  refine Wy (.d (.lit (.bool false))) [] (OpF rfl) ?_
                  refine Wy (.d (.lit (.bool false))) [] (Omv rfl) ?_
                  refine Wn ?_
                  refine Wn ?_
                  refine Wn ?_
                  refine Wn ?_
                  refine Wy (.d (.lit (.bool false))) [] (OpF rfl) ?_
                  refine Wy (.d (.lit (.bool false))) [] (Omv rfl) ?_
                  refine Wn ?_
                  refine Wn ?_
                  refine Wy (.d (.lit (.bool false))) [] (OpF rfl) ?_
                  refine Wy (.d (.lit (.bool false))) [] (Omv rfl) ?_
                  refine Wy (.d (.lit (.bool false))) [] (OpF rfl) ?_
                  refine Wy (.d (.lit (.bool false))) [] (Omv rfl) ?_
                  refine Walk.nil ?_
                  refine Then.normal ?_
                  refine AWP.ret ?_
                  obtain rfl := Option.some.inj hm
                  exact ret_i []
              · replace hm := cF hq100_9 hm
                refine Wy (.d (.lit (.bool false))) [] (Ocs (lit_tf (b := decide (((List.length r56_6.1 : Nat) : Int) = 2)) hq100_9) (Omv rfl)) ?_
                refine Wn ?_
                refine Wn ?_
                refine Wn ?_
                refine Wn ?_
                refine Wn ?_
                refine Wy (.d (.lit (.bool false))) [] (OpF rfl) ?_
                refine Wy (.d (.lit (.bool false))) [] (Omv rfl) ?_
                refine Wn ?_
                refine Wn ?_
                refine Wn ?_
                refine Wn ?_
                refine Wn ?_
                refine Wy (.d (.lit (.bool false))) [] (OpF rfl) ?_
                refine Wy (.d (.lit (.bool false))) [] (Omv rfl) ?_
                refine Wn ?_
                refine Wn ?_
                refine Wn ?_
                refine Wn ?_
                refine Wy (.d (.lit (.bool false))) [] (OpF rfl) ?_
                refine Wy (.d (.lit (.bool false))) [] (Omv rfl) ?_
                refine Wn ?_
                refine Wn ?_
                refine Wy (.d (.lit (.bool false))) [] (OpF rfl) ?_
                refine Wy (.d (.lit (.bool false))) [] (Omv rfl) ?_
                refine Wn ?_
                refine Wy (.d (.lit (.bool false))) [] (OpF rfl) ?_
                refine Wy (.d (.lit (.bool false))) [] (Omv rfl) ?_
                refine Wn ?_
                refine Wn ?_
                refine Wy (.d (.lit (.bool false))) [] (OpF rfl) ?_
                refine Wy (.d (.lit (.bool false))) [] (Omv rfl) ?_
                refine Wn ?_
                refine Wy (.d (.lit (.bool false))) [] (OpF rfl) ?_
                refine Wy (.d (.lit (.bool false))) [] (Omv rfl) ?_
                refine Wn ?_
                refine Wn ?_
                refine Wn ?_
                refine Wn ?_
                refine Wy (.d (.lit (.bool false))) [] (OpF rfl) ?_
                refine Wy (.d (.lit (.bool false))) [] (Omv rfl) ?_
                refine Wn ?_
                refine Wn ?_
                refine Wy (.d (.lit (.bool false))) [] (OpF rfl) ?_
                refine Wy (.d (.lit (.bool false))) [] (Omv rfl) ?_
                refine Wy (.d (.lit (.bool false))) [] (OpF rfl) ?_
                refine Wy (.d (.lit (.bool false))) [] (Omv rfl) ?_
                refine Walk.nil ?_
                refine Then.normal ?_
                refine AWP.ret ?_
                obtain rfl := Option.some.inj hm
                exact ret_i []
            · replace hm := cF hq95_9 hm
              refine Wy (.d (.lit (.bool false))) [] (Ocs (lit_tf (b := decide (r51_5.2 = 7)) hq95_9) (Omv rfl)) ?_
              refine Wn ?_
              refine Wn ?_
              refine Wn ?_
              refine Wy (.d (.lit (.bool false))) [] (OpF rfl) ?_
              refine Wy (.d (.lit (.bool false))) [] (Omv rfl) ?_
              refine Wn ?_
              refine Wn ?_
              refine Wn ?_
              refine Wn ?_
              refine Wn ?_
              refine Wy (.d (.lit (.bool false))) [] (OpF rfl) ?_
              refine Wy (.d (.lit (.bool false))) [] (Omv rfl) ?_
              refine Wn ?_
              refine Wn ?_
              refine Wn ?_
              refine Wn ?_
              refine Wn ?_
              refine Wy (.d (.lit (.bool false))) [] (OpF rfl) ?_
              refine Wy (.d (.lit (.bool false))) [] (Omv rfl) ?_
              refine Wn ?_
              refine Wn ?_
              refine Wn ?_
              refine Wn ?_
              refine Wy (.d (.lit (.bool false))) [] (OpF rfl) ?_
              refine Wy (.d (.lit (.bool false))) [] (Omv rfl) ?_
              refine Wn ?_
              refine Wn ?_
              refine Wy (.d (.lit (.bool false))) [] (OpF rfl) ?_
              refine Wy (.d (.lit (.bool false))) [] (Omv rfl) ?_
              refine Wn ?_
              refine Wy (.d (.lit (.bool false))) [] (OpF rfl) ?_
              refine Wy (.d (.lit (.bool false))) [] (Omv rfl) ?_
              refine Wn ?_
              refine Wn ?_
              refine Wy (.d (.lit (.bool false))) [] (OpF rfl) ?_
              refine Wy (.d (.lit (.bool false))) [] (Omv rfl) ?_
              refine Wn ?_
              refine Wy (.d (.lit (.bool false))) [] (OpF rfl) ?_
              refine Wy (.d (.lit (.bool false))) [] (Omv rfl) ?_
              refine Wn ?_
              refine Wn ?_
              refine Wn ?_
              refine Wn ?_
              refine Wy (.d (.lit (.bool false))) [] (OpF rfl) ?_
              refine Wy (.d (.lit (.bool false))) [] (Omv rfl) ?_
              refine Wn ?_
              refine Wn ?_
              refine Wy (.d (.lit (.bool false))) [] (OpF rfl) ?_
              refine Wy (.d (.lit (.bool false))) [] (Omv rfl) ?_
              refine Wy (.d (.lit (.bool false))) [] (OpF rfl) ?_
              refine Wy (.d (.lit (.bool false))) [] (Omv rfl) ?_
              refine Walk.nil ?_
              refine Then.normal ?_
              refine AWP.ret ?_
              obtain rfl := Option.some.inj hm
              exact ret_i []
          · replace hm := cF hq91_9 hm
            refine Wy (.d (.lit (.bool false))) [] (Ocs (lit_tf (b := decide (r45_4.2 = 0)) hq91_9) (Omv rfl)) ?_
            refine Wn ?_
            refine Wn ?_
            refine Wy (.d (.lit (.bool false))) [] (OpF rfl) ?_
            refine Wy (.d (.lit (.bool false))) [] (Omv rfl) ?_
            refine Wn ?_
            refine Wn ?_
            refine Wn ?_
            refine Wy (.d (.lit (.bool false))) [] (OpF rfl) ?_
            refine Wy (.d (.lit (.bool false))) [] (Omv rfl) ?_
            refine Wn ?_
            refine Wn ?_
            refine Wn ?_
            refine Wn ?_
            refine Wn ?_
            refine Wy (.d (.lit (.bool false))) [] (OpF rfl) ?_
            refine Wy (.d (.lit (.bool false))) [] (Omv rfl) ?_
            refine Wn ?_
            refine Wn ?_
            refine Wn ?_
            refine Wn ?_
            refine Wn ?_
            refine Wy (.d (.lit (.bool false))) [] (OpF rfl) ?_
            refine Wy (.d (.lit (.bool false))) [] (Omv rfl) ?_
            refine Wn ?_
            refine Wn ?_
            refine Wn ?_
            refine Wn ?_
            refine Wy (.d (.lit (.bool false))) [] (OpF rfl) ?_
            refine Wy (.d (.lit (.bool false))) [] (Omv rfl) ?_
            refine Wn ?_
            refine Wn ?_
            refine Wy (.d (.lit (.bool false))) [] (OpF rfl) ?_
            refine Wy (.d (.lit (.bool false))) [] (Omv rfl) ?_
            refine Wn ?_
            refine Wy (.d (.lit (.bool false))) [] (OpF rfl) ?_
            refine Wy (.d (.lit (.bool false))) [] (Omv rfl) ?_
            refine Wn ?_
            refine Wn ?_
            refine Wy (.d (.lit (.bool false))) [] (OpF rfl) ?_
            refine Wy (.d (.lit (.bool false))) [] (Omv rfl) ?_
            refine Wn ?_
            refine Wy (.d (.lit (.bool false))) [] (OpF rfl) ?_
            refine Wy (.d (.lit (.bool false))) [] (Omv rfl) ?_
            refine Wn ?_
            refine Wn ?_
            refine Wn ?_
            refine Wn ?_
            refine Wy (.d (.lit (.bool false))) [] (OpF rfl) ?_
            refine Wy (.d (.lit (.bool false))) [] (Omv rfl) ?_
            refine Wn ?_
            refine Wn ?_
            refine Wy (.d (.lit (.bool false))) [] (OpF rfl) ?_
            refine Wy (.d (.lit (.bool false))) [] (Omv rfl) ?_
            refine Wy (.d (.lit (.bool false))) [] (OpF rfl) ?_
            refine Wy (.d (.lit (.bool false))) [] (Omv rfl) ?_
            refine Walk.nil ?_
            refine Then.normal ?_
            refine AWP.ret ?_
            obtain rfl := Option.some.inj hm
            exact ret_i []
        · replace hm := cF hq87_9 hm
          refine Wy (.d (.lit (.bool false))) [] (Ocs (lit_tf (b := decide (r39_3.2 = 12)) hq87_9) (Omv rfl)) ?_
          refine Wn ?_
          refine Wn ?_
          refine Wy (.d (.lit (.bool false))) [] (OpF rfl) ?_
          refine Wy (.d (.lit (.bool false))) [] (Omv rfl) ?_
          refine Wn ?_
          refine Wn ?_
          refine Wy (.d (.lit (.bool false))) [] (OpF rfl) ?_
          refine Wy (.d (.lit (.bool false))) [] (Omv rfl) ?_
          refine Wn ?_
          refine Wn ?_
          refine Wn ?_
          refine Wy (.d (.lit (.bool false))) [] (OpF rfl) ?_
          refine Wy (.d (.lit (.bool false))) [] (Omv rfl) ?_
          refine Wn ?_
          refine Wn ?_
          refine Wn ?_
          refine Wn ?_
          refine Wn ?_
          refine Wy (.d (.lit (.bool false))) [] (OpF rfl) ?_
          refine Wy (.d (.lit (.bool false))) [] (Omv rfl) ?_
          refine Wn ?_
          refine Wn ?_
          refine Wn ?_
          refine Wn ?_
          refine Wn ?_
          refine Wy (.d (.lit (.bool false))) [] (OpF rfl) ?_
          refine Wy (.d (.lit (.bool false))) [] (Omv rfl) ?_
          refine Wn ?_
          refine Wn ?_
          refine Wn ?_
          refine Wn ?_
          refine Wy (.d (.lit (.bool false))) [] (OpF rfl) ?_
          refine Wy (.d (.lit (.bool false))) [] (Omv rfl) ?_
          refine Wn ?_
          refine Wn ?_
          refine Wy (.d (.lit (.bool false))) [] (OpF rfl) ?_
          refine Wy (.d (.lit (.bool false))) [] (Omv rfl) ?_
          refine Wn ?_
          refine Wy (.d (.lit (.bool false))) [] (OpF rfl) ?_
          refine Wy (.d (.lit (.bool false))) [] (Omv rfl) ?_
          refine Wn ?_
          refine Wn ?_
          refine Wy (.d (.lit (.bool false))) [] (OpF rfl) ?_
          refine Wy (.d (.lit (.bool false))) [] (Omv rfl) ?_
          refine Wn ?_
          refine Wy (.d (.lit (.bool false))) [] (OpF rfl) ?_
          refine Wy (.d (.lit (.bool false))) [] (Omv rfl) ?_
          refine Wn ?_
          refine Wn ?_
          refine Wn ?_
          refine Wn ?_
          refine Wy (.d (.lit (.bool false))) [] (OpF rfl) ?_
          refine Wy (.d (.lit (.bool false))) [] (Omv rfl) ?_
          refine Wn ?_
          refine Wn ?_
          refine Wy (.d (.lit (.bool false))) [] (OpF rfl) ?_
          refine Wy (.d (.lit (.bool false))) [] (Omv rfl) ?_
          refine Wy (.d (.lit (.bool false))) [] (OpF rfl) ?_
          refine Wy (.d (.lit (.bool false))) [] (Omv rfl) ?_
          refine Walk.nil ?_
          refine Then.normal ?_
          refine AWP.ret ?_
          obtain rfl := Option.some.inj hm
          exact ret_i []
      · replace hm := cF hq83_9 hm
        refine Wy (.d (.lit (.bool false))) [] (Ocs (lit_tf (b := decide (r33_2.2 = 0)) hq83_9) (Omv rfl)) ?_
        refine Wn ?_
        refine Wn ?_
        refine Wy (.d (.lit (.bool false))) [] (OpF rfl) ?_
        refine Wy (.d (.lit (.bool false))) [] (Omv rfl) ?_
        refine Wn ?_
        refine Wn ?_
        refine Wy (.d (.lit (.bool false))) [] (OpF rfl) ?_
        refine Wy (.d (.lit (.bool false))) [] (Omv rfl) ?_
        refine Wn ?_
        refine Wn ?_
        refine Wy (.d (.lit (.bool false))) [] (OpF rfl) ?_
        refine Wy (.d (.lit (.bool false))) [] (Omv rfl) ?_
        refine Wn ?_
        refine Wn ?_
        refine Wn ?_
        refine Wy (.d (.lit (.bool false))) [] (OpF rfl) ?_
        refine Wy (.d (.lit (.bool false))) [] (Omv rfl) ?_
        refine Wn ?_
        refine Wn ?_
        refine Wn ?_
        refine Wn ?_
        refine Wn ?_
        refine Wy (.d (.lit (.bool false))) [] (OpF rfl) ?_
        refine Wy (.d (.lit (.bool false))) [] (Omv rfl) ?_
        refine Wn ?_
        refine Wn ?_
        refine Wn ?_
        refine Wn ?_
        refine Wn ?_
        refine Wy (.d (.lit (.bool false))) [] (OpF rfl) ?_
        refine Wy (.d (.lit (.bool false))) [] (Omv rfl) ?_
        refine Wn ?_
        refine Wn ?_
        refine Wn ?_
        refine Wn ?_
        refine Wy (.d (.lit (.bool false))) [] (OpF rfl) ?_
        refine Wy (.d (.lit (.bool false))) [] (Omv rfl) ?_
        refine Wn ?_
        refine Wn ?_
        refine Wy (.d (.lit (.bool false))) [] (OpF rfl) ?_
        refine Wy (.d (.lit (.bool false))) [] (Omv rfl) ?_
        refine Wn ?_
        refine Wy (.d (.lit (.bool false))) [] (OpF rfl) ?_
        refine Wy (.d (.lit (.bool false))) [] (Omv rfl) ?_
        refine Wn ?_
        refine Wn ?_
        refine Wy (.d (.lit (.bool false))) [] (OpF rfl) ?_
        refine Wy (.d (.lit (.bool false))) [] (Omv rfl) ?_
        refine Wn ?_
        refine Wy (.d (.lit (.bool false))) [] (OpF rfl) ?_
        refine Wy (.d (.lit (.bool false))) [] (Omv rfl) ?_
        refine Wn ?_
        refine Wn ?_
        refine Wn ?_
        refine Wn ?_
        refine Wy (.d (.lit (.bool false))) [] (OpF rfl) ?_
        refine Wy (.d (.lit (.bool false))) [] (Omv rfl) ?_
        refine Wn ?_
        refine Wn ?_
        refine Wy (.d (.lit (.bool false))) [] (OpF rfl) ?_
        refine Wy (.d (.lit (.bool false))) [] (Omv rfl) ?_
        refine Wy (.d (.lit (.bool false))) [] (OpF rfl) ?_
        refine Wy (.d (.lit (.bool false))) [] (Omv rfl) ?_
        refine Walk.nil ?_
        refine Then.normal ?_
        refine AWP.ret ?_
        obtain rfl := Option.some.inj hm
        exact ret_i []
    · replace hm := cF hq79_9 hm
      refine Wy (.d (.lit (.bool false))) [] (Ocs (lit_tf (b := decide (r27_1.2 = 0)) hq79_9) (Omv rfl)) ?_
      refine Wn ?_
      refine Wn ?_
      refine Wy (.d (.lit (.bool false))) [] (OpF rfl) ?_
      refine Wy (.d (.lit (.bool false))) [] (Omv rfl) ?_
      refine Wn ?_
      refine Wn ?_
      refine Wy (.d (.lit (.bool false))) [] (OpF rfl) ?_
      refine Wy (.d (.lit (.bool false))) [] (Omv rfl) ?_
      refine Wn ?_
      refine Wn ?_
      refine Wy (.d (.lit (.bool false))) [] (OpF rfl) ?_
      refine Wy (.d (.lit (.bool false))) [] (Omv rfl) ?_
      refine Wn ?_
      refine Wn ?_
      refine Wy (.d (.lit (.bool false))) [] (OpF rfl) ?_
      refine Wy (.d (.lit (.bool false))) [] (Omv rfl) ?_
      refine Wn ?_
      refine Wn ?_
      refine Wn ?_
      refine Wy (.d (.lit (.bool false))) [] (OpF rfl) ?_
      refine Wy (.d (.lit (.bool false))) [] (Omv rfl) ?_
      refine Wn ?_
      refine Wn ?_
      refine Wn ?_
      refine Wn ?_
      refine Wn ?_
      refine Wy (.d (.lit (.bool false))) [] (OpF rfl) ?_
      refine Wy (.d (.lit (.bool false))) [] (Omv rfl) ?_
      refine Wn ?_
      refine Wn ?_
      refine Wn ?_
      refine Wn ?_
      refine Wn ?_
      refine Wy (.d (.lit (.bool false))) [] (OpF rfl) ?_
      refine Wy (.d (.lit (.bool false))) [] (Omv rfl) ?_
      refine Wn ?_
      refine Wn ?_
      refine Wn ?_
      refine Wn ?_
      refine Wy (.d (.lit (.bool false))) [] (OpF rfl) ?_
      refine Wy (.d (.lit (.bool false))) [] (Omv rfl) ?_
      refine Wn ?_
      refine Wn ?_
      refine Wy (.d (.lit (.bool false))) [] (OpF rfl) ?_
      refine Wy (.d (.lit (.bool false))) [] (Omv rfl) ?_
      refine Wn ?_
      refine Wy (.d (.lit (.bool false))) [] (OpF rfl) ?_
      refine Wy (.d (.lit (.bool false))) [] (Omv rfl) ?_
      refine Wn ?_
      refine Wn ?_
      refine Wy (.d (.lit (.bool false))) [] (OpF rfl) ?_
      refine Wy (.d (.lit (.bool false))) [] (Omv rfl) ?_
      refine Wn ?_
      refine Wy (.d (.lit (.bool false))) [] (OpF rfl) ?_
      refine Wy (.d (.lit (.bool false))) [] (Omv rfl) ?_
      refine Wn ?_
      refine Wn ?_
      refine Wn ?_
      refine Wn ?_
      refine Wy (.d (.lit (.bool false))) [] (OpF rfl) ?_
      refine Wy (.d (.lit (.bool false))) [] (Omv rfl) ?_
      refine Wn ?_
      refine Wn ?_
      refine Wy (.d (.lit (.bool false))) [] (OpF rfl) ?_
      refine Wy (.d (.lit (.bool false))) [] (Omv rfl) ?_
      refine Wy (.d (.lit (.bool false))) [] (OpF rfl) ?_
      refine Wy (.d (.lit (.bool false))) [] (Omv rfl) ?_
      refine Walk.nil ?_
      refine Then.normal ?_
      refine AWP.ret ?_
      obtain rfl := Option.some.inj hm
      exact ret_i []
  · replace hm := cF hq75_9 hm
    refine Wy (.d (.lit (.bool false))) [] (Ocs (lit_tf (b := decide (r21_0.2 = 0)) hq75_9) (Omv rfl)) ?_
    refine Wn ?_
    refine Wn ?_
    refine Wy (.d (.lit (.bool false))) [] (OpF rfl) ?_
    refine Wy (.d (.lit (.bool false))) [] (Omv rfl) ?_
    refine Wn ?_
    refine Wn ?_
    refine Wy (.d (.lit (.bool false))) [] (OpF rfl) ?_
    refine Wy (.d (.lit (.bool false))) [] (Omv rfl) ?_
    refine Wn ?_
    refine Wn ?_
    refine Wy (.d (.lit (.bool false))) [] (OpF rfl) ?_
    refine Wy (.d (.lit (.bool false))) [] (Omv rfl) ?_
    refine Wn ?_
    refine Wn ?_
    refine Wy (.d (.lit (.bool false))) [] (OpF rfl) ?_
    refine Wy (.d (.lit (.bool false))) [] (Omv rfl) ?_
    refine Wn ?_
    refine Wn ?_
    refine Wy (.d (.lit (.bool false))) [] (OpF rfl) ?_
    refine Wy (.d (.lit (.bool false))) [] (Omv rfl) ?_
    refine Wn ?_
    refine Wn ?_
    refine Wn ?_
    refine Wy (.d (.lit (.bool false))) [] (OpF rfl) ?_
    refine Wy (.d (.lit (.bool false))) [] (Omv rfl) ?_
    refine Wn ?_
    refine Wn ?_
    refine Wn ?_
    refine Wn ?_
    refine Wn ?_
    refine Wy (.d (.lit (.bool false))) [] (OpF rfl) ?_
    refine Wy (.d (.lit (.bool false))) [] (Omv rfl) ?_
    refine Wn ?_
    refine Wn ?_
    refine Wn ?_
    refine Wn ?_
    refine Wn ?_
    refine Wy (.d (.lit (.bool false))) [] (OpF rfl) ?_
    refine Wy (.d (.lit (.bool false))) [] (Omv rfl) ?_
    refine Wn ?_
    refine Wn ?_
    refine Wn ?_
    refine Wn ?_
    refine Wy (.d (.lit (.bool false))) [] (OpF rfl) ?_
    refine Wy (.d (.lit (.bool false))) [] (Omv rfl) ?_
    refine Wn ?_
    refine Wn ?_
    refine Wy (.d (.lit (.bool false))) [] (OpF rfl) ?_
    refine Wy (.d (.lit (.bool false))) [] (Omv rfl) ?_
    refine Wn ?_
    refine Wy (.d (.lit (.bool false))) [] (OpF rfl) ?_
    refine Wy (.d (.lit (.bool false))) [] (Omv rfl) ?_
    refine Wn ?_
    refine Wn ?_
    refine Wy (.d (.lit (.bool false))) [] (OpF rfl) ?_
    refine Wy (.d (.lit (.bool false))) [] (Omv rfl) ?_
    refine Wn ?_
    refine Wy (.d (.lit (.bool false))) [] (OpF rfl) ?_
    refine Wy (.d (.lit (.bool false))) [] (Omv rfl) ?_
    refine Wn ?_
    refine Wn ?_
    refine Wn ?_
    refine Wn ?_
    refine Wy (.d (.lit (.bool false))) [] (OpF rfl) ?_
    refine Wy (.d (.lit (.bool false))) [] (Omv rfl) ?_
    refine Wn ?_
    refine Wn ?_
    refine Wy (.d (.lit (.bool false))) [] (OpF rfl) ?_
    refine Wy (.d (.lit (.bool false))) [] (Omv rfl) ?_
    refine Wy (.d (.lit (.bool false))) [] (OpF rfl) ?_
    refine Wy (.d (.lit (.bool false))) [] (Omv rfl) ?_
    refine Walk.nil ?_
    refine Then.normal ?_
    refine AWP.ret ?_
    obtain rfl := Option.some.inj hm
    exact ret_i []

set_option maxRecDepth 20000 in
set_option maxHeartbeats 4000000 in
theorem ok_sorter_Heap_int_less (p0_L : (List Int)) (p1 : Int) (p2 : Int) (r : Bool) (h : m_sorter_Heap_int_less p0_L p1 p2 = some r) : GCall Try.prog 41 [(.agg [(.d (.sl (List.length p0_L) (flatD (encI .i64) p0_L))), (.d (.lit .nilFunc))]), (.d (.lit (.int .i64 p1))), (.d (.lit (.int .i64 p2)))] [] (.d (.lit (.bool r))) [] := by
  refine GCall.of_body (n := 25) (rs := [(.tmp 6)]) Try.func41 rfl rfl rfl ?_
  refine Ato ⟨((.agg [(.d (.sl (List.length p0_L) (flatD (encI .i64) p0_L))), (.d (.lit .nilFunc))]) :: ((.d (.lit (.int .i64 p1))) :: ((.d (.lit (.int .i64 p2))) :: (tu 22 [])))), [], 0⟩ ?_
  have hm := h
  unfold m_sorter_Heap_int_less at hm
  refine AWP.seq ?_
  refine AWP.text ?_
  refine Wy (.loc 0 0) [(0, (.box [(.d (.sl (List.length p0_L) (flatD (encI .i64) p0_L))), (.d (.lit .nilFunc))]))] (Obx rfl) ?_
  refine Wy (.d (.lit (.bool false))) [] (Omv rfl) ?_
  refine Walk.nil ?_
  refine Then.normal ?_
  refine Amk 14 1 ⟨(tp 1 ((.d (.lit (.int .i64 p1))) :: ((.d (.lit (.int .i64 p2))) :: ((.loc 0 0) :: (tp 21 []))))), [(.box [(.d (.sl (List.length p0_L) (flatD (encI .i64) p0_L))), (.d (.lit .nilFunc))])], 0⟩ ?_
  refine AWP.seq ?_
  refine Adr ?_
  refine Wy (.loc 0 1) [] (Ofa rfl) ?_
  refine Wy (.d (.lit .nilFunc)) [] (Old rfl) ?_
  refine Wy (.d (.lit (.bool false))) [] (op_nf rfl (by kernel_rfl) (by kernel_rfl) (by kernel_rfl) (by decide)) ?_
  refine Wy (.d (.lit (.bool false))) [] (Omv rfl) ?_
  refine Wn ?_
  refine Wn ?_
  refine Wn ?_
  refine Wn ?_
  refine Wn ?_
  refine Wn ?_
  refine Wn ?_
  refine Wn ?_
  refine Wn ?_
  refine Wn ?_
  refine Wn ?_
  refine Wn ?_
  refine Wn ?_
  refine Wy (.d (.lit (.bool false))) [] (OpF rfl) ?_
  refine Wy (.d (.lit (.bool false))) [] (Omv rfl) ?_
  refine Wdr ?_
  refine Then.normal ?_
  refine AWP.ret ?_
  obtain rfl := Option.some.inj hm
  exact ret_i []

set_option maxRecDepth 20000 in
set_option maxHeartbeats 4000000 in
theorem ok_sorter_Fine_int (p0_L : (List Int)) (r : Bool) (h : m_sorter_Fine_int p0_L = some r) : GCall Try.prog 23 [(.agg [(.d (.sl (List.length p0_L) (flatD (encI .i64) p0_L))), (.d (.lit .nilFunc))])] [] (.d (.lit (.bool r))) [] := by
  refine GCall.of_body (n := 17) (rs := [(.tmp 2)]) Try.func23 rfl rfl rfl ?_
  refine Ato ⟨((.agg [(.d (.sl (List.length p0_L) (flatD (encI .i64) p0_L))), (.d (.lit .nilFunc))]) :: (tu 16 [])), [], 0⟩ ?_
  have hm := h
  unfold m_sorter_Fine_int at hm
  refine AWP.seq ?_
  refine AWP.text ?_
  refine Wy (.loc 0 0) [(0, (.box [(.d (.sl (List.length p0_L) (flatD (encI .i64) p0_L))), (.d (.lit .nilFunc))]))] (Obx rfl) ?_
  refine Wy (.d (.lit (.bool false))) [] (Omv rfl) ?_
  refine Walk.nil ?_
  refine Then.normal ?_
  refine Amk 2 1 ⟨(tp 1 ((.loc 0 0) :: (tp 15 []))), [(.box [(.d (.sl (List.length p0_L) (flatD (encI .i64) p0_L))), (.d (.lit .nilFunc))])], 0⟩ ?_
  refine AWP.seq ?_
  refine AWP.seq ?_
  refine AWP.text ?_
  refine Wy (.d (.lit (.int .i64 1))) [] (Omv rfl) ?_
  refine Walk.nil ?_
  refine Then.normal ?_
  refine Amk 10 1 ⟨(tp 1 ((.loc 0 0) :: (tp 1 ((.d (.lit (.int .i64 1))) :: (tp 13 []))))), [(.box [(.d (.sl (List.length p0_L) (flatD (encI .i64) p0_L))), (.d (.lit .nilFunc))])], 0⟩ ?_
  refine AWP.block ?_
  refine AWP.loopI (α := Nat × Int)
    (fun x => match x with | (fu_0, y3_0) => (⟨(tp 1 ((.loc 0 0) :: (tp 1 ((.d (.lit (.int .i64 y3_0))) :: (tp 13 []))))), [(.box [(.d (.sl (List.length p0_L) (flatD (encI .i64) p0_L))), (.d (.lit .nilFunc))])], 0⟩ : St))
    (fun x => match x with | (fu_0, y3_0) => m_sorter_Fine_int_l0 p0_L fu_0 y3_0 = some r)
    (fun x => match x with | (fu_0, y3_0) => fu_0) (1152921504606846976, 1)
    (Weak.toK 10 0 0 [0]) hm ?_
  rintro ⟨fu_0, y3_0⟩ n_0 hm ih_0
  try dsimp only at hm ih_0 ⊢
  cases fu_0 with
  | zero => exact absurd hm (by unfold m_sorter_Fine_int_l0; simp)
  | succ fu_0 =>
    unfold m_sorter_Fine_int_l0 at hm
    refine AWP.seq ?_
    refine AWP.seq ?_
    refine AWP.text ?_
    refine Wy (.d (.lit (.int .i64 y3_0))) [] (Omv rfl) ?_
    refine Wy (.loc 0 0) [] (Ofa rfl) ?_
    refine Wy (.d (.sl (List.length p0_L) (flatD (encI .i64) p0_L))) [] (Old rfl) ?_
    refine Wy (.d (.lit (.int .i64 ((List.length p0_L : Nat) : Int)))) [] (Oln rfl) ?_
    refine Wy (.d (.lit (.bool (decide (y3_0 < ((List.length p0_L : Nat) : Int)))))) [] (Obn rfl (fun _ => hb_lss (k := .i64))) ?_
    refine Walk.nil ?_
    refine Then.normal ?_
    refine Amk 266 1 ⟨(tp 1 ((.loc 0 0) :: (tp 1 ((.d (.lit (.int .i64 y3_0))) :: (tp 4 ((.d (.lit (.bool (decide (y3_0 < ((List.length p0_L : Nat) : Int)))))) :: (tp 8 []))))))), [(.box [(.d (.sl (List.length p0_L) (flatD (encI .i64) p0_L))), (.d (.lit .nilFunc))])], 0⟩ ?_
    rcases tf_ (decide (y3_0 < ((List.length p0_L : Nat) : Int))) with hc8_3 | hc8_3
    · replace hm := cT hc8_3 hm
      refine AWP.if_ true (Eq.trans (by kernel_rfl) (lit_tf (b := decide (y3_0 < ((List.length p0_L : Nat) : Int))) hc8_3)) ?_
      refine AWP.skip ?_
      refine Then.normal ?_
      refine Amk 10 1 ⟨(tp 1 ((.loc 0 0) :: (tp 1 ((.d (.lit (.int .i64 y3_0))) :: (tp 13 []))))), [(.box [(.d (.sl (List.length p0_L) (flatD (encI .i64) p0_L))), (.d (.lit .nilFunc))])], 0⟩ ?_
      refine AWP.seq ?_
      refine AWP.block ?_
      refine AWP.seq ?_
      refine AWP.text ?_
      refine Wy (.agg [(.d (.sl (List.length p0_L) (flatD (encI .i64) p0_L))), (.d (.lit .nilFunc))]) [] (Old rfl) ?_
      refine Wy (.d (.lit (.int .i64 y3_0))) [] (Omv rfl) ?_
      refine Wy (.d (.lit (.int .i64 y3_0))) [] (Omv rfl) ?_
      refine Wy (.d (.lit (.int .i64 (IntKind.i64.wrap (y3_0 - 1))))) [] (Obn rfl (fun _ => hb_sub (k := .i64))) ?_
      refine Wy (.d (.lit (.int .i64 (IntKind.i64.wrap (Int.tdiv (IntKind.i64.wrap (y3_0 - 1)) 2))))) [] (Ocs (by kernel_rfl) (op_bin rfl (a1 := .int .i64 (IntKind.i64.wrap (y3_0 - 1))) (a2 := .int .i64 2) (by kernel_rfl) (by kernel_rfl) (fun _ => hb_quo (by decide)))) ?_
      obtain ⟨r16_2, hr16_2, hm⟩ := bnd hm
      refine Wy (.d (.lit (.bool r16_2))) [] (Ocf [] [] [] 0 (ok_sorter_Heap_int_less p0_L y3_0 (IntKind.i64.wrap (Int.tdiv (IntKind.i64.wrap (y3_0 - 1)) 2)) r16_2 hr16_2) (fun a w => Try.call41 a w) rfl trivial) ?_
      refine Walk.nil ?_
      refine Then.normal ?_
      refine Amk 65546 1 ⟨(tp 1 ((.loc 0 0) :: (tp 1 ((.d (.lit (.int .i64 y3_0))) :: (tp 12 ((.d (.lit (.bool r16_2))) :: [])))))), [(.box [(.d (.sl (List.length p0_L) (flatD (encI .i64) p0_L))), (.d (.lit .nilFunc))])], 0⟩ ?_
      rcases tf_ r16_2 with hc16_4 | hc16_4
      · replace hm := cT hc16_4 hm
        refine AWP.if_ true (Eq.trans (by kernel_rfl) (lit_tf (b := r16_2) hc16_4)) ?_
        refine AWP.seq ?_
        refine AWP.text ?_
        refine Wy (.d (.lit (.bool false))) [] (Omv rfl) ?_
        refine Walk.nil ?_
        refine Then.normal ?_
        refine AWP.ret ?_
        refine InBlock.ret ?_
        refine Then.ret ?_
        refine RoundK.ret ?_
        refine InBlock.ret ?_
        refine Then.ret ?_
        obtain rfl := Option.some.inj hm
        exact ret_i []
      · replace hm := cF hc16_4 hm
        refine AWP.if_ false (Eq.trans (by kernel_rfl) (lit_tf (b := r16_2) hc16_4)) ?_
        refine AWP.skip ?_
        refine InBlock.normal ?_
        refine Then.normal ?_
        refine Amk 10 1 ⟨(tp 1 ((.loc 0 0) :: (tp 1 ((.d (.lit (.int .i64 y3_0))) :: (tp 13 []))))), [(.box [(.d (.sl (List.length p0_L) (flatD (encI .i64) p0_L))), (.d (.lit .nilFunc))])], 0⟩ ?_
        refine AWP.text ?_
        refine Wy (.d (.lit (.int .i64 y3_0))) [] (Omv rfl) ?_
        refine Wy (.d (.lit (.int .i64 (IntKind.i64.wrap (y3_0 + 1))))) [] (Obn rfl (fun _ => hb_add (k := .i64))) ?_
        refine Wy (.d (.lit (.int .i64 (IntKind.i64.wrap (y3_0 + 1))))) [] (Omv rfl) ?_
        refine Walk.nil ?_
        refine RoundK.normal ?_
        exact Rounds.weak (Weak.toK 10 0 0 [0]) (ih_0 (fu_0, (IntKind.i64.wrap (y3_0 + 1))) hm (Nat.lt_succ_self _))
    · replace hm := cF hc8_3 hm
      refine AWP.if_ false (Eq.trans (by kernel_rfl) (lit_tf (b := decide (y3_0 < ((List.length p0_L : Nat) : Int))) hc8_3)) ?_
      refine AWP.exit ?_
      refine Then.exit ?_
      refine RoundK.exit ?_
      refine InBlock.same ?_
      refine Then.normal ?_
      refine Amk 0 0 ⟨(tp 17 []), [.gone], 0⟩ ?_
      refine AWP.seq ?_
      refine AWP.text ?_
      refine Wy (.d (.lit (.bool true))) [] (Omv rfl) ?_
      refine Walk.nil ?_
      refine Then.normal ?_
      refine AWP.ret ?_
      obtain rfl := Option.some.inj hm
      exact ret_i []
end Go.Proofs.Ytanahlngkociaaa.K
