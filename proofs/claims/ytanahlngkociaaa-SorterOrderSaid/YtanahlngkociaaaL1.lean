/- each function computes what its model says (1) -/
import Derived.Test.YtanahlngkociaaaL0
namespace Go.Proofs.Ytanahlngkociaaa.K
open Go.RowKit Go.Lib
set_option linter.unusedVariables false
set_option linter.unusedSimpArgs false

set_option maxRecDepth 20000 in
set_option maxHeartbeats 4000000 in
theorem ok_sorter_Heap_event_Event_Pop__sorter_ahead (p0_L : (List GEvent)) (r : (GEvent × (List GEvent) × Bool)) (h : m_sorter_Heap_event_Event_Pop__sorter_ahead p0_L = some r) : GCall Try.prog 28 [(.agg [(.d (.sl (List.length p0_L) (flatD enc_GEvent p0_L))), (.clo (.func 44) [] [])])] [] (.tup [(.agg [(.d (.lit (.int .i64 r.1.Time))), (.d (.lit (.int .i64 r.1.Source))), (.d (.lit (.int .i64 r.1.Seq))), (.d (.lit (.string (toS r.1.Type_)))), (.d (.sl (List.length r.1.Vals) (flatD enc_GValue r.1.Vals)))]), (.agg [(.own 0), (.clo (.func 44) [] [])]), (.d (.lit (.bool r.2.2)))]) [(.arr 50 5 (List.length r.2.1) (flatD enc_GEvent r.2.1))] := by
  refine GCall.of_body (n := 48) (rs := [(.cell 2 50), (.cell 3 75), (.tmp 4)]) Try.func28 rfl rfl rfl ?_
  refine Ato ⟨((.agg [(.d (.sl (List.length p0_L) (flatD enc_GEvent p0_L))), (.clo (.func 44) [] [])]) :: (tu 47 [])), [], 0⟩ ?_
  have hm := h
  unfold m_sorter_Heap_event_Event_Pop__sorter_ahead at hm
  refine AWP.seq ?_
  refine AWP.text ?_
  refine Wy (.loc 0 0) [(0, (.box [(.d (.sl (List.length p0_L) (flatD enc_GEvent p0_L))), (.clo (.func 44) [] [])]))] (Obx rfl) ?_
  refine Wy (.loc 1 0) [(1, (.box [(.d (.lit (.int .i64 0))), (.d (.lit (.int .i64 0))), (.d (.lit (.int .i64 0))), (.d (.lit (.string (toS ([] : List UInt8))))), (.d .nil)]))] (Oal rfl) ?_
  refine Wy (.loc 2 0) [(2, (.box [(.d .nil), (.d (.lit .nilFunc))]))] (Oal rfl) ?_
  refine Wy (.d (.lit (.bool false))) [] (Omv rfl) ?_
  refine Walk.nil ?_
  refine Then.normal ?_
  refine Amk 14 7 ⟨(tp 1 ((.loc 0 0) :: ((.loc 1 0) :: ((.loc 2 0) :: (tp 44 []))))), [(.box [(.d (.sl (List.length p0_L) (flatD enc_GEvent p0_L))), (.clo (.func 44) [] [])]), (.box [(.d (.lit (.int .i64 0))), (.d (.lit (.int .i64 0))), (.d (.lit (.int .i64 0))), (.d (.lit (.string (toS ([] : List UInt8))))), (.d .nil)]), (.box [(.d .nil), (.d (.lit .nilFunc))])], 0⟩ ?_
  refine AWP.seq ?_
  refine AWP.text ?_
  refine Wy (.agg [(.d (.sl (List.length p0_L) (flatD enc_GEvent p0_L))), (.clo (.func 44) [] [])]) [] (Old rfl) ?_
  obtain ⟨r12_0, hr12_0, hm⟩ := bnd hm
  refine Wy (.agg [(.own 3), (.clo (.func 44) [] [])]) [(3, (.arr 50 5 (List.length r12_0) (flatD enc_GEvent r12_0)))] (Ocf [] [3] [] 0 (ok_sorter_Heap_event_Event_clone__sorter_ahead p0_L r12_0 hr12_0) (fun a w => Try.call45 a w) rfl trivial) ?_
  refine Wy (.loc 4 0) [(4, (.box [(.d .nil), (.d (.lit .nilFunc))]))] (Oal rfl) ?_
  refine Wy (.tup []) [(4, (.box [(.own 3), (.clo (.func 44) [] [])]))] (Ost rfl) ?_
  refine Walk.nil ?_
  refine Then.normal ?_
  refine Amk 44 30 ⟨(tp 2 ((.loc 1 0) :: ((.loc 2 0) :: (tp 1 ((.loc 4 0) :: (tp 42 [])))))), [.gone, (.box [(.d (.lit (.int .i64 0))), (.d (.lit (.int .i64 0))), (.d (.lit (.int .i64 0))), (.d (.lit (.string (toS ([] : List UInt8))))), (.d .nil)]), (.box [(.d .nil), (.d (.lit .nilFunc))]), (.arr 50 5 (List.length r12_0) (flatD enc_GEvent r12_0)), (.box [(.own 3), (.clo (.func 44) [] [])])], 0⟩ ?_
  refine AWP.seq ?_
  refine AWP.seq ?_
  refine AWP.text ?_
  refine Wy (.loc 4 0) [] (Ofa rfl) ?_
  refine Wy (.own 3) [] (Old rfl) ?_
  refine Wy (.d (.lit (.int .i64 ((List.length r12_0 : Nat) : Int)))) [] (Oln rfl) ?_
  refine Wy (.d (.lit (.bool (decide (((List.length r12_0 : Nat) : Int) = 0))))) [] (Obn rfl (fun _ => hb_eql (k := .i64))) ?_
  refine Walk.nil ?_
  refine Then.normal ?_
  refine Amk 65580 30 ⟨(tp 2 ((.loc 1 0) :: ((.loc 2 0) :: (tp 1 ((.loc 4 0) :: (tp 10 ((.d (.lit (.bool (decide (((List.length r12_0 : Nat) : Int) = 0))))) :: (tp 31 [])))))))), [.gone, (.box [(.d (.lit (.int .i64 0))), (.d (.lit (.int .i64 0))), (.d (.lit (.int .i64 0))), (.d (.lit (.string (toS ([] : List UInt8))))), (.d .nil)]), (.box [(.d .nil), (.d (.lit .nilFunc))]), (.arr 50 5 (List.length r12_0) (flatD enc_GEvent r12_0)), (.box [(.own 3), (.clo (.func 44) [] [])])], 0⟩ ?_
  rcases tf_ (decide (((List.length r12_0 : Nat) : Int) = 0)) with hc16_8 | hc16_8
  · replace hm := cT hc16_8 hm
    refine AWP.if_ true (Eq.trans (by kernel_rfl) (lit_tf (b := decide (((List.length r12_0 : Nat) : Int) = 0)) hc16_8)) ?_
    refine AWP.seq ?_
    refine AWP.text ?_
    refine Wy (.loc 5 0) [(5, (.box [(.d (.lit (.int .i64 0))), (.d (.lit (.int .i64 0))), (.d (.lit (.int .i64 0))), (.d (.lit (.string (toS ([] : List UInt8))))), (.d .nil)]))] (Oal rfl) ?_
    refine Walk.nil ?_
    refine Then.normal ?_
    refine Amk 108 62 ⟨(tp 2 ((.loc 1 0) :: ((.loc 2 0) :: (tp 1 ((.loc 4 0) :: ((.loc 5 0) :: (tp 41 []))))))), [.gone, (.box [(.d (.lit (.int .i64 0))), (.d (.lit (.int .i64 0))), (.d (.lit (.int .i64 0))), (.d (.lit (.string (toS ([] : List UInt8))))), (.d .nil)]), (.box [(.d .nil), (.d (.lit .nilFunc))]), (.arr 50 5 (List.length r12_0) (flatD enc_GEvent r12_0)), (.box [(.own 3), (.clo (.func 44) [] [])]), (.box [(.d (.lit (.int .i64 0))), (.d (.lit (.int .i64 0))), (.d (.lit (.int .i64 0))), (.d (.lit (.string (toS ([] : List UInt8))))), (.d .nil)])], 0⟩ ?_
    refine AWP.seq ?_
    refine Adr ?_
    refine Wy (.agg [(.d (.lit (.int .i64 0))), (.d (.lit (.int .i64 0))), (.d (.lit (.int .i64 0))), (.d (.lit (.string (toS ([] : List UInt8))))), (.d .nil)]) [] (Old rfl) ?_
    refine Wy (.agg [(.own 3), (.clo (.func 44) [] [])]) [] (Old rfl) ?_
    refine Wy (.tup []) [(1, (.box [(.d (.lit (.int .i64 0))), (.d (.lit (.int .i64 0))), (.d (.lit (.int .i64 0))), (.d (.lit (.string (toS ([] : List UInt8))))), (.d .nil)]))] (Ost rfl) ?_
    refine Wy (.tup []) [(2, (.box [(.own 3), (.clo (.func 44) [] [])]))] (Ost rfl) ?_
    refine Wy (.d (.lit (.bool false))) [] (Omv rfl) ?_
    refine Wdr ?_
    refine Then.normal ?_
    refine AWP.ret ?_
    refine Then.ret ?_
    obtain rfl := Option.some.inj hm
    exact ret_i [3]
  · replace hm := cF hc16_8 hm
    refine AWP.if_ false (Eq.trans (by kernel_rfl) (lit_tf (b := decide (((List.length r12_0 : Nat) : Int) = 0)) hc16_8)) ?_
    refine AWP.skip ?_
    refine Then.normal ?_
    refine Amk 44 30 ⟨(tp 2 ((.loc 1 0) :: ((.loc 2 0) :: (tp 1 ((.loc 4 0) :: (tp 42 [])))))), [.gone, (.box [(.d (.lit (.int .i64 0))), (.d (.lit (.int .i64 0))), (.d (.lit (.int .i64 0))), (.d (.lit (.string (toS ([] : List UInt8))))), (.d .nil)]), (.box [(.d .nil), (.d (.lit .nilFunc))]), (.arr 50 5 (List.length r12_0) (flatD enc_GEvent r12_0)), (.box [(.own 3), (.clo (.func 44) [] [])])], 0⟩ ?_
    refine AWP.seq ?_
    refine Adr ?_
    refine Wy (.loc 4 0) [] (Ofa rfl) ?_
    refine Wy (.own 3) [] (Old rfl) ?_
    obtain ⟨x21_2, hx21_2, hm⟩ := bnd hm
    obtain ⟨hx21_2i, hx21_2g⟩ := geti_some hx21_2
    refine Wy (.loc 3 ((Int.toNat 0) * 5)) [] (Oia rfl enc_GEvent_len hx21_2i hx21_2g) ?_
    refine Wy (.agg [(.d (.lit (.int .i64 x21_2.Time))), (.d (.lit (.int .i64 x21_2.Source))), (.d (.lit (.int .i64 x21_2.Seq))), (.d (.lit (.string (toS x21_2.Type_)))), (.d (.sl (List.length x21_2.Vals) (flatD enc_GValue x21_2.Vals)))]) [] (Lr rfl enc_GEvent_len hx21_2g) ?_
    refine Wy (.loc 4 0) [] (Ofa rfl) ?_
    refine Wy (.own 3) [] (Old rfl) ?_
    refine Wy (.d (.lit (.int .i64 ((List.length r12_0 : Nat) : Int)))) [] (Oln rfl) ?_
    refine Wy (.d (.lit (.int .i64 (IntKind.i64.wrap (((List.length r12_0 : Nat) : Int) - 1))))) [] (Obn rfl (fun _ => hb_sub (k := .i64))) ?_
    refine Wy (.loc 5 0) [(5, (.box [(.d (.lit (.int .i64 0))), (.d (.lit (.int .i64 0))), (.d (.lit (.int .i64 0))), (.d (.lit (.string (toS ([] : List UInt8))))), (.d .nil)]))] (Oal rfl) ?_
    refine Wy (.tup []) [(5, (.box [(.d (.lit (.int .i64 x21_2.Time))), (.d (.lit (.int .i64 x21_2.Source))), (.d (.lit (.int .i64 x21_2.Seq))), (.d (.lit (.string (toS x21_2.Type_)))), (.d (.sl (List.length x21_2.Vals) (flatD enc_GValue x21_2.Vals)))]))] (Ost rfl) ?_
    refine Wy (.d (.lit (.int .i64 (IntKind.i64.wrap (((List.length r12_0 : Nat) : Int) - 1))))) [] (Omv rfl) ?_
    refine Wdr ?_
    refine Then.normal ?_
    refine Amk 428 62 ⟨(tp 2 ((.loc 1 0) :: ((.loc 2 0) :: (tp 1 ((.loc 4 0) :: (tp 1 ((.loc 5 0) :: ((.d (.lit (.int .i64 (IntKind.i64.wrap (((List.length r12_0 : Nat) : Int) - 1))))) :: (tp 39 []))))))))), [.gone, (.box [(.d (.lit (.int .i64 0))), (.d (.lit (.int .i64 0))), (.d (.lit (.int .i64 0))), (.d (.lit (.string (toS ([] : List UInt8))))), (.d .nil)]), (.box [(.d .nil), (.d (.lit .nilFunc))]), (.arr 50 5 (List.length r12_0) (flatD enc_GEvent r12_0)), (.box [(.own 3), (.clo (.func 44) [] [])]), (.box [(.d (.lit (.int .i64 x21_2.Time))), (.d (.lit (.int .i64 x21_2.Source))), (.d (.lit (.int .i64 x21_2.Seq))), (.d (.lit (.string (toS x21_2.Type_)))), (.d (.sl (List.length x21_2.Vals) (flatD enc_GValue x21_2.Vals)))])], 0⟩ ?_
    refine AWP.seq ?_
    refine AWP.text ?_
    refine Wy (.agg [(.own 3), (.clo (.func 44) [] [])]) [] (Old rfl) ?_
    refine Wy (.d (.lit (.int .i64 (IntKind.i64.wrap (((List.length r12_0 : Nat) : Int) - 1))))) [] (Omv rfl) ?_
    obtain ⟨r29_3, hr29_3, hm⟩ := bnd hm
    refine Wy (.tup []) [(3, (.arr 50 5 (List.length r29_3) (flatD enc_GEvent r29_3)))] (Ocf [3] [] [] 0 (ok_sorter_Heap_event_Event_swap__sorter_ahead r12_0 0 (IntKind.i64.wrap (((List.length r12_0 : Nat) : Int) - 1)) r29_3 hr29_3) (fun a w => Try.call46 a w) rfl ⟨rfl, trivial⟩) ?_
    refine Walk.nil ?_
    refine Then.normal ?_
    refine Amk 428 62 ⟨(tp 2 ((.loc 1 0) :: ((.loc 2 0) :: (tp 1 ((.loc 4 0) :: (tp 1 ((.loc 5 0) :: ((.d (.lit (.int .i64 (IntKind.i64.wrap (((List.length r12_0 : Nat) : Int) - 1))))) :: (tp 39 []))))))))), [.gone, (.box [(.d (.lit (.int .i64 0))), (.d (.lit (.int .i64 0))), (.d (.lit (.int .i64 0))), (.d (.lit (.string (toS ([] : List UInt8))))), (.d .nil)]), (.box [(.d .nil), (.d (.lit .nilFunc))]), (.arr 50 5 (List.length r29_3) (flatD enc_GEvent r29_3)), (.box [(.own 3), (.clo (.func 44) [] [])]), (.box [(.d (.lit (.int .i64 x21_2.Time))), (.d (.lit (.int .i64 x21_2.Source))), (.d (.lit (.int .i64 x21_2.Seq))), (.d (.lit (.string (toS x21_2.Type_)))), (.d (.sl (List.length x21_2.Vals) (flatD enc_GValue x21_2.Vals)))])], 0⟩ ?_
    refine AWP.seq ?_
    refine AWP.text ?_
    refine Wy (.loc 4 0) [] (Ofa rfl) ?_
    refine Wy (.own 3) [] (Old rfl) ?_
    refine Wy (.d (.lit (.int .i64 (IntKind.i64.wrap (((List.length r12_0 : Nat) : Int) - 1))))) [] (Omv rfl) ?_
    obtain ⟨s33_4, hs33_4, hm⟩ := bnd hm; obtain ⟨hs33_4a, hs33_4b, hs33_4c, hs33_4d, hs33_4e⟩ := cut_some hs33_4
    refine Wy (.own 6) [(3, .gone), (6, (.arr 50 5 (List.length s33_4) (flatD enc_GEvent s33_4)))] (OcB (op_sliceTo rfl (id := 3) (e := 50) (sz := 5) (n := List.length r29_3) (xs := flatD enc_GEvent r29_3) (by kernel_rfl) (by kernel_rfl) (by kernel_rfl) (k := .i64) (hv := (IntKind.i64.wrap (((List.length r12_0 : Nat) : Int) - 1))) (by kernel_rfl) (h := (Int.toNat (IntKind.i64.wrap (((List.length r12_0 : Nat) : Int) - 1)))) hs33_4b hs33_4d (by kernel_rfl) (by decide)) (bl_app (cut_len0 hs33_4e hs33_4d) (cut_take0 enc_GEvent_len hs33_4e))) ?_
    refine Wy (.loc 4 0) [] (Ofa rfl) ?_
    refine Wy (.tup []) [(4, (.box [(.own 6), (.clo (.func 44) [] [])]))] (Ost rfl) ?_
    refine Walk.nil ?_
    refine Then.normal ?_
    refine Amk 172 118 ⟨(tp 2 ((.loc 1 0) :: ((.loc 2 0) :: (tp 1 ((.loc 4 0) :: (tp 1 ((.loc 5 0) :: (tp 40 [])))))))), [.gone, (.box [(.d (.lit (.int .i64 0))), (.d (.lit (.int .i64 0))), (.d (.lit (.int .i64 0))), (.d (.lit (.string (toS ([] : List UInt8))))), (.d .nil)]), (.box [(.d .nil), (.d (.lit .nilFunc))]), .gone, (.box [(.own 6), (.clo (.func 44) [] [])]), (.box [(.d (.lit (.int .i64 x21_2.Time))), (.d (.lit (.int .i64 x21_2.Source))), (.d (.lit (.int .i64 x21_2.Seq))), (.d (.lit (.string (toS x21_2.Type_)))), (.d (.sl (List.length x21_2.Vals) (flatD enc_GValue x21_2.Vals)))]), (.arr 50 5 (List.length s33_4) (flatD enc_GEvent s33_4))], 0⟩ ?_
    refine AWP.seq ?_
    refine AWP.seq ?_
    refine AWP.text ?_
    refine Wy (.d (.lit (.int .i64 0))) [] (Omv rfl) ?_
    refine Walk.nil ?_
    refine Then.normal ?_
    refine Amk 684 118 ⟨(tp 2 ((.loc 1 0) :: ((.loc 2 0) :: (tp 1 ((.loc 4 0) :: (tp 1 ((.loc 5 0) :: (tp 1 ((.d (.lit (.int .i64 0))) :: (tp 38 [])))))))))), [.gone, (.box [(.d (.lit (.int .i64 0))), (.d (.lit (.int .i64 0))), (.d (.lit (.int .i64 0))), (.d (.lit (.string (toS ([] : List UInt8))))), (.d .nil)]), (.box [(.d .nil), (.d (.lit .nilFunc))]), .gone, (.box [(.own 6), (.clo (.func 44) [] [])]), (.box [(.d (.lit (.int .i64 x21_2.Time))), (.d (.lit (.int .i64 x21_2.Source))), (.d (.lit (.int .i64 x21_2.Seq))), (.d (.lit (.string (toS x21_2.Type_)))), (.d (.sl (List.length x21_2.Vals) (flatD enc_GValue x21_2.Vals)))]), (.arr 50 5 (List.length s33_4) (flatD enc_GEvent s33_4))], 0⟩ ?_
    refine AWP.block ?_
    refine AWP.loopI (α := Nat × (List GEvent) × Int)
      (fun x => match x with | (fu_5, y5_d_0_5, y9_5) => (⟨(tp 2 ((.loc 0 0) :: ((.loc 1 0) :: (tp 1 ((.loc 2 0) :: (tp 1 ((.loc 4 0) :: (tp 1 ((.d (.lit (.int .i64 y9_5))) :: (tp 38 [])))))))))), [(.box [(.d (.lit (.int .i64 0))), (.d (.lit (.int .i64 0))), (.d (.lit (.int .i64 0))), (.d (.lit (.string (toS ([] : List UInt8))))), (.d .nil)]), (.box [(.d .nil), (.d (.lit .nilFunc))]), (.box [(.own 3), (.clo (.func 44) [] [])]), (.arr 50 5 (List.length y5_d_0_5) (flatD enc_GEvent y5_d_0_5)), (.box [(.d (.lit (.int .i64 x21_2.Time))), (.d (.lit (.int .i64 x21_2.Source))), (.d (.lit (.int .i64 x21_2.Seq))), (.d (.lit (.string (toS x21_2.Type_)))), (.d (.sl (List.length x21_2.Vals) (flatD enc_GValue x21_2.Vals)))])], 0⟩ : St))
      (fun x => match x with | (fu_5, y5_d_0_5, y9_5) => m_sorter_Heap_event_Event_Pop__sorter_ahead_l5 x21_2 fu_5 y5_d_0_5 y9_5 = some r)
      (fun x => match x with | (fu_5, y5_d_0_5, y9_5) => fu_5) (1152921504606846976, s33_4, 0)
      (Weak.toK 684 0 0 [1, 2, 4, 6, 5]) hm ?_
    rintro ⟨fu_5, y5_d_0_5, y9_5⟩ n_5 hm ih_5
    try dsimp only at hm ih_5 ⊢
    cases fu_5 with
    | zero => exact absurd hm (by unfold m_sorter_Heap_event_Event_Pop__sorter_ahead_l5; simp)
    | succ fu_5 =>
      unfold m_sorter_Heap_event_Event_Pop__sorter_ahead_l5 at hm
      refine AWP.block ?_
      refine AWP.seq ?_
      refine AWP.text ?_
      refine Wy (.agg [(.own 3), (.clo (.func 44) [] [])]) [] (Old rfl) ?_
      refine Wy (.d (.lit (.int .i64 y9_5))) [] (Omv rfl) ?_
      obtain ⟨r37_6, hr37_6, hm⟩ := bnd hm
      refine Wy (.d (.lit (.int .i64 r37_6))) [] (Ocp [] [] [3] 0 (ok_sorter_Heap_event_Event_least__sorter_ahead y5_d_0_5 y9_5 r37_6 hr37_6) (plain_triv (by simp [A.Plain, A.Plains, D.Plain, byteD])) (fun a w => Try.call47 a w) rfl trivial) ?_
      refine Wy (.d (.lit (.int .i64 r37_6))) [] (Omv rfl) ?_
      refine Walk.nil ?_
      refine Then.normal ?_
      refine Amk 1708 31 ⟨(tp 2 ((.loc 0 0) :: ((.loc 1 0) :: (tp 1 ((.loc 2 0) :: (tp 1 ((.loc 4 0) :: (tp 1 ((.d (.lit (.int .i64 y9_5))) :: ((.d (.lit (.int .i64 r37_6))) :: (tp 37 []))))))))))), [(.box [(.d (.lit (.int .i64 0))), (.d (.lit (.int .i64 0))), (.d (.lit (.int .i64 0))), (.d (.lit (.string (toS ([] : List UInt8))))), (.d .nil)]), (.box [(.d .nil), (.d (.lit .nilFunc))]), (.box [(.own 3), (.clo (.func 44) [] [])]), (.arr 50 5 (List.length y5_d_0_5) (flatD enc_GEvent y5_d_0_5)), (.box [(.d (.lit (.int .i64 x21_2.Time))), (.d (.lit (.int .i64 x21_2.Source))), (.d (.lit (.int .i64 x21_2.Seq))), (.d (.lit (.string (toS x21_2.Type_)))), (.d (.sl (List.length x21_2.Vals) (flatD enc_GValue x21_2.Vals)))])], 0⟩ ?_
      refine AWP.seq ?_
      refine AWP.seq ?_
      refine AWP.text ?_
      refine Wy (.d (.lit (.int .i64 r37_6))) [] (Omv rfl) ?_
      refine Wy (.d (.lit (.int .i64 y9_5))) [] (Omv rfl) ?_
      refine Wy (.d (.lit (.bool (decide (r37_6 = y9_5))))) [] (Obn rfl (fun _ => hb_eql (k := .i64))) ?_
      refine Walk.nil ?_
      refine Then.normal ?_
      refine Amk 1099511629484 31 ⟨(tp 2 ((.loc 0 0) :: ((.loc 1 0) :: (tp 1 ((.loc 2 0) :: (tp 1 ((.loc 4 0) :: (tp 1 ((.d (.lit (.int .i64 y9_5))) :: ((.d (.lit (.int .i64 r37_6))) :: (tp 29 ((.d (.lit (.bool (decide (r37_6 = y9_5))))) :: (tp 7 []))))))))))))), [(.box [(.d (.lit (.int .i64 0))), (.d (.lit (.int .i64 0))), (.d (.lit (.int .i64 0))), (.d (.lit (.string (toS ([] : List UInt8))))), (.d .nil)]), (.box [(.d .nil), (.d (.lit .nilFunc))]), (.box [(.own 3), (.clo (.func 44) [] [])]), (.arr 50 5 (List.length y5_d_0_5) (flatD enc_GEvent y5_d_0_5)), (.box [(.d (.lit (.int .i64 x21_2.Time))), (.d (.lit (.int .i64 x21_2.Source))), (.d (.lit (.int .i64 x21_2.Seq))), (.d (.lit (.string (toS x21_2.Type_)))), (.d (.sl (List.length x21_2.Vals) (flatD enc_GValue x21_2.Vals)))])], 0⟩ ?_
      rcases tf_ (decide (r37_6 = y9_5)) with hc40_9 | hc40_9
      · replace hm := cT hc40_9 hm
        refine AWP.if_ true (Eq.trans (by kernel_rfl) (lit_tf (b := decide (r37_6 = y9_5)) hc40_9)) ?_
        refine AWP.exit ?_
        refine Then.exit ?_
        refine InBlock.other (by rfl) ?_
        refine RoundK.exit ?_
        refine InBlock.same ?_
        refine Then.normal ?_
        refine Amk 172 31 ⟨(tp 2 ((.loc 0 0) :: ((.loc 1 0) :: (tp 1 ((.loc 2 0) :: (tp 1 ((.loc 4 0) :: (tp 40 [])))))))), [(.box [(.d (.lit (.int .i64 0))), (.d (.lit (.int .i64 0))), (.d (.lit (.int .i64 0))), (.d (.lit (.string (toS ([] : List UInt8))))), (.d .nil)]), (.box [(.d .nil), (.d (.lit .nilFunc))]), (.box [(.own 3), (.clo (.func 44) [] [])]), (.arr 50 5 (List.length y5_d_0_5) (flatD enc_GEvent y5_d_0_5)), (.box [(.d (.lit (.int .i64 x21_2.Time))), (.d (.lit (.int .i64 x21_2.Source))), (.d (.lit (.int .i64 x21_2.Seq))), (.d (.lit (.string (toS x21_2.Type_)))), (.d (.sl (List.length x21_2.Vals) (flatD enc_GValue x21_2.Vals)))])], 0⟩ ?_
        refine AWP.seq ?_
        refine Adr ?_
        refine Wy (.agg [(.d (.lit (.int .i64 x21_2.Time))), (.d (.lit (.int .i64 x21_2.Source))), (.d (.lit (.int .i64 x21_2.Seq))), (.d (.lit (.string (toS x21_2.Type_)))), (.d (.sl (List.length x21_2.Vals) (flatD enc_GValue x21_2.Vals)))]) [] (Old rfl) ?_
        refine Wy (.agg [(.own 3), (.clo (.func 44) [] [])]) [] (Old rfl) ?_
        refine Wy (.tup []) [(0, (.box [(.d (.lit (.int .i64 x21_2.Time))), (.d (.lit (.int .i64 x21_2.Source))), (.d (.lit (.int .i64 x21_2.Seq))), (.d (.lit (.string (toS x21_2.Type_)))), (.d (.sl (List.length x21_2.Vals) (flatD enc_GValue x21_2.Vals)))]))] (Ost rfl) ?_
        refine Wy (.tup []) [(1, (.box [(.own 3), (.clo (.func 44) [] [])]))] (Ost rfl) ?_
        refine Wy (.d (.lit (.bool true))) [] (Omv rfl) ?_
        refine Wdr ?_
        refine Then.normal ?_
        refine AWP.ret ?_
        obtain rfl := Option.some.inj hm
        exact ret_i [3]
      · replace hm := cF hc40_9 hm
        refine AWP.if_ false (Eq.trans (by kernel_rfl) (lit_tf (b := decide (r37_6 = y9_5)) hc40_9)) ?_
        refine AWP.skip ?_
        refine Then.normal ?_
        refine Amk 1708 31 ⟨(tp 2 ((.loc 0 0) :: ((.loc 1 0) :: (tp 1 ((.loc 2 0) :: (tp 1 ((.loc 4 0) :: (tp 1 ((.d (.lit (.int .i64 y9_5))) :: ((.d (.lit (.int .i64 r37_6))) :: (tp 37 []))))))))))), [(.box [(.d (.lit (.int .i64 0))), (.d (.lit (.int .i64 0))), (.d (.lit (.int .i64 0))), (.d (.lit (.string (toS ([] : List UInt8))))), (.d .nil)]), (.box [(.d .nil), (.d (.lit .nilFunc))]), (.box [(.own 3), (.clo (.func 44) [] [])]), (.arr 50 5 (List.length y5_d_0_5) (flatD enc_GEvent y5_d_0_5)), (.box [(.d (.lit (.int .i64 x21_2.Time))), (.d (.lit (.int .i64 x21_2.Source))), (.d (.lit (.int .i64 x21_2.Seq))), (.d (.lit (.string (toS x21_2.Type_)))), (.d (.sl (List.length x21_2.Vals) (flatD enc_GValue x21_2.Vals)))])], 0⟩ ?_
        refine AWP.seq ?_
        refine AWP.text ?_
        refine Wy (.agg [(.own 3), (.clo (.func 44) [] [])]) [] (Old rfl) ?_
        refine Wy (.d (.lit (.int .i64 y9_5))) [] (Omv rfl) ?_
        refine Wy (.d (.lit (.int .i64 r37_6))) [] (Omv rfl) ?_
        obtain ⟨r44_7, hr44_7, hm⟩ := bnd hm
        refine Wy (.tup []) [(3, (.arr 50 5 (List.length r44_7) (flatD enc_GEvent r44_7)))] (Ocf [3] [] [] 0 (ok_sorter_Heap_event_Event_swap__sorter_ahead y5_d_0_5 y9_5 r37_6 r44_7 hr44_7) (fun a w => Try.call46 a w) rfl ⟨rfl, trivial⟩) ?_
        refine Walk.nil ?_
        refine Then.normal ?_
        refine Amk 1196 31 ⟨(tp 2 ((.loc 0 0) :: ((.loc 1 0) :: (tp 1 ((.loc 2 0) :: (tp 1 ((.loc 4 0) :: (tp 2 ((.d (.lit (.int .i64 r37_6))) :: (tp 37 [])))))))))), [(.box [(.d (.lit (.int .i64 0))), (.d (.lit (.int .i64 0))), (.d (.lit (.int .i64 0))), (.d (.lit (.string (toS ([] : List UInt8))))), (.d .nil)]), (.box [(.d .nil), (.d (.lit .nilFunc))]), (.box [(.own 3), (.clo (.func 44) [] [])]), (.arr 50 5 (List.length r44_7) (flatD enc_GEvent r44_7)), (.box [(.d (.lit (.int .i64 x21_2.Time))), (.d (.lit (.int .i64 x21_2.Source))), (.d (.lit (.int .i64 x21_2.Seq))), (.d (.lit (.string (toS x21_2.Type_)))), (.d (.sl (List.length x21_2.Vals) (flatD enc_GValue x21_2.Vals)))])], 0⟩ ?_
        refine AWP.text ?_
        refine Wy (.d (.lit (.int .i64 r37_6))) [] (Omv rfl) ?_
        refine Wy (.d (.lit (.int .i64 r37_6))) [] (Omv rfl) ?_
        refine Walk.nil ?_
        refine InBlock.normal ?_
        refine RoundK.normal ?_
        exact Rounds.weak (Weak.toK 684 0 0 [0, 1, 2, 3, 4]) (ih_5 (fu_5, r44_7, r37_6) hm (Nat.lt_succ_self _))

set_option maxRecDepth 20000 in
set_option maxHeartbeats 4000000 in
theorem ok_sorter_Sorter_Release (p0 : GSorter) (p1 : Int) (r : ((List GEvent) × GSorter)) (h : m_sorter_Sorter_Release p0 p1 = some r) : GCall Try.prog 11 [(.agg [(.d (.lit (.int .i64 p0.Cap))), (.d (.sl (List.length p0.L) (flatD enc_GEvent p0.L)))]), (.d (.lit (.int .i64 p1)))] [] (.tup [(.own 0), (.agg [(.d (.lit (.int .i64 r.2.Cap))), (.d (.sl (List.length r.2.L) (flatD enc_GEvent r.2.L)))])]) [(.arr 50 5 (List.length r.1) (flatD enc_GEvent r.1))] := by
  refine GCall.of_body (n := 43) (rs := [(.tmp 4), (.cell 5 26)]) Try.func11 rfl rfl rfl ?_
  refine Ato ⟨((.agg [(.d (.lit (.int .i64 p0.Cap))), (.d (.sl (List.length p0.L) (flatD enc_GEvent p0.L)))]) :: ((.d (.lit (.int .i64 p1))) :: (tu 41 []))), [], 0⟩ ?_
  have hm := h
  unfold m_sorter_Sorter_Release at hm
  refine AWP.seq ?_
  refine AWP.text ?_
  refine Wy (.loc 0 0) [(0, (.box [(.d (.lit (.int .i64 p0.Cap))), (.d (.sl (List.length p0.L) (flatD enc_GEvent p0.L)))]))] (Obx rfl) ?_
  refine Wy (.d .nil) [] (Omv rfl) ?_
  refine Wy (.loc 1 0) [(1, (.box [(.d (.lit (.int .i64 0))), (.d .nil)]))] (Oal rfl) ?_
  refine Walk.nil ?_
  refine Then.normal ?_
  refine Amk 38 3 ⟨(tp 1 ((.d (.lit (.int .i64 p1))) :: ((.loc 0 0) :: (tp 2 ((.loc 1 0) :: (tp 37 [])))))), [(.box [(.d (.lit (.int .i64 p0.Cap))), (.d (.sl (List.length p0.L) (flatD enc_GEvent p0.L)))]), (.box [(.d (.lit (.int .i64 0))), (.d .nil)])], 0⟩ ?_
  refine AWP.seq ?_
  refine AWP.text ?_
  refine Wy (.d .nil) [] (Omv rfl) ?_
  refine Walk.nil ?_
  refine Then.normal ?_
  refine Amk 102 3 ⟨(tp 1 ((.d (.lit (.int .i64 p1))) :: ((.loc 0 0) :: (tp 2 ((.loc 1 0) :: ((.d .nil) :: (tp 36 []))))))), [(.box [(.d (.lit (.int .i64 p0.Cap))), (.d (.sl (List.length p0.L) (flatD enc_GEvent p0.L)))]), (.box [(.d (.lit (.int .i64 0))), (.d .nil)])], 0⟩ ?_
  refine AWP.seq ?_
  refine AWP.text ?_
  refine Wy (.agg [(.d (.lit (.int .i64 p0.Cap))), (.d (.sl (List.length p0.L) (flatD enc_GEvent p0.L)))]) [] (Old rfl) ?_
  obtain ⟨r12_0, hr12_0, hm⟩ := bnd hm
  refine Wy (.agg [(.d (.sl (List.length r12_0) (flatD enc_GEvent r12_0))), (.clo (.func 44) [] [])]) [] (Ocf [] [] [] 0 (ok_sorter_Sorter_heap p0 r12_0 hr12_0) (fun a w => Try.call27 a w) rfl trivial) ?_
  refine Wy (.loc 2 0) [(2, (.box [(.d .nil), (.d (.lit .nilFunc))]))] (Oal rfl) ?_
  refine Wy (.tup []) [(2, (.box [(.d (.sl (List.length r12_0) (flatD enc_GEvent r12_0))), (.clo (.func 44) [] [])]))] (Ost rfl) ?_
  refine Walk.nil ?_
  refine Then.normal ?_
  refine Amk 230 7 ⟨(tp 1 ((.d (.lit (.int .i64 p1))) :: ((.loc 0 0) :: (tp 2 ((.loc 1 0) :: ((.d .nil) :: ((.loc 2 0) :: (tp 35 [])))))))), [(.box [(.d (.lit (.int .i64 p0.Cap))), (.d (.sl (List.length p0.L) (flatD enc_GEvent p0.L)))]), (.box [(.d (.lit (.int .i64 0))), (.d .nil)]), (.box [(.d (.sl (List.length r12_0) (flatD enc_GEvent r12_0))), (.clo (.func 44) [] [])])], 0⟩ ?_
  refine AWP.cutJ (α := (List GEvent) × (List GEvent)) (fun x => match x with | (y6_5, y7_d_0_5) => (⟨(tp 2 ((.loc 0 0) :: (tp 2 ((.loc 1 0) :: ((.own 2) :: ((.loc 3 0) :: (tp 35 []))))))), [(.box [(.d (.lit (.int .i64 p0.Cap))), (.d (.sl (List.length p0.L) (flatD enc_GEvent p0.L)))]), (.box [(.d (.lit (.int .i64 0))), (.d .nil)]), (.arr 50 5 (List.length y6_5) (flatD enc_GEvent y6_5)), (.box [(.d (.sl (List.length y7_d_0_5) (flatD enc_GEvent y7_d_0_5))), (.clo (.func 44) [] [])])], 0⟩ : St)) (fun x => match x with | (y6_5, y7_d_0_5) => m_sorter_Sorter_Release_j5 p0 y6_5 y7_d_0_5 = some r) ?_ (fun J5 => ?_)
  · rintro ⟨y6_5, y7_d_0_5⟩ hm
    try dsimp only at hm ⊢
    unfold m_sorter_Sorter_Release_j5 at hm
    refine AWP.seq ?_
    refine Adr ?_
    refine Wy (.own 2) [] (Omv rfl) ?_
    refine Wy (.loc 0 0) [] (Ofa rfl) ?_
    refine Wy (.d (.lit (.int .i64 p0.Cap))) [] (Old rfl) ?_
    refine Wy (.loc 3 0) [] (Ofa rfl) ?_
    refine Wy (.d (.sl (List.length y7_d_0_5) (flatD enc_GEvent y7_d_0_5))) [] (Old rfl) ?_
    refine Wy (.agg [(.d (.lit (.int .i64 p0.Cap))), (.d (.sl (List.length y7_d_0_5) (flatD enc_GEvent y7_d_0_5)))]) [] (Obd rfl) ?_
    refine Wy (.own 2) [] (Omv rfl) ?_
    refine Wy (.tup []) [(1, (.box [(.d (.lit (.int .i64 p0.Cap))), (.d (.sl (List.length y7_d_0_5) (flatD enc_GEvent y7_d_0_5)))]))] (Ost rfl) ?_
    refine Wdr ?_
    refine Then.normal ?_
    refine AWP.ret ?_
    obtain rfl := Option.some.inj hm
    exact ret_i [2]
  refine AWP.seq ?_
  refine AWP.block ?_
  refine Aow 6 50 5 ⟨(tp 1 ((.d (.lit (.int .i64 p1))) :: ((.loc 0 0) :: (tp 2 ((.loc 1 0) :: ((.own 3) :: ((.loc 2 0) :: (tp 35 [])))))))), [(.box [(.d (.lit (.int .i64 p0.Cap))), (.d (.sl (List.length p0.L) (flatD enc_GEvent p0.L)))]), (.box [(.d (.lit (.int .i64 0))), (.d .nil)]), (.box [(.d (.sl (List.length r12_0) (flatD enc_GEvent r12_0))), (.clo (.func 44) [] [])]), (.arr 50 5 (List.length ([] : List GEvent)) (flatD enc_GEvent ([] : List GEvent)))], 0⟩ ?_
  refine AWP.loopI (α := Nat × (List GEvent) × (List GEvent))
    (fun x => match x with | (fu_1, y6_1, y7_d_0_1) => (⟨(tp 1 ((.d (.lit (.int .i64 p1))) :: ((.loc 0 0) :: (tp 2 ((.loc 1 0) :: ((.own 2) :: ((.loc 3 0) :: (tp 35 [])))))))), [(.box [(.d (.lit (.int .i64 p0.Cap))), (.d (.sl (List.length p0.L) (flatD enc_GEvent p0.L)))]), (.box [(.d (.lit (.int .i64 0))), (.d .nil)]), (.arr 50 5 (List.length y6_1) (flatD enc_GEvent y6_1)), (.box [(.d (.sl (List.length y7_d_0_1) (flatD enc_GEvent y7_d_0_1))), (.clo (.func 44) [] [])])], 0⟩ : St))
    (fun x => match x with | (fu_1, y6_1, y7_d_0_1) => m_sorter_Sorter_Release_l1 p0 p1 fu_1 y6_1 y7_d_0_1 = some r)
    (fun x => match x with | (fu_1, y6_1, y7_d_0_1) => fu_1) (1152921504606846976, ([] : List GEvent), r12_0)
    (Weak.toK 230 0 0 [0, 1, 3, 2]) hm ?_
  rintro ⟨fu_1, y6_1, y7_d_0_1⟩ n_1 hm ih_1
  try dsimp only at hm ih_1 ⊢
  cases fu_1 with
  | zero => exact absurd hm (by unfold m_sorter_Sorter_Release_l1; simp)
  | succ fu_1 =>
    unfold m_sorter_Sorter_Release_l1 at hm
    refine AWP.seq ?_
    refine AWP.seq ?_
    refine AWP.text ?_
    refine Wy (.loc 3 0) [] (Ofa rfl) ?_
    refine Wy (.d (.sl (List.length y7_d_0_1) (flatD enc_GEvent y7_d_0_1))) [] (Old rfl) ?_
    refine Wy (.d (.lit (.int .i64 ((List.length y7_d_0_1 : Nat) : Int)))) [] (Oln rfl) ?_
    refine Wy (.d (.lit (.bool (decide ((0 : Int) < ((List.length y7_d_0_1 : Nat) : Int)))))) [] (Obn rfl (fun _ => hb_gtr (k := .i64))) ?_
    rcases tf_ (decide ((0 : Int) < ((List.length y7_d_0_1 : Nat) : Int))) with hq17_2 | hq17_2
    · replace hm := cT hq17_2 hm
      refine Wy (.d (.lit (.bool true))) [] (Ocs (lit_tf (b := decide ((0 : Int) < ((List.length y7_d_0_1 : Nat) : Int))) hq17_2) (Omv rfl)) ?_
      refine Wy (.loc 3 0) [] (Ofa rfl) ?_
      refine Wy (.d (.sl (List.length y7_d_0_1) (flatD enc_GEvent y7_d_0_1))) [] (Old rfl) ?_
      obtain ⟨x20_2, hx20_2, hm⟩ := bnd hm
      obtain ⟨hx20_2i, hx20_2g⟩ := geti_some hx20_2
      refine Wy (.d (.ref (List.drop ((Int.toNat 0) * 5) (flatD enc_GEvent y7_d_0_1)))) [] (Oia rfl enc_GEvent_len hx20_2i hx20_2g) ?_
      refine Wy (.d (.ref (List.drop ((Int.toNat 0) * 5) (flatD enc_GEvent y7_d_0_1)))) [] (Ofa rfl) ?_
      refine Wy (.d (.lit (.int .i64 x20_2.Time))) [] (Lf1 rfl enc_GEvent_len hx20_2g) ?_
      refine Wy (.d (.lit (.int .i64 p1))) [] (Omv rfl) ?_
      refine Wy (.d (.lit (.bool (decide (x20_2.Time < p1))))) [] (Obn rfl (fun _ => hb_lss (k := .i64))) ?_
      refine Wy (.d (.lit (.bool (decide (x20_2.Time < p1))))) [] (OpT rfl) ?_
      refine Walk.nil ?_
      refine Then.normal ?_
      refine Amk 33554662 15 ⟨(tp 1 ((.d (.lit (.int .i64 p1))) :: ((.loc 0 0) :: (tp 2 ((.loc 1 0) :: ((.own 2) :: ((.loc 3 0) :: (tp 17 ((.d (.lit (.bool (decide (x20_2.Time < p1))))) :: (tp 17 [])))))))))), [(.box [(.d (.lit (.int .i64 p0.Cap))), (.d (.sl (List.length p0.L) (flatD enc_GEvent p0.L)))]), (.box [(.d (.lit (.int .i64 0))), (.d .nil)]), (.arr 50 5 (List.length y6_1) (flatD enc_GEvent y6_1)), (.box [(.d (.sl (List.length y7_d_0_1) (flatD enc_GEvent y7_d_0_1))), (.clo (.func 44) [] [])])], 0⟩ ?_
      rcases tf_ (decide (x20_2.Time < p1)) with hc25_6 | hc25_6
      · replace hm := cT hc25_6 hm
        refine AWP.if_ true (Eq.trans (by kernel_rfl) (lit_tf (b := decide (x20_2.Time < p1)) hc25_6)) ?_
        refine AWP.skip ?_
        refine Then.normal ?_
        refine Amk 230 15 ⟨(tp 1 ((.d (.lit (.int .i64 p1))) :: ((.loc 0 0) :: (tp 2 ((.loc 1 0) :: ((.own 2) :: ((.loc 3 0) :: (tp 35 [])))))))), [(.box [(.d (.lit (.int .i64 p0.Cap))), (.d (.sl (List.length p0.L) (flatD enc_GEvent p0.L)))]), (.box [(.d (.lit (.int .i64 0))), (.d .nil)]), (.arr 50 5 (List.length y6_1) (flatD enc_GEvent y6_1)), (.box [(.d (.sl (List.length y7_d_0_1) (flatD enc_GEvent y7_d_0_1))), (.clo (.func 44) [] [])])], 0⟩ ?_
        refine AWP.block ?_
        refine AWP.seq ?_
        refine AWP.text ?_
        refine Wy (.agg [(.d (.sl (List.length y7_d_0_1) (flatD enc_GEvent y7_d_0_1))), (.clo (.func 44) [] [])]) [] (Old rfl) ?_
        obtain ⟨r28_3, hr28_3, hm⟩ := bnd hm
        refine Wy (.tup [(.agg [(.d (.lit (.int .i64 r28_3.1.Time))), (.d (.lit (.int .i64 r28_3.1.Source))), (.d (.lit (.int .i64 r28_3.1.Seq))), (.d (.lit (.string (toS r28_3.1.Type_)))), (.d (.sl (List.length r28_3.1.Vals) (flatD enc_GValue r28_3.1.Vals)))]), (.agg [(.own 4), (.clo (.func 44) [] [])]), (.d (.lit (.bool r28_3.2.2)))]) [(4, (.arr 50 5 (List.length r28_3.2.1) (flatD enc_GEvent r28_3.2.1)))] (Ocf [] [4] [] 0 (ok_sorter_Heap_event_Event_Pop__sorter_ahead y7_d_0_1 r28_3 hr28_3) (fun a w => Try.call28 a w) rfl trivial) ?_
        refine Wy (.tup [(.agg [(.d (.lit (.int .i64 r28_3.1.Time))), (.d (.lit (.int .i64 r28_3.1.Source))), (.d (.lit (.int .i64 r28_3.1.Seq))), (.d (.lit (.string (toS r28_3.1.Type_)))), (.d (.sl (List.length r28_3.1.Vals) (flatD enc_GValue r28_3.1.Vals)))]), (.agg [(.own 4), (.clo (.func 44) [] [])]), (.d (.lit (.bool r28_3.2.2)))]) [] (Omv rfl) ?_
        refine Wy (.agg [(.d (.lit (.int .i64 r28_3.1.Time))), (.d (.lit (.int .i64 r28_3.1.Source))), (.d (.lit (.int .i64 r28_3.1.Seq))), (.d (.lit (.string (toS r28_3.1.Type_)))), (.d (.sl (List.length r28_3.1.Vals) (flatD enc_GValue r28_3.1.Vals)))]) [] (Oex rfl) ?_
        refine Wy (.agg [(.own 4), (.clo (.func 44) [] [])]) [] (Oex rfl) ?_
        refine Wy (.d (.lit (.bool r28_3.2.2))) [] (Oex rfl) ?_
        refine Wy (.loc 5 0) [(5, (.box [(.d (.lit (.int .i64 0))), (.d (.lit (.int .i64 0))), (.d (.lit (.int .i64 0))), (.d (.lit (.string (toS ([] : List UInt8))))), (.d .nil)]))] (Oal rfl) ?_
        refine Wy (.loc 6 0) [(6, (.box [(.d .nil), (.d (.lit .nilFunc))]))] (Oal rfl) ?_
        refine Wy (.tup []) [(5, (.box [(.d (.lit (.int .i64 r28_3.1.Time))), (.d (.lit (.int .i64 r28_3.1.Source))), (.d (.lit (.int .i64 r28_3.1.Seq))), (.d (.lit (.string (toS r28_3.1.Type_)))), (.d (.sl (List.length r28_3.1.Vals) (flatD enc_GValue r28_3.1.Vals)))]))] (Ost rfl) ?_
        refine Wy (.tup []) [(6, (.box [(.own 4), (.clo (.func 44) [] [])]))] (Ost rfl) ?_
        refine Wy (.d (.lit (.bool r28_3.2.2))) [] (Omv rfl) ?_
        refine Walk.nil ?_
        refine Then.normal ?_
        refine Amk 998 127 ⟨(tp 1 ((.d (.lit (.int .i64 p1))) :: ((.loc 0 0) :: (tp 2 ((.loc 1 0) :: ((.own 2) :: ((.loc 3 0) :: ((.loc 5 0) :: ((.loc 6 0) :: (tp 33 [])))))))))), [(.box [(.d (.lit (.int .i64 p0.Cap))), (.d (.sl (List.length p0.L) (flatD enc_GEvent p0.L)))]), (.box [(.d (.lit (.int .i64 0))), (.d .nil)]), (.arr 50 5 (List.length y6_1) (flatD enc_GEvent y6_1)), (.box [(.d (.sl (List.length y7_d_0_1) (flatD enc_GEvent y7_d_0_1))), (.clo (.func 44) [] [])]), (.arr 50 5 (List.length r28_3.2.1) (flatD enc_GEvent r28_3.2.1)), (.box [(.d (.lit (.int .i64 r28_3.1.Time))), (.d (.lit (.int .i64 r28_3.1.Source))), (.d (.lit (.int .i64 r28_3.1.Seq))), (.d (.lit (.string (toS r28_3.1.Type_)))), (.d (.sl (List.length r28_3.1.Vals) (flatD enc_GValue r28_3.1.Vals)))]), (.box [(.own 4), (.clo (.func 44) [] [])])], 0⟩ ?_
        refine Adr ?_
        refine Wy (.own 2) [] (Omv rfl) ?_
        refine Wy (.agg [(.d (.lit (.int .i64 r28_3.1.Time))), (.d (.lit (.int .i64 r28_3.1.Source))), (.d (.lit (.int .i64 r28_3.1.Seq))), (.d (.lit (.string (toS r28_3.1.Type_)))), (.d (.sl (List.length r28_3.1.Vals) (flatD enc_GValue r28_3.1.Vals)))]) [] (Old rfl) ?_
        refine Wy (.own 7) [(7, (.arr 50 5 (List.length ([r28_3.1] : List GEvent)) (flatD enc_GEvent ([r28_3.1] : List GEvent))))] (Obs rfl) ?_
        obtain ⟨a35_4, ha35_4, hm⟩ := bnd hm; obtain ⟨ha35_4e, ha35_4l⟩ := app_some ha35_4
        refine Wy (.own 8) [(2, .gone), (8, (.arr 50 5 (List.length a35_4) (flatD enc_GEvent a35_4)))] (Oap rfl elemOK_24 enc_GEvent_len ha35_4e ha35_4l) ?_
        refine Wy (.agg [(.own 4), (.clo (.func 44) [] [])]) [] (Old rfl) ?_
        refine Wy (.own 8) [] (Omv rfl) ?_
        refine Wy (.tup []) [(3, (.box [(.own 4), (.clo (.func 44) [] [])]))] (Ost rfl) ?_
        refine Wdr ?_
        refine InBlock.normal ?_
        refine RoundK.normal ?_
        refine Rfz [4] ⟨(tp 1 ((.d (.lit (.int .i64 p1))) :: ((.loc 0 0) :: (tp 2 ((.loc 1 0) :: ((.own 8) :: ((.loc 3 0) :: ((.loc 5 0) :: ((.loc 6 0) :: (tp 22 ((.own 2) :: ((.agg [(.d (.lit (.int .i64 r28_3.1.Time))), (.d (.lit (.int .i64 r28_3.1.Source))), (.d (.lit (.int .i64 r28_3.1.Seq))), (.d (.lit (.string (toS r28_3.1.Type_)))), (.d (.sl (List.length r28_3.1.Vals) (flatD enc_GValue r28_3.1.Vals)))]) :: ((.own 7) :: ((.own 8) :: ((.agg [(.d (.sl (List.length r28_3.2.1) (flatD enc_GEvent r28_3.2.1))), (.clo (.func 44) [] [])]) :: (tp 6 [])))))))))))))))), [(.box [(.d (.lit (.int .i64 p0.Cap))), (.d (.sl (List.length p0.L) (flatD enc_GEvent p0.L)))]), (.box [(.d (.lit (.int .i64 0))), (.d .nil)]), .gone, (.box [(.d (.sl (List.length r28_3.2.1) (flatD enc_GEvent r28_3.2.1))), (.clo (.func 44) [] [])]), (.fro 50 5 (List.length r28_3.2.1) (flatD enc_GEvent r28_3.2.1)), (.box [(.d (.lit (.int .i64 r28_3.1.Time))), (.d (.lit (.int .i64 r28_3.1.Source))), (.d (.lit (.int .i64 r28_3.1.Seq))), (.d (.lit (.string (toS r28_3.1.Type_)))), (.d (.sl (List.length r28_3.1.Vals) (flatD enc_GValue r28_3.1.Vals)))]), (.box [(.d (.sl (List.length r28_3.2.1) (flatD enc_GEvent r28_3.2.1))), (.clo (.func 44) [] [])]), (.arr 50 5 (List.length ([r28_3.1] : List GEvent)) (flatD enc_GEvent ([r28_3.1] : List GEvent))), (.arr 50 5 (List.length a35_4) (flatD enc_GEvent a35_4))], 0⟩ ?_
        exact Rounds.weak (Weak.toK 230 0 0 [0, 1, 8, 3]) (ih_1 (fu_1, a35_4, r28_3.2.1) hm (Nat.lt_succ_self _))
      · replace hm := cF hc25_6 hm
        refine AWP.if_ false (Eq.trans (by kernel_rfl) (lit_tf (b := decide (x20_2.Time < p1)) hc25_6)) ?_
        refine AWP.exit ?_
        refine Then.exit ?_
        refine RoundK.exit ?_
        refine InBlock.same ?_
        refine Then.normal ?_
        exact AWP.weak (Weak.toK 228 0 0 [0, 1, 2, 3]) (J5 (y6_1, y7_d_0_1) hm)
    · replace hm := cF hq17_2 hm
      refine Wy (.d (.lit (.bool false))) [] (Ocs (lit_tf (b := decide ((0 : Int) < ((List.length y7_d_0_1 : Nat) : Int))) hq17_2) (Omv rfl)) ?_
      refine Wn ?_
      refine Wn ?_
      refine Wn ?_
      refine Wn ?_
      refine Wn ?_
      refine Wn ?_
      refine Wn ?_
      refine Wy (.d (.lit (.bool false))) [] (OpF rfl) ?_
      refine Walk.nil ?_
      refine Then.normal ?_
      refine Amk 33554662 15 ⟨(tp 1 ((.d (.lit (.int .i64 p1))) :: ((.loc 0 0) :: (tp 2 ((.loc 1 0) :: ((.own 2) :: ((.loc 3 0) :: (tp 17 ((.d (.lit (.bool false))) :: (tp 17 [])))))))))), [(.box [(.d (.lit (.int .i64 p0.Cap))), (.d (.sl (List.length p0.L) (flatD enc_GEvent p0.L)))]), (.box [(.d (.lit (.int .i64 0))), (.d .nil)]), (.arr 50 5 (List.length y6_1) (flatD enc_GEvent y6_1)), (.box [(.d (.sl (List.length y7_d_0_1) (flatD enc_GEvent y7_d_0_1))), (.clo (.func 44) [] [])])], 0⟩ ?_
      refine AWP.if_ false (by kernel_rfl) ?_
      refine AWP.exit ?_
      refine Then.exit ?_
      refine RoundK.exit ?_
      refine InBlock.same ?_
      refine Then.normal ?_
      exact AWP.weak (Weak.toK 228 0 0 [0, 1, 2, 3]) (J5 (y6_1, y7_d_0_1) hm)

set_option maxRecDepth 20000 in
set_option maxHeartbeats 4000000 in
theorem ok_sorter_Sorter_Least (p0 : GSorter) (r : (Int × Bool)) (h : m_sorter_Sorter_Least p0 = some r) : GCall Try.prog 18 [(.agg [(.d (.lit (.int .i64 p0.Cap))), (.d (.sl (List.length p0.L) (flatD enc_GEvent p0.L)))])] [] (.tup [(.d (.lit (.int .i64 r.1))), (.d (.lit (.bool r.2)))]) [] := by
  refine GCall.of_body (n := 13) (rs := [(.tmp 2), (.tmp 3)]) Try.func18 rfl rfl rfl ?_
  refine Ato ⟨((.agg [(.d (.lit (.int .i64 p0.Cap))), (.d (.sl (List.length p0.L) (flatD enc_GEvent p0.L)))]) :: (tu 12 [])), [], 0⟩ ?_
  have hm := h
  unfold m_sorter_Sorter_Least at hm
  refine AWP.seq ?_
  refine AWP.text ?_
  refine Wy (.loc 0 0) [(0, (.box [(.d (.lit (.int .i64 p0.Cap))), (.d (.sl (List.length p0.L) (flatD enc_GEvent p0.L)))]))] (Obx rfl) ?_
  refine Wy (.d (.lit (.int .i64 0))) [] (Omv rfl) ?_
  refine Wy (.d (.lit (.bool false))) [] (Omv rfl) ?_
  refine Walk.nil ?_
  refine Then.normal ?_
  refine Amk 2 1 ⟨(tp 1 ((.loc 0 0) :: (tp 11 []))), [(.box [(.d (.lit (.int .i64 p0.Cap))), (.d (.sl (List.length p0.L) (flatD enc_GEvent p0.L)))])], 0⟩ ?_
  refine AWP.seq ?_
  refine AWP.seq ?_
  refine AWP.text ?_
  refine Wy (.loc 0 1) [] (Ofa rfl) ?_
  refine Wy (.d (.sl (List.length p0.L) (flatD enc_GEvent p0.L))) [] (Old rfl) ?_
  refine Wy (.d (.lit (.int .i64 ((List.length p0.L : Nat) : Int)))) [] (Oln rfl) ?_
  refine Wy (.d (.lit (.bool (decide (((List.length p0.L : Nat) : Int) = 0))))) [] (Obn rfl (fun _ => hb_eql (k := .i64))) ?_
  refine Walk.nil ?_
  refine Then.normal ?_
  refine Amk 130 1 ⟨(tp 1 ((.loc 0 0) :: (tp 5 ((.d (.lit (.bool (decide (((List.length p0.L : Nat) : Int) = 0))))) :: (tp 5 []))))), [(.box [(.d (.lit (.int .i64 p0.Cap))), (.d (.sl (List.length p0.L) (flatD enc_GEvent p0.L)))])], 0⟩ ?_
  rcases tf_ (decide (((List.length p0.L : Nat) : Int) = 0)) with hc7_2 | hc7_2
  · replace hm := cT hc7_2 hm
    refine AWP.if_ true (Eq.trans (by kernel_rfl) (lit_tf (b := decide (((List.length p0.L : Nat) : Int) = 0)) hc7_2)) ?_
    refine AWP.seq ?_
    refine AWP.text ?_
    refine Wy (.d (.lit (.int .i64 0))) [] (Omv rfl) ?_
    refine Wy (.d (.lit (.bool false))) [] (Omv rfl) ?_
    refine Walk.nil ?_
    refine Then.normal ?_
    refine AWP.ret ?_
    refine Then.ret ?_
    obtain rfl := Option.some.inj hm
    exact ret_i []
  · replace hm := cF hc7_2 hm
    refine AWP.if_ false (Eq.trans (by kernel_rfl) (lit_tf (b := decide (((List.length p0.L : Nat) : Int) = 0)) hc7_2)) ?_
    refine AWP.skip ?_
    refine Then.normal ?_
    refine Amk 2 1 ⟨(tp 1 ((.loc 0 0) :: (tp 11 []))), [(.box [(.d (.lit (.int .i64 p0.Cap))), (.d (.sl (List.length p0.L) (flatD enc_GEvent p0.L)))])], 0⟩ ?_
    refine AWP.seq ?_
    refine AWP.text ?_
    refine Wy (.loc 0 1) [] (Ofa rfl) ?_
    refine Wy (.d (.sl (List.length p0.L) (flatD enc_GEvent p0.L))) [] (Old rfl) ?_
    obtain ⟨x10_1, hx10_1, hm⟩ := bnd hm
    obtain ⟨hx10_1i, hx10_1g⟩ := geti_some hx10_1
    refine Wy (.d (.ref (List.drop ((Int.toNat 0) * 5) (flatD enc_GEvent p0.L)))) [] (Oia rfl enc_GEvent_len hx10_1i hx10_1g) ?_
    refine Wy (.d (.ref (List.drop ((Int.toNat 0) * 5) (flatD enc_GEvent p0.L)))) [] (Ofa rfl) ?_
    refine Wy (.d (.lit (.int .i64 x10_1.Time))) [] (Lf1 rfl enc_GEvent_len hx10_1g) ?_
    refine Wy (.d (.lit (.int .i64 x10_1.Time))) [] (Omv rfl) ?_
    refine Wy (.d (.lit (.bool true))) [] (Omv rfl) ?_
    refine Walk.nil ?_
    refine Then.normal ?_
    refine AWP.ret ?_
    obtain rfl := Option.some.inj hm
    exact ret_i []

set_option maxRecDepth 20000 in
set_option maxHeartbeats 4000000 in
theorem ok_slices_Clone_int (p0 : (List Int)) (r : (List Int)) (h : m_slices_Clone_int p0 = some r) : GCall Try.prog 50 [(.d (.sl (List.length p0) (flatD (encI .i64) p0)))] [] (.own 0) [(.arr 3 1 (List.length r) (flatD (encI .i64) r))] := by
  refine GCall.of_body (n := 8) (rs := [(.tmp 2)]) Try.func50 rfl rfl rfl ?_
  refine Ato ⟨((.d (.sl (List.length p0) (flatD (encI .i64) p0))) :: (tu 7 [])), [], 0⟩ ?_
  have hm := h
  unfold m_slices_Clone_int at hm
  refine AWP.seq ?_
  refine AWP.text ?_
  refine Wy (.d .nil) [] (Omv rfl) ?_
  refine Walk.nil ?_
  refine Then.normal ?_
  refine Amk 1 0 ⟨((.d (.sl (List.length p0) (flatD (encI .i64) p0))) :: (tp 7 [])), [], 0⟩ ?_
  refine AWP.seq ?_
  refine AWP.seq ?_
  refine AWP.text ?_
  refine Wy (.d (.sl (List.length p0) (flatD (encI .i64) p0))) [] (Omv rfl) ?_
  refine Wy (.ab (List.length p0 = 0)) [] (op_eqnil rfl (e := 3) (by kernel_rfl) (ya := (.d (.sl (List.length p0) (flatD (encI .i64) p0)))) (by kernel_rfl) (ds := flatD (encI .i64) p0) (off := 0) (by kernel_rfl) (by kernel_rfl)) ?_
  refine Walk.nil ?_
  refine Then.normal ?_
  refine Amk 17 0 ⟨((.d (.sl (List.length p0) (flatD (encI .i64) p0))) :: (tp 3 ((.ab (List.length p0 = 0)) :: (tp 3 [])))), [], 0⟩ ?_
  refine AWP.condU (p := List.length p0 = 0) (by kernel_rfl) (fun hnil => ?_) ?_
  · refine AWP.seq ?_
    refine AWP.text ?_
    refine Wy (.d .nil) [] (Omv rfl) ?_
    refine Walk.nil ?_
    refine Then.normal ?_
    refine Aow 2 3 1 ⟨((.d (.sl (List.length p0) (flatD (encI .i64) p0))) :: (tp 1 ((.own 0) :: (tp 1 ((.ab (List.length p0 = 0)) :: (tp 3 [])))))), [(.arr 3 1 (List.length ([] : List Int)) (flatD (encI .i64) ([] : List Int)))], 0⟩ ?_
    refine AWP.ret ?_
    refine Then.ret ?_
    obtain rfl := nil_app hm (List.eq_nil_of_length_eq_zero hnil)
    exact ret_i [0]
  refine AWP.skip ?_
  refine Then.normal ?_
  refine Amk 1 0 ⟨((.d (.sl (List.length p0) (flatD (encI .i64) p0))) :: (tp 7 [])), [], 0⟩ ?_
  refine AWP.seq ?_
  refine AWP.text ?_
  refine Wy (.own 0) [(0, (.arr 3 1 (List.length ([] : List Int)) (flatD (encI .i64) ([] : List Int))))] (Obs rfl) ?_
  refine Wy (.d (.sl (List.length p0) (flatD (encI .i64) p0))) [] (Omv rfl) ?_
  obtain ⟨a7_0, ha7_0, hm⟩ := bnd hm; obtain ⟨ha7_0e, ha7_0l⟩ := app_some ha7_0
  refine Wy (.own 1) [(0, .gone), (1, (.arr 3 1 (List.length a7_0) (flatD (encI .i64) a7_0)))] (Oap rfl elemOK_57 (encI_len (k := .i64)) ha7_0e ha7_0l) ?_
  refine Wy (.own 1) [] (Omv rfl) ?_
  refine Walk.nil ?_
  refine Then.normal ?_
  refine AWP.ret ?_
  obtain rfl := Option.some.inj hm
  exact ret_i [1]

set_option maxRecDepth 20000 in
set_option maxHeartbeats 4000000 in
theorem ok_sorter_Heap_int_clone__telltalelaw24_less (p0_L : (List Int)) (r : (List Int)) (h : m_sorter_Heap_int_clone__telltalelaw24_less p0_L = some r) : GCall Try.prog 38 [(.agg [(.d (.sl (List.length p0_L) (flatD (encI .i64) p0_L))), (.clo (.func 20) [] [])])] [] (.agg [(.own 0), (.clo (.func 20) [] [])]) [(.arr 3 1 (List.length r) (flatD (encI .i64) r))] := by
  refine GCall.of_body (n := 9) (rs := [(.cell 2 60)]) Try.func38 rfl rfl rfl ?_
  refine Ato ⟨((.agg [(.d (.sl (List.length p0_L) (flatD (encI .i64) p0_L))), (.clo (.func 20) [] [])]) :: (tu 8 [])), [], 0⟩ ?_
  have hm := h
  unfold m_sorter_Heap_int_clone__telltalelaw24_less at hm
  refine AWP.seq ?_
  refine AWP.text ?_
  refine Wy (.loc 0 0) [(0, (.box [(.d (.sl (List.length p0_L) (flatD (encI .i64) p0_L))), (.clo (.func 20) [] [])]))] (Obx rfl) ?_
  refine Wy (.loc 1 0) [(1, (.box [(.d .nil), (.d (.lit .nilFunc))]))] (Oal rfl) ?_
  refine Walk.nil ?_
  refine Then.normal ?_
  refine Amk 6 3 ⟨(tp 1 ((.loc 0 0) :: ((.loc 1 0) :: (tp 6 [])))), [(.box [(.d (.sl (List.length p0_L) (flatD (encI .i64) p0_L))), (.clo (.func 20) [] [])]), (.box [(.d .nil), (.d (.lit .nilFunc))])], 0⟩ ?_
  refine AWP.seq ?_
  refine Adr ?_
  refine Wy (.loc 0 0) [] (Ofa rfl) ?_
  refine Wy (.d (.sl (List.length p0_L) (flatD (encI .i64) p0_L))) [] (Old rfl) ?_
  obtain ⟨r5_0, hr5_0, hm⟩ := bnd hm
  refine Wy (.own 2) [(2, (.arr 3 1 (List.length r5_0) (flatD (encI .i64) r5_0)))] (Ocf [] [2] [] 0 (ok_slices_Clone_int p0_L r5_0 hr5_0) (fun a w => Try.call50 a w) rfl trivial) ?_
  refine Wy (.loc 0 1) [] (Ofa rfl) ?_
  refine Wy (.clo (.func 20) [] []) [] (Old rfl) ?_
  refine Wy (.agg [(.own 2), (.clo (.func 20) [] [])]) [] (Obd rfl) ?_
  refine Wy (.tup []) [(1, (.box [(.own 2), (.clo (.func 20) [] [])]))] (Ost rfl) ?_
  refine Wdr ?_
  refine Then.normal ?_
  refine AWP.ret ?_
  obtain rfl := Option.some.inj hm
  exact ret_i [2]

set_option maxRecDepth 20000 in
set_option maxHeartbeats 4000000 in
theorem ok_telltalelaw24_less (p0 : Int) (p1 : Int) (r : Bool) (h : m_telltalelaw24_less p0 p1 = some r) : GCall Try.prog 20 [(.d (.lit (.int .i64 p0))), (.d (.lit (.int .i64 p1)))] [] (.d (.lit (.bool r))) [] := by
  refine GCall.of_body (n := 8) (rs := [(.tmp 4)]) Try.func20 rfl rfl rfl ?_
  refine Ato ⟨((.d (.lit (.int .i64 p0))) :: ((.d (.lit (.int .i64 p1))) :: (tu 6 []))), [], 0⟩ ?_
  have hm := h
  unfold m_telltalelaw24_less at hm
  refine AWP.seq ?_
  refine AWP.text ?_
  refine Wy (.d (.lit (.bool false))) [] (Omv rfl) ?_
  refine Walk.nil ?_
  refine Then.normal ?_
  refine Amk 3 0 ⟨((.d (.lit (.int .i64 p0))) :: ((.d (.lit (.int .i64 p1))) :: (tp 6 []))), [], 0⟩ ?_
  refine AWP.seq ?_
  refine AWP.text ?_
  refine Wy (.d (.lit (.int .i64 p0))) [] (Omv rfl) ?_
  refine Wy (.d (.lit (.int .i64 p1))) [] (Omv rfl) ?_
  refine Wy (.d (.lit (.bool (decide (p0 < p1))))) [] (Obn rfl (fun _ => hb_lss (k := .i64))) ?_
  refine Wy (.d (.lit (.bool (decide (p0 < p1))))) [] (Omv rfl) ?_
  refine Walk.nil ?_
  refine Then.normal ?_
  refine AWP.ret ?_
  obtain rfl := Option.some.inj hm
  exact ret_i []

set_option maxRecDepth 20000 in
set_option maxHeartbeats 4000000 in
theorem ok_sorter_Heap_int_less__telltalelaw24_less (p0_L : (List Int)) (p1 : Int) (p2 : Int) (r : Bool) (h : m_sorter_Heap_int_less__telltalelaw24_less p0_L p1 p2 = some r) : GCall Try.prog 41 [(.agg [(.d (.sl (List.length p0_L) (flatD (encI .i64) p0_L))), (.clo (.func 20) [] [])]), (.d (.lit (.int .i64 p1))), (.d (.lit (.int .i64 p2)))] [] (.d (.lit (.bool r))) [] := by
  refine GCall.of_body (n := 25) (rs := [(.tmp 6)]) Try.func41 rfl rfl rfl ?_
  refine Ato ⟨((.agg [(.d (.sl (List.length p0_L) (flatD (encI .i64) p0_L))), (.clo (.func 20) [] [])]) :: ((.d (.lit (.int .i64 p1))) :: ((.d (.lit (.int .i64 p2))) :: (tu 22 [])))), [], 0⟩ ?_
  have hm := h
  unfold m_sorter_Heap_int_less__telltalelaw24_less at hm
  refine AWP.seq ?_
  refine AWP.text ?_
  refine Wy (.loc 0 0) [(0, (.box [(.d (.sl (List.length p0_L) (flatD (encI .i64) p0_L))), (.clo (.func 20) [] [])]))] (Obx rfl) ?_
  refine Wy (.d (.lit (.bool false))) [] (Omv rfl) ?_
  refine Walk.nil ?_
  refine Then.normal ?_
  refine Amk 14 1 ⟨(tp 1 ((.d (.lit (.int .i64 p1))) :: ((.d (.lit (.int .i64 p2))) :: ((.loc 0 0) :: (tp 21 []))))), [(.box [(.d (.sl (List.length p0_L) (flatD (encI .i64) p0_L))), (.clo (.func 20) [] [])])], 0⟩ ?_
  refine AWP.seq ?_
  refine Adr ?_
  refine Wy (.loc 0 1) [] (Ofa rfl) ?_
  refine Wy (.clo (.func 20) [] []) [] (Old rfl) ?_
  refine Wy (.d (.lit (.bool true))) [] (op_fn rfl (fn := (.func 20)) (f := []) (c := []) (by kernel_rfl) (by kernel_rfl) (by kernel_rfl) (by decide)) ?_
  refine Wy (.d (.lit (.bool true))) [] (Omv rfl) ?_
  refine Wy (.loc 0 1) [] (Ofa rfl) ?_
  refine Wy (.clo (.func 20) [] []) [] (Old rfl) ?_
  refine Wy (.loc 0 0) [] (Ofa rfl) ?_
  refine Wy (.d (.sl (List.length p0_L) (flatD (encI .i64) p0_L))) [] (Old rfl) ?_
  refine Wy (.d (.lit (.int .i64 p1))) [] (Omv rfl) ?_
  obtain ⟨x16_0, hx16_0, hm⟩ := bnd hm
  obtain ⟨hx16_0i, hx16_0g⟩ := geti_some hx16_0
  refine Wy (.d (.ref (List.drop ((Int.toNat p1) * 1) (flatD (encI .i64) p0_L)))) [] (Oia rfl (encI_len (k := .i64)) hx16_0i hx16_0g) ?_
  refine Wy (.d (.lit (.int .i64 x16_0))) [] (Lf1 rfl (encI_len (k := .i64)) hx16_0g) ?_
  refine Wy (.loc 0 0) [] (Ofa rfl) ?_
  refine Wy (.d (.sl (List.length p0_L) (flatD (encI .i64) p0_L))) [] (Old rfl) ?_
  refine Wy (.d (.lit (.int .i64 p2))) [] (Omv rfl) ?_
  obtain ⟨x21_0, hx21_0, hm⟩ := bnd hm
  obtain ⟨hx21_0i, hx21_0g⟩ := geti_some hx21_0
  refine Wy (.d (.ref (List.drop ((Int.toNat p2) * 1) (flatD (encI .i64) p0_L)))) [] (Oia rfl (encI_len (k := .i64)) hx21_0i hx21_0g) ?_
  refine Wy (.d (.lit (.int .i64 x21_0))) [] (Lf1 rfl (encI_len (k := .i64)) hx21_0g) ?_
  obtain ⟨r23_0, hr23_0, hm⟩ := bnd hm
  refine Wy (.d (.lit (.bool r23_0))) [] (Ocf [] [] [] 0 (ok_telltalelaw24_less x16_0 x21_0 r23_0 hr23_0) (fun a w => Try.call20 a w) rfl trivial) ?_
  refine Wy (.d (.lit (.bool r23_0))) [] (OpT rfl) ?_
  refine Wy (.d (.lit (.bool r23_0))) [] (Omv rfl) ?_
  refine Wdr ?_
  refine Then.normal ?_
  refine AWP.ret ?_
  obtain rfl := Option.some.inj hm
  exact ret_i []

set_option maxRecDepth 20000 in
set_option maxHeartbeats 4000000 in
theorem ok_sorter_Heap_int_swap__telltalelaw24_less (p0_L : (List Int)) (p1 : Int) (p2 : Int) (r : (List Int)) (h : m_sorter_Heap_int_swap__telltalelaw24_less p0_L p1 p2 = some r) : GCall Try.prog 39 [(.agg [(.own 0), (.clo (.func 20) [] [])]), (.d (.lit (.int .i64 p1))), (.d (.lit (.int .i64 p2)))] [(.arr 3 1 (List.length p0_L) (flatD (encI .i64) p0_L))] (.tup []) [(.arr 3 1 (List.length r) (flatD (encI .i64) r))] := by
  refine GCall.of_body (n := 24) (rs := []) Try.func39 rfl rfl rfl ?_
  refine Ato ⟨((.agg [(.own 0), (.clo (.func 20) [] [])]) :: ((.d (.lit (.int .i64 p1))) :: ((.d (.lit (.int .i64 p2))) :: (tu 21 [])))), [(.arr 3 1 (List.length p0_L) (flatD (encI .i64) p0_L))], 1⟩ ?_
  have hm := h
  unfold m_sorter_Heap_int_swap__telltalelaw24_less at hm
  refine AWP.seq ?_
  refine AWP.text ?_
  refine Wy (.loc 1 0) [(1, (.box [(.own 0), (.clo (.func 20) [] [])]))] (Obx rfl) ?_
  refine Walk.nil ?_
  refine Then.normal ?_
  refine Amk 14 3 ⟨(tp 1 ((.d (.lit (.int .i64 p1))) :: ((.d (.lit (.int .i64 p2))) :: ((.loc 1 0) :: (tp 20 []))))), [(.arr 3 1 (List.length p0_L) (flatD (encI .i64) p0_L)), (.box [(.own 0), (.clo (.func 20) [] [])])], 1⟩ ?_
  refine Adr ?_
  refine Wy (.loc 1 0) [] (Ofa rfl) ?_
  refine Wy (.own 0) [] (Old rfl) ?_
  refine Wy (.d (.lit (.int .i64 p1))) [] (Omv rfl) ?_
  refine Wy (.loc 1 0) [] (Ofa rfl) ?_
  refine Wy (.own 0) [] (Old rfl) ?_
  refine Wy (.d (.lit (.int .i64 p2))) [] (Omv rfl) ?_
  refine Wy (.loc 1 0) [] (Ofa rfl) ?_
  refine Wy (.own 0) [] (Old rfl) ?_
  refine Wy (.d (.lit (.int .i64 p2))) [] (Omv rfl) ?_
  obtain ⟨x15_0, hx15_0, hm⟩ := bnd hm
  obtain ⟨hx15_0i, hx15_0g⟩ := geti_some hx15_0
  refine Wy (.loc 0 ((Int.toNat p2) * 1)) [] (Oia rfl (encI_len (k := .i64)) hx15_0i hx15_0g) ?_
  refine Wy (.d (.lit (.int .i64 x15_0))) [] (Lr1 rfl (encI_len (k := .i64)) hx15_0g) ?_
  refine Wy (.loc 1 0) [] (Ofa rfl) ?_
  refine Wy (.own 0) [] (Old rfl) ?_
  refine Wy (.d (.lit (.int .i64 p1))) [] (Omv rfl) ?_
  obtain ⟨x20_0, hx20_0, hm⟩ := bnd hm
  obtain ⟨hx20_0i, hx20_0g⟩ := geti_some hx20_0
  refine Wy (.loc 0 ((Int.toNat p1) * 1)) [] (Oia rfl (encI_len (k := .i64)) hx20_0i hx20_0g) ?_
  refine Wy (.d (.lit (.int .i64 x20_0))) [] (Lr1 rfl (encI_len (k := .i64)) hx20_0g) ?_
  obtain ⟨x22_0, hx22_0, hm⟩ := bnd hm
  obtain ⟨hx22_0i, hx22_0g⟩ := geti_some hx22_0
  refine Wy (.loc 0 ((Int.toNat p1) * 1)) [] (Oia rfl (encI_len (k := .i64)) hx22_0i hx22_0g) ?_
  refine Wy (.tup []) [(0, (.arr 3 1 (List.length (List.set p0_L (Int.toNat p1) x15_0)) (flatD (encI .i64) (List.set p0_L (Int.toNat p1) x15_0))))] (Osr 0 rfl (encI_len (k := .i64)) hx22_0g x15_0) ?_
  obtain ⟨x23_0, hx23_0, hm⟩ := bnd hm
  obtain ⟨hx23_0i, hx23_0g⟩ := geti_some hx23_0
  refine Wy (.loc 0 ((Int.toNat p2) * 1)) [] (Oia rfl (encI_len (k := .i64)) hx23_0i hx23_0g) ?_
  refine Wy (.tup []) [(0, (.arr 3 1 (List.length (List.set (List.set p0_L (Int.toNat p1) x15_0) (Int.toNat p2) x20_0)) (flatD (encI .i64) (List.set (List.set p0_L (Int.toNat p1) x15_0) (Int.toNat p2) x20_0))))] (Osr 0 rfl (encI_len (k := .i64)) hx23_0g x20_0) ?_
  refine Wdr ?_
  obtain rfl := Option.some.inj hm
  exact ret_n [0]

set_option maxRecDepth 20000 in
set_option maxHeartbeats 4000000 in
theorem ok_sorter_Heap_int_Push__telltalelaw24_less (p0_L : (List Int)) (p1 : Int) (r : (List Int)) (h : m_sorter_Heap_int_Push__telltalelaw24_less p0_L p1 = some r) : GCall Try.prog 22 [(.agg [(.d (.sl (List.length p0_L) (flatD (encI .i64) p0_L))), (.clo (.func 20) [] [])]), (.d (.lit (.int .i64 p1)))] [] (.agg [(.own 0), (.clo (.func 20) [] [])]) [(.arr 3 1 (List.length r) (flatD (encI .i64) r))] := by
  refine GCall.of_body (n := 39) (rs := [(.cell 4 60)]) Try.func22 rfl rfl rfl ?_
  refine Ato ⟨((.agg [(.d (.sl (List.length p0_L) (flatD (encI .i64) p0_L))), (.clo (.func 20) [] [])]) :: ((.d (.lit (.int .i64 p1))) :: (tu 37 []))), [], 0⟩ ?_
  have hm := h
  unfold m_sorter_Heap_int_Push__telltalelaw24_less at hm
  refine AWP.seq ?_
  refine AWP.text ?_
  refine Wy (.loc 0 0) [(0, (.box [(.d (.sl (List.length p0_L) (flatD (encI .i64) p0_L))), (.clo (.func 20) [] [])]))] (Obx rfl) ?_
  refine Wy (.loc 1 0) [(1, (.box [(.d .nil), (.d (.lit .nilFunc))]))] (Oal rfl) ?_
  refine Walk.nil ?_
  refine Then.normal ?_
  refine Amk 22 3 ⟨(tp 1 ((.d (.lit (.int .i64 p1))) :: ((.loc 0 0) :: (tp 1 ((.loc 1 0) :: (tp 34 [])))))), [(.box [(.d (.sl (List.length p0_L) (flatD (encI .i64) p0_L))), (.clo (.func 20) [] [])]), (.box [(.d .nil), (.d (.lit .nilFunc))])], 0⟩ ?_
  refine AWP.seq ?_
  refine AWP.text ?_
  refine Wy (.agg [(.d (.sl (List.length p0_L) (flatD (encI .i64) p0_L))), (.clo (.func 20) [] [])]) [] (Old rfl) ?_
  obtain ⟨r8_0, hr8_0, hm⟩ := bnd hm
  refine Wy (.agg [(.own 2), (.clo (.func 20) [] [])]) [(2, (.arr 3 1 (List.length r8_0) (flatD (encI .i64) r8_0)))] (Ocf [] [2] [] 0 (ok_sorter_Heap_int_clone__telltalelaw24_less p0_L r8_0 hr8_0) (fun a w => Try.call38 a w) rfl trivial) ?_
  refine Wy (.loc 3 0) [(3, (.box [(.d .nil), (.d (.lit .nilFunc))]))] (Oal rfl) ?_
  refine Wy (.tup []) [(3, (.box [(.own 2), (.clo (.func 20) [] [])]))] (Ost rfl) ?_
  refine Walk.nil ?_
  refine Then.normal ?_
  refine Amk 50 14 ⟨(tp 1 ((.d (.lit (.int .i64 p1))) :: (tp 2 ((.loc 1 0) :: ((.loc 3 0) :: (tp 33 [])))))), [.gone, (.box [(.d .nil), (.d (.lit .nilFunc))]), (.arr 3 1 (List.length r8_0) (flatD (encI .i64) r8_0)), (.box [(.own 2), (.clo (.func 20) [] [])])], 0⟩ ?_
  refine AWP.seq ?_
  refine AWP.text ?_
  refine Wy (.loc 3 0) [] (Ofa rfl) ?_
  refine Wy (.own 2) [] (Old rfl) ?_
  refine Wy (.d (.lit (.int .i64 p1))) [] (Omv rfl) ?_
  refine Wy (.own 4) [(4, (.arr 3 1 (List.length ([p1] : List Int)) (flatD (encI .i64) ([p1] : List Int))))] (Obs rfl) ?_
  obtain ⟨a13_1, ha13_1, hm⟩ := bnd hm; obtain ⟨ha13_1e, ha13_1l⟩ := app_some ha13_1
  refine Wy (.own 5) [(2, .gone), (5, (.arr 3 1 (List.length a13_1) (flatD (encI .i64) a13_1)))] (Oap rfl elemOK_57 (encI_len (k := .i64)) ha13_1e ha13_1l) ?_
  refine Wy (.loc 3 0) [] (Ofa rfl) ?_
  refine Wy (.tup []) [(3, (.box [(.own 5), (.clo (.func 20) [] [])]))] (Ost rfl) ?_
  refine Walk.nil ?_
  refine Then.normal ?_
  refine Amk 48 42 ⟨(tp 4 ((.loc 1 0) :: ((.loc 3 0) :: (tp 33 [])))), [.gone, (.box [(.d .nil), (.d (.lit .nilFunc))]), .gone, (.box [(.own 5), (.clo (.func 20) [] [])]), .gone, (.arr 3 1 (List.length a13_1) (flatD (encI .i64) a13_1))], 0⟩ ?_
  refine AWP.seq ?_
  refine AWP.seq ?_
  refine AWP.text ?_
  refine Wy (.loc 3 0) [] (Ofa rfl) ?_
  refine Wy (.own 5) [] (Old rfl) ?_
  refine Wy (.d (.lit (.int .i64 ((List.length a13_1 : Nat) : Int)))) [] (Oln rfl) ?_
  refine Wy (.d (.lit (.int .i64 (IntKind.i64.wrap (((List.length a13_1 : Nat) : Int) - 1))))) [] (Obn rfl (fun _ => hb_sub (k := .i64))) ?_
  refine Wy (.d (.lit (.int .i64 (IntKind.i64.wrap (((List.length a13_1 : Nat) : Int) - 1))))) [] (Omv rfl) ?_
  refine Walk.nil ?_
  refine Then.normal ?_
  refine Amk 112 42 ⟨(tp 4 ((.loc 1 0) :: ((.loc 3 0) :: ((.d (.lit (.int .i64 (IntKind.i64.wrap (((List.length a13_1 : Nat) : Int) - 1))))) :: (tp 32 []))))), [.gone, (.box [(.d .nil), (.d (.lit .nilFunc))]), .gone, (.box [(.own 5), (.clo (.func 20) [] [])]), .gone, (.arr 3 1 (List.length a13_1) (flatD (encI .i64) a13_1))], 0⟩ ?_
  refine AWP.block ?_
  refine AWP.loopI (α := Nat × (List Int) × Int)
    (fun x => match x with | (fu_3, y5_d_0_3, y6_3) => (⟨(tp 4 ((.loc 0 0) :: ((.loc 1 0) :: ((.d (.lit (.int .i64 y6_3))) :: (tp 32 []))))), [(.box [(.d .nil), (.d (.lit .nilFunc))]), (.box [(.own 2), (.clo (.func 20) [] [])]), (.arr 3 1 (List.length y5_d_0_3) (flatD (encI .i64) y5_d_0_3))], 0⟩ : St))
    (fun x => match x with | (fu_3, y5_d_0_3, y6_3) => m_sorter_Heap_int_Push__telltalelaw24_less_l3  fu_3 y5_d_0_3 y6_3 = some r)
    (fun x => match x with | (fu_3, y5_d_0_3, y6_3) => fu_3) (1152921504606846976, a13_1, (IntKind.i64.wrap (((List.length a13_1 : Nat) : Int) - 1)))
    (Weak.toK 112 0 0 [1, 3, 5]) hm ?_
  rintro ⟨fu_3, y5_d_0_3, y6_3⟩ n_3 hm ih_3
  try dsimp only at hm ih_3 ⊢
  cases fu_3 with
  | zero => exact absurd hm (by unfold m_sorter_Heap_int_Push__telltalelaw24_less_l3; simp)
  | succ fu_3 =>
    unfold m_sorter_Heap_int_Push__telltalelaw24_less_l3 at hm
    refine AWP.seq ?_
    refine AWP.seq ?_
    refine AWP.text ?_
    refine Wy (.d (.lit (.int .i64 y6_3))) [] (Omv rfl) ?_
    refine Wy (.d (.lit (.bool (decide ((0 : Int) < y6_3))))) [] (Obn rfl (fun _ => hb_gtr (k := .i64))) ?_
    rcases tf_ (decide ((0 : Int) < y6_3)) with hq21_4 | hq21_4
    · replace hm := cT hq21_4 hm
      refine Wy (.d (.lit (.bool true))) [] (Ocs (lit_tf (b := decide ((0 : Int) < y6_3)) hq21_4) (Omv rfl)) ?_
      refine Wy (.agg [(.own 2), (.clo (.func 20) [] [])]) [] (Old rfl) ?_
      refine Wy (.d (.lit (.int .i64 y6_3))) [] (Omv rfl) ?_
      refine Wy (.d (.lit (.int .i64 y6_3))) [] (Omv rfl) ?_
      refine Wy (.d (.lit (.int .i64 (IntKind.i64.wrap (y6_3 - 1))))) [] (Obn rfl (fun _ => hb_sub (k := .i64))) ?_
      refine Wy (.d (.lit (.int .i64 (IntKind.i64.wrap (Int.tdiv (IntKind.i64.wrap (y6_3 - 1)) 2))))) [] (Ocs (by kernel_rfl) (op_bin rfl (a1 := .int .i64 (IntKind.i64.wrap (y6_3 - 1))) (a2 := .int .i64 2) (by kernel_rfl) (by kernel_rfl) (fun _ => hb_quo (by decide)))) ?_
      obtain ⟨r27_4, hr27_4, hm⟩ := bnd hm
      refine Wy (.d (.lit (.bool r27_4))) [] (Ocp [] [] [2] 0 (ok_sorter_Heap_int_less__telltalelaw24_less y5_d_0_3 y6_3 (IntKind.i64.wrap (Int.tdiv (IntKind.i64.wrap (y6_3 - 1)) 2)) r27_4 hr27_4) (plain_triv (by simp [A.Plain, A.Plains, D.Plain, byteD])) (fun a w => Try.call41 a w) rfl trivial) ?_
      refine Wy (.d (.lit (.bool r27_4))) [] (OpT rfl) ?_
      refine Walk.nil ?_
      refine Then.normal ?_
      refine Amk 268435568 7 ⟨(tp 4 ((.loc 0 0) :: ((.loc 1 0) :: ((.d (.lit (.int .i64 y6_3))) :: (tp 21 ((.d (.lit (.bool r27_4))) :: (tp 10 []))))))), [(.box [(.d .nil), (.d (.lit .nilFunc))]), (.box [(.own 2), (.clo (.func 20) [] [])]), (.arr 3 1 (List.length y5_d_0_3) (flatD (encI .i64) y5_d_0_3))], 0⟩ ?_
      rcases tf_ r27_4 with hc28_7 | hc28_7
      · replace hm := cT hc28_7 hm
        refine AWP.if_ true (Eq.trans (by kernel_rfl) (lit_tf (b := r27_4) hc28_7)) ?_
        refine AWP.skip ?_
        refine Then.normal ?_
        refine Amk 112 7 ⟨(tp 4 ((.loc 0 0) :: ((.loc 1 0) :: ((.d (.lit (.int .i64 y6_3))) :: (tp 32 []))))), [(.box [(.d .nil), (.d (.lit .nilFunc))]), (.box [(.own 2), (.clo (.func 20) [] [])]), (.arr 3 1 (List.length y5_d_0_3) (flatD (encI .i64) y5_d_0_3))], 0⟩ ?_
        refine AWP.seq ?_
        refine AWP.block ?_
        refine AWP.text ?_
        refine Wy (.agg [(.own 2), (.clo (.func 20) [] [])]) [] (Old rfl) ?_
        refine Wy (.d (.lit (.int .i64 y6_3))) [] (Omv rfl) ?_
        refine Wy (.d (.lit (.int .i64 y6_3))) [] (Omv rfl) ?_
        refine Wy (.d (.lit (.int .i64 (IntKind.i64.wrap (y6_3 - 1))))) [] (Obn rfl (fun _ => hb_sub (k := .i64))) ?_
        refine Wy (.d (.lit (.int .i64 (IntKind.i64.wrap (Int.tdiv (IntKind.i64.wrap (y6_3 - 1)) 2))))) [] (Ocs (by kernel_rfl) (op_bin rfl (a1 := .int .i64 (IntKind.i64.wrap (y6_3 - 1))) (a2 := .int .i64 2) (by kernel_rfl) (by kernel_rfl) (fun _ => hb_quo (by decide)))) ?_
        obtain ⟨r37_5, hr37_5, hm⟩ := bnd hm
        refine Wy (.tup []) [(2, (.arr 3 1 (List.length r37_5) (flatD (encI .i64) r37_5)))] (Ocf [2] [] [] 0 (ok_sorter_Heap_int_swap__telltalelaw24_less y5_d_0_3 y6_3 (IntKind.i64.wrap (Int.tdiv (IntKind.i64.wrap (y6_3 - 1)) 2)) r37_5 hr37_5) (fun a w => Try.call39 a w) rfl ⟨rfl, trivial⟩) ?_
        refine Walk.nil ?_
        refine InBlock.normal ?_
        refine Then.normal ?_
        refine Amk 112 7 ⟨(tp 4 ((.loc 0 0) :: ((.loc 1 0) :: ((.d (.lit (.int .i64 y6_3))) :: (tp 32 []))))), [(.box [(.d .nil), (.d (.lit .nilFunc))]), (.box [(.own 2), (.clo (.func 20) [] [])]), (.arr 3 1 (List.length r37_5) (flatD (encI .i64) r37_5))], 0⟩ ?_
        refine AWP.text ?_
        refine Wy (.d (.lit (.int .i64 y6_3))) [] (Omv rfl) ?_
        refine Wy (.d (.lit (.int .i64 (IntKind.i64.wrap (y6_3 - 1))))) [] (Obn rfl (fun _ => hb_sub (k := .i64))) ?_
        refine Wy (.d (.lit (.int .i64 (IntKind.i64.wrap (Int.tdiv (IntKind.i64.wrap (y6_3 - 1)) 2))))) [] (Ocs (by kernel_rfl) (op_bin rfl (a1 := .int .i64 (IntKind.i64.wrap (y6_3 - 1))) (a2 := .int .i64 2) (by kernel_rfl) (by kernel_rfl) (fun _ => hb_quo (by decide)))) ?_
        refine Wy (.d (.lit (.int .i64 (IntKind.i64.wrap (Int.tdiv (IntKind.i64.wrap (y6_3 - 1)) 2))))) [] (Omv rfl) ?_
        refine Walk.nil ?_
        refine RoundK.normal ?_
        exact Rounds.weak (Weak.toK 112 0 0 [0, 1, 2]) (ih_3 (fu_3, r37_5, (IntKind.i64.wrap (Int.tdiv (IntKind.i64.wrap (y6_3 - 1)) 2))) hm (Nat.lt_succ_self _))
      · replace hm := cF hc28_7 hm
        refine AWP.if_ false (Eq.trans (by kernel_rfl) (lit_tf (b := r27_4) hc28_7)) ?_
        refine AWP.exit ?_
        refine Then.exit ?_
        refine RoundK.exit ?_
        refine InBlock.same ?_
        refine Then.normal ?_
        refine Amk 48 7 ⟨(tp 4 ((.loc 0 0) :: ((.loc 1 0) :: (tp 33 [])))), [(.box [(.d .nil), (.d (.lit .nilFunc))]), (.box [(.own 2), (.clo (.func 20) [] [])]), (.arr 3 1 (List.length y5_d_0_3) (flatD (encI .i64) y5_d_0_3))], 0⟩ ?_
        refine AWP.seq ?_
        refine AWP.text ?_
        refine Wy (.agg [(.own 2), (.clo (.func 20) [] [])]) [] (Old rfl) ?_
        refine Wy (.tup []) [(0, (.box [(.own 2), (.clo (.func 20) [] [])]))] (Ost rfl) ?_
        refine Walk.nil ?_
        refine Then.normal ?_
        refine AWP.ret ?_
        obtain rfl := Option.some.inj hm
        exact ret_i [2]
    · replace hm := cF hq21_4 hm
      refine Wy (.d (.lit (.bool false))) [] (Ocs (lit_tf (b := decide ((0 : Int) < y6_3)) hq21_4) (Omv rfl)) ?_
      refine Wn ?_
      refine Wn ?_
      refine Wn ?_
      refine Wn ?_
      refine Wn ?_
      refine Wn ?_
      refine Wy (.d (.lit (.bool false))) [] (OpF rfl) ?_
      refine Walk.nil ?_
      refine Then.normal ?_
      refine Amk 268435568 7 ⟨(tp 4 ((.loc 0 0) :: ((.loc 1 0) :: ((.d (.lit (.int .i64 y6_3))) :: (tp 21 ((.d (.lit (.bool false))) :: (tp 10 []))))))), [(.box [(.d .nil), (.d (.lit .nilFunc))]), (.box [(.own 2), (.clo (.func 20) [] [])]), (.arr 3 1 (List.length y5_d_0_3) (flatD (encI .i64) y5_d_0_3))], 0⟩ ?_
      refine AWP.if_ false (by kernel_rfl) ?_
      refine AWP.exit ?_
      refine Then.exit ?_
      refine RoundK.exit ?_
      refine InBlock.same ?_
      refine Then.normal ?_
      refine Amk 48 7 ⟨(tp 4 ((.loc 0 0) :: ((.loc 1 0) :: (tp 33 [])))), [(.box [(.d .nil), (.d (.lit .nilFunc))]), (.box [(.own 2), (.clo (.func 20) [] [])]), (.arr 3 1 (List.length y5_d_0_3) (flatD (encI .i64) y5_d_0_3))], 0⟩ ?_
      refine AWP.seq ?_
      refine AWP.text ?_
      refine Wy (.agg [(.own 2), (.clo (.func 20) [] [])]) [] (Old rfl) ?_
      refine Wy (.tup []) [(0, (.box [(.own 2), (.clo (.func 20) [] [])]))] (Ost rfl) ?_
      refine Walk.nil ?_
      refine Then.normal ?_
      refine AWP.ret ?_
      obtain rfl := Option.some.inj hm
      exact ret_i [2]

set_option maxRecDepth 20000 in
set_option maxHeartbeats 4000000 in
theorem ok_sorter_Heap_int_least__telltalelaw24_less (p0_L : (List Int)) (p1 : Int) (r : Int) (h : m_sorter_Heap_int_least__telltalelaw24_less p0_L p1 = some r) : GCall Try.prog 40 [(.agg [(.d (.sl (List.length p0_L) (flatD (encI .i64) p0_L))), (.clo (.func 20) [] [])]), (.d (.lit (.int .i64 p1)))] [] (.d (.lit (.int .i64 r))) [] := by
  refine GCall.of_body (n := 31) (rs := [(.tmp 4)]) Try.func40 rfl rfl rfl ?_
  refine Ato ⟨((.agg [(.d (.sl (List.length p0_L) (flatD (encI .i64) p0_L))), (.clo (.func 20) [] [])]) :: ((.d (.lit (.int .i64 p1))) :: (tu 29 []))), [], 0⟩ ?_
  have hm := h
  unfold m_sorter_Heap_int_least__telltalelaw24_less at hm
  refine AWP.seq ?_
  refine AWP.text ?_
  refine Wy (.loc 0 0) [(0, (.box [(.d (.sl (List.length p0_L) (flatD (encI .i64) p0_L))), (.clo (.func 20) [] [])]))] (Obx rfl) ?_
  refine Wy (.d (.lit (.int .i64 0))) [] (Omv rfl) ?_
  refine Walk.nil ?_
  refine Then.normal ?_
  refine Amk 6 1 ⟨(tp 1 ((.d (.lit (.int .i64 p1))) :: ((.loc 0 0) :: (tp 28 [])))), [(.box [(.d (.sl (List.length p0_L) (flatD (encI .i64) p0_L))), (.clo (.func 20) [] [])])], 0⟩ ?_
  refine AWP.seq ?_
  refine AWP.text ?_
  refine Wy (.d (.lit (.int .i64 p1))) [] (Omv rfl) ?_
  refine Wy (.d (.lit (.int .i64 p1))) [] (Omv rfl) ?_
  refine Walk.nil ?_
  refine Then.normal ?_
  refine Amk 38 1 ⟨(tp 1 ((.d (.lit (.int .i64 p1))) :: ((.loc 0 0) :: (tp 2 ((.d (.lit (.int .i64 p1))) :: (tp 25 [])))))), [(.box [(.d (.sl (List.length p0_L) (flatD (encI .i64) p0_L))), (.clo (.func 20) [] [])])], 0⟩ ?_
  refine AWP.seq ?_
  refine AWP.seq ?_
  refine AWP.text ?_
  refine Wy (.d (.lit (.int .i64 p1))) [] (Omv rfl) ?_
  refine Wy (.d (.lit (.int .i64 (IntKind.i64.wrap (2 * p1))))) [] (Obn rfl (fun _ => hb_mul (k := .i64))) ?_
  refine Wy (.d (.lit (.int .i64 (IntKind.i64.wrap ((IntKind.i64.wrap (2 * p1)) + 1))))) [] (Obn rfl (fun _ => hb_add (k := .i64))) ?_
  refine Wy (.d (.lit (.int .i64 (IntKind.i64.wrap ((IntKind.i64.wrap (2 * p1)) + 1))))) [] (Omv rfl) ?_
  refine Walk.nil ?_
  refine Then.normal ?_
  refine Amk 102 1 ⟨(tp 1 ((.d (.lit (.int .i64 p1))) :: ((.loc 0 0) :: (tp 2 ((.d (.lit (.int .i64 p1))) :: ((.d (.lit (.int .i64 (IntKind.i64.wrap ((IntKind.i64.wrap (2 * p1)) + 1))))) :: (tp 24 []))))))), [(.box [(.d (.sl (List.length p0_L) (flatD (encI .i64) p0_L))), (.clo (.func 20) [] [])])], 0⟩ ?_
  refine AWP.block ?_
  refine AWP.loopI (α := Nat × Int × Int)
    (fun x => match x with | (fu_0, y5_0, y6_0) => (⟨(tp 1 ((.d (.lit (.int .i64 p1))) :: ((.loc 0 0) :: (tp 2 ((.d (.lit (.int .i64 y5_0))) :: ((.d (.lit (.int .i64 y6_0))) :: (tp 24 []))))))), [(.box [(.d (.sl (List.length p0_L) (flatD (encI .i64) p0_L))), (.clo (.func 20) [] [])])], 0⟩ : St))
    (fun x => match x with | (fu_0, y5_0, y6_0) => m_sorter_Heap_int_least__telltalelaw24_less_l0 p0_L p1 fu_0 y5_0 y6_0 = some r)
    (fun x => match x with | (fu_0, y5_0, y6_0) => fu_0) (1152921504606846976, p1, (IntKind.i64.wrap ((IntKind.i64.wrap (2 * p1)) + 1)))
    (Weak.toK 102 0 0 [0]) hm ?_
  rintro ⟨fu_0, y5_0, y6_0⟩ n_0 hm ih_0
  try dsimp only at hm ih_0 ⊢
  cases fu_0 with
  | zero => exact absurd hm (by unfold m_sorter_Heap_int_least__telltalelaw24_less_l0; simp)
  | succ fu_0 =>
    unfold m_sorter_Heap_int_least__telltalelaw24_less_l0 at hm
    refine AWP.seq ?_
    refine AWP.seq ?_
    refine AWP.text ?_
    refine Wy (.d (.lit (.int .i64 y6_0))) [] (Omv rfl) ?_
    refine Wy (.d (.lit (.int .i64 p1))) [] (Omv rfl) ?_
    refine Wy (.d (.lit (.int .i64 (IntKind.i64.wrap (2 * p1))))) [] (Obn rfl (fun _ => hb_mul (k := .i64))) ?_
    refine Wy (.d (.lit (.int .i64 (IntKind.i64.wrap ((IntKind.i64.wrap (2 * p1)) + 2))))) [] (Obn rfl (fun _ => hb_add (k := .i64))) ?_
    refine Wy (.d (.lit (.bool (decide (y6_0 ≤ (IntKind.i64.wrap ((IntKind.i64.wrap (2 * p1)) + 2))))))) [] (Obn rfl (fun _ => hb_leq (k := .i64))) ?_
    rcases tf_ (decide (y6_0 ≤ (IntKind.i64.wrap ((IntKind.i64.wrap (2 * p1)) + 2)))) with hq16_1 | hq16_1
    · replace hm := cT hq16_1 hm
      refine Wy (.d (.lit (.bool true))) [] (Ocs (lit_tf (b := decide (y6_0 ≤ (IntKind.i64.wrap ((IntKind.i64.wrap (2 * p1)) + 2)))) hq16_1) (Omv rfl)) ?_
      refine Wy (.d (.lit (.int .i64 y6_0))) [] (Omv rfl) ?_
      refine Wy (.loc 0 0) [] (Ofa rfl) ?_
      refine Wy (.d (.sl (List.length p0_L) (flatD (encI .i64) p0_L))) [] (Old rfl) ?_
      refine Wy (.d (.lit (.int .i64 ((List.length p0_L : Nat) : Int)))) [] (Oln rfl) ?_
      refine Wy (.d (.lit (.bool (decide (y6_0 < ((List.length p0_L : Nat) : Int)))))) [] (Obn rfl (fun _ => hb_lss (k := .i64))) ?_
      refine Wy (.d (.lit (.bool (decide (y6_0 < ((List.length p0_L : Nat) : Int)))))) [] (OpT rfl) ?_
      refine Walk.nil ?_
      refine Then.normal ?_
      refine Amk 4194406 1 ⟨(tp 1 ((.d (.lit (.int .i64 p1))) :: ((.loc 0 0) :: (tp 2 ((.d (.lit (.int .i64 y5_0))) :: ((.d (.lit (.int .i64 y6_0))) :: (tp 15 ((.d (.lit (.bool (decide (y6_0 < ((List.length p0_L : Nat) : Int)))))) :: (tp 8 []))))))))), [(.box [(.d (.sl (List.length p0_L) (flatD (encI .i64) p0_L))), (.clo (.func 20) [] [])])], 0⟩ ?_
      rcases tf_ (decide (y6_0 < ((List.length p0_L : Nat) : Int))) with hc22_3 | hc22_3
      · replace hm := cT hc22_3 hm
        refine AWP.if_ true (Eq.trans (by kernel_rfl) (lit_tf (b := decide (y6_0 < ((List.length p0_L : Nat) : Int))) hc22_3)) ?_
        refine AWP.skip ?_
        refine Then.normal ?_
        refine Amk 102 1 ⟨(tp 1 ((.d (.lit (.int .i64 p1))) :: ((.loc 0 0) :: (tp 2 ((.d (.lit (.int .i64 y5_0))) :: ((.d (.lit (.int .i64 y6_0))) :: (tp 24 []))))))), [(.box [(.d (.sl (List.length p0_L) (flatD (encI .i64) p0_L))), (.clo (.func 20) [] [])])], 0⟩ ?_
        refine AWP.seq ?_
        refine AWP.block ?_
        refine AWP.seq ?_
        refine AWP.text ?_
        refine Wy (.agg [(.d (.sl (List.length p0_L) (flatD (encI .i64) p0_L))), (.clo (.func 20) [] [])]) [] (Old rfl) ?_
        refine Wy (.d (.lit (.int .i64 y6_0))) [] (Omv rfl) ?_
        refine Wy (.d (.lit (.int .i64 y5_0))) [] (Omv rfl) ?_
        obtain ⟨r28_2, hr28_2, hm⟩ := bnd hm
        refine Wy (.d (.lit (.bool r28_2))) [] (Ocf [] [] [] 0 (ok_sorter_Heap_int_less__telltalelaw24_less p0_L y6_0 y5_0 r28_2 hr28_2) (fun a w => Try.call41 a w) rfl trivial) ?_
        refine Walk.nil ?_
        refine Then.normal ?_
        refine Amk 268435558 1 ⟨(tp 1 ((.d (.lit (.int .i64 p1))) :: ((.loc 0 0) :: (tp 2 ((.d (.lit (.int .i64 y5_0))) :: ((.d (.lit (.int .i64 y6_0))) :: (tp 21 ((.d (.lit (.bool r28_2))) :: (tp 2 []))))))))), [(.box [(.d (.sl (List.length p0_L) (flatD (encI .i64) p0_L))), (.clo (.func 20) [] [])])], 0⟩ ?_
        rcases tf_ r28_2 with hc28_4 | hc28_4
        · replace hm := cT hc28_4 hm
          refine AWP.if_ true (Eq.trans (by kernel_rfl) (lit_tf (b := r28_2) hc28_4)) ?_
          refine AWP.text ?_
          refine Wy (.d (.lit (.int .i64 y6_0))) [] (Omv rfl) ?_
          refine Wy (.d (.lit (.int .i64 y6_0))) [] (Omv rfl) ?_
          refine Walk.nil ?_
          refine InBlock.normal ?_
          refine Then.normal ?_
          refine Amk 102 1 ⟨(tp 1 ((.d (.lit (.int .i64 p1))) :: ((.loc 0 0) :: (tp 2 ((.d (.lit (.int .i64 y6_0))) :: ((.d (.lit (.int .i64 y6_0))) :: (tp 24 []))))))), [(.box [(.d (.sl (List.length p0_L) (flatD (encI .i64) p0_L))), (.clo (.func 20) [] [])])], 0⟩ ?_
          refine AWP.text ?_
          refine Wy (.d (.lit (.int .i64 y6_0))) [] (Omv rfl) ?_
          refine Wy (.d (.lit (.int .i64 (IntKind.i64.wrap (y6_0 + 1))))) [] (Obn rfl (fun _ => hb_add (k := .i64))) ?_
          refine Wy (.d (.lit (.int .i64 (IntKind.i64.wrap (y6_0 + 1))))) [] (Omv rfl) ?_
          refine Walk.nil ?_
          refine RoundK.normal ?_
          exact Rounds.weak (Weak.toK 102 0 0 [0]) (ih_0 (fu_0, y6_0, (IntKind.i64.wrap (y6_0 + 1))) hm (Nat.lt_succ_self _))
        · replace hm := cF hc28_4 hm
          refine AWP.if_ false (Eq.trans (by kernel_rfl) (lit_tf (b := r28_2) hc28_4)) ?_
          refine AWP.skip ?_
          refine InBlock.normal ?_
          refine Then.normal ?_
          refine Amk 102 1 ⟨(tp 1 ((.d (.lit (.int .i64 p1))) :: ((.loc 0 0) :: (tp 2 ((.d (.lit (.int .i64 y5_0))) :: ((.d (.lit (.int .i64 y6_0))) :: (tp 24 []))))))), [(.box [(.d (.sl (List.length p0_L) (flatD (encI .i64) p0_L))), (.clo (.func 20) [] [])])], 0⟩ ?_
          refine AWP.text ?_
          refine Wy (.d (.lit (.int .i64 y6_0))) [] (Omv rfl) ?_
          refine Wy (.d (.lit (.int .i64 (IntKind.i64.wrap (y6_0 + 1))))) [] (Obn rfl (fun _ => hb_add (k := .i64))) ?_
          refine Wy (.d (.lit (.int .i64 (IntKind.i64.wrap (y6_0 + 1))))) [] (Omv rfl) ?_
          refine Walk.nil ?_
          refine RoundK.normal ?_
          exact Rounds.weak (Weak.toK 102 0 0 [0]) (ih_0 (fu_0, y5_0, (IntKind.i64.wrap (y6_0 + 1))) hm (Nat.lt_succ_self _))
      · replace hm := cF hc22_3 hm
        refine AWP.if_ false (Eq.trans (by kernel_rfl) (lit_tf (b := decide (y6_0 < ((List.length p0_L : Nat) : Int))) hc22_3)) ?_
        refine AWP.exit ?_
        refine Then.exit ?_
        refine RoundK.exit ?_
        refine InBlock.same ?_
        refine Then.normal ?_
        refine Amk 32 0 ⟨(tp 5 ((.d (.lit (.int .i64 y5_0))) :: (tp 25 []))), [.gone], 0⟩ ?_
        refine AWP.seq ?_
        refine AWP.text ?_
        refine Wy (.d (.lit (.int .i64 y5_0))) [] (Omv rfl) ?_
        refine Wy (.d (.lit (.int .i64 y5_0))) [] (Omv rfl) ?_
        refine Walk.nil ?_
        refine Then.normal ?_
        refine AWP.ret ?_
        obtain rfl := Option.some.inj hm
        exact ret_i []
    · replace hm := cF hq16_1 hm
      refine Wy (.d (.lit (.bool false))) [] (Ocs (lit_tf (b := decide (y6_0 ≤ (IntKind.i64.wrap ((IntKind.i64.wrap (2 * p1)) + 2)))) hq16_1) (Omv rfl)) ?_
      refine Wn ?_
      refine Wn ?_
      refine Wn ?_
      refine Wn ?_
      refine Wn ?_
      refine Wy (.d (.lit (.bool false))) [] (OpF rfl) ?_
      refine Walk.nil ?_
      refine Then.normal ?_
      refine Amk 4194406 1 ⟨(tp 1 ((.d (.lit (.int .i64 p1))) :: ((.loc 0 0) :: (tp 2 ((.d (.lit (.int .i64 y5_0))) :: ((.d (.lit (.int .i64 y6_0))) :: (tp 15 ((.d (.lit (.bool false))) :: (tp 8 []))))))))), [(.box [(.d (.sl (List.length p0_L) (flatD (encI .i64) p0_L))), (.clo (.func 20) [] [])])], 0⟩ ?_
      refine AWP.if_ false (by kernel_rfl) ?_
      refine AWP.exit ?_
      refine Then.exit ?_
      refine RoundK.exit ?_
      refine InBlock.same ?_
      refine Then.normal ?_
      refine Amk 32 0 ⟨(tp 5 ((.d (.lit (.int .i64 y5_0))) :: (tp 25 []))), [.gone], 0⟩ ?_
      refine AWP.seq ?_
      refine AWP.text ?_
      refine Wy (.d (.lit (.int .i64 y5_0))) [] (Omv rfl) ?_
      refine Wy (.d (.lit (.int .i64 y5_0))) [] (Omv rfl) ?_
      refine Walk.nil ?_
      refine Then.normal ?_
      refine AWP.ret ?_
      obtain rfl := Option.some.inj hm
      exact ret_i []
end Go.Proofs.Ytanahlngkociaaa.K
