/- each function computes what its model says (5) -/
import Derived.Test.YtanahlngkociaaaL4
namespace Go.Proofs.Ytanahlngkociaaa.K
open Go.RowKit Go.Lib
set_option linter.unusedVariables false
set_option linter.unusedSimpArgs false

set_option maxRecDepth 20000 in
set_option maxHeartbeats 4000000 in
theorem ok_telltalelaw06_Vals (p0 : (List GValue)) (r : (List GValue)) (h : m_telltalelaw06_Vals p0 = some r) : GCall Try.prog 35 [(.d (.sl (List.length p0) (flatD enc_GValue p0)))] [] (.own 0) [(.arr 94 4 (List.length r) (flatD enc_GValue r))] := by
  refine GCall.of_body (n := 19) (rs := [(.tmp 2)]) Try.func35 rfl rfl rfl ?_
  refine Ato ⟨((.d (.sl (List.length p0) (flatD enc_GValue p0))) :: (tu 18 [])), [], 0⟩ ?_
  have hm := h
  unfold m_telltalelaw06_Vals at hm
  refine AWP.seq ?_
  refine AWP.text ?_
  refine Wy (.d .nil) [] (Omv rfl) ?_
  refine Walk.nil ?_
  refine Then.normal ?_
  refine Amk 1 0 ⟨((.d (.sl (List.length p0) (flatD enc_GValue p0))) :: (tp 18 [])), [], 0⟩ ?_
  refine AWP.seq ?_
  refine AWP.text ?_
  refine Wy (.d .nil) [] (Omv rfl) ?_
  refine Walk.nil ?_
  refine Then.normal ?_
  refine Amk 9 0 ⟨((.d (.sl (List.length p0) (flatD enc_GValue p0))) :: (tp 2 ((.d .nil) :: (tp 15 [])))), [], 0⟩ ?_
  refine AWP.seq ?_
  refine AWP.seq ?_
  refine AWP.text ?_
  refine Wy (.d (.lit (.int .i64 0))) [] (Omv rfl) ?_
  refine Walk.nil ?_
  refine Then.normal ?_
  refine Amk 25 0 ⟨((.d (.sl (List.length p0) (flatD enc_GValue p0))) :: (tp 2 ((.d .nil) :: ((.d (.lit (.int .i64 0))) :: (tp 14 []))))), [], 0⟩ ?_
  refine AWP.block ?_
  refine Aow 3 94 4 ⟨((.d (.sl (List.length p0) (flatD enc_GValue p0))) :: (tp 2 ((.own 0) :: ((.d (.lit (.int .i64 0))) :: (tp 14 []))))), [(.arr 94 4 (List.length ([] : List GValue)) (flatD enc_GValue ([] : List GValue)))], 0⟩ ?_
  refine AWP.loopI (α := Nat × (List GValue) × Int)
    (fun x => match x with | (fu_0, y3_0, y4_0) => (⟨((.d (.sl (List.length p0) (flatD enc_GValue p0))) :: (tp 2 ((.own 0) :: ((.d (.lit (.int .i64 y4_0))) :: (tp 14 []))))), [(.arr 94 4 (List.length y3_0) (flatD enc_GValue y3_0))], 0⟩ : St))
    (fun x => match x with | (fu_0, y3_0, y4_0) => m_telltalelaw06_Vals_l0 p0 fu_0 y3_0 y4_0 = some r)
    (fun x => match x with | (fu_0, y3_0, y4_0) => fu_0) (1152921504606846976, ([] : List GValue), 0)
    (Weak.toK 25 0 0 [0]) hm ?_
  rintro ⟨fu_0, y3_0, y4_0⟩ n_0 hm ih_0
  try dsimp only at hm ih_0 ⊢
  cases fu_0 with
  | zero => exact absurd hm (by unfold m_telltalelaw06_Vals_l0; simp)
  | succ fu_0 =>
    unfold m_telltalelaw06_Vals_l0 at hm
    refine AWP.seq ?_
    refine AWP.seq ?_
    refine AWP.text ?_
    refine Wy (.d (.lit (.int .i64 y4_0))) [] (Omv rfl) ?_
    refine Wy (.d (.sl (List.length p0) (flatD enc_GValue p0))) [] (Omv rfl) ?_
    refine Wy (.d (.lit (.int .i64 ((List.length p0 : Nat) : Int)))) [] (Oln rfl) ?_
    refine Wy (.d (.lit (.bool (decide (y4_0 < ((List.length p0 : Nat) : Int)))))) [] (Obn rfl (fun _ => hb_lss (k := .i64))) ?_
    refine Walk.nil ?_
    refine Then.normal ?_
    refine Amk 281 1 ⟨((.d (.sl (List.length p0) (flatD enc_GValue p0))) :: (tp 2 ((.own 0) :: ((.d (.lit (.int .i64 y4_0))) :: (tp 3 ((.d (.lit (.bool (decide (y4_0 < ((List.length p0 : Nat) : Int)))))) :: (tp 10 []))))))), [(.arr 94 4 (List.length y3_0) (flatD enc_GValue y3_0))], 0⟩ ?_
    rcases tf_ (decide (y4_0 < ((List.length p0 : Nat) : Int))) with hc8_3 | hc8_3
    · replace hm := cT hc8_3 hm
      refine AWP.if_ true (Eq.trans (by kernel_rfl) (lit_tf (b := decide (y4_0 < ((List.length p0 : Nat) : Int))) hc8_3)) ?_
      refine AWP.skip ?_
      refine Then.normal ?_
      refine Amk 25 1 ⟨((.d (.sl (List.length p0) (flatD enc_GValue p0))) :: (tp 2 ((.own 0) :: ((.d (.lit (.int .i64 y4_0))) :: (tp 14 []))))), [(.arr 94 4 (List.length y3_0) (flatD enc_GValue y3_0))], 0⟩ ?_
      refine AWP.seq ?_
      refine AWP.block ?_
      refine AWP.text ?_
      refine Wy (.own 0) [] (Omv rfl) ?_
      refine Wy (.d (.sl (List.length p0) (flatD enc_GValue p0))) [] (Omv rfl) ?_
      refine Wy (.d (.lit (.int .i64 y4_0))) [] (Omv rfl) ?_
      obtain ⟨x14_2, hx14_2, hm⟩ := bnd hm
      obtain ⟨hx14_2i, hx14_2g⟩ := geti_some hx14_2
      refine Wy (.d (.ref (List.drop ((Int.toNat y4_0) * 4) (flatD enc_GValue p0)))) [] (Oia rfl enc_GValue_len hx14_2i hx14_2g) ?_
      refine Wy (.agg [(.d (byteD x14_2.Kind)), (.d (.lit (.int .i64 x14_2.N))), (.d (.lit (.int .u64 x14_2.Bits))), (.d (.lit (.string (toS x14_2.Text))))]) [] (Lf rfl enc_GValue_len hx14_2g) ?_
      refine Wy (.own 1) [(1, (.arr 94 4 (List.length ([x14_2] : List GValue)) (flatD enc_GValue ([x14_2] : List GValue))))] (Obs rfl) ?_
      obtain ⟨a17_2, ha17_2, hm⟩ := bnd hm; obtain ⟨ha17_2e, ha17_2l⟩ := app_some ha17_2
      refine Wy (.own 2) [(0, .gone), (2, (.arr 94 4 (List.length a17_2) (flatD enc_GValue a17_2)))] (Oap rfl elemOK_48 enc_GValue_len ha17_2e ha17_2l) ?_
      refine Wy (.own 2) [] (Omv rfl) ?_
      refine Walk.nil ?_
      refine InBlock.normal ?_
      refine Then.normal ?_
      refine Amk 25 4 ⟨((.d (.sl (List.length p0) (flatD enc_GValue p0))) :: (tp 2 ((.own 2) :: ((.d (.lit (.int .i64 y4_0))) :: (tp 14 []))))), [.gone, .gone, (.arr 94 4 (List.length a17_2) (flatD enc_GValue a17_2))], 0⟩ ?_
      refine AWP.text ?_
      refine Wy (.d (.lit (.int .i64 y4_0))) [] (Omv rfl) ?_
      refine Wy (.d (.lit (.int .i64 (IntKind.i64.wrap (y4_0 + 1))))) [] (Obn rfl (fun _ => hb_add (k := .i64))) ?_
      refine Wy (.d (.lit (.int .i64 (IntKind.i64.wrap (y4_0 + 1))))) [] (Omv rfl) ?_
      refine Walk.nil ?_
      refine RoundK.normal ?_
      exact Rounds.weak (Weak.toK 25 0 0 [2]) (ih_0 (fu_0, a17_2, (IntKind.i64.wrap (y4_0 + 1))) hm (Nat.lt_succ_self _))
    · replace hm := cF hc8_3 hm
      refine AWP.if_ false (Eq.trans (by kernel_rfl) (lit_tf (b := decide (y4_0 < ((List.length p0 : Nat) : Int))) hc8_3)) ?_
      refine AWP.exit ?_
      refine Then.exit ?_
      refine RoundK.exit ?_
      refine InBlock.same ?_
      refine Then.normal ?_
      refine Amk 8 1 ⟨(tp 3 ((.own 0) :: (tp 15 []))), [(.arr 94 4 (List.length y3_0) (flatD enc_GValue y3_0))], 0⟩ ?_
      refine AWP.seq ?_
      refine AWP.text ?_
      refine Wy (.own 0) [] (Omv rfl) ?_
      refine Wy (.own 0) [] (Omv rfl) ?_
      refine Walk.nil ?_
      refine Then.normal ?_
      refine AWP.ret ?_
      obtain rfl := Option.some.inj hm
      exact ret_i [0]

set_option maxRecDepth 20000 in
set_option maxHeartbeats 4000000 in
theorem ok_telltalelaw07_Own (p0 : GEvent) (r : GEvent) (h : m_telltalelaw07_Own p0 = some r) : GCall Try.prog 16 [(.agg [(.d (.lit (.int .i64 p0.Time))), (.d (.lit (.int .i64 p0.Source))), (.d (.lit (.int .i64 p0.Seq))), (.d (.lit (.string (toS p0.Type_)))), (.d (.sl (List.length p0.Vals) (flatD enc_GValue p0.Vals)))])] [] (.agg [(.d (.lit (.int .i64 r.Time))), (.d (.lit (.int .i64 r.Source))), (.d (.lit (.int .i64 r.Seq))), (.d (.lit (.string (toS r.Type_)))), (.own 0)]) [(.arr 94 4 (List.length r.Vals) (flatD enc_GValue r.Vals))] := by
  refine GCall.of_body (n := 15) (rs := [(.cell 2 50)]) Try.func16 rfl rfl rfl ?_
  refine Ato ⟨((.agg [(.d (.lit (.int .i64 p0.Time))), (.d (.lit (.int .i64 p0.Source))), (.d (.lit (.int .i64 p0.Seq))), (.d (.lit (.string (toS p0.Type_)))), (.d (.sl (List.length p0.Vals) (flatD enc_GValue p0.Vals)))]) :: (tu 14 [])), [], 0⟩ ?_
  have hm := h
  unfold m_telltalelaw07_Own at hm
  refine AWP.seq ?_
  refine AWP.text ?_
  refine Wy (.loc 0 0) [(0, (.box [(.d (.lit (.int .i64 p0.Time))), (.d (.lit (.int .i64 p0.Source))), (.d (.lit (.int .i64 p0.Seq))), (.d (.lit (.string (toS p0.Type_)))), (.d (.sl (List.length p0.Vals) (flatD enc_GValue p0.Vals)))]))] (Obx rfl) ?_
  refine Wy (.loc 1 0) [(1, (.box [(.d (.lit (.int .i64 0))), (.d (.lit (.int .i64 0))), (.d (.lit (.int .i64 0))), (.d (.lit (.string (toS ([] : List UInt8))))), (.d .nil)]))] (Oal rfl) ?_
  refine Walk.nil ?_
  refine Then.normal ?_
  refine Amk 6 3 ⟨(tp 1 ((.loc 0 0) :: ((.loc 1 0) :: (tp 12 [])))), [(.box [(.d (.lit (.int .i64 p0.Time))), (.d (.lit (.int .i64 p0.Source))), (.d (.lit (.int .i64 p0.Seq))), (.d (.lit (.string (toS p0.Type_)))), (.d (.sl (List.length p0.Vals) (flatD enc_GValue p0.Vals)))]), (.box [(.d (.lit (.int .i64 0))), (.d (.lit (.int .i64 0))), (.d (.lit (.int .i64 0))), (.d (.lit (.string (toS ([] : List UInt8))))), (.d .nil)])], 0⟩ ?_
  refine AWP.seq ?_
  refine Adr ?_
  refine Wy (.loc 0 0) [] (Ofa rfl) ?_
  refine Wy (.d (.lit (.int .i64 p0.Time))) [] (Old rfl) ?_
  refine Wy (.loc 0 1) [] (Ofa rfl) ?_
  refine Wy (.d (.lit (.int .i64 p0.Source))) [] (Old rfl) ?_
  refine Wy (.loc 0 2) [] (Ofa rfl) ?_
  refine Wy (.d (.lit (.int .i64 p0.Seq))) [] (Old rfl) ?_
  refine Wy (.loc 0 3) [] (Ofa rfl) ?_
  refine Wy (.d (.lit (.string (toS p0.Type_)))) [] (Old rfl) ?_
  refine Wy (.loc 0 4) [] (Ofa rfl) ?_
  refine Wy (.d (.sl (List.length p0.Vals) (flatD enc_GValue p0.Vals))) [] (Old rfl) ?_
  obtain ⟨r13_0, hr13_0, hm⟩ := bnd hm
  refine Wy (.own 2) [(2, (.arr 94 4 (List.length r13_0) (flatD enc_GValue r13_0)))] (Ocf [] [2] [] 0 (ok_telltalelaw06_Vals p0.Vals r13_0 hr13_0) (fun a w => Try.call35 a w) rfl trivial) ?_
  refine Wy (.agg [(.d (.lit (.int .i64 p0.Time))), (.d (.lit (.int .i64 p0.Source))), (.d (.lit (.int .i64 p0.Seq))), (.d (.lit (.string (toS p0.Type_)))), (.own 2)]) [] (Obd rfl) ?_
  refine Wy (.tup []) [(1, (.box [(.d (.lit (.int .i64 p0.Time))), (.d (.lit (.int .i64 p0.Source))), (.d (.lit (.int .i64 p0.Seq))), (.d (.lit (.string (toS p0.Type_)))), (.own 2)]))] (Ost rfl) ?_
  refine Wdr ?_
  refine Then.normal ?_
  refine AWP.ret ?_
  obtain rfl := Option.some.inj hm
  exact ret_i [2]

set_option maxRecDepth 20000 in
set_option maxHeartbeats 4000000 in
theorem ok_telltaleref07_Less (p0 : GEvent) (p1 : GEvent) (r : Bool) (h : m_telltaleref07_Less p0 p1 = some r) : GCall Try.prog 36 [(.agg [(.d (.lit (.int .i64 p0.Time))), (.d (.lit (.int .i64 p0.Source))), (.d (.lit (.int .i64 p0.Seq))), (.d (.lit (.string (toS p0.Type_)))), (.d (.sl (List.length p0.Vals) (flatD enc_GValue p0.Vals)))]), (.agg [(.d (.lit (.int .i64 p1.Time))), (.d (.lit (.int .i64 p1.Source))), (.d (.lit (.int .i64 p1.Seq))), (.d (.lit (.string (toS p1.Type_)))), (.d (.sl (List.length p1.Vals) (flatD enc_GValue p1.Vals)))])] [] (.d (.lit (.bool r))) [] := by
  refine GCall.of_body (n := 30) (rs := [(.tmp 4)]) Try.func36 rfl rfl rfl ?_
  refine Ato ⟨((.agg [(.d (.lit (.int .i64 p0.Time))), (.d (.lit (.int .i64 p0.Source))), (.d (.lit (.int .i64 p0.Seq))), (.d (.lit (.string (toS p0.Type_)))), (.d (.sl (List.length p0.Vals) (flatD enc_GValue p0.Vals)))]) :: ((.agg [(.d (.lit (.int .i64 p1.Time))), (.d (.lit (.int .i64 p1.Source))), (.d (.lit (.int .i64 p1.Seq))), (.d (.lit (.string (toS p1.Type_)))), (.d (.sl (List.length p1.Vals) (flatD enc_GValue p1.Vals)))]) :: (tu 28 []))), [], 0⟩ ?_
  have hm := h
  unfold m_telltaleref07_Less at hm
  refine AWP.seq ?_
  refine AWP.text ?_
  refine Wy (.loc 0 0) [(0, (.box [(.d (.lit (.int .i64 p0.Time))), (.d (.lit (.int .i64 p0.Source))), (.d (.lit (.int .i64 p0.Seq))), (.d (.lit (.string (toS p0.Type_)))), (.d (.sl (List.length p0.Vals) (flatD enc_GValue p0.Vals)))]))] (Obx rfl) ?_
  refine Wy (.loc 1 0) [(1, (.box [(.d (.lit (.int .i64 p1.Time))), (.d (.lit (.int .i64 p1.Source))), (.d (.lit (.int .i64 p1.Seq))), (.d (.lit (.string (toS p1.Type_)))), (.d (.sl (List.length p1.Vals) (flatD enc_GValue p1.Vals)))]))] (Obx rfl) ?_
  refine Wy (.d (.lit (.bool false))) [] (Omv rfl) ?_
  refine Walk.nil ?_
  refine Then.normal ?_
  refine Amk 12 3 ⟨(tp 2 ((.loc 0 0) :: ((.loc 1 0) :: (tp 26 [])))), [(.box [(.d (.lit (.int .i64 p0.Time))), (.d (.lit (.int .i64 p0.Source))), (.d (.lit (.int .i64 p0.Seq))), (.d (.lit (.string (toS p0.Type_)))), (.d (.sl (List.length p0.Vals) (flatD enc_GValue p0.Vals)))]), (.box [(.d (.lit (.int .i64 p1.Time))), (.d (.lit (.int .i64 p1.Source))), (.d (.lit (.int .i64 p1.Seq))), (.d (.lit (.string (toS p1.Type_)))), (.d (.sl (List.length p1.Vals) (flatD enc_GValue p1.Vals)))])], 0⟩ ?_
  refine AWP.seq ?_
  refine AWP.seq ?_
  refine AWP.text ?_
  refine Wy (.loc 0 0) [] (Ofa rfl) ?_
  refine Wy (.d (.lit (.int .i64 p0.Time))) [] (Old rfl) ?_
  refine Wy (.loc 1 0) [] (Ofa rfl) ?_
  refine Wy (.d (.lit (.int .i64 p1.Time))) [] (Old rfl) ?_
  refine Wy (.d (.lit (.bool (decide (p0.Time ≠ p1.Time))))) [] (Obn rfl (fun _ => hb_neq (k := .i64))) ?_
  refine Walk.nil ?_
  refine Then.normal ?_
  refine Amk 524 3 ⟨(tp 2 ((.loc 0 0) :: ((.loc 1 0) :: (tp 5 ((.d (.lit (.bool (decide (p0.Time ≠ p1.Time))))) :: (tp 20 [])))))), [(.box [(.d (.lit (.int .i64 p0.Time))), (.d (.lit (.int .i64 p0.Source))), (.d (.lit (.int .i64 p0.Seq))), (.d (.lit (.string (toS p0.Type_)))), (.d (.sl (List.length p0.Vals) (flatD enc_GValue p0.Vals)))]), (.box [(.d (.lit (.int .i64 p1.Time))), (.d (.lit (.int .i64 p1.Source))), (.d (.lit (.int .i64 p1.Seq))), (.d (.lit (.string (toS p1.Type_)))), (.d (.sl (List.length p1.Vals) (flatD enc_GValue p1.Vals)))])], 0⟩ ?_
  rcases tf_ (decide (p0.Time ≠ p1.Time)) with hc9_0 | hc9_0
  · replace hm := cT hc9_0 hm
    refine AWP.if_ true (Eq.trans (by kernel_rfl) (lit_tf (b := decide (p0.Time ≠ p1.Time)) hc9_0)) ?_
    refine AWP.seq ?_
    refine AWP.text ?_
    refine Wy (.loc 0 0) [] (Ofa rfl) ?_
    refine Wy (.d (.lit (.int .i64 p0.Time))) [] (Old rfl) ?_
    refine Wy (.loc 1 0) [] (Ofa rfl) ?_
    refine Wy (.d (.lit (.int .i64 p1.Time))) [] (Old rfl) ?_
    refine Wy (.d (.lit (.bool (decide (p0.Time < p1.Time))))) [] (Obn rfl (fun _ => hb_lss (k := .i64))) ?_
    refine Wy (.d (.lit (.bool (decide (p0.Time < p1.Time))))) [] (Omv rfl) ?_
    refine Walk.nil ?_
    refine Then.normal ?_
    refine AWP.ret ?_
    refine Then.ret ?_
    obtain rfl := Option.some.inj hm
    exact ret_i []
  · replace hm := cF hc9_0 hm
    refine AWP.if_ false (Eq.trans (by kernel_rfl) (lit_tf (b := decide (p0.Time ≠ p1.Time)) hc9_0)) ?_
    refine AWP.skip ?_
    refine Then.normal ?_
    refine Amk 12 3 ⟨(tp 2 ((.loc 0 0) :: ((.loc 1 0) :: (tp 26 [])))), [(.box [(.d (.lit (.int .i64 p0.Time))), (.d (.lit (.int .i64 p0.Source))), (.d (.lit (.int .i64 p0.Seq))), (.d (.lit (.string (toS p0.Type_)))), (.d (.sl (List.length p0.Vals) (flatD enc_GValue p0.Vals)))]), (.box [(.d (.lit (.int .i64 p1.Time))), (.d (.lit (.int .i64 p1.Source))), (.d (.lit (.int .i64 p1.Seq))), (.d (.lit (.string (toS p1.Type_)))), (.d (.sl (List.length p1.Vals) (flatD enc_GValue p1.Vals)))])], 0⟩ ?_
    refine AWP.seq ?_
    refine AWP.seq ?_
    refine AWP.text ?_
    refine Wy (.loc 0 1) [] (Ofa rfl) ?_
    refine Wy (.d (.lit (.int .i64 p0.Source))) [] (Old rfl) ?_
    refine Wy (.loc 1 1) [] (Ofa rfl) ?_
    refine Wy (.d (.lit (.int .i64 p1.Source))) [] (Old rfl) ?_
    refine Wy (.d (.lit (.bool (decide (p0.Source ≠ p1.Source))))) [] (Obn rfl (fun _ => hb_neq (k := .i64))) ?_
    refine Walk.nil ?_
    refine Then.normal ?_
    refine Amk 524300 3 ⟨(tp 2 ((.loc 0 0) :: ((.loc 1 0) :: (tp 15 ((.d (.lit (.bool (decide (p0.Source ≠ p1.Source))))) :: (tp 10 [])))))), [(.box [(.d (.lit (.int .i64 p0.Time))), (.d (.lit (.int .i64 p0.Source))), (.d (.lit (.int .i64 p0.Seq))), (.d (.lit (.string (toS p0.Type_)))), (.d (.sl (List.length p0.Vals) (flatD enc_GValue p0.Vals)))]), (.box [(.d (.lit (.int .i64 p1.Time))), (.d (.lit (.int .i64 p1.Source))), (.d (.lit (.int .i64 p1.Seq))), (.d (.lit (.string (toS p1.Type_)))), (.d (.sl (List.length p1.Vals) (flatD enc_GValue p1.Vals)))])], 0⟩ ?_
    rcases tf_ (decide (p0.Source ≠ p1.Source)) with hc19_1 | hc19_1
    · replace hm := cT hc19_1 hm
      refine AWP.if_ true (Eq.trans (by kernel_rfl) (lit_tf (b := decide (p0.Source ≠ p1.Source)) hc19_1)) ?_
      refine AWP.seq ?_
      refine AWP.text ?_
      refine Wy (.loc 0 1) [] (Ofa rfl) ?_
      refine Wy (.d (.lit (.int .i64 p0.Source))) [] (Old rfl) ?_
      refine Wy (.loc 1 1) [] (Ofa rfl) ?_
      refine Wy (.d (.lit (.int .i64 p1.Source))) [] (Old rfl) ?_
      refine Wy (.d (.lit (.bool (decide (p0.Source < p1.Source))))) [] (Obn rfl (fun _ => hb_lss (k := .i64))) ?_
      refine Wy (.d (.lit (.bool (decide (p0.Source < p1.Source))))) [] (Omv rfl) ?_
      refine Walk.nil ?_
      refine Then.normal ?_
      refine AWP.ret ?_
      refine Then.ret ?_
      obtain rfl := Option.some.inj hm
      exact ret_i []
    · replace hm := cF hc19_1 hm
      refine AWP.if_ false (Eq.trans (by kernel_rfl) (lit_tf (b := decide (p0.Source ≠ p1.Source)) hc19_1)) ?_
      refine AWP.skip ?_
      refine Then.normal ?_
      refine Amk 12 3 ⟨(tp 2 ((.loc 0 0) :: ((.loc 1 0) :: (tp 26 [])))), [(.box [(.d (.lit (.int .i64 p0.Time))), (.d (.lit (.int .i64 p0.Source))), (.d (.lit (.int .i64 p0.Seq))), (.d (.lit (.string (toS p0.Type_)))), (.d (.sl (List.length p0.Vals) (flatD enc_GValue p0.Vals)))]), (.box [(.d (.lit (.int .i64 p1.Time))), (.d (.lit (.int .i64 p1.Source))), (.d (.lit (.int .i64 p1.Seq))), (.d (.lit (.string (toS p1.Type_)))), (.d (.sl (List.length p1.Vals) (flatD enc_GValue p1.Vals)))])], 0⟩ ?_
      refine AWP.seq ?_
      refine AWP.text ?_
      refine Wy (.loc 0 2) [] (Ofa rfl) ?_
      refine Wy (.d (.lit (.int .i64 p0.Seq))) [] (Old rfl) ?_
      refine Wy (.loc 1 2) [] (Ofa rfl) ?_
      refine Wy (.d (.lit (.int .i64 p1.Seq))) [] (Old rfl) ?_
      refine Wy (.d (.lit (.bool (decide (p0.Seq < p1.Seq))))) [] (Obn rfl (fun _ => hb_lss (k := .i64))) ?_
      refine Wy (.d (.lit (.bool (decide (p0.Seq < p1.Seq))))) [] (Omv rfl) ?_
      refine Walk.nil ?_
      refine Then.normal ?_
      refine AWP.ret ?_
      obtain rfl := Option.some.inj hm
      exact ret_i []

set_option maxRecDepth 20000 in
set_option maxHeartbeats 4000000 in
theorem ok_telltaleref07_Into (p0 : (List GEvent)) (p1 : GEvent) (r : (List GEvent)) (h : m_telltaleref07_Into p0 p1 = some r) : GCall Try.prog 37 [(.d (.sl (List.length p0) (flatD enc_GEvent p0))), (.agg [(.d (.lit (.int .i64 p1.Time))), (.d (.lit (.int .i64 p1.Source))), (.d (.lit (.int .i64 p1.Seq))), (.d (.lit (.string (toS p1.Type_)))), (.d (.sl (List.length p1.Vals) (flatD enc_GValue p1.Vals)))])] [] (.own 0) [(.arr 38 5 (List.length r) (flatD enc_GEvent r))] := by
  refine GCall.of_body (n := 36) (rs := [(.tmp 4)]) Try.func37 rfl rfl rfl ?_
  refine Ato ⟨((.d (.sl (List.length p0) (flatD enc_GEvent p0))) :: ((.agg [(.d (.lit (.int .i64 p1.Time))), (.d (.lit (.int .i64 p1.Source))), (.d (.lit (.int .i64 p1.Seq))), (.d (.lit (.string (toS p1.Type_)))), (.d (.sl (List.length p1.Vals) (flatD enc_GValue p1.Vals)))]) :: (tu 34 []))), [], 0⟩ ?_
  have hm := h
  unfold m_telltaleref07_Into at hm
  refine AWP.seq ?_
  refine AWP.text ?_
  refine Wy (.loc 0 0) [(0, (.box [(.d (.lit (.int .i64 p1.Time))), (.d (.lit (.int .i64 p1.Source))), (.d (.lit (.int .i64 p1.Seq))), (.d (.lit (.string (toS p1.Type_)))), (.d (.sl (List.length p1.Vals) (flatD enc_GValue p1.Vals)))]))] (Obx rfl) ?_
  refine Wy (.d .nil) [] (Omv rfl) ?_
  refine Walk.nil ?_
  refine Then.normal ?_
  refine Amk 9 1 ⟨((.d (.sl (List.length p0) (flatD enc_GEvent p0))) :: (tp 2 ((.loc 0 0) :: (tp 32 [])))), [(.box [(.d (.lit (.int .i64 p1.Time))), (.d (.lit (.int .i64 p1.Source))), (.d (.lit (.int .i64 p1.Seq))), (.d (.lit (.string (toS p1.Type_)))), (.d (.sl (List.length p1.Vals) (flatD enc_GValue p1.Vals)))])], 0⟩ ?_
  refine AWP.seq ?_
  refine AWP.text ?_
  refine Wy (.d .nil) [] (Omv rfl) ?_
  refine Walk.nil ?_
  refine Then.normal ?_
  refine Amk 41 1 ⟨((.d (.sl (List.length p0) (flatD enc_GEvent p0))) :: (tp 2 ((.loc 0 0) :: (tp 1 ((.d .nil) :: (tp 30 [])))))), [(.box [(.d (.lit (.int .i64 p1.Time))), (.d (.lit (.int .i64 p1.Source))), (.d (.lit (.int .i64 p1.Seq))), (.d (.lit (.string (toS p1.Type_)))), (.d (.sl (List.length p1.Vals) (flatD enc_GValue p1.Vals)))])], 0⟩ ?_
  refine AWP.seq ?_
  refine AWP.text ?_
  refine Wy (.d (.lit (.int .i64 0))) [] (Omv rfl) ?_
  refine Walk.nil ?_
  refine Then.normal ?_
  refine Amk 105 1 ⟨((.d (.sl (List.length p0) (flatD enc_GEvent p0))) :: (tp 2 ((.loc 0 0) :: (tp 1 ((.d .nil) :: ((.d (.lit (.int .i64 0))) :: (tp 29 []))))))), [(.box [(.d (.lit (.int .i64 p1.Time))), (.d (.lit (.int .i64 p1.Source))), (.d (.lit (.int .i64 p1.Seq))), (.d (.lit (.string (toS p1.Type_)))), (.d (.sl (List.length p1.Vals) (flatD enc_GValue p1.Vals)))])], 0⟩ ?_
  refine AWP.cutJ (α := Int) (fun x => match x with | y6_2 => (⟨((.d (.sl (List.length p0) (flatD enc_GEvent p0))) :: (tp 2 ((.loc 0 0) :: (tp 1 ((.d .nil) :: ((.d (.lit (.int .i64 y6_2))) :: (tp 29 []))))))), [(.box [(.d (.lit (.int .i64 p1.Time))), (.d (.lit (.int .i64 p1.Source))), (.d (.lit (.int .i64 p1.Seq))), (.d (.lit (.string (toS p1.Type_)))), (.d (.sl (List.length p1.Vals) (flatD enc_GValue p1.Vals)))])], 0⟩ : St)) (fun x => match x with | y6_2 => m_telltaleref07_Into_j2 p0 p1 y6_2 = some r) ?_ (fun J2 => ?_)
  · rintro y6_2 hm
    try dsimp only at hm ⊢
    unfold m_telltaleref07_Into_j2 at hm
    refine AWP.seq ?_
    refine AWP.text ?_
    refine Wy (.d .nil) [] (Omv rfl) ?_
    refine Wy (.d (.sl (List.length p0) (flatD enc_GEvent p0))) [] (Omv rfl) ?_
    refine Wy (.d (.lit (.int .i64 y6_2))) [] (Omv rfl) ?_
    obtain ⟨s25_3, hs25_3, hm⟩ := bnd hm; obtain ⟨hs25_3a, hs25_3b, hs25_3c, hs25_3d, hs25_3e⟩ := cut_some hs25_3
    refine Wy (.d (.sl (List.length s25_3) (flatD enc_GEvent s25_3))) [] (op_cut rfl (e := 38) (sz := 5) (by kernel_rfl) (l := p0) (enc := enc_GEvent) (by kernel_rfl) enc_GEvent_len (a := (Int.toNat 0)) (b := (Int.toNat y6_2)) (by exact rfl) (⟨.i64, y6_2, by kernel_rfl, hs25_3b⟩) hs25_3c hs25_3d hs25_3e) ?_
    obtain ⟨a26_3, ha26_3, hm⟩ := bnd hm; obtain ⟨ha26_3e, ha26_3l⟩ := app_some ha26_3
    refine Wy (.own 1) [(1, (.arr 38 5 (List.length a26_3) (flatD enc_GEvent a26_3)))] (Oan rfl elemOK_30 enc_GEvent_len ha26_3e ha26_3l) ?_
    refine Wy (.own 1) [] (Omv rfl) ?_
    refine Walk.nil ?_
    refine Then.normal ?_
    refine Amk 105 3 ⟨((.d (.sl (List.length p0) (flatD enc_GEvent p0))) :: (tp 2 ((.loc 0 0) :: (tp 1 ((.own 1) :: ((.d (.lit (.int .i64 y6_2))) :: (tp 29 []))))))), [(.box [(.d (.lit (.int .i64 p1.Time))), (.d (.lit (.int .i64 p1.Source))), (.d (.lit (.int .i64 p1.Seq))), (.d (.lit (.string (toS p1.Type_)))), (.d (.sl (List.length p1.Vals) (flatD enc_GValue p1.Vals)))]), (.arr 38 5 (List.length a26_3) (flatD enc_GEvent a26_3))], 0⟩ ?_
    refine AWP.seq ?_
    refine AWP.text ?_
    refine Wy (.own 1) [] (Omv rfl) ?_
    refine Wy (.agg [(.d (.lit (.int .i64 p1.Time))), (.d (.lit (.int .i64 p1.Source))), (.d (.lit (.int .i64 p1.Seq))), (.d (.lit (.string (toS p1.Type_)))), (.d (.sl (List.length p1.Vals) (flatD enc_GValue p1.Vals)))]) [] (Old rfl) ?_
    refine Wy (.own 2) [(2, (.arr 38 5 (List.length ([p1] : List GEvent)) (flatD enc_GEvent ([p1] : List GEvent))))] (Obs rfl) ?_
    obtain ⟨a30_4, ha30_4, hm⟩ := bnd hm; obtain ⟨ha30_4e, ha30_4l⟩ := app_some ha30_4
    refine Wy (.own 3) [(1, .gone), (3, (.arr 38 5 (List.length a30_4) (flatD enc_GEvent a30_4)))] (Oap rfl elemOK_30 enc_GEvent_len ha30_4e ha30_4l) ?_
    refine Wy (.own 3) [] (Omv rfl) ?_
    refine Walk.nil ?_
    refine Then.normal ?_
    refine Amk 97 8 ⟨((.d (.sl (List.length p0) (flatD enc_GEvent p0))) :: (tp 4 ((.own 3) :: ((.d (.lit (.int .i64 y6_2))) :: (tp 29 []))))), [.gone, .gone, .gone, (.arr 38 5 (List.length a30_4) (flatD enc_GEvent a30_4))], 0⟩ ?_
    refine AWP.seq ?_
    refine AWP.text ?_
    refine Wy (.own 3) [] (Omv rfl) ?_
    refine Wy (.d (.sl (List.length p0) (flatD enc_GEvent p0))) [] (Omv rfl) ?_
    refine Wy (.d (.lit (.int .i64 y6_2))) [] (Omv rfl) ?_
    obtain ⟨s34_5, hs34_5, hm⟩ := bnd hm; obtain ⟨hs34_5a, hs34_5b, hs34_5c, hs34_5d, hs34_5e⟩ := cut_some hs34_5
    refine Wy (.d (.sl (List.length s34_5) (flatD enc_GEvent s34_5))) [] (op_cut rfl (e := 38) (sz := 5) (by kernel_rfl) (l := p0) (enc := enc_GEvent) (by kernel_rfl) enc_GEvent_len (a := (Int.toNat y6_2)) (b := (Int.toNat ((List.length p0 : Nat) : Int))) (⟨.i64, y6_2, by kernel_rfl, hs34_5a⟩) (by exact rfl) hs34_5c hs34_5d hs34_5e) ?_
    obtain ⟨a35_5, ha35_5, hm⟩ := bnd hm; obtain ⟨ha35_5e, ha35_5l⟩ := app_some ha35_5
    refine Wy (.own 4) [(3, .gone), (4, (.arr 38 5 (List.length a35_5) (flatD enc_GEvent a35_5)))] (Oap rfl elemOK_30 enc_GEvent_len ha35_5e ha35_5l) ?_
    refine Wy (.own 4) [] (Omv rfl) ?_
    refine Walk.nil ?_
    refine Then.normal ?_
    refine AWP.ret ?_
    obtain rfl := Option.some.inj hm
    exact ret_i [4]
  refine AWP.seq ?_
  refine AWP.block ?_
  refine AWP.loopI (α := Nat × Int)
    (fun x => match x with | (fu_0, y6_0) => (⟨((.d (.sl (List.length p0) (flatD enc_GEvent p0))) :: (tp 2 ((.loc 0 0) :: (tp 1 ((.d .nil) :: ((.d (.lit (.int .i64 y6_0))) :: (tp 29 []))))))), [(.box [(.d (.lit (.int .i64 p1.Time))), (.d (.lit (.int .i64 p1.Source))), (.d (.lit (.int .i64 p1.Seq))), (.d (.lit (.string (toS p1.Type_)))), (.d (.sl (List.length p1.Vals) (flatD enc_GValue p1.Vals)))])], 0⟩ : St))
    (fun x => match x with | (fu_0, y6_0) => m_telltaleref07_Into_l0 p0 p1 fu_0 y6_0 = some r)
    (fun x => match x with | (fu_0, y6_0) => fu_0) (1152921504606846976, 0)
    (Weak.toK 105 0 0 [0]) hm ?_
  rintro ⟨fu_0, y6_0⟩ n_0 hm ih_0
  try dsimp only at hm ih_0 ⊢
  cases fu_0 with
  | zero => exact absurd hm (by unfold m_telltaleref07_Into_l0; simp)
  | succ fu_0 =>
    unfold m_telltaleref07_Into_l0 at hm
    refine AWP.seq ?_
    refine AWP.seq ?_
    refine Adr ?_
    refine Wy (.d (.lit (.int .i64 y6_0))) [] (Omv rfl) ?_
    refine Wy (.d (.sl (List.length p0) (flatD enc_GEvent p0))) [] (Omv rfl) ?_
    refine Wy (.d (.lit (.int .i64 ((List.length p0 : Nat) : Int)))) [] (Oln rfl) ?_
    refine Wy (.d (.lit (.bool (decide (y6_0 < ((List.length p0 : Nat) : Int)))))) [] (Obn rfl (fun _ => hb_lss (k := .i64))) ?_
    rcases tf_ (decide (y6_0 < ((List.length p0 : Nat) : Int))) with hq11_1 | hq11_1
    · replace hm := cT hq11_1 hm
      refine Wy (.d (.lit (.bool true))) [] (Ocs (lit_tf (b := decide (y6_0 < ((List.length p0 : Nat) : Int))) hq11_1) (Omv rfl)) ?_
      refine Wy (.agg [(.d (.lit (.int .i64 p1.Time))), (.d (.lit (.int .i64 p1.Source))), (.d (.lit (.int .i64 p1.Seq))), (.d (.lit (.string (toS p1.Type_)))), (.d (.sl (List.length p1.Vals) (flatD enc_GValue p1.Vals)))]) [] (Old rfl) ?_
      refine Wy (.d (.sl (List.length p0) (flatD enc_GEvent p0))) [] (Omv rfl) ?_
      refine Wy (.d (.lit (.int .i64 y6_0))) [] (Omv rfl) ?_
      obtain ⟨x15_1, hx15_1, hm⟩ := bnd hm
      obtain ⟨hx15_1i, hx15_1g⟩ := geti_some hx15_1
      refine Wy (.d (.ref (List.drop ((Int.toNat y6_0) * 5) (flatD enc_GEvent p0)))) [] (Oia rfl enc_GEvent_len hx15_1i hx15_1g) ?_
      refine Wy (.agg [(.d (.lit (.int .i64 x15_1.Time))), (.d (.lit (.int .i64 x15_1.Source))), (.d (.lit (.int .i64 x15_1.Seq))), (.d (.lit (.string (toS x15_1.Type_)))), (.d (.sl (List.length x15_1.Vals) (flatD enc_GValue x15_1.Vals)))]) [] (Lf rfl enc_GEvent_len hx15_1g) ?_
      obtain ⟨r17_1, hr17_1, hm⟩ := bnd hm
      refine Wy (.d (.lit (.bool r17_1))) [] (Ocf [] [] [] 0 (ok_telltaleref07_Less p1 x15_1 r17_1 hr17_1) (fun a w => Try.call36 a w) rfl trivial) ?_
      refine Wy (.d (.lit (.bool (!r17_1)))) [] (Ocs (by kernel_rfl) (op_un rfl (a1 := .bool r17_1) (by kernel_rfl) (fun _ => hu_not))) ?_
      refine Wy (.d (.lit (.bool (!r17_1)))) [] (OpT rfl) ?_
      refine Wdr ?_
      refine Then.normal ?_
      refine Amk 524393 1 ⟨((.d (.sl (List.length p0) (flatD enc_GEvent p0))) :: (tp 2 ((.loc 0 0) :: (tp 1 ((.d .nil) :: ((.d (.lit (.int .i64 y6_0))) :: (tp 12 ((.d (.lit (.bool (!r17_1)))) :: (tp 16 []))))))))), [(.box [(.d (.lit (.int .i64 p1.Time))), (.d (.lit (.int .i64 p1.Source))), (.d (.lit (.int .i64 p1.Seq))), (.d (.lit (.string (toS p1.Type_)))), (.d (.sl (List.length p1.Vals) (flatD enc_GValue p1.Vals)))])], 0⟩ ?_
      rcases tf_ (!r17_1) with hc19_6 | hc19_6
      · replace hm := cT hc19_6 hm
        refine AWP.if_ true (Eq.trans (by kernel_rfl) (lit_tf (b := (!r17_1)) hc19_6)) ?_
        refine AWP.skip ?_
        refine Then.normal ?_
        refine Amk 105 1 ⟨((.d (.sl (List.length p0) (flatD enc_GEvent p0))) :: (tp 2 ((.loc 0 0) :: (tp 1 ((.d .nil) :: ((.d (.lit (.int .i64 y6_0))) :: (tp 29 []))))))), [(.box [(.d (.lit (.int .i64 p1.Time))), (.d (.lit (.int .i64 p1.Source))), (.d (.lit (.int .i64 p1.Seq))), (.d (.lit (.string (toS p1.Type_)))), (.d (.sl (List.length p1.Vals) (flatD enc_GValue p1.Vals)))])], 0⟩ ?_
        refine AWP.block ?_
        refine AWP.text ?_
        refine Wy (.d (.lit (.int .i64 y6_0))) [] (Omv rfl) ?_
        refine Wy (.d (.lit (.int .i64 (IntKind.i64.wrap (y6_0 + 1))))) [] (Obn rfl (fun _ => hb_add (k := .i64))) ?_
        refine Wy (.d (.lit (.int .i64 (IntKind.i64.wrap (y6_0 + 1))))) [] (Omv rfl) ?_
        refine Walk.nil ?_
        refine InBlock.normal ?_
        refine RoundK.normal ?_
        exact Rounds.weak (Weak.toK 105 0 0 [0]) (ih_0 (fu_0, (IntKind.i64.wrap (y6_0 + 1))) hm (Nat.lt_succ_self _))
      · replace hm := cF hc19_6 hm
        refine AWP.if_ false (Eq.trans (by kernel_rfl) (lit_tf (b := (!r17_1)) hc19_6)) ?_
        refine AWP.exit ?_
        refine Then.exit ?_
        refine RoundK.exit ?_
        refine InBlock.same ?_
        refine Then.normal ?_
        exact AWP.weak (Weak.toK 105 0 0 [0]) (J2 (y6_0) hm)
    · replace hm := cF hq11_1 hm
      refine Wy (.d (.lit (.bool false))) [] (Ocs (lit_tf (b := decide (y6_0 < ((List.length p0 : Nat) : Int))) hq11_1) (Omv rfl)) ?_
      refine Wn ?_
      refine Wn ?_
      refine Wn ?_
      refine Wn ?_
      refine Wn ?_
      refine Wn ?_
      refine Wn ?_
      refine Wy (.d (.lit (.bool false))) [] (OpF rfl) ?_
      refine Wdr ?_
      refine Then.normal ?_
      refine Amk 524393 1 ⟨((.d (.sl (List.length p0) (flatD enc_GEvent p0))) :: (tp 2 ((.loc 0 0) :: (tp 1 ((.d .nil) :: ((.d (.lit (.int .i64 y6_0))) :: (tp 12 ((.d (.lit (.bool false))) :: (tp 16 []))))))))), [(.box [(.d (.lit (.int .i64 p1.Time))), (.d (.lit (.int .i64 p1.Source))), (.d (.lit (.int .i64 p1.Seq))), (.d (.lit (.string (toS p1.Type_)))), (.d (.sl (List.length p1.Vals) (flatD enc_GValue p1.Vals)))])], 0⟩ ?_
      refine AWP.if_ false (by kernel_rfl) ?_
      refine AWP.exit ?_
      refine Then.exit ?_
      refine RoundK.exit ?_
      refine InBlock.same ?_
      refine Then.normal ?_
      exact AWP.weak (Weak.toK 105 0 0 [0]) (J2 (y6_0) hm)

set_option maxRecDepth 20000 in
set_option maxHeartbeats 4000000 in
theorem ok_telltaleref24_Put (p0 : GSorter) (p1 : GEvent) (r : (GSorter × Int)) (h : m_telltaleref24_Put p0 p1 = some r) : GCall Try.prog 17 [(.agg [(.d (.lit (.int .i64 p0.Cap))), (.d (.sl (List.length p0.L) (flatD enc_GEvent p0.L)))]), (.agg [(.d (.lit (.int .i64 p1.Time))), (.d (.lit (.int .i64 p1.Source))), (.d (.lit (.int .i64 p1.Seq))), (.d (.lit (.string (toS p1.Type_)))), (.d (.sl (List.length p1.Vals) (flatD enc_GValue p1.Vals)))])] [] (.tup [(.agg [(.d (.lit (.int .i64 r.1.Cap))), (.d (.sl (List.length r.1.L) (flatD enc_GEvent r.1.L)))]), (.d (.lit (.int .i64 r.2)))]) [] := by
  refine GCall.of_body (n := 47) (rs := [(.cell 4 32), (.tmp 5)]) Try.func17 rfl rfl rfl ?_
  refine Ato ⟨((.agg [(.d (.lit (.int .i64 p0.Cap))), (.d (.sl (List.length p0.L) (flatD enc_GEvent p0.L)))]) :: ((.agg [(.d (.lit (.int .i64 p1.Time))), (.d (.lit (.int .i64 p1.Source))), (.d (.lit (.int .i64 p1.Seq))), (.d (.lit (.string (toS p1.Type_)))), (.d (.sl (List.length p1.Vals) (flatD enc_GValue p1.Vals)))]) :: (tu 45 []))), [], 0⟩ ?_
  have hm := h
  unfold m_telltaleref24_Put at hm
  refine AWP.seq ?_
  refine AWP.text ?_
  refine Wy (.loc 0 0) [(0, (.box [(.d (.lit (.int .i64 p0.Cap))), (.d (.sl (List.length p0.L) (flatD enc_GEvent p0.L)))]))] (Obx rfl) ?_
  refine Wy (.loc 1 0) [(1, (.box [(.d (.lit (.int .i64 p1.Time))), (.d (.lit (.int .i64 p1.Source))), (.d (.lit (.int .i64 p1.Seq))), (.d (.lit (.string (toS p1.Type_)))), (.d (.sl (List.length p1.Vals) (flatD enc_GValue p1.Vals)))]))] (Obx rfl) ?_
  refine Wy (.loc 2 0) [(2, (.box [(.d (.lit (.int .i64 0))), (.d .nil)]))] (Oal rfl) ?_
  refine Wy (.d (.lit (.int .i64 0))) [] (Omv rfl) ?_
  refine Walk.nil ?_
  refine Then.normal ?_
  refine Amk 28 7 ⟨(tp 2 ((.loc 0 0) :: ((.loc 1 0) :: ((.loc 2 0) :: (tp 42 []))))), [(.box [(.d (.lit (.int .i64 p0.Cap))), (.d (.sl (List.length p0.L) (flatD enc_GEvent p0.L)))]), (.box [(.d (.lit (.int .i64 p1.Time))), (.d (.lit (.int .i64 p1.Source))), (.d (.lit (.int .i64 p1.Seq))), (.d (.lit (.string (toS p1.Type_)))), (.d (.sl (List.length p1.Vals) (flatD enc_GValue p1.Vals)))]), (.box [(.d (.lit (.int .i64 0))), (.d .nil)])], 0⟩ ?_
  refine AWP.seq ?_
  refine AWP.seq ?_
  refine AWP.text ?_
  refine Wy (.d (.lit (.int .i64 0))) [] (Omv rfl) ?_
  refine Walk.nil ?_
  refine Then.normal ?_
  refine Amk 92 7 ⟨(tp 2 ((.loc 0 0) :: ((.loc 1 0) :: ((.loc 2 0) :: (tp 1 ((.d (.lit (.int .i64 0))) :: (tp 40 []))))))), [(.box [(.d (.lit (.int .i64 p0.Cap))), (.d (.sl (List.length p0.L) (flatD enc_GEvent p0.L)))]), (.box [(.d (.lit (.int .i64 p1.Time))), (.d (.lit (.int .i64 p1.Source))), (.d (.lit (.int .i64 p1.Seq))), (.d (.lit (.string (toS p1.Type_)))), (.d (.sl (List.length p1.Vals) (flatD enc_GValue p1.Vals)))]), (.box [(.d (.lit (.int .i64 0))), (.d .nil)])], 0⟩ ?_
  refine AWP.block ?_
  refine AWP.loopI (α := Nat × Int)
    (fun x => match x with | (fu_0, y6_0) => (⟨(tp 2 ((.loc 0 0) :: ((.loc 1 0) :: ((.loc 2 0) :: (tp 1 ((.d (.lit (.int .i64 y6_0))) :: (tp 40 []))))))), [(.box [(.d (.lit (.int .i64 p0.Cap))), (.d (.sl (List.length p0.L) (flatD enc_GEvent p0.L)))]), (.box [(.d (.lit (.int .i64 p1.Time))), (.d (.lit (.int .i64 p1.Source))), (.d (.lit (.int .i64 p1.Seq))), (.d (.lit (.string (toS p1.Type_)))), (.d (.sl (List.length p1.Vals) (flatD enc_GValue p1.Vals)))]), (.box [(.d (.lit (.int .i64 0))), (.d .nil)])], 0⟩ : St))
    (fun x => match x with | (fu_0, y6_0) => m_telltaleref24_Put_l0 p0 p1 fu_0 y6_0 = some r)
    (fun x => match x with | (fu_0, y6_0) => fu_0) (1152921504606846976, 0)
    (Weak.toK 92 0 0 [0, 1, 2]) hm ?_
  rintro ⟨fu_0, y6_0⟩ n_0 hm ih_0
  try dsimp only at hm ih_0 ⊢
  cases fu_0 with
  | zero => exact absurd hm (by unfold m_telltaleref24_Put_l0; simp)
  | succ fu_0 =>
    unfold m_telltaleref24_Put_l0 at hm
    refine AWP.seq ?_
    refine AWP.seq ?_
    refine AWP.text ?_
    refine Wy (.d (.lit (.int .i64 y6_0))) [] (Omv rfl) ?_
    refine Wy (.loc 0 1) [] (Ofa rfl) ?_
    refine Wy (.d (.sl (List.length p0.L) (flatD enc_GEvent p0.L))) [] (Old rfl) ?_
    refine Wy (.d (.lit (.int .i64 ((List.length p0.L : Nat) : Int)))) [] (Oln rfl) ?_
    refine Wy (.d (.lit (.bool (decide (y6_0 < ((List.length p0.L : Nat) : Int)))))) [] (Obn rfl (fun _ => hb_lss (k := .i64))) ?_
    refine Walk.nil ?_
    refine Then.normal ?_
    refine Amk 2140 7 ⟨(tp 2 ((.loc 0 0) :: ((.loc 1 0) :: ((.loc 2 0) :: (tp 1 ((.d (.lit (.int .i64 y6_0))) :: (tp 4 ((.d (.lit (.bool (decide (y6_0 < ((List.length p0.L : Nat) : Int)))))) :: (tp 35 []))))))))), [(.box [(.d (.lit (.int .i64 p0.Cap))), (.d (.sl (List.length p0.L) (flatD enc_GEvent p0.L)))]), (.box [(.d (.lit (.int .i64 p1.Time))), (.d (.lit (.int .i64 p1.Source))), (.d (.lit (.int .i64 p1.Seq))), (.d (.lit (.string (toS p1.Type_)))), (.d (.sl (List.length p1.Vals) (flatD enc_GValue p1.Vals)))]), (.box [(.d (.lit (.int .i64 0))), (.d .nil)])], 0⟩ ?_
    rcases tf_ (decide (y6_0 < ((List.length p0.L : Nat) : Int))) with hc11_5 | hc11_5
    · replace hm := cT hc11_5 hm
      refine AWP.if_ true (Eq.trans (by kernel_rfl) (lit_tf (b := decide (y6_0 < ((List.length p0.L : Nat) : Int))) hc11_5)) ?_
      refine AWP.skip ?_
      refine Then.normal ?_
      refine Amk 92 7 ⟨(tp 2 ((.loc 0 0) :: ((.loc 1 0) :: ((.loc 2 0) :: (tp 1 ((.d (.lit (.int .i64 y6_0))) :: (tp 40 []))))))), [(.box [(.d (.lit (.int .i64 p0.Cap))), (.d (.sl (List.length p0.L) (flatD enc_GEvent p0.L)))]), (.box [(.d (.lit (.int .i64 p1.Time))), (.d (.lit (.int .i64 p1.Source))), (.d (.lit (.int .i64 p1.Seq))), (.d (.lit (.string (toS p1.Type_)))), (.d (.sl (List.length p1.Vals) (flatD enc_GValue p1.Vals)))]), (.box [(.d (.lit (.int .i64 0))), (.d .nil)])], 0⟩ ?_
      refine AWP.seq ?_
      refine AWP.block ?_
      refine AWP.seq ?_
      refine Adr ?_
      refine Wy (.loc 0 1) [] (Ofa rfl) ?_
      refine Wy (.d (.sl (List.length p0.L) (flatD enc_GEvent p0.L))) [] (Old rfl) ?_
      refine Wy (.d (.lit (.int .i64 y6_0))) [] (Omv rfl) ?_
      obtain ⟨x17_2, hx17_2, hm⟩ := bnd hm
      obtain ⟨hx17_2i, hx17_2g⟩ := geti_some hx17_2
      refine Wy (.d (.ref (List.drop ((Int.toNat y6_0) * 5) (flatD enc_GEvent p0.L)))) [] (Oia rfl enc_GEvent_len hx17_2i hx17_2g) ?_
      refine Wy (.agg [(.d (.lit (.int .i64 x17_2.Time))), (.d (.lit (.int .i64 x17_2.Source))), (.d (.lit (.int .i64 x17_2.Seq))), (.d (.lit (.string (toS x17_2.Type_)))), (.d (.sl (List.length x17_2.Vals) (flatD enc_GValue x17_2.Vals)))]) [] (Lf rfl enc_GEvent_len hx17_2g) ?_
      refine Wy (.agg [(.d (.lit (.int .i64 p1.Time))), (.d (.lit (.int .i64 p1.Source))), (.d (.lit (.int .i64 p1.Seq))), (.d (.lit (.string (toS p1.Type_)))), (.d (.sl (List.length p1.Vals) (flatD enc_GValue p1.Vals)))]) [] (Old rfl) ?_
      obtain ⟨r20_2, hr20_2, hm⟩ := bnd hm
      refine Wy (.d (.lit (.bool r20_2))) [] (Ocf [] [] [] 0 (ok_telltaleref07_Less x17_2 p1 r20_2 hr20_2) (fun a w => Try.call36 a w) rfl trivial) ?_
      refine Wy (.d (.lit (.bool (!r20_2)))) [] (Ocs (by kernel_rfl) (op_un rfl (a1 := .bool r20_2) (by kernel_rfl) (fun _ => hu_not))) ?_
      rcases tf_ (!r20_2) with hq22_2 | hq22_2
      · replace hm := cT hq22_2 hm
        refine Wy (.d (.lit (.bool true))) [] (Ocs (lit_tf (b := (!r20_2)) hq22_2) (Omv rfl)) ?_
        refine Wy (.agg [(.d (.lit (.int .i64 p1.Time))), (.d (.lit (.int .i64 p1.Source))), (.d (.lit (.int .i64 p1.Seq))), (.d (.lit (.string (toS p1.Type_)))), (.d (.sl (List.length p1.Vals) (flatD enc_GValue p1.Vals)))]) [] (Old rfl) ?_
        refine Wy (.loc 0 1) [] (Ofa rfl) ?_
        refine Wy (.d (.sl (List.length p0.L) (flatD enc_GEvent p0.L))) [] (Old rfl) ?_
        refine Wy (.d (.lit (.int .i64 y6_0))) [] (Omv rfl) ?_
        obtain ⟨x27_2, hx27_2, hm⟩ := bnd hm
        obtain ⟨hx27_2i, hx27_2g⟩ := geti_some hx27_2
        refine Wy (.d (.ref (List.drop ((Int.toNat y6_0) * 5) (flatD enc_GEvent p0.L)))) [] (Oia rfl enc_GEvent_len hx27_2i hx27_2g) ?_
        refine Wy (.agg [(.d (.lit (.int .i64 x27_2.Time))), (.d (.lit (.int .i64 x27_2.Source))), (.d (.lit (.int .i64 x27_2.Seq))), (.d (.lit (.string (toS x27_2.Type_)))), (.d (.sl (List.length x27_2.Vals) (flatD enc_GValue x27_2.Vals)))]) [] (Lf rfl enc_GEvent_len hx27_2g) ?_
        obtain ⟨r29_2, hr29_2, hm⟩ := bnd hm
        refine Wy (.d (.lit (.bool r29_2))) [] (Ocf [] [] [] 0 (ok_telltaleref07_Less p1 x27_2 r29_2 hr29_2) (fun a w => Try.call36 a w) rfl trivial) ?_
        refine Wy (.d (.lit (.bool (!r29_2)))) [] (Ocs (by kernel_rfl) (op_un rfl (a1 := .bool r29_2) (by kernel_rfl) (fun _ => hu_not))) ?_
        refine Wy (.d (.lit (.bool (!r29_2)))) [] (OpT rfl) ?_
        refine Wdr ?_
        refine Then.normal ?_
        refine Amk 2147483740 7 ⟨(tp 2 ((.loc 0 0) :: ((.loc 1 0) :: ((.loc 2 0) :: (tp 1 ((.d (.lit (.int .i64 y6_0))) :: (tp 24 ((.d (.lit (.bool (!r29_2)))) :: (tp 15 []))))))))), [(.box [(.d (.lit (.int .i64 p0.Cap))), (.d (.sl (List.length p0.L) (flatD enc_GEvent p0.L)))]), (.box [(.d (.lit (.int .i64 p1.Time))), (.d (.lit (.int .i64 p1.Source))), (.d (.lit (.int .i64 p1.Seq))), (.d (.lit (.string (toS p1.Type_)))), (.d (.sl (List.length p1.Vals) (flatD enc_GValue p1.Vals)))]), (.box [(.d (.lit (.int .i64 0))), (.d .nil)])], 0⟩ ?_
        rcases tf_ (!r29_2) with hc31_6 | hc31_6
        · replace hm := cT hc31_6 hm
          refine AWP.if_ true (Eq.trans (by kernel_rfl) (lit_tf (b := (!r29_2)) hc31_6)) ?_
          refine AWP.seq ?_
          refine AWP.text ?_
          refine Wy (.agg [(.d (.lit (.int .i64 p0.Cap))), (.d (.sl (List.length p0.L) (flatD enc_GEvent p0.L)))]) [] (Old rfl) ?_
          refine Wy (.tup []) [(2, (.box [(.d (.lit (.int .i64 p0.Cap))), (.d (.sl (List.length p0.L) (flatD enc_GEvent p0.L)))]))] (Ost rfl) ?_
          refine Wy (.d (.lit (.int .i64 12))) [] (Omv rfl) ?_
          refine Walk.nil ?_
          refine Then.normal ?_
          refine AWP.ret ?_
          refine InBlock.ret ?_
          refine Then.ret ?_
          refine RoundK.ret ?_
          refine InBlock.ret ?_
          refine Then.ret ?_
          obtain rfl := Option.some.inj hm
          exact ret_i []
        · replace hm := cF hc31_6 hm
          refine AWP.if_ false (Eq.trans (by kernel_rfl) (lit_tf (b := (!r29_2)) hc31_6)) ?_
          refine AWP.skip ?_
          refine InBlock.normal ?_
          refine Then.normal ?_
          refine Amk 92 7 ⟨(tp 2 ((.loc 0 0) :: ((.loc 1 0) :: ((.loc 2 0) :: (tp 1 ((.d (.lit (.int .i64 y6_0))) :: (tp 40 []))))))), [(.box [(.d (.lit (.int .i64 p0.Cap))), (.d (.sl (List.length p0.L) (flatD enc_GEvent p0.L)))]), (.box [(.d (.lit (.int .i64 p1.Time))), (.d (.lit (.int .i64 p1.Source))), (.d (.lit (.int .i64 p1.Seq))), (.d (.lit (.string (toS p1.Type_)))), (.d (.sl (List.length p1.Vals) (flatD enc_GValue p1.Vals)))]), (.box [(.d (.lit (.int .i64 0))), (.d .nil)])], 0⟩ ?_
          refine AWP.text ?_
          refine Wy (.d (.lit (.int .i64 y6_0))) [] (Omv rfl) ?_
          refine Wy (.d (.lit (.int .i64 (IntKind.i64.wrap (y6_0 + 1))))) [] (Obn rfl (fun _ => hb_add (k := .i64))) ?_
          refine Wy (.d (.lit (.int .i64 (IntKind.i64.wrap (y6_0 + 1))))) [] (Omv rfl) ?_
          refine Walk.nil ?_
          refine RoundK.normal ?_
          exact Rounds.weak (Weak.toK 92 0 0 [0, 1, 2]) (ih_0 (fu_0, (IntKind.i64.wrap (y6_0 + 1))) hm (Nat.lt_succ_self _))
      · replace hm := cF hq22_2 hm
        refine Wy (.d (.lit (.bool false))) [] (Ocs (lit_tf (b := (!r20_2)) hq22_2) (Omv rfl)) ?_
        refine Wn ?_
        refine Wn ?_
        refine Wn ?_
        refine Wn ?_
        refine Wn ?_
        refine Wn ?_
        refine Wn ?_
        refine Wn ?_
        refine Wy (.d (.lit (.bool false))) [] (OpF rfl) ?_
        refine Wdr ?_
        refine Then.normal ?_
        refine Amk 2147483740 7 ⟨(tp 2 ((.loc 0 0) :: ((.loc 1 0) :: ((.loc 2 0) :: (tp 1 ((.d (.lit (.int .i64 y6_0))) :: (tp 24 ((.d (.lit (.bool false))) :: (tp 15 []))))))))), [(.box [(.d (.lit (.int .i64 p0.Cap))), (.d (.sl (List.length p0.L) (flatD enc_GEvent p0.L)))]), (.box [(.d (.lit (.int .i64 p1.Time))), (.d (.lit (.int .i64 p1.Source))), (.d (.lit (.int .i64 p1.Seq))), (.d (.lit (.string (toS p1.Type_)))), (.d (.sl (List.length p1.Vals) (flatD enc_GValue p1.Vals)))]), (.box [(.d (.lit (.int .i64 0))), (.d .nil)])], 0⟩ ?_
        refine AWP.if_ false (by kernel_rfl) ?_
        refine AWP.skip ?_
        refine InBlock.normal ?_
        refine Then.normal ?_
        refine Amk 92 7 ⟨(tp 2 ((.loc 0 0) :: ((.loc 1 0) :: ((.loc 2 0) :: (tp 1 ((.d (.lit (.int .i64 y6_0))) :: (tp 40 []))))))), [(.box [(.d (.lit (.int .i64 p0.Cap))), (.d (.sl (List.length p0.L) (flatD enc_GEvent p0.L)))]), (.box [(.d (.lit (.int .i64 p1.Time))), (.d (.lit (.int .i64 p1.Source))), (.d (.lit (.int .i64 p1.Seq))), (.d (.lit (.string (toS p1.Type_)))), (.d (.sl (List.length p1.Vals) (flatD enc_GValue p1.Vals)))]), (.box [(.d (.lit (.int .i64 0))), (.d .nil)])], 0⟩ ?_
        refine AWP.text ?_
        refine Wy (.d (.lit (.int .i64 y6_0))) [] (Omv rfl) ?_
        refine Wy (.d (.lit (.int .i64 (IntKind.i64.wrap (y6_0 + 1))))) [] (Obn rfl (fun _ => hb_add (k := .i64))) ?_
        refine Wy (.d (.lit (.int .i64 (IntKind.i64.wrap (y6_0 + 1))))) [] (Omv rfl) ?_
        refine Walk.nil ?_
        refine RoundK.normal ?_
        exact Rounds.weak (Weak.toK 92 0 0 [0, 1, 2]) (ih_0 (fu_0, (IntKind.i64.wrap (y6_0 + 1))) hm (Nat.lt_succ_self _))
    · replace hm := cF hc11_5 hm
      refine AWP.if_ false (Eq.trans (by kernel_rfl) (lit_tf (b := decide (y6_0 < ((List.length p0.L : Nat) : Int))) hc11_5)) ?_
      refine AWP.exit ?_
      refine Then.exit ?_
      refine RoundK.exit ?_
      refine InBlock.same ?_
      refine Then.normal ?_
      refine Amk 28 7 ⟨(tp 2 ((.loc 0 0) :: ((.loc 1 0) :: ((.loc 2 0) :: (tp 42 []))))), [(.box [(.d (.lit (.int .i64 p0.Cap))), (.d (.sl (List.length p0.L) (flatD enc_GEvent p0.L)))]), (.box [(.d (.lit (.int .i64 p1.Time))), (.d (.lit (.int .i64 p1.Source))), (.d (.lit (.int .i64 p1.Seq))), (.d (.lit (.string (toS p1.Type_)))), (.d (.sl (List.length p1.Vals) (flatD enc_GValue p1.Vals)))]), (.box [(.d (.lit (.int .i64 0))), (.d .nil)])], 0⟩ ?_
      refine AWP.seq ?_
      refine AWP.seq ?_
      refine AWP.text ?_
      refine Wy (.loc 0 1) [] (Ofa rfl) ?_
      refine Wy (.d (.sl (List.length p0.L) (flatD enc_GEvent p0.L))) [] (Old rfl) ?_
      refine Wy (.d (.lit (.int .i64 ((List.length p0.L : Nat) : Int)))) [] (Oln rfl) ?_
      refine Wy (.loc 0 0) [] (Ofa rfl) ?_
      refine Wy (.d (.lit (.int .i64 p0.Cap))) [] (Old rfl) ?_
      refine Wy (.d (.lit (.bool (decide (p0.Cap ≤ ((List.length p0.L : Nat) : Int)))))) [] (Obn rfl (fun _ => hb_geq (k := .i64))) ?_
      refine Walk.nil ?_
      refine Then.normal ?_
      refine Amk 274877906972 7 ⟨(tp 2 ((.loc 0 0) :: ((.loc 1 0) :: ((.loc 2 0) :: (tp 33 ((.d (.lit (.bool (decide (p0.Cap ≤ ((List.length p0.L : Nat) : Int)))))) :: (tp 8 []))))))), [(.box [(.d (.lit (.int .i64 p0.Cap))), (.d (.sl (List.length p0.L) (flatD enc_GEvent p0.L)))]), (.box [(.d (.lit (.int .i64 p1.Time))), (.d (.lit (.int .i64 p1.Source))), (.d (.lit (.int .i64 p1.Seq))), (.d (.lit (.string (toS p1.Type_)))), (.d (.sl (List.length p1.Vals) (flatD enc_GValue p1.Vals)))]), (.box [(.d (.lit (.int .i64 0))), (.d .nil)])], 0⟩ ?_
      rcases tf_ (decide (p0.Cap ≤ ((List.length p0.L : Nat) : Int))) with hc38_7 | hc38_7
      · replace hm := cT hc38_7 hm
        refine AWP.if_ true (Eq.trans (by kernel_rfl) (lit_tf (b := decide (p0.Cap ≤ ((List.length p0.L : Nat) : Int))) hc38_7)) ?_
        refine AWP.seq ?_
        refine AWP.text ?_
        refine Wy (.agg [(.d (.lit (.int .i64 p0.Cap))), (.d (.sl (List.length p0.L) (flatD enc_GEvent p0.L)))]) [] (Old rfl) ?_
        refine Wy (.tup []) [(2, (.box [(.d (.lit (.int .i64 p0.Cap))), (.d (.sl (List.length p0.L) (flatD enc_GEvent p0.L)))]))] (Ost rfl) ?_
        refine Wy (.d (.lit (.int .i64 7))) [] (Omv rfl) ?_
        refine Walk.nil ?_
        refine Then.normal ?_
        refine AWP.ret ?_
        refine Then.ret ?_
        obtain rfl := Option.some.inj hm
        exact ret_i []
      · replace hm := cF hc38_7 hm
        refine AWP.if_ false (Eq.trans (by kernel_rfl) (lit_tf (b := decide (p0.Cap ≤ ((List.length p0.L : Nat) : Int))) hc38_7)) ?_
        refine AWP.skip ?_
        refine Then.normal ?_
        refine Amk 28 7 ⟨(tp 2 ((.loc 0 0) :: ((.loc 1 0) :: ((.loc 2 0) :: (tp 42 []))))), [(.box [(.d (.lit (.int .i64 p0.Cap))), (.d (.sl (List.length p0.L) (flatD enc_GEvent p0.L)))]), (.box [(.d (.lit (.int .i64 p1.Time))), (.d (.lit (.int .i64 p1.Source))), (.d (.lit (.int .i64 p1.Seq))), (.d (.lit (.string (toS p1.Type_)))), (.d (.sl (List.length p1.Vals) (flatD enc_GValue p1.Vals)))]), (.box [(.d (.lit (.int .i64 0))), (.d .nil)])], 0⟩ ?_
        refine AWP.seq ?_
        refine Adr ?_
        refine Wy (.loc 0 0) [] (Ofa rfl) ?_
        refine Wy (.d (.lit (.int .i64 p0.Cap))) [] (Old rfl) ?_
        refine Wy (.loc 0 1) [] (Ofa rfl) ?_
        refine Wy (.d (.sl (List.length p0.L) (flatD enc_GEvent p0.L))) [] (Old rfl) ?_
        refine Wy (.agg [(.d (.lit (.int .i64 p1.Time))), (.d (.lit (.int .i64 p1.Source))), (.d (.lit (.int .i64 p1.Seq))), (.d (.lit (.string (toS p1.Type_)))), (.d (.sl (List.length p1.Vals) (flatD enc_GValue p1.Vals)))]) [] (Old rfl) ?_
        obtain ⟨r45_4, hr45_4, hm⟩ := bnd hm
        refine Wy (.own 3) [(3, (.arr 38 5 (List.length r45_4) (flatD enc_GEvent r45_4)))] (Ocf [] [3] [] 0 (ok_telltaleref07_Into p0.L p1 r45_4 hr45_4) (fun a w => Try.call37 a w) rfl trivial) ?_
        refine Wy (.agg [(.d (.lit (.int .i64 p0.Cap))), (.own 3)]) [] (Obd rfl) ?_
        refine Wy (.tup []) [(2, (.box [(.d (.lit (.int .i64 p0.Cap))), (.own 3)]))] (Ost rfl) ?_
        refine Wy (.d (.lit (.int .i64 0))) [] (Omv rfl) ?_
        refine Wdr ?_
        refine Then.normal ?_
        refine Afz [3] ⟨(tp 2 ((.loc 0 0) :: ((.loc 1 0) :: ((.loc 2 0) :: ((.d (.lit (.int .i64 0))) :: (tp 34 ((.loc 0 0) :: ((.d (.lit (.int .i64 p0.Cap))) :: ((.loc 0 1) :: ((.d (.sl (List.length p0.L) (flatD enc_GEvent p0.L))) :: ((.agg [(.d (.lit (.int .i64 p1.Time))), (.d (.lit (.int .i64 p1.Source))), (.d (.lit (.int .i64 p1.Seq))), (.d (.lit (.string (toS p1.Type_)))), (.d (.sl (List.length p1.Vals) (flatD enc_GValue p1.Vals)))]) :: ((.d (.sl (List.length r45_4) (flatD enc_GEvent r45_4))) :: ((.agg [(.d (.lit (.int .i64 p0.Cap))), (.d (.sl (List.length r45_4) (flatD enc_GEvent r45_4)))]) :: []))))))))))))), [(.box [(.d (.lit (.int .i64 p0.Cap))), (.d (.sl (List.length p0.L) (flatD enc_GEvent p0.L)))]), (.box [(.d (.lit (.int .i64 p1.Time))), (.d (.lit (.int .i64 p1.Source))), (.d (.lit (.int .i64 p1.Seq))), (.d (.lit (.string (toS p1.Type_)))), (.d (.sl (List.length p1.Vals) (flatD enc_GValue p1.Vals)))]), (.box [(.d (.lit (.int .i64 p0.Cap))), (.d (.sl (List.length r45_4) (flatD enc_GEvent r45_4)))]), (.fro 38 5 (List.length r45_4) (flatD enc_GEvent r45_4))], 0⟩ ?_
        refine AWP.ret ?_
        obtain rfl := Option.some.inj hm
        exact ret_i []

set_option maxRecDepth 20000 in
set_option maxHeartbeats 4000000 in
theorem ok_telltaleref24_Least (p0 : GSorter) (r : (Int × Bool)) (h : m_telltaleref24_Least p0 = some r) : GCall Try.prog 19 [(.agg [(.d (.lit (.int .i64 p0.Cap))), (.d (.sl (List.length p0.L) (flatD enc_GEvent p0.L)))])] [] (.tup [(.d (.lit (.int .i64 r.1))), (.d (.lit (.bool r.2)))]) [] := by
  refine GCall.of_body (n := 13) (rs := [(.tmp 2), (.tmp 3)]) Try.func19 rfl rfl rfl ?_
  refine Ato ⟨((.agg [(.d (.lit (.int .i64 p0.Cap))), (.d (.sl (List.length p0.L) (flatD enc_GEvent p0.L)))]) :: (tu 12 [])), [], 0⟩ ?_
  have hm := h
  unfold m_telltaleref24_Least at hm
  refine AWP.seq ?_
  refine AWP.text ?_
  refine Wy (.loc 0 0) [(0, (.box [(.d (.lit (.int .i64 p0.Cap))), (.d (.sl (List.length p0.L) (flatD enc_GEvent p0.L)))]))] (Obx rfl) ?_
  refine Wy (.d (.lit (.int .i64 0))) [] (Omv rfl) ?_
  refine Wy (.d (.lit (.bool false))) [] (Omv rfl) ?_
  refine Walk.nil ?_
  refine Then.normal ?_
  refine Amk 2 1 ⟨(tp 1 ((.loc 0 0) :: (tp 11 []))), [(.box [(.d (.lit (.int .i64 p0.Cap))), (.d (.sl (List.length p0.L) (flatD enc_GEvent p0.L)))])], 0⟩ ?_
  refine AWP.seq ?_
  refine AWP.seq ?_
  refine AWP.text ?_
  refine Wy (.loc 0 1) [] (Ofa rfl) ?_
  refine Wy (.d (.sl (List.length p0.L) (flatD enc_GEvent p0.L))) [] (Old rfl) ?_
  refine Wy (.d (.lit (.int .i64 ((List.length p0.L : Nat) : Int)))) [] (Oln rfl) ?_
  refine Wy (.d (.lit (.bool (decide (((List.length p0.L : Nat) : Int) = 0))))) [] (Obn rfl (fun _ => hb_eql (k := .i64))) ?_
  refine Walk.nil ?_
  refine Then.normal ?_
  refine Amk 130 1 ⟨(tp 1 ((.loc 0 0) :: (tp 5 ((.d (.lit (.bool (decide (((List.length p0.L : Nat) : Int) = 0))))) :: (tp 5 []))))), [(.box [(.d (.lit (.int .i64 p0.Cap))), (.d (.sl (List.length p0.L) (flatD enc_GEvent p0.L)))])], 0⟩ ?_
  rcases tf_ (decide (((List.length p0.L : Nat) : Int) = 0)) with hc7_2 | hc7_2
  · replace hm := cT hc7_2 hm
    refine AWP.if_ true (Eq.trans (by kernel_rfl) (lit_tf (b := decide (((List.length p0.L : Nat) : Int) = 0)) hc7_2)) ?_
    refine AWP.seq ?_
    refine AWP.text ?_
    refine Wy (.d (.lit (.int .i64 0))) [] (Omv rfl) ?_
    refine Wy (.d (.lit (.bool false))) [] (Omv rfl) ?_
    refine Walk.nil ?_
    refine Then.normal ?_
    refine AWP.ret ?_
    refine Then.ret ?_
    obtain rfl := Option.some.inj hm
    exact ret_i []
  · replace hm := cF hc7_2 hm
    refine AWP.if_ false (Eq.trans (by kernel_rfl) (lit_tf (b := decide (((List.length p0.L : Nat) : Int) = 0)) hc7_2)) ?_
    refine AWP.skip ?_
    refine Then.normal ?_
    refine Amk 2 1 ⟨(tp 1 ((.loc 0 0) :: (tp 11 []))), [(.box [(.d (.lit (.int .i64 p0.Cap))), (.d (.sl (List.length p0.L) (flatD enc_GEvent p0.L)))])], 0⟩ ?_
    refine AWP.seq ?_
    refine AWP.text ?_
    refine Wy (.loc 0 1) [] (Ofa rfl) ?_
    refine Wy (.d (.sl (List.length p0.L) (flatD enc_GEvent p0.L))) [] (Old rfl) ?_
    obtain ⟨x10_1, hx10_1, hm⟩ := bnd hm
    obtain ⟨hx10_1i, hx10_1g⟩ := geti_some hx10_1
    refine Wy (.d (.ref (List.drop ((Int.toNat 0) * 5) (flatD enc_GEvent p0.L)))) [] (Oia rfl enc_GEvent_len hx10_1i hx10_1g) ?_
    refine Wy (.d (.ref (List.drop ((Int.toNat 0) * 5) (flatD enc_GEvent p0.L)))) [] (Ofa rfl) ?_
    refine Wy (.d (.lit (.int .i64 x10_1.Time))) [] (Lf1 rfl enc_GEvent_len hx10_1g) ?_
    refine Wy (.d (.lit (.int .i64 x10_1.Time))) [] (Omv rfl) ?_
    refine Wy (.d (.lit (.bool true))) [] (Omv rfl) ?_
    refine Walk.nil ?_
    refine Then.normal ?_
    refine AWP.ret ?_
    obtain rfl := Option.some.inj hm
    exact ret_i []
end Go.Proofs.Ytanahlngkociaaa.K
