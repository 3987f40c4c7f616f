/- each function computes what its model says (0) -/
import Derived.Test.YthcilaomjkaciaaLM
namespace Go.Proofs.Ythcilaomjkaciaa.K
open Go.RowKit Go.Lib
set_option linter.unusedVariables false
set_option linter.unusedSimpArgs false

set_option maxRecDepth 20000 in
set_option maxHeartbeats 4000000 in
theorem ok_telltalelaw26_Over (p0 : (List GChange)) (r : Int) (h : m_telltalelaw26_Over p0 = some r) : GCall Try.prog 5 [(.d (.sl (List.length p0) (flatD enc_GChange p0)))] [] (.d (.lit (.int .i64 r))) [] := by
  refine GCall.of_body (n := 27) (rs := [(.tmp 2)]) Try.func5 rfl rfl rfl ?_
  refine Ato ⟨((.d (.sl (List.length p0) (flatD enc_GChange p0))) :: (tu 26 [])), [], 0⟩ ?_
  have hm := h
  unfold m_telltalelaw26_Over at hm
  refine AWP.seq ?_
  refine AWP.text ?_
  refine Wy (.d (.lit (.int .i64 0))) [] (Omv rfl) ?_
  refine Walk.nil ?_
  refine Then.normal ?_
  refine Amk 1 0 ⟨((.d (.sl (List.length p0) (flatD enc_GChange p0))) :: (tp 26 [])), [], 0⟩ ?_
  refine AWP.seq ?_
  refine AWP.seq ?_
  refine AWP.text ?_
  refine Wy (.d (.sl (List.length p0) (flatD enc_GChange p0))) [] (Omv rfl) ?_
  refine Wy (.d (.lit (.int .i64 ((List.length p0 : Nat) : Int)))) [] (Oln rfl) ?_
  refine Wy (.d (.lit (.bool (decide ((40 : Int) < ((List.length p0 : Nat) : Int)))))) [] (Obn rfl (fun _ => hb_gtr (k := .i64))) ?_
  refine Walk.nil ?_
  refine Then.normal ?_
  refine Amk 65 0 ⟨((.d (.sl (List.length p0) (flatD enc_GChange p0))) :: (tp 5 ((.d (.lit (.bool (decide ((40 : Int) < ((List.length p0 : Nat) : Int)))))) :: (tp 20 [])))), [], 0⟩ ?_
  rcases tf_ (decide ((40 : Int) < ((List.length p0 : Nat) : Int))) with hc6_4 | hc6_4
  · replace hm := cT hc6_4 hm
    refine AWP.if_ true (Eq.trans (by kernel_rfl) (lit_tf (b := decide ((40 : Int) < ((List.length p0 : Nat) : Int))) hc6_4)) ?_
    refine AWP.seq ?_
    refine AWP.text ?_
    refine Wy (.d (.lit (.int .i64 1))) [] (Omv rfl) ?_
    refine Walk.nil ?_
    refine Then.normal ?_
    refine AWP.ret ?_
    refine Then.ret ?_
    obtain rfl := Option.some.inj hm
    exact ret_i []
  · replace hm := cF hc6_4 hm
    refine AWP.if_ false (Eq.trans (by kernel_rfl) (lit_tf (b := decide ((40 : Int) < ((List.length p0 : Nat) : Int))) hc6_4)) ?_
    refine AWP.skip ?_
    refine Then.normal ?_
    refine Amk 1 0 ⟨((.d (.sl (List.length p0) (flatD enc_GChange p0))) :: (tp 26 [])), [], 0⟩ ?_
    refine AWP.seq ?_
    refine AWP.seq ?_
    refine AWP.text ?_
    refine Wy (.d (.lit (.int .i64 0))) [] (Omv rfl) ?_
    refine Walk.nil ?_
    refine Then.normal ?_
    refine Amk 9 0 ⟨((.d (.sl (List.length p0) (flatD enc_GChange p0))) :: (tp 2 ((.d (.lit (.int .i64 0))) :: (tp 23 [])))), [], 0⟩ ?_
    refine AWP.block ?_
    refine AWP.loopI (α := Nat × Int)
      (fun x => match x with | (fu_1, y3_1) => (⟨((.d (.sl (List.length p0) (flatD enc_GChange p0))) :: (tp 2 ((.d (.lit (.int .i64 y3_1))) :: (tp 23 [])))), [], 0⟩ : St))
      (fun x => match x with | (fu_1, y3_1) => m_telltalelaw26_Over_l1 p0 fu_1 y3_1 = some r)
      (fun x => match x with | (fu_1, y3_1) => fu_1) (1152921504606846976, 0)
      (Weak.toK 9 0 0 []) hm ?_
    rintro ⟨fu_1, y3_1⟩ n_1 hm ih_1
    try dsimp only at hm ih_1 ⊢
    cases fu_1 with
    | zero => exact absurd hm (by unfold m_telltalelaw26_Over_l1; simp)
    | succ fu_1 =>
      unfold m_telltalelaw26_Over_l1 at hm
      refine AWP.seq ?_
      refine AWP.seq ?_
      refine AWP.text ?_
      refine Wy (.d (.lit (.int .i64 y3_1))) [] (Omv rfl) ?_
      refine Wy (.d (.sl (List.length p0) (flatD enc_GChange p0))) [] (Omv rfl) ?_
      refine Wy (.d (.lit (.int .i64 ((List.length p0 : Nat) : Int)))) [] (Oln rfl) ?_
      refine Wy (.d (.lit (.bool (decide (y3_1 < ((List.length p0 : Nat) : Int)))))) [] (Obn rfl (fun _ => hb_lss (k := .i64))) ?_
      refine Walk.nil ?_
      refine Then.normal ?_
      refine Amk 1033 0 ⟨((.d (.sl (List.length p0) (flatD enc_GChange p0))) :: (tp 2 ((.d (.lit (.int .i64 y3_1))) :: (tp 6 ((.d (.lit (.bool (decide (y3_1 < ((List.length p0 : Nat) : Int)))))) :: (tp 16 [])))))), [], 0⟩ ?_
      rcases tf_ (decide (y3_1 < ((List.length p0 : Nat) : Int))) with hc10_5 | hc10_5
      · replace hm := cT hc10_5 hm
        refine AWP.if_ true (Eq.trans (by kernel_rfl) (lit_tf (b := decide (y3_1 < ((List.length p0 : Nat) : Int))) hc10_5)) ?_
        refine AWP.skip ?_
        refine Then.normal ?_
        refine Amk 9 0 ⟨((.d (.sl (List.length p0) (flatD enc_GChange p0))) :: (tp 2 ((.d (.lit (.int .i64 y3_1))) :: (tp 23 [])))), [], 0⟩ ?_
        refine AWP.seq ?_
        refine AWP.block ?_
        refine AWP.seq ?_
        refine AWP.text ?_
        refine Wy (.d (.sl (List.length p0) (flatD enc_GChange p0))) [] (Omv rfl) ?_
        refine Wy (.d (.lit (.int .i64 y3_1))) [] (Omv rfl) ?_
        obtain ⟨x15_3, hx15_3, hm⟩ := bnd hm
        obtain ⟨hx15_3i, hx15_3g⟩ := geti_some hx15_3
        refine Wy (.d (.ref (List.drop ((Int.toNat y3_1) * 3) (flatD enc_GChange p0)))) [] (Oia rfl enc_GChange_len hx15_3i hx15_3g) ?_
        refine Wy (.d (.ref (List.drop 2 (List.drop ((Int.toNat y3_1) * 3) (flatD enc_GChange p0))))) [] (Ofa rfl) ?_
        refine Wy (.d (.lit (.int .i64 x15_3.N))) [] (Lfk1 2 rfl enc_GChange_len hx15_3g) ?_
        refine Wy (.d (.lit (.bool (decide (x15_3.N < (-1099511627776)))))) [] (Obn rfl (fun _ => hb_lss (k := .i64))) ?_
        rcases tf_ (decide (x15_3.N < (-1099511627776))) with hq19_3 | hq19_3
        · replace hm := cT hq19_3 hm
          refine Wy (.d (.lit (.bool true))) [] (Ocs (lit_tf (b := decide (x15_3.N < (-1099511627776))) hq19_3) (Omv rfl)) ?_
          refine Wn ?_
          refine Wn ?_
          refine Wn ?_
          refine Wn ?_
          refine Wn ?_
          refine Wn ?_
          refine Wy (.d (.lit (.bool true))) [] (OpT rfl) ?_
          refine Walk.nil ?_
          refine Then.normal ?_
          refine Amk 67108873 0 ⟨((.d (.sl (List.length p0) (flatD enc_GChange p0))) :: (tp 2 ((.d (.lit (.int .i64 y3_1))) :: (tp 22 ((.d (.lit (.bool true))) :: []))))), [], 0⟩ ?_
          refine AWP.if_ true (by kernel_rfl) ?_
          refine AWP.seq ?_
          refine AWP.text ?_
          refine Wy (.d (.lit (.int .i64 1))) [] (Omv rfl) ?_
          refine Walk.nil ?_
          refine Then.normal ?_
          refine AWP.ret ?_
          refine InBlock.ret ?_
          refine Then.ret ?_
          refine RoundK.ret ?_
          refine InBlock.ret ?_
          refine Then.ret ?_
          obtain rfl := Option.some.inj hm
          exact ret_i []
        · replace hm := cF hq19_3 hm
          refine Wy (.d (.lit (.bool false))) [] (Ocs (lit_tf (b := decide (x15_3.N < (-1099511627776))) hq19_3) (Omv rfl)) ?_
          refine Wy (.d (.sl (List.length p0) (flatD enc_GChange p0))) [] (Omv rfl) ?_
          refine Wy (.d (.lit (.int .i64 y3_1))) [] (Omv rfl) ?_
          obtain ⟨x22_3, hx22_3, hm⟩ := bnd hm
          obtain ⟨hx22_3i, hx22_3g⟩ := geti_some hx22_3
          refine Wy (.d (.ref (List.drop ((Int.toNat y3_1) * 3) (flatD enc_GChange p0)))) [] (Oia rfl enc_GChange_len hx22_3i hx22_3g) ?_
          refine Wy (.d (.ref (List.drop 2 (List.drop ((Int.toNat y3_1) * 3) (flatD enc_GChange p0))))) [] (Ofa rfl) ?_
          refine Wy (.d (.lit (.int .i64 x22_3.N))) [] (Lfk1 2 rfl enc_GChange_len hx22_3g) ?_
          refine Wy (.d (.lit (.bool (decide ((1099511627776 : Int) < x22_3.N))))) [] (Obn rfl (fun _ => hb_gtr (k := .i64))) ?_
          refine Wy (.d (.lit (.bool (decide ((1099511627776 : Int) < x22_3.N))))) [] (OpF rfl) ?_
          refine Walk.nil ?_
          refine Then.normal ?_
          refine Amk 67108873 0 ⟨((.d (.sl (List.length p0) (flatD enc_GChange p0))) :: (tp 2 ((.d (.lit (.int .i64 y3_1))) :: (tp 22 ((.d (.lit (.bool (decide ((1099511627776 : Int) < x22_3.N))))) :: []))))), [], 0⟩ ?_
          rcases tf_ (decide ((1099511627776 : Int) < x22_3.N)) with hc26_6 | hc26_6
          · replace hm := cT hc26_6 hm
            refine AWP.if_ true (Eq.trans (by kernel_rfl) (lit_tf (b := decide ((1099511627776 : Int) < x22_3.N)) hc26_6)) ?_
            refine AWP.seq ?_
            refine AWP.text ?_
            refine Wy (.d (.lit (.int .i64 1))) [] (Omv rfl) ?_
            refine Walk.nil ?_
            refine Then.normal ?_
            refine AWP.ret ?_
            refine InBlock.ret ?_
            refine Then.ret ?_
            refine RoundK.ret ?_
            refine InBlock.ret ?_
            refine Then.ret ?_
            obtain rfl := Option.some.inj hm
            exact ret_i []
          · replace hm := cF hc26_6 hm
            refine AWP.if_ false (Eq.trans (by kernel_rfl) (lit_tf (b := decide ((1099511627776 : Int) < x22_3.N)) hc26_6)) ?_
            refine AWP.skip ?_
            refine InBlock.normal ?_
            refine Then.normal ?_
            refine Amk 9 0 ⟨((.d (.sl (List.length p0) (flatD enc_GChange p0))) :: (tp 2 ((.d (.lit (.int .i64 y3_1))) :: (tp 23 [])))), [], 0⟩ ?_
            refine AWP.text ?_
            refine Wy (.d (.lit (.int .i64 y3_1))) [] (Omv rfl) ?_
            refine Wy (.d (.lit (.int .i64 (IntKind.i64.wrap (y3_1 + 1))))) [] (Obn rfl (fun _ => hb_add (k := .i64))) ?_
            refine Wy (.d (.lit (.int .i64 (IntKind.i64.wrap (y3_1 + 1))))) [] (Omv rfl) ?_
            refine Walk.nil ?_
            refine RoundK.normal ?_
            exact Rounds.weak (Weak.toK 9 0 0 []) (ih_1 (fu_1, (IntKind.i64.wrap (y3_1 + 1))) hm (Nat.lt_succ_self _))
      · replace hm := cF hc10_5 hm
        refine AWP.if_ false (Eq.trans (by kernel_rfl) (lit_tf (b := decide (y3_1 < ((List.length p0 : Nat) : Int))) hc10_5)) ?_
        refine AWP.exit ?_
        refine Then.exit ?_
        refine RoundK.exit ?_
        refine InBlock.same ?_
        refine Then.normal ?_
        refine Amk 0 0 ⟨(tp 27 []), [], 0⟩ ?_
        refine AWP.seq ?_
        refine AWP.text ?_
        refine Wy (.d (.lit (.int .i64 0))) [] (Omv rfl) ?_
        refine Walk.nil ?_
        refine Then.normal ?_
        refine AWP.ret ?_
        obtain rfl := Option.some.inj hm
        exact ret_i []

set_option maxRecDepth 20000 in
set_option maxHeartbeats 4000000 in
theorem ok_cmp_isNaN_int (p0 : Int) (r : Bool) (h : m_cmp_isNaN_int p0 = some r) : GCall Try.prog 34 [(.d (.lit (.int .i64 p0)))] [] (.d (.lit (.bool r))) [] := by
  refine GCall.of_body (n := 6) (rs := [(.tmp 2)]) Try.func34 rfl rfl rfl ?_
  refine Ato ⟨((.d (.lit (.int .i64 p0))) :: (tu 5 [])), [], 0⟩ ?_
  have hm := h
  unfold m_cmp_isNaN_int at hm
  refine AWP.seq ?_
  refine AWP.text ?_
  refine Wy (.d (.lit (.bool false))) [] (Omv rfl) ?_
  refine Walk.nil ?_
  refine Then.normal ?_
  refine Amk 1 0 ⟨((.d (.lit (.int .i64 p0))) :: (tp 5 [])), [], 0⟩ ?_
  refine AWP.seq ?_
  refine AWP.text ?_
  refine Wy (.d (.lit (.int .i64 p0))) [] (Omv rfl) ?_
  refine Wy (.d (.lit (.int .i64 p0))) [] (Omv rfl) ?_
  refine Wy (.d (.lit (.bool (decide (p0 ≠ p0))))) [] (Obn rfl (fun _ => hb_neq (k := .i64))) ?_
  refine Wy (.d (.lit (.bool (decide (p0 ≠ p0))))) [] (Omv rfl) ?_
  refine Walk.nil ?_
  refine Then.normal ?_
  refine AWP.ret ?_
  obtain rfl := Option.some.inj hm
  exact ret_i []

set_option maxRecDepth 20000 in
set_option maxHeartbeats 4000000 in
theorem ok_cmp_Compare_int (p0 : Int) (p1 : Int) (r : Int) (h : m_cmp_Compare_int p0 p1 = some r) : GCall Try.prog 30 [(.d (.lit (.int .i64 p0))), (.d (.lit (.int .i64 p1)))] [] (.d (.lit (.int .i64 r))) [] := by
  refine GCall.of_body (n := 20) (rs := [(.tmp 4)]) Try.func30 rfl rfl rfl ?_
  refine Ato ⟨((.d (.lit (.int .i64 p0))) :: ((.d (.lit (.int .i64 p1))) :: (tu 18 []))), [], 0⟩ ?_
  have hm := h
  unfold m_cmp_Compare_int at hm
  refine AWP.seq ?_
  refine AWP.text ?_
  refine Wy (.d (.lit (.int .i64 0))) [] (Omv rfl) ?_
  refine Walk.nil ?_
  refine Then.normal ?_
  refine Amk 3 0 ⟨((.d (.lit (.int .i64 p0))) :: ((.d (.lit (.int .i64 p1))) :: (tp 18 []))), [], 0⟩ ?_
  refine AWP.seq ?_
  refine AWP.text ?_
  refine Wy (.d (.lit (.int .i64 p0))) [] (Omv rfl) ?_
  obtain ⟨r8_0, hr8_0, hm⟩ := bnd hm
  refine Wy (.d (.lit (.bool r8_0))) [] (Ocf [] [] [] 0 (ok_cmp_isNaN_int p0 r8_0 hr8_0) (fun a w => Try.call34 a w) rfl trivial) ?_
  refine Wy (.d (.lit (.bool r8_0))) [] (Omv rfl) ?_
  refine Walk.nil ?_
  refine Then.normal ?_
  refine Amk 35 0 ⟨((.d (.lit (.int .i64 p0))) :: ((.d (.lit (.int .i64 p1))) :: (tp 3 ((.d (.lit (.bool r8_0))) :: (tp 14 []))))), [], 0⟩ ?_
  refine AWP.seq ?_
  refine AWP.text ?_
  refine Wy (.d (.lit (.int .i64 p1))) [] (Omv rfl) ?_
  obtain ⟨r10_1, hr10_1, hm⟩ := bnd hm
  refine Wy (.d (.lit (.bool r10_1))) [] (Ocf [] [] [] 0 (ok_cmp_isNaN_int p1 r10_1 hr10_1) (fun a w => Try.call34 a w) rfl trivial) ?_
  refine Wy (.d (.lit (.bool r10_1))) [] (Omv rfl) ?_
  refine Walk.nil ?_
  refine Then.normal ?_
  refine Amk 99 0 ⟨((.d (.lit (.int .i64 p0))) :: ((.d (.lit (.int .i64 p1))) :: (tp 3 ((.d (.lit (.bool r8_0))) :: ((.d (.lit (.bool r10_1))) :: (tp 13 [])))))), [], 0⟩ ?_
  refine AWP.seq ?_
  refine AWP.seq ?_
  refine AWP.text ?_
  refine Wy (.d (.lit (.bool r8_0))) [] (Omv rfl) ?_
  refine Walk.nil ?_
  refine Then.normal ?_
  refine Amk 2115 0 ⟨((.d (.lit (.int .i64 p0))) :: ((.d (.lit (.int .i64 p1))) :: (tp 4 ((.d (.lit (.bool r10_1))) :: (tp 4 ((.d (.lit (.bool r8_0))) :: (tp 8 []))))))), [], 0⟩ ?_
  rcases tf_ r8_0 with hc11_2 | hc11_2
  · replace hm := cT hc11_2 hm
    refine AWP.if_ true (Eq.trans (by kernel_rfl) (lit_tf (b := r8_0) hc11_2)) ?_
    refine AWP.seq ?_
    refine AWP.seq ?_
    refine AWP.text ?_
    refine Wy (.d (.lit (.bool r10_1))) [] (Omv rfl) ?_
    refine Walk.nil ?_
    refine Then.normal ?_
    refine Amk 4096 0 ⟨(tp 12 ((.d (.lit (.bool r10_1))) :: (tp 7 []))), [], 0⟩ ?_
    rcases tf_ r10_1 with hc12_3 | hc12_3
    · replace hm := cT hc12_3 hm
      refine AWP.if_ true (Eq.trans (by kernel_rfl) (lit_tf (b := r10_1) hc12_3)) ?_
      refine AWP.seq ?_
      refine AWP.text ?_
      refine Wy (.d (.lit (.int .i64 0))) [] (Omv rfl) ?_
      refine Walk.nil ?_
      refine Then.normal ?_
      refine AWP.ret ?_
      refine Then.ret ?_
      refine Then.ret ?_
      obtain rfl := Option.some.inj hm
      exact ret_i []
    · replace hm := cF hc12_3 hm
      refine AWP.if_ false (Eq.trans (by kernel_rfl) (lit_tf (b := r10_1) hc12_3)) ?_
      refine AWP.skip ?_
      refine Then.normal ?_
      refine Amk 0 0 ⟨(tp 20 []), [], 0⟩ ?_
      refine AWP.seq ?_
      refine AWP.text ?_
      refine Wy (.d (.lit (.int .i64 (-1)))) [] (Omv rfl) ?_
      refine Walk.nil ?_
      refine Then.normal ?_
      refine AWP.ret ?_
      refine Then.ret ?_
      obtain rfl := Option.some.inj hm
      exact ret_i []
  · replace hm := cF hc11_2 hm
    refine AWP.if_ false (Eq.trans (by kernel_rfl) (lit_tf (b := r8_0) hc11_2)) ?_
    refine AWP.skip ?_
    refine Then.normal ?_
    refine Amk 67 0 ⟨((.d (.lit (.int .i64 p0))) :: ((.d (.lit (.int .i64 p1))) :: (tp 4 ((.d (.lit (.bool r10_1))) :: (tp 13 []))))), [], 0⟩ ?_
    refine AWP.seq ?_
    refine AWP.seq ?_
    refine AWP.text ?_
    refine Wy (.d (.lit (.bool r10_1))) [] (Omv rfl) ?_
    refine Walk.nil ?_
    refine Then.normal ?_
    refine Amk 8195 0 ⟨((.d (.lit (.int .i64 p0))) :: ((.d (.lit (.int .i64 p1))) :: (tp 11 ((.d (.lit (.bool r10_1))) :: (tp 6 []))))), [], 0⟩ ?_
    rcases tf_ r10_1 with hc13_4 | hc13_4
    · replace hm := cT hc13_4 hm
      refine AWP.if_ true (Eq.trans (by kernel_rfl) (lit_tf (b := r10_1) hc13_4)) ?_
      refine AWP.seq ?_
      refine AWP.text ?_
      refine Wy (.d (.lit (.int .i64 1))) [] (Omv rfl) ?_
      refine Walk.nil ?_
      refine Then.normal ?_
      refine AWP.ret ?_
      refine Then.ret ?_
      obtain rfl := Option.some.inj hm
      exact ret_i []
    · replace hm := cF hc13_4 hm
      refine AWP.if_ false (Eq.trans (by kernel_rfl) (lit_tf (b := r10_1) hc13_4)) ?_
      refine AWP.skip ?_
      refine Then.normal ?_
      refine Amk 3 0 ⟨((.d (.lit (.int .i64 p0))) :: ((.d (.lit (.int .i64 p1))) :: (tp 18 []))), [], 0⟩ ?_
      refine AWP.seq ?_
      refine AWP.seq ?_
      refine AWP.text ?_
      refine Wy (.d (.lit (.int .i64 p0))) [] (Omv rfl) ?_
      refine Wy (.d (.lit (.int .i64 p1))) [] (Omv rfl) ?_
      refine Wy (.d (.lit (.bool (decide (p0 < p1))))) [] (Obn rfl (fun _ => hb_lss (k := .i64))) ?_
      refine Walk.nil ?_
      refine Then.normal ?_
      refine Amk 65539 0 ⟨((.d (.lit (.int .i64 p0))) :: ((.d (.lit (.int .i64 p1))) :: (tp 14 ((.d (.lit (.bool (decide (p0 < p1))))) :: (tp 3 []))))), [], 0⟩ ?_
      rcases tf_ (decide (p0 < p1)) with hc16_5 | hc16_5
      · replace hm := cT hc16_5 hm
        refine AWP.if_ true (Eq.trans (by kernel_rfl) (lit_tf (b := decide (p0 < p1)) hc16_5)) ?_
        refine AWP.seq ?_
        refine AWP.text ?_
        refine Wy (.d (.lit (.int .i64 (-1)))) [] (Omv rfl) ?_
        refine Walk.nil ?_
        refine Then.normal ?_
        refine AWP.ret ?_
        refine Then.ret ?_
        obtain rfl := Option.some.inj hm
        exact ret_i []
      · replace hm := cF hc16_5 hm
        refine AWP.if_ false (Eq.trans (by kernel_rfl) (lit_tf (b := decide (p0 < p1)) hc16_5)) ?_
        refine AWP.skip ?_
        refine Then.normal ?_
        refine Amk 3 0 ⟨((.d (.lit (.int .i64 p0))) :: ((.d (.lit (.int .i64 p1))) :: (tp 18 []))), [], 0⟩ ?_
        refine AWP.seq ?_
        refine AWP.seq ?_
        refine AWP.text ?_
        refine Wy (.d (.lit (.int .i64 p0))) [] (Omv rfl) ?_
        refine Wy (.d (.lit (.int .i64 p1))) [] (Omv rfl) ?_
        refine Wy (.d (.lit (.bool (decide (p1 < p0))))) [] (Obn rfl (fun _ => hb_gtr (k := .i64))) ?_
        refine Walk.nil ?_
        refine Then.normal ?_
        refine Amk 524288 0 ⟨(tp 19 ((.d (.lit (.bool (decide (p1 < p0))))) :: [])), [], 0⟩ ?_
        rcases tf_ (decide (p1 < p0)) with hc19_6 | hc19_6
        · replace hm := cT hc19_6 hm
          refine AWP.if_ true (Eq.trans (by kernel_rfl) (lit_tf (b := decide (p1 < p0)) hc19_6)) ?_
          refine AWP.seq ?_
          refine AWP.text ?_
          refine Wy (.d (.lit (.int .i64 1))) [] (Omv rfl) ?_
          refine Walk.nil ?_
          refine Then.normal ?_
          refine AWP.ret ?_
          refine Then.ret ?_
          obtain rfl := Option.some.inj hm
          exact ret_i []
        · replace hm := cF hc19_6 hm
          refine AWP.if_ false (Eq.trans (by kernel_rfl) (lit_tf (b := decide (p1 < p0)) hc19_6)) ?_
          refine AWP.skip ?_
          refine Then.normal ?_
          refine Amk 0 0 ⟨(tp 20 []), [], 0⟩ ?_
          refine AWP.seq ?_
          refine AWP.text ?_
          refine Wy (.d (.lit (.int .i64 0))) [] (Omv rfl) ?_
          refine Walk.nil ?_
          refine Then.normal ?_
          refine AWP.ret ?_
          obtain rfl := Option.some.inj hm
          exact ret_i []

set_option maxRecDepth 20000 in
set_option maxHeartbeats 4000000 in
theorem ok_cmp_Or_int (p0 : (List Int)) (r : Int) (h : m_cmp_Or_int p0 = some r) : GCall Try.prog 29 [(.d (.sl (List.length p0) (flatD (encI .i64) p0)))] [] (.d (.lit (.int .i64 r))) [] := by
  refine GCall.of_body (n := 18) (rs := [(.tmp 2)]) Try.func29 rfl rfl rfl ?_
  refine Ato ⟨((.d (.sl (List.length p0) (flatD (encI .i64) p0))) :: (tu 17 [])), [], 0⟩ ?_
  have hm := h
  unfold m_cmp_Or_int at hm
  refine AWP.seq ?_
  refine AWP.text ?_
  refine Wy (.d (.lit (.int .i64 0))) [] (Omv rfl) ?_
  refine Walk.nil ?_
  refine Then.normal ?_
  refine Amk 1 0 ⟨((.d (.sl (List.length p0) (flatD (encI .i64) p0))) :: (tp 17 [])), [], 0⟩ ?_
  refine AWP.seq ?_
  refine AWP.text ?_
  refine Wy (.d (.lit (.int .i64 0))) [] (Omv rfl) ?_
  refine Walk.nil ?_
  refine Then.normal ?_
  refine Amk 9 0 ⟨((.d (.sl (List.length p0) (flatD (encI .i64) p0))) :: (tp 2 ((.d (.lit (.int .i64 0))) :: (tp 14 [])))), [], 0⟩ ?_
  refine AWP.seq ?_
  refine AWP.seq ?_
  refine AWP.text ?_
  refine Wy (.d (.sl (List.length p0) (flatD (encI .i64) p0))) [] (Omv rfl) ?_
  refine Wy (.d (.lit (.int .i64 ((List.length p0 : Nat) : Int)))) [] (Oln rfl) ?_
  refine Wy (.d (.lit (.int .i64 0))) [] (Omv rfl) ?_
  refine Walk.nil ?_
  refine Then.normal ?_
  refine Amk 456 0 ⟨(tp 3 ((.d (.lit (.int .i64 0))) :: (tp 2 ((.d (.sl (List.length p0) (flatD (encI .i64) p0))) :: ((.d (.lit (.int .i64 ((List.length p0 : Nat) : Int)))) :: ((.d (.lit (.int .i64 0))) :: (tp 9 []))))))), [], 0⟩ ?_
  refine AWP.block ?_
  refine AWP.loopI (α := Nat × Int)
    (fun x => match x with | (fu_1, y8_1) => (⟨(tp 3 ((.d (.lit (.int .i64 0))) :: (tp 2 ((.d (.sl (List.length p0) (flatD (encI .i64) p0))) :: ((.d (.lit (.int .i64 ((List.length p0 : Nat) : Int)))) :: ((.d (.lit (.int .i64 y8_1))) :: (tp 9 []))))))), [], 0⟩ : St))
    (fun x => match x with | (fu_1, y8_1) => m_cmp_Or_int_l1 p0 fu_1 y8_1 = some r)
    (fun x => match x with | (fu_1, y8_1) => fu_1) (1152921504606846976, 0)
    (Weak.toK 456 0 0 []) hm ?_
  rintro ⟨fu_1, y8_1⟩ n_1 hm ih_1
  try dsimp only at hm ih_1 ⊢
  cases fu_1 with
  | zero => exact absurd hm (by unfold m_cmp_Or_int_l1; simp)
  | succ fu_1 =>
    unfold m_cmp_Or_int_l1 at hm
    refine AWP.seq ?_
    refine AWP.text ?_
    refine Wy (.d (.lit (.bool (decide (y8_1 < ((List.length p0 : Nat) : Int)))))) [] (Obn rfl (fun _ => hb_lss (k := .i64))) ?_
    refine Walk.nil ?_
    refine Then.normal ?_
    refine Amk 968 0 ⟨(tp 3 ((.d (.lit (.int .i64 0))) :: (tp 2 ((.d (.sl (List.length p0) (flatD (encI .i64) p0))) :: ((.d (.lit (.int .i64 ((List.length p0 : Nat) : Int)))) :: ((.d (.lit (.int .i64 y8_1))) :: ((.d (.lit (.bool (decide (y8_1 < ((List.length p0 : Nat) : Int)))))) :: (tp 8 [])))))))), [], 0⟩ ?_
    refine AWP.seq ?_
    rcases tf_ (decide (y8_1 < ((List.length p0 : Nat) : Int))) with hc9_3 | hc9_3
    · replace hm := cT hc9_3 hm
      refine AWP.if_ true (Eq.trans (by kernel_rfl) (lit_tf (b := decide (y8_1 < ((List.length p0 : Nat) : Int))) hc9_3)) ?_
      refine AWP.skip ?_
      refine Then.normal ?_
      refine Amk 456 0 ⟨(tp 3 ((.d (.lit (.int .i64 0))) :: (tp 2 ((.d (.sl (List.length p0) (flatD (encI .i64) p0))) :: ((.d (.lit (.int .i64 ((List.length p0 : Nat) : Int)))) :: ((.d (.lit (.int .i64 y8_1))) :: (tp 9 []))))))), [], 0⟩ ?_
      refine AWP.seq ?_
      refine AWP.block ?_
      refine AWP.seq ?_
      refine AWP.text ?_
      obtain ⟨x10_2, hx10_2, hm⟩ := bnd hm
      obtain ⟨hx10_2i, hx10_2g⟩ := geti_some hx10_2
      refine Wy (.d (.ref (List.drop ((Int.toNat y8_1) * 1) (flatD (encI .i64) p0)))) [] (Oia rfl (encI_len (k := .i64)) hx10_2i hx10_2g) ?_
      refine Wy (.d (.lit (.int .i64 x10_2))) [] (Lf1 rfl (encI_len (k := .i64)) hx10_2g) ?_
      refine Wy (.d (.lit (.int .i64 x10_2))) [] (Omv rfl) ?_
      refine Walk.nil ?_
      refine Then.normal ?_
      refine Amk 488 0 ⟨(tp 3 ((.d (.lit (.int .i64 0))) :: (tp 1 ((.d (.lit (.int .i64 x10_2))) :: ((.d (.sl (List.length p0) (flatD (encI .i64) p0))) :: ((.d (.lit (.int .i64 ((List.length p0 : Nat) : Int)))) :: ((.d (.lit (.int .i64 y8_1))) :: (tp 9 [])))))))), [], 0⟩ ?_
      refine AWP.seq ?_
      refine AWP.text ?_
      refine Wy (.d (.lit (.int .i64 x10_2))) [] (Omv rfl) ?_
      refine Wy (.d (.lit (.int .i64 0))) [] (Omv rfl) ?_
      refine Wy (.d (.lit (.bool (decide (x10_2 ≠ 0))))) [] (Obn rfl (fun _ => hb_neq (k := .i64))) ?_
      refine Walk.nil ?_
      refine Then.normal ?_
      refine Amk 16872 0 ⟨(tp 3 ((.d (.lit (.int .i64 0))) :: (tp 1 ((.d (.lit (.int .i64 x10_2))) :: ((.d (.sl (List.length p0) (flatD (encI .i64) p0))) :: ((.d (.lit (.int .i64 ((List.length p0 : Nat) : Int)))) :: ((.d (.lit (.int .i64 y8_1))) :: (tp 5 ((.d (.lit (.bool (decide (x10_2 ≠ 0))))) :: (tp 3 [])))))))))), [], 0⟩ ?_
      rcases tf_ (decide (x10_2 ≠ 0)) with hc14_4 | hc14_4
      · replace hm := cT hc14_4 hm
        refine AWP.if_ true (Eq.trans (by kernel_rfl) (lit_tf (b := decide (x10_2 ≠ 0)) hc14_4)) ?_
        refine AWP.seq ?_
        refine AWP.text ?_
        refine Wy (.d (.lit (.int .i64 x10_2))) [] (Omv rfl) ?_
        refine Wy (.d (.lit (.int .i64 x10_2))) [] (Omv rfl) ?_
        refine Walk.nil ?_
        refine Then.normal ?_
        refine AWP.ret ?_
        refine InBlock.ret ?_
        refine Then.ret ?_
        refine RoundK.ret ?_
        refine InBlock.ret ?_
        refine Then.ret ?_
        obtain rfl := Option.some.inj hm
        exact ret_i []
      · replace hm := cF hc14_4 hm
        refine AWP.if_ false (Eq.trans (by kernel_rfl) (lit_tf (b := decide (x10_2 ≠ 0)) hc14_4)) ?_
        refine AWP.skip ?_
        refine InBlock.normal ?_
        refine Then.normal ?_
        refine Amk 456 0 ⟨(tp 3 ((.d (.lit (.int .i64 0))) :: (tp 2 ((.d (.sl (List.length p0) (flatD (encI .i64) p0))) :: ((.d (.lit (.int .i64 ((List.length p0 : Nat) : Int)))) :: ((.d (.lit (.int .i64 y8_1))) :: (tp 9 []))))))), [], 0⟩ ?_
        refine AWP.text ?_
        refine Wy (.d (.lit (.int .i64 (IntKind.i64.wrap (y8_1 + 1))))) [] (Obn rfl (fun _ => hb_add (k := .i64))) ?_
        refine Wy (.d (.lit (.int .i64 (IntKind.i64.wrap (y8_1 + 1))))) [] (Omv rfl) ?_
        refine Walk.nil ?_
        refine RoundK.normal ?_
        exact Rounds.weak (Weak.toK 456 0 0 []) (ih_1 (fu_1, (IntKind.i64.wrap (y8_1 + 1))) hm (Nat.lt_succ_self _))
    · replace hm := cF hc9_3 hm
      refine AWP.if_ false (Eq.trans (by kernel_rfl) (lit_tf (b := decide (y8_1 < ((List.length p0 : Nat) : Int))) hc9_3)) ?_
      refine AWP.exit ?_
      refine Then.exit ?_
      refine RoundK.exit ?_
      refine InBlock.same ?_
      refine Then.normal ?_
      refine Amk 8 0 ⟨(tp 3 ((.d (.lit (.int .i64 0))) :: (tp 14 []))), [], 0⟩ ?_
      refine AWP.seq ?_
      refine AWP.text ?_
      refine Wy (.d (.lit (.int .i64 0))) [] (Omv rfl) ?_
      refine Wy (.d (.lit (.int .i64 0))) [] (Omv rfl) ?_
      refine Walk.nil ?_
      refine Then.normal ?_
      refine AWP.ret ?_
      obtain rfl := Option.some.inj hm
      exact ret_i []

set_option maxRecDepth 20000 in
set_option maxHeartbeats 4000000 in
theorem ok_tally_order (p0 : GChange) (p1 : GChange) (r : Int) (h : m_tally_order p0 p1 = some r) : GCall Try.prog 24 [(.agg [(.d (.lit (.int .i64 p0.Loc))), (.d (.lit (.int .i64 p0.Time))), (.d (.lit (.int .i64 p0.N)))]), (.agg [(.d (.lit (.int .i64 p1.Loc))), (.d (.lit (.int .i64 p1.Time))), (.d (.lit (.int .i64 p1.N)))])] [] (.d (.lit (.int .i64 r))) [] := by
  refine GCall.of_body (n := 17) (rs := [(.tmp 4)]) Try.func24 rfl rfl rfl ?_
  refine Ato ⟨((.agg [(.d (.lit (.int .i64 p0.Loc))), (.d (.lit (.int .i64 p0.Time))), (.d (.lit (.int .i64 p0.N)))]) :: ((.agg [(.d (.lit (.int .i64 p1.Loc))), (.d (.lit (.int .i64 p1.Time))), (.d (.lit (.int .i64 p1.N)))]) :: (tu 15 []))), [], 0⟩ ?_
  have hm := h
  unfold m_tally_order at hm
  refine AWP.seq ?_
  refine AWP.text ?_
  refine Wy (.loc 0 0) [(0, (.box [(.d (.lit (.int .i64 p0.Loc))), (.d (.lit (.int .i64 p0.Time))), (.d (.lit (.int .i64 p0.N)))]))] (Obx rfl) ?_
  refine Wy (.loc 1 0) [(1, (.box [(.d (.lit (.int .i64 p1.Loc))), (.d (.lit (.int .i64 p1.Time))), (.d (.lit (.int .i64 p1.N)))]))] (Obx rfl) ?_
  refine Wy (.d (.lit (.int .i64 0))) [] (Omv rfl) ?_
  refine Walk.nil ?_
  refine Then.normal ?_
  refine Amk 12 3 ⟨(tp 2 ((.loc 0 0) :: ((.loc 1 0) :: (tp 13 [])))), [(.box [(.d (.lit (.int .i64 p0.Loc))), (.d (.lit (.int .i64 p0.Time))), (.d (.lit (.int .i64 p0.N)))]), (.box [(.d (.lit (.int .i64 p1.Loc))), (.d (.lit (.int .i64 p1.Time))), (.d (.lit (.int .i64 p1.N)))])], 0⟩ ?_
  refine AWP.seq ?_
  refine Adr ?_
  refine Wy (.loc 0 0) [] (Ofa rfl) ?_
  refine Wy (.d (.lit (.int .i64 p0.Loc))) [] (Old rfl) ?_
  refine Wy (.loc 1 0) [] (Ofa rfl) ?_
  refine Wy (.d (.lit (.int .i64 p1.Loc))) [] (Old rfl) ?_
  obtain ⟨r9_0, hr9_0, hm⟩ := bnd hm
  refine Wy (.d (.lit (.int .i64 r9_0))) [] (Ocf [] [] [] 0 (ok_cmp_Compare_int p0.Loc p1.Loc r9_0 hr9_0) (fun a w => Try.call30 a w) rfl trivial) ?_
  refine Wy (.loc 0 1) [] (Ofa rfl) ?_
  refine Wy (.d (.lit (.int .i64 p0.Time))) [] (Old rfl) ?_
  refine Wy (.loc 1 1) [] (Ofa rfl) ?_
  refine Wy (.d (.lit (.int .i64 p1.Time))) [] (Old rfl) ?_
  obtain ⟨r14_0, hr14_0, hm⟩ := bnd hm
  refine Wy (.d (.lit (.int .i64 r14_0))) [] (Ocf [] [] [] 0 (ok_cmp_Compare_int p0.Time p1.Time r14_0 hr14_0) (fun a w => Try.call30 a w) rfl trivial) ?_
  refine Wy (.own 2) [(2, (.arr 3 1 (List.length ([r9_0, r14_0] : List Int)) (flatD (encI .i64) ([r9_0, r14_0] : List Int))))] (Obs rfl) ?_
  obtain ⟨r16_0, hr16_0, hm⟩ := bnd hm
  refine Wy (.d (.lit (.int .i64 r16_0))) [] (Ocp [] [] [2] 0 (ok_cmp_Or_int ([r9_0, r14_0] : List Int) r16_0 hr16_0) (plain_triv (by simp [A.Plain, A.Plains, D.Plain, byteD])) (fun a w => Try.call29 a w) rfl trivial) ?_
  refine Wy (.d (.lit (.int .i64 r16_0))) [] (Omv rfl) ?_
  refine Wdr ?_
  refine Then.normal ?_
  refine AWP.ret ?_
  obtain rfl := Option.some.inj hm
  exact ret_i []

set_option maxRecDepth 20000 in
set_option maxHeartbeats 4000000 in
theorem ok_slices_insertionSortCmpFunc_tally_Change__tally_order (p0 : (List GChange)) (p1 : Int) (p2 : Int) (r : (List GChange)) (h : m_slices_insertionSortCmpFunc_tally_Change__tally_order p0 p1 p2 = some r) : GCall Try.prog 32 [(.own 0), (.d (.lit (.int .i64 p1))), (.d (.lit (.int .i64 p2))), (.clo (.func 24) [] [])] [(.arr 43 3 (List.length p0) (flatD enc_GChange p0))] (.tup []) [(.arr 43 3 (List.length r) (flatD enc_GChange r))] := by
  refine GCall.of_body (n := 53) (rs := []) Try.func32 rfl rfl rfl ?_
  refine Ato ⟨((.own 0) :: ((.d (.lit (.int .i64 p1))) :: ((.d (.lit (.int .i64 p2))) :: ((.clo (.func 24) [] []) :: (tu 49 []))))), [(.arr 43 3 (List.length p0) (flatD enc_GChange p0))], 1⟩ ?_
  have hm := h
  unfold m_slices_insertionSortCmpFunc_tally_Change__tally_order at hm
  refine AWP.seq ?_
  refine AWP.text ?_
  refine Wy (.d (.lit (.int .i64 p1))) [] (Omv rfl) ?_
  refine Wy (.d (.lit (.int .i64 (IntKind.i64.wrap (p1 + 1))))) [] (Obn rfl (fun _ => hb_add (k := .i64))) ?_
  refine Wy (.d (.lit (.int .i64 (IntKind.i64.wrap (p1 + 1))))) [] (Omv rfl) ?_
  refine Walk.nil ?_
  refine Then.normal ?_
  refine Amk 271 1 ⟨((.own 0) :: ((.d (.lit (.int .i64 p1))) :: ((.d (.lit (.int .i64 p2))) :: ((.clo (.func 24) [] []) :: (tp 4 ((.d (.lit (.int .i64 (IntKind.i64.wrap (p1 + 1))))) :: (tp 44 []))))))), [(.arr 43 3 (List.length p0) (flatD enc_GChange p0))], 1⟩ ?_
  refine AWP.block ?_
  refine AWP.loopI (α := Nat × (List GChange) × Int)
    (fun x => match x with | (fu_0, y0_0, y8_0) => (⟨((.own 0) :: ((.d (.lit (.int .i64 p1))) :: ((.d (.lit (.int .i64 p2))) :: ((.clo (.func 24) [] []) :: (tp 4 ((.d (.lit (.int .i64 y8_0))) :: (tp 44 []))))))), [(.arr 43 3 (List.length y0_0) (flatD enc_GChange y0_0))], 1⟩ : St))
    (fun x => match x with | (fu_0, y0_0, y8_0) => m_slices_insertionSortCmpFunc_tally_Change__tally_order_l0 p1 p2 fu_0 y0_0 y8_0 = some r)
    (fun x => match x with | (fu_0, y0_0, y8_0) => fu_0) (1152921504606846976, p0, (IntKind.i64.wrap (p1 + 1)))
    (Weak.toK 271 0 0 [0]) hm ?_
  rintro ⟨fu_0, y0_0, y8_0⟩ n_0 hm ih_0
  try dsimp only at hm ih_0 ⊢
  cases fu_0 with
  | zero => exact absurd hm (by unfold m_slices_insertionSortCmpFunc_tally_Change__tally_order_l0; simp)
  | succ fu_0 =>
    unfold m_slices_insertionSortCmpFunc_tally_Change__tally_order_l0 at hm
    refine AWP.seq ?_
    refine AWP.seq ?_
    refine AWP.text ?_
    refine Wy (.d (.lit (.int .i64 y8_0))) [] (Omv rfl) ?_
    refine Wy (.d (.lit (.int .i64 p2))) [] (Omv rfl) ?_
    refine Wy (.d (.lit (.bool (decide (y8_0 < p2))))) [] (Obn rfl (fun _ => hb_lss (k := .i64))) ?_
    refine Walk.nil ?_
    refine Then.normal ?_
    refine Amk 16655 1 ⟨((.own 0) :: ((.d (.lit (.int .i64 p1))) :: ((.d (.lit (.int .i64 p2))) :: ((.clo (.func 24) [] []) :: (tp 4 ((.d (.lit (.int .i64 y8_0))) :: (tp 5 ((.d (.lit (.bool (decide (y8_0 < p2))))) :: (tp 38 []))))))))), [(.arr 43 3 (List.length y0_0) (flatD enc_GChange y0_0))], 1⟩ ?_
    rcases tf_ (decide (y8_0 < p2)) with hc14_4 | hc14_4
    · replace hm := cT hc14_4 hm
      refine AWP.if_ true (Eq.trans (by kernel_rfl) (lit_tf (b := decide (y8_0 < p2)) hc14_4)) ?_
      refine AWP.skip ?_
      refine Then.normal ?_
      refine Amk 271 1 ⟨((.own 0) :: ((.d (.lit (.int .i64 p1))) :: ((.d (.lit (.int .i64 p2))) :: ((.clo (.func 24) [] []) :: (tp 4 ((.d (.lit (.int .i64 y8_0))) :: (tp 44 []))))))), [(.arr 43 3 (List.length y0_0) (flatD enc_GChange y0_0))], 1⟩ ?_
      refine AWP.seq ?_
      refine AWP.block ?_
      refine AWP.seq ?_
      refine AWP.text ?_
      refine Wy (.d (.lit (.int .i64 y8_0))) [] (Omv rfl) ?_
      refine Wy (.d (.lit (.int .i64 y8_0))) [] (Omv rfl) ?_
      refine Walk.nil ?_
      refine Then.normal ?_
      refine Amk 783 1 ⟨((.own 0) :: ((.d (.lit (.int .i64 p1))) :: ((.d (.lit (.int .i64 p2))) :: ((.clo (.func 24) [] []) :: (tp 4 ((.d (.lit (.int .i64 y8_0))) :: ((.d (.lit (.int .i64 y8_0))) :: (tp 43 [])))))))), [(.arr 43 3 (List.length y0_0) (flatD enc_GChange y0_0))], 1⟩ ?_
      refine AWP.block ?_
      refine AWP.loopI (α := Nat × (List GChange) × Int)
        (fun x => match x with | (fu_1, y0_1, y9_1) => (⟨((.own 0) :: ((.d (.lit (.int .i64 p1))) :: ((.d (.lit (.int .i64 p2))) :: ((.clo (.func 24) [] []) :: (tp 4 ((.d (.lit (.int .i64 y8_0))) :: ((.d (.lit (.int .i64 y9_1))) :: (tp 43 [])))))))), [(.arr 43 3 (List.length y0_1) (flatD enc_GChange y0_1))], 1⟩ : St))
        (fun x => match x with | (fu_1, y0_1, y9_1) => m_slices_insertionSortCmpFunc_tally_Change__tally_order_l1 p1 y8_0 (fun y0_0 y8_0 => m_slices_insertionSortCmpFunc_tally_Change__tally_order_l0 p1 p2 fu_0 y0_0 y8_0) fu_1 y0_1 y9_1 = some r)
        (fun x => match x with | (fu_1, y0_1, y9_1) => fu_1) (1152921504606846976, y0_0, y8_0)
        (Weak.toK 783 0 0 [0]) hm ?_
      rintro ⟨fu_1, y0_1, y9_1⟩ n_1 hm ih_1
      try dsimp only at hm ih_1 ⊢
      cases fu_1 with
      | zero => exact absurd hm (by unfold m_slices_insertionSortCmpFunc_tally_Change__tally_order_l1; simp)
      | succ fu_1 =>
        unfold m_slices_insertionSortCmpFunc_tally_Change__tally_order_l1 at hm
        refine AWP.seq ?_
        refine AWP.seq ?_
        refine Adr ?_
        refine Wy (.d (.lit (.int .i64 y9_1))) [] (Omv rfl) ?_
        refine Wy (.d (.lit (.int .i64 p1))) [] (Omv rfl) ?_
        refine Wy (.d (.lit (.bool (decide (p1 < y9_1))))) [] (Obn rfl (fun _ => hb_gtr (k := .i64))) ?_
        rcases tf_ (decide (p1 < y9_1)) with hq21_2 | hq21_2
        · replace hm := cT hq21_2 hm
          refine Wy (.d (.lit (.bool true))) [] (Ocs (lit_tf (b := decide (p1 < y9_1)) hq21_2) (Omv rfl)) ?_
          refine Wy (.clo (.func 24) [] []) [] (Omv rfl) ?_
          refine Wy (.own 0) [] (Omv rfl) ?_
          refine Wy (.d (.lit (.int .i64 y9_1))) [] (Omv rfl) ?_
          obtain ⟨x25_2, hx25_2, hm⟩ := bnd hm
          obtain ⟨hx25_2i, hx25_2g⟩ := geti_some hx25_2
          refine Wy (.loc 0 ((Int.toNat y9_1) * 3)) [] (Oia rfl enc_GChange_len hx25_2i hx25_2g) ?_
          refine Wy (.agg [(.d (.lit (.int .i64 x25_2.Loc))), (.d (.lit (.int .i64 x25_2.Time))), (.d (.lit (.int .i64 x25_2.N)))]) [] (Lr rfl enc_GChange_len hx25_2g) ?_
          refine Wy (.own 0) [] (Omv rfl) ?_
          refine Wy (.d (.lit (.int .i64 y9_1))) [] (Omv rfl) ?_
          refine Wy (.d (.lit (.int .i64 (IntKind.i64.wrap (y9_1 - 1))))) [] (Obn rfl (fun _ => hb_sub (k := .i64))) ?_
          obtain ⟨x30_2, hx30_2, hm⟩ := bnd hm
          obtain ⟨hx30_2i, hx30_2g⟩ := geti_some hx30_2
          refine Wy (.loc 0 ((Int.toNat (IntKind.i64.wrap (y9_1 - 1))) * 3)) [] (Oia rfl enc_GChange_len hx30_2i hx30_2g) ?_
          refine Wy (.agg [(.d (.lit (.int .i64 x30_2.Loc))), (.d (.lit (.int .i64 x30_2.Time))), (.d (.lit (.int .i64 x30_2.N)))]) [] (Lr rfl enc_GChange_len hx30_2g) ?_
          obtain ⟨r32_2, hr32_2, hm⟩ := bnd hm
          refine Wy (.d (.lit (.int .i64 r32_2))) [] (Ocf [] [] [] 0 (ok_tally_order x25_2 x30_2 r32_2 hr32_2) (fun a w => Try.call24 a w) rfl trivial) ?_
          refine Wy (.d (.lit (.bool (decide (r32_2 < 0))))) [] (Obn rfl (fun _ => hb_lss (k := .i64))) ?_
          refine Wy (.d (.lit (.bool (decide (r32_2 < 0))))) [] (OpT rfl) ?_
          refine Wdr ?_
          refine Then.normal ?_
          refine Amk 17179869967 1 ⟨((.own 0) :: ((.d (.lit (.int .i64 p1))) :: ((.d (.lit (.int .i64 p2))) :: ((.clo (.func 24) [] []) :: (tp 4 ((.d (.lit (.int .i64 y8_0))) :: ((.d (.lit (.int .i64 y9_1))) :: (tp 24 ((.d (.lit (.bool (decide (r32_2 < 0))))) :: (tp 18 [])))))))))), [(.arr 43 3 (List.length y0_1) (flatD enc_GChange y0_1))], 1⟩ ?_
          rcases tf_ (decide (r32_2 < 0)) with hc34_5 | hc34_5
          · replace hm := cT hc34_5 hm
            refine AWP.if_ true (Eq.trans (by kernel_rfl) (lit_tf (b := decide (r32_2 < 0)) hc34_5)) ?_
            refine AWP.skip ?_
            refine Then.normal ?_
            refine Amk 783 1 ⟨((.own 0) :: ((.d (.lit (.int .i64 p1))) :: ((.d (.lit (.int .i64 p2))) :: ((.clo (.func 24) [] []) :: (tp 4 ((.d (.lit (.int .i64 y8_0))) :: ((.d (.lit (.int .i64 y9_1))) :: (tp 43 [])))))))), [(.arr 43 3 (List.length y0_1) (flatD enc_GChange y0_1))], 1⟩ ?_
            refine AWP.seq ?_
            refine AWP.block ?_
            refine Adr ?_
            refine Wy (.own 0) [] (Omv rfl) ?_
            refine Wy (.d (.lit (.int .i64 y9_1))) [] (Omv rfl) ?_
            refine Wy (.own 0) [] (Omv rfl) ?_
            refine Wy (.d (.lit (.int .i64 y9_1))) [] (Omv rfl) ?_
            refine Wy (.d (.lit (.int .i64 (IntKind.i64.wrap (y9_1 - 1))))) [] (Obn rfl (fun _ => hb_sub (k := .i64))) ?_
            refine Wy (.own 0) [] (Omv rfl) ?_
            refine Wy (.d (.lit (.int .i64 y9_1))) [] (Omv rfl) ?_
            refine Wy (.d (.lit (.int .i64 (IntKind.i64.wrap (y9_1 - 1))))) [] (Obn rfl (fun _ => hb_sub (k := .i64))) ?_
            obtain ⟨x45_3, hx45_3, hm⟩ := bnd hm
            obtain ⟨hx45_3i, hx45_3g⟩ := geti_some hx45_3
            refine Wy (.loc 0 ((Int.toNat (IntKind.i64.wrap (y9_1 - 1))) * 3)) [] (Oia rfl enc_GChange_len hx45_3i hx45_3g) ?_
            refine Wy (.agg [(.d (.lit (.int .i64 x45_3.Loc))), (.d (.lit (.int .i64 x45_3.Time))), (.d (.lit (.int .i64 x45_3.N)))]) [] (Lr rfl enc_GChange_len hx45_3g) ?_
            refine Wy (.own 0) [] (Omv rfl) ?_
            refine Wy (.d (.lit (.int .i64 y9_1))) [] (Omv rfl) ?_
            obtain ⟨x49_3, hx49_3, hm⟩ := bnd hm
            obtain ⟨hx49_3i, hx49_3g⟩ := geti_some hx49_3
            refine Wy (.loc 0 ((Int.toNat y9_1) * 3)) [] (Oia rfl enc_GChange_len hx49_3i hx49_3g) ?_
            refine Wy (.agg [(.d (.lit (.int .i64 x49_3.Loc))), (.d (.lit (.int .i64 x49_3.Time))), (.d (.lit (.int .i64 x49_3.N)))]) [] (Lr rfl enc_GChange_len hx49_3g) ?_
            obtain ⟨x51_3, hx51_3, hm⟩ := bnd hm
            obtain ⟨hx51_3i, hx51_3g⟩ := geti_some hx51_3
            refine Wy (.loc 0 ((Int.toNat y9_1) * 3)) [] (Oia rfl enc_GChange_len hx51_3i hx51_3g) ?_
            refine Wy (.tup []) [(0, (.arr 43 3 (List.length (List.set y0_1 (Int.toNat y9_1) x45_3)) (flatD enc_GChange (List.set y0_1 (Int.toNat y9_1) x45_3))))] (Osr 0 rfl enc_GChange_len hx51_3g x45_3) ?_
            obtain ⟨x52_3, hx52_3, hm⟩ := bnd hm
            obtain ⟨hx52_3i, hx52_3g⟩ := geti_some hx52_3
            refine Wy (.loc 0 ((Int.toNat (IntKind.i64.wrap (y9_1 - 1))) * 3)) [] (Oia rfl enc_GChange_len hx52_3i hx52_3g) ?_
            refine Wy (.tup []) [(0, (.arr 43 3 (List.length (List.set (List.set y0_1 (Int.toNat y9_1) x45_3) (Int.toNat (IntKind.i64.wrap (y9_1 - 1))) x49_3)) (flatD enc_GChange (List.set (List.set y0_1 (Int.toNat y9_1) x45_3) (Int.toNat (IntKind.i64.wrap (y9_1 - 1))) x49_3))))] (Osr 0 rfl enc_GChange_len hx52_3g x49_3) ?_
            refine Wdr ?_
            refine InBlock.normal ?_
            refine Then.normal ?_
            refine Amk 783 1 ⟨((.own 0) :: ((.d (.lit (.int .i64 p1))) :: ((.d (.lit (.int .i64 p2))) :: ((.clo (.func 24) [] []) :: (tp 4 ((.d (.lit (.int .i64 y8_0))) :: ((.d (.lit (.int .i64 y9_1))) :: (tp 43 [])))))))), [(.arr 43 3 (List.length (List.set (List.set y0_1 (Int.toNat y9_1) x45_3) (Int.toNat (IntKind.i64.wrap (y9_1 - 1))) x49_3)) (flatD enc_GChange (List.set (List.set y0_1 (Int.toNat y9_1) x45_3) (Int.toNat (IntKind.i64.wrap (y9_1 - 1))) x49_3)))], 1⟩ ?_
            refine AWP.text ?_
            refine Wy (.d (.lit (.int .i64 y9_1))) [] (Omv rfl) ?_
            refine Wy (.d (.lit (.int .i64 (IntKind.i64.wrap (y9_1 - 1))))) [] (Obn rfl (fun _ => hb_sub (k := .i64))) ?_
            refine Wy (.d (.lit (.int .i64 (IntKind.i64.wrap (y9_1 - 1))))) [] (Omv rfl) ?_
            refine Walk.nil ?_
            refine RoundK.normal ?_
            exact Rounds.weak (Weak.toK 783 0 0 [0]) (ih_1 (fu_1, (List.set (List.set y0_1 (Int.toNat y9_1) x45_3) (Int.toNat (IntKind.i64.wrap (y9_1 - 1))) x49_3), (IntKind.i64.wrap (y9_1 - 1))) hm (Nat.lt_succ_self _))
          · replace hm := cF hc34_5 hm
            refine AWP.if_ false (Eq.trans (by kernel_rfl) (lit_tf (b := decide (r32_2 < 0)) hc34_5)) ?_
            refine AWP.exit ?_
            refine Then.exit ?_
            refine RoundK.exit ?_
            refine InBlock.same ?_
            refine InBlock.normal ?_
            refine Then.normal ?_
            refine Amk 271 1 ⟨((.own 0) :: ((.d (.lit (.int .i64 p1))) :: ((.d (.lit (.int .i64 p2))) :: ((.clo (.func 24) [] []) :: (tp 4 ((.d (.lit (.int .i64 y8_0))) :: (tp 44 []))))))), [(.arr 43 3 (List.length y0_1) (flatD enc_GChange y0_1))], 1⟩ ?_
            refine AWP.text ?_
            refine Wy (.d (.lit (.int .i64 y8_0))) [] (Omv rfl) ?_
            refine Wy (.d (.lit (.int .i64 (IntKind.i64.wrap (y8_0 + 1))))) [] (Obn rfl (fun _ => hb_add (k := .i64))) ?_
            refine Wy (.d (.lit (.int .i64 (IntKind.i64.wrap (y8_0 + 1))))) [] (Omv rfl) ?_
            refine Walk.nil ?_
            refine RoundK.normal ?_
            exact Rounds.weak (Weak.toK 271 0 0 [0]) (ih_0 (fu_0, y0_1, (IntKind.i64.wrap (y8_0 + 1))) hm (Nat.lt_succ_self _))
        · replace hm := cF hq21_2 hm
          refine Wy (.d (.lit (.bool false))) [] (Ocs (lit_tf (b := decide (p1 < y9_1)) hq21_2) (Omv rfl)) ?_
          refine Wn ?_
          refine Wn ?_
          refine Wn ?_
          refine Wn ?_
          refine Wn ?_
          refine Wn ?_
          refine Wn ?_
          refine Wn ?_
          refine Wn ?_
          refine Wn ?_
          refine Wn ?_
          refine Wn ?_
          refine Wy (.d (.lit (.bool false))) [] (OpF rfl) ?_
          refine Wdr ?_
          refine Then.normal ?_
          refine Amk 17179869967 1 ⟨((.own 0) :: ((.d (.lit (.int .i64 p1))) :: ((.d (.lit (.int .i64 p2))) :: ((.clo (.func 24) [] []) :: (tp 4 ((.d (.lit (.int .i64 y8_0))) :: ((.d (.lit (.int .i64 y9_1))) :: (tp 24 ((.d (.lit (.bool false))) :: (tp 18 [])))))))))), [(.arr 43 3 (List.length y0_1) (flatD enc_GChange y0_1))], 1⟩ ?_
          refine AWP.if_ false (by kernel_rfl) ?_
          refine AWP.exit ?_
          refine Then.exit ?_
          refine RoundK.exit ?_
          refine InBlock.same ?_
          refine InBlock.normal ?_
          refine Then.normal ?_
          refine Amk 271 1 ⟨((.own 0) :: ((.d (.lit (.int .i64 p1))) :: ((.d (.lit (.int .i64 p2))) :: ((.clo (.func 24) [] []) :: (tp 4 ((.d (.lit (.int .i64 y8_0))) :: (tp 44 []))))))), [(.arr 43 3 (List.length y0_1) (flatD enc_GChange y0_1))], 1⟩ ?_
          refine AWP.text ?_
          refine Wy (.d (.lit (.int .i64 y8_0))) [] (Omv rfl) ?_
          refine Wy (.d (.lit (.int .i64 (IntKind.i64.wrap (y8_0 + 1))))) [] (Obn rfl (fun _ => hb_add (k := .i64))) ?_
          refine Wy (.d (.lit (.int .i64 (IntKind.i64.wrap (y8_0 + 1))))) [] (Omv rfl) ?_
          refine Walk.nil ?_
          refine RoundK.normal ?_
          exact Rounds.weak (Weak.toK 271 0 0 [0]) (ih_0 (fu_0, y0_1, (IntKind.i64.wrap (y8_0 + 1))) hm (Nat.lt_succ_self _))
    · replace hm := cF hc14_4 hm
      refine AWP.if_ false (Eq.trans (by kernel_rfl) (lit_tf (b := decide (y8_0 < p2)) hc14_4)) ?_
      refine AWP.exit ?_
      refine Then.exit ?_
      refine RoundK.exit ?_
      refine InBlock.same ?_
      obtain rfl := Option.some.inj hm
      exact ret_n [0]

set_option maxRecDepth 20000 in
set_option maxHeartbeats 4000000 in
theorem ok_slices_swapRangeCmpFunc_tally_Change__tally_order (p0 : (List GChange)) (p1 : Int) (p2 : Int) (p3 : Int) (r : (List GChange)) (h : m_slices_swapRangeCmpFunc_tally_Change__tally_order p0 p1 p2 p3 = some r) : GCall Try.prog 36 [(.own 0), (.d (.lit (.int .i64 p1))), (.d (.lit (.int .i64 p2))), (.d (.lit (.int .i64 p3))), (.clo (.func 24) [] [])] [(.arr 43 3 (List.length p0) (flatD enc_GChange p0))] (.tup []) [(.arr 43 3 (List.length r) (flatD enc_GChange r))] := by
  refine GCall.of_body (n := 38) (rs := []) Try.func36 rfl rfl rfl ?_
  refine Ato ⟨((.own 0) :: ((.d (.lit (.int .i64 p1))) :: ((.d (.lit (.int .i64 p2))) :: ((.d (.lit (.int .i64 p3))) :: ((.clo (.func 24) [] []) :: (tu 33 [])))))), [(.arr 43 3 (List.length p0) (flatD enc_GChange p0))], 1⟩ ?_
  have hm := h
  unfold m_slices_swapRangeCmpFunc_tally_Change__tally_order at hm
  refine AWP.seq ?_
  refine AWP.text ?_
  refine Wy (.d (.lit (.int .i64 0))) [] (Omv rfl) ?_
  refine Walk.nil ?_
  refine Then.normal ?_
  refine Amk 1039 1 ⟨((.own 0) :: ((.d (.lit (.int .i64 p1))) :: ((.d (.lit (.int .i64 p2))) :: ((.d (.lit (.int .i64 p3))) :: (tp 6 ((.d (.lit (.int .i64 0))) :: (tp 27 []))))))), [(.arr 43 3 (List.length p0) (flatD enc_GChange p0))], 1⟩ ?_
  refine AWP.block ?_
  refine AWP.loopI (α := Nat × (List GChange) × Int)
    (fun x => match x with | (fu_0, y0_0, y10_0) => (⟨((.own 0) :: ((.d (.lit (.int .i64 p1))) :: ((.d (.lit (.int .i64 p2))) :: ((.d (.lit (.int .i64 p3))) :: (tp 6 ((.d (.lit (.int .i64 y10_0))) :: (tp 27 []))))))), [(.arr 43 3 (List.length y0_0) (flatD enc_GChange y0_0))], 1⟩ : St))
    (fun x => match x with | (fu_0, y0_0, y10_0) => m_slices_swapRangeCmpFunc_tally_Change__tally_order_l0 p1 p2 p3 fu_0 y0_0 y10_0 = some r)
    (fun x => match x with | (fu_0, y0_0, y10_0) => fu_0) (1152921504606846976, p0, 0)
    (Weak.toK 1039 0 0 [0]) hm ?_
  rintro ⟨fu_0, y0_0, y10_0⟩ n_0 hm ih_0
  try dsimp only at hm ih_0 ⊢
  cases fu_0 with
  | zero => exact absurd hm (by unfold m_slices_swapRangeCmpFunc_tally_Change__tally_order_l0; simp)
  | succ fu_0 =>
    unfold m_slices_swapRangeCmpFunc_tally_Change__tally_order_l0 at hm
    refine AWP.seq ?_
    refine AWP.seq ?_
    refine AWP.text ?_
    refine Wy (.d (.lit (.int .i64 y10_0))) [] (Omv rfl) ?_
    refine Wy (.d (.lit (.int .i64 p3))) [] (Omv rfl) ?_
    refine Wy (.d (.lit (.bool (decide (y10_0 < p3))))) [] (Obn rfl (fun _ => hb_lss (k := .i64))) ?_
    refine Walk.nil ?_
    refine Then.normal ?_
    refine Amk 9231 1 ⟨((.own 0) :: ((.d (.lit (.int .i64 p1))) :: ((.d (.lit (.int .i64 p2))) :: ((.d (.lit (.int .i64 p3))) :: (tp 6 ((.d (.lit (.int .i64 y10_0))) :: (tp 2 ((.d (.lit (.bool (decide (y10_0 < p3))))) :: (tp 24 []))))))))), [(.arr 43 3 (List.length y0_0) (flatD enc_GChange y0_0))], 1⟩ ?_
    rcases tf_ (decide (y10_0 < p3)) with hc13_2 | hc13_2
    · replace hm := cT hc13_2 hm
      refine AWP.if_ true (Eq.trans (by kernel_rfl) (lit_tf (b := decide (y10_0 < p3)) hc13_2)) ?_
      refine AWP.skip ?_
      refine Then.normal ?_
      refine Amk 1039 1 ⟨((.own 0) :: ((.d (.lit (.int .i64 p1))) :: ((.d (.lit (.int .i64 p2))) :: ((.d (.lit (.int .i64 p3))) :: (tp 6 ((.d (.lit (.int .i64 y10_0))) :: (tp 27 []))))))), [(.arr 43 3 (List.length y0_0) (flatD enc_GChange y0_0))], 1⟩ ?_
      refine AWP.seq ?_
      refine AWP.block ?_
      refine Adr ?_
      refine Wy (.own 0) [] (Omv rfl) ?_
      refine Wy (.d (.lit (.int .i64 p1))) [] (Omv rfl) ?_
      refine Wy (.d (.lit (.int .i64 y10_0))) [] (Omv rfl) ?_
      refine Wy (.d (.lit (.int .i64 (IntKind.i64.wrap (p1 + y10_0))))) [] (Obn rfl (fun _ => hb_add (k := .i64))) ?_
      refine Wy (.own 0) [] (Omv rfl) ?_
      refine Wy (.d (.lit (.int .i64 p2))) [] (Omv rfl) ?_
      refine Wy (.d (.lit (.int .i64 y10_0))) [] (Omv rfl) ?_
      refine Wy (.d (.lit (.int .i64 (IntKind.i64.wrap (p2 + y10_0))))) [] (Obn rfl (fun _ => hb_add (k := .i64))) ?_
      refine Wy (.own 0) [] (Omv rfl) ?_
      refine Wy (.d (.lit (.int .i64 p2))) [] (Omv rfl) ?_
      refine Wy (.d (.lit (.int .i64 y10_0))) [] (Omv rfl) ?_
      refine Wy (.d (.lit (.int .i64 (IntKind.i64.wrap (p2 + y10_0))))) [] (Obn rfl (fun _ => hb_add (k := .i64))) ?_
      obtain ⟨x28_1, hx28_1, hm⟩ := bnd hm
      obtain ⟨hx28_1i, hx28_1g⟩ := geti_some hx28_1
      refine Wy (.loc 0 ((Int.toNat (IntKind.i64.wrap (p2 + y10_0))) * 3)) [] (Oia rfl enc_GChange_len hx28_1i hx28_1g) ?_
      refine Wy (.agg [(.d (.lit (.int .i64 x28_1.Loc))), (.d (.lit (.int .i64 x28_1.Time))), (.d (.lit (.int .i64 x28_1.N)))]) [] (Lr rfl enc_GChange_len hx28_1g) ?_
      refine Wy (.own 0) [] (Omv rfl) ?_
      refine Wy (.d (.lit (.int .i64 p1))) [] (Omv rfl) ?_
      refine Wy (.d (.lit (.int .i64 y10_0))) [] (Omv rfl) ?_
      refine Wy (.d (.lit (.int .i64 (IntKind.i64.wrap (p1 + y10_0))))) [] (Obn rfl (fun _ => hb_add (k := .i64))) ?_
      obtain ⟨x34_1, hx34_1, hm⟩ := bnd hm
      obtain ⟨hx34_1i, hx34_1g⟩ := geti_some hx34_1
      refine Wy (.loc 0 ((Int.toNat (IntKind.i64.wrap (p1 + y10_0))) * 3)) [] (Oia rfl enc_GChange_len hx34_1i hx34_1g) ?_
      refine Wy (.agg [(.d (.lit (.int .i64 x34_1.Loc))), (.d (.lit (.int .i64 x34_1.Time))), (.d (.lit (.int .i64 x34_1.N)))]) [] (Lr rfl enc_GChange_len hx34_1g) ?_
      obtain ⟨x36_1, hx36_1, hm⟩ := bnd hm
      obtain ⟨hx36_1i, hx36_1g⟩ := geti_some hx36_1
      refine Wy (.loc 0 ((Int.toNat (IntKind.i64.wrap (p1 + y10_0))) * 3)) [] (Oia rfl enc_GChange_len hx36_1i hx36_1g) ?_
      refine Wy (.tup []) [(0, (.arr 43 3 (List.length (List.set y0_0 (Int.toNat (IntKind.i64.wrap (p1 + y10_0))) x28_1)) (flatD enc_GChange (List.set y0_0 (Int.toNat (IntKind.i64.wrap (p1 + y10_0))) x28_1))))] (Osr 0 rfl enc_GChange_len hx36_1g x28_1) ?_
      obtain ⟨x37_1, hx37_1, hm⟩ := bnd hm
      obtain ⟨hx37_1i, hx37_1g⟩ := geti_some hx37_1
      refine Wy (.loc 0 ((Int.toNat (IntKind.i64.wrap (p2 + y10_0))) * 3)) [] (Oia rfl enc_GChange_len hx37_1i hx37_1g) ?_
      refine Wy (.tup []) [(0, (.arr 43 3 (List.length (List.set (List.set y0_0 (Int.toNat (IntKind.i64.wrap (p1 + y10_0))) x28_1) (Int.toNat (IntKind.i64.wrap (p2 + y10_0))) x34_1)) (flatD enc_GChange (List.set (List.set y0_0 (Int.toNat (IntKind.i64.wrap (p1 + y10_0))) x28_1) (Int.toNat (IntKind.i64.wrap (p2 + y10_0))) x34_1))))] (Osr 0 rfl enc_GChange_len hx37_1g x34_1) ?_
      refine Wdr ?_
      refine InBlock.normal ?_
      refine Then.normal ?_
      refine Amk 1039 1 ⟨((.own 0) :: ((.d (.lit (.int .i64 p1))) :: ((.d (.lit (.int .i64 p2))) :: ((.d (.lit (.int .i64 p3))) :: (tp 6 ((.d (.lit (.int .i64 y10_0))) :: (tp 27 []))))))), [(.arr 43 3 (List.length (List.set (List.set y0_0 (Int.toNat (IntKind.i64.wrap (p1 + y10_0))) x28_1) (Int.toNat (IntKind.i64.wrap (p2 + y10_0))) x34_1)) (flatD enc_GChange (List.set (List.set y0_0 (Int.toNat (IntKind.i64.wrap (p1 + y10_0))) x28_1) (Int.toNat (IntKind.i64.wrap (p2 + y10_0))) x34_1)))], 1⟩ ?_
      refine AWP.text ?_
      refine Wy (.d (.lit (.int .i64 y10_0))) [] (Omv rfl) ?_
      refine Wy (.d (.lit (.int .i64 (IntKind.i64.wrap (y10_0 + 1))))) [] (Obn rfl (fun _ => hb_add (k := .i64))) ?_
      refine Wy (.d (.lit (.int .i64 (IntKind.i64.wrap (y10_0 + 1))))) [] (Omv rfl) ?_
      refine Walk.nil ?_
      refine RoundK.normal ?_
      exact Rounds.weak (Weak.toK 1039 0 0 [0]) (ih_0 (fu_0, (List.set (List.set y0_0 (Int.toNat (IntKind.i64.wrap (p1 + y10_0))) x28_1) (Int.toNat (IntKind.i64.wrap (p2 + y10_0))) x34_1), (IntKind.i64.wrap (y10_0 + 1))) hm (Nat.lt_succ_self _))
    · replace hm := cF hc13_2 hm
      refine AWP.if_ false (Eq.trans (by kernel_rfl) (lit_tf (b := decide (y10_0 < p3)) hc13_2)) ?_
      refine AWP.exit ?_
      refine Then.exit ?_
      refine RoundK.exit ?_
      refine InBlock.same ?_
      obtain rfl := Option.some.inj hm
      exact ret_n [0]

set_option maxRecDepth 20000 in
set_option maxHeartbeats 4000000 in
theorem ok_slices_rotateCmpFunc_tally_Change__tally_order (p0 : (List GChange)) (p1 : Int) (p2 : Int) (p3 : Int) (r : (List GChange)) (h : m_slices_rotateCmpFunc_tally_Change__tally_order p0 p1 p2 p3 = some r) : GCall Try.prog 35 [(.own 0), (.d (.lit (.int .i64 p1))), (.d (.lit (.int .i64 p2))), (.d (.lit (.int .i64 p3))), (.clo (.func 24) [] [])] [(.arr 43 3 (List.length p0) (flatD enc_GChange p0))] (.tup []) [(.arr 43 3 (List.length r) (flatD enc_GChange r))] := by
  refine GCall.of_body (n := 58) (rs := []) Try.func35 rfl rfl rfl ?_
  refine Ato ⟨((.own 0) :: ((.d (.lit (.int .i64 p1))) :: ((.d (.lit (.int .i64 p2))) :: ((.d (.lit (.int .i64 p3))) :: ((.clo (.func 24) [] []) :: (tu 53 [])))))), [(.arr 43 3 (List.length p0) (flatD enc_GChange p0))], 1⟩ ?_
  have hm := h
  unfold m_slices_rotateCmpFunc_tally_Change__tally_order at hm
  refine AWP.seq ?_
  refine AWP.text ?_
  refine Wy (.d (.lit (.int .i64 p2))) [] (Omv rfl) ?_
  refine Wy (.d (.lit (.int .i64 p1))) [] (Omv rfl) ?_
  refine Wy (.d (.lit (.int .i64 (IntKind.i64.wrap (p2 - p1))))) [] (Obn rfl (fun _ => hb_sub (k := .i64))) ?_
  refine Wy (.d (.lit (.int .i64 (IntKind.i64.wrap (p2 - p1))))) [] (Omv rfl) ?_
  refine Walk.nil ?_
  refine Then.normal ?_
  refine Amk 1053 1 ⟨((.own 0) :: (tp 1 ((.d (.lit (.int .i64 p2))) :: ((.d (.lit (.int .i64 p3))) :: ((.clo (.func 24) [] []) :: (tp 5 ((.d (.lit (.int .i64 (IntKind.i64.wrap (p2 - p1))))) :: (tp 47 [])))))))), [(.arr 43 3 (List.length p0) (flatD enc_GChange p0))], 1⟩ ?_
  refine AWP.seq ?_
  refine AWP.text ?_
  refine Wy (.d (.lit (.int .i64 p3))) [] (Omv rfl) ?_
  refine Wy (.d (.lit (.int .i64 p2))) [] (Omv rfl) ?_
  refine Wy (.d (.lit (.int .i64 (IntKind.i64.wrap (p3 - p2))))) [] (Obn rfl (fun _ => hb_sub (k := .i64))) ?_
  refine Wy (.d (.lit (.int .i64 (IntKind.i64.wrap (p3 - p2))))) [] (Omv rfl) ?_
  refine Walk.nil ?_
  refine Then.normal ?_
  refine Amk 3093 1 ⟨((.own 0) :: (tp 1 ((.d (.lit (.int .i64 p2))) :: (tp 1 ((.clo (.func 24) [] []) :: (tp 5 ((.d (.lit (.int .i64 (IntKind.i64.wrap (p2 - p1))))) :: ((.d (.lit (.int .i64 (IntKind.i64.wrap (p3 - p2))))) :: (tp 46 []))))))))), [(.arr 43 3 (List.length p0) (flatD enc_GChange p0))], 1⟩ ?_
  refine AWP.seq ?_
  refine AWP.block ?_
  refine AWP.loopI (α := Nat × (List GChange) × Int × Int)
    (fun x => match x with | (fu_0, y0_0, y10_0, y11_0) => (⟨((.own 0) :: (tp 1 ((.d (.lit (.int .i64 p2))) :: (tp 1 ((.clo (.func 24) [] []) :: (tp 5 ((.d (.lit (.int .i64 y10_0))) :: ((.d (.lit (.int .i64 y11_0))) :: (tp 46 []))))))))), [(.arr 43 3 (List.length y0_0) (flatD enc_GChange y0_0))], 1⟩ : St))
    (fun x => match x with | (fu_0, y0_0, y10_0, y11_0) => m_slices_rotateCmpFunc_tally_Change__tally_order_l0 p2 fu_0 y0_0 y10_0 y11_0 = some r)
    (fun x => match x with | (fu_0, y0_0, y10_0, y11_0) => fu_0) (1152921504606846976, p0, (IntKind.i64.wrap (p2 - p1)), (IntKind.i64.wrap (p3 - p2)))
    (Weak.toK 3093 0 0 [0]) hm ?_
  rintro ⟨fu_0, y0_0, y10_0, y11_0⟩ n_0 hm ih_0
  try dsimp only at hm ih_0 ⊢
  cases fu_0 with
  | zero => exact absurd hm (by unfold m_slices_rotateCmpFunc_tally_Change__tally_order_l0; simp)
  | succ fu_0 =>
    unfold m_slices_rotateCmpFunc_tally_Change__tally_order_l0 at hm
    refine AWP.seq ?_
    refine AWP.seq ?_
    refine AWP.text ?_
    refine Wy (.d (.lit (.int .i64 y10_0))) [] (Omv rfl) ?_
    refine Wy (.d (.lit (.int .i64 y11_0))) [] (Omv rfl) ?_
    refine Wy (.d (.lit (.bool (decide (y10_0 ≠ y11_0))))) [] (Obn rfl (fun _ => hb_neq (k := .i64))) ?_
    refine Walk.nil ?_
    refine Then.normal ?_
    refine Amk 1051669 1 ⟨((.own 0) :: (tp 1 ((.d (.lit (.int .i64 p2))) :: (tp 1 ((.clo (.func 24) [] []) :: (tp 5 ((.d (.lit (.int .i64 y10_0))) :: ((.d (.lit (.int .i64 y11_0))) :: (tp 8 ((.d (.lit (.bool (decide (y10_0 ≠ y11_0))))) :: (tp 37 []))))))))))), [(.arr 43 3 (List.length y0_0) (flatD enc_GChange y0_0))], 1⟩ ?_
    rcases tf_ (decide (y10_0 ≠ y11_0)) with hc20_4 | hc20_4
    · replace hm := cT hc20_4 hm
      refine AWP.if_ true (Eq.trans (by kernel_rfl) (lit_tf (b := decide (y10_0 ≠ y11_0)) hc20_4)) ?_
      refine AWP.skip ?_
      refine Then.normal ?_
      refine Amk 3093 1 ⟨((.own 0) :: (tp 1 ((.d (.lit (.int .i64 p2))) :: (tp 1 ((.clo (.func 24) [] []) :: (tp 5 ((.d (.lit (.int .i64 y10_0))) :: ((.d (.lit (.int .i64 y11_0))) :: (tp 46 []))))))))), [(.arr 43 3 (List.length y0_0) (flatD enc_GChange y0_0))], 1⟩ ?_
      refine AWP.block ?_
      refine AWP.seq ?_
      refine AWP.text ?_
      refine Wy (.d (.lit (.int .i64 y10_0))) [] (Omv rfl) ?_
      refine Wy (.d (.lit (.int .i64 y11_0))) [] (Omv rfl) ?_
      refine Wy (.d (.lit (.bool (decide (y11_0 < y10_0))))) [] (Obn rfl (fun _ => hb_gtr (k := .i64))) ?_
      refine Walk.nil ?_
      refine Then.normal ?_
      refine Amk 8391701 1 ⟨((.own 0) :: (tp 1 ((.d (.lit (.int .i64 p2))) :: (tp 1 ((.clo (.func 24) [] []) :: (tp 5 ((.d (.lit (.int .i64 y10_0))) :: ((.d (.lit (.int .i64 y11_0))) :: (tp 11 ((.d (.lit (.bool (decide (y11_0 < y10_0))))) :: (tp 34 []))))))))))), [(.arr 43 3 (List.length y0_0) (flatD enc_GChange y0_0))], 1⟩ ?_
      rcases tf_ (decide (y11_0 < y10_0)) with hc23_5 | hc23_5
      · replace hm := cT hc23_5 hm
        refine AWP.if_ true (Eq.trans (by kernel_rfl) (lit_tf (b := decide (y11_0 < y10_0)) hc23_5)) ?_
        refine AWP.seq ?_
        refine AWP.text ?_
        refine Wy (.own 0) [] (Omv rfl) ?_
        refine Wy (.d (.lit (.int .i64 p2))) [] (Omv rfl) ?_
        refine Wy (.d (.lit (.int .i64 y10_0))) [] (Omv rfl) ?_
        refine Wy (.d (.lit (.int .i64 (IntKind.i64.wrap (p2 - y10_0))))) [] (Obn rfl (fun _ => hb_sub (k := .i64))) ?_
        refine Wy (.d (.lit (.int .i64 p2))) [] (Omv rfl) ?_
        refine Wy (.d (.lit (.int .i64 y11_0))) [] (Omv rfl) ?_
        refine Wy (.clo (.func 24) [] []) [] (Omv rfl) ?_
        obtain ⟨r31_1, hr31_1, hm⟩ := bnd hm
        refine Wy (.tup []) [(0, (.arr 43 3 (List.length r31_1) (flatD enc_GChange r31_1)))] (Ocf [0] [] [] 0 (ok_slices_swapRangeCmpFunc_tally_Change__tally_order y0_0 (IntKind.i64.wrap (p2 - y10_0)) p2 y11_0 r31_1 hr31_1) (fun a w => Try.call36 a w) rfl ⟨rfl, trivial⟩) ?_
        refine Walk.nil ?_
        refine Then.normal ?_
        refine Amk 3093 1 ⟨((.own 0) :: (tp 1 ((.d (.lit (.int .i64 p2))) :: (tp 1 ((.clo (.func 24) [] []) :: (tp 5 ((.d (.lit (.int .i64 y10_0))) :: ((.d (.lit (.int .i64 y11_0))) :: (tp 46 []))))))))), [(.arr 43 3 (List.length r31_1) (flatD enc_GChange r31_1))], 1⟩ ?_
        refine AWP.text ?_
        refine Wy (.d (.lit (.int .i64 y10_0))) [] (Omv rfl) ?_
        refine Wy (.d (.lit (.int .i64 y11_0))) [] (Omv rfl) ?_
        refine Wy (.d (.lit (.int .i64 (IntKind.i64.wrap (y10_0 - y11_0))))) [] (Obn rfl (fun _ => hb_sub (k := .i64))) ?_
        refine Wy (.d (.lit (.int .i64 (IntKind.i64.wrap (y10_0 - y11_0))))) [] (Omv rfl) ?_
        refine Walk.nil ?_
        refine InBlock.normal ?_
        refine RoundK.normal ?_
        exact Rounds.weak (Weak.toK 3093 0 0 [0]) (ih_0 (fu_0, r31_1, (IntKind.i64.wrap (y10_0 - y11_0)), y11_0) hm (Nat.lt_succ_self _))
      · replace hm := cF hc23_5 hm
        refine AWP.if_ false (Eq.trans (by kernel_rfl) (lit_tf (b := decide (y11_0 < y10_0)) hc23_5)) ?_
        refine AWP.seq ?_
        refine AWP.text ?_
        refine Wy (.own 0) [] (Omv rfl) ?_
        refine Wy (.d (.lit (.int .i64 p2))) [] (Omv rfl) ?_
        refine Wy (.d (.lit (.int .i64 y10_0))) [] (Omv rfl) ?_
        refine Wy (.d (.lit (.int .i64 (IntKind.i64.wrap (p2 - y10_0))))) [] (Obn rfl (fun _ => hb_sub (k := .i64))) ?_
        refine Wy (.d (.lit (.int .i64 p2))) [] (Omv rfl) ?_
        refine Wy (.d (.lit (.int .i64 y11_0))) [] (Omv rfl) ?_
        refine Wy (.d (.lit (.int .i64 (IntKind.i64.wrap (p2 + y11_0))))) [] (Obn rfl (fun _ => hb_add (k := .i64))) ?_
        refine Wy (.d (.lit (.int .i64 y10_0))) [] (Omv rfl) ?_
        refine Wy (.d (.lit (.int .i64 (IntKind.i64.wrap ((IntKind.i64.wrap (p2 + y11_0)) - y10_0))))) [] (Obn rfl (fun _ => hb_sub (k := .i64))) ?_
        refine Wy (.d (.lit (.int .i64 y10_0))) [] (Omv rfl) ?_
        refine Wy (.clo (.func 24) [] []) [] (Omv rfl) ?_
        obtain ⟨r46_2, hr46_2, hm⟩ := bnd hm
        refine Wy (.tup []) [(0, (.arr 43 3 (List.length r46_2) (flatD enc_GChange r46_2)))] (Ocf [0] [] [] 0 (ok_slices_swapRangeCmpFunc_tally_Change__tally_order y0_0 (IntKind.i64.wrap (p2 - y10_0)) (IntKind.i64.wrap ((IntKind.i64.wrap (p2 + y11_0)) - y10_0)) y10_0 r46_2 hr46_2) (fun a w => Try.call36 a w) rfl ⟨rfl, trivial⟩) ?_
        refine Walk.nil ?_
        refine Then.normal ?_
        refine Amk 3093 1 ⟨((.own 0) :: (tp 1 ((.d (.lit (.int .i64 p2))) :: (tp 1 ((.clo (.func 24) [] []) :: (tp 5 ((.d (.lit (.int .i64 y10_0))) :: ((.d (.lit (.int .i64 y11_0))) :: (tp 46 []))))))))), [(.arr 43 3 (List.length r46_2) (flatD enc_GChange r46_2))], 1⟩ ?_
        refine AWP.text ?_
        refine Wy (.d (.lit (.int .i64 y11_0))) [] (Omv rfl) ?_
        refine Wy (.d (.lit (.int .i64 y10_0))) [] (Omv rfl) ?_
        refine Wy (.d (.lit (.int .i64 (IntKind.i64.wrap (y11_0 - y10_0))))) [] (Obn rfl (fun _ => hb_sub (k := .i64))) ?_
        refine Wy (.d (.lit (.int .i64 (IntKind.i64.wrap (y11_0 - y10_0))))) [] (Omv rfl) ?_
        refine Walk.nil ?_
        refine InBlock.normal ?_
        refine RoundK.normal ?_
        exact Rounds.weak (Weak.toK 3093 0 0 [0]) (ih_0 (fu_0, r46_2, y10_0, (IntKind.i64.wrap (y11_0 - y10_0))) hm (Nat.lt_succ_self _))
    · replace hm := cF hc20_4 hm
      refine AWP.if_ false (Eq.trans (by kernel_rfl) (lit_tf (b := decide (y10_0 ≠ y11_0)) hc20_4)) ?_
      refine AWP.exit ?_
      refine Then.exit ?_
      refine RoundK.exit ?_
      refine InBlock.same ?_
      refine Then.normal ?_
      refine Amk 1045 1 ⟨((.own 0) :: (tp 1 ((.d (.lit (.int .i64 p2))) :: (tp 1 ((.clo (.func 24) [] []) :: (tp 5 ((.d (.lit (.int .i64 y10_0))) :: (tp 47 [])))))))), [(.arr 43 3 (List.length y0_0) (flatD enc_GChange y0_0))], 1⟩ ?_
      refine AWP.text ?_
      refine Wy (.own 0) [] (Omv rfl) ?_
      refine Wy (.d (.lit (.int .i64 p2))) [] (Omv rfl) ?_
      refine Wy (.d (.lit (.int .i64 y10_0))) [] (Omv rfl) ?_
      refine Wy (.d (.lit (.int .i64 (IntKind.i64.wrap (p2 - y10_0))))) [] (Obn rfl (fun _ => hb_sub (k := .i64))) ?_
      refine Wy (.d (.lit (.int .i64 p2))) [] (Omv rfl) ?_
      refine Wy (.d (.lit (.int .i64 y10_0))) [] (Omv rfl) ?_
      refine Wy (.clo (.func 24) [] []) [] (Omv rfl) ?_
      obtain ⟨r57_3, hr57_3, hm⟩ := bnd hm
      refine Wy (.tup []) [(0, (.arr 43 3 (List.length r57_3) (flatD enc_GChange r57_3)))] (Ocf [0] [] [] 0 (ok_slices_swapRangeCmpFunc_tally_Change__tally_order y0_0 (IntKind.i64.wrap (p2 - y10_0)) p2 y10_0 r57_3 hr57_3) (fun a w => Try.call36 a w) rfl ⟨rfl, trivial⟩) ?_
      refine Walk.nil ?_
      obtain rfl := Option.some.inj hm
      exact ret_n [0]
end Go.Proofs.Ythcilaomjkaciaa.K
