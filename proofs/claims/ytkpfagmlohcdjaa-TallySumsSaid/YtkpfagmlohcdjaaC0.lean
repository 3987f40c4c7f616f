/- what telltalelaw26.TallySums needs (0) -/
import Derived.Test.YtkpfagmlohcdjaaLM
namespace Go.Proofs.Ytkpfagmlohcdjaa.K
open Go.RowKit Go.Lib
set_option linter.unusedVariables false
set_option linter.unusedSimpArgs false

set_option maxRecDepth 20000 in
set_option maxHeartbeats 4000000 in
theorem ok_telltalelaw26_Over (p0 : (List GChange)) (r : Int) (h : m_telltalelaw26_Over p0 = some r) : GCall Try.prog 6 [(.l enc_GChange p0)] [] (.i r) [] := by
 refine GCall.of_body (n := 27) (rs := [(.tmp 2)]) Try.func6 rfl rfl rfl ?_
 refine Ato ⟨((.l enc_GChange p0) :: (tu 26 [])), [], 0⟩ ?_
 have hm := h
 unfold m_telltalelaw26_Over at hm
 refine AWP.seq ?_
 refine AWP.text ?_
 refine Wy (.i 0) [] (Omv rfl) ?_
 refine Walk.nil ?_
 refine Then.normal ?_
 refine Amk 1 0 ⟨((.l enc_GChange p0) :: (tp 26 [])), [], 0⟩ ?_
 refine AWP.seq ?_
 refine AWP.seq ?_
 refine AWP.text ?_
 refine Wy (.l enc_GChange p0) [] (Omv rfl) ?_
 refine Wy (.i ((List.length p0 : Nat) : Int)) [] (Oln rfl) ?_
 refine Wy (.b (decide ((40 : Int) < ((List.length p0 : Nat) : Int)))) [] (Obn rfl (fun _ => hb_gtr (k := .i64))) ?_
 refine Walk.nil ?_
 refine Then.normal ?_
 refine Amk 65 0 ⟨((.l enc_GChange p0) :: (tp 5 ((.b (decide ((40 : Int) < ((List.length p0 : Nat) : Int)))) :: (tp 20 [])))), [], 0⟩ ?_
 rcases tf_ (decide ((40 : Int) < ((List.length p0 : Nat) : Int))) with hc6_4 | hc6_4
 ·
  replace hm := cT hc6_4 hm
  refine AWP.if_ true (Eq.trans (by kernel_rfl) (lit_tf (b := decide ((40 : Int) < ((List.length p0 : Nat) : Int))) hc6_4)) ?_
  refine AWP.seq ?_
  refine AWP.text ?_
  refine Wy (.i 1) [] (Omv rfl) ?_
  refine Walk.nil ?_
  refine Then.normal ?_
  refine AWP.ret ?_
  refine Then.ret ?_
  obtain rfl := Option.some.inj hm
  exact ret_i []
 ·
  replace hm := cF hc6_4 hm
  refine AWP.if_ false (Eq.trans (by kernel_rfl) (lit_tf (b := decide ((40 : Int) < ((List.length p0 : Nat) : Int))) hc6_4)) ?_
  refine AWP.skip ?_
  refine Then.normal ?_
  refine Amk 1 0 ⟨((.l enc_GChange p0) :: (tp 26 [])), [], 0⟩ ?_
  refine AWP.seq ?_
  refine AWP.seq ?_
  refine AWP.text ?_
  refine Wy (.i 0) [] (Omv rfl) ?_
  refine Walk.nil ?_
  refine Then.normal ?_
  refine Amk 9 0 ⟨((.l enc_GChange p0) :: (tp 2 ((.i 0) :: (tp 23 [])))), [], 0⟩ ?_
  refine AWP.block ?_
  refine AWP.loopI (α := Nat × Int)
    (fun x => match x with | (fu_1, y3_1) => (⟨((.l enc_GChange p0) :: (tp 2 ((.i y3_1) :: (tp 23 [])))), [], 0⟩ : St))
    (fun x => match x with | (fu_1, y3_1) => m_telltalelaw26_Over_l1 p0 fu_1 y3_1 = some r)
    (fun x => match x with | (fu_1, y3_1) => fu_1) (1152921504606846976, 0)
    (Weak.toK 9 0 0 []) hm ?_
  rintro ⟨fu_1, y3_1⟩ n_1 hm ih_1
  try dsimp only at hm ih_1 ⊢
  cases fu_1 with
  | zero => exact absurd hm (by unfold m_telltalelaw26_Over_l1; simp)
  | succ fu_1 =>
   unfold m_telltalelaw26_Over_l1 at hm
   refine AWP.seq ?_
   refine AWP.seq ?_
   refine AWP.text ?_
   refine Wy (.i y3_1) [] (Omv rfl) ?_
   refine Wy (.l enc_GChange p0) [] (Omv rfl) ?_
   refine Wy (.i ((List.length p0 : Nat) : Int)) [] (Oln rfl) ?_
   refine Wy (.b (decide (y3_1 < ((List.length p0 : Nat) : Int)))) [] (Obn rfl (fun _ => hb_lss (k := .i64))) ?_
   refine Walk.nil ?_
   refine Then.normal ?_
   refine Amk 1033 0 ⟨((.l enc_GChange p0) :: (tp 2 ((.i y3_1) :: (tp 6 ((.b (decide (y3_1 < ((List.length p0 : Nat) : Int)))) :: (tp 16 [])))))), [], 0⟩ ?_
   rcases tf_ (decide (y3_1 < ((List.length p0 : Nat) : Int))) with hc10_5 | hc10_5
   ·
    replace hm := cT hc10_5 hm
    refine AWP.if_ true (Eq.trans (by kernel_rfl) (lit_tf (b := decide (y3_1 < ((List.length p0 : Nat) : Int))) hc10_5)) ?_
    refine AWP.skip ?_
    refine Then.normal ?_
    refine Amk 9 0 ⟨((.l enc_GChange p0) :: (tp 2 ((.i y3_1) :: (tp 23 [])))), [], 0⟩ ?_
    refine AWP.seq ?_
    refine AWP.block ?_
    refine AWP.seq ?_
    refine AWP.text ?_
    refine Wy (.l enc_GChange p0) [] (Omv rfl) ?_
    refine Wy (.i y3_1) [] (Omv rfl) ?_
    obtain ⟨x15_3, hx15_3, hm⟩ := bnd hm
    obtain ⟨hx15_3i, hx15_3g⟩ := geti_some hx15_3
    refine Wy (.d (.ref (List.drop ((Int.toNat y3_1) * 3) (flatD enc_GChange p0)))) [] (Oia rfl enc_GChange_len hx15_3i hx15_3g) ?_
    refine Wy (.d (.ref (List.drop 2 (List.drop ((Int.toNat y3_1) * 3) (flatD enc_GChange p0))))) [] (Ofa rfl) ?_
    refine Wy (.i x15_3.N) [] (Lfk1 2 rfl enc_GChange_len hx15_3g) ?_
    refine Wy (.b (decide (x15_3.N < (-1099511627776)))) [] (Obn rfl (fun _ => hb_lss (k := .i64))) ?_
    rcases tf_ (decide (x15_3.N < (-1099511627776))) with hq19_3 | hq19_3
    ·
     replace hm := cT hq19_3 hm
     refine Wy (.b true) [] (Ocs (lit_tf (b := decide (x15_3.N < (-1099511627776))) hq19_3) (Omv rfl)) ?_
     refine Wn ?_
     refine Wn ?_
     refine Wn ?_
     refine Wn ?_
     refine Wn ?_
     refine Wn ?_
     refine Wy (.b true) [] (OpT rfl) ?_
     refine Walk.nil ?_
     refine Then.normal ?_
     refine Amk 67108873 0 ⟨((.l enc_GChange p0) :: (tp 2 ((.i y3_1) :: (tp 22 ((.b true) :: []))))), [], 0⟩ ?_
     refine AWP.if_ true (by kernel_rfl) ?_
     refine AWP.seq ?_
     refine AWP.text ?_
     refine Wy (.i 1) [] (Omv rfl) ?_
     refine Walk.nil ?_
     refine Then.normal ?_
     refine AWP.ret ?_
     refine InBlock.ret ?_
     refine Then.ret ?_
     refine RoundK.ret ?_
     refine InBlock.ret ?_
     refine Then.ret ?_
     obtain rfl := Option.some.inj hm
     exact ret_i []
    ·
     replace hm := cF hq19_3 hm
     refine Wy (.b false) [] (Ocs (lit_tf (b := decide (x15_3.N < (-1099511627776))) hq19_3) (Omv rfl)) ?_
     refine Wy (.l enc_GChange p0) [] (Omv rfl) ?_
     refine Wy (.i y3_1) [] (Omv rfl) ?_
     obtain ⟨x22_3, hx22_3, hm⟩ := bnd hm
     obtain ⟨hx22_3i, hx22_3g⟩ := geti_some hx22_3
     refine Wy (.d (.ref (List.drop ((Int.toNat y3_1) * 3) (flatD enc_GChange p0)))) [] (Oia rfl enc_GChange_len hx22_3i hx22_3g) ?_
     refine Wy (.d (.ref (List.drop 2 (List.drop ((Int.toNat y3_1) * 3) (flatD enc_GChange p0))))) [] (Ofa rfl) ?_
     refine Wy (.i x22_3.N) [] (Lfk1 2 rfl enc_GChange_len hx22_3g) ?_
     refine Wy (.b (decide ((1099511627776 : Int) < x22_3.N))) [] (Obn rfl (fun _ => hb_gtr (k := .i64))) ?_
     refine Wy (.b (decide ((1099511627776 : Int) < x22_3.N))) [] (OpF rfl) ?_
     refine Walk.nil ?_
     refine Then.normal ?_
     refine Amk 67108873 0 ⟨((.l enc_GChange p0) :: (tp 2 ((.i y3_1) :: (tp 22 ((.b (decide ((1099511627776 : Int) < x22_3.N))) :: []))))), [], 0⟩ ?_
     rcases tf_ (decide ((1099511627776 : Int) < x22_3.N)) with hc26_6 | hc26_6
     ·
      replace hm := cT hc26_6 hm
      refine AWP.if_ true (Eq.trans (by kernel_rfl) (lit_tf (b := decide ((1099511627776 : Int) < x22_3.N)) hc26_6)) ?_
      refine AWP.seq ?_
      refine AWP.text ?_
      refine Wy (.i 1) [] (Omv rfl) ?_
      refine Walk.nil ?_
      refine Then.normal ?_
      refine AWP.ret ?_
      refine InBlock.ret ?_
      refine Then.ret ?_
      refine RoundK.ret ?_
      refine InBlock.ret ?_
      refine Then.ret ?_
      obtain rfl := Option.some.inj hm
      exact ret_i []
     ·
      replace hm := cF hc26_6 hm
      refine AWP.if_ false (Eq.trans (by kernel_rfl) (lit_tf (b := decide ((1099511627776 : Int) < x22_3.N)) hc26_6)) ?_
      refine AWP.skip ?_
      refine InBlock.normal ?_
      refine Then.normal ?_
      refine Amk 9 0 ⟨((.l enc_GChange p0) :: (tp 2 ((.i y3_1) :: (tp 23 [])))), [], 0⟩ ?_
      refine AWP.text ?_
      refine Wy (.i y3_1) [] (Omv rfl) ?_
      refine Wy (.i (IntKind.i64.wrap (y3_1 + 1))) [] (Obn rfl (fun _ => hb_add (k := .i64))) ?_
      refine Wy (.i (IntKind.i64.wrap (y3_1 + 1))) [] (Omv rfl) ?_
      refine Walk.nil ?_
      refine RoundK.normal ?_
      exact Rounds.weak (Weak.toK 9 0 0 []) (ih_1 (fu_1, (IntKind.i64.wrap (y3_1 + 1))) hm (Nat.lt_succ_self _))
   ·
    replace hm := cF hc10_5 hm
    refine AWP.if_ false (Eq.trans (by kernel_rfl) (lit_tf (b := decide (y3_1 < ((List.length p0 : Nat) : Int))) hc10_5)) ?_
    refine AWP.exit ?_
    refine Then.exit ?_
    refine RoundK.exit ?_
    refine InBlock.same ?_
    refine Then.normal ?_
    refine Amk 0 0 ⟨(tp 27 []), [], 0⟩ ?_
    refine AWP.seq ?_
    refine AWP.text ?_
    refine Wy (.i 0) [] (Omv rfl) ?_
    refine Walk.nil ?_
    refine Then.normal ?_
    refine AWP.ret ?_
    obtain rfl := Option.some.inj hm
    exact ret_i []

set_option maxRecDepth 20000 in
set_option maxHeartbeats 4000000 in
theorem ok_cmp_isNaN_int (p0 : Int) (r : Bool) (h : m_cmp_isNaN_int p0 = some r) : GCall Try.prog 51 [(.i p0)] [] (.b r) [] := by
 refine GCall.of_body (n := 6) (rs := [(.tmp 2)]) Try.func51 rfl rfl rfl ?_
 refine Ato ⟨((.i p0) :: (tu 5 [])), [], 0⟩ ?_
 have hm := h
 unfold m_cmp_isNaN_int at hm
 refine AWP.seq ?_
 refine AWP.text ?_
 refine Wy (.b false) [] (Omv rfl) ?_
 refine Walk.nil ?_
 refine Then.normal ?_
 refine Amk 1 0 ⟨((.i p0) :: (tp 5 [])), [], 0⟩ ?_
 refine AWP.seq ?_
 refine AWP.text ?_
 refine Wy (.i p0) [] (Omv rfl) ?_
 refine Wy (.i p0) [] (Omv rfl) ?_
 refine Wy (.b (decide (p0 ≠ p0))) [] (Obn rfl (fun _ => hb_neq (k := .i64))) ?_
 refine Wy (.b (decide (p0 ≠ p0))) [] (Omv rfl) ?_
 refine Walk.nil ?_
 refine Then.normal ?_
 refine AWP.ret ?_
 obtain rfl := Option.some.inj hm
 exact ret_i []

set_option maxRecDepth 20000 in
set_option maxHeartbeats 4000000 in
theorem ok_cmp_Compare_int (p0 : Int) (p1 : Int) (r : Int) (h : m_cmp_Compare_int p0 p1 = some r) : GCall Try.prog 42 [(.i p0), (.i p1)] [] (.i r) [] := by
 refine GCall.of_body (n := 20) (rs := [(.tmp 4)]) Try.func42 rfl rfl rfl ?_
 refine Ato ⟨((.i p0) :: ((.i p1) :: (tu 18 []))), [], 0⟩ ?_
 have hm := h
 unfold m_cmp_Compare_int at hm
 refine AWP.seq ?_
 refine AWP.text ?_
 refine Wy (.i 0) [] (Omv rfl) ?_
 refine Walk.nil ?_
 refine Then.normal ?_
 refine Amk 3 0 ⟨((.i p0) :: ((.i p1) :: (tp 18 []))), [], 0⟩ ?_
 refine AWP.seq ?_
 refine AWP.text ?_
 refine Wy (.i p0) [] (Omv rfl) ?_
 obtain ⟨r8_0, hr8_0, hm⟩ := bnd hm
 refine Wy (.b r8_0) [] (Ocf [] [] [] 0 (ok_cmp_isNaN_int p0 r8_0 hr8_0) (fun a w => Try.call51 a w) rfl trivial) ?_
 refine Wy (.b r8_0) [] (Omv rfl) ?_
 refine Walk.nil ?_
 refine Then.normal ?_
 refine Amk 35 0 ⟨((.i p0) :: ((.i p1) :: (tp 3 ((.b r8_0) :: (tp 14 []))))), [], 0⟩ ?_
 refine AWP.seq ?_
 refine AWP.text ?_
 refine Wy (.i p1) [] (Omv rfl) ?_
 obtain ⟨r10_1, hr10_1, hm⟩ := bnd hm
 refine Wy (.b r10_1) [] (Ocf [] [] [] 0 (ok_cmp_isNaN_int p1 r10_1 hr10_1) (fun a w => Try.call51 a w) rfl trivial) ?_
 refine Wy (.b r10_1) [] (Omv rfl) ?_
 refine Walk.nil ?_
 refine Then.normal ?_
 refine Amk 99 0 ⟨((.i p0) :: ((.i p1) :: (tp 3 ((.b r8_0) :: ((.b r10_1) :: (tp 13 [])))))), [], 0⟩ ?_
 refine AWP.seq ?_
 refine AWP.seq ?_
 refine AWP.text ?_
 refine Wy (.b r8_0) [] (Omv rfl) ?_
 refine Walk.nil ?_
 refine Then.normal ?_
 refine Amk 2115 0 ⟨((.i p0) :: ((.i p1) :: (tp 4 ((.b r10_1) :: (tp 4 ((.b r8_0) :: (tp 8 []))))))), [], 0⟩ ?_
 rcases tf_ r8_0 with hc11_2 | hc11_2
 ·
  replace hm := cT hc11_2 hm
  refine AWP.if_ true (Eq.trans (by kernel_rfl) (lit_tf (b := r8_0) hc11_2)) ?_
  refine AWP.seq ?_
  refine AWP.seq ?_
  refine AWP.text ?_
  refine Wy (.b r10_1) [] (Omv rfl) ?_
  refine Walk.nil ?_
  refine Then.normal ?_
  refine Amk 4096 0 ⟨(tp 12 ((.b r10_1) :: (tp 7 []))), [], 0⟩ ?_
  rcases tf_ r10_1 with hc12_3 | hc12_3
  ·
   replace hm := cT hc12_3 hm
   refine AWP.if_ true (Eq.trans (by kernel_rfl) (lit_tf (b := r10_1) hc12_3)) ?_
   refine AWP.seq ?_
   refine AWP.text ?_
   refine Wy (.i 0) [] (Omv rfl) ?_
   refine Walk.nil ?_
   refine Then.normal ?_
   refine AWP.ret ?_
   refine Then.ret ?_
   refine Then.ret ?_
   obtain rfl := Option.some.inj hm
   exact ret_i []
  ·
   replace hm := cF hc12_3 hm
   refine AWP.if_ false (Eq.trans (by kernel_rfl) (lit_tf (b := r10_1) hc12_3)) ?_
   refine AWP.skip ?_
   refine Then.normal ?_
   refine Amk 0 0 ⟨(tp 20 []), [], 0⟩ ?_
   refine AWP.seq ?_
   refine AWP.text ?_
   refine Wy (.i (-1)) [] (Omv rfl) ?_
   refine Walk.nil ?_
   refine Then.normal ?_
   refine AWP.ret ?_
   refine Then.ret ?_
   obtain rfl := Option.some.inj hm
   exact ret_i []
 ·
  replace hm := cF hc11_2 hm
  refine AWP.if_ false (Eq.trans (by kernel_rfl) (lit_tf (b := r8_0) hc11_2)) ?_
  refine AWP.skip ?_
  refine Then.normal ?_
  refine Amk 67 0 ⟨((.i p0) :: ((.i p1) :: (tp 4 ((.b r10_1) :: (tp 13 []))))), [], 0⟩ ?_
  refine AWP.seq ?_
  refine AWP.seq ?_
  refine AWP.text ?_
  refine Wy (.b r10_1) [] (Omv rfl) ?_
  refine Walk.nil ?_
  refine Then.normal ?_
  refine Amk 8195 0 ⟨((.i p0) :: ((.i p1) :: (tp 11 ((.b r10_1) :: (tp 6 []))))), [], 0⟩ ?_
  rcases tf_ r10_1 with hc13_4 | hc13_4
  ·
   replace hm := cT hc13_4 hm
   refine AWP.if_ true (Eq.trans (by kernel_rfl) (lit_tf (b := r10_1) hc13_4)) ?_
   refine AWP.seq ?_
   refine AWP.text ?_
   refine Wy (.i 1) [] (Omv rfl) ?_
   refine Walk.nil ?_
   refine Then.normal ?_
   refine AWP.ret ?_
   refine Then.ret ?_
   obtain rfl := Option.some.inj hm
   exact ret_i []
  ·
   replace hm := cF hc13_4 hm
   refine AWP.if_ false (Eq.trans (by kernel_rfl) (lit_tf (b := r10_1) hc13_4)) ?_
   refine AWP.skip ?_
   refine Then.normal ?_
   refine Amk 3 0 ⟨((.i p0) :: ((.i p1) :: (tp 18 []))), [], 0⟩ ?_
   refine AWP.seq ?_
   refine AWP.seq ?_
   refine AWP.text ?_
   refine Wy (.i p0) [] (Omv rfl) ?_
   refine Wy (.i p1) [] (Omv rfl) ?_
   refine Wy (.b (decide (p0 < p1))) [] (Obn rfl (fun _ => hb_lss (k := .i64))) ?_
   refine Walk.nil ?_
   refine Then.normal ?_
   refine Amk 65539 0 ⟨((.i p0) :: ((.i p1) :: (tp 14 ((.b (decide (p0 < p1))) :: (tp 3 []))))), [], 0⟩ ?_
   rcases tf_ (decide (p0 < p1)) with hc16_5 | hc16_5
   ·
    replace hm := cT hc16_5 hm
    refine AWP.if_ true (Eq.trans (by kernel_rfl) (lit_tf (b := decide (p0 < p1)) hc16_5)) ?_
    refine AWP.seq ?_
    refine AWP.text ?_
    refine Wy (.i (-1)) [] (Omv rfl) ?_
    refine Walk.nil ?_
    refine Then.normal ?_
    refine AWP.ret ?_
    refine Then.ret ?_
    obtain rfl := Option.some.inj hm
    exact ret_i []
   ·
    replace hm := cF hc16_5 hm
    refine AWP.if_ false (Eq.trans (by kernel_rfl) (lit_tf (b := decide (p0 < p1)) hc16_5)) ?_
    refine AWP.skip ?_
    refine Then.normal ?_
    refine Amk 3 0 ⟨((.i p0) :: ((.i p1) :: (tp 18 []))), [], 0⟩ ?_
    refine AWP.seq ?_
    refine AWP.seq ?_
    refine AWP.text ?_
    refine Wy (.i p0) [] (Omv rfl) ?_
    refine Wy (.i p1) [] (Omv rfl) ?_
    refine Wy (.b (decide (p1 < p0))) [] (Obn rfl (fun _ => hb_gtr (k := .i64))) ?_
    refine Walk.nil ?_
    refine Then.normal ?_
    refine Amk 524288 0 ⟨(tp 19 ((.b (decide (p1 < p0))) :: [])), [], 0⟩ ?_
    rcases tf_ (decide (p1 < p0)) with hc19_6 | hc19_6
    ·
     replace hm := cT hc19_6 hm
     refine AWP.if_ true (Eq.trans (by kernel_rfl) (lit_tf (b := decide (p1 < p0)) hc19_6)) ?_
     refine AWP.seq ?_
     refine AWP.text ?_
     refine Wy (.i 1) [] (Omv rfl) ?_
     refine Walk.nil ?_
     refine Then.normal ?_
     refine AWP.ret ?_
     refine Then.ret ?_
     obtain rfl := Option.some.inj hm
     exact ret_i []
    ·
     replace hm := cF hc19_6 hm
     refine AWP.if_ false (Eq.trans (by kernel_rfl) (lit_tf (b := decide (p1 < p0)) hc19_6)) ?_
     refine AWP.skip ?_
     refine Then.normal ?_
     refine Amk 0 0 ⟨(tp 20 []), [], 0⟩ ?_
     refine AWP.seq ?_
     refine AWP.text ?_
     refine Wy (.i 0) [] (Omv rfl) ?_
     refine Walk.nil ?_
     refine Then.normal ?_
     refine AWP.ret ?_
     obtain rfl := Option.some.inj hm
     exact ret_i []

set_option maxRecDepth 20000 in
set_option maxHeartbeats 4000000 in
theorem ok_cmp_Or_int (p0 : (List Int)) (r : Int) (h : m_cmp_Or_int p0 = some r) : GCall Try.prog 41 [(.l (encI .i64) p0)] [] (.i r) [] := by
 refine GCall.of_body (n := 18) (rs := [(.tmp 2)]) Try.func41 rfl rfl rfl ?_
 refine Ato ⟨((.l (encI .i64) p0) :: (tu 17 [])), [], 0⟩ ?_
 have hm := h
 unfold m_cmp_Or_int at hm
 refine AWP.seq ?_
 refine AWP.text ?_
 refine Wy (.i 0) [] (Omv rfl) ?_
 refine Walk.nil ?_
 refine Then.normal ?_
 refine Amk 1 0 ⟨((.l (encI .i64) p0) :: (tp 17 [])), [], 0⟩ ?_
 refine AWP.seq ?_
 refine AWP.text ?_
 refine Wy (.i 0) [] (Omv rfl) ?_
 refine Walk.nil ?_
 refine Then.normal ?_
 refine Amk 9 0 ⟨((.l (encI .i64) p0) :: (tp 2 ((.i 0) :: (tp 14 [])))), [], 0⟩ ?_
 refine AWP.seq ?_
 refine AWP.seq ?_
 refine AWP.text ?_
 refine Wy (.l (encI .i64) p0) [] (Omv rfl) ?_
 refine Wy (.i ((List.length p0 : Nat) : Int)) [] (Oln rfl) ?_
 refine Wy (.i 0) [] (Omv rfl) ?_
 refine Walk.nil ?_
 refine Then.normal ?_
 refine Amk 456 0 ⟨(tp 3 ((.i 0) :: (tp 2 ((.l (encI .i64) p0) :: ((.i ((List.length p0 : Nat) : Int)) :: ((.i 0) :: (tp 9 []))))))), [], 0⟩ ?_
 refine AWP.block ?_
 refine AWP.loopI (α := Nat × Int)
   (fun x => match x with | (fu_1, y8_1) => (⟨(tp 3 ((.i 0) :: (tp 2 ((.l (encI .i64) p0) :: ((.i ((List.length p0 : Nat) : Int)) :: ((.i y8_1) :: (tp 9 []))))))), [], 0⟩ : St))
   (fun x => match x with | (fu_1, y8_1) => m_cmp_Or_int_l1 p0 fu_1 y8_1 = some r)
   (fun x => match x with | (fu_1, y8_1) => fu_1) (1152921504606846976, 0)
   (Weak.toK 456 0 0 []) hm ?_
 rintro ⟨fu_1, y8_1⟩ n_1 hm ih_1
 try dsimp only at hm ih_1 ⊢
 cases fu_1 with
 | zero => exact absurd hm (by unfold m_cmp_Or_int_l1; simp)
 | succ fu_1 =>
  unfold m_cmp_Or_int_l1 at hm
  refine AWP.seq ?_
  refine AWP.text ?_
  refine Wy (.b (decide (y8_1 < ((List.length p0 : Nat) : Int)))) [] (Obn rfl (fun _ => hb_lss (k := .i64))) ?_
  refine Walk.nil ?_
  refine Then.normal ?_
  refine Amk 968 0 ⟨(tp 3 ((.i 0) :: (tp 2 ((.l (encI .i64) p0) :: ((.i ((List.length p0 : Nat) : Int)) :: ((.i y8_1) :: ((.b (decide (y8_1 < ((List.length p0 : Nat) : Int)))) :: (tp 8 [])))))))), [], 0⟩ ?_
  refine AWP.seq ?_
  rcases tf_ (decide (y8_1 < ((List.length p0 : Nat) : Int))) with hc9_3 | hc9_3
  ·
   replace hm := cT hc9_3 hm
   refine AWP.if_ true (Eq.trans (by kernel_rfl) (lit_tf (b := decide (y8_1 < ((List.length p0 : Nat) : Int))) hc9_3)) ?_
   refine AWP.skip ?_
   refine Then.normal ?_
   refine Amk 456 0 ⟨(tp 3 ((.i 0) :: (tp 2 ((.l (encI .i64) p0) :: ((.i ((List.length p0 : Nat) : Int)) :: ((.i y8_1) :: (tp 9 []))))))), [], 0⟩ ?_
   refine AWP.seq ?_
   refine AWP.block ?_
   refine AWP.seq ?_
   refine AWP.text ?_
   obtain ⟨x10_2, hx10_2, hm⟩ := bnd hm
   obtain ⟨hx10_2i, hx10_2g⟩ := geti_some hx10_2
   refine Wy (.d (.ref (List.drop ((Int.toNat y8_1) * 1) (flatD (encI .i64) p0)))) [] (Oia rfl (encI_len (k := .i64)) hx10_2i hx10_2g) ?_
   refine Wy (.i x10_2) [] (Lf1 rfl (encI_len (k := .i64)) hx10_2g) ?_
   refine Wy (.i x10_2) [] (Omv rfl) ?_
   refine Walk.nil ?_
   refine Then.normal ?_
   refine Amk 488 0 ⟨(tp 3 ((.i 0) :: (tp 1 ((.i x10_2) :: ((.l (encI .i64) p0) :: ((.i ((List.length p0 : Nat) : Int)) :: ((.i y8_1) :: (tp 9 [])))))))), [], 0⟩ ?_
   refine AWP.seq ?_
   refine AWP.text ?_
   refine Wy (.i x10_2) [] (Omv rfl) ?_
   refine Wy (.i 0) [] (Omv rfl) ?_
   refine Wy (.b (decide (x10_2 ≠ 0))) [] (Obn rfl (fun _ => hb_neq (k := .i64))) ?_
   refine Walk.nil ?_
   refine Then.normal ?_
   refine Amk 16872 0 ⟨(tp 3 ((.i 0) :: (tp 1 ((.i x10_2) :: ((.l (encI .i64) p0) :: ((.i ((List.length p0 : Nat) : Int)) :: ((.i y8_1) :: (tp 5 ((.b (decide (x10_2 ≠ 0))) :: (tp 3 [])))))))))), [], 0⟩ ?_
   rcases tf_ (decide (x10_2 ≠ 0)) with hc14_4 | hc14_4
   ·
    replace hm := cT hc14_4 hm
    refine AWP.if_ true (Eq.trans (by kernel_rfl) (lit_tf (b := decide (x10_2 ≠ 0)) hc14_4)) ?_
    refine AWP.seq ?_
    refine AWP.text ?_
    refine Wy (.i x10_2) [] (Omv rfl) ?_
    refine Wy (.i x10_2) [] (Omv rfl) ?_
    refine Walk.nil ?_
    refine Then.normal ?_
    refine AWP.ret ?_
    refine InBlock.ret ?_
    refine Then.ret ?_
    refine RoundK.ret ?_
    refine InBlock.ret ?_
    refine Then.ret ?_
    obtain rfl := Option.some.inj hm
    exact ret_i []
   ·
    replace hm := cF hc14_4 hm
    refine AWP.if_ false (Eq.trans (by kernel_rfl) (lit_tf (b := decide (x10_2 ≠ 0)) hc14_4)) ?_
    refine AWP.skip ?_
    refine InBlock.normal ?_
    refine Then.normal ?_
    refine Amk 456 0 ⟨(tp 3 ((.i 0) :: (tp 2 ((.l (encI .i64) p0) :: ((.i ((List.length p0 : Nat) : Int)) :: ((.i y8_1) :: (tp 9 []))))))), [], 0⟩ ?_
    refine AWP.text ?_
    refine Wy (.i (IntKind.i64.wrap (y8_1 + 1))) [] (Obn rfl (fun _ => hb_add (k := .i64))) ?_
    refine Wy (.i (IntKind.i64.wrap (y8_1 + 1))) [] (Omv rfl) ?_
    refine Walk.nil ?_
    refine RoundK.normal ?_
    exact Rounds.weak (Weak.toK 456 0 0 []) (ih_1 (fu_1, (IntKind.i64.wrap (y8_1 + 1))) hm (Nat.lt_succ_self _))
  ·
   replace hm := cF hc9_3 hm
   refine AWP.if_ false (Eq.trans (by kernel_rfl) (lit_tf (b := decide (y8_1 < ((List.length p0 : Nat) : Int))) hc9_3)) ?_
   refine AWP.exit ?_
   refine Then.exit ?_
   refine RoundK.exit ?_
   refine InBlock.same ?_
   refine Then.normal ?_
   refine Amk 8 0 ⟨(tp 3 ((.i 0) :: (tp 14 []))), [], 0⟩ ?_
   refine AWP.seq ?_
   refine AWP.text ?_
   refine Wy (.i 0) [] (Omv rfl) ?_
   refine Wy (.i 0) [] (Omv rfl) ?_
   refine Walk.nil ?_
   refine Then.normal ?_
   refine AWP.ret ?_
   obtain rfl := Option.some.inj hm
   exact ret_i []

set_option maxRecDepth 20000 in
set_option maxHeartbeats 4000000 in
theorem ok_tally_order (p0 : GChange) (p1 : GChange) (r : Int) (h : m_tally_order p0 p1 = some r) : GCall Try.prog 26 [(.agg [(.i p0.Loc), (.i p0.Time), (.i p0.N)]), (.agg [(.i p1.Loc), (.i p1.Time), (.i p1.N)])] [] (.i r) [] := by
 refine GCall.of_body (n := 17) (rs := [(.tmp 4)]) Try.func26 rfl rfl rfl ?_
 refine Ato ⟨((.agg [(.i p0.Loc), (.i p0.Time), (.i p0.N)]) :: ((.agg [(.i p1.Loc), (.i p1.Time), (.i p1.N)]) :: (tu 15 []))), [], 0⟩ ?_
 have hm := h
 unfold m_tally_order at hm
 refine AWP.seq ?_
 refine AWP.text ?_
 refine Wy (.loc 0 0) [(0, (.box [(.i p0.Loc), (.i p0.Time), (.i p0.N)]))] (Obx rfl) ?_
 refine Wy (.loc 1 0) [(1, (.box [(.i p1.Loc), (.i p1.Time), (.i p1.N)]))] (Obx rfl) ?_
 refine Wy (.i 0) [] (Omv rfl) ?_
 refine Walk.nil ?_
 refine Then.normal ?_
 refine Amk 12 3 ⟨(tp 2 ((.loc 0 0) :: ((.loc 1 0) :: (tp 13 [])))), [(.box [(.i p0.Loc), (.i p0.Time), (.i p0.N)]), (.box [(.i p1.Loc), (.i p1.Time), (.i p1.N)])], 0⟩ ?_
 refine AWP.seq ?_
 refine Adr ?_
 refine Wy (.loc 0 0) [] (Ofa rfl) ?_
 refine Wy (.i p0.Loc) [] (Old rfl) ?_
 refine Wy (.loc 1 0) [] (Ofa rfl) ?_
 refine Wy (.i p1.Loc) [] (Old rfl) ?_
 obtain ⟨r9_0, hr9_0, hm⟩ := bnd hm
 refine Wy (.i r9_0) [] (Ocf [] [] [] 0 (ok_cmp_Compare_int p0.Loc p1.Loc r9_0 hr9_0) (fun a w => Try.call42 a w) rfl trivial) ?_
 refine Wy (.loc 0 1) [] (Ofa rfl) ?_
 refine Wy (.i p0.Time) [] (Old rfl) ?_
 refine Wy (.loc 1 1) [] (Ofa rfl) ?_
 refine Wy (.i p1.Time) [] (Old rfl) ?_
 obtain ⟨r14_0, hr14_0, hm⟩ := bnd hm
 refine Wy (.i r14_0) [] (Ocf [] [] [] 0 (ok_cmp_Compare_int p0.Time p1.Time r14_0 hr14_0) (fun a w => Try.call42 a w) rfl trivial) ?_
 refine Wy (.own 2) [(2, (.arr 3 1 (List.length ([r9_0, r14_0] : List Int)) (flatD (encI .i64) ([r9_0, r14_0] : List Int))))] (Obs rfl) ?_
 obtain ⟨r16_0, hr16_0, hm⟩ := bnd hm
 refine Wy (.i r16_0) [] (Ocp [] [] [2] 0 (ok_cmp_Or_int ([r9_0, r14_0] : List Int) r16_0 hr16_0) (plain_triv (by simp [A.Plain, A.Plains, D.Plain, byteD])) (fun a w => Try.call41 a w) rfl trivial) ?_
 refine Wy (.i r16_0) [] (Omv rfl) ?_
 refine Wdr ?_
 refine Then.normal ?_
 refine AWP.ret ?_
 obtain rfl := Option.some.inj hm
 exact ret_i []

set_option maxRecDepth 20000 in
set_option maxHeartbeats 4000000 in
theorem ok_slices_insertionSortCmpFunc_tally_Change__tally_order (p0 : (List GChange)) (p1 : Int) (p2 : Int) (r : (List GChange)) (h : m_slices_insertionSortCmpFunc_tally_Change__tally_order p0 p1 p2 = some r) : GCall Try.prog 49 [(.own 0), (.i p1), (.i p2), (.clo (.func 26) [] [])] [(.arr 36 3 (List.length p0) (flatD enc_GChange p0))] (.tup []) [(.arr 36 3 (List.length r) (flatD enc_GChange r))] := by
 refine GCall.of_body (n := 53) (rs := []) Try.func49 rfl rfl rfl ?_
 refine Ato ⟨((.own 0) :: ((.i p1) :: ((.i p2) :: ((.clo (.func 26) [] []) :: (tu 49 []))))), [(.arr 36 3 (List.length p0) (flatD enc_GChange p0))], 1⟩ ?_
 have hm := h
 unfold m_slices_insertionSortCmpFunc_tally_Change__tally_order at hm
 refine AWP.seq ?_
 refine AWP.text ?_
 refine Wy (.i p1) [] (Omv rfl) ?_
 refine Wy (.i (IntKind.i64.wrap (p1 + 1))) [] (Obn rfl (fun _ => hb_add (k := .i64))) ?_
 refine Wy (.i (IntKind.i64.wrap (p1 + 1))) [] (Omv rfl) ?_
 refine Walk.nil ?_
 refine Then.normal ?_
 refine Amk 271 1 ⟨((.own 0) :: ((.i p1) :: ((.i p2) :: ((.clo (.func 26) [] []) :: (tp 4 ((.i (IntKind.i64.wrap (p1 + 1))) :: (tp 44 []))))))), [(.arr 36 3 (List.length p0) (flatD enc_GChange p0))], 1⟩ ?_
 refine AWP.block ?_
 refine AWP.loopI (α := Nat × (List GChange) × Int)
   (fun x => match x with | (fu_0, y0_0, y8_0) => (⟨((.own 0) :: ((.i p1) :: ((.i p2) :: ((.clo (.func 26) [] []) :: (tp 4 ((.i y8_0) :: (tp 44 []))))))), [(.arr 36 3 (List.length y0_0) (flatD enc_GChange y0_0))], 1⟩ : St))
   (fun x => match x with | (fu_0, y0_0, y8_0) => m_slices_insertionSortCmpFunc_tally_Change__tally_order_l0 p1 p2 fu_0 y0_0 y8_0 = some r)
   (fun x => match x with | (fu_0, y0_0, y8_0) => fu_0) (1152921504606846976, p0, (IntKind.i64.wrap (p1 + 1)))
   (Weak.toK 271 0 0 [0]) hm ?_
 rintro ⟨fu_0, y0_0, y8_0⟩ n_0 hm ih_0
 try dsimp only at hm ih_0 ⊢
 cases fu_0 with
 | zero => exact absurd hm (by unfold m_slices_insertionSortCmpFunc_tally_Change__tally_order_l0; simp)
 | succ fu_0 =>
  unfold m_slices_insertionSortCmpFunc_tally_Change__tally_order_l0 at hm
  refine AWP.seq ?_
  refine AWP.seq ?_
  refine AWP.text ?_
  refine Wy (.i y8_0) [] (Omv rfl) ?_
  refine Wy (.i p2) [] (Omv rfl) ?_
  refine Wy (.b (decide (y8_0 < p2))) [] (Obn rfl (fun _ => hb_lss (k := .i64))) ?_
  refine Walk.nil ?_
  refine Then.normal ?_
  refine Amk 16655 1 ⟨((.own 0) :: ((.i p1) :: ((.i p2) :: ((.clo (.func 26) [] []) :: (tp 4 ((.i y8_0) :: (tp 5 ((.b (decide (y8_0 < p2))) :: (tp 38 []))))))))), [(.arr 36 3 (List.length y0_0) (flatD enc_GChange y0_0))], 1⟩ ?_
  rcases tf_ (decide (y8_0 < p2)) with hc14_4 | hc14_4
  ·
   replace hm := cT hc14_4 hm
   refine AWP.if_ true (Eq.trans (by kernel_rfl) (lit_tf (b := decide (y8_0 < p2)) hc14_4)) ?_
   refine AWP.skip ?_
   refine Then.normal ?_
   refine Amk 271 1 ⟨((.own 0) :: ((.i p1) :: ((.i p2) :: ((.clo (.func 26) [] []) :: (tp 4 ((.i y8_0) :: (tp 44 []))))))), [(.arr 36 3 (List.length y0_0) (flatD enc_GChange y0_0))], 1⟩ ?_
   refine AWP.seq ?_
   refine AWP.block ?_
   refine AWP.seq ?_
   refine AWP.text ?_
   refine Wy (.i y8_0) [] (Omv rfl) ?_
   refine Wy (.i y8_0) [] (Omv rfl) ?_
   refine Walk.nil ?_
   refine Then.normal ?_
   refine Amk 783 1 ⟨((.own 0) :: ((.i p1) :: ((.i p2) :: ((.clo (.func 26) [] []) :: (tp 4 ((.i y8_0) :: ((.i y8_0) :: (tp 43 [])))))))), [(.arr 36 3 (List.length y0_0) (flatD enc_GChange y0_0))], 1⟩ ?_
   refine AWP.block ?_
   refine AWP.loopI (α := Nat × (List GChange) × Int)
     (fun x => match x with | (fu_1, y0_1, y9_1) => (⟨((.own 0) :: ((.i p1) :: ((.i p2) :: ((.clo (.func 26) [] []) :: (tp 4 ((.i y8_0) :: ((.i y9_1) :: (tp 43 [])))))))), [(.arr 36 3 (List.length y0_1) (flatD enc_GChange y0_1))], 1⟩ : St))
     (fun x => match x with | (fu_1, y0_1, y9_1) => m_slices_insertionSortCmpFunc_tally_Change__tally_order_l1 p1 y8_0 (fun y0_0 y8_0 => m_slices_insertionSortCmpFunc_tally_Change__tally_order_l0 p1 p2 fu_0 y0_0 y8_0) fu_1 y0_1 y9_1 = some r)
     (fun x => match x with | (fu_1, y0_1, y9_1) => fu_1) (1152921504606846976, y0_0, y8_0)
     (Weak.toK 783 0 0 [0]) hm ?_
   rintro ⟨fu_1, y0_1, y9_1⟩ n_1 hm ih_1
   try dsimp only at hm ih_1 ⊢
   cases fu_1 with
   | zero => exact absurd hm (by unfold m_slices_insertionSortCmpFunc_tally_Change__tally_order_l1; simp)
   | succ fu_1 =>
    unfold m_slices_insertionSortCmpFunc_tally_Change__tally_order_l1 at hm
    refine AWP.seq ?_
    refine AWP.seq ?_
    refine Adr ?_
    refine Wy (.i y9_1) [] (Omv rfl) ?_
    refine Wy (.i p1) [] (Omv rfl) ?_
    refine Wy (.b (decide (p1 < y9_1))) [] (Obn rfl (fun _ => hb_gtr (k := .i64))) ?_
    rcases tf_ (decide (p1 < y9_1)) with hq21_2 | hq21_2
    ·
     replace hm := cT hq21_2 hm
     refine Wy (.b true) [] (Ocs (lit_tf (b := decide (p1 < y9_1)) hq21_2) (Omv rfl)) ?_
     refine Wy (.clo (.func 26) [] []) [] (Omv rfl) ?_
     refine Wy (.own 0) [] (Omv rfl) ?_
     refine Wy (.i y9_1) [] (Omv rfl) ?_
     obtain ⟨x25_2, hx25_2, hm⟩ := bnd hm
     obtain ⟨hx25_2i, hx25_2g⟩ := geti_some hx25_2
     refine Wy (.loc 0 ((Int.toNat y9_1) * 3)) [] (Oia rfl enc_GChange_len hx25_2i hx25_2g) ?_
     refine Wy (.agg [(.i x25_2.Loc), (.i x25_2.Time), (.i x25_2.N)]) [] (Lr rfl enc_GChange_len hx25_2g) ?_
     refine Wy (.own 0) [] (Omv rfl) ?_
     refine Wy (.i y9_1) [] (Omv rfl) ?_
     refine Wy (.i (IntKind.i64.wrap (y9_1 - 1))) [] (Obn rfl (fun _ => hb_sub (k := .i64))) ?_
     obtain ⟨x30_2, hx30_2, hm⟩ := bnd hm
     obtain ⟨hx30_2i, hx30_2g⟩ := geti_some hx30_2
     refine Wy (.loc 0 ((Int.toNat (IntKind.i64.wrap (y9_1 - 1))) * 3)) [] (Oia rfl enc_GChange_len hx30_2i hx30_2g) ?_
     refine Wy (.agg [(.i x30_2.Loc), (.i x30_2.Time), (.i x30_2.N)]) [] (Lr rfl enc_GChange_len hx30_2g) ?_
     obtain ⟨r32_2, hr32_2, hm⟩ := bnd hm
     refine Wy (.i r32_2) [] (Ocf [] [] [] 0 (ok_tally_order x25_2 x30_2 r32_2 hr32_2) (fun a w => Try.call26 a w) rfl trivial) ?_
     refine Wy (.b (decide (r32_2 < 0))) [] (Obn rfl (fun _ => hb_lss (k := .i64))) ?_
     refine Wy (.b (decide (r32_2 < 0))) [] (OpT rfl) ?_
     refine Wdr ?_
     refine Then.normal ?_
     refine Amk 17179869967 1 ⟨((.own 0) :: ((.i p1) :: ((.i p2) :: ((.clo (.func 26) [] []) :: (tp 4 ((.i y8_0) :: ((.i y9_1) :: (tp 24 ((.b (decide (r32_2 < 0))) :: (tp 18 [])))))))))), [(.arr 36 3 (List.length y0_1) (flatD enc_GChange y0_1))], 1⟩ ?_
     rcases tf_ (decide (r32_2 < 0)) with hc34_5 | hc34_5
     ·
      replace hm := cT hc34_5 hm
      refine AWP.if_ true (Eq.trans (by kernel_rfl) (lit_tf (b := decide (r32_2 < 0)) hc34_5)) ?_
      refine AWP.skip ?_
      refine Then.normal ?_
      refine Amk 783 1 ⟨((.own 0) :: ((.i p1) :: ((.i p2) :: ((.clo (.func 26) [] []) :: (tp 4 ((.i y8_0) :: ((.i y9_1) :: (tp 43 [])))))))), [(.arr 36 3 (List.length y0_1) (flatD enc_GChange y0_1))], 1⟩ ?_
      refine AWP.seq ?_
      refine AWP.block ?_
      refine Adr ?_
      refine Wy (.own 0) [] (Omv rfl) ?_
      refine Wy (.i y9_1) [] (Omv rfl) ?_
      refine Wy (.own 0) [] (Omv rfl) ?_
      refine Wy (.i y9_1) [] (Omv rfl) ?_
      refine Wy (.i (IntKind.i64.wrap (y9_1 - 1))) [] (Obn rfl (fun _ => hb_sub (k := .i64))) ?_
      refine Wy (.own 0) [] (Omv rfl) ?_
      refine Wy (.i y9_1) [] (Omv rfl) ?_
      refine Wy (.i (IntKind.i64.wrap (y9_1 - 1))) [] (Obn rfl (fun _ => hb_sub (k := .i64))) ?_
      obtain ⟨x45_3, hx45_3, hm⟩ := bnd hm
      obtain ⟨hx45_3i, hx45_3g⟩ := geti_some hx45_3
      refine Wy (.loc 0 ((Int.toNat (IntKind.i64.wrap (y9_1 - 1))) * 3)) [] (Oia rfl enc_GChange_len hx45_3i hx45_3g) ?_
      refine Wy (.agg [(.i x45_3.Loc), (.i x45_3.Time), (.i x45_3.N)]) [] (Lr rfl enc_GChange_len hx45_3g) ?_
      refine Wy (.own 0) [] (Omv rfl) ?_
      refine Wy (.i y9_1) [] (Omv rfl) ?_
      obtain ⟨x49_3, hx49_3, hm⟩ := bnd hm
      obtain ⟨hx49_3i, hx49_3g⟩ := geti_some hx49_3
      refine Wy (.loc 0 ((Int.toNat y9_1) * 3)) [] (Oia rfl enc_GChange_len hx49_3i hx49_3g) ?_
      refine Wy (.agg [(.i x49_3.Loc), (.i x49_3.Time), (.i x49_3.N)]) [] (Lr rfl enc_GChange_len hx49_3g) ?_
      obtain ⟨x51_3, hx51_3, hm⟩ := bnd hm
      obtain ⟨hx51_3i, hx51_3g⟩ := geti_some hx51_3
      refine Wy (.loc 0 ((Int.toNat y9_1) * 3)) [] (Oia rfl enc_GChange_len hx51_3i hx51_3g) ?_
      refine Wy (.tup []) [(0, (.arr 36 3 (List.length (List.set y0_1 (Int.toNat y9_1) x45_3)) (flatD enc_GChange (List.set y0_1 (Int.toNat y9_1) x45_3))))] (Osr 0 rfl enc_GChange_len hx51_3g x45_3) ?_
      obtain ⟨x52_3, hx52_3, hm⟩ := bnd hm
      obtain ⟨hx52_3i, hx52_3g⟩ := geti_some hx52_3
      refine Wy (.loc 0 ((Int.toNat (IntKind.i64.wrap (y9_1 - 1))) * 3)) [] (Oia rfl enc_GChange_len hx52_3i hx52_3g) ?_
      refine Wy (.tup []) [(0, (.arr 36 3 (List.length (List.set (List.set y0_1 (Int.toNat y9_1) x45_3) (Int.toNat (IntKind.i64.wrap (y9_1 - 1))) x49_3)) (flatD enc_GChange (List.set (List.set y0_1 (Int.toNat y9_1) x45_3) (Int.toNat (IntKind.i64.wrap (y9_1 - 1))) x49_3))))] (Osr 0 rfl enc_GChange_len hx52_3g x49_3) ?_
      refine Wdr ?_
      refine InBlock.normal ?_
      refine Then.normal ?_
      refine Amk 783 1 ⟨((.own 0) :: ((.i p1) :: ((.i p2) :: ((.clo (.func 26) [] []) :: (tp 4 ((.i y8_0) :: ((.i y9_1) :: (tp 43 [])))))))), [(.arr 36 3 (List.length (List.set (List.set y0_1 (Int.toNat y9_1) x45_3) (Int.toNat (IntKind.i64.wrap (y9_1 - 1))) x49_3)) (flatD enc_GChange (List.set (List.set y0_1 (Int.toNat y9_1) x45_3) (Int.toNat (IntKind.i64.wrap (y9_1 - 1))) x49_3)))], 1⟩ ?_
      refine AWP.text ?_
      refine Wy (.i y9_1) [] (Omv rfl) ?_
      refine Wy (.i (IntKind.i64.wrap (y9_1 - 1))) [] (Obn rfl (fun _ => hb_sub (k := .i64))) ?_
      refine Wy (.i (IntKind.i64.wrap (y9_1 - 1))) [] (Omv rfl) ?_
      refine Walk.nil ?_
      refine RoundK.normal ?_
      exact Rounds.weak (Weak.toK 783 0 0 [0]) (ih_1 (fu_1, (List.set (List.set y0_1 (Int.toNat y9_1) x45_3) (Int.toNat (IntKind.i64.wrap (y9_1 - 1))) x49_3), (IntKind.i64.wrap (y9_1 - 1))) hm (Nat.lt_succ_self _))
     ·
      replace hm := cF hc34_5 hm
      refine AWP.if_ false (Eq.trans (by kernel_rfl) (lit_tf (b := decide (r32_2 < 0)) hc34_5)) ?_
      refine AWP.exit ?_
      refine Then.exit ?_
      refine RoundK.exit ?_
      refine InBlock.same ?_
      refine InBlock.normal ?_
      refine Then.normal ?_
      refine Amk 271 1 ⟨((.own 0) :: ((.i p1) :: ((.i p2) :: ((.clo (.func 26) [] []) :: (tp 4 ((.i y8_0) :: (tp 44 []))))))), [(.arr 36 3 (List.length y0_1) (flatD enc_GChange y0_1))], 1⟩ ?_
      refine AWP.text ?_
      refine Wy (.i y8_0) [] (Omv rfl) ?_
      refine Wy (.i (IntKind.i64.wrap (y8_0 + 1))) [] (Obn rfl (fun _ => hb_add (k := .i64))) ?_
      refine Wy (.i (IntKind.i64.wrap (y8_0 + 1))) [] (Omv rfl) ?_
      refine Walk.nil ?_
      refine RoundK.normal ?_
      exact Rounds.weak (Weak.toK 271 0 0 [0]) (ih_0 (fu_0, y0_1, (IntKind.i64.wrap (y8_0 + 1))) hm (Nat.lt_succ_self _))
    ·
     replace hm := cF hq21_2 hm
     refine Wy (.b false) [] (Ocs (lit_tf (b := decide (p1 < y9_1)) hq21_2) (Omv rfl)) ?_
     refine Wn ?_
     refine Wn ?_
     refine Wn ?_
     refine Wn ?_
     refine Wn ?_
     refine Wn ?_
     refine Wn ?_
     refine Wn ?_
     refine Wn ?_
     refine Wn ?_
     refine Wn ?_
     refine Wn ?_
     refine Wy (.b false) [] (OpF rfl) ?_
     refine Wdr ?_
     refine Then.normal ?_
     refine Amk 17179869967 1 ⟨((.own 0) :: ((.i p1) :: ((.i p2) :: ((.clo (.func 26) [] []) :: (tp 4 ((.i y8_0) :: ((.i y9_1) :: (tp 24 ((.b false) :: (tp 18 [])))))))))), [(.arr 36 3 (List.length y0_1) (flatD enc_GChange y0_1))], 1⟩ ?_
     refine AWP.if_ false (by kernel_rfl) ?_
     refine AWP.exit ?_
     refine Then.exit ?_
     refine RoundK.exit ?_
     refine InBlock.same ?_
     refine InBlock.normal ?_
     refine Then.normal ?_
     refine Amk 271 1 ⟨((.own 0) :: ((.i p1) :: ((.i p2) :: ((.clo (.func 26) [] []) :: (tp 4 ((.i y8_0) :: (tp 44 []))))))), [(.arr 36 3 (List.length y0_1) (flatD enc_GChange y0_1))], 1⟩ ?_
     refine AWP.text ?_
     refine Wy (.i y8_0) [] (Omv rfl) ?_
     refine Wy (.i (IntKind.i64.wrap (y8_0 + 1))) [] (Obn rfl (fun _ => hb_add (k := .i64))) ?_
     refine Wy (.i (IntKind.i64.wrap (y8_0 + 1))) [] (Omv rfl) ?_
     refine Walk.nil ?_
     refine RoundK.normal ?_
     exact Rounds.weak (Weak.toK 271 0 0 [0]) (ih_0 (fu_0, y0_1, (IntKind.i64.wrap (y8_0 + 1))) hm (Nat.lt_succ_self _))
  ·
   replace hm := cF hc14_4 hm
   refine AWP.if_ false (Eq.trans (by kernel_rfl) (lit_tf (b := decide (y8_0 < p2)) hc14_4)) ?_
   refine AWP.exit ?_
   refine Then.exit ?_
   refine RoundK.exit ?_
   refine InBlock.same ?_
   obtain rfl := Option.some.inj hm
   exact ret_n [0]

set_option maxRecDepth 20000 in
set_option maxHeartbeats 4000000 in
theorem ok_slices_swapRangeCmpFunc_tally_Change__tally_order (p0 : (List GChange)) (p1 : Int) (p2 : Int) (p3 : Int) (r : (List GChange)) (h : m_slices_swapRangeCmpFunc_tally_Change__tally_order p0 p1 p2 p3 = some r) : GCall Try.prog 55 [(.own 0), (.i p1), (.i p2), (.i p3), (.clo (.func 26) [] [])] [(.arr 36 3 (List.length p0) (flatD enc_GChange p0))] (.tup []) [(.arr 36 3 (List.length r) (flatD enc_GChange r))] := by
 refine GCall.of_body (n := 38) (rs := []) Try.func55 rfl rfl rfl ?_
 refine Ato ⟨((.own 0) :: ((.i p1) :: ((.i p2) :: ((.i p3) :: ((.clo (.func 26) [] []) :: (tu 33 [])))))), [(.arr 36 3 (List.length p0) (flatD enc_GChange p0))], 1⟩ ?_
 have hm := h
 unfold m_slices_swapRangeCmpFunc_tally_Change__tally_order at hm
 refine AWP.seq ?_
 refine AWP.text ?_
 refine Wy (.i 0) [] (Omv rfl) ?_
 refine Walk.nil ?_
 refine Then.normal ?_
 refine Amk 1039 1 ⟨((.own 0) :: ((.i p1) :: ((.i p2) :: ((.i p3) :: (tp 6 ((.i 0) :: (tp 27 []))))))), [(.arr 36 3 (List.length p0) (flatD enc_GChange p0))], 1⟩ ?_
 refine AWP.block ?_
 refine AWP.loopI (α := Nat × (List GChange) × Int)
   (fun x => match x with | (fu_0, y0_0, y10_0) => (⟨((.own 0) :: ((.i p1) :: ((.i p2) :: ((.i p3) :: (tp 6 ((.i y10_0) :: (tp 27 []))))))), [(.arr 36 3 (List.length y0_0) (flatD enc_GChange y0_0))], 1⟩ : St))
   (fun x => match x with | (fu_0, y0_0, y10_0) => m_slices_swapRangeCmpFunc_tally_Change__tally_order_l0 p1 p2 p3 fu_0 y0_0 y10_0 = some r)
   (fun x => match x with | (fu_0, y0_0, y10_0) => fu_0) (1152921504606846976, p0, 0)
   (Weak.toK 1039 0 0 [0]) hm ?_
 rintro ⟨fu_0, y0_0, y10_0⟩ n_0 hm ih_0
 try dsimp only at hm ih_0 ⊢
 cases fu_0 with
 | zero => exact absurd hm (by unfold m_slices_swapRangeCmpFunc_tally_Change__tally_order_l0; simp)
 | succ fu_0 =>
  unfold m_slices_swapRangeCmpFunc_tally_Change__tally_order_l0 at hm
  refine AWP.seq ?_
  refine AWP.seq ?_
  refine AWP.text ?_
  refine Wy (.i y10_0) [] (Omv rfl) ?_
  refine Wy (.i p3) [] (Omv rfl) ?_
  refine Wy (.b (decide (y10_0 < p3))) [] (Obn rfl (fun _ => hb_lss (k := .i64))) ?_
  refine Walk.nil ?_
  refine Then.normal ?_
  refine Amk 9231 1 ⟨((.own 0) :: ((.i p1) :: ((.i p2) :: ((.i p3) :: (tp 6 ((.i y10_0) :: (tp 2 ((.b (decide (y10_0 < p3))) :: (tp 24 []))))))))), [(.arr 36 3 (List.length y0_0) (flatD enc_GChange y0_0))], 1⟩ ?_
  rcases tf_ (decide (y10_0 < p3)) with hc13_2 | hc13_2
  ·
   replace hm := cT hc13_2 hm
   refine AWP.if_ true (Eq.trans (by kernel_rfl) (lit_tf (b := decide (y10_0 < p3)) hc13_2)) ?_
   refine AWP.skip ?_
   refine Then.normal ?_
   refine Amk 1039 1 ⟨((.own 0) :: ((.i p1) :: ((.i p2) :: ((.i p3) :: (tp 6 ((.i y10_0) :: (tp 27 []))))))), [(.arr 36 3 (List.length y0_0) (flatD enc_GChange y0_0))], 1⟩ ?_
   refine AWP.seq ?_
   refine AWP.block ?_
   refine Adr ?_
   refine Wy (.own 0) [] (Omv rfl) ?_
   refine Wy (.i p1) [] (Omv rfl) ?_
   refine Wy (.i y10_0) [] (Omv rfl) ?_
   refine Wy (.i (IntKind.i64.wrap (p1 + y10_0))) [] (Obn rfl (fun _ => hb_add (k := .i64))) ?_
   refine Wy (.own 0) [] (Omv rfl) ?_
   refine Wy (.i p2) [] (Omv rfl) ?_
   refine Wy (.i y10_0) [] (Omv rfl) ?_
   refine Wy (.i (IntKind.i64.wrap (p2 + y10_0))) [] (Obn rfl (fun _ => hb_add (k := .i64))) ?_
   refine Wy (.own 0) [] (Omv rfl) ?_
   refine Wy (.i p2) [] (Omv rfl) ?_
   refine Wy (.i y10_0) [] (Omv rfl) ?_
   refine Wy (.i (IntKind.i64.wrap (p2 + y10_0))) [] (Obn rfl (fun _ => hb_add (k := .i64))) ?_
   obtain ⟨x28_1, hx28_1, hm⟩ := bnd hm
   obtain ⟨hx28_1i, hx28_1g⟩ := geti_some hx28_1
   refine Wy (.loc 0 ((Int.toNat (IntKind.i64.wrap (p2 + y10_0))) * 3)) [] (Oia rfl enc_GChange_len hx28_1i hx28_1g) ?_
   refine Wy (.agg [(.i x28_1.Loc), (.i x28_1.Time), (.i x28_1.N)]) [] (Lr rfl enc_GChange_len hx28_1g) ?_
   refine Wy (.own 0) [] (Omv rfl) ?_
   refine Wy (.i p1) [] (Omv rfl) ?_
   refine Wy (.i y10_0) [] (Omv rfl) ?_
   refine Wy (.i (IntKind.i64.wrap (p1 + y10_0))) [] (Obn rfl (fun _ => hb_add (k := .i64))) ?_
   obtain ⟨x34_1, hx34_1, hm⟩ := bnd hm
   obtain ⟨hx34_1i, hx34_1g⟩ := geti_some hx34_1
   refine Wy (.loc 0 ((Int.toNat (IntKind.i64.wrap (p1 + y10_0))) * 3)) [] (Oia rfl enc_GChange_len hx34_1i hx34_1g) ?_
   refine Wy (.agg [(.i x34_1.Loc), (.i x34_1.Time), (.i x34_1.N)]) [] (Lr rfl enc_GChange_len hx34_1g) ?_
   obtain ⟨x36_1, hx36_1, hm⟩ := bnd hm
   obtain ⟨hx36_1i, hx36_1g⟩ := geti_some hx36_1
   refine Wy (.loc 0 ((Int.toNat (IntKind.i64.wrap (p1 + y10_0))) * 3)) [] (Oia rfl enc_GChange_len hx36_1i hx36_1g) ?_
   refine Wy (.tup []) [(0, (.arr 36 3 (List.length (List.set y0_0 (Int.toNat (IntKind.i64.wrap (p1 + y10_0))) x28_1)) (flatD enc_GChange (List.set y0_0 (Int.toNat (IntKind.i64.wrap (p1 + y10_0))) x28_1))))] (Osr 0 rfl enc_GChange_len hx36_1g x28_1) ?_
   obtain ⟨x37_1, hx37_1, hm⟩ := bnd hm
   obtain ⟨hx37_1i, hx37_1g⟩ := geti_some hx37_1
   refine Wy (.loc 0 ((Int.toNat (IntKind.i64.wrap (p2 + y10_0))) * 3)) [] (Oia rfl enc_GChange_len hx37_1i hx37_1g) ?_
   refine Wy (.tup []) [(0, (.arr 36 3 (List.length (List.set (List.set y0_0 (Int.toNat (IntKind.i64.wrap (p1 + y10_0))) x28_1) (Int.toNat (IntKind.i64.wrap (p2 + y10_0))) x34_1)) (flatD enc_GChange (List.set (List.set y0_0 (Int.toNat (IntKind.i64.wrap (p1 + y10_0))) x28_1) (Int.toNat (IntKind.i64.wrap (p2 + y10_0))) x34_1))))] (Osr 0 rfl enc_GChange_len hx37_1g x34_1) ?_
   refine Wdr ?_
   refine InBlock.normal ?_
   refine Then.normal ?_
   refine Amk 1039 1 ⟨((.own 0) :: ((.i p1) :: ((.i p2) :: ((.i p3) :: (tp 6 ((.i y10_0) :: (tp 27 []))))))), [(.arr 36 3 (List.length (List.set (List.set y0_0 (Int.toNat (IntKind.i64.wrap (p1 + y10_0))) x28_1) (Int.toNat (IntKind.i64.wrap (p2 + y10_0))) x34_1)) (flatD enc_GChange (List.set (List.set y0_0 (Int.toNat (IntKind.i64.wrap (p1 + y10_0))) x28_1) (Int.toNat (IntKind.i64.wrap (p2 + y10_0))) x34_1)))], 1⟩ ?_
   refine AWP.text ?_
   refine Wy (.i y10_0) [] (Omv rfl) ?_
   refine Wy (.i (IntKind.i64.wrap (y10_0 + 1))) [] (Obn rfl (fun _ => hb_add (k := .i64))) ?_
   refine Wy (.i (IntKind.i64.wrap (y10_0 + 1))) [] (Omv rfl) ?_
   refine Walk.nil ?_
   refine RoundK.normal ?_
   exact Rounds.weak (Weak.toK 1039 0 0 [0]) (ih_0 (fu_0, (List.set (List.set y0_0 (Int.toNat (IntKind.i64.wrap (p1 + y10_0))) x28_1) (Int.toNat (IntKind.i64.wrap (p2 + y10_0))) x34_1), (IntKind.i64.wrap (y10_0 + 1))) hm (Nat.lt_succ_self _))
  ·
   replace hm := cF hc13_2 hm
   refine AWP.if_ false (Eq.trans (by kernel_rfl) (lit_tf (b := decide (y10_0 < p3)) hc13_2)) ?_
   refine AWP.exit ?_
   refine Then.exit ?_
   refine RoundK.exit ?_
   refine InBlock.same ?_
   obtain rfl := Option.some.inj hm
   exact ret_n [0]

set_option maxRecDepth 20000 in
set_option maxHeartbeats 4000000 in
theorem ok_slices_rotateCmpFunc_tally_Change__tally_order (p0 : (List GChange)) (p1 : Int) (p2 : Int) (p3 : Int) (r : (List GChange)) (h : m_slices_rotateCmpFunc_tally_Change__tally_order p0 p1 p2 p3 = some r) : GCall Try.prog 54 [(.own 0), (.i p1), (.i p2), (.i p3), (.clo (.func 26) [] [])] [(.arr 36 3 (List.length p0) (flatD enc_GChange p0))] (.tup []) [(.arr 36 3 (List.length r) (flatD enc_GChange r))] := by
 refine GCall.of_body (n := 58) (rs := []) Try.func54 rfl rfl rfl ?_
 refine Ato ⟨((.own 0) :: ((.i p1) :: ((.i p2) :: ((.i p3) :: ((.clo (.func 26) [] []) :: (tu 53 [])))))), [(.arr 36 3 (List.length p0) (flatD enc_GChange p0))], 1⟩ ?_
 have hm := h
 unfold m_slices_rotateCmpFunc_tally_Change__tally_order at hm
 refine AWP.seq ?_
 refine AWP.text ?_
 refine Wy (.i p2) [] (Omv rfl) ?_
 refine Wy (.i p1) [] (Omv rfl) ?_
 refine Wy (.i (IntKind.i64.wrap (p2 - p1))) [] (Obn rfl (fun _ => hb_sub (k := .i64))) ?_
 refine Wy (.i (IntKind.i64.wrap (p2 - p1))) [] (Omv rfl) ?_
 refine Walk.nil ?_
 refine Then.normal ?_
 refine Amk 1053 1 ⟨((.own 0) :: (tp 1 ((.i p2) :: ((.i p3) :: ((.clo (.func 26) [] []) :: (tp 5 ((.i (IntKind.i64.wrap (p2 - p1))) :: (tp 47 [])))))))), [(.arr 36 3 (List.length p0) (flatD enc_GChange p0))], 1⟩ ?_
 refine AWP.seq ?_
 refine AWP.text ?_
 refine Wy (.i p3) [] (Omv rfl) ?_
 refine Wy (.i p2) [] (Omv rfl) ?_
 refine Wy (.i (IntKind.i64.wrap (p3 - p2))) [] (Obn rfl (fun _ => hb_sub (k := .i64))) ?_
 refine Wy (.i (IntKind.i64.wrap (p3 - p2))) [] (Omv rfl) ?_
 refine Walk.nil ?_
 refine Then.normal ?_
 refine Amk 3093 1 ⟨((.own 0) :: (tp 1 ((.i p2) :: (tp 1 ((.clo (.func 26) [] []) :: (tp 5 ((.i (IntKind.i64.wrap (p2 - p1))) :: ((.i (IntKind.i64.wrap (p3 - p2))) :: (tp 46 []))))))))), [(.arr 36 3 (List.length p0) (flatD enc_GChange p0))], 1⟩ ?_
 refine AWP.seq ?_
 refine AWP.block ?_
 refine AWP.loopI (α := Nat × (List GChange) × Int × Int)
   (fun x => match x with | (fu_0, y0_0, y10_0, y11_0) => (⟨((.own 0) :: (tp 1 ((.i p2) :: (tp 1 ((.clo (.func 26) [] []) :: (tp 5 ((.i y10_0) :: ((.i y11_0) :: (tp 46 []))))))))), [(.arr 36 3 (List.length y0_0) (flatD enc_GChange y0_0))], 1⟩ : St))
   (fun x => match x with | (fu_0, y0_0, y10_0, y11_0) => m_slices_rotateCmpFunc_tally_Change__tally_order_l0 p2 fu_0 y0_0 y10_0 y11_0 = some r)
   (fun x => match x with | (fu_0, y0_0, y10_0, y11_0) => fu_0) (1152921504606846976, p0, (IntKind.i64.wrap (p2 - p1)), (IntKind.i64.wrap (p3 - p2)))
   (Weak.toK 3093 0 0 [0]) hm ?_
 rintro ⟨fu_0, y0_0, y10_0, y11_0⟩ n_0 hm ih_0
 try dsimp only at hm ih_0 ⊢
 cases fu_0 with
 | zero => exact absurd hm (by unfold m_slices_rotateCmpFunc_tally_Change__tally_order_l0; simp)
 | succ fu_0 =>
  unfold m_slices_rotateCmpFunc_tally_Change__tally_order_l0 at hm
  refine AWP.seq ?_
  refine AWP.seq ?_
  refine AWP.text ?_
  refine Wy (.i y10_0) [] (Omv rfl) ?_
  refine Wy (.i y11_0) [] (Omv rfl) ?_
  refine Wy (.b (decide (y10_0 ≠ y11_0))) [] (Obn rfl (fun _ => hb_neq (k := .i64))) ?_
  refine Walk.nil ?_
  refine Then.normal ?_
  refine Amk 1051669 1 ⟨((.own 0) :: (tp 1 ((.i p2) :: (tp 1 ((.clo (.func 26) [] []) :: (tp 5 ((.i y10_0) :: ((.i y11_0) :: (tp 8 ((.b (decide (y10_0 ≠ y11_0))) :: (tp 37 []))))))))))), [(.arr 36 3 (List.length y0_0) (flatD enc_GChange y0_0))], 1⟩ ?_
  rcases tf_ (decide (y10_0 ≠ y11_0)) with hc20_4 | hc20_4
  ·
   replace hm := cT hc20_4 hm
   refine AWP.if_ true (Eq.trans (by kernel_rfl) (lit_tf (b := decide (y10_0 ≠ y11_0)) hc20_4)) ?_
   refine AWP.skip ?_
   refine Then.normal ?_
   refine Amk 3093 1 ⟨((.own 0) :: (tp 1 ((.i p2) :: (tp 1 ((.clo (.func 26) [] []) :: (tp 5 ((.i y10_0) :: ((.i y11_0) :: (tp 46 []))))))))), [(.arr 36 3 (List.length y0_0) (flatD enc_GChange y0_0))], 1⟩ ?_
   refine AWP.block ?_
   refine AWP.seq ?_
   refine AWP.text ?_
   refine Wy (.i y10_0) [] (Omv rfl) ?_
   refine Wy (.i y11_0) [] (Omv rfl) ?_
   refine Wy (.b (decide (y11_0 < y10_0))) [] (Obn rfl (fun _ => hb_gtr (k := .i64))) ?_
   refine Walk.nil ?_
   refine Then.normal ?_
   refine Amk 8391701 1 ⟨((.own 0) :: (tp 1 ((.i p2) :: (tp 1 ((.clo (.func 26) [] []) :: (tp 5 ((.i y10_0) :: ((.i y11_0) :: (tp 11 ((.b (decide (y11_0 < y10_0))) :: (tp 34 []))))))))))), [(.arr 36 3 (List.length y0_0) (flatD enc_GChange y0_0))], 1⟩ ?_
   rcases tf_ (decide (y11_0 < y10_0)) with hc23_5 | hc23_5
   ·
    replace hm := cT hc23_5 hm
    refine AWP.if_ true (Eq.trans (by kernel_rfl) (lit_tf (b := decide (y11_0 < y10_0)) hc23_5)) ?_
    refine AWP.seq ?_
    refine AWP.text ?_
    refine Wy (.own 0) [] (Omv rfl) ?_
    refine Wy (.i p2) [] (Omv rfl) ?_
    refine Wy (.i y10_0) [] (Omv rfl) ?_
    refine Wy (.i (IntKind.i64.wrap (p2 - y10_0))) [] (Obn rfl (fun _ => hb_sub (k := .i64))) ?_
    refine Wy (.i p2) [] (Omv rfl) ?_
    refine Wy (.i y11_0) [] (Omv rfl) ?_
    refine Wy (.clo (.func 26) [] []) [] (Omv rfl) ?_
    obtain ⟨r31_1, hr31_1, hm⟩ := bnd hm
    refine Wy (.tup []) [(0, (.arr 36 3 (List.length r31_1) (flatD enc_GChange r31_1)))] (Ocf [0] [] [] 0 (ok_slices_swapRangeCmpFunc_tally_Change__tally_order y0_0 (IntKind.i64.wrap (p2 - y10_0)) p2 y11_0 r31_1 hr31_1) (fun a w => Try.call55 a w) rfl ⟨rfl, trivial⟩) ?_
    refine Walk.nil ?_
    refine Then.normal ?_
    refine Amk 3093 1 ⟨((.own 0) :: (tp 1 ((.i p2) :: (tp 1 ((.clo (.func 26) [] []) :: (tp 5 ((.i y10_0) :: ((.i y11_0) :: (tp 46 []))))))))), [(.arr 36 3 (List.length r31_1) (flatD enc_GChange r31_1))], 1⟩ ?_
    refine AWP.text ?_
    refine Wy (.i y10_0) [] (Omv rfl) ?_
    refine Wy (.i y11_0) [] (Omv rfl) ?_
    refine Wy (.i (IntKind.i64.wrap (y10_0 - y11_0))) [] (Obn rfl (fun _ => hb_sub (k := .i64))) ?_
    refine Wy (.i (IntKind.i64.wrap (y10_0 - y11_0))) [] (Omv rfl) ?_
    refine Walk.nil ?_
    refine InBlock.normal ?_
    refine RoundK.normal ?_
    exact Rounds.weak (Weak.toK 3093 0 0 [0]) (ih_0 (fu_0, r31_1, (IntKind.i64.wrap (y10_0 - y11_0)), y11_0) hm (Nat.lt_succ_self _))
   ·
    replace hm := cF hc23_5 hm
    refine AWP.if_ false (Eq.trans (by kernel_rfl) (lit_tf (b := decide (y11_0 < y10_0)) hc23_5)) ?_
    refine AWP.seq ?_
    refine AWP.text ?_
    refine Wy (.own 0) [] (Omv rfl) ?_
    refine Wy (.i p2) [] (Omv rfl) ?_
    refine Wy (.i y10_0) [] (Omv rfl) ?_
    refine Wy (.i (IntKind.i64.wrap (p2 - y10_0))) [] (Obn rfl (fun _ => hb_sub (k := .i64))) ?_
    refine Wy (.i p2) [] (Omv rfl) ?_
    refine Wy (.i y11_0) [] (Omv rfl) ?_
    refine Wy (.i (IntKind.i64.wrap (p2 + y11_0))) [] (Obn rfl (fun _ => hb_add (k := .i64))) ?_
    refine Wy (.i y10_0) [] (Omv rfl) ?_
    refine Wy (.i (IntKind.i64.wrap ((IntKind.i64.wrap (p2 + y11_0)) - y10_0))) [] (Obn rfl (fun _ => hb_sub (k := .i64))) ?_
    refine Wy (.i y10_0) [] (Omv rfl) ?_
    refine Wy (.clo (.func 26) [] []) [] (Omv rfl) ?_
    obtain ⟨r46_2, hr46_2, hm⟩ := bnd hm
    refine Wy (.tup []) [(0, (.arr 36 3 (List.length r46_2) (flatD enc_GChange r46_2)))] (Ocf [0] [] [] 0 (ok_slices_swapRangeCmpFunc_tally_Change__tally_order y0_0 (IntKind.i64.wrap (p2 - y10_0)) (IntKind.i64.wrap ((IntKind.i64.wrap (p2 + y11_0)) - y10_0)) y10_0 r46_2 hr46_2) (fun a w => Try.call55 a w) rfl ⟨rfl, trivial⟩) ?_
    refine Walk.nil ?_
    refine Then.normal ?_
    refine Amk 3093 1 ⟨((.own 0) :: (tp 1 ((.i p2) :: (tp 1 ((.clo (.func 26) [] []) :: (tp 5 ((.i y10_0) :: ((.i y11_0) :: (tp 46 []))))))))), [(.arr 36 3 (List.length r46_2) (flatD enc_GChange r46_2))], 1⟩ ?_
    refine AWP.text ?_
    refine Wy (.i y11_0) [] (Omv rfl) ?_
    refine Wy (.i y10_0) [] (Omv rfl) ?_
    refine Wy (.i (IntKind.i64.wrap (y11_0 - y10_0))) [] (Obn rfl (fun _ => hb_sub (k := .i64))) ?_
    refine Wy (.i (IntKind.i64.wrap (y11_0 - y10_0))) [] (Omv rfl) ?_
    refine Walk.nil ?_
    refine InBlock.normal ?_
    refine RoundK.normal ?_
    exact Rounds.weak (Weak.toK 3093 0 0 [0]) (ih_0 (fu_0, r46_2, y10_0, (IntKind.i64.wrap (y11_0 - y10_0))) hm (Nat.lt_succ_self _))
  ·
   replace hm := cF hc20_4 hm
   refine AWP.if_ false (Eq.trans (by kernel_rfl) (lit_tf (b := decide (y10_0 ≠ y11_0)) hc20_4)) ?_
   refine AWP.exit ?_
   refine Then.exit ?_
   refine RoundK.exit ?_
   refine InBlock.same ?_
   refine Then.normal ?_
   refine Amk 1045 1 ⟨((.own 0) :: (tp 1 ((.i p2) :: (tp 1 ((.clo (.func 26) [] []) :: (tp 5 ((.i y10_0) :: (tp 47 [])))))))), [(.arr 36 3 (List.length y0_0) (flatD enc_GChange y0_0))], 1⟩ ?_
   refine AWP.text ?_
   refine Wy (.own 0) [] (Omv rfl) ?_
   refine Wy (.i p2) [] (Omv rfl) ?_
   refine Wy (.i y10_0) [] (Omv rfl) ?_
   refine Wy (.i (IntKind.i64.wrap (p2 - y10_0))) [] (Obn rfl (fun _ => hb_sub (k := .i64))) ?_
   refine Wy (.i p2) [] (Omv rfl) ?_
   refine Wy (.i y10_0) [] (Omv rfl) ?_
   refine Wy (.clo (.func 26) [] []) [] (Omv rfl) ?_
   obtain ⟨r57_3, hr57_3, hm⟩ := bnd hm
   refine Wy (.tup []) [(0, (.arr 36 3 (List.length r57_3) (flatD enc_GChange r57_3)))] (Ocf [0] [] [] 0 (ok_slices_swapRangeCmpFunc_tally_Change__tally_order y0_0 (IntKind.i64.wrap (p2 - y10_0)) p2 y10_0 r57_3 hr57_3) (fun a w => Try.call55 a w) rfl ⟨rfl, trivial⟩) ?_
   refine Walk.nil ?_
   obtain rfl := Option.some.inj hm
   exact ret_n [0]

set_option maxRecDepth 20000 in
set_option maxHeartbeats 4000000 in
theorem ok_slices_symMergeCmpFunc_tally_Change__tally_order : ∀ (fuR : Nat) (p0 : (List GChange)) (p1 : Int) (p2 : Int) (p3 : Int) (r : (List GChange)) (h : m_slices_symMergeCmpFunc_tally_Change__tally_order fuR p0 p1 p2 p3 = some r), GCall Try.prog 50 [(.own 0), (.i p1), (.i p2), (.i p3), (.clo (.func 26) [] [])] [(.arr 36 3 (List.length p0) (flatD enc_GChange p0))] (.tup []) [(.arr 36 3 (List.length r) (flatD enc_GChange r))] := by
 intro fuR; induction fuR with
 | zero => intro p0 p1 p2 p3 r h; exact absurd h (by unfold m_slices_symMergeCmpFunc_tally_Change__tally_order; simp)
 | succ fuR ih =>
 intro p0 p1 p2 p3 r h
 refine GCall.of_body (n := 220) (rs := []) Try.func50 rfl rfl rfl ?_
 refine Ato ⟨((.own 0) :: ((.i p1) :: ((.i p2) :: ((.i p3) :: ((.clo (.func 26) [] []) :: (tu 215 [])))))), [(.arr 36 3 (List.length p0) (flatD enc_GChange p0))], 1⟩ ?_
 have hm := h
 unfold m_slices_symMergeCmpFunc_tally_Change__tally_order at hm
 refine AWP.seq ?_
 refine AWP.seq ?_
 refine AWP.text ?_
 refine Wy (.i p2) [] (Omv rfl) ?_
 refine Wy (.i p1) [] (Omv rfl) ?_
 refine Wy (.i (IntKind.i64.wrap (p2 - p1))) [] (Obn rfl (fun _ => hb_sub (k := .i64))) ?_
 refine Wy (.b (decide ((IntKind.i64.wrap (p2 - p1)) = 1))) [] (Obn rfl (fun _ => hb_eql (k := .i64))) ?_
 refine Walk.nil ?_
 refine Then.normal ?_
 refine Amk 268435487 1 ⟨((.own 0) :: ((.i p1) :: ((.i p2) :: ((.i p3) :: ((.clo (.func 26) [] []) :: (tp 23 ((.b (decide ((IntKind.i64.wrap (p2 - p1)) = 1))) :: (tp 191 [])))))))), [(.arr 36 3 (List.length p0) (flatD enc_GChange p0))], 1⟩ ?_
 rcases tf_ (decide ((IntKind.i64.wrap (p2 - p1)) = 1)) with hc28_27 | hc28_27
 ·
  replace hm := cT hc28_27 hm
  refine AWP.if_ true (Eq.trans (by kernel_rfl) (lit_tf (b := decide ((IntKind.i64.wrap (p2 - p1)) = 1)) hc28_27)) ?_
  refine AWP.seq ?_
  refine AWP.text ?_
  refine Wy (.i p2) [] (Omv rfl) ?_
  refine Wy (.i p2) [] (Omv rfl) ?_
  refine Walk.nil ?_
  refine Then.normal ?_
  refine Amk 1051 1 ⟨((.own 0) :: ((.i p1) :: (tp 1 ((.i p3) :: ((.clo (.func 26) [] []) :: (tp 5 ((.i p2) :: (tp 209 [])))))))), [(.arr 36 3 (List.length p0) (flatD enc_GChange p0))], 1⟩ ?_
  refine AWP.seq ?_
  refine AWP.text ?_
  refine Wy (.i p3) [] (Omv rfl) ?_
  refine Wy (.i p3) [] (Omv rfl) ?_
  refine Walk.nil ?_
  refine Then.normal ?_
  refine Amk 3091 1 ⟨((.own 0) :: ((.i p1) :: (tp 2 ((.clo (.func 26) [] []) :: (tp 5 ((.i p2) :: ((.i p3) :: (tp 208 [])))))))), [(.arr 36 3 (List.length p0) (flatD enc_GChange p0))], 1⟩ ?_
  refine AWP.seq ?_
  refine AWP.block ?_
  refine AWP.loopI (α := Nat × Int × Int)
    (fun x => match x with | (fu_0, y10_0, y11_0) => (⟨((.own 0) :: ((.i p1) :: (tp 2 ((.clo (.func 26) [] []) :: (tp 5 ((.i y10_0) :: ((.i y11_0) :: (tp 208 [])))))))), [(.arr 36 3 (List.length p0) (flatD enc_GChange p0))], 1⟩ : St))
    (fun x => match x with | (fu_0, y10_0, y11_0) => m_slices_symMergeCmpFunc_tally_Change__tally_order_l0 p0 p1 fu_0 y10_0 y11_0 = some r)
    (fun x => match x with | (fu_0, y10_0, y11_0) => fu_0) (1152921504606846976, p2, p3)
    (Weak.toK 3091 0 0 [0]) hm ?_
  rintro ⟨fu_0, y10_0, y11_0⟩ n_0 hm ih_0
  try dsimp only at hm ih_0 ⊢
  cases fu_0 with
  | zero => exact absurd hm (by unfold m_slices_symMergeCmpFunc_tally_Change__tally_order_l0; simp)
  | succ fu_0 =>
   unfold m_slices_symMergeCmpFunc_tally_Change__tally_order_l0 at hm
   refine AWP.seq ?_
   refine AWP.seq ?_
   refine AWP.text ?_
   refine Wy (.i y10_0) [] (Omv rfl) ?_
   refine Wy (.i y11_0) [] (Omv rfl) ?_
   refine Wy (.b (decide (y10_0 < y11_0))) [] (Obn rfl (fun _ => hb_lss (k := .i64))) ?_
   refine Walk.nil ?_
   refine Then.normal ?_
   refine Amk 8589937683 1 ⟨((.own 0) :: ((.i p1) :: (tp 2 ((.clo (.func 26) [] []) :: (tp 5 ((.i y10_0) :: ((.i y11_0) :: (tp 21 ((.b (decide (y10_0 < y11_0))) :: (tp 186 [])))))))))), [(.arr 36 3 (List.length p0) (flatD enc_GChange p0))], 1⟩ ?_
   rcases tf_ (decide (y10_0 < y11_0)) with hc33_28 | hc33_28
   ·
    replace hm := cT hc33_28 hm
    refine AWP.if_ true (Eq.trans (by kernel_rfl) (lit_tf (b := decide (y10_0 < y11_0)) hc33_28)) ?_
    refine AWP.skip ?_
    refine Then.normal ?_
    refine Amk 3091 1 ⟨((.own 0) :: ((.i p1) :: (tp 2 ((.clo (.func 26) [] []) :: (tp 5 ((.i y10_0) :: ((.i y11_0) :: (tp 208 [])))))))), [(.arr 36 3 (List.length p0) (flatD enc_GChange p0))], 1⟩ ?_
    refine AWP.block ?_
    refine AWP.seq ?_
    refine AWP.text ?_
    refine Wy (.i y10_0) [] (Omv rfl) ?_
    refine Wy (.i y11_0) [] (Omv rfl) ?_
    refine Wy (.i (IntKind.i64.wrap (y10_0 + y11_0))) [] (Obn rfl (fun _ => hb_add (k := .i64))) ?_
    refine Wy (.d (.lit (.int .u64 (IntKind.u64.wrap (IntKind.i64.wrap (y10_0 + y11_0)))))) [] (Ocs (by kernel_rfl) (op_convert rfl (a1 := .int .i64 (IntKind.i64.wrap (y10_0 + y11_0))) (by kernel_rfl) (run_conv (ds := .int .i64) (k' := .u64) (by kernel_rfl) (by kernel_rfl)))) ?_
    refine Wy (.d (.lit (.int .u64 (Int.fdiv (IntKind.u64.wrap (IntKind.i64.wrap (y10_0 + y11_0))) (2 ^ 1))))) [] (Ocs (by kernel_rfl) (op_bin rfl (a1 := .int .u64 (IntKind.u64.wrap (IntKind.i64.wrap (y10_0 + y11_0)))) (a2 := .int .u64 1) (by kernel_rfl) (by kernel_rfl) (fun _ => hb_shr (n := 1) (by decide) rfl))) ?_
    refine Wy (.i (IntKind.i64.wrap (Int.fdiv (IntKind.u64.wrap (IntKind.i64.wrap (y10_0 + y11_0))) (2 ^ 1)))) [] (Ocs (by kernel_rfl) (op_convert rfl (a1 := .int .u64 (Int.fdiv (IntKind.u64.wrap (IntKind.i64.wrap (y10_0 + y11_0))) (2 ^ 1))) (by kernel_rfl) (run_conv (ds := .int .u64) (k' := .i64) (by kernel_rfl) (by kernel_rfl)))) ?_
    refine Wy (.i (IntKind.i64.wrap (Int.fdiv (IntKind.u64.wrap (IntKind.i64.wrap (y10_0 + y11_0))) (2 ^ 1)))) [] (Omv rfl) ?_
    refine Walk.nil ?_
    refine Then.normal ?_
    refine Amk 7187 1 ⟨((.own 0) :: ((.i p1) :: (tp 2 ((.clo (.func 26) [] []) :: (tp 5 ((.i y10_0) :: ((.i y11_0) :: ((.i (IntKind.i64.wrap (Int.fdiv (IntKind.u64.wrap (IntKind.i64.wrap (y10_0 + y11_0))) (2 ^ 1)))) :: (tp 207 []))))))))), [(.arr 36 3 (List.length p0) (flatD enc_GChange p0))], 1⟩ ?_
    refine AWP.seq ?_
    refine Adr ?_
    refine Wy (.clo (.func 26) [] []) [] (Omv rfl) ?_
    refine Wy (.own 0) [] (Omv rfl) ?_
    refine Wy (.i (IntKind.i64.wrap (Int.fdiv (IntKind.u64.wrap (IntKind.i64.wrap (y10_0 + y11_0))) (2 ^ 1)))) [] (Omv rfl) ?_
    obtain ⟨x43_2, hx43_2, hm⟩ := bnd hm
    obtain ⟨hx43_2i, hx43_2g⟩ := geti_some hx43_2
    refine Wy (.loc 0 ((Int.toNat (IntKind.i64.wrap (Int.fdiv (IntKind.u64.wrap (IntKind.i64.wrap (y10_0 + y11_0))) (2 ^ 1)))) * 3)) [] (Oia rfl enc_GChange_len hx43_2i hx43_2g) ?_
    refine Wy (.agg [(.i x43_2.Loc), (.i x43_2.Time), (.i x43_2.N)]) [] (Lr rfl enc_GChange_len hx43_2g) ?_
    refine Wy (.own 0) [] (Omv rfl) ?_
    refine Wy (.i p1) [] (Omv rfl) ?_
    obtain ⟨x47_2, hx47_2, hm⟩ := bnd hm
    obtain ⟨hx47_2i, hx47_2g⟩ := geti_some hx47_2
    refine Wy (.loc 0 ((Int.toNat p1) * 3)) [] (Oia rfl enc_GChange_len hx47_2i hx47_2g) ?_
    refine Wy (.agg [(.i x47_2.Loc), (.i x47_2.Time), (.i x47_2.N)]) [] (Lr rfl enc_GChange_len hx47_2g) ?_
    obtain ⟨r49_2, hr49_2, hm⟩ := bnd hm
    refine Wy (.i r49_2) [] (Ocf [] [] [] 0 (ok_tally_order x43_2 x47_2 r49_2 hr49_2) (fun a w => Try.call26 a w) rfl trivial) ?_
    refine Wy (.b (decide (r49_2 < 0))) [] (Obn rfl (fun _ => hb_lss (k := .i64))) ?_
    refine Wdr ?_
    refine Then.normal ?_
    refine Amk 1125899906849811 1 ⟨((.own 0) :: ((.i p1) :: (tp 2 ((.clo (.func 26) [] []) :: (tp 5 ((.i y10_0) :: ((.i y11_0) :: ((.i (IntKind.i64.wrap (Int.fdiv (IntKind.u64.wrap (IntKind.i64.wrap (y10_0 + y11_0))) (2 ^ 1)))) :: (tp 37 ((.b (decide (r49_2 < 0))) :: (tp 169 []))))))))))), [(.arr 36 3 (List.length p0) (flatD enc_GChange p0))], 1⟩ ?_
    rcases tf_ (decide (r49_2 < 0)) with hc50_29 | hc50_29
    ·
     replace hm := cT hc50_29 hm
     refine AWP.if_ true (Eq.trans (by kernel_rfl) (lit_tf (b := decide (r49_2 < 0)) hc50_29)) ?_
     refine AWP.text ?_
     refine Wy (.i (IntKind.i64.wrap (Int.fdiv (IntKind.u64.wrap (IntKind.i64.wrap (y10_0 + y11_0))) (2 ^ 1)))) [] (Omv rfl) ?_
     obtain ⟨v52_3, hv52_3, hm⟩ := bnd hm; replace hv52_3 := Option.some.inj hv52_3
     refine Wy (.i v52_3) [] (Ocs (congrArg (fun z => A.d (.lit (.int .i64 z))) hv52_3) (Obn rfl (fun _ => hb_add (k := .i64)))) ?_
     refine Wy (.i v52_3) [] (Omv rfl) ?_
     refine Walk.nil ?_
     refine InBlock.normal ?_
     refine RoundK.normal ?_
     exact Rounds.weak (Weak.toK 3091 0 0 [0]) (ih_0 (fu_0, v52_3, y11_0) hm (Nat.lt_succ_self _))
    ·
     replace hm := cF hc50_29 hm
     refine AWP.if_ false (Eq.trans (by kernel_rfl) (lit_tf (b := decide (r49_2 < 0)) hc50_29)) ?_
     refine AWP.text ?_
     refine Wy (.i (IntKind.i64.wrap (Int.fdiv (IntKind.u64.wrap (IntKind.i64.wrap (y10_0 + y11_0))) (2 ^ 1)))) [] (Omv rfl) ?_
     refine Wy (.i (IntKind.i64.wrap (Int.fdiv (IntKind.u64.wrap (IntKind.i64.wrap (y10_0 + y11_0))) (2 ^ 1)))) [] (Omv rfl) ?_
     refine Walk.nil ?_
     refine InBlock.normal ?_
     refine RoundK.normal ?_
     exact Rounds.weak (Weak.toK 3091 0 0 [0]) (ih_0 (fu_0, y10_0, (IntKind.i64.wrap (Int.fdiv (IntKind.u64.wrap (IntKind.i64.wrap (y10_0 + y11_0))) (2 ^ 1)))) hm (Nat.lt_succ_self _))
   ·
    replace hm := cF hc33_28 hm
    refine AWP.if_ false (Eq.trans (by kernel_rfl) (lit_tf (b := decide (y10_0 < y11_0)) hc33_28)) ?_
    refine AWP.exit ?_
    refine Then.exit ?_
    refine RoundK.exit ?_
    refine InBlock.same ?_
    refine Then.normal ?_
    refine Amk 1027 1 ⟨((.own 0) :: ((.i p1) :: (tp 8 ((.i y10_0) :: (tp 209 []))))), [(.arr 36 3 (List.length p0) (flatD enc_GChange p0))], 1⟩ ?_
    refine AWP.seq ?_
    refine AWP.seq ?_
    refine AWP.text ?_
    refine Wy (.i p1) [] (Omv rfl) ?_
    refine Wy (.i p1) [] (Omv rfl) ?_
    refine Walk.nil ?_
    refine Then.normal ?_
    refine Amk 9217 1 ⟨((.own 0) :: (tp 9 ((.i y10_0) :: (tp 2 ((.i p1) :: (tp 206 [])))))), [(.arr 36 3 (List.length p0) (flatD enc_GChange p0))], 1⟩ ?_
    refine AWP.block ?_
    refine AWP.loopI (α := Nat × (List GChange) × Int)
      (fun x => match x with | (fu_4, y0_4, y13_4) => (⟨((.own 0) :: (tp 9 ((.i y10_0) :: (tp 2 ((.i y13_4) :: (tp 206 [])))))), [(.arr 36 3 (List.length y0_4) (flatD enc_GChange y0_4))], 1⟩ : St))
      (fun x => match x with | (fu_4, y0_4, y13_4) => m_slices_symMergeCmpFunc_tally_Change__tally_order_l4 y10_0 fu_4 y0_4 y13_4 = some r)
      (fun x => match x with | (fu_4, y0_4, y13_4) => fu_4) (1152921504606846976, p0, p1)
      (Weak.toK 9217 0 0 [0]) hm ?_
    rintro ⟨fu_4, y0_4, y13_4⟩ n_4 hm ih_4
    try dsimp only at hm ih_4 ⊢
    cases fu_4 with
    | zero => exact absurd hm (by unfold m_slices_symMergeCmpFunc_tally_Change__tally_order_l4; simp)
    | succ fu_4 =>
     unfold m_slices_symMergeCmpFunc_tally_Change__tally_order_l4 at hm
     refine AWP.seq ?_
     refine AWP.seq ?_
     refine AWP.text ?_
     refine Wy (.i y13_4) [] (Omv rfl) ?_
     refine Wy (.i y10_0) [] (Omv rfl) ?_
     refine Wy (.i (IntKind.i64.wrap (y10_0 - 1))) [] (Obn rfl (fun _ => hb_sub (k := .i64))) ?_
     refine Wy (.b (decide (y13_4 < (IntKind.i64.wrap (y10_0 - 1))))) [] (Obn rfl (fun _ => hb_lss (k := .i64))) ?_
     refine Walk.nil ?_
     refine Then.normal ?_
     refine Amk 288230376151720961 1 ⟨((.own 0) :: (tp 9 ((.i y10_0) :: (tp 2 ((.i y13_4) :: (tp 44 ((.b (decide (y13_4 < (IntKind.i64.wrap (y10_0 - 1))))) :: (tp 161 [])))))))), [(.arr 36 3 (List.length y0_4) (flatD enc_GChange y0_4))], 1⟩ ?_
     rcases tf_ (decide (y13_4 < (IntKind.i64.wrap (y10_0 - 1)))) with hc58_30 | hc58_30
     ·
      replace hm := cT hc58_30 hm
      refine AWP.if_ true (Eq.trans (by kernel_rfl) (lit_tf (b := decide (y13_4 < (IntKind.i64.wrap (y10_0 - 1)))) hc58_30)) ?_
      refine AWP.skip ?_
      refine Then.normal ?_
      refine Amk 9217 1 ⟨((.own 0) :: (tp 9 ((.i y10_0) :: (tp 2 ((.i y13_4) :: (tp 206 [])))))), [(.arr 36 3 (List.length y0_4) (flatD enc_GChange y0_4))], 1⟩ ?_
      refine AWP.seq ?_
      refine AWP.block ?_
      refine Adr ?_
      refine Wy (.own 0) [] (Omv rfl) ?_
      refine Wy (.i y13_4) [] (Omv rfl) ?_
      refine Wy (.own 0) [] (Omv rfl) ?_
      refine Wy (.i y13_4) [] (Omv rfl) ?_
      refine Wy (.i (IntKind.i64.wrap (y13_4 + 1))) [] (Obn rfl (fun _ => hb_add (k := .i64))) ?_
      refine Wy (.own 0) [] (Omv rfl) ?_
      refine Wy (.i y13_4) [] (Omv rfl) ?_
      refine Wy (.i (IntKind.i64.wrap (y13_4 + 1))) [] (Obn rfl (fun _ => hb_add (k := .i64))) ?_
      obtain ⟨x69_5, hx69_5, hm⟩ := bnd hm
      obtain ⟨hx69_5i, hx69_5g⟩ := geti_some hx69_5
      refine Wy (.loc 0 ((Int.toNat (IntKind.i64.wrap (y13_4 + 1))) * 3)) [] (Oia rfl enc_GChange_len hx69_5i hx69_5g) ?_
      refine Wy (.agg [(.i x69_5.Loc), (.i x69_5.Time), (.i x69_5.N)]) [] (Lr rfl enc_GChange_len hx69_5g) ?_
      refine Wy (.own 0) [] (Omv rfl) ?_
      refine Wy (.i y13_4) [] (Omv rfl) ?_
      obtain ⟨x73_5, hx73_5, hm⟩ := bnd hm
      obtain ⟨hx73_5i, hx73_5g⟩ := geti_some hx73_5
      refine Wy (.loc 0 ((Int.toNat y13_4) * 3)) [] (Oia rfl enc_GChange_len hx73_5i hx73_5g) ?_
      refine Wy (.agg [(.i x73_5.Loc), (.i x73_5.Time), (.i x73_5.N)]) [] (Lr rfl enc_GChange_len hx73_5g) ?_
      obtain ⟨x75_5, hx75_5, hm⟩ := bnd hm
      obtain ⟨hx75_5i, hx75_5g⟩ := geti_some hx75_5
      refine Wy (.loc 0 ((Int.toNat y13_4) * 3)) [] (Oia rfl enc_GChange_len hx75_5i hx75_5g) ?_
      refine Wy (.tup []) [(0, (.arr 36 3 (List.length (List.set y0_4 (Int.toNat y13_4) x69_5)) (flatD enc_GChange (List.set y0_4 (Int.toNat y13_4) x69_5))))] (Osr 0 rfl enc_GChange_len hx75_5g x69_5) ?_
      obtain ⟨x76_5, hx76_5, hm⟩ := bnd hm
      obtain ⟨hx76_5i, hx76_5g⟩ := geti_some hx76_5
      refine Wy (.loc 0 ((Int.toNat (IntKind.i64.wrap (y13_4 + 1))) * 3)) [] (Oia rfl enc_GChange_len hx76_5i hx76_5g) ?_
      refine Wy (.tup []) [(0, (.arr 36 3 (List.length (List.set (List.set y0_4 (Int.toNat y13_4) x69_5) (Int.toNat (IntKind.i64.wrap (y13_4 + 1))) x73_5)) (flatD enc_GChange (List.set (List.set y0_4 (Int.toNat y13_4) x69_5) (Int.toNat (IntKind.i64.wrap (y13_4 + 1))) x73_5))))] (Osr 0 rfl enc_GChange_len hx76_5g x73_5) ?_
      refine Wdr ?_
      refine InBlock.normal ?_
      refine Then.normal ?_
      refine Amk 9217 1 ⟨((.own 0) :: (tp 9 ((.i y10_0) :: (tp 2 ((.i y13_4) :: (tp 206 [])))))), [(.arr 36 3 (List.length (List.set (List.set y0_4 (Int.toNat y13_4) x69_5) (Int.toNat (IntKind.i64.wrap (y13_4 + 1))) x73_5)) (flatD enc_GChange (List.set (List.set y0_4 (Int.toNat y13_4) x69_5) (Int.toNat (IntKind.i64.wrap (y13_4 + 1))) x73_5)))], 1⟩ ?_
      refine AWP.text ?_
      refine Wy (.i y13_4) [] (Omv rfl) ?_
      refine Wy (.i (IntKind.i64.wrap (y13_4 + 1))) [] (Obn rfl (fun _ => hb_add (k := .i64))) ?_
      refine Wy (.i (IntKind.i64.wrap (y13_4 + 1))) [] (Omv rfl) ?_
      refine Walk.nil ?_
      refine RoundK.normal ?_
      exact Rounds.weak (Weak.toK 9217 0 0 [0]) (ih_4 (fu_4, (List.set (List.set y0_4 (Int.toNat y13_4) x69_5) (Int.toNat (IntKind.i64.wrap (y13_4 + 1))) x73_5), (IntKind.i64.wrap (y13_4 + 1))) hm (Nat.lt_succ_self _))
     ·
      replace hm := cF hc58_30 hm
      refine AWP.if_ false (Eq.trans (by kernel_rfl) (lit_tf (b := decide (y13_4 < (IntKind.i64.wrap (y10_0 - 1)))) hc58_30)) ?_
      refine AWP.exit ?_
      refine Then.exit ?_
      refine RoundK.exit ?_
      refine InBlock.same ?_
      refine Then.normal ?_
      refine AWP.ret ?_
      refine Then.ret ?_
      obtain rfl := Option.some.inj hm
      exact ret_i [0]
 ·
  replace hm := cF hc28_27 hm
  refine AWP.if_ false (Eq.trans (by kernel_rfl) (lit_tf (b := decide ((IntKind.i64.wrap (p2 - p1)) = 1)) hc28_27)) ?_
  refine AWP.skip ?_
  refine Then.normal ?_
  refine Amk 31 1 ⟨((.own 0) :: ((.i p1) :: ((.i p2) :: ((.i p3) :: ((.clo (.func 26) [] []) :: (tp 215 [])))))), [(.arr 36 3 (List.length p0) (flatD enc_GChange p0))], 1⟩ ?_
  refine AWP.seq ?_
  refine AWP.seq ?_
  refine AWP.text ?_
  refine Wy (.i p3) [] (Omv rfl) ?_
  refine Wy (.i p2) [] (Omv rfl) ?_
  refine Wy (.i (IntKind.i64.wrap (p3 - p2))) [] (Obn rfl (fun _ => hb_sub (k := .i64))) ?_
  refine Wy (.b (decide ((IntKind.i64.wrap (p3 - p2)) = 1))) [] (Obn rfl (fun _ => hb_eql (k := .i64))) ?_
  refine Walk.nil ?_
  refine Then.normal ?_
  refine Amk 1208925819614629174706207 1 ⟨((.own 0) :: ((.i p1) :: ((.i p2) :: ((.i p3) :: ((.clo (.func 26) [] []) :: (tp 75 ((.b (decide ((IntKind.i64.wrap (p3 - p2)) = 1))) :: (tp 139 [])))))))), [(.arr 36 3 (List.length p0) (flatD enc_GChange p0))], 1⟩ ?_
  rcases tf_ (decide ((IntKind.i64.wrap (p3 - p2)) = 1)) with hc80_31 | hc80_31
  ·
   replace hm := cT hc80_31 hm
   refine AWP.if_ true (Eq.trans (by kernel_rfl) (lit_tf (b := decide ((IntKind.i64.wrap (p3 - p2)) = 1)) hc80_31)) ?_
   refine AWP.seq ?_
   refine AWP.text ?_
   refine Wy (.i p1) [] (Omv rfl) ?_
   refine Wy (.i p1) [] (Omv rfl) ?_
   refine Walk.nil ?_
   refine Then.normal ?_
   refine Amk 16405 1 ⟨((.own 0) :: (tp 1 ((.i p2) :: (tp 1 ((.clo (.func 26) [] []) :: (tp 9 ((.i p1) :: (tp 205 [])))))))), [(.arr 36 3 (List.length p0) (flatD enc_GChange p0))], 1⟩ ?_
   refine AWP.seq ?_
   refine AWP.text ?_
   refine Wy (.i p2) [] (Omv rfl) ?_
   refine Wy (.i p2) [] (Omv rfl) ?_
   refine Walk.nil ?_
   refine Then.normal ?_
   refine Amk 49173 1 ⟨((.own 0) :: (tp 1 ((.i p2) :: (tp 1 ((.clo (.func 26) [] []) :: (tp 9 ((.i p1) :: ((.i p2) :: (tp 204 []))))))))), [(.arr 36 3 (List.length p0) (flatD enc_GChange p0))], 1⟩ ?_
   refine AWP.seq ?_
   refine AWP.block ?_
   refine AWP.loopI (α := Nat × Int × Int)
     (fun x => match x with | (fu_6, y14_6, y15_6) => (⟨((.own 0) :: (tp 1 ((.i p2) :: (tp 1 ((.clo (.func 26) [] []) :: (tp 9 ((.i y14_6) :: ((.i y15_6) :: (tp 204 []))))))))), [(.arr 36 3 (List.length p0) (flatD enc_GChange p0))], 1⟩ : St))
     (fun x => match x with | (fu_6, y14_6, y15_6) => m_slices_symMergeCmpFunc_tally_Change__tally_order_l6 p0 p2 fu_6 y14_6 y15_6 = some r)
     (fun x => match x with | (fu_6, y14_6, y15_6) => fu_6) (1152921504606846976, p1, p2)
     (Weak.toK 49173 0 0 [0]) hm ?_
   rintro ⟨fu_6, y14_6, y15_6⟩ n_6 hm ih_6
   try dsimp only at hm ih_6 ⊢
   cases fu_6 with
   | zero => exact absurd hm (by unfold m_slices_symMergeCmpFunc_tally_Change__tally_order_l6; simp)
   | succ fu_6 =>
    unfold m_slices_symMergeCmpFunc_tally_Change__tally_order_l6 at hm
    refine AWP.seq ?_
    refine AWP.seq ?_
    refine AWP.text ?_
    refine Wy (.i y14_6) [] (Omv rfl) ?_
    refine Wy (.i y15_6) [] (Omv rfl) ?_
    refine Wy (.b (decide (y14_6 < y15_6))) [] (Obn rfl (fun _ => hb_lss (k := .i64))) ?_
    refine Walk.nil ?_
    refine Then.normal ?_
    refine Amk 38685626227668133590646805 1 ⟨((.own 0) :: (tp 1 ((.i p2) :: (tp 1 ((.clo (.func 26) [] []) :: (tp 9 ((.i y14_6) :: ((.i y15_6) :: (tp 69 ((.b (decide (y14_6 < y15_6))) :: (tp 134 []))))))))))), [(.arr 36 3 (List.length p0) (flatD enc_GChange p0))], 1⟩ ?_
    rcases tf_ (decide (y14_6 < y15_6)) with hc85_32 | hc85_32
    ·
     replace hm := cT hc85_32 hm
     refine AWP.if_ true (Eq.trans (by kernel_rfl) (lit_tf (b := decide (y14_6 < y15_6)) hc85_32)) ?_
     refine AWP.skip ?_
     refine Then.normal ?_
     refine Amk 49173 1 ⟨((.own 0) :: (tp 1 ((.i p2) :: (tp 1 ((.clo (.func 26) [] []) :: (tp 9 ((.i y14_6) :: ((.i y15_6) :: (tp 204 []))))))))), [(.arr 36 3 (List.length p0) (flatD enc_GChange p0))], 1⟩ ?_
     refine AWP.block ?_
     refine AWP.seq ?_
     refine AWP.text ?_
     refine Wy (.i y14_6) [] (Omv rfl) ?_
     refine Wy (.i y15_6) [] (Omv rfl) ?_
     refine Wy (.i (IntKind.i64.wrap (y14_6 + y15_6))) [] (Obn rfl (fun _ => hb_add (k := .i64))) ?_
     refine Wy (.d (.lit (.int .u64 (IntKind.u64.wrap (IntKind.i64.wrap (y14_6 + y15_6)))))) [] (Ocs (by kernel_rfl) (op_convert rfl (a1 := .int .i64 (IntKind.i64.wrap (y14_6 + y15_6))) (by kernel_rfl) (run_conv (ds := .int .i64) (k' := .u64) (by kernel_rfl) (by kernel_rfl)))) ?_
     refine Wy (.d (.lit (.int .u64 (Int.fdiv (IntKind.u64.wrap (IntKind.i64.wrap (y14_6 + y15_6))) (2 ^ 1))))) [] (Ocs (by kernel_rfl) (op_bin rfl (a1 := .int .u64 (IntKind.u64.wrap (IntKind.i64.wrap (y14_6 + y15_6)))) (a2 := .int .u64 1) (by kernel_rfl) (by kernel_rfl) (fun _ => hb_shr (n := 1) (by decide) rfl))) ?_
     refine Wy (.i (IntKind.i64.wrap (Int.fdiv (IntKind.u64.wrap (IntKind.i64.wrap (y14_6 + y15_6))) (2 ^ 1)))) [] (Ocs (by kernel_rfl) (op_convert rfl (a1 := .int .u64 (Int.fdiv (IntKind.u64.wrap (IntKind.i64.wrap (y14_6 + y15_6))) (2 ^ 1))) (by kernel_rfl) (run_conv (ds := .int .u64) (k' := .i64) (by kernel_rfl) (by kernel_rfl)))) ?_
     refine Wy (.i (IntKind.i64.wrap (Int.fdiv (IntKind.u64.wrap (IntKind.i64.wrap (y14_6 + y15_6))) (2 ^ 1)))) [] (Omv rfl) ?_
     refine Walk.nil ?_
     refine Then.normal ?_
     refine Amk 114709 1 ⟨((.own 0) :: (tp 1 ((.i p2) :: (tp 1 ((.clo (.func 26) [] []) :: (tp 9 ((.i y14_6) :: ((.i y15_6) :: ((.i (IntKind.i64.wrap (Int.fdiv (IntKind.u64.wrap (IntKind.i64.wrap (y14_6 + y15_6))) (2 ^ 1)))) :: (tp 203 [])))))))))), [(.arr 36 3 (List.length p0) (flatD enc_GChange p0))], 1⟩ ?_
     refine AWP.seq ?_
     refine Adr ?_
     refine Wy (.clo (.func 26) [] []) [] (Omv rfl) ?_
     refine Wy (.own 0) [] (Omv rfl) ?_
     refine Wy (.i p2) [] (Omv rfl) ?_
     obtain ⟨x95_8, hx95_8, hm⟩ := bnd hm
     obtain ⟨hx95_8i, hx95_8g⟩ := geti_some hx95_8
     refine Wy (.loc 0 ((Int.toNat p2) * 3)) [] (Oia rfl enc_GChange_len hx95_8i hx95_8g) ?_
     refine Wy (.agg [(.i x95_8.Loc), (.i x95_8.Time), (.i x95_8.N)]) [] (Lr rfl enc_GChange_len hx95_8g) ?_
     refine Wy (.own 0) [] (Omv rfl) ?_
     refine Wy (.i (IntKind.i64.wrap (Int.fdiv (IntKind.u64.wrap (IntKind.i64.wrap (y14_6 + y15_6))) (2 ^ 1)))) [] (Omv rfl) ?_
     obtain ⟨x99_8, hx99_8, hm⟩ := bnd hm
     obtain ⟨hx99_8i, hx99_8g⟩ := geti_some hx99_8
     refine Wy (.loc 0 ((Int.toNat (IntKind.i64.wrap (Int.fdiv (IntKind.u64.wrap (IntKind.i64.wrap (y14_6 + y15_6))) (2 ^ 1)))) * 3)) [] (Oia rfl enc_GChange_len hx99_8i hx99_8g) ?_
     refine Wy (.agg [(.i x99_8.Loc), (.i x99_8.Time), (.i x99_8.N)]) [] (Lr rfl enc_GChange_len hx99_8g) ?_
     obtain ⟨r101_8, hr101_8, hm⟩ := bnd hm
     refine Wy (.i r101_8) [] (Ocf [] [] [] 0 (ok_tally_order x95_8 x99_8 r101_8 hr101_8) (fun a w => Try.call26 a w) rfl trivial) ?_
     refine Wy (.b (decide (r101_8 < 0))) [] (Obn rfl (fun _ => hb_lss (k := .i64))) ?_
     refine Wy (.b (!decide (r101_8 < 0))) [] (Ocs (by kernel_rfl) (op_un rfl (a1 := .bool (decide (r101_8 < 0))) (by kernel_rfl) (fun _ => hu_not))) ?_
     refine Wdr ?_
     refine Then.normal ?_
     refine Amk 10141204801825835211973625757717 1 ⟨((.own 0) :: (tp 1 ((.i p2) :: (tp 1 ((.clo (.func 26) [] []) :: (tp 9 ((.i y14_6) :: ((.i y15_6) :: ((.i (IntKind.i64.wrap (Int.fdiv (IntKind.u64.wrap (IntKind.i64.wrap (y14_6 + y15_6))) (2 ^ 1)))) :: (tp 86 ((.b (!decide (r101_8 < 0))) :: (tp 116 [])))))))))))), [(.arr 36 3 (List.length p0) (flatD enc_GChange p0))], 1⟩ ?_
     rcases tf_ (!decide (r101_8 < 0)) with hc103_33 | hc103_33
     ·
      replace hm := cT hc103_33 hm
      refine AWP.if_ true (Eq.trans (by kernel_rfl) (lit_tf (b := (!decide (r101_8 < 0))) hc103_33)) ?_
      refine AWP.text ?_
      refine Wy (.i (IntKind.i64.wrap (Int.fdiv (IntKind.u64.wrap (IntKind.i64.wrap (y14_6 + y15_6))) (2 ^ 1)))) [] (Omv rfl) ?_
      obtain ⟨v105_9, hv105_9, hm⟩ := bnd hm; replace hv105_9 := Option.some.inj hv105_9
      refine Wy (.i v105_9) [] (Ocs (congrArg (fun z => A.d (.lit (.int .i64 z))) hv105_9) (Obn rfl (fun _ => hb_add (k := .i64)))) ?_
      refine Wy (.i v105_9) [] (Omv rfl) ?_
      refine Walk.nil ?_
      refine InBlock.normal ?_
      refine RoundK.normal ?_
      exact Rounds.weak (Weak.toK 49173 0 0 [0]) (ih_6 (fu_6, v105_9, y15_6) hm (Nat.lt_succ_self _))
     ·
      replace hm := cF hc103_33 hm
      refine AWP.if_ false (Eq.trans (by kernel_rfl) (lit_tf (b := (!decide (r101_8 < 0))) hc103_33)) ?_
      refine AWP.text ?_
      refine Wy (.i (IntKind.i64.wrap (Int.fdiv (IntKind.u64.wrap (IntKind.i64.wrap (y14_6 + y15_6))) (2 ^ 1)))) [] (Omv rfl) ?_
      refine Wy (.i (IntKind.i64.wrap (Int.fdiv (IntKind.u64.wrap (IntKind.i64.wrap (y14_6 + y15_6))) (2 ^ 1)))) [] (Omv rfl) ?_
      refine Walk.nil ?_
      refine InBlock.normal ?_
      refine RoundK.normal ?_
      exact Rounds.weak (Weak.toK 49173 0 0 [0]) (ih_6 (fu_6, y14_6, (IntKind.i64.wrap (Int.fdiv (IntKind.u64.wrap (IntKind.i64.wrap (y14_6 + y15_6))) (2 ^ 1)))) hm (Nat.lt_succ_self _))
    ·
     replace hm := cF hc85_32 hm
     refine AWP.if_ false (Eq.trans (by kernel_rfl) (lit_tf (b := decide (y14_6 < y15_6)) hc85_32)) ?_
     refine AWP.exit ?_
     refine Then.exit ?_
     refine RoundK.exit ?_
     refine InBlock.same ?_
     refine Then.normal ?_
     refine Amk 16389 1 ⟨((.own 0) :: (tp 1 ((.i p2) :: (tp 11 ((.i y14_6) :: (tp 205 [])))))), [(.arr 36 3 (List.length p0) (flatD enc_GChange p0))], 1⟩ ?_
     refine AWP.seq ?_
     refine AWP.seq ?_
     refine AWP.text ?_
     refine Wy (.i p2) [] (Omv rfl) ?_
     refine Wy (.i p2) [] (Omv rfl) ?_
     refine Walk.nil ?_
     refine Then.normal ?_
     refine Amk 147457 1 ⟨((.own 0) :: (tp 13 ((.i y14_6) :: (tp 2 ((.i p2) :: (tp 202 [])))))), [(.arr 36 3 (List.length p0) (flatD enc_GChange p0))], 1⟩ ?_
     refine AWP.block ?_
     refine AWP.loopI (α := Nat × (List GChange) × Int)
       (fun x => match x with | (fu_10, y0_10, y17_10) => (⟨((.own 0) :: (tp 13 ((.i y14_6) :: (tp 2 ((.i y17_10) :: (tp 202 [])))))), [(.arr 36 3 (List.length y0_10) (flatD enc_GChange y0_10))], 1⟩ : St))
       (fun x => match x with | (fu_10, y0_10, y17_10) => m_slices_symMergeCmpFunc_tally_Change__tally_order_l10 y14_6 fu_10 y0_10 y17_10 = some r)
       (fun x => match x with | (fu_10, y0_10, y17_10) => fu_10) (1152921504606846976, p0, p2)
       (Weak.toK 147457 0 0 [0]) hm ?_
     rintro ⟨fu_10, y0_10, y17_10⟩ n_10 hm ih_10
     try dsimp only at hm ih_10 ⊢
     cases fu_10 with
     | zero => exact absurd hm (by unfold m_slices_symMergeCmpFunc_tally_Change__tally_order_l10; simp)
     | succ fu_10 =>
      unfold m_slices_symMergeCmpFunc_tally_Change__tally_order_l10 at hm
      refine AWP.seq ?_
      refine AWP.seq ?_
      refine AWP.text ?_
      refine Wy (.i y17_10) [] (Omv rfl) ?_
      refine Wy (.i y14_6) [] (Omv rfl) ?_
      refine Wy (.b (decide (y14_6 < y17_10))) [] (Obn rfl (fun _ => hb_gtr (k := .i64))) ?_
      refine Walk.nil ?_
      refine Then.normal ?_
      refine Amk 1298074214633706907132624082452481 1 ⟨((.own 0) :: (tp 13 ((.i y14_6) :: (tp 2 ((.i y17_10) :: (tp 92 ((.b (decide (y14_6 < y17_10))) :: (tp 109 [])))))))), [(.arr 36 3 (List.length y0_10) (flatD enc_GChange y0_10))], 1⟩ ?_
      rcases tf_ (decide (y14_6 < y17_10)) with hc110_34 | hc110_34
      ·
       replace hm := cT hc110_34 hm
       refine AWP.if_ true (Eq.trans (by kernel_rfl) (lit_tf (b := decide (y14_6 < y17_10)) hc110_34)) ?_
       refine AWP.skip ?_
       refine Then.normal ?_
       refine Amk 147457 1 ⟨((.own 0) :: (tp 13 ((.i y14_6) :: (tp 2 ((.i y17_10) :: (tp 202 [])))))), [(.arr 36 3 (List.length y0_10) (flatD enc_GChange y0_10))], 1⟩ ?_
       refine AWP.seq ?_
       refine AWP.block ?_
       refine Adr ?_
       refine Wy (.own 0) [] (Omv rfl) ?_
       refine Wy (.i y17_10) [] (Omv rfl) ?_
       refine Wy (.own 0) [] (Omv rfl) ?_
       refine Wy (.i y17_10) [] (Omv rfl) ?_
       refine Wy (.i (IntKind.i64.wrap (y17_10 - 1))) [] (Obn rfl (fun _ => hb_sub (k := .i64))) ?_
       refine Wy (.own 0) [] (Omv rfl) ?_
       refine Wy (.i y17_10) [] (Omv rfl) ?_
       refine Wy (.i (IntKind.i64.wrap (y17_10 - 1))) [] (Obn rfl (fun _ => hb_sub (k := .i64))) ?_
       obtain ⟨x121_11, hx121_11, hm⟩ := bnd hm
       obtain ⟨hx121_11i, hx121_11g⟩ := geti_some hx121_11
       refine Wy (.loc 0 ((Int.toNat (IntKind.i64.wrap (y17_10 - 1))) * 3)) [] (Oia rfl enc_GChange_len hx121_11i hx121_11g) ?_
       refine Wy (.agg [(.i x121_11.Loc), (.i x121_11.Time), (.i x121_11.N)]) [] (Lr rfl enc_GChange_len hx121_11g) ?_
       refine Wy (.own 0) [] (Omv rfl) ?_
       refine Wy (.i y17_10) [] (Omv rfl) ?_
       obtain ⟨x125_11, hx125_11, hm⟩ := bnd hm
       obtain ⟨hx125_11i, hx125_11g⟩ := geti_some hx125_11
       refine Wy (.loc 0 ((Int.toNat y17_10) * 3)) [] (Oia rfl enc_GChange_len hx125_11i hx125_11g) ?_
       refine Wy (.agg [(.i x125_11.Loc), (.i x125_11.Time), (.i x125_11.N)]) [] (Lr rfl enc_GChange_len hx125_11g) ?_
       obtain ⟨x127_11, hx127_11, hm⟩ := bnd hm
       obtain ⟨hx127_11i, hx127_11g⟩ := geti_some hx127_11
       refine Wy (.loc 0 ((Int.toNat y17_10) * 3)) [] (Oia rfl enc_GChange_len hx127_11i hx127_11g) ?_
       refine Wy (.tup []) [(0, (.arr 36 3 (List.length (List.set y0_10 (Int.toNat y17_10) x121_11)) (flatD enc_GChange (List.set y0_10 (Int.toNat y17_10) x121_11))))] (Osr 0 rfl enc_GChange_len hx127_11g x121_11) ?_
       obtain ⟨x128_11, hx128_11, hm⟩ := bnd hm
       obtain ⟨hx128_11i, hx128_11g⟩ := geti_some hx128_11
       refine Wy (.loc 0 ((Int.toNat (IntKind.i64.wrap (y17_10 - 1))) * 3)) [] (Oia rfl enc_GChange_len hx128_11i hx128_11g) ?_
       refine Wy (.tup []) [(0, (.arr 36 3 (List.length (List.set (List.set y0_10 (Int.toNat y17_10) x121_11) (Int.toNat (IntKind.i64.wrap (y17_10 - 1))) x125_11)) (flatD enc_GChange (List.set (List.set y0_10 (Int.toNat y17_10) x121_11) (Int.toNat (IntKind.i64.wrap (y17_10 - 1))) x125_11))))] (Osr 0 rfl enc_GChange_len hx128_11g x125_11) ?_
       refine Wdr ?_
       refine InBlock.normal ?_
       refine Then.normal ?_
       refine Amk 147457 1 ⟨((.own 0) :: (tp 13 ((.i y14_6) :: (tp 2 ((.i y17_10) :: (tp 202 [])))))), [(.arr 36 3 (List.length (List.set (List.set y0_10 (Int.toNat y17_10) x121_11) (Int.toNat (IntKind.i64.wrap (y17_10 - 1))) x125_11)) (flatD enc_GChange (List.set (List.set y0_10 (Int.toNat y17_10) x121_11) (Int.toNat (IntKind.i64.wrap (y17_10 - 1))) x125_11)))], 1⟩ ?_
       refine AWP.text ?_
       refine Wy (.i y17_10) [] (Omv rfl) ?_
       refine Wy (.i (IntKind.i64.wrap (y17_10 - 1))) [] (Obn rfl (fun _ => hb_sub (k := .i64))) ?_
       refine Wy (.i (IntKind.i64.wrap (y17_10 - 1))) [] (Omv rfl) ?_
       refine Walk.nil ?_
       refine RoundK.normal ?_
       exact Rounds.weak (Weak.toK 147457 0 0 [0]) (ih_10 (fu_10, (List.set (List.set y0_10 (Int.toNat y17_10) x121_11) (Int.toNat (IntKind.i64.wrap (y17_10 - 1))) x125_11), (IntKind.i64.wrap (y17_10 - 1))) hm (Nat.lt_succ_self _))
      ·
       replace hm := cF hc110_34 hm
       refine AWP.if_ false (Eq.trans (by kernel_rfl) (lit_tf (b := decide (y14_6 < y17_10)) hc110_34)) ?_
       refine AWP.exit ?_
       refine Then.exit ?_
       refine RoundK.exit ?_
       refine InBlock.same ?_
       refine Then.normal ?_
       refine AWP.ret ?_
       refine Then.ret ?_
       obtain rfl := Option.some.inj hm
       exact ret_i [0]
  ·
   replace hm := cF hc80_31 hm
   refine AWP.if_ false (Eq.trans (by kernel_rfl) (lit_tf (b := decide ((IntKind.i64.wrap (p3 - p2)) = 1)) hc80_31)) ?_
   refine AWP.skip ?_
   refine Then.normal ?_
   refine Amk 31 1 ⟨((.own 0) :: ((.i p1) :: ((.i p2) :: ((.i p3) :: ((.clo (.func 26) [] []) :: (tp 215 [])))))), [(.arr 36 3 (List.length p0) (flatD enc_GChange p0))], 1⟩ ?_
   refine AWP.seq ?_
   refine AWP.text ?_
   refine Wy (.i p1) [] (Omv rfl) ?_
   refine Wy (.i p3) [] (Omv rfl) ?_
   refine Wy (.i (IntKind.i64.wrap (p1 + p3))) [] (Obn rfl (fun _ => hb_add (k := .i64))) ?_
   refine Wy (.d (.lit (.int .u64 (IntKind.u64.wrap (IntKind.i64.wrap (p1 + p3)))))) [] (Ocs (by kernel_rfl) (op_convert rfl (a1 := .int .i64 (IntKind.i64.wrap (p1 + p3))) (by kernel_rfl) (run_conv (ds := .int .i64) (k' := .u64) (by kernel_rfl) (by kernel_rfl)))) ?_
   refine Wy (.d (.lit (.int .u64 (Int.fdiv (IntKind.u64.wrap (IntKind.i64.wrap (p1 + p3))) (2 ^ 1))))) [] (Ocs (by kernel_rfl) (op_bin rfl (a1 := .int .u64 (IntKind.u64.wrap (IntKind.i64.wrap (p1 + p3)))) (a2 := .int .u64 1) (by kernel_rfl) (by kernel_rfl) (fun _ => hb_shr (n := 1) (by decide) rfl))) ?_
   refine Wy (.i (IntKind.i64.wrap (Int.fdiv (IntKind.u64.wrap (IntKind.i64.wrap (p1 + p3))) (2 ^ 1)))) [] (Ocs (by kernel_rfl) (op_convert rfl (a1 := .int .u64 (Int.fdiv (IntKind.u64.wrap (IntKind.i64.wrap (p1 + p3))) (2 ^ 1))) (by kernel_rfl) (run_conv (ds := .int .u64) (k' := .i64) (by kernel_rfl) (by kernel_rfl)))) ?_
   refine Wy (.i (IntKind.i64.wrap (Int.fdiv (IntKind.u64.wrap (IntKind.i64.wrap (p1 + p3))) (2 ^ 1)))) [] (Omv rfl) ?_
   refine Walk.nil ?_
   refine Then.normal ?_
   refine Amk 262175 1 ⟨((.own 0) :: ((.i p1) :: ((.i p2) :: ((.i p3) :: ((.clo (.func 26) [] []) :: (tp 13 ((.i (IntKind.i64.wrap (Int.fdiv (IntKind.u64.wrap (IntKind.i64.wrap (p1 + p3))) (2 ^ 1)))) :: (tp 201 [])))))))), [(.arr 36 3 (List.length p0) (flatD enc_GChange p0))], 1⟩ ?_
   refine AWP.seq ?_
   refine AWP.text ?_
   refine Wy (.i (IntKind.i64.wrap (Int.fdiv (IntKind.u64.wrap (IntKind.i64.wrap (p1 + p3))) (2 ^ 1)))) [] (Omv rfl) ?_
   refine Wy (.i p2) [] (Omv rfl) ?_
   obtain ⟨v137_13, hv137_13, hm⟩ := bnd hm; replace hv137_13 := Option.some.inj hv137_13
   refine Wy (.i v137_13) [] (Ocs (congrArg (fun z => A.d (.lit (.int .i64 z))) hv137_13) (Obn rfl (fun _ => hb_add (k := .i64)))) ?_
   refine Wy (.i v137_13) [] (Omv rfl) ?_
   refine Walk.nil ?_
   refine Then.normal ?_
   refine Amk 786463 1 ⟨((.own 0) :: ((.i p1) :: ((.i p2) :: ((.i p3) :: ((.clo (.func 26) [] []) :: (tp 13 ((.i (IntKind.i64.wrap (Int.fdiv (IntKind.u64.wrap (IntKind.i64.wrap (p1 + p3))) (2 ^ 1)))) :: ((.i v137_13) :: (tp 200 []))))))))), [(.arr 36 3 (List.length p0) (flatD enc_GChange p0))], 1⟩ ?_
   refine AWP.seq ?_
   refine AWP.text ?_
   refine Wy (.i 0) [] (Omv rfl) ?_
   refine Wy (.i 0) [] (Omv rfl) ?_
   refine Walk.nil ?_
   refine Then.normal ?_
   refine Amk 786463 1 ⟨((.own 0) :: ((.i p1) :: ((.i p2) :: ((.i p3) :: ((.clo (.func 26) [] []) :: (tp 13 ((.i (IntKind.i64.wrap (Int.fdiv (IntKind.u64.wrap (IntKind.i64.wrap (p1 + p3))) (2 ^ 1)))) :: ((.i v137_13) :: (tp 200 []))))))))), [(.arr 36 3 (List.length p0) (flatD enc_GChange p0))], 1⟩ ?_
   refine AWP.cutJ (α := Int × Int) (fun x => match x with | (y20_14, y21_14) => (⟨((.own 0) :: ((.i p1) :: ((.i p2) :: ((.i p3) :: ((.clo (.func 26) [] []) :: (tp 13 ((.i (IntKind.i64.wrap (Int.fdiv (IntKind.u64.wrap (IntKind.i64.wrap (p1 + p3))) (2 ^ 1)))) :: ((.i v137_13) :: ((.i y20_14) :: ((.i y21_14) :: (tp 198 []))))))))))), [(.arr 36 3 (List.length p0) (flatD enc_GChange p0))], 1⟩ : St)) (fun x => match x with | (y20_14, y21_14) => m_slices_symMergeCmpFunc_tally_Change__tally_order_j14 p0 p1 p2 p3 v137_13 (fun p0 p1 p2 p3 => m_slices_symMergeCmpFunc_tally_Change__tally_order fuR p0 p1 p2 p3) y20_14 y21_14 = some r) ?_ (fun J14 => ?_)
   ·
    rintro ⟨y20_14, y21_14⟩ hm
    try dsimp only at hm ⊢
    unfold m_slices_symMergeCmpFunc_tally_Change__tally_order_j14 at hm
    refine AWP.seq ?_
    refine AWP.text ?_
    refine Wy (.i v137_13) [] (Omv rfl) ?_
    refine Wy (.i (IntKind.i64.wrap (v137_13 - 1))) [] (Obn rfl (fun _ => hb_sub (k := .i64))) ?_
    refine Wy (.i (IntKind.i64.wrap (v137_13 - 1))) [] (Omv rfl) ?_
    refine Walk.nil ?_
    refine Then.normal ?_
    refine Amk 8126495 1 ⟨((.own 0) :: ((.i p1) :: ((.i p2) :: ((.i p3) :: ((.clo (.func 26) [] []) :: (tp 13 ((.i (IntKind.i64.wrap (Int.fdiv (IntKind.u64.wrap (IntKind.i64.wrap (p1 + p3))) (2 ^ 1)))) :: ((.i v137_13) :: ((.i y20_14) :: ((.i y21_14) :: ((.i (IntKind.i64.wrap (v137_13 - 1))) :: (tp 197 [])))))))))))), [(.arr 36 3 (List.length p0) (flatD enc_GChange p0))], 1⟩ ?_
    refine AWP.seq ?_
    refine AWP.block ?_
    refine AWP.loopI (α := Nat × Int × Int)
      (fun x => match x with | (fu_15, y20_15, y21_15) => (⟨((.own 0) :: ((.i p1) :: ((.i p2) :: ((.i p3) :: ((.clo (.func 26) [] []) :: (tp 13 ((.i (IntKind.i64.wrap (Int.fdiv (IntKind.u64.wrap (IntKind.i64.wrap (p1 + p3))) (2 ^ 1)))) :: ((.i v137_13) :: ((.i y20_15) :: ((.i y21_15) :: ((.i (IntKind.i64.wrap (v137_13 - 1))) :: (tp 197 [])))))))))))), [(.arr 36 3 (List.length p0) (flatD enc_GChange p0))], 1⟩ : St))
      (fun x => match x with | (fu_15, y20_15, y21_15) => m_slices_symMergeCmpFunc_tally_Change__tally_order_l15 p0 p1 p2 p3 v137_13 (fun p0 p1 p2 p3 => m_slices_symMergeCmpFunc_tally_Change__tally_order fuR p0 p1 p2 p3) fu_15 y20_15 y21_15 = some r)
      (fun x => match x with | (fu_15, y20_15, y21_15) => fu_15) (1152921504606846976, y20_14, y21_14)
      (Weak.toK 8126495 0 0 [0]) hm ?_
    rintro ⟨fu_15, y20_15, y21_15⟩ n_15 hm ih_15
    try dsimp only at hm ih_15 ⊢
    cases fu_15 with
    | zero => exact absurd hm (by unfold m_slices_symMergeCmpFunc_tally_Change__tally_order_l15; simp)
    | succ fu_15 =>
     unfold m_slices_symMergeCmpFunc_tally_Change__tally_order_l15 at hm
     refine AWP.seq ?_
     refine AWP.seq ?_
     refine AWP.text ?_
     refine Wy (.i y20_15) [] (Omv rfl) ?_
     refine Wy (.i y21_15) [] (Omv rfl) ?_
     refine Wy (.b (decide (y20_15 < y21_15))) [] (Obn rfl (fun _ => hb_lss (k := .i64))) ?_
     refine Walk.nil ?_
     refine Then.normal ?_
     refine Amk 2854495385411919762116571938898990272773619743 1 ⟨((.own 0) :: ((.i p1) :: ((.i p2) :: ((.i p3) :: ((.clo (.func 26) [] []) :: (tp 13 ((.i (IntKind.i64.wrap (Int.fdiv (IntKind.u64.wrap (IntKind.i64.wrap (p1 + p3))) (2 ^ 1)))) :: ((.i v137_13) :: ((.i y20_15) :: ((.i y21_15) :: ((.i (IntKind.i64.wrap (v137_13 - 1))) :: (tp 128 ((.b (decide (y20_15 < y21_15))) :: (tp 68 [])))))))))))))), [(.arr 36 3 (List.length p0) (flatD enc_GChange p0))], 1⟩ ?_
     rcases tf_ (decide (y20_15 < y21_15)) with hc151_35 | hc151_35
     ·
      replace hm := cT hc151_35 hm
      refine AWP.if_ true (Eq.trans (by kernel_rfl) (lit_tf (b := decide (y20_15 < y21_15)) hc151_35)) ?_
      refine AWP.skip ?_
      refine Then.normal ?_
      refine Amk 8126495 1 ⟨((.own 0) :: ((.i p1) :: ((.i p2) :: ((.i p3) :: ((.clo (.func 26) [] []) :: (tp 13 ((.i (IntKind.i64.wrap (Int.fdiv (IntKind.u64.wrap (IntKind.i64.wrap (p1 + p3))) (2 ^ 1)))) :: ((.i v137_13) :: ((.i y20_15) :: ((.i y21_15) :: ((.i (IntKind.i64.wrap (v137_13 - 1))) :: (tp 197 [])))))))))))), [(.arr 36 3 (List.length p0) (flatD enc_GChange p0))], 1⟩ ?_
      refine AWP.block ?_
      refine AWP.seq ?_
      refine AWP.text ?_
      refine Wy (.i y20_15) [] (Omv rfl) ?_
      refine Wy (.i y21_15) [] (Omv rfl) ?_
      refine Wy (.i (IntKind.i64.wrap (y20_15 + y21_15))) [] (Obn rfl (fun _ => hb_add (k := .i64))) ?_
      refine Wy (.d (.lit (.int .u64 (IntKind.u64.wrap (IntKind.i64.wrap (y20_15 + y21_15)))))) [] (Ocs (by kernel_rfl) (op_convert rfl (a1 := .int .i64 (IntKind.i64.wrap (y20_15 + y21_15))) (by kernel_rfl) (run_conv (ds := .int .i64) (k' := .u64) (by kernel_rfl) (by kernel_rfl)))) ?_
      refine Wy (.d (.lit (.int .u64 (Int.fdiv (IntKind.u64.wrap (IntKind.i64.wrap (y20_15 + y21_15))) (2 ^ 1))))) [] (Ocs (by kernel_rfl) (op_bin rfl (a1 := .int .u64 (IntKind.u64.wrap (IntKind.i64.wrap (y20_15 + y21_15)))) (a2 := .int .u64 1) (by kernel_rfl) (by kernel_rfl) (fun _ => hb_shr (n := 1) (by decide) rfl))) ?_
      refine Wy (.i (IntKind.i64.wrap (Int.fdiv (IntKind.u64.wrap (IntKind.i64.wrap (y20_15 + y21_15))) (2 ^ 1)))) [] (Ocs (by kernel_rfl) (op_convert rfl (a1 := .int .u64 (Int.fdiv (IntKind.u64.wrap (IntKind.i64.wrap (y20_15 + y21_15))) (2 ^ 1))) (by kernel_rfl) (run_conv (ds := .int .u64) (k' := .i64) (by kernel_rfl) (by kernel_rfl)))) ?_
      refine Wy (.i (IntKind.i64.wrap (Int.fdiv (IntKind.u64.wrap (IntKind.i64.wrap (y20_15 + y21_15))) (2 ^ 1)))) [] (Omv rfl) ?_
      refine Walk.nil ?_
      refine Then.normal ?_
      refine Amk 16515103 1 ⟨((.own 0) :: ((.i p1) :: ((.i p2) :: ((.i p3) :: ((.clo (.func 26) [] []) :: (tp 13 ((.i (IntKind.i64.wrap (Int.fdiv (IntKind.u64.wrap (IntKind.i64.wrap (p1 + p3))) (2 ^ 1)))) :: ((.i v137_13) :: ((.i y20_15) :: ((.i y21_15) :: ((.i (IntKind.i64.wrap (v137_13 - 1))) :: ((.i (IntKind.i64.wrap (Int.fdiv (IntKind.u64.wrap (IntKind.i64.wrap (y20_15 + y21_15))) (2 ^ 1)))) :: (tp 196 []))))))))))))), [(.arr 36 3 (List.length p0) (flatD enc_GChange p0))], 1⟩ ?_
      refine AWP.seq ?_
      refine Adr ?_
      refine Wy (.clo (.func 26) [] []) [] (Omv rfl) ?_
      refine Wy (.own 0) [] (Omv rfl) ?_
      refine Wy (.i (IntKind.i64.wrap (v137_13 - 1))) [] (Omv rfl) ?_
      refine Wy (.i (IntKind.i64.wrap (Int.fdiv (IntKind.u64.wrap (IntKind.i64.wrap (y20_15 + y21_15))) (2 ^ 1)))) [] (Omv rfl) ?_
      obtain ⟨v162_17, hv162_17, hm⟩ := bnd hm; replace hv162_17 := Option.some.inj hv162_17
      refine Wy (.i v162_17) [] (Ocs (congrArg (fun z => A.d (.lit (.int .i64 z))) hv162_17) (Obn rfl (fun _ => hb_sub (k := .i64)))) ?_
      obtain ⟨x163_17, hx163_17, hm⟩ := bnd hm
      obtain ⟨hx163_17i, hx163_17g⟩ := geti_some hx163_17
      refine Wy (.loc 0 ((Int.toNat v162_17) * 3)) [] (Oia rfl enc_GChange_len hx163_17i hx163_17g) ?_
      refine Wy (.agg [(.i x163_17.Loc), (.i x163_17.Time), (.i x163_17.N)]) [] (Lr rfl enc_GChange_len hx163_17g) ?_
      refine Wy (.own 0) [] (Omv rfl) ?_
      refine Wy (.i (IntKind.i64.wrap (Int.fdiv (IntKind.u64.wrap (IntKind.i64.wrap (y20_15 + y21_15))) (2 ^ 1)))) [] (Omv rfl) ?_
      obtain ⟨x167_17, hx167_17, hm⟩ := bnd hm
      obtain ⟨hx167_17i, hx167_17g⟩ := geti_some hx167_17
      refine Wy (.loc 0 ((Int.toNat (IntKind.i64.wrap (Int.fdiv (IntKind.u64.wrap (IntKind.i64.wrap (y20_15 + y21_15))) (2 ^ 1)))) * 3)) [] (Oia rfl enc_GChange_len hx167_17i hx167_17g) ?_
      refine Wy (.agg [(.i x167_17.Loc), (.i x167_17.Time), (.i x167_17.N)]) [] (Lr rfl enc_GChange_len hx167_17g) ?_
      obtain ⟨r169_17, hr169_17, hm⟩ := bnd hm
      refine Wy (.i r169_17) [] (Ocf [] [] [] 0 (ok_tally_order x163_17 x167_17 r169_17 hr169_17) (fun a w => Try.call26 a w) rfl trivial) ?_
      refine Wy (.b (decide (r169_17 < 0))) [] (Obn rfl (fun _ => hb_lss (k := .i64))) ?_
      refine Wy (.b (!decide (r169_17 < 0))) [] (Ocs (by kernel_rfl) (op_un rfl (a1 := .bool (decide (r169_17 < 0))) (by kernel_rfl) (fun _ => hu_not))) ?_
      refine Wdr ?_
      refine Then.normal ?_
      refine Amk 2993155353253689176481146537402947624255349864529951 1 ⟨((.own 0) :: ((.i p1) :: ((.i p2) :: ((.i p3) :: ((.clo (.func 26) [] []) :: (tp 13 ((.i (IntKind.i64.wrap (Int.fdiv (IntKind.u64.wrap (IntKind.i64.wrap (p1 + p3))) (2 ^ 1)))) :: ((.i v137_13) :: ((.i y20_15) :: ((.i y21_15) :: ((.i (IntKind.i64.wrap (v137_13 - 1))) :: ((.i (IntKind.i64.wrap (Int.fdiv (IntKind.u64.wrap (IntKind.i64.wrap (y20_15 + y21_15))) (2 ^ 1)))) :: (tp 147 ((.b (!decide (r169_17 < 0))) :: (tp 48 []))))))))))))))), [(.arr 36 3 (List.length p0) (flatD enc_GChange p0))], 1⟩ ?_
      rcases tf_ (!decide (r169_17 < 0)) with hc171_36 | hc171_36
      ·
       replace hm := cT hc171_36 hm
       refine AWP.if_ true (Eq.trans (by kernel_rfl) (lit_tf (b := (!decide (r169_17 < 0))) hc171_36)) ?_
       refine AWP.text ?_
       refine Wy (.i (IntKind.i64.wrap (Int.fdiv (IntKind.u64.wrap (IntKind.i64.wrap (y20_15 + y21_15))) (2 ^ 1)))) [] (Omv rfl) ?_
       obtain ⟨v173_18, hv173_18, hm⟩ := bnd hm; replace hv173_18 := Option.some.inj hv173_18
       refine Wy (.i v173_18) [] (Ocs (congrArg (fun z => A.d (.lit (.int .i64 z))) hv173_18) (Obn rfl (fun _ => hb_add (k := .i64)))) ?_
       refine Wy (.i v173_18) [] (Omv rfl) ?_
       refine Walk.nil ?_
       refine InBlock.normal ?_
       refine RoundK.normal ?_
       exact Rounds.weak (Weak.toK 8126495 0 0 [0]) (ih_15 (fu_15, v173_18, y21_15) hm (Nat.lt_succ_self _))
      ·
       replace hm := cF hc171_36 hm
       refine AWP.if_ false (Eq.trans (by kernel_rfl) (lit_tf (b := (!decide (r169_17 < 0))) hc171_36)) ?_
       refine AWP.text ?_
       refine Wy (.i (IntKind.i64.wrap (Int.fdiv (IntKind.u64.wrap (IntKind.i64.wrap (y20_15 + y21_15))) (2 ^ 1)))) [] (Omv rfl) ?_
       refine Wy (.i (IntKind.i64.wrap (Int.fdiv (IntKind.u64.wrap (IntKind.i64.wrap (y20_15 + y21_15))) (2 ^ 1)))) [] (Omv rfl) ?_
       refine Walk.nil ?_
       refine InBlock.normal ?_
       refine RoundK.normal ?_
       exact Rounds.weak (Weak.toK 8126495 0 0 [0]) (ih_15 (fu_15, y20_15, (IntKind.i64.wrap (Int.fdiv (IntKind.u64.wrap (IntKind.i64.wrap (y20_15 + y21_15))) (2 ^ 1)))) hm (Nat.lt_succ_self _))
     ·
      replace hm := cF hc151_35 hm
      refine AWP.if_ false (Eq.trans (by kernel_rfl) (lit_tf (b := decide (y20_15 < y21_15)) hc151_35)) ?_
      refine AWP.exit ?_
      refine Then.exit ?_
      refine RoundK.exit ?_
      refine InBlock.same ?_
      refine Then.normal ?_
      refine Amk 1835039 1 ⟨((.own 0) :: ((.i p1) :: ((.i p2) :: ((.i p3) :: ((.clo (.func 26) [] []) :: (tp 13 ((.i (IntKind.i64.wrap (Int.fdiv (IntKind.u64.wrap (IntKind.i64.wrap (p1 + p3))) (2 ^ 1)))) :: ((.i v137_13) :: ((.i y20_15) :: (tp 199 [])))))))))), [(.arr 36 3 (List.length p0) (flatD enc_GChange p0))], 1⟩ ?_
      refine AWP.seq ?_
      refine AWP.text ?_
      refine Wy (.i v137_13) [] (Omv rfl) ?_
      refine Wy (.i y20_15) [] (Omv rfl) ?_
      refine Wy (.i (IntKind.i64.wrap (v137_13 - y20_15))) [] (Obn rfl (fun _ => hb_sub (k := .i64))) ?_
      refine Wy (.i (IntKind.i64.wrap (v137_13 - y20_15))) [] (Omv rfl) ?_
      refine Walk.nil ?_
      refine Then.normal ?_
      refine Amk 18087967 1 ⟨((.own 0) :: ((.i p1) :: ((.i p2) :: ((.i p3) :: ((.clo (.func 26) [] []) :: (tp 13 ((.i (IntKind.i64.wrap (Int.fdiv (IntKind.u64.wrap (IntKind.i64.wrap (p1 + p3))) (2 ^ 1)))) :: (tp 1 ((.i y20_15) :: (tp 3 ((.i (IntKind.i64.wrap (v137_13 - y20_15))) :: (tp 195 [])))))))))))), [(.arr 36 3 (List.length p0) (flatD enc_GChange p0))], 1⟩ ?_
      refine AWP.cutJ (α := (List GChange)) (fun x => match x with | y0_21 => (⟨((.own 0) :: ((.i p1) :: (tp 1 ((.i p3) :: ((.clo (.func 26) [] []) :: (tp 13 ((.i (IntKind.i64.wrap (Int.fdiv (IntKind.u64.wrap (IntKind.i64.wrap (p1 + p3))) (2 ^ 1)))) :: (tp 1 ((.i y20_15) :: (tp 3 ((.i (IntKind.i64.wrap (v137_13 - y20_15))) :: (tp 195 [])))))))))))), [(.arr 36 3 (List.length y0_21) (flatD enc_GChange y0_21))], 1⟩ : St)) (fun x => match x with | y0_21 => m_slices_symMergeCmpFunc_tally_Change__tally_order_j21 p1 p3 v137_13 y20_15 (fun p0 p1 p2 p3 => m_slices_symMergeCmpFunc_tally_Change__tally_order fuR p0 p1 p2 p3) y0_21 = some r) ?_ (fun J21 => ?_)
      ·
       rintro y0_21 hm
       try dsimp only at hm ⊢
       unfold m_slices_symMergeCmpFunc_tally_Change__tally_order_j21 at hm
       refine AWP.cutJ (α := (List GChange)) (fun x => match x with | y0_24 => (⟨((.own 0) :: (tp 2 ((.i p3) :: ((.clo (.func 26) [] []) :: (tp 13 ((.i (IntKind.i64.wrap (Int.fdiv (IntKind.u64.wrap (IntKind.i64.wrap (p1 + p3))) (2 ^ 1)))) :: (tp 5 ((.i (IntKind.i64.wrap (v137_13 - y20_15))) :: (tp 195 []))))))))), [(.arr 36 3 (List.length y0_24) (flatD enc_GChange y0_24))], 1⟩ : St)) (fun x => match x with | y0_24 => m_slices_symMergeCmpFunc_tally_Change__tally_order_j24 p1 p3 v137_13 y20_15 (fun p0 p1 p2 p3 => m_slices_symMergeCmpFunc_tally_Change__tally_order fuR p0 p1 p2 p3) y0_24 = some r) ?_ (fun J24 => ?_)
       ·
        rintro y0_24 hm
        try dsimp only at hm ⊢
        unfold m_slices_symMergeCmpFunc_tally_Change__tally_order_j24 at hm
        refine AWP.seq ?_
        refine AWP.text ?_
        refine Wy (.i (IntKind.i64.wrap (Int.fdiv (IntKind.u64.wrap (IntKind.i64.wrap (p1 + p3))) (2 ^ 1)))) [] (Omv rfl) ?_
        refine Wy (.i (IntKind.i64.wrap (v137_13 - y20_15))) [] (Omv rfl) ?_
        obtain ⟨v208_25, hv208_25, hm⟩ := bnd hm; replace hv208_25 := Option.some.inj hv208_25
        refine Wy (.b v208_25) [] (Ocs (congrArg (fun z => A.d (.lit (.bool z))) hv208_25) (Obn rfl (fun _ => hb_lss (k := .i64)))) ?_
        rcases tf_ v208_25 with hq209_25 | hq209_25
        ·
         replace hm := cT hq209_25 hm
         refine Wy (.b true) [] (Ocs (lit_tf (b := v208_25) hq209_25) (Omv rfl)) ?_
         refine Wy (.i (IntKind.i64.wrap (v137_13 - y20_15))) [] (Omv rfl) ?_
         refine Wy (.i p3) [] (Omv rfl) ?_
         refine Wy (.b (decide ((IntKind.i64.wrap (v137_13 - y20_15)) < p3))) [] (Obn rfl (fun _ => hb_lss (k := .i64))) ?_
         refine Wy (.b (decide ((IntKind.i64.wrap (v137_13 - y20_15)) < p3))) [] (OpT rfl) ?_
         refine Walk.nil ?_
         refine Then.normal ?_
         refine Amk 13164036458569648337239753460458804039861886925068638906805911577 1 ⟨((.own 0) :: (tp 2 ((.i p3) :: ((.clo (.func 26) [] []) :: (tp 13 ((.i (IntKind.i64.wrap (Int.fdiv (IntKind.u64.wrap (IntKind.i64.wrap (p1 + p3))) (2 ^ 1)))) :: (tp 5 ((.i (IntKind.i64.wrap (v137_13 - y20_15))) :: (tp 188 ((.b (decide ((IntKind.i64.wrap (v137_13 - y20_15)) < p3))) :: (tp 6 []))))))))))), [(.arr 36 3 (List.length y0_24) (flatD enc_GChange y0_24))], 1⟩ ?_
         rcases tf_ (decide ((IntKind.i64.wrap (v137_13 - y20_15)) < p3)) with hc213_37 | hc213_37
         ·
          replace hm := cT hc213_37 hm
          refine AWP.if_ true (Eq.trans (by kernel_rfl) (lit_tf (b := decide ((IntKind.i64.wrap (v137_13 - y20_15)) < p3)) hc213_37)) ?_
          refine AWP.text ?_
          refine Wy (.own 0) [] (Omv rfl) ?_
          refine Wy (.i (IntKind.i64.wrap (Int.fdiv (IntKind.u64.wrap (IntKind.i64.wrap (p1 + p3))) (2 ^ 1)))) [] (Omv rfl) ?_
          refine Wy (.i (IntKind.i64.wrap (v137_13 - y20_15))) [] (Omv rfl) ?_
          refine Wy (.i p3) [] (Omv rfl) ?_
          refine Wy (.clo (.func 26) [] []) [] (Omv rfl) ?_
          obtain ⟨r219_26, hr219_26, hm⟩ := bnd hm
          refine Wy (.tup []) [(0, (.arr 36 3 (List.length r219_26) (flatD enc_GChange r219_26)))] (Ocf [0] [] [] 0 (ih y0_24 (IntKind.i64.wrap (Int.fdiv (IntKind.u64.wrap (IntKind.i64.wrap (p1 + p3))) (2 ^ 1))) (IntKind.i64.wrap (v137_13 - y20_15)) p3 r219_26 hr219_26) (fun a w => Try.call50 a w) rfl ⟨rfl, trivial⟩) ?_
          refine Walk.nil ?_
          obtain rfl := Option.some.inj hm
          exact ret_n [0]
         ·
          replace hm := cF hc213_37 hm
          refine AWP.if_ false (Eq.trans (by kernel_rfl) (lit_tf (b := decide ((IntKind.i64.wrap (v137_13 - y20_15)) < p3)) hc213_37)) ?_
          refine AWP.skip ?_
          obtain rfl := Option.some.inj hm
          exact ret_n [0]
        ·
         replace hm := cF hq209_25 hm
         refine Wy (.b false) [] (Ocs (lit_tf (b := v208_25) hq209_25) (Omv rfl)) ?_
         refine Wn ?_
         refine Wn ?_
         refine Wn ?_
         refine Wy (.b false) [] (OpF rfl) ?_
         refine Walk.nil ?_
         refine Then.normal ?_
         refine Amk 13164036458569648337239753460458804039861886925068638906805911577 1 ⟨((.own 0) :: (tp 2 ((.i p3) :: ((.clo (.func 26) [] []) :: (tp 13 ((.i (IntKind.i64.wrap (Int.fdiv (IntKind.u64.wrap (IntKind.i64.wrap (p1 + p3))) (2 ^ 1)))) :: (tp 5 ((.i (IntKind.i64.wrap (v137_13 - y20_15))) :: (tp 188 ((.b false) :: (tp 6 []))))))))))), [(.arr 36 3 (List.length y0_24) (flatD enc_GChange y0_24))], 1⟩ ?_
         refine AWP.if_ false (by kernel_rfl) ?_
         refine AWP.skip ?_
         obtain rfl := Option.some.inj hm
         exact ret_n [0]
       refine AWP.seq ?_
       refine AWP.seq ?_
       refine AWP.text ?_
       refine Wy (.i p1) [] (Omv rfl) ?_
       refine Wy (.i y20_15) [] (Omv rfl) ?_
       refine Wy (.b (decide (p1 < y20_15))) [] (Obn rfl (fun _ => hb_lss (k := .i64))) ?_
       rcases tf_ (decide (p1 < y20_15)) with hq195_22 | hq195_22
       ·
        replace hm := cT hq195_22 hm
        refine Wy (.b true) [] (Ocs (lit_tf (b := decide (p1 < y20_15)) hq195_22) (Omv rfl)) ?_
        refine Wy (.i y20_15) [] (Omv rfl) ?_
        refine Wy (.i (IntKind.i64.wrap (Int.fdiv (IntKind.u64.wrap (IntKind.i64.wrap (p1 + p3))) (2 ^ 1)))) [] (Omv rfl) ?_
        refine Wy (.b (decide (y20_15 < (IntKind.i64.wrap (Int.fdiv (IntKind.u64.wrap (IntKind.i64.wrap (p1 + p3))) (2 ^ 1)))))) [] (Obn rfl (fun _ => hb_lss (k := .i64))) ?_
        refine Wy (.b (decide (y20_15 < (IntKind.i64.wrap (Int.fdiv (IntKind.u64.wrap (IntKind.i64.wrap (p1 + p3))) (2 ^ 1)))))) [] (OpT rfl) ?_
        refine Walk.nil ?_
        refine Then.normal ?_
        refine Amk 803469022129495137770981046170581301261101496891396435738651 1 ⟨((.own 0) :: ((.i p1) :: (tp 1 ((.i p3) :: ((.clo (.func 26) [] []) :: (tp 13 ((.i (IntKind.i64.wrap (Int.fdiv (IntKind.u64.wrap (IntKind.i64.wrap (p1 + p3))) (2 ^ 1)))) :: (tp 1 ((.i y20_15) :: (tp 3 ((.i (IntKind.i64.wrap (v137_13 - y20_15))) :: (tp 174 ((.b (decide (y20_15 < (IntKind.i64.wrap (Int.fdiv (IntKind.u64.wrap (IntKind.i64.wrap (p1 + p3))) (2 ^ 1)))))) :: (tp 20 [])))))))))))))), [(.arr 36 3 (List.length y0_21) (flatD enc_GChange y0_21))], 1⟩ ?_
        rcases tf_ (decide (y20_15 < (IntKind.i64.wrap (Int.fdiv (IntKind.u64.wrap (IntKind.i64.wrap (p1 + p3))) (2 ^ 1))))) with hc199_38 | hc199_38
        ·
         replace hm := cT hc199_38 hm
         refine AWP.if_ true (Eq.trans (by kernel_rfl) (lit_tf (b := decide (y20_15 < (IntKind.i64.wrap (Int.fdiv (IntKind.u64.wrap (IntKind.i64.wrap (p1 + p3))) (2 ^ 1))))) hc199_38)) ?_
         refine AWP.text ?_
         refine Wy (.own 0) [] (Omv rfl) ?_
         refine Wy (.i p1) [] (Omv rfl) ?_
         refine Wy (.i y20_15) [] (Omv rfl) ?_
         refine Wy (.i (IntKind.i64.wrap (Int.fdiv (IntKind.u64.wrap (IntKind.i64.wrap (p1 + p3))) (2 ^ 1)))) [] (Omv rfl) ?_
         refine Wy (.clo (.func 26) [] []) [] (Omv rfl) ?_
         obtain ⟨r205_23, hr205_23, hm⟩ := bnd hm
         refine Wy (.tup []) [(0, (.arr 36 3 (List.length r205_23) (flatD enc_GChange r205_23)))] (Ocf [0] [] [] 0 (ih y0_21 p1 y20_15 (IntKind.i64.wrap (Int.fdiv (IntKind.u64.wrap (IntKind.i64.wrap (p1 + p3))) (2 ^ 1))) r205_23 hr205_23) (fun a w => Try.call50 a w) rfl ⟨rfl, trivial⟩) ?_
         refine Walk.nil ?_
         refine Then.normal ?_
         exact AWP.weak (Weak.toK 17039385 0 0 [0]) (J24 (r205_23) hm)
        ·
         replace hm := cF hc199_38 hm
         refine AWP.if_ false (Eq.trans (by kernel_rfl) (lit_tf (b := decide (y20_15 < (IntKind.i64.wrap (Int.fdiv (IntKind.u64.wrap (IntKind.i64.wrap (p1 + p3))) (2 ^ 1))))) hc199_38)) ?_
         refine AWP.skip ?_
         refine Then.normal ?_
         exact AWP.weak (Weak.toK 17039385 0 0 [0]) (J24 (y0_21) hm)
       ·
        replace hm := cF hq195_22 hm
        refine Wy (.b false) [] (Ocs (lit_tf (b := decide (p1 < y20_15)) hq195_22) (Omv rfl)) ?_
        refine Wn ?_
        refine Wn ?_
        refine Wn ?_
        refine Wy (.b false) [] (OpF rfl) ?_
        refine Walk.nil ?_
        refine Then.normal ?_
        refine Amk 803469022129495137770981046170581301261101496891396435738651 1 ⟨((.own 0) :: ((.i p1) :: (tp 1 ((.i p3) :: ((.clo (.func 26) [] []) :: (tp 13 ((.i (IntKind.i64.wrap (Int.fdiv (IntKind.u64.wrap (IntKind.i64.wrap (p1 + p3))) (2 ^ 1)))) :: (tp 1 ((.i y20_15) :: (tp 3 ((.i (IntKind.i64.wrap (v137_13 - y20_15))) :: (tp 174 ((.b false) :: (tp 20 [])))))))))))))), [(.arr 36 3 (List.length y0_21) (flatD enc_GChange y0_21))], 1⟩ ?_
        refine AWP.if_ false (by kernel_rfl) ?_
        refine AWP.skip ?_
        refine Then.normal ?_
        exact AWP.weak (Weak.toK 17039385 0 0 [0]) (J24 (y0_21) hm)
      refine AWP.seq ?_
      refine AWP.seq ?_
      refine AWP.text ?_
      refine Wy (.i y20_15) [] (Omv rfl) ?_
      refine Wy (.i p2) [] (Omv rfl) ?_
      refine Wy (.b (decide (y20_15 < p2))) [] (Obn rfl (fun _ => hb_lss (k := .i64))) ?_
      rcases tf_ (decide (y20_15 < p2)) with hq181_19 | hq181_19
      ·
       replace hm := cT hq181_19 hm
       refine Wy (.b true) [] (Ocs (lit_tf (b := decide (y20_15 < p2)) hq181_19) (Omv rfl)) ?_
       refine Wy (.i p2) [] (Omv rfl) ?_
       refine Wy (.i (IntKind.i64.wrap (v137_13 - y20_15))) [] (Omv rfl) ?_
       refine Wy (.b (decide (p2 < (IntKind.i64.wrap (v137_13 - y20_15))))) [] (Obn rfl (fun _ => hb_lss (k := .i64))) ?_
       refine Wy (.b (decide (p2 < (IntKind.i64.wrap (v137_13 - y20_15))))) [] (OpT rfl) ?_
       refine Walk.nil ?_
       refine Then.normal ?_
       refine Amk 49039857307708443467467104868809893875799651909893357599 1 ⟨((.own 0) :: ((.i p1) :: ((.i p2) :: ((.i p3) :: ((.clo (.func 26) [] []) :: (tp 13 ((.i (IntKind.i64.wrap (Int.fdiv (IntKind.u64.wrap (IntKind.i64.wrap (p1 + p3))) (2 ^ 1)))) :: (tp 1 ((.i y20_15) :: (tp 3 ((.i (IntKind.i64.wrap (v137_13 - y20_15))) :: (tp 160 ((.b (decide (p2 < (IntKind.i64.wrap (v137_13 - y20_15))))) :: (tp 34 [])))))))))))))), [(.arr 36 3 (List.length p0) (flatD enc_GChange p0))], 1⟩ ?_
       rcases tf_ (decide (p2 < (IntKind.i64.wrap (v137_13 - y20_15)))) with hc185_39 | hc185_39
       ·
        replace hm := cT hc185_39 hm
        refine AWP.if_ true (Eq.trans (by kernel_rfl) (lit_tf (b := decide (p2 < (IntKind.i64.wrap (v137_13 - y20_15)))) hc185_39)) ?_
        refine AWP.text ?_
        refine Wy (.own 0) [] (Omv rfl) ?_
        refine Wy (.i y20_15) [] (Omv rfl) ?_
        refine Wy (.i p2) [] (Omv rfl) ?_
        refine Wy (.i (IntKind.i64.wrap (v137_13 - y20_15))) [] (Omv rfl) ?_
        refine Wy (.clo (.func 26) [] []) [] (Omv rfl) ?_
        obtain ⟨r191_20, hr191_20, hm⟩ := bnd hm
        refine Wy (.tup []) [(0, (.arr 36 3 (List.length r191_20) (flatD enc_GChange r191_20)))] (Ocf [0] [] [] 0 (ok_slices_rotateCmpFunc_tally_Change__tally_order p0 y20_15 p2 (IntKind.i64.wrap (v137_13 - y20_15)) r191_20 hr191_20) (fun a w => Try.call54 a w) rfl ⟨rfl, trivial⟩) ?_
        refine Walk.nil ?_
        refine Then.normal ?_
        exact AWP.weak (Weak.toK 18087963 0 0 [0]) (J21 (r191_20) hm)
       ·
        replace hm := cF hc185_39 hm
        refine AWP.if_ false (Eq.trans (by kernel_rfl) (lit_tf (b := decide (p2 < (IntKind.i64.wrap (v137_13 - y20_15)))) hc185_39)) ?_
        refine AWP.skip ?_
        refine Then.normal ?_
        exact AWP.weak (Weak.toK 18087963 0 0 [0]) (J21 (p0) hm)
      ·
       replace hm := cF hq181_19 hm
       refine Wy (.b false) [] (Ocs (lit_tf (b := decide (y20_15 < p2)) hq181_19) (Omv rfl)) ?_
       refine Wn ?_
       refine Wn ?_
       refine Wn ?_
       refine Wy (.b false) [] (OpF rfl) ?_
       refine Walk.nil ?_
       refine Then.normal ?_
       refine Amk 49039857307708443467467104868809893875799651909893357599 1 ⟨((.own 0) :: ((.i p1) :: ((.i p2) :: ((.i p3) :: ((.clo (.func 26) [] []) :: (tp 13 ((.i (IntKind.i64.wrap (Int.fdiv (IntKind.u64.wrap (IntKind.i64.wrap (p1 + p3))) (2 ^ 1)))) :: (tp 1 ((.i y20_15) :: (tp 3 ((.i (IntKind.i64.wrap (v137_13 - y20_15))) :: (tp 160 ((.b false) :: (tp 34 [])))))))))))))), [(.arr 36 3 (List.length p0) (flatD enc_GChange p0))], 1⟩ ?_
       refine AWP.if_ false (by kernel_rfl) ?_
       refine AWP.skip ?_
       refine Then.normal ?_
       exact AWP.weak (Weak.toK 18087963 0 0 [0]) (J21 (p0) hm)
   refine AWP.seq ?_
   refine AWP.seq ?_
   refine AWP.text ?_
   refine Wy (.i p2) [] (Omv rfl) ?_
   refine Wy (.i (IntKind.i64.wrap (Int.fdiv (IntKind.u64.wrap (IntKind.i64.wrap (p1 + p3))) (2 ^ 1)))) [] (Omv rfl) ?_
   refine Wy (.b (decide ((IntKind.i64.wrap (Int.fdiv (IntKind.u64.wrap (IntKind.i64.wrap (p1 + p3))) (2 ^ 1))) < p2))) [] (Obn rfl (fun _ => hb_gtr (k := .i64))) ?_
   refine Walk.nil ?_
   refine Then.normal ?_
   refine Amk 1393796574908163946345982392040522594910239 1 ⟨((.own 0) :: ((.i p1) :: ((.i p2) :: ((.i p3) :: ((.clo (.func 26) [] []) :: (tp 13 ((.i (IntKind.i64.wrap (Int.fdiv (IntKind.u64.wrap (IntKind.i64.wrap (p1 + p3))) (2 ^ 1)))) :: ((.i v137_13) :: (tp 120 ((.b (decide ((IntKind.i64.wrap (Int.fdiv (IntKind.u64.wrap (IntKind.i64.wrap (p1 + p3))) (2 ^ 1))) < p2))) :: (tp 79 []))))))))))), [(.arr 36 3 (List.length p0) (flatD enc_GChange p0))], 1⟩ ?_
   rcases tf_ (decide ((IntKind.i64.wrap (Int.fdiv (IntKind.u64.wrap (IntKind.i64.wrap (p1 + p3))) (2 ^ 1))) < p2)) with hc140_40 | hc140_40
   ·
    replace hm := cT hc140_40 hm
    refine AWP.if_ true (Eq.trans (by kernel_rfl) (lit_tf (b := decide ((IntKind.i64.wrap (Int.fdiv (IntKind.u64.wrap (IntKind.i64.wrap (p1 + p3))) (2 ^ 1))) < p2)) hc140_40)) ?_
    refine AWP.seq ?_
    refine AWP.text ?_
    refine Wy (.i v137_13) [] (Omv rfl) ?_
    refine Wy (.i p3) [] (Omv rfl) ?_
    refine Wy (.i (IntKind.i64.wrap (v137_13 - p3))) [] (Obn rfl (fun _ => hb_sub (k := .i64))) ?_
    refine Wy (.i (IntKind.i64.wrap (v137_13 - p3))) [] (Omv rfl) ?_
    refine Walk.nil ?_
    refine Then.normal ?_
    refine Amk 1835039 1 ⟨((.own 0) :: ((.i p1) :: ((.i p2) :: ((.i p3) :: ((.clo (.func 26) [] []) :: (tp 13 ((.i (IntKind.i64.wrap (Int.fdiv (IntKind.u64.wrap (IntKind.i64.wrap (p1 + p3))) (2 ^ 1)))) :: ((.i v137_13) :: ((.i (IntKind.i64.wrap (v137_13 - p3))) :: (tp 199 [])))))))))), [(.arr 36 3 (List.length p0) (flatD enc_GChange p0))], 1⟩ ?_
    refine AWP.text ?_
    refine Wy (.i (IntKind.i64.wrap (Int.fdiv (IntKind.u64.wrap (IntKind.i64.wrap (p1 + p3))) (2 ^ 1)))) [] (Omv rfl) ?_
    refine Wy (.i (IntKind.i64.wrap (Int.fdiv (IntKind.u64.wrap (IntKind.i64.wrap (p1 + p3))) (2 ^ 1)))) [] (Omv rfl) ?_
    refine Walk.nil ?_
    refine Then.normal ?_
    exact AWP.weak (Weak.toK 3932191 0 0 [0]) (J14 ((IntKind.i64.wrap (v137_13 - p3)), (IntKind.i64.wrap (Int.fdiv (IntKind.u64.wrap (IntKind.i64.wrap (p1 + p3))) (2 ^ 1)))) hm)
   ·
    replace hm := cF hc140_40 hm
    refine AWP.if_ false (Eq.trans (by kernel_rfl) (lit_tf (b := decide ((IntKind.i64.wrap (Int.fdiv (IntKind.u64.wrap (IntKind.i64.wrap (p1 + p3))) (2 ^ 1))) < p2)) hc140_40)) ?_
    refine AWP.seq ?_
    refine AWP.text ?_
    refine Wy (.i p1) [] (Omv rfl) ?_
    refine Wy (.i p1) [] (Omv rfl) ?_
    refine Walk.nil ?_
    refine Then.normal ?_
    refine Amk 1835039 1 ⟨((.own 0) :: ((.i p1) :: ((.i p2) :: ((.i p3) :: ((.clo (.func 26) [] []) :: (tp 13 ((.i (IntKind.i64.wrap (Int.fdiv (IntKind.u64.wrap (IntKind.i64.wrap (p1 + p3))) (2 ^ 1)))) :: ((.i v137_13) :: ((.i p1) :: (tp 199 [])))))))))), [(.arr 36 3 (List.length p0) (flatD enc_GChange p0))], 1⟩ ?_
    refine AWP.text ?_
    refine Wy (.i p2) [] (Omv rfl) ?_
    refine Wy (.i p2) [] (Omv rfl) ?_
    refine Walk.nil ?_
    refine Then.normal ?_
    exact AWP.weak (Weak.toK 3932191 0 0 [0]) (J14 (p1, p2) hm)

set_option maxRecDepth 20000 in
set_option maxHeartbeats 4000000 in
theorem ok_slices_stableCmpFunc_tally_Change__tally_order (p0 : (List GChange)) (p1 : Int) (r : (List GChange)) (h : m_slices_stableCmpFunc_tally_Change__tally_order p0 p1 = some r) : GCall Try.prog 40 [(.own 0), (.i p1), (.clo (.func 26) [] [])] [(.arr 36 3 (List.length p0) (flatD enc_GChange p0))] (.tup []) [(.arr 36 3 (List.length r) (flatD enc_GChange r))] := by
 refine GCall.of_body (n := 63) (rs := []) Try.func40 rfl rfl rfl ?_
 refine Ato ⟨((.own 0) :: ((.i p1) :: ((.clo (.func 26) [] []) :: (tu 60 [])))), [(.arr 36 3 (List.length p0) (flatD enc_GChange p0))], 1⟩ ?_
 have hm := h
 unfold m_slices_stableCmpFunc_tally_Change__tally_order at hm
 refine AWP.seq ?_
 refine AWP.text ?_
 refine Wy (.i 20) [] (Omv rfl) ?_
 refine Walk.nil ?_
 refine Then.normal ?_
 refine Amk 71 1 ⟨((.own 0) :: ((.i p1) :: ((.clo (.func 26) [] []) :: (tp 3 ((.i 20) :: (tp 56 [])))))), [(.arr 36 3 (List.length p0) (flatD enc_GChange p0))], 1⟩ ?_
 refine AWP.seq ?_
 refine AWP.text ?_
 refine Wy (.i 20) [] (Omv rfl) ?_
 refine Wy (.i 0) [] (Omv rfl) ?_
 refine Wy (.i 20) [] (Omv rfl) ?_
 refine Walk.nil ?_
 refine Then.normal ?_
 refine Amk 455 1 ⟨((.own 0) :: ((.i p1) :: ((.clo (.func 26) [] []) :: (tp 3 ((.i 20) :: ((.i 0) :: ((.i 20) :: (tp 54 [])))))))), [(.arr 36 3 (List.length p0) (flatD enc_GChange p0))], 1⟩ ?_
 refine AWP.seq ?_
 refine AWP.block ?_
 refine AWP.loopI (α := Nat × (List GChange) × Int × Int)
   (fun x => match x with | (fu_0, y0_0, y7_0, y8_0) => (⟨((.own 0) :: ((.i p1) :: ((.clo (.func 26) [] []) :: (tp 3 ((.i 20) :: ((.i y7_0) :: ((.i y8_0) :: (tp 54 [])))))))), [(.arr 36 3 (List.length y0_0) (flatD enc_GChange y0_0))], 1⟩ : St))
   (fun x => match x with | (fu_0, y0_0, y7_0, y8_0) => m_slices_stableCmpFunc_tally_Change__tally_order_l0 p1 fu_0 y0_0 y7_0 y8_0 = some r)
   (fun x => match x with | (fu_0, y0_0, y7_0, y8_0) => fu_0) (1152921504606846976, p0, 0, 20)
   (Weak.toK 455 0 0 [0]) hm ?_
 rintro ⟨fu_0, y0_0, y7_0, y8_0⟩ n_0 hm ih_0
 try dsimp only at hm ih_0 ⊢
 cases fu_0 with
 | zero => exact absurd hm (by unfold m_slices_stableCmpFunc_tally_Change__tally_order_l0; simp)
 | succ fu_0 =>
  unfold m_slices_stableCmpFunc_tally_Change__tally_order_l0 at hm
  refine AWP.seq ?_
  refine AWP.seq ?_
  refine AWP.text ?_
  refine Wy (.i y8_0) [] (Omv rfl) ?_
  refine Wy (.i p1) [] (Omv rfl) ?_
  refine Wy (.b (decide (y8_0 ≤ p1))) [] (Obn rfl (fun _ => hb_leq (k := .i64))) ?_
  refine Walk.nil ?_
  refine Then.normal ?_
  refine Amk 8647 1 ⟨((.own 0) :: ((.i p1) :: ((.clo (.func 26) [] []) :: (tp 3 ((.i 20) :: ((.i y7_0) :: ((.i y8_0) :: (tp 4 ((.b (decide (y8_0 ≤ p1))) :: (tp 49 [])))))))))), [(.arr 36 3 (List.length y0_0) (flatD enc_GChange y0_0))], 1⟩ ?_
  rcases tf_ (decide (y8_0 ≤ p1)) with hc13_7 | hc13_7
  ·
   replace hm := cT hc13_7 hm
   refine AWP.if_ true (Eq.trans (by kernel_rfl) (lit_tf (b := decide (y8_0 ≤ p1)) hc13_7)) ?_
   refine AWP.skip ?_
   refine Then.normal ?_
   refine Amk 455 1 ⟨((.own 0) :: ((.i p1) :: ((.clo (.func 26) [] []) :: (tp 3 ((.i 20) :: ((.i y7_0) :: ((.i y8_0) :: (tp 54 [])))))))), [(.arr 36 3 (List.length y0_0) (flatD enc_GChange y0_0))], 1⟩ ?_
   refine AWP.block ?_
   refine AWP.seq ?_
   refine AWP.text ?_
   refine Wy (.own 0) [] (Omv rfl) ?_
   refine Wy (.i y7_0) [] (Omv rfl) ?_
   refine Wy (.i y8_0) [] (Omv rfl) ?_
   refine Wy (.clo (.func 26) [] []) [] (Omv rfl) ?_
   obtain ⟨r18_1, hr18_1, hm⟩ := bnd hm
   refine Wy (.tup []) [(0, (.arr 36 3 (List.length r18_1) (flatD enc_GChange r18_1)))] (Ocf [0] [] [] 0 (ok_slices_insertionSortCmpFunc_tally_Change__tally_order y0_0 y7_0 y8_0 r18_1 hr18_1) (fun a w => Try.call49 a w) rfl ⟨rfl, trivial⟩) ?_
   refine Walk.nil ?_
   refine Then.normal ?_
   refine Amk 327 1 ⟨((.own 0) :: ((.i p1) :: ((.clo (.func 26) [] []) :: (tp 3 ((.i 20) :: (tp 1 ((.i y8_0) :: (tp 54 [])))))))), [(.arr 36 3 (List.length r18_1) (flatD enc_GChange r18_1))], 1⟩ ?_
   refine AWP.seq ?_
   refine AWP.text ?_
   refine Wy (.i y8_0) [] (Omv rfl) ?_
   refine Wy (.i y8_0) [] (Omv rfl) ?_
   refine Walk.nil ?_
   refine Then.normal ?_
   refine Amk 455 1 ⟨((.own 0) :: ((.i p1) :: ((.clo (.func 26) [] []) :: (tp 3 ((.i 20) :: ((.i y8_0) :: ((.i y8_0) :: (tp 54 [])))))))), [(.arr 36 3 (List.length r18_1) (flatD enc_GChange r18_1))], 1⟩ ?_
   refine AWP.text ?_
   refine Wy (.i y8_0) [] (Omv rfl) ?_
   refine Wy (.i 20) [] (Omv rfl) ?_
   refine Wy (.i (IntKind.i64.wrap (y8_0 + 20))) [] (Obn rfl (fun _ => hb_add (k := .i64))) ?_
   refine Wy (.i (IntKind.i64.wrap (y8_0 + 20))) [] (Omv rfl) ?_
   refine Walk.nil ?_
   refine InBlock.normal ?_
   refine RoundK.normal ?_
   exact Rounds.weak (Weak.toK 455 0 0 [0]) (ih_0 (fu_0, r18_1, y8_0, (IntKind.i64.wrap (y8_0 + 20))) hm (Nat.lt_succ_self _))
  ·
   replace hm := cF hc13_7 hm
   refine AWP.if_ false (Eq.trans (by kernel_rfl) (lit_tf (b := decide (y8_0 ≤ p1)) hc13_7)) ?_
   refine AWP.exit ?_
   refine Then.exit ?_
   refine RoundK.exit ?_
   refine InBlock.same ?_
   refine Then.normal ?_
   refine Amk 199 1 ⟨((.own 0) :: ((.i p1) :: ((.clo (.func 26) [] []) :: (tp 3 ((.i 20) :: ((.i y7_0) :: (tp 55 []))))))), [(.arr 36 3 (List.length y0_0) (flatD enc_GChange y0_0))], 1⟩ ?_
   refine AWP.seq ?_
   refine AWP.text ?_
   refine Wy (.own 0) [] (Omv rfl) ?_
   refine Wy (.i y7_0) [] (Omv rfl) ?_
   refine Wy (.i p1) [] (Omv rfl) ?_
   refine Wy (.clo (.func 26) [] []) [] (Omv rfl) ?_
   obtain ⟨r27_2, hr27_2, hm⟩ := bnd hm
   refine Wy (.tup []) [(0, (.arr 36 3 (List.length r27_2) (flatD enc_GChange r27_2)))] (Ocf [0] [] [] 0 (ok_slices_insertionSortCmpFunc_tally_Change__tally_order y0_0 y7_0 p1 r27_2 hr27_2) (fun a w => Try.call49 a w) rfl ⟨rfl, trivial⟩) ?_
   refine Walk.nil ?_
   refine Then.normal ?_
   refine Amk 71 1 ⟨((.own 0) :: ((.i p1) :: ((.clo (.func 26) [] []) :: (tp 3 ((.i 20) :: (tp 56 [])))))), [(.arr 36 3 (List.length r27_2) (flatD enc_GChange r27_2))], 1⟩ ?_
   refine AWP.block ?_
   refine AWP.loopI (α := Nat × (List GChange) × Int)
     (fun x => match x with | (fu_3, y0_3, y6_3) => (⟨((.own 0) :: ((.i p1) :: ((.clo (.func 26) [] []) :: (tp 3 ((.i y6_3) :: (tp 56 [])))))), [(.arr 36 3 (List.length y0_3) (flatD enc_GChange y0_3))], 1⟩ : St))
     (fun x => match x with | (fu_3, y0_3, y6_3) => m_slices_stableCmpFunc_tally_Change__tally_order_l3 p1 fu_3 y0_3 y6_3 = some r)
     (fun x => match x with | (fu_3, y0_3, y6_3) => fu_3) (1152921504606846976, r27_2, 20)
     (Weak.toK 71 0 0 [0]) hm ?_
   rintro ⟨fu_3, y0_3, y6_3⟩ n_3 hm ih_3
   try dsimp only at hm ih_3 ⊢
   cases fu_3 with
   | zero => exact absurd hm (by unfold m_slices_stableCmpFunc_tally_Change__tally_order_l3; simp)
   | succ fu_3 =>
    unfold m_slices_stableCmpFunc_tally_Change__tally_order_l3 at hm
    refine AWP.seq ?_
    refine AWP.seq ?_
    refine AWP.text ?_
    refine Wy (.i y6_3) [] (Omv rfl) ?_
    refine Wy (.i p1) [] (Omv rfl) ?_
    refine Wy (.b (decide (y6_3 < p1))) [] (Obn rfl (fun _ => hb_lss (k := .i64))) ?_
    refine Walk.nil ?_
    refine Then.normal ?_
    refine Amk 1073741895 1 ⟨((.own 0) :: ((.i p1) :: ((.clo (.func 26) [] []) :: (tp 3 ((.i y6_3) :: (tp 23 ((.b (decide (y6_3 < p1))) :: (tp 32 [])))))))), [(.arr 36 3 (List.length y0_3) (flatD enc_GChange y0_3))], 1⟩ ?_
    rcases tf_ (decide (y6_3 < p1)) with hc30_8 | hc30_8
    ·
     replace hm := cT hc30_8 hm
     refine AWP.if_ true (Eq.trans (by kernel_rfl) (lit_tf (b := decide (y6_3 < p1)) hc30_8)) ?_
     refine AWP.skip ?_
     refine Then.normal ?_
     refine Amk 71 1 ⟨((.own 0) :: ((.i p1) :: ((.clo (.func 26) [] []) :: (tp 3 ((.i y6_3) :: (tp 56 [])))))), [(.arr 36 3 (List.length y0_3) (flatD enc_GChange y0_3))], 1⟩ ?_
     refine AWP.block ?_
     refine AWP.seq ?_
     refine AWP.text ?_
     refine Wy (.i y6_3) [] (Omv rfl) ?_
     refine Wy (.i (IntKind.i64.wrap (2 * y6_3))) [] (Obn rfl (fun _ => hb_mul (k := .i64))) ?_
     refine Wy (.i 0) [] (Omv rfl) ?_
     refine Wy (.i (IntKind.i64.wrap (2 * y6_3))) [] (Omv rfl) ?_
     refine Walk.nil ?_
     refine Then.normal ?_
     refine Amk 455 1 ⟨((.own 0) :: ((.i p1) :: ((.clo (.func 26) [] []) :: (tp 3 ((.i y6_3) :: ((.i 0) :: ((.i (IntKind.i64.wrap (2 * y6_3))) :: (tp 54 [])))))))), [(.arr 36 3 (List.length y0_3) (flatD enc_GChange y0_3))], 1⟩ ?_
     refine AWP.seq ?_
     refine AWP.block ?_
     refine AWP.loopI (α := Nat × (List GChange) × Int × Int)
       (fun x => match x with | (fu_4, y0_4, y7_4, y8_4) => (⟨((.own 0) :: ((.i p1) :: ((.clo (.func 26) [] []) :: (tp 3 ((.i y6_3) :: ((.i y7_4) :: ((.i y8_4) :: (tp 54 [])))))))), [(.arr 36 3 (List.length y0_4) (flatD enc_GChange y0_4))], 1⟩ : St))
       (fun x => match x with | (fu_4, y0_4, y7_4, y8_4) => m_slices_stableCmpFunc_tally_Change__tally_order_l4 p1 y6_3 (fun y0_3 y6_3 => m_slices_stableCmpFunc_tally_Change__tally_order_l3 p1 fu_3 y0_3 y6_3) fu_4 y0_4 y7_4 y8_4 = some r)
       (fun x => match x with | (fu_4, y0_4, y7_4, y8_4) => fu_4) (1152921504606846976, y0_3, 0, (IntKind.i64.wrap (2 * y6_3)))
       (Weak.toK 455 0 0 [0]) hm ?_
     rintro ⟨fu_4, y0_4, y7_4, y8_4⟩ n_4 hm ih_4
     try dsimp only at hm ih_4 ⊢
     cases fu_4 with
     | zero => exact absurd hm (by unfold m_slices_stableCmpFunc_tally_Change__tally_order_l4; simp)
     | succ fu_4 =>
      unfold m_slices_stableCmpFunc_tally_Change__tally_order_l4 at hm
      refine AWP.seq ?_
      refine AWP.seq ?_
      refine AWP.text ?_
      refine Wy (.i y8_4) [] (Omv rfl) ?_
      refine Wy (.i p1) [] (Omv rfl) ?_
      refine Wy (.b (decide (y8_4 ≤ p1))) [] (Obn rfl (fun _ => hb_leq (k := .i64))) ?_
      refine Walk.nil ?_
      refine Then.normal ?_
      refine Amk 34359738823 1 ⟨((.own 0) :: ((.i p1) :: ((.clo (.func 26) [] []) :: (tp 3 ((.i y6_3) :: ((.i y7_4) :: ((.i y8_4) :: (tp 26 ((.b (decide (y8_4 ≤ p1))) :: (tp 27 [])))))))))), [(.arr 36 3 (List.length y0_4) (flatD enc_GChange y0_4))], 1⟩ ?_
      rcases tf_ (decide (y8_4 ≤ p1)) with hc35_9 | hc35_9
      ·
       replace hm := cT hc35_9 hm
       refine AWP.if_ true (Eq.trans (by kernel_rfl) (lit_tf (b := decide (y8_4 ≤ p1)) hc35_9)) ?_
       refine AWP.skip ?_
       refine Then.normal ?_
       refine Amk 455 1 ⟨((.own 0) :: ((.i p1) :: ((.clo (.func 26) [] []) :: (tp 3 ((.i y6_3) :: ((.i y7_4) :: ((.i y8_4) :: (tp 54 [])))))))), [(.arr 36 3 (List.length y0_4) (flatD enc_GChange y0_4))], 1⟩ ?_
       refine AWP.block ?_
       refine AWP.seq ?_
       refine AWP.text ?_
       refine Wy (.own 0) [] (Omv rfl) ?_
       refine Wy (.i y7_4) [] (Omv rfl) ?_
       refine Wy (.i y7_4) [] (Omv rfl) ?_
       refine Wy (.i y6_3) [] (Omv rfl) ?_
       refine Wy (.i (IntKind.i64.wrap (y7_4 + y6_3))) [] (Obn rfl (fun _ => hb_add (k := .i64))) ?_
       refine Wy (.i y8_4) [] (Omv rfl) ?_
       refine Wy (.clo (.func 26) [] []) [] (Omv rfl) ?_
       obtain ⟨r43_5, hr43_5, hm⟩ := bnd hm
       refine Wy (.tup []) [(0, (.arr 36 3 (List.length r43_5) (flatD enc_GChange r43_5)))] (Ocf [0] [] [] 0 (ok_slices_symMergeCmpFunc_tally_Change__tally_order 1152921504606846976 y0_4 y7_4 (IntKind.i64.wrap (y7_4 + y6_3)) y8_4 r43_5 hr43_5) (fun a w => Try.call50 a w) rfl ⟨rfl, trivial⟩) ?_
       refine Walk.nil ?_
       refine Then.normal ?_
       refine Amk 327 1 ⟨((.own 0) :: ((.i p1) :: ((.clo (.func 26) [] []) :: (tp 3 ((.i y6_3) :: (tp 1 ((.i y8_4) :: (tp 54 [])))))))), [(.arr 36 3 (List.length r43_5) (flatD enc_GChange r43_5))], 1⟩ ?_
       refine AWP.seq ?_
       refine AWP.text ?_
       refine Wy (.i y8_4) [] (Omv rfl) ?_
       refine Wy (.i y8_4) [] (Omv rfl) ?_
       refine Walk.nil ?_
       refine Then.normal ?_
       refine Amk 455 1 ⟨((.own 0) :: ((.i p1) :: ((.clo (.func 26) [] []) :: (tp 3 ((.i y6_3) :: ((.i y8_4) :: ((.i y8_4) :: (tp 54 [])))))))), [(.arr 36 3 (List.length r43_5) (flatD enc_GChange r43_5))], 1⟩ ?_
       refine AWP.text ?_
       refine Wy (.i y8_4) [] (Omv rfl) ?_
       refine Wy (.i y6_3) [] (Omv rfl) ?_
       refine Wy (.i (IntKind.i64.wrap (2 * y6_3))) [] (Obn rfl (fun _ => hb_mul (k := .i64))) ?_
       refine Wy (.i (IntKind.i64.wrap (y8_4 + (IntKind.i64.wrap (2 * y6_3))))) [] (Obn rfl (fun _ => hb_add (k := .i64))) ?_
       refine Wy (.i (IntKind.i64.wrap (y8_4 + (IntKind.i64.wrap (2 * y6_3))))) [] (Omv rfl) ?_
       refine Walk.nil ?_
       refine InBlock.normal ?_
       refine RoundK.normal ?_
       exact Rounds.weak (Weak.toK 455 0 0 [0]) (ih_4 (fu_4, r43_5, y8_4, (IntKind.i64.wrap (y8_4 + (IntKind.i64.wrap (2 * y6_3))))) hm (Nat.lt_succ_self _))
      ·
       replace hm := cF hc35_9 hm
       refine AWP.if_ false (Eq.trans (by kernel_rfl) (lit_tf (b := decide (y8_4 ≤ p1)) hc35_9)) ?_
       refine AWP.exit ?_
       refine Then.exit ?_
       refine RoundK.exit ?_
       refine InBlock.same ?_
       refine Then.normal ?_
       refine Amk 199 1 ⟨((.own 0) :: ((.i p1) :: ((.clo (.func 26) [] []) :: (tp 3 ((.i y6_3) :: ((.i y7_4) :: (tp 55 []))))))), [(.arr 36 3 (List.length y0_4) (flatD enc_GChange y0_4))], 1⟩ ?_
       refine AWP.seq ?_
       refine AWP.seq ?_
       refine AWP.text ?_
       refine Wy (.i y7_4) [] (Omv rfl) ?_
       refine Wy (.i y6_3) [] (Omv rfl) ?_
       refine Wy (.i (IntKind.i64.wrap (y7_4 + y6_3))) [] (Obn rfl (fun _ => hb_add (k := .i64))) ?_
       refine Wy (.i (IntKind.i64.wrap (y7_4 + y6_3))) [] (Omv rfl) ?_
       refine Walk.nil ?_
       refine Then.normal ?_
       refine Amk 711 1 ⟨((.own 0) :: ((.i p1) :: ((.clo (.func 26) [] []) :: (tp 3 ((.i y6_3) :: ((.i y7_4) :: (tp 1 ((.i (IntKind.i64.wrap (y7_4 + y6_3))) :: (tp 53 []))))))))), [(.arr 36 3 (List.length y0_4) (flatD enc_GChange y0_4))], 1⟩ ?_
       refine AWP.seq ?_
       refine AWP.text ?_
       refine Wy (.i (IntKind.i64.wrap (y7_4 + y6_3))) [] (Omv rfl) ?_
       refine Wy (.i p1) [] (Omv rfl) ?_
       refine Wy (.b (decide ((IntKind.i64.wrap (y7_4 + y6_3)) < p1))) [] (Obn rfl (fun _ => hb_lss (k := .i64))) ?_
       refine Walk.nil ?_
       refine Then.normal ?_
       refine Amk 18014398509482695 1 ⟨((.own 0) :: ((.i p1) :: ((.clo (.func 26) [] []) :: (tp 3 ((.i y6_3) :: ((.i y7_4) :: (tp 1 ((.i (IntKind.i64.wrap (y7_4 + y6_3))) :: (tp 44 ((.b (decide ((IntKind.i64.wrap (y7_4 + y6_3)) < p1))) :: (tp 8 []))))))))))), [(.arr 36 3 (List.length y0_4) (flatD enc_GChange y0_4))], 1⟩ ?_
       rcases tf_ (decide ((IntKind.i64.wrap (y7_4 + y6_3)) < p1)) with hc54_10 | hc54_10
       ·
        replace hm := cT hc54_10 hm
        refine AWP.if_ true (Eq.trans (by kernel_rfl) (lit_tf (b := decide ((IntKind.i64.wrap (y7_4 + y6_3)) < p1)) hc54_10)) ?_
        refine AWP.text ?_
        refine Wy (.own 0) [] (Omv rfl) ?_
        refine Wy (.i y7_4) [] (Omv rfl) ?_
        refine Wy (.i (IntKind.i64.wrap (y7_4 + y6_3))) [] (Omv rfl) ?_
        refine Wy (.i p1) [] (Omv rfl) ?_
        refine Wy (.clo (.func 26) [] []) [] (Omv rfl) ?_
        obtain ⟨r60_6, hr60_6, hm⟩ := bnd hm
        refine Wy (.tup []) [(0, (.arr 36 3 (List.length r60_6) (flatD enc_GChange r60_6)))] (Ocf [0] [] [] 0 (ok_slices_symMergeCmpFunc_tally_Change__tally_order 1152921504606846976 y0_4 y7_4 (IntKind.i64.wrap (y7_4 + y6_3)) p1 r60_6 hr60_6) (fun a w => Try.call50 a w) rfl ⟨rfl, trivial⟩) ?_
        refine Walk.nil ?_
        refine Then.normal ?_
        refine Amk 71 1 ⟨((.own 0) :: ((.i p1) :: ((.clo (.func 26) [] []) :: (tp 3 ((.i y6_3) :: (tp 56 [])))))), [(.arr 36 3 (List.length r60_6) (flatD enc_GChange r60_6))], 1⟩ ?_
        refine AWP.text ?_
        refine Wy (.i y6_3) [] (Omv rfl) ?_
        refine Wy (.i (IntKind.i64.wrap (y6_3 * 2))) [] (Obn rfl (fun _ => hb_mul (k := .i64))) ?_
        refine Wy (.i (IntKind.i64.wrap (y6_3 * 2))) [] (Omv rfl) ?_
        refine Walk.nil ?_
        refine InBlock.normal ?_
        refine RoundK.normal ?_
        exact Rounds.weak (Weak.toK 71 0 0 [0]) (ih_3 (fu_3, r60_6, (IntKind.i64.wrap (y6_3 * 2))) hm (Nat.lt_succ_self _))
       ·
        replace hm := cF hc54_10 hm
        refine AWP.if_ false (Eq.trans (by kernel_rfl) (lit_tf (b := decide ((IntKind.i64.wrap (y7_4 + y6_3)) < p1)) hc54_10)) ?_
        refine AWP.skip ?_
        refine Then.normal ?_
        refine Amk 71 1 ⟨((.own 0) :: ((.i p1) :: ((.clo (.func 26) [] []) :: (tp 3 ((.i y6_3) :: (tp 56 [])))))), [(.arr 36 3 (List.length y0_4) (flatD enc_GChange y0_4))], 1⟩ ?_
        refine AWP.text ?_
        refine Wy (.i y6_3) [] (Omv rfl) ?_
        refine Wy (.i (IntKind.i64.wrap (y6_3 * 2))) [] (Obn rfl (fun _ => hb_mul (k := .i64))) ?_
        refine Wy (.i (IntKind.i64.wrap (y6_3 * 2))) [] (Omv rfl) ?_
        refine Walk.nil ?_
        refine InBlock.normal ?_
        refine RoundK.normal ?_
        exact Rounds.weak (Weak.toK 71 0 0 [0]) (ih_3 (fu_3, y0_4, (IntKind.i64.wrap (y6_3 * 2))) hm (Nat.lt_succ_self _))
    ·
     replace hm := cF hc30_8 hm
     refine AWP.if_ false (Eq.trans (by kernel_rfl) (lit_tf (b := decide (y6_3 < p1)) hc30_8)) ?_
     refine AWP.exit ?_
     refine Then.exit ?_
     refine RoundK.exit ?_
     refine InBlock.same ?_
     obtain rfl := Option.some.inj hm
     exact ret_n [0]

set_option maxRecDepth 20000 in
set_option maxHeartbeats 4000000 in
theorem ok_slices_SortStableFunc_Change__tally_order (p0 : (List GChange)) (r : (List GChange)) (h : m_slices_SortStableFunc_Change__tally_order p0 = some r) : GCall Try.prog 25 [(.own 0), (.clo (.func 26) [] [])] [(.arr 36 3 (List.length p0) (flatD enc_GChange p0))] (.tup []) [(.arr 36 3 (List.length r) (flatD enc_GChange r))] := by
 refine GCall.of_body (n := 9) (rs := []) Try.func25 rfl rfl rfl ?_
 refine Ato ⟨((.own 0) :: ((.clo (.func 26) [] []) :: (tu 7 []))), [(.arr 36 3 (List.length p0) (flatD enc_GChange p0))], 1⟩ ?_
 have hm := h
 unfold m_slices_SortStableFunc_Change__tally_order at hm
 refine AWP.text ?_
 refine Wy (.own 0) [] (Omv rfl) ?_
 refine Wy (.own 0) [] (Omv rfl) ?_
 refine Wy (.i ((List.length p0 : Nat) : Int)) [] (Oln rfl) ?_
 refine Wy (.clo (.func 26) [] []) [] (Omv rfl) ?_
 obtain ⟨r8_0, hr8_0, hm⟩ := bnd hm
 refine Wy (.tup []) [(0, (.arr 36 3 (List.length r8_0) (flatD enc_GChange r8_0)))] (Ocf [0] [] [] 0 (ok_slices_stableCmpFunc_tally_Change__tally_order p0 ((List.length p0 : Nat) : Int) r8_0 hr8_0) (fun a w => Try.call40 a w) rfl ⟨rfl, trivial⟩) ?_
 refine Walk.nil ?_
 obtain rfl := Option.some.inj hm
 exact ret_n [0]

set_option maxRecDepth 20000 in
set_option maxHeartbeats 4000000 in
theorem ok_tally_Normal_1 (p0 : GChange) (r : Bool) (h : m_tally_Normal_1 p0 = some r) : GCall Try.prog 28 [(.agg [(.i p0.Loc), (.i p0.Time), (.i p0.N)])] [] (.b r) [] := by
 refine GCall.of_body (n := 6) (rs := [(.tmp 2)]) Try.func28 rfl rfl rfl ?_
 refine Ato ⟨((.agg [(.i p0.Loc), (.i p0.Time), (.i p0.N)]) :: (tu 5 [])), [], 0⟩ ?_
 have hm := h
 unfold m_tally_Normal_1 at hm
 refine AWP.seq ?_
 refine AWP.text ?_
 refine Wy (.loc 0 0) [(0, (.box [(.i p0.Loc), (.i p0.Time), (.i p0.N)]))] (Obx rfl) ?_
 refine Wy (.b false) [] (Omv rfl) ?_
 refine Walk.nil ?_
 refine Then.normal ?_
 refine Amk 2 1 ⟨(tp 1 ((.loc 0 0) :: (tp 4 []))), [(.box [(.i p0.Loc), (.i p0.Time), (.i p0.N)])], 0⟩ ?_
 refine AWP.seq ?_
 refine AWP.text ?_
 refine Wy (.loc 0 2) [] (Ofa rfl) ?_
 refine Wy (.i p0.N) [] (Old rfl) ?_
 refine Wy (.b (decide (p0.N = 0))) [] (Obn rfl (fun _ => hb_eql (k := .i64))) ?_
 refine Wy (.b (decide (p0.N = 0))) [] (Omv rfl) ?_
 refine Walk.nil ?_
 refine Then.normal ?_
 refine AWP.ret ?_
 obtain rfl := Option.some.inj hm
 exact ret_i []

set_option maxRecDepth 20000 in
set_option maxHeartbeats 4000000 in
theorem ok_slices_IndexFunc_Change__tally_Normal_1 (p0 : (List GChange)) (r : Int) (h : m_slices_IndexFunc_Change__tally_Normal_1 p0 = some r) : GCall Try.prog 43 [(.l enc_GChange p0), (.clo (.func 28) [] [])] [] (.i r) [] := by
 refine GCall.of_body (n := 19) (rs := [(.tmp 4)]) Try.func43 rfl rfl rfl ?_
 refine Ato ⟨((.l enc_GChange p0) :: ((.clo (.func 28) [] []) :: (tu 17 []))), [], 0⟩ ?_
 have hm := h
 unfold m_slices_IndexFunc_Change__tally_Normal_1 at hm
 refine AWP.seq ?_
 refine AWP.text ?_
 refine Wy (.i 0) [] (Omv rfl) ?_
 refine Walk.nil ?_
 refine Then.normal ?_
 refine Amk 3 0 ⟨((.l enc_GChange p0) :: ((.clo (.func 28) [] []) :: (tp 17 []))), [], 0⟩ ?_
 refine AWP.seq ?_
 refine AWP.seq ?_
 refine AWP.text ?_
 refine Wy (.l enc_GChange p0) [] (Omv rfl) ?_
 refine Wy (.i ((List.length p0 : Nat) : Int)) [] (Oln rfl) ?_
 refine Wy (.i 0) [] (Omv rfl) ?_
 refine Walk.nil ?_
 refine Then.normal ?_
 refine Amk 387 0 ⟨((.l enc_GChange p0) :: ((.clo (.func 28) [] []) :: (tp 5 ((.i ((List.length p0 : Nat) : Int)) :: ((.i 0) :: (tp 10 [])))))), [], 0⟩ ?_
 refine AWP.block ?_
 refine AWP.loopI (α := Nat × Int)
   (fun x => match x with | (fu_1, y8_1) => (⟨((.l enc_GChange p0) :: ((.clo (.func 28) [] []) :: (tp 5 ((.i ((List.length p0 : Nat) : Int)) :: ((.i y8_1) :: (tp 10 [])))))), [], 0⟩ : St))
   (fun x => match x with | (fu_1, y8_1) => m_slices_IndexFunc_Change__tally_Normal_1_l1 p0 fu_1 y8_1 = some r)
   (fun x => match x with | (fu_1, y8_1) => fu_1) (1152921504606846976, 0)
   (Weak.toK 387 0 0 []) hm ?_
 rintro ⟨fu_1, y8_1⟩ n_1 hm ih_1
 try dsimp only at hm ih_1 ⊢
 cases fu_1 with
 | zero => exact absurd hm (by unfold m_slices_IndexFunc_Change__tally_Normal_1_l1; simp)
 | succ fu_1 =>
  unfold m_slices_IndexFunc_Change__tally_Normal_1_l1 at hm
  refine AWP.seq ?_
  refine AWP.text ?_
  refine Wy (.b (decide (y8_1 < ((List.length p0 : Nat) : Int)))) [] (Obn rfl (fun _ => hb_lss (k := .i64))) ?_
  refine Walk.nil ?_
  refine Then.normal ?_
  refine Amk 899 0 ⟨((.l enc_GChange p0) :: ((.clo (.func 28) [] []) :: (tp 5 ((.i ((List.length p0 : Nat) : Int)) :: ((.i y8_1) :: ((.b (decide (y8_1 < ((List.length p0 : Nat) : Int)))) :: (tp 9 []))))))), [], 0⟩ ?_
  refine AWP.seq ?_
  rcases tf_ (decide (y8_1 < ((List.length p0 : Nat) : Int))) with hc9_3 | hc9_3
  ·
   replace hm := cT hc9_3 hm
   refine AWP.if_ true (Eq.trans (by kernel_rfl) (lit_tf (b := decide (y8_1 < ((List.length p0 : Nat) : Int))) hc9_3)) ?_
   refine AWP.skip ?_
   refine Then.normal ?_
   refine Amk 387 0 ⟨((.l enc_GChange p0) :: ((.clo (.func 28) [] []) :: (tp 5 ((.i ((List.length p0 : Nat) : Int)) :: ((.i y8_1) :: (tp 10 [])))))), [], 0⟩ ?_
   refine AWP.seq ?_
   refine AWP.block ?_
   refine AWP.seq ?_
   refine AWP.text ?_
   refine Wy (.i y8_1) [] (Omv rfl) ?_
   refine Wy (.i y8_1) [] (Omv rfl) ?_
   refine Walk.nil ?_
   refine Then.normal ?_
   refine Amk 419 0 ⟨((.l enc_GChange p0) :: ((.clo (.func 28) [] []) :: (tp 3 ((.i y8_1) :: (tp 1 ((.i ((List.length p0 : Nat) : Int)) :: ((.i y8_1) :: (tp 10 [])))))))), [], 0⟩ ?_
   refine AWP.seq ?_
   refine AWP.text ?_
   refine Wy (.clo (.func 28) [] []) [] (Omv rfl) ?_
   refine Wy (.l enc_GChange p0) [] (Omv rfl) ?_
   refine Wy (.i y8_1) [] (Omv rfl) ?_
   obtain ⟨x14_2, hx14_2, hm⟩ := bnd hm
   obtain ⟨hx14_2i, hx14_2g⟩ := geti_some hx14_2
   refine Wy (.d (.ref (List.drop ((Int.toNat y8_1) * 3) (flatD enc_GChange p0)))) [] (Oia rfl enc_GChange_len hx14_2i hx14_2g) ?_
   refine Wy (.agg [(.i x14_2.Loc), (.i x14_2.Time), (.i x14_2.N)]) [] (Lf rfl enc_GChange_len hx14_2g) ?_
   obtain ⟨r16_2, hr16_2, hm⟩ := bnd hm
   refine Wy (.b r16_2) [] (Ocf [] [] [] 0 (ok_tally_Normal_1 x14_2 r16_2 hr16_2) (fun a w => Try.call28 a w) rfl trivial) ?_
   refine Walk.nil ?_
   refine Then.normal ?_
   refine Amk 65955 0 ⟨((.l enc_GChange p0) :: ((.clo (.func 28) [] []) :: (tp 3 ((.i y8_1) :: (tp 1 ((.i ((List.length p0 : Nat) : Int)) :: ((.i y8_1) :: (tp 7 ((.b r16_2) :: (tp 2 [])))))))))), [], 0⟩ ?_
   rcases tf_ r16_2 with hc16_4 | hc16_4
   ·
    replace hm := cT hc16_4 hm
    refine AWP.if_ true (Eq.trans (by kernel_rfl) (lit_tf (b := r16_2) hc16_4)) ?_
    refine AWP.seq ?_
    refine AWP.text ?_
    refine Wy (.i y8_1) [] (Omv rfl) ?_
    refine Wy (.i y8_1) [] (Omv rfl) ?_
    refine Walk.nil ?_
    refine Then.normal ?_
    refine AWP.ret ?_
    refine InBlock.ret ?_
    refine Then.ret ?_
    refine RoundK.ret ?_
    refine InBlock.ret ?_
    refine Then.ret ?_
    obtain rfl := Option.some.inj hm
    exact ret_i []
   ·
    replace hm := cF hc16_4 hm
    refine AWP.if_ false (Eq.trans (by kernel_rfl) (lit_tf (b := r16_2) hc16_4)) ?_
    refine AWP.skip ?_
    refine InBlock.normal ?_
    refine Then.normal ?_
    refine Amk 387 0 ⟨((.l enc_GChange p0) :: ((.clo (.func 28) [] []) :: (tp 5 ((.i ((List.length p0 : Nat) : Int)) :: ((.i y8_1) :: (tp 10 [])))))), [], 0⟩ ?_
    refine AWP.text ?_
    refine Wy (.i (IntKind.i64.wrap (y8_1 + 1))) [] (Obn rfl (fun _ => hb_add (k := .i64))) ?_
    refine Wy (.i (IntKind.i64.wrap (y8_1 + 1))) [] (Omv rfl) ?_
    refine Walk.nil ?_
    refine RoundK.normal ?_
    exact Rounds.weak (Weak.toK 387 0 0 []) (ih_1 (fu_1, (IntKind.i64.wrap (y8_1 + 1))) hm (Nat.lt_succ_self _))
  ·
   replace hm := cF hc9_3 hm
   refine AWP.if_ false (Eq.trans (by kernel_rfl) (lit_tf (b := decide (y8_1 < ((List.length p0 : Nat) : Int))) hc9_3)) ?_
   refine AWP.exit ?_
   refine Then.exit ?_
   refine RoundK.exit ?_
   refine InBlock.same ?_
   refine Then.normal ?_
   refine Amk 0 0 ⟨(tp 19 []), [], 0⟩ ?_
   refine AWP.seq ?_
   refine AWP.text ?_
   refine Wy (.i (-1)) [] (Omv rfl) ?_
   refine Walk.nil ?_
   refine Then.normal ?_
   refine AWP.ret ?_
   obtain rfl := Option.some.inj hm
   exact ret_i []

set_option maxRecDepth 20000 in
set_option maxHeartbeats 4000000 in
theorem ok_slices_DeleteFunc_Change__tally_Normal_1 (p0 : (List GChange)) (r : (List GChange)) (h : m_slices_DeleteFunc_Change__tally_Normal_1 p0 = some r) : GCall Try.prog 27 [(.own 0), (.clo (.func 28) [] [])] [(.arr 36 3 (List.length p0) (flatD enc_GChange p0))] (.l enc_GChange r) [.gone] := by
 refine GCall.of_body (n := 42) (rs := [(.tmp 4)]) Try.func27 rfl rfl rfl ?_
 refine Ato ⟨((.own 0) :: ((.clo (.func 28) [] []) :: (tu 40 []))), [(.arr 36 3 (List.length p0) (flatD enc_GChange p0))], 1⟩ ?_
 have hm := h
 unfold m_slices_DeleteFunc_Change__tally_Normal_1 at hm
 refine AWP.seq ?_
 refine AWP.text ?_
 refine Wy (.d .nil) [] (Omv rfl) ?_
 refine Walk.nil ?_
 refine Then.normal ?_
 refine Amk 3 1 ⟨((.own 0) :: ((.clo (.func 28) [] []) :: (tp 40 []))), [(.arr 36 3 (List.length p0) (flatD enc_GChange p0))], 1⟩ ?_
 refine AWP.seq ?_
 refine AWP.text ?_
 refine Wy (.own 0) [] (Omv rfl) ?_
 refine Wy (.clo (.func 28) [] []) [] (Omv rfl) ?_
 obtain ⟨r10_0, hr10_0, hm⟩ := bnd hm
 refine Wy (.i r10_0) [] (Ocp [] [] [0] 0 (ok_slices_IndexFunc_Change__tally_Normal_1 p0 r10_0 hr10_0) (plain_triv (by simp [A.Plain, A.Plains, D.Plain, byteD])) (fun a w => Try.call43 a w) rfl trivial) ?_
 refine Wy (.i r10_0) [] (Omv rfl) ?_
 refine Walk.nil ?_
 refine Then.normal ?_
 refine Amk 35 1 ⟨((.own 0) :: ((.clo (.func 28) [] []) :: (tp 3 ((.i r10_0) :: (tp 36 []))))), [(.arr 36 3 (List.length p0) (flatD enc_GChange p0))], 1⟩ ?_
 refine AWP.seq ?_
 refine AWP.seq ?_
 refine AWP.text ?_
 refine Wy (.i r10_0) [] (Omv rfl) ?_
 refine Wy (.b (decide (r10_0 = (-1)))) [] (Obn rfl (fun _ => hb_eql (k := .i64))) ?_
 refine Walk.nil ?_
 refine Then.normal ?_
 refine Amk 4131 1 ⟨((.own 0) :: ((.clo (.func 28) [] []) :: (tp 3 ((.i r10_0) :: (tp 6 ((.b (decide (r10_0 = (-1)))) :: (tp 29 []))))))), [(.arr 36 3 (List.length p0) (flatD enc_GChange p0))], 1⟩ ?_
 rcases tf_ (decide (r10_0 = (-1))) with hc12_8 | hc12_8
 ·
  replace hm := cT hc12_8 hm
  refine AWP.if_ true (Eq.trans (by kernel_rfl) (lit_tf (b := decide (r10_0 = (-1))) hc12_8)) ?_
  refine AWP.seq ?_
  refine AWP.text ?_
  refine Wy (.own 0) [] (Omv rfl) ?_
  refine Wy (.own 0) [] (Omv rfl) ?_
  refine Walk.nil ?_
  refine Then.normal ?_
  refine Afz [0] ⟨((.l enc_GChange p0) :: ((.clo (.func 28) [] []) :: (tp 2 ((.l enc_GChange p0) :: ((.i r10_0) :: (tp 6 ((.b (decide (r10_0 = (-1)))) :: ((.l enc_GChange p0) :: (tp 28 []))))))))), [(.fro 36 3 (List.length p0) (flatD enc_GChange p0))], 1⟩ ?_
  refine Ago 0 ⟨((.l enc_GChange p0) :: ((.clo (.func 28) [] []) :: (tp 2 ((.l enc_GChange p0) :: ((.i r10_0) :: (tp 6 ((.b (decide (r10_0 = (-1)))) :: ((.l enc_GChange p0) :: (tp 28 []))))))))), [.gone], 1⟩ ?_
  refine AWP.ret ?_
  refine Then.ret ?_
  obtain rfl := Option.some.inj hm
  exact ret_i [0]
 ·
  replace hm := cF hc12_8 hm
  refine AWP.if_ false (Eq.trans (by kernel_rfl) (lit_tf (b := decide (r10_0 = (-1))) hc12_8)) ?_
  refine AWP.skip ?_
  refine Then.normal ?_
  refine Amk 35 1 ⟨((.own 0) :: ((.clo (.func 28) [] []) :: (tp 3 ((.i r10_0) :: (tp 36 []))))), [(.arr 36 3 (List.length p0) (flatD enc_GChange p0))], 1⟩ ?_
  refine AWP.seq ?_
  refine AWP.seq ?_
  refine AWP.text ?_
  refine Wy (.i r10_0) [] (Omv rfl) ?_
  refine Wy (.i (IntKind.i64.wrap (r10_0 + 1))) [] (Obn rfl (fun _ => hb_add (k := .i64))) ?_
  refine Wy (.i (IntKind.i64.wrap (r10_0 + 1))) [] (Omv rfl) ?_
  refine Walk.nil ?_
  refine Then.normal ?_
  refine Amk 99 1 ⟨((.own 0) :: ((.clo (.func 28) [] []) :: (tp 3 ((.i r10_0) :: ((.i (IntKind.i64.wrap (r10_0 + 1))) :: (tp 35 [])))))), [(.arr 36 3 (List.length p0) (flatD enc_GChange p0))], 1⟩ ?_
  refine AWP.block ?_
  refine AWP.loopI (α := Nat × (List GChange) × Int × Int)
    (fun x => match x with | (fu_1, y0_1, y5_1, y6_1) => (⟨((.own 0) :: ((.clo (.func 28) [] []) :: (tp 3 ((.i y5_1) :: ((.i y6_1) :: (tp 35 [])))))), [(.arr 36 3 (List.length y0_1) (flatD enc_GChange y0_1))], 1⟩ : St))
    (fun x => match x with | (fu_1, y0_1, y5_1, y6_1) => m_slices_DeleteFunc_Change__tally_Normal_1_l1  fu_1 y0_1 y5_1 y6_1 = some r)
    (fun x => match x with | (fu_1, y0_1, y5_1, y6_1) => fu_1) (1152921504606846976, p0, r10_0, (IntKind.i64.wrap (r10_0 + 1)))
    (Weak.toK 99 0 0 [0]) hm ?_
  rintro ⟨fu_1, y0_1, y5_1, y6_1⟩ n_1 hm ih_1
  try dsimp only at hm ih_1 ⊢
  cases fu_1 with
  | zero => exact absurd hm (by unfold m_slices_DeleteFunc_Change__tally_Normal_1_l1; simp)
  | succ fu_1 =>
   unfold m_slices_DeleteFunc_Change__tally_Normal_1_l1 at hm
   refine AWP.seq ?_
   refine AWP.seq ?_
   refine AWP.text ?_
   refine Wy (.i y6_1) [] (Omv rfl) ?_
   refine Wy (.own 0) [] (Omv rfl) ?_
   refine Wy (.i ((List.length y0_1 : Nat) : Int)) [] (Oln rfl) ?_
   refine Wy (.b (decide (y6_1 < ((List.length y0_1 : Nat) : Int)))) [] (Obn rfl (fun _ => hb_lss (k := .i64))) ?_
   refine Walk.nil ?_
   refine Then.normal ?_
   refine Amk 524387 1 ⟨((.own 0) :: ((.clo (.func 28) [] []) :: (tp 3 ((.i y5_1) :: ((.i y6_1) :: (tp 12 ((.b (decide (y6_1 < ((List.length y0_1 : Nat) : Int)))) :: (tp 22 [])))))))), [(.arr 36 3 (List.length y0_1) (flatD enc_GChange y0_1))], 1⟩ ?_
   rcases tf_ (decide (y6_1 < ((List.length y0_1 : Nat) : Int))) with hc19_9 | hc19_9
   ·
    replace hm := cT hc19_9 hm
    refine AWP.if_ true (Eq.trans (by kernel_rfl) (lit_tf (b := decide (y6_1 < ((List.length y0_1 : Nat) : Int))) hc19_9)) ?_
    refine AWP.skip ?_
    refine Then.normal ?_
    refine Amk 99 1 ⟨((.own 0) :: ((.clo (.func 28) [] []) :: (tp 3 ((.i y5_1) :: ((.i y6_1) :: (tp 35 [])))))), [(.arr 36 3 (List.length y0_1) (flatD enc_GChange y0_1))], 1⟩ ?_
    refine AWP.seq ?_
    refine AWP.block ?_
    refine AWP.seq ?_
    refine AWP.text ?_
    refine Wy (.own 0) [] (Omv rfl) ?_
    refine Wy (.i y6_1) [] (Omv rfl) ?_
    obtain ⟨x24_3, hx24_3, hm⟩ := bnd hm
    obtain ⟨hx24_3i, hx24_3g⟩ := geti_some hx24_3
    refine Wy (.loc 0 ((Int.toNat y6_1) * 3)) [] (Oia rfl enc_GChange_len hx24_3i hx24_3g) ?_
    refine Wy (.agg [(.i x24_3.Loc), (.i x24_3.Time), (.i x24_3.N)]) [] (Lr rfl enc_GChange_len hx24_3g) ?_
    refine Wy (.loc 1 0) [(1, (.box [(.i 0), (.i 0), (.i 0)]))] (Oal rfl) ?_
    refine Wy (.tup []) [(1, (.box [(.i x24_3.Loc), (.i x24_3.Time), (.i x24_3.N)]))] (Ost rfl) ?_
    refine Walk.nil ?_
    refine Then.normal ?_
    refine Amk 227 3 ⟨((.own 0) :: ((.clo (.func 28) [] []) :: (tp 3 ((.i y5_1) :: ((.i y6_1) :: ((.loc 1 0) :: (tp 34 []))))))), [(.arr 36 3 (List.length y0_1) (flatD enc_GChange y0_1)), (.box [(.i x24_3.Loc), (.i x24_3.Time), (.i x24_3.N)])], 1⟩ ?_
    refine AWP.seq ?_
    refine AWP.text ?_
    refine Wy (.clo (.func 28) [] []) [] (Omv rfl) ?_
    refine Wy (.agg [(.i x24_3.Loc), (.i x24_3.Time), (.i x24_3.N)]) [] (Old rfl) ?_
    obtain ⟨r28_4, hr28_4, hm⟩ := bnd hm
    refine Wy (.b r28_4) [] (Ocf [] [] [] 0 (ok_tally_Normal_1 x24_3 r28_4 hr28_4) (fun a w => Try.call28 a w) rfl trivial) ?_
    refine Wy (.b (!r28_4)) [] (Ocs (by kernel_rfl) (op_un rfl (a1 := .bool r28_4) (by kernel_rfl) (fun _ => hu_not))) ?_
    refine Walk.nil ?_
    refine Then.normal ?_
    refine Amk 536871139 3 ⟨((.own 0) :: ((.clo (.func 28) [] []) :: (tp 3 ((.i y5_1) :: ((.i y6_1) :: ((.loc 1 0) :: (tp 21 ((.b (!r28_4)) :: (tp 12 []))))))))), [(.arr 36 3 (List.length y0_1) (flatD enc_GChange y0_1)), (.box [(.i x24_3.Loc), (.i x24_3.Time), (.i x24_3.N)])], 1⟩ ?_
    rcases tf_ (!r28_4) with hc29_10 | hc29_10
    ·
     replace hm := cT hc29_10 hm
     refine AWP.if_ true (Eq.trans (by kernel_rfl) (lit_tf (b := (!r28_4)) hc29_10)) ?_
     refine AWP.seq ?_
     refine AWP.text ?_
     refine Wy (.own 0) [] (Omv rfl) ?_
     refine Wy (.i y5_1) [] (Omv rfl) ?_
     refine Wy (.agg [(.i x24_3.Loc), (.i x24_3.Time), (.i x24_3.N)]) [] (Old rfl) ?_
     obtain ⟨x33_5, hx33_5, hm⟩ := bnd hm
     obtain ⟨hx33_5i, hx33_5g⟩ := geti_some hx33_5
     refine Wy (.loc 0 ((Int.toNat y5_1) * 3)) [] (Oia rfl enc_GChange_len hx33_5i hx33_5g) ?_
     refine Wy (.tup []) [(0, (.arr 36 3 (List.length (List.set y0_1 (Int.toNat y5_1) x24_3)) (flatD enc_GChange (List.set y0_1 (Int.toNat y5_1) x24_3))))] (Osr 0 rfl enc_GChange_len hx33_5g x24_3) ?_
     refine Walk.nil ?_
     refine Then.normal ?_
     refine Amk 99 1 ⟨((.own 0) :: ((.clo (.func 28) [] []) :: (tp 3 ((.i y5_1) :: ((.i y6_1) :: (tp 35 [])))))), [(.arr 36 3 (List.length (List.set y0_1 (Int.toNat y5_1) x24_3)) (flatD enc_GChange (List.set y0_1 (Int.toNat y5_1) x24_3))), .gone], 1⟩ ?_
     refine AWP.text ?_
     refine Wy (.i y5_1) [] (Omv rfl) ?_
     refine Wy (.i (IntKind.i64.wrap (y5_1 + 1))) [] (Obn rfl (fun _ => hb_add (k := .i64))) ?_
     refine Wy (.i (IntKind.i64.wrap (y5_1 + 1))) [] (Omv rfl) ?_
     refine Walk.nil ?_
     refine InBlock.normal ?_
     refine Then.normal ?_
     refine Amk 99 1 ⟨((.own 0) :: ((.clo (.func 28) [] []) :: (tp 3 ((.i (IntKind.i64.wrap (y5_1 + 1))) :: ((.i y6_1) :: (tp 35 [])))))), [(.arr 36 3 (List.length (List.set y0_1 (Int.toNat y5_1) x24_3)) (flatD enc_GChange (List.set y0_1 (Int.toNat y5_1) x24_3))), .gone], 1⟩ ?_
     refine AWP.text ?_
     refine Wy (.i y6_1) [] (Omv rfl) ?_
     refine Wy (.i (IntKind.i64.wrap (y6_1 + 1))) [] (Obn rfl (fun _ => hb_add (k := .i64))) ?_
     refine Wy (.i (IntKind.i64.wrap (y6_1 + 1))) [] (Omv rfl) ?_
     refine Walk.nil ?_
     refine RoundK.normal ?_
     exact Rounds.weak (Weak.toK 99 0 0 [0]) (ih_1 (fu_1, (List.set y0_1 (Int.toNat y5_1) x24_3), (IntKind.i64.wrap (y5_1 + 1)), (IntKind.i64.wrap (y6_1 + 1))) hm (Nat.lt_succ_self _))
    ·
     replace hm := cF hc29_10 hm
     refine AWP.if_ false (Eq.trans (by kernel_rfl) (lit_tf (b := (!r28_4)) hc29_10)) ?_
     refine AWP.skip ?_
     refine InBlock.normal ?_
     refine Then.normal ?_
     refine Amk 99 1 ⟨((.own 0) :: ((.clo (.func 28) [] []) :: (tp 3 ((.i y5_1) :: ((.i y6_1) :: (tp 35 [])))))), [(.arr 36 3 (List.length y0_1) (flatD enc_GChange y0_1)), .gone], 1⟩ ?_
     refine AWP.text ?_
     refine Wy (.i y6_1) [] (Omv rfl) ?_
     refine Wy (.i (IntKind.i64.wrap (y6_1 + 1))) [] (Obn rfl (fun _ => hb_add (k := .i64))) ?_
     refine Wy (.i (IntKind.i64.wrap (y6_1 + 1))) [] (Omv rfl) ?_
     refine Walk.nil ?_
     refine RoundK.normal ?_
     exact Rounds.weak (Weak.toK 99 0 0 [0]) (ih_1 (fu_1, y0_1, y5_1, (IntKind.i64.wrap (y6_1 + 1))) hm (Nat.lt_succ_self _))
   ·
    replace hm := cF hc19_9 hm
    refine AWP.if_ false (Eq.trans (by kernel_rfl) (lit_tf (b := decide (y6_1 < ((List.length y0_1 : Nat) : Int))) hc19_9)) ?_
    refine AWP.exit ?_
    refine Then.exit ?_
    refine RoundK.exit ?_
    refine InBlock.same ?_
    refine Then.normal ?_
    refine Amk 33 1 ⟨((.own 0) :: (tp 4 ((.i y5_1) :: (tp 36 [])))), [(.arr 36 3 (List.length y0_1) (flatD enc_GChange y0_1))], 1⟩ ?_
    refine AWP.seq ?_
    refine AWP.text ?_
    refine Wy (.own 0) [] (Omv rfl) ?_
    refine Wy (.i y5_1) [] (Omv rfl) ?_
    obtain ⟨hb38_6, hm⟩ := chk_some hm
    refine Wy (.sub 0 ((Int.toNat y5_1) * 3) (List.length y0_1 - (Int.toNat y5_1) - 1 + 1)) [] (Osb rfl (e := 36) (k := .i64) (iv := y5_1) enc_GChange_len (by omega) (by omega)) ?_
    refine Wy (.tup []) [(0, (.arr 36 3 (List.length (clr y0_1 (Int.toNat y5_1) ((GChange.mk 0 0 0) : GChange))) (flatD enc_GChange (clr y0_1 (Int.toNat y5_1) ((GChange.mk 0 0 0) : GChange)))))] (Ocl rfl elemOK_27 enc_GChange_len (by omega)) ?_
    refine Walk.nil ?_
    refine Then.normal ?_
    refine Amk 33 1 ⟨((.own 0) :: (tp 4 ((.i y5_1) :: (tp 36 [])))), [(.arr 36 3 (List.length (clr y0_1 (Int.toNat y5_1) ((GChange.mk 0 0 0) : GChange))) (flatD enc_GChange (clr y0_1 (Int.toNat y5_1) ((GChange.mk 0 0 0) : GChange))))], 1⟩ ?_
    refine AWP.seq ?_
    refine Afz [0] ⟨((.l enc_GChange (clr y0_1 (Int.toNat y5_1) ((GChange.mk 0 0 0) : GChange))) :: (tp 4 ((.i y5_1) :: (tp 36 [])))), [(.fro 36 3 (List.length (clr y0_1 (Int.toNat y5_1) ((GChange.mk 0 0 0) : GChange))) (flatD enc_GChange (clr y0_1 (Int.toNat y5_1) ((GChange.mk 0 0 0) : GChange))))], 1⟩ ?_
    refine AWP.text ?_
    refine Wy (.l enc_GChange (clr y0_1 (Int.toNat y5_1) ((GChange.mk 0 0 0) : GChange))) [] (Omv rfl) ?_
    refine Wy (.i y5_1) [] (Omv rfl) ?_
    obtain ⟨s41_7, hs41_7, hm⟩ := bnd hm; obtain ⟨hs41_7a, hs41_7b, hs41_7c, hs41_7d, hs41_7e⟩ := cut_some hs41_7
    refine Wy (.l enc_GChange s41_7) [] (op_cut rfl (e := 36) (sz := 3) (by kernel_rfl) (l := (clr y0_1 (Int.toNat y5_1) ((GChange.mk 0 0 0) : GChange))) (enc := enc_GChange) (by kernel_rfl) enc_GChange_len (a := (Int.toNat 0)) (b := (Int.toNat y5_1)) (by exact rfl) (⟨.i64, y5_1, by kernel_rfl, hs41_7b⟩) hs41_7c hs41_7d hs41_7e) ?_
    refine Wy (.l enc_GChange s41_7) [] (Omv rfl) ?_
    refine Walk.nil ?_
    refine Then.normal ?_
    refine Ago 0 ⟨((.l enc_GChange (clr y0_1 (Int.toNat y5_1) ((GChange.mk 0 0 0) : GChange))) :: (tp 3 ((.l enc_GChange s41_7) :: ((.i y5_1) :: (tp 33 ((.l enc_GChange (clr y0_1 (Int.toNat y5_1) ((GChange.mk 0 0 0) : GChange))) :: ((.i y5_1) :: ((.l enc_GChange s41_7) :: [])))))))), [.gone], 1⟩ ?_
    refine AWP.ret ?_
    obtain rfl := Option.some.inj hm
    exact ret_i [0]

set_option maxRecDepth 20000 in
set_option maxHeartbeats 4000000 in
theorem ok_tally_Normal (p0 : (List GChange)) (r : (List GChange)) (h : m_tally_Normal p0 = some r) : GCall Try.prog 11 [(.l enc_GChange p0)] [] (.l enc_GChange r) [] := by
 refine GCall.of_body (n := 53) (rs := [(.tmp 2)]) Try.func11 rfl rfl rfl ?_
 refine Ato ⟨((.l enc_GChange p0) :: (tu 52 [])), [], 0⟩ ?_
 have hm := h
 unfold m_tally_Normal at hm
 refine AWP.seq ?_
 refine AWP.text ?_
 refine Wy (.d .nil) [] (Omv rfl) ?_
 refine Walk.nil ?_
 refine Then.normal ?_
 refine Amk 1 0 ⟨((.l enc_GChange p0) :: (tp 52 [])), [], 0⟩ ?_
 refine AWP.seq ?_
 refine AWP.text ?_
 refine Wy (.l enc_GChange p0) [] (Omv rfl) ?_
 refine Wy (.i ((List.length p0 : Nat) : Int)) [] (Oln rfl) ?_
 obtain ⟨m9_0, hm9_0, hm⟩ := bnd hm; obtain ⟨hm9_0i, hm9_0l, hm9_0e⟩ := mk_some hm9_0
 refine Wy (.own 0) [(0, (.arr 36 3 (List.length m9_0) (flatD enc_GChange m9_0)))] (OcB (op_make rfl elemOK_27 (by kernel_rfl) (kl := .i64) (kc := .i64) (L := ((List.length p0 : Nat) : Int)) (C := ((List.length p0 : Nat) : Int)) (by kernel_rfl) (by kernel_rfl) (n := Int.toNat ((List.length p0 : Nat) : Int)) hm9_0i hm9_0i (by omega) (by kernel_rfl)) (bl_one (by rw [hm9_0e]; simp) (by rw [hm9_0e]; exact (flat_rep (by kernel_rfl))))) ?_
 refine Wy (.own 0) [] (Omv rfl) ?_
 refine Walk.nil ?_
 refine Then.normal ?_
 refine Amk 9 1 ⟨((.l enc_GChange p0) :: (tp 2 ((.own 0) :: (tp 49 [])))), [(.arr 36 3 (List.length m9_0) (flatD enc_GChange m9_0))], 0⟩ ?_
 refine AWP.seq ?_
 refine AWP.text ?_
 refine Wy (.own 0) [] (Omv rfl) ?_
 refine Wy (.l enc_GChange p0) [] (Omv rfl) ?_
 obtain ⟨c12_1, hc12_1, hm⟩ := bnd hm; obtain ⟨hc12_1e, hc12_1l⟩ := cpy_some hc12_1
 refine Wy (.i ((List.length p0 : Nat) : Int)) [(0, (.arr 36 3 (List.length c12_1) (flatD enc_GChange c12_1)))] (OcB (Ocs (by kernel_rfl) (op_copy rfl (e := 36) (sz := 3) (by kernel_rfl) (yd := (.own 0)) (by kernel_rfl) (id := 0) (off := 0) (dn := List.length m9_0) (by kernel_rfl) (n := List.length m9_0) (xs := flatD enc_GChange m9_0) (by kernel_rfl) (y := (.l enc_GChange p0)) (by kernel_rfl) (ds := flatD enc_GChange p0) (soff := 0) (k := List.length p0) (by kernel_rfl) (es := flatD enc_GChange p0) (flat_all enc_GChange_len) (flatD_length enc_GChange_len _) hc12_1l (cpy_fit enc_GChange_len hc12_1l) (by decide))) (bl_one (cpy_len hc12_1e hc12_1l) (by rw [hc12_1e]; exact cpy_put enc_GChange_len hc12_1l))) ?_
 refine Walk.nil ?_
 refine Then.normal ?_
 refine Amk 8 1 ⟨(tp 3 ((.own 0) :: (tp 49 []))), [(.arr 36 3 (List.length c12_1) (flatD enc_GChange c12_1))], 0⟩ ?_
 refine AWP.seq ?_
 refine AWP.text ?_
 refine Wy (.own 0) [] (Omv rfl) ?_
 obtain ⟨r14_2, hr14_2, hm⟩ := bnd hm
 refine Wy (.tup []) [(0, (.arr 36 3 (List.length r14_2) (flatD enc_GChange r14_2)))] (Ocf [0] [] [] 0 (ok_slices_SortStableFunc_Change__tally_order c12_1 r14_2 hr14_2) (fun a w => Try.call25 a w) rfl ⟨rfl, trivial⟩) ?_
 refine Walk.nil ?_
 refine Then.normal ?_
 refine Amk 8 1 ⟨(tp 3 ((.own 0) :: (tp 49 []))), [(.arr 36 3 (List.length r14_2) (flatD enc_GChange r14_2))], 0⟩ ?_
 refine AWP.seq ?_
 refine AWP.text ?_
 refine Wy (.d .nil) [] (Omv rfl) ?_
 refine Walk.nil ?_
 refine Then.normal ?_
 refine Amk 24 1 ⟨(tp 3 ((.own 0) :: ((.d .nil) :: (tp 48 [])))), [(.arr 36 3 (List.length r14_2) (flatD enc_GChange r14_2))], 0⟩ ?_
 refine AWP.seq ?_
 refine AWP.seq ?_
 refine AWP.text ?_
 refine Wy (.own 0) [] (Omv rfl) ?_
 refine Wy (.i ((List.length r14_2 : Nat) : Int)) [] (Oln rfl) ?_
 refine Wy (.i 0) [] (Omv rfl) ?_
 refine Walk.nil ?_
 refine Then.normal ?_
 refine Amk 229400 1 ⟨(tp 3 ((.own 0) :: ((.d .nil) :: (tp 10 ((.own 0) :: ((.i ((List.length r14_2 : Nat) : Int)) :: ((.i 0) :: (tp 35 [])))))))), [(.arr 36 3 (List.length r14_2) (flatD enc_GChange r14_2))], 0⟩ ?_
 refine AWP.block ?_
 refine Aow 4 36 3 ⟨(tp 3 ((.own 0) :: ((.own 1) :: (tp 10 ((.own 0) :: ((.i ((List.length r14_2 : Nat) : Int)) :: ((.i 0) :: (tp 35 [])))))))), [(.arr 36 3 (List.length r14_2) (flatD enc_GChange r14_2)), (.arr 36 3 (List.length ([] : List GChange)) (flatD enc_GChange ([] : List GChange)))], 0⟩ ?_
 refine AWP.loopI (α := Nat × (List GChange) × Int)
   (fun x => match x with | (fu_4, y4_4, y17_4) => (⟨(tp 3 ((.own 0) :: ((.own 1) :: (tp 10 ((.own 0) :: ((.i ((List.length r14_2 : Nat) : Int)) :: ((.i y17_4) :: (tp 35 [])))))))), [(.arr 36 3 (List.length r14_2) (flatD enc_GChange r14_2)), (.arr 36 3 (List.length y4_4) (flatD enc_GChange y4_4))], 0⟩ : St))
   (fun x => match x with | (fu_4, y4_4, y17_4) => m_tally_Normal_l4 r14_2 fu_4 y4_4 y17_4 = some r)
   (fun x => match x with | (fu_4, y4_4, y17_4) => fu_4) (1152921504606846976, ([] : List GChange), 0)
   (Weak.toK 229400 0 0 [0, 1]) hm ?_
 rintro ⟨fu_4, y4_4, y17_4⟩ n_4 hm ih_4
 try dsimp only at hm ih_4 ⊢
 cases fu_4 with
 | zero => exact absurd hm (by unfold m_tally_Normal_l4; simp)
 | succ fu_4 =>
  unfold m_tally_Normal_l4 at hm
  refine AWP.seq ?_
  refine AWP.text ?_
  refine Wy (.b (decide (y17_4 < ((List.length r14_2 : Nat) : Int)))) [] (Obn rfl (fun _ => hb_lss (k := .i64))) ?_
  refine Walk.nil ?_
  refine Then.normal ?_
  refine Amk 491544 3 ⟨(tp 3 ((.own 0) :: ((.own 1) :: (tp 10 ((.own 0) :: ((.i ((List.length r14_2 : Nat) : Int)) :: ((.i y17_4) :: ((.b (decide (y17_4 < ((List.length r14_2 : Nat) : Int)))) :: (tp 34 []))))))))), [(.arr 36 3 (List.length r14_2) (flatD enc_GChange r14_2)), (.arr 36 3 (List.length y4_4) (flatD enc_GChange y4_4))], 0⟩ ?_
  refine AWP.seq ?_
  rcases tf_ (decide (y17_4 < ((List.length r14_2 : Nat) : Int))) with hc18_11 | hc18_11
  ·
   replace hm := cT hc18_11 hm
   refine AWP.if_ true (Eq.trans (by kernel_rfl) (lit_tf (b := decide (y17_4 < ((List.length r14_2 : Nat) : Int))) hc18_11)) ?_
   refine AWP.skip ?_
   refine Then.normal ?_
   refine Amk 229400 3 ⟨(tp 3 ((.own 0) :: ((.own 1) :: (tp 10 ((.own 0) :: ((.i ((List.length r14_2 : Nat) : Int)) :: ((.i y17_4) :: (tp 35 [])))))))), [(.arr 36 3 (List.length r14_2) (flatD enc_GChange r14_2)), (.arr 36 3 (List.length y4_4) (flatD enc_GChange y4_4))], 0⟩ ?_
   refine AWP.seq ?_
   refine AWP.block ?_
   refine AWP.seq ?_
   refine AWP.text ?_
   refine Wy (.i y17_4) [] (Omv rfl) ?_
   obtain ⟨x20_5, hx20_5, hm⟩ := bnd hm
   obtain ⟨hx20_5i, hx20_5g⟩ := geti_some hx20_5
   refine Wy (.loc 0 ((Int.toNat y17_4) * 3)) [] (Oia rfl enc_GChange_len hx20_5i hx20_5g) ?_
   refine Wy (.agg [(.i x20_5.Loc), (.i x20_5.Time), (.i x20_5.N)]) [] (Lr rfl enc_GChange_len hx20_5g) ?_
   refine Wy (.loc 2 0) [(2, (.box [(.i 0), (.i 0), (.i 0)]))] (Oal rfl) ?_
   refine Wy (.i y17_4) [] (Omv rfl) ?_
   refine Wy (.tup []) [(2, (.box [(.i x20_5.Loc), (.i x20_5.Time), (.i x20_5.N)]))] (Ost rfl) ?_
   refine Walk.nil ?_
   refine Then.normal ?_
   refine Amk 229496 7 ⟨(tp 3 ((.own 0) :: ((.own 1) :: ((.i y17_4) :: ((.loc 2 0) :: (tp 8 ((.own 0) :: ((.i ((List.length r14_2 : Nat) : Int)) :: ((.i y17_4) :: (tp 35 [])))))))))), [(.arr 36 3 (List.length r14_2) (flatD enc_GChange r14_2)), (.arr 36 3 (List.length y4_4) (flatD enc_GChange y4_4)), (.box [(.i x20_5.Loc), (.i x20_5.Time), (.i x20_5.N)])], 0⟩ ?_
   refine AWP.seq ?_
   refine Adr ?_
   refine Wy (.i y17_4) [] (Omv rfl) ?_
   refine Wy (.b (decide ((0 : Int) < y17_4))) [] (Obn rfl (fun _ => hb_gtr (k := .i64))) ?_
   rcases tf_ (decide ((0 : Int) < y17_4)) with hq24_7 | hq24_7
   ·
    replace hm := cT hq24_7 hm
    refine Wy (.b true) [] (Ocs (lit_tf (b := decide ((0 : Int) < y17_4)) hq24_7) (Omv rfl)) ?_
    refine Wy (.own 0) [] (Omv rfl) ?_
    refine Wy (.i y17_4) [] (Omv rfl) ?_
    refine Wy (.i (IntKind.i64.wrap (y17_4 - 1))) [] (Obn rfl (fun _ => hb_sub (k := .i64))) ?_
    obtain ⟨x28_7, hx28_7, hm⟩ := bnd hm
    obtain ⟨hx28_7i, hx28_7g⟩ := geti_some hx28_7
    refine Wy (.loc 0 ((Int.toNat (IntKind.i64.wrap (y17_4 - 1))) * 3)) [] (Oia rfl enc_GChange_len hx28_7i hx28_7g) ?_
    refine Wy (.agg [(.i x28_7.Loc), (.i x28_7.Time), (.i x28_7.N)]) [] (Lr rfl enc_GChange_len hx28_7g) ?_
    refine Wy (.agg [(.i x20_5.Loc), (.i x20_5.Time), (.i x20_5.N)]) [] (Old rfl) ?_
    obtain ⟨r31_7, hr31_7, hm⟩ := bnd hm
    refine Wy (.i r31_7) [] (Ocf [] [] [] 0 (ok_tally_order x28_7 x20_5 r31_7 hr31_7) (fun a w => Try.call26 a w) rfl trivial) ?_
    refine Wy (.b (decide (r31_7 = 0))) [] (Obn rfl (fun _ => hb_eql (k := .i64))) ?_
    refine Wy (.b (decide (r31_7 = 0))) [] (OpT rfl) ?_
    refine Wdr ?_
    refine Then.normal ?_
    refine Amk 8590164056 7 ⟨(tp 3 ((.own 0) :: ((.own 1) :: (tp 1 ((.loc 2 0) :: (tp 8 ((.own 0) :: ((.i ((List.length r14_2 : Nat) : Int)) :: ((.i y17_4) :: (tp 15 ((.b (decide (r31_7 = 0))) :: (tp 19 [])))))))))))), [(.arr 36 3 (List.length r14_2) (flatD enc_GChange r14_2)), (.arr 36 3 (List.length y4_4) (flatD enc_GChange y4_4)), (.box [(.i x20_5.Loc), (.i x20_5.Time), (.i x20_5.N)])], 0⟩ ?_
    rcases tf_ (decide (r31_7 = 0)) with hc33_12 | hc33_12
    ·
     replace hm := cT hc33_12 hm
     refine AWP.if_ true (Eq.trans (by kernel_rfl) (lit_tf (b := decide (r31_7 = 0)) hc33_12)) ?_
     refine Adr ?_
     refine Wy (.own 1) [] (Omv rfl) ?_
     refine Wy (.own 1) [] (Omv rfl) ?_
     refine Wy (.i ((List.length y4_4 : Nat) : Int)) [] (Oln rfl) ?_
     refine Wy (.i (IntKind.i64.wrap (((List.length y4_4 : Nat) : Int) - 1))) [] (Obn rfl (fun _ => hb_sub (k := .i64))) ?_
     obtain ⟨x38_8, hx38_8, hm⟩ := bnd hm
     obtain ⟨hx38_8i, hx38_8g⟩ := geti_some hx38_8
     refine Wy (.loc 1 ((Int.toNat (IntKind.i64.wrap (((List.length y4_4 : Nat) : Int) - 1))) * 3)) [] (Oia rfl enc_GChange_len hx38_8i hx38_8g) ?_
     refine Wy (.loc 1 ((Int.toNat (IntKind.i64.wrap (((List.length y4_4 : Nat) : Int) - 1))) * 3 + 2)) [] (Ofa rfl) ?_
     refine Wy (.i x38_8.N) [] (Lrk1 2 rfl enc_GChange_len hx38_8g) ?_
     refine Wy (.loc 2 2) [] (Ofa rfl) ?_
     refine Wy (.i x20_5.N) [] (Old rfl) ?_
     refine Wy (.i (IntKind.i64.wrap (x38_8.N + x20_5.N))) [] (Obn rfl (fun _ => hb_add (k := .i64))) ?_
     obtain ⟨x44_8, hx44_8, hm⟩ := bnd hm
     obtain ⟨hx44_8i, hx44_8g⟩ := geti_some hx44_8
     refine Wy (.loc 1 ((Int.toNat (IntKind.i64.wrap (((List.length y4_4 : Nat) : Int) - 1))) * 3)) [] (Oia rfl enc_GChange_len hx44_8i hx44_8g) ?_
     refine Wy (.loc 1 ((Int.toNat (IntKind.i64.wrap (((List.length y4_4 : Nat) : Int) - 1))) * 3 + 2)) [] (Ofa rfl) ?_
     refine Wy (.tup []) [(1, (.arr 36 3 (List.length (List.set y4_4 (Int.toNat (IntKind.i64.wrap (((List.length y4_4 : Nat) : Int) - 1))) (GChange.mk x44_8.Loc x44_8.Time (IntKind.i64.wrap (x38_8.N + x20_5.N))))) (flatD enc_GChange (List.set y4_4 (Int.toNat (IntKind.i64.wrap (((List.length y4_4 : Nat) : Int) - 1))) (GChange.mk x44_8.Loc x44_8.Time (IntKind.i64.wrap (x38_8.N + x20_5.N)))))))] (Osr 2 rfl enc_GChange_len hx44_8g (GChange.mk x44_8.Loc x44_8.Time (IntKind.i64.wrap (x38_8.N + x20_5.N)))) ?_
     refine Wdr ?_
     refine InBlock.normal ?_
     refine Then.normal ?_
     refine Amk 229400 3 ⟨(tp 3 ((.own 0) :: ((.own 1) :: (tp 10 ((.own 0) :: ((.i ((List.length r14_2 : Nat) : Int)) :: ((.i y17_4) :: (tp 35 [])))))))), [(.arr 36 3 (List.length r14_2) (flatD enc_GChange r14_2)), (.arr 36 3 (List.length (List.set y4_4 (Int.toNat (IntKind.i64.wrap (((List.length y4_4 : Nat) : Int) - 1))) (GChange.mk x44_8.Loc x44_8.Time (IntKind.i64.wrap (x38_8.N + x20_5.N))))) (flatD enc_GChange (List.set y4_4 (Int.toNat (IntKind.i64.wrap (((List.length y4_4 : Nat) : Int) - 1))) (GChange.mk x44_8.Loc x44_8.Time (IntKind.i64.wrap (x38_8.N + x20_5.N)))))), .gone], 0⟩ ?_
     refine AWP.text ?_
     refine Wy (.i (IntKind.i64.wrap (y17_4 + 1))) [] (Obn rfl (fun _ => hb_add (k := .i64))) ?_
     refine Wy (.i (IntKind.i64.wrap (y17_4 + 1))) [] (Omv rfl) ?_
     refine Walk.nil ?_
     refine RoundK.normal ?_
     exact Rounds.weak (Weak.toK 229400 0 0 [0, 1]) (ih_4 (fu_4, (List.set y4_4 (Int.toNat (IntKind.i64.wrap (((List.length y4_4 : Nat) : Int) - 1))) (GChange.mk x44_8.Loc x44_8.Time (IntKind.i64.wrap (x38_8.N + x20_5.N)))), (IntKind.i64.wrap (y17_4 + 1))) hm (Nat.lt_succ_self _))
    ·
     replace hm := cF hc33_12 hm
     refine AWP.if_ false (Eq.trans (by kernel_rfl) (lit_tf (b := decide (r31_7 = 0)) hc33_12)) ?_
     refine AWP.text ?_
     refine Wy (.own 1) [] (Omv rfl) ?_
     refine Wy (.agg [(.i x20_5.Loc), (.i x20_5.Time), (.i x20_5.N)]) [] (Old rfl) ?_
     refine Wy (.own 3) [(3, (.arr 36 3 (List.length ([x20_5] : List GChange)) (flatD enc_GChange ([x20_5] : List GChange))))] (Obs rfl) ?_
     obtain ⟨a49_6, ha49_6, hm⟩ := bnd hm; obtain ⟨ha49_6e, ha49_6l⟩ := app_some ha49_6
     refine Wy (.own 4) [(1, .gone), (4, (.arr 36 3 (List.length a49_6) (flatD enc_GChange a49_6)))] (Oap rfl elemOK_27 enc_GChange_len ha49_6e ha49_6l) ?_
     refine Wy (.own 4) [] (Omv rfl) ?_
     refine Walk.nil ?_
     refine InBlock.normal ?_
     refine Then.normal ?_
     refine Amk 229400 17 ⟨(tp 3 ((.own 0) :: ((.own 4) :: (tp 10 ((.own 0) :: ((.i ((List.length r14_2 : Nat) : Int)) :: ((.i y17_4) :: (tp 35 [])))))))), [(.arr 36 3 (List.length r14_2) (flatD enc_GChange r14_2)), .gone, .gone, .gone, (.arr 36 3 (List.length a49_6) (flatD enc_GChange a49_6))], 0⟩ ?_
     refine AWP.text ?_
     refine Wy (.i (IntKind.i64.wrap (y17_4 + 1))) [] (Obn rfl (fun _ => hb_add (k := .i64))) ?_
     refine Wy (.i (IntKind.i64.wrap (y17_4 + 1))) [] (Omv rfl) ?_
     refine Walk.nil ?_
     refine RoundK.normal ?_
     exact Rounds.weak (Weak.toK 229400 0 0 [0, 4]) (ih_4 (fu_4, a49_6, (IntKind.i64.wrap (y17_4 + 1))) hm (Nat.lt_succ_self _))
   ·
    replace hm := cF hq24_7 hm
    refine Wy (.b false) [] (Ocs (lit_tf (b := decide ((0 : Int) < y17_4)) hq24_7) (Omv rfl)) ?_
    refine Wn ?_
    refine Wn ?_
    refine Wn ?_
    refine Wn ?_
    refine Wn ?_
    refine Wn ?_
    refine Wn ?_
    refine Wn ?_
    refine Wy (.b false) [] (OpF rfl) ?_
    refine Wdr ?_
    refine Then.normal ?_
    refine Amk 8590164056 7 ⟨(tp 3 ((.own 0) :: ((.own 1) :: (tp 1 ((.loc 2 0) :: (tp 8 ((.own 0) :: ((.i ((List.length r14_2 : Nat) : Int)) :: ((.i y17_4) :: (tp 15 ((.b false) :: (tp 19 [])))))))))))), [(.arr 36 3 (List.length r14_2) (flatD enc_GChange r14_2)), (.arr 36 3 (List.length y4_4) (flatD enc_GChange y4_4)), (.box [(.i x20_5.Loc), (.i x20_5.Time), (.i x20_5.N)])], 0⟩ ?_
    refine AWP.if_ false (by kernel_rfl) ?_
    refine AWP.text ?_
    refine Wy (.own 1) [] (Omv rfl) ?_
    refine Wy (.agg [(.i x20_5.Loc), (.i x20_5.Time), (.i x20_5.N)]) [] (Old rfl) ?_
    refine Wy (.own 3) [(3, (.arr 36 3 (List.length ([x20_5] : List GChange)) (flatD enc_GChange ([x20_5] : List GChange))))] (Obs rfl) ?_
    obtain ⟨a49_9, ha49_9, hm⟩ := bnd hm; obtain ⟨ha49_9e, ha49_9l⟩ := app_some ha49_9
    refine Wy (.own 4) [(1, .gone), (4, (.arr 36 3 (List.length a49_9) (flatD enc_GChange a49_9)))] (Oap rfl elemOK_27 enc_GChange_len ha49_9e ha49_9l) ?_
    refine Wy (.own 4) [] (Omv rfl) ?_
    refine Walk.nil ?_
    refine InBlock.normal ?_
    refine Then.normal ?_
    refine Amk 229400 17 ⟨(tp 3 ((.own 0) :: ((.own 4) :: (tp 10 ((.own 0) :: ((.i ((List.length r14_2 : Nat) : Int)) :: ((.i y17_4) :: (tp 35 [])))))))), [(.arr 36 3 (List.length r14_2) (flatD enc_GChange r14_2)), .gone, .gone, .gone, (.arr 36 3 (List.length a49_9) (flatD enc_GChange a49_9))], 0⟩ ?_
    refine AWP.text ?_
    refine Wy (.i (IntKind.i64.wrap (y17_4 + 1))) [] (Obn rfl (fun _ => hb_add (k := .i64))) ?_
    refine Wy (.i (IntKind.i64.wrap (y17_4 + 1))) [] (Omv rfl) ?_
    refine Walk.nil ?_
    refine RoundK.normal ?_
    exact Rounds.weak (Weak.toK 229400 0 0 [0, 4]) (ih_4 (fu_4, a49_9, (IntKind.i64.wrap (y17_4 + 1))) hm (Nat.lt_succ_self _))
  ·
   replace hm := cF hc18_11 hm
   refine AWP.if_ false (Eq.trans (by kernel_rfl) (lit_tf (b := decide (y17_4 < ((List.length r14_2 : Nat) : Int))) hc18_11)) ?_
   refine AWP.exit ?_
   refine Then.exit ?_
   refine RoundK.exit ?_
   refine InBlock.same ?_
   refine Then.normal ?_
   refine Amk 16 2 ⟨(tp 4 ((.own 1) :: (tp 48 []))), [.gone, (.arr 36 3 (List.length y4_4) (flatD enc_GChange y4_4))], 0⟩ ?_
   refine AWP.seq ?_
   refine AWP.text ?_
   refine Wy (.own 1) [] (Omv rfl) ?_
   obtain ⟨r52_10, hr52_10, hm⟩ := bnd hm
   refine Wy (.l enc_GChange r52_10) [(1, .gone)] (Ocf [1] [] [] 0 (ok_slices_DeleteFunc_Change__tally_Normal_1 y4_4 r52_10 hr52_10) (fun a w => Try.call27 a w) rfl ⟨rfl, trivial⟩) ?_
   refine Wy (.l enc_GChange r52_10) [] (Omv rfl) ?_
   refine Walk.nil ?_
   refine Then.normal ?_
   refine AWP.ret ?_
   obtain rfl := Option.some.inj hm
   exact ret_i []

set_option maxRecDepth 20000 in
set_option maxHeartbeats 4000000 in
theorem ok_math_bits_Len64 (p0 : Int) (r : Int) (h : m_math_bits_Len64 p0 = some r) : GCall Try.prog 53 [(.d (.lit (.int .u64 p0)))] [] (.i r) [] := by
 refine GCall.of_body (n := 25) (rs := [(.tmp 2)]) Try.func53 rfl rfl rfl ?_
 refine Ato ⟨((.d (.lit (.int .u64 p0))) :: (tu 24 [])), [], 0⟩ ?_
 have hm := h
 unfold m_math_bits_Len64 at hm
 refine AWP.seq ?_
 refine AWP.text ?_
 refine Wy (.i 0) [] (Omv rfl) ?_
 refine Walk.nil ?_
 refine Then.normal ?_
 refine Amk 5 0 ⟨((.d (.lit (.int .u64 p0))) :: (tp 1 ((.i 0) :: (tp 22 [])))), [], 0⟩ ?_
 refine AWP.cutJ (α := Int × Int) (fun x => match x with | (y0_0, y2_0) => (⟨((.d (.lit (.int .u64 y0_0))) :: (tp 1 ((.i y2_0) :: (tp 22 [])))), [], 0⟩ : St)) (fun x => match x with | (y0_0, y2_0) => m_math_bits_Len64_j0  y0_0 y2_0 = some r) ?_ (fun J0 => ?_)
 ·
  rintro ⟨y0_0, y2_0⟩ hm
  try dsimp only at hm ⊢
  unfold m_math_bits_Len64_j0 at hm
  refine AWP.cutJ (α := Int × Int) (fun x => match x with | (y0_1, y2_1) => (⟨((.d (.lit (.int .u64 y0_1))) :: (tp 1 ((.i y2_1) :: (tp 22 [])))), [], 0⟩ : St)) (fun x => match x with | (y0_1, y2_1) => m_math_bits_Len64_j1  y0_1 y2_1 = some r) ?_ (fun J1 => ?_)
  ·
   rintro ⟨y0_1, y2_1⟩ hm
   try dsimp only at hm ⊢
   unfold m_math_bits_Len64_j1 at hm
   refine AWP.cutJ (α := Int × Int) (fun x => match x with | (y0_2, y2_2) => (⟨((.d (.lit (.int .u64 y0_2))) :: (tp 1 ((.i y2_2) :: (tp 22 [])))), [], 0⟩ : St)) (fun x => match x with | (y0_2, y2_2) => m_math_bits_Len64_j2  y0_2 y2_2 = some r) ?_ (fun J2 => ?_)
   ·
    rintro ⟨y0_2, y2_2⟩ hm
    try dsimp only at hm ⊢
    unfold m_math_bits_Len64_j2 at hm
    refine AWP.seq ?_
    refine AWP.text ?_
    refine Wy (.i y2_2) [] (Omv rfl) ?_
    refine Wy (.d (.lit (.int .u64 y0_2))) [] (Omv rfl) ?_
    refine Wy (.y (toU8 y0_2)) [] (Ocs (lit_int (u8w _)) (op_convert rfl (a1 := .int .u64 y0_2) (by kernel_rfl) (run_conv (ds := .int .u64) (k' := .u8) (by kernel_rfl) (by kernel_rfl)))) ?_
    obtain ⟨x22_3, hx22_3, hm⟩ := bnd hm
    obtain ⟨hx22_3i, hx22_3g⟩ := geti_some hx22_3
    refine Wy (.y x22_3) [] (Ocs (by kernel_rfl) (op_index_str rfl (by kernel_rfl) (s := toS ([0, 1, 2, 2, 3, 3, 3, 3, 4, 4, 4, 4, 4, 4, 4, 4, 5, 5, 5, 5, 5, 5, 5, 5, 5, 5, 5, 5, 5, 5, 5, 5, 6, 6, 6, 6, 6, 6, 6, 6, 6, 6, 6, 6, 6, 6, 6, 6, 6, 6, 6, 6, 6, 6, 6, 6, 6, 6, 6, 6, 6, 6, 6, 6, 7, 7, 7, 7, 7, 7, 7, 7, 7, 7, 7, 7, 7, 7, 7, 7, 7, 7, 7, 7, 7, 7, 7, 7, 7, 7, 7, 7, 7, 7, 7, 7, 7, 7, 7, 7, 7, 7, 7, 7, 7, 7, 7, 7, 7, 7, 7, 7, 7, 7, 7, 7, 7, 7, 7, 7, 7, 7, 7, 7, 7, 7, 7, 7, 8, 8, 8, 8, 8, 8, 8, 8, 8, 8, 8, 8, 8, 8, 8, 8, 8, 8, 8, 8, 8, 8, 8, 8, 8, 8, 8, 8, 8, 8, 8, 8, 8, 8, 8, 8, 8, 8, 8, 8, 8, 8, 8, 8, 8, 8, 8, 8, 8, 8, 8, 8, 8, 8, 8, 8, 8, 8, 8, 8, 8, 8, 8, 8, 8, 8, 8, 8, 8, 8, 8, 8, 8, 8, 8, 8, 8, 8, 8, 8, 8, 8, 8, 8, 8, 8, 8, 8, 8, 8, 8, 8, 8, 8, 8, 8, 8, 8, 8, 8, 8, 8, 8, 8, 8, 8, 8, 8, 8, 8, 8, 8, 8, 8, 8, 8, 8, 8, 8, 8, 8, 8, 8, 8, 8, 8, 8, 8] : List UInt8)) (by kernel_rfl) (k := .u8) (iv := (((toU8 y0_2).toNat : Nat) : Int)) (by kernel_rfl) (i := (Int.toNat (((toU8 y0_2).toNat : Nat) : Int))) (hx22_3i) (b := x22_3) (hx22_3g))) ?_
    refine Wy (.i ((x22_3.toNat : Nat) : Int)) [] (Ocs (lit_int (wrap_of_u8 (by decide) _)) (op_convert rfl (a1 := .int .u8 ((x22_3.toNat : Nat) : Int)) (by kernel_rfl) (run_conv (ds := .int .u8) (k' := .i64) (by kernel_rfl) (by kernel_rfl)))) ?_
    refine Wy (.i (IntKind.i64.wrap (y2_2 + ((x22_3.toNat : Nat) : Int)))) [] (Obn rfl (fun _ => hb_add (k := .i64))) ?_
    refine Wy (.i (IntKind.i64.wrap (y2_2 + ((x22_3.toNat : Nat) : Int)))) [] (Omv rfl) ?_
    refine Walk.nil ?_
    refine Then.normal ?_
    refine AWP.ret ?_
    obtain rfl := Option.some.inj hm
    exact ret_i []
   refine AWP.seq ?_
   refine AWP.seq ?_
   refine AWP.text ?_
   refine Wy (.d (.lit (.int .u64 y0_1))) [] (Omv rfl) ?_
   refine Wy (.b (decide ((256 : Int) ≤ y0_1))) [] (Obn rfl (fun _ => hb_geq (k := .u64))) ?_
   refine Walk.nil ?_
   refine Then.normal ?_
   refine Amk 16389 0 ⟨((.d (.lit (.int .u64 y0_1))) :: (tp 1 ((.i y2_1) :: (tp 11 ((.b (decide ((256 : Int) ≤ y0_1))) :: (tp 10 [])))))), [], 0⟩ ?_
   rcases tf_ (decide ((256 : Int) ≤ y0_1)) with hc14_4 | hc14_4
   ·
    replace hm := cT hc14_4 hm
    refine AWP.if_ true (Eq.trans (by kernel_rfl) (lit_tf (b := decide ((256 : Int) ≤ y0_1)) hc14_4)) ?_
    refine AWP.seq ?_
    refine AWP.text ?_
    refine Wy (.d (.lit (.int .u64 y0_1))) [] (Omv rfl) ?_
    refine Wy (.d (.lit (.int .u64 (Int.fdiv y0_1 (2 ^ 8))))) [] (Ocs (by kernel_rfl) (op_bin rfl (a1 := .int .u64 y0_1) (a2 := .int .u64 8) (by kernel_rfl) (by kernel_rfl) (fun _ => hb_shr (n := 8) (by decide) rfl))) ?_
    refine Wy (.d (.lit (.int .u64 (Int.fdiv y0_1 (2 ^ 8))))) [] (Omv rfl) ?_
    refine Walk.nil ?_
    refine Then.normal ?_
    refine Amk 5 0 ⟨((.d (.lit (.int .u64 (Int.fdiv y0_1 (2 ^ 8))))) :: (tp 1 ((.i y2_1) :: (tp 22 [])))), [], 0⟩ ?_
    refine AWP.text ?_
    refine Wy (.i y2_1) [] (Omv rfl) ?_
    refine Wy (.i (IntKind.i64.wrap (y2_1 + 8))) [] (Obn rfl (fun _ => hb_add (k := .i64))) ?_
    refine Wy (.i (IntKind.i64.wrap (y2_1 + 8))) [] (Omv rfl) ?_
    refine Walk.nil ?_
    refine Then.normal ?_
    exact AWP.weak (Weak.toK 5 0 0 []) (J2 ((Int.fdiv y0_1 (2 ^ 8)), (IntKind.i64.wrap (y2_1 + 8))) hm)
   ·
    replace hm := cF hc14_4 hm
    refine AWP.if_ false (Eq.trans (by kernel_rfl) (lit_tf (b := decide ((256 : Int) ≤ y0_1)) hc14_4)) ?_
    refine AWP.skip ?_
    refine Then.normal ?_
    exact AWP.weak (Weak.toK 5 0 0 []) (J2 (y0_1, y2_1) hm)
  refine AWP.seq ?_
  refine AWP.seq ?_
  refine AWP.text ?_
  refine Wy (.d (.lit (.int .u64 y0_0))) [] (Omv rfl) ?_
  refine Wy (.b (decide ((65536 : Int) ≤ y0_0))) [] (Obn rfl (fun _ => hb_geq (k := .u64))) ?_
  refine Walk.nil ?_
  refine Then.normal ?_
  refine Amk 261 0 ⟨((.d (.lit (.int .u64 y0_0))) :: (tp 1 ((.i y2_0) :: (tp 5 ((.b (decide ((65536 : Int) ≤ y0_0))) :: (tp 16 [])))))), [], 0⟩ ?_
  rcases tf_ (decide ((65536 : Int) ≤ y0_0)) with hc8_5 | hc8_5
  ·
   replace hm := cT hc8_5 hm
   refine AWP.if_ true (Eq.trans (by kernel_rfl) (lit_tf (b := decide ((65536 : Int) ≤ y0_0)) hc8_5)) ?_
   refine AWP.seq ?_
   refine AWP.text ?_
   refine Wy (.d (.lit (.int .u64 y0_0))) [] (Omv rfl) ?_
   refine Wy (.d (.lit (.int .u64 (Int.fdiv y0_0 (2 ^ 16))))) [] (Ocs (by kernel_rfl) (op_bin rfl (a1 := .int .u64 y0_0) (a2 := .int .u64 16) (by kernel_rfl) (by kernel_rfl) (fun _ => hb_shr (n := 16) (by decide) rfl))) ?_
   refine Wy (.d (.lit (.int .u64 (Int.fdiv y0_0 (2 ^ 16))))) [] (Omv rfl) ?_
   refine Walk.nil ?_
   refine Then.normal ?_
   refine Amk 5 0 ⟨((.d (.lit (.int .u64 (Int.fdiv y0_0 (2 ^ 16))))) :: (tp 1 ((.i y2_0) :: (tp 22 [])))), [], 0⟩ ?_
   refine AWP.text ?_
   refine Wy (.i y2_0) [] (Omv rfl) ?_
   refine Wy (.i (IntKind.i64.wrap (y2_0 + 16))) [] (Obn rfl (fun _ => hb_add (k := .i64))) ?_
   refine Wy (.i (IntKind.i64.wrap (y2_0 + 16))) [] (Omv rfl) ?_
   refine Walk.nil ?_
   refine Then.normal ?_
   exact AWP.weak (Weak.toK 5 0 0 []) (J1 ((Int.fdiv y0_0 (2 ^ 16)), (IntKind.i64.wrap (y2_0 + 16))) hm)
  ·
   replace hm := cF hc8_5 hm
   refine AWP.if_ false (Eq.trans (by kernel_rfl) (lit_tf (b := decide ((65536 : Int) ≤ y0_0)) hc8_5)) ?_
   refine AWP.skip ?_
   refine Then.normal ?_
   exact AWP.weak (Weak.toK 5 0 0 []) (J1 (y0_0, y2_0) hm)
 refine AWP.seq ?_
 refine AWP.seq ?_
 refine AWP.text ?_
 refine Wy (.d (.lit (.int .u64 p0))) [] (Omv rfl) ?_
 refine Wy (.b (decide ((4294967296 : Int) ≤ p0))) [] (Obn rfl (fun _ => hb_geq (k := .u64))) ?_
 refine Walk.nil ?_
 refine Then.normal ?_
 refine Amk 21 0 ⟨((.d (.lit (.int .u64 p0))) :: (tp 1 ((.i 0) :: (tp 1 ((.b (decide ((4294967296 : Int) ≤ p0))) :: (tp 20 [])))))), [], 0⟩ ?_
 rcases tf_ (decide ((4294967296 : Int) ≤ p0)) with hc4_6 | hc4_6
 ·
  replace hm := cT hc4_6 hm
  refine AWP.if_ true (Eq.trans (by kernel_rfl) (lit_tf (b := decide ((4294967296 : Int) ≤ p0)) hc4_6)) ?_
  refine AWP.seq ?_
  refine AWP.text ?_
  refine Wy (.d (.lit (.int .u64 p0))) [] (Omv rfl) ?_
  refine Wy (.d (.lit (.int .u64 (Int.fdiv p0 (2 ^ 32))))) [] (Ocs (by kernel_rfl) (op_bin rfl (a1 := .int .u64 p0) (a2 := .int .u64 32) (by kernel_rfl) (by kernel_rfl) (fun _ => hb_shr (n := 32) (by decide) rfl))) ?_
  refine Wy (.d (.lit (.int .u64 (Int.fdiv p0 (2 ^ 32))))) [] (Omv rfl) ?_
  refine Walk.nil ?_
  refine Then.normal ?_
  refine Amk 1 0 ⟨((.d (.lit (.int .u64 (Int.fdiv p0 (2 ^ 32))))) :: (tp 24 [])), [], 0⟩ ?_
  refine AWP.text ?_
  refine Wy (.i 32) [] (Omv rfl) ?_
  refine Walk.nil ?_
  refine Then.normal ?_
  exact AWP.weak (Weak.toK 5 0 0 []) (J0 ((Int.fdiv p0 (2 ^ 32)), 32) hm)
 ·
  replace hm := cF hc4_6 hm
  refine AWP.if_ false (Eq.trans (by kernel_rfl) (lit_tf (b := decide ((4294967296 : Int) ≤ p0)) hc4_6)) ?_
  refine AWP.skip ?_
  refine Then.normal ?_
  exact AWP.weak (Weak.toK 5 0 0 []) (J0 (p0, 0) hm)

set_option maxRecDepth 20000 in
set_option maxHeartbeats 4000000 in
theorem ok_zig_Size (p0 : Int) (r : Int) (h : m_zig_Size p0 = some r) : GCall Try.prog 46 [(.d (.lit (.int .u64 p0)))] [] (.i r) [] := by
 refine GCall.of_body (n := 9) (rs := [(.tmp 2)]) Try.func46 rfl rfl rfl ?_
 refine Ato ⟨((.d (.lit (.int .u64 p0))) :: (tu 8 [])), [], 0⟩ ?_
 have hm := h
 unfold m_zig_Size at hm
 refine AWP.seq ?_
 refine AWP.text ?_
 refine Wy (.i 0) [] (Omv rfl) ?_
 refine Walk.nil ?_
 refine Then.normal ?_
 refine Amk 1 0 ⟨((.d (.lit (.int .u64 p0))) :: (tp 8 [])), [], 0⟩ ?_
 refine AWP.seq ?_
 refine AWP.text ?_
 refine Wy (.d (.lit (.int .u64 p0))) [] (Omv rfl) ?_
 obtain ⟨r4_0, hr4_0, hm⟩ := bnd hm
 refine Wy (.i r4_0) [] (Ocf [] [] [] 0 (ok_math_bits_Len64 p0 r4_0 hr4_0) (fun a w => Try.call53 a w) rfl trivial) ?_
 refine Wy (.i (IntKind.i64.wrap (r4_0 + 7))) [] (Obn rfl (fun _ => hb_add (k := .i64))) ?_
 refine Wy (.i (IntKind.i64.wrap ((IntKind.i64.wrap (r4_0 + 7)) - 1))) [] (Obn rfl (fun _ => hb_sub (k := .i64))) ?_
 refine Wy (.i (IntKind.i64.wrap (Int.tdiv (IntKind.i64.wrap ((IntKind.i64.wrap (r4_0 + 7)) - 1)) 7))) [] (Ocs (by kernel_rfl) (op_bin rfl (a1 := .int .i64 (IntKind.i64.wrap ((IntKind.i64.wrap (r4_0 + 7)) - 1))) (a2 := .int .i64 7) (by kernel_rfl) (by kernel_rfl) (fun _ => hb_quo (by decide)))) ?_
 refine Wy (.i (max 1 (IntKind.i64.wrap (Int.tdiv (IntKind.i64.wrap ((IntKind.i64.wrap (r4_0 + 7)) - 1)) 7)))) [] (op_bi2 rfl (a1 := .int .i64 1) (a2 := .int .i64 (IntKind.i64.wrap (Int.tdiv (IntKind.i64.wrap ((IntKind.i64.wrap (r4_0 + 7)) - 1)) 7))) (by kernel_rfl) (by kernel_rfl) hb_max) ?_
 refine Wy (.i (max 1 (IntKind.i64.wrap (Int.tdiv (IntKind.i64.wrap ((IntKind.i64.wrap (r4_0 + 7)) - 1)) 7)))) [] (Omv rfl) ?_
 refine Walk.nil ?_
 refine Then.normal ?_
 refine AWP.ret ?_
 obtain rfl := Option.some.inj hm
 exact ret_i []

set_option maxRecDepth 20000 in
set_option maxHeartbeats 4000000 in
theorem ok_zig_Put (p0 : (List UInt8)) (p1 : Int) (r : (List UInt8)) (h : m_zig_Put p0 p1 = some r) : GCall Try.prog 36 [(.l encU8 p0), (.d (.lit (.int .u64 p1)))] [] (.own 0) [(.arr 5 1 (List.length r) (flatD encU8 r))] := by
 refine GCall.of_body (n := 41) (rs := [(.tmp 4)]) Try.func36 rfl rfl rfl ?_
 refine Ato ⟨((.l encU8 p0) :: ((.d (.lit (.int .u64 p1))) :: (tu 39 []))), [], 0⟩ ?_
 have hm := h
 unfold m_zig_Put at hm
 refine AWP.seq ?_
 refine AWP.text ?_
 refine Wy (.d .nil) [] (Omv rfl) ?_
 refine Walk.nil ?_
 refine Then.normal ?_
 refine Amk 3 0 ⟨((.l encU8 p0) :: ((.d (.lit (.int .u64 p1))) :: (tp 39 []))), [], 0⟩ ?_
 refine AWP.seq ?_
 refine AWP.text ?_
 refine Wy (.d (.lit (.int .u64 p1))) [] (Omv rfl) ?_
 obtain ⟨r10_0, hr10_0, hm⟩ := bnd hm
 refine Wy (.i r10_0) [] (Ocf [] [] [] 0 (ok_zig_Size p1 r10_0 hr10_0) (fun a w => Try.call46 a w) rfl trivial) ?_
 refine Wy (.i r10_0) [] (Omv rfl) ?_
 refine Walk.nil ?_
 refine Then.normal ?_
 refine Amk 35 0 ⟨((.l encU8 p0) :: ((.d (.lit (.int .u64 p1))) :: (tp 3 ((.i r10_0) :: (tp 35 []))))), [], 0⟩ ?_
 refine AWP.seq ?_
 refine AWP.text ?_
 refine Wy (.l encU8 p0) [] (Omv rfl) ?_
 refine Wy (.i ((List.length p0 : Nat) : Int)) [] (Oln rfl) ?_
 refine Wy (.i r10_0) [] (Omv rfl) ?_
 refine Wy (.i (IntKind.i64.wrap (((List.length p0 : Nat) : Int) + r10_0))) [] (Obn rfl (fun _ => hb_add (k := .i64))) ?_
 obtain ⟨m15_1, hm15_1, hm⟩ := bnd hm; obtain ⟨hm15_1i, hm15_1j, hm15_1l, hm15_1k, hm15_1e⟩ := mkc_some hm15_1
 refine Wy (.own 0) [(0, (.arr 5 1 (List.length m15_1) (flatD encU8 m15_1)))] (OcB (op_makeC rfl elemOK_46 (by kernel_rfl) (kl := .i64) (kc := .i64) (L := 0) (C := (IntKind.i64.wrap (((List.length p0 : Nat) : Int) + r10_0))) (by kernel_rfl) (by kernel_rfl) (n := Int.toNat 0) (cp := Int.toNat (IntKind.i64.wrap (((List.length p0 : Nat) : Int) + r10_0))) hm15_1i hm15_1j hm15_1l (by omega) (by kernel_rfl)) (bl_one (by rw [hm15_1e]; simp) (by rw [hm15_1e]; exact (flat_rep (by kernel_rfl))))) ?_
 refine Wy (.own 0) [] (Omv rfl) ?_
 refine Walk.nil ?_
 refine Then.normal ?_
 refine Amk 99 1 ⟨((.l encU8 p0) :: ((.d (.lit (.int .u64 p1))) :: (tp 3 ((.i r10_0) :: ((.own 0) :: (tp 34 [])))))), [(.arr 5 1 (List.length m15_1) (flatD encU8 m15_1))], 0⟩ ?_
 refine AWP.seq ?_
 refine AWP.text ?_
 refine Wy (.own 0) [] (Omv rfl) ?_
 refine Wy (.l encU8 p0) [] (Omv rfl) ?_
 obtain ⟨a18_2, ha18_2, hm⟩ := bnd hm; obtain ⟨ha18_2e, ha18_2l⟩ := app_some ha18_2
 refine Wy (.own 1) [(0, .gone), (1, (.arr 5 1 (List.length a18_2) (flatD encU8 a18_2)))] (Oap rfl elemOK_46 encU8_len ha18_2e ha18_2l) ?_
 refine Wy (.own 1) [] (Omv rfl) ?_
 refine Walk.nil ?_
 refine Then.normal ?_
 refine Amk 98 2 ⟨(tp 1 ((.d (.lit (.int .u64 p1))) :: (tp 3 ((.i r10_0) :: ((.own 1) :: (tp 34 [])))))), [.gone, (.arr 5 1 (List.length a18_2) (flatD encU8 a18_2))], 0⟩ ?_
 refine AWP.seq ?_
 refine AWP.seq ?_
 refine AWP.text ?_
 refine Wy (.i r10_0) [] (Omv rfl) ?_
 refine Wy (.i 0) [] (Omv rfl) ?_
 refine Walk.nil ?_
 refine Then.normal ?_
 refine Amk 1572962 2 ⟨(tp 1 ((.d (.lit (.int .u64 p1))) :: (tp 3 ((.i r10_0) :: ((.own 1) :: (tp 12 ((.i r10_0) :: ((.i 0) :: (tp 20 []))))))))), [.gone, (.arr 5 1 (List.length a18_2) (flatD encU8 a18_2))], 0⟩ ?_
 refine AWP.block ?_
 refine AWP.loopI (α := Nat × (List UInt8) × Int)
   (fun x => match x with | (fu_3, y6_3, y20_3) => (⟨(tp 1 ((.d (.lit (.int .u64 p1))) :: (tp 3 ((.i r10_0) :: ((.own 0) :: (tp 12 ((.i r10_0) :: ((.i y20_3) :: (tp 20 []))))))))), [(.arr 5 1 (List.length y6_3) (flatD encU8 y6_3))], 0⟩ : St))
   (fun x => match x with | (fu_3, y6_3, y20_3) => m_zig_Put_l3 p1 r10_0 fu_3 y6_3 y20_3 = some r)
   (fun x => match x with | (fu_3, y6_3, y20_3) => fu_3) (1152921504606846976, a18_2, 0)
   (Weak.toK 1572962 0 0 [1]) hm ?_
 rintro ⟨fu_3, y6_3, y20_3⟩ n_3 hm ih_3
 try dsimp only at hm ih_3 ⊢
 cases fu_3 with
 | zero => exact absurd hm (by unfold m_zig_Put_l3; simp)
 | succ fu_3 =>
  unfold m_zig_Put_l3 at hm
  refine AWP.seq ?_
  refine AWP.text ?_
  refine Wy (.b (decide (y20_3 < r10_0))) [] (Obn rfl (fun _ => hb_lss (k := .i64))) ?_
  refine Walk.nil ?_
  refine Then.normal ?_
  refine Amk 3670114 1 ⟨(tp 1 ((.d (.lit (.int .u64 p1))) :: (tp 3 ((.i r10_0) :: ((.own 0) :: (tp 12 ((.i r10_0) :: ((.i y20_3) :: ((.b (decide (y20_3 < r10_0))) :: (tp 19 [])))))))))), [(.arr 5 1 (List.length y6_3) (flatD encU8 y6_3))], 0⟩ ?_
  refine AWP.seq ?_
  rcases tf_ (decide (y20_3 < r10_0)) with hc21_6 | hc21_6
  ·
   replace hm := cT hc21_6 hm
   refine AWP.if_ true (Eq.trans (by kernel_rfl) (lit_tf (b := decide (y20_3 < r10_0)) hc21_6)) ?_
   refine AWP.skip ?_
   refine Then.normal ?_
   refine Amk 1572962 1 ⟨(tp 1 ((.d (.lit (.int .u64 p1))) :: (tp 3 ((.i r10_0) :: ((.own 0) :: (tp 12 ((.i r10_0) :: ((.i y20_3) :: (tp 20 []))))))))), [(.arr 5 1 (List.length y6_3) (flatD encU8 y6_3))], 0⟩ ?_
   refine AWP.seq ?_
   refine AWP.block ?_
   refine AWP.seq ?_
   refine AWP.text ?_
   refine Wy (.i y20_3) [] (Omv rfl) ?_
   refine Wy (.i y20_3) [] (Omv rfl) ?_
   refine Walk.nil ?_
   refine Then.normal ?_
   refine Amk 1573090 1 ⟨(tp 1 ((.d (.lit (.int .u64 p1))) :: (tp 3 ((.i r10_0) :: ((.own 0) :: ((.i y20_3) :: (tp 11 ((.i r10_0) :: ((.i y20_3) :: (tp 20 [])))))))))), [(.arr 5 1 (List.length y6_3) (flatD encU8 y6_3))], 0⟩ ?_
   refine AWP.seq ?_
   refine AWP.text ?_
   refine Wy (.d (.lit (.int .u64 p1))) [] (Omv rfl) ?_
   refine Wy (.i y20_3) [] (Omv rfl) ?_
   refine Wy (.i (IntKind.i64.wrap (7 * y20_3))) [] (Obn rfl (fun _ => hb_mul (k := .i64))) ?_
   obtain ⟨hs26_4, hm⟩ := chk_some hm
   refine Wy (.d (.lit (.int .u64 (Int.fdiv p1 (2 ^ (Int.toNat (IntKind.i64.wrap (7 * y20_3)))))))) [] (Ocs (by kernel_rfl) (op_bin rfl (a1 := .int .u64 p1) (a2 := .int .i64 (IntKind.i64.wrap (7 * y20_3))) (by kernel_rfl) (by kernel_rfl) (fun _ => hb_shr (n := (Int.toNat (IntKind.i64.wrap (7 * y20_3)))) (sh_le hs26_4.2) (sh_eq hs26_4.1)))) ?_
   refine Wy (.y (toU8 (Int.fdiv p1 (2 ^ (Int.toNat (IntKind.i64.wrap (7 * y20_3))))))) [] (Ocs (lit_int (u8w _)) (op_convert rfl (a1 := .int .u64 (Int.fdiv p1 (2 ^ (Int.toNat (IntKind.i64.wrap (7 * y20_3)))))) (by kernel_rfl) (run_conv (ds := .int .u64) (k' := .u8) (by kernel_rfl) (by kernel_rfl)))) ?_
   obtain ⟨v28_4, hv28_4, hm⟩ := bnd hm; replace hv28_4 := Option.some.inj hv28_4
   refine Wy (.y v28_4) [] (Ocs (Eq.trans (lit_int (u8w _)) (congrArg (fun z => A.d (byteD z)) hv28_4)) (op_bin rfl (a1 := .int .u8 (((toU8 (Int.fdiv p1 (2 ^ (Int.toNat (IntKind.i64.wrap (7 * y20_3)))))).toNat : Nat) : Int)) (a2 := .int .u8 128) (by kernel_rfl) (by kernel_rfl) (fun _ => hb_or))) ?_
   refine Wy (.y v28_4) [] (Omv rfl) ?_
   refine Walk.nil ?_
   refine Then.normal ?_
   refine Amk 1573346 1 ⟨(tp 1 ((.d (.lit (.int .u64 p1))) :: (tp 3 ((.i r10_0) :: ((.own 0) :: ((.i y20_3) :: ((.y v28_4) :: (tp 10 ((.i r10_0) :: ((.i y20_3) :: (tp 20 []))))))))))), [(.arr 5 1 (List.length y6_3) (flatD encU8 y6_3))], 0⟩ ?_
   refine AWP.cutJ (α := UInt8) (fun x => match x with | y8_5 => (⟨(tp 1 ((.d (.lit (.int .u64 p1))) :: (tp 3 ((.i r10_0) :: ((.own 0) :: (tp 1 ((.y y8_5) :: (tp 10 ((.i r10_0) :: ((.i y20_3) :: (tp 20 []))))))))))), [(.arr 5 1 (List.length y6_3) (flatD encU8 y6_3))], 0⟩ : St)) (fun x => match x with | y8_5 => m_zig_Put_j5 y20_3 y6_3 (fun y6_3 y20_3 => m_zig_Put_l3 p1 r10_0 fu_3 y6_3 y20_3) y8_5 = some r) ?_ (fun J5 => ?_)
   ·
    rintro y8_5 hm
    try dsimp only at hm ⊢
    unfold m_zig_Put_j5 at hm
    refine AWP.text ?_
    refine Wy (.own 0) [] (Omv rfl) ?_
    refine Wy (.y y8_5) [] (Omv rfl) ?_
    refine Wy (.own 1) [(1, (.arr 5 1 (List.length ([y8_5] : List UInt8)) (flatD encU8 ([y8_5] : List UInt8))))] (Obs rfl) ?_
    obtain ⟨a38_5, ha38_5, hm⟩ := bnd hm; obtain ⟨ha38_5e, ha38_5l⟩ := app_some ha38_5
    refine Wy (.own 2) [(0, .gone), (2, (.arr 5 1 (List.length a38_5) (flatD encU8 a38_5)))] (Oap rfl elemOK_46 encU8_len ha38_5e ha38_5l) ?_
    refine Wy (.own 2) [] (Omv rfl) ?_
    refine Walk.nil ?_
    refine InBlock.normal ?_
    refine Then.normal ?_
    refine Amk 1572962 4 ⟨(tp 1 ((.d (.lit (.int .u64 p1))) :: (tp 3 ((.i r10_0) :: ((.own 2) :: (tp 12 ((.i r10_0) :: ((.i y20_3) :: (tp 20 []))))))))), [.gone, .gone, (.arr 5 1 (List.length a38_5) (flatD encU8 a38_5))], 0⟩ ?_
    refine AWP.text ?_
    refine Wy (.i (IntKind.i64.wrap (y20_3 + 1))) [] (Obn rfl (fun _ => hb_add (k := .i64))) ?_
    refine Wy (.i (IntKind.i64.wrap (y20_3 + 1))) [] (Omv rfl) ?_
    refine Walk.nil ?_
    refine RoundK.normal ?_
    exact Rounds.weak (Weak.toK 1572962 0 0 [2]) (ih_3 (fu_3, a38_5, (IntKind.i64.wrap (y20_3 + 1))) hm (Nat.lt_succ_self _))
   refine AWP.seq ?_
   refine AWP.seq ?_
   refine AWP.text ?_
   refine Wy (.i y20_3) [] (Omv rfl) ?_
   refine Wy (.i r10_0) [] (Omv rfl) ?_
   refine Wy (.i (IntKind.i64.wrap (r10_0 - 1))) [] (Obn rfl (fun _ => hb_sub (k := .i64))) ?_
   refine Wy (.b (decide (y20_3 = (IntKind.i64.wrap (r10_0 - 1))))) [] (Obn rfl (fun _ => hb_eql (k := .i64))) ?_
   refine Walk.nil ?_
   refine Then.normal ?_
   refine Amk 4296540514 1 ⟨(tp 1 ((.d (.lit (.int .u64 p1))) :: (tp 3 ((.i r10_0) :: ((.own 0) :: (tp 1 ((.y v28_4) :: (tp 10 ((.i r10_0) :: ((.i y20_3) :: (tp 11 ((.b (decide (y20_3 = (IntKind.i64.wrap (r10_0 - 1))))) :: (tp 8 []))))))))))))), [(.arr 5 1 (List.length y6_3) (flatD encU8 y6_3))], 0⟩ ?_
   rcases tf_ (decide (y20_3 = (IntKind.i64.wrap (r10_0 - 1)))) with hc32_7 | hc32_7
   ·
    replace hm := cT hc32_7 hm
    refine AWP.if_ true (Eq.trans (by kernel_rfl) (lit_tf (b := decide (y20_3 = (IntKind.i64.wrap (r10_0 - 1)))) hc32_7)) ?_
    refine AWP.text ?_
    refine Wy (.y v28_4) [] (Omv rfl) ?_
    refine Wy (.y (toU8 (((BitVec.ofInt 8 ((v28_4.toNat : Nat) : Int) &&& ~~~ BitVec.ofInt 8 128).toNat : Int)))) [] (Ocs (lit_int (u8w _)) (op_bin rfl (a1 := .int .u8 ((v28_4.toNat : Nat) : Int)) (a2 := .int .u8 128) (by kernel_rfl) (by kernel_rfl) (fun _ => hb_andNot))) ?_
    refine Wy (.y (toU8 (((BitVec.ofInt 8 ((v28_4.toNat : Nat) : Int) &&& ~~~ BitVec.ofInt 8 128).toNat : Int)))) [] (Omv rfl) ?_
    refine Walk.nil ?_
    refine Then.normal ?_
    exact AWP.weak (Weak.toK 1573218 0 0 [0]) (J5 ((toU8 (((BitVec.ofInt 8 ((v28_4.toNat : Nat) : Int) &&& ~~~ BitVec.ofInt 8 128).toNat : Int)))) hm)
   ·
    replace hm := cF hc32_7 hm
    refine AWP.if_ false (Eq.trans (by kernel_rfl) (lit_tf (b := decide (y20_3 = (IntKind.i64.wrap (r10_0 - 1)))) hc32_7)) ?_
    refine AWP.skip ?_
    refine Then.normal ?_
    exact AWP.weak (Weak.toK 1573218 0 0 [0]) (J5 (v28_4) hm)
  ·
   replace hm := cF hc21_6 hm
   refine AWP.if_ false (Eq.trans (by kernel_rfl) (lit_tf (b := decide (y20_3 < r10_0)) hc21_6)) ?_
   refine AWP.exit ?_
   refine Then.exit ?_
   refine RoundK.exit ?_
   refine InBlock.same ?_
   refine Then.normal ?_
   refine Amk 64 1 ⟨(tp 6 ((.own 0) :: (tp 34 []))), [(.arr 5 1 (List.length y6_3) (flatD encU8 y6_3))], 0⟩ ?_
   refine AWP.seq ?_
   refine AWP.text ?_
   refine Wy (.own 0) [] (Omv rfl) ?_
   refine Wy (.own 0) [] (Omv rfl) ?_
   refine Walk.nil ?_
   refine Then.normal ?_
   refine AWP.ret ?_
   obtain rfl := Option.some.inj hm
   exact ret_i [0]

set_option maxRecDepth 20000 in
set_option maxHeartbeats 4000000 in
theorem ok_zig_Fold (p0 : Int) (r : Int) (h : m_zig_Fold p0 = some r) : GCall Try.prog 47 [(.i p0)] [] (.d (.lit (.int .u64 r))) [] := by
 refine GCall.of_body (n := 10) (rs := [(.tmp 2)]) Try.func47 rfl rfl rfl ?_
 refine Ato ⟨((.i p0) :: (tu 9 [])), [], 0⟩ ?_
 have hm := h
 unfold m_zig_Fold at hm
 refine AWP.seq ?_
 refine AWP.text ?_
 refine Wy (.d (.lit (.int .u64 0))) [] (Omv rfl) ?_
 refine Walk.nil ?_
 refine Then.normal ?_
 refine Amk 1 0 ⟨((.i p0) :: (tp 9 [])), [], 0⟩ ?_
 refine AWP.seq ?_
 refine AWP.text ?_
 refine Wy (.i p0) [] (Omv rfl) ?_
 refine Wy (.d (.lit (.int .u64 (IntKind.u64.wrap p0)))) [] (Ocs (by kernel_rfl) (op_convert rfl (a1 := .int .i64 p0) (by kernel_rfl) (run_conv (ds := .int .i64) (k' := .u64) (by kernel_rfl) (by kernel_rfl)))) ?_
 refine Wy (.d (.lit (.int .u64 (IntKind.u64.wrap ((IntKind.u64.wrap p0) * 2 ^ 1))))) [] (Ocs (by kernel_rfl) (op_bin rfl (a1 := .int .u64 (IntKind.u64.wrap p0)) (a2 := .int .u64 1) (by kernel_rfl) (by kernel_rfl) (fun _ => hb_shl (n := 1) (by decide) rfl))) ?_
 refine Wy (.i p0) [] (Omv rfl) ?_
 refine Wy (.i (Int.fdiv p0 (2 ^ 63))) [] (Ocs (by kernel_rfl) (op_bin rfl (a1 := .int .i64 p0) (a2 := .int .u64 63) (by kernel_rfl) (by kernel_rfl) (fun _ => hb_shr (n := 63) (by decide) rfl))) ?_
 refine Wy (.d (.lit (.int .u64 (IntKind.u64.wrap (Int.fdiv p0 (2 ^ 63)))))) [] (Ocs (by kernel_rfl) (op_convert rfl (a1 := .int .i64 (Int.fdiv p0 (2 ^ 63))) (by kernel_rfl) (run_conv (ds := .int .i64) (k' := .u64) (by kernel_rfl) (by kernel_rfl)))) ?_
 obtain ⟨v9_0, hv9_0, hm⟩ := bnd hm; replace hv9_0 := Option.some.inj hv9_0
 refine Wy (.d (.lit (.int .u64 v9_0))) [] (Ocs (Eq.trans (by kernel_rfl) (congrArg (fun z => A.d (.lit (.int .u64 z))) hv9_0)) (op_bin rfl (a1 := .int .u64 (IntKind.u64.wrap ((IntKind.u64.wrap p0) * 2 ^ 1))) (a2 := .int .u64 (IntKind.u64.wrap (Int.fdiv p0 (2 ^ 63)))) (by kernel_rfl) (by kernel_rfl) (fun _ => hb_xor))) ?_
 refine Wy (.d (.lit (.int .u64 v9_0))) [] (Omv rfl) ?_
 refine Walk.nil ?_
 refine Then.normal ?_
 refine AWP.ret ?_
 obtain rfl := Option.some.inj hm
 exact ret_i []

set_option maxRecDepth 20000 in
set_option maxHeartbeats 4000000 in
theorem ok_zig_PutInt (p0 : (List UInt8)) (p1 : Int) (r : (List UInt8)) (h : m_zig_PutInt p0 p1 = some r) : GCall Try.prog 37 [(.l encU8 p0), (.i p1)] [] (.own 0) [(.arr 5 1 (List.length r) (flatD encU8 r))] := by
 refine GCall.of_body (n := 9) (rs := [(.tmp 4)]) Try.func37 rfl rfl rfl ?_
 refine Ato ⟨((.l encU8 p0) :: ((.i p1) :: (tu 7 []))), [], 0⟩ ?_
 have hm := h
 unfold m_zig_PutInt at hm
 refine AWP.seq ?_
 refine AWP.text ?_
 refine Wy (.d .nil) [] (Omv rfl) ?_
 refine Walk.nil ?_
 refine Then.normal ?_
 refine Amk 3 0 ⟨((.l encU8 p0) :: ((.i p1) :: (tp 7 []))), [], 0⟩ ?_
 refine AWP.seq ?_
 refine AWP.text ?_
 refine Wy (.l encU8 p0) [] (Omv rfl) ?_
 refine Wy (.i p1) [] (Omv rfl) ?_
 obtain ⟨r7_0, hr7_0, hm⟩ := bnd hm
 refine Wy (.d (.lit (.int .u64 r7_0))) [] (Ocf [] [] [] 0 (ok_zig_Fold p1 r7_0 hr7_0) (fun a w => Try.call47 a w) rfl trivial) ?_
 obtain ⟨r8_0, hr8_0, hm⟩ := bnd hm
 refine Wy (.own 0) [(0, (.arr 5 1 (List.length r8_0) (flatD encU8 r8_0)))] (Ocf [] [0] [] 0 (ok_zig_Put p0 r7_0 r8_0 hr8_0) (fun a w => Try.call36 a w) rfl trivial) ?_
 refine Wy (.own 0) [] (Omv rfl) ?_
 refine Walk.nil ?_
 refine Then.normal ?_
 refine AWP.ret ?_
 obtain rfl := Option.some.inj hm
 exact ret_i [0]

set_option maxRecDepth 20000 in
set_option maxHeartbeats 4000000 in
theorem ok_tally_Put (p0 : (List UInt8)) (p1 : (List GChange)) (r : (List UInt8)) (h : m_tally_Put p0 p1 = some r) : GCall Try.prog 23 [(.l encU8 p0), (.l enc_GChange p1)] [] (.own 0) [(.arr 5 1 (List.length r) (flatD encU8 r))] := by
 refine GCall.of_body (n := 30) (rs := [(.tmp 4)]) Try.func23 rfl rfl rfl ?_
 refine Ato ⟨((.l encU8 p0) :: ((.l enc_GChange p1) :: (tu 28 []))), [], 0⟩ ?_
 have hm := h
 unfold m_tally_Put at hm
 refine AWP.seq ?_
 refine AWP.text ?_
 refine Wy (.d .nil) [] (Omv rfl) ?_
 refine Walk.nil ?_
 refine Then.normal ?_
 refine Amk 3 0 ⟨((.l encU8 p0) :: ((.l enc_GChange p1) :: (tp 28 []))), [], 0⟩ ?_
 refine AWP.seq ?_
 refine AWP.text ?_
 refine Wy (.l encU8 p0) [] (Omv rfl) ?_
 refine Wy (.l enc_GChange p1) [] (Omv rfl) ?_
 refine Wy (.i ((List.length p1 : Nat) : Int)) [] (Oln rfl) ?_
 refine Wy (.d (.lit (.int .u64 (IntKind.u64.wrap ((List.length p1 : Nat) : Int))))) [] (Ocs (by kernel_rfl) (op_convert rfl (a1 := .int .i64 ((List.length p1 : Nat) : Int)) (by kernel_rfl) (run_conv (ds := .int .i64) (k' := .u64) (by kernel_rfl) (by kernel_rfl)))) ?_
 obtain ⟨r11_0, hr11_0, hm⟩ := bnd hm
 refine Wy (.own 0) [(0, (.arr 5 1 (List.length r11_0) (flatD encU8 r11_0)))] (Ocf [] [0] [] 0 (ok_zig_Put p0 (IntKind.u64.wrap ((List.length p1 : Nat) : Int)) r11_0 hr11_0) (fun a w => Try.call36 a w) rfl trivial) ?_
 refine Wy (.own 0) [] (Omv rfl) ?_
 refine Walk.nil ?_
 refine Then.normal ?_
 refine Amk 3 1 ⟨((.own 0) :: ((.l enc_GChange p1) :: (tp 28 []))), [(.arr 5 1 (List.length r11_0) (flatD encU8 r11_0))], 0⟩ ?_
 refine AWP.seq ?_
 refine AWP.seq ?_
 refine AWP.text ?_
 refine Wy (.l enc_GChange p1) [] (Omv rfl) ?_
 refine Wy (.i ((List.length p1 : Nat) : Int)) [] (Oln rfl) ?_
 refine Wy (.i 0) [] (Omv rfl) ?_
 refine Walk.nil ?_
 refine Then.normal ?_
 refine Amk 28673 1 ⟨((.own 0) :: (tp 11 ((.l enc_GChange p1) :: ((.i ((List.length p1 : Nat) : Int)) :: ((.i 0) :: (tp 15 [])))))), [(.arr 5 1 (List.length r11_0) (flatD encU8 r11_0))], 0⟩ ?_
 refine AWP.block ?_
 refine AWP.loopI (α := Nat × (List UInt8) × Int)
   (fun x => match x with | (fu_2, y0_2, y14_2) => (⟨((.own 0) :: (tp 11 ((.l enc_GChange p1) :: ((.i ((List.length p1 : Nat) : Int)) :: ((.i y14_2) :: (tp 15 [])))))), [(.arr 5 1 (List.length y0_2) (flatD encU8 y0_2))], 0⟩ : St))
   (fun x => match x with | (fu_2, y0_2, y14_2) => m_tally_Put_l2 p1 fu_2 y0_2 y14_2 = some r)
   (fun x => match x with | (fu_2, y0_2, y14_2) => fu_2) (1152921504606846976, r11_0, 0)
   (Weak.toK 28673 0 0 [0]) hm ?_
 rintro ⟨fu_2, y0_2, y14_2⟩ n_2 hm ih_2
 try dsimp only at hm ih_2 ⊢
 cases fu_2 with
 | zero => exact absurd hm (by unfold m_tally_Put_l2; simp)
 | succ fu_2 =>
  unfold m_tally_Put_l2 at hm
  refine AWP.seq ?_
  refine AWP.text ?_
  refine Wy (.b (decide (y14_2 < ((List.length p1 : Nat) : Int)))) [] (Obn rfl (fun _ => hb_lss (k := .i64))) ?_
  refine Walk.nil ?_
  refine Then.normal ?_
  refine Amk 61441 1 ⟨((.own 0) :: (tp 11 ((.l enc_GChange p1) :: ((.i ((List.length p1 : Nat) : Int)) :: ((.i y14_2) :: ((.b (decide (y14_2 < ((List.length p1 : Nat) : Int)))) :: (tp 14 []))))))), [(.arr 5 1 (List.length y0_2) (flatD encU8 y0_2))], 0⟩ ?_
  refine AWP.seq ?_
  rcases tf_ (decide (y14_2 < ((List.length p1 : Nat) : Int))) with hc15_5 | hc15_5
  ·
   replace hm := cT hc15_5 hm
   refine AWP.if_ true (Eq.trans (by kernel_rfl) (lit_tf (b := decide (y14_2 < ((List.length p1 : Nat) : Int))) hc15_5)) ?_
   refine AWP.skip ?_
   refine Then.normal ?_
   refine Amk 28673 1 ⟨((.own 0) :: (tp 11 ((.l enc_GChange p1) :: ((.i ((List.length p1 : Nat) : Int)) :: ((.i y14_2) :: (tp 15 [])))))), [(.arr 5 1 (List.length y0_2) (flatD encU8 y0_2))], 0⟩ ?_
   refine AWP.seq ?_
   refine AWP.block ?_
   refine AWP.seq ?_
   refine AWP.text ?_
   obtain ⟨x16_3, hx16_3, hm⟩ := bnd hm
   obtain ⟨hx16_3i, hx16_3g⟩ := geti_some hx16_3
   refine Wy (.d (.ref (List.drop ((Int.toNat y14_2) * 3) (flatD enc_GChange p1)))) [] (Oia rfl enc_GChange_len hx16_3i hx16_3g) ?_
   refine Wy (.agg [(.i x16_3.Loc), (.i x16_3.Time), (.i x16_3.N)]) [] (Lf rfl enc_GChange_len hx16_3g) ?_
   refine Wy (.loc 1 0) [(1, (.box [(.i 0), (.i 0), (.i 0)]))] (Oal rfl) ?_
   refine Wy (.tup []) [(1, (.box [(.i x16_3.Loc), (.i x16_3.Time), (.i x16_3.N)]))] (Ost rfl) ?_
   refine Walk.nil ?_
   refine Then.normal ?_
   refine Amk 28737 3 ⟨((.own 0) :: (tp 5 ((.loc 1 0) :: (tp 5 ((.l enc_GChange p1) :: ((.i ((List.length p1 : Nat) : Int)) :: ((.i y14_2) :: (tp 15 [])))))))), [(.arr 5 1 (List.length y0_2) (flatD encU8 y0_2)), (.box [(.i x16_3.Loc), (.i x16_3.Time), (.i x16_3.N)])], 0⟩ ?_
   refine Adr ?_
   refine Wy (.own 0) [] (Omv rfl) ?_
   refine Wy (.loc 1 0) [] (Ofa rfl) ?_
   refine Wy (.i x16_3.Loc) [] (Old rfl) ?_
   obtain ⟨r21_4, hr21_4, hm⟩ := bnd hm
   refine Wy (.own 2) [(2, (.arr 5 1 (List.length r21_4) (flatD encU8 r21_4)))] (Ocp [] [2] [0] 0 (ok_zig_PutInt y0_2 x16_3.Loc r21_4 hr21_4) (⟨by simp [A.Plain, A.Plains, D.Plain, byteD], plain_cons (flat_plain encU8_plain) (plain_nil)⟩) (fun a w => Try.call37 a w) rfl trivial) ?_
   refine Wy (.loc 1 1) [] (Ofa rfl) ?_
   refine Wy (.i x16_3.Time) [] (Old rfl) ?_
   obtain ⟨r24_4, hr24_4, hm⟩ := bnd hm
   refine Wy (.own 3) [(3, (.arr 5 1 (List.length r24_4) (flatD encU8 r24_4)))] (Ocp [] [3] [2] 0 (ok_zig_PutInt r21_4 x16_3.Time r24_4 hr24_4) (⟨by simp [A.Plain, A.Plains, D.Plain, byteD], plain_cons (flat_plain encU8_plain) (plain_nil)⟩) (fun a w => Try.call37 a w) rfl trivial) ?_
   refine Wy (.loc 1 2) [] (Ofa rfl) ?_
   refine Wy (.i x16_3.N) [] (Old rfl) ?_
   obtain ⟨r27_4, hr27_4, hm⟩ := bnd hm
   refine Wy (.own 4) [(4, (.arr 5 1 (List.length r27_4) (flatD encU8 r27_4)))] (Ocp [] [4] [3] 0 (ok_zig_PutInt r24_4 x16_3.N r27_4 hr27_4) (⟨by simp [A.Plain, A.Plains, D.Plain, byteD], plain_cons (flat_plain encU8_plain) (plain_nil)⟩) (fun a w => Try.call37 a w) rfl trivial) ?_
   refine Wy (.own 4) [] (Omv rfl) ?_
   refine Wdr ?_
   refine InBlock.normal ?_
   refine Then.normal ?_
   refine Amk 28673 16 ⟨((.own 4) :: (tp 11 ((.l enc_GChange p1) :: ((.i ((List.length p1 : Nat) : Int)) :: ((.i y14_2) :: (tp 15 [])))))), [.gone, .gone, .gone, .gone, (.arr 5 1 (List.length r27_4) (flatD encU8 r27_4))], 0⟩ ?_
   refine AWP.text ?_
   refine Wy (.i (IntKind.i64.wrap (y14_2 + 1))) [] (Obn rfl (fun _ => hb_add (k := .i64))) ?_
   refine Wy (.i (IntKind.i64.wrap (y14_2 + 1))) [] (Omv rfl) ?_
   refine Walk.nil ?_
   refine RoundK.normal ?_
   exact Rounds.weak (Weak.toK 28673 0 0 [4]) (ih_2 (fu_2, r27_4, (IntKind.i64.wrap (y14_2 + 1))) hm (Nat.lt_succ_self _))
  ·
   replace hm := cF hc15_5 hm
   refine AWP.if_ false (Eq.trans (by kernel_rfl) (lit_tf (b := decide (y14_2 < ((List.length p1 : Nat) : Int))) hc15_5)) ?_
   refine AWP.exit ?_
   refine Then.exit ?_
   refine RoundK.exit ?_
   refine InBlock.same ?_
   refine Then.normal ?_
   refine Amk 1 1 ⟨((.own 0) :: (tp 29 [])), [(.arr 5 1 (List.length y0_2) (flatD encU8 y0_2))], 0⟩ ?_
   refine AWP.seq ?_
   refine AWP.text ?_
   refine Wy (.own 0) [] (Omv rfl) ?_
   refine Wy (.own 0) [] (Omv rfl) ?_
   refine Walk.nil ?_
   refine Then.normal ?_
   refine AWP.ret ?_
   obtain rfl := Option.some.inj hm
   exact ret_i [0]

set_option maxRecDepth 20000 in
set_option maxHeartbeats 4000000 in
theorem ok_zig_Take (p0 : (List UInt8)) (p1 : Int) (r : (Int × Int × Int)) (h : m_zig_Take p0 p1 = some r) : GCall Try.prog 32 [(.s p0), (.i p1)] [] (.tup [(.d (.lit (.int .u64 r.1))), (.i r.2.1), (.i r.2.2)]) [] := by
 refine GCall.of_body (n := 59) (rs := [(.tmp 4), (.tmp 5), (.tmp 6)]) Try.func32 rfl rfl rfl ?_
 refine Ato ⟨((.s p0) :: ((.i p1) :: (tu 57 []))), [], 0⟩ ?_
 have hm := h
 unfold m_zig_Take at hm
 refine AWP.seq ?_
 refine AWP.text ?_
 refine Wy (.d (.lit (.int .u64 0))) [] (Omv rfl) ?_
 refine Wy (.i 0) [] (Omv rfl) ?_
 refine Wy (.i 0) [] (Omv rfl) ?_
 refine Walk.nil ?_
 refine Then.normal ?_
 refine Amk 19 0 ⟨((.s p0) :: ((.i p1) :: (tp 2 ((.d (.lit (.int .u64 0))) :: (tp 54 []))))), [], 0⟩ ?_
 refine AWP.seq ?_
 refine AWP.seq ?_
 refine AWP.text ?_
 refine Wy (.i p1) [] (Omv rfl) ?_
 refine Wy (.b (decide (p1 < 0))) [] (Obn rfl (fun _ => hb_lss (k := .i64))) ?_
 rcases tf_ (decide (p1 < 0)) with hq11_0 | hq11_0
 ·
  replace hm := cT hq11_0 hm
  refine Wy (.b true) [] (Ocs (lit_tf (b := decide (p1 < 0)) hq11_0) (Omv rfl)) ?_
  refine Wn ?_
  refine Wn ?_
  refine Wn ?_
  refine Wn ?_
  refine Wy (.b true) [] (OpT rfl) ?_
  refine Walk.nil ?_
  refine Then.normal ?_
  refine Amk 65555 0 ⟨((.s p0) :: ((.i p1) :: (tp 2 ((.d (.lit (.int .u64 0))) :: (tp 11 ((.b true) :: (tp 42 []))))))), [], 0⟩ ?_
  refine AWP.if_ true (by kernel_rfl) ?_
  refine AWP.seq ?_
  refine AWP.text ?_
  refine Wy (.d (.lit (.int .u64 0))) [] (Omv rfl) ?_
  refine Wy (.i 0) [] (Omv rfl) ?_
  refine Wy (.i 2) [] (Omv rfl) ?_
  refine Walk.nil ?_
  refine Then.normal ?_
  refine AWP.ret ?_
  refine Then.ret ?_
  obtain rfl := Option.some.inj hm
  exact ret_i []
 ·
  replace hm := cF hq11_0 hm
  refine Wy (.b false) [] (Ocs (lit_tf (b := decide (p1 < 0)) hq11_0) (Omv rfl)) ?_
  refine Wy (.i p1) [] (Omv rfl) ?_
  refine Wy (.s p0) [] (Omv rfl) ?_
  refine Wy (.i ((List.length p0 : Nat) : Int)) [] (Oln rfl) ?_
  refine Wy (.b (decide (((List.length p0 : Nat) : Int) < p1))) [] (Obn rfl (fun _ => hb_gtr (k := .i64))) ?_
  refine Wy (.b (decide (((List.length p0 : Nat) : Int) < p1))) [] (OpF rfl) ?_
  refine Walk.nil ?_
  refine Then.normal ?_
  refine Amk 65555 0 ⟨((.s p0) :: ((.i p1) :: (tp 2 ((.d (.lit (.int .u64 0))) :: (tp 11 ((.b (decide (((List.length p0 : Nat) : Int) < p1))) :: (tp 42 []))))))), [], 0⟩ ?_
  rcases tf_ (decide (((List.length p0 : Nat) : Int) < p1)) with hc16_9 | hc16_9
  ·
   replace hm := cT hc16_9 hm
   refine AWP.if_ true (Eq.trans (by kernel_rfl) (lit_tf (b := decide (((List.length p0 : Nat) : Int) < p1)) hc16_9)) ?_
   refine AWP.seq ?_
   refine AWP.text ?_
   refine Wy (.d (.lit (.int .u64 0))) [] (Omv rfl) ?_
   refine Wy (.i 0) [] (Omv rfl) ?_
   refine Wy (.i 2) [] (Omv rfl) ?_
   refine Walk.nil ?_
   refine Then.normal ?_
   refine AWP.ret ?_
   refine Then.ret ?_
   obtain rfl := Option.some.inj hm
   exact ret_i []
  ·
   replace hm := cF hc16_9 hm
   refine AWP.if_ false (Eq.trans (by kernel_rfl) (lit_tf (b := decide (((List.length p0 : Nat) : Int) < p1)) hc16_9)) ?_
   refine AWP.skip ?_
   refine Then.normal ?_
   refine Amk 19 0 ⟨((.s p0) :: ((.i p1) :: (tp 2 ((.d (.lit (.int .u64 0))) :: (tp 54 []))))), [], 0⟩ ?_
   refine AWP.seq ?_
   refine AWP.seq ?_
   refine AWP.text ?_
   refine Wy (.i 0) [] (Omv rfl) ?_
   refine Walk.nil ?_
   refine Then.normal ?_
   refine Amk 131091 0 ⟨((.s p0) :: ((.i p1) :: (tp 2 ((.d (.lit (.int .u64 0))) :: (tp 12 ((.i 0) :: (tp 41 []))))))), [], 0⟩ ?_
   refine AWP.block ?_
   refine AWP.loopI (α := Nat × Int × Int)
     (fun x => match x with | (fu_1, y4_1, y17_1) => (⟨((.s p0) :: ((.i p1) :: (tp 2 ((.d (.lit (.int .u64 y4_1))) :: (tp 12 ((.i y17_1) :: (tp 41 []))))))), [], 0⟩ : St))
     (fun x => match x with | (fu_1, y4_1, y17_1) => m_zig_Take_l1 p0 p1 fu_1 y4_1 y17_1 = some r)
     (fun x => match x with | (fu_1, y4_1, y17_1) => fu_1) (1152921504606846976, 0, 0)
     (Weak.toK 131091 0 0 []) hm ?_
   rintro ⟨fu_1, y4_1, y17_1⟩ n_1 hm ih_1
   try dsimp only at hm ih_1 ⊢
   cases fu_1 with
   | zero => exact absurd hm (by unfold m_zig_Take_l1; simp)
   | succ fu_1 =>
    unfold m_zig_Take_l1 at hm
    refine AWP.seq ?_
    refine AWP.text ?_
    refine Wy (.b (decide (y17_1 < 10))) [] (Obn rfl (fun _ => hb_lss (k := .i64))) ?_
    refine Walk.nil ?_
    refine Then.normal ?_
    refine Amk 393235 0 ⟨((.s p0) :: ((.i p1) :: (tp 2 ((.d (.lit (.int .u64 y4_1))) :: (tp 12 ((.i y17_1) :: ((.b (decide (y17_1 < 10))) :: (tp 40 [])))))))), [], 0⟩ ?_
    refine AWP.seq ?_
    rcases tf_ (decide (y17_1 < 10)) with hc18_10 | hc18_10
    ·
     replace hm := cT hc18_10 hm
     refine AWP.if_ true (Eq.trans (by kernel_rfl) (lit_tf (b := decide (y17_1 < 10)) hc18_10)) ?_
     refine AWP.skip ?_
     refine Then.normal ?_
     refine Amk 131091 0 ⟨((.s p0) :: ((.i p1) :: (tp 2 ((.d (.lit (.int .u64 y4_1))) :: (tp 12 ((.i y17_1) :: (tp 41 []))))))), [], 0⟩ ?_
     refine AWP.seq ?_
     refine AWP.block ?_
     refine AWP.seq ?_
     refine AWP.text ?_
     refine Wy (.i y17_1) [] (Omv rfl) ?_
     refine Wy (.i y17_1) [] (Omv rfl) ?_
     refine Walk.nil ?_
     refine Then.normal ?_
     refine Amk 131219 0 ⟨((.s p0) :: ((.i p1) :: (tp 2 ((.d (.lit (.int .u64 y4_1))) :: (tp 2 ((.i y17_1) :: (tp 9 ((.i y17_1) :: (tp 41 []))))))))), [], 0⟩ ?_
     refine AWP.seq ?_
     refine AWP.seq ?_
     refine AWP.text ?_
     refine Wy (.i p1) [] (Omv rfl) ?_
     refine Wy (.i y17_1) [] (Omv rfl) ?_
     refine Wy (.i (IntKind.i64.wrap (p1 + y17_1))) [] (Obn rfl (fun _ => hb_add (k := .i64))) ?_
     refine Wy (.s p0) [] (Omv rfl) ?_
     refine Wy (.i ((List.length p0 : Nat) : Int)) [] (Oln rfl) ?_
     refine Wy (.b (decide (((List.length p0 : Nat) : Int) ≤ (IntKind.i64.wrap (p1 + y17_1))))) [] (Obn rfl (fun _ => hb_geq (k := .i64))) ?_
     refine Walk.nil ?_
     refine Then.normal ?_
     refine Amk 33685651 0 ⟨((.s p0) :: ((.i p1) :: (tp 2 ((.d (.lit (.int .u64 y4_1))) :: (tp 2 ((.i y17_1) :: (tp 9 ((.i y17_1) :: (tp 7 ((.b (decide (((List.length p0 : Nat) : Int) ≤ (IntKind.i64.wrap (p1 + y17_1))))) :: (tp 33 []))))))))))), [], 0⟩ ?_
     rcases tf_ (decide (((List.length p0 : Nat) : Int) ≤ (IntKind.i64.wrap (p1 + y17_1)))) with hc25_11 | hc25_11
     ·
      replace hm := cT hc25_11 hm
      refine AWP.if_ true (Eq.trans (by kernel_rfl) (lit_tf (b := decide (((List.length p0 : Nat) : Int) ≤ (IntKind.i64.wrap (p1 + y17_1)))) hc25_11)) ?_
      refine AWP.seq ?_
      refine AWP.text ?_
      refine Wy (.d (.lit (.int .u64 0))) [] (Omv rfl) ?_
      refine Wy (.i 0) [] (Omv rfl) ?_
      refine Wy (.i 3) [] (Omv rfl) ?_
      refine Walk.nil ?_
      refine Then.normal ?_
      refine AWP.ret ?_
      refine Then.ret ?_
      refine InBlock.ret ?_
      refine Then.ret ?_
      refine RoundK.ret ?_
      refine InBlock.ret ?_
      refine Then.ret ?_
      obtain rfl := Option.some.inj hm
      exact ret_i []
     ·
      replace hm := cF hc25_11 hm
      refine AWP.if_ false (Eq.trans (by kernel_rfl) (lit_tf (b := decide (((List.length p0 : Nat) : Int) ≤ (IntKind.i64.wrap (p1 + y17_1)))) hc25_11)) ?_
      refine AWP.skip ?_
      refine Then.normal ?_
      refine Amk 131219 0 ⟨((.s p0) :: ((.i p1) :: (tp 2 ((.d (.lit (.int .u64 y4_1))) :: (tp 2 ((.i y17_1) :: (tp 9 ((.i y17_1) :: (tp 41 []))))))))), [], 0⟩ ?_
      refine AWP.seq ?_
      refine AWP.text ?_
      refine Wy (.s p0) [] (Omv rfl) ?_
      refine Wy (.i p1) [] (Omv rfl) ?_
      refine Wy (.i y17_1) [] (Omv rfl) ?_
      refine Wy (.i (IntKind.i64.wrap (p1 + y17_1))) [] (Obn rfl (fun _ => hb_add (k := .i64))) ?_
      obtain ⟨x30_3, hx30_3, hm⟩ := bnd hm
      obtain ⟨hx30_3i, hx30_3g⟩ := geti_some hx30_3
      refine Wy (.y x30_3) [] (Ocs (by kernel_rfl) (op_index_str rfl (by kernel_rfl) (s := toS p0) (by kernel_rfl) (k := .i64) (iv := (IntKind.i64.wrap (p1 + y17_1))) (by kernel_rfl) (i := (Int.toNat (IntKind.i64.wrap (p1 + y17_1)))) (hx30_3i) (b := x30_3) (hx30_3g))) ?_
      refine Wy (.y x30_3) [] (Omv rfl) ?_
      refine Walk.nil ?_
      refine Then.normal ?_
      refine Amk 131475 0 ⟨((.s p0) :: ((.i p1) :: (tp 2 ((.d (.lit (.int .u64 y4_1))) :: (tp 2 ((.i y17_1) :: ((.y x30_3) :: (tp 8 ((.i y17_1) :: (tp 41 [])))))))))), [], 0⟩ ?_
      refine AWP.cutJ (α := Unit) (fun x => match x with | () => (⟨((.s p0) :: ((.i p1) :: (tp 2 ((.d (.lit (.int .u64 y4_1))) :: (tp 2 ((.i y17_1) :: ((.y x30_3) :: (tp 8 ((.i y17_1) :: (tp 41 [])))))))))), [], 0⟩ : St)) (fun x => match x with | () => m_zig_Take_j6 p1 x30_3 y17_1 y4_1 (fun y4_1 y17_1 => m_zig_Take_l1 p0 p1 fu_1 y4_1 y17_1) = some r) ?_ (fun J6 => ?_)
      ·
       rintro ⟨⟩ hm
       try dsimp only at hm ⊢
       unfold m_zig_Take_j6 at hm
       refine AWP.cutJ (α := Unit) (fun x => match x with | () => (⟨((.s p0) :: ((.i p1) :: (tp 2 ((.d (.lit (.int .u64 y4_1))) :: (tp 2 ((.i y17_1) :: ((.y x30_3) :: (tp 8 ((.i y17_1) :: (tp 41 [])))))))))), [], 0⟩ : St)) (fun x => match x with | () => m_zig_Take_j8 p1 x30_3 y17_1 y4_1 (fun y4_1 y17_1 => m_zig_Take_l1 p0 p1 fu_1 y4_1 y17_1) = some r) ?_ (fun J8 => ?_)
       ·
        rintro ⟨⟩ hm
        try dsimp only at hm ⊢
        unfold m_zig_Take_j8 at hm
        refine AWP.seq ?_
        refine AWP.text ?_
        refine Wy (.d (.lit (.int .u64 y4_1))) [] (Omv rfl) ?_
        refine Wy (.y x30_3) [] (Omv rfl) ?_
        refine Wy (.y (toU8 (((BitVec.ofInt 8 ((x30_3.toNat : Nat) : Int) &&& ~~~ BitVec.ofInt 8 128).toNat : Int)))) [] (Ocs (lit_int (u8w _)) (op_bin rfl (a1 := .int .u8 ((x30_3.toNat : Nat) : Int)) (a2 := .int .u8 128) (by kernel_rfl) (by kernel_rfl) (fun _ => hb_andNot))) ?_
        obtain ⟨v46_4, hv46_4, hm⟩ := bnd hm; replace hv46_4 := Option.some.inj hv46_4
        refine Wy (.d (.lit (.int .u64 v46_4))) [] (Ocs (Eq.trans (lit_int (wrap_of_u8 (by decide) _)) (congrArg (fun z => A.d (.lit (.int .u64 z))) hv46_4)) (op_convert rfl (a1 := .int .u8 (((toU8 (((BitVec.ofInt 8 ((x30_3.toNat : Nat) : Int) &&& ~~~ BitVec.ofInt 8 128).toNat : Int))).toNat : Nat) : Int)) (by kernel_rfl) (run_conv (ds := .int .u8) (k' := .u64) (by kernel_rfl) (by kernel_rfl)))) ?_
        refine Wy (.i y17_1) [] (Omv rfl) ?_
        refine Wy (.i (IntKind.i64.wrap (7 * y17_1))) [] (Obn rfl (fun _ => hb_mul (k := .i64))) ?_
        obtain ⟨hs49_4, hm⟩ := chk_some hm
        refine Wy (.d (.lit (.int .u64 (IntKind.u64.wrap (v46_4 * 2 ^ (Int.toNat (IntKind.i64.wrap (7 * y17_1)))))))) [] (Ocs (by kernel_rfl) (op_bin rfl (a1 := .int .u64 v46_4) (a2 := .int .i64 (IntKind.i64.wrap (7 * y17_1))) (by kernel_rfl) (by kernel_rfl) (fun _ => hb_shl (n := (Int.toNat (IntKind.i64.wrap (7 * y17_1)))) (sh_le hs49_4.2) (sh_eq hs49_4.1)))) ?_
        obtain ⟨v50_4, hv50_4, hm⟩ := bnd hm; replace hv50_4 := Option.some.inj hv50_4
        refine Wy (.d (.lit (.int .u64 v50_4))) [] (Ocs (Eq.trans (by kernel_rfl) (congrArg (fun z => A.d (.lit (.int .u64 z))) hv50_4)) (op_bin rfl (a1 := .int .u64 y4_1) (a2 := .int .u64 (IntKind.u64.wrap (v46_4 * 2 ^ (Int.toNat (IntKind.i64.wrap (7 * y17_1)))))) (by kernel_rfl) (by kernel_rfl) (fun _ => hb_or))) ?_
        refine Wy (.d (.lit (.int .u64 v50_4))) [] (Omv rfl) ?_
        refine Walk.nil ?_
        refine Then.normal ?_
        refine Amk 131475 0 ⟨((.s p0) :: ((.i p1) :: (tp 2 ((.d (.lit (.int .u64 v50_4))) :: (tp 2 ((.i y17_1) :: ((.y x30_3) :: (tp 8 ((.i y17_1) :: (tp 41 [])))))))))), [], 0⟩ ?_
        refine AWP.seq ?_
        refine AWP.text ?_
        refine Wy (.y x30_3) [] (Omv rfl) ?_
        refine Wy (.b (decide (((x30_3.toNat : Nat) : Int) < 128))) [] (Ocs (by kernel_rfl) (op_bin rfl (a1 := .int .u8 ((x30_3.toNat : Nat) : Int)) (a2 := .int .u8 128) (by kernel_rfl) (by kernel_rfl) (fun _ => hb_lss))) ?_
        refine Walk.nil ?_
        refine Then.normal ?_
        refine Amk 4503599627501715 0 ⟨((.s p0) :: ((.i p1) :: (tp 2 ((.d (.lit (.int .u64 v50_4))) :: (tp 2 ((.i y17_1) :: (tp 9 ((.i y17_1) :: (tp 34 ((.b (decide (((x30_3.toNat : Nat) : Int) < 128))) :: (tp 6 []))))))))))), [], 0⟩ ?_
        rcases tf_ (decide (((x30_3.toNat : Nat) : Int) < 128)) with hc52_12 | hc52_12
        ·
         replace hm := cT hc52_12 hm
         refine AWP.if_ true (Eq.trans (by kernel_rfl) (lit_tf (b := decide (((x30_3.toNat : Nat) : Int) < 128)) hc52_12)) ?_
         refine AWP.seq ?_
         refine AWP.text ?_
         refine Wy (.d (.lit (.int .u64 v50_4))) [] (Omv rfl) ?_
         refine Wy (.i p1) [] (Omv rfl) ?_
         refine Wy (.i y17_1) [] (Omv rfl) ?_
         refine Wy (.i (IntKind.i64.wrap (p1 + y17_1))) [] (Obn rfl (fun _ => hb_add (k := .i64))) ?_
         refine Wy (.i (IntKind.i64.wrap ((IntKind.i64.wrap (p1 + y17_1)) + 1))) [] (Obn rfl (fun _ => hb_add (k := .i64))) ?_
         refine Wy (.d (.lit (.int .u64 v50_4))) [] (Omv rfl) ?_
         refine Wy (.i (IntKind.i64.wrap ((IntKind.i64.wrap (p1 + y17_1)) + 1))) [] (Omv rfl) ?_
         refine Wy (.i 0) [] (Omv rfl) ?_
         refine Walk.nil ?_
         refine Then.normal ?_
         refine AWP.ret ?_
         refine InBlock.ret ?_
         refine Then.ret ?_
         refine RoundK.ret ?_
         refine InBlock.ret ?_
         refine Then.ret ?_
         obtain rfl := Option.some.inj hm
         exact ret_i []
        ·
         replace hm := cF hc52_12 hm
         refine AWP.if_ false (Eq.trans (by kernel_rfl) (lit_tf (b := decide (((x30_3.toNat : Nat) : Int) < 128)) hc52_12)) ?_
         refine AWP.skip ?_
         refine InBlock.normal ?_
         refine Then.normal ?_
         refine Amk 131091 0 ⟨((.s p0) :: ((.i p1) :: (tp 2 ((.d (.lit (.int .u64 v50_4))) :: (tp 12 ((.i y17_1) :: (tp 41 []))))))), [], 0⟩ ?_
         refine AWP.text ?_
         refine Wy (.i (IntKind.i64.wrap (y17_1 + 1))) [] (Obn rfl (fun _ => hb_add (k := .i64))) ?_
         refine Wy (.i (IntKind.i64.wrap (y17_1 + 1))) [] (Omv rfl) ?_
         refine Walk.nil ?_
         refine RoundK.normal ?_
         exact Rounds.weak (Weak.toK 131091 0 0 []) (ih_1 (fu_1, v50_4, (IntKind.i64.wrap (y17_1 + 1))) hm (Nat.lt_succ_self _))
       refine AWP.seq ?_
       refine AWP.seq ?_
       refine AWP.text ?_
       refine Wy (.i y17_1) [] (Omv rfl) ?_
       refine Wy (.b (decide ((0 : Int) < y17_1))) [] (Obn rfl (fun _ => hb_gtr (k := .i64))) ?_
       rcases tf_ (decide ((0 : Int) < y17_1)) with hq39_7 | hq39_7
       ·
        replace hm := cT hq39_7 hm
        refine Wy (.b true) [] (Ocs (lit_tf (b := decide ((0 : Int) < y17_1)) hq39_7) (Omv rfl)) ?_
        refine Wy (.y x30_3) [] (Omv rfl) ?_
        refine Wy (.b (decide (((x30_3.toNat : Nat) : Int) = 0))) [] (Ocs (by kernel_rfl) (op_bin rfl (a1 := .int .u8 ((x30_3.toNat : Nat) : Int)) (a2 := .int .u8 0) (by kernel_rfl) (by kernel_rfl) (fun _ => hb_eql))) ?_
        refine Wy (.b (decide (((x30_3.toNat : Nat) : Int) = 0))) [] (OpT rfl) ?_
        refine Walk.nil ?_
        refine Then.normal ?_
        refine Amk 4398046642579 0 ⟨((.s p0) :: ((.i p1) :: (tp 2 ((.d (.lit (.int .u64 y4_1))) :: (tp 2 ((.i y17_1) :: ((.y x30_3) :: (tp 8 ((.i y17_1) :: (tp 24 ((.b (decide (((x30_3.toNat : Nat) : Int) = 0))) :: (tp 16 [])))))))))))), [], 0⟩ ?_
        rcases tf_ (decide (((x30_3.toNat : Nat) : Int) = 0)) with hc42_13 | hc42_13
        ·
         replace hm := cT hc42_13 hm
         refine AWP.if_ true (Eq.trans (by kernel_rfl) (lit_tf (b := decide (((x30_3.toNat : Nat) : Int) = 0)) hc42_13)) ?_
         refine AWP.seq ?_
         refine AWP.text ?_
         refine Wy (.d (.lit (.int .u64 0))) [] (Omv rfl) ?_
         refine Wy (.i 0) [] (Omv rfl) ?_
         refine Wy (.i 4) [] (Omv rfl) ?_
         refine Walk.nil ?_
         refine Then.normal ?_
         refine AWP.ret ?_
         refine Then.ret ?_
         refine InBlock.ret ?_
         refine Then.ret ?_
         refine RoundK.ret ?_
         refine InBlock.ret ?_
         refine Then.ret ?_
         obtain rfl := Option.some.inj hm
         exact ret_i []
        ·
         replace hm := cF hc42_13 hm
         refine AWP.if_ false (Eq.trans (by kernel_rfl) (lit_tf (b := decide (((x30_3.toNat : Nat) : Int) = 0)) hc42_13)) ?_
         refine AWP.skip ?_
         refine Then.normal ?_
         exact AWP.weak (Weak.toK 131475 0 0 []) (J8 () hm)
       ·
        replace hm := cF hq39_7 hm
        refine Wy (.b false) [] (Ocs (lit_tf (b := decide ((0 : Int) < y17_1)) hq39_7) (Omv rfl)) ?_
        refine Wn ?_
        refine Wn ?_
        refine Wy (.b false) [] (OpF rfl) ?_
        refine Walk.nil ?_
        refine Then.normal ?_
        refine Amk 4398046642579 0 ⟨((.s p0) :: ((.i p1) :: (tp 2 ((.d (.lit (.int .u64 y4_1))) :: (tp 2 ((.i y17_1) :: ((.y x30_3) :: (tp 8 ((.i y17_1) :: (tp 24 ((.b false) :: (tp 16 [])))))))))))), [], 0⟩ ?_
        refine AWP.if_ false (by kernel_rfl) ?_
        refine AWP.skip ?_
        refine Then.normal ?_
        exact AWP.weak (Weak.toK 131475 0 0 []) (J8 () hm)
      refine AWP.seq ?_
      refine AWP.seq ?_
      refine AWP.text ?_
      refine Wy (.i y17_1) [] (Omv rfl) ?_
      refine Wy (.b (decide (y17_1 = 9))) [] (Obn rfl (fun _ => hb_eql (k := .i64))) ?_
      rcases tf_ (decide (y17_1 = 9)) with hq33_5 | hq33_5
      ·
       replace hm := cT hq33_5 hm
       refine Wy (.b true) [] (Ocs (lit_tf (b := decide (y17_1 = 9)) hq33_5) (Omv rfl)) ?_
       refine Wy (.y x30_3) [] (Omv rfl) ?_
       refine Wy (.b (decide ((1 : Int) < ((x30_3.toNat : Nat) : Int)))) [] (Ocs (by kernel_rfl) (op_bin rfl (a1 := .int .u8 ((x30_3.toNat : Nat) : Int)) (a2 := .int .u8 1) (by kernel_rfl) (by kernel_rfl) (fun _ => hb_gtr))) ?_
       refine Wy (.b (decide ((1 : Int) < ((x30_3.toNat : Nat) : Int)))) [] (OpT rfl) ?_
       refine Walk.nil ?_
       refine Then.normal ?_
       refine Amk 68719608211 0 ⟨((.s p0) :: ((.i p1) :: (tp 2 ((.d (.lit (.int .u64 y4_1))) :: (tp 2 ((.i y17_1) :: ((.y x30_3) :: (tp 8 ((.i y17_1) :: (tp 18 ((.b (decide ((1 : Int) < ((x30_3.toNat : Nat) : Int)))) :: (tp 22 [])))))))))))), [], 0⟩ ?_
       rcases tf_ (decide ((1 : Int) < ((x30_3.toNat : Nat) : Int))) with hc36_14 | hc36_14
       ·
        replace hm := cT hc36_14 hm
        refine AWP.if_ true (Eq.trans (by kernel_rfl) (lit_tf (b := decide ((1 : Int) < ((x30_3.toNat : Nat) : Int))) hc36_14)) ?_
        refine AWP.seq ?_
        refine AWP.text ?_
        refine Wy (.d (.lit (.int .u64 0))) [] (Omv rfl) ?_
        refine Wy (.i 0) [] (Omv rfl) ?_
        refine Wy (.i 8) [] (Omv rfl) ?_
        refine Walk.nil ?_
        refine Then.normal ?_
        refine AWP.ret ?_
        refine Then.ret ?_
        refine InBlock.ret ?_
        refine Then.ret ?_
        refine RoundK.ret ?_
        refine InBlock.ret ?_
        refine Then.ret ?_
        obtain rfl := Option.some.inj hm
        exact ret_i []
       ·
        replace hm := cF hc36_14 hm
        refine AWP.if_ false (Eq.trans (by kernel_rfl) (lit_tf (b := decide ((1 : Int) < ((x30_3.toNat : Nat) : Int))) hc36_14)) ?_
        refine AWP.skip ?_
        refine Then.normal ?_
        exact AWP.weak (Weak.toK 131475 0 0 []) (J6 () hm)
      ·
       replace hm := cF hq33_5 hm
       refine Wy (.b false) [] (Ocs (lit_tf (b := decide (y17_1 = 9)) hq33_5) (Omv rfl)) ?_
       refine Wn ?_
       refine Wn ?_
       refine Wy (.b false) [] (OpF rfl) ?_
       refine Walk.nil ?_
       refine Then.normal ?_
       refine Amk 68719608211 0 ⟨((.s p0) :: ((.i p1) :: (tp 2 ((.d (.lit (.int .u64 y4_1))) :: (tp 2 ((.i y17_1) :: ((.y x30_3) :: (tp 8 ((.i y17_1) :: (tp 18 ((.b false) :: (tp 22 [])))))))))))), [], 0⟩ ?_
       refine AWP.if_ false (by kernel_rfl) ?_
       refine AWP.skip ?_
       refine Then.normal ?_
       exact AWP.weak (Weak.toK 131475 0 0 []) (J6 () hm)
    ·
     replace hm := cF hc18_10 hm
     refine AWP.if_ false (Eq.trans (by kernel_rfl) (lit_tf (b := decide (y17_1 < 10)) hc18_10)) ?_
     refine AWP.exit ?_
     refine Then.exit ?_
     refine RoundK.exit ?_
     refine InBlock.same ?_
     refine Then.normal ?_
     refine Amk 0 0 ⟨(tp 59 []), [], 0⟩ ?_
     refine AWP.seq ?_
     refine AWP.text ?_
     refine Wy (.d (.lit (.int .u64 0))) [] (Omv rfl) ?_
     refine Wy (.i 0) [] (Omv rfl) ?_
     refine Wy (.i 8) [] (Omv rfl) ?_
     refine Walk.nil ?_
     refine Then.normal ?_
     refine AWP.ret ?_
     obtain rfl := Option.some.inj hm
     exact ret_i []

set_option maxRecDepth 20000 in
set_option maxHeartbeats 4000000 in
theorem ok_zig_Back (p0 : Int) (r : Int) (h : m_zig_Back p0 = some r) : GCall Try.prog 52 [(.d (.lit (.int .u64 p0)))] [] (.i r) [] := by
 refine GCall.of_body (n := 11) (rs := [(.tmp 2)]) Try.func52 rfl rfl rfl ?_
 refine Ato ⟨((.d (.lit (.int .u64 p0))) :: (tu 10 [])), [], 0⟩ ?_
 have hm := h
 unfold m_zig_Back at hm
 refine AWP.seq ?_
 refine AWP.text ?_
 refine Wy (.i 0) [] (Omv rfl) ?_
 refine Walk.nil ?_
 refine Then.normal ?_
 refine Amk 1 0 ⟨((.d (.lit (.int .u64 p0))) :: (tp 10 [])), [], 0⟩ ?_
 refine AWP.seq ?_
 refine AWP.text ?_
 refine Wy (.d (.lit (.int .u64 p0))) [] (Omv rfl) ?_
 refine Wy (.d (.lit (.int .u64 (Int.fdiv p0 (2 ^ 1))))) [] (Ocs (by kernel_rfl) (op_bin rfl (a1 := .int .u64 p0) (a2 := .int .u64 1) (by kernel_rfl) (by kernel_rfl) (fun _ => hb_shr (n := 1) (by decide) rfl))) ?_
 refine Wy (.i (IntKind.i64.wrap (Int.fdiv p0 (2 ^ 1)))) [] (Ocs (by kernel_rfl) (op_convert rfl (a1 := .int .u64 (Int.fdiv p0 (2 ^ 1))) (by kernel_rfl) (run_conv (ds := .int .u64) (k' := .i64) (by kernel_rfl) (by kernel_rfl)))) ?_
 refine Wy (.d (.lit (.int .u64 p0))) [] (Omv rfl) ?_
 refine Wy (.d (.lit (.int .u64 (IntKind.u64.wrap (((BitVec.ofInt 64 p0 &&& BitVec.ofInt 64 1).toNat : Int)))))) [] (Ocs (by kernel_rfl) (op_bin rfl (a1 := .int .u64 p0) (a2 := .int .u64 1) (by kernel_rfl) (by kernel_rfl) (fun _ => hb_and))) ?_
 refine Wy (.i (IntKind.i64.wrap (IntKind.u64.wrap (((BitVec.ofInt 64 p0 &&& BitVec.ofInt 64 1).toNat : Int))))) [] (Ocs (by kernel_rfl) (op_convert rfl (a1 := .int .u64 (IntKind.u64.wrap (((BitVec.ofInt 64 p0 &&& BitVec.ofInt 64 1).toNat : Int)))) (by kernel_rfl) (run_conv (ds := .int .u64) (k' := .i64) (by kernel_rfl) (by kernel_rfl)))) ?_
 obtain ⟨v9_0, hv9_0, hm⟩ := bnd hm; replace hv9_0 := Option.some.inj hv9_0
 refine Wy (.i v9_0) [] (Ocs (Eq.trans (by kernel_rfl) (congrArg (fun z => A.d (.lit (.int .i64 z))) hv9_0)) (op_un rfl (a1 := .int .i64 (IntKind.i64.wrap (IntKind.u64.wrap (((BitVec.ofInt 64 p0 &&& BitVec.ofInt 64 1).toNat : Int))))) (by kernel_rfl) (fun _ => hu_neg))) ?_
 obtain ⟨v10_0, hv10_0, hm⟩ := bnd hm; replace hv10_0 := Option.some.inj hv10_0
 refine Wy (.i v10_0) [] (Ocs (Eq.trans (by kernel_rfl) (congrArg (fun z => A.d (.lit (.int .i64 z))) hv10_0)) (op_bin rfl (a1 := .int .i64 (IntKind.i64.wrap (Int.fdiv p0 (2 ^ 1)))) (a2 := .int .i64 v9_0) (by kernel_rfl) (by kernel_rfl) (fun _ => hb_xor))) ?_
 refine Wy (.i v10_0) [] (Omv rfl) ?_
 refine Walk.nil ?_
 refine Then.normal ?_
 refine AWP.ret ?_
 obtain rfl := Option.some.inj hm
 exact ret_i []

set_option maxRecDepth 20000 in
set_option maxHeartbeats 4000000 in
theorem ok_zig_TakeInt (p0 : (List UInt8)) (p1 : Int) (r : (Int × Int × Int)) (h : m_zig_TakeInt p0 p1 = some r) : GCall Try.prog 45 [(.s p0), (.i p1)] [] (.tup [(.i r.1), (.i r.2.1), (.i r.2.2)]) [] := by
 refine GCall.of_body (n := 19) (rs := [(.tmp 4), (.tmp 5), (.tmp 6)]) Try.func45 rfl rfl rfl ?_
 refine Ato ⟨((.s p0) :: ((.i p1) :: (tu 17 []))), [], 0⟩ ?_
 have hm := h
 unfold m_zig_TakeInt at hm
 refine AWP.seq ?_
 refine AWP.text ?_
 refine Wy (.i 0) [] (Omv rfl) ?_
 refine Wy (.i 0) [] (Omv rfl) ?_
 refine Wy (.i 0) [] (Omv rfl) ?_
 refine Walk.nil ?_
 refine Then.normal ?_
 refine Amk 3 0 ⟨((.s p0) :: ((.i p1) :: (tp 17 []))), [], 0⟩ ?_
 refine AWP.seq ?_
 refine AWP.text ?_
 refine Wy (.s p0) [] (Omv rfl) ?_
 refine Wy (.i p1) [] (Omv rfl) ?_
 obtain ⟨r11_0, hr11_0, hm⟩ := bnd hm
 refine Wy (.tup [(.d (.lit (.int .u64 r11_0.1))), (.i r11_0.2.1), (.i r11_0.2.2)]) [] (Ocf [] [] [] 0 (ok_zig_Take p0 p1 r11_0 hr11_0) (fun a w => Try.call32 a w) rfl trivial) ?_
 refine Wy (.tup [(.d (.lit (.int .u64 r11_0.1))), (.i r11_0.2.1), (.i r11_0.2.2)]) [] (Omv rfl) ?_
 refine Wy (.d (.lit (.int .u64 r11_0.1))) [] (Oex rfl) ?_
 refine Wy (.i r11_0.2.1) [] (Oex rfl) ?_
 refine Wy (.i r11_0.2.2) [] (Oex rfl) ?_
 refine Wy (.d (.lit (.int .u64 r11_0.1))) [] (Omv rfl) ?_
 refine Wy (.i r11_0.2.1) [] (Omv rfl) ?_
 refine Wy (.i r11_0.2.2) [] (Omv rfl) ?_
 refine Walk.nil ?_
 refine Then.normal ?_
 refine Amk 224 0 ⟨(tp 5 ((.i r11_0.2.1) :: ((.i r11_0.2.2) :: ((.d (.lit (.int .u64 r11_0.1))) :: (tp 11 []))))), [], 0⟩ ?_
 refine AWP.seq ?_
 refine AWP.text ?_
 refine Wy (.d (.lit (.int .u64 r11_0.1))) [] (Omv rfl) ?_
 obtain ⟨r16_1, hr16_1, hm⟩ := bnd hm
 refine Wy (.i r16_1) [] (Ocf [] [] [] 0 (ok_zig_Back r11_0.1 r16_1 hr16_1) (fun a w => Try.call52 a w) rfl trivial) ?_
 refine Wy (.i r11_0.2.1) [] (Omv rfl) ?_
 refine Wy (.i r11_0.2.2) [] (Omv rfl) ?_
 refine Wy (.i r16_1) [] (Omv rfl) ?_
 refine Wy (.i r11_0.2.1) [] (Omv rfl) ?_
 refine Wy (.i r11_0.2.2) [] (Omv rfl) ?_
 refine Walk.nil ?_
 refine Then.normal ?_
 refine AWP.ret ?_
 obtain rfl := Option.some.inj hm
 exact ret_i []

set_option maxRecDepth 20000 in
set_option maxHeartbeats 4000000 in
theorem ok_tally_change (p0 : (List UInt8)) (p1 : Int) (r : (GChange × Int × Int)) (h : m_tally_change p0 p1 = some r) : GCall Try.prog 33 [(.s p0), (.i p1)] [] (.tup [(.agg [(.i r.1.Loc), (.i r.1.Time), (.i r.1.N)]), (.i r.2.1), (.i r.2.2)]) [] := by
 refine GCall.of_body (n := 39) (rs := [(.cell 4 36), (.tmp 5), (.tmp 6)]) Try.func33 rfl rfl rfl ?_
 refine Ato ⟨((.s p0) :: ((.i p1) :: (tu 37 []))), [], 0⟩ ?_
 have hm := h
 unfold m_tally_change at hm
 refine AWP.seq ?_
 refine AWP.text ?_
 refine Wy (.loc 0 0) [(0, (.box [(.i 0), (.i 0), (.i 0)]))] (Oal rfl) ?_
 refine Wy (.i 0) [] (Omv rfl) ?_
 refine Wy (.i 0) [] (Omv rfl) ?_
 refine Walk.nil ?_
 refine Then.normal ?_
 refine Amk 19 1 ⟨((.s p0) :: ((.i p1) :: (tp 2 ((.loc 0 0) :: (tp 34 []))))), [(.box [(.i 0), (.i 0), (.i 0)])], 0⟩ ?_
 refine AWP.seq ?_
 refine AWP.text ?_
 refine Wy (.loc 1 0) [(1, (.box [(.i 0), (.i 0), (.i 0)]))] (Oal rfl) ?_
 refine Walk.nil ?_
 refine Then.normal ?_
 refine Amk 147 3 ⟨((.s p0) :: ((.i p1) :: (tp 2 ((.loc 0 0) :: (tp 2 ((.loc 1 0) :: (tp 31 []))))))), [(.box [(.i 0), (.i 0), (.i 0)]), (.box [(.i 0), (.i 0), (.i 0)])], 0⟩ ?_
 refine AWP.seq ?_
 refine AWP.seq ?_
 refine AWP.text ?_
 refine Wy (.i 0) [] (Omv rfl) ?_
 refine Walk.nil ?_
 refine Then.normal ?_
 refine Amk 4243 3 ⟨((.s p0) :: ((.i p1) :: (tp 2 ((.loc 0 0) :: (tp 2 ((.loc 1 0) :: (tp 4 ((.i 0) :: (tp 26 []))))))))), [(.box [(.i 0), (.i 0), (.i 0)]), (.box [(.i 0), (.i 0), (.i 0)])], 0⟩ ?_
 refine AWP.block ?_
 refine AWP.loopI (α := Nat × Int × GArr3_Int × Int)
   (fun x => match x with | (fu_0, y1_0, y7_d_0, y12_0) => (⟨((.s p0) :: ((.i y1_0) :: (tp 2 ((.loc 0 0) :: (tp 2 ((.loc 1 0) :: (tp 4 ((.i y12_0) :: (tp 26 []))))))))), [(.box [(.i 0), (.i 0), (.i 0)]), (.box [(.i y7_d_0.a0), (.i y7_d_0.a1), (.i y7_d_0.a2)])], 0⟩ : St))
   (fun x => match x with | (fu_0, y1_0, y7_d_0, y12_0) => m_tally_change_l0 p0 fu_0 y1_0 y7_d_0 y12_0 = some r)
   (fun x => match x with | (fu_0, y1_0, y7_d_0, y12_0) => fu_0) (1152921504606846976, p1, (GArr3_Int.mk 0 0 0), 0)
   (Weak.toK 4243 0 0 [0, 1]) hm ?_
 rintro ⟨fu_0, y1_0, y7_d_0, y12_0⟩ n_0 hm ih_0
 try dsimp only at hm ih_0 ⊢
 cases fu_0 with
 | zero => exact absurd hm (by unfold m_tally_change_l0; simp)
 | succ fu_0 =>
  unfold m_tally_change_l0 at hm
  refine AWP.seq ?_
  refine AWP.text ?_
  refine Wy (.b (decide (y12_0 < 3))) [] (Obn rfl (fun _ => hb_lss (k := .i64))) ?_
  refine Walk.nil ?_
  refine Then.normal ?_
  refine Amk 12435 3 ⟨((.s p0) :: ((.i y1_0) :: (tp 2 ((.loc 0 0) :: (tp 2 ((.loc 1 0) :: (tp 4 ((.i y12_0) :: ((.b (decide (y12_0 < 3))) :: (tp 25 [])))))))))), [(.box [(.i 0), (.i 0), (.i 0)]), (.box [(.i y7_d_0.a0), (.i y7_d_0.a1), (.i y7_d_0.a2)])], 0⟩ ?_
  refine AWP.seq ?_
  rcases tf_ (decide (y12_0 < 3)) with hc13_3 | hc13_3
  ·
   replace hm := cT hc13_3 hm
   refine AWP.if_ true (Eq.trans (by kernel_rfl) (lit_tf (b := decide (y12_0 < 3)) hc13_3)) ?_
   refine AWP.skip ?_
   refine Then.normal ?_
   refine Amk 4243 3 ⟨((.s p0) :: ((.i y1_0) :: (tp 2 ((.loc 0 0) :: (tp 2 ((.loc 1 0) :: (tp 4 ((.i y12_0) :: (tp 26 []))))))))), [(.box [(.i 0), (.i 0), (.i 0)]), (.box [(.i y7_d_0.a0), (.i y7_d_0.a1), (.i y7_d_0.a2)])], 0⟩ ?_
   refine AWP.seq ?_
   refine AWP.block ?_
   refine AWP.seq ?_
   refine AWP.text ?_
   refine Wy (.i y12_0) [] (Omv rfl) ?_
   refine Wy (.i y12_0) [] (Omv rfl) ?_
   refine Walk.nil ?_
   refine Then.normal ?_
   refine Amk 4499 3 ⟨((.s p0) :: ((.i y1_0) :: (tp 2 ((.loc 0 0) :: (tp 2 ((.loc 1 0) :: ((.i y12_0) :: (tp 3 ((.i y12_0) :: (tp 26 [])))))))))), [(.box [(.i 0), (.i 0), (.i 0)]), (.box [(.i y7_d_0.a0), (.i y7_d_0.a1), (.i y7_d_0.a2)])], 0⟩ ?_
   refine AWP.seq ?_
   refine AWP.text ?_
   refine Wy (.s p0) [] (Omv rfl) ?_
   refine Wy (.i y1_0) [] (Omv rfl) ?_
   obtain ⟨r18_1, hr18_1, hm⟩ := bnd hm
   refine Wy (.tup [(.i r18_1.1), (.i r18_1.2.1), (.i r18_1.2.2)]) [] (Ocf [] [] [] 0 (ok_zig_TakeInt p0 y1_0 r18_1 hr18_1) (fun a w => Try.call45 a w) rfl trivial) ?_
   refine Wy (.tup [(.i r18_1.1), (.i r18_1.2.1), (.i r18_1.2.2)]) [] (Omv rfl) ?_
   refine Wy (.i r18_1.1) [] (Oex rfl) ?_
   refine Wy (.i r18_1.2.1) [] (Oex rfl) ?_
   refine Wy (.i r18_1.2.2) [] (Oex rfl) ?_
   refine Wy (.i r18_1.1) [] (Omv rfl) ?_
   refine Wy (.i r18_1.2.1) [] (Omv rfl) ?_
   refine Wy (.i r18_1.2.2) [] (Omv rfl) ?_
   refine Walk.nil ?_
   refine Then.normal ?_
   refine Amk 8081 3 ⟨((.s p0) :: (tp 3 ((.loc 0 0) :: (tp 2 ((.loc 1 0) :: ((.i y12_0) :: ((.i r18_1.1) :: ((.i r18_1.2.1) :: ((.i r18_1.2.2) :: ((.i y12_0) :: (tp 26 []))))))))))), [(.box [(.i 0), (.i 0), (.i 0)]), (.box [(.i y7_d_0.a0), (.i y7_d_0.a1), (.i y7_d_0.a2)])], 0⟩ ?_
   refine AWP.seq ?_
   refine AWP.seq ?_
   refine AWP.text ?_
   refine Wy (.i r18_1.2.2) [] (Omv rfl) ?_
   refine Wy (.b (decide (r18_1.2.2 ≠ 0))) [] (Obn rfl (fun _ => hb_neq (k := .i64))) ?_
   refine Walk.nil ?_
   refine Then.normal ?_
   refine Amk 8396689 3 ⟨((.s p0) :: (tp 3 ((.loc 0 0) :: (tp 2 ((.loc 1 0) :: ((.i y12_0) :: ((.i r18_1.1) :: ((.i r18_1.2.1) :: ((.i r18_1.2.2) :: ((.i y12_0) :: (tp 10 ((.b (decide (r18_1.2.2 ≠ 0))) :: (tp 15 []))))))))))))), [(.box [(.i 0), (.i 0), (.i 0)]), (.box [(.i y7_d_0.a0), (.i y7_d_0.a1), (.i y7_d_0.a2)])], 0⟩ ?_
   rcases tf_ (decide (r18_1.2.2 ≠ 0)) with hc23_4 | hc23_4
   ·
    replace hm := cT hc23_4 hm
    refine AWP.if_ true (Eq.trans (by kernel_rfl) (lit_tf (b := decide (r18_1.2.2 ≠ 0)) hc23_4)) ?_
    refine AWP.seq ?_
    refine AWP.text ?_
    refine Wy (.agg [(.i 0), (.i 0), (.i 0)]) [] (Obd rfl) ?_
    refine Wy (.i r18_1.2.2) [] (Omv rfl) ?_
    refine Wy (.tup []) [(0, (.box [(.i 0), (.i 0), (.i 0)]))] (Ost rfl) ?_
    refine Wy (.i 0) [] (Omv rfl) ?_
    refine Wy (.i r18_1.2.2) [] (Omv rfl) ?_
    refine Walk.nil ?_
    refine Then.normal ?_
    refine AWP.ret ?_
    refine Then.ret ?_
    refine InBlock.ret ?_
    refine Then.ret ?_
    refine RoundK.ret ?_
    refine InBlock.ret ?_
    refine Then.ret ?_
    obtain rfl := Option.some.inj hm
    exact ret_i []
   ·
    replace hm := cF hc23_4 hm
    refine AWP.if_ false (Eq.trans (by kernel_rfl) (lit_tf (b := decide (r18_1.2.2 ≠ 0)) hc23_4)) ?_
    refine AWP.skip ?_
    refine Then.normal ?_
    refine Amk 6033 3 ⟨((.s p0) :: (tp 3 ((.loc 0 0) :: (tp 2 ((.loc 1 0) :: ((.i y12_0) :: ((.i r18_1.1) :: ((.i r18_1.2.1) :: (tp 1 ((.i y12_0) :: (tp 26 []))))))))))), [(.box [(.i 0), (.i 0), (.i 0)]), (.box [(.i y7_d_0.a0), (.i y7_d_0.a1), (.i y7_d_0.a2)])], 0⟩ ?_
    refine AWP.text ?_
    refine Wy (.i y12_0) [] (Omv rfl) ?_
    refine Wy (.i r18_1.1) [] (Omv rfl) ?_
    refine Wy (.i r18_1.2.1) [] (Omv rfl) ?_
    rcases tf_ (decide (y12_0 = 0)) with hq29_2_0 | hq29_2_0
    ·
     replace hm := cT hq29_2_0 hm
     refine Wy (.loc 1 0) [] (Ocs (by kernel_rfl) (op_iaddr_arr rfl (n := 3) (sz := 1) (y := (.loc 1 0)) (by kernel_rfl) (by kernel_rfl) (by kernel_rfl) (k := .i64) (iv := y12_0) (by kernel_rfl) (i := 0) (of_decide_eq_true hq29_2_0) (by decide))) ?_
     refine Wy (.tup []) [(1, (.box [(.i r18_1.1), (.i y7_d_0.a1), (.i y7_d_0.a2)]))] (Ost rfl) ?_
     refine Wy (.i r18_1.2.1) [] (Omv rfl) ?_
     refine Walk.nil ?_
     refine InBlock.normal ?_
     refine Then.normal ?_
     refine Amk 4243 3 ⟨((.s p0) :: ((.i r18_1.2.1) :: (tp 2 ((.loc 0 0) :: (tp 2 ((.loc 1 0) :: (tp 4 ((.i y12_0) :: (tp 26 []))))))))), [(.box [(.i 0), (.i 0), (.i 0)]), (.box [(.i r18_1.1), (.i y7_d_0.a1), (.i y7_d_0.a2)])], 0⟩ ?_
     refine AWP.text ?_
     refine Wy (.i (IntKind.i64.wrap (y12_0 + 1))) [] (Obn rfl (fun _ => hb_add (k := .i64))) ?_
     refine Wy (.i (IntKind.i64.wrap (y12_0 + 1))) [] (Omv rfl) ?_
     refine Walk.nil ?_
     refine RoundK.normal ?_
     exact Rounds.weak (Weak.toK 4243 0 0 [0, 1]) (ih_0 (fu_0, r18_1.2.1, (GArr3_Int.mk r18_1.1 y7_d_0.a1 y7_d_0.a2), (IntKind.i64.wrap (y12_0 + 1))) hm (Nat.lt_succ_self _))
    ·
     replace hm := cF hq29_2_0 hm
     rcases tf_ (decide (y12_0 = 1)) with hq29_2_1 | hq29_2_1
     ·
      replace hm := cT hq29_2_1 hm
      refine Wy (.loc 1 1) [] (Ocs (by kernel_rfl) (op_iaddr_arr rfl (n := 3) (sz := 1) (y := (.loc 1 0)) (by kernel_rfl) (by kernel_rfl) (by kernel_rfl) (k := .i64) (iv := y12_0) (by kernel_rfl) (i := 1) (of_decide_eq_true hq29_2_1) (by decide))) ?_
      refine Wy (.tup []) [(1, (.box [(.i y7_d_0.a0), (.i r18_1.1), (.i y7_d_0.a2)]))] (Ost rfl) ?_
      refine Wy (.i r18_1.2.1) [] (Omv rfl) ?_
      refine Walk.nil ?_
      refine InBlock.normal ?_
      refine Then.normal ?_
      refine Amk 4243 3 ⟨((.s p0) :: ((.i r18_1.2.1) :: (tp 2 ((.loc 0 0) :: (tp 2 ((.loc 1 0) :: (tp 4 ((.i y12_0) :: (tp 26 []))))))))), [(.box [(.i 0), (.i 0), (.i 0)]), (.box [(.i y7_d_0.a0), (.i r18_1.1), (.i y7_d_0.a2)])], 0⟩ ?_
      refine AWP.text ?_
      refine Wy (.i (IntKind.i64.wrap (y12_0 + 1))) [] (Obn rfl (fun _ => hb_add (k := .i64))) ?_
      refine Wy (.i (IntKind.i64.wrap (y12_0 + 1))) [] (Omv rfl) ?_
      refine Walk.nil ?_
      refine RoundK.normal ?_
      exact Rounds.weak (Weak.toK 4243 0 0 [0, 1]) (ih_0 (fu_0, r18_1.2.1, (GArr3_Int.mk y7_d_0.a0 r18_1.1 y7_d_0.a2), (IntKind.i64.wrap (y12_0 + 1))) hm (Nat.lt_succ_self _))
     ·
      replace hm := cF hq29_2_1 hm
      rcases tf_ (decide (y12_0 = 2)) with hq29_2_2 | hq29_2_2
      ·
       replace hm := cT hq29_2_2 hm
       refine Wy (.loc 1 2) [] (Ocs (by kernel_rfl) (op_iaddr_arr rfl (n := 3) (sz := 1) (y := (.loc 1 0)) (by kernel_rfl) (by kernel_rfl) (by kernel_rfl) (k := .i64) (iv := y12_0) (by kernel_rfl) (i := 2) (of_decide_eq_true hq29_2_2) (by decide))) ?_
       refine Wy (.tup []) [(1, (.box [(.i y7_d_0.a0), (.i y7_d_0.a1), (.i r18_1.1)]))] (Ost rfl) ?_
       refine Wy (.i r18_1.2.1) [] (Omv rfl) ?_
       refine Walk.nil ?_
       refine InBlock.normal ?_
       refine Then.normal ?_
       refine Amk 4243 3 ⟨((.s p0) :: ((.i r18_1.2.1) :: (tp 2 ((.loc 0 0) :: (tp 2 ((.loc 1 0) :: (tp 4 ((.i y12_0) :: (tp 26 []))))))))), [(.box [(.i 0), (.i 0), (.i 0)]), (.box [(.i y7_d_0.a0), (.i y7_d_0.a1), (.i r18_1.1)])], 0⟩ ?_
       refine AWP.text ?_
       refine Wy (.i (IntKind.i64.wrap (y12_0 + 1))) [] (Obn rfl (fun _ => hb_add (k := .i64))) ?_
       refine Wy (.i (IntKind.i64.wrap (y12_0 + 1))) [] (Omv rfl) ?_
       refine Walk.nil ?_
       refine RoundK.normal ?_
       exact Rounds.weak (Weak.toK 4243 0 0 [0, 1]) (ih_0 (fu_0, r18_1.2.1, (GArr3_Int.mk y7_d_0.a0 y7_d_0.a1 r18_1.1), (IntKind.i64.wrap (y12_0 + 1))) hm (Nat.lt_succ_self _))
      ·
       replace hm := cF hq29_2_2 hm
       exact nomatch hm
  ·
   replace hm := cF hc13_3 hm
   refine AWP.if_ false (Eq.trans (by kernel_rfl) (lit_tf (b := decide (y12_0 < 3)) hc13_3)) ?_
   refine AWP.exit ?_
   refine Then.exit ?_
   refine RoundK.exit ?_
   refine InBlock.same ?_
   refine Then.normal ?_
   refine Amk 146 3 ⟨(tp 1 ((.i y1_0) :: (tp 2 ((.loc 0 0) :: (tp 2 ((.loc 1 0) :: (tp 31 []))))))), [(.box [(.i 0), (.i 0), (.i 0)]), (.box [(.i y7_d_0.a0), (.i y7_d_0.a1), (.i y7_d_0.a2)])], 0⟩ ?_
   refine AWP.seq ?_
   refine AWP.text ?_
   refine Wy (.loc 1 0) [] (Ocs (by kernel_rfl) (op_iaddr_arr rfl (n := 3) (sz := 1) (y := (.loc 1 0)) (by kernel_rfl) (by kernel_rfl) (by kernel_rfl) (k := .i64) (iv := 0) (by kernel_rfl) (i := 0) (by rfl) (by decide))) ?_
   refine Wy (.i y7_d_0.a0) [] (Old rfl) ?_
   refine Wy (.loc 1 1) [] (Ocs (by kernel_rfl) (op_iaddr_arr rfl (n := 3) (sz := 1) (y := (.loc 1 0)) (by kernel_rfl) (by kernel_rfl) (by kernel_rfl) (k := .i64) (iv := 1) (by kernel_rfl) (i := 1) (by rfl) (by decide))) ?_
   refine Wy (.i y7_d_0.a1) [] (Old rfl) ?_
   refine Wy (.loc 1 2) [] (Ocs (by kernel_rfl) (op_iaddr_arr rfl (n := 3) (sz := 1) (y := (.loc 1 0)) (by kernel_rfl) (by kernel_rfl) (by kernel_rfl) (k := .i64) (iv := 2) (by kernel_rfl) (i := 2) (by rfl) (by decide))) ?_
   refine Wy (.i y7_d_0.a2) [] (Old rfl) ?_
   refine Wy (.agg [(.i y7_d_0.a0), (.i y7_d_0.a1), (.i y7_d_0.a2)]) [] (Obd rfl) ?_
   refine Wy (.i y1_0) [] (Omv rfl) ?_
   refine Wy (.tup []) [(0, (.box [(.i y7_d_0.a0), (.i y7_d_0.a1), (.i y7_d_0.a2)]))] (Ost rfl) ?_
   refine Wy (.i y1_0) [] (Omv rfl) ?_
   refine Wy (.i 0) [] (Omv rfl) ?_
   refine Walk.nil ?_
   refine Then.normal ?_
   refine AWP.ret ?_
   obtain rfl := Option.some.inj hm
   exact ret_i []
end Go.Proofs.Ytkpfagmlohcdjaa.K
