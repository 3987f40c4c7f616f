/- what telltalelaw29.ViewSafe needs (0) -/
import Derived.Test.YtcpageegmpjkiaaZLM
set_option linter.unusedVariables false
set_option linter.unusedSimpArgs false
namespace Go.Proofs.Ytcpageegmpjkiaa.K
open Go.RowKit Go.Lib
set_option maxRecDepth 20000
set_option maxHeartbeats 4000000

theorem ok_cmp_isNaN_int (p0 : Int) (r : Bool) (h : m_cmp_isNaN_int p0 = some r) : GCall Try.prog 85 [(.i p0)] [] (.b r) [] := by
 refine GCall.of_body (n := 6) (rs := [(.tmp 2)]) Try.func85 rfl rfl rfl <| Ato ⟨.i p0::tu 5 [], [], 0⟩ ?_
 have hm := h
 unfold m_cmp_isNaN_int at hm
 refine Sx <| Wm (.b false) rfl <| Nk 1 0 ⟨.i p0::tp 5 [], [], 0⟩ <| Sx <| Wm (.i p0) rfl <| Wm (.i p0) rfl <| Wz (.b (decide (p0 ≠ p0))) (Obn rfl (fun _ => hb_neq (k := .i64))) <| Wm (.b (decide (p0 ≠ p0))) rfl <| Nn <| Rt ?_
 obtain rfl := Option.some.inj hm
 exact ret_i []

theorem ok_cmp_Compare_int (p0 : Int) (p1 : Int) (r : Int) (h : m_cmp_Compare_int p0 p1 = some r) : GCall Try.prog 76 [(.i p0), (.i p1)] [] (.i r) [] := by
 refine GCall.of_body (n := 20) (rs := [(.tmp 4)]) Try.func76 rfl rfl rfl <| Ato ⟨.i p0::.i p1::tu 18 [], [], 0⟩ ?_
 have hm := h
 unfold m_cmp_Compare_int at hm
 refine Sx <| Wm (.i 0) rfl <| Nk 3 0 ⟨.i p0::.i p1::tp 18 [], [], 0⟩ <| Sx <| Wm (.i p0) rfl ?_
 obtain ⟨r8_0, hr8_0, hm⟩ := bnd hm
 refine Wz (.b r8_0) (Ocf [] [] [] 0 (ok_cmp_isNaN_int p0 r8_0 hr8_0) (fun a w => Try.call85 a w) rfl trivial) <| Wm (.b r8_0) rfl <| Nk 35 0 ⟨.i p0::.i p1::tp 3 (.b r8_0::tp 14 []), [], 0⟩ <| Sx <| Wm (.i p1) rfl ?_
 obtain ⟨r10_1, hr10_1, hm⟩ := bnd hm
 refine Wz (.b r10_1) (Ocf [] [] [] 0 (ok_cmp_isNaN_int p1 r10_1 hr10_1) (fun a w => Try.call85 a w) rfl trivial) <| Wm (.b r10_1) rfl <| Nk 99 0 ⟨.i p0::.i p1::tp 3 (.b r8_0::.b r10_1::tp 13 []), [], 0⟩ <| Sq <| Sx <| Wm (.b r8_0) rfl <| Nk 2115 0 ⟨.i p0::.i p1::tp 4 (.b r10_1::tp 4 (.b r8_0::tp 8 [])), [], 0⟩ ?_
 rcases tf_ r8_0 with hc11_2 | hc11_2
 ·
  replace hm := cT hc11_2 hm
  refine AiT hc11_2 <| Sq <| Sx <| Wm (.b r10_1) rfl <| Nk 4096 0 ⟨tp 12 (.b r10_1::tp 7 []), [], 0⟩ ?_
  rcases tf_ r10_1 with hc12_3 | hc12_3
  ·
   replace hm := cT hc12_3 hm
   refine AiT hc12_3 <| Sx <| Wm (.i 0) rfl <| Nn <| Rt <| Tr <| Tr ?_
   obtain rfl := Option.some.inj hm
   exact ret_i []
  ·
   replace hm := cF hc12_3 hm
   refine AiF hc12_3 <| Sk <| Tk 0 0 ⟨tp 20 [], [], 0⟩ <| Sx <| Wm (.i (-1)) rfl <| Nn <| Rt <| Tr ?_
   obtain rfl := Option.some.inj hm
   exact ret_i []
 ·
  replace hm := cF hc11_2 hm
  refine AiF hc11_2 <| Sk <| Tk 67 0 ⟨.i p0::.i p1::tp 4 (.b r10_1::tp 13 []), [], 0⟩ <| Sq <| Sx <| Wm (.b r10_1) rfl <| Nk 8195 0 ⟨.i p0::.i p1::tp 11 (.b r10_1::tp 6 []), [], 0⟩ ?_
  rcases tf_ r10_1 with hc13_4 | hc13_4
  ·
   replace hm := cT hc13_4 hm
   refine AiT hc13_4 <| Sx <| Wm (.i 1) rfl <| Nn <| Rt <| Tr ?_
   obtain rfl := Option.some.inj hm
   exact ret_i []
  ·
   replace hm := cF hc13_4 hm
   refine AiF hc13_4 <| Sk <| Tk 3 0 ⟨.i p0::.i p1::tp 18 [], [], 0⟩ <| Sq <| Sx <| Wm (.i p0) rfl <| Wm (.i p1) rfl <| Wz (.b (decide (p0 < p1))) (Obn rfl (fun _ => hb_lss (k := .i64))) <| Nk 65539 0 ⟨.i p0::.i p1::tp 14 (.b (decide (p0 < p1))::tp 3 []), [], 0⟩ ?_
   rcases tf_ (decide (p0 < p1)) with hc16_5 | hc16_5
   ·
    replace hm := cT hc16_5 hm
    refine AiT hc16_5 <| Sx <| Wm (.i (-1)) rfl <| Nn <| Rt <| Tr ?_
    obtain rfl := Option.some.inj hm
    exact ret_i []
   ·
    replace hm := cF hc16_5 hm
    refine AiF hc16_5 <| Sk <| Tk 3 0 ⟨.i p0::.i p1::tp 18 [], [], 0⟩ <| Sq <| Sx <| Wm (.i p0) rfl <| Wm (.i p1) rfl <| Wz (.b (decide (p1 < p0))) (Obn rfl (fun _ => hb_gtr (k := .i64))) <| Nk 524288 0 ⟨tp 19 (.b (decide (p1 < p0))::[]), [], 0⟩ ?_
    rcases tf_ (decide (p1 < p0)) with hc19_6 | hc19_6
    ·
     replace hm := cT hc19_6 hm
     refine AiT hc19_6 <| Sx <| Wm (.i 1) rfl <| Nn <| Rt <| Tr ?_
     obtain rfl := Option.some.inj hm
     exact ret_i []
    ·
     replace hm := cF hc19_6 hm
     refine AiF hc19_6 <| Sk <| Tk 0 0 ⟨tp 20 [], [], 0⟩ <| Sx <| Wm (.i 0) rfl <| Nn <| Rt ?_
     obtain rfl := Option.some.inj hm
     exact ret_i []

theorem ok_cmp_Or_int (p0 : (List Int)) (r : Int) (h : m_cmp_Or_int p0 = some r) : GCall Try.prog 75 [(.l (encI .i64) p0)] [] (.i r) [] := by
 refine GCall.of_body (n := 18) (rs := [(.tmp 2)]) Try.func75 rfl rfl rfl <| Ato ⟨.l (encI .i64) p0::tu 17 [], [], 0⟩ ?_
 have hm := h
 unfold m_cmp_Or_int at hm
 refine Sx <| Wm (.i 0) rfl <| Nk 1 0 ⟨.l (encI .i64) p0::tp 17 [], [], 0⟩ <| Sx <| Wm (.i 0) rfl <| Nk 9 0 ⟨.l (encI .i64) p0::tp 2 (.i 0::tp 14 []), [], 0⟩ <| Sq <| Sx <| Wm (.l (encI .i64) p0) rfl <| Wz (.i ((List.length p0 : Nat) : Int)) (Oln rfl) <| Wm (.i 0) rfl <| Nk 456 0 ⟨tp 3 (.i 0::tp 2 (.l (encI .i64) p0::.i ((List.length p0 : Nat) : Int)::.i 0::tp 9 [])), [], 0⟩ <| Bk ?_
 refine AWP.loopI (α := Nat × Int)
   (fun (fu_1, y8_1) => (⟨tp 3 (.i 0::tp 2 (.l (encI .i64) p0::.i ((List.length p0 : Nat) : Int)::.i y8_1::tp 9 [])), [], 0⟩ : St))
   (fun (fu_1, y8_1) => m_cmp_Or_int_l1 p0 fu_1 y8_1 = some r)
   (fun (fu_1, y8_1) => fu_1) (1152921504606846976, 0)
   (Weak.toK 456 0 0 []) hm ?_
 rintro ⟨fu_1, y8_1⟩ n_1 hm ih_1
 try dsimp only at hm ih_1 ⊢
 cases fu_1 with
 | zero => exact absurd hm (by unfold m_cmp_Or_int_l1; simp)
 | succ fu_1 =>
  unfold m_cmp_Or_int_l1 at hm
  refine Sx <| Wz (.b (decide (y8_1 < ((List.length p0 : Nat) : Int)))) (Obn rfl (fun _ => hb_lss (k := .i64))) <| Nk 968 0 ⟨tp 3 (.i 0::tp 2 (.l (encI .i64) p0::.i ((List.length p0 : Nat) : Int)::.i y8_1::.b (decide (y8_1 < ((List.length p0 : Nat) : Int)))::tp 8 [])), [], 0⟩ <| Sq ?_
  rcases tf_ (decide (y8_1 < ((List.length p0 : Nat) : Int))) with hc9_3 | hc9_3
  ·
   replace hm := cT hc9_3 hm
   refine AiT hc9_3 <| Sk <| Tk 456 0 ⟨tp 3 (.i 0::tp 2 (.l (encI .i64) p0::.i ((List.length p0 : Nat) : Int)::.i y8_1::tp 9 [])), [], 0⟩ <| Sq <| Bk <| Sx ?_
   obtain ⟨x10_2, hx10_2, hm⟩ := bnd hm
   obtain ⟨hx10_2i, hx10_2g⟩ := geti_some hx10_2
   refine Wz (.d (.ref (List.drop ((Int.toNat y8_1) * 1) (flatD (encI .i64) p0)))) (Oia rfl (encI_len (k := .i64)) hx10_2i hx10_2g) <| Wz (.i x10_2) (Lf1 rfl (encI_len (k := .i64)) hx10_2g) <| Wm (.i x10_2) rfl <| Nk 488 0 ⟨tp 3 (.i 0::tp 1 (.i x10_2::.l (encI .i64) p0::.i ((List.length p0 : Nat) : Int)::.i y8_1::tp 9 [])), [], 0⟩ <| Sx <| Wm (.i x10_2) rfl <| Wm (.i 0) rfl <| Wz (.b (decide (x10_2 ≠ 0))) (Obn rfl (fun _ => hb_neq (k := .i64))) <| Nk 16872 0 ⟨tp 3 (.i 0::tp 1 (.i x10_2::.l (encI .i64) p0::.i ((List.length p0 : Nat) : Int)::.i y8_1::tp 5 (.b (decide (x10_2 ≠ 0))::tp 3 []))), [], 0⟩ ?_
   rcases tf_ (decide (x10_2 ≠ 0)) with hc14_4 | hc14_4
   ·
    replace hm := cT hc14_4 hm
    refine AiT hc14_4 <| Sx <| Wm (.i x10_2) rfl <| Wm (.i x10_2) rfl <| Nn <| Rt <| Ir <| Tr <| RoundK.ret <| Ir <| Tr ?_
    obtain rfl := Option.some.inj hm
    exact ret_i []
   ·
    replace hm := cF hc14_4 hm
    refine AiF hc14_4 <| Sk <| Ino <| Tk 456 0 ⟨tp 3 (.i 0::tp 2 (.l (encI .i64) p0::.i ((List.length p0 : Nat) : Int)::.i y8_1::tp 9 [])), [], 0⟩ <| Tx <| Wz (.i (W6 (y8_1 + 1))) (Obn rfl (fun _ => hb_add (k := .i64))) <| Wm (.i (W6 (y8_1 + 1))) rfl <| Wn0 <| RoundK.normal ?_
    exact Rounds.weak (Weak.toK 456 0 0 []) (ih_1 (fu_1, (W6 (y8_1 + 1))) hm (Nat.lt_succ_self _))
  ·
   replace hm := cF hc9_3 hm
   refine AiF hc9_3 <| AWP.exit <| Then.exit <| RoundK.exit <| InBlock.same <| Tk 8 0 ⟨tp 3 (.i 0::tp 14 []), [], 0⟩ <| Sx <| Wm (.i 0) rfl <| Wm (.i 0) rfl <| Nn <| Rt ?_
   obtain rfl := Option.some.inj hm
   exact ret_i []

theorem ok_tally_order (p0 : GChange) (p1 : GChange) (r : Int) (h : m_tally_order p0 p1 = some r) : GCall Try.prog 54 [(.agg [(.i p0.Loc), (.i p0.Time), (.i p0.N)]), (.agg [(.i p1.Loc), (.i p1.Time), (.i p1.N)])] [] (.i r) [] := by
 refine GCall.of_body (n := 17) (rs := [(.tmp 4)]) Try.func54 rfl rfl rfl <| Ato ⟨.agg [(.i p0.Loc), (.i p0.Time), (.i p0.N)]::.agg [(.i p1.Loc), (.i p1.Time), (.i p1.N)]::tu 15 [], [], 0⟩ ?_
 have hm := h
 unfold m_tally_order at hm
 refine Sx <| Wy (.loc 0 0) [(0, (.box [(.i p0.Loc), (.i p0.Time), (.i p0.N)]))] (Obx rfl) <| Wy (.loc 1 0) [(1, (.box [(.i p1.Loc), (.i p1.Time), (.i p1.N)]))] (Obx rfl) <| Wm (.i 0) rfl <| Nk 12 3 ⟨tp 2 (.loc 0 0::.loc 1 0::tp 13 []), [(.box [(.i p0.Loc), (.i p0.Time), (.i p0.N)]), (.box [(.i p1.Loc), (.i p1.Time), (.i p1.N)])], 0⟩ <| Sq <| Adr <| Wz (.loc 0 0) (Ofa rfl) <| Wz (.i p0.Loc) (Old rfl) <| Wz (.loc 1 0) (Ofa rfl) <| Wz (.i p1.Loc) (Old rfl) ?_
 obtain ⟨r9_0, hr9_0, hm⟩ := bnd hm
 refine Wz (.i r9_0) (Ocf [] [] [] 0 (ok_cmp_Compare_int p0.Loc p1.Loc r9_0 hr9_0) (fun a w => Try.call76 a w) rfl trivial) <| Wz (.loc 0 1) (Ofa rfl) <| Wz (.i p0.Time) (Old rfl) <| Wz (.loc 1 1) (Ofa rfl) <| Wz (.i p1.Time) (Old rfl) ?_
 obtain ⟨r14_0, hr14_0, hm⟩ := bnd hm
 refine Wz (.i r14_0) (Ocf [] [] [] 0 (ok_cmp_Compare_int p0.Time p1.Time r14_0 hr14_0) (fun a w => Try.call76 a w) rfl trivial) <| Wy (.own 2) [(2, (.arr 3 1 (List.length ([r9_0, r14_0] : List Int)) (flatD (encI .i64) ([r9_0, r14_0] : List Int))))] (Obs rfl) ?_
 obtain ⟨r16_0, hr16_0, hm⟩ := bnd hm
 refine Wz (.i r16_0) (Ocp [] [] [2] 0 (ok_cmp_Or_int ([r9_0, r14_0] : List Int) r16_0 hr16_0) (plain_triv (by simp [A.Plain, A.Plains, D.Plain, byteD])) (fun a w => Try.call75 a w) rfl trivial) <| Wm (.i r16_0) rfl <| Wdr <| Tn <| Rt ?_
 obtain rfl := Option.some.inj hm
 exact ret_i []

theorem ok_slices_insertionSortCmpFunc_tally_Change__tally_order (p0 : (List GChange)) (p1 : Int) (p2 : Int) (r : (List GChange)) (h : m_slices_insertionSortCmpFunc_tally_Change__tally_order p0 p1 p2 = some r) : GCall Try.prog 83 [(.own 0), (.i p1), (.i p2), (.clo (.func 54) [] [])] [(Ar 84 3 enc_GChange p0)] (.tup []) [(Ar 84 3 enc_GChange r)] := by
 refine GCall.of_body (n := 53) (rs := []) Try.func83 rfl rfl rfl <| Ato ⟨.own 0::.i p1::.i p2::.clo (.func 54) [] []::tu 49 [], [(Ar 84 3 enc_GChange p0)], 1⟩ ?_
 have hm := h
 unfold m_slices_insertionSortCmpFunc_tally_Change__tally_order at hm
 refine Sx <| Wm (.i p1) rfl <| Wz (.i (W6 (p1 + 1))) (Obn rfl (fun _ => hb_add (k := .i64))) <| Wm (.i (W6 (p1 + 1))) rfl <| Nk 271 1 ⟨.own 0::.i p1::.i p2::.clo (.func 54) [] []::tp 4 (.i (W6 (p1 + 1))::tp 44 []), [(Ar 84 3 enc_GChange p0)], 1⟩ <| Bk ?_
 refine AWP.loopI (α := Nat × (List GChange) × Int)
   (fun (fu_0, y0_0, y8_0) => (⟨.own 0::.i p1::.i p2::.clo (.func 54) [] []::tp 4 (.i y8_0::tp 44 []), [(Ar 84 3 enc_GChange y0_0)], 1⟩ : St))
   (fun (fu_0, y0_0, y8_0) => m_slices_insertionSortCmpFunc_tally_Change__tally_order_l0 p1 p2 fu_0 y0_0 y8_0 = some r)
   (fun (fu_0, y0_0, y8_0) => fu_0) (1152921504606846976, p0, (W6 (p1 + 1)))
   (Weak.toK 271 0 0 [0]) hm ?_
 rintro ⟨fu_0, y0_0, y8_0⟩ n_0 hm ih_0
 try dsimp only at hm ih_0 ⊢
 cases fu_0 with
 | zero => exact absurd hm (by unfold m_slices_insertionSortCmpFunc_tally_Change__tally_order_l0; simp)
 | succ fu_0 =>
  unfold m_slices_insertionSortCmpFunc_tally_Change__tally_order_l0 at hm
  refine Sq <| Sx <| Wm (.i y8_0) rfl <| Wm (.i p2) rfl <| Wz (.b (decide (y8_0 < p2))) (Obn rfl (fun _ => hb_lss (k := .i64))) <| Nk 16655 1 ⟨.own 0::.i p1::.i p2::.clo (.func 54) [] []::tp 4 (.i y8_0::tp 5 (.b (decide (y8_0 < p2))::tp 38 [])), [(Ar 84 3 enc_GChange y0_0)], 1⟩ ?_
  rcases tf_ (decide (y8_0 < p2)) with hc14_4 | hc14_4
  ·
   replace hm := cT hc14_4 hm
   refine AiT hc14_4 <| Sk <| Tk 271 1 ⟨.own 0::.i p1::.i p2::.clo (.func 54) [] []::tp 4 (.i y8_0::tp 44 []), [(Ar 84 3 enc_GChange y0_0)], 1⟩ <| Sq <| Bk <| Sx <| Wm (.i y8_0) rfl <| Wm (.i y8_0) rfl <| Nk 783 1 ⟨.own 0::.i p1::.i p2::.clo (.func 54) [] []::tp 4 (.i y8_0::.i y8_0::tp 43 []), [(Ar 84 3 enc_GChange y0_0)], 1⟩ <| Bk ?_
   refine AWP.loopI (α := Nat × (List GChange) × Int)
     (fun (fu_1, y0_1, y9_1) => (⟨.own 0::.i p1::.i p2::.clo (.func 54) [] []::tp 4 (.i y8_0::.i y9_1::tp 43 []), [(Ar 84 3 enc_GChange y0_1)], 1⟩ : St))
     (fun (fu_1, y0_1, y9_1) => m_slices_insertionSortCmpFunc_tally_Change__tally_order_l1 p1 y8_0 (fun y0_0 y8_0 => m_slices_insertionSortCmpFunc_tally_Change__tally_order_l0 p1 p2 fu_0 y0_0 y8_0) fu_1 y0_1 y9_1 = some r)
     (fun (fu_1, y0_1, y9_1) => fu_1) (1152921504606846976, y0_0, y8_0)
     (Weak.toK 783 0 0 [0]) hm ?_
   rintro ⟨fu_1, y0_1, y9_1⟩ n_1 hm ih_1
   try dsimp only at hm ih_1 ⊢
   cases fu_1 with
   | zero => exact absurd hm (by unfold m_slices_insertionSortCmpFunc_tally_Change__tally_order_l1; simp)
   | succ fu_1 =>
    unfold m_slices_insertionSortCmpFunc_tally_Change__tally_order_l1 at hm
    refine Sq <| Sq <| Adr <| Wm (.i y9_1) rfl <| Wm (.i p1) rfl <| Wz (.b (decide (p1 < y9_1))) (Obn rfl (fun _ => hb_gtr (k := .i64))) ?_
    rcases tf_ (decide (p1 < y9_1)) with hq21_2 | hq21_2
    ·
     replace hm := cT hq21_2 hm
     refine Wz (.b true) (Oq hq21_2 rfl) <| Wm (.clo (.func 54) [] []) rfl <| Wm (.own 0) rfl <| Wm (.i y9_1) rfl ?_
     obtain ⟨x25_2, hx25_2, hm⟩ := bnd hm
     obtain ⟨hx25_2i, hx25_2g⟩ := geti_some hx25_2
     refine Wz (.loc 0 ((Int.toNat y9_1) * 3)) (Oia rfl enc_GChange_len hx25_2i hx25_2g) <| Wz (.agg [(.i x25_2.Loc), (.i x25_2.Time), (.i x25_2.N)]) (Lr rfl enc_GChange_len hx25_2g) <| Wm (.own 0) rfl <| Wm (.i y9_1) rfl <| Wz (.i (W6 (y9_1 - 1))) (Obn rfl (fun _ => hb_sub (k := .i64))) ?_
     obtain ⟨x30_2, hx30_2, hm⟩ := bnd hm
     obtain ⟨hx30_2i, hx30_2g⟩ := geti_some hx30_2
     refine Wz (.loc 0 ((Int.toNat (W6 (y9_1 - 1))) * 3)) (Oia rfl enc_GChange_len hx30_2i hx30_2g) <| Wz (.agg [(.i x30_2.Loc), (.i x30_2.Time), (.i x30_2.N)]) (Lr rfl enc_GChange_len hx30_2g) ?_
     obtain ⟨r32_2, hr32_2, hm⟩ := bnd hm
     refine Wz (.i r32_2) (Ocf [] [] [] 0 (ok_tally_order x25_2 x30_2 r32_2 hr32_2) (fun a w => Try.call54 a w) rfl trivial) <| Wz (.b (decide (r32_2 < 0))) (Obn rfl (fun _ => hb_lss (k := .i64))) <| Wz (.b (decide (r32_2 < 0))) (OpT rfl) <| Wdr <| Tk 17179869967 1 ⟨.own 0::.i p1::.i p2::.clo (.func 54) [] []::tp 4 (.i y8_0::.i y9_1::tp 24 (.b (decide (r32_2 < 0))::tp 18 [])), [(Ar 84 3 enc_GChange y0_1)], 1⟩ ?_
     rcases tf_ (decide (r32_2 < 0)) with hc34_5 | hc34_5
     ·
      replace hm := cT hc34_5 hm
      refine AiT hc34_5 <| Sk <| Tk 783 1 ⟨.own 0::.i p1::.i p2::.clo (.func 54) [] []::tp 4 (.i y8_0::.i y9_1::tp 43 []), [(Ar 84 3 enc_GChange y0_1)], 1⟩ <| Sq <| Bk <| Adr <| Wm (.own 0) rfl <| Wm (.i y9_1) rfl <| Wm (.own 0) rfl <| Wm (.i y9_1) rfl <| Wz (.i (W6 (y9_1 - 1))) (Obn rfl (fun _ => hb_sub (k := .i64))) <| Wm (.own 0) rfl <| Wm (.i y9_1) rfl <| Wz (.i (W6 (y9_1 - 1))) (Obn rfl (fun _ => hb_sub (k := .i64))) ?_
      obtain ⟨x45_3, hx45_3, hm⟩ := bnd hm
      obtain ⟨hx45_3i, hx45_3g⟩ := geti_some hx45_3
      refine Wz (.loc 0 ((Int.toNat (W6 (y9_1 - 1))) * 3)) (Oia rfl enc_GChange_len hx45_3i hx45_3g) <| Wz (.agg [(.i x45_3.Loc), (.i x45_3.Time), (.i x45_3.N)]) (Lr rfl enc_GChange_len hx45_3g) <| Wm (.own 0) rfl <| Wm (.i y9_1) rfl ?_
      obtain ⟨x49_3, hx49_3, hm⟩ := bnd hm
      obtain ⟨hx49_3i, hx49_3g⟩ := geti_some hx49_3
      refine Wz (.loc 0 ((Int.toNat y9_1) * 3)) (Oia rfl enc_GChange_len hx49_3i hx49_3g) <| Wz (.agg [(.i x49_3.Loc), (.i x49_3.Time), (.i x49_3.N)]) (Lr rfl enc_GChange_len hx49_3g) ?_
      obtain ⟨x51_3, hx51_3, hm⟩ := bnd hm
      obtain ⟨hx51_3i, hx51_3g⟩ := geti_some hx51_3
      refine Wz (.loc 0 ((Int.toNat y9_1) * 3)) (Oia rfl enc_GChange_len hx51_3i hx51_3g) <| Wy (.tup []) [(0, (Ar 84 3 enc_GChange (List.set y0_1 (Int.toNat y9_1) x45_3)))] (Osr 0 rfl enc_GChange_len hx51_3g x45_3) ?_
      obtain ⟨x52_3, hx52_3, hm⟩ := bnd hm
      obtain ⟨hx52_3i, hx52_3g⟩ := geti_some hx52_3
      refine Wz (.loc 0 ((Int.toNat (W6 (y9_1 - 1))) * 3)) (Oia rfl enc_GChange_len hx52_3i hx52_3g) <| Wy (.tup []) [(0, (Ar 84 3 enc_GChange (List.set (List.set y0_1 (Int.toNat y9_1) x45_3) (Int.toNat (W6 (y9_1 - 1))) x49_3)))] (Osr 0 rfl enc_GChange_len hx52_3g x49_3) <| Wdr <| Ino <| Tk 783 1 ⟨.own 0::.i p1::.i p2::.clo (.func 54) [] []::tp 4 (.i y8_0::.i y9_1::tp 43 []), [(Ar 84 3 enc_GChange (List.set (List.set y0_1 (Int.toNat y9_1) x45_3) (Int.toNat (W6 (y9_1 - 1))) x49_3))], 1⟩ <| Tx <| Wm (.i y9_1) rfl <| Wz (.i (W6 (y9_1 - 1))) (Obn rfl (fun _ => hb_sub (k := .i64))) <| Wm (.i (W6 (y9_1 - 1))) rfl <| Wn0 <| RoundK.normal ?_
      exact Rounds.weak (Weak.toK 783 0 0 [0]) (ih_1 (fu_1, (List.set (List.set y0_1 (Int.toNat y9_1) x45_3) (Int.toNat (W6 (y9_1 - 1))) x49_3), (W6 (y9_1 - 1))) hm (Nat.lt_succ_self _))
     ·
      replace hm := cF hc34_5 hm
      refine AiF hc34_5 <| AWP.exit <| Then.exit <| RoundK.exit <| InBlock.same <| Ino <| Tk 271 1 ⟨.own 0::.i p1::.i p2::.clo (.func 54) [] []::tp 4 (.i y8_0::tp 44 []), [(Ar 84 3 enc_GChange y0_1)], 1⟩ <| Tx <| Wm (.i y8_0) rfl <| Wz (.i (W6 (y8_0 + 1))) (Obn rfl (fun _ => hb_add (k := .i64))) <| Wm (.i (W6 (y8_0 + 1))) rfl <| Wn0 <| RoundK.normal ?_
      exact Rounds.weak (Weak.toK 271 0 0 [0]) (ih_0 (fu_0, y0_1, (W6 (y8_0 + 1))) hm (Nat.lt_succ_self _))
    ·
     replace hm := cF hq21_2 hm
     refine Wz (.b false) (Oq hq21_2 rfl) <| Wn <| Wn <| Wn <| Wn <| Wn <| Wn <| Wn <| Wn <| Wn <| Wn <| Wn <| Wn <| Wz (.b false) (OpF rfl) ?_
     refine Wdr <| Tk 17179869967 1 ⟨.own 0::.i p1::.i p2::.clo (.func 54) [] []::tp 4 (.i y8_0::.i y9_1::tp 24 (.b false::tp 18 [])), [(Ar 84 3 enc_GChange y0_1)], 1⟩ <| AWP.if_ false (by kernel_rfl) <| AWP.exit <| Then.exit <| RoundK.exit <| InBlock.same <| Ino <| Tk 271 1 ⟨.own 0::.i p1::.i p2::.clo (.func 54) [] []::tp 4 (.i y8_0::tp 44 []), [(Ar 84 3 enc_GChange y0_1)], 1⟩ <| Tx <| Wm (.i y8_0) rfl <| Wz (.i (W6 (y8_0 + 1))) (Obn rfl (fun _ => hb_add (k := .i64))) <| Wm (.i (W6 (y8_0 + 1))) rfl <| Wn0 ?_
     refine RoundK.normal ?_
     exact Rounds.weak (Weak.toK 271 0 0 [0]) (ih_0 (fu_0, y0_1, (W6 (y8_0 + 1))) hm (Nat.lt_succ_self _))
  ·
   replace hm := cF hc14_4 hm
   refine AiF hc14_4 <| AWP.exit <| Then.exit <| RoundK.exit <| InBlock.same ?_
   obtain rfl := Option.some.inj hm
   exact ret_n [0]

theorem ok_slices_swapRangeCmpFunc_tally_Change__tally_order (p0 : (List GChange)) (p1 : Int) (p2 : Int) (p3 : Int) (r : (List GChange)) (h : m_slices_swapRangeCmpFunc_tally_Change__tally_order p0 p1 p2 p3 = some r) : GCall Try.prog 88 [(.own 0), (.i p1), (.i p2), (.i p3), (.clo (.func 54) [] [])] [(Ar 84 3 enc_GChange p0)] (.tup []) [(Ar 84 3 enc_GChange r)] := by
 refine GCall.of_body (n := 38) (rs := []) Try.func88 rfl rfl rfl <| Ato ⟨.own 0::.i p1::.i p2::.i p3::.clo (.func 54) [] []::tu 33 [], [(Ar 84 3 enc_GChange p0)], 1⟩ ?_
 have hm := h
 unfold m_slices_swapRangeCmpFunc_tally_Change__tally_order at hm
 refine Sx <| Wm (.i 0) rfl <| Nk 1039 1 ⟨.own 0::.i p1::.i p2::.i p3::tp 6 (.i 0::tp 27 []), [(Ar 84 3 enc_GChange p0)], 1⟩ <| Bk ?_
 refine AWP.loopI (α := Nat × (List GChange) × Int)
   (fun (fu_0, y0_0, y10_0) => (⟨.own 0::.i p1::.i p2::.i p3::tp 6 (.i y10_0::tp 27 []), [(Ar 84 3 enc_GChange y0_0)], 1⟩ : St))
   (fun (fu_0, y0_0, y10_0) => m_slices_swapRangeCmpFunc_tally_Change__tally_order_l0 p1 p2 p3 fu_0 y0_0 y10_0 = some r)
   (fun (fu_0, y0_0, y10_0) => fu_0) (1152921504606846976, p0, 0)
   (Weak.toK 1039 0 0 [0]) hm ?_
 rintro ⟨fu_0, y0_0, y10_0⟩ n_0 hm ih_0
 try dsimp only at hm ih_0 ⊢
 cases fu_0 with
 | zero => exact absurd hm (by unfold m_slices_swapRangeCmpFunc_tally_Change__tally_order_l0; simp)
 | succ fu_0 =>
  unfold m_slices_swapRangeCmpFunc_tally_Change__tally_order_l0 at hm
  refine Sq <| Sx <| Wm (.i y10_0) rfl <| Wm (.i p3) rfl <| Wz (.b (decide (y10_0 < p3))) (Obn rfl (fun _ => hb_lss (k := .i64))) <| Nk 9231 1 ⟨.own 0::.i p1::.i p2::.i p3::tp 6 (.i y10_0::tp 2 (.b (decide (y10_0 < p3))::tp 24 [])), [(Ar 84 3 enc_GChange y0_0)], 1⟩ ?_
  rcases tf_ (decide (y10_0 < p3)) with hc13_2 | hc13_2
  ·
   replace hm := cT hc13_2 hm
   refine AiT hc13_2 <| Sk <| Tk 1039 1 ⟨.own 0::.i p1::.i p2::.i p3::tp 6 (.i y10_0::tp 27 []), [(Ar 84 3 enc_GChange y0_0)], 1⟩ <| Sq <| Bk <| Adr <| Wm (.own 0) rfl <| Wm (.i p1) rfl <| Wm (.i y10_0) rfl <| Wz (.i (W6 (p1 + y10_0))) (Obn rfl (fun _ => hb_add (k := .i64))) <| Wm (.own 0) rfl <| Wm (.i p2) rfl <| Wm (.i y10_0) rfl <| Wz (.i (W6 (p2 + y10_0))) (Obn rfl (fun _ => hb_add (k := .i64))) ?_
   refine Wm (.own 0) rfl <| Wm (.i p2) rfl <| Wm (.i y10_0) rfl <| Wz (.i (W6 (p2 + y10_0))) (Obn rfl (fun _ => hb_add (k := .i64))) ?_
   obtain ⟨x28_1, hx28_1, hm⟩ := bnd hm
   obtain ⟨hx28_1i, hx28_1g⟩ := geti_some hx28_1
   refine Wz (.loc 0 ((Int.toNat (W6 (p2 + y10_0))) * 3)) (Oia rfl enc_GChange_len hx28_1i hx28_1g) <| Wz (.agg [(.i x28_1.Loc), (.i x28_1.Time), (.i x28_1.N)]) (Lr rfl enc_GChange_len hx28_1g) <| Wm (.own 0) rfl <| Wm (.i p1) rfl <| Wm (.i y10_0) rfl <| Wz (.i (W6 (p1 + y10_0))) (Obn rfl (fun _ => hb_add (k := .i64))) ?_
   obtain ⟨x34_1, hx34_1, hm⟩ := bnd hm
   obtain ⟨hx34_1i, hx34_1g⟩ := geti_some hx34_1
   refine Wz (.loc 0 ((Int.toNat (W6 (p1 + y10_0))) * 3)) (Oia rfl enc_GChange_len hx34_1i hx34_1g) <| Wz (.agg [(.i x34_1.Loc), (.i x34_1.Time), (.i x34_1.N)]) (Lr rfl enc_GChange_len hx34_1g) ?_
   obtain ⟨x36_1, hx36_1, hm⟩ := bnd hm
   obtain ⟨hx36_1i, hx36_1g⟩ := geti_some hx36_1
   refine Wz (.loc 0 ((Int.toNat (W6 (p1 + y10_0))) * 3)) (Oia rfl enc_GChange_len hx36_1i hx36_1g) <| Wy (.tup []) [(0, (Ar 84 3 enc_GChange (List.set y0_0 (Int.toNat (W6 (p1 + y10_0))) x28_1)))] (Osr 0 rfl enc_GChange_len hx36_1g x28_1) ?_
   obtain ⟨x37_1, hx37_1, hm⟩ := bnd hm
   obtain ⟨hx37_1i, hx37_1g⟩ := geti_some hx37_1
   refine Wz (.loc 0 ((Int.toNat (W6 (p2 + y10_0))) * 3)) (Oia rfl enc_GChange_len hx37_1i hx37_1g) <| Wy (.tup []) [(0, (Ar 84 3 enc_GChange (List.set (List.set y0_0 (Int.toNat (W6 (p1 + y10_0))) x28_1) (Int.toNat (W6 (p2 + y10_0))) x34_1)))] (Osr 0 rfl enc_GChange_len hx37_1g x34_1) <| Wdr <| Ino <| Tk 1039 1 ⟨.own 0::.i p1::.i p2::.i p3::tp 6 (.i y10_0::tp 27 []), [(Ar 84 3 enc_GChange (List.set (List.set y0_0 (Int.toNat (W6 (p1 + y10_0))) x28_1) (Int.toNat (W6 (p2 + y10_0))) x34_1))], 1⟩ <| Tx <| Wm (.i y10_0) rfl <| Wz (.i (W6 (y10_0 + 1))) (Obn rfl (fun _ => hb_add (k := .i64))) <| Wm (.i (W6 (y10_0 + 1))) rfl <| Wn0 <| RoundK.normal ?_
   exact Rounds.weak (Weak.toK 1039 0 0 [0]) (ih_0 (fu_0, (List.set (List.set y0_0 (Int.toNat (W6 (p1 + y10_0))) x28_1) (Int.toNat (W6 (p2 + y10_0))) x34_1), (W6 (y10_0 + 1))) hm (Nat.lt_succ_self _))
  ·
   replace hm := cF hc13_2 hm
   refine AiF hc13_2 <| AWP.exit <| Then.exit <| RoundK.exit <| InBlock.same ?_
   obtain rfl := Option.some.inj hm
   exact ret_n [0]

theorem ok_slices_rotateCmpFunc_tally_Change__tally_order (p0 : (List GChange)) (p1 : Int) (p2 : Int) (p3 : Int) (r : (List GChange)) (h : m_slices_rotateCmpFunc_tally_Change__tally_order p0 p1 p2 p3 = some r) : GCall Try.prog 87 [(.own 0), (.i p1), (.i p2), (.i p3), (.clo (.func 54) [] [])] [(Ar 84 3 enc_GChange p0)] (.tup []) [(Ar 84 3 enc_GChange r)] := by
 refine GCall.of_body (n := 58) (rs := []) Try.func87 rfl rfl rfl <| Ato ⟨.own 0::.i p1::.i p2::.i p3::.clo (.func 54) [] []::tu 53 [], [(Ar 84 3 enc_GChange p0)], 1⟩ ?_
 have hm := h
 unfold m_slices_rotateCmpFunc_tally_Change__tally_order at hm
 refine Sx <| Wm (.i p2) rfl <| Wm (.i p1) rfl <| Wz (.i (W6 (p2 - p1))) (Obn rfl (fun _ => hb_sub (k := .i64))) <| Wm (.i (W6 (p2 - p1))) rfl <| Nk 1053 1 ⟨.own 0::tp 1 (.i p2::.i p3::.clo (.func 54) [] []::tp 5 (.i (W6 (p2 - p1))::tp 47 [])), [(Ar 84 3 enc_GChange p0)], 1⟩ <| Sx <| Wm (.i p3) rfl <| Wm (.i p2) rfl <| Wz (.i (W6 (p3 - p2))) (Obn rfl (fun _ => hb_sub (k := .i64))) <| Wm (.i (W6 (p3 - p2))) rfl <| Nk 3093 1 ⟨.own 0::tp 1 (.i p2::tp 1 (.clo (.func 54) [] []::tp 5 (.i (W6 (p2 - p1))::.i (W6 (p3 - p2))::tp 46 []))), [(Ar 84 3 enc_GChange p0)], 1⟩ <| Sq <| Bk ?_
 refine AWP.loopI (α := Nat × (List GChange) × Int × Int)
   (fun (fu_0, y0_0, y10_0, y11_0) => (⟨.own 0::tp 1 (.i p2::tp 1 (.clo (.func 54) [] []::tp 5 (.i y10_0::.i y11_0::tp 46 []))), [(Ar 84 3 enc_GChange y0_0)], 1⟩ : St))
   (fun (fu_0, y0_0, y10_0, y11_0) => m_slices_rotateCmpFunc_tally_Change__tally_order_l0 p2 fu_0 y0_0 y10_0 y11_0 = some r)
   (fun (fu_0, y0_0, y10_0, y11_0) => fu_0) (1152921504606846976, p0, (W6 (p2 - p1)), (W6 (p3 - p2)))
   (Weak.toK 3093 0 0 [0]) hm ?_
 rintro ⟨fu_0, y0_0, y10_0, y11_0⟩ n_0 hm ih_0
 try dsimp only at hm ih_0 ⊢
 cases fu_0 with
 | zero => exact absurd hm (by unfold m_slices_rotateCmpFunc_tally_Change__tally_order_l0; simp)
 | succ fu_0 =>
  unfold m_slices_rotateCmpFunc_tally_Change__tally_order_l0 at hm
  refine Sq <| Sx <| Wm (.i y10_0) rfl <| Wm (.i y11_0) rfl <| Wz (.b (decide (y10_0 ≠ y11_0))) (Obn rfl (fun _ => hb_neq (k := .i64))) <| Nk 1051669 1 ⟨.own 0::tp 1 (.i p2::tp 1 (.clo (.func 54) [] []::tp 5 (.i y10_0::.i y11_0::tp 8 (.b (decide (y10_0 ≠ y11_0))::tp 37 [])))), [(Ar 84 3 enc_GChange y0_0)], 1⟩ ?_
  rcases tf_ (decide (y10_0 ≠ y11_0)) with hc20_4 | hc20_4
  ·
   replace hm := cT hc20_4 hm
   refine AiT hc20_4 <| Sk <| Tk 3093 1 ⟨.own 0::tp 1 (.i p2::tp 1 (.clo (.func 54) [] []::tp 5 (.i y10_0::.i y11_0::tp 46 []))), [(Ar 84 3 enc_GChange y0_0)], 1⟩ <| Bk <| Sx <| Wm (.i y10_0) rfl <| Wm (.i y11_0) rfl <| Wz (.b (decide (y11_0 < y10_0))) (Obn rfl (fun _ => hb_gtr (k := .i64))) <| Nk 8391701 1 ⟨.own 0::tp 1 (.i p2::tp 1 (.clo (.func 54) [] []::tp 5 (.i y10_0::.i y11_0::tp 11 (.b (decide (y11_0 < y10_0))::tp 34 [])))), [(Ar 84 3 enc_GChange y0_0)], 1⟩ ?_
   rcases tf_ (decide (y11_0 < y10_0)) with hc23_5 | hc23_5
   ·
    replace hm := cT hc23_5 hm
    refine AiT hc23_5 <| Sx <| Wm (.own 0) rfl <| Wm (.i p2) rfl <| Wm (.i y10_0) rfl <| Wz (.i (W6 (p2 - y10_0))) (Obn rfl (fun _ => hb_sub (k := .i64))) <| Wm (.i p2) rfl <| Wm (.i y11_0) rfl <| Wm (.clo (.func 54) [] []) rfl ?_
    obtain ⟨r31_1, hr31_1, hm⟩ := bnd hm
    refine Wy (.tup []) [(0, (Ar 84 3 enc_GChange r31_1))] (Ocf [0] [] [] 0 (ok_slices_swapRangeCmpFunc_tally_Change__tally_order y0_0 (W6 (p2 - y10_0)) p2 y11_0 r31_1 hr31_1) (fun a w => Try.call88 a w) rfl ⟨rfl, trivial⟩) <| Nk 3093 1 ⟨.own 0::tp 1 (.i p2::tp 1 (.clo (.func 54) [] []::tp 5 (.i y10_0::.i y11_0::tp 46 []))), [(Ar 84 3 enc_GChange r31_1)], 1⟩ <| Tx <| Wm (.i y10_0) rfl <| Wm (.i y11_0) rfl <| Wz (.i (W6 (y10_0 - y11_0))) (Obn rfl (fun _ => hb_sub (k := .i64))) <| Wm (.i (W6 (y10_0 - y11_0))) rfl <| Wn0 <| Ino <| RoundK.normal ?_
    exact Rounds.weak (Weak.toK 3093 0 0 [0]) (ih_0 (fu_0, r31_1, (W6 (y10_0 - y11_0)), y11_0) hm (Nat.lt_succ_self _))
   ·
    replace hm := cF hc23_5 hm
    refine AiF hc23_5 <| Sx <| Wm (.own 0) rfl <| Wm (.i p2) rfl <| Wm (.i y10_0) rfl <| Wz (.i (W6 (p2 - y10_0))) (Obn rfl (fun _ => hb_sub (k := .i64))) <| Wm (.i p2) rfl <| Wm (.i y11_0) rfl <| Wz (.i (W6 (p2 + y11_0))) (Obn rfl (fun _ => hb_add (k := .i64))) <| Wm (.i y10_0) rfl <| Wz (.i (W6 ((W6 (p2 + y11_0)) - y10_0))) (Obn rfl (fun _ => hb_sub (k := .i64))) <| Wm (.i y10_0) rfl <| Wm (.clo (.func 54) [] []) rfl ?_
    obtain ⟨r46_2, hr46_2, hm⟩ := bnd hm
    refine Wy (.tup []) [(0, (Ar 84 3 enc_GChange r46_2))] (Ocf [0] [] [] 0 (ok_slices_swapRangeCmpFunc_tally_Change__tally_order y0_0 (W6 (p2 - y10_0)) (W6 ((W6 (p2 + y11_0)) - y10_0)) y10_0 r46_2 hr46_2) (fun a w => Try.call88 a w) rfl ⟨rfl, trivial⟩) <| Nk 3093 1 ⟨.own 0::tp 1 (.i p2::tp 1 (.clo (.func 54) [] []::tp 5 (.i y10_0::.i y11_0::tp 46 []))), [(Ar 84 3 enc_GChange r46_2)], 1⟩ <| Tx <| Wm (.i y11_0) rfl <| Wm (.i y10_0) rfl <| Wz (.i (W6 (y11_0 - y10_0))) (Obn rfl (fun _ => hb_sub (k := .i64))) <| Wm (.i (W6 (y11_0 - y10_0))) rfl <| Wn0 <| Ino <| RoundK.normal ?_
    exact Rounds.weak (Weak.toK 3093 0 0 [0]) (ih_0 (fu_0, r46_2, y10_0, (W6 (y11_0 - y10_0))) hm (Nat.lt_succ_self _))
  ·
   replace hm := cF hc20_4 hm
   refine AiF hc20_4 <| AWP.exit <| Then.exit <| RoundK.exit <| InBlock.same <| Tk 1045 1 ⟨.own 0::tp 1 (.i p2::tp 1 (.clo (.func 54) [] []::tp 5 (.i y10_0::tp 47 []))), [(Ar 84 3 enc_GChange y0_0)], 1⟩ <| Tx <| Wm (.own 0) rfl <| Wm (.i p2) rfl <| Wm (.i y10_0) rfl <| Wz (.i (W6 (p2 - y10_0))) (Obn rfl (fun _ => hb_sub (k := .i64))) <| Wm (.i p2) rfl <| Wm (.i y10_0) rfl <| Wm (.clo (.func 54) [] []) rfl ?_
   obtain ⟨r57_3, hr57_3, hm⟩ := bnd hm
   refine Wy (.tup []) [(0, (Ar 84 3 enc_GChange r57_3))] (Ocf [0] [] [] 0 (ok_slices_swapRangeCmpFunc_tally_Change__tally_order y0_0 (W6 (p2 - y10_0)) p2 y10_0 r57_3 hr57_3) (fun a w => Try.call88 a w) rfl ⟨rfl, trivial⟩) <| Wn0 ?_
   obtain rfl := Option.some.inj hm
   exact ret_n [0]

theorem ok_slices_symMergeCmpFunc_tally_Change__tally_order : ∀ (fuR : Nat) (p0 : (List GChange)) (p1 : Int) (p2 : Int) (p3 : Int) (r : (List GChange)) (h : m_slices_symMergeCmpFunc_tally_Change__tally_order fuR p0 p1 p2 p3 = some r), GCall Try.prog 84 [(.own 0), (.i p1), (.i p2), (.i p3), (.clo (.func 54) [] [])] [(Ar 84 3 enc_GChange p0)] (.tup []) [(Ar 84 3 enc_GChange r)] := by
 intro fuR; induction fuR with
 | zero => intro p0 p1 p2 p3 r h; exact absurd h (by unfold m_slices_symMergeCmpFunc_tally_Change__tally_order; simp)
 | succ fuR ih =>
 intro p0 p1 p2 p3 r h
 refine GCall.of_body (n := 220) (rs := []) Try.func84 rfl rfl rfl <| Ato ⟨.own 0::.i p1::.i p2::.i p3::.clo (.func 54) [] []::tu 215 [], [(Ar 84 3 enc_GChange p0)], 1⟩ ?_
 have hm := h
 unfold m_slices_symMergeCmpFunc_tally_Change__tally_order at hm
 refine Sq <| Sx <| Wm (.i p2) rfl <| Wm (.i p1) rfl <| Wz (.i (W6 (p2 - p1))) (Obn rfl (fun _ => hb_sub (k := .i64))) <| Wz (.b (decide ((W6 (p2 - p1)) = 1))) (Obn rfl (fun _ => hb_eql (k := .i64))) <| Nk 268435487 1 ⟨.own 0::.i p1::.i p2::.i p3::.clo (.func 54) [] []::tp 23 (.b (decide ((W6 (p2 - p1)) = 1))::tp 191 []), [(Ar 84 3 enc_GChange p0)], 1⟩ ?_
 rcases tf_ (decide ((W6 (p2 - p1)) = 1)) with hc28_27 | hc28_27
 ·
  replace hm := cT hc28_27 hm
  refine AiT hc28_27 <| Sx <| Wm (.i p2) rfl <| Wm (.i p2) rfl <| Nk 1051 1 ⟨.own 0::.i p1::tp 1 (.i p3::.clo (.func 54) [] []::tp 5 (.i p2::tp 209 [])), [(Ar 84 3 enc_GChange p0)], 1⟩ <| Sx <| Wm (.i p3) rfl <| Wm (.i p3) rfl <| Nk 3091 1 ⟨.own 0::.i p1::tp 2 (.clo (.func 54) [] []::tp 5 (.i p2::.i p3::tp 208 [])), [(Ar 84 3 enc_GChange p0)], 1⟩ <| Sq <| Bk ?_
  refine AWP.loopI (α := Nat × Int × Int)
    (fun (fu_0, y10_0, y11_0) => (⟨.own 0::.i p1::tp 2 (.clo (.func 54) [] []::tp 5 (.i y10_0::.i y11_0::tp 208 [])), [(Ar 84 3 enc_GChange p0)], 1⟩ : St))
    (fun (fu_0, y10_0, y11_0) => m_slices_symMergeCmpFunc_tally_Change__tally_order_l0 p0 p1 fu_0 y10_0 y11_0 = some r)
    (fun (fu_0, y10_0, y11_0) => fu_0) (1152921504606846976, p2, p3)
    (Weak.toK 3091 0 0 [0]) hm ?_
  rintro ⟨fu_0, y10_0, y11_0⟩ n_0 hm ih_0
  try dsimp only at hm ih_0 ⊢
  cases fu_0 with
  | zero => exact absurd hm (by unfold m_slices_symMergeCmpFunc_tally_Change__tally_order_l0; simp)
  | succ fu_0 =>
   unfold m_slices_symMergeCmpFunc_tally_Change__tally_order_l0 at hm
   refine Sq <| Sx <| Wm (.i y10_0) rfl <| Wm (.i y11_0) rfl <| Wz (.b (decide (y10_0 < y11_0))) (Obn rfl (fun _ => hb_lss (k := .i64))) <| Nk 8589937683 1 ⟨.own 0::.i p1::tp 2 (.clo (.func 54) [] []::tp 5 (.i y10_0::.i y11_0::tp 21 (.b (decide (y10_0 < y11_0))::tp 186 []))), [(Ar 84 3 enc_GChange p0)], 1⟩ ?_
   rcases tf_ (decide (y10_0 < y11_0)) with hc33_28 | hc33_28
   ·
    replace hm := cT hc33_28 hm
    refine AiT hc33_28 <| Sk <| Tk 3091 1 ⟨.own 0::.i p1::tp 2 (.clo (.func 54) [] []::tp 5 (.i y10_0::.i y11_0::tp 208 [])), [(Ar 84 3 enc_GChange p0)], 1⟩ <| Bk <| Sx <| Wm (.i y10_0) rfl <| Wm (.i y11_0) rfl <| Wz (.i (W6 (y10_0 + y11_0))) (Obn rfl (fun _ => hb_add (k := .i64))) <| Wz (.u (W7 (W6 (y10_0 + y11_0)))) (Oc2 (.int .i64 (W6 (y10_0 + y11_0))) rfl (run_conv (ds := .int .i64) (k' := .u64) (by kernel_rfl) (by kernel_rfl))) <| Wz (.u (Int.fdiv (W7 (W6 (y10_0 + y11_0))) (2 ^ 1))) (Ob2 (.int .u64 (W7 (W6 (y10_0 + y11_0)))) (.int .u64 1) rfl (fun _ => hb_shr (n := 1) (by decide) rfl)) <| Wz (.i (W6 (Int.fdiv (W7 (W6 (y10_0 + y11_0))) (2 ^ 1)))) (Oc2 (.int .u64 (Int.fdiv (W7 (W6 (y10_0 + y11_0))) (2 ^ 1))) rfl (run_conv (ds := .int .u64) (k' := .i64) (by kernel_rfl) (by kernel_rfl))) <| Wm (.i (W6 (Int.fdiv (W7 (W6 (y10_0 + y11_0))) (2 ^ 1)))) rfl <| Nk 7187 1 ⟨.own 0::.i p1::tp 2 (.clo (.func 54) [] []::tp 5 (.i y10_0::.i y11_0::.i (W6 (Int.fdiv (W7 (W6 (y10_0 + y11_0))) (2 ^ 1)))::tp 207 [])), [(Ar 84 3 enc_GChange p0)], 1⟩ <| Sq ?_
    refine Adr <| Wm (.clo (.func 54) [] []) rfl <| Wm (.own 0) rfl <| Wm (.i (W6 (Int.fdiv (W7 (W6 (y10_0 + y11_0))) (2 ^ 1)))) rfl ?_
    obtain ⟨x43_2, hx43_2, hm⟩ := bnd hm
    obtain ⟨hx43_2i, hx43_2g⟩ := geti_some hx43_2
    refine Wz (.loc 0 ((Int.toNat (W6 (Int.fdiv (W7 (W6 (y10_0 + y11_0))) (2 ^ 1)))) * 3)) (Oia rfl enc_GChange_len hx43_2i hx43_2g) <| Wz (.agg [(.i x43_2.Loc), (.i x43_2.Time), (.i x43_2.N)]) (Lr rfl enc_GChange_len hx43_2g) <| Wm (.own 0) rfl <| Wm (.i p1) rfl ?_
    obtain ⟨x47_2, hx47_2, hm⟩ := bnd hm
    obtain ⟨hx47_2i, hx47_2g⟩ := geti_some hx47_2
    refine Wz (.loc 0 ((Int.toNat p1) * 3)) (Oia rfl enc_GChange_len hx47_2i hx47_2g) <| Wz (.agg [(.i x47_2.Loc), (.i x47_2.Time), (.i x47_2.N)]) (Lr rfl enc_GChange_len hx47_2g) ?_
    obtain ⟨r49_2, hr49_2, hm⟩ := bnd hm
    refine Wz (.i r49_2) (Ocf [] [] [] 0 (ok_tally_order x43_2 x47_2 r49_2 hr49_2) (fun a w => Try.call54 a w) rfl trivial) <| Wz (.b (decide (r49_2 < 0))) (Obn rfl (fun _ => hb_lss (k := .i64))) <| Wdr <| Tk 1125899906849811 1 ⟨.own 0::.i p1::tp 2 (.clo (.func 54) [] []::tp 5 (.i y10_0::.i y11_0::.i (W6 (Int.fdiv (W7 (W6 (y10_0 + y11_0))) (2 ^ 1)))::tp 37 (.b (decide (r49_2 < 0))::tp 169 []))), [(Ar 84 3 enc_GChange p0)], 1⟩ ?_
    rcases tf_ (decide (r49_2 < 0)) with hc50_29 | hc50_29
    ·
     replace hm := cT hc50_29 hm
     refine AiT hc50_29 <| Tx <| Wm (.i (W6 (Int.fdiv (W7 (W6 (y10_0 + y11_0))) (2 ^ 1)))) rfl ?_
     obtain ⟨v52_3, hv52_3, hm⟩ := bnd hm; replace hv52_3 := Option.some.inj hv52_3
     refine Wz (.i v52_3) (Ocs (congrArg (fun z => A.d (.lit (.int .i64 z))) hv52_3) (Obn rfl (fun _ => hb_add (k := .i64)))) <| Wm (.i v52_3) rfl <| Wn0 <| Ino <| RoundK.normal ?_
     exact Rounds.weak (Weak.toK 3091 0 0 [0]) (ih_0 (fu_0, v52_3, y11_0) hm (Nat.lt_succ_self _))
    ·
     replace hm := cF hc50_29 hm
     refine AiF hc50_29 <| Tx <| Wm (.i (W6 (Int.fdiv (W7 (W6 (y10_0 + y11_0))) (2 ^ 1)))) rfl <| Wm (.i (W6 (Int.fdiv (W7 (W6 (y10_0 + y11_0))) (2 ^ 1)))) rfl <| Wn0 <| Ino <| RoundK.normal ?_
     exact Rounds.weak (Weak.toK 3091 0 0 [0]) (ih_0 (fu_0, y10_0, (W6 (Int.fdiv (W7 (W6 (y10_0 + y11_0))) (2 ^ 1)))) hm (Nat.lt_succ_self _))
   ·
    replace hm := cF hc33_28 hm
    refine AiF hc33_28 <| AWP.exit <| Then.exit <| RoundK.exit <| InBlock.same <| Tk 1027 1 ⟨.own 0::.i p1::tp 8 (.i y10_0::tp 209 []), [(Ar 84 3 enc_GChange p0)], 1⟩ <| Sq <| Sx <| Wm (.i p1) rfl <| Wm (.i p1) rfl <| Nk 9217 1 ⟨.own 0::tp 9 (.i y10_0::tp 2 (.i p1::tp 206 [])), [(Ar 84 3 enc_GChange p0)], 1⟩ <| Bk ?_
    refine AWP.loopI (α := Nat × (List GChange) × Int)
      (fun (fu_4, y0_4, y13_4) => (⟨.own 0::tp 9 (.i y10_0::tp 2 (.i y13_4::tp 206 [])), [(Ar 84 3 enc_GChange y0_4)], 1⟩ : St))
      (fun (fu_4, y0_4, y13_4) => m_slices_symMergeCmpFunc_tally_Change__tally_order_l4 y10_0 fu_4 y0_4 y13_4 = some r)
      (fun (fu_4, y0_4, y13_4) => fu_4) (1152921504606846976, p0, p1)
      (Weak.toK 9217 0 0 [0]) hm ?_
    rintro ⟨fu_4, y0_4, y13_4⟩ n_4 hm ih_4
    try dsimp only at hm ih_4 ⊢
    cases fu_4 with
    | zero => exact absurd hm (by unfold m_slices_symMergeCmpFunc_tally_Change__tally_order_l4; simp)
    | succ fu_4 =>
     unfold m_slices_symMergeCmpFunc_tally_Change__tally_order_l4 at hm
     refine Sq <| Sx <| Wm (.i y13_4) rfl <| Wm (.i y10_0) rfl <| Wz (.i (W6 (y10_0 - 1))) (Obn rfl (fun _ => hb_sub (k := .i64))) <| Wz (.b (decide (y13_4 < (W6 (y10_0 - 1))))) (Obn rfl (fun _ => hb_lss (k := .i64))) <| Nk 288230376151720961 1 ⟨.own 0::tp 9 (.i y10_0::tp 2 (.i y13_4::tp 44 (.b (decide (y13_4 < (W6 (y10_0 - 1))))::tp 161 []))), [(Ar 84 3 enc_GChange y0_4)], 1⟩ ?_
     rcases tf_ (decide (y13_4 < (W6 (y10_0 - 1)))) with hc58_30 | hc58_30
     ·
      replace hm := cT hc58_30 hm
      refine AiT hc58_30 <| Sk <| Tk 9217 1 ⟨.own 0::tp 9 (.i y10_0::tp 2 (.i y13_4::tp 206 [])), [(Ar 84 3 enc_GChange y0_4)], 1⟩ <| Sq <| Bk <| Adr <| Wm (.own 0) rfl <| Wm (.i y13_4) rfl <| Wm (.own 0) rfl <| Wm (.i y13_4) rfl <| Wz (.i (W6 (y13_4 + 1))) (Obn rfl (fun _ => hb_add (k := .i64))) <| Wm (.own 0) rfl <| Wm (.i y13_4) rfl <| Wz (.i (W6 (y13_4 + 1))) (Obn rfl (fun _ => hb_add (k := .i64))) ?_
      obtain ⟨x69_5, hx69_5, hm⟩ := bnd hm
      obtain ⟨hx69_5i, hx69_5g⟩ := geti_some hx69_5
      refine Wz (.loc 0 ((Int.toNat (W6 (y13_4 + 1))) * 3)) (Oia rfl enc_GChange_len hx69_5i hx69_5g) <| Wz (.agg [(.i x69_5.Loc), (.i x69_5.Time), (.i x69_5.N)]) (Lr rfl enc_GChange_len hx69_5g) <| Wm (.own 0) rfl <| Wm (.i y13_4) rfl ?_
      obtain ⟨x73_5, hx73_5, hm⟩ := bnd hm
      obtain ⟨hx73_5i, hx73_5g⟩ := geti_some hx73_5
      refine Wz (.loc 0 ((Int.toNat y13_4) * 3)) (Oia rfl enc_GChange_len hx73_5i hx73_5g) <| Wz (.agg [(.i x73_5.Loc), (.i x73_5.Time), (.i x73_5.N)]) (Lr rfl enc_GChange_len hx73_5g) ?_
      obtain ⟨x75_5, hx75_5, hm⟩ := bnd hm
      obtain ⟨hx75_5i, hx75_5g⟩ := geti_some hx75_5
      refine Wz (.loc 0 ((Int.toNat y13_4) * 3)) (Oia rfl enc_GChange_len hx75_5i hx75_5g) <| Wy (.tup []) [(0, (Ar 84 3 enc_GChange (List.set y0_4 (Int.toNat y13_4) x69_5)))] (Osr 0 rfl enc_GChange_len hx75_5g x69_5) ?_
      obtain ⟨x76_5, hx76_5, hm⟩ := bnd hm
      obtain ⟨hx76_5i, hx76_5g⟩ := geti_some hx76_5
      refine Wz (.loc 0 ((Int.toNat (W6 (y13_4 + 1))) * 3)) (Oia rfl enc_GChange_len hx76_5i hx76_5g) <| Wy (.tup []) [(0, (Ar 84 3 enc_GChange (List.set (List.set y0_4 (Int.toNat y13_4) x69_5) (Int.toNat (W6 (y13_4 + 1))) x73_5)))] (Osr 0 rfl enc_GChange_len hx76_5g x73_5) <| Wdr <| Ino <| Tk 9217 1 ⟨.own 0::tp 9 (.i y10_0::tp 2 (.i y13_4::tp 206 [])), [(Ar 84 3 enc_GChange (List.set (List.set y0_4 (Int.toNat y13_4) x69_5) (Int.toNat (W6 (y13_4 + 1))) x73_5))], 1⟩ <| Tx <| Wm (.i y13_4) rfl <| Wz (.i (W6 (y13_4 + 1))) (Obn rfl (fun _ => hb_add (k := .i64))) <| Wm (.i (W6 (y13_4 + 1))) rfl <| Wn0 <| RoundK.normal ?_
      exact Rounds.weak (Weak.toK 9217 0 0 [0]) (ih_4 (fu_4, (List.set (List.set y0_4 (Int.toNat y13_4) x69_5) (Int.toNat (W6 (y13_4 + 1))) x73_5), (W6 (y13_4 + 1))) hm (Nat.lt_succ_self _))
     ·
      replace hm := cF hc58_30 hm
      refine AiF hc58_30 <| AWP.exit <| Then.exit <| RoundK.exit <| InBlock.same <| Tn <| Rt <| Tr ?_
      obtain rfl := Option.some.inj hm
      exact ret_i [0]
 ·
  replace hm := cF hc28_27 hm
  refine AiF hc28_27 <| Sk <| Tk 31 1 ⟨.own 0::.i p1::.i p2::.i p3::.clo (.func 54) [] []::tp 215 [], [(Ar 84 3 enc_GChange p0)], 1⟩ <| Sq <| Sx <| Wm (.i p3) rfl <| Wm (.i p2) rfl <| Wz (.i (W6 (p3 - p2))) (Obn rfl (fun _ => hb_sub (k := .i64))) <| Wz (.b (decide ((W6 (p3 - p2)) = 1))) (Obn rfl (fun _ => hb_eql (k := .i64))) <| Nk 1208925819614629174706207 1 ⟨.own 0::.i p1::.i p2::.i p3::.clo (.func 54) [] []::tp 75 (.b (decide ((W6 (p3 - p2)) = 1))::tp 139 []), [(Ar 84 3 enc_GChange p0)], 1⟩ ?_
  rcases tf_ (decide ((W6 (p3 - p2)) = 1)) with hc80_31 | hc80_31
  ·
   replace hm := cT hc80_31 hm
   refine AiT hc80_31 <| Sx <| Wm (.i p1) rfl <| Wm (.i p1) rfl <| Nk 16405 1 ⟨.own 0::tp 1 (.i p2::tp 1 (.clo (.func 54) [] []::tp 9 (.i p1::tp 205 []))), [(Ar 84 3 enc_GChange p0)], 1⟩ <| Sx <| Wm (.i p2) rfl <| Wm (.i p2) rfl <| Nk 49173 1 ⟨.own 0::tp 1 (.i p2::tp 1 (.clo (.func 54) [] []::tp 9 (.i p1::.i p2::tp 204 []))), [(Ar 84 3 enc_GChange p0)], 1⟩ <| Sq <| Bk ?_
   refine AWP.loopI (α := Nat × Int × Int)
     (fun (fu_6, y14_6, y15_6) => (⟨.own 0::tp 1 (.i p2::tp 1 (.clo (.func 54) [] []::tp 9 (.i y14_6::.i y15_6::tp 204 []))), [(Ar 84 3 enc_GChange p0)], 1⟩ : St))
     (fun (fu_6, y14_6, y15_6) => m_slices_symMergeCmpFunc_tally_Change__tally_order_l6 p0 p2 fu_6 y14_6 y15_6 = some r)
     (fun (fu_6, y14_6, y15_6) => fu_6) (1152921504606846976, p1, p2)
     (Weak.toK 49173 0 0 [0]) hm ?_
   rintro ⟨fu_6, y14_6, y15_6⟩ n_6 hm ih_6
   try dsimp only at hm ih_6 ⊢
   cases fu_6 with
   | zero => exact absurd hm (by unfold m_slices_symMergeCmpFunc_tally_Change__tally_order_l6; simp)
   | succ fu_6 =>
    unfold m_slices_symMergeCmpFunc_tally_Change__tally_order_l6 at hm
    refine Sq <| Sx <| Wm (.i y14_6) rfl <| Wm (.i y15_6) rfl <| Wz (.b (decide (y14_6 < y15_6))) (Obn rfl (fun _ => hb_lss (k := .i64))) <| Nk 38685626227668133590646805 1 ⟨.own 0::tp 1 (.i p2::tp 1 (.clo (.func 54) [] []::tp 9 (.i y14_6::.i y15_6::tp 69 (.b (decide (y14_6 < y15_6))::tp 134 [])))), [(Ar 84 3 enc_GChange p0)], 1⟩ ?_
    rcases tf_ (decide (y14_6 < y15_6)) with hc85_32 | hc85_32
    ·
     replace hm := cT hc85_32 hm
     refine AiT hc85_32 <| Sk <| Tk 49173 1 ⟨.own 0::tp 1 (.i p2::tp 1 (.clo (.func 54) [] []::tp 9 (.i y14_6::.i y15_6::tp 204 []))), [(Ar 84 3 enc_GChange p0)], 1⟩ <| Bk <| Sx <| Wm (.i y14_6) rfl <| Wm (.i y15_6) rfl <| Wz (.i (W6 (y14_6 + y15_6))) (Obn rfl (fun _ => hb_add (k := .i64))) <| Wz (.u (W7 (W6 (y14_6 + y15_6)))) (Oc2 (.int .i64 (W6 (y14_6 + y15_6))) rfl (run_conv (ds := .int .i64) (k' := .u64) (by kernel_rfl) (by kernel_rfl))) <| Wz (.u (Int.fdiv (W7 (W6 (y14_6 + y15_6))) (2 ^ 1))) (Ob2 (.int .u64 (W7 (W6 (y14_6 + y15_6)))) (.int .u64 1) rfl (fun _ => hb_shr (n := 1) (by decide) rfl)) <| Wz (.i (W6 (Int.fdiv (W7 (W6 (y14_6 + y15_6))) (2 ^ 1)))) (Oc2 (.int .u64 (Int.fdiv (W7 (W6 (y14_6 + y15_6))) (2 ^ 1))) rfl (run_conv (ds := .int .u64) (k' := .i64) (by kernel_rfl) (by kernel_rfl))) <| Wm (.i (W6 (Int.fdiv (W7 (W6 (y14_6 + y15_6))) (2 ^ 1)))) rfl <| Nk 114709 1 ⟨.own 0::tp 1 (.i p2::tp 1 (.clo (.func 54) [] []::tp 9 (.i y14_6::.i y15_6::.i (W6 (Int.fdiv (W7 (W6 (y14_6 + y15_6))) (2 ^ 1)))::tp 203 []))), [(Ar 84 3 enc_GChange p0)], 1⟩ <| Sq ?_
     refine Adr <| Wm (.clo (.func 54) [] []) rfl <| Wm (.own 0) rfl <| Wm (.i p2) rfl ?_
     obtain ⟨x95_8, hx95_8, hm⟩ := bnd hm
     obtain ⟨hx95_8i, hx95_8g⟩ := geti_some hx95_8
     refine Wz (.loc 0 ((Int.toNat p2) * 3)) (Oia rfl enc_GChange_len hx95_8i hx95_8g) <| Wz (.agg [(.i x95_8.Loc), (.i x95_8.Time), (.i x95_8.N)]) (Lr rfl enc_GChange_len hx95_8g) <| Wm (.own 0) rfl <| Wm (.i (W6 (Int.fdiv (W7 (W6 (y14_6 + y15_6))) (2 ^ 1)))) rfl ?_
     obtain ⟨x99_8, hx99_8, hm⟩ := bnd hm
     obtain ⟨hx99_8i, hx99_8g⟩ := geti_some hx99_8
     refine Wz (.loc 0 ((Int.toNat (W6 (Int.fdiv (W7 (W6 (y14_6 + y15_6))) (2 ^ 1)))) * 3)) (Oia rfl enc_GChange_len hx99_8i hx99_8g) <| Wz (.agg [(.i x99_8.Loc), (.i x99_8.Time), (.i x99_8.N)]) (Lr rfl enc_GChange_len hx99_8g) ?_
     obtain ⟨r101_8, hr101_8, hm⟩ := bnd hm
     refine Wz (.i r101_8) (Ocf [] [] [] 0 (ok_tally_order x95_8 x99_8 r101_8 hr101_8) (fun a w => Try.call54 a w) rfl trivial) <| Wz (.b (decide (r101_8 < 0))) (Obn rfl (fun _ => hb_lss (k := .i64))) <| Wz (.b (!decide (r101_8 < 0))) (Ocs (by kernel_rfl) (op_un rfl (a1 := .bool (decide (r101_8 < 0))) (by kernel_rfl) (fun _ => hu_not))) <| Wdr <| Tk 10141204801825835211973625757717 1 ⟨.own 0::tp 1 (.i p2::tp 1 (.clo (.func 54) [] []::tp 9 (.i y14_6::.i y15_6::.i (W6 (Int.fdiv (W7 (W6 (y14_6 + y15_6))) (2 ^ 1)))::tp 86 (.b (!decide (r101_8 < 0))::tp 116 [])))), [(Ar 84 3 enc_GChange p0)], 1⟩ ?_
     rcases tf_ (!decide (r101_8 < 0)) with hc103_33 | hc103_33
     ·
      replace hm := cT hc103_33 hm
      refine AiT hc103_33 <| Tx <| Wm (.i (W6 (Int.fdiv (W7 (W6 (y14_6 + y15_6))) (2 ^ 1)))) rfl ?_
      obtain ⟨v105_9, hv105_9, hm⟩ := bnd hm; replace hv105_9 := Option.some.inj hv105_9
      refine Wz (.i v105_9) (Ocs (congrArg (fun z => A.d (.lit (.int .i64 z))) hv105_9) (Obn rfl (fun _ => hb_add (k := .i64)))) <| Wm (.i v105_9) rfl <| Wn0 <| Ino <| RoundK.normal ?_
      exact Rounds.weak (Weak.toK 49173 0 0 [0]) (ih_6 (fu_6, v105_9, y15_6) hm (Nat.lt_succ_self _))
     ·
      replace hm := cF hc103_33 hm
      refine AiF hc103_33 <| Tx <| Wm (.i (W6 (Int.fdiv (W7 (W6 (y14_6 + y15_6))) (2 ^ 1)))) rfl <| Wm (.i (W6 (Int.fdiv (W7 (W6 (y14_6 + y15_6))) (2 ^ 1)))) rfl <| Wn0 <| Ino <| RoundK.normal ?_
      exact Rounds.weak (Weak.toK 49173 0 0 [0]) (ih_6 (fu_6, y14_6, (W6 (Int.fdiv (W7 (W6 (y14_6 + y15_6))) (2 ^ 1)))) hm (Nat.lt_succ_self _))
    ·
     replace hm := cF hc85_32 hm
     refine AiF hc85_32 <| AWP.exit <| Then.exit <| RoundK.exit <| InBlock.same <| Tk 16389 1 ⟨.own 0::tp 1 (.i p2::tp 11 (.i y14_6::tp 205 [])), [(Ar 84 3 enc_GChange p0)], 1⟩ <| Sq <| Sx <| Wm (.i p2) rfl <| Wm (.i p2) rfl <| Nk 147457 1 ⟨.own 0::tp 13 (.i y14_6::tp 2 (.i p2::tp 202 [])), [(Ar 84 3 enc_GChange p0)], 1⟩ <| Bk ?_
     refine AWP.loopI (α := Nat × (List GChange) × Int)
       (fun (fu_10, y0_10, y17_10) => (⟨.own 0::tp 13 (.i y14_6::tp 2 (.i y17_10::tp 202 [])), [(Ar 84 3 enc_GChange y0_10)], 1⟩ : St))
       (fun (fu_10, y0_10, y17_10) => m_slices_symMergeCmpFunc_tally_Change__tally_order_l10 y14_6 fu_10 y0_10 y17_10 = some r)
       (fun (fu_10, y0_10, y17_10) => fu_10) (1152921504606846976, p0, p2)
       (Weak.toK 147457 0 0 [0]) hm ?_
     rintro ⟨fu_10, y0_10, y17_10⟩ n_10 hm ih_10
     try dsimp only at hm ih_10 ⊢
     cases fu_10 with
     | zero => exact absurd hm (by unfold m_slices_symMergeCmpFunc_tally_Change__tally_order_l10; simp)
     | succ fu_10 =>
      unfold m_slices_symMergeCmpFunc_tally_Change__tally_order_l10 at hm
      refine Sq <| Sx <| Wm (.i y17_10) rfl <| Wm (.i y14_6) rfl <| Wz (.b (decide (y14_6 < y17_10))) (Obn rfl (fun _ => hb_gtr (k := .i64))) <| Nk 1298074214633706907132624082452481 1 ⟨.own 0::tp 13 (.i y14_6::tp 2 (.i y17_10::tp 92 (.b (decide (y14_6 < y17_10))::tp 109 []))), [(Ar 84 3 enc_GChange y0_10)], 1⟩ ?_
      rcases tf_ (decide (y14_6 < y17_10)) with hc110_34 | hc110_34
      ·
       replace hm := cT hc110_34 hm
       refine AiT hc110_34 <| Sk <| Tk 147457 1 ⟨.own 0::tp 13 (.i y14_6::tp 2 (.i y17_10::tp 202 [])), [(Ar 84 3 enc_GChange y0_10)], 1⟩ <| Sq <| Bk <| Adr <| Wm (.own 0) rfl <| Wm (.i y17_10) rfl <| Wm (.own 0) rfl <| Wm (.i y17_10) rfl <| Wz (.i (W6 (y17_10 - 1))) (Obn rfl (fun _ => hb_sub (k := .i64))) <| Wm (.own 0) rfl <| Wm (.i y17_10) rfl <| Wz (.i (W6 (y17_10 - 1))) (Obn rfl (fun _ => hb_sub (k := .i64))) ?_
       obtain ⟨x121_11, hx121_11, hm⟩ := bnd hm
       obtain ⟨hx121_11i, hx121_11g⟩ := geti_some hx121_11
       refine Wz (.loc 0 ((Int.toNat (W6 (y17_10 - 1))) * 3)) (Oia rfl enc_GChange_len hx121_11i hx121_11g) <| Wz (.agg [(.i x121_11.Loc), (.i x121_11.Time), (.i x121_11.N)]) (Lr rfl enc_GChange_len hx121_11g) <| Wm (.own 0) rfl <| Wm (.i y17_10) rfl ?_
       obtain ⟨x125_11, hx125_11, hm⟩ := bnd hm
       obtain ⟨hx125_11i, hx125_11g⟩ := geti_some hx125_11
       refine Wz (.loc 0 ((Int.toNat y17_10) * 3)) (Oia rfl enc_GChange_len hx125_11i hx125_11g) <| Wz (.agg [(.i x125_11.Loc), (.i x125_11.Time), (.i x125_11.N)]) (Lr rfl enc_GChange_len hx125_11g) ?_
       obtain ⟨x127_11, hx127_11, hm⟩ := bnd hm
       obtain ⟨hx127_11i, hx127_11g⟩ := geti_some hx127_11
       refine Wz (.loc 0 ((Int.toNat y17_10) * 3)) (Oia rfl enc_GChange_len hx127_11i hx127_11g) <| Wy (.tup []) [(0, (Ar 84 3 enc_GChange (List.set y0_10 (Int.toNat y17_10) x121_11)))] (Osr 0 rfl enc_GChange_len hx127_11g x121_11) ?_
       obtain ⟨x128_11, hx128_11, hm⟩ := bnd hm
       obtain ⟨hx128_11i, hx128_11g⟩ := geti_some hx128_11
       refine Wz (.loc 0 ((Int.toNat (W6 (y17_10 - 1))) * 3)) (Oia rfl enc_GChange_len hx128_11i hx128_11g) <| Wy (.tup []) [(0, (Ar 84 3 enc_GChange (List.set (List.set y0_10 (Int.toNat y17_10) x121_11) (Int.toNat (W6 (y17_10 - 1))) x125_11)))] (Osr 0 rfl enc_GChange_len hx128_11g x125_11) <| Wdr <| Ino <| Tk 147457 1 ⟨.own 0::tp 13 (.i y14_6::tp 2 (.i y17_10::tp 202 [])), [(Ar 84 3 enc_GChange (List.set (List.set y0_10 (Int.toNat y17_10) x121_11) (Int.toNat (W6 (y17_10 - 1))) x125_11))], 1⟩ <| Tx <| Wm (.i y17_10) rfl <| Wz (.i (W6 (y17_10 - 1))) (Obn rfl (fun _ => hb_sub (k := .i64))) <| Wm (.i (W6 (y17_10 - 1))) rfl <| Wn0 <| RoundK.normal ?_
       exact Rounds.weak (Weak.toK 147457 0 0 [0]) (ih_10 (fu_10, (List.set (List.set y0_10 (Int.toNat y17_10) x121_11) (Int.toNat (W6 (y17_10 - 1))) x125_11), (W6 (y17_10 - 1))) hm (Nat.lt_succ_self _))
      ·
       replace hm := cF hc110_34 hm
       refine AiF hc110_34 <| AWP.exit <| Then.exit <| RoundK.exit <| InBlock.same <| Tn <| Rt <| Tr ?_
       obtain rfl := Option.some.inj hm
       exact ret_i [0]
  ·
   replace hm := cF hc80_31 hm
   refine AiF hc80_31 <| Sk <| Tk 31 1 ⟨.own 0::.i p1::.i p2::.i p3::.clo (.func 54) [] []::tp 215 [], [(Ar 84 3 enc_GChange p0)], 1⟩ <| Sx <| Wm (.i p1) rfl <| Wm (.i p3) rfl <| Wz (.i (W6 (p1 + p3))) (Obn rfl (fun _ => hb_add (k := .i64))) <| Wz (.u (W7 (W6 (p1 + p3)))) (Oc2 (.int .i64 (W6 (p1 + p3))) rfl (run_conv (ds := .int .i64) (k' := .u64) (by kernel_rfl) (by kernel_rfl))) <| Wz (.u (Int.fdiv (W7 (W6 (p1 + p3))) (2 ^ 1))) (Ob2 (.int .u64 (W7 (W6 (p1 + p3)))) (.int .u64 1) rfl (fun _ => hb_shr (n := 1) (by decide) rfl)) <| Wz (.i (W6 (Int.fdiv (W7 (W6 (p1 + p3))) (2 ^ 1)))) (Oc2 (.int .u64 (Int.fdiv (W7 (W6 (p1 + p3))) (2 ^ 1))) rfl (run_conv (ds := .int .u64) (k' := .i64) (by kernel_rfl) (by kernel_rfl))) <| Wm (.i (W6 (Int.fdiv (W7 (W6 (p1 + p3))) (2 ^ 1)))) rfl <| Nk 262175 1 ⟨.own 0::.i p1::.i p2::.i p3::.clo (.func 54) [] []::tp 13 (.i (W6 (Int.fdiv (W7 (W6 (p1 + p3))) (2 ^ 1)))::tp 201 []), [(Ar 84 3 enc_GChange p0)], 1⟩ <| Sx <| Wm (.i (W6 (Int.fdiv (W7 (W6 (p1 + p3))) (2 ^ 1)))) rfl ?_
   refine Wm (.i p2) rfl ?_
   obtain ⟨v137_13, hv137_13, hm⟩ := bnd hm; replace hv137_13 := Option.some.inj hv137_13
   refine Wz (.i v137_13) (Ocs (congrArg (fun z => A.d (.lit (.int .i64 z))) hv137_13) (Obn rfl (fun _ => hb_add (k := .i64)))) <| Wm (.i v137_13) rfl <| Nk 786463 1 ⟨.own 0::.i p1::.i p2::.i p3::.clo (.func 54) [] []::tp 13 (.i (W6 (Int.fdiv (W7 (W6 (p1 + p3))) (2 ^ 1)))::.i v137_13::tp 200 []), [(Ar 84 3 enc_GChange p0)], 1⟩ <| Sx <| Wm (.i 0) rfl <| Wm (.i 0) rfl <| Nk 786463 1 ⟨.own 0::.i p1::.i p2::.i p3::.clo (.func 54) [] []::tp 13 (.i (W6 (Int.fdiv (W7 (W6 (p1 + p3))) (2 ^ 1)))::.i v137_13::tp 200 []), [(Ar 84 3 enc_GChange p0)], 1⟩ ?_
   refine AWP.cutJ (α := Int × Int) (fun (y20_14, y21_14) => (⟨.own 0::.i p1::.i p2::.i p3::.clo (.func 54) [] []::tp 13 (.i (W6 (Int.fdiv (W7 (W6 (p1 + p3))) (2 ^ 1)))::.i v137_13::.i y20_14::.i y21_14::tp 198 []), [(Ar 84 3 enc_GChange p0)], 1⟩ : St)) (fun (y20_14, y21_14) => m_slices_symMergeCmpFunc_tally_Change__tally_order_j14 p0 p1 p2 p3 v137_13 (fun p0 p1 p2 p3 => m_slices_symMergeCmpFunc_tally_Change__tally_order fuR p0 p1 p2 p3) y20_14 y21_14 = some r) ?_ (fun J14 => ?_)
   ·
    rintro ⟨y20_14, y21_14⟩ hm
    try dsimp only at hm ⊢
    unfold m_slices_symMergeCmpFunc_tally_Change__tally_order_j14 at hm
    refine Sx <| Wm (.i v137_13) rfl <| Wz (.i (W6 (v137_13 - 1))) (Obn rfl (fun _ => hb_sub (k := .i64))) <| Wm (.i (W6 (v137_13 - 1))) rfl <| Nk 8126495 1 ⟨.own 0::.i p1::.i p2::.i p3::.clo (.func 54) [] []::tp 13 (.i (W6 (Int.fdiv (W7 (W6 (p1 + p3))) (2 ^ 1)))::.i v137_13::.i y20_14::.i y21_14::.i (W6 (v137_13 - 1))::tp 197 []), [(Ar 84 3 enc_GChange p0)], 1⟩ <| Sq <| Bk ?_
    refine AWP.loopI (α := Nat × Int × Int)
      (fun (fu_15, y20_15, y21_15) => (⟨.own 0::.i p1::.i p2::.i p3::.clo (.func 54) [] []::tp 13 (.i (W6 (Int.fdiv (W7 (W6 (p1 + p3))) (2 ^ 1)))::.i v137_13::.i y20_15::.i y21_15::.i (W6 (v137_13 - 1))::tp 197 []), [(Ar 84 3 enc_GChange p0)], 1⟩ : St))
      (fun (fu_15, y20_15, y21_15) => m_slices_symMergeCmpFunc_tally_Change__tally_order_l15 p0 p1 p2 p3 v137_13 (fun p0 p1 p2 p3 => m_slices_symMergeCmpFunc_tally_Change__tally_order fuR p0 p1 p2 p3) fu_15 y20_15 y21_15 = some r)
      (fun (fu_15, y20_15, y21_15) => fu_15) (1152921504606846976, y20_14, y21_14)
      (Weak.toK 8126495 0 0 [0]) hm ?_
    rintro ⟨fu_15, y20_15, y21_15⟩ n_15 hm ih_15
    try dsimp only at hm ih_15 ⊢
    cases fu_15 with
    | zero => exact absurd hm (by unfold m_slices_symMergeCmpFunc_tally_Change__tally_order_l15; simp)
    | succ fu_15 =>
     unfold m_slices_symMergeCmpFunc_tally_Change__tally_order_l15 at hm
     refine Sq <| Sx <| Wm (.i y20_15) rfl <| Wm (.i y21_15) rfl <| Wz (.b (decide (y20_15 < y21_15))) (Obn rfl (fun _ => hb_lss (k := .i64))) <| Nk 2854495385411919762116571938898990272773619743 1 ⟨.own 0::.i p1::.i p2::.i p3::.clo (.func 54) [] []::tp 13 (.i (W6 (Int.fdiv (W7 (W6 (p1 + p3))) (2 ^ 1)))::.i v137_13::.i y20_15::.i y21_15::.i (W6 (v137_13 - 1))::tp 128 (.b (decide (y20_15 < y21_15))::tp 68 [])), [(Ar 84 3 enc_GChange p0)], 1⟩ ?_
     rcases tf_ (decide (y20_15 < y21_15)) with hc151_35 | hc151_35
     ·
      replace hm := cT hc151_35 hm
      refine AiT hc151_35 <| Sk <| Tk 8126495 1 ⟨.own 0::.i p1::.i p2::.i p3::.clo (.func 54) [] []::tp 13 (.i (W6 (Int.fdiv (W7 (W6 (p1 + p3))) (2 ^ 1)))::.i v137_13::.i y20_15::.i y21_15::.i (W6 (v137_13 - 1))::tp 197 []), [(Ar 84 3 enc_GChange p0)], 1⟩ <| Bk <| Sx <| Wm (.i y20_15) rfl <| Wm (.i y21_15) rfl <| Wz (.i (W6 (y20_15 + y21_15))) (Obn rfl (fun _ => hb_add (k := .i64))) <| Wz (.u (W7 (W6 (y20_15 + y21_15)))) (Oc2 (.int .i64 (W6 (y20_15 + y21_15))) rfl (run_conv (ds := .int .i64) (k' := .u64) (by kernel_rfl) (by kernel_rfl))) <| Wz (.u (Int.fdiv (W7 (W6 (y20_15 + y21_15))) (2 ^ 1))) (Ob2 (.int .u64 (W7 (W6 (y20_15 + y21_15)))) (.int .u64 1) rfl (fun _ => hb_shr (n := 1) (by decide) rfl)) <| Wz (.i (W6 (Int.fdiv (W7 (W6 (y20_15 + y21_15))) (2 ^ 1)))) (Oc2 (.int .u64 (Int.fdiv (W7 (W6 (y20_15 + y21_15))) (2 ^ 1))) rfl (run_conv (ds := .int .u64) (k' := .i64) (by kernel_rfl) (by kernel_rfl))) <| Wm (.i (W6 (Int.fdiv (W7 (W6 (y20_15 + y21_15))) (2 ^ 1)))) rfl <| Nk 16515103 1 ⟨.own 0::.i p1::.i p2::.i p3::.clo (.func 54) [] []::tp 13 (.i (W6 (Int.fdiv (W7 (W6 (p1 + p3))) (2 ^ 1)))::.i v137_13::.i y20_15::.i y21_15::.i (W6 (v137_13 - 1))::.i (W6 (Int.fdiv (W7 (W6 (y20_15 + y21_15))) (2 ^ 1)))::tp 196 []), [(Ar 84 3 enc_GChange p0)], 1⟩ <| Sq ?_
      refine Adr <| Wm (.clo (.func 54) [] []) rfl <| Wm (.own 0) rfl <| Wm (.i (W6 (v137_13 - 1))) rfl <| Wm (.i (W6 (Int.fdiv (W7 (W6 (y20_15 + y21_15))) (2 ^ 1)))) rfl ?_
      obtain ⟨v162_17, hv162_17, hm⟩ := bnd hm; replace hv162_17 := Option.some.inj hv162_17
      refine Wz (.i v162_17) (Ocs (congrArg (fun z => A.d (.lit (.int .i64 z))) hv162_17) (Obn rfl (fun _ => hb_sub (k := .i64)))) ?_
      obtain ⟨x163_17, hx163_17, hm⟩ := bnd hm
      obtain ⟨hx163_17i, hx163_17g⟩ := geti_some hx163_17
      refine Wz (.loc 0 ((Int.toNat v162_17) * 3)) (Oia rfl enc_GChange_len hx163_17i hx163_17g) <| Wz (.agg [(.i x163_17.Loc), (.i x163_17.Time), (.i x163_17.N)]) (Lr rfl enc_GChange_len hx163_17g) <| Wm (.own 0) rfl <| Wm (.i (W6 (Int.fdiv (W7 (W6 (y20_15 + y21_15))) (2 ^ 1)))) rfl ?_
      obtain ⟨x167_17, hx167_17, hm⟩ := bnd hm
      obtain ⟨hx167_17i, hx167_17g⟩ := geti_some hx167_17
      refine Wz (.loc 0 ((Int.toNat (W6 (Int.fdiv (W7 (W6 (y20_15 + y21_15))) (2 ^ 1)))) * 3)) (Oia rfl enc_GChange_len hx167_17i hx167_17g) <| Wz (.agg [(.i x167_17.Loc), (.i x167_17.Time), (.i x167_17.N)]) (Lr rfl enc_GChange_len hx167_17g) ?_
      obtain ⟨r169_17, hr169_17, hm⟩ := bnd hm
      refine Wz (.i r169_17) (Ocf [] [] [] 0 (ok_tally_order x163_17 x167_17 r169_17 hr169_17) (fun a w => Try.call54 a w) rfl trivial) <| Wz (.b (decide (r169_17 < 0))) (Obn rfl (fun _ => hb_lss (k := .i64))) <| Wz (.b (!decide (r169_17 < 0))) (Ocs (by kernel_rfl) (op_un rfl (a1 := .bool (decide (r169_17 < 0))) (by kernel_rfl) (fun _ => hu_not))) <| Wdr <| Tk 2993155353253689176481146537402947624255349864529951 1 ⟨.own 0::.i p1::.i p2::.i p3::.clo (.func 54) [] []::tp 13 (.i (W6 (Int.fdiv (W7 (W6 (p1 + p3))) (2 ^ 1)))::.i v137_13::.i y20_15::.i y21_15::.i (W6 (v137_13 - 1))::.i (W6 (Int.fdiv (W7 (W6 (y20_15 + y21_15))) (2 ^ 1)))::tp 147 (.b (!decide (r169_17 < 0))::tp 48 [])), [(Ar 84 3 enc_GChange p0)], 1⟩ ?_
      rcases tf_ (!decide (r169_17 < 0)) with hc171_36 | hc171_36
      ·
       replace hm := cT hc171_36 hm
       refine AiT hc171_36 <| Tx <| Wm (.i (W6 (Int.fdiv (W7 (W6 (y20_15 + y21_15))) (2 ^ 1)))) rfl ?_
       obtain ⟨v173_18, hv173_18, hm⟩ := bnd hm; replace hv173_18 := Option.some.inj hv173_18
       refine Wz (.i v173_18) (Ocs (congrArg (fun z => A.d (.lit (.int .i64 z))) hv173_18) (Obn rfl (fun _ => hb_add (k := .i64)))) <| Wm (.i v173_18) rfl <| Wn0 <| Ino <| RoundK.normal ?_
       exact Rounds.weak (Weak.toK 8126495 0 0 [0]) (ih_15 (fu_15, v173_18, y21_15) hm (Nat.lt_succ_self _))
      ·
       replace hm := cF hc171_36 hm
       refine AiF hc171_36 <| Tx <| Wm (.i (W6 (Int.fdiv (W7 (W6 (y20_15 + y21_15))) (2 ^ 1)))) rfl <| Wm (.i (W6 (Int.fdiv (W7 (W6 (y20_15 + y21_15))) (2 ^ 1)))) rfl <| Wn0 <| Ino <| RoundK.normal ?_
       exact Rounds.weak (Weak.toK 8126495 0 0 [0]) (ih_15 (fu_15, y20_15, (W6 (Int.fdiv (W7 (W6 (y20_15 + y21_15))) (2 ^ 1)))) hm (Nat.lt_succ_self _))
     ·
      replace hm := cF hc151_35 hm
      refine AiF hc151_35 <| AWP.exit <| Then.exit <| RoundK.exit <| InBlock.same <| Tk 1835039 1 ⟨.own 0::.i p1::.i p2::.i p3::.clo (.func 54) [] []::tp 13 (.i (W6 (Int.fdiv (W7 (W6 (p1 + p3))) (2 ^ 1)))::.i v137_13::.i y20_15::tp 199 []), [(Ar 84 3 enc_GChange p0)], 1⟩ <| Sx <| Wm (.i v137_13) rfl <| Wm (.i y20_15) rfl <| Wz (.i (W6 (v137_13 - y20_15))) (Obn rfl (fun _ => hb_sub (k := .i64))) <| Wm (.i (W6 (v137_13 - y20_15))) rfl <| Nk 18087967 1 ⟨.own 0::.i p1::.i p2::.i p3::.clo (.func 54) [] []::tp 13 (.i (W6 (Int.fdiv (W7 (W6 (p1 + p3))) (2 ^ 1)))::tp 1 (.i y20_15::tp 3 (.i (W6 (v137_13 - y20_15))::tp 195 []))), [(Ar 84 3 enc_GChange p0)], 1⟩ ?_
      refine AWP.cutJ (α := (List GChange)) (fun x => match x with | y0_21 => (⟨.own 0::.i p1::tp 1 (.i p3::.clo (.func 54) [] []::tp 13 (.i (W6 (Int.fdiv (W7 (W6 (p1 + p3))) (2 ^ 1)))::tp 1 (.i y20_15::tp 3 (.i (W6 (v137_13 - y20_15))::tp 195 [])))), [(Ar 84 3 enc_GChange y0_21)], 1⟩ : St)) (fun x => match x with | y0_21 => m_slices_symMergeCmpFunc_tally_Change__tally_order_j21 p1 p3 v137_13 y20_15 (fun p0 p1 p2 p3 => m_slices_symMergeCmpFunc_tally_Change__tally_order fuR p0 p1 p2 p3) y0_21 = some r) ?_ (fun J21 => ?_)
      ·
       rintro y0_21 hm
       try dsimp only at hm ⊢
       unfold m_slices_symMergeCmpFunc_tally_Change__tally_order_j21 at hm
       refine AWP.cutJ (α := (List GChange)) (fun x => match x with | y0_24 => (⟨.own 0::tp 2 (.i p3::.clo (.func 54) [] []::tp 13 (.i (W6 (Int.fdiv (W7 (W6 (p1 + p3))) (2 ^ 1)))::tp 5 (.i (W6 (v137_13 - y20_15))::tp 195 []))), [(Ar 84 3 enc_GChange y0_24)], 1⟩ : St)) (fun x => match x with | y0_24 => m_slices_symMergeCmpFunc_tally_Change__tally_order_j24 p1 p3 v137_13 y20_15 (fun p0 p1 p2 p3 => m_slices_symMergeCmpFunc_tally_Change__tally_order fuR p0 p1 p2 p3) y0_24 = some r) ?_ (fun J24 => ?_)
       ·
        rintro y0_24 hm
        try dsimp only at hm ⊢
        unfold m_slices_symMergeCmpFunc_tally_Change__tally_order_j24 at hm
        refine Sx <| Wm (.i (W6 (Int.fdiv (W7 (W6 (p1 + p3))) (2 ^ 1)))) rfl <| Wm (.i (W6 (v137_13 - y20_15))) rfl ?_
        obtain ⟨v208_25, hv208_25, hm⟩ := bnd hm; replace hv208_25 := Option.some.inj hv208_25
        refine Wz (.b v208_25) (Ocs (congrArg (fun z => A.d (.lit (.bool z))) hv208_25) (Obn rfl (fun _ => hb_lss (k := .i64)))) ?_
        rcases tf_ v208_25 with hq209_25 | hq209_25
        ·
         replace hm := cT hq209_25 hm
         refine Wz (.b true) (Oq hq209_25 rfl) <| Wm (.i (W6 (v137_13 - y20_15))) rfl <| Wm (.i p3) rfl <| Wz (.b (decide ((W6 (v137_13 - y20_15)) < p3))) (Obn rfl (fun _ => hb_lss (k := .i64))) <| Wz (.b (decide ((W6 (v137_13 - y20_15)) < p3))) (OpT rfl) <| Nk 13164036458569648337239753460458804039861886925068638906805911577 1 ⟨.own 0::tp 2 (.i p3::.clo (.func 54) [] []::tp 13 (.i (W6 (Int.fdiv (W7 (W6 (p1 + p3))) (2 ^ 1)))::tp 5 (.i (W6 (v137_13 - y20_15))::tp 188 (.b (decide ((W6 (v137_13 - y20_15)) < p3))::tp 6 [])))), [(Ar 84 3 enc_GChange y0_24)], 1⟩ ?_
         rcases tf_ (decide ((W6 (v137_13 - y20_15)) < p3)) with hc213_37 | hc213_37
         ·
          replace hm := cT hc213_37 hm
          refine AiT hc213_37 <| Tx <| Wm (.own 0) rfl <| Wm (.i (W6 (Int.fdiv (W7 (W6 (p1 + p3))) (2 ^ 1)))) rfl <| Wm (.i (W6 (v137_13 - y20_15))) rfl <| Wm (.i p3) rfl <| Wm (.clo (.func 54) [] []) rfl ?_
          obtain ⟨r219_26, hr219_26, hm⟩ := bnd hm
          refine Wy (.tup []) [(0, (Ar 84 3 enc_GChange r219_26))] (Ocf [0] [] [] 0 (ih y0_24 (W6 (Int.fdiv (W7 (W6 (p1 + p3))) (2 ^ 1))) (W6 (v137_13 - y20_15)) p3 r219_26 hr219_26) (fun a w => Try.call84 a w) rfl ⟨rfl, trivial⟩) <| Wn0 ?_
          obtain rfl := Option.some.inj hm
          exact ret_n [0]
         ·
          replace hm := cF hc213_37 hm
          refine AiF hc213_37 <| Sk ?_
          obtain rfl := Option.some.inj hm
          exact ret_n [0]
        ·
         replace hm := cF hq209_25 hm
         refine Wz (.b false) (Oq hq209_25 rfl) <| Wn <| Wn <| Wn <| Wz (.b false) (OpF rfl) <| Nk 13164036458569648337239753460458804039861886925068638906805911577 1 ⟨.own 0::tp 2 (.i p3::.clo (.func 54) [] []::tp 13 (.i (W6 (Int.fdiv (W7 (W6 (p1 + p3))) (2 ^ 1)))::tp 5 (.i (W6 (v137_13 - y20_15))::tp 188 (.b false::tp 6 [])))), [(Ar 84 3 enc_GChange y0_24)], 1⟩ <| AWP.if_ false (by kernel_rfl) <| Sk ?_
         obtain rfl := Option.some.inj hm
         exact ret_n [0]
       refine Sq <| Sx <| Wm (.i p1) rfl <| Wm (.i y20_15) rfl <| Wz (.b (decide (p1 < y20_15))) (Obn rfl (fun _ => hb_lss (k := .i64))) ?_
       rcases tf_ (decide (p1 < y20_15)) with hq195_22 | hq195_22
       ·
        replace hm := cT hq195_22 hm
        refine Wz (.b true) (Oq hq195_22 rfl) <| Wm (.i y20_15) rfl <| Wm (.i (W6 (Int.fdiv (W7 (W6 (p1 + p3))) (2 ^ 1)))) rfl <| Wz (.b (decide (y20_15 < (W6 (Int.fdiv (W7 (W6 (p1 + p3))) (2 ^ 1)))))) (Obn rfl (fun _ => hb_lss (k := .i64))) <| Wz (.b (decide (y20_15 < (W6 (Int.fdiv (W7 (W6 (p1 + p3))) (2 ^ 1)))))) (OpT rfl) <| Nk 803469022129495137770981046170581301261101496891396435738651 1 ⟨.own 0::.i p1::tp 1 (.i p3::.clo (.func 54) [] []::tp 13 (.i (W6 (Int.fdiv (W7 (W6 (p1 + p3))) (2 ^ 1)))::tp 1 (.i y20_15::tp 3 (.i (W6 (v137_13 - y20_15))::tp 174 (.b (decide (y20_15 < (W6 (Int.fdiv (W7 (W6 (p1 + p3))) (2 ^ 1)))))::tp 20 []))))), [(Ar 84 3 enc_GChange y0_21)], 1⟩ ?_
        rcases tf_ (decide (y20_15 < (W6 (Int.fdiv (W7 (W6 (p1 + p3))) (2 ^ 1))))) with hc199_38 | hc199_38
        ·
         replace hm := cT hc199_38 hm
         refine AiT hc199_38 <| Tx <| Wm (.own 0) rfl <| Wm (.i p1) rfl <| Wm (.i y20_15) rfl <| Wm (.i (W6 (Int.fdiv (W7 (W6 (p1 + p3))) (2 ^ 1)))) rfl <| Wm (.clo (.func 54) [] []) rfl ?_
         obtain ⟨r205_23, hr205_23, hm⟩ := bnd hm
         refine Wy (.tup []) [(0, (Ar 84 3 enc_GChange r205_23))] (Ocf [0] [] [] 0 (ih y0_21 p1 y20_15 (W6 (Int.fdiv (W7 (W6 (p1 + p3))) (2 ^ 1))) r205_23 hr205_23) (fun a w => Try.call84 a w) rfl ⟨rfl, trivial⟩) <| Nn ?_
         exact AWP.weak (Weak.toK 17039385 0 0 [0]) (J24 (r205_23) hm)
        ·
         replace hm := cF hc199_38 hm
         refine AiF hc199_38 <| Sk <| Tn ?_
         exact AWP.weak (Weak.toK 17039385 0 0 [0]) (J24 (y0_21) hm)
       ·
        replace hm := cF hq195_22 hm
        refine Wz (.b false) (Oq hq195_22 rfl) <| Wn <| Wn <| Wn <| Wz (.b false) (OpF rfl) <| Nk 803469022129495137770981046170581301261101496891396435738651 1 ⟨.own 0::.i p1::tp 1 (.i p3::.clo (.func 54) [] []::tp 13 (.i (W6 (Int.fdiv (W7 (W6 (p1 + p3))) (2 ^ 1)))::tp 1 (.i y20_15::tp 3 (.i (W6 (v137_13 - y20_15))::tp 174 (.b false::tp 20 []))))), [(Ar 84 3 enc_GChange y0_21)], 1⟩ <| AWP.if_ false (by kernel_rfl) <| Sk <| Tn ?_
        exact AWP.weak (Weak.toK 17039385 0 0 [0]) (J24 (y0_21) hm)
      refine Sq <| Sx <| Wm (.i y20_15) rfl <| Wm (.i p2) rfl <| Wz (.b (decide (y20_15 < p2))) (Obn rfl (fun _ => hb_lss (k := .i64))) ?_
      rcases tf_ (decide (y20_15 < p2)) with hq181_19 | hq181_19
      ·
       replace hm := cT hq181_19 hm
       refine Wz (.b true) (Oq hq181_19 rfl) <| Wm (.i p2) rfl <| Wm (.i (W6 (v137_13 - y20_15))) rfl <| Wz (.b (decide (p2 < (W6 (v137_13 - y20_15))))) (Obn rfl (fun _ => hb_lss (k := .i64))) <| Wz (.b (decide (p2 < (W6 (v137_13 - y20_15))))) (OpT rfl) <| Nk 49039857307708443467467104868809893875799651909893357599 1 ⟨.own 0::.i p1::.i p2::.i p3::.clo (.func 54) [] []::tp 13 (.i (W6 (Int.fdiv (W7 (W6 (p1 + p3))) (2 ^ 1)))::tp 1 (.i y20_15::tp 3 (.i (W6 (v137_13 - y20_15))::tp 160 (.b (decide (p2 < (W6 (v137_13 - y20_15))))::tp 34 [])))), [(Ar 84 3 enc_GChange p0)], 1⟩ ?_
       rcases tf_ (decide (p2 < (W6 (v137_13 - y20_15)))) with hc185_39 | hc185_39
       ·
        replace hm := cT hc185_39 hm
        refine AiT hc185_39 <| Tx <| Wm (.own 0) rfl <| Wm (.i y20_15) rfl <| Wm (.i p2) rfl <| Wm (.i (W6 (v137_13 - y20_15))) rfl <| Wm (.clo (.func 54) [] []) rfl ?_
        obtain ⟨r191_20, hr191_20, hm⟩ := bnd hm
        refine Wy (.tup []) [(0, (Ar 84 3 enc_GChange r191_20))] (Ocf [0] [] [] 0 (ok_slices_rotateCmpFunc_tally_Change__tally_order p0 y20_15 p2 (W6 (v137_13 - y20_15)) r191_20 hr191_20) (fun a w => Try.call87 a w) rfl ⟨rfl, trivial⟩) <| Nn ?_
        exact AWP.weak (Weak.toK 18087963 0 0 [0]) (J21 (r191_20) hm)
       ·
        replace hm := cF hc185_39 hm
        refine AiF hc185_39 <| Sk <| Tn ?_
        exact AWP.weak (Weak.toK 18087963 0 0 [0]) (J21 (p0) hm)
      ·
       replace hm := cF hq181_19 hm
       refine Wz (.b false) (Oq hq181_19 rfl) <| Wn <| Wn <| Wn <| Wz (.b false) (OpF rfl) <| Nk 49039857307708443467467104868809893875799651909893357599 1 ⟨.own 0::.i p1::.i p2::.i p3::.clo (.func 54) [] []::tp 13 (.i (W6 (Int.fdiv (W7 (W6 (p1 + p3))) (2 ^ 1)))::tp 1 (.i y20_15::tp 3 (.i (W6 (v137_13 - y20_15))::tp 160 (.b false::tp 34 [])))), [(Ar 84 3 enc_GChange p0)], 1⟩ <| AWP.if_ false (by kernel_rfl) <| Sk <| Tn ?_
       exact AWP.weak (Weak.toK 18087963 0 0 [0]) (J21 (p0) hm)
   refine Sq <| Sx <| Wm (.i p2) rfl <| Wm (.i (W6 (Int.fdiv (W7 (W6 (p1 + p3))) (2 ^ 1)))) rfl <| Wz (.b (decide ((W6 (Int.fdiv (W7 (W6 (p1 + p3))) (2 ^ 1))) < p2))) (Obn rfl (fun _ => hb_gtr (k := .i64))) <| Nk 1393796574908163946345982392040522594910239 1 ⟨.own 0::.i p1::.i p2::.i p3::.clo (.func 54) [] []::tp 13 (.i (W6 (Int.fdiv (W7 (W6 (p1 + p3))) (2 ^ 1)))::.i v137_13::tp 120 (.b (decide ((W6 (Int.fdiv (W7 (W6 (p1 + p3))) (2 ^ 1))) < p2))::tp 79 [])), [(Ar 84 3 enc_GChange p0)], 1⟩ ?_
   rcases tf_ (decide ((W6 (Int.fdiv (W7 (W6 (p1 + p3))) (2 ^ 1))) < p2)) with hc140_40 | hc140_40
   ·
    replace hm := cT hc140_40 hm
    refine AiT hc140_40 <| Sx <| Wm (.i v137_13) rfl <| Wm (.i p3) rfl <| Wz (.i (W6 (v137_13 - p3))) (Obn rfl (fun _ => hb_sub (k := .i64))) <| Wm (.i (W6 (v137_13 - p3))) rfl <| Nk 1835039 1 ⟨.own 0::.i p1::.i p2::.i p3::.clo (.func 54) [] []::tp 13 (.i (W6 (Int.fdiv (W7 (W6 (p1 + p3))) (2 ^ 1)))::.i v137_13::.i (W6 (v137_13 - p3))::tp 199 []), [(Ar 84 3 enc_GChange p0)], 1⟩ <| Tx <| Wm (.i (W6 (Int.fdiv (W7 (W6 (p1 + p3))) (2 ^ 1)))) rfl <| Wm (.i (W6 (Int.fdiv (W7 (W6 (p1 + p3))) (2 ^ 1)))) rfl <| Nn ?_
    exact AWP.weak (Weak.toK 3932191 0 0 [0]) (J14 ((W6 (v137_13 - p3)), (W6 (Int.fdiv (W7 (W6 (p1 + p3))) (2 ^ 1)))) hm)
   ·
    replace hm := cF hc140_40 hm
    refine AiF hc140_40 <| Sx <| Wm (.i p1) rfl <| Wm (.i p1) rfl <| Nk 1835039 1 ⟨.own 0::.i p1::.i p2::.i p3::.clo (.func 54) [] []::tp 13 (.i (W6 (Int.fdiv (W7 (W6 (p1 + p3))) (2 ^ 1)))::.i v137_13::.i p1::tp 199 []), [(Ar 84 3 enc_GChange p0)], 1⟩ <| Tx <| Wm (.i p2) rfl <| Wm (.i p2) rfl <| Nn ?_
    exact AWP.weak (Weak.toK 3932191 0 0 [0]) (J14 (p1, p2) hm)

theorem ok_slices_stableCmpFunc_tally_Change__tally_order (p0 : (List GChange)) (p1 : Int) (r : (List GChange)) (h : m_slices_stableCmpFunc_tally_Change__tally_order p0 p1 = some r) : GCall Try.prog 74 [(.own 0), (.i p1), (.clo (.func 54) [] [])] [(Ar 84 3 enc_GChange p0)] (.tup []) [(Ar 84 3 enc_GChange r)] := by
 refine GCall.of_body (n := 63) (rs := []) Try.func74 rfl rfl rfl <| Ato ⟨.own 0::.i p1::.clo (.func 54) [] []::tu 60 [], [(Ar 84 3 enc_GChange p0)], 1⟩ ?_
 have hm := h
 unfold m_slices_stableCmpFunc_tally_Change__tally_order at hm
 refine Sx <| Wm (.i 20) rfl <| Nk 71 1 ⟨.own 0::.i p1::.clo (.func 54) [] []::tp 3 (.i 20::tp 56 []), [(Ar 84 3 enc_GChange p0)], 1⟩ <| Sx <| Wm (.i 20) rfl <| Wm (.i 0) rfl <| Wm (.i 20) rfl <| Nk 455 1 ⟨.own 0::.i p1::.clo (.func 54) [] []::tp 3 (.i 20::.i 0::.i 20::tp 54 []), [(Ar 84 3 enc_GChange p0)], 1⟩ <| Sq <| Bk ?_
 refine AWP.loopI (α := Nat × (List GChange) × Int × Int)
   (fun (fu_0, y0_0, y7_0, y8_0) => (⟨.own 0::.i p1::.clo (.func 54) [] []::tp 3 (.i 20::.i y7_0::.i y8_0::tp 54 []), [(Ar 84 3 enc_GChange y0_0)], 1⟩ : St))
   (fun (fu_0, y0_0, y7_0, y8_0) => m_slices_stableCmpFunc_tally_Change__tally_order_l0 p1 fu_0 y0_0 y7_0 y8_0 = some r)
   (fun (fu_0, y0_0, y7_0, y8_0) => fu_0) (1152921504606846976, p0, 0, 20)
   (Weak.toK 455 0 0 [0]) hm ?_
 rintro ⟨fu_0, y0_0, y7_0, y8_0⟩ n_0 hm ih_0
 try dsimp only at hm ih_0 ⊢
 cases fu_0 with
 | zero => exact absurd hm (by unfold m_slices_stableCmpFunc_tally_Change__tally_order_l0; simp)
 | succ fu_0 =>
  unfold m_slices_stableCmpFunc_tally_Change__tally_order_l0 at hm
  refine Sq <| Sx <| Wm (.i y8_0) rfl <| Wm (.i p1) rfl <| Wz (.b (decide (y8_0 ≤ p1))) (Obn rfl (fun _ => hb_leq (k := .i64))) <| Nk 8647 1 ⟨.own 0::.i p1::.clo (.func 54) [] []::tp 3 (.i 20::.i y7_0::.i y8_0::tp 4 (.b (decide (y8_0 ≤ p1))::tp 49 [])), [(Ar 84 3 enc_GChange y0_0)], 1⟩ ?_
  rcases tf_ (decide (y8_0 ≤ p1)) with hc13_7 | hc13_7
  ·
   replace hm := cT hc13_7 hm
   refine AiT hc13_7 <| Sk <| Tk 455 1 ⟨.own 0::.i p1::.clo (.func 54) [] []::tp 3 (.i 20::.i y7_0::.i y8_0::tp 54 []), [(Ar 84 3 enc_GChange y0_0)], 1⟩ <| Bk <| Sx <| Wm (.own 0) rfl <| Wm (.i y7_0) rfl <| Wm (.i y8_0) rfl <| Wm (.clo (.func 54) [] []) rfl ?_
   obtain ⟨r18_1, hr18_1, hm⟩ := bnd hm
   refine Wy (.tup []) [(0, (Ar 84 3 enc_GChange r18_1))] (Ocf [0] [] [] 0 (ok_slices_insertionSortCmpFunc_tally_Change__tally_order y0_0 y7_0 y8_0 r18_1 hr18_1) (fun a w => Try.call83 a w) rfl ⟨rfl, trivial⟩) <| Nk 327 1 ⟨.own 0::.i p1::.clo (.func 54) [] []::tp 3 (.i 20::tp 1 (.i y8_0::tp 54 [])), [(Ar 84 3 enc_GChange r18_1)], 1⟩ <| Sx <| Wm (.i y8_0) rfl <| Wm (.i y8_0) rfl <| Nk 455 1 ⟨.own 0::.i p1::.clo (.func 54) [] []::tp 3 (.i 20::.i y8_0::.i y8_0::tp 54 []), [(Ar 84 3 enc_GChange r18_1)], 1⟩ <| Tx <| Wm (.i y8_0) rfl <| Wm (.i 20) rfl <| Wz (.i (W6 (y8_0 + 20))) (Obn rfl (fun _ => hb_add (k := .i64))) <| Wm (.i (W6 (y8_0 + 20))) rfl <| Wn0 <| Ino <| RoundK.normal ?_
   exact Rounds.weak (Weak.toK 455 0 0 [0]) (ih_0 (fu_0, r18_1, y8_0, (W6 (y8_0 + 20))) hm (Nat.lt_succ_self _))
  ·
   replace hm := cF hc13_7 hm
   refine AiF hc13_7 <| AWP.exit <| Then.exit <| RoundK.exit <| InBlock.same <| Tk 199 1 ⟨.own 0::.i p1::.clo (.func 54) [] []::tp 3 (.i 20::.i y7_0::tp 55 []), [(Ar 84 3 enc_GChange y0_0)], 1⟩ <| Sx <| Wm (.own 0) rfl <| Wm (.i y7_0) rfl <| Wm (.i p1) rfl <| Wm (.clo (.func 54) [] []) rfl ?_
   obtain ⟨r27_2, hr27_2, hm⟩ := bnd hm
   refine Wy (.tup []) [(0, (Ar 84 3 enc_GChange r27_2))] (Ocf [0] [] [] 0 (ok_slices_insertionSortCmpFunc_tally_Change__tally_order y0_0 y7_0 p1 r27_2 hr27_2) (fun a w => Try.call83 a w) rfl ⟨rfl, trivial⟩) <| Nk 71 1 ⟨.own 0::.i p1::.clo (.func 54) [] []::tp 3 (.i 20::tp 56 []), [(Ar 84 3 enc_GChange r27_2)], 1⟩ <| Bk ?_
   refine AWP.loopI (α := Nat × (List GChange) × Int)
     (fun (fu_3, y0_3, y6_3) => (⟨.own 0::.i p1::.clo (.func 54) [] []::tp 3 (.i y6_3::tp 56 []), [(Ar 84 3 enc_GChange y0_3)], 1⟩ : St))
     (fun (fu_3, y0_3, y6_3) => m_slices_stableCmpFunc_tally_Change__tally_order_l3 p1 fu_3 y0_3 y6_3 = some r)
     (fun (fu_3, y0_3, y6_3) => fu_3) (1152921504606846976, r27_2, 20)
     (Weak.toK 71 0 0 [0]) hm ?_
   rintro ⟨fu_3, y0_3, y6_3⟩ n_3 hm ih_3
   try dsimp only at hm ih_3 ⊢
   cases fu_3 with
   | zero => exact absurd hm (by unfold m_slices_stableCmpFunc_tally_Change__tally_order_l3; simp)
   | succ fu_3 =>
    unfold m_slices_stableCmpFunc_tally_Change__tally_order_l3 at hm
    refine Sq <| Sx <| Wm (.i y6_3) rfl <| Wm (.i p1) rfl <| Wz (.b (decide (y6_3 < p1))) (Obn rfl (fun _ => hb_lss (k := .i64))) <| Nk 1073741895 1 ⟨.own 0::.i p1::.clo (.func 54) [] []::tp 3 (.i y6_3::tp 23 (.b (decide (y6_3 < p1))::tp 32 [])), [(Ar 84 3 enc_GChange y0_3)], 1⟩ ?_
    rcases tf_ (decide (y6_3 < p1)) with hc30_8 | hc30_8
    ·
     replace hm := cT hc30_8 hm
     refine AiT hc30_8 <| Sk <| Tk 71 1 ⟨.own 0::.i p1::.clo (.func 54) [] []::tp 3 (.i y6_3::tp 56 []), [(Ar 84 3 enc_GChange y0_3)], 1⟩ <| Bk <| Sx <| Wm (.i y6_3) rfl <| Wz (.i (W6 (2 * y6_3))) (Obn rfl (fun _ => hb_mul (k := .i64))) <| Wm (.i 0) rfl <| Wm (.i (W6 (2 * y6_3))) rfl <| Nk 455 1 ⟨.own 0::.i p1::.clo (.func 54) [] []::tp 3 (.i y6_3::.i 0::.i (W6 (2 * y6_3))::tp 54 []), [(Ar 84 3 enc_GChange y0_3)], 1⟩ <| Sq <| Bk ?_
     refine AWP.loopI (α := Nat × (List GChange) × Int × Int)
       (fun (fu_4, y0_4, y7_4, y8_4) => (⟨.own 0::.i p1::.clo (.func 54) [] []::tp 3 (.i y6_3::.i y7_4::.i y8_4::tp 54 []), [(Ar 84 3 enc_GChange y0_4)], 1⟩ : St))
       (fun (fu_4, y0_4, y7_4, y8_4) => m_slices_stableCmpFunc_tally_Change__tally_order_l4 p1 y6_3 (fun y0_3 y6_3 => m_slices_stableCmpFunc_tally_Change__tally_order_l3 p1 fu_3 y0_3 y6_3) fu_4 y0_4 y7_4 y8_4 = some r)
       (fun (fu_4, y0_4, y7_4, y8_4) => fu_4) (1152921504606846976, y0_3, 0, (W6 (2 * y6_3)))
       (Weak.toK 455 0 0 [0]) hm ?_
     rintro ⟨fu_4, y0_4, y7_4, y8_4⟩ n_4 hm ih_4
     try dsimp only at hm ih_4 ⊢
     cases fu_4 with
     | zero => exact absurd hm (by unfold m_slices_stableCmpFunc_tally_Change__tally_order_l4; simp)
     | succ fu_4 =>
      unfold m_slices_stableCmpFunc_tally_Change__tally_order_l4 at hm
      refine Sq <| Sx <| Wm (.i y8_4) rfl <| Wm (.i p1) rfl <| Wz (.b (decide (y8_4 ≤ p1))) (Obn rfl (fun _ => hb_leq (k := .i64))) <| Nk 34359738823 1 ⟨.own 0::.i p1::.clo (.func 54) [] []::tp 3 (.i y6_3::.i y7_4::.i y8_4::tp 26 (.b (decide (y8_4 ≤ p1))::tp 27 [])), [(Ar 84 3 enc_GChange y0_4)], 1⟩ ?_
      rcases tf_ (decide (y8_4 ≤ p1)) with hc35_9 | hc35_9
      ·
       replace hm := cT hc35_9 hm
       refine AiT hc35_9 <| Sk <| Tk 455 1 ⟨.own 0::.i p1::.clo (.func 54) [] []::tp 3 (.i y6_3::.i y7_4::.i y8_4::tp 54 []), [(Ar 84 3 enc_GChange y0_4)], 1⟩ <| Bk <| Sx <| Wm (.own 0) rfl <| Wm (.i y7_4) rfl <| Wm (.i y7_4) rfl <| Wm (.i y6_3) rfl <| Wz (.i (W6 (y7_4 + y6_3))) (Obn rfl (fun _ => hb_add (k := .i64))) <| Wm (.i y8_4) rfl <| Wm (.clo (.func 54) [] []) rfl ?_
       obtain ⟨r43_5, hr43_5, hm⟩ := bnd hm
       refine Wy (.tup []) [(0, (Ar 84 3 enc_GChange r43_5))] (Ocf [0] [] [] 0 (ok_slices_symMergeCmpFunc_tally_Change__tally_order 1152921504606846976 y0_4 y7_4 (W6 (y7_4 + y6_3)) y8_4 r43_5 hr43_5) (fun a w => Try.call84 a w) rfl ⟨rfl, trivial⟩) <| Nk 327 1 ⟨.own 0::.i p1::.clo (.func 54) [] []::tp 3 (.i y6_3::tp 1 (.i y8_4::tp 54 [])), [(Ar 84 3 enc_GChange r43_5)], 1⟩ <| Sx <| Wm (.i y8_4) rfl <| Wm (.i y8_4) rfl <| Nk 455 1 ⟨.own 0::.i p1::.clo (.func 54) [] []::tp 3 (.i y6_3::.i y8_4::.i y8_4::tp 54 []), [(Ar 84 3 enc_GChange r43_5)], 1⟩ <| Tx <| Wm (.i y8_4) rfl <| Wm (.i y6_3) rfl <| Wz (.i (W6 (2 * y6_3))) (Obn rfl (fun _ => hb_mul (k := .i64))) <| Wz (.i (W6 (y8_4 + (W6 (2 * y6_3))))) (Obn rfl (fun _ => hb_add (k := .i64))) <| Wm (.i (W6 (y8_4 + (W6 (2 * y6_3))))) rfl <| Wn0 <| Ino ?_
       refine RoundK.normal ?_
       exact Rounds.weak (Weak.toK 455 0 0 [0]) (ih_4 (fu_4, r43_5, y8_4, (W6 (y8_4 + (W6 (2 * y6_3))))) hm (Nat.lt_succ_self _))
      ·
       replace hm := cF hc35_9 hm
       refine AiF hc35_9 <| AWP.exit <| Then.exit <| RoundK.exit <| InBlock.same <| Tk 199 1 ⟨.own 0::.i p1::.clo (.func 54) [] []::tp 3 (.i y6_3::.i y7_4::tp 55 []), [(Ar 84 3 enc_GChange y0_4)], 1⟩ <| Sq <| Sx <| Wm (.i y7_4) rfl <| Wm (.i y6_3) rfl <| Wz (.i (W6 (y7_4 + y6_3))) (Obn rfl (fun _ => hb_add (k := .i64))) <| Wm (.i (W6 (y7_4 + y6_3))) rfl <| Nk 711 1 ⟨.own 0::.i p1::.clo (.func 54) [] []::tp 3 (.i y6_3::.i y7_4::tp 1 (.i (W6 (y7_4 + y6_3))::tp 53 [])), [(Ar 84 3 enc_GChange y0_4)], 1⟩ <| Sx ?_
       refine Wm (.i (W6 (y7_4 + y6_3))) rfl <| Wm (.i p1) rfl <| Wz (.b (decide ((W6 (y7_4 + y6_3)) < p1))) (Obn rfl (fun _ => hb_lss (k := .i64))) <| Nk 18014398509482695 1 ⟨.own 0::.i p1::.clo (.func 54) [] []::tp 3 (.i y6_3::.i y7_4::tp 1 (.i (W6 (y7_4 + y6_3))::tp 44 (.b (decide ((W6 (y7_4 + y6_3)) < p1))::tp 8 []))), [(Ar 84 3 enc_GChange y0_4)], 1⟩ ?_
       rcases tf_ (decide ((W6 (y7_4 + y6_3)) < p1)) with hc54_10 | hc54_10
       ·
        replace hm := cT hc54_10 hm
        refine AiT hc54_10 <| Tx <| Wm (.own 0) rfl <| Wm (.i y7_4) rfl <| Wm (.i (W6 (y7_4 + y6_3))) rfl <| Wm (.i p1) rfl <| Wm (.clo (.func 54) [] []) rfl ?_
        obtain ⟨r60_6, hr60_6, hm⟩ := bnd hm
        refine Wy (.tup []) [(0, (Ar 84 3 enc_GChange r60_6))] (Ocf [0] [] [] 0 (ok_slices_symMergeCmpFunc_tally_Change__tally_order 1152921504606846976 y0_4 y7_4 (W6 (y7_4 + y6_3)) p1 r60_6 hr60_6) (fun a w => Try.call84 a w) rfl ⟨rfl, trivial⟩) <| Nk 71 1 ⟨.own 0::.i p1::.clo (.func 54) [] []::tp 3 (.i y6_3::tp 56 []), [(Ar 84 3 enc_GChange r60_6)], 1⟩ <| Tx <| Wm (.i y6_3) rfl <| Wz (.i (W6 (y6_3 * 2))) (Obn rfl (fun _ => hb_mul (k := .i64))) <| Wm (.i (W6 (y6_3 * 2))) rfl <| Wn0 <| Ino <| RoundK.normal ?_
        exact Rounds.weak (Weak.toK 71 0 0 [0]) (ih_3 (fu_3, r60_6, (W6 (y6_3 * 2))) hm (Nat.lt_succ_self _))
       ·
        replace hm := cF hc54_10 hm
        refine AiF hc54_10 <| Sk <| Tk 71 1 ⟨.own 0::.i p1::.clo (.func 54) [] []::tp 3 (.i y6_3::tp 56 []), [(Ar 84 3 enc_GChange y0_4)], 1⟩ <| Tx <| Wm (.i y6_3) rfl <| Wz (.i (W6 (y6_3 * 2))) (Obn rfl (fun _ => hb_mul (k := .i64))) <| Wm (.i (W6 (y6_3 * 2))) rfl <| Wn0 <| Ino <| RoundK.normal ?_
        exact Rounds.weak (Weak.toK 71 0 0 [0]) (ih_3 (fu_3, y0_4, (W6 (y6_3 * 2))) hm (Nat.lt_succ_self _))
    ·
     replace hm := cF hc30_8 hm
     refine AiF hc30_8 <| AWP.exit <| Then.exit <| RoundK.exit <| InBlock.same ?_
     obtain rfl := Option.some.inj hm
     exact ret_n [0]

theorem ok_slices_SortStableFunc_Change__tally_order (p0 : (List GChange)) (r : (List GChange)) (h : m_slices_SortStableFunc_Change__tally_order p0 = some r) : GCall Try.prog 53 [(.own 0), (.clo (.func 54) [] [])] [(Ar 84 3 enc_GChange p0)] (.tup []) [(Ar 84 3 enc_GChange r)] := by
 refine GCall.of_body (n := 9) (rs := []) Try.func53 rfl rfl rfl <| Ato ⟨.own 0::.clo (.func 54) [] []::tu 7 [], [(Ar 84 3 enc_GChange p0)], 1⟩ ?_
 have hm := h
 unfold m_slices_SortStableFunc_Change__tally_order at hm
 refine Tx <| Wm (.own 0) rfl <| Wm (.own 0) rfl <| Wz (.i ((List.length p0 : Nat) : Int)) (Oln rfl) <| Wm (.clo (.func 54) [] []) rfl ?_
 obtain ⟨r8_0, hr8_0, hm⟩ := bnd hm
 refine Wy (.tup []) [(0, (Ar 84 3 enc_GChange r8_0))] (Ocf [0] [] [] 0 (ok_slices_stableCmpFunc_tally_Change__tally_order p0 ((List.length p0 : Nat) : Int) r8_0 hr8_0) (fun a w => Try.call74 a w) rfl ⟨rfl, trivial⟩) <| Wn0 ?_
 obtain rfl := Option.some.inj hm
 exact ret_n [0]

theorem ok_tally_Normal_1 (p0 : GChange) (r : Bool) (h : m_tally_Normal_1 p0 = some r) : GCall Try.prog 56 [(.agg [(.i p0.Loc), (.i p0.Time), (.i p0.N)])] [] (.b r) [] := by
 refine GCall.of_body (n := 6) (rs := [(.tmp 2)]) Try.func56 rfl rfl rfl <| Ato ⟨.agg [(.i p0.Loc), (.i p0.Time), (.i p0.N)]::tu 5 [], [], 0⟩ ?_
 have hm := h
 unfold m_tally_Normal_1 at hm
 refine Sx <| Wy (.loc 0 0) [(0, (.box [(.i p0.Loc), (.i p0.Time), (.i p0.N)]))] (Obx rfl) <| Wm (.b false) rfl <| Nk 2 1 ⟨tp 1 (.loc 0 0::tp 4 []), [(.box [(.i p0.Loc), (.i p0.Time), (.i p0.N)])], 0⟩ <| Sx <| Wz (.loc 0 2) (Ofa rfl) <| Wz (.i p0.N) (Old rfl) <| Wz (.b (decide (p0.N = 0))) (Obn rfl (fun _ => hb_eql (k := .i64))) <| Wm (.b (decide (p0.N = 0))) rfl <| Nn <| Rt ?_
 obtain rfl := Option.some.inj hm
 exact ret_i []

theorem ok_slices_IndexFunc_Change__tally_Normal_1 (p0 : (List GChange)) (r : Int) (h : m_slices_IndexFunc_Change__tally_Normal_1 p0 = some r) : GCall Try.prog 77 [(.l enc_GChange p0), (.clo (.func 56) [] [])] [] (.i r) [] := by
 refine GCall.of_body (n := 19) (rs := [(.tmp 4)]) Try.func77 rfl rfl rfl <| Ato ⟨.l enc_GChange p0::.clo (.func 56) [] []::tu 17 [], [], 0⟩ ?_
 have hm := h
 unfold m_slices_IndexFunc_Change__tally_Normal_1 at hm
 refine Sx <| Wm (.i 0) rfl <| Nk 3 0 ⟨.l enc_GChange p0::.clo (.func 56) [] []::tp 17 [], [], 0⟩ <| Sq <| Sx <| Wm (.l enc_GChange p0) rfl <| Wz (.i ((List.length p0 : Nat) : Int)) (Oln rfl) <| Wm (.i 0) rfl <| Nk 387 0 ⟨.l enc_GChange p0::.clo (.func 56) [] []::tp 5 (.i ((List.length p0 : Nat) : Int)::.i 0::tp 10 []), [], 0⟩ <| Bk ?_
 refine AWP.loopI (α := Nat × Int)
   (fun (fu_1, y8_1) => (⟨.l enc_GChange p0::.clo (.func 56) [] []::tp 5 (.i ((List.length p0 : Nat) : Int)::.i y8_1::tp 10 []), [], 0⟩ : St))
   (fun (fu_1, y8_1) => m_slices_IndexFunc_Change__tally_Normal_1_l1 p0 fu_1 y8_1 = some r)
   (fun (fu_1, y8_1) => fu_1) (1152921504606846976, 0)
   (Weak.toK 387 0 0 []) hm ?_
 rintro ⟨fu_1, y8_1⟩ n_1 hm ih_1
 try dsimp only at hm ih_1 ⊢
 cases fu_1 with
 | zero => exact absurd hm (by unfold m_slices_IndexFunc_Change__tally_Normal_1_l1; simp)
 | succ fu_1 =>
  unfold m_slices_IndexFunc_Change__tally_Normal_1_l1 at hm
  refine Sx <| Wz (.b (decide (y8_1 < ((List.length p0 : Nat) : Int)))) (Obn rfl (fun _ => hb_lss (k := .i64))) <| Nk 899 0 ⟨.l enc_GChange p0::.clo (.func 56) [] []::tp 5 (.i ((List.length p0 : Nat) : Int)::.i y8_1::.b (decide (y8_1 < ((List.length p0 : Nat) : Int)))::tp 9 []), [], 0⟩ <| Sq ?_
  rcases tf_ (decide (y8_1 < ((List.length p0 : Nat) : Int))) with hc9_3 | hc9_3
  ·
   replace hm := cT hc9_3 hm
   refine AiT hc9_3 <| Sk <| Tk 387 0 ⟨.l enc_GChange p0::.clo (.func 56) [] []::tp 5 (.i ((List.length p0 : Nat) : Int)::.i y8_1::tp 10 []), [], 0⟩ <| Sq <| Bk <| Sx <| Wm (.i y8_1) rfl <| Wm (.i y8_1) rfl <| Nk 419 0 ⟨.l enc_GChange p0::.clo (.func 56) [] []::tp 3 (.i y8_1::tp 1 (.i ((List.length p0 : Nat) : Int)::.i y8_1::tp 10 [])), [], 0⟩ <| Sx <| Wm (.clo (.func 56) [] []) rfl <| Wm (.l enc_GChange p0) rfl <| Wm (.i y8_1) rfl ?_
   obtain ⟨x14_2, hx14_2, hm⟩ := bnd hm
   obtain ⟨hx14_2i, hx14_2g⟩ := geti_some hx14_2
   refine Wz (.d (.ref (List.drop ((Int.toNat y8_1) * 3) (flatD enc_GChange p0)))) (Oia rfl enc_GChange_len hx14_2i hx14_2g) <| Wz (.agg [(.i x14_2.Loc), (.i x14_2.Time), (.i x14_2.N)]) (Lf rfl enc_GChange_len hx14_2g) ?_
   obtain ⟨r16_2, hr16_2, hm⟩ := bnd hm
   refine Wz (.b r16_2) (Ocf [] [] [] 0 (ok_tally_Normal_1 x14_2 r16_2 hr16_2) (fun a w => Try.call56 a w) rfl trivial) <| Nk 65955 0 ⟨.l enc_GChange p0::.clo (.func 56) [] []::tp 3 (.i y8_1::tp 1 (.i ((List.length p0 : Nat) : Int)::.i y8_1::tp 7 (.b r16_2::tp 2 []))), [], 0⟩ ?_
   rcases tf_ r16_2 with hc16_4 | hc16_4
   ·
    replace hm := cT hc16_4 hm
    refine AiT hc16_4 <| Sx <| Wm (.i y8_1) rfl <| Wm (.i y8_1) rfl <| Nn <| Rt <| Ir <| Tr <| RoundK.ret <| Ir <| Tr ?_
    obtain rfl := Option.some.inj hm
    exact ret_i []
   ·
    replace hm := cF hc16_4 hm
    refine AiF hc16_4 <| Sk <| Ino <| Tk 387 0 ⟨.l enc_GChange p0::.clo (.func 56) [] []::tp 5 (.i ((List.length p0 : Nat) : Int)::.i y8_1::tp 10 []), [], 0⟩ <| Tx <| Wz (.i (W6 (y8_1 + 1))) (Obn rfl (fun _ => hb_add (k := .i64))) <| Wm (.i (W6 (y8_1 + 1))) rfl <| Wn0 <| RoundK.normal ?_
    exact Rounds.weak (Weak.toK 387 0 0 []) (ih_1 (fu_1, (W6 (y8_1 + 1))) hm (Nat.lt_succ_self _))
  ·
   replace hm := cF hc9_3 hm
   refine AiF hc9_3 <| AWP.exit <| Then.exit <| RoundK.exit <| InBlock.same <| Tk 0 0 ⟨tp 19 [], [], 0⟩ <| Sx <| Wm (.i (-1)) rfl <| Nn <| Rt ?_
   obtain rfl := Option.some.inj hm
   exact ret_i []

theorem ok_slices_DeleteFunc_Change__tally_Normal_1 (p0 : (List GChange)) (r : (List GChange)) (h : m_slices_DeleteFunc_Change__tally_Normal_1 p0 = some r) : GCall Try.prog 55 [(.own 0), (.clo (.func 56) [] [])] [(Ar 84 3 enc_GChange p0)] (.l enc_GChange r) [.gone] := by
 refine GCall.of_body (n := 42) (rs := [(.tmp 4)]) Try.func55 rfl rfl rfl <| Ato ⟨.own 0::.clo (.func 56) [] []::tu 40 [], [(Ar 84 3 enc_GChange p0)], 1⟩ ?_
 have hm := h
 unfold m_slices_DeleteFunc_Change__tally_Normal_1 at hm
 refine Sx <| Wm (.d .nil) rfl <| Nk 3 1 ⟨.own 0::.clo (.func 56) [] []::tp 40 [], [(Ar 84 3 enc_GChange p0)], 1⟩ <| Sx <| Wm (.own 0) rfl <| Wm (.clo (.func 56) [] []) rfl ?_
 obtain ⟨r10_0, hr10_0, hm⟩ := bnd hm
 refine Wz (.i r10_0) (Ocp [] [] [0] 0 (ok_slices_IndexFunc_Change__tally_Normal_1 p0 r10_0 hr10_0) (plain_triv (by simp [A.Plain, A.Plains, D.Plain, byteD])) (fun a w => Try.call77 a w) rfl trivial) <| Wm (.i r10_0) rfl <| Nk 35 1 ⟨.own 0::.clo (.func 56) [] []::tp 3 (.i r10_0::tp 36 []), [(Ar 84 3 enc_GChange p0)], 1⟩ <| Sq <| Sx <| Wm (.i r10_0) rfl <| Wz (.b (decide (r10_0 = (-1)))) (Obn rfl (fun _ => hb_eql (k := .i64))) <| Nk 4131 1 ⟨.own 0::.clo (.func 56) [] []::tp 3 (.i r10_0::tp 6 (.b (decide (r10_0 = (-1)))::tp 29 [])), [(Ar 84 3 enc_GChange p0)], 1⟩ ?_
 rcases tf_ (decide (r10_0 = (-1))) with hc12_8 | hc12_8
 ·
  replace hm := cT hc12_8 hm
  refine AiT hc12_8 <| Sx <| Wm (.own 0) rfl <| Wm (.own 0) rfl <| Nn <| Afz [0] ⟨.l enc_GChange p0::.clo (.func 56) [] []::tp 2 (.l enc_GChange p0::.i r10_0::tp 6 (.b (decide (r10_0 = (-1)))::.l enc_GChange p0::tp 28 [])), [(.fro 84 3 (List.length p0) (flatD enc_GChange p0))], 1⟩ <| Ago 0 ⟨.l enc_GChange p0::.clo (.func 56) [] []::tp 2 (.l enc_GChange p0::.i r10_0::tp 6 (.b (decide (r10_0 = (-1)))::.l enc_GChange p0::tp 28 [])), [.gone], 1⟩ <| Rt <| Tr ?_
  obtain rfl := Option.some.inj hm
  exact ret_i [0]
 ·
  replace hm := cF hc12_8 hm
  refine AiF hc12_8 <| Sk <| Tk 35 1 ⟨.own 0::.clo (.func 56) [] []::tp 3 (.i r10_0::tp 36 []), [(Ar 84 3 enc_GChange p0)], 1⟩ <| Sq <| Sx <| Wm (.i r10_0) rfl <| Wz (.i (W6 (r10_0 + 1))) (Obn rfl (fun _ => hb_add (k := .i64))) <| Wm (.i (W6 (r10_0 + 1))) rfl <| Nk 99 1 ⟨.own 0::.clo (.func 56) [] []::tp 3 (.i r10_0::.i (W6 (r10_0 + 1))::tp 35 []), [(Ar 84 3 enc_GChange p0)], 1⟩ <| Bk ?_
  refine AWP.loopI (α := Nat × (List GChange) × Int × Int)
    (fun (fu_1, y0_1, y5_1, y6_1) => (⟨.own 0::.clo (.func 56) [] []::tp 3 (.i y5_1::.i y6_1::tp 35 []), [(Ar 84 3 enc_GChange y0_1)], 1⟩ : St))
    (fun (fu_1, y0_1, y5_1, y6_1) => m_slices_DeleteFunc_Change__tally_Normal_1_l1  fu_1 y0_1 y5_1 y6_1 = some r)
    (fun (fu_1, y0_1, y5_1, y6_1) => fu_1) (1152921504606846976, p0, r10_0, (W6 (r10_0 + 1)))
    (Weak.toK 99 0 0 [0]) hm ?_
  rintro ⟨fu_1, y0_1, y5_1, y6_1⟩ n_1 hm ih_1
  try dsimp only at hm ih_1 ⊢
  cases fu_1 with
  | zero => exact absurd hm (by unfold m_slices_DeleteFunc_Change__tally_Normal_1_l1; simp)
  | succ fu_1 =>
   unfold m_slices_DeleteFunc_Change__tally_Normal_1_l1 at hm
   refine Sq <| Sx <| Wm (.i y6_1) rfl <| Wm (.own 0) rfl <| Wz (.i ((List.length y0_1 : Nat) : Int)) (Oln rfl) <| Wz (.b (decide (y6_1 < ((List.length y0_1 : Nat) : Int)))) (Obn rfl (fun _ => hb_lss (k := .i64))) <| Nk 524387 1 ⟨.own 0::.clo (.func 56) [] []::tp 3 (.i y5_1::.i y6_1::tp 12 (.b (decide (y6_1 < ((List.length y0_1 : Nat) : Int)))::tp 22 [])), [(Ar 84 3 enc_GChange y0_1)], 1⟩ ?_
   rcases tf_ (decide (y6_1 < ((List.length y0_1 : Nat) : Int))) with hc19_9 | hc19_9
   ·
    replace hm := cT hc19_9 hm
    refine AiT hc19_9 <| Sk <| Tk 99 1 ⟨.own 0::.clo (.func 56) [] []::tp 3 (.i y5_1::.i y6_1::tp 35 []), [(Ar 84 3 enc_GChange y0_1)], 1⟩ <| Sq <| Bk <| Sx <| Wm (.own 0) rfl <| Wm (.i y6_1) rfl ?_
    obtain ⟨x24_3, hx24_3, hm⟩ := bnd hm
    obtain ⟨hx24_3i, hx24_3g⟩ := geti_some hx24_3
    refine Wz (.loc 0 ((Int.toNat y6_1) * 3)) (Oia rfl enc_GChange_len hx24_3i hx24_3g) <| Wz (.agg [(.i x24_3.Loc), (.i x24_3.Time), (.i x24_3.N)]) (Lr rfl enc_GChange_len hx24_3g) <| Wy (.loc 1 0) [(1, (.box [(.i 0), (.i 0), (.i 0)]))] (Oal rfl) <| Wy (.tup []) [(1, (.box [(.i x24_3.Loc), (.i x24_3.Time), (.i x24_3.N)]))] (Ost rfl) <| Nk 227 3 ⟨.own 0::.clo (.func 56) [] []::tp 3 (.i y5_1::.i y6_1::.loc 1 0::tp 34 []), [(Ar 84 3 enc_GChange y0_1), (.box [(.i x24_3.Loc), (.i x24_3.Time), (.i x24_3.N)])], 1⟩ <| Sx <| Wm (.clo (.func 56) [] []) rfl <| Wz (.agg [(.i x24_3.Loc), (.i x24_3.Time), (.i x24_3.N)]) (Old rfl) ?_
    obtain ⟨r28_4, hr28_4, hm⟩ := bnd hm
    refine Wz (.b r28_4) (Ocf [] [] [] 0 (ok_tally_Normal_1 x24_3 r28_4 hr28_4) (fun a w => Try.call56 a w) rfl trivial) <| Wz (.b (!r28_4)) (Ocs (by kernel_rfl) (op_un rfl (a1 := .bool r28_4) (by kernel_rfl) (fun _ => hu_not))) <| Nk 536871139 3 ⟨.own 0::.clo (.func 56) [] []::tp 3 (.i y5_1::.i y6_1::.loc 1 0::tp 21 (.b (!r28_4)::tp 12 [])), [(Ar 84 3 enc_GChange y0_1), (.box [(.i x24_3.Loc), (.i x24_3.Time), (.i x24_3.N)])], 1⟩ ?_
    rcases tf_ (!r28_4) with hc29_10 | hc29_10
    ·
     replace hm := cT hc29_10 hm
     refine AiT hc29_10 <| Sx <| Wm (.own 0) rfl <| Wm (.i y5_1) rfl <| Wz (.agg [(.i x24_3.Loc), (.i x24_3.Time), (.i x24_3.N)]) (Old rfl) ?_
     obtain ⟨x33_5, hx33_5, hm⟩ := bnd hm
     obtain ⟨hx33_5i, hx33_5g⟩ := geti_some hx33_5
     refine Wz (.loc 0 ((Int.toNat y5_1) * 3)) (Oia rfl enc_GChange_len hx33_5i hx33_5g) <| Wy (.tup []) [(0, (Ar 84 3 enc_GChange (List.set y0_1 (Int.toNat y5_1) x24_3)))] (Osr 0 rfl enc_GChange_len hx33_5g x24_3) <| Nk 99 1 ⟨.own 0::.clo (.func 56) [] []::tp 3 (.i y5_1::.i y6_1::tp 35 []), [(Ar 84 3 enc_GChange (List.set y0_1 (Int.toNat y5_1) x24_3)), .gone], 1⟩ <| Tx <| Wm (.i y5_1) rfl <| Wz (.i (W6 (y5_1 + 1))) (Obn rfl (fun _ => hb_add (k := .i64))) <| Wm (.i (W6 (y5_1 + 1))) rfl <| Wn0 <| Ino <| Tk 99 1 ⟨.own 0::.clo (.func 56) [] []::tp 3 (.i (W6 (y5_1 + 1))::.i y6_1::tp 35 []), [(Ar 84 3 enc_GChange (List.set y0_1 (Int.toNat y5_1) x24_3)), .gone], 1⟩ <| Tx <| Wm (.i y6_1) rfl <| Wz (.i (W6 (y6_1 + 1))) (Obn rfl (fun _ => hb_add (k := .i64))) <| Wm (.i (W6 (y6_1 + 1))) rfl ?_
     refine Wn0 <| RoundK.normal ?_
     exact Rounds.weak (Weak.toK 99 0 0 [0]) (ih_1 (fu_1, (List.set y0_1 (Int.toNat y5_1) x24_3), (W6 (y5_1 + 1)), (W6 (y6_1 + 1))) hm (Nat.lt_succ_self _))
    ·
     replace hm := cF hc29_10 hm
     refine AiF hc29_10 <| Sk <| Ino <| Tk 99 1 ⟨.own 0::.clo (.func 56) [] []::tp 3 (.i y5_1::.i y6_1::tp 35 []), [(Ar 84 3 enc_GChange y0_1), .gone], 1⟩ <| Tx <| Wm (.i y6_1) rfl <| Wz (.i (W6 (y6_1 + 1))) (Obn rfl (fun _ => hb_add (k := .i64))) <| Wm (.i (W6 (y6_1 + 1))) rfl <| Wn0 <| RoundK.normal ?_
     exact Rounds.weak (Weak.toK 99 0 0 [0]) (ih_1 (fu_1, y0_1, y5_1, (W6 (y6_1 + 1))) hm (Nat.lt_succ_self _))
   ·
    replace hm := cF hc19_9 hm
    refine AiF hc19_9 <| AWP.exit <| Then.exit <| RoundK.exit <| InBlock.same <| Tk 33 1 ⟨.own 0::tp 4 (.i y5_1::tp 36 []), [(Ar 84 3 enc_GChange y0_1)], 1⟩ <| Sx <| Wm (.own 0) rfl <| Wm (.i y5_1) rfl ?_
    obtain ⟨hb38_6, hm⟩ := chk_some hm
    refine Wz (.sub 0 ((Int.toNat y5_1) * 3) (List.length y0_1 - (Int.toNat y5_1) - 1 + 1)) (Osb rfl (e := 84) (k := .i64) (iv := y5_1) enc_GChange_len (by omega) (by omega)) <| Wy (.tup []) [(0, (Ar 84 3 enc_GChange (clr y0_1 (Int.toNat y5_1) ((GChange.mk 0 0 0) : GChange))))] (Ocl rfl elemOK_34 enc_GChange_len (by omega)) <| Nk 33 1 ⟨.own 0::tp 4 (.i y5_1::tp 36 []), [(Ar 84 3 enc_GChange (clr y0_1 (Int.toNat y5_1) ((GChange.mk 0 0 0) : GChange)))], 1⟩ <| Sq <| Afz [0] ⟨.l enc_GChange (clr y0_1 (Int.toNat y5_1) ((GChange.mk 0 0 0) : GChange))::tp 4 (.i y5_1::tp 36 []), [(.fro 84 3 (List.length (clr y0_1 (Int.toNat y5_1) ((GChange.mk 0 0 0) : GChange))) (flatD enc_GChange (clr y0_1 (Int.toNat y5_1) ((GChange.mk 0 0 0) : GChange))))], 1⟩ <| Tx <| Wm (.l enc_GChange (clr y0_1 (Int.toNat y5_1) ((GChange.mk 0 0 0) : GChange))) rfl <| Wm (.i y5_1) rfl ?_
    obtain ⟨s41_7, hs41_7, hm⟩ := bnd hm; obtain ⟨hs41_7a, hs41_7b, hs41_7c, hs41_7d, hs41_7e⟩ := cut_some hs41_7
    refine Wz (.l enc_GChange s41_7) (op_cut rfl (e := 84) (sz := 3) (by kernel_rfl) (l := (clr y0_1 (Int.toNat y5_1) ((GChange.mk 0 0 0) : GChange))) (enc := enc_GChange) (by kernel_rfl) enc_GChange_len (a := (Int.toNat 0)) (b := (Int.toNat y5_1)) (by exact rfl) (⟨.i64, y5_1, by kernel_rfl, hs41_7b⟩) hs41_7c hs41_7d hs41_7e) <| Wm (.l enc_GChange s41_7) rfl <| Nn <| Ago 0 ⟨.l enc_GChange (clr y0_1 (Int.toNat y5_1) ((GChange.mk 0 0 0) : GChange))::tp 3 (.l enc_GChange s41_7::.i y5_1::tp 33 (.l enc_GChange (clr y0_1 (Int.toNat y5_1) ((GChange.mk 0 0 0) : GChange))::.i y5_1::.l enc_GChange s41_7::[])), [.gone], 1⟩ <| Rt ?_
    obtain rfl := Option.some.inj hm
    exact ret_i [0]

theorem ok_tally_Normal (p0 : (List GChange)) (r : (List GChange)) (h : m_tally_Normal p0 = some r) : GCall Try.prog 30 [(.l enc_GChange p0)] [] (.l enc_GChange r) [] := by
 refine GCall.of_body (n := 53) (rs := [(.tmp 2)]) Try.func30 rfl rfl rfl <| Ato ⟨.l enc_GChange p0::tu 52 [], [], 0⟩ ?_
 have hm := h
 unfold m_tally_Normal at hm
 refine Sx <| Wm (.d .nil) rfl <| Nk 1 0 ⟨.l enc_GChange p0::tp 52 [], [], 0⟩ <| Sx <| Wm (.l enc_GChange p0) rfl <| Wz (.i ((List.length p0 : Nat) : Int)) (Oln rfl) ?_
 obtain ⟨m9_0, hm9_0, hm⟩ := bnd hm; obtain ⟨hm9_0i, hm9_0l, hm9_0e⟩ := mk_some hm9_0
 refine Wy (.own 0) [(0, (Ar 84 3 enc_GChange m9_0))] (OcB (op_make rfl elemOK_34 (by kernel_rfl) (kl := .i64) (kc := .i64) (L := ((List.length p0 : Nat) : Int)) (C := ((List.length p0 : Nat) : Int)) (by kernel_rfl) (by kernel_rfl) (n := Int.toNat ((List.length p0 : Nat) : Int)) hm9_0i hm9_0i (by omega) (by kernel_rfl)) (bl_one (by rw [hm9_0e]; simp) (by rw [hm9_0e]; exact (flat_rep (by kernel_rfl))))) <| Wm (.own 0) rfl <| Nk 9 1 ⟨.l enc_GChange p0::tp 2 (.own 0::tp 49 []), [(Ar 84 3 enc_GChange m9_0)], 0⟩ <| Sx <| Wm (.own 0) rfl <| Wm (.l enc_GChange p0) rfl ?_
 obtain ⟨c12_1, hc12_1, hm⟩ := bnd hm; obtain ⟨hc12_1e, hc12_1l⟩ := cpy_some hc12_1
 refine Wy (.i ((List.length p0 : Nat) : Int)) [(0, (Ar 84 3 enc_GChange c12_1))] (OcB (Ocs (by kernel_rfl) (op_copy rfl (e := 84) (sz := 3) (by kernel_rfl) (yd := (.own 0)) (by kernel_rfl) (id := 0) (off := 0) (dn := List.length m9_0) (by kernel_rfl) (n := List.length m9_0) (xs := flatD enc_GChange m9_0) (by kernel_rfl) (y := (.l enc_GChange p0)) (by kernel_rfl) (ds := flatD enc_GChange p0) (soff := 0) (k := List.length p0) (by kernel_rfl) (es := flatD enc_GChange p0) (flat_all enc_GChange_len) (flatD_length enc_GChange_len _) hc12_1l (cpy_fit enc_GChange_len hc12_1l) (by decide))) (bl_one (cpy_len hc12_1e hc12_1l) (by rw [hc12_1e]; exact cpy_put enc_GChange_len hc12_1l))) <| Nk 8 1 ⟨tp 3 (.own 0::tp 49 []), [(Ar 84 3 enc_GChange c12_1)], 0⟩ <| Sx <| Wm (.own 0) rfl ?_
 obtain ⟨r14_2, hr14_2, hm⟩ := bnd hm
 refine Wy (.tup []) [(0, (Ar 84 3 enc_GChange r14_2))] (Ocf [0] [] [] 0 (ok_slices_SortStableFunc_Change__tally_order c12_1 r14_2 hr14_2) (fun a w => Try.call53 a w) rfl ⟨rfl, trivial⟩) <| Nk 8 1 ⟨tp 3 (.own 0::tp 49 []), [(Ar 84 3 enc_GChange r14_2)], 0⟩ <| Sx <| Wm (.d .nil) rfl <| Nk 24 1 ⟨tp 3 (.own 0::.d .nil::tp 48 []), [(Ar 84 3 enc_GChange r14_2)], 0⟩ <| Sq <| Sx <| Wm (.own 0) rfl <| Wz (.i ((List.length r14_2 : Nat) : Int)) (Oln rfl) <| Wm (.i 0) rfl <| Nk 229400 1 ⟨tp 3 (.own 0::.d .nil::tp 10 (.own 0::.i ((List.length r14_2 : Nat) : Int)::.i 0::tp 35 [])), [(Ar 84 3 enc_GChange r14_2)], 0⟩ <| Bk <| Aow 4 84 3 ⟨tp 3 (.own 0::.own 1::tp 10 (.own 0::.i ((List.length r14_2 : Nat) : Int)::.i 0::tp 35 [])), [(Ar 84 3 enc_GChange r14_2), (Ar 84 3 enc_GChange ([] : List GChange))], 0⟩ ?_
 refine AWP.loopI (α := Nat × (List GChange) × Int)
   (fun (fu_4, y4_4, y17_4) => (⟨tp 3 (.own 0::.own 1::tp 10 (.own 0::.i ((List.length r14_2 : Nat) : Int)::.i y17_4::tp 35 [])), [(Ar 84 3 enc_GChange r14_2), (Ar 84 3 enc_GChange y4_4)], 0⟩ : St))
   (fun (fu_4, y4_4, y17_4) => m_tally_Normal_l4 r14_2 fu_4 y4_4 y17_4 = some r)
   (fun (fu_4, y4_4, y17_4) => fu_4) (1152921504606846976, ([] : List GChange), 0)
   (Weak.toK 229400 0 0 [0, 1]) hm ?_
 rintro ⟨fu_4, y4_4, y17_4⟩ n_4 hm ih_4
 try dsimp only at hm ih_4 ⊢
 cases fu_4 with
 | zero => exact absurd hm (by unfold m_tally_Normal_l4; simp)
 | succ fu_4 =>
  unfold m_tally_Normal_l4 at hm
  refine Sx <| Wz (.b (decide (y17_4 < ((List.length r14_2 : Nat) : Int)))) (Obn rfl (fun _ => hb_lss (k := .i64))) <| Nk 491544 3 ⟨tp 3 (.own 0::.own 1::tp 10 (.own 0::.i ((List.length r14_2 : Nat) : Int)::.i y17_4::.b (decide (y17_4 < ((List.length r14_2 : Nat) : Int)))::tp 34 [])), [(Ar 84 3 enc_GChange r14_2), (Ar 84 3 enc_GChange y4_4)], 0⟩ <| Sq ?_
  rcases tf_ (decide (y17_4 < ((List.length r14_2 : Nat) : Int))) with hc18_11 | hc18_11
  ·
   replace hm := cT hc18_11 hm
   refine AiT hc18_11 <| Sk <| Tk 229400 3 ⟨tp 3 (.own 0::.own 1::tp 10 (.own 0::.i ((List.length r14_2 : Nat) : Int)::.i y17_4::tp 35 [])), [(Ar 84 3 enc_GChange r14_2), (Ar 84 3 enc_GChange y4_4)], 0⟩ <| Sq <| Bk <| Sx <| Wm (.i y17_4) rfl ?_
   obtain ⟨x20_5, hx20_5, hm⟩ := bnd hm
   obtain ⟨hx20_5i, hx20_5g⟩ := geti_some hx20_5
   refine Wz (.loc 0 ((Int.toNat y17_4) * 3)) (Oia rfl enc_GChange_len hx20_5i hx20_5g) <| Wz (.agg [(.i x20_5.Loc), (.i x20_5.Time), (.i x20_5.N)]) (Lr rfl enc_GChange_len hx20_5g) <| Wy (.loc 2 0) [(2, (.box [(.i 0), (.i 0), (.i 0)]))] (Oal rfl) <| Wm (.i y17_4) rfl <| Wy (.tup []) [(2, (.box [(.i x20_5.Loc), (.i x20_5.Time), (.i x20_5.N)]))] (Ost rfl) <| Nk 229496 7 ⟨tp 3 (.own 0::.own 1::.i y17_4::.loc 2 0::tp 8 (.own 0::.i ((List.length r14_2 : Nat) : Int)::.i y17_4::tp 35 [])), [(Ar 84 3 enc_GChange r14_2), (Ar 84 3 enc_GChange y4_4), (.box [(.i x20_5.Loc), (.i x20_5.Time), (.i x20_5.N)])], 0⟩ <| Sq <| Adr <| Wm (.i y17_4) rfl <| Wz (.b (decide ((0 : Int) < y17_4))) (Obn rfl (fun _ => hb_gtr (k := .i64))) ?_
   rcases tf_ (decide ((0 : Int) < y17_4)) with hq24_7 | hq24_7
   ·
    replace hm := cT hq24_7 hm
    refine Wz (.b true) (Oq hq24_7 rfl) <| Wm (.own 0) rfl <| Wm (.i y17_4) rfl <| Wz (.i (W6 (y17_4 - 1))) (Obn rfl (fun _ => hb_sub (k := .i64))) ?_
    obtain ⟨x28_7, hx28_7, hm⟩ := bnd hm
    obtain ⟨hx28_7i, hx28_7g⟩ := geti_some hx28_7
    refine Wz (.loc 0 ((Int.toNat (W6 (y17_4 - 1))) * 3)) (Oia rfl enc_GChange_len hx28_7i hx28_7g) <| Wz (.agg [(.i x28_7.Loc), (.i x28_7.Time), (.i x28_7.N)]) (Lr rfl enc_GChange_len hx28_7g) <| Wz (.agg [(.i x20_5.Loc), (.i x20_5.Time), (.i x20_5.N)]) (Old rfl) ?_
    obtain ⟨r31_7, hr31_7, hm⟩ := bnd hm
    refine Wz (.i r31_7) (Ocf [] [] [] 0 (ok_tally_order x28_7 x20_5 r31_7 hr31_7) (fun a w => Try.call54 a w) rfl trivial) <| Wz (.b (decide (r31_7 = 0))) (Obn rfl (fun _ => hb_eql (k := .i64))) <| Wz (.b (decide (r31_7 = 0))) (OpT rfl) <| Wdr <| Tk 8590164056 7 ⟨tp 3 (.own 0::.own 1::tp 1 (.loc 2 0::tp 8 (.own 0::.i ((List.length r14_2 : Nat) : Int)::.i y17_4::tp 15 (.b (decide (r31_7 = 0))::tp 19 [])))), [(Ar 84 3 enc_GChange r14_2), (Ar 84 3 enc_GChange y4_4), (.box [(.i x20_5.Loc), (.i x20_5.Time), (.i x20_5.N)])], 0⟩ ?_
    rcases tf_ (decide (r31_7 = 0)) with hc33_12 | hc33_12
    ·
     replace hm := cT hc33_12 hm
     refine AiT hc33_12 <| Adr <| Wm (.own 1) rfl <| Wm (.own 1) rfl <| Wz (.i ((List.length y4_4 : Nat) : Int)) (Oln rfl) <| Wz (.i (W6 (((List.length y4_4 : Nat) : Int) - 1))) (Obn rfl (fun _ => hb_sub (k := .i64))) ?_
     obtain ⟨x38_8, hx38_8, hm⟩ := bnd hm
     obtain ⟨hx38_8i, hx38_8g⟩ := geti_some hx38_8
     refine Wz (.loc 1 ((Int.toNat (W6 (((List.length y4_4 : Nat) : Int) - 1))) * 3)) (Oia rfl enc_GChange_len hx38_8i hx38_8g) <| Wz (.loc 1 ((Int.toNat (W6 (((List.length y4_4 : Nat) : Int) - 1))) * 3 + 2)) (Ofa rfl) <| Wz (.i x38_8.N) (Lrk1 2 rfl enc_GChange_len hx38_8g) <| Wz (.loc 2 2) (Ofa rfl) <| Wz (.i x20_5.N) (Old rfl) <| Wz (.i (W6 (x38_8.N + x20_5.N))) (Obn rfl (fun _ => hb_add (k := .i64))) ?_
     obtain ⟨x44_8, hx44_8, hm⟩ := bnd hm
     obtain ⟨hx44_8i, hx44_8g⟩ := geti_some hx44_8
     refine Wz (.loc 1 ((Int.toNat (W6 (((List.length y4_4 : Nat) : Int) - 1))) * 3)) (Oia rfl enc_GChange_len hx44_8i hx44_8g) <| Wz (.loc 1 ((Int.toNat (W6 (((List.length y4_4 : Nat) : Int) - 1))) * 3 + 2)) (Ofa rfl) <| Wy (.tup []) [(1, (Ar 84 3 enc_GChange (List.set y4_4 (Int.toNat (W6 (((List.length y4_4 : Nat) : Int) - 1))) (GChange.mk x44_8.Loc x44_8.Time (W6 (x38_8.N + x20_5.N))))))] (Osr 2 rfl enc_GChange_len hx44_8g (GChange.mk x44_8.Loc x44_8.Time (W6 (x38_8.N + x20_5.N)))) <| Wdr <| Ino <| Tk 229400 3 ⟨tp 3 (.own 0::.own 1::tp 10 (.own 0::.i ((List.length r14_2 : Nat) : Int)::.i y17_4::tp 35 [])), [(Ar 84 3 enc_GChange r14_2), (Ar 84 3 enc_GChange (List.set y4_4 (Int.toNat (W6 (((List.length y4_4 : Nat) : Int) - 1))) (GChange.mk x44_8.Loc x44_8.Time (W6 (x38_8.N + x20_5.N))))), .gone], 0⟩ <| Tx <| Wz (.i (W6 (y17_4 + 1))) (Obn rfl (fun _ => hb_add (k := .i64))) <| Wm (.i (W6 (y17_4 + 1))) rfl <| Wn0 <| RoundK.normal ?_
     exact Rounds.weak (Weak.toK 229400 0 0 [0, 1]) (ih_4 (fu_4, (List.set y4_4 (Int.toNat (W6 (((List.length y4_4 : Nat) : Int) - 1))) (GChange.mk x44_8.Loc x44_8.Time (W6 (x38_8.N + x20_5.N)))), (W6 (y17_4 + 1))) hm (Nat.lt_succ_self _))
    ·
     replace hm := cF hc33_12 hm
     refine AiF hc33_12 <| Tx <| Wm (.own 1) rfl <| Wz (.agg [(.i x20_5.Loc), (.i x20_5.Time), (.i x20_5.N)]) (Old rfl) <| Wy (.own 3) [(3, (Ar 84 3 enc_GChange ([x20_5] : List GChange)))] (Obs rfl) ?_
     obtain ⟨a49_6, ha49_6, hm⟩ := bnd hm; obtain ⟨ha49_6e, ha49_6l⟩ := app_some ha49_6
     refine Wy (.own 4) [(1, .gone), (4, (Ar 84 3 enc_GChange a49_6))] (Oap rfl elemOK_34 enc_GChange_len ha49_6e ha49_6l) <| Wm (.own 4) rfl <| Wn0 <| Ino <| Tk 229400 17 ⟨tp 3 (.own 0::.own 4::tp 10 (.own 0::.i ((List.length r14_2 : Nat) : Int)::.i y17_4::tp 35 [])), [(Ar 84 3 enc_GChange r14_2), .gone, .gone, .gone, (Ar 84 3 enc_GChange a49_6)], 0⟩ <| Tx <| Wz (.i (W6 (y17_4 + 1))) (Obn rfl (fun _ => hb_add (k := .i64))) <| Wm (.i (W6 (y17_4 + 1))) rfl <| Wn0 <| RoundK.normal ?_
     exact Rounds.weak (Weak.toK 229400 0 0 [0, 4]) (ih_4 (fu_4, a49_6, (W6 (y17_4 + 1))) hm (Nat.lt_succ_self _))
   ·
    replace hm := cF hq24_7 hm
    refine Wz (.b false) (Oq hq24_7 rfl) <| Wn <| Wn <| Wn <| Wn <| Wn <| Wn <| Wn <| Wn <| Wz (.b false) (OpF rfl) <| Wdr <| Tk 8590164056 7 ⟨tp 3 (.own 0::.own 1::tp 1 (.loc 2 0::tp 8 (.own 0::.i ((List.length r14_2 : Nat) : Int)::.i y17_4::tp 15 (.b false::tp 19 [])))), [(Ar 84 3 enc_GChange r14_2), (Ar 84 3 enc_GChange y4_4), (.box [(.i x20_5.Loc), (.i x20_5.Time), (.i x20_5.N)])], 0⟩ <| AWP.if_ false (by kernel_rfl) <| Tx ?_
    refine Wm (.own 1) rfl <| Wz (.agg [(.i x20_5.Loc), (.i x20_5.Time), (.i x20_5.N)]) (Old rfl) <| Wy (.own 3) [(3, (Ar 84 3 enc_GChange ([x20_5] : List GChange)))] (Obs rfl) ?_
    obtain ⟨a49_9, ha49_9, hm⟩ := bnd hm; obtain ⟨ha49_9e, ha49_9l⟩ := app_some ha49_9
    refine Wy (.own 4) [(1, .gone), (4, (Ar 84 3 enc_GChange a49_9))] (Oap rfl elemOK_34 enc_GChange_len ha49_9e ha49_9l) <| Wm (.own 4) rfl <| Wn0 <| Ino <| Tk 229400 17 ⟨tp 3 (.own 0::.own 4::tp 10 (.own 0::.i ((List.length r14_2 : Nat) : Int)::.i y17_4::tp 35 [])), [(Ar 84 3 enc_GChange r14_2), .gone, .gone, .gone, (Ar 84 3 enc_GChange a49_9)], 0⟩ <| Tx <| Wz (.i (W6 (y17_4 + 1))) (Obn rfl (fun _ => hb_add (k := .i64))) <| Wm (.i (W6 (y17_4 + 1))) rfl <| Wn0 <| RoundK.normal ?_
    exact Rounds.weak (Weak.toK 229400 0 0 [0, 4]) (ih_4 (fu_4, a49_9, (W6 (y17_4 + 1))) hm (Nat.lt_succ_self _))
  ·
   replace hm := cF hc18_11 hm
   refine AiF hc18_11 <| AWP.exit <| Then.exit <| RoundK.exit <| InBlock.same <| Tk 16 2 ⟨tp 4 (.own 1::tp 48 []), [.gone, (Ar 84 3 enc_GChange y4_4)], 0⟩ <| Sx <| Wm (.own 1) rfl ?_
   obtain ⟨r52_10, hr52_10, hm⟩ := bnd hm
   refine Wy (.l enc_GChange r52_10) [(1, .gone)] (Ocf [1] [] [] 0 (ok_slices_DeleteFunc_Change__tally_Normal_1 y4_4 r52_10 hr52_10) (fun a w => Try.call55 a w) rfl ⟨rfl, trivial⟩) <| Wm (.l enc_GChange r52_10) rfl <| Nn <| Rt ?_
   obtain rfl := Option.some.inj hm
   exact ret_i []

theorem ok_view_New (p0 : Int) (p1 : Int) (p2 : (List GChange)) (r : (GNet × Int)) (h : m_view_New p0 p1 p2 = some r) : GCall Try.prog 8 [(.i p0), (.i p1), (.l enc_GChange p2)] [] (.tup [(.agg [(.i r.1.Cap), (.own 0), (.own 1), (.d (.mp (Option.isNone r.1.Links) (mks kv_22 (ml r.1.Links)) (mds (slD (encL enc_GChange)) (ml r.1.Links))))]), (.i r.2)]) [(.arr 34 1 (List.length r.1.Views) (flatD (encL enc_GChange) r.1.Views)), (.arr 34 1 (List.length r.1.Pending) (flatD (encL enc_GChange) r.1.Pending))] := by
 refine GCall.of_body (n := 41) (rs := [(.cell 6 30), (.tmp 7)]) Try.func8 rfl rfl rfl <| Ato ⟨.i p0::.i p1::.l enc_GChange p2::tu 38 [], [], 0⟩ ?_
 have hm := h
 unfold m_view_New at hm
 refine Sx <| Wy (.loc 0 0) [(0, (.box [(.i 0), (.d .nil), (.d .nil), (.d (.mp (Option.isNone (none : Option (List (GArr2_Int × (List (List GChange)))))) (mks kv_22 (ml (none : Option (List (GArr2_Int × (List (List GChange))))))) (mds (slD (encL enc_GChange)) (ml (none : Option (List (GArr2_Int × (List (List GChange)))))))))]))] (Oal rfl) <| Wm (.i 0) rfl <| Nk 71 1 ⟨.i p0::.i p1::.l enc_GChange p2::tp 3 (.loc 0 0::tp 34 []), [(.box [(.i 0), (.d .nil), (.d .nil), (.d (.mp (Option.isNone (none : Option (List (GArr2_Int × (List (List GChange)))))) (mks kv_22 (ml (none : Option (List (GArr2_Int × (List (List GChange))))))) (mds (slD (encL enc_GChange)) (ml (none : Option (List (GArr2_Int × (List (List GChange)))))))))])], 0⟩ <| Sq ?_
 refine AWP.cutJ (α := Unit) (fun x => match x with | () => (⟨.i p0::.i p1::.l enc_GChange p2::tp 3 (.loc 0 0::tp 15 (.b true::tp 18 [])), [(.box [(.i 0), (.d .nil), (.d .nil), (.d (.mp (Option.isNone (none : Option (List (GArr2_Int × (List (List GChange)))))) (mks kv_22 (ml (none : Option (List (GArr2_Int × (List (List GChange))))))) (mds (slD (encL enc_GChange)) (ml (none : Option (List (GArr2_Int × (List (List GChange)))))))))])], 0⟩ : St)) (fun x => match x with | () => m_view_New_j1  = some r) ?_ (fun J1 => ?_)
 ·
  rintro ⟨⟩ hm
  try dsimp only at hm ⊢
  unfold m_view_New_j1 at hm
  refine AWP.if_ true (by kernel_rfl) <| Sx <| Wz (.agg [(.i 0), (.d .nil), (.d .nil), (.d (.mp (Option.isNone (none : Option (List (GArr2_Int × (List (List GChange)))))) (mks kv_22 (ml (none : Option (List (GArr2_Int × (List (List GChange))))))) (mds (slD (encL enc_GChange)) (ml (none : Option (List (GArr2_Int × (List (List GChange)))))))))]) (Obd rfl) <| Wy (.tup []) [(0, (.box [(.i 0), (.d .nil), (.d .nil), (.d (.mp (Option.isNone (none : Option (List (GArr2_Int × (List (List GChange)))))) (mks kv_22 (ml (none : Option (List (GArr2_Int × (List (List GChange))))))) (mds (slD (encL enc_GChange)) (ml (none : Option (List (GArr2_Int × (List (List GChange)))))))))]))] (Ost rfl) <| Wm (.i 2) rfl <| Nn <| Aob 0 1 34 1 ⟨.i p0::.i p1::.l enc_GChange p2::tp 3 (.loc 0 0::.i 2::tp 14 (.b true::.agg [(.i 0), (.d .nil), (.d .nil), (.d (.mp (Option.isNone (none : Option (List (GArr2_Int × (List (List GChange)))))) (mks kv_22 (ml (none : Option (List (GArr2_Int × (List (List GChange))))))) (mds (slD (encL enc_GChange)) (ml (none : Option (List (GArr2_Int × (List (List GChange)))))))))]::tp 17 [])), [(.box [(.i 0), (.own 1), (.d .nil), (.d (.mp (Option.isNone (none : Option (List (GArr2_Int × (List (List GChange)))))) (mks kv_22 (ml (none : Option (List (GArr2_Int × (List (List GChange))))))) (mds (slD (encL enc_GChange)) (ml (none : Option (List (GArr2_Int × (List (List GChange)))))))))]), (.arr 34 1 (List.length ([] : List (List GChange))) (flatD (encL enc_GChange) ([] : List (List GChange))))], 0⟩ <| Aob 0 2 34 1 ⟨.i p0::.i p1::.l enc_GChange p2::tp 3 (.loc 0 0::.i 2::tp 14 (.b true::.agg [(.i 0), (.d .nil), (.d .nil), (.d (.mp (Option.isNone (none : Option (List (GArr2_Int × (List (List GChange)))))) (mks kv_22 (ml (none : Option (List (GArr2_Int × (List (List GChange))))))) (mds (slD (encL enc_GChange)) (ml (none : Option (List (GArr2_Int × (List (List GChange)))))))))]::tp 17 [])), [(.box [(.i 0), (.own 1), (.own 2), (.d (.mp (Option.isNone (none : Option (List (GArr2_Int × (List (List GChange)))))) (mks kv_22 (ml (none : Option (List (GArr2_Int × (List (List GChange))))))) (mds (slD (encL enc_GChange)) (ml (none : Option (List (GArr2_Int × (List (List GChange)))))))))]), (.arr 34 1 (List.length ([] : List (List GChange))) (flatD (encL enc_GChange) ([] : List (List GChange)))), (.arr 34 1 (List.length ([] : List (List GChange))) (flatD (encL enc_GChange) ([] : List (List GChange))))], 0⟩ <| Rt <| Tr ?_
  obtain rfl := Option.some.inj hm
  exact ret_i [1, 2]
 refine Sx <| Wm (.i p0) rfl <| Wz (.b (decide (p0 < 1))) (Obn rfl (fun _ => hb_lss (k := .i64))) ?_
 rcases tf_ (decide (p0 < 1)) with hq11_0 | hq11_0
 ·
  replace hm := cT hq11_0 hm
  refine Wz (.b true) (Oq hq11_0 rfl) <| Wn <| Wn <| Wz (.b true) (OpT rfl) <| Wm (.b true) rfl <| Wn <| Wn <| Wz (.b true) (OpT rfl) <| Wm (.b true) rfl <| Wn <| Wn <| Wz (.b true) (OpT rfl) <| Nn ?_
  exact AWP.weak (Weak.toK 4194375 0 0 [0]) (J1 () hm)
 ·
  replace hm := cF hq11_0 hm
  refine Wz (.b false) (Oq hq11_0 rfl) <| Wm (.i p0) rfl <| Wz (.b (decide ((16 : Int) < p0))) (Obn rfl (fun _ => hb_gtr (k := .i64))) <| Wz (.b (decide ((16 : Int) < p0))) (OpF rfl) ?_
  rcases tf_ (decide ((16 : Int) < p0)) with hq15_0 | hq15_0
  ·
   replace hm := cT hq15_0 hm
   refine Wz (.b true) (Oq hq15_0 rfl) <| Wn <| Wn <| Wz (.b true) (OpT rfl) <| Wm (.b true) rfl <| Wn <| Wn <| Wz (.b true) (OpT rfl) <| Nn ?_
   exact AWP.weak (Weak.toK 4194375 0 0 [0]) (J1 () hm)
  ·
   replace hm := cF hq15_0 hm
   refine Wz (.b false) (Oq hq15_0 rfl) <| Wm (.i p1) rfl <| Wz (.b (decide (p1 < 1))) (Obn rfl (fun _ => hb_lss (k := .i64))) <| Wz (.b (decide (p1 < 1))) (OpF rfl) ?_
   rcases tf_ (decide (p1 < 1)) with hq19_0 | hq19_0
   ·
    replace hm := cT hq19_0 hm
    refine Wz (.b true) (Oq hq19_0 rfl) <| Wn <| Wn <| Wz (.b true) (OpT rfl) <| Nn ?_
    exact AWP.weak (Weak.toK 4194375 0 0 [0]) (J1 () hm)
   ·
    replace hm := cF hq19_0 hm
    refine Wz (.b false) (Oq hq19_0 rfl) <| Wm (.i p1) rfl <| Wz (.b (decide ((4096 : Int) < p1))) (Obn rfl (fun _ => hb_gtr (k := .i64))) <| Wz (.b (decide ((4096 : Int) < p1))) (OpF rfl) <| Nk 4194375 1 ⟨.i p0::.i p1::.l enc_GChange p2::tp 3 (.loc 0 0::tp 15 (.b (decide ((4096 : Int) < p1))::tp 18 [])), [(.box [(.i 0), (.d .nil), (.d .nil), (.d (.mp (Option.isNone (none : Option (List (GArr2_Int × (List (List GChange)))))) (mks kv_22 (ml (none : Option (List (GArr2_Int × (List (List GChange))))))) (mds (slD (encL enc_GChange)) (ml (none : Option (List (GArr2_Int × (List (List GChange)))))))))])], 0⟩ ?_
    rcases tf_ (decide ((4096 : Int) < p1)) with hc22_5 | hc22_5
    ·
     replace hm := cT hc22_5 hm
     refine AiT hc22_5 <| Sx <| Wz (.agg [(.i 0), (.d .nil), (.d .nil), (.d (.mp (Option.isNone (none : Option (List (GArr2_Int × (List (List GChange)))))) (mks kv_22 (ml (none : Option (List (GArr2_Int × (List (List GChange))))))) (mds (slD (encL enc_GChange)) (ml (none : Option (List (GArr2_Int × (List (List GChange)))))))))]) (Obd rfl) <| Wy (.tup []) [(0, (.box [(.i 0), (.d .nil), (.d .nil), (.d (.mp (Option.isNone (none : Option (List (GArr2_Int × (List (List GChange)))))) (mks kv_22 (ml (none : Option (List (GArr2_Int × (List (List GChange))))))) (mds (slD (encL enc_GChange)) (ml (none : Option (List (GArr2_Int × (List (List GChange)))))))))]))] (Ost rfl) <| Wm (.i 2) rfl <| Nn <| Aob 0 1 34 1 ⟨.i p0::.i p1::.l enc_GChange p2::tp 3 (.loc 0 0::.i 2::tp 14 (.b (decide ((4096 : Int) < p1))::.agg [(.i 0), (.d .nil), (.d .nil), (.d (.mp (Option.isNone (none : Option (List (GArr2_Int × (List (List GChange)))))) (mks kv_22 (ml (none : Option (List (GArr2_Int × (List (List GChange))))))) (mds (slD (encL enc_GChange)) (ml (none : Option (List (GArr2_Int × (List (List GChange)))))))))]::tp 17 [])), [(.box [(.i 0), (.own 1), (.d .nil), (.d (.mp (Option.isNone (none : Option (List (GArr2_Int × (List (List GChange)))))) (mks kv_22 (ml (none : Option (List (GArr2_Int × (List (List GChange))))))) (mds (slD (encL enc_GChange)) (ml (none : Option (List (GArr2_Int × (List (List GChange)))))))))]), (.arr 34 1 (List.length ([] : List (List GChange))) (flatD (encL enc_GChange) ([] : List (List GChange))))], 0⟩ <| Aob 0 2 34 1 ⟨.i p0::.i p1::.l enc_GChange p2::tp 3 (.loc 0 0::.i 2::tp 14 (.b (decide ((4096 : Int) < p1))::.agg [(.i 0), (.d .nil), (.d .nil), (.d (.mp (Option.isNone (none : Option (List (GArr2_Int × (List (List GChange)))))) (mks kv_22 (ml (none : Option (List (GArr2_Int × (List (List GChange))))))) (mds (slD (encL enc_GChange)) (ml (none : Option (List (GArr2_Int × (List (List GChange)))))))))]::tp 17 [])), [(.box [(.i 0), (.own 1), (.own 2), (.d (.mp (Option.isNone (none : Option (List (GArr2_Int × (List (List GChange)))))) (mks kv_22 (ml (none : Option (List (GArr2_Int × (List (List GChange))))))) (mds (slD (encL enc_GChange)) (ml (none : Option (List (GArr2_Int × (List (List GChange)))))))))]), (.arr 34 1 (List.length ([] : List (List GChange))) (flatD (encL enc_GChange) ([] : List (List GChange)))), (.arr 34 1 (List.length ([] : List (List GChange))) (flatD (encL enc_GChange) ([] : List (List GChange))))], 0⟩ <| Rt <| Tr ?_
     obtain rfl := Option.some.inj hm
     exact ret_i [1, 2]
    ·
     replace hm := cF hc22_5 hm
     refine AiF hc22_5 <| Sk <| Tk 71 1 ⟨.i p0::.i p1::.l enc_GChange p2::tp 3 (.loc 0 0::tp 34 []), [(.box [(.i 0), (.d .nil), (.d .nil), (.d (.mp (Option.isNone (none : Option (List (GArr2_Int × (List (List GChange)))))) (mks kv_22 (ml (none : Option (List (GArr2_Int × (List (List GChange))))))) (mds (slD (encL enc_GChange)) (ml (none : Option (List (GArr2_Int × (List (List GChange)))))))))])], 0⟩ <| Sx <| Wm (.i p1) rfl <| Wm (.i p0) rfl ?_
     obtain ⟨m26_2, hm26_2, hm⟩ := bnd hm; obtain ⟨hm26_2i, hm26_2l, hm26_2e⟩ := mk_some hm26_2
     refine Wy (.own 1) [(1, (.arr 34 1 (List.length m26_2) (flatD (encL enc_GChange) m26_2)))] (OcB (op_make rfl elemOK_27 (by kernel_rfl) (kl := .i64) (kc := .i64) (L := p0) (C := p0) (by kernel_rfl) (by kernel_rfl) (n := Int.toNat p0) hm26_2i hm26_2i (by omega) (by kernel_rfl)) (bl_one (by rw [hm26_2e]; simp) (by rw [hm26_2e]; exact (flat_rep (by kernel_rfl))))) <| Wy (.own 2) [(2, (.mp (mks kv_22 ([] : List (GArr2_Int × (List (List GChange))))) (mds (slD (encL enc_GChange)) ([] : List (GArr2_Int × (List (List GChange)))))))] (Omm rfl) <| Wz (.agg [(.i p1), (.d .nil), (.own 1), (.own 2)]) (Obd rfl) <| Wy (.loc 3 0) [(3, (.box [(.i 0), (.d .nil), (.d .nil), (.d (.mp (Option.isNone (none : Option (List (GArr2_Int × (List (List GChange)))))) (mks kv_22 (ml (none : Option (List (GArr2_Int × (List (List GChange))))))) (mds (slD (encL enc_GChange)) (ml (none : Option (List (GArr2_Int × (List (List GChange)))))))))]))] (Oal rfl) <| Wy (.tup []) [(3, (.box [(.i p1), (.d .nil), (.own 1), (.own 2)]))] (Ost rfl) <| Nk 325 15 ⟨.i p0::tp 1 (.l enc_GChange p2::tp 3 (.loc 0 0::tp 1 (.loc 3 0::tp 32 []))), [(.box [(.i 0), (.d .nil), (.d .nil), (.d (.mp (Option.isNone (none : Option (List (GArr2_Int × (List (List GChange)))))) (mks kv_22 (ml (none : Option (List (GArr2_Int × (List (List GChange))))))) (mds (slD (encL enc_GChange)) (ml (none : Option (List (GArr2_Int × (List (List GChange)))))))))]), (.arr 34 1 (List.length m26_2) (flatD (encL enc_GChange) m26_2)), (.mp (mks kv_22 ([] : List (GArr2_Int × (List (List GChange))))) (mds (slD (encL enc_GChange)) ([] : List (GArr2_Int × (List (List GChange)))))), (.box [(.i p1), (.d .nil), (.own 1), (.own 2)])], 0⟩ <| Sq <| Sx <| Wm (.i p0) rfl <| Wm (.i 0) rfl <| Nk 1610613060 15 ⟨tp 2 (.l enc_GChange p2::tp 3 (.loc 0 0::tp 1 (.loc 3 0::tp 20 (.i p0::.i 0::tp 10 [])))), [(.box [(.i 0), (.d .nil), (.d .nil), (.d (.mp (Option.isNone (none : Option (List (GArr2_Int × (List (List GChange)))))) (mks kv_22 (ml (none : Option (List (GArr2_Int × (List (List GChange))))))) (mds (slD (encL enc_GChange)) (ml (none : Option (List (GArr2_Int × (List (List GChange)))))))))]), (.arr 34 1 (List.length m26_2) (flatD (encL enc_GChange) m26_2)), (.mp (mks kv_22 ([] : List (GArr2_Int × (List (List GChange))))) (mds (slD (encL enc_GChange)) ([] : List (GArr2_Int × (List (List GChange)))))), (.box [(.i p1), (.d .nil), (.own 1), (.own 2)])], 0⟩ <| Bk <| Aob 3 1 34 1 ⟨tp 2 (.l enc_GChange p2::tp 3 (.loc 0 0::tp 1 (.loc 3 0::tp 20 (.i p0::.i 0::tp 10 [])))), [(.box [(.i 0), (.d .nil), (.d .nil), (.d (.mp (Option.isNone (none : Option (List (GArr2_Int × (List (List GChange)))))) (mks kv_22 (ml (none : Option (List (GArr2_Int × (List (List GChange))))))) (mds (slD (encL enc_GChange)) (ml (none : Option (List (GArr2_Int × (List (List GChange)))))))))]), (.arr 34 1 (List.length m26_2) (flatD (encL enc_GChange) m26_2)), (.mp (mks kv_22 ([] : List (GArr2_Int × (List (List GChange))))) (mds (slD (encL enc_GChange)) ([] : List (GArr2_Int × (List (List GChange)))))), (.box [(.i p1), (.own 4), (.own 1), (.own 2)]), (.arr 34 1 (List.length ([] : List (List GChange))) (flatD (encL enc_GChange) ([] : List (List GChange))))], 0⟩ ?_
     refine AWP.loopI (α := Nat × (List (List GChange)) × Int)
       (fun (fu_3, y8_d_1_3, y30_3) => (⟨tp 2 (.l enc_GChange p2::tp 3 (.loc 0 0::tp 1 (.loc 1 0::tp 20 (.i p0::.i y30_3::tp 10 [])))), [(.box [(.i 0), (.d .nil), (.d .nil), (.d (.mp (Option.isNone (none : Option (List (GArr2_Int × (List (List GChange)))))) (mks kv_22 (ml (none : Option (List (GArr2_Int × (List (List GChange))))))) (mds (slD (encL enc_GChange)) (ml (none : Option (List (GArr2_Int × (List (List GChange)))))))))]), (.box [(.i p1), (.own 2), (.own 3), (.own 4)]), (.arr 34 1 (List.length y8_d_1_3) (flatD (encL enc_GChange) y8_d_1_3)), (.arr 34 1 (List.length m26_2) (flatD (encL enc_GChange) m26_2)), (.mp (mks kv_22 ([] : List (GArr2_Int × (List (List GChange))))) (mds (slD (encL enc_GChange)) ([] : List (GArr2_Int × (List (List GChange))))))], 0⟩ : St))
       (fun (fu_3, y8_d_1_3, y30_3) => m_view_New_l3 p0 p1 p2 m26_2 fu_3 y8_d_1_3 y30_3 = some r)
       (fun (fu_3, y8_d_1_3, y30_3) => fu_3) (1152921504606846976, ([] : List (List GChange)), 0)
       (Weak.toK 1610613060 0 0 [0, 3, 4, 1, 2]) hm ?_
     rintro ⟨fu_3, y8_d_1_3, y30_3⟩ n_3 hm ih_3
     try dsimp only at hm ih_3 ⊢
     cases fu_3 with
     | zero => exact absurd hm (by unfold m_view_New_l3; simp)
     | succ fu_3 =>
      unfold m_view_New_l3 at hm
      refine Sx <| Wz (.b (decide (y30_3 < p0))) (Obn rfl (fun _ => hb_lss (k := .i64))) <| Nk 3758096708 31 ⟨tp 2 (.l enc_GChange p2::tp 3 (.loc 0 0::tp 1 (.loc 1 0::tp 20 (.i p0::.i y30_3::.b (decide (y30_3 < p0))::tp 9 [])))), [(.box [(.i 0), (.d .nil), (.d .nil), (.d (.mp (Option.isNone (none : Option (List (GArr2_Int × (List (List GChange)))))) (mks kv_22 (ml (none : Option (List (GArr2_Int × (List (List GChange))))))) (mds (slD (encL enc_GChange)) (ml (none : Option (List (GArr2_Int × (List (List GChange)))))))))]), (.box [(.i p1), (.own 2), (.own 3), (.own 4)]), (.arr 34 1 (List.length y8_d_1_3) (flatD (encL enc_GChange) y8_d_1_3)), (.arr 34 1 (List.length m26_2) (flatD (encL enc_GChange) m26_2)), (.mp (mks kv_22 ([] : List (GArr2_Int × (List (List GChange))))) (mds (slD (encL enc_GChange)) ([] : List (GArr2_Int × (List (List GChange))))))], 0⟩ <| Sq ?_
      rcases tf_ (decide (y30_3 < p0)) with hc31_6 | hc31_6
      ·
       replace hm := cT hc31_6 hm
       refine AiT hc31_6 <| Sk <| Tk 1610613060 31 ⟨tp 2 (.l enc_GChange p2::tp 3 (.loc 0 0::tp 1 (.loc 1 0::tp 20 (.i p0::.i y30_3::tp 10 [])))), [(.box [(.i 0), (.d .nil), (.d .nil), (.d (.mp (Option.isNone (none : Option (List (GArr2_Int × (List (List GChange)))))) (mks kv_22 (ml (none : Option (List (GArr2_Int × (List (List GChange))))))) (mds (slD (encL enc_GChange)) (ml (none : Option (List (GArr2_Int × (List (List GChange)))))))))]), (.box [(.i p1), (.own 2), (.own 3), (.own 4)]), (.arr 34 1 (List.length y8_d_1_3) (flatD (encL enc_GChange) y8_d_1_3)), (.arr 34 1 (List.length m26_2) (flatD (encL enc_GChange) m26_2)), (.mp (mks kv_22 ([] : List (GArr2_Int × (List (List GChange))))) (mds (slD (encL enc_GChange)) ([] : List (GArr2_Int × (List (List GChange))))))], 0⟩ <| Sq <| Bk <| Adr <| Wz (.loc 1 1) (Ofa rfl) <| Wz (.own 2) (Old rfl) <| Wm (.l enc_GChange p2) rfl ?_
       obtain ⟨r35_4, hr35_4, hm⟩ := bnd hm
       refine Wz (.l enc_GChange r35_4) (Ocf [] [] [] 0 (ok_tally_Normal p2 r35_4 hr35_4) (fun a w => Try.call30 a w) rfl trivial) <| Wy (.own 5) [(5, (.arr 34 1 (List.length ([r35_4] : List (List GChange))) (flatD (encL enc_GChange) ([r35_4] : List (List GChange)))))] (Obs rfl) ?_
       obtain ⟨a37_4, ha37_4, hm⟩ := bnd hm; obtain ⟨ha37_4e, ha37_4l⟩ := app_some ha37_4
       refine Wy (.own 6) [(2, .gone), (6, (.arr 34 1 (List.length a37_4) (flatD (encL enc_GChange) a37_4)))] (Oap rfl elemOK_27 (encL_len (enc := enc_GChange)) ha37_4e ha37_4l) <| Wz (.loc 1 1) (Ofa rfl) <| Wy (.tup []) [(1, (.box [(.i p1), (.own 6), (.own 3), (.own 4)]))] (Ost rfl) <| Wdr <| Ino <| Tk 1610613060 91 ⟨tp 2 (.l enc_GChange p2::tp 3 (.loc 0 0::tp 1 (.loc 1 0::tp 20 (.i p0::.i y30_3::tp 10 [])))), [(.box [(.i 0), (.d .nil), (.d .nil), (.d (.mp (Option.isNone (none : Option (List (GArr2_Int × (List (List GChange)))))) (mks kv_22 (ml (none : Option (List (GArr2_Int × (List (List GChange))))))) (mds (slD (encL enc_GChange)) (ml (none : Option (List (GArr2_Int × (List (List GChange)))))))))]), (.box [(.i p1), (.own 6), (.own 3), (.own 4)]), .gone, (.arr 34 1 (List.length m26_2) (flatD (encL enc_GChange) m26_2)), (.mp (mks kv_22 ([] : List (GArr2_Int × (List (List GChange))))) (mds (slD (encL enc_GChange)) ([] : List (GArr2_Int × (List (List GChange)))))), .gone, (.arr 34 1 (List.length a37_4) (flatD (encL enc_GChange) a37_4))], 0⟩ <| Tx <| Wz (.i (W6 (y30_3 + 1))) (Obn rfl (fun _ => hb_add (k := .i64))) <| Wm (.i (W6 (y30_3 + 1))) rfl <| Wn0 <| RoundK.normal ?_
       exact Rounds.weak (Weak.toK 1610613060 0 0 [0, 1, 6, 3, 4]) (ih_3 (fu_3, a37_4, (W6 (y30_3 + 1))) hm (Nat.lt_succ_self _))
      ·
       replace hm := cF hc31_6 hm
       refine AiF hc31_6 <| AWP.exit <| Then.exit <| RoundK.exit <| InBlock.same <| Tk 320 31 ⟨tp 6 (.loc 0 0::tp 1 (.loc 1 0::tp 32 [])), [(.box [(.i 0), (.d .nil), (.d .nil), (.d (.mp (Option.isNone (none : Option (List (GArr2_Int × (List (List GChange)))))) (mks kv_22 (ml (none : Option (List (GArr2_Int × (List (List GChange))))))) (mds (slD (encL enc_GChange)) (ml (none : Option (List (GArr2_Int × (List (List GChange)))))))))]), (.box [(.i p1), (.own 2), (.own 3), (.own 4)]), (.arr 34 1 (List.length y8_d_1_3) (flatD (encL enc_GChange) y8_d_1_3)), (.arr 34 1 (List.length m26_2) (flatD (encL enc_GChange) m26_2)), (.mp (mks kv_22 ([] : List (GArr2_Int × (List (List GChange))))) (mds (slD (encL enc_GChange)) ([] : List (GArr2_Int × (List (List GChange))))))], 0⟩ <| Sx <| Wz (.agg [(.i p1), (.own 2), (.own 3), (.own 4)]) (Old rfl) <| Wy (.tup []) [(0, (.box [(.i p1), (.own 2), (.own 3), (.own 4)]))] (Ost rfl) <| Wm (.i 0) rfl <| Nn <| Afz [4] ⟨tp 6 (.loc 0 0::.i 0::.loc 1 0::tp 31 (.agg [(.i p1), (.own 2), (.own 3), (.d (.mp (Option.isNone (some ([] : List (GArr2_Int × (List (List GChange)))))) (mks kv_22 (ml (some ([] : List (GArr2_Int × (List (List GChange))))))) (mds (slD (encL enc_GChange)) (ml (some ([] : List (GArr2_Int × (List (List GChange)))))))))]::[])), [(.box [(.i p1), (.own 2), (.own 3), (.d (.mp (Option.isNone (some ([] : List (GArr2_Int × (List (List GChange)))))) (mks kv_22 (ml (some ([] : List (GArr2_Int × (List (List GChange))))))) (mds (slD (encL enc_GChange)) (ml (some ([] : List (GArr2_Int × (List (List GChange)))))))))]), (.box [(.i p1), (.own 2), (.own 3), (.d (.mp (Option.isNone (some ([] : List (GArr2_Int × (List (List GChange)))))) (mks kv_22 (ml (some ([] : List (GArr2_Int × (List (List GChange))))))) (mds (slD (encL enc_GChange)) (ml (some ([] : List (GArr2_Int × (List (List GChange)))))))))]), (.arr 34 1 (List.length y8_d_1_3) (flatD (encL enc_GChange) y8_d_1_3)), (.arr 34 1 (List.length m26_2) (flatD (encL enc_GChange) m26_2)), .gone], 0⟩ <| Rt ?_
       obtain rfl := Option.some.inj hm
       exact ret_i [2, 3]

theorem ok_view_Net_there (p0 : GNet) (p1 : Int) (r : Bool) (h : m_view_Net_there p0 p1 = some r) : GCall Try.prog 38 [(.agg [(.i p0.Cap), (.l (encL enc_GChange) p0.Views), (.l (encL enc_GChange) p0.Pending), (.d (.mp (Option.isNone p0.Links) (mks kv_22 (ml p0.Links)) (mds (slD (encL enc_GChange)) (ml p0.Links))))]), (.i p1)] [] (.b r) [] := by
 refine GCall.of_body (n := 14) (rs := [(.tmp 4)]) Try.func38 rfl rfl rfl <| Ato ⟨.agg [(.i p0.Cap), (.l (encL enc_GChange) p0.Views), (.l (encL enc_GChange) p0.Pending), (.d (.mp (Option.isNone p0.Links) (mks kv_22 (ml p0.Links)) (mds (slD (encL enc_GChange)) (ml p0.Links))))]::.i p1::tu 12 [], [], 0⟩ ?_
 have hm := h
 unfold m_view_Net_there at hm
 refine Sx <| Wy (.loc 0 0) [(0, (.box [(.i p0.Cap), (.l (encL enc_GChange) p0.Views), (.l (encL enc_GChange) p0.Pending), (.d (.mp (Option.isNone p0.Links) (mks kv_22 (ml p0.Links)) (mds (slD (encL enc_GChange)) (ml p0.Links))))]))] (Obx rfl) <| Wm (.b false) rfl <| Nk 6 1 ⟨tp 1 (.i p1::.loc 0 0::tp 11 []), [(.box [(.i p0.Cap), (.l (encL enc_GChange) p0.Views), (.l (encL enc_GChange) p0.Pending), (.d (.mp (Option.isNone p0.Links) (mks kv_22 (ml p0.Links)) (mds (slD (encL enc_GChange)) (ml p0.Links))))])], 0⟩ <| Sx <| Wm (.i p1) rfl <| Wz (.b (decide ((0 : Int) ≤ p1))) (Obn rfl (fun _ => hb_geq (k := .i64))) ?_
 rcases tf_ (decide ((0 : Int) ≤ p1)) with hq7_0 | hq7_0
 ·
  replace hm := cT hq7_0 hm
  refine Wz (.b true) (Oq hq7_0 rfl) <| Wm (.i p1) rfl <| Wz (.loc 0 1) (Ofa rfl) <| Wz (.l (encL enc_GChange) p0.Views) (Old rfl) <| Wz (.i ((List.length p0.Views : Nat) : Int)) (Oln rfl) <| Wz (.b (decide (p1 < ((List.length p0.Views : Nat) : Int)))) (Obn rfl (fun _ => hb_lss (k := .i64))) <| Wz (.b (decide (p1 < ((List.length p0.Views : Nat) : Int)))) (OpT rfl) <| Wm (.b (decide (p1 < ((List.length p0.Views : Nat) : Int)))) rfl <| Nn <| Rt ?_
  obtain rfl := Option.some.inj hm
  exact ret_i []
 ·
  replace hm := cF hq7_0 hm
  refine Wz (.b false) (Oq hq7_0 rfl) <| Wn <| Wn <| Wn <| Wn <| Wn <| Wz (.b false) (OpF rfl) <| Wm (.b false) rfl <| Nn <| Rt ?_
  obtain rfl := Option.some.inj hm
  exact ret_i []

theorem ok_slices_Clone_tally_Change_tally_Change (p0 : (List (List GChange))) (r : (List (List GChange))) (h : m_slices_Clone_tally_Change_tally_Change p0 = some r) : GCall Try.prog 43 [(.l (encL enc_GChange) p0)] [] (.own 0) [(.arr 34 1 (List.length r) (flatD (encL enc_GChange) r))] := by
 refine GCall.of_body (n := 8) (rs := [(.tmp 2)]) Try.func43 rfl rfl rfl <| Ato ⟨.l (encL enc_GChange) p0::tu 7 [], [], 0⟩ ?_
 have hm := h
 unfold m_slices_Clone_tally_Change_tally_Change at hm
 refine Sx <| Wm (.d .nil) rfl <| Nk 1 0 ⟨.l (encL enc_GChange) p0::tp 7 [], [], 0⟩ <| Sq <| Sx <| Wm (.l (encL enc_GChange) p0) rfl <| Wz (.ab (List.length p0 = 0)) (op_eqnil rfl (e := 34) (by kernel_rfl) (ya := (.l (encL enc_GChange) p0)) (by kernel_rfl) (ds := flatD (encL enc_GChange) p0) (off := 0) (by kernel_rfl) (by kernel_rfl)) <| Nk 17 0 ⟨.l (encL enc_GChange) p0::tp 3 (.ab (List.length p0 = 0)::tp 3 []), [], 0⟩ ?_
 refine AWP.condU (p := List.length p0 = 0) (by kernel_rfl) (fun hnil => ?_) ?_
 ·
  refine Sx <| Wm (.d .nil) rfl <| Nn <| Aow 2 34 1 ⟨.l (encL enc_GChange) p0::tp 1 (.own 0::tp 1 (.ab (List.length p0 = 0)::tp 3 [])), [(.arr 34 1 (List.length ([] : List (List GChange))) (flatD (encL enc_GChange) ([] : List (List GChange))))], 0⟩ <| Rt <| Tr ?_
  obtain rfl := nil_app hm (List.eq_nil_of_length_eq_zero hnil)
  exact ret_i [0]
 refine Sk <| Tk 1 0 ⟨.l (encL enc_GChange) p0::tp 7 [], [], 0⟩ <| Sx <| Wy (.own 0) [(0, (.arr 34 1 (List.length ([] : List (List GChange))) (flatD (encL enc_GChange) ([] : List (List GChange)))))] (Obs rfl) <| Wm (.l (encL enc_GChange) p0) rfl ?_
 obtain ⟨a7_0, ha7_0, hm⟩ := bnd hm; obtain ⟨ha7_0e, ha7_0l⟩ := app_some ha7_0
 refine Wy (.own 1) [(0, .gone), (1, (.arr 34 1 (List.length a7_0) (flatD (encL enc_GChange) a7_0)))] (Oap rfl elemOK_27 (encL_len (enc := enc_GChange)) ha7_0e ha7_0l) <| Wm (.own 1) rfl <| Nn <| Rt ?_
 obtain rfl := Option.some.inj hm
 exact ret_i [1]

theorem ok_view_Net_clone (p0 : GNet) (r : GNet) (h : m_view_Net_clone p0 = some r) : GCall Try.prog 39 [(.agg [(.i p0.Cap), (.l (encL enc_GChange) p0.Views), (.l (encL enc_GChange) p0.Pending), (.d (.mp (Option.isNone p0.Links) (mks kv_22 (ml p0.Links)) (mds (slD (encL enc_GChange)) (ml p0.Links))))])] [] (.agg [(.i r.Cap), (.own 0), (.own 1), (.own 2)]) [(.arr 34 1 (List.length r.Views) (flatD (encL enc_GChange) r.Views)), (.arr 34 1 (List.length r.Pending) (flatD (encL enc_GChange) r.Pending)), (.mp (mks kv_22 (ml r.Links)) (mds (slD (encL enc_GChange)) (ml r.Links)))] := by
 refine GCall.of_body (n := 21) (rs := [(.cell 2 30)]) Try.func39 rfl rfl rfl <| Ato ⟨.agg [(.i p0.Cap), (.l (encL enc_GChange) p0.Views), (.l (encL enc_GChange) p0.Pending), (.d (.mp (Option.isNone p0.Links) (mks kv_22 (ml p0.Links)) (mds (slD (encL enc_GChange)) (ml p0.Links))))]::tu 20 [], [], 0⟩ ?_
 have hm := h
 unfold m_view_Net_clone at hm
 refine Sx <| Wy (.loc 0 0) [(0, (.box [(.i p0.Cap), (.l (encL enc_GChange) p0.Views), (.l (encL enc_GChange) p0.Pending), (.d (.mp (Option.isNone p0.Links) (mks kv_22 (ml p0.Links)) (mds (slD (encL enc_GChange)) (ml p0.Links))))]))] (Obx rfl) <| Wy (.loc 1 0) [(1, (.box [(.i 0), (.d .nil), (.d .nil), (.d (.mp (Option.isNone (none : Option (List (GArr2_Int × (List (List GChange)))))) (mks kv_22 (ml (none : Option (List (GArr2_Int × (List (List GChange))))))) (mds (slD (encL enc_GChange)) (ml (none : Option (List (GArr2_Int × (List (List GChange)))))))))]))] (Oal rfl) <| Nk 6 3 ⟨tp 1 (.loc 0 0::.loc 1 0::tp 18 []), [(.box [(.i p0.Cap), (.l (encL enc_GChange) p0.Views), (.l (encL enc_GChange) p0.Pending), (.d (.mp (Option.isNone p0.Links) (mks kv_22 (ml p0.Links)) (mds (slD (encL enc_GChange)) (ml p0.Links))))]), (.box [(.i 0), (.d .nil), (.d .nil), (.d (.mp (Option.isNone (none : Option (List (GArr2_Int × (List (List GChange)))))) (mks kv_22 (ml (none : Option (List (GArr2_Int × (List (List GChange))))))) (mds (slD (encL enc_GChange)) (ml (none : Option (List (GArr2_Int × (List (List GChange)))))))))])], 0⟩ <| Sq <| Adr <| Wz (.loc 0 1) (Ofa rfl) <| Wz (.l (encL enc_GChange) p0.Views) (Old rfl) ?_
 obtain ⟨r5_0, hr5_0, hm⟩ := bnd hm
 refine Wy (.own 2) [(2, (.arr 34 1 (List.length r5_0) (flatD (encL enc_GChange) r5_0)))] (Ocf [] [2] [] 0 (ok_slices_Clone_tally_Change_tally_Change p0.Views r5_0 hr5_0) (fun a w => Try.call43 a w) rfl trivial) <| Wz (.loc 0 2) (Ofa rfl) <| Wz (.l (encL enc_GChange) p0.Pending) (Old rfl) ?_
 obtain ⟨r8_0, hr8_0, hm⟩ := bnd hm
 refine Wy (.own 3) [(3, (.arr 34 1 (List.length r8_0) (flatD (encL enc_GChange) r8_0)))] (Ocf [] [3] [] 0 (ok_slices_Clone_tally_Change_tally_Change p0.Pending r8_0 hr8_0) (fun a w => Try.call43 a w) rfl trivial) <| Wz (.loc 0 3) (Ofa rfl) <| Wz (.d (.mp (Option.isNone p0.Links) (mks kv_22 (ml p0.Links)) (mds (slD (encL enc_GChange)) (ml p0.Links)))) (Old rfl) ?_
 rcases tf_ (Option.isNone p0.Links) with hq11_0_n | hq11_0_n
 ·
  replace hm := cT hq11_0_n hm
  refine Wz (.d (.mp true [] [])) (Ocf [] [] [] 0 (mclone_n (kv := kv_22) (ev := (slD (encL enc_GChange))) hq11_0_n) (fun a w => Try.call68 a w) rfl trivial) <| Wz (.loc 0 1) (Ofa rfl) <| Wy (.tup []) [(0, (.box [(.i p0.Cap), (.own 2), (.l (encL enc_GChange) p0.Pending), (.d (.mp (Option.isNone p0.Links) (mks kv_22 (ml p0.Links)) (mds (slD (encL enc_GChange)) (ml p0.Links))))]))] (Ost rfl) <| Wz (.loc 0 2) (Ofa rfl) <| Wy (.tup []) [(0, (.box [(.i p0.Cap), (.own 2), (.own 3), (.d (.mp (Option.isNone p0.Links) (mks kv_22 (ml p0.Links)) (mds (slD (encL enc_GChange)) (ml p0.Links))))]))] (Ost rfl) <| Wz (.loc 0 3) (Ofa rfl) <| Wy (.tup []) [(0, (.box [(.i p0.Cap), (.own 2), (.own 3), (.d (.mp true [] []))]))] (Ost rfl) <| Wdr <| Tk 6 15 ⟨tp 1 (.loc 0 0::.loc 1 0::tp 18 []), [(.box [(.i p0.Cap), (.own 2), (.own 3), (.d (.mp true [] []))]), (.box [(.i 0), (.d .nil), (.d .nil), (.d (.mp (Option.isNone (none : Option (List (GArr2_Int × (List (List GChange)))))) (mks kv_22 (ml (none : Option (List (GArr2_Int × (List (List GChange))))))) (mds (slD (encL enc_GChange)) (ml (none : Option (List (GArr2_Int × (List (List GChange)))))))))]), (.arr 34 1 (List.length r5_0) (flatD (encL enc_GChange) r5_0)), (.arr 34 1 (List.length r8_0) (flatD (encL enc_GChange) r8_0))], 0⟩ <| Sq <| Sx <| Wz (.loc 0 3) (Ofa rfl) <| Wz (.d (.mp true [] [])) (Old rfl) <| Wz (.b true) (Mmn rfl) ?_
  refine Nk 131078 15 ⟨tp 1 (.loc 0 0::.loc 1 0::tp 14 (.b true::tp 3 [])), [(.box [(.i p0.Cap), (.own 2), (.own 3), (.d (.mp true [] []))]), (.box [(.i 0), (.d .nil), (.d .nil), (.d (.mp (Option.isNone (none : Option (List (GArr2_Int × (List (List GChange)))))) (mks kv_22 (ml (none : Option (List (GArr2_Int × (List (List GChange))))))) (mds (slD (encL enc_GChange)) (ml (none : Option (List (GArr2_Int × (List (List GChange)))))))))]), (.arr 34 1 (List.length r5_0) (flatD (encL enc_GChange) r5_0)), (.arr 34 1 (List.length r8_0) (flatD (encL enc_GChange) r8_0))], 0⟩ <| AWP.if_ true (by kernel_rfl) <| Tx <| Wy (.own 4) [(4, (.mp (mks kv_22 ([] : List (GArr2_Int × (List (List GChange))))) (mds (slD (encL enc_GChange)) ([] : List (GArr2_Int × (List (List GChange)))))))] (Omm rfl) <| Wz (.loc 0 3) (Ofa rfl) <| Wy (.tup []) [(0, (.box [(.i p0.Cap), (.own 2), (.own 3), (.own 4)]))] (Ost rfl) <| Nk 6 31 ⟨tp 1 (.loc 0 0::.loc 1 0::tp 18 []), [(.box [(.i p0.Cap), (.own 2), (.own 3), (.own 4)]), (.box [(.i 0), (.d .nil), (.d .nil), (.d (.mp (Option.isNone (none : Option (List (GArr2_Int × (List (List GChange)))))) (mks kv_22 (ml (none : Option (List (GArr2_Int × (List (List GChange))))))) (mds (slD (encL enc_GChange)) (ml (none : Option (List (GArr2_Int × (List (List GChange)))))))))]), (.arr 34 1 (List.length r5_0) (flatD (encL enc_GChange) r5_0)), (.arr 34 1 (List.length r8_0) (flatD (encL enc_GChange) r8_0)), (.mp (mks kv_22 ([] : List (GArr2_Int × (List (List GChange))))) (mds (slD (encL enc_GChange)) ([] : List (GArr2_Int × (List (List GChange))))))], 0⟩ <| Sx <| Wz (.agg [(.i p0.Cap), (.own 2), (.own 3), (.own 4)]) (Old rfl) <| Wy (.tup []) [(1, (.box [(.i p0.Cap), (.own 2), (.own 3), (.own 4)]))] (Ost rfl) <| Nn <| Rt ?_
  obtain rfl := Option.some.inj hm
  exact ret_i [2, 3, 4]
 ·
  replace hm := cF hq11_0_n hm
  rcases tf_ (Option.isSome p0.Links) with hq11_0_s | hq11_0_s
  ·
   replace hm := cT hq11_0_s hm
   obtain ⟨mc11_0, hmc11_0, hm⟩ := bnd hm
   refine Wy (.own 4) [(4, (.mp (mks kv_22 mc11_0) (mds (slD (encL enc_GChange)) mc11_0)))] (Ocf [] [4] [] 0 (mclone_s (kv := kv_22) (ev := (slD (encL enc_GChange))) hmc11_0) (fun a w => Try.call68 a w) rfl trivial) <| Wz (.loc 0 1) (Ofa rfl) <| Wy (.tup []) [(0, (.box [(.i p0.Cap), (.own 2), (.l (encL enc_GChange) p0.Pending), (.d (.mp (Option.isNone p0.Links) (mks kv_22 (ml p0.Links)) (mds (slD (encL enc_GChange)) (ml p0.Links))))]))] (Ost rfl) <| Wz (.loc 0 2) (Ofa rfl) <| Wy (.tup []) [(0, (.box [(.i p0.Cap), (.own 2), (.own 3), (.d (.mp (Option.isNone p0.Links) (mks kv_22 (ml p0.Links)) (mds (slD (encL enc_GChange)) (ml p0.Links))))]))] (Ost rfl) <| Wz (.loc 0 3) (Ofa rfl) <| Wy (.tup []) [(0, (.box [(.i p0.Cap), (.own 2), (.own 3), (.own 4)]))] (Ost rfl) <| Wdr <| Tk 6 31 ⟨tp 1 (.loc 0 0::.loc 1 0::tp 18 []), [(.box [(.i p0.Cap), (.own 2), (.own 3), (.own 4)]), (.box [(.i 0), (.d .nil), (.d .nil), (.d (.mp (Option.isNone (none : Option (List (GArr2_Int × (List (List GChange)))))) (mks kv_22 (ml (none : Option (List (GArr2_Int × (List (List GChange))))))) (mds (slD (encL enc_GChange)) (ml (none : Option (List (GArr2_Int × (List (List GChange)))))))))]), (.arr 34 1 (List.length r5_0) (flatD (encL enc_GChange) r5_0)), (.arr 34 1 (List.length r8_0) (flatD (encL enc_GChange) r8_0)), (.mp (mks kv_22 mc11_0) (mds (slD (encL enc_GChange)) mc11_0))], 0⟩ <| Sq <| Sx <| Wz (.loc 0 3) (Ofa rfl) <| Wz (.own 4) (Old rfl) <| Wz (.b false) (Mmn rfl) ?_
   refine Nk 131078 31 ⟨tp 1 (.loc 0 0::.loc 1 0::tp 14 (.b false::tp 3 [])), [(.box [(.i p0.Cap), (.own 2), (.own 3), (.own 4)]), (.box [(.i 0), (.d .nil), (.d .nil), (.d (.mp (Option.isNone (none : Option (List (GArr2_Int × (List (List GChange)))))) (mks kv_22 (ml (none : Option (List (GArr2_Int × (List (List GChange))))))) (mds (slD (encL enc_GChange)) (ml (none : Option (List (GArr2_Int × (List (List GChange)))))))))]), (.arr 34 1 (List.length r5_0) (flatD (encL enc_GChange) r5_0)), (.arr 34 1 (List.length r8_0) (flatD (encL enc_GChange) r8_0)), (.mp (mks kv_22 mc11_0) (mds (slD (encL enc_GChange)) mc11_0))], 0⟩ <| AWP.if_ false (by kernel_rfl) <| Sk <| Tk 6 31 ⟨tp 1 (.loc 0 0::.loc 1 0::tp 18 []), [(.box [(.i p0.Cap), (.own 2), (.own 3), (.own 4)]), (.box [(.i 0), (.d .nil), (.d .nil), (.d (.mp (Option.isNone (none : Option (List (GArr2_Int × (List (List GChange)))))) (mks kv_22 (ml (none : Option (List (GArr2_Int × (List (List GChange))))))) (mds (slD (encL enc_GChange)) (ml (none : Option (List (GArr2_Int × (List (List GChange)))))))))]), (.arr 34 1 (List.length r5_0) (flatD (encL enc_GChange) r5_0)), (.arr 34 1 (List.length r8_0) (flatD (encL enc_GChange) r8_0)), (.mp (mks kv_22 mc11_0) (mds (slD (encL enc_GChange)) mc11_0))], 0⟩ <| Sx <| Wz (.agg [(.i p0.Cap), (.own 2), (.own 3), (.own 4)]) (Old rfl) <| Wy (.tup []) [(1, (.box [(.i p0.Cap), (.own 2), (.own 3), (.own 4)]))] (Ost rfl) <| Nn <| Rt ?_
   obtain rfl := Option.some.inj hm
   exact ret_i [2, 3, 4]
  ·
   replace hm := cF hq11_0_s hm
   exact nomatch hm

theorem ok_slices_Grow_Change (p1 : Int) (r : (List GChange)) (h : m_slices_Grow_Change p1 = some r) : GCall Try.prog 72 [(.d .nil), (.i p1)] [] (.own 0) [(Ar 84 3 enc_GChange r)] := by
 refine GCall.of_body (n := 27) (rs := [(.tmp 4)]) Try.func72 rfl rfl rfl <| Ato ⟨.d .nil::.i p1::tu 25 [], [], 0⟩ ?_
 have hm := h
 unfold m_slices_Grow_Change at hm
 refine Sx <| Wm (.d .nil) rfl <| Nk 3 0 ⟨.d .nil::.i p1::tp 25 [], [], 0⟩ <| Sq <| Sx <| Wm (.i p1) rfl <| Wz (.b (decide (p1 < 0))) (Obn rfl (fun _ => hb_lss (k := .i64))) <| Nk 67 0 ⟨.d .nil::.i p1::tp 4 (.b (decide (p1 < 0))::tp 20 []), [], 0⟩ ?_
 rcases tf_ (decide (p1 < 0)) with hc6_2 | hc6_2
 ·
  replace hm := cT hc6_2 hm
  refine AiT hc6_2 <| Tx <| Wz (.d (.lit (Value.iface 9 (.string (toS ([99, 97, 110, 110, 111, 116, 32, 98, 101, 32, 110, 101, 103, 97, 116, 105, 118, 101] : List UInt8)))))) (Oif rfl) ?_
  exact nomatch hm
 ·
  replace hm := cF hc6_2 hm
  refine AiF hc6_2 <| Sk <| Tk 3 0 ⟨.d .nil::.i p1::tp 25 [], [], 0⟩ <| Sq <| Sx <| Wm (.i p1) rfl <| Wm (.d .nil) rfl <| Wz (.i 0) (Ocap rfl (e := 84) (by kernel_rfl)) <| Wm (.d .nil) rfl <| Wz (.i 0) (Oln rfl) <| Wz (.i 0) (Ob2 (.int .i64 0) (.int .i64 0) rfl (fun _ => hb_sub)) <| Wz (.i (W6 (p1 - 0))) (Obn rfl (fun _ => hb_sub (k := .i64))) <| Wm (.i (W6 (p1 - 0))) rfl <| Nk 3 0 ⟨.d .nil::.i (W6 (p1 - 0))::tp 25 [], [], 0⟩ ?_
  refine Sx <| Wm (.i (W6 (p1 - 0))) rfl <| Wz (.b (decide ((0 : Int) < (W6 (p1 - 0))))) (Obn rfl (fun _ => hb_gtr (k := .i64))) <| Nk 65539 0 ⟨.d .nil::.i (W6 (p1 - 0))::tp 14 (.b (decide ((0 : Int) < (W6 (p1 - 0))))::tp 10 []), [], 0⟩ ?_
  rcases tf_ (decide ((0 : Int) < (W6 (p1 - 0)))) with hc16_3 | hc16_3
  ·
   replace hm := cT hc16_3 hm
   refine AiT hc16_3 <| Tx <| Wm (.d .nil) rfl <| Wm (.d .nil) rfl <| Wz (.i 0) (Ocap rfl (e := 84) (by kernel_rfl)) <| Wz (.d .nil) (Ocn rfl (k := .i64) (by kernel_rfl)) <| Wm (.i (W6 (p1 - 0))) rfl ?_
   obtain ⟨a22_1, ha22_1, hm⟩ := bnd hm; obtain ⟨ha22_1i, ha22_1l, ha22_1e⟩ := mk_some ha22_1
   obtain ⟨ha22_1p, hm⟩ := chk_some hm
   refine Wy (.own 0) [(0, (Ar 84 3 enc_GChange a22_1))] (OcB (OapZ rfl elemOK_34 (kn := .i64) (kq := .i64) (by kernel_rfl) (by kernel_rfl) (L := (IntKind.i64.wrap (p1 - 0))) (n := Int.toNat (IntKind.i64.wrap (p1 - 0))) ha22_1i ha22_1p ha22_1l) (bl_one (by rw [ha22_1e]; simp) (by rw [ha22_1e]; exact (flat_rep (by kernel_rfl))))) <| Wm (.d .nil) rfl <| Wz (.i 0) (Oln rfl) ?_
   obtain ⟨s25_1, hs25_1, hm⟩ := bnd hm; obtain ⟨hs25_1a, hs25_1b, hs25_1c, hs25_1d, hs25_1e⟩ := cut_some hs25_1
   refine Wy (.own 1) [(0, .gone), (1, (Ar 84 3 enc_GChange s25_1))] (OcB (op_sliceTo rfl (id := 0) (e := 84) (sz := 3) (n := List.length a22_1) (xs := flatD enc_GChange a22_1) (by kernel_rfl) (by kernel_rfl) (by kernel_rfl) (k := .i64) (hv := 0) (by kernel_rfl) (h := (Int.toNat 0)) hs25_1b hs25_1d (by kernel_rfl) (by decide)) (bl_app (cut_len0 hs25_1e hs25_1d) (cut_take0 enc_GChange_len hs25_1e))) <| Wm (.own 1) rfl <| Nk 1 2 ⟨.own 1::tp 26 [], [.gone, (Ar 84 3 enc_GChange s25_1)], 0⟩ <| Sx <| Wm (.own 1) rfl <| Wm (.own 1) rfl <| Nn <| Rt ?_
   obtain rfl := Option.some.inj hm
   exact ret_i [1]
  ·
   replace hm := cF hc16_3 hm
   refine AiF hc16_3 <| Sk <| Tk 1 0 ⟨.d .nil::tp 26 [], [], 0⟩ <| Sx <| Wm (.d .nil) rfl <| Wm (.d .nil) rfl <| Nn <| Aow 4 84 3 ⟨.d .nil::tp 3 (.own 0::tp 21 (.d .nil::[])), [(Ar 84 3 enc_GChange ([] : List GChange))], 0⟩ <| Rt ?_
   obtain rfl := Option.some.inj hm
   exact ret_i [0]

theorem ok_slices_Concat_Change (p0 : (List (List GChange))) (r : (List GChange)) (h : m_slices_Concat_Change p0 = some r) : GCall Try.prog 50 [(.l (encL enc_GChange) p0)] [] (.own 0) [(Ar 84 3 enc_GChange r)] := by
 refine GCall.of_body (n := 36) (rs := [(.tmp 2)]) Try.func50 rfl rfl rfl <| Ato ⟨.l (encL enc_GChange) p0::tu 35 [], [], 0⟩ ?_
 have hm := h
 unfold m_slices_Concat_Change at hm
 refine Sx <| Wm (.d .nil) rfl <| Nk 1 0 ⟨.l (encL enc_GChange) p0::tp 35 [], [], 0⟩ <| Sx <| Wm (.i 0) rfl <| Nk 9 0 ⟨.l (encL enc_GChange) p0::tp 2 (.i 0::tp 32 []), [], 0⟩ <| Sq <| Sx <| Wm (.l (encL enc_GChange) p0) rfl <| Wz (.i ((List.length p0 : Nat) : Int)) (Oln rfl) <| Wm (.i 0) rfl <| Nk 3593 0 ⟨.l (encL enc_GChange) p0::tp 2 (.i 0::tp 5 (.l (encL enc_GChange) p0::.i ((List.length p0 : Nat) : Int)::.i 0::tp 24 [])), [], 0⟩ <| Bk ?_
 refine AWP.loopI (α := Nat × Int × Int)
   (fun (fu_1, y3_1, y11_1) => (⟨.l (encL enc_GChange) p0::tp 2 (.i y3_1::tp 5 (.l (encL enc_GChange) p0::.i ((List.length p0 : Nat) : Int)::.i y11_1::tp 24 [])), [], 0⟩ : St))
   (fun (fu_1, y3_1, y11_1) => m_slices_Concat_Change_l1 p0 fu_1 y3_1 y11_1 = some r)
   (fun (fu_1, y3_1, y11_1) => fu_1) (1152921504606846976, 0, 0)
   (Weak.toK 3593 0 0 []) hm ?_
 rintro ⟨fu_1, y3_1, y11_1⟩ n_1 hm ih_1
 try dsimp only at hm ih_1 ⊢
 cases fu_1 with
 | zero => exact absurd hm (by unfold m_slices_Concat_Change_l1; simp)
 | succ fu_1 =>
  unfold m_slices_Concat_Change_l1 at hm
  refine Sx <| Wz (.b (decide (y11_1 < ((List.length p0 : Nat) : Int)))) (Obn rfl (fun _ => hb_lss (k := .i64))) <| Nk 7689 0 ⟨.l (encL enc_GChange) p0::tp 2 (.i y3_1::tp 5 (.l (encL enc_GChange) p0::.i ((List.length p0 : Nat) : Int)::.i y11_1::.b (decide (y11_1 < ((List.length p0 : Nat) : Int)))::tp 23 [])), [], 0⟩ <| Sq ?_
  rcases tf_ (decide (y11_1 < ((List.length p0 : Nat) : Int))) with hc12_9 | hc12_9
  ·
   replace hm := cT hc12_9 hm
   refine AiT hc12_9 <| Sk <| Tk 3593 0 ⟨.l (encL enc_GChange) p0::tp 2 (.i y3_1::tp 5 (.l (encL enc_GChange) p0::.i ((List.length p0 : Nat) : Int)::.i y11_1::tp 24 [])), [], 0⟩ <| Sq <| Bk <| Sx ?_
   obtain ⟨x13_2, hx13_2, hm⟩ := bnd hm
   obtain ⟨hx13_2i, hx13_2g⟩ := geti_some hx13_2
   refine Wz (.d (.ref (List.drop ((Int.toNat y11_1) * 1) (flatD (encL enc_GChange) p0)))) (Oia rfl (encL_len (enc := enc_GChange)) hx13_2i hx13_2g) <| Wz (.l enc_GChange x13_2) (Lf1 rfl (encL_len (enc := enc_GChange)) hx13_2g) <| Wm (.l enc_GChange x13_2) rfl <| Nk 3625 0 ⟨.l (encL enc_GChange) p0::tp 2 (.i y3_1::tp 1 (.l enc_GChange x13_2::tp 3 (.l (encL enc_GChange) p0::.i ((List.length p0 : Nat) : Int)::.i y11_1::tp 24 []))), [], 0⟩ <| Sx <| Wm (.i y3_1) rfl <| Wm (.l enc_GChange x13_2) rfl <| Wz (.i ((List.length x13_2 : Nat) : Int)) (Oln rfl) <| Wz (.i (W6 (y3_1 + ((List.length x13_2 : Nat) : Int)))) (Obn rfl (fun _ => hb_add (k := .i64))) <| Wm (.i (W6 (y3_1 + ((List.length x13_2 : Nat) : Int)))) rfl <| Nk 3593 0 ⟨.l (encL enc_GChange) p0::tp 2 (.i (W6 (y3_1 + ((List.length x13_2 : Nat) : Int)))::tp 5 (.l (encL enc_GChange) p0::.i ((List.length p0 : Nat) : Int)::.i y11_1::tp 24 [])), [], 0⟩ <| Sx <| Wm (.i (W6 (y3_1 + ((List.length x13_2 : Nat) : Int)))) rfl <| Wz (.b (decide ((W6 (y3_1 + ((List.length x13_2 : Nat) : Int))) < 0))) (Obn rfl (fun _ => hb_lss (k := .i64))) ?_
   refine Nk 1052169 0 ⟨.l (encL enc_GChange) p0::tp 2 (.i (W6 (y3_1 + ((List.length x13_2 : Nat) : Int)))::tp 5 (.l (encL enc_GChange) p0::.i ((List.length p0 : Nat) : Int)::.i y11_1::tp 8 (.b (decide ((W6 (y3_1 + ((List.length x13_2 : Nat) : Int))) < 0))::tp 15 []))), [], 0⟩ ?_
   rcases tf_ (decide ((W6 (y3_1 + ((List.length x13_2 : Nat) : Int))) < 0)) with hc20_10 | hc20_10
   ·
    replace hm := cT hc20_10 hm
    refine AiT hc20_10 <| Tx <| Wz (.d (.lit (Value.iface 9 (.string (toS ([108, 101, 110, 32, 111, 117, 116, 32, 111, 102, 32, 114, 97, 110, 103, 101] : List UInt8)))))) (Oif rfl) ?_
    exact nomatch hm
   ·
    replace hm := cF hc20_10 hm
    refine AiF hc20_10 <| Sk <| Ino <| Tk 3593 0 ⟨.l (encL enc_GChange) p0::tp 2 (.i (W6 (y3_1 + ((List.length x13_2 : Nat) : Int)))::tp 5 (.l (encL enc_GChange) p0::.i ((List.length p0 : Nat) : Int)::.i y11_1::tp 24 [])), [], 0⟩ <| Tx <| Wz (.i (W6 (y11_1 + 1))) (Obn rfl (fun _ => hb_add (k := .i64))) <| Wm (.i (W6 (y11_1 + 1))) rfl <| Wn0 <| RoundK.normal ?_
    exact Rounds.weak (Weak.toK 3593 0 0 []) (ih_1 (fu_1, (W6 (y3_1 + ((List.length x13_2 : Nat) : Int))), (W6 (y11_1 + 1))) hm (Nat.lt_succ_self _))
  ·
   replace hm := cF hc12_9 hm
   refine AiF hc12_9 <| AWP.exit <| Then.exit <| RoundK.exit <| InBlock.same <| Tk 9 0 ⟨.l (encL enc_GChange) p0::tp 2 (.i y3_1::tp 32 []), [], 0⟩ <| Sx <| Wm (.i y3_1) rfl ?_
   obtain ⟨r24_4, hr24_4, hm⟩ := bnd hm
   refine Wy (.own 0) [(0, (Ar 84 3 enc_GChange r24_4))] (Ocf [] [0] [] 1 (ok_slices_Grow_Change y3_1 r24_4 hr24_4) (fun a w => Try.call72 a w) rfl trivial) <| Wm (.own 0) rfl <| Nk 65 1 ⟨.l (encL enc_GChange) p0::tp 5 (.own 0::tp 29 []), [(Ar 84 3 enc_GChange r24_4)], 0⟩ <| Sq <| Sx <| Wm (.l (encL enc_GChange) p0) rfl <| Wz (.i ((List.length p0 : Nat) : Int)) (Oln rfl) <| Wm (.i 0) rfl <| Nk 234881088 1 ⟨tp 6 (.own 0::tp 18 (.l (encL enc_GChange) p0::.i ((List.length p0 : Nat) : Int)::.i 0::tp 8 [])), [(Ar 84 3 enc_GChange r24_4)], 0⟩ <| Bk ?_
   refine AWP.loopI (α := Nat × (List GChange) × Int)
     (fun (fu_6, y6_6, y27_6) => (⟨tp 6 (.own 0::tp 18 (.l (encL enc_GChange) p0::.i ((List.length p0 : Nat) : Int)::.i y27_6::tp 8 [])), [(Ar 84 3 enc_GChange y6_6)], 0⟩ : St))
     (fun (fu_6, y6_6, y27_6) => m_slices_Concat_Change_l6 p0 fu_6 y6_6 y27_6 = some r)
     (fun (fu_6, y6_6, y27_6) => fu_6) (1152921504606846976, r24_4, 0)
     (Weak.toK 234881088 0 0 [0]) hm ?_
   rintro ⟨fu_6, y6_6, y27_6⟩ n_6 hm ih_6
   try dsimp only at hm ih_6 ⊢
   cases fu_6 with
   | zero => exact absurd hm (by unfold m_slices_Concat_Change_l6; simp)
   | succ fu_6 =>
    unfold m_slices_Concat_Change_l6 at hm
    refine Sx <| Wz (.b (decide (y27_6 < ((List.length p0 : Nat) : Int)))) (Obn rfl (fun _ => hb_lss (k := .i64))) <| Nk 503316544 1 ⟨tp 6 (.own 0::tp 18 (.l (encL enc_GChange) p0::.i ((List.length p0 : Nat) : Int)::.i y27_6::.b (decide (y27_6 < ((List.length p0 : Nat) : Int)))::tp 7 [])), [(Ar 84 3 enc_GChange y6_6)], 0⟩ <| Sq ?_
    rcases tf_ (decide (y27_6 < ((List.length p0 : Nat) : Int))) with hc28_11 | hc28_11
    ·
     replace hm := cT hc28_11 hm
     refine AiT hc28_11 <| Sk <| Tk 234881088 1 ⟨tp 6 (.own 0::tp 18 (.l (encL enc_GChange) p0::.i ((List.length p0 : Nat) : Int)::.i y27_6::tp 8 [])), [(Ar 84 3 enc_GChange y6_6)], 0⟩ <| Sq <| Bk <| Sx ?_
     obtain ⟨x29_7, hx29_7, hm⟩ := bnd hm
     obtain ⟨hx29_7i, hx29_7g⟩ := geti_some hx29_7
     refine Wz (.d (.ref (List.drop ((Int.toNat y27_6) * 1) (flatD (encL enc_GChange) p0)))) (Oia rfl (encL_len (enc := enc_GChange)) hx29_7i hx29_7g) <| Wz (.l enc_GChange x29_7) (Lf1 rfl (encL_len (enc := enc_GChange)) hx29_7g) <| Wm (.l enc_GChange x29_7) rfl <| Nk 234881344 1 ⟨tp 6 (.own 0::tp 1 (.l enc_GChange x29_7::tp 16 (.l (encL enc_GChange) p0::.i ((List.length p0 : Nat) : Int)::.i y27_6::tp 8 []))), [(Ar 84 3 enc_GChange y6_6)], 0⟩ <| Tx <| Wm (.own 0) rfl <| Wm (.l enc_GChange x29_7) rfl ?_
     obtain ⟨a33_8, ha33_8, hm⟩ := bnd hm; obtain ⟨ha33_8e, ha33_8l⟩ := app_some ha33_8
     refine Wy (.own 1) [(0, .gone), (1, (Ar 84 3 enc_GChange a33_8))] (Oap rfl elemOK_34 enc_GChange_len ha33_8e ha33_8l) <| Wm (.own 1) rfl <| Wn0 <| Ino <| Tk 234881088 2 ⟨tp 6 (.own 1::tp 18 (.l (encL enc_GChange) p0::.i ((List.length p0 : Nat) : Int)::.i y27_6::tp 8 [])), [.gone, (Ar 84 3 enc_GChange a33_8)], 0⟩ <| Tx <| Wz (.i (W6 (y27_6 + 1))) (Obn rfl (fun _ => hb_add (k := .i64))) <| Wm (.i (W6 (y27_6 + 1))) rfl <| Wn0 <| RoundK.normal ?_
     exact Rounds.weak (Weak.toK 234881088 0 0 [1]) (ih_6 (fu_6, a33_8, (W6 (y27_6 + 1))) hm (Nat.lt_succ_self _))
    ·
     replace hm := cF hc28_11 hm
     refine AiF hc28_11 <| AWP.exit <| Then.exit <| RoundK.exit <| InBlock.same <| Tk 64 1 ⟨tp 6 (.own 0::tp 29 []), [(Ar 84 3 enc_GChange y6_6)], 0⟩ <| Sx <| Wm (.own 0) rfl <| Wm (.own 0) rfl <| Nn <| Rt ?_
     obtain rfl := Option.some.inj hm
     exact ret_i [0]

theorem ok_tally_Merge (p0 : (List GChange)) (p1 : (List GChange)) (r : (List GChange)) (h : m_tally_Merge p0 p1 = some r) : GCall Try.prog 31 [(.l enc_GChange p0), (.l enc_GChange p1)] [] (.l enc_GChange r) [] := by
 refine GCall.of_body (n := 10) (rs := [(.tmp 4)]) Try.func31 rfl rfl rfl <| Ato ⟨.l enc_GChange p0::.l enc_GChange p1::tu 8 [], [], 0⟩ ?_
 have hm := h
 unfold m_tally_Merge at hm
 refine Sx <| Wm (.d .nil) rfl <| Nk 3 0 ⟨.l enc_GChange p0::.l enc_GChange p1::tp 8 [], [], 0⟩ <| Sx <| Wm (.l enc_GChange p0) rfl <| Wm (.l enc_GChange p1) rfl <| Wy (.own 0) [(0, (.arr 34 1 (List.length ([p0, p1] : List (List GChange))) (flatD (encL enc_GChange) ([p0, p1] : List (List GChange)))))] (Obs rfl) ?_
 obtain ⟨r8_0, hr8_0, hm⟩ := bnd hm
 refine Wy (.own 1) [(1, (Ar 84 3 enc_GChange r8_0))] (Ocp [] [1] [0] 0 (ok_slices_Concat_Change ([p0, p1] : List (List GChange)) r8_0 hr8_0) (⟨by simp [A.Plain, A.Plains, D.Plain, byteD], plain_cons (flat_plain enc_GChange_plain) (plain_nil)⟩) (fun a w => Try.call50 a w) rfl trivial) ?_
 obtain ⟨r9_0, hr9_0, hm⟩ := bnd hm
 refine Wy (.l enc_GChange r9_0) [(1, (.fro 84 3 (List.length r8_0) (flatD enc_GChange r8_0)))] (Ocf [] [] [1] 0 (ok_tally_Normal r8_0 r9_0 hr9_0) (fun a w => Try.call30 a w) rfl trivial) <| Wm (.l enc_GChange r9_0) rfl <| Nn <| Rt ?_
 obtain rfl := Option.some.inj hm
 exact ret_i []

theorem ok_view_Net_Note (p0 : GNet) (p1 : Int) (p2 : (List GChange)) (r : (GNet × Int)) (h : m_view_Net_Note p0 p1 p2 = some r) : GCall Try.prog 11 [(.agg [(.i p0.Cap), (.l (encL enc_GChange) p0.Views), (.l (encL enc_GChange) p0.Pending), (.d (.mp (Option.isNone p0.Links) (mks kv_22 (ml p0.Links)) (mds (slD (encL enc_GChange)) (ml p0.Links))))]), (.i p1), (.l enc_GChange p2)] [] (.tup [(.agg [(.i r.1.Cap), (.l (encL enc_GChange) r.1.Views), (.l (encL enc_GChange) r.1.Pending), (.d (.mp (Option.isNone r.1.Links) (mks kv_22 (ml r.1.Links)) (mds (slD (encL enc_GChange)) (ml r.1.Links))))]), (.i r.2)]) [] := by
 refine GCall.of_body (n := 27) (rs := [(.cell 6 30), (.tmp 7)]) Try.func11 rfl rfl rfl <| Ato ⟨.agg [(.i p0.Cap), (.l (encL enc_GChange) p0.Views), (.l (encL enc_GChange) p0.Pending), (.d (.mp (Option.isNone p0.Links) (mks kv_22 (ml p0.Links)) (mds (slD (encL enc_GChange)) (ml p0.Links))))]::.i p1::.l enc_GChange p2::tu 24 [], [], 0⟩ ?_
 have hm := h
 unfold m_view_Net_Note at hm
 refine Sx <| Wy (.loc 0 0) [(0, (.box [(.i p0.Cap), (.l (encL enc_GChange) p0.Views), (.l (encL enc_GChange) p0.Pending), (.d (.mp (Option.isNone p0.Links) (mks kv_22 (ml p0.Links)) (mds (slD (encL enc_GChange)) (ml p0.Links))))]))] (Obx rfl) <| Wy (.loc 1 0) [(1, (.box [(.i 0), (.d .nil), (.d .nil), (.d (.mp (Option.isNone (none : Option (List (GArr2_Int × (List (List GChange)))))) (mks kv_22 (ml (none : Option (List (GArr2_Int × (List (List GChange))))))) (mds (slD (encL enc_GChange)) (ml (none : Option (List (GArr2_Int × (List (List GChange)))))))))]))] (Oal rfl) <| Wm (.i 0) rfl <| Nk 78 3 ⟨tp 1 (.i p1::.l enc_GChange p2::.loc 0 0::tp 2 (.loc 1 0::tp 20 [])), [(.box [(.i p0.Cap), (.l (encL enc_GChange) p0.Views), (.l (encL enc_GChange) p0.Pending), (.d (.mp (Option.isNone p0.Links) (mks kv_22 (ml p0.Links)) (mds (slD (encL enc_GChange)) (ml p0.Links))))]), (.box [(.i 0), (.d .nil), (.d .nil), (.d (.mp (Option.isNone (none : Option (List (GArr2_Int × (List (List GChange)))))) (mks kv_22 (ml (none : Option (List (GArr2_Int × (List (List GChange))))))) (mds (slD (encL enc_GChange)) (ml (none : Option (List (GArr2_Int × (List (List GChange)))))))))])], 0⟩ <| Sq <| Sx <| Wz (.agg [(.i p0.Cap), (.l (encL enc_GChange) p0.Views), (.l (encL enc_GChange) p0.Pending), (.d (.mp (Option.isNone p0.Links) (mks kv_22 (ml p0.Links)) (mds (slD (encL enc_GChange)) (ml p0.Links))))]) (Old rfl) <| Wm (.i p1) rfl ?_
 obtain ⟨r10_0, hr10_0, hm⟩ := bnd hm
 refine Wz (.b r10_0) (Ocf [] [] [] 0 (ok_view_Net_there p0 p1 r10_0 hr10_0) (fun a w => Try.call38 a w) rfl trivial) <| Wz (.b (!r10_0)) (Ocs (by kernel_rfl) (op_un rfl (a1 := .bool r10_0) (by kernel_rfl) (fun _ => hu_not))) <| Nk 2126 3 ⟨tp 1 (.i p1::.l enc_GChange p2::.loc 0 0::tp 2 (.loc 1 0::tp 4 (.b (!r10_0)::tp 15 []))), [(.box [(.i p0.Cap), (.l (encL enc_GChange) p0.Views), (.l (encL enc_GChange) p0.Pending), (.d (.mp (Option.isNone p0.Links) (mks kv_22 (ml p0.Links)) (mds (slD (encL enc_GChange)) (ml p0.Links))))]), (.box [(.i 0), (.d .nil), (.d .nil), (.d (.mp (Option.isNone (none : Option (List (GArr2_Int × (List (List GChange)))))) (mks kv_22 (ml (none : Option (List (GArr2_Int × (List (List GChange))))))) (mds (slD (encL enc_GChange)) (ml (none : Option (List (GArr2_Int × (List (List GChange)))))))))])], 0⟩ ?_
 rcases tf_ (!r10_0) with hc11_3 | hc11_3
 ·
  replace hm := cT hc11_3 hm
  refine AiT hc11_3 <| Sx <| Wz (.agg [(.i p0.Cap), (.l (encL enc_GChange) p0.Views), (.l (encL enc_GChange) p0.Pending), (.d (.mp (Option.isNone p0.Links) (mks kv_22 (ml p0.Links)) (mds (slD (encL enc_GChange)) (ml p0.Links))))]) (Old rfl) <| Wy (.tup []) [(1, (.box [(.i p0.Cap), (.l (encL enc_GChange) p0.Views), (.l (encL enc_GChange) p0.Pending), (.d (.mp (Option.isNone p0.Links) (mks kv_22 (ml p0.Links)) (mds (slD (encL enc_GChange)) (ml p0.Links))))]))] (Ost rfl) <| Wm (.i 6) rfl <| Nn <| Rt <| Tr ?_
  obtain rfl := Option.some.inj hm
  exact ret_i []
 ·
  replace hm := cF hc11_3 hm
  refine AiF hc11_3 <| Sk <| Tk 78 3 ⟨tp 1 (.i p1::.l enc_GChange p2::.loc 0 0::tp 2 (.loc 1 0::tp 20 [])), [(.box [(.i p0.Cap), (.l (encL enc_GChange) p0.Views), (.l (encL enc_GChange) p0.Pending), (.d (.mp (Option.isNone p0.Links) (mks kv_22 (ml p0.Links)) (mds (slD (encL enc_GChange)) (ml p0.Links))))]), (.box [(.i 0), (.d .nil), (.d .nil), (.d (.mp (Option.isNone (none : Option (List (GArr2_Int × (List (List GChange)))))) (mks kv_22 (ml (none : Option (List (GArr2_Int × (List (List GChange))))))) (mds (slD (encL enc_GChange)) (ml (none : Option (List (GArr2_Int × (List (List GChange)))))))))])], 0⟩ <| Sx <| Wz (.agg [(.i p0.Cap), (.l (encL enc_GChange) p0.Views), (.l (encL enc_GChange) p0.Pending), (.d (.mp (Option.isNone p0.Links) (mks kv_22 (ml p0.Links)) (mds (slD (encL enc_GChange)) (ml p0.Links))))]) (Old rfl) ?_
  obtain ⟨r14_1, hr14_1, hm⟩ := bnd hm
  refine Wy (.agg [(.i r14_1.Cap), (.own 2), (.own 3), (.own 4)]) [(2, (.arr 34 1 (List.length r14_1.Views) (flatD (encL enc_GChange) r14_1.Views))), (3, (.arr 34 1 (List.length r14_1.Pending) (flatD (encL enc_GChange) r14_1.Pending))), (4, (.mp (mks kv_22 (ml r14_1.Links)) (mds (slD (encL enc_GChange)) (ml r14_1.Links))))] (Ocf [] [2, 3, 4] [] 0 (ok_view_Net_clone p0 r14_1 hr14_1) (fun a w => Try.call39 a w) rfl trivial) <| Wy (.tup []) [(0, (.box [(.i r14_1.Cap), (.own 2), (.own 3), (.own 4)]))] (Ost rfl) <| Nk 78 31 ⟨tp 1 (.i p1::.l enc_GChange p2::.loc 0 0::tp 2 (.loc 1 0::tp 20 [])), [(.box [(.i r14_1.Cap), (.own 2), (.own 3), (.own 4)]), (.box [(.i 0), (.d .nil), (.d .nil), (.d (.mp (Option.isNone (none : Option (List (GArr2_Int × (List (List GChange)))))) (mks kv_22 (ml (none : Option (List (GArr2_Int × (List (List GChange))))))) (mds (slD (encL enc_GChange)) (ml (none : Option (List (GArr2_Int × (List (List GChange)))))))))]), (.arr 34 1 (List.length r14_1.Views) (flatD (encL enc_GChange) r14_1.Views)), (.arr 34 1 (List.length r14_1.Pending) (flatD (encL enc_GChange) r14_1.Pending)), (.mp (mks kv_22 (ml r14_1.Links)) (mds (slD (encL enc_GChange)) (ml r14_1.Links)))], 0⟩ <| Sq <| Adr <| Wz (.loc 0 2) (Ofa rfl) <| Wz (.own 3) (Old rfl) <| Wm (.i p1) rfl <| Wz (.loc 0 2) (Ofa rfl) <| Wz (.own 3) (Old rfl) <| Wm (.i p1) rfl ?_
  obtain ⟨x21_2, hx21_2, hm⟩ := bnd hm
  obtain ⟨hx21_2i, hx21_2g⟩ := geti_some hx21_2
  refine Wz (.loc 3 ((Int.toNat p1) * 1)) (Oia rfl (encL_len (enc := enc_GChange)) hx21_2i hx21_2g) <| Wz (.l enc_GChange x21_2) (Lr1 rfl (encL_len (enc := enc_GChange)) hx21_2g) <| Wm (.l enc_GChange p2) rfl ?_
  obtain ⟨r24_2, hr24_2, hm⟩ := bnd hm
  refine Wz (.l enc_GChange r24_2) (Ocf [] [] [] 0 (ok_tally_Merge x21_2 p2 r24_2 hr24_2) (fun a w => Try.call31 a w) rfl trivial) ?_
  obtain ⟨x25_2, hx25_2, hm⟩ := bnd hm
  obtain ⟨hx25_2i, hx25_2g⟩ := geti_some hx25_2
  refine Wz (.loc 3 ((Int.toNat p1) * 1)) (Oia rfl (encL_len (enc := enc_GChange)) hx25_2i hx25_2g) <| Wy (.tup []) [(3, (.arr 34 1 (List.length (List.set r14_1.Pending (Int.toNat p1) r24_2)) (flatD (encL enc_GChange) (List.set r14_1.Pending (Int.toNat p1) r24_2))))] (Osr 0 rfl (encL_len (enc := enc_GChange)) hx25_2g r24_2) <| Wdr <| Tk 72 31 ⟨tp 3 (.loc 0 0::tp 2 (.loc 1 0::tp 20 [])), [(.box [(.i r14_1.Cap), (.own 2), (.own 3), (.own 4)]), (.box [(.i 0), (.d .nil), (.d .nil), (.d (.mp (Option.isNone (none : Option (List (GArr2_Int × (List (List GChange)))))) (mks kv_22 (ml (none : Option (List (GArr2_Int × (List (List GChange))))))) (mds (slD (encL enc_GChange)) (ml (none : Option (List (GArr2_Int × (List (List GChange)))))))))]), (.arr 34 1 (List.length r14_1.Views) (flatD (encL enc_GChange) r14_1.Views)), (.arr 34 1 (List.length (List.set r14_1.Pending (Int.toNat p1) r24_2)) (flatD (encL enc_GChange) (List.set r14_1.Pending (Int.toNat p1) r24_2))), (.mp (mks kv_22 (ml r14_1.Links)) (mds (slD (encL enc_GChange)) (ml r14_1.Links)))], 0⟩ <| Sx <| Wz (.agg [(.i r14_1.Cap), (.own 2), (.own 3), (.own 4)]) (Old rfl) <| Wy (.tup []) [(1, (.box [(.i r14_1.Cap), (.own 2), (.own 3), (.own 4)]))] (Ost rfl) <| Wm (.i 0) rfl <| Nn <| Afz [2, 3, 4] ⟨tp 3 (.loc 0 0::tp 2 (.loc 1 0::.i 0::tp 18 (.agg [(.i r14_1.Cap), (.l (encL enc_GChange) r14_1.Views), (.l (encL enc_GChange) (List.set r14_1.Pending (Int.toNat p1) r24_2)), (.d (.mp (Option.isNone (some (ml r14_1.Links))) (mks kv_22 (ml (some (ml r14_1.Links)))) (mds (slD (encL enc_GChange)) (ml (some (ml r14_1.Links))))))]::[]))), [(.box [(.i r14_1.Cap), (.l (encL enc_GChange) r14_1.Views), (.l (encL enc_GChange) (List.set r14_1.Pending (Int.toNat p1) r24_2)), (.d (.mp (Option.isNone (some (ml r14_1.Links))) (mks kv_22 (ml (some (ml r14_1.Links)))) (mds (slD (encL enc_GChange)) (ml (some (ml r14_1.Links))))))]), (.box [(.i r14_1.Cap), (.l (encL enc_GChange) r14_1.Views), (.l (encL enc_GChange) (List.set r14_1.Pending (Int.toNat p1) r24_2)), (.d (.mp (Option.isNone (some (ml r14_1.Links))) (mks kv_22 (ml (some (ml r14_1.Links)))) (mds (slD (encL enc_GChange)) (ml (some (ml r14_1.Links))))))]), (.fro 34 1 (List.length r14_1.Views) (flatD (encL enc_GChange) r14_1.Views)), (.fro 34 1 (List.length (List.set r14_1.Pending (Int.toNat p1) r24_2)) (flatD (encL enc_GChange) (List.set r14_1.Pending (Int.toNat p1) r24_2))), .gone], 0⟩ <| Rt ?_
  obtain rfl := Option.some.inj hm
  exact ret_i []

theorem ok_view_Net_Waits (p0 : GNet) (p1 : Int) (p2 : Int) (r : Int) (h : m_view_Net_Waits p0 p1 p2 = some r) : GCall Try.prog 19 [(.agg [(.i p0.Cap), (.l (encL enc_GChange) p0.Views), (.l (encL enc_GChange) p0.Pending), (.d (.mp (Option.isNone p0.Links) (mks kv_22 (ml p0.Links)) (mds (slD (encL enc_GChange)) (ml p0.Links))))]), (.i p1), (.i p2)] [] (.i r) [] := by
 refine GCall.of_body (n := 14) (rs := [(.tmp 6)]) Try.func19 rfl rfl rfl <| Ato ⟨.agg [(.i p0.Cap), (.l (encL enc_GChange) p0.Views), (.l (encL enc_GChange) p0.Pending), (.d (.mp (Option.isNone p0.Links) (mks kv_22 (ml p0.Links)) (mds (slD (encL enc_GChange)) (ml p0.Links))))]::.i p1::.i p2::tu 11 [], [], 0⟩ ?_
 have hm := h
 unfold m_view_Net_Waits at hm
 refine Sx <| Wy (.loc 0 0) [(0, (.box [(.i p0.Cap), (.l (encL enc_GChange) p0.Views), (.l (encL enc_GChange) p0.Pending), (.d (.mp (Option.isNone p0.Links) (mks kv_22 (ml p0.Links)) (mds (slD (encL enc_GChange)) (ml p0.Links))))]))] (Obx rfl) <| Wm (.i 0) rfl <| Nk 14 1 ⟨tp 1 (.i p1::.i p2::.loc 0 0::tp 10 []), [(.box [(.i p0.Cap), (.l (encL enc_GChange) p0.Views), (.l (encL enc_GChange) p0.Pending), (.d (.mp (Option.isNone p0.Links) (mks kv_22 (ml p0.Links)) (mds (slD (encL enc_GChange)) (ml p0.Links))))])], 0⟩ <| Sx <| Wz (.loc 0 3) (Ofa rfl) <| Wz (.d (.mp (Option.isNone p0.Links) (mks kv_22 (ml p0.Links)) (mds (slD (encL enc_GChange)) (ml p0.Links)))) (Old rfl) <| Wm (.i p1) rfl <| Wm (.i p2) rfl <| Wz (.agg [(.i p1), (.i p2)]) (ObA rfl (e := 3) (n := 2) (sz := 1) (by kernel_rfl) (by kernel_rfl)) <| Wz (.l (encL enc_GChange) (Option.getD (mlook (ml p0.Links) (GArr2_Int.mk p1 p2)) ([] : List (List GChange)))) (Mlk (GArr2_Int.mk p1 p2) (ml p0.Links) ([] : List (List GChange)) keyOK_22 (ev := (slD (encL enc_GChange))) rfl slD_zero) ?_
 obtain ⟨v13_1, hv13_1, hm⟩ := bnd hm; replace hv13_1 := Option.some.inj hv13_1
 refine Wz (.i v13_1) (Ocs (congrArg (fun z => A.d (.lit (.int .i64 z))) hv13_1) (Oln rfl)) <| Wm (.i v13_1) rfl <| Nn <| Rt ?_
 obtain rfl := Option.some.inj hm
 exact ret_i []

theorem ok_view_Net_Flush (p0 : GNet) (p1 : Int) (r : (GNet × Int)) (h : m_view_Net_Flush p0 p1 = some r) : GCall Try.prog 13 [(.agg [(.i p0.Cap), (.l (encL enc_GChange) p0.Views), (.l (encL enc_GChange) p0.Pending), (.d (.mp (Option.isNone p0.Links) (mks kv_22 (ml p0.Links)) (mds (slD (encL enc_GChange)) (ml p0.Links))))]), (.i p1)] [] (.tup [(.agg [(.i r.1.Cap), (.l (encL enc_GChange) r.1.Views), (.l (encL enc_GChange) r.1.Pending), (.d (.mp (Option.isNone r.1.Links) (mks kv_22 (ml r.1.Links)) (mds (slD (encL enc_GChange)) (ml r.1.Links))))]), (.i r.2)]) [] := by
 refine GCall.of_body (n := 69) (rs := [(.cell 4 30), (.tmp 5)]) Try.func13 rfl rfl rfl <| Ato ⟨.agg [(.i p0.Cap), (.l (encL enc_GChange) p0.Views), (.l (encL enc_GChange) p0.Pending), (.d (.mp (Option.isNone p0.Links) (mks kv_22 (ml p0.Links)) (mds (slD (encL enc_GChange)) (ml p0.Links))))]::.i p1::tu 67 [], [], 0⟩ ?_
 have hm := h
 unfold m_view_Net_Flush at hm
 refine Sx <| Wy (.loc 0 0) [(0, (.box [(.i p0.Cap), (.l (encL enc_GChange) p0.Views), (.l (encL enc_GChange) p0.Pending), (.d (.mp (Option.isNone p0.Links) (mks kv_22 (ml p0.Links)) (mds (slD (encL enc_GChange)) (ml p0.Links))))]))] (Obx rfl) <| Wy (.loc 1 0) [(1, (.box [(.i 0), (.d .nil), (.d .nil), (.d (.mp (Option.isNone (none : Option (List (GArr2_Int × (List (List GChange)))))) (mks kv_22 (ml (none : Option (List (GArr2_Int × (List (List GChange))))))) (mds (slD (encL enc_GChange)) (ml (none : Option (List (GArr2_Int × (List (List GChange)))))))))]))] (Oal rfl) <| Wm (.i 0) rfl <| Nk 22 3 ⟨tp 1 (.i p1::.loc 0 0::tp 1 (.loc 1 0::tp 64 [])), [(.box [(.i p0.Cap), (.l (encL enc_GChange) p0.Views), (.l (encL enc_GChange) p0.Pending), (.d (.mp (Option.isNone p0.Links) (mks kv_22 (ml p0.Links)) (mds (slD (encL enc_GChange)) (ml p0.Links))))]), (.box [(.i 0), (.d .nil), (.d .nil), (.d (.mp (Option.isNone (none : Option (List (GArr2_Int × (List (List GChange)))))) (mks kv_22 (ml (none : Option (List (GArr2_Int × (List (List GChange))))))) (mds (slD (encL enc_GChange)) (ml (none : Option (List (GArr2_Int × (List (List GChange)))))))))])], 0⟩ <| Sq <| Sx <| Wz (.agg [(.i p0.Cap), (.l (encL enc_GChange) p0.Views), (.l (encL enc_GChange) p0.Pending), (.d (.mp (Option.isNone p0.Links) (mks kv_22 (ml p0.Links)) (mds (slD (encL enc_GChange)) (ml p0.Links))))]) (Old rfl) <| Wm (.i p1) rfl ?_
 obtain ⟨r11_0, hr11_0, hm⟩ := bnd hm
 refine Wz (.b r11_0) (Ocf [] [] [] 0 (ok_view_Net_there p0 p1 r11_0 hr11_0) (fun a w => Try.call38 a w) rfl trivial) <| Wz (.b (!r11_0)) (Ocs (by kernel_rfl) (op_un rfl (a1 := .bool r11_0) (by kernel_rfl) (fun _ => hu_not))) <| Nk 4118 3 ⟨tp 1 (.i p1::.loc 0 0::tp 1 (.loc 1 0::tp 7 (.b (!r11_0)::tp 56 []))), [(.box [(.i p0.Cap), (.l (encL enc_GChange) p0.Views), (.l (encL enc_GChange) p0.Pending), (.d (.mp (Option.isNone p0.Links) (mks kv_22 (ml p0.Links)) (mds (slD (encL enc_GChange)) (ml p0.Links))))]), (.box [(.i 0), (.d .nil), (.d .nil), (.d (.mp (Option.isNone (none : Option (List (GArr2_Int × (List (List GChange)))))) (mks kv_22 (ml (none : Option (List (GArr2_Int × (List (List GChange))))))) (mds (slD (encL enc_GChange)) (ml (none : Option (List (GArr2_Int × (List (List GChange)))))))))])], 0⟩ ?_
 rcases tf_ (!r11_0) with hc12_10 | hc12_10
 ·
  replace hm := cT hc12_10 hm
  refine AiT hc12_10 <| Sx <| Wz (.agg [(.i p0.Cap), (.l (encL enc_GChange) p0.Views), (.l (encL enc_GChange) p0.Pending), (.d (.mp (Option.isNone p0.Links) (mks kv_22 (ml p0.Links)) (mds (slD (encL enc_GChange)) (ml p0.Links))))]) (Old rfl) <| Wy (.tup []) [(1, (.box [(.i p0.Cap), (.l (encL enc_GChange) p0.Views), (.l (encL enc_GChange) p0.Pending), (.d (.mp (Option.isNone p0.Links) (mks kv_22 (ml p0.Links)) (mds (slD (encL enc_GChange)) (ml p0.Links))))]))] (Ost rfl) <| Wm (.i 6) rfl <| Nn <| Rt <| Tr ?_
  obtain rfl := Option.some.inj hm
  exact ret_i []
 ·
  replace hm := cF hc12_10 hm
  refine AiF hc12_10 <| Sk <| Tk 22 3 ⟨tp 1 (.i p1::.loc 0 0::tp 1 (.loc 1 0::tp 64 [])), [(.box [(.i p0.Cap), (.l (encL enc_GChange) p0.Views), (.l (encL enc_GChange) p0.Pending), (.d (.mp (Option.isNone p0.Links) (mks kv_22 (ml p0.Links)) (mds (slD (encL enc_GChange)) (ml p0.Links))))]), (.box [(.i 0), (.d .nil), (.d .nil), (.d (.mp (Option.isNone (none : Option (List (GArr2_Int × (List (List GChange)))))) (mks kv_22 (ml (none : Option (List (GArr2_Int × (List (List GChange))))))) (mds (slD (encL enc_GChange)) (ml (none : Option (List (GArr2_Int × (List (List GChange)))))))))])], 0⟩ <| Sq <| Sx <| Wz (.loc 0 2) (Ofa rfl) <| Wz (.l (encL enc_GChange) p0.Pending) (Old rfl) <| Wm (.i p1) rfl ?_
  obtain ⟨x17_1, hx17_1, hm⟩ := bnd hm
  obtain ⟨hx17_1i, hx17_1g⟩ := geti_some hx17_1
  refine Wz (.d (.ref (List.drop ((Int.toNat p1) * 1) (flatD (encL enc_GChange) p0.Pending)))) (Oia rfl (encL_len (enc := enc_GChange)) hx17_1i hx17_1g) <| Wz (.l enc_GChange x17_1) (Lf1 rfl (encL_len (enc := enc_GChange)) hx17_1g) <| Wz (.i ((List.length x17_1 : Nat) : Int)) (Oln rfl) <| Wz (.b (decide (((List.length x17_1 : Nat) : Int) = 0))) (Obn rfl (fun _ => hb_eql (k := .i64))) <| Nk 1048598 3 ⟨tp 1 (.i p1::.loc 0 0::tp 1 (.loc 1 0::tp 15 (.b (decide (((List.length x17_1 : Nat) : Int) = 0))::tp 48 []))), [(.box [(.i p0.Cap), (.l (encL enc_GChange) p0.Views), (.l (encL enc_GChange) p0.Pending), (.d (.mp (Option.isNone p0.Links) (mks kv_22 (ml p0.Links)) (mds (slD (encL enc_GChange)) (ml p0.Links))))]), (.box [(.i 0), (.d .nil), (.d .nil), (.d (.mp (Option.isNone (none : Option (List (GArr2_Int × (List (List GChange)))))) (mks kv_22 (ml (none : Option (List (GArr2_Int × (List (List GChange))))))) (mds (slD (encL enc_GChange)) (ml (none : Option (List (GArr2_Int × (List (List GChange)))))))))])], 0⟩ ?_
  rcases tf_ (decide (((List.length x17_1 : Nat) : Int) = 0)) with hc20_11 | hc20_11
  ·
   replace hm := cT hc20_11 hm
   refine AiT hc20_11 <| Sx <| Wz (.agg [(.i p0.Cap), (.l (encL enc_GChange) p0.Views), (.l (encL enc_GChange) p0.Pending), (.d (.mp (Option.isNone p0.Links) (mks kv_22 (ml p0.Links)) (mds (slD (encL enc_GChange)) (ml p0.Links))))]) (Old rfl) <| Wy (.tup []) [(1, (.box [(.i p0.Cap), (.l (encL enc_GChange) p0.Views), (.l (encL enc_GChange) p0.Pending), (.d (.mp (Option.isNone p0.Links) (mks kv_22 (ml p0.Links)) (mds (slD (encL enc_GChange)) (ml p0.Links))))]))] (Ost rfl) <| Wm (.i 16) rfl <| Nn <| Rt <| Tr ?_
   obtain rfl := Option.some.inj hm
   exact ret_i []
  ·
   replace hm := cF hc20_11 hm
   refine AiF hc20_11 <| Sk <| Tk 22 3 ⟨tp 1 (.i p1::.loc 0 0::tp 1 (.loc 1 0::tp 64 [])), [(.box [(.i p0.Cap), (.l (encL enc_GChange) p0.Views), (.l (encL enc_GChange) p0.Pending), (.d (.mp (Option.isNone p0.Links) (mks kv_22 (ml p0.Links)) (mds (slD (encL enc_GChange)) (ml p0.Links))))]), (.box [(.i 0), (.d .nil), (.d .nil), (.d (.mp (Option.isNone (none : Option (List (GArr2_Int × (List (List GChange)))))) (mks kv_22 (ml (none : Option (List (GArr2_Int × (List (List GChange))))))) (mds (slD (encL enc_GChange)) (ml (none : Option (List (GArr2_Int × (List (List GChange)))))))))])], 0⟩ <| Sq <| Sx <| Wz (.loc 0 1) (Ofa rfl) <| Wz (.l (encL enc_GChange) p0.Views) (Old rfl) <| Wz (.i ((List.length p0.Views : Nat) : Int)) (Oln rfl) <| Wm (.i 0) rfl <| Nk 50331670 3 ⟨tp 1 (.i p1::.loc 0 0::tp 1 (.loc 1 0::tp 19 (.i ((List.length p0.Views : Nat) : Int)::.i 0::tp 43 []))), [(.box [(.i p0.Cap), (.l (encL enc_GChange) p0.Views), (.l (encL enc_GChange) p0.Pending), (.d (.mp (Option.isNone p0.Links) (mks kv_22 (ml p0.Links)) (mds (slD (encL enc_GChange)) (ml p0.Links))))]), (.box [(.i 0), (.d .nil), (.d .nil), (.d (.mp (Option.isNone (none : Option (List (GArr2_Int × (List (List GChange)))))) (mks kv_22 (ml (none : Option (List (GArr2_Int × (List (List GChange))))))) (mds (slD (encL enc_GChange)) (ml (none : Option (List (GArr2_Int × (List (List GChange)))))))))])], 0⟩ <| Bk ?_
   refine AWP.loopI (α := Nat × Int)
     (fun (fu_3, y25_3) => (⟨tp 1 (.i p1::.loc 0 0::tp 1 (.loc 1 0::tp 19 (.i ((List.length p0.Views : Nat) : Int)::.i y25_3::tp 43 []))), [(.box [(.i p0.Cap), (.l (encL enc_GChange) p0.Views), (.l (encL enc_GChange) p0.Pending), (.d (.mp (Option.isNone p0.Links) (mks kv_22 (ml p0.Links)) (mds (slD (encL enc_GChange)) (ml p0.Links))))]), (.box [(.i 0), (.d .nil), (.d .nil), (.d (.mp (Option.isNone (none : Option (List (GArr2_Int × (List (List GChange)))))) (mks kv_22 (ml (none : Option (List (GArr2_Int × (List (List GChange))))))) (mds (slD (encL enc_GChange)) (ml (none : Option (List (GArr2_Int × (List (List GChange)))))))))])], 0⟩ : St))
     (fun (fu_3, y25_3) => m_view_Net_Flush_l3 p0 p1 fu_3 y25_3 = some r)
     (fun (fu_3, y25_3) => fu_3) (1152921504606846976, 0)
     (Weak.toK 50331670 0 0 [0, 1]) hm ?_
   rintro ⟨fu_3, y25_3⟩ n_3 hm ih_3
   try dsimp only at hm ih_3 ⊢
   cases fu_3 with
   | zero => exact absurd hm (by unfold m_view_Net_Flush_l3; simp)
   | succ fu_3 =>
    unfold m_view_Net_Flush_l3 at hm
    refine Sx <| Wz (.b (decide (y25_3 < ((List.length p0.Views : Nat) : Int)))) (Obn rfl (fun _ => hb_lss (k := .i64))) <| Nk 117440534 3 ⟨tp 1 (.i p1::.loc 0 0::tp 1 (.loc 1 0::tp 19 (.i ((List.length p0.Views : Nat) : Int)::.i y25_3::.b (decide (y25_3 < ((List.length p0.Views : Nat) : Int)))::tp 42 []))), [(.box [(.i p0.Cap), (.l (encL enc_GChange) p0.Views), (.l (encL enc_GChange) p0.Pending), (.d (.mp (Option.isNone p0.Links) (mks kv_22 (ml p0.Links)) (mds (slD (encL enc_GChange)) (ml p0.Links))))]), (.box [(.i 0), (.d .nil), (.d .nil), (.d (.mp (Option.isNone (none : Option (List (GArr2_Int × (List (List GChange)))))) (mks kv_22 (ml (none : Option (List (GArr2_Int × (List (List GChange))))))) (mds (slD (encL enc_GChange)) (ml (none : Option (List (GArr2_Int × (List (List GChange)))))))))])], 0⟩ <| Sq ?_
    rcases tf_ (decide (y25_3 < ((List.length p0.Views : Nat) : Int))) with hc26_12 | hc26_12
    ·
     replace hm := cT hc26_12 hm
     refine AiT hc26_12 <| Sk <| Tk 50331670 3 ⟨tp 1 (.i p1::.loc 0 0::tp 1 (.loc 1 0::tp 19 (.i ((List.length p0.Views : Nat) : Int)::.i y25_3::tp 43 []))), [(.box [(.i p0.Cap), (.l (encL enc_GChange) p0.Views), (.l (encL enc_GChange) p0.Pending), (.d (.mp (Option.isNone p0.Links) (mks kv_22 (ml p0.Links)) (mds (slD (encL enc_GChange)) (ml p0.Links))))]), (.box [(.i 0), (.d .nil), (.d .nil), (.d (.mp (Option.isNone (none : Option (List (GArr2_Int × (List (List GChange)))))) (mks kv_22 (ml (none : Option (List (GArr2_Int × (List (List GChange))))))) (mds (slD (encL enc_GChange)) (ml (none : Option (List (GArr2_Int × (List (List GChange)))))))))])], 0⟩ <| Sq <| Bk <| Sx <| Wm (.i y25_3) rfl <| Wm (.i y25_3) rfl <| Nk 50331734 3 ⟨tp 1 (.i p1::.loc 0 0::tp 1 (.loc 1 0::tp 1 (.i y25_3::tp 17 (.i ((List.length p0.Views : Nat) : Int)::.i y25_3::tp 43 [])))), [(.box [(.i p0.Cap), (.l (encL enc_GChange) p0.Views), (.l (encL enc_GChange) p0.Pending), (.d (.mp (Option.isNone p0.Links) (mks kv_22 (ml p0.Links)) (mds (slD (encL enc_GChange)) (ml p0.Links))))]), (.box [(.i 0), (.d .nil), (.d .nil), (.d (.mp (Option.isNone (none : Option (List (GArr2_Int × (List (List GChange)))))) (mks kv_22 (ml (none : Option (List (GArr2_Int × (List (List GChange))))))) (mds (slD (encL enc_GChange)) (ml (none : Option (List (GArr2_Int × (List (List GChange)))))))))])], 0⟩ <| Sq <| Adr <| Wz (.agg [(.i p0.Cap), (.l (encL enc_GChange) p0.Views), (.l (encL enc_GChange) p0.Pending), (.d (.mp (Option.isNone p0.Links) (mks kv_22 (ml p0.Links)) (mds (slD (encL enc_GChange)) (ml p0.Links))))]) (Old rfl) <| Wm (.i p1) rfl <| Wm (.i y25_3) rfl ?_
     obtain ⟨r31_4, hr31_4, hm⟩ := bnd hm
     refine Wz (.i r31_4) (Ocf [] [] [] 0 (ok_view_Net_Waits p0 p1 y25_3 r31_4 hr31_4) (fun a w => Try.call19 a w) rfl trivial) <| Wz (.loc 0 0) (Ofa rfl) <| Wz (.i p0.Cap) (Old rfl) <| Wz (.b (decide (p0.Cap ≤ r31_4))) (Obn rfl (fun _ => hb_geq (k := .i64))) <| Wdr <| Tk 17230200854 3 ⟨tp 1 (.i p1::.loc 0 0::tp 1 (.loc 1 0::tp 19 (.i ((List.length p0.Views : Nat) : Int)::.i y25_3::tp 8 (.b (decide (p0.Cap ≤ r31_4))::tp 34 [])))), [(.box [(.i p0.Cap), (.l (encL enc_GChange) p0.Views), (.l (encL enc_GChange) p0.Pending), (.d (.mp (Option.isNone p0.Links) (mks kv_22 (ml p0.Links)) (mds (slD (encL enc_GChange)) (ml p0.Links))))]), (.box [(.i 0), (.d .nil), (.d .nil), (.d (.mp (Option.isNone (none : Option (List (GArr2_Int × (List (List GChange)))))) (mks kv_22 (ml (none : Option (List (GArr2_Int × (List (List GChange))))))) (mds (slD (encL enc_GChange)) (ml (none : Option (List (GArr2_Int × (List (List GChange)))))))))])], 0⟩ ?_
     rcases tf_ (decide (p0.Cap ≤ r31_4)) with hc34_13 | hc34_13
     ·
      replace hm := cT hc34_13 hm
      refine AiT hc34_13 <| Sx <| Wz (.agg [(.i p0.Cap), (.l (encL enc_GChange) p0.Views), (.l (encL enc_GChange) p0.Pending), (.d (.mp (Option.isNone p0.Links) (mks kv_22 (ml p0.Links)) (mds (slD (encL enc_GChange)) (ml p0.Links))))]) (Old rfl) <| Wy (.tup []) [(1, (.box [(.i p0.Cap), (.l (encL enc_GChange) p0.Views), (.l (encL enc_GChange) p0.Pending), (.d (.mp (Option.isNone p0.Links) (mks kv_22 (ml p0.Links)) (mds (slD (encL enc_GChange)) (ml p0.Links))))]))] (Ost rfl) <| Wm (.i 7) rfl <| Nn <| Rt <| Ir <| Tr <| RoundK.ret <| Ir <| Tr ?_
      obtain rfl := Option.some.inj hm
      exact ret_i []
     ·
      replace hm := cF hc34_13 hm
      refine AiF hc34_13 <| Sk <| Ino <| Tk 50331670 3 ⟨tp 1 (.i p1::.loc 0 0::tp 1 (.loc 1 0::tp 19 (.i ((List.length p0.Views : Nat) : Int)::.i y25_3::tp 43 []))), [(.box [(.i p0.Cap), (.l (encL enc_GChange) p0.Views), (.l (encL enc_GChange) p0.Pending), (.d (.mp (Option.isNone p0.Links) (mks kv_22 (ml p0.Links)) (mds (slD (encL enc_GChange)) (ml p0.Links))))]), (.box [(.i 0), (.d .nil), (.d .nil), (.d (.mp (Option.isNone (none : Option (List (GArr2_Int × (List (List GChange)))))) (mks kv_22 (ml (none : Option (List (GArr2_Int × (List (List GChange))))))) (mds (slD (encL enc_GChange)) (ml (none : Option (List (GArr2_Int × (List (List GChange)))))))))])], 0⟩ <| Tx <| Wz (.i (W6 (y25_3 + 1))) (Obn rfl (fun _ => hb_add (k := .i64))) <| Wm (.i (W6 (y25_3 + 1))) rfl <| Wn0 <| RoundK.normal ?_
      exact Rounds.weak (Weak.toK 50331670 0 0 [0, 1]) (ih_3 (fu_3, (W6 (y25_3 + 1))) hm (Nat.lt_succ_self _))
    ·
     replace hm := cF hc26_12 hm
     refine AiF hc26_12 <| AWP.exit <| Then.exit <| RoundK.exit <| InBlock.same <| Tk 22 3 ⟨tp 1 (.i p1::.loc 0 0::tp 1 (.loc 1 0::tp 64 [])), [(.box [(.i p0.Cap), (.l (encL enc_GChange) p0.Views), (.l (encL enc_GChange) p0.Pending), (.d (.mp (Option.isNone p0.Links) (mks kv_22 (ml p0.Links)) (mds (slD (encL enc_GChange)) (ml p0.Links))))]), (.box [(.i 0), (.d .nil), (.d .nil), (.d (.mp (Option.isNone (none : Option (List (GArr2_Int × (List (List GChange)))))) (mks kv_22 (ml (none : Option (List (GArr2_Int × (List (List GChange))))))) (mds (slD (encL enc_GChange)) (ml (none : Option (List (GArr2_Int × (List (List GChange)))))))))])], 0⟩ <| Sx <| Wz (.agg [(.i p0.Cap), (.l (encL enc_GChange) p0.Views), (.l (encL enc_GChange) p0.Pending), (.d (.mp (Option.isNone p0.Links) (mks kv_22 (ml p0.Links)) (mds (slD (encL enc_GChange)) (ml p0.Links))))]) (Old rfl) ?_
     obtain ⟨r38_5, hr38_5, hm⟩ := bnd hm
     refine Wy (.agg [(.i r38_5.Cap), (.own 2), (.own 3), (.own 4)]) [(2, (.arr 34 1 (List.length r38_5.Views) (flatD (encL enc_GChange) r38_5.Views))), (3, (.arr 34 1 (List.length r38_5.Pending) (flatD (encL enc_GChange) r38_5.Pending))), (4, (.mp (mks kv_22 (ml r38_5.Links)) (mds (slD (encL enc_GChange)) (ml r38_5.Links))))] (Ocf [] [2, 3, 4] [] 0 (ok_view_Net_clone p0 r38_5 hr38_5) (fun a w => Try.call39 a w) rfl trivial) <| Wy (.tup []) [(0, (.box [(.i r38_5.Cap), (.own 2), (.own 3), (.own 4)]))] (Ost rfl) <| Nk 22 31 ⟨tp 1 (.i p1::.loc 0 0::tp 1 (.loc 1 0::tp 64 [])), [(.box [(.i r38_5.Cap), (.own 2), (.own 3), (.own 4)]), (.box [(.i 0), (.d .nil), (.d .nil), (.d (.mp (Option.isNone (none : Option (List (GArr2_Int × (List (List GChange)))))) (mks kv_22 (ml (none : Option (List (GArr2_Int × (List (List GChange))))))) (mds (slD (encL enc_GChange)) (ml (none : Option (List (GArr2_Int × (List (List GChange)))))))))]), (.arr 34 1 (List.length r38_5.Views) (flatD (encL enc_GChange) r38_5.Views)), (.arr 34 1 (List.length r38_5.Pending) (flatD (encL enc_GChange) r38_5.Pending)), (.mp (mks kv_22 (ml r38_5.Links)) (mds (slD (encL enc_GChange)) (ml r38_5.Links)))], 0⟩ <| Sq <| Sx <| Wz (.loc 0 1) (Ofa rfl) <| Wz (.own 2) (Old rfl) <| Wz (.i ((List.length r38_5.Views : Nat) : Int)) (Oln rfl) <| Wm (.i 0) rfl <| Nk 6597069766678 31 ⟨tp 1 (.i p1::.loc 0 0::tp 1 (.loc 1 0::tp 36 (.i ((List.length r38_5.Views : Nat) : Int)::.i 0::tp 26 []))), [(.box [(.i r38_5.Cap), (.own 2), (.own 3), (.own 4)]), (.box [(.i 0), (.d .nil), (.d .nil), (.d (.mp (Option.isNone (none : Option (List (GArr2_Int × (List (List GChange)))))) (mks kv_22 (ml (none : Option (List (GArr2_Int × (List (List GChange))))))) (mds (slD (encL enc_GChange)) (ml (none : Option (List (GArr2_Int × (List (List GChange)))))))))]), (.arr 34 1 (List.length r38_5.Views) (flatD (encL enc_GChange) r38_5.Views)), (.arr 34 1 (List.length r38_5.Pending) (flatD (encL enc_GChange) r38_5.Pending)), (.mp (mks kv_22 (ml r38_5.Links)) (mds (slD (encL enc_GChange)) (ml r38_5.Links)))], 0⟩ <| Bk ?_
     refine AWP.loopI (α := Nat × (List (GArr2_Int × (List (List GChange)))) × Int)
       (fun (fu_7, y2_d_3_7, y42_7) => (⟨tp 1 (.i p1::.loc 0 0::tp 1 (.loc 4 0::tp 36 (.i ((List.length r38_5.Views : Nat) : Int)::.i y42_7::tp 26 []))), [(.box [(.i r38_5.Cap), (.own 1), (.own 2), (.own 3)]), (.arr 34 1 (List.length r38_5.Views) (flatD (encL enc_GChange) r38_5.Views)), (.arr 34 1 (List.length r38_5.Pending) (flatD (encL enc_GChange) r38_5.Pending)), (.mp (mks kv_22 y2_d_3_7) (mds (slD (encL enc_GChange)) y2_d_3_7)), (.box [(.i 0), (.d .nil), (.d .nil), (.d (.mp (Option.isNone (none : Option (List (GArr2_Int × (List (List GChange)))))) (mks kv_22 (ml (none : Option (List (GArr2_Int × (List (List GChange))))))) (mds (slD (encL enc_GChange)) (ml (none : Option (List (GArr2_Int × (List (List GChange)))))))))])], 0⟩ : St))
       (fun (fu_7, y2_d_3_7, y42_7) => m_view_Net_Flush_l7 p1 r38_5 fu_7 y2_d_3_7 y42_7 = some r)
       (fun (fu_7, y2_d_3_7, y42_7) => fu_7) (1152921504606846976, (ml r38_5.Links), 0)
       (Weak.toK 6597069766678 0 0 [0, 2, 3, 4, 1]) hm ?_
     rintro ⟨fu_7, y2_d_3_7, y42_7⟩ n_7 hm ih_7
     try dsimp only at hm ih_7 ⊢
     cases fu_7 with
     | zero => exact absurd hm (by unfold m_view_Net_Flush_l7; simp)
     | succ fu_7 =>
      unfold m_view_Net_Flush_l7 at hm
      refine Sx <| Wz (.b (decide (y42_7 < ((List.length r38_5.Views : Nat) : Int)))) (Obn rfl (fun _ => hb_lss (k := .i64))) <| Nk 15393162788886 31 ⟨tp 1 (.i p1::.loc 0 0::tp 1 (.loc 4 0::tp 36 (.i ((List.length r38_5.Views : Nat) : Int)::.i y42_7::.b (decide (y42_7 < ((List.length r38_5.Views : Nat) : Int)))::tp 25 []))), [(.box [(.i r38_5.Cap), (.own 1), (.own 2), (.own 3)]), (.arr 34 1 (List.length r38_5.Views) (flatD (encL enc_GChange) r38_5.Views)), (.arr 34 1 (List.length r38_5.Pending) (flatD (encL enc_GChange) r38_5.Pending)), (.mp (mks kv_22 y2_d_3_7) (mds (slD (encL enc_GChange)) y2_d_3_7)), (.box [(.i 0), (.d .nil), (.d .nil), (.d (.mp (Option.isNone (none : Option (List (GArr2_Int × (List (List GChange)))))) (mks kv_22 (ml (none : Option (List (GArr2_Int × (List (List GChange))))))) (mds (slD (encL enc_GChange)) (ml (none : Option (List (GArr2_Int × (List (List GChange)))))))))])], 0⟩ <| Sq ?_
      rcases tf_ (decide (y42_7 < ((List.length r38_5.Views : Nat) : Int))) with hc43_14 | hc43_14
      ·
       replace hm := cT hc43_14 hm
       refine AiT hc43_14 <| Sk <| Tk 6597069766678 31 ⟨tp 1 (.i p1::.loc 0 0::tp 1 (.loc 4 0::tp 36 (.i ((List.length r38_5.Views : Nat) : Int)::.i y42_7::tp 26 []))), [(.box [(.i r38_5.Cap), (.own 1), (.own 2), (.own 3)]), (.arr 34 1 (List.length r38_5.Views) (flatD (encL enc_GChange) r38_5.Views)), (.arr 34 1 (List.length r38_5.Pending) (flatD (encL enc_GChange) r38_5.Pending)), (.mp (mks kv_22 y2_d_3_7) (mds (slD (encL enc_GChange)) y2_d_3_7)), (.box [(.i 0), (.d .nil), (.d .nil), (.d (.mp (Option.isNone (none : Option (List (GArr2_Int × (List (List GChange)))))) (mks kv_22 (ml (none : Option (List (GArr2_Int × (List (List GChange))))))) (mds (slD (encL enc_GChange)) (ml (none : Option (List (GArr2_Int × (List (List GChange)))))))))])], 0⟩ <| Sq <| Bk <| Sx <| Wm (.i y42_7) rfl <| Wm (.i y42_7) rfl <| Nk 6597069766806 31 ⟨tp 1 (.i p1::.loc 0 0::tp 1 (.loc 4 0::tp 2 (.i y42_7::tp 33 (.i ((List.length r38_5.Views : Nat) : Int)::.i y42_7::tp 26 [])))), [(.box [(.i r38_5.Cap), (.own 1), (.own 2), (.own 3)]), (.arr 34 1 (List.length r38_5.Views) (flatD (encL enc_GChange) r38_5.Views)), (.arr 34 1 (List.length r38_5.Pending) (flatD (encL enc_GChange) r38_5.Pending)), (.mp (mks kv_22 y2_d_3_7) (mds (slD (encL enc_GChange)) y2_d_3_7)), (.box [(.i 0), (.d .nil), (.d .nil), (.d (.mp (Option.isNone (none : Option (List (GArr2_Int × (List (List GChange)))))) (mks kv_22 (ml (none : Option (List (GArr2_Int × (List (List GChange))))))) (mds (slD (encL enc_GChange)) (ml (none : Option (List (GArr2_Int × (List (List GChange)))))))))])], 0⟩ <| Sx <| Wm (.i p1) rfl <| Wm (.i y42_7) rfl <| Wz (.agg [(.i p1), (.i y42_7)]) (ObA rfl (e := 3) (n := 2) (sz := 1) (by kernel_rfl) (by kernel_rfl)) <| Wy (.loc 5 0) [(5, (.box [(.i 0), (.i 0)]))] (Oal rfl) ?_
       refine Wy (.tup []) [(5, (.box [(.i p1), (.i y42_7)]))] (Ost rfl) <| Nk 6597069766934 63 ⟨tp 1 (.i p1::.loc 0 0::tp 1 (.loc 4 0::tp 3 (.loc 5 0::tp 32 (.i ((List.length r38_5.Views : Nat) : Int)::.i y42_7::tp 26 [])))), [(.box [(.i r38_5.Cap), (.own 1), (.own 2), (.own 3)]), (.arr 34 1 (List.length r38_5.Views) (flatD (encL enc_GChange) r38_5.Views)), (.arr 34 1 (List.length r38_5.Pending) (flatD (encL enc_GChange) r38_5.Pending)), (.mp (mks kv_22 y2_d_3_7) (mds (slD (encL enc_GChange)) y2_d_3_7)), (.box [(.i 0), (.d .nil), (.d .nil), (.d (.mp (Option.isNone (none : Option (List (GArr2_Int × (List (List GChange)))))) (mks kv_22 (ml (none : Option (List (GArr2_Int × (List (List GChange))))))) (mds (slD (encL enc_GChange)) (ml (none : Option (List (GArr2_Int × (List (List GChange)))))))))]), (.box [(.i p1), (.i y42_7)])], 0⟩ <| Adr <| Wz (.loc 0 3) (Ofa rfl) <| Wz (.own 3) (Old rfl) <| Wz (.agg [(.i p1), (.i y42_7)]) (Old rfl) <| Wz (.loc 0 3) (Ofa rfl) <| Wz (.own 3) (Old rfl) <| Wz (.agg [(.i p1), (.i y42_7)]) (Old rfl) <| Wz (.l (encL enc_GChange) (Option.getD (mlook y2_d_3_7 (GArr2_Int.mk p1 y42_7)) ([] : List (List GChange)))) (Mlk (GArr2_Int.mk p1 y42_7) y2_d_3_7 ([] : List (List GChange)) keyOK_22 (ev := (slD (encL enc_GChange))) rfl slD_zero) ?_
       obtain ⟨r55_8, hr55_8, hm⟩ := bnd hm
       refine Wy (.own 6) [(6, (.arr 34 1 (List.length r55_8) (flatD (encL enc_GChange) r55_8)))] (Ocf [] [6] [] 0 (ok_slices_Clone_tally_Change_tally_Change (Option.getD (mlook y2_d_3_7 (GArr2_Int.mk p1 y42_7)) ([] : List (List GChange))) r55_8 hr55_8) (fun a w => Try.call43 a w) rfl trivial) <| Wz (.loc 0 2) (Ofa rfl) <| Wz (.own 2) (Old rfl) <| Wm (.i p1) rfl ?_
       obtain ⟨x59_8, hx59_8, hm⟩ := bnd hm
       obtain ⟨hx59_8i, hx59_8g⟩ := geti_some hx59_8
       refine Wz (.loc 2 ((Int.toNat p1) * 1)) (Oia rfl (encL_len (enc := enc_GChange)) hx59_8i hx59_8g) <| Wz (.l enc_GChange x59_8) (Lr1 rfl (encL_len (enc := enc_GChange)) hx59_8g) <| Wy (.own 7) [(7, (.arr 34 1 (List.length ([x59_8] : List (List GChange))) (flatD (encL enc_GChange) ([x59_8] : List (List GChange)))))] (Obs rfl) ?_
       obtain ⟨a62_8, ha62_8, hm⟩ := bnd hm; obtain ⟨ha62_8e, ha62_8l⟩ := app_some ha62_8
       refine Wy (.l (encL enc_GChange) a62_8) [(6, .gone), (8, (.arr 34 1 (List.length a62_8) (flatD (encL enc_GChange) a62_8))), (8, (.fro 34 1 (List.length a62_8) (flatD (encL enc_GChange) a62_8)))] (Ofz [8] (.own 8) [(6, .gone), (8, (.arr 34 1 (List.length a62_8) (flatD (encL enc_GChange) a62_8)))] (Oap rfl elemOK_27 (encL_len (enc := enc_GChange)) ha62_8e ha62_8l)) <| Wy (.tup []) [(3, (.mp (mks kv_22 (mput y2_d_3_7 (GArr2_Int.mk p1 y42_7) a62_8)) (mds (slD (encL enc_GChange)) (mput y2_d_3_7 (GArr2_Int.mk p1 y42_7) a62_8))))] (Mmu (GArr2_Int.mk p1 y42_7) a62_8 y2_d_3_7 keyOK_22 (ev := (slD (encL enc_GChange))) (id := 3) (z := .slice none 0 0) rfl (by kernel_rfl) (by kernel_rfl)) <| Wdr <| Ino <| Tk 6597069766678 31 ⟨tp 1 (.i p1::.loc 0 0::tp 1 (.loc 4 0::tp 36 (.i ((List.length r38_5.Views : Nat) : Int)::.i y42_7::tp 26 []))), [(.box [(.i r38_5.Cap), (.own 1), (.own 2), (.own 3)]), (.arr 34 1 (List.length r38_5.Views) (flatD (encL enc_GChange) r38_5.Views)), (.arr 34 1 (List.length r38_5.Pending) (flatD (encL enc_GChange) r38_5.Pending)), (.mp (mks kv_22 (mput y2_d_3_7 (GArr2_Int.mk p1 y42_7) a62_8)) (mds (slD (encL enc_GChange)) (mput y2_d_3_7 (GArr2_Int.mk p1 y42_7) a62_8))), (.box [(.i 0), (.d .nil), (.d .nil), (.d (.mp (Option.isNone (none : Option (List (GArr2_Int × (List (List GChange)))))) (mks kv_22 (ml (none : Option (List (GArr2_Int × (List (List GChange))))))) (mds (slD (encL enc_GChange)) (ml (none : Option (List (GArr2_Int × (List (List GChange)))))))))]), .gone, .gone, .gone, .gone], 0⟩ <| Tx <| Wz (.i (W6 (y42_7 + 1))) (Obn rfl (fun _ => hb_add (k := .i64))) <| Wm (.i (W6 (y42_7 + 1))) rfl <| Wn0 <| RoundK.normal ?_
       exact Rounds.weak (Weak.toK 6597069766678 0 0 [0, 1, 2, 3, 4]) (ih_7 (fu_7, (mput y2_d_3_7 (GArr2_Int.mk p1 y42_7) a62_8), (W6 (y42_7 + 1))) hm (Nat.lt_succ_self _))
      ·
       replace hm := cF hc43_14 hm
       refine AiF hc43_14 <| AWP.exit <| Then.exit <| RoundK.exit <| InBlock.same <| Tk 22 31 ⟨tp 1 (.i p1::.loc 0 0::tp 1 (.loc 4 0::tp 64 [])), [(.box [(.i r38_5.Cap), (.own 1), (.own 2), (.own 3)]), (.arr 34 1 (List.length r38_5.Views) (flatD (encL enc_GChange) r38_5.Views)), (.arr 34 1 (List.length r38_5.Pending) (flatD (encL enc_GChange) r38_5.Pending)), (.mp (mks kv_22 y2_d_3_7) (mds (slD (encL enc_GChange)) y2_d_3_7)), (.box [(.i 0), (.d .nil), (.d .nil), (.d (.mp (Option.isNone (none : Option (List (GArr2_Int × (List (List GChange)))))) (mks kv_22 (ml (none : Option (List (GArr2_Int × (List (List GChange))))))) (mds (slD (encL enc_GChange)) (ml (none : Option (List (GArr2_Int × (List (List GChange)))))))))])], 0⟩ <| Sx <| Wz (.loc 0 2) (Ofa rfl) <| Wz (.own 2) (Old rfl) <| Wm (.i p1) rfl ?_
       obtain ⟨x67_9, hx67_9, hm⟩ := bnd hm
       obtain ⟨hx67_9i, hx67_9g⟩ := geti_some hx67_9
       refine Wz (.loc 2 ((Int.toNat p1) * 1)) (Oia rfl (encL_len (enc := enc_GChange)) hx67_9i hx67_9g) <| Wy (.tup []) [(2, (.arr 34 1 (List.length (List.set r38_5.Pending (Int.toNat p1) ([] : List GChange))) (flatD (encL enc_GChange) (List.set r38_5.Pending (Int.toNat p1) ([] : List GChange)))))] (Osr 0 rfl (encL_len (enc := enc_GChange)) hx67_9g ([] : List GChange)) <| Nk 20 31 ⟨tp 2 (.loc 0 0::tp 1 (.loc 4 0::tp 64 [])), [(.box [(.i r38_5.Cap), (.own 1), (.own 2), (.own 3)]), (.arr 34 1 (List.length r38_5.Views) (flatD (encL enc_GChange) r38_5.Views)), (.arr 34 1 (List.length (List.set r38_5.Pending (Int.toNat p1) ([] : List GChange))) (flatD (encL enc_GChange) (List.set r38_5.Pending (Int.toNat p1) ([] : List GChange)))), (.mp (mks kv_22 y2_d_3_7) (mds (slD (encL enc_GChange)) y2_d_3_7)), (.box [(.i 0), (.d .nil), (.d .nil), (.d (.mp (Option.isNone (none : Option (List (GArr2_Int × (List (List GChange)))))) (mks kv_22 (ml (none : Option (List (GArr2_Int × (List (List GChange))))))) (mds (slD (encL enc_GChange)) (ml (none : Option (List (GArr2_Int × (List (List GChange)))))))))])], 0⟩ <| Sx <| Wz (.agg [(.i r38_5.Cap), (.own 1), (.own 2), (.own 3)]) (Old rfl) <| Wy (.tup []) [(4, (.box [(.i r38_5.Cap), (.own 1), (.own 2), (.own 3)]))] (Ost rfl) <| Wm (.i 0) rfl <| Nn <| Afz [1, 2, 3] ⟨tp 2 (.loc 0 0::tp 1 (.loc 4 0::.i 0::tp 62 (.agg [(.i r38_5.Cap), (.l (encL enc_GChange) r38_5.Views), (.l (encL enc_GChange) (List.set r38_5.Pending (Int.toNat p1) ([] : List GChange))), (.d (.mp (Option.isNone (some y2_d_3_7)) (mks kv_22 (ml (some y2_d_3_7))) (mds (slD (encL enc_GChange)) (ml (some y2_d_3_7)))))]::[]))), [(.box [(.i r38_5.Cap), (.l (encL enc_GChange) r38_5.Views), (.l (encL enc_GChange) (List.set r38_5.Pending (Int.toNat p1) ([] : List GChange))), (.d (.mp (Option.isNone (some y2_d_3_7)) (mks kv_22 (ml (some y2_d_3_7))) (mds (slD (encL enc_GChange)) (ml (some y2_d_3_7)))))]), (.fro 34 1 (List.length r38_5.Views) (flatD (encL enc_GChange) r38_5.Views)), (.fro 34 1 (List.length (List.set r38_5.Pending (Int.toNat p1) ([] : List GChange))) (flatD (encL enc_GChange) (List.set r38_5.Pending (Int.toNat p1) ([] : List GChange)))), .gone, (.box [(.i r38_5.Cap), (.l (encL enc_GChange) r38_5.Views), (.l (encL enc_GChange) (List.set r38_5.Pending (Int.toNat p1) ([] : List GChange))), (.d (.mp (Option.isNone (some y2_d_3_7)) (mks kv_22 (ml (some y2_d_3_7))) (mds (slD (encL enc_GChange)) (ml (some y2_d_3_7)))))])], 0⟩ <| Rt ?_
       obtain rfl := Option.some.inj hm
       exact ret_i []

theorem ok_view_Net_Deliver (p0 : GNet) (p1 : Int) (p2 : Int) (r : (GNet × Int)) (h : m_view_Net_Deliver p0 p1 p2 = some r) : GCall Try.prog 15 [(.agg [(.i p0.Cap), (.l (encL enc_GChange) p0.Views), (.l (encL enc_GChange) p0.Pending), (.d (.mp (Option.isNone p0.Links) (mks kv_22 (ml p0.Links)) (mds (slD (encL enc_GChange)) (ml p0.Links))))]), (.i p1), (.i p2)] [] (.tup [(.agg [(.i r.1.Cap), (.l (encL enc_GChange) r.1.Views), (.l (encL enc_GChange) r.1.Pending), (.d (.mp (Option.isNone r.1.Links) (mks kv_22 (ml r.1.Links)) (mds (slD (encL enc_GChange)) (ml r.1.Links))))]), (.i r.2)]) [] := by
 refine GCall.of_body (n := 63) (rs := [(.cell 6 30), (.tmp 7)]) Try.func15 rfl rfl rfl <| Ato ⟨.agg [(.i p0.Cap), (.l (encL enc_GChange) p0.Views), (.l (encL enc_GChange) p0.Pending), (.d (.mp (Option.isNone p0.Links) (mks kv_22 (ml p0.Links)) (mds (slD (encL enc_GChange)) (ml p0.Links))))]::.i p1::.i p2::tu 60 [], [], 0⟩ ?_
 have hm := h
 unfold m_view_Net_Deliver at hm
 refine Sx <| Wy (.loc 0 0) [(0, (.box [(.i p0.Cap), (.l (encL enc_GChange) p0.Views), (.l (encL enc_GChange) p0.Pending), (.d (.mp (Option.isNone p0.Links) (mks kv_22 (ml p0.Links)) (mds (slD (encL enc_GChange)) (ml p0.Links))))]))] (Obx rfl) <| Wy (.loc 1 0) [(1, (.box [(.i 0), (.d .nil), (.d .nil), (.d (.mp (Option.isNone (none : Option (List (GArr2_Int × (List (List GChange)))))) (mks kv_22 (ml (none : Option (List (GArr2_Int × (List (List GChange))))))) (mds (slD (encL enc_GChange)) (ml (none : Option (List (GArr2_Int × (List (List GChange)))))))))]))] (Oal rfl) <| Wm (.i 0) rfl <| Nk 78 3 ⟨tp 1 (.i p1::.i p2::.loc 0 0::tp 2 (.loc 1 0::tp 56 [])), [(.box [(.i p0.Cap), (.l (encL enc_GChange) p0.Views), (.l (encL enc_GChange) p0.Pending), (.d (.mp (Option.isNone p0.Links) (mks kv_22 (ml p0.Links)) (mds (slD (encL enc_GChange)) (ml p0.Links))))]), (.box [(.i 0), (.d .nil), (.d .nil), (.d (.mp (Option.isNone (none : Option (List (GArr2_Int × (List (List GChange)))))) (mks kv_22 (ml (none : Option (List (GArr2_Int × (List (List GChange))))))) (mds (slD (encL enc_GChange)) (ml (none : Option (List (GArr2_Int × (List (List GChange)))))))))])], 0⟩ <| Sq <| Sx <| Wz (.agg [(.i p0.Cap), (.l (encL enc_GChange) p0.Views), (.l (encL enc_GChange) p0.Pending), (.d (.mp (Option.isNone p0.Links) (mks kv_22 (ml p0.Links)) (mds (slD (encL enc_GChange)) (ml p0.Links))))]) (Old rfl) <| Wm (.i p1) rfl ?_
 obtain ⟨r12_0, hr12_0, hm⟩ := bnd hm
 refine Wz (.b r12_0) (Ocf [] [] [] 0 (ok_view_Net_there p0 p1 r12_0 hr12_0) (fun a w => Try.call38 a w) rfl trivial) <| Wz (.b (!r12_0)) (Ocs (by kernel_rfl) (op_un rfl (a1 := .bool r12_0) (by kernel_rfl) (fun _ => hu_not))) ?_
 rcases tf_ (!r12_0) with hq14_0 | hq14_0
 ·
  replace hm := cT hq14_0 hm
  refine Wz (.b true) (Oq hq14_0 rfl) <| Wn <| Wn <| Wn <| Wn <| Wz (.b true) (OpT rfl) <| Nk 524366 3 ⟨tp 1 (.i p1::.i p2::.loc 0 0::tp 2 (.loc 1 0::tp 12 (.b true::tp 43 []))), [(.box [(.i p0.Cap), (.l (encL enc_GChange) p0.Views), (.l (encL enc_GChange) p0.Pending), (.d (.mp (Option.isNone p0.Links) (mks kv_22 (ml p0.Links)) (mds (slD (encL enc_GChange)) (ml p0.Links))))]), (.box [(.i 0), (.d .nil), (.d .nil), (.d (.mp (Option.isNone (none : Option (List (GArr2_Int × (List (List GChange)))))) (mks kv_22 (ml (none : Option (List (GArr2_Int × (List (List GChange))))))) (mds (slD (encL enc_GChange)) (ml (none : Option (List (GArr2_Int × (List (List GChange)))))))))])], 0⟩ <| AWP.if_ true (by kernel_rfl) <| Sx <| Wz (.agg [(.i p0.Cap), (.l (encL enc_GChange) p0.Views), (.l (encL enc_GChange) p0.Pending), (.d (.mp (Option.isNone p0.Links) (mks kv_22 (ml p0.Links)) (mds (slD (encL enc_GChange)) (ml p0.Links))))]) (Old rfl) <| Wy (.tup []) [(1, (.box [(.i p0.Cap), (.l (encL enc_GChange) p0.Views), (.l (encL enc_GChange) p0.Pending), (.d (.mp (Option.isNone p0.Links) (mks kv_22 (ml p0.Links)) (mds (slD (encL enc_GChange)) (ml p0.Links))))]))] (Ost rfl) <| Wm (.i 6) rfl <| Nn <| Rt ?_
  refine Tr ?_
  obtain rfl := Option.some.inj hm
  exact ret_i []
 ·
  replace hm := cF hq14_0 hm
  refine Wz (.b false) (Oq hq14_0 rfl) <| Wz (.agg [(.i p0.Cap), (.l (encL enc_GChange) p0.Views), (.l (encL enc_GChange) p0.Pending), (.d (.mp (Option.isNone p0.Links) (mks kv_22 (ml p0.Links)) (mds (slD (encL enc_GChange)) (ml p0.Links))))]) (Old rfl) <| Wm (.i p2) rfl ?_
  obtain ⟨r17_0, hr17_0, hm⟩ := bnd hm
  refine Wz (.b r17_0) (Ocf [] [] [] 0 (ok_view_Net_there p0 p2 r17_0 hr17_0) (fun a w => Try.call38 a w) rfl trivial) <| Wz (.b (!r17_0)) (Ocs (by kernel_rfl) (op_un rfl (a1 := .bool r17_0) (by kernel_rfl) (fun _ => hu_not))) <| Wz (.b (!r17_0)) (OpF rfl) <| Nk 524366 3 ⟨tp 1 (.i p1::.i p2::.loc 0 0::tp 2 (.loc 1 0::tp 12 (.b (!r17_0)::tp 43 []))), [(.box [(.i p0.Cap), (.l (encL enc_GChange) p0.Views), (.l (encL enc_GChange) p0.Pending), (.d (.mp (Option.isNone p0.Links) (mks kv_22 (ml p0.Links)) (mds (slD (encL enc_GChange)) (ml p0.Links))))]), (.box [(.i 0), (.d .nil), (.d .nil), (.d (.mp (Option.isNone (none : Option (List (GArr2_Int × (List (List GChange)))))) (mks kv_22 (ml (none : Option (List (GArr2_Int × (List (List GChange))))))) (mds (slD (encL enc_GChange)) (ml (none : Option (List (GArr2_Int × (List (List GChange)))))))))])], 0⟩ ?_
  rcases tf_ (!r17_0) with hc19_8 | hc19_8
  ·
   replace hm := cT hc19_8 hm
   refine AiT hc19_8 <| Sx <| Wz (.agg [(.i p0.Cap), (.l (encL enc_GChange) p0.Views), (.l (encL enc_GChange) p0.Pending), (.d (.mp (Option.isNone p0.Links) (mks kv_22 (ml p0.Links)) (mds (slD (encL enc_GChange)) (ml p0.Links))))]) (Old rfl) <| Wy (.tup []) [(1, (.box [(.i p0.Cap), (.l (encL enc_GChange) p0.Views), (.l (encL enc_GChange) p0.Pending), (.d (.mp (Option.isNone p0.Links) (mks kv_22 (ml p0.Links)) (mds (slD (encL enc_GChange)) (ml p0.Links))))]))] (Ost rfl) <| Wm (.i 6) rfl <| Nn <| Rt <| Tr ?_
   obtain rfl := Option.some.inj hm
   exact ret_i []
  ·
   replace hm := cF hc19_8 hm
   refine AiF hc19_8 <| Sk <| Tk 78 3 ⟨tp 1 (.i p1::.i p2::.loc 0 0::tp 2 (.loc 1 0::tp 56 [])), [(.box [(.i p0.Cap), (.l (encL enc_GChange) p0.Views), (.l (encL enc_GChange) p0.Pending), (.d (.mp (Option.isNone p0.Links) (mks kv_22 (ml p0.Links)) (mds (slD (encL enc_GChange)) (ml p0.Links))))]), (.box [(.i 0), (.d .nil), (.d .nil), (.d (.mp (Option.isNone (none : Option (List (GArr2_Int × (List (List GChange)))))) (mks kv_22 (ml (none : Option (List (GArr2_Int × (List (List GChange))))))) (mds (slD (encL enc_GChange)) (ml (none : Option (List (GArr2_Int × (List (List GChange)))))))))])], 0⟩ <| Sx <| Wm (.i p1) rfl <| Wm (.i p2) rfl <| Wz (.agg [(.i p1), (.i p2)]) (ObA rfl (e := 3) (n := 2) (sz := 1) (by kernel_rfl) (by kernel_rfl)) <| Wy (.loc 2 0) [(2, (.box [(.i 0), (.i 0)]))] (Oal rfl) <| Wy (.tup []) [(2, (.box [(.i p1), (.i p2)]))] (Ost rfl) <| Nk 332 7 ⟨tp 2 (.i p2::.loc 0 0::tp 2 (.loc 1 0::tp 1 (.loc 2 0::tp 54 []))), [(.box [(.i p0.Cap), (.l (encL enc_GChange) p0.Views), (.l (encL enc_GChange) p0.Pending), (.d (.mp (Option.isNone p0.Links) (mks kv_22 (ml p0.Links)) (mds (slD (encL enc_GChange)) (ml p0.Links))))]), (.box [(.i 0), (.d .nil), (.d .nil), (.d (.mp (Option.isNone (none : Option (List (GArr2_Int × (List (List GChange)))))) (mks kv_22 (ml (none : Option (List (GArr2_Int × (List (List GChange))))))) (mds (slD (encL enc_GChange)) (ml (none : Option (List (GArr2_Int × (List (List GChange)))))))))]), (.box [(.i p1), (.i p2)])], 0⟩ <| Sq <| Sx <| Wz (.loc 0 3) (Ofa rfl) <| Wz (.d (.mp (Option.isNone p0.Links) (mks kv_22 (ml p0.Links)) (mds (slD (encL enc_GChange)) (ml p0.Links)))) (Old rfl) ?_
   refine Wz (.agg [(.i p1), (.i p2)]) (Old rfl) <| Wz (.l (encL enc_GChange) (Option.getD (mlook (ml p0.Links) (GArr2_Int.mk p1 p2)) ([] : List (List GChange)))) (Mlk (GArr2_Int.mk p1 p2) (ml p0.Links) ([] : List (List GChange)) keyOK_22 (ev := (slD (encL enc_GChange))) rfl slD_zero) ?_
   obtain ⟨v28_2, hv28_2, hm⟩ := bnd hm; replace hv28_2 := Option.some.inj hv28_2
   refine Wz (.i v28_2) (Ocs (congrArg (fun z => A.d (.lit (.int .i64 z))) hv28_2) (Oln rfl)) <| Wz (.b (decide (v28_2 = 0))) (Obn rfl (fun _ => hb_eql (k := .i64))) <| Nk 536871244 7 ⟨tp 2 (.i p2::.loc 0 0::tp 2 (.loc 1 0::tp 1 (.loc 2 0::tp 20 (.b (decide (v28_2 = 0))::tp 33 [])))), [(.box [(.i p0.Cap), (.l (encL enc_GChange) p0.Views), (.l (encL enc_GChange) p0.Pending), (.d (.mp (Option.isNone p0.Links) (mks kv_22 (ml p0.Links)) (mds (slD (encL enc_GChange)) (ml p0.Links))))]), (.box [(.i 0), (.d .nil), (.d .nil), (.d (.mp (Option.isNone (none : Option (List (GArr2_Int × (List (List GChange)))))) (mks kv_22 (ml (none : Option (List (GArr2_Int × (List (List GChange))))))) (mds (slD (encL enc_GChange)) (ml (none : Option (List (GArr2_Int × (List (List GChange)))))))))]), (.box [(.i p1), (.i p2)])], 0⟩ ?_
   rcases tf_ (decide (v28_2 = 0)) with hc29_9 | hc29_9
   ·
    replace hm := cT hc29_9 hm
    refine AiT hc29_9 <| Sx <| Wz (.agg [(.i p0.Cap), (.l (encL enc_GChange) p0.Views), (.l (encL enc_GChange) p0.Pending), (.d (.mp (Option.isNone p0.Links) (mks kv_22 (ml p0.Links)) (mds (slD (encL enc_GChange)) (ml p0.Links))))]) (Old rfl) <| Wy (.tup []) [(1, (.box [(.i p0.Cap), (.l (encL enc_GChange) p0.Views), (.l (encL enc_GChange) p0.Pending), (.d (.mp (Option.isNone p0.Links) (mks kv_22 (ml p0.Links)) (mds (slD (encL enc_GChange)) (ml p0.Links))))]))] (Ost rfl) <| Wm (.i 16) rfl <| Nn <| Rt <| Tr ?_
    obtain rfl := Option.some.inj hm
    exact ret_i []
   ·
    replace hm := cF hc29_9 hm
    refine AiF hc29_9 <| Sk <| Tk 332 7 ⟨tp 2 (.i p2::.loc 0 0::tp 2 (.loc 1 0::tp 1 (.loc 2 0::tp 54 []))), [(.box [(.i p0.Cap), (.l (encL enc_GChange) p0.Views), (.l (encL enc_GChange) p0.Pending), (.d (.mp (Option.isNone p0.Links) (mks kv_22 (ml p0.Links)) (mds (slD (encL enc_GChange)) (ml p0.Links))))]), (.box [(.i 0), (.d .nil), (.d .nil), (.d (.mp (Option.isNone (none : Option (List (GArr2_Int × (List (List GChange)))))) (mks kv_22 (ml (none : Option (List (GArr2_Int × (List (List GChange))))))) (mds (slD (encL enc_GChange)) (ml (none : Option (List (GArr2_Int × (List (List GChange)))))))))]), (.box [(.i p1), (.i p2)])], 0⟩ <| Sx <| Wz (.agg [(.i p0.Cap), (.l (encL enc_GChange) p0.Views), (.l (encL enc_GChange) p0.Pending), (.d (.mp (Option.isNone p0.Links) (mks kv_22 (ml p0.Links)) (mds (slD (encL enc_GChange)) (ml p0.Links))))]) (Old rfl) ?_
    obtain ⟨r32_3, hr32_3, hm⟩ := bnd hm
    refine Wy (.agg [(.i r32_3.Cap), (.own 3), (.own 4), (.own 5)]) [(3, (.arr 34 1 (List.length r32_3.Views) (flatD (encL enc_GChange) r32_3.Views))), (4, (.arr 34 1 (List.length r32_3.Pending) (flatD (encL enc_GChange) r32_3.Pending))), (5, (.mp (mks kv_22 (ml r32_3.Links)) (mds (slD (encL enc_GChange)) (ml r32_3.Links))))] (Ocf [] [3, 4, 5] [] 0 (ok_view_Net_clone p0 r32_3 hr32_3) (fun a w => Try.call39 a w) rfl trivial) <| Wy (.tup []) [(0, (.box [(.i r32_3.Cap), (.own 3), (.own 4), (.own 5)]))] (Ost rfl) <| Nk 332 63 ⟨tp 2 (.i p2::.loc 0 0::tp 2 (.loc 1 0::tp 1 (.loc 2 0::tp 54 []))), [(.box [(.i r32_3.Cap), (.own 3), (.own 4), (.own 5)]), (.box [(.i 0), (.d .nil), (.d .nil), (.d (.mp (Option.isNone (none : Option (List (GArr2_Int × (List (List GChange)))))) (mks kv_22 (ml (none : Option (List (GArr2_Int × (List (List GChange))))))) (mds (slD (encL enc_GChange)) (ml (none : Option (List (GArr2_Int × (List (List GChange)))))))))]), (.box [(.i p1), (.i p2)]), (.arr 34 1 (List.length r32_3.Views) (flatD (encL enc_GChange) r32_3.Views)), (.arr 34 1 (List.length r32_3.Pending) (flatD (encL enc_GChange) r32_3.Pending)), (.mp (mks kv_22 (ml r32_3.Links)) (mds (slD (encL enc_GChange)) (ml r32_3.Links)))], 0⟩ <| Sx <| Wz (.loc 0 3) (Ofa rfl) <| Wz (.own 5) (Old rfl) <| Wz (.agg [(.i p1), (.i p2)]) (Old rfl) <| Wz (.l (encL enc_GChange) (Option.getD (mlook (ml r32_3.Links) (GArr2_Int.mk p1 p2)) ([] : List (List GChange)))) (Mlk (GArr2_Int.mk p1 p2) (ml r32_3.Links) ([] : List (List GChange)) keyOK_22 (ev := (slD (encL enc_GChange))) rfl slD_zero) <| Wm (.l (encL enc_GChange) (Option.getD (mlook (ml r32_3.Links) (GArr2_Int.mk p1 p2)) ([] : List (List GChange)))) rfl <| Nk 844 63 ⟨tp 2 (.i p2::.loc 0 0::tp 2 (.loc 1 0::tp 1 (.loc 2 0::.l (encL enc_GChange) (Option.getD (mlook (ml r32_3.Links) (GArr2_Int.mk p1 p2)) ([] : List (List GChange)))::tp 53 []))), [(.box [(.i r32_3.Cap), (.own 3), (.own 4), (.own 5)]), (.box [(.i 0), (.d .nil), (.d .nil), (.d (.mp (Option.isNone (none : Option (List (GArr2_Int × (List (List GChange)))))) (mks kv_22 (ml (none : Option (List (GArr2_Int × (List (List GChange))))))) (mds (slD (encL enc_GChange)) (ml (none : Option (List (GArr2_Int × (List (List GChange)))))))))]), (.box [(.i p1), (.i p2)]), (.arr 34 1 (List.length r32_3.Views) (flatD (encL enc_GChange) r32_3.Views)), (.arr 34 1 (List.length r32_3.Pending) (flatD (encL enc_GChange) r32_3.Pending)), (.mp (mks kv_22 (ml r32_3.Links)) (mds (slD (encL enc_GChange)) (ml r32_3.Links)))], 0⟩ <| Sq <| Adr <| Wz (.loc 0 1) (Ofa rfl) <| Wz (.own 3) (Old rfl) ?_
    refine Wm (.i p2) rfl <| Wz (.loc 0 1) (Ofa rfl) <| Wz (.own 3) (Old rfl) <| Wm (.i p2) rfl ?_
    obtain ⟨x43_4, hx43_4, hm⟩ := bnd hm
    obtain ⟨hx43_4i, hx43_4g⟩ := geti_some hx43_4
    refine Wz (.loc 3 ((Int.toNat p2) * 1)) (Oia rfl (encL_len (enc := enc_GChange)) hx43_4i hx43_4g) <| Wz (.l enc_GChange x43_4) (Lr1 rfl (encL_len (enc := enc_GChange)) hx43_4g) <| Wm (.l (encL enc_GChange) (Option.getD (mlook (ml r32_3.Links) (GArr2_Int.mk p1 p2)) ([] : List (List GChange)))) rfl ?_
    obtain ⟨x46_4, hx46_4, hm⟩ := bnd hm
    obtain ⟨hx46_4i, hx46_4g⟩ := geti_some hx46_4
    refine Wz (.d (.ref (List.drop ((Int.toNat 0) * 1) (flatD (encL enc_GChange) (Option.getD (mlook (ml r32_3.Links) (GArr2_Int.mk p1 p2)) ([] : List (List GChange))))))) (Oia rfl (encL_len (enc := enc_GChange)) hx46_4i hx46_4g) <| Wz (.l enc_GChange x46_4) (Lf1 rfl (encL_len (enc := enc_GChange)) hx46_4g) ?_
    obtain ⟨r48_4, hr48_4, hm⟩ := bnd hm
    refine Wz (.l enc_GChange r48_4) (Ocf [] [] [] 0 (ok_tally_Merge x43_4 x46_4 r48_4 hr48_4) (fun a w => Try.call31 a w) rfl trivial) ?_
    obtain ⟨x49_4, hx49_4, hm⟩ := bnd hm
    obtain ⟨hx49_4i, hx49_4g⟩ := geti_some hx49_4
    refine Wz (.loc 3 ((Int.toNat p2) * 1)) (Oia rfl (encL_len (enc := enc_GChange)) hx49_4i hx49_4g) <| Wy (.tup []) [(3, (.arr 34 1 (List.length (List.set r32_3.Views (Int.toNat p2) r48_4)) (flatD (encL enc_GChange) (List.set r32_3.Views (Int.toNat p2) r48_4))))] (Osr 0 rfl (encL_len (enc := enc_GChange)) hx49_4g r48_4) <| Wdr <| Tk 840 63 ⟨tp 3 (.loc 0 0::tp 2 (.loc 1 0::tp 1 (.loc 2 0::.l (encL enc_GChange) (Option.getD (mlook (ml r32_3.Links) (GArr2_Int.mk p1 p2)) ([] : List (List GChange)))::tp 53 []))), [(.box [(.i r32_3.Cap), (.own 3), (.own 4), (.own 5)]), (.box [(.i 0), (.d .nil), (.d .nil), (.d (.mp (Option.isNone (none : Option (List (GArr2_Int × (List (List GChange)))))) (mks kv_22 (ml (none : Option (List (GArr2_Int × (List (List GChange))))))) (mds (slD (encL enc_GChange)) (ml (none : Option (List (GArr2_Int × (List (List GChange)))))))))]), (.box [(.i p1), (.i p2)]), (.arr 34 1 (List.length (List.set r32_3.Views (Int.toNat p2) r48_4)) (flatD (encL enc_GChange) (List.set r32_3.Views (Int.toNat p2) r48_4))), (.arr 34 1 (List.length r32_3.Pending) (flatD (encL enc_GChange) r32_3.Pending)), (.mp (mks kv_22 (ml r32_3.Links)) (mds (slD (encL enc_GChange)) (ml r32_3.Links)))], 0⟩ <| Sq <| Adr <| Wz (.loc 0 3) (Ofa rfl) <| Wz (.own 5) (Old rfl) <| Wz (.agg [(.i p1), (.i p2)]) (Old rfl) <| Wm (.l (encL enc_GChange) (Option.getD (mlook (ml r32_3.Links) (GArr2_Int.mk p1 p2)) ([] : List (List GChange)))) rfl ?_
    obtain ⟨s54_5, hs54_5, hm⟩ := bnd hm; obtain ⟨hs54_5a, hs54_5b, hs54_5c, hs54_5d, hs54_5e⟩ := cut_some hs54_5
    refine Wz (.l (encL enc_GChange) s54_5) (op_cut rfl (e := 34) (sz := 1) (by kernel_rfl) (l := (Option.getD (mlook (ml r32_3.Links) (GArr2_Int.mk p1 p2)) ([] : List (List GChange)))) (enc := (encL enc_GChange)) (by kernel_rfl) (encL_len (enc := enc_GChange)) (a := (Int.toNat 1)) (b := (Int.toNat ((List.length (Option.getD (mlook (ml r32_3.Links) (GArr2_Int.mk p1 p2)) ([] : List (List GChange))) : Nat) : Int))) (⟨.i64, 1, by kernel_rfl, hs54_5a⟩) (by exact rfl) hs54_5c hs54_5d hs54_5e) ?_
    obtain ⟨r55_5, hr55_5, hm⟩ := bnd hm
    refine Wy (.l (encL enc_GChange) r55_5) [(6, (.arr 34 1 (List.length r55_5) (flatD (encL enc_GChange) r55_5))), (6, (.fro 34 1 (List.length r55_5) (flatD (encL enc_GChange) r55_5)))] (Ofz [6] (.own 6) [(6, (.arr 34 1 (List.length r55_5) (flatD (encL enc_GChange) r55_5)))] (Ocf [] [6] [] 0 (ok_slices_Clone_tally_Change_tally_Change s54_5 r55_5 hr55_5) (fun a w => Try.call43 a w) rfl trivial)) <| Wy (.tup []) [(5, (.mp (mks kv_22 (mput (ml r32_3.Links) (GArr2_Int.mk p1 p2) r55_5)) (mds (slD (encL enc_GChange)) (mput (ml r32_3.Links) (GArr2_Int.mk p1 p2) r55_5))))] (Mmu (GArr2_Int.mk p1 p2) r55_5 (ml r32_3.Links) keyOK_22 (ev := (slD (encL enc_GChange))) (id := 5) (z := .slice none 0 0) rfl (by kernel_rfl) (by kernel_rfl)) <| Wdr <| Tk 840 63 ⟨tp 3 (.loc 0 0::tp 2 (.loc 1 0::tp 1 (.loc 2 0::.l (encL enc_GChange) (Option.getD (mlook (ml r32_3.Links) (GArr2_Int.mk p1 p2)) ([] : List (List GChange)))::tp 53 []))), [(.box [(.i r32_3.Cap), (.own 3), (.own 4), (.own 5)]), (.box [(.i 0), (.d .nil), (.d .nil), (.d (.mp (Option.isNone (none : Option (List (GArr2_Int × (List (List GChange)))))) (mks kv_22 (ml (none : Option (List (GArr2_Int × (List (List GChange))))))) (mds (slD (encL enc_GChange)) (ml (none : Option (List (GArr2_Int × (List (List GChange)))))))))]), (.box [(.i p1), (.i p2)]), (.arr 34 1 (List.length (List.set r32_3.Views (Int.toNat p2) r48_4)) (flatD (encL enc_GChange) (List.set r32_3.Views (Int.toNat p2) r48_4))), (.arr 34 1 (List.length r32_3.Pending) (flatD (encL enc_GChange) r32_3.Pending)), (.mp (mks kv_22 (mput (ml r32_3.Links) (GArr2_Int.mk p1 p2) r55_5)) (mds (slD (encL enc_GChange)) (mput (ml r32_3.Links) (GArr2_Int.mk p1 p2) r55_5))), .gone], 0⟩ <| Sq <| Sx <| Wm (.l (encL enc_GChange) (Option.getD (mlook (ml r32_3.Links) (GArr2_Int.mk p1 p2)) ([] : List (List GChange)))) rfl ?_
    obtain ⟨v57_2, hv57_2, hm⟩ := bnd hm; replace hv57_2 := Option.some.inj hv57_2
    refine Wz (.i v57_2) (Ocs (congrArg (fun z => A.d (.lit (.int .i64 z))) hv57_2) (Oln rfl)) <| Wz (.b (decide (v57_2 = 1))) (Obn rfl (fun _ => hb_eql (k := .i64))) <| Nk 288230376151712072 63 ⟨tp 3 (.loc 0 0::tp 2 (.loc 1 0::tp 1 (.loc 2 0::tp 49 (.b (decide (v57_2 = 1))::tp 4 [])))), [(.box [(.i r32_3.Cap), (.own 3), (.own 4), (.own 5)]), (.box [(.i 0), (.d .nil), (.d .nil), (.d (.mp (Option.isNone (none : Option (List (GArr2_Int × (List (List GChange)))))) (mks kv_22 (ml (none : Option (List (GArr2_Int × (List (List GChange))))))) (mds (slD (encL enc_GChange)) (ml (none : Option (List (GArr2_Int × (List (List GChange)))))))))]), (.box [(.i p1), (.i p2)]), (.arr 34 1 (List.length (List.set r32_3.Views (Int.toNat p2) r48_4)) (flatD (encL enc_GChange) (List.set r32_3.Views (Int.toNat p2) r48_4))), (.arr 34 1 (List.length r32_3.Pending) (flatD (encL enc_GChange) r32_3.Pending)), (.mp (mks kv_22 (mput (ml r32_3.Links) (GArr2_Int.mk p1 p2) r55_5)) (mds (slD (encL enc_GChange)) (mput (ml r32_3.Links) (GArr2_Int.mk p1 p2) r55_5))), .gone], 0⟩ ?_
    rcases tf_ (decide (v57_2 = 1)) with hc58_10 | hc58_10
    ·
     replace hm := cT hc58_10 hm
     refine AiT hc58_10 <| Tx <| Wz (.loc 0 3) (Ofa rfl) <| Wz (.own 5) (Old rfl) <| Wz (.agg [(.i p1), (.i p2)]) (Old rfl) <| Wy (.tup []) [(5, (.mp (mks kv_22 (mdel (mput (ml r32_3.Links) (GArr2_Int.mk p1 p2) r55_5) (GArr2_Int.mk p1 p2))) (mds (slD (encL enc_GChange)) (mdel (mput (ml r32_3.Links) (GArr2_Int.mk p1 p2) r55_5) (GArr2_Int.mk p1 p2)))))] (Mmd (GArr2_Int.mk p1 p2) (mput (ml r32_3.Links) (GArr2_Int.mk p1 p2) r55_5) keyOK_22 (ev := (slD (encL enc_GChange))) (id := 5) (z := .slice none 0 0) rfl (by kernel_rfl) (by kernel_rfl)) <| Nk 72 59 ⟨tp 3 (.loc 0 0::tp 2 (.loc 1 0::tp 56 [])), [(.box [(.i r32_3.Cap), (.own 3), (.own 4), (.own 5)]), (.box [(.i 0), (.d .nil), (.d .nil), (.d (.mp (Option.isNone (none : Option (List (GArr2_Int × (List (List GChange)))))) (mks kv_22 (ml (none : Option (List (GArr2_Int × (List (List GChange))))))) (mds (slD (encL enc_GChange)) (ml (none : Option (List (GArr2_Int × (List (List GChange)))))))))]), .gone, (.arr 34 1 (List.length (List.set r32_3.Views (Int.toNat p2) r48_4)) (flatD (encL enc_GChange) (List.set r32_3.Views (Int.toNat p2) r48_4))), (.arr 34 1 (List.length r32_3.Pending) (flatD (encL enc_GChange) r32_3.Pending)), (.mp (mks kv_22 (mdel (mput (ml r32_3.Links) (GArr2_Int.mk p1 p2) r55_5) (GArr2_Int.mk p1 p2))) (mds (slD (encL enc_GChange)) (mdel (mput (ml r32_3.Links) (GArr2_Int.mk p1 p2) r55_5) (GArr2_Int.mk p1 p2)))), .gone], 0⟩ <| Sx <| Wz (.agg [(.i r32_3.Cap), (.own 3), (.own 4), (.own 5)]) (Old rfl) <| Wy (.tup []) [(1, (.box [(.i r32_3.Cap), (.own 3), (.own 4), (.own 5)]))] (Ost rfl) <| Wm (.i 0) rfl <| Nn <| Afz [3, 4, 5] ⟨tp 3 (.loc 0 0::tp 2 (.loc 1 0::.i 0::tp 54 (.agg [(.i r32_3.Cap), (.l (encL enc_GChange) (List.set r32_3.Views (Int.toNat p2) r48_4)), (.l (encL enc_GChange) r32_3.Pending), (.d (.mp (Option.isNone (some (mdel (mput (ml r32_3.Links) (GArr2_Int.mk p1 p2) r55_5) (GArr2_Int.mk p1 p2)))) (mks kv_22 (ml (some (mdel (mput (ml r32_3.Links) (GArr2_Int.mk p1 p2) r55_5) (GArr2_Int.mk p1 p2))))) (mds (slD (encL enc_GChange)) (ml (some (mdel (mput (ml r32_3.Links) (GArr2_Int.mk p1 p2) r55_5) (GArr2_Int.mk p1 p2)))))))]::[]))), [(.box [(.i r32_3.Cap), (.l (encL enc_GChange) (List.set r32_3.Views (Int.toNat p2) r48_4)), (.l (encL enc_GChange) r32_3.Pending), (.d (.mp (Option.isNone (some (mdel (mput (ml r32_3.Links) (GArr2_Int.mk p1 p2) r55_5) (GArr2_Int.mk p1 p2)))) (mks kv_22 (ml (some (mdel (mput (ml r32_3.Links) (GArr2_Int.mk p1 p2) r55_5) (GArr2_Int.mk p1 p2))))) (mds (slD (encL enc_GChange)) (ml (some (mdel (mput (ml r32_3.Links) (GArr2_Int.mk p1 p2) r55_5) (GArr2_Int.mk p1 p2)))))))]), (.box [(.i r32_3.Cap), (.l (encL enc_GChange) (List.set r32_3.Views (Int.toNat p2) r48_4)), (.l (encL enc_GChange) r32_3.Pending), (.d (.mp (Option.isNone (some (mdel (mput (ml r32_3.Links) (GArr2_Int.mk p1 p2) r55_5) (GArr2_Int.mk p1 p2)))) (mks kv_22 (ml (some (mdel (mput (ml r32_3.Links) (GArr2_Int.mk p1 p2) r55_5) (GArr2_Int.mk p1 p2))))) (mds (slD (encL enc_GChange)) (ml (some (mdel (mput (ml r32_3.Links) (GArr2_Int.mk p1 p2) r55_5) (GArr2_Int.mk p1 p2)))))))]), .gone, (.fro 34 1 (List.length (List.set r32_3.Views (Int.toNat p2) r48_4)) (flatD (encL enc_GChange) (List.set r32_3.Views (Int.toNat p2) r48_4))), (.fro 34 1 (List.length r32_3.Pending) (flatD (encL enc_GChange) r32_3.Pending)), .gone, .gone], 0⟩ <| Rt ?_
     obtain rfl := Option.some.inj hm
     exact ret_i []
    ·
     replace hm := cF hc58_10 hm
     refine AiF hc58_10 <| Sk <| Tk 72 59 ⟨tp 3 (.loc 0 0::tp 2 (.loc 1 0::tp 56 [])), [(.box [(.i r32_3.Cap), (.own 3), (.own 4), (.own 5)]), (.box [(.i 0), (.d .nil), (.d .nil), (.d (.mp (Option.isNone (none : Option (List (GArr2_Int × (List (List GChange)))))) (mks kv_22 (ml (none : Option (List (GArr2_Int × (List (List GChange))))))) (mds (slD (encL enc_GChange)) (ml (none : Option (List (GArr2_Int × (List (List GChange)))))))))]), .gone, (.arr 34 1 (List.length (List.set r32_3.Views (Int.toNat p2) r48_4)) (flatD (encL enc_GChange) (List.set r32_3.Views (Int.toNat p2) r48_4))), (.arr 34 1 (List.length r32_3.Pending) (flatD (encL enc_GChange) r32_3.Pending)), (.mp (mks kv_22 (mput (ml r32_3.Links) (GArr2_Int.mk p1 p2) r55_5)) (mds (slD (encL enc_GChange)) (mput (ml r32_3.Links) (GArr2_Int.mk p1 p2) r55_5))), .gone], 0⟩ <| Sx <| Wz (.agg [(.i r32_3.Cap), (.own 3), (.own 4), (.own 5)]) (Old rfl) <| Wy (.tup []) [(1, (.box [(.i r32_3.Cap), (.own 3), (.own 4), (.own 5)]))] (Ost rfl) <| Wm (.i 0) rfl <| Nn <| Afz [3, 4, 5] ⟨tp 3 (.loc 0 0::tp 2 (.loc 1 0::.i 0::tp 54 (.agg [(.i r32_3.Cap), (.l (encL enc_GChange) (List.set r32_3.Views (Int.toNat p2) r48_4)), (.l (encL enc_GChange) r32_3.Pending), (.d (.mp (Option.isNone (some (mput (ml r32_3.Links) (GArr2_Int.mk p1 p2) r55_5))) (mks kv_22 (ml (some (mput (ml r32_3.Links) (GArr2_Int.mk p1 p2) r55_5)))) (mds (slD (encL enc_GChange)) (ml (some (mput (ml r32_3.Links) (GArr2_Int.mk p1 p2) r55_5))))))]::[]))), [(.box [(.i r32_3.Cap), (.l (encL enc_GChange) (List.set r32_3.Views (Int.toNat p2) r48_4)), (.l (encL enc_GChange) r32_3.Pending), (.d (.mp (Option.isNone (some (mput (ml r32_3.Links) (GArr2_Int.mk p1 p2) r55_5))) (mks kv_22 (ml (some (mput (ml r32_3.Links) (GArr2_Int.mk p1 p2) r55_5)))) (mds (slD (encL enc_GChange)) (ml (some (mput (ml r32_3.Links) (GArr2_Int.mk p1 p2) r55_5))))))]), (.box [(.i r32_3.Cap), (.l (encL enc_GChange) (List.set r32_3.Views (Int.toNat p2) r48_4)), (.l (encL enc_GChange) r32_3.Pending), (.d (.mp (Option.isNone (some (mput (ml r32_3.Links) (GArr2_Int.mk p1 p2) r55_5))) (mks kv_22 (ml (some (mput (ml r32_3.Links) (GArr2_Int.mk p1 p2) r55_5)))) (mds (slD (encL enc_GChange)) (ml (some (mput (ml r32_3.Links) (GArr2_Int.mk p1 p2) r55_5))))))]), .gone, (.fro 34 1 (List.length (List.set r32_3.Views (Int.toNat p2) r48_4)) (flatD (encL enc_GChange) (List.set r32_3.Views (Int.toNat p2) r48_4))), (.fro 34 1 (List.length r32_3.Pending) (flatD (encL enc_GChange) r32_3.Pending)), .gone, .gone], 0⟩ <| Rt ?_
     obtain rfl := Option.some.inj hm
     exact ret_i []

theorem ok_front_Leads (p0 : Int) (p1 : Int) (r : Bool) (h : m_front_Leads p0 p1 = some r) : GCall Try.prog 70 [(.i p0), (.i p1)] [] (.b r) [] := by
 refine GCall.of_body (n := 16) (rs := [(.tmp 4)]) Try.func70 rfl rfl rfl <| Ato ⟨.i p0::.i p1::tu 14 [], [], 0⟩ ?_
 have hm := h
 unfold m_front_Leads at hm
 refine Sx <| Wm (.b false) rfl <| Nk 3 0 ⟨.i p0::.i p1::tp 14 [], [], 0⟩ <| Sx <| Wm (.i p0) rfl <| Wz (.b (decide ((0 : Int) ≤ p0))) (Obn rfl (fun _ => hb_leq (k := .i64))) ?_
 rcases tf_ (decide ((0 : Int) ≤ p0)) with hq7_0 | hq7_0
 ·
  replace hm := cT hq7_0 hm
  refine Wz (.b true) (Oq hq7_0 rfl) <| Wm (.i p0) rfl <| Wm (.i p1) rfl <| Wz (.b (decide (p0 ≤ p1))) (Obn rfl (fun _ => hb_leq (k := .i64))) <| Wz (.b (decide (p0 ≤ p1))) (OpT rfl) ?_
  rcases tf_ (decide (p0 ≤ p1)) with hq12_0 | hq12_0
  ·
   replace hm := cT hq12_0 hm
   refine Wz (.b true) (Oq hq12_0 rfl) <| Wm (.i p1) rfl <| Wz (.b (decide (p1 < 4))) (Obn rfl (fun _ => hb_lss (k := .i64))) <| Wz (.b (decide (p1 < 4))) (OpT rfl) <| Wm (.b (decide (p1 < 4))) rfl <| Nn <| Rt ?_
   obtain rfl := Option.some.inj hm
   exact ret_i []
  ·
   replace hm := cF hq12_0 hm
   refine Wz (.b false) (Oq hq12_0 rfl) <| Wn <| Wn <| Wz (.b false) (OpF rfl) <| Wm (.b false) rfl <| Nn <| Rt ?_
   obtain rfl := Option.some.inj hm
   exact ret_i []
 ·
  replace hm := cF hq7_0 hm
  refine Wz (.b false) (Oq hq7_0 rfl) <| Wn <| Wn <| Wn <| Wz (.b false) (OpF rfl) <| Wm (.b false) rfl <| Wn <| Wn <| Wz (.b false) (OpF rfl) <| Wm (.b false) rfl <| Nn <| Rt ?_
  obtain rfl := Option.some.inj hm
  exact ret_i []

theorem ok_front_Of (p0 : (List GChange)) (p1 : Int) (r : Int) (h : m_front_Of p0 p1 = some r) : GCall Try.prog 48 [(.l enc_GChange p0), (.i p1)] [] (.i r) [] := by
 refine GCall.of_body (n := 35) (rs := [(.tmp 4)]) Try.func48 rfl rfl rfl <| Ato ⟨.l enc_GChange p0::.i p1::tu 33 [], [], 0⟩ ?_
 have hm := h
 unfold m_front_Of at hm
 refine Sx <| Wm (.i 0) rfl <| Nk 3 0 ⟨.l enc_GChange p0::.i p1::tp 33 [], [], 0⟩ <| Sx <| Wm (.i 1099511627777) rfl <| Nk 35 0 ⟨.l enc_GChange p0::.i p1::tp 3 (.i 1099511627777::tp 29 []), [], 0⟩ <| Sq <| Sx <| Wm (.l enc_GChange p0) rfl ?_
 obtain ⟨r9_0, hr9_0, hm⟩ := bnd hm
 refine Wz (.l enc_GChange r9_0) (Ocf [] [] [] 0 (ok_tally_Normal p0 r9_0 hr9_0) (fun a w => Try.call30 a w) rfl trivial) <| Wz (.i ((List.length r9_0 : Nat) : Int)) (Oln rfl) <| Wm (.i 0) rfl <| Nk 3618 0 ⟨tp 1 (.i p1::tp 3 (.i 1099511627777::tp 3 (.l enc_GChange r9_0::.i ((List.length r9_0 : Nat) : Int)::.i 0::tp 23 []))), [], 0⟩ <| Bk ?_
 refine AWP.loopI (α := Nat × Int × Int)
   (fun (fu_1, y5_1, y11_1) => (⟨tp 1 (.i p1::tp 3 (.i y5_1::tp 3 (.l enc_GChange r9_0::.i ((List.length r9_0 : Nat) : Int)::.i y11_1::tp 23 []))), [], 0⟩ : St))
   (fun (fu_1, y5_1, y11_1) => m_front_Of_l1 p1 r9_0 fu_1 y5_1 y11_1 = some r)
   (fun (fu_1, y5_1, y11_1) => fu_1) (1152921504606846976, 1099511627777, 0)
   (Weak.toK 3618 0 0 []) hm ?_
 rintro ⟨fu_1, y5_1, y11_1⟩ n_1 hm ih_1
 try dsimp only at hm ih_1 ⊢
 cases fu_1 with
 | zero => exact absurd hm (by unfold m_front_Of_l1; simp)
 | succ fu_1 =>
  unfold m_front_Of_l1 at hm
  refine Sx <| Wz (.b (decide (y11_1 < ((List.length r9_0 : Nat) : Int)))) (Obn rfl (fun _ => hb_lss (k := .i64))) <| Nk 7714 0 ⟨tp 1 (.i p1::tp 3 (.i y5_1::tp 3 (.l enc_GChange r9_0::.i ((List.length r9_0 : Nat) : Int)::.i y11_1::.b (decide (y11_1 < ((List.length r9_0 : Nat) : Int)))::tp 22 []))), [], 0⟩ <| Sq ?_
  rcases tf_ (decide (y11_1 < ((List.length r9_0 : Nat) : Int))) with hc12_6 | hc12_6
  ·
   replace hm := cT hc12_6 hm
   refine AiT hc12_6 <| Sk <| Tk 3618 0 ⟨tp 1 (.i p1::tp 3 (.i y5_1::tp 3 (.l enc_GChange r9_0::.i ((List.length r9_0 : Nat) : Int)::.i y11_1::tp 23 []))), [], 0⟩ <| Sq <| Bk <| Sx ?_
   obtain ⟨x13_2, hx13_2, hm⟩ := bnd hm
   obtain ⟨hx13_2i, hx13_2g⟩ := geti_some hx13_2
   refine Wz (.d (.ref (List.drop ((Int.toNat y11_1) * 3) (flatD enc_GChange r9_0)))) (Oia rfl enc_GChange_len hx13_2i hx13_2g) <| Wz (.agg [(.i x13_2.Loc), (.i x13_2.Time), (.i x13_2.N)]) (Lf rfl enc_GChange_len hx13_2g) <| Wy (.loc 0 0) [(0, (.box [(.i 0), (.i 0), (.i 0)]))] (Oal rfl) <| Wy (.tup []) [(0, (.box [(.i x13_2.Loc), (.i x13_2.Time), (.i x13_2.N)]))] (Ost rfl) <| Nk 3746 1 ⟨tp 1 (.i p1::tp 3 (.i y5_1::tp 1 (.loc 0 0::tp 1 (.l enc_GChange r9_0::.i ((List.length r9_0 : Nat) : Int)::.i y11_1::tp 23 [])))), [(.box [(.i x13_2.Loc), (.i x13_2.Time), (.i x13_2.N)])], 0⟩ ?_
   refine AWP.cutJ (α := Unit) (fun x => match x with | () => (⟨tp 1 (.i p1::tp 3 (.i y5_1::tp 1 (.loc 0 0::tp 1 (.l enc_GChange r9_0::.i ((List.length r9_0 : Nat) : Int)::.i y11_1::tp 17 (.b false::tp 5 []))))), [(.box [(.i x13_2.Loc), (.i x13_2.Time), (.i x13_2.N)])], 0⟩ : St)) (fun x => match x with | () => m_front_Of_j4 y11_1 y5_1 (fun y5_1 y11_1 => m_front_Of_l1 p1 r9_0 fu_1 y5_1 y11_1) = some r) ?_ (fun J4 => ?_)
   ·
    rintro ⟨⟩ hm
    try dsimp only at hm ⊢
    unfold m_front_Of_j4 at hm
    refine AWP.if_ false (by kernel_rfl) <| Sk <| Ino <| Tk 3618 0 ⟨tp 1 (.i p1::tp 3 (.i y5_1::tp 3 (.l enc_GChange r9_0::.i ((List.length r9_0 : Nat) : Int)::.i y11_1::tp 23 []))), [.gone], 0⟩ <| Tx <| Wz (.i (W6 (y11_1 + 1))) (Obn rfl (fun _ => hb_add (k := .i64))) <| Wm (.i (W6 (y11_1 + 1))) rfl <| Wn0 <| RoundK.normal ?_
    exact Rounds.weak (Weak.toK 3618 0 0 []) (ih_1 (fu_1, y5_1, (W6 (y11_1 + 1))) hm (Nat.lt_succ_self _))
   refine Sx <| Wz (.loc 0 2) (Ofa rfl) <| Wz (.i x13_2.N) (Old rfl) <| Wz (.b (decide ((0 : Int) < x13_2.N))) (Obn rfl (fun _ => hb_gtr (k := .i64))) ?_
   rcases tf_ (decide ((0 : Int) < x13_2.N)) with hq18_3 | hq18_3
   ·
    replace hm := cT hq18_3 hm
    refine Wz (.b true) (Oq hq18_3 rfl) <| Wz (.loc 0 0) (Ofa rfl) <| Wz (.i x13_2.Loc) (Old rfl) <| Wm (.i p1) rfl ?_
    obtain ⟨r22_3, hr22_3, hm⟩ := bnd hm
    refine Wz (.b r22_3) (Ocf [] [] [] 0 (ok_front_Leads x13_2.Loc p1 r22_3 hr22_3) (fun a w => Try.call70 a w) rfl trivial) <| Wz (.b r22_3) (OpT rfl) ?_
    rcases tf_ r22_3 with hq24_3 | hq24_3
    ·
     replace hm := cT hq24_3 hm
     refine Wz (.b true) (Oq hq24_3 rfl) <| Wz (.loc 0 1) (Ofa rfl) <| Wz (.i x13_2.Time) (Old rfl) <| Wm (.i y5_1) rfl <| Wz (.b (decide (x13_2.Time < y5_1))) (Obn rfl (fun _ => hb_lss (k := .i64))) <| Wz (.b (decide (x13_2.Time < y5_1))) (OpT rfl) <| Nk 536874658 1 ⟨tp 1 (.i p1::tp 3 (.i y5_1::tp 1 (.loc 0 0::tp 1 (.l enc_GChange r9_0::.i ((List.length r9_0 : Nat) : Int)::.i y11_1::tp 17 (.b (decide (x13_2.Time < y5_1))::tp 5 []))))), [(.box [(.i x13_2.Loc), (.i x13_2.Time), (.i x13_2.N)])], 0⟩ ?_
     rcases tf_ (decide (x13_2.Time < y5_1)) with hc29_7 | hc29_7
     ·
      replace hm := cT hc29_7 hm
      refine AiT hc29_7 <| Tx <| Wz (.loc 0 1) (Ofa rfl) <| Wz (.i x13_2.Time) (Old rfl) <| Wm (.i x13_2.Time) rfl <| Wn0 <| Ino <| Tk 3618 0 ⟨tp 1 (.i p1::tp 3 (.i x13_2.Time::tp 3 (.l enc_GChange r9_0::.i ((List.length r9_0 : Nat) : Int)::.i y11_1::tp 23 []))), [.gone], 0⟩ <| Tx <| Wz (.i (W6 (y11_1 + 1))) (Obn rfl (fun _ => hb_add (k := .i64))) <| Wm (.i (W6 (y11_1 + 1))) rfl <| Wn0 <| RoundK.normal ?_
      exact Rounds.weak (Weak.toK 3618 0 0 []) (ih_1 (fu_1, x13_2.Time, (W6 (y11_1 + 1))) hm (Nat.lt_succ_self _))
     ·
      replace hm := cF hc29_7 hm
      refine AiF hc29_7 <| Sk <| Ino <| Tk 3618 0 ⟨tp 1 (.i p1::tp 3 (.i y5_1::tp 3 (.l enc_GChange r9_0::.i ((List.length r9_0 : Nat) : Int)::.i y11_1::tp 23 []))), [.gone], 0⟩ <| Tx <| Wz (.i (W6 (y11_1 + 1))) (Obn rfl (fun _ => hb_add (k := .i64))) <| Wm (.i (W6 (y11_1 + 1))) rfl <| Wn0 <| RoundK.normal ?_
      exact Rounds.weak (Weak.toK 3618 0 0 []) (ih_1 (fu_1, y5_1, (W6 (y11_1 + 1))) hm (Nat.lt_succ_self _))
    ·
     replace hm := cF hq24_3 hm
     refine Wz (.b false) (Oq hq24_3 rfl) <| Wn <| Wn <| Wn <| Wn <| Wz (.b false) (OpF rfl) <| Nn ?_
     exact AWP.weak (Weak.toK 536874658 0 0 [0]) (J4 () hm)
   ·
    replace hm := cF hq18_3 hm
    refine Wz (.b false) (Oq hq18_3 rfl) <| Wn <| Wn <| Wn <| Wn <| Wz (.b false) (OpF rfl) <| Wm (.b false) rfl <| Wn <| Wn <| Wn <| Wn <| Wz (.b false) (OpF rfl) <| Nn ?_
    exact AWP.weak (Weak.toK 536874658 0 0 [0]) (J4 () hm)
  ·
   replace hm := cF hc12_6 hm
   refine AiF hc12_6 <| AWP.exit <| Then.exit <| RoundK.exit <| InBlock.same <| Tk 32 0 ⟨tp 5 (.i y5_1::tp 29 []), [], 0⟩ <| Sx <| Wm (.i y5_1) rfl <| Wz (.i (max y5_1 0)) (op_bi2 rfl (a1 := .int .i64 y5_1) (a2 := .int .i64 0) (by kernel_rfl) (by kernel_rfl) hb_max) <| Wm (.i (max y5_1 0)) rfl <| Nn <| Rt ?_
   obtain rfl := Option.some.inj hm
   exact ret_i []

theorem ok_view_Net_Front (p0 : GNet) (p1 : Int) (p2 : Int) (r : Int) (h : m_view_Net_Front p0 p1 p2 = some r) : GCall Try.prog 23 [(.agg [(.i p0.Cap), (.l (encL enc_GChange) p0.Views), (.l (encL enc_GChange) p0.Pending), (.d (.mp (Option.isNone p0.Links) (mks kv_22 (ml p0.Links)) (mds (slD (encL enc_GChange)) (ml p0.Links))))]), (.i p1), (.i p2)] [] (.i r) [] := by
 refine GCall.of_body (n := 18) (rs := [(.tmp 6)]) Try.func23 rfl rfl rfl <| Ato ⟨.agg [(.i p0.Cap), (.l (encL enc_GChange) p0.Views), (.l (encL enc_GChange) p0.Pending), (.d (.mp (Option.isNone p0.Links) (mks kv_22 (ml p0.Links)) (mds (slD (encL enc_GChange)) (ml p0.Links))))]::.i p1::.i p2::tu 15 [], [], 0⟩ ?_
 have hm := h
 unfold m_view_Net_Front at hm
 refine Sx <| Wy (.loc 0 0) [(0, (.box [(.i p0.Cap), (.l (encL enc_GChange) p0.Views), (.l (encL enc_GChange) p0.Pending), (.d (.mp (Option.isNone p0.Links) (mks kv_22 (ml p0.Links)) (mds (slD (encL enc_GChange)) (ml p0.Links))))]))] (Obx rfl) <| Wm (.i 0) rfl <| Nk 14 1 ⟨tp 1 (.i p1::.i p2::.loc 0 0::tp 14 []), [(.box [(.i p0.Cap), (.l (encL enc_GChange) p0.Views), (.l (encL enc_GChange) p0.Pending), (.d (.mp (Option.isNone p0.Links) (mks kv_22 (ml p0.Links)) (mds (slD (encL enc_GChange)) (ml p0.Links))))])], 0⟩ <| Sq <| Sx <| Wz (.agg [(.i p0.Cap), (.l (encL enc_GChange) p0.Views), (.l (encL enc_GChange) p0.Pending), (.d (.mp (Option.isNone p0.Links) (mks kv_22 (ml p0.Links)) (mds (slD (encL enc_GChange)) (ml p0.Links))))]) (Old rfl) <| Wm (.i p1) rfl ?_
 obtain ⟨r9_0, hr9_0, hm⟩ := bnd hm
 refine Wz (.b r9_0) (Ocf [] [] [] 0 (ok_view_Net_there p0 p1 r9_0 hr9_0) (fun a w => Try.call38 a w) rfl trivial) <| Wz (.b (!r9_0)) (Ocs (by kernel_rfl) (op_un rfl (a1 := .bool r9_0) (by kernel_rfl) (fun _ => hu_not))) <| Nk 1038 1 ⟨tp 1 (.i p1::.i p2::.loc 0 0::tp 6 (.b (!r9_0)::tp 7 [])), [(.box [(.i p0.Cap), (.l (encL enc_GChange) p0.Views), (.l (encL enc_GChange) p0.Pending), (.d (.mp (Option.isNone p0.Links) (mks kv_22 (ml p0.Links)) (mds (slD (encL enc_GChange)) (ml p0.Links))))])], 0⟩ ?_
 rcases tf_ (!r9_0) with hc10_2 | hc10_2
 ·
  replace hm := cT hc10_2 hm
  refine AiT hc10_2 <| Sx <| Wm (.i 0) rfl <| Nn <| Rt <| Tr ?_
  obtain rfl := Option.some.inj hm
  exact ret_i []
 ·
  replace hm := cF hc10_2 hm
  refine AiF hc10_2 <| Sk <| Tk 14 1 ⟨tp 1 (.i p1::.i p2::.loc 0 0::tp 14 []), [(.box [(.i p0.Cap), (.l (encL enc_GChange) p0.Views), (.l (encL enc_GChange) p0.Pending), (.d (.mp (Option.isNone p0.Links) (mks kv_22 (ml p0.Links)) (mds (slD (encL enc_GChange)) (ml p0.Links))))])], 0⟩ <| Sx <| Wz (.loc 0 1) (Ofa rfl) <| Wz (.l (encL enc_GChange) p0.Views) (Old rfl) <| Wm (.i p1) rfl ?_
  obtain ⟨x14_1, hx14_1, hm⟩ := bnd hm
  obtain ⟨hx14_1i, hx14_1g⟩ := geti_some hx14_1
  refine Wz (.d (.ref (List.drop ((Int.toNat p1) * 1) (flatD (encL enc_GChange) p0.Views)))) (Oia rfl (encL_len (enc := enc_GChange)) hx14_1i hx14_1g) <| Wz (.l enc_GChange x14_1) (Lf1 rfl (encL_len (enc := enc_GChange)) hx14_1g) <| Wm (.i p2) rfl ?_
  obtain ⟨r17_1, hr17_1, hm⟩ := bnd hm
  refine Wz (.i r17_1) (Ocf [] [] [] 0 (ok_front_Of x14_1 p2 r17_1 hr17_1) (fun a w => Try.call48 a w) rfl trivial) <| Wm (.i r17_1) rfl <| Nn <| Rt ?_
  obtain rfl := Option.some.inj hm
  exact ret_i []

theorem ok_view_Net_Truth (p0 : GNet) (p1 : Int) (r : (List GChange)) (h : m_view_Net_Truth p0 p1 = some r) : GCall Try.prog 27 [(.agg [(.i p0.Cap), (.l (encL enc_GChange) p0.Views), (.l (encL enc_GChange) p0.Pending), (.d (.mp (Option.isNone p0.Links) (mks kv_22 (ml p0.Links)) (mds (slD (encL enc_GChange)) (ml p0.Links))))]), (.i p1)] [] (.l enc_GChange r) [] := by
 refine GCall.of_body (n := 37) (rs := [(.tmp 4)]) Try.func27 rfl rfl rfl <| Ato ⟨.agg [(.i p0.Cap), (.l (encL enc_GChange) p0.Views), (.l (encL enc_GChange) p0.Pending), (.d (.mp (Option.isNone p0.Links) (mks kv_22 (ml p0.Links)) (mds (slD (encL enc_GChange)) (ml p0.Links))))]::.i p1::tu 35 [], [], 0⟩ ?_
 have hm := h
 unfold m_view_Net_Truth at hm
 refine Sx <| Wy (.loc 0 0) [(0, (.box [(.i p0.Cap), (.l (encL enc_GChange) p0.Views), (.l (encL enc_GChange) p0.Pending), (.d (.mp (Option.isNone p0.Links) (mks kv_22 (ml p0.Links)) (mds (slD (encL enc_GChange)) (ml p0.Links))))]))] (Obx rfl) <| Wm (.d .nil) rfl <| Nk 6 1 ⟨tp 1 (.i p1::.loc 0 0::tp 34 []), [(.box [(.i p0.Cap), (.l (encL enc_GChange) p0.Views), (.l (encL enc_GChange) p0.Pending), (.d (.mp (Option.isNone p0.Links) (mks kv_22 (ml p0.Links)) (mds (slD (encL enc_GChange)) (ml p0.Links))))])], 0⟩ <| Sq <| Sx <| Wz (.agg [(.i p0.Cap), (.l (encL enc_GChange) p0.Views), (.l (encL enc_GChange) p0.Pending), (.d (.mp (Option.isNone p0.Links) (mks kv_22 (ml p0.Links)) (mds (slD (encL enc_GChange)) (ml p0.Links))))]) (Old rfl) <| Wm (.i p1) rfl ?_
 obtain ⟨r9_0, hr9_0, hm⟩ := bnd hm
 refine Wz (.b r9_0) (Ocf [] [] [] 0 (ok_view_Net_there p0 p1 r9_0 hr9_0) (fun a w => Try.call38 a w) rfl trivial) <| Wz (.b (!r9_0)) (Ocs (by kernel_rfl) (op_un rfl (a1 := .bool r9_0) (by kernel_rfl) (fun _ => hu_not))) <| Nk 1030 1 ⟨tp 1 (.i p1::.loc 0 0::tp 7 (.b (!r9_0)::tp 26 [])), [(.box [(.i p0.Cap), (.l (encL enc_GChange) p0.Views), (.l (encL enc_GChange) p0.Pending), (.d (.mp (Option.isNone p0.Links) (mks kv_22 (ml p0.Links)) (mds (slD (encL enc_GChange)) (ml p0.Links))))])], 0⟩ ?_
 rcases tf_ (!r9_0) with hc10_6 | hc10_6
 ·
  replace hm := cT hc10_6 hm
  refine AiT hc10_6 <| Sx <| Wm (.d .nil) rfl <| Nn <| Rt <| Tr ?_
  obtain rfl := Option.some.inj hm
  exact ret_i []
 ·
  replace hm := cF hc10_6 hm
  refine AiF hc10_6 <| Sk <| Tk 6 1 ⟨tp 1 (.i p1::.loc 0 0::tp 34 []), [(.box [(.i p0.Cap), (.l (encL enc_GChange) p0.Views), (.l (encL enc_GChange) p0.Pending), (.d (.mp (Option.isNone p0.Links) (mks kv_22 (ml p0.Links)) (mds (slD (encL enc_GChange)) (ml p0.Links))))])], 0⟩ <| Sx <| Wz (.loc 0 2) (Ofa rfl) <| Wz (.l (encL enc_GChange) p0.Pending) (Old rfl) ?_
  obtain ⟨r13_1, hr13_1, hm⟩ := bnd hm
  refine Wy (.own 1) [(1, (Ar 84 3 enc_GChange r13_1))] (Ocf [] [1] [] 0 (ok_slices_Concat_Change p0.Pending r13_1 hr13_1) (fun a w => Try.call50 a w) rfl trivial) <| Wm (.own 1) rfl <| Nk 38 3 ⟨tp 1 (.i p1::.loc 0 0::tp 2 (.own 1::tp 31 [])), [(.box [(.i p0.Cap), (.l (encL enc_GChange) p0.Views), (.l (encL enc_GChange) p0.Pending), (.d (.mp (Option.isNone p0.Links) (mks kv_22 (ml p0.Links)) (mds (slD (encL enc_GChange)) (ml p0.Links))))]), (Ar 84 3 enc_GChange r13_1)], 0⟩ <| Sq <| Sx <| Wz (.loc 0 1) (Ofa rfl) <| Wz (.l (encL enc_GChange) p0.Views) (Old rfl) <| Wz (.i ((List.length p0.Views : Nat) : Int)) (Oln rfl) <| Wm (.i 0) rfl <| Nk 196646 3 ⟨tp 1 (.i p1::.loc 0 0::tp 2 (.own 1::tp 10 (.i ((List.length p0.Views : Nat) : Int)::.i 0::tp 19 []))), [(.box [(.i p0.Cap), (.l (encL enc_GChange) p0.Views), (.l (encL enc_GChange) p0.Pending), (.d (.mp (Option.isNone p0.Links) (mks kv_22 (ml p0.Links)) (mds (slD (encL enc_GChange)) (ml p0.Links))))]), (Ar 84 3 enc_GChange r13_1)], 0⟩ <| Bk ?_
  refine AWP.loopI (α := Nat × (List GChange) × Int)
    (fun (fu_3, y5_3, y17_3) => (⟨tp 1 (.i p1::.loc 0 0::tp 2 (.own 1::tp 10 (.i ((List.length p0.Views : Nat) : Int)::.i y17_3::tp 19 []))), [(.box [(.i p0.Cap), (.l (encL enc_GChange) p0.Views), (.l (encL enc_GChange) p0.Pending), (.d (.mp (Option.isNone p0.Links) (mks kv_22 (ml p0.Links)) (mds (slD (encL enc_GChange)) (ml p0.Links))))]), (Ar 84 3 enc_GChange y5_3)], 0⟩ : St))
    (fun (fu_3, y5_3, y17_3) => m_view_Net_Truth_l3 p0 p1 fu_3 y5_3 y17_3 = some r)
    (fun (fu_3, y5_3, y17_3) => fu_3) (1152921504606846976, r13_1, 0)
    (Weak.toK 196646 0 0 [0, 1]) hm ?_
  rintro ⟨fu_3, y5_3, y17_3⟩ n_3 hm ih_3
  try dsimp only at hm ih_3 ⊢
  cases fu_3 with
  | zero => exact absurd hm (by unfold m_view_Net_Truth_l3; simp)
  | succ fu_3 =>
   unfold m_view_Net_Truth_l3 at hm
   refine Sx <| Wz (.b (decide (y17_3 < ((List.length p0.Views : Nat) : Int)))) (Obn rfl (fun _ => hb_lss (k := .i64))) <| Nk 458790 3 ⟨tp 1 (.i p1::.loc 0 0::tp 2 (.own 1::tp 10 (.i ((List.length p0.Views : Nat) : Int)::.i y17_3::.b (decide (y17_3 < ((List.length p0.Views : Nat) : Int)))::tp 18 []))), [(.box [(.i p0.Cap), (.l (encL enc_GChange) p0.Views), (.l (encL enc_GChange) p0.Pending), (.d (.mp (Option.isNone p0.Links) (mks kv_22 (ml p0.Links)) (mds (slD (encL enc_GChange)) (ml p0.Links))))]), (Ar 84 3 enc_GChange y5_3)], 0⟩ <| Sq ?_
   rcases tf_ (decide (y17_3 < ((List.length p0.Views : Nat) : Int))) with hc18_7 | hc18_7
   ·
    replace hm := cT hc18_7 hm
    refine AiT hc18_7 <| Sk <| Tk 196646 3 ⟨tp 1 (.i p1::.loc 0 0::tp 2 (.own 1::tp 10 (.i ((List.length p0.Views : Nat) : Int)::.i y17_3::tp 19 []))), [(.box [(.i p0.Cap), (.l (encL enc_GChange) p0.Views), (.l (encL enc_GChange) p0.Pending), (.d (.mp (Option.isNone p0.Links) (mks kv_22 (ml p0.Links)) (mds (slD (encL enc_GChange)) (ml p0.Links))))]), (Ar 84 3 enc_GChange y5_3)], 0⟩ <| Sq <| Bk <| Sx <| Wm (.i y17_3) rfl <| Wm (.i y17_3) rfl <| Nk 196710 3 ⟨tp 1 (.i p1::.loc 0 0::tp 2 (.own 1::.i y17_3::tp 9 (.i ((List.length p0.Views : Nat) : Int)::.i y17_3::tp 19 []))), [(.box [(.i p0.Cap), (.l (encL enc_GChange) p0.Views), (.l (encL enc_GChange) p0.Pending), (.d (.mp (Option.isNone p0.Links) (mks kv_22 (ml p0.Links)) (mds (slD (encL enc_GChange)) (ml p0.Links))))]), (Ar 84 3 enc_GChange y5_3)], 0⟩ <| Tx <| Wm (.own 1) rfl <| Wz (.loc 0 3) (Ofa rfl) <| Wz (.d (.mp (Option.isNone p0.Links) (mks kv_22 (ml p0.Links)) (mds (slD (encL enc_GChange)) (ml p0.Links)))) (Old rfl) <| Wm (.i y17_3) rfl ?_
    refine Wm (.i p1) rfl <| Wz (.agg [(.i y17_3), (.i p1)]) (ObA rfl (e := 3) (n := 2) (sz := 1) (by kernel_rfl) (by kernel_rfl)) <| Wz (.l (encL enc_GChange) (Option.getD (mlook (ml p0.Links) (GArr2_Int.mk y17_3 p1)) ([] : List (List GChange)))) (Mlk (GArr2_Int.mk y17_3 p1) (ml p0.Links) ([] : List (List GChange)) keyOK_22 (ev := (slD (encL enc_GChange))) rfl slD_zero) ?_
    obtain ⟨r27_4, hr27_4, hm⟩ := bnd hm
    refine Wy (.own 2) [(2, (Ar 84 3 enc_GChange r27_4))] (Ocf [] [2] [] 0 (ok_slices_Concat_Change (Option.getD (mlook (ml p0.Links) (GArr2_Int.mk y17_3 p1)) ([] : List (List GChange))) r27_4 hr27_4) (fun a w => Try.call50 a w) rfl trivial) ?_
    obtain ⟨a28_4, ha28_4, hm⟩ := bnd hm; obtain ⟨ha28_4e, ha28_4l⟩ := app_some ha28_4
    refine Wy (.own 3) [(1, .gone), (3, (Ar 84 3 enc_GChange a28_4))] (Oap rfl elemOK_34 enc_GChange_len ha28_4e ha28_4l) <| Wm (.own 3) rfl <| Wn0 <| Ino <| Tk 196646 9 ⟨tp 1 (.i p1::.loc 0 0::tp 2 (.own 3::tp 10 (.i ((List.length p0.Views : Nat) : Int)::.i y17_3::tp 19 []))), [(.box [(.i p0.Cap), (.l (encL enc_GChange) p0.Views), (.l (encL enc_GChange) p0.Pending), (.d (.mp (Option.isNone p0.Links) (mks kv_22 (ml p0.Links)) (mds (slD (encL enc_GChange)) (ml p0.Links))))]), .gone, .gone, (Ar 84 3 enc_GChange a28_4)], 0⟩ <| Tx <| Wz (.i (W6 (y17_3 + 1))) (Obn rfl (fun _ => hb_add (k := .i64))) <| Wm (.i (W6 (y17_3 + 1))) rfl <| Wn0 <| RoundK.normal ?_
    exact Rounds.weak (Weak.toK 196646 0 0 [0, 3]) (ih_3 (fu_3, a28_4, (W6 (y17_3 + 1))) hm (Nat.lt_succ_self _))
   ·
    replace hm := cF hc18_7 hm
    refine AiF hc18_7 <| AWP.exit <| Then.exit <| RoundK.exit <| InBlock.same <| Tk 38 3 ⟨tp 1 (.i p1::.loc 0 0::tp 2 (.own 1::tp 31 [])), [(.box [(.i p0.Cap), (.l (encL enc_GChange) p0.Views), (.l (encL enc_GChange) p0.Pending), (.d (.mp (Option.isNone p0.Links) (mks kv_22 (ml p0.Links)) (mds (slD (encL enc_GChange)) (ml p0.Links))))]), (Ar 84 3 enc_GChange y5_3)], 0⟩ <| Sx <| Wz (.loc 0 1) (Ofa rfl) <| Wz (.l (encL enc_GChange) p0.Views) (Old rfl) <| Wm (.i p1) rfl ?_
    obtain ⟨x33_5, hx33_5, hm⟩ := bnd hm
    obtain ⟨hx33_5i, hx33_5g⟩ := geti_some hx33_5
    refine Wz (.d (.ref (List.drop ((Int.toNat p1) * 1) (flatD (encL enc_GChange) p0.Views)))) (Oia rfl (encL_len (enc := enc_GChange)) hx33_5i hx33_5g) <| Wz (.l enc_GChange x33_5) (Lf1 rfl (encL_len (enc := enc_GChange)) hx33_5g) <| Wm (.own 1) rfl ?_
    obtain ⟨r36_5, hr36_5, hm⟩ := bnd hm
    refine Wy (.l enc_GChange r36_5) [(1, (.fro 84 3 (List.length y5_3) (flatD enc_GChange y5_3)))] (Ocf [] [] [1] 0 (ok_tally_Merge x33_5 y5_3 r36_5 hr36_5) (fun a w => Try.call31 a w) rfl trivial) <| Wm (.l enc_GChange r36_5) rfl <| Nn <| Rt ?_
    obtain rfl := Option.some.inj hm
    exact ret_i []

theorem ok_view_Net_Idle_1 (p0 : (List GChange)) (r : Bool) (h : m_view_Net_Idle_1 p0 = some r) : GCall Try.prog 47 [(.l enc_GChange p0)] [] (.b r) [] := by
 refine GCall.of_body (n := 6) (rs := [(.tmp 2)]) Try.func47 rfl rfl rfl <| Ato ⟨.l enc_GChange p0::tu 5 [], [], 0⟩ ?_
 have hm := h
 unfold m_view_Net_Idle_1 at hm
 refine Sx <| Wm (.b false) rfl <| Nk 1 0 ⟨.l enc_GChange p0::tp 5 [], [], 0⟩ <| Sx <| Wm (.l enc_GChange p0) rfl <| Wz (.i ((List.length p0 : Nat) : Int)) (Oln rfl) <| Wz (.b (decide ((0 : Int) < ((List.length p0 : Nat) : Int)))) (Obn rfl (fun _ => hb_gtr (k := .i64))) <| Wm (.b (decide ((0 : Int) < ((List.length p0 : Nat) : Int)))) rfl <| Nn <| Rt ?_
 obtain rfl := Option.some.inj hm
 exact ret_i []

theorem ok_slices_IndexFunc_tally_Change_tally_Change__view_Net_Idle_1 (p0 : (List (List GChange))) (r : Int) (h : m_slices_IndexFunc_tally_Change_tally_Change__view_Net_Idle_1 p0 = some r) : GCall Try.prog 69 [(.l (encL enc_GChange) p0), (.clo (.func 47) [] [])] [] (.i r) [] := by
 refine GCall.of_body (n := 19) (rs := [(.tmp 4)]) Try.func69 rfl rfl rfl <| Ato ⟨.l (encL enc_GChange) p0::.clo (.func 47) [] []::tu 17 [], [], 0⟩ ?_
 have hm := h
 unfold m_slices_IndexFunc_tally_Change_tally_Change__view_Net_Idle_1 at hm
 refine Sx <| Wm (.i 0) rfl <| Nk 3 0 ⟨.l (encL enc_GChange) p0::.clo (.func 47) [] []::tp 17 [], [], 0⟩ <| Sq <| Sx <| Wm (.l (encL enc_GChange) p0) rfl <| Wz (.i ((List.length p0 : Nat) : Int)) (Oln rfl) <| Wm (.i 0) rfl <| Nk 387 0 ⟨.l (encL enc_GChange) p0::.clo (.func 47) [] []::tp 5 (.i ((List.length p0 : Nat) : Int)::.i 0::tp 10 []), [], 0⟩ <| Bk ?_
 refine AWP.loopI (α := Nat × Int)
   (fun (fu_1, y8_1) => (⟨.l (encL enc_GChange) p0::.clo (.func 47) [] []::tp 5 (.i ((List.length p0 : Nat) : Int)::.i y8_1::tp 10 []), [], 0⟩ : St))
   (fun (fu_1, y8_1) => m_slices_IndexFunc_tally_Change_tally_Change__view_Net_Idle_1_l1 p0 fu_1 y8_1 = some r)
   (fun (fu_1, y8_1) => fu_1) (1152921504606846976, 0)
   (Weak.toK 387 0 0 []) hm ?_
 rintro ⟨fu_1, y8_1⟩ n_1 hm ih_1
 try dsimp only at hm ih_1 ⊢
 cases fu_1 with
 | zero => exact absurd hm (by unfold m_slices_IndexFunc_tally_Change_tally_Change__view_Net_Idle_1_l1; simp)
 | succ fu_1 =>
  unfold m_slices_IndexFunc_tally_Change_tally_Change__view_Net_Idle_1_l1 at hm
  refine Sx <| Wz (.b (decide (y8_1 < ((List.length p0 : Nat) : Int)))) (Obn rfl (fun _ => hb_lss (k := .i64))) <| Nk 899 0 ⟨.l (encL enc_GChange) p0::.clo (.func 47) [] []::tp 5 (.i ((List.length p0 : Nat) : Int)::.i y8_1::.b (decide (y8_1 < ((List.length p0 : Nat) : Int)))::tp 9 []), [], 0⟩ <| Sq ?_
  rcases tf_ (decide (y8_1 < ((List.length p0 : Nat) : Int))) with hc9_3 | hc9_3
  ·
   replace hm := cT hc9_3 hm
   refine AiT hc9_3 <| Sk <| Tk 387 0 ⟨.l (encL enc_GChange) p0::.clo (.func 47) [] []::tp 5 (.i ((List.length p0 : Nat) : Int)::.i y8_1::tp 10 []), [], 0⟩ <| Sq <| Bk <| Sx <| Wm (.i y8_1) rfl <| Wm (.i y8_1) rfl <| Nk 419 0 ⟨.l (encL enc_GChange) p0::.clo (.func 47) [] []::tp 3 (.i y8_1::tp 1 (.i ((List.length p0 : Nat) : Int)::.i y8_1::tp 10 [])), [], 0⟩ <| Sx <| Wm (.clo (.func 47) [] []) rfl <| Wm (.l (encL enc_GChange) p0) rfl <| Wm (.i y8_1) rfl ?_
   obtain ⟨x14_2, hx14_2, hm⟩ := bnd hm
   obtain ⟨hx14_2i, hx14_2g⟩ := geti_some hx14_2
   refine Wz (.d (.ref (List.drop ((Int.toNat y8_1) * 1) (flatD (encL enc_GChange) p0)))) (Oia rfl (encL_len (enc := enc_GChange)) hx14_2i hx14_2g) <| Wz (.l enc_GChange x14_2) (Lf1 rfl (encL_len (enc := enc_GChange)) hx14_2g) ?_
   obtain ⟨r16_2, hr16_2, hm⟩ := bnd hm
   refine Wz (.b r16_2) (Ocf [] [] [] 0 (ok_view_Net_Idle_1 x14_2 r16_2 hr16_2) (fun a w => Try.call47 a w) rfl trivial) <| Nk 65955 0 ⟨.l (encL enc_GChange) p0::.clo (.func 47) [] []::tp 3 (.i y8_1::tp 1 (.i ((List.length p0 : Nat) : Int)::.i y8_1::tp 7 (.b r16_2::tp 2 []))), [], 0⟩ ?_
   rcases tf_ r16_2 with hc16_4 | hc16_4
   ·
    replace hm := cT hc16_4 hm
    refine AiT hc16_4 <| Sx <| Wm (.i y8_1) rfl <| Wm (.i y8_1) rfl <| Nn <| Rt <| Ir <| Tr <| RoundK.ret <| Ir <| Tr ?_
    obtain rfl := Option.some.inj hm
    exact ret_i []
   ·
    replace hm := cF hc16_4 hm
    refine AiF hc16_4 <| Sk <| Ino <| Tk 387 0 ⟨.l (encL enc_GChange) p0::.clo (.func 47) [] []::tp 5 (.i ((List.length p0 : Nat) : Int)::.i y8_1::tp 10 []), [], 0⟩ <| Tx <| Wz (.i (W6 (y8_1 + 1))) (Obn rfl (fun _ => hb_add (k := .i64))) <| Wm (.i (W6 (y8_1 + 1))) rfl <| Wn0 <| RoundK.normal ?_
    exact Rounds.weak (Weak.toK 387 0 0 []) (ih_1 (fu_1, (W6 (y8_1 + 1))) hm (Nat.lt_succ_self _))
  ·
   replace hm := cF hc9_3 hm
   refine AiF hc9_3 <| AWP.exit <| Then.exit <| RoundK.exit <| InBlock.same <| Tk 0 0 ⟨tp 19 [], [], 0⟩ <| Sx <| Wm (.i (-1)) rfl <| Nn <| Rt ?_
   obtain rfl := Option.some.inj hm
   exact ret_i []

theorem ok_slices_ContainsFunc_tally_Change_tally_Change__view_Net_Idle_1 (p0 : (List (List GChange))) (r : Bool) (h : m_slices_ContainsFunc_tally_Change_tally_Change__view_Net_Idle_1 p0 = some r) : GCall Try.prog 46 [(.l (encL enc_GChange) p0), (.clo (.func 47) [] [])] [] (.b r) [] := by
 refine GCall.of_body (n := 9) (rs := [(.tmp 4)]) Try.func46 rfl rfl rfl <| Ato ⟨.l (encL enc_GChange) p0::.clo (.func 47) [] []::tu 7 [], [], 0⟩ ?_
 have hm := h
 unfold m_slices_ContainsFunc_tally_Change_tally_Change__view_Net_Idle_1 at hm
 refine Sx <| Wm (.b false) rfl <| Nk 3 0 ⟨.l (encL enc_GChange) p0::.clo (.func 47) [] []::tp 7 [], [], 0⟩ <| Sx <| Wm (.l (encL enc_GChange) p0) rfl <| Wm (.clo (.func 47) [] []) rfl ?_
 obtain ⟨r7_0, hr7_0, hm⟩ := bnd hm
 refine Wz (.i r7_0) (Ocf [] [] [] 0 (ok_slices_IndexFunc_tally_Change_tally_Change__view_Net_Idle_1 p0 r7_0 hr7_0) (fun a w => Try.call69 a w) rfl trivial) <| Wz (.b (decide ((0 : Int) ≤ r7_0))) (Obn rfl (fun _ => hb_geq (k := .i64))) <| Wm (.b (decide ((0 : Int) ≤ r7_0))) rfl <| Nn <| Rt ?_
 obtain rfl := Option.some.inj hm
 exact ret_i []

theorem ok_view_Net_Idle (p0 : GNet) (r : Bool) (h : m_view_Net_Idle p0 = some r) : GCall Try.prog 21 [(.agg [(.i p0.Cap), (.l (encL enc_GChange) p0.Views), (.l (encL enc_GChange) p0.Pending), (.d (.mp (Option.isNone p0.Links) (mks kv_22 (ml p0.Links)) (mds (slD (encL enc_GChange)) (ml p0.Links))))])] [] (.b r) [] := by
 refine GCall.of_body (n := 15) (rs := [(.tmp 2)]) Try.func21 rfl rfl rfl <| Ato ⟨.agg [(.i p0.Cap), (.l (encL enc_GChange) p0.Views), (.l (encL enc_GChange) p0.Pending), (.d (.mp (Option.isNone p0.Links) (mks kv_22 (ml p0.Links)) (mds (slD (encL enc_GChange)) (ml p0.Links))))]::tu 14 [], [], 0⟩ ?_
 have hm := h
 unfold m_view_Net_Idle at hm
 refine Sx <| Wy (.loc 0 0) [(0, (.box [(.i p0.Cap), (.l (encL enc_GChange) p0.Views), (.l (encL enc_GChange) p0.Pending), (.d (.mp (Option.isNone p0.Links) (mks kv_22 (ml p0.Links)) (mds (slD (encL enc_GChange)) (ml p0.Links))))]))] (Obx rfl) <| Wm (.b false) rfl <| Nk 2 1 ⟨tp 1 (.loc 0 0::tp 13 []), [(.box [(.i p0.Cap), (.l (encL enc_GChange) p0.Views), (.l (encL enc_GChange) p0.Pending), (.d (.mp (Option.isNone p0.Links) (mks kv_22 (ml p0.Links)) (mds (slD (encL enc_GChange)) (ml p0.Links))))])], 0⟩ <| Sx <| Wz (.loc 0 2) (Ofa rfl) <| Wz (.l (encL enc_GChange) p0.Pending) (Old rfl) ?_
 obtain ⟨r6_0, hr6_0, hm⟩ := bnd hm
 refine Wz (.b r6_0) (Ocf [] [] [] 0 (ok_slices_ContainsFunc_tally_Change_tally_Change__view_Net_Idle_1 p0.Pending r6_0 hr6_0) (fun a w => Try.call46 a w) rfl trivial) <| Wm (.b r6_0) rfl <| Nk 10 1 ⟨tp 1 (.loc 0 0::tp 1 (.b r6_0::tp 11 [])), [(.box [(.i p0.Cap), (.l (encL enc_GChange) p0.Views), (.l (encL enc_GChange) p0.Pending), (.d (.mp (Option.isNone p0.Links) (mks kv_22 (ml p0.Links)) (mds (slD (encL enc_GChange)) (ml p0.Links))))])], 0⟩ <| Sx <| Wm (.b r6_0) rfl <| Wz (.b (!r6_0)) (Ocs (by kernel_rfl) (op_un rfl (a1 := .bool r6_0) (by kernel_rfl) (fun _ => hu_not))) ?_
 rcases tf_ (!r6_0) with hq9_1 | hq9_1
 ·
  replace hm := cT hq9_1 hm
  refine Wz (.b true) (Oq hq9_1 rfl) <| Wz (.loc 0 3) (Ofa rfl) <| Wz (.d (.mp (Option.isNone p0.Links) (mks kv_22 (ml p0.Links)) (mds (slD (encL enc_GChange)) (ml p0.Links)))) (Old rfl) <| Wz (.i ((List.length (ml p0.Links) : Nat) : Int)) (Mml (kv := kv_22) (ev := (slD (encL enc_GChange))) (ml p0.Links) rfl) <| Wz (.b (decide (((List.length (ml p0.Links) : Nat) : Int) = 0))) (Obn rfl (fun _ => hb_eql (k := .i64))) <| Wz (.b (decide (((List.length (ml p0.Links) : Nat) : Int) = 0))) (OpT rfl) <| Wm (.b (decide (((List.length (ml p0.Links) : Nat) : Int) = 0))) rfl <| Nn <| Rt ?_
  obtain rfl := Option.some.inj hm
  exact ret_i []
 ·
  replace hm := cF hq9_1 hm
  refine Wz (.b false) (Oq hq9_1 rfl) <| Wn <| Wn <| Wn <| Wn <| Wz (.b false) (OpF rfl) <| Wm (.b false) rfl <| Nn <| Rt ?_
  obtain rfl := Option.some.inj hm
  exact ret_i []
end Go.Proofs.Ytcpageegmpjkiaa.K
