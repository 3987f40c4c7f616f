/- what telltalelaw28.TokenTurns needs (2) -/
import Derived.Test.YtkamekhkkkeedaaA1
namespace Go.Proofs.Ytkamekhkkkeedaa.K
open Go.RowKit Go.Lib
set_option linter.unusedVariables false
set_option linter.unusedSimpArgs false

set_option maxRecDepth 20000 in
set_option maxHeartbeats 4000000 in
theorem ok_telltalelaw28_TokenTurns (p0 : GArr2_List_GLeave) (p1 : GTurn) (r : Bool) (h : m_telltalelaw28_TokenTurns p0 p1 = some r) : GCall Try.prog 3 [(.agg [(.l enc_GLeave p0.a0), (.l enc_GLeave p0.a1)]), (.agg [(.y p1.Kind), (.i p1.A), (.i p1.B)])] [] (.b r) [] := by
 refine GCall.of_body (n := 208) (rs := [(.tmp 4)]) Try.func3 rfl rfl rfl ?_
 refine Ato ⟨((.agg [(.l enc_GLeave p0.a0), (.l enc_GLeave p0.a1)]) :: ((.agg [(.y p1.Kind), (.i p1.A), (.i p1.B)]) :: (tu 206 []))), [], 0⟩ ?_
 have hm := h
 unfold m_telltalelaw28_TokenTurns at hm
 refine AWP.seq ?_
 refine AWP.text ?_
 refine Wy (.loc 0 0) [(0, (.box [(.l enc_GLeave p0.a0), (.l enc_GLeave p0.a1)]))] (Obx rfl) ?_
 refine Wy (.loc 1 0) [(1, (.box [(.y p1.Kind), (.i p1.A), (.i p1.B)]))] (Obx rfl) ?_
 refine Wy (.b false) [] (Omv rfl) ?_
 refine Walk.nil ?_
 refine Then.normal ?_
 refine Amk 12 3 ⟨(tp 2 ((.loc 0 0) :: ((.loc 1 0) :: (tp 204 [])))), [(.box [(.l enc_GLeave p0.a0), (.l enc_GLeave p0.a1)]), (.box [(.y p1.Kind), (.i p1.A), (.i p1.B)])], 0⟩ ?_
 refine AWP.seq ?_
 refine AWP.seq ?_
 refine AWP.text ?_
 refine Wy (.loc 0 0) [] (Ocs (by kernel_rfl) (op_iaddr_arr rfl (n := 2) (sz := 1) (y := (.loc 0 0)) (by kernel_rfl) (by kernel_rfl) (by kernel_rfl) (k := .i64) (iv := 0) (by kernel_rfl) (i := 0) (by rfl) (by decide))) ?_
 refine Wy (.l enc_GLeave p0.a0) [] (Old rfl) ?_
 refine Wy (.i ((List.length p0.a0 : Nat) : Int)) [] (Oln rfl) ?_
 refine Wy (.b (decide ((101 : Int) < ((List.length p0.a0 : Nat) : Int)))) [] (Obn rfl (fun _ => hb_gtr (k := .i64))) ?_
 rcases tf_ (decide ((101 : Int) < ((List.length p0.a0 : Nat) : Int))) with hq21_0 | hq21_0
 ·
  replace hm := cT hq21_0 hm
  refine Wy (.b true) [] (Ocs (lit_tf (b := decide ((101 : Int) < ((List.length p0.a0 : Nat) : Int))) hq21_0) (Omv rfl)) ?_
  refine Wn ?_
  refine Wn ?_
  refine Wn ?_
  refine Wn ?_
  refine Wy (.b true) [] (OpT rfl) ?_
  refine Walk.nil ?_
  refine Then.normal ?_
  refine Amk 67108876 3 ⟨(tp 2 ((.loc 0 0) :: ((.loc 1 0) :: (tp 22 ((.b true) :: (tp 181 [])))))), [(.box [(.l enc_GLeave p0.a0), (.l enc_GLeave p0.a1)]), (.box [(.y p1.Kind), (.i p1.A), (.i p1.B)])], 0⟩ ?_
  refine AWP.if_ true (by kernel_rfl) ?_
  refine AWP.seq ?_
  refine AWP.text ?_
  obtain ⟨r27_1, hr27_1, hm⟩ := bnd hm
  refine Wy (.b r27_1) [] (Ocf [] [] [] 0 (ok_telltalelaw28_awake  r27_1 hr27_1) (fun a w => Try.call5 a w) rfl trivial) ?_
  refine Wy (.b r27_1) [] (Omv rfl) ?_
  refine Walk.nil ?_
  refine Then.normal ?_
  refine AWP.ret ?_
  refine Then.ret ?_
  obtain rfl := Option.some.inj hm
  exact ret_i []
 ·
  replace hm := cF hq21_0 hm
  refine Wy (.b false) [] (Ocs (lit_tf (b := decide ((101 : Int) < ((List.length p0.a0 : Nat) : Int))) hq21_0) (Omv rfl)) ?_
  refine Wy (.loc 0 1) [] (Ocs (by kernel_rfl) (op_iaddr_arr rfl (n := 2) (sz := 1) (y := (.loc 0 0)) (by kernel_rfl) (by kernel_rfl) (by kernel_rfl) (k := .i64) (iv := 1) (by kernel_rfl) (i := 1) (by rfl) (by decide))) ?_
  refine Wy (.l enc_GLeave p0.a1) [] (Old rfl) ?_
  refine Wy (.i ((List.length p0.a1 : Nat) : Int)) [] (Oln rfl) ?_
  refine Wy (.b (decide ((101 : Int) < ((List.length p0.a1 : Nat) : Int)))) [] (Obn rfl (fun _ => hb_gtr (k := .i64))) ?_
  refine Wy (.b (decide ((101 : Int) < ((List.length p0.a1 : Nat) : Int)))) [] (OpF rfl) ?_
  refine Walk.nil ?_
  refine Then.normal ?_
  refine Amk 67108876 3 ⟨(tp 2 ((.loc 0 0) :: ((.loc 1 0) :: (tp 22 ((.b (decide ((101 : Int) < ((List.length p0.a1 : Nat) : Int)))) :: (tp 181 [])))))), [(.box [(.l enc_GLeave p0.a0), (.l enc_GLeave p0.a1)]), (.box [(.y p1.Kind), (.i p1.A), (.i p1.B)])], 0⟩ ?_
  rcases tf_ (decide ((101 : Int) < ((List.length p0.a1 : Nat) : Int))) with hc26_21 | hc26_21
  ·
   replace hm := cT hc26_21 hm
   refine AWP.if_ true (Eq.trans (by kernel_rfl) (lit_tf (b := decide ((101 : Int) < ((List.length p0.a1 : Nat) : Int))) hc26_21)) ?_
   refine AWP.seq ?_
   refine AWP.text ?_
   obtain ⟨r27_2, hr27_2, hm⟩ := bnd hm
   refine Wy (.b r27_2) [] (Ocf [] [] [] 0 (ok_telltalelaw28_awake  r27_2 hr27_2) (fun a w => Try.call5 a w) rfl trivial) ?_
   refine Wy (.b r27_2) [] (Omv rfl) ?_
   refine Walk.nil ?_
   refine Then.normal ?_
   refine AWP.ret ?_
   refine Then.ret ?_
   obtain rfl := Option.some.inj hm
   exact ret_i []
  ·
   replace hm := cF hc26_21 hm
   refine AWP.if_ false (Eq.trans (by kernel_rfl) (lit_tf (b := decide ((101 : Int) < ((List.length p0.a1 : Nat) : Int))) hc26_21)) ?_
   refine AWP.skip ?_
   refine Then.normal ?_
   refine Amk 12 3 ⟨(tp 2 ((.loc 0 0) :: ((.loc 1 0) :: (tp 204 [])))), [(.box [(.l enc_GLeave p0.a0), (.l enc_GLeave p0.a1)]), (.box [(.y p1.Kind), (.i p1.A), (.i p1.B)])], 0⟩ ?_
   refine AWP.seq ?_
   refine AWP.text ?_
   refine Wy (.loc 0 0) [] (Ocs (by kernel_rfl) (op_iaddr_arr rfl (n := 2) (sz := 1) (y := (.loc 0 0)) (by kernel_rfl) (by kernel_rfl) (by kernel_rfl) (k := .i64) (iv := 0) (by kernel_rfl) (i := 0) (by rfl) (by decide))) ?_
   refine Wy (.l enc_GLeave p0.a0) [] (Old rfl) ?_
   obtain ⟨r30_3, hr30_3, hm⟩ := bnd hm
   refine Wy (.agg [(.own 2)]) [(2, (.arr 47 3 (List.length r30_3.L) (flatD enc_GLeave_ r30_3.L)))] (Ocf [] [2] [] 0 (ok_telltalelaw28_Own p0.a0 r30_3 hr30_3) (fun a w => Try.call6 a w) rfl trivial) ?_
   refine Wy (.loc 3 0) [(3, (.box [(.d .nil)]))] (Oal rfl) ?_
   refine Wy (.tup []) [(3, (.box [(.own 2)]))] (Ost rfl) ?_
   refine Walk.nil ?_
   refine Then.normal ?_
   refine Amk 44 15 ⟨(tp 2 ((.loc 0 0) :: ((.loc 1 0) :: (tp 1 ((.loc 3 0) :: (tp 202 [])))))), [(.box [(.l enc_GLeave p0.a0), (.l enc_GLeave p0.a1)]), (.box [(.y p1.Kind), (.i p1.A), (.i p1.B)]), (.arr 47 3 (List.length r30_3.L) (flatD enc_GLeave_ r30_3.L)), (.box [(.own 2)])], 0⟩ ?_
   refine AWP.seq ?_
   refine AWP.text ?_
   refine Wy (.loc 4 0) [(4, (.box [(.d .nil)]))] (Oal rfl) ?_
   refine Walk.nil ?_
   refine Then.normal ?_
   refine Amk 108 31 ⟨(tp 2 ((.loc 0 0) :: ((.loc 1 0) :: (tp 1 ((.loc 3 0) :: ((.loc 4 0) :: (tp 201 []))))))), [(.box [(.l enc_GLeave p0.a0), (.l enc_GLeave p0.a1)]), (.box [(.y p1.Kind), (.i p1.A), (.i p1.B)]), (.arr 47 3 (List.length r30_3.L) (flatD enc_GLeave_ r30_3.L)), (.box [(.own 2)]), (.box [(.d .nil)])], 0⟩ ?_
   refine AWP.seq ?_
   refine AWP.text ?_
   refine Wy (.d .nil) [] (Omv rfl) ?_
   refine Walk.nil ?_
   refine Then.normal ?_
   refine Amk 108 31 ⟨(tp 2 ((.loc 0 0) :: ((.loc 1 0) :: (tp 1 ((.loc 3 0) :: ((.loc 4 0) :: (tp 201 []))))))), [(.box [(.l enc_GLeave p0.a0), (.l enc_GLeave p0.a1)]), (.box [(.y p1.Kind), (.i p1.A), (.i p1.B)]), (.arr 47 3 (List.length r30_3.L) (flatD enc_GLeave_ r30_3.L)), (.box [(.own 2)]), (.box [(.d .nil)])], 0⟩ ?_
   refine AWP.seq ?_
   refine AWP.text ?_
   refine Wy (.d .nil) [] (Omv rfl) ?_
   refine Walk.nil ?_
   refine Then.normal ?_
   refine Amk 108 31 ⟨(tp 2 ((.loc 0 0) :: ((.loc 1 0) :: (tp 1 ((.loc 3 0) :: ((.loc 4 0) :: (tp 201 []))))))), [(.box [(.l enc_GLeave p0.a0), (.l enc_GLeave p0.a1)]), (.box [(.y p1.Kind), (.i p1.A), (.i p1.B)]), (.arr 47 3 (List.length r30_3.L) (flatD enc_GLeave_ r30_3.L)), (.box [(.own 2)]), (.box [(.d .nil)])], 0⟩ ?_
   refine AWP.seq ?_
   refine AWP.text ?_
   refine Wy (.d .nil) [] (Omv rfl) ?_
   refine Walk.nil ?_
   refine Then.normal ?_
   refine Amk 108 31 ⟨(tp 2 ((.loc 0 0) :: ((.loc 1 0) :: (tp 1 ((.loc 3 0) :: ((.loc 4 0) :: (tp 201 []))))))), [(.box [(.l enc_GLeave p0.a0), (.l enc_GLeave p0.a1)]), (.box [(.y p1.Kind), (.i p1.A), (.i p1.B)]), (.arr 47 3 (List.length r30_3.L) (flatD enc_GLeave_ r30_3.L)), (.box [(.own 2)]), (.box [(.d .nil)])], 0⟩ ?_
   refine AWP.seq ?_
   refine AWP.text ?_
   refine Wy (.i 0) [] (Omv rfl) ?_
   refine Wy (.i 0) [] (Omv rfl) ?_
   refine Walk.nil ?_
   refine Then.normal ?_
   refine Amk 108 31 ⟨(tp 2 ((.loc 0 0) :: ((.loc 1 0) :: (tp 1 ((.loc 3 0) :: ((.loc 4 0) :: (tp 201 []))))))), [(.box [(.l enc_GLeave p0.a0), (.l enc_GLeave p0.a1)]), (.box [(.y p1.Kind), (.i p1.A), (.i p1.B)]), (.arr 47 3 (List.length r30_3.L) (flatD enc_GLeave_ r30_3.L)), (.box [(.own 2)]), (.box [(.d .nil)])], 0⟩ ?_
   refine AWP.cutJ (α := GBook × (List GLeave) × (List GChange) × (List GChange) × Int × Int) (fun x => match x with | (y6_d_10, y7_10, y8_10, y9_10, y10_10, y11_10) => (⟨(tp 2 ((.loc 0 0) :: ((.loc 1 0) :: (tp 1 ((.loc 2 0) :: ((.loc 3 0) :: ((.l enc_GLeave y7_10) :: ((.l enc_GChange y8_10) :: ((.own 4) :: ((.i y10_10) :: ((.i y11_10) :: (tp 196 [])))))))))))), [(.box [(.l enc_GLeave p0.a0), (.l enc_GLeave p0.a1)]), (.box [(.y p1.Kind), (.i p1.A), (.i p1.B)]), (.box [(.l enc_GLeave_ r30_3.L)]), (.box [(.l enc_GLeave_ y6_d_10.L)]), (.arr 71 3 (List.length y9_10) (flatD enc_GChange y9_10))], 0⟩ : St)) (fun x => match x with | (y6_d_10, y7_10, y8_10, y9_10, y10_10, y11_10) => m_telltalelaw28_TokenTurns_j10 p0 p1 r30_3 y6_d_10 y7_10 y8_10 y9_10 y10_10 y11_10 = some r) ?_ (fun J10 => ?_)
   ·
    rintro ⟨y6_d_10, y7_10, y8_10, y9_10, y10_10, y11_10⟩ hm
    try dsimp only at hm ⊢
    unfold m_telltalelaw28_TokenTurns_j10 at hm
    refine AWP.seq ?_
    refine AWP.text ?_
    refine Wy (.agg [(.l enc_GLeave_ r30_3.L)]) [] (Old rfl) ?_
    refine Wy (.loc 1 1) [] (Ofa rfl) ?_
    refine Wy (.i p1.A) [] (Old rfl) ?_
    obtain ⟨r106_11, hr106_11, hm⟩ := bnd hm
    refine Wy (.tup [(.agg [(.i r106_11.1.Point.Loc), (.i r106_11.1.Point.Time), (.b r106_11.1.Held)]), (.b r106_11.2)]) [] (Ocf [] [] [] 0 (ok_token_Book_Get r30_3 p1.A r106_11 hr106_11) (fun a w => Try.call13 a w) rfl trivial) ?_
    refine Wy (.tup [(.agg [(.i r106_11.1.Point.Loc), (.i r106_11.1.Point.Time), (.b r106_11.1.Held)]), (.b r106_11.2)]) [] (Omv rfl) ?_
    refine Wy (.agg [(.i r106_11.1.Point.Loc), (.i r106_11.1.Point.Time), (.b r106_11.1.Held)]) [] (Oex rfl) ?_
    refine Wy (.b r106_11.2) [] (Oex rfl) ?_
    refine Wy (.loc 5 0) [(5, (.box [(.i 0), (.i 0), (.b false)]))] (Oal rfl) ?_
    refine Wy (.tup []) [(5, (.box [(.i r106_11.1.Point.Loc), (.i r106_11.1.Point.Time), (.b r106_11.1.Held)]))] (Ost rfl) ?_
    refine Wy (.b r106_11.2) [] (Omv rfl) ?_
    refine Walk.nil ?_
    refine Then.normal ?_
    refine Amk 53228 63 ⟨(tp 2 ((.loc 0 0) :: ((.loc 1 0) :: (tp 1 ((.loc 2 0) :: ((.loc 3 0) :: ((.l enc_GLeave y7_10) :: ((.l enc_GChange y8_10) :: ((.own 4) :: ((.i y10_10) :: ((.i y11_10) :: (tp 2 ((.loc 5 0) :: ((.b r106_11.2) :: (tp 192 []))))))))))))))), [(.box [(.l enc_GLeave p0.a0), (.l enc_GLeave p0.a1)]), (.box [(.y p1.Kind), (.i p1.A), (.i p1.B)]), (.box [(.l enc_GLeave_ r30_3.L)]), (.box [(.l enc_GLeave_ y6_d_10.L)]), (.arr 71 3 (List.length y9_10) (flatD enc_GChange y9_10)), (.box [(.i r106_11.1.Point.Loc), (.i r106_11.1.Point.Time), (.b r106_11.1.Held)])], 0⟩ ?_
    refine AWP.seq ?_
    refine AWP.text ?_
    refine Wy (.loc 1 1) [] (Ofa rfl) ?_
    refine Wy (.i p1.A) [] (Old rfl) ?_
    refine Wy (.b (decide ((0 : Int) ≤ p1.A))) [] (Obn rfl (fun _ => hb_geq (k := .i64))) ?_
    rcases tf_ (decide ((0 : Int) ≤ p1.A)) with hq112_12 | hq112_12
    ·
     replace hm := cT hq112_12 hm
     refine Wy (.b true) [] (Ocs (lit_tf (b := decide ((0 : Int) ≤ p1.A)) hq112_12) (Omv rfl)) ?_
     refine Wy (.loc 1 1) [] (Ofa rfl) ?_
     refine Wy (.i p1.A) [] (Old rfl) ?_
     refine Wy (.loc 0 0) [] (Ocs (by kernel_rfl) (op_iaddr_arr rfl (n := 2) (sz := 1) (y := (.loc 0 0)) (by kernel_rfl) (by kernel_rfl) (by kernel_rfl) (k := .i64) (iv := 0) (by kernel_rfl) (i := 0) (by rfl) (by decide))) ?_
     refine Wy (.l enc_GLeave p0.a0) [] (Old rfl) ?_
     refine Wy (.i ((List.length p0.a0 : Nat) : Int)) [] (Oln rfl) ?_
     refine Wy (.b (decide (p1.A < ((List.length p0.a0 : Nat) : Int)))) [] (Obn rfl (fun _ => hb_lss (k := .i64))) ?_
     refine Wy (.b (decide (p1.A < ((List.length p0.a0 : Nat) : Int)))) [] (OpT rfl) ?_
     refine Wy (.b (decide (p1.A < ((List.length p0.a0 : Nat) : Int)))) [] (Omv rfl) ?_
     refine Walk.nil ?_
     refine Then.normal ?_
     refine Amk 118764 63 ⟨(tp 2 ((.loc 0 0) :: ((.loc 1 0) :: (tp 1 ((.loc 2 0) :: ((.loc 3 0) :: ((.l enc_GLeave y7_10) :: ((.l enc_GChange y8_10) :: ((.own 4) :: ((.i y10_10) :: ((.i y11_10) :: (tp 2 ((.loc 5 0) :: ((.b r106_11.2) :: ((.b (decide (p1.A < ((List.length p0.a0 : Nat) : Int)))) :: (tp 191 [])))))))))))))))), [(.box [(.l enc_GLeave p0.a0), (.l enc_GLeave p0.a1)]), (.box [(.y p1.Kind), (.i p1.A), (.i p1.B)]), (.box [(.l enc_GLeave_ r30_3.L)]), (.box [(.l enc_GLeave_ y6_d_10.L)]), (.arr 71 3 (List.length y9_10) (flatD enc_GChange y9_10)), (.box [(.i r106_11.1.Point.Loc), (.i r106_11.1.Point.Time), (.b r106_11.1.Held)])], 0⟩ ?_
     refine AWP.cutJ (α := Unit) (fun x => match x with | () => (⟨(tp 2 ((.loc 0 0) :: ((.loc 1 0) :: (tp 1 ((.loc 2 0) :: ((.loc 3 0) :: ((.l enc_GLeave y7_10) :: ((.l enc_GChange y8_10) :: ((.own 4) :: ((.i y10_10) :: ((.i y11_10) :: (tp 196 [])))))))))))), [(.box [(.l enc_GLeave p0.a0), (.l enc_GLeave p0.a1)]), (.box [(.y p1.Kind), (.i p1.A), (.i p1.B)]), (.box [(.l enc_GLeave_ r30_3.L)]), (.box [(.l enc_GLeave_ y6_d_10.L)]), (.arr 71 3 (List.length y9_10) (flatD enc_GChange y9_10))], 0⟩ : St)) (fun x => match x with | () => m_telltalelaw28_TokenTurns_j17 p0 p1 r30_3 y10_10 y11_10 y6_d_10 y7_10 y8_10 y9_10 = some r) ?_ (fun J17 => ?_)
     ·
      rintro ⟨⟩ hm
      try dsimp only at hm ⊢
      unfold m_telltalelaw28_TokenTurns_j17 at hm
      refine AWP.seq ?_
      refine Adr ?_
      refine Wy (.agg [(.l enc_GLeave_ y6_d_10.L)]) [] (Old rfl) ?_
      obtain ⟨r146_18, hr146_18, hm⟩ := bnd hm
      refine Wy (.own 5) [(5, (.arr 68 3 (List.length r146_18) (flatD enc_GLeave r146_18)))] (Ocf [] [5] [] 0 (ok_telltalelaw28_Back y6_d_10 r146_18 hr146_18) (fun a w => Try.call15 a w) rfl trivial) ?_
      refine Wy (.l enc_GLeave y7_10) [] (Omv rfl) ?_
      obtain ⟨r148_18, hr148_18, hm⟩ := bnd hm
      refine Wy (.b r148_18) [] (Ocp [] [] [5] 0 (ok_telltaleref28_Same r146_18 y7_10 r148_18 hr148_18) (plain_triv (by simp [A.Plain, A.Plains, D.Plain, byteD])) (fun a w => Try.call14 a w) rfl trivial) ?_
      rcases tf_ r148_18 with hq149_18 | hq149_18
      ·
       replace hm := cT hq149_18 hm
       refine Wy (.b true) [] (Ocs (lit_tf (b := r148_18) hq149_18) (Omv rfl)) ?_
       refine Wy (.l enc_GChange y8_10) [] (Omv rfl) ?_
       obtain ⟨r151_18, hr151_18, hm⟩ := bnd hm
       refine Wy (.own 6) [(6, (.arr 71 3 (List.length r151_18) (flatD enc_GChange r151_18)))] (Ocf [] [6] [] 0 (ok_telltalelaw26_Back y8_10 r151_18 hr151_18) (fun a w => Try.call17 a w) rfl trivial) ?_
       refine Wy (.own 4) [] (Omv rfl) ?_
       obtain ⟨r153_18, hr153_18, hm⟩ := bnd hm
       refine Wy (.b r153_18) [] (Ocp [] [] [6, 4] 0 (ok_telltaleref26_Same r151_18 y9_10 r153_18 hr153_18) (plain_triv (by simp [A.Plain, A.Plains, D.Plain, byteD])) (fun a w => Try.call16 a w) rfl trivial) ?_
       refine Wy (.b r153_18) [] (OpT rfl) ?_
       rcases tf_ r153_18 with hq155_18 | hq155_18
       ·
        replace hm := cT hq155_18 hm
        refine Wy (.b true) [] (Ocs (lit_tf (b := r153_18) hq155_18) (Omv rfl)) ?_
        refine Wy (.i y10_10) [] (Omv rfl) ?_
        refine Wy (.i y11_10) [] (Omv rfl) ?_
        refine Wy (.b (decide (y10_10 = y11_10))) [] (Obn rfl (fun _ => hb_eql (k := .i64))) ?_
        refine Wy (.b (decide (y10_10 = y11_10))) [] (OpT rfl) ?_
        rcases tf_ (decide (y10_10 = y11_10)) with hq160_18 | hq160_18
        ·
         replace hm := cT hq160_18 hm
         refine Wy (.b true) [] (Ocs (lit_tf (b := decide (y10_10 = y11_10)) hq160_18) (Omv rfl)) ?_
         refine Wy (.agg [(.l enc_GLeave_ r30_3.L)]) [] (Old rfl) ?_
         refine Wy (.loc 1 1) [] (Ofa rfl) ?_
         refine Wy (.i p1.A) [] (Old rfl) ?_
         refine Wy (.loc 1 2) [] (Ofa rfl) ?_
         refine Wy (.i p1.B) [] (Old rfl) ?_
         obtain ⟨r166_18, hr166_18, hm⟩ := bnd hm
         refine Wy (.b r166_18) [] (Ocf [] [] [] 0 (ok_token_Book_May r30_3 p1.A p1.B r166_18 hr166_18) (fun a w => Try.call18 a w) rfl trivial) ?_
         refine Wy (.loc 0 0) [] (Ocs (by kernel_rfl) (op_iaddr_arr rfl (n := 2) (sz := 1) (y := (.loc 0 0)) (by kernel_rfl) (by kernel_rfl) (by kernel_rfl) (k := .i64) (iv := 0) (by kernel_rfl) (i := 0) (by rfl) (by decide))) ?_
         refine Wy (.l enc_GLeave p0.a0) [] (Old rfl) ?_
         refine Wy (.loc 1 1) [] (Ofa rfl) ?_
         refine Wy (.i p1.A) [] (Old rfl) ?_
         refine Wy (.loc 1 2) [] (Ofa rfl) ?_
         refine Wy (.i p1.B) [] (Old rfl) ?_
         obtain ⟨r173_18, hr173_18, hm⟩ := bnd hm
         refine Wy (.b r173_18) [] (Ocf [] [] [] 0 (ok_telltaleref28_May p0.a0 p1.A p1.B r173_18 hr173_18) (fun a w => Try.call19 a w) rfl trivial) ?_
         refine Wy (.b (decide (r166_18 = r173_18))) [] (Ocs (by kernel_rfl) (op_bin rfl (a1 := .bool r166_18) (a2 := .bool r173_18) (by kernel_rfl) (by kernel_rfl) (fun _ => hb_beql (by kernel_rfl)))) ?_
         refine Wy (.b (decide (r166_18 = r173_18))) [] (OpT rfl) ?_
         rcases tf_ (decide (r166_18 = r173_18)) with hq176_18 | hq176_18
         ·
          replace hm := cT hq176_18 hm
          refine Wy (.b true) [] (Ocs (lit_tf (b := decide (r166_18 = r173_18)) hq176_18) (Omv rfl)) ?_
          refine Wy (.agg [(.l enc_GLeave_ r30_3.L)]) [] (Old rfl) ?_
          obtain ⟨r178_18, hr178_18, hm⟩ := bnd hm
          refine Wy (.l enc_GChange r178_18) [] (Ocf [] [] [] 0 (ok_token_Book_Tally r30_3 r178_18 hr178_18) (fun a w => Try.call20 a w) rfl trivial) ?_
          obtain ⟨r179_18, hr179_18, hm⟩ := bnd hm
          refine Wy (.own 7) [(7, (.arr 71 3 (List.length r179_18) (flatD enc_GChange r179_18)))] (Ocf [] [7] [] 0 (ok_telltalelaw26_Back r178_18 r179_18 hr179_18) (fun a w => Try.call17 a w) rfl trivial) ?_
          refine Wy (.loc 0 0) [] (Ocs (by kernel_rfl) (op_iaddr_arr rfl (n := 2) (sz := 1) (y := (.loc 0 0)) (by kernel_rfl) (by kernel_rfl) (by kernel_rfl) (k := .i64) (iv := 0) (by kernel_rfl) (i := 0) (by rfl) (by decide))) ?_
          refine Wy (.l enc_GLeave p0.a0) [] (Old rfl) ?_
          obtain ⟨r182_18, hr182_18, hm⟩ := bnd hm
          refine Wy (.own 8) [(8, (.arr 71 3 (List.length r182_18) (flatD enc_GChange r182_18)))] (Ocf [] [8] [] 0 (ok_telltaleref28_Tally p0.a0 r182_18 hr182_18) (fun a w => Try.call21 a w) rfl trivial) ?_
          obtain ⟨r183_18, hr183_18, hm⟩ := bnd hm
          refine Wy (.b r183_18) [] (Ocp [] [] [7, 8] 0 (ok_telltaleref26_Same r179_18 r182_18 r183_18 hr183_18) (plain_triv (by simp [A.Plain, A.Plains, D.Plain, byteD])) (fun a w => Try.call16 a w) rfl trivial) ?_
          refine Wy (.b r183_18) [] (OpT rfl) ?_
          rcases tf_ r183_18 with hq185_18 | hq185_18
          ·
           replace hm := cT hq185_18 hm
           refine Wy (.b true) [] (Ocs (lit_tf (b := r183_18) hq185_18) (Omv rfl)) ?_
           refine Wy (.agg [(.l enc_GLeave_ r30_3.L)]) [] (Old rfl) ?_
           refine Wy (.loc 0 1) [] (Ocs (by kernel_rfl) (op_iaddr_arr rfl (n := 2) (sz := 1) (y := (.loc 0 0)) (by kernel_rfl) (by kernel_rfl) (by kernel_rfl) (k := .i64) (iv := 1) (by kernel_rfl) (i := 1) (by rfl) (by decide))) ?_
           refine Wy (.l enc_GLeave p0.a1) [] (Old rfl) ?_
           obtain ⟨r189_18, hr189_18, hm⟩ := bnd hm
           refine Wy (.agg [(.own 9)]) [(9, (.arr 47 3 (List.length r189_18.L) (flatD enc_GLeave_ r189_18.L)))] (Ocf [] [9] [] 0 (ok_telltalelaw28_Own p0.a1 r189_18 hr189_18) (fun a w => Try.call6 a w) rfl trivial) ?_
           obtain ⟨r190_18, hr190_18, hm⟩ := bnd hm
           refine Wy (.b r190_18) [] (Ocp [] [] [9] 0 (ok_token_Same r30_3 r189_18 r190_18 hr190_18) (plain_triv (by simp [A.Plain, A.Plains, D.Plain, byteD])) (fun a w => Try.call22 a w) rfl trivial) ?_
           refine Wy (.loc 0 0) [] (Ocs (by kernel_rfl) (op_iaddr_arr rfl (n := 2) (sz := 1) (y := (.loc 0 0)) (by kernel_rfl) (by kernel_rfl) (by kernel_rfl) (k := .i64) (iv := 0) (by kernel_rfl) (i := 0) (by rfl) (by decide))) ?_
           refine Wy (.l enc_GLeave p0.a0) [] (Old rfl) ?_
           refine Wy (.loc 0 1) [] (Ocs (by kernel_rfl) (op_iaddr_arr rfl (n := 2) (sz := 1) (y := (.loc 0 0)) (by kernel_rfl) (by kernel_rfl) (by kernel_rfl) (k := .i64) (iv := 1) (by kernel_rfl) (i := 1) (by rfl) (by decide))) ?_
           refine Wy (.l enc_GLeave p0.a1) [] (Old rfl) ?_
           obtain ⟨r195_18, hr195_18, hm⟩ := bnd hm
           refine Wy (.b r195_18) [] (Ocf [] [] [] 0 (ok_telltaleref28_Same p0.a0 p0.a1 r195_18 hr195_18) (fun a w => Try.call14 a w) rfl trivial) ?_
           refine Wy (.b (decide (r190_18 = r195_18))) [] (Ocs (by kernel_rfl) (op_bin rfl (a1 := .bool r190_18) (a2 := .bool r195_18) (by kernel_rfl) (by kernel_rfl) (fun _ => hb_beql (by kernel_rfl)))) ?_
           refine Wy (.b (decide (r190_18 = r195_18))) [] (OpT rfl) ?_
           rcases tf_ (decide (r190_18 = r195_18)) with hq198_18 | hq198_18
           ·
            replace hm := cT hq198_18 hm
            refine Wy (.b true) [] (Ocs (lit_tf (b := decide (r190_18 = r195_18)) hq198_18) (Omv rfl)) ?_
            refine Wy (.agg [(.l enc_GLeave_ r30_3.L)]) [] (Old rfl) ?_
            obtain ⟨r200_18, hr200_18, hm⟩ := bnd hm
            refine Wy (.own 10) [(10, (.arr 68 3 (List.length r200_18) (flatD enc_GLeave r200_18)))] (Ocf [] [10] [] 0 (ok_telltalelaw28_Back r30_3 r200_18 hr200_18) (fun a w => Try.call15 a w) rfl trivial) ?_
            refine Wy (.loc 0 0) [] (Ocs (by kernel_rfl) (op_iaddr_arr rfl (n := 2) (sz := 1) (y := (.loc 0 0)) (by kernel_rfl) (by kernel_rfl) (by kernel_rfl) (k := .i64) (iv := 0) (by kernel_rfl) (i := 0) (by rfl) (by decide))) ?_
            refine Wy (.l enc_GLeave p0.a0) [] (Old rfl) ?_
            obtain ⟨r203_18, hr203_18, hm⟩ := bnd hm
            refine Wy (.b r203_18) [] (Ocp [] [] [10] 0 (ok_telltaleref28_Same r200_18 p0.a0 r203_18 hr203_18) (plain_triv (by simp [A.Plain, A.Plains, D.Plain, byteD])) (fun a w => Try.call14 a w) rfl trivial) ?_
            refine Wy (.b r203_18) [] (OpT rfl) ?_
            rcases tf_ r203_18 with hq205_18 | hq205_18
            ·
             replace hm := cT hq205_18 hm
             refine Wy (.b true) [] (Ocs (lit_tf (b := r203_18) hq205_18) (Omv rfl)) ?_
             obtain ⟨r206_18, hr206_18, hm⟩ := bnd hm
             refine Wy (.b r206_18) [] (Ocf [] [] [] 0 (ok_telltalelaw28_awake  r206_18 hr206_18) (fun a w => Try.call5 a w) rfl trivial) ?_
             refine Wy (.b r206_18) [] (OpT rfl) ?_
             refine Wy (.b r206_18) [] (Omv rfl) ?_
             refine Wdr ?_
             refine Then.normal ?_
             refine AWP.ret ?_
             obtain rfl := Option.some.inj hm
             exact ret_i []
            ·
             replace hm := cF hq205_18 hm
             refine Wy (.b false) [] (Ocs (lit_tf (b := r203_18) hq205_18) (Omv rfl)) ?_
             refine Wn ?_
             refine Wy (.b false) [] (OpF rfl) ?_
             refine Wy (.b false) [] (Omv rfl) ?_
             refine Wdr ?_
             refine Then.normal ?_
             refine AWP.ret ?_
             obtain rfl := Option.some.inj hm
             exact ret_i []
           ·
            replace hm := cF hq198_18 hm
            refine Wy (.b false) [] (Ocs (lit_tf (b := decide (r190_18 = r195_18)) hq198_18) (Omv rfl)) ?_
            refine Wn ?_
            refine Wn ?_
            refine Wn ?_
            refine Wn ?_
            refine Wn ?_
            refine Wy (.b false) [] (OpF rfl) ?_
            refine Wy (.b false) [] (Omv rfl) ?_
            refine Wn ?_
            refine Wy (.b false) [] (OpF rfl) ?_
            refine Wy (.b false) [] (Omv rfl) ?_
            refine Wdr ?_
            refine Then.normal ?_
            refine AWP.ret ?_
            obtain rfl := Option.some.inj hm
            exact ret_i []
          ·
           replace hm := cF hq185_18 hm
           refine Wy (.b false) [] (Ocs (lit_tf (b := r183_18) hq185_18) (Omv rfl)) ?_
           refine Wn ?_
           refine Wn ?_
           refine Wn ?_
           refine Wn ?_
           refine Wn ?_
           refine Wn ?_
           refine Wn ?_
           refine Wn ?_
           refine Wn ?_
           refine Wn ?_
           refine Wn ?_
           refine Wy (.b false) [] (OpF rfl) ?_
           refine Wy (.b false) [] (Omv rfl) ?_
           refine Wn ?_
           refine Wn ?_
           refine Wn ?_
           refine Wn ?_
           refine Wn ?_
           refine Wy (.b false) [] (OpF rfl) ?_
           refine Wy (.b false) [] (Omv rfl) ?_
           refine Wn ?_
           refine Wy (.b false) [] (OpF rfl) ?_
           refine Wy (.b false) [] (Omv rfl) ?_
           refine Wdr ?_
           refine Then.normal ?_
           refine AWP.ret ?_
           obtain rfl := Option.some.inj hm
           exact ret_i []
         ·
          replace hm := cF hq176_18 hm
          refine Wy (.b false) [] (Ocs (lit_tf (b := decide (r166_18 = r173_18)) hq176_18) (Omv rfl)) ?_
          refine Wn ?_
          refine Wn ?_
          refine Wn ?_
          refine Wn ?_
          refine Wn ?_
          refine Wn ?_
          refine Wn ?_
          refine Wy (.b false) [] (OpF rfl) ?_
          refine Wy (.b false) [] (Omv rfl) ?_
          refine Wn ?_
          refine Wn ?_
          refine Wn ?_
          refine Wn ?_
          refine Wn ?_
          refine Wn ?_
          refine Wn ?_
          refine Wn ?_
          refine Wn ?_
          refine Wn ?_
          refine Wn ?_
          refine Wy (.b false) [] (OpF rfl) ?_
          refine Wy (.b false) [] (Omv rfl) ?_
          refine Wn ?_
          refine Wn ?_
          refine Wn ?_
          refine Wn ?_
          refine Wn ?_
          refine Wy (.b false) [] (OpF rfl) ?_
          refine Wy (.b false) [] (Omv rfl) ?_
          refine Wn ?_
          refine Wy (.b false) [] (OpF rfl) ?_
          refine Wy (.b false) [] (Omv rfl) ?_
          refine Wdr ?_
          refine Then.normal ?_
          refine AWP.ret ?_
          obtain rfl := Option.some.inj hm
          exact ret_i []
        ·
         replace hm := cF hq160_18 hm
         refine Wy (.b false) [] (Ocs (lit_tf (b := decide (y10_10 = y11_10)) hq160_18) (Omv rfl)) ?_
         refine Wn ?_
         refine Wn ?_
         refine Wn ?_
         refine Wn ?_
         refine Wn ?_
         refine Wn ?_
         refine Wn ?_
         refine Wn ?_
         refine Wn ?_
         refine Wn ?_
         refine Wn ?_
         refine Wn ?_
         refine Wn ?_
         refine Wn ?_
         refine Wy (.b false) [] (OpF rfl) ?_
         refine Wy (.b false) [] (Omv rfl) ?_
         refine Wn ?_
         refine Wn ?_
         refine Wn ?_
         refine Wn ?_
         refine Wn ?_
         refine Wn ?_
         refine Wn ?_
         refine Wy (.b false) [] (OpF rfl) ?_
         refine Wy (.b false) [] (Omv rfl) ?_
         refine Wn ?_
         refine Wn ?_
         refine Wn ?_
         refine Wn ?_
         refine Wn ?_
         refine Wn ?_
         refine Wn ?_
         refine Wn ?_
         refine Wn ?_
         refine Wn ?_
         refine Wn ?_
         refine Wy (.b false) [] (OpF rfl) ?_
         refine Wy (.b false) [] (Omv rfl) ?_
         refine Wn ?_
         refine Wn ?_
         refine Wn ?_
         refine Wn ?_
         refine Wn ?_
         refine Wy (.b false) [] (OpF rfl) ?_
         refine Wy (.b false) [] (Omv rfl) ?_
         refine Wn ?_
         refine Wy (.b false) [] (OpF rfl) ?_
         refine Wy (.b false) [] (Omv rfl) ?_
         refine Wdr ?_
         refine Then.normal ?_
         refine AWP.ret ?_
         obtain rfl := Option.some.inj hm
         exact ret_i []
       ·
        replace hm := cF hq155_18 hm
        refine Wy (.b false) [] (Ocs (lit_tf (b := r153_18) hq155_18) (Omv rfl)) ?_
        refine Wn ?_
        refine Wn ?_
        refine Wn ?_
        refine Wy (.b false) [] (OpF rfl) ?_
        refine Wy (.b false) [] (Omv rfl) ?_
        refine Wn ?_
        refine Wn ?_
        refine Wn ?_
        refine Wn ?_
        refine Wn ?_
        refine Wn ?_
        refine Wn ?_
        refine Wn ?_
        refine Wn ?_
        refine Wn ?_
        refine Wn ?_
        refine Wn ?_
        refine Wn ?_
        refine Wn ?_
        refine Wy (.b false) [] (OpF rfl) ?_
        refine Wy (.b false) [] (Omv rfl) ?_
        refine Wn ?_
        refine Wn ?_
        refine Wn ?_
        refine Wn ?_
        refine Wn ?_
        refine Wn ?_
        refine Wn ?_
        refine Wy (.b false) [] (OpF rfl) ?_
        refine Wy (.b false) [] (Omv rfl) ?_
        refine Wn ?_
        refine Wn ?_
        refine Wn ?_
        refine Wn ?_
        refine Wn ?_
        refine Wn ?_
        refine Wn ?_
        refine Wn ?_
        refine Wn ?_
        refine Wn ?_
        refine Wn ?_
        refine Wy (.b false) [] (OpF rfl) ?_
        refine Wy (.b false) [] (Omv rfl) ?_
        refine Wn ?_
        refine Wn ?_
        refine Wn ?_
        refine Wn ?_
        refine Wn ?_
        refine Wy (.b false) [] (OpF rfl) ?_
        refine Wy (.b false) [] (Omv rfl) ?_
        refine Wn ?_
        refine Wy (.b false) [] (OpF rfl) ?_
        refine Wy (.b false) [] (Omv rfl) ?_
        refine Wdr ?_
        refine Then.normal ?_
        refine AWP.ret ?_
        obtain rfl := Option.some.inj hm
        exact ret_i []
      ·
       replace hm := cF hq149_18 hm
       refine Wy (.b false) [] (Ocs (lit_tf (b := r148_18) hq149_18) (Omv rfl)) ?_
       refine Wn ?_
       refine Wn ?_
       refine Wn ?_
       refine Wn ?_
       refine Wy (.b false) [] (OpF rfl) ?_
       refine Wy (.b false) [] (Omv rfl) ?_
       refine Wn ?_
       refine Wn ?_
       refine Wn ?_
       refine Wy (.b false) [] (OpF rfl) ?_
       refine Wy (.b false) [] (Omv rfl) ?_
       refine Wn ?_
       refine Wn ?_
       refine Wn ?_
       refine Wn ?_
       refine Wn ?_
       refine Wn ?_
       refine Wn ?_
       refine Wn ?_
       refine Wn ?_
       refine Wn ?_
       refine Wn ?_
       refine Wn ?_
       refine Wn ?_
       refine Wn ?_
       refine Wy (.b false) [] (OpF rfl) ?_
       refine Wy (.b false) [] (Omv rfl) ?_
       refine Wn ?_
       refine Wn ?_
       refine Wn ?_
       refine Wn ?_
       refine Wn ?_
       refine Wn ?_
       refine Wn ?_
       refine Wy (.b false) [] (OpF rfl) ?_
       refine Wy (.b false) [] (Omv rfl) ?_
       refine Wn ?_
       refine Wn ?_
       refine Wn ?_
       refine Wn ?_
       refine Wn ?_
       refine Wn ?_
       refine Wn ?_
       refine Wn ?_
       refine Wn ?_
       refine Wn ?_
       refine Wn ?_
       refine Wy (.b false) [] (OpF rfl) ?_
       refine Wy (.b false) [] (Omv rfl) ?_
       refine Wn ?_
       refine Wn ?_
       refine Wn ?_
       refine Wn ?_
       refine Wn ?_
       refine Wy (.b false) [] (OpF rfl) ?_
       refine Wy (.b false) [] (Omv rfl) ?_
       refine Wn ?_
       refine Wy (.b false) [] (OpF rfl) ?_
       refine Wy (.b false) [] (Omv rfl) ?_
       refine Wdr ?_
       refine Then.normal ?_
       refine AWP.ret ?_
       obtain rfl := Option.some.inj hm
       exact ret_i []
     refine AWP.seq ?_
     refine AWP.cutJ (α := Unit) (fun x => match x with | () => (⟨(tp 2 ((.loc 0 0) :: ((.loc 1 0) :: (tp 1 ((.loc 2 0) :: ((.loc 3 0) :: ((.l enc_GLeave y7_10) :: ((.l enc_GChange y8_10) :: ((.own 4) :: ((.i y10_10) :: ((.i y11_10) :: (tp 132 ((.b true) :: (tp 63 [])))))))))))))), [(.box [(.l enc_GLeave p0.a0), (.l enc_GLeave p0.a1)]), (.box [(.y p1.Kind), (.i p1.A), (.i p1.B)]), (.box [(.l enc_GLeave_ r30_3.L)]), (.box [(.l enc_GLeave_ y6_d_10.L)]), (.arr 71 3 (List.length y9_10) (flatD enc_GChange y9_10))], 0⟩ : St)) (fun x => match x with | () => m_telltalelaw28_TokenTurns_j14  = some r) ?_ (fun J14 => ?_)
     ·
      rintro ⟨⟩ hm
      try dsimp only at hm ⊢
      unfold m_telltalelaw28_TokenTurns_j14 at hm
      refine AWP.if_ true (by kernel_rfl) ?_
      refine AWP.seq ?_
      refine AWP.text ?_
      refine Wy (.b false) [] (Omv rfl) ?_
      refine Walk.nil ?_
      refine Then.normal ?_
      refine AWP.ret ?_
      refine Then.ret ?_
      obtain rfl := Option.some.inj hm
      exact ret_i []
     refine AWP.cutJ (α := Bool) (fun x => match x with | y144_15 => (⟨(tp 2 ((.loc 0 0) :: ((.loc 1 0) :: (tp 1 ((.loc 2 0) :: ((.loc 3 0) :: ((.l enc_GLeave y7_10) :: ((.l enc_GChange y8_10) :: ((.own 4) :: ((.i y10_10) :: ((.i y11_10) :: (tp 132 ((.b y144_15) :: (tp 63 [])))))))))))))), [(.box [(.l enc_GLeave p0.a0), (.l enc_GLeave p0.a1)]), (.box [(.y p1.Kind), (.i p1.A), (.i p1.B)]), (.box [(.l enc_GLeave_ r30_3.L)]), (.box [(.l enc_GLeave_ y6_d_10.L)]), (.arr 71 3 (List.length y9_10) (flatD enc_GChange y9_10))], 0⟩ : St)) (fun x => match x with | y144_15 => m_telltalelaw28_TokenTurns_j15 p0 p1 r30_3 y10_10 y11_10 y6_d_10 y7_10 y8_10 y9_10 y144_15 = some r) ?_ (fun J15 => ?_)
     ·
      rintro y144_15 hm
      try dsimp only at hm ⊢
      unfold m_telltalelaw28_TokenTurns_j15 at hm
      rcases tf_ y144_15 with hc144_15 | hc144_15
      ·
       replace hm := cT hc144_15 hm
       refine AWP.if_ true (Eq.trans (by kernel_rfl) (lit_tf (b := y144_15) hc144_15)) ?_
       refine AWP.seq ?_
       refine AWP.text ?_
       refine Wy (.b false) [] (Omv rfl) ?_
       refine Walk.nil ?_
       refine Then.normal ?_
       refine AWP.ret ?_
       refine Then.ret ?_
       obtain rfl := Option.some.inj hm
       exact ret_i []
      ·
       replace hm := cF hc144_15 hm
       refine AWP.if_ false (Eq.trans (by kernel_rfl) (lit_tf (b := y144_15) hc144_15)) ?_
       refine AWP.skip ?_
       refine Then.normal ?_
       exact AWP.weak (Weak.toK 4076 0 0 [0, 1, 2, 3, 4]) (J17 () hm)
     refine AWP.cutJ (α := Unit) (fun x => match x with | () => (⟨(tp 2 ((.loc 0 0) :: ((.loc 1 0) :: (tp 1 ((.loc 2 0) :: ((.loc 3 0) :: ((.l enc_GLeave y7_10) :: ((.l enc_GChange y8_10) :: ((.own 4) :: ((.i y10_10) :: ((.i y11_10) :: (tp 132 ((.b false) :: (tp 63 [])))))))))))))), [(.box [(.l enc_GLeave p0.a0), (.l enc_GLeave p0.a1)]), (.box [(.y p1.Kind), (.i p1.A), (.i p1.B)]), (.box [(.l enc_GLeave_ r30_3.L)]), (.box [(.l enc_GLeave_ y6_d_10.L)]), (.arr 71 3 (List.length y9_10) (flatD enc_GChange y9_10))], 0⟩ : St)) (fun x => match x with | () => m_telltalelaw28_TokenTurns_j16 p0 p1 r30_3 y10_10 y11_10 y6_d_10 y7_10 y8_10 y9_10 = some r) ?_ (fun J16 => ?_)
     ·
      rintro ⟨⟩ hm
      try dsimp only at hm ⊢
      unfold m_telltalelaw28_TokenTurns_j16 at hm
      refine AWP.if_ false (by kernel_rfl) ?_
      refine AWP.skip ?_
      refine Then.normal ?_
      exact AWP.weak (Weak.toK 4076 0 0 [0, 1, 2, 3, 4]) (J17 () hm)
     refine AWP.seq ?_
     refine Adr ?_
     refine Wy (.b r106_11.2) [] (Omv rfl) ?_
     refine Wy (.b (decide (p1.A < ((List.length p0.a0 : Nat) : Int)))) [] (Omv rfl) ?_
     refine Wy (.b (decide (r106_11.2 ≠ decide (p1.A < ((List.length p0.a0 : Nat) : Int))))) [] (Ocs (by kernel_rfl) (op_bin rfl (a1 := .bool r106_11.2) (a2 := .bool (decide (p1.A < ((List.length p0.a0 : Nat) : Int)))) (by kernel_rfl) (by kernel_rfl) (fun _ => hb_bneq (by kernel_rfl)))) ?_
     rcases tf_ (decide (r106_11.2 ≠ decide (p1.A < ((List.length p0.a0 : Nat) : Int)))) with hq123_13 | hq123_13
     ·
      replace hm := cT hq123_13 hm
      refine Wy (.b true) [] (Ocs (lit_tf (b := decide (r106_11.2 ≠ decide (p1.A < ((List.length p0.a0 : Nat) : Int)))) hq123_13) (Omv rfl)) ?_
      refine Wn ?_
      refine Wn ?_
      refine Wn ?_
      refine Wn ?_
      refine Wn ?_
      refine Wn ?_
      refine Wn ?_
      refine Wn ?_
      refine Wn ?_
      refine Wn ?_
      refine Wn ?_
      refine Wy (.b true) [] (OpT rfl) ?_
      refine Wy (.b true) [] (Omv rfl) ?_
      refine Wn ?_
      refine Wn ?_
      refine Wn ?_
      refine Wn ?_
      refine Wn ?_
      refine Wn ?_
      refine Wn ?_
      refine Wy (.b true) [] (OpT rfl) ?_
      refine Wdr ?_
      refine Then.normal ?_
      exact AWP.weak (Weak.toK 22300745198530623141535718272648361505984492 0 0 [0, 1, 2, 3, 4]) (J14 () hm)
     ·
      replace hm := cF hq123_13 hm
      refine Wy (.b false) [] (Ocs (lit_tf (b := decide (r106_11.2 ≠ decide (p1.A < ((List.length p0.a0 : Nat) : Int)))) hq123_13) (Omv rfl)) ?_
      refine Wy (.b (decide (p1.A < ((List.length p0.a0 : Nat) : Int)))) [] (Omv rfl) ?_
      rcases tf_ (decide (p1.A < ((List.length p0.a0 : Nat) : Int))) with hq125_13 | hq125_13
      ·
       replace hm := cT hq125_13 hm
       refine Wy (.b true) [] (Ocs (lit_tf (b := decide (p1.A < ((List.length p0.a0 : Nat) : Int))) hq125_13) (Omv rfl)) ?_
       refine Wy (.agg [(.i r106_11.1.Point.Loc), (.i r106_11.1.Point.Time), (.b r106_11.1.Held)]) [] (Old rfl) ?_
       refine Wy (.loc 2 0) [] (Ofa rfl) ?_
       refine Wy (.l enc_GLeave_ r30_3.L) [] (Old rfl) ?_
       refine Wy (.loc 1 1) [] (Ofa rfl) ?_
       refine Wy (.i p1.A) [] (Old rfl) ?_
       obtain ⟨x131_13, hx131_13, hm⟩ := bnd hm
       obtain ⟨hx131_13i, hx131_13g⟩ := geti_some hx131_13
       refine Wy (.d (.ref (List.drop ((Int.toNat p1.A) * 3) (flatD enc_GLeave_ r30_3.L)))) [] (Oia rfl enc_GLeave__len hx131_13i hx131_13g) ?_
       refine Wy (.agg [(.i x131_13.Point.Loc), (.i x131_13.Point.Time), (.b x131_13.Held)]) [] (Lf rfl enc_GLeave__len hx131_13g) ?_
       obtain ⟨v133_13, hv133_13, hm⟩ := bnd hm; replace hv133_13 := Option.some.inj hv133_13
       refine Wy (.b v133_13) [] (Ocs (Eq.trans (by kernel_rfl) (congrArg (fun z => A.d (.lit (.bool z))) hv133_13)) (op_neq_deep rfl (la := [(.i r106_11.1.Point.Loc), (.i r106_11.1.Point.Time), (.b r106_11.1.Held)]) (lb := [(.i x131_13.Point.Loc), (.i x131_13.Point.Time), (.b x131_13.Held)]) (us := [.int .i64 r106_11.1.Point.Loc, .int .i64 r106_11.1.Point.Time, .bool r106_11.1.Held]) (vs := [.int .i64 x131_13.Point.Loc, .int .i64 x131_13.Point.Time, .bool x131_13.Held]) (r := ((decide (r106_11.1.Point.Loc = x131_13.Point.Loc) && (decide (r106_11.1.Point.Time = x131_13.Point.Time) && true)) && (decide (r106_11.1.Held = x131_13.Held) && true))) (by kernel_rfl) (by kernel_rfl) (by kernel_rfl) (by kernel_rfl) (by kernel_rfl) (by kernel_rfl))) ?_
       refine Wy (.b v133_13) [] (OpT rfl) ?_
       refine Wy (.b v133_13) [] (OpF rfl) ?_
       rcases tf_ v133_13 with hq136_13 | hq136_13
       ·
        replace hm := cT hq136_13 hm
        refine Wy (.b true) [] (Ocs (lit_tf (b := v133_13) hq136_13) (Omv rfl)) ?_
        refine Wn ?_
        refine Wn ?_
        refine Wn ?_
        refine Wn ?_
        refine Wn ?_
        refine Wn ?_
        refine Wn ?_
        refine Wy (.b true) [] (OpT rfl) ?_
        refine Wdr ?_
        refine Then.normal ?_
        exact AWP.weak (Weak.toK 22300745198530623141535718272648361505984492 0 0 [0, 1, 2, 3, 4]) (J14 () hm)
       ·
        replace hm := cF hq136_13 hm
        refine Wy (.b false) [] (Ocs (lit_tf (b := v133_13) hq136_13) (Omv rfl)) ?_
        refine Wy (.b (decide (p1.A < ((List.length p0.a0 : Nat) : Int)))) [] (Omv rfl) ?_
        refine Wy (.b (!decide (p1.A < ((List.length p0.a0 : Nat) : Int)))) [] (Ocs (by kernel_rfl) (op_un rfl (a1 := .bool (decide (p1.A < ((List.length p0.a0 : Nat) : Int)))) (by kernel_rfl) (fun _ => hu_not))) ?_
        rcases tf_ (!decide (p1.A < ((List.length p0.a0 : Nat) : Int))) with hq139_13 | hq139_13
        ·
         replace hm := cT hq139_13 hm
         refine Wy (.b true) [] (Ocs (lit_tf (b := (!decide (p1.A < ((List.length p0.a0 : Nat) : Int)))) hq139_13) (Omv rfl)) ?_
         refine Wy (.agg [(.i r106_11.1.Point.Loc), (.i r106_11.1.Point.Time), (.b r106_11.1.Held)]) [] (Old rfl) ?_
         refine Wy (.agg [(.i 0), (.i 0), (.b false)]) [] (Obd rfl) ?_
         obtain ⟨v142_13, hv142_13, hm⟩ := bnd hm; replace hv142_13 := Option.some.inj hv142_13
         refine Wy (.b v142_13) [] (Ocs (Eq.trans (by kernel_rfl) (congrArg (fun z => A.d (.lit (.bool z))) hv142_13)) (op_neq_deep rfl (la := [(.i r106_11.1.Point.Loc), (.i r106_11.1.Point.Time), (.b r106_11.1.Held)]) (lb := [(.i 0), (.i 0), (.b false)]) (us := [.int .i64 r106_11.1.Point.Loc, .int .i64 r106_11.1.Point.Time, .bool r106_11.1.Held]) (vs := [.int .i64 0, .int .i64 0, .bool false]) (r := ((decide (r106_11.1.Point.Loc = 0) && (decide (r106_11.1.Point.Time = 0) && true)) && (decide (r106_11.1.Held = false) && true))) (by kernel_rfl) (by kernel_rfl) (by kernel_rfl) (by kernel_rfl) (by kernel_rfl) (by kernel_rfl))) ?_
         refine Wy (.b v142_13) [] (OpT rfl) ?_
         refine Wy (.b v142_13) [] (OpF rfl) ?_
         refine Wdr ?_
         refine Then.normal ?_
         exact AWP.weak (Weak.toK 22300745198530623141535718272648361505984492 0 0 [0, 1, 2, 3, 4]) (J15 (v142_13) hm)
        ·
         replace hm := cF hq139_13 hm
         refine Wy (.b false) [] (Ocs (lit_tf (b := (!decide (p1.A < ((List.length p0.a0 : Nat) : Int)))) hq139_13) (Omv rfl)) ?_
         refine Wn ?_
         refine Wn ?_
         refine Wn ?_
         refine Wy (.b false) [] (OpF rfl) ?_
         refine Wy (.b false) [] (OpF rfl) ?_
         refine Wdr ?_
         refine Then.normal ?_
         exact AWP.weak (Weak.toK 22300745198530623141535718272648361505984492 0 0 [0, 1, 2, 3, 4]) (J16 () hm)
      ·
       replace hm := cF hq125_13 hm
       refine Wy (.b false) [] (Ocs (lit_tf (b := decide (p1.A < ((List.length p0.a0 : Nat) : Int))) hq125_13) (Omv rfl)) ?_
       refine Wn ?_
       refine Wn ?_
       refine Wn ?_
       refine Wn ?_
       refine Wn ?_
       refine Wn ?_
       refine Wn ?_
       refine Wn ?_
       refine Wy (.b false) [] (OpF rfl) ?_
       refine Wy (.b false) [] (OpF rfl) ?_
       refine Wy (.b false) [] (Omv rfl) ?_
       refine Wy (.b (decide (p1.A < ((List.length p0.a0 : Nat) : Int)))) [] (Omv rfl) ?_
       refine Wy (.b (!decide (p1.A < ((List.length p0.a0 : Nat) : Int)))) [] (Ocs (by kernel_rfl) (op_un rfl (a1 := .bool (decide (p1.A < ((List.length p0.a0 : Nat) : Int)))) (by kernel_rfl) (fun _ => hu_not))) ?_
       rcases tf_ (!decide (p1.A < ((List.length p0.a0 : Nat) : Int))) with hq139_13 | hq139_13
       ·
        replace hm := cT hq139_13 hm
        refine Wy (.b true) [] (Ocs (lit_tf (b := (!decide (p1.A < ((List.length p0.a0 : Nat) : Int)))) hq139_13) (Omv rfl)) ?_
        refine Wy (.agg [(.i r106_11.1.Point.Loc), (.i r106_11.1.Point.Time), (.b r106_11.1.Held)]) [] (Old rfl) ?_
        refine Wy (.agg [(.i 0), (.i 0), (.b false)]) [] (Obd rfl) ?_
        obtain ⟨v142_13, hv142_13, hm⟩ := bnd hm; replace hv142_13 := Option.some.inj hv142_13
        refine Wy (.b v142_13) [] (Ocs (Eq.trans (by kernel_rfl) (congrArg (fun z => A.d (.lit (.bool z))) hv142_13)) (op_neq_deep rfl (la := [(.i r106_11.1.Point.Loc), (.i r106_11.1.Point.Time), (.b r106_11.1.Held)]) (lb := [(.i 0), (.i 0), (.b false)]) (us := [.int .i64 r106_11.1.Point.Loc, .int .i64 r106_11.1.Point.Time, .bool r106_11.1.Held]) (vs := [.int .i64 0, .int .i64 0, .bool false]) (r := ((decide (r106_11.1.Point.Loc = 0) && (decide (r106_11.1.Point.Time = 0) && true)) && (decide (r106_11.1.Held = false) && true))) (by kernel_rfl) (by kernel_rfl) (by kernel_rfl) (by kernel_rfl) (by kernel_rfl) (by kernel_rfl))) ?_
        refine Wy (.b v142_13) [] (OpT rfl) ?_
        refine Wy (.b v142_13) [] (OpF rfl) ?_
        refine Wdr ?_
        refine Then.normal ?_
        exact AWP.weak (Weak.toK 22300745198530623141535718272648361505984492 0 0 [0, 1, 2, 3, 4]) (J15 (v142_13) hm)
       ·
        replace hm := cF hq139_13 hm
        refine Wy (.b false) [] (Ocs (lit_tf (b := (!decide (p1.A < ((List.length p0.a0 : Nat) : Int)))) hq139_13) (Omv rfl)) ?_
        refine Wn ?_
        refine Wn ?_
        refine Wn ?_
        refine Wy (.b false) [] (OpF rfl) ?_
        refine Wy (.b false) [] (OpF rfl) ?_
        refine Wdr ?_
        refine Then.normal ?_
        exact AWP.weak (Weak.toK 22300745198530623141535718272648361505984492 0 0 [0, 1, 2, 3, 4]) (J16 () hm)
    ·
     replace hm := cF hq112_12 hm
     refine Wy (.b false) [] (Ocs (lit_tf (b := decide ((0 : Int) ≤ p1.A)) hq112_12) (Omv rfl)) ?_
     refine Wn ?_
     refine Wn ?_
     refine Wn ?_
     refine Wn ?_
     refine Wn ?_
     refine Wn ?_
     refine Wy (.b false) [] (OpF rfl) ?_
     refine Wy (.b false) [] (Omv rfl) ?_
     refine Walk.nil ?_
     refine Then.normal ?_
     refine Amk 118764 63 ⟨(tp 2 ((.loc 0 0) :: ((.loc 1 0) :: (tp 1 ((.loc 2 0) :: ((.loc 3 0) :: ((.l enc_GLeave y7_10) :: ((.l enc_GChange y8_10) :: ((.own 4) :: ((.i y10_10) :: ((.i y11_10) :: (tp 2 ((.loc 5 0) :: ((.b r106_11.2) :: ((.b false) :: (tp 191 [])))))))))))))))), [(.box [(.l enc_GLeave p0.a0), (.l enc_GLeave p0.a1)]), (.box [(.y p1.Kind), (.i p1.A), (.i p1.B)]), (.box [(.l enc_GLeave_ r30_3.L)]), (.box [(.l enc_GLeave_ y6_d_10.L)]), (.arr 71 3 (List.length y9_10) (flatD enc_GChange y9_10)), (.box [(.i r106_11.1.Point.Loc), (.i r106_11.1.Point.Time), (.b r106_11.1.Held)])], 0⟩ ?_
     refine AWP.seq ?_
     refine AWP.seq ?_
     refine Adr ?_
     refine Wy (.b r106_11.2) [] (Omv rfl) ?_
     refine Wy (.b false) [] (Omv rfl) ?_
     refine Wy (.b (decide (r106_11.2 ≠ false))) [] (Ocs (by kernel_rfl) (op_bin rfl (a1 := .bool r106_11.2) (a2 := .bool false) (by kernel_rfl) (by kernel_rfl) (fun _ => hb_bneq (by kernel_rfl)))) ?_
     rcases tf_ (decide (r106_11.2 ≠ false)) with hq123_19 | hq123_19
     ·
      replace hm := cT hq123_19 hm
      refine Wy (.b true) [] (Ocs (lit_tf (b := decide (r106_11.2 ≠ false)) hq123_19) (Omv rfl)) ?_
      refine Wn ?_
      refine Wn ?_
      refine Wn ?_
      refine Wn ?_
      refine Wn ?_
      refine Wn ?_
      refine Wn ?_
      refine Wn ?_
      refine Wn ?_
      refine Wn ?_
      refine Wn ?_
      refine Wy (.b true) [] (OpT rfl) ?_
      refine Wy (.b true) [] (Omv rfl) ?_
      refine Wn ?_
      refine Wn ?_
      refine Wn ?_
      refine Wn ?_
      refine Wn ?_
      refine Wn ?_
      refine Wn ?_
      refine Wy (.b true) [] (OpT rfl) ?_
      refine Wdr ?_
      refine Then.normal ?_
      refine Amk 22300745198530623141535718272648361505984492 31 ⟨(tp 2 ((.loc 0 0) :: ((.loc 1 0) :: (tp 1 ((.loc 2 0) :: ((.loc 3 0) :: ((.l enc_GLeave y7_10) :: ((.l enc_GChange y8_10) :: ((.own 4) :: ((.i y10_10) :: ((.i y11_10) :: (tp 132 ((.b true) :: (tp 63 [])))))))))))))), [(.box [(.l enc_GLeave p0.a0), (.l enc_GLeave p0.a1)]), (.box [(.y p1.Kind), (.i p1.A), (.i p1.B)]), (.box [(.l enc_GLeave_ r30_3.L)]), (.box [(.l enc_GLeave_ y6_d_10.L)]), (.arr 71 3 (List.length y9_10) (flatD enc_GChange y9_10)), .gone], 0⟩ ?_
      refine AWP.if_ true (by kernel_rfl) ?_
      refine AWP.seq ?_
      refine AWP.text ?_
      refine Wy (.b false) [] (Omv rfl) ?_
      refine Walk.nil ?_
      refine Then.normal ?_
      refine AWP.ret ?_
      refine Then.ret ?_
      obtain rfl := Option.some.inj hm
      exact ret_i []
     ·
      replace hm := cF hq123_19 hm
      refine Wy (.b false) [] (Ocs (lit_tf (b := decide (r106_11.2 ≠ false)) hq123_19) (Omv rfl)) ?_
      refine Wy (.b false) [] (Omv rfl) ?_
      refine Wy (.b false) [] (Omv rfl) ?_
      refine Wn ?_
      refine Wn ?_
      refine Wn ?_
      refine Wn ?_
      refine Wn ?_
      refine Wn ?_
      refine Wn ?_
      refine Wn ?_
      refine Wy (.b false) [] (OpF rfl) ?_
      refine Wy (.b false) [] (OpF rfl) ?_
      refine Wy (.b false) [] (Omv rfl) ?_
      refine Wy (.b false) [] (Omv rfl) ?_
      refine Wy (.b true) [] (Ocs (by kernel_rfl) (op_un rfl (a1 := .bool false) (by kernel_rfl) (fun _ => hu_not))) ?_
      refine Wy (.b true) [] (Omv rfl) ?_
      refine Wy (.agg [(.i r106_11.1.Point.Loc), (.i r106_11.1.Point.Time), (.b r106_11.1.Held)]) [] (Old rfl) ?_
      refine Wy (.agg [(.i 0), (.i 0), (.b false)]) [] (Obd rfl) ?_
      obtain ⟨v142_19, hv142_19, hm⟩ := bnd hm; replace hv142_19 := Option.some.inj hv142_19
      refine Wy (.b v142_19) [] (Ocs (Eq.trans (by kernel_rfl) (congrArg (fun z => A.d (.lit (.bool z))) hv142_19)) (op_neq_deep rfl (la := [(.i r106_11.1.Point.Loc), (.i r106_11.1.Point.Time), (.b r106_11.1.Held)]) (lb := [(.i 0), (.i 0), (.b false)]) (us := [.int .i64 r106_11.1.Point.Loc, .int .i64 r106_11.1.Point.Time, .bool r106_11.1.Held]) (vs := [.int .i64 0, .int .i64 0, .bool false]) (r := ((decide (r106_11.1.Point.Loc = 0) && (decide (r106_11.1.Point.Time = 0) && true)) && (decide (r106_11.1.Held = false) && true))) (by kernel_rfl) (by kernel_rfl) (by kernel_rfl) (by kernel_rfl) (by kernel_rfl) (by kernel_rfl))) ?_
      refine Wy (.b v142_19) [] (OpT rfl) ?_
      refine Wy (.b v142_19) [] (OpF rfl) ?_
      refine Wdr ?_
      refine Then.normal ?_
      refine Amk 22300745198530623141535718272648361505984492 31 ⟨(tp 2 ((.loc 0 0) :: ((.loc 1 0) :: (tp 1 ((.loc 2 0) :: ((.loc 3 0) :: ((.l enc_GLeave y7_10) :: ((.l enc_GChange y8_10) :: ((.own 4) :: ((.i y10_10) :: ((.i y11_10) :: (tp 132 ((.b v142_19) :: (tp 63 [])))))))))))))), [(.box [(.l enc_GLeave p0.a0), (.l enc_GLeave p0.a1)]), (.box [(.y p1.Kind), (.i p1.A), (.i p1.B)]), (.box [(.l enc_GLeave_ r30_3.L)]), (.box [(.l enc_GLeave_ y6_d_10.L)]), (.arr 71 3 (List.length y9_10) (flatD enc_GChange y9_10)), .gone], 0⟩ ?_
      rcases tf_ v142_19 with hc144_22 | hc144_22
      ·
       replace hm := cT hc144_22 hm
       refine AWP.if_ true (Eq.trans (by kernel_rfl) (lit_tf (b := v142_19) hc144_22)) ?_
       refine AWP.seq ?_
       refine AWP.text ?_
       refine Wy (.b false) [] (Omv rfl) ?_
       refine Walk.nil ?_
       refine Then.normal ?_
       refine AWP.ret ?_
       refine Then.ret ?_
       obtain rfl := Option.some.inj hm
       exact ret_i []
      ·
       replace hm := cF hc144_22 hm
       refine AWP.if_ false (Eq.trans (by kernel_rfl) (lit_tf (b := v142_19) hc144_22)) ?_
       refine AWP.skip ?_
       refine Then.normal ?_
       refine Amk 4076 31 ⟨(tp 2 ((.loc 0 0) :: ((.loc 1 0) :: (tp 1 ((.loc 2 0) :: ((.loc 3 0) :: ((.l enc_GLeave y7_10) :: ((.l enc_GChange y8_10) :: ((.own 4) :: ((.i y10_10) :: ((.i y11_10) :: (tp 196 [])))))))))))), [(.box [(.l enc_GLeave p0.a0), (.l enc_GLeave p0.a1)]), (.box [(.y p1.Kind), (.i p1.A), (.i p1.B)]), (.box [(.l enc_GLeave_ r30_3.L)]), (.box [(.l enc_GLeave_ y6_d_10.L)]), (.arr 71 3 (List.length y9_10) (flatD enc_GChange y9_10)), .gone], 0⟩ ?_
       refine AWP.seq ?_
       refine Adr ?_
       refine Wy (.agg [(.l enc_GLeave_ y6_d_10.L)]) [] (Old rfl) ?_
       obtain ⟨r146_20, hr146_20, hm⟩ := bnd hm
       refine Wy (.own 6) [(6, (.arr 68 3 (List.length r146_20) (flatD enc_GLeave r146_20)))] (Ocf [] [6] [] 0 (ok_telltalelaw28_Back y6_d_10 r146_20 hr146_20) (fun a w => Try.call15 a w) rfl trivial) ?_
       refine Wy (.l enc_GLeave y7_10) [] (Omv rfl) ?_
       obtain ⟨r148_20, hr148_20, hm⟩ := bnd hm
       refine Wy (.b r148_20) [] (Ocp [] [] [6] 0 (ok_telltaleref28_Same r146_20 y7_10 r148_20 hr148_20) (plain_triv (by simp [A.Plain, A.Plains, D.Plain, byteD])) (fun a w => Try.call14 a w) rfl trivial) ?_
       rcases tf_ r148_20 with hq149_20 | hq149_20
       ·
        replace hm := cT hq149_20 hm
        refine Wy (.b true) [] (Ocs (lit_tf (b := r148_20) hq149_20) (Omv rfl)) ?_
        refine Wy (.l enc_GChange y8_10) [] (Omv rfl) ?_
        obtain ⟨r151_20, hr151_20, hm⟩ := bnd hm
        refine Wy (.own 7) [(7, (.arr 71 3 (List.length r151_20) (flatD enc_GChange r151_20)))] (Ocf [] [7] [] 0 (ok_telltalelaw26_Back y8_10 r151_20 hr151_20) (fun a w => Try.call17 a w) rfl trivial) ?_
        refine Wy (.own 4) [] (Omv rfl) ?_
        obtain ⟨r153_20, hr153_20, hm⟩ := bnd hm
        refine Wy (.b r153_20) [] (Ocp [] [] [7, 4] 0 (ok_telltaleref26_Same r151_20 y9_10 r153_20 hr153_20) (plain_triv (by simp [A.Plain, A.Plains, D.Plain, byteD])) (fun a w => Try.call16 a w) rfl trivial) ?_
        refine Wy (.b r153_20) [] (OpT rfl) ?_
        rcases tf_ r153_20 with hq155_20 | hq155_20
        ·
         replace hm := cT hq155_20 hm
         refine Wy (.b true) [] (Ocs (lit_tf (b := r153_20) hq155_20) (Omv rfl)) ?_
         refine Wy (.i y10_10) [] (Omv rfl) ?_
         refine Wy (.i y11_10) [] (Omv rfl) ?_
         refine Wy (.b (decide (y10_10 = y11_10))) [] (Obn rfl (fun _ => hb_eql (k := .i64))) ?_
         refine Wy (.b (decide (y10_10 = y11_10))) [] (OpT rfl) ?_
         rcases tf_ (decide (y10_10 = y11_10)) with hq160_20 | hq160_20
         ·
          replace hm := cT hq160_20 hm
          refine Wy (.b true) [] (Ocs (lit_tf (b := decide (y10_10 = y11_10)) hq160_20) (Omv rfl)) ?_
          refine Wy (.agg [(.l enc_GLeave_ r30_3.L)]) [] (Old rfl) ?_
          refine Wy (.loc 1 1) [] (Ofa rfl) ?_
          refine Wy (.i p1.A) [] (Old rfl) ?_
          refine Wy (.loc 1 2) [] (Ofa rfl) ?_
          refine Wy (.i p1.B) [] (Old rfl) ?_
          obtain ⟨r166_20, hr166_20, hm⟩ := bnd hm
          refine Wy (.b r166_20) [] (Ocf [] [] [] 0 (ok_token_Book_May r30_3 p1.A p1.B r166_20 hr166_20) (fun a w => Try.call18 a w) rfl trivial) ?_
          refine Wy (.loc 0 0) [] (Ocs (by kernel_rfl) (op_iaddr_arr rfl (n := 2) (sz := 1) (y := (.loc 0 0)) (by kernel_rfl) (by kernel_rfl) (by kernel_rfl) (k := .i64) (iv := 0) (by kernel_rfl) (i := 0) (by rfl) (by decide))) ?_
          refine Wy (.l enc_GLeave p0.a0) [] (Old rfl) ?_
          refine Wy (.loc 1 1) [] (Ofa rfl) ?_
          refine Wy (.i p1.A) [] (Old rfl) ?_
          refine Wy (.loc 1 2) [] (Ofa rfl) ?_
          refine Wy (.i p1.B) [] (Old rfl) ?_
          obtain ⟨r173_20, hr173_20, hm⟩ := bnd hm
          refine Wy (.b r173_20) [] (Ocf [] [] [] 0 (ok_telltaleref28_May p0.a0 p1.A p1.B r173_20 hr173_20) (fun a w => Try.call19 a w) rfl trivial) ?_
          refine Wy (.b (decide (r166_20 = r173_20))) [] (Ocs (by kernel_rfl) (op_bin rfl (a1 := .bool r166_20) (a2 := .bool r173_20) (by kernel_rfl) (by kernel_rfl) (fun _ => hb_beql (by kernel_rfl)))) ?_
          refine Wy (.b (decide (r166_20 = r173_20))) [] (OpT rfl) ?_
          rcases tf_ (decide (r166_20 = r173_20)) with hq176_20 | hq176_20
          ·
           replace hm := cT hq176_20 hm
           refine Wy (.b true) [] (Ocs (lit_tf (b := decide (r166_20 = r173_20)) hq176_20) (Omv rfl)) ?_
           refine Wy (.agg [(.l enc_GLeave_ r30_3.L)]) [] (Old rfl) ?_
           obtain ⟨r178_20, hr178_20, hm⟩ := bnd hm
           refine Wy (.l enc_GChange r178_20) [] (Ocf [] [] [] 0 (ok_token_Book_Tally r30_3 r178_20 hr178_20) (fun a w => Try.call20 a w) rfl trivial) ?_
           obtain ⟨r179_20, hr179_20, hm⟩ := bnd hm
           refine Wy (.own 8) [(8, (.arr 71 3 (List.length r179_20) (flatD enc_GChange r179_20)))] (Ocf [] [8] [] 0 (ok_telltalelaw26_Back r178_20 r179_20 hr179_20) (fun a w => Try.call17 a w) rfl trivial) ?_
           refine Wy (.loc 0 0) [] (Ocs (by kernel_rfl) (op_iaddr_arr rfl (n := 2) (sz := 1) (y := (.loc 0 0)) (by kernel_rfl) (by kernel_rfl) (by kernel_rfl) (k := .i64) (iv := 0) (by kernel_rfl) (i := 0) (by rfl) (by decide))) ?_
           refine Wy (.l enc_GLeave p0.a0) [] (Old rfl) ?_
           obtain ⟨r182_20, hr182_20, hm⟩ := bnd hm
           refine Wy (.own 9) [(9, (.arr 71 3 (List.length r182_20) (flatD enc_GChange r182_20)))] (Ocf [] [9] [] 0 (ok_telltaleref28_Tally p0.a0 r182_20 hr182_20) (fun a w => Try.call21 a w) rfl trivial) ?_
           obtain ⟨r183_20, hr183_20, hm⟩ := bnd hm
           refine Wy (.b r183_20) [] (Ocp [] [] [8, 9] 0 (ok_telltaleref26_Same r179_20 r182_20 r183_20 hr183_20) (plain_triv (by simp [A.Plain, A.Plains, D.Plain, byteD])) (fun a w => Try.call16 a w) rfl trivial) ?_
           refine Wy (.b r183_20) [] (OpT rfl) ?_
           rcases tf_ r183_20 with hq185_20 | hq185_20
           ·
            replace hm := cT hq185_20 hm
            refine Wy (.b true) [] (Ocs (lit_tf (b := r183_20) hq185_20) (Omv rfl)) ?_
            refine Wy (.agg [(.l enc_GLeave_ r30_3.L)]) [] (Old rfl) ?_
            refine Wy (.loc 0 1) [] (Ocs (by kernel_rfl) (op_iaddr_arr rfl (n := 2) (sz := 1) (y := (.loc 0 0)) (by kernel_rfl) (by kernel_rfl) (by kernel_rfl) (k := .i64) (iv := 1) (by kernel_rfl) (i := 1) (by rfl) (by decide))) ?_
            refine Wy (.l enc_GLeave p0.a1) [] (Old rfl) ?_
            obtain ⟨r189_20, hr189_20, hm⟩ := bnd hm
            refine Wy (.agg [(.own 10)]) [(10, (.arr 47 3 (List.length r189_20.L) (flatD enc_GLeave_ r189_20.L)))] (Ocf [] [10] [] 0 (ok_telltalelaw28_Own p0.a1 r189_20 hr189_20) (fun a w => Try.call6 a w) rfl trivial) ?_
            obtain ⟨r190_20, hr190_20, hm⟩ := bnd hm
            refine Wy (.b r190_20) [] (Ocp [] [] [10] 0 (ok_token_Same r30_3 r189_20 r190_20 hr190_20) (plain_triv (by simp [A.Plain, A.Plains, D.Plain, byteD])) (fun a w => Try.call22 a w) rfl trivial) ?_
            refine Wy (.loc 0 0) [] (Ocs (by kernel_rfl) (op_iaddr_arr rfl (n := 2) (sz := 1) (y := (.loc 0 0)) (by kernel_rfl) (by kernel_rfl) (by kernel_rfl) (k := .i64) (iv := 0) (by kernel_rfl) (i := 0) (by rfl) (by decide))) ?_
            refine Wy (.l enc_GLeave p0.a0) [] (Old rfl) ?_
            refine Wy (.loc 0 1) [] (Ocs (by kernel_rfl) (op_iaddr_arr rfl (n := 2) (sz := 1) (y := (.loc 0 0)) (by kernel_rfl) (by kernel_rfl) (by kernel_rfl) (k := .i64) (iv := 1) (by kernel_rfl) (i := 1) (by rfl) (by decide))) ?_
            refine Wy (.l enc_GLeave p0.a1) [] (Old rfl) ?_
            obtain ⟨r195_20, hr195_20, hm⟩ := bnd hm
            refine Wy (.b r195_20) [] (Ocf [] [] [] 0 (ok_telltaleref28_Same p0.a0 p0.a1 r195_20 hr195_20) (fun a w => Try.call14 a w) rfl trivial) ?_
            refine Wy (.b (decide (r190_20 = r195_20))) [] (Ocs (by kernel_rfl) (op_bin rfl (a1 := .bool r190_20) (a2 := .bool r195_20) (by kernel_rfl) (by kernel_rfl) (fun _ => hb_beql (by kernel_rfl)))) ?_
            refine Wy (.b (decide (r190_20 = r195_20))) [] (OpT rfl) ?_
            rcases tf_ (decide (r190_20 = r195_20)) with hq198_20 | hq198_20
            ·
             replace hm := cT hq198_20 hm
             refine Wy (.b true) [] (Ocs (lit_tf (b := decide (r190_20 = r195_20)) hq198_20) (Omv rfl)) ?_
             refine Wy (.agg [(.l enc_GLeave_ r30_3.L)]) [] (Old rfl) ?_
             obtain ⟨r200_20, hr200_20, hm⟩ := bnd hm
             refine Wy (.own 11) [(11, (.arr 68 3 (List.length r200_20) (flatD enc_GLeave r200_20)))] (Ocf [] [11] [] 0 (ok_telltalelaw28_Back r30_3 r200_20 hr200_20) (fun a w => Try.call15 a w) rfl trivial) ?_
             refine Wy (.loc 0 0) [] (Ocs (by kernel_rfl) (op_iaddr_arr rfl (n := 2) (sz := 1) (y := (.loc 0 0)) (by kernel_rfl) (by kernel_rfl) (by kernel_rfl) (k := .i64) (iv := 0) (by kernel_rfl) (i := 0) (by rfl) (by decide))) ?_
             refine Wy (.l enc_GLeave p0.a0) [] (Old rfl) ?_
             obtain ⟨r203_20, hr203_20, hm⟩ := bnd hm
             refine Wy (.b r203_20) [] (Ocp [] [] [11] 0 (ok_telltaleref28_Same r200_20 p0.a0 r203_20 hr203_20) (plain_triv (by simp [A.Plain, A.Plains, D.Plain, byteD])) (fun a w => Try.call14 a w) rfl trivial) ?_
             refine Wy (.b r203_20) [] (OpT rfl) ?_
             rcases tf_ r203_20 with hq205_20 | hq205_20
             ·
              replace hm := cT hq205_20 hm
              refine Wy (.b true) [] (Ocs (lit_tf (b := r203_20) hq205_20) (Omv rfl)) ?_
              obtain ⟨r206_20, hr206_20, hm⟩ := bnd hm
              refine Wy (.b r206_20) [] (Ocf [] [] [] 0 (ok_telltalelaw28_awake  r206_20 hr206_20) (fun a w => Try.call5 a w) rfl trivial) ?_
              refine Wy (.b r206_20) [] (OpT rfl) ?_
              refine Wy (.b r206_20) [] (Omv rfl) ?_
              refine Wdr ?_
              refine Then.normal ?_
              refine AWP.ret ?_
              obtain rfl := Option.some.inj hm
              exact ret_i []
             ·
              replace hm := cF hq205_20 hm
              refine Wy (.b false) [] (Ocs (lit_tf (b := r203_20) hq205_20) (Omv rfl)) ?_
              refine Wn ?_
              refine Wy (.b false) [] (OpF rfl) ?_
              refine Wy (.b false) [] (Omv rfl) ?_
              refine Wdr ?_
              refine Then.normal ?_
              refine AWP.ret ?_
              obtain rfl := Option.some.inj hm
              exact ret_i []
            ·
             replace hm := cF hq198_20 hm
             refine Wy (.b false) [] (Ocs (lit_tf (b := decide (r190_20 = r195_20)) hq198_20) (Omv rfl)) ?_
             refine Wn ?_
             refine Wn ?_
             refine Wn ?_
             refine Wn ?_
             refine Wn ?_
             refine Wy (.b false) [] (OpF rfl) ?_
             refine Wy (.b false) [] (Omv rfl) ?_
             refine Wn ?_
             refine Wy (.b false) [] (OpF rfl) ?_
             refine Wy (.b false) [] (Omv rfl) ?_
             refine Wdr ?_
             refine Then.normal ?_
             refine AWP.ret ?_
             obtain rfl := Option.some.inj hm
             exact ret_i []
           ·
            replace hm := cF hq185_20 hm
            refine Wy (.b false) [] (Ocs (lit_tf (b := r183_20) hq185_20) (Omv rfl)) ?_
            refine Wn ?_
            refine Wn ?_
            refine Wn ?_
            refine Wn ?_
            refine Wn ?_
            refine Wn ?_
            refine Wn ?_
            refine Wn ?_
            refine Wn ?_
            refine Wn ?_
            refine Wn ?_
            refine Wy (.b false) [] (OpF rfl) ?_
            refine Wy (.b false) [] (Omv rfl) ?_
            refine Wn ?_
            refine Wn ?_
            refine Wn ?_
            refine Wn ?_
            refine Wn ?_
            refine Wy (.b false) [] (OpF rfl) ?_
            refine Wy (.b false) [] (Omv rfl) ?_
            refine Wn ?_
            refine Wy (.b false) [] (OpF rfl) ?_
            refine Wy (.b false) [] (Omv rfl) ?_
            refine Wdr ?_
            refine Then.normal ?_
            refine AWP.ret ?_
            obtain rfl := Option.some.inj hm
            exact ret_i []
          ·
           replace hm := cF hq176_20 hm
           refine Wy (.b false) [] (Ocs (lit_tf (b := decide (r166_20 = r173_20)) hq176_20) (Omv rfl)) ?_
           refine Wn ?_
           refine Wn ?_
           refine Wn ?_
           refine Wn ?_
           refine Wn ?_
           refine Wn ?_
           refine Wn ?_
           refine Wy (.b false) [] (OpF rfl) ?_
           refine Wy (.b false) [] (Omv rfl) ?_
           refine Wn ?_
           refine Wn ?_
           refine Wn ?_
           refine Wn ?_
           refine Wn ?_
           refine Wn ?_
           refine Wn ?_
           refine Wn ?_
           refine Wn ?_
           refine Wn ?_
           refine Wn ?_
           refine Wy (.b false) [] (OpF rfl) ?_
           refine Wy (.b false) [] (Omv rfl) ?_
           refine Wn ?_
           refine Wn ?_
           refine Wn ?_
           refine Wn ?_
           refine Wn ?_
           refine Wy (.b false) [] (OpF rfl) ?_
           refine Wy (.b false) [] (Omv rfl) ?_
           refine Wn ?_
           refine Wy (.b false) [] (OpF rfl) ?_
           refine Wy (.b false) [] (Omv rfl) ?_
           refine Wdr ?_
           refine Then.normal ?_
           refine AWP.ret ?_
           obtain rfl := Option.some.inj hm
           exact ret_i []
         ·
          replace hm := cF hq160_20 hm
          refine Wy (.b false) [] (Ocs (lit_tf (b := decide (y10_10 = y11_10)) hq160_20) (Omv rfl)) ?_
          refine Wn ?_
          refine Wn ?_
          refine Wn ?_
          refine Wn ?_
          refine Wn ?_
          refine Wn ?_
          refine Wn ?_
          refine Wn ?_
          refine Wn ?_
          refine Wn ?_
          refine Wn ?_
          refine Wn ?_
          refine Wn ?_
          refine Wn ?_
          refine Wy (.b false) [] (OpF rfl) ?_
          refine Wy (.b false) [] (Omv rfl) ?_
          refine Wn ?_
          refine Wn ?_
          refine Wn ?_
          refine Wn ?_
          refine Wn ?_
          refine Wn ?_
          refine Wn ?_
          refine Wy (.b false) [] (OpF rfl) ?_
          refine Wy (.b false) [] (Omv rfl) ?_
          refine Wn ?_
          refine Wn ?_
          refine Wn ?_
          refine Wn ?_
          refine Wn ?_
          refine Wn ?_
          refine Wn ?_
          refine Wn ?_
          refine Wn ?_
          refine Wn ?_
          refine Wn ?_
          refine Wy (.b false) [] (OpF rfl) ?_
          refine Wy (.b false) [] (Omv rfl) ?_
          refine Wn ?_
          refine Wn ?_
          refine Wn ?_
          refine Wn ?_
          refine Wn ?_
          refine Wy (.b false) [] (OpF rfl) ?_
          refine Wy (.b false) [] (Omv rfl) ?_
          refine Wn ?_
          refine Wy (.b false) [] (OpF rfl) ?_
          refine Wy (.b false) [] (Omv rfl) ?_
          refine Wdr ?_
          refine Then.normal ?_
          refine AWP.ret ?_
          obtain rfl := Option.some.inj hm
          exact ret_i []
        ·
         replace hm := cF hq155_20 hm
         refine Wy (.b false) [] (Ocs (lit_tf (b := r153_20) hq155_20) (Omv rfl)) ?_
         refine Wn ?_
         refine Wn ?_
         refine Wn ?_
         refine Wy (.b false) [] (OpF rfl) ?_
         refine Wy (.b false) [] (Omv rfl) ?_
         refine Wn ?_
         refine Wn ?_
         refine Wn ?_
         refine Wn ?_
         refine Wn ?_
         refine Wn ?_
         refine Wn ?_
         refine Wn ?_
         refine Wn ?_
         refine Wn ?_
         refine Wn ?_
         refine Wn ?_
         refine Wn ?_
         refine Wn ?_
         refine Wy (.b false) [] (OpF rfl) ?_
         refine Wy (.b false) [] (Omv rfl) ?_
         refine Wn ?_
         refine Wn ?_
         refine Wn ?_
         refine Wn ?_
         refine Wn ?_
         refine Wn ?_
         refine Wn ?_
         refine Wy (.b false) [] (OpF rfl) ?_
         refine Wy (.b false) [] (Omv rfl) ?_
         refine Wn ?_
         refine Wn ?_
         refine Wn ?_
         refine Wn ?_
         refine Wn ?_
         refine Wn ?_
         refine Wn ?_
         refine Wn ?_
         refine Wn ?_
         refine Wn ?_
         refine Wn ?_
         refine Wy (.b false) [] (OpF rfl) ?_
         refine Wy (.b false) [] (Omv rfl) ?_
         refine Wn ?_
         refine Wn ?_
         refine Wn ?_
         refine Wn ?_
         refine Wn ?_
         refine Wy (.b false) [] (OpF rfl) ?_
         refine Wy (.b false) [] (Omv rfl) ?_
         refine Wn ?_
         refine Wy (.b false) [] (OpF rfl) ?_
         refine Wy (.b false) [] (Omv rfl) ?_
         refine Wdr ?_
         refine Then.normal ?_
         refine AWP.ret ?_
         obtain rfl := Option.some.inj hm
         exact ret_i []
       ·
        replace hm := cF hq149_20 hm
        refine Wy (.b false) [] (Ocs (lit_tf (b := r148_20) hq149_20) (Omv rfl)) ?_
        refine Wn ?_
        refine Wn ?_
        refine Wn ?_
        refine Wn ?_
        refine Wy (.b false) [] (OpF rfl) ?_
        refine Wy (.b false) [] (Omv rfl) ?_
        refine Wn ?_
        refine Wn ?_
        refine Wn ?_
        refine Wy (.b false) [] (OpF rfl) ?_
        refine Wy (.b false) [] (Omv rfl) ?_
        refine Wn ?_
        refine Wn ?_
        refine Wn ?_
        refine Wn ?_
        refine Wn ?_
        refine Wn ?_
        refine Wn ?_
        refine Wn ?_
        refine Wn ?_
        refine Wn ?_
        refine Wn ?_
        refine Wn ?_
        refine Wn ?_
        refine Wn ?_
        refine Wy (.b false) [] (OpF rfl) ?_
        refine Wy (.b false) [] (Omv rfl) ?_
        refine Wn ?_
        refine Wn ?_
        refine Wn ?_
        refine Wn ?_
        refine Wn ?_
        refine Wn ?_
        refine Wn ?_
        refine Wy (.b false) [] (OpF rfl) ?_
        refine Wy (.b false) [] (Omv rfl) ?_
        refine Wn ?_
        refine Wn ?_
        refine Wn ?_
        refine Wn ?_
        refine Wn ?_
        refine Wn ?_
        refine Wn ?_
        refine Wn ?_
        refine Wn ?_
        refine Wn ?_
        refine Wn ?_
        refine Wy (.b false) [] (OpF rfl) ?_
        refine Wy (.b false) [] (Omv rfl) ?_
        refine Wn ?_
        refine Wn ?_
        refine Wn ?_
        refine Wn ?_
        refine Wn ?_
        refine Wy (.b false) [] (OpF rfl) ?_
        refine Wy (.b false) [] (Omv rfl) ?_
        refine Wn ?_
        refine Wy (.b false) [] (OpF rfl) ?_
        refine Wy (.b false) [] (Omv rfl) ?_
        refine Wdr ?_
        refine Then.normal ?_
        refine AWP.ret ?_
        obtain rfl := Option.some.inj hm
        exact ret_i []
   refine AWP.seq ?_
   refine AWP.seq ?_
   refine AWP.text ?_
   refine Wy (.loc 1 0) [] (Ofa rfl) ?_
   refine Wy (.y p1.Kind) [] (Old rfl) ?_
   refine Wy (.b (decide (((p1.Kind.toNat : Nat) : Int) = 0))) [] (Ocs (by kernel_rfl) (op_bin rfl (a1 := .int .u8 ((p1.Kind.toNat : Nat) : Int)) (a2 := .int .u8 0) (by kernel_rfl) (by kernel_rfl) (fun _ => hb_eql))) ?_
   refine Walk.nil ?_
   refine Then.normal ?_
   refine Amk 8589934700 31 ⟨(tp 2 ((.loc 0 0) :: ((.loc 1 0) :: (tp 1 ((.loc 3 0) :: ((.loc 4 0) :: (tp 26 ((.b (decide (((p1.Kind.toNat : Nat) : Int) = 0))) :: (tp 174 []))))))))), [(.box [(.l enc_GLeave p0.a0), (.l enc_GLeave p0.a1)]), (.box [(.y p1.Kind), (.i p1.A), (.i p1.B)]), (.arr 47 3 (List.length r30_3.L) (flatD enc_GLeave_ r30_3.L)), (.box [(.own 2)]), (.box [(.d .nil)])], 0⟩ ?_
   rcases tf_ (decide (((p1.Kind.toNat : Nat) : Int) = 0)) with hc33_23 | hc33_23
   ·
    replace hm := cT hc33_23 hm
    refine AWP.if_ true (Eq.trans (by kernel_rfl) (lit_tf (b := decide (((p1.Kind.toNat : Nat) : Int) = 0)) hc33_23)) ?_
    refine AWP.seq ?_
    refine AWP.text ?_
    refine Wy (.i 0) [] (Omv rfl) ?_
    refine Wy (.i 0) [] (Omv rfl) ?_
    refine Walk.nil ?_
    refine Then.normal ?_
    refine Amk 108 31 ⟨(tp 2 ((.loc 0 0) :: ((.loc 1 0) :: (tp 1 ((.loc 3 0) :: ((.loc 4 0) :: (tp 201 []))))))), [(.box [(.l enc_GLeave p0.a0), (.l enc_GLeave p0.a1)]), (.box [(.y p1.Kind), (.i p1.A), (.i p1.B)]), (.arr 47 3 (List.length r30_3.L) (flatD enc_GLeave_ r30_3.L)), (.box [(.own 2)]), (.box [(.d .nil)])], 0⟩ ?_
    refine AWP.seq ?_
    refine AWP.text ?_
    refine Wy (.agg [(.own 2)]) [] (Old rfl) ?_
    refine Wy (.loc 1 1) [] (Ofa rfl) ?_
    refine Wy (.i p1.A) [] (Old rfl) ?_
    refine Wy (.loc 1 2) [] (Ofa rfl) ?_
    refine Wy (.i p1.B) [] (Old rfl) ?_
    refine Wy (.agg [(.i p1.A), (.i p1.B)]) [] (Obd rfl) ?_
    obtain ⟨r41_4, hr41_4, hm⟩ := bnd hm
    refine Wy (.tup [(.agg [(.l enc_GLeave_ r41_4.1.L)]), (.i r41_4.2.1), (.own 5), (.i r41_4.2.2.2)]) [(5, (.arr 65 3 (List.length r41_4.2.2.1) (flatD enc_GChange r41_4.2.2.1))), (2, (.fro 47 3 (List.length r30_3.L) (flatD enc_GLeave_ r30_3.L)))] (Ocf [] [5] [2] 0 (ok_token_Book_Hold r30_3 (GPoint.mk p1.A p1.B) r41_4 hr41_4) (fun a w => Try.call7 a w) rfl trivial) ?_
    refine Wy (.tup [(.agg [(.l enc_GLeave_ r41_4.1.L)]), (.i r41_4.2.1), (.own 5), (.i r41_4.2.2.2)]) [] (Omv rfl) ?_
    refine Wy (.agg [(.l enc_GLeave_ r41_4.1.L)]) [] (Oex rfl) ?_
    refine Wy (.i r41_4.2.1) [] (Oex rfl) ?_
    refine Wy (.own 5) [] (Oex rfl) ?_
    refine Wy (.i r41_4.2.2.2) [] (Oex rfl) ?_
    refine Wy (.tup []) [(4, (.box [(.l enc_GLeave_ r41_4.1.L)]))] (Ost rfl) ?_
    refine Wy (.i r41_4.2.1) [] (Omv rfl) ?_
    refine Wy (.own 5) [] (Omv rfl) ?_
    refine Wy (.i r41_4.2.2.2) [] (Omv rfl) ?_
    refine Walk.nil ?_
    refine Then.normal ?_
    refine Amk 5484 63 ⟨(tp 2 ((.loc 0 0) :: ((.loc 1 0) :: (tp 1 ((.loc 3 0) :: ((.loc 4 0) :: (tp 1 ((.own 5) :: (tp 1 ((.i r41_4.2.2.2) :: (tp 1 ((.i r41_4.2.1) :: (tp 195 []))))))))))))), [(.box [(.l enc_GLeave p0.a0), (.l enc_GLeave p0.a1)]), (.box [(.y p1.Kind), (.i p1.A), (.i p1.B)]), (.fro 47 3 (List.length r30_3.L) (flatD enc_GLeave_ r30_3.L)), (.box [(.own 2)]), (.box [(.l enc_GLeave_ r41_4.1.L)]), (.arr 65 3 (List.length r41_4.2.2.1) (flatD enc_GChange r41_4.2.2.1))], 0⟩ ?_
    refine AWP.seq ?_
    refine AWP.text ?_
    refine Wy (.loc 0 0) [] (Ocs (by kernel_rfl) (op_iaddr_arr rfl (n := 2) (sz := 1) (y := (.loc 0 0)) (by kernel_rfl) (by kernel_rfl) (by kernel_rfl) (k := .i64) (iv := 0) (by kernel_rfl) (i := 0) (by rfl) (by decide))) ?_
    refine Wy (.l enc_GLeave p0.a0) [] (Old rfl) ?_
    refine Wy (.loc 1 1) [] (Ofa rfl) ?_
    refine Wy (.i p1.A) [] (Old rfl) ?_
    refine Wy (.loc 1 2) [] (Ofa rfl) ?_
    refine Wy (.i p1.B) [] (Old rfl) ?_
    obtain ⟨r53_5, hr53_5, hm⟩ := bnd hm
    refine Wy (.tup [(.l enc_GLeave r53_5.1), (.i r53_5.2.1), (.own 6), (.i r53_5.2.2.2)]) [(6, (.arr 71 3 (List.length r53_5.2.2.1) (flatD enc_GChange r53_5.2.2.1)))] (Ocf [] [6] [] 0 (ok_telltaleref28_Hold p0.a0 p1.A p1.B r53_5 hr53_5) (fun a w => Try.call8 a w) rfl trivial) ?_
    refine Wy (.tup [(.l enc_GLeave r53_5.1), (.i r53_5.2.1), (.own 6), (.i r53_5.2.2.2)]) [] (Omv rfl) ?_
    refine Wy (.l enc_GLeave r53_5.1) [] (Oex rfl) ?_
    refine Wy (.i r53_5.2.1) [] (Oex rfl) ?_
    refine Wy (.own 6) [] (Oex rfl) ?_
    refine Wy (.i r53_5.2.2.2) [] (Oex rfl) ?_
    refine Wy (.l enc_GLeave r53_5.1) [] (Omv rfl) ?_
    refine Wy (.i r53_5.2.1) [] (Omv rfl) ?_
    refine Wy (.own 6) [] (Omv rfl) ?_
    refine Wy (.i r53_5.2.2.2) [] (Omv rfl) ?_
    refine Walk.nil ?_
    refine Then.normal ?_
    refine Amk 16364 127 ⟨(tp 2 ((.loc 0 0) :: ((.loc 1 0) :: (tp 1 ((.loc 3 0) :: ((.loc 4 0) :: ((.l enc_GLeave r53_5.1) :: ((.own 5) :: ((.own 6) :: ((.i r41_4.2.2.2) :: ((.i r53_5.2.2.2) :: ((.i r41_4.2.1) :: ((.i r53_5.2.1) :: (tp 194 [])))))))))))))), [(.box [(.l enc_GLeave p0.a0), (.l enc_GLeave p0.a1)]), (.box [(.y p1.Kind), (.i p1.A), (.i p1.B)]), (.fro 47 3 (List.length r30_3.L) (flatD enc_GLeave_ r30_3.L)), (.box [(.own 2)]), (.box [(.l enc_GLeave_ r41_4.1.L)]), (.arr 65 3 (List.length r41_4.2.2.1) (flatD enc_GChange r41_4.2.2.1)), (.arr 71 3 (List.length r53_5.2.2.1) (flatD enc_GChange r53_5.2.2.1))], 0⟩ ?_
    refine AWP.seq ?_
    refine AWP.text ?_
    refine Wy (.i r41_4.2.1) [] (Omv rfl) ?_
    refine Wy (.i r53_5.2.1) [] (Omv rfl) ?_
    refine Wy (.b (decide (r41_4.2.1 ≠ r53_5.2.1))) [] (Obn rfl (fun _ => hb_neq (k := .i64))) ?_
    refine Walk.nil ?_
    refine Then.normal ?_
    refine Amk 1152921504606851052 127 ⟨(tp 2 ((.loc 0 0) :: ((.loc 1 0) :: (tp 1 ((.loc 3 0) :: ((.loc 4 0) :: ((.l enc_GLeave r53_5.1) :: ((.own 5) :: ((.own 6) :: ((.i r41_4.2.2.2) :: ((.i r53_5.2.2.2) :: (tp 48 ((.b (decide (r41_4.2.1 ≠ r53_5.2.1))) :: (tp 147 [])))))))))))))), [(.box [(.l enc_GLeave p0.a0), (.l enc_GLeave p0.a1)]), (.box [(.y p1.Kind), (.i p1.A), (.i p1.B)]), (.fro 47 3 (List.length r30_3.L) (flatD enc_GLeave_ r30_3.L)), (.box [(.own 2)]), (.box [(.l enc_GLeave_ r41_4.1.L)]), (.arr 65 3 (List.length r41_4.2.2.1) (flatD enc_GChange r41_4.2.2.1)), (.arr 71 3 (List.length r53_5.2.2.1) (flatD enc_GChange r53_5.2.2.1))], 0⟩ ?_
    rcases tf_ (decide (r41_4.2.1 ≠ r53_5.2.1)) with hc60_24 | hc60_24
    ·
     replace hm := cT hc60_24 hm
     refine AWP.if_ true (Eq.trans (by kernel_rfl) (lit_tf (b := decide (r41_4.2.1 ≠ r53_5.2.1)) hc60_24)) ?_
     refine AWP.seq ?_
     refine AWP.text ?_
     refine Wy (.b false) [] (Omv rfl) ?_
     refine Walk.nil ?_
     refine Then.normal ?_
     refine AWP.ret ?_
     refine Then.ret ?_
     obtain rfl := Option.some.inj hm
     exact ret_i []
    ·
     replace hm := cF hc60_24 hm
     refine AWP.if_ false (Eq.trans (by kernel_rfl) (lit_tf (b := decide (r41_4.2.1 ≠ r53_5.2.1)) hc60_24)) ?_
     refine AWP.skip ?_
     refine Then.normal ?_
     refine Afz [2, 5] ⟨(tp 2 ((.loc 0 0) :: ((.loc 1 0) :: (tp 1 ((.loc 3 0) :: ((.loc 4 0) :: ((.l enc_GLeave r53_5.1) :: ((.l enc_GChange r41_4.2.2.1) :: ((.own 6) :: ((.i r41_4.2.2.2) :: ((.i r53_5.2.2.2) :: (tp 48 ((.b (decide (r41_4.2.1 ≠ r53_5.2.1))) :: (tp 147 [])))))))))))))), [(.box [(.l enc_GLeave p0.a0), (.l enc_GLeave p0.a1)]), (.box [(.y p1.Kind), (.i p1.A), (.i p1.B)]), (.fro 47 3 (List.length r30_3.L) (flatD enc_GLeave_ r30_3.L)), (.box [(.l enc_GLeave_ r30_3.L)]), (.box [(.l enc_GLeave_ r41_4.1.L)]), (.fro 65 3 (List.length r41_4.2.2.1) (flatD enc_GChange r41_4.2.2.1)), (.arr 71 3 (List.length r53_5.2.2.1) (flatD enc_GChange r53_5.2.2.1))], 0⟩ ?_
     exact AWP.weak (Weak.toK 4076 0 0 [0, 1, 3, 4, 6]) (J10 (r41_4.1, r53_5.1, r41_4.2.2.1, r53_5.2.2.1, r41_4.2.2.2, r53_5.2.2.2) hm)
   ·
    replace hm := cF hc33_23 hm
    refine AWP.if_ false (Eq.trans (by kernel_rfl) (lit_tf (b := decide (((p1.Kind.toNat : Nat) : Int) = 0)) hc33_23)) ?_
    refine AWP.seq ?_
    refine AWP.text ?_
    refine Wy (.loc 1 0) [] (Ofa rfl) ?_
    refine Wy (.y p1.Kind) [] (Old rfl) ?_
    refine Wy (.b (decide (((p1.Kind.toNat : Nat) : Int) = 1))) [] (Ocs (by kernel_rfl) (op_bin rfl (a1 := .int .u8 ((p1.Kind.toNat : Nat) : Int)) (a2 := .int .u8 1) (by kernel_rfl) (by kernel_rfl) (fun _ => hb_eql))) ?_
    refine Walk.nil ?_
    refine Then.normal ?_
    refine Amk 9223372036854775916 31 ⟨(tp 2 ((.loc 0 0) :: ((.loc 1 0) :: (tp 1 ((.loc 3 0) :: ((.loc 4 0) :: (tp 56 ((.b (decide (((p1.Kind.toNat : Nat) : Int) = 1))) :: (tp 144 []))))))))), [(.box [(.l enc_GLeave p0.a0), (.l enc_GLeave p0.a1)]), (.box [(.y p1.Kind), (.i p1.A), (.i p1.B)]), (.arr 47 3 (List.length r30_3.L) (flatD enc_GLeave_ r30_3.L)), (.box [(.own 2)]), (.box [(.d .nil)])], 0⟩ ?_
    rcases tf_ (decide (((p1.Kind.toNat : Nat) : Int) = 1)) with hc63_25 | hc63_25
    ·
     replace hm := cT hc63_25 hm
     refine AWP.if_ true (Eq.trans (by kernel_rfl) (lit_tf (b := decide (((p1.Kind.toNat : Nat) : Int) = 1)) hc63_25)) ?_
     refine AWP.seq ?_
     refine AWP.text ?_
     refine Wy (.agg [(.own 2)]) [] (Old rfl) ?_
     refine Wy (.loc 1 1) [] (Ofa rfl) ?_
     refine Wy (.i p1.A) [] (Old rfl) ?_
     refine Wy (.loc 1 2) [] (Ofa rfl) ?_
     refine Wy (.i p1.B) [] (Old rfl) ?_
     obtain ⟨r70_6, hr70_6, hm⟩ := bnd hm
     refine Wy (.tup [(.agg [(.l enc_GLeave_ r70_6.1.L)]), (.l enc_GChange r70_6.2.1), (.i r70_6.2.2)]) [(2, (.fro 47 3 (List.length r30_3.L) (flatD enc_GLeave_ r30_3.L)))] (Ocf [] [] [2] 0 (ok_token_Book_Lower r30_3 p1.A p1.B r70_6 hr70_6) (fun a w => Try.call9 a w) rfl trivial) ?_
     refine Wy (.tup [(.agg [(.l enc_GLeave_ r70_6.1.L)]), (.l enc_GChange r70_6.2.1), (.i r70_6.2.2)]) [] (Omv rfl) ?_
     refine Wy (.agg [(.l enc_GLeave_ r70_6.1.L)]) [] (Oex rfl) ?_
     refine Wy (.l enc_GChange r70_6.2.1) [] (Oex rfl) ?_
     refine Wy (.i r70_6.2.2) [] (Oex rfl) ?_
     refine Wy (.tup []) [(4, (.box [(.l enc_GLeave_ r70_6.1.L)]))] (Ost rfl) ?_
     refine Wy (.l enc_GChange r70_6.2.1) [] (Omv rfl) ?_
     refine Wy (.i r70_6.2.2) [] (Omv rfl) ?_
     refine Walk.nil ?_
     refine Then.normal ?_
     refine Amk 1388 31 ⟨(tp 2 ((.loc 0 0) :: ((.loc 1 0) :: (tp 1 ((.loc 3 0) :: ((.loc 4 0) :: (tp 1 ((.l enc_GChange r70_6.2.1) :: (tp 1 ((.i r70_6.2.2) :: (tp 197 []))))))))))), [(.box [(.l enc_GLeave p0.a0), (.l enc_GLeave p0.a1)]), (.box [(.y p1.Kind), (.i p1.A), (.i p1.B)]), (.fro 47 3 (List.length r30_3.L) (flatD enc_GLeave_ r30_3.L)), (.box [(.own 2)]), (.box [(.l enc_GLeave_ r70_6.1.L)])], 0⟩ ?_
     refine AWP.text ?_
     refine Wy (.loc 0 0) [] (Ocs (by kernel_rfl) (op_iaddr_arr rfl (n := 2) (sz := 1) (y := (.loc 0 0)) (by kernel_rfl) (by kernel_rfl) (by kernel_rfl) (k := .i64) (iv := 0) (by kernel_rfl) (i := 0) (by rfl) (by decide))) ?_
     refine Wy (.l enc_GLeave p0.a0) [] (Old rfl) ?_
     refine Wy (.loc 1 1) [] (Ofa rfl) ?_
     refine Wy (.i p1.A) [] (Old rfl) ?_
     refine Wy (.loc 1 2) [] (Ofa rfl) ?_
     refine Wy (.i p1.B) [] (Old rfl) ?_
     obtain ⟨r81_7, hr81_7, hm⟩ := bnd hm
     refine Wy (.tup [(.l enc_GLeave r81_7.1), (.own 5), (.i r81_7.2.2)]) [(5, (.arr 71 3 (List.length r81_7.2.1) (flatD enc_GChange r81_7.2.1)))] (Ocf [] [5] [] 0 (ok_telltaleref28_Lower p0.a0 p1.A p1.B r81_7 hr81_7) (fun a w => Try.call10 a w) rfl trivial) ?_
     refine Wy (.tup [(.l enc_GLeave r81_7.1), (.own 5), (.i r81_7.2.2)]) [] (Omv rfl) ?_
     refine Wy (.l enc_GLeave r81_7.1) [] (Oex rfl) ?_
     refine Wy (.own 5) [] (Oex rfl) ?_
     refine Wy (.i r81_7.2.2) [] (Oex rfl) ?_
     refine Wy (.l enc_GLeave r81_7.1) [] (Omv rfl) ?_
     refine Wy (.own 5) [] (Omv rfl) ?_
     refine Wy (.i r81_7.2.2) [] (Omv rfl) ?_
     refine Walk.nil ?_
     refine Then.normal ?_
     refine Afz [2] ⟨(tp 2 ((.loc 0 0) :: ((.loc 1 0) :: (tp 1 ((.loc 3 0) :: ((.loc 4 0) :: ((.l enc_GLeave r81_7.1) :: ((.l enc_GChange r70_6.2.1) :: ((.own 5) :: ((.i r70_6.2.2) :: ((.i r81_7.2.2) :: (tp 62 ((.tup [(.l enc_GLeave r81_7.1), (.own 5), (.i r81_7.2.2)]) :: ((.loc 0 0) :: ((.l enc_GLeave p0.a0) :: ((.loc 1 1) :: ((.i p1.A) :: ((.loc 1 2) :: ((.i p1.B) :: ((.tup [(.l enc_GLeave r81_7.1), (.own 5), (.i r81_7.2.2)]) :: ((.l enc_GLeave r81_7.1) :: ((.own 5) :: ((.i r81_7.2.2) :: (tp 123 [])))))))))))))))))))))))), [(.box [(.l enc_GLeave p0.a0), (.l enc_GLeave p0.a1)]), (.box [(.y p1.Kind), (.i p1.A), (.i p1.B)]), (.fro 47 3 (List.length r30_3.L) (flatD enc_GLeave_ r30_3.L)), (.box [(.l enc_GLeave_ r30_3.L)]), (.box [(.l enc_GLeave_ r70_6.1.L)]), (.arr 71 3 (List.length r81_7.2.1) (flatD enc_GChange r81_7.2.1))], 0⟩ ?_
     exact AWP.weak (Weak.toK 4076 0 0 [0, 1, 3, 4, 5]) (J10 (r70_6.1, r81_7.1, r70_6.2.1, r81_7.2.1, r70_6.2.2, r81_7.2.2) hm)
    ·
     replace hm := cF hc63_25 hm
     refine AWP.if_ false (Eq.trans (by kernel_rfl) (lit_tf (b := decide (((p1.Kind.toNat : Nat) : Int) = 1)) hc63_25)) ?_
     refine AWP.seq ?_
     refine AWP.text ?_
     refine Wy (.agg [(.own 2)]) [] (Old rfl) ?_
     refine Wy (.loc 1 1) [] (Ofa rfl) ?_
     refine Wy (.i p1.A) [] (Old rfl) ?_
     obtain ⟨r89_8, hr89_8, hm⟩ := bnd hm
     refine Wy (.tup [(.agg [(.l enc_GLeave_ r89_8.1.L)]), (.own 5), (.i r89_8.2.2)]) [(5, (.arr 65 3 (List.length r89_8.2.1) (flatD enc_GChange r89_8.2.1))), (2, (.fro 47 3 (List.length r30_3.L) (flatD enc_GLeave_ r30_3.L)))] (Ocf [] [5] [2] 0 (ok_token_Book_Drop r30_3 p1.A r89_8 hr89_8) (fun a w => Try.call11 a w) rfl trivial) ?_
     refine Wy (.tup [(.agg [(.l enc_GLeave_ r89_8.1.L)]), (.own 5), (.i r89_8.2.2)]) [] (Omv rfl) ?_
     refine Wy (.agg [(.l enc_GLeave_ r89_8.1.L)]) [] (Oex rfl) ?_
     refine Wy (.own 5) [] (Oex rfl) ?_
     refine Wy (.i r89_8.2.2) [] (Oex rfl) ?_
     refine Wy (.tup []) [(4, (.box [(.l enc_GLeave_ r89_8.1.L)]))] (Ost rfl) ?_
     refine Wy (.own 5) [] (Omv rfl) ?_
     refine Wy (.i r89_8.2.2) [] (Omv rfl) ?_
     refine Walk.nil ?_
     refine Then.normal ?_
     refine Amk 1388 63 ⟨(tp 2 ((.loc 0 0) :: ((.loc 1 0) :: (tp 1 ((.loc 3 0) :: ((.loc 4 0) :: (tp 1 ((.own 5) :: (tp 1 ((.i r89_8.2.2) :: (tp 197 []))))))))))), [(.box [(.l enc_GLeave p0.a0), (.l enc_GLeave p0.a1)]), (.box [(.y p1.Kind), (.i p1.A), (.i p1.B)]), (.fro 47 3 (List.length r30_3.L) (flatD enc_GLeave_ r30_3.L)), (.box [(.own 2)]), (.box [(.l enc_GLeave_ r89_8.1.L)]), (.arr 65 3 (List.length r89_8.2.1) (flatD enc_GChange r89_8.2.1))], 0⟩ ?_
     refine AWP.text ?_
     refine Wy (.loc 0 0) [] (Ocs (by kernel_rfl) (op_iaddr_arr rfl (n := 2) (sz := 1) (y := (.loc 0 0)) (by kernel_rfl) (by kernel_rfl) (by kernel_rfl) (k := .i64) (iv := 0) (by kernel_rfl) (i := 0) (by rfl) (by decide))) ?_
     refine Wy (.l enc_GLeave p0.a0) [] (Old rfl) ?_
     refine Wy (.loc 1 1) [] (Ofa rfl) ?_
     refine Wy (.i p1.A) [] (Old rfl) ?_
     obtain ⟨r98_9, hr98_9, hm⟩ := bnd hm
     refine Wy (.tup [(.l enc_GLeave r98_9.1), (.own 6), (.i r98_9.2.2)]) [(6, (.arr 71 3 (List.length r98_9.2.1) (flatD enc_GChange r98_9.2.1)))] (Ocf [] [6] [] 0 (ok_telltaleref28_Drop p0.a0 p1.A r98_9 hr98_9) (fun a w => Try.call12 a w) rfl trivial) ?_
     refine Wy (.tup [(.l enc_GLeave r98_9.1), (.own 6), (.i r98_9.2.2)]) [] (Omv rfl) ?_
     refine Wy (.l enc_GLeave r98_9.1) [] (Oex rfl) ?_
     refine Wy (.own 6) [] (Oex rfl) ?_
     refine Wy (.i r98_9.2.2) [] (Oex rfl) ?_
     refine Wy (.l enc_GLeave r98_9.1) [] (Omv rfl) ?_
     refine Wy (.own 6) [] (Omv rfl) ?_
     refine Wy (.i r98_9.2.2) [] (Omv rfl) ?_
     refine Walk.nil ?_
     refine Then.normal ?_
     refine Afz [2, 5] ⟨(tp 2 ((.loc 0 0) :: ((.loc 1 0) :: (tp 1 ((.loc 3 0) :: ((.loc 4 0) :: ((.l enc_GLeave r98_9.1) :: ((.l enc_GChange r89_8.2.1) :: ((.own 6) :: ((.i r89_8.2.2) :: ((.i r98_9.2.2) :: (tp 81 ((.tup [(.l enc_GLeave r98_9.1), (.own 6), (.i r98_9.2.2)]) :: ((.loc 0 0) :: ((.l enc_GLeave p0.a0) :: ((.loc 1 1) :: ((.i p1.A) :: ((.tup [(.l enc_GLeave r98_9.1), (.own 6), (.i r98_9.2.2)]) :: ((.l enc_GLeave r98_9.1) :: ((.own 6) :: ((.i r98_9.2.2) :: (tp 106 [])))))))))))))))))))))), [(.box [(.l enc_GLeave p0.a0), (.l enc_GLeave p0.a1)]), (.box [(.y p1.Kind), (.i p1.A), (.i p1.B)]), (.fro 47 3 (List.length r30_3.L) (flatD enc_GLeave_ r30_3.L)), (.box [(.l enc_GLeave_ r30_3.L)]), (.box [(.l enc_GLeave_ r89_8.1.L)]), (.fro 65 3 (List.length r89_8.2.1) (flatD enc_GChange r89_8.2.1)), (.arr 71 3 (List.length r98_9.2.1) (flatD enc_GChange r98_9.2.1))], 0⟩ ?_
     exact AWP.weak (Weak.toK 4076 0 0 [0, 1, 3, 4, 6]) (J10 (r89_8.1, r98_9.1, r89_8.2.1, r98_9.2.1, r89_8.2.2, r98_9.2.2) hm)
end Go.Proofs.Ytkamekhkkkeedaa.K
