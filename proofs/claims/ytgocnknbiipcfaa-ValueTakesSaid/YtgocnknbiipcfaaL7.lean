/- each function computes what its model says (7) -/
import Derived.Test.YtgocnknbiipcfaaL6
namespace Go.Proofs.Ytgocnknbiipcfaa.K
open Go.RowKit Go.Lib
set_option linter.unusedVariables false
set_option linter.unusedSimpArgs false

set_option maxRecDepth 20000 in
set_option maxHeartbeats 4000000 in
theorem ok_telltaleref04_Rank (p0 : GValue) (p1 : GValue) (r : Int) (h : m_telltaleref04_Rank p0 p1 = some r) : GCall Try.prog 15 [(.agg [(.d (byteD p0.Kind)), (.d (.lit (.int .i64 p0.N))), (.d (.lit (.int .u64 p0.Bits))), (.d (.lit (.string (toS p0.Text))))]), (.agg [(.d (byteD p1.Kind)), (.d (.lit (.int .i64 p1.N))), (.d (.lit (.int .u64 p1.Bits))), (.d (.lit (.string (toS p1.Text))))])] [] (.d (.lit (.int .i64 r))) [] := by
  refine GCall.of_body (n := 101) (rs := [(.tmp 4)]) Try.func15 rfl rfl rfl ?_
  refine Ato ⟨((.agg [(.d (byteD p0.Kind)), (.d (.lit (.int .i64 p0.N))), (.d (.lit (.int .u64 p0.Bits))), (.d (.lit (.string (toS p0.Text))))]) :: ((.agg [(.d (byteD p1.Kind)), (.d (.lit (.int .i64 p1.N))), (.d (.lit (.int .u64 p1.Bits))), (.d (.lit (.string (toS p1.Text))))]) :: (tu 99 []))), [], 0⟩ ?_
  have hm := h
  unfold m_telltaleref04_Rank at hm
  refine AWP.seq ?_
  refine AWP.text ?_
  refine Wy (.loc 0 0) [(0, (.box [(.d (byteD p0.Kind)), (.d (.lit (.int .i64 p0.N))), (.d (.lit (.int .u64 p0.Bits))), (.d (.lit (.string (toS p0.Text))))]))] (Obx rfl) ?_
  refine Wy (.loc 1 0) [(1, (.box [(.d (byteD p1.Kind)), (.d (.lit (.int .i64 p1.N))), (.d (.lit (.int .u64 p1.Bits))), (.d (.lit (.string (toS p1.Text))))]))] (Obx rfl) ?_
  refine Wy (.d (.lit (.int .i64 0))) [] (Omv rfl) ?_
  refine Walk.nil ?_
  refine Then.normal ?_
  refine Amk 12 3 ⟨(tp 2 ((.loc 0 0) :: ((.loc 1 0) :: (tp 97 [])))), [(.box [(.d (byteD p0.Kind)), (.d (.lit (.int .i64 p0.N))), (.d (.lit (.int .u64 p0.Bits))), (.d (.lit (.string (toS p0.Text))))]), (.box [(.d (byteD p1.Kind)), (.d (.lit (.int .i64 p1.N))), (.d (.lit (.int .u64 p1.Bits))), (.d (.lit (.string (toS p1.Text))))])], 0⟩ ?_
  refine AWP.seq ?_
  refine AWP.seq ?_
  refine AWP.text ?_
  refine Wy (.loc 0 0) [] (Ofa rfl) ?_
  refine Wy (.d (byteD p0.Kind)) [] (Old rfl) ?_
  refine Wy (.loc 1 0) [] (Ofa rfl) ?_
  refine Wy (.d (byteD p1.Kind)) [] (Old rfl) ?_
  refine Wy (.d (.lit (.bool (decide (((p0.Kind.toNat : Nat) : Int) ≠ ((p1.Kind.toNat : Nat) : Int)))))) [] (Ocs (by kernel_rfl) (op_bin rfl (a1 := .int .u8 ((p0.Kind.toNat : Nat) : Int)) (a2 := .int .u8 ((p1.Kind.toNat : Nat) : Int)) (by kernel_rfl) (by kernel_rfl) (fun _ => hb_neq))) ?_
  refine Walk.nil ?_
  refine Then.normal ?_
  refine Amk 8204 3 ⟨(tp 2 ((.loc 0 0) :: ((.loc 1 0) :: (tp 9 ((.d (.lit (.bool (decide (((p0.Kind.toNat : Nat) : Int) ≠ ((p1.Kind.toNat : Nat) : Int)))))) :: (tp 87 [])))))), [(.box [(.d (byteD p0.Kind)), (.d (.lit (.int .i64 p0.N))), (.d (.lit (.int .u64 p0.Bits))), (.d (.lit (.string (toS p0.Text))))]), (.box [(.d (byteD p1.Kind)), (.d (.lit (.int .i64 p1.N))), (.d (.lit (.int .u64 p1.Bits))), (.d (.lit (.string (toS p1.Text))))])], 0⟩ ?_
  rcases tf_ (decide (((p0.Kind.toNat : Nat) : Int) ≠ ((p1.Kind.toNat : Nat) : Int))) with hc13_17 | hc13_17
  · replace hm := cT hc13_17 hm
    refine AWP.if_ true (Eq.trans (by kernel_rfl) (lit_tf (b := decide (((p0.Kind.toNat : Nat) : Int) ≠ ((p1.Kind.toNat : Nat) : Int))) hc13_17)) ?_
    refine AWP.seq ?_
    refine AWP.seq ?_
    refine AWP.text ?_
    refine Wy (.loc 0 0) [] (Ofa rfl) ?_
    refine Wy (.d (byteD p0.Kind)) [] (Old rfl) ?_
    refine Wy (.loc 1 0) [] (Ofa rfl) ?_
    refine Wy (.d (byteD p1.Kind)) [] (Old rfl) ?_
    refine Wy (.d (.lit (.bool (decide (((p0.Kind.toNat : Nat) : Int) < ((p1.Kind.toNat : Nat) : Int)))))) [] (Ocs (by kernel_rfl) (op_bin rfl (a1 := .int .u8 ((p0.Kind.toNat : Nat) : Int)) (a2 := .int .u8 ((p1.Kind.toNat : Nat) : Int)) (by kernel_rfl) (by kernel_rfl) (fun _ => hb_lss))) ?_
    refine Walk.nil ?_
    refine Then.normal ?_
    refine Amk 262144 0 ⟨(tp 18 ((.d (.lit (.bool (decide (((p0.Kind.toNat : Nat) : Int) < ((p1.Kind.toNat : Nat) : Int)))))) :: (tp 82 []))), [.gone, .gone], 0⟩ ?_
    rcases tf_ (decide (((p0.Kind.toNat : Nat) : Int) < ((p1.Kind.toNat : Nat) : Int))) with hc18_18 | hc18_18
    · replace hm := cT hc18_18 hm
      refine AWP.if_ true (Eq.trans (by kernel_rfl) (lit_tf (b := decide (((p0.Kind.toNat : Nat) : Int) < ((p1.Kind.toNat : Nat) : Int))) hc18_18)) ?_
      refine AWP.seq ?_
      refine AWP.text ?_
      refine Wy (.d (.lit (.int .i64 (-1)))) [] (Omv rfl) ?_
      refine Walk.nil ?_
      refine Then.normal ?_
      refine AWP.ret ?_
      refine Then.ret ?_
      refine Then.ret ?_
      obtain rfl := Option.some.inj hm
      exact ret_i []
    · replace hm := cF hc18_18 hm
      refine AWP.if_ false (Eq.trans (by kernel_rfl) (lit_tf (b := decide (((p0.Kind.toNat : Nat) : Int) < ((p1.Kind.toNat : Nat) : Int))) hc18_18)) ?_
      refine AWP.skip ?_
      refine Then.normal ?_
      refine Amk 0 0 ⟨(tp 101 []), [.gone, .gone], 0⟩ ?_
      refine AWP.seq ?_
      refine AWP.text ?_
      refine Wy (.d (.lit (.int .i64 1))) [] (Omv rfl) ?_
      refine Walk.nil ?_
      refine Then.normal ?_
      refine AWP.ret ?_
      refine Then.ret ?_
      obtain rfl := Option.some.inj hm
      exact ret_i []
  · replace hm := cF hc13_17 hm
    refine AWP.if_ false (Eq.trans (by kernel_rfl) (lit_tf (b := decide (((p0.Kind.toNat : Nat) : Int) ≠ ((p1.Kind.toNat : Nat) : Int))) hc13_17)) ?_
    refine AWP.skip ?_
    refine Then.normal ?_
    refine Amk 12 3 ⟨(tp 2 ((.loc 0 0) :: ((.loc 1 0) :: (tp 97 [])))), [(.box [(.d (byteD p0.Kind)), (.d (.lit (.int .i64 p0.N))), (.d (.lit (.int .u64 p0.Bits))), (.d (.lit (.string (toS p0.Text))))]), (.box [(.d (byteD p1.Kind)), (.d (.lit (.int .i64 p1.N))), (.d (.lit (.int .u64 p1.Bits))), (.d (.lit (.string (toS p1.Text))))])], 0⟩ ?_
    refine AWP.seq ?_
    refine Adr ?_
    refine Wy (.loc 0 2) [] (Ofa rfl) ?_
    refine Wy (.d (.lit (.int .u64 p0.Bits))) [] (Old rfl) ?_
    obtain ⟨r21_0, hr21_0, hm⟩ := bnd hm
    refine Wy (.d (.lit (.int .u64 r21_0))) [] (Ocf [] [] [] 0 (ok_telltaleref03_Rank p0.Bits r21_0 hr21_0) (fun a w => Try.call42 a w) rfl trivial) ?_
    refine Wy (.loc 1 2) [] (Ofa rfl) ?_
    refine Wy (.d (.lit (.int .u64 p1.Bits))) [] (Old rfl) ?_
    obtain ⟨r24_0, hr24_0, hm⟩ := bnd hm
    refine Wy (.d (.lit (.int .u64 r24_0))) [] (Ocf [] [] [] 0 (ok_telltaleref03_Rank p1.Bits r24_0 hr24_0) (fun a w => Try.call42 a w) rfl trivial) ?_
    refine Wy (.d (.lit (.int .u64 r21_0))) [] (Omv rfl) ?_
    refine Wy (.d (.lit (.int .u64 r24_0))) [] (Omv rfl) ?_
    refine Wdr ?_
    refine Then.normal ?_
    refine Amk 108 3 ⟨(tp 2 ((.loc 0 0) :: ((.loc 1 0) :: (tp 1 ((.d (.lit (.int .u64 r21_0))) :: ((.d (.lit (.int .u64 r24_0))) :: (tp 94 []))))))), [(.box [(.d (byteD p0.Kind)), (.d (.lit (.int .i64 p0.N))), (.d (.lit (.int .u64 p0.Bits))), (.d (.lit (.string (toS p0.Text))))]), (.box [(.d (byteD p1.Kind)), (.d (.lit (.int .i64 p1.N))), (.d (.lit (.int .u64 p1.Bits))), (.d (.lit (.string (toS p1.Text))))])], 0⟩ ?_
    refine AWP.cutJ (α := Unit) (fun x => match x with | () => (⟨(tp 2 ((.loc 0 0) :: ((.loc 1 0) :: (tp 1 ((.d (.lit (.int .u64 r21_0))) :: ((.d (.lit (.int .u64 r24_0))) :: ((.d (.lit (.bool true))) :: (tp 93 [])))))))), [(.box [(.d (byteD p0.Kind)), (.d (.lit (.int .i64 p0.N))), (.d (.lit (.int .u64 p0.Bits))), (.d (.lit (.string (toS p0.Text))))]), (.box [(.d (byteD p1.Kind)), (.d (.lit (.int .i64 p1.N))), (.d (.lit (.int .u64 p1.Bits))), (.d (.lit (.string (toS p1.Text))))])], 0⟩ : St)) (fun x => match x with | () => m_telltaleref04_Rank_j2 p0 p1 r21_0 r24_0 = some r) ?_ (fun J2 => ?_)
    · rintro ⟨⟩ hm
      try dsimp only at hm ⊢
      unfold m_telltaleref04_Rank_j2 at hm
      refine AWP.cutJ (α := Unit) (fun x => match x with | () => (⟨(tp 7 ((.d (.lit (.bool true))) :: ((.d (.lit (.bool true))) :: (tp 92 [])))), [], 0⟩ : St)) (fun x => match x with | () => m_telltaleref04_Rank_j6  = some r) ?_ (fun J6 => ?_)
      · rintro ⟨⟩ hm
        try dsimp only at hm ⊢
        unfold m_telltaleref04_Rank_j6 at hm
        refine AWP.seq ?_
        refine AWP.seq ?_
        refine AWP.text ?_
        refine Wy (.d (.lit (.bool true))) [] (Omv rfl) ?_
        refine Walk.nil ?_
        refine Then.normal ?_
        refine Amk 633825300114114700748351602944 0 ⟨(tp 8 ((.d (.lit (.bool true))) :: (tp 90 ((.d (.lit (.bool true))) :: (tp 1 []))))), [], 0⟩ ?_
        refine AWP.if_ true (by kernel_rfl) ?_
        refine AWP.seq ?_
        refine AWP.text ?_
        refine Wy (.d (.lit (.int .i64 (-1)))) [] (Omv rfl) ?_
        refine Walk.nil ?_
        refine Then.normal ?_
        refine AWP.ret ?_
        refine Then.ret ?_
        obtain rfl := Option.some.inj hm
        exact ret_i []
      refine AWP.cutJ (α := Unit) (fun x => match x with | () => (⟨(tp 7 ((.d (.lit (.bool true))) :: ((.d (.lit (.bool (gtS p0.Text p1.Text)))) :: (tp 92 [])))), [], 0⟩ : St)) (fun x => match x with | () => m_telltaleref04_Rank_j7  = some r) ?_ (fun J7 => ?_)
      · rintro ⟨⟩ hm
        try dsimp only at hm ⊢
        unfold m_telltaleref04_Rank_j7 at hm
        refine AWP.seq ?_
        refine AWP.seq ?_
        refine AWP.text ?_
        refine Wy (.d (.lit (.bool true))) [] (Omv rfl) ?_
        refine Walk.nil ?_
        refine Then.normal ?_
        refine Amk 633825300114114700748351602944 0 ⟨(tp 8 ((.d (.lit (.bool (gtS p0.Text p1.Text)))) :: (tp 90 ((.d (.lit (.bool true))) :: (tp 1 []))))), [], 0⟩ ?_
        refine AWP.if_ true (by kernel_rfl) ?_
        refine AWP.seq ?_
        refine AWP.text ?_
        refine Wy (.d (.lit (.int .i64 (-1)))) [] (Omv rfl) ?_
        refine Walk.nil ?_
        refine Then.normal ?_
        refine AWP.ret ?_
        refine Then.ret ?_
        obtain rfl := Option.some.inj hm
        exact ret_i []
      refine AWP.cutJ (α := Unit) (fun x => match x with | () => (⟨(tp 7 ((.d (.lit (.bool true))) :: ((.d (.lit (.bool false))) :: (tp 92 [])))), [], 0⟩ : St)) (fun x => match x with | () => m_telltaleref04_Rank_j8  = some r) ?_ (fun J8 => ?_)
      · rintro ⟨⟩ hm
        try dsimp only at hm ⊢
        unfold m_telltaleref04_Rank_j8 at hm
        refine AWP.seq ?_
        refine AWP.seq ?_
        refine AWP.text ?_
        refine Wy (.d (.lit (.bool true))) [] (Omv rfl) ?_
        refine Walk.nil ?_
        refine Then.normal ?_
        refine Amk 633825300114114700748351602944 0 ⟨(tp 8 ((.d (.lit (.bool false))) :: (tp 90 ((.d (.lit (.bool true))) :: (tp 1 []))))), [], 0⟩ ?_
        refine AWP.if_ true (by kernel_rfl) ?_
        refine AWP.seq ?_
        refine AWP.text ?_
        refine Wy (.d (.lit (.int .i64 (-1)))) [] (Omv rfl) ?_
        refine Walk.nil ?_
        refine Then.normal ?_
        refine AWP.ret ?_
        refine Then.ret ?_
        obtain rfl := Option.some.inj hm
        exact ret_i []
      refine AWP.seq ?_
      refine AWP.text ?_
      refine Wy (.loc 0 0) [] (Ofa rfl) ?_
      refine Wy (.d (byteD p0.Kind)) [] (Old rfl) ?_
      refine Wy (.d (.lit (.bool (decide (((p0.Kind.toNat : Nat) : Int) = 1))))) [] (Ocs (by kernel_rfl) (op_bin rfl (a1 := .int .u8 ((p0.Kind.toNat : Nat) : Int)) (a2 := .int .u8 1) (by kernel_rfl) (by kernel_rfl) (fun _ => hb_eql))) ?_
      rcases tf_ (decide (((p0.Kind.toNat : Nat) : Int) = 1)) with hq65_5 | hq65_5
      · replace hm := cT hq65_5 hm
        refine Wy (.d (.lit (.bool true))) [] (Ocs (lit_tf (b := decide (((p0.Kind.toNat : Nat) : Int) = 1)) hq65_5) (Omv rfl)) ?_
        refine Wn ?_
        refine Wn ?_
        refine Wn ?_
        refine Wy (.d (.lit (.bool true))) [] (OpT rfl) ?_
        refine Wy (.d (.lit (.bool true))) [] (Omv rfl) ?_
        refine Wy (.loc 0 1) [] (Ofa rfl) ?_
        refine Wy (.d (.lit (.int .i64 p0.N))) [] (Old rfl) ?_
        refine Wy (.loc 1 1) [] (Ofa rfl) ?_
        refine Wy (.d (.lit (.int .i64 p1.N))) [] (Old rfl) ?_
        refine Wy (.d (.lit (.bool (decide (p1.N < p0.N))))) [] (Obn rfl (fun _ => hb_gtr (k := .i64))) ?_
        refine Wy (.d (.lit (.bool (decide (p1.N < p0.N))))) [] (OpT rfl) ?_
        rcases tf_ (decide (p1.N < p0.N)) with hq77_5 | hq77_5
        · replace hm := cT hq77_5 hm
          refine Wy (.d (.lit (.bool true))) [] (Ocs (lit_tf (b := decide (p1.N < p0.N)) hq77_5) (Omv rfl)) ?_
          refine Wn ?_
          refine Wn ?_
          refine Wn ?_
          refine Wn ?_
          refine Wn ?_
          refine Wn ?_
          refine Wn ?_
          refine Wn ?_
          refine Wy (.d (.lit (.bool true))) [] (OpT rfl) ?_
          refine Wy (.d (.lit (.bool true))) [] (Omv rfl) ?_
          refine Wn ?_
          refine Wn ?_
          refine Wn ?_
          refine Wn ?_
          refine Wn ?_
          refine Wn ?_
          refine Wn ?_
          refine Wn ?_
          refine Wn ?_
          refine Wn ?_
          refine Wy (.d (.lit (.bool true))) [] (OpT rfl) ?_
          refine Wy (.d (.lit (.bool true))) [] (Omv rfl) ?_
          refine Walk.nil ?_
          refine Then.normal ?_
          exact AWP.weak (Weak.toK 384 0 0 []) (J6 () hm)
        · replace hm := cF hq77_5 hm
          refine Wy (.d (.lit (.bool false))) [] (Ocs (lit_tf (b := decide (p1.N < p0.N)) hq77_5) (Omv rfl)) ?_
          refine Wy (.loc 0 0) [] (Ofa rfl) ?_
          refine Wy (.d (byteD p0.Kind)) [] (Old rfl) ?_
          refine Wy (.d (.lit (.bool (decide (((p0.Kind.toNat : Nat) : Int) = 3))))) [] (Ocs (by kernel_rfl) (op_bin rfl (a1 := .int .u8 ((p0.Kind.toNat : Nat) : Int)) (a2 := .int .u8 3) (by kernel_rfl) (by kernel_rfl) (fun _ => hb_eql))) ?_
          rcases tf_ (decide (((p0.Kind.toNat : Nat) : Int) = 3)) with hq81_5 | hq81_5
          · replace hm := cT hq81_5 hm
            refine Wy (.d (.lit (.bool true))) [] (Ocs (lit_tf (b := decide (((p0.Kind.toNat : Nat) : Int) = 3)) hq81_5) (Omv rfl)) ?_
            refine Wy (.d (.lit (.int .u64 r21_0))) [] (Omv rfl) ?_
            refine Wy (.d (.lit (.int .u64 r24_0))) [] (Omv rfl) ?_
            refine Wy (.d (.lit (.bool (decide (r24_0 < r21_0))))) [] (Obn rfl (fun _ => hb_gtr (k := .u64))) ?_
            refine Wy (.d (.lit (.bool (decide (r24_0 < r21_0))))) [] (OpT rfl) ?_
            refine Wy (.d (.lit (.bool (decide (r24_0 < r21_0))))) [] (OpF rfl) ?_
            rcases tf_ (decide (r24_0 < r21_0)) with hq87_5 | hq87_5
            · replace hm := cT hq87_5 hm
              refine Wy (.d (.lit (.bool true))) [] (Ocs (lit_tf (b := decide (r24_0 < r21_0)) hq87_5) (Omv rfl)) ?_
              refine Wn ?_
              refine Wn ?_
              refine Wn ?_
              refine Wn ?_
              refine Wn ?_
              refine Wn ?_
              refine Wn ?_
              refine Wn ?_
              refine Wn ?_
              refine Wn ?_
              refine Wy (.d (.lit (.bool true))) [] (OpT rfl) ?_
              refine Wy (.d (.lit (.bool true))) [] (Omv rfl) ?_
              refine Walk.nil ?_
              refine Then.normal ?_
              exact AWP.weak (Weak.toK 384 0 0 []) (J6 () hm)
            · replace hm := cF hq87_5 hm
              refine Wy (.d (.lit (.bool false))) [] (Ocs (lit_tf (b := decide (r24_0 < r21_0)) hq87_5) (Omv rfl)) ?_
              refine Wy (.loc 0 0) [] (Ofa rfl) ?_
              refine Wy (.d (byteD p0.Kind)) [] (Old rfl) ?_
              refine Wy (.d (.lit (.bool (decide (((p0.Kind.toNat : Nat) : Int) = 4))))) [] (Ocs (by kernel_rfl) (op_bin rfl (a1 := .int .u8 ((p0.Kind.toNat : Nat) : Int)) (a2 := .int .u8 4) (by kernel_rfl) (by kernel_rfl) (fun _ => hb_eql))) ?_
              rcases tf_ (decide (((p0.Kind.toNat : Nat) : Int) = 4)) with hq91_5 | hq91_5
              · replace hm := cT hq91_5 hm
                refine Wy (.d (.lit (.bool true))) [] (Ocs (lit_tf (b := decide (((p0.Kind.toNat : Nat) : Int) = 4)) hq91_5) (Omv rfl)) ?_
                refine Wy (.loc 0 3) [] (Ofa rfl) ?_
                refine Wy (.d (.lit (.string (toS p0.Text)))) [] (Old rfl) ?_
                refine Wy (.loc 1 3) [] (Ofa rfl) ?_
                refine Wy (.d (.lit (.string (toS p1.Text)))) [] (Old rfl) ?_
                refine Wy (.d (.lit (.bool (gtS p0.Text p1.Text)))) [] (op_bin rfl (a1 := .string (toS p0.Text)) (a2 := .string (toS p1.Text)) (by kernel_rfl) (by kernel_rfl) (fun _ => hb_tgtr)) ?_
                refine Wy (.d (.lit (.bool (gtS p0.Text p1.Text)))) [] (OpT rfl) ?_
                refine Wy (.d (.lit (.bool (gtS p0.Text p1.Text)))) [] (OpF rfl) ?_
                refine Wy (.d (.lit (.bool (gtS p0.Text p1.Text)))) [] (Omv rfl) ?_
                refine Walk.nil ?_
                refine Then.normal ?_
                exact AWP.weak (Weak.toK 384 0 0 []) (J7 () hm)
              · replace hm := cF hq91_5 hm
                refine Wy (.d (.lit (.bool false))) [] (Ocs (lit_tf (b := decide (((p0.Kind.toNat : Nat) : Int) = 4)) hq91_5) (Omv rfl)) ?_
                refine Wn ?_
                refine Wn ?_
                refine Wn ?_
                refine Wn ?_
                refine Wn ?_
                refine Wy (.d (.lit (.bool false))) [] (OpF rfl) ?_
                refine Wy (.d (.lit (.bool false))) [] (OpF rfl) ?_
                refine Wy (.d (.lit (.bool false))) [] (Omv rfl) ?_
                refine Walk.nil ?_
                refine Then.normal ?_
                exact AWP.weak (Weak.toK 384 0 0 []) (J8 () hm)
          · replace hm := cF hq81_5 hm
            refine Wy (.d (.lit (.bool false))) [] (Ocs (lit_tf (b := decide (((p0.Kind.toNat : Nat) : Int) = 3)) hq81_5) (Omv rfl)) ?_
            refine Wn ?_
            refine Wn ?_
            refine Wn ?_
            refine Wy (.d (.lit (.bool false))) [] (OpF rfl) ?_
            refine Wy (.d (.lit (.bool false))) [] (OpF rfl) ?_
            refine Wy (.d (.lit (.bool false))) [] (Omv rfl) ?_
            refine Wy (.loc 0 0) [] (Ofa rfl) ?_
            refine Wy (.d (byteD p0.Kind)) [] (Old rfl) ?_
            refine Wy (.d (.lit (.bool (decide (((p0.Kind.toNat : Nat) : Int) = 4))))) [] (Ocs (by kernel_rfl) (op_bin rfl (a1 := .int .u8 ((p0.Kind.toNat : Nat) : Int)) (a2 := .int .u8 4) (by kernel_rfl) (by kernel_rfl) (fun _ => hb_eql))) ?_
            rcases tf_ (decide (((p0.Kind.toNat : Nat) : Int) = 4)) with hq91_5 | hq91_5
            · replace hm := cT hq91_5 hm
              refine Wy (.d (.lit (.bool true))) [] (Ocs (lit_tf (b := decide (((p0.Kind.toNat : Nat) : Int) = 4)) hq91_5) (Omv rfl)) ?_
              refine Wy (.loc 0 3) [] (Ofa rfl) ?_
              refine Wy (.d (.lit (.string (toS p0.Text)))) [] (Old rfl) ?_
              refine Wy (.loc 1 3) [] (Ofa rfl) ?_
              refine Wy (.d (.lit (.string (toS p1.Text)))) [] (Old rfl) ?_
              refine Wy (.d (.lit (.bool (gtS p0.Text p1.Text)))) [] (op_bin rfl (a1 := .string (toS p0.Text)) (a2 := .string (toS p1.Text)) (by kernel_rfl) (by kernel_rfl) (fun _ => hb_tgtr)) ?_
              refine Wy (.d (.lit (.bool (gtS p0.Text p1.Text)))) [] (OpT rfl) ?_
              refine Wy (.d (.lit (.bool (gtS p0.Text p1.Text)))) [] (OpF rfl) ?_
              refine Wy (.d (.lit (.bool (gtS p0.Text p1.Text)))) [] (Omv rfl) ?_
              refine Walk.nil ?_
              refine Then.normal ?_
              exact AWP.weak (Weak.toK 384 0 0 []) (J7 () hm)
            · replace hm := cF hq91_5 hm
              refine Wy (.d (.lit (.bool false))) [] (Ocs (lit_tf (b := decide (((p0.Kind.toNat : Nat) : Int) = 4)) hq91_5) (Omv rfl)) ?_
              refine Wn ?_
              refine Wn ?_
              refine Wn ?_
              refine Wn ?_
              refine Wn ?_
              refine Wy (.d (.lit (.bool false))) [] (OpF rfl) ?_
              refine Wy (.d (.lit (.bool false))) [] (OpF rfl) ?_
              refine Wy (.d (.lit (.bool false))) [] (Omv rfl) ?_
              refine Walk.nil ?_
              refine Then.normal ?_
              exact AWP.weak (Weak.toK 384 0 0 []) (J8 () hm)
      · replace hm := cF hq65_5 hm
        refine Wy (.d (.lit (.bool false))) [] (Ocs (lit_tf (b := decide (((p0.Kind.toNat : Nat) : Int) = 1)) hq65_5) (Omv rfl)) ?_
        refine Wy (.loc 0 0) [] (Ofa rfl) ?_
        refine Wy (.d (byteD p0.Kind)) [] (Old rfl) ?_
        refine Wy (.d (.lit (.bool (decide (((p0.Kind.toNat : Nat) : Int) = 2))))) [] (Ocs (by kernel_rfl) (op_bin rfl (a1 := .int .u8 ((p0.Kind.toNat : Nat) : Int)) (a2 := .int .u8 2) (by kernel_rfl) (by kernel_rfl) (fun _ => hb_eql))) ?_
        refine Wy (.d (.lit (.bool (decide (((p0.Kind.toNat : Nat) : Int) = 2))))) [] (OpF rfl) ?_
        rcases tf_ (decide (((p0.Kind.toNat : Nat) : Int) = 2)) with hq70_5 | hq70_5
        · replace hm := cT hq70_5 hm
          refine Wy (.d (.lit (.bool true))) [] (Ocs (lit_tf (b := decide (((p0.Kind.toNat : Nat) : Int) = 2)) hq70_5) (Omv rfl)) ?_
          refine Wy (.loc 0 1) [] (Ofa rfl) ?_
          refine Wy (.d (.lit (.int .i64 p0.N))) [] (Old rfl) ?_
          refine Wy (.loc 1 1) [] (Ofa rfl) ?_
          refine Wy (.d (.lit (.int .i64 p1.N))) [] (Old rfl) ?_
          refine Wy (.d (.lit (.bool (decide (p1.N < p0.N))))) [] (Obn rfl (fun _ => hb_gtr (k := .i64))) ?_
          refine Wy (.d (.lit (.bool (decide (p1.N < p0.N))))) [] (OpT rfl) ?_
          rcases tf_ (decide (p1.N < p0.N)) with hq77_5 | hq77_5
          · replace hm := cT hq77_5 hm
            refine Wy (.d (.lit (.bool true))) [] (Ocs (lit_tf (b := decide (p1.N < p0.N)) hq77_5) (Omv rfl)) ?_
            refine Wn ?_
            refine Wn ?_
            refine Wn ?_
            refine Wn ?_
            refine Wn ?_
            refine Wn ?_
            refine Wn ?_
            refine Wn ?_
            refine Wy (.d (.lit (.bool true))) [] (OpT rfl) ?_
            refine Wy (.d (.lit (.bool true))) [] (Omv rfl) ?_
            refine Wn ?_
            refine Wn ?_
            refine Wn ?_
            refine Wn ?_
            refine Wn ?_
            refine Wn ?_
            refine Wn ?_
            refine Wn ?_
            refine Wn ?_
            refine Wn ?_
            refine Wy (.d (.lit (.bool true))) [] (OpT rfl) ?_
            refine Wy (.d (.lit (.bool true))) [] (Omv rfl) ?_
            refine Walk.nil ?_
            refine Then.normal ?_
            exact AWP.weak (Weak.toK 384 0 0 []) (J6 () hm)
          · replace hm := cF hq77_5 hm
            refine Wy (.d (.lit (.bool false))) [] (Ocs (lit_tf (b := decide (p1.N < p0.N)) hq77_5) (Omv rfl)) ?_
            refine Wy (.loc 0 0) [] (Ofa rfl) ?_
            refine Wy (.d (byteD p0.Kind)) [] (Old rfl) ?_
            refine Wy (.d (.lit (.bool (decide (((p0.Kind.toNat : Nat) : Int) = 3))))) [] (Ocs (by kernel_rfl) (op_bin rfl (a1 := .int .u8 ((p0.Kind.toNat : Nat) : Int)) (a2 := .int .u8 3) (by kernel_rfl) (by kernel_rfl) (fun _ => hb_eql))) ?_
            rcases tf_ (decide (((p0.Kind.toNat : Nat) : Int) = 3)) with hq81_5 | hq81_5
            · replace hm := cT hq81_5 hm
              refine Wy (.d (.lit (.bool true))) [] (Ocs (lit_tf (b := decide (((p0.Kind.toNat : Nat) : Int) = 3)) hq81_5) (Omv rfl)) ?_
              refine Wy (.d (.lit (.int .u64 r21_0))) [] (Omv rfl) ?_
              refine Wy (.d (.lit (.int .u64 r24_0))) [] (Omv rfl) ?_
              refine Wy (.d (.lit (.bool (decide (r24_0 < r21_0))))) [] (Obn rfl (fun _ => hb_gtr (k := .u64))) ?_
              refine Wy (.d (.lit (.bool (decide (r24_0 < r21_0))))) [] (OpT rfl) ?_
              refine Wy (.d (.lit (.bool (decide (r24_0 < r21_0))))) [] (OpF rfl) ?_
              rcases tf_ (decide (r24_0 < r21_0)) with hq87_5 | hq87_5
              · replace hm := cT hq87_5 hm
                refine Wy (.d (.lit (.bool true))) [] (Ocs (lit_tf (b := decide (r24_0 < r21_0)) hq87_5) (Omv rfl)) ?_
                refine Wn ?_
                refine Wn ?_
                refine Wn ?_
                refine Wn ?_
                refine Wn ?_
                refine Wn ?_
                refine Wn ?_
                refine Wn ?_
                refine Wn ?_
                refine Wn ?_
                refine Wy (.d (.lit (.bool true))) [] (OpT rfl) ?_
                refine Wy (.d (.lit (.bool true))) [] (Omv rfl) ?_
                refine Walk.nil ?_
                refine Then.normal ?_
                exact AWP.weak (Weak.toK 384 0 0 []) (J6 () hm)
              · replace hm := cF hq87_5 hm
                refine Wy (.d (.lit (.bool false))) [] (Ocs (lit_tf (b := decide (r24_0 < r21_0)) hq87_5) (Omv rfl)) ?_
                refine Wy (.loc 0 0) [] (Ofa rfl) ?_
                refine Wy (.d (byteD p0.Kind)) [] (Old rfl) ?_
                refine Wy (.d (.lit (.bool (decide (((p0.Kind.toNat : Nat) : Int) = 4))))) [] (Ocs (by kernel_rfl) (op_bin rfl (a1 := .int .u8 ((p0.Kind.toNat : Nat) : Int)) (a2 := .int .u8 4) (by kernel_rfl) (by kernel_rfl) (fun _ => hb_eql))) ?_
                rcases tf_ (decide (((p0.Kind.toNat : Nat) : Int) = 4)) with hq91_5 | hq91_5
                · replace hm := cT hq91_5 hm
                  refine Wy (.d (.lit (.bool true))) [] (Ocs (lit_tf (b := decide (((p0.Kind.toNat : Nat) : Int) = 4)) hq91_5) (Omv rfl)) ?_
                  refine Wy (.loc 0 3) [] (Ofa rfl) ?_
                  refine Wy (.d (.lit (.string (toS p0.Text)))) [] (Old rfl) ?_
                  refine Wy (.loc 1 3) [] (Ofa rfl) ?_
                  refine Wy (.d (.lit (.string (toS p1.Text)))) [] (Old rfl) ?_
                  refine Wy (.d (.lit (.bool (gtS p0.Text p1.Text)))) [] (op_bin rfl (a1 := .string (toS p0.Text)) (a2 := .string (toS p1.Text)) (by kernel_rfl) (by kernel_rfl) (fun _ => hb_tgtr)) ?_
                  refine Wy (.d (.lit (.bool (gtS p0.Text p1.Text)))) [] (OpT rfl) ?_
                  refine Wy (.d (.lit (.bool (gtS p0.Text p1.Text)))) [] (OpF rfl) ?_
                  refine Wy (.d (.lit (.bool (gtS p0.Text p1.Text)))) [] (Omv rfl) ?_
                  refine Walk.nil ?_
                  refine Then.normal ?_
                  exact AWP.weak (Weak.toK 384 0 0 []) (J7 () hm)
                · replace hm := cF hq91_5 hm
                  refine Wy (.d (.lit (.bool false))) [] (Ocs (lit_tf (b := decide (((p0.Kind.toNat : Nat) : Int) = 4)) hq91_5) (Omv rfl)) ?_
                  refine Wn ?_
                  refine Wn ?_
                  refine Wn ?_
                  refine Wn ?_
                  refine Wn ?_
                  refine Wy (.d (.lit (.bool false))) [] (OpF rfl) ?_
                  refine Wy (.d (.lit (.bool false))) [] (OpF rfl) ?_
                  refine Wy (.d (.lit (.bool false))) [] (Omv rfl) ?_
                  refine Walk.nil ?_
                  refine Then.normal ?_
                  exact AWP.weak (Weak.toK 384 0 0 []) (J8 () hm)
            · replace hm := cF hq81_5 hm
              refine Wy (.d (.lit (.bool false))) [] (Ocs (lit_tf (b := decide (((p0.Kind.toNat : Nat) : Int) = 3)) hq81_5) (Omv rfl)) ?_
              refine Wn ?_
              refine Wn ?_
              refine Wn ?_
              refine Wy (.d (.lit (.bool false))) [] (OpF rfl) ?_
              refine Wy (.d (.lit (.bool false))) [] (OpF rfl) ?_
              refine Wy (.d (.lit (.bool false))) [] (Omv rfl) ?_
              refine Wy (.loc 0 0) [] (Ofa rfl) ?_
              refine Wy (.d (byteD p0.Kind)) [] (Old rfl) ?_
              refine Wy (.d (.lit (.bool (decide (((p0.Kind.toNat : Nat) : Int) = 4))))) [] (Ocs (by kernel_rfl) (op_bin rfl (a1 := .int .u8 ((p0.Kind.toNat : Nat) : Int)) (a2 := .int .u8 4) (by kernel_rfl) (by kernel_rfl) (fun _ => hb_eql))) ?_
              rcases tf_ (decide (((p0.Kind.toNat : Nat) : Int) = 4)) with hq91_5 | hq91_5
              · replace hm := cT hq91_5 hm
                refine Wy (.d (.lit (.bool true))) [] (Ocs (lit_tf (b := decide (((p0.Kind.toNat : Nat) : Int) = 4)) hq91_5) (Omv rfl)) ?_
                refine Wy (.loc 0 3) [] (Ofa rfl) ?_
                refine Wy (.d (.lit (.string (toS p0.Text)))) [] (Old rfl) ?_
                refine Wy (.loc 1 3) [] (Ofa rfl) ?_
                refine Wy (.d (.lit (.string (toS p1.Text)))) [] (Old rfl) ?_
                refine Wy (.d (.lit (.bool (gtS p0.Text p1.Text)))) [] (op_bin rfl (a1 := .string (toS p0.Text)) (a2 := .string (toS p1.Text)) (by kernel_rfl) (by kernel_rfl) (fun _ => hb_tgtr)) ?_
                refine Wy (.d (.lit (.bool (gtS p0.Text p1.Text)))) [] (OpT rfl) ?_
                refine Wy (.d (.lit (.bool (gtS p0.Text p1.Text)))) [] (OpF rfl) ?_
                refine Wy (.d (.lit (.bool (gtS p0.Text p1.Text)))) [] (Omv rfl) ?_
                refine Walk.nil ?_
                refine Then.normal ?_
                exact AWP.weak (Weak.toK 384 0 0 []) (J7 () hm)
              · replace hm := cF hq91_5 hm
                refine Wy (.d (.lit (.bool false))) [] (Ocs (lit_tf (b := decide (((p0.Kind.toNat : Nat) : Int) = 4)) hq91_5) (Omv rfl)) ?_
                refine Wn ?_
                refine Wn ?_
                refine Wn ?_
                refine Wn ?_
                refine Wn ?_
                refine Wy (.d (.lit (.bool false))) [] (OpF rfl) ?_
                refine Wy (.d (.lit (.bool false))) [] (OpF rfl) ?_
                refine Wy (.d (.lit (.bool false))) [] (Omv rfl) ?_
                refine Walk.nil ?_
                refine Then.normal ?_
                exact AWP.weak (Weak.toK 384 0 0 []) (J8 () hm)
        · replace hm := cF hq70_5 hm
          refine Wy (.d (.lit (.bool false))) [] (Ocs (lit_tf (b := decide (((p0.Kind.toNat : Nat) : Int) = 2)) hq70_5) (Omv rfl)) ?_
          refine Wn ?_
          refine Wn ?_
          refine Wn ?_
          refine Wn ?_
          refine Wn ?_
          refine Wy (.d (.lit (.bool false))) [] (OpF rfl) ?_
          refine Wy (.d (.lit (.bool false))) [] (Omv rfl) ?_
          refine Wy (.loc 0 0) [] (Ofa rfl) ?_
          refine Wy (.d (byteD p0.Kind)) [] (Old rfl) ?_
          refine Wy (.d (.lit (.bool (decide (((p0.Kind.toNat : Nat) : Int) = 3))))) [] (Ocs (by kernel_rfl) (op_bin rfl (a1 := .int .u8 ((p0.Kind.toNat : Nat) : Int)) (a2 := .int .u8 3) (by kernel_rfl) (by kernel_rfl) (fun _ => hb_eql))) ?_
          rcases tf_ (decide (((p0.Kind.toNat : Nat) : Int) = 3)) with hq81_5 | hq81_5
          · replace hm := cT hq81_5 hm
            refine Wy (.d (.lit (.bool true))) [] (Ocs (lit_tf (b := decide (((p0.Kind.toNat : Nat) : Int) = 3)) hq81_5) (Omv rfl)) ?_
            refine Wy (.d (.lit (.int .u64 r21_0))) [] (Omv rfl) ?_
            refine Wy (.d (.lit (.int .u64 r24_0))) [] (Omv rfl) ?_
            refine Wy (.d (.lit (.bool (decide (r24_0 < r21_0))))) [] (Obn rfl (fun _ => hb_gtr (k := .u64))) ?_
            refine Wy (.d (.lit (.bool (decide (r24_0 < r21_0))))) [] (OpT rfl) ?_
            refine Wy (.d (.lit (.bool (decide (r24_0 < r21_0))))) [] (OpF rfl) ?_
            rcases tf_ (decide (r24_0 < r21_0)) with hq87_5 | hq87_5
            · replace hm := cT hq87_5 hm
              refine Wy (.d (.lit (.bool true))) [] (Ocs (lit_tf (b := decide (r24_0 < r21_0)) hq87_5) (Omv rfl)) ?_
              refine Wn ?_
              refine Wn ?_
              refine Wn ?_
              refine Wn ?_
              refine Wn ?_
              refine Wn ?_
              refine Wn ?_
              refine Wn ?_
              refine Wn ?_
              refine Wn ?_
              refine Wy (.d (.lit (.bool true))) [] (OpT rfl) ?_
              refine Wy (.d (.lit (.bool true))) [] (Omv rfl) ?_
              refine Walk.nil ?_
              refine Then.normal ?_
              exact AWP.weak (Weak.toK 384 0 0 []) (J6 () hm)
            · replace hm := cF hq87_5 hm
              refine Wy (.d (.lit (.bool false))) [] (Ocs (lit_tf (b := decide (r24_0 < r21_0)) hq87_5) (Omv rfl)) ?_
              refine Wy (.loc 0 0) [] (Ofa rfl) ?_
              refine Wy (.d (byteD p0.Kind)) [] (Old rfl) ?_
              refine Wy (.d (.lit (.bool (decide (((p0.Kind.toNat : Nat) : Int) = 4))))) [] (Ocs (by kernel_rfl) (op_bin rfl (a1 := .int .u8 ((p0.Kind.toNat : Nat) : Int)) (a2 := .int .u8 4) (by kernel_rfl) (by kernel_rfl) (fun _ => hb_eql))) ?_
              rcases tf_ (decide (((p0.Kind.toNat : Nat) : Int) = 4)) with hq91_5 | hq91_5
              · replace hm := cT hq91_5 hm
                refine Wy (.d (.lit (.bool true))) [] (Ocs (lit_tf (b := decide (((p0.Kind.toNat : Nat) : Int) = 4)) hq91_5) (Omv rfl)) ?_
                refine Wy (.loc 0 3) [] (Ofa rfl) ?_
                refine Wy (.d (.lit (.string (toS p0.Text)))) [] (Old rfl) ?_
                refine Wy (.loc 1 3) [] (Ofa rfl) ?_
                refine Wy (.d (.lit (.string (toS p1.Text)))) [] (Old rfl) ?_
                refine Wy (.d (.lit (.bool (gtS p0.Text p1.Text)))) [] (op_bin rfl (a1 := .string (toS p0.Text)) (a2 := .string (toS p1.Text)) (by kernel_rfl) (by kernel_rfl) (fun _ => hb_tgtr)) ?_
                refine Wy (.d (.lit (.bool (gtS p0.Text p1.Text)))) [] (OpT rfl) ?_
                refine Wy (.d (.lit (.bool (gtS p0.Text p1.Text)))) [] (OpF rfl) ?_
                refine Wy (.d (.lit (.bool (gtS p0.Text p1.Text)))) [] (Omv rfl) ?_
                refine Walk.nil ?_
                refine Then.normal ?_
                exact AWP.weak (Weak.toK 384 0 0 []) (J7 () hm)
              · replace hm := cF hq91_5 hm
                refine Wy (.d (.lit (.bool false))) [] (Ocs (lit_tf (b := decide (((p0.Kind.toNat : Nat) : Int) = 4)) hq91_5) (Omv rfl)) ?_
                refine Wn ?_
                refine Wn ?_
                refine Wn ?_
                refine Wn ?_
                refine Wn ?_
                refine Wy (.d (.lit (.bool false))) [] (OpF rfl) ?_
                refine Wy (.d (.lit (.bool false))) [] (OpF rfl) ?_
                refine Wy (.d (.lit (.bool false))) [] (Omv rfl) ?_
                refine Walk.nil ?_
                refine Then.normal ?_
                exact AWP.weak (Weak.toK 384 0 0 []) (J8 () hm)
          · replace hm := cF hq81_5 hm
            refine Wy (.d (.lit (.bool false))) [] (Ocs (lit_tf (b := decide (((p0.Kind.toNat : Nat) : Int) = 3)) hq81_5) (Omv rfl)) ?_
            refine Wn ?_
            refine Wn ?_
            refine Wn ?_
            refine Wy (.d (.lit (.bool false))) [] (OpF rfl) ?_
            refine Wy (.d (.lit (.bool false))) [] (OpF rfl) ?_
            refine Wy (.d (.lit (.bool false))) [] (Omv rfl) ?_
            refine Wy (.loc 0 0) [] (Ofa rfl) ?_
            refine Wy (.d (byteD p0.Kind)) [] (Old rfl) ?_
            refine Wy (.d (.lit (.bool (decide (((p0.Kind.toNat : Nat) : Int) = 4))))) [] (Ocs (by kernel_rfl) (op_bin rfl (a1 := .int .u8 ((p0.Kind.toNat : Nat) : Int)) (a2 := .int .u8 4) (by kernel_rfl) (by kernel_rfl) (fun _ => hb_eql))) ?_
            rcases tf_ (decide (((p0.Kind.toNat : Nat) : Int) = 4)) with hq91_5 | hq91_5
            · replace hm := cT hq91_5 hm
              refine Wy (.d (.lit (.bool true))) [] (Ocs (lit_tf (b := decide (((p0.Kind.toNat : Nat) : Int) = 4)) hq91_5) (Omv rfl)) ?_
              refine Wy (.loc 0 3) [] (Ofa rfl) ?_
              refine Wy (.d (.lit (.string (toS p0.Text)))) [] (Old rfl) ?_
              refine Wy (.loc 1 3) [] (Ofa rfl) ?_
              refine Wy (.d (.lit (.string (toS p1.Text)))) [] (Old rfl) ?_
              refine Wy (.d (.lit (.bool (gtS p0.Text p1.Text)))) [] (op_bin rfl (a1 := .string (toS p0.Text)) (a2 := .string (toS p1.Text)) (by kernel_rfl) (by kernel_rfl) (fun _ => hb_tgtr)) ?_
              refine Wy (.d (.lit (.bool (gtS p0.Text p1.Text)))) [] (OpT rfl) ?_
              refine Wy (.d (.lit (.bool (gtS p0.Text p1.Text)))) [] (OpF rfl) ?_
              refine Wy (.d (.lit (.bool (gtS p0.Text p1.Text)))) [] (Omv rfl) ?_
              refine Walk.nil ?_
              refine Then.normal ?_
              exact AWP.weak (Weak.toK 384 0 0 []) (J7 () hm)
            · replace hm := cF hq91_5 hm
              refine Wy (.d (.lit (.bool false))) [] (Ocs (lit_tf (b := decide (((p0.Kind.toNat : Nat) : Int) = 4)) hq91_5) (Omv rfl)) ?_
              refine Wn ?_
              refine Wn ?_
              refine Wn ?_
              refine Wn ?_
              refine Wn ?_
              refine Wy (.d (.lit (.bool false))) [] (OpF rfl) ?_
              refine Wy (.d (.lit (.bool false))) [] (OpF rfl) ?_
              refine Wy (.d (.lit (.bool false))) [] (Omv rfl) ?_
              refine Walk.nil ?_
              refine Then.normal ?_
              exact AWP.weak (Weak.toK 384 0 0 []) (J8 () hm)
    refine AWP.cutJ (α := Unit) (fun x => match x with | () => (⟨(tp 2 ((.loc 0 0) :: ((.loc 1 0) :: (tp 1 ((.d (.lit (.int .u64 r21_0))) :: ((.d (.lit (.int .u64 r24_0))) :: ((.d (.lit (.bool (ltS p0.Text p1.Text)))) :: (tp 93 [])))))))), [(.box [(.d (byteD p0.Kind)), (.d (.lit (.int .i64 p0.N))), (.d (.lit (.int .u64 p0.Bits))), (.d (.lit (.string (toS p0.Text))))]), (.box [(.d (byteD p1.Kind)), (.d (.lit (.int .i64 p1.N))), (.d (.lit (.int .u64 p1.Bits))), (.d (.lit (.string (toS p1.Text))))])], 0⟩ : St)) (fun x => match x with | () => m_telltaleref04_Rank_j3 p0 p1 r21_0 r24_0 = some r) ?_ (fun J3 => ?_)
    · rintro ⟨⟩ hm
      try dsimp only at hm ⊢
      unfold m_telltaleref04_Rank_j3 at hm
      refine AWP.cutJ (α := Unit) (fun x => match x with | () => (⟨(tp 7 ((.d (.lit (.bool (ltS p0.Text p1.Text)))) :: ((.d (.lit (.bool true))) :: (tp 92 [])))), [], 0⟩ : St)) (fun x => match x with | () => m_telltaleref04_Rank_j10 p0 p1 = some r) ?_ (fun J10 => ?_)
      · rintro ⟨⟩ hm
        try dsimp only at hm ⊢
        unfold m_telltaleref04_Rank_j10 at hm
        refine AWP.seq ?_
        refine AWP.seq ?_
        refine AWP.text ?_
        refine Wy (.d (.lit (.bool (ltS p0.Text p1.Text)))) [] (Omv rfl) ?_
        refine Walk.nil ?_
        refine Then.normal ?_
        refine Amk 633825300114114700748351602944 0 ⟨(tp 8 ((.d (.lit (.bool true))) :: (tp 90 ((.d (.lit (.bool (ltS p0.Text p1.Text)))) :: (tp 1 []))))), [], 0⟩ ?_
        rcases tf_ (ltS p0.Text p1.Text) with hc99_19 | hc99_19
        · replace hm := cT hc99_19 hm
          refine AWP.if_ true (Eq.trans (by kernel_rfl) (lit_tf (b := (ltS p0.Text p1.Text)) hc99_19)) ?_
          refine AWP.seq ?_
          refine AWP.text ?_
          refine Wy (.d (.lit (.int .i64 (-1)))) [] (Omv rfl) ?_
          refine Walk.nil ?_
          refine Then.normal ?_
          refine AWP.ret ?_
          refine Then.ret ?_
          obtain rfl := Option.some.inj hm
          exact ret_i []
        · replace hm := cF hc99_19 hm
          refine AWP.if_ false (Eq.trans (by kernel_rfl) (lit_tf (b := (ltS p0.Text p1.Text)) hc99_19)) ?_
          refine AWP.skip ?_
          refine Then.normal ?_
          refine Amk 256 0 ⟨(tp 8 ((.d (.lit (.bool true))) :: (tp 92 []))), [], 0⟩ ?_
          refine AWP.seq ?_
          refine AWP.seq ?_
          refine AWP.text ?_
          refine Wy (.d (.lit (.bool true))) [] (Omv rfl) ?_
          refine Walk.nil ?_
          refine Then.normal ?_
          refine Amk 1267650600228229401496703205376 0 ⟨(tp 100 ((.d (.lit (.bool true))) :: [])), [], 0⟩ ?_
          refine AWP.if_ true (by kernel_rfl) ?_
          refine AWP.seq ?_
          refine AWP.text ?_
          refine Wy (.d (.lit (.int .i64 1))) [] (Omv rfl) ?_
          refine Walk.nil ?_
          refine Then.normal ?_
          refine AWP.ret ?_
          refine Then.ret ?_
          obtain rfl := Option.some.inj hm
          exact ret_i []
      refine AWP.cutJ (α := Unit) (fun x => match x with | () => (⟨(tp 7 ((.d (.lit (.bool (ltS p0.Text p1.Text)))) :: ((.d (.lit (.bool (gtS p0.Text p1.Text)))) :: (tp 92 [])))), [], 0⟩ : St)) (fun x => match x with | () => m_telltaleref04_Rank_j11 p0 p1 = some r) ?_ (fun J11 => ?_)
      · rintro ⟨⟩ hm
        try dsimp only at hm ⊢
        unfold m_telltaleref04_Rank_j11 at hm
        refine AWP.seq ?_
        refine AWP.seq ?_
        refine AWP.text ?_
        refine Wy (.d (.lit (.bool (ltS p0.Text p1.Text)))) [] (Omv rfl) ?_
        refine Walk.nil ?_
        refine Then.normal ?_
        refine Amk 633825300114114700748351602944 0 ⟨(tp 8 ((.d (.lit (.bool (gtS p0.Text p1.Text)))) :: (tp 90 ((.d (.lit (.bool (ltS p0.Text p1.Text)))) :: (tp 1 []))))), [], 0⟩ ?_
        rcases tf_ (ltS p0.Text p1.Text) with hc99_20 | hc99_20
        · replace hm := cT hc99_20 hm
          refine AWP.if_ true (Eq.trans (by kernel_rfl) (lit_tf (b := (ltS p0.Text p1.Text)) hc99_20)) ?_
          refine AWP.seq ?_
          refine AWP.text ?_
          refine Wy (.d (.lit (.int .i64 (-1)))) [] (Omv rfl) ?_
          refine Walk.nil ?_
          refine Then.normal ?_
          refine AWP.ret ?_
          refine Then.ret ?_
          obtain rfl := Option.some.inj hm
          exact ret_i []
        · replace hm := cF hc99_20 hm
          refine AWP.if_ false (Eq.trans (by kernel_rfl) (lit_tf (b := (ltS p0.Text p1.Text)) hc99_20)) ?_
          refine AWP.skip ?_
          refine Then.normal ?_
          refine Amk 256 0 ⟨(tp 8 ((.d (.lit (.bool (gtS p0.Text p1.Text)))) :: (tp 92 []))), [], 0⟩ ?_
          refine AWP.seq ?_
          refine AWP.seq ?_
          refine AWP.text ?_
          refine Wy (.d (.lit (.bool (gtS p0.Text p1.Text)))) [] (Omv rfl) ?_
          refine Walk.nil ?_
          refine Then.normal ?_
          refine Amk 1267650600228229401496703205376 0 ⟨(tp 100 ((.d (.lit (.bool (gtS p0.Text p1.Text)))) :: [])), [], 0⟩ ?_
          rcases tf_ (gtS p0.Text p1.Text) with hc100_21 | hc100_21
          · replace hm := cT hc100_21 hm
            refine AWP.if_ true (Eq.trans (by kernel_rfl) (lit_tf (b := (gtS p0.Text p1.Text)) hc100_21)) ?_
            refine AWP.seq ?_
            refine AWP.text ?_
            refine Wy (.d (.lit (.int .i64 1))) [] (Omv rfl) ?_
            refine Walk.nil ?_
            refine Then.normal ?_
            refine AWP.ret ?_
            refine Then.ret ?_
            obtain rfl := Option.some.inj hm
            exact ret_i []
          · replace hm := cF hc100_21 hm
            refine AWP.if_ false (Eq.trans (by kernel_rfl) (lit_tf (b := (gtS p0.Text p1.Text)) hc100_21)) ?_
            refine AWP.skip ?_
            refine Then.normal ?_
            refine Amk 0 0 ⟨(tp 101 []), [], 0⟩ ?_
            refine AWP.seq ?_
            refine AWP.text ?_
            refine Wy (.d (.lit (.int .i64 0))) [] (Omv rfl) ?_
            refine Walk.nil ?_
            refine Then.normal ?_
            refine AWP.ret ?_
            obtain rfl := Option.some.inj hm
            exact ret_i []
      refine AWP.cutJ (α := Unit) (fun x => match x with | () => (⟨(tp 7 ((.d (.lit (.bool (ltS p0.Text p1.Text)))) :: ((.d (.lit (.bool false))) :: (tp 92 [])))), [], 0⟩ : St)) (fun x => match x with | () => m_telltaleref04_Rank_j12 p0 p1 = some r) ?_ (fun J12 => ?_)
      · rintro ⟨⟩ hm
        try dsimp only at hm ⊢
        unfold m_telltaleref04_Rank_j12 at hm
        refine AWP.seq ?_
        refine AWP.seq ?_
        refine AWP.text ?_
        refine Wy (.d (.lit (.bool (ltS p0.Text p1.Text)))) [] (Omv rfl) ?_
        refine Walk.nil ?_
        refine Then.normal ?_
        refine Amk 633825300114114700748351602944 0 ⟨(tp 8 ((.d (.lit (.bool false))) :: (tp 90 ((.d (.lit (.bool (ltS p0.Text p1.Text)))) :: (tp 1 []))))), [], 0⟩ ?_
        rcases tf_ (ltS p0.Text p1.Text) with hc99_22 | hc99_22
        · replace hm := cT hc99_22 hm
          refine AWP.if_ true (Eq.trans (by kernel_rfl) (lit_tf (b := (ltS p0.Text p1.Text)) hc99_22)) ?_
          refine AWP.seq ?_
          refine AWP.text ?_
          refine Wy (.d (.lit (.int .i64 (-1)))) [] (Omv rfl) ?_
          refine Walk.nil ?_
          refine Then.normal ?_
          refine AWP.ret ?_
          refine Then.ret ?_
          obtain rfl := Option.some.inj hm
          exact ret_i []
        · replace hm := cF hc99_22 hm
          refine AWP.if_ false (Eq.trans (by kernel_rfl) (lit_tf (b := (ltS p0.Text p1.Text)) hc99_22)) ?_
          refine AWP.skip ?_
          refine Then.normal ?_
          refine Amk 256 0 ⟨(tp 8 ((.d (.lit (.bool false))) :: (tp 92 []))), [], 0⟩ ?_
          refine AWP.seq ?_
          refine AWP.seq ?_
          refine AWP.text ?_
          refine Wy (.d (.lit (.bool false))) [] (Omv rfl) ?_
          refine Walk.nil ?_
          refine Then.normal ?_
          refine Amk 1267650600228229401496703205376 0 ⟨(tp 100 ((.d (.lit (.bool false))) :: [])), [], 0⟩ ?_
          refine AWP.if_ false (by kernel_rfl) ?_
          refine AWP.skip ?_
          refine Then.normal ?_
          refine Amk 0 0 ⟨(tp 101 []), [], 0⟩ ?_
          refine AWP.seq ?_
          refine AWP.text ?_
          refine Wy (.d (.lit (.int .i64 0))) [] (Omv rfl) ?_
          refine Walk.nil ?_
          refine Then.normal ?_
          refine AWP.ret ?_
          obtain rfl := Option.some.inj hm
          exact ret_i []
      refine AWP.seq ?_
      refine AWP.text ?_
      refine Wy (.loc 0 0) [] (Ofa rfl) ?_
      refine Wy (.d (byteD p0.Kind)) [] (Old rfl) ?_
      refine Wy (.d (.lit (.bool (decide (((p0.Kind.toNat : Nat) : Int) = 1))))) [] (Ocs (by kernel_rfl) (op_bin rfl (a1 := .int .u8 ((p0.Kind.toNat : Nat) : Int)) (a2 := .int .u8 1) (by kernel_rfl) (by kernel_rfl) (fun _ => hb_eql))) ?_
      rcases tf_ (decide (((p0.Kind.toNat : Nat) : Int) = 1)) with hq65_9 | hq65_9
      · replace hm := cT hq65_9 hm
        refine Wy (.d (.lit (.bool true))) [] (Ocs (lit_tf (b := decide (((p0.Kind.toNat : Nat) : Int) = 1)) hq65_9) (Omv rfl)) ?_
        refine Wn ?_
        refine Wn ?_
        refine Wn ?_
        refine Wy (.d (.lit (.bool true))) [] (OpT rfl) ?_
        refine Wy (.d (.lit (.bool true))) [] (Omv rfl) ?_
        refine Wy (.loc 0 1) [] (Ofa rfl) ?_
        refine Wy (.d (.lit (.int .i64 p0.N))) [] (Old rfl) ?_
        refine Wy (.loc 1 1) [] (Ofa rfl) ?_
        refine Wy (.d (.lit (.int .i64 p1.N))) [] (Old rfl) ?_
        refine Wy (.d (.lit (.bool (decide (p1.N < p0.N))))) [] (Obn rfl (fun _ => hb_gtr (k := .i64))) ?_
        refine Wy (.d (.lit (.bool (decide (p1.N < p0.N))))) [] (OpT rfl) ?_
        rcases tf_ (decide (p1.N < p0.N)) with hq77_9 | hq77_9
        · replace hm := cT hq77_9 hm
          refine Wy (.d (.lit (.bool true))) [] (Ocs (lit_tf (b := decide (p1.N < p0.N)) hq77_9) (Omv rfl)) ?_
          refine Wn ?_
          refine Wn ?_
          refine Wn ?_
          refine Wn ?_
          refine Wn ?_
          refine Wn ?_
          refine Wn ?_
          refine Wn ?_
          refine Wy (.d (.lit (.bool true))) [] (OpT rfl) ?_
          refine Wy (.d (.lit (.bool true))) [] (Omv rfl) ?_
          refine Wn ?_
          refine Wn ?_
          refine Wn ?_
          refine Wn ?_
          refine Wn ?_
          refine Wn ?_
          refine Wn ?_
          refine Wn ?_
          refine Wn ?_
          refine Wn ?_
          refine Wy (.d (.lit (.bool true))) [] (OpT rfl) ?_
          refine Wy (.d (.lit (.bool true))) [] (Omv rfl) ?_
          refine Walk.nil ?_
          refine Then.normal ?_
          exact AWP.weak (Weak.toK 384 0 0 []) (J10 () hm)
        · replace hm := cF hq77_9 hm
          refine Wy (.d (.lit (.bool false))) [] (Ocs (lit_tf (b := decide (p1.N < p0.N)) hq77_9) (Omv rfl)) ?_
          refine Wy (.loc 0 0) [] (Ofa rfl) ?_
          refine Wy (.d (byteD p0.Kind)) [] (Old rfl) ?_
          refine Wy (.d (.lit (.bool (decide (((p0.Kind.toNat : Nat) : Int) = 3))))) [] (Ocs (by kernel_rfl) (op_bin rfl (a1 := .int .u8 ((p0.Kind.toNat : Nat) : Int)) (a2 := .int .u8 3) (by kernel_rfl) (by kernel_rfl) (fun _ => hb_eql))) ?_
          rcases tf_ (decide (((p0.Kind.toNat : Nat) : Int) = 3)) with hq81_9 | hq81_9
          · replace hm := cT hq81_9 hm
            refine Wy (.d (.lit (.bool true))) [] (Ocs (lit_tf (b := decide (((p0.Kind.toNat : Nat) : Int) = 3)) hq81_9) (Omv rfl)) ?_
            refine Wy (.d (.lit (.int .u64 r21_0))) [] (Omv rfl) ?_
            refine Wy (.d (.lit (.int .u64 r24_0))) [] (Omv rfl) ?_
            refine Wy (.d (.lit (.bool (decide (r24_0 < r21_0))))) [] (Obn rfl (fun _ => hb_gtr (k := .u64))) ?_
            refine Wy (.d (.lit (.bool (decide (r24_0 < r21_0))))) [] (OpT rfl) ?_
            refine Wy (.d (.lit (.bool (decide (r24_0 < r21_0))))) [] (OpF rfl) ?_
            rcases tf_ (decide (r24_0 < r21_0)) with hq87_9 | hq87_9
            · replace hm := cT hq87_9 hm
              refine Wy (.d (.lit (.bool true))) [] (Ocs (lit_tf (b := decide (r24_0 < r21_0)) hq87_9) (Omv rfl)) ?_
              refine Wn ?_
              refine Wn ?_
              refine Wn ?_
              refine Wn ?_
              refine Wn ?_
              refine Wn ?_
              refine Wn ?_
              refine Wn ?_
              refine Wn ?_
              refine Wn ?_
              refine Wy (.d (.lit (.bool true))) [] (OpT rfl) ?_
              refine Wy (.d (.lit (.bool true))) [] (Omv rfl) ?_
              refine Walk.nil ?_
              refine Then.normal ?_
              exact AWP.weak (Weak.toK 384 0 0 []) (J10 () hm)
            · replace hm := cF hq87_9 hm
              refine Wy (.d (.lit (.bool false))) [] (Ocs (lit_tf (b := decide (r24_0 < r21_0)) hq87_9) (Omv rfl)) ?_
              refine Wy (.loc 0 0) [] (Ofa rfl) ?_
              refine Wy (.d (byteD p0.Kind)) [] (Old rfl) ?_
              refine Wy (.d (.lit (.bool (decide (((p0.Kind.toNat : Nat) : Int) = 4))))) [] (Ocs (by kernel_rfl) (op_bin rfl (a1 := .int .u8 ((p0.Kind.toNat : Nat) : Int)) (a2 := .int .u8 4) (by kernel_rfl) (by kernel_rfl) (fun _ => hb_eql))) ?_
              rcases tf_ (decide (((p0.Kind.toNat : Nat) : Int) = 4)) with hq91_9 | hq91_9
              · replace hm := cT hq91_9 hm
                refine Wy (.d (.lit (.bool true))) [] (Ocs (lit_tf (b := decide (((p0.Kind.toNat : Nat) : Int) = 4)) hq91_9) (Omv rfl)) ?_
                refine Wy (.loc 0 3) [] (Ofa rfl) ?_
                refine Wy (.d (.lit (.string (toS p0.Text)))) [] (Old rfl) ?_
                refine Wy (.loc 1 3) [] (Ofa rfl) ?_
                refine Wy (.d (.lit (.string (toS p1.Text)))) [] (Old rfl) ?_
                refine Wy (.d (.lit (.bool (gtS p0.Text p1.Text)))) [] (op_bin rfl (a1 := .string (toS p0.Text)) (a2 := .string (toS p1.Text)) (by kernel_rfl) (by kernel_rfl) (fun _ => hb_tgtr)) ?_
                refine Wy (.d (.lit (.bool (gtS p0.Text p1.Text)))) [] (OpT rfl) ?_
                refine Wy (.d (.lit (.bool (gtS p0.Text p1.Text)))) [] (OpF rfl) ?_
                refine Wy (.d (.lit (.bool (gtS p0.Text p1.Text)))) [] (Omv rfl) ?_
                refine Walk.nil ?_
                refine Then.normal ?_
                exact AWP.weak (Weak.toK 384 0 0 []) (J11 () hm)
              · replace hm := cF hq91_9 hm
                refine Wy (.d (.lit (.bool false))) [] (Ocs (lit_tf (b := decide (((p0.Kind.toNat : Nat) : Int) = 4)) hq91_9) (Omv rfl)) ?_
                refine Wn ?_
                refine Wn ?_
                refine Wn ?_
                refine Wn ?_
                refine Wn ?_
                refine Wy (.d (.lit (.bool false))) [] (OpF rfl) ?_
                refine Wy (.d (.lit (.bool false))) [] (OpF rfl) ?_
                refine Wy (.d (.lit (.bool false))) [] (Omv rfl) ?_
                refine Walk.nil ?_
                refine Then.normal ?_
                exact AWP.weak (Weak.toK 384 0 0 []) (J12 () hm)
          · replace hm := cF hq81_9 hm
            refine Wy (.d (.lit (.bool false))) [] (Ocs (lit_tf (b := decide (((p0.Kind.toNat : Nat) : Int) = 3)) hq81_9) (Omv rfl)) ?_
            refine Wn ?_
            refine Wn ?_
            refine Wn ?_
            refine Wy (.d (.lit (.bool false))) [] (OpF rfl) ?_
            refine Wy (.d (.lit (.bool false))) [] (OpF rfl) ?_
            refine Wy (.d (.lit (.bool false))) [] (Omv rfl) ?_
            refine Wy (.loc 0 0) [] (Ofa rfl) ?_
            refine Wy (.d (byteD p0.Kind)) [] (Old rfl) ?_
            refine Wy (.d (.lit (.bool (decide (((p0.Kind.toNat : Nat) : Int) = 4))))) [] (Ocs (by kernel_rfl) (op_bin rfl (a1 := .int .u8 ((p0.Kind.toNat : Nat) : Int)) (a2 := .int .u8 4) (by kernel_rfl) (by kernel_rfl) (fun _ => hb_eql))) ?_
            rcases tf_ (decide (((p0.Kind.toNat : Nat) : Int) = 4)) with hq91_9 | hq91_9
            · replace hm := cT hq91_9 hm
              refine Wy (.d (.lit (.bool true))) [] (Ocs (lit_tf (b := decide (((p0.Kind.toNat : Nat) : Int) = 4)) hq91_9) (Omv rfl)) ?_
              refine Wy (.loc 0 3) [] (Ofa rfl) ?_
              refine Wy (.d (.lit (.string (toS p0.Text)))) [] (Old rfl) ?_
              refine Wy (.loc 1 3) [] (Ofa rfl) ?_
              refine Wy (.d (.lit (.string (toS p1.Text)))) [] (Old rfl) ?_
              refine Wy (.d (.lit (.bool (gtS p0.Text p1.Text)))) [] (op_bin rfl (a1 := .string (toS p0.Text)) (a2 := .string (toS p1.Text)) (by kernel_rfl) (by kernel_rfl) (fun _ => hb_tgtr)) ?_
              refine Wy (.d (.lit (.bool (gtS p0.Text p1.Text)))) [] (OpT rfl) ?_
              refine Wy (.d (.lit (.bool (gtS p0.Text p1.Text)))) [] (OpF rfl) ?_
              refine Wy (.d (.lit (.bool (gtS p0.Text p1.Text)))) [] (Omv rfl) ?_
              refine Walk.nil ?_
              refine Then.normal ?_
              exact AWP.weak (Weak.toK 384 0 0 []) (J11 () hm)
            · replace hm := cF hq91_9 hm
              refine Wy (.d (.lit (.bool false))) [] (Ocs (lit_tf (b := decide (((p0.Kind.toNat : Nat) : Int) = 4)) hq91_9) (Omv rfl)) ?_
              refine Wn ?_
              refine Wn ?_
              refine Wn ?_
              refine Wn ?_
              refine Wn ?_
              refine Wy (.d (.lit (.bool false))) [] (OpF rfl) ?_
              refine Wy (.d (.lit (.bool false))) [] (OpF rfl) ?_
              refine Wy (.d (.lit (.bool false))) [] (Omv rfl) ?_
              refine Walk.nil ?_
              refine Then.normal ?_
              exact AWP.weak (Weak.toK 384 0 0 []) (J12 () hm)
      · replace hm := cF hq65_9 hm
        refine Wy (.d (.lit (.bool false))) [] (Ocs (lit_tf (b := decide (((p0.Kind.toNat : Nat) : Int) = 1)) hq65_9) (Omv rfl)) ?_
        refine Wy (.loc 0 0) [] (Ofa rfl) ?_
        refine Wy (.d (byteD p0.Kind)) [] (Old rfl) ?_
        refine Wy (.d (.lit (.bool (decide (((p0.Kind.toNat : Nat) : Int) = 2))))) [] (Ocs (by kernel_rfl) (op_bin rfl (a1 := .int .u8 ((p0.Kind.toNat : Nat) : Int)) (a2 := .int .u8 2) (by kernel_rfl) (by kernel_rfl) (fun _ => hb_eql))) ?_
        refine Wy (.d (.lit (.bool (decide (((p0.Kind.toNat : Nat) : Int) = 2))))) [] (OpF rfl) ?_
        rcases tf_ (decide (((p0.Kind.toNat : Nat) : Int) = 2)) with hq70_9 | hq70_9
        · replace hm := cT hq70_9 hm
          refine Wy (.d (.lit (.bool true))) [] (Ocs (lit_tf (b := decide (((p0.Kind.toNat : Nat) : Int) = 2)) hq70_9) (Omv rfl)) ?_
          refine Wy (.loc 0 1) [] (Ofa rfl) ?_
          refine Wy (.d (.lit (.int .i64 p0.N))) [] (Old rfl) ?_
          refine Wy (.loc 1 1) [] (Ofa rfl) ?_
          refine Wy (.d (.lit (.int .i64 p1.N))) [] (Old rfl) ?_
          refine Wy (.d (.lit (.bool (decide (p1.N < p0.N))))) [] (Obn rfl (fun _ => hb_gtr (k := .i64))) ?_
          refine Wy (.d (.lit (.bool (decide (p1.N < p0.N))))) [] (OpT rfl) ?_
          rcases tf_ (decide (p1.N < p0.N)) with hq77_9 | hq77_9
          · replace hm := cT hq77_9 hm
            refine Wy (.d (.lit (.bool true))) [] (Ocs (lit_tf (b := decide (p1.N < p0.N)) hq77_9) (Omv rfl)) ?_
            refine Wn ?_
            refine Wn ?_
            refine Wn ?_
            refine Wn ?_
            refine Wn ?_
            refine Wn ?_
            refine Wn ?_
            refine Wn ?_
            refine Wy (.d (.lit (.bool true))) [] (OpT rfl) ?_
            refine Wy (.d (.lit (.bool true))) [] (Omv rfl) ?_
            refine Wn ?_
            refine Wn ?_
            refine Wn ?_
            refine Wn ?_
            refine Wn ?_
            refine Wn ?_
            refine Wn ?_
            refine Wn ?_
            refine Wn ?_
            refine Wn ?_
            refine Wy (.d (.lit (.bool true))) [] (OpT rfl) ?_
            refine Wy (.d (.lit (.bool true))) [] (Omv rfl) ?_
            refine Walk.nil ?_
            refine Then.normal ?_
            exact AWP.weak (Weak.toK 384 0 0 []) (J10 () hm)
          · replace hm := cF hq77_9 hm
            refine Wy (.d (.lit (.bool false))) [] (Ocs (lit_tf (b := decide (p1.N < p0.N)) hq77_9) (Omv rfl)) ?_
            refine Wy (.loc 0 0) [] (Ofa rfl) ?_
            refine Wy (.d (byteD p0.Kind)) [] (Old rfl) ?_
            refine Wy (.d (.lit (.bool (decide (((p0.Kind.toNat : Nat) : Int) = 3))))) [] (Ocs (by kernel_rfl) (op_bin rfl (a1 := .int .u8 ((p0.Kind.toNat : Nat) : Int)) (a2 := .int .u8 3) (by kernel_rfl) (by kernel_rfl) (fun _ => hb_eql))) ?_
            rcases tf_ (decide (((p0.Kind.toNat : Nat) : Int) = 3)) with hq81_9 | hq81_9
            · replace hm := cT hq81_9 hm
              refine Wy (.d (.lit (.bool true))) [] (Ocs (lit_tf (b := decide (((p0.Kind.toNat : Nat) : Int) = 3)) hq81_9) (Omv rfl)) ?_
              refine Wy (.d (.lit (.int .u64 r21_0))) [] (Omv rfl) ?_
              refine Wy (.d (.lit (.int .u64 r24_0))) [] (Omv rfl) ?_
              refine Wy (.d (.lit (.bool (decide (r24_0 < r21_0))))) [] (Obn rfl (fun _ => hb_gtr (k := .u64))) ?_
              refine Wy (.d (.lit (.bool (decide (r24_0 < r21_0))))) [] (OpT rfl) ?_
              refine Wy (.d (.lit (.bool (decide (r24_0 < r21_0))))) [] (OpF rfl) ?_
              rcases tf_ (decide (r24_0 < r21_0)) with hq87_9 | hq87_9
              · replace hm := cT hq87_9 hm
                refine Wy (.d (.lit (.bool true))) [] (Ocs (lit_tf (b := decide (r24_0 < r21_0)) hq87_9) (Omv rfl)) ?_
                refine Wn ?_
                refine Wn ?_
                refine Wn ?_
                refine Wn ?_
                refine Wn ?_
                refine Wn ?_
                refine Wn ?_
                refine Wn ?_
                refine Wn ?_
                refine Wn ?_
                refine Wy (.d (.lit (.bool true))) [] (OpT rfl) ?_
                refine Wy (.d (.lit (.bool true))) [] (Omv rfl) ?_
                refine Walk.nil ?_
                refine Then.normal ?_
                exact AWP.weak (Weak.toK 384 0 0 []) (J10 () hm)
              · replace hm := cF hq87_9 hm
                refine Wy (.d (.lit (.bool false))) [] (Ocs (lit_tf (b := decide (r24_0 < r21_0)) hq87_9) (Omv rfl)) ?_
                refine Wy (.loc 0 0) [] (Ofa rfl) ?_
                refine Wy (.d (byteD p0.Kind)) [] (Old rfl) ?_
                refine Wy (.d (.lit (.bool (decide (((p0.Kind.toNat : Nat) : Int) = 4))))) [] (Ocs (by kernel_rfl) (op_bin rfl (a1 := .int .u8 ((p0.Kind.toNat : Nat) : Int)) (a2 := .int .u8 4) (by kernel_rfl) (by kernel_rfl) (fun _ => hb_eql))) ?_
                rcases tf_ (decide (((p0.Kind.toNat : Nat) : Int) = 4)) with hq91_9 | hq91_9
                · replace hm := cT hq91_9 hm
                  refine Wy (.d (.lit (.bool true))) [] (Ocs (lit_tf (b := decide (((p0.Kind.toNat : Nat) : Int) = 4)) hq91_9) (Omv rfl)) ?_
                  refine Wy (.loc 0 3) [] (Ofa rfl) ?_
                  refine Wy (.d (.lit (.string (toS p0.Text)))) [] (Old rfl) ?_
                  refine Wy (.loc 1 3) [] (Ofa rfl) ?_
                  refine Wy (.d (.lit (.string (toS p1.Text)))) [] (Old rfl) ?_
                  refine Wy (.d (.lit (.bool (gtS p0.Text p1.Text)))) [] (op_bin rfl (a1 := .string (toS p0.Text)) (a2 := .string (toS p1.Text)) (by kernel_rfl) (by kernel_rfl) (fun _ => hb_tgtr)) ?_
                  refine Wy (.d (.lit (.bool (gtS p0.Text p1.Text)))) [] (OpT rfl) ?_
                  refine Wy (.d (.lit (.bool (gtS p0.Text p1.Text)))) [] (OpF rfl) ?_
                  refine Wy (.d (.lit (.bool (gtS p0.Text p1.Text)))) [] (Omv rfl) ?_
                  refine Walk.nil ?_
                  refine Then.normal ?_
                  exact AWP.weak (Weak.toK 384 0 0 []) (J11 () hm)
                · replace hm := cF hq91_9 hm
                  refine Wy (.d (.lit (.bool false))) [] (Ocs (lit_tf (b := decide (((p0.Kind.toNat : Nat) : Int) = 4)) hq91_9) (Omv rfl)) ?_
                  refine Wn ?_
                  refine Wn ?_
                  refine Wn ?_
                  refine Wn ?_
                  refine Wn ?_
                  refine Wy (.d (.lit (.bool false))) [] (OpF rfl) ?_
                  refine Wy (.d (.lit (.bool false))) [] (OpF rfl) ?_
                  refine Wy (.d (.lit (.bool false))) [] (Omv rfl) ?_
                  refine Walk.nil ?_
                  refine Then.normal ?_
                  exact AWP.weak (Weak.toK 384 0 0 []) (J12 () hm)
            · replace hm := cF hq81_9 hm
              refine Wy (.d (.lit (.bool false))) [] (Ocs (lit_tf (b := decide (((p0.Kind.toNat : Nat) : Int) = 3)) hq81_9) (Omv rfl)) ?_
              refine Wn ?_
              refine Wn ?_
              refine Wn ?_
              refine Wy (.d (.lit (.bool false))) [] (OpF rfl) ?_
              refine Wy (.d (.lit (.bool false))) [] (OpF rfl) ?_
              refine Wy (.d (.lit (.bool false))) [] (Omv rfl) ?_
              refine Wy (.loc 0 0) [] (Ofa rfl) ?_
              refine Wy (.d (byteD p0.Kind)) [] (Old rfl) ?_
              refine Wy (.d (.lit (.bool (decide (((p0.Kind.toNat : Nat) : Int) = 4))))) [] (Ocs (by kernel_rfl) (op_bin rfl (a1 := .int .u8 ((p0.Kind.toNat : Nat) : Int)) (a2 := .int .u8 4) (by kernel_rfl) (by kernel_rfl) (fun _ => hb_eql))) ?_
              rcases tf_ (decide (((p0.Kind.toNat : Nat) : Int) = 4)) with hq91_9 | hq91_9
              · replace hm := cT hq91_9 hm
                refine Wy (.d (.lit (.bool true))) [] (Ocs (lit_tf (b := decide (((p0.Kind.toNat : Nat) : Int) = 4)) hq91_9) (Omv rfl)) ?_
                refine Wy (.loc 0 3) [] (Ofa rfl) ?_
                refine Wy (.d (.lit (.string (toS p0.Text)))) [] (Old rfl) ?_
                refine Wy (.loc 1 3) [] (Ofa rfl) ?_
                refine Wy (.d (.lit (.string (toS p1.Text)))) [] (Old rfl) ?_
                refine Wy (.d (.lit (.bool (gtS p0.Text p1.Text)))) [] (op_bin rfl (a1 := .string (toS p0.Text)) (a2 := .string (toS p1.Text)) (by kernel_rfl) (by kernel_rfl) (fun _ => hb_tgtr)) ?_
                refine Wy (.d (.lit (.bool (gtS p0.Text p1.Text)))) [] (OpT rfl) ?_
                refine Wy (.d (.lit (.bool (gtS p0.Text p1.Text)))) [] (OpF rfl) ?_
                refine Wy (.d (.lit (.bool (gtS p0.Text p1.Text)))) [] (Omv rfl) ?_
                refine Walk.nil ?_
                refine Then.normal ?_
                exact AWP.weak (Weak.toK 384 0 0 []) (J11 () hm)
              · replace hm := cF hq91_9 hm
                refine Wy (.d (.lit (.bool false))) [] (Ocs (lit_tf (b := decide (((p0.Kind.toNat : Nat) : Int) = 4)) hq91_9) (Omv rfl)) ?_
                refine Wn ?_
                refine Wn ?_
                refine Wn ?_
                refine Wn ?_
                refine Wn ?_
                refine Wy (.d (.lit (.bool false))) [] (OpF rfl) ?_
                refine Wy (.d (.lit (.bool false))) [] (OpF rfl) ?_
                refine Wy (.d (.lit (.bool false))) [] (Omv rfl) ?_
                refine Walk.nil ?_
                refine Then.normal ?_
                exact AWP.weak (Weak.toK 384 0 0 []) (J12 () hm)
        · replace hm := cF hq70_9 hm
          refine Wy (.d (.lit (.bool false))) [] (Ocs (lit_tf (b := decide (((p0.Kind.toNat : Nat) : Int) = 2)) hq70_9) (Omv rfl)) ?_
          refine Wn ?_
          refine Wn ?_
          refine Wn ?_
          refine Wn ?_
          refine Wn ?_
          refine Wy (.d (.lit (.bool false))) [] (OpF rfl) ?_
          refine Wy (.d (.lit (.bool false))) [] (Omv rfl) ?_
          refine Wy (.loc 0 0) [] (Ofa rfl) ?_
          refine Wy (.d (byteD p0.Kind)) [] (Old rfl) ?_
          refine Wy (.d (.lit (.bool (decide (((p0.Kind.toNat : Nat) : Int) = 3))))) [] (Ocs (by kernel_rfl) (op_bin rfl (a1 := .int .u8 ((p0.Kind.toNat : Nat) : Int)) (a2 := .int .u8 3) (by kernel_rfl) (by kernel_rfl) (fun _ => hb_eql))) ?_
          rcases tf_ (decide (((p0.Kind.toNat : Nat) : Int) = 3)) with hq81_9 | hq81_9
          · replace hm := cT hq81_9 hm
            refine Wy (.d (.lit (.bool true))) [] (Ocs (lit_tf (b := decide (((p0.Kind.toNat : Nat) : Int) = 3)) hq81_9) (Omv rfl)) ?_
            refine Wy (.d (.lit (.int .u64 r21_0))) [] (Omv rfl) ?_
            refine Wy (.d (.lit (.int .u64 r24_0))) [] (Omv rfl) ?_
            refine Wy (.d (.lit (.bool (decide (r24_0 < r21_0))))) [] (Obn rfl (fun _ => hb_gtr (k := .u64))) ?_
            refine Wy (.d (.lit (.bool (decide (r24_0 < r21_0))))) [] (OpT rfl) ?_
            refine Wy (.d (.lit (.bool (decide (r24_0 < r21_0))))) [] (OpF rfl) ?_
            rcases tf_ (decide (r24_0 < r21_0)) with hq87_9 | hq87_9
            · replace hm := cT hq87_9 hm
              refine Wy (.d (.lit (.bool true))) [] (Ocs (lit_tf (b := decide (r24_0 < r21_0)) hq87_9) (Omv rfl)) ?_
              refine Wn ?_
              refine Wn ?_
              refine Wn ?_
              refine Wn ?_
              refine Wn ?_
              refine Wn ?_
              refine Wn ?_
              refine Wn ?_
              refine Wn ?_
              refine Wn ?_
              refine Wy (.d (.lit (.bool true))) [] (OpT rfl) ?_
              refine Wy (.d (.lit (.bool true))) [] (Omv rfl) ?_
              refine Walk.nil ?_
              refine Then.normal ?_
              exact AWP.weak (Weak.toK 384 0 0 []) (J10 () hm)
            · replace hm := cF hq87_9 hm
              refine Wy (.d (.lit (.bool false))) [] (Ocs (lit_tf (b := decide (r24_0 < r21_0)) hq87_9) (Omv rfl)) ?_
              refine Wy (.loc 0 0) [] (Ofa rfl) ?_
              refine Wy (.d (byteD p0.Kind)) [] (Old rfl) ?_
              refine Wy (.d (.lit (.bool (decide (((p0.Kind.toNat : Nat) : Int) = 4))))) [] (Ocs (by kernel_rfl) (op_bin rfl (a1 := .int .u8 ((p0.Kind.toNat : Nat) : Int)) (a2 := .int .u8 4) (by kernel_rfl) (by kernel_rfl) (fun _ => hb_eql))) ?_
              rcases tf_ (decide (((p0.Kind.toNat : Nat) : Int) = 4)) with hq91_9 | hq91_9
              · replace hm := cT hq91_9 hm
                refine Wy (.d (.lit (.bool true))) [] (Ocs (lit_tf (b := decide (((p0.Kind.toNat : Nat) : Int) = 4)) hq91_9) (Omv rfl)) ?_
                refine Wy (.loc 0 3) [] (Ofa rfl) ?_
                refine Wy (.d (.lit (.string (toS p0.Text)))) [] (Old rfl) ?_
                refine Wy (.loc 1 3) [] (Ofa rfl) ?_
                refine Wy (.d (.lit (.string (toS p1.Text)))) [] (Old rfl) ?_
                refine Wy (.d (.lit (.bool (gtS p0.Text p1.Text)))) [] (op_bin rfl (a1 := .string (toS p0.Text)) (a2 := .string (toS p1.Text)) (by kernel_rfl) (by kernel_rfl) (fun _ => hb_tgtr)) ?_
                refine Wy (.d (.lit (.bool (gtS p0.Text p1.Text)))) [] (OpT rfl) ?_
                refine Wy (.d (.lit (.bool (gtS p0.Text p1.Text)))) [] (OpF rfl) ?_
                refine Wy (.d (.lit (.bool (gtS p0.Text p1.Text)))) [] (Omv rfl) ?_
                refine Walk.nil ?_
                refine Then.normal ?_
                exact AWP.weak (Weak.toK 384 0 0 []) (J11 () hm)
              · replace hm := cF hq91_9 hm
                refine Wy (.d (.lit (.bool false))) [] (Ocs (lit_tf (b := decide (((p0.Kind.toNat : Nat) : Int) = 4)) hq91_9) (Omv rfl)) ?_
                refine Wn ?_
                refine Wn ?_
                refine Wn ?_
                refine Wn ?_
                refine Wn ?_
                refine Wy (.d (.lit (.bool false))) [] (OpF rfl) ?_
                refine Wy (.d (.lit (.bool false))) [] (OpF rfl) ?_
                refine Wy (.d (.lit (.bool false))) [] (Omv rfl) ?_
                refine Walk.nil ?_
                refine Then.normal ?_
                exact AWP.weak (Weak.toK 384 0 0 []) (J12 () hm)
          · replace hm := cF hq81_9 hm
            refine Wy (.d (.lit (.bool false))) [] (Ocs (lit_tf (b := decide (((p0.Kind.toNat : Nat) : Int) = 3)) hq81_9) (Omv rfl)) ?_
            refine Wn ?_
            refine Wn ?_
            refine Wn ?_
            refine Wy (.d (.lit (.bool false))) [] (OpF rfl) ?_
            refine Wy (.d (.lit (.bool false))) [] (OpF rfl) ?_
            refine Wy (.d (.lit (.bool false))) [] (Omv rfl) ?_
            refine Wy (.loc 0 0) [] (Ofa rfl) ?_
            refine Wy (.d (byteD p0.Kind)) [] (Old rfl) ?_
            refine Wy (.d (.lit (.bool (decide (((p0.Kind.toNat : Nat) : Int) = 4))))) [] (Ocs (by kernel_rfl) (op_bin rfl (a1 := .int .u8 ((p0.Kind.toNat : Nat) : Int)) (a2 := .int .u8 4) (by kernel_rfl) (by kernel_rfl) (fun _ => hb_eql))) ?_
            rcases tf_ (decide (((p0.Kind.toNat : Nat) : Int) = 4)) with hq91_9 | hq91_9
            · replace hm := cT hq91_9 hm
              refine Wy (.d (.lit (.bool true))) [] (Ocs (lit_tf (b := decide (((p0.Kind.toNat : Nat) : Int) = 4)) hq91_9) (Omv rfl)) ?_
              refine Wy (.loc 0 3) [] (Ofa rfl) ?_
              refine Wy (.d (.lit (.string (toS p0.Text)))) [] (Old rfl) ?_
              refine Wy (.loc 1 3) [] (Ofa rfl) ?_
              refine Wy (.d (.lit (.string (toS p1.Text)))) [] (Old rfl) ?_
              refine Wy (.d (.lit (.bool (gtS p0.Text p1.Text)))) [] (op_bin rfl (a1 := .string (toS p0.Text)) (a2 := .string (toS p1.Text)) (by kernel_rfl) (by kernel_rfl) (fun _ => hb_tgtr)) ?_
              refine Wy (.d (.lit (.bool (gtS p0.Text p1.Text)))) [] (OpT rfl) ?_
              refine Wy (.d (.lit (.bool (gtS p0.Text p1.Text)))) [] (OpF rfl) ?_
              refine Wy (.d (.lit (.bool (gtS p0.Text p1.Text)))) [] (Omv rfl) ?_
              refine Walk.nil ?_
              refine Then.normal ?_
              exact AWP.weak (Weak.toK 384 0 0 []) (J11 () hm)
            · replace hm := cF hq91_9 hm
              refine Wy (.d (.lit (.bool false))) [] (Ocs (lit_tf (b := decide (((p0.Kind.toNat : Nat) : Int) = 4)) hq91_9) (Omv rfl)) ?_
              refine Wn ?_
              refine Wn ?_
              refine Wn ?_
              refine Wn ?_
              refine Wn ?_
              refine Wy (.d (.lit (.bool false))) [] (OpF rfl) ?_
              refine Wy (.d (.lit (.bool false))) [] (OpF rfl) ?_
              refine Wy (.d (.lit (.bool false))) [] (Omv rfl) ?_
              refine Walk.nil ?_
              refine Then.normal ?_
              exact AWP.weak (Weak.toK 384 0 0 []) (J12 () hm)
    refine AWP.cutJ (α := Unit) (fun x => match x with | () => (⟨(tp 2 ((.loc 0 0) :: ((.loc 1 0) :: (tp 1 ((.d (.lit (.int .u64 r21_0))) :: ((.d (.lit (.int .u64 r24_0))) :: ((.d (.lit (.bool false))) :: (tp 93 [])))))))), [(.box [(.d (byteD p0.Kind)), (.d (.lit (.int .i64 p0.N))), (.d (.lit (.int .u64 p0.Bits))), (.d (.lit (.string (toS p0.Text))))]), (.box [(.d (byteD p1.Kind)), (.d (.lit (.int .i64 p1.N))), (.d (.lit (.int .u64 p1.Bits))), (.d (.lit (.string (toS p1.Text))))])], 0⟩ : St)) (fun x => match x with | () => m_telltaleref04_Rank_j4 p0 p1 r21_0 r24_0 = some r) ?_ (fun J4 => ?_)
    · rintro ⟨⟩ hm
      try dsimp only at hm ⊢
      unfold m_telltaleref04_Rank_j4 at hm
      refine AWP.cutJ (α := Unit) (fun x => match x with | () => (⟨(tp 7 ((.d (.lit (.bool false))) :: ((.d (.lit (.bool true))) :: (tp 92 [])))), [], 0⟩ : St)) (fun x => match x with | () => m_telltaleref04_Rank_j14  = some r) ?_ (fun J14 => ?_)
      · rintro ⟨⟩ hm
        try dsimp only at hm ⊢
        unfold m_telltaleref04_Rank_j14 at hm
        refine AWP.seq ?_
        refine AWP.seq ?_
        refine AWP.text ?_
        refine Wy (.d (.lit (.bool false))) [] (Omv rfl) ?_
        refine Walk.nil ?_
        refine Then.normal ?_
        refine Amk 633825300114114700748351602944 0 ⟨(tp 8 ((.d (.lit (.bool true))) :: (tp 90 ((.d (.lit (.bool false))) :: (tp 1 []))))), [], 0⟩ ?_
        refine AWP.if_ false (by kernel_rfl) ?_
        refine AWP.skip ?_
        refine Then.normal ?_
        refine Amk 256 0 ⟨(tp 8 ((.d (.lit (.bool true))) :: (tp 92 []))), [], 0⟩ ?_
        refine AWP.seq ?_
        refine AWP.seq ?_
        refine AWP.text ?_
        refine Wy (.d (.lit (.bool true))) [] (Omv rfl) ?_
        refine Walk.nil ?_
        refine Then.normal ?_
        refine Amk 1267650600228229401496703205376 0 ⟨(tp 100 ((.d (.lit (.bool true))) :: [])), [], 0⟩ ?_
        refine AWP.if_ true (by kernel_rfl) ?_
        refine AWP.seq ?_
        refine AWP.text ?_
        refine Wy (.d (.lit (.int .i64 1))) [] (Omv rfl) ?_
        refine Walk.nil ?_
        refine Then.normal ?_
        refine AWP.ret ?_
        refine Then.ret ?_
        obtain rfl := Option.some.inj hm
        exact ret_i []
      refine AWP.cutJ (α := Unit) (fun x => match x with | () => (⟨(tp 7 ((.d (.lit (.bool false))) :: ((.d (.lit (.bool (gtS p0.Text p1.Text)))) :: (tp 92 [])))), [], 0⟩ : St)) (fun x => match x with | () => m_telltaleref04_Rank_j15 p0 p1 = some r) ?_ (fun J15 => ?_)
      · rintro ⟨⟩ hm
        try dsimp only at hm ⊢
        unfold m_telltaleref04_Rank_j15 at hm
        refine AWP.seq ?_
        refine AWP.seq ?_
        refine AWP.text ?_
        refine Wy (.d (.lit (.bool false))) [] (Omv rfl) ?_
        refine Walk.nil ?_
        refine Then.normal ?_
        refine Amk 633825300114114700748351602944 0 ⟨(tp 8 ((.d (.lit (.bool (gtS p0.Text p1.Text)))) :: (tp 90 ((.d (.lit (.bool false))) :: (tp 1 []))))), [], 0⟩ ?_
        refine AWP.if_ false (by kernel_rfl) ?_
        refine AWP.skip ?_
        refine Then.normal ?_
        refine Amk 256 0 ⟨(tp 8 ((.d (.lit (.bool (gtS p0.Text p1.Text)))) :: (tp 92 []))), [], 0⟩ ?_
        refine AWP.seq ?_
        refine AWP.seq ?_
        refine AWP.text ?_
        refine Wy (.d (.lit (.bool (gtS p0.Text p1.Text)))) [] (Omv rfl) ?_
        refine Walk.nil ?_
        refine Then.normal ?_
        refine Amk 1267650600228229401496703205376 0 ⟨(tp 100 ((.d (.lit (.bool (gtS p0.Text p1.Text)))) :: [])), [], 0⟩ ?_
        rcases tf_ (gtS p0.Text p1.Text) with hc100_23 | hc100_23
        · replace hm := cT hc100_23 hm
          refine AWP.if_ true (Eq.trans (by kernel_rfl) (lit_tf (b := (gtS p0.Text p1.Text)) hc100_23)) ?_
          refine AWP.seq ?_
          refine AWP.text ?_
          refine Wy (.d (.lit (.int .i64 1))) [] (Omv rfl) ?_
          refine Walk.nil ?_
          refine Then.normal ?_
          refine AWP.ret ?_
          refine Then.ret ?_
          obtain rfl := Option.some.inj hm
          exact ret_i []
        · replace hm := cF hc100_23 hm
          refine AWP.if_ false (Eq.trans (by kernel_rfl) (lit_tf (b := (gtS p0.Text p1.Text)) hc100_23)) ?_
          refine AWP.skip ?_
          refine Then.normal ?_
          refine Amk 0 0 ⟨(tp 101 []), [], 0⟩ ?_
          refine AWP.seq ?_
          refine AWP.text ?_
          refine Wy (.d (.lit (.int .i64 0))) [] (Omv rfl) ?_
          refine Walk.nil ?_
          refine Then.normal ?_
          refine AWP.ret ?_
          obtain rfl := Option.some.inj hm
          exact ret_i []
      refine AWP.cutJ (α := Unit) (fun x => match x with | () => (⟨(tp 7 ((.d (.lit (.bool false))) :: ((.d (.lit (.bool false))) :: (tp 92 [])))), [], 0⟩ : St)) (fun x => match x with | () => m_telltaleref04_Rank_j16  = some r) ?_ (fun J16 => ?_)
      · rintro ⟨⟩ hm
        try dsimp only at hm ⊢
        unfold m_telltaleref04_Rank_j16 at hm
        refine AWP.seq ?_
        refine AWP.seq ?_
        refine AWP.text ?_
        refine Wy (.d (.lit (.bool false))) [] (Omv rfl) ?_
        refine Walk.nil ?_
        refine Then.normal ?_
        refine Amk 633825300114114700748351602944 0 ⟨(tp 8 ((.d (.lit (.bool false))) :: (tp 90 ((.d (.lit (.bool false))) :: (tp 1 []))))), [], 0⟩ ?_
        refine AWP.if_ false (by kernel_rfl) ?_
        refine AWP.skip ?_
        refine Then.normal ?_
        refine Amk 256 0 ⟨(tp 8 ((.d (.lit (.bool false))) :: (tp 92 []))), [], 0⟩ ?_
        refine AWP.seq ?_
        refine AWP.seq ?_
        refine AWP.text ?_
        refine Wy (.d (.lit (.bool false))) [] (Omv rfl) ?_
        refine Walk.nil ?_
        refine Then.normal ?_
        refine Amk 1267650600228229401496703205376 0 ⟨(tp 100 ((.d (.lit (.bool false))) :: [])), [], 0⟩ ?_
        refine AWP.if_ false (by kernel_rfl) ?_
        refine AWP.skip ?_
        refine Then.normal ?_
        refine Amk 0 0 ⟨(tp 101 []), [], 0⟩ ?_
        refine AWP.seq ?_
        refine AWP.text ?_
        refine Wy (.d (.lit (.int .i64 0))) [] (Omv rfl) ?_
        refine Walk.nil ?_
        refine Then.normal ?_
        refine AWP.ret ?_
        obtain rfl := Option.some.inj hm
        exact ret_i []
      refine AWP.seq ?_
      refine AWP.text ?_
      refine Wy (.loc 0 0) [] (Ofa rfl) ?_
      refine Wy (.d (byteD p0.Kind)) [] (Old rfl) ?_
      refine Wy (.d (.lit (.bool (decide (((p0.Kind.toNat : Nat) : Int) = 1))))) [] (Ocs (by kernel_rfl) (op_bin rfl (a1 := .int .u8 ((p0.Kind.toNat : Nat) : Int)) (a2 := .int .u8 1) (by kernel_rfl) (by kernel_rfl) (fun _ => hb_eql))) ?_
      rcases tf_ (decide (((p0.Kind.toNat : Nat) : Int) = 1)) with hq65_13 | hq65_13
      · replace hm := cT hq65_13 hm
        refine Wy (.d (.lit (.bool true))) [] (Ocs (lit_tf (b := decide (((p0.Kind.toNat : Nat) : Int) = 1)) hq65_13) (Omv rfl)) ?_
        refine Wn ?_
        refine Wn ?_
        refine Wn ?_
        refine Wy (.d (.lit (.bool true))) [] (OpT rfl) ?_
        refine Wy (.d (.lit (.bool true))) [] (Omv rfl) ?_
        refine Wy (.loc 0 1) [] (Ofa rfl) ?_
        refine Wy (.d (.lit (.int .i64 p0.N))) [] (Old rfl) ?_
        refine Wy (.loc 1 1) [] (Ofa rfl) ?_
        refine Wy (.d (.lit (.int .i64 p1.N))) [] (Old rfl) ?_
        refine Wy (.d (.lit (.bool (decide (p1.N < p0.N))))) [] (Obn rfl (fun _ => hb_gtr (k := .i64))) ?_
        refine Wy (.d (.lit (.bool (decide (p1.N < p0.N))))) [] (OpT rfl) ?_
        rcases tf_ (decide (p1.N < p0.N)) with hq77_13 | hq77_13
        · replace hm := cT hq77_13 hm
          refine Wy (.d (.lit (.bool true))) [] (Ocs (lit_tf (b := decide (p1.N < p0.N)) hq77_13) (Omv rfl)) ?_
          refine Wn ?_
          refine Wn ?_
          refine Wn ?_
          refine Wn ?_
          refine Wn ?_
          refine Wn ?_
          refine Wn ?_
          refine Wn ?_
          refine Wy (.d (.lit (.bool true))) [] (OpT rfl) ?_
          refine Wy (.d (.lit (.bool true))) [] (Omv rfl) ?_
          refine Wn ?_
          refine Wn ?_
          refine Wn ?_
          refine Wn ?_
          refine Wn ?_
          refine Wn ?_
          refine Wn ?_
          refine Wn ?_
          refine Wn ?_
          refine Wn ?_
          refine Wy (.d (.lit (.bool true))) [] (OpT rfl) ?_
          refine Wy (.d (.lit (.bool true))) [] (Omv rfl) ?_
          refine Walk.nil ?_
          refine Then.normal ?_
          exact AWP.weak (Weak.toK 384 0 0 []) (J14 () hm)
        · replace hm := cF hq77_13 hm
          refine Wy (.d (.lit (.bool false))) [] (Ocs (lit_tf (b := decide (p1.N < p0.N)) hq77_13) (Omv rfl)) ?_
          refine Wy (.loc 0 0) [] (Ofa rfl) ?_
          refine Wy (.d (byteD p0.Kind)) [] (Old rfl) ?_
          refine Wy (.d (.lit (.bool (decide (((p0.Kind.toNat : Nat) : Int) = 3))))) [] (Ocs (by kernel_rfl) (op_bin rfl (a1 := .int .u8 ((p0.Kind.toNat : Nat) : Int)) (a2 := .int .u8 3) (by kernel_rfl) (by kernel_rfl) (fun _ => hb_eql))) ?_
          rcases tf_ (decide (((p0.Kind.toNat : Nat) : Int) = 3)) with hq81_13 | hq81_13
          · replace hm := cT hq81_13 hm
            refine Wy (.d (.lit (.bool true))) [] (Ocs (lit_tf (b := decide (((p0.Kind.toNat : Nat) : Int) = 3)) hq81_13) (Omv rfl)) ?_
            refine Wy (.d (.lit (.int .u64 r21_0))) [] (Omv rfl) ?_
            refine Wy (.d (.lit (.int .u64 r24_0))) [] (Omv rfl) ?_
            refine Wy (.d (.lit (.bool (decide (r24_0 < r21_0))))) [] (Obn rfl (fun _ => hb_gtr (k := .u64))) ?_
            refine Wy (.d (.lit (.bool (decide (r24_0 < r21_0))))) [] (OpT rfl) ?_
            refine Wy (.d (.lit (.bool (decide (r24_0 < r21_0))))) [] (OpF rfl) ?_
            rcases tf_ (decide (r24_0 < r21_0)) with hq87_13 | hq87_13
            · replace hm := cT hq87_13 hm
              refine Wy (.d (.lit (.bool true))) [] (Ocs (lit_tf (b := decide (r24_0 < r21_0)) hq87_13) (Omv rfl)) ?_
              refine Wn ?_
              refine Wn ?_
              refine Wn ?_
              refine Wn ?_
              refine Wn ?_
              refine Wn ?_
              refine Wn ?_
              refine Wn ?_
              refine Wn ?_
              refine Wn ?_
              refine Wy (.d (.lit (.bool true))) [] (OpT rfl) ?_
              refine Wy (.d (.lit (.bool true))) [] (Omv rfl) ?_
              refine Walk.nil ?_
              refine Then.normal ?_
              exact AWP.weak (Weak.toK 384 0 0 []) (J14 () hm)
            · replace hm := cF hq87_13 hm
              refine Wy (.d (.lit (.bool false))) [] (Ocs (lit_tf (b := decide (r24_0 < r21_0)) hq87_13) (Omv rfl)) ?_
              refine Wy (.loc 0 0) [] (Ofa rfl) ?_
              refine Wy (.d (byteD p0.Kind)) [] (Old rfl) ?_
              refine Wy (.d (.lit (.bool (decide (((p0.Kind.toNat : Nat) : Int) = 4))))) [] (Ocs (by kernel_rfl) (op_bin rfl (a1 := .int .u8 ((p0.Kind.toNat : Nat) : Int)) (a2 := .int .u8 4) (by kernel_rfl) (by kernel_rfl) (fun _ => hb_eql))) ?_
              rcases tf_ (decide (((p0.Kind.toNat : Nat) : Int) = 4)) with hq91_13 | hq91_13
              · replace hm := cT hq91_13 hm
                refine Wy (.d (.lit (.bool true))) [] (Ocs (lit_tf (b := decide (((p0.Kind.toNat : Nat) : Int) = 4)) hq91_13) (Omv rfl)) ?_
                refine Wy (.loc 0 3) [] (Ofa rfl) ?_
                refine Wy (.d (.lit (.string (toS p0.Text)))) [] (Old rfl) ?_
                refine Wy (.loc 1 3) [] (Ofa rfl) ?_
                refine Wy (.d (.lit (.string (toS p1.Text)))) [] (Old rfl) ?_
                refine Wy (.d (.lit (.bool (gtS p0.Text p1.Text)))) [] (op_bin rfl (a1 := .string (toS p0.Text)) (a2 := .string (toS p1.Text)) (by kernel_rfl) (by kernel_rfl) (fun _ => hb_tgtr)) ?_
                refine Wy (.d (.lit (.bool (gtS p0.Text p1.Text)))) [] (OpT rfl) ?_
                refine Wy (.d (.lit (.bool (gtS p0.Text p1.Text)))) [] (OpF rfl) ?_
                refine Wy (.d (.lit (.bool (gtS p0.Text p1.Text)))) [] (Omv rfl) ?_
                refine Walk.nil ?_
                refine Then.normal ?_
                exact AWP.weak (Weak.toK 384 0 0 []) (J15 () hm)
              · replace hm := cF hq91_13 hm
                refine Wy (.d (.lit (.bool false))) [] (Ocs (lit_tf (b := decide (((p0.Kind.toNat : Nat) : Int) = 4)) hq91_13) (Omv rfl)) ?_
                refine Wn ?_
                refine Wn ?_
                refine Wn ?_
                refine Wn ?_
                refine Wn ?_
                refine Wy (.d (.lit (.bool false))) [] (OpF rfl) ?_
                refine Wy (.d (.lit (.bool false))) [] (OpF rfl) ?_
                refine Wy (.d (.lit (.bool false))) [] (Omv rfl) ?_
                refine Walk.nil ?_
                refine Then.normal ?_
                exact AWP.weak (Weak.toK 384 0 0 []) (J16 () hm)
          · replace hm := cF hq81_13 hm
            refine Wy (.d (.lit (.bool false))) [] (Ocs (lit_tf (b := decide (((p0.Kind.toNat : Nat) : Int) = 3)) hq81_13) (Omv rfl)) ?_
            refine Wn ?_
            refine Wn ?_
            refine Wn ?_
            refine Wy (.d (.lit (.bool false))) [] (OpF rfl) ?_
            refine Wy (.d (.lit (.bool false))) [] (OpF rfl) ?_
            refine Wy (.d (.lit (.bool false))) [] (Omv rfl) ?_
            refine Wy (.loc 0 0) [] (Ofa rfl) ?_
            refine Wy (.d (byteD p0.Kind)) [] (Old rfl) ?_
            refine Wy (.d (.lit (.bool (decide (((p0.Kind.toNat : Nat) : Int) = 4))))) [] (Ocs (by kernel_rfl) (op_bin rfl (a1 := .int .u8 ((p0.Kind.toNat : Nat) : Int)) (a2 := .int .u8 4) (by kernel_rfl) (by kernel_rfl) (fun _ => hb_eql))) ?_
            rcases tf_ (decide (((p0.Kind.toNat : Nat) : Int) = 4)) with hq91_13 | hq91_13
            · replace hm := cT hq91_13 hm
              refine Wy (.d (.lit (.bool true))) [] (Ocs (lit_tf (b := decide (((p0.Kind.toNat : Nat) : Int) = 4)) hq91_13) (Omv rfl)) ?_
              refine Wy (.loc 0 3) [] (Ofa rfl) ?_
              refine Wy (.d (.lit (.string (toS p0.Text)))) [] (Old rfl) ?_
              refine Wy (.loc 1 3) [] (Ofa rfl) ?_
              refine Wy (.d (.lit (.string (toS p1.Text)))) [] (Old rfl) ?_
              refine Wy (.d (.lit (.bool (gtS p0.Text p1.Text)))) [] (op_bin rfl (a1 := .string (toS p0.Text)) (a2 := .string (toS p1.Text)) (by kernel_rfl) (by kernel_rfl) (fun _ => hb_tgtr)) ?_
              refine Wy (.d (.lit (.bool (gtS p0.Text p1.Text)))) [] (OpT rfl) ?_
              refine Wy (.d (.lit (.bool (gtS p0.Text p1.Text)))) [] (OpF rfl) ?_
              refine Wy (.d (.lit (.bool (gtS p0.Text p1.Text)))) [] (Omv rfl) ?_
              refine Walk.nil ?_
              refine Then.normal ?_
              exact AWP.weak (Weak.toK 384 0 0 []) (J15 () hm)
            · replace hm := cF hq91_13 hm
              refine Wy (.d (.lit (.bool false))) [] (Ocs (lit_tf (b := decide (((p0.Kind.toNat : Nat) : Int) = 4)) hq91_13) (Omv rfl)) ?_
              refine Wn ?_
              refine Wn ?_
              refine Wn ?_
              refine Wn ?_
              refine Wn ?_
              refine Wy (.d (.lit (.bool false))) [] (OpF rfl) ?_
              refine Wy (.d (.lit (.bool false))) [] (OpF rfl) ?_
              refine Wy (.d (.lit (.bool false))) [] (Omv rfl) ?_
              refine Walk.nil ?_
              refine Then.normal ?_
              exact AWP.weak (Weak.toK 384 0 0 []) (J16 () hm)
      · replace hm := cF hq65_13 hm
        refine Wy (.d (.lit (.bool false))) [] (Ocs (lit_tf (b := decide (((p0.Kind.toNat : Nat) : Int) = 1)) hq65_13) (Omv rfl)) ?_
        refine Wy (.loc 0 0) [] (Ofa rfl) ?_
        refine Wy (.d (byteD p0.Kind)) [] (Old rfl) ?_
        refine Wy (.d (.lit (.bool (decide (((p0.Kind.toNat : Nat) : Int) = 2))))) [] (Ocs (by kernel_rfl) (op_bin rfl (a1 := .int .u8 ((p0.Kind.toNat : Nat) : Int)) (a2 := .int .u8 2) (by kernel_rfl) (by kernel_rfl) (fun _ => hb_eql))) ?_
        refine Wy (.d (.lit (.bool (decide (((p0.Kind.toNat : Nat) : Int) = 2))))) [] (OpF rfl) ?_
        rcases tf_ (decide (((p0.Kind.toNat : Nat) : Int) = 2)) with hq70_13 | hq70_13
        · replace hm := cT hq70_13 hm
          refine Wy (.d (.lit (.bool true))) [] (Ocs (lit_tf (b := decide (((p0.Kind.toNat : Nat) : Int) = 2)) hq70_13) (Omv rfl)) ?_
          refine Wy (.loc 0 1) [] (Ofa rfl) ?_
          refine Wy (.d (.lit (.int .i64 p0.N))) [] (Old rfl) ?_
          refine Wy (.loc 1 1) [] (Ofa rfl) ?_
          refine Wy (.d (.lit (.int .i64 p1.N))) [] (Old rfl) ?_
          refine Wy (.d (.lit (.bool (decide (p1.N < p0.N))))) [] (Obn rfl (fun _ => hb_gtr (k := .i64))) ?_
          refine Wy (.d (.lit (.bool (decide (p1.N < p0.N))))) [] (OpT rfl) ?_
          rcases tf_ (decide (p1.N < p0.N)) with hq77_13 | hq77_13
          · replace hm := cT hq77_13 hm
            refine Wy (.d (.lit (.bool true))) [] (Ocs (lit_tf (b := decide (p1.N < p0.N)) hq77_13) (Omv rfl)) ?_
            refine Wn ?_
            refine Wn ?_
            refine Wn ?_
            refine Wn ?_
            refine Wn ?_
            refine Wn ?_
            refine Wn ?_
            refine Wn ?_
            refine Wy (.d (.lit (.bool true))) [] (OpT rfl) ?_
            refine Wy (.d (.lit (.bool true))) [] (Omv rfl) ?_
            refine Wn ?_
            refine Wn ?_
            refine Wn ?_
            refine Wn ?_
            refine Wn ?_
            refine Wn ?_
            refine Wn ?_
            refine Wn ?_
            refine Wn ?_
            refine Wn ?_
            refine Wy (.d (.lit (.bool true))) [] (OpT rfl) ?_
            refine Wy (.d (.lit (.bool true))) [] (Omv rfl) ?_
            refine Walk.nil ?_
            refine Then.normal ?_
            exact AWP.weak (Weak.toK 384 0 0 []) (J14 () hm)
          · replace hm := cF hq77_13 hm
            refine Wy (.d (.lit (.bool false))) [] (Ocs (lit_tf (b := decide (p1.N < p0.N)) hq77_13) (Omv rfl)) ?_
            refine Wy (.loc 0 0) [] (Ofa rfl) ?_
            refine Wy (.d (byteD p0.Kind)) [] (Old rfl) ?_
            refine Wy (.d (.lit (.bool (decide (((p0.Kind.toNat : Nat) : Int) = 3))))) [] (Ocs (by kernel_rfl) (op_bin rfl (a1 := .int .u8 ((p0.Kind.toNat : Nat) : Int)) (a2 := .int .u8 3) (by kernel_rfl) (by kernel_rfl) (fun _ => hb_eql))) ?_
            rcases tf_ (decide (((p0.Kind.toNat : Nat) : Int) = 3)) with hq81_13 | hq81_13
            · replace hm := cT hq81_13 hm
              refine Wy (.d (.lit (.bool true))) [] (Ocs (lit_tf (b := decide (((p0.Kind.toNat : Nat) : Int) = 3)) hq81_13) (Omv rfl)) ?_
              refine Wy (.d (.lit (.int .u64 r21_0))) [] (Omv rfl) ?_
              refine Wy (.d (.lit (.int .u64 r24_0))) [] (Omv rfl) ?_
              refine Wy (.d (.lit (.bool (decide (r24_0 < r21_0))))) [] (Obn rfl (fun _ => hb_gtr (k := .u64))) ?_
              refine Wy (.d (.lit (.bool (decide (r24_0 < r21_0))))) [] (OpT rfl) ?_
              refine Wy (.d (.lit (.bool (decide (r24_0 < r21_0))))) [] (OpF rfl) ?_
              rcases tf_ (decide (r24_0 < r21_0)) with hq87_13 | hq87_13
              · replace hm := cT hq87_13 hm
                refine Wy (.d (.lit (.bool true))) [] (Ocs (lit_tf (b := decide (r24_0 < r21_0)) hq87_13) (Omv rfl)) ?_
                refine Wn ?_
                refine Wn ?_
                refine Wn ?_
                refine Wn ?_
                refine Wn ?_
                refine Wn ?_
                refine Wn ?_
                refine Wn ?_
                refine Wn ?_
                refine Wn ?_
                refine Wy (.d (.lit (.bool true))) [] (OpT rfl) ?_
                refine Wy (.d (.lit (.bool true))) [] (Omv rfl) ?_
                refine Walk.nil ?_
                refine Then.normal ?_
                exact AWP.weak (Weak.toK 384 0 0 []) (J14 () hm)
              · replace hm := cF hq87_13 hm
                refine Wy (.d (.lit (.bool false))) [] (Ocs (lit_tf (b := decide (r24_0 < r21_0)) hq87_13) (Omv rfl)) ?_
                refine Wy (.loc 0 0) [] (Ofa rfl) ?_
                refine Wy (.d (byteD p0.Kind)) [] (Old rfl) ?_
                refine Wy (.d (.lit (.bool (decide (((p0.Kind.toNat : Nat) : Int) = 4))))) [] (Ocs (by kernel_rfl) (op_bin rfl (a1 := .int .u8 ((p0.Kind.toNat : Nat) : Int)) (a2 := .int .u8 4) (by kernel_rfl) (by kernel_rfl) (fun _ => hb_eql))) ?_
                rcases tf_ (decide (((p0.Kind.toNat : Nat) : Int) = 4)) with hq91_13 | hq91_13
                · replace hm := cT hq91_13 hm
                  refine Wy (.d (.lit (.bool true))) [] (Ocs (lit_tf (b := decide (((p0.Kind.toNat : Nat) : Int) = 4)) hq91_13) (Omv rfl)) ?_
                  refine Wy (.loc 0 3) [] (Ofa rfl) ?_
                  refine Wy (.d (.lit (.string (toS p0.Text)))) [] (Old rfl) ?_
                  refine Wy (.loc 1 3) [] (Ofa rfl) ?_
                  refine Wy (.d (.lit (.string (toS p1.Text)))) [] (Old rfl) ?_
                  refine Wy (.d (.lit (.bool (gtS p0.Text p1.Text)))) [] (op_bin rfl (a1 := .string (toS p0.Text)) (a2 := .string (toS p1.Text)) (by kernel_rfl) (by kernel_rfl) (fun _ => hb_tgtr)) ?_
                  refine Wy (.d (.lit (.bool (gtS p0.Text p1.Text)))) [] (OpT rfl) ?_
                  refine Wy (.d (.lit (.bool (gtS p0.Text p1.Text)))) [] (OpF rfl) ?_
                  refine Wy (.d (.lit (.bool (gtS p0.Text p1.Text)))) [] (Omv rfl) ?_
                  refine Walk.nil ?_
                  refine Then.normal ?_
                  exact AWP.weak (Weak.toK 384 0 0 []) (J15 () hm)
                · replace hm := cF hq91_13 hm
                  refine Wy (.d (.lit (.bool false))) [] (Ocs (lit_tf (b := decide (((p0.Kind.toNat : Nat) : Int) = 4)) hq91_13) (Omv rfl)) ?_
                  refine Wn ?_
                  refine Wn ?_
                  refine Wn ?_
                  refine Wn ?_
                  refine Wn ?_
                  refine Wy (.d (.lit (.bool false))) [] (OpF rfl) ?_
                  refine Wy (.d (.lit (.bool false))) [] (OpF rfl) ?_
                  refine Wy (.d (.lit (.bool false))) [] (Omv rfl) ?_
                  refine Walk.nil ?_
                  refine Then.normal ?_
                  exact AWP.weak (Weak.toK 384 0 0 []) (J16 () hm)
            · replace hm := cF hq81_13 hm
              refine Wy (.d (.lit (.bool false))) [] (Ocs (lit_tf (b := decide (((p0.Kind.toNat : Nat) : Int) = 3)) hq81_13) (Omv rfl)) ?_
              refine Wn ?_
              refine Wn ?_
              refine Wn ?_
              refine Wy (.d (.lit (.bool false))) [] (OpF rfl) ?_
              refine Wy (.d (.lit (.bool false))) [] (OpF rfl) ?_
              refine Wy (.d (.lit (.bool false))) [] (Omv rfl) ?_
              refine Wy (.loc 0 0) [] (Ofa rfl) ?_
              refine Wy (.d (byteD p0.Kind)) [] (Old rfl) ?_
              refine Wy (.d (.lit (.bool (decide (((p0.Kind.toNat : Nat) : Int) = 4))))) [] (Ocs (by kernel_rfl) (op_bin rfl (a1 := .int .u8 ((p0.Kind.toNat : Nat) : Int)) (a2 := .int .u8 4) (by kernel_rfl) (by kernel_rfl) (fun _ => hb_eql))) ?_
              rcases tf_ (decide (((p0.Kind.toNat : Nat) : Int) = 4)) with hq91_13 | hq91_13
              · replace hm := cT hq91_13 hm
                refine Wy (.d (.lit (.bool true))) [] (Ocs (lit_tf (b := decide (((p0.Kind.toNat : Nat) : Int) = 4)) hq91_13) (Omv rfl)) ?_
                refine Wy (.loc 0 3) [] (Ofa rfl) ?_
                refine Wy (.d (.lit (.string (toS p0.Text)))) [] (Old rfl) ?_
                refine Wy (.loc 1 3) [] (Ofa rfl) ?_
                refine Wy (.d (.lit (.string (toS p1.Text)))) [] (Old rfl) ?_
                refine Wy (.d (.lit (.bool (gtS p0.Text p1.Text)))) [] (op_bin rfl (a1 := .string (toS p0.Text)) (a2 := .string (toS p1.Text)) (by kernel_rfl) (by kernel_rfl) (fun _ => hb_tgtr)) ?_
                refine Wy (.d (.lit (.bool (gtS p0.Text p1.Text)))) [] (OpT rfl) ?_
                refine Wy (.d (.lit (.bool (gtS p0.Text p1.Text)))) [] (OpF rfl) ?_
                refine Wy (.d (.lit (.bool (gtS p0.Text p1.Text)))) [] (Omv rfl) ?_
                refine Walk.nil ?_
                refine Then.normal ?_
                exact AWP.weak (Weak.toK 384 0 0 []) (J15 () hm)
              · replace hm := cF hq91_13 hm
                refine Wy (.d (.lit (.bool false))) [] (Ocs (lit_tf (b := decide (((p0.Kind.toNat : Nat) : Int) = 4)) hq91_13) (Omv rfl)) ?_
                refine Wn ?_
                refine Wn ?_
                refine Wn ?_
                refine Wn ?_
                refine Wn ?_
                refine Wy (.d (.lit (.bool false))) [] (OpF rfl) ?_
                refine Wy (.d (.lit (.bool false))) [] (OpF rfl) ?_
                refine Wy (.d (.lit (.bool false))) [] (Omv rfl) ?_
                refine Walk.nil ?_
                refine Then.normal ?_
                exact AWP.weak (Weak.toK 384 0 0 []) (J16 () hm)
        · replace hm := cF hq70_13 hm
          refine Wy (.d (.lit (.bool false))) [] (Ocs (lit_tf (b := decide (((p0.Kind.toNat : Nat) : Int) = 2)) hq70_13) (Omv rfl)) ?_
          refine Wn ?_
          refine Wn ?_
          refine Wn ?_
          refine Wn ?_
          refine Wn ?_
          refine Wy (.d (.lit (.bool false))) [] (OpF rfl) ?_
          refine Wy (.d (.lit (.bool false))) [] (Omv rfl) ?_
          refine Wy (.loc 0 0) [] (Ofa rfl) ?_
          refine Wy (.d (byteD p0.Kind)) [] (Old rfl) ?_
          refine Wy (.d (.lit (.bool (decide (((p0.Kind.toNat : Nat) : Int) = 3))))) [] (Ocs (by kernel_rfl) (op_bin rfl (a1 := .int .u8 ((p0.Kind.toNat : Nat) : Int)) (a2 := .int .u8 3) (by kernel_rfl) (by kernel_rfl) (fun _ => hb_eql))) ?_
          rcases tf_ (decide (((p0.Kind.toNat : Nat) : Int) = 3)) with hq81_13 | hq81_13
          · replace hm := cT hq81_13 hm
            refine Wy (.d (.lit (.bool true))) [] (Ocs (lit_tf (b := decide (((p0.Kind.toNat : Nat) : Int) = 3)) hq81_13) (Omv rfl)) ?_
            refine Wy (.d (.lit (.int .u64 r21_0))) [] (Omv rfl) ?_
            refine Wy (.d (.lit (.int .u64 r24_0))) [] (Omv rfl) ?_
            refine Wy (.d (.lit (.bool (decide (r24_0 < r21_0))))) [] (Obn rfl (fun _ => hb_gtr (k := .u64))) ?_
            refine Wy (.d (.lit (.bool (decide (r24_0 < r21_0))))) [] (OpT rfl) ?_
            refine Wy (.d (.lit (.bool (decide (r24_0 < r21_0))))) [] (OpF rfl) ?_
            rcases tf_ (decide (r24_0 < r21_0)) with hq87_13 | hq87_13
            · replace hm := cT hq87_13 hm
              refine Wy (.d (.lit (.bool true))) [] (Ocs (lit_tf (b := decide (r24_0 < r21_0)) hq87_13) (Omv rfl)) ?_
              refine Wn ?_
              refine Wn ?_
              refine Wn ?_
              refine Wn ?_
              refine Wn ?_
              refine Wn ?_
              refine Wn ?_
              refine Wn ?_
              refine Wn ?_
              refine Wn ?_
              refine Wy (.d (.lit (.bool true))) [] (OpT rfl) ?_
              refine Wy (.d (.lit (.bool true))) [] (Omv rfl) ?_
              refine Walk.nil ?_
              refine Then.normal ?_
              exact AWP.weak (Weak.toK 384 0 0 []) (J14 () hm)
            · replace hm := cF hq87_13 hm
              refine Wy (.d (.lit (.bool false))) [] (Ocs (lit_tf (b := decide (r24_0 < r21_0)) hq87_13) (Omv rfl)) ?_
              refine Wy (.loc 0 0) [] (Ofa rfl) ?_
              refine Wy (.d (byteD p0.Kind)) [] (Old rfl) ?_
              refine Wy (.d (.lit (.bool (decide (((p0.Kind.toNat : Nat) : Int) = 4))))) [] (Ocs (by kernel_rfl) (op_bin rfl (a1 := .int .u8 ((p0.Kind.toNat : Nat) : Int)) (a2 := .int .u8 4) (by kernel_rfl) (by kernel_rfl) (fun _ => hb_eql))) ?_
              rcases tf_ (decide (((p0.Kind.toNat : Nat) : Int) = 4)) with hq91_13 | hq91_13
              · replace hm := cT hq91_13 hm
                refine Wy (.d (.lit (.bool true))) [] (Ocs (lit_tf (b := decide (((p0.Kind.toNat : Nat) : Int) = 4)) hq91_13) (Omv rfl)) ?_
                refine Wy (.loc 0 3) [] (Ofa rfl) ?_
                refine Wy (.d (.lit (.string (toS p0.Text)))) [] (Old rfl) ?_
                refine Wy (.loc 1 3) [] (Ofa rfl) ?_
                refine Wy (.d (.lit (.string (toS p1.Text)))) [] (Old rfl) ?_
                refine Wy (.d (.lit (.bool (gtS p0.Text p1.Text)))) [] (op_bin rfl (a1 := .string (toS p0.Text)) (a2 := .string (toS p1.Text)) (by kernel_rfl) (by kernel_rfl) (fun _ => hb_tgtr)) ?_
                refine Wy (.d (.lit (.bool (gtS p0.Text p1.Text)))) [] (OpT rfl) ?_
                refine Wy (.d (.lit (.bool (gtS p0.Text p1.Text)))) [] (OpF rfl) ?_
                refine Wy (.d (.lit (.bool (gtS p0.Text p1.Text)))) [] (Omv rfl) ?_
                refine Walk.nil ?_
                refine Then.normal ?_
                exact AWP.weak (Weak.toK 384 0 0 []) (J15 () hm)
              · replace hm := cF hq91_13 hm
                refine Wy (.d (.lit (.bool false))) [] (Ocs (lit_tf (b := decide (((p0.Kind.toNat : Nat) : Int) = 4)) hq91_13) (Omv rfl)) ?_
                refine Wn ?_
                refine Wn ?_
                refine Wn ?_
                refine Wn ?_
                refine Wn ?_
                refine Wy (.d (.lit (.bool false))) [] (OpF rfl) ?_
                refine Wy (.d (.lit (.bool false))) [] (OpF rfl) ?_
                refine Wy (.d (.lit (.bool false))) [] (Omv rfl) ?_
                refine Walk.nil ?_
                refine Then.normal ?_
                exact AWP.weak (Weak.toK 384 0 0 []) (J16 () hm)
          · replace hm := cF hq81_13 hm
            refine Wy (.d (.lit (.bool false))) [] (Ocs (lit_tf (b := decide (((p0.Kind.toNat : Nat) : Int) = 3)) hq81_13) (Omv rfl)) ?_
            refine Wn ?_
            refine Wn ?_
            refine Wn ?_
            refine Wy (.d (.lit (.bool false))) [] (OpF rfl) ?_
            refine Wy (.d (.lit (.bool false))) [] (OpF rfl) ?_
            refine Wy (.d (.lit (.bool false))) [] (Omv rfl) ?_
            refine Wy (.loc 0 0) [] (Ofa rfl) ?_
            refine Wy (.d (byteD p0.Kind)) [] (Old rfl) ?_
            refine Wy (.d (.lit (.bool (decide (((p0.Kind.toNat : Nat) : Int) = 4))))) [] (Ocs (by kernel_rfl) (op_bin rfl (a1 := .int .u8 ((p0.Kind.toNat : Nat) : Int)) (a2 := .int .u8 4) (by kernel_rfl) (by kernel_rfl) (fun _ => hb_eql))) ?_
            rcases tf_ (decide (((p0.Kind.toNat : Nat) : Int) = 4)) with hq91_13 | hq91_13
            · replace hm := cT hq91_13 hm
              refine Wy (.d (.lit (.bool true))) [] (Ocs (lit_tf (b := decide (((p0.Kind.toNat : Nat) : Int) = 4)) hq91_13) (Omv rfl)) ?_
              refine Wy (.loc 0 3) [] (Ofa rfl) ?_
              refine Wy (.d (.lit (.string (toS p0.Text)))) [] (Old rfl) ?_
              refine Wy (.loc 1 3) [] (Ofa rfl) ?_
              refine Wy (.d (.lit (.string (toS p1.Text)))) [] (Old rfl) ?_
              refine Wy (.d (.lit (.bool (gtS p0.Text p1.Text)))) [] (op_bin rfl (a1 := .string (toS p0.Text)) (a2 := .string (toS p1.Text)) (by kernel_rfl) (by kernel_rfl) (fun _ => hb_tgtr)) ?_
              refine Wy (.d (.lit (.bool (gtS p0.Text p1.Text)))) [] (OpT rfl) ?_
              refine Wy (.d (.lit (.bool (gtS p0.Text p1.Text)))) [] (OpF rfl) ?_
              refine Wy (.d (.lit (.bool (gtS p0.Text p1.Text)))) [] (Omv rfl) ?_
              refine Walk.nil ?_
              refine Then.normal ?_
              exact AWP.weak (Weak.toK 384 0 0 []) (J15 () hm)
            · replace hm := cF hq91_13 hm
              refine Wy (.d (.lit (.bool false))) [] (Ocs (lit_tf (b := decide (((p0.Kind.toNat : Nat) : Int) = 4)) hq91_13) (Omv rfl)) ?_
              refine Wn ?_
              refine Wn ?_
              refine Wn ?_
              refine Wn ?_
              refine Wn ?_
              refine Wy (.d (.lit (.bool false))) [] (OpF rfl) ?_
              refine Wy (.d (.lit (.bool false))) [] (OpF rfl) ?_
              refine Wy (.d (.lit (.bool false))) [] (Omv rfl) ?_
              refine Walk.nil ?_
              refine Then.normal ?_
              exact AWP.weak (Weak.toK 384 0 0 []) (J16 () hm)
    refine AWP.seq ?_
    refine AWP.text ?_
    refine Wy (.loc 0 0) [] (Ofa rfl) ?_
    refine Wy (.d (byteD p0.Kind)) [] (Old rfl) ?_
    refine Wy (.d (.lit (.bool (decide (((p0.Kind.toNat : Nat) : Int) = 1))))) [] (Ocs (by kernel_rfl) (op_bin rfl (a1 := .int .u8 ((p0.Kind.toNat : Nat) : Int)) (a2 := .int .u8 1) (by kernel_rfl) (by kernel_rfl) (fun _ => hb_eql))) ?_
    rcases tf_ (decide (((p0.Kind.toNat : Nat) : Int) = 1)) with hq28_1 | hq28_1
    · replace hm := cT hq28_1 hm
      refine Wy (.d (.lit (.bool true))) [] (Ocs (lit_tf (b := decide (((p0.Kind.toNat : Nat) : Int) = 1)) hq28_1) (Omv rfl)) ?_
      refine Wn ?_
      refine Wn ?_
      refine Wn ?_
      refine Wy (.d (.lit (.bool true))) [] (OpT rfl) ?_
      refine Wy (.d (.lit (.bool true))) [] (Omv rfl) ?_
      refine Wy (.loc 0 1) [] (Ofa rfl) ?_
      refine Wy (.d (.lit (.int .i64 p0.N))) [] (Old rfl) ?_
      refine Wy (.loc 1 1) [] (Ofa rfl) ?_
      refine Wy (.d (.lit (.int .i64 p1.N))) [] (Old rfl) ?_
      refine Wy (.d (.lit (.bool (decide (p0.N < p1.N))))) [] (Obn rfl (fun _ => hb_lss (k := .i64))) ?_
      refine Wy (.d (.lit (.bool (decide (p0.N < p1.N))))) [] (OpT rfl) ?_
      rcases tf_ (decide (p0.N < p1.N)) with hq40_1 | hq40_1
      · replace hm := cT hq40_1 hm
        refine Wy (.d (.lit (.bool true))) [] (Ocs (lit_tf (b := decide (p0.N < p1.N)) hq40_1) (Omv rfl)) ?_
        refine Wn ?_
        refine Wn ?_
        refine Wn ?_
        refine Wn ?_
        refine Wn ?_
        refine Wn ?_
        refine Wn ?_
        refine Wn ?_
        refine Wy (.d (.lit (.bool true))) [] (OpT rfl) ?_
        refine Wy (.d (.lit (.bool true))) [] (Omv rfl) ?_
        refine Wn ?_
        refine Wn ?_
        refine Wn ?_
        refine Wn ?_
        refine Wn ?_
        refine Wn ?_
        refine Wn ?_
        refine Wn ?_
        refine Wn ?_
        refine Wn ?_
        refine Wy (.d (.lit (.bool true))) [] (OpT rfl) ?_
        refine Wy (.d (.lit (.bool true))) [] (Omv rfl) ?_
        refine Walk.nil ?_
        refine Then.normal ?_
        exact AWP.weak (Weak.toK 236 0 0 [0, 1]) (J2 () hm)
      · replace hm := cF hq40_1 hm
        refine Wy (.d (.lit (.bool false))) [] (Ocs (lit_tf (b := decide (p0.N < p1.N)) hq40_1) (Omv rfl)) ?_
        refine Wy (.loc 0 0) [] (Ofa rfl) ?_
        refine Wy (.d (byteD p0.Kind)) [] (Old rfl) ?_
        refine Wy (.d (.lit (.bool (decide (((p0.Kind.toNat : Nat) : Int) = 3))))) [] (Ocs (by kernel_rfl) (op_bin rfl (a1 := .int .u8 ((p0.Kind.toNat : Nat) : Int)) (a2 := .int .u8 3) (by kernel_rfl) (by kernel_rfl) (fun _ => hb_eql))) ?_
        rcases tf_ (decide (((p0.Kind.toNat : Nat) : Int) = 3)) with hq44_1 | hq44_1
        · replace hm := cT hq44_1 hm
          refine Wy (.d (.lit (.bool true))) [] (Ocs (lit_tf (b := decide (((p0.Kind.toNat : Nat) : Int) = 3)) hq44_1) (Omv rfl)) ?_
          refine Wy (.d (.lit (.int .u64 r21_0))) [] (Omv rfl) ?_
          refine Wy (.d (.lit (.int .u64 r24_0))) [] (Omv rfl) ?_
          refine Wy (.d (.lit (.bool (decide (r21_0 < r24_0))))) [] (Obn rfl (fun _ => hb_lss (k := .u64))) ?_
          refine Wy (.d (.lit (.bool (decide (r21_0 < r24_0))))) [] (OpT rfl) ?_
          refine Wy (.d (.lit (.bool (decide (r21_0 < r24_0))))) [] (OpF rfl) ?_
          rcases tf_ (decide (r21_0 < r24_0)) with hq50_1 | hq50_1
          · replace hm := cT hq50_1 hm
            refine Wy (.d (.lit (.bool true))) [] (Ocs (lit_tf (b := decide (r21_0 < r24_0)) hq50_1) (Omv rfl)) ?_
            refine Wn ?_
            refine Wn ?_
            refine Wn ?_
            refine Wn ?_
            refine Wn ?_
            refine Wn ?_
            refine Wn ?_
            refine Wn ?_
            refine Wn ?_
            refine Wn ?_
            refine Wy (.d (.lit (.bool true))) [] (OpT rfl) ?_
            refine Wy (.d (.lit (.bool true))) [] (Omv rfl) ?_
            refine Walk.nil ?_
            refine Then.normal ?_
            exact AWP.weak (Weak.toK 236 0 0 [0, 1]) (J2 () hm)
          · replace hm := cF hq50_1 hm
            refine Wy (.d (.lit (.bool false))) [] (Ocs (lit_tf (b := decide (r21_0 < r24_0)) hq50_1) (Omv rfl)) ?_
            refine Wy (.loc 0 0) [] (Ofa rfl) ?_
            refine Wy (.d (byteD p0.Kind)) [] (Old rfl) ?_
            refine Wy (.d (.lit (.bool (decide (((p0.Kind.toNat : Nat) : Int) = 4))))) [] (Ocs (by kernel_rfl) (op_bin rfl (a1 := .int .u8 ((p0.Kind.toNat : Nat) : Int)) (a2 := .int .u8 4) (by kernel_rfl) (by kernel_rfl) (fun _ => hb_eql))) ?_
            rcases tf_ (decide (((p0.Kind.toNat : Nat) : Int) = 4)) with hq54_1 | hq54_1
            · replace hm := cT hq54_1 hm
              refine Wy (.d (.lit (.bool true))) [] (Ocs (lit_tf (b := decide (((p0.Kind.toNat : Nat) : Int) = 4)) hq54_1) (Omv rfl)) ?_
              refine Wy (.loc 0 3) [] (Ofa rfl) ?_
              refine Wy (.d (.lit (.string (toS p0.Text)))) [] (Old rfl) ?_
              refine Wy (.loc 1 3) [] (Ofa rfl) ?_
              refine Wy (.d (.lit (.string (toS p1.Text)))) [] (Old rfl) ?_
              refine Wy (.d (.lit (.bool (ltS p0.Text p1.Text)))) [] (op_bin rfl (a1 := .string (toS p0.Text)) (a2 := .string (toS p1.Text)) (by kernel_rfl) (by kernel_rfl) (fun _ => hb_tlss)) ?_
              refine Wy (.d (.lit (.bool (ltS p0.Text p1.Text)))) [] (OpT rfl) ?_
              refine Wy (.d (.lit (.bool (ltS p0.Text p1.Text)))) [] (OpF rfl) ?_
              refine Wy (.d (.lit (.bool (ltS p0.Text p1.Text)))) [] (Omv rfl) ?_
              refine Walk.nil ?_
              refine Then.normal ?_
              exact AWP.weak (Weak.toK 236 0 0 [0, 1]) (J3 () hm)
            · replace hm := cF hq54_1 hm
              refine Wy (.d (.lit (.bool false))) [] (Ocs (lit_tf (b := decide (((p0.Kind.toNat : Nat) : Int) = 4)) hq54_1) (Omv rfl)) ?_
              refine Wn ?_
              refine Wn ?_
              refine Wn ?_
              refine Wn ?_
              refine Wn ?_
              refine Wy (.d (.lit (.bool false))) [] (OpF rfl) ?_
              refine Wy (.d (.lit (.bool false))) [] (OpF rfl) ?_
              refine Wy (.d (.lit (.bool false))) [] (Omv rfl) ?_
              refine Walk.nil ?_
              refine Then.normal ?_
              exact AWP.weak (Weak.toK 236 0 0 [0, 1]) (J4 () hm)
        · replace hm := cF hq44_1 hm
          refine Wy (.d (.lit (.bool false))) [] (Ocs (lit_tf (b := decide (((p0.Kind.toNat : Nat) : Int) = 3)) hq44_1) (Omv rfl)) ?_
          refine Wn ?_
          refine Wn ?_
          refine Wn ?_
          refine Wy (.d (.lit (.bool false))) [] (OpF rfl) ?_
          refine Wy (.d (.lit (.bool false))) [] (OpF rfl) ?_
          refine Wy (.d (.lit (.bool false))) [] (Omv rfl) ?_
          refine Wy (.loc 0 0) [] (Ofa rfl) ?_
          refine Wy (.d (byteD p0.Kind)) [] (Old rfl) ?_
          refine Wy (.d (.lit (.bool (decide (((p0.Kind.toNat : Nat) : Int) = 4))))) [] (Ocs (by kernel_rfl) (op_bin rfl (a1 := .int .u8 ((p0.Kind.toNat : Nat) : Int)) (a2 := .int .u8 4) (by kernel_rfl) (by kernel_rfl) (fun _ => hb_eql))) ?_
          rcases tf_ (decide (((p0.Kind.toNat : Nat) : Int) = 4)) with hq54_1 | hq54_1
          · replace hm := cT hq54_1 hm
            refine Wy (.d (.lit (.bool true))) [] (Ocs (lit_tf (b := decide (((p0.Kind.toNat : Nat) : Int) = 4)) hq54_1) (Omv rfl)) ?_
            refine Wy (.loc 0 3) [] (Ofa rfl) ?_
            refine Wy (.d (.lit (.string (toS p0.Text)))) [] (Old rfl) ?_
            refine Wy (.loc 1 3) [] (Ofa rfl) ?_
            refine Wy (.d (.lit (.string (toS p1.Text)))) [] (Old rfl) ?_
            refine Wy (.d (.lit (.bool (ltS p0.Text p1.Text)))) [] (op_bin rfl (a1 := .string (toS p0.Text)) (a2 := .string (toS p1.Text)) (by kernel_rfl) (by kernel_rfl) (fun _ => hb_tlss)) ?_
            refine Wy (.d (.lit (.bool (ltS p0.Text p1.Text)))) [] (OpT rfl) ?_
            refine Wy (.d (.lit (.bool (ltS p0.Text p1.Text)))) [] (OpF rfl) ?_
            refine Wy (.d (.lit (.bool (ltS p0.Text p1.Text)))) [] (Omv rfl) ?_
            refine Walk.nil ?_
            refine Then.normal ?_
            exact AWP.weak (Weak.toK 236 0 0 [0, 1]) (J3 () hm)
          · replace hm := cF hq54_1 hm
            refine Wy (.d (.lit (.bool false))) [] (Ocs (lit_tf (b := decide (((p0.Kind.toNat : Nat) : Int) = 4)) hq54_1) (Omv rfl)) ?_
            refine Wn ?_
            refine Wn ?_
            refine Wn ?_
            refine Wn ?_
            refine Wn ?_
            refine Wy (.d (.lit (.bool false))) [] (OpF rfl) ?_
            refine Wy (.d (.lit (.bool false))) [] (OpF rfl) ?_
            refine Wy (.d (.lit (.bool false))) [] (Omv rfl) ?_
            refine Walk.nil ?_
            refine Then.normal ?_
            exact AWP.weak (Weak.toK 236 0 0 [0, 1]) (J4 () hm)
    · replace hm := cF hq28_1 hm
      refine Wy (.d (.lit (.bool false))) [] (Ocs (lit_tf (b := decide (((p0.Kind.toNat : Nat) : Int) = 1)) hq28_1) (Omv rfl)) ?_
      refine Wy (.loc 0 0) [] (Ofa rfl) ?_
      refine Wy (.d (byteD p0.Kind)) [] (Old rfl) ?_
      refine Wy (.d (.lit (.bool (decide (((p0.Kind.toNat : Nat) : Int) = 2))))) [] (Ocs (by kernel_rfl) (op_bin rfl (a1 := .int .u8 ((p0.Kind.toNat : Nat) : Int)) (a2 := .int .u8 2) (by kernel_rfl) (by kernel_rfl) (fun _ => hb_eql))) ?_
      refine Wy (.d (.lit (.bool (decide (((p0.Kind.toNat : Nat) : Int) = 2))))) [] (OpF rfl) ?_
      rcases tf_ (decide (((p0.Kind.toNat : Nat) : Int) = 2)) with hq33_1 | hq33_1
      · replace hm := cT hq33_1 hm
        refine Wy (.d (.lit (.bool true))) [] (Ocs (lit_tf (b := decide (((p0.Kind.toNat : Nat) : Int) = 2)) hq33_1) (Omv rfl)) ?_
        refine Wy (.loc 0 1) [] (Ofa rfl) ?_
        refine Wy (.d (.lit (.int .i64 p0.N))) [] (Old rfl) ?_
        refine Wy (.loc 1 1) [] (Ofa rfl) ?_
        refine Wy (.d (.lit (.int .i64 p1.N))) [] (Old rfl) ?_
        refine Wy (.d (.lit (.bool (decide (p0.N < p1.N))))) [] (Obn rfl (fun _ => hb_lss (k := .i64))) ?_
        refine Wy (.d (.lit (.bool (decide (p0.N < p1.N))))) [] (OpT rfl) ?_
        rcases tf_ (decide (p0.N < p1.N)) with hq40_1 | hq40_1
        · replace hm := cT hq40_1 hm
          refine Wy (.d (.lit (.bool true))) [] (Ocs (lit_tf (b := decide (p0.N < p1.N)) hq40_1) (Omv rfl)) ?_
          refine Wn ?_
          refine Wn ?_
          refine Wn ?_
          refine Wn ?_
          refine Wn ?_
          refine Wn ?_
          refine Wn ?_
          refine Wn ?_
          refine Wy (.d (.lit (.bool true))) [] (OpT rfl) ?_
          refine Wy (.d (.lit (.bool true))) [] (Omv rfl) ?_
          refine Wn ?_
          refine Wn ?_
          refine Wn ?_
          refine Wn ?_
          refine Wn ?_
          refine Wn ?_
          refine Wn ?_
          refine Wn ?_
          refine Wn ?_
          refine Wn ?_
          refine Wy (.d (.lit (.bool true))) [] (OpT rfl) ?_
          refine Wy (.d (.lit (.bool true))) [] (Omv rfl) ?_
          refine Walk.nil ?_
          refine Then.normal ?_
          exact AWP.weak (Weak.toK 236 0 0 [0, 1]) (J2 () hm)
        · replace hm := cF hq40_1 hm
          refine Wy (.d (.lit (.bool false))) [] (Ocs (lit_tf (b := decide (p0.N < p1.N)) hq40_1) (Omv rfl)) ?_
          refine Wy (.loc 0 0) [] (Ofa rfl) ?_
          refine Wy (.d (byteD p0.Kind)) [] (Old rfl) ?_
          refine Wy (.d (.lit (.bool (decide (((p0.Kind.toNat : Nat) : Int) = 3))))) [] (Ocs (by kernel_rfl) (op_bin rfl (a1 := .int .u8 ((p0.Kind.toNat : Nat) : Int)) (a2 := .int .u8 3) (by kernel_rfl) (by kernel_rfl) (fun _ => hb_eql))) ?_
          rcases tf_ (decide (((p0.Kind.toNat : Nat) : Int) = 3)) with hq44_1 | hq44_1
          · replace hm := cT hq44_1 hm
            refine Wy (.d (.lit (.bool true))) [] (Ocs (lit_tf (b := decide (((p0.Kind.toNat : Nat) : Int) = 3)) hq44_1) (Omv rfl)) ?_
            refine Wy (.d (.lit (.int .u64 r21_0))) [] (Omv rfl) ?_
            refine Wy (.d (.lit (.int .u64 r24_0))) [] (Omv rfl) ?_
            refine Wy (.d (.lit (.bool (decide (r21_0 < r24_0))))) [] (Obn rfl (fun _ => hb_lss (k := .u64))) ?_
            refine Wy (.d (.lit (.bool (decide (r21_0 < r24_0))))) [] (OpT rfl) ?_
            refine Wy (.d (.lit (.bool (decide (r21_0 < r24_0))))) [] (OpF rfl) ?_
            rcases tf_ (decide (r21_0 < r24_0)) with hq50_1 | hq50_1
            · replace hm := cT hq50_1 hm
              refine Wy (.d (.lit (.bool true))) [] (Ocs (lit_tf (b := decide (r21_0 < r24_0)) hq50_1) (Omv rfl)) ?_
              refine Wn ?_
              refine Wn ?_
              refine Wn ?_
              refine Wn ?_
              refine Wn ?_
              refine Wn ?_
              refine Wn ?_
              refine Wn ?_
              refine Wn ?_
              refine Wn ?_
              refine Wy (.d (.lit (.bool true))) [] (OpT rfl) ?_
              refine Wy (.d (.lit (.bool true))) [] (Omv rfl) ?_
              refine Walk.nil ?_
              refine Then.normal ?_
              exact AWP.weak (Weak.toK 236 0 0 [0, 1]) (J2 () hm)
            · replace hm := cF hq50_1 hm
              refine Wy (.d (.lit (.bool false))) [] (Ocs (lit_tf (b := decide (r21_0 < r24_0)) hq50_1) (Omv rfl)) ?_
              refine Wy (.loc 0 0) [] (Ofa rfl) ?_
              refine Wy (.d (byteD p0.Kind)) [] (Old rfl) ?_
              refine Wy (.d (.lit (.bool (decide (((p0.Kind.toNat : Nat) : Int) = 4))))) [] (Ocs (by kernel_rfl) (op_bin rfl (a1 := .int .u8 ((p0.Kind.toNat : Nat) : Int)) (a2 := .int .u8 4) (by kernel_rfl) (by kernel_rfl) (fun _ => hb_eql))) ?_
              rcases tf_ (decide (((p0.Kind.toNat : Nat) : Int) = 4)) with hq54_1 | hq54_1
              · replace hm := cT hq54_1 hm
                refine Wy (.d (.lit (.bool true))) [] (Ocs (lit_tf (b := decide (((p0.Kind.toNat : Nat) : Int) = 4)) hq54_1) (Omv rfl)) ?_
                refine Wy (.loc 0 3) [] (Ofa rfl) ?_
                refine Wy (.d (.lit (.string (toS p0.Text)))) [] (Old rfl) ?_
                refine Wy (.loc 1 3) [] (Ofa rfl) ?_
                refine Wy (.d (.lit (.string (toS p1.Text)))) [] (Old rfl) ?_
                refine Wy (.d (.lit (.bool (ltS p0.Text p1.Text)))) [] (op_bin rfl (a1 := .string (toS p0.Text)) (a2 := .string (toS p1.Text)) (by kernel_rfl) (by kernel_rfl) (fun _ => hb_tlss)) ?_
                refine Wy (.d (.lit (.bool (ltS p0.Text p1.Text)))) [] (OpT rfl) ?_
                refine Wy (.d (.lit (.bool (ltS p0.Text p1.Text)))) [] (OpF rfl) ?_
                refine Wy (.d (.lit (.bool (ltS p0.Text p1.Text)))) [] (Omv rfl) ?_
                refine Walk.nil ?_
                refine Then.normal ?_
                exact AWP.weak (Weak.toK 236 0 0 [0, 1]) (J3 () hm)
              · replace hm := cF hq54_1 hm
                refine Wy (.d (.lit (.bool false))) [] (Ocs (lit_tf (b := decide (((p0.Kind.toNat : Nat) : Int) = 4)) hq54_1) (Omv rfl)) ?_
                refine Wn ?_
                refine Wn ?_
                refine Wn ?_
                refine Wn ?_
                refine Wn ?_
                refine Wy (.d (.lit (.bool false))) [] (OpF rfl) ?_
                refine Wy (.d (.lit (.bool false))) [] (OpF rfl) ?_
                refine Wy (.d (.lit (.bool false))) [] (Omv rfl) ?_
                refine Walk.nil ?_
                refine Then.normal ?_
                exact AWP.weak (Weak.toK 236 0 0 [0, 1]) (J4 () hm)
          · replace hm := cF hq44_1 hm
            refine Wy (.d (.lit (.bool false))) [] (Ocs (lit_tf (b := decide (((p0.Kind.toNat : Nat) : Int) = 3)) hq44_1) (Omv rfl)) ?_
            refine Wn ?_
            refine Wn ?_
            refine Wn ?_
            refine Wy (.d (.lit (.bool false))) [] (OpF rfl) ?_
            refine Wy (.d (.lit (.bool false))) [] (OpF rfl) ?_
            refine Wy (.d (.lit (.bool false))) [] (Omv rfl) ?_
            refine Wy (.loc 0 0) [] (Ofa rfl) ?_
            refine Wy (.d (byteD p0.Kind)) [] (Old rfl) ?_
            refine Wy (.d (.lit (.bool (decide (((p0.Kind.toNat : Nat) : Int) = 4))))) [] (Ocs (by kernel_rfl) (op_bin rfl (a1 := .int .u8 ((p0.Kind.toNat : Nat) : Int)) (a2 := .int .u8 4) (by kernel_rfl) (by kernel_rfl) (fun _ => hb_eql))) ?_
            rcases tf_ (decide (((p0.Kind.toNat : Nat) : Int) = 4)) with hq54_1 | hq54_1
            · replace hm := cT hq54_1 hm
              refine Wy (.d (.lit (.bool true))) [] (Ocs (lit_tf (b := decide (((p0.Kind.toNat : Nat) : Int) = 4)) hq54_1) (Omv rfl)) ?_
              refine Wy (.loc 0 3) [] (Ofa rfl) ?_
              refine Wy (.d (.lit (.string (toS p0.Text)))) [] (Old rfl) ?_
              refine Wy (.loc 1 3) [] (Ofa rfl) ?_
              refine Wy (.d (.lit (.string (toS p1.Text)))) [] (Old rfl) ?_
              refine Wy (.d (.lit (.bool (ltS p0.Text p1.Text)))) [] (op_bin rfl (a1 := .string (toS p0.Text)) (a2 := .string (toS p1.Text)) (by kernel_rfl) (by kernel_rfl) (fun _ => hb_tlss)) ?_
              refine Wy (.d (.lit (.bool (ltS p0.Text p1.Text)))) [] (OpT rfl) ?_
              refine Wy (.d (.lit (.bool (ltS p0.Text p1.Text)))) [] (OpF rfl) ?_
              refine Wy (.d (.lit (.bool (ltS p0.Text p1.Text)))) [] (Omv rfl) ?_
              refine Walk.nil ?_
              refine Then.normal ?_
              exact AWP.weak (Weak.toK 236 0 0 [0, 1]) (J3 () hm)
            · replace hm := cF hq54_1 hm
              refine Wy (.d (.lit (.bool false))) [] (Ocs (lit_tf (b := decide (((p0.Kind.toNat : Nat) : Int) = 4)) hq54_1) (Omv rfl)) ?_
              refine Wn ?_
              refine Wn ?_
              refine Wn ?_
              refine Wn ?_
              refine Wn ?_
              refine Wy (.d (.lit (.bool false))) [] (OpF rfl) ?_
              refine Wy (.d (.lit (.bool false))) [] (OpF rfl) ?_
              refine Wy (.d (.lit (.bool false))) [] (Omv rfl) ?_
              refine Walk.nil ?_
              refine Then.normal ?_
              exact AWP.weak (Weak.toK 236 0 0 [0, 1]) (J4 () hm)
      · replace hm := cF hq33_1 hm
        refine Wy (.d (.lit (.bool false))) [] (Ocs (lit_tf (b := decide (((p0.Kind.toNat : Nat) : Int) = 2)) hq33_1) (Omv rfl)) ?_
        refine Wn ?_
        refine Wn ?_
        refine Wn ?_
        refine Wn ?_
        refine Wn ?_
        refine Wy (.d (.lit (.bool false))) [] (OpF rfl) ?_
        refine Wy (.d (.lit (.bool false))) [] (Omv rfl) ?_
        refine Wy (.loc 0 0) [] (Ofa rfl) ?_
        refine Wy (.d (byteD p0.Kind)) [] (Old rfl) ?_
        refine Wy (.d (.lit (.bool (decide (((p0.Kind.toNat : Nat) : Int) = 3))))) [] (Ocs (by kernel_rfl) (op_bin rfl (a1 := .int .u8 ((p0.Kind.toNat : Nat) : Int)) (a2 := .int .u8 3) (by kernel_rfl) (by kernel_rfl) (fun _ => hb_eql))) ?_
        rcases tf_ (decide (((p0.Kind.toNat : Nat) : Int) = 3)) with hq44_1 | hq44_1
        · replace hm := cT hq44_1 hm
          refine Wy (.d (.lit (.bool true))) [] (Ocs (lit_tf (b := decide (((p0.Kind.toNat : Nat) : Int) = 3)) hq44_1) (Omv rfl)) ?_
          refine Wy (.d (.lit (.int .u64 r21_0))) [] (Omv rfl) ?_
          refine Wy (.d (.lit (.int .u64 r24_0))) [] (Omv rfl) ?_
          refine Wy (.d (.lit (.bool (decide (r21_0 < r24_0))))) [] (Obn rfl (fun _ => hb_lss (k := .u64))) ?_
          refine Wy (.d (.lit (.bool (decide (r21_0 < r24_0))))) [] (OpT rfl) ?_
          refine Wy (.d (.lit (.bool (decide (r21_0 < r24_0))))) [] (OpF rfl) ?_
          rcases tf_ (decide (r21_0 < r24_0)) with hq50_1 | hq50_1
          · replace hm := cT hq50_1 hm
            refine Wy (.d (.lit (.bool true))) [] (Ocs (lit_tf (b := decide (r21_0 < r24_0)) hq50_1) (Omv rfl)) ?_
            refine Wn ?_
            refine Wn ?_
            refine Wn ?_
            refine Wn ?_
            refine Wn ?_
            refine Wn ?_
            refine Wn ?_
            refine Wn ?_
            refine Wn ?_
            refine Wn ?_
            refine Wy (.d (.lit (.bool true))) [] (OpT rfl) ?_
            refine Wy (.d (.lit (.bool true))) [] (Omv rfl) ?_
            refine Walk.nil ?_
            refine Then.normal ?_
            exact AWP.weak (Weak.toK 236 0 0 [0, 1]) (J2 () hm)
          · replace hm := cF hq50_1 hm
            refine Wy (.d (.lit (.bool false))) [] (Ocs (lit_tf (b := decide (r21_0 < r24_0)) hq50_1) (Omv rfl)) ?_
            refine Wy (.loc 0 0) [] (Ofa rfl) ?_
            refine Wy (.d (byteD p0.Kind)) [] (Old rfl) ?_
            refine Wy (.d (.lit (.bool (decide (((p0.Kind.toNat : Nat) : Int) = 4))))) [] (Ocs (by kernel_rfl) (op_bin rfl (a1 := .int .u8 ((p0.Kind.toNat : Nat) : Int)) (a2 := .int .u8 4) (by kernel_rfl) (by kernel_rfl) (fun _ => hb_eql))) ?_
            rcases tf_ (decide (((p0.Kind.toNat : Nat) : Int) = 4)) with hq54_1 | hq54_1
            · replace hm := cT hq54_1 hm
              refine Wy (.d (.lit (.bool true))) [] (Ocs (lit_tf (b := decide (((p0.Kind.toNat : Nat) : Int) = 4)) hq54_1) (Omv rfl)) ?_
              refine Wy (.loc 0 3) [] (Ofa rfl) ?_
              refine Wy (.d (.lit (.string (toS p0.Text)))) [] (Old rfl) ?_
              refine Wy (.loc 1 3) [] (Ofa rfl) ?_
              refine Wy (.d (.lit (.string (toS p1.Text)))) [] (Old rfl) ?_
              refine Wy (.d (.lit (.bool (ltS p0.Text p1.Text)))) [] (op_bin rfl (a1 := .string (toS p0.Text)) (a2 := .string (toS p1.Text)) (by kernel_rfl) (by kernel_rfl) (fun _ => hb_tlss)) ?_
              refine Wy (.d (.lit (.bool (ltS p0.Text p1.Text)))) [] (OpT rfl) ?_
              refine Wy (.d (.lit (.bool (ltS p0.Text p1.Text)))) [] (OpF rfl) ?_
              refine Wy (.d (.lit (.bool (ltS p0.Text p1.Text)))) [] (Omv rfl) ?_
              refine Walk.nil ?_
              refine Then.normal ?_
              exact AWP.weak (Weak.toK 236 0 0 [0, 1]) (J3 () hm)
            · replace hm := cF hq54_1 hm
              refine Wy (.d (.lit (.bool false))) [] (Ocs (lit_tf (b := decide (((p0.Kind.toNat : Nat) : Int) = 4)) hq54_1) (Omv rfl)) ?_
              refine Wn ?_
              refine Wn ?_
              refine Wn ?_
              refine Wn ?_
              refine Wn ?_
              refine Wy (.d (.lit (.bool false))) [] (OpF rfl) ?_
              refine Wy (.d (.lit (.bool false))) [] (OpF rfl) ?_
              refine Wy (.d (.lit (.bool false))) [] (Omv rfl) ?_
              refine Walk.nil ?_
              refine Then.normal ?_
              exact AWP.weak (Weak.toK 236 0 0 [0, 1]) (J4 () hm)
        · replace hm := cF hq44_1 hm
          refine Wy (.d (.lit (.bool false))) [] (Ocs (lit_tf (b := decide (((p0.Kind.toNat : Nat) : Int) = 3)) hq44_1) (Omv rfl)) ?_
          refine Wn ?_
          refine Wn ?_
          refine Wn ?_
          refine Wy (.d (.lit (.bool false))) [] (OpF rfl) ?_
          refine Wy (.d (.lit (.bool false))) [] (OpF rfl) ?_
          refine Wy (.d (.lit (.bool false))) [] (Omv rfl) ?_
          refine Wy (.loc 0 0) [] (Ofa rfl) ?_
          refine Wy (.d (byteD p0.Kind)) [] (Old rfl) ?_
          refine Wy (.d (.lit (.bool (decide (((p0.Kind.toNat : Nat) : Int) = 4))))) [] (Ocs (by kernel_rfl) (op_bin rfl (a1 := .int .u8 ((p0.Kind.toNat : Nat) : Int)) (a2 := .int .u8 4) (by kernel_rfl) (by kernel_rfl) (fun _ => hb_eql))) ?_
          rcases tf_ (decide (((p0.Kind.toNat : Nat) : Int) = 4)) with hq54_1 | hq54_1
          · replace hm := cT hq54_1 hm
            refine Wy (.d (.lit (.bool true))) [] (Ocs (lit_tf (b := decide (((p0.Kind.toNat : Nat) : Int) = 4)) hq54_1) (Omv rfl)) ?_
            refine Wy (.loc 0 3) [] (Ofa rfl) ?_
            refine Wy (.d (.lit (.string (toS p0.Text)))) [] (Old rfl) ?_
            refine Wy (.loc 1 3) [] (Ofa rfl) ?_
            refine Wy (.d (.lit (.string (toS p1.Text)))) [] (Old rfl) ?_
            refine Wy (.d (.lit (.bool (ltS p0.Text p1.Text)))) [] (op_bin rfl (a1 := .string (toS p0.Text)) (a2 := .string (toS p1.Text)) (by kernel_rfl) (by kernel_rfl) (fun _ => hb_tlss)) ?_
            refine Wy (.d (.lit (.bool (ltS p0.Text p1.Text)))) [] (OpT rfl) ?_
            refine Wy (.d (.lit (.bool (ltS p0.Text p1.Text)))) [] (OpF rfl) ?_
            refine Wy (.d (.lit (.bool (ltS p0.Text p1.Text)))) [] (Omv rfl) ?_
            refine Walk.nil ?_
            refine Then.normal ?_
            exact AWP.weak (Weak.toK 236 0 0 [0, 1]) (J3 () hm)
          · replace hm := cF hq54_1 hm
            refine Wy (.d (.lit (.bool false))) [] (Ocs (lit_tf (b := decide (((p0.Kind.toNat : Nat) : Int) = 4)) hq54_1) (Omv rfl)) ?_
            refine Wn ?_
            refine Wn ?_
            refine Wn ?_
            refine Wn ?_
            refine Wn ?_
            refine Wy (.d (.lit (.bool false))) [] (OpF rfl) ?_
            refine Wy (.d (.lit (.bool false))) [] (OpF rfl) ?_
            refine Wy (.d (.lit (.bool false))) [] (Omv rfl) ?_
            refine Walk.nil ?_
            refine Then.normal ?_
            exact AWP.weak (Weak.toK 236 0 0 [0, 1]) (J4 () hm)
end Go.Proofs.Ytgocnknbiipcfaa.K
