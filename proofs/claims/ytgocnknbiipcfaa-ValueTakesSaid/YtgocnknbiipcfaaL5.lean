/- each function computes what its model says (5) -/
import Derived.Test.YtgocnknbiipcfaaL4
namespace Go.Proofs.Ytgocnknbiipcfaa.K
open Go.RowKit Go.Lib
set_option linter.unusedVariables false
set_option linter.unusedSimpArgs false

set_option maxRecDepth 20000 in
set_option maxHeartbeats 4000000 in
theorem ok_telltaleref04_Check (p0 : GValue) (r : Int) (h : m_telltaleref04_Check p0 = some r) : GCall Try.prog 13 [(.agg [(.d (byteD p0.Kind)), (.d (.lit (.int .i64 p0.N))), (.d (.lit (.int .u64 p0.Bits))), (.d (.lit (.string (toS p0.Text))))])] [] (.d (.lit (.int .i64 r))) [] := by
  refine GCall.of_body (n := 87) (rs := [(.tmp 2)]) Try.func13 rfl rfl rfl ?_
  refine Ato ⟨((.agg [(.d (byteD p0.Kind)), (.d (.lit (.int .i64 p0.N))), (.d (.lit (.int .u64 p0.Bits))), (.d (.lit (.string (toS p0.Text))))]) :: (tu 86 [])), [], 0⟩ ?_
  have hm := h
  unfold m_telltaleref04_Check at hm
  refine AWP.seq ?_
  refine AWP.text ?_
  refine Wy (.loc 0 0) [(0, (.box [(.d (byteD p0.Kind)), (.d (.lit (.int .i64 p0.N))), (.d (.lit (.int .u64 p0.Bits))), (.d (.lit (.string (toS p0.Text))))]))] (Obx rfl) ?_
  refine Wy (.d (.lit (.int .i64 0))) [] (Omv rfl) ?_
  refine Walk.nil ?_
  refine Then.normal ?_
  refine Amk 2 1 ⟨(tp 1 ((.loc 0 0) :: (tp 85 []))), [(.box [(.d (byteD p0.Kind)), (.d (.lit (.int .i64 p0.N))), (.d (.lit (.int .u64 p0.Bits))), (.d (.lit (.string (toS p0.Text))))])], 0⟩ ?_
  refine AWP.seq ?_
  refine AWP.seq ?_
  refine AWP.text ?_
  refine Wy (.loc 0 0) [] (Ofa rfl) ?_
  refine Wy (.d (byteD p0.Kind)) [] (Old rfl) ?_
  refine Wy (.d (.lit (.bool (decide (((p0.Kind.toNat : Nat) : Int) < 1))))) [] (Ocs (by kernel_rfl) (op_bin rfl (a1 := .int .u8 ((p0.Kind.toNat : Nat) : Int)) (a2 := .int .u8 1) (by kernel_rfl) (by kernel_rfl) (fun _ => hb_lss))) ?_
  rcases tf_ (decide (((p0.Kind.toNat : Nat) : Int) < 1)) with hq6_0 | hq6_0
  · replace hm := cT hq6_0 hm
    refine Wy (.d (.lit (.bool true))) [] (Ocs (lit_tf (b := decide (((p0.Kind.toNat : Nat) : Int) < 1)) hq6_0) (Omv rfl)) ?_
    refine Wn ?_
    refine Wn ?_
    refine Wn ?_
    refine Wy (.d (.lit (.bool true))) [] (OpT rfl) ?_
    refine Walk.nil ?_
    refine Then.normal ?_
    refine Amk 1026 1 ⟨(tp 1 ((.loc 0 0) :: (tp 8 ((.d (.lit (.bool true))) :: (tp 76 []))))), [(.box [(.d (byteD p0.Kind)), (.d (.lit (.int .i64 p0.N))), (.d (.lit (.int .u64 p0.Bits))), (.d (.lit (.string (toS p0.Text))))])], 0⟩ ?_
    refine AWP.if_ true (by kernel_rfl) ?_
    refine AWP.seq ?_
    refine AWP.text ?_
    refine Wy (.d (.lit (.int .i64 11))) [] (Omv rfl) ?_
    refine Walk.nil ?_
    refine Then.normal ?_
    refine AWP.ret ?_
    refine Then.ret ?_
    obtain rfl := Option.some.inj hm
    exact ret_i []
  · replace hm := cF hq6_0 hm
    refine Wy (.d (.lit (.bool false))) [] (Ocs (lit_tf (b := decide (((p0.Kind.toNat : Nat) : Int) < 1)) hq6_0) (Omv rfl)) ?_
    refine Wy (.loc 0 0) [] (Ofa rfl) ?_
    refine Wy (.d (byteD p0.Kind)) [] (Old rfl) ?_
    refine Wy (.d (.lit (.bool (decide ((4 : Int) < ((p0.Kind.toNat : Nat) : Int)))))) [] (Ocs (by kernel_rfl) (op_bin rfl (a1 := .int .u8 ((p0.Kind.toNat : Nat) : Int)) (a2 := .int .u8 4) (by kernel_rfl) (by kernel_rfl) (fun _ => hb_gtr))) ?_
    refine Wy (.d (.lit (.bool (decide ((4 : Int) < ((p0.Kind.toNat : Nat) : Int)))))) [] (OpF rfl) ?_
    refine Walk.nil ?_
    refine Then.normal ?_
    refine Amk 1026 1 ⟨(tp 1 ((.loc 0 0) :: (tp 8 ((.d (.lit (.bool (decide ((4 : Int) < ((p0.Kind.toNat : Nat) : Int)))))) :: (tp 76 []))))), [(.box [(.d (byteD p0.Kind)), (.d (.lit (.int .i64 p0.N))), (.d (.lit (.int .u64 p0.Bits))), (.d (.lit (.string (toS p0.Text))))])], 0⟩ ?_
    rcases tf_ (decide ((4 : Int) < ((p0.Kind.toNat : Nat) : Int))) with hc10_14 | hc10_14
    · replace hm := cT hc10_14 hm
      refine AWP.if_ true (Eq.trans (by kernel_rfl) (lit_tf (b := decide ((4 : Int) < ((p0.Kind.toNat : Nat) : Int))) hc10_14)) ?_
      refine AWP.seq ?_
      refine AWP.text ?_
      refine Wy (.d (.lit (.int .i64 11))) [] (Omv rfl) ?_
      refine Walk.nil ?_
      refine Then.normal ?_
      refine AWP.ret ?_
      refine Then.ret ?_
      obtain rfl := Option.some.inj hm
      exact ret_i []
    · replace hm := cF hc10_14 hm
      refine AWP.if_ false (Eq.trans (by kernel_rfl) (lit_tf (b := decide ((4 : Int) < ((p0.Kind.toNat : Nat) : Int))) hc10_14)) ?_
      refine AWP.skip ?_
      refine Then.normal ?_
      refine Amk 2 1 ⟨(tp 1 ((.loc 0 0) :: (tp 85 []))), [(.box [(.d (byteD p0.Kind)), (.d (.lit (.int .i64 p0.N))), (.d (.lit (.int .u64 p0.Bits))), (.d (.lit (.string (toS p0.Text))))])], 0⟩ ?_
      refine AWP.cutJ (α := Unit) (fun x => match x with | () => (⟨(tp 1 ((.loc 0 0) :: (tp 85 []))), [(.box [(.d (byteD p0.Kind)), (.d (.lit (.int .i64 p0.N))), (.d (.lit (.int .u64 p0.Bits))), (.d (.lit (.string (toS p0.Text))))])], 0⟩ : St)) (fun x => match x with | () => m_telltaleref04_Check_j5 p0 = some r) ?_ (fun J5 => ?_)
      · rintro ⟨⟩ hm
        try dsimp only at hm ⊢
        unfold m_telltaleref04_Check_j5 at hm
        refine AWP.cutJ (α := Unit) (fun x => match x with | () => (⟨(tp 1 ((.loc 0 0) :: (tp 85 []))), [(.box [(.d (byteD p0.Kind)), (.d (.lit (.int .i64 p0.N))), (.d (.lit (.int .u64 p0.Bits))), (.d (.lit (.string (toS p0.Text))))])], 0⟩ : St)) (fun x => match x with | () => m_telltaleref04_Check_j7 p0 = some r) ?_ (fun J7 => ?_)
        · rintro ⟨⟩ hm
          try dsimp only at hm ⊢
          unfold m_telltaleref04_Check_j7 at hm
          refine AWP.cutJ (α := Unit) (fun x => match x with | () => (⟨(tp 1 ((.loc 0 0) :: (tp 85 []))), [(.box [(.d (byteD p0.Kind)), (.d (.lit (.int .i64 p0.N))), (.d (.lit (.int .u64 p0.Bits))), (.d (.lit (.string (toS p0.Text))))])], 0⟩ : St)) (fun x => match x with | () => m_telltaleref04_Check_j9 p0 = some r) ?_ (fun J9 => ?_)
          · rintro ⟨⟩ hm
            try dsimp only at hm ⊢
            unfold m_telltaleref04_Check_j9 at hm
            refine AWP.seq ?_
            refine AWP.cutJ (α := Unit) (fun x => match x with | () => (⟨(tp 86 ((.d (.lit (.bool true))) :: [])), [], 0⟩ : St)) (fun x => match x with | () => m_telltaleref04_Check_j11  = some r) ?_ (fun J11 => ?_)
            · rintro ⟨⟩ hm
              try dsimp only at hm ⊢
              unfold m_telltaleref04_Check_j11 at hm
              refine AWP.if_ true (by kernel_rfl) ?_
              refine AWP.seq ?_
              refine AWP.text ?_
              refine Wy (.d (.lit (.int .i64 2))) [] (Omv rfl) ?_
              refine Walk.nil ?_
              refine Then.normal ?_
              refine AWP.ret ?_
              refine Then.ret ?_
              obtain rfl := Option.some.inj hm
              exact ret_i []
            refine AWP.cutJ (α := Unit) (fun x => match x with | () => (⟨(tp 86 ((.d (.lit (.bool (decide (p0.Text ≠ ([] : List UInt8)))))) :: [])), [], 0⟩ : St)) (fun x => match x with | () => m_telltaleref04_Check_j12 p0 = some r) ?_ (fun J12 => ?_)
            · rintro ⟨⟩ hm
              try dsimp only at hm ⊢
              unfold m_telltaleref04_Check_j12 at hm
              rcases tf_ (decide (p0.Text ≠ ([] : List UInt8))) with hc86_12 | hc86_12
              · replace hm := cT hc86_12 hm
                refine AWP.if_ true (Eq.trans (by kernel_rfl) (lit_tf (b := decide (p0.Text ≠ ([] : List UInt8))) hc86_12)) ?_
                refine AWP.seq ?_
                refine AWP.text ?_
                refine Wy (.d (.lit (.int .i64 2))) [] (Omv rfl) ?_
                refine Walk.nil ?_
                refine Then.normal ?_
                refine AWP.ret ?_
                refine Then.ret ?_
                obtain rfl := Option.some.inj hm
                exact ret_i []
              · replace hm := cF hc86_12 hm
                refine AWP.if_ false (Eq.trans (by kernel_rfl) (lit_tf (b := decide (p0.Text ≠ ([] : List UInt8))) hc86_12)) ?_
                refine AWP.skip ?_
                refine Then.normal ?_
                refine Amk 0 0 ⟨(tp 87 []), [], 0⟩ ?_
                refine AWP.seq ?_
                refine AWP.text ?_
                refine Wy (.d (.lit (.int .i64 0))) [] (Omv rfl) ?_
                refine Walk.nil ?_
                refine Then.normal ?_
                refine AWP.ret ?_
                obtain rfl := Option.some.inj hm
                exact ret_i []
            refine AWP.cutJ (α := Unit) (fun x => match x with | () => (⟨(tp 86 ((.d (.lit (.bool false))) :: [])), [], 0⟩ : St)) (fun x => match x with | () => m_telltaleref04_Check_j13  = some r) ?_ (fun J13 => ?_)
            · rintro ⟨⟩ hm
              try dsimp only at hm ⊢
              unfold m_telltaleref04_Check_j13 at hm
              refine AWP.if_ false (by kernel_rfl) ?_
              refine AWP.skip ?_
              refine Then.normal ?_
              refine Amk 0 0 ⟨(tp 87 []), [], 0⟩ ?_
              refine AWP.seq ?_
              refine AWP.text ?_
              refine Wy (.d (.lit (.int .i64 0))) [] (Omv rfl) ?_
              refine Walk.nil ?_
              refine Then.normal ?_
              refine AWP.ret ?_
              obtain rfl := Option.some.inj hm
              exact ret_i []
            refine AWP.seq ?_
            refine AWP.text ?_
            refine Wy (.loc 0 0) [] (Ofa rfl) ?_
            refine Wy (.d (byteD p0.Kind)) [] (Old rfl) ?_
            refine Wy (.d (.lit (.bool (decide ((2 : Int) < ((p0.Kind.toNat : Nat) : Int)))))) [] (Ocs (by kernel_rfl) (op_bin rfl (a1 := .int .u8 ((p0.Kind.toNat : Nat) : Int)) (a2 := .int .u8 2) (by kernel_rfl) (by kernel_rfl) (fun _ => hb_gtr))) ?_
            rcases tf_ (decide ((2 : Int) < ((p0.Kind.toNat : Nat) : Int))) with hq62_10 | hq62_10
            · replace hm := cT hq62_10 hm
              refine Wy (.d (.lit (.bool true))) [] (Ocs (lit_tf (b := decide ((2 : Int) < ((p0.Kind.toNat : Nat) : Int))) hq62_10) (Omv rfl)) ?_
              refine Wy (.loc 0 1) [] (Ofa rfl) ?_
              refine Wy (.d (.lit (.int .i64 p0.N))) [] (Old rfl) ?_
              refine Wy (.d (.lit (.bool (decide (p0.N ≠ 0))))) [] (Obn rfl (fun _ => hb_neq (k := .i64))) ?_
              refine Wy (.d (.lit (.bool (decide (p0.N ≠ 0))))) [] (OpT rfl) ?_
              rcases tf_ (decide (p0.N ≠ 0)) with hq67_10 | hq67_10
              · replace hm := cT hq67_10 hm
                refine Wy (.d (.lit (.bool true))) [] (Ocs (lit_tf (b := decide (p0.N ≠ 0)) hq67_10) (Omv rfl)) ?_
                refine Wn ?_
                refine Wn ?_
                refine Wn ?_
                refine Wn ?_
                refine Wn ?_
                refine Wn ?_
                refine Wn ?_
                refine Wn ?_
                refine Wy (.d (.lit (.bool true))) [] (OpT rfl) ?_
                refine Wy (.d (.lit (.bool true))) [] (Omv rfl) ?_
                refine Wn ?_
                refine Wn ?_
                refine Wn ?_
                refine Wn ?_
                refine Wn ?_
                refine Wn ?_
                refine Wn ?_
                refine Wn ?_
                refine Wy (.d (.lit (.bool true))) [] (OpT rfl) ?_
                refine Walk.nil ?_
                refine Then.normal ?_
                exact AWP.weak (Weak.toK 77371252455336267181195264 0 0 []) (J11 () hm)
              · replace hm := cF hq67_10 hm
                refine Wy (.d (.lit (.bool false))) [] (Ocs (lit_tf (b := decide (p0.N ≠ 0)) hq67_10) (Omv rfl)) ?_
                refine Wy (.loc 0 0) [] (Ofa rfl) ?_
                refine Wy (.d (byteD p0.Kind)) [] (Old rfl) ?_
                refine Wy (.d (.lit (.bool (decide (((p0.Kind.toNat : Nat) : Int) ≠ 3))))) [] (Ocs (by kernel_rfl) (op_bin rfl (a1 := .int .u8 ((p0.Kind.toNat : Nat) : Int)) (a2 := .int .u8 3) (by kernel_rfl) (by kernel_rfl) (fun _ => hb_neq))) ?_
                rcases tf_ (decide (((p0.Kind.toNat : Nat) : Int) ≠ 3)) with hq71_10 | hq71_10
                · replace hm := cT hq71_10 hm
                  refine Wy (.d (.lit (.bool true))) [] (Ocs (lit_tf (b := decide (((p0.Kind.toNat : Nat) : Int) ≠ 3)) hq71_10) (Omv rfl)) ?_
                  refine Wy (.loc 0 2) [] (Ofa rfl) ?_
                  refine Wy (.d (.lit (.int .u64 p0.Bits))) [] (Old rfl) ?_
                  refine Wy (.d (.lit (.bool (decide (p0.Bits ≠ 0))))) [] (Obn rfl (fun _ => hb_neq (k := .u64))) ?_
                  refine Wy (.d (.lit (.bool (decide (p0.Bits ≠ 0))))) [] (OpT rfl) ?_
                  refine Wy (.d (.lit (.bool (decide (p0.Bits ≠ 0))))) [] (OpF rfl) ?_
                  rcases tf_ (decide (p0.Bits ≠ 0)) with hq77_10 | hq77_10
                  · replace hm := cT hq77_10 hm
                    refine Wy (.d (.lit (.bool true))) [] (Ocs (lit_tf (b := decide (p0.Bits ≠ 0)) hq77_10) (Omv rfl)) ?_
                    refine Wn ?_
                    refine Wn ?_
                    refine Wn ?_
                    refine Wn ?_
                    refine Wn ?_
                    refine Wn ?_
                    refine Wn ?_
                    refine Wn ?_
                    refine Wy (.d (.lit (.bool true))) [] (OpT rfl) ?_
                    refine Walk.nil ?_
                    refine Then.normal ?_
                    exact AWP.weak (Weak.toK 77371252455336267181195264 0 0 []) (J11 () hm)
                  · replace hm := cF hq77_10 hm
                    refine Wy (.d (.lit (.bool false))) [] (Ocs (lit_tf (b := decide (p0.Bits ≠ 0)) hq77_10) (Omv rfl)) ?_
                    refine Wy (.loc 0 0) [] (Ofa rfl) ?_
                    refine Wy (.d (byteD p0.Kind)) [] (Old rfl) ?_
                    refine Wy (.d (.lit (.bool (decide (((p0.Kind.toNat : Nat) : Int) ≠ 4))))) [] (Ocs (by kernel_rfl) (op_bin rfl (a1 := .int .u8 ((p0.Kind.toNat : Nat) : Int)) (a2 := .int .u8 4) (by kernel_rfl) (by kernel_rfl) (fun _ => hb_neq))) ?_
                    rcases tf_ (decide (((p0.Kind.toNat : Nat) : Int) ≠ 4)) with hq81_10 | hq81_10
                    · replace hm := cT hq81_10 hm
                      refine Wy (.d (.lit (.bool true))) [] (Ocs (lit_tf (b := decide (((p0.Kind.toNat : Nat) : Int) ≠ 4)) hq81_10) (Omv rfl)) ?_
                      refine Wy (.loc 0 3) [] (Ofa rfl) ?_
                      refine Wy (.d (.lit (.string (toS p0.Text)))) [] (Old rfl) ?_
                      refine Wy (.d (.lit (.bool (decide (p0.Text ≠ ([] : List UInt8)))))) [] (Ocs (lit_tf (by simp only [toS_inj, ne_eq])) (op_bin rfl (a1 := .string (toS p0.Text)) (a2 := .string (toS ([] : List UInt8))) (by kernel_rfl) (by kernel_rfl) (fun _ => hb_sneq))) ?_
                      refine Wy (.d (.lit (.bool (decide (p0.Text ≠ ([] : List UInt8)))))) [] (OpT rfl) ?_
                      refine Wy (.d (.lit (.bool (decide (p0.Text ≠ ([] : List UInt8)))))) [] (OpF rfl) ?_
                      refine Walk.nil ?_
                      refine Then.normal ?_
                      exact AWP.weak (Weak.toK 77371252455336267181195264 0 0 []) (J12 () hm)
                    · replace hm := cF hq81_10 hm
                      refine Wy (.d (.lit (.bool false))) [] (Ocs (lit_tf (b := decide (((p0.Kind.toNat : Nat) : Int) ≠ 4)) hq81_10) (Omv rfl)) ?_
                      refine Wn ?_
                      refine Wn ?_
                      refine Wn ?_
                      refine Wy (.d (.lit (.bool false))) [] (OpF rfl) ?_
                      refine Wy (.d (.lit (.bool false))) [] (OpF rfl) ?_
                      refine Walk.nil ?_
                      refine Then.normal ?_
                      exact AWP.weak (Weak.toK 77371252455336267181195264 0 0 []) (J13 () hm)
                · replace hm := cF hq71_10 hm
                  refine Wy (.d (.lit (.bool false))) [] (Ocs (lit_tf (b := decide (((p0.Kind.toNat : Nat) : Int) ≠ 3)) hq71_10) (Omv rfl)) ?_
                  refine Wn ?_
                  refine Wn ?_
                  refine Wn ?_
                  refine Wy (.d (.lit (.bool false))) [] (OpF rfl) ?_
                  refine Wy (.d (.lit (.bool false))) [] (OpF rfl) ?_
                  refine Wy (.d (.lit (.bool false))) [] (Omv rfl) ?_
                  refine Wy (.loc 0 0) [] (Ofa rfl) ?_
                  refine Wy (.d (byteD p0.Kind)) [] (Old rfl) ?_
                  refine Wy (.d (.lit (.bool (decide (((p0.Kind.toNat : Nat) : Int) ≠ 4))))) [] (Ocs (by kernel_rfl) (op_bin rfl (a1 := .int .u8 ((p0.Kind.toNat : Nat) : Int)) (a2 := .int .u8 4) (by kernel_rfl) (by kernel_rfl) (fun _ => hb_neq))) ?_
                  rcases tf_ (decide (((p0.Kind.toNat : Nat) : Int) ≠ 4)) with hq81_10 | hq81_10
                  · replace hm := cT hq81_10 hm
                    refine Wy (.d (.lit (.bool true))) [] (Ocs (lit_tf (b := decide (((p0.Kind.toNat : Nat) : Int) ≠ 4)) hq81_10) (Omv rfl)) ?_
                    refine Wy (.loc 0 3) [] (Ofa rfl) ?_
                    refine Wy (.d (.lit (.string (toS p0.Text)))) [] (Old rfl) ?_
                    refine Wy (.d (.lit (.bool (decide (p0.Text ≠ ([] : List UInt8)))))) [] (Ocs (lit_tf (by simp only [toS_inj, ne_eq])) (op_bin rfl (a1 := .string (toS p0.Text)) (a2 := .string (toS ([] : List UInt8))) (by kernel_rfl) (by kernel_rfl) (fun _ => hb_sneq))) ?_
                    refine Wy (.d (.lit (.bool (decide (p0.Text ≠ ([] : List UInt8)))))) [] (OpT rfl) ?_
                    refine Wy (.d (.lit (.bool (decide (p0.Text ≠ ([] : List UInt8)))))) [] (OpF rfl) ?_
                    refine Walk.nil ?_
                    refine Then.normal ?_
                    exact AWP.weak (Weak.toK 77371252455336267181195264 0 0 []) (J12 () hm)
                  · replace hm := cF hq81_10 hm
                    refine Wy (.d (.lit (.bool false))) [] (Ocs (lit_tf (b := decide (((p0.Kind.toNat : Nat) : Int) ≠ 4)) hq81_10) (Omv rfl)) ?_
                    refine Wn ?_
                    refine Wn ?_
                    refine Wn ?_
                    refine Wy (.d (.lit (.bool false))) [] (OpF rfl) ?_
                    refine Wy (.d (.lit (.bool false))) [] (OpF rfl) ?_
                    refine Walk.nil ?_
                    refine Then.normal ?_
                    exact AWP.weak (Weak.toK 77371252455336267181195264 0 0 []) (J13 () hm)
            · replace hm := cF hq62_10 hm
              refine Wy (.d (.lit (.bool false))) [] (Ocs (lit_tf (b := decide ((2 : Int) < ((p0.Kind.toNat : Nat) : Int))) hq62_10) (Omv rfl)) ?_
              refine Wn ?_
              refine Wn ?_
              refine Wn ?_
              refine Wy (.d (.lit (.bool false))) [] (OpF rfl) ?_
              refine Wy (.d (.lit (.bool false))) [] (Omv rfl) ?_
              refine Wy (.loc 0 0) [] (Ofa rfl) ?_
              refine Wy (.d (byteD p0.Kind)) [] (Old rfl) ?_
              refine Wy (.d (.lit (.bool (decide (((p0.Kind.toNat : Nat) : Int) ≠ 3))))) [] (Ocs (by kernel_rfl) (op_bin rfl (a1 := .int .u8 ((p0.Kind.toNat : Nat) : Int)) (a2 := .int .u8 3) (by kernel_rfl) (by kernel_rfl) (fun _ => hb_neq))) ?_
              rcases tf_ (decide (((p0.Kind.toNat : Nat) : Int) ≠ 3)) with hq71_10 | hq71_10
              · replace hm := cT hq71_10 hm
                refine Wy (.d (.lit (.bool true))) [] (Ocs (lit_tf (b := decide (((p0.Kind.toNat : Nat) : Int) ≠ 3)) hq71_10) (Omv rfl)) ?_
                refine Wy (.loc 0 2) [] (Ofa rfl) ?_
                refine Wy (.d (.lit (.int .u64 p0.Bits))) [] (Old rfl) ?_
                refine Wy (.d (.lit (.bool (decide (p0.Bits ≠ 0))))) [] (Obn rfl (fun _ => hb_neq (k := .u64))) ?_
                refine Wy (.d (.lit (.bool (decide (p0.Bits ≠ 0))))) [] (OpT rfl) ?_
                refine Wy (.d (.lit (.bool (decide (p0.Bits ≠ 0))))) [] (OpF rfl) ?_
                rcases tf_ (decide (p0.Bits ≠ 0)) with hq77_10 | hq77_10
                · replace hm := cT hq77_10 hm
                  refine Wy (.d (.lit (.bool true))) [] (Ocs (lit_tf (b := decide (p0.Bits ≠ 0)) hq77_10) (Omv rfl)) ?_
                  refine Wn ?_
                  refine Wn ?_
                  refine Wn ?_
                  refine Wn ?_
                  refine Wn ?_
                  refine Wn ?_
                  refine Wn ?_
                  refine Wn ?_
                  refine Wy (.d (.lit (.bool true))) [] (OpT rfl) ?_
                  refine Walk.nil ?_
                  refine Then.normal ?_
                  exact AWP.weak (Weak.toK 77371252455336267181195264 0 0 []) (J11 () hm)
                · replace hm := cF hq77_10 hm
                  refine Wy (.d (.lit (.bool false))) [] (Ocs (lit_tf (b := decide (p0.Bits ≠ 0)) hq77_10) (Omv rfl)) ?_
                  refine Wy (.loc 0 0) [] (Ofa rfl) ?_
                  refine Wy (.d (byteD p0.Kind)) [] (Old rfl) ?_
                  refine Wy (.d (.lit (.bool (decide (((p0.Kind.toNat : Nat) : Int) ≠ 4))))) [] (Ocs (by kernel_rfl) (op_bin rfl (a1 := .int .u8 ((p0.Kind.toNat : Nat) : Int)) (a2 := .int .u8 4) (by kernel_rfl) (by kernel_rfl) (fun _ => hb_neq))) ?_
                  rcases tf_ (decide (((p0.Kind.toNat : Nat) : Int) ≠ 4)) with hq81_10 | hq81_10
                  · replace hm := cT hq81_10 hm
                    refine Wy (.d (.lit (.bool true))) [] (Ocs (lit_tf (b := decide (((p0.Kind.toNat : Nat) : Int) ≠ 4)) hq81_10) (Omv rfl)) ?_
                    refine Wy (.loc 0 3) [] (Ofa rfl) ?_
                    refine Wy (.d (.lit (.string (toS p0.Text)))) [] (Old rfl) ?_
                    refine Wy (.d (.lit (.bool (decide (p0.Text ≠ ([] : List UInt8)))))) [] (Ocs (lit_tf (by simp only [toS_inj, ne_eq])) (op_bin rfl (a1 := .string (toS p0.Text)) (a2 := .string (toS ([] : List UInt8))) (by kernel_rfl) (by kernel_rfl) (fun _ => hb_sneq))) ?_
                    refine Wy (.d (.lit (.bool (decide (p0.Text ≠ ([] : List UInt8)))))) [] (OpT rfl) ?_
                    refine Wy (.d (.lit (.bool (decide (p0.Text ≠ ([] : List UInt8)))))) [] (OpF rfl) ?_
                    refine Walk.nil ?_
                    refine Then.normal ?_
                    exact AWP.weak (Weak.toK 77371252455336267181195264 0 0 []) (J12 () hm)
                  · replace hm := cF hq81_10 hm
                    refine Wy (.d (.lit (.bool false))) [] (Ocs (lit_tf (b := decide (((p0.Kind.toNat : Nat) : Int) ≠ 4)) hq81_10) (Omv rfl)) ?_
                    refine Wn ?_
                    refine Wn ?_
                    refine Wn ?_
                    refine Wy (.d (.lit (.bool false))) [] (OpF rfl) ?_
                    refine Wy (.d (.lit (.bool false))) [] (OpF rfl) ?_
                    refine Walk.nil ?_
                    refine Then.normal ?_
                    exact AWP.weak (Weak.toK 77371252455336267181195264 0 0 []) (J13 () hm)
              · replace hm := cF hq71_10 hm
                refine Wy (.d (.lit (.bool false))) [] (Ocs (lit_tf (b := decide (((p0.Kind.toNat : Nat) : Int) ≠ 3)) hq71_10) (Omv rfl)) ?_
                refine Wn ?_
                refine Wn ?_
                refine Wn ?_
                refine Wy (.d (.lit (.bool false))) [] (OpF rfl) ?_
                refine Wy (.d (.lit (.bool false))) [] (OpF rfl) ?_
                refine Wy (.d (.lit (.bool false))) [] (Omv rfl) ?_
                refine Wy (.loc 0 0) [] (Ofa rfl) ?_
                refine Wy (.d (byteD p0.Kind)) [] (Old rfl) ?_
                refine Wy (.d (.lit (.bool (decide (((p0.Kind.toNat : Nat) : Int) ≠ 4))))) [] (Ocs (by kernel_rfl) (op_bin rfl (a1 := .int .u8 ((p0.Kind.toNat : Nat) : Int)) (a2 := .int .u8 4) (by kernel_rfl) (by kernel_rfl) (fun _ => hb_neq))) ?_
                rcases tf_ (decide (((p0.Kind.toNat : Nat) : Int) ≠ 4)) with hq81_10 | hq81_10
                · replace hm := cT hq81_10 hm
                  refine Wy (.d (.lit (.bool true))) [] (Ocs (lit_tf (b := decide (((p0.Kind.toNat : Nat) : Int) ≠ 4)) hq81_10) (Omv rfl)) ?_
                  refine Wy (.loc 0 3) [] (Ofa rfl) ?_
                  refine Wy (.d (.lit (.string (toS p0.Text)))) [] (Old rfl) ?_
                  refine Wy (.d (.lit (.bool (decide (p0.Text ≠ ([] : List UInt8)))))) [] (Ocs (lit_tf (by simp only [toS_inj, ne_eq])) (op_bin rfl (a1 := .string (toS p0.Text)) (a2 := .string (toS ([] : List UInt8))) (by kernel_rfl) (by kernel_rfl) (fun _ => hb_sneq))) ?_
                  refine Wy (.d (.lit (.bool (decide (p0.Text ≠ ([] : List UInt8)))))) [] (OpT rfl) ?_
                  refine Wy (.d (.lit (.bool (decide (p0.Text ≠ ([] : List UInt8)))))) [] (OpF rfl) ?_
                  refine Walk.nil ?_
                  refine Then.normal ?_
                  exact AWP.weak (Weak.toK 77371252455336267181195264 0 0 []) (J12 () hm)
                · replace hm := cF hq81_10 hm
                  refine Wy (.d (.lit (.bool false))) [] (Ocs (lit_tf (b := decide (((p0.Kind.toNat : Nat) : Int) ≠ 4)) hq81_10) (Omv rfl)) ?_
                  refine Wn ?_
                  refine Wn ?_
                  refine Wn ?_
                  refine Wy (.d (.lit (.bool false))) [] (OpF rfl) ?_
                  refine Wy (.d (.lit (.bool false))) [] (OpF rfl) ?_
                  refine Walk.nil ?_
                  refine Then.normal ?_
                  exact AWP.weak (Weak.toK 77371252455336267181195264 0 0 []) (J13 () hm)
          refine AWP.seq ?_
          refine AWP.seq ?_
          refine AWP.text ?_
          refine Wy (.loc 0 0) [] (Ofa rfl) ?_
          refine Wy (.d (byteD p0.Kind)) [] (Old rfl) ?_
          refine Wy (.d (.lit (.bool (decide (((p0.Kind.toNat : Nat) : Int) = 4))))) [] (Ocs (by kernel_rfl) (op_bin rfl (a1 := .int .u8 ((p0.Kind.toNat : Nat) : Int)) (a2 := .int .u8 4) (by kernel_rfl) (by kernel_rfl) (fun _ => hb_eql))) ?_
          rcases tf_ (decide (((p0.Kind.toNat : Nat) : Int) = 4)) with hq53_8 | hq53_8
          · replace hm := cT hq53_8 hm
            refine Wy (.d (.lit (.bool true))) [] (Ocs (lit_tf (b := decide (((p0.Kind.toNat : Nat) : Int) = 4)) hq53_8) (Omv rfl)) ?_
            refine Wy (.loc 0 3) [] (Ofa rfl) ?_
            refine Wy (.d (.lit (.string (toS p0.Text)))) [] (Old rfl) ?_
            refine Wy (.d (.lit (.int .i64 ((List.length p0.Text : Nat) : Int)))) [] (Oln rfl) ?_
            refine Wy (.d (.lit (.bool (decide ((24 : Int) < ((List.length p0.Text : Nat) : Int)))))) [] (Obn rfl (fun _ => hb_gtr (k := .i64))) ?_
            refine Wy (.d (.lit (.bool (decide ((24 : Int) < ((List.length p0.Text : Nat) : Int)))))) [] (OpT rfl) ?_
            refine Walk.nil ?_
            refine Then.normal ?_
            refine Amk 288230376151711746 1 ⟨(tp 1 ((.loc 0 0) :: (tp 56 ((.d (.lit (.bool (decide ((24 : Int) < ((List.length p0.Text : Nat) : Int)))))) :: (tp 28 []))))), [(.box [(.d (byteD p0.Kind)), (.d (.lit (.int .i64 p0.N))), (.d (.lit (.int .u64 p0.Bits))), (.d (.lit (.string (toS p0.Text))))])], 0⟩ ?_
            rcases tf_ (decide ((24 : Int) < ((List.length p0.Text : Nat) : Int))) with hc58_15 | hc58_15
            · replace hm := cT hc58_15 hm
              refine AWP.if_ true (Eq.trans (by kernel_rfl) (lit_tf (b := decide ((24 : Int) < ((List.length p0.Text : Nat) : Int))) hc58_15)) ?_
              refine AWP.seq ?_
              refine AWP.text ?_
              refine Wy (.d (.lit (.int .i64 5))) [] (Omv rfl) ?_
              refine Walk.nil ?_
              refine Then.normal ?_
              refine AWP.ret ?_
              refine Then.ret ?_
              obtain rfl := Option.some.inj hm
              exact ret_i []
            · replace hm := cF hc58_15 hm
              refine AWP.if_ false (Eq.trans (by kernel_rfl) (lit_tf (b := decide ((24 : Int) < ((List.length p0.Text : Nat) : Int))) hc58_15)) ?_
              refine AWP.skip ?_
              refine Then.normal ?_
              exact AWP.weak (Weak.toK 2 0 0 [0]) (J9 () hm)
          · replace hm := cF hq53_8 hm
            refine Wy (.d (.lit (.bool false))) [] (Ocs (lit_tf (b := decide (((p0.Kind.toNat : Nat) : Int) = 4)) hq53_8) (Omv rfl)) ?_
            refine Wn ?_
            refine Wn ?_
            refine Wn ?_
            refine Wn ?_
            refine Wy (.d (.lit (.bool false))) [] (OpF rfl) ?_
            refine Walk.nil ?_
            refine Then.normal ?_
            refine Amk 288230376151711746 1 ⟨(tp 1 ((.loc 0 0) :: (tp 56 ((.d (.lit (.bool false))) :: (tp 28 []))))), [(.box [(.d (byteD p0.Kind)), (.d (.lit (.int .i64 p0.N))), (.d (.lit (.int .u64 p0.Bits))), (.d (.lit (.string (toS p0.Text))))])], 0⟩ ?_
            refine AWP.if_ false (by kernel_rfl) ?_
            refine AWP.skip ?_
            refine Then.normal ?_
            exact AWP.weak (Weak.toK 2 0 0 [0]) (J9 () hm)
        refine AWP.seq ?_
        refine AWP.seq ?_
        refine Adr ?_
        refine Wy (.loc 0 0) [] (Ofa rfl) ?_
        refine Wy (.d (byteD p0.Kind)) [] (Old rfl) ?_
        refine Wy (.d (.lit (.bool (decide (((p0.Kind.toNat : Nat) : Int) = 3))))) [] (Ocs (by kernel_rfl) (op_bin rfl (a1 := .int .u8 ((p0.Kind.toNat : Nat) : Int)) (a2 := .int .u8 3) (by kernel_rfl) (by kernel_rfl) (fun _ => hb_eql))) ?_
        rcases tf_ (decide (((p0.Kind.toNat : Nat) : Int) = 3)) with hq42_6 | hq42_6
        · replace hm := cT hq42_6 hm
          refine Wy (.d (.lit (.bool true))) [] (Ocs (lit_tf (b := decide (((p0.Kind.toNat : Nat) : Int) = 3)) hq42_6) (Omv rfl)) ?_
          refine Wy (.loc 0 2) [] (Ofa rfl) ?_
          refine Wy (.d (.lit (.int .u64 p0.Bits))) [] (Old rfl) ?_
          obtain ⟨r45_6, hr45_6, hm⟩ := bnd hm
          refine Wy (.d (.lit (.int .u64 r45_6))) [] (Ocf [] [] [] 0 (ok_telltaleref03_Clean p0.Bits r45_6 hr45_6) (fun a w => Try.call36 a w) rfl trivial) ?_
          refine Wy (.loc 0 2) [] (Ofa rfl) ?_
          refine Wy (.d (.lit (.int .u64 p0.Bits))) [] (Old rfl) ?_
          refine Wy (.d (.lit (.bool (decide (r45_6 ≠ p0.Bits))))) [] (Obn rfl (fun _ => hb_neq (k := .u64))) ?_
          refine Wy (.d (.lit (.bool (decide (r45_6 ≠ p0.Bits))))) [] (OpT rfl) ?_
          refine Wdr ?_
          refine Then.normal ?_
          refine Amk 562949953421314 1 ⟨(tp 1 ((.loc 0 0) :: (tp 47 ((.d (.lit (.bool (decide (r45_6 ≠ p0.Bits))))) :: (tp 37 []))))), [(.box [(.d (byteD p0.Kind)), (.d (.lit (.int .i64 p0.N))), (.d (.lit (.int .u64 p0.Bits))), (.d (.lit (.string (toS p0.Text))))])], 0⟩ ?_
          rcases tf_ (decide (r45_6 ≠ p0.Bits)) with hc49_16 | hc49_16
          · replace hm := cT hc49_16 hm
            refine AWP.if_ true (Eq.trans (by kernel_rfl) (lit_tf (b := decide (r45_6 ≠ p0.Bits)) hc49_16)) ?_
            refine AWP.seq ?_
            refine AWP.text ?_
            refine Wy (.d (.lit (.int .i64 4))) [] (Omv rfl) ?_
            refine Walk.nil ?_
            refine Then.normal ?_
            refine AWP.ret ?_
            refine Then.ret ?_
            obtain rfl := Option.some.inj hm
            exact ret_i []
          · replace hm := cF hc49_16 hm
            refine AWP.if_ false (Eq.trans (by kernel_rfl) (lit_tf (b := decide (r45_6 ≠ p0.Bits)) hc49_16)) ?_
            refine AWP.skip ?_
            refine Then.normal ?_
            exact AWP.weak (Weak.toK 2 0 0 [0]) (J7 () hm)
        · replace hm := cF hq42_6 hm
          refine Wy (.d (.lit (.bool false))) [] (Ocs (lit_tf (b := decide (((p0.Kind.toNat : Nat) : Int) = 3)) hq42_6) (Omv rfl)) ?_
          refine Wn ?_
          refine Wn ?_
          refine Wn ?_
          refine Wn ?_
          refine Wn ?_
          refine Wn ?_
          refine Wy (.d (.lit (.bool false))) [] (OpF rfl) ?_
          refine Wdr ?_
          refine Then.normal ?_
          refine Amk 562949953421314 1 ⟨(tp 1 ((.loc 0 0) :: (tp 47 ((.d (.lit (.bool false))) :: (tp 37 []))))), [(.box [(.d (byteD p0.Kind)), (.d (.lit (.int .i64 p0.N))), (.d (.lit (.int .u64 p0.Bits))), (.d (.lit (.string (toS p0.Text))))])], 0⟩ ?_
          refine AWP.if_ false (by kernel_rfl) ?_
          refine AWP.skip ?_
          refine Then.normal ?_
          exact AWP.weak (Weak.toK 2 0 0 [0]) (J7 () hm)
      refine AWP.seq ?_
      refine AWP.cutJ (α := Unit) (fun x => match x with | () => (⟨(tp 1 ((.loc 0 0) :: (tp 36 ((.d (.lit (.bool true))) :: (tp 48 []))))), [(.box [(.d (byteD p0.Kind)), (.d (.lit (.int .i64 p0.N))), (.d (.lit (.int .u64 p0.Bits))), (.d (.lit (.string (toS p0.Text))))])], 0⟩ : St)) (fun x => match x with | () => m_telltaleref04_Check_j2  = some r) ?_ (fun J2 => ?_)
      · rintro ⟨⟩ hm
        try dsimp only at hm ⊢
        unfold m_telltaleref04_Check_j2 at hm
        refine AWP.if_ true (by kernel_rfl) ?_
        refine AWP.seq ?_
        refine AWP.text ?_
        refine Wy (.d (.lit (.int .i64 8))) [] (Omv rfl) ?_
        refine Walk.nil ?_
        refine Then.normal ?_
        refine AWP.ret ?_
        refine Then.ret ?_
        obtain rfl := Option.some.inj hm
        exact ret_i []
      refine AWP.cutJ (α := Unit) (fun x => match x with | () => (⟨(tp 1 ((.loc 0 0) :: (tp 36 ((.d (.lit (.bool (decide ((1 : Int) < p0.N))))) :: (tp 48 []))))), [(.box [(.d (byteD p0.Kind)), (.d (.lit (.int .i64 p0.N))), (.d (.lit (.int .u64 p0.Bits))), (.d (.lit (.string (toS p0.Text))))])], 0⟩ : St)) (fun x => match x with | () => m_telltaleref04_Check_j3 p0 = some r) ?_ (fun J3 => ?_)
      · rintro ⟨⟩ hm
        try dsimp only at hm ⊢
        unfold m_telltaleref04_Check_j3 at hm
        rcases tf_ (decide ((1 : Int) < p0.N)) with hc38_3 | hc38_3
        · replace hm := cT hc38_3 hm
          refine AWP.if_ true (Eq.trans (by kernel_rfl) (lit_tf (b := decide ((1 : Int) < p0.N)) hc38_3)) ?_
          refine AWP.seq ?_
          refine AWP.text ?_
          refine Wy (.d (.lit (.int .i64 8))) [] (Omv rfl) ?_
          refine Walk.nil ?_
          refine Then.normal ?_
          refine AWP.ret ?_
          refine Then.ret ?_
          obtain rfl := Option.some.inj hm
          exact ret_i []
        · replace hm := cF hc38_3 hm
          refine AWP.if_ false (Eq.trans (by kernel_rfl) (lit_tf (b := decide ((1 : Int) < p0.N)) hc38_3)) ?_
          refine AWP.skip ?_
          refine Then.normal ?_
          exact AWP.weak (Weak.toK 2 0 0 [0]) (J5 () hm)
      refine AWP.cutJ (α := Unit) (fun x => match x with | () => (⟨(tp 1 ((.loc 0 0) :: (tp 36 ((.d (.lit (.bool false))) :: (tp 48 []))))), [(.box [(.d (byteD p0.Kind)), (.d (.lit (.int .i64 p0.N))), (.d (.lit (.int .u64 p0.Bits))), (.d (.lit (.string (toS p0.Text))))])], 0⟩ : St)) (fun x => match x with | () => m_telltaleref04_Check_j4 p0 = some r) ?_ (fun J4 => ?_)
      · rintro ⟨⟩ hm
        try dsimp only at hm ⊢
        unfold m_telltaleref04_Check_j4 at hm
        refine AWP.if_ false (by kernel_rfl) ?_
        refine AWP.skip ?_
        refine Then.normal ?_
        exact AWP.weak (Weak.toK 2 0 0 [0]) (J5 () hm)
      refine AWP.seq ?_
      refine AWP.text ?_
      refine Wy (.loc 0 0) [] (Ofa rfl) ?_
      refine Wy (.d (byteD p0.Kind)) [] (Old rfl) ?_
      refine Wy (.d (.lit (.bool (decide (((p0.Kind.toNat : Nat) : Int) = 1))))) [] (Ocs (by kernel_rfl) (op_bin rfl (a1 := .int .u8 ((p0.Kind.toNat : Nat) : Int)) (a2 := .int .u8 1) (by kernel_rfl) (by kernel_rfl) (fun _ => hb_eql))) ?_
      rcases tf_ (decide (((p0.Kind.toNat : Nat) : Int) = 1)) with hq14_1 | hq14_1
      · replace hm := cT hq14_1 hm
        refine Wy (.d (.lit (.bool true))) [] (Ocs (lit_tf (b := decide (((p0.Kind.toNat : Nat) : Int) = 1)) hq14_1) (Omv rfl)) ?_
        refine Wy (.loc 0 1) [] (Ofa rfl) ?_
        refine Wy (.d (.lit (.int .i64 p0.N))) [] (Old rfl) ?_
        refine Wy (.d (.lit (.bool (decide (p0.N < (-4611686018427387904)))))) [] (Obn rfl (fun _ => hb_lss (k := .i64))) ?_
        rcases tf_ (decide (p0.N < (-4611686018427387904))) with hq18_1 | hq18_1
        · replace hm := cT hq18_1 hm
          refine Wy (.d (.lit (.bool true))) [] (Ocs (lit_tf (b := decide (p0.N < (-4611686018427387904))) hq18_1) (Omv rfl)) ?_
          refine Wn ?_
          refine Wn ?_
          refine Wn ?_
          refine Wy (.d (.lit (.bool true))) [] (OpT rfl) ?_
          refine Wy (.d (.lit (.bool true))) [] (OpT rfl) ?_
          refine Wy (.d (.lit (.bool true))) [] (Omv rfl) ?_
          refine Wn ?_
          refine Wn ?_
          refine Wn ?_
          refine Wn ?_
          refine Wn ?_
          refine Wn ?_
          refine Wn ?_
          refine Wn ?_
          refine Wn ?_
          refine Wn ?_
          refine Wn ?_
          refine Wn ?_
          refine Wn ?_
          refine Wy (.d (.lit (.bool true))) [] (OpT rfl) ?_
          refine Walk.nil ?_
          refine Then.normal ?_
          exact AWP.weak (Weak.toK 274877906946 0 0 [0]) (J2 () hm)
        · replace hm := cF hq18_1 hm
          refine Wy (.d (.lit (.bool false))) [] (Ocs (lit_tf (b := decide (p0.N < (-4611686018427387904))) hq18_1) (Omv rfl)) ?_
          refine Wy (.loc 0 1) [] (Ofa rfl) ?_
          refine Wy (.d (.lit (.int .i64 p0.N))) [] (Old rfl) ?_
          refine Wy (.d (.lit (.bool (decide ((4611686018427387904 : Int) < p0.N))))) [] (Obn rfl (fun _ => hb_gtr (k := .i64))) ?_
          refine Wy (.d (.lit (.bool (decide ((4611686018427387904 : Int) < p0.N))))) [] (OpF rfl) ?_
          refine Wy (.d (.lit (.bool (decide ((4611686018427387904 : Int) < p0.N))))) [] (OpT rfl) ?_
          rcases tf_ (decide ((4611686018427387904 : Int) < p0.N)) with hq24_1 | hq24_1
          · replace hm := cT hq24_1 hm
            refine Wy (.d (.lit (.bool true))) [] (Ocs (lit_tf (b := decide ((4611686018427387904 : Int) < p0.N)) hq24_1) (Omv rfl)) ?_
            refine Wn ?_
            refine Wn ?_
            refine Wn ?_
            refine Wn ?_
            refine Wn ?_
            refine Wn ?_
            refine Wn ?_
            refine Wn ?_
            refine Wn ?_
            refine Wn ?_
            refine Wn ?_
            refine Wn ?_
            refine Wn ?_
            refine Wy (.d (.lit (.bool true))) [] (OpT rfl) ?_
            refine Walk.nil ?_
            refine Then.normal ?_
            exact AWP.weak (Weak.toK 274877906946 0 0 [0]) (J2 () hm)
          · replace hm := cF hq24_1 hm
            refine Wy (.d (.lit (.bool false))) [] (Ocs (lit_tf (b := decide ((4611686018427387904 : Int) < p0.N)) hq24_1) (Omv rfl)) ?_
            refine Wy (.loc 0 0) [] (Ofa rfl) ?_
            refine Wy (.d (byteD p0.Kind)) [] (Old rfl) ?_
            refine Wy (.d (.lit (.bool (decide (((p0.Kind.toNat : Nat) : Int) = 2))))) [] (Ocs (by kernel_rfl) (op_bin rfl (a1 := .int .u8 ((p0.Kind.toNat : Nat) : Int)) (a2 := .int .u8 2) (by kernel_rfl) (by kernel_rfl) (fun _ => hb_eql))) ?_
            rcases tf_ (decide (((p0.Kind.toNat : Nat) : Int) = 2)) with hq28_1 | hq28_1
            · replace hm := cT hq28_1 hm
              refine Wy (.d (.lit (.bool true))) [] (Ocs (lit_tf (b := decide (((p0.Kind.toNat : Nat) : Int) = 2)) hq28_1) (Omv rfl)) ?_
              refine Wy (.loc 0 1) [] (Ofa rfl) ?_
              refine Wy (.d (.lit (.int .i64 p0.N))) [] (Old rfl) ?_
              refine Wy (.d (.lit (.bool (decide (p0.N < 0))))) [] (Obn rfl (fun _ => hb_lss (k := .i64))) ?_
              rcases tf_ (decide (p0.N < 0)) with hq32_1 | hq32_1
              · replace hm := cT hq32_1 hm
                refine Wy (.d (.lit (.bool true))) [] (Ocs (lit_tf (b := decide (p0.N < 0)) hq32_1) (Omv rfl)) ?_
                refine Wn ?_
                refine Wn ?_
                refine Wn ?_
                refine Wy (.d (.lit (.bool true))) [] (OpT rfl) ?_
                refine Wy (.d (.lit (.bool true))) [] (OpT rfl) ?_
                refine Wy (.d (.lit (.bool true))) [] (OpF rfl) ?_
                refine Walk.nil ?_
                refine Then.normal ?_
                exact AWP.weak (Weak.toK 274877906946 0 0 [0]) (J2 () hm)
              · replace hm := cF hq32_1 hm
                refine Wy (.d (.lit (.bool false))) [] (Ocs (lit_tf (b := decide (p0.N < 0)) hq32_1) (Omv rfl)) ?_
                refine Wy (.loc 0 1) [] (Ofa rfl) ?_
                refine Wy (.d (.lit (.int .i64 p0.N))) [] (Old rfl) ?_
                refine Wy (.d (.lit (.bool (decide ((1 : Int) < p0.N))))) [] (Obn rfl (fun _ => hb_gtr (k := .i64))) ?_
                refine Wy (.d (.lit (.bool (decide ((1 : Int) < p0.N))))) [] (OpF rfl) ?_
                refine Wy (.d (.lit (.bool (decide ((1 : Int) < p0.N))))) [] (OpT rfl) ?_
                refine Wy (.d (.lit (.bool (decide ((1 : Int) < p0.N))))) [] (OpF rfl) ?_
                refine Walk.nil ?_
                refine Then.normal ?_
                exact AWP.weak (Weak.toK 274877906946 0 0 [0]) (J3 () hm)
            · replace hm := cF hq28_1 hm
              refine Wy (.d (.lit (.bool false))) [] (Ocs (lit_tf (b := decide (((p0.Kind.toNat : Nat) : Int) = 2)) hq28_1) (Omv rfl)) ?_
              refine Wn ?_
              refine Wn ?_
              refine Wn ?_
              refine Wn ?_
              refine Wn ?_
              refine Wn ?_
              refine Wn ?_
              refine Wn ?_
              refine Wy (.d (.lit (.bool false))) [] (OpF rfl) ?_
              refine Wy (.d (.lit (.bool false))) [] (OpF rfl) ?_
              refine Walk.nil ?_
              refine Then.normal ?_
              exact AWP.weak (Weak.toK 274877906946 0 0 [0]) (J4 () hm)
      · replace hm := cF hq14_1 hm
        refine Wy (.d (.lit (.bool false))) [] (Ocs (lit_tf (b := decide (((p0.Kind.toNat : Nat) : Int) = 1)) hq14_1) (Omv rfl)) ?_
        refine Wn ?_
        refine Wn ?_
        refine Wn ?_
        refine Wn ?_
        refine Wn ?_
        refine Wn ?_
        refine Wn ?_
        refine Wn ?_
        refine Wy (.d (.lit (.bool false))) [] (OpF rfl) ?_
        refine Wy (.d (.lit (.bool false))) [] (Omv rfl) ?_
        refine Wy (.loc 0 0) [] (Ofa rfl) ?_
        refine Wy (.d (byteD p0.Kind)) [] (Old rfl) ?_
        refine Wy (.d (.lit (.bool (decide (((p0.Kind.toNat : Nat) : Int) = 2))))) [] (Ocs (by kernel_rfl) (op_bin rfl (a1 := .int .u8 ((p0.Kind.toNat : Nat) : Int)) (a2 := .int .u8 2) (by kernel_rfl) (by kernel_rfl) (fun _ => hb_eql))) ?_
        rcases tf_ (decide (((p0.Kind.toNat : Nat) : Int) = 2)) with hq28_1 | hq28_1
        · replace hm := cT hq28_1 hm
          refine Wy (.d (.lit (.bool true))) [] (Ocs (lit_tf (b := decide (((p0.Kind.toNat : Nat) : Int) = 2)) hq28_1) (Omv rfl)) ?_
          refine Wy (.loc 0 1) [] (Ofa rfl) ?_
          refine Wy (.d (.lit (.int .i64 p0.N))) [] (Old rfl) ?_
          refine Wy (.d (.lit (.bool (decide (p0.N < 0))))) [] (Obn rfl (fun _ => hb_lss (k := .i64))) ?_
          rcases tf_ (decide (p0.N < 0)) with hq32_1 | hq32_1
          · replace hm := cT hq32_1 hm
            refine Wy (.d (.lit (.bool true))) [] (Ocs (lit_tf (b := decide (p0.N < 0)) hq32_1) (Omv rfl)) ?_
            refine Wn ?_
            refine Wn ?_
            refine Wn ?_
            refine Wy (.d (.lit (.bool true))) [] (OpT rfl) ?_
            refine Wy (.d (.lit (.bool true))) [] (OpT rfl) ?_
            refine Wy (.d (.lit (.bool true))) [] (OpF rfl) ?_
            refine Walk.nil ?_
            refine Then.normal ?_
            exact AWP.weak (Weak.toK 274877906946 0 0 [0]) (J2 () hm)
          · replace hm := cF hq32_1 hm
            refine Wy (.d (.lit (.bool false))) [] (Ocs (lit_tf (b := decide (p0.N < 0)) hq32_1) (Omv rfl)) ?_
            refine Wy (.loc 0 1) [] (Ofa rfl) ?_
            refine Wy (.d (.lit (.int .i64 p0.N))) [] (Old rfl) ?_
            refine Wy (.d (.lit (.bool (decide ((1 : Int) < p0.N))))) [] (Obn rfl (fun _ => hb_gtr (k := .i64))) ?_
            refine Wy (.d (.lit (.bool (decide ((1 : Int) < p0.N))))) [] (OpF rfl) ?_
            refine Wy (.d (.lit (.bool (decide ((1 : Int) < p0.N))))) [] (OpT rfl) ?_
            refine Wy (.d (.lit (.bool (decide ((1 : Int) < p0.N))))) [] (OpF rfl) ?_
            refine Walk.nil ?_
            refine Then.normal ?_
            exact AWP.weak (Weak.toK 274877906946 0 0 [0]) (J3 () hm)
        · replace hm := cF hq28_1 hm
          refine Wy (.d (.lit (.bool false))) [] (Ocs (lit_tf (b := decide (((p0.Kind.toNat : Nat) : Int) = 2)) hq28_1) (Omv rfl)) ?_
          refine Wn ?_
          refine Wn ?_
          refine Wn ?_
          refine Wn ?_
          refine Wn ?_
          refine Wn ?_
          refine Wn ?_
          refine Wn ?_
          refine Wy (.d (.lit (.bool false))) [] (OpF rfl) ?_
          refine Wy (.d (.lit (.bool false))) [] (OpF rfl) ?_
          refine Walk.nil ?_
          refine Then.normal ?_
          exact AWP.weak (Weak.toK 274877906946 0 0 [0]) (J4 () hm)

set_option maxRecDepth 20000 in
set_option maxHeartbeats 4000000 in
theorem ok_telltaleref02_Fold (p0 : Int) (r : Int) (h : m_telltaleref02_Fold p0 = some r) : GCall Try.prog 32 [(.d (.lit (.int .i64 p0)))] [] (.d (.lit (.int .u64 r))) [] := by
  refine GCall.of_body (n := 14) (rs := [(.tmp 2)]) Try.func32 rfl rfl rfl ?_
  refine Ato ⟨((.d (.lit (.int .i64 p0))) :: (tu 13 [])), [], 0⟩ ?_
  have hm := h
  unfold m_telltaleref02_Fold at hm
  refine AWP.seq ?_
  refine AWP.text ?_
  refine Wy (.d (.lit (.int .u64 0))) [] (Omv rfl) ?_
  refine Walk.nil ?_
  refine Then.normal ?_
  refine Amk 1 0 ⟨((.d (.lit (.int .i64 p0))) :: (tp 13 [])), [], 0⟩ ?_
  refine AWP.seq ?_
  refine AWP.seq ?_
  refine AWP.text ?_
  refine Wy (.d (.lit (.int .i64 p0))) [] (Omv rfl) ?_
  refine Wy (.d (.lit (.bool (decide (p0 < 0))))) [] (Obn rfl (fun _ => hb_lss (k := .i64))) ?_
  refine Walk.nil ?_
  refine Then.normal ?_
  refine Amk 17 0 ⟨((.d (.lit (.int .i64 p0))) :: (tp 3 ((.d (.lit (.bool (decide (p0 < 0))))) :: (tp 9 [])))), [], 0⟩ ?_
  rcases tf_ (decide (p0 < 0)) with hc4_2 | hc4_2
  · replace hm := cT hc4_2 hm
    refine AWP.if_ true (Eq.trans (by kernel_rfl) (lit_tf (b := decide (p0 < 0)) hc4_2)) ?_
    refine AWP.seq ?_
    refine AWP.text ?_
    refine Wy (.d (.lit (.int .i64 p0))) [] (Omv rfl) ?_
    refine Wy (.d (.lit (.int .i64 (IntKind.i64.wrap (p0 + 1))))) [] (Obn rfl (fun _ => hb_add (k := .i64))) ?_
    refine Wy (.d (.lit (.int .i64 (IntKind.i64.wrap (0 - (IntKind.i64.wrap (p0 + 1))))))) [] (Ocs (by kernel_rfl) (op_un rfl (a1 := .int .i64 (IntKind.i64.wrap (p0 + 1))) (by kernel_rfl) (fun _ => hu_neg))) ?_
    refine Wy (.d (.lit (.int .u64 (IntKind.u64.wrap (IntKind.i64.wrap (0 - (IntKind.i64.wrap (p0 + 1)))))))) [] (Ocs (by kernel_rfl) (op_convert rfl (a1 := .int .i64 (IntKind.i64.wrap (0 - (IntKind.i64.wrap (p0 + 1))))) (by kernel_rfl) (run_conv (ds := .int .i64) (k' := .u64) (by kernel_rfl) (by kernel_rfl)))) ?_
    refine Wy (.d (.lit (.int .u64 (IntKind.u64.wrap (2 * (IntKind.u64.wrap (IntKind.i64.wrap (0 - (IntKind.i64.wrap (p0 + 1)))))))))) [] (Obn rfl (fun _ => hb_mul (k := .u64))) ?_
    obtain ⟨v10_0, hv10_0, hm⟩ := bnd hm; replace hv10_0 := Option.some.inj hv10_0
    refine Wy (.d (.lit (.int .u64 v10_0))) [] (Ocs (congrArg (fun z => A.d (.lit (.int .u64 z))) hv10_0) (Obn rfl (fun _ => hb_add (k := .u64)))) ?_
    refine Wy (.d (.lit (.int .u64 v10_0))) [] (Omv rfl) ?_
    refine Walk.nil ?_
    refine Then.normal ?_
    refine AWP.ret ?_
    refine Then.ret ?_
    obtain rfl := Option.some.inj hm
    exact ret_i []
  · replace hm := cF hc4_2 hm
    refine AWP.if_ false (Eq.trans (by kernel_rfl) (lit_tf (b := decide (p0 < 0)) hc4_2)) ?_
    refine AWP.skip ?_
    refine Then.normal ?_
    refine Amk 1 0 ⟨((.d (.lit (.int .i64 p0))) :: (tp 13 [])), [], 0⟩ ?_
    refine AWP.seq ?_
    refine AWP.text ?_
    refine Wy (.d (.lit (.int .i64 p0))) [] (Omv rfl) ?_
    refine Wy (.d (.lit (.int .u64 (IntKind.u64.wrap p0)))) [] (Ocs (by kernel_rfl) (op_convert rfl (a1 := .int .i64 p0) (by kernel_rfl) (run_conv (ds := .int .i64) (k' := .u64) (by kernel_rfl) (by kernel_rfl)))) ?_
    refine Wy (.d (.lit (.int .u64 (IntKind.u64.wrap (2 * (IntKind.u64.wrap p0)))))) [] (Obn rfl (fun _ => hb_mul (k := .u64))) ?_
    refine Wy (.d (.lit (.int .u64 (IntKind.u64.wrap (2 * (IntKind.u64.wrap p0)))))) [] (Omv rfl) ?_
    refine Walk.nil ?_
    refine Then.normal ?_
    refine AWP.ret ?_
    obtain rfl := Option.some.inj hm
    exact ret_i []

set_option maxRecDepth 20000 in
set_option maxHeartbeats 4000000 in
theorem ok_telltaleref02_sevens (p0 : Int) (r : (List Int)) (h : m_telltaleref02_sevens p0 = some r) : GCall Try.prog 52 [(.d (.lit (.int .u64 p0)))] [] (.own 0) [(.arr 3 1 (List.length r) (flatD (encI .i64) r))] := by
  refine GCall.of_body (n := 21) (rs := [(.tmp 2)]) Try.func52 rfl rfl rfl ?_
  refine Ato ⟨((.d (.lit (.int .u64 p0))) :: (tu 20 [])), [], 0⟩ ?_
  have hm := h
  unfold m_telltaleref02_sevens at hm
  refine AWP.seq ?_
  refine AWP.text ?_
  refine Wy (.d .nil) [] (Omv rfl) ?_
  refine Walk.nil ?_
  refine Then.normal ?_
  refine Amk 1 0 ⟨((.d (.lit (.int .u64 p0))) :: (tp 20 [])), [], 0⟩ ?_
  refine AWP.seq ?_
  refine AWP.text ?_
  refine Wy (.d (.lit (.int .u64 p0))) [] (Omv rfl) ?_
  refine Wy (.d (.lit (.int .u64 (Int.tmod p0 128)))) [] (Ocs (by kernel_rfl) (op_bin rfl (a1 := .int .u64 p0) (a2 := .int .u64 128) (by kernel_rfl) (by kernel_rfl) (fun _ => hb_rem (by decide)))) ?_
  refine Wy (.d (.lit (.int .i64 (IntKind.i64.wrap (Int.tmod p0 128))))) [] (Ocs (by kernel_rfl) (op_convert rfl (a1 := .int .u64 (Int.tmod p0 128)) (by kernel_rfl) (run_conv (ds := .int .u64) (k' := .i64) (by kernel_rfl) (by kernel_rfl)))) ?_
  refine Wy (.own 0) [(0, (.arr 3 1 (List.length ([(IntKind.i64.wrap (Int.tmod p0 128))] : List Int)) (flatD (encI .i64) ([(IntKind.i64.wrap (Int.tmod p0 128))] : List Int))))] (Obs rfl) ?_
  refine Wy (.own 0) [] (Omv rfl) ?_
  refine Walk.nil ?_
  refine Then.normal ?_
  refine Amk 9 1 ⟨((.d (.lit (.int .u64 p0))) :: (tp 2 ((.own 0) :: (tp 17 [])))), [(.arr 3 1 (List.length ([(IntKind.i64.wrap (Int.tmod p0 128))] : List Int)) (flatD (encI .i64) ([(IntKind.i64.wrap (Int.tmod p0 128))] : List Int)))], 0⟩ ?_
  refine AWP.seq ?_
  refine AWP.text ?_
  refine Wy (.d (.lit (.int .u64 p0))) [] (Omv rfl) ?_
  refine Wy (.d (.lit (.int .u64 (IntKind.u64.wrap (Int.tdiv p0 128))))) [] (Ocs (by kernel_rfl) (op_bin rfl (a1 := .int .u64 p0) (a2 := .int .u64 128) (by kernel_rfl) (by kernel_rfl) (fun _ => hb_quo (by decide)))) ?_
  refine Wy (.d (.lit (.int .u64 (IntKind.u64.wrap (Int.tdiv p0 128))))) [] (Omv rfl) ?_
  refine Walk.nil ?_
  refine Then.normal ?_
  refine Amk 9 1 ⟨((.d (.lit (.int .u64 (IntKind.u64.wrap (Int.tdiv p0 128))))) :: (tp 2 ((.own 0) :: (tp 17 [])))), [(.arr 3 1 (List.length ([(IntKind.i64.wrap (Int.tmod p0 128))] : List Int)) (flatD (encI .i64) ([(IntKind.i64.wrap (Int.tmod p0 128))] : List Int)))], 0⟩ ?_
  refine AWP.seq ?_
  refine AWP.block ?_
  refine AWP.loopI (α := Nat × Int × (List Int))
    (fun x => match x with | (fu_1, y0_1, y3_1) => (⟨((.d (.lit (.int .u64 y0_1))) :: (tp 2 ((.own 0) :: (tp 17 [])))), [(.arr 3 1 (List.length y3_1) (flatD (encI .i64) y3_1))], 0⟩ : St))
    (fun x => match x with | (fu_1, y0_1, y3_1) => m_telltaleref02_sevens_l1  fu_1 y0_1 y3_1 = some r)
    (fun x => match x with | (fu_1, y0_1, y3_1) => fu_1) (1152921504606846976, (IntKind.u64.wrap (Int.tdiv p0 128)), ([(IntKind.i64.wrap (Int.tmod p0 128))] : List Int))
    (Weak.toK 9 0 0 [0]) hm ?_
  rintro ⟨fu_1, y0_1, y3_1⟩ n_1 hm ih_1
  try dsimp only at hm ih_1 ⊢
  cases fu_1 with
  | zero => exact absurd hm (by unfold m_telltaleref02_sevens_l1; simp)
  | succ fu_1 =>
    unfold m_telltaleref02_sevens_l1 at hm
    refine AWP.seq ?_
    refine AWP.seq ?_
    refine AWP.text ?_
    refine Wy (.d (.lit (.int .u64 y0_1))) [] (Omv rfl) ?_
    refine Wy (.d (.lit (.bool (decide ((0 : Int) < y0_1))))) [] (Obn rfl (fun _ => hb_gtr (k := .u64))) ?_
    refine Walk.nil ?_
    refine Then.normal ?_
    refine Amk 2057 1 ⟨((.d (.lit (.int .u64 y0_1))) :: (tp 2 ((.own 0) :: (tp 7 ((.d (.lit (.bool (decide ((0 : Int) < y0_1))))) :: (tp 9 [])))))), [(.arr 3 1 (List.length y3_1) (flatD (encI .i64) y3_1))], 0⟩ ?_
    rcases tf_ (decide ((0 : Int) < y0_1)) with hc11_3 | hc11_3
    · replace hm := cT hc11_3 hm
      refine AWP.if_ true (Eq.trans (by kernel_rfl) (lit_tf (b := decide ((0 : Int) < y0_1)) hc11_3)) ?_
      refine AWP.skip ?_
      refine Then.normal ?_
      refine Amk 9 1 ⟨((.d (.lit (.int .u64 y0_1))) :: (tp 2 ((.own 0) :: (tp 17 [])))), [(.arr 3 1 (List.length y3_1) (flatD (encI .i64) y3_1))], 0⟩ ?_
      refine AWP.block ?_
      refine AWP.seq ?_
      refine AWP.text ?_
      refine Wy (.own 0) [] (Omv rfl) ?_
      refine Wy (.d (.lit (.int .u64 y0_1))) [] (Omv rfl) ?_
      refine Wy (.d (.lit (.int .u64 (Int.tmod y0_1 128)))) [] (Ocs (by kernel_rfl) (op_bin rfl (a1 := .int .u64 y0_1) (a2 := .int .u64 128) (by kernel_rfl) (by kernel_rfl) (fun _ => hb_rem (by decide)))) ?_
      refine Wy (.d (.lit (.int .i64 (IntKind.i64.wrap (Int.tmod y0_1 128))))) [] (Ocs (by kernel_rfl) (op_convert rfl (a1 := .int .u64 (Int.tmod y0_1 128)) (by kernel_rfl) (run_conv (ds := .int .u64) (k' := .i64) (by kernel_rfl) (by kernel_rfl)))) ?_
      refine Wy (.own 1) [(1, (.arr 3 1 (List.length ([(IntKind.i64.wrap (Int.tmod y0_1 128))] : List Int)) (flatD (encI .i64) ([(IntKind.i64.wrap (Int.tmod y0_1 128))] : List Int))))] (Obs rfl) ?_
      obtain ⟨a17_2, ha17_2, hm⟩ := bnd hm; obtain ⟨ha17_2e, ha17_2l⟩ := app_some ha17_2
      refine Wy (.own 2) [(0, .gone), (2, (.arr 3 1 (List.length a17_2) (flatD (encI .i64) a17_2)))] (Oap rfl elemOK_82 (encI_len (k := .i64)) ha17_2e ha17_2l) ?_
      refine Wy (.own 2) [] (Omv rfl) ?_
      refine Walk.nil ?_
      refine Then.normal ?_
      refine Amk 9 4 ⟨((.d (.lit (.int .u64 y0_1))) :: (tp 2 ((.own 2) :: (tp 17 [])))), [.gone, .gone, (.arr 3 1 (List.length a17_2) (flatD (encI .i64) a17_2))], 0⟩ ?_
      refine AWP.text ?_
      refine Wy (.d (.lit (.int .u64 y0_1))) [] (Omv rfl) ?_
      refine Wy (.d (.lit (.int .u64 (IntKind.u64.wrap (Int.tdiv y0_1 128))))) [] (Ocs (by kernel_rfl) (op_bin rfl (a1 := .int .u64 y0_1) (a2 := .int .u64 128) (by kernel_rfl) (by kernel_rfl) (fun _ => hb_quo (by decide)))) ?_
      refine Wy (.d (.lit (.int .u64 (IntKind.u64.wrap (Int.tdiv y0_1 128))))) [] (Omv rfl) ?_
      refine Walk.nil ?_
      refine InBlock.normal ?_
      refine RoundK.normal ?_
      exact Rounds.weak (Weak.toK 9 0 0 [2]) (ih_1 (fu_1, (IntKind.u64.wrap (Int.tdiv y0_1 128)), a17_2) hm (Nat.lt_succ_self _))
    · replace hm := cF hc11_3 hm
      refine AWP.if_ false (Eq.trans (by kernel_rfl) (lit_tf (b := decide ((0 : Int) < y0_1)) hc11_3)) ?_
      refine AWP.exit ?_
      refine Then.exit ?_
      refine RoundK.exit ?_
      refine InBlock.same ?_
      refine Then.normal ?_
      refine Amk 8 1 ⟨(tp 3 ((.own 0) :: (tp 17 []))), [(.arr 3 1 (List.length y3_1) (flatD (encI .i64) y3_1))], 0⟩ ?_
      refine AWP.seq ?_
      refine AWP.text ?_
      refine Wy (.own 0) [] (Omv rfl) ?_
      refine Wy (.own 0) [] (Omv rfl) ?_
      refine Walk.nil ?_
      refine Then.normal ?_
      refine AWP.ret ?_
      obtain rfl := Option.some.inj hm
      exact ret_i [0]

set_option maxRecDepth 20000 in
set_option maxHeartbeats 4000000 in
theorem ok_telltaleref02_Put (p0 : (List UInt8)) (p1 : Int) (r : (List UInt8)) (h : m_telltaleref02_Put p0 p1 = some r) : GCall Try.prog 31 [(.d (.sl (List.length p0) (flatD encU8 p0))), (.d (.lit (.int .u64 p1)))] [] (.own 0) [(.arr 5 1 (List.length r) (flatD encU8 r))] := by
  refine GCall.of_body (n := 42) (rs := [(.tmp 4)]) Try.func31 rfl rfl rfl ?_
  refine Ato ⟨((.d (.sl (List.length p0) (flatD encU8 p0))) :: ((.d (.lit (.int .u64 p1))) :: (tu 40 []))), [], 0⟩ ?_
  have hm := h
  unfold m_telltaleref02_Put at hm
  refine AWP.seq ?_
  refine AWP.text ?_
  refine Wy (.d .nil) [] (Omv rfl) ?_
  refine Walk.nil ?_
  refine Then.normal ?_
  refine Amk 3 0 ⟨((.d (.sl (List.length p0) (flatD encU8 p0))) :: ((.d (.lit (.int .u64 p1))) :: (tp 40 []))), [], 0⟩ ?_
  refine AWP.seq ?_
  refine AWP.text ?_
  refine Wy (.own 0) [(0, (.arr 5 1 (List.length ([] : List UInt8)) (flatD encU8 ([] : List UInt8))))] (Obs rfl) ?_
  refine Wy (.d (.sl (List.length p0) (flatD encU8 p0))) [] (Omv rfl) ?_
  obtain ⟨a10_0, ha10_0, hm⟩ := bnd hm; obtain ⟨ha10_0e, ha10_0l⟩ := app_some ha10_0
  refine Wy (.own 1) [(0, .gone), (1, (.arr 5 1 (List.length a10_0) (flatD encU8 a10_0)))] (Oap rfl elemOK_25 encU8_len ha10_0e ha10_0l) ?_
  refine Wy (.own 1) [] (Omv rfl) ?_
  refine Walk.nil ?_
  refine Then.normal ?_
  refine Amk 34 2 ⟨(tp 1 ((.d (.lit (.int .u64 p1))) :: (tp 3 ((.own 1) :: (tp 36 []))))), [.gone, (.arr 5 1 (List.length a10_0) (flatD encU8 a10_0))], 0⟩ ?_
  refine AWP.seq ?_
  refine AWP.text ?_
  refine Wy (.d (.lit (.int .u64 p1))) [] (Omv rfl) ?_
  obtain ⟨r12_1, hr12_1, hm⟩ := bnd hm
  refine Wy (.own 2) [(2, (.arr 3 1 (List.length r12_1) (flatD (encI .i64) r12_1)))] (Ocf [] [2] [] 0 (ok_telltaleref02_sevens p1 r12_1 hr12_1) (fun a w => Try.call52 a w) rfl trivial) ?_
  refine Wy (.own 2) [] (Omv rfl) ?_
  refine Walk.nil ?_
  refine Then.normal ?_
  refine Amk 96 6 ⟨(tp 5 ((.own 1) :: ((.own 2) :: (tp 35 [])))), [.gone, (.arr 5 1 (List.length a10_0) (flatD encU8 a10_0)), (.arr 3 1 (List.length r12_1) (flatD (encI .i64) r12_1))], 0⟩ ?_
  refine AWP.seq ?_
  refine AWP.seq ?_
  refine AWP.text ?_
  refine Wy (.d (.lit (.int .i64 0))) [] (Omv rfl) ?_
  refine Walk.nil ?_
  refine Then.normal ?_
  refine Amk 224 6 ⟨(tp 5 ((.own 1) :: ((.own 2) :: ((.d (.lit (.int .i64 0))) :: (tp 34 []))))), [.gone, (.arr 5 1 (List.length a10_0) (flatD encU8 a10_0)), (.arr 3 1 (List.length r12_1) (flatD (encI .i64) r12_1))], 0⟩ ?_
  refine AWP.block ?_
  refine AWP.loopI (α := Nat × (List UInt8) × Int)
    (fun x => match x with | (fu_2, y5_2, y7_2) => (⟨(tp 5 ((.own 0) :: ((.own 1) :: ((.d (.lit (.int .i64 y7_2))) :: (tp 34 []))))), [(.arr 5 1 (List.length y5_2) (flatD encU8 y5_2)), (.arr 3 1 (List.length r12_1) (flatD (encI .i64) r12_1))], 0⟩ : St))
    (fun x => match x with | (fu_2, y5_2, y7_2) => m_telltaleref02_Put_l2 r12_1 fu_2 y5_2 y7_2 = some r)
    (fun x => match x with | (fu_2, y5_2, y7_2) => fu_2) (1152921504606846976, a10_0, 0)
    (Weak.toK 224 0 0 [1, 2]) hm ?_
  rintro ⟨fu_2, y5_2, y7_2⟩ n_2 hm ih_2
  try dsimp only at hm ih_2 ⊢
  cases fu_2 with
  | zero => exact absurd hm (by unfold m_telltaleref02_Put_l2; simp)
  | succ fu_2 =>
    unfold m_telltaleref02_Put_l2 at hm
    refine AWP.seq ?_
    refine AWP.seq ?_
    refine AWP.text ?_
    refine Wy (.d (.lit (.int .i64 y7_2))) [] (Omv rfl) ?_
    refine Wy (.own 1) [] (Omv rfl) ?_
    refine Wy (.d (.lit (.int .i64 ((List.length r12_1 : Nat) : Int)))) [] (Oln rfl) ?_
    refine Wy (.d (.lit (.bool (decide (y7_2 < ((List.length r12_1 : Nat) : Int)))))) [] (Obn rfl (fun _ => hb_lss (k := .i64))) ?_
    refine Walk.nil ?_
    refine Then.normal ?_
    refine Amk 65760 3 ⟨(tp 5 ((.own 0) :: ((.own 1) :: ((.d (.lit (.int .i64 y7_2))) :: (tp 8 ((.d (.lit (.bool (decide (y7_2 < ((List.length r12_1 : Nat) : Int)))))) :: (tp 25 []))))))), [(.arr 5 1 (List.length y5_2) (flatD encU8 y5_2)), (.arr 3 1 (List.length r12_1) (flatD (encI .i64) r12_1))], 0⟩ ?_
    rcases tf_ (decide (y7_2 < ((List.length r12_1 : Nat) : Int))) with hc16_7 | hc16_7
    · replace hm := cT hc16_7 hm
      refine AWP.if_ true (Eq.trans (by kernel_rfl) (lit_tf (b := decide (y7_2 < ((List.length r12_1 : Nat) : Int))) hc16_7)) ?_
      refine AWP.skip ?_
      refine Then.normal ?_
      refine Amk 224 3 ⟨(tp 5 ((.own 0) :: ((.own 1) :: ((.d (.lit (.int .i64 y7_2))) :: (tp 34 []))))), [(.arr 5 1 (List.length y5_2) (flatD encU8 y5_2)), (.arr 3 1 (List.length r12_1) (flatD (encI .i64) r12_1))], 0⟩ ?_
      refine AWP.seq ?_
      refine AWP.block ?_
      refine AWP.seq ?_
      refine AWP.text ?_
      refine Wy (.d (.lit (.int .i64 y7_2))) [] (Omv rfl) ?_
      refine Wy (.own 1) [] (Omv rfl) ?_
      refine Wy (.d (.lit (.int .i64 ((List.length r12_1 : Nat) : Int)))) [] (Oln rfl) ?_
      refine Wy (.d (.lit (.int .i64 (IntKind.i64.wrap (((List.length r12_1 : Nat) : Int) - 1))))) [] (Obn rfl (fun _ => hb_sub (k := .i64))) ?_
      refine Wy (.d (.lit (.bool (decide (y7_2 < (IntKind.i64.wrap (((List.length r12_1 : Nat) : Int) - 1))))))) [] (Obn rfl (fun _ => hb_lss (k := .i64))) ?_
      refine Walk.nil ?_
      refine Then.normal ?_
      refine Amk 8388832 3 ⟨(tp 5 ((.own 0) :: ((.own 1) :: ((.d (.lit (.int .i64 y7_2))) :: (tp 15 ((.d (.lit (.bool (decide (y7_2 < (IntKind.i64.wrap (((List.length r12_1 : Nat) : Int) - 1))))))) :: (tp 18 []))))))), [(.arr 5 1 (List.length y5_2) (flatD encU8 y5_2)), (.arr 3 1 (List.length r12_1) (flatD (encI .i64) r12_1))], 0⟩ ?_
      rcases tf_ (decide (y7_2 < (IntKind.i64.wrap (((List.length r12_1 : Nat) : Int) - 1)))) with hc23_8 | hc23_8
      · replace hm := cT hc23_8 hm
        refine AWP.if_ true (Eq.trans (by kernel_rfl) (lit_tf (b := decide (y7_2 < (IntKind.i64.wrap (((List.length r12_1 : Nat) : Int) - 1)))) hc23_8)) ?_
        refine AWP.text ?_
        refine Wy (.own 0) [] (Omv rfl) ?_
        refine Wy (.own 1) [] (Omv rfl) ?_
        refine Wy (.d (.lit (.int .i64 y7_2))) [] (Omv rfl) ?_
        obtain ⟨x27_5, hx27_5, hm⟩ := bnd hm
        obtain ⟨hx27_5i, hx27_5g⟩ := geti_some hx27_5
        refine Wy (.loc 1 ((Int.toNat y7_2) * 1)) [] (Oia rfl (encI_len (k := .i64)) hx27_5i hx27_5g) ?_
        refine Wy (.d (.lit (.int .i64 x27_5))) [] (Lr1 rfl (encI_len (k := .i64)) hx27_5g) ?_
        refine Wy (.d (.lit (.int .i64 (IntKind.i64.wrap (128 + x27_5))))) [] (Obn rfl (fun _ => hb_add (k := .i64))) ?_
        refine Wy (.d (byteD (toU8 (IntKind.i64.wrap (128 + x27_5))))) [] (Ocs (lit_int (u8w _)) (op_convert rfl (a1 := .int .i64 (IntKind.i64.wrap (128 + x27_5))) (by kernel_rfl) (run_conv (ds := .int .i64) (k' := .u8) (by kernel_rfl) (by kernel_rfl)))) ?_
        refine Wy (.own 2) [(2, (.arr 5 1 (List.length ([(toU8 (IntKind.i64.wrap (128 + x27_5)))] : List UInt8)) (flatD encU8 ([(toU8 (IntKind.i64.wrap (128 + x27_5)))] : List UInt8))))] (Obs rfl) ?_
        obtain ⟨a32_5, ha32_5, hm⟩ := bnd hm; obtain ⟨ha32_5e, ha32_5l⟩ := app_some ha32_5
        refine Wy (.own 3) [(0, .gone), (3, (.arr 5 1 (List.length a32_5) (flatD encU8 a32_5)))] (Oap rfl elemOK_25 encU8_len ha32_5e ha32_5l) ?_
        refine Wy (.own 3) [] (Omv rfl) ?_
        refine Walk.nil ?_
        refine InBlock.normal ?_
        refine Then.normal ?_
        refine Amk 224 10 ⟨(tp 5 ((.own 3) :: ((.own 1) :: ((.d (.lit (.int .i64 y7_2))) :: (tp 34 []))))), [.gone, (.arr 3 1 (List.length r12_1) (flatD (encI .i64) r12_1)), .gone, (.arr 5 1 (List.length a32_5) (flatD encU8 a32_5))], 0⟩ ?_
        refine AWP.text ?_
        refine Wy (.d (.lit (.int .i64 y7_2))) [] (Omv rfl) ?_
        refine Wy (.d (.lit (.int .i64 (IntKind.i64.wrap (y7_2 + 1))))) [] (Obn rfl (fun _ => hb_add (k := .i64))) ?_
        refine Wy (.d (.lit (.int .i64 (IntKind.i64.wrap (y7_2 + 1))))) [] (Omv rfl) ?_
        refine Walk.nil ?_
        refine RoundK.normal ?_
        exact Rounds.weak (Weak.toK 224 0 0 [3, 1]) (ih_2 (fu_2, a32_5, (IntKind.i64.wrap (y7_2 + 1))) hm (Nat.lt_succ_self _))
      · replace hm := cF hc23_8 hm
        refine AWP.if_ false (Eq.trans (by kernel_rfl) (lit_tf (b := decide (y7_2 < (IntKind.i64.wrap (((List.length r12_1 : Nat) : Int) - 1)))) hc23_8)) ?_
        refine AWP.text ?_
        refine Wy (.own 0) [] (Omv rfl) ?_
        refine Wy (.own 1) [] (Omv rfl) ?_
        refine Wy (.d (.lit (.int .i64 y7_2))) [] (Omv rfl) ?_
        obtain ⟨x36_6, hx36_6, hm⟩ := bnd hm
        obtain ⟨hx36_6i, hx36_6g⟩ := geti_some hx36_6
        refine Wy (.loc 1 ((Int.toNat y7_2) * 1)) [] (Oia rfl (encI_len (k := .i64)) hx36_6i hx36_6g) ?_
        refine Wy (.d (.lit (.int .i64 x36_6))) [] (Lr1 rfl (encI_len (k := .i64)) hx36_6g) ?_
        refine Wy (.d (byteD (toU8 x36_6))) [] (Ocs (lit_int (u8w _)) (op_convert rfl (a1 := .int .i64 x36_6) (by kernel_rfl) (run_conv (ds := .int .i64) (k' := .u8) (by kernel_rfl) (by kernel_rfl)))) ?_
        refine Wy (.own 2) [(2, (.arr 5 1 (List.length ([(toU8 x36_6)] : List UInt8)) (flatD encU8 ([(toU8 x36_6)] : List UInt8))))] (Obs rfl) ?_
        obtain ⟨a40_6, ha40_6, hm⟩ := bnd hm; obtain ⟨ha40_6e, ha40_6l⟩ := app_some ha40_6
        refine Wy (.own 3) [(0, .gone), (3, (.arr 5 1 (List.length a40_6) (flatD encU8 a40_6)))] (Oap rfl elemOK_25 encU8_len ha40_6e ha40_6l) ?_
        refine Wy (.own 3) [] (Omv rfl) ?_
        refine Walk.nil ?_
        refine InBlock.normal ?_
        refine Then.normal ?_
        refine Amk 224 10 ⟨(tp 5 ((.own 3) :: ((.own 1) :: ((.d (.lit (.int .i64 y7_2))) :: (tp 34 []))))), [.gone, (.arr 3 1 (List.length r12_1) (flatD (encI .i64) r12_1)), .gone, (.arr 5 1 (List.length a40_6) (flatD encU8 a40_6))], 0⟩ ?_
        refine AWP.text ?_
        refine Wy (.d (.lit (.int .i64 y7_2))) [] (Omv rfl) ?_
        refine Wy (.d (.lit (.int .i64 (IntKind.i64.wrap (y7_2 + 1))))) [] (Obn rfl (fun _ => hb_add (k := .i64))) ?_
        refine Wy (.d (.lit (.int .i64 (IntKind.i64.wrap (y7_2 + 1))))) [] (Omv rfl) ?_
        refine Walk.nil ?_
        refine RoundK.normal ?_
        exact Rounds.weak (Weak.toK 224 0 0 [3, 1]) (ih_2 (fu_2, a40_6, (IntKind.i64.wrap (y7_2 + 1))) hm (Nat.lt_succ_self _))
    · replace hm := cF hc16_7 hm
      refine AWP.if_ false (Eq.trans (by kernel_rfl) (lit_tf (b := decide (y7_2 < ((List.length r12_1 : Nat) : Int))) hc16_7)) ?_
      refine AWP.exit ?_
      refine Then.exit ?_
      refine RoundK.exit ?_
      refine InBlock.same ?_
      refine Then.normal ?_
      refine Amk 32 1 ⟨(tp 5 ((.own 0) :: (tp 36 []))), [(.arr 5 1 (List.length y5_2) (flatD encU8 y5_2)), .gone], 0⟩ ?_
      refine AWP.seq ?_
      refine AWP.text ?_
      refine Wy (.own 0) [] (Omv rfl) ?_
      refine Wy (.own 0) [] (Omv rfl) ?_
      refine Walk.nil ?_
      refine Then.normal ?_
      refine AWP.ret ?_
      obtain rfl := Option.some.inj hm
      exact ret_i [0]

set_option maxRecDepth 20000 in
set_option maxHeartbeats 4000000 in
theorem ok_telltaleref01_Word (p0 : (List UInt8)) (p1 : Int) (r : (List UInt8)) (h : m_telltaleref01_Word p0 p1 = some r) : GCall Try.prog 33 [(.d (.sl (List.length p0) (flatD encU8 p0))), (.d (.lit (.int .u64 p1)))] [] (.own 0) [(.arr 5 1 (List.length r) (flatD encU8 r))] := by
  refine GCall.of_body (n := 24) (rs := [(.tmp 4)]) Try.func33 rfl rfl rfl ?_
  refine Ato ⟨((.d (.sl (List.length p0) (flatD encU8 p0))) :: ((.d (.lit (.int .u64 p1))) :: (tu 22 []))), [], 0⟩ ?_
  have hm := h
  unfold m_telltaleref01_Word at hm
  refine AWP.seq ?_
  refine AWP.text ?_
  refine Wy (.d .nil) [] (Omv rfl) ?_
  refine Walk.nil ?_
  refine Then.normal ?_
  refine Amk 3 0 ⟨((.d (.sl (List.length p0) (flatD encU8 p0))) :: ((.d (.lit (.int .u64 p1))) :: (tp 22 []))), [], 0⟩ ?_
  refine AWP.seq ?_
  refine AWP.text ?_
  refine Wy (.d .nil) [] (Omv rfl) ?_
  refine Walk.nil ?_
  refine Then.normal ?_
  refine Amk 35 0 ⟨((.d (.sl (List.length p0) (flatD encU8 p0))) :: ((.d (.lit (.int .u64 p1))) :: (tp 3 ((.d .nil) :: (tp 18 []))))), [], 0⟩ ?_
  refine AWP.seq ?_
  refine AWP.seq ?_
  refine AWP.text ?_
  refine Wy (.d (.lit (.int .i64 0))) [] (Omv rfl) ?_
  refine Walk.nil ?_
  refine Then.normal ?_
  refine Amk 99 0 ⟨((.d (.sl (List.length p0) (flatD encU8 p0))) :: ((.d (.lit (.int .u64 p1))) :: (tp 3 ((.d .nil) :: ((.d (.lit (.int .i64 0))) :: (tp 17 [])))))), [], 0⟩ ?_
  refine AWP.block ?_
  refine Aow 5 5 1 ⟨((.d (.sl (List.length p0) (flatD encU8 p0))) :: ((.d (.lit (.int .u64 p1))) :: (tp 3 ((.own 0) :: ((.d (.lit (.int .i64 0))) :: (tp 17 [])))))), [(.arr 5 1 (List.length ([] : List UInt8)) (flatD encU8 ([] : List UInt8)))], 0⟩ ?_
  refine AWP.loopI (α := Nat × Int × (List UInt8) × Int)
    (fun x => match x with | (fu_0, y1_0, y5_0, y6_0) => (⟨((.d (.sl (List.length p0) (flatD encU8 p0))) :: ((.d (.lit (.int .u64 y1_0))) :: (tp 3 ((.own 0) :: ((.d (.lit (.int .i64 y6_0))) :: (tp 17 [])))))), [(.arr 5 1 (List.length y5_0) (flatD encU8 y5_0))], 0⟩ : St))
    (fun x => match x with | (fu_0, y1_0, y5_0, y6_0) => m_telltaleref01_Word_l0 p0 fu_0 y1_0 y5_0 y6_0 = some r)
    (fun x => match x with | (fu_0, y1_0, y5_0, y6_0) => fu_0) (1152921504606846976, p1, ([] : List UInt8), 0)
    (Weak.toK 99 0 0 [0]) hm ?_
  rintro ⟨fu_0, y1_0, y5_0, y6_0⟩ n_0 hm ih_0
  try dsimp only at hm ih_0 ⊢
  cases fu_0 with
  | zero => exact absurd hm (by unfold m_telltaleref01_Word_l0; simp)
  | succ fu_0 =>
    unfold m_telltaleref01_Word_l0 at hm
    refine AWP.seq ?_
    refine AWP.seq ?_
    refine AWP.text ?_
    refine Wy (.d (.lit (.int .i64 y6_0))) [] (Omv rfl) ?_
    refine Wy (.d (.lit (.bool (decide (y6_0 < 8))))) [] (Obn rfl (fun _ => hb_lss (k := .i64))) ?_
    refine Walk.nil ?_
    refine Then.normal ?_
    refine Amk 355 1 ⟨((.d (.sl (List.length p0) (flatD encU8 p0))) :: ((.d (.lit (.int .u64 y1_0))) :: (tp 3 ((.own 0) :: ((.d (.lit (.int .i64 y6_0))) :: (tp 1 ((.d (.lit (.bool (decide (y6_0 < 8))))) :: (tp 15 [])))))))), [(.arr 5 1 (List.length y5_0) (flatD encU8 y5_0))], 0⟩ ?_
    rcases tf_ (decide (y6_0 < 8)) with hc8_3 | hc8_3
    · replace hm := cT hc8_3 hm
      refine AWP.if_ true (Eq.trans (by kernel_rfl) (lit_tf (b := decide (y6_0 < 8)) hc8_3)) ?_
      refine AWP.skip ?_
      refine Then.normal ?_
      refine Amk 99 1 ⟨((.d (.sl (List.length p0) (flatD encU8 p0))) :: ((.d (.lit (.int .u64 y1_0))) :: (tp 3 ((.own 0) :: ((.d (.lit (.int .i64 y6_0))) :: (tp 17 [])))))), [(.arr 5 1 (List.length y5_0) (flatD encU8 y5_0))], 0⟩ ?_
      refine AWP.seq ?_
      refine AWP.block ?_
      refine AWP.seq ?_
      refine AWP.text ?_
      refine Wy (.d (.lit (.int .u64 y1_0))) [] (Omv rfl) ?_
      refine Wy (.d (.lit (.int .u64 (Int.tmod y1_0 256)))) [] (Ocs (by kernel_rfl) (op_bin rfl (a1 := .int .u64 y1_0) (a2 := .int .u64 256) (by kernel_rfl) (by kernel_rfl) (fun _ => hb_rem (by decide)))) ?_
      refine Wy (.d (byteD (toU8 (Int.tmod y1_0 256)))) [] (Ocs (lit_int (u8w _)) (op_convert rfl (a1 := .int .u64 (Int.tmod y1_0 256)) (by kernel_rfl) (run_conv (ds := .int .u64) (k' := .u8) (by kernel_rfl) (by kernel_rfl)))) ?_
      refine Wy (.own 1) [(1, (.arr 5 1 (List.length ([(toU8 (Int.tmod y1_0 256))] : List UInt8)) (flatD encU8 ([(toU8 (Int.tmod y1_0 256))] : List UInt8))))] (Obs rfl) ?_
      refine Wy (.own 0) [] (Omv rfl) ?_
      obtain ⟨a16_1, ha16_1, hm⟩ := bnd hm; obtain ⟨ha16_1e, ha16_1l⟩ := app_some ha16_1
      refine Wy (.own 2) [(1, .gone), (2, (.arr 5 1 (List.length a16_1) (flatD encU8 a16_1)))] (Oap rfl elemOK_25 encU8_len ha16_1e ha16_1l) ?_
      refine Wy (.own 2) [] (Omv rfl) ?_
      refine Walk.nil ?_
      refine Then.normal ?_
      refine Amk 99 4 ⟨((.d (.sl (List.length p0) (flatD encU8 p0))) :: ((.d (.lit (.int .u64 y1_0))) :: (tp 3 ((.own 2) :: ((.d (.lit (.int .i64 y6_0))) :: (tp 17 [])))))), [.gone, .gone, (.arr 5 1 (List.length a16_1) (flatD encU8 a16_1))], 0⟩ ?_
      refine AWP.text ?_
      refine Wy (.d (.lit (.int .u64 y1_0))) [] (Omv rfl) ?_
      refine Wy (.d (.lit (.int .u64 (IntKind.u64.wrap (Int.tdiv y1_0 256))))) [] (Ocs (by kernel_rfl) (op_bin rfl (a1 := .int .u64 y1_0) (a2 := .int .u64 256) (by kernel_rfl) (by kernel_rfl) (fun _ => hb_quo (by decide)))) ?_
      refine Wy (.d (.lit (.int .u64 (IntKind.u64.wrap (Int.tdiv y1_0 256))))) [] (Omv rfl) ?_
      refine Walk.nil ?_
      refine InBlock.normal ?_
      refine Then.normal ?_
      refine Amk 99 4 ⟨((.d (.sl (List.length p0) (flatD encU8 p0))) :: ((.d (.lit (.int .u64 (IntKind.u64.wrap (Int.tdiv y1_0 256))))) :: (tp 3 ((.own 2) :: ((.d (.lit (.int .i64 y6_0))) :: (tp 17 [])))))), [.gone, .gone, (.arr 5 1 (List.length a16_1) (flatD encU8 a16_1))], 0⟩ ?_
      refine AWP.text ?_
      refine Wy (.d (.lit (.int .i64 y6_0))) [] (Omv rfl) ?_
      refine Wy (.d (.lit (.int .i64 (IntKind.i64.wrap (y6_0 + 1))))) [] (Obn rfl (fun _ => hb_add (k := .i64))) ?_
      refine Wy (.d (.lit (.int .i64 (IntKind.i64.wrap (y6_0 + 1))))) [] (Omv rfl) ?_
      refine Walk.nil ?_
      refine RoundK.normal ?_
      exact Rounds.weak (Weak.toK 99 0 0 [2]) (ih_0 (fu_0, (IntKind.u64.wrap (Int.tdiv y1_0 256)), a16_1, (IntKind.i64.wrap (y6_0 + 1))) hm (Nat.lt_succ_self _))
    · replace hm := cF hc8_3 hm
      refine AWP.if_ false (Eq.trans (by kernel_rfl) (lit_tf (b := decide (y6_0 < 8)) hc8_3)) ?_
      refine AWP.exit ?_
      refine Then.exit ?_
      refine RoundK.exit ?_
      refine InBlock.same ?_
      refine Then.normal ?_
      refine Amk 33 1 ⟨((.d (.sl (List.length p0) (flatD encU8 p0))) :: (tp 4 ((.own 0) :: (tp 18 [])))), [(.arr 5 1 (List.length y5_0) (flatD encU8 y5_0))], 0⟩ ?_
      refine AWP.seq ?_
      refine AWP.text ?_
      refine Wy (.own 1) [(1, (.arr 5 1 (List.length ([] : List UInt8)) (flatD encU8 ([] : List UInt8))))] (Obs rfl) ?_
      refine Wy (.d (.sl (List.length p0) (flatD encU8 p0))) [] (Omv rfl) ?_
      obtain ⟨a21_2, ha21_2, hm⟩ := bnd hm; obtain ⟨ha21_2e, ha21_2l⟩ := app_some ha21_2
      refine Wy (.own 2) [(1, .gone), (2, (.arr 5 1 (List.length a21_2) (flatD encU8 a21_2)))] (Oap rfl elemOK_25 encU8_len ha21_2e ha21_2l) ?_
      refine Wy (.own 0) [] (Omv rfl) ?_
      obtain ⟨a23_2, ha23_2, hm⟩ := bnd hm; obtain ⟨ha23_2e, ha23_2l⟩ := app_some ha23_2
      refine Wy (.own 3) [(2, .gone), (3, (.arr 5 1 (List.length a23_2) (flatD encU8 a23_2)))] (Oap rfl elemOK_25 encU8_len ha23_2e ha23_2l) ?_
      refine Wy (.own 3) [] (Omv rfl) ?_
      refine Walk.nil ?_
      refine Then.normal ?_
      refine AWP.ret ?_
      obtain rfl := Option.some.inj hm
      exact ret_i [3]

set_option maxRecDepth 20000 in
set_option maxHeartbeats 4000000 in
theorem ok_telltaleref04_Put (p0 : (List UInt8)) (p1 : GValue) (r : ((List UInt8) × Int)) (h : m_telltaleref04_Put p0 p1 = some r) : GCall Try.prog 11 [(.d (.sl (List.length p0) (flatD encU8 p0))), (.agg [(.d (byteD p1.Kind)), (.d (.lit (.int .i64 p1.N))), (.d (.lit (.int .u64 p1.Bits))), (.d (.lit (.string (toS p1.Text))))])] [] (.tup [(.own 0), (.d (.lit (.int .i64 r.2)))]) [(.arr 5 1 (List.length r.1) (flatD encU8 r.1))] := by
  refine GCall.of_body (n := 53) (rs := [(.tmp 4), (.tmp 5)]) Try.func11 rfl rfl rfl ?_
  refine Ato ⟨((.d (.sl (List.length p0) (flatD encU8 p0))) :: ((.agg [(.d (byteD p1.Kind)), (.d (.lit (.int .i64 p1.N))), (.d (.lit (.int .u64 p1.Bits))), (.d (.lit (.string (toS p1.Text))))]) :: (tu 51 []))), [], 0⟩ ?_
  have hm := h
  unfold m_telltaleref04_Put at hm
  refine AWP.seq ?_
  refine AWP.text ?_
  refine Wy (.loc 0 0) [(0, (.box [(.d (byteD p1.Kind)), (.d (.lit (.int .i64 p1.N))), (.d (.lit (.int .u64 p1.Bits))), (.d (.lit (.string (toS p1.Text))))]))] (Obx rfl) ?_
  refine Wy (.d .nil) [] (Omv rfl) ?_
  refine Wy (.d (.lit (.int .i64 0))) [] (Omv rfl) ?_
  refine Walk.nil ?_
  refine Then.normal ?_
  refine Amk 9 1 ⟨((.d (.sl (List.length p0) (flatD encU8 p0))) :: (tp 2 ((.loc 0 0) :: (tp 49 [])))), [(.box [(.d (byteD p1.Kind)), (.d (.lit (.int .i64 p1.N))), (.d (.lit (.int .u64 p1.Bits))), (.d (.lit (.string (toS p1.Text))))])], 0⟩ ?_
  refine AWP.seq ?_
  refine AWP.seq ?_
  refine AWP.text ?_
  refine Wy (.agg [(.d (byteD p1.Kind)), (.d (.lit (.int .i64 p1.N))), (.d (.lit (.int .u64 p1.Bits))), (.d (.lit (.string (toS p1.Text))))]) [] (Old rfl) ?_
  obtain ⟨r9_0, hr9_0, hm⟩ := bnd hm
  refine Wy (.d (.lit (.int .i64 r9_0))) [] (Ocf [] [] [] 0 (ok_telltaleref04_Check p1 r9_0 hr9_0) (fun a w => Try.call13 a w) rfl trivial) ?_
  refine Wy (.d (.lit (.int .i64 r9_0))) [] (Omv rfl) ?_
  refine Walk.nil ?_
  refine Then.normal ?_
  refine Amk 73 1 ⟨((.d (.sl (List.length p0) (flatD encU8 p0))) :: (tp 2 ((.loc 0 0) :: (tp 2 ((.d (.lit (.int .i64 r9_0))) :: (tp 46 [])))))), [(.box [(.d (byteD p1.Kind)), (.d (.lit (.int .i64 p1.N))), (.d (.lit (.int .u64 p1.Bits))), (.d (.lit (.string (toS p1.Text))))])], 0⟩ ?_
  refine AWP.seq ?_
  refine AWP.text ?_
  refine Wy (.d (.lit (.int .i64 r9_0))) [] (Omv rfl) ?_
  refine Wy (.d (.lit (.bool (decide (r9_0 ≠ 0))))) [] (Obn rfl (fun _ => hb_neq (k := .i64))) ?_
  refine Walk.nil ?_
  refine Then.normal ?_
  refine Amk 2121 1 ⟨((.d (.sl (List.length p0) (flatD encU8 p0))) :: (tp 2 ((.loc 0 0) :: (tp 2 ((.d (.lit (.int .i64 r9_0))) :: (tp 4 ((.d (.lit (.bool (decide (r9_0 ≠ 0))))) :: (tp 41 [])))))))), [(.box [(.d (byteD p1.Kind)), (.d (.lit (.int .i64 p1.N))), (.d (.lit (.int .u64 p1.Bits))), (.d (.lit (.string (toS p1.Text))))])], 0⟩ ?_
  rcases tf_ (decide (r9_0 ≠ 0)) with hc11_6 | hc11_6
  · replace hm := cT hc11_6 hm
    refine AWP.if_ true (Eq.trans (by kernel_rfl) (lit_tf (b := decide (r9_0 ≠ 0)) hc11_6)) ?_
    refine AWP.seq ?_
    refine AWP.text ?_
    refine Wy (.d (.lit (.int .i64 r9_0))) [] (Omv rfl) ?_
    refine Wy (.d .nil) [] (Omv rfl) ?_
    refine Wy (.d (.lit (.int .i64 r9_0))) [] (Omv rfl) ?_
    refine Walk.nil ?_
    refine Then.normal ?_
    refine Aow 4 5 1 ⟨((.d (.sl (List.length p0) (flatD encU8 p0))) :: (tp 2 ((.loc 0 0) :: ((.own 1) :: ((.d (.lit (.int .i64 r9_0))) :: ((.d (.lit (.int .i64 r9_0))) :: (tp 4 ((.d (.lit (.bool (decide (r9_0 ≠ 0))))) :: ((.d (.lit (.int .i64 r9_0))) :: (tp 40 [])))))))))), [(.box [(.d (byteD p1.Kind)), (.d (.lit (.int .i64 p1.N))), (.d (.lit (.int .u64 p1.Bits))), (.d (.lit (.string (toS p1.Text))))]), (.arr 5 1 (List.length ([] : List UInt8)) (flatD encU8 ([] : List UInt8)))], 0⟩ ?_
    refine AWP.ret ?_
    refine Then.ret ?_
    obtain rfl := Option.some.inj hm
    exact ret_i [1]
  · replace hm := cF hc11_6 hm
    refine AWP.if_ false (Eq.trans (by kernel_rfl) (lit_tf (b := decide (r9_0 ≠ 0)) hc11_6)) ?_
    refine AWP.skip ?_
    refine Then.normal ?_
    refine Amk 9 1 ⟨((.d (.sl (List.length p0) (flatD encU8 p0))) :: (tp 2 ((.loc 0 0) :: (tp 49 [])))), [(.box [(.d (byteD p1.Kind)), (.d (.lit (.int .i64 p1.N))), (.d (.lit (.int .u64 p1.Bits))), (.d (.lit (.string (toS p1.Text))))])], 0⟩ ?_
    refine AWP.seq ?_
    refine Adr ?_
    refine Wy (.own 1) [(1, (.arr 5 1 (List.length ([] : List UInt8)) (flatD encU8 ([] : List UInt8))))] (Obs rfl) ?_
    refine Wy (.d (.sl (List.length p0) (flatD encU8 p0))) [] (Omv rfl) ?_
    obtain ⟨a15_1, ha15_1, hm⟩ := bnd hm; obtain ⟨ha15_1e, ha15_1l⟩ := app_some ha15_1
    refine Wy (.own 2) [(1, .gone), (2, (.arr 5 1 (List.length a15_1) (flatD encU8 a15_1)))] (Oap rfl elemOK_25 encU8_len ha15_1e ha15_1l) ?_
    refine Wy (.loc 0 0) [] (Ofa rfl) ?_
    refine Wy (.d (byteD p1.Kind)) [] (Old rfl) ?_
    refine Wy (.own 3) [(3, (.arr 5 1 (List.length ([p1.Kind] : List UInt8)) (flatD encU8 ([p1.Kind] : List UInt8))))] (Obs rfl) ?_
    obtain ⟨a19_1, ha19_1, hm⟩ := bnd hm; obtain ⟨ha19_1e, ha19_1l⟩ := app_some ha19_1
    refine Wy (.own 4) [(2, .gone), (4, (.arr 5 1 (List.length a19_1) (flatD encU8 a19_1)))] (Oap rfl elemOK_25 encU8_len ha19_1e ha19_1l) ?_
    refine Wy (.own 4) [] (Omv rfl) ?_
    refine Wdr ?_
    refine Then.normal ?_
    refine Amk 136 17 ⟨(tp 3 ((.loc 0 0) :: (tp 3 ((.own 4) :: (tp 45 []))))), [(.box [(.d (byteD p1.Kind)), (.d (.lit (.int .i64 p1.N))), (.d (.lit (.int .u64 p1.Bits))), (.d (.lit (.string (toS p1.Text))))]), .gone, .gone, .gone, (.arr 5 1 (List.length a19_1) (flatD encU8 a19_1))], 0⟩ ?_
    refine AWP.seq ?_
    refine AWP.seq ?_
    refine AWP.text ?_
    refine Wy (.loc 0 0) [] (Ofa rfl) ?_
    refine Wy (.d (byteD p1.Kind)) [] (Old rfl) ?_
    refine Wy (.d (.lit (.bool (decide (((p1.Kind.toNat : Nat) : Int) = 1))))) [] (Ocs (by kernel_rfl) (op_bin rfl (a1 := .int .u8 ((p1.Kind.toNat : Nat) : Int)) (a2 := .int .u8 1) (by kernel_rfl) (by kernel_rfl) (fun _ => hb_eql))) ?_
    refine Walk.nil ?_
    refine Then.normal ?_
    refine Amk 4194440 17 ⟨(tp 3 ((.loc 0 0) :: (tp 3 ((.own 4) :: (tp 14 ((.d (.lit (.bool (decide (((p1.Kind.toNat : Nat) : Int) = 1))))) :: (tp 30 []))))))), [(.box [(.d (byteD p1.Kind)), (.d (.lit (.int .i64 p1.N))), (.d (.lit (.int .u64 p1.Bits))), (.d (.lit (.string (toS p1.Text))))]), .gone, .gone, .gone, (.arr 5 1 (List.length a19_1) (flatD encU8 a19_1))], 0⟩ ?_
    rcases tf_ (decide (((p1.Kind.toNat : Nat) : Int) = 1)) with hc22_7 | hc22_7
    · replace hm := cT hc22_7 hm
      refine AWP.if_ true (Eq.trans (by kernel_rfl) (lit_tf (b := decide (((p1.Kind.toNat : Nat) : Int) = 1)) hc22_7)) ?_
      refine AWP.seq ?_
      refine AWP.text ?_
      refine Wy (.own 4) [] (Omv rfl) ?_
      refine Wy (.loc 0 1) [] (Ofa rfl) ?_
      refine Wy (.d (.lit (.int .i64 p1.N))) [] (Old rfl) ?_
      obtain ⟨r26_2, hr26_2, hm⟩ := bnd hm
      refine Wy (.d (.lit (.int .u64 r26_2))) [] (Ocf [] [] [] 0 (ok_telltaleref02_Fold p1.N r26_2 hr26_2) (fun a w => Try.call32 a w) rfl trivial) ?_
      obtain ⟨r27_2, hr27_2, hm⟩ := bnd hm
      refine Wy (.own 5) [(5, (.arr 5 1 (List.length r27_2) (flatD encU8 r27_2)))] (Ocp [] [5] [4] 0 (ok_telltaleref02_Put a19_1 r26_2 r27_2 hr27_2) (⟨by simp [A.Plain, A.Plains, D.Plain, byteD], plain_cons (flat_plain encU8_plain) (plain_nil)⟩) (fun a w => Try.call31 a w) rfl trivial) ?_
      refine Wy (.own 5) [] (Omv rfl) ?_
      refine Wy (.d (.lit (.int .i64 0))) [] (Omv rfl) ?_
      refine Walk.nil ?_
      refine Then.normal ?_
      refine AWP.ret ?_
      refine Then.ret ?_
      obtain rfl := Option.some.inj hm
      exact ret_i [5]
    · replace hm := cF hc22_7 hm
      refine AWP.if_ false (Eq.trans (by kernel_rfl) (lit_tf (b := decide (((p1.Kind.toNat : Nat) : Int) = 1)) hc22_7)) ?_
      refine AWP.skip ?_
      refine Then.normal ?_
      refine Amk 136 17 ⟨(tp 3 ((.loc 0 0) :: (tp 3 ((.own 4) :: (tp 45 []))))), [(.box [(.d (byteD p1.Kind)), (.d (.lit (.int .i64 p1.N))), (.d (.lit (.int .u64 p1.Bits))), (.d (.lit (.string (toS p1.Text))))]), .gone, .gone, .gone, (.arr 5 1 (List.length a19_1) (flatD encU8 a19_1))], 0⟩ ?_
      refine AWP.seq ?_
      refine AWP.seq ?_
      refine AWP.text ?_
      refine Wy (.loc 0 0) [] (Ofa rfl) ?_
      refine Wy (.d (byteD p1.Kind)) [] (Old rfl) ?_
      refine Wy (.d (.lit (.bool (decide (((p1.Kind.toNat : Nat) : Int) = 2))))) [] (Ocs (by kernel_rfl) (op_bin rfl (a1 := .int .u8 ((p1.Kind.toNat : Nat) : Int)) (a2 := .int .u8 2) (by kernel_rfl) (by kernel_rfl) (fun _ => hb_eql))) ?_
      refine Walk.nil ?_
      refine Then.normal ?_
      refine Amk 1073741960 17 ⟨(tp 3 ((.loc 0 0) :: (tp 3 ((.own 4) :: (tp 22 ((.d (.lit (.bool (decide (((p1.Kind.toNat : Nat) : Int) = 2))))) :: (tp 22 []))))))), [(.box [(.d (byteD p1.Kind)), (.d (.lit (.int .i64 p1.N))), (.d (.lit (.int .u64 p1.Bits))), (.d (.lit (.string (toS p1.Text))))]), .gone, .gone, .gone, (.arr 5 1 (List.length a19_1) (flatD encU8 a19_1))], 0⟩ ?_
      rcases tf_ (decide (((p1.Kind.toNat : Nat) : Int) = 2)) with hc30_8 | hc30_8
      · replace hm := cT hc30_8 hm
        refine AWP.if_ true (Eq.trans (by kernel_rfl) (lit_tf (b := decide (((p1.Kind.toNat : Nat) : Int) = 2)) hc30_8)) ?_
        refine AWP.seq ?_
        refine AWP.text ?_
        refine Wy (.own 4) [] (Omv rfl) ?_
        refine Wy (.loc 0 1) [] (Ofa rfl) ?_
        refine Wy (.d (.lit (.int .i64 p1.N))) [] (Old rfl) ?_
        refine Wy (.d (byteD (toU8 p1.N))) [] (Ocs (lit_int (u8w _)) (op_convert rfl (a1 := .int .i64 p1.N) (by kernel_rfl) (run_conv (ds := .int .i64) (k' := .u8) (by kernel_rfl) (by kernel_rfl)))) ?_
        refine Wy (.own 5) [(5, (.arr 5 1 (List.length ([(toU8 p1.N)] : List UInt8)) (flatD encU8 ([(toU8 p1.N)] : List UInt8))))] (Obs rfl) ?_
        obtain ⟨a36_3, ha36_3, hm⟩ := bnd hm; obtain ⟨ha36_3e, ha36_3l⟩ := app_some ha36_3
        refine Wy (.own 6) [(4, .gone), (6, (.arr 5 1 (List.length a36_3) (flatD encU8 a36_3)))] (Oap rfl elemOK_25 encU8_len ha36_3e ha36_3l) ?_
        refine Wy (.own 6) [] (Omv rfl) ?_
        refine Wy (.d (.lit (.int .i64 0))) [] (Omv rfl) ?_
        refine Walk.nil ?_
        refine Then.normal ?_
        refine AWP.ret ?_
        refine Then.ret ?_
        obtain rfl := Option.some.inj hm
        exact ret_i [6]
      · replace hm := cF hc30_8 hm
        refine AWP.if_ false (Eq.trans (by kernel_rfl) (lit_tf (b := decide (((p1.Kind.toNat : Nat) : Int) = 2)) hc30_8)) ?_
        refine AWP.skip ?_
        refine Then.normal ?_
        refine Amk 136 17 ⟨(tp 3 ((.loc 0 0) :: (tp 3 ((.own 4) :: (tp 45 []))))), [(.box [(.d (byteD p1.Kind)), (.d (.lit (.int .i64 p1.N))), (.d (.lit (.int .u64 p1.Bits))), (.d (.lit (.string (toS p1.Text))))]), .gone, .gone, .gone, (.arr 5 1 (List.length a19_1) (flatD encU8 a19_1))], 0⟩ ?_
        refine AWP.seq ?_
        refine AWP.seq ?_
        refine AWP.text ?_
        refine Wy (.loc 0 0) [] (Ofa rfl) ?_
        refine Wy (.d (byteD p1.Kind)) [] (Old rfl) ?_
        refine Wy (.d (.lit (.bool (decide (((p1.Kind.toNat : Nat) : Int) = 3))))) [] (Ocs (by kernel_rfl) (op_bin rfl (a1 := .int .u8 ((p1.Kind.toNat : Nat) : Int)) (a2 := .int .u8 3) (by kernel_rfl) (by kernel_rfl) (fun _ => hb_eql))) ?_
        refine Walk.nil ?_
        refine Then.normal ?_
        refine Amk 549755814024 17 ⟨(tp 3 ((.loc 0 0) :: (tp 3 ((.own 4) :: (tp 31 ((.d (.lit (.bool (decide (((p1.Kind.toNat : Nat) : Int) = 3))))) :: (tp 13 []))))))), [(.box [(.d (byteD p1.Kind)), (.d (.lit (.int .i64 p1.N))), (.d (.lit (.int .u64 p1.Bits))), (.d (.lit (.string (toS p1.Text))))]), .gone, .gone, .gone, (.arr 5 1 (List.length a19_1) (flatD encU8 a19_1))], 0⟩ ?_
        rcases tf_ (decide (((p1.Kind.toNat : Nat) : Int) = 3)) with hc39_9 | hc39_9
        · replace hm := cT hc39_9 hm
          refine AWP.if_ true (Eq.trans (by kernel_rfl) (lit_tf (b := decide (((p1.Kind.toNat : Nat) : Int) = 3)) hc39_9)) ?_
          refine AWP.seq ?_
          refine AWP.text ?_
          refine Wy (.own 4) [] (Omv rfl) ?_
          refine Wy (.loc 0 2) [] (Ofa rfl) ?_
          refine Wy (.d (.lit (.int .u64 p1.Bits))) [] (Old rfl) ?_
          obtain ⟨r43_4, hr43_4, hm⟩ := bnd hm
          refine Wy (.own 5) [(5, (.arr 5 1 (List.length r43_4) (flatD encU8 r43_4)))] (Ocp [] [5] [4] 0 (ok_telltaleref01_Word a19_1 p1.Bits r43_4 hr43_4) (⟨by simp [A.Plain, A.Plains, D.Plain, byteD], plain_cons (flat_plain encU8_plain) (plain_nil)⟩) (fun a w => Try.call33 a w) rfl trivial) ?_
          refine Wy (.own 5) [] (Omv rfl) ?_
          refine Wy (.d (.lit (.int .i64 0))) [] (Omv rfl) ?_
          refine Walk.nil ?_
          refine Then.normal ?_
          refine AWP.ret ?_
          refine Then.ret ?_
          obtain rfl := Option.some.inj hm
          exact ret_i [5]
        · replace hm := cF hc39_9 hm
          refine AWP.if_ false (Eq.trans (by kernel_rfl) (lit_tf (b := decide (((p1.Kind.toNat : Nat) : Int) = 3)) hc39_9)) ?_
          refine AWP.skip ?_
          refine Then.normal ?_
          refine Amk 136 17 ⟨(tp 3 ((.loc 0 0) :: (tp 3 ((.own 4) :: (tp 45 []))))), [(.box [(.d (byteD p1.Kind)), (.d (.lit (.int .i64 p1.N))), (.d (.lit (.int .u64 p1.Bits))), (.d (.lit (.string (toS p1.Text))))]), .gone, .gone, .gone, (.arr 5 1 (List.length a19_1) (flatD encU8 a19_1))], 0⟩ ?_
          refine AWP.seq ?_
          refine Adr ?_
          refine Wy (.own 4) [] (Omv rfl) ?_
          refine Wy (.loc 0 3) [] (Ofa rfl) ?_
          refine Wy (.d (.lit (.string (toS p1.Text)))) [] (Old rfl) ?_
          refine Wy (.d (.lit (.int .i64 ((List.length p1.Text : Nat) : Int)))) [] (Oln rfl) ?_
          refine Wy (.d (.lit (.int .u64 (IntKind.u64.wrap ((List.length p1.Text : Nat) : Int))))) [] (Ocs (by kernel_rfl) (op_convert rfl (a1 := .int .i64 ((List.length p1.Text : Nat) : Int)) (by kernel_rfl) (run_conv (ds := .int .i64) (k' := .u64) (by kernel_rfl) (by kernel_rfl)))) ?_
          obtain ⟨r49_5, hr49_5, hm⟩ := bnd hm
          refine Wy (.own 5) [(5, (.arr 5 1 (List.length r49_5) (flatD encU8 r49_5)))] (Ocp [] [5] [4] 0 (ok_telltaleref02_Put a19_1 (IntKind.u64.wrap ((List.length p1.Text : Nat) : Int)) r49_5 hr49_5) (⟨by simp [A.Plain, A.Plains, D.Plain, byteD], plain_cons (flat_plain encU8_plain) (plain_nil)⟩) (fun a w => Try.call31 a w) rfl trivial) ?_
          refine Wy (.loc 0 3) [] (Ofa rfl) ?_
          refine Wy (.d (.lit (.string (toS p1.Text)))) [] (Old rfl) ?_
          obtain ⟨a52_5, ha52_5, hm⟩ := bnd hm; obtain ⟨ha52_5e, ha52_5l⟩ := app_some ha52_5
          refine Wy (.own 6) [(5, .gone), (6, (.arr 5 1 (List.length a52_5) (flatD encU8 a52_5)))] (OcB (op_appendStr rfl elemOK_25 (by kernel_rfl) (id := 5) (by kernel_rfl) (n := List.length r49_5) (xs := flatD encU8 r49_5) (by kernel_rfl) (str := toS p1.Text) (by kernel_rfl) (app_str ha52_5l) (by kernel_rfl) (by decide)) (bl_app (by rw [ha52_5e, List.length_append]; rfl) (by rw [ha52_5e, flatD_append, flatU8 p1.Text]; rfl))) ?_
          refine Wy (.own 6) [] (Omv rfl) ?_
          refine Wy (.d (.lit (.int .i64 0))) [] (Omv rfl) ?_
          refine Wdr ?_
          refine Then.normal ?_
          refine AWP.ret ?_
          obtain rfl := Option.some.inj hm
          exact ret_i [6]
end Go.Proofs.Ytgocnknbiipcfaa.K
