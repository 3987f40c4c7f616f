/- each function computes what its model says (9) -/
import Derived.Test.YtgocnknbiipcfaaL8
namespace Go.Proofs.Ytgocnknbiipcfaa.K
open Go.RowKit Go.Lib
set_option linter.unusedVariables false
set_option linter.unusedSimpArgs false

set_option maxRecDepth 20000 in
set_option maxHeartbeats 4000000 in
theorem ok_telltaleref04_Take (p0 : (List UInt8)) (p1 : Int) (r : (GValue × Int × Int)) (h : m_telltaleref04_Take p0 p1 = some r) : GCall Try.prog 17 [(.d (.lit (.string (toS p0)))), (.d (.lit (.int .i64 p1)))] [] (.tup [(.agg [(.d (byteD r.1.Kind)), (.d (.lit (.int .i64 r.1.N))), (.d (.lit (.int .u64 r.1.Bits))), (.d (.lit (.string (toS r.1.Text))))]), (.d (.lit (.int .i64 r.2.1))), (.d (.lit (.int .i64 r.2.2)))]) [] := by
  refine GCall.of_body (n := 127) (rs := [(.cell 4 24), (.tmp 5), (.tmp 6)]) Try.func17 rfl rfl rfl ?_
  refine Ato ⟨((.d (.lit (.string (toS p0)))) :: ((.d (.lit (.int .i64 p1))) :: (tu 125 []))), [], 0⟩ ?_
  have hm := h
  unfold m_telltaleref04_Take at hm
  refine AWP.seq ?_
  refine AWP.text ?_
  refine Wy (.loc 0 0) [(0, (.box [(.d (byteD 0)), (.d (.lit (.int .i64 0))), (.d (.lit (.int .u64 0))), (.d (.lit (.string (toS ([] : List UInt8)))))]))] (Oal rfl) ?_
  refine Wy (.d (.lit (.int .i64 0))) [] (Omv rfl) ?_
  refine Wy (.d (.lit (.int .i64 0))) [] (Omv rfl) ?_
  refine Walk.nil ?_
  refine Then.normal ?_
  refine Amk 19 1 ⟨((.d (.lit (.string (toS p0)))) :: ((.d (.lit (.int .i64 p1))) :: (tp 2 ((.loc 0 0) :: (tp 122 []))))), [(.box [(.d (byteD 0)), (.d (.lit (.int .i64 0))), (.d (.lit (.int .u64 0))), (.d (.lit (.string (toS ([] : List UInt8)))))])], 0⟩ ?_
  refine AWP.seq ?_
  refine AWP.seq ?_
  refine AWP.text ?_
  refine Wy (.d (.lit (.int .i64 p1))) [] (Omv rfl) ?_
  refine Wy (.d (.lit (.bool (decide (p1 < 0))))) [] (Obn rfl (fun _ => hb_lss (k := .i64))) ?_
  rcases tf_ (decide (p1 < 0)) with hq17_0 | hq17_0
  · replace hm := cT hq17_0 hm
    refine Wy (.d (.lit (.bool true))) [] (Ocs (lit_tf (b := decide (p1 < 0)) hq17_0) (Omv rfl)) ?_
    refine Wn ?_
    refine Wn ?_
    refine Wn ?_
    refine Wn ?_
    refine Wy (.d (.lit (.bool true))) [] (OpT rfl) ?_
    refine Walk.nil ?_
    refine Then.normal ?_
    refine Amk 4194323 1 ⟨((.d (.lit (.string (toS p0)))) :: ((.d (.lit (.int .i64 p1))) :: (tp 2 ((.loc 0 0) :: (tp 17 ((.d (.lit (.bool true))) :: (tp 104 []))))))), [(.box [(.d (byteD 0)), (.d (.lit (.int .i64 0))), (.d (.lit (.int .u64 0))), (.d (.lit (.string (toS ([] : List UInt8)))))])], 0⟩ ?_
    refine AWP.if_ true (by kernel_rfl) ?_
    refine AWP.seq ?_
    refine AWP.text ?_
    refine Wy (.agg [(.d (byteD 0)), (.d (.lit (.int .i64 0))), (.d (.lit (.int .u64 0))), (.d (.lit (.string (toS ([] : List UInt8)))))]) [] (Obd rfl) ?_
    refine Wy (.tup []) [(0, (.box [(.d (byteD 0)), (.d (.lit (.int .i64 0))), (.d (.lit (.int .u64 0))), (.d (.lit (.string (toS ([] : List UInt8)))))]))] (Ost rfl) ?_
    refine Wy (.d (.lit (.int .i64 0))) [] (Omv rfl) ?_
    refine Wy (.d (.lit (.int .i64 2))) [] (Omv rfl) ?_
    refine Walk.nil ?_
    refine Then.normal ?_
    refine AWP.ret ?_
    refine Then.ret ?_
    obtain rfl := Option.some.inj hm
    exact ret_i []
  · replace hm := cF hq17_0 hm
    refine Wy (.d (.lit (.bool false))) [] (Ocs (lit_tf (b := decide (p1 < 0)) hq17_0) (Omv rfl)) ?_
    refine Wy (.d (.lit (.int .i64 p1))) [] (Omv rfl) ?_
    refine Wy (.d (.lit (.string (toS p0)))) [] (Omv rfl) ?_
    refine Wy (.d (.lit (.int .i64 ((List.length p0 : Nat) : Int)))) [] (Oln rfl) ?_
    refine Wy (.d (.lit (.bool (decide (((List.length p0 : Nat) : Int) < p1))))) [] (Obn rfl (fun _ => hb_gtr (k := .i64))) ?_
    refine Wy (.d (.lit (.bool (decide (((List.length p0 : Nat) : Int) < p1))))) [] (OpF rfl) ?_
    refine Walk.nil ?_
    refine Then.normal ?_
    refine Amk 4194323 1 ⟨((.d (.lit (.string (toS p0)))) :: ((.d (.lit (.int .i64 p1))) :: (tp 2 ((.loc 0 0) :: (tp 17 ((.d (.lit (.bool (decide (((List.length p0 : Nat) : Int) < p1))))) :: (tp 104 []))))))), [(.box [(.d (byteD 0)), (.d (.lit (.int .i64 0))), (.d (.lit (.int .u64 0))), (.d (.lit (.string (toS ([] : List UInt8)))))])], 0⟩ ?_
    rcases tf_ (decide (((List.length p0 : Nat) : Int) < p1)) with hc22_14 | hc22_14
    · replace hm := cT hc22_14 hm
      refine AWP.if_ true (Eq.trans (by kernel_rfl) (lit_tf (b := decide (((List.length p0 : Nat) : Int) < p1)) hc22_14)) ?_
      refine AWP.seq ?_
      refine AWP.text ?_
      refine Wy (.agg [(.d (byteD 0)), (.d (.lit (.int .i64 0))), (.d (.lit (.int .u64 0))), (.d (.lit (.string (toS ([] : List UInt8)))))]) [] (Obd rfl) ?_
      refine Wy (.tup []) [(0, (.box [(.d (byteD 0)), (.d (.lit (.int .i64 0))), (.d (.lit (.int .u64 0))), (.d (.lit (.string (toS ([] : List UInt8)))))]))] (Ost rfl) ?_
      refine Wy (.d (.lit (.int .i64 0))) [] (Omv rfl) ?_
      refine Wy (.d (.lit (.int .i64 2))) [] (Omv rfl) ?_
      refine Walk.nil ?_
      refine Then.normal ?_
      refine AWP.ret ?_
      refine Then.ret ?_
      obtain rfl := Option.some.inj hm
      exact ret_i []
    · replace hm := cF hc22_14 hm
      refine AWP.if_ false (Eq.trans (by kernel_rfl) (lit_tf (b := decide (((List.length p0 : Nat) : Int) < p1)) hc22_14)) ?_
      refine AWP.skip ?_
      refine Then.normal ?_
      refine Amk 19 1 ⟨((.d (.lit (.string (toS p0)))) :: ((.d (.lit (.int .i64 p1))) :: (tp 2 ((.loc 0 0) :: (tp 122 []))))), [(.box [(.d (byteD 0)), (.d (.lit (.int .i64 0))), (.d (.lit (.int .u64 0))), (.d (.lit (.string (toS ([] : List UInt8)))))])], 0⟩ ?_
      refine AWP.seq ?_
      refine AWP.seq ?_
      refine AWP.text ?_
      refine Wy (.d (.lit (.int .i64 p1))) [] (Omv rfl) ?_
      refine Wy (.d (.lit (.string (toS p0)))) [] (Omv rfl) ?_
      refine Wy (.d (.lit (.int .i64 ((List.length p0 : Nat) : Int)))) [] (Oln rfl) ?_
      refine Wy (.d (.lit (.bool (decide (p1 = ((List.length p0 : Nat) : Int)))))) [] (Obn rfl (fun _ => hb_eql (k := .i64))) ?_
      refine Walk.nil ?_
      refine Then.normal ?_
      refine Amk 134217747 1 ⟨((.d (.lit (.string (toS p0)))) :: ((.d (.lit (.int .i64 p1))) :: (tp 2 ((.loc 0 0) :: (tp 22 ((.d (.lit (.bool (decide (p1 = ((List.length p0 : Nat) : Int)))))) :: (tp 99 []))))))), [(.box [(.d (byteD 0)), (.d (.lit (.int .i64 0))), (.d (.lit (.int .u64 0))), (.d (.lit (.string (toS ([] : List UInt8)))))])], 0⟩ ?_
      rcases tf_ (decide (p1 = ((List.length p0 : Nat) : Int))) with hc27_15 | hc27_15
      · replace hm := cT hc27_15 hm
        refine AWP.if_ true (Eq.trans (by kernel_rfl) (lit_tf (b := decide (p1 = ((List.length p0 : Nat) : Int))) hc27_15)) ?_
        refine AWP.seq ?_
        refine AWP.text ?_
        refine Wy (.agg [(.d (byteD 0)), (.d (.lit (.int .i64 0))), (.d (.lit (.int .u64 0))), (.d (.lit (.string (toS ([] : List UInt8)))))]) [] (Obd rfl) ?_
        refine Wy (.tup []) [(0, (.box [(.d (byteD 0)), (.d (.lit (.int .i64 0))), (.d (.lit (.int .u64 0))), (.d (.lit (.string (toS ([] : List UInt8)))))]))] (Ost rfl) ?_
        refine Wy (.d (.lit (.int .i64 0))) [] (Omv rfl) ?_
        refine Wy (.d (.lit (.int .i64 3))) [] (Omv rfl) ?_
        refine Walk.nil ?_
        refine Then.normal ?_
        refine AWP.ret ?_
        refine Then.ret ?_
        obtain rfl := Option.some.inj hm
        exact ret_i []
      · replace hm := cF hc27_15 hm
        refine AWP.if_ false (Eq.trans (by kernel_rfl) (lit_tf (b := decide (p1 = ((List.length p0 : Nat) : Int))) hc27_15)) ?_
        refine AWP.skip ?_
        refine Then.normal ?_
        refine Amk 19 1 ⟨((.d (.lit (.string (toS p0)))) :: ((.d (.lit (.int .i64 p1))) :: (tp 2 ((.loc 0 0) :: (tp 122 []))))), [(.box [(.d (byteD 0)), (.d (.lit (.int .i64 0))), (.d (.lit (.int .u64 0))), (.d (.lit (.string (toS ([] : List UInt8)))))])], 0⟩ ?_
        refine AWP.seq ?_
        refine AWP.text ?_
        refine Wy (.d (.lit (.string (toS p0)))) [] (Omv rfl) ?_
        refine Wy (.d (.lit (.int .i64 p1))) [] (Omv rfl) ?_
        obtain ⟨x31_2, hx31_2, hm⟩ := bnd hm
        obtain ⟨hx31_2i, hx31_2g⟩ := geti_some hx31_2
        refine Wy (.d (byteD x31_2)) [] (Ocs (by kernel_rfl) (op_index_str rfl (by kernel_rfl) (s := toS p0) (by kernel_rfl) (k := .i64) (iv := p1) (by kernel_rfl) (i := (Int.toNat p1)) (hx31_2i) (b := x31_2) (hx31_2g))) ?_
        refine Wy (.agg [(.d (byteD x31_2)), (.d (.lit (.int .i64 0))), (.d (.lit (.int .u64 0))), (.d (.lit (.string (toS ([] : List UInt8)))))]) [] (Obd rfl) ?_
        refine Wy (.loc 1 0) [(1, (.box [(.d (byteD 0)), (.d (.lit (.int .i64 0))), (.d (.lit (.int .u64 0))), (.d (.lit (.string (toS ([] : List UInt8)))))]))] (Oal rfl) ?_
        refine Wy (.tup []) [(1, (.box [(.d (byteD x31_2)), (.d (.lit (.int .i64 0))), (.d (.lit (.int .u64 0))), (.d (.lit (.string (toS ([] : List UInt8)))))]))] (Ost rfl) ?_
        refine Walk.nil ?_
        refine Then.normal ?_
        refine Amk 147 3 ⟨((.d (.lit (.string (toS p0)))) :: ((.d (.lit (.int .i64 p1))) :: (tp 2 ((.loc 0 0) :: (tp 2 ((.loc 1 0) :: (tp 119 []))))))), [(.box [(.d (byteD 0)), (.d (.lit (.int .i64 0))), (.d (.lit (.int .u64 0))), (.d (.lit (.string (toS ([] : List UInt8)))))]), (.box [(.d (byteD x31_2)), (.d (.lit (.int .i64 0))), (.d (.lit (.int .u64 0))), (.d (.lit (.string (toS ([] : List UInt8)))))])], 0⟩ ?_
        refine AWP.seq ?_
        refine AWP.seq ?_
        refine AWP.text ?_
        refine Wy (.loc 1 0) [] (Ofa rfl) ?_
        refine Wy (.d (byteD x31_2)) [] (Old rfl) ?_
        refine Wy (.d (.lit (.bool (decide (((x31_2.toNat : Nat) : Int) < 1))))) [] (Ocs (by kernel_rfl) (op_bin rfl (a1 := .int .u8 ((x31_2.toNat : Nat) : Int)) (a2 := .int .u8 1) (by kernel_rfl) (by kernel_rfl) (fun _ => hb_lss))) ?_
        rcases tf_ (decide (((x31_2.toNat : Nat) : Int) < 1)) with hq36_3 | hq36_3
        · replace hm := cT hq36_3 hm
          refine Wy (.d (.lit (.bool true))) [] (Ocs (lit_tf (b := decide (((x31_2.toNat : Nat) : Int) < 1)) hq36_3) (Omv rfl)) ?_
          refine Wn ?_
          refine Wn ?_
          refine Wn ?_
          refine Wy (.d (.lit (.bool true))) [] (OpT rfl) ?_
          refine Walk.nil ?_
          refine Then.normal ?_
          refine Amk 1099511627923 3 ⟨((.d (.lit (.string (toS p0)))) :: ((.d (.lit (.int .i64 p1))) :: (tp 2 ((.loc 0 0) :: (tp 2 ((.loc 1 0) :: (tp 32 ((.d (.lit (.bool true))) :: (tp 86 []))))))))), [(.box [(.d (byteD 0)), (.d (.lit (.int .i64 0))), (.d (.lit (.int .u64 0))), (.d (.lit (.string (toS ([] : List UInt8)))))]), (.box [(.d (byteD x31_2)), (.d (.lit (.int .i64 0))), (.d (.lit (.int .u64 0))), (.d (.lit (.string (toS ([] : List UInt8)))))])], 0⟩ ?_
          refine AWP.if_ true (by kernel_rfl) ?_
          refine AWP.seq ?_
          refine AWP.text ?_
          refine Wy (.agg [(.d (byteD 0)), (.d (.lit (.int .i64 0))), (.d (.lit (.int .u64 0))), (.d (.lit (.string (toS ([] : List UInt8)))))]) [] (Obd rfl) ?_
          refine Wy (.tup []) [(0, (.box [(.d (byteD 0)), (.d (.lit (.int .i64 0))), (.d (.lit (.int .u64 0))), (.d (.lit (.string (toS ([] : List UInt8)))))]))] (Ost rfl) ?_
          refine Wy (.d (.lit (.int .i64 0))) [] (Omv rfl) ?_
          refine Wy (.d (.lit (.int .i64 11))) [] (Omv rfl) ?_
          refine Walk.nil ?_
          refine Then.normal ?_
          refine AWP.ret ?_
          refine Then.ret ?_
          obtain rfl := Option.some.inj hm
          exact ret_i []
        · replace hm := cF hq36_3 hm
          refine Wy (.d (.lit (.bool false))) [] (Ocs (lit_tf (b := decide (((x31_2.toNat : Nat) : Int) < 1)) hq36_3) (Omv rfl)) ?_
          refine Wy (.loc 1 0) [] (Ofa rfl) ?_
          refine Wy (.d (byteD x31_2)) [] (Old rfl) ?_
          refine Wy (.d (.lit (.bool (decide ((4 : Int) < ((x31_2.toNat : Nat) : Int)))))) [] (Ocs (by kernel_rfl) (op_bin rfl (a1 := .int .u8 ((x31_2.toNat : Nat) : Int)) (a2 := .int .u8 4) (by kernel_rfl) (by kernel_rfl) (fun _ => hb_gtr))) ?_
          refine Wy (.d (.lit (.bool (decide ((4 : Int) < ((x31_2.toNat : Nat) : Int)))))) [] (OpF rfl) ?_
          refine Walk.nil ?_
          refine Then.normal ?_
          refine Amk 1099511627923 3 ⟨((.d (.lit (.string (toS p0)))) :: ((.d (.lit (.int .i64 p1))) :: (tp 2 ((.loc 0 0) :: (tp 2 ((.loc 1 0) :: (tp 32 ((.d (.lit (.bool (decide ((4 : Int) < ((x31_2.toNat : Nat) : Int)))))) :: (tp 86 []))))))))), [(.box [(.d (byteD 0)), (.d (.lit (.int .i64 0))), (.d (.lit (.int .u64 0))), (.d (.lit (.string (toS ([] : List UInt8)))))]), (.box [(.d (byteD x31_2)), (.d (.lit (.int .i64 0))), (.d (.lit (.int .u64 0))), (.d (.lit (.string (toS ([] : List UInt8)))))])], 0⟩ ?_
          rcases tf_ (decide ((4 : Int) < ((x31_2.toNat : Nat) : Int))) with hc40_16 | hc40_16
          · replace hm := cT hc40_16 hm
            refine AWP.if_ true (Eq.trans (by kernel_rfl) (lit_tf (b := decide ((4 : Int) < ((x31_2.toNat : Nat) : Int))) hc40_16)) ?_
            refine AWP.seq ?_
            refine AWP.text ?_
            refine Wy (.agg [(.d (byteD 0)), (.d (.lit (.int .i64 0))), (.d (.lit (.int .u64 0))), (.d (.lit (.string (toS ([] : List UInt8)))))]) [] (Obd rfl) ?_
            refine Wy (.tup []) [(0, (.box [(.d (byteD 0)), (.d (.lit (.int .i64 0))), (.d (.lit (.int .u64 0))), (.d (.lit (.string (toS ([] : List UInt8)))))]))] (Ost rfl) ?_
            refine Wy (.d (.lit (.int .i64 0))) [] (Omv rfl) ?_
            refine Wy (.d (.lit (.int .i64 11))) [] (Omv rfl) ?_
            refine Walk.nil ?_
            refine Then.normal ?_
            refine AWP.ret ?_
            refine Then.ret ?_
            obtain rfl := Option.some.inj hm
            exact ret_i []
          · replace hm := cF hc40_16 hm
            refine AWP.if_ false (Eq.trans (by kernel_rfl) (lit_tf (b := decide ((4 : Int) < ((x31_2.toNat : Nat) : Int))) hc40_16)) ?_
            refine AWP.skip ?_
            refine Then.normal ?_
            refine Amk 147 3 ⟨((.d (.lit (.string (toS p0)))) :: ((.d (.lit (.int .i64 p1))) :: (tp 2 ((.loc 0 0) :: (tp 2 ((.loc 1 0) :: (tp 119 []))))))), [(.box [(.d (byteD 0)), (.d (.lit (.int .i64 0))), (.d (.lit (.int .u64 0))), (.d (.lit (.string (toS ([] : List UInt8)))))]), (.box [(.d (byteD x31_2)), (.d (.lit (.int .i64 0))), (.d (.lit (.int .u64 0))), (.d (.lit (.string (toS ([] : List UInt8)))))])], 0⟩ ?_
            refine AWP.seq ?_
            refine AWP.text ?_
            refine Wy (.d (.lit (.int .i64 p1))) [] (Omv rfl) ?_
            refine Wy (.d (.lit (.int .i64 (IntKind.i64.wrap (p1 + 1))))) [] (Obn rfl (fun _ => hb_add (k := .i64))) ?_
            refine Wy (.d (.lit (.int .i64 (IntKind.i64.wrap (p1 + 1))))) [] (Omv rfl) ?_
            refine Walk.nil ?_
            refine Then.normal ?_
            refine Amk 401 3 ⟨((.d (.lit (.string (toS p0)))) :: (tp 3 ((.loc 0 0) :: (tp 2 ((.loc 1 0) :: ((.d (.lit (.int .i64 (IntKind.i64.wrap (p1 + 1))))) :: (tp 118 []))))))), [(.box [(.d (byteD 0)), (.d (.lit (.int .i64 0))), (.d (.lit (.int .u64 0))), (.d (.lit (.string (toS ([] : List UInt8)))))]), (.box [(.d (byteD x31_2)), (.d (.lit (.int .i64 0))), (.d (.lit (.int .u64 0))), (.d (.lit (.string (toS ([] : List UInt8)))))])], 0⟩ ?_
            refine AWP.cutJ (α := GValue × Int) (fun x => match x with | (y7_d_12, y8_12) => (⟨(tp 4 ((.loc 0 0) :: (tp 2 ((.loc 1 0) :: ((.d (.lit (.int .i64 y8_12))) :: (tp 118 [])))))), [(.box [(.d (byteD 0)), (.d (.lit (.int .i64 0))), (.d (.lit (.int .u64 0))), (.d (.lit (.string (toS ([] : List UInt8)))))]), (.box [(.d (byteD y7_d_12.Kind)), (.d (.lit (.int .i64 y7_d_12.N))), (.d (.lit (.int .u64 y7_d_12.Bits))), (.d (.lit (.string (toS y7_d_12.Text))))])], 0⟩ : St)) (fun x => match x with | (y7_d_12, y8_12) => m_telltaleref04_Take_j12  y7_d_12 y8_12 = some r) ?_ (fun J12 => ?_)
            · rintro ⟨y7_d_12, y8_12⟩ hm
              try dsimp only at hm ⊢
              unfold m_telltaleref04_Take_j12 at hm
              refine AWP.seq ?_
              refine AWP.seq ?_
              refine AWP.text ?_
              refine Wy (.agg [(.d (byteD y7_d_12.Kind)), (.d (.lit (.int .i64 y7_d_12.N))), (.d (.lit (.int .u64 y7_d_12.Bits))), (.d (.lit (.string (toS y7_d_12.Text))))]) [] (Old rfl) ?_
              obtain ⟨r120_13, hr120_13, hm⟩ := bnd hm
              refine Wy (.d (.lit (.int .i64 r120_13))) [] (Ocf [] [] [] 0 (ok_telltaleref04_Check y7_d_12 r120_13 hr120_13) (fun a w => Try.call13 a w) rfl trivial) ?_
              refine Wy (.d (.lit (.int .i64 r120_13))) [] (Omv rfl) ?_
              refine Walk.nil ?_
              refine Then.normal ?_
              refine Amk 16784 3 ⟨(tp 4 ((.loc 0 0) :: (tp 2 ((.loc 1 0) :: ((.d (.lit (.int .i64 y8_12))) :: (tp 5 ((.d (.lit (.int .i64 r120_13))) :: (tp 112 [])))))))), [(.box [(.d (byteD 0)), (.d (.lit (.int .i64 0))), (.d (.lit (.int .u64 0))), (.d (.lit (.string (toS ([] : List UInt8)))))]), (.box [(.d (byteD y7_d_12.Kind)), (.d (.lit (.int .i64 y7_d_12.N))), (.d (.lit (.int .u64 y7_d_12.Bits))), (.d (.lit (.string (toS y7_d_12.Text))))])], 0⟩ ?_
              refine AWP.seq ?_
              refine AWP.text ?_
              refine Wy (.d (.lit (.int .i64 r120_13))) [] (Omv rfl) ?_
              refine Wy (.d (.lit (.bool (decide (r120_13 ≠ 0))))) [] (Obn rfl (fun _ => hb_neq (k := .i64))) ?_
              refine Walk.nil ?_
              refine Then.normal ?_
              refine Amk 5316911983139663491615228241121395088 3 ⟨(tp 4 ((.loc 0 0) :: (tp 2 ((.loc 1 0) :: ((.d (.lit (.int .i64 y8_12))) :: (tp 5 ((.d (.lit (.int .i64 r120_13))) :: (tp 107 ((.d (.lit (.bool (decide (r120_13 ≠ 0))))) :: (tp 4 [])))))))))), [(.box [(.d (byteD 0)), (.d (.lit (.int .i64 0))), (.d (.lit (.int .u64 0))), (.d (.lit (.string (toS ([] : List UInt8)))))]), (.box [(.d (byteD y7_d_12.Kind)), (.d (.lit (.int .i64 y7_d_12.N))), (.d (.lit (.int .u64 y7_d_12.Bits))), (.d (.lit (.string (toS y7_d_12.Text))))])], 0⟩ ?_
              rcases tf_ (decide (r120_13 ≠ 0)) with hc122_17 | hc122_17
              · replace hm := cT hc122_17 hm
                refine AWP.if_ true (Eq.trans (by kernel_rfl) (lit_tf (b := decide (r120_13 ≠ 0)) hc122_17)) ?_
                refine AWP.seq ?_
                refine AWP.text ?_
                refine Wy (.agg [(.d (byteD 0)), (.d (.lit (.int .i64 0))), (.d (.lit (.int .u64 0))), (.d (.lit (.string (toS ([] : List UInt8)))))]) [] (Obd rfl) ?_
                refine Wy (.d (.lit (.int .i64 r120_13))) [] (Omv rfl) ?_
                refine Wy (.tup []) [(0, (.box [(.d (byteD 0)), (.d (.lit (.int .i64 0))), (.d (.lit (.int .u64 0))), (.d (.lit (.string (toS ([] : List UInt8)))))]))] (Ost rfl) ?_
                refine Wy (.d (.lit (.int .i64 0))) [] (Omv rfl) ?_
                refine Wy (.d (.lit (.int .i64 r120_13))) [] (Omv rfl) ?_
                refine Walk.nil ?_
                refine Then.normal ?_
                refine AWP.ret ?_
                refine Then.ret ?_
                obtain rfl := Option.some.inj hm
                exact ret_i []
              · replace hm := cF hc122_17 hm
                refine AWP.if_ false (Eq.trans (by kernel_rfl) (lit_tf (b := decide (r120_13 ≠ 0)) hc122_17)) ?_
                refine AWP.skip ?_
                refine Then.normal ?_
                refine Amk 400 3 ⟨(tp 4 ((.loc 0 0) :: (tp 2 ((.loc 1 0) :: ((.d (.lit (.int .i64 y8_12))) :: (tp 118 [])))))), [(.box [(.d (byteD 0)), (.d (.lit (.int .i64 0))), (.d (.lit (.int .u64 0))), (.d (.lit (.string (toS ([] : List UInt8)))))]), (.box [(.d (byteD y7_d_12.Kind)), (.d (.lit (.int .i64 y7_d_12.N))), (.d (.lit (.int .u64 y7_d_12.Bits))), (.d (.lit (.string (toS y7_d_12.Text))))])], 0⟩ ?_
                refine AWP.seq ?_
                refine AWP.text ?_
                refine Wy (.agg [(.d (byteD y7_d_12.Kind)), (.d (.lit (.int .i64 y7_d_12.N))), (.d (.lit (.int .u64 y7_d_12.Bits))), (.d (.lit (.string (toS y7_d_12.Text))))]) [] (Old rfl) ?_
                refine Wy (.d (.lit (.int .i64 y8_12))) [] (Omv rfl) ?_
                refine Wy (.tup []) [(0, (.box [(.d (byteD y7_d_12.Kind)), (.d (.lit (.int .i64 y7_d_12.N))), (.d (.lit (.int .u64 y7_d_12.Bits))), (.d (.lit (.string (toS y7_d_12.Text))))]))] (Ost rfl) ?_
                refine Wy (.d (.lit (.int .i64 y8_12))) [] (Omv rfl) ?_
                refine Wy (.d (.lit (.int .i64 0))) [] (Omv rfl) ?_
                refine Walk.nil ?_
                refine Then.normal ?_
                refine AWP.ret ?_
                obtain rfl := Option.some.inj hm
                exact ret_i []
            refine AWP.seq ?_
            refine AWP.seq ?_
            refine AWP.text ?_
            refine Wy (.loc 1 0) [] (Ofa rfl) ?_
            refine Wy (.d (byteD x31_2)) [] (Old rfl) ?_
            refine Wy (.d (.lit (.bool (decide (((x31_2.toNat : Nat) : Int) = 2))))) [] (Ocs (by kernel_rfl) (op_bin rfl (a1 := .int .u8 ((x31_2.toNat : Nat) : Int)) (a2 := .int .u8 2) (by kernel_rfl) (by kernel_rfl) (fun _ => hb_eql))) ?_
            refine Walk.nil ?_
            refine Then.normal ?_
            refine Amk 70368744178065 3 ⟨((.d (.lit (.string (toS p0)))) :: (tp 3 ((.loc 0 0) :: (tp 2 ((.loc 1 0) :: ((.d (.lit (.int .i64 (IntKind.i64.wrap (p1 + 1))))) :: (tp 37 ((.d (.lit (.bool (decide (((x31_2.toNat : Nat) : Int) = 2))))) :: (tp 80 []))))))))), [(.box [(.d (byteD 0)), (.d (.lit (.int .i64 0))), (.d (.lit (.int .u64 0))), (.d (.lit (.string (toS ([] : List UInt8)))))]), (.box [(.d (byteD x31_2)), (.d (.lit (.int .i64 0))), (.d (.lit (.int .u64 0))), (.d (.lit (.string (toS ([] : List UInt8)))))])], 0⟩ ?_
            rcases tf_ (decide (((x31_2.toNat : Nat) : Int) = 2)) with hc46_18 | hc46_18
            · replace hm := cT hc46_18 hm
              refine AWP.if_ true (Eq.trans (by kernel_rfl) (lit_tf (b := decide (((x31_2.toNat : Nat) : Int) = 2)) hc46_18)) ?_
              refine AWP.seq ?_
              refine AWP.seq ?_
              refine AWP.text ?_
              refine Wy (.d (.lit (.int .i64 (IntKind.i64.wrap (p1 + 1))))) [] (Omv rfl) ?_
              refine Wy (.d (.lit (.string (toS p0)))) [] (Omv rfl) ?_
              refine Wy (.d (.lit (.int .i64 ((List.length p0 : Nat) : Int)))) [] (Oln rfl) ?_
              refine Wy (.d (.lit (.bool (decide ((IntKind.i64.wrap (p1 + 1)) = ((List.length p0 : Nat) : Int)))))) [] (Obn rfl (fun _ => hb_eql (k := .i64))) ?_
              refine Walk.nil ?_
              refine Then.normal ?_
              refine Amk 1125899906843025 3 ⟨((.d (.lit (.string (toS p0)))) :: (tp 3 ((.loc 0 0) :: (tp 2 ((.loc 1 0) :: ((.d (.lit (.int .i64 (IntKind.i64.wrap (p1 + 1))))) :: (tp 41 ((.d (.lit (.bool (decide ((IntKind.i64.wrap (p1 + 1)) = ((List.length p0 : Nat) : Int)))))) :: (tp 76 []))))))))), [(.box [(.d (byteD 0)), (.d (.lit (.int .i64 0))), (.d (.lit (.int .u64 0))), (.d (.lit (.string (toS ([] : List UInt8)))))]), (.box [(.d (byteD x31_2)), (.d (.lit (.int .i64 0))), (.d (.lit (.int .u64 0))), (.d (.lit (.string (toS ([] : List UInt8)))))])], 0⟩ ?_
              rcases tf_ (decide ((IntKind.i64.wrap (p1 + 1)) = ((List.length p0 : Nat) : Int))) with hc50_19 | hc50_19
              · replace hm := cT hc50_19 hm
                refine AWP.if_ true (Eq.trans (by kernel_rfl) (lit_tf (b := decide ((IntKind.i64.wrap (p1 + 1)) = ((List.length p0 : Nat) : Int))) hc50_19)) ?_
                refine AWP.seq ?_
                refine AWP.text ?_
                refine Wy (.agg [(.d (byteD 0)), (.d (.lit (.int .i64 0))), (.d (.lit (.int .u64 0))), (.d (.lit (.string (toS ([] : List UInt8)))))]) [] (Obd rfl) ?_
                refine Wy (.tup []) [(0, (.box [(.d (byteD 0)), (.d (.lit (.int .i64 0))), (.d (.lit (.int .u64 0))), (.d (.lit (.string (toS ([] : List UInt8)))))]))] (Ost rfl) ?_
                refine Wy (.d (.lit (.int .i64 0))) [] (Omv rfl) ?_
                refine Wy (.d (.lit (.int .i64 3))) [] (Omv rfl) ?_
                refine Walk.nil ?_
                refine Then.normal ?_
                refine AWP.ret ?_
                refine Then.ret ?_
                refine Then.ret ?_
                obtain rfl := Option.some.inj hm
                exact ret_i []
              · replace hm := cF hc50_19 hm
                refine AWP.if_ false (Eq.trans (by kernel_rfl) (lit_tf (b := decide ((IntKind.i64.wrap (p1 + 1)) = ((List.length p0 : Nat) : Int))) hc50_19)) ?_
                refine AWP.skip ?_
                refine Then.normal ?_
                refine Amk 401 3 ⟨((.d (.lit (.string (toS p0)))) :: (tp 3 ((.loc 0 0) :: (tp 2 ((.loc 1 0) :: ((.d (.lit (.int .i64 (IntKind.i64.wrap (p1 + 1))))) :: (tp 118 []))))))), [(.box [(.d (byteD 0)), (.d (.lit (.int .i64 0))), (.d (.lit (.int .u64 0))), (.d (.lit (.string (toS ([] : List UInt8)))))]), (.box [(.d (byteD x31_2)), (.d (.lit (.int .i64 0))), (.d (.lit (.int .u64 0))), (.d (.lit (.string (toS ([] : List UInt8)))))])], 0⟩ ?_
                refine AWP.seq ?_
                refine AWP.text ?_
                refine Wy (.d (.lit (.string (toS p0)))) [] (Omv rfl) ?_
                refine Wy (.d (.lit (.int .i64 (IntKind.i64.wrap (p1 + 1))))) [] (Omv rfl) ?_
                obtain ⟨x54_5, hx54_5, hm⟩ := bnd hm
                obtain ⟨hx54_5i, hx54_5g⟩ := geti_some hx54_5
                refine Wy (.d (byteD x54_5)) [] (Ocs (by kernel_rfl) (op_index_str rfl (by kernel_rfl) (s := toS p0) (by kernel_rfl) (k := .i64) (iv := (IntKind.i64.wrap (p1 + 1))) (by kernel_rfl) (i := (Int.toNat (IntKind.i64.wrap (p1 + 1)))) (hx54_5i) (b := x54_5) (hx54_5g))) ?_
                refine Wy (.d (.lit (.int .i64 ((x54_5.toNat : Nat) : Int)))) [] (Ocs (lit_int (wrap_of_u8 (by decide) _)) (op_convert rfl (a1 := .int .u8 ((x54_5.toNat : Nat) : Int)) (by kernel_rfl) (run_conv (ds := .int .u8) (k' := .i64) (by kernel_rfl) (by kernel_rfl)))) ?_
                refine Wy (.loc 1 1) [] (Ofa rfl) ?_
                refine Wy (.tup []) [(1, (.box [(.d (byteD x31_2)), (.d (.lit (.int .i64 ((x54_5.toNat : Nat) : Int)))), (.d (.lit (.int .u64 0))), (.d (.lit (.string (toS ([] : List UInt8)))))]))] (Ost rfl) ?_
                refine Walk.nil ?_
                refine Then.normal ?_
                refine Amk 400 3 ⟨(tp 4 ((.loc 0 0) :: (tp 2 ((.loc 1 0) :: ((.d (.lit (.int .i64 (IntKind.i64.wrap (p1 + 1))))) :: (tp 118 [])))))), [(.box [(.d (byteD 0)), (.d (.lit (.int .i64 0))), (.d (.lit (.int .u64 0))), (.d (.lit (.string (toS ([] : List UInt8)))))]), (.box [(.d (byteD x31_2)), (.d (.lit (.int .i64 ((x54_5.toNat : Nat) : Int)))), (.d (.lit (.int .u64 0))), (.d (.lit (.string (toS ([] : List UInt8)))))])], 0⟩ ?_
                refine AWP.text ?_
                refine Wy (.d (.lit (.int .i64 (IntKind.i64.wrap (p1 + 1))))) [] (Omv rfl) ?_
                refine Wy (.d (.lit (.int .i64 (IntKind.i64.wrap ((IntKind.i64.wrap (p1 + 1)) + 1))))) [] (Obn rfl (fun _ => hb_add (k := .i64))) ?_
                refine Wy (.d (.lit (.int .i64 (IntKind.i64.wrap ((IntKind.i64.wrap (p1 + 1)) + 1))))) [] (Omv rfl) ?_
                refine Walk.nil ?_
                refine Then.normal ?_
                exact AWP.weak (Weak.toK 400 0 0 [0, 1]) (J12 ((GValue.mk x31_2 ((x54_5.toNat : Nat) : Int) 0 ([] : List UInt8)), (IntKind.i64.wrap ((IntKind.i64.wrap (p1 + 1)) + 1))) hm)
            · replace hm := cF hc46_18 hm
              refine AWP.if_ false (Eq.trans (by kernel_rfl) (lit_tf (b := decide (((x31_2.toNat : Nat) : Int) = 2)) hc46_18)) ?_
              refine AWP.seq ?_
              refine AWP.text ?_
              refine Wy (.loc 1 0) [] (Ofa rfl) ?_
              refine Wy (.d (byteD x31_2)) [] (Old rfl) ?_
              refine Wy (.d (.lit (.bool (decide (((x31_2.toNat : Nat) : Int) = 3))))) [] (Ocs (by kernel_rfl) (op_bin rfl (a1 := .int .u8 ((x31_2.toNat : Nat) : Int)) (a2 := .int .u8 3) (by kernel_rfl) (by kernel_rfl) (fun _ => hb_eql))) ?_
              refine Walk.nil ?_
              refine Then.normal ?_
              refine Amk 2305843009213694353 3 ⟨((.d (.lit (.string (toS p0)))) :: (tp 3 ((.loc 0 0) :: (tp 2 ((.loc 1 0) :: ((.d (.lit (.int .i64 (IntKind.i64.wrap (p1 + 1))))) :: (tp 52 ((.d (.lit (.bool (decide (((x31_2.toNat : Nat) : Int) = 3))))) :: (tp 65 []))))))))), [(.box [(.d (byteD 0)), (.d (.lit (.int .i64 0))), (.d (.lit (.int .u64 0))), (.d (.lit (.string (toS ([] : List UInt8)))))]), (.box [(.d (byteD x31_2)), (.d (.lit (.int .i64 0))), (.d (.lit (.int .u64 0))), (.d (.lit (.string (toS ([] : List UInt8)))))])], 0⟩ ?_
              rcases tf_ (decide (((x31_2.toNat : Nat) : Int) = 3)) with hc61_20 | hc61_20
              · replace hm := cT hc61_20 hm
                refine AWP.if_ true (Eq.trans (by kernel_rfl) (lit_tf (b := decide (((x31_2.toNat : Nat) : Int) = 3)) hc61_20)) ?_
                refine AWP.seq ?_
                refine AWP.text ?_
                refine Wy (.d (.lit (.string (toS p0)))) [] (Omv rfl) ?_
                refine Wy (.d (.lit (.int .i64 (IntKind.i64.wrap (p1 + 1))))) [] (Omv rfl) ?_
                obtain ⟨s65_6, hs65_6, hm⟩ := bnd hm; obtain ⟨hs65_6a, hs65_6b, hs65_6c, hs65_6d, hs65_6e⟩ := cut_some hs65_6
                refine Wy (.d (.lit (.string (toS s65_6)))) [] (Ocs (lit_str (toS_cut hs65_6e)) (op_slice_str rfl (by kernel_rfl) (s := toS p0) (by kernel_rfl) (l := (Int.toNat (IntKind.i64.wrap (p1 + 1)))) (h := (Int.toNat ((List.length p0 : Nat) : Int))) (⟨.i64, (IntKind.i64.wrap (p1 + 1)), by kernel_rfl, hs65_6a⟩) (by exact rfl) hs65_6c hs65_6d)) ?_
                obtain ⟨r66_6, hr66_6, hm⟩ := bnd hm
                refine Wy (.agg [(.d (.lit (.string (toS r66_6.Text)))), (.d (.lit (.int .i64 r66_6.At))), (.d (.lit (.int .i64 r66_6.E)))]) [] (Ocf [] [] [] 0 (ok_telltaleref01_Open s65_6 r66_6 hr66_6) (fun a w => Try.call45 a w) rfl trivial) ?_
                obtain ⟨r67_6, hr67_6, hm⟩ := bnd hm
                refine Wy (.tup [(.agg [(.d (.lit (.string (toS r67_6.1.Text)))), (.d (.lit (.int .i64 r67_6.1.At))), (.d (.lit (.int .i64 r67_6.1.E)))]), (.d (.lit (.int .u64 r67_6.2)))]) [] (Ocf [] [] [] 0 (ok_telltaleref01_RWord r66_6 r67_6 hr67_6) (fun a w => Try.call44 a w) rfl trivial) ?_
                refine Wy (.tup [(.agg [(.d (.lit (.string (toS r67_6.1.Text)))), (.d (.lit (.int .i64 r67_6.1.At))), (.d (.lit (.int .i64 r67_6.1.E)))]), (.d (.lit (.int .u64 r67_6.2)))]) [] (Omv rfl) ?_
                refine Wy (.agg [(.d (.lit (.string (toS r67_6.1.Text)))), (.d (.lit (.int .i64 r67_6.1.At))), (.d (.lit (.int .i64 r67_6.1.E)))]) [] (Oex rfl) ?_
                refine Wy (.d (.lit (.int .u64 r67_6.2))) [] (Oex rfl) ?_
                refine Wy (.loc 2 0) [(2, (.box [(.d (.lit (.string (toS ([] : List UInt8))))), (.d (.lit (.int .i64 0))), (.d (.lit (.int .i64 0)))]))] (Oal rfl) ?_
                refine Wy (.tup []) [(2, (.box [(.d (.lit (.string (toS r67_6.1.Text)))), (.d (.lit (.int .i64 r67_6.1.At))), (.d (.lit (.int .i64 r67_6.1.E)))]))] (Ost rfl) ?_
                refine Wy (.d (.lit (.int .u64 r67_6.2))) [] (Omv rfl) ?_
                refine Walk.nil ?_
                refine Then.normal ?_
                refine Amk 1936 7 ⟨(tp 4 ((.loc 0 0) :: (tp 2 ((.loc 1 0) :: ((.d (.lit (.int .i64 (IntKind.i64.wrap (p1 + 1))))) :: ((.loc 2 0) :: ((.d (.lit (.int .u64 r67_6.2))) :: (tp 116 [])))))))), [(.box [(.d (byteD 0)), (.d (.lit (.int .i64 0))), (.d (.lit (.int .u64 0))), (.d (.lit (.string (toS ([] : List UInt8)))))]), (.box [(.d (byteD x31_2)), (.d (.lit (.int .i64 0))), (.d (.lit (.int .u64 0))), (.d (.lit (.string (toS ([] : List UInt8)))))]), (.box [(.d (.lit (.string (toS r67_6.1.Text)))), (.d (.lit (.int .i64 r67_6.1.At))), (.d (.lit (.int .i64 r67_6.1.E)))])], 0⟩ ?_
                refine AWP.seq ?_
                refine AWP.seq ?_
                refine AWP.text ?_
                refine Wy (.loc 2 2) [] (Ofa rfl) ?_
                refine Wy (.d (.lit (.int .i64 r67_6.1.E))) [] (Old rfl) ?_
                refine Wy (.d (.lit (.bool (decide (r67_6.1.E ≠ 0))))) [] (Obn rfl (fun _ => hb_neq (k := .i64))) ?_
                refine Walk.nil ?_
                refine Then.normal ?_
                refine Amk 4722366482869645215120 3 ⟨(tp 4 ((.loc 0 0) :: (tp 2 ((.loc 1 0) :: ((.d (.lit (.int .i64 (IntKind.i64.wrap (p1 + 1))))) :: (tp 1 ((.d (.lit (.int .u64 r67_6.2))) :: (tp 61 ((.d (.lit (.bool (decide (r67_6.1.E ≠ 0))))) :: (tp 54 [])))))))))), [(.box [(.d (byteD 0)), (.d (.lit (.int .i64 0))), (.d (.lit (.int .u64 0))), (.d (.lit (.string (toS ([] : List UInt8)))))]), (.box [(.d (byteD x31_2)), (.d (.lit (.int .i64 0))), (.d (.lit (.int .u64 0))), (.d (.lit (.string (toS ([] : List UInt8)))))]), .gone], 0⟩ ?_
                rcases tf_ (decide (r67_6.1.E ≠ 0)) with hc72_21 | hc72_21
                · replace hm := cT hc72_21 hm
                  refine AWP.if_ true (Eq.trans (by kernel_rfl) (lit_tf (b := decide (r67_6.1.E ≠ 0)) hc72_21)) ?_
                  refine AWP.seq ?_
                  refine AWP.text ?_
                  refine Wy (.agg [(.d (byteD 0)), (.d (.lit (.int .i64 0))), (.d (.lit (.int .u64 0))), (.d (.lit (.string (toS ([] : List UInt8)))))]) [] (Obd rfl) ?_
                  refine Wy (.tup []) [(0, (.box [(.d (byteD 0)), (.d (.lit (.int .i64 0))), (.d (.lit (.int .u64 0))), (.d (.lit (.string (toS ([] : List UInt8)))))]))] (Ost rfl) ?_
                  refine Wy (.d (.lit (.int .i64 0))) [] (Omv rfl) ?_
                  refine Wy (.d (.lit (.int .i64 3))) [] (Omv rfl) ?_
                  refine Walk.nil ?_
                  refine Then.normal ?_
                  refine AWP.ret ?_
                  refine Then.ret ?_
                  refine Then.ret ?_
                  obtain rfl := Option.some.inj hm
                  exact ret_i []
                · replace hm := cF hc72_21 hm
                  refine AWP.if_ false (Eq.trans (by kernel_rfl) (lit_tf (b := decide (r67_6.1.E ≠ 0)) hc72_21)) ?_
                  refine AWP.skip ?_
                  refine Then.normal ?_
                  refine Amk 1424 3 ⟨(tp 4 ((.loc 0 0) :: (tp 2 ((.loc 1 0) :: ((.d (.lit (.int .i64 (IntKind.i64.wrap (p1 + 1))))) :: (tp 1 ((.d (.lit (.int .u64 r67_6.2))) :: (tp 116 [])))))))), [(.box [(.d (byteD 0)), (.d (.lit (.int .i64 0))), (.d (.lit (.int .u64 0))), (.d (.lit (.string (toS ([] : List UInt8)))))]), (.box [(.d (byteD x31_2)), (.d (.lit (.int .i64 0))), (.d (.lit (.int .u64 0))), (.d (.lit (.string (toS ([] : List UInt8)))))]), .gone], 0⟩ ?_
                  refine AWP.seq ?_
                  refine AWP.text ?_
                  refine Wy (.d (.lit (.int .u64 r67_6.2))) [] (Omv rfl) ?_
                  refine Wy (.loc 1 2) [] (Ofa rfl) ?_
                  refine Wy (.tup []) [(1, (.box [(.d (byteD x31_2)), (.d (.lit (.int .i64 0))), (.d (.lit (.int .u64 r67_6.2))), (.d (.lit (.string (toS ([] : List UInt8)))))]))] (Ost rfl) ?_
                  refine Walk.nil ?_
                  refine Then.normal ?_
                  refine Amk 400 3 ⟨(tp 4 ((.loc 0 0) :: (tp 2 ((.loc 1 0) :: ((.d (.lit (.int .i64 (IntKind.i64.wrap (p1 + 1))))) :: (tp 118 [])))))), [(.box [(.d (byteD 0)), (.d (.lit (.int .i64 0))), (.d (.lit (.int .u64 0))), (.d (.lit (.string (toS ([] : List UInt8)))))]), (.box [(.d (byteD x31_2)), (.d (.lit (.int .i64 0))), (.d (.lit (.int .u64 r67_6.2))), (.d (.lit (.string (toS ([] : List UInt8)))))]), .gone], 0⟩ ?_
                  refine AWP.text ?_
                  refine Wy (.d (.lit (.int .i64 (IntKind.i64.wrap (p1 + 1))))) [] (Omv rfl) ?_
                  refine Wy (.d (.lit (.int .i64 (IntKind.i64.wrap ((IntKind.i64.wrap (p1 + 1)) + 8))))) [] (Obn rfl (fun _ => hb_add (k := .i64))) ?_
                  refine Wy (.d (.lit (.int .i64 (IntKind.i64.wrap ((IntKind.i64.wrap (p1 + 1)) + 8))))) [] (Omv rfl) ?_
                  refine Walk.nil ?_
                  refine Then.normal ?_
                  exact AWP.weak (Weak.toK 400 0 0 [0, 1]) (J12 ((GValue.mk x31_2 0 r67_6.2 ([] : List UInt8)), (IntKind.i64.wrap ((IntKind.i64.wrap (p1 + 1)) + 8))) hm)
              · replace hm := cF hc61_20 hm
                refine AWP.if_ false (Eq.trans (by kernel_rfl) (lit_tf (b := decide (((x31_2.toNat : Nat) : Int) = 3)) hc61_20)) ?_
                refine AWP.seq ?_
                refine AWP.text ?_
                refine Wy (.d (.lit (.string (toS p0)))) [] (Omv rfl) ?_
                refine Wy (.d (.lit (.int .i64 (IntKind.i64.wrap (p1 + 1))))) [] (Omv rfl) ?_
                obtain ⟨r81_7, hr81_7, hm⟩ := bnd hm
                refine Wy (.tup [(.d (.lit (.int .u64 r81_7.1))), (.d (.lit (.int .i64 r81_7.2.1))), (.d (.lit (.int .i64 r81_7.2.2)))]) [] (Ocf [] [] [] 0 (ok_telltaleref02_Take p0 (IntKind.i64.wrap (p1 + 1)) r81_7 hr81_7) (fun a w => Try.call46 a w) rfl trivial) ?_
                refine Wy (.tup [(.d (.lit (.int .u64 r81_7.1))), (.d (.lit (.int .i64 r81_7.2.1))), (.d (.lit (.int .i64 r81_7.2.2)))]) [] (Omv rfl) ?_
                refine Wy (.d (.lit (.int .u64 r81_7.1))) [] (Oex rfl) ?_
                refine Wy (.d (.lit (.int .i64 r81_7.2.1))) [] (Oex rfl) ?_
                refine Wy (.d (.lit (.int .i64 r81_7.2.2))) [] (Oex rfl) ?_
                refine Wy (.d (.lit (.int .u64 r81_7.1))) [] (Omv rfl) ?_
                refine Wy (.d (.lit (.int .i64 r81_7.2.1))) [] (Omv rfl) ?_
                refine Wy (.d (.lit (.int .i64 r81_7.2.2))) [] (Omv rfl) ?_
                refine Walk.nil ?_
                refine Then.normal ?_
                refine Amk 14481 3 ⟨((.d (.lit (.string (toS p0)))) :: (tp 3 ((.loc 0 0) :: (tp 2 ((.loc 1 0) :: (tp 3 ((.d (.lit (.int .u64 r81_7.1))) :: ((.d (.lit (.int .i64 r81_7.2.1))) :: ((.d (.lit (.int .i64 r81_7.2.2))) :: (tp 113 [])))))))))), [(.box [(.d (byteD 0)), (.d (.lit (.int .i64 0))), (.d (.lit (.int .u64 0))), (.d (.lit (.string (toS ([] : List UInt8)))))]), (.box [(.d (byteD x31_2)), (.d (.lit (.int .i64 0))), (.d (.lit (.int .u64 0))), (.d (.lit (.string (toS ([] : List UInt8)))))])], 0⟩ ?_
                refine AWP.seq ?_
                refine AWP.seq ?_
                refine AWP.text ?_
                refine Wy (.d (.lit (.int .i64 r81_7.2.2))) [] (Omv rfl) ?_
                refine Wy (.d (.lit (.bool (decide (r81_7.2.2 ≠ 0))))) [] (Obn rfl (fun _ => hb_neq (k := .i64))) ?_
                refine Walk.nil ?_
                refine Then.normal ?_
                refine Amk 77371252455336267181209745 3 ⟨((.d (.lit (.string (toS p0)))) :: (tp 3 ((.loc 0 0) :: (tp 2 ((.loc 1 0) :: (tp 3 ((.d (.lit (.int .u64 r81_7.1))) :: ((.d (.lit (.int .i64 r81_7.2.1))) :: ((.d (.lit (.int .i64 r81_7.2.2))) :: (tp 72 ((.d (.lit (.bool (decide (r81_7.2.2 ≠ 0))))) :: (tp 40 [])))))))))))), [(.box [(.d (byteD 0)), (.d (.lit (.int .i64 0))), (.d (.lit (.int .u64 0))), (.d (.lit (.string (toS ([] : List UInt8)))))]), (.box [(.d (byteD x31_2)), (.d (.lit (.int .i64 0))), (.d (.lit (.int .u64 0))), (.d (.lit (.string (toS ([] : List UInt8)))))])], 0⟩ ?_
                rcases tf_ (decide (r81_7.2.2 ≠ 0)) with hc86_22 | hc86_22
                · replace hm := cT hc86_22 hm
                  refine AWP.if_ true (Eq.trans (by kernel_rfl) (lit_tf (b := decide (r81_7.2.2 ≠ 0)) hc86_22)) ?_
                  refine AWP.seq ?_
                  refine AWP.text ?_
                  refine Wy (.agg [(.d (byteD 0)), (.d (.lit (.int .i64 0))), (.d (.lit (.int .u64 0))), (.d (.lit (.string (toS ([] : List UInt8)))))]) [] (Obd rfl) ?_
                  refine Wy (.d (.lit (.int .i64 r81_7.2.2))) [] (Omv rfl) ?_
                  refine Wy (.tup []) [(0, (.box [(.d (byteD 0)), (.d (.lit (.int .i64 0))), (.d (.lit (.int .u64 0))), (.d (.lit (.string (toS ([] : List UInt8)))))]))] (Ost rfl) ?_
                  refine Wy (.d (.lit (.int .i64 0))) [] (Omv rfl) ?_
                  refine Wy (.d (.lit (.int .i64 r81_7.2.2))) [] (Omv rfl) ?_
                  refine Walk.nil ?_
                  refine Then.normal ?_
                  refine AWP.ret ?_
                  refine Then.ret ?_
                  refine Then.ret ?_
                  obtain rfl := Option.some.inj hm
                  exact ret_i []
                · replace hm := cF hc86_22 hm
                  refine AWP.if_ false (Eq.trans (by kernel_rfl) (lit_tf (b := decide (r81_7.2.2 ≠ 0)) hc86_22)) ?_
                  refine AWP.skip ?_
                  refine Then.normal ?_
                  refine Amk 6289 3 ⟨((.d (.lit (.string (toS p0)))) :: (tp 3 ((.loc 0 0) :: (tp 2 ((.loc 1 0) :: (tp 3 ((.d (.lit (.int .u64 r81_7.1))) :: ((.d (.lit (.int .i64 r81_7.2.1))) :: (tp 114 []))))))))), [(.box [(.d (byteD 0)), (.d (.lit (.int .i64 0))), (.d (.lit (.int .u64 0))), (.d (.lit (.string (toS ([] : List UInt8)))))]), (.box [(.d (byteD x31_2)), (.d (.lit (.int .i64 0))), (.d (.lit (.int .u64 0))), (.d (.lit (.string (toS ([] : List UInt8)))))])], 0⟩ ?_
                  refine AWP.seq ?_
                  refine AWP.text ?_
                  refine Wy (.loc 1 0) [] (Ofa rfl) ?_
                  refine Wy (.d (byteD x31_2)) [] (Old rfl) ?_
                  refine Wy (.d (.lit (.bool (decide (((x31_2.toNat : Nat) : Int) = 1))))) [] (Ocs (by kernel_rfl) (op_bin rfl (a1 := .int .u8 ((x31_2.toNat : Nat) : Int)) (a2 := .int .u8 1) (by kernel_rfl) (by kernel_rfl) (fun _ => hb_eql))) ?_
                  refine Walk.nil ?_
                  refine Then.normal ?_
                  refine Amk 2475880078570760549798254737 3 ⟨((.d (.lit (.string (toS p0)))) :: (tp 3 ((.loc 0 0) :: (tp 2 ((.loc 1 0) :: (tp 3 ((.d (.lit (.int .u64 r81_7.1))) :: ((.d (.lit (.int .i64 r81_7.2.1))) :: (tp 78 ((.d (.lit (.bool (decide (((x31_2.toNat : Nat) : Int) = 1))))) :: (tp 35 []))))))))))), [(.box [(.d (byteD 0)), (.d (.lit (.int .i64 0))), (.d (.lit (.int .u64 0))), (.d (.lit (.string (toS ([] : List UInt8)))))]), (.box [(.d (byteD x31_2)), (.d (.lit (.int .i64 0))), (.d (.lit (.int .u64 0))), (.d (.lit (.string (toS ([] : List UInt8)))))])], 0⟩ ?_
                  rcases tf_ (decide (((x31_2.toNat : Nat) : Int) = 1)) with hc91_23 | hc91_23
                  · replace hm := cT hc91_23 hm
                    refine AWP.if_ true (Eq.trans (by kernel_rfl) (lit_tf (b := decide (((x31_2.toNat : Nat) : Int) = 1)) hc91_23)) ?_
                    refine AWP.seq ?_
                    refine AWP.text ?_
                    refine Wy (.d (.lit (.int .u64 r81_7.1))) [] (Omv rfl) ?_
                    obtain ⟨r93_8, hr93_8, hm⟩ := bnd hm
                    refine Wy (.d (.lit (.int .i64 r93_8))) [] (Ocf [] [] [] 0 (ok_telltaleref02_Back r81_7.1 r93_8 hr93_8) (fun a w => Try.call47 a w) rfl trivial) ?_
                    refine Wy (.loc 1 1) [] (Ofa rfl) ?_
                    refine Wy (.tup []) [(1, (.box [(.d (byteD x31_2)), (.d (.lit (.int .i64 r93_8))), (.d (.lit (.int .u64 0))), (.d (.lit (.string (toS ([] : List UInt8)))))]))] (Ost rfl) ?_
                    refine Walk.nil ?_
                    refine Then.normal ?_
                    refine Amk 4240 3 ⟨(tp 4 ((.loc 0 0) :: (tp 2 ((.loc 1 0) :: (tp 4 ((.d (.lit (.int .i64 r81_7.2.1))) :: (tp 114 []))))))), [(.box [(.d (byteD 0)), (.d (.lit (.int .i64 0))), (.d (.lit (.int .u64 0))), (.d (.lit (.string (toS ([] : List UInt8)))))]), (.box [(.d (byteD x31_2)), (.d (.lit (.int .i64 r93_8))), (.d (.lit (.int .u64 0))), (.d (.lit (.string (toS ([] : List UInt8)))))])], 0⟩ ?_
                    refine AWP.text ?_
                    refine Wy (.d (.lit (.int .i64 r81_7.2.1))) [] (Omv rfl) ?_
                    refine Wy (.d (.lit (.int .i64 r81_7.2.1))) [] (Omv rfl) ?_
                    refine Walk.nil ?_
                    refine Then.normal ?_
                    exact AWP.weak (Weak.toK 400 0 0 [0, 1]) (J12 ((GValue.mk x31_2 r93_8 0 ([] : List UInt8)), r81_7.2.1) hm)
                  · replace hm := cF hc91_23 hm
                    refine AWP.if_ false (Eq.trans (by kernel_rfl) (lit_tf (b := decide (((x31_2.toNat : Nat) : Int) = 1)) hc91_23)) ?_
                    refine AWP.seq ?_
                    refine AWP.text ?_
                    refine Wy (.d (.lit (.int .u64 r81_7.1))) [] (Omv rfl) ?_
                    refine Wy (.d (.lit (.bool (decide ((24 : Int) < r81_7.1))))) [] (Obn rfl (fun _ => hb_gtr (k := .u64))) ?_
                    refine Walk.nil ?_
                    refine Then.normal ?_
                    refine Amk 158456325028528675187087906961 3 ⟨((.d (.lit (.string (toS p0)))) :: (tp 3 ((.loc 0 0) :: (tp 2 ((.loc 1 0) :: (tp 3 ((.d (.lit (.int .u64 r81_7.1))) :: ((.d (.lit (.int .i64 r81_7.2.1))) :: (tp 84 ((.d (.lit (.bool (decide ((24 : Int) < r81_7.1))))) :: (tp 29 []))))))))))), [(.box [(.d (byteD 0)), (.d (.lit (.int .i64 0))), (.d (.lit (.int .u64 0))), (.d (.lit (.string (toS ([] : List UInt8)))))]), (.box [(.d (byteD x31_2)), (.d (.lit (.int .i64 0))), (.d (.lit (.int .u64 0))), (.d (.lit (.string (toS ([] : List UInt8)))))])], 0⟩ ?_
                    rcases tf_ (decide ((24 : Int) < r81_7.1)) with hc97_24 | hc97_24
                    · replace hm := cT hc97_24 hm
                      refine AWP.if_ true (Eq.trans (by kernel_rfl) (lit_tf (b := decide ((24 : Int) < r81_7.1)) hc97_24)) ?_
                      refine AWP.seq ?_
                      refine AWP.text ?_
                      refine Wy (.agg [(.d (byteD 0)), (.d (.lit (.int .i64 0))), (.d (.lit (.int .u64 0))), (.d (.lit (.string (toS ([] : List UInt8)))))]) [] (Obd rfl) ?_
                      refine Wy (.tup []) [(0, (.box [(.d (byteD 0)), (.d (.lit (.int .i64 0))), (.d (.lit (.int .u64 0))), (.d (.lit (.string (toS ([] : List UInt8)))))]))] (Ost rfl) ?_
                      refine Wy (.d (.lit (.int .i64 0))) [] (Omv rfl) ?_
                      refine Wy (.d (.lit (.int .i64 5))) [] (Omv rfl) ?_
                      refine Walk.nil ?_
                      refine Then.normal ?_
                      refine AWP.ret ?_
                      refine Then.ret ?_
                      obtain rfl := Option.some.inj hm
                      exact ret_i []
                    · replace hm := cF hc97_24 hm
                      refine AWP.if_ false (Eq.trans (by kernel_rfl) (lit_tf (b := decide ((24 : Int) < r81_7.1)) hc97_24)) ?_
                      refine AWP.seq ?_
                      refine AWP.seq ?_
                      refine AWP.text ?_
                      refine Wy (.d (.lit (.string (toS p0)))) [] (Omv rfl) ?_
                      refine Wy (.d (.lit (.int .i64 ((List.length p0 : Nat) : Int)))) [] (Oln rfl) ?_
                      refine Wy (.d (.lit (.int .i64 r81_7.2.1))) [] (Omv rfl) ?_
                      refine Wy (.d (.lit (.int .i64 (IntKind.i64.wrap (((List.length p0 : Nat) : Int) - r81_7.2.1))))) [] (Obn rfl (fun _ => hb_sub (k := .i64))) ?_
                      refine Wy (.d (.lit (.int .u64 r81_7.1))) [] (Omv rfl) ?_
                      refine Wy (.d (.lit (.int .i64 (IntKind.i64.wrap r81_7.1)))) [] (Ocs (by kernel_rfl) (op_convert rfl (a1 := .int .u64 r81_7.1) (by kernel_rfl) (run_conv (ds := .int .u64) (k' := .i64) (by kernel_rfl) (by kernel_rfl)))) ?_
                      refine Wy (.d (.lit (.bool (decide ((IntKind.i64.wrap (((List.length p0 : Nat) : Int) - r81_7.2.1)) < (IntKind.i64.wrap r81_7.1)))))) [] (Obn rfl (fun _ => hb_lss (k := .i64))) ?_
                      refine Walk.nil ?_
                      refine Then.normal ?_
                      refine Amk 40564819207303340847894502578321 3 ⟨((.d (.lit (.string (toS p0)))) :: (tp 3 ((.loc 0 0) :: (tp 2 ((.loc 1 0) :: (tp 3 ((.d (.lit (.int .u64 r81_7.1))) :: ((.d (.lit (.int .i64 r81_7.2.1))) :: (tp 92 ((.d (.lit (.bool (decide ((IntKind.i64.wrap (((List.length p0 : Nat) : Int) - r81_7.2.1)) < (IntKind.i64.wrap r81_7.1)))))) :: (tp 21 []))))))))))), [(.box [(.d (byteD 0)), (.d (.lit (.int .i64 0))), (.d (.lit (.int .u64 0))), (.d (.lit (.string (toS ([] : List UInt8)))))]), (.box [(.d (byteD x31_2)), (.d (.lit (.int .i64 0))), (.d (.lit (.int .u64 0))), (.d (.lit (.string (toS ([] : List UInt8)))))])], 0⟩ ?_
                      rcases tf_ (decide ((IntKind.i64.wrap (((List.length p0 : Nat) : Int) - r81_7.2.1)) < (IntKind.i64.wrap r81_7.1))) with hc105_25 | hc105_25
                      · replace hm := cT hc105_25 hm
                        refine AWP.if_ true (Eq.trans (by kernel_rfl) (lit_tf (b := decide ((IntKind.i64.wrap (((List.length p0 : Nat) : Int) - r81_7.2.1)) < (IntKind.i64.wrap r81_7.1))) hc105_25)) ?_
                        refine AWP.seq ?_
                        refine AWP.text ?_
                        refine Wy (.agg [(.d (byteD 0)), (.d (.lit (.int .i64 0))), (.d (.lit (.int .u64 0))), (.d (.lit (.string (toS ([] : List UInt8)))))]) [] (Obd rfl) ?_
                        refine Wy (.tup []) [(0, (.box [(.d (byteD 0)), (.d (.lit (.int .i64 0))), (.d (.lit (.int .u64 0))), (.d (.lit (.string (toS ([] : List UInt8)))))]))] (Ost rfl) ?_
                        refine Wy (.d (.lit (.int .i64 0))) [] (Omv rfl) ?_
                        refine Wy (.d (.lit (.int .i64 3))) [] (Omv rfl) ?_
                        refine Walk.nil ?_
                        refine Then.normal ?_
                        refine AWP.ret ?_
                        refine Then.ret ?_
                        refine Then.ret ?_
                        obtain rfl := Option.some.inj hm
                        exact ret_i []
                      · replace hm := cF hc105_25 hm
                        refine AWP.if_ false (Eq.trans (by kernel_rfl) (lit_tf (b := decide ((IntKind.i64.wrap (((List.length p0 : Nat) : Int) - r81_7.2.1)) < (IntKind.i64.wrap r81_7.1))) hc105_25)) ?_
                        refine AWP.skip ?_
                        refine Then.normal ?_
                        refine Amk 6289 3 ⟨((.d (.lit (.string (toS p0)))) :: (tp 3 ((.loc 0 0) :: (tp 2 ((.loc 1 0) :: (tp 3 ((.d (.lit (.int .u64 r81_7.1))) :: ((.d (.lit (.int .i64 r81_7.2.1))) :: (tp 114 []))))))))), [(.box [(.d (byteD 0)), (.d (.lit (.int .i64 0))), (.d (.lit (.int .u64 0))), (.d (.lit (.string (toS ([] : List UInt8)))))]), (.box [(.d (byteD x31_2)), (.d (.lit (.int .i64 0))), (.d (.lit (.int .u64 0))), (.d (.lit (.string (toS ([] : List UInt8)))))])], 0⟩ ?_
                        refine AWP.seq ?_
                        refine AWP.text ?_
                        refine Wy (.d (.lit (.string (toS p0)))) [] (Omv rfl) ?_
                        refine Wy (.d (.lit (.int .i64 r81_7.2.1))) [] (Omv rfl) ?_
                        refine Wy (.d (.lit (.int .i64 r81_7.2.1))) [] (Omv rfl) ?_
                        refine Wy (.d (.lit (.int .u64 r81_7.1))) [] (Omv rfl) ?_
                        refine Wy (.d (.lit (.int .i64 (IntKind.i64.wrap r81_7.1)))) [] (Ocs (by kernel_rfl) (op_convert rfl (a1 := .int .u64 r81_7.1) (by kernel_rfl) (run_conv (ds := .int .u64) (k' := .i64) (by kernel_rfl) (by kernel_rfl)))) ?_
                        refine Wy (.d (.lit (.int .i64 (IntKind.i64.wrap (r81_7.2.1 + (IntKind.i64.wrap r81_7.1)))))) [] (Obn rfl (fun _ => hb_add (k := .i64))) ?_
                        obtain ⟨s113_10, hs113_10, hm⟩ := bnd hm; obtain ⟨hs113_10a, hs113_10b, hs113_10c, hs113_10d, hs113_10e⟩ := cut_some hs113_10
                        refine Wy (.d (.lit (.string (toS s113_10)))) [] (Ocs (lit_str (toS_cut hs113_10e)) (op_slice_str rfl (by kernel_rfl) (s := toS p0) (by kernel_rfl) (l := (Int.toNat r81_7.2.1)) (h := (Int.toNat (IntKind.i64.wrap (r81_7.2.1 + (IntKind.i64.wrap r81_7.1))))) (⟨.i64, r81_7.2.1, by kernel_rfl, hs113_10a⟩) (⟨.i64, (IntKind.i64.wrap (r81_7.2.1 + (IntKind.i64.wrap r81_7.1))), by kernel_rfl, hs113_10b⟩) hs113_10c hs113_10d)) ?_
                        refine Wy (.loc 1 3) [] (Ofa rfl) ?_
                        refine Wy (.tup []) [(1, (.box [(.d (byteD x31_2)), (.d (.lit (.int .i64 0))), (.d (.lit (.int .u64 0))), (.d (.lit (.string (toS s113_10))))]))] (Ost rfl) ?_
                        refine Walk.nil ?_
                        refine Then.normal ?_
                        refine Amk 6288 3 ⟨(tp 4 ((.loc 0 0) :: (tp 2 ((.loc 1 0) :: (tp 3 ((.d (.lit (.int .u64 r81_7.1))) :: ((.d (.lit (.int .i64 r81_7.2.1))) :: (tp 114 [])))))))), [(.box [(.d (byteD 0)), (.d (.lit (.int .i64 0))), (.d (.lit (.int .u64 0))), (.d (.lit (.string (toS ([] : List UInt8)))))]), (.box [(.d (byteD x31_2)), (.d (.lit (.int .i64 0))), (.d (.lit (.int .u64 0))), (.d (.lit (.string (toS s113_10))))])], 0⟩ ?_
                        refine AWP.text ?_
                        refine Wy (.d (.lit (.int .i64 r81_7.2.1))) [] (Omv rfl) ?_
                        refine Wy (.d (.lit (.int .u64 r81_7.1))) [] (Omv rfl) ?_
                        refine Wy (.d (.lit (.int .i64 (IntKind.i64.wrap r81_7.1)))) [] (Ocs (by kernel_rfl) (op_convert rfl (a1 := .int .u64 r81_7.1) (by kernel_rfl) (run_conv (ds := .int .u64) (k' := .i64) (by kernel_rfl) (by kernel_rfl)))) ?_
                        refine Wy (.d (.lit (.int .i64 (IntKind.i64.wrap (r81_7.2.1 + (IntKind.i64.wrap r81_7.1)))))) [] (Obn rfl (fun _ => hb_add (k := .i64))) ?_
                        refine Wy (.d (.lit (.int .i64 (IntKind.i64.wrap (r81_7.2.1 + (IntKind.i64.wrap r81_7.1)))))) [] (Omv rfl) ?_
                        refine Walk.nil ?_
                        refine Then.normal ?_
                        exact AWP.weak (Weak.toK 400 0 0 [0, 1]) (J12 ((GValue.mk x31_2 0 0 s113_10), (IntKind.i64.wrap (r81_7.2.1 + (IntKind.i64.wrap r81_7.1)))) hm)

set_option maxRecDepth 20000 in
set_option maxHeartbeats 4000000 in
theorem ok_telltalelaw04_ValueTakes (p0 : (List UInt8)) (p1 : Int) (r : Bool) (h : m_telltalelaw04_ValueTakes p0 p1 = some r) : GCall Try.prog 4 [(.d (.lit (.string (toS p0)))), (.d (.lit (.int .i64 p1)))] [] (.d (.lit (.bool r))) [] := by
  refine GCall.of_body (n := 45) (rs := [(.tmp 4)]) Try.func4 rfl rfl rfl ?_
  refine Ato ⟨((.d (.lit (.string (toS p0)))) :: ((.d (.lit (.int .i64 p1))) :: (tu 43 []))), [], 0⟩ ?_
  have hm := h
  unfold m_telltalelaw04_ValueTakes at hm
  refine AWP.seq ?_
  refine AWP.text ?_
  refine Wy (.d (.lit (.bool false))) [] (Omv rfl) ?_
  refine Walk.nil ?_
  refine Then.normal ?_
  refine Amk 3 0 ⟨((.d (.lit (.string (toS p0)))) :: ((.d (.lit (.int .i64 p1))) :: (tp 43 []))), [], 0⟩ ?_
  refine AWP.seq ?_
  refine AWP.seq ?_
  refine AWP.text ?_
  refine Wy (.d (.lit (.string (toS p0)))) [] (Omv rfl) ?_
  refine Wy (.d (.lit (.int .i64 ((List.length p0 : Nat) : Int)))) [] (Oln rfl) ?_
  refine Wy (.d (.lit (.bool (decide ((100 : Int) < ((List.length p0 : Nat) : Int)))))) [] (Obn rfl (fun _ => hb_gtr (k := .i64))) ?_
  refine Walk.nil ?_
  refine Then.normal ?_
  refine Amk 8195 0 ⟨((.d (.lit (.string (toS p0)))) :: ((.d (.lit (.int .i64 p1))) :: (tp 11 ((.d (.lit (.bool (decide ((100 : Int) < ((List.length p0 : Nat) : Int)))))) :: (tp 31 []))))), [], 0⟩ ?_
  rcases tf_ (decide ((100 : Int) < ((List.length p0 : Nat) : Int))) with hc13_5 | hc13_5
  · replace hm := cT hc13_5 hm
    refine AWP.if_ true (Eq.trans (by kernel_rfl) (lit_tf (b := decide ((100 : Int) < ((List.length p0 : Nat) : Int))) hc13_5)) ?_
    refine AWP.seq ?_
    refine AWP.text ?_
    obtain ⟨r14_1, hr14_1, hm⟩ := bnd hm
    refine Wy (.d (.lit (.bool r14_1))) [] (Ocf [] [] [] 0 (ok_telltalelaw04_awake  r14_1 hr14_1) (fun a w => Try.call9 a w) rfl trivial) ?_
    refine Wy (.d (.lit (.bool r14_1))) [] (Omv rfl) ?_
    refine Walk.nil ?_
    refine Then.normal ?_
    refine AWP.ret ?_
    refine Then.ret ?_
    obtain rfl := Option.some.inj hm
    exact ret_i []
  · replace hm := cF hc13_5 hm
    refine AWP.if_ false (Eq.trans (by kernel_rfl) (lit_tf (b := decide ((100 : Int) < ((List.length p0 : Nat) : Int))) hc13_5)) ?_
    refine AWP.skip ?_
    refine Then.normal ?_
    refine Amk 3 0 ⟨((.d (.lit (.string (toS p0)))) :: ((.d (.lit (.int .i64 p1))) :: (tp 43 []))), [], 0⟩ ?_
    refine AWP.seq ?_
    refine AWP.text ?_
    refine Wy (.d (.lit (.string (toS p0)))) [] (Omv rfl) ?_
    refine Wy (.d (.lit (.int .i64 p1))) [] (Omv rfl) ?_
    obtain ⟨r18_2, hr18_2, hm⟩ := bnd hm
    refine Wy (.tup [(.agg [(.d (byteD r18_2.1.Kind)), (.d (.lit (.int .i64 r18_2.1.N))), (.d (.lit (.int .u64 r18_2.1.Bits))), (.d (.lit (.string (toS r18_2.1.Text))))]), (.d (.lit (.int .i64 r18_2.2.1))), (.d (.lit (.int .i64 r18_2.2.2)))]) [] (Ocf [] [] [] 0 (ok_value_Take p0 p1 r18_2 hr18_2) (fun a w => Try.call16 a w) rfl trivial) ?_
    refine Wy (.tup [(.agg [(.d (byteD r18_2.1.Kind)), (.d (.lit (.int .i64 r18_2.1.N))), (.d (.lit (.int .u64 r18_2.1.Bits))), (.d (.lit (.string (toS r18_2.1.Text))))]), (.d (.lit (.int .i64 r18_2.2.1))), (.d (.lit (.int .i64 r18_2.2.2)))]) [] (Omv rfl) ?_
    refine Wy (.agg [(.d (byteD r18_2.1.Kind)), (.d (.lit (.int .i64 r18_2.1.N))), (.d (.lit (.int .u64 r18_2.1.Bits))), (.d (.lit (.string (toS r18_2.1.Text))))]) [] (Oex rfl) ?_
    refine Wy (.d (.lit (.int .i64 r18_2.2.1))) [] (Oex rfl) ?_
    refine Wy (.d (.lit (.int .i64 r18_2.2.2))) [] (Oex rfl) ?_
    refine Wy (.loc 0 0) [(0, (.box [(.d (byteD 0)), (.d (.lit (.int .i64 0))), (.d (.lit (.int .u64 0))), (.d (.lit (.string (toS ([] : List UInt8)))))]))] (Oal rfl) ?_
    refine Wy (.tup []) [(0, (.box [(.d (byteD r18_2.1.Kind)), (.d (.lit (.int .i64 r18_2.1.N))), (.d (.lit (.int .u64 r18_2.1.Bits))), (.d (.lit (.string (toS r18_2.1.Text))))]))] (Ost rfl) ?_
    refine Wy (.d (.lit (.int .i64 r18_2.2.1))) [] (Omv rfl) ?_
    refine Wy (.d (.lit (.int .i64 r18_2.2.2))) [] (Omv rfl) ?_
    refine Walk.nil ?_
    refine Then.normal ?_
    refine Amk 227 1 ⟨((.d (.lit (.string (toS p0)))) :: ((.d (.lit (.int .i64 p1))) :: (tp 3 ((.loc 0 0) :: ((.d (.lit (.int .i64 r18_2.2.1))) :: ((.d (.lit (.int .i64 r18_2.2.2))) :: (tp 37 []))))))), [(.box [(.d (byteD r18_2.1.Kind)), (.d (.lit (.int .i64 r18_2.1.N))), (.d (.lit (.int .u64 r18_2.1.Bits))), (.d (.lit (.string (toS r18_2.1.Text))))])], 0⟩ ?_
    refine AWP.seq ?_
    refine AWP.text ?_
    refine Wy (.d (.lit (.string (toS p0)))) [] (Omv rfl) ?_
    refine Wy (.d (.lit (.int .i64 p1))) [] (Omv rfl) ?_
    obtain ⟨r25_3, hr25_3, hm⟩ := bnd hm
    refine Wy (.tup [(.agg [(.d (byteD r25_3.1.Kind)), (.d (.lit (.int .i64 r25_3.1.N))), (.d (.lit (.int .u64 r25_3.1.Bits))), (.d (.lit (.string (toS r25_3.1.Text))))]), (.d (.lit (.int .i64 r25_3.2.1))), (.d (.lit (.int .i64 r25_3.2.2)))]) [] (Ocf [] [] [] 0 (ok_telltaleref04_Take p0 p1 r25_3 hr25_3) (fun a w => Try.call17 a w) rfl trivial) ?_
    refine Wy (.tup [(.agg [(.d (byteD r25_3.1.Kind)), (.d (.lit (.int .i64 r25_3.1.N))), (.d (.lit (.int .u64 r25_3.1.Bits))), (.d (.lit (.string (toS r25_3.1.Text))))]), (.d (.lit (.int .i64 r25_3.2.1))), (.d (.lit (.int .i64 r25_3.2.2)))]) [] (Omv rfl) ?_
    refine Wy (.agg [(.d (byteD r25_3.1.Kind)), (.d (.lit (.int .i64 r25_3.1.N))), (.d (.lit (.int .u64 r25_3.1.Bits))), (.d (.lit (.string (toS r25_3.1.Text))))]) [] (Oex rfl) ?_
    refine Wy (.d (.lit (.int .i64 r25_3.2.1))) [] (Oex rfl) ?_
    refine Wy (.d (.lit (.int .i64 r25_3.2.2))) [] (Oex rfl) ?_
    refine Wy (.loc 1 0) [(1, (.box [(.d (byteD 0)), (.d (.lit (.int .i64 0))), (.d (.lit (.int .u64 0))), (.d (.lit (.string (toS ([] : List UInt8)))))]))] (Oal rfl) ?_
    refine Wy (.tup []) [(1, (.box [(.d (byteD r25_3.1.Kind)), (.d (.lit (.int .i64 r25_3.1.N))), (.d (.lit (.int .u64 r25_3.1.Bits))), (.d (.lit (.string (toS r25_3.1.Text))))]))] (Ost rfl) ?_
    refine Wy (.d (.lit (.int .i64 r25_3.2.1))) [] (Omv rfl) ?_
    refine Wy (.d (.lit (.int .i64 r25_3.2.2))) [] (Omv rfl) ?_
    refine Walk.nil ?_
    refine Then.normal ?_
    refine Amk 2016 3 ⟨(tp 5 ((.loc 0 0) :: ((.d (.lit (.int .i64 r18_2.2.1))) :: ((.d (.lit (.int .i64 r18_2.2.2))) :: ((.loc 1 0) :: ((.d (.lit (.int .i64 r25_3.2.1))) :: ((.d (.lit (.int .i64 r25_3.2.2))) :: (tp 34 [])))))))), [(.box [(.d (byteD r18_2.1.Kind)), (.d (.lit (.int .i64 r18_2.1.N))), (.d (.lit (.int .u64 r18_2.1.Bits))), (.d (.lit (.string (toS r18_2.1.Text))))]), (.box [(.d (byteD r25_3.1.Kind)), (.d (.lit (.int .i64 r25_3.1.N))), (.d (.lit (.int .u64 r25_3.1.Bits))), (.d (.lit (.string (toS r25_3.1.Text))))])], 0⟩ ?_
    refine AWP.seq ?_
    refine AWP.text ?_
    refine Wy (.agg [(.d (byteD r18_2.1.Kind)), (.d (.lit (.int .i64 r18_2.1.N))), (.d (.lit (.int .u64 r18_2.1.Bits))), (.d (.lit (.string (toS r18_2.1.Text))))]) [] (Old rfl) ?_
    refine Wy (.agg [(.d (byteD r25_3.1.Kind)), (.d (.lit (.int .i64 r25_3.1.N))), (.d (.lit (.int .u64 r25_3.1.Bits))), (.d (.lit (.string (toS r25_3.1.Text))))]) [] (Old rfl) ?_
    obtain ⟨v31_4, hv31_4, hm⟩ := bnd hm; replace hv31_4 := Option.some.inj hv31_4
    refine Wy (.d (.lit (.bool v31_4))) [] (Ocs (Eq.trans (lit_tf (by simp only [toS_inj])) (congrArg (fun z => A.d (.lit (.bool z))) hv31_4)) (op_eql_struct rfl (la := [(.d (byteD r18_2.1.Kind)), (.d (.lit (.int .i64 r18_2.1.N))), (.d (.lit (.int .u64 r18_2.1.Bits))), (.d (.lit (.string (toS r18_2.1.Text))))]) (lb := [(.d (byteD r25_3.1.Kind)), (.d (.lit (.int .i64 r25_3.1.N))), (.d (.lit (.int .u64 r25_3.1.Bits))), (.d (.lit (.string (toS r25_3.1.Text))))]) (us := [.int .u8 ((r18_2.1.Kind.toNat : Nat) : Int), .int .i64 r18_2.1.N, .int .u64 r18_2.1.Bits, .string (toS r18_2.1.Text)]) (vs := [.int .u8 ((r25_3.1.Kind.toNat : Nat) : Int), .int .i64 r25_3.1.N, .int .u64 r25_3.1.Bits, .string (toS r25_3.1.Text)]) (r := (decide (((r18_2.1.Kind.toNat : Nat) : Int) = ((r25_3.1.Kind.toNat : Nat) : Int)) && (decide (r18_2.1.N = r25_3.1.N) && (decide (r18_2.1.Bits = r25_3.1.Bits) && (decide ((toS r18_2.1.Text) = (toS r25_3.1.Text)) && true))))) (by kernel_rfl) (by kernel_rfl) (by kernel_rfl) (by kernel_rfl) (by kernel_rfl))) ?_
    rcases tf_ v31_4 with hq32_4 | hq32_4
    · replace hm := cT hq32_4 hm
      refine Wy (.d (.lit (.bool true))) [] (Ocs (lit_tf (b := v31_4) hq32_4) (Omv rfl)) ?_
      refine Wy (.d (.lit (.int .i64 r18_2.2.1))) [] (Omv rfl) ?_
      refine Wy (.d (.lit (.int .i64 r25_3.2.1))) [] (Omv rfl) ?_
      refine Wy (.d (.lit (.bool (decide (r18_2.2.1 = r25_3.2.1))))) [] (Obn rfl (fun _ => hb_eql (k := .i64))) ?_
      refine Wy (.d (.lit (.bool (decide (r18_2.2.1 = r25_3.2.1))))) [] (OpT rfl) ?_
      rcases tf_ (decide (r18_2.2.1 = r25_3.2.1)) with hq37_4 | hq37_4
      · replace hm := cT hq37_4 hm
        refine Wy (.d (.lit (.bool true))) [] (Ocs (lit_tf (b := decide (r18_2.2.1 = r25_3.2.1)) hq37_4) (Omv rfl)) ?_
        refine Wy (.d (.lit (.int .i64 r18_2.2.2))) [] (Omv rfl) ?_
        refine Wy (.d (.lit (.int .i64 r25_3.2.2))) [] (Omv rfl) ?_
        refine Wy (.d (.lit (.bool (decide (r18_2.2.2 = r25_3.2.2))))) [] (Obn rfl (fun _ => hb_eql (k := .i64))) ?_
        refine Wy (.d (.lit (.bool (decide (r18_2.2.2 = r25_3.2.2))))) [] (OpT rfl) ?_
        rcases tf_ (decide (r18_2.2.2 = r25_3.2.2)) with hq42_4 | hq42_4
        · replace hm := cT hq42_4 hm
          refine Wy (.d (.lit (.bool true))) [] (Ocs (lit_tf (b := decide (r18_2.2.2 = r25_3.2.2)) hq42_4) (Omv rfl)) ?_
          obtain ⟨r43_4, hr43_4, hm⟩ := bnd hm
          refine Wy (.d (.lit (.bool r43_4))) [] (Ocf [] [] [] 0 (ok_telltalelaw04_awake  r43_4 hr43_4) (fun a w => Try.call9 a w) rfl trivial) ?_
          refine Wy (.d (.lit (.bool r43_4))) [] (OpT rfl) ?_
          refine Wy (.d (.lit (.bool r43_4))) [] (Omv rfl) ?_
          refine Walk.nil ?_
          refine Then.normal ?_
          refine AWP.ret ?_
          obtain rfl := Option.some.inj hm
          exact ret_i []
        · replace hm := cF hq42_4 hm
          refine Wy (.d (.lit (.bool false))) [] (Ocs (lit_tf (b := decide (r18_2.2.2 = r25_3.2.2)) hq42_4) (Omv rfl)) ?_
          refine Wn ?_
          refine Wy (.d (.lit (.bool false))) [] (OpF rfl) ?_
          refine Wy (.d (.lit (.bool false))) [] (Omv rfl) ?_
          refine Walk.nil ?_
          refine Then.normal ?_
          refine AWP.ret ?_
          obtain rfl := Option.some.inj hm
          exact ret_i []
      · replace hm := cF hq37_4 hm
        refine Wy (.d (.lit (.bool false))) [] (Ocs (lit_tf (b := decide (r18_2.2.1 = r25_3.2.1)) hq37_4) (Omv rfl)) ?_
        refine Wn ?_
        refine Wn ?_
        refine Wn ?_
        refine Wy (.d (.lit (.bool false))) [] (OpF rfl) ?_
        refine Wy (.d (.lit (.bool false))) [] (Omv rfl) ?_
        refine Wn ?_
        refine Wy (.d (.lit (.bool false))) [] (OpF rfl) ?_
        refine Wy (.d (.lit (.bool false))) [] (Omv rfl) ?_
        refine Walk.nil ?_
        refine Then.normal ?_
        refine AWP.ret ?_
        obtain rfl := Option.some.inj hm
        exact ret_i []
    · replace hm := cF hq32_4 hm
      refine Wy (.d (.lit (.bool false))) [] (Ocs (lit_tf (b := v31_4) hq32_4) (Omv rfl)) ?_
      refine Wn ?_
      refine Wn ?_
      refine Wn ?_
      refine Wy (.d (.lit (.bool false))) [] (OpF rfl) ?_
      refine Wy (.d (.lit (.bool false))) [] (Omv rfl) ?_
      refine Wn ?_
      refine Wn ?_
      refine Wn ?_
      refine Wy (.d (.lit (.bool false))) [] (OpF rfl) ?_
      refine Wy (.d (.lit (.bool false))) [] (Omv rfl) ?_
      refine Wn ?_
      refine Wy (.d (.lit (.bool false))) [] (OpF rfl) ?_
      refine Wy (.d (.lit (.bool false))) [] (Omv rfl) ?_
      refine Walk.nil ?_
      refine Then.normal ?_
      refine AWP.ret ?_
      obtain rfl := Option.some.inj hm
      exact ret_i []
end Go.Proofs.Ytgocnknbiipcfaa.K
