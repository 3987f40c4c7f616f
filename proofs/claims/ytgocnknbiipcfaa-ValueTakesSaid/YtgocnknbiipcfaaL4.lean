/- each function computes what its model says (4) -/
import Derived.Test.YtgocnknbiipcfaaL3
namespace Go.Proofs.Ytgocnknbiipcfaa.K
open Go.RowKit Go.Lib
set_option linter.unusedVariables false
set_option linter.unusedSimpArgs false

set_option maxRecDepth 20000 in
set_option maxHeartbeats 4000000 in
theorem ok_telltalelaw04_ValueMakes (p0 : Int) (p1 : Int) (p2 : (List UInt8)) (r : Bool) (h : m_telltalelaw04_ValueMakes p0 p1 p2 = some r) : GCall Try.prog 5 [(.d (.lit (.int .i64 p0))), (.d (.lit (.int .u64 p1))), (.d (.lit (.string (toS p2))))] [] (.d (.lit (.bool r))) [] := by
  refine GCall.of_body (n := 79) (rs := [(.tmp 6)]) Try.func5 rfl rfl rfl ?_
  refine Ato ⟨((.d (.lit (.int .i64 p0))) :: ((.d (.lit (.int .u64 p1))) :: ((.d (.lit (.string (toS p2)))) :: (tu 76 [])))), [], 0⟩ ?_
  have hm := h
  unfold m_telltalelaw04_ValueMakes at hm
  refine AWP.seq ?_
  refine AWP.text ?_
  refine Wy (.d (.lit (.bool false))) [] (Omv rfl) ?_
  refine Walk.nil ?_
  refine Then.normal ?_
  refine Amk 7 0 ⟨((.d (.lit (.int .i64 p0))) :: ((.d (.lit (.int .u64 p1))) :: ((.d (.lit (.string (toS p2)))) :: (tp 76 [])))), [], 0⟩ ?_
  refine AWP.seq ?_
  refine AWP.seq ?_
  refine AWP.text ?_
  refine Wy (.d (.lit (.string (toS p2)))) [] (Omv rfl) ?_
  refine Wy (.d (.lit (.int .i64 ((List.length p2 : Nat) : Int)))) [] (Oln rfl) ?_
  refine Wy (.d (.lit (.bool (decide ((100 : Int) < ((List.length p2 : Nat) : Int)))))) [] (Obn rfl (fun _ => hb_gtr (k := .i64))) ?_
  refine Walk.nil ?_
  refine Then.normal ?_
  refine Amk 16391 0 ⟨((.d (.lit (.int .i64 p0))) :: ((.d (.lit (.int .u64 p1))) :: ((.d (.lit (.string (toS p2)))) :: (tp 11 ((.d (.lit (.bool (decide ((100 : Int) < ((List.length p2 : Nat) : Int)))))) :: (tp 64 [])))))), [], 0⟩ ?_
  rcases tf_ (decide ((100 : Int) < ((List.length p2 : Nat) : Int))) with hc14_6 | hc14_6
  · replace hm := cT hc14_6 hm
    refine AWP.if_ true (Eq.trans (by kernel_rfl) (lit_tf (b := decide ((100 : Int) < ((List.length p2 : Nat) : Int))) hc14_6)) ?_
    refine AWP.seq ?_
    refine AWP.text ?_
    obtain ⟨r15_1, hr15_1, hm⟩ := bnd hm
    refine Wy (.d (.lit (.bool r15_1))) [] (Ocf [] [] [] 0 (ok_telltalelaw04_awake  r15_1 hr15_1) (fun a w => Try.call9 a w) rfl trivial) ?_
    refine Wy (.d (.lit (.bool r15_1))) [] (Omv rfl) ?_
    refine Walk.nil ?_
    refine Then.normal ?_
    refine AWP.ret ?_
    refine Then.ret ?_
    obtain rfl := Option.some.inj hm
    exact ret_i []
  · replace hm := cF hc14_6 hm
    refine AWP.if_ false (Eq.trans (by kernel_rfl) (lit_tf (b := decide ((100 : Int) < ((List.length p2 : Nat) : Int))) hc14_6)) ?_
    refine AWP.skip ?_
    refine Then.normal ?_
    refine Amk 7 0 ⟨((.d (.lit (.int .i64 p0))) :: ((.d (.lit (.int .u64 p1))) :: ((.d (.lit (.string (toS p2)))) :: (tp 76 [])))), [], 0⟩ ?_
    refine AWP.seq ?_
    refine AWP.text ?_
    refine Wy (.d (.lit (.int .i64 p0))) [] (Omv rfl) ?_
    refine Wy (.d (.lit (.int .i64 (Int.tmod p0 2)))) [] (Ocs (by kernel_rfl) (op_bin rfl (a1 := .int .i64 p0) (a2 := .int .i64 2) (by kernel_rfl) (by kernel_rfl) (fun _ => hb_rem (by decide)))) ?_
    refine Wy (.d (.lit (.bool (decide ((Int.tmod p0 2) = 0))))) [] (Obn rfl (fun _ => hb_eql (k := .i64))) ?_
    refine Wy (.d (.lit (.bool (decide ((Int.tmod p0 2) = 0))))) [] (Omv rfl) ?_
    refine Walk.nil ?_
    refine Then.normal ?_
    refine Amk 135 0 ⟨((.d (.lit (.int .i64 p0))) :: ((.d (.lit (.int .u64 p1))) :: ((.d (.lit (.string (toS p2)))) :: (tp 4 ((.d (.lit (.bool (decide ((Int.tmod p0 2) = 0))))) :: (tp 71 [])))))), [], 0⟩ ?_
    refine AWP.seq ?_
    refine AWP.text ?_
    refine Wy (.d (.lit (.int .i64 p0))) [] (Omv rfl) ?_
    obtain ⟨r20_2, hr20_2, hm⟩ := bnd hm
    refine Wy (.agg [(.d (byteD r20_2.Kind)), (.d (.lit (.int .i64 r20_2.N))), (.d (.lit (.int .u64 r20_2.Bits))), (.d (.lit (.string (toS r20_2.Text))))]) [] (Ocf [] [] [] 0 (ok_value_OfInt p0 r20_2 hr20_2) (fun a w => Try.call18 a w) rfl trivial) ?_
    refine Wy (.d (.lit (.bool (decide ((Int.tmod p0 2) = 0))))) [] (Omv rfl) ?_
    obtain ⟨r22_2, hr22_2, hm⟩ := bnd hm
    refine Wy (.agg [(.d (byteD r22_2.Kind)), (.d (.lit (.int .i64 r22_2.N))), (.d (.lit (.int .u64 r22_2.Bits))), (.d (.lit (.string (toS r22_2.Text))))]) [] (Ocf [] [] [] 0 (ok_value_OfFlag (decide ((Int.tmod p0 2) = 0)) r22_2 hr22_2) (fun a w => Try.call19 a w) rfl trivial) ?_
    refine Wy (.d (.lit (.int .u64 p1))) [] (Omv rfl) ?_
    obtain ⟨r24_2, hr24_2, hm⟩ := bnd hm
    refine Wy (.agg [(.d (byteD r24_2.Kind)), (.d (.lit (.int .i64 r24_2.N))), (.d (.lit (.int .u64 r24_2.Bits))), (.d (.lit (.string (toS r24_2.Text))))]) [] (Ocf [] [] [] 0 (ok_value_OfReal p1 r24_2 hr24_2) (fun a w => Try.call20 a w) rfl trivial) ?_
    refine Wy (.d (.lit (.string (toS p2)))) [] (Omv rfl) ?_
    obtain ⟨r26_2, hr26_2, hm⟩ := bnd hm
    refine Wy (.agg [(.d (byteD r26_2.Kind)), (.d (.lit (.int .i64 r26_2.N))), (.d (.lit (.int .u64 r26_2.Bits))), (.d (.lit (.string (toS r26_2.Text))))]) [] (Ocf [] [] [] 0 (ok_value_OfText p2 r26_2 hr26_2) (fun a w => Try.call21 a w) rfl trivial) ?_
    refine Wy (.loc 0 0) [(0, (.box [(.d (byteD 0)), (.d (.lit (.int .i64 0))), (.d (.lit (.int .u64 0))), (.d (.lit (.string (toS ([] : List UInt8)))))]))] (Oal rfl) ?_
    refine Wy (.loc 1 0) [(1, (.box [(.d (byteD 0)), (.d (.lit (.int .i64 0))), (.d (.lit (.int .u64 0))), (.d (.lit (.string (toS ([] : List UInt8)))))]))] (Oal rfl) ?_
    refine Wy (.loc 2 0) [(2, (.box [(.d (byteD 0)), (.d (.lit (.int .i64 0))), (.d (.lit (.int .u64 0))), (.d (.lit (.string (toS ([] : List UInt8)))))]))] (Oal rfl) ?_
    refine Wy (.loc 3 0) [(3, (.box [(.d (byteD 0)), (.d (.lit (.int .i64 0))), (.d (.lit (.int .u64 0))), (.d (.lit (.string (toS ([] : List UInt8)))))]))] (Oal rfl) ?_
    refine Wy (.tup []) [(0, (.box [(.d (byteD r20_2.Kind)), (.d (.lit (.int .i64 r20_2.N))), (.d (.lit (.int .u64 r20_2.Bits))), (.d (.lit (.string (toS r20_2.Text))))]))] (Ost rfl) ?_
    refine Wy (.tup []) [(1, (.box [(.d (byteD r22_2.Kind)), (.d (.lit (.int .i64 r22_2.N))), (.d (.lit (.int .u64 r22_2.Bits))), (.d (.lit (.string (toS r22_2.Text))))]))] (Ost rfl) ?_
    refine Wy (.tup []) [(2, (.box [(.d (byteD r24_2.Kind)), (.d (.lit (.int .i64 r24_2.N))), (.d (.lit (.int .u64 r24_2.Bits))), (.d (.lit (.string (toS r24_2.Text))))]))] (Ost rfl) ?_
    refine Wy (.tup []) [(3, (.box [(.d (byteD r26_2.Kind)), (.d (.lit (.int .i64 r26_2.N))), (.d (.lit (.int .u64 r26_2.Bits))), (.d (.lit (.string (toS r26_2.Text))))]))] (Ost rfl) ?_
    refine Walk.nil ?_
    refine Then.normal ?_
    refine Amk 3975 15 ⟨((.d (.lit (.int .i64 p0))) :: ((.d (.lit (.int .u64 p1))) :: ((.d (.lit (.string (toS p2)))) :: (tp 4 ((.d (.lit (.bool (decide ((Int.tmod p0 2) = 0))))) :: ((.loc 0 0) :: ((.loc 1 0) :: ((.loc 2 0) :: ((.loc 3 0) :: (tp 67 [])))))))))), [(.box [(.d (byteD r20_2.Kind)), (.d (.lit (.int .i64 r20_2.N))), (.d (.lit (.int .u64 r20_2.Bits))), (.d (.lit (.string (toS r20_2.Text))))]), (.box [(.d (byteD r22_2.Kind)), (.d (.lit (.int .i64 r22_2.N))), (.d (.lit (.int .u64 r22_2.Bits))), (.d (.lit (.string (toS r22_2.Text))))]), (.box [(.d (byteD r24_2.Kind)), (.d (.lit (.int .i64 r24_2.N))), (.d (.lit (.int .u64 r24_2.Bits))), (.d (.lit (.string (toS r24_2.Text))))]), (.box [(.d (byteD r26_2.Kind)), (.d (.lit (.int .i64 r26_2.N))), (.d (.lit (.int .u64 r26_2.Bits))), (.d (.lit (.string (toS r26_2.Text))))])], 0⟩ ?_
    refine AWP.seq ?_
    refine AWP.cutJ (α := Unit) (fun x => match x with | () => (⟨(tp 1 ((.d (.lit (.int .u64 p1))) :: (tp 6 ((.loc 0 0) :: ((.loc 1 0) :: ((.loc 2 0) :: ((.loc 3 0) :: (tp 36 ((.d (.lit (.bool true))) :: (tp 30 [])))))))))), [(.box [(.d (byteD r20_2.Kind)), (.d (.lit (.int .i64 r20_2.N))), (.d (.lit (.int .u64 r20_2.Bits))), (.d (.lit (.string (toS r20_2.Text))))]), (.box [(.d (byteD r22_2.Kind)), (.d (.lit (.int .i64 r22_2.N))), (.d (.lit (.int .u64 r22_2.Bits))), (.d (.lit (.string (toS r22_2.Text))))]), (.box [(.d (byteD r24_2.Kind)), (.d (.lit (.int .i64 r24_2.N))), (.d (.lit (.int .u64 r24_2.Bits))), (.d (.lit (.string (toS r24_2.Text))))]), (.box [(.d (byteD r26_2.Kind)), (.d (.lit (.int .i64 r26_2.N))), (.d (.lit (.int .u64 r26_2.Bits))), (.d (.lit (.string (toS r26_2.Text))))])], 0⟩ : St)) (fun x => match x with | () => m_telltalelaw04_ValueMakes_j4  = some r) ?_ (fun J4 => ?_)
    · rintro ⟨⟩ hm
      try dsimp only at hm ⊢
      unfold m_telltalelaw04_ValueMakes_j4 at hm
      refine AWP.if_ true (by kernel_rfl) ?_
      refine AWP.seq ?_
      refine AWP.text ?_
      refine Wy (.d (.lit (.bool false))) [] (Omv rfl) ?_
      refine Walk.nil ?_
      refine Then.normal ?_
      refine AWP.ret ?_
      refine Then.ret ?_
      obtain rfl := Option.some.inj hm
      exact ret_i []
    refine AWP.seq ?_
    refine Adr ?_
    refine Wy (.agg [(.d (byteD r20_2.Kind)), (.d (.lit (.int .i64 r20_2.N))), (.d (.lit (.int .u64 r20_2.Bits))), (.d (.lit (.string (toS r20_2.Text))))]) [] (Old rfl) ?_
    refine Wy (.d (.lit (.int .i64 p0))) [] (Omv rfl) ?_
    obtain ⟨r29_3, hr29_3, hm⟩ := bnd hm
    refine Wy (.agg [(.d (byteD r29_3.Kind)), (.d (.lit (.int .i64 r29_3.N))), (.d (.lit (.int .u64 r29_3.Bits))), (.d (.lit (.string (toS r29_3.Text))))]) [] (Ocf [] [] [] 0 (ok_telltaleref04_OfInt p0 r29_3 hr29_3) (fun a w => Try.call22 a w) rfl trivial) ?_
    obtain ⟨v30_3, hv30_3, hm⟩ := bnd hm; replace hv30_3 := Option.some.inj hv30_3
    refine Wy (.d (.lit (.bool v30_3))) [] (Ocs (Eq.trans (lit_tf (by simp only [toS_inj])) (congrArg (fun z => A.d (.lit (.bool z))) hv30_3)) (op_neq_struct rfl (la := [(.d (byteD r20_2.Kind)), (.d (.lit (.int .i64 r20_2.N))), (.d (.lit (.int .u64 r20_2.Bits))), (.d (.lit (.string (toS r20_2.Text))))]) (lb := [(.d (byteD r29_3.Kind)), (.d (.lit (.int .i64 r29_3.N))), (.d (.lit (.int .u64 r29_3.Bits))), (.d (.lit (.string (toS r29_3.Text))))]) (us := [.int .u8 ((r20_2.Kind.toNat : Nat) : Int), .int .i64 r20_2.N, .int .u64 r20_2.Bits, .string (toS r20_2.Text)]) (vs := [.int .u8 ((r29_3.Kind.toNat : Nat) : Int), .int .i64 r29_3.N, .int .u64 r29_3.Bits, .string (toS r29_3.Text)]) (r := (decide (((r20_2.Kind.toNat : Nat) : Int) = ((r29_3.Kind.toNat : Nat) : Int)) && (decide (r20_2.N = r29_3.N) && (decide (r20_2.Bits = r29_3.Bits) && (decide ((toS r20_2.Text) = (toS r29_3.Text)) && true))))) (by kernel_rfl) (by kernel_rfl) (by kernel_rfl) (by kernel_rfl) (by kernel_rfl))) ?_
    rcases tf_ v30_3 with hq31_3 | hq31_3
    · replace hm := cT hq31_3 hm
      refine Wy (.d (.lit (.bool true))) [] (Ocs (lit_tf (b := v30_3) hq31_3) (Omv rfl)) ?_
      refine Wn ?_
      refine Wn ?_
      refine Wn ?_
      refine Wn ?_
      refine Wy (.d (.lit (.bool true))) [] (OpT rfl) ?_
      refine Wy (.d (.lit (.bool true))) [] (Omv rfl) ?_
      refine Wn ?_
      refine Wn ?_
      refine Wn ?_
      refine Wn ?_
      refine Wy (.d (.lit (.bool true))) [] (OpT rfl) ?_
      refine Wy (.d (.lit (.bool true))) [] (Omv rfl) ?_
      refine Wn ?_
      refine Wn ?_
      refine Wn ?_
      refine Wn ?_
      refine Wy (.d (.lit (.bool true))) [] (OpT rfl) ?_
      refine Wdr ?_
      refine Then.normal ?_
      exact AWP.weak (Weak.toK 281474976714498 0 0 [0, 1, 2, 3]) (J4 () hm)
    · replace hm := cF hq31_3 hm
      refine Wy (.d (.lit (.bool false))) [] (Ocs (lit_tf (b := v30_3) hq31_3) (Omv rfl)) ?_
      refine Wy (.agg [(.d (byteD r22_2.Kind)), (.d (.lit (.int .i64 r22_2.N))), (.d (.lit (.int .u64 r22_2.Bits))), (.d (.lit (.string (toS r22_2.Text))))]) [] (Old rfl) ?_
      refine Wy (.d (.lit (.bool (decide ((Int.tmod p0 2) = 0))))) [] (Omv rfl) ?_
      obtain ⟨r34_3, hr34_3, hm⟩ := bnd hm
      refine Wy (.agg [(.d (byteD r34_3.Kind)), (.d (.lit (.int .i64 r34_3.N))), (.d (.lit (.int .u64 r34_3.Bits))), (.d (.lit (.string (toS r34_3.Text))))]) [] (Ocf [] [] [] 0 (ok_telltaleref04_OfFlag (decide ((Int.tmod p0 2) = 0)) r34_3 hr34_3) (fun a w => Try.call23 a w) rfl trivial) ?_
      obtain ⟨v35_3, hv35_3, hm⟩ := bnd hm; replace hv35_3 := Option.some.inj hv35_3
      refine Wy (.d (.lit (.bool v35_3))) [] (Ocs (Eq.trans (lit_tf (by simp only [toS_inj])) (congrArg (fun z => A.d (.lit (.bool z))) hv35_3)) (op_neq_struct rfl (la := [(.d (byteD r22_2.Kind)), (.d (.lit (.int .i64 r22_2.N))), (.d (.lit (.int .u64 r22_2.Bits))), (.d (.lit (.string (toS r22_2.Text))))]) (lb := [(.d (byteD r34_3.Kind)), (.d (.lit (.int .i64 r34_3.N))), (.d (.lit (.int .u64 r34_3.Bits))), (.d (.lit (.string (toS r34_3.Text))))]) (us := [.int .u8 ((r22_2.Kind.toNat : Nat) : Int), .int .i64 r22_2.N, .int .u64 r22_2.Bits, .string (toS r22_2.Text)]) (vs := [.int .u8 ((r34_3.Kind.toNat : Nat) : Int), .int .i64 r34_3.N, .int .u64 r34_3.Bits, .string (toS r34_3.Text)]) (r := (decide (((r22_2.Kind.toNat : Nat) : Int) = ((r34_3.Kind.toNat : Nat) : Int)) && (decide (r22_2.N = r34_3.N) && (decide (r22_2.Bits = r34_3.Bits) && (decide ((toS r22_2.Text) = (toS r34_3.Text)) && true))))) (by kernel_rfl) (by kernel_rfl) (by kernel_rfl) (by kernel_rfl) (by kernel_rfl))) ?_
      refine Wy (.d (.lit (.bool v35_3))) [] (OpF rfl) ?_
      rcases tf_ v35_3 with hq37_3 | hq37_3
      · replace hm := cT hq37_3 hm
        refine Wy (.d (.lit (.bool true))) [] (Ocs (lit_tf (b := v35_3) hq37_3) (Omv rfl)) ?_
        refine Wn ?_
        refine Wn ?_
        refine Wn ?_
        refine Wn ?_
        refine Wy (.d (.lit (.bool true))) [] (OpT rfl) ?_
        refine Wy (.d (.lit (.bool true))) [] (Omv rfl) ?_
        refine Wn ?_
        refine Wn ?_
        refine Wn ?_
        refine Wn ?_
        refine Wy (.d (.lit (.bool true))) [] (OpT rfl) ?_
        refine Wdr ?_
        refine Then.normal ?_
        exact AWP.weak (Weak.toK 281474976714498 0 0 [0, 1, 2, 3]) (J4 () hm)
      · replace hm := cF hq37_3 hm
        refine Wy (.d (.lit (.bool false))) [] (Ocs (lit_tf (b := v35_3) hq37_3) (Omv rfl)) ?_
        refine Wy (.agg [(.d (byteD r24_2.Kind)), (.d (.lit (.int .i64 r24_2.N))), (.d (.lit (.int .u64 r24_2.Bits))), (.d (.lit (.string (toS r24_2.Text))))]) [] (Old rfl) ?_
        refine Wy (.d (.lit (.int .u64 p1))) [] (Omv rfl) ?_
        obtain ⟨r40_3, hr40_3, hm⟩ := bnd hm
        refine Wy (.agg [(.d (byteD r40_3.Kind)), (.d (.lit (.int .i64 r40_3.N))), (.d (.lit (.int .u64 r40_3.Bits))), (.d (.lit (.string (toS r40_3.Text))))]) [] (Ocf [] [] [] 0 (ok_telltaleref04_OfReal p1 r40_3 hr40_3) (fun a w => Try.call24 a w) rfl trivial) ?_
        obtain ⟨v41_3, hv41_3, hm⟩ := bnd hm; replace hv41_3 := Option.some.inj hv41_3
        refine Wy (.d (.lit (.bool v41_3))) [] (Ocs (Eq.trans (lit_tf (by simp only [toS_inj])) (congrArg (fun z => A.d (.lit (.bool z))) hv41_3)) (op_neq_struct rfl (la := [(.d (byteD r24_2.Kind)), (.d (.lit (.int .i64 r24_2.N))), (.d (.lit (.int .u64 r24_2.Bits))), (.d (.lit (.string (toS r24_2.Text))))]) (lb := [(.d (byteD r40_3.Kind)), (.d (.lit (.int .i64 r40_3.N))), (.d (.lit (.int .u64 r40_3.Bits))), (.d (.lit (.string (toS r40_3.Text))))]) (us := [.int .u8 ((r24_2.Kind.toNat : Nat) : Int), .int .i64 r24_2.N, .int .u64 r24_2.Bits, .string (toS r24_2.Text)]) (vs := [.int .u8 ((r40_3.Kind.toNat : Nat) : Int), .int .i64 r40_3.N, .int .u64 r40_3.Bits, .string (toS r40_3.Text)]) (r := (decide (((r24_2.Kind.toNat : Nat) : Int) = ((r40_3.Kind.toNat : Nat) : Int)) && (decide (r24_2.N = r40_3.N) && (decide (r24_2.Bits = r40_3.Bits) && (decide ((toS r24_2.Text) = (toS r40_3.Text)) && true))))) (by kernel_rfl) (by kernel_rfl) (by kernel_rfl) (by kernel_rfl) (by kernel_rfl))) ?_
        refine Wy (.d (.lit (.bool v41_3))) [] (OpF rfl) ?_
        rcases tf_ v41_3 with hq43_3 | hq43_3
        · replace hm := cT hq43_3 hm
          refine Wy (.d (.lit (.bool true))) [] (Ocs (lit_tf (b := v41_3) hq43_3) (Omv rfl)) ?_
          refine Wn ?_
          refine Wn ?_
          refine Wn ?_
          refine Wn ?_
          refine Wy (.d (.lit (.bool true))) [] (OpT rfl) ?_
          refine Wdr ?_
          refine Then.normal ?_
          exact AWP.weak (Weak.toK 281474976714498 0 0 [0, 1, 2, 3]) (J4 () hm)
        · replace hm := cF hq43_3 hm
          refine Wy (.d (.lit (.bool false))) [] (Ocs (lit_tf (b := v41_3) hq43_3) (Omv rfl)) ?_
          refine Wy (.agg [(.d (byteD r26_2.Kind)), (.d (.lit (.int .i64 r26_2.N))), (.d (.lit (.int .u64 r26_2.Bits))), (.d (.lit (.string (toS r26_2.Text))))]) [] (Old rfl) ?_
          refine Wy (.d (.lit (.string (toS p2)))) [] (Omv rfl) ?_
          obtain ⟨r46_3, hr46_3, hm⟩ := bnd hm
          refine Wy (.agg [(.d (byteD r46_3.Kind)), (.d (.lit (.int .i64 r46_3.N))), (.d (.lit (.int .u64 r46_3.Bits))), (.d (.lit (.string (toS r46_3.Text))))]) [] (Ocf [] [] [] 0 (ok_telltaleref04_OfText p2 r46_3 hr46_3) (fun a w => Try.call25 a w) rfl trivial) ?_
          obtain ⟨v47_3, hv47_3, hm⟩ := bnd hm; replace hv47_3 := Option.some.inj hv47_3
          refine Wy (.d (.lit (.bool v47_3))) [] (Ocs (Eq.trans (lit_tf (by simp only [toS_inj])) (congrArg (fun z => A.d (.lit (.bool z))) hv47_3)) (op_neq_struct rfl (la := [(.d (byteD r26_2.Kind)), (.d (.lit (.int .i64 r26_2.N))), (.d (.lit (.int .u64 r26_2.Bits))), (.d (.lit (.string (toS r26_2.Text))))]) (lb := [(.d (byteD r46_3.Kind)), (.d (.lit (.int .i64 r46_3.N))), (.d (.lit (.int .u64 r46_3.Bits))), (.d (.lit (.string (toS r46_3.Text))))]) (us := [.int .u8 ((r26_2.Kind.toNat : Nat) : Int), .int .i64 r26_2.N, .int .u64 r26_2.Bits, .string (toS r26_2.Text)]) (vs := [.int .u8 ((r46_3.Kind.toNat : Nat) : Int), .int .i64 r46_3.N, .int .u64 r46_3.Bits, .string (toS r46_3.Text)]) (r := (decide (((r26_2.Kind.toNat : Nat) : Int) = ((r46_3.Kind.toNat : Nat) : Int)) && (decide (r26_2.N = r46_3.N) && (decide (r26_2.Bits = r46_3.Bits) && (decide ((toS r26_2.Text) = (toS r46_3.Text)) && true))))) (by kernel_rfl) (by kernel_rfl) (by kernel_rfl) (by kernel_rfl) (by kernel_rfl))) ?_
          refine Wy (.d (.lit (.bool v47_3))) [] (OpF rfl) ?_
          refine Wdr ?_
          refine Then.normal ?_
          refine Amk 281474976714498 15 ⟨(tp 1 ((.d (.lit (.int .u64 p1))) :: (tp 6 ((.loc 0 0) :: ((.loc 1 0) :: ((.loc 2 0) :: ((.loc 3 0) :: (tp 36 ((.d (.lit (.bool v47_3))) :: (tp 30 [])))))))))), [(.box [(.d (byteD r20_2.Kind)), (.d (.lit (.int .i64 r20_2.N))), (.d (.lit (.int .u64 r20_2.Bits))), (.d (.lit (.string (toS r20_2.Text))))]), (.box [(.d (byteD r22_2.Kind)), (.d (.lit (.int .i64 r22_2.N))), (.d (.lit (.int .u64 r22_2.Bits))), (.d (.lit (.string (toS r22_2.Text))))]), (.box [(.d (byteD r24_2.Kind)), (.d (.lit (.int .i64 r24_2.N))), (.d (.lit (.int .u64 r24_2.Bits))), (.d (.lit (.string (toS r24_2.Text))))]), (.box [(.d (byteD r26_2.Kind)), (.d (.lit (.int .i64 r26_2.N))), (.d (.lit (.int .u64 r26_2.Bits))), (.d (.lit (.string (toS r26_2.Text))))])], 0⟩ ?_
          rcases tf_ v47_3 with hc48_7 | hc48_7
          · replace hm := cT hc48_7 hm
            refine AWP.if_ true (Eq.trans (by kernel_rfl) (lit_tf (b := v47_3) hc48_7)) ?_
            refine AWP.seq ?_
            refine AWP.text ?_
            refine Wy (.d (.lit (.bool false))) [] (Omv rfl) ?_
            refine Walk.nil ?_
            refine Then.normal ?_
            refine AWP.ret ?_
            refine Then.ret ?_
            obtain rfl := Option.some.inj hm
            exact ret_i []
          · replace hm := cF hc48_7 hm
            refine AWP.if_ false (Eq.trans (by kernel_rfl) (lit_tf (b := v47_3) hc48_7)) ?_
            refine AWP.skip ?_
            refine Then.normal ?_
            refine Amk 3842 15 ⟨(tp 1 ((.d (.lit (.int .u64 p1))) :: (tp 6 ((.loc 0 0) :: ((.loc 1 0) :: ((.loc 2 0) :: ((.loc 3 0) :: (tp 67 [])))))))), [(.box [(.d (byteD r20_2.Kind)), (.d (.lit (.int .i64 r20_2.N))), (.d (.lit (.int .u64 r20_2.Bits))), (.d (.lit (.string (toS r20_2.Text))))]), (.box [(.d (byteD r22_2.Kind)), (.d (.lit (.int .i64 r22_2.N))), (.d (.lit (.int .u64 r22_2.Bits))), (.d (.lit (.string (toS r22_2.Text))))]), (.box [(.d (byteD r24_2.Kind)), (.d (.lit (.int .i64 r24_2.N))), (.d (.lit (.int .u64 r24_2.Bits))), (.d (.lit (.string (toS r24_2.Text))))]), (.box [(.d (byteD r26_2.Kind)), (.d (.lit (.int .i64 r26_2.N))), (.d (.lit (.int .u64 r26_2.Bits))), (.d (.lit (.string (toS r26_2.Text))))])], 0⟩ ?_
            refine AWP.seq ?_
            refine AWP.text ?_
            refine Wy (.agg [(.d (byteD r20_2.Kind)), (.d (.lit (.int .i64 r20_2.N))), (.d (.lit (.int .u64 r20_2.Bits))), (.d (.lit (.string (toS r20_2.Text))))]) [] (Old rfl) ?_
            obtain ⟨r50_5, hr50_5, hm⟩ := bnd hm
            refine Wy (.d (.lit (.int .i64 r50_5))) [] (Ocf [] [] [] 0 (ok_value_Check r20_2 r50_5 hr50_5) (fun a w => Try.call12 a w) rfl trivial) ?_
            refine Wy (.d (.lit (.bool (decide (r50_5 = 0))))) [] (Obn rfl (fun _ => hb_eql (k := .i64))) ?_
            rcases tf_ (decide (r50_5 = 0)) with hq52_5 | hq52_5
            · replace hm := cT hq52_5 hm
              refine Wy (.d (.lit (.bool true))) [] (Ocs (lit_tf (b := decide (r50_5 = 0)) hq52_5) (Omv rfl)) ?_
              refine Wy (.agg [(.d (byteD r22_2.Kind)), (.d (.lit (.int .i64 r22_2.N))), (.d (.lit (.int .u64 r22_2.Bits))), (.d (.lit (.string (toS r22_2.Text))))]) [] (Old rfl) ?_
              obtain ⟨r54_5, hr54_5, hm⟩ := bnd hm
              refine Wy (.d (.lit (.int .i64 r54_5))) [] (Ocf [] [] [] 0 (ok_value_Check r22_2 r54_5 hr54_5) (fun a w => Try.call12 a w) rfl trivial) ?_
              refine Wy (.d (.lit (.bool (decide (r54_5 = 0))))) [] (Obn rfl (fun _ => hb_eql (k := .i64))) ?_
              refine Wy (.d (.lit (.bool (decide (r54_5 = 0))))) [] (OpT rfl) ?_
              rcases tf_ (decide (r54_5 = 0)) with hq57_5 | hq57_5
              · replace hm := cT hq57_5 hm
                refine Wy (.d (.lit (.bool true))) [] (Ocs (lit_tf (b := decide (r54_5 = 0)) hq57_5) (Omv rfl)) ?_
                refine Wy (.agg [(.d (byteD r24_2.Kind)), (.d (.lit (.int .i64 r24_2.N))), (.d (.lit (.int .u64 r24_2.Bits))), (.d (.lit (.string (toS r24_2.Text))))]) [] (Old rfl) ?_
                obtain ⟨r59_5, hr59_5, hm⟩ := bnd hm
                refine Wy (.d (.lit (.int .i64 r59_5))) [] (Ocf [] [] [] 0 (ok_value_Check r24_2 r59_5 hr59_5) (fun a w => Try.call12 a w) rfl trivial) ?_
                refine Wy (.d (.lit (.bool (decide (r59_5 = 0))))) [] (Obn rfl (fun _ => hb_eql (k := .i64))) ?_
                refine Wy (.d (.lit (.bool (decide (r59_5 = 0))))) [] (OpT rfl) ?_
                rcases tf_ (decide (r59_5 = 0)) with hq62_5 | hq62_5
                · replace hm := cT hq62_5 hm
                  refine Wy (.d (.lit (.bool true))) [] (Ocs (lit_tf (b := decide (r59_5 = 0)) hq62_5) (Omv rfl)) ?_
                  refine Wy (.agg [(.d (byteD r26_2.Kind)), (.d (.lit (.int .i64 r26_2.N))), (.d (.lit (.int .u64 r26_2.Bits))), (.d (.lit (.string (toS r26_2.Text))))]) [] (Old rfl) ?_
                  obtain ⟨r64_5, hr64_5, hm⟩ := bnd hm
                  refine Wy (.d (.lit (.int .i64 r64_5))) [] (Ocf [] [] [] 0 (ok_value_Check r26_2 r64_5 hr64_5) (fun a w => Try.call12 a w) rfl trivial) ?_
                  refine Wy (.d (.lit (.bool (decide (r64_5 = 0))))) [] (Obn rfl (fun _ => hb_eql (k := .i64))) ?_
                  refine Wy (.d (.lit (.bool (decide (r64_5 = 0))))) [] (OpT rfl) ?_
                  rcases tf_ (decide (r64_5 = 0)) with hq67_5 | hq67_5
                  · replace hm := cT hq67_5 hm
                    refine Wy (.d (.lit (.bool true))) [] (Ocs (lit_tf (b := decide (r64_5 = 0)) hq67_5) (Omv rfl)) ?_
                    refine Wy (.d (.lit (.int .u64 p1))) [] (Omv rfl) ?_
                    refine Wy (.d (byteD (toU8 p1))) [] (Ocs (lit_int (u8w _)) (op_convert rfl (a1 := .int .u64 p1) (by kernel_rfl) (run_conv (ds := .int .u64) (k' := .u8) (by kernel_rfl) (by kernel_rfl)))) ?_
                    obtain ⟨r70_5, hr70_5, hm⟩ := bnd hm
                    refine Wy (.d (.lit (.string (toS r70_5)))) [] (Ocf [] [] [] 0 (ok_value_Word (toU8 p1) r70_5 hr70_5) (fun a w => Try.call26 a w) rfl trivial) ?_
                    refine Wy (.d (.lit (.int .u64 p1))) [] (Omv rfl) ?_
                    refine Wy (.d (byteD (toU8 p1))) [] (Ocs (lit_int (u8w _)) (op_convert rfl (a1 := .int .u64 p1) (by kernel_rfl) (run_conv (ds := .int .u64) (k' := .u8) (by kernel_rfl) (by kernel_rfl)))) ?_
                    obtain ⟨r73_5, hr73_5, hm⟩ := bnd hm
                    refine Wy (.d (.lit (.string (toS r73_5)))) [] (Ocf [] [] [] 0 (ok_telltaleref04_Word (toU8 p1) r73_5 hr73_5) (fun a w => Try.call27 a w) rfl trivial) ?_
                    refine Wy (.d (.lit (.bool (decide (r70_5 = r73_5))))) [] (Ocs (lit_tf (by simp only [toS_inj, ne_eq])) (op_bin rfl (a1 := .string (toS r70_5)) (a2 := .string (toS r73_5)) (by kernel_rfl) (by kernel_rfl) (fun _ => hb_seql))) ?_
                    refine Wy (.d (.lit (.bool (decide (r70_5 = r73_5))))) [] (OpT rfl) ?_
                    rcases tf_ (decide (r70_5 = r73_5)) with hq76_5 | hq76_5
                    · replace hm := cT hq76_5 hm
                      refine Wy (.d (.lit (.bool true))) [] (Ocs (lit_tf (b := decide (r70_5 = r73_5)) hq76_5) (Omv rfl)) ?_
                      obtain ⟨r77_5, hr77_5, hm⟩ := bnd hm
                      refine Wy (.d (.lit (.bool r77_5))) [] (Ocf [] [] [] 0 (ok_telltalelaw04_awake  r77_5 hr77_5) (fun a w => Try.call9 a w) rfl trivial) ?_
                      refine Wy (.d (.lit (.bool r77_5))) [] (OpT rfl) ?_
                      refine Wy (.d (.lit (.bool r77_5))) [] (Omv rfl) ?_
                      refine Walk.nil ?_
                      refine Then.normal ?_
                      refine AWP.ret ?_
                      obtain rfl := Option.some.inj hm
                      exact ret_i []
                    · replace hm := cF hq76_5 hm
                      refine Wy (.d (.lit (.bool false))) [] (Ocs (lit_tf (b := decide (r70_5 = r73_5)) hq76_5) (Omv rfl)) ?_
                      refine Wn ?_
                      refine Wy (.d (.lit (.bool false))) [] (OpF rfl) ?_
                      refine Wy (.d (.lit (.bool false))) [] (Omv rfl) ?_
                      refine Walk.nil ?_
                      refine Then.normal ?_
                      refine AWP.ret ?_
                      obtain rfl := Option.some.inj hm
                      exact ret_i []
                  · replace hm := cF hq67_5 hm
                    refine Wy (.d (.lit (.bool false))) [] (Ocs (lit_tf (b := decide (r64_5 = 0)) hq67_5) (Omv rfl)) ?_
                    refine Wn ?_
                    refine Wn ?_
                    refine Wn ?_
                    refine Wn ?_
                    refine Wn ?_
                    refine Wn ?_
                    refine Wn ?_
                    refine Wy (.d (.lit (.bool false))) [] (OpF rfl) ?_
                    refine Wy (.d (.lit (.bool false))) [] (Omv rfl) ?_
                    refine Wn ?_
                    refine Wy (.d (.lit (.bool false))) [] (OpF rfl) ?_
                    refine Wy (.d (.lit (.bool false))) [] (Omv rfl) ?_
                    refine Walk.nil ?_
                    refine Then.normal ?_
                    refine AWP.ret ?_
                    obtain rfl := Option.some.inj hm
                    exact ret_i []
                · replace hm := cF hq62_5 hm
                  refine Wy (.d (.lit (.bool false))) [] (Ocs (lit_tf (b := decide (r59_5 = 0)) hq62_5) (Omv rfl)) ?_
                  refine Wn ?_
                  refine Wn ?_
                  refine Wn ?_
                  refine Wy (.d (.lit (.bool false))) [] (OpF rfl) ?_
                  refine Wy (.d (.lit (.bool false))) [] (Omv rfl) ?_
                  refine Wn ?_
                  refine Wn ?_
                  refine Wn ?_
                  refine Wn ?_
                  refine Wn ?_
                  refine Wn ?_
                  refine Wn ?_
                  refine Wy (.d (.lit (.bool false))) [] (OpF rfl) ?_
                  refine Wy (.d (.lit (.bool false))) [] (Omv rfl) ?_
                  refine Wn ?_
                  refine Wy (.d (.lit (.bool false))) [] (OpF rfl) ?_
                  refine Wy (.d (.lit (.bool false))) [] (Omv rfl) ?_
                  refine Walk.nil ?_
                  refine Then.normal ?_
                  refine AWP.ret ?_
                  obtain rfl := Option.some.inj hm
                  exact ret_i []
              · replace hm := cF hq57_5 hm
                refine Wy (.d (.lit (.bool false))) [] (Ocs (lit_tf (b := decide (r54_5 = 0)) hq57_5) (Omv rfl)) ?_
                refine Wn ?_
                refine Wn ?_
                refine Wn ?_
                refine Wy (.d (.lit (.bool false))) [] (OpF rfl) ?_
                refine Wy (.d (.lit (.bool false))) [] (Omv rfl) ?_
                refine Wn ?_
                refine Wn ?_
                refine Wn ?_
                refine Wy (.d (.lit (.bool false))) [] (OpF rfl) ?_
                refine Wy (.d (.lit (.bool false))) [] (Omv rfl) ?_
                refine Wn ?_
                refine Wn ?_
                refine Wn ?_
                refine Wn ?_
                refine Wn ?_
                refine Wn ?_
                refine Wn ?_
                refine Wy (.d (.lit (.bool false))) [] (OpF rfl) ?_
                refine Wy (.d (.lit (.bool false))) [] (Omv rfl) ?_
                refine Wn ?_
                refine Wy (.d (.lit (.bool false))) [] (OpF rfl) ?_
                refine Wy (.d (.lit (.bool false))) [] (Omv rfl) ?_
                refine Walk.nil ?_
                refine Then.normal ?_
                refine AWP.ret ?_
                obtain rfl := Option.some.inj hm
                exact ret_i []
            · replace hm := cF hq52_5 hm
              refine Wy (.d (.lit (.bool false))) [] (Ocs (lit_tf (b := decide (r50_5 = 0)) hq52_5) (Omv rfl)) ?_
              refine Wn ?_
              refine Wn ?_
              refine Wn ?_
              refine Wy (.d (.lit (.bool false))) [] (OpF rfl) ?_
              refine Wy (.d (.lit (.bool false))) [] (Omv rfl) ?_
              refine Wn ?_
              refine Wn ?_
              refine Wn ?_
              refine Wy (.d (.lit (.bool false))) [] (OpF rfl) ?_
              refine Wy (.d (.lit (.bool false))) [] (Omv rfl) ?_
              refine Wn ?_
              refine Wn ?_
              refine Wn ?_
              refine Wy (.d (.lit (.bool false))) [] (OpF rfl) ?_
              refine Wy (.d (.lit (.bool false))) [] (Omv rfl) ?_
              refine Wn ?_
              refine Wn ?_
              refine Wn ?_
              refine Wn ?_
              refine Wn ?_
              refine Wn ?_
              refine Wn ?_
              refine Wy (.d (.lit (.bool false))) [] (OpF rfl) ?_
              refine Wy (.d (.lit (.bool false))) [] (Omv rfl) ?_
              refine Wn ?_
              refine Wy (.d (.lit (.bool false))) [] (OpF rfl) ?_
              refine Wy (.d (.lit (.bool false))) [] (Omv rfl) ?_
              refine Walk.nil ?_
              refine Then.normal ?_
              refine AWP.ret ?_
              obtain rfl := Option.some.inj hm
              exact ret_i []

set_option maxRecDepth 20000 in
set_option maxHeartbeats 4000000 in
theorem ok_telltalelaw04_Small (p0 : GValue) (r : Int) (h : m_telltalelaw04_Small p0 = some r) : GCall Try.prog 8 [(.agg [(.d (byteD p0.Kind)), (.d (.lit (.int .i64 p0.N))), (.d (.lit (.int .u64 p0.Bits))), (.d (.lit (.string (toS p0.Text))))])] [] (.d (.lit (.int .i64 r))) [] := by
  refine GCall.of_body (n := 8) (rs := [(.tmp 2)]) Try.func8 rfl rfl rfl ?_
  refine Ato ⟨((.agg [(.d (byteD p0.Kind)), (.d (.lit (.int .i64 p0.N))), (.d (.lit (.int .u64 p0.Bits))), (.d (.lit (.string (toS p0.Text))))]) :: (tu 7 [])), [], 0⟩ ?_
  have hm := h
  unfold m_telltalelaw04_Small at hm
  refine AWP.seq ?_
  refine AWP.text ?_
  refine Wy (.loc 0 0) [(0, (.box [(.d (byteD p0.Kind)), (.d (.lit (.int .i64 p0.N))), (.d (.lit (.int .u64 p0.Bits))), (.d (.lit (.string (toS p0.Text))))]))] (Obx rfl) ?_
  refine Wy (.d (.lit (.int .i64 0))) [] (Omv rfl) ?_
  refine Walk.nil ?_
  refine Then.normal ?_
  refine Amk 2 1 ⟨(tp 1 ((.loc 0 0) :: (tp 6 []))), [(.box [(.d (byteD p0.Kind)), (.d (.lit (.int .i64 p0.N))), (.d (.lit (.int .u64 p0.Bits))), (.d (.lit (.string (toS p0.Text))))])], 0⟩ ?_
  refine AWP.seq ?_
  refine AWP.text ?_
  refine Wy (.loc 0 3) [] (Ofa rfl) ?_
  refine Wy (.d (.lit (.string (toS p0.Text)))) [] (Old rfl) ?_
  refine Wy (.d (.lit (.int .i64 ((List.length p0.Text : Nat) : Int)))) [] (Oln rfl) ?_
  refine Wy (.d (.lit (.int .i64 (IntKind.i64.wrap (((List.length p0.Text : Nat) : Int) - 100))))) [] (Obn rfl (fun _ => hb_sub (k := .i64))) ?_
  refine Wy (.d (.lit (.int .i64 (max 0 (IntKind.i64.wrap (((List.length p0.Text : Nat) : Int) - 100)))))) [] (op_bi2 rfl (a1 := .int .i64 0) (a2 := .int .i64 (IntKind.i64.wrap (((List.length p0.Text : Nat) : Int) - 100))) (by kernel_rfl) (by kernel_rfl) hb_max) ?_
  refine Wy (.d (.lit (.int .i64 (max 0 (IntKind.i64.wrap (((List.length p0.Text : Nat) : Int) - 100)))))) [] (Omv rfl) ?_
  refine Walk.nil ?_
  refine Then.normal ?_
  refine AWP.ret ?_
  obtain rfl := Option.some.inj hm
  exact ret_i []

set_option maxRecDepth 20000 in
set_option maxHeartbeats 4000000 in
theorem ok_value_Put_m2 (p0 : (List UInt8)) (p1 : GValue) (r : ((List UInt8) × Int)) (h : m_value_Put p0 p1 = some r) : GCall Try.prog 10 [(.d (.sl (List.length p0) (flatD encU8 p0))), (.agg [(.d (byteD p1.Kind)), (.d (.lit (.int .i64 p1.N))), (.d (.lit (.int .u64 p1.Bits))), (.d (.lit (.string (toS p1.Text))))])] [] (.tup [(.own 0), (.d (.lit (.int .i64 r.2)))]) [(.arr 5 1 (List.length r.1) (flatD encU8 r.1))] := by
  refine GCall.of_body (n := 58) (rs := [(.tmp 4), (.tmp 5)]) Try.func10 rfl rfl rfl ?_
  refine Ato ⟨((.d (.sl (List.length p0) (flatD encU8 p0))) :: ((.agg [(.d (byteD p1.Kind)), (.d (.lit (.int .i64 p1.N))), (.d (.lit (.int .u64 p1.Bits))), (.d (.lit (.string (toS p1.Text))))]) :: (tu 56 []))), [], 0⟩ ?_
  have hm := h
  unfold m_value_Put at hm
  refine AWP.seq ?_
  refine AWP.text ?_
  refine Wy (.loc 0 0) [(0, (.box [(.d (byteD p1.Kind)), (.d (.lit (.int .i64 p1.N))), (.d (.lit (.int .u64 p1.Bits))), (.d (.lit (.string (toS p1.Text))))]))] (Obx rfl) ?_
  refine Wy (.d .nil) [] (Omv rfl) ?_
  refine Wy (.d (.lit (.int .i64 0))) [] (Omv rfl) ?_
  refine Walk.nil ?_
  refine Then.normal ?_
  refine Amk 9 1 ⟨((.d (.sl (List.length p0) (flatD encU8 p0))) :: (tp 2 ((.loc 0 0) :: (tp 54 [])))), [(.box [(.d (byteD p1.Kind)), (.d (.lit (.int .i64 p1.N))), (.d (.lit (.int .u64 p1.Bits))), (.d (.lit (.string (toS p1.Text))))])], 0⟩ ?_
  refine AWP.seq ?_
  refine AWP.seq ?_
  refine AWP.text ?_
  refine Wy (.agg [(.d (byteD p1.Kind)), (.d (.lit (.int .i64 p1.N))), (.d (.lit (.int .u64 p1.Bits))), (.d (.lit (.string (toS p1.Text))))]) [] (Old rfl) ?_
  obtain ⟨r9_0, hr9_0, hm⟩ := bnd hm
  refine Wy (.d (.lit (.int .i64 r9_0))) [] (Ocf [] [] [] 0 (ok_value_Check p1 r9_0 hr9_0) (fun a w => Try.call12 a w) rfl trivial) ?_
  refine Wy (.d (.lit (.int .i64 r9_0))) [] (Omv rfl) ?_
  refine Walk.nil ?_
  refine Then.normal ?_
  refine Amk 73 1 ⟨((.d (.sl (List.length p0) (flatD encU8 p0))) :: (tp 2 ((.loc 0 0) :: (tp 2 ((.d (.lit (.int .i64 r9_0))) :: (tp 51 [])))))), [(.box [(.d (byteD p1.Kind)), (.d (.lit (.int .i64 p1.N))), (.d (.lit (.int .u64 p1.Bits))), (.d (.lit (.string (toS p1.Text))))])], 0⟩ ?_
  refine AWP.seq ?_
  refine AWP.text ?_
  refine Wy (.d (.lit (.int .i64 r9_0))) [] (Omv rfl) ?_
  refine Wy (.d (.lit (.bool (decide (r9_0 ≠ 0))))) [] (Obn rfl (fun _ => hb_neq (k := .i64))) ?_
  refine Walk.nil ?_
  refine Then.normal ?_
  refine Amk 2121 1 ⟨((.d (.sl (List.length p0) (flatD encU8 p0))) :: (tp 2 ((.loc 0 0) :: (tp 2 ((.d (.lit (.int .i64 r9_0))) :: (tp 4 ((.d (.lit (.bool (decide (r9_0 ≠ 0))))) :: (tp 46 [])))))))), [(.box [(.d (byteD p1.Kind)), (.d (.lit (.int .i64 p1.N))), (.d (.lit (.int .u64 p1.Bits))), (.d (.lit (.string (toS p1.Text))))])], 0⟩ ?_
  rcases tf_ (decide (r9_0 ≠ 0)) with hc11_8 | hc11_8
  · replace hm := cT hc11_8 hm
    refine AWP.if_ true (Eq.trans (by kernel_rfl) (lit_tf (b := decide (r9_0 ≠ 0)) hc11_8)) ?_
    refine AWP.seq ?_
    refine AWP.text ?_
    refine Wy (.d (.lit (.int .i64 r9_0))) [] (Omv rfl) ?_
    refine Wy (.d .nil) [] (Omv rfl) ?_
    refine Wy (.d (.lit (.int .i64 r9_0))) [] (Omv rfl) ?_
    refine Walk.nil ?_
    refine Then.normal ?_
    refine Aow 4 5 1 ⟨((.d (.sl (List.length p0) (flatD encU8 p0))) :: (tp 2 ((.loc 0 0) :: ((.own 1) :: ((.d (.lit (.int .i64 r9_0))) :: ((.d (.lit (.int .i64 r9_0))) :: (tp 4 ((.d (.lit (.bool (decide (r9_0 ≠ 0))))) :: ((.d (.lit (.int .i64 r9_0))) :: (tp 45 [])))))))))), [(.box [(.d (byteD p1.Kind)), (.d (.lit (.int .i64 p1.N))), (.d (.lit (.int .u64 p1.Bits))), (.d (.lit (.string (toS p1.Text))))]), (.arr 5 1 (List.length ([] : List UInt8)) (flatD encU8 ([] : List UInt8)))], 0⟩ ?_
    refine AWP.ret ?_
    refine Then.ret ?_
    obtain rfl := Option.some.inj hm
    exact ret_i [1]
  · replace hm := cF hc11_8 hm
    refine AWP.if_ false (Eq.trans (by kernel_rfl) (lit_tf (b := decide (r9_0 ≠ 0)) hc11_8)) ?_
    refine AWP.skip ?_
    refine Then.normal ?_
    refine Amk 9 1 ⟨((.d (.sl (List.length p0) (flatD encU8 p0))) :: (tp 2 ((.loc 0 0) :: (tp 54 [])))), [(.box [(.d (byteD p1.Kind)), (.d (.lit (.int .i64 p1.N))), (.d (.lit (.int .u64 p1.Bits))), (.d (.lit (.string (toS p1.Text))))])], 0⟩ ?_
    refine AWP.seq ?_
    refine AWP.text ?_
    refine Wy (.d (.sl (List.length p0) (flatD encU8 p0))) [] (Omv rfl) ?_
    refine Wy (.d (.lit (.int .i64 ((List.length p0 : Nat) : Int)))) [] (Oln rfl) ?_
    refine Wy (.d (.sl (List.length p0) (flatD encU8 p0))) [] (Omv rfl) ?_
    refine Wy (.d (.lit (.int .i64 ((List.length p0 : Nat) : Int)))) [] (Oln rfl) ?_
    refine Wy (.d (.lit (.int .i64 (IntKind.i64.wrap (((List.length p0 : Nat) : Int) + 1))))) [] (Obn rfl (fun _ => hb_add (k := .i64))) ?_
    obtain ⟨m18_1, hm18_1, hm⟩ := bnd hm; obtain ⟨hm18_1i, hm18_1j, hm18_1l, hm18_1k, hm18_1e⟩ := mkc_some hm18_1
    refine Wy (.own 1) [(1, (.arr 5 1 (List.length m18_1) (flatD encU8 m18_1)))] (OcB (op_makeC rfl elemOK_25 (by kernel_rfl) (kl := .i64) (kc := .i64) (L := ((List.length p0 : Nat) : Int)) (C := (IntKind.i64.wrap (((List.length p0 : Nat) : Int) + 1))) (by kernel_rfl) (by kernel_rfl) (n := Int.toNat ((List.length p0 : Nat) : Int)) (cp := Int.toNat (IntKind.i64.wrap (((List.length p0 : Nat) : Int) + 1))) hm18_1i hm18_1j hm18_1l (by omega) (by kernel_rfl)) (bl_one (by rw [hm18_1e]; simp) (by rw [hm18_1e]; exact (flat_rep (by kernel_rfl))))) ?_
    refine Wy (.own 1) [] (Omv rfl) ?_
    refine Walk.nil ?_
    refine Then.normal ?_
    refine Amk 137 3 ⟨((.d (.sl (List.length p0) (flatD encU8 p0))) :: (tp 2 ((.loc 0 0) :: (tp 3 ((.own 1) :: (tp 50 [])))))), [(.box [(.d (byteD p1.Kind)), (.d (.lit (.int .i64 p1.N))), (.d (.lit (.int .u64 p1.Bits))), (.d (.lit (.string (toS p1.Text))))]), (.arr 5 1 (List.length m18_1) (flatD encU8 m18_1))], 0⟩ ?_
    refine AWP.seq ?_
    refine AWP.text ?_
    refine Wy (.own 1) [] (Omv rfl) ?_
    refine Wy (.d (.sl (List.length p0) (flatD encU8 p0))) [] (Omv rfl) ?_
    obtain ⟨c21_2, hc21_2, hm⟩ := bnd hm; obtain ⟨hc21_2e, hc21_2l⟩ := cpy_some hc21_2
    refine Wy (.d (.lit (.int .i64 ((List.length p0 : Nat) : Int)))) [(1, (.arr 5 1 (List.length c21_2) (flatD encU8 c21_2)))] (OcB (Ocs (by kernel_rfl) (op_copy rfl (e := 5) (sz := 1) (by kernel_rfl) (yd := (.own 1)) (by kernel_rfl) (id := 1) (off := 0) (dn := List.length m18_1) (by kernel_rfl) (n := List.length m18_1) (xs := flatD encU8 m18_1) (by kernel_rfl) (y := (.d (.sl (List.length p0) (flatD encU8 p0)))) (by kernel_rfl) (ds := flatD encU8 p0) (soff := 0) (k := List.length p0) (by kernel_rfl) (es := flatD encU8 p0) (flat_all encU8_len) (flatD_length encU8_len _) hc21_2l (cpy_fit encU8_len hc21_2l) (by decide))) (bl_one (cpy_len hc21_2e hc21_2l) (by rw [hc21_2e]; exact cpy_put encU8_len hc21_2l))) ?_
    refine Walk.nil ?_
    refine Then.normal ?_
    refine Amk 136 3 ⟨(tp 3 ((.loc 0 0) :: (tp 3 ((.own 1) :: (tp 50 []))))), [(.box [(.d (byteD p1.Kind)), (.d (.lit (.int .i64 p1.N))), (.d (.lit (.int .u64 p1.Bits))), (.d (.lit (.string (toS p1.Text))))]), (.arr 5 1 (List.length c21_2) (flatD encU8 c21_2))], 0⟩ ?_
    refine AWP.seq ?_
    refine AWP.text ?_
    refine Wy (.own 1) [] (Omv rfl) ?_
    refine Wy (.loc 0 0) [] (Ofa rfl) ?_
    refine Wy (.d (byteD p1.Kind)) [] (Old rfl) ?_
    refine Wy (.own 2) [(2, (.arr 5 1 (List.length ([p1.Kind] : List UInt8)) (flatD encU8 ([p1.Kind] : List UInt8))))] (Obs rfl) ?_
    obtain ⟨a26_3, ha26_3, hm⟩ := bnd hm; obtain ⟨ha26_3e, ha26_3l⟩ := app_some ha26_3
    refine Wy (.own 3) [(1, .gone), (3, (.arr 5 1 (List.length a26_3) (flatD encU8 a26_3)))] (Oap rfl elemOK_25 encU8_len ha26_3e ha26_3l) ?_
    refine Wy (.own 3) [] (Omv rfl) ?_
    refine Walk.nil ?_
    refine Then.normal ?_
    refine Amk 136 9 ⟨(tp 3 ((.loc 0 0) :: (tp 3 ((.own 3) :: (tp 50 []))))), [(.box [(.d (byteD p1.Kind)), (.d (.lit (.int .i64 p1.N))), (.d (.lit (.int .u64 p1.Bits))), (.d (.lit (.string (toS p1.Text))))]), .gone, .gone, (.arr 5 1 (List.length a26_3) (flatD encU8 a26_3))], 0⟩ ?_
    refine AWP.seq ?_
    refine AWP.seq ?_
    refine AWP.text ?_
    refine Wy (.loc 0 0) [] (Ofa rfl) ?_
    refine Wy (.d (byteD p1.Kind)) [] (Old rfl) ?_
    refine Walk.nil ?_
    refine Then.normal ?_
    refine Amk 268435592 9 ⟨(tp 3 ((.loc 0 0) :: (tp 3 ((.own 3) :: (tp 20 ((.d (byteD p1.Kind)) :: (tp 29 []))))))), [(.box [(.d (byteD p1.Kind)), (.d (.lit (.int .i64 p1.N))), (.d (.lit (.int .u64 p1.Bits))), (.d (.lit (.string (toS p1.Text))))]), .gone, .gone, (.arr 5 1 (List.length a26_3) (flatD encU8 a26_3))], 0⟩ ?_
    refine AWP.block ?_
    refine AWP.seq ?_
    refine AWP.text ?_
    refine Wy (.d (.lit (.bool (decide (((p1.Kind.toNat : Nat) : Int) = 1))))) [] (Ocs (by kernel_rfl) (op_bin rfl (a1 := .int .u8 ((p1.Kind.toNat : Nat) : Int)) (a2 := .int .u8 1) (by kernel_rfl) (by kernel_rfl) (fun _ => hb_eql))) ?_
    refine Wy (.d (.lit (.bool (decide (((p1.Kind.toNat : Nat) : Int) = 1))))) [] (Omv rfl) ?_
    refine Walk.nil ?_
    refine Then.normal ?_
    refine Amk 805306504 9 ⟨(tp 3 ((.loc 0 0) :: (tp 3 ((.own 3) :: (tp 20 ((.d (byteD p1.Kind)) :: ((.d (.lit (.bool (decide (((p1.Kind.toNat : Nat) : Int) = 1))))) :: (tp 28 [])))))))), [(.box [(.d (byteD p1.Kind)), (.d (.lit (.int .i64 p1.N))), (.d (.lit (.int .u64 p1.Bits))), (.d (.lit (.string (toS p1.Text))))]), .gone, .gone, (.arr 5 1 (List.length a26_3) (flatD encU8 a26_3))], 0⟩ ?_
    rcases tf_ (decide (((p1.Kind.toNat : Nat) : Int) = 1)) with hc29_9 | hc29_9
    · replace hm := cT hc29_9 hm
      refine AWP.if_ true (Eq.trans (by kernel_rfl) (lit_tf (b := decide (((p1.Kind.toNat : Nat) : Int) = 1)) hc29_9)) ?_
      refine AWP.seq ?_
      refine AWP.text ?_
      refine Wy (.own 3) [] (Omv rfl) ?_
      refine Wy (.loc 0 1) [] (Ofa rfl) ?_
      refine Wy (.d (.lit (.int .i64 p1.N))) [] (Old rfl) ?_
      obtain ⟨r34_4, hr34_4, hm⟩ := bnd hm
      refine Wy (.own 4) [(4, (.arr 5 1 (List.length r34_4) (flatD encU8 r34_4)))] (Ocp [] [4] [3] 0 (ok_zig_PutInt a26_3 p1.N r34_4 hr34_4) (⟨by simp [A.Plain, A.Plains, D.Plain, byteD], plain_cons (flat_plain encU8_plain) (plain_nil)⟩) (fun a w => Try.call28 a w) rfl trivial) ?_
      refine Wy (.own 4) [] (Omv rfl) ?_
      refine Wy (.d (.lit (.int .i64 0))) [] (Omv rfl) ?_
      refine Walk.nil ?_
      refine Then.normal ?_
      refine AWP.ret ?_
      refine InBlock.ret ?_
      refine Then.ret ?_
      obtain rfl := Option.some.inj hm
      exact ret_i [4]
    · replace hm := cF hc29_9 hm
      refine AWP.if_ false (Eq.trans (by kernel_rfl) (lit_tf (b := decide (((p1.Kind.toNat : Nat) : Int) = 1)) hc29_9)) ?_
      refine AWP.seq ?_
      refine AWP.text ?_
      refine Wy (.d (.lit (.bool (decide (((p1.Kind.toNat : Nat) : Int) = 2))))) [] (Ocs (by kernel_rfl) (op_bin rfl (a1 := .int .u8 ((p1.Kind.toNat : Nat) : Int)) (a2 := .int .u8 2) (by kernel_rfl) (by kernel_rfl) (fun _ => hb_eql))) ?_
      refine Wy (.d (.lit (.bool (decide (((p1.Kind.toNat : Nat) : Int) = 2))))) [] (Omv rfl) ?_
      refine Walk.nil ?_
      refine Then.normal ?_
      refine Amk 34628173960 9 ⟨(tp 3 ((.loc 0 0) :: (tp 3 ((.own 3) :: (tp 20 ((.d (byteD p1.Kind)) :: (tp 6 ((.d (.lit (.bool (decide (((p1.Kind.toNat : Nat) : Int) = 2))))) :: (tp 22 []))))))))), [(.box [(.d (byteD p1.Kind)), (.d (.lit (.int .i64 p1.N))), (.d (.lit (.int .u64 p1.Bits))), (.d (.lit (.string (toS p1.Text))))]), .gone, .gone, (.arr 5 1 (List.length a26_3) (flatD encU8 a26_3))], 0⟩ ?_
      rcases tf_ (decide (((p1.Kind.toNat : Nat) : Int) = 2)) with hc35_10 | hc35_10
      · replace hm := cT hc35_10 hm
        refine AWP.if_ true (Eq.trans (by kernel_rfl) (lit_tf (b := decide (((p1.Kind.toNat : Nat) : Int) = 2)) hc35_10)) ?_
        refine AWP.seq ?_
        refine AWP.text ?_
        refine Wy (.own 3) [] (Omv rfl) ?_
        refine Wy (.loc 0 1) [] (Ofa rfl) ?_
        refine Wy (.d (.lit (.int .i64 p1.N))) [] (Old rfl) ?_
        refine Wy (.d (byteD (toU8 p1.N))) [] (Ocs (lit_int (u8w _)) (op_convert rfl (a1 := .int .i64 p1.N) (by kernel_rfl) (run_conv (ds := .int .i64) (k' := .u8) (by kernel_rfl) (by kernel_rfl)))) ?_
        refine Wy (.own 4) [(4, (.arr 5 1 (List.length ([(toU8 p1.N)] : List UInt8)) (flatD encU8 ([(toU8 p1.N)] : List UInt8))))] (Obs rfl) ?_
        obtain ⟨a42_5, ha42_5, hm⟩ := bnd hm; obtain ⟨ha42_5e, ha42_5l⟩ := app_some ha42_5
        refine Wy (.own 5) [(3, .gone), (5, (.arr 5 1 (List.length a42_5) (flatD encU8 a42_5)))] (Oap rfl elemOK_25 encU8_len ha42_5e ha42_5l) ?_
        refine Wy (.own 5) [] (Omv rfl) ?_
        refine Wy (.d (.lit (.int .i64 0))) [] (Omv rfl) ?_
        refine Walk.nil ?_
        refine Then.normal ?_
        refine AWP.ret ?_
        refine InBlock.ret ?_
        refine Then.ret ?_
        obtain rfl := Option.some.inj hm
        exact ret_i [5]
      · replace hm := cF hc35_10 hm
        refine AWP.if_ false (Eq.trans (by kernel_rfl) (lit_tf (b := decide (((p1.Kind.toNat : Nat) : Int) = 2)) hc35_10)) ?_
        refine AWP.seq ?_
        refine AWP.text ?_
        refine Wy (.d (.lit (.bool (decide (((p1.Kind.toNat : Nat) : Int) = 3))))) [] (Ocs (by kernel_rfl) (op_bin rfl (a1 := .int .u8 ((p1.Kind.toNat : Nat) : Int)) (a2 := .int .u8 3) (by kernel_rfl) (by kernel_rfl) (fun _ => hb_eql))) ?_
        refine Wy (.d (.lit (.bool (decide (((p1.Kind.toNat : Nat) : Int) = 3))))) [] (Omv rfl) ?_
        refine Walk.nil ?_
        refine Then.normal ?_
        refine Amk 8796093022344 9 ⟨(tp 3 ((.loc 0 0) :: (tp 3 ((.own 3) :: (tp 35 ((.d (.lit (.bool (decide (((p1.Kind.toNat : Nat) : Int) = 3))))) :: (tp 14 []))))))), [(.box [(.d (byteD p1.Kind)), (.d (.lit (.int .i64 p1.N))), (.d (.lit (.int .u64 p1.Bits))), (.d (.lit (.string (toS p1.Text))))]), .gone, .gone, (.arr 5 1 (List.length a26_3) (flatD encU8 a26_3))], 0⟩ ?_
        rcases tf_ (decide (((p1.Kind.toNat : Nat) : Int) = 3)) with hc43_11 | hc43_11
        · replace hm := cT hc43_11 hm
          refine AWP.if_ true (Eq.trans (by kernel_rfl) (lit_tf (b := decide (((p1.Kind.toNat : Nat) : Int) = 3)) hc43_11)) ?_
          refine AWP.seq ?_
          refine AWP.text ?_
          refine Wy (.own 3) [] (Omv rfl) ?_
          refine Wy (.loc 0 2) [] (Ofa rfl) ?_
          refine Wy (.d (.lit (.int .u64 p1.Bits))) [] (Old rfl) ?_
          obtain ⟨r48_6, hr48_6, hm⟩ := bnd hm
          refine Wy (.own 4) [(4, (.arr 5 1 (List.length r48_6) (flatD encU8 r48_6)))] (Ocp [] [4] [3] 0 (ok_octet_Word a26_3 p1.Bits r48_6 hr48_6) (⟨by simp [A.Plain, A.Plains, D.Plain, byteD], plain_cons (flat_plain encU8_plain) (plain_nil)⟩) (fun a w => Try.call29 a w) rfl trivial) ?_
          refine Wy (.own 4) [] (Omv rfl) ?_
          refine Wy (.d (.lit (.int .i64 0))) [] (Omv rfl) ?_
          refine Walk.nil ?_
          refine Then.normal ?_
          refine AWP.ret ?_
          refine InBlock.ret ?_
          refine Then.ret ?_
          obtain rfl := Option.some.inj hm
          exact ret_i [4]
        · replace hm := cF hc43_11 hm
          refine AWP.if_ false (Eq.trans (by kernel_rfl) (lit_tf (b := decide (((p1.Kind.toNat : Nat) : Int) = 3)) hc43_11)) ?_
          refine AWP.skip ?_
          refine InBlock.normal ?_
          refine Then.normal ?_
          refine Amk 136 9 ⟨(tp 3 ((.loc 0 0) :: (tp 3 ((.own 3) :: (tp 50 []))))), [(.box [(.d (byteD p1.Kind)), (.d (.lit (.int .i64 p1.N))), (.d (.lit (.int .u64 p1.Bits))), (.d (.lit (.string (toS p1.Text))))]), .gone, .gone, (.arr 5 1 (List.length a26_3) (flatD encU8 a26_3))], 0⟩ ?_
          refine AWP.seq ?_
          refine Adr ?_
          refine Wy (.own 3) [] (Omv rfl) ?_
          refine Wy (.loc 0 3) [] (Ofa rfl) ?_
          refine Wy (.d (.lit (.string (toS p1.Text)))) [] (Old rfl) ?_
          refine Wy (.d (.lit (.int .i64 ((List.length p1.Text : Nat) : Int)))) [] (Oln rfl) ?_
          refine Wy (.d (.lit (.int .u64 (IntKind.u64.wrap ((List.length p1.Text : Nat) : Int))))) [] (Ocs (by kernel_rfl) (op_convert rfl (a1 := .int .i64 ((List.length p1.Text : Nat) : Int)) (by kernel_rfl) (run_conv (ds := .int .i64) (k' := .u64) (by kernel_rfl) (by kernel_rfl)))) ?_
          obtain ⟨r54_7, hr54_7, hm⟩ := bnd hm
          refine Wy (.own 4) [(4, (.arr 5 1 (List.length r54_7) (flatD encU8 r54_7)))] (Ocp [] [4] [3] 0 (ok_zig_Put a26_3 (IntKind.u64.wrap ((List.length p1.Text : Nat) : Int)) r54_7 hr54_7) (⟨by simp [A.Plain, A.Plains, D.Plain, byteD], plain_cons (flat_plain encU8_plain) (plain_nil)⟩) (fun a w => Try.call30 a w) rfl trivial) ?_
          refine Wy (.loc 0 3) [] (Ofa rfl) ?_
          refine Wy (.d (.lit (.string (toS p1.Text)))) [] (Old rfl) ?_
          obtain ⟨a57_7, ha57_7, hm⟩ := bnd hm; obtain ⟨ha57_7e, ha57_7l⟩ := app_some ha57_7
          refine Wy (.own 5) [(4, .gone), (5, (.arr 5 1 (List.length a57_7) (flatD encU8 a57_7)))] (OcB (op_appendStr rfl elemOK_25 (by kernel_rfl) (id := 4) (by kernel_rfl) (n := List.length r54_7) (xs := flatD encU8 r54_7) (by kernel_rfl) (str := toS p1.Text) (by kernel_rfl) (app_str ha57_7l) (by kernel_rfl) (by decide)) (bl_app (by rw [ha57_7e, List.length_append]; rfl) (by rw [ha57_7e, flatD_append, flatU8 p1.Text]; rfl))) ?_
          refine Wy (.own 5) [] (Omv rfl) ?_
          refine Wy (.d (.lit (.int .i64 0))) [] (Omv rfl) ?_
          refine Wdr ?_
          refine Then.normal ?_
          refine AWP.ret ?_
          obtain rfl := Option.some.inj hm
          exact ret_i [5]
end Go.Proofs.Ytgocnknbiipcfaa.K
