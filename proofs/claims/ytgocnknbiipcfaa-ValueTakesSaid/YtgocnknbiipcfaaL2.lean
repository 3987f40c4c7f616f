/- each function computes what its model says (2) -/
import Derived.Test.YtgocnknbiipcfaaL1
namespace Go.Proofs.Ytgocnknbiipcfaa.K
open Go.RowKit Go.Lib
set_option linter.unusedVariables false
set_option linter.unusedSimpArgs false

set_option maxRecDepth 20000 in
set_option maxHeartbeats 4000000 in
theorem ok_value_body (p0 : UInt8) (p1 : (List UInt8)) (p2 : Int) (r : (GValue × Int × Int)) (h : m_value_body p0 p1 p2 = some r) : GCall Try.prog 43 [(.d (byteD p0)), (.d (.lit (.string (toS p1)))), (.d (.lit (.int .i64 p2)))] [] (.tup [(.agg [(.d (byteD r.1.Kind)), (.d (.lit (.int .i64 r.1.N))), (.d (.lit (.int .u64 r.1.Bits))), (.d (.lit (.string (toS r.1.Text))))]), (.d (.lit (.int .i64 r.2.1))), (.d (.lit (.int .i64 r.2.2)))]) [] := by
  refine GCall.of_body (n := 107) (rs := [(.cell 6 31), (.tmp 7), (.tmp 8)]) Try.func43 rfl rfl rfl ?_
  refine Ato ⟨((.d (byteD p0)) :: ((.d (.lit (.string (toS p1)))) :: ((.d (.lit (.int .i64 p2))) :: (tu 104 [])))), [], 0⟩ ?_
  have hm := h
  unfold m_value_body at hm
  refine AWP.seq ?_
  refine AWP.text ?_
  refine Wy (.loc 0 0) [(0, (.box [(.d (byteD 0)), (.d (.lit (.int .i64 0))), (.d (.lit (.int .u64 0))), (.d (.lit (.string (toS ([] : List UInt8)))))]))] (Oal rfl) ?_
  refine Wy (.d (.lit (.int .i64 0))) [] (Omv rfl) ?_
  refine Wy (.d (.lit (.int .i64 0))) [] (Omv rfl) ?_
  refine Walk.nil ?_
  refine Then.normal ?_
  refine Amk 71 1 ⟨((.d (byteD p0)) :: ((.d (.lit (.string (toS p1)))) :: ((.d (.lit (.int .i64 p2))) :: (tp 3 ((.loc 0 0) :: (tp 100 [])))))), [(.box [(.d (byteD 0)), (.d (.lit (.int .i64 0))), (.d (.lit (.int .u64 0))), (.d (.lit (.string (toS ([] : List UInt8)))))])], 0⟩ ?_
  refine AWP.seq ?_
  refine AWP.text ?_
  refine Wy (.d (byteD p0)) [] (Omv rfl) ?_
  refine Wy (.agg [(.d (byteD p0)), (.d (.lit (.int .i64 0))), (.d (.lit (.int .u64 0))), (.d (.lit (.string (toS ([] : List UInt8)))))]) [] (Obd rfl) ?_
  refine Wy (.loc 1 0) [(1, (.box [(.d (byteD 0)), (.d (.lit (.int .i64 0))), (.d (.lit (.int .u64 0))), (.d (.lit (.string (toS ([] : List UInt8)))))]))] (Oal rfl) ?_
  refine Wy (.tup []) [(1, (.box [(.d (byteD p0)), (.d (.lit (.int .i64 0))), (.d (.lit (.int .u64 0))), (.d (.lit (.string (toS ([] : List UInt8)))))]))] (Ost rfl) ?_
  refine Walk.nil ?_
  refine Then.normal ?_
  refine Amk 583 3 ⟨((.d (byteD p0)) :: ((.d (.lit (.string (toS p1)))) :: ((.d (.lit (.int .i64 p2))) :: (tp 3 ((.loc 0 0) :: (tp 2 ((.loc 1 0) :: (tp 97 [])))))))), [(.box [(.d (byteD 0)), (.d (.lit (.int .i64 0))), (.d (.lit (.int .u64 0))), (.d (.lit (.string (toS ([] : List UInt8)))))]), (.box [(.d (byteD p0)), (.d (.lit (.int .i64 0))), (.d (.lit (.int .u64 0))), (.d (.lit (.string (toS ([] : List UInt8)))))])], 0⟩ ?_
  refine AWP.seq ?_
  refine AWP.seq ?_
  refine AWP.text ?_
  refine Wy (.d (byteD p0)) [] (Omv rfl) ?_
  refine Walk.nil ?_
  refine Then.normal ?_
  refine Amk 1049158 3 ⟨(tp 1 ((.d (.lit (.string (toS p1)))) :: ((.d (.lit (.int .i64 p2))) :: (tp 3 ((.loc 0 0) :: (tp 2 ((.loc 1 0) :: (tp 10 ((.d (byteD p0)) :: (tp 86 [])))))))))), [(.box [(.d (byteD 0)), (.d (.lit (.int .i64 0))), (.d (.lit (.int .u64 0))), (.d (.lit (.string (toS ([] : List UInt8)))))]), (.box [(.d (byteD p0)), (.d (.lit (.int .i64 0))), (.d (.lit (.int .u64 0))), (.d (.lit (.string (toS ([] : List UInt8)))))])], 0⟩ ?_
  refine AWP.block ?_
  refine AWP.seq ?_
  refine AWP.text ?_
  refine Wy (.d (.lit (.bool (decide (((p0.toNat : Nat) : Int) = 1))))) [] (Ocs (by kernel_rfl) (op_bin rfl (a1 := .int .u8 ((p0.toNat : Nat) : Int)) (a2 := .int .u8 1) (by kernel_rfl) (by kernel_rfl) (fun _ => hb_eql))) ?_
  refine Wy (.d (.lit (.bool (decide (((p0.toNat : Nat) : Int) = 1))))) [] (Omv rfl) ?_
  refine Walk.nil ?_
  refine Then.normal ?_
  refine Amk 3146310 3 ⟨(tp 1 ((.d (.lit (.string (toS p1)))) :: ((.d (.lit (.int .i64 p2))) :: (tp 3 ((.loc 0 0) :: (tp 2 ((.loc 1 0) :: (tp 10 ((.d (byteD p0)) :: ((.d (.lit (.bool (decide (((p0.toNat : Nat) : Int) = 1))))) :: (tp 85 []))))))))))), [(.box [(.d (byteD 0)), (.d (.lit (.int .i64 0))), (.d (.lit (.int .u64 0))), (.d (.lit (.string (toS ([] : List UInt8)))))]), (.box [(.d (byteD p0)), (.d (.lit (.int .i64 0))), (.d (.lit (.int .u64 0))), (.d (.lit (.string (toS ([] : List UInt8)))))])], 0⟩ ?_
  rcases tf_ (decide (((p0.toNat : Nat) : Int) = 1)) with hc21_8 | hc21_8
  · replace hm := cT hc21_8 hm
    refine AWP.if_ true (Eq.trans (by kernel_rfl) (lit_tf (b := decide (((p0.toNat : Nat) : Int) = 1)) hc21_8)) ?_
    refine AWP.seq ?_
    refine AWP.text ?_
    refine Wy (.d (.lit (.string (toS p1)))) [] (Omv rfl) ?_
    refine Wy (.d (.lit (.int .i64 p2))) [] (Omv rfl) ?_
    obtain ⟨r26_0, hr26_0, hm⟩ := bnd hm
    refine Wy (.tup [(.d (.lit (.int .i64 r26_0.1))), (.d (.lit (.int .i64 r26_0.2.1))), (.d (.lit (.int .i64 r26_0.2.2)))]) [] (Ocf [] [] [] 0 (ok_zig_TakeInt p1 p2 r26_0 hr26_0) (fun a w => Try.call60 a w) rfl trivial) ?_
    refine Wy (.tup [(.d (.lit (.int .i64 r26_0.1))), (.d (.lit (.int .i64 r26_0.2.1))), (.d (.lit (.int .i64 r26_0.2.2)))]) [] (Omv rfl) ?_
    refine Wy (.d (.lit (.int .i64 r26_0.1))) [] (Oex rfl) ?_
    refine Wy (.d (.lit (.int .i64 r26_0.2.1))) [] (Oex rfl) ?_
    refine Wy (.d (.lit (.int .i64 r26_0.2.2))) [] (Oex rfl) ?_
    refine Wy (.d (.lit (.int .i64 r26_0.1))) [] (Omv rfl) ?_
    refine Wy (.d (.lit (.int .i64 r26_0.2.1))) [] (Omv rfl) ?_
    refine Wy (.d (.lit (.int .i64 r26_0.2.2))) [] (Omv rfl) ?_
    refine Walk.nil ?_
    refine Then.normal ?_
    refine Amk 7744 3 ⟨(tp 6 ((.loc 0 0) :: (tp 2 ((.loc 1 0) :: ((.d (.lit (.int .i64 r26_0.1))) :: ((.d (.lit (.int .i64 r26_0.2.1))) :: ((.d (.lit (.int .i64 r26_0.2.2))) :: (tp 94 [])))))))), [(.box [(.d (byteD 0)), (.d (.lit (.int .i64 0))), (.d (.lit (.int .u64 0))), (.d (.lit (.string (toS ([] : List UInt8)))))]), (.box [(.d (byteD p0)), (.d (.lit (.int .i64 0))), (.d (.lit (.int .u64 0))), (.d (.lit (.string (toS ([] : List UInt8)))))])], 0⟩ ?_
    refine AWP.seq ?_
    refine AWP.text ?_
    refine Wy (.d (.lit (.int .i64 r26_0.1))) [] (Omv rfl) ?_
    refine Wy (.loc 1 1) [] (Ofa rfl) ?_
    refine Wy (.tup []) [(1, (.box [(.d (byteD p0)), (.d (.lit (.int .i64 r26_0.1))), (.d (.lit (.int .u64 0))), (.d (.lit (.string (toS ([] : List UInt8)))))]))] (Ost rfl) ?_
    refine Walk.nil ?_
    refine Then.normal ?_
    refine Amk 6720 3 ⟨(tp 6 ((.loc 0 0) :: (tp 2 ((.loc 1 0) :: (tp 1 ((.d (.lit (.int .i64 r26_0.2.1))) :: ((.d (.lit (.int .i64 r26_0.2.2))) :: (tp 94 [])))))))), [(.box [(.d (byteD 0)), (.d (.lit (.int .i64 0))), (.d (.lit (.int .u64 0))), (.d (.lit (.string (toS ([] : List UInt8)))))]), (.box [(.d (byteD p0)), (.d (.lit (.int .i64 r26_0.1))), (.d (.lit (.int .u64 0))), (.d (.lit (.string (toS ([] : List UInt8)))))])], 0⟩ ?_
    refine AWP.seq ?_
    refine AWP.text ?_
    refine Wy (.agg [(.d (byteD p0)), (.d (.lit (.int .i64 r26_0.1))), (.d (.lit (.int .u64 0))), (.d (.lit (.string (toS ([] : List UInt8)))))]) [] (Old rfl) ?_
    refine Wy (.d (.lit (.int .i64 r26_0.2.1))) [] (Omv rfl) ?_
    refine Wy (.d (.lit (.int .i64 r26_0.2.2))) [] (Omv rfl) ?_
    refine Wy (.tup []) [(0, (.box [(.d (byteD p0)), (.d (.lit (.int .i64 r26_0.1))), (.d (.lit (.int .u64 0))), (.d (.lit (.string (toS ([] : List UInt8)))))]))] (Ost rfl) ?_
    refine Wy (.d (.lit (.int .i64 r26_0.2.1))) [] (Omv rfl) ?_
    refine Wy (.d (.lit (.int .i64 r26_0.2.2))) [] (Omv rfl) ?_
    refine Walk.nil ?_
    refine Then.normal ?_
    refine AWP.ret ?_
    refine InBlock.ret ?_
    refine Then.ret ?_
    obtain rfl := Option.some.inj hm
    exact ret_i []
  · replace hm := cF hc21_8 hm
    refine AWP.if_ false (Eq.trans (by kernel_rfl) (lit_tf (b := decide (((p0.toNat : Nat) : Int) = 1)) hc21_8)) ?_
    refine AWP.seq ?_
    refine AWP.text ?_
    refine Wy (.d (.lit (.bool (decide (((p0.toNat : Nat) : Int) = 2))))) [] (Ocs (by kernel_rfl) (op_bin rfl (a1 := .int .u8 ((p0.toNat : Nat) : Int)) (a2 := .int .u8 2) (by kernel_rfl) (by kernel_rfl) (fun _ => hb_eql))) ?_
    refine Wy (.d (.lit (.bool (decide (((p0.toNat : Nat) : Int) = 2))))) [] (Omv rfl) ?_
    refine Walk.nil ?_
    refine Then.normal ?_
    refine Amk 34360787526 3 ⟨(tp 1 ((.d (.lit (.string (toS p1)))) :: ((.d (.lit (.int .i64 p2))) :: (tp 3 ((.loc 0 0) :: (tp 2 ((.loc 1 0) :: (tp 10 ((.d (byteD p0)) :: (tp 14 ((.d (.lit (.bool (decide (((p0.toNat : Nat) : Int) = 2))))) :: (tp 71 [])))))))))))), [(.box [(.d (byteD 0)), (.d (.lit (.int .i64 0))), (.d (.lit (.int .u64 0))), (.d (.lit (.string (toS ([] : List UInt8)))))]), (.box [(.d (byteD p0)), (.d (.lit (.int .i64 0))), (.d (.lit (.int .u64 0))), (.d (.lit (.string (toS ([] : List UInt8)))))])], 0⟩ ?_
    rcases tf_ (decide (((p0.toNat : Nat) : Int) = 2)) with hc35_9 | hc35_9
    · replace hm := cT hc35_9 hm
      refine AWP.if_ true (Eq.trans (by kernel_rfl) (lit_tf (b := decide (((p0.toNat : Nat) : Int) = 2)) hc35_9)) ?_
      refine AWP.seq ?_
      refine AWP.seq ?_
      refine AWP.text ?_
      refine Wy (.d (.lit (.int .i64 p2))) [] (Omv rfl) ?_
      refine Wy (.d (.lit (.string (toS p1)))) [] (Omv rfl) ?_
      refine Wy (.d (.lit (.int .i64 ((List.length p1 : Nat) : Int)))) [] (Oln rfl) ?_
      refine Wy (.d (.lit (.bool (decide (p2 = ((List.length p1 : Nat) : Int)))))) [] (Obn rfl (fun _ => hb_eql (k := .i64))) ?_
      refine Walk.nil ?_
      refine Then.normal ?_
      refine Amk 1099511628358 3 ⟨(tp 1 ((.d (.lit (.string (toS p1)))) :: ((.d (.lit (.int .i64 p2))) :: (tp 3 ((.loc 0 0) :: (tp 2 ((.loc 1 0) :: (tp 30 ((.d (.lit (.bool (decide (p2 = ((List.length p1 : Nat) : Int)))))) :: (tp 66 [])))))))))), [(.box [(.d (byteD 0)), (.d (.lit (.int .i64 0))), (.d (.lit (.int .u64 0))), (.d (.lit (.string (toS ([] : List UInt8)))))]), (.box [(.d (byteD p0)), (.d (.lit (.int .i64 0))), (.d (.lit (.int .u64 0))), (.d (.lit (.string (toS ([] : List UInt8)))))])], 0⟩ ?_
      rcases tf_ (decide (p2 = ((List.length p1 : Nat) : Int))) with hc40_10 | hc40_10
      · replace hm := cT hc40_10 hm
        refine AWP.if_ true (Eq.trans (by kernel_rfl) (lit_tf (b := decide (p2 = ((List.length p1 : Nat) : Int))) hc40_10)) ?_
        refine AWP.seq ?_
        refine AWP.text ?_
        refine Wy (.agg [(.d (byteD p0)), (.d (.lit (.int .i64 0))), (.d (.lit (.int .u64 0))), (.d (.lit (.string (toS ([] : List UInt8)))))]) [] (Old rfl) ?_
        refine Wy (.tup []) [(0, (.box [(.d (byteD p0)), (.d (.lit (.int .i64 0))), (.d (.lit (.int .u64 0))), (.d (.lit (.string (toS ([] : List UInt8)))))]))] (Ost rfl) ?_
        refine Wy (.d (.lit (.int .i64 0))) [] (Omv rfl) ?_
        refine Wy (.d (.lit (.int .i64 3))) [] (Omv rfl) ?_
        refine Walk.nil ?_
        refine Then.normal ?_
        refine AWP.ret ?_
        refine Then.ret ?_
        refine InBlock.ret ?_
        refine Then.ret ?_
        obtain rfl := Option.some.inj hm
        exact ret_i []
      · replace hm := cF hc40_10 hm
        refine AWP.if_ false (Eq.trans (by kernel_rfl) (lit_tf (b := decide (p2 = ((List.length p1 : Nat) : Int))) hc40_10)) ?_
        refine AWP.skip ?_
        refine Then.normal ?_
        refine Amk 582 3 ⟨(tp 1 ((.d (.lit (.string (toS p1)))) :: ((.d (.lit (.int .i64 p2))) :: (tp 3 ((.loc 0 0) :: (tp 2 ((.loc 1 0) :: (tp 97 [])))))))), [(.box [(.d (byteD 0)), (.d (.lit (.int .i64 0))), (.d (.lit (.int .u64 0))), (.d (.lit (.string (toS ([] : List UInt8)))))]), (.box [(.d (byteD p0)), (.d (.lit (.int .i64 0))), (.d (.lit (.int .u64 0))), (.d (.lit (.string (toS ([] : List UInt8)))))])], 0⟩ ?_
        refine AWP.seq ?_
        refine AWP.text ?_
        refine Wy (.d (.lit (.string (toS p1)))) [] (Omv rfl) ?_
        refine Wy (.d (.lit (.int .i64 p2))) [] (Omv rfl) ?_
        obtain ⟨x44_2, hx44_2, hm⟩ := bnd hm
        obtain ⟨hx44_2i, hx44_2g⟩ := geti_some hx44_2
        refine Wy (.d (byteD x44_2)) [] (Ocs (by kernel_rfl) (op_index_str rfl (by kernel_rfl) (s := toS p1) (by kernel_rfl) (k := .i64) (iv := p2) (by kernel_rfl) (i := (Int.toNat p2)) (hx44_2i) (b := x44_2) (hx44_2g))) ?_
        refine Wy (.d (.lit (.int .i64 ((x44_2.toNat : Nat) : Int)))) [] (Ocs (lit_int (wrap_of_u8 (by decide) _)) (op_convert rfl (a1 := .int .u8 ((x44_2.toNat : Nat) : Int)) (by kernel_rfl) (run_conv (ds := .int .u8) (k' := .i64) (by kernel_rfl) (by kernel_rfl)))) ?_
        refine Wy (.loc 1 1) [] (Ofa rfl) ?_
        refine Wy (.tup []) [(1, (.box [(.d (byteD p0)), (.d (.lit (.int .i64 ((x44_2.toNat : Nat) : Int)))), (.d (.lit (.int .u64 0))), (.d (.lit (.string (toS ([] : List UInt8)))))]))] (Ost rfl) ?_
        refine Walk.nil ?_
        refine Then.normal ?_
        refine Amk 580 3 ⟨(tp 2 ((.d (.lit (.int .i64 p2))) :: (tp 3 ((.loc 0 0) :: (tp 2 ((.loc 1 0) :: (tp 97 []))))))), [(.box [(.d (byteD 0)), (.d (.lit (.int .i64 0))), (.d (.lit (.int .u64 0))), (.d (.lit (.string (toS ([] : List UInt8)))))]), (.box [(.d (byteD p0)), (.d (.lit (.int .i64 ((x44_2.toNat : Nat) : Int)))), (.d (.lit (.int .u64 0))), (.d (.lit (.string (toS ([] : List UInt8)))))])], 0⟩ ?_
        refine AWP.seq ?_
        refine AWP.text ?_
        refine Wy (.agg [(.d (byteD p0)), (.d (.lit (.int .i64 ((x44_2.toNat : Nat) : Int)))), (.d (.lit (.int .u64 0))), (.d (.lit (.string (toS ([] : List UInt8)))))]) [] (Old rfl) ?_
        refine Wy (.d (.lit (.int .i64 p2))) [] (Omv rfl) ?_
        refine Wy (.d (.lit (.int .i64 (IntKind.i64.wrap (p2 + 1))))) [] (Obn rfl (fun _ => hb_add (k := .i64))) ?_
        refine Wy (.tup []) [(0, (.box [(.d (byteD p0)), (.d (.lit (.int .i64 ((x44_2.toNat : Nat) : Int)))), (.d (.lit (.int .u64 0))), (.d (.lit (.string (toS ([] : List UInt8)))))]))] (Ost rfl) ?_
        refine Wy (.d (.lit (.int .i64 (IntKind.i64.wrap (p2 + 1))))) [] (Omv rfl) ?_
        refine Wy (.d (.lit (.int .i64 0))) [] (Omv rfl) ?_
        refine Walk.nil ?_
        refine Then.normal ?_
        refine AWP.ret ?_
        refine InBlock.ret ?_
        refine Then.ret ?_
        obtain rfl := Option.some.inj hm
        exact ret_i []
    · replace hm := cF hc35_9 hm
      refine AWP.if_ false (Eq.trans (by kernel_rfl) (lit_tf (b := decide (((p0.toNat : Nat) : Int) = 2)) hc35_9)) ?_
      refine AWP.seq ?_
      refine AWP.text ?_
      refine Wy (.d (.lit (.bool (decide (((p0.toNat : Nat) : Int) = 3))))) [] (Ocs (by kernel_rfl) (op_bin rfl (a1 := .int .u8 ((p0.toNat : Nat) : Int)) (a2 := .int .u8 3) (by kernel_rfl) (by kernel_rfl) (fun _ => hb_eql))) ?_
      refine Wy (.d (.lit (.bool (decide (((p0.toNat : Nat) : Int) = 3))))) [] (Omv rfl) ?_
      refine Walk.nil ?_
      refine Then.normal ?_
      refine Amk 1125899907891782 3 ⟨(tp 1 ((.d (.lit (.string (toS p1)))) :: ((.d (.lit (.int .i64 p2))) :: (tp 3 ((.loc 0 0) :: (tp 2 ((.loc 1 0) :: (tp 10 ((.d (byteD p0)) :: (tp 29 ((.d (.lit (.bool (decide (((p0.toNat : Nat) : Int) = 3))))) :: (tp 56 [])))))))))))), [(.box [(.d (byteD 0)), (.d (.lit (.int .i64 0))), (.d (.lit (.int .u64 0))), (.d (.lit (.string (toS ([] : List UInt8)))))]), (.box [(.d (byteD p0)), (.d (.lit (.int .i64 0))), (.d (.lit (.int .u64 0))), (.d (.lit (.string (toS ([] : List UInt8)))))])], 0⟩ ?_
      rcases tf_ (decide (((p0.toNat : Nat) : Int) = 3)) with hc50_11 | hc50_11
      · replace hm := cT hc50_11 hm
        refine AWP.if_ true (Eq.trans (by kernel_rfl) (lit_tf (b := decide (((p0.toNat : Nat) : Int) = 3)) hc50_11)) ?_
        refine AWP.seq ?_
        refine AWP.text ?_
        refine Wy (.d (.lit (.string (toS p1)))) [] (Omv rfl) ?_
        refine Wy (.d (.lit (.int .i64 p2))) [] (Omv rfl) ?_
        obtain ⟨s55_3, hs55_3, hm⟩ := bnd hm; obtain ⟨hs55_3a, hs55_3b, hs55_3c, hs55_3d, hs55_3e⟩ := cut_some hs55_3
        refine Wy (.d (.lit (.string (toS s55_3)))) [] (Ocs (lit_str (toS_cut hs55_3e)) (op_slice_str rfl (by kernel_rfl) (s := toS p1) (by kernel_rfl) (l := (Int.toNat p2)) (h := (Int.toNat ((List.length p1 : Nat) : Int))) (⟨.i64, p2, by kernel_rfl, hs55_3a⟩) (by exact rfl) hs55_3c hs55_3d)) ?_
        obtain ⟨r56_3, hr56_3, hm⟩ := bnd hm
        refine Wy (.agg [(.d (.lit (.string (toS r56_3.Text)))), (.d (.lit (.int .i64 r56_3.At))), (.d (.lit (.int .i64 r56_3.E)))]) [] (Ocf [] [] [] 0 (ok_octet_Open s55_3 r56_3 hr56_3) (fun a w => Try.call61 a w) rfl trivial) ?_
        obtain ⟨r57_3, hr57_3, hm⟩ := bnd hm
        refine Wy (.tup [(.agg [(.d (.lit (.string (toS r57_3.1.Text)))), (.d (.lit (.int .i64 r57_3.1.At))), (.d (.lit (.int .i64 r57_3.1.E)))]), (.d (.lit (.int .u64 r57_3.2)))]) [] (Ocf [] [] [] 0 (ok_octet_Reader_Word r56_3 r57_3 hr57_3) (fun a w => Try.call62 a w) rfl trivial) ?_
        refine Wy (.tup [(.agg [(.d (.lit (.string (toS r57_3.1.Text)))), (.d (.lit (.int .i64 r57_3.1.At))), (.d (.lit (.int .i64 r57_3.1.E)))]), (.d (.lit (.int .u64 r57_3.2)))]) [] (Omv rfl) ?_
        refine Wy (.agg [(.d (.lit (.string (toS r57_3.1.Text)))), (.d (.lit (.int .i64 r57_3.1.At))), (.d (.lit (.int .i64 r57_3.1.E)))]) [] (Oex rfl) ?_
        refine Wy (.d (.lit (.int .u64 r57_3.2))) [] (Oex rfl) ?_
        refine Wy (.loc 2 0) [(2, (.box [(.d (.lit (.string (toS ([] : List UInt8))))), (.d (.lit (.int .i64 0))), (.d (.lit (.int .i64 0)))]))] (Oal rfl) ?_
        refine Wy (.tup []) [(2, (.box [(.d (.lit (.string (toS r57_3.1.Text)))), (.d (.lit (.int .i64 r57_3.1.At))), (.d (.lit (.int .i64 r57_3.1.E)))]))] (Ost rfl) ?_
        refine Wy (.d (.lit (.int .u64 r57_3.2))) [] (Omv rfl) ?_
        refine Walk.nil ?_
        refine Then.normal ?_
        refine Amk 25156 7 ⟨(tp 2 ((.d (.lit (.int .i64 p2))) :: (tp 3 ((.loc 0 0) :: (tp 2 ((.loc 1 0) :: (tp 3 ((.loc 2 0) :: ((.d (.lit (.int .u64 r57_3.2))) :: (tp 92 [])))))))))), [(.box [(.d (byteD 0)), (.d (.lit (.int .i64 0))), (.d (.lit (.int .u64 0))), (.d (.lit (.string (toS ([] : List UInt8)))))]), (.box [(.d (byteD p0)), (.d (.lit (.int .i64 0))), (.d (.lit (.int .u64 0))), (.d (.lit (.string (toS ([] : List UInt8)))))]), (.box [(.d (.lit (.string (toS r57_3.1.Text)))), (.d (.lit (.int .i64 r57_3.1.At))), (.d (.lit (.int .i64 r57_3.1.E)))])], 0⟩ ?_
        refine AWP.seq ?_
        refine AWP.text ?_
        refine Wy (.d (.lit (.int .u64 r57_3.2))) [] (Omv rfl) ?_
        refine Wy (.loc 1 2) [] (Ofa rfl) ?_
        refine Wy (.tup []) [(1, (.box [(.d (byteD p0)), (.d (.lit (.int .i64 0))), (.d (.lit (.int .u64 r57_3.2))), (.d (.lit (.string (toS ([] : List UInt8)))))]))] (Ost rfl) ?_
        refine Walk.nil ?_
        refine Then.normal ?_
        refine Amk 8772 7 ⟨(tp 2 ((.d (.lit (.int .i64 p2))) :: (tp 3 ((.loc 0 0) :: (tp 2 ((.loc 1 0) :: (tp 3 ((.loc 2 0) :: (tp 93 []))))))))), [(.box [(.d (byteD 0)), (.d (.lit (.int .i64 0))), (.d (.lit (.int .u64 0))), (.d (.lit (.string (toS ([] : List UInt8)))))]), (.box [(.d (byteD p0)), (.d (.lit (.int .i64 0))), (.d (.lit (.int .u64 r57_3.2))), (.d (.lit (.string (toS ([] : List UInt8)))))]), (.box [(.d (.lit (.string (toS r57_3.1.Text)))), (.d (.lit (.int .i64 r57_3.1.At))), (.d (.lit (.int .i64 r57_3.1.E)))])], 0⟩ ?_
        refine AWP.seq ?_
        refine Adr ?_
        refine Wy (.agg [(.d (byteD p0)), (.d (.lit (.int .i64 0))), (.d (.lit (.int .u64 r57_3.2))), (.d (.lit (.string (toS ([] : List UInt8)))))]) [] (Old rfl) ?_
        refine Wy (.d (.lit (.int .i64 p2))) [] (Omv rfl) ?_
        refine Wy (.loc 2 1) [] (Ofa rfl) ?_
        refine Wy (.d (.lit (.int .i64 r57_3.1.At))) [] (Old rfl) ?_
        refine Wy (.d (.lit (.int .i64 (IntKind.i64.wrap (p2 + r57_3.1.At))))) [] (Obn rfl (fun _ => hb_add (k := .i64))) ?_
        refine Wy (.loc 2 2) [] (Ofa rfl) ?_
        refine Wy (.d (.lit (.int .i64 r57_3.1.E))) [] (Old rfl) ?_
        refine Wy (.tup []) [(0, (.box [(.d (byteD p0)), (.d (.lit (.int .i64 0))), (.d (.lit (.int .u64 r57_3.2))), (.d (.lit (.string (toS ([] : List UInt8)))))]))] (Ost rfl) ?_
        refine Wy (.d (.lit (.int .i64 (IntKind.i64.wrap (p2 + r57_3.1.At))))) [] (Omv rfl) ?_
        refine Wy (.d (.lit (.int .i64 r57_3.1.E))) [] (Omv rfl) ?_
        refine Wdr ?_
        refine Then.normal ?_
        refine AWP.ret ?_
        refine InBlock.ret ?_
        refine Then.ret ?_
        obtain rfl := Option.some.inj hm
        exact ret_i []
      · replace hm := cF hc50_11 hm
        refine AWP.if_ false (Eq.trans (by kernel_rfl) (lit_tf (b := decide (((p0.toNat : Nat) : Int) = 3)) hc50_11)) ?_
        refine AWP.seq ?_
        refine AWP.text ?_
        refine Wy (.d (.lit (.bool (decide (((p0.toNat : Nat) : Int) = 4))))) [] (Ocs (by kernel_rfl) (op_bin rfl (a1 := .int .u8 ((p0.toNat : Nat) : Int)) (a2 := .int .u8 4) (by kernel_rfl) (by kernel_rfl) (fun _ => hb_eql))) ?_
        refine Wy (.d (.lit (.bool (decide (((p0.toNat : Nat) : Int) = 4))))) [] (Omv rfl) ?_
        refine Walk.nil ?_
        refine Then.normal ?_
        refine Amk 590295810358705652294 3 ⟨(tp 1 ((.d (.lit (.string (toS p1)))) :: ((.d (.lit (.int .i64 p2))) :: (tp 3 ((.loc 0 0) :: (tp 2 ((.loc 1 0) :: (tp 59 ((.d (.lit (.bool (decide (((p0.toNat : Nat) : Int) = 4))))) :: (tp 37 [])))))))))), [(.box [(.d (byteD 0)), (.d (.lit (.int .i64 0))), (.d (.lit (.int .u64 0))), (.d (.lit (.string (toS ([] : List UInt8)))))]), (.box [(.d (byteD p0)), (.d (.lit (.int .i64 0))), (.d (.lit (.int .u64 0))), (.d (.lit (.string (toS ([] : List UInt8)))))])], 0⟩ ?_
        rcases tf_ (decide (((p0.toNat : Nat) : Int) = 4)) with hc69_12 | hc69_12
        · replace hm := cT hc69_12 hm
          refine AWP.if_ true (Eq.trans (by kernel_rfl) (lit_tf (b := decide (((p0.toNat : Nat) : Int) = 4)) hc69_12)) ?_
          refine AWP.seq ?_
          refine AWP.text ?_
          refine Wy (.d (.lit (.string (toS p1)))) [] (Omv rfl) ?_
          refine Wy (.d (.lit (.int .i64 p2))) [] (Omv rfl) ?_
          obtain ⟨r74_4, hr74_4, hm⟩ := bnd hm
          refine Wy (.tup [(.d (.lit (.int .u64 r74_4.1))), (.d (.lit (.int .i64 r74_4.2.1))), (.d (.lit (.int .i64 r74_4.2.2)))]) [] (Ocf [] [] [] 0 (ok_zig_Take p1 p2 r74_4 hr74_4) (fun a w => Try.call63 a w) rfl trivial) ?_
          refine Wy (.tup [(.d (.lit (.int .u64 r74_4.1))), (.d (.lit (.int .i64 r74_4.2.1))), (.d (.lit (.int .i64 r74_4.2.2)))]) [] (Omv rfl) ?_
          refine Wy (.d (.lit (.int .u64 r74_4.1))) [] (Oex rfl) ?_
          refine Wy (.d (.lit (.int .i64 r74_4.2.1))) [] (Oex rfl) ?_
          refine Wy (.d (.lit (.int .i64 r74_4.2.2))) [] (Oex rfl) ?_
          refine Wy (.d (.lit (.int .u64 r74_4.1))) [] (Omv rfl) ?_
          refine Wy (.d (.lit (.int .i64 r74_4.2.1))) [] (Omv rfl) ?_
          refine Wy (.d (.lit (.int .i64 r74_4.2.2))) [] (Omv rfl) ?_
          refine Walk.nil ?_
          refine Then.normal ?_
          refine Amk 229954 3 ⟨(tp 1 ((.d (.lit (.string (toS p1)))) :: (tp 4 ((.loc 0 0) :: (tp 2 ((.loc 1 0) :: (tp 5 ((.d (.lit (.int .u64 r74_4.1))) :: ((.d (.lit (.int .i64 r74_4.2.1))) :: ((.d (.lit (.int .i64 r74_4.2.2))) :: (tp 89 []))))))))))), [(.box [(.d (byteD 0)), (.d (.lit (.int .i64 0))), (.d (.lit (.int .u64 0))), (.d (.lit (.string (toS ([] : List UInt8)))))]), (.box [(.d (byteD p0)), (.d (.lit (.int .i64 0))), (.d (.lit (.int .u64 0))), (.d (.lit (.string (toS ([] : List UInt8)))))])], 0⟩ ?_
          refine AWP.seq ?_
          refine AWP.seq ?_
          refine AWP.text ?_
          refine Wy (.d (.lit (.int .i64 r74_4.2.2))) [] (Omv rfl) ?_
          refine Wy (.d (.lit (.bool (decide (r74_4.2.2 ≠ 0))))) [] (Obn rfl (fun _ => hb_neq (k := .i64))) ?_
          refine Walk.nil ?_
          refine Then.normal ?_
          refine Amk 604462909807314587583042 3 ⟨(tp 1 ((.d (.lit (.string (toS p1)))) :: (tp 4 ((.loc 0 0) :: (tp 2 ((.loc 1 0) :: (tp 5 ((.d (.lit (.int .u64 r74_4.1))) :: ((.d (.lit (.int .i64 r74_4.2.1))) :: ((.d (.lit (.int .i64 r74_4.2.2))) :: (tp 61 ((.d (.lit (.bool (decide (r74_4.2.2 ≠ 0))))) :: (tp 27 []))))))))))))), [(.box [(.d (byteD 0)), (.d (.lit (.int .i64 0))), (.d (.lit (.int .u64 0))), (.d (.lit (.string (toS ([] : List UInt8)))))]), (.box [(.d (byteD p0)), (.d (.lit (.int .i64 0))), (.d (.lit (.int .u64 0))), (.d (.lit (.string (toS ([] : List UInt8)))))])], 0⟩ ?_
          rcases tf_ (decide (r74_4.2.2 ≠ 0)) with hc79_13 | hc79_13
          · replace hm := cT hc79_13 hm
            refine AWP.if_ true (Eq.trans (by kernel_rfl) (lit_tf (b := decide (r74_4.2.2 ≠ 0)) hc79_13)) ?_
            refine AWP.seq ?_
            refine AWP.text ?_
            refine Wy (.agg [(.d (byteD p0)), (.d (.lit (.int .i64 0))), (.d (.lit (.int .u64 0))), (.d (.lit (.string (toS ([] : List UInt8)))))]) [] (Old rfl) ?_
            refine Wy (.d (.lit (.int .i64 r74_4.2.2))) [] (Omv rfl) ?_
            refine Wy (.tup []) [(0, (.box [(.d (byteD p0)), (.d (.lit (.int .i64 0))), (.d (.lit (.int .u64 0))), (.d (.lit (.string (toS ([] : List UInt8)))))]))] (Ost rfl) ?_
            refine Wy (.d (.lit (.int .i64 0))) [] (Omv rfl) ?_
            refine Wy (.d (.lit (.int .i64 r74_4.2.2))) [] (Omv rfl) ?_
            refine Walk.nil ?_
            refine Then.normal ?_
            refine AWP.ret ?_
            refine Then.ret ?_
            refine InBlock.ret ?_
            refine Then.ret ?_
            obtain rfl := Option.some.inj hm
            exact ret_i []
          · replace hm := cF hc79_13 hm
            refine AWP.if_ false (Eq.trans (by kernel_rfl) (lit_tf (b := decide (r74_4.2.2 ≠ 0)) hc79_13)) ?_
            refine AWP.skip ?_
            refine Then.normal ?_
            refine Amk 98882 3 ⟨(tp 1 ((.d (.lit (.string (toS p1)))) :: (tp 4 ((.loc 0 0) :: (tp 2 ((.loc 1 0) :: (tp 5 ((.d (.lit (.int .u64 r74_4.1))) :: ((.d (.lit (.int .i64 r74_4.2.1))) :: (tp 90 [])))))))))), [(.box [(.d (byteD 0)), (.d (.lit (.int .i64 0))), (.d (.lit (.int .u64 0))), (.d (.lit (.string (toS ([] : List UInt8)))))]), (.box [(.d (byteD p0)), (.d (.lit (.int .i64 0))), (.d (.lit (.int .u64 0))), (.d (.lit (.string (toS ([] : List UInt8)))))])], 0⟩ ?_
            refine AWP.seq ?_
            refine AWP.seq ?_
            refine AWP.text ?_
            refine Wy (.d (.lit (.int .u64 r74_4.1))) [] (Omv rfl) ?_
            refine Wy (.d (.lit (.bool (decide ((24 : Int) < r74_4.1))))) [] (Obn rfl (fun _ => hb_gtr (k := .u64))) ?_
            refine Walk.nil ?_
            refine Then.normal ?_
            refine Amk 9671406556917033397748290 3 ⟨(tp 1 ((.d (.lit (.string (toS p1)))) :: (tp 4 ((.loc 0 0) :: (tp 2 ((.loc 1 0) :: (tp 5 ((.d (.lit (.int .u64 r74_4.1))) :: ((.d (.lit (.int .i64 r74_4.2.1))) :: (tp 66 ((.d (.lit (.bool (decide ((24 : Int) < r74_4.1))))) :: (tp 23 [])))))))))))), [(.box [(.d (byteD 0)), (.d (.lit (.int .i64 0))), (.d (.lit (.int .u64 0))), (.d (.lit (.string (toS ([] : List UInt8)))))]), (.box [(.d (byteD p0)), (.d (.lit (.int .i64 0))), (.d (.lit (.int .u64 0))), (.d (.lit (.string (toS ([] : List UInt8)))))])], 0⟩ ?_
            rcases tf_ (decide ((24 : Int) < r74_4.1)) with hc83_14 | hc83_14
            · replace hm := cT hc83_14 hm
              refine AWP.if_ true (Eq.trans (by kernel_rfl) (lit_tf (b := decide ((24 : Int) < r74_4.1)) hc83_14)) ?_
              refine AWP.seq ?_
              refine AWP.text ?_
              refine Wy (.agg [(.d (byteD p0)), (.d (.lit (.int .i64 0))), (.d (.lit (.int .u64 0))), (.d (.lit (.string (toS ([] : List UInt8)))))]) [] (Old rfl) ?_
              refine Wy (.tup []) [(0, (.box [(.d (byteD p0)), (.d (.lit (.int .i64 0))), (.d (.lit (.int .u64 0))), (.d (.lit (.string (toS ([] : List UInt8)))))]))] (Ost rfl) ?_
              refine Wy (.d (.lit (.int .i64 0))) [] (Omv rfl) ?_
              refine Wy (.d (.lit (.int .i64 5))) [] (Omv rfl) ?_
              refine Walk.nil ?_
              refine Then.normal ?_
              refine AWP.ret ?_
              refine Then.ret ?_
              refine InBlock.ret ?_
              refine Then.ret ?_
              obtain rfl := Option.some.inj hm
              exact ret_i []
            · replace hm := cF hc83_14 hm
              refine AWP.if_ false (Eq.trans (by kernel_rfl) (lit_tf (b := decide ((24 : Int) < r74_4.1)) hc83_14)) ?_
              refine AWP.skip ?_
              refine Then.normal ?_
              refine Amk 98882 3 ⟨(tp 1 ((.d (.lit (.string (toS p1)))) :: (tp 4 ((.loc 0 0) :: (tp 2 ((.loc 1 0) :: (tp 5 ((.d (.lit (.int .u64 r74_4.1))) :: ((.d (.lit (.int .i64 r74_4.2.1))) :: (tp 90 [])))))))))), [(.box [(.d (byteD 0)), (.d (.lit (.int .i64 0))), (.d (.lit (.int .u64 0))), (.d (.lit (.string (toS ([] : List UInt8)))))]), (.box [(.d (byteD p0)), (.d (.lit (.int .i64 0))), (.d (.lit (.int .u64 0))), (.d (.lit (.string (toS ([] : List UInt8)))))])], 0⟩ ?_
              refine AWP.seq ?_
              refine AWP.seq ?_
              refine AWP.text ?_
              refine Wy (.d (.lit (.string (toS p1)))) [] (Omv rfl) ?_
              refine Wy (.d (.lit (.int .i64 ((List.length p1 : Nat) : Int)))) [] (Oln rfl) ?_
              refine Wy (.d (.lit (.int .i64 r74_4.2.1))) [] (Omv rfl) ?_
              refine Wy (.d (.lit (.int .i64 (IntKind.i64.wrap (((List.length p1 : Nat) : Int) - r74_4.2.1))))) [] (Obn rfl (fun _ => hb_sub (k := .i64))) ?_
              refine Wy (.d (.lit (.int .u64 r74_4.1))) [] (Omv rfl) ?_
              refine Wy (.d (.lit (.int .i64 (IntKind.i64.wrap r74_4.1)))) [] (Ocs (by kernel_rfl) (op_convert rfl (a1 := .int .u64 r74_4.1) (by kernel_rfl) (run_conv (ds := .int .u64) (k' := .i64) (by kernel_rfl) (by kernel_rfl)))) ?_
              refine Wy (.d (.lit (.bool (decide ((IntKind.i64.wrap (((List.length p1 : Nat) : Int) - r74_4.2.1)) < (IntKind.i64.wrap r74_4.1)))))) [] (Obn rfl (fun _ => hb_lss (k := .i64))) ?_
              refine Walk.nil ?_
              refine Then.normal ?_
              refine Amk 2475880078570760549798347330 3 ⟨(tp 1 ((.d (.lit (.string (toS p1)))) :: (tp 4 ((.loc 0 0) :: (tp 2 ((.loc 1 0) :: (tp 5 ((.d (.lit (.int .u64 r74_4.1))) :: ((.d (.lit (.int .i64 r74_4.2.1))) :: (tp 74 ((.d (.lit (.bool (decide ((IntKind.i64.wrap (((List.length p1 : Nat) : Int) - r74_4.2.1)) < (IntKind.i64.wrap r74_4.1)))))) :: (tp 15 [])))))))))))), [(.box [(.d (byteD 0)), (.d (.lit (.int .i64 0))), (.d (.lit (.int .u64 0))), (.d (.lit (.string (toS ([] : List UInt8)))))]), (.box [(.d (byteD p0)), (.d (.lit (.int .i64 0))), (.d (.lit (.int .u64 0))), (.d (.lit (.string (toS ([] : List UInt8)))))])], 0⟩ ?_
              rcases tf_ (decide ((IntKind.i64.wrap (((List.length p1 : Nat) : Int) - r74_4.2.1)) < (IntKind.i64.wrap r74_4.1))) with hc91_15 | hc91_15
              · replace hm := cT hc91_15 hm
                refine AWP.if_ true (Eq.trans (by kernel_rfl) (lit_tf (b := decide ((IntKind.i64.wrap (((List.length p1 : Nat) : Int) - r74_4.2.1)) < (IntKind.i64.wrap r74_4.1))) hc91_15)) ?_
                refine AWP.seq ?_
                refine AWP.text ?_
                refine Wy (.agg [(.d (byteD p0)), (.d (.lit (.int .i64 0))), (.d (.lit (.int .u64 0))), (.d (.lit (.string (toS ([] : List UInt8)))))]) [] (Old rfl) ?_
                refine Wy (.tup []) [(0, (.box [(.d (byteD p0)), (.d (.lit (.int .i64 0))), (.d (.lit (.int .u64 0))), (.d (.lit (.string (toS ([] : List UInt8)))))]))] (Ost rfl) ?_
                refine Wy (.d (.lit (.int .i64 0))) [] (Omv rfl) ?_
                refine Wy (.d (.lit (.int .i64 3))) [] (Omv rfl) ?_
                refine Walk.nil ?_
                refine Then.normal ?_
                refine AWP.ret ?_
                refine Then.ret ?_
                refine InBlock.ret ?_
                refine Then.ret ?_
                obtain rfl := Option.some.inj hm
                exact ret_i []
              · replace hm := cF hc91_15 hm
                refine AWP.if_ false (Eq.trans (by kernel_rfl) (lit_tf (b := decide ((IntKind.i64.wrap (((List.length p1 : Nat) : Int) - r74_4.2.1)) < (IntKind.i64.wrap r74_4.1))) hc91_15)) ?_
                refine AWP.skip ?_
                refine Then.normal ?_
                refine Amk 98882 3 ⟨(tp 1 ((.d (.lit (.string (toS p1)))) :: (tp 4 ((.loc 0 0) :: (tp 2 ((.loc 1 0) :: (tp 5 ((.d (.lit (.int .u64 r74_4.1))) :: ((.d (.lit (.int .i64 r74_4.2.1))) :: (tp 90 [])))))))))), [(.box [(.d (byteD 0)), (.d (.lit (.int .i64 0))), (.d (.lit (.int .u64 0))), (.d (.lit (.string (toS ([] : List UInt8)))))]), (.box [(.d (byteD p0)), (.d (.lit (.int .i64 0))), (.d (.lit (.int .u64 0))), (.d (.lit (.string (toS ([] : List UInt8)))))])], 0⟩ ?_
                refine AWP.seq ?_
                refine AWP.text ?_
                refine Wy (.d (.lit (.string (toS p1)))) [] (Omv rfl) ?_
                refine Wy (.d (.lit (.int .i64 r74_4.2.1))) [] (Omv rfl) ?_
                refine Wy (.d (.lit (.int .i64 r74_4.2.1))) [] (Omv rfl) ?_
                refine Wy (.d (.lit (.int .u64 r74_4.1))) [] (Omv rfl) ?_
                refine Wy (.d (.lit (.int .i64 (IntKind.i64.wrap r74_4.1)))) [] (Ocs (by kernel_rfl) (op_convert rfl (a1 := .int .u64 r74_4.1) (by kernel_rfl) (run_conv (ds := .int .u64) (k' := .i64) (by kernel_rfl) (by kernel_rfl)))) ?_
                refine Wy (.d (.lit (.int .i64 (IntKind.i64.wrap (r74_4.2.1 + (IntKind.i64.wrap r74_4.1)))))) [] (Obn rfl (fun _ => hb_add (k := .i64))) ?_
                obtain ⟨s99_6, hs99_6, hm⟩ := bnd hm; obtain ⟨hs99_6a, hs99_6b, hs99_6c, hs99_6d, hs99_6e⟩ := cut_some hs99_6
                refine Wy (.d (.lit (.string (toS s99_6)))) [] (Ocs (lit_str (toS_cut hs99_6e)) (op_slice_str rfl (by kernel_rfl) (s := toS p1) (by kernel_rfl) (l := (Int.toNat r74_4.2.1)) (h := (Int.toNat (IntKind.i64.wrap (r74_4.2.1 + (IntKind.i64.wrap r74_4.1))))) (⟨.i64, r74_4.2.1, by kernel_rfl, hs99_6a⟩) (⟨.i64, (IntKind.i64.wrap (r74_4.2.1 + (IntKind.i64.wrap r74_4.1))), by kernel_rfl, hs99_6b⟩) hs99_6c hs99_6d)) ?_
                refine Wy (.loc 1 3) [] (Ofa rfl) ?_
                refine Wy (.tup []) [(1, (.box [(.d (byteD p0)), (.d (.lit (.int .i64 0))), (.d (.lit (.int .u64 0))), (.d (.lit (.string (toS s99_6))))]))] (Ost rfl) ?_
                refine Walk.nil ?_
                refine Then.normal ?_
                refine Amk 98880 3 ⟨(tp 6 ((.loc 0 0) :: (tp 2 ((.loc 1 0) :: (tp 5 ((.d (.lit (.int .u64 r74_4.1))) :: ((.d (.lit (.int .i64 r74_4.2.1))) :: (tp 90 [])))))))), [(.box [(.d (byteD 0)), (.d (.lit (.int .i64 0))), (.d (.lit (.int .u64 0))), (.d (.lit (.string (toS ([] : List UInt8)))))]), (.box [(.d (byteD p0)), (.d (.lit (.int .i64 0))), (.d (.lit (.int .u64 0))), (.d (.lit (.string (toS s99_6))))])], 0⟩ ?_
                refine AWP.seq ?_
                refine AWP.text ?_
                refine Wy (.agg [(.d (byteD p0)), (.d (.lit (.int .i64 0))), (.d (.lit (.int .u64 0))), (.d (.lit (.string (toS s99_6))))]) [] (Old rfl) ?_
                refine Wy (.d (.lit (.int .i64 r74_4.2.1))) [] (Omv rfl) ?_
                refine Wy (.d (.lit (.int .u64 r74_4.1))) [] (Omv rfl) ?_
                refine Wy (.d (.lit (.int .i64 (IntKind.i64.wrap r74_4.1)))) [] (Ocs (by kernel_rfl) (op_convert rfl (a1 := .int .u64 r74_4.1) (by kernel_rfl) (run_conv (ds := .int .u64) (k' := .i64) (by kernel_rfl) (by kernel_rfl)))) ?_
                refine Wy (.d (.lit (.int .i64 (IntKind.i64.wrap (r74_4.2.1 + (IntKind.i64.wrap r74_4.1)))))) [] (Obn rfl (fun _ => hb_add (k := .i64))) ?_
                refine Wy (.tup []) [(0, (.box [(.d (byteD p0)), (.d (.lit (.int .i64 0))), (.d (.lit (.int .u64 0))), (.d (.lit (.string (toS s99_6))))]))] (Ost rfl) ?_
                refine Wy (.d (.lit (.int .i64 (IntKind.i64.wrap (r74_4.2.1 + (IntKind.i64.wrap r74_4.1)))))) [] (Omv rfl) ?_
                refine Wy (.d (.lit (.int .i64 0))) [] (Omv rfl) ?_
                refine Walk.nil ?_
                refine Then.normal ?_
                refine AWP.ret ?_
                refine InBlock.ret ?_
                refine Then.ret ?_
                obtain rfl := Option.some.inj hm
                exact ret_i []
        · replace hm := cF hc69_12 hm
          refine AWP.if_ false (Eq.trans (by kernel_rfl) (lit_tf (b := decide (((p0.toNat : Nat) : Int) = 4)) hc69_12)) ?_
          refine AWP.skip ?_
          refine InBlock.normal ?_
          refine Then.normal ?_
          refine Amk 576 3 ⟨(tp 6 ((.loc 0 0) :: (tp 2 ((.loc 1 0) :: (tp 97 []))))), [(.box [(.d (byteD 0)), (.d (.lit (.int .i64 0))), (.d (.lit (.int .u64 0))), (.d (.lit (.string (toS ([] : List UInt8)))))]), (.box [(.d (byteD p0)), (.d (.lit (.int .i64 0))), (.d (.lit (.int .u64 0))), (.d (.lit (.string (toS ([] : List UInt8)))))])], 0⟩ ?_
          refine AWP.seq ?_
          refine AWP.text ?_
          refine Wy (.agg [(.d (byteD p0)), (.d (.lit (.int .i64 0))), (.d (.lit (.int .u64 0))), (.d (.lit (.string (toS ([] : List UInt8)))))]) [] (Old rfl) ?_
          refine Wy (.tup []) [(0, (.box [(.d (byteD p0)), (.d (.lit (.int .i64 0))), (.d (.lit (.int .u64 0))), (.d (.lit (.string (toS ([] : List UInt8)))))]))] (Ost rfl) ?_
          refine Wy (.d (.lit (.int .i64 0))) [] (Omv rfl) ?_
          refine Wy (.d (.lit (.int .i64 11))) [] (Omv rfl) ?_
          refine Walk.nil ?_
          refine Then.normal ?_
          refine AWP.ret ?_
          obtain rfl := Option.some.inj hm
          exact ret_i []

set_option maxRecDepth 20000 in
set_option maxHeartbeats 4000000 in
theorem ok_value_Take (p0 : (List UInt8)) (p1 : Int) (r : (GValue × Int × Int)) (h : m_value_Take p0 p1 = some r) : GCall Try.prog 16 [(.d (.lit (.string (toS p0)))), (.d (.lit (.int .i64 p1)))] [] (.tup [(.agg [(.d (byteD r.1.Kind)), (.d (.lit (.int .i64 r.1.N))), (.d (.lit (.int .u64 r.1.Bits))), (.d (.lit (.string (toS r.1.Text))))]), (.d (.lit (.int .i64 r.2.1))), (.d (.lit (.int .i64 r.2.2)))]) [] := by
  refine GCall.of_body (n := 42) (rs := [(.cell 4 31), (.tmp 5), (.tmp 6)]) Try.func16 rfl rfl rfl ?_
  refine Ato ⟨((.d (.lit (.string (toS p0)))) :: ((.d (.lit (.int .i64 p1))) :: (tu 40 []))), [], 0⟩ ?_
  have hm := h
  unfold m_value_Take at hm
  refine AWP.seq ?_
  refine AWP.text ?_
  refine Wy (.loc 0 0) [(0, (.box [(.d (byteD 0)), (.d (.lit (.int .i64 0))), (.d (.lit (.int .u64 0))), (.d (.lit (.string (toS ([] : List UInt8)))))]))] (Oal rfl) ?_
  refine Wy (.d (.lit (.int .i64 0))) [] (Omv rfl) ?_
  refine Wy (.d (.lit (.int .i64 0))) [] (Omv rfl) ?_
  refine Walk.nil ?_
  refine Then.normal ?_
  refine Amk 19 1 ⟨((.d (.lit (.string (toS p0)))) :: ((.d (.lit (.int .i64 p1))) :: (tp 2 ((.loc 0 0) :: (tp 37 []))))), [(.box [(.d (byteD 0)), (.d (.lit (.int .i64 0))), (.d (.lit (.int .u64 0))), (.d (.lit (.string (toS ([] : List UInt8)))))])], 0⟩ ?_
  refine AWP.seq ?_
  refine AWP.seq ?_
  refine AWP.text ?_
  refine Wy (.d (.lit (.int .i64 p1))) [] (Omv rfl) ?_
  refine Wy (.d (.lit (.bool (decide (p1 < 0))))) [] (Obn rfl (fun _ => hb_lss (k := .i64))) ?_
  rcases tf_ (decide (p1 < 0)) with hq9_0 | hq9_0
  · replace hm := cT hq9_0 hm
    refine Wy (.d (.lit (.bool true))) [] (Ocs (lit_tf (b := decide (p1 < 0)) hq9_0) (Omv rfl)) ?_
    refine Wn ?_
    refine Wn ?_
    refine Wn ?_
    refine Wn ?_
    refine Wy (.d (.lit (.bool true))) [] (OpT rfl) ?_
    refine Walk.nil ?_
    refine Then.normal ?_
    refine Amk 16403 1 ⟨((.d (.lit (.string (toS p0)))) :: ((.d (.lit (.int .i64 p1))) :: (tp 2 ((.loc 0 0) :: (tp 9 ((.d (.lit (.bool true))) :: (tp 27 []))))))), [(.box [(.d (byteD 0)), (.d (.lit (.int .i64 0))), (.d (.lit (.int .u64 0))), (.d (.lit (.string (toS ([] : List UInt8)))))])], 0⟩ ?_
    refine AWP.if_ true (by kernel_rfl) ?_
    refine AWP.seq ?_
    refine AWP.text ?_
    refine Wy (.agg [(.d (byteD 0)), (.d (.lit (.int .i64 0))), (.d (.lit (.int .u64 0))), (.d (.lit (.string (toS ([] : List UInt8)))))]) [] (Obd rfl) ?_
    refine Wy (.tup []) [(0, (.box [(.d (byteD 0)), (.d (.lit (.int .i64 0))), (.d (.lit (.int .u64 0))), (.d (.lit (.string (toS ([] : List UInt8)))))]))] (Ost rfl) ?_
    refine Wy (.d (.lit (.int .i64 0))) [] (Omv rfl) ?_
    refine Wy (.d (.lit (.int .i64 2))) [] (Omv rfl) ?_
    refine Walk.nil ?_
    refine Then.normal ?_
    refine AWP.ret ?_
    refine Then.ret ?_
    obtain rfl := Option.some.inj hm
    exact ret_i []
  · replace hm := cF hq9_0 hm
    refine Wy (.d (.lit (.bool false))) [] (Ocs (lit_tf (b := decide (p1 < 0)) hq9_0) (Omv rfl)) ?_
    refine Wy (.d (.lit (.int .i64 p1))) [] (Omv rfl) ?_
    refine Wy (.d (.lit (.string (toS p0)))) [] (Omv rfl) ?_
    refine Wy (.d (.lit (.int .i64 ((List.length p0 : Nat) : Int)))) [] (Oln rfl) ?_
    refine Wy (.d (.lit (.bool (decide (((List.length p0 : Nat) : Int) < p1))))) [] (Obn rfl (fun _ => hb_gtr (k := .i64))) ?_
    refine Wy (.d (.lit (.bool (decide (((List.length p0 : Nat) : Int) < p1))))) [] (OpF rfl) ?_
    refine Walk.nil ?_
    refine Then.normal ?_
    refine Amk 16403 1 ⟨((.d (.lit (.string (toS p0)))) :: ((.d (.lit (.int .i64 p1))) :: (tp 2 ((.loc 0 0) :: (tp 9 ((.d (.lit (.bool (decide (((List.length p0 : Nat) : Int) < p1))))) :: (tp 27 []))))))), [(.box [(.d (byteD 0)), (.d (.lit (.int .i64 0))), (.d (.lit (.int .u64 0))), (.d (.lit (.string (toS ([] : List UInt8)))))])], 0⟩ ?_
    rcases tf_ (decide (((List.length p0 : Nat) : Int) < p1)) with hc14_5 | hc14_5
    · replace hm := cT hc14_5 hm
      refine AWP.if_ true (Eq.trans (by kernel_rfl) (lit_tf (b := decide (((List.length p0 : Nat) : Int) < p1)) hc14_5)) ?_
      refine AWP.seq ?_
      refine AWP.text ?_
      refine Wy (.agg [(.d (byteD 0)), (.d (.lit (.int .i64 0))), (.d (.lit (.int .u64 0))), (.d (.lit (.string (toS ([] : List UInt8)))))]) [] (Obd rfl) ?_
      refine Wy (.tup []) [(0, (.box [(.d (byteD 0)), (.d (.lit (.int .i64 0))), (.d (.lit (.int .u64 0))), (.d (.lit (.string (toS ([] : List UInt8)))))]))] (Ost rfl) ?_
      refine Wy (.d (.lit (.int .i64 0))) [] (Omv rfl) ?_
      refine Wy (.d (.lit (.int .i64 2))) [] (Omv rfl) ?_
      refine Walk.nil ?_
      refine Then.normal ?_
      refine AWP.ret ?_
      refine Then.ret ?_
      obtain rfl := Option.some.inj hm
      exact ret_i []
    · replace hm := cF hc14_5 hm
      refine AWP.if_ false (Eq.trans (by kernel_rfl) (lit_tf (b := decide (((List.length p0 : Nat) : Int) < p1)) hc14_5)) ?_
      refine AWP.skip ?_
      refine Then.normal ?_
      refine Amk 19 1 ⟨((.d (.lit (.string (toS p0)))) :: ((.d (.lit (.int .i64 p1))) :: (tp 2 ((.loc 0 0) :: (tp 37 []))))), [(.box [(.d (byteD 0)), (.d (.lit (.int .i64 0))), (.d (.lit (.int .u64 0))), (.d (.lit (.string (toS ([] : List UInt8)))))])], 0⟩ ?_
      refine AWP.seq ?_
      refine AWP.seq ?_
      refine AWP.text ?_
      refine Wy (.d (.lit (.int .i64 p1))) [] (Omv rfl) ?_
      refine Wy (.d (.lit (.string (toS p0)))) [] (Omv rfl) ?_
      refine Wy (.d (.lit (.int .i64 ((List.length p0 : Nat) : Int)))) [] (Oln rfl) ?_
      refine Wy (.d (.lit (.bool (decide (p1 = ((List.length p0 : Nat) : Int)))))) [] (Obn rfl (fun _ => hb_eql (k := .i64))) ?_
      refine Walk.nil ?_
      refine Then.normal ?_
      refine Amk 524307 1 ⟨((.d (.lit (.string (toS p0)))) :: ((.d (.lit (.int .i64 p1))) :: (tp 2 ((.loc 0 0) :: (tp 14 ((.d (.lit (.bool (decide (p1 = ((List.length p0 : Nat) : Int)))))) :: (tp 22 []))))))), [(.box [(.d (byteD 0)), (.d (.lit (.int .i64 0))), (.d (.lit (.int .u64 0))), (.d (.lit (.string (toS ([] : List UInt8)))))])], 0⟩ ?_
      rcases tf_ (decide (p1 = ((List.length p0 : Nat) : Int))) with hc19_6 | hc19_6
      · replace hm := cT hc19_6 hm
        refine AWP.if_ true (Eq.trans (by kernel_rfl) (lit_tf (b := decide (p1 = ((List.length p0 : Nat) : Int))) hc19_6)) ?_
        refine AWP.seq ?_
        refine AWP.text ?_
        refine Wy (.agg [(.d (byteD 0)), (.d (.lit (.int .i64 0))), (.d (.lit (.int .u64 0))), (.d (.lit (.string (toS ([] : List UInt8)))))]) [] (Obd rfl) ?_
        refine Wy (.tup []) [(0, (.box [(.d (byteD 0)), (.d (.lit (.int .i64 0))), (.d (.lit (.int .u64 0))), (.d (.lit (.string (toS ([] : List UInt8)))))]))] (Ost rfl) ?_
        refine Wy (.d (.lit (.int .i64 0))) [] (Omv rfl) ?_
        refine Wy (.d (.lit (.int .i64 3))) [] (Omv rfl) ?_
        refine Walk.nil ?_
        refine Then.normal ?_
        refine AWP.ret ?_
        refine Then.ret ?_
        obtain rfl := Option.some.inj hm
        exact ret_i []
      · replace hm := cF hc19_6 hm
        refine AWP.if_ false (Eq.trans (by kernel_rfl) (lit_tf (b := decide (p1 = ((List.length p0 : Nat) : Int))) hc19_6)) ?_
        refine AWP.skip ?_
        refine Then.normal ?_
        refine Amk 19 1 ⟨((.d (.lit (.string (toS p0)))) :: ((.d (.lit (.int .i64 p1))) :: (tp 2 ((.loc 0 0) :: (tp 37 []))))), [(.box [(.d (byteD 0)), (.d (.lit (.int .i64 0))), (.d (.lit (.int .u64 0))), (.d (.lit (.string (toS ([] : List UInt8)))))])], 0⟩ ?_
        refine AWP.seq ?_
        refine AWP.text ?_
        refine Wy (.d (.lit (.string (toS p0)))) [] (Omv rfl) ?_
        refine Wy (.d (.lit (.int .i64 p1))) [] (Omv rfl) ?_
        obtain ⟨x24_2, hx24_2, hm⟩ := bnd hm
        obtain ⟨hx24_2i, hx24_2g⟩ := geti_some hx24_2
        refine Wy (.d (byteD x24_2)) [] (Ocs (by kernel_rfl) (op_index_str rfl (by kernel_rfl) (s := toS p0) (by kernel_rfl) (k := .i64) (iv := p1) (by kernel_rfl) (i := (Int.toNat p1)) (hx24_2i) (b := x24_2) (hx24_2g))) ?_
        refine Wy (.d (.lit (.string (toS p0)))) [] (Omv rfl) ?_
        refine Wy (.d (.lit (.int .i64 p1))) [] (Omv rfl) ?_
        refine Wy (.d (.lit (.int .i64 (IntKind.i64.wrap (p1 + 1))))) [] (Obn rfl (fun _ => hb_add (k := .i64))) ?_
        obtain ⟨r28_2, hr28_2, hm⟩ := bnd hm
        refine Wy (.tup [(.agg [(.d (byteD r28_2.1.Kind)), (.d (.lit (.int .i64 r28_2.1.N))), (.d (.lit (.int .u64 r28_2.1.Bits))), (.d (.lit (.string (toS r28_2.1.Text))))]), (.d (.lit (.int .i64 r28_2.2.1))), (.d (.lit (.int .i64 r28_2.2.2)))]) [] (Ocf [] [] [] 0 (ok_value_body x24_2 p0 (IntKind.i64.wrap (p1 + 1)) r28_2 hr28_2) (fun a w => Try.call43 a w) rfl trivial) ?_
        refine Wy (.tup [(.agg [(.d (byteD r28_2.1.Kind)), (.d (.lit (.int .i64 r28_2.1.N))), (.d (.lit (.int .u64 r28_2.1.Bits))), (.d (.lit (.string (toS r28_2.1.Text))))]), (.d (.lit (.int .i64 r28_2.2.1))), (.d (.lit (.int .i64 r28_2.2.2)))]) [] (Omv rfl) ?_
        refine Wy (.agg [(.d (byteD r28_2.1.Kind)), (.d (.lit (.int .i64 r28_2.1.N))), (.d (.lit (.int .u64 r28_2.1.Bits))), (.d (.lit (.string (toS r28_2.1.Text))))]) [] (Oex rfl) ?_
        refine Wy (.d (.lit (.int .i64 r28_2.2.1))) [] (Oex rfl) ?_
        refine Wy (.d (.lit (.int .i64 r28_2.2.2))) [] (Oex rfl) ?_
        refine Wy (.tup []) [(0, (.box [(.d (byteD r28_2.1.Kind)), (.d (.lit (.int .i64 r28_2.1.N))), (.d (.lit (.int .u64 r28_2.1.Bits))), (.d (.lit (.string (toS r28_2.1.Text))))]))] (Ost rfl) ?_
        refine Wy (.d (.lit (.int .i64 r28_2.2.1))) [] (Omv rfl) ?_
        refine Wy (.d (.lit (.int .i64 r28_2.2.2))) [] (Omv rfl) ?_
        refine Walk.nil ?_
        refine Then.normal ?_
        refine Amk 112 1 ⟨(tp 4 ((.loc 0 0) :: ((.d (.lit (.int .i64 r28_2.2.1))) :: ((.d (.lit (.int .i64 r28_2.2.2))) :: (tp 35 []))))), [(.box [(.d (byteD r28_2.1.Kind)), (.d (.lit (.int .i64 r28_2.1.N))), (.d (.lit (.int .u64 r28_2.1.Bits))), (.d (.lit (.string (toS r28_2.1.Text))))])], 0⟩ ?_
        refine AWP.cutJ (α := Int) (fun x => match x with | y6_4 => (⟨(tp 4 ((.loc 0 0) :: ((.d (.lit (.int .i64 r28_2.2.1))) :: ((.d (.lit (.int .i64 y6_4))) :: (tp 35 []))))), [(.box [(.d (byteD r28_2.1.Kind)), (.d (.lit (.int .i64 r28_2.1.N))), (.d (.lit (.int .u64 r28_2.1.Bits))), (.d (.lit (.string (toS r28_2.1.Text))))])], 0⟩ : St)) (fun x => match x with | y6_4 => m_value_Take_j4 r28_2 y6_4 = some r) ?_ (fun J4 => ?_)
        · rintro y6_4 hm
          try dsimp only at hm ⊢
          unfold m_value_Take_j4 at hm
          refine AWP.seq ?_
          refine AWP.seq ?_
          refine AWP.text ?_
          refine Wy (.d (.lit (.int .i64 y6_4))) [] (Omv rfl) ?_
          refine Wy (.d (.lit (.bool (decide (y6_4 ≠ 0))))) [] (Obn rfl (fun _ => hb_neq (k := .i64))) ?_
          refine Walk.nil ?_
          refine Then.normal ?_
          refine Amk 137438953584 1 ⟨(tp 4 ((.loc 0 0) :: ((.d (.lit (.int .i64 r28_2.2.1))) :: ((.d (.lit (.int .i64 y6_4))) :: (tp 30 ((.d (.lit (.bool (decide (y6_4 ≠ 0))))) :: (tp 4 []))))))), [(.box [(.d (byteD r28_2.1.Kind)), (.d (.lit (.int .i64 r28_2.1.N))), (.d (.lit (.int .u64 r28_2.1.Bits))), (.d (.lit (.string (toS r28_2.1.Text))))])], 0⟩ ?_
          rcases tf_ (decide (y6_4 ≠ 0)) with hc37_7 | hc37_7
          · replace hm := cT hc37_7 hm
            refine AWP.if_ true (Eq.trans (by kernel_rfl) (lit_tf (b := decide (y6_4 ≠ 0)) hc37_7)) ?_
            refine AWP.seq ?_
            refine AWP.text ?_
            refine Wy (.agg [(.d (byteD 0)), (.d (.lit (.int .i64 0))), (.d (.lit (.int .u64 0))), (.d (.lit (.string (toS ([] : List UInt8)))))]) [] (Obd rfl) ?_
            refine Wy (.d (.lit (.int .i64 y6_4))) [] (Omv rfl) ?_
            refine Wy (.tup []) [(0, (.box [(.d (byteD 0)), (.d (.lit (.int .i64 0))), (.d (.lit (.int .u64 0))), (.d (.lit (.string (toS ([] : List UInt8)))))]))] (Ost rfl) ?_
            refine Wy (.d (.lit (.int .i64 0))) [] (Omv rfl) ?_
            refine Wy (.d (.lit (.int .i64 y6_4))) [] (Omv rfl) ?_
            refine Walk.nil ?_
            refine Then.normal ?_
            refine AWP.ret ?_
            refine Then.ret ?_
            obtain rfl := Option.some.inj hm
            exact ret_i []
          · replace hm := cF hc37_7 hm
            refine AWP.if_ false (Eq.trans (by kernel_rfl) (lit_tf (b := decide (y6_4 ≠ 0)) hc37_7)) ?_
            refine AWP.skip ?_
            refine Then.normal ?_
            refine Amk 48 1 ⟨(tp 4 ((.loc 0 0) :: ((.d (.lit (.int .i64 r28_2.2.1))) :: (tp 36 [])))), [(.box [(.d (byteD r28_2.1.Kind)), (.d (.lit (.int .i64 r28_2.1.N))), (.d (.lit (.int .u64 r28_2.1.Bits))), (.d (.lit (.string (toS r28_2.1.Text))))])], 0⟩ ?_
            refine AWP.seq ?_
            refine AWP.text ?_
            refine Wy (.agg [(.d (byteD r28_2.1.Kind)), (.d (.lit (.int .i64 r28_2.1.N))), (.d (.lit (.int .u64 r28_2.1.Bits))), (.d (.lit (.string (toS r28_2.1.Text))))]) [] (Old rfl) ?_
            refine Wy (.d (.lit (.int .i64 r28_2.2.1))) [] (Omv rfl) ?_
            refine Wy (.tup []) [(0, (.box [(.d (byteD r28_2.1.Kind)), (.d (.lit (.int .i64 r28_2.1.N))), (.d (.lit (.int .u64 r28_2.1.Bits))), (.d (.lit (.string (toS r28_2.1.Text))))]))] (Ost rfl) ?_
            refine Wy (.d (.lit (.int .i64 r28_2.2.1))) [] (Omv rfl) ?_
            refine Wy (.d (.lit (.int .i64 0))) [] (Omv rfl) ?_
            refine Walk.nil ?_
            refine Then.normal ?_
            refine AWP.ret ?_
            obtain rfl := Option.some.inj hm
            exact ret_i []
        refine AWP.seq ?_
        refine AWP.seq ?_
        refine AWP.text ?_
        refine Wy (.d (.lit (.int .i64 r28_2.2.2))) [] (Omv rfl) ?_
        refine Wy (.d (.lit (.bool (decide (r28_2.2.2 = 0))))) [] (Obn rfl (fun _ => hb_eql (k := .i64))) ?_
        refine Walk.nil ?_
        refine Then.normal ?_
        refine Amk 8589934704 1 ⟨(tp 4 ((.loc 0 0) :: ((.d (.lit (.int .i64 r28_2.2.1))) :: ((.d (.lit (.int .i64 r28_2.2.2))) :: (tp 26 ((.d (.lit (.bool (decide (r28_2.2.2 = 0))))) :: (tp 8 []))))))), [(.box [(.d (byteD r28_2.1.Kind)), (.d (.lit (.int .i64 r28_2.1.N))), (.d (.lit (.int .u64 r28_2.1.Bits))), (.d (.lit (.string (toS r28_2.1.Text))))])], 0⟩ ?_
        rcases tf_ (decide (r28_2.2.2 = 0)) with hc33_8 | hc33_8
        · replace hm := cT hc33_8 hm
          refine AWP.if_ true (Eq.trans (by kernel_rfl) (lit_tf (b := decide (r28_2.2.2 = 0)) hc33_8)) ?_
          refine AWP.text ?_
          refine Wy (.agg [(.d (byteD r28_2.1.Kind)), (.d (.lit (.int .i64 r28_2.1.N))), (.d (.lit (.int .u64 r28_2.1.Bits))), (.d (.lit (.string (toS r28_2.1.Text))))]) [] (Old rfl) ?_
          obtain ⟨r35_3, hr35_3, hm⟩ := bnd hm
          refine Wy (.d (.lit (.int .i64 r35_3))) [] (Ocf [] [] [] 0 (ok_value_Check r28_2.1 r35_3 hr35_3) (fun a w => Try.call12 a w) rfl trivial) ?_
          refine Wy (.d (.lit (.int .i64 r35_3))) [] (Omv rfl) ?_
          refine Walk.nil ?_
          refine Then.normal ?_
          exact AWP.weak (Weak.toK 112 0 0 [0]) (J4 (r35_3) hm)
        · replace hm := cF hc33_8 hm
          refine AWP.if_ false (Eq.trans (by kernel_rfl) (lit_tf (b := decide (r28_2.2.2 = 0)) hc33_8)) ?_
          refine AWP.skip ?_
          refine Then.normal ?_
          exact AWP.weak (Weak.toK 112 0 0 [0]) (J4 (r28_2.2.2) hm)

set_option maxRecDepth 20000 in
set_option maxHeartbeats 4000000 in
theorem ok_value_OfFlag (p0 : Bool) (r : GValue) (h : m_value_OfFlag p0 = some r) : GCall Try.prog 19 [(.d (.lit (.bool p0)))] [] (.agg [(.d (byteD r.Kind)), (.d (.lit (.int .i64 r.N))), (.d (.lit (.int .u64 r.Bits))), (.d (.lit (.string (toS r.Text))))]) [] := by
  refine GCall.of_body (n := 8) (rs := [(.cell 2 31)]) Try.func19 rfl rfl rfl ?_
  refine Ato ⟨((.d (.lit (.bool p0))) :: (tu 7 [])), [], 0⟩ ?_
  have hm := h
  unfold m_value_OfFlag at hm
  refine AWP.seq ?_
  refine AWP.text ?_
  refine Wy (.loc 0 0) [(0, (.box [(.d (byteD 0)), (.d (.lit (.int .i64 0))), (.d (.lit (.int .u64 0))), (.d (.lit (.string (toS ([] : List UInt8)))))]))] (Oal rfl) ?_
  refine Walk.nil ?_
  refine Then.normal ?_
  refine Amk 5 1 ⟨((.d (.lit (.bool p0))) :: (tp 1 ((.loc 0 0) :: (tp 5 [])))), [(.box [(.d (byteD 0)), (.d (.lit (.int .i64 0))), (.d (.lit (.int .u64 0))), (.d (.lit (.string (toS ([] : List UInt8)))))])], 0⟩ ?_
  refine AWP.seq ?_
  refine AWP.text ?_
  refine Wy (.agg [(.d (byteD 2)), (.d (.lit (.int .i64 0))), (.d (.lit (.int .u64 0))), (.d (.lit (.string (toS ([] : List UInt8)))))]) [] (Obd rfl) ?_
  refine Wy (.loc 1 0) [(1, (.box [(.d (byteD 0)), (.d (.lit (.int .i64 0))), (.d (.lit (.int .u64 0))), (.d (.lit (.string (toS ([] : List UInt8)))))]))] (Oal rfl) ?_
  refine Wy (.tup []) [(1, (.box [(.d (byteD 2)), (.d (.lit (.int .i64 0))), (.d (.lit (.int .u64 0))), (.d (.lit (.string (toS ([] : List UInt8)))))]))] (Ost rfl) ?_
  refine Walk.nil ?_
  refine Then.normal ?_
  refine Amk 13 3 ⟨((.d (.lit (.bool p0))) :: (tp 1 ((.loc 0 0) :: ((.loc 1 0) :: (tp 4 []))))), [(.box [(.d (byteD 0)), (.d (.lit (.int .i64 0))), (.d (.lit (.int .u64 0))), (.d (.lit (.string (toS ([] : List UInt8)))))]), (.box [(.d (byteD 2)), (.d (.lit (.int .i64 0))), (.d (.lit (.int .u64 0))), (.d (.lit (.string (toS ([] : List UInt8)))))])], 0⟩ ?_
  refine AWP.seq ?_
  refine AWP.seq ?_
  refine AWP.text ?_
  refine Wy (.d (.lit (.bool p0))) [] (Omv rfl) ?_
  refine Walk.nil ?_
  refine Then.normal ?_
  refine Amk 44 3 ⟨(tp 2 ((.loc 0 0) :: ((.loc 1 0) :: (tp 1 ((.d (.lit (.bool p0))) :: (tp 2 [])))))), [(.box [(.d (byteD 0)), (.d (.lit (.int .i64 0))), (.d (.lit (.int .u64 0))), (.d (.lit (.string (toS ([] : List UInt8)))))]), (.box [(.d (byteD 2)), (.d (.lit (.int .i64 0))), (.d (.lit (.int .u64 0))), (.d (.lit (.string (toS ([] : List UInt8)))))])], 0⟩ ?_
  rcases tf_ p0 with hc5_0 | hc5_0
  · replace hm := cT hc5_0 hm
    refine AWP.if_ true (Eq.trans (by kernel_rfl) (lit_tf (b := p0) hc5_0)) ?_
    refine AWP.text ?_
    refine Wy (.loc 1 1) [] (Ofa rfl) ?_
    refine Wy (.tup []) [(1, (.box [(.d (byteD 2)), (.d (.lit (.int .i64 1))), (.d (.lit (.int .u64 0))), (.d (.lit (.string (toS ([] : List UInt8)))))]))] (Ost rfl) ?_
    refine Walk.nil ?_
    refine Then.normal ?_
    refine Amk 12 3 ⟨(tp 2 ((.loc 0 0) :: ((.loc 1 0) :: (tp 4 [])))), [(.box [(.d (byteD 0)), (.d (.lit (.int .i64 0))), (.d (.lit (.int .u64 0))), (.d (.lit (.string (toS ([] : List UInt8)))))]), (.box [(.d (byteD 2)), (.d (.lit (.int .i64 1))), (.d (.lit (.int .u64 0))), (.d (.lit (.string (toS ([] : List UInt8)))))])], 0⟩ ?_
    refine AWP.seq ?_
    refine AWP.text ?_
    refine Wy (.agg [(.d (byteD 2)), (.d (.lit (.int .i64 1))), (.d (.lit (.int .u64 0))), (.d (.lit (.string (toS ([] : List UInt8)))))]) [] (Old rfl) ?_
    refine Wy (.tup []) [(0, (.box [(.d (byteD 2)), (.d (.lit (.int .i64 1))), (.d (.lit (.int .u64 0))), (.d (.lit (.string (toS ([] : List UInt8)))))]))] (Ost rfl) ?_
    refine Walk.nil ?_
    refine Then.normal ?_
    refine AWP.ret ?_
    obtain rfl := Option.some.inj hm
    exact ret_i []
  · replace hm := cF hc5_0 hm
    refine AWP.if_ false (Eq.trans (by kernel_rfl) (lit_tf (b := p0) hc5_0)) ?_
    refine AWP.skip ?_
    refine Then.normal ?_
    refine Amk 12 3 ⟨(tp 2 ((.loc 0 0) :: ((.loc 1 0) :: (tp 4 [])))), [(.box [(.d (byteD 0)), (.d (.lit (.int .i64 0))), (.d (.lit (.int .u64 0))), (.d (.lit (.string (toS ([] : List UInt8)))))]), (.box [(.d (byteD 2)), (.d (.lit (.int .i64 0))), (.d (.lit (.int .u64 0))), (.d (.lit (.string (toS ([] : List UInt8)))))])], 0⟩ ?_
    refine AWP.seq ?_
    refine AWP.text ?_
    refine Wy (.agg [(.d (byteD 2)), (.d (.lit (.int .i64 0))), (.d (.lit (.int .u64 0))), (.d (.lit (.string (toS ([] : List UInt8)))))]) [] (Old rfl) ?_
    refine Wy (.tup []) [(0, (.box [(.d (byteD 2)), (.d (.lit (.int .i64 0))), (.d (.lit (.int .u64 0))), (.d (.lit (.string (toS ([] : List UInt8)))))]))] (Ost rfl) ?_
    refine Walk.nil ?_
    refine Then.normal ?_
    refine AWP.ret ?_
    obtain rfl := Option.some.inj hm
    exact ret_i []

set_option maxRecDepth 20000 in
set_option maxHeartbeats 4000000 in
theorem ok_value_OfInt (p0 : Int) (r : GValue) (h : m_value_OfInt p0 = some r) : GCall Try.prog 18 [(.d (.lit (.int .i64 p0)))] [] (.agg [(.d (byteD r.Kind)), (.d (.lit (.int .i64 r.N))), (.d (.lit (.int .u64 r.Bits))), (.d (.lit (.string (toS r.Text))))]) [] := by
  refine GCall.of_body (n := 7) (rs := [(.cell 2 31)]) Try.func18 rfl rfl rfl ?_
  refine Ato ⟨((.d (.lit (.int .i64 p0))) :: (tu 6 [])), [], 0⟩ ?_
  have hm := h
  unfold m_value_OfInt at hm
  refine AWP.seq ?_
  refine AWP.text ?_
  refine Wy (.loc 0 0) [(0, (.box [(.d (byteD 0)), (.d (.lit (.int .i64 0))), (.d (.lit (.int .u64 0))), (.d (.lit (.string (toS ([] : List UInt8)))))]))] (Oal rfl) ?_
  refine Walk.nil ?_
  refine Then.normal ?_
  refine Amk 5 1 ⟨((.d (.lit (.int .i64 p0))) :: (tp 1 ((.loc 0 0) :: (tp 4 [])))), [(.box [(.d (byteD 0)), (.d (.lit (.int .i64 0))), (.d (.lit (.int .u64 0))), (.d (.lit (.string (toS ([] : List UInt8)))))])], 0⟩ ?_
  refine AWP.seq ?_
  refine AWP.text ?_
  refine Wy (.d (.lit (.int .i64 p0))) [] (Omv rfl) ?_
  refine Wy (.d (.lit (.int .i64 (min p0 4611686018427387904)))) [] (op_bi2 rfl (a1 := .int .i64 p0) (a2 := .int .i64 4611686018427387904) (by kernel_rfl) (by kernel_rfl) hb_min) ?_
  refine Wy (.d (.lit (.int .i64 (max (-4611686018427387904) (min p0 4611686018427387904))))) [] (op_bi2 rfl (a1 := .int .i64 (-4611686018427387904)) (a2 := .int .i64 (min p0 4611686018427387904)) (by kernel_rfl) (by kernel_rfl) hb_max) ?_
  refine Wy (.agg [(.d (byteD 1)), (.d (.lit (.int .i64 (max (-4611686018427387904) (min p0 4611686018427387904))))), (.d (.lit (.int .u64 0))), (.d (.lit (.string (toS ([] : List UInt8)))))]) [] (Obd rfl) ?_
  refine Wy (.tup []) [(0, (.box [(.d (byteD 1)), (.d (.lit (.int .i64 (max (-4611686018427387904) (min p0 4611686018427387904))))), (.d (.lit (.int .u64 0))), (.d (.lit (.string (toS ([] : List UInt8)))))]))] (Ost rfl) ?_
  refine Walk.nil ?_
  refine Then.normal ?_
  refine AWP.ret ?_
  obtain rfl := Option.some.inj hm
  exact ret_i []

set_option maxRecDepth 20000 in
set_option maxHeartbeats 4000000 in
theorem ok_cmp_isNaN_uint8 (p0 : UInt8) (r : Bool) (h : m_cmp_isNaN_uint8 p0 = some r) : GCall Try.prog 55 [(.d (byteD p0))] [] (.d (.lit (.bool r))) [] := by
  refine GCall.of_body (n := 6) (rs := [(.tmp 2)]) Try.func55 rfl rfl rfl ?_
  refine Ato ⟨((.d (byteD p0)) :: (tu 5 [])), [], 0⟩ ?_
  have hm := h
  unfold m_cmp_isNaN_uint8 at hm
  refine AWP.seq ?_
  refine AWP.text ?_
  refine Wy (.d (.lit (.bool false))) [] (Omv rfl) ?_
  refine Walk.nil ?_
  refine Then.normal ?_
  refine Amk 1 0 ⟨((.d (byteD p0)) :: (tp 5 [])), [], 0⟩ ?_
  refine AWP.seq ?_
  refine AWP.text ?_
  refine Wy (.d (byteD p0)) [] (Omv rfl) ?_
  refine Wy (.d (byteD p0)) [] (Omv rfl) ?_
  refine Wy (.d (.lit (.bool (decide (((p0.toNat : Nat) : Int) ≠ ((p0.toNat : Nat) : Int)))))) [] (Ocs (by kernel_rfl) (op_bin rfl (a1 := .int .u8 ((p0.toNat : Nat) : Int)) (a2 := .int .u8 ((p0.toNat : Nat) : Int)) (by kernel_rfl) (by kernel_rfl) (fun _ => hb_neq))) ?_
  refine Wy (.d (.lit (.bool (decide (((p0.toNat : Nat) : Int) ≠ ((p0.toNat : Nat) : Int)))))) [] (Omv rfl) ?_
  refine Walk.nil ?_
  refine Then.normal ?_
  refine AWP.ret ?_
  obtain rfl := Option.some.inj hm
  exact ret_i []

set_option maxRecDepth 20000 in
set_option maxHeartbeats 4000000 in
theorem ok_cmp_Compare_uint8 (p0 : UInt8) (p1 : UInt8) (r : Int) (h : m_cmp_Compare_uint8 p0 p1 = some r) : GCall Try.prog 37 [(.d (byteD p0)), (.d (byteD p1))] [] (.d (.lit (.int .i64 r))) [] := by
  refine GCall.of_body (n := 20) (rs := [(.tmp 4)]) Try.func37 rfl rfl rfl ?_
  refine Ato ⟨((.d (byteD p0)) :: ((.d (byteD p1)) :: (tu 18 []))), [], 0⟩ ?_
  have hm := h
  unfold m_cmp_Compare_uint8 at hm
  refine AWP.seq ?_
  refine AWP.text ?_
  refine Wy (.d (.lit (.int .i64 0))) [] (Omv rfl) ?_
  refine Walk.nil ?_
  refine Then.normal ?_
  refine Amk 3 0 ⟨((.d (byteD p0)) :: ((.d (byteD p1)) :: (tp 18 []))), [], 0⟩ ?_
  refine AWP.seq ?_
  refine AWP.text ?_
  refine Wy (.d (byteD p0)) [] (Omv rfl) ?_
  obtain ⟨r8_0, hr8_0, hm⟩ := bnd hm
  refine Wy (.d (.lit (.bool r8_0))) [] (Ocf [] [] [] 0 (ok_cmp_isNaN_uint8 p0 r8_0 hr8_0) (fun a w => Try.call55 a w) rfl trivial) ?_
  refine Wy (.d (.lit (.bool r8_0))) [] (Omv rfl) ?_
  refine Walk.nil ?_
  refine Then.normal ?_
  refine Amk 35 0 ⟨((.d (byteD p0)) :: ((.d (byteD p1)) :: (tp 3 ((.d (.lit (.bool r8_0))) :: (tp 14 []))))), [], 0⟩ ?_
  refine AWP.seq ?_
  refine AWP.text ?_
  refine Wy (.d (byteD p1)) [] (Omv rfl) ?_
  obtain ⟨r10_1, hr10_1, hm⟩ := bnd hm
  refine Wy (.d (.lit (.bool r10_1))) [] (Ocf [] [] [] 0 (ok_cmp_isNaN_uint8 p1 r10_1 hr10_1) (fun a w => Try.call55 a w) rfl trivial) ?_
  refine Wy (.d (.lit (.bool r10_1))) [] (Omv rfl) ?_
  refine Walk.nil ?_
  refine Then.normal ?_
  refine Amk 99 0 ⟨((.d (byteD p0)) :: ((.d (byteD p1)) :: (tp 3 ((.d (.lit (.bool r8_0))) :: ((.d (.lit (.bool r10_1))) :: (tp 13 [])))))), [], 0⟩ ?_
  refine AWP.seq ?_
  refine AWP.seq ?_
  refine AWP.text ?_
  refine Wy (.d (.lit (.bool r8_0))) [] (Omv rfl) ?_
  refine Walk.nil ?_
  refine Then.normal ?_
  refine Amk 2115 0 ⟨((.d (byteD p0)) :: ((.d (byteD p1)) :: (tp 4 ((.d (.lit (.bool r10_1))) :: (tp 4 ((.d (.lit (.bool r8_0))) :: (tp 8 []))))))), [], 0⟩ ?_
  rcases tf_ r8_0 with hc11_2 | hc11_2
  · replace hm := cT hc11_2 hm
    refine AWP.if_ true (Eq.trans (by kernel_rfl) (lit_tf (b := r8_0) hc11_2)) ?_
    refine AWP.seq ?_
    refine AWP.seq ?_
    refine AWP.text ?_
    refine Wy (.d (.lit (.bool r10_1))) [] (Omv rfl) ?_
    refine Walk.nil ?_
    refine Then.normal ?_
    refine Amk 4096 0 ⟨(tp 12 ((.d (.lit (.bool r10_1))) :: (tp 7 []))), [], 0⟩ ?_
    rcases tf_ r10_1 with hc12_3 | hc12_3
    · replace hm := cT hc12_3 hm
      refine AWP.if_ true (Eq.trans (by kernel_rfl) (lit_tf (b := r10_1) hc12_3)) ?_
      refine AWP.seq ?_
      refine AWP.text ?_
      refine Wy (.d (.lit (.int .i64 0))) [] (Omv rfl) ?_
      refine Walk.nil ?_
      refine Then.normal ?_
      refine AWP.ret ?_
      refine Then.ret ?_
      refine Then.ret ?_
      obtain rfl := Option.some.inj hm
      exact ret_i []
    · replace hm := cF hc12_3 hm
      refine AWP.if_ false (Eq.trans (by kernel_rfl) (lit_tf (b := r10_1) hc12_3)) ?_
      refine AWP.skip ?_
      refine Then.normal ?_
      refine Amk 0 0 ⟨(tp 20 []), [], 0⟩ ?_
      refine AWP.seq ?_
      refine AWP.text ?_
      refine Wy (.d (.lit (.int .i64 (-1)))) [] (Omv rfl) ?_
      refine Walk.nil ?_
      refine Then.normal ?_
      refine AWP.ret ?_
      refine Then.ret ?_
      obtain rfl := Option.some.inj hm
      exact ret_i []
  · replace hm := cF hc11_2 hm
    refine AWP.if_ false (Eq.trans (by kernel_rfl) (lit_tf (b := r8_0) hc11_2)) ?_
    refine AWP.skip ?_
    refine Then.normal ?_
    refine Amk 67 0 ⟨((.d (byteD p0)) :: ((.d (byteD p1)) :: (tp 4 ((.d (.lit (.bool r10_1))) :: (tp 13 []))))), [], 0⟩ ?_
    refine AWP.seq ?_
    refine AWP.seq ?_
    refine AWP.text ?_
    refine Wy (.d (.lit (.bool r10_1))) [] (Omv rfl) ?_
    refine Walk.nil ?_
    refine Then.normal ?_
    refine Amk 8195 0 ⟨((.d (byteD p0)) :: ((.d (byteD p1)) :: (tp 11 ((.d (.lit (.bool r10_1))) :: (tp 6 []))))), [], 0⟩ ?_
    rcases tf_ r10_1 with hc13_4 | hc13_4
    · replace hm := cT hc13_4 hm
      refine AWP.if_ true (Eq.trans (by kernel_rfl) (lit_tf (b := r10_1) hc13_4)) ?_
      refine AWP.seq ?_
      refine AWP.text ?_
      refine Wy (.d (.lit (.int .i64 1))) [] (Omv rfl) ?_
      refine Walk.nil ?_
      refine Then.normal ?_
      refine AWP.ret ?_
      refine Then.ret ?_
      obtain rfl := Option.some.inj hm
      exact ret_i []
    · replace hm := cF hc13_4 hm
      refine AWP.if_ false (Eq.trans (by kernel_rfl) (lit_tf (b := r10_1) hc13_4)) ?_
      refine AWP.skip ?_
      refine Then.normal ?_
      refine Amk 3 0 ⟨((.d (byteD p0)) :: ((.d (byteD p1)) :: (tp 18 []))), [], 0⟩ ?_
      refine AWP.seq ?_
      refine AWP.seq ?_
      refine AWP.text ?_
      refine Wy (.d (byteD p0)) [] (Omv rfl) ?_
      refine Wy (.d (byteD p1)) [] (Omv rfl) ?_
      refine Wy (.d (.lit (.bool (decide (((p0.toNat : Nat) : Int) < ((p1.toNat : Nat) : Int)))))) [] (Ocs (by kernel_rfl) (op_bin rfl (a1 := .int .u8 ((p0.toNat : Nat) : Int)) (a2 := .int .u8 ((p1.toNat : Nat) : Int)) (by kernel_rfl) (by kernel_rfl) (fun _ => hb_lss))) ?_
      refine Walk.nil ?_
      refine Then.normal ?_
      refine Amk 65539 0 ⟨((.d (byteD p0)) :: ((.d (byteD p1)) :: (tp 14 ((.d (.lit (.bool (decide (((p0.toNat : Nat) : Int) < ((p1.toNat : Nat) : Int)))))) :: (tp 3 []))))), [], 0⟩ ?_
      rcases tf_ (decide (((p0.toNat : Nat) : Int) < ((p1.toNat : Nat) : Int))) with hc16_5 | hc16_5
      · replace hm := cT hc16_5 hm
        refine AWP.if_ true (Eq.trans (by kernel_rfl) (lit_tf (b := decide (((p0.toNat : Nat) : Int) < ((p1.toNat : Nat) : Int))) hc16_5)) ?_
        refine AWP.seq ?_
        refine AWP.text ?_
        refine Wy (.d (.lit (.int .i64 (-1)))) [] (Omv rfl) ?_
        refine Walk.nil ?_
        refine Then.normal ?_
        refine AWP.ret ?_
        refine Then.ret ?_
        obtain rfl := Option.some.inj hm
        exact ret_i []
      · replace hm := cF hc16_5 hm
        refine AWP.if_ false (Eq.trans (by kernel_rfl) (lit_tf (b := decide (((p0.toNat : Nat) : Int) < ((p1.toNat : Nat) : Int))) hc16_5)) ?_
        refine AWP.skip ?_
        refine Then.normal ?_
        refine Amk 3 0 ⟨((.d (byteD p0)) :: ((.d (byteD p1)) :: (tp 18 []))), [], 0⟩ ?_
        refine AWP.seq ?_
        refine AWP.seq ?_
        refine AWP.text ?_
        refine Wy (.d (byteD p0)) [] (Omv rfl) ?_
        refine Wy (.d (byteD p1)) [] (Omv rfl) ?_
        refine Wy (.d (.lit (.bool (decide (((p1.toNat : Nat) : Int) < ((p0.toNat : Nat) : Int)))))) [] (Ocs (by kernel_rfl) (op_bin rfl (a1 := .int .u8 ((p0.toNat : Nat) : Int)) (a2 := .int .u8 ((p1.toNat : Nat) : Int)) (by kernel_rfl) (by kernel_rfl) (fun _ => hb_gtr))) ?_
        refine Walk.nil ?_
        refine Then.normal ?_
        refine Amk 524288 0 ⟨(tp 19 ((.d (.lit (.bool (decide (((p1.toNat : Nat) : Int) < ((p0.toNat : Nat) : Int)))))) :: [])), [], 0⟩ ?_
        rcases tf_ (decide (((p1.toNat : Nat) : Int) < ((p0.toNat : Nat) : Int))) with hc19_6 | hc19_6
        · replace hm := cT hc19_6 hm
          refine AWP.if_ true (Eq.trans (by kernel_rfl) (lit_tf (b := decide (((p1.toNat : Nat) : Int) < ((p0.toNat : Nat) : Int))) hc19_6)) ?_
          refine AWP.seq ?_
          refine AWP.text ?_
          refine Wy (.d (.lit (.int .i64 1))) [] (Omv rfl) ?_
          refine Walk.nil ?_
          refine Then.normal ?_
          refine AWP.ret ?_
          refine Then.ret ?_
          obtain rfl := Option.some.inj hm
          exact ret_i []
        · replace hm := cF hc19_6 hm
          refine AWP.if_ false (Eq.trans (by kernel_rfl) (lit_tf (b := decide (((p1.toNat : Nat) : Int) < ((p0.toNat : Nat) : Int))) hc19_6)) ?_
          refine AWP.skip ?_
          refine Then.normal ?_
          refine Amk 0 0 ⟨(tp 20 []), [], 0⟩ ?_
          refine AWP.seq ?_
          refine AWP.text ?_
          refine Wy (.d (.lit (.int .i64 0))) [] (Omv rfl) ?_
          refine Walk.nil ?_
          refine Then.normal ?_
          refine AWP.ret ?_
          obtain rfl := Option.some.inj hm
          exact ret_i []

set_option maxRecDepth 20000 in
set_option maxHeartbeats 4000000 in
theorem ok_cmp_isNaN_int (p0 : Int) (r : Bool) (h : m_cmp_isNaN_int p0 = some r) : GCall Try.prog 56 [(.d (.lit (.int .i64 p0)))] [] (.d (.lit (.bool r))) [] := by
  refine GCall.of_body (n := 6) (rs := [(.tmp 2)]) Try.func56 rfl rfl rfl ?_
  refine Ato ⟨((.d (.lit (.int .i64 p0))) :: (tu 5 [])), [], 0⟩ ?_
  have hm := h
  unfold m_cmp_isNaN_int at hm
  refine AWP.seq ?_
  refine AWP.text ?_
  refine Wy (.d (.lit (.bool false))) [] (Omv rfl) ?_
  refine Walk.nil ?_
  refine Then.normal ?_
  refine Amk 1 0 ⟨((.d (.lit (.int .i64 p0))) :: (tp 5 [])), [], 0⟩ ?_
  refine AWP.seq ?_
  refine AWP.text ?_
  refine Wy (.d (.lit (.int .i64 p0))) [] (Omv rfl) ?_
  refine Wy (.d (.lit (.int .i64 p0))) [] (Omv rfl) ?_
  refine Wy (.d (.lit (.bool (decide (p0 ≠ p0))))) [] (Obn rfl (fun _ => hb_neq (k := .i64))) ?_
  refine Wy (.d (.lit (.bool (decide (p0 ≠ p0))))) [] (Omv rfl) ?_
  refine Walk.nil ?_
  refine Then.normal ?_
  refine AWP.ret ?_
  obtain rfl := Option.some.inj hm
  exact ret_i []

set_option maxRecDepth 20000 in
set_option maxHeartbeats 4000000 in
theorem ok_cmp_Compare_int (p0 : Int) (p1 : Int) (r : Int) (h : m_cmp_Compare_int p0 p1 = some r) : GCall Try.prog 38 [(.d (.lit (.int .i64 p0))), (.d (.lit (.int .i64 p1)))] [] (.d (.lit (.int .i64 r))) [] := by
  refine GCall.of_body (n := 20) (rs := [(.tmp 4)]) Try.func38 rfl rfl rfl ?_
  refine Ato ⟨((.d (.lit (.int .i64 p0))) :: ((.d (.lit (.int .i64 p1))) :: (tu 18 []))), [], 0⟩ ?_
  have hm := h
  unfold m_cmp_Compare_int at hm
  refine AWP.seq ?_
  refine AWP.text ?_
  refine Wy (.d (.lit (.int .i64 0))) [] (Omv rfl) ?_
  refine Walk.nil ?_
  refine Then.normal ?_
  refine Amk 3 0 ⟨((.d (.lit (.int .i64 p0))) :: ((.d (.lit (.int .i64 p1))) :: (tp 18 []))), [], 0⟩ ?_
  refine AWP.seq ?_
  refine AWP.text ?_
  refine Wy (.d (.lit (.int .i64 p0))) [] (Omv rfl) ?_
  obtain ⟨r8_0, hr8_0, hm⟩ := bnd hm
  refine Wy (.d (.lit (.bool r8_0))) [] (Ocf [] [] [] 0 (ok_cmp_isNaN_int p0 r8_0 hr8_0) (fun a w => Try.call56 a w) rfl trivial) ?_
  refine Wy (.d (.lit (.bool r8_0))) [] (Omv rfl) ?_
  refine Walk.nil ?_
  refine Then.normal ?_
  refine Amk 35 0 ⟨((.d (.lit (.int .i64 p0))) :: ((.d (.lit (.int .i64 p1))) :: (tp 3 ((.d (.lit (.bool r8_0))) :: (tp 14 []))))), [], 0⟩ ?_
  refine AWP.seq ?_
  refine AWP.text ?_
  refine Wy (.d (.lit (.int .i64 p1))) [] (Omv rfl) ?_
  obtain ⟨r10_1, hr10_1, hm⟩ := bnd hm
  refine Wy (.d (.lit (.bool r10_1))) [] (Ocf [] [] [] 0 (ok_cmp_isNaN_int p1 r10_1 hr10_1) (fun a w => Try.call56 a w) rfl trivial) ?_
  refine Wy (.d (.lit (.bool r10_1))) [] (Omv rfl) ?_
  refine Walk.nil ?_
  refine Then.normal ?_
  refine Amk 99 0 ⟨((.d (.lit (.int .i64 p0))) :: ((.d (.lit (.int .i64 p1))) :: (tp 3 ((.d (.lit (.bool r8_0))) :: ((.d (.lit (.bool r10_1))) :: (tp 13 [])))))), [], 0⟩ ?_
  refine AWP.seq ?_
  refine AWP.seq ?_
  refine AWP.text ?_
  refine Wy (.d (.lit (.bool r8_0))) [] (Omv rfl) ?_
  refine Walk.nil ?_
  refine Then.normal ?_
  refine Amk 2115 0 ⟨((.d (.lit (.int .i64 p0))) :: ((.d (.lit (.int .i64 p1))) :: (tp 4 ((.d (.lit (.bool r10_1))) :: (tp 4 ((.d (.lit (.bool r8_0))) :: (tp 8 []))))))), [], 0⟩ ?_
  rcases tf_ r8_0 with hc11_2 | hc11_2
  · replace hm := cT hc11_2 hm
    refine AWP.if_ true (Eq.trans (by kernel_rfl) (lit_tf (b := r8_0) hc11_2)) ?_
    refine AWP.seq ?_
    refine AWP.seq ?_
    refine AWP.text ?_
    refine Wy (.d (.lit (.bool r10_1))) [] (Omv rfl) ?_
    refine Walk.nil ?_
    refine Then.normal ?_
    refine Amk 4096 0 ⟨(tp 12 ((.d (.lit (.bool r10_1))) :: (tp 7 []))), [], 0⟩ ?_
    rcases tf_ r10_1 with hc12_3 | hc12_3
    · replace hm := cT hc12_3 hm
      refine AWP.if_ true (Eq.trans (by kernel_rfl) (lit_tf (b := r10_1) hc12_3)) ?_
      refine AWP.seq ?_
      refine AWP.text ?_
      refine Wy (.d (.lit (.int .i64 0))) [] (Omv rfl) ?_
      refine Walk.nil ?_
      refine Then.normal ?_
      refine AWP.ret ?_
      refine Then.ret ?_
      refine Then.ret ?_
      obtain rfl := Option.some.inj hm
      exact ret_i []
    · replace hm := cF hc12_3 hm
      refine AWP.if_ false (Eq.trans (by kernel_rfl) (lit_tf (b := r10_1) hc12_3)) ?_
      refine AWP.skip ?_
      refine Then.normal ?_
      refine Amk 0 0 ⟨(tp 20 []), [], 0⟩ ?_
      refine AWP.seq ?_
      refine AWP.text ?_
      refine Wy (.d (.lit (.int .i64 (-1)))) [] (Omv rfl) ?_
      refine Walk.nil ?_
      refine Then.normal ?_
      refine AWP.ret ?_
      refine Then.ret ?_
      obtain rfl := Option.some.inj hm
      exact ret_i []
  · replace hm := cF hc11_2 hm
    refine AWP.if_ false (Eq.trans (by kernel_rfl) (lit_tf (b := r8_0) hc11_2)) ?_
    refine AWP.skip ?_
    refine Then.normal ?_
    refine Amk 67 0 ⟨((.d (.lit (.int .i64 p0))) :: ((.d (.lit (.int .i64 p1))) :: (tp 4 ((.d (.lit (.bool r10_1))) :: (tp 13 []))))), [], 0⟩ ?_
    refine AWP.seq ?_
    refine AWP.seq ?_
    refine AWP.text ?_
    refine Wy (.d (.lit (.bool r10_1))) [] (Omv rfl) ?_
    refine Walk.nil ?_
    refine Then.normal ?_
    refine Amk 8195 0 ⟨((.d (.lit (.int .i64 p0))) :: ((.d (.lit (.int .i64 p1))) :: (tp 11 ((.d (.lit (.bool r10_1))) :: (tp 6 []))))), [], 0⟩ ?_
    rcases tf_ r10_1 with hc13_4 | hc13_4
    · replace hm := cT hc13_4 hm
      refine AWP.if_ true (Eq.trans (by kernel_rfl) (lit_tf (b := r10_1) hc13_4)) ?_
      refine AWP.seq ?_
      refine AWP.text ?_
      refine Wy (.d (.lit (.int .i64 1))) [] (Omv rfl) ?_
      refine Walk.nil ?_
      refine Then.normal ?_
      refine AWP.ret ?_
      refine Then.ret ?_
      obtain rfl := Option.some.inj hm
      exact ret_i []
    · replace hm := cF hc13_4 hm
      refine AWP.if_ false (Eq.trans (by kernel_rfl) (lit_tf (b := r10_1) hc13_4)) ?_
      refine AWP.skip ?_
      refine Then.normal ?_
      refine Amk 3 0 ⟨((.d (.lit (.int .i64 p0))) :: ((.d (.lit (.int .i64 p1))) :: (tp 18 []))), [], 0⟩ ?_
      refine AWP.seq ?_
      refine AWP.seq ?_
      refine AWP.text ?_
      refine Wy (.d (.lit (.int .i64 p0))) [] (Omv rfl) ?_
      refine Wy (.d (.lit (.int .i64 p1))) [] (Omv rfl) ?_
      refine Wy (.d (.lit (.bool (decide (p0 < p1))))) [] (Obn rfl (fun _ => hb_lss (k := .i64))) ?_
      refine Walk.nil ?_
      refine Then.normal ?_
      refine Amk 65539 0 ⟨((.d (.lit (.int .i64 p0))) :: ((.d (.lit (.int .i64 p1))) :: (tp 14 ((.d (.lit (.bool (decide (p0 < p1))))) :: (tp 3 []))))), [], 0⟩ ?_
      rcases tf_ (decide (p0 < p1)) with hc16_5 | hc16_5
      · replace hm := cT hc16_5 hm
        refine AWP.if_ true (Eq.trans (by kernel_rfl) (lit_tf (b := decide (p0 < p1)) hc16_5)) ?_
        refine AWP.seq ?_
        refine AWP.text ?_
        refine Wy (.d (.lit (.int .i64 (-1)))) [] (Omv rfl) ?_
        refine Walk.nil ?_
        refine Then.normal ?_
        refine AWP.ret ?_
        refine Then.ret ?_
        obtain rfl := Option.some.inj hm
        exact ret_i []
      · replace hm := cF hc16_5 hm
        refine AWP.if_ false (Eq.trans (by kernel_rfl) (lit_tf (b := decide (p0 < p1)) hc16_5)) ?_
        refine AWP.skip ?_
        refine Then.normal ?_
        refine Amk 3 0 ⟨((.d (.lit (.int .i64 p0))) :: ((.d (.lit (.int .i64 p1))) :: (tp 18 []))), [], 0⟩ ?_
        refine AWP.seq ?_
        refine AWP.seq ?_
        refine AWP.text ?_
        refine Wy (.d (.lit (.int .i64 p0))) [] (Omv rfl) ?_
        refine Wy (.d (.lit (.int .i64 p1))) [] (Omv rfl) ?_
        refine Wy (.d (.lit (.bool (decide (p1 < p0))))) [] (Obn rfl (fun _ => hb_gtr (k := .i64))) ?_
        refine Walk.nil ?_
        refine Then.normal ?_
        refine Amk 524288 0 ⟨(tp 19 ((.d (.lit (.bool (decide (p1 < p0))))) :: [])), [], 0⟩ ?_
        rcases tf_ (decide (p1 < p0)) with hc19_6 | hc19_6
        · replace hm := cT hc19_6 hm
          refine AWP.if_ true (Eq.trans (by kernel_rfl) (lit_tf (b := decide (p1 < p0)) hc19_6)) ?_
          refine AWP.seq ?_
          refine AWP.text ?_
          refine Wy (.d (.lit (.int .i64 1))) [] (Omv rfl) ?_
          refine Walk.nil ?_
          refine Then.normal ?_
          refine AWP.ret ?_
          refine Then.ret ?_
          obtain rfl := Option.some.inj hm
          exact ret_i []
        · replace hm := cF hc19_6 hm
          refine AWP.if_ false (Eq.trans (by kernel_rfl) (lit_tf (b := decide (p1 < p0)) hc19_6)) ?_
          refine AWP.skip ?_
          refine Then.normal ?_
          refine Amk 0 0 ⟨(tp 20 []), [], 0⟩ ?_
          refine AWP.seq ?_
          refine AWP.text ?_
          refine Wy (.d (.lit (.int .i64 0))) [] (Omv rfl) ?_
          refine Walk.nil ?_
          refine Then.normal ?_
          refine AWP.ret ?_
          obtain rfl := Option.some.inj hm
          exact ret_i []

set_option maxRecDepth 20000 in
set_option maxHeartbeats 4000000 in
theorem ok_real_Rank (p0 : Int) (r : Int) (h : m_real_Rank p0 = some r) : GCall Try.prog 40 [(.d (.lit (.int .u64 p0)))] [] (.d (.lit (.int .u64 r))) [] := by
  refine GCall.of_body (n := 12) (rs := [(.tmp 2)]) Try.func40 rfl rfl rfl ?_
  refine Ato ⟨((.d (.lit (.int .u64 p0))) :: (tu 11 [])), [], 0⟩ ?_
  have hm := h
  unfold m_real_Rank at hm
  refine AWP.seq ?_
  refine AWP.text ?_
  refine Wy (.d (.lit (.int .u64 0))) [] (Omv rfl) ?_
  refine Walk.nil ?_
  refine Then.normal ?_
  refine Amk 1 0 ⟨((.d (.lit (.int .u64 p0))) :: (tp 11 [])), [], 0⟩ ?_
  refine AWP.seq ?_
  refine AWP.text ?_
  refine Wy (.d (.lit (.int .u64 p0))) [] (Omv rfl) ?_
  obtain ⟨r4_0, hr4_0, hm⟩ := bnd hm
  refine Wy (.d (.lit (.int .u64 r4_0))) [] (Ocf [] [] [] 0 (ok_real_Clean p0 r4_0 hr4_0) (fun a w => Try.call35 a w) rfl trivial) ?_
  refine Wy (.d (.lit (.int .u64 r4_0))) [] (Omv rfl) ?_
  refine Walk.nil ?_
  refine Then.normal ?_
  refine Amk 1 0 ⟨((.d (.lit (.int .u64 r4_0))) :: (tp 11 [])), [], 0⟩ ?_
  refine AWP.seq ?_
  refine AWP.seq ?_
  refine AWP.text ?_
  refine Wy (.d (.lit (.int .u64 r4_0))) [] (Omv rfl) ?_
  refine Wy (.d (.lit (.int .u64 (IntKind.u64.wrap (((BitVec.ofInt 64 r4_0 &&& BitVec.ofInt 64 9223372036854775808).toNat : Int)))))) [] (Ocs (by kernel_rfl) (op_bin rfl (a1 := .int .u64 r4_0) (a2 := .int .u64 9223372036854775808) (by kernel_rfl) (by kernel_rfl) (fun _ => hb_and))) ?_
  refine Wy (.d (.lit (.bool (decide ((IntKind.u64.wrap (((BitVec.ofInt 64 r4_0 &&& BitVec.ofInt 64 9223372036854775808).toNat : Int))) ≠ 0))))) [] (Obn rfl (fun _ => hb_neq (k := .u64))) ?_
  refine Walk.nil ?_
  refine Then.normal ?_
  refine Amk 129 0 ⟨((.d (.lit (.int .u64 r4_0))) :: (tp 6 ((.d (.lit (.bool (decide ((IntKind.u64.wrap (((BitVec.ofInt 64 r4_0 &&& BitVec.ofInt 64 9223372036854775808).toNat : Int))) ≠ 0))))) :: (tp 4 [])))), [], 0⟩ ?_
  rcases tf_ (decide ((IntKind.u64.wrap (((BitVec.ofInt 64 r4_0 &&& BitVec.ofInt 64 9223372036854775808).toNat : Int))) ≠ 0)) with hc7_1 | hc7_1
  · replace hm := cT hc7_1 hm
    refine AWP.if_ true (Eq.trans (by kernel_rfl) (lit_tf (b := decide ((IntKind.u64.wrap (((BitVec.ofInt 64 r4_0 &&& BitVec.ofInt 64 9223372036854775808).toNat : Int))) ≠ 0)) hc7_1)) ?_
    refine AWP.seq ?_
    refine AWP.text ?_
    refine Wy (.d (.lit (.int .u64 r4_0))) [] (Omv rfl) ?_
    refine Wy (.d (.lit (.int .u64 (IntKind.u64.wrap ((BitVec.ofInt 64 18446744073709551615 ^^^ BitVec.ofInt 64 r4_0).toNat : Int))))) [] (Ocs (by kernel_rfl) (op_un rfl (a1 := .int .u64 r4_0) (by kernel_rfl) (fun _ => hu_xor))) ?_
    refine Wy (.d (.lit (.int .u64 (IntKind.u64.wrap ((BitVec.ofInt 64 18446744073709551615 ^^^ BitVec.ofInt 64 r4_0).toNat : Int))))) [] (Omv rfl) ?_
    refine Walk.nil ?_
    refine Then.normal ?_
    refine AWP.ret ?_
    refine Then.ret ?_
    obtain rfl := Option.some.inj hm
    exact ret_i []
  · replace hm := cF hc7_1 hm
    refine AWP.if_ false (Eq.trans (by kernel_rfl) (lit_tf (b := decide ((IntKind.u64.wrap (((BitVec.ofInt 64 r4_0 &&& BitVec.ofInt 64 9223372036854775808).toNat : Int))) ≠ 0)) hc7_1)) ?_
    refine AWP.skip ?_
    refine Then.normal ?_
    refine Amk 1 0 ⟨((.d (.lit (.int .u64 r4_0))) :: (tp 11 [])), [], 0⟩ ?_
    refine AWP.seq ?_
    refine AWP.text ?_
    refine Wy (.d (.lit (.int .u64 r4_0))) [] (Omv rfl) ?_
    refine Wy (.d (.lit (.int .u64 (IntKind.u64.wrap (((BitVec.ofInt 64 r4_0 ||| BitVec.ofInt 64 9223372036854775808).toNat : Int)))))) [] (Ocs (by kernel_rfl) (op_bin rfl (a1 := .int .u64 r4_0) (a2 := .int .u64 9223372036854775808) (by kernel_rfl) (by kernel_rfl) (fun _ => hb_or))) ?_
    refine Wy (.d (.lit (.int .u64 (IntKind.u64.wrap (((BitVec.ofInt 64 r4_0 ||| BitVec.ofInt 64 9223372036854775808).toNat : Int)))))) [] (Omv rfl) ?_
    refine Walk.nil ?_
    refine Then.normal ?_
    refine AWP.ret ?_
    obtain rfl := Option.some.inj hm
    exact ret_i []

set_option maxRecDepth 20000 in
set_option maxHeartbeats 4000000 in
theorem ok_cmp_isNaN_uint64 (p0 : Int) (r : Bool) (h : m_cmp_isNaN_uint64 p0 = some r) : GCall Try.prog 57 [(.d (.lit (.int .u64 p0)))] [] (.d (.lit (.bool r))) [] := by
  refine GCall.of_body (n := 6) (rs := [(.tmp 2)]) Try.func57 rfl rfl rfl ?_
  refine Ato ⟨((.d (.lit (.int .u64 p0))) :: (tu 5 [])), [], 0⟩ ?_
  have hm := h
  unfold m_cmp_isNaN_uint64 at hm
  refine AWP.seq ?_
  refine AWP.text ?_
  refine Wy (.d (.lit (.bool false))) [] (Omv rfl) ?_
  refine Walk.nil ?_
  refine Then.normal ?_
  refine Amk 1 0 ⟨((.d (.lit (.int .u64 p0))) :: (tp 5 [])), [], 0⟩ ?_
  refine AWP.seq ?_
  refine AWP.text ?_
  refine Wy (.d (.lit (.int .u64 p0))) [] (Omv rfl) ?_
  refine Wy (.d (.lit (.int .u64 p0))) [] (Omv rfl) ?_
  refine Wy (.d (.lit (.bool (decide (p0 ≠ p0))))) [] (Obn rfl (fun _ => hb_neq (k := .u64))) ?_
  refine Wy (.d (.lit (.bool (decide (p0 ≠ p0))))) [] (Omv rfl) ?_
  refine Walk.nil ?_
  refine Then.normal ?_
  refine AWP.ret ?_
  obtain rfl := Option.some.inj hm
  exact ret_i []

set_option maxRecDepth 20000 in
set_option maxHeartbeats 4000000 in
theorem ok_cmp_Compare_uint64 (p0 : Int) (p1 : Int) (r : Int) (h : m_cmp_Compare_uint64 p0 p1 = some r) : GCall Try.prog 39 [(.d (.lit (.int .u64 p0))), (.d (.lit (.int .u64 p1)))] [] (.d (.lit (.int .i64 r))) [] := by
  refine GCall.of_body (n := 20) (rs := [(.tmp 4)]) Try.func39 rfl rfl rfl ?_
  refine Ato ⟨((.d (.lit (.int .u64 p0))) :: ((.d (.lit (.int .u64 p1))) :: (tu 18 []))), [], 0⟩ ?_
  have hm := h
  unfold m_cmp_Compare_uint64 at hm
  refine AWP.seq ?_
  refine AWP.text ?_
  refine Wy (.d (.lit (.int .i64 0))) [] (Omv rfl) ?_
  refine Walk.nil ?_
  refine Then.normal ?_
  refine Amk 3 0 ⟨((.d (.lit (.int .u64 p0))) :: ((.d (.lit (.int .u64 p1))) :: (tp 18 []))), [], 0⟩ ?_
  refine AWP.seq ?_
  refine AWP.text ?_
  refine Wy (.d (.lit (.int .u64 p0))) [] (Omv rfl) ?_
  obtain ⟨r8_0, hr8_0, hm⟩ := bnd hm
  refine Wy (.d (.lit (.bool r8_0))) [] (Ocf [] [] [] 0 (ok_cmp_isNaN_uint64 p0 r8_0 hr8_0) (fun a w => Try.call57 a w) rfl trivial) ?_
  refine Wy (.d (.lit (.bool r8_0))) [] (Omv rfl) ?_
  refine Walk.nil ?_
  refine Then.normal ?_
  refine Amk 35 0 ⟨((.d (.lit (.int .u64 p0))) :: ((.d (.lit (.int .u64 p1))) :: (tp 3 ((.d (.lit (.bool r8_0))) :: (tp 14 []))))), [], 0⟩ ?_
  refine AWP.seq ?_
  refine AWP.text ?_
  refine Wy (.d (.lit (.int .u64 p1))) [] (Omv rfl) ?_
  obtain ⟨r10_1, hr10_1, hm⟩ := bnd hm
  refine Wy (.d (.lit (.bool r10_1))) [] (Ocf [] [] [] 0 (ok_cmp_isNaN_uint64 p1 r10_1 hr10_1) (fun a w => Try.call57 a w) rfl trivial) ?_
  refine Wy (.d (.lit (.bool r10_1))) [] (Omv rfl) ?_
  refine Walk.nil ?_
  refine Then.normal ?_
  refine Amk 99 0 ⟨((.d (.lit (.int .u64 p0))) :: ((.d (.lit (.int .u64 p1))) :: (tp 3 ((.d (.lit (.bool r8_0))) :: ((.d (.lit (.bool r10_1))) :: (tp 13 [])))))), [], 0⟩ ?_
  refine AWP.seq ?_
  refine AWP.seq ?_
  refine AWP.text ?_
  refine Wy (.d (.lit (.bool r8_0))) [] (Omv rfl) ?_
  refine Walk.nil ?_
  refine Then.normal ?_
  refine Amk 2115 0 ⟨((.d (.lit (.int .u64 p0))) :: ((.d (.lit (.int .u64 p1))) :: (tp 4 ((.d (.lit (.bool r10_1))) :: (tp 4 ((.d (.lit (.bool r8_0))) :: (tp 8 []))))))), [], 0⟩ ?_
  rcases tf_ r8_0 with hc11_2 | hc11_2
  · replace hm := cT hc11_2 hm
    refine AWP.if_ true (Eq.trans (by kernel_rfl) (lit_tf (b := r8_0) hc11_2)) ?_
    refine AWP.seq ?_
    refine AWP.seq ?_
    refine AWP.text ?_
    refine Wy (.d (.lit (.bool r10_1))) [] (Omv rfl) ?_
    refine Walk.nil ?_
    refine Then.normal ?_
    refine Amk 4096 0 ⟨(tp 12 ((.d (.lit (.bool r10_1))) :: (tp 7 []))), [], 0⟩ ?_
    rcases tf_ r10_1 with hc12_3 | hc12_3
    · replace hm := cT hc12_3 hm
      refine AWP.if_ true (Eq.trans (by kernel_rfl) (lit_tf (b := r10_1) hc12_3)) ?_
      refine AWP.seq ?_
      refine AWP.text ?_
      refine Wy (.d (.lit (.int .i64 0))) [] (Omv rfl) ?_
      refine Walk.nil ?_
      refine Then.normal ?_
      refine AWP.ret ?_
      refine Then.ret ?_
      refine Then.ret ?_
      obtain rfl := Option.some.inj hm
      exact ret_i []
    · replace hm := cF hc12_3 hm
      refine AWP.if_ false (Eq.trans (by kernel_rfl) (lit_tf (b := r10_1) hc12_3)) ?_
      refine AWP.skip ?_
      refine Then.normal ?_
      refine Amk 0 0 ⟨(tp 20 []), [], 0⟩ ?_
      refine AWP.seq ?_
      refine AWP.text ?_
      refine Wy (.d (.lit (.int .i64 (-1)))) [] (Omv rfl) ?_
      refine Walk.nil ?_
      refine Then.normal ?_
      refine AWP.ret ?_
      refine Then.ret ?_
      obtain rfl := Option.some.inj hm
      exact ret_i []
  · replace hm := cF hc11_2 hm
    refine AWP.if_ false (Eq.trans (by kernel_rfl) (lit_tf (b := r8_0) hc11_2)) ?_
    refine AWP.skip ?_
    refine Then.normal ?_
    refine Amk 67 0 ⟨((.d (.lit (.int .u64 p0))) :: ((.d (.lit (.int .u64 p1))) :: (tp 4 ((.d (.lit (.bool r10_1))) :: (tp 13 []))))), [], 0⟩ ?_
    refine AWP.seq ?_
    refine AWP.seq ?_
    refine AWP.text ?_
    refine Wy (.d (.lit (.bool r10_1))) [] (Omv rfl) ?_
    refine Walk.nil ?_
    refine Then.normal ?_
    refine Amk 8195 0 ⟨((.d (.lit (.int .u64 p0))) :: ((.d (.lit (.int .u64 p1))) :: (tp 11 ((.d (.lit (.bool r10_1))) :: (tp 6 []))))), [], 0⟩ ?_
    rcases tf_ r10_1 with hc13_4 | hc13_4
    · replace hm := cT hc13_4 hm
      refine AWP.if_ true (Eq.trans (by kernel_rfl) (lit_tf (b := r10_1) hc13_4)) ?_
      refine AWP.seq ?_
      refine AWP.text ?_
      refine Wy (.d (.lit (.int .i64 1))) [] (Omv rfl) ?_
      refine Walk.nil ?_
      refine Then.normal ?_
      refine AWP.ret ?_
      refine Then.ret ?_
      obtain rfl := Option.some.inj hm
      exact ret_i []
    · replace hm := cF hc13_4 hm
      refine AWP.if_ false (Eq.trans (by kernel_rfl) (lit_tf (b := r10_1) hc13_4)) ?_
      refine AWP.skip ?_
      refine Then.normal ?_
      refine Amk 3 0 ⟨((.d (.lit (.int .u64 p0))) :: ((.d (.lit (.int .u64 p1))) :: (tp 18 []))), [], 0⟩ ?_
      refine AWP.seq ?_
      refine AWP.seq ?_
      refine AWP.text ?_
      refine Wy (.d (.lit (.int .u64 p0))) [] (Omv rfl) ?_
      refine Wy (.d (.lit (.int .u64 p1))) [] (Omv rfl) ?_
      refine Wy (.d (.lit (.bool (decide (p0 < p1))))) [] (Obn rfl (fun _ => hb_lss (k := .u64))) ?_
      refine Walk.nil ?_
      refine Then.normal ?_
      refine Amk 65539 0 ⟨((.d (.lit (.int .u64 p0))) :: ((.d (.lit (.int .u64 p1))) :: (tp 14 ((.d (.lit (.bool (decide (p0 < p1))))) :: (tp 3 []))))), [], 0⟩ ?_
      rcases tf_ (decide (p0 < p1)) with hc16_5 | hc16_5
      · replace hm := cT hc16_5 hm
        refine AWP.if_ true (Eq.trans (by kernel_rfl) (lit_tf (b := decide (p0 < p1)) hc16_5)) ?_
        refine AWP.seq ?_
        refine AWP.text ?_
        refine Wy (.d (.lit (.int .i64 (-1)))) [] (Omv rfl) ?_
        refine Walk.nil ?_
        refine Then.normal ?_
        refine AWP.ret ?_
        refine Then.ret ?_
        obtain rfl := Option.some.inj hm
        exact ret_i []
      · replace hm := cF hc16_5 hm
        refine AWP.if_ false (Eq.trans (by kernel_rfl) (lit_tf (b := decide (p0 < p1)) hc16_5)) ?_
        refine AWP.skip ?_
        refine Then.normal ?_
        refine Amk 3 0 ⟨((.d (.lit (.int .u64 p0))) :: ((.d (.lit (.int .u64 p1))) :: (tp 18 []))), [], 0⟩ ?_
        refine AWP.seq ?_
        refine AWP.seq ?_
        refine AWP.text ?_
        refine Wy (.d (.lit (.int .u64 p0))) [] (Omv rfl) ?_
        refine Wy (.d (.lit (.int .u64 p1))) [] (Omv rfl) ?_
        refine Wy (.d (.lit (.bool (decide (p1 < p0))))) [] (Obn rfl (fun _ => hb_gtr (k := .u64))) ?_
        refine Walk.nil ?_
        refine Then.normal ?_
        refine Amk 524288 0 ⟨(tp 19 ((.d (.lit (.bool (decide (p1 < p0))))) :: [])), [], 0⟩ ?_
        rcases tf_ (decide (p1 < p0)) with hc19_6 | hc19_6
        · replace hm := cT hc19_6 hm
          refine AWP.if_ true (Eq.trans (by kernel_rfl) (lit_tf (b := decide (p1 < p0)) hc19_6)) ?_
          refine AWP.seq ?_
          refine AWP.text ?_
          refine Wy (.d (.lit (.int .i64 1))) [] (Omv rfl) ?_
          refine Walk.nil ?_
          refine Then.normal ?_
          refine AWP.ret ?_
          refine Then.ret ?_
          obtain rfl := Option.some.inj hm
          exact ret_i []
        · replace hm := cF hc19_6 hm
          refine AWP.if_ false (Eq.trans (by kernel_rfl) (lit_tf (b := decide (p1 < p0)) hc19_6)) ?_
          refine AWP.skip ?_
          refine Then.normal ?_
          refine Amk 0 0 ⟨(tp 20 []), [], 0⟩ ?_
          refine AWP.seq ?_
          refine AWP.text ?_
          refine Wy (.d (.lit (.int .i64 0))) [] (Omv rfl) ?_
          refine Walk.nil ?_
          refine Then.normal ?_
          refine AWP.ret ?_
          obtain rfl := Option.some.inj hm
          exact ret_i []
end Go.Proofs.Ytgocnknbiipcfaa.K
