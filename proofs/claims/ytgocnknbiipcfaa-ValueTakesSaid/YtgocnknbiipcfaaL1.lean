/- each function computes what its model says (1) -/
import Derived.Test.YtgocnknbiipcfaaL0
namespace Go.Proofs.Ytgocnknbiipcfaa.K
open Go.RowKit Go.Lib
set_option linter.unusedVariables false
set_option linter.unusedSimpArgs false

set_option maxRecDepth 20000 in
set_option maxHeartbeats 4000000 in
theorem ok_octet_Word (p0 : (List UInt8)) (p1 : Int) (r : (List UInt8)) (h : m_octet_Word p0 p1 = some r) : GCall Try.prog 29 [(.d (.sl (List.length p0) (flatD encU8 p0))), (.d (.lit (.int .u64 p1)))] [] (.own 0) [(.arr 5 1 (List.length r) (flatD encU8 r))] := by
  refine GCall.of_body (n := 12) (rs := [(.tmp 4)]) Try.func29 rfl rfl rfl ?_
  refine Ato ⟨((.d (.sl (List.length p0) (flatD encU8 p0))) :: ((.d (.lit (.int .u64 p1))) :: (tu 10 []))), [], 0⟩ ?_
  have hm := h
  unfold m_octet_Word at hm
  refine AWP.seq ?_
  refine AWP.text ?_
  refine Wy (.d .nil) [] (Omv rfl) ?_
  refine Walk.nil ?_
  refine Then.normal ?_
  refine Amk 3 0 ⟨((.d (.sl (List.length p0) (flatD encU8 p0))) :: ((.d (.lit (.int .u64 p1))) :: (tp 10 []))), [], 0⟩ ?_
  refine AWP.seq ?_
  refine AWP.text ?_
  refine Wy (.d (.sl (List.length p0) (flatD encU8 p0))) [] (Omv rfl) ?_
  obtain ⟨r7_0, hr7_0, hm⟩ := bnd hm
  refine Wy (.own 0) [(0, (.arr 5 1 (List.length r7_0) (flatD encU8 r7_0)))] (Ocf [] [0] [] 0 (ok_octet_grown p0 8 r7_0 hr7_0) (fun a w => Try.call49 a w) rfl trivial) ?_
  refine Wy (.own 0) [] (Omv rfl) ?_
  refine Walk.nil ?_
  refine Then.normal ?_
  refine Amk 34 1 ⟨(tp 1 ((.d (.lit (.int .u64 p1))) :: (tp 3 ((.own 0) :: (tp 6 []))))), [(.arr 5 1 (List.length r7_0) (flatD encU8 r7_0))], 0⟩ ?_
  refine AWP.seq ?_
  refine AWP.text ?_
  refine Wy (.own 0) [] (Omv rfl) ?_
  refine Wy (.d (.lit (.int .u64 p1))) [] (Omv rfl) ?_
  obtain ⟨r10_1, hr10_1, hm⟩ := bnd hm
  refine Wy (.tup []) [(0, (.arr 5 1 (List.length r10_1) (flatD encU8 r10_1)))] (Ocf [0] [] [] 0 (ok_octet_lay r7_0 8 p1 r10_1 hr10_1) (fun a w => Try.call50 a w) rfl ⟨rfl, trivial⟩) ?_
  refine Walk.nil ?_
  refine Then.normal ?_
  refine Amk 32 1 ⟨(tp 5 ((.own 0) :: (tp 6 []))), [(.arr 5 1 (List.length r10_1) (flatD encU8 r10_1))], 0⟩ ?_
  refine AWP.seq ?_
  refine AWP.text ?_
  refine Wy (.own 0) [] (Omv rfl) ?_
  refine Wy (.own 0) [] (Omv rfl) ?_
  refine Walk.nil ?_
  refine Then.normal ?_
  refine AWP.ret ?_
  obtain rfl := Option.some.inj hm
  exact ret_i [0]

set_option maxRecDepth 20000 in
set_option maxHeartbeats 4000000 in
theorem ok_value_Put (p0 : (List UInt8)) (p1 : GValue) (r : ((List UInt8) × Int)) (h : m_value_Put p0 p1 = some r) : GCall Try.prog 10 [(.d (.sl (List.length p0) (flatD encU8 p0))), (.agg [(.d (byteD p1.Kind)), (.d (.lit (.int .i64 p1.N))), (.d (.lit (.int .u64 p1.Bits))), (.d (.lit (.string (toS p1.Text))))])] [] (.tup [(.own 0), (.d (.lit (.int .i64 r.2)))]) [(.arr 5 1 (List.length r.1) (flatD encU8 r.1))] := by
  refine GCall.of_body (n := 58) (rs := [(.tmp 4), (.tmp 5)]) Try.func10 rfl rfl rfl ?_
  refine Ato ⟨((.d (.sl (List.length p0) (flatD encU8 p0))) :: ((.agg [(.d (byteD p1.Kind)), (.d (.lit (.int .i64 p1.N))), (.d (.lit (.int .u64 p1.Bits))), (.d (.lit (.string (toS p1.Text))))]) :: (tu 56 []))), [], 0⟩ ?_
  have hm := h
  unfold m_value_Put at hm
  refine AWP.seq ?_
  refine AWP.text ?_
  refine Wy (.loc 0 0) [(0, (.box [(.d (byteD p1.Kind)), (.d (.lit (.int .i64 p1.N))), (.d (.lit (.int .u64 p1.Bits))), (.d (.lit (.string (toS p1.Text))))]))] (Obx rfl) ?_
  refine Wy (.d .nil) [] (Omv rfl) ?_
  refine Wy (.d (.lit (.int .i64 0))) [] (Omv rfl) ?_
  refine Walk.nil ?_
  refine Then.normal ?_
  refine Amk 9 1 ⟨((.d (.sl (List.length p0) (flatD encU8 p0))) :: (tp 2 ((.loc 0 0) :: (tp 54 [])))), [(.box [(.d (byteD p1.Kind)), (.d (.lit (.int .i64 p1.N))), (.d (.lit (.int .u64 p1.Bits))), (.d (.lit (.string (toS p1.Text))))])], 0⟩ ?_
  refine AWP.seq ?_
  refine AWP.seq ?_
  refine AWP.text ?_
  refine Wy (.agg [(.d (byteD p1.Kind)), (.d (.lit (.int .i64 p1.N))), (.d (.lit (.int .u64 p1.Bits))), (.d (.lit (.string (toS p1.Text))))]) [] (Old rfl) ?_
  obtain ⟨r9_0, hr9_0, hm⟩ := bnd hm
  refine Wy (.d (.lit (.int .i64 r9_0))) [] (Ocf [] [] [] 0 (ok_value_Check p1 r9_0 hr9_0) (fun a w => Try.call12 a w) rfl trivial) ?_
  refine Wy (.d (.lit (.int .i64 r9_0))) [] (Omv rfl) ?_
  refine Walk.nil ?_
  refine Then.normal ?_
  refine Amk 73 1 ⟨((.d (.sl (List.length p0) (flatD encU8 p0))) :: (tp 2 ((.loc 0 0) :: (tp 2 ((.d (.lit (.int .i64 r9_0))) :: (tp 51 [])))))), [(.box [(.d (byteD p1.Kind)), (.d (.lit (.int .i64 p1.N))), (.d (.lit (.int .u64 p1.Bits))), (.d (.lit (.string (toS p1.Text))))])], 0⟩ ?_
  refine AWP.seq ?_
  refine AWP.text ?_
  refine Wy (.d (.lit (.int .i64 r9_0))) [] (Omv rfl) ?_
  refine Wy (.d (.lit (.bool (decide (r9_0 ≠ 0))))) [] (Obn rfl (fun _ => hb_neq (k := .i64))) ?_
  refine Walk.nil ?_
  refine Then.normal ?_
  refine Amk 2121 1 ⟨((.d (.sl (List.length p0) (flatD encU8 p0))) :: (tp 2 ((.loc 0 0) :: (tp 2 ((.d (.lit (.int .i64 r9_0))) :: (tp 4 ((.d (.lit (.bool (decide (r9_0 ≠ 0))))) :: (tp 46 [])))))))), [(.box [(.d (byteD p1.Kind)), (.d (.lit (.int .i64 p1.N))), (.d (.lit (.int .u64 p1.Bits))), (.d (.lit (.string (toS p1.Text))))])], 0⟩ ?_
  rcases tf_ (decide (r9_0 ≠ 0)) with hc11_8 | hc11_8
  · replace hm := cT hc11_8 hm
    refine AWP.if_ true (Eq.trans (by kernel_rfl) (lit_tf (b := decide (r9_0 ≠ 0)) hc11_8)) ?_
    refine AWP.seq ?_
    refine AWP.text ?_
    refine Wy (.d (.lit (.int .i64 r9_0))) [] (Omv rfl) ?_
    refine Wy (.d .nil) [] (Omv rfl) ?_
    refine Wy (.d (.lit (.int .i64 r9_0))) [] (Omv rfl) ?_
    refine Walk.nil ?_
    refine Then.normal ?_
    refine Aow 4 5 1 ⟨((.d (.sl (List.length p0) (flatD encU8 p0))) :: (tp 2 ((.loc 0 0) :: ((.own 1) :: ((.d (.lit (.int .i64 r9_0))) :: ((.d (.lit (.int .i64 r9_0))) :: (tp 4 ((.d (.lit (.bool (decide (r9_0 ≠ 0))))) :: ((.d (.lit (.int .i64 r9_0))) :: (tp 45 [])))))))))), [(.box [(.d (byteD p1.Kind)), (.d (.lit (.int .i64 p1.N))), (.d (.lit (.int .u64 p1.Bits))), (.d (.lit (.string (toS p1.Text))))]), (.arr 5 1 (List.length ([] : List UInt8)) (flatD encU8 ([] : List UInt8)))], 0⟩ ?_
    refine AWP.ret ?_
    refine Then.ret ?_
    obtain rfl := Option.some.inj hm
    exact ret_i [1]
  · replace hm := cF hc11_8 hm
    refine AWP.if_ false (Eq.trans (by kernel_rfl) (lit_tf (b := decide (r9_0 ≠ 0)) hc11_8)) ?_
    refine AWP.skip ?_
    refine Then.normal ?_
    refine Amk 9 1 ⟨((.d (.sl (List.length p0) (flatD encU8 p0))) :: (tp 2 ((.loc 0 0) :: (tp 54 [])))), [(.box [(.d (byteD p1.Kind)), (.d (.lit (.int .i64 p1.N))), (.d (.lit (.int .u64 p1.Bits))), (.d (.lit (.string (toS p1.Text))))])], 0⟩ ?_
    refine AWP.seq ?_
    refine AWP.text ?_
    refine Wy (.d (.sl (List.length p0) (flatD encU8 p0))) [] (Omv rfl) ?_
    refine Wy (.d (.lit (.int .i64 ((List.length p0 : Nat) : Int)))) [] (Oln rfl) ?_
    refine Wy (.d (.sl (List.length p0) (flatD encU8 p0))) [] (Omv rfl) ?_
    refine Wy (.d (.lit (.int .i64 ((List.length p0 : Nat) : Int)))) [] (Oln rfl) ?_
    refine Wy (.d (.lit (.int .i64 (IntKind.i64.wrap (((List.length p0 : Nat) : Int) + 1))))) [] (Obn rfl (fun _ => hb_add (k := .i64))) ?_
    obtain ⟨m18_1, hm18_1, hm⟩ := bnd hm; obtain ⟨hm18_1i, hm18_1j, hm18_1l, hm18_1k, hm18_1e⟩ := mkc_some hm18_1
    refine Wy (.own 1) [(1, (.arr 5 1 (List.length m18_1) (flatD encU8 m18_1)))] (OcB (op_makeC rfl elemOK_25 (by kernel_rfl) (kl := .i64) (kc := .i64) (L := ((List.length p0 : Nat) : Int)) (C := (IntKind.i64.wrap (((List.length p0 : Nat) : Int) + 1))) (by kernel_rfl) (by kernel_rfl) (n := Int.toNat ((List.length p0 : Nat) : Int)) (cp := Int.toNat (IntKind.i64.wrap (((List.length p0 : Nat) : Int) + 1))) hm18_1i hm18_1j hm18_1l (by omega) (by kernel_rfl)) (bl_one (by rw [hm18_1e]; simp) (by rw [hm18_1e]; exact (flat_rep (by kernel_rfl))))) ?_
    refine Wy (.own 1) [] (Omv rfl) ?_
    refine Walk.nil ?_
    refine Then.normal ?_
    refine Amk 137 3 ⟨((.d (.sl (List.length p0) (flatD encU8 p0))) :: (tp 2 ((.loc 0 0) :: (tp 3 ((.own 1) :: (tp 50 [])))))), [(.box [(.d (byteD p1.Kind)), (.d (.lit (.int .i64 p1.N))), (.d (.lit (.int .u64 p1.Bits))), (.d (.lit (.string (toS p1.Text))))]), (.arr 5 1 (List.length m18_1) (flatD encU8 m18_1))], 0⟩ ?_
    refine AWP.seq ?_
    refine AWP.text ?_
    refine Wy (.own 1) [] (Omv rfl) ?_
    refine Wy (.d (.sl (List.length p0) (flatD encU8 p0))) [] (Omv rfl) ?_
    obtain ⟨c21_2, hc21_2, hm⟩ := bnd hm; obtain ⟨hc21_2e, hc21_2l⟩ := cpy_some hc21_2
    refine Wy (.d (.lit (.int .i64 ((List.length p0 : Nat) : Int)))) [(1, (.arr 5 1 (List.length c21_2) (flatD encU8 c21_2)))] (OcB (Ocs (by kernel_rfl) (op_copy rfl (e := 5) (sz := 1) (by kernel_rfl) (yd := (.own 1)) (by kernel_rfl) (id := 1) (off := 0) (dn := List.length m18_1) (by kernel_rfl) (n := List.length m18_1) (xs := flatD encU8 m18_1) (by kernel_rfl) (y := (.d (.sl (List.length p0) (flatD encU8 p0)))) (by kernel_rfl) (ds := flatD encU8 p0) (soff := 0) (k := List.length p0) (by kernel_rfl) (es := flatD encU8 p0) (flat_all encU8_len) (flatD_length encU8_len _) hc21_2l (cpy_fit encU8_len hc21_2l) (by decide))) (bl_one (cpy_len hc21_2e hc21_2l) (by rw [hc21_2e]; exact cpy_put encU8_len hc21_2l))) ?_
    refine Walk.nil ?_
    refine Then.normal ?_
    refine Amk 136 3 ⟨(tp 3 ((.loc 0 0) :: (tp 3 ((.own 1) :: (tp 50 []))))), [(.box [(.d (byteD p1.Kind)), (.d (.lit (.int .i64 p1.N))), (.d (.lit (.int .u64 p1.Bits))), (.d (.lit (.string (toS p1.Text))))]), (.arr 5 1 (List.length c21_2) (flatD encU8 c21_2))], 0⟩ ?_
    refine AWP.seq ?_
    refine AWP.text ?_
    refine Wy (.own 1) [] (Omv rfl) ?_
    refine Wy (.loc 0 0) [] (Ofa rfl) ?_
    refine Wy (.d (byteD p1.Kind)) [] (Old rfl) ?_
    refine Wy (.own 2) [(2, (.arr 5 1 (List.length ([p1.Kind] : List UInt8)) (flatD encU8 ([p1.Kind] : List UInt8))))] (Obs rfl) ?_
    obtain ⟨a26_3, ha26_3, hm⟩ := bnd hm; obtain ⟨ha26_3e, ha26_3l⟩ := app_some ha26_3
    refine Wy (.own 3) [(1, .gone), (3, (.arr 5 1 (List.length a26_3) (flatD encU8 a26_3)))] (Oap rfl elemOK_25 encU8_len ha26_3e ha26_3l) ?_
    refine Wy (.own 3) [] (Omv rfl) ?_
    refine Walk.nil ?_
    refine Then.normal ?_
    refine Amk 136 9 ⟨(tp 3 ((.loc 0 0) :: (tp 3 ((.own 3) :: (tp 50 []))))), [(.box [(.d (byteD p1.Kind)), (.d (.lit (.int .i64 p1.N))), (.d (.lit (.int .u64 p1.Bits))), (.d (.lit (.string (toS p1.Text))))]), .gone, .gone, (.arr 5 1 (List.length a26_3) (flatD encU8 a26_3))], 0⟩ ?_
    refine AWP.seq ?_
    refine AWP.seq ?_
    refine AWP.text ?_
    refine Wy (.loc 0 0) [] (Ofa rfl) ?_
    refine Wy (.d (byteD p1.Kind)) [] (Old rfl) ?_
    refine Walk.nil ?_
    refine Then.normal ?_
    refine Amk 268435592 9 ⟨(tp 3 ((.loc 0 0) :: (tp 3 ((.own 3) :: (tp 20 ((.d (byteD p1.Kind)) :: (tp 29 []))))))), [(.box [(.d (byteD p1.Kind)), (.d (.lit (.int .i64 p1.N))), (.d (.lit (.int .u64 p1.Bits))), (.d (.lit (.string (toS p1.Text))))]), .gone, .gone, (.arr 5 1 (List.length a26_3) (flatD encU8 a26_3))], 0⟩ ?_
    refine AWP.block ?_
    refine AWP.seq ?_
    refine AWP.text ?_
    refine Wy (.d (.lit (.bool (decide (((p1.Kind.toNat : Nat) : Int) = 1))))) [] (Ocs (by kernel_rfl) (op_bin rfl (a1 := .int .u8 ((p1.Kind.toNat : Nat) : Int)) (a2 := .int .u8 1) (by kernel_rfl) (by kernel_rfl) (fun _ => hb_eql))) ?_
    refine Wy (.d (.lit (.bool (decide (((p1.Kind.toNat : Nat) : Int) = 1))))) [] (Omv rfl) ?_
    refine Walk.nil ?_
    refine Then.normal ?_
    refine Amk 805306504 9 ⟨(tp 3 ((.loc 0 0) :: (tp 3 ((.own 3) :: (tp 20 ((.d (byteD p1.Kind)) :: ((.d (.lit (.bool (decide (((p1.Kind.toNat : Nat) : Int) = 1))))) :: (tp 28 [])))))))), [(.box [(.d (byteD p1.Kind)), (.d (.lit (.int .i64 p1.N))), (.d (.lit (.int .u64 p1.Bits))), (.d (.lit (.string (toS p1.Text))))]), .gone, .gone, (.arr 5 1 (List.length a26_3) (flatD encU8 a26_3))], 0⟩ ?_
    rcases tf_ (decide (((p1.Kind.toNat : Nat) : Int) = 1)) with hc29_9 | hc29_9
    · replace hm := cT hc29_9 hm
      refine AWP.if_ true (Eq.trans (by kernel_rfl) (lit_tf (b := decide (((p1.Kind.toNat : Nat) : Int) = 1)) hc29_9)) ?_
      refine AWP.seq ?_
      refine AWP.text ?_
      refine Wy (.own 3) [] (Omv rfl) ?_
      refine Wy (.loc 0 1) [] (Ofa rfl) ?_
      refine Wy (.d (.lit (.int .i64 p1.N))) [] (Old rfl) ?_
      obtain ⟨r34_4, hr34_4, hm⟩ := bnd hm
      refine Wy (.own 4) [(4, (.arr 5 1 (List.length r34_4) (flatD encU8 r34_4)))] (Ocp [] [4] [3] 0 (ok_zig_PutInt a26_3 p1.N r34_4 hr34_4) (⟨by simp [A.Plain, A.Plains, D.Plain, byteD], plain_cons (flat_plain encU8_plain) (plain_nil)⟩) (fun a w => Try.call28 a w) rfl trivial) ?_
      refine Wy (.own 4) [] (Omv rfl) ?_
      refine Wy (.d (.lit (.int .i64 0))) [] (Omv rfl) ?_
      refine Walk.nil ?_
      refine Then.normal ?_
      refine AWP.ret ?_
      refine InBlock.ret ?_
      refine Then.ret ?_
      obtain rfl := Option.some.inj hm
      exact ret_i [4]
    · replace hm := cF hc29_9 hm
      refine AWP.if_ false (Eq.trans (by kernel_rfl) (lit_tf (b := decide (((p1.Kind.toNat : Nat) : Int) = 1)) hc29_9)) ?_
      refine AWP.seq ?_
      refine AWP.text ?_
      refine Wy (.d (.lit (.bool (decide (((p1.Kind.toNat : Nat) : Int) = 2))))) [] (Ocs (by kernel_rfl) (op_bin rfl (a1 := .int .u8 ((p1.Kind.toNat : Nat) : Int)) (a2 := .int .u8 2) (by kernel_rfl) (by kernel_rfl) (fun _ => hb_eql))) ?_
      refine Wy (.d (.lit (.bool (decide (((p1.Kind.toNat : Nat) : Int) = 2))))) [] (Omv rfl) ?_
      refine Walk.nil ?_
      refine Then.normal ?_
      refine Amk 34628173960 9 ⟨(tp 3 ((.loc 0 0) :: (tp 3 ((.own 3) :: (tp 20 ((.d (byteD p1.Kind)) :: (tp 6 ((.d (.lit (.bool (decide (((p1.Kind.toNat : Nat) : Int) = 2))))) :: (tp 22 []))))))))), [(.box [(.d (byteD p1.Kind)), (.d (.lit (.int .i64 p1.N))), (.d (.lit (.int .u64 p1.Bits))), (.d (.lit (.string (toS p1.Text))))]), .gone, .gone, (.arr 5 1 (List.length a26_3) (flatD encU8 a26_3))], 0⟩ ?_
      rcases tf_ (decide (((p1.Kind.toNat : Nat) : Int) = 2)) with hc35_10 | hc35_10
      · replace hm := cT hc35_10 hm
        refine AWP.if_ true (Eq.trans (by kernel_rfl) (lit_tf (b := decide (((p1.Kind.toNat : Nat) : Int) = 2)) hc35_10)) ?_
        refine AWP.seq ?_
        refine AWP.text ?_
        refine Wy (.own 3) [] (Omv rfl) ?_
        refine Wy (.loc 0 1) [] (Ofa rfl) ?_
        refine Wy (.d (.lit (.int .i64 p1.N))) [] (Old rfl) ?_
        refine Wy (.d (byteD (toU8 p1.N))) [] (Ocs (lit_int (u8w _)) (op_convert rfl (a1 := .int .i64 p1.N) (by kernel_rfl) (run_conv (ds := .int .i64) (k' := .u8) (by kernel_rfl) (by kernel_rfl)))) ?_
        refine Wy (.own 4) [(4, (.arr 5 1 (List.length ([(toU8 p1.N)] : List UInt8)) (flatD encU8 ([(toU8 p1.N)] : List UInt8))))] (Obs rfl) ?_
        obtain ⟨a42_5, ha42_5, hm⟩ := bnd hm; obtain ⟨ha42_5e, ha42_5l⟩ := app_some ha42_5
        refine Wy (.own 5) [(3, .gone), (5, (.arr 5 1 (List.length a42_5) (flatD encU8 a42_5)))] (Oap rfl elemOK_25 encU8_len ha42_5e ha42_5l) ?_
        refine Wy (.own 5) [] (Omv rfl) ?_
        refine Wy (.d (.lit (.int .i64 0))) [] (Omv rfl) ?_
        refine Walk.nil ?_
        refine Then.normal ?_
        refine AWP.ret ?_
        refine InBlock.ret ?_
        refine Then.ret ?_
        obtain rfl := Option.some.inj hm
        exact ret_i [5]
      · replace hm := cF hc35_10 hm
        refine AWP.if_ false (Eq.trans (by kernel_rfl) (lit_tf (b := decide (((p1.Kind.toNat : Nat) : Int) = 2)) hc35_10)) ?_
        refine AWP.seq ?_
        refine AWP.text ?_
        refine Wy (.d (.lit (.bool (decide (((p1.Kind.toNat : Nat) : Int) = 3))))) [] (Ocs (by kernel_rfl) (op_bin rfl (a1 := .int .u8 ((p1.Kind.toNat : Nat) : Int)) (a2 := .int .u8 3) (by kernel_rfl) (by kernel_rfl) (fun _ => hb_eql))) ?_
        refine Wy (.d (.lit (.bool (decide (((p1.Kind.toNat : Nat) : Int) = 3))))) [] (Omv rfl) ?_
        refine Walk.nil ?_
        refine Then.normal ?_
        refine Amk 8796093022344 9 ⟨(tp 3 ((.loc 0 0) :: (tp 3 ((.own 3) :: (tp 35 ((.d (.lit (.bool (decide (((p1.Kind.toNat : Nat) : Int) = 3))))) :: (tp 14 []))))))), [(.box [(.d (byteD p1.Kind)), (.d (.lit (.int .i64 p1.N))), (.d (.lit (.int .u64 p1.Bits))), (.d (.lit (.string (toS p1.Text))))]), .gone, .gone, (.arr 5 1 (List.length a26_3) (flatD encU8 a26_3))], 0⟩ ?_
        rcases tf_ (decide (((p1.Kind.toNat : Nat) : Int) = 3)) with hc43_11 | hc43_11
        · replace hm := cT hc43_11 hm
          refine AWP.if_ true (Eq.trans (by kernel_rfl) (lit_tf (b := decide (((p1.Kind.toNat : Nat) : Int) = 3)) hc43_11)) ?_
          refine AWP.seq ?_
          refine AWP.text ?_
          refine Wy (.own 3) [] (Omv rfl) ?_
          refine Wy (.loc 0 2) [] (Ofa rfl) ?_
          refine Wy (.d (.lit (.int .u64 p1.Bits))) [] (Old rfl) ?_
          obtain ⟨r48_6, hr48_6, hm⟩ := bnd hm
          refine Wy (.own 4) [(4, (.arr 5 1 (List.length r48_6) (flatD encU8 r48_6)))] (Ocp [] [4] [3] 0 (ok_octet_Word a26_3 p1.Bits r48_6 hr48_6) (⟨by simp [A.Plain, A.Plains, D.Plain, byteD], plain_cons (flat_plain encU8_plain) (plain_nil)⟩) (fun a w => Try.call29 a w) rfl trivial) ?_
          refine Wy (.own 4) [] (Omv rfl) ?_
          refine Wy (.d (.lit (.int .i64 0))) [] (Omv rfl) ?_
          refine Walk.nil ?_
          refine Then.normal ?_
          refine AWP.ret ?_
          refine InBlock.ret ?_
          refine Then.ret ?_
          obtain rfl := Option.some.inj hm
          exact ret_i [4]
        · replace hm := cF hc43_11 hm
          refine AWP.if_ false (Eq.trans (by kernel_rfl) (lit_tf (b := decide (((p1.Kind.toNat : Nat) : Int) = 3)) hc43_11)) ?_
          refine AWP.skip ?_
          refine InBlock.normal ?_
          refine Then.normal ?_
          refine Amk 136 9 ⟨(tp 3 ((.loc 0 0) :: (tp 3 ((.own 3) :: (tp 50 []))))), [(.box [(.d (byteD p1.Kind)), (.d (.lit (.int .i64 p1.N))), (.d (.lit (.int .u64 p1.Bits))), (.d (.lit (.string (toS p1.Text))))]), .gone, .gone, (.arr 5 1 (List.length a26_3) (flatD encU8 a26_3))], 0⟩ ?_
          refine AWP.seq ?_
          refine Adr ?_
          refine Wy (.own 3) [] (Omv rfl) ?_
          refine Wy (.loc 0 3) [] (Ofa rfl) ?_
          refine Wy (.d (.lit (.string (toS p1.Text)))) [] (Old rfl) ?_
          refine Wy (.d (.lit (.int .i64 ((List.length p1.Text : Nat) : Int)))) [] (Oln rfl) ?_
          refine Wy (.d (.lit (.int .u64 (IntKind.u64.wrap ((List.length p1.Text : Nat) : Int))))) [] (Ocs (by kernel_rfl) (op_convert rfl (a1 := .int .i64 ((List.length p1.Text : Nat) : Int)) (by kernel_rfl) (run_conv (ds := .int .i64) (k' := .u64) (by kernel_rfl) (by kernel_rfl)))) ?_
          obtain ⟨r54_7, hr54_7, hm⟩ := bnd hm
          refine Wy (.own 4) [(4, (.arr 5 1 (List.length r54_7) (flatD encU8 r54_7)))] (Ocp [] [4] [3] 0 (ok_zig_Put a26_3 (IntKind.u64.wrap ((List.length p1.Text : Nat) : Int)) r54_7 hr54_7) (⟨by simp [A.Plain, A.Plains, D.Plain, byteD], plain_cons (flat_plain encU8_plain) (plain_nil)⟩) (fun a w => Try.call30 a w) rfl trivial) ?_
          refine Wy (.loc 0 3) [] (Ofa rfl) ?_
          refine Wy (.d (.lit (.string (toS p1.Text)))) [] (Old rfl) ?_
          obtain ⟨a57_7, ha57_7, hm⟩ := bnd hm; obtain ⟨ha57_7e, ha57_7l⟩ := app_some ha57_7
          refine Wy (.own 5) [(4, .gone), (5, (.arr 5 1 (List.length a57_7) (flatD encU8 a57_7)))] (OcB (op_appendStr rfl elemOK_25 (by kernel_rfl) (id := 4) (by kernel_rfl) (n := List.length r54_7) (xs := flatD encU8 r54_7) (by kernel_rfl) (str := toS p1.Text) (by kernel_rfl) (app_str ha57_7l) (by kernel_rfl) (by decide)) (bl_app (by rw [ha57_7e, List.length_append]; rfl) (by rw [ha57_7e, flatD_append, flatU8 p1.Text]; rfl))) ?_
          refine Wy (.own 5) [] (Omv rfl) ?_
          refine Wy (.d (.lit (.int .i64 0))) [] (Omv rfl) ?_
          refine Wdr ?_
          refine Then.normal ?_
          refine AWP.ret ?_
          obtain rfl := Option.some.inj hm
          exact ret_i [5]

set_option maxRecDepth 20000 in
set_option maxHeartbeats 4000000 in
theorem ok_zig_Take (p0 : (List UInt8)) (p1 : Int) (r : (Int × Int × Int)) (h : m_zig_Take p0 p1 = some r) : GCall Try.prog 63 [(.d (.lit (.string (toS p0)))), (.d (.lit (.int .i64 p1)))] [] (.tup [(.d (.lit (.int .u64 r.1))), (.d (.lit (.int .i64 r.2.1))), (.d (.lit (.int .i64 r.2.2)))]) [] := by
  refine GCall.of_body (n := 59) (rs := [(.tmp 4), (.tmp 5), (.tmp 6)]) Try.func63 rfl rfl rfl ?_
  refine Ato ⟨((.d (.lit (.string (toS p0)))) :: ((.d (.lit (.int .i64 p1))) :: (tu 57 []))), [], 0⟩ ?_
  have hm := h
  unfold m_zig_Take at hm
  refine AWP.seq ?_
  refine AWP.text ?_
  refine Wy (.d (.lit (.int .u64 0))) [] (Omv rfl) ?_
  refine Wy (.d (.lit (.int .i64 0))) [] (Omv rfl) ?_
  refine Wy (.d (.lit (.int .i64 0))) [] (Omv rfl) ?_
  refine Walk.nil ?_
  refine Then.normal ?_
  refine Amk 19 0 ⟨((.d (.lit (.string (toS p0)))) :: ((.d (.lit (.int .i64 p1))) :: (tp 2 ((.d (.lit (.int .u64 0))) :: (tp 54 []))))), [], 0⟩ ?_
  refine AWP.seq ?_
  refine AWP.seq ?_
  refine AWP.text ?_
  refine Wy (.d (.lit (.int .i64 p1))) [] (Omv rfl) ?_
  refine Wy (.d (.lit (.bool (decide (p1 < 0))))) [] (Obn rfl (fun _ => hb_lss (k := .i64))) ?_
  rcases tf_ (decide (p1 < 0)) with hq11_0 | hq11_0
  · replace hm := cT hq11_0 hm
    refine Wy (.d (.lit (.bool true))) [] (Ocs (lit_tf (b := decide (p1 < 0)) hq11_0) (Omv rfl)) ?_
    refine Wn ?_
    refine Wn ?_
    refine Wn ?_
    refine Wn ?_
    refine Wy (.d (.lit (.bool true))) [] (OpT rfl) ?_
    refine Walk.nil ?_
    refine Then.normal ?_
    refine Amk 65555 0 ⟨((.d (.lit (.string (toS p0)))) :: ((.d (.lit (.int .i64 p1))) :: (tp 2 ((.d (.lit (.int .u64 0))) :: (tp 11 ((.d (.lit (.bool true))) :: (tp 42 []))))))), [], 0⟩ ?_
    refine AWP.if_ true (by kernel_rfl) ?_
    refine AWP.seq ?_
    refine AWP.text ?_
    refine Wy (.d (.lit (.int .u64 0))) [] (Omv rfl) ?_
    refine Wy (.d (.lit (.int .i64 0))) [] (Omv rfl) ?_
    refine Wy (.d (.lit (.int .i64 2))) [] (Omv rfl) ?_
    refine Walk.nil ?_
    refine Then.normal ?_
    refine AWP.ret ?_
    refine Then.ret ?_
    obtain rfl := Option.some.inj hm
    exact ret_i []
  · replace hm := cF hq11_0 hm
    refine Wy (.d (.lit (.bool false))) [] (Ocs (lit_tf (b := decide (p1 < 0)) hq11_0) (Omv rfl)) ?_
    refine Wy (.d (.lit (.int .i64 p1))) [] (Omv rfl) ?_
    refine Wy (.d (.lit (.string (toS p0)))) [] (Omv rfl) ?_
    refine Wy (.d (.lit (.int .i64 ((List.length p0 : Nat) : Int)))) [] (Oln rfl) ?_
    refine Wy (.d (.lit (.bool (decide (((List.length p0 : Nat) : Int) < p1))))) [] (Obn rfl (fun _ => hb_gtr (k := .i64))) ?_
    refine Wy (.d (.lit (.bool (decide (((List.length p0 : Nat) : Int) < p1))))) [] (OpF rfl) ?_
    refine Walk.nil ?_
    refine Then.normal ?_
    refine Amk 65555 0 ⟨((.d (.lit (.string (toS p0)))) :: ((.d (.lit (.int .i64 p1))) :: (tp 2 ((.d (.lit (.int .u64 0))) :: (tp 11 ((.d (.lit (.bool (decide (((List.length p0 : Nat) : Int) < p1))))) :: (tp 42 []))))))), [], 0⟩ ?_
    rcases tf_ (decide (((List.length p0 : Nat) : Int) < p1)) with hc16_9 | hc16_9
    · replace hm := cT hc16_9 hm
      refine AWP.if_ true (Eq.trans (by kernel_rfl) (lit_tf (b := decide (((List.length p0 : Nat) : Int) < p1)) hc16_9)) ?_
      refine AWP.seq ?_
      refine AWP.text ?_
      refine Wy (.d (.lit (.int .u64 0))) [] (Omv rfl) ?_
      refine Wy (.d (.lit (.int .i64 0))) [] (Omv rfl) ?_
      refine Wy (.d (.lit (.int .i64 2))) [] (Omv rfl) ?_
      refine Walk.nil ?_
      refine Then.normal ?_
      refine AWP.ret ?_
      refine Then.ret ?_
      obtain rfl := Option.some.inj hm
      exact ret_i []
    · replace hm := cF hc16_9 hm
      refine AWP.if_ false (Eq.trans (by kernel_rfl) (lit_tf (b := decide (((List.length p0 : Nat) : Int) < p1)) hc16_9)) ?_
      refine AWP.skip ?_
      refine Then.normal ?_
      refine Amk 19 0 ⟨((.d (.lit (.string (toS p0)))) :: ((.d (.lit (.int .i64 p1))) :: (tp 2 ((.d (.lit (.int .u64 0))) :: (tp 54 []))))), [], 0⟩ ?_
      refine AWP.seq ?_
      refine AWP.seq ?_
      refine AWP.text ?_
      refine Wy (.d (.lit (.int .i64 0))) [] (Omv rfl) ?_
      refine Walk.nil ?_
      refine Then.normal ?_
      refine Amk 131091 0 ⟨((.d (.lit (.string (toS p0)))) :: ((.d (.lit (.int .i64 p1))) :: (tp 2 ((.d (.lit (.int .u64 0))) :: (tp 12 ((.d (.lit (.int .i64 0))) :: (tp 41 []))))))), [], 0⟩ ?_
      refine AWP.block ?_
      refine AWP.loopI (α := Nat × Int × Int)
        (fun x => match x with | (fu_1, y4_1, y17_1) => (⟨((.d (.lit (.string (toS p0)))) :: ((.d (.lit (.int .i64 p1))) :: (tp 2 ((.d (.lit (.int .u64 y4_1))) :: (tp 12 ((.d (.lit (.int .i64 y17_1))) :: (tp 41 []))))))), [], 0⟩ : St))
        (fun x => match x with | (fu_1, y4_1, y17_1) => m_zig_Take_l1 p0 p1 fu_1 y4_1 y17_1 = some r)
        (fun x => match x with | (fu_1, y4_1, y17_1) => fu_1) (1152921504606846976, 0, 0)
        (Weak.toK 131091 0 0 []) hm ?_
      rintro ⟨fu_1, y4_1, y17_1⟩ n_1 hm ih_1
      try dsimp only at hm ih_1 ⊢
      cases fu_1 with
      | zero => exact absurd hm (by unfold m_zig_Take_l1; simp)
      | succ fu_1 =>
        unfold m_zig_Take_l1 at hm
        refine AWP.seq ?_
        refine AWP.text ?_
        refine Wy (.d (.lit (.bool (decide (y17_1 < 10))))) [] (Obn rfl (fun _ => hb_lss (k := .i64))) ?_
        refine Walk.nil ?_
        refine Then.normal ?_
        refine Amk 393235 0 ⟨((.d (.lit (.string (toS p0)))) :: ((.d (.lit (.int .i64 p1))) :: (tp 2 ((.d (.lit (.int .u64 y4_1))) :: (tp 12 ((.d (.lit (.int .i64 y17_1))) :: ((.d (.lit (.bool (decide (y17_1 < 10))))) :: (tp 40 [])))))))), [], 0⟩ ?_
        refine AWP.seq ?_
        rcases tf_ (decide (y17_1 < 10)) with hc18_10 | hc18_10
        · replace hm := cT hc18_10 hm
          refine AWP.if_ true (Eq.trans (by kernel_rfl) (lit_tf (b := decide (y17_1 < 10)) hc18_10)) ?_
          refine AWP.skip ?_
          refine Then.normal ?_
          refine Amk 131091 0 ⟨((.d (.lit (.string (toS p0)))) :: ((.d (.lit (.int .i64 p1))) :: (tp 2 ((.d (.lit (.int .u64 y4_1))) :: (tp 12 ((.d (.lit (.int .i64 y17_1))) :: (tp 41 []))))))), [], 0⟩ ?_
          refine AWP.seq ?_
          refine AWP.block ?_
          refine AWP.seq ?_
          refine AWP.text ?_
          refine Wy (.d (.lit (.int .i64 y17_1))) [] (Omv rfl) ?_
          refine Wy (.d (.lit (.int .i64 y17_1))) [] (Omv rfl) ?_
          refine Walk.nil ?_
          refine Then.normal ?_
          refine Amk 131219 0 ⟨((.d (.lit (.string (toS p0)))) :: ((.d (.lit (.int .i64 p1))) :: (tp 2 ((.d (.lit (.int .u64 y4_1))) :: (tp 2 ((.d (.lit (.int .i64 y17_1))) :: (tp 9 ((.d (.lit (.int .i64 y17_1))) :: (tp 41 []))))))))), [], 0⟩ ?_
          refine AWP.seq ?_
          refine AWP.seq ?_
          refine AWP.text ?_
          refine Wy (.d (.lit (.int .i64 p1))) [] (Omv rfl) ?_
          refine Wy (.d (.lit (.int .i64 y17_1))) [] (Omv rfl) ?_
          refine Wy (.d (.lit (.int .i64 (IntKind.i64.wrap (p1 + y17_1))))) [] (Obn rfl (fun _ => hb_add (k := .i64))) ?_
          refine Wy (.d (.lit (.string (toS p0)))) [] (Omv rfl) ?_
          refine Wy (.d (.lit (.int .i64 ((List.length p0 : Nat) : Int)))) [] (Oln rfl) ?_
          refine Wy (.d (.lit (.bool (decide (((List.length p0 : Nat) : Int) ≤ (IntKind.i64.wrap (p1 + y17_1))))))) [] (Obn rfl (fun _ => hb_geq (k := .i64))) ?_
          refine Walk.nil ?_
          refine Then.normal ?_
          refine Amk 33685651 0 ⟨((.d (.lit (.string (toS p0)))) :: ((.d (.lit (.int .i64 p1))) :: (tp 2 ((.d (.lit (.int .u64 y4_1))) :: (tp 2 ((.d (.lit (.int .i64 y17_1))) :: (tp 9 ((.d (.lit (.int .i64 y17_1))) :: (tp 7 ((.d (.lit (.bool (decide (((List.length p0 : Nat) : Int) ≤ (IntKind.i64.wrap (p1 + y17_1))))))) :: (tp 33 []))))))))))), [], 0⟩ ?_
          rcases tf_ (decide (((List.length p0 : Nat) : Int) ≤ (IntKind.i64.wrap (p1 + y17_1)))) with hc25_11 | hc25_11
          · replace hm := cT hc25_11 hm
            refine AWP.if_ true (Eq.trans (by kernel_rfl) (lit_tf (b := decide (((List.length p0 : Nat) : Int) ≤ (IntKind.i64.wrap (p1 + y17_1)))) hc25_11)) ?_
            refine AWP.seq ?_
            refine AWP.text ?_
            refine Wy (.d (.lit (.int .u64 0))) [] (Omv rfl) ?_
            refine Wy (.d (.lit (.int .i64 0))) [] (Omv rfl) ?_
            refine Wy (.d (.lit (.int .i64 3))) [] (Omv rfl) ?_
            refine Walk.nil ?_
            refine Then.normal ?_
            refine AWP.ret ?_
            refine Then.ret ?_
            refine InBlock.ret ?_
            refine Then.ret ?_
            refine RoundK.ret ?_
            refine InBlock.ret ?_
            refine Then.ret ?_
            obtain rfl := Option.some.inj hm
            exact ret_i []
          · replace hm := cF hc25_11 hm
            refine AWP.if_ false (Eq.trans (by kernel_rfl) (lit_tf (b := decide (((List.length p0 : Nat) : Int) ≤ (IntKind.i64.wrap (p1 + y17_1)))) hc25_11)) ?_
            refine AWP.skip ?_
            refine Then.normal ?_
            refine Amk 131219 0 ⟨((.d (.lit (.string (toS p0)))) :: ((.d (.lit (.int .i64 p1))) :: (tp 2 ((.d (.lit (.int .u64 y4_1))) :: (tp 2 ((.d (.lit (.int .i64 y17_1))) :: (tp 9 ((.d (.lit (.int .i64 y17_1))) :: (tp 41 []))))))))), [], 0⟩ ?_
            refine AWP.seq ?_
            refine AWP.text ?_
            refine Wy (.d (.lit (.string (toS p0)))) [] (Omv rfl) ?_
            refine Wy (.d (.lit (.int .i64 p1))) [] (Omv rfl) ?_
            refine Wy (.d (.lit (.int .i64 y17_1))) [] (Omv rfl) ?_
            refine Wy (.d (.lit (.int .i64 (IntKind.i64.wrap (p1 + y17_1))))) [] (Obn rfl (fun _ => hb_add (k := .i64))) ?_
            obtain ⟨x30_3, hx30_3, hm⟩ := bnd hm
            obtain ⟨hx30_3i, hx30_3g⟩ := geti_some hx30_3
            refine Wy (.d (byteD x30_3)) [] (Ocs (by kernel_rfl) (op_index_str rfl (by kernel_rfl) (s := toS p0) (by kernel_rfl) (k := .i64) (iv := (IntKind.i64.wrap (p1 + y17_1))) (by kernel_rfl) (i := (Int.toNat (IntKind.i64.wrap (p1 + y17_1)))) (hx30_3i) (b := x30_3) (hx30_3g))) ?_
            refine Wy (.d (byteD x30_3)) [] (Omv rfl) ?_
            refine Walk.nil ?_
            refine Then.normal ?_
            refine Amk 131475 0 ⟨((.d (.lit (.string (toS p0)))) :: ((.d (.lit (.int .i64 p1))) :: (tp 2 ((.d (.lit (.int .u64 y4_1))) :: (tp 2 ((.d (.lit (.int .i64 y17_1))) :: ((.d (byteD x30_3)) :: (tp 8 ((.d (.lit (.int .i64 y17_1))) :: (tp 41 [])))))))))), [], 0⟩ ?_
            refine AWP.cutJ (α := Unit) (fun x => match x with | () => (⟨((.d (.lit (.string (toS p0)))) :: ((.d (.lit (.int .i64 p1))) :: (tp 2 ((.d (.lit (.int .u64 y4_1))) :: (tp 2 ((.d (.lit (.int .i64 y17_1))) :: ((.d (byteD x30_3)) :: (tp 8 ((.d (.lit (.int .i64 y17_1))) :: (tp 41 [])))))))))), [], 0⟩ : St)) (fun x => match x with | () => m_zig_Take_j6 p1 x30_3 y17_1 y4_1 (fun y4_1 y17_1 => m_zig_Take_l1 p0 p1 fu_1 y4_1 y17_1) = some r) ?_ (fun J6 => ?_)
            · rintro ⟨⟩ hm
              try dsimp only at hm ⊢
              unfold m_zig_Take_j6 at hm
              refine AWP.cutJ (α := Unit) (fun x => match x with | () => (⟨((.d (.lit (.string (toS p0)))) :: ((.d (.lit (.int .i64 p1))) :: (tp 2 ((.d (.lit (.int .u64 y4_1))) :: (tp 2 ((.d (.lit (.int .i64 y17_1))) :: ((.d (byteD x30_3)) :: (tp 8 ((.d (.lit (.int .i64 y17_1))) :: (tp 41 [])))))))))), [], 0⟩ : St)) (fun x => match x with | () => m_zig_Take_j8 p1 x30_3 y17_1 y4_1 (fun y4_1 y17_1 => m_zig_Take_l1 p0 p1 fu_1 y4_1 y17_1) = some r) ?_ (fun J8 => ?_)
              · rintro ⟨⟩ hm
                try dsimp only at hm ⊢
                unfold m_zig_Take_j8 at hm
                refine AWP.seq ?_
                refine AWP.text ?_
                refine Wy (.d (.lit (.int .u64 y4_1))) [] (Omv rfl) ?_
                refine Wy (.d (byteD x30_3)) [] (Omv rfl) ?_
                refine Wy (.d (byteD (toU8 (((BitVec.ofInt 8 ((x30_3.toNat : Nat) : Int) &&& ~~~ BitVec.ofInt 8 128).toNat : Int))))) [] (Ocs (lit_int (u8w _)) (op_bin rfl (a1 := .int .u8 ((x30_3.toNat : Nat) : Int)) (a2 := .int .u8 128) (by kernel_rfl) (by kernel_rfl) (fun _ => hb_andNot))) ?_
                obtain ⟨v46_4, hv46_4, hm⟩ := bnd hm; replace hv46_4 := Option.some.inj hv46_4
                refine Wy (.d (.lit (.int .u64 v46_4))) [] (Ocs (Eq.trans (lit_int (wrap_of_u8 (by decide) _)) (congrArg (fun z => A.d (.lit (.int .u64 z))) hv46_4)) (op_convert rfl (a1 := .int .u8 (((toU8 (((BitVec.ofInt 8 ((x30_3.toNat : Nat) : Int) &&& ~~~ BitVec.ofInt 8 128).toNat : Int))).toNat : Nat) : Int)) (by kernel_rfl) (run_conv (ds := .int .u8) (k' := .u64) (by kernel_rfl) (by kernel_rfl)))) ?_
                refine Wy (.d (.lit (.int .i64 y17_1))) [] (Omv rfl) ?_
                refine Wy (.d (.lit (.int .i64 (IntKind.i64.wrap (7 * y17_1))))) [] (Obn rfl (fun _ => hb_mul (k := .i64))) ?_
                obtain ⟨hs49_4, hm⟩ := chk_some hm
                refine Wy (.d (.lit (.int .u64 (IntKind.u64.wrap (v46_4 * 2 ^ (Int.toNat (IntKind.i64.wrap (7 * y17_1)))))))) [] (Ocs (by kernel_rfl) (op_bin rfl (a1 := .int .u64 v46_4) (a2 := .int .i64 (IntKind.i64.wrap (7 * y17_1))) (by kernel_rfl) (by kernel_rfl) (fun _ => hb_shl (n := (Int.toNat (IntKind.i64.wrap (7 * y17_1)))) (sh_le hs49_4.2) (sh_eq hs49_4.1)))) ?_
                obtain ⟨v50_4, hv50_4, hm⟩ := bnd hm; replace hv50_4 := Option.some.inj hv50_4
                refine Wy (.d (.lit (.int .u64 v50_4))) [] (Ocs (Eq.trans (by kernel_rfl) (congrArg (fun z => A.d (.lit (.int .u64 z))) hv50_4)) (op_bin rfl (a1 := .int .u64 y4_1) (a2 := .int .u64 (IntKind.u64.wrap (v46_4 * 2 ^ (Int.toNat (IntKind.i64.wrap (7 * y17_1)))))) (by kernel_rfl) (by kernel_rfl) (fun _ => hb_or))) ?_
                refine Wy (.d (.lit (.int .u64 v50_4))) [] (Omv rfl) ?_
                refine Walk.nil ?_
                refine Then.normal ?_
                refine Amk 131475 0 ⟨((.d (.lit (.string (toS p0)))) :: ((.d (.lit (.int .i64 p1))) :: (tp 2 ((.d (.lit (.int .u64 v50_4))) :: (tp 2 ((.d (.lit (.int .i64 y17_1))) :: ((.d (byteD x30_3)) :: (tp 8 ((.d (.lit (.int .i64 y17_1))) :: (tp 41 [])))))))))), [], 0⟩ ?_
                refine AWP.seq ?_
                refine AWP.text ?_
                refine Wy (.d (byteD x30_3)) [] (Omv rfl) ?_
                refine Wy (.d (.lit (.bool (decide (((x30_3.toNat : Nat) : Int) < 128))))) [] (Ocs (by kernel_rfl) (op_bin rfl (a1 := .int .u8 ((x30_3.toNat : Nat) : Int)) (a2 := .int .u8 128) (by kernel_rfl) (by kernel_rfl) (fun _ => hb_lss))) ?_
                refine Walk.nil ?_
                refine Then.normal ?_
                refine Amk 4503599627501715 0 ⟨((.d (.lit (.string (toS p0)))) :: ((.d (.lit (.int .i64 p1))) :: (tp 2 ((.d (.lit (.int .u64 v50_4))) :: (tp 2 ((.d (.lit (.int .i64 y17_1))) :: (tp 9 ((.d (.lit (.int .i64 y17_1))) :: (tp 34 ((.d (.lit (.bool (decide (((x30_3.toNat : Nat) : Int) < 128))))) :: (tp 6 []))))))))))), [], 0⟩ ?_
                rcases tf_ (decide (((x30_3.toNat : Nat) : Int) < 128)) with hc52_12 | hc52_12
                · replace hm := cT hc52_12 hm
                  refine AWP.if_ true (Eq.trans (by kernel_rfl) (lit_tf (b := decide (((x30_3.toNat : Nat) : Int) < 128)) hc52_12)) ?_
                  refine AWP.seq ?_
                  refine AWP.text ?_
                  refine Wy (.d (.lit (.int .u64 v50_4))) [] (Omv rfl) ?_
                  refine Wy (.d (.lit (.int .i64 p1))) [] (Omv rfl) ?_
                  refine Wy (.d (.lit (.int .i64 y17_1))) [] (Omv rfl) ?_
                  refine Wy (.d (.lit (.int .i64 (IntKind.i64.wrap (p1 + y17_1))))) [] (Obn rfl (fun _ => hb_add (k := .i64))) ?_
                  refine Wy (.d (.lit (.int .i64 (IntKind.i64.wrap ((IntKind.i64.wrap (p1 + y17_1)) + 1))))) [] (Obn rfl (fun _ => hb_add (k := .i64))) ?_
                  refine Wy (.d (.lit (.int .u64 v50_4))) [] (Omv rfl) ?_
                  refine Wy (.d (.lit (.int .i64 (IntKind.i64.wrap ((IntKind.i64.wrap (p1 + y17_1)) + 1))))) [] (Omv rfl) ?_
                  refine Wy (.d (.lit (.int .i64 0))) [] (Omv rfl) ?_
                  refine Walk.nil ?_
                  refine Then.normal ?_
                  refine AWP.ret ?_
                  refine InBlock.ret ?_
                  refine Then.ret ?_
                  refine RoundK.ret ?_
                  refine InBlock.ret ?_
                  refine Then.ret ?_
                  obtain rfl := Option.some.inj hm
                  exact ret_i []
                · replace hm := cF hc52_12 hm
                  refine AWP.if_ false (Eq.trans (by kernel_rfl) (lit_tf (b := decide (((x30_3.toNat : Nat) : Int) < 128)) hc52_12)) ?_
                  refine AWP.skip ?_
                  refine InBlock.normal ?_
                  refine Then.normal ?_
                  refine Amk 131091 0 ⟨((.d (.lit (.string (toS p0)))) :: ((.d (.lit (.int .i64 p1))) :: (tp 2 ((.d (.lit (.int .u64 v50_4))) :: (tp 12 ((.d (.lit (.int .i64 y17_1))) :: (tp 41 []))))))), [], 0⟩ ?_
                  refine AWP.text ?_
                  refine Wy (.d (.lit (.int .i64 (IntKind.i64.wrap (y17_1 + 1))))) [] (Obn rfl (fun _ => hb_add (k := .i64))) ?_
                  refine Wy (.d (.lit (.int .i64 (IntKind.i64.wrap (y17_1 + 1))))) [] (Omv rfl) ?_
                  refine Walk.nil ?_
                  refine RoundK.normal ?_
                  exact Rounds.weak (Weak.toK 131091 0 0 []) (ih_1 (fu_1, v50_4, (IntKind.i64.wrap (y17_1 + 1))) hm (Nat.lt_succ_self _))
              refine AWP.seq ?_
              refine AWP.seq ?_
              refine AWP.text ?_
              refine Wy (.d (.lit (.int .i64 y17_1))) [] (Omv rfl) ?_
              refine Wy (.d (.lit (.bool (decide ((0 : Int) < y17_1))))) [] (Obn rfl (fun _ => hb_gtr (k := .i64))) ?_
              rcases tf_ (decide ((0 : Int) < y17_1)) with hq39_7 | hq39_7
              · replace hm := cT hq39_7 hm
                refine Wy (.d (.lit (.bool true))) [] (Ocs (lit_tf (b := decide ((0 : Int) < y17_1)) hq39_7) (Omv rfl)) ?_
                refine Wy (.d (byteD x30_3)) [] (Omv rfl) ?_
                refine Wy (.d (.lit (.bool (decide (((x30_3.toNat : Nat) : Int) = 0))))) [] (Ocs (by kernel_rfl) (op_bin rfl (a1 := .int .u8 ((x30_3.toNat : Nat) : Int)) (a2 := .int .u8 0) (by kernel_rfl) (by kernel_rfl) (fun _ => hb_eql))) ?_
                refine Wy (.d (.lit (.bool (decide (((x30_3.toNat : Nat) : Int) = 0))))) [] (OpT rfl) ?_
                refine Walk.nil ?_
                refine Then.normal ?_
                refine Amk 4398046642579 0 ⟨((.d (.lit (.string (toS p0)))) :: ((.d (.lit (.int .i64 p1))) :: (tp 2 ((.d (.lit (.int .u64 y4_1))) :: (tp 2 ((.d (.lit (.int .i64 y17_1))) :: ((.d (byteD x30_3)) :: (tp 8 ((.d (.lit (.int .i64 y17_1))) :: (tp 24 ((.d (.lit (.bool (decide (((x30_3.toNat : Nat) : Int) = 0))))) :: (tp 16 [])))))))))))), [], 0⟩ ?_
                rcases tf_ (decide (((x30_3.toNat : Nat) : Int) = 0)) with hc42_13 | hc42_13
                · replace hm := cT hc42_13 hm
                  refine AWP.if_ true (Eq.trans (by kernel_rfl) (lit_tf (b := decide (((x30_3.toNat : Nat) : Int) = 0)) hc42_13)) ?_
                  refine AWP.seq ?_
                  refine AWP.text ?_
                  refine Wy (.d (.lit (.int .u64 0))) [] (Omv rfl) ?_
                  refine Wy (.d (.lit (.int .i64 0))) [] (Omv rfl) ?_
                  refine Wy (.d (.lit (.int .i64 4))) [] (Omv rfl) ?_
                  refine Walk.nil ?_
                  refine Then.normal ?_
                  refine AWP.ret ?_
                  refine Then.ret ?_
                  refine InBlock.ret ?_
                  refine Then.ret ?_
                  refine RoundK.ret ?_
                  refine InBlock.ret ?_
                  refine Then.ret ?_
                  obtain rfl := Option.some.inj hm
                  exact ret_i []
                · replace hm := cF hc42_13 hm
                  refine AWP.if_ false (Eq.trans (by kernel_rfl) (lit_tf (b := decide (((x30_3.toNat : Nat) : Int) = 0)) hc42_13)) ?_
                  refine AWP.skip ?_
                  refine Then.normal ?_
                  exact AWP.weak (Weak.toK 131475 0 0 []) (J8 () hm)
              · replace hm := cF hq39_7 hm
                refine Wy (.d (.lit (.bool false))) [] (Ocs (lit_tf (b := decide ((0 : Int) < y17_1)) hq39_7) (Omv rfl)) ?_
                refine Wn ?_
                refine Wn ?_
                refine Wy (.d (.lit (.bool false))) [] (OpF rfl) ?_
                refine Walk.nil ?_
                refine Then.normal ?_
                refine Amk 4398046642579 0 ⟨((.d (.lit (.string (toS p0)))) :: ((.d (.lit (.int .i64 p1))) :: (tp 2 ((.d (.lit (.int .u64 y4_1))) :: (tp 2 ((.d (.lit (.int .i64 y17_1))) :: ((.d (byteD x30_3)) :: (tp 8 ((.d (.lit (.int .i64 y17_1))) :: (tp 24 ((.d (.lit (.bool false))) :: (tp 16 [])))))))))))), [], 0⟩ ?_
                refine AWP.if_ false (by kernel_rfl) ?_
                refine AWP.skip ?_
                refine Then.normal ?_
                exact AWP.weak (Weak.toK 131475 0 0 []) (J8 () hm)
            refine AWP.seq ?_
            refine AWP.seq ?_
            refine AWP.text ?_
            refine Wy (.d (.lit (.int .i64 y17_1))) [] (Omv rfl) ?_
            refine Wy (.d (.lit (.bool (decide (y17_1 = 9))))) [] (Obn rfl (fun _ => hb_eql (k := .i64))) ?_
            rcases tf_ (decide (y17_1 = 9)) with hq33_5 | hq33_5
            · replace hm := cT hq33_5 hm
              refine Wy (.d (.lit (.bool true))) [] (Ocs (lit_tf (b := decide (y17_1 = 9)) hq33_5) (Omv rfl)) ?_
              refine Wy (.d (byteD x30_3)) [] (Omv rfl) ?_
              refine Wy (.d (.lit (.bool (decide ((1 : Int) < ((x30_3.toNat : Nat) : Int)))))) [] (Ocs (by kernel_rfl) (op_bin rfl (a1 := .int .u8 ((x30_3.toNat : Nat) : Int)) (a2 := .int .u8 1) (by kernel_rfl) (by kernel_rfl) (fun _ => hb_gtr))) ?_
              refine Wy (.d (.lit (.bool (decide ((1 : Int) < ((x30_3.toNat : Nat) : Int)))))) [] (OpT rfl) ?_
              refine Walk.nil ?_
              refine Then.normal ?_
              refine Amk 68719608211 0 ⟨((.d (.lit (.string (toS p0)))) :: ((.d (.lit (.int .i64 p1))) :: (tp 2 ((.d (.lit (.int .u64 y4_1))) :: (tp 2 ((.d (.lit (.int .i64 y17_1))) :: ((.d (byteD x30_3)) :: (tp 8 ((.d (.lit (.int .i64 y17_1))) :: (tp 18 ((.d (.lit (.bool (decide ((1 : Int) < ((x30_3.toNat : Nat) : Int)))))) :: (tp 22 [])))))))))))), [], 0⟩ ?_
              rcases tf_ (decide ((1 : Int) < ((x30_3.toNat : Nat) : Int))) with hc36_14 | hc36_14
              · replace hm := cT hc36_14 hm
                refine AWP.if_ true (Eq.trans (by kernel_rfl) (lit_tf (b := decide ((1 : Int) < ((x30_3.toNat : Nat) : Int))) hc36_14)) ?_
                refine AWP.seq ?_
                refine AWP.text ?_
                refine Wy (.d (.lit (.int .u64 0))) [] (Omv rfl) ?_
                refine Wy (.d (.lit (.int .i64 0))) [] (Omv rfl) ?_
                refine Wy (.d (.lit (.int .i64 8))) [] (Omv rfl) ?_
                refine Walk.nil ?_
                refine Then.normal ?_
                refine AWP.ret ?_
                refine Then.ret ?_
                refine InBlock.ret ?_
                refine Then.ret ?_
                refine RoundK.ret ?_
                refine InBlock.ret ?_
                refine Then.ret ?_
                obtain rfl := Option.some.inj hm
                exact ret_i []
              · replace hm := cF hc36_14 hm
                refine AWP.if_ false (Eq.trans (by kernel_rfl) (lit_tf (b := decide ((1 : Int) < ((x30_3.toNat : Nat) : Int))) hc36_14)) ?_
                refine AWP.skip ?_
                refine Then.normal ?_
                exact AWP.weak (Weak.toK 131475 0 0 []) (J6 () hm)
            · replace hm := cF hq33_5 hm
              refine Wy (.d (.lit (.bool false))) [] (Ocs (lit_tf (b := decide (y17_1 = 9)) hq33_5) (Omv rfl)) ?_
              refine Wn ?_
              refine Wn ?_
              refine Wy (.d (.lit (.bool false))) [] (OpF rfl) ?_
              refine Walk.nil ?_
              refine Then.normal ?_
              refine Amk 68719608211 0 ⟨((.d (.lit (.string (toS p0)))) :: ((.d (.lit (.int .i64 p1))) :: (tp 2 ((.d (.lit (.int .u64 y4_1))) :: (tp 2 ((.d (.lit (.int .i64 y17_1))) :: ((.d (byteD x30_3)) :: (tp 8 ((.d (.lit (.int .i64 y17_1))) :: (tp 18 ((.d (.lit (.bool false))) :: (tp 22 [])))))))))))), [], 0⟩ ?_
              refine AWP.if_ false (by kernel_rfl) ?_
              refine AWP.skip ?_
              refine Then.normal ?_
              exact AWP.weak (Weak.toK 131475 0 0 []) (J6 () hm)
        · replace hm := cF hc18_10 hm
          refine AWP.if_ false (Eq.trans (by kernel_rfl) (lit_tf (b := decide (y17_1 < 10)) hc18_10)) ?_
          refine AWP.exit ?_
          refine Then.exit ?_
          refine RoundK.exit ?_
          refine InBlock.same ?_
          refine Then.normal ?_
          refine Amk 0 0 ⟨(tp 59 []), [], 0⟩ ?_
          refine AWP.seq ?_
          refine AWP.text ?_
          refine Wy (.d (.lit (.int .u64 0))) [] (Omv rfl) ?_
          refine Wy (.d (.lit (.int .i64 0))) [] (Omv rfl) ?_
          refine Wy (.d (.lit (.int .i64 8))) [] (Omv rfl) ?_
          refine Walk.nil ?_
          refine Then.normal ?_
          refine AWP.ret ?_
          obtain rfl := Option.some.inj hm
          exact ret_i []

set_option maxRecDepth 20000 in
set_option maxHeartbeats 4000000 in
theorem ok_zig_Back (p0 : Int) (r : Int) (h : m_zig_Back p0 = some r) : GCall Try.prog 69 [(.d (.lit (.int .u64 p0)))] [] (.d (.lit (.int .i64 r))) [] := by
  refine GCall.of_body (n := 11) (rs := [(.tmp 2)]) Try.func69 rfl rfl rfl ?_
  refine Ato ⟨((.d (.lit (.int .u64 p0))) :: (tu 10 [])), [], 0⟩ ?_
  have hm := h
  unfold m_zig_Back at hm
  refine AWP.seq ?_
  refine AWP.text ?_
  refine Wy (.d (.lit (.int .i64 0))) [] (Omv rfl) ?_
  refine Walk.nil ?_
  refine Then.normal ?_
  refine Amk 1 0 ⟨((.d (.lit (.int .u64 p0))) :: (tp 10 [])), [], 0⟩ ?_
  refine AWP.seq ?_
  refine AWP.text ?_
  refine Wy (.d (.lit (.int .u64 p0))) [] (Omv rfl) ?_
  refine Wy (.d (.lit (.int .u64 (Int.fdiv p0 (2 ^ 1))))) [] (Ocs (by kernel_rfl) (op_bin rfl (a1 := .int .u64 p0) (a2 := .int .u64 1) (by kernel_rfl) (by kernel_rfl) (fun _ => hb_shr (n := 1) (by decide) rfl))) ?_
  refine Wy (.d (.lit (.int .i64 (IntKind.i64.wrap (Int.fdiv p0 (2 ^ 1)))))) [] (Ocs (by kernel_rfl) (op_convert rfl (a1 := .int .u64 (Int.fdiv p0 (2 ^ 1))) (by kernel_rfl) (run_conv (ds := .int .u64) (k' := .i64) (by kernel_rfl) (by kernel_rfl)))) ?_
  refine Wy (.d (.lit (.int .u64 p0))) [] (Omv rfl) ?_
  refine Wy (.d (.lit (.int .u64 (IntKind.u64.wrap (((BitVec.ofInt 64 p0 &&& BitVec.ofInt 64 1).toNat : Int)))))) [] (Ocs (by kernel_rfl) (op_bin rfl (a1 := .int .u64 p0) (a2 := .int .u64 1) (by kernel_rfl) (by kernel_rfl) (fun _ => hb_and))) ?_
  refine Wy (.d (.lit (.int .i64 (IntKind.i64.wrap (IntKind.u64.wrap (((BitVec.ofInt 64 p0 &&& BitVec.ofInt 64 1).toNat : Int))))))) [] (Ocs (by kernel_rfl) (op_convert rfl (a1 := .int .u64 (IntKind.u64.wrap (((BitVec.ofInt 64 p0 &&& BitVec.ofInt 64 1).toNat : Int)))) (by kernel_rfl) (run_conv (ds := .int .u64) (k' := .i64) (by kernel_rfl) (by kernel_rfl)))) ?_
  obtain ⟨v9_0, hv9_0, hm⟩ := bnd hm; replace hv9_0 := Option.some.inj hv9_0
  refine Wy (.d (.lit (.int .i64 v9_0))) [] (Ocs (Eq.trans (by kernel_rfl) (congrArg (fun z => A.d (.lit (.int .i64 z))) hv9_0)) (op_un rfl (a1 := .int .i64 (IntKind.i64.wrap (IntKind.u64.wrap (((BitVec.ofInt 64 p0 &&& BitVec.ofInt 64 1).toNat : Int))))) (by kernel_rfl) (fun _ => hu_neg))) ?_
  obtain ⟨v10_0, hv10_0, hm⟩ := bnd hm; replace hv10_0 := Option.some.inj hv10_0
  refine Wy (.d (.lit (.int .i64 v10_0))) [] (Ocs (Eq.trans (by kernel_rfl) (congrArg (fun z => A.d (.lit (.int .i64 z))) hv10_0)) (op_bin rfl (a1 := .int .i64 (IntKind.i64.wrap (Int.fdiv p0 (2 ^ 1)))) (a2 := .int .i64 v9_0) (by kernel_rfl) (by kernel_rfl) (fun _ => hb_xor))) ?_
  refine Wy (.d (.lit (.int .i64 v10_0))) [] (Omv rfl) ?_
  refine Walk.nil ?_
  refine Then.normal ?_
  refine AWP.ret ?_
  obtain rfl := Option.some.inj hm
  exact ret_i []

set_option maxRecDepth 20000 in
set_option maxHeartbeats 4000000 in
theorem ok_zig_TakeInt (p0 : (List UInt8)) (p1 : Int) (r : (Int × Int × Int)) (h : m_zig_TakeInt p0 p1 = some r) : GCall Try.prog 60 [(.d (.lit (.string (toS p0)))), (.d (.lit (.int .i64 p1)))] [] (.tup [(.d (.lit (.int .i64 r.1))), (.d (.lit (.int .i64 r.2.1))), (.d (.lit (.int .i64 r.2.2)))]) [] := by
  refine GCall.of_body (n := 19) (rs := [(.tmp 4), (.tmp 5), (.tmp 6)]) Try.func60 rfl rfl rfl ?_
  refine Ato ⟨((.d (.lit (.string (toS p0)))) :: ((.d (.lit (.int .i64 p1))) :: (tu 17 []))), [], 0⟩ ?_
  have hm := h
  unfold m_zig_TakeInt at hm
  refine AWP.seq ?_
  refine AWP.text ?_
  refine Wy (.d (.lit (.int .i64 0))) [] (Omv rfl) ?_
  refine Wy (.d (.lit (.int .i64 0))) [] (Omv rfl) ?_
  refine Wy (.d (.lit (.int .i64 0))) [] (Omv rfl) ?_
  refine Walk.nil ?_
  refine Then.normal ?_
  refine Amk 3 0 ⟨((.d (.lit (.string (toS p0)))) :: ((.d (.lit (.int .i64 p1))) :: (tp 17 []))), [], 0⟩ ?_
  refine AWP.seq ?_
  refine AWP.text ?_
  refine Wy (.d (.lit (.string (toS p0)))) [] (Omv rfl) ?_
  refine Wy (.d (.lit (.int .i64 p1))) [] (Omv rfl) ?_
  obtain ⟨r11_0, hr11_0, hm⟩ := bnd hm
  refine Wy (.tup [(.d (.lit (.int .u64 r11_0.1))), (.d (.lit (.int .i64 r11_0.2.1))), (.d (.lit (.int .i64 r11_0.2.2)))]) [] (Ocf [] [] [] 0 (ok_zig_Take p0 p1 r11_0 hr11_0) (fun a w => Try.call63 a w) rfl trivial) ?_
  refine Wy (.tup [(.d (.lit (.int .u64 r11_0.1))), (.d (.lit (.int .i64 r11_0.2.1))), (.d (.lit (.int .i64 r11_0.2.2)))]) [] (Omv rfl) ?_
  refine Wy (.d (.lit (.int .u64 r11_0.1))) [] (Oex rfl) ?_
  refine Wy (.d (.lit (.int .i64 r11_0.2.1))) [] (Oex rfl) ?_
  refine Wy (.d (.lit (.int .i64 r11_0.2.2))) [] (Oex rfl) ?_
  refine Wy (.d (.lit (.int .u64 r11_0.1))) [] (Omv rfl) ?_
  refine Wy (.d (.lit (.int .i64 r11_0.2.1))) [] (Omv rfl) ?_
  refine Wy (.d (.lit (.int .i64 r11_0.2.2))) [] (Omv rfl) ?_
  refine Walk.nil ?_
  refine Then.normal ?_
  refine Amk 224 0 ⟨(tp 5 ((.d (.lit (.int .i64 r11_0.2.1))) :: ((.d (.lit (.int .i64 r11_0.2.2))) :: ((.d (.lit (.int .u64 r11_0.1))) :: (tp 11 []))))), [], 0⟩ ?_
  refine AWP.seq ?_
  refine AWP.text ?_
  refine Wy (.d (.lit (.int .u64 r11_0.1))) [] (Omv rfl) ?_
  obtain ⟨r16_1, hr16_1, hm⟩ := bnd hm
  refine Wy (.d (.lit (.int .i64 r16_1))) [] (Ocf [] [] [] 0 (ok_zig_Back r11_0.1 r16_1 hr16_1) (fun a w => Try.call69 a w) rfl trivial) ?_
  refine Wy (.d (.lit (.int .i64 r11_0.2.1))) [] (Omv rfl) ?_
  refine Wy (.d (.lit (.int .i64 r11_0.2.2))) [] (Omv rfl) ?_
  refine Wy (.d (.lit (.int .i64 r16_1))) [] (Omv rfl) ?_
  refine Wy (.d (.lit (.int .i64 r11_0.2.1))) [] (Omv rfl) ?_
  refine Wy (.d (.lit (.int .i64 r11_0.2.2))) [] (Omv rfl) ?_
  refine Walk.nil ?_
  refine Then.normal ?_
  refine AWP.ret ?_
  obtain rfl := Option.some.inj hm
  exact ret_i []

set_option maxRecDepth 20000 in
set_option maxHeartbeats 4000000 in
theorem ok_octet_Open (p0 : (List UInt8)) (r : GReader) (h : m_octet_Open p0 = some r) : GCall Try.prog 61 [(.d (.lit (.string (toS p0))))] [] (.agg [(.d (.lit (.string (toS r.Text)))), (.d (.lit (.int .i64 r.At))), (.d (.lit (.int .i64 r.E)))]) [] := by
  refine GCall.of_body (n := 5) (rs := [(.cell 2 94)]) Try.func61 rfl rfl rfl ?_
  refine Ato ⟨((.d (.lit (.string (toS p0)))) :: (tu 4 [])), [], 0⟩ ?_
  have hm := h
  unfold m_octet_Open at hm
  refine AWP.seq ?_
  refine AWP.text ?_
  refine Wy (.loc 0 0) [(0, (.box [(.d (.lit (.string (toS ([] : List UInt8))))), (.d (.lit (.int .i64 0))), (.d (.lit (.int .i64 0)))]))] (Oal rfl) ?_
  refine Walk.nil ?_
  refine Then.normal ?_
  refine Amk 5 1 ⟨((.d (.lit (.string (toS p0)))) :: (tp 1 ((.loc 0 0) :: (tp 2 [])))), [(.box [(.d (.lit (.string (toS ([] : List UInt8))))), (.d (.lit (.int .i64 0))), (.d (.lit (.int .i64 0)))])], 0⟩ ?_
  refine AWP.seq ?_
  refine AWP.text ?_
  refine Wy (.d (.lit (.string (toS p0)))) [] (Omv rfl) ?_
  refine Wy (.agg [(.d (.lit (.string (toS p0)))), (.d (.lit (.int .i64 0))), (.d (.lit (.int .i64 0)))]) [] (Obd rfl) ?_
  refine Wy (.tup []) [(0, (.box [(.d (.lit (.string (toS p0)))), (.d (.lit (.int .i64 0))), (.d (.lit (.int .i64 0)))]))] (Ost rfl) ?_
  refine Walk.nil ?_
  refine Then.normal ?_
  refine AWP.ret ?_
  obtain rfl := Option.some.inj hm
  exact ret_i []

set_option maxRecDepth 20000 in
set_option maxHeartbeats 4000000 in
theorem ok_octet_Reader_Left (p0 : GReader) (r : Int) (h : m_octet_Reader_Left p0 = some r) : GCall Try.prog 71 [(.agg [(.d (.lit (.string (toS p0.Text)))), (.d (.lit (.int .i64 p0.At))), (.d (.lit (.int .i64 p0.E)))])] [] (.d (.lit (.int .i64 r))) [] := by
  refine GCall.of_body (n := 20) (rs := [(.tmp 2)]) Try.func71 rfl rfl rfl ?_
  refine Ato ⟨((.agg [(.d (.lit (.string (toS p0.Text)))), (.d (.lit (.int .i64 p0.At))), (.d (.lit (.int .i64 p0.E)))]) :: (tu 19 [])), [], 0⟩ ?_
  have hm := h
  unfold m_octet_Reader_Left at hm
  refine AWP.seq ?_
  refine AWP.text ?_
  refine Wy (.loc 0 0) [(0, (.box [(.d (.lit (.string (toS p0.Text)))), (.d (.lit (.int .i64 p0.At))), (.d (.lit (.int .i64 p0.E)))]))] (Obx rfl) ?_
  refine Wy (.d (.lit (.int .i64 0))) [] (Omv rfl) ?_
  refine Walk.nil ?_
  refine Then.normal ?_
  refine Amk 2 1 ⟨(tp 1 ((.loc 0 0) :: (tp 18 []))), [(.box [(.d (.lit (.string (toS p0.Text)))), (.d (.lit (.int .i64 p0.At))), (.d (.lit (.int .i64 p0.E)))])], 0⟩ ?_
  refine AWP.seq ?_
  refine AWP.seq ?_
  refine AWP.text ?_
  refine Wy (.loc 0 1) [] (Ofa rfl) ?_
  refine Wy (.d (.lit (.int .i64 p0.At))) [] (Old rfl) ?_
  refine Wy (.d (.lit (.bool (decide (p0.At < 0))))) [] (Obn rfl (fun _ => hb_lss (k := .i64))) ?_
  rcases tf_ (decide (p0.At < 0)) with hq6_0 | hq6_0
  · replace hm := cT hq6_0 hm
    refine Wy (.d (.lit (.bool true))) [] (Ocs (lit_tf (b := decide (p0.At < 0)) hq6_0) (Omv rfl)) ?_
    refine Wn ?_
    refine Wn ?_
    refine Wn ?_
    refine Wn ?_
    refine Wn ?_
    refine Wn ?_
    refine Wy (.d (.lit (.bool true))) [] (OpT rfl) ?_
    refine Walk.nil ?_
    refine Then.normal ?_
    refine Amk 8194 1 ⟨(tp 1 ((.loc 0 0) :: (tp 11 ((.d (.lit (.bool true))) :: (tp 6 []))))), [(.box [(.d (.lit (.string (toS p0.Text)))), (.d (.lit (.int .i64 p0.At))), (.d (.lit (.int .i64 p0.E)))])], 0⟩ ?_
    refine AWP.if_ true (by kernel_rfl) ?_
    refine AWP.seq ?_
    refine AWP.text ?_
    refine Wy (.d (.lit (.int .i64 0))) [] (Omv rfl) ?_
    refine Walk.nil ?_
    refine Then.normal ?_
    refine AWP.ret ?_
    refine Then.ret ?_
    obtain rfl := Option.some.inj hm
    exact ret_i []
  · replace hm := cF hq6_0 hm
    refine Wy (.d (.lit (.bool false))) [] (Ocs (lit_tf (b := decide (p0.At < 0)) hq6_0) (Omv rfl)) ?_
    refine Wy (.loc 0 1) [] (Ofa rfl) ?_
    refine Wy (.d (.lit (.int .i64 p0.At))) [] (Old rfl) ?_
    refine Wy (.loc 0 0) [] (Ofa rfl) ?_
    refine Wy (.d (.lit (.string (toS p0.Text)))) [] (Old rfl) ?_
    refine Wy (.d (.lit (.int .i64 ((List.length p0.Text : Nat) : Int)))) [] (Oln rfl) ?_
    refine Wy (.d (.lit (.bool (decide (((List.length p0.Text : Nat) : Int) < p0.At))))) [] (Obn rfl (fun _ => hb_gtr (k := .i64))) ?_
    refine Wy (.d (.lit (.bool (decide (((List.length p0.Text : Nat) : Int) < p0.At))))) [] (OpF rfl) ?_
    refine Walk.nil ?_
    refine Then.normal ?_
    refine Amk 8194 1 ⟨(tp 1 ((.loc 0 0) :: (tp 11 ((.d (.lit (.bool (decide (((List.length p0.Text : Nat) : Int) < p0.At))))) :: (tp 6 []))))), [(.box [(.d (.lit (.string (toS p0.Text)))), (.d (.lit (.int .i64 p0.At))), (.d (.lit (.int .i64 p0.E)))])], 0⟩ ?_
    rcases tf_ (decide (((List.length p0.Text : Nat) : Int) < p0.At)) with hc13_2 | hc13_2
    · replace hm := cT hc13_2 hm
      refine AWP.if_ true (Eq.trans (by kernel_rfl) (lit_tf (b := decide (((List.length p0.Text : Nat) : Int) < p0.At)) hc13_2)) ?_
      refine AWP.seq ?_
      refine AWP.text ?_
      refine Wy (.d (.lit (.int .i64 0))) [] (Omv rfl) ?_
      refine Walk.nil ?_
      refine Then.normal ?_
      refine AWP.ret ?_
      refine Then.ret ?_
      obtain rfl := Option.some.inj hm
      exact ret_i []
    · replace hm := cF hc13_2 hm
      refine AWP.if_ false (Eq.trans (by kernel_rfl) (lit_tf (b := decide (((List.length p0.Text : Nat) : Int) < p0.At)) hc13_2)) ?_
      refine AWP.skip ?_
      refine Then.normal ?_
      refine Amk 2 1 ⟨(tp 1 ((.loc 0 0) :: (tp 18 []))), [(.box [(.d (.lit (.string (toS p0.Text)))), (.d (.lit (.int .i64 p0.At))), (.d (.lit (.int .i64 p0.E)))])], 0⟩ ?_
      refine AWP.seq ?_
      refine AWP.text ?_
      refine Wy (.loc 0 0) [] (Ofa rfl) ?_
      refine Wy (.d (.lit (.string (toS p0.Text)))) [] (Old rfl) ?_
      refine Wy (.d (.lit (.int .i64 ((List.length p0.Text : Nat) : Int)))) [] (Oln rfl) ?_
      refine Wy (.loc 0 1) [] (Ofa rfl) ?_
      refine Wy (.d (.lit (.int .i64 p0.At))) [] (Old rfl) ?_
      refine Wy (.d (.lit (.int .i64 (IntKind.i64.wrap (((List.length p0.Text : Nat) : Int) - p0.At))))) [] (Obn rfl (fun _ => hb_sub (k := .i64))) ?_
      refine Wy (.d (.lit (.int .i64 (IntKind.i64.wrap (((List.length p0.Text : Nat) : Int) - p0.At))))) [] (Omv rfl) ?_
      refine Walk.nil ?_
      refine Then.normal ?_
      refine AWP.ret ?_
      obtain rfl := Option.some.inj hm
      exact ret_i []

set_option maxRecDepth 20000 in
set_option maxHeartbeats 4000000 in
theorem ok_octet_Reader_fail (p0 : GReader) (p1 : Int) (r : GReader) (h : m_octet_Reader_fail p0 p1 = some r) : GCall Try.prog 72 [(.agg [(.d (.lit (.string (toS p0.Text)))), (.d (.lit (.int .i64 p0.At))), (.d (.lit (.int .i64 p0.E)))]), (.d (.lit (.int .i64 p1)))] [] (.agg [(.d (.lit (.string (toS r.Text)))), (.d (.lit (.int .i64 r.At))), (.d (.lit (.int .i64 r.E)))]) [] := by
  refine GCall.of_body (n := 11) (rs := [(.cell 4 94)]) Try.func72 rfl rfl rfl ?_
  refine Ato ⟨((.agg [(.d (.lit (.string (toS p0.Text)))), (.d (.lit (.int .i64 p0.At))), (.d (.lit (.int .i64 p0.E)))]) :: ((.d (.lit (.int .i64 p1))) :: (tu 9 []))), [], 0⟩ ?_
  have hm := h
  unfold m_octet_Reader_fail at hm
  refine AWP.seq ?_
  refine AWP.text ?_
  refine Wy (.loc 0 0) [(0, (.box [(.d (.lit (.string (toS p0.Text)))), (.d (.lit (.int .i64 p0.At))), (.d (.lit (.int .i64 p0.E)))]))] (Obx rfl) ?_
  refine Wy (.loc 1 0) [(1, (.box [(.d (.lit (.string (toS ([] : List UInt8))))), (.d (.lit (.int .i64 0))), (.d (.lit (.int .i64 0)))]))] (Oal rfl) ?_
  refine Walk.nil ?_
  refine Then.normal ?_
  refine Amk 22 3 ⟨(tp 1 ((.d (.lit (.int .i64 p1))) :: ((.loc 0 0) :: (tp 1 ((.loc 1 0) :: (tp 6 [])))))), [(.box [(.d (.lit (.string (toS p0.Text)))), (.d (.lit (.int .i64 p0.At))), (.d (.lit (.int .i64 p0.E)))]), (.box [(.d (.lit (.string (toS ([] : List UInt8))))), (.d (.lit (.int .i64 0))), (.d (.lit (.int .i64 0)))])], 0⟩ ?_
  refine AWP.seq ?_
  refine AWP.seq ?_
  refine AWP.text ?_
  refine Wy (.loc 0 2) [] (Ofa rfl) ?_
  refine Wy (.d (.lit (.int .i64 p0.E))) [] (Old rfl) ?_
  refine Wy (.d (.lit (.bool (decide (p0.E = 0))))) [] (Obn rfl (fun _ => hb_eql (k := .i64))) ?_
  refine Walk.nil ?_
  refine Then.normal ?_
  refine Amk 150 3 ⟨(tp 1 ((.d (.lit (.int .i64 p1))) :: ((.loc 0 0) :: (tp 1 ((.loc 1 0) :: (tp 2 ((.d (.lit (.bool (decide (p0.E = 0))))) :: (tp 3 [])))))))), [(.box [(.d (.lit (.string (toS p0.Text)))), (.d (.lit (.int .i64 p0.At))), (.d (.lit (.int .i64 p0.E)))]), (.box [(.d (.lit (.string (toS ([] : List UInt8))))), (.d (.lit (.int .i64 0))), (.d (.lit (.int .i64 0)))])], 0⟩ ?_
  rcases tf_ (decide (p0.E = 0)) with hc7_0 | hc7_0
  · replace hm := cT hc7_0 hm
    refine AWP.if_ true (Eq.trans (by kernel_rfl) (lit_tf (b := decide (p0.E = 0)) hc7_0)) ?_
    refine AWP.text ?_
    refine Wy (.d (.lit (.int .i64 p1))) [] (Omv rfl) ?_
    refine Wy (.loc 0 2) [] (Ofa rfl) ?_
    refine Wy (.tup []) [(0, (.box [(.d (.lit (.string (toS p0.Text)))), (.d (.lit (.int .i64 p0.At))), (.d (.lit (.int .i64 p1)))]))] (Ost rfl) ?_
    refine Walk.nil ?_
    refine Then.normal ?_
    refine Amk 20 3 ⟨(tp 2 ((.loc 0 0) :: (tp 1 ((.loc 1 0) :: (tp 6 []))))), [(.box [(.d (.lit (.string (toS p0.Text)))), (.d (.lit (.int .i64 p0.At))), (.d (.lit (.int .i64 p1)))]), (.box [(.d (.lit (.string (toS ([] : List UInt8))))), (.d (.lit (.int .i64 0))), (.d (.lit (.int .i64 0)))])], 0⟩ ?_
    refine AWP.seq ?_
    refine AWP.text ?_
    refine Wy (.agg [(.d (.lit (.string (toS p0.Text)))), (.d (.lit (.int .i64 p0.At))), (.d (.lit (.int .i64 p1)))]) [] (Old rfl) ?_
    refine Wy (.tup []) [(1, (.box [(.d (.lit (.string (toS p0.Text)))), (.d (.lit (.int .i64 p0.At))), (.d (.lit (.int .i64 p1)))]))] (Ost rfl) ?_
    refine Walk.nil ?_
    refine Then.normal ?_
    refine AWP.ret ?_
    obtain rfl := Option.some.inj hm
    exact ret_i []
  · replace hm := cF hc7_0 hm
    refine AWP.if_ false (Eq.trans (by kernel_rfl) (lit_tf (b := decide (p0.E = 0)) hc7_0)) ?_
    refine AWP.skip ?_
    refine Then.normal ?_
    refine Amk 20 3 ⟨(tp 2 ((.loc 0 0) :: (tp 1 ((.loc 1 0) :: (tp 6 []))))), [(.box [(.d (.lit (.string (toS p0.Text)))), (.d (.lit (.int .i64 p0.At))), (.d (.lit (.int .i64 p0.E)))]), (.box [(.d (.lit (.string (toS ([] : List UInt8))))), (.d (.lit (.int .i64 0))), (.d (.lit (.int .i64 0)))])], 0⟩ ?_
    refine AWP.seq ?_
    refine AWP.text ?_
    refine Wy (.agg [(.d (.lit (.string (toS p0.Text)))), (.d (.lit (.int .i64 p0.At))), (.d (.lit (.int .i64 p0.E)))]) [] (Old rfl) ?_
    refine Wy (.tup []) [(1, (.box [(.d (.lit (.string (toS p0.Text)))), (.d (.lit (.int .i64 p0.At))), (.d (.lit (.int .i64 p0.E)))]))] (Ost rfl) ?_
    refine Walk.nil ?_
    refine Then.normal ?_
    refine AWP.ret ?_
    obtain rfl := Option.some.inj hm
    exact ret_i []

set_option maxRecDepth 20000 in
set_option maxHeartbeats 4000000 in
theorem ok_octet_Reader_take (p0 : GReader) (p1 : Int) (r : (GReader × Int)) (h : m_octet_Reader_take p0 p1 = some r) : GCall Try.prog 70 [(.agg [(.d (.lit (.string (toS p0.Text)))), (.d (.lit (.int .i64 p0.At))), (.d (.lit (.int .i64 p0.E)))]), (.d (.lit (.int .i64 p1)))] [] (.tup [(.agg [(.d (.lit (.string (toS r.1.Text)))), (.d (.lit (.int .i64 r.1.At))), (.d (.lit (.int .i64 r.1.E)))]), (.d (.lit (.int .u64 r.2)))]) [] := by
  refine GCall.of_body (n := 48) (rs := [(.cell 4 94), (.tmp 5)]) Try.func70 rfl rfl rfl ?_
  refine Ato ⟨((.agg [(.d (.lit (.string (toS p0.Text)))), (.d (.lit (.int .i64 p0.At))), (.d (.lit (.int .i64 p0.E)))]) :: ((.d (.lit (.int .i64 p1))) :: (tu 46 []))), [], 0⟩ ?_
  have hm := h
  unfold m_octet_Reader_take at hm
  refine AWP.seq ?_
  refine AWP.text ?_
  refine Wy (.loc 0 0) [(0, (.box [(.d (.lit (.string (toS p0.Text)))), (.d (.lit (.int .i64 p0.At))), (.d (.lit (.int .i64 p0.E)))]))] (Obx rfl) ?_
  refine Wy (.loc 1 0) [(1, (.box [(.d (.lit (.string (toS ([] : List UInt8))))), (.d (.lit (.int .i64 0))), (.d (.lit (.int .i64 0)))]))] (Oal rfl) ?_
  refine Wy (.d (.lit (.int .u64 0))) [] (Omv rfl) ?_
  refine Walk.nil ?_
  refine Then.normal ?_
  refine Amk 22 3 ⟨(tp 1 ((.d (.lit (.int .i64 p1))) :: ((.loc 0 0) :: (tp 1 ((.loc 1 0) :: (tp 43 [])))))), [(.box [(.d (.lit (.string (toS p0.Text)))), (.d (.lit (.int .i64 p0.At))), (.d (.lit (.int .i64 p0.E)))]), (.box [(.d (.lit (.string (toS ([] : List UInt8))))), (.d (.lit (.int .i64 0))), (.d (.lit (.int .i64 0)))])], 0⟩ ?_
  refine AWP.seq ?_
  refine AWP.seq ?_
  refine AWP.text ?_
  refine Wy (.loc 0 2) [] (Ofa rfl) ?_
  refine Wy (.d (.lit (.int .i64 p0.E))) [] (Old rfl) ?_
  refine Wy (.d (.lit (.bool (decide (p0.E ≠ 0))))) [] (Obn rfl (fun _ => hb_neq (k := .i64))) ?_
  rcases tf_ (decide (p0.E ≠ 0)) with hq12_0 | hq12_0
  · replace hm := cT hq12_0 hm
    refine Wy (.d (.lit (.bool true))) [] (Ocs (lit_tf (b := decide (p0.E ≠ 0)) hq12_0) (Omv rfl)) ?_
    refine Wn ?_
    refine Wn ?_
    refine Wn ?_
    refine Wn ?_
    refine Wy (.d (.lit (.bool true))) [] (OpT rfl) ?_
    refine Walk.nil ?_
    refine Then.normal ?_
    refine Amk 131094 3 ⟨(tp 1 ((.d (.lit (.int .i64 p1))) :: ((.loc 0 0) :: (tp 1 ((.loc 1 0) :: (tp 12 ((.d (.lit (.bool true))) :: (tp 30 [])))))))), [(.box [(.d (.lit (.string (toS p0.Text)))), (.d (.lit (.int .i64 p0.At))), (.d (.lit (.int .i64 p0.E)))]), (.box [(.d (.lit (.string (toS ([] : List UInt8))))), (.d (.lit (.int .i64 0))), (.d (.lit (.int .i64 0)))])], 0⟩ ?_
    refine AWP.if_ true (by kernel_rfl) ?_
    refine AWP.seq ?_
    refine AWP.text ?_
    refine Wy (.agg [(.d (.lit (.string (toS p0.Text)))), (.d (.lit (.int .i64 p0.At))), (.d (.lit (.int .i64 p0.E)))]) [] (Old rfl) ?_
    obtain ⟨r19_1, hr19_1, hm⟩ := bnd hm
    refine Wy (.agg [(.d (.lit (.string (toS r19_1.Text)))), (.d (.lit (.int .i64 r19_1.At))), (.d (.lit (.int .i64 r19_1.E)))]) [] (Ocf [] [] [] 0 (ok_octet_Reader_fail p0 3 r19_1 hr19_1) (fun a w => Try.call72 a w) rfl trivial) ?_
    refine Wy (.tup []) [(1, (.box [(.d (.lit (.string (toS r19_1.Text)))), (.d (.lit (.int .i64 r19_1.At))), (.d (.lit (.int .i64 r19_1.E)))]))] (Ost rfl) ?_
    refine Wy (.d (.lit (.int .u64 0))) [] (Omv rfl) ?_
    refine Walk.nil ?_
    refine Then.normal ?_
    refine AWP.ret ?_
    refine Then.ret ?_
    obtain rfl := Option.some.inj hm
    exact ret_i []
  · replace hm := cF hq12_0 hm
    refine Wy (.d (.lit (.bool false))) [] (Ocs (lit_tf (b := decide (p0.E ≠ 0)) hq12_0) (Omv rfl)) ?_
    refine Wy (.agg [(.d (.lit (.string (toS p0.Text)))), (.d (.lit (.int .i64 p0.At))), (.d (.lit (.int .i64 p0.E)))]) [] (Old rfl) ?_
    obtain ⟨r14_0, hr14_0, hm⟩ := bnd hm
    refine Wy (.d (.lit (.int .i64 r14_0))) [] (Ocf [] [] [] 0 (ok_octet_Reader_Left p0 r14_0 hr14_0) (fun a w => Try.call71 a w) rfl trivial) ?_
    refine Wy (.d (.lit (.int .i64 p1))) [] (Omv rfl) ?_
    refine Wy (.d (.lit (.bool (decide (r14_0 < p1))))) [] (Obn rfl (fun _ => hb_lss (k := .i64))) ?_
    refine Wy (.d (.lit (.bool (decide (r14_0 < p1))))) [] (OpF rfl) ?_
    refine Walk.nil ?_
    refine Then.normal ?_
    refine Amk 131094 3 ⟨(tp 1 ((.d (.lit (.int .i64 p1))) :: ((.loc 0 0) :: (tp 1 ((.loc 1 0) :: (tp 12 ((.d (.lit (.bool (decide (r14_0 < p1))))) :: (tp 30 [])))))))), [(.box [(.d (.lit (.string (toS p0.Text)))), (.d (.lit (.int .i64 p0.At))), (.d (.lit (.int .i64 p0.E)))]), (.box [(.d (.lit (.string (toS ([] : List UInt8))))), (.d (.lit (.int .i64 0))), (.d (.lit (.int .i64 0)))])], 0⟩ ?_
    rcases tf_ (decide (r14_0 < p1)) with hc17_7 | hc17_7
    · replace hm := cT hc17_7 hm
      refine AWP.if_ true (Eq.trans (by kernel_rfl) (lit_tf (b := decide (r14_0 < p1)) hc17_7)) ?_
      refine AWP.seq ?_
      refine AWP.text ?_
      refine Wy (.agg [(.d (.lit (.string (toS p0.Text)))), (.d (.lit (.int .i64 p0.At))), (.d (.lit (.int .i64 p0.E)))]) [] (Old rfl) ?_
      obtain ⟨r19_2, hr19_2, hm⟩ := bnd hm
      refine Wy (.agg [(.d (.lit (.string (toS r19_2.Text)))), (.d (.lit (.int .i64 r19_2.At))), (.d (.lit (.int .i64 r19_2.E)))]) [] (Ocf [] [] [] 0 (ok_octet_Reader_fail p0 3 r19_2 hr19_2) (fun a w => Try.call72 a w) rfl trivial) ?_
      refine Wy (.tup []) [(1, (.box [(.d (.lit (.string (toS r19_2.Text)))), (.d (.lit (.int .i64 r19_2.At))), (.d (.lit (.int .i64 r19_2.E)))]))] (Ost rfl) ?_
      refine Wy (.d (.lit (.int .u64 0))) [] (Omv rfl) ?_
      refine Walk.nil ?_
      refine Then.normal ?_
      refine AWP.ret ?_
      refine Then.ret ?_
      obtain rfl := Option.some.inj hm
      exact ret_i []
    · replace hm := cF hc17_7 hm
      refine AWP.if_ false (Eq.trans (by kernel_rfl) (lit_tf (b := decide (r14_0 < p1)) hc17_7)) ?_
      refine AWP.skip ?_
      refine Then.normal ?_
      refine Amk 22 3 ⟨(tp 1 ((.d (.lit (.int .i64 p1))) :: ((.loc 0 0) :: (tp 1 ((.loc 1 0) :: (tp 43 [])))))), [(.box [(.d (.lit (.string (toS p0.Text)))), (.d (.lit (.int .i64 p0.At))), (.d (.lit (.int .i64 p0.E)))]), (.box [(.d (.lit (.string (toS ([] : List UInt8))))), (.d (.lit (.int .i64 0))), (.d (.lit (.int .i64 0)))])], 0⟩ ?_
      refine AWP.seq ?_
      refine AWP.text ?_
      refine Wy (.d (.lit (.int .u64 0))) [] (Omv rfl) ?_
      refine Walk.nil ?_
      refine Then.normal ?_
      refine Amk 86 3 ⟨(tp 1 ((.d (.lit (.int .i64 p1))) :: ((.loc 0 0) :: (tp 1 ((.loc 1 0) :: (tp 1 ((.d (.lit (.int .u64 0))) :: (tp 41 [])))))))), [(.box [(.d (.lit (.string (toS p0.Text)))), (.d (.lit (.int .i64 p0.At))), (.d (.lit (.int .i64 p0.E)))]), (.box [(.d (.lit (.string (toS ([] : List UInt8))))), (.d (.lit (.int .i64 0))), (.d (.lit (.int .i64 0)))])], 0⟩ ?_
      refine AWP.seq ?_
      refine AWP.seq ?_
      refine AWP.text ?_
      refine Wy (.loc 0 0) [] (Ofa rfl) ?_
      refine Wy (.d (.lit (.string (toS p0.Text)))) [] (Old rfl) ?_
      refine Wy (.loc 0 1) [] (Ofa rfl) ?_
      refine Wy (.d (.lit (.int .i64 p0.At))) [] (Old rfl) ?_
      refine Wy (.loc 0 1) [] (Ofa rfl) ?_
      refine Wy (.d (.lit (.int .i64 p0.At))) [] (Old rfl) ?_
      refine Wy (.d (.lit (.int .i64 p1))) [] (Omv rfl) ?_
      refine Wy (.d (.lit (.int .i64 (IntKind.i64.wrap (p0.At + p1))))) [] (Obn rfl (fun _ => hb_add (k := .i64))) ?_
      obtain ⟨s28_3, hs28_3, hm⟩ := bnd hm; obtain ⟨hs28_3a, hs28_3b, hs28_3c, hs28_3d, hs28_3e⟩ := cut_some hs28_3
      refine Wy (.d (.lit (.string (toS s28_3)))) [] (Ocs (lit_str (toS_cut hs28_3e)) (op_slice_str rfl (by kernel_rfl) (s := toS p0.Text) (by kernel_rfl) (l := (Int.toNat p0.At)) (h := (Int.toNat (IntKind.i64.wrap (p0.At + p1)))) (⟨.i64, p0.At, by kernel_rfl, hs28_3a⟩) (⟨.i64, (IntKind.i64.wrap (p0.At + p1)), by kernel_rfl, hs28_3b⟩) hs28_3c hs28_3d)) ?_
      obtain ⟨hl29_3, hm⟩ := chk_some hm
      refine Wy (.d (.sl (List.length s28_3) (flatD encU8 s28_3))) [] (Ocs (lit_bytes) (op_bytes rfl (e := 5) (by kernel_rfl) (by kernel_rfl) (by kernel_rfl) (s := toS s28_3) (by kernel_rfl) (str_max hl29_3))) ?_
      refine Wy (.d (.lit (.int .i64 ((List.length s28_3 : Nat) : Int)))) [] (Oln rfl) ?_
      refine Wy (.d (.lit (.int .i64 0))) [] (Omv rfl) ?_
      refine Walk.nil ?_
      refine Then.normal ?_
      refine Amk 3758096470 3 ⟨(tp 1 ((.d (.lit (.int .i64 p1))) :: ((.loc 0 0) :: (tp 1 ((.loc 1 0) :: (tp 1 ((.d (.lit (.int .u64 0))) :: (tp 22 ((.d (.sl (List.length s28_3) (flatD encU8 s28_3))) :: ((.d (.lit (.int .i64 ((List.length s28_3 : Nat) : Int)))) :: ((.d (.lit (.int .i64 0))) :: (tp 16 [])))))))))))), [(.box [(.d (.lit (.string (toS p0.Text)))), (.d (.lit (.int .i64 p0.At))), (.d (.lit (.int .i64 p0.E)))]), (.box [(.d (.lit (.string (toS ([] : List UInt8))))), (.d (.lit (.int .i64 0))), (.d (.lit (.int .i64 0)))])], 0⟩ ?_
      refine AWP.block ?_
      refine AWP.loopI (α := Nat × Int × Int)
        (fun x => match x with | (fu_4, y6_4, y31_4) => (⟨(tp 1 ((.d (.lit (.int .i64 p1))) :: ((.loc 0 0) :: (tp 1 ((.loc 1 0) :: (tp 1 ((.d (.lit (.int .u64 y6_4))) :: (tp 22 ((.d (.sl (List.length s28_3) (flatD encU8 s28_3))) :: ((.d (.lit (.int .i64 ((List.length s28_3 : Nat) : Int)))) :: ((.d (.lit (.int .i64 y31_4))) :: (tp 16 [])))))))))))), [(.box [(.d (.lit (.string (toS p0.Text)))), (.d (.lit (.int .i64 p0.At))), (.d (.lit (.int .i64 p0.E)))]), (.box [(.d (.lit (.string (toS ([] : List UInt8))))), (.d (.lit (.int .i64 0))), (.d (.lit (.int .i64 0)))])], 0⟩ : St))
        (fun x => match x with | (fu_4, y6_4, y31_4) => m_octet_Reader_take_l4 p0 p1 s28_3 fu_4 y6_4 y31_4 = some r)
        (fun x => match x with | (fu_4, y6_4, y31_4) => fu_4) (1152921504606846976, 0, 0)
        (Weak.toK 3758096470 0 0 [0, 1]) hm ?_
      rintro ⟨fu_4, y6_4, y31_4⟩ n_4 hm ih_4
      try dsimp only at hm ih_4 ⊢
      cases fu_4 with
      | zero => exact absurd hm (by unfold m_octet_Reader_take_l4; simp)
      | succ fu_4 =>
        unfold m_octet_Reader_take_l4 at hm
        refine AWP.seq ?_
        refine AWP.text ?_
        refine Wy (.d (.lit (.bool (decide (y31_4 < ((List.length s28_3 : Nat) : Int)))))) [] (Obn rfl (fun _ => hb_lss (k := .i64))) ?_
        refine Walk.nil ?_
        refine Then.normal ?_
        refine Amk 8053063766 3 ⟨(tp 1 ((.d (.lit (.int .i64 p1))) :: ((.loc 0 0) :: (tp 1 ((.loc 1 0) :: (tp 1 ((.d (.lit (.int .u64 y6_4))) :: (tp 22 ((.d (.sl (List.length s28_3) (flatD encU8 s28_3))) :: ((.d (.lit (.int .i64 ((List.length s28_3 : Nat) : Int)))) :: ((.d (.lit (.int .i64 y31_4))) :: ((.d (.lit (.bool (decide (y31_4 < ((List.length s28_3 : Nat) : Int)))))) :: (tp 15 []))))))))))))), [(.box [(.d (.lit (.string (toS p0.Text)))), (.d (.lit (.int .i64 p0.At))), (.d (.lit (.int .i64 p0.E)))]), (.box [(.d (.lit (.string (toS ([] : List UInt8))))), (.d (.lit (.int .i64 0))), (.d (.lit (.int .i64 0)))])], 0⟩ ?_
        refine AWP.seq ?_
        rcases tf_ (decide (y31_4 < ((List.length s28_3 : Nat) : Int))) with hc32_8 | hc32_8
        · replace hm := cT hc32_8 hm
          refine AWP.if_ true (Eq.trans (by kernel_rfl) (lit_tf (b := decide (y31_4 < ((List.length s28_3 : Nat) : Int))) hc32_8)) ?_
          refine AWP.skip ?_
          refine Then.normal ?_
          refine Amk 3758096470 3 ⟨(tp 1 ((.d (.lit (.int .i64 p1))) :: ((.loc 0 0) :: (tp 1 ((.loc 1 0) :: (tp 1 ((.d (.lit (.int .u64 y6_4))) :: (tp 22 ((.d (.sl (List.length s28_3) (flatD encU8 s28_3))) :: ((.d (.lit (.int .i64 ((List.length s28_3 : Nat) : Int)))) :: ((.d (.lit (.int .i64 y31_4))) :: (tp 16 [])))))))))))), [(.box [(.d (.lit (.string (toS p0.Text)))), (.d (.lit (.int .i64 p0.At))), (.d (.lit (.int .i64 p0.E)))]), (.box [(.d (.lit (.string (toS ([] : List UInt8))))), (.d (.lit (.int .i64 0))), (.d (.lit (.int .i64 0)))])], 0⟩ ?_
          refine AWP.seq ?_
          refine AWP.block ?_
          refine AWP.seq ?_
          refine AWP.text ?_
          obtain ⟨x33_5, hx33_5, hm⟩ := bnd hm
          obtain ⟨hx33_5i, hx33_5g⟩ := geti_some hx33_5
          refine Wy (.d (.ref (List.drop ((Int.toNat y31_4) * 1) (flatD encU8 s28_3)))) [] (Oia rfl encU8_len hx33_5i hx33_5g) ?_
          refine Wy (.d (byteD x33_5)) [] (Lf1 rfl encU8_len hx33_5g) ?_
          refine Wy (.d (byteD x33_5)) [] (Omv rfl) ?_
          refine Walk.nil ?_
          refine Then.normal ?_
          refine Amk 3758096726 3 ⟨(tp 1 ((.d (.lit (.int .i64 p1))) :: ((.loc 0 0) :: (tp 1 ((.loc 1 0) :: (tp 1 ((.d (.lit (.int .u64 y6_4))) :: (tp 1 ((.d (byteD x33_5)) :: (tp 20 ((.d (.sl (List.length s28_3) (flatD encU8 s28_3))) :: ((.d (.lit (.int .i64 ((List.length s28_3 : Nat) : Int)))) :: ((.d (.lit (.int .i64 y31_4))) :: (tp 16 [])))))))))))))), [(.box [(.d (.lit (.string (toS p0.Text)))), (.d (.lit (.int .i64 p0.At))), (.d (.lit (.int .i64 p0.E)))]), (.box [(.d (.lit (.string (toS ([] : List UInt8))))), (.d (.lit (.int .i64 0))), (.d (.lit (.int .i64 0)))])], 0⟩ ?_
          refine AWP.text ?_
          refine Wy (.d (.lit (.int .u64 y6_4))) [] (Omv rfl) ?_
          refine Wy (.d (.lit (.int .u64 (IntKind.u64.wrap (y6_4 * 2 ^ 8))))) [] (Ocs (by kernel_rfl) (op_bin rfl (a1 := .int .u64 y6_4) (a2 := .int .u64 8) (by kernel_rfl) (by kernel_rfl) (fun _ => hb_shl (n := 8) (by decide) rfl))) ?_
          refine Wy (.d (byteD x33_5)) [] (Omv rfl) ?_
          refine Wy (.d (.lit (.int .u64 ((x33_5.toNat : Nat) : Int)))) [] (Ocs (lit_int (wrap_of_u8 (by decide) _)) (op_convert rfl (a1 := .int .u8 ((x33_5.toNat : Nat) : Int)) (by kernel_rfl) (run_conv (ds := .int .u8) (k' := .u64) (by kernel_rfl) (by kernel_rfl)))) ?_
          obtain ⟨v39_6, hv39_6, hm⟩ := bnd hm; replace hv39_6 := Option.some.inj hv39_6
          refine Wy (.d (.lit (.int .u64 v39_6))) [] (Ocs (Eq.trans (by kernel_rfl) (congrArg (fun z => A.d (.lit (.int .u64 z))) hv39_6)) (op_bin rfl (a1 := .int .u64 (IntKind.u64.wrap (y6_4 * 2 ^ 8))) (a2 := .int .u64 ((x33_5.toNat : Nat) : Int)) (by kernel_rfl) (by kernel_rfl) (fun _ => hb_or))) ?_
          refine Wy (.d (.lit (.int .u64 v39_6))) [] (Omv rfl) ?_
          refine Walk.nil ?_
          refine InBlock.normal ?_
          refine Then.normal ?_
          refine Amk 3758096470 3 ⟨(tp 1 ((.d (.lit (.int .i64 p1))) :: ((.loc 0 0) :: (tp 1 ((.loc 1 0) :: (tp 1 ((.d (.lit (.int .u64 v39_6))) :: (tp 22 ((.d (.sl (List.length s28_3) (flatD encU8 s28_3))) :: ((.d (.lit (.int .i64 ((List.length s28_3 : Nat) : Int)))) :: ((.d (.lit (.int .i64 y31_4))) :: (tp 16 [])))))))))))), [(.box [(.d (.lit (.string (toS p0.Text)))), (.d (.lit (.int .i64 p0.At))), (.d (.lit (.int .i64 p0.E)))]), (.box [(.d (.lit (.string (toS ([] : List UInt8))))), (.d (.lit (.int .i64 0))), (.d (.lit (.int .i64 0)))])], 0⟩ ?_
          refine AWP.text ?_
          refine Wy (.d (.lit (.int .i64 (IntKind.i64.wrap (y31_4 + 1))))) [] (Obn rfl (fun _ => hb_add (k := .i64))) ?_
          refine Wy (.d (.lit (.int .i64 (IntKind.i64.wrap (y31_4 + 1))))) [] (Omv rfl) ?_
          refine Walk.nil ?_
          refine RoundK.normal ?_
          exact Rounds.weak (Weak.toK 3758096470 0 0 [0, 1]) (ih_4 (fu_4, v39_6, (IntKind.i64.wrap (y31_4 + 1))) hm (Nat.lt_succ_self _))
        · replace hm := cF hc32_8 hm
          refine AWP.if_ false (Eq.trans (by kernel_rfl) (lit_tf (b := decide (y31_4 < ((List.length s28_3 : Nat) : Int))) hc32_8)) ?_
          refine AWP.exit ?_
          refine Then.exit ?_
          refine RoundK.exit ?_
          refine InBlock.same ?_
          refine Then.normal ?_
          refine Amk 86 3 ⟨(tp 1 ((.d (.lit (.int .i64 p1))) :: ((.loc 0 0) :: (tp 1 ((.loc 1 0) :: (tp 1 ((.d (.lit (.int .u64 y6_4))) :: (tp 41 [])))))))), [(.box [(.d (.lit (.string (toS p0.Text)))), (.d (.lit (.int .i64 p0.At))), (.d (.lit (.int .i64 p0.E)))]), (.box [(.d (.lit (.string (toS ([] : List UInt8))))), (.d (.lit (.int .i64 0))), (.d (.lit (.int .i64 0)))])], 0⟩ ?_
          refine AWP.seq ?_
          refine AWP.text ?_
          refine Wy (.loc 0 1) [] (Ofa rfl) ?_
          refine Wy (.d (.lit (.int .i64 p0.At))) [] (Old rfl) ?_
          refine Wy (.d (.lit (.int .i64 p1))) [] (Omv rfl) ?_
          refine Wy (.d (.lit (.int .i64 (IntKind.i64.wrap (p0.At + p1))))) [] (Obn rfl (fun _ => hb_add (k := .i64))) ?_
          refine Wy (.loc 0 1) [] (Ofa rfl) ?_
          refine Wy (.tup []) [(0, (.box [(.d (.lit (.string (toS p0.Text)))), (.d (.lit (.int .i64 (IntKind.i64.wrap (p0.At + p1))))), (.d (.lit (.int .i64 p0.E)))]))] (Ost rfl) ?_
          refine Walk.nil ?_
          refine Then.normal ?_
          refine Amk 84 3 ⟨(tp 2 ((.loc 0 0) :: (tp 1 ((.loc 1 0) :: (tp 1 ((.d (.lit (.int .u64 y6_4))) :: (tp 41 []))))))), [(.box [(.d (.lit (.string (toS p0.Text)))), (.d (.lit (.int .i64 (IntKind.i64.wrap (p0.At + p1))))), (.d (.lit (.int .i64 p0.E)))]), (.box [(.d (.lit (.string (toS ([] : List UInt8))))), (.d (.lit (.int .i64 0))), (.d (.lit (.int .i64 0)))])], 0⟩ ?_
          refine AWP.seq ?_
          refine AWP.text ?_
          refine Wy (.agg [(.d (.lit (.string (toS p0.Text)))), (.d (.lit (.int .i64 (IntKind.i64.wrap (p0.At + p1))))), (.d (.lit (.int .i64 p0.E)))]) [] (Old rfl) ?_
          refine Wy (.d (.lit (.int .u64 y6_4))) [] (Omv rfl) ?_
          refine Wy (.tup []) [(1, (.box [(.d (.lit (.string (toS p0.Text)))), (.d (.lit (.int .i64 (IntKind.i64.wrap (p0.At + p1))))), (.d (.lit (.int .i64 p0.E)))]))] (Ost rfl) ?_
          refine Wy (.d (.lit (.int .u64 y6_4))) [] (Omv rfl) ?_
          refine Walk.nil ?_
          refine Then.normal ?_
          refine AWP.ret ?_
          obtain rfl := Option.some.inj hm
          exact ret_i []

set_option maxRecDepth 20000 in
set_option maxHeartbeats 4000000 in
theorem ok_octet_Reader_Word (p0 : GReader) (r : (GReader × Int)) (h : m_octet_Reader_Word p0 = some r) : GCall Try.prog 62 [(.agg [(.d (.lit (.string (toS p0.Text)))), (.d (.lit (.int .i64 p0.At))), (.d (.lit (.int .i64 p0.E)))])] [] (.tup [(.agg [(.d (.lit (.string (toS r.1.Text)))), (.d (.lit (.int .i64 r.1.At))), (.d (.lit (.int .i64 r.1.E)))]), (.d (.lit (.int .u64 r.2)))]) [] := by
  refine GCall.of_body (n := 8) (rs := [(.cell 2 94), (.tmp 3)]) Try.func62 rfl rfl rfl ?_
  refine Ato ⟨((.agg [(.d (.lit (.string (toS p0.Text)))), (.d (.lit (.int .i64 p0.At))), (.d (.lit (.int .i64 p0.E)))]) :: (tu 7 [])), [], 0⟩ ?_
  have hm := h
  unfold m_octet_Reader_Word at hm
  refine AWP.seq ?_
  refine AWP.text ?_
  refine Wy (.loc 0 0) [(0, (.box [(.d (.lit (.string (toS p0.Text)))), (.d (.lit (.int .i64 p0.At))), (.d (.lit (.int .i64 p0.E)))]))] (Obx rfl) ?_
  refine Wy (.loc 1 0) [(1, (.box [(.d (.lit (.string (toS ([] : List UInt8))))), (.d (.lit (.int .i64 0))), (.d (.lit (.int .i64 0)))]))] (Oal rfl) ?_
  refine Wy (.d (.lit (.int .u64 0))) [] (Omv rfl) ?_
  refine Walk.nil ?_
  refine Then.normal ?_
  refine Amk 6 3 ⟨(tp 1 ((.loc 0 0) :: ((.loc 1 0) :: (tp 5 [])))), [(.box [(.d (.lit (.string (toS p0.Text)))), (.d (.lit (.int .i64 p0.At))), (.d (.lit (.int .i64 p0.E)))]), (.box [(.d (.lit (.string (toS ([] : List UInt8))))), (.d (.lit (.int .i64 0))), (.d (.lit (.int .i64 0)))])], 0⟩ ?_
  refine AWP.seq ?_
  refine AWP.text ?_
  refine Wy (.agg [(.d (.lit (.string (toS p0.Text)))), (.d (.lit (.int .i64 p0.At))), (.d (.lit (.int .i64 p0.E)))]) [] (Old rfl) ?_
  obtain ⟨r5_0, hr5_0, hm⟩ := bnd hm
  refine Wy (.tup [(.agg [(.d (.lit (.string (toS r5_0.1.Text)))), (.d (.lit (.int .i64 r5_0.1.At))), (.d (.lit (.int .i64 r5_0.1.E)))]), (.d (.lit (.int .u64 r5_0.2)))]) [] (Ocf [] [] [] 0 (ok_octet_Reader_take p0 8 r5_0 hr5_0) (fun a w => Try.call70 a w) rfl trivial) ?_
  refine Wy (.agg [(.d (.lit (.string (toS r5_0.1.Text)))), (.d (.lit (.int .i64 r5_0.1.At))), (.d (.lit (.int .i64 r5_0.1.E)))]) [] (Oex rfl) ?_
  refine Wy (.d (.lit (.int .u64 r5_0.2))) [] (Oex rfl) ?_
  refine Wy (.tup []) [(1, (.box [(.d (.lit (.string (toS r5_0.1.Text)))), (.d (.lit (.int .i64 r5_0.1.At))), (.d (.lit (.int .i64 r5_0.1.E)))]))] (Ost rfl) ?_
  refine Wy (.d (.lit (.int .u64 r5_0.2))) [] (Omv rfl) ?_
  refine Walk.nil ?_
  refine Then.normal ?_
  refine AWP.ret ?_
  obtain rfl := Option.some.inj hm
  exact ret_i []
end Go.Proofs.Ytgocnknbiipcfaa.K
