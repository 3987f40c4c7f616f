/- each function computes what its model says (1) -/
import Derived.Test.YtpacbldefdggjaaL0
namespace Go.Proofs.Ytpacbldefdggjaa.K
open Go.RowKit Go.Lib
set_option linter.unusedVariables false
set_option linter.unusedSimpArgs false

set_option maxRecDepth 20000 in
set_option maxHeartbeats 4000000 in
theorem ok_octet_lay (p0 : (List UInt8)) (p1 : Int) (p2 : Int) (r : (List UInt8)) (h : m_octet_lay p0 p1 p2 = some r) : GCall Try.prog 38 [(.own 0), (.d (.lit (.int .i64 p1))), (.d (.lit (.int .u64 p2)))] [(.arr 5 1 (List.length p0) (flatD encU8 p0))] (.tup []) [(.arr 5 1 (List.length r) (flatD encU8 r))] := by
  refine GCall.of_body (n := 25) (rs := []) Try.func38 rfl rfl rfl ?_
  refine Ato ⟨((.own 0) :: ((.d (.lit (.int .i64 p1))) :: ((.d (.lit (.int .u64 p2))) :: (tu 22 [])))), [(.arr 5 1 (List.length p0) (flatD encU8 p0))], 1⟩ ?_
  have hm := h
  unfold m_octet_lay at hm
  refine AWP.seq ?_
  refine AWP.text ?_
  refine Wy (.own 0) [] (Omv rfl) ?_
  refine Wy (.d (.lit (.int .i64 ((List.length p0 : Nat) : Int)))) [] (Oln rfl) ?_
  refine Wy (.d (.lit (.int .i64 (IntKind.i64.wrap (((List.length p0 : Nat) : Int) - 1))))) [] (Obn rfl (fun _ => hb_sub (k := .i64))) ?_
  refine Wy (.d (.lit (.int .i64 (IntKind.i64.wrap (((List.length p0 : Nat) : Int) - 1))))) [] (Omv rfl) ?_
  refine Walk.nil ?_
  refine Then.normal ?_
  refine Amk 71 1 ⟨((.own 0) :: ((.d (.lit (.int .i64 p1))) :: ((.d (.lit (.int .u64 p2))) :: (tp 3 ((.d (.lit (.int .i64 (IntKind.i64.wrap (((List.length p0 : Nat) : Int) - 1))))) :: (tp 18 [])))))), [(.arr 5 1 (List.length p0) (flatD encU8 p0))], 1⟩ ?_
  refine AWP.block ?_
  refine AWP.loopI (α := Nat × (List UInt8) × Int × Int)
    (fun x => match x with | (fu_1, y0_1, y2_1, y6_1) => (⟨((.own 0) :: ((.d (.lit (.int .i64 p1))) :: ((.d (.lit (.int .u64 y2_1))) :: (tp 3 ((.d (.lit (.int .i64 y6_1))) :: (tp 18 [])))))), [(.arr 5 1 (List.length y0_1) (flatD encU8 y0_1))], 1⟩ : St))
    (fun x => match x with | (fu_1, y0_1, y2_1, y6_1) => m_octet_lay_l1 p1 fu_1 y0_1 y2_1 y6_1 = some r)
    (fun x => match x with | (fu_1, y0_1, y2_1, y6_1) => fu_1) (1152921504606846976, p0, p2, (IntKind.i64.wrap (((List.length p0 : Nat) : Int) - 1)))
    (Weak.toK 71 0 0 [0]) hm ?_
  rintro ⟨fu_1, y0_1, y2_1, y6_1⟩ n_1 hm ih_1
  try dsimp only at hm ih_1 ⊢
  cases fu_1 with
  | zero => exact absurd hm (by unfold m_octet_lay_l1; simp)
  | succ fu_1 =>
    unfold m_octet_lay_l1 at hm
    refine AWP.seq ?_
    refine AWP.seq ?_
    refine AWP.text ?_
    refine Wy (.d (.lit (.int .i64 y6_1))) [] (Omv rfl) ?_
    refine Wy (.own 0) [] (Omv rfl) ?_
    refine Wy (.d (.lit (.int .i64 ((List.length y0_1 : Nat) : Int)))) [] (Oln rfl) ?_
    refine Wy (.d (.lit (.int .i64 p1))) [] (Omv rfl) ?_
    refine Wy (.d (.lit (.int .i64 (IntKind.i64.wrap (((List.length y0_1 : Nat) : Int) - p1))))) [] (Obn rfl (fun _ => hb_sub (k := .i64))) ?_
    refine Wy (.d (.lit (.bool (decide ((IntKind.i64.wrap (((List.length y0_1 : Nat) : Int) - p1)) ≤ y6_1))))) [] (Obn rfl (fun _ => hb_geq (k := .i64))) ?_
    refine Walk.nil ?_
    refine Then.normal ?_
    refine Amk 32839 1 ⟨((.own 0) :: ((.d (.lit (.int .i64 p1))) :: ((.d (.lit (.int .u64 y2_1))) :: (tp 3 ((.d (.lit (.int .i64 y6_1))) :: (tp 8 ((.d (.lit (.bool (decide ((IntKind.i64.wrap (((List.length y0_1 : Nat) : Int) - p1)) ≤ y6_1))))) :: (tp 9 [])))))))), [(.arr 5 1 (List.length y0_1) (flatD encU8 y0_1))], 1⟩ ?_
    rcases tf_ (decide ((IntKind.i64.wrap (((List.length y0_1 : Nat) : Int) - p1)) ≤ y6_1)) with hc15_4 | hc15_4
    · replace hm := cT hc15_4 hm
      refine AWP.if_ true (Eq.trans (by kernel_rfl) (lit_tf (b := decide ((IntKind.i64.wrap (((List.length y0_1 : Nat) : Int) - p1)) ≤ y6_1)) hc15_4)) ?_
      refine AWP.skip ?_
      refine Then.normal ?_
      refine Amk 71 1 ⟨((.own 0) :: ((.d (.lit (.int .i64 p1))) :: ((.d (.lit (.int .u64 y2_1))) :: (tp 3 ((.d (.lit (.int .i64 y6_1))) :: (tp 18 [])))))), [(.arr 5 1 (List.length y0_1) (flatD encU8 y0_1))], 1⟩ ?_
      refine AWP.seq ?_
      refine AWP.block ?_
      refine AWP.seq ?_
      refine AWP.text ?_
      refine Wy (.own 0) [] (Omv rfl) ?_
      refine Wy (.d (.lit (.int .i64 y6_1))) [] (Omv rfl) ?_
      refine Wy (.d (.lit (.int .u64 y2_1))) [] (Omv rfl) ?_
      refine Wy (.d (byteD (toU8 y2_1))) [] (Ocs (lit_int (u8w _)) (op_convert rfl (a1 := .int .u64 y2_1) (by kernel_rfl) (run_conv (ds := .int .u64) (k' := .u8) (by kernel_rfl) (by kernel_rfl)))) ?_
      obtain ⟨x22_3, hx22_3, hm⟩ := bnd hm
      obtain ⟨hx22_3i, hx22_3g⟩ := geti_some hx22_3
      refine Wy (.loc 0 ((Int.toNat y6_1) * 1)) [] (Oia rfl encU8_len hx22_3i hx22_3g) ?_
      refine Wy (.tup []) [(0, (.arr 5 1 (List.length (List.set y0_1 (Int.toNat y6_1) (toU8 y2_1))) (flatD encU8 (List.set y0_1 (Int.toNat y6_1) (toU8 y2_1)))))] (Osr 0 rfl encU8_len hx22_3g (toU8 y2_1)) ?_
      refine Walk.nil ?_
      refine Then.normal ?_
      refine Amk 71 1 ⟨((.own 0) :: ((.d (.lit (.int .i64 p1))) :: ((.d (.lit (.int .u64 y2_1))) :: (tp 3 ((.d (.lit (.int .i64 y6_1))) :: (tp 18 [])))))), [(.arr 5 1 (List.length (List.set y0_1 (Int.toNat y6_1) (toU8 y2_1))) (flatD encU8 (List.set y0_1 (Int.toNat y6_1) (toU8 y2_1))))], 1⟩ ?_
      refine AWP.text ?_
      refine Wy (.d (.lit (.int .u64 y2_1))) [] (Omv rfl) ?_
      refine Wy (.d (.lit (.int .u64 (Int.fdiv y2_1 (2 ^ 8))))) [] (Ocs (by kernel_rfl) (op_bin rfl (a1 := .int .u64 y2_1) (a2 := .int .u64 8) (by kernel_rfl) (by kernel_rfl) (fun _ => hb_shr (n := 8) (by decide) rfl))) ?_
      refine Wy (.d (.lit (.int .u64 (Int.fdiv y2_1 (2 ^ 8))))) [] (Omv rfl) ?_
      refine Walk.nil ?_
      refine InBlock.normal ?_
      refine Then.normal ?_
      refine Amk 71 1 ⟨((.own 0) :: ((.d (.lit (.int .i64 p1))) :: ((.d (.lit (.int .u64 (Int.fdiv y2_1 (2 ^ 8))))) :: (tp 3 ((.d (.lit (.int .i64 y6_1))) :: (tp 18 [])))))), [(.arr 5 1 (List.length (List.set y0_1 (Int.toNat y6_1) (toU8 y2_1))) (flatD encU8 (List.set y0_1 (Int.toNat y6_1) (toU8 y2_1))))], 1⟩ ?_
      refine AWP.text ?_
      refine Wy (.d (.lit (.int .i64 y6_1))) [] (Omv rfl) ?_
      refine Wy (.d (.lit (.int .i64 (IntKind.i64.wrap (y6_1 - 1))))) [] (Obn rfl (fun _ => hb_sub (k := .i64))) ?_
      refine Wy (.d (.lit (.int .i64 (IntKind.i64.wrap (y6_1 - 1))))) [] (Omv rfl) ?_
      refine Walk.nil ?_
      refine RoundK.normal ?_
      exact Rounds.weak (Weak.toK 71 0 0 [0]) (ih_1 (fu_1, (List.set y0_1 (Int.toNat y6_1) (toU8 y2_1)), (Int.fdiv y2_1 (2 ^ 8)), (IntKind.i64.wrap (y6_1 - 1))) hm (Nat.lt_succ_self _))
    · replace hm := cF hc15_4 hm
      refine AWP.if_ false (Eq.trans (by kernel_rfl) (lit_tf (b := decide ((IntKind.i64.wrap (((List.length y0_1 : Nat) : Int) - p1)) ≤ y6_1)) hc15_4)) ?_
      refine AWP.exit ?_
      refine Then.exit ?_
      refine RoundK.exit ?_
      refine InBlock.same ?_
      obtain rfl := Option.some.inj hm
      exact ret_n [0]

set_option maxRecDepth 20000 in
set_option maxHeartbeats 4000000 in
theorem ok_octet_Word (p0 : (List UInt8)) (p1 : Int) (r : (List UInt8)) (h : m_octet_Word p0 p1 = some r) : GCall Try.prog 29 [(.d (.sl (List.length p0) (flatD encU8 p0))), (.d (.lit (.int .u64 p1)))] [] (.own 0) [(.arr 5 1 (List.length r) (flatD encU8 r))] := by
  refine GCall.of_body (n := 12) (rs := [(.tmp 4)]) Try.func29 rfl rfl rfl ?_
  refine Ato ⟨((.d (.sl (List.length p0) (flatD encU8 p0))) :: ((.d (.lit (.int .u64 p1))) :: (tu 10 []))), [], 0⟩ ?_
  have hm := h
  unfold m_octet_Word at hm
  refine AWP.seq ?_
  refine AWP.text ?_
  refine Wy (.d .nil) [] (Omv rfl) ?_
  refine Walk.nil ?_
  refine Then.normal ?_
  refine Amk 3 0 ⟨((.d (.sl (List.length p0) (flatD encU8 p0))) :: ((.d (.lit (.int .u64 p1))) :: (tp 10 []))), [], 0⟩ ?_
  refine AWP.seq ?_
  refine AWP.text ?_
  refine Wy (.d (.sl (List.length p0) (flatD encU8 p0))) [] (Omv rfl) ?_
  obtain ⟨r7_0, hr7_0, hm⟩ := bnd hm
  refine Wy (.own 0) [(0, (.arr 5 1 (List.length r7_0) (flatD encU8 r7_0)))] (Ocf [] [0] [] 0 (ok_octet_grown p0 8 r7_0 hr7_0) (fun a w => Try.call37 a w) rfl trivial) ?_
  refine Wy (.own 0) [] (Omv rfl) ?_
  refine Walk.nil ?_
  refine Then.normal ?_
  refine Amk 34 1 ⟨(tp 1 ((.d (.lit (.int .u64 p1))) :: (tp 3 ((.own 0) :: (tp 6 []))))), [(.arr 5 1 (List.length r7_0) (flatD encU8 r7_0))], 0⟩ ?_
  refine AWP.seq ?_
  refine AWP.text ?_
  refine Wy (.own 0) [] (Omv rfl) ?_
  refine Wy (.d (.lit (.int .u64 p1))) [] (Omv rfl) ?_
  obtain ⟨r10_1, hr10_1, hm⟩ := bnd hm
  refine Wy (.tup []) [(0, (.arr 5 1 (List.length r10_1) (flatD encU8 r10_1)))] (Ocf [0] [] [] 0 (ok_octet_lay r7_0 8 p1 r10_1 hr10_1) (fun a w => Try.call38 a w) rfl ⟨rfl, trivial⟩) ?_
  refine Walk.nil ?_
  refine Then.normal ?_
  refine Amk 32 1 ⟨(tp 5 ((.own 0) :: (tp 6 []))), [(.arr 5 1 (List.length r10_1) (flatD encU8 r10_1))], 0⟩ ?_
  refine AWP.seq ?_
  refine AWP.text ?_
  refine Wy (.own 0) [] (Omv rfl) ?_
  refine Wy (.own 0) [] (Omv rfl) ?_
  refine Walk.nil ?_
  refine Then.normal ?_
  refine AWP.ret ?_
  obtain rfl := Option.some.inj hm
  exact ret_i [0]

set_option maxRecDepth 20000 in
set_option maxHeartbeats 4000000 in
theorem ok_value_Put (p0 : (List UInt8)) (p1 : GValue) (r : ((List UInt8) × Int)) (h : m_value_Put p0 p1 = some r) : GCall Try.prog 24 [(.d (.sl (List.length p0) (flatD encU8 p0))), (.agg [(.d (byteD p1.Kind)), (.d (.lit (.int .i64 p1.N))), (.d (.lit (.int .u64 p1.Bits))), (.d (.lit (.string (toS p1.Text))))])] [] (.tup [(.own 0), (.d (.lit (.int .i64 r.2)))]) [(.arr 5 1 (List.length r.1) (flatD encU8 r.1))] := by
  refine GCall.of_body (n := 58) (rs := [(.tmp 4), (.tmp 5)]) Try.func24 rfl rfl rfl ?_
  refine Ato ⟨((.d (.sl (List.length p0) (flatD encU8 p0))) :: ((.agg [(.d (byteD p1.Kind)), (.d (.lit (.int .i64 p1.N))), (.d (.lit (.int .u64 p1.Bits))), (.d (.lit (.string (toS p1.Text))))]) :: (tu 56 []))), [], 0⟩ ?_
  have hm := h
  unfold m_value_Put at hm
  refine AWP.seq ?_
  refine AWP.text ?_
  refine Wy (.loc 0 0) [(0, (.box [(.d (byteD p1.Kind)), (.d (.lit (.int .i64 p1.N))), (.d (.lit (.int .u64 p1.Bits))), (.d (.lit (.string (toS p1.Text))))]))] (Obx rfl) ?_
  refine Wy (.d .nil) [] (Omv rfl) ?_
  refine Wy (.d (.lit (.int .i64 0))) [] (Omv rfl) ?_
  refine Walk.nil ?_
  refine Then.normal ?_
  refine Amk 9 1 ⟨((.d (.sl (List.length p0) (flatD encU8 p0))) :: (tp 2 ((.loc 0 0) :: (tp 54 [])))), [(.box [(.d (byteD p1.Kind)), (.d (.lit (.int .i64 p1.N))), (.d (.lit (.int .u64 p1.Bits))), (.d (.lit (.string (toS p1.Text))))])], 0⟩ ?_
  refine AWP.seq ?_
  refine AWP.seq ?_
  refine AWP.text ?_
  refine Wy (.agg [(.d (byteD p1.Kind)), (.d (.lit (.int .i64 p1.N))), (.d (.lit (.int .u64 p1.Bits))), (.d (.lit (.string (toS p1.Text))))]) [] (Old rfl) ?_
  obtain ⟨r9_0, hr9_0, hm⟩ := bnd hm
  refine Wy (.d (.lit (.int .i64 r9_0))) [] (Ocf [] [] [] 0 (ok_value_Check p1 r9_0 hr9_0) (fun a w => Try.call22 a w) rfl trivial) ?_
  refine Wy (.d (.lit (.int .i64 r9_0))) [] (Omv rfl) ?_
  refine Walk.nil ?_
  refine Then.normal ?_
  refine Amk 73 1 ⟨((.d (.sl (List.length p0) (flatD encU8 p0))) :: (tp 2 ((.loc 0 0) :: (tp 2 ((.d (.lit (.int .i64 r9_0))) :: (tp 51 [])))))), [(.box [(.d (byteD p1.Kind)), (.d (.lit (.int .i64 p1.N))), (.d (.lit (.int .u64 p1.Bits))), (.d (.lit (.string (toS p1.Text))))])], 0⟩ ?_
  refine AWP.seq ?_
  refine AWP.text ?_
  refine Wy (.d (.lit (.int .i64 r9_0))) [] (Omv rfl) ?_
  refine Wy (.d (.lit (.bool (decide (r9_0 ≠ 0))))) [] (Obn rfl (fun _ => hb_neq (k := .i64))) ?_
  refine Walk.nil ?_
  refine Then.normal ?_
  refine Amk 2121 1 ⟨((.d (.sl (List.length p0) (flatD encU8 p0))) :: (tp 2 ((.loc 0 0) :: (tp 2 ((.d (.lit (.int .i64 r9_0))) :: (tp 4 ((.d (.lit (.bool (decide (r9_0 ≠ 0))))) :: (tp 46 [])))))))), [(.box [(.d (byteD p1.Kind)), (.d (.lit (.int .i64 p1.N))), (.d (.lit (.int .u64 p1.Bits))), (.d (.lit (.string (toS p1.Text))))])], 0⟩ ?_
  rcases tf_ (decide (r9_0 ≠ 0)) with hc11_8 | hc11_8
  · replace hm := cT hc11_8 hm
    refine AWP.if_ true (Eq.trans (by kernel_rfl) (lit_tf (b := decide (r9_0 ≠ 0)) hc11_8)) ?_
    refine AWP.seq ?_
    refine AWP.text ?_
    refine Wy (.d (.lit (.int .i64 r9_0))) [] (Omv rfl) ?_
    refine Wy (.d .nil) [] (Omv rfl) ?_
    refine Wy (.d (.lit (.int .i64 r9_0))) [] (Omv rfl) ?_
    refine Walk.nil ?_
    refine Then.normal ?_
    refine Aow 4 5 1 ⟨((.d (.sl (List.length p0) (flatD encU8 p0))) :: (tp 2 ((.loc 0 0) :: ((.own 1) :: ((.d (.lit (.int .i64 r9_0))) :: ((.d (.lit (.int .i64 r9_0))) :: (tp 4 ((.d (.lit (.bool (decide (r9_0 ≠ 0))))) :: ((.d (.lit (.int .i64 r9_0))) :: (tp 45 [])))))))))), [(.box [(.d (byteD p1.Kind)), (.d (.lit (.int .i64 p1.N))), (.d (.lit (.int .u64 p1.Bits))), (.d (.lit (.string (toS p1.Text))))]), (.arr 5 1 (List.length ([] : List UInt8)) (flatD encU8 ([] : List UInt8)))], 0⟩ ?_
    refine AWP.ret ?_
    refine Then.ret ?_
    obtain rfl := Option.some.inj hm
    exact ret_i [1]
  · replace hm := cF hc11_8 hm
    refine AWP.if_ false (Eq.trans (by kernel_rfl) (lit_tf (b := decide (r9_0 ≠ 0)) hc11_8)) ?_
    refine AWP.skip ?_
    refine Then.normal ?_
    refine Amk 9 1 ⟨((.d (.sl (List.length p0) (flatD encU8 p0))) :: (tp 2 ((.loc 0 0) :: (tp 54 [])))), [(.box [(.d (byteD p1.Kind)), (.d (.lit (.int .i64 p1.N))), (.d (.lit (.int .u64 p1.Bits))), (.d (.lit (.string (toS p1.Text))))])], 0⟩ ?_
    refine AWP.seq ?_
    refine AWP.text ?_
    refine Wy (.d (.sl (List.length p0) (flatD encU8 p0))) [] (Omv rfl) ?_
    refine Wy (.d (.lit (.int .i64 ((List.length p0 : Nat) : Int)))) [] (Oln rfl) ?_
    refine Wy (.d (.sl (List.length p0) (flatD encU8 p0))) [] (Omv rfl) ?_
    refine Wy (.d (.lit (.int .i64 ((List.length p0 : Nat) : Int)))) [] (Oln rfl) ?_
    refine Wy (.d (.lit (.int .i64 (IntKind.i64.wrap (((List.length p0 : Nat) : Int) + 1))))) [] (Obn rfl (fun _ => hb_add (k := .i64))) ?_
    obtain ⟨m18_1, hm18_1, hm⟩ := bnd hm; obtain ⟨hm18_1i, hm18_1j, hm18_1l, hm18_1k, hm18_1e⟩ := mkc_some hm18_1
    refine Wy (.own 1) [(1, (.arr 5 1 (List.length m18_1) (flatD encU8 m18_1)))] (OcB (op_makeC rfl elemOK_39 (by kernel_rfl) (kl := .i64) (kc := .i64) (L := ((List.length p0 : Nat) : Int)) (C := (IntKind.i64.wrap (((List.length p0 : Nat) : Int) + 1))) (by kernel_rfl) (by kernel_rfl) (n := Int.toNat ((List.length p0 : Nat) : Int)) (cp := Int.toNat (IntKind.i64.wrap (((List.length p0 : Nat) : Int) + 1))) hm18_1i hm18_1j hm18_1l (by omega) (by kernel_rfl)) (bl_one (by rw [hm18_1e]; simp) (by rw [hm18_1e]; exact (flat_rep (by kernel_rfl))))) ?_
    refine Wy (.own 1) [] (Omv rfl) ?_
    refine Walk.nil ?_
    refine Then.normal ?_
    refine Amk 137 3 ⟨((.d (.sl (List.length p0) (flatD encU8 p0))) :: (tp 2 ((.loc 0 0) :: (tp 3 ((.own 1) :: (tp 50 [])))))), [(.box [(.d (byteD p1.Kind)), (.d (.lit (.int .i64 p1.N))), (.d (.lit (.int .u64 p1.Bits))), (.d (.lit (.string (toS p1.Text))))]), (.arr 5 1 (List.length m18_1) (flatD encU8 m18_1))], 0⟩ ?_
    refine AWP.seq ?_
    refine AWP.text ?_
    refine Wy (.own 1) [] (Omv rfl) ?_
    refine Wy (.d (.sl (List.length p0) (flatD encU8 p0))) [] (Omv rfl) ?_
    obtain ⟨c21_2, hc21_2, hm⟩ := bnd hm; obtain ⟨hc21_2e, hc21_2l⟩ := cpy_some hc21_2
    refine Wy (.d (.lit (.int .i64 ((List.length p0 : Nat) : Int)))) [(1, (.arr 5 1 (List.length c21_2) (flatD encU8 c21_2)))] (OcB (Ocs (by kernel_rfl) (op_copy rfl (e := 5) (sz := 1) (by kernel_rfl) (yd := (.own 1)) (by kernel_rfl) (id := 1) (off := 0) (dn := List.length m18_1) (by kernel_rfl) (n := List.length m18_1) (xs := flatD encU8 m18_1) (by kernel_rfl) (y := (.d (.sl (List.length p0) (flatD encU8 p0)))) (by kernel_rfl) (ds := flatD encU8 p0) (soff := 0) (k := List.length p0) (by kernel_rfl) (es := flatD encU8 p0) (flat_all encU8_len) (flatD_length encU8_len _) hc21_2l (cpy_fit encU8_len hc21_2l) (by decide))) (bl_one (cpy_len hc21_2e hc21_2l) (by rw [hc21_2e]; exact cpy_put encU8_len hc21_2l))) ?_
    refine Walk.nil ?_
    refine Then.normal ?_
    refine Amk 136 3 ⟨(tp 3 ((.loc 0 0) :: (tp 3 ((.own 1) :: (tp 50 []))))), [(.box [(.d (byteD p1.Kind)), (.d (.lit (.int .i64 p1.N))), (.d (.lit (.int .u64 p1.Bits))), (.d (.lit (.string (toS p1.Text))))]), (.arr 5 1 (List.length c21_2) (flatD encU8 c21_2))], 0⟩ ?_
    refine AWP.seq ?_
    refine AWP.text ?_
    refine Wy (.own 1) [] (Omv rfl) ?_
    refine Wy (.loc 0 0) [] (Ofa rfl) ?_
    refine Wy (.d (byteD p1.Kind)) [] (Old rfl) ?_
    refine Wy (.own 2) [(2, (.arr 5 1 (List.length ([p1.Kind] : List UInt8)) (flatD encU8 ([p1.Kind] : List UInt8))))] (Obs rfl) ?_
    obtain ⟨a26_3, ha26_3, hm⟩ := bnd hm; obtain ⟨ha26_3e, ha26_3l⟩ := app_some ha26_3
    refine Wy (.own 3) [(1, .gone), (3, (.arr 5 1 (List.length a26_3) (flatD encU8 a26_3)))] (Oap rfl elemOK_39 encU8_len ha26_3e ha26_3l) ?_
    refine Wy (.own 3) [] (Omv rfl) ?_
    refine Walk.nil ?_
    refine Then.normal ?_
    refine Amk 136 9 ⟨(tp 3 ((.loc 0 0) :: (tp 3 ((.own 3) :: (tp 50 []))))), [(.box [(.d (byteD p1.Kind)), (.d (.lit (.int .i64 p1.N))), (.d (.lit (.int .u64 p1.Bits))), (.d (.lit (.string (toS p1.Text))))]), .gone, .gone, (.arr 5 1 (List.length a26_3) (flatD encU8 a26_3))], 0⟩ ?_
    refine AWP.seq ?_
    refine AWP.seq ?_
    refine AWP.text ?_
    refine Wy (.loc 0 0) [] (Ofa rfl) ?_
    refine Wy (.d (byteD p1.Kind)) [] (Old rfl) ?_
    refine Walk.nil ?_
    refine Then.normal ?_
    refine Amk 268435592 9 ⟨(tp 3 ((.loc 0 0) :: (tp 3 ((.own 3) :: (tp 20 ((.d (byteD p1.Kind)) :: (tp 29 []))))))), [(.box [(.d (byteD p1.Kind)), (.d (.lit (.int .i64 p1.N))), (.d (.lit (.int .u64 p1.Bits))), (.d (.lit (.string (toS p1.Text))))]), .gone, .gone, (.arr 5 1 (List.length a26_3) (flatD encU8 a26_3))], 0⟩ ?_
    refine AWP.block ?_
    refine AWP.seq ?_
    refine AWP.text ?_
    refine Wy (.d (.lit (.bool (decide (((p1.Kind.toNat : Nat) : Int) = 1))))) [] (Ocs (by kernel_rfl) (op_bin rfl (a1 := .int .u8 ((p1.Kind.toNat : Nat) : Int)) (a2 := .int .u8 1) (by kernel_rfl) (by kernel_rfl) (fun _ => hb_eql))) ?_
    refine Wy (.d (.lit (.bool (decide (((p1.Kind.toNat : Nat) : Int) = 1))))) [] (Omv rfl) ?_
    refine Walk.nil ?_
    refine Then.normal ?_
    refine Amk 805306504 9 ⟨(tp 3 ((.loc 0 0) :: (tp 3 ((.own 3) :: (tp 20 ((.d (byteD p1.Kind)) :: ((.d (.lit (.bool (decide (((p1.Kind.toNat : Nat) : Int) = 1))))) :: (tp 28 [])))))))), [(.box [(.d (byteD p1.Kind)), (.d (.lit (.int .i64 p1.N))), (.d (.lit (.int .u64 p1.Bits))), (.d (.lit (.string (toS p1.Text))))]), .gone, .gone, (.arr 5 1 (List.length a26_3) (flatD encU8 a26_3))], 0⟩ ?_
    rcases tf_ (decide (((p1.Kind.toNat : Nat) : Int) = 1)) with hc29_9 | hc29_9
    · replace hm := cT hc29_9 hm
      refine AWP.if_ true (Eq.trans (by kernel_rfl) (lit_tf (b := decide (((p1.Kind.toNat : Nat) : Int) = 1)) hc29_9)) ?_
      refine AWP.seq ?_
      refine AWP.text ?_
      refine Wy (.own 3) [] (Omv rfl) ?_
      refine Wy (.loc 0 1) [] (Ofa rfl) ?_
      refine Wy (.d (.lit (.int .i64 p1.N))) [] (Old rfl) ?_
      obtain ⟨r34_4, hr34_4, hm⟩ := bnd hm
      refine Wy (.own 4) [(4, (.arr 5 1 (List.length r34_4) (flatD encU8 r34_4)))] (Ocp [] [4] [3] 0 (ok_zig_PutInt a26_3 p1.N r34_4 hr34_4) (⟨by simp [A.Plain, A.Plains, D.Plain, byteD], plain_cons (flat_plain encU8_plain) (plain_nil)⟩) (fun a w => Try.call28 a w) rfl trivial) ?_
      refine Wy (.own 4) [] (Omv rfl) ?_
      refine Wy (.d (.lit (.int .i64 0))) [] (Omv rfl) ?_
      refine Walk.nil ?_
      refine Then.normal ?_
      refine AWP.ret ?_
      refine InBlock.ret ?_
      refine Then.ret ?_
      obtain rfl := Option.some.inj hm
      exact ret_i [4]
    · replace hm := cF hc29_9 hm
      refine AWP.if_ false (Eq.trans (by kernel_rfl) (lit_tf (b := decide (((p1.Kind.toNat : Nat) : Int) = 1)) hc29_9)) ?_
      refine AWP.seq ?_
      refine AWP.text ?_
      refine Wy (.d (.lit (.bool (decide (((p1.Kind.toNat : Nat) : Int) = 2))))) [] (Ocs (by kernel_rfl) (op_bin rfl (a1 := .int .u8 ((p1.Kind.toNat : Nat) : Int)) (a2 := .int .u8 2) (by kernel_rfl) (by kernel_rfl) (fun _ => hb_eql))) ?_
      refine Wy (.d (.lit (.bool (decide (((p1.Kind.toNat : Nat) : Int) = 2))))) [] (Omv rfl) ?_
      refine Walk.nil ?_
      refine Then.normal ?_
      refine Amk 34628173960 9 ⟨(tp 3 ((.loc 0 0) :: (tp 3 ((.own 3) :: (tp 20 ((.d (byteD p1.Kind)) :: (tp 6 ((.d (.lit (.bool (decide (((p1.Kind.toNat : Nat) : Int) = 2))))) :: (tp 22 []))))))))), [(.box [(.d (byteD p1.Kind)), (.d (.lit (.int .i64 p1.N))), (.d (.lit (.int .u64 p1.Bits))), (.d (.lit (.string (toS p1.Text))))]), .gone, .gone, (.arr 5 1 (List.length a26_3) (flatD encU8 a26_3))], 0⟩ ?_
      rcases tf_ (decide (((p1.Kind.toNat : Nat) : Int) = 2)) with hc35_10 | hc35_10
      · replace hm := cT hc35_10 hm
        refine AWP.if_ true (Eq.trans (by kernel_rfl) (lit_tf (b := decide (((p1.Kind.toNat : Nat) : Int) = 2)) hc35_10)) ?_
        refine AWP.seq ?_
        refine AWP.text ?_
        refine Wy (.own 3) [] (Omv rfl) ?_
        refine Wy (.loc 0 1) [] (Ofa rfl) ?_
        refine Wy (.d (.lit (.int .i64 p1.N))) [] (Old rfl) ?_
        refine Wy (.d (byteD (toU8 p1.N))) [] (Ocs (lit_int (u8w _)) (op_convert rfl (a1 := .int .i64 p1.N) (by kernel_rfl) (run_conv (ds := .int .i64) (k' := .u8) (by kernel_rfl) (by kernel_rfl)))) ?_
        refine Wy (.own 4) [(4, (.arr 5 1 (List.length ([(toU8 p1.N)] : List UInt8)) (flatD encU8 ([(toU8 p1.N)] : List UInt8))))] (Obs rfl) ?_
        obtain ⟨a42_5, ha42_5, hm⟩ := bnd hm; obtain ⟨ha42_5e, ha42_5l⟩ := app_some ha42_5
        refine Wy (.own 5) [(3, .gone), (5, (.arr 5 1 (List.length a42_5) (flatD encU8 a42_5)))] (Oap rfl elemOK_39 encU8_len ha42_5e ha42_5l) ?_
        refine Wy (.own 5) [] (Omv rfl) ?_
        refine Wy (.d (.lit (.int .i64 0))) [] (Omv rfl) ?_
        refine Walk.nil ?_
        refine Then.normal ?_
        refine AWP.ret ?_
        refine InBlock.ret ?_
        refine Then.ret ?_
        obtain rfl := Option.some.inj hm
        exact ret_i [5]
      · replace hm := cF hc35_10 hm
        refine AWP.if_ false (Eq.trans (by kernel_rfl) (lit_tf (b := decide (((p1.Kind.toNat : Nat) : Int) = 2)) hc35_10)) ?_
        refine AWP.seq ?_
        refine AWP.text ?_
        refine Wy (.d (.lit (.bool (decide (((p1.Kind.toNat : Nat) : Int) = 3))))) [] (Ocs (by kernel_rfl) (op_bin rfl (a1 := .int .u8 ((p1.Kind.toNat : Nat) : Int)) (a2 := .int .u8 3) (by kernel_rfl) (by kernel_rfl) (fun _ => hb_eql))) ?_
        refine Wy (.d (.lit (.bool (decide (((p1.Kind.toNat : Nat) : Int) = 3))))) [] (Omv rfl) ?_
        refine Walk.nil ?_
        refine Then.normal ?_
        refine Amk 8796093022344 9 ⟨(tp 3 ((.loc 0 0) :: (tp 3 ((.own 3) :: (tp 35 ((.d (.lit (.bool (decide (((p1.Kind.toNat : Nat) : Int) = 3))))) :: (tp 14 []))))))), [(.box [(.d (byteD p1.Kind)), (.d (.lit (.int .i64 p1.N))), (.d (.lit (.int .u64 p1.Bits))), (.d (.lit (.string (toS p1.Text))))]), .gone, .gone, (.arr 5 1 (List.length a26_3) (flatD encU8 a26_3))], 0⟩ ?_
        rcases tf_ (decide (((p1.Kind.toNat : Nat) : Int) = 3)) with hc43_11 | hc43_11
        · replace hm := cT hc43_11 hm
          refine AWP.if_ true (Eq.trans (by kernel_rfl) (lit_tf (b := decide (((p1.Kind.toNat : Nat) : Int) = 3)) hc43_11)) ?_
          refine AWP.seq ?_
          refine AWP.text ?_
          refine Wy (.own 3) [] (Omv rfl) ?_
          refine Wy (.loc 0 2) [] (Ofa rfl) ?_
          refine Wy (.d (.lit (.int .u64 p1.Bits))) [] (Old rfl) ?_
          obtain ⟨r48_6, hr48_6, hm⟩ := bnd hm
          refine Wy (.own 4) [(4, (.arr 5 1 (List.length r48_6) (flatD encU8 r48_6)))] (Ocp [] [4] [3] 0 (ok_octet_Word a26_3 p1.Bits r48_6 hr48_6) (⟨by simp [A.Plain, A.Plains, D.Plain, byteD], plain_cons (flat_plain encU8_plain) (plain_nil)⟩) (fun a w => Try.call29 a w) rfl trivial) ?_
          refine Wy (.own 4) [] (Omv rfl) ?_
          refine Wy (.d (.lit (.int .i64 0))) [] (Omv rfl) ?_
          refine Walk.nil ?_
          refine Then.normal ?_
          refine AWP.ret ?_
          refine InBlock.ret ?_
          refine Then.ret ?_
          obtain rfl := Option.some.inj hm
          exact ret_i [4]
        · replace hm := cF hc43_11 hm
          refine AWP.if_ false (Eq.trans (by kernel_rfl) (lit_tf (b := decide (((p1.Kind.toNat : Nat) : Int) = 3)) hc43_11)) ?_
          refine AWP.skip ?_
          refine InBlock.normal ?_
          refine Then.normal ?_
          refine Amk 136 9 ⟨(tp 3 ((.loc 0 0) :: (tp 3 ((.own 3) :: (tp 50 []))))), [(.box [(.d (byteD p1.Kind)), (.d (.lit (.int .i64 p1.N))), (.d (.lit (.int .u64 p1.Bits))), (.d (.lit (.string (toS p1.Text))))]), .gone, .gone, (.arr 5 1 (List.length a26_3) (flatD encU8 a26_3))], 0⟩ ?_
          refine AWP.seq ?_
          refine Adr ?_
          refine Wy (.own 3) [] (Omv rfl) ?_
          refine Wy (.loc 0 3) [] (Ofa rfl) ?_
          refine Wy (.d (.lit (.string (toS p1.Text)))) [] (Old rfl) ?_
          refine Wy (.d (.lit (.int .i64 ((List.length p1.Text : Nat) : Int)))) [] (Oln rfl) ?_
          refine Wy (.d (.lit (.int .u64 (IntKind.u64.wrap ((List.length p1.Text : Nat) : Int))))) [] (Ocs (by kernel_rfl) (op_convert rfl (a1 := .int .i64 ((List.length p1.Text : Nat) : Int)) (by kernel_rfl) (run_conv (ds := .int .i64) (k' := .u64) (by kernel_rfl) (by kernel_rfl)))) ?_
          obtain ⟨r54_7, hr54_7, hm⟩ := bnd hm
          refine Wy (.own 4) [(4, (.arr 5 1 (List.length r54_7) (flatD encU8 r54_7)))] (Ocp [] [4] [3] 0 (ok_zig_Put a26_3 (IntKind.u64.wrap ((List.length p1.Text : Nat) : Int)) r54_7 hr54_7) (⟨by simp [A.Plain, A.Plains, D.Plain, byteD], plain_cons (flat_plain encU8_plain) (plain_nil)⟩) (fun a w => Try.call30 a w) rfl trivial) ?_
          refine Wy (.loc 0 3) [] (Ofa rfl) ?_
          refine Wy (.d (.lit (.string (toS p1.Text)))) [] (Old rfl) ?_
          obtain ⟨a57_7, ha57_7, hm⟩ := bnd hm; obtain ⟨ha57_7e, ha57_7l⟩ := app_some ha57_7
          refine Wy (.own 5) [(4, .gone), (5, (.arr 5 1 (List.length a57_7) (flatD encU8 a57_7)))] (OcB (op_appendStr rfl elemOK_39 (by kernel_rfl) (id := 4) (by kernel_rfl) (n := List.length r54_7) (xs := flatD encU8 r54_7) (by kernel_rfl) (str := toS p1.Text) (by kernel_rfl) (app_str ha57_7l) (by kernel_rfl) (by decide)) (bl_app (by rw [ha57_7e, List.length_append]; rfl) (by rw [ha57_7e, flatD_append, flatU8 p1.Text]; rfl))) ?_
          refine Wy (.own 5) [] (Omv rfl) ?_
          refine Wy (.d (.lit (.int .i64 0))) [] (Omv rfl) ?_
          refine Wdr ?_
          refine Then.normal ?_
          refine AWP.ret ?_
          obtain rfl := Option.some.inj hm
          exact ret_i [5]

set_option maxRecDepth 20000 in
set_option maxHeartbeats 4000000 in
theorem ok_hash_Key (p0 : Int) (p1 : GValue) (r : (List UInt8)) (h : m_hash_Key p0 p1 = some r) : GCall Try.prog 14 [(.d (.lit (.int .i64 p0))), (.agg [(.d (byteD p1.Kind)), (.d (.lit (.int .i64 p1.N))), (.d (.lit (.int .u64 p1.Bits))), (.d (.lit (.string (toS p1.Text))))])] [] (.d (.lit (.string (toS r)))) [] := by
  refine GCall.of_body (n := 19) (rs := [(.tmp 4)]) Try.func14 rfl rfl rfl ?_
  refine Ato ⟨((.d (.lit (.int .i64 p0))) :: ((.agg [(.d (byteD p1.Kind)), (.d (.lit (.int .i64 p1.N))), (.d (.lit (.int .u64 p1.Bits))), (.d (.lit (.string (toS p1.Text))))]) :: (tu 17 []))), [], 0⟩ ?_
  have hm := h
  unfold m_hash_Key at hm
  refine AWP.seq ?_
  refine AWP.text ?_
  refine Wy (.loc 0 0) [(0, (.box [(.d (byteD p1.Kind)), (.d (.lit (.int .i64 p1.N))), (.d (.lit (.int .u64 p1.Bits))), (.d (.lit (.string (toS p1.Text))))]))] (Obx rfl) ?_
  refine Wy (.d (.lit (.string (toS ([] : List UInt8))))) [] (Omv rfl) ?_
  refine Walk.nil ?_
  refine Then.normal ?_
  refine Amk 9 1 ⟨((.d (.lit (.int .i64 p0))) :: (tp 2 ((.loc 0 0) :: (tp 15 [])))), [(.box [(.d (byteD p1.Kind)), (.d (.lit (.int .i64 p1.N))), (.d (.lit (.int .u64 p1.Bits))), (.d (.lit (.string (toS p1.Text))))])], 0⟩ ?_
  refine AWP.seq ?_
  refine AWP.text ?_
  refine Wy (.d (.lit (.int .i64 p0))) [] (Omv rfl) ?_
  refine Wy (.d (byteD (toU8 p0))) [] (Ocs (lit_int (u8w _)) (op_convert rfl (a1 := .int .i64 p0) (by kernel_rfl) (run_conv (ds := .int .i64) (k' := .u8) (by kernel_rfl) (by kernel_rfl)))) ?_
  refine Wy (.own 1) [(1, (.arr 5 1 (List.length ([(toU8 p0)] : List UInt8)) (flatD encU8 ([(toU8 p0)] : List UInt8))))] (Obs rfl) ?_
  refine Wy (.agg [(.d (byteD p1.Kind)), (.d (.lit (.int .i64 p1.N))), (.d (.lit (.int .u64 p1.Bits))), (.d (.lit (.string (toS p1.Text))))]) [] (Old rfl) ?_
  obtain ⟨r12_0, hr12_0, hm⟩ := bnd hm
  refine Wy (.tup [(.own 2), (.d (.lit (.int .i64 r12_0.2)))]) [(2, (.arr 5 1 (List.length r12_0.1) (flatD encU8 r12_0.1)))] (Ocp [] [2] [1] 0 (ok_value_Put ([(toU8 p0)] : List UInt8) p1 r12_0 hr12_0) (⟨by simp [A.Plain, A.Plains, D.Plain, byteD], plain_cons (flat_plain encU8_plain) (plain_nil)⟩) (fun a w => Try.call24 a w) rfl trivial) ?_
  refine Wy (.tup [(.own 2), (.d (.lit (.int .i64 r12_0.2)))]) [] (Omv rfl) ?_
  refine Wy (.own 2) [] (Oex rfl) ?_
  refine Wy (.d (.lit (.int .i64 r12_0.2))) [] (Oex rfl) ?_
  refine Wy (.own 2) [] (Omv rfl) ?_
  refine Wy (.d (.lit (.int .i64 r12_0.2))) [] (Omv rfl) ?_
  refine Walk.nil ?_
  refine Then.normal ?_
  refine Amk 96 4 ⟨(tp 5 ((.own 2) :: ((.d (.lit (.int .i64 r12_0.2))) :: (tp 12 [])))), [.gone, .gone, (.arr 5 1 (List.length r12_0.1) (flatD encU8 r12_0.1))], 0⟩ ?_
  refine AWP.seq ?_
  refine AWP.seq ?_
  refine AWP.text ?_
  refine Wy (.d (.lit (.int .i64 r12_0.2))) [] (Omv rfl) ?_
  refine Wy (.d (.lit (.bool (decide (r12_0.2 ≠ 0))))) [] (Obn rfl (fun _ => hb_neq (k := .i64))) ?_
  refine Walk.nil ?_
  refine Then.normal ?_
  refine Amk 65568 4 ⟨(tp 5 ((.own 2) :: (tp 10 ((.d (.lit (.bool (decide (r12_0.2 ≠ 0))))) :: (tp 2 []))))), [.gone, .gone, (.arr 5 1 (List.length r12_0.1) (flatD encU8 r12_0.1))], 0⟩ ?_
  rcases tf_ (decide (r12_0.2 ≠ 0)) with hc16_2 | hc16_2
  · replace hm := cT hc16_2 hm
    refine AWP.if_ true (Eq.trans (by kernel_rfl) (lit_tf (b := decide (r12_0.2 ≠ 0)) hc16_2)) ?_
    refine AWP.seq ?_
    refine AWP.text ?_
    refine Wy (.d (.lit (.string (toS ([] : List UInt8))))) [] (Omv rfl) ?_
    refine Walk.nil ?_
    refine Then.normal ?_
    refine AWP.ret ?_
    refine Then.ret ?_
    obtain rfl := Option.some.inj hm
    exact ret_i []
  · replace hm := cF hc16_2 hm
    refine AWP.if_ false (Eq.trans (by kernel_rfl) (lit_tf (b := decide (r12_0.2 ≠ 0)) hc16_2)) ?_
    refine AWP.skip ?_
    refine Then.normal ?_
    refine Amk 32 4 ⟨(tp 5 ((.own 2) :: (tp 13 []))), [.gone, .gone, (.arr 5 1 (List.length r12_0.1) (flatD encU8 r12_0.1))], 0⟩ ?_
    refine AWP.seq ?_
    refine AWP.text ?_
    refine Wy (.own 2) [] (Omv rfl) ?_
    refine Wy (.d (.lit (.string (toS r12_0.1)))) [] (Ocs (by kernel_rfl) (op_str rfl (e := 5) (by kernel_rfl) (by kernel_rfl) (by kernel_rfl) (y := (.own 2)) (by kernel_rfl) (ds := flatD encU8 r12_0.1) (off := 0) (n := List.length r12_0.1) (by kernel_rfl) (l := r12_0.1) flatU8_take rfl)) ?_
    refine Wy (.d (.lit (.string (toS r12_0.1)))) [] (Omv rfl) ?_
    refine Walk.nil ?_
    refine Then.normal ?_
    refine AWP.ret ?_
    obtain rfl := Option.some.inj hm
    exact ret_i []

set_option maxRecDepth 20000 in
set_option maxHeartbeats 4000000 in
theorem ok_hash_Bare (p0 : Int) (r : (List UInt8)) (h : m_hash_Bare p0 = some r) : GCall Try.prog 16 [(.d (.lit (.int .i64 p0)))] [] (.d (.lit (.string (toS r)))) [] := by
  refine GCall.of_body (n := 7) (rs := [(.tmp 2)]) Try.func16 rfl rfl rfl ?_
  refine Ato ⟨((.d (.lit (.int .i64 p0))) :: (tu 6 [])), [], 0⟩ ?_
  have hm := h
  unfold m_hash_Bare at hm
  refine AWP.seq ?_
  refine AWP.text ?_
  refine Wy (.d (.lit (.string (toS ([] : List UInt8))))) [] (Omv rfl) ?_
  refine Walk.nil ?_
  refine Then.normal ?_
  refine Amk 1 0 ⟨((.d (.lit (.int .i64 p0))) :: (tp 6 [])), [], 0⟩ ?_
  refine AWP.seq ?_
  refine AWP.text ?_
  refine Wy (.d (.lit (.int .i64 p0))) [] (Omv rfl) ?_
  refine Wy (.d (byteD (toU8 p0))) [] (Ocs (lit_int (u8w _)) (op_convert rfl (a1 := .int .i64 p0) (by kernel_rfl) (run_conv (ds := .int .i64) (k' := .u8) (by kernel_rfl) (by kernel_rfl)))) ?_
  refine Wy (.own 0) [(0, (.arr 5 1 (List.length ([(toU8 p0)] : List UInt8)) (flatD encU8 ([(toU8 p0)] : List UInt8))))] (Obs rfl) ?_
  refine Wy (.d (.lit (.string (toS ([(toU8 p0)] : List UInt8))))) [] (Ocs (by kernel_rfl) (op_str rfl (e := 5) (by kernel_rfl) (by kernel_rfl) (by kernel_rfl) (y := (.own 0)) (by kernel_rfl) (ds := flatD encU8 ([(toU8 p0)] : List UInt8)) (off := 0) (n := List.length ([(toU8 p0)] : List UInt8)) (by kernel_rfl) (l := ([(toU8 p0)] : List UInt8)) flatU8_take rfl)) ?_
  refine Wy (.d (.lit (.string (toS ([(toU8 p0)] : List UInt8))))) [] (Omv rfl) ?_
  refine Walk.nil ?_
  refine Then.normal ?_
  refine AWP.ret ?_
  obtain rfl := Option.some.inj hm
  exact ret_i []

set_option maxRecDepth 20000 in
set_option maxHeartbeats 4000000 in
theorem ok_hash_Pattern (p0 : (List UInt8)) (r : Int) (h : m_hash_Pattern p0 = some r) : GCall Try.prog 18 [(.d (.lit (.string (toS p0))))] [] (.d (.lit (.int .i64 r))) [] := by
  refine GCall.of_body (n := 8) (rs := [(.tmp 2)]) Try.func18 rfl rfl rfl ?_
  refine Ato ⟨((.d (.lit (.string (toS p0)))) :: (tu 7 [])), [], 0⟩ ?_
  have hm := h
  unfold m_hash_Pattern at hm
  refine AWP.seq ?_
  refine AWP.text ?_
  refine Wy (.d (.lit (.int .i64 0))) [] (Omv rfl) ?_
  refine Walk.nil ?_
  refine Then.normal ?_
  refine Amk 1 0 ⟨((.d (.lit (.string (toS p0)))) :: (tp 7 [])), [], 0⟩ ?_
  refine AWP.seq ?_
  refine AWP.seq ?_
  refine AWP.text ?_
  refine Wy (.d (.lit (.string (toS p0)))) [] (Omv rfl) ?_
  refine Wy (.d (.lit (.bool (decide (p0 = ([] : List UInt8)))))) [] (Ocs (lit_tf (by simp only [toS_inj, ne_eq])) (op_bin rfl (a1 := .string (toS p0)) (a2 := .string (toS ([] : List UInt8))) (by kernel_rfl) (by kernel_rfl) (fun _ => hb_seql))) ?_
  refine Walk.nil ?_
  refine Then.normal ?_
  refine Amk 17 0 ⟨((.d (.lit (.string (toS p0)))) :: (tp 3 ((.d (.lit (.bool (decide (p0 = ([] : List UInt8)))))) :: (tp 3 [])))), [], 0⟩ ?_
  rcases tf_ (decide (p0 = ([] : List UInt8))) with hc4_1 | hc4_1
  · replace hm := cT hc4_1 hm
    refine AWP.if_ true (Eq.trans (by kernel_rfl) (lit_tf (b := decide (p0 = ([] : List UInt8))) hc4_1)) ?_
    refine AWP.seq ?_
    refine AWP.text ?_
    refine Wy (.d (.lit (.int .i64 (-1)))) [] (Omv rfl) ?_
    refine Walk.nil ?_
    refine Then.normal ?_
    refine AWP.ret ?_
    refine Then.ret ?_
    obtain rfl := Option.some.inj hm
    exact ret_i []
  · replace hm := cF hc4_1 hm
    refine AWP.if_ false (Eq.trans (by kernel_rfl) (lit_tf (b := decide (p0 = ([] : List UInt8))) hc4_1)) ?_
    refine AWP.skip ?_
    refine Then.normal ?_
    refine Amk 1 0 ⟨((.d (.lit (.string (toS p0)))) :: (tp 7 [])), [], 0⟩ ?_
    refine AWP.seq ?_
    refine AWP.text ?_
    refine Wy (.d (.lit (.string (toS p0)))) [] (Omv rfl) ?_
    obtain ⟨x6_0, hx6_0, hm⟩ := bnd hm
    obtain ⟨hx6_0i, hx6_0g⟩ := geti_some hx6_0
    refine Wy (.d (byteD x6_0)) [] (Ocs (by kernel_rfl) (op_index_str rfl (by kernel_rfl) (s := toS p0) (by kernel_rfl) (k := .i64) (iv := 0) (by kernel_rfl) (i := (Int.toNat 0)) (hx6_0i) (b := x6_0) (hx6_0g))) ?_
    refine Wy (.d (.lit (.int .i64 ((x6_0.toNat : Nat) : Int)))) [] (Ocs (lit_int (wrap_of_u8 (by decide) _)) (op_convert rfl (a1 := .int .u8 ((x6_0.toNat : Nat) : Int)) (by kernel_rfl) (run_conv (ds := .int .u8) (k' := .i64) (by kernel_rfl) (by kernel_rfl)))) ?_
    refine Wy (.d (.lit (.int .i64 ((x6_0.toNat : Nat) : Int)))) [] (Omv rfl) ?_
    refine Walk.nil ?_
    refine Then.normal ?_
    refine AWP.ret ?_
    obtain rfl := Option.some.inj hm
    exact ret_i []

set_option maxRecDepth 20000 in
set_option maxHeartbeats 4000000 in
theorem ok_hash_Mix (p0 : Int) (r : Int) (h : m_hash_Mix p0 = some r) : GCall Try.prog 11 [(.d (.lit (.int .u64 p0)))] [] (.d (.lit (.int .u64 r))) [] := by
  refine GCall.of_body (n := 19) (rs := [(.tmp 2)]) Try.func11 rfl rfl rfl ?_
  refine Ato ⟨((.d (.lit (.int .u64 p0))) :: (tu 18 [])), [], 0⟩ ?_
  have hm := h
  unfold m_hash_Mix at hm
  refine AWP.seq ?_
  refine AWP.text ?_
  refine Wy (.d (.lit (.int .u64 0))) [] (Omv rfl) ?_
  refine Walk.nil ?_
  refine Then.normal ?_
  refine Amk 1 0 ⟨((.d (.lit (.int .u64 p0))) :: (tp 18 [])), [], 0⟩ ?_
  refine AWP.seq ?_
  refine AWP.text ?_
  refine Wy (.d (.lit (.int .u64 p0))) [] (Omv rfl) ?_
  refine Wy (.d (.lit (.int .u64 p0))) [] (Omv rfl) ?_
  refine Wy (.d (.lit (.int .u64 (Int.fdiv p0 (2 ^ 30))))) [] (Ocs (by kernel_rfl) (op_bin rfl (a1 := .int .u64 p0) (a2 := .int .u64 30) (by kernel_rfl) (by kernel_rfl) (fun _ => hb_shr (n := 30) (by decide) rfl))) ?_
  refine Wy (.d (.lit (.int .u64 (IntKind.u64.wrap (((BitVec.ofInt 64 p0 ^^^ BitVec.ofInt 64 (Int.fdiv p0 (2 ^ 30))).toNat : Int)))))) [] (Ocs (by kernel_rfl) (op_bin rfl (a1 := .int .u64 p0) (a2 := .int .u64 (Int.fdiv p0 (2 ^ 30))) (by kernel_rfl) (by kernel_rfl) (fun _ => hb_xor))) ?_
  refine Wy (.d (.lit (.int .u64 (IntKind.u64.wrap (((BitVec.ofInt 64 p0 ^^^ BitVec.ofInt 64 (Int.fdiv p0 (2 ^ 30))).toNat : Int)))))) [] (Omv rfl) ?_
  refine Walk.nil ?_
  refine Then.normal ?_
  refine Amk 1 0 ⟨((.d (.lit (.int .u64 (IntKind.u64.wrap (((BitVec.ofInt 64 p0 ^^^ BitVec.ofInt 64 (Int.fdiv p0 (2 ^ 30))).toNat : Int)))))) :: (tp 18 [])), [], 0⟩ ?_
  refine AWP.seq ?_
  refine AWP.text ?_
  refine Wy (.d (.lit (.int .u64 (IntKind.u64.wrap (((BitVec.ofInt 64 p0 ^^^ BitVec.ofInt 64 (Int.fdiv p0 (2 ^ 30))).toNat : Int)))))) [] (Omv rfl) ?_
  obtain ⟨v8_0, hv8_0, hm⟩ := bnd hm; replace hv8_0 := Option.some.inj hv8_0
  refine Wy (.d (.lit (.int .u64 v8_0))) [] (Ocs (congrArg (fun z => A.d (.lit (.int .u64 z))) hv8_0) (Obn rfl (fun _ => hb_mul (k := .u64)))) ?_
  refine Wy (.d (.lit (.int .u64 v8_0))) [] (Omv rfl) ?_
  refine Walk.nil ?_
  refine Then.normal ?_
  refine Amk 1 0 ⟨((.d (.lit (.int .u64 v8_0))) :: (tp 18 [])), [], 0⟩ ?_
  refine AWP.seq ?_
  refine AWP.text ?_
  refine Wy (.d (.lit (.int .u64 v8_0))) [] (Omv rfl) ?_
  refine Wy (.d (.lit (.int .u64 v8_0))) [] (Omv rfl) ?_
  refine Wy (.d (.lit (.int .u64 (Int.fdiv v8_0 (2 ^ 27))))) [] (Ocs (by kernel_rfl) (op_bin rfl (a1 := .int .u64 v8_0) (a2 := .int .u64 27) (by kernel_rfl) (by kernel_rfl) (fun _ => hb_shr (n := 27) (by decide) rfl))) ?_
  refine Wy (.d (.lit (.int .u64 (IntKind.u64.wrap (((BitVec.ofInt 64 v8_0 ^^^ BitVec.ofInt 64 (Int.fdiv v8_0 (2 ^ 27))).toNat : Int)))))) [] (Ocs (by kernel_rfl) (op_bin rfl (a1 := .int .u64 v8_0) (a2 := .int .u64 (Int.fdiv v8_0 (2 ^ 27))) (by kernel_rfl) (by kernel_rfl) (fun _ => hb_xor))) ?_
  refine Wy (.d (.lit (.int .u64 (IntKind.u64.wrap (((BitVec.ofInt 64 v8_0 ^^^ BitVec.ofInt 64 (Int.fdiv v8_0 (2 ^ 27))).toNat : Int)))))) [] (Omv rfl) ?_
  refine Walk.nil ?_
  refine Then.normal ?_
  refine Amk 1 0 ⟨((.d (.lit (.int .u64 (IntKind.u64.wrap (((BitVec.ofInt 64 v8_0 ^^^ BitVec.ofInt 64 (Int.fdiv v8_0 (2 ^ 27))).toNat : Int)))))) :: (tp 18 [])), [], 0⟩ ?_
  refine AWP.seq ?_
  refine AWP.text ?_
  refine Wy (.d (.lit (.int .u64 (IntKind.u64.wrap (((BitVec.ofInt 64 v8_0 ^^^ BitVec.ofInt 64 (Int.fdiv v8_0 (2 ^ 27))).toNat : Int)))))) [] (Omv rfl) ?_
  obtain ⟨v14_1, hv14_1, hm⟩ := bnd hm; replace hv14_1 := Option.some.inj hv14_1
  refine Wy (.d (.lit (.int .u64 v14_1))) [] (Ocs (congrArg (fun z => A.d (.lit (.int .u64 z))) hv14_1) (Obn rfl (fun _ => hb_mul (k := .u64)))) ?_
  refine Wy (.d (.lit (.int .u64 v14_1))) [] (Omv rfl) ?_
  refine Walk.nil ?_
  refine Then.normal ?_
  refine Amk 1 0 ⟨((.d (.lit (.int .u64 v14_1))) :: (tp 18 [])), [], 0⟩ ?_
  refine AWP.seq ?_
  refine AWP.text ?_
  refine Wy (.d (.lit (.int .u64 v14_1))) [] (Omv rfl) ?_
  refine Wy (.d (.lit (.int .u64 v14_1))) [] (Omv rfl) ?_
  refine Wy (.d (.lit (.int .u64 (Int.fdiv v14_1 (2 ^ 31))))) [] (Ocs (by kernel_rfl) (op_bin rfl (a1 := .int .u64 v14_1) (a2 := .int .u64 31) (by kernel_rfl) (by kernel_rfl) (fun _ => hb_shr (n := 31) (by decide) rfl))) ?_
  refine Wy (.d (.lit (.int .u64 (IntKind.u64.wrap (((BitVec.ofInt 64 v14_1 ^^^ BitVec.ofInt 64 (Int.fdiv v14_1 (2 ^ 31))).toNat : Int)))))) [] (Ocs (by kernel_rfl) (op_bin rfl (a1 := .int .u64 v14_1) (a2 := .int .u64 (Int.fdiv v14_1 (2 ^ 31))) (by kernel_rfl) (by kernel_rfl) (fun _ => hb_xor))) ?_
  refine Wy (.d (.lit (.int .u64 (IntKind.u64.wrap (((BitVec.ofInt 64 v14_1 ^^^ BitVec.ofInt 64 (Int.fdiv v14_1 (2 ^ 31))).toNat : Int)))))) [] (Omv rfl) ?_
  refine Walk.nil ?_
  refine Then.normal ?_
  refine AWP.ret ?_
  obtain rfl := Option.some.inj hm
  exact ret_i []

set_option maxRecDepth 20000 in
set_option maxHeartbeats 4000000 in
theorem ok_hash_Worker (p0 : (List UInt8)) (p1 : Int) (r : Int) (h : m_hash_Worker p0 p1 = some r) : GCall Try.prog 20 [(.d (.lit (.string (toS p0)))), (.d (.lit (.int .i64 p1)))] [] (.d (.lit (.int .i64 r))) [] := by
  refine GCall.of_body (n := 14) (rs := [(.tmp 4)]) Try.func20 rfl rfl rfl ?_
  refine Ato ⟨((.d (.lit (.string (toS p0)))) :: ((.d (.lit (.int .i64 p1))) :: (tu 12 []))), [], 0⟩ ?_
  have hm := h
  unfold m_hash_Worker at hm
  refine AWP.seq ?_
  refine AWP.text ?_
  refine Wy (.d (.lit (.int .i64 0))) [] (Omv rfl) ?_
  refine Walk.nil ?_
  refine Then.normal ?_
  refine Amk 3 0 ⟨((.d (.lit (.string (toS p0)))) :: ((.d (.lit (.int .i64 p1))) :: (tp 12 []))), [], 0⟩ ?_
  refine AWP.seq ?_
  refine AWP.seq ?_
  refine AWP.text ?_
  refine Wy (.d (.lit (.int .i64 p1))) [] (Omv rfl) ?_
  refine Wy (.d (.lit (.bool (decide (p1 < 1))))) [] (Obn rfl (fun _ => hb_lss (k := .i64))) ?_
  refine Walk.nil ?_
  refine Then.normal ?_
  refine Amk 67 0 ⟨((.d (.lit (.string (toS p0)))) :: ((.d (.lit (.int .i64 p1))) :: (tp 4 ((.d (.lit (.bool (decide (p1 < 1))))) :: (tp 7 []))))), [], 0⟩ ?_
  rcases tf_ (decide (p1 < 1)) with hc6_1 | hc6_1
  · replace hm := cT hc6_1 hm
    refine AWP.if_ true (Eq.trans (by kernel_rfl) (lit_tf (b := decide (p1 < 1)) hc6_1)) ?_
    refine AWP.seq ?_
    refine AWP.text ?_
    refine Wy (.d (.lit (.int .i64 0))) [] (Omv rfl) ?_
    refine Walk.nil ?_
    refine Then.normal ?_
    refine AWP.ret ?_
    refine Then.ret ?_
    obtain rfl := Option.some.inj hm
    exact ret_i []
  · replace hm := cF hc6_1 hm
    refine AWP.if_ false (Eq.trans (by kernel_rfl) (lit_tf (b := decide (p1 < 1)) hc6_1)) ?_
    refine AWP.skip ?_
    refine Then.normal ?_
    refine Amk 3 0 ⟨((.d (.lit (.string (toS p0)))) :: ((.d (.lit (.int .i64 p1))) :: (tp 12 []))), [], 0⟩ ?_
    refine AWP.seq ?_
    refine AWP.text ?_
    refine Wy (.d (.lit (.string (toS p0)))) [] (Omv rfl) ?_
    obtain ⟨r8_0, hr8_0, hm⟩ := bnd hm
    refine Wy (.d (.lit (.int .u64 r8_0))) [] (Ocf [] [] [] 0 (ok_hash_Sum p0 r8_0 hr8_0) (fun a w => Try.call10 a w) rfl trivial) ?_
    obtain ⟨r9_0, hr9_0, hm⟩ := bnd hm
    refine Wy (.d (.lit (.int .u64 r9_0))) [] (Ocf [] [] [] 0 (ok_hash_Mix r8_0 r9_0 hr9_0) (fun a w => Try.call11 a w) rfl trivial) ?_
    refine Wy (.d (.lit (.int .i64 p1))) [] (Omv rfl) ?_
    refine Wy (.d (.lit (.int .u64 (IntKind.u64.wrap p1)))) [] (Ocs (by kernel_rfl) (op_convert rfl (a1 := .int .i64 p1) (by kernel_rfl) (run_conv (ds := .int .i64) (k' := .u64) (by kernel_rfl) (by kernel_rfl)))) ?_
    obtain ⟨hd12_0, hm⟩ := chk_some hm
    refine Wy (.d (.lit (.int .u64 (Int.tmod r9_0 (IntKind.u64.wrap p1))))) [] (Ocs (by kernel_rfl) (op_bin rfl (a1 := .int .u64 r9_0) (a2 := .int .u64 (IntKind.u64.wrap p1)) (by kernel_rfl) (by kernel_rfl) (fun _ => hb_rem hd12_0))) ?_
    refine Wy (.d (.lit (.int .i64 (IntKind.i64.wrap (Int.tmod r9_0 (IntKind.u64.wrap p1)))))) [] (Ocs (by kernel_rfl) (op_convert rfl (a1 := .int .u64 (Int.tmod r9_0 (IntKind.u64.wrap p1))) (by kernel_rfl) (run_conv (ds := .int .u64) (k' := .i64) (by kernel_rfl) (by kernel_rfl)))) ?_
    refine Wy (.d (.lit (.int .i64 (IntKind.i64.wrap (Int.tmod r9_0 (IntKind.u64.wrap p1)))))) [] (Omv rfl) ?_
    refine Walk.nil ?_
    refine Then.normal ?_
    refine AWP.ret ?_
    obtain rfl := Option.some.inj hm
    exact ret_i []

set_option maxRecDepth 20000 in
set_option maxHeartbeats 4000000 in
theorem ok_telltalelaw08_awake (r : Bool) (h : m_telltalelaw08_awake = some r) : GCall Try.prog 7 [] [] (.d (.lit (.bool r))) [] := by
  refine GCall.of_body (n := 39) (rs := [(.tmp 0)]) Try.func7 rfl rfl rfl ?_
  refine Ato ⟨(tu 39 []), [], 0⟩ ?_
  have hm := h
  unfold m_telltalelaw08_awake at hm
  refine AWP.seq ?_
  refine AWP.text ?_
  refine Wy (.d (.lit (.bool false))) [] (Omv rfl) ?_
  refine Walk.nil ?_
  refine Then.normal ?_
  refine Amk 0 0 ⟨(tp 39 []), [], 0⟩ ?_
  refine AWP.seq ?_
  refine AWP.text ?_
  obtain ⟨r1_0, hr1_0, hm⟩ := bnd hm
  refine Wy (.d (.lit (.int .u64 r1_0))) [] (Ocf [] [] [] 0 (ok_hash_Sum ([] : List UInt8) r1_0 hr1_0) (fun a w => Try.call10 a w) rfl trivial) ?_
  refine Wy (.d (.lit (.bool (decide (r1_0 = 14695981039346656037))))) [] (Obn rfl (fun _ => hb_eql (k := .u64))) ?_
  rcases tf_ (decide (r1_0 = 14695981039346656037)) with hq3_0 | hq3_0
  · replace hm := cT hq3_0 hm
    refine Wy (.d (.lit (.bool true))) [] (Ocs (lit_tf (b := decide (r1_0 = 14695981039346656037)) hq3_0) (Omv rfl)) ?_
    obtain ⟨r4_0, hr4_0, hm⟩ := bnd hm
    refine Wy (.d (.lit (.int .u64 r4_0))) [] (Ocf [] [] [] 0 (ok_hash_Sum ([97] : List UInt8) r4_0 hr4_0) (fun a w => Try.call10 a w) rfl trivial) ?_
    refine Wy (.d (.lit (.bool (decide (r4_0 = 12638187200555641996))))) [] (Obn rfl (fun _ => hb_eql (k := .u64))) ?_
    refine Wy (.d (.lit (.bool (decide (r4_0 = 12638187200555641996))))) [] (OpT rfl) ?_
    rcases tf_ (decide (r4_0 = 12638187200555641996)) with hq7_0 | hq7_0
    · replace hm := cT hq7_0 hm
      refine Wy (.d (.lit (.bool true))) [] (Ocs (lit_tf (b := decide (r4_0 = 12638187200555641996)) hq7_0) (Omv rfl)) ?_
      refine Wy (.d (.lit (.bool true))) [] (OpT rfl) ?_
      refine Wy (.d (.lit (.bool true))) [] (Omv rfl) ?_
      obtain ⟨r10_0, hr10_0, hm⟩ := bnd hm
      refine Wy (.agg [(.d (byteD r10_0.Kind)), (.d (.lit (.int .i64 r10_0.N))), (.d (.lit (.int .u64 r10_0.Bits))), (.d (.lit (.string (toS r10_0.Text))))]) [] (Ocf [] [] [] 0 (ok_value_OfInt 1 r10_0 hr10_0) (fun a w => Try.call23 a w) rfl trivial) ?_
      obtain ⟨r11_0, hr11_0, hm⟩ := bnd hm
      refine Wy (.d (.lit (.string (toS r11_0)))) [] (Ocf [] [] [] 0 (ok_hash_Key 258 r10_0 r11_0 hr11_0) (fun a w => Try.call14 a w) rfl trivial) ?_
      refine Wy (.d (.lit (.bool (decide (r11_0 = ([2, 1, 2] : List UInt8)))))) [] (Ocs (lit_tf (by simp only [toS_inj, ne_eq])) (op_bin rfl (a1 := .string (toS r11_0)) (a2 := .string (toS ([2, 1, 2] : List UInt8))) (by kernel_rfl) (by kernel_rfl) (fun _ => hb_seql))) ?_
      refine Wy (.d (.lit (.bool (decide (r11_0 = ([2, 1, 2] : List UInt8)))))) [] (OpT rfl) ?_
      rcases tf_ (decide (r11_0 = ([2, 1, 2] : List UInt8))) with hq14_0 | hq14_0
      · replace hm := cT hq14_0 hm
        refine Wy (.d (.lit (.bool true))) [] (Ocs (lit_tf (b := decide (r11_0 = ([2, 1, 2] : List UInt8))) hq14_0) (Omv rfl)) ?_
        obtain ⟨r15_0, hr15_0, hm⟩ := bnd hm
        refine Wy (.d (.lit (.string (toS r15_0)))) [] (Ocf [] [] [] 0 (ok_hash_Bare (-1) r15_0 hr15_0) (fun a w => Try.call16 a w) rfl trivial) ?_
        refine Wy (.d (.lit (.bool (decide (r15_0 = ([255] : List UInt8)))))) [] (Ocs (lit_tf (by simp only [toS_inj, ne_eq])) (op_bin rfl (a1 := .string (toS r15_0)) (a2 := .string (toS ([255] : List UInt8))) (by kernel_rfl) (by kernel_rfl) (fun _ => hb_seql))) ?_
        refine Wy (.d (.lit (.bool (decide (r15_0 = ([255] : List UInt8)))))) [] (OpT rfl) ?_
        rcases tf_ (decide (r15_0 = ([255] : List UInt8))) with hq18_0 | hq18_0
        · replace hm := cT hq18_0 hm
          refine Wy (.d (.lit (.bool true))) [] (Ocs (lit_tf (b := decide (r15_0 = ([255] : List UInt8))) hq18_0) (Omv rfl)) ?_
          obtain ⟨r19_0, hr19_0, hm⟩ := bnd hm
          refine Wy (.d (.lit (.int .i64 r19_0))) [] (Ocf [] [] [] 0 (ok_hash_Pattern ([2, 120] : List UInt8) r19_0 hr19_0) (fun a w => Try.call18 a w) rfl trivial) ?_
          refine Wy (.d (.lit (.bool (decide (r19_0 = 2))))) [] (Obn rfl (fun _ => hb_eql (k := .i64))) ?_
          refine Wy (.d (.lit (.bool (decide (r19_0 = 2))))) [] (OpT rfl) ?_
          rcases tf_ (decide (r19_0 = 2)) with hq22_0 | hq22_0
          · replace hm := cT hq22_0 hm
            refine Wy (.d (.lit (.bool true))) [] (Ocs (lit_tf (b := decide (r19_0 = 2)) hq22_0) (Omv rfl)) ?_
            obtain ⟨r23_0, hr23_0, hm⟩ := bnd hm
            refine Wy (.d (.lit (.int .i64 r23_0))) [] (Ocf [] [] [] 0 (ok_hash_Pattern ([] : List UInt8) r23_0 hr23_0) (fun a w => Try.call18 a w) rfl trivial) ?_
            refine Wy (.d (.lit (.bool (decide (r23_0 = (-1)))))) [] (Obn rfl (fun _ => hb_eql (k := .i64))) ?_
            refine Wy (.d (.lit (.bool (decide (r23_0 = (-1)))))) [] (OpT rfl) ?_
            rcases tf_ (decide (r23_0 = (-1))) with hq26_0 | hq26_0
            · replace hm := cT hq26_0 hm
              refine Wy (.d (.lit (.bool true))) [] (Ocs (lit_tf (b := decide (r23_0 = (-1))) hq26_0) (Omv rfl)) ?_
              refine Wy (.agg [(.d (byteD 0)), (.d (.lit (.int .i64 0))), (.d (.lit (.int .u64 0))), (.d (.lit (.string (toS ([] : List UInt8)))))]) [] (Obd rfl) ?_
              obtain ⟨r28_0, hr28_0, hm⟩ := bnd hm
              refine Wy (.d (.lit (.string (toS r28_0)))) [] (Ocf [] [] [] 0 (ok_hash_Key 1 (GValue.mk 0 0 0 ([] : List UInt8)) r28_0 hr28_0) (fun a w => Try.call14 a w) rfl trivial) ?_
              refine Wy (.d (.lit (.bool (decide (r28_0 = ([] : List UInt8)))))) [] (Ocs (lit_tf (by simp only [toS_inj, ne_eq])) (op_bin rfl (a1 := .string (toS r28_0)) (a2 := .string (toS ([] : List UInt8))) (by kernel_rfl) (by kernel_rfl) (fun _ => hb_seql))) ?_
              refine Wy (.d (.lit (.bool (decide (r28_0 = ([] : List UInt8)))))) [] (OpT rfl) ?_
              rcases tf_ (decide (r28_0 = ([] : List UInt8))) with hq31_0 | hq31_0
              · replace hm := cT hq31_0 hm
                refine Wy (.d (.lit (.bool true))) [] (Ocs (lit_tf (b := decide (r28_0 = ([] : List UInt8))) hq31_0) (Omv rfl)) ?_
                obtain ⟨r32_0, hr32_0, hm⟩ := bnd hm
                refine Wy (.d (.lit (.int .i64 r32_0))) [] (Ocf [] [] [] 0 (ok_hash_Worker ([97] : List UInt8) 0 r32_0 hr32_0) (fun a w => Try.call20 a w) rfl trivial) ?_
                refine Wy (.d (.lit (.bool (decide (r32_0 = 0))))) [] (Obn rfl (fun _ => hb_eql (k := .i64))) ?_
                refine Wy (.d (.lit (.bool (decide (r32_0 = 0))))) [] (OpT rfl) ?_
                rcases tf_ (decide (r32_0 = 0)) with hq35_0 | hq35_0
                · replace hm := cT hq35_0 hm
                  refine Wy (.d (.lit (.bool true))) [] (Ocs (lit_tf (b := decide (r32_0 = 0)) hq35_0) (Omv rfl)) ?_
                  obtain ⟨r36_0, hr36_0, hm⟩ := bnd hm
                  refine Wy (.d (.lit (.int .u64 r36_0))) [] (Ocf [] [] [] 0 (ok_hash_Mix 1 r36_0 hr36_0) (fun a w => Try.call11 a w) rfl trivial) ?_
                  refine Wy (.d (.lit (.bool (decide (r36_0 ≠ 1))))) [] (Obn rfl (fun _ => hb_neq (k := .u64))) ?_
                  refine Wy (.d (.lit (.bool (decide (r36_0 ≠ 1))))) [] (OpT rfl) ?_
                  refine Wy (.d (.lit (.bool (decide (r36_0 ≠ 1))))) [] (Omv rfl) ?_
                  refine Walk.nil ?_
                  refine Then.normal ?_
                  refine AWP.ret ?_
                  obtain rfl := Option.some.inj hm
                  exact ret_i []
                · replace hm := cF hq35_0 hm
                  refine Wy (.d (.lit (.bool false))) [] (Ocs (lit_tf (b := decide (r32_0 = 0)) hq35_0) (Omv rfl)) ?_
                  refine Wn ?_
                  refine Wn ?_
                  refine Wy (.d (.lit (.bool false))) [] (OpF rfl) ?_
                  refine Wy (.d (.lit (.bool false))) [] (Omv rfl) ?_
                  refine Walk.nil ?_
                  refine Then.normal ?_
                  refine AWP.ret ?_
                  obtain rfl := Option.some.inj hm
                  exact ret_i []
              · replace hm := cF hq31_0 hm
                refine Wy (.d (.lit (.bool false))) [] (Ocs (lit_tf (b := decide (r28_0 = ([] : List UInt8))) hq31_0) (Omv rfl)) ?_
                refine Wn ?_
                refine Wn ?_
                refine Wy (.d (.lit (.bool false))) [] (OpF rfl) ?_
                refine Wy (.d (.lit (.bool false))) [] (Omv rfl) ?_
                refine Wn ?_
                refine Wn ?_
                refine Wy (.d (.lit (.bool false))) [] (OpF rfl) ?_
                refine Wy (.d (.lit (.bool false))) [] (Omv rfl) ?_
                refine Walk.nil ?_
                refine Then.normal ?_
                refine AWP.ret ?_
                obtain rfl := Option.some.inj hm
                exact ret_i []
            · replace hm := cF hq26_0 hm
              refine Wy (.d (.lit (.bool false))) [] (Ocs (lit_tf (b := decide (r23_0 = (-1))) hq26_0) (Omv rfl)) ?_
              refine Wn ?_
              refine Wn ?_
              refine Wn ?_
              refine Wy (.d (.lit (.bool false))) [] (OpF rfl) ?_
              refine Wy (.d (.lit (.bool false))) [] (Omv rfl) ?_
              refine Wn ?_
              refine Wn ?_
              refine Wy (.d (.lit (.bool false))) [] (OpF rfl) ?_
              refine Wy (.d (.lit (.bool false))) [] (Omv rfl) ?_
              refine Wn ?_
              refine Wn ?_
              refine Wy (.d (.lit (.bool false))) [] (OpF rfl) ?_
              refine Wy (.d (.lit (.bool false))) [] (Omv rfl) ?_
              refine Walk.nil ?_
              refine Then.normal ?_
              refine AWP.ret ?_
              obtain rfl := Option.some.inj hm
              exact ret_i []
          · replace hm := cF hq22_0 hm
            refine Wy (.d (.lit (.bool false))) [] (Ocs (lit_tf (b := decide (r19_0 = 2)) hq22_0) (Omv rfl)) ?_
            refine Wn ?_
            refine Wn ?_
            refine Wy (.d (.lit (.bool false))) [] (OpF rfl) ?_
            refine Wy (.d (.lit (.bool false))) [] (Omv rfl) ?_
            refine Wn ?_
            refine Wn ?_
            refine Wn ?_
            refine Wy (.d (.lit (.bool false))) [] (OpF rfl) ?_
            refine Wy (.d (.lit (.bool false))) [] (Omv rfl) ?_
            refine Wn ?_
            refine Wn ?_
            refine Wy (.d (.lit (.bool false))) [] (OpF rfl) ?_
            refine Wy (.d (.lit (.bool false))) [] (Omv rfl) ?_
            refine Wn ?_
            refine Wn ?_
            refine Wy (.d (.lit (.bool false))) [] (OpF rfl) ?_
            refine Wy (.d (.lit (.bool false))) [] (Omv rfl) ?_
            refine Walk.nil ?_
            refine Then.normal ?_
            refine AWP.ret ?_
            obtain rfl := Option.some.inj hm
            exact ret_i []
        · replace hm := cF hq18_0 hm
          refine Wy (.d (.lit (.bool false))) [] (Ocs (lit_tf (b := decide (r15_0 = ([255] : List UInt8))) hq18_0) (Omv rfl)) ?_
          refine Wn ?_
          refine Wn ?_
          refine Wy (.d (.lit (.bool false))) [] (OpF rfl) ?_
          refine Wy (.d (.lit (.bool false))) [] (Omv rfl) ?_
          refine Wn ?_
          refine Wn ?_
          refine Wy (.d (.lit (.bool false))) [] (OpF rfl) ?_
          refine Wy (.d (.lit (.bool false))) [] (Omv rfl) ?_
          refine Wn ?_
          refine Wn ?_
          refine Wn ?_
          refine Wy (.d (.lit (.bool false))) [] (OpF rfl) ?_
          refine Wy (.d (.lit (.bool false))) [] (Omv rfl) ?_
          refine Wn ?_
          refine Wn ?_
          refine Wy (.d (.lit (.bool false))) [] (OpF rfl) ?_
          refine Wy (.d (.lit (.bool false))) [] (Omv rfl) ?_
          refine Wn ?_
          refine Wn ?_
          refine Wy (.d (.lit (.bool false))) [] (OpF rfl) ?_
          refine Wy (.d (.lit (.bool false))) [] (Omv rfl) ?_
          refine Walk.nil ?_
          refine Then.normal ?_
          refine AWP.ret ?_
          obtain rfl := Option.some.inj hm
          exact ret_i []
      · replace hm := cF hq14_0 hm
        refine Wy (.d (.lit (.bool false))) [] (Ocs (lit_tf (b := decide (r11_0 = ([2, 1, 2] : List UInt8))) hq14_0) (Omv rfl)) ?_
        refine Wn ?_
        refine Wn ?_
        refine Wy (.d (.lit (.bool false))) [] (OpF rfl) ?_
        refine Wy (.d (.lit (.bool false))) [] (Omv rfl) ?_
        refine Wn ?_
        refine Wn ?_
        refine Wy (.d (.lit (.bool false))) [] (OpF rfl) ?_
        refine Wy (.d (.lit (.bool false))) [] (Omv rfl) ?_
        refine Wn ?_
        refine Wn ?_
        refine Wy (.d (.lit (.bool false))) [] (OpF rfl) ?_
        refine Wy (.d (.lit (.bool false))) [] (Omv rfl) ?_
        refine Wn ?_
        refine Wn ?_
        refine Wn ?_
        refine Wy (.d (.lit (.bool false))) [] (OpF rfl) ?_
        refine Wy (.d (.lit (.bool false))) [] (Omv rfl) ?_
        refine Wn ?_
        refine Wn ?_
        refine Wy (.d (.lit (.bool false))) [] (OpF rfl) ?_
        refine Wy (.d (.lit (.bool false))) [] (Omv rfl) ?_
        refine Wn ?_
        refine Wn ?_
        refine Wy (.d (.lit (.bool false))) [] (OpF rfl) ?_
        refine Wy (.d (.lit (.bool false))) [] (Omv rfl) ?_
        refine Walk.nil ?_
        refine Then.normal ?_
        refine AWP.ret ?_
        obtain rfl := Option.some.inj hm
        exact ret_i []
    · replace hm := cF hq7_0 hm
      refine Wy (.d (.lit (.bool false))) [] (Ocs (lit_tf (b := decide (r4_0 = 12638187200555641996)) hq7_0) (Omv rfl)) ?_
      refine Wy (.d (.lit (.bool false))) [] (OpF rfl) ?_
      refine Wy (.d (.lit (.bool false))) [] (Omv rfl) ?_
      refine Wn ?_
      refine Wn ?_
      refine Wn ?_
      refine Wy (.d (.lit (.bool false))) [] (OpF rfl) ?_
      refine Wy (.d (.lit (.bool false))) [] (Omv rfl) ?_
      refine Wn ?_
      refine Wn ?_
      refine Wy (.d (.lit (.bool false))) [] (OpF rfl) ?_
      refine Wy (.d (.lit (.bool false))) [] (Omv rfl) ?_
      refine Wn ?_
      refine Wn ?_
      refine Wy (.d (.lit (.bool false))) [] (OpF rfl) ?_
      refine Wy (.d (.lit (.bool false))) [] (Omv rfl) ?_
      refine Wn ?_
      refine Wn ?_
      refine Wy (.d (.lit (.bool false))) [] (OpF rfl) ?_
      refine Wy (.d (.lit (.bool false))) [] (Omv rfl) ?_
      refine Wn ?_
      refine Wn ?_
      refine Wn ?_
      refine Wy (.d (.lit (.bool false))) [] (OpF rfl) ?_
      refine Wy (.d (.lit (.bool false))) [] (Omv rfl) ?_
      refine Wn ?_
      refine Wn ?_
      refine Wy (.d (.lit (.bool false))) [] (OpF rfl) ?_
      refine Wy (.d (.lit (.bool false))) [] (Omv rfl) ?_
      refine Wn ?_
      refine Wn ?_
      refine Wy (.d (.lit (.bool false))) [] (OpF rfl) ?_
      refine Wy (.d (.lit (.bool false))) [] (Omv rfl) ?_
      refine Walk.nil ?_
      refine Then.normal ?_
      refine AWP.ret ?_
      obtain rfl := Option.some.inj hm
      exact ret_i []
  · replace hm := cF hq3_0 hm
    refine Wy (.d (.lit (.bool false))) [] (Ocs (lit_tf (b := decide (r1_0 = 14695981039346656037)) hq3_0) (Omv rfl)) ?_
    refine Wn ?_
    refine Wn ?_
    refine Wy (.d (.lit (.bool false))) [] (OpF rfl) ?_
    refine Wy (.d (.lit (.bool false))) [] (Omv rfl) ?_
    refine Wy (.d (.lit (.bool false))) [] (OpF rfl) ?_
    refine Wy (.d (.lit (.bool false))) [] (Omv rfl) ?_
    refine Wn ?_
    refine Wn ?_
    refine Wn ?_
    refine Wy (.d (.lit (.bool false))) [] (OpF rfl) ?_
    refine Wy (.d (.lit (.bool false))) [] (Omv rfl) ?_
    refine Wn ?_
    refine Wn ?_
    refine Wy (.d (.lit (.bool false))) [] (OpF rfl) ?_
    refine Wy (.d (.lit (.bool false))) [] (Omv rfl) ?_
    refine Wn ?_
    refine Wn ?_
    refine Wy (.d (.lit (.bool false))) [] (OpF rfl) ?_
    refine Wy (.d (.lit (.bool false))) [] (Omv rfl) ?_
    refine Wn ?_
    refine Wn ?_
    refine Wy (.d (.lit (.bool false))) [] (OpF rfl) ?_
    refine Wy (.d (.lit (.bool false))) [] (Omv rfl) ?_
    refine Wn ?_
    refine Wn ?_
    refine Wn ?_
    refine Wy (.d (.lit (.bool false))) [] (OpF rfl) ?_
    refine Wy (.d (.lit (.bool false))) [] (Omv rfl) ?_
    refine Wn ?_
    refine Wn ?_
    refine Wy (.d (.lit (.bool false))) [] (OpF rfl) ?_
    refine Wy (.d (.lit (.bool false))) [] (Omv rfl) ?_
    refine Wn ?_
    refine Wn ?_
    refine Wy (.d (.lit (.bool false))) [] (OpF rfl) ?_
    refine Wy (.d (.lit (.bool false))) [] (Omv rfl) ?_
    refine Walk.nil ?_
    refine Then.normal ?_
    refine AWP.ret ?_
    obtain rfl := Option.some.inj hm
    exact ret_i []

set_option maxRecDepth 20000 in
set_option maxHeartbeats 4000000 in
theorem ok_telltaleref08_Add (p0 : Int) (p1 : (List UInt8)) (r : Int) (h : m_telltaleref08_Add p0 p1 = some r) : GCall Try.prog 9 [(.d (.lit (.int .u64 p0))), (.d (.lit (.string (toS p1))))] [] (.d (.lit (.int .u64 r))) [] := by
  refine GCall.of_body (n := 20) (rs := [(.tmp 4)]) Try.func9 rfl rfl rfl ?_
  refine Ato ⟨((.d (.lit (.int .u64 p0))) :: ((.d (.lit (.string (toS p1)))) :: (tu 18 []))), [], 0⟩ ?_
  have hm := h
  unfold m_telltaleref08_Add at hm
  refine AWP.seq ?_
  refine AWP.text ?_
  refine Wy (.d (.lit (.int .u64 0))) [] (Omv rfl) ?_
  refine Walk.nil ?_
  refine Then.normal ?_
  refine Amk 3 0 ⟨((.d (.lit (.int .u64 p0))) :: ((.d (.lit (.string (toS p1)))) :: (tp 18 []))), [], 0⟩ ?_
  refine AWP.seq ?_
  refine AWP.seq ?_
  refine AWP.text ?_
  refine Wy (.d (.lit (.int .i64 0))) [] (Omv rfl) ?_
  refine Walk.nil ?_
  refine Then.normal ?_
  refine Amk 35 0 ⟨((.d (.lit (.int .u64 p0))) :: ((.d (.lit (.string (toS p1)))) :: (tp 3 ((.d (.lit (.int .i64 0))) :: (tp 14 []))))), [], 0⟩ ?_
  refine AWP.block ?_
  refine AWP.loopI (α := Nat × Int × Int)
    (fun x => match x with | (fu_0, y0_0, y5_0) => (⟨((.d (.lit (.int .u64 y0_0))) :: ((.d (.lit (.string (toS p1)))) :: (tp 3 ((.d (.lit (.int .i64 y5_0))) :: (tp 14 []))))), [], 0⟩ : St))
    (fun x => match x with | (fu_0, y0_0, y5_0) => m_telltaleref08_Add_l0 p1 fu_0 y0_0 y5_0 = some r)
    (fun x => match x with | (fu_0, y0_0, y5_0) => fu_0) (1152921504606846976, p0, 0)
    (Weak.toK 35 0 0 []) hm ?_
  rintro ⟨fu_0, y0_0, y5_0⟩ n_0 hm ih_0
  try dsimp only at hm ih_0 ⊢
  cases fu_0 with
  | zero => exact absurd hm (by unfold m_telltaleref08_Add_l0; simp)
  | succ fu_0 =>
    unfold m_telltaleref08_Add_l0 at hm
    refine AWP.seq ?_
    refine AWP.seq ?_
    refine AWP.text ?_
    refine Wy (.d (.lit (.int .i64 y5_0))) [] (Omv rfl) ?_
    refine Wy (.d (.lit (.string (toS p1)))) [] (Omv rfl) ?_
    refine Wy (.d (.lit (.int .i64 ((List.length p1 : Nat) : Int)))) [] (Oln rfl) ?_
    refine Wy (.d (.lit (.bool (decide (y5_0 < ((List.length p1 : Nat) : Int)))))) [] (Obn rfl (fun _ => hb_lss (k := .i64))) ?_
    refine Walk.nil ?_
    refine Then.normal ?_
    refine Amk 547 0 ⟨((.d (.lit (.int .u64 y0_0))) :: ((.d (.lit (.string (toS p1)))) :: (tp 3 ((.d (.lit (.int .i64 y5_0))) :: (tp 3 ((.d (.lit (.bool (decide (y5_0 < ((List.length p1 : Nat) : Int)))))) :: (tp 10 []))))))), [], 0⟩ ?_
    rcases tf_ (decide (y5_0 < ((List.length p1 : Nat) : Int))) with hc9_3 | hc9_3
    · replace hm := cT hc9_3 hm
      refine AWP.if_ true (Eq.trans (by kernel_rfl) (lit_tf (b := decide (y5_0 < ((List.length p1 : Nat) : Int))) hc9_3)) ?_
      refine AWP.skip ?_
      refine Then.normal ?_
      refine Amk 35 0 ⟨((.d (.lit (.int .u64 y0_0))) :: ((.d (.lit (.string (toS p1)))) :: (tp 3 ((.d (.lit (.int .i64 y5_0))) :: (tp 14 []))))), [], 0⟩ ?_
      refine AWP.seq ?_
      refine AWP.block ?_
      refine AWP.text ?_
      refine Wy (.d (.lit (.int .u64 y0_0))) [] (Omv rfl) ?_
      refine Wy (.d (.lit (.string (toS p1)))) [] (Omv rfl) ?_
      refine Wy (.d (.lit (.int .i64 y5_0))) [] (Omv rfl) ?_
      obtain ⟨x15_2, hx15_2, hm⟩ := bnd hm
      obtain ⟨hx15_2i, hx15_2g⟩ := geti_some hx15_2
      refine Wy (.d (byteD x15_2)) [] (Ocs (by kernel_rfl) (op_index_str rfl (by kernel_rfl) (s := toS p1) (by kernel_rfl) (k := .i64) (iv := y5_0) (by kernel_rfl) (i := (Int.toNat y5_0)) (hx15_2i) (b := x15_2) (hx15_2g))) ?_
      refine Wy (.d (.lit (.int .u64 ((x15_2.toNat : Nat) : Int)))) [] (Ocs (lit_int (wrap_of_u8 (by decide) _)) (op_convert rfl (a1 := .int .u8 ((x15_2.toNat : Nat) : Int)) (by kernel_rfl) (run_conv (ds := .int .u8) (k' := .u64) (by kernel_rfl) (by kernel_rfl)))) ?_
      refine Wy (.d (.lit (.int .u64 (IntKind.u64.wrap (((BitVec.ofInt 64 y0_0 ^^^ BitVec.ofInt 64 ((x15_2.toNat : Nat) : Int)).toNat : Int)))))) [] (Ocs (by kernel_rfl) (op_bin rfl (a1 := .int .u64 y0_0) (a2 := .int .u64 ((x15_2.toNat : Nat) : Int)) (by kernel_rfl) (by kernel_rfl) (fun _ => hb_xor))) ?_
      obtain ⟨v18_2, hv18_2, hm⟩ := bnd hm; replace hv18_2 := Option.some.inj hv18_2
      refine Wy (.d (.lit (.int .u64 v18_2))) [] (Ocs (congrArg (fun z => A.d (.lit (.int .u64 z))) hv18_2) (Obn rfl (fun _ => hb_mul (k := .u64)))) ?_
      refine Wy (.d (.lit (.int .u64 v18_2))) [] (Omv rfl) ?_
      refine Walk.nil ?_
      refine InBlock.normal ?_
      refine Then.normal ?_
      refine Amk 35 0 ⟨((.d (.lit (.int .u64 v18_2))) :: ((.d (.lit (.string (toS p1)))) :: (tp 3 ((.d (.lit (.int .i64 y5_0))) :: (tp 14 []))))), [], 0⟩ ?_
      refine AWP.text ?_
      refine Wy (.d (.lit (.int .i64 y5_0))) [] (Omv rfl) ?_
      refine Wy (.d (.lit (.int .i64 (IntKind.i64.wrap (y5_0 + 1))))) [] (Obn rfl (fun _ => hb_add (k := .i64))) ?_
      refine Wy (.d (.lit (.int .i64 (IntKind.i64.wrap (y5_0 + 1))))) [] (Omv rfl) ?_
      refine Walk.nil ?_
      refine RoundK.normal ?_
      exact Rounds.weak (Weak.toK 35 0 0 []) (ih_0 (fu_0, v18_2, (IntKind.i64.wrap (y5_0 + 1))) hm (Nat.lt_succ_self _))
    · replace hm := cF hc9_3 hm
      refine AWP.if_ false (Eq.trans (by kernel_rfl) (lit_tf (b := decide (y5_0 < ((List.length p1 : Nat) : Int))) hc9_3)) ?_
      refine AWP.exit ?_
      refine Then.exit ?_
      refine RoundK.exit ?_
      refine InBlock.same ?_
      refine Then.normal ?_
      refine Amk 1 0 ⟨((.d (.lit (.int .u64 y0_0))) :: (tp 19 [])), [], 0⟩ ?_
      refine AWP.seq ?_
      refine AWP.text ?_
      refine Wy (.d (.lit (.int .u64 y0_0))) [] (Omv rfl) ?_
      refine Wy (.d (.lit (.int .u64 y0_0))) [] (Omv rfl) ?_
      refine Walk.nil ?_
      refine Then.normal ?_
      refine AWP.ret ?_
      obtain rfl := Option.some.inj hm
      exact ret_i []

set_option maxRecDepth 20000 in
set_option maxHeartbeats 4000000 in
theorem ok_telltaleref08_Mix (p0 : Int) (r : Int) (h : m_telltaleref08_Mix p0 = some r) : GCall Try.prog 12 [(.d (.lit (.int .u64 p0)))] [] (.d (.lit (.int .u64 r))) [] := by
  refine GCall.of_body (n := 19) (rs := [(.tmp 2)]) Try.func12 rfl rfl rfl ?_
  refine Ato ⟨((.d (.lit (.int .u64 p0))) :: (tu 18 [])), [], 0⟩ ?_
  have hm := h
  unfold m_telltaleref08_Mix at hm
  refine AWP.seq ?_
  refine AWP.text ?_
  refine Wy (.d (.lit (.int .u64 0))) [] (Omv rfl) ?_
  refine Walk.nil ?_
  refine Then.normal ?_
  refine Amk 1 0 ⟨((.d (.lit (.int .u64 p0))) :: (tp 18 [])), [], 0⟩ ?_
  refine AWP.seq ?_
  refine AWP.text ?_
  refine Wy (.d (.lit (.int .u64 p0))) [] (Omv rfl) ?_
  refine Wy (.d (.lit (.int .u64 p0))) [] (Omv rfl) ?_
  refine Wy (.d (.lit (.int .u64 (IntKind.u64.wrap (Int.tdiv p0 1073741824))))) [] (Ocs (by kernel_rfl) (op_bin rfl (a1 := .int .u64 p0) (a2 := .int .u64 1073741824) (by kernel_rfl) (by kernel_rfl) (fun _ => hb_quo (by decide)))) ?_
  obtain ⟨v8_0, hv8_0, hm⟩ := bnd hm; replace hv8_0 := Option.some.inj hv8_0
  refine Wy (.d (.lit (.int .u64 v8_0))) [] (Ocs (Eq.trans (by kernel_rfl) (congrArg (fun z => A.d (.lit (.int .u64 z))) hv8_0)) (op_bin rfl (a1 := .int .u64 p0) (a2 := .int .u64 (IntKind.u64.wrap (Int.tdiv p0 1073741824))) (by kernel_rfl) (by kernel_rfl) (fun _ => hb_xor))) ?_
  refine Wy (.d (.lit (.int .u64 (IntKind.u64.wrap (v8_0 * 13787848793156543929))))) [] (Obn rfl (fun _ => hb_mul (k := .u64))) ?_
  refine Wy (.d (.lit (.int .u64 (IntKind.u64.wrap (v8_0 * 13787848793156543929))))) [] (Omv rfl) ?_
  refine Walk.nil ?_
  refine Then.normal ?_
  refine Amk 8 0 ⟨(tp 3 ((.d (.lit (.int .u64 (IntKind.u64.wrap (v8_0 * 13787848793156543929))))) :: (tp 15 []))), [], 0⟩ ?_
  refine AWP.seq ?_
  refine AWP.text ?_
  refine Wy (.d (.lit (.int .u64 (IntKind.u64.wrap (v8_0 * 13787848793156543929))))) [] (Omv rfl) ?_
  refine Wy (.d (.lit (.int .u64 (IntKind.u64.wrap (v8_0 * 13787848793156543929))))) [] (Omv rfl) ?_
  refine Wy (.d (.lit (.int .u64 (IntKind.u64.wrap (Int.tdiv (IntKind.u64.wrap (v8_0 * 13787848793156543929)) 134217728))))) [] (Ocs (by kernel_rfl) (op_bin rfl (a1 := .int .u64 (IntKind.u64.wrap (v8_0 * 13787848793156543929))) (a2 := .int .u64 134217728) (by kernel_rfl) (by kernel_rfl) (fun _ => hb_quo (by decide)))) ?_
  obtain ⟨v13_1, hv13_1, hm⟩ := bnd hm; replace hv13_1 := Option.some.inj hv13_1
  refine Wy (.d (.lit (.int .u64 v13_1))) [] (Ocs (Eq.trans (by kernel_rfl) (congrArg (fun z => A.d (.lit (.int .u64 z))) hv13_1)) (op_bin rfl (a1 := .int .u64 (IntKind.u64.wrap (v8_0 * 13787848793156543929))) (a2 := .int .u64 (IntKind.u64.wrap (Int.tdiv (IntKind.u64.wrap (v8_0 * 13787848793156543929)) 134217728))) (by kernel_rfl) (by kernel_rfl) (fun _ => hb_xor))) ?_
  refine Wy (.d (.lit (.int .u64 (IntKind.u64.wrap (v13_1 * 10723151780598845931))))) [] (Obn rfl (fun _ => hb_mul (k := .u64))) ?_
  refine Wy (.d (.lit (.int .u64 (IntKind.u64.wrap (v13_1 * 10723151780598845931))))) [] (Omv rfl) ?_
  refine Walk.nil ?_
  refine Then.normal ?_
  refine Amk 16 0 ⟨(tp 4 ((.d (.lit (.int .u64 (IntKind.u64.wrap (v13_1 * 10723151780598845931))))) :: (tp 14 []))), [], 0⟩ ?_
  refine AWP.seq ?_
  refine AWP.text ?_
  refine Wy (.d (.lit (.int .u64 (IntKind.u64.wrap (v13_1 * 10723151780598845931))))) [] (Omv rfl) ?_
  refine Wy (.d (.lit (.int .u64 (IntKind.u64.wrap (v13_1 * 10723151780598845931))))) [] (Omv rfl) ?_
  refine Wy (.d (.lit (.int .u64 (IntKind.u64.wrap (Int.tdiv (IntKind.u64.wrap (v13_1 * 10723151780598845931)) 2147483648))))) [] (Ocs (by kernel_rfl) (op_bin rfl (a1 := .int .u64 (IntKind.u64.wrap (v13_1 * 10723151780598845931))) (a2 := .int .u64 2147483648) (by kernel_rfl) (by kernel_rfl) (fun _ => hb_quo (by decide)))) ?_
  obtain ⟨v18_2, hv18_2, hm⟩ := bnd hm; replace hv18_2 := Option.some.inj hv18_2
  refine Wy (.d (.lit (.int .u64 v18_2))) [] (Ocs (Eq.trans (by kernel_rfl) (congrArg (fun z => A.d (.lit (.int .u64 z))) hv18_2)) (op_bin rfl (a1 := .int .u64 (IntKind.u64.wrap (v13_1 * 10723151780598845931))) (a2 := .int .u64 (IntKind.u64.wrap (Int.tdiv (IntKind.u64.wrap (v13_1 * 10723151780598845931)) 2147483648))) (by kernel_rfl) (by kernel_rfl) (fun _ => hb_xor))) ?_
  refine Wy (.d (.lit (.int .u64 v18_2))) [] (Omv rfl) ?_
  refine Walk.nil ?_
  refine Then.normal ?_
  refine AWP.ret ?_
  obtain rfl := Option.some.inj hm
  exact ret_i []

set_option maxRecDepth 20000 in
set_option maxHeartbeats 4000000 in
theorem ok_telltalelaw08_HashSums (p0 : Int) (p1 : (List UInt8)) (r : Bool) (h : m_telltalelaw08_HashSums p0 p1 = some r) : GCall Try.prog 3 [(.d (.lit (.int .u64 p0))), (.d (.lit (.string (toS p1))))] [] (.d (.lit (.bool r))) [] := by
  refine GCall.of_body (n := 33) (rs := [(.tmp 4)]) Try.func3 rfl rfl rfl ?_
  refine Ato ⟨((.d (.lit (.int .u64 p0))) :: ((.d (.lit (.string (toS p1)))) :: (tu 31 []))), [], 0⟩ ?_
  have hm := h
  unfold m_telltalelaw08_HashSums at hm
  refine AWP.seq ?_
  refine AWP.text ?_
  refine Wy (.d (.lit (.bool false))) [] (Omv rfl) ?_
  refine Walk.nil ?_
  refine Then.normal ?_
  refine Amk 3 0 ⟨((.d (.lit (.int .u64 p0))) :: ((.d (.lit (.string (toS p1)))) :: (tp 31 []))), [], 0⟩ ?_
  refine AWP.seq ?_
  refine AWP.seq ?_
  refine AWP.text ?_
  refine Wy (.d (.lit (.string (toS p1)))) [] (Omv rfl) ?_
  refine Wy (.d (.lit (.int .i64 ((List.length p1 : Nat) : Int)))) [] (Oln rfl) ?_
  refine Wy (.d (.lit (.bool (decide ((300 : Int) < ((List.length p1 : Nat) : Int)))))) [] (Obn rfl (fun _ => hb_gtr (k := .i64))) ?_
  refine Walk.nil ?_
  refine Then.normal ?_
  refine Amk 131 0 ⟨((.d (.lit (.int .u64 p0))) :: ((.d (.lit (.string (toS p1)))) :: (tp 5 ((.d (.lit (.bool (decide ((300 : Int) < ((List.length p1 : Nat) : Int)))))) :: (tp 25 []))))), [], 0⟩ ?_
  rcases tf_ (decide ((300 : Int) < ((List.length p1 : Nat) : Int))) with hc7_3 | hc7_3
  · replace hm := cT hc7_3 hm
    refine AWP.if_ true (Eq.trans (by kernel_rfl) (lit_tf (b := decide ((300 : Int) < ((List.length p1 : Nat) : Int))) hc7_3)) ?_
    refine AWP.seq ?_
    refine AWP.text ?_
    obtain ⟨r8_1, hr8_1, hm⟩ := bnd hm
    refine Wy (.d (.lit (.bool r8_1))) [] (Ocf [] [] [] 0 (ok_telltalelaw08_awake  r8_1 hr8_1) (fun a w => Try.call7 a w) rfl trivial) ?_
    refine Wy (.d (.lit (.bool r8_1))) [] (Omv rfl) ?_
    refine Walk.nil ?_
    refine Then.normal ?_
    refine AWP.ret ?_
    refine Then.ret ?_
    obtain rfl := Option.some.inj hm
    exact ret_i []
  · replace hm := cF hc7_3 hm
    refine AWP.if_ false (Eq.trans (by kernel_rfl) (lit_tf (b := decide ((300 : Int) < ((List.length p1 : Nat) : Int))) hc7_3)) ?_
    refine AWP.skip ?_
    refine Then.normal ?_
    refine Amk 3 0 ⟨((.d (.lit (.int .u64 p0))) :: ((.d (.lit (.string (toS p1)))) :: (tp 31 []))), [], 0⟩ ?_
    refine AWP.seq ?_
    refine AWP.text ?_
    refine Wy (.d (.lit (.int .u64 p0))) [] (Omv rfl) ?_
    refine Wy (.d (.lit (.string (toS p1)))) [] (Omv rfl) ?_
    obtain ⟨r11_2, hr11_2, hm⟩ := bnd hm
    refine Wy (.d (.lit (.int .u64 r11_2))) [] (Ocf [] [] [] 0 (ok_hash_Add p0 p1 r11_2 hr11_2) (fun a w => Try.call8 a w) rfl trivial) ?_
    refine Wy (.d (.lit (.int .u64 p0))) [] (Omv rfl) ?_
    refine Wy (.d (.lit (.string (toS p1)))) [] (Omv rfl) ?_
    obtain ⟨r14_2, hr14_2, hm⟩ := bnd hm
    refine Wy (.d (.lit (.int .u64 r14_2))) [] (Ocf [] [] [] 0 (ok_telltaleref08_Add p0 p1 r14_2 hr14_2) (fun a w => Try.call9 a w) rfl trivial) ?_
    refine Wy (.d (.lit (.bool (decide (r11_2 = r14_2))))) [] (Obn rfl (fun _ => hb_eql (k := .u64))) ?_
    rcases tf_ (decide (r11_2 = r14_2)) with hq16_2 | hq16_2
    · replace hm := cT hq16_2 hm
      refine Wy (.d (.lit (.bool true))) [] (Ocs (lit_tf (b := decide (r11_2 = r14_2)) hq16_2) (Omv rfl)) ?_
      refine Wy (.d (.lit (.string (toS p1)))) [] (Omv rfl) ?_
      obtain ⟨r18_2, hr18_2, hm⟩ := bnd hm
      refine Wy (.d (.lit (.int .u64 r18_2))) [] (Ocf [] [] [] 0 (ok_hash_Sum p1 r18_2 hr18_2) (fun a w => Try.call10 a w) rfl trivial) ?_
      refine Wy (.d (.lit (.string (toS p1)))) [] (Omv rfl) ?_
      obtain ⟨r20_2, hr20_2, hm⟩ := bnd hm
      refine Wy (.d (.lit (.int .u64 r20_2))) [] (Ocf [] [] [] 0 (ok_telltaleref08_Add 14695981039346656037 p1 r20_2 hr20_2) (fun a w => Try.call9 a w) rfl trivial) ?_
      refine Wy (.d (.lit (.bool (decide (r18_2 = r20_2))))) [] (Obn rfl (fun _ => hb_eql (k := .u64))) ?_
      refine Wy (.d (.lit (.bool (decide (r18_2 = r20_2))))) [] (OpT rfl) ?_
      rcases tf_ (decide (r18_2 = r20_2)) with hq23_2 | hq23_2
      · replace hm := cT hq23_2 hm
        refine Wy (.d (.lit (.bool true))) [] (Ocs (lit_tf (b := decide (r18_2 = r20_2)) hq23_2) (Omv rfl)) ?_
        refine Wy (.d (.lit (.int .u64 p0))) [] (Omv rfl) ?_
        obtain ⟨r25_2, hr25_2, hm⟩ := bnd hm
        refine Wy (.d (.lit (.int .u64 r25_2))) [] (Ocf [] [] [] 0 (ok_hash_Mix p0 r25_2 hr25_2) (fun a w => Try.call11 a w) rfl trivial) ?_
        refine Wy (.d (.lit (.int .u64 p0))) [] (Omv rfl) ?_
        obtain ⟨r27_2, hr27_2, hm⟩ := bnd hm
        refine Wy (.d (.lit (.int .u64 r27_2))) [] (Ocf [] [] [] 0 (ok_telltaleref08_Mix p0 r27_2 hr27_2) (fun a w => Try.call12 a w) rfl trivial) ?_
        refine Wy (.d (.lit (.bool (decide (r25_2 = r27_2))))) [] (Obn rfl (fun _ => hb_eql (k := .u64))) ?_
        refine Wy (.d (.lit (.bool (decide (r25_2 = r27_2))))) [] (OpT rfl) ?_
        rcases tf_ (decide (r25_2 = r27_2)) with hq30_2 | hq30_2
        · replace hm := cT hq30_2 hm
          refine Wy (.d (.lit (.bool true))) [] (Ocs (lit_tf (b := decide (r25_2 = r27_2)) hq30_2) (Omv rfl)) ?_
          obtain ⟨r31_2, hr31_2, hm⟩ := bnd hm
          refine Wy (.d (.lit (.bool r31_2))) [] (Ocf [] [] [] 0 (ok_telltalelaw08_awake  r31_2 hr31_2) (fun a w => Try.call7 a w) rfl trivial) ?_
          refine Wy (.d (.lit (.bool r31_2))) [] (OpT rfl) ?_
          refine Wy (.d (.lit (.bool r31_2))) [] (Omv rfl) ?_
          refine Walk.nil ?_
          refine Then.normal ?_
          refine AWP.ret ?_
          obtain rfl := Option.some.inj hm
          exact ret_i []
        · replace hm := cF hq30_2 hm
          refine Wy (.d (.lit (.bool false))) [] (Ocs (lit_tf (b := decide (r25_2 = r27_2)) hq30_2) (Omv rfl)) ?_
          refine Wn ?_
          refine Wy (.d (.lit (.bool false))) [] (OpF rfl) ?_
          refine Wy (.d (.lit (.bool false))) [] (Omv rfl) ?_
          refine Walk.nil ?_
          refine Then.normal ?_
          refine AWP.ret ?_
          obtain rfl := Option.some.inj hm
          exact ret_i []
      · replace hm := cF hq23_2 hm
        refine Wy (.d (.lit (.bool false))) [] (Ocs (lit_tf (b := decide (r18_2 = r20_2)) hq23_2) (Omv rfl)) ?_
        refine Wn ?_
        refine Wn ?_
        refine Wn ?_
        refine Wn ?_
        refine Wn ?_
        refine Wy (.d (.lit (.bool false))) [] (OpF rfl) ?_
        refine Wy (.d (.lit (.bool false))) [] (Omv rfl) ?_
        refine Wn ?_
        refine Wy (.d (.lit (.bool false))) [] (OpF rfl) ?_
        refine Wy (.d (.lit (.bool false))) [] (Omv rfl) ?_
        refine Walk.nil ?_
        refine Then.normal ?_
        refine AWP.ret ?_
        obtain rfl := Option.some.inj hm
        exact ret_i []
    · replace hm := cF hq16_2 hm
      refine Wy (.d (.lit (.bool false))) [] (Ocs (lit_tf (b := decide (r11_2 = r14_2)) hq16_2) (Omv rfl)) ?_
      refine Wn ?_
      refine Wn ?_
      refine Wn ?_
      refine Wn ?_
      refine Wn ?_
      refine Wy (.d (.lit (.bool false))) [] (OpF rfl) ?_
      refine Wy (.d (.lit (.bool false))) [] (Omv rfl) ?_
      refine Wn ?_
      refine Wn ?_
      refine Wn ?_
      refine Wn ?_
      refine Wn ?_
      refine Wy (.d (.lit (.bool false))) [] (OpF rfl) ?_
      refine Wy (.d (.lit (.bool false))) [] (Omv rfl) ?_
      refine Wn ?_
      refine Wy (.d (.lit (.bool false))) [] (OpF rfl) ?_
      refine Wy (.d (.lit (.bool false))) [] (Omv rfl) ?_
      refine Walk.nil ?_
      refine Then.normal ?_
      refine AWP.ret ?_
      obtain rfl := Option.some.inj hm
      exact ret_i []

set_option maxRecDepth 20000 in
set_option maxHeartbeats 4000000 in
theorem ok_telltalelaw04_Small (p0 : GValue) (r : Int) (h : m_telltalelaw04_Small p0 = some r) : GCall Try.prog 13 [(.agg [(.d (byteD p0.Kind)), (.d (.lit (.int .i64 p0.N))), (.d (.lit (.int .u64 p0.Bits))), (.d (.lit (.string (toS p0.Text))))])] [] (.d (.lit (.int .i64 r))) [] := by
  refine GCall.of_body (n := 8) (rs := [(.tmp 2)]) Try.func13 rfl rfl rfl ?_
  refine Ato ⟨((.agg [(.d (byteD p0.Kind)), (.d (.lit (.int .i64 p0.N))), (.d (.lit (.int .u64 p0.Bits))), (.d (.lit (.string (toS p0.Text))))]) :: (tu 7 [])), [], 0⟩ ?_
  have hm := h
  unfold m_telltalelaw04_Small at hm
  refine AWP.seq ?_
  refine AWP.text ?_
  refine Wy (.loc 0 0) [(0, (.box [(.d (byteD p0.Kind)), (.d (.lit (.int .i64 p0.N))), (.d (.lit (.int .u64 p0.Bits))), (.d (.lit (.string (toS p0.Text))))]))] (Obx rfl) ?_
  refine Wy (.d (.lit (.int .i64 0))) [] (Omv rfl) ?_
  refine Walk.nil ?_
  refine Then.normal ?_
  refine Amk 2 1 ⟨(tp 1 ((.loc 0 0) :: (tp 6 []))), [(.box [(.d (byteD p0.Kind)), (.d (.lit (.int .i64 p0.N))), (.d (.lit (.int .u64 p0.Bits))), (.d (.lit (.string (toS p0.Text))))])], 0⟩ ?_
  refine AWP.seq ?_
  refine AWP.text ?_
  refine Wy (.loc 0 3) [] (Ofa rfl) ?_
  refine Wy (.d (.lit (.string (toS p0.Text)))) [] (Old rfl) ?_
  refine Wy (.d (.lit (.int .i64 ((List.length p0.Text : Nat) : Int)))) [] (Oln rfl) ?_
  refine Wy (.d (.lit (.int .i64 (IntKind.i64.wrap (((List.length p0.Text : Nat) : Int) - 100))))) [] (Obn rfl (fun _ => hb_sub (k := .i64))) ?_
  refine Wy (.d (.lit (.int .i64 (max 0 (IntKind.i64.wrap (((List.length p0.Text : Nat) : Int) - 100)))))) [] (op_bi2 rfl (a1 := .int .i64 0) (a2 := .int .i64 (IntKind.i64.wrap (((List.length p0.Text : Nat) : Int) - 100))) (by kernel_rfl) (by kernel_rfl) hb_max) ?_
  refine Wy (.d (.lit (.int .i64 (max 0 (IntKind.i64.wrap (((List.length p0.Text : Nat) : Int) - 100)))))) [] (Omv rfl) ?_
  refine Walk.nil ?_
  refine Then.normal ?_
  refine AWP.ret ?_
  obtain rfl := Option.some.inj hm
  exact ret_i []

set_option maxRecDepth 20000 in
set_option maxHeartbeats 4000000 in
theorem ok_hash_Key_m2 (p0 : Int) (p1 : GValue) (r : (List UInt8)) (h : m_hash_Key p0 p1 = some r) : GCall Try.prog 14 [(.d (.lit (.int .i64 p0))), (.agg [(.d (byteD p1.Kind)), (.d (.lit (.int .i64 p1.N))), (.d (.lit (.int .u64 p1.Bits))), (.d (.lit (.string (toS p1.Text))))])] [] (.d (.lit (.string (toS r)))) [] := by
  refine GCall.of_body (n := 19) (rs := [(.tmp 4)]) Try.func14 rfl rfl rfl ?_
  refine Ato ⟨((.d (.lit (.int .i64 p0))) :: ((.agg [(.d (byteD p1.Kind)), (.d (.lit (.int .i64 p1.N))), (.d (.lit (.int .u64 p1.Bits))), (.d (.lit (.string (toS p1.Text))))]) :: (tu 17 []))), [], 0⟩ ?_
  have hm := h
  unfold m_hash_Key at hm
  refine AWP.seq ?_
  refine AWP.text ?_
  refine Wy (.loc 0 0) [(0, (.box [(.d (byteD p1.Kind)), (.d (.lit (.int .i64 p1.N))), (.d (.lit (.int .u64 p1.Bits))), (.d (.lit (.string (toS p1.Text))))]))] (Obx rfl) ?_
  refine Wy (.d (.lit (.string (toS ([] : List UInt8))))) [] (Omv rfl) ?_
  refine Walk.nil ?_
  refine Then.normal ?_
  refine Amk 9 1 ⟨((.d (.lit (.int .i64 p0))) :: (tp 2 ((.loc 0 0) :: (tp 15 [])))), [(.box [(.d (byteD p1.Kind)), (.d (.lit (.int .i64 p1.N))), (.d (.lit (.int .u64 p1.Bits))), (.d (.lit (.string (toS p1.Text))))])], 0⟩ ?_
  refine AWP.seq ?_
  refine AWP.text ?_
  refine Wy (.d (.lit (.int .i64 p0))) [] (Omv rfl) ?_
  refine Wy (.d (byteD (toU8 p0))) [] (Ocs (lit_int (u8w _)) (op_convert rfl (a1 := .int .i64 p0) (by kernel_rfl) (run_conv (ds := .int .i64) (k' := .u8) (by kernel_rfl) (by kernel_rfl)))) ?_
  refine Wy (.own 1) [(1, (.arr 5 1 (List.length ([(toU8 p0)] : List UInt8)) (flatD encU8 ([(toU8 p0)] : List UInt8))))] (Obs rfl) ?_
  refine Wy (.agg [(.d (byteD p1.Kind)), (.d (.lit (.int .i64 p1.N))), (.d (.lit (.int .u64 p1.Bits))), (.d (.lit (.string (toS p1.Text))))]) [] (Old rfl) ?_
  obtain ⟨r12_0, hr12_0, hm⟩ := bnd hm
  refine Wy (.tup [(.own 2), (.d (.lit (.int .i64 r12_0.2)))]) [(2, (.arr 5 1 (List.length r12_0.1) (flatD encU8 r12_0.1)))] (Ocp [] [2] [1] 0 (ok_value_Put ([(toU8 p0)] : List UInt8) p1 r12_0 hr12_0) (⟨by simp [A.Plain, A.Plains, D.Plain, byteD], plain_cons (flat_plain encU8_plain) (plain_nil)⟩) (fun a w => Try.call24 a w) rfl trivial) ?_
  refine Wy (.tup [(.own 2), (.d (.lit (.int .i64 r12_0.2)))]) [] (Omv rfl) ?_
  refine Wy (.own 2) [] (Oex rfl) ?_
  refine Wy (.d (.lit (.int .i64 r12_0.2))) [] (Oex rfl) ?_
  refine Wy (.own 2) [] (Omv rfl) ?_
  refine Wy (.d (.lit (.int .i64 r12_0.2))) [] (Omv rfl) ?_
  refine Walk.nil ?_
  refine Then.normal ?_
  refine Amk 96 4 ⟨(tp 5 ((.own 2) :: ((.d (.lit (.int .i64 r12_0.2))) :: (tp 12 [])))), [.gone, .gone, (.arr 5 1 (List.length r12_0.1) (flatD encU8 r12_0.1))], 0⟩ ?_
  refine AWP.seq ?_
  refine AWP.seq ?_
  refine AWP.text ?_
  refine Wy (.d (.lit (.int .i64 r12_0.2))) [] (Omv rfl) ?_
  refine Wy (.d (.lit (.bool (decide (r12_0.2 ≠ 0))))) [] (Obn rfl (fun _ => hb_neq (k := .i64))) ?_
  refine Walk.nil ?_
  refine Then.normal ?_
  refine Amk 65568 4 ⟨(tp 5 ((.own 2) :: (tp 10 ((.d (.lit (.bool (decide (r12_0.2 ≠ 0))))) :: (tp 2 []))))), [.gone, .gone, (.arr 5 1 (List.length r12_0.1) (flatD encU8 r12_0.1))], 0⟩ ?_
  rcases tf_ (decide (r12_0.2 ≠ 0)) with hc16_2 | hc16_2
  · replace hm := cT hc16_2 hm
    refine AWP.if_ true (Eq.trans (by kernel_rfl) (lit_tf (b := decide (r12_0.2 ≠ 0)) hc16_2)) ?_
    refine AWP.seq ?_
    refine AWP.text ?_
    refine Wy (.d (.lit (.string (toS ([] : List UInt8))))) [] (Omv rfl) ?_
    refine Walk.nil ?_
    refine Then.normal ?_
    refine AWP.ret ?_
    refine Then.ret ?_
    obtain rfl := Option.some.inj hm
    exact ret_i []
  · replace hm := cF hc16_2 hm
    refine AWP.if_ false (Eq.trans (by kernel_rfl) (lit_tf (b := decide (r12_0.2 ≠ 0)) hc16_2)) ?_
    refine AWP.skip ?_
    refine Then.normal ?_
    refine Amk 32 4 ⟨(tp 5 ((.own 2) :: (tp 13 []))), [.gone, .gone, (.arr 5 1 (List.length r12_0.1) (flatD encU8 r12_0.1))], 0⟩ ?_
    refine AWP.seq ?_
    refine AWP.text ?_
    refine Wy (.own 2) [] (Omv rfl) ?_
    refine Wy (.d (.lit (.string (toS r12_0.1)))) [] (Ocs (by kernel_rfl) (op_str rfl (e := 5) (by kernel_rfl) (by kernel_rfl) (by kernel_rfl) (y := (.own 2)) (by kernel_rfl) (ds := flatD encU8 r12_0.1) (off := 0) (n := List.length r12_0.1) (by kernel_rfl) (l := r12_0.1) flatU8_take rfl)) ?_
    refine Wy (.d (.lit (.string (toS r12_0.1)))) [] (Omv rfl) ?_
    refine Walk.nil ?_
    refine Then.normal ?_
    refine AWP.ret ?_
    obtain rfl := Option.some.inj hm
    exact ret_i []

set_option maxRecDepth 20000 in
set_option maxHeartbeats 4000000 in
theorem ok_telltaleref08_Bare (p0 : Int) (r : (List UInt8)) (h : m_telltaleref08_Bare p0 = some r) : GCall Try.prog 17 [(.d (.lit (.int .i64 p0)))] [] (.d (.lit (.string (toS r)))) [] := by
  refine GCall.of_body (n := 14) (rs := [(.tmp 2)]) Try.func17 rfl rfl rfl ?_
  refine Ato ⟨((.d (.lit (.int .i64 p0))) :: (tu 13 [])), [], 0⟩ ?_
  have hm := h
  unfold m_telltaleref08_Bare at hm
  refine AWP.seq ?_
  refine AWP.text ?_
  refine Wy (.d (.lit (.string (toS ([] : List UInt8))))) [] (Omv rfl) ?_
  refine Walk.nil ?_
  refine Then.normal ?_
  refine Amk 1 0 ⟨((.d (.lit (.int .i64 p0))) :: (tp 13 [])), [], 0⟩ ?_
  refine AWP.seq ?_
  refine AWP.text ?_
  refine Wy (.d (.lit (.int .i64 p0))) [] (Omv rfl) ?_
  refine Wy (.d (.lit (.int .i64 (Int.tmod p0 256)))) [] (Ocs (by kernel_rfl) (op_bin rfl (a1 := .int .i64 p0) (a2 := .int .i64 256) (by kernel_rfl) (by kernel_rfl) (fun _ => hb_rem (by decide)))) ?_
  refine Wy (.d (.lit (.int .i64 (Int.tmod p0 256)))) [] (Omv rfl) ?_
  refine Walk.nil ?_
  refine Then.normal ?_
  refine Amk 8 0 ⟨(tp 3 ((.d (.lit (.int .i64 (Int.tmod p0 256)))) :: (tp 10 []))), [], 0⟩ ?_
  refine AWP.cutJ (α := Int) (fun x => match x with | y3_0 => (⟨(tp 3 ((.d (.lit (.int .i64 y3_0))) :: (tp 10 []))), [], 0⟩ : St)) (fun x => match x with | y3_0 => m_telltaleref08_Bare_j0  y3_0 = some r) ?_ (fun J0 => ?_)
  · rintro y3_0 hm
    try dsimp only at hm ⊢
    unfold m_telltaleref08_Bare_j0 at hm
    refine AWP.seq ?_
    refine AWP.text ?_
    refine Wy (.d (.lit (.int .i64 y3_0))) [] (Omv rfl) ?_
    refine Wy (.d (byteD (toU8 y3_0))) [] (Ocs (lit_int (u8w _)) (op_convert rfl (a1 := .int .i64 y3_0) (by kernel_rfl) (run_conv (ds := .int .i64) (k' := .u8) (by kernel_rfl) (by kernel_rfl)))) ?_
    refine Wy (.own 0) [(0, (.arr 5 1 (List.length ([(toU8 y3_0)] : List UInt8)) (flatD encU8 ([(toU8 y3_0)] : List UInt8))))] (Obs rfl) ?_
    refine Wy (.d (.lit (.string (toS ([(toU8 y3_0)] : List UInt8))))) [] (Ocs (by kernel_rfl) (op_str rfl (e := 5) (by kernel_rfl) (by kernel_rfl) (by kernel_rfl) (y := (.own 0)) (by kernel_rfl) (ds := flatD encU8 ([(toU8 y3_0)] : List UInt8)) (off := 0) (n := List.length ([(toU8 y3_0)] : List UInt8)) (by kernel_rfl) (l := ([(toU8 y3_0)] : List UInt8)) flatU8_take rfl)) ?_
    refine Wy (.d (.lit (.string (toS ([(toU8 y3_0)] : List UInt8))))) [] (Omv rfl) ?_
    refine Walk.nil ?_
    refine Then.normal ?_
    refine AWP.ret ?_
    obtain rfl := Option.some.inj hm
    exact ret_i []
  refine AWP.seq ?_
  refine AWP.seq ?_
  refine AWP.text ?_
  refine Wy (.d (.lit (.int .i64 (Int.tmod p0 256)))) [] (Omv rfl) ?_
  refine Wy (.d (.lit (.bool (decide ((Int.tmod p0 256) < 0))))) [] (Obn rfl (fun _ => hb_lss (k := .i64))) ?_
  refine Walk.nil ?_
  refine Then.normal ?_
  refine Amk 136 0 ⟨(tp 3 ((.d (.lit (.int .i64 (Int.tmod p0 256)))) :: (tp 3 ((.d (.lit (.bool (decide ((Int.tmod p0 256) < 0))))) :: (tp 6 []))))), [], 0⟩ ?_
  rcases tf_ (decide ((Int.tmod p0 256) < 0)) with hc7_2 | hc7_2
  · replace hm := cT hc7_2 hm
    refine AWP.if_ true (Eq.trans (by kernel_rfl) (lit_tf (b := decide ((Int.tmod p0 256) < 0)) hc7_2)) ?_
    refine AWP.text ?_
    refine Wy (.d (.lit (.int .i64 (Int.tmod p0 256)))) [] (Omv rfl) ?_
    refine Wy (.d (.lit (.int .i64 (IntKind.i64.wrap ((Int.tmod p0 256) + 256))))) [] (Obn rfl (fun _ => hb_add (k := .i64))) ?_
    refine Wy (.d (.lit (.int .i64 (IntKind.i64.wrap ((Int.tmod p0 256) + 256))))) [] (Omv rfl) ?_
    refine Walk.nil ?_
    refine Then.normal ?_
    exact AWP.weak (Weak.toK 8 0 0 []) (J0 ((IntKind.i64.wrap ((Int.tmod p0 256) + 256))) hm)
  · replace hm := cF hc7_2 hm
    refine AWP.if_ false (Eq.trans (by kernel_rfl) (lit_tf (b := decide ((Int.tmod p0 256) < 0)) hc7_2)) ?_
    refine AWP.skip ?_
    refine Then.normal ?_
    exact AWP.weak (Weak.toK 8 0 0 []) (J0 ((Int.tmod p0 256)) hm)
end Go.Proofs.Ytpacbldefdggjaa.K
