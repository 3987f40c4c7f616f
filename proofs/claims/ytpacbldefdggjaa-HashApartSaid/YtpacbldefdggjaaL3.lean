/- each function computes what its model says (3) -/
import Derived.Test.YtpacbldefdggjaaL2
namespace Go.Proofs.Ytpacbldefdggjaa.K
open Go.RowKit Go.Lib
set_option linter.unusedVariables false
set_option linter.unusedSimpArgs false

set_option maxRecDepth 20000 in
set_option maxHeartbeats 4000000 in
theorem ok_telltaleref04_Put (p0 : (List UInt8)) (p1 : GValue) (r : ((List UInt8) × Int)) (h : m_telltaleref04_Put p0 p1 = some r) : GCall Try.prog 25 [(.d (.sl (List.length p0) (flatD encU8 p0))), (.agg [(.d (byteD p1.Kind)), (.d (.lit (.int .i64 p1.N))), (.d (.lit (.int .u64 p1.Bits))), (.d (.lit (.string (toS p1.Text))))])] [] (.tup [(.own 0), (.d (.lit (.int .i64 r.2)))]) [(.arr 5 1 (List.length r.1) (flatD encU8 r.1))] := by
  refine GCall.of_body (n := 53) (rs := [(.tmp 4), (.tmp 5)]) Try.func25 rfl rfl rfl ?_
  refine Ato ⟨((.d (.sl (List.length p0) (flatD encU8 p0))) :: ((.agg [(.d (byteD p1.Kind)), (.d (.lit (.int .i64 p1.N))), (.d (.lit (.int .u64 p1.Bits))), (.d (.lit (.string (toS p1.Text))))]) :: (tu 51 []))), [], 0⟩ ?_
  have hm := h
  unfold m_telltaleref04_Put at hm
  refine AWP.seq ?_
  refine AWP.text ?_
  refine Wy (.loc 0 0) [(0, (.box [(.d (byteD p1.Kind)), (.d (.lit (.int .i64 p1.N))), (.d (.lit (.int .u64 p1.Bits))), (.d (.lit (.string (toS p1.Text))))]))] (Obx rfl) ?_
  refine Wy (.d .nil) [] (Omv rfl) ?_
  refine Wy (.d (.lit (.int .i64 0))) [] (Omv rfl) ?_
  refine Walk.nil ?_
  refine Then.normal ?_
  refine Amk 9 1 ⟨((.d (.sl (List.length p0) (flatD encU8 p0))) :: (tp 2 ((.loc 0 0) :: (tp 49 [])))), [(.box [(.d (byteD p1.Kind)), (.d (.lit (.int .i64 p1.N))), (.d (.lit (.int .u64 p1.Bits))), (.d (.lit (.string (toS p1.Text))))])], 0⟩ ?_
  refine AWP.seq ?_
  refine AWP.seq ?_
  refine AWP.text ?_
  refine Wy (.agg [(.d (byteD p1.Kind)), (.d (.lit (.int .i64 p1.N))), (.d (.lit (.int .u64 p1.Bits))), (.d (.lit (.string (toS p1.Text))))]) [] (Old rfl) ?_
  obtain ⟨r9_0, hr9_0, hm⟩ := bnd hm
  refine Wy (.d (.lit (.int .i64 r9_0))) [] (Ocf [] [] [] 0 (ok_telltaleref04_Check p1 r9_0 hr9_0) (fun a w => Try.call31 a w) rfl trivial) ?_
  refine Wy (.d (.lit (.int .i64 r9_0))) [] (Omv rfl) ?_
  refine Walk.nil ?_
  refine Then.normal ?_
  refine Amk 73 1 ⟨((.d (.sl (List.length p0) (flatD encU8 p0))) :: (tp 2 ((.loc 0 0) :: (tp 2 ((.d (.lit (.int .i64 r9_0))) :: (tp 46 [])))))), [(.box [(.d (byteD p1.Kind)), (.d (.lit (.int .i64 p1.N))), (.d (.lit (.int .u64 p1.Bits))), (.d (.lit (.string (toS p1.Text))))])], 0⟩ ?_
  refine AWP.seq ?_
  refine AWP.text ?_
  refine Wy (.d (.lit (.int .i64 r9_0))) [] (Omv rfl) ?_
  refine Wy (.d (.lit (.bool (decide (r9_0 ≠ 0))))) [] (Obn rfl (fun _ => hb_neq (k := .i64))) ?_
  refine Walk.nil ?_
  refine Then.normal ?_
  refine Amk 2121 1 ⟨((.d (.sl (List.length p0) (flatD encU8 p0))) :: (tp 2 ((.loc 0 0) :: (tp 2 ((.d (.lit (.int .i64 r9_0))) :: (tp 4 ((.d (.lit (.bool (decide (r9_0 ≠ 0))))) :: (tp 41 [])))))))), [(.box [(.d (byteD p1.Kind)), (.d (.lit (.int .i64 p1.N))), (.d (.lit (.int .u64 p1.Bits))), (.d (.lit (.string (toS p1.Text))))])], 0⟩ ?_
  rcases tf_ (decide (r9_0 ≠ 0)) with hc11_6 | hc11_6
  · replace hm := cT hc11_6 hm
    refine AWP.if_ true (Eq.trans (by kernel_rfl) (lit_tf (b := decide (r9_0 ≠ 0)) hc11_6)) ?_
    refine AWP.seq ?_
    refine AWP.text ?_
    refine Wy (.d (.lit (.int .i64 r9_0))) [] (Omv rfl) ?_
    refine Wy (.d .nil) [] (Omv rfl) ?_
    refine Wy (.d (.lit (.int .i64 r9_0))) [] (Omv rfl) ?_
    refine Walk.nil ?_
    refine Then.normal ?_
    refine Aow 4 5 1 ⟨((.d (.sl (List.length p0) (flatD encU8 p0))) :: (tp 2 ((.loc 0 0) :: ((.own 1) :: ((.d (.lit (.int .i64 r9_0))) :: ((.d (.lit (.int .i64 r9_0))) :: (tp 4 ((.d (.lit (.bool (decide (r9_0 ≠ 0))))) :: ((.d (.lit (.int .i64 r9_0))) :: (tp 40 [])))))))))), [(.box [(.d (byteD p1.Kind)), (.d (.lit (.int .i64 p1.N))), (.d (.lit (.int .u64 p1.Bits))), (.d (.lit (.string (toS p1.Text))))]), (.arr 5 1 (List.length ([] : List UInt8)) (flatD encU8 ([] : List UInt8)))], 0⟩ ?_
    refine AWP.ret ?_
    refine Then.ret ?_
    obtain rfl := Option.some.inj hm
    exact ret_i [1]
  · replace hm := cF hc11_6 hm
    refine AWP.if_ false (Eq.trans (by kernel_rfl) (lit_tf (b := decide (r9_0 ≠ 0)) hc11_6)) ?_
    refine AWP.skip ?_
    refine Then.normal ?_
    refine Amk 9 1 ⟨((.d (.sl (List.length p0) (flatD encU8 p0))) :: (tp 2 ((.loc 0 0) :: (tp 49 [])))), [(.box [(.d (byteD p1.Kind)), (.d (.lit (.int .i64 p1.N))), (.d (.lit (.int .u64 p1.Bits))), (.d (.lit (.string (toS p1.Text))))])], 0⟩ ?_
    refine AWP.seq ?_
    refine Adr ?_
    refine Wy (.own 1) [(1, (.arr 5 1 (List.length ([] : List UInt8)) (flatD encU8 ([] : List UInt8))))] (Obs rfl) ?_
    refine Wy (.d (.sl (List.length p0) (flatD encU8 p0))) [] (Omv rfl) ?_
    obtain ⟨a15_1, ha15_1, hm⟩ := bnd hm; obtain ⟨ha15_1e, ha15_1l⟩ := app_some ha15_1
    refine Wy (.own 2) [(1, .gone), (2, (.arr 5 1 (List.length a15_1) (flatD encU8 a15_1)))] (Oap rfl elemOK_39 encU8_len ha15_1e ha15_1l) ?_
    refine Wy (.loc 0 0) [] (Ofa rfl) ?_
    refine Wy (.d (byteD p1.Kind)) [] (Old rfl) ?_
    refine Wy (.own 3) [(3, (.arr 5 1 (List.length ([p1.Kind] : List UInt8)) (flatD encU8 ([p1.Kind] : List UInt8))))] (Obs rfl) ?_
    obtain ⟨a19_1, ha19_1, hm⟩ := bnd hm; obtain ⟨ha19_1e, ha19_1l⟩ := app_some ha19_1
    refine Wy (.own 4) [(2, .gone), (4, (.arr 5 1 (List.length a19_1) (flatD encU8 a19_1)))] (Oap rfl elemOK_39 encU8_len ha19_1e ha19_1l) ?_
    refine Wy (.own 4) [] (Omv rfl) ?_
    refine Wdr ?_
    refine Then.normal ?_
    refine Amk 136 17 ⟨(tp 3 ((.loc 0 0) :: (tp 3 ((.own 4) :: (tp 45 []))))), [(.box [(.d (byteD p1.Kind)), (.d (.lit (.int .i64 p1.N))), (.d (.lit (.int .u64 p1.Bits))), (.d (.lit (.string (toS p1.Text))))]), .gone, .gone, .gone, (.arr 5 1 (List.length a19_1) (flatD encU8 a19_1))], 0⟩ ?_
    refine AWP.seq ?_
    refine AWP.seq ?_
    refine AWP.text ?_
    refine Wy (.loc 0 0) [] (Ofa rfl) ?_
    refine Wy (.d (byteD p1.Kind)) [] (Old rfl) ?_
    refine Wy (.d (.lit (.bool (decide (((p1.Kind.toNat : Nat) : Int) = 1))))) [] (Ocs (by kernel_rfl) (op_bin rfl (a1 := .int .u8 ((p1.Kind.toNat : Nat) : Int)) (a2 := .int .u8 1) (by kernel_rfl) (by kernel_rfl) (fun _ => hb_eql))) ?_
    refine Walk.nil ?_
    refine Then.normal ?_
    refine Amk 4194440 17 ⟨(tp 3 ((.loc 0 0) :: (tp 3 ((.own 4) :: (tp 14 ((.d (.lit (.bool (decide (((p1.Kind.toNat : Nat) : Int) = 1))))) :: (tp 30 []))))))), [(.box [(.d (byteD p1.Kind)), (.d (.lit (.int .i64 p1.N))), (.d (.lit (.int .u64 p1.Bits))), (.d (.lit (.string (toS p1.Text))))]), .gone, .gone, .gone, (.arr 5 1 (List.length a19_1) (flatD encU8 a19_1))], 0⟩ ?_
    rcases tf_ (decide (((p1.Kind.toNat : Nat) : Int) = 1)) with hc22_7 | hc22_7
    · replace hm := cT hc22_7 hm
      refine AWP.if_ true (Eq.trans (by kernel_rfl) (lit_tf (b := decide (((p1.Kind.toNat : Nat) : Int) = 1)) hc22_7)) ?_
      refine AWP.seq ?_
      refine AWP.text ?_
      refine Wy (.own 4) [] (Omv rfl) ?_
      refine Wy (.loc 0 1) [] (Ofa rfl) ?_
      refine Wy (.d (.lit (.int .i64 p1.N))) [] (Old rfl) ?_
      obtain ⟨r26_2, hr26_2, hm⟩ := bnd hm
      refine Wy (.d (.lit (.int .u64 r26_2))) [] (Ocf [] [] [] 0 (ok_telltaleref02_Fold p1.N r26_2 hr26_2) (fun a w => Try.call33 a w) rfl trivial) ?_
      obtain ⟨r27_2, hr27_2, hm⟩ := bnd hm
      refine Wy (.own 5) [(5, (.arr 5 1 (List.length r27_2) (flatD encU8 r27_2)))] (Ocp [] [5] [4] 0 (ok_telltaleref02_Put a19_1 r26_2 r27_2 hr27_2) (⟨by simp [A.Plain, A.Plains, D.Plain, byteD], plain_cons (flat_plain encU8_plain) (plain_nil)⟩) (fun a w => Try.call32 a w) rfl trivial) ?_
      refine Wy (.own 5) [] (Omv rfl) ?_
      refine Wy (.d (.lit (.int .i64 0))) [] (Omv rfl) ?_
      refine Walk.nil ?_
      refine Then.normal ?_
      refine AWP.ret ?_
      refine Then.ret ?_
      obtain rfl := Option.some.inj hm
      exact ret_i [5]
    · replace hm := cF hc22_7 hm
      refine AWP.if_ false (Eq.trans (by kernel_rfl) (lit_tf (b := decide (((p1.Kind.toNat : Nat) : Int) = 1)) hc22_7)) ?_
      refine AWP.skip ?_
      refine Then.normal ?_
      refine Amk 136 17 ⟨(tp 3 ((.loc 0 0) :: (tp 3 ((.own 4) :: (tp 45 []))))), [(.box [(.d (byteD p1.Kind)), (.d (.lit (.int .i64 p1.N))), (.d (.lit (.int .u64 p1.Bits))), (.d (.lit (.string (toS p1.Text))))]), .gone, .gone, .gone, (.arr 5 1 (List.length a19_1) (flatD encU8 a19_1))], 0⟩ ?_
      refine AWP.seq ?_
      refine AWP.seq ?_
      refine AWP.text ?_
      refine Wy (.loc 0 0) [] (Ofa rfl) ?_
      refine Wy (.d (byteD p1.Kind)) [] (Old rfl) ?_
      refine Wy (.d (.lit (.bool (decide (((p1.Kind.toNat : Nat) : Int) = 2))))) [] (Ocs (by kernel_rfl) (op_bin rfl (a1 := .int .u8 ((p1.Kind.toNat : Nat) : Int)) (a2 := .int .u8 2) (by kernel_rfl) (by kernel_rfl) (fun _ => hb_eql))) ?_
      refine Walk.nil ?_
      refine Then.normal ?_
      refine Amk 1073741960 17 ⟨(tp 3 ((.loc 0 0) :: (tp 3 ((.own 4) :: (tp 22 ((.d (.lit (.bool (decide (((p1.Kind.toNat : Nat) : Int) = 2))))) :: (tp 22 []))))))), [(.box [(.d (byteD p1.Kind)), (.d (.lit (.int .i64 p1.N))), (.d (.lit (.int .u64 p1.Bits))), (.d (.lit (.string (toS p1.Text))))]), .gone, .gone, .gone, (.arr 5 1 (List.length a19_1) (flatD encU8 a19_1))], 0⟩ ?_
      rcases tf_ (decide (((p1.Kind.toNat : Nat) : Int) = 2)) with hc30_8 | hc30_8
      · replace hm := cT hc30_8 hm
        refine AWP.if_ true (Eq.trans (by kernel_rfl) (lit_tf (b := decide (((p1.Kind.toNat : Nat) : Int) = 2)) hc30_8)) ?_
        refine AWP.seq ?_
        refine AWP.text ?_
        refine Wy (.own 4) [] (Omv rfl) ?_
        refine Wy (.loc 0 1) [] (Ofa rfl) ?_
        refine Wy (.d (.lit (.int .i64 p1.N))) [] (Old rfl) ?_
        refine Wy (.d (byteD (toU8 p1.N))) [] (Ocs (lit_int (u8w _)) (op_convert rfl (a1 := .int .i64 p1.N) (by kernel_rfl) (run_conv (ds := .int .i64) (k' := .u8) (by kernel_rfl) (by kernel_rfl)))) ?_
        refine Wy (.own 5) [(5, (.arr 5 1 (List.length ([(toU8 p1.N)] : List UInt8)) (flatD encU8 ([(toU8 p1.N)] : List UInt8))))] (Obs rfl) ?_
        obtain ⟨a36_3, ha36_3, hm⟩ := bnd hm; obtain ⟨ha36_3e, ha36_3l⟩ := app_some ha36_3
        refine Wy (.own 6) [(4, .gone), (6, (.arr 5 1 (List.length a36_3) (flatD encU8 a36_3)))] (Oap rfl elemOK_39 encU8_len ha36_3e ha36_3l) ?_
        refine Wy (.own 6) [] (Omv rfl) ?_
        refine Wy (.d (.lit (.int .i64 0))) [] (Omv rfl) ?_
        refine Walk.nil ?_
        refine Then.normal ?_
        refine AWP.ret ?_
        refine Then.ret ?_
        obtain rfl := Option.some.inj hm
        exact ret_i [6]
      · replace hm := cF hc30_8 hm
        refine AWP.if_ false (Eq.trans (by kernel_rfl) (lit_tf (b := decide (((p1.Kind.toNat : Nat) : Int) = 2)) hc30_8)) ?_
        refine AWP.skip ?_
        refine Then.normal ?_
        refine Amk 136 17 ⟨(tp 3 ((.loc 0 0) :: (tp 3 ((.own 4) :: (tp 45 []))))), [(.box [(.d (byteD p1.Kind)), (.d (.lit (.int .i64 p1.N))), (.d (.lit (.int .u64 p1.Bits))), (.d (.lit (.string (toS p1.Text))))]), .gone, .gone, .gone, (.arr 5 1 (List.length a19_1) (flatD encU8 a19_1))], 0⟩ ?_
        refine AWP.seq ?_
        refine AWP.seq ?_
        refine AWP.text ?_
        refine Wy (.loc 0 0) [] (Ofa rfl) ?_
        refine Wy (.d (byteD p1.Kind)) [] (Old rfl) ?_
        refine Wy (.d (.lit (.bool (decide (((p1.Kind.toNat : Nat) : Int) = 3))))) [] (Ocs (by kernel_rfl) (op_bin rfl (a1 := .int .u8 ((p1.Kind.toNat : Nat) : Int)) (a2 := .int .u8 3) (by kernel_rfl) (by kernel_rfl) (fun _ => hb_eql))) ?_
        refine Walk.nil ?_
        refine Then.normal ?_
        refine Amk 549755814024 17 ⟨(tp 3 ((.loc 0 0) :: (tp 3 ((.own 4) :: (tp 31 ((.d (.lit (.bool (decide (((p1.Kind.toNat : Nat) : Int) = 3))))) :: (tp 13 []))))))), [(.box [(.d (byteD p1.Kind)), (.d (.lit (.int .i64 p1.N))), (.d (.lit (.int .u64 p1.Bits))), (.d (.lit (.string (toS p1.Text))))]), .gone, .gone, .gone, (.arr 5 1 (List.length a19_1) (flatD encU8 a19_1))], 0⟩ ?_
        rcases tf_ (decide (((p1.Kind.toNat : Nat) : Int) = 3)) with hc39_9 | hc39_9
        · replace hm := cT hc39_9 hm
          refine AWP.if_ true (Eq.trans (by kernel_rfl) (lit_tf (b := decide (((p1.Kind.toNat : Nat) : Int) = 3)) hc39_9)) ?_
          refine AWP.seq ?_
          refine AWP.text ?_
          refine Wy (.own 4) [] (Omv rfl) ?_
          refine Wy (.loc 0 2) [] (Ofa rfl) ?_
          refine Wy (.d (.lit (.int .u64 p1.Bits))) [] (Old rfl) ?_
          obtain ⟨r43_4, hr43_4, hm⟩ := bnd hm
          refine Wy (.own 5) [(5, (.arr 5 1 (List.length r43_4) (flatD encU8 r43_4)))] (Ocp [] [5] [4] 0 (ok_telltaleref01_Word a19_1 p1.Bits r43_4 hr43_4) (⟨by simp [A.Plain, A.Plains, D.Plain, byteD], plain_cons (flat_plain encU8_plain) (plain_nil)⟩) (fun a w => Try.call34 a w) rfl trivial) ?_
          refine Wy (.own 5) [] (Omv rfl) ?_
          refine Wy (.d (.lit (.int .i64 0))) [] (Omv rfl) ?_
          refine Walk.nil ?_
          refine Then.normal ?_
          refine AWP.ret ?_
          refine Then.ret ?_
          obtain rfl := Option.some.inj hm
          exact ret_i [5]
        · replace hm := cF hc39_9 hm
          refine AWP.if_ false (Eq.trans (by kernel_rfl) (lit_tf (b := decide (((p1.Kind.toNat : Nat) : Int) = 3)) hc39_9)) ?_
          refine AWP.skip ?_
          refine Then.normal ?_
          refine Amk 136 17 ⟨(tp 3 ((.loc 0 0) :: (tp 3 ((.own 4) :: (tp 45 []))))), [(.box [(.d (byteD p1.Kind)), (.d (.lit (.int .i64 p1.N))), (.d (.lit (.int .u64 p1.Bits))), (.d (.lit (.string (toS p1.Text))))]), .gone, .gone, .gone, (.arr 5 1 (List.length a19_1) (flatD encU8 a19_1))], 0⟩ ?_
          refine AWP.seq ?_
          refine Adr ?_
          refine Wy (.own 4) [] (Omv rfl) ?_
          refine Wy (.loc 0 3) [] (Ofa rfl) ?_
          refine Wy (.d (.lit (.string (toS p1.Text)))) [] (Old rfl) ?_
          refine Wy (.d (.lit (.int .i64 ((List.length p1.Text : Nat) : Int)))) [] (Oln rfl) ?_
          refine Wy (.d (.lit (.int .u64 (IntKind.u64.wrap ((List.length p1.Text : Nat) : Int))))) [] (Ocs (by kernel_rfl) (op_convert rfl (a1 := .int .i64 ((List.length p1.Text : Nat) : Int)) (by kernel_rfl) (run_conv (ds := .int .i64) (k' := .u64) (by kernel_rfl) (by kernel_rfl)))) ?_
          obtain ⟨r49_5, hr49_5, hm⟩ := bnd hm
          refine Wy (.own 5) [(5, (.arr 5 1 (List.length r49_5) (flatD encU8 r49_5)))] (Ocp [] [5] [4] 0 (ok_telltaleref02_Put a19_1 (IntKind.u64.wrap ((List.length p1.Text : Nat) : Int)) r49_5 hr49_5) (⟨by simp [A.Plain, A.Plains, D.Plain, byteD], plain_cons (flat_plain encU8_plain) (plain_nil)⟩) (fun a w => Try.call32 a w) rfl trivial) ?_
          refine Wy (.loc 0 3) [] (Ofa rfl) ?_
          refine Wy (.d (.lit (.string (toS p1.Text)))) [] (Old rfl) ?_
          obtain ⟨a52_5, ha52_5, hm⟩ := bnd hm; obtain ⟨ha52_5e, ha52_5l⟩ := app_some ha52_5
          refine Wy (.own 6) [(5, .gone), (6, (.arr 5 1 (List.length a52_5) (flatD encU8 a52_5)))] (OcB (op_appendStr rfl elemOK_39 (by kernel_rfl) (id := 5) (by kernel_rfl) (n := List.length r49_5) (xs := flatD encU8 r49_5) (by kernel_rfl) (str := toS p1.Text) (by kernel_rfl) (app_str ha52_5l) (by kernel_rfl) (by decide)) (bl_app (by rw [ha52_5e, List.length_append]; rfl) (by rw [ha52_5e, flatD_append, flatU8 p1.Text]; rfl))) ?_
          refine Wy (.own 6) [] (Omv rfl) ?_
          refine Wy (.d (.lit (.int .i64 0))) [] (Omv rfl) ?_
          refine Wdr ?_
          refine Then.normal ?_
          refine AWP.ret ?_
          obtain rfl := Option.some.inj hm
          exact ret_i [6]

set_option maxRecDepth 20000 in
set_option maxHeartbeats 4000000 in
theorem ok_telltaleref08_Key (p0 : Int) (p1 : GValue) (r : (List UInt8)) (h : m_telltaleref08_Key p0 p1 = some r) : GCall Try.prog 15 [(.d (.lit (.int .i64 p0))), (.agg [(.d (byteD p1.Kind)), (.d (.lit (.int .i64 p1.N))), (.d (.lit (.int .u64 p1.Bits))), (.d (.lit (.string (toS p1.Text))))])] [] (.d (.lit (.string (toS r)))) [] := by
  refine GCall.of_body (n := 19) (rs := [(.tmp 4)]) Try.func15 rfl rfl rfl ?_
  refine Ato ⟨((.d (.lit (.int .i64 p0))) :: ((.agg [(.d (byteD p1.Kind)), (.d (.lit (.int .i64 p1.N))), (.d (.lit (.int .u64 p1.Bits))), (.d (.lit (.string (toS p1.Text))))]) :: (tu 17 []))), [], 0⟩ ?_
  have hm := h
  unfold m_telltaleref08_Key at hm
  refine AWP.seq ?_
  refine AWP.text ?_
  refine Wy (.loc 0 0) [(0, (.box [(.d (byteD p1.Kind)), (.d (.lit (.int .i64 p1.N))), (.d (.lit (.int .u64 p1.Bits))), (.d (.lit (.string (toS p1.Text))))]))] (Obx rfl) ?_
  refine Wy (.d (.lit (.string (toS ([] : List UInt8))))) [] (Omv rfl) ?_
  refine Walk.nil ?_
  refine Then.normal ?_
  refine Amk 9 1 ⟨((.d (.lit (.int .i64 p0))) :: (tp 2 ((.loc 0 0) :: (tp 15 [])))), [(.box [(.d (byteD p1.Kind)), (.d (.lit (.int .i64 p1.N))), (.d (.lit (.int .u64 p1.Bits))), (.d (.lit (.string (toS p1.Text))))])], 0⟩ ?_
  refine AWP.seq ?_
  refine Adr ?_
  refine Wy (.d (.lit (.int .i64 p0))) [] (Omv rfl) ?_
  obtain ⟨r9_0, hr9_0, hm⟩ := bnd hm
  refine Wy (.d (.lit (.string (toS r9_0)))) [] (Ocf [] [] [] 0 (ok_telltaleref08_Bare p0 r9_0 hr9_0) (fun a w => Try.call17 a w) rfl trivial) ?_
  obtain ⟨hl10_0, hm⟩ := chk_some hm
  refine Wy (.d (.sl (List.length r9_0) (flatD encU8 r9_0))) [] (Ocs (lit_bytes) (op_bytes rfl (e := 5) (by kernel_rfl) (by kernel_rfl) (by kernel_rfl) (s := toS r9_0) (by kernel_rfl) (str_max hl10_0))) ?_
  refine Wy (.agg [(.d (byteD p1.Kind)), (.d (.lit (.int .i64 p1.N))), (.d (.lit (.int .u64 p1.Bits))), (.d (.lit (.string (toS p1.Text))))]) [] (Old rfl) ?_
  obtain ⟨r12_0, hr12_0, hm⟩ := bnd hm
  refine Wy (.tup [(.own 1), (.d (.lit (.int .i64 r12_0.2)))]) [(1, (.arr 5 1 (List.length r12_0.1) (flatD encU8 r12_0.1)))] (Ocf [] [1] [] 0 (ok_telltaleref04_Put r9_0 p1 r12_0 hr12_0) (fun a w => Try.call25 a w) rfl trivial) ?_
  refine Wy (.tup [(.own 1), (.d (.lit (.int .i64 r12_0.2)))]) [] (Omv rfl) ?_
  refine Wy (.own 1) [] (Oex rfl) ?_
  refine Wy (.d (.lit (.int .i64 r12_0.2))) [] (Oex rfl) ?_
  refine Wy (.own 1) [] (Omv rfl) ?_
  refine Wy (.d (.lit (.int .i64 r12_0.2))) [] (Omv rfl) ?_
  refine Wdr ?_
  refine Then.normal ?_
  refine Amk 96 2 ⟨(tp 5 ((.own 1) :: ((.d (.lit (.int .i64 r12_0.2))) :: (tp 12 [])))), [.gone, (.arr 5 1 (List.length r12_0.1) (flatD encU8 r12_0.1))], 0⟩ ?_
  refine AWP.seq ?_
  refine AWP.seq ?_
  refine AWP.text ?_
  refine Wy (.d (.lit (.int .i64 r12_0.2))) [] (Omv rfl) ?_
  refine Wy (.d (.lit (.bool (decide (r12_0.2 ≠ 0))))) [] (Obn rfl (fun _ => hb_neq (k := .i64))) ?_
  refine Walk.nil ?_
  refine Then.normal ?_
  refine Amk 65568 2 ⟨(tp 5 ((.own 1) :: (tp 10 ((.d (.lit (.bool (decide (r12_0.2 ≠ 0))))) :: (tp 2 []))))), [.gone, (.arr 5 1 (List.length r12_0.1) (flatD encU8 r12_0.1))], 0⟩ ?_
  rcases tf_ (decide (r12_0.2 ≠ 0)) with hc16_2 | hc16_2
  · replace hm := cT hc16_2 hm
    refine AWP.if_ true (Eq.trans (by kernel_rfl) (lit_tf (b := decide (r12_0.2 ≠ 0)) hc16_2)) ?_
    refine AWP.seq ?_
    refine AWP.text ?_
    refine Wy (.d (.lit (.string (toS ([] : List UInt8))))) [] (Omv rfl) ?_
    refine Walk.nil ?_
    refine Then.normal ?_
    refine AWP.ret ?_
    refine Then.ret ?_
    obtain rfl := Option.some.inj hm
    exact ret_i []
  · replace hm := cF hc16_2 hm
    refine AWP.if_ false (Eq.trans (by kernel_rfl) (lit_tf (b := decide (r12_0.2 ≠ 0)) hc16_2)) ?_
    refine AWP.skip ?_
    refine Then.normal ?_
    refine Amk 32 2 ⟨(tp 5 ((.own 1) :: (tp 13 []))), [.gone, (.arr 5 1 (List.length r12_0.1) (flatD encU8 r12_0.1))], 0⟩ ?_
    refine AWP.seq ?_
    refine AWP.text ?_
    refine Wy (.own 1) [] (Omv rfl) ?_
    refine Wy (.d (.lit (.string (toS r12_0.1)))) [] (Ocs (by kernel_rfl) (op_str rfl (e := 5) (by kernel_rfl) (by kernel_rfl) (by kernel_rfl) (y := (.own 1)) (by kernel_rfl) (ds := flatD encU8 r12_0.1) (off := 0) (n := List.length r12_0.1) (by kernel_rfl) (l := r12_0.1) flatU8_take rfl)) ?_
    refine Wy (.d (.lit (.string (toS r12_0.1)))) [] (Omv rfl) ?_
    refine Walk.nil ?_
    refine Then.normal ?_
    refine AWP.ret ?_
    obtain rfl := Option.some.inj hm
    exact ret_i []

set_option maxRecDepth 20000 in
set_option maxHeartbeats 4000000 in
theorem ok_telltaleref08_Pattern (p0 : (List UInt8)) (r : Int) (h : m_telltaleref08_Pattern p0 = some r) : GCall Try.prog 19 [(.d (.lit (.string (toS p0))))] [] (.d (.lit (.int .i64 r))) [] := by
  refine GCall.of_body (n := 8) (rs := [(.tmp 2)]) Try.func19 rfl rfl rfl ?_
  refine Ato ⟨((.d (.lit (.string (toS p0)))) :: (tu 7 [])), [], 0⟩ ?_
  have hm := h
  unfold m_telltaleref08_Pattern at hm
  refine AWP.seq ?_
  refine AWP.text ?_
  refine Wy (.d (.lit (.int .i64 0))) [] (Omv rfl) ?_
  refine Walk.nil ?_
  refine Then.normal ?_
  refine Amk 1 0 ⟨((.d (.lit (.string (toS p0)))) :: (tp 7 [])), [], 0⟩ ?_
  refine AWP.seq ?_
  refine AWP.seq ?_
  refine AWP.text ?_
  refine Wy (.d (.lit (.string (toS p0)))) [] (Omv rfl) ?_
  refine Wy (.d (.lit (.bool (decide (p0 = ([] : List UInt8)))))) [] (Ocs (lit_tf (by simp only [toS_inj, ne_eq])) (op_bin rfl (a1 := .string (toS p0)) (a2 := .string (toS ([] : List UInt8))) (by kernel_rfl) (by kernel_rfl) (fun _ => hb_seql))) ?_
  refine Walk.nil ?_
  refine Then.normal ?_
  refine Amk 17 0 ⟨((.d (.lit (.string (toS p0)))) :: (tp 3 ((.d (.lit (.bool (decide (p0 = ([] : List UInt8)))))) :: (tp 3 [])))), [], 0⟩ ?_
  rcases tf_ (decide (p0 = ([] : List UInt8))) with hc4_1 | hc4_1
  · replace hm := cT hc4_1 hm
    refine AWP.if_ true (Eq.trans (by kernel_rfl) (lit_tf (b := decide (p0 = ([] : List UInt8))) hc4_1)) ?_
    refine AWP.seq ?_
    refine AWP.text ?_
    refine Wy (.d (.lit (.int .i64 (-1)))) [] (Omv rfl) ?_
    refine Walk.nil ?_
    refine Then.normal ?_
    refine AWP.ret ?_
    refine Then.ret ?_
    obtain rfl := Option.some.inj hm
    exact ret_i []
  · replace hm := cF hc4_1 hm
    refine AWP.if_ false (Eq.trans (by kernel_rfl) (lit_tf (b := decide (p0 = ([] : List UInt8))) hc4_1)) ?_
    refine AWP.skip ?_
    refine Then.normal ?_
    refine Amk 1 0 ⟨((.d (.lit (.string (toS p0)))) :: (tp 7 [])), [], 0⟩ ?_
    refine AWP.seq ?_
    refine AWP.text ?_
    refine Wy (.d (.lit (.string (toS p0)))) [] (Omv rfl) ?_
    obtain ⟨x6_0, hx6_0, hm⟩ := bnd hm
    obtain ⟨hx6_0i, hx6_0g⟩ := geti_some hx6_0
    refine Wy (.d (byteD x6_0)) [] (Ocs (by kernel_rfl) (op_index_str rfl (by kernel_rfl) (s := toS p0) (by kernel_rfl) (k := .i64) (iv := 0) (by kernel_rfl) (i := (Int.toNat 0)) (hx6_0i) (b := x6_0) (hx6_0g))) ?_
    refine Wy (.d (.lit (.int .i64 ((x6_0.toNat : Nat) : Int)))) [] (Ocs (lit_int (wrap_of_u8 (by decide) _)) (op_convert rfl (a1 := .int .u8 ((x6_0.toNat : Nat) : Int)) (by kernel_rfl) (run_conv (ds := .int .u8) (k' := .i64) (by kernel_rfl) (by kernel_rfl)))) ?_
    refine Wy (.d (.lit (.int .i64 ((x6_0.toNat : Nat) : Int)))) [] (Omv rfl) ?_
    refine Walk.nil ?_
    refine Then.normal ?_
    refine AWP.ret ?_
    obtain rfl := Option.some.inj hm
    exact ret_i []

set_option maxRecDepth 20000 in
set_option maxHeartbeats 4000000 in
theorem ok_telltaleref08_Worker (p0 : (List UInt8)) (p1 : Int) (r : Int) (h : m_telltaleref08_Worker p0 p1 = some r) : GCall Try.prog 21 [(.d (.lit (.string (toS p0)))), (.d (.lit (.int .i64 p1)))] [] (.d (.lit (.int .i64 r))) [] := by
  refine GCall.of_body (n := 14) (rs := [(.tmp 4)]) Try.func21 rfl rfl rfl ?_
  refine Ato ⟨((.d (.lit (.string (toS p0)))) :: ((.d (.lit (.int .i64 p1))) :: (tu 12 []))), [], 0⟩ ?_
  have hm := h
  unfold m_telltaleref08_Worker at hm
  refine AWP.seq ?_
  refine AWP.text ?_
  refine Wy (.d (.lit (.int .i64 0))) [] (Omv rfl) ?_
  refine Walk.nil ?_
  refine Then.normal ?_
  refine Amk 3 0 ⟨((.d (.lit (.string (toS p0)))) :: ((.d (.lit (.int .i64 p1))) :: (tp 12 []))), [], 0⟩ ?_
  refine AWP.seq ?_
  refine AWP.seq ?_
  refine AWP.text ?_
  refine Wy (.d (.lit (.int .i64 p1))) [] (Omv rfl) ?_
  refine Wy (.d (.lit (.bool (decide (p1 < 1))))) [] (Obn rfl (fun _ => hb_lss (k := .i64))) ?_
  refine Walk.nil ?_
  refine Then.normal ?_
  refine Amk 67 0 ⟨((.d (.lit (.string (toS p0)))) :: ((.d (.lit (.int .i64 p1))) :: (tp 4 ((.d (.lit (.bool (decide (p1 < 1))))) :: (tp 7 []))))), [], 0⟩ ?_
  rcases tf_ (decide (p1 < 1)) with hc6_1 | hc6_1
  · replace hm := cT hc6_1 hm
    refine AWP.if_ true (Eq.trans (by kernel_rfl) (lit_tf (b := decide (p1 < 1)) hc6_1)) ?_
    refine AWP.seq ?_
    refine AWP.text ?_
    refine Wy (.d (.lit (.int .i64 0))) [] (Omv rfl) ?_
    refine Walk.nil ?_
    refine Then.normal ?_
    refine AWP.ret ?_
    refine Then.ret ?_
    obtain rfl := Option.some.inj hm
    exact ret_i []
  · replace hm := cF hc6_1 hm
    refine AWP.if_ false (Eq.trans (by kernel_rfl) (lit_tf (b := decide (p1 < 1)) hc6_1)) ?_
    refine AWP.skip ?_
    refine Then.normal ?_
    refine Amk 3 0 ⟨((.d (.lit (.string (toS p0)))) :: ((.d (.lit (.int .i64 p1))) :: (tp 12 []))), [], 0⟩ ?_
    refine AWP.seq ?_
    refine AWP.text ?_
    refine Wy (.d (.lit (.string (toS p0)))) [] (Omv rfl) ?_
    obtain ⟨r8_0, hr8_0, hm⟩ := bnd hm
    refine Wy (.d (.lit (.int .u64 r8_0))) [] (Ocf [] [] [] 0 (ok_telltaleref08_Add 14695981039346656037 p0 r8_0 hr8_0) (fun a w => Try.call9 a w) rfl trivial) ?_
    obtain ⟨r9_0, hr9_0, hm⟩ := bnd hm
    refine Wy (.d (.lit (.int .u64 r9_0))) [] (Ocf [] [] [] 0 (ok_telltaleref08_Mix r8_0 r9_0 hr9_0) (fun a w => Try.call12 a w) rfl trivial) ?_
    refine Wy (.d (.lit (.int .i64 p1))) [] (Omv rfl) ?_
    refine Wy (.d (.lit (.int .u64 (IntKind.u64.wrap p1)))) [] (Ocs (by kernel_rfl) (op_convert rfl (a1 := .int .i64 p1) (by kernel_rfl) (run_conv (ds := .int .i64) (k' := .u64) (by kernel_rfl) (by kernel_rfl)))) ?_
    obtain ⟨hd12_0, hm⟩ := chk_some hm
    refine Wy (.d (.lit (.int .u64 (Int.tmod r9_0 (IntKind.u64.wrap p1))))) [] (Ocs (by kernel_rfl) (op_bin rfl (a1 := .int .u64 r9_0) (a2 := .int .u64 (IntKind.u64.wrap p1)) (by kernel_rfl) (by kernel_rfl) (fun _ => hb_rem hd12_0))) ?_
    refine Wy (.d (.lit (.int .i64 (IntKind.i64.wrap (Int.tmod r9_0 (IntKind.u64.wrap p1)))))) [] (Ocs (by kernel_rfl) (op_convert rfl (a1 := .int .u64 (Int.tmod r9_0 (IntKind.u64.wrap p1))) (by kernel_rfl) (run_conv (ds := .int .u64) (k' := .i64) (by kernel_rfl) (by kernel_rfl)))) ?_
    refine Wy (.d (.lit (.int .i64 (IntKind.i64.wrap (Int.tmod r9_0 (IntKind.u64.wrap p1)))))) [] (Omv rfl) ?_
    refine Walk.nil ?_
    refine Then.normal ?_
    refine AWP.ret ?_
    obtain rfl := Option.some.inj hm
    exact ret_i []

set_option maxRecDepth 20000 in
set_option maxHeartbeats 4000000 in
theorem ok_telltalelaw08_HashKeys (p0 : GArr2_Int) (p1 : GValue) (p2 : (List UInt8)) (r : Bool) (h : m_telltalelaw08_HashKeys p0 p1 p2 = some r) : GCall Try.prog 4 [(.agg [(.d (.lit (.int .i64 p0.a0))), (.d (.lit (.int .i64 p0.a1)))]), (.agg [(.d (byteD p1.Kind)), (.d (.lit (.int .i64 p1.N))), (.d (.lit (.int .u64 p1.Bits))), (.d (.lit (.string (toS p1.Text))))]), (.d (.lit (.string (toS p2))))] [] (.d (.lit (.bool r))) [] := by
  refine GCall.of_body (n := 55) (rs := [(.tmp 6)]) Try.func4 rfl rfl rfl ?_
  refine Ato ⟨((.agg [(.d (.lit (.int .i64 p0.a0))), (.d (.lit (.int .i64 p0.a1)))]) :: ((.agg [(.d (byteD p1.Kind)), (.d (.lit (.int .i64 p1.N))), (.d (.lit (.int .u64 p1.Bits))), (.d (.lit (.string (toS p1.Text))))]) :: ((.d (.lit (.string (toS p2)))) :: (tu 52 [])))), [], 0⟩ ?_
  have hm := h
  unfold m_telltalelaw08_HashKeys at hm
  refine AWP.seq ?_
  refine AWP.text ?_
  refine Wy (.loc 0 0) [(0, (.box [(.d (.lit (.int .i64 p0.a0))), (.d (.lit (.int .i64 p0.a1)))]))] (Obx rfl) ?_
  refine Wy (.loc 1 0) [(1, (.box [(.d (byteD p1.Kind)), (.d (.lit (.int .i64 p1.N))), (.d (.lit (.int .u64 p1.Bits))), (.d (.lit (.string (toS p1.Text))))]))] (Obx rfl) ?_
  refine Wy (.d (.lit (.bool false))) [] (Omv rfl) ?_
  refine Walk.nil ?_
  refine Then.normal ?_
  refine Amk 28 3 ⟨(tp 2 ((.d (.lit (.string (toS p2)))) :: ((.loc 0 0) :: ((.loc 1 0) :: (tp 50 []))))), [(.box [(.d (.lit (.int .i64 p0.a0))), (.d (.lit (.int .i64 p0.a1)))]), (.box [(.d (byteD p1.Kind)), (.d (.lit (.int .i64 p1.N))), (.d (.lit (.int .u64 p1.Bits))), (.d (.lit (.string (toS p1.Text))))])], 0⟩ ?_
  refine AWP.seq ?_
  refine AWP.seq ?_
  refine AWP.text ?_
  refine Wy (.agg [(.d (byteD p1.Kind)), (.d (.lit (.int .i64 p1.N))), (.d (.lit (.int .u64 p1.Bits))), (.d (.lit (.string (toS p1.Text))))]) [] (Old rfl) ?_
  obtain ⟨r8_0, hr8_0, hm⟩ := bnd hm
  refine Wy (.d (.lit (.int .i64 r8_0))) [] (Ocf [] [] [] 0 (ok_telltalelaw04_Small p1 r8_0 hr8_0) (fun a w => Try.call13 a w) rfl trivial) ?_
  refine Wy (.d (.lit (.bool (decide ((0 : Int) < r8_0))))) [] (Obn rfl (fun _ => hb_gtr (k := .i64))) ?_
  rcases tf_ (decide ((0 : Int) < r8_0)) with hq10_0 | hq10_0
  · replace hm := cT hq10_0 hm
    refine Wy (.d (.lit (.bool true))) [] (Ocs (lit_tf (b := decide ((0 : Int) < r8_0)) hq10_0) (Omv rfl)) ?_
    refine Wn ?_
    refine Wn ?_
    refine Wn ?_
    refine Wy (.d (.lit (.bool true))) [] (OpT rfl) ?_
    refine Walk.nil ?_
    refine Then.normal ?_
    refine Amk 16412 3 ⟨(tp 2 ((.d (.lit (.string (toS p2)))) :: ((.loc 0 0) :: ((.loc 1 0) :: (tp 9 ((.d (.lit (.bool true))) :: (tp 40 []))))))), [(.box [(.d (.lit (.int .i64 p0.a0))), (.d (.lit (.int .i64 p0.a1)))]), (.box [(.d (byteD p1.Kind)), (.d (.lit (.int .i64 p1.N))), (.d (.lit (.int .u64 p1.Bits))), (.d (.lit (.string (toS p1.Text))))])], 0⟩ ?_
    refine AWP.if_ true (by kernel_rfl) ?_
    refine AWP.seq ?_
    refine AWP.text ?_
    obtain ⟨r15_1, hr15_1, hm⟩ := bnd hm
    refine Wy (.d (.lit (.bool r15_1))) [] (Ocf [] [] [] 0 (ok_telltalelaw08_awake  r15_1 hr15_1) (fun a w => Try.call7 a w) rfl trivial) ?_
    refine Wy (.d (.lit (.bool r15_1))) [] (Omv rfl) ?_
    refine Walk.nil ?_
    refine Then.normal ?_
    refine AWP.ret ?_
    refine Then.ret ?_
    obtain rfl := Option.some.inj hm
    exact ret_i []
  · replace hm := cF hq10_0 hm
    refine Wy (.d (.lit (.bool false))) [] (Ocs (lit_tf (b := decide ((0 : Int) < r8_0)) hq10_0) (Omv rfl)) ?_
    refine Wy (.d (.lit (.string (toS p2)))) [] (Omv rfl) ?_
    refine Wy (.d (.lit (.int .i64 ((List.length p2 : Nat) : Int)))) [] (Oln rfl) ?_
    refine Wy (.d (.lit (.bool (decide ((100 : Int) < ((List.length p2 : Nat) : Int)))))) [] (Obn rfl (fun _ => hb_gtr (k := .i64))) ?_
    refine Wy (.d (.lit (.bool (decide ((100 : Int) < ((List.length p2 : Nat) : Int)))))) [] (OpF rfl) ?_
    refine Walk.nil ?_
    refine Then.normal ?_
    refine Amk 16412 3 ⟨(tp 2 ((.d (.lit (.string (toS p2)))) :: ((.loc 0 0) :: ((.loc 1 0) :: (tp 9 ((.d (.lit (.bool (decide ((100 : Int) < ((List.length p2 : Nat) : Int)))))) :: (tp 40 []))))))), [(.box [(.d (.lit (.int .i64 p0.a0))), (.d (.lit (.int .i64 p0.a1)))]), (.box [(.d (byteD p1.Kind)), (.d (.lit (.int .i64 p1.N))), (.d (.lit (.int .u64 p1.Bits))), (.d (.lit (.string (toS p1.Text))))])], 0⟩ ?_
    rcases tf_ (decide ((100 : Int) < ((List.length p2 : Nat) : Int))) with hc14_4 | hc14_4
    · replace hm := cT hc14_4 hm
      refine AWP.if_ true (Eq.trans (by kernel_rfl) (lit_tf (b := decide ((100 : Int) < ((List.length p2 : Nat) : Int))) hc14_4)) ?_
      refine AWP.seq ?_
      refine AWP.text ?_
      obtain ⟨r15_2, hr15_2, hm⟩ := bnd hm
      refine Wy (.d (.lit (.bool r15_2))) [] (Ocf [] [] [] 0 (ok_telltalelaw08_awake  r15_2 hr15_2) (fun a w => Try.call7 a w) rfl trivial) ?_
      refine Wy (.d (.lit (.bool r15_2))) [] (Omv rfl) ?_
      refine Walk.nil ?_
      refine Then.normal ?_
      refine AWP.ret ?_
      refine Then.ret ?_
      obtain rfl := Option.some.inj hm
      exact ret_i []
    · replace hm := cF hc14_4 hm
      refine AWP.if_ false (Eq.trans (by kernel_rfl) (lit_tf (b := decide ((100 : Int) < ((List.length p2 : Nat) : Int))) hc14_4)) ?_
      refine AWP.skip ?_
      refine Then.normal ?_
      refine Amk 28 3 ⟨(tp 2 ((.d (.lit (.string (toS p2)))) :: ((.loc 0 0) :: ((.loc 1 0) :: (tp 50 []))))), [(.box [(.d (.lit (.int .i64 p0.a0))), (.d (.lit (.int .i64 p0.a1)))]), (.box [(.d (byteD p1.Kind)), (.d (.lit (.int .i64 p1.N))), (.d (.lit (.int .u64 p1.Bits))), (.d (.lit (.string (toS p1.Text))))])], 0⟩ ?_
      refine AWP.seq ?_
      refine Adr ?_
      refine Wy (.loc 0 0) [] (Ocs (by kernel_rfl) (op_iaddr_arr rfl (n := 2) (sz := 1) (y := (.loc 0 0)) (by kernel_rfl) (by kernel_rfl) (by kernel_rfl) (k := .i64) (iv := 0) (by kernel_rfl) (i := 0) (by rfl) (by decide))) ?_
      refine Wy (.d (.lit (.int .i64 p0.a0))) [] (Old rfl) ?_
      refine Wy (.agg [(.d (byteD p1.Kind)), (.d (.lit (.int .i64 p1.N))), (.d (.lit (.int .u64 p1.Bits))), (.d (.lit (.string (toS p1.Text))))]) [] (Old rfl) ?_
      obtain ⟨r19_3, hr19_3, hm⟩ := bnd hm
      refine Wy (.d (.lit (.string (toS r19_3)))) [] (Ocf [] [] [] 0 (ok_hash_Key_m2 p0.a0 p1 r19_3 hr19_3) (fun a w => Try.call14 a w) rfl trivial) ?_
      refine Wy (.loc 0 0) [] (Ocs (by kernel_rfl) (op_iaddr_arr rfl (n := 2) (sz := 1) (y := (.loc 0 0)) (by kernel_rfl) (by kernel_rfl) (by kernel_rfl) (k := .i64) (iv := 0) (by kernel_rfl) (i := 0) (by rfl) (by decide))) ?_
      refine Wy (.d (.lit (.int .i64 p0.a0))) [] (Old rfl) ?_
      refine Wy (.agg [(.d (byteD p1.Kind)), (.d (.lit (.int .i64 p1.N))), (.d (.lit (.int .u64 p1.Bits))), (.d (.lit (.string (toS p1.Text))))]) [] (Old rfl) ?_
      obtain ⟨r23_3, hr23_3, hm⟩ := bnd hm
      refine Wy (.d (.lit (.string (toS r23_3)))) [] (Ocf [] [] [] 0 (ok_telltaleref08_Key p0.a0 p1 r23_3 hr23_3) (fun a w => Try.call15 a w) rfl trivial) ?_
      refine Wy (.d (.lit (.bool (decide (r19_3 = r23_3))))) [] (Ocs (lit_tf (by simp only [toS_inj, ne_eq])) (op_bin rfl (a1 := .string (toS r19_3)) (a2 := .string (toS r23_3)) (by kernel_rfl) (by kernel_rfl) (fun _ => hb_seql))) ?_
      rcases tf_ (decide (r19_3 = r23_3)) with hq25_3 | hq25_3
      · replace hm := cT hq25_3 hm
        refine Wy (.d (.lit (.bool true))) [] (Ocs (lit_tf (b := decide (r19_3 = r23_3)) hq25_3) (Omv rfl)) ?_
        refine Wy (.loc 0 0) [] (Ocs (by kernel_rfl) (op_iaddr_arr rfl (n := 2) (sz := 1) (y := (.loc 0 0)) (by kernel_rfl) (by kernel_rfl) (by kernel_rfl) (k := .i64) (iv := 0) (by kernel_rfl) (i := 0) (by rfl) (by decide))) ?_
        refine Wy (.d (.lit (.int .i64 p0.a0))) [] (Old rfl) ?_
        obtain ⟨r28_3, hr28_3, hm⟩ := bnd hm
        refine Wy (.d (.lit (.string (toS r28_3)))) [] (Ocf [] [] [] 0 (ok_hash_Bare p0.a0 r28_3 hr28_3) (fun a w => Try.call16 a w) rfl trivial) ?_
        refine Wy (.loc 0 0) [] (Ocs (by kernel_rfl) (op_iaddr_arr rfl (n := 2) (sz := 1) (y := (.loc 0 0)) (by kernel_rfl) (by kernel_rfl) (by kernel_rfl) (k := .i64) (iv := 0) (by kernel_rfl) (i := 0) (by rfl) (by decide))) ?_
        refine Wy (.d (.lit (.int .i64 p0.a0))) [] (Old rfl) ?_
        obtain ⟨r31_3, hr31_3, hm⟩ := bnd hm
        refine Wy (.d (.lit (.string (toS r31_3)))) [] (Ocf [] [] [] 0 (ok_telltaleref08_Bare p0.a0 r31_3 hr31_3) (fun a w => Try.call17 a w) rfl trivial) ?_
        refine Wy (.d (.lit (.bool (decide (r28_3 = r31_3))))) [] (Ocs (lit_tf (by simp only [toS_inj, ne_eq])) (op_bin rfl (a1 := .string (toS r28_3)) (a2 := .string (toS r31_3)) (by kernel_rfl) (by kernel_rfl) (fun _ => hb_seql))) ?_
        refine Wy (.d (.lit (.bool (decide (r28_3 = r31_3))))) [] (OpT rfl) ?_
        rcases tf_ (decide (r28_3 = r31_3)) with hq34_3 | hq34_3
        · replace hm := cT hq34_3 hm
          refine Wy (.d (.lit (.bool true))) [] (Ocs (lit_tf (b := decide (r28_3 = r31_3)) hq34_3) (Omv rfl)) ?_
          refine Wy (.d (.lit (.string (toS p2)))) [] (Omv rfl) ?_
          obtain ⟨r36_3, hr36_3, hm⟩ := bnd hm
          refine Wy (.d (.lit (.int .i64 r36_3))) [] (Ocf [] [] [] 0 (ok_hash_Pattern p2 r36_3 hr36_3) (fun a w => Try.call18 a w) rfl trivial) ?_
          refine Wy (.d (.lit (.string (toS p2)))) [] (Omv rfl) ?_
          obtain ⟨r38_3, hr38_3, hm⟩ := bnd hm
          refine Wy (.d (.lit (.int .i64 r38_3))) [] (Ocf [] [] [] 0 (ok_telltaleref08_Pattern p2 r38_3 hr38_3) (fun a w => Try.call19 a w) rfl trivial) ?_
          refine Wy (.d (.lit (.bool (decide (r36_3 = r38_3))))) [] (Obn rfl (fun _ => hb_eql (k := .i64))) ?_
          refine Wy (.d (.lit (.bool (decide (r36_3 = r38_3))))) [] (OpT rfl) ?_
          rcases tf_ (decide (r36_3 = r38_3)) with hq41_3 | hq41_3
          · replace hm := cT hq41_3 hm
            refine Wy (.d (.lit (.bool true))) [] (Ocs (lit_tf (b := decide (r36_3 = r38_3)) hq41_3) (Omv rfl)) ?_
            refine Wy (.d (.lit (.string (toS p2)))) [] (Omv rfl) ?_
            refine Wy (.loc 0 1) [] (Ocs (by kernel_rfl) (op_iaddr_arr rfl (n := 2) (sz := 1) (y := (.loc 0 0)) (by kernel_rfl) (by kernel_rfl) (by kernel_rfl) (k := .i64) (iv := 1) (by kernel_rfl) (i := 1) (by rfl) (by decide))) ?_
            refine Wy (.d (.lit (.int .i64 p0.a1))) [] (Old rfl) ?_
            obtain ⟨r45_3, hr45_3, hm⟩ := bnd hm
            refine Wy (.d (.lit (.int .i64 r45_3))) [] (Ocf [] [] [] 0 (ok_hash_Worker p2 p0.a1 r45_3 hr45_3) (fun a w => Try.call20 a w) rfl trivial) ?_
            refine Wy (.d (.lit (.string (toS p2)))) [] (Omv rfl) ?_
            refine Wy (.loc 0 1) [] (Ocs (by kernel_rfl) (op_iaddr_arr rfl (n := 2) (sz := 1) (y := (.loc 0 0)) (by kernel_rfl) (by kernel_rfl) (by kernel_rfl) (k := .i64) (iv := 1) (by kernel_rfl) (i := 1) (by rfl) (by decide))) ?_
            refine Wy (.d (.lit (.int .i64 p0.a1))) [] (Old rfl) ?_
            obtain ⟨r49_3, hr49_3, hm⟩ := bnd hm
            refine Wy (.d (.lit (.int .i64 r49_3))) [] (Ocf [] [] [] 0 (ok_telltaleref08_Worker p2 p0.a1 r49_3 hr49_3) (fun a w => Try.call21 a w) rfl trivial) ?_
            refine Wy (.d (.lit (.bool (decide (r45_3 = r49_3))))) [] (Obn rfl (fun _ => hb_eql (k := .i64))) ?_
            refine Wy (.d (.lit (.bool (decide (r45_3 = r49_3))))) [] (OpT rfl) ?_
            rcases tf_ (decide (r45_3 = r49_3)) with hq52_3 | hq52_3
            · replace hm := cT hq52_3 hm
              refine Wy (.d (.lit (.bool true))) [] (Ocs (lit_tf (b := decide (r45_3 = r49_3)) hq52_3) (Omv rfl)) ?_
              obtain ⟨r53_3, hr53_3, hm⟩ := bnd hm
              refine Wy (.d (.lit (.bool r53_3))) [] (Ocf [] [] [] 0 (ok_telltalelaw08_awake  r53_3 hr53_3) (fun a w => Try.call7 a w) rfl trivial) ?_
              refine Wy (.d (.lit (.bool r53_3))) [] (OpT rfl) ?_
              refine Wy (.d (.lit (.bool r53_3))) [] (Omv rfl) ?_
              refine Wdr ?_
              refine Then.normal ?_
              refine AWP.ret ?_
              obtain rfl := Option.some.inj hm
              exact ret_i []
            · replace hm := cF hq52_3 hm
              refine Wy (.d (.lit (.bool false))) [] (Ocs (lit_tf (b := decide (r45_3 = r49_3)) hq52_3) (Omv rfl)) ?_
              refine Wn ?_
              refine Wy (.d (.lit (.bool false))) [] (OpF rfl) ?_
              refine Wy (.d (.lit (.bool false))) [] (Omv rfl) ?_
              refine Wdr ?_
              refine Then.normal ?_
              refine AWP.ret ?_
              obtain rfl := Option.some.inj hm
              exact ret_i []
          · replace hm := cF hq41_3 hm
            refine Wy (.d (.lit (.bool false))) [] (Ocs (lit_tf (b := decide (r36_3 = r38_3)) hq41_3) (Omv rfl)) ?_
            refine Wn ?_
            refine Wn ?_
            refine Wn ?_
            refine Wn ?_
            refine Wn ?_
            refine Wn ?_
            refine Wn ?_
            refine Wn ?_
            refine Wn ?_
            refine Wy (.d (.lit (.bool false))) [] (OpF rfl) ?_
            refine Wy (.d (.lit (.bool false))) [] (Omv rfl) ?_
            refine Wn ?_
            refine Wy (.d (.lit (.bool false))) [] (OpF rfl) ?_
            refine Wy (.d (.lit (.bool false))) [] (Omv rfl) ?_
            refine Wdr ?_
            refine Then.normal ?_
            refine AWP.ret ?_
            obtain rfl := Option.some.inj hm
            exact ret_i []
        · replace hm := cF hq34_3 hm
          refine Wy (.d (.lit (.bool false))) [] (Ocs (lit_tf (b := decide (r28_3 = r31_3)) hq34_3) (Omv rfl)) ?_
          refine Wn ?_
          refine Wn ?_
          refine Wn ?_
          refine Wn ?_
          refine Wn ?_
          refine Wy (.d (.lit (.bool false))) [] (OpF rfl) ?_
          refine Wy (.d (.lit (.bool false))) [] (Omv rfl) ?_
          refine Wn ?_
          refine Wn ?_
          refine Wn ?_
          refine Wn ?_
          refine Wn ?_
          refine Wn ?_
          refine Wn ?_
          refine Wn ?_
          refine Wn ?_
          refine Wy (.d (.lit (.bool false))) [] (OpF rfl) ?_
          refine Wy (.d (.lit (.bool false))) [] (Omv rfl) ?_
          refine Wn ?_
          refine Wy (.d (.lit (.bool false))) [] (OpF rfl) ?_
          refine Wy (.d (.lit (.bool false))) [] (Omv rfl) ?_
          refine Wdr ?_
          refine Then.normal ?_
          refine AWP.ret ?_
          obtain rfl := Option.some.inj hm
          exact ret_i []
      · replace hm := cF hq25_3 hm
        refine Wy (.d (.lit (.bool false))) [] (Ocs (lit_tf (b := decide (r19_3 = r23_3)) hq25_3) (Omv rfl)) ?_
        refine Wn ?_
        refine Wn ?_
        refine Wn ?_
        refine Wn ?_
        refine Wn ?_
        refine Wn ?_
        refine Wn ?_
        refine Wy (.d (.lit (.bool false))) [] (OpF rfl) ?_
        refine Wy (.d (.lit (.bool false))) [] (Omv rfl) ?_
        refine Wn ?_
        refine Wn ?_
        refine Wn ?_
        refine Wn ?_
        refine Wn ?_
        refine Wy (.d (.lit (.bool false))) [] (OpF rfl) ?_
        refine Wy (.d (.lit (.bool false))) [] (Omv rfl) ?_
        refine Wn ?_
        refine Wn ?_
        refine Wn ?_
        refine Wn ?_
        refine Wn ?_
        refine Wn ?_
        refine Wn ?_
        refine Wn ?_
        refine Wn ?_
        refine Wy (.d (.lit (.bool false))) [] (OpF rfl) ?_
        refine Wy (.d (.lit (.bool false))) [] (Omv rfl) ?_
        refine Wn ?_
        refine Wy (.d (.lit (.bool false))) [] (OpF rfl) ?_
        refine Wy (.d (.lit (.bool false))) [] (Omv rfl) ?_
        refine Wdr ?_
        refine Then.normal ?_
        refine AWP.ret ?_
        obtain rfl := Option.some.inj hm
        exact ret_i []

set_option maxRecDepth 20000 in
set_option maxHeartbeats 4000000 in
theorem ok_telltalelaw08_HashApart (p0 : GArr2_UInt8) (p1 : GValue) (p2 : GValue) (r : Bool) (h : m_telltalelaw08_HashApart p0 p1 p2 = some r) : GCall Try.prog 6 [(.agg [(.d (byteD p0.a0)), (.d (byteD p0.a1))]), (.agg [(.d (byteD p1.Kind)), (.d (.lit (.int .i64 p1.N))), (.d (.lit (.int .u64 p1.Bits))), (.d (.lit (.string (toS p1.Text))))]), (.agg [(.d (byteD p2.Kind)), (.d (.lit (.int .i64 p2.N))), (.d (.lit (.int .u64 p2.Bits))), (.d (.lit (.string (toS p2.Text))))])] [] (.d (.lit (.bool r))) [] := by
  refine GCall.of_body (n := 84) (rs := [(.tmp 6)]) Try.func6 rfl rfl rfl ?_
  refine Ato ⟨((.agg [(.d (byteD p0.a0)), (.d (byteD p0.a1))]) :: ((.agg [(.d (byteD p1.Kind)), (.d (.lit (.int .i64 p1.N))), (.d (.lit (.int .u64 p1.Bits))), (.d (.lit (.string (toS p1.Text))))]) :: ((.agg [(.d (byteD p2.Kind)), (.d (.lit (.int .i64 p2.N))), (.d (.lit (.int .u64 p2.Bits))), (.d (.lit (.string (toS p2.Text))))]) :: (tu 81 [])))), [], 0⟩ ?_
  have hm := h
  unfold m_telltalelaw08_HashApart at hm
  refine AWP.seq ?_
  refine AWP.text ?_
  refine Wy (.loc 0 0) [(0, (.box [(.d (byteD p0.a0)), (.d (byteD p0.a1))]))] (Obx rfl) ?_
  refine Wy (.loc 1 0) [(1, (.box [(.d (byteD p1.Kind)), (.d (.lit (.int .i64 p1.N))), (.d (.lit (.int .u64 p1.Bits))), (.d (.lit (.string (toS p1.Text))))]))] (Obx rfl) ?_
  refine Wy (.loc 2 0) [(2, (.box [(.d (byteD p2.Kind)), (.d (.lit (.int .i64 p2.N))), (.d (.lit (.int .u64 p2.Bits))), (.d (.lit (.string (toS p2.Text))))]))] (Obx rfl) ?_
  refine Wy (.d (.lit (.bool false))) [] (Omv rfl) ?_
  refine Walk.nil ?_
  refine Then.normal ?_
  refine Amk 56 7 ⟨(tp 3 ((.loc 0 0) :: ((.loc 1 0) :: ((.loc 2 0) :: (tp 78 []))))), [(.box [(.d (byteD p0.a0)), (.d (byteD p0.a1))]), (.box [(.d (byteD p1.Kind)), (.d (.lit (.int .i64 p1.N))), (.d (.lit (.int .u64 p1.Bits))), (.d (.lit (.string (toS p1.Text))))]), (.box [(.d (byteD p2.Kind)), (.d (.lit (.int .i64 p2.N))), (.d (.lit (.int .u64 p2.Bits))), (.d (.lit (.string (toS p2.Text))))])], 0⟩ ?_
  refine AWP.seq ?_
  refine AWP.seq ?_
  refine AWP.text ?_
  refine Wy (.agg [(.d (byteD p1.Kind)), (.d (.lit (.int .i64 p1.N))), (.d (.lit (.int .u64 p1.Bits))), (.d (.lit (.string (toS p1.Text))))]) [] (Old rfl) ?_
  obtain ⟨r12_0, hr12_0, hm⟩ := bnd hm
  refine Wy (.d (.lit (.int .i64 r12_0))) [] (Ocf [] [] [] 0 (ok_telltalelaw04_Small p1 r12_0 hr12_0) (fun a w => Try.call13 a w) rfl trivial) ?_
  refine Wy (.d (.lit (.bool (decide ((0 : Int) < r12_0))))) [] (Obn rfl (fun _ => hb_gtr (k := .i64))) ?_
  rcases tf_ (decide ((0 : Int) < r12_0)) with hq14_0 | hq14_0
  · replace hm := cT hq14_0 hm
    refine Wy (.d (.lit (.bool true))) [] (Ocs (lit_tf (b := decide ((0 : Int) < r12_0)) hq14_0) (Omv rfl)) ?_
    refine Wn ?_
    refine Wn ?_
    refine Wn ?_
    refine Wy (.d (.lit (.bool true))) [] (OpT rfl) ?_
    refine Walk.nil ?_
    refine Then.normal ?_
    refine Amk 262200 7 ⟨(tp 3 ((.loc 0 0) :: ((.loc 1 0) :: ((.loc 2 0) :: (tp 12 ((.d (.lit (.bool true))) :: (tp 65 []))))))), [(.box [(.d (byteD p0.a0)), (.d (byteD p0.a1))]), (.box [(.d (byteD p1.Kind)), (.d (.lit (.int .i64 p1.N))), (.d (.lit (.int .u64 p1.Bits))), (.d (.lit (.string (toS p1.Text))))]), (.box [(.d (byteD p2.Kind)), (.d (.lit (.int .i64 p2.N))), (.d (.lit (.int .u64 p2.Bits))), (.d (.lit (.string (toS p2.Text))))])], 0⟩ ?_
    refine AWP.if_ true (by kernel_rfl) ?_
    refine AWP.seq ?_
    refine AWP.text ?_
    obtain ⟨r19_1, hr19_1, hm⟩ := bnd hm
    refine Wy (.d (.lit (.bool r19_1))) [] (Ocf [] [] [] 0 (ok_telltalelaw08_awake  r19_1 hr19_1) (fun a w => Try.call7 a w) rfl trivial) ?_
    refine Wy (.d (.lit (.bool r19_1))) [] (Omv rfl) ?_
    refine Walk.nil ?_
    refine Then.normal ?_
    refine AWP.ret ?_
    refine Then.ret ?_
    obtain rfl := Option.some.inj hm
    exact ret_i []
  · replace hm := cF hq14_0 hm
    refine Wy (.d (.lit (.bool false))) [] (Ocs (lit_tf (b := decide ((0 : Int) < r12_0)) hq14_0) (Omv rfl)) ?_
    refine Wy (.agg [(.d (byteD p2.Kind)), (.d (.lit (.int .i64 p2.N))), (.d (.lit (.int .u64 p2.Bits))), (.d (.lit (.string (toS p2.Text))))]) [] (Old rfl) ?_
    obtain ⟨r16_0, hr16_0, hm⟩ := bnd hm
    refine Wy (.d (.lit (.int .i64 r16_0))) [] (Ocf [] [] [] 0 (ok_telltalelaw04_Small p2 r16_0 hr16_0) (fun a w => Try.call13 a w) rfl trivial) ?_
    refine Wy (.d (.lit (.bool (decide ((0 : Int) < r16_0))))) [] (Obn rfl (fun _ => hb_gtr (k := .i64))) ?_
    refine Wy (.d (.lit (.bool (decide ((0 : Int) < r16_0))))) [] (OpF rfl) ?_
    refine Walk.nil ?_
    refine Then.normal ?_
    refine Amk 262200 7 ⟨(tp 3 ((.loc 0 0) :: ((.loc 1 0) :: ((.loc 2 0) :: (tp 12 ((.d (.lit (.bool (decide ((0 : Int) < r16_0))))) :: (tp 65 []))))))), [(.box [(.d (byteD p0.a0)), (.d (byteD p0.a1))]), (.box [(.d (byteD p1.Kind)), (.d (.lit (.int .i64 p1.N))), (.d (.lit (.int .u64 p1.Bits))), (.d (.lit (.string (toS p1.Text))))]), (.box [(.d (byteD p2.Kind)), (.d (.lit (.int .i64 p2.N))), (.d (.lit (.int .u64 p2.Bits))), (.d (.lit (.string (toS p2.Text))))])], 0⟩ ?_
    rcases tf_ (decide ((0 : Int) < r16_0)) with hc18_7 | hc18_7
    · replace hm := cT hc18_7 hm
      refine AWP.if_ true (Eq.trans (by kernel_rfl) (lit_tf (b := decide ((0 : Int) < r16_0)) hc18_7)) ?_
      refine AWP.seq ?_
      refine AWP.text ?_
      obtain ⟨r19_2, hr19_2, hm⟩ := bnd hm
      refine Wy (.d (.lit (.bool r19_2))) [] (Ocf [] [] [] 0 (ok_telltalelaw08_awake  r19_2 hr19_2) (fun a w => Try.call7 a w) rfl trivial) ?_
      refine Wy (.d (.lit (.bool r19_2))) [] (Omv rfl) ?_
      refine Walk.nil ?_
      refine Then.normal ?_
      refine AWP.ret ?_
      refine Then.ret ?_
      obtain rfl := Option.some.inj hm
      exact ret_i []
    · replace hm := cF hc18_7 hm
      refine AWP.if_ false (Eq.trans (by kernel_rfl) (lit_tf (b := decide ((0 : Int) < r16_0)) hc18_7)) ?_
      refine AWP.skip ?_
      refine Then.normal ?_
      refine Amk 56 7 ⟨(tp 3 ((.loc 0 0) :: ((.loc 1 0) :: ((.loc 2 0) :: (tp 78 []))))), [(.box [(.d (byteD p0.a0)), (.d (byteD p0.a1))]), (.box [(.d (byteD p1.Kind)), (.d (.lit (.int .i64 p1.N))), (.d (.lit (.int .u64 p1.Bits))), (.d (.lit (.string (toS p1.Text))))]), (.box [(.d (byteD p2.Kind)), (.d (.lit (.int .i64 p2.N))), (.d (.lit (.int .u64 p2.Bits))), (.d (.lit (.string (toS p2.Text))))])], 0⟩ ?_
      refine AWP.seq ?_
      refine Adr ?_
      refine Wy (.agg [(.d (byteD p1.Kind)), (.d (.lit (.int .i64 p1.N))), (.d (.lit (.int .u64 p1.Bits))), (.d (.lit (.string (toS p1.Text))))]) [] (Old rfl) ?_
      refine Wy (.agg [(.d (byteD p2.Kind)), (.d (.lit (.int .i64 p2.N))), (.d (.lit (.int .u64 p2.Bits))), (.d (.lit (.string (toS p2.Text))))]) [] (Old rfl) ?_
      refine Wy (.loc 3 0) [(3, (.box [(.d (byteD 0)), (.d (.lit (.int .i64 0))), (.d (.lit (.int .u64 0))), (.d (.lit (.string (toS ([] : List UInt8)))))]))] (Oal rfl) ?_
      refine Wy (.loc 4 0) [(4, (.box [(.d (byteD 0)), (.d (.lit (.int .i64 0))), (.d (.lit (.int .u64 0))), (.d (.lit (.string (toS ([] : List UInt8)))))]))] (Oal rfl) ?_
      refine Wy (.tup []) [(3, (.box [(.d (byteD p1.Kind)), (.d (.lit (.int .i64 p1.N))), (.d (.lit (.int .u64 p1.Bits))), (.d (.lit (.string (toS p1.Text))))]))] (Ost rfl) ?_
      refine Wy (.tup []) [(4, (.box [(.d (byteD p2.Kind)), (.d (.lit (.int .i64 p2.N))), (.d (.lit (.int .u64 p2.Bits))), (.d (.lit (.string (toS p2.Text))))]))] (Ost rfl) ?_
      refine Wdr ?_
      refine Then.normal ?_
      refine Amk 440 31 ⟨(tp 3 ((.loc 0 0) :: ((.loc 1 0) :: ((.loc 2 0) :: (tp 1 ((.loc 3 0) :: ((.loc 4 0) :: (tp 75 [])))))))), [(.box [(.d (byteD p0.a0)), (.d (byteD p0.a1))]), (.box [(.d (byteD p1.Kind)), (.d (.lit (.int .i64 p1.N))), (.d (.lit (.int .u64 p1.Bits))), (.d (.lit (.string (toS p1.Text))))]), (.box [(.d (byteD p2.Kind)), (.d (.lit (.int .i64 p2.N))), (.d (.lit (.int .u64 p2.Bits))), (.d (.lit (.string (toS p2.Text))))]), (.box [(.d (byteD p1.Kind)), (.d (.lit (.int .i64 p1.N))), (.d (.lit (.int .u64 p1.Bits))), (.d (.lit (.string (toS p1.Text))))]), (.box [(.d (byteD p2.Kind)), (.d (.lit (.int .i64 p2.N))), (.d (.lit (.int .u64 p2.Bits))), (.d (.lit (.string (toS p2.Text))))])], 0⟩ ?_
      refine AWP.seq ?_
      refine Adr ?_
      refine Wy (.loc 0 0) [] (Ocs (by kernel_rfl) (op_iaddr_arr rfl (n := 2) (sz := 1) (y := (.loc 0 0)) (by kernel_rfl) (by kernel_rfl) (by kernel_rfl) (k := .i64) (iv := 0) (by kernel_rfl) (i := 0) (by rfl) (by decide))) ?_
      refine Wy (.d (byteD p0.a0)) [] (Old rfl) ?_
      refine Wy (.d (.lit (.int .i64 ((p0.a0.toNat : Nat) : Int)))) [] (Ocs (lit_int (wrap_of_u8 (by decide) _)) (op_convert rfl (a1 := .int .u8 ((p0.a0.toNat : Nat) : Int)) (by kernel_rfl) (run_conv (ds := .int .u8) (k' := .i64) (by kernel_rfl) (by kernel_rfl)))) ?_
      refine Wy (.agg [(.d (byteD p1.Kind)), (.d (.lit (.int .i64 p1.N))), (.d (.lit (.int .u64 p1.Bits))), (.d (.lit (.string (toS p1.Text))))]) [] (Old rfl) ?_
      obtain ⟨r26_3, hr26_3, hm⟩ := bnd hm
      refine Wy (.d (.lit (.string (toS r26_3)))) [] (Ocf [] [] [] 0 (ok_hash_Key ((p0.a0.toNat : Nat) : Int) p1 r26_3 hr26_3) (fun a w => Try.call14 a w) rfl trivial) ?_
      refine Wy (.loc 0 1) [] (Ocs (by kernel_rfl) (op_iaddr_arr rfl (n := 2) (sz := 1) (y := (.loc 0 0)) (by kernel_rfl) (by kernel_rfl) (by kernel_rfl) (k := .i64) (iv := 1) (by kernel_rfl) (i := 1) (by rfl) (by decide))) ?_
      refine Wy (.d (byteD p0.a1)) [] (Old rfl) ?_
      refine Wy (.d (.lit (.int .i64 ((p0.a1.toNat : Nat) : Int)))) [] (Ocs (lit_int (wrap_of_u8 (by decide) _)) (op_convert rfl (a1 := .int .u8 ((p0.a1.toNat : Nat) : Int)) (by kernel_rfl) (run_conv (ds := .int .u8) (k' := .i64) (by kernel_rfl) (by kernel_rfl)))) ?_
      refine Wy (.agg [(.d (byteD p2.Kind)), (.d (.lit (.int .i64 p2.N))), (.d (.lit (.int .u64 p2.Bits))), (.d (.lit (.string (toS p2.Text))))]) [] (Old rfl) ?_
      obtain ⟨r31_3, hr31_3, hm⟩ := bnd hm
      refine Wy (.d (.lit (.string (toS r31_3)))) [] (Ocf [] [] [] 0 (ok_hash_Key ((p0.a1.toNat : Nat) : Int) p2 r31_3 hr31_3) (fun a w => Try.call14 a w) rfl trivial) ?_
      refine Wy (.d (.lit (.string (toS r26_3)))) [] (Omv rfl) ?_
      refine Wy (.d (.lit (.string (toS r31_3)))) [] (Omv rfl) ?_
      refine Wdr ?_
      refine Then.normal ?_
      refine Amk 1720 15 ⟨(tp 3 ((.loc 0 0) :: ((.loc 1 0) :: ((.loc 2 0) :: (tp 1 ((.loc 3 0) :: (tp 1 ((.d (.lit (.string (toS r26_3)))) :: ((.d (.lit (.string (toS r31_3)))) :: (tp 73 [])))))))))), [(.box [(.d (byteD p0.a0)), (.d (byteD p0.a1))]), (.box [(.d (byteD p1.Kind)), (.d (.lit (.int .i64 p1.N))), (.d (.lit (.int .u64 p1.Bits))), (.d (.lit (.string (toS p1.Text))))]), (.box [(.d (byteD p2.Kind)), (.d (.lit (.int .i64 p2.N))), (.d (.lit (.int .u64 p2.Bits))), (.d (.lit (.string (toS p2.Text))))]), (.box [(.d (byteD p1.Kind)), (.d (.lit (.int .i64 p1.N))), (.d (.lit (.int .u64 p1.Bits))), (.d (.lit (.string (toS p1.Text))))]), .gone], 0⟩ ?_
      refine AWP.seq ?_
      refine AWP.seq ?_
      refine AWP.text ?_
      refine Wy (.agg [(.d (byteD p1.Kind)), (.d (.lit (.int .i64 p1.N))), (.d (.lit (.int .u64 p1.Bits))), (.d (.lit (.string (toS p1.Text))))]) [] (Old rfl) ?_
      obtain ⟨r33_4, hr33_4, hm⟩ := bnd hm
      refine Wy (.d (.lit (.int .i64 r33_4))) [] (Ocf [] [] [] 0 (ok_value_Check p1 r33_4 hr33_4) (fun a w => Try.call22 a w) rfl trivial) ?_
      refine Wy (.d (.lit (.bool (decide (r33_4 ≠ 0))))) [] (Obn rfl (fun _ => hb_neq (k := .i64))) ?_
      refine Walk.nil ?_
      refine Then.normal ?_
      refine Amk 17179870776 7 ⟨(tp 3 ((.loc 0 0) :: ((.loc 1 0) :: ((.loc 2 0) :: (tp 3 ((.d (.lit (.string (toS r26_3)))) :: ((.d (.lit (.string (toS r31_3)))) :: (tp 23 ((.d (.lit (.bool (decide (r33_4 ≠ 0))))) :: (tp 49 [])))))))))), [(.box [(.d (byteD p0.a0)), (.d (byteD p0.a1))]), (.box [(.d (byteD p1.Kind)), (.d (.lit (.int .i64 p1.N))), (.d (.lit (.int .u64 p1.Bits))), (.d (.lit (.string (toS p1.Text))))]), (.box [(.d (byteD p2.Kind)), (.d (.lit (.int .i64 p2.N))), (.d (.lit (.int .u64 p2.Bits))), (.d (.lit (.string (toS p2.Text))))]), .gone, .gone], 0⟩ ?_
      rcases tf_ (decide (r33_4 ≠ 0)) with hc34_8 | hc34_8
      · replace hm := cT hc34_8 hm
        refine AWP.if_ true (Eq.trans (by kernel_rfl) (lit_tf (b := decide (r33_4 ≠ 0)) hc34_8)) ?_
        refine AWP.seq ?_
        refine AWP.text ?_
        refine Wy (.d (.lit (.string (toS r26_3)))) [] (Omv rfl) ?_
        refine Wy (.d (.lit (.bool (decide (r26_3 = ([] : List UInt8)))))) [] (Ocs (lit_tf (by simp only [toS_inj, ne_eq])) (op_bin rfl (a1 := .string (toS r26_3)) (a2 := .string (toS ([] : List UInt8))) (by kernel_rfl) (by kernel_rfl) (fun _ => hb_seql))) ?_
        rcases tf_ (decide (r26_3 = ([] : List UInt8))) with hq37_5 | hq37_5
        · replace hm := cT hq37_5 hm
          refine Wy (.d (.lit (.bool true))) [] (Ocs (lit_tf (b := decide (r26_3 = ([] : List UInt8))) hq37_5) (Omv rfl)) ?_
          obtain ⟨r38_5, hr38_5, hm⟩ := bnd hm
          refine Wy (.d (.lit (.bool r38_5))) [] (Ocf [] [] [] 0 (ok_telltalelaw08_awake  r38_5 hr38_5) (fun a w => Try.call7 a w) rfl trivial) ?_
          refine Wy (.d (.lit (.bool r38_5))) [] (OpT rfl) ?_
          refine Wy (.d (.lit (.bool r38_5))) [] (Omv rfl) ?_
          refine Walk.nil ?_
          refine Then.normal ?_
          refine AWP.ret ?_
          refine Then.ret ?_
          obtain rfl := Option.some.inj hm
          exact ret_i []
        · replace hm := cF hq37_5 hm
          refine Wy (.d (.lit (.bool false))) [] (Ocs (lit_tf (b := decide (r26_3 = ([] : List UInt8))) hq37_5) (Omv rfl)) ?_
          refine Wn ?_
          refine Wy (.d (.lit (.bool false))) [] (OpF rfl) ?_
          refine Wy (.d (.lit (.bool false))) [] (Omv rfl) ?_
          refine Walk.nil ?_
          refine Then.normal ?_
          refine AWP.ret ?_
          refine Then.ret ?_
          obtain rfl := Option.some.inj hm
          exact ret_i []
      · replace hm := cF hc34_8 hm
        refine AWP.if_ false (Eq.trans (by kernel_rfl) (lit_tf (b := decide (r33_4 ≠ 0)) hc34_8)) ?_
        refine AWP.skip ?_
        refine Then.normal ?_
        refine Amk 1592 7 ⟨(tp 3 ((.loc 0 0) :: ((.loc 1 0) :: ((.loc 2 0) :: (tp 3 ((.d (.lit (.string (toS r26_3)))) :: ((.d (.lit (.string (toS r31_3)))) :: (tp 73 [])))))))), [(.box [(.d (byteD p0.a0)), (.d (byteD p0.a1))]), (.box [(.d (byteD p1.Kind)), (.d (.lit (.int .i64 p1.N))), (.d (.lit (.int .u64 p1.Bits))), (.d (.lit (.string (toS p1.Text))))]), (.box [(.d (byteD p2.Kind)), (.d (.lit (.int .i64 p2.N))), (.d (.lit (.int .u64 p2.Bits))), (.d (.lit (.string (toS p2.Text))))]), .gone, .gone], 0⟩ ?_
        refine AWP.seq ?_
        refine Adr ?_
        refine Wy (.d (.lit (.string (toS r26_3)))) [] (Omv rfl) ?_
        refine Wy (.d (.lit (.string (toS r31_3)))) [] (Omv rfl) ?_
        refine Wy (.d (.lit (.bool (decide (r26_3 = r31_3))))) [] (Ocs (lit_tf (by simp only [toS_inj, ne_eq])) (op_bin rfl (a1 := .string (toS r26_3)) (a2 := .string (toS r31_3)) (by kernel_rfl) (by kernel_rfl) (fun _ => hb_seql))) ?_
        refine Wy (.agg [(.d (byteD p1.Kind)), (.d (.lit (.int .i64 p1.N))), (.d (.lit (.int .u64 p1.Bits))), (.d (.lit (.string (toS p1.Text))))]) [] (Old rfl) ?_
        refine Wy (.agg [(.d (byteD p2.Kind)), (.d (.lit (.int .i64 p2.N))), (.d (.lit (.int .u64 p2.Bits))), (.d (.lit (.string (toS p2.Text))))]) [] (Old rfl) ?_
        obtain ⟨v45_6, hv45_6, hm⟩ := bnd hm; replace hv45_6 := Option.some.inj hv45_6
        refine Wy (.d (.lit (.bool v45_6))) [] (Ocs (Eq.trans (lit_tf (by simp only [toS_inj])) (congrArg (fun z => A.d (.lit (.bool z))) hv45_6)) (op_eql_struct rfl (la := [(.d (byteD p1.Kind)), (.d (.lit (.int .i64 p1.N))), (.d (.lit (.int .u64 p1.Bits))), (.d (.lit (.string (toS p1.Text))))]) (lb := [(.d (byteD p2.Kind)), (.d (.lit (.int .i64 p2.N))), (.d (.lit (.int .u64 p2.Bits))), (.d (.lit (.string (toS p2.Text))))]) (us := [.int .u8 ((p1.Kind.toNat : Nat) : Int), .int .i64 p1.N, .int .u64 p1.Bits, .string (toS p1.Text)]) (vs := [.int .u8 ((p2.Kind.toNat : Nat) : Int), .int .i64 p2.N, .int .u64 p2.Bits, .string (toS p2.Text)]) (r := (decide (((p1.Kind.toNat : Nat) : Int) = ((p2.Kind.toNat : Nat) : Int)) && (decide (p1.N = p2.N) && (decide (p1.Bits = p2.Bits) && (decide ((toS p1.Text) = (toS p2.Text)) && true))))) (by kernel_rfl) (by kernel_rfl) (by kernel_rfl) (by kernel_rfl) (by kernel_rfl))) ?_
        rcases tf_ v45_6 with hq46_6 | hq46_6
        · replace hm := cT hq46_6 hm
          refine Wy (.d (.lit (.bool true))) [] (Ocs (lit_tf (b := v45_6) hq46_6) (Omv rfl)) ?_
          refine Wy (.loc 0 0) [] (Ocs (by kernel_rfl) (op_iaddr_arr rfl (n := 2) (sz := 1) (y := (.loc 0 0)) (by kernel_rfl) (by kernel_rfl) (by kernel_rfl) (k := .i64) (iv := 0) (by kernel_rfl) (i := 0) (by rfl) (by decide))) ?_
          refine Wy (.d (byteD p0.a0)) [] (Old rfl) ?_
          refine Wy (.loc 0 1) [] (Ocs (by kernel_rfl) (op_iaddr_arr rfl (n := 2) (sz := 1) (y := (.loc 0 0)) (by kernel_rfl) (by kernel_rfl) (by kernel_rfl) (k := .i64) (iv := 1) (by kernel_rfl) (i := 1) (by rfl) (by decide))) ?_
          refine Wy (.d (byteD p0.a1)) [] (Old rfl) ?_
          refine Wy (.d (.lit (.bool (decide (((p0.a0.toNat : Nat) : Int) = ((p0.a1.toNat : Nat) : Int)))))) [] (Ocs (by kernel_rfl) (op_bin rfl (a1 := .int .u8 ((p0.a0.toNat : Nat) : Int)) (a2 := .int .u8 ((p0.a1.toNat : Nat) : Int)) (by kernel_rfl) (by kernel_rfl) (fun _ => hb_eql))) ?_
          refine Wy (.d (.lit (.bool (decide (((p0.a0.toNat : Nat) : Int) = ((p0.a1.toNat : Nat) : Int)))))) [] (OpT rfl) ?_
          refine Wy (.d (.lit (.bool (decide (decide (r26_3 = r31_3) = decide (((p0.a0.toNat : Nat) : Int) = ((p0.a1.toNat : Nat) : Int))))))) [] (Ocs (by kernel_rfl) (op_bin rfl (a1 := .bool (decide (r26_3 = r31_3))) (a2 := .bool (decide (((p0.a0.toNat : Nat) : Int) = ((p0.a1.toNat : Nat) : Int)))) (by kernel_rfl) (by kernel_rfl) (fun _ => hb_beql (by kernel_rfl)))) ?_
          rcases tf_ (decide (decide (r26_3 = r31_3) = decide (((p0.a0.toNat : Nat) : Int) = ((p0.a1.toNat : Nat) : Int)))) with hq54_6 | hq54_6
          · replace hm := cT hq54_6 hm
            refine Wy (.d (.lit (.bool true))) [] (Ocs (lit_tf (b := decide (decide (r26_3 = r31_3) = decide (((p0.a0.toNat : Nat) : Int) = ((p0.a1.toNat : Nat) : Int)))) hq54_6) (Omv rfl)) ?_
            refine Wy (.d (.lit (.string (toS r26_3)))) [] (Omv rfl) ?_
            obtain ⟨r56_6, hr56_6, hm⟩ := bnd hm
            refine Wy (.d (.lit (.int .i64 r56_6))) [] (Ocf [] [] [] 0 (ok_hash_Pattern r26_3 r56_6 hr56_6) (fun a w => Try.call18 a w) rfl trivial) ?_
            refine Wy (.loc 0 0) [] (Ocs (by kernel_rfl) (op_iaddr_arr rfl (n := 2) (sz := 1) (y := (.loc 0 0)) (by kernel_rfl) (by kernel_rfl) (by kernel_rfl) (k := .i64) (iv := 0) (by kernel_rfl) (i := 0) (by rfl) (by decide))) ?_
            refine Wy (.d (byteD p0.a0)) [] (Old rfl) ?_
            refine Wy (.d (.lit (.int .i64 ((p0.a0.toNat : Nat) : Int)))) [] (Ocs (lit_int (wrap_of_u8 (by decide) _)) (op_convert rfl (a1 := .int .u8 ((p0.a0.toNat : Nat) : Int)) (by kernel_rfl) (run_conv (ds := .int .u8) (k' := .i64) (by kernel_rfl) (by kernel_rfl)))) ?_
            refine Wy (.d (.lit (.bool (decide (r56_6 = ((p0.a0.toNat : Nat) : Int)))))) [] (Obn rfl (fun _ => hb_eql (k := .i64))) ?_
            refine Wy (.d (.lit (.bool (decide (r56_6 = ((p0.a0.toNat : Nat) : Int)))))) [] (OpT rfl) ?_
            rcases tf_ (decide (r56_6 = ((p0.a0.toNat : Nat) : Int))) with hq62_6 | hq62_6
            · replace hm := cT hq62_6 hm
              refine Wy (.d (.lit (.bool true))) [] (Ocs (lit_tf (b := decide (r56_6 = ((p0.a0.toNat : Nat) : Int))) hq62_6) (Omv rfl)) ?_
              refine Wy (.d (.lit (.string (toS r26_3)))) [] (Omv rfl) ?_
              refine Wy (.loc 0 0) [] (Ocs (by kernel_rfl) (op_iaddr_arr rfl (n := 2) (sz := 1) (y := (.loc 0 0)) (by kernel_rfl) (by kernel_rfl) (by kernel_rfl) (k := .i64) (iv := 0) (by kernel_rfl) (i := 0) (by rfl) (by decide))) ?_
              refine Wy (.d (byteD p0.a0)) [] (Old rfl) ?_
              refine Wy (.d (.lit (.int .i64 ((p0.a0.toNat : Nat) : Int)))) [] (Ocs (lit_int (wrap_of_u8 (by decide) _)) (op_convert rfl (a1 := .int .u8 ((p0.a0.toNat : Nat) : Int)) (by kernel_rfl) (run_conv (ds := .int .u8) (k' := .i64) (by kernel_rfl) (by kernel_rfl)))) ?_
              obtain ⟨r67_6, hr67_6, hm⟩ := bnd hm
              refine Wy (.d (.lit (.string (toS r67_6)))) [] (Ocf [] [] [] 0 (ok_hash_Bare ((p0.a0.toNat : Nat) : Int) r67_6 hr67_6) (fun a w => Try.call16 a w) rfl trivial) ?_
              refine Wy (.d (.lit (.bool (decide (r26_3 ≠ r67_6))))) [] (Ocs (lit_tf (by simp only [toS_inj, ne_eq])) (op_bin rfl (a1 := .string (toS r26_3)) (a2 := .string (toS r67_6)) (by kernel_rfl) (by kernel_rfl) (fun _ => hb_sneq))) ?_
              refine Wy (.d (.lit (.bool (decide (r26_3 ≠ r67_6))))) [] (OpT rfl) ?_
              rcases tf_ (decide (r26_3 ≠ r67_6)) with hq70_6 | hq70_6
              · replace hm := cT hq70_6 hm
                refine Wy (.d (.lit (.bool true))) [] (Ocs (lit_tf (b := decide (r26_3 ≠ r67_6)) hq70_6) (Omv rfl)) ?_
                refine Wy (.loc 0 1) [] (Ocs (by kernel_rfl) (op_iaddr_arr rfl (n := 2) (sz := 1) (y := (.loc 0 0)) (by kernel_rfl) (by kernel_rfl) (by kernel_rfl) (k := .i64) (iv := 1) (by kernel_rfl) (i := 1) (by rfl) (by decide))) ?_
                refine Wy (.d (byteD p0.a1)) [] (Old rfl) ?_
                refine Wy (.d (.lit (.int .i64 ((p0.a1.toNat : Nat) : Int)))) [] (Ocs (lit_int (wrap_of_u8 (by decide) _)) (op_convert rfl (a1 := .int .u8 ((p0.a1.toNat : Nat) : Int)) (by kernel_rfl) (run_conv (ds := .int .u8) (k' := .i64) (by kernel_rfl) (by kernel_rfl)))) ?_
                obtain ⟨r74_6, hr74_6, hm⟩ := bnd hm
                refine Wy (.d (.lit (.string (toS r74_6)))) [] (Ocf [] [] [] 0 (ok_hash_Bare ((p0.a1.toNat : Nat) : Int) r74_6 hr74_6) (fun a w => Try.call16 a w) rfl trivial) ?_
                obtain ⟨r75_6, hr75_6, hm⟩ := bnd hm
                refine Wy (.d (.lit (.int .i64 r75_6))) [] (Ocf [] [] [] 0 (ok_hash_Pattern r74_6 r75_6 hr75_6) (fun a w => Try.call18 a w) rfl trivial) ?_
                refine Wy (.loc 0 1) [] (Ocs (by kernel_rfl) (op_iaddr_arr rfl (n := 2) (sz := 1) (y := (.loc 0 0)) (by kernel_rfl) (by kernel_rfl) (by kernel_rfl) (k := .i64) (iv := 1) (by kernel_rfl) (i := 1) (by rfl) (by decide))) ?_
                refine Wy (.d (byteD p0.a1)) [] (Old rfl) ?_
                refine Wy (.d (.lit (.int .i64 ((p0.a1.toNat : Nat) : Int)))) [] (Ocs (lit_int (wrap_of_u8 (by decide) _)) (op_convert rfl (a1 := .int .u8 ((p0.a1.toNat : Nat) : Int)) (by kernel_rfl) (run_conv (ds := .int .u8) (k' := .i64) (by kernel_rfl) (by kernel_rfl)))) ?_
                refine Wy (.d (.lit (.bool (decide (r75_6 = ((p0.a1.toNat : Nat) : Int)))))) [] (Obn rfl (fun _ => hb_eql (k := .i64))) ?_
                refine Wy (.d (.lit (.bool (decide (r75_6 = ((p0.a1.toNat : Nat) : Int)))))) [] (OpT rfl) ?_
                rcases tf_ (decide (r75_6 = ((p0.a1.toNat : Nat) : Int))) with hq81_6 | hq81_6
                · replace hm := cT hq81_6 hm
                  refine Wy (.d (.lit (.bool true))) [] (Ocs (lit_tf (b := decide (r75_6 = ((p0.a1.toNat : Nat) : Int))) hq81_6) (Omv rfl)) ?_
                  obtain ⟨r82_6, hr82_6, hm⟩ := bnd hm
                  refine Wy (.d (.lit (.bool r82_6))) [] (Ocf [] [] [] 0 (ok_telltalelaw08_awake  r82_6 hr82_6) (fun a w => Try.call7 a w) rfl trivial) ?_
                  refine Wy (.d (.lit (.bool r82_6))) [] (OpT rfl) ?_
                  refine Wy (.d (.lit (.bool r82_6))) [] (Omv rfl) ?_
                  refine Wdr ?_
                  refine Then.normal ?_
                  refine AWP.ret ?_
                  obtain rfl := Option.some.inj hm
                  exact ret_i []
                · replace hm := cF hq81_6 hm
                  refine Wy (.d (.lit (.bool false))) [] (Ocs (lit_tf (b := decide (r75_6 = ((p0.a1.toNat : Nat) : Int))) hq81_6) (Omv rfl)) ?_
                  refine Wn ?_
                  refine Wy (.d (.lit (.bool false))) [] (OpF rfl) ?_
                  refine Wy (.d (.lit (.bool false))) [] (Omv rfl) ?_
                  refine Wdr ?_
                  refine Then.normal ?_
                  refine AWP.ret ?_
                  obtain rfl := Option.some.inj hm
                  exact ret_i []
              · replace hm := cF hq70_6 hm
                refine Wy (.d (.lit (.bool false))) [] (Ocs (lit_tf (b := decide (r26_3 ≠ r67_6)) hq70_6) (Omv rfl)) ?_
                refine Wn ?_
                refine Wn ?_
                refine Wn ?_
                refine Wn ?_
                refine Wn ?_
                refine Wn ?_
                refine Wn ?_
                refine Wn ?_
                refine Wn ?_
                refine Wy (.d (.lit (.bool false))) [] (OpF rfl) ?_
                refine Wy (.d (.lit (.bool false))) [] (Omv rfl) ?_
                refine Wn ?_
                refine Wy (.d (.lit (.bool false))) [] (OpF rfl) ?_
                refine Wy (.d (.lit (.bool false))) [] (Omv rfl) ?_
                refine Wdr ?_
                refine Then.normal ?_
                refine AWP.ret ?_
                obtain rfl := Option.some.inj hm
                exact ret_i []
            · replace hm := cF hq62_6 hm
              refine Wy (.d (.lit (.bool false))) [] (Ocs (lit_tf (b := decide (r56_6 = ((p0.a0.toNat : Nat) : Int))) hq62_6) (Omv rfl)) ?_
              refine Wn ?_
              refine Wn ?_
              refine Wn ?_
              refine Wn ?_
              refine Wn ?_
              refine Wn ?_
              refine Wy (.d (.lit (.bool false))) [] (OpF rfl) ?_
              refine Wy (.d (.lit (.bool false))) [] (Omv rfl) ?_
              refine Wn ?_
              refine Wn ?_
              refine Wn ?_
              refine Wn ?_
              refine Wn ?_
              refine Wn ?_
              refine Wn ?_
              refine Wn ?_
              refine Wn ?_
              refine Wy (.d (.lit (.bool false))) [] (OpF rfl) ?_
              refine Wy (.d (.lit (.bool false))) [] (Omv rfl) ?_
              refine Wn ?_
              refine Wy (.d (.lit (.bool false))) [] (OpF rfl) ?_
              refine Wy (.d (.lit (.bool false))) [] (Omv rfl) ?_
              refine Wdr ?_
              refine Then.normal ?_
              refine AWP.ret ?_
              obtain rfl := Option.some.inj hm
              exact ret_i []
          · replace hm := cF hq54_6 hm
            refine Wy (.d (.lit (.bool false))) [] (Ocs (lit_tf (b := decide (decide (r26_3 = r31_3) = decide (((p0.a0.toNat : Nat) : Int) = ((p0.a1.toNat : Nat) : Int)))) hq54_6) (Omv rfl)) ?_
            refine Wn ?_
            refine Wn ?_
            refine Wn ?_
            refine Wn ?_
            refine Wn ?_
            refine Wn ?_
            refine Wy (.d (.lit (.bool false))) [] (OpF rfl) ?_
            refine Wy (.d (.lit (.bool false))) [] (Omv rfl) ?_
            refine Wn ?_
            refine Wn ?_
            refine Wn ?_
            refine Wn ?_
            refine Wn ?_
            refine Wn ?_
            refine Wy (.d (.lit (.bool false))) [] (OpF rfl) ?_
            refine Wy (.d (.lit (.bool false))) [] (Omv rfl) ?_
            refine Wn ?_
            refine Wn ?_
            refine Wn ?_
            refine Wn ?_
            refine Wn ?_
            refine Wn ?_
            refine Wn ?_
            refine Wn ?_
            refine Wn ?_
            refine Wy (.d (.lit (.bool false))) [] (OpF rfl) ?_
            refine Wy (.d (.lit (.bool false))) [] (Omv rfl) ?_
            refine Wn ?_
            refine Wy (.d (.lit (.bool false))) [] (OpF rfl) ?_
            refine Wy (.d (.lit (.bool false))) [] (Omv rfl) ?_
            refine Wdr ?_
            refine Then.normal ?_
            refine AWP.ret ?_
            obtain rfl := Option.some.inj hm
            exact ret_i []
        · replace hm := cF hq46_6 hm
          refine Wy (.d (.lit (.bool false))) [] (Ocs (lit_tf (b := v45_6) hq46_6) (Omv rfl)) ?_
          refine Wn ?_
          refine Wn ?_
          refine Wn ?_
          refine Wn ?_
          refine Wn ?_
          refine Wy (.d (.lit (.bool false))) [] (OpF rfl) ?_
          refine Wy (.d (.lit (.bool (decide (decide (r26_3 = r31_3) = false))))) [] (Ocs (by kernel_rfl) (op_bin rfl (a1 := .bool (decide (r26_3 = r31_3))) (a2 := .bool false) (by kernel_rfl) (by kernel_rfl) (fun _ => hb_beql (by kernel_rfl)))) ?_
          rcases tf_ (decide (decide (r26_3 = r31_3) = false)) with hq54_6 | hq54_6
          · replace hm := cT hq54_6 hm
            refine Wy (.d (.lit (.bool true))) [] (Ocs (lit_tf (b := decide (decide (r26_3 = r31_3) = false)) hq54_6) (Omv rfl)) ?_
            refine Wy (.d (.lit (.string (toS r26_3)))) [] (Omv rfl) ?_
            obtain ⟨r56_6, hr56_6, hm⟩ := bnd hm
            refine Wy (.d (.lit (.int .i64 r56_6))) [] (Ocf [] [] [] 0 (ok_hash_Pattern r26_3 r56_6 hr56_6) (fun a w => Try.call18 a w) rfl trivial) ?_
            refine Wy (.loc 0 0) [] (Ocs (by kernel_rfl) (op_iaddr_arr rfl (n := 2) (sz := 1) (y := (.loc 0 0)) (by kernel_rfl) (by kernel_rfl) (by kernel_rfl) (k := .i64) (iv := 0) (by kernel_rfl) (i := 0) (by rfl) (by decide))) ?_
            refine Wy (.d (byteD p0.a0)) [] (Old rfl) ?_
            refine Wy (.d (.lit (.int .i64 ((p0.a0.toNat : Nat) : Int)))) [] (Ocs (lit_int (wrap_of_u8 (by decide) _)) (op_convert rfl (a1 := .int .u8 ((p0.a0.toNat : Nat) : Int)) (by kernel_rfl) (run_conv (ds := .int .u8) (k' := .i64) (by kernel_rfl) (by kernel_rfl)))) ?_
            refine Wy (.d (.lit (.bool (decide (r56_6 = ((p0.a0.toNat : Nat) : Int)))))) [] (Obn rfl (fun _ => hb_eql (k := .i64))) ?_
            refine Wy (.d (.lit (.bool (decide (r56_6 = ((p0.a0.toNat : Nat) : Int)))))) [] (OpT rfl) ?_
            rcases tf_ (decide (r56_6 = ((p0.a0.toNat : Nat) : Int))) with hq62_6 | hq62_6
            · replace hm := cT hq62_6 hm
              refine Wy (.d (.lit (.bool true))) [] (Ocs (lit_tf (b := decide (r56_6 = ((p0.a0.toNat : Nat) : Int))) hq62_6) (Omv rfl)) ?_
              refine Wy (.d (.lit (.string (toS r26_3)))) [] (Omv rfl) ?_
              refine Wy (.loc 0 0) [] (Ocs (by kernel_rfl) (op_iaddr_arr rfl (n := 2) (sz := 1) (y := (.loc 0 0)) (by kernel_rfl) (by kernel_rfl) (by kernel_rfl) (k := .i64) (iv := 0) (by kernel_rfl) (i := 0) (by rfl) (by decide))) ?_
              refine Wy (.d (byteD p0.a0)) [] (Old rfl) ?_
              refine Wy (.d (.lit (.int .i64 ((p0.a0.toNat : Nat) : Int)))) [] (Ocs (lit_int (wrap_of_u8 (by decide) _)) (op_convert rfl (a1 := .int .u8 ((p0.a0.toNat : Nat) : Int)) (by kernel_rfl) (run_conv (ds := .int .u8) (k' := .i64) (by kernel_rfl) (by kernel_rfl)))) ?_
              obtain ⟨r67_6, hr67_6, hm⟩ := bnd hm
              refine Wy (.d (.lit (.string (toS r67_6)))) [] (Ocf [] [] [] 0 (ok_hash_Bare ((p0.a0.toNat : Nat) : Int) r67_6 hr67_6) (fun a w => Try.call16 a w) rfl trivial) ?_
              refine Wy (.d (.lit (.bool (decide (r26_3 ≠ r67_6))))) [] (Ocs (lit_tf (by simp only [toS_inj, ne_eq])) (op_bin rfl (a1 := .string (toS r26_3)) (a2 := .string (toS r67_6)) (by kernel_rfl) (by kernel_rfl) (fun _ => hb_sneq))) ?_
              refine Wy (.d (.lit (.bool (decide (r26_3 ≠ r67_6))))) [] (OpT rfl) ?_
              rcases tf_ (decide (r26_3 ≠ r67_6)) with hq70_6 | hq70_6
              · replace hm := cT hq70_6 hm
                refine Wy (.d (.lit (.bool true))) [] (Ocs (lit_tf (b := decide (r26_3 ≠ r67_6)) hq70_6) (Omv rfl)) ?_
                refine Wy (.loc 0 1) [] (Ocs (by kernel_rfl) (op_iaddr_arr rfl (n := 2) (sz := 1) (y := (.loc 0 0)) (by kernel_rfl) (by kernel_rfl) (by kernel_rfl) (k := .i64) (iv := 1) (by kernel_rfl) (i := 1) (by rfl) (by decide))) ?_
                refine Wy (.d (byteD p0.a1)) [] (Old rfl) ?_
                refine Wy (.d (.lit (.int .i64 ((p0.a1.toNat : Nat) : Int)))) [] (Ocs (lit_int (wrap_of_u8 (by decide) _)) (op_convert rfl (a1 := .int .u8 ((p0.a1.toNat : Nat) : Int)) (by kernel_rfl) (run_conv (ds := .int .u8) (k' := .i64) (by kernel_rfl) (by kernel_rfl)))) ?_
                obtain ⟨r74_6, hr74_6, hm⟩ := bnd hm
                refine Wy (.d (.lit (.string (toS r74_6)))) [] (Ocf [] [] [] 0 (ok_hash_Bare ((p0.a1.toNat : Nat) : Int) r74_6 hr74_6) (fun a w => Try.call16 a w) rfl trivial) ?_
                obtain ⟨r75_6, hr75_6, hm⟩ := bnd hm
                refine Wy (.d (.lit (.int .i64 r75_6))) [] (Ocf [] [] [] 0 (ok_hash_Pattern r74_6 r75_6 hr75_6) (fun a w => Try.call18 a w) rfl trivial) ?_
                refine Wy (.loc 0 1) [] (Ocs (by kernel_rfl) (op_iaddr_arr rfl (n := 2) (sz := 1) (y := (.loc 0 0)) (by kernel_rfl) (by kernel_rfl) (by kernel_rfl) (k := .i64) (iv := 1) (by kernel_rfl) (i := 1) (by rfl) (by decide))) ?_
                refine Wy (.d (byteD p0.a1)) [] (Old rfl) ?_
                refine Wy (.d (.lit (.int .i64 ((p0.a1.toNat : Nat) : Int)))) [] (Ocs (lit_int (wrap_of_u8 (by decide) _)) (op_convert rfl (a1 := .int .u8 ((p0.a1.toNat : Nat) : Int)) (by kernel_rfl) (run_conv (ds := .int .u8) (k' := .i64) (by kernel_rfl) (by kernel_rfl)))) ?_
                refine Wy (.d (.lit (.bool (decide (r75_6 = ((p0.a1.toNat : Nat) : Int)))))) [] (Obn rfl (fun _ => hb_eql (k := .i64))) ?_
                refine Wy (.d (.lit (.bool (decide (r75_6 = ((p0.a1.toNat : Nat) : Int)))))) [] (OpT rfl) ?_
                rcases tf_ (decide (r75_6 = ((p0.a1.toNat : Nat) : Int))) with hq81_6 | hq81_6
                · replace hm := cT hq81_6 hm
                  refine Wy (.d (.lit (.bool true))) [] (Ocs (lit_tf (b := decide (r75_6 = ((p0.a1.toNat : Nat) : Int))) hq81_6) (Omv rfl)) ?_
                  obtain ⟨r82_6, hr82_6, hm⟩ := bnd hm
                  refine Wy (.d (.lit (.bool r82_6))) [] (Ocf [] [] [] 0 (ok_telltalelaw08_awake  r82_6 hr82_6) (fun a w => Try.call7 a w) rfl trivial) ?_
                  refine Wy (.d (.lit (.bool r82_6))) [] (OpT rfl) ?_
                  refine Wy (.d (.lit (.bool r82_6))) [] (Omv rfl) ?_
                  refine Wdr ?_
                  refine Then.normal ?_
                  refine AWP.ret ?_
                  obtain rfl := Option.some.inj hm
                  exact ret_i []
                · replace hm := cF hq81_6 hm
                  refine Wy (.d (.lit (.bool false))) [] (Ocs (lit_tf (b := decide (r75_6 = ((p0.a1.toNat : Nat) : Int))) hq81_6) (Omv rfl)) ?_
                  refine Wn ?_
                  refine Wy (.d (.lit (.bool false))) [] (OpF rfl) ?_
                  refine Wy (.d (.lit (.bool false))) [] (Omv rfl) ?_
                  refine Wdr ?_
                  refine Then.normal ?_
                  refine AWP.ret ?_
                  obtain rfl := Option.some.inj hm
                  exact ret_i []
              · replace hm := cF hq70_6 hm
                refine Wy (.d (.lit (.bool false))) [] (Ocs (lit_tf (b := decide (r26_3 ≠ r67_6)) hq70_6) (Omv rfl)) ?_
                refine Wn ?_
                refine Wn ?_
                refine Wn ?_
                refine Wn ?_
                refine Wn ?_
                refine Wn ?_
                refine Wn ?_
                refine Wn ?_
                refine Wn ?_
                refine Wy (.d (.lit (.bool false))) [] (OpF rfl) ?_
                refine Wy (.d (.lit (.bool false))) [] (Omv rfl) ?_
                refine Wn ?_
                refine Wy (.d (.lit (.bool false))) [] (OpF rfl) ?_
                refine Wy (.d (.lit (.bool false))) [] (Omv rfl) ?_
                refine Wdr ?_
                refine Then.normal ?_
                refine AWP.ret ?_
                obtain rfl := Option.some.inj hm
                exact ret_i []
            · replace hm := cF hq62_6 hm
              refine Wy (.d (.lit (.bool false))) [] (Ocs (lit_tf (b := decide (r56_6 = ((p0.a0.toNat : Nat) : Int))) hq62_6) (Omv rfl)) ?_
              refine Wn ?_
              refine Wn ?_
              refine Wn ?_
              refine Wn ?_
              refine Wn ?_
              refine Wn ?_
              refine Wy (.d (.lit (.bool false))) [] (OpF rfl) ?_
              refine Wy (.d (.lit (.bool false))) [] (Omv rfl) ?_
              refine Wn ?_
              refine Wn ?_
              refine Wn ?_
              refine Wn ?_
              refine Wn ?_
              refine Wn ?_
              refine Wn ?_
              refine Wn ?_
              refine Wn ?_
              refine Wy (.d (.lit (.bool false))) [] (OpF rfl) ?_
              refine Wy (.d (.lit (.bool false))) [] (Omv rfl) ?_
              refine Wn ?_
              refine Wy (.d (.lit (.bool false))) [] (OpF rfl) ?_
              refine Wy (.d (.lit (.bool false))) [] (Omv rfl) ?_
              refine Wdr ?_
              refine Then.normal ?_
              refine AWP.ret ?_
              obtain rfl := Option.some.inj hm
              exact ret_i []
          · replace hm := cF hq54_6 hm
            refine Wy (.d (.lit (.bool false))) [] (Ocs (lit_tf (b := decide (decide (r26_3 = r31_3) = false)) hq54_6) (Omv rfl)) ?_
            refine Wn ?_
            refine Wn ?_
            refine Wn ?_
            refine Wn ?_
            refine Wn ?_
            refine Wn ?_
            refine Wy (.d (.lit (.bool false))) [] (OpF rfl) ?_
            refine Wy (.d (.lit (.bool false))) [] (Omv rfl) ?_
            refine Wn ?_
            refine Wn ?_
            refine Wn ?_
            refine Wn ?_
            refine Wn ?_
            refine Wn ?_
            refine Wy (.d (.lit (.bool false))) [] (OpF rfl) ?_
            refine Wy (.d (.lit (.bool false))) [] (Omv rfl) ?_
            refine Wn ?_
            refine Wn ?_
            refine Wn ?_
            refine Wn ?_
            refine Wn ?_
            refine Wn ?_
            refine Wn ?_
            refine Wn ?_
            refine Wn ?_
            refine Wy (.d (.lit (.bool false))) [] (OpF rfl) ?_
            refine Wy (.d (.lit (.bool false))) [] (Omv rfl) ?_
            refine Wn ?_
            refine Wy (.d (.lit (.bool false))) [] (OpF rfl) ?_
            refine Wy (.d (.lit (.bool false))) [] (Omv rfl) ?_
            refine Wdr ?_
            refine Then.normal ?_
            refine AWP.ret ?_
            obtain rfl := Option.some.inj hm
            exact ret_i []
end Go.Proofs.Ytpacbldefdggjaa.K
