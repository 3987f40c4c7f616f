/- octet: Text -/
import Derived.Test.YtfklpnaklhcobaaOB
namespace Go.Proofs.Ytfklpnaklhcobaa.K
open Go.RowKit Go.Lib
set_option linter.unusedVariables false

theorem size_list (s : ByteArray) : s.data.toList.length = s.size := rfl
theorem text_lay (l : List UInt8) (n : Nat) : layn (l ++ List.replicate (2 + n) 0) (l.length + 2) 2 n = l ++ beb 2 n ++ List.replicate n 0 := by
  unfold layn
  rw [Nat.add_sub_cancel, List.take_left' rfl, List.drop_append, List.drop_of_length_le (by omega), List.append_assoc, Nat.add_sub_cancel_left]
  simp
theorem text_put (l : List UInt8) (s : ByteArray) : putC (bytesD (layn (l ++ List.replicate (2 + s.size) 0) (l.length + 2) 2 s.size)) ((l.length + 2) * 1) (bytesD s.data.toList) = bytesD (l ++ beb 2 s.size ++ s.data.toList) := by
  rw [text_lay, show l.length + 2 = (l ++ beb 2 s.size).length by simp [beb_length], put_bytes]
  simp
theorem text_end (l : List UInt8) {s : ByteArray} (h : s.size = 0) : layn (l ++ List.replicate (2 + s.size) 0) (l.length + 2) 2 s.size = l ++ beb 2 s.size ++ s.data.toList := by
  rw [text_lay, h]
  congr 1
  have : s.data.toList.length = 0 := h
  rw [List.length_eq_zero_iff.1 this]; rfl
set_option maxRecDepth 20000 in
set_option maxHeartbeats 4000000 in
theorem text_big (l : List UInt8) (s : ByteArray) (hs : 65535 < s.size) : GCall Try.prog 10 [(.d (.sl l.length (bytesD l))), (.d (.lit (.string s)))] [] (.tup [(.d (.sl 0 [])), (.d (.lit (.int .i64 5)))]) [] := by
  refine GCall.of_body (n := 32) (rs := [(.tmp 4), (.tmp 5)]) Try.func10 rfl rfl rfl ?_
  refine AWP.to_ (st' := ⟨[(.d (.sl l.length (bytesD l))), (.d (.lit (.string s))), (.tup []), (.tup []), (.tup []), (.tup []), (.tup []), (.tup []), (.tup []), (.tup []), (.tup []), (.tup []), (.tup []), (.tup []), (.tup []), (.tup []), (.tup []), (.tup []), (.tup []), (.tup []), (.tup []), (.tup []), (.tup []), (.tup []), (.tup []), (.tup []), (.tup []), (.tup []), (.tup []), (.tup []), (.tup []), (.tup [])], [], 0⟩) (by kernel_rfl) ?_
  refine AWP.seq ?_
  refine AWP.text ?_
  refine Walk.yes (val := (.d .nil)) (bl := []) (by kernel_rfl) ((op_move rfl).cast (by kernel_rfl)) ?_
  refine Walk.yes (val := (.d (.lit (.int .i64 0)))) (bl := []) (by kernel_rfl) ((op_move rfl).cast (by kernel_rfl)) ?_
  refine Walk.to_ (st' := ⟨[(.d (.sl l.length (bytesD l))), (.d (.lit (.string s))), (.tup []), (.tup []), (.d .nil), (.d (.lit (.int .i64 0))), (.tup []), (.tup []), (.tup []), (.tup []), (.tup []), (.tup []), (.tup []), (.tup []), (.tup []), (.tup []), (.tup []), (.tup []), (.tup []), (.tup []), (.tup []), (.tup []), (.tup []), (.tup []), (.tup []), (.tup []), (.tup []), (.tup []), (.tup []), (.tup []), (.tup []), (.tup [])], [], 0⟩) (by kernel_rfl) ?_
  refine Walk.nil ?_
  refine Then.normal ?_
  refine AWP.seq ?_
  refine AWP.seq ?_
  refine AWP.text ?_
  refine Walk.yes (val := (.d (.lit (.string s)))) (bl := []) (by kernel_rfl) ((op_move rfl).cast (by kernel_rfl)) ?_
  refine Walk.yes (val := (.d (.lit (.int .i64 ((s.size : Nat) : Int))))) (bl := []) (by kernel_rfl) (op_len_str rfl (by kernel_rfl) (by kernel_rfl)) ?_
  refine Walk.yes (val := (.d (.lit (.bool true)))) (bl := []) (by kernel_rfl) (((op_bin rfl (a1 := (.int .i64 ((s.size : Nat) : Int))) (a2 := (.int .i64 65535)) (by kernel_rfl) (by kernel_rfl) (fun _ => hb_gtr))).cast (lit_T (by omega))) ?_
  refine Walk.to_ (st' := ⟨[(.d (.sl l.length (bytesD l))), (.d (.lit (.string s))), (.tup []), (.tup []), (.d .nil), (.d (.lit (.int .i64 0))), (.tup []), (.d (.lit (.string s))), (.d (.lit (.int .i64 ((s.size : Nat) : Int)))), (.d (.lit (.bool true))), (.tup []), (.tup []), (.tup []), (.tup []), (.tup []), (.tup []), (.tup []), (.tup []), (.tup []), (.tup []), (.tup []), (.tup []), (.tup []), (.tup []), (.tup []), (.tup []), (.tup []), (.tup []), (.tup []), (.tup []), (.tup []), (.tup [])], [], 0⟩) (by kernel_rfl) ?_
  refine Walk.nil ?_
  refine Then.normal ?_
  refine AWP.if_ true (by kernel_rfl) ?_
  refine AWP.seq ?_
  refine AWP.text ?_
  refine Walk.yes (val := (.d .nil)) (bl := []) (by kernel_rfl) ((op_move rfl).cast (by kernel_rfl)) ?_
  refine Walk.yes (val := (.d (.lit (.int .i64 5)))) (bl := []) (by kernel_rfl) ((op_move rfl).cast (by kernel_rfl)) ?_
  refine Walk.to_ (st' := ⟨[(.d (.sl l.length (bytesD l))), (.d (.lit (.string s))), (.tup []), (.tup []), (.d .nil), (.d (.lit (.int .i64 5))), (.tup []), (.d (.lit (.string s))), (.d (.lit (.int .i64 ((s.size : Nat) : Int)))), (.d (.lit (.bool true))), (.tup []), (.tup []), (.tup []), (.tup []), (.tup []), (.tup []), (.tup []), (.tup []), (.tup []), (.tup []), (.tup []), (.tup []), (.tup []), (.tup []), (.tup []), (.tup []), (.tup []), (.tup []), (.tup []), (.tup []), (.tup []), (.tup [])], [], 0⟩) (by kernel_rfl) ?_
  refine Walk.nil ?_
  refine Then.normal ?_
  refine AWP.ret ?_
  refine Then.ret ?_
  exact ret_intro [] [(.d .nil), (.d (.lit (.int .i64 5)))] (by kernel_rfl) (by kernel_rfl) (trivial) (by kernel_rfl) ⟨Nat.le_of_ble_eq_true rfl, rfl⟩
set_option maxRecDepth 20000 in
set_option maxHeartbeats 4000000 in
theorem text_ok (l : List UInt8) (s : ByteArray) (hs : s.size ≤ 65535) (h0 : s.size ≠ 0) (hl : l.length ≤ 900000000) : GCall Try.prog 10 [(.d (.sl l.length (bytesD l))), (.d (.lit (.string s)))] [] (.tup [(.own 0), (.d (.lit (.int .i64 0)))]) [(.arr 5 1 ((l ++ beb 2 s.size ++ s.data.toList).length) (bytesD (l ++ beb 2 s.size ++ s.data.toList)))] := by
  refine GCall.of_body (n := 32) (rs := [(.tmp 4), (.tmp 5)]) Try.func10 rfl rfl rfl ?_
  refine AWP.to_ (st' := ⟨[(.d (.sl l.length (bytesD l))), (.d (.lit (.string s))), (.tup []), (.tup []), (.tup []), (.tup []), (.tup []), (.tup []), (.tup []), (.tup []), (.tup []), (.tup []), (.tup []), (.tup []), (.tup []), (.tup []), (.tup []), (.tup []), (.tup []), (.tup []), (.tup []), (.tup []), (.tup []), (.tup []), (.tup []), (.tup []), (.tup []), (.tup []), (.tup []), (.tup []), (.tup []), (.tup [])], [], 0⟩) (by kernel_rfl) ?_
  refine AWP.seq ?_
  refine AWP.text ?_
  refine Walk.yes (val := (.d .nil)) (bl := []) (by kernel_rfl) ((op_move rfl).cast (by kernel_rfl)) ?_
  refine Walk.yes (val := (.d (.lit (.int .i64 0)))) (bl := []) (by kernel_rfl) ((op_move rfl).cast (by kernel_rfl)) ?_
  refine Walk.to_ (st' := ⟨[(.d (.sl l.length (bytesD l))), (.d (.lit (.string s))), (.tup []), (.tup []), (.d .nil), (.d (.lit (.int .i64 0))), (.tup []), (.tup []), (.tup []), (.tup []), (.tup []), (.tup []), (.tup []), (.tup []), (.tup []), (.tup []), (.tup []), (.tup []), (.tup []), (.tup []), (.tup []), (.tup []), (.tup []), (.tup []), (.tup []), (.tup []), (.tup []), (.tup []), (.tup []), (.tup []), (.tup []), (.tup [])], [], 0⟩) (by kernel_rfl) ?_
  refine Walk.nil ?_
  refine Then.normal ?_
  refine AWP.seq ?_
  refine AWP.seq ?_
  refine AWP.text ?_
  refine Walk.yes (val := (.d (.lit (.string s)))) (bl := []) (by kernel_rfl) ((op_move rfl).cast (by kernel_rfl)) ?_
  refine Walk.yes (val := (.d (.lit (.int .i64 ((s.size : Nat) : Int))))) (bl := []) (by kernel_rfl) (op_len_str rfl (by kernel_rfl) (by kernel_rfl)) ?_
  refine Walk.yes (val := (.d (.lit (.bool false)))) (bl := []) (by kernel_rfl) (((op_bin rfl (a1 := (.int .i64 ((s.size : Nat) : Int))) (a2 := (.int .i64 65535)) (by kernel_rfl) (by kernel_rfl) (fun _ => hb_gtr))).cast (lit_F (by omega))) ?_
  refine Walk.to_ (st' := ⟨[(.d (.sl l.length (bytesD l))), (.d (.lit (.string s))), (.tup []), (.tup []), (.d .nil), (.d (.lit (.int .i64 0))), (.tup []), (.d (.lit (.string s))), (.d (.lit (.int .i64 ((s.size : Nat) : Int)))), (.d (.lit (.bool false))), (.tup []), (.tup []), (.tup []), (.tup []), (.tup []), (.tup []), (.tup []), (.tup []), (.tup []), (.tup []), (.tup []), (.tup []), (.tup []), (.tup []), (.tup []), (.tup []), (.tup []), (.tup []), (.tup []), (.tup []), (.tup []), (.tup [])], [], 0⟩) (by kernel_rfl) ?_
  refine Walk.nil ?_
  refine Then.normal ?_
  refine AWP.if_ false (by kernel_rfl) ?_
  refine AWP.skip ?_
  refine Then.normal ?_
  refine AWP.seq ?_
  refine AWP.text ?_
  refine Walk.yes (val := (.d (.sl l.length (bytesD l)))) (bl := []) (by kernel_rfl) ((op_move rfl).cast (by kernel_rfl)) ?_
  refine Walk.yes (val := (.d (.lit (.string s)))) (bl := []) (by kernel_rfl) ((op_move rfl).cast (by kernel_rfl)) ?_
  refine Walk.yes (val := (.d (.lit (.int .i64 ((s.size : Nat) : Int))))) (bl := []) (by kernel_rfl) (op_len_str rfl (by kernel_rfl) (by kernel_rfl)) ?_
  refine Walk.yes (val := (.d (.lit (.int .i64 ((2 + s.size : Nat) : Int))))) (bl := []) (by kernel_rfl) (((op_bin rfl (a1 := (.int .i64 2)) (a2 := (.int .i64 ((s.size : Nat) : Int))) (by kernel_rfl) (by kernel_rfl) (fun _ => hb_add))).cast (lit_i64 (by first | rfl | omega | (simp; done)) (by omega) (by omega))) ?_
  refine Walk.yes (val := (.own 0)) (bl := [(0, (.arr 5 1 ((l ++ List.replicate (2 + s.size) 0).length) (bytesD (l ++ List.replicate (2 + s.size) 0))))]) (by kernel_rfl) ((use_frozen [] [0] [] (grown_c l (2 + s.size) (by omega)) rfl (first := []) (cap := []) (by kernel_rfl) (fun args w => Try.call28 args w) (by kernel_rfl) trivial (by kernel_rfl) (post' := [(.arr 5 1 ((l ++ List.replicate (2 + s.size) 0).length) (bytesD (l ++ List.replicate (2 + s.size) 0)))]) (by kernel_rfl) (by kernel_rfl)).castB (by kernel_rfl)) ?_
  refine Walk.yes (val := (.own 0)) (bl := []) (by kernel_rfl) ((op_move rfl).cast (by kernel_rfl)) ?_
  refine Walk.to_ (st' := ⟨[(.d (.sl l.length (bytesD l))), (.d (.lit (.string s))), (.tup []), (.tup []), (.d .nil), (.d (.lit (.int .i64 0))), (.own 0), (.d (.lit (.string s))), (.d (.lit (.int .i64 ((s.size : Nat) : Int)))), (.d (.lit (.bool false))), (.d (.sl l.length (bytesD l))), (.d (.lit (.string s))), (.d (.lit (.int .i64 ((s.size : Nat) : Int)))), (.d (.lit (.int .i64 ((2 + s.size : Nat) : Int)))), (.own 0), (.tup []), (.tup []), (.tup []), (.tup []), (.tup []), (.tup []), (.tup []), (.tup []), (.tup []), (.tup []), (.tup []), (.tup []), (.tup []), (.tup []), (.tup []), (.tup []), (.tup [])], [(.arr 5 1 ((l ++ List.replicate (2 + s.size) 0).length) (bytesD (l ++ List.replicate (2 + s.size) 0)))], 0⟩) (by kernel_rfl) ?_
  refine Walk.nil ?_
  refine Then.normal ?_
  refine AWP.seq ?_
  refine AWP.text ?_
  refine Walk.yes (val := (.own 0)) (bl := []) (by kernel_rfl) ((op_move rfl).cast (by kernel_rfl)) ?_
  refine Walk.yes (val := (.d (.sl l.length (bytesD l)))) (bl := []) (by kernel_rfl) ((op_move rfl).cast (by kernel_rfl)) ?_
  refine Walk.yes (val := (.d (.lit (.int .i64 ((l.length : Nat) : Int))))) (bl := []) (by kernel_rfl) (op_len rfl (e := 5) (by kernel_rfl) (y := (.d (.sl l.length (bytesD l)))) (by kernel_rfl) (ds := (bytesD l)) (off := 0) (by kernel_rfl)) ?_
  refine Walk.yes (val := (.d (.lit (.int .i64 ((l.length + 2 : Nat) : Int))))) (bl := []) (by kernel_rfl) (((op_bin rfl (a1 := (.int .i64 ((l.length : Nat) : Int))) (a2 := (.int .i64 2)) (by kernel_rfl) (by kernel_rfl) (fun _ => hb_add))).cast (lit_i64 (by first | rfl | omega | (simp; done)) (by omega) (by omega))) ?_
  refine Walk.yes (val := (.sub 0 0 (l.length + 2))) (bl := []) (by kernel_rfl) (OpRun.cast (op_slice rfl (e := 5) (sz := 1) (by kernel_rfl) (y := (.own 0)) (by kernel_rfl) (ds := (bytesD (l ++ List.replicate (2 + s.size) 0))) (off := 0) (n := ((l ++ List.replicate (2 + s.size) 0).length)) (by kernel_rfl) (l := 0) (h := l.length + 2) (by exact rfl) (⟨.i64, ((l.length + 2 : Nat) : Int), by kernel_rfl, by rfl⟩) (by first | omega | (simp; done) | (simp; omega)) (by simp) (by first | exact .inr rfl | (left; omega) | (left; simp; omega)) (by first | trivial | (simp only [bytesD_length]; omega) | (simp; omega))) (by first | rfl | (congr 1; omega) | (simp [partA]; done))) ?_
  refine Walk.yes (val := (.d (.lit (.string s)))) (bl := []) (by kernel_rfl) ((op_move rfl).cast (by kernel_rfl)) ?_
  refine Walk.yes (val := (.d (.lit (.int .i64 ((s.size : Nat) : Int))))) (bl := []) (by kernel_rfl) (op_len_str rfl (by kernel_rfl) (by kernel_rfl)) ?_
  refine Walk.yes (val := (.d (.lit (.int .u64 ((s.size : Nat) : Int))))) (bl := []) (by kernel_rfl) ((op_convert rfl (a1 := (.int .i64 ((s.size : Nat) : Int))) (by kernel_rfl) (run_conv (ds := .int .i64) (k' := .u64) (by kernel_rfl) (by kernel_rfl))).cast (lit_u64 rfl (by omega) (by omega))) ?_
  refine Walk.yes (val := (.tup [])) (bl := [(0, (.arr 5 1 ((l ++ List.replicate (2 + s.size) 0).length) (bytesD (layn (l ++ List.replicate (2 + s.size) 0) (l.length + 2) 2 s.size))))]) (by kernel_rfl) ((use_frozen [0] [] [] (lay_sub (l ++ List.replicate (2 + s.size) 0) (l.length + 2) 2 s.size (by omega) (by simp) (by simp; omega) (by omega)) rfl (first := []) (cap := []) (by kernel_rfl) (fun args w => Try.call29 args w) (by kernel_rfl) ⟨rfl, trivial⟩ (by kernel_rfl) (post' := [(.arr 5 1 ((l ++ List.replicate (2 + s.size) 0).length) (bytesD (layn (l ++ List.replicate (2 + s.size) 0) (l.length + 2) 2 s.size)))]) (by kernel_rfl) (by kernel_rfl)).castB (by kernel_rfl)) ?_
  refine Walk.to_ (st' := ⟨[(.d (.sl l.length (bytesD l))), (.d (.lit (.string s))), (.tup []), (.tup []), (.d .nil), (.d (.lit (.int .i64 0))), (.own 0), (.d (.lit (.string s))), (.d (.lit (.int .i64 ((s.size : Nat) : Int)))), (.d (.lit (.bool false))), (.d (.sl l.length (bytesD l))), (.d (.lit (.string s))), (.d (.lit (.int .i64 ((s.size : Nat) : Int)))), (.d (.lit (.int .i64 ((2 + s.size : Nat) : Int)))), (.own 0), (.own 0), (.d (.sl l.length (bytesD l))), (.d (.lit (.int .i64 ((l.length : Nat) : Int)))), (.d (.lit (.int .i64 ((l.length + 2 : Nat) : Int)))), (.sub 0 0 (l.length + 2)), (.d (.lit (.string s))), (.d (.lit (.int .i64 ((s.size : Nat) : Int)))), (.d (.lit (.int .u64 ((s.size : Nat) : Int)))), (.tup []), (.tup []), (.tup []), (.tup []), (.tup []), (.tup []), (.tup []), (.tup []), (.tup [])], [(.arr 5 1 ((l ++ List.replicate (2 + s.size) 0).length) (bytesD (layn (l ++ List.replicate (2 + s.size) 0) (l.length + 2) 2 s.size)))], 0⟩) (by kernel_rfl) ?_
  refine Walk.nil ?_
  refine Then.normal ?_
  refine AWP.seq ?_
  refine AWP.text ?_
  refine Walk.yes (val := (.own 0)) (bl := []) (by kernel_rfl) ((op_move rfl).cast (by kernel_rfl)) ?_
  refine Walk.yes (val := (.d (.sl l.length (bytesD l)))) (bl := []) (by kernel_rfl) ((op_move rfl).cast (by kernel_rfl)) ?_
  refine Walk.yes (val := (.d (.lit (.int .i64 ((l.length : Nat) : Int))))) (bl := []) (by kernel_rfl) (op_len rfl (e := 5) (by kernel_rfl) (y := (.d (.sl l.length (bytesD l)))) (by kernel_rfl) (ds := (bytesD l)) (off := 0) (by kernel_rfl)) ?_
  refine Walk.yes (val := (.d (.lit (.int .i64 ((l.length + 2 : Nat) : Int))))) (bl := []) (by kernel_rfl) (((op_bin rfl (a1 := (.int .i64 ((l.length : Nat) : Int))) (a2 := (.int .i64 2)) (by kernel_rfl) (by kernel_rfl) (fun _ => hb_add))).cast (lit_i64 (by first | rfl | omega | (simp; done)) (by omega) (by omega))) ?_
  refine Walk.yes (val := (.sub 0 ((l.length + 2) * 1) s.size)) (bl := []) (by kernel_rfl) (OpRun.cast (op_slice rfl (e := 5) (sz := 1) (by kernel_rfl) (y := (.own 0)) (by kernel_rfl) (ds := (bytesD (layn (l ++ List.replicate (2 + s.size) 0) (l.length + 2) 2 s.size))) (off := 0) (n := ((l ++ List.replicate (2 + s.size) 0).length)) (by kernel_rfl) (l := l.length + 2) (h := (l ++ List.replicate (2 + s.size) 0).length) (⟨.i64, ((l.length + 2 : Nat) : Int), by kernel_rfl, by rfl⟩) (by exact rfl) (by simp) (by simp) (.inl (by simp; omega)) (by simp only [bytesD_length]; rw [layn_length (by omega) (by simp)]; simp; try omega)) (by simp [partA]; omega)) ?_
  refine Walk.yes (val := (.d (.lit (.string s)))) (bl := []) (by kernel_rfl) ((op_move rfl).cast (by kernel_rfl)) ?_
  refine Walk.yes (val := (.d (.lit (.int .i64 ((s.size : Nat) : Int))))) (bl := [(0, (.arr 5 1 ((l ++ beb 2 s.size ++ s.data.toList).length) (bytesD (l ++ beb 2 s.size ++ s.data.toList))))]) (by kernel_rfl) ((op_copyStr rfl (e := 5) (by kernel_rfl) (yd := (.sub 0 ((l.length + 2) * 1) s.size)) (by kernel_rfl) (id := 0) (off := ((l.length + 2) * 1)) (dn := s.size) (by kernel_rfl) (n := ((l ++ List.replicate (2 + s.size) 0).length)) (xs := (bytesD (layn (l ++ List.replicate (2 + s.size) 0) (l.length + 2) 2 s.size))) (by kernel_rfl) (str := s) (by kernel_rfl) (Nat.le_refl _) (by rw [bytesD_length, layn_length (by omega) (by simp)]; simp; try omega)).castB (bl_one (by simp [beb_length, size_list]; try omega) (text_put l s))) ?_
  refine Walk.to_ (st' := ⟨[(.d (.sl l.length (bytesD l))), (.d (.lit (.string s))), (.tup []), (.tup []), (.d .nil), (.d (.lit (.int .i64 0))), (.own 0), (.d (.lit (.string s))), (.d (.lit (.int .i64 ((s.size : Nat) : Int)))), (.d (.lit (.bool false))), (.d (.sl l.length (bytesD l))), (.d (.lit (.string s))), (.d (.lit (.int .i64 ((s.size : Nat) : Int)))), (.d (.lit (.int .i64 ((2 + s.size : Nat) : Int)))), (.own 0), (.own 0), (.d (.sl l.length (bytesD l))), (.d (.lit (.int .i64 ((l.length : Nat) : Int)))), (.d (.lit (.int .i64 ((l.length + 2 : Nat) : Int)))), (.sub 0 0 (l.length + 2)), (.d (.lit (.string s))), (.d (.lit (.int .i64 ((s.size : Nat) : Int)))), (.d (.lit (.int .u64 ((s.size : Nat) : Int)))), (.tup []), (.own 0), (.d (.sl l.length (bytesD l))), (.d (.lit (.int .i64 ((l.length : Nat) : Int)))), (.d (.lit (.int .i64 ((l.length + 2 : Nat) : Int)))), (.sub 0 ((l.length + 2) * 1) s.size), (.d (.lit (.string s))), (.d (.lit (.int .i64 ((s.size : Nat) : Int)))), (.tup [])], [(.arr 5 1 ((l ++ beb 2 s.size ++ s.data.toList).length) (bytesD (l ++ beb 2 s.size ++ s.data.toList)))], 0⟩) (by kernel_rfl) ?_
  refine Walk.nil ?_
  refine Then.normal ?_
  refine AWP.seq ?_
  refine AWP.text ?_
  refine Walk.yes (val := (.own 0)) (bl := []) (by kernel_rfl) ((op_move rfl).cast (by kernel_rfl)) ?_
  refine Walk.yes (val := (.own 0)) (bl := []) (by kernel_rfl) ((op_move rfl).cast (by kernel_rfl)) ?_
  refine Walk.yes (val := (.d (.lit (.int .i64 0)))) (bl := []) (by kernel_rfl) ((op_move rfl).cast (by kernel_rfl)) ?_
  refine Walk.to_ (st' := ⟨[(.d (.sl l.length (bytesD l))), (.d (.lit (.string s))), (.tup []), (.tup []), (.own 0), (.d (.lit (.int .i64 0))), (.own 0), (.d (.lit (.string s))), (.d (.lit (.int .i64 ((s.size : Nat) : Int)))), (.d (.lit (.bool false))), (.d (.sl l.length (bytesD l))), (.d (.lit (.string s))), (.d (.lit (.int .i64 ((s.size : Nat) : Int)))), (.d (.lit (.int .i64 ((2 + s.size : Nat) : Int)))), (.own 0), (.own 0), (.d (.sl l.length (bytesD l))), (.d (.lit (.int .i64 ((l.length : Nat) : Int)))), (.d (.lit (.int .i64 ((l.length + 2 : Nat) : Int)))), (.sub 0 0 (l.length + 2)), (.d (.lit (.string s))), (.d (.lit (.int .i64 ((s.size : Nat) : Int)))), (.d (.lit (.int .u64 ((s.size : Nat) : Int)))), (.tup []), (.own 0), (.d (.sl l.length (bytesD l))), (.d (.lit (.int .i64 ((l.length : Nat) : Int)))), (.d (.lit (.int .i64 ((l.length + 2 : Nat) : Int)))), (.sub 0 ((l.length + 2) * 1) s.size), (.d (.lit (.string s))), (.d (.lit (.int .i64 ((s.size : Nat) : Int)))), (.own 0)], [(.arr 5 1 ((l ++ beb 2 s.size ++ s.data.toList).length) (bytesD (l ++ beb 2 s.size ++ s.data.toList)))], 0⟩) (by kernel_rfl) ?_
  refine Walk.nil ?_
  refine Then.normal ?_
  refine AWP.ret ?_
  exact ret_intro [0] [(.own 0), (.d (.lit (.int .i64 0)))] (by kernel_rfl) (by kernel_rfl) (⟨arr_ren (by simp [beb_length, size_list]; try omega) (by rfl), trivial⟩) (by kernel_rfl) ⟨Nat.le_of_ble_eq_true rfl, rfl⟩
set_option maxRecDepth 20000 in
set_option maxHeartbeats 4000000 in
theorem text_mt (l : List UInt8) (s : ByteArray) (hs : s.size ≤ 65535) (h0 : s.size = 0) (hl : l.length ≤ 900000000) : GCall Try.prog 10 [(.d (.sl l.length (bytesD l))), (.d (.lit (.string s)))] [] (.tup [(.own 0), (.d (.lit (.int .i64 0)))]) [(.arr 5 1 ((l ++ beb 2 s.size ++ s.data.toList).length) (bytesD (l ++ beb 2 s.size ++ s.data.toList)))] := by
  refine GCall.of_body (n := 32) (rs := [(.tmp 4), (.tmp 5)]) Try.func10 rfl rfl rfl ?_
  refine AWP.to_ (st' := ⟨[(.d (.sl l.length (bytesD l))), (.d (.lit (.string s))), (.tup []), (.tup []), (.tup []), (.tup []), (.tup []), (.tup []), (.tup []), (.tup []), (.tup []), (.tup []), (.tup []), (.tup []), (.tup []), (.tup []), (.tup []), (.tup []), (.tup []), (.tup []), (.tup []), (.tup []), (.tup []), (.tup []), (.tup []), (.tup []), (.tup []), (.tup []), (.tup []), (.tup []), (.tup []), (.tup [])], [], 0⟩) (by kernel_rfl) ?_
  refine AWP.seq ?_
  refine AWP.text ?_
  refine Walk.yes (val := (.d .nil)) (bl := []) (by kernel_rfl) ((op_move rfl).cast (by kernel_rfl)) ?_
  refine Walk.yes (val := (.d (.lit (.int .i64 0)))) (bl := []) (by kernel_rfl) ((op_move rfl).cast (by kernel_rfl)) ?_
  refine Walk.to_ (st' := ⟨[(.d (.sl l.length (bytesD l))), (.d (.lit (.string s))), (.tup []), (.tup []), (.d .nil), (.d (.lit (.int .i64 0))), (.tup []), (.tup []), (.tup []), (.tup []), (.tup []), (.tup []), (.tup []), (.tup []), (.tup []), (.tup []), (.tup []), (.tup []), (.tup []), (.tup []), (.tup []), (.tup []), (.tup []), (.tup []), (.tup []), (.tup []), (.tup []), (.tup []), (.tup []), (.tup []), (.tup []), (.tup [])], [], 0⟩) (by kernel_rfl) ?_
  refine Walk.nil ?_
  refine Then.normal ?_
  refine AWP.seq ?_
  refine AWP.seq ?_
  refine AWP.text ?_
  refine Walk.yes (val := (.d (.lit (.string s)))) (bl := []) (by kernel_rfl) ((op_move rfl).cast (by kernel_rfl)) ?_
  refine Walk.yes (val := (.d (.lit (.int .i64 ((s.size : Nat) : Int))))) (bl := []) (by kernel_rfl) (op_len_str rfl (by kernel_rfl) (by kernel_rfl)) ?_
  refine Walk.yes (val := (.d (.lit (.bool false)))) (bl := []) (by kernel_rfl) (((op_bin rfl (a1 := (.int .i64 ((s.size : Nat) : Int))) (a2 := (.int .i64 65535)) (by kernel_rfl) (by kernel_rfl) (fun _ => hb_gtr))).cast (lit_F (by omega))) ?_
  refine Walk.to_ (st' := ⟨[(.d (.sl l.length (bytesD l))), (.d (.lit (.string s))), (.tup []), (.tup []), (.d .nil), (.d (.lit (.int .i64 0))), (.tup []), (.d (.lit (.string s))), (.d (.lit (.int .i64 ((s.size : Nat) : Int)))), (.d (.lit (.bool false))), (.tup []), (.tup []), (.tup []), (.tup []), (.tup []), (.tup []), (.tup []), (.tup []), (.tup []), (.tup []), (.tup []), (.tup []), (.tup []), (.tup []), (.tup []), (.tup []), (.tup []), (.tup []), (.tup []), (.tup []), (.tup []), (.tup [])], [], 0⟩) (by kernel_rfl) ?_
  refine Walk.nil ?_
  refine Then.normal ?_
  refine AWP.if_ false (by kernel_rfl) ?_
  refine AWP.skip ?_
  refine Then.normal ?_
  refine AWP.seq ?_
  refine AWP.text ?_
  refine Walk.yes (val := (.d (.sl l.length (bytesD l)))) (bl := []) (by kernel_rfl) ((op_move rfl).cast (by kernel_rfl)) ?_
  refine Walk.yes (val := (.d (.lit (.string s)))) (bl := []) (by kernel_rfl) ((op_move rfl).cast (by kernel_rfl)) ?_
  refine Walk.yes (val := (.d (.lit (.int .i64 ((s.size : Nat) : Int))))) (bl := []) (by kernel_rfl) (op_len_str rfl (by kernel_rfl) (by kernel_rfl)) ?_
  refine Walk.yes (val := (.d (.lit (.int .i64 ((2 + s.size : Nat) : Int))))) (bl := []) (by kernel_rfl) (((op_bin rfl (a1 := (.int .i64 2)) (a2 := (.int .i64 ((s.size : Nat) : Int))) (by kernel_rfl) (by kernel_rfl) (fun _ => hb_add))).cast (lit_i64 (by first | rfl | omega | (simp; done)) (by omega) (by omega))) ?_
  refine Walk.yes (val := (.own 0)) (bl := [(0, (.arr 5 1 ((l ++ List.replicate (2 + s.size) 0).length) (bytesD (l ++ List.replicate (2 + s.size) 0))))]) (by kernel_rfl) ((use_frozen [] [0] [] (grown_c l (2 + s.size) (by omega)) rfl (first := []) (cap := []) (by kernel_rfl) (fun args w => Try.call28 args w) (by kernel_rfl) trivial (by kernel_rfl) (post' := [(.arr 5 1 ((l ++ List.replicate (2 + s.size) 0).length) (bytesD (l ++ List.replicate (2 + s.size) 0)))]) (by kernel_rfl) (by kernel_rfl)).castB (by kernel_rfl)) ?_
  refine Walk.yes (val := (.own 0)) (bl := []) (by kernel_rfl) ((op_move rfl).cast (by kernel_rfl)) ?_
  refine Walk.to_ (st' := ⟨[(.d (.sl l.length (bytesD l))), (.d (.lit (.string s))), (.tup []), (.tup []), (.d .nil), (.d (.lit (.int .i64 0))), (.own 0), (.d (.lit (.string s))), (.d (.lit (.int .i64 ((s.size : Nat) : Int)))), (.d (.lit (.bool false))), (.d (.sl l.length (bytesD l))), (.d (.lit (.string s))), (.d (.lit (.int .i64 ((s.size : Nat) : Int)))), (.d (.lit (.int .i64 ((2 + s.size : Nat) : Int)))), (.own 0), (.tup []), (.tup []), (.tup []), (.tup []), (.tup []), (.tup []), (.tup []), (.tup []), (.tup []), (.tup []), (.tup []), (.tup []), (.tup []), (.tup []), (.tup []), (.tup []), (.tup [])], [(.arr 5 1 ((l ++ List.replicate (2 + s.size) 0).length) (bytesD (l ++ List.replicate (2 + s.size) 0)))], 0⟩) (by kernel_rfl) ?_
  refine Walk.nil ?_
  refine Then.normal ?_
  refine AWP.seq ?_
  refine AWP.text ?_
  refine Walk.yes (val := (.own 0)) (bl := []) (by kernel_rfl) ((op_move rfl).cast (by kernel_rfl)) ?_
  refine Walk.yes (val := (.d (.sl l.length (bytesD l)))) (bl := []) (by kernel_rfl) ((op_move rfl).cast (by kernel_rfl)) ?_
  refine Walk.yes (val := (.d (.lit (.int .i64 ((l.length : Nat) : Int))))) (bl := []) (by kernel_rfl) (op_len rfl (e := 5) (by kernel_rfl) (y := (.d (.sl l.length (bytesD l)))) (by kernel_rfl) (ds := (bytesD l)) (off := 0) (by kernel_rfl)) ?_
  refine Walk.yes (val := (.d (.lit (.int .i64 ((l.length + 2 : Nat) : Int))))) (bl := []) (by kernel_rfl) (((op_bin rfl (a1 := (.int .i64 ((l.length : Nat) : Int))) (a2 := (.int .i64 2)) (by kernel_rfl) (by kernel_rfl) (fun _ => hb_add))).cast (lit_i64 (by first | rfl | omega | (simp; done)) (by omega) (by omega))) ?_
  refine Walk.yes (val := (.sub 0 0 (l.length + 2))) (bl := []) (by kernel_rfl) (OpRun.cast (op_slice rfl (e := 5) (sz := 1) (by kernel_rfl) (y := (.own 0)) (by kernel_rfl) (ds := (bytesD (l ++ List.replicate (2 + s.size) 0))) (off := 0) (n := ((l ++ List.replicate (2 + s.size) 0).length)) (by kernel_rfl) (l := 0) (h := l.length + 2) (by exact rfl) (⟨.i64, ((l.length + 2 : Nat) : Int), by kernel_rfl, by rfl⟩) (by first | omega | (simp; done) | (simp; omega)) (by simp) (by first | exact .inr rfl | (left; omega) | (left; simp; omega)) (by first | trivial | (simp only [bytesD_length]; omega) | (simp; omega))) (by first | rfl | (congr 1; omega) | (simp [partA]; done))) ?_
  refine Walk.yes (val := (.d (.lit (.string s)))) (bl := []) (by kernel_rfl) ((op_move rfl).cast (by kernel_rfl)) ?_
  refine Walk.yes (val := (.d (.lit (.int .i64 ((s.size : Nat) : Int))))) (bl := []) (by kernel_rfl) (op_len_str rfl (by kernel_rfl) (by kernel_rfl)) ?_
  refine Walk.yes (val := (.d (.lit (.int .u64 ((s.size : Nat) : Int))))) (bl := []) (by kernel_rfl) ((op_convert rfl (a1 := (.int .i64 ((s.size : Nat) : Int))) (by kernel_rfl) (run_conv (ds := .int .i64) (k' := .u64) (by kernel_rfl) (by kernel_rfl))).cast (lit_u64 rfl (by omega) (by omega))) ?_
  refine Walk.yes (val := (.tup [])) (bl := [(0, (.arr 5 1 ((l ++ List.replicate (2 + s.size) 0).length) (bytesD (layn (l ++ List.replicate (2 + s.size) 0) (l.length + 2) 2 s.size))))]) (by kernel_rfl) ((use_frozen [0] [] [] (lay_sub (l ++ List.replicate (2 + s.size) 0) (l.length + 2) 2 s.size (by omega) (by simp) (by simp; omega) (by omega)) rfl (first := []) (cap := []) (by kernel_rfl) (fun args w => Try.call29 args w) (by kernel_rfl) ⟨rfl, trivial⟩ (by kernel_rfl) (post' := [(.arr 5 1 ((l ++ List.replicate (2 + s.size) 0).length) (bytesD (layn (l ++ List.replicate (2 + s.size) 0) (l.length + 2) 2 s.size)))]) (by kernel_rfl) (by kernel_rfl)).castB (by kernel_rfl)) ?_
  refine Walk.to_ (st' := ⟨[(.d (.sl l.length (bytesD l))), (.d (.lit (.string s))), (.tup []), (.tup []), (.d .nil), (.d (.lit (.int .i64 0))), (.own 0), (.d (.lit (.string s))), (.d (.lit (.int .i64 ((s.size : Nat) : Int)))), (.d (.lit (.bool false))), (.d (.sl l.length (bytesD l))), (.d (.lit (.string s))), (.d (.lit (.int .i64 ((s.size : Nat) : Int)))), (.d (.lit (.int .i64 ((2 + s.size : Nat) : Int)))), (.own 0), (.own 0), (.d (.sl l.length (bytesD l))), (.d (.lit (.int .i64 ((l.length : Nat) : Int)))), (.d (.lit (.int .i64 ((l.length + 2 : Nat) : Int)))), (.sub 0 0 (l.length + 2)), (.d (.lit (.string s))), (.d (.lit (.int .i64 ((s.size : Nat) : Int)))), (.d (.lit (.int .u64 ((s.size : Nat) : Int)))), (.tup []), (.tup []), (.tup []), (.tup []), (.tup []), (.tup []), (.tup []), (.tup []), (.tup [])], [(.arr 5 1 ((l ++ List.replicate (2 + s.size) 0).length) (bytesD (layn (l ++ List.replicate (2 + s.size) 0) (l.length + 2) 2 s.size)))], 0⟩) (by kernel_rfl) ?_
  refine Walk.nil ?_
  refine Then.normal ?_
  refine AWP.seq ?_
  refine AWP.text ?_
  refine Walk.yes (val := (.own 0)) (bl := []) (by kernel_rfl) ((op_move rfl).cast (by kernel_rfl)) ?_
  refine Walk.yes (val := (.d (.sl l.length (bytesD l)))) (bl := []) (by kernel_rfl) ((op_move rfl).cast (by kernel_rfl)) ?_
  refine Walk.yes (val := (.d (.lit (.int .i64 ((l.length : Nat) : Int))))) (bl := []) (by kernel_rfl) (op_len rfl (e := 5) (by kernel_rfl) (y := (.d (.sl l.length (bytesD l)))) (by kernel_rfl) (ds := (bytesD l)) (off := 0) (by kernel_rfl)) ?_
  refine Walk.yes (val := (.d (.lit (.int .i64 ((l.length + 2 : Nat) : Int))))) (bl := []) (by kernel_rfl) (((op_bin rfl (a1 := (.int .i64 ((l.length : Nat) : Int))) (a2 := (.int .i64 2)) (by kernel_rfl) (by kernel_rfl) (fun _ => hb_add))).cast (lit_i64 (by first | rfl | omega | (simp; done)) (by omega) (by omega))) ?_
  refine Walk.yes (val := (.d (.sl 0 []))) (bl := []) (by kernel_rfl) (op_sliceEmpty rfl (e := 5) (sz := 1) (by kernel_rfl) (y := (.own 0)) (by kernel_rfl) (ds := (bytesD (layn (l ++ List.replicate (2 + s.size) 0) (l.length + 2) 2 s.size))) (off := 0) (n := ((l ++ List.replicate (2 + s.size) 0).length)) (by kernel_rfl) (k := .i64) (v := ((l.length + 2 : Nat) : Int)) (by kernel_rfl) (by simp; omega)) ?_
  refine Walk.yes (val := (.d (.lit (.string s)))) (bl := []) (by kernel_rfl) ((op_move rfl).cast (by kernel_rfl)) ?_
  refine Walk.yes (val := (.d (.lit (.int .i64 0)))) (bl := []) (by kernel_rfl) (op_copyNone rfl (e := 5) (by kernel_rfl) (y := (.d (.sl 0 []))) (by kernel_rfl) (ds := []) (off := 0) (by kernel_rfl) (str := s) (by kernel_rfl)) ?_
  refine Walk.to_ (st' := ⟨[(.d (.sl l.length (bytesD l))), (.d (.lit (.string s))), (.tup []), (.tup []), (.d .nil), (.d (.lit (.int .i64 0))), (.own 0), (.d (.lit (.string s))), (.d (.lit (.int .i64 ((s.size : Nat) : Int)))), (.d (.lit (.bool false))), (.d (.sl l.length (bytesD l))), (.d (.lit (.string s))), (.d (.lit (.int .i64 ((s.size : Nat) : Int)))), (.d (.lit (.int .i64 ((2 + s.size : Nat) : Int)))), (.own 0), (.own 0), (.d (.sl l.length (bytesD l))), (.d (.lit (.int .i64 ((l.length : Nat) : Int)))), (.d (.lit (.int .i64 ((l.length + 2 : Nat) : Int)))), (.sub 0 0 (l.length + 2)), (.d (.lit (.string s))), (.d (.lit (.int .i64 ((s.size : Nat) : Int)))), (.d (.lit (.int .u64 ((s.size : Nat) : Int)))), (.tup []), (.own 0), (.d (.sl l.length (bytesD l))), (.d (.lit (.int .i64 ((l.length : Nat) : Int)))), (.d (.lit (.int .i64 ((l.length + 2 : Nat) : Int)))), (.d (.sl 0 [])), (.d (.lit (.string s))), (.d (.lit (.int .i64 0))), (.tup [])], [(.arr 5 1 ((l ++ List.replicate (2 + s.size) 0).length) (bytesD (layn (l ++ List.replicate (2 + s.size) 0) (l.length + 2) 2 s.size)))], 0⟩) (by kernel_rfl) ?_
  refine Walk.nil ?_
  refine Then.normal ?_
  refine AWP.seq ?_
  refine AWP.text ?_
  refine Walk.yes (val := (.own 0)) (bl := []) (by kernel_rfl) ((op_move rfl).cast (by kernel_rfl)) ?_
  refine Walk.yes (val := (.own 0)) (bl := []) (by kernel_rfl) ((op_move rfl).cast (by kernel_rfl)) ?_
  refine Walk.yes (val := (.d (.lit (.int .i64 0)))) (bl := []) (by kernel_rfl) ((op_move rfl).cast (by kernel_rfl)) ?_
  refine Walk.to_ (st' := ⟨[(.d (.sl l.length (bytesD l))), (.d (.lit (.string s))), (.tup []), (.tup []), (.own 0), (.d (.lit (.int .i64 0))), (.own 0), (.d (.lit (.string s))), (.d (.lit (.int .i64 ((s.size : Nat) : Int)))), (.d (.lit (.bool false))), (.d (.sl l.length (bytesD l))), (.d (.lit (.string s))), (.d (.lit (.int .i64 ((s.size : Nat) : Int)))), (.d (.lit (.int .i64 ((2 + s.size : Nat) : Int)))), (.own 0), (.own 0), (.d (.sl l.length (bytesD l))), (.d (.lit (.int .i64 ((l.length : Nat) : Int)))), (.d (.lit (.int .i64 ((l.length + 2 : Nat) : Int)))), (.sub 0 0 (l.length + 2)), (.d (.lit (.string s))), (.d (.lit (.int .i64 ((s.size : Nat) : Int)))), (.d (.lit (.int .u64 ((s.size : Nat) : Int)))), (.tup []), (.own 0), (.d (.sl l.length (bytesD l))), (.d (.lit (.int .i64 ((l.length : Nat) : Int)))), (.d (.lit (.int .i64 ((l.length + 2 : Nat) : Int)))), (.d (.sl 0 [])), (.d (.lit (.string s))), (.d (.lit (.int .i64 0))), (.own 0)], [(.arr 5 1 ((l ++ List.replicate (2 + s.size) 0).length) (bytesD (layn (l ++ List.replicate (2 + s.size) 0) (l.length + 2) 2 s.size)))], 0⟩) (by kernel_rfl) ?_
  refine Walk.nil ?_
  refine Then.normal ?_
  refine AWP.ret ?_
  exact ret_intro [0] [(.own 0), (.d (.lit (.int .i64 0)))] (by kernel_rfl) (by kernel_rfl) (⟨arr_ren (by simp [beb_length, size_list]; try omega) (by rw [text_end l h0]), trivial⟩) (by kernel_rfl) ⟨Nat.le_of_ble_eq_true rfl, rfl⟩
end Go.Proofs.Ytfklpnaklhcobaa.K
