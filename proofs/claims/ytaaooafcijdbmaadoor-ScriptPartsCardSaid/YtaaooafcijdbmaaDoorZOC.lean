/- octet: Text -/
import Derived.Test.YtaaooafcijdbmaaDoorZAm
set_option linter.unusedVariables false
set_option linter.unusedSimpArgs false
namespace Go.Proofs.YtaaooafcijdbmaaDoor.K
open Go.RowKit Go.Lib

theorem size_list (s : ByteArray) : s.data.toList.length = s.size := rfl
theorem text_lay (l : List UInt8) (n : Nat) : layn (l ++ List.replicate (2 + n) 0) (l.length + 2) 2 n = l ++ beb 2 n ++ List.replicate n 0 := by
  unfold layn
  rw [Nat.add_sub_cancel, List.take_left' rfl, List.drop_append, List.drop_of_length_le (by omega), List.append_assoc, Nat.add_sub_cancel_left]
  simp
theorem text_put (l : List UInt8) (s : ByteArray) : putC (bytesD (layn (l ++ List.replicate (2 + s.size) 0) (l.length + 2) 2 s.size)) ((l.length + 2) * 1) (bytesD s.data.toList) = bytesD (l ++ beb 2 s.size ++ s.data.toList) := by
  rw [text_lay, show l.length + 2 = (l ++ beb 2 s.size).length by simp [beb_length], put_bytes]
  simp
theorem text_end (l : List UInt8) {s : ByteArray} (h : s.size = 0) : layn (l ++ List.replicate (2 + s.size) 0) (l.length + 2) 2 s.size = l ++ beb 2 s.size ++ s.data.toList := by
  rw [text_lay, h]
  congr 1
  have : s.data.toList.length = 0 := h
  rw [List.length_eq_zero_iff.1 this]; rfl
set_option maxRecDepth 20000 in
set_option maxHeartbeats 4000000 in
theorem text_big (l : List UInt8) (s : ByteArray) (hs : 65535 < s.size) : GCall Tryd.prog 27 [(.d (.sl l.length (bytesD l))), (.d (.lit (.string s)))] [] (.tup [(.d (.sl 0 [])), (.d (.lit (.int .i64 5)))]) [] := by
  refine GCall.of_body (n := 32) (rs := [(.tmp 4), (.tmp 5)]) Tryd.func27 rfl rfl rfl ?_
  refine AWP.to_ (st' := ⟨[(.d (.sl l.length (bytesD l))), (.d (.lit (.string s))), (.tup []), (.tup []), (.tup []), (.tup []), (.tup []), (.tup []), (.tup []), (.tup []), (.tup []), (.tup []), (.tup []), (.tup []), (.tup []), (.tup []), (.tup []), (.tup []), (.tup []), (.tup []), (.tup []), (.tup []), (.tup []), (.tup []), (.tup []), (.tup []), (.tup []), (.tup []), (.tup []), (.tup []), (.tup []), (.tup [])], [], 0⟩) (by kernel_rfl) ?_
  refine AWP.seq ?_
  refine AWP.text ?_
  refine Walk.yes (val := (.d .nil)) (bl := []) (by kernel_rfl) ((op_move rfl).cast (by kernel_rfl)) ?_
  refine Walk.yes (val := (.d (.lit (.int .i64 0)))) (bl := []) (by kernel_rfl) ((op_move rfl).cast (by kernel_rfl)) ?_
  refine Walk.to_ (st' := ⟨[(.d (.sl l.length (bytesD l))), (.d (.lit (.string s))), (.tup []), (.tup []), (.d .nil), (.d (.lit (.int .i64 0))), (.tup []), (.tup []), (.tup []), (.tup []), (.tup []), (.tup []), (.tup []), (.tup []), (.tup []), (.tup []), (.tup []), (.tup []), (.tup []), (.tup []), (.tup []), (.tup []), (.tup []), (.tup []), (.tup []), (.tup []), (.tup []), (.tup []), (.tup []), (.tup []), (.tup []), (.tup [])], [], 0⟩) (by kernel_rfl) ?_
  refine Walk.nil ?_
  refine Then.normal ?_
  refine AWP.seq ?_
  refine AWP.seq ?_
  refine AWP.text ?_
  refine Walk.yes (val := (.d (.lit (.string s)))) (bl := []) (by kernel_rfl) ((op_move rfl).cast (by kernel_rfl)) ?_
  refine Walk.yes (val := (.d (.lit (.int .i64 ((s.size : Nat) : Int))))) (bl := []) (by kernel_rfl) (op_len_str rfl (by kernel_rfl) (by kernel_rfl)) ?_
  refine Walk.yes (val := (.d (.lit (.bool true)))) (bl := []) (by kernel_rfl) (((op_bin rfl (a1 := (.int .i64 ((s.size : Nat) : Int))) (a2 := (.int .i64 65535)) (by kernel_rfl) (by kernel_rfl) (fun _ => hb_gtr))).cast (lit_T (by omega))) ?_
  refine Walk.to_ (st' := ⟨[(.d (.sl l.length (bytesD l))), (.d (.lit (.string s))), (.tup []), (.tup []), (.d .nil), (.d (.lit (.int .i64 0))), (.tup []), (.d (.lit (.string s))), (.d (.lit (.int .i64 ((s.size : Nat) : Int)))), (.d (.lit (.bool true))), (.tup []), (.tup []), (.tup []), (.tup []), (.tup []), (.tup []), (.tup []), (.tup []), (.tup []), (.tup []), (.tup []), (.tup []), (.tup []), (.tup []), (.tup []), (.tup []), (.tup []), (.tup []), (.tup []), (.tup []), (.tup []), (.tup [])], [], 0⟩) (by kernel_rfl) ?_
  refine Walk.nil ?_
  refine Then.normal ?_
  refine AWP.if_ true (by kernel_rfl) ?_
  refine AWP.seq ?_
  refine AWP.text ?_
  refine Walk.yes (val := (.d .nil)) (bl := []) (by kernel_rfl) ((op_move rfl).cast (by kernel_rfl)) ?_
  refine Walk.yes (val := (.d (.lit (.int .i64 5)))) (bl := []) (by kernel_rfl) ((op_move rfl).cast (by kernel_rfl)) ?_
  refine Walk.to_ (st' := ⟨[(.d (.sl l.length (bytesD l))), (.d (.lit (.string s))), (.tup []), (.tup []), (.d .nil), (.d (.lit (.int .i64 5))), (.tup []), (.d (.lit (.string s))), (.d (.lit (.int .i64 ((s.size : Nat) : Int)))), (.d (.lit (.bool true))), (.tup []), (.tup []), (.tup []), (.tup []), (.tup []), (.tup []), (.tup []), (.tup []), (.tup []), (.tup []), (.tup []), (.tup []), (.tup []), (.tup []), (.tup []), (.tup []), (.tup []), (.tup []), (.tup []), (.tup []), (.tup []), (.tup [])], [], 0⟩) (by kernel_rfl) ?_
  refine Walk.nil ?_
  refine Then.normal ?_
  refine AWP.ret ?_
  refine Then.ret ?_
  exact ret_intro [] [(.d .nil), (.d (.lit (.int .i64 5)))] (by kernel_rfl) (by kernel_rfl) (trivial) (by kernel_rfl) ⟨Nat.le_of_ble_eq_true rfl, rfl⟩
set_option maxRecDepth 20000 in
set_option maxHeartbeats 4000000 in
theorem text_ok (l : List UInt8) (s : ByteArray) (hs : s.size ≤ 65535) (h0 : s.size ≠ 0) (hl : l.length ≤ 900000000) : GCall Tryd.prog 27 [(.d (.sl l.length (bytesD l))), (.d (.lit (.string s)))] [] (.tup [(.own 0), (.d (.lit (.int .i64 0)))]) [(.arr 5 1 ((l ++ beb 2 s.size ++ s.data.toList).length) (bytesD (l ++ beb 2 s.size ++ s.data.toList)))] := by
  refine GCall.of_body (n := 32) (rs := [(.tmp 4), (.tmp 5)]) Tryd.func27 rfl rfl rfl ?_
  refine AWP.to_ (st' := ⟨[(.d (.sl l.length (bytesD l))), (.d (.lit (.string s))), (.tup []), (.tup []), (.tup []), (.tup []), (.tup []), (.tup []), (.tup []), (.tup []), (.tup []), (.tup []), (.tup []), (.tup []), (.tup []), (.tup []), (.tup []), (.tup []), (.tup []), (.tup []), (.tup []), (.tup []), (.tup []), (.tup []), (.tup []), (.tup []), (.tup []), (.tup []), (.tup []), (.tup []), (.tup []), (.tup [])], [], 0⟩) (by kernel_rfl) ?_
  refine AWP.seq ?_
  refine AWP.text ?_
  refine Walk.yes (val := (.d .nil)) (bl := []) (by kernel_rfl) ((op_move rfl).cast (by kernel_rfl)) ?_
  refine Walk.yes (val := (.d (.lit (.int .i64 0)))) (bl := []) (by kernel_rfl) ((op_move rfl).cast (by kernel_rfl)) ?_
  refine Walk.to_ (st' := ⟨[(.d (.sl l.length (bytesD l))), (.d (.lit (.string s))), (.tup []), (.tup []), (.d .nil), (.d (.lit (.int .i64 0))), (.tup []), (.tup []), (.tup []), (.tup []), (.tup []), (.tup []), (.tup []), (.tup []), (.tup []), (.tup []), (.tup []), (.tup []), (.tup []), (.tup []), (.tup []), (.tup []), (.tup []), (.tup []), (.tup []), (.tup []), (.tup []), (.tup []), (.tup []), (.tup []), (.tup []), (.tup [])], [], 0⟩) (by kernel_rfl) ?_
  refine Walk.nil ?_
  refine Then.normal ?_
  refine AWP.seq ?_
  refine AWP.seq ?_
  refine AWP.text ?_
  refine Walk.yes (val := (.d (.lit (.string s)))) (bl := []) (by kernel_rfl) ((op_move rfl).cast (by kernel_rfl)) ?_
  refine Walk.yes (val := (.d (.lit (.int .i64 ((s.size : Nat) : Int))))) (bl := []) (by kernel_rfl) (op_len_str rfl (by kernel_rfl) (by kernel_rfl)) ?_
  refine Walk.yes (val := (.d (.lit (.bool false)))) (bl := []) (by kernel_rfl) (((op_bin rfl (a1 := (.int .i64 ((s.size : Nat) : Int))) (a2 := (.int .i64 65535)) (by kernel_rfl) (by kernel_rfl) (fun _ => hb_gtr))).cast (lit_F (by omega))) ?_
  refine Walk.to_ (st' := ⟨[(.d (.sl l.length (bytesD l))), (.d (.lit (.string s))), (.tup []), (.tup []), (.d .nil), (.d (.lit (.int .i64 0))), (.tup []), (.d (.lit (.string s))), (.d (.lit (.int .i64 ((s.size : Nat) : Int)))), (.d (.lit (.bool false))), (.tup []), (.tup []), (.tup []), (.tup []), (.tup []), (.tup []), (.tup []), (.tup []), (.tup []), (.tup []), (.tup []), (.tup []), (.tup []), (.tup []), (.tup []), (.tup []), (.tup []), (.tup []), (.tup []), (.tup []), (.tup []), (.tup [])], [], 0⟩) (by kernel_rfl) ?_
  refine Walk.nil ?_
  refine Then.normal ?_
  refine AWP.if_ false (by kernel_rfl) ?_
  refine AWP.skip ?_
  refine Then.normal ?_
  refine AWP.seq ?_
  refine AWP.text ?_
  refine Walk.yes (val := (.d (.sl l.length (bytesD l)))) (bl := []) (by kernel_rfl) ((op_move rfl).cast (by kernel_rfl)) ?_
  refine Walk.yes (val := (.d (.lit (.string s)))) (bl := []) (by kernel_rfl) ((op_move rfl).cast (by kernel_rfl)) ?_
  refine Walk.yes (val := (.d (.lit (.int .i64 ((s.size : Nat) : Int))))) (bl := []) (by kernel_rfl) (op_len_str rfl (by kernel_rfl) (by kernel_rfl)) ?_
  refine Walk.yes (val := (.d (.lit (.int .i64 ((2 + s.size : Nat) : Int))))) (bl := []) (by kernel_rfl) (((op_bin rfl (a1 := (.int .i64 2)) (a2 := (.int .i64 ((s.size : Nat) : Int))) (by kernel_rfl) (by kernel_rfl) (fun _ => hb_add))).cast (lit_i64 (by first | rfl | omega | (simp; done)) (by omega) (by omega))) ?_
  refine Walk.yes (val := (.own 0)) (bl := [(0, (.arr 5 1 ((l ++ List.replicate (2 + s.size) 0).length) (bytesD (l ++ List.replicate (2 + s.size) 0))))]) (by kernel_rfl) ((use_frozen [] [0] [] (grown_c l (2 + s.size) (by omega)) rfl (first := []) (cap := []) (by kernel_rfl) (fun args w => Tryd.call47 args w) (by kernel_rfl) trivial (by kernel_rfl) (post' := [(.arr 5 1 ((l ++ List.replicate (2 + s.size) 0).length) (bytesD (l ++ List.replicate (2 + s.size) 0)))]) (by kernel_rfl) (by kernel_rfl)).castB (by kernel_rfl)) ?_
  refine Walk.yes (val := (.own 0)) (bl := []) (by kernel_rfl) ((op_move rfl).cast (by kernel_rfl)) ?_
  refine Walk.to_ (st' := ⟨[(.d (.sl l.length (bytesD l))), (.d (.lit (.string s))), (.tup []), (.tup []), (.d .nil), (.d (.lit (.int .i64 0))), (.own 0), (.d (.lit (.string s))), (.d (.lit (.int .i64 ((s.size : Nat) : Int)))), (.d (.lit (.bool false))), (.d (.sl l.length (bytesD l))), (.d (.lit (.string s))), (.d (.lit (.int .i64 ((s.size : Nat) : Int)))), (.d (.lit (.int .i64 ((2 + s.size : Nat) : Int)))), (.own 0), (.tup []), (.tup []), (.tup []), (.tup []), (.tup []), (.tup []), (.tup []), (.tup []), (.tup []), (.tup []), (.tup []), (.tup []), (.tup []), (.tup []), (.tup []), (.tup []), (.tup [])], [(.arr 5 1 ((l ++ List.replicate (2 + s.size) 0).length) (bytesD (l ++ List.replicate (2 + s.size) 0)))], 0⟩) (by kernel_rfl) ?_
  refine Walk.nil ?_
  refine Then.normal ?_
  refine AWP.seq ?_
  refine AWP.text ?_
  refine Walk.yes (val := (.own 0)) (bl := []) (by kernel_rfl) ((op_move rfl).cast (by kernel_rfl)) ?_
  refine Walk.yes (val := (.d (.sl l.length (bytesD l)))) (bl := []) (by kernel_rfl) ((op_move rfl).cast (by kernel_rfl)) ?_
  refine Walk.yes (val := (.d (.lit (.int .i64 ((l.length : Nat) : Int))))) (bl := []) (by kernel_rfl) (op_len rfl (e := 5) (by kernel_rfl) (y := (.d (.sl l.length (bytesD l)))) (by kernel_rfl) (ds := (bytesD l)) (off := 0) (by kernel_rfl)) ?_
  refine Walk.yes (val := (.d (.lit (.int .i64 ((l.length + 2 : Nat) : Int))))) (bl := []) (by kernel_rfl) (((op_bin rfl (a1 := (.int .i64 ((l.length : Nat) : Int))) (a2 := (.int .i64 2)) (by kernel_rfl) (by kernel_rfl) (fun _ => hb_add))).cast (lit_i64 (by first | rfl | omega | (simp; done)) (by omega) (by omega))) ?_
  refine Walk.yes (val := (.sub 0 0 (l.length + 2))) (bl := []) (by kernel_rfl) (OpRun.cast (op_slice rfl (e := 5) (sz := 1) (by kernel_rfl) (y := (.own 0)) (by kernel_rfl) (ds := (bytesD (l ++ List.replicate (2 + s.size) 0))) (off := 0) (n := ((l ++ List.replicate (2 + s.size) 0).length)) (by kernel_rfl) (l := 0) (h := l.length + 2) (by exact rfl) (⟨.i64, ((l.length + 2 : Nat) : Int), by kernel_rfl, by rfl⟩) (by first | omega | (simp; done) | (simp; omega)) (by simp) (by first | exact .inr rfl | (left; omega) | (left; simp; omega)) (by first | trivial | (simp only [bytesD_length]; omega) | (simp; omega))) (by first | rfl | (congr 1; omega) | (simp [partA]; done))) ?_
  refine Walk.yes (val := (.d (.lit (.string s)))) (bl := []) (by kernel_rfl) ((op_move rfl).cast (by kernel_rfl)) ?_
  refine Walk.yes (val := (.d (.lit (.int .i64 ((s.size : Nat) : Int))))) (bl := []) (by kernel_rfl) (op_len_str rfl (by kernel_rfl) (by kernel_rfl)) ?_
  refine Walk.yes (val := (.d (.lit (.int .u64 ((s.size : Nat) : Int))))) (bl := []) (by kernel_rfl) ((op_convert rfl (a1 := (.int .i64 ((s.size : Nat) : Int))) (by kernel_rfl) (run_conv (ds := .int .i64) (k' := .u64) (by kernel_rfl) (by kernel_rfl))).cast (lit_u64 rfl (by omega) (by omega))) ?_
  refine Walk.yes (val := (.tup [])) (bl := [(0, (.arr 5 1 ((l ++ List.replicate (2 + s.size) 0).length) (bytesD (layn (l ++ List.replicate (2 + s.size) 0) (l.length + 2) 2 s.size))))]) (by kernel_rfl) ((use_frozen [0] [] [] (lay_sub (l ++ List.replicate (2 + s.size) 0) (l.length + 2) 2 s.size (by omega) (by simp) (by simp; omega) (by omega)) rfl (first := []) (cap := []) (by kernel_rfl) (fun args w => Tryd.call48 args w) (by kernel_rfl) ⟨rfl, trivial⟩ (by kernel_rfl) (post' := [(.arr 5 1 ((l ++ List.replicate (2 + s.size) 0).length) (bytesD (layn (l ++ List.replicate (2 + s.size) 0) (l.length + 2) 2 s.size)))]) (by kernel_rfl) (by kernel_rfl)).castB (by kernel_rfl)) ?_
  refine Walk.to_ (st' := ⟨[(.d (.sl l.length (bytesD l))), (.d (.lit (.string s))), (.tup []), (.tup []), (.d .nil), (.d (.lit (.int .i64 0))), (.own 0), (.d (.lit (.string s))), (.d (.lit (.int .i64 ((s.size : Nat) : Int)))), (.d (.lit (.bool false))), (.d (.sl l.length (bytesD l))), (.d (.lit (.string s))), (.d (.lit (.int .i64 ((s.size : Nat) : Int)))), (.d (.lit (.int .i64 ((2 + s.size : Nat) : Int)))), (.own 0), (.own 0), (.d (.sl l.length (bytesD l))), (.d (.lit (.int .i64 ((l.length : Nat) : Int)))), (.d (.lit (.int .i64 ((l.length + 2 : Nat) : Int)))), (.sub 0 0 (l.length + 2)), (.d (.lit (.string s))), (.d (.lit (.int .i64 ((s.size : Nat) : Int)))), (.d (.lit (.int .u64 ((s.size : Nat) : Int)))), (.tup []), (.tup []), (.tup []), (.tup []), (.tup []), (.tup []), (.tup []), (.tup []), (.tup [])], [(.arr 5 1 ((l ++ List.replicate (2 + s.size) 0).length) (bytesD (layn (l ++ List.replicate (2 + s.size) 0) (l.length + 2) 2 s.size)))], 0⟩) (by kernel_rfl) ?_
  refine Walk.nil ?_
  refine Then.normal ?_
  refine AWP.seq ?_
  refine AWP.text ?_
  refine Walk.yes (val := (.own 0)) (bl := []) (by kernel_rfl) ((op_move rfl).cast (by kernel_rfl)) ?_
  refine Walk.yes (val := (.d (.sl l.length (bytesD l)))) (bl := []) (by kernel_rfl) ((op_move rfl).cast (by kernel_rfl)) ?_
  refine Walk.yes (val := (.d (.lit (.int .i64 ((l.length : Nat) : Int))))) (bl := []) (by kernel_rfl) (op_len rfl (e := 5) (by kernel_rfl) (y := (.d (.sl l.length (bytesD l)))) (by kernel_rfl) (ds := (bytesD l)) (off := 0) (by kernel_rfl)) ?_
  refine Walk.yes (val := (.d (.lit (.int .i64 ((l.length + 2 : Nat) : Int))))) (bl := []) (by kernel_rfl) (((op_bin rfl (a1 := (.int .i64 ((l.length : Nat) : Int))) (a2 := (.int .i64 2)) (by kernel_rfl) (by kernel_rfl) (fun _ => hb_add))).cast (lit_i64 (by first | rfl | omega | (simp; done)) (by omega) (by omega))) ?_
  refine Walk.yes (val := (.sub 0 ((l.length + 2) * 1) s.size)) (bl := []) (by kernel_rfl) (OpRun.cast (op_slice rfl (e := 5) (sz := 1) (by kernel_rfl) (y := (.own 0)) (by kernel_rfl) (ds := (bytesD (layn (l ++ List.replicate (2 + s.size) 0) (l.length + 2) 2 s.size))) (off := 0) (n := ((l ++ List.replicate (2 + s.size) 0).length)) (by kernel_rfl) (l := l.length + 2) (h := (l ++ List.replicate (2 + s.size) 0).length) (⟨.i64, ((l.length + 2 : Nat) : Int), by kernel_rfl, by rfl⟩) (by exact rfl) (by simp) (by simp) (.inl (by simp; omega)) (by simp only [bytesD_length]; rw [layn_length (by omega) (by simp)]; simp; try omega)) (by simp [partA]; omega)) ?_
  refine Walk.yes (val := (.d (.lit (.string s)))) (bl := []) (by kernel_rfl) ((op_move rfl).cast (by kernel_rfl)) ?_
  refine Walk.yes (val := (.d (.lit (.int .i64 ((s.size : Nat) : Int))))) (bl := [(0, (.arr 5 1 ((l ++ beb 2 s.size ++ s.data.toList).length) (bytesD (l ++ beb 2 s.size ++ s.data.toList))))]) (by kernel_rfl) ((op_copyStr rfl (e := 5) (by kernel_rfl) (yd := (.sub 0 ((l.length + 2) * 1) s.size)) (by kernel_rfl) (id := 0) (off := ((l.length + 2) * 1)) (dn := s.size) (by kernel_rfl) (n := ((l ++ List.replicate (2 + s.size) 0).length)) (xs := (bytesD (layn (l ++ List.replicate (2 + s.size) 0) (l.length + 2) 2 s.size))) (by kernel_rfl) (str := s) (by kernel_rfl) (Nat.le_refl _) (by rw [bytesD_length, layn_length (by omega) (by simp)]; simp; try omega)).castB (bl_one (by simp [beb_length, size_list]; try omega) (text_put l s))) ?_
  refine Walk.to_ (st' := ⟨[(.d (.sl l.length (bytesD l))), (.d (.lit (.string s))), (.tup []), (.tup []), (.d .nil), (.d (.lit (.int .i64 0))), (.own 0), (.d (.lit (.string s))), (.d (.lit (.int .i64 ((s.size : Nat) : Int)))), (.d (.lit (.bool false))), (.d (.sl l.length (bytesD l))), (.d (.lit (.string s))), (.d (.lit (.int .i64 ((s.size : Nat) : Int)))), (.d (.lit (.int .i64 ((2 + s.size : Nat) : Int)))), (.own 0), (.own 0), (.d (.sl l.length (bytesD l))), (.d (.lit (.int .i64 ((l.length : Nat) : Int)))), (.d (.lit (.int .i64 ((l.length + 2 : Nat) : Int)))), (.sub 0 0 (l.length + 2)), (.d (.lit (.string s))), (.d (.lit (.int .i64 ((s.size : Nat) : Int)))), (.d (.lit (.int .u64 ((s.size : Nat) : Int)))), (.tup []), (.own 0), (.d (.sl l.length (bytesD l))), (.d (.lit (.int .i64 ((l.length : Nat) : Int)))), (.d (.lit (.int .i64 ((l.length + 2 : Nat) : Int)))), (.sub 0 ((l.length + 2) * 1) s.size), (.d (.lit (.string s))), (.d (.lit (.int .i64 ((s.size : Nat) : Int)))), (.tup [])], [(.arr 5 1 ((l ++ beb 2 s.size ++ s.data.toList).length) (bytesD (l ++ beb 2 s.size ++ s.data.toList)))], 0⟩) (by kernel_rfl) ?_
  refine Walk.nil ?_
  refine Then.normal ?_
  refine AWP.seq ?_
  refine AWP.text ?_
  refine Walk.yes (val := (.own 0)) (bl := []) (by kernel_rfl) ((op_move rfl).cast (by kernel_rfl)) ?_
  refine Walk.yes (val := (.own 0)) (bl := []) (by kernel_rfl) ((op_move rfl).cast (by kernel_rfl)) ?_
  refine Walk.yes (val := (.d (.lit (.int .i64 0)))) (bl := []) (by kernel_rfl) ((op_move rfl).cast (by kernel_rfl)) ?_
  refine Walk.to_ (st' := ⟨[(.d (.sl l.length (bytesD l))), (.d (.lit (.string s))), (.tup []), (.tup []), (.own 0), (.d (.lit (.int .i64 0))), (.own 0), (.d (.lit (.string s))), (.d (.lit (.int .i64 ((s.size : Nat) : Int)))), (.d (.lit (.bool false))), (.d (.sl l.length (bytesD l))), (.d (.lit (.string s))), (.d (.lit (.int .i64 ((s.size : Nat) : Int)))), (.d (.lit (.int .i64 ((2 + s.size : Nat) : Int)))), (.own 0), (.own 0), (.d (.sl l.length (bytesD l))), (.d (.lit (.int .i64 ((l.length : Nat) : Int)))), (.d (.lit (.int .i64 ((l.length + 2 : Nat) : Int)))), (.sub 0 0 (l.length + 2)), (.d (.lit (.string s))), (.d (.lit (.int .i64 ((s.size : Nat) : Int)))), (.d (.lit (.int .u64 ((s.size : Nat) : Int)))), (.tup []), (.own 0), (.d (.sl l.length (bytesD l))), (.d (.lit (.int .i64 ((l.length : Nat) : Int)))), (.d (.lit (.int .i64 ((l.length + 2 : Nat) : Int)))), (.sub 0 ((l.length + 2) * 1) s.size), (.d (.lit (.string s))), (.d (.lit (.int .i64 ((s.size : Nat) : Int)))), (.own 0)], [(.arr 5 1 ((l ++ beb 2 s.size ++ s.data.toList).length) (bytesD (l ++ beb 2 s.size ++ s.data.toList)))], 0⟩) (by kernel_rfl) ?_
  refine Walk.nil ?_
  refine Then.normal ?_
  refine AWP.ret ?_
  exact ret_intro [0] [(.own 0), (.d (.lit (.int .i64 0)))] (by kernel_rfl) (by kernel_rfl) (⟨arr_ren (by simp [beb_length, size_list]; try omega) (by rfl), trivial⟩) (by kernel_rfl) ⟨Nat.le_of_ble_eq_true rfl, rfl⟩
set_option maxRecDepth 20000 in
set_option maxHeartbeats 4000000 in
theorem text_mt (l : List UInt8) (s : ByteArray) (hs : s.size ≤ 65535) (h0 : s.size = 0) (hl : l.length ≤ 900000000) : GCall Tryd.prog 27 [(.d (.sl l.length (bytesD l))), (.d (.lit (.string s)))] [] (.tup [(.own 0), (.d (.lit (.int .i64 0)))]) [(.arr 5 1 ((l ++ beb 2 s.size ++ s.data.toList).length) (bytesD (l ++ beb 2 s.size ++ s.data.toList)))] := by
  refine GCall.of_body (n := 32) (rs := [(.tmp 4), (.tmp 5)]) Tryd.func27 rfl rfl rfl ?_
  refine AWP.to_ (st' := ⟨[(.d (.sl l.length (bytesD l))), (.d (.lit (.string s))), (.tup []), (.tup []), (.tup []), (.tup []), (.tup []), (.tup []), (.tup []), (.tup []), (.tup []), (.tup []), (.tup []), (.tup []), (.tup []), (.tup []), (.tup []), (.tup []), (.tup []), (.tup []), (.tup []), (.tup []), (.tup []), (.tup []), (.tup []), (.tup []), (.tup []), (.tup []), (.tup []), (.tup []), (.tup []), (.tup [])], [], 0⟩) (by kernel_rfl) ?_
  refine AWP.seq ?_
  refine AWP.text ?_
  refine Walk.yes (val := (.d .nil)) (bl := []) (by kernel_rfl) ((op_move rfl).cast (by kernel_rfl)) ?_
  refine Walk.yes (val := (.d (.lit (.int .i64 0)))) (bl := []) (by kernel_rfl) ((op_move rfl).cast (by kernel_rfl)) ?_
  refine Walk.to_ (st' := ⟨[(.d (.sl l.length (bytesD l))), (.d (.lit (.string s))), (.tup []), (.tup []), (.d .nil), (.d (.lit (.int .i64 0))), (.tup []), (.tup []), (.tup []), (.tup []), (.tup []), (.tup []), (.tup []), (.tup []), (.tup []), (.tup []), (.tup []), (.tup []), (.tup []), (.tup []), (.tup []), (.tup []), (.tup []), (.tup []), (.tup []), (.tup []), (.tup []), (.tup []), (.tup []), (.tup []), (.tup []), (.tup [])], [], 0⟩) (by kernel_rfl) ?_
  refine Walk.nil ?_
  refine Then.normal ?_
  refine AWP.seq ?_
  refine AWP.seq ?_
  refine AWP.text ?_
  refine Walk.yes (val := (.d (.lit (.string s)))) (bl := []) (by kernel_rfl) ((op_move rfl).cast (by kernel_rfl)) ?_
  refine Walk.yes (val := (.d (.lit (.int .i64 ((s.size : Nat) : Int))))) (bl := []) (by kernel_rfl) (op_len_str rfl (by kernel_rfl) (by kernel_rfl)) ?_
  refine Walk.yes (val := (.d (.lit (.bool false)))) (bl := []) (by kernel_rfl) (((op_bin rfl (a1 := (.int .i64 ((s.size : Nat) : Int))) (a2 := (.int .i64 65535)) (by kernel_rfl) (by kernel_rfl) (fun _ => hb_gtr))).cast (lit_F (by omega))) ?_
  refine Walk.to_ (st' := ⟨[(.d (.sl l.length (bytesD l))), (.d (.lit (.string s))), (.tup []), (.tup []), (.d .nil), (.d (.lit (.int .i64 0))), (.tup []), (.d (.lit (.string s))), (.d (.lit (.int .i64 ((s.size : Nat) : Int)))), (.d (.lit (.bool false))), (.tup []), (.tup []), (.tup []), (.tup []), (.tup []), (.tup []), (.tup []), (.tup []), (.tup []), (.tup []), (.tup []), (.tup []), (.tup []), (.tup []), (.tup []), (.tup []), (.tup []), (.tup []), (.tup []), (.tup []), (.tup []), (.tup [])], [], 0⟩) (by kernel_rfl) ?_
  refine Walk.nil ?_
  refine Then.normal ?_
  refine AWP.if_ false (by kernel_rfl) ?_
  refine AWP.skip ?_
  refine Then.normal ?_
  refine AWP.seq ?_
  refine AWP.text ?_
  refine Walk.yes (val := (.d (.sl l.length (bytesD l)))) (bl := []) (by kernel_rfl) ((op_move rfl).cast (by kernel_rfl)) ?_
  refine Walk.yes (val := (.d (.lit (.string s)))) (bl := []) (by kernel_rfl) ((op_move rfl).cast (by kernel_rfl)) ?_
  refine Walk.yes (val := (.d (.lit (.int .i64 ((s.size : Nat) : Int))))) (bl := []) (by kernel_rfl) (op_len_str rfl (by kernel_rfl) (by kernel_rfl)) ?_
  refine Walk.yes (val := (.d (.lit (.int .i64 ((2 + s.size : Nat) : Int))))) (bl := []) (by kernel_rfl) (((op_bin rfl (a1 := (.int .i64 2)) (a2 := (.int .i64 ((s.size : Nat) : Int))) (by kernel_rfl) (by kernel_rfl) (fun _ => hb_add))).cast (lit_i64 (by first | rfl | omega | (simp; done)) (by omega) (by omega))) ?_
  refine Walk.yes (val := (.own 0)) (bl := [(0, (.arr 5 1 ((l ++ List.replicate (2 + s.size) 0).length) (bytesD (l ++ List.replicate (2 + s.size) 0))))]) (by kernel_rfl) ((use_frozen [] [0] [] (grown_c l (2 + s.size) (by omega)) rfl (first := []) (cap := []) (by kernel_rfl) (fun args w => Tryd.call47 args w) (by kernel_rfl) trivial (by kernel_rfl) (post' := [(.arr 5 1 ((l ++ List.replicate (2 + s.size) 0).length) (bytesD (l ++ List.replicate (2 + s.size) 0)))]) (by kernel_rfl) (by kernel_rfl)).castB (by kernel_rfl)) ?_
  refine Walk.yes (val := (.own 0)) (bl := []) (by kernel_rfl) ((op_move rfl).cast (by kernel_rfl)) ?_
  refine Walk.to_ (st' := ⟨[(.d (.sl l.length (bytesD l))), (.d (.lit (.string s))), (.tup []), (.tup []), (.d .nil), (.d (.lit (.int .i64 0))), (.own 0), (.d (.lit (.string s))), (.d (.lit (.int .i64 ((s.size : Nat) : Int)))), (.d (.lit (.bool false))), (.d (.sl l.length (bytesD l))), (.d (.lit (.string s))), (.d (.lit (.int .i64 ((s.size : Nat) : Int)))), (.d (.lit (.int .i64 ((2 + s.size : Nat) : Int)))), (.own 0), (.tup []), (.tup []), (.tup []), (.tup []), (.tup []), (.tup []), (.tup []), (.tup []), (.tup []), (.tup []), (.tup []), (.tup []), (.tup []), (.tup []), (.tup []), (.tup []), (.tup [])], [(.arr 5 1 ((l ++ List.replicate (2 + s.size) 0).length) (bytesD (l ++ List.replicate (2 + s.size) 0)))], 0⟩) (by kernel_rfl) ?_
  refine Walk.nil ?_
  refine Then.normal ?_
  refine AWP.seq ?_
  refine AWP.text ?_
  refine Walk.yes (val := (.own 0)) (bl := []) (by kernel_rfl) ((op_move rfl).cast (by kernel_rfl)) ?_
  refine Walk.yes (val := (.d (.sl l.length (bytesD l)))) (bl := []) (by kernel_rfl) ((op_move rfl).cast (by kernel_rfl)) ?_
  refine Walk.yes (val := (.d (.lit (.int .i64 ((l.length : Nat) : Int))))) (bl := []) (by kernel_rfl) (op_len rfl (e := 5) (by kernel_rfl) (y := (.d (.sl l.length (bytesD l)))) (by kernel_rfl) (ds := (bytesD l)) (off := 0) (by kernel_rfl)) ?_
  refine Walk.yes (val := (.d (.lit (.int .i64 ((l.length + 2 : Nat) : Int))))) (bl := []) (by kernel_rfl) (((op_bin rfl (a1 := (.int .i64 ((l.length : Nat) : Int))) (a2 := (.int .i64 2)) (by kernel_rfl) (by kernel_rfl) (fun _ => hb_add))).cast (lit_i64 (by first | rfl | omega | (simp; done)) (by omega) (by omega))) ?_
  refine Walk.yes (val := (.sub 0 0 (l.length + 2))) (bl := []) (by kernel_rfl) (OpRun.cast (op_slice rfl (e := 5) (sz := 1) (by kernel_rfl) (y := (.own 0)) (by kernel_rfl) (ds := (bytesD (l ++ List.replicate (2 + s.size) 0))) (off := 0) (n := ((l ++ List.replicate (2 + s.size) 0).length)) (by kernel_rfl) (l := 0) (h := l.length + 2) (by exact rfl) (⟨.i64, ((l.length + 2 : Nat) : Int), by kernel_rfl, by rfl⟩) (by first | omega | (simp; done) | (simp; omega)) (by simp) (by first | exact .inr rfl | (left; omega) | (left; simp; omega)) (by first | trivial | (simp only [bytesD_length]; omega) | (simp; omega))) (by first | rfl | (congr 1; omega) | (simp [partA]; done))) ?_
  refine Walk.yes (val := (.d (.lit (.string s)))) (bl := []) (by kernel_rfl) ((op_move rfl).cast (by kernel_rfl)) ?_
  refine Walk.yes (val := (.d (.lit (.int .i64 ((s.size : Nat) : Int))))) (bl := []) (by kernel_rfl) (op_len_str rfl (by kernel_rfl) (by kernel_rfl)) ?_
  refine Walk.yes (val := (.d (.lit (.int .u64 ((s.size : Nat) : Int))))) (bl := []) (by kernel_rfl) ((op_convert rfl (a1 := (.int .i64 ((s.size : Nat) : Int))) (by kernel_rfl) (run_conv (ds := .int .i64) (k' := .u64) (by kernel_rfl) (by kernel_rfl))).cast (lit_u64 rfl (by omega) (by omega))) ?_
  refine Walk.yes (val := (.tup [])) (bl := [(0, (.arr 5 1 ((l ++ List.replicate (2 + s.size) 0).length) (bytesD (layn (l ++ List.replicate (2 + s.size) 0) (l.length + 2) 2 s.size))))]) (by kernel_rfl) ((use_frozen [0] [] [] (lay_sub (l ++ List.replicate (2 + s.size) 0) (l.length + 2) 2 s.size (by omega) (by simp) (by simp; omega) (by omega)) rfl (first := []) (cap := []) (by kernel_rfl) (fun args w => Tryd.call48 args w) (by kernel_rfl) ⟨rfl, trivial⟩ (by kernel_rfl) (post' := [(.arr 5 1 ((l ++ List.replicate (2 + s.size) 0).length) (bytesD (layn (l ++ List.replicate (2 + s.size) 0) (l.length + 2) 2 s.size)))]) (by kernel_rfl) (by kernel_rfl)).castB (by kernel_rfl)) ?_
  refine Walk.to_ (st' := ⟨[(.d (.sl l.length (bytesD l))), (.d (.lit (.string s))), (.tup []), (.tup []), (.d .nil), (.d (.lit (.int .i64 0))), (.own 0), (.d (.lit (.string s))), (.d (.lit (.int .i64 ((s.size : Nat) : Int)))), (.d (.lit (.bool false))), (.d (.sl l.length (bytesD l))), (.d (.lit (.string s))), (.d (.lit (.int .i64 ((s.size : Nat) : Int)))), (.d (.lit (.int .i64 ((2 + s.size : Nat) : Int)))), (.own 0), (.own 0), (.d (.sl l.length (bytesD l))), (.d (.lit (.int .i64 ((l.length : Nat) : Int)))), (.d (.lit (.int .i64 ((l.length + 2 : Nat) : Int)))), (.sub 0 0 (l.length + 2)), (.d (.lit (.string s))), (.d (.lit (.int .i64 ((s.size : Nat) : Int)))), (.d (.lit (.int .u64 ((s.size : Nat) : Int)))), (.tup []), (.tup []), (.tup []), (.tup []), (.tup []), (.tup []), (.tup []), (.tup []), (.tup [])], [(.arr 5 1 ((l ++ List.replicate (2 + s.size) 0).length) (bytesD (layn (l ++ List.replicate (2 + s.size) 0) (l.length + 2) 2 s.size)))], 0⟩) (by kernel_rfl) ?_
  refine Walk.nil ?_
  refine Then.normal ?_
  refine AWP.seq ?_
  refine AWP.text ?_
  refine Walk.yes (val := (.own 0)) (bl := []) (by kernel_rfl) ((op_move rfl).cast (by kernel_rfl)) ?_
  refine Walk.yes (val := (.d (.sl l.length (bytesD l)))) (bl := []) (by kernel_rfl) ((op_move rfl).cast (by kernel_rfl)) ?_
  refine Walk.yes (val := (.d (.lit (.int .i64 ((l.length : Nat) : Int))))) (bl := []) (by kernel_rfl) (op_len rfl (e := 5) (by kernel_rfl) (y := (.d (.sl l.length (bytesD l)))) (by kernel_rfl) (ds := (bytesD l)) (off := 0) (by kernel_rfl)) ?_
  refine Walk.yes (val := (.d (.lit (.int .i64 ((l.length + 2 : Nat) : Int))))) (bl := []) (by kernel_rfl) (((op_bin rfl (a1 := (.int .i64 ((l.length : Nat) : Int))) (a2 := (.int .i64 2)) (by kernel_rfl) (by kernel_rfl) (fun _ => hb_add))).cast (lit_i64 (by first | rfl | omega | (simp; done)) (by omega) (by omega))) ?_
  refine Walk.yes (val := (.d (.sl 0 []))) (bl := []) (by kernel_rfl) (op_sliceEmpty rfl (e := 5) (sz := 1) (by kernel_rfl) (y := (.own 0)) (by kernel_rfl) (ds := (bytesD (layn (l ++ List.replicate (2 + s.size) 0) (l.length + 2) 2 s.size))) (off := 0) (n := ((l ++ List.replicate (2 + s.size) 0).length)) (by kernel_rfl) (k := .i64) (v := ((l.length + 2 : Nat) : Int)) (by kernel_rfl) (by simp; omega)) ?_
  refine Walk.yes (val := (.d (.lit (.string s)))) (bl := []) (by kernel_rfl) ((op_move rfl).cast (by kernel_rfl)) ?_
  refine Walk.yes (val := (.d (.lit (.int .i64 0)))) (bl := []) (by kernel_rfl) (op_copyNone rfl (e := 5) (by kernel_rfl) (y := (.d (.sl 0 []))) (by kernel_rfl) (ds := []) (off := 0) (by kernel_rfl) (str := s) (by kernel_rfl)) ?_
  refine Walk.to_ (st' := ⟨[(.d (.sl l.length (bytesD l))), (.d (.lit (.string s))), (.tup []), (.tup []), (.d .nil), (.d (.lit (.int .i64 0))), (.own 0), (.d (.lit (.string s))), (.d (.lit (.int .i64 ((s.size : Nat) : Int)))), (.d (.lit (.bool false))), (.d (.sl l.length (bytesD l))), (.d (.lit (.string s))), (.d (.lit (.int .i64 ((s.size : Nat) : Int)))), (.d (.lit (.int .i64 ((2 + s.size : Nat) : Int)))), (.own 0), (.own 0), (.d (.sl l.length (bytesD l))), (.d (.lit (.int .i64 ((l.length : Nat) : Int)))), (.d (.lit (.int .i64 ((l.length + 2 : Nat) : Int)))), (.sub 0 0 (l.length + 2)), (.d (.lit (.string s))), (.d (.lit (.int .i64 ((s.size : Nat) : Int)))), (.d (.lit (.int .u64 ((s.size : Nat) : Int)))), (.tup []), (.own 0), (.d (.sl l.length (bytesD l))), (.d (.lit (.int .i64 ((l.length : Nat) : Int)))), (.d (.lit (.int .i64 ((l.length + 2 : Nat) : Int)))), (.d (.sl 0 [])), (.d (.lit (.string s))), (.d (.lit (.int .i64 0))), (.tup [])], [(.arr 5 1 ((l ++ List.replicate (2 + s.size) 0).length) (bytesD (layn (l ++ List.replicate (2 + s.size) 0) (l.length + 2) 2 s.size)))], 0⟩) (by kernel_rfl) ?_
  refine Walk.nil ?_
  refine Then.normal ?_
  refine AWP.seq ?_
  refine AWP.text ?_
  refine Walk.yes (val := (.own 0)) (bl := []) (by kernel_rfl) ((op_move rfl).cast (by kernel_rfl)) ?_
  refine Walk.yes (val := (.own 0)) (bl := []) (by kernel_rfl) ((op_move rfl).cast (by kernel_rfl)) ?_
  refine Walk.yes (val := (.d (.lit (.int .i64 0)))) (bl := []) (by kernel_rfl) ((op_move rfl).cast (by kernel_rfl)) ?_
  refine Walk.to_ (st' := ⟨[(.d (.sl l.length (bytesD l))), (.d (.lit (.string s))), (.tup []), (.tup []), (.own 0), (.d (.lit (.int .i64 0))), (.own 0), (.d (.lit (.string s))), (.d (.lit (.int .i64 ((s.size : Nat) : Int)))), (.d (.lit (.bool false))), (.d (.sl l.length (bytesD l))), (.d (.lit (.string s))), (.d (.lit (.int .i64 ((s.size : Nat) : Int)))), (.d (.lit (.int .i64 ((2 + s.size : Nat) : Int)))), (.own 0), (.own 0), (.d (.sl l.length (bytesD l))), (.d (.lit (.int .i64 ((l.length : Nat) : Int)))), (.d (.lit (.int .i64 ((l.length + 2 : Nat) : Int)))), (.sub 0 0 (l.length + 2)), (.d (.lit (.string s))), (.d (.lit (.int .i64 ((s.size : Nat) : Int)))), (.d (.lit (.int .u64 ((s.size : Nat) : Int)))), (.tup []), (.own 0), (.d (.sl l.length (bytesD l))), (.d (.lit (.int .i64 ((l.length : Nat) : Int)))), (.d (.lit (.int .i64 ((l.length + 2 : Nat) : Int)))), (.d (.sl 0 [])), (.d (.lit (.string s))), (.d (.lit (.int .i64 0))), (.own 0)], [(.arr 5 1 ((l ++ List.replicate (2 + s.size) 0).length) (bytesD (layn (l ++ List.replicate (2 + s.size) 0) (l.length + 2) 2 s.size)))], 0⟩) (by kernel_rfl) ?_
  refine Walk.nil ?_
  refine Then.normal ?_
  refine AWP.ret ?_
  exact ret_intro [0] [(.own 0), (.d (.lit (.int .i64 0)))] (by kernel_rfl) (by kernel_rfl) (⟨arr_ren (by simp [beb_length, size_list]; try omega) (by rw [text_end l h0]), trivial⟩) (by kernel_rfl) ⟨Nat.le_of_ble_eq_true rfl, rfl⟩
theorem call_otext (p0 p1 : List UInt8) (h0 : p0.length ≤ 900000000) (h1 : p1.length ≤ 900000000) : GCall Tryd.prog 27 [.l encU8 p0, .s p1] [] (.tup [.l encU8 (if 65535 < p1.length then [] else p0 ++ beb 2 p1.length ++ p1), .i (if 65535 < p1.length then 5 else 0)]) [] := by
  have e1 : (toS p1).size = p1.length := by simp [toS, ByteArray.size]
  have e2 : (toS p1).data.toList = p1 := by simp [toS]
  have z : ∀ l : List UInt8, A.l encU8 l = .d (.sl l.length (bytesD l)) := fun l => by rw [← flatU8]
  rw [z, z]
  by_cases h : 65535 < p1.length
  · rw [if_pos h, if_pos h]
    exact text_big p0 (toS p1) (by omega)
  · rw [if_neg h, if_neg h]
    have key : GCall Tryd.prog 27 [.d (.sl p0.length (bytesD p0)), .s p1] [] (.tup [.d (.sl (p0 ++ beb 2 (toS p1).size ++ (toS p1).data.toList).length (bytesD (p0 ++ beb 2 (toS p1).size ++ (toS p1).data.toList))), .i 0]) [] := by
      by_cases hz : (toS p1).size = 0
      · exact GCall.frz (text_mt p0 (toS p1) (by omega) hz h0) [0] (by kernel_rfl)
      · exact GCall.frz (text_ok p0 (toS p1) (by omega) hz h0) [0] (by kernel_rfl)
    rw [e1, e2] at key
    exact key
end Go.Proofs.YtaaooafcijdbmaaDoor.K

namespace Go.Proofs.YtaaooafcijdbmaaDoor.K
open Go.RowKit Go.Lib

structure GField where
  Name : (List UInt8)
  Kind : UInt8
  deriving DecidableEq, Inhabited
def enc_GField (x : GField) : List D := [(.lit (.string (toS x.Name))), (byteD x.Kind)]
theorem enc_GField_len (x : GField) : (enc_GField x).length = 2 := rfl
structure GType where
  Name : (List UInt8)
  Fields : (List GField)
  deriving DecidableEq, Inhabited
def enc_GType (x : GType) : List D := [(.lit (.string (toS x.Name))), (.sl (List.length x.Fields) (flatD enc_GField x.Fields))]
theorem enc_GType_len (x : GType) : (enc_GType x).length = 2 := rfl
structure GValue where
  Kind : UInt8
  N : Int
  Bits : Int
  Text : (List UInt8)
  deriving DecidableEq, Inhabited
def enc_GValue (x : GValue) : List D := [(byteD x.Kind), (.lit (.int .i64 x.N)), (.lit (.int .u64 x.Bits)), (.lit (.string (toS x.Text)))]
theorem enc_GValue_len (x : GValue) : (enc_GValue x).length = 4 := rfl
structure GEvent where
  Time : Int
  Source : Int
  Seq : Int
  Type_ : (List UInt8)
  Vals : (List GValue)
  deriving DecidableEq, Inhabited
def enc_GEvent (x : GEvent) : List D := [(.lit (.int .i64 x.Time)), (.lit (.int .i64 x.Source)), (.lit (.int .i64 x.Seq)), (.lit (.string (toS x.Type_))), (.sl (List.length x.Vals) (flatD enc_GValue x.Vals))]
theorem enc_GEvent_len (x : GEvent) : (enc_GEvent x).length = 5 := rfl
structure GCommand where
  Kind : UInt8
  Text : (List UInt8)
  A : Int
  B : Int
  E : GEvent
  deriving DecidableEq, Inhabited
def enc_GCommand (x : GCommand) : List D := [(byteD x.Kind), (.lit (.string (toS x.Text))), (.lit (.int .i64 x.A)), (.lit (.int .i64 x.B)), (.lit (.int .i64 x.E.Time)), (.lit (.int .i64 x.E.Source)), (.lit (.int .i64 x.E.Seq)), (.lit (.string (toS x.E.Type_))), (.sl (List.length x.E.Vals) (flatD enc_GValue x.E.Vals))]
theorem enc_GCommand_len (x : GCommand) : (enc_GCommand x).length = 9 := rfl
structure GID where
  Time : Int
  Source : Int
  Seq : Int
  deriving DecidableEq, Inhabited
structure GReader where
  Text : (List UInt8)
  At : Int
  E : Int
  deriving DecidableEq, Inhabited
structure GArr4_Int_ where
  a0 : Int
  a1 : Int
  a2 : Int
  a3 : Int
  deriving DecidableEq, Inhabited
theorem elemOK_27 : ElemOK Tryd.prog 27 74 2 40 (.agg #[(.string ⟨#[]⟩), (.slice none 0 0)]) := ⟨by kernel_rfl, by kernel_rfl, by kernel_rfl, by decide, by decide⟩
theorem elemOK_29 : ElemOK Tryd.prog 29 39 9 104 (.agg #[(.int .u8 0), (.string ⟨#[]⟩), (.int .i64 0), (.int .i64 0), (.int .i64 0), (.int .i64 0), (.int .i64 0), (.string ⟨#[]⟩), (.slice none 0 0)]) := ⟨by kernel_rfl, by kernel_rfl, by kernel_rfl, by decide, by decide⟩
theorem elemOK_31 : ElemOK Tryd.prog 31 5 1 1 (.int .u8 0) := ⟨by kernel_rfl, by kernel_rfl, by kernel_rfl, by decide, by decide⟩
theorem elemOK_35 : ElemOK Tryd.prog 35 105 4 40 (.agg #[(.int .u8 0), (.int .i64 0), (.int .u64 0), (.string ⟨#[]⟩)]) := ⟨by kernel_rfl, by kernel_rfl, by kernel_rfl, by decide, by decide⟩
theorem elemOK_72 : ElemOK Tryd.prog 72 75 2 24 (.agg #[(.string ⟨#[]⟩), (.int .u8 0)]) := ⟨by kernel_rfl, by kernel_rfl, by kernel_rfl, by decide, by decide⟩
end Go.Proofs.YtaaooafcijdbmaaDoor.K

namespace Go.Proofs.YtaaooafcijdbmaaDoor.K
open Go.RowKit Go.Lib

def m_w06_Over_l4 (p0 : (List GType)) (y3_1 : Int) (k_m_w06_Over_l1 : Int → Option Int) : Nat → Int → Option Int
  | 0, _ => none
  | fu_4 + 1, y4_4 =>
    Option.bind (geti p0 y3_1) fun x33_5 =>
    cond (decide (y4_4 < ((List.length x33_5.Fields : Nat) : Int)))
    (Option.bind (geti p0 y3_1) fun x42_6 =>
    Option.bind (geti x42_6.Fields y4_4) fun x46_6 =>
    cond (decide ((40 : Int) < ((List.length x46_6.Name : Nat) : Int)))
    (some 1)
    (m_w06_Over_l4 p0 y3_1 k_m_w06_Over_l1 fu_4 (IntKind.i64.wrap (y4_4 + 1))))
    (k_m_w06_Over_l1 (IntKind.i64.wrap (y3_1 + 1)))
def m_w06_Over_l1 (p0 : (List GType)) : Nat → Int → Option Int
  | 0, _ => none
  | fu_1 + 1, y3_1 =>
    cond (decide (y3_1 < ((List.length p0 : Nat) : Int)))
    (Option.bind (geti p0 y3_1) fun x16_3 =>
    cond (decide ((40 : Int) < ((List.length x16_3.Name : Nat) : Int)))
    (some 1)
    (Option.bind (geti p0 y3_1) fun x24_3 =>
    cond (decide ((12 : Int) < ((List.length x24_3.Fields : Nat) : Int)))
    (some 1)
    (m_w06_Over_l4 p0 y3_1 (fun y3_1 => m_w06_Over_l1 p0 fu_1 y3_1) 1152921504606846976 0)))
    (some 0)
def m_w06_Over (p0 : (List GType)) : Option Int :=
  cond (decide ((12 : Int) < ((List.length p0 : Nat) : Int)))
  (some 1)
  (m_w06_Over_l1 p0 1152921504606846976 0)

def m_w04_Small (p0 : GValue) : Option Int :=
  some (max 0 (IntKind.i64.wrap (((List.length p0.Text : Nat) : Int) - 100)))

def m_w07_Over_l4 (p0 : (List GEvent)) (y5_1 : Int) (k_m_w07_Over_l1 : Int → Option Int) : Nat → Int → Option Int
  | 0, _ => none
  | fu_4 + 1, y6_4 =>
    Option.bind (geti p0 y5_1) fun x36_5 =>
    cond (decide (y6_4 < ((List.length x36_5.Vals : Nat) : Int)))
    (Option.bind (geti p0 y5_1) fun x45_6 =>
    Option.bind (geti x45_6.Vals y6_4) fun x49_6 =>
    Option.bind (m_w04_Small x49_6) fun r51_6 =>
    cond (decide ((0 : Int) < r51_6))
    (some 1)
    (m_w07_Over_l4 p0 y5_1 k_m_w07_Over_l1 fu_4 (IntKind.i64.wrap (y6_4 + 1))))
    (k_m_w07_Over_l1 (IntKind.i64.wrap (y5_1 + 1)))
def m_w07_Over_l1 (p0 : (List GEvent)) : Nat → Int → Option Int
  | 0, _ => none
  | fu_1 + 1, y5_1 =>
    cond (decide (y5_1 < ((List.length p0 : Nat) : Int)))
    (Option.bind (geti p0 y5_1) fun x19_3 =>
    cond (decide ((40 : Int) < ((List.length x19_3.Type_ : Nat) : Int)))
    (some 1)
    (Option.bind (geti p0 y5_1) fun x27_3 =>
    cond (decide ((12 : Int) < ((List.length x27_3.Vals : Nat) : Int)))
    (some 1)
    (m_w07_Over_l4 p0 y5_1 (fun y5_1 => m_w07_Over_l1 p0 fu_1 y5_1) 1152921504606846976 0)))
    (some 0)
def m_w07_Over (p0 : (List GEvent)) (p1 : Int) : Option Int :=
  cond (decide (p1 < ((List.length p0 : Nat) : Int)))
  (some 1)
  (m_w07_Over_l1 p0 1152921504606846976 0)

def m_w37_Over_l1 (p0 : (List GCommand)) : Nat → Int → Option Int
  | 0, _ => none
  | fu_1 + 1, y5_1 =>
    cond (decide (y5_1 < ((List.length p0 : Nat) : Int)))
    (Option.bind (geti p0 y5_1) fun x18_3 =>
    cond (decide ((700 : Int) < ((List.length x18_3.Text : Nat) : Int)))
    (some 1)
    (Option.bind (geti p0 y5_1) fun x26_3 =>
    Option.bind (m_w07_Over ([x26_3.E] : List GEvent) 1) fun r30_3 =>
    cond (decide ((0 : Int) < r30_3))
    (some 1)
    (m_w37_Over_l1 p0 fu_1 (IntKind.i64.wrap (y5_1 + 1)))))
    (some 0)
def m_w37_Over (p0 : (List GCommand)) (p1 : Int) : Option Int :=
  cond (decide (p1 < ((List.length p0 : Nat) : Int)))
  (some 1)
  (m_w37_Over_l1 p0 1152921504606846976 0)

def m_schema_letter (p0 : UInt8) : Option Bool :=
  cond (decide ((97 : Int) ≤ ((p0.toNat : Nat) : Int)))
  (some (decide (((p0.toNat : Nat) : Int) ≤ 122)))
  (some false)

def m_schema_Reserved_j0 (y4_0 : Bool) : Option Bool :=
  cond y4_0
  (some true)
  (some false)
def m_schema_Reserved (p0 : (List UInt8)) : Option Bool :=
  cond (decide (p0 = ([119, 105, 116, 104, 105, 110] : List UInt8)))
  (m_schema_Reserved_j0  (decide (p0 = ([119, 105, 116, 104, 105, 110] : List UInt8))))
  (cond (decide (p0 = ([98, 121] : List UInt8)))
  (m_schema_Reserved_j0  (decide (p0 = ([98, 121] : List UInt8))))
  (cond (decide (p0 = ([97, 110, 100] : List UInt8)))
  (m_schema_Reserved_j0  (decide (p0 = ([97, 110, 100] : List UInt8))))
  (cond (decide (p0 = ([111, 114] : List UInt8)))
  (m_schema_Reserved_j0  (decide (p0 = ([111, 114] : List UInt8))))
  (cond (decide (p0 = ([110, 111, 116] : List UInt8)))
  (m_schema_Reserved_j0  (decide (p0 = ([110, 111, 116] : List UInt8))))
  (cond (decide (p0 = ([97, 110, 121] : List UInt8)))
  (m_schema_Reserved_j0  (decide (p0 = ([97, 110, 121] : List UInt8))))
  (cond (decide (p0 = ([110, 101, 120, 116] : List UInt8)))
  (m_schema_Reserved_j0  (decide (p0 = ([110, 101, 120, 116] : List UInt8))))
  (cond (decide (p0 = ([115, 116, 114, 105, 99, 116] : List UInt8)))
  (m_schema_Reserved_j0  (decide (p0 = ([115, 116, 114, 105, 99, 116] : List UInt8))))
  (cond (decide (p0 = ([116, 114, 117, 101] : List UInt8)))
  (m_schema_Reserved_j0  (decide (p0 = ([116, 114, 117, 101] : List UInt8))))
  (m_schema_Reserved_j0  (decide (p0 = ([102, 97, 108, 115, 101] : List UInt8))))))))))))

def m_schema_tail (p0 : UInt8) : Option Bool :=
  Option.bind (m_schema_letter p0) fun r4_0 =>
  cond r4_0
  (some true)
  (cond (decide ((48 : Int) ≤ ((p0.toNat : Nat) : Int)))
  (cond (decide (((p0.toNat : Nat) : Int) ≤ 57))
  (some true)
  (some (decide (((p0.toNat : Nat) : Int) = 95))))
  (some (decide (((p0.toNat : Nat) : Int) = 95))))

def m_schema_Name_j1 : Option Bool :=
  some false
def m_schema_Name_l2 (p0 : (List UInt8)) : Nat → Int → Option Bool
  | 0, _ => none
  | fu_2 + 1, y3_2 =>
    cond (decide (y3_2 < ((List.length p0 : Nat) : Int)))
    (Option.bind (geti p0 y3_2) fun x29_4 =>
    Option.bind (m_schema_tail x29_4) fun r30_4 =>
    cond (!r30_4)
    (some false)
    (m_schema_Name_l2 p0 fu_2 (IntKind.i64.wrap (y3_2 + 1))))
    (some true)
def m_schema_Name (p0 : (List UInt8)) : Option Bool :=
  cond (decide (p0 = ([] : List UInt8)))
  (m_schema_Name_j1 )
  (cond (decide ((12 : Int) < ((List.length p0 : Nat) : Int)))
  (m_schema_Name_j1 )
  (Option.bind (geti p0 0) fun x13_0 =>
  Option.bind (m_schema_letter x13_0) fun r14_0 =>
  cond (!r14_0)
  (m_schema_Name_j1 )
  (Option.bind (m_schema_Reserved p0) fun r19_0 =>
  cond r19_0
  (some false)
  (m_schema_Name_l2 p0 1152921504606846976 1))))

def m_schema_Type_Field_l1 (p0 : GType) (p1 : (List UInt8)) : Nat → Int → Option (Int × UInt8)
  | 0, _ => none
  | fu_1 + 1, y11_1 =>
    cond (decide (y11_1 < ((List.length p0.Fields : Nat) : Int)))
    (Option.bind (geti p0.Fields y11_1) fun x14_2 =>
    cond (decide (x14_2.Name = p1))
    (some (y11_1, x14_2.Kind))
    (m_schema_Type_Field_l1 p0 p1 fu_1 (IntKind.i64.wrap (y11_1 + 1))))
    (some ((-1), 0))
def m_schema_Type_Field (p0 : GType) (p1 : (List UInt8)) : Option (Int × UInt8) :=
  m_schema_Type_Field_l1 p0 p1 1152921504606846976 0

def m_value_Word (p0 : UInt8) : Option (List UInt8) :=
  cond (decide (((p0.toNat : Nat) : Int) = 1))
  (some ([105, 110, 116] : List UInt8))
  (cond (decide (((p0.toNat : Nat) : Int) = 2))
  (some ([102, 108, 97, 103] : List UInt8))
  (cond (decide (((p0.toNat : Nat) : Int) = 3))
  (some ([114, 101, 97, 108] : List UInt8))
  (cond (decide (((p0.toNat : Nat) : Int) = 4))
  (some ([116, 101, 120, 116] : List UInt8))
  (some ([] : List UInt8)))))

def m_schema_Type_check_l3 (p0 : GType) : Nat → Int → Option Int
  | 0, _ => none
  | fu_3 + 1, y18_3 =>
    cond (decide (y18_3 < ((List.length p0.Fields : Nat) : Int)))
    (Option.bind (geti p0.Fields y18_3) fun x21_4 =>
    Option.bind (m_schema_Type_Field p0 x21_4.Name) fun r27_5 =>
    Option.bind (m_schema_Name x21_4.Name) fun r33_6 =>
    cond (!r33_6)
    (some 4)
    (Option.bind (m_value_Word x21_4.Kind) fun r38_7 =>
    cond (decide (r38_7 = ([] : List UInt8)))
    (some 11)
    (cond (decide (r27_5.1 ≠ y18_3))
    (some 21)
    (m_schema_Type_check_l3 p0 fu_3 (IntKind.i64.wrap (y18_3 + 1))))))
    (some 0)
def m_schema_Type_check (p0 : GType) : Option Int :=
  Option.bind (m_schema_Name p0.Name) fun r9_0 =>
  cond (!r9_0)
  (some 4)
  (cond (decide ((6 : Int) < ((List.length p0.Fields : Nat) : Int)))
  (some 5)
  (m_schema_Type_check_l3 p0 1152921504606846976 0))

def m_slices_Clone_Field (p0 : (List GField)) : Option (List GField) :=
  Option.bind (app ([] : List GField) p0) fun a7_0 =>
  some a7_0

def m_schema_Find_l1 (p0 : (List GType)) (p1 : (List UInt8)) : Nat → Int → Option (GType × Bool)
  | 0, _ => none
  | fu_1 + 1, y10_1 =>
    cond (decide (y10_1 < ((List.length p0 : Nat) : Int)))
    (Option.bind (geti p0 y10_1) fun x12_2 =>
    cond (decide (x12_2.Name = p1))
    (Option.bind (m_slices_Clone_Field x12_2.Fields) fun r21_3 =>
    some ((GType.mk p1 r21_3), true))
    (m_schema_Find_l1 p0 p1 fu_1 (IntKind.i64.wrap (y10_1 + 1))))
    (some ((GType.mk ([] : List UInt8) ([] : List GField)), false))
def m_schema_Find (p0 : (List GType)) (p1 : (List UInt8)) : Option (GType × Bool) :=
  m_schema_Find_l1 p0 p1 1152921504606846976 0

def m_schema_Check_l2 (p0 : (List GType)) : Nat → Int → Option Int
  | 0, _ => none
  | fu_2 + 1, y13_2 =>
    cond (decide (y13_2 < ((List.length p0 : Nat) : Int)))
    (Option.bind (geti p0 y13_2) fun x16_3 =>
    Option.bind (m_schema_Type_check x16_3) fun r19_4 =>
    cond (decide (r19_4 ≠ 0))
    (some r19_4)
    (Option.bind (cut p0 0 y13_2) fun s26_5 =>
    Option.bind (m_schema_Find s26_5 x16_3.Name) fun r29_5 =>
    cond r29_5.2
    (some 21)
    (m_schema_Check_l2 p0 fu_2 (IntKind.i64.wrap (y13_2 + 1)))))
    (some 0)
def m_schema_Check (p0 : (List GType)) : Option Int :=
  cond (decide ((8 : Int) < ((List.length p0 : Nat) : Int)))
  (some 5)
  (m_schema_Check_l2 p0 1152921504606846976 0)

def m_script_Command_kind (p0 : GCommand) : Option Bool :=
  cond (decide ((1 : Int) ≤ ((p0.Kind.toNat : Nat) : Int)))
  (some (decide (((p0.Kind.toNat : Nat) : Int) ≤ 7)))
  (some false)

def m_script_Command_has (p0 : GCommand) (p1 : UInt8) : Option Bool :=
  Option.bind (geti ([0, 1, 0, 2, 12, 4, 4, 4] : List UInt8) ((p0.Kind.toNat : Nat) : Int)) fun x7_0 =>
  Option.bind (some (decide ((((toU8 (((BitVec.ofInt 8 ((x7_0.toNat : Nat) : Int) &&& BitVec.ofInt 8 ((p1.toNat : Nat) : Int)).toNat : Int))).toNat : Nat) : Int) ≠ 0))) fun v11_0 =>
  some v11_0

def m_event_Event_ID (p0 : GEvent) : Option GID :=
  some (GID.mk p0.Time p0.Source p0.Seq)

def m_event_ID_may (p0 : GID) : Option Bool :=
  cond (decide ((0 : Int) ≤ p0.Time))
  (cond (decide (p0.Time ≤ 1099511627776))
  (cond (decide ((0 : Int) ≤ p0.Source))
  (cond (decide (p0.Source < 16))
  (cond (decide ((0 : Int) ≤ p0.Seq))
  (some (decide (p0.Seq ≤ 1099511627776)))
  (some false))
  (some false))
  (some false))
  (some false))
  (some false)

def m_value_core (p0 : GValue) : Option Value :=
  cond (decide (((p0.Kind.toNat : Nat) : Int) = 1))
  (some (Value.iface 169 (.int .i64 p0.N)))
  (cond (decide (((p0.Kind.toNat : Nat) : Int) = 2))
  (some (Value.iface 170 (.int .i64 p0.N)))
  (cond (decide (((p0.Kind.toNat : Nat) : Int) = 3))
  (some (Value.iface 171 (.int .u64 p0.Bits)))
  (cond (decide (((p0.Kind.toNat : Nat) : Int) = 4))
  (some (Value.iface 173 (.string (toS p0.Text))))
  (some Value.nilIface))))

def m_real_of (p0 : Int) : Option Nat :=
  some (Int.toNat p0)

def m_real_Clean (p0 : Int) : Option Int :=
  Option.bind (m_real_of p0) fun r5_0 =>
  cond (fne r5_0 r5_0)
  (some 9221120237041090560)
  (some p0)

def m_value_number_whole (p0 : Int) : Option GValue :=
  some (GValue.mk 1 p0 0 ([] : List UInt8))

def m_value_flag_whole (p0 : Int) : Option GValue :=
  some (GValue.mk 2 p0 0 ([] : List UInt8))

def m_value_double_whole (p0 : Int) : Option GValue :=
  some (GValue.mk 3 0 p0 ([] : List UInt8))

def m_value_words_whole (p0 : (List UInt8)) : Option GValue :=
  some (GValue.mk 4 0 0 p0)

def m_value_Check_j11 (y46_11 : Bool) : Option Int :=
  cond y46_11
  (some 2)
  (some 0)
def m_value_Check_j9 (p0 : GValue) (r10_0 : Value) : Option Int :=
  cond (isT 169 r10_0)
  (Option.bind (inI .i64 r10_0) fun n44_10_169 =>
  Option.bind (m_value_number_whole n44_10_169) fun r44_10_169 =>
  Option.bind (some ((!(decide (((r44_10_169.Kind.toNat : Nat) : Int) = ((p0.Kind.toNat : Nat) : Int)) && (decide (r44_10_169.N = p0.N) && (decide (r44_10_169.Bits = p0.Bits) && (decide (r44_10_169.Text = p0.Text) && true))))))) fun v46_10 =>
  m_value_Check_j11  v46_10)
  (cond (isT 170 r10_0)
  (Option.bind (inI .i64 r10_0) fun n44_10_170 =>
  Option.bind (m_value_flag_whole n44_10_170) fun r44_10_170 =>
  Option.bind (some ((!(decide (((r44_10_170.Kind.toNat : Nat) : Int) = ((p0.Kind.toNat : Nat) : Int)) && (decide (r44_10_170.N = p0.N) && (decide (r44_10_170.Bits = p0.Bits) && (decide (r44_10_170.Text = p0.Text) && true))))))) fun v46_10 =>
  m_value_Check_j11  v46_10)
  (cond (isT 171 r10_0)
  (Option.bind (inI .u64 r10_0) fun n44_10_171 =>
  Option.bind (m_value_double_whole n44_10_171) fun r44_10_171 =>
  Option.bind (some ((!(decide (((r44_10_171.Kind.toNat : Nat) : Int) = ((p0.Kind.toNat : Nat) : Int)) && (decide (r44_10_171.N = p0.N) && (decide (r44_10_171.Bits = p0.Bits) && (decide (r44_10_171.Text = p0.Text) && true))))))) fun v46_10 =>
  m_value_Check_j11  v46_10)
  (cond (isT 173 r10_0)
  (Option.bind (inS r10_0) fun n44_10_173 =>
  Option.bind (m_value_words_whole n44_10_173) fun r44_10_173 =>
  Option.bind (some ((!(decide (((r44_10_173.Kind.toNat : Nat) : Int) = ((p0.Kind.toNat : Nat) : Int)) && (decide (r44_10_173.N = p0.N) && (decide (r44_10_173.Bits = p0.Bits) && (decide (r44_10_173.Text = p0.Text) && true))))))) fun v46_10 =>
  m_value_Check_j11  v46_10)
  (none))))
def m_value_Check (p0 : GValue) : Option Int :=
  Option.bind (m_value_core p0) fun r10_0 =>
  Option.bind (tasI .i64 169 r10_0) fun z12_1 =>
  cond z12_1.2
  (cond (decide (z12_1.1 < (-4611686018427387904)))
  (some 8)
  (cond (decide ((4611686018427387904 : Int) < z12_1.1))
  (some 8)
  (m_value_Check_j9 p0 r10_0)))
  (Option.bind (tasI .i64 170 r10_0) fun z21_3 =>
  cond z21_3.2
  (cond (decide (z21_3.1 ≠ 0))
  (cond (decide (z21_3.1 ≠ 1))
  (some 8)
  (m_value_Check_j9 p0 r10_0))
  (m_value_Check_j9 p0 r10_0))
  (Option.bind (tasI .u64 171 r10_0) fun z30_5 =>
  cond z30_5.2
  (Option.bind (m_real_Clean z30_5.1) fun r34_6 =>
  cond (decide (r34_6 ≠ z30_5.1))
  (some 4)
  (m_value_Check_j9 p0 r10_0))
  (Option.bind (tasS 173 r10_0) fun z37_7 =>
  cond z37_7.2
  (cond (decide ((24 : Int) < ((List.length z37_7.1 : Nat) : Int)))
  (some 5)
  (m_value_Check_j9 p0 r10_0))
  (some 11))))

def m_schema_Fits_l2 (p0 : GType) (p1 : (List GValue)) : Nat → Int → Option Int
  | 0, _ => none
  | fu_2 + 1, y16_2 =>
    cond (decide (y16_2 < ((List.length p1 : Nat) : Int)))
    (Option.bind (geti p1 y16_2) fun x19_3 =>
    Option.bind (m_value_Check x19_3) fun r22_4 =>
    cond (decide (r22_4 ≠ 0))
    (some r22_4)
    (Option.bind (geti p0.Fields y16_2) fun x31_5 =>
    cond (decide (((x19_3.Kind.toNat : Nat) : Int) ≠ ((x31_5.Kind.toNat : Nat) : Int)))
    (some 19)
    (m_schema_Fits_l2 p0 p1 fu_2 (IntKind.i64.wrap (y16_2 + 1)))))
    (some 0)
def m_schema_Fits (p0 : GType) (p1 : (List GValue)) : Option Int :=
  cond (decide (((List.length p1 : Nat) : Int) ≠ ((List.length p0.Fields : Nat) : Int)))
  (some 5)
  (m_schema_Fits_l2 p0 p1 1152921504606846976 0)

def m_event_Check (p0 : (List GType)) (p1 : GEvent) : Option Int :=
  Option.bind (m_schema_Check p0) fun r8_0 =>
  cond (decide (r8_0 ≠ 0))
  (some 2)
  (Option.bind (m_event_Event_ID p1) fun r11_1 =>
  Option.bind (m_event_ID_may r11_1) fun r12_1 =>
  cond (!r12_1)
  (some 8)
  (Option.bind (m_schema_Find p0 p1.Type_) fun r18_2 =>
  cond (!r18_2.2)
  (some 6)
  (Option.bind (m_schema_Fits r18_2.1 p1.Vals) fun r26_3 =>
  some r26_3)))

def m_slices_Equal_Value_l2 (p0 : (List GValue)) (p1 : (List GValue)) : Nat → Int → Option Bool
  | 0, _ => none
  | fu_2 + 1, y13_2 =>
    cond (decide (y13_2 < ((List.length p0 : Nat) : Int)))
    (Option.bind (geti p0 y13_2) fun x18_3 =>
    Option.bind (geti p1 y13_2) fun x22_3 =>
    Option.bind (some ((!(decide (((x18_3.Kind.toNat : Nat) : Int) = ((x22_3.Kind.toNat : Nat) : Int)) && (decide (x18_3.N = x22_3.N) && (decide (x18_3.Bits = x22_3.Bits) && (decide (x18_3.Text = x22_3.Text) && true))))))) fun v24_3 =>
    cond v24_3
    (some false)
    (m_slices_Equal_Value_l2 p0 p1 fu_2 (IntKind.i64.wrap (y13_2 + 1))))
    (some true)
def m_slices_Equal_Value (p0 : (List GValue)) (p1 : (List GValue)) : Option Bool :=
  cond (decide (((List.length p0 : Nat) : Int) ≠ ((List.length p1 : Nat) : Int)))
  (some false)
  (m_slices_Equal_Value_l2 p0 p1 1152921504606846976 0)

def m_event_Same (p0 : GEvent) (p1 : GEvent) : Option Bool :=
  Option.bind (m_event_Event_ID p0) fun r6_0 =>
  Option.bind (m_event_Event_ID p1) fun r8_0 =>
  Option.bind (some ((decide (r6_0.Time = r8_0.Time) && (decide (r6_0.Source = r8_0.Source) && (decide (r6_0.Seq = r8_0.Seq) && true))))) fun v9_0 =>
  cond v9_0
  (cond (decide (p0.Type_ = p1.Type_))
  (Option.bind (m_slices_Equal_Value p0.Vals p1.Vals) fun r22_0 =>
  some r22_0)
  (some false))
  (some false)

def m_script_Command_more (p0 : GCommand) : Option Bool :=
  Option.bind (m_event_Same p0.E (GEvent.mk 0 0 0 ([] : List UInt8) ([] : List GValue))) fun r7_0 =>
  Option.bind (m_script_Command_has p0 1) fun r9_1 =>
  cond (!r9_1)
  (cond (decide (p0.Text ≠ ([] : List UInt8)))
  (some true)
  (Option.bind (m_script_Command_has p0 2) fun r18_1 =>
  cond (!r18_1)
  (cond (!r7_0)
  (some true)
  (Option.bind (m_script_Command_has p0 4) fun r27_1 =>
  cond (!r27_1)
  (cond (decide (p0.A ≠ 0))
  (some true)
  (Option.bind (m_script_Command_has p0 8) fun r37_1 =>
  cond (!r37_1)
  (some (decide (p0.B ≠ 0)))
  (some false)))
  (Option.bind (m_script_Command_has p0 8) fun r37_1 =>
  cond (!r37_1)
  (some (decide (p0.B ≠ 0)))
  (some false))))
  (Option.bind (m_script_Command_has p0 4) fun r27_1 =>
  cond (!r27_1)
  (cond (decide (p0.A ≠ 0))
  (some true)
  (Option.bind (m_script_Command_has p0 8) fun r37_1 =>
  cond (!r37_1)
  (some (decide (p0.B ≠ 0)))
  (some false)))
  (Option.bind (m_script_Command_has p0 8) fun r37_1 =>
  cond (!r37_1)
  (some (decide (p0.B ≠ 0)))
  (some false)))))
  (Option.bind (m_script_Command_has p0 2) fun r18_1 =>
  cond (!r18_1)
  (cond (!r7_0)
  (some true)
  (Option.bind (m_script_Command_has p0 4) fun r27_1 =>
  cond (!r27_1)
  (cond (decide (p0.A ≠ 0))
  (some true)
  (Option.bind (m_script_Command_has p0 8) fun r37_1 =>
  cond (!r37_1)
  (some (decide (p0.B ≠ 0)))
  (some false)))
  (Option.bind (m_script_Command_has p0 8) fun r37_1 =>
  cond (!r37_1)
  (some (decide (p0.B ≠ 0)))
  (some false))))
  (Option.bind (m_script_Command_has p0 4) fun r27_1 =>
  cond (!r27_1)
  (cond (decide (p0.A ≠ 0))
  (some true)
  (Option.bind (m_script_Command_has p0 8) fun r37_1 =>
  cond (!r37_1)
  (some (decide (p0.B ≠ 0)))
  (some false)))
  (Option.bind (m_script_Command_has p0 8) fun r37_1 =>
  cond (!r37_1)
  (some (decide (p0.B ≠ 0)))
  (some false))))

def m_script_Check_j6 (p1 : GCommand) : Option Int :=
  Option.bind (m_script_Command_more p1) fun r33_7 =>
  cond r33_7
  (some 2)
  (some 0)
def m_script_Check_j3 (p0 : (List GType)) (p1 : GCommand) : Option Int :=
  Option.bind (m_script_Command_has p1 2) fun r24_4 =>
  cond r24_4
  (Option.bind (m_event_Check p0 p1.E) fun r28_5 =>
  cond (decide (r28_5 ≠ 0))
  (some r28_5)
  (m_script_Check_j6 p1))
  (m_script_Check_j6 p1)
def m_script_Check (p0 : (List GType)) (p1 : GCommand) : Option Int :=
  Option.bind (m_schema_Check p0) fun r8_0 =>
  cond (decide (r8_0 ≠ 0))
  (some 2)
  (Option.bind (m_script_Command_kind p1) fun r12_1 =>
  cond (!r12_1)
  (some 11)
  (Option.bind (m_script_Command_has p1 1) fun r16_2 =>
  cond r16_2
  (cond (decide ((600 : Int) < ((List.length p1.Text : Nat) : Int)))
  (some 5)
  (m_script_Check_j3 p0 p1))
  (m_script_Check_j3 p0 p1)))

def m_octet_Text (p0 : (List UInt8)) (p1 : (List UInt8)) : Option ((List UInt8) × Int) :=
  chk (List.length p0 ≤ 900000000 ∧ List.length p1 ≤ 900000000) (some (if 65535 < p1.length then [] else p0 ++ beb 2 p1.length ++ p1, if 65535 < p1.length then 5 else 0))

def m_event_Put_1 (p0 : GType) (p1 : GEvent) : Option Bool :=
  some (decide (p0.Name = p1.Type_))

def m_slices_IndexFunc_Type__event_Put_1_l1 (p0 : (List GType)) (p1c0 : GEvent) : Nat → Int → Option Int
  | 0, _ => none
  | fu_1 + 1, y8_1 =>
    cond (decide (y8_1 < ((List.length p0 : Nat) : Int)))
    (Option.bind (geti p0 y8_1) fun x14_2 =>
    Option.bind (m_event_Put_1 x14_2 p1c0) fun r16_2 =>
    cond r16_2
    (some y8_1)
    (m_slices_IndexFunc_Type__event_Put_1_l1 p0 p1c0 fu_1 (IntKind.i64.wrap (y8_1 + 1))))
    (some (-1))
def m_slices_IndexFunc_Type__event_Put_1 (p0 : (List GType)) (p1c0 : GEvent) : Option Int :=
  m_slices_IndexFunc_Type__event_Put_1_l1 p0 p1c0 1152921504606846976 0

def m_math_bits_Len64_j2 (y0_2 : Int) (y2_2 : Int) : Option Int :=
  Option.bind (geti ([0, 1, 2, 2, 3, 3, 3, 3, 4, 4, 4, 4, 4, 4, 4, 4, 5, 5, 5, 5, 5, 5, 5, 5, 5, 5, 5, 5, 5, 5, 5, 5, 6, 6, 6, 6, 6, 6, 6, 6, 6, 6, 6, 6, 6, 6, 6, 6, 6, 6, 6, 6, 6, 6, 6, 6, 6, 6, 6, 6, 6, 6, 6, 6, 7, 7, 7, 7, 7, 7, 7, 7, 7, 7, 7, 7, 7, 7, 7, 7, 7, 7, 7, 7, 7, 7, 7, 7, 7, 7, 7, 7, 7, 7, 7, 7, 7, 7, 7, 7, 7, 7, 7, 7, 7, 7, 7, 7, 7, 7, 7, 7, 7, 7, 7, 7, 7, 7, 7, 7, 7, 7, 7, 7, 7, 7, 7, 7, 8, 8, 8, 8, 8, 8, 8, 8, 8, 8, 8, 8, 8, 8, 8, 8, 8, 8, 8, 8, 8, 8, 8, 8, 8, 8, 8, 8, 8, 8, 8, 8, 8, 8, 8, 8, 8, 8, 8, 8, 8, 8, 8, 8, 8, 8, 8, 8, 8, 8, 8, 8, 8, 8, 8, 8, 8, 8, 8, 8, 8, 8, 8, 8, 8, 8, 8, 8, 8, 8, 8, 8, 8, 8, 8, 8, 8, 8, 8, 8, 8, 8, 8, 8, 8, 8, 8, 8, 8, 8, 8, 8, 8, 8, 8, 8, 8, 8, 8, 8, 8, 8, 8, 8, 8, 8, 8, 8, 8, 8, 8, 8, 8, 8, 8, 8, 8, 8, 8, 8, 8, 8, 8, 8, 8, 8, 8, 8] : List UInt8) (((toU8 y0_2).toNat : Nat) : Int)) fun x22_3 =>
  some (IntKind.i64.wrap (y2_2 + ((x22_3.toNat : Nat) : Int)))
def m_math_bits_Len64_j1 (y0_1 : Int) (y2_1 : Int) : Option Int :=
  cond (decide ((256 : Int) ≤ y0_1))
  (m_math_bits_Len64_j2  (Int.fdiv y0_1 (2 ^ 8)) (IntKind.i64.wrap (y2_1 + 8)))
  (m_math_bits_Len64_j2  y0_1 y2_1)
def m_math_bits_Len64_j0 (y0_0 : Int) (y2_0 : Int) : Option Int :=
  cond (decide ((65536 : Int) ≤ y0_0))
  (m_math_bits_Len64_j1  (Int.fdiv y0_0 (2 ^ 16)) (IntKind.i64.wrap (y2_0 + 16)))
  (m_math_bits_Len64_j1  y0_0 y2_0)
def m_math_bits_Len64 (p0 : Int) : Option Int :=
  cond (decide ((4294967296 : Int) ≤ p0))
  (m_math_bits_Len64_j0  (Int.fdiv p0 (2 ^ 32)) 32)
  (m_math_bits_Len64_j0  p0 0)

def m_zig_Size (p0 : Int) : Option Int :=
  Option.bind (m_math_bits_Len64 p0) fun r4_0 =>
  some (max 1 (IntKind.i64.wrap (Int.tdiv (IntKind.i64.wrap ((IntKind.i64.wrap (r4_0 + 7)) - 1)) 7)))

def m_zig_Put_j5 (y20_3 : Int) (y6_3 : List UInt8) (k_m_zig_Put_l3 : (List UInt8) → Int → Option (List UInt8)) (y8_5 : UInt8) : Option (List UInt8) :=
  Option.bind (app y6_3 ([y8_5] : List UInt8)) fun a38_5 =>
  k_m_zig_Put_l3 a38_5 (IntKind.i64.wrap (y20_3 + 1))
def m_zig_Put_l3 (p1 : Int) (r10_0 : Int) : Nat → (List UInt8) → Int → Option (List UInt8)
  | 0, _, _ => none
  | fu_3 + 1, y6_3, y20_3 =>
    cond (decide (y20_3 < r10_0))
    (chk (0 ≤ (IntKind.i64.wrap (7 * y20_3)) ∧ (IntKind.i64.wrap (7 * y20_3)) ≤ 64) (
    Option.bind (some ((toU8 (((BitVec.ofInt 8 (((toU8 (Int.fdiv p1 (2 ^ (Int.toNat (IntKind.i64.wrap (7 * y20_3)))))).toNat : Nat) : Int) ||| BitVec.ofInt 8 128).toNat : Int))))) fun v28_4 =>
    cond (decide (y20_3 = (IntKind.i64.wrap (r10_0 - 1))))
    (m_zig_Put_j5 y20_3 y6_3 (fun y6_3 y20_3 => m_zig_Put_l3 p1 r10_0 fu_3 y6_3 y20_3) (toU8 (((BitVec.ofInt 8 ((v28_4.toNat : Nat) : Int) &&& ~~~ BitVec.ofInt 8 128).toNat : Int))))
    (m_zig_Put_j5 y20_3 y6_3 (fun y6_3 y20_3 => m_zig_Put_l3 p1 r10_0 fu_3 y6_3 y20_3) v28_4)))
    (some y6_3)
def m_zig_Put (p0 : (List UInt8)) (p1 : Int) : Option (List UInt8) :=
  Option.bind (m_zig_Size p1) fun r10_0 =>
  Option.bind (mkc 0 (IntKind.i64.wrap (((List.length p0 : Nat) : Int) + r10_0)) (0 : UInt8)) fun m15_1 =>
  Option.bind (app m15_1 p0) fun a18_2 =>
  m_zig_Put_l3 p1 r10_0 1152921504606846976 a18_2 0

def m_zig_Fold (p0 : Int) : Option Int :=
  Option.bind (some ((IntKind.u64.wrap (((BitVec.ofInt 64 (IntKind.u64.wrap ((IntKind.u64.wrap p0) * 2 ^ 1)) ^^^ BitVec.ofInt 64 (IntKind.u64.wrap (Int.fdiv p0 (2 ^ 63)))).toNat : Int))))) fun v9_0 =>
  some v9_0

def m_zig_PutInt (p0 : (List UInt8)) (p1 : Int) : Option (List UInt8) :=
  Option.bind (m_zig_Fold p1) fun r7_0 =>
  Option.bind (m_zig_Put p0 r7_0) fun r8_0 =>
  some r8_0

def m_octet_grown (p0 : (List UInt8)) (p1 : Int) : Option (List UInt8) :=
  Option.bind (mkl (IntKind.i64.wrap (((List.length p0 : Nat) : Int) + p1)) (0 : UInt8)) fun m10_0 =>
  Option.bind (cpy m10_0 p0) fun c13_1 =>
  some c13_1

def m_octet_lay_l1 (p1 : Int) : Nat → (List UInt8) → Int → Int → Option (List UInt8)
  | 0, _, _, _ => none
  | fu_1 + 1, y0_1, y2_1, y6_1 =>
    cond (decide ((IntKind.i64.wrap (((List.length y0_1 : Nat) : Int) - p1)) ≤ y6_1))
    (Option.bind (geti y0_1 y6_1) fun x22_3 =>
    m_octet_lay_l1 p1 fu_1 (List.set y0_1 (Int.toNat y6_1) (toU8 y2_1)) (Int.fdiv y2_1 (2 ^ 8)) (IntKind.i64.wrap (y6_1 - 1)))
    (some y0_1)
def m_octet_lay (p0 : (List UInt8)) (p1 : Int) (p2 : Int) : Option (List UInt8) :=
  m_octet_lay_l1 p1 1152921504606846976 p0 p2 (IntKind.i64.wrap (((List.length p0 : Nat) : Int) - 1))

def m_octet_Word (p0 : (List UInt8)) (p1 : Int) : Option (List UInt8) :=
  Option.bind (m_octet_grown p0 8) fun r7_0 =>
  Option.bind (m_octet_lay r7_0 8 p1) fun r10_1 =>
  some r10_1

def m_value_Put (p0 : (List UInt8)) (p1 : GValue) : Option ((List UInt8) × Int) :=
  Option.bind (m_value_Check p1) fun r9_0 =>
  cond (decide (r9_0 ≠ 0))
  (some (([] : List UInt8), r9_0))
  (Option.bind (mkc ((List.length p0 : Nat) : Int) (IntKind.i64.wrap (((List.length p0 : Nat) : Int) + 1)) (0 : UInt8)) fun m18_1 =>
  Option.bind (cpy m18_1 p0) fun c21_2 =>
  Option.bind (app c21_2 ([p1.Kind] : List UInt8)) fun a26_3 =>
  cond (decide (((p1.Kind.toNat : Nat) : Int) = 1))
  (Option.bind (m_zig_PutInt a26_3 p1.N) fun r34_4 =>
  some (r34_4, 0))
  (cond (decide (((p1.Kind.toNat : Nat) : Int) = 2))
  (Option.bind (app a26_3 ([(toU8 p1.N)] : List UInt8)) fun a42_5 =>
  some (a42_5, 0))
  (cond (decide (((p1.Kind.toNat : Nat) : Int) = 3))
  (Option.bind (m_octet_Word a26_3 p1.Bits) fun r48_6 =>
  some (r48_6, 0))
  (Option.bind (m_zig_Put a26_3 (IntKind.u64.wrap ((List.length p1.Text : Nat) : Int))) fun r54_7 =>
  Option.bind (app r54_7 p1.Text) fun a57_7 =>
  some (a57_7, 0)))))

def m_event_Put_l6 (p2 : GEvent) : Nat → (List UInt8) → Int → Option ((List UInt8) × Int)
  | 0, _, _ => none
  | fu_6 + 1, y0_6, y44_6 =>
    cond (decide (y44_6 < ((List.length p2.Vals : Nat) : Int)))
    (Option.bind (geti p2.Vals y44_6) fun x46_7 =>
    Option.bind (m_value_Put y0_6 x46_7) fun r51_8 =>
    cond (decide (r51_8.2 ≠ 0))
    (some (([] : List UInt8), r51_8.2))
    (m_event_Put_l6 p2 fu_6 r51_8.1 (IntKind.i64.wrap (y44_6 + 1))))
    (some (y0_6, 0))
def m_event_Put_l2 (p2 : GEvent) (r24_1 : Int) : Nat → (List UInt8) → Int → Option ((List UInt8) × Int)
  | 0, _, _ => none
  | fu_2 + 1, y0_2, y33_2 =>
    cond (decide (y33_2 < 4))
    (Option.bind (geti ([p2.Time, p2.Source, p2.Seq, r24_1] : List Int) y33_2) fun x35_4 =>
    Option.bind (m_zig_Put y0_2 (IntKind.u64.wrap x35_4)) fun r39_3 =>
    m_event_Put_l2 p2 r24_1 fu_2 r39_3 (IntKind.i64.wrap (y33_2 + 1)))
    (m_event_Put_l6 p2 1152921504606846976 y0_2 0)
def m_event_Put (p0 : (List UInt8)) (p1 : (List GType)) (p2 : GEvent) : Option ((List UInt8) × Int) :=
  Option.bind (m_event_Check p1 p2) fun r18_0 =>
  cond (decide (r18_0 ≠ 0))
  (some (([] : List UInt8), r18_0))
  (Option.bind (m_slices_IndexFunc_Type__event_Put_1 p1 p2) fun r24_1 =>
  m_event_Put_l2 p2 r24_1 1152921504606846976 p0 0)

def m_script_Put_j10 (p2 : GCommand) (y9_10 : List UInt8) : Option ((List UInt8) × Int) :=
  Option.bind (m_script_Command_has p2 8) fun r56_11 =>
  cond r56_11
  (Option.bind (m_zig_PutInt y9_10 p2.B) fun r60_12 =>
  some (r60_12, 0))
  (some (y9_10, 0))
def m_script_Put (p0 : (List UInt8)) (p1 : (List GType)) (p2 : GCommand) : Option ((List UInt8) × Int) :=
  Option.bind (m_script_Check p1 p2) fun r12_0 =>
  cond (decide (r12_0 ≠ 0))
  (some (([] : List UInt8), r12_0))
  (Option.bind (mkc ((List.length p0 : Nat) : Int) (IntKind.i64.wrap (((List.length p0 : Nat) : Int) + 1)) (0 : UInt8)) fun m21_1 =>
  Option.bind (cpy m21_1 p0) fun c24_2 =>
  Option.bind (app c24_2 ([p2.Kind] : List UInt8)) fun a29_3 =>
  Option.bind (m_script_Command_has p2 1) fun r32_4 =>
  cond r32_4
  (Option.bind (m_octet_Text a29_3 p2.Text) fun r36_5 =>
  some (r36_5.1, r36_5.2))
  (Option.bind (m_script_Command_has p2 2) fun r41_6 =>
  cond r41_6
  (Option.bind (m_event_Put a29_3 p1 p2.E) fun r46_7 =>
  some (r46_7.1, r46_7.2))
  (Option.bind (m_script_Command_has p2 4) fun r50_8 =>
  cond r50_8
  (Option.bind (m_zig_PutInt a29_3 p2.A) fun r54_9 =>
  m_script_Put_j10 p2 r54_9)
  (m_script_Put_j10 p2 a29_3))))

def m_script_Write_l2 (p0 : (List GType)) (p1 : (List GCommand)) : Nat → (List UInt8) → Int → Option ((List UInt8) × Int)
  | 0, _, _ => none
  | fu_2 + 1, y6_2, y16_2 =>
    cond (decide (y16_2 < ((List.length p1 : Nat) : Int)))
    (Option.bind (geti p1 y16_2) fun x18_3 =>
    Option.bind (m_script_Put y6_2 p0 x18_3) fun r24_4 =>
    cond (decide (r24_4.2 ≠ 0))
    (some (([] : List UInt8), r24_4.2))
    (m_script_Write_l2 p0 p1 fu_2 r24_4.1 (IntKind.i64.wrap (y16_2 + 1))))
    (some (y6_2, 0))
def m_script_Write (p0 : (List GType)) (p1 : (List GCommand)) : Option ((List UInt8) × Int) :=
  cond (decide ((400 : Int) < ((List.length p1 : Nat) : Int)))
  (some (([] : List UInt8), 5))
  (m_script_Write_l2 p0 p1 1152921504606846976 ([] : List UInt8) 0)

def m_octet_Open (p0 : (List UInt8)) : Option GReader :=
  some (GReader.mk p0 0 0)

def m_octet_Reader_Left (p0 : GReader) : Option Int :=
  cond (decide (p0.At < 0))
  (some 0)
  (cond (decide (((List.length p0.Text : Nat) : Int) < p0.At))
  (some 0)
  (some (IntKind.i64.wrap (((List.length p0.Text : Nat) : Int) - p0.At))))

def m_octet_Reader_fail (p0 : GReader) (p1 : Int) : Option GReader :=
  cond (decide (p0.E = 0))
  (some (GReader.mk p0.Text p0.At p1))
  (some p0)

def m_octet_Reader_take_l4 (p0 : GReader) (p1 : Int) (s28_3 : List UInt8) : Nat → Int → Int → Option (GReader × Int)
  | 0, _, _ => none
  | fu_4 + 1, y6_4, y31_4 =>
    cond (decide (y31_4 < ((List.length s28_3 : Nat) : Int)))
    (Option.bind (geti s28_3 y31_4) fun x33_5 =>
    Option.bind (some ((IntKind.u64.wrap (((BitVec.ofInt 64 (IntKind.u64.wrap (y6_4 * 2 ^ 8)) ||| BitVec.ofInt 64 ((x33_5.toNat : Nat) : Int)).toNat : Int))))) fun v39_6 =>
    m_octet_Reader_take_l4 p0 p1 s28_3 fu_4 v39_6 (IntKind.i64.wrap (y31_4 + 1)))
    (some ((GReader.mk p0.Text (IntKind.i64.wrap (p0.At + p1)) p0.E), y6_4))
def m_octet_Reader_take (p0 : GReader) (p1 : Int) : Option (GReader × Int) :=
  cond (decide (p0.E ≠ 0))
  (Option.bind (m_octet_Reader_fail p0 3) fun r19_1 =>
  some (r19_1, 0))
  (Option.bind (m_octet_Reader_Left p0) fun r14_0 =>
  cond (decide (r14_0 < p1))
  (Option.bind (m_octet_Reader_fail p0 3) fun r19_2 =>
  some (r19_2, 0))
  (Option.bind (cut p0.Text p0.At (IntKind.i64.wrap (p0.At + p1))) fun s28_3 =>
  chk (List.length s28_3 ≤ 1000000000) (
  m_octet_Reader_take_l4 p0 p1 s28_3 1152921504606846976 0 0)))

def m_octet_Reader_Str (p0 : GReader) : Option (GReader × (List UInt8)) :=
  Option.bind (m_octet_Reader_take p0 2) fun r10_0 =>
  cond (decide (r10_0.1.E ≠ 0))
  (some (r10_0.1, ([] : List UInt8)))
  (Option.bind (m_octet_Reader_Left r10_0.1) fun r20_2 =>
  cond (decide (r20_2 < (IntKind.i64.wrap r10_0.2)))
  (Option.bind (m_octet_Reader_fail p0 3) fun r24_3 =>
  some (r24_3, ([] : List UInt8)))
  (Option.bind (cut r10_0.1.Text r10_0.1.At (IntKind.i64.wrap (r10_0.1.At + (IntKind.i64.wrap r10_0.2)))) fun s33_4 =>
  some ((GReader.mk r10_0.1.Text (IntKind.i64.wrap (r10_0.1.At + (IntKind.i64.wrap r10_0.2))) r10_0.1.E), s33_4)))

def m_script_words (p0 : (List UInt8)) (p1 : Int) : Option ((List UInt8) × Int × Int) :=
  Option.bind (cut p0 p1 ((List.length p0 : Nat) : Int)) fun s12_0 =>
  Option.bind (m_octet_Open s12_0) fun r13_0 =>
  Option.bind (m_octet_Reader_Str r13_0) fun r14_0 =>
  cond (decide (r14_0.1.E ≠ 0))
  (some (([] : List UInt8), p1, r14_0.1.E))
  (cond (decide ((600 : Int) < ((List.length r14_0.2 : Nat) : Int)))
  (some (([] : List UInt8), p1, 5))
  (some (r14_0.2, (IntKind.i64.wrap (p1 + r14_0.1.At)), 0)))

def m_zig_Take_j8 (p1 : Int) (x30_3 : UInt8) (y17_1 : Int) (y4_1 : Int) (k_m_zig_Take_l1 : Int → Int → Option (Int × Int × Int)) : Option (Int × Int × Int) :=
  Option.bind (some ((((toU8 (((BitVec.ofInt 8 ((x30_3.toNat : Nat) : Int) &&& ~~~ BitVec.ofInt 8 128).toNat : Int))).toNat : Nat) : Int))) fun v46_4 =>
  chk (0 ≤ (IntKind.i64.wrap (7 * y17_1)) ∧ (IntKind.i64.wrap (7 * y17_1)) ≤ 64) (
  Option.bind (some ((IntKind.u64.wrap (((BitVec.ofInt 64 y4_1 ||| BitVec.ofInt 64 (IntKind.u64.wrap (v46_4 * 2 ^ (Int.toNat (IntKind.i64.wrap (7 * y17_1)))))).toNat : Int))))) fun v50_4 =>
  cond (decide (((x30_3.toNat : Nat) : Int) < 128))
  (some (v50_4, (IntKind.i64.wrap ((IntKind.i64.wrap (p1 + y17_1)) + 1)), 0))
  (k_m_zig_Take_l1 v50_4 (IntKind.i64.wrap (y17_1 + 1))))
def m_zig_Take_j6 (p1 : Int) (x30_3 : UInt8) (y17_1 : Int) (y4_1 : Int) (k_m_zig_Take_l1 : Int → Int → Option (Int × Int × Int)) : Option (Int × Int × Int) :=
  cond (decide ((0 : Int) < y17_1))
  (cond (decide (((x30_3.toNat : Nat) : Int) = 0))
  (some (0, 0, 4))
  (m_zig_Take_j8 p1 x30_3 y17_1 y4_1 k_m_zig_Take_l1))
  (m_zig_Take_j8 p1 x30_3 y17_1 y4_1 k_m_zig_Take_l1)
def m_zig_Take_l1 (p0 : (List UInt8)) (p1 : Int) : Nat → Int → Int → Option (Int × Int × Int)
  | 0, _, _ => none
  | fu_1 + 1, y4_1, y17_1 =>
    cond (decide (y17_1 < 10))
    (cond (decide (((List.length p0 : Nat) : Int) ≤ (IntKind.i64.wrap (p1 + y17_1))))
    (some (0, 0, 3))
    (Option.bind (geti p0 (IntKind.i64.wrap (p1 + y17_1))) fun x30_3 =>
    cond (decide (y17_1 = 9))
    (cond (decide ((1 : Int) < ((x30_3.toNat : Nat) : Int)))
    (some (0, 0, 8))
    (m_zig_Take_j6 p1 x30_3 y17_1 y4_1 (fun y4_1 y17_1 => m_zig_Take_l1 p0 p1 fu_1 y4_1 y17_1)))
    (m_zig_Take_j6 p1 x30_3 y17_1 y4_1 (fun y4_1 y17_1 => m_zig_Take_l1 p0 p1 fu_1 y4_1 y17_1))))
    (some (0, 0, 8))
def m_zig_Take (p0 : (List UInt8)) (p1 : Int) : Option (Int × Int × Int) :=
  cond (decide (p1 < 0))
  (some (0, 0, 2))
  (cond (decide (((List.length p0 : Nat) : Int) < p1))
  (some (0, 0, 2))
  (m_zig_Take_l1 p0 p1 1152921504606846976 0 0))

def m_event_numbers_l0 (p0 : (List UInt8)) : Nat → Int → GArr4_Int_ → Int → Option (GArr4_Int_ × Int × Int)
  | 0, _, _, _ => none
  | fu_0 + 1, y1_0, y4_d_0, y11_0 =>
    cond (decide (y11_0 < 4))
    (Option.bind (m_zig_Take p0 y1_0) fun r17_1 =>
    cond (decide (r17_1.2.2 ≠ 0))
    (some (y4_d_0, 0, r17_1.2.2))
    (cond (decide (y11_0 = 0))
    (m_event_numbers_l0 p0 fu_0 r17_1.2.1 (GArr4_Int_.mk r17_1.1 y4_d_0.a1 y4_d_0.a2 y4_d_0.a3) (IntKind.i64.wrap (y11_0 + 1)))
    (cond (decide (y11_0 = 1))
    (m_event_numbers_l0 p0 fu_0 r17_1.2.1 (GArr4_Int_.mk y4_d_0.a0 r17_1.1 y4_d_0.a2 y4_d_0.a3) (IntKind.i64.wrap (y11_0 + 1)))
    (cond (decide (y11_0 = 2))
    (m_event_numbers_l0 p0 fu_0 r17_1.2.1 (GArr4_Int_.mk y4_d_0.a0 y4_d_0.a1 r17_1.1 y4_d_0.a3) (IntKind.i64.wrap (y11_0 + 1)))
    (cond (decide (y11_0 = 3))
    (m_event_numbers_l0 p0 fu_0 r17_1.2.1 (GArr4_Int_.mk y4_d_0.a0 y4_d_0.a1 y4_d_0.a2 r17_1.1) (IntKind.i64.wrap (y11_0 + 1)))
    (none))))))
    (some (y4_d_0, y1_0, 0))
def m_event_numbers (p0 : (List UInt8)) (p1 : Int) : Option (GArr4_Int_ × Int × Int) :=
  m_event_numbers_l0 p0 1152921504606846976 p1 (GArr4_Int_.mk 0 0 0 0) 0

def m_event_number (p0 : Int) (p1 : Int) : Option Int :=
  cond (decide ((IntKind.u64.wrap p1) < p0))
  (some (-1))
  (some (IntKind.i64.wrap p0))

def m_zig_Back (p0 : Int) : Option Int :=
  Option.bind (some ((IntKind.i64.wrap (0 - (IntKind.i64.wrap (IntKind.u64.wrap (((BitVec.ofInt 64 p0 &&& BitVec.ofInt 64 1).toNat : Int)))))))) fun v9_0 =>
  Option.bind (some ((IntKind.i64.wrap (((BitVec.ofInt 64 (IntKind.i64.wrap (Int.fdiv p0 (2 ^ 1))) ^^^ BitVec.ofInt 64 v9_0).toNat : Int))))) fun v10_0 =>
  some v10_0

def m_zig_TakeInt (p0 : (List UInt8)) (p1 : Int) : Option (Int × Int × Int) :=
  Option.bind (m_zig_Take p0 p1) fun r11_0 =>
  Option.bind (m_zig_Back r11_0.1) fun r16_1 =>
  some (r16_1, r11_0.2.1, r11_0.2.2)

def m_octet_Reader_Word (p0 : GReader) : Option (GReader × Int) :=
  Option.bind (m_octet_Reader_take p0 8) fun r5_0 =>
  some (r5_0.1, r5_0.2)

def m_value_body (p0 : UInt8) (p1 : (List UInt8)) (p2 : Int) : Option (GValue × Int × Int) :=
  cond (decide (((p0.toNat : Nat) : Int) = 1))
  (Option.bind (m_zig_TakeInt p1 p2) fun r26_0 =>
  some ((GValue.mk p0 r26_0.1 0 ([] : List UInt8)), r26_0.2.1, r26_0.2.2))
  (cond (decide (((p0.toNat : Nat) : Int) = 2))
  (cond (decide (p2 = ((List.length p1 : Nat) : Int)))
  (some ((GValue.mk p0 0 0 ([] : List UInt8)), 0, 3))
  (Option.bind (geti p1 p2) fun x44_2 =>
  some ((GValue.mk p0 ((x44_2.toNat : Nat) : Int) 0 ([] : List UInt8)), (IntKind.i64.wrap (p2 + 1)), 0)))
  (cond (decide (((p0.toNat : Nat) : Int) = 3))
  (Option.bind (cut p1 p2 ((List.length p1 : Nat) : Int)) fun s55_3 =>
  Option.bind (m_octet_Open s55_3) fun r56_3 =>
  Option.bind (m_octet_Reader_Word r56_3) fun r57_3 =>
  some ((GValue.mk p0 0 r57_3.2 ([] : List UInt8)), (IntKind.i64.wrap (p2 + r57_3.1.At)), r57_3.1.E))
  (cond (decide (((p0.toNat : Nat) : Int) = 4))
  (Option.bind (m_zig_Take p1 p2) fun r74_4 =>
  cond (decide (r74_4.2.2 ≠ 0))
  (some ((GValue.mk p0 0 0 ([] : List UInt8)), 0, r74_4.2.2))
  (cond (decide ((24 : Int) < r74_4.1))
  (some ((GValue.mk p0 0 0 ([] : List UInt8)), 0, 5))
  (cond (decide ((IntKind.i64.wrap (((List.length p1 : Nat) : Int) - r74_4.2.1)) < (IntKind.i64.wrap r74_4.1)))
  (some ((GValue.mk p0 0 0 ([] : List UInt8)), 0, 3))
  (Option.bind (cut p1 r74_4.2.1 (IntKind.i64.wrap (r74_4.2.1 + (IntKind.i64.wrap r74_4.1)))) fun s99_6 =>
  some ((GValue.mk p0 0 0 s99_6), (IntKind.i64.wrap (r74_4.2.1 + (IntKind.i64.wrap r74_4.1))), 0)))))
  (some ((GValue.mk p0 0 0 ([] : List UInt8)), 0, 11)))))

def m_value_Take_j4 (r28_2 : (GValue × Int × Int)) (y6_4 : Int) : Option (GValue × Int × Int) :=
  cond (decide (y6_4 ≠ 0))
  (some ((GValue.mk 0 0 0 ([] : List UInt8)), 0, y6_4))
  (some (r28_2.1, r28_2.2.1, 0))
def m_value_Take (p0 : (List UInt8)) (p1 : Int) : Option (GValue × Int × Int) :=
  cond (decide (p1 < 0))
  (some ((GValue.mk 0 0 0 ([] : List UInt8)), 0, 2))
  (cond (decide (((List.length p0 : Nat) : Int) < p1))
  (some ((GValue.mk 0 0 0 ([] : List UInt8)), 0, 2))
  (cond (decide (p1 = ((List.length p0 : Nat) : Int)))
  (some ((GValue.mk 0 0 0 ([] : List UInt8)), 0, 3))
  (Option.bind (geti p0 p1) fun x24_2 =>
  Option.bind (m_value_body x24_2 p0 (IntKind.i64.wrap (p1 + 1))) fun r28_2 =>
  cond (decide (r28_2.2.2 = 0))
  (Option.bind (m_value_Check r28_2.1) fun r35_3 =>
  m_value_Take_j4 r28_2 r35_3)
  (m_value_Take_j4 r28_2 r28_2.2.2))))

def m_event_Take_j1 : Option (GEvent × Int × Int) :=
  some ((GEvent.mk 0 0 0 ([] : List UInt8) ([] : List GValue)), 0, 2)
def m_event_Take_l7 (p0 : (List GType)) (p1 : (List UInt8)) (r55_5 : Int) (r58_5 : Int) (r61_5 : Int) (x51_4 : GType) : Nat → (List GValue) → Int → Int → Option (GEvent × Int × Int)
  | 0, _, _, _ => none
  | fu_7 + 1, y6_d_4_7, y7_7, y68_7 =>
    cond (decide (y68_7 < ((List.length x51_4.Fields : Nat) : Int)))
    (Option.bind (m_value_Take p1 y7_7) fun r73_8 =>
    cond (decide (r73_8.2.2 ≠ 0))
    (some ((GEvent.mk 0 0 0 ([] : List UInt8) ([] : List GValue)), 0, r73_8.2.2))
    (Option.bind (app y6_d_4_7 ([r73_8.1] : List GValue)) fun a85_9 =>
    m_event_Take_l7 p0 p1 r55_5 r58_5 r61_5 x51_4 fu_7 a85_9 r73_8.2.1 (IntKind.i64.wrap (y68_7 + 1))))
    (Option.bind (m_event_Check p0 (GEvent.mk r55_5 r58_5 r61_5 x51_4.Name y6_d_4_7)) fun r91_10 =>
    cond (decide (r91_10 ≠ 0))
    (some ((GEvent.mk 0 0 0 ([] : List UInt8) ([] : List GValue)), 0, r91_10))
    (some ((GEvent.mk r55_5 r58_5 r61_5 x51_4.Name y6_d_4_7), y7_7, 0)))
def m_event_Take (p0 : (List GType)) (p1 : (List UInt8)) (p2 : Int) : Option (GEvent × Int × Int) :=
  Option.bind (m_schema_Check p0) fun r17_0 =>
  cond (decide (r17_0 ≠ 0))
  (m_event_Take_j1 )
  (cond (decide (p2 < 0))
  (m_event_Take_j1 )
  (cond (decide (((List.length p1 : Nat) : Int) < p2))
  (some ((GEvent.mk 0 0 0 ([] : List UInt8) ([] : List GValue)), 0, 2))
  (Option.bind (m_event_numbers p1 p2) fun r33_2 =>
  cond (decide (r33_2.2.2 ≠ 0))
  (some ((GEvent.mk 0 0 0 ([] : List UInt8) ([] : List GValue)), 0, r33_2.2.2))
  (cond (decide ((IntKind.u64.wrap ((List.length p0 : Nat) : Int)) ≤ r33_2.1.a3))
  (some ((GEvent.mk 0 0 0 ([] : List UInt8) ([] : List GValue)), 0, 6))
  (Option.bind (geti p0 r33_2.1.a3) fun x51_4 =>
  Option.bind (m_event_number r33_2.1.a0 1099511627776) fun r55_5 =>
  Option.bind (m_event_number r33_2.1.a1 15) fun r58_5 =>
  Option.bind (m_event_number r33_2.1.a2 1099511627776) fun r61_5 =>
  m_event_Take_l7 p0 p1 r55_5 r58_5 r61_5 x51_4 1152921504606846976 ([] : List GValue) r33_2.2.1 0)))))

def m_script_take_j10 (p1 : (List UInt8)) (y6_d_4 : GCommand) (y6_d_4_0_7 : Int) (y6_d_4_1_7 : Int) (y6_d_4_2_7 : Int) (y6_d_4_3_7 : List UInt8) (y6_d_4_4_7 : List GValue) (y6_d_2_10 : Int) (y7_10 : Int) (y8_10 : Int) : Option (GCommand × Int × Int) :=
  cond (decide (y8_10 = 0))
  (Option.bind (m_script_Command_has (GCommand.mk y6_d_4.Kind y6_d_4.Text y6_d_2_10 y6_d_4.B (GEvent.mk y6_d_4_0_7 y6_d_4_1_7 y6_d_4_2_7 y6_d_4_3_7 y6_d_4_4_7)) 8) fun r54_11 =>
  cond r54_11
  (Option.bind (m_zig_TakeInt p1 y7_10) fun r59_12 =>
  some ((GCommand.mk y6_d_4.Kind y6_d_4.Text y6_d_2_10 r59_12.1 (GEvent.mk y6_d_4_0_7 y6_d_4_1_7 y6_d_4_2_7 y6_d_4_3_7 y6_d_4_4_7)), r59_12.2.1, r59_12.2.2))
  (some ((GCommand.mk y6_d_4.Kind y6_d_4.Text y6_d_2_10 y6_d_4.B (GEvent.mk y6_d_4_0_7 y6_d_4_1_7 y6_d_4_2_7 y6_d_4_3_7 y6_d_4_4_7)), y7_10, y8_10)))
  (some ((GCommand.mk y6_d_4.Kind y6_d_4.Text y6_d_2_10 y6_d_4.B (GEvent.mk y6_d_4_0_7 y6_d_4_1_7 y6_d_4_2_7 y6_d_4_3_7 y6_d_4_4_7)), y7_10, y8_10))
def m_script_take_j7 (p1 : (List UInt8)) (y6_d_4 : GCommand) (y6_d_4_0_7 : Int) (y6_d_4_1_7 : Int) (y6_d_4_2_7 : Int) (y6_d_4_3_7 : List UInt8) (y6_d_4_4_7 : List GValue) (y7_7 : Int) (y8_7 : Int) : Option (GCommand × Int × Int) :=
  Option.bind (m_script_Command_has (GCommand.mk y6_d_4.Kind y6_d_4.Text y6_d_4.A y6_d_4.B (GEvent.mk y6_d_4_0_7 y6_d_4_1_7 y6_d_4_2_7 y6_d_4_3_7 y6_d_4_4_7)) 4) fun r41_8 =>
  cond r41_8
  (Option.bind (m_zig_TakeInt p1 y7_7) fun r45_9 =>
  m_script_take_j10 p1 y6_d_4 y6_d_4_0_7 y6_d_4_1_7 y6_d_4_2_7 y6_d_4_3_7 y6_d_4_4_7 r45_9.1 r45_9.2.1 r45_9.2.2)
  (m_script_take_j10 p1 y6_d_4 y6_d_4_0_7 y6_d_4_1_7 y6_d_4_2_7 y6_d_4_3_7 y6_d_4_4_7 y6_d_4.A y7_7 y8_7)
def m_script_take_j4 (p0 : (List GType)) (p1 : (List UInt8)) (y6_d_4 : GCommand) (y7_4 : Int) (y8_4 : Int) : Option (GCommand × Int × Int) :=
  Option.bind (m_script_Command_has (GCommand.mk y6_d_4.Kind y6_d_4.Text y6_d_4.A y6_d_4.B (GEvent.mk y6_d_4.E.Time y6_d_4.E.Source y6_d_4.E.Seq y6_d_4.E.Type_ ([] : List GValue))) 2) fun r30_5 =>
  cond r30_5
  (Option.bind (m_event_Take p0 p1 y7_4) fun r35_6 =>
  m_script_take_j7 p1 y6_d_4 r35_6.1.Time r35_6.1.Source r35_6.1.Seq r35_6.1.Type_ r35_6.1.Vals r35_6.2.1 r35_6.2.2)
  (m_script_take_j7 p1 y6_d_4 y6_d_4.E.Time y6_d_4.E.Source y6_d_4.E.Seq y6_d_4.E.Type_ ([] : List GValue) y7_4 y8_4)
def m_script_take (p0 : (List GType)) (p1 : (List UInt8)) (p2 : Int) : Option (GCommand × Int × Int) :=
  Option.bind (geti p1 p2) fun x11_0 =>
  Option.bind (m_script_Command_kind (GCommand.mk x11_0 ([] : List UInt8) 0 0 (GEvent.mk 0 0 0 ([] : List UInt8) ([] : List GValue)))) fun r16_1 =>
  cond (!r16_1)
  (some ((GCommand.mk x11_0 ([] : List UInt8) 0 0 (GEvent.mk 0 0 0 ([] : List UInt8) ([] : List GValue))), 0, 11))
  (Option.bind (m_script_Command_has (GCommand.mk x11_0 ([] : List UInt8) 0 0 (GEvent.mk 0 0 0 ([] : List UInt8) ([] : List GValue))) 1) fun r20_2 =>
  cond r20_2
  (Option.bind (m_script_words p1 (IntKind.i64.wrap (p2 + 1))) fun r24_3 =>
  m_script_take_j4 p0 p1 (GCommand.mk x11_0 r24_3.1 0 0 (GEvent.mk 0 0 0 ([] : List UInt8) ([] : List GValue))) r24_3.2.1 r24_3.2.2)
  (m_script_take_j4 p0 p1 (GCommand.mk x11_0 ([] : List UInt8) 0 0 (GEvent.mk 0 0 0 ([] : List UInt8) ([] : List GValue))) (IntKind.i64.wrap (p2 + 1)) 0))

def m_script_Read_l1 (p0 : (List GType)) (p1 : (List UInt8)) : Nat → (List GCommand) → Int → Option ((List GCommand) × Int × Int)
  | 0, _, _ => none
  | fu_1 + 1, y4_1, y5_1 =>
    cond (decide (y5_1 < ((List.length p1 : Nat) : Int)))
    (cond (decide (((List.length y4_1 : Nat) : Int) = 400))
    (some (y4_1, y5_1, 5))
    (Option.bind (m_script_take p0 p1 y5_1) fun r26_4 =>
    cond (decide (r26_4.2.2 ≠ 0))
    (some (y4_1, y5_1, r26_4.2.2))
    (Option.bind (app y4_1 ([r26_4.1] : List GCommand)) fun a38_5 =>
    m_script_Read_l1 p0 p1 fu_1 a38_5 r26_4.2.1)))
    (some (y4_1, y5_1, 0))
def m_script_Read (p0 : (List GType)) (p1 : (List UInt8)) : Option ((List GCommand) × Int × Int) :=
  Option.bind (m_schema_Check p0) fun r11_0 =>
  cond (decide (r11_0 ≠ 0))
  (some (([] : List GCommand), 0, 2))
  (m_script_Read_l1 p0 p1 1152921504606846976 ([] : List GCommand) 0)

def m_script_Same (p0 : GCommand) (p1 : GCommand) : Option Bool :=
  cond (decide (((p0.Kind.toNat : Nat) : Int) = ((p1.Kind.toNat : Nat) : Int)))
  (cond (decide (p0.Text = p1.Text))
  (cond (decide (p0.A = p1.A))
  (cond (decide (p0.B = p1.B))
  (Option.bind (m_event_Same p0.E p1.E) fun r36_0 =>
  some r36_0)
  (some false))
  (some false))
  (some false))
  (some false)

def m_w37_awake : Option Bool :=
  Option.bind (m_script_Write ([(GType.mk ([116] : List UInt8) ([] : List GField))] : List GType) ([(GCommand.mk 4 ([] : List UInt8) 1 5 (GEvent.mk 0 0 0 ([] : List UInt8) ([] : List GValue))), (GCommand.mk 2 ([] : List UInt8) 0 0 (GEvent.mk 0 0 0 ([] : List UInt8) ([] : List GValue))), (GCommand.mk 1 ([97] : List UInt8) 0 0 (GEvent.mk 0 0 0 ([] : List UInt8) ([] : List GValue))), (GCommand.mk 3 ([] : List UInt8) 0 0 (GEvent.mk 3 0 0 ([116] : List UInt8) ([] : List GValue))), (GCommand.mk 7 ([] : List UInt8) (-1) 0 (GEvent.mk 0 0 0 ([] : List UInt8) ([] : List GValue)))] : List GCommand)) fun r25_0 =>
  Option.bind (m_script_Read ([(GType.mk ([116] : List UInt8) ([] : List GField))] : List GType) r25_0.1) fun r31_1 =>
  Option.bind (app r25_0.1 ([8] : List UInt8)) fun t38_2 =>
  Option.bind (m_script_Read ([(GType.mk ([116] : List UInt8) ([] : List GField))] : List GType) t38_2) fun r39_2 =>
  Option.bind (m_script_Put ([] : List UInt8) ([(GType.mk ([116] : List UInt8) ([] : List GField))] : List GType) (GCommand.mk 2 ([] : List UInt8) 1 0 (GEvent.mk 0 0 0 ([] : List UInt8) ([] : List GValue)))) fun r46_3 =>
  cond (decide (r25_0.2 = 0))
  (cond (decide (r25_0.1 = ([4, 2, 10, 2, 1, 0, 1, 97, 3, 3, 0, 0, 0, 7, 1] : List UInt8)))
  (cond (decide (r31_1.2.2 = 0))
  (cond (decide (r31_1.2.1 = ((List.length r25_0.1 : Nat) : Int)))
  (cond (decide (((List.length r31_1.1 : Nat) : Int) = 5))
  (Option.bind (geti r31_1.1 3) fun x72_4 =>
  Option.bind (geti ([(GCommand.mk 4 ([] : List UInt8) 1 5 (GEvent.mk 0 0 0 ([] : List UInt8) ([] : List GValue))), (GCommand.mk 2 ([] : List UInt8) 0 0 (GEvent.mk 0 0 0 ([] : List UInt8) ([] : List GValue))), (GCommand.mk 1 ([97] : List UInt8) 0 0 (GEvent.mk 0 0 0 ([] : List UInt8) ([] : List GValue))), (GCommand.mk 3 ([] : List UInt8) 0 0 (GEvent.mk 3 0 0 ([116] : List UInt8) ([] : List GValue))), (GCommand.mk 7 ([] : List UInt8) (-1) 0 (GEvent.mk 0 0 0 ([] : List UInt8) ([] : List GValue)))] : List GCommand) 3) fun x75_4 =>
  Option.bind (m_script_Same x72_4 x75_4) fun r77_4 =>
  cond r77_4
  (cond (decide (((List.length r39_2.1 : Nat) : Int) = 5))
  (cond (decide (r39_2.2.1 = ((List.length r25_0.1 : Nat) : Int)))
  (cond (decide (r39_2.2.2 = 11))
  (cond (decide (r46_3.2 = 2))
  (Option.bind (geti ([(GCommand.mk 4 ([] : List UInt8) 1 5 (GEvent.mk 0 0 0 ([] : List UInt8) ([] : List GValue))), (GCommand.mk 2 ([] : List UInt8) 0 0 (GEvent.mk 0 0 0 ([] : List UInt8) ([] : List GValue))), (GCommand.mk 1 ([97] : List UInt8) 0 0 (GEvent.mk 0 0 0 ([] : List UInt8) ([] : List GValue))), (GCommand.mk 3 ([] : List UInt8) 0 0 (GEvent.mk 3 0 0 ([116] : List UInt8) ([] : List GValue))), (GCommand.mk 7 ([] : List UInt8) (-1) 0 (GEvent.mk 0 0 0 ([] : List UInt8) ([] : List GValue)))] : List GCommand) 0) fun x101_4 =>
  Option.bind (m_script_Check ([(GType.mk ([116] : List UInt8) ([] : List GField))] : List GType) x101_4) fun r103_4 =>
  cond (decide (r103_4 = 0))
  (some true)
  (some false))
  (some false))
  (some false))
  (some false))
  (some false))
  (some false))
  (some false))
  (some false))
  (some false))
  (some false))
  (some false)

def m_w06_Own_l3 (p0 : (List GType)) (x15_2 : GType) (y3_0 : List GType) (y4_0 : Int) (k_m_w06_Own_l0 : (List GType) → Int → Option (List GType)) : Nat → (List GField) → Int → Option (List GType)
  | 0, _, _ => none
  | fu_3 + 1, y5_d_1_3, y6_3 =>
    Option.bind (geti p0 y4_0) fun x22_4 =>
    cond (decide (y6_3 < ((List.length x22_4.Fields : Nat) : Int)))
    (Option.bind (geti p0 y4_0) fun x33_5 =>
    Option.bind (geti x33_5.Fields y6_3) fun x37_5 =>
    Option.bind (app y5_d_1_3 ([x37_5] : List GField)) fun a40_5 =>
    m_w06_Own_l3 p0 x15_2 y3_0 y4_0 k_m_w06_Own_l0 fu_3 a40_5 (IntKind.i64.wrap (y6_3 + 1)))
    (Option.bind (app y3_0 ([(GType.mk x15_2.Name y5_d_1_3)] : List GType)) fun a45_6 =>
    k_m_w06_Own_l0 a45_6 (IntKind.i64.wrap (y4_0 + 1)))
def m_w06_Own_l0 (p0 : (List GType)) : Nat → (List GType) → Int → Option (List GType)
  | 0, _, _ => none
  | fu_0 + 1, y3_0, y4_0 =>
    cond (decide (y4_0 < ((List.length p0 : Nat) : Int)))
    (Option.bind (geti p0 y4_0) fun x15_2 =>
    m_w06_Own_l3 p0 x15_2 y3_0 y4_0 (fun y3_0 y4_0 => m_w06_Own_l0 p0 fu_0 y3_0 y4_0) 1152921504606846976 ([] : List GField) 0)
    (some y3_0)
def m_w06_Own (p0 : (List GType)) : Option (List GType) :=
  m_w06_Own_l0 p0 1152921504606846976 ([] : List GType) 0

def m_w06_Vals_l0 (p0 : (List GValue)) : Nat → (List GValue) → Int → Option (List GValue)
  | 0, _, _ => none
  | fu_0 + 1, y3_0, y4_0 =>
    cond (decide (y4_0 < ((List.length p0 : Nat) : Int)))
    (Option.bind (geti p0 y4_0) fun x14_2 =>
    Option.bind (app y3_0 ([x14_2] : List GValue)) fun a17_2 =>
    m_w06_Vals_l0 p0 fu_0 a17_2 (IntKind.i64.wrap (y4_0 + 1)))
    (some y3_0)
def m_w06_Vals (p0 : (List GValue)) : Option (List GValue) :=
  m_w06_Vals_l0 p0 1152921504606846976 ([] : List GValue) 0

def m_w07_Own (p0 : GEvent) : Option GEvent :=
  Option.bind (m_w06_Vals p0.Vals) fun r13_0 =>
  some (GEvent.mk p0.Time p0.Source p0.Seq p0.Type_ r13_0)

def m_w37_Own_l0 (p0 : (List GCommand)) : Nat → (List GCommand) → Int → Option (List GCommand)
  | 0, _, _ => none
  | fu_0 + 1, y3_0, y4_0 =>
    cond (decide (y4_0 < ((List.length p0 : Nat) : Int)))
    (Option.bind (geti p0 y4_0) fun x14_2 =>
    Option.bind (m_w07_Own x14_2.E) fun r27_3 =>
    Option.bind (app y3_0 ([(GCommand.mk x14_2.Kind x14_2.Text x14_2.A x14_2.B r27_3)] : List GCommand)) fun a30_3 =>
    m_w37_Own_l0 p0 fu_0 a30_3 (IntKind.i64.wrap (y4_0 + 1)))
    (some y3_0)
def m_w37_Own (p0 : (List GCommand)) : Option (List GCommand) :=
  m_w37_Own_l0 p0 1152921504606846976 ([] : List GCommand) 0

def m_r06_Reserved_l0 (p0 : (List UInt8)) : Nat → Int → Option Bool
  | 0, _ => none
  | fu_0 + 1, y4_0 =>
    Option.bind (some (((List.length ([([119, 105, 116, 104, 105, 110] : List UInt8), ([98, 121] : List UInt8), ([97, 110, 100] : List UInt8), ([111, 114] : List UInt8), ([110, 111, 116] : List UInt8), ([97, 110, 121] : List UInt8), ([110, 101, 120, 116] : List UInt8), ([115, 116, 114, 105, 99, 116] : List UInt8), ([116, 114, 117, 101] : List UInt8), ([102, 97, 108, 115, 101] : List UInt8)] : List (List UInt8)) : Nat) : Int))) fun v8_2 =>
    cond (decide (y4_0 < v8_2))
    (Option.bind (geti ([([119, 105, 116, 104, 105, 110] : List UInt8), ([98, 121] : List UInt8), ([97, 110, 100] : List UInt8), ([111, 114] : List UInt8), ([110, 111, 116] : List UInt8), ([97, 110, 121] : List UInt8), ([110, 101, 120, 116] : List UInt8), ([115, 116, 114, 105, 99, 116] : List UInt8), ([116, 114, 117, 101] : List UInt8), ([102, 97, 108, 115, 101] : List UInt8)] : List (List UInt8)) y4_0) fun x14_3 =>
    cond (decide (x14_3 = p0))
    (some true)
    (m_r06_Reserved_l0 p0 fu_0 (IntKind.i64.wrap (y4_0 + 1))))
    (some false)
def m_r06_Reserved (p0 : (List UInt8)) : Option Bool :=
  m_r06_Reserved_l0 p0 1152921504606846976 0

def m_r06_Name_j1 : Option Bool :=
  some false
def m_r06_Name_j6 (x31_4 : UInt8) (y3_2 : Int) (k_m_r06_Name_l2 : Int → Option Bool) (y5_6 : Bool) : Option Bool :=
  cond (!decide (((x31_4.toNat : Nat) : Int) ≤ 122))
  (cond (decide (y3_2 = 0))
  (some false)
  (cond (!y5_6)
  (some false)
  (k_m_r06_Name_l2 (IntKind.i64.wrap (y3_2 + 1)))))
  (k_m_r06_Name_l2 (IntKind.i64.wrap (y3_2 + 1)))
def m_r06_Name_j11 (y3_2 : Int) (k_m_r06_Name_l2 : Int → Option Bool) : Option Bool :=
  k_m_r06_Name_l2 (IntKind.i64.wrap (y3_2 + 1))
def m_r06_Name_j10 (y3_2 : Int) (k_m_r06_Name_l2 : Int → Option Bool) (y5_10 : Bool) : Option Bool :=
  cond (decide (y3_2 = 0))
  (some false)
  (cond (!y5_10)
  (some false)
  (k_m_r06_Name_l2 (IntKind.i64.wrap (y3_2 + 1))))
def m_r06_Name_l2 (p0 : (List UInt8)) : Nat → Int → Option Bool
  | 0, _ => none
  | fu_2 + 1, y3_2 =>
    cond (decide (y3_2 < ((List.length p0 : Nat) : Int)))
    (Option.bind (geti p0 y3_2) fun x26_4 =>
    cond (decide ((97 : Int) ≤ ((x26_4.toNat : Nat) : Int)))
    (Option.bind (geti p0 y3_2) fun x31_4 =>
    Option.bind (geti p0 y3_2) fun x36_5 =>
    cond (decide ((48 : Int) ≤ ((x36_5.toNat : Nat) : Int)))
    (Option.bind (geti p0 y3_2) fun x41_5 =>
    cond (decide (((x41_5.toNat : Nat) : Int) ≤ 57))
    (cond (!decide (((x31_4.toNat : Nat) : Int) ≤ 122))
    (cond (decide (y3_2 = 0))
    (some false)
    (m_r06_Name_j11 y3_2 (fun y3_2 => m_r06_Name_l2 p0 fu_2 y3_2)))
    (m_r06_Name_j11 y3_2 (fun y3_2 => m_r06_Name_l2 p0 fu_2 y3_2)))
    (Option.bind (geti p0 y3_2) fun x47_5 =>
    m_r06_Name_j6 x31_4 y3_2 (fun y3_2 => m_r06_Name_l2 p0 fu_2 y3_2) (decide (((x47_5.toNat : Nat) : Int) = 95))))
    (Option.bind (geti p0 y3_2) fun x47_5 =>
    m_r06_Name_j6 x31_4 y3_2 (fun y3_2 => m_r06_Name_l2 p0 fu_2 y3_2) (decide (((x47_5.toNat : Nat) : Int) = 95))))
    (Option.bind (geti p0 y3_2) fun x36_9 =>
    cond (decide ((48 : Int) ≤ ((x36_9.toNat : Nat) : Int)))
    (Option.bind (geti p0 y3_2) fun x41_9 =>
    cond (decide (((x41_9.toNat : Nat) : Int) ≤ 57))
    (cond (decide (y3_2 = 0))
    (some false)
    (m_r06_Name_l2 p0 fu_2 (IntKind.i64.wrap (y3_2 + 1))))
    (Option.bind (geti p0 y3_2) fun x47_9 =>
    m_r06_Name_j10 y3_2 (fun y3_2 => m_r06_Name_l2 p0 fu_2 y3_2) (decide (((x47_9.toNat : Nat) : Int) = 95))))
    (Option.bind (geti p0 y3_2) fun x47_9 =>
    m_r06_Name_j10 y3_2 (fun y3_2 => m_r06_Name_l2 p0 fu_2 y3_2) (decide (((x47_9.toNat : Nat) : Int) = 95)))))
    (some true)
def m_r06_Name (p0 : (List UInt8)) : Option Bool :=
  cond (decide (((List.length p0 : Nat) : Int) < 1))
  (m_r06_Name_j1 )
  (cond (decide ((12 : Int) < ((List.length p0 : Nat) : Int)))
  (m_r06_Name_j1 )
  (Option.bind (m_r06_Reserved p0) fun r16_0 =>
  cond r16_0
  (some false)
  (m_r06_Name_l2 p0 1152921504606846976 0)))

def m_r04_Word (p0 : UInt8) : Option (List UInt8) :=
  cond (decide (((p0.toNat : Nat) : Int) = 1))
  (some ([105, 110, 116] : List UInt8))
  (cond (decide (((p0.toNat : Nat) : Int) = 2))
  (some ([102, 108, 97, 103] : List UInt8))
  (cond (decide (((p0.toNat : Nat) : Int) = 3))
  (some ([114, 101, 97, 108] : List UInt8))
  (cond (decide (((p0.toNat : Nat) : Int) = 4))
  (some ([116, 101, 120, 116] : List UInt8))
  (some ([] : List UInt8)))))

def m_r06_one_l7 (p0 : GType) (x24_4 : GField) (y3_2 : Int) (k_m_r06_one_l2 : Int → Option Int) : Nat → Int → Option Int
  | 0, _ => none
  | fu_7 + 1, y5_7 =>
    cond (decide (y5_7 < y3_2))
    (Option.bind (geti p0.Fields y5_7) fun x42_8 =>
    cond (decide (x42_8.Name = x24_4.Name))
    (some 21)
    (m_r06_one_l7 p0 x24_4 y3_2 k_m_r06_one_l2 fu_7 (IntKind.i64.wrap (y5_7 + 1))))
    (k_m_r06_one_l2 (IntKind.i64.wrap (y3_2 + 1)))
def m_r06_one_l2 (p0 : GType) : Nat → Int → Option Int
  | 0, _ => none
  | fu_2 + 1, y3_2 =>
    cond (decide (y3_2 < ((List.length p0.Fields : Nat) : Int)))
    (Option.bind (geti p0.Fields y3_2) fun x24_4 =>
    Option.bind (m_r06_Name x24_4.Name) fun r28_5 =>
    cond (!r28_5)
    (some 4)
    (Option.bind (m_r04_Word x24_4.Kind) fun r32_6 =>
    cond (decide (r32_6 = ([] : List UInt8)))
    (some 11)
    (m_r06_one_l7 p0 x24_4 y3_2 (fun y3_2 => m_r06_one_l2 p0 fu_2 y3_2) 1152921504606846976 0)))
    (some 0)
def m_r06_one (p0 : GType) : Option Int :=
  Option.bind (m_r06_Name p0.Name) fun r8_0 =>
  cond (!r8_0)
  (some 4)
  (cond (decide ((6 : Int) < ((List.length p0.Fields : Nat) : Int)))
  (some 5)
  (m_r06_one_l2 p0 1152921504606846976 0))

def m_r06_Check_l4 (p0 : (List GType)) (y3_1 : Int) (k_m_r06_Check_l1 : Int → Option Int) : Nat → Int → Option Int
  | 0, _ => none
  | fu_4 + 1, y5_4 =>
    cond (decide (y5_4 < y3_1))
    (Option.bind (geti p0 y5_4) fun x30_5 =>
    Option.bind (geti p0 y3_1) fun x35_5 =>
    cond (decide (x30_5.Name = x35_5.Name))
    (some 21)
    (m_r06_Check_l4 p0 y3_1 k_m_r06_Check_l1 fu_4 (IntKind.i64.wrap (y5_4 + 1))))
    (k_m_r06_Check_l1 (IntKind.i64.wrap (y3_1 + 1)))
def m_r06_Check_l1 (p0 : (List GType)) : Nat → Int → Option Int
  | 0, _ => none
  | fu_1 + 1, y3_1 =>
    cond (decide (y3_1 < ((List.length p0 : Nat) : Int)))
    (Option.bind (geti p0 y3_1) fun x17_3 =>
    Option.bind (m_r06_one x17_3) fun r19_3 =>
    cond (decide (r19_3 ≠ 0))
    (some r19_3)
    (m_r06_Check_l4 p0 y3_1 (fun y3_1 => m_r06_Check_l1 p0 fu_1 y3_1) 1152921504606846976 0))
    (some 0)
def m_r06_Check (p0 : (List GType)) : Option Int :=
  cond (decide ((8 : Int) < ((List.length p0 : Nat) : Int)))
  (some 5)
  (m_r06_Check_l1 p0 1152921504606846976 0)

def m_r06_Find_l0 (p0 : (List GType)) (p1 : (List UInt8)) : Nat → Int → Option (GType × Bool)
  | 0, _ => none
  | fu_0 + 1, y6_0 =>
    cond (decide (y6_0 < ((List.length p0 : Nat) : Int)))
    (Option.bind (geti p0 y6_0) fun x15_2 =>
    cond (decide (x15_2.Name = p1))
    (Option.bind (geti p0 y6_0) fun x22_3 =>
    some (x22_3, true))
    (m_r06_Find_l0 p0 p1 fu_0 (IntKind.i64.wrap (y6_0 + 1))))
    (some ((GType.mk ([] : List UInt8) ([] : List GField)), false))
def m_r06_Find (p0 : (List GType)) (p1 : (List UInt8)) : Option (GType × Bool) :=
  m_r06_Find_l0 p0 p1 1152921504606846976 0

def m_r03_Exp (p0 : Int) : Option Int :=
  some (IntKind.i64.wrap (Int.tmod (IntKind.u64.wrap (Int.tdiv p0 4503599627370496)) 2048))

def m_r03_Frac (p0 : Int) : Option Int :=
  some (Int.tmod p0 4503599627370496)

def m_r03_Kind_j1 (p0 : Int) : Option UInt8 :=
  Option.bind (m_r03_Exp p0) fun r12_2 =>
  cond (decide (r12_2 = 2047))
  (some 4)
  (Option.bind (m_r03_Exp p0) fun r15_3 =>
  cond (decide (r15_3 ≠ 0))
  (some 3)
  (Option.bind (m_r03_Frac p0) fun r18_4 =>
  cond (decide (r18_4 ≠ 0))
  (some 2)
  (some 1)))
def m_r03_Kind (p0 : Int) : Option UInt8 :=
  Option.bind (m_r03_Exp p0) fun r4_0 =>
  cond (decide (r4_0 = 2047))
  (Option.bind (m_r03_Frac p0) fun r8_0 =>
  cond (decide (r8_0 ≠ 0))
  (some 5)
  (m_r03_Kind_j1 p0))
  (m_r03_Kind_j1 p0)

def m_r03_Clean (p0 : Int) : Option Int :=
  Option.bind (m_r03_Kind p0) fun r4_0 =>
  cond (decide (((r4_0.toNat : Nat) : Int) = 5))
  (some 9221120237041090560)
  (some p0)

def m_r04_Check_j11 : Option Int :=
  some 2
def m_r04_Check_j12 (p0 : GValue) : Option Int :=
  cond (decide (p0.Text ≠ ([] : List UInt8)))
  (some 2)
  (some 0)
def m_r04_Check_j13 : Option Int :=
  some 0
def m_r04_Check_j9 (p0 : GValue) : Option Int :=
  cond (decide ((2 : Int) < ((p0.Kind.toNat : Nat) : Int)))
  (cond (decide (p0.N ≠ 0))
  (m_r04_Check_j11 )
  (cond (decide (((p0.Kind.toNat : Nat) : Int) ≠ 3))
  (cond (decide (p0.Bits ≠ 0))
  (m_r04_Check_j11 )
  (cond (decide (((p0.Kind.toNat : Nat) : Int) ≠ 4))
  (m_r04_Check_j12 p0)
  (m_r04_Check_j13 )))
  (cond (decide (((p0.Kind.toNat : Nat) : Int) ≠ 4))
  (m_r04_Check_j12 p0)
  (m_r04_Check_j13 ))))
  (cond (decide (((p0.Kind.toNat : Nat) : Int) ≠ 3))
  (cond (decide (p0.Bits ≠ 0))
  (m_r04_Check_j11 )
  (cond (decide (((p0.Kind.toNat : Nat) : Int) ≠ 4))
  (m_r04_Check_j12 p0)
  (m_r04_Check_j13 )))
  (cond (decide (((p0.Kind.toNat : Nat) : Int) ≠ 4))
  (m_r04_Check_j12 p0)
  (m_r04_Check_j13 )))
def m_r04_Check_j7 (p0 : GValue) : Option Int :=
  cond (decide (((p0.Kind.toNat : Nat) : Int) = 4))
  (cond (decide ((24 : Int) < ((List.length p0.Text : Nat) : Int)))
  (some 5)
  (m_r04_Check_j9 p0))
  (m_r04_Check_j9 p0)
def m_r04_Check_j5 (p0 : GValue) : Option Int :=
  cond (decide (((p0.Kind.toNat : Nat) : Int) = 3))
  (Option.bind (m_r03_Clean p0.Bits) fun r45_6 =>
  cond (decide (r45_6 ≠ p0.Bits))
  (some 4)
  (m_r04_Check_j7 p0))
  (m_r04_Check_j7 p0)
def m_r04_Check_j2 : Option Int :=
  some 8
def m_r04_Check_j3 (p0 : GValue) : Option Int :=
  cond (decide ((1 : Int) < p0.N))
  (some 8)
  (m_r04_Check_j5 p0)
def m_r04_Check_j4 (p0 : GValue) : Option Int :=
  m_r04_Check_j5 p0
def m_r04_Check (p0 : GValue) : Option Int :=
  cond (decide (((p0.Kind.toNat : Nat) : Int) < 1))
  (some 11)
  (cond (decide ((4 : Int) < ((p0.Kind.toNat : Nat) : Int)))
  (some 11)
  (cond (decide (((p0.Kind.toNat : Nat) : Int) = 1))
  (cond (decide (p0.N < (-4611686018427387904)))
  (m_r04_Check_j2 )
  (cond (decide ((4611686018427387904 : Int) < p0.N))
  (m_r04_Check_j2 )
  (cond (decide (((p0.Kind.toNat : Nat) : Int) = 2))
  (cond (decide (p0.N < 0))
  (m_r04_Check_j2 )
  (m_r04_Check_j3 p0))
  (m_r04_Check_j4 p0))))
  (cond (decide (((p0.Kind.toNat : Nat) : Int) = 2))
  (cond (decide (p0.N < 0))
  (m_r04_Check_j2 )
  (m_r04_Check_j3 p0))
  (m_r04_Check_j4 p0))))

def m_r06_Fits_l1 (p0 : GType) (p1 : (List GValue)) : Nat → Int → Option Int
  | 0, _ => none
  | fu_1 + 1, y5_1 =>
    cond (decide (y5_1 < ((List.length p1 : Nat) : Int)))
    (Option.bind (geti p1 y5_1) fun x21_3 =>
    Option.bind (m_r04_Check x21_3) fun r23_3 =>
    cond (decide (r23_3 ≠ 0))
    (some r23_3)
    (Option.bind (geti p1 y5_1) fun x29_4 =>
    Option.bind (geti p0.Fields y5_1) fun x35_4 =>
    cond (decide (((x29_4.Kind.toNat : Nat) : Int) ≠ ((x35_4.Kind.toNat : Nat) : Int)))
    (some 19)
    (m_r06_Fits_l1 p0 p1 fu_1 (IntKind.i64.wrap (y5_1 + 1)))))
    (some 0)
def m_r06_Fits (p0 : GType) (p1 : (List GValue)) : Option Int :=
  cond (decide (((List.length p1 : Nat) : Int) ≠ ((List.length p0.Fields : Nat) : Int)))
  (some 5)
  (m_r06_Fits_l1 p0 p1 1152921504606846976 0)

def m_r07_Check_j2 : Option Int :=
  some 8
def m_r07_Check (p0 : (List GType)) (p1 : GEvent) : Option Int :=
  Option.bind (m_r06_Check p0) fun r8_0 =>
  cond (decide (r8_0 ≠ 0))
  (some 2)
  (cond (decide (p1.Time < 0))
  (m_r07_Check_j2 )
  (cond (decide ((1099511627776 : Int) < p1.Time))
  (m_r07_Check_j2 )
  (cond (decide (p1.Source < 0))
  (m_r07_Check_j2 )
  (cond (decide ((16 : Int) ≤ p1.Source))
  (m_r07_Check_j2 )
  (cond (decide (p1.Seq < 0))
  (m_r07_Check_j2 )
  (cond (decide ((1099511627776 : Int) < p1.Seq))
  (some 8)
  (Option.bind (m_r06_Find p0 p1.Type_) fun r42_3 =>
  cond (!r42_3.2)
  (some 6)
  (Option.bind (m_r06_Fits r42_3.1 p1.Vals) fun r50_4 =>
  some r50_4))))))))

def m_r07_Same_j1 : Option Bool :=
  some false
def m_r07_Same_l2 (p0 : GEvent) (p1 : GEvent) : Nat → Int → Option Bool
  | 0, _ => none
  | fu_2 + 1, y5_2 =>
    cond (decide (y5_2 < ((List.length p0.Vals : Nat) : Int)))
    (Option.bind (geti p0.Vals y5_2) fun x51_4 =>
    Option.bind (geti p1.Vals y5_2) fun x56_4 =>
    Option.bind (some ((!(decide (((x51_4.Kind.toNat : Nat) : Int) = ((x56_4.Kind.toNat : Nat) : Int)) && (decide (x51_4.N = x56_4.N) && (decide (x51_4.Bits = x56_4.Bits) && (decide (x51_4.Text = x56_4.Text) && true))))))) fun v58_4 =>
    cond v58_4
    (some false)
    (m_r07_Same_l2 p0 p1 fu_2 (IntKind.i64.wrap (y5_2 + 1))))
    (some true)
def m_r07_Same (p0 : GEvent) (p1 : GEvent) : Option Bool :=
  cond (decide (p0.Time ≠ p1.Time))
  (m_r07_Same_j1 )
  (cond (decide (p0.Source ≠ p1.Source))
  (m_r07_Same_j1 )
  (cond (decide (p0.Seq ≠ p1.Seq))
  (m_r07_Same_j1 )
  (cond (decide (p0.Type_ ≠ p1.Type_))
  (m_r07_Same_j1 )
  (cond (decide (((List.length p0.Vals : Nat) : Int) ≠ ((List.length p1.Vals : Nat) : Int)))
  (some false)
  (m_r07_Same_l2 p0 p1 1152921504606846976 0)))))

def m_r37_Check_j7 : Option Int :=
  some 2
def m_r37_Check_j8 (p1 : GCommand) : Option Int :=
  cond (decide (p1.B ≠ 0))
  (some 2)
  (some 0)
def m_r37_Check_j9 : Option Int :=
  some 0
def m_r37_Check_j5 (p1 : GCommand) : Option Int :=
  cond (decide (((p1.Kind.toNat : Nat) : Int) ≠ 1))
  (cond (decide (p1.Text ≠ ([] : List UInt8)))
  (m_r37_Check_j7 )
  (cond (decide (((p1.Kind.toNat : Nat) : Int) ≠ 3))
  (Option.bind (m_r07_Same p1.E (GEvent.mk 0 0 0 ([] : List UInt8) ([] : List GValue))) fun r52_6 =>
  cond (!r52_6)
  (m_r37_Check_j7 )
  (cond (decide (((p1.Kind.toNat : Nat) : Int) < 4))
  (cond (decide (p1.A ≠ 0))
  (m_r37_Check_j7 )
  (cond (decide (((p1.Kind.toNat : Nat) : Int) ≠ 4))
  (m_r37_Check_j8 p1)
  (m_r37_Check_j9 )))
  (cond (decide (((p1.Kind.toNat : Nat) : Int) ≠ 4))
  (m_r37_Check_j8 p1)
  (m_r37_Check_j9 ))))
  (cond (decide (((p1.Kind.toNat : Nat) : Int) < 4))
  (cond (decide (p1.A ≠ 0))
  (m_r37_Check_j7 )
  (cond (decide (((p1.Kind.toNat : Nat) : Int) ≠ 4))
  (m_r37_Check_j8 p1)
  (m_r37_Check_j9 )))
  (cond (decide (((p1.Kind.toNat : Nat) : Int) ≠ 4))
  (m_r37_Check_j8 p1)
  (m_r37_Check_j9 )))))
  (cond (decide (((p1.Kind.toNat : Nat) : Int) ≠ 3))
  (Option.bind (m_r07_Same p1.E (GEvent.mk 0 0 0 ([] : List UInt8) ([] : List GValue))) fun r52_6 =>
  cond (!r52_6)
  (m_r37_Check_j7 )
  (cond (decide (((p1.Kind.toNat : Nat) : Int) < 4))
  (cond (decide (p1.A ≠ 0))
  (m_r37_Check_j7 )
  (cond (decide (((p1.Kind.toNat : Nat) : Int) ≠ 4))
  (m_r37_Check_j8 p1)
  (m_r37_Check_j9 )))
  (cond (decide (((p1.Kind.toNat : Nat) : Int) ≠ 4))
  (m_r37_Check_j8 p1)
  (m_r37_Check_j9 ))))
  (cond (decide (((p1.Kind.toNat : Nat) : Int) < 4))
  (cond (decide (p1.A ≠ 0))
  (m_r37_Check_j7 )
  (cond (decide (((p1.Kind.toNat : Nat) : Int) ≠ 4))
  (m_r37_Check_j8 p1)
  (m_r37_Check_j9 )))
  (cond (decide (((p1.Kind.toNat : Nat) : Int) ≠ 4))
  (m_r37_Check_j8 p1)
  (m_r37_Check_j9 ))))
def m_r37_Check_j3 (p0 : (List GType)) (p1 : GCommand) : Option Int :=
  cond (decide (((p1.Kind.toNat : Nat) : Int) = 3))
  (Option.bind (m_r07_Check p0 p1.E) fun r32_4 =>
  cond (decide (r32_4 ≠ 0))
  (some r32_4)
  (m_r37_Check_j5 p1))
  (m_r37_Check_j5 p1)
def m_r37_Check (p0 : (List GType)) (p1 : GCommand) : Option Int :=
  Option.bind (m_r06_Check p0) fun r7_0 =>
  cond (decide (r7_0 ≠ 0))
  (some 2)
  (cond (decide (((p1.Kind.toNat : Nat) : Int) < 1))
  (some 11)
  (cond (decide ((7 : Int) < ((p1.Kind.toNat : Nat) : Int)))
  (some 11)
  (cond (decide (((p1.Kind.toNat : Nat) : Int) = 1))
  (cond (decide ((600 : Int) < ((List.length p1.Text : Nat) : Int)))
  (some 5)
  (m_r37_Check_j3 p0 p1))
  (m_r37_Check_j3 p0 p1))))

def m_r01_Num_l1 (p0 : (List UInt8)) (p1 : Int) : Nat → Int → (List UInt8) → Int → Option ((List UInt8) × Int)
  | 0, _, _, _ => none
  | fu_1 + 1, y2_1, y8_1, y9_1 =>
    cond (decide (y9_1 < p1))
    (Option.bind (app ([(toU8 (Int.tmod y2_1 256))] : List UInt8) y8_1) fun a28_2 =>
    m_r01_Num_l1 p0 p1 fu_1 (IntKind.i64.wrap (Int.tdiv y2_1 256)) a28_2 (IntKind.i64.wrap (y9_1 + 1)))
    (cond (decide ((0 : Int) < y2_1))
    (some (([] : List UInt8), 8))
    (Option.bind (app ([] : List UInt8) p0) fun a35_3 =>
    Option.bind (app a35_3 y8_1) fun a37_3 =>
    some (a37_3, 0)))
def m_r01_Num (p0 : (List UInt8)) (p1 : Int) (p2 : Int) : Option ((List UInt8) × Int) :=
  cond (decide (p1 < 1))
  (some (([] : List UInt8), 2))
  (cond (decide ((6 : Int) < p1))
  (some (([] : List UInt8), 2))
  (cond (decide (p2 < 0))
  (some (([] : List UInt8), 8))
  (m_r01_Num_l1 p0 p1 1152921504606846976 p2 ([] : List UInt8) 0)))

def m_r01_Text (p0 : (List UInt8)) (p1 : (List UInt8)) : Option ((List UInt8) × Int) :=
  Option.bind (m_r01_Num p0 2 ((List.length p1 : Nat) : Int)) fun r12_0 =>
  cond (decide (r12_0.2 ≠ 0))
  (some (([] : List UInt8), 5))
  (Option.bind (app r12_0.1 p1) fun a19_1 =>
  some (a19_1, 0))

def m_r02_sevens_l1 : Nat → Int → (List Int) → Option (List Int)
  | 0, _, _ => none
  | fu_1 + 1, y0_1, y3_1 =>
    cond (decide ((0 : Int) < y0_1))
    (Option.bind (app y3_1 ([(IntKind.i64.wrap (Int.tmod y0_1 128))] : List Int)) fun a17_2 =>
    m_r02_sevens_l1 fu_1 (IntKind.u64.wrap (Int.tdiv y0_1 128)) a17_2)
    (some y3_1)
def m_r02_sevens (p0 : Int) : Option (List Int) :=
  m_r02_sevens_l1  1152921504606846976 (IntKind.u64.wrap (Int.tdiv p0 128)) ([(IntKind.i64.wrap (Int.tmod p0 128))] : List Int)

def m_r02_Put_l2 (r12_1 : (List Int)) : Nat → (List UInt8) → Int → Option (List UInt8)
  | 0, _, _ => none
  | fu_2 + 1, y5_2, y7_2 =>
    cond (decide (y7_2 < ((List.length r12_1 : Nat) : Int)))
    (cond (decide (y7_2 < (IntKind.i64.wrap (((List.length r12_1 : Nat) : Int) - 1))))
    (Option.bind (geti r12_1 y7_2) fun x27_5 =>
    Option.bind (app y5_2 ([(toU8 (IntKind.i64.wrap (128 + x27_5)))] : List UInt8)) fun a32_5 =>
    m_r02_Put_l2 r12_1 fu_2 a32_5 (IntKind.i64.wrap (y7_2 + 1)))
    (Option.bind (geti r12_1 y7_2) fun x36_6 =>
    Option.bind (app y5_2 ([(toU8 x36_6)] : List UInt8)) fun a40_6 =>
    m_r02_Put_l2 r12_1 fu_2 a40_6 (IntKind.i64.wrap (y7_2 + 1))))
    (some y5_2)
def m_r02_Put (p0 : (List UInt8)) (p1 : Int) : Option (List UInt8) :=
  Option.bind (app ([] : List UInt8) p0) fun a10_0 =>
  Option.bind (m_r02_sevens p1) fun r12_1 =>
  m_r02_Put_l2 r12_1 1152921504606846976 a10_0 0

def m_r07_place_l0 (p0 : (List GType)) (p1 : (List UInt8)) : Nat → Int → Option Int
  | 0, _ => none
  | fu_0 + 1, y5_0 =>
    cond (decide (y5_0 < ((List.length p0 : Nat) : Int)))
    (Option.bind (geti p0 y5_0) fun x14_2 =>
    cond (decide (x14_2.Name = p1))
    (some y5_0)
    (m_r07_place_l0 p0 p1 fu_0 (IntKind.i64.wrap (y5_0 + 1))))
    (some (-1))
def m_r07_place (p0 : (List GType)) (p1 : (List UInt8)) : Option Int :=
  m_r07_place_l0 p0 p1 1152921504606846976 0

def m_r02_Fold (p0 : Int) : Option Int :=
  cond (decide (p0 < 0))
  (Option.bind (some ((IntKind.u64.wrap ((IntKind.u64.wrap (2 * (IntKind.u64.wrap (IntKind.i64.wrap (0 - (IntKind.i64.wrap (p0 + 1))))))) + 1)))) fun v10_0 =>
  some v10_0)
  (some (IntKind.u64.wrap (2 * (IntKind.u64.wrap p0))))

def m_r01_Word_l0 (p0 : (List UInt8)) : Nat → Int → (List UInt8) → Int → Option (List UInt8)
  | 0, _, _, _ => none
  | fu_0 + 1, y1_0, y5_0, y6_0 =>
    cond (decide (y6_0 < 8))
    (Option.bind (app ([(toU8 (Int.tmod y1_0 256))] : List UInt8) y5_0) fun a16_1 =>
    m_r01_Word_l0 p0 fu_0 (IntKind.u64.wrap (Int.tdiv y1_0 256)) a16_1 (IntKind.i64.wrap (y6_0 + 1)))
    (Option.bind (app ([] : List UInt8) p0) fun a21_2 =>
    Option.bind (app a21_2 y5_0) fun a23_2 =>
    some a23_2)
def m_r01_Word (p0 : (List UInt8)) (p1 : Int) : Option (List UInt8) :=
  m_r01_Word_l0 p0 1152921504606846976 p1 ([] : List UInt8) 0

def m_r04_Put (p0 : (List UInt8)) (p1 : GValue) : Option ((List UInt8) × Int) :=
  Option.bind (m_r04_Check p1) fun r9_0 =>
  cond (decide (r9_0 ≠ 0))
  (some (([] : List UInt8), r9_0))
  (Option.bind (app ([] : List UInt8) p0) fun a15_1 =>
  Option.bind (app a15_1 ([p1.Kind] : List UInt8)) fun a19_1 =>
  cond (decide (((p1.Kind.toNat : Nat) : Int) = 1))
  (Option.bind (m_r02_Fold p1.N) fun r26_2 =>
  Option.bind (m_r02_Put a19_1 r26_2) fun r27_2 =>
  some (r27_2, 0))
  (cond (decide (((p1.Kind.toNat : Nat) : Int) = 2))
  (Option.bind (app a19_1 ([(toU8 p1.N)] : List UInt8)) fun a36_3 =>
  some (a36_3, 0))
  (cond (decide (((p1.Kind.toNat : Nat) : Int) = 3))
  (Option.bind (m_r01_Word a19_1 p1.Bits) fun r43_4 =>
  some (r43_4, 0))
  (Option.bind (m_r02_Put a19_1 (IntKind.u64.wrap ((List.length p1.Text : Nat) : Int))) fun r49_5 =>
  Option.bind (app r49_5 p1.Text) fun a52_5 =>
  some (a52_5, 0)))))

def m_r07_Put_l5 (p2 : GEvent) : Nat → (List UInt8) → Int → Option ((List UInt8) × Int)
  | 0, _, _ => none
  | fu_5 + 1, y0_5, y9_5 =>
    cond (decide (y9_5 < ((List.length p2.Vals : Nat) : Int)))
    (Option.bind (geti p2.Vals y9_5) fun x50_7 =>
    Option.bind (m_r04_Put y0_5 x50_7) fun r52_7 =>
    m_r07_Put_l5 p2 fu_5 r52_7.1 (IntKind.i64.wrap (y9_5 + 1)))
    (some (y0_5, 0))
def m_r07_Put (p0 : (List UInt8)) (p1 : (List GType)) (p2 : GEvent) : Option ((List UInt8) × Int) :=
  Option.bind (m_r07_Check p1 p2) fun r12_0 =>
  cond (decide (r12_0 ≠ 0))
  (some (([] : List UInt8), r12_0))
  (Option.bind (m_r02_Put p0 (IntKind.u64.wrap p2.Time)) fun r20_1 =>
  Option.bind (m_r02_Put r20_1 (IntKind.u64.wrap p2.Source)) fun r25_2 =>
  Option.bind (m_r02_Put r25_2 (IntKind.u64.wrap p2.Seq)) fun r30_3 =>
  Option.bind (m_r07_place p1 p2.Type_) fun r35_4 =>
  Option.bind (m_r02_Put r30_3 (IntKind.u64.wrap r35_4)) fun r37_4 =>
  m_r07_Put_l5 p2 1152921504606846976 r37_4 0)

def m_r37_Put_j5 (p2 : GCommand) (y9_5 : List UInt8) : Option ((List UInt8) × Int) :=
  cond (decide (((p2.Kind.toNat : Nat) : Int) = 4))
  (Option.bind (m_r02_Fold p2.B) fun r56_6 =>
  Option.bind (m_r02_Put y9_5 r56_6) fun r57_6 =>
  some (r57_6, 0))
  (some (y9_5, 0))
def m_r37_Put (p0 : (List UInt8)) (p1 : (List GType)) (p2 : GCommand) : Option ((List UInt8) × Int) :=
  Option.bind (m_r37_Check p1 p2) fun r12_0 =>
  cond (decide (r12_0 ≠ 0))
  (some (([] : List UInt8), r12_0))
  (Option.bind (app ([] : List UInt8) p0) fun a18_1 =>
  Option.bind (app a18_1 ([p2.Kind] : List UInt8)) fun a22_1 =>
  cond (decide (((p2.Kind.toNat : Nat) : Int) = 1))
  (Option.bind (m_r01_Text a22_1 p2.Text) fun r29_2 =>
  some (r29_2.1, r29_2.2))
  (cond (decide (((p2.Kind.toNat : Nat) : Int) = 3))
  (Option.bind (m_r07_Put a22_1 p1 p2.E) fun r39_3 =>
  some (r39_3.1, r39_3.2))
  (cond (decide ((4 : Int) ≤ ((p2.Kind.toNat : Nat) : Int)))
  (Option.bind (m_r02_Fold p2.A) fun r48_4 =>
  Option.bind (m_r02_Put a22_1 r48_4) fun r49_4 =>
  m_r37_Put_j5 p2 r49_4)
  (m_r37_Put_j5 p2 a22_1))))

def m_r37_Write_l1 (p0 : (List GType)) (p1 : (List GCommand)) : Nat → (List UInt8) → Int → Option ((List UInt8) × Int)
  | 0, _, _ => none
  | fu_1 + 1, y6_1, y7_1 =>
    cond (decide (y7_1 < ((List.length p1 : Nat) : Int)))
    (Option.bind (geti p1 y7_1) fun x24_3 =>
    Option.bind (m_r37_Put y6_1 p0 x24_3) fun r26_3 =>
    cond (decide (r26_3.2 ≠ 0))
    (some (([] : List UInt8), r26_3.2))
    (m_r37_Write_l1 p0 p1 fu_1 r26_3.1 (IntKind.i64.wrap (y7_1 + 1))))
    (some (y6_1, 0))
def m_r37_Write (p0 : (List GType)) (p1 : (List GCommand)) : Option ((List UInt8) × Int) :=
  cond (decide ((400 : Int) < ((List.length p1 : Nat) : Int)))
  (some (([] : List UInt8), 5))
  (m_r37_Write_l1 p0 p1 1152921504606846976 ([] : List UInt8) 0)

def m_w37_ScriptParts_j1 : Option Bool :=
  Option.bind m_w37_awake fun r32_2 =>
  some r32_2
def m_w37_ScriptParts (p0 : (List GType)) (p1 : (List GCommand)) (p2 : (List GCommand)) : Option Bool :=
  Option.bind (m_w06_Over p0) fun r20_0 =>
  cond (decide ((0 : Int) < r20_0))
  (m_w37_ScriptParts_j1 )
  (Option.bind (m_w37_Over p1 10) fun r24_0 =>
  cond (decide ((0 : Int) < r24_0))
  (m_w37_ScriptParts_j1 )
  (Option.bind (m_w37_Over p2 10) fun r29_0 =>
  cond (decide ((0 : Int) < r29_0))
  (Option.bind m_w37_awake fun r32_3 =>
  some r32_3)
  (Option.bind (m_w06_Own p0) fun r34_4 =>
  Option.bind (m_w37_Own p1) fun r36_4 =>
  Option.bind (m_w37_Own p2) fun r38_4 =>
  Option.bind (m_script_Write r34_4 r36_4) fun r42_5 =>
  Option.bind (m_script_Write r34_4 r38_4) fun r48_6 =>
  Option.bind (app ([] : List GCommand) r36_4) fun a55_7 =>
  Option.bind (app a55_7 r38_4) fun a57_7 =>
  Option.bind (m_script_Write r34_4 a57_7) fun r58_7 =>
  cond (decide (r42_5.2 ≠ 0))
  (cond (decide (r58_7.2 = r42_5.2))
  (cond (decide (r58_7.1 = ([] : List UInt8)))
  (Option.bind m_w37_awake fun r84_9 =>
  some r84_9)
  (some false))
  (cond (decide (r42_5.2 = 0))
  (cond (decide (r58_7.2 = r48_6.2))
  (cond (decide (r58_7.1 = ([] : List UInt8)))
  (Option.bind m_w37_awake fun r84_9 =>
  some r84_9)
  (some false))
  (some false))
  (some false)))
  (cond (decide (r48_6.2 ≠ 0))
  (cond (decide (r58_7.2 = r42_5.2))
  (cond (decide (r58_7.1 = ([] : List UInt8)))
  (Option.bind m_w37_awake fun r84_10 =>
  some r84_10)
  (some false))
  (cond (decide (r42_5.2 = 0))
  (cond (decide (r58_7.2 = r48_6.2))
  (cond (decide (r58_7.1 = ([] : List UInt8)))
  (Option.bind m_w37_awake fun r84_10 =>
  some r84_10)
  (some false))
  (some false))
  (some false)))
  (cond (decide ((IntKind.i64.wrap (((List.length r36_4 : Nat) : Int) + ((List.length r38_4 : Nat) : Int))) = 0))
  (cond (decide (r58_7.1 = ([] : List UInt8)))
  (Option.bind m_w37_awake fun r95_12 =>
  some r95_12)
  (some false))
  (Option.bind (m_script_Read r34_4 r58_7.1) fun r100_13 =>
  cond (decide (r58_7.2 = 0))
  (Option.bind (app r42_5.1 r48_6.1) fun t110_14 =>
  cond (decide (r58_7.1 = t110_14))
  (cond (decide (r100_13.2.2 = 0))
  (cond (decide (r100_13.2.1 = ((List.length r58_7.1 : Nat) : Int)))
  (Option.bind (some (decide (((List.length r100_13.1 : Nat) : Int) = (IntKind.i64.wrap (((List.length r36_4 : Nat) : Int) + ((List.length r38_4 : Nat) : Int)))))) fun v131_14 =>
  cond v131_14
  (Option.bind m_w37_awake fun r134_14 =>
  some r134_14)
  (some false))
  (some false))
  (some false))
  (some false))
  (some false)))))))
end Go.Proofs.YtaaooafcijdbmaaDoor.K
