/- octet: grown, lay -/
import Derived.Test.YtfklpnaklhcobaaAq
import Derived.Test.YtfklpnaklhcobaaProg
import Derived.Test.YtfklpnaklhcobaaOctP
namespace Go.Proofs.Ytfklpnaklhcobaa.K
open Go.RowKit Go.Lib
set_option linter.unusedVariables false

theorem elemOK_22 : ElemOK Try.prog 22 5 1 1 (.int .u8 0) := ⟨by kernel_rfl, by kernel_rfl, by kernel_rfl, by decide, by decide⟩
theorem rep_split (a b : Nat) : List.replicate (a + b) (0 : UInt8) = List.replicate a 0 ++ List.replicate b 0 := List.replicate_append_replicate.symm
theorem grown_eq (l : List UInt8) (m : Nat) : putC (bytesD (List.replicate (l.length + m) 0)) 0 (bytesD l) = bytesD (l ++ List.replicate m 0) := by
  rw [put_bytes0]; simp [Nat.add_sub_cancel_left]
set_option maxRecDepth 20000 in
set_option maxHeartbeats 4000000 in
theorem grown_c (l : List UInt8) (m : Nat) (hl : l.length + m ≤ 1000000000) : GCall Try.prog 28 [(.d (.sl l.length (bytesD l))), (.d (.lit (.int .i64 ((m : Nat) : Int))))] [] (.own 0) [(.arr 5 1 ((l ++ List.replicate m 0).length) (bytesD (l ++ List.replicate m 0)))] := by
  refine GCall.of_body (n := 15) (rs := [(.tmp 4)]) Try.func28 rfl rfl rfl ?_
  refine AWP.to_ (st' := ⟨[(.d (.sl l.length (bytesD l))), (.d (.lit (.int .i64 ((m : Nat) : Int)))), (.tup []), (.tup []), (.tup []), (.tup []), (.tup []), (.tup []), (.tup []), (.tup []), (.tup []), (.tup []), (.tup []), (.tup []), (.tup [])], [], 0⟩) (by kernel_rfl) ?_
  refine AWP.seq ?_
  refine AWP.text ?_
  refine Walk.yes (val := (.d .nil)) (bl := []) (by kernel_rfl) ((op_move rfl).cast (by kernel_rfl)) ?_
  refine Walk.to_ (st' := ⟨[(.d (.sl l.length (bytesD l))), (.d (.lit (.int .i64 ((m : Nat) : Int)))), (.tup []), (.tup []), (.d .nil), (.tup []), (.tup []), (.tup []), (.tup []), (.tup []), (.tup []), (.tup []), (.tup []), (.tup []), (.tup [])], [], 0⟩) (by kernel_rfl) ?_
  refine Walk.nil ?_
  refine Then.normal ?_
  refine AWP.seq ?_
  refine AWP.text ?_
  refine Walk.yes (val := (.d (.sl l.length (bytesD l)))) (bl := []) (by kernel_rfl) ((op_move rfl).cast (by kernel_rfl)) ?_
  refine Walk.yes (val := (.d (.lit (.int .i64 ((l.length : Nat) : Int))))) (bl := []) (by kernel_rfl) (op_len rfl (e := 5) (by kernel_rfl) (y := (.d (.sl l.length (bytesD l)))) (by kernel_rfl) (ds := (bytesD l)) (off := 0) (by kernel_rfl)) ?_
  refine Walk.yes (val := (.d (.lit (.int .i64 ((m : Nat) : Int))))) (bl := []) (by kernel_rfl) ((op_move rfl).cast (by kernel_rfl)) ?_
  refine Walk.yes (val := (.d (.lit (.int .i64 ((l.length + m : Nat) : Int))))) (bl := []) (by kernel_rfl) (((op_bin rfl (a1 := (.int .i64 ((l.length : Nat) : Int))) (a2 := (.int .i64 ((m : Nat) : Int))) (by kernel_rfl) (by kernel_rfl) (fun _ => hb_add))).cast (lit_i64 (by first | rfl | omega | (simp; done)) (by omega) (by omega))) ?_
  refine Walk.yes (val := (.own 0)) (bl := [(0, (.arr 5 1 ((List.replicate (l.length + m) (0 : UInt8)).length) (bytesD (List.replicate (l.length + m) (0 : UInt8)))))]) (by kernel_rfl) ((op_make rfl elemOK_22 (by kernel_rfl) (kl := .i64) (kc := .i64) (L := ((l.length + m : Nat) : Int)) (C := ((l.length + m : Nat) : Int)) (by kernel_rfl) (by kernel_rfl) (n := (l.length + m)) rfl rfl (by omega) (by kernel_rfl)).castB (bl_one (by simp) (mk_bytes _))) ?_
  refine Walk.yes (val := (.own 0)) (bl := []) (by kernel_rfl) ((op_move rfl).cast (by kernel_rfl)) ?_
  refine Walk.to_ (st' := ⟨[(.d (.sl l.length (bytesD l))), (.d (.lit (.int .i64 ((m : Nat) : Int)))), (.tup []), (.tup []), (.d .nil), (.own 0), (.d (.sl l.length (bytesD l))), (.d (.lit (.int .i64 ((l.length : Nat) : Int)))), (.d (.lit (.int .i64 ((m : Nat) : Int)))), (.d (.lit (.int .i64 ((l.length + m : Nat) : Int)))), (.own 0), (.tup []), (.tup []), (.tup []), (.tup [])], [(.arr 5 1 ((List.replicate (l.length + m) (0 : UInt8)).length) (bytesD (List.replicate (l.length + m) (0 : UInt8))))], 0⟩) (by kernel_rfl) ?_
  refine Walk.nil ?_
  refine Then.normal ?_
  refine AWP.seq ?_
  refine AWP.text ?_
  refine Walk.yes (val := (.own 0)) (bl := []) (by kernel_rfl) ((op_move rfl).cast (by kernel_rfl)) ?_
  refine Walk.yes (val := (.d (.sl l.length (bytesD l)))) (bl := []) (by kernel_rfl) ((op_move rfl).cast (by kernel_rfl)) ?_
  refine Walk.yes (val := (.d (.lit (.int .i64 ((l.length : Nat) : Int))))) (bl := [(0, (.arr 5 1 ((l ++ List.replicate m 0).length) (bytesD (l ++ List.replicate m 0))))]) (by kernel_rfl) ((op_copy rfl (e := 5) (sz := 1) (by kernel_rfl) (yd := (.own 0)) (by kernel_rfl) (id := 0) (off := 0) (dn := ((List.replicate (l.length + m) (0 : UInt8)).length)) (by kernel_rfl) (n := ((List.replicate (l.length + m) (0 : UInt8)).length)) (xs := (bytesD (List.replicate (l.length + m) (0 : UInt8)))) (by kernel_rfl) (y := (.d (.sl l.length (bytesD l)))) (by kernel_rfl) (ds := (bytesD l)) (soff := 0) (k := l.length) (by kernel_rfl) (es := (bytesD l)) (byt_all) (byt_len) (by first | omega | (simp; done) | (simp; omega)) (by first | omega | (simp; done) | (simp; omega)) (by decide)).castB (bl_one (by simp) (grown_eq _ _))) ?_
  refine Walk.to_ (st' := ⟨[(.d (.sl l.length (bytesD l))), (.d (.lit (.int .i64 ((m : Nat) : Int)))), (.tup []), (.tup []), (.d .nil), (.own 0), (.d (.sl l.length (bytesD l))), (.d (.lit (.int .i64 ((l.length : Nat) : Int)))), (.d (.lit (.int .i64 ((m : Nat) : Int)))), (.d (.lit (.int .i64 ((l.length + m : Nat) : Int)))), (.own 0), (.own 0), (.d (.sl l.length (bytesD l))), (.d (.lit (.int .i64 ((l.length : Nat) : Int)))), (.tup [])], [(.arr 5 1 ((l ++ List.replicate m 0).length) (bytesD (l ++ List.replicate m 0)))], 0⟩) (by kernel_rfl) ?_
  refine Walk.nil ?_
  refine Then.normal ?_
  refine AWP.seq ?_
  refine AWP.text ?_
  refine Walk.yes (val := (.own 0)) (bl := []) (by kernel_rfl) ((op_move rfl).cast (by kernel_rfl)) ?_
  refine Walk.yes (val := (.own 0)) (bl := []) (by kernel_rfl) ((op_move rfl).cast (by kernel_rfl)) ?_
  refine Walk.to_ (st' := ⟨[(.d (.sl l.length (bytesD l))), (.d (.lit (.int .i64 ((m : Nat) : Int)))), (.tup []), (.tup []), (.own 0), (.own 0), (.d (.sl l.length (bytesD l))), (.d (.lit (.int .i64 ((l.length : Nat) : Int)))), (.d (.lit (.int .i64 ((m : Nat) : Int)))), (.d (.lit (.int .i64 ((l.length + m : Nat) : Int)))), (.own 0), (.own 0), (.d (.sl l.length (bytesD l))), (.d (.lit (.int .i64 ((l.length : Nat) : Int)))), (.own 0)], [(.arr 5 1 ((l ++ List.replicate m 0).length) (bytesD (l ++ List.replicate m 0)))], 0⟩) (by kernel_rfl) ?_
  refine Walk.nil ?_
  refine Then.normal ?_
  refine AWP.ret ?_
  exact ret_intro [0] [(.own 0)] (by kernel_rfl) (by kernel_rfl) (⟨by kernel_rfl, trivial⟩) (by kernel_rfl) ⟨Nat.le_of_ble_eq_true rfl, rfl⟩
/-- Bytes whose k lowest of u end at place n. -/
def layn (l : List UInt8) (n k u : Nat) : List UInt8 := l.take (n - k) ++ (beb k u ++ l.drop n)
theorem layn_zero (l : List UInt8) (n u : Nat) : layn l n 0 u = l := by simp [layn, beb]
theorem layn_length {l : List UInt8} {n k u : Nat} (h : k ≤ n) (hn : n ≤ l.length) : (layn l n k u).length = l.length := by simp [layn, beb_length]; omega
theorem layn_step {l : List UInt8} {n k u : Nat} (h : k < n) (hn : n ≤ l.length) : (layn l n k u).set (n - 1 - k) (UInt8.ofNat (u / 256 ^ k % 256)) = layn l n (k + 1) u := by
  obtain ⟨m, rfl⟩ : ∃ m, n = m + k + 1 := ⟨n - k - 1, by omega⟩
  unfold layn
  rw [show m + k + 1 - k = m + 1 by omega, show m + k + 1 - (k + 1) = m by omega, show m + k + 1 - 1 - k = m by omega]
  have hlen : (l.take m).length = m := by simp; omega
  have e : l.take (m + 1) = l.take m ++ [l[m]'(by omega)] := by rw [List.take_add_one]; simp [List.getElem?_eq_getElem (show m < l.length by omega)]
  rw [e, List.append_assoc, List.set_append_right _ _ (by omega), hlen, Nat.sub_self]
  rfl
theorem layn_put {l : List UInt8} {n k u : Nat} (h : k < n) (hn : n ≤ l.length) : putC (bytesD (layn l n k u)) ((n - 1 - k) * 1) [byteD (UInt8.ofNat (u / 256 ^ k % 256))] = bytesD (layn l n (k + 1) u) := by
  rw [byt_set' (by rw [layn_length (by omega) hn]; omega), layn_step h hn]
set_option maxRecDepth 20000 in
set_option maxHeartbeats 4000000 in
theorem lay_own (l : List UInt8) (wd u : Nat) (hwd : wd ≤ l.length) (hl : l.length ≤ 1000000000) (hu : u < 18446744073709551616) : GCall Try.prog 29 [(.own 0), (.d (.lit (.int .i64 ((wd : Nat) : Int)))), (.d (.lit (.int .u64 ((u : Nat) : Int))))] [(.arr 5 1 l.length (bytesD l))] (.tup []) [(.arr 5 1 l.length (bytesD (layn l l.length wd u)))] := by
  refine GCall.of_body (n := 25) (rs := []) Try.func29 rfl rfl rfl ?_
  refine AWP.to_ (st' := ⟨[(.own 0), (.d (.lit (.int .i64 ((wd : Nat) : Int)))), (.d (.lit (.int .u64 ((u : Nat) : Int)))), (.tup []), (.tup []), (.tup []), (.tup []), (.tup []), (.tup []), (.tup []), (.tup []), (.tup []), (.tup []), (.tup []), (.tup []), (.tup []), (.tup []), (.tup []), (.tup []), (.tup []), (.tup []), (.tup []), (.tup []), (.tup []), (.tup [])], [(.arr 5 1 l.length (bytesD l))], 1⟩) (by kernel_rfl) ?_
  refine AWP.seq ?_
  refine AWP.text ?_
  refine Walk.yes (val := (.own 0)) (bl := []) (by kernel_rfl) ((op_move rfl).cast (by kernel_rfl)) ?_
  refine Walk.yes (val := (.d (.lit (.int .i64 ((l.length : Nat) : Int))))) (bl := []) (by kernel_rfl) (op_len rfl (e := 5) (by kernel_rfl) (y := (.own 0)) (by kernel_rfl) (ds := (bytesD l)) (off := 0) (by kernel_rfl)) ?_
  refine Walk.yes (val := (.d (.lit (.int .i64 (((l.length : Nat) : Int) - 1))))) (bl := []) (by kernel_rfl) (((op_bin rfl (a1 := (.int .i64 ((l.length : Nat) : Int))) (a2 := (.int .i64 1)) (by kernel_rfl) (by kernel_rfl) (fun _ => hb_sub))).cast (lit_i64 (by first | rfl | omega | (simp; done)) (by omega) (by omega))) ?_
  refine Walk.yes (val := (.d (.lit (.int .i64 (((l.length : Nat) : Int) - 1))))) (bl := []) (by kernel_rfl) ((op_move rfl).cast (by kernel_rfl)) ?_
  refine Walk.to_ (st' := ⟨[(.own 0), (.d (.lit (.int .i64 ((wd : Nat) : Int)))), (.d (.lit (.int .u64 ((u : Nat) : Int)))), (.tup []), (.tup []), (.tup []), (.d (.lit (.int .i64 (((l.length : Nat) : Int) - 1)))), (.own 0), (.d (.lit (.int .i64 ((l.length : Nat) : Int)))), (.d (.lit (.int .i64 (((l.length : Nat) : Int) - 1)))), (.tup []), (.tup []), (.tup []), (.tup []), (.tup []), (.tup []), (.tup []), (.tup []), (.tup []), (.tup []), (.tup []), (.tup []), (.tup []), (.tup []), (.tup [])], [(.arr 5 1 l.length (bytesD l))], 1⟩) (by kernel_rfl) ?_
  refine Walk.nil ?_
  refine Then.normal ?_
  refine AWP.block ?_
  refine AWP.loopI (α := Nat)
    (fun (x : Nat) => match x with | k => (⟨[(.own 0), (.d (.lit (.int .i64 ((wd : Nat) : Int)))), (.d (.lit (.int .u64 ((u / 256 ^ k : Nat) : Int)))), (.tup []), (.tup []), (.tup []), (.d (.lit (.int .i64 (((l.length : Nat) : Int) - 1 - (k : Int))))), (.own 0), (.d (.lit (.int .i64 ((l.length : Nat) : Int)))), (.d (.lit (.int .i64 (((l.length : Nat) : Int) - 1)))), .top, .top, .top, .top, .top, .top, .top, .top, .top, .top, .top, .top, .top, .top, .top], [(.arr 5 1 l.length (bytesD (layn l l.length k u)))], 1⟩ : St))
    (fun (x : Nat) => match x with | k => k ≤ wd)
    (fun (x : Nat) => match x with | k => wd - k)
    0
    (Weak.to' (st' := _) [0] rfl (by kernel_rfl) rfl ⟨Nat.le_of_ble_eq_true rfl, rfl⟩ (⟨ren_arr rfl (by rw [layn_zero]), trivial⟩) (⟨.inr (by kernel_rfl), .inr (by kernel_rfl), .inr (ren_int (by simp)), .inr (by kernel_rfl), .inr (by kernel_rfl), .inr (by kernel_rfl), .inr (ren_int (by simp)), .inr (by kernel_rfl), .inr (by kernel_rfl), .inr (by kernel_rfl), .inl rfl, .inl rfl, .inl rfl, .inl rfl, .inl rfl, .inl rfl, .inl rfl, .inl rfl, .inl rfl, .inl rfl, .inl rfl, .inl rfl, .inl rfl, .inl rfl, .inl rfl, trivial⟩))
    (Nat.zero_le _) ?_
  rintro k n_1 hI_1 ih_1
  dsimp only at hI_1 ih_1 ⊢
  refine AWP.seq ?_
  refine AWP.seq ?_
  refine AWP.text ?_
  refine Walk.yes (val := (.d (.lit (.int .i64 (((l.length : Nat) : Int) - 1 - (k : Int)))))) (bl := []) (by kernel_rfl) ((op_move rfl).cast (by kernel_rfl)) ?_
  refine Walk.yes (val := (.own 0)) (bl := []) (by kernel_rfl) ((op_move rfl).cast (by kernel_rfl)) ?_
  refine Walk.yes (val := (.d (.lit (.int .i64 ((l.length : Nat) : Int))))) (bl := []) (by kernel_rfl) (op_len rfl (e := 5) (by kernel_rfl) (y := (.own 0)) (by kernel_rfl) (ds := (bytesD (layn l l.length k u))) (off := 0) (by kernel_rfl)) ?_
  refine Walk.yes (val := (.d (.lit (.int .i64 ((wd : Nat) : Int))))) (bl := []) (by kernel_rfl) ((op_move rfl).cast (by kernel_rfl)) ?_
  refine Walk.yes (val := (.d (.lit (.int .i64 (((l.length : Nat) : Int) - ((wd : Nat) : Int)))))) (bl := []) (by kernel_rfl) (((op_bin rfl (a1 := (.int .i64 ((l.length : Nat) : Int))) (a2 := (.int .i64 ((wd : Nat) : Int))) (by kernel_rfl) (by kernel_rfl) (fun _ => hb_sub))).cast (lit_i64 (by first | rfl | omega | (simp; done)) (by omega) (by omega))) ?_
  by_cases h1 : (((l.length : Nat) : Int) - ((wd : Nat) : Int)) ≤ (((l.length : Nat) : Int) - 1 - (k : Int))
  · refine Walk.yes (val := (.d (.lit (.bool true)))) (bl := []) (by kernel_rfl) (((op_bin rfl (a1 := (.int .i64 (((l.length : Nat) : Int) - 1 - (k : Int)))) (a2 := (.int .i64 (((l.length : Nat) : Int) - ((wd : Nat) : Int)))) (by kernel_rfl) (by kernel_rfl) (fun _ => hb_geq))).cast (lit_T (by have := (h1); omega))) ?_
    refine Walk.to_ (st' := ⟨[(.own 0), (.d (.lit (.int .i64 ((wd : Nat) : Int)))), (.d (.lit (.int .u64 ((u / 256 ^ k : Nat) : Int)))), (.tup []), (.tup []), (.tup []), (.d (.lit (.int .i64 (((l.length : Nat) : Int) - 1 - (k : Int))))), (.own 0), (.d (.lit (.int .i64 ((l.length : Nat) : Int)))), (.d (.lit (.int .i64 (((l.length : Nat) : Int) - 1)))), (.d (.lit (.int .i64 (((l.length : Nat) : Int) - 1 - (k : Int))))), (.own 0), (.d (.lit (.int .i64 ((l.length : Nat) : Int)))), (.d (.lit (.int .i64 ((wd : Nat) : Int)))), (.d (.lit (.int .i64 (((l.length : Nat) : Int) - ((wd : Nat) : Int))))), (.d (.lit (.bool true))), .top, .top, .top, .top, .top, .top, .top, .top, .top], [(.arr 5 1 l.length (bytesD (layn l l.length k u)))], 1⟩) (by kernel_rfl) ?_
    refine Walk.nil ?_
    refine Then.normal ?_
    refine AWP.if_ true (by kernel_rfl) ?_
    refine AWP.skip ?_
    refine Then.normal ?_
    refine AWP.seq ?_
    refine AWP.block ?_
    refine AWP.seq ?_
    refine AWP.text ?_
    refine Walk.yes (val := (.own 0)) (bl := []) (by kernel_rfl) ((op_move rfl).cast (by kernel_rfl)) ?_
    refine Walk.yes (val := (.d (.lit (.int .i64 (((l.length : Nat) : Int) - 1 - (k : Int)))))) (bl := []) (by kernel_rfl) ((op_move rfl).cast (by kernel_rfl)) ?_
    refine Walk.yes (val := (.d (.lit (.int .u64 ((u / 256 ^ k : Nat) : Int))))) (bl := []) (by kernel_rfl) ((op_move rfl).cast (by kernel_rfl)) ?_
    refine Walk.yes (val := (.d (.lit (.int .u8 (((UInt8.ofNat (u / 256 ^ k % 256)).toNat : Nat) : Int))))) (bl := []) (by kernel_rfl) ((op_convert rfl (a1 := (.int .u64 ((u / 256 ^ k : Nat) : Int))) (by kernel_rfl) (run_conv (ds := .int .u64) (k' := .u8) (by kernel_rfl) (by kernel_rfl))).cast (lit_u8 (by rw [byte_nat]; rfl))) ?_
    refine Walk.yes (val := (.loc 0 ((l.length - 1 - k) * 1))) (bl := []) (by kernel_rfl) ((op_iaddr rfl (y := (.own 0)) (by kernel_rfl) (ds := (bytesD (layn l l.length k u))) (off := 0) (n := l.length) (by kernel_rfl) (e := 5) (sz := 1) (by kernel_rfl) (k := .i64) (iv := (((l.length : Nat) : Int) - 1 - (k : Int))) (by kernel_rfl) (i := l.length - 1 - k) (by omega) (by omega)).cast (by kernel_rfl)) ?_
    refine Walk.yes (val := (.tup [])) (bl := [(0, (.arr 5 1 l.length (bytesD (layn l l.length (k + 1) u))))]) (by kernel_rfl) ((op_storeRow rfl (id := 0) (off := ((l.length - 1 - k) * 1)) (e := 5) (sz := 1) (n := l.length) (ds := (bytesD (layn l l.length k u))) (ys := [(.d (.lit (.int .u8 (((UInt8.ofNat (u / 256 ^ k % 256)).toNat : Nat) : Int))))]) (es := [(.lit (.int .u8 (((UInt8.ofNat (u / 256 ^ k % 256)).toNat : Nat) : Int)))]) (by kernel_rfl) (by kernel_rfl) (v := (.d (.lit (.int .u8 (((UInt8.ofNat (u / 256 ^ k % 256)).toNat : Nat) : Int))))) (by kernel_rfl) (by kernel_rfl) (by kernel_rfl) (by kernel_rfl) (byt_fit (l := layn l l.length k u) (i := l.length - 1 - k) (by rw [layn_length (by omega) (by omega)]; omega))).castB (bl_one rfl (layn_put (by omega) (by omega)))) ?_
    refine Walk.to_ (st' := ⟨[(.own 0), (.d (.lit (.int .i64 ((wd : Nat) : Int)))), (.d (.lit (.int .u64 ((u / 256 ^ k : Nat) : Int)))), (.tup []), (.tup []), (.tup []), (.d (.lit (.int .i64 (((l.length : Nat) : Int) - 1 - (k : Int))))), (.own 0), (.d (.lit (.int .i64 ((l.length : Nat) : Int)))), (.d (.lit (.int .i64 (((l.length : Nat) : Int) - 1)))), (.d (.lit (.int .i64 (((l.length : Nat) : Int) - 1 - (k : Int))))), (.own 0), (.d (.lit (.int .i64 ((l.length : Nat) : Int)))), (.d (.lit (.int .i64 ((wd : Nat) : Int)))), (.d (.lit (.int .i64 (((l.length : Nat) : Int) - ((wd : Nat) : Int))))), (.d (.lit (.bool true))), .top, .top, (.own 0), (.d (.lit (.int .i64 (((l.length : Nat) : Int) - 1 - (k : Int))))), (.d (.lit (.int .u64 ((u / 256 ^ k : Nat) : Int)))), (.d (.lit (.int .u8 (((UInt8.ofNat (u / 256 ^ k % 256)).toNat : Nat) : Int)))), (.loc 0 ((l.length - 1 - k) * 1)), .top, .top], [(.arr 5 1 l.length (bytesD (layn l l.length (k + 1) u)))], 1⟩) (by kernel_rfl) ?_
    refine Walk.nil ?_
    refine Then.normal ?_
    refine AWP.text ?_
    refine Walk.yes (val := (.d (.lit (.int .u64 ((u / 256 ^ k : Nat) : Int))))) (bl := []) (by kernel_rfl) ((op_move rfl).cast (by kernel_rfl)) ?_
    refine Walk.yes (val := (.d (.lit (.int .u64 ((u / 256 ^ (k + 1) : Nat) : Int))))) (bl := []) (by kernel_rfl) (((op_bin rfl (a1 := (.int .u64 ((u / 256 ^ k : Nat) : Int))) (a2 := (.int .u64 8)) (by kernel_rfl) (by kernel_rfl) (fun _ => hb_shr (n := 8) (by decide) rfl))).cast (lit_shr (shr8 u k))) ?_
    refine Walk.yes (val := (.d (.lit (.int .u64 ((u / 256 ^ (k + 1) : Nat) : Int))))) (bl := []) (by kernel_rfl) ((op_move rfl).cast (by kernel_rfl)) ?_
    refine Walk.to_ (st' := ⟨[(.own 0), (.d (.lit (.int .i64 ((wd : Nat) : Int)))), (.d (.lit (.int .u64 ((u / 256 ^ (k + 1) : Nat) : Int)))), (.tup []), (.tup []), (.tup []), (.d (.lit (.int .i64 (((l.length : Nat) : Int) - 1 - (k : Int))))), (.own 0), (.d (.lit (.int .i64 ((l.length : Nat) : Int)))), (.d (.lit (.int .i64 (((l.length : Nat) : Int) - 1)))), (.d (.lit (.int .i64 (((l.length : Nat) : Int) - 1 - (k : Int))))), (.own 0), (.d (.lit (.int .i64 ((l.length : Nat) : Int)))), (.d (.lit (.int .i64 ((wd : Nat) : Int)))), (.d (.lit (.int .i64 (((l.length : Nat) : Int) - ((wd : Nat) : Int))))), (.d (.lit (.bool true))), .top, .top, (.own 0), (.d (.lit (.int .i64 (((l.length : Nat) : Int) - 1 - (k : Int))))), (.d (.lit (.int .u64 ((u / 256 ^ k : Nat) : Int)))), (.d (.lit (.int .u8 (((UInt8.ofNat (u / 256 ^ k % 256)).toNat : Nat) : Int)))), (.loc 0 ((l.length - 1 - k) * 1)), (.d (.lit (.int .u64 ((u / 256 ^ k : Nat) : Int)))), (.d (.lit (.int .u64 ((u / 256 ^ (k + 1) : Nat) : Int))))], [(.arr 5 1 l.length (bytesD (layn l l.length (k + 1) u)))], 1⟩) (by kernel_rfl) ?_
    refine Walk.nil ?_
    refine InBlock.normal ?_
    refine Then.normal ?_
    refine AWP.text ?_
    refine Walk.yes (val := (.d (.lit (.int .i64 (((l.length : Nat) : Int) - 1 - (k : Int)))))) (bl := []) (by kernel_rfl) ((op_move rfl).cast (by kernel_rfl)) ?_
    refine Walk.yes (val := (.d (.lit (.int .i64 ((((l.length : Nat) : Int) - 1 - (k : Int)) - 1))))) (bl := []) (by kernel_rfl) (((op_bin rfl (a1 := (.int .i64 (((l.length : Nat) : Int) - 1 - (k : Int)))) (a2 := (.int .i64 1)) (by kernel_rfl) (by kernel_rfl) (fun _ => hb_sub))).cast (lit_i64 (by first | rfl | omega | (simp; done)) (by omega) (by omega))) ?_
    refine Walk.yes (val := (.d (.lit (.int .i64 ((((l.length : Nat) : Int) - 1 - (k : Int)) - 1))))) (bl := []) (by kernel_rfl) ((op_move rfl).cast (by kernel_rfl)) ?_
    refine Walk.to_ (st' := ⟨[(.own 0), (.d (.lit (.int .i64 ((wd : Nat) : Int)))), (.d (.lit (.int .u64 ((u / 256 ^ (k + 1) : Nat) : Int)))), (.tup []), (.tup []), (.tup []), (.d (.lit (.int .i64 ((((l.length : Nat) : Int) - 1 - (k : Int)) - 1)))), (.own 0), (.d (.lit (.int .i64 ((l.length : Nat) : Int)))), (.d (.lit (.int .i64 (((l.length : Nat) : Int) - 1)))), (.d (.lit (.int .i64 (((l.length : Nat) : Int) - 1 - (k : Int))))), (.own 0), (.d (.lit (.int .i64 ((l.length : Nat) : Int)))), (.d (.lit (.int .i64 ((wd : Nat) : Int)))), (.d (.lit (.int .i64 (((l.length : Nat) : Int) - ((wd : Nat) : Int))))), (.d (.lit (.bool true))), (.d (.lit (.int .i64 (((l.length : Nat) : Int) - 1 - (k : Int))))), (.d (.lit (.int .i64 ((((l.length : Nat) : Int) - 1 - (k : Int)) - 1)))), (.own 0), (.d (.lit (.int .i64 (((l.length : Nat) : Int) - 1 - (k : Int))))), (.d (.lit (.int .u64 ((u / 256 ^ k : Nat) : Int)))), (.d (.lit (.int .u8 (((UInt8.ofNat (u / 256 ^ k % 256)).toNat : Nat) : Int)))), (.loc 0 ((l.length - 1 - k) * 1)), (.d (.lit (.int .u64 ((u / 256 ^ k : Nat) : Int)))), (.d (.lit (.int .u64 ((u / 256 ^ (k + 1) : Nat) : Int))))], [(.arr 5 1 l.length (bytesD (layn l l.length (k + 1) u)))], 1⟩) (by kernel_rfl) ?_
    refine Walk.nil ?_
    refine RoundK.normal ?_
    exact Rounds.weak (Weak.to' (st' := ⟨[(.own 0), (.d (.lit (.int .i64 ((wd : Nat) : Int)))), (.d (.lit (.int .u64 ((u / 256 ^ (k + 1) : Nat) : Int)))), (.tup []), (.tup []), (.tup []), (.d (.lit (.int .i64 (((l.length : Nat) : Int) - 1 - ((k + 1) : Int))))), (.own 0), (.d (.lit (.int .i64 ((l.length : Nat) : Int)))), (.d (.lit (.int .i64 (((l.length : Nat) : Int) - 1)))), .top, .top, .top, .top, .top, .top, .top, .top, .top, .top, .top, .top, .top, .top, .top], [(.arr 5 1 l.length (bytesD (layn l l.length (k + 1) u)))], 1⟩) [0] rfl (by kernel_rfl) rfl ⟨Nat.le_of_ble_eq_true rfl, rfl⟩ (⟨by first | rfl | exact ren_arr (by simp) (by simp [flatD_append]), trivial⟩) (⟨.inr (by kernel_rfl), .inr (by kernel_rfl), .inr (by kernel_rfl), .inr (by kernel_rfl), .inr (by kernel_rfl), .inr (by kernel_rfl), .inr (by first | rfl | exact ren_int (by first | rfl | omega | (simp; done)) | exact ren_eq (by simp)), .inr (by kernel_rfl), .inr (by kernel_rfl), .inr (by kernel_rfl), .inl rfl, .inl rfl, .inl rfl, .inl rfl, .inl rfl, .inl rfl, .inl rfl, .inl rfl, .inl rfl, .inl rfl, .inl rfl, .inl rfl, .inl rfl, .inl rfl, .inl rfl, trivial⟩)) (ih_1 (k + 1) (by omega) (by first | omega | (dsimp only; omega)))
  · refine Walk.yes (val := (.d (.lit (.bool false)))) (bl := []) (by kernel_rfl) (((op_bin rfl (a1 := (.int .i64 (((l.length : Nat) : Int) - 1 - (k : Int)))) (a2 := (.int .i64 (((l.length : Nat) : Int) - ((wd : Nat) : Int)))) (by kernel_rfl) (by kernel_rfl) (fun _ => hb_geq))).cast (lit_F (by have := (h1); omega))) ?_
    refine Walk.to_ (st' := ⟨[(.own 0), (.d (.lit (.int .i64 ((wd : Nat) : Int)))), (.d (.lit (.int .u64 ((u / 256 ^ k : Nat) : Int)))), (.tup []), (.tup []), (.tup []), (.d (.lit (.int .i64 (((l.length : Nat) : Int) - 1 - (k : Int))))), (.own 0), (.d (.lit (.int .i64 ((l.length : Nat) : Int)))), (.d (.lit (.int .i64 (((l.length : Nat) : Int) - 1)))), (.d (.lit (.int .i64 (((l.length : Nat) : Int) - 1 - (k : Int))))), (.own 0), (.d (.lit (.int .i64 ((l.length : Nat) : Int)))), (.d (.lit (.int .i64 ((wd : Nat) : Int)))), (.d (.lit (.int .i64 (((l.length : Nat) : Int) - ((wd : Nat) : Int))))), (.d (.lit (.bool false))), .top, .top, .top, .top, .top, .top, .top, .top, .top], [(.arr 5 1 l.length (bytesD (layn l l.length k u)))], 1⟩) (by kernel_rfl) ?_
    refine Walk.nil ?_
    refine Then.normal ?_
    refine AWP.if_ false (by kernel_rfl) ?_
    refine AWP.exit ?_
    refine Then.exit ?_
    refine RoundK.exit ?_
    refine InBlock.same ?_
    exact ret_introN [0] [] (by kernel_rfl) (by kernel_rfl) (by have hk : k = wd := (by omega); subst hk; exact ⟨rfl, trivial⟩) (by kernel_rfl) ⟨Nat.le_of_ble_eq_true rfl, rfl⟩
set_option maxRecDepth 20000 in
set_option maxHeartbeats 4000000 in
theorem lay_sub (l : List UInt8) (n : Nat) (wd u : Nat) (hwd : wd ≤ n) (hn : n ≤ l.length) (hl : l.length ≤ 1000000000) (hu : u < 18446744073709551616) : GCall Try.prog 29 [(.sub 0 0 n), (.d (.lit (.int .i64 ((wd : Nat) : Int)))), (.d (.lit (.int .u64 ((u : Nat) : Int))))] [(.arr 5 1 l.length (bytesD l))] (.tup []) [(.arr 5 1 l.length (bytesD (layn l n wd u)))] := by
  refine GCall.of_body (n := 25) (rs := []) Try.func29 rfl rfl rfl ?_
  refine AWP.to_ (st' := ⟨[(.sub 0 0 n), (.d (.lit (.int .i64 ((wd : Nat) : Int)))), (.d (.lit (.int .u64 ((u : Nat) : Int)))), (.tup []), (.tup []), (.tup []), (.tup []), (.tup []), (.tup []), (.tup []), (.tup []), (.tup []), (.tup []), (.tup []), (.tup []), (.tup []), (.tup []), (.tup []), (.tup []), (.tup []), (.tup []), (.tup []), (.tup []), (.tup []), (.tup [])], [(.arr 5 1 l.length (bytesD l))], 1⟩) (by kernel_rfl) ?_
  refine AWP.seq ?_
  refine AWP.text ?_
  refine Walk.yes (val := (.sub 0 0 n)) (bl := []) (by kernel_rfl) ((op_move rfl).cast (by kernel_rfl)) ?_
  refine Walk.yes (val := (.d (.lit (.int .i64 ((n : Nat) : Int))))) (bl := []) (by kernel_rfl) (op_len rfl (e := 5) (by kernel_rfl) (y := (.sub 0 0 n)) (by kernel_rfl) (ds := (bytesD l)) (off := 0) (by kernel_rfl)) ?_
  refine Walk.yes (val := (.d (.lit (.int .i64 (((n : Nat) : Int) - 1))))) (bl := []) (by kernel_rfl) (((op_bin rfl (a1 := (.int .i64 ((n : Nat) : Int))) (a2 := (.int .i64 1)) (by kernel_rfl) (by kernel_rfl) (fun _ => hb_sub))).cast (lit_i64 (by first | rfl | omega | (simp; done)) (by omega) (by omega))) ?_
  refine Walk.yes (val := (.d (.lit (.int .i64 (((n : Nat) : Int) - 1))))) (bl := []) (by kernel_rfl) ((op_move rfl).cast (by kernel_rfl)) ?_
  refine Walk.to_ (st' := ⟨[(.sub 0 0 n), (.d (.lit (.int .i64 ((wd : Nat) : Int)))), (.d (.lit (.int .u64 ((u : Nat) : Int)))), (.tup []), (.tup []), (.tup []), (.d (.lit (.int .i64 (((n : Nat) : Int) - 1)))), (.sub 0 0 n), (.d (.lit (.int .i64 ((n : Nat) : Int)))), (.d (.lit (.int .i64 (((n : Nat) : Int) - 1)))), (.tup []), (.tup []), (.tup []), (.tup []), (.tup []), (.tup []), (.tup []), (.tup []), (.tup []), (.tup []), (.tup []), (.tup []), (.tup []), (.tup []), (.tup [])], [(.arr 5 1 l.length (bytesD l))], 1⟩) (by kernel_rfl) ?_
  refine Walk.nil ?_
  refine Then.normal ?_
  refine AWP.block ?_
  refine AWP.loopI (α := Nat)
    (fun (x : Nat) => match x with | k => (⟨[(.sub 0 0 n), (.d (.lit (.int .i64 ((wd : Nat) : Int)))), (.d (.lit (.int .u64 ((u / 256 ^ k : Nat) : Int)))), (.tup []), (.tup []), (.tup []), (.d (.lit (.int .i64 (((n : Nat) : Int) - 1 - (k : Int))))), (.sub 0 0 n), (.d (.lit (.int .i64 ((n : Nat) : Int)))), (.d (.lit (.int .i64 (((n : Nat) : Int) - 1)))), .top, .top, .top, .top, .top, .top, .top, .top, .top, .top, .top, .top, .top, .top, .top], [(.arr 5 1 l.length (bytesD (layn l n k u)))], 1⟩ : St))
    (fun (x : Nat) => match x with | k => k ≤ wd)
    (fun (x : Nat) => match x with | k => wd - k)
    0
    (Weak.to' (st' := _) [0] rfl (by kernel_rfl) rfl ⟨Nat.le_of_ble_eq_true rfl, rfl⟩ (⟨ren_arr rfl (by rw [layn_zero]), trivial⟩) (⟨.inr (by kernel_rfl), .inr (by kernel_rfl), .inr (ren_int (by simp)), .inr (by kernel_rfl), .inr (by kernel_rfl), .inr (by kernel_rfl), .inr (ren_int (by simp)), .inr (by kernel_rfl), .inr (by kernel_rfl), .inr (by kernel_rfl), .inl rfl, .inl rfl, .inl rfl, .inl rfl, .inl rfl, .inl rfl, .inl rfl, .inl rfl, .inl rfl, .inl rfl, .inl rfl, .inl rfl, .inl rfl, .inl rfl, .inl rfl, trivial⟩))
    (Nat.zero_le _) ?_
  rintro k n_1 hI_1 ih_1
  dsimp only at hI_1 ih_1 ⊢
  refine AWP.seq ?_
  refine AWP.seq ?_
  refine AWP.text ?_
  refine Walk.yes (val := (.d (.lit (.int .i64 (((n : Nat) : Int) - 1 - (k : Int)))))) (bl := []) (by kernel_rfl) ((op_move rfl).cast (by kernel_rfl)) ?_
  refine Walk.yes (val := (.sub 0 0 n)) (bl := []) (by kernel_rfl) ((op_move rfl).cast (by kernel_rfl)) ?_
  refine Walk.yes (val := (.d (.lit (.int .i64 ((n : Nat) : Int))))) (bl := []) (by kernel_rfl) (op_len rfl (e := 5) (by kernel_rfl) (y := (.sub 0 0 n)) (by kernel_rfl) (ds := (bytesD (layn l n k u))) (off := 0) (by kernel_rfl)) ?_
  refine Walk.yes (val := (.d (.lit (.int .i64 ((wd : Nat) : Int))))) (bl := []) (by kernel_rfl) ((op_move rfl).cast (by kernel_rfl)) ?_
  refine Walk.yes (val := (.d (.lit (.int .i64 (((n : Nat) : Int) - ((wd : Nat) : Int)))))) (bl := []) (by kernel_rfl) (((op_bin rfl (a1 := (.int .i64 ((n : Nat) : Int))) (a2 := (.int .i64 ((wd : Nat) : Int))) (by kernel_rfl) (by kernel_rfl) (fun _ => hb_sub))).cast (lit_i64 (by first | rfl | omega | (simp; done)) (by omega) (by omega))) ?_
  by_cases h1 : (((n : Nat) : Int) - ((wd : Nat) : Int)) ≤ (((n : Nat) : Int) - 1 - (k : Int))
  · refine Walk.yes (val := (.d (.lit (.bool true)))) (bl := []) (by kernel_rfl) (((op_bin rfl (a1 := (.int .i64 (((n : Nat) : Int) - 1 - (k : Int)))) (a2 := (.int .i64 (((n : Nat) : Int) - ((wd : Nat) : Int)))) (by kernel_rfl) (by kernel_rfl) (fun _ => hb_geq))).cast (lit_T (by have := (h1); omega))) ?_
    refine Walk.to_ (st' := ⟨[(.sub 0 0 n), (.d (.lit (.int .i64 ((wd : Nat) : Int)))), (.d (.lit (.int .u64 ((u / 256 ^ k : Nat) : Int)))), (.tup []), (.tup []), (.tup []), (.d (.lit (.int .i64 (((n : Nat) : Int) - 1 - (k : Int))))), (.sub 0 0 n), (.d (.lit (.int .i64 ((n : Nat) : Int)))), (.d (.lit (.int .i64 (((n : Nat) : Int) - 1)))), (.d (.lit (.int .i64 (((n : Nat) : Int) - 1 - (k : Int))))), (.sub 0 0 n), (.d (.lit (.int .i64 ((n : Nat) : Int)))), (.d (.lit (.int .i64 ((wd : Nat) : Int)))), (.d (.lit (.int .i64 (((n : Nat) : Int) - ((wd : Nat) : Int))))), (.d (.lit (.bool true))), .top, .top, .top, .top, .top, .top, .top, .top, .top], [(.arr 5 1 l.length (bytesD (layn l n k u)))], 1⟩) (by kernel_rfl) ?_
    refine Walk.nil ?_
    refine Then.normal ?_
    refine AWP.if_ true (by kernel_rfl) ?_
    refine AWP.skip ?_
    refine Then.normal ?_
    refine AWP.seq ?_
    refine AWP.block ?_
    refine AWP.seq ?_
    refine AWP.text ?_
    refine Walk.yes (val := (.sub 0 0 n)) (bl := []) (by kernel_rfl) ((op_move rfl).cast (by kernel_rfl)) ?_
    refine Walk.yes (val := (.d (.lit (.int .i64 (((n : Nat) : Int) - 1 - (k : Int)))))) (bl := []) (by kernel_rfl) ((op_move rfl).cast (by kernel_rfl)) ?_
    refine Walk.yes (val := (.d (.lit (.int .u64 ((u / 256 ^ k : Nat) : Int))))) (bl := []) (by kernel_rfl) ((op_move rfl).cast (by kernel_rfl)) ?_
    refine Walk.yes (val := (.d (.lit (.int .u8 (((UInt8.ofNat (u / 256 ^ k % 256)).toNat : Nat) : Int))))) (bl := []) (by kernel_rfl) ((op_convert rfl (a1 := (.int .u64 ((u / 256 ^ k : Nat) : Int))) (by kernel_rfl) (run_conv (ds := .int .u64) (k' := .u8) (by kernel_rfl) (by kernel_rfl))).cast (lit_u8 (by rw [byte_nat]; rfl))) ?_
    refine Walk.yes (val := (.loc 0 ((n - 1 - k) * 1))) (bl := []) (by kernel_rfl) ((op_iaddr rfl (y := (.sub 0 0 n)) (by kernel_rfl) (ds := (bytesD (layn l n k u))) (off := 0) (n := n) (by kernel_rfl) (e := 5) (sz := 1) (by kernel_rfl) (k := .i64) (iv := (((n : Nat) : Int) - 1 - (k : Int))) (by kernel_rfl) (i := n - 1 - k) (by omega) (by omega)).cast (by simp only [elemA, Nat.zero_add])) ?_
    refine Walk.yes (val := (.tup [])) (bl := [(0, (.arr 5 1 l.length (bytesD (layn l n (k + 1) u))))]) (by kernel_rfl) ((op_storeRow rfl (id := 0) (off := ((n - 1 - k) * 1)) (e := 5) (sz := 1) (n := l.length) (ds := (bytesD (layn l n k u))) (ys := [(.d (.lit (.int .u8 (((UInt8.ofNat (u / 256 ^ k % 256)).toNat : Nat) : Int))))]) (es := [(.lit (.int .u8 (((UInt8.ofNat (u / 256 ^ k % 256)).toNat : Nat) : Int)))]) (by kernel_rfl) (by kernel_rfl) (v := (.d (.lit (.int .u8 (((UInt8.ofNat (u / 256 ^ k % 256)).toNat : Nat) : Int))))) (by kernel_rfl) (by kernel_rfl) (by kernel_rfl) (by kernel_rfl) (byt_fit (l := layn l n k u) (i := n - 1 - k) (by rw [layn_length (by omega) (by omega)]; omega))).castB (bl_one rfl (layn_put (by omega) (by omega)))) ?_
    refine Walk.to_ (st' := ⟨[(.sub 0 0 n), (.d (.lit (.int .i64 ((wd : Nat) : Int)))), (.d (.lit (.int .u64 ((u / 256 ^ k : Nat) : Int)))), (.tup []), (.tup []), (.tup []), (.d (.lit (.int .i64 (((n : Nat) : Int) - 1 - (k : Int))))), (.sub 0 0 n), (.d (.lit (.int .i64 ((n : Nat) : Int)))), (.d (.lit (.int .i64 (((n : Nat) : Int) - 1)))), (.d (.lit (.int .i64 (((n : Nat) : Int) - 1 - (k : Int))))), (.sub 0 0 n), (.d (.lit (.int .i64 ((n : Nat) : Int)))), (.d (.lit (.int .i64 ((wd : Nat) : Int)))), (.d (.lit (.int .i64 (((n : Nat) : Int) - ((wd : Nat) : Int))))), (.d (.lit (.bool true))), .top, .top, (.sub 0 0 n), (.d (.lit (.int .i64 (((n : Nat) : Int) - 1 - (k : Int))))), (.d (.lit (.int .u64 ((u / 256 ^ k : Nat) : Int)))), (.d (.lit (.int .u8 (((UInt8.ofNat (u / 256 ^ k % 256)).toNat : Nat) : Int)))), (.loc 0 ((n - 1 - k) * 1)), .top, .top], [(.arr 5 1 l.length (bytesD (layn l n (k + 1) u)))], 1⟩) (by kernel_rfl) ?_
    refine Walk.nil ?_
    refine Then.normal ?_
    refine AWP.text ?_
    refine Walk.yes (val := (.d (.lit (.int .u64 ((u / 256 ^ k : Nat) : Int))))) (bl := []) (by kernel_rfl) ((op_move rfl).cast (by kernel_rfl)) ?_
    refine Walk.yes (val := (.d (.lit (.int .u64 ((u / 256 ^ (k + 1) : Nat) : Int))))) (bl := []) (by kernel_rfl) (((op_bin rfl (a1 := (.int .u64 ((u / 256 ^ k : Nat) : Int))) (a2 := (.int .u64 8)) (by kernel_rfl) (by kernel_rfl) (fun _ => hb_shr (n := 8) (by decide) rfl))).cast (lit_shr (shr8 u k))) ?_
    refine Walk.yes (val := (.d (.lit (.int .u64 ((u / 256 ^ (k + 1) : Nat) : Int))))) (bl := []) (by kernel_rfl) ((op_move rfl).cast (by kernel_rfl)) ?_
    refine Walk.to_ (st' := ⟨[(.sub 0 0 n), (.d (.lit (.int .i64 ((wd : Nat) : Int)))), (.d (.lit (.int .u64 ((u / 256 ^ (k + 1) : Nat) : Int)))), (.tup []), (.tup []), (.tup []), (.d (.lit (.int .i64 (((n : Nat) : Int) - 1 - (k : Int))))), (.sub 0 0 n), (.d (.lit (.int .i64 ((n : Nat) : Int)))), (.d (.lit (.int .i64 (((n : Nat) : Int) - 1)))), (.d (.lit (.int .i64 (((n : Nat) : Int) - 1 - (k : Int))))), (.sub 0 0 n), (.d (.lit (.int .i64 ((n : Nat) : Int)))), (.d (.lit (.int .i64 ((wd : Nat) : Int)))), (.d (.lit (.int .i64 (((n : Nat) : Int) - ((wd : Nat) : Int))))), (.d (.lit (.bool true))), .top, .top, (.sub 0 0 n), (.d (.lit (.int .i64 (((n : Nat) : Int) - 1 - (k : Int))))), (.d (.lit (.int .u64 ((u / 256 ^ k : Nat) : Int)))), (.d (.lit (.int .u8 (((UInt8.ofNat (u / 256 ^ k % 256)).toNat : Nat) : Int)))), (.loc 0 ((n - 1 - k) * 1)), (.d (.lit (.int .u64 ((u / 256 ^ k : Nat) : Int)))), (.d (.lit (.int .u64 ((u / 256 ^ (k + 1) : Nat) : Int))))], [(.arr 5 1 l.length (bytesD (layn l n (k + 1) u)))], 1⟩) (by kernel_rfl) ?_
    refine Walk.nil ?_
    refine InBlock.normal ?_
    refine Then.normal ?_
    refine AWP.text ?_
    refine Walk.yes (val := (.d (.lit (.int .i64 (((n : Nat) : Int) - 1 - (k : Int)))))) (bl := []) (by kernel_rfl) ((op_move rfl).cast (by kernel_rfl)) ?_
    refine Walk.yes (val := (.d (.lit (.int .i64 ((((n : Nat) : Int) - 1 - (k : Int)) - 1))))) (bl := []) (by kernel_rfl) (((op_bin rfl (a1 := (.int .i64 (((n : Nat) : Int) - 1 - (k : Int)))) (a2 := (.int .i64 1)) (by kernel_rfl) (by kernel_rfl) (fun _ => hb_sub))).cast (lit_i64 (by first | rfl | omega | (simp; done)) (by omega) (by omega))) ?_
    refine Walk.yes (val := (.d (.lit (.int .i64 ((((n : Nat) : Int) - 1 - (k : Int)) - 1))))) (bl := []) (by kernel_rfl) ((op_move rfl).cast (by kernel_rfl)) ?_
    refine Walk.to_ (st' := ⟨[(.sub 0 0 n), (.d (.lit (.int .i64 ((wd : Nat) : Int)))), (.d (.lit (.int .u64 ((u / 256 ^ (k + 1) : Nat) : Int)))), (.tup []), (.tup []), (.tup []), (.d (.lit (.int .i64 ((((n : Nat) : Int) - 1 - (k : Int)) - 1)))), (.sub 0 0 n), (.d (.lit (.int .i64 ((n : Nat) : Int)))), (.d (.lit (.int .i64 (((n : Nat) : Int) - 1)))), (.d (.lit (.int .i64 (((n : Nat) : Int) - 1 - (k : Int))))), (.sub 0 0 n), (.d (.lit (.int .i64 ((n : Nat) : Int)))), (.d (.lit (.int .i64 ((wd : Nat) : Int)))), (.d (.lit (.int .i64 (((n : Nat) : Int) - ((wd : Nat) : Int))))), (.d (.lit (.bool true))), (.d (.lit (.int .i64 (((n : Nat) : Int) - 1 - (k : Int))))), (.d (.lit (.int .i64 ((((n : Nat) : Int) - 1 - (k : Int)) - 1)))), (.sub 0 0 n), (.d (.lit (.int .i64 (((n : Nat) : Int) - 1 - (k : Int))))), (.d (.lit (.int .u64 ((u / 256 ^ k : Nat) : Int)))), (.d (.lit (.int .u8 (((UInt8.ofNat (u / 256 ^ k % 256)).toNat : Nat) : Int)))), (.loc 0 ((n - 1 - k) * 1)), (.d (.lit (.int .u64 ((u / 256 ^ k : Nat) : Int)))), (.d (.lit (.int .u64 ((u / 256 ^ (k + 1) : Nat) : Int))))], [(.arr 5 1 l.length (bytesD (layn l n (k + 1) u)))], 1⟩) (by kernel_rfl) ?_
    refine Walk.nil ?_
    refine RoundK.normal ?_
    exact Rounds.weak (Weak.to' (st' := ⟨[(.sub 0 0 n), (.d (.lit (.int .i64 ((wd : Nat) : Int)))), (.d (.lit (.int .u64 ((u / 256 ^ (k + 1) : Nat) : Int)))), (.tup []), (.tup []), (.tup []), (.d (.lit (.int .i64 (((n : Nat) : Int) - 1 - ((k + 1) : Int))))), (.sub 0 0 n), (.d (.lit (.int .i64 ((n : Nat) : Int)))), (.d (.lit (.int .i64 (((n : Nat) : Int) - 1)))), .top, .top, .top, .top, .top, .top, .top, .top, .top, .top, .top, .top, .top, .top, .top], [(.arr 5 1 l.length (bytesD (layn l n (k + 1) u)))], 1⟩) [0] rfl (by kernel_rfl) rfl ⟨Nat.le_of_ble_eq_true rfl, rfl⟩ (⟨by first | rfl | exact ren_arr (by simp) (by simp [flatD_append]), trivial⟩) (⟨.inr (by kernel_rfl), .inr (by kernel_rfl), .inr (by kernel_rfl), .inr (by kernel_rfl), .inr (by kernel_rfl), .inr (by kernel_rfl), .inr (by first | rfl | exact ren_int (by first | rfl | omega | (simp; done)) | exact ren_eq (by simp)), .inr (by kernel_rfl), .inr (by kernel_rfl), .inr (by kernel_rfl), .inl rfl, .inl rfl, .inl rfl, .inl rfl, .inl rfl, .inl rfl, .inl rfl, .inl rfl, .inl rfl, .inl rfl, .inl rfl, .inl rfl, .inl rfl, .inl rfl, .inl rfl, trivial⟩)) (ih_1 (k + 1) (by omega) (by first | omega | (dsimp only; omega)))
  · refine Walk.yes (val := (.d (.lit (.bool false)))) (bl := []) (by kernel_rfl) (((op_bin rfl (a1 := (.int .i64 (((n : Nat) : Int) - 1 - (k : Int)))) (a2 := (.int .i64 (((n : Nat) : Int) - ((wd : Nat) : Int)))) (by kernel_rfl) (by kernel_rfl) (fun _ => hb_geq))).cast (lit_F (by have := (h1); omega))) ?_
    refine Walk.to_ (st' := ⟨[(.sub 0 0 n), (.d (.lit (.int .i64 ((wd : Nat) : Int)))), (.d (.lit (.int .u64 ((u / 256 ^ k : Nat) : Int)))), (.tup []), (.tup []), (.tup []), (.d (.lit (.int .i64 (((n : Nat) : Int) - 1 - (k : Int))))), (.sub 0 0 n), (.d (.lit (.int .i64 ((n : Nat) : Int)))), (.d (.lit (.int .i64 (((n : Nat) : Int) - 1)))), (.d (.lit (.int .i64 (((n : Nat) : Int) - 1 - (k : Int))))), (.sub 0 0 n), (.d (.lit (.int .i64 ((n : Nat) : Int)))), (.d (.lit (.int .i64 ((wd : Nat) : Int)))), (.d (.lit (.int .i64 (((n : Nat) : Int) - ((wd : Nat) : Int))))), (.d (.lit (.bool false))), .top, .top, .top, .top, .top, .top, .top, .top, .top], [(.arr 5 1 l.length (bytesD (layn l n k u)))], 1⟩) (by kernel_rfl) ?_
    refine Walk.nil ?_
    refine Then.normal ?_
    refine AWP.if_ false (by kernel_rfl) ?_
    refine AWP.exit ?_
    refine Then.exit ?_
    refine RoundK.exit ?_
    refine InBlock.same ?_
    exact ret_introN [0] [] (by kernel_rfl) (by kernel_rfl) (by have hk : k = wd := (by omega); subst hk; exact ⟨rfl, trivial⟩) (by kernel_rfl) ⟨Nat.le_of_ble_eq_true rfl, rfl⟩
end Go.Proofs.Ytfklpnaklhcobaa.K
