/- octet: Num, Word -/
import Derived.Test.YtfklpnaklhcobaaOA
namespace Go.Proofs.Ytfklpnaklhcobaa.K
open Go.RowKit Go.Lib
set_option linter.unusedVariables false

theorem layn_grown (l : List UInt8) (k u : Nat) : layn (l ++ List.replicate k 0) (l ++ List.replicate k 0).length k u = l ++ beb k u := by
  unfold layn
  rw [List.drop_of_length_le (Nat.le_refl _), List.append_nil, List.length_append, List.length_replicate, Nat.add_sub_cancel, List.take_left' rfl]
set_option maxRecDepth 20000 in
set_option maxHeartbeats 4000000 in
theorem num_arg (l : List UInt8) (wd n : Int) (h : wd < 1 ∨ 6 < wd) : GCall Try.prog 8 [(.d (.sl l.length (bytesD l))), (.d (.lit (.int .i64 wd))), (.d (.lit (.int .i64 n)))] [] (.tup [(.d (.sl 0 [])), (.d (.lit (.int .i64 2)))]) [] := by
  refine GCall.of_body (n := 34) (rs := [(.tmp 6), (.tmp 7)]) Try.func8 rfl rfl rfl ?_
  refine AWP.to_ (st' := ⟨[(.d (.sl l.length (bytesD l))), (.d (.lit (.int .i64 wd))), (.d (.lit (.int .i64 n))), (.tup []), (.tup []), (.tup []), (.tup []), (.tup []), (.tup []), (.tup []), (.tup []), (.tup []), (.tup []), (.tup []), (.tup []), (.tup []), (.tup []), (.tup []), (.tup []), (.tup []), (.tup []), (.tup []), (.tup []), (.tup []), (.tup []), (.tup []), (.tup []), (.tup []), (.tup []), (.tup []), (.tup []), (.tup []), (.tup []), (.tup [])], [], 0⟩) (by kernel_rfl) ?_
  refine AWP.seq ?_
  refine AWP.text ?_
  refine Walk.yes (val := (.d .nil)) (bl := []) (by kernel_rfl) ((op_move rfl).cast (by kernel_rfl)) ?_
  refine Walk.yes (val := (.d (.lit (.int .i64 0)))) (bl := []) (by kernel_rfl) ((op_move rfl).cast (by kernel_rfl)) ?_
  refine Walk.to_ (st' := ⟨[(.d (.sl l.length (bytesD l))), (.d (.lit (.int .i64 wd))), (.d (.lit (.int .i64 n))), (.tup []), (.tup []), (.tup []), (.d .nil), (.d (.lit (.int .i64 0))), (.tup []), (.tup []), (.tup []), (.tup []), (.tup []), (.tup []), (.tup []), (.tup []), (.tup []), (.tup []), (.tup []), (.tup []), (.tup []), (.tup []), (.tup []), (.tup []), (.tup []), (.tup []), (.tup []), (.tup []), (.tup []), (.tup []), (.tup []), (.tup []), (.tup []), (.tup [])], [], 0⟩) (by kernel_rfl) ?_
  refine Walk.nil ?_
  refine Then.normal ?_
  refine AWP.seq ?_
  refine AWP.seq ?_
  refine AWP.text ?_
  refine Walk.yes (val := (.d (.lit (.int .i64 wd)))) (bl := []) (by kernel_rfl) ((op_move rfl).cast (by kernel_rfl)) ?_
  by_cases h1 : wd < 1
  · refine Walk.yes (val := (.d (.lit (.bool true)))) (bl := []) (by kernel_rfl) (((op_bin rfl (a1 := (.int .i64 wd)) (a2 := (.int .i64 1)) (by kernel_rfl) (by kernel_rfl) (fun _ => hb_lss))).cast (lit_T (by have := (h1); omega))) ?_
    refine Walk.yes (val := (.d (.lit (.bool true)))) (bl := []) (by kernel_rfl) ((op_move rfl).cast (by kernel_rfl)) ?_
    refine Walk.no (by kernel_rfl) ?_
    refine Walk.no (by kernel_rfl) ?_
    refine Walk.yes (val := (.d (.lit (.bool true)))) (bl := []) (by kernel_rfl) ((op_pickT rfl (by kernel_rfl)).cast (by kernel_rfl)) ?_
    refine Walk.to_ (st' := ⟨[(.d (.sl l.length (bytesD l))), (.d (.lit (.int .i64 wd))), (.d (.lit (.int .i64 n))), (.tup []), (.tup []), (.tup []), (.d .nil), (.d (.lit (.int .i64 0))), (.tup []), (.d (.lit (.int .i64 wd))), (.d (.lit (.bool true))), (.d (.lit (.bool true))), (.tup []), (.tup []), (.d (.lit (.bool true))), (.tup []), (.tup []), (.tup []), (.tup []), (.tup []), (.tup []), (.tup []), (.tup []), (.tup []), (.tup []), (.tup []), (.tup []), (.tup []), (.tup []), (.tup []), (.tup []), (.tup []), (.tup []), (.tup [])], [], 0⟩) (by kernel_rfl) ?_
    refine Walk.nil ?_
    refine Then.normal ?_
    refine AWP.if_ true (by kernel_rfl) ?_
    refine AWP.seq ?_
    refine AWP.text ?_
    refine Walk.yes (val := (.d .nil)) (bl := []) (by kernel_rfl) ((op_move rfl).cast (by kernel_rfl)) ?_
    refine Walk.yes (val := (.d (.lit (.int .i64 2)))) (bl := []) (by kernel_rfl) ((op_move rfl).cast (by kernel_rfl)) ?_
    refine Walk.to_ (st' := ⟨[(.d (.sl l.length (bytesD l))), (.d (.lit (.int .i64 wd))), (.d (.lit (.int .i64 n))), (.tup []), (.tup []), (.tup []), (.d .nil), (.d (.lit (.int .i64 2))), (.tup []), (.d (.lit (.int .i64 wd))), (.d (.lit (.bool true))), (.d (.lit (.bool true))), (.tup []), (.tup []), (.d (.lit (.bool true))), (.tup []), (.tup []), (.tup []), (.tup []), (.tup []), (.tup []), (.tup []), (.tup []), (.tup []), (.tup []), (.tup []), (.tup []), (.tup []), (.tup []), (.tup []), (.tup []), (.tup []), (.tup []), (.tup [])], [], 0⟩) (by kernel_rfl) ?_
    refine Walk.nil ?_
    refine Then.normal ?_
    refine AWP.ret ?_
    refine Then.ret ?_
    exact ret_intro [] [(.d .nil), (.d (.lit (.int .i64 2)))] (by kernel_rfl) (by kernel_rfl) (trivial) (by kernel_rfl) ⟨Nat.le_of_ble_eq_true rfl, rfl⟩
  · refine Walk.yes (val := (.d (.lit (.bool false)))) (bl := []) (by kernel_rfl) (((op_bin rfl (a1 := (.int .i64 wd)) (a2 := (.int .i64 1)) (by kernel_rfl) (by kernel_rfl) (fun _ => hb_lss))).cast (lit_F (by have := (h1); omega))) ?_
    refine Walk.yes (val := (.d (.lit (.bool false)))) (bl := []) (by kernel_rfl) ((op_move rfl).cast (by kernel_rfl)) ?_
    refine Walk.yes (val := (.d (.lit (.int .i64 wd)))) (bl := []) (by kernel_rfl) ((op_move rfl).cast (by kernel_rfl)) ?_
    refine Walk.yes (val := (.d (.lit (.bool true)))) (bl := []) (by kernel_rfl) (((op_bin rfl (a1 := (.int .i64 wd)) (a2 := (.int .i64 6)) (by kernel_rfl) (by kernel_rfl) (fun _ => hb_gtr))).cast (lit_T (by omega))) ?_
    refine Walk.yes (val := (.d (.lit (.bool true)))) (bl := []) (by kernel_rfl) ((op_pickF rfl (by kernel_rfl)).cast (by kernel_rfl)) ?_
    refine Walk.to_ (st' := ⟨[(.d (.sl l.length (bytesD l))), (.d (.lit (.int .i64 wd))), (.d (.lit (.int .i64 n))), (.tup []), (.tup []), (.tup []), (.d .nil), (.d (.lit (.int .i64 0))), (.tup []), (.d (.lit (.int .i64 wd))), (.d (.lit (.bool false))), (.d (.lit (.bool false))), (.d (.lit (.int .i64 wd))), (.d (.lit (.bool true))), (.d (.lit (.bool true))), (.tup []), (.tup []), (.tup []), (.tup []), (.tup []), (.tup []), (.tup []), (.tup []), (.tup []), (.tup []), (.tup []), (.tup []), (.tup []), (.tup []), (.tup []), (.tup []), (.tup []), (.tup []), (.tup [])], [], 0⟩) (by kernel_rfl) ?_
    refine Walk.nil ?_
    refine Then.normal ?_
    refine AWP.if_ true (by kernel_rfl) ?_
    refine AWP.seq ?_
    refine AWP.text ?_
    refine Walk.yes (val := (.d .nil)) (bl := []) (by kernel_rfl) ((op_move rfl).cast (by kernel_rfl)) ?_
    refine Walk.yes (val := (.d (.lit (.int .i64 2)))) (bl := []) (by kernel_rfl) ((op_move rfl).cast (by kernel_rfl)) ?_
    refine Walk.to_ (st' := ⟨[(.d (.sl l.length (bytesD l))), (.d (.lit (.int .i64 wd))), (.d (.lit (.int .i64 n))), (.tup []), (.tup []), (.tup []), (.d .nil), (.d (.lit (.int .i64 2))), (.tup []), (.d (.lit (.int .i64 wd))), (.d (.lit (.bool false))), (.d (.lit (.bool false))), (.d (.lit (.int .i64 wd))), (.d (.lit (.bool true))), (.d (.lit (.bool true))), (.tup []), (.tup []), (.tup []), (.tup []), (.tup []), (.tup []), (.tup []), (.tup []), (.tup []), (.tup []), (.tup []), (.tup []), (.tup []), (.tup []), (.tup []), (.tup []), (.tup []), (.tup []), (.tup [])], [], 0⟩) (by kernel_rfl) ?_
    refine Walk.nil ?_
    refine Then.normal ?_
    refine AWP.ret ?_
    refine Then.ret ?_
    exact ret_intro [] [(.d .nil), (.d (.lit (.int .i64 2)))] (by kernel_rfl) (by kernel_rfl) (trivial) (by kernel_rfl) ⟨Nat.le_of_ble_eq_true rfl, rfl⟩
set_option maxRecDepth 20000 in
set_option maxHeartbeats 4000000 in
theorem num_neg (l : List UInt8) (wd : Nat) (n : Int) (h1 : 1 ≤ wd) (h6 : wd ≤ 6) (hn : n < 0) : GCall Try.prog 8 [(.d (.sl l.length (bytesD l))), (.d (.lit (.int .i64 ((wd : Nat) : Int)))), (.d (.lit (.int .i64 n)))] [] (.tup [(.d (.sl 0 [])), (.d (.lit (.int .i64 8)))]) [] := by
  refine GCall.of_body (n := 34) (rs := [(.tmp 6), (.tmp 7)]) Try.func8 rfl rfl rfl ?_
  refine AWP.to_ (st' := ⟨[(.d (.sl l.length (bytesD l))), (.d (.lit (.int .i64 ((wd : Nat) : Int)))), (.d (.lit (.int .i64 n))), (.tup []), (.tup []), (.tup []), (.tup []), (.tup []), (.tup []), (.tup []), (.tup []), (.tup []), (.tup []), (.tup []), (.tup []), (.tup []), (.tup []), (.tup []), (.tup []), (.tup []), (.tup []), (.tup []), (.tup []), (.tup []), (.tup []), (.tup []), (.tup []), (.tup []), (.tup []), (.tup []), (.tup []), (.tup []), (.tup []), (.tup [])], [], 0⟩) (by kernel_rfl) ?_
  refine AWP.seq ?_
  refine AWP.text ?_
  refine Walk.yes (val := (.d .nil)) (bl := []) (by kernel_rfl) ((op_move rfl).cast (by kernel_rfl)) ?_
  refine Walk.yes (val := (.d (.lit (.int .i64 0)))) (bl := []) (by kernel_rfl) ((op_move rfl).cast (by kernel_rfl)) ?_
  refine Walk.to_ (st' := ⟨[(.d (.sl l.length (bytesD l))), (.d (.lit (.int .i64 ((wd : Nat) : Int)))), (.d (.lit (.int .i64 n))), (.tup []), (.tup []), (.tup []), (.d .nil), (.d (.lit (.int .i64 0))), (.tup []), (.tup []), (.tup []), (.tup []), (.tup []), (.tup []), (.tup []), (.tup []), (.tup []), (.tup []), (.tup []), (.tup []), (.tup []), (.tup []), (.tup []), (.tup []), (.tup []), (.tup []), (.tup []), (.tup []), (.tup []), (.tup []), (.tup []), (.tup []), (.tup []), (.tup [])], [], 0⟩) (by kernel_rfl) ?_
  refine Walk.nil ?_
  refine Then.normal ?_
  refine AWP.seq ?_
  refine AWP.seq ?_
  refine AWP.text ?_
  refine Walk.yes (val := (.d (.lit (.int .i64 ((wd : Nat) : Int))))) (bl := []) (by kernel_rfl) ((op_move rfl).cast (by kernel_rfl)) ?_
  refine Walk.yes (val := (.d (.lit (.bool false)))) (bl := []) (by kernel_rfl) (((op_bin rfl (a1 := (.int .i64 ((wd : Nat) : Int))) (a2 := (.int .i64 1)) (by kernel_rfl) (by kernel_rfl) (fun _ => hb_lss))).cast (lit_F (by omega))) ?_
  refine Walk.yes (val := (.d (.lit (.bool false)))) (bl := []) (by kernel_rfl) ((op_move rfl).cast (by kernel_rfl)) ?_
  refine Walk.yes (val := (.d (.lit (.int .i64 ((wd : Nat) : Int))))) (bl := []) (by kernel_rfl) ((op_move rfl).cast (by kernel_rfl)) ?_
  refine Walk.yes (val := (.d (.lit (.bool false)))) (bl := []) (by kernel_rfl) (((op_bin rfl (a1 := (.int .i64 ((wd : Nat) : Int))) (a2 := (.int .i64 6)) (by kernel_rfl) (by kernel_rfl) (fun _ => hb_gtr))).cast (lit_F (by omega))) ?_
  refine Walk.yes (val := (.d (.lit (.bool false)))) (bl := []) (by kernel_rfl) ((op_pickF rfl (by kernel_rfl)).cast (by kernel_rfl)) ?_
  refine Walk.to_ (st' := ⟨[(.d (.sl l.length (bytesD l))), (.d (.lit (.int .i64 ((wd : Nat) : Int)))), (.d (.lit (.int .i64 n))), (.tup []), (.tup []), (.tup []), (.d .nil), (.d (.lit (.int .i64 0))), (.tup []), (.d (.lit (.int .i64 ((wd : Nat) : Int)))), (.d (.lit (.bool false))), (.d (.lit (.bool false))), (.d (.lit (.int .i64 ((wd : Nat) : Int)))), (.d (.lit (.bool false))), (.d (.lit (.bool false))), (.tup []), (.tup []), (.tup []), (.tup []), (.tup []), (.tup []), (.tup []), (.tup []), (.tup []), (.tup []), (.tup []), (.tup []), (.tup []), (.tup []), (.tup []), (.tup []), (.tup []), (.tup []), (.tup [])], [], 0⟩) (by kernel_rfl) ?_
  refine Walk.nil ?_
  refine Then.normal ?_
  refine AWP.if_ false (by kernel_rfl) ?_
  refine AWP.skip ?_
  refine Then.normal ?_
  refine AWP.seq ?_
  refine AWP.seq ?_
  refine AWP.text ?_
  refine Walk.yes (val := (.d (.lit (.int .i64 n)))) (bl := []) (by kernel_rfl) ((op_move rfl).cast (by kernel_rfl)) ?_
  refine Walk.yes (val := (.d (.lit (.bool true)))) (bl := []) (by kernel_rfl) (((op_bin rfl (a1 := (.int .i64 n)) (a2 := (.int .i64 0)) (by kernel_rfl) (by kernel_rfl) (fun _ => hb_lss))).cast (lit_T (by omega))) ?_
  refine Walk.yes (val := (.d (.lit (.bool true)))) (bl := []) (by kernel_rfl) ((op_move rfl).cast (by kernel_rfl)) ?_
  refine Walk.no (by kernel_rfl) ?_
  refine Walk.no (by kernel_rfl) ?_
  refine Walk.no (by kernel_rfl) ?_
  refine Walk.no (by kernel_rfl) ?_
  refine Walk.no (by kernel_rfl) ?_
  refine Walk.no (by kernel_rfl) ?_
  refine Walk.yes (val := (.d (.lit (.bool true)))) (bl := []) (by kernel_rfl) ((op_pickT rfl (by kernel_rfl)).cast (by kernel_rfl)) ?_
  refine Walk.to_ (st' := ⟨[(.d (.sl l.length (bytesD l))), (.d (.lit (.int .i64 ((wd : Nat) : Int)))), (.d (.lit (.int .i64 n))), (.tup []), (.tup []), (.tup []), (.d .nil), (.d (.lit (.int .i64 0))), (.tup []), (.d (.lit (.int .i64 ((wd : Nat) : Int)))), (.d (.lit (.bool false))), (.d (.lit (.bool false))), (.d (.lit (.int .i64 ((wd : Nat) : Int)))), (.d (.lit (.bool false))), (.d (.lit (.bool false))), (.d (.lit (.int .i64 n))), (.d (.lit (.bool true))), (.d (.lit (.bool true))), (.tup []), (.tup []), (.tup []), (.tup []), (.tup []), (.tup []), (.d (.lit (.bool true))), (.tup []), (.tup []), (.tup []), (.tup []), (.tup []), (.tup []), (.tup []), (.tup []), (.tup [])], [], 0⟩) (by kernel_rfl) ?_
  refine Walk.nil ?_
  refine Then.normal ?_
  refine AWP.if_ true (by kernel_rfl) ?_
  refine AWP.seq ?_
  refine AWP.text ?_
  refine Walk.yes (val := (.d .nil)) (bl := []) (by kernel_rfl) ((op_move rfl).cast (by kernel_rfl)) ?_
  refine Walk.yes (val := (.d (.lit (.int .i64 8)))) (bl := []) (by kernel_rfl) ((op_move rfl).cast (by kernel_rfl)) ?_
  refine Walk.to_ (st' := ⟨[(.d (.sl l.length (bytesD l))), (.d (.lit (.int .i64 ((wd : Nat) : Int)))), (.d (.lit (.int .i64 n))), (.tup []), (.tup []), (.tup []), (.d .nil), (.d (.lit (.int .i64 8))), (.tup []), (.d (.lit (.int .i64 ((wd : Nat) : Int)))), (.d (.lit (.bool false))), (.d (.lit (.bool false))), (.d (.lit (.int .i64 ((wd : Nat) : Int)))), (.d (.lit (.bool false))), (.d (.lit (.bool false))), (.d (.lit (.int .i64 n))), (.d (.lit (.bool true))), (.d (.lit (.bool true))), (.tup []), (.tup []), (.tup []), (.tup []), (.tup []), (.tup []), (.d (.lit (.bool true))), (.tup []), (.tup []), (.tup []), (.tup []), (.tup []), (.tup []), (.tup []), (.tup []), (.tup [])], [], 0⟩) (by kernel_rfl) ?_
  refine Walk.nil ?_
  refine Then.normal ?_
  refine AWP.ret ?_
  refine Then.ret ?_
  exact ret_intro [] [(.d .nil), (.d (.lit (.int .i64 8)))] (by kernel_rfl) (by kernel_rfl) (trivial) (by kernel_rfl) ⟨Nat.le_of_ble_eq_true rfl, rfl⟩
set_option maxRecDepth 20000 in
set_option maxHeartbeats 4000000 in
theorem num_big (l : List UInt8) (wd n : Nat) (h1 : 1 ≤ wd) (h6 : wd ≤ 6) (hn : n < 9223372036854775808) (hb : n / 256 ^ wd ≠ 0) : GCall Try.prog 8 [(.d (.sl l.length (bytesD l))), (.d (.lit (.int .i64 ((wd : Nat) : Int)))), (.d (.lit (.int .i64 ((n : Nat) : Int))))] [] (.tup [(.d (.sl 0 [])), (.d (.lit (.int .i64 8)))]) [] := by
  refine GCall.of_body (n := 34) (rs := [(.tmp 6), (.tmp 7)]) Try.func8 rfl rfl rfl ?_
  refine AWP.to_ (st' := ⟨[(.d (.sl l.length (bytesD l))), (.d (.lit (.int .i64 ((wd : Nat) : Int)))), (.d (.lit (.int .i64 ((n : Nat) : Int)))), (.tup []), (.tup []), (.tup []), (.tup []), (.tup []), (.tup []), (.tup []), (.tup []), (.tup []), (.tup []), (.tup []), (.tup []), (.tup []), (.tup []), (.tup []), (.tup []), (.tup []), (.tup []), (.tup []), (.tup []), (.tup []), (.tup []), (.tup []), (.tup []), (.tup []), (.tup []), (.tup []), (.tup []), (.tup []), (.tup []), (.tup [])], [], 0⟩) (by kernel_rfl) ?_
  refine AWP.seq ?_
  refine AWP.text ?_
  refine Walk.yes (val := (.d .nil)) (bl := []) (by kernel_rfl) ((op_move rfl).cast (by kernel_rfl)) ?_
  refine Walk.yes (val := (.d (.lit (.int .i64 0)))) (bl := []) (by kernel_rfl) ((op_move rfl).cast (by kernel_rfl)) ?_
  refine Walk.to_ (st' := ⟨[(.d (.sl l.length (bytesD l))), (.d (.lit (.int .i64 ((wd : Nat) : Int)))), (.d (.lit (.int .i64 ((n : Nat) : Int)))), (.tup []), (.tup []), (.tup []), (.d .nil), (.d (.lit (.int .i64 0))), (.tup []), (.tup []), (.tup []), (.tup []), (.tup []), (.tup []), (.tup []), (.tup []), (.tup []), (.tup []), (.tup []), (.tup []), (.tup []), (.tup []), (.tup []), (.tup []), (.tup []), (.tup []), (.tup []), (.tup []), (.tup []), (.tup []), (.tup []), (.tup []), (.tup []), (.tup [])], [], 0⟩) (by kernel_rfl) ?_
  refine Walk.nil ?_
  refine Then.normal ?_
  refine AWP.seq ?_
  refine AWP.seq ?_
  refine AWP.text ?_
  refine Walk.yes (val := (.d (.lit (.int .i64 ((wd : Nat) : Int))))) (bl := []) (by kernel_rfl) ((op_move rfl).cast (by kernel_rfl)) ?_
  refine Walk.yes (val := (.d (.lit (.bool false)))) (bl := []) (by kernel_rfl) (((op_bin rfl (a1 := (.int .i64 ((wd : Nat) : Int))) (a2 := (.int .i64 1)) (by kernel_rfl) (by kernel_rfl) (fun _ => hb_lss))).cast (lit_F (by omega))) ?_
  refine Walk.yes (val := (.d (.lit (.bool false)))) (bl := []) (by kernel_rfl) ((op_move rfl).cast (by kernel_rfl)) ?_
  refine Walk.yes (val := (.d (.lit (.int .i64 ((wd : Nat) : Int))))) (bl := []) (by kernel_rfl) ((op_move rfl).cast (by kernel_rfl)) ?_
  refine Walk.yes (val := (.d (.lit (.bool false)))) (bl := []) (by kernel_rfl) (((op_bin rfl (a1 := (.int .i64 ((wd : Nat) : Int))) (a2 := (.int .i64 6)) (by kernel_rfl) (by kernel_rfl) (fun _ => hb_gtr))).cast (lit_F (by omega))) ?_
  refine Walk.yes (val := (.d (.lit (.bool false)))) (bl := []) (by kernel_rfl) ((op_pickF rfl (by kernel_rfl)).cast (by kernel_rfl)) ?_
  refine Walk.to_ (st' := ⟨[(.d (.sl l.length (bytesD l))), (.d (.lit (.int .i64 ((wd : Nat) : Int)))), (.d (.lit (.int .i64 ((n : Nat) : Int)))), (.tup []), (.tup []), (.tup []), (.d .nil), (.d (.lit (.int .i64 0))), (.tup []), (.d (.lit (.int .i64 ((wd : Nat) : Int)))), (.d (.lit (.bool false))), (.d (.lit (.bool false))), (.d (.lit (.int .i64 ((wd : Nat) : Int)))), (.d (.lit (.bool false))), (.d (.lit (.bool false))), (.tup []), (.tup []), (.tup []), (.tup []), (.tup []), (.tup []), (.tup []), (.tup []), (.tup []), (.tup []), (.tup []), (.tup []), (.tup []), (.tup []), (.tup []), (.tup []), (.tup []), (.tup []), (.tup [])], [], 0⟩) (by kernel_rfl) ?_
  refine Walk.nil ?_
  refine Then.normal ?_
  refine AWP.if_ false (by kernel_rfl) ?_
  refine AWP.skip ?_
  refine Then.normal ?_
  refine AWP.seq ?_
  refine AWP.seq ?_
  refine AWP.text ?_
  refine Walk.yes (val := (.d (.lit (.int .i64 ((n : Nat) : Int))))) (bl := []) (by kernel_rfl) ((op_move rfl).cast (by kernel_rfl)) ?_
  refine Walk.yes (val := (.d (.lit (.bool false)))) (bl := []) (by kernel_rfl) (((op_bin rfl (a1 := (.int .i64 ((n : Nat) : Int))) (a2 := (.int .i64 0)) (by kernel_rfl) (by kernel_rfl) (fun _ => hb_lss))).cast (lit_F (by omega))) ?_
  refine Walk.yes (val := (.d (.lit (.bool false)))) (bl := []) (by kernel_rfl) ((op_move rfl).cast (by kernel_rfl)) ?_
  refine Walk.yes (val := (.d (.lit (.int .i64 ((n : Nat) : Int))))) (bl := []) (by kernel_rfl) ((op_move rfl).cast (by kernel_rfl)) ?_
  refine Walk.yes (val := (.d (.lit (.int .u64 ((n : Nat) : Int))))) (bl := []) (by kernel_rfl) ((op_convert rfl (a1 := (.int .i64 ((n : Nat) : Int))) (by kernel_rfl) (run_conv (ds := .int .i64) (k' := .u64) (by kernel_rfl) (by kernel_rfl))).cast (lit_u64 rfl (by omega) (by omega))) ?_
  refine Walk.yes (val := (.d (.lit (.int .i64 ((wd : Nat) : Int))))) (bl := []) (by kernel_rfl) ((op_move rfl).cast (by kernel_rfl)) ?_
  refine Walk.yes (val := (.d (.lit (.int .i64 ((8 * wd : Nat) : Int))))) (bl := []) (by kernel_rfl) (((op_bin rfl (a1 := (.int .i64 8)) (a2 := (.int .i64 ((wd : Nat) : Int))) (by kernel_rfl) (by kernel_rfl) (fun _ => hb_mul))).cast (lit_i64 (by first | rfl | omega | (simp; done)) (by omega) (by omega))) ?_
  refine Walk.yes (val := (.d (.lit (.int .u64 ((n / 256 ^ wd : Nat) : Int))))) (bl := []) (by kernel_rfl) (((op_bin rfl (a1 := (.int .u64 ((n : Nat) : Int))) (a2 := (.int .i64 ((8 * wd : Nat) : Int))) (by kernel_rfl) (by kernel_rfl) (fun _ => hb_shr (n := 8 * wd) (by simp only [IntKind.bits]; omega) rfl))).cast (lit_shr (by rw [pow8]))) ?_
  refine Walk.yes (val := (.d (.lit (.bool true)))) (bl := []) (by kernel_rfl) (((op_bin rfl (a1 := (.int .u64 ((n / 256 ^ wd : Nat) : Int))) (a2 := (.int .u64 0)) (by kernel_rfl) (by kernel_rfl) (fun _ => hb_neq))).cast (lit_T (by omega))) ?_
  refine Walk.yes (val := (.d (.lit (.bool true)))) (bl := []) (by kernel_rfl) ((op_pickF rfl (by kernel_rfl)).cast (by kernel_rfl)) ?_
  refine Walk.to_ (st' := ⟨[(.d (.sl l.length (bytesD l))), (.d (.lit (.int .i64 ((wd : Nat) : Int)))), (.d (.lit (.int .i64 ((n : Nat) : Int)))), (.tup []), (.tup []), (.tup []), (.d .nil), (.d (.lit (.int .i64 0))), (.tup []), (.d (.lit (.int .i64 ((wd : Nat) : Int)))), (.d (.lit (.bool false))), (.d (.lit (.bool false))), (.d (.lit (.int .i64 ((wd : Nat) : Int)))), (.d (.lit (.bool false))), (.d (.lit (.bool false))), (.d (.lit (.int .i64 ((n : Nat) : Int)))), (.d (.lit (.bool false))), (.d (.lit (.bool false))), (.d (.lit (.int .i64 ((n : Nat) : Int)))), (.d (.lit (.int .u64 ((n : Nat) : Int)))), (.d (.lit (.int .i64 ((wd : Nat) : Int)))), (.d (.lit (.int .i64 ((8 * wd : Nat) : Int)))), (.d (.lit (.int .u64 ((n / 256 ^ wd : Nat) : Int)))), (.d (.lit (.bool true))), (.d (.lit (.bool true))), (.tup []), (.tup []), (.tup []), (.tup []), (.tup []), (.tup []), (.tup []), (.tup []), (.tup [])], [], 0⟩) (by kernel_rfl) ?_
  refine Walk.nil ?_
  refine Then.normal ?_
  refine AWP.if_ true (by kernel_rfl) ?_
  refine AWP.seq ?_
  refine AWP.text ?_
  refine Walk.yes (val := (.d .nil)) (bl := []) (by kernel_rfl) ((op_move rfl).cast (by kernel_rfl)) ?_
  refine Walk.yes (val := (.d (.lit (.int .i64 8)))) (bl := []) (by kernel_rfl) ((op_move rfl).cast (by kernel_rfl)) ?_
  refine Walk.to_ (st' := ⟨[(.d (.sl l.length (bytesD l))), (.d (.lit (.int .i64 ((wd : Nat) : Int)))), (.d (.lit (.int .i64 ((n : Nat) : Int)))), (.tup []), (.tup []), (.tup []), (.d .nil), (.d (.lit (.int .i64 8))), (.tup []), (.d (.lit (.int .i64 ((wd : Nat) : Int)))), (.d (.lit (.bool false))), (.d (.lit (.bool false))), (.d (.lit (.int .i64 ((wd : Nat) : Int)))), (.d (.lit (.bool false))), (.d (.lit (.bool false))), (.d (.lit (.int .i64 ((n : Nat) : Int)))), (.d (.lit (.bool false))), (.d (.lit (.bool false))), (.d (.lit (.int .i64 ((n : Nat) : Int)))), (.d (.lit (.int .u64 ((n : Nat) : Int)))), (.d (.lit (.int .i64 ((wd : Nat) : Int)))), (.d (.lit (.int .i64 ((8 * wd : Nat) : Int)))), (.d (.lit (.int .u64 ((n / 256 ^ wd : Nat) : Int)))), (.d (.lit (.bool true))), (.d (.lit (.bool true))), (.tup []), (.tup []), (.tup []), (.tup []), (.tup []), (.tup []), (.tup []), (.tup []), (.tup [])], [], 0⟩) (by kernel_rfl) ?_
  refine Walk.nil ?_
  refine Then.normal ?_
  refine AWP.ret ?_
  refine Then.ret ?_
  exact ret_intro [] [(.d .nil), (.d (.lit (.int .i64 8)))] (by kernel_rfl) (by kernel_rfl) (trivial) (by kernel_rfl) ⟨Nat.le_of_ble_eq_true rfl, rfl⟩
set_option maxRecDepth 20000 in
set_option maxHeartbeats 4000000 in
theorem num_ok (l : List UInt8) (wd n : Nat) (h1 : 1 ≤ wd) (h6 : wd ≤ 6) (hn : n < 9223372036854775808) (hb : n / 256 ^ wd = 0) (hl : l.length ≤ 900000000) : GCall Try.prog 8 [(.d (.sl l.length (bytesD l))), (.d (.lit (.int .i64 ((wd : Nat) : Int)))), (.d (.lit (.int .i64 ((n : Nat) : Int))))] [] (.tup [(.own 0), (.d (.lit (.int .i64 0)))]) [(.arr 5 1 ((l ++ beb wd n).length) (bytesD (l ++ beb wd n)))] := by
  refine GCall.of_body (n := 34) (rs := [(.tmp 6), (.tmp 7)]) Try.func8 rfl rfl rfl ?_
  refine AWP.to_ (st' := ⟨[(.d (.sl l.length (bytesD l))), (.d (.lit (.int .i64 ((wd : Nat) : Int)))), (.d (.lit (.int .i64 ((n : Nat) : Int)))), (.tup []), (.tup []), (.tup []), (.tup []), (.tup []), (.tup []), (.tup []), (.tup []), (.tup []), (.tup []), (.tup []), (.tup []), (.tup []), (.tup []), (.tup []), (.tup []), (.tup []), (.tup []), (.tup []), (.tup []), (.tup []), (.tup []), (.tup []), (.tup []), (.tup []), (.tup []), (.tup []), (.tup []), (.tup []), (.tup []), (.tup [])], [], 0⟩) (by kernel_rfl) ?_
  refine AWP.seq ?_
  refine AWP.text ?_
  refine Walk.yes (val := (.d .nil)) (bl := []) (by kernel_rfl) ((op_move rfl).cast (by kernel_rfl)) ?_
  refine Walk.yes (val := (.d (.lit (.int .i64 0)))) (bl := []) (by kernel_rfl) ((op_move rfl).cast (by kernel_rfl)) ?_
  refine Walk.to_ (st' := ⟨[(.d (.sl l.length (bytesD l))), (.d (.lit (.int .i64 ((wd : Nat) : Int)))), (.d (.lit (.int .i64 ((n : Nat) : Int)))), (.tup []), (.tup []), (.tup []), (.d .nil), (.d (.lit (.int .i64 0))), (.tup []), (.tup []), (.tup []), (.tup []), (.tup []), (.tup []), (.tup []), (.tup []), (.tup []), (.tup []), (.tup []), (.tup []), (.tup []), (.tup []), (.tup []), (.tup []), (.tup []), (.tup []), (.tup []), (.tup []), (.tup []), (.tup []), (.tup []), (.tup []), (.tup []), (.tup [])], [], 0⟩) (by kernel_rfl) ?_
  refine Walk.nil ?_
  refine Then.normal ?_
  refine AWP.seq ?_
  refine AWP.seq ?_
  refine AWP.text ?_
  refine Walk.yes (val := (.d (.lit (.int .i64 ((wd : Nat) : Int))))) (bl := []) (by kernel_rfl) ((op_move rfl).cast (by kernel_rfl)) ?_
  refine Walk.yes (val := (.d (.lit (.bool false)))) (bl := []) (by kernel_rfl) (((op_bin rfl (a1 := (.int .i64 ((wd : Nat) : Int))) (a2 := (.int .i64 1)) (by kernel_rfl) (by kernel_rfl) (fun _ => hb_lss))).cast (lit_F (by omega))) ?_
  refine Walk.yes (val := (.d (.lit (.bool false)))) (bl := []) (by kernel_rfl) ((op_move rfl).cast (by kernel_rfl)) ?_
  refine Walk.yes (val := (.d (.lit (.int .i64 ((wd : Nat) : Int))))) (bl := []) (by kernel_rfl) ((op_move rfl).cast (by kernel_rfl)) ?_
  refine Walk.yes (val := (.d (.lit (.bool false)))) (bl := []) (by kernel_rfl) (((op_bin rfl (a1 := (.int .i64 ((wd : Nat) : Int))) (a2 := (.int .i64 6)) (by kernel_rfl) (by kernel_rfl) (fun _ => hb_gtr))).cast (lit_F (by omega))) ?_
  refine Walk.yes (val := (.d (.lit (.bool false)))) (bl := []) (by kernel_rfl) ((op_pickF rfl (by kernel_rfl)).cast (by kernel_rfl)) ?_
  refine Walk.to_ (st' := ⟨[(.d (.sl l.length (bytesD l))), (.d (.lit (.int .i64 ((wd : Nat) : Int)))), (.d (.lit (.int .i64 ((n : Nat) : Int)))), (.tup []), (.tup []), (.tup []), (.d .nil), (.d (.lit (.int .i64 0))), (.tup []), (.d (.lit (.int .i64 ((wd : Nat) : Int)))), (.d (.lit (.bool false))), (.d (.lit (.bool false))), (.d (.lit (.int .i64 ((wd : Nat) : Int)))), (.d (.lit (.bool false))), (.d (.lit (.bool false))), (.tup []), (.tup []), (.tup []), (.tup []), (.tup []), (.tup []), (.tup []), (.tup []), (.tup []), (.tup []), (.tup []), (.tup []), (.tup []), (.tup []), (.tup []), (.tup []), (.tup []), (.tup []), (.tup [])], [], 0⟩) (by kernel_rfl) ?_
  refine Walk.nil ?_
  refine Then.normal ?_
  refine AWP.if_ false (by kernel_rfl) ?_
  refine AWP.skip ?_
  refine Then.normal ?_
  refine AWP.seq ?_
  refine AWP.seq ?_
  refine AWP.text ?_
  refine Walk.yes (val := (.d (.lit (.int .i64 ((n : Nat) : Int))))) (bl := []) (by kernel_rfl) ((op_move rfl).cast (by kernel_rfl)) ?_
  refine Walk.yes (val := (.d (.lit (.bool false)))) (bl := []) (by kernel_rfl) (((op_bin rfl (a1 := (.int .i64 ((n : Nat) : Int))) (a2 := (.int .i64 0)) (by kernel_rfl) (by kernel_rfl) (fun _ => hb_lss))).cast (lit_F (by omega))) ?_
  refine Walk.yes (val := (.d (.lit (.bool false)))) (bl := []) (by kernel_rfl) ((op_move rfl).cast (by kernel_rfl)) ?_
  refine Walk.yes (val := (.d (.lit (.int .i64 ((n : Nat) : Int))))) (bl := []) (by kernel_rfl) ((op_move rfl).cast (by kernel_rfl)) ?_
  refine Walk.yes (val := (.d (.lit (.int .u64 ((n : Nat) : Int))))) (bl := []) (by kernel_rfl) ((op_convert rfl (a1 := (.int .i64 ((n : Nat) : Int))) (by kernel_rfl) (run_conv (ds := .int .i64) (k' := .u64) (by kernel_rfl) (by kernel_rfl))).cast (lit_u64 rfl (by omega) (by omega))) ?_
  refine Walk.yes (val := (.d (.lit (.int .i64 ((wd : Nat) : Int))))) (bl := []) (by kernel_rfl) ((op_move rfl).cast (by kernel_rfl)) ?_
  refine Walk.yes (val := (.d (.lit (.int .i64 ((8 * wd : Nat) : Int))))) (bl := []) (by kernel_rfl) (((op_bin rfl (a1 := (.int .i64 8)) (a2 := (.int .i64 ((wd : Nat) : Int))) (by kernel_rfl) (by kernel_rfl) (fun _ => hb_mul))).cast (lit_i64 (by first | rfl | omega | (simp; done)) (by omega) (by omega))) ?_
  refine Walk.yes (val := (.d (.lit (.int .u64 ((n / 256 ^ wd : Nat) : Int))))) (bl := []) (by kernel_rfl) (((op_bin rfl (a1 := (.int .u64 ((n : Nat) : Int))) (a2 := (.int .i64 ((8 * wd : Nat) : Int))) (by kernel_rfl) (by kernel_rfl) (fun _ => hb_shr (n := 8 * wd) (by simp only [IntKind.bits]; omega) rfl))).cast (lit_shr (by rw [pow8]))) ?_
  refine Walk.yes (val := (.d (.lit (.bool false)))) (bl := []) (by kernel_rfl) (((op_bin rfl (a1 := (.int .u64 ((n / 256 ^ wd : Nat) : Int))) (a2 := (.int .u64 0)) (by kernel_rfl) (by kernel_rfl) (fun _ => hb_neq))).cast (lit_F (by omega))) ?_
  refine Walk.yes (val := (.d (.lit (.bool false)))) (bl := []) (by kernel_rfl) ((op_pickF rfl (by kernel_rfl)).cast (by kernel_rfl)) ?_
  refine Walk.to_ (st' := ⟨[(.d (.sl l.length (bytesD l))), (.d (.lit (.int .i64 ((wd : Nat) : Int)))), (.d (.lit (.int .i64 ((n : Nat) : Int)))), (.tup []), (.tup []), (.tup []), (.d .nil), (.d (.lit (.int .i64 0))), (.tup []), (.d (.lit (.int .i64 ((wd : Nat) : Int)))), (.d (.lit (.bool false))), (.d (.lit (.bool false))), (.d (.lit (.int .i64 ((wd : Nat) : Int)))), (.d (.lit (.bool false))), (.d (.lit (.bool false))), (.d (.lit (.int .i64 ((n : Nat) : Int)))), (.d (.lit (.bool false))), (.d (.lit (.bool false))), (.d (.lit (.int .i64 ((n : Nat) : Int)))), (.d (.lit (.int .u64 ((n : Nat) : Int)))), (.d (.lit (.int .i64 ((wd : Nat) : Int)))), (.d (.lit (.int .i64 ((8 * wd : Nat) : Int)))), (.d (.lit (.int .u64 ((n / 256 ^ wd : Nat) : Int)))), (.d (.lit (.bool false))), (.d (.lit (.bool false))), (.tup []), (.tup []), (.tup []), (.tup []), (.tup []), (.tup []), (.tup []), (.tup []), (.tup [])], [], 0⟩) (by kernel_rfl) ?_
  refine Walk.nil ?_
  refine Then.normal ?_
  refine AWP.if_ false (by kernel_rfl) ?_
  refine AWP.skip ?_
  refine Then.normal ?_
  refine AWP.seq ?_
  refine AWP.text ?_
  refine Walk.yes (val := (.d (.sl l.length (bytesD l)))) (bl := []) (by kernel_rfl) ((op_move rfl).cast (by kernel_rfl)) ?_
  refine Walk.yes (val := (.d (.lit (.int .i64 ((wd : Nat) : Int))))) (bl := []) (by kernel_rfl) ((op_move rfl).cast (by kernel_rfl)) ?_
  refine Walk.yes (val := (.own 0)) (bl := [(0, (.arr 5 1 ((l ++ List.replicate wd 0).length) (bytesD (l ++ List.replicate wd 0))))]) (by kernel_rfl) ((use_frozen [] [0] [] (grown_c l wd (by first | omega | assumption | (simp; omega))) rfl (first := []) (cap := []) (by kernel_rfl) (fun args w => Try.call28 args w) (by kernel_rfl) trivial (by kernel_rfl) (post' := [(.arr 5 1 ((l ++ List.replicate wd 0).length) (bytesD (l ++ List.replicate wd 0)))]) (by kernel_rfl) (by kernel_rfl)).castB (by kernel_rfl)) ?_
  refine Walk.yes (val := (.own 0)) (bl := []) (by kernel_rfl) ((op_move rfl).cast (by kernel_rfl)) ?_
  refine Walk.to_ (st' := ⟨[(.d (.sl l.length (bytesD l))), (.d (.lit (.int .i64 ((wd : Nat) : Int)))), (.d (.lit (.int .i64 ((n : Nat) : Int)))), (.tup []), (.tup []), (.tup []), (.d .nil), (.d (.lit (.int .i64 0))), (.own 0), (.d (.lit (.int .i64 ((wd : Nat) : Int)))), (.d (.lit (.bool false))), (.d (.lit (.bool false))), (.d (.lit (.int .i64 ((wd : Nat) : Int)))), (.d (.lit (.bool false))), (.d (.lit (.bool false))), (.d (.lit (.int .i64 ((n : Nat) : Int)))), (.d (.lit (.bool false))), (.d (.lit (.bool false))), (.d (.lit (.int .i64 ((n : Nat) : Int)))), (.d (.lit (.int .u64 ((n : Nat) : Int)))), (.d (.lit (.int .i64 ((wd : Nat) : Int)))), (.d (.lit (.int .i64 ((8 * wd : Nat) : Int)))), (.d (.lit (.int .u64 ((n / 256 ^ wd : Nat) : Int)))), (.d (.lit (.bool false))), (.d (.lit (.bool false))), (.d (.sl l.length (bytesD l))), (.d (.lit (.int .i64 ((wd : Nat) : Int)))), (.own 0), (.tup []), (.tup []), (.tup []), (.tup []), (.tup []), (.tup [])], [(.arr 5 1 ((l ++ List.replicate wd 0).length) (bytesD (l ++ List.replicate wd 0)))], 0⟩) (by kernel_rfl) ?_
  refine Walk.nil ?_
  refine Then.normal ?_
  refine AWP.seq ?_
  refine AWP.text ?_
  refine Walk.yes (val := (.own 0)) (bl := []) (by kernel_rfl) ((op_move rfl).cast (by kernel_rfl)) ?_
  refine Walk.yes (val := (.d (.lit (.int .i64 ((wd : Nat) : Int))))) (bl := []) (by kernel_rfl) ((op_move rfl).cast (by kernel_rfl)) ?_
  refine Walk.yes (val := (.d (.lit (.int .i64 ((n : Nat) : Int))))) (bl := []) (by kernel_rfl) ((op_move rfl).cast (by kernel_rfl)) ?_
  refine Walk.yes (val := (.d (.lit (.int .u64 ((n : Nat) : Int))))) (bl := []) (by kernel_rfl) ((op_convert rfl (a1 := (.int .i64 ((n : Nat) : Int))) (by kernel_rfl) (run_conv (ds := .int .i64) (k' := .u64) (by kernel_rfl) (by kernel_rfl))).cast (lit_u64 rfl (by omega) (by omega))) ?_
  refine Walk.yes (val := (.tup [])) (bl := [(0, (.arr 5 1 ((l ++ List.replicate wd 0).length) (bytesD (layn (l ++ List.replicate wd 0) ((l ++ List.replicate wd 0).length) wd n))))]) (by kernel_rfl) ((use_frozen [0] [] [] (lay_own (l ++ List.replicate wd 0) wd n (by simp) (by simp; omega) (by omega)) rfl (first := []) (cap := []) (by kernel_rfl) (fun args w => Try.call29 args w) (by kernel_rfl) ⟨rfl, trivial⟩ (by kernel_rfl) (post' := [(.arr 5 1 ((l ++ List.replicate wd 0).length) (bytesD (layn (l ++ List.replicate wd 0) ((l ++ List.replicate wd 0).length) wd n)))]) (by kernel_rfl) (by kernel_rfl)).castB (by kernel_rfl)) ?_
  refine Walk.to_ (st' := ⟨[(.d (.sl l.length (bytesD l))), (.d (.lit (.int .i64 ((wd : Nat) : Int)))), (.d (.lit (.int .i64 ((n : Nat) : Int)))), (.tup []), (.tup []), (.tup []), (.d .nil), (.d (.lit (.int .i64 0))), (.own 0), (.d (.lit (.int .i64 ((wd : Nat) : Int)))), (.d (.lit (.bool false))), (.d (.lit (.bool false))), (.d (.lit (.int .i64 ((wd : Nat) : Int)))), (.d (.lit (.bool false))), (.d (.lit (.bool false))), (.d (.lit (.int .i64 ((n : Nat) : Int)))), (.d (.lit (.bool false))), (.d (.lit (.bool false))), (.d (.lit (.int .i64 ((n : Nat) : Int)))), (.d (.lit (.int .u64 ((n : Nat) : Int)))), (.d (.lit (.int .i64 ((wd : Nat) : Int)))), (.d (.lit (.int .i64 ((8 * wd : Nat) : Int)))), (.d (.lit (.int .u64 ((n / 256 ^ wd : Nat) : Int)))), (.d (.lit (.bool false))), (.d (.lit (.bool false))), (.d (.sl l.length (bytesD l))), (.d (.lit (.int .i64 ((wd : Nat) : Int)))), (.own 0), (.own 0), (.d (.lit (.int .i64 ((wd : Nat) : Int)))), (.d (.lit (.int .i64 ((n : Nat) : Int)))), (.d (.lit (.int .u64 ((n : Nat) : Int)))), (.tup []), (.tup [])], [(.arr 5 1 ((l ++ List.replicate wd 0).length) (bytesD (layn (l ++ List.replicate wd 0) ((l ++ List.replicate wd 0).length) wd n)))], 0⟩) (by kernel_rfl) ?_
  refine Walk.nil ?_
  refine Then.normal ?_
  refine AWP.seq ?_
  refine AWP.text ?_
  refine Walk.yes (val := (.own 0)) (bl := []) (by kernel_rfl) ((op_move rfl).cast (by kernel_rfl)) ?_
  refine Walk.yes (val := (.own 0)) (bl := []) (by kernel_rfl) ((op_move rfl).cast (by kernel_rfl)) ?_
  refine Walk.yes (val := (.d (.lit (.int .i64 0)))) (bl := []) (by kernel_rfl) ((op_move rfl).cast (by kernel_rfl)) ?_
  refine Walk.to_ (st' := ⟨[(.d (.sl l.length (bytesD l))), (.d (.lit (.int .i64 ((wd : Nat) : Int)))), (.d (.lit (.int .i64 ((n : Nat) : Int)))), (.tup []), (.tup []), (.tup []), (.own 0), (.d (.lit (.int .i64 0))), (.own 0), (.d (.lit (.int .i64 ((wd : Nat) : Int)))), (.d (.lit (.bool false))), (.d (.lit (.bool false))), (.d (.lit (.int .i64 ((wd : Nat) : Int)))), (.d (.lit (.bool false))), (.d (.lit (.bool false))), (.d (.lit (.int .i64 ((n : Nat) : Int)))), (.d (.lit (.bool false))), (.d (.lit (.bool false))), (.d (.lit (.int .i64 ((n : Nat) : Int)))), (.d (.lit (.int .u64 ((n : Nat) : Int)))), (.d (.lit (.int .i64 ((wd : Nat) : Int)))), (.d (.lit (.int .i64 ((8 * wd : Nat) : Int)))), (.d (.lit (.int .u64 ((n / 256 ^ wd : Nat) : Int)))), (.d (.lit (.bool false))), (.d (.lit (.bool false))), (.d (.sl l.length (bytesD l))), (.d (.lit (.int .i64 ((wd : Nat) : Int)))), (.own 0), (.own 0), (.d (.lit (.int .i64 ((wd : Nat) : Int)))), (.d (.lit (.int .i64 ((n : Nat) : Int)))), (.d (.lit (.int .u64 ((n : Nat) : Int)))), (.tup []), (.own 0)], [(.arr 5 1 ((l ++ List.replicate wd 0).length) (bytesD (layn (l ++ List.replicate wd 0) ((l ++ List.replicate wd 0).length) wd n)))], 0⟩) (by kernel_rfl) ?_
  refine Walk.nil ?_
  refine Then.normal ?_
  refine AWP.ret ?_
  exact ret_intro [0] [(.own 0), (.d (.lit (.int .i64 0)))] (by kernel_rfl) (by kernel_rfl) (⟨arr_ren (by simp [beb_length]) (by rw [layn_grown]), trivial⟩) (by kernel_rfl) ⟨Nat.le_of_ble_eq_true rfl, rfl⟩
set_option maxRecDepth 20000 in
set_option maxHeartbeats 4000000 in
theorem word_c (l : List UInt8) (u : Nat) (hu : u < 18446744073709551616) (hl : l.length ≤ 900000000) : GCall Try.prog 12 [(.d (.sl l.length (bytesD l))), (.d (.lit (.int .u64 ((u : Nat) : Int))))] [] (.own 0) [(.arr 5 1 ((l ++ beb 8 u).length) (bytesD (l ++ beb 8 u)))] := by
  refine GCall.of_body (n := 12) (rs := [(.tmp 4)]) Try.func12 rfl rfl rfl ?_
  refine AWP.to_ (st' := ⟨[(.d (.sl l.length (bytesD l))), (.d (.lit (.int .u64 ((u : Nat) : Int)))), (.tup []), (.tup []), (.tup []), (.tup []), (.tup []), (.tup []), (.tup []), (.tup []), (.tup []), (.tup [])], [], 0⟩) (by kernel_rfl) ?_
  refine AWP.seq ?_
  refine AWP.text ?_
  refine Walk.yes (val := (.d .nil)) (bl := []) (by kernel_rfl) ((op_move rfl).cast (by kernel_rfl)) ?_
  refine Walk.to_ (st' := ⟨[(.d (.sl l.length (bytesD l))), (.d (.lit (.int .u64 ((u : Nat) : Int)))), (.tup []), (.tup []), (.d .nil), (.tup []), (.tup []), (.tup []), (.tup []), (.tup []), (.tup []), (.tup [])], [], 0⟩) (by kernel_rfl) ?_
  refine Walk.nil ?_
  refine Then.normal ?_
  refine AWP.seq ?_
  refine AWP.text ?_
  refine Walk.yes (val := (.d (.sl l.length (bytesD l)))) (bl := []) (by kernel_rfl) ((op_move rfl).cast (by kernel_rfl)) ?_
  refine Walk.yes (val := (.own 0)) (bl := [(0, (.arr 5 1 ((l ++ List.replicate 8 0).length) (bytesD (l ++ List.replicate 8 0))))]) (by kernel_rfl) ((use_frozen [] [0] [] (grown_c l 8 (by first | omega | assumption | (simp; omega))) rfl (first := []) (cap := []) (by kernel_rfl) (fun args w => Try.call28 args w) (by kernel_rfl) trivial (by kernel_rfl) (post' := [(.arr 5 1 ((l ++ List.replicate 8 0).length) (bytesD (l ++ List.replicate 8 0)))]) (by kernel_rfl) (by kernel_rfl)).castB (by kernel_rfl)) ?_
  refine Walk.yes (val := (.own 0)) (bl := []) (by kernel_rfl) ((op_move rfl).cast (by kernel_rfl)) ?_
  refine Walk.to_ (st' := ⟨[(.d (.sl l.length (bytesD l))), (.d (.lit (.int .u64 ((u : Nat) : Int)))), (.tup []), (.tup []), (.d .nil), (.own 0), (.d (.sl l.length (bytesD l))), (.own 0), (.tup []), (.tup []), (.tup []), (.tup [])], [(.arr 5 1 ((l ++ List.replicate 8 0).length) (bytesD (l ++ List.replicate 8 0)))], 0⟩) (by kernel_rfl) ?_
  refine Walk.nil ?_
  refine Then.normal ?_
  refine AWP.seq ?_
  refine AWP.text ?_
  refine Walk.yes (val := (.own 0)) (bl := []) (by kernel_rfl) ((op_move rfl).cast (by kernel_rfl)) ?_
  refine Walk.yes (val := (.d (.lit (.int .u64 ((u : Nat) : Int))))) (bl := []) (by kernel_rfl) ((op_move rfl).cast (by kernel_rfl)) ?_
  refine Walk.yes (val := (.tup [])) (bl := [(0, (.arr 5 1 ((l ++ List.replicate 8 0).length) (bytesD (layn (l ++ List.replicate 8 0) ((l ++ List.replicate 8 0).length) 8 u))))]) (by kernel_rfl) ((use_frozen [0] [] [] (lay_own (l ++ List.replicate 8 0) 8 u (by simp) (by simp; omega) (by omega)) rfl (first := []) (cap := []) (by kernel_rfl) (fun args w => Try.call29 args w) (by kernel_rfl) ⟨rfl, trivial⟩ (by kernel_rfl) (post' := [(.arr 5 1 ((l ++ List.replicate 8 0).length) (bytesD (layn (l ++ List.replicate 8 0) ((l ++ List.replicate 8 0).length) 8 u)))]) (by kernel_rfl) (by kernel_rfl)).castB (by kernel_rfl)) ?_
  refine Walk.to_ (st' := ⟨[(.d (.sl l.length (bytesD l))), (.d (.lit (.int .u64 ((u : Nat) : Int)))), (.tup []), (.tup []), (.d .nil), (.own 0), (.d (.sl l.length (bytesD l))), (.own 0), (.own 0), (.d (.lit (.int .u64 ((u : Nat) : Int)))), (.tup []), (.tup [])], [(.arr 5 1 ((l ++ List.replicate 8 0).length) (bytesD (layn (l ++ List.replicate 8 0) ((l ++ List.replicate 8 0).length) 8 u)))], 0⟩) (by kernel_rfl) ?_
  refine Walk.nil ?_
  refine Then.normal ?_
  refine AWP.seq ?_
  refine AWP.text ?_
  refine Walk.yes (val := (.own 0)) (bl := []) (by kernel_rfl) ((op_move rfl).cast (by kernel_rfl)) ?_
  refine Walk.yes (val := (.own 0)) (bl := []) (by kernel_rfl) ((op_move rfl).cast (by kernel_rfl)) ?_
  refine Walk.to_ (st' := ⟨[(.d (.sl l.length (bytesD l))), (.d (.lit (.int .u64 ((u : Nat) : Int)))), (.tup []), (.tup []), (.own 0), (.own 0), (.d (.sl l.length (bytesD l))), (.own 0), (.own 0), (.d (.lit (.int .u64 ((u : Nat) : Int)))), (.tup []), (.own 0)], [(.arr 5 1 ((l ++ List.replicate 8 0).length) (bytesD (layn (l ++ List.replicate 8 0) ((l ++ List.replicate 8 0).length) 8 u)))], 0⟩) (by kernel_rfl) ?_
  refine Walk.nil ?_
  refine Then.normal ?_
  refine AWP.ret ?_
  exact ret_intro [0] [(.own 0)] (by kernel_rfl) (by kernel_rfl) (⟨arr_ren (by simp [beb_length]) (by rw [layn_grown]), trivial⟩) (by kernel_rfl) ⟨Nat.le_of_ble_eq_true rfl, rfl⟩
end Go.Proofs.Ytfklpnaklhcobaa.K
